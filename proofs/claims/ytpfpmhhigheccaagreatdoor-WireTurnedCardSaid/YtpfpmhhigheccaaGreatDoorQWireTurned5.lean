/- Texts that the proof of this statement needs, merged and shortened. -/
import Derived.Test.YtpfpmhhigheccaaGreatDoorQWireTurned4
open Go renaming Value->ix,World->G1,TypeId->Iw,Operand->JN,Program->Kr,sizeOf->KO,FuncId->Lh,Oper->Ln,IntKind->Lp
open List renaming length_append->ka,length_singleton->ln,append_assoc->G0,mem_singleton->G6,take_of_length_le->G9,not_mem_nil->GS,mem_cons->GT,all_cons->GU,take_length->I1,getElem?_eq_some_iff->I7,length_map->Ie,length_take->Il,take_append_of_le_length->Im,map_cons->Ip,mem_of_mem_take->It,flatMap_singleton->ID,nil_append->IL,append_nil->IM,flatMap_append->IP,mem_map->IR,all_nil->IS,getElem?_append_left->IU,map_toArray->J1,length_cons->J2,getElem_map->J3,mem_append->Jc,findIdx?_eq_some_iff_getElem->Jt,map_nil->Jy,foldl_append->Jz,eq_nil_of_length_eq_zero->JJ,map_append->JK,getElem?_append_right->JR,getElem_set_self->K2,contains_iff_mem->K4,take_set_of_le->Kf,getElem_range->Kg,getElem?_take->Kh,getElem_take->Kv,any_eq_false->Kw,getElem_mem->KC,cons_append->KD,foldl_cons->KI,map->KM,drop_zero->KN,range->Lb
open Go.VL.WC renaming region->G2,seq->GV,block->J8,skip->K7,exit->KG,ret->KU,loop->L4,cond->L5,still->Lr
open Go.VL.Ret renaming enter->G4
open Go.VL.RV renaming move->G5,assign->GX,fieldAddr->I9,build->Iv,load->IZ,extract->Je,indexAddr->JF,len->KA,add->KB,eql->KV,sub->Li,lss->Lj,gtr->Lk
open UInt8 renaming ofNat->G7,toNat_ofNat'->IB,toNat->JY
open Go.VL.Upd renaming setRow->G8,trans->GZ,mono->IE,set->IW,refl->J5,alloc->KH
open Go.VL.RowT renaming upd->GR,nil->K8
open Go.VL.WL renaming nil->GW,off->IH,call->Jk,val->Kz,push->Lx
open Go.VL.Ext renaming refl->GY
open Go.Proofs.Tryz renaming zeroValue32->I0,sizeOf32->I4,underlying24->I6,sizeOf91->Ic,prog->Ig,underlying5->Ii,underlying22->Ij,sizeOf30->Ik,underlying30->IA,zeroValue91->IG,isAgg32->IQ,sizeOf27->IT,isAgg30->IV,underlying3->J7,underlying27->Jg,isAgg91->Jh,zeroValue30->Jq,sizeOf4->Jw,sizeOf25->JM,zeroValue27->JT,zeroValue25->JU,underlying89->Ki,underlying28->Kj,underlying25->Kk,sizeOf5->Kl,isAgg25->Km,call26->Ko,call23->Kp,underlying9->KE,sizeOf24->KF,call34->KP,call24->KQ,call22->KR,isAgg27->KT,sizeOf28->Lc,call27->Ld,underlying68->Ll,call66->Lv,call29->Lw
open Bool renaming and_eq_true->I2,not_eq_true'->Iq,or_eq_false_iff->Iu,not_eq_false'->Jp,or_eq_true->JL,false_or->JW,and_eq_false_iff->K5,true_or->KX
open Nat renaming zero_le->I3,le_refl->I5,two_pow_pos->If,pow_le_pow_right->Ih,lt_of_lt_of_le->Io,or_lt_two_pow->IF,pow_lt_pow_right->IJ,mul_one->IK,not_lt_zero->IN,div_eq_of_lt->J6,mod_lt->Ja,div_eq_zero_iff_lt->Jb,div_lt_of_lt_mul->Ji,xor_lt_two_pow->Jr,lt_of_le_of_lt->Js,pow_succ->JB,mul_comm->JC,le_trans->JD,mod_eq_of_lt->JH,and_two_pow_sub_one_eq_mod->JI,min_eq_left->JO,two_pow_add_eq_or_of_lt->JQ,lt_succ_iff_lt_or_eq->JX,zero_add->JZ,div_div_eq_div_mul->K0,blt->K1,le_of_ble_eq_true->Ka,add_sub_cancel->Ku,mul_le_mul->KS,mul_assoc->KW,xor_comm->KZ,pow_zero->L0,mul_zero->L1,add_zero->L2,pow_add->L7,or_comm->L8,one_mul->L9,div_one->La,ble->Lt,beq->Lu
open Go.VL.WH renaming one->I8,leaf->II,done->JS
open Go.VL renaming Upd->Ia,Rng->IY,Free->Jj,Ret->Jl,Ext->Jo,Ints->JE,RowT->JG,BlkO->K6,NewV->Ke,Elem->LA
open Go.Value renaming oneCell'->Ib,ownBlock->Jf,bool->Kd,int->Kq
open Int renaming toNat_natCast->Ir,toNat_of_nonneg->Jn
open Classical renaming byContradiction->Is
open Go.Proofs.YtpfpmhhigheccaaGreatDoor renaming RightD->Iy,telR->Ju,lstR->Jv,PSt->K9,RowsG->Ls
open Go.VL.Free renaming upd->Iz
open Go.Result renaming andThen_ok->IC
open Go.VL.Fit renaming i64->IX,u64->Jd,u8->Lz
open Go.VL.Sl renaming ext->J0
open Go.VL.BlkO renaming upd->J4,setRow->Kb
open Go.Sem renaming run_bind->J9
open Option.some renaming inj->Jm,injEq->Le
open Go.IntKind renaming u64->JA,signed->Kx,wrap->KJ,bits->KK,u8->Ly
open Go.VL.Rng renaming upd->JP
open Go.Value.slice renaming injEq->JV
open Go.Addr renaming add->Kc
open Go.Instr renaming buildSlice->Ky,fill->L3
open Prod.mk renaming inj->KL
open Array renaming range->KY
open Go.VL.QF renaming next->L6
open Go.Value.agg renaming inj->Lm
open List.cons renaming injEq->Lo
open Except.ok renaming inj->Lq
open Go.Builtin renaming zeroCells->LB,append_->LC
set_option maxRecDepth 10000
open Go.VL Go.Proofs Go.Proofs.Tryz
namespace Go.Proofs.YtpfpmhhigheccaaGreatDoor
theorem _root_.Go.VL.BlkO.ext{O:Nat->Nat}{w w':G1}{i b:Nat}{cs:Array ix}{E:Iw}(h:K6 O w i b cs E)(e:Jo w w'):K6 O w' i b cs E:=⟨by rw[e.block b (bu h.blk)];exact h.blk,h.tag⟩
theorem RowsG.upd{S:Nat->Prop}{B:Nat}{O O':Nat->Nat}{w0 w w':G1}{v:ix}{rows:List (List Nat)}(h:Ls w0.heap.size w v rows)(r:IY B O w0)(u:Ia S O w O' w'):Ls w0.heap.size w' v rows:=by
 obtain⟨vs,h1,h2,h3,h4⟩:=h;exact⟨vs,h1.upd (h2.free h1 (fun x _=>by simp) r) u,h2,h3,fun i hi=>⟨(h4 i hi).1.upd ((h4 i hi).2.free (h4 i hi).1 (fun x _=>by simp) r) u,(h4 i hi).2⟩⟩
theorem _root_.Go.VL.NewV.slU{S:Nat->Prop}{B:Nat}{O O':Nat->Nat}{w0 w w':G1}{v:ix}{l:List Nat}(h:Ke w0.heap.size v)(hs:Sl fp 1 w v l)(r:IY B O w0)(u:Ia S O w O' w'):Sl fp 1 w' v l:=hs.upd (h.free hs (fun x _=>by simp) r) u
def cS(l:List Int):Nat:=l.foldl (fun b c=>b ||| 2^c.toNat) 0
theorem mo{l:List Int}(h:∀c∈l,0<=c/\c<=35):cS l<2^36:=by
 have a0:∀(l:List Int) (b:Nat),(∀c∈l,0<=c/\c<=35)->b<2^36->l.foldl (fun b c=>b ||| 2^c.toNat) b<2^36:=fun l=>by
  induction l with
  |nil=>exact fun b _ hb=>hb
  |cons c l ih=>exact fun b h hb=>ih _ (fun x hx=>h x (by simp[hx])) (IF hb (IJ zd (by have:=h c (by simp);omega)))
 exact a0 l 0 h zd
theorem yL{l:List Int}{i:Nat}(h:i<l.length):cS (l.take (i+1))=cS (l.take i) ||| 2^(nth l i).toNat:=by
 unfold cS;rw[aH h,Jz];rfl
theorem mn(l:List Int)(sv:ix)(w:G1)(h:Sl encI 1 w sv l)(hr:∀c∈l,0<=c/\c<=35):Jl Ig 34 [sv] w fun v w'=>v=.int .u64 ((cS l:Nat):Int)/\w'=w:=by
 have hl:=h.len_le;have a1:JA.max=18446744073709551615:=rfl;refine G4 func34 ntmps34 rfl rfl ?_;refine zh ?_;refine zlp (fun z:Nat=>[(3,.int .u64 ((cS (l.take z):Nat):Int)),(6,sv),(7,nI l.length),(8,nI z)]) (fun z=>w) (fun z=>z<=l.length) (fun z=>l.length-z) 0 (I3 _) ?_;intro i hi;refine zh ?_;refine zC ?_ ?_
 ·intro a0;replace a0:i<l.length:=dT a0;have hc:=hr _ (aQ a0);have m1:w.cell? (adr sv 1 i)=some (nI (nth l i)):=by have:=h.cell (i:=i) (j:=0) a0 rfl;rwa[aB]at this
  obtain⟨c,a3⟩:∃c:Nat,nth l i=(c:Int):=⟨(nth l i).toNat,zo⟩
  have hs:=yL a0;rw[a3]at m1 hs;simp only[Ir]at hs;have a7:cS (l.take i)<2^36:=mo fun x hx=>hr x (It hx)
  have a6:2^c<=2^35:=Ih zd zo;have a5:(2^35:Nat)=34359738368:=zd;have a4:(2^36:Nat)=68719476736:=zd;refine zh ?_;refine zv (uC (a:=1) (b:=c) rfl rfl rfl rfl (by show _<=64;omega) (by show _<=(18446744073709551615:Int);omega)) ?_;rw[L9];refine zvH (po (a:=cS (l.take i)) (b:=2^c) rfl rfl rfl rfl (by show _<=(18446744073709551615:Int);omega) (by show _<=(18446744073709551615:Int);omega)) ?_;rw[<-hs];refine zxd (i+1) (a0)
 intro a2;obtain rfl:i=l.length:=dF a2;rw[I1];refine zh ?_;refine af rfl rfl (⟨rfl,rfl⟩)
def stM(se:Bool)(ts:List Nd):Option (List (List Nat)×List Nat):=if dr ts=0 then Cq (cP se (qI ts)) (dG (qI ts))else none
def Cls(cl:Nat->Nat)(d:List (List Nat)×List Nat):Prop:=∀p q,p<d.1.length->q<d.1.length->(cl p=cl q↔Alike (nxD d.1) (nth d.2) p q)
def PostSt(B:Nat)(w:G1)(v:ix):Option (List (List Nat)×List Nat)->Prop
 |some d=>∃cl nv tv,v=.tuple #[.agg #[nv,tv],nI 0]/\nv.oneCell'=true/\tv.oneCell'=true/\Iy d.1 d.2/\Cls cl d/\Ls B w nv (cK cl d.1 d.2).1/\Sl fp 1 w tv (cK cl d.1 d.2).2/\Ke B tv
 |none=>∃e:Int,e≠0/\v=.tuple #[.agg #[nS,nS],nI e]
theorem zA{ts:List Nd}(h:dr ts=0):ts.length<=40/\(∀t∈ts,bK t=true)/\1+aV ts<=1000:=by
 unfold dr at h
 split at h
 ·cases h
 split at h
 ·cases h
 rename_i h1 h2
 split at h
 ·cases h
 rename_i h3;refine⟨zo,fun t ht=>?_,zo⟩;have:ts.any (fun t=>!bK t)=false:=by simpa using h2
 have:=Kw.1 this t ht;simpa using this
set_option maxHeartbeats 1000000 in
theorem oq(se:Bool)(ts:List Nd)(xs:List N3)(sv:ix)(w:G1)(hs:Sl aX 3 w sv xs)(hl:ts.length=xs.length)(hk:∀i,i<xs.length->Nt (fun _=>0) w (nth ts i) (nth xs i)):
  Jl Ig 35 [.bool se,sv] w fun v w'=>Jo w w'/\PostSt w.heap.size w' v (stM se ts):=by
 refine G4 func35 ntmps35 rfl rfl ?_;refine zh ?_
 refine ar (aw w) 1 zo (IG _) rfl ?_;intro cb w1 O1 c6 e2 e5 d4;refine zh ?_
 refine zc call56 (Dd se ts xs sv w1 (hs.ext d4) hl (fun i hi=>(hk i hi).ext d4)) ?_;rintro _ w2 ⟨nb,rfl,e',e6⟩;have c8:Ia (fun _=>False) O1 w1 O1 w2:=aa (fun h=>h) O1 e';have a2:=c6.upd c8 zd (fun h=>h);have e4:=e5.upd c8;have b2:=e2.trans (c8.mono (fun _ h=>h.elim) zd);refine zh ?_
 by_cases he:dr ts=0
 ·have hD:=e6 he;obtain⟨f5,a4,f4⟩:=zA he;obtain⟨a',a3⟩:=je a4;obtain⟨d5,h0⟩:=Dc ts;have d9:=oD a' a3;have d':∀q,(qI ts).en q<=40:=fun q=>by have:=zy ts q;omega
  have b6:stM se ts=Cq (cP se (qI ts)) (dG (qI ts)):=by unfold stM;rw[if_pos he]
  have d8:zz nb (dr ts)=nP nb:=by unfold zz;rw[if_pos he]
  rw[d8,he,b6];refine zFH rfl rfl ?_;have hC:=Ax nb se (qI ts) w2 hD d5 h0 (Db ts) zo d';generalize hd:Cq (cP se (qI ts)) (dG (qI ts))=D at hC b6 ⊢;refine zc call57 (hC) ?_;rintro v w3 ⟨e9,hP⟩;have c7:Ia (fun _=>False) O1 w2 O1 w3:=aa (fun h=>h) O1 e9;have b1:=a2.upd c7 zd (fun h=>h);have d3:=e4.upd c7;have a8:=b2.trans (c7.mono (fun _ h=>h.elim) zd)
  cases D with
  |none=>
   obtain rfl:=hP;refine zh ?_;refine ar d3 2 zo (IG _) rfl ?_;intro db w4 O4 a0 b8 e3 e8;refine zsa (us:=#[nS,nS]) a0 (Ic _) ?_;have b7:Ia (fun j=>j=2) O4 w4 O4 (w4.setRow db #[nS,nS]):=G8 zd a0.tag rfl;have a6:=(b1.upd b8 zd zd).upd b7 zd zd;have c':=(a8.mono (S':=fun q=>q=1\/q=2) (fun _ h=>.inl h) zd).trans ((b8.trans b7).mono (fun _ h=>.inr h) zd);generalize w4.setRow db #[nS,nS]=w5 at *;refine zh ?_;refine zTH rfl rfl ?_;refine zvH (aE DK (IG _) rfl (by first|rfl|(simp only[GU,IS];rfl)) rfl rfl) ?_;refine zsa (us:=#[nS,nS]) a6 (Ic _) ?_;have b0:=a6.setRow (us:=#[nS,nS]);have a7:Ia (fun j=>j=1) O4 w5 O4 (w5.setRow cb #[nS,nS]):=G8 zd a6.tag rfl;refine zh ?_;refine aT rfl rfl rfl (b0.cellsAdd) (Jh _) (Ic _) (⟨(c'.trans (a7.mono (fun _ h=>.inl h) zd)).ext,7,zd,rfl⟩)
  |some d=>
   obtain⟨nv,tv,rfl,o1,o2,d7,d6⟩:=hP;obtain⟨S,f3⟩:=sx hd;have d1:=f3.right;refine zh ?_;refine ar (aw w3) 2 zo (IG _) rfl ?_;intro db w4 O4 a0 b8 e3 e8;refine zsb (us:=#[nv,tv]) a0 (Ic _) (by simp only[GU,o1,o2];rfl) ?_;have c5:=a0.setRow (us:=#[nv,tv]);have b7:Ia (fun j=>j=2) O4 w4 O4 (w4.setRow db #[nv,tv]):=G8 zd a0.tag rfl;have a1:Jo w3 (w4.setRow db #[nv,tv]):=(b8.trans b7).ext;generalize w4.setRow db #[nv,tv]=w5 at *;refine zh ?_;refine zFH rfl rfl ?_;refine zv (ah (us:=[nv,tv]) c5.cellsAdd (Jh _) (Ic _) rfl) ?_;refine zc call58 (tR nv tv d.1 d.2 w5 (d7.ext a1) (d6.ext a1) d1) ?_;rintro _ w6 ⟨cl,b5,b4,rfl,p1,p2,e7,e0,b',b9,a9⟩;have b3:=a1.trans e7;have a5:=b1.ext b3;have e1:Ia (fun q=>q=1) O1 w3 O1 w6:=aa zd O1 b3;have c9:=a8.trans e1;have d2:=d3.ext a1;refine zsb (us:=#[b5,b4]) a5 (Ic _) (by simp only[GU,p1,p2];rfl) ?_;have b0:=a5.setRow (us:=#[b5,b4]);have a7:Ia (fun j=>j=1) O1 w6 O1 (w6.setRow cb #[b5,b4]):=G8 zd a5.tag rfl;have d0:w.heap.size<=w5.heap.size:=JD a8.size a1.size;refine zh ?_;refine aT rfl rfl rfl (b0.cellsAdd) (Jh _) (Ic _) (⟨(c9.trans a7).ext,cl,b5,b4,rfl,p1,p2,d1,e0,(b'.upd d2 a7).mono d0,a9.slU b9 d2 a7,a9.mono d0⟩)
 have b6:stM se ts=none:=by unfold stM;rw[if_neg he]
 rw[b6];refine zTH rfl ((by simpa using he)) ?_;refine zvH (aE DK (IG _) rfl (by first|rfl|(simp only[GU,IS];rfl)) rfl rfl) ?_;refine zsa (us:=#[nS,nS]) a2 (Ic _) ?_;have b0:=a2.setRow (us:=#[nS,nS]);have a7:Ia (fun j=>j=1) O1 w2 O1 (w2.setRow cb #[nS,nS]):=G8 zd a2.tag rfl;refine zh ?_;refine aT rfl rfl rfl (b0.cellsAdd) (Jh _) (Ic _) (⟨(b2.trans a7).ext,dr ts,he,rfl⟩)
theorem Gq:cL Ig 30 #[(0,5),(5,1)]:=⟨_,IA,fun w=>by kernel_rfl⟩
def PartV(w:G1)(cs:List ix)(p:K9)(tl:List Nat):Prop:=
 ∃uv bv kv nv tv,cs=[nI p.width,uv,bv,kv,nv,tv]/\JE w uv p.usual/\JE w bv p.base/\JE w kv p.check/\JE w nv p.next/\Sl fp 1 w tv tl
theorem PartV.ext{w w':G1}{cs:List ix}{p:K9}{tl:List Nat}(h:PartV w cs p tl)(e:Jo w w'):PartV w' cs p tl:=by
 obtain⟨uv,bv,kv,nv,tv,h0,h1,h2,h3,h4,h5⟩:=h;exact⟨uv,bv,kv,nv,tv,h0,h1.ext e,h2.ext e,h3.ext e,h4.ext e,h5.ext e⟩
def DM(B:Nat)(cs:List ix):Prop:=∀v∈cs,Ke B v
theorem _root_.Go.VL.NewV.slI{S:Nat->Prop}{B:Nat}{O O':Nat->Nat}{w0 w w':G1}{v:ix}{l:List Int}(h:Ke w0.heap.size v)(hs:JE w v l)(r:IY B O w0)(u:Ia S O w O' w'):JE w' v l:=hs.upd (h.free hs (fun x _=>by simp) r) u
theorem PartV.upd{S:Nat->Prop}{B:Nat}{O O':Nat->Nat}{w0 w w':G1}{cs:List ix}{p:K9}{tl:List Nat}(h:PartV w cs p tl)(n:DM w0.heap.size cs)(r:IY B O w0)(u:Ia S O w O' w'):PartV w' cs p tl:=by
 obtain⟨uv,bv,kv,nv,tv,rfl,h1,h2,h3,h4,h5⟩:=h;exact⟨uv,bv,kv,nv,tv,rfl,(n uv (by simp)).slI h1 r u,(n bv (by simp)).slI h2 r u,(n kv (by simp)).slI h3 r u,(n nv (by simp)).slI h4 r u,(n tv (by simp)).slU h5 r u⟩
theorem PartV.one{w:G1}{cs:List ix}{p:K9}{tl:List Nat}(h:PartV w cs p tl):cs.length=6/\∀v∈cs,v.oneCell'=true:=by
 obtain⟨uv,bv,kv,nv,tv,rfl,h1,h2,h3,h4,h5⟩:=h;refine⟨rfl,fun v hv=>?_⟩;simp only[GT,GS,or_false]at hv
 rcases hv with rfl|rfl|rfl|rfl|rfl|rfl
 ·rfl
 ·exact h1.one
 ·exact h2.one
 ·exact h3.one
 ·exact h4.one
 exact h5.one
theorem RowsN.pack{w:G1}{v:ix}{rows:List (List Nat)}(h:RowsN w v rows):Rows w v (rows.map ints):=by
 obtain⟨vs,h1,h2,h3⟩:=h
 exact⟨vs,h1,by rw[Ie];exact h2,fun i hi=>by
  rw[Ie]at hi
  rw[ee hi];exact(h3 i hi).natIv⟩
def jG(g:List Nat)(many:Nat)(rows:List (List Nat)):List (List Int):=(rows.map (nN g many)).map ints
def dh(g:List Nat)(many:Nat)(rows:List (List Nat)):K9:=kI (many:Int) (jG g many rows)
theorem ox{g:List Nat}{many:Nat}(hg:GrpI g many){rows:List (List Nat)}{a0:List Nat}(hr:Iy rows a0):bO (many:Int) (jG g many rows)=false:=by
 have h1:=hg.pos;have h2:=hg.le;have h3:=hr.le;unfold bO;have hl:(jG g many rows).length=rows.length:=by simp[jG]
 rw[decide_eq_false zo,decide_eq_false zo,decide_eq_false zo];simp only[JW];refine Kw.2 fun r a1=>?_
 obtain⟨q,hq,rfl⟩:=IR.1 a1;obtain⟨o,ho,rfl⟩:=IR.1 hq;obtain⟨j,hj,rfl⟩:=GQ ho;obtain⟨r1,r2⟩:=hr.row j hj;unfold gU;rw[show(ints (nN g many (nth rows j))).length=many from by simp[lV]];have a2:inB 0 65535 (ints (nN g many (nth rows j)))=true:=si fun n hn=>by
  obtain⟨x,hx,rfl⟩:=IR.1 hn;unfold nN at hx;obtain⟨k,hk,rfl⟩:=IR.1 hx
  cases hf:g.findIdx? (· == k)with
  |none=>simp only[Option.getD_none];have:=r2 0 (zd);unfold nxD at *;omega
  |some q=>
   obtain⟨h1,_⟩:=Jt.1 hf;have a3:=hg.len;simp only[Option.getD_some];have:=r2 q zo;omega
 rw[a2];simp
theorem uT(g:List Nat)(many:Nat)(gv nv tv:ix)(rows:List (List Nat))(d4:List Nat)(w:G1)(hg:GrpI g many)(e':Sl aM 1 w gv g)(hn:RowsN w nv rows)(g0:Sl fp 1 w tv d4)(hr:Iy rows d4) 
  (hc:∀p,p<rows.length->∀i j,i<37->j<37->nth g i=nth g j->nth (nth rows p) i=nth (nth rows p) j) :
  Jl Ig 37 [gv,.agg #[nv,tv]] w fun v w'=>∃cs,v=.agg cs.toArray/\PartV w' cs (dh g many rows) d4/\DM w.heap.size cs/\Jo w w':=by
 have a4:=ox hg hr;refine G4 func37 ntmps37 rfl rfl ?_;refine zh ?_;refine aF (aw w) 1 zo rfl rfl ?_;intro db w1 O1 e4 g' h4 h9;refine ar h4 2 zo (Jq _) rfl ?_;intro cb w2 O2 e8 f8 b8 h8;have e3:=e4.upd f8 zd zd;have b6:Ia (fun q=>1<=q) (fun _=>0) w O2 w2:=(g'.mono (fun _ h=>zo) zd).trans (f8.mono (fun _ h=>zo) zd);have b7:=b6.ext;refine zh ?_;refine zv (ah (us:=[nv,tv]) e3.cellsAdd (Jh _) (Ic _) rfl) ?_;refine zc call65 (BC g many gv nv tv rows d4 w2 hg (e'.ext b7) (hn.ext b7) (g0.ext b7) hr hc) ?_;rintro _ w3 ⟨d8,a6,a5,rfl,o1,o2,o3,c9,a',a9,h5⟩;have d6:Ia (fun _=>False) O2 w2 O2 w3:=aa (fun h=>h) O2 h5;have e7:=e8.upd d6 zd (fun h=>h);have e9:=b6.trans (d6.mono (fun _ h=>h.elim) zd);have h3:=b8.upd d6;refine zh ?_;refine ar h3 3 zo (zeroValue127 _) rfl ?_;intro nb w4 O4 b3 g8 h2 h7;refine zsb (us:=#[d8,a6,a5]) b3 (sizeOf127 _) (by simp only[GU,o1,o2,o3];rfl) ?_;have b2:=b3.setRow (us:=#[d8,a6,a5]);have f7:Ia (fun j=>j=3) O4 w4 O4 (w4.setRow nb #[d8,a6,a5]):=G8 zd b3.tag rfl;have a2:=g8.trans f7;have g9:=(d6.mono (S':=fun q=>q=3) (fun _ h=>h.elim) zd).trans a2;have e6:=e7.upd a2 zd zd;have g6:=c9.upd b8 a2;have f':=a9.slU a' b8 a2;have h1:=h2.upd f7;have b5:=e9.trans (a2.mono (fun _ h=>zo) zd);generalize w4.setRow nb #[d8,a6,a5]=w5 at *;have h6:(rows.map (nN g many)).length=rows.length:=by simp
 refine zh ?_;have d1:w5.drew.cell? (nA nb 1)=some a6:=b2.cell 1 rfl;refine aL (fun W=>W.cell? (nA nb 1)=some a6) 11 rfl zk ?_
 refine zrm 0 rfl d1 rfl ?_;refine zrf 2 rfl d1 rfl ?_
 refine zt 3 rfl d1 (fun w1 f9=>RV.ld f9 rfl) ?_;refine sQ (fun x:ix×ix×ix×ix×Int×Nat×(Nat->Nat)×World=>[(4,nP cb),(5,nP nb),(7,.pointer (some ⟨x.2.2.2.2.2.1,0,none⟩)),(21,.agg #[nI (dh g many rows).width,x.1,x.2.1,x.2.2.1,x.2.2.2.1]),(22,nI x.2.2.2.2.1)]) (fun x=>x.2.2.2.2.2.2.2) (fun x=>JE x.2.2.2.2.2.2.2 x.1 (dh g many rows).usual/\JE x.2.2.2.2.2.2.2 x.2.1 (dh g many rows).base/\JE x.2.2.2.2.2.2.2 x.2.2.1 (dh g many rows).check/\JE x.2.2.2.2.2.2.2 x.2.2.2.1 (dh g many rows).next/\Ke w5.heap.size x.1/\Ke w5.heap.size x.2.1/\Ke w5.heap.size x.2.2.1/\Ke w5.heap.size x.2.2.2.1/\K6 x.2.2.2.2.2.2.1 x.2.2.2.2.2.2.2 4 x.2.2.2.2.2.1 #[nI 0,nS,nS,nS,nS] 27/\Ia (fun q=>q=4) O4 w5 x.2.2.2.2.2.2.1 x.2.2.2.2.2.2.2/\IY w.heap.size x.2.2.2.2.2.2.1 x.2.2.2.2.2.2.2/\Jj x.2.2.2.2.2.2.1 x.2.2.2.2.2.2.2 x.1/\Jj x.2.2.2.2.2.2.1 x.2.2.2.2.2.2.2 x.2.1/\Jj x.2.2.2.2.2.2.1 x.2.2.2.2.2.2.2 x.2.2.1/\Jj x.2.2.2.2.2.2.1 x.2.2.2.2.2.2.2 x.2.2.2.1) #[true,true,true,true,true,true,true,true,true,false,false] 2 ?_ ?_
 ·intro hN;have hR:=h1.drew;have hU:Ia (fun q=>q=4) O4 w5 O4 w5.drew:=aa zd O4 (GY w5).drew;have k0:∀O W,Ia (fun q=>q=4) O4 w5 O W->W.cell? (nA nb 1)=some a6:=fun O W u=>(b2.upd u zd zd).cell 1 rfl
  have kg:∀O W,Ia (fun q=>q=4) O4 w5 O W->Sl encI 1 W gv (ints g):=fun O W u=>(e'.ext (b5.trans (u.mono (fun _ h=>zo) zd)).ext).natIv
  have kn:∀O W,Ia (fun q=>q=4) O4 w5 O W->Rows W a6 (jG g many rows):=fun O W u=>(c9.upd b8 (a2.mono (S':=fun q=>q=3\/q=4) (fun _ h=>.inl h) zd |>.trans (u.mono (fun _ h=>.inr h) zd))).rows.pack
  refine bG 1 8 zk rfl rfl ?_ ?_ 
  ·refine zc Lw (iq (ints g) gv _ (kg _ _ hU)) ?_;rintro _ wa ⟨rfl,c8⟩;rw[c8,hg.cnt];clear c8 wa;refine zh ?_
   refine ae (k0 _ _ hU) ?_;refine bG 4 8 zk rfl rfl ?_ ?_ 
   ·refine zc Lv (mz (many:Int) (jG g many rows) a6 _ (kn _ _ hU)) ?_;rintro _ wb ⟨pv,ep,rfl,fP,f5,d2,gP⟩;have gP:=gP a4;rw[a4,if_neg zd]at fP;obtain⟨b9,b',d3,c7,c6,c5,n1,n2,n3,n4⟩:=gP;obtain⟨uv,bv,kv,a0,pe,f1,f2,f3,f4⟩:=fP;subst pe;obtain⟨rfl,rfl,rfl,rfl,rfl⟩:_=b9/\uv=b'/\bv=d3/\kv=c7/\a0=c6:=by simpa using c5
    have fU:=hU.size;have g1:=n1.free f1 (fun x _=>by simp) hR;have g2:=n2.free f2 (fun x _=>by simp) hR;have g3:=n3.free f3 (fun x _=>by simp) hR;have g4:=n4.free f4 (fun x _=>by simp) hR;have n1:=n1.mono fU;have n2:=n2.mono fU;have n3:=n3.mono fU;have n4:=n4.mono fU;have a7:=fun O=>aa (S:=fun _=>False) (fun h=>h) O d2
    have hU:=GZ hU ((a7 _).mono (fun _ h=>h.elim) zd);have hR:=JP hR (a7 _)
    try have fC:=J4 fC (a7 _) zd (fun h=>h)
    refine zh ?_;refine zaf (k0 _ _ hU) fun zS=>?_
    refine zrm 5 rfl zS rfl ?_;refine zr 6 rfl zS (fun _=>Je rfl rfl) ?_
    refine zr 7 rfl zS (fun _=>Je rfl rfl) ?_;refine I8 8 zk rfl ?_
    refine ar hR 4 zd (JT _) rfl ?_;intro pb wc Oc fC a1 d0 a3;have hU:=GZ hU a1;have hR:=d0
    try have f1:=J0 f1 a3
    try have f2:=J0 f2 a3
    try have f3:=J0 f3 a3
    try have f4:=J0 f4 a3
    try have g1:=Iz g1 a1
    try have g2:=Iz g2 a1
    try have g3:=Iz g3 a1
    try have g4:=Iz g4 a1
    refine zh ?_;refine ae (k0 _ _ hU) ?_
    exact II (hN (uv,bv,kv,a0,ep,pb,_,_) ⟨f1,f2,f3,f4,n1,n2,n3,n4,fC,hU,hR,g1,g2,g3,g4⟩) zk ⟨rfl,rfl,rfl,rfl,rfl,trivial⟩ rfl
   refine ar hR 4 zd (JT _) rfl ?_;intro pb wc Oc fC a1 d0 a3;have hU:=GZ hU a1;have hR:=d0
   try have f1:=J0 f1 a3
   try have f2:=J0 f2 a3
   try have f3:=J0 f3 a3
   try have f4:=J0 f4 a3
   try have g1:=Iz g1 a1
   try have g2:=Iz g2 a1
   try have g3:=Iz g3 a1
   try have g4:=Iz g4 a1
   refine zh ?_;refine ae (k0 _ _ hU) ?_
   refine I8 4 zk rfl ?_;refine zc Lv (mz (many:Int) (jG g many rows) a6 _ (kn _ _ hU)) ?_
   rintro _ wb ⟨pv,ep,rfl,fP,f5,d2,gP⟩;have gP:=gP a4;rw[a4,if_neg zd]at fP;obtain⟨b9,b',d3,c7,c6,c5,n1,n2,n3,n4⟩:=gP;obtain⟨uv,bv,kv,a0,pe,f1,f2,f3,f4⟩:=fP;subst pe;obtain⟨rfl,rfl,rfl,rfl,rfl⟩:_=b9/\uv=b'/\bv=d3/\kv=c7/\a0=c6:=by simpa using c5
   have fU:=hU.size;have g1:=n1.free f1 (fun x _=>by simp) hR;have g2:=n2.free f2 (fun x _=>by simp) hR;have g3:=n3.free f3 (fun x _=>by simp) hR;have g4:=n4.free f4 (fun x _=>by simp) hR;have n1:=n1.mono fU;have n2:=n2.mono fU;have n3:=n3.mono fU;have n4:=n4.mono fU;have a7:=fun O=>aa (S:=fun _=>False) (fun h=>h) O d2
   have hU:=GZ hU ((a7 _).mono (fun _ h=>h.elim) zd);have hR:=JP hR (a7 _)
   try have fC:=J4 fC (a7 _) zd (fun h=>h)
   refine zh ?_;refine zaf (k0 _ _ hU) fun zS=>?_
   refine zrm 5 rfl zS rfl ?_;refine zr 6 rfl zS (fun _=>Je rfl rfl) ?_
   refine zr 7 rfl zS (fun _=>Je rfl rfl) ?_;exact II (hN (uv,bv,kv,a0,ep,pb,_,_) ⟨f1,f2,f3,f4,n1,n2,n3,n4,fC,hU,hR,g1,g2,g3,g4⟩) zk ⟨rfl,rfl,rfl,rfl,rfl,trivial⟩ rfl
  refine ar hR 4 zd (JT _) rfl ?_;intro pb wc Oc fC a1 d0 a3;have hU:=GZ hU a1;have hR:=d0
  try have f1:=J0 f1 a3
  try have f2:=J0 f2 a3
  try have f3:=J0 f3 a3
  try have f4:=J0 f4 a3
  try have g1:=Iz g1 a1
  try have g2:=Iz g2 a1
  try have g3:=Iz g3 a1
  try have g4:=Iz g4 a1
  refine zh ?_;refine ae (k0 _ _ hU) ?_
  refine I8 1 zk rfl ?_;refine zc Lw (iq (ints g) gv _ (kg _ _ hU)) ?_
  rintro _ wa ⟨rfl,c8⟩;rw[c8,hg.cnt];clear c8 wa;refine zh ?_;refine ae (k0 _ _ hU) ?_;refine I8 4 zk rfl ?_;refine zc Lv (mz (many:Int) (jG g many rows) a6 _ (kn _ _ hU)) ?_;rintro _ wb ⟨pv,ep,rfl,fP,f5,d2,gP⟩;have gP:=gP a4;rw[a4,if_neg zd]at fP;obtain⟨b9,b',d3,c7,c6,c5,n1,n2,n3,n4⟩:=gP;obtain⟨uv,bv,kv,a0,pe,f1,f2,f3,f4⟩:=fP;subst pe;obtain⟨rfl,rfl,rfl,rfl,rfl⟩:_=b9/\uv=b'/\bv=d3/\kv=c7/\a0=c6:=by simpa using c5
  have fU:=hU.size;have g1:=n1.free f1 (fun x _=>by simp) hR;have g2:=n2.free f2 (fun x _=>by simp) hR;have g3:=n3.free f3 (fun x _=>by simp) hR;have g4:=n4.free f4 (fun x _=>by simp) hR;have n1:=n1.mono fU;have n2:=n2.mono fU;have n3:=n3.mono fU;have n4:=n4.mono fU;have a7:=fun O=>aa (S:=fun _=>False) (fun h=>h) O d2
  have hU:=GZ hU ((a7 _).mono (fun _ h=>h.elim) zd);have hR:=JP hR (a7 _)
  try have fC:=J4 fC (a7 _) zd (fun h=>h)
  refine zh ?_;refine zaf (k0 _ _ hU) fun zS=>?_
  refine zrm 5 rfl zS rfl ?_;refine zr 6 rfl zS (fun _=>Je rfl rfl) ?_
  refine zr 7 rfl zS (fun _=>Je rfl rfl) ?_;exact II (hN (uv,bv,kv,a0,ep,pb,_,_) ⟨f1,f2,f3,f4,n1,n2,n3,n4,fC,hU,hR,g1,g2,g3,g4⟩) zk ⟨rfl,rfl,rfl,rfl,rfl,trivial⟩ rfl
 rintro⟨uv,bv,kv,a0,ep,pb,O7,w7⟩ ⟨f1,f2,f3,f4,n1,n2,n3,n4,b0,a8,h0,g1,g2,g3,g4⟩;dsimp only at f1 f2 f3 f4 n1 n2 n3 n4 b0 a8 h0 g1 g2 g3 g4 ⊢;have q1:=f1.one;have q2:=f2.one;have q3:=f3.one;have q4:=f4.one;have e1:=b2.upd a8 zd zd;have e5:=e6.upd a8 zd zd;refine I8 9 zk rfl ?_;refine zsb (us:=#[nI (dh g many rows).width,uv,bv,kv,a0]) b0 (IT _) (by simp only[GU,q1,q2,q3,q4];rfl) ?_;have e0:=b0.setRow (us:=#[nI (dh g many rows).width,uv,bv,kv,a0]);have d7:Ia (fun j=>j=4) O7 w7 O7 (w7.setRow pb #[nI (dh g many rows).width,uv,bv,kv,a0]):=G8 zd b0.tag rfl;generalize w7.setRow pb #[nI (dh g many rows).width,uv,bv,kv,a0]=w8 at *;have b1:=e1.upd d7 zd zd;have b4:=e5.upd d7 zd zd;have c':=a8.trans d7;have d9:=a9.slU a' b8 ((a2.mono (S':=fun q=>q=3\/q=4) (fun _ h=>.inl h) zd).trans (c'.mono (fun _ h=>.inr h) zd));have d':=(a9.free a' (fun x _=>by simp) b8).upd ((a2.mono (S':=fun q=>q=3\/q=4) (fun _ h=>.inl h) zd).trans (c'.mono (fun _ h=>.inr h) zd));refine zh ?_;refine ae (b1.cell 1 rfl) ?_;have e2:w8.cell? (nA nb 2)=some a5:=b1.cell 2 rfl;refine zra 10 rfl (b1.cell 1 rfl) rfl ?_;refine JS zk ?_;refine zh ?_;refine zv (ah (us:=[nI (dh g many rows).width,uv,bv,kv,a0]) e0.cellsAdd (KT _) (IT _) rfl) ?_;obtain⟨ta,tc,g5,_⟩:=a'.shape;refine zh ?_;refine zv (Iv (cells:=#[nI (dh g many rows).width,uv,bv,kv,a0,a5]) Gq (Jq _) rfl (by rw[g5];rfl)) ?_
 refine zsb (us:=#[nI (dh g many rows).width,uv,bv,kv,a0,a5]) b4 (Ik _) (by simp only[GU,q1,q2,q3,q4,o3];rfl) ?_;have g7:=b4.setRow (us:=#[nI (dh g many rows).width,uv,bv,kv,a0,a5]);have f6:Ia (fun j=>j=2) O7 w8 O7 (w8.setRow cb #[nI (dh g many rows).width,uv,bv,kv,a0,a5]):=G8 zd b4.tag rfl;have hU8z:=(d7.mono (S':=fun q=>q=2\/q=4) (fun _ h=>.inr h) zd).trans (f6.mono (fun _ h=>.inl h) zd);have d5:=b5.size;refine zh ?_
 refine aJ rfl rfl (g7.cellsAdd) (IV _) (Ik _) (⟨[nI (dh g many rows).width,uv,bv,kv,a0,a5],rfl,⟨uv,bv,kv,a0,a5,rfl,f1.upd g1 hU8z,f2.upd g2 hU8z,f3.upd g3 hU8z,f4.upd g4 hU8z,d9.upd d' f6⟩,fun v hv=>?_,((b5.trans (a8.mono (fun _ h=>zo) zd)).trans (hU8z.mono (fun _ h=>zo) zd)).ext⟩);simp only[GT,GS,or_false]at hv
 rcases hv with rfl|rfl|rfl|rfl|rfl|rfl
 ·exact fun a n c e=>by cases e
 ·exact n1.mono d5
 ·exact n2.mono d5
 ·exact n3.mono d5
 ·exact n4.mono d5
 exact a9.mono b6.size
end Go.Proofs.YtpfpmhhigheccaaGreatDoor
section
namespace Go.VL
open Go.Proofs
theorem ko{P:Kr}{N:Nat}{ops:Array Ln}{Q:Exit->Act->G1->Prop}{a0:List Ln}{st:St}{w:G1}{t:Iw}{p:String}{e:Array Edge}{x y:JN} 
  {T:Iw} {O:Nat->Nat} {i b:Nat} {cs us:Array ix} {E:Iw} (off:Nat) (a1:Array ix) (hb:K6 O w i b cs E) (a2:(cs.toList.take off++us.toList++cs.toList.drop (off+us.size)).toArray=a1) (hs:off+us.size<=cs.size) (hT:(KO T).run P w=.ok us.size w) (h1:us.toList.all Ib=true)
  {q:Addr} (hx:ev st x=some (.pointer (some q))) (hq:q=⟨b,off,none⟩) (hy:ev st y=some (.agg us))
  (h:WL P N ops Q a0 st (w.setRow b a1)):WL P N ops Q (⟨none,.store T x y,t,p,e,none⟩::a0) st w:=by
 subst a2;exact kq off hb hs hT h1 hx hq hy h
end Go.VL
namespace Go.Proofs.YtpfpmhhigheccaaGreatDoor
open Go.VL Go.Proofs
set_option maxRecDepth 10000
theorem zi:cL Ig 32 #[(0,1),(1,1),(2,1),(3,1),(4,1),(5,6),(11,6)]:=⟨_,underlying32,fun w=>by kernel_rfl⟩
structure TabM where
 ig:Nat
 kp:Nat
 br:Nat
 rules:Int
 groups:List Int
 left:K9
 lt:List Nat
 right:K9
 rt:List Nat
abbrev bS(ig kp br:Nat)(a0:Int)(gv:ix)(lc rc:List ix):List ix:=[.int .u64 (ig:Int),.int .u64 (kp:Int),.int .u64 (br:Int),nI a0,gv]++lc++rc
def TabV(w:G1)(v:ix)(t:TabM):Prop:=∃gv lc rc,v=.agg (bS t.ig t.kp t.br t.rules gv lc rc).toArray/\JE w gv t.groups/\PartV w lc t.left t.lt/\PartV w rc t.right t.rt
def TabN(B:Nat)(v:ix):Prop:=∀cs:List ix,v=.agg cs.toArray->DM B cs
abbrev dp:List ix:=[nI 0,nS,nS,nS,nS,nS]
abbrev tab0:Array ix:=(bS 0 0 0 0 (nS) dp dp).toArray
def ju(ts:List R3):Nat->Nat
 |0=>0
 |i+1=>if(nth ts i).2.2=true then ju ts i ||| 2^i else ju ts i
theorem uh(ts:List R3):∀i,i<=40->ju ts i<2^40
 |0,_=>by unfold ju;decide
 |i+1,h=>by
  unfold ju
  split
  ·exact IF (uh ts i zo) (IJ zd zo)
  exact uh ts i zo
abbrev rU(ts:List R3):List Nd:=ts.map (·.1)
abbrev lu(ts:List R3):List Nd:=ts.map (·.2.1)
def mj(li lk:List Int)(ts:List R3)(A B:List (List Nat)×List Nat):TabM:=
 ⟨cS li,cS lk,ju ts ts.length,ts.length,ints (bC [A.1,B.1]),dh (bC [A.1,B.1]) (fJ (ints (bC [A.1,B.1]))) A.1,A.2,dh (bC [A.1,B.1]) (fJ (ints (bC [A.1,B.1]))) B.1,B.2⟩
def PostC(B:Nat)(w:G1)(v:ix)(li lk:List Int)(ts:List R3):Prop:=
 (ez li lk ts=false/\v=.tuple #[.agg tab0,nI 1])\/ez li lk ts=true/\
  ((∃a b clA clB u,stM true (rU ts)=some a/\stM false (lu ts)=some b/\Iy a.1 a.2/\Iy b.1 b.2/\Cls clA a/\Cls clB b/\v=.tuple #[u,nI 0]/\TabV w u (mj li lk ts (cK clA a.1 a.2) (cK clB b.1 b.2))/\TabN B u)\/
   ((stM true (rU ts)=none\/stM false (lu ts)=none)/\v=.tuple #[.agg tab0,nI 7]))
theorem lx{li lk:List Int}{ts:List R3}(h:ez li lk ts=true):ts.length<=40/\(∀c∈li,0<=c/\c<=35)/\(∀c∈lk,0<=c/\c<=35)/\∀t∈ts,rh t=true:=by
 have a0:∀ {l:List Int},jI l=true->∀c∈l,0<=c/\c<=35:=fun {l} h c hc=>by
  obtain⟨j,hj,rfl⟩:=GQ hc;have:=bX.1 (show iT (B5 l) l.length=false by simpa[jI]using h) j hj;simp only[B5,Iu,decide_eq_false_iff_not]at this;omega
 simp only[ez,I2,decide_eq_true_eq]at h;obtain⟨⟨⟨h1,h2⟩,h3⟩,h4⟩:=h;refine⟨zo,a0 h2,a0 h3,fun t ht=>?_⟩;obtain⟨j,hj,rfl⟩:=GQ ht;have:=bX.1 (show iT (fun i=>!(rh (nth ts i))) ts.length=false by simpa[FK]using h4) j hj;simpa using this
theorem PostSt.uni{B:Nat}{w:G1}{v:ix}{o:Option (List (List Nat)×List Nat)}(h:PostSt B w v o):∃nv tv,∃e:Int,v=.tuple #[.agg #[nv,tv],nI e]/\nv.oneCell'=true/\tv.oneCell'=true/\(e≠0->o=none)/\
  (e=0->∃d cl,o=some d/\Iy d.1 d.2/\Cls cl d/\Ls B w nv (cK cl d.1 d.2).1/\Sl fp 1 w tv (cK cl d.1 d.2).2/\Ke B tv):=by
 cases o with
 |none=>
  obtain⟨e,he,rfl⟩:=h;exact⟨_,_,e,rfl,rfl,rfl,fun _=>rfl,fun e0=>absurd e0 he⟩
 |some d=>
  obtain⟨cl,nv,tv,rfl,o1,o2,h1,h2,h3,h4,h5⟩:=h;exact⟨nv,tv,0,rfl,o1,o2,fun e=>absurd rfl e,fun _=>⟨d,cl,rfl,h1,h2,h3,h4,h5⟩⟩
theorem fN{rows:List (List Nat)}{a0:List Nat}(hr:Iy rows a0)(cl:Nat->Nat):Iy (cK cl rows a0).1 (cK cl rows a0).2:=by
 obtain⟨F,h⟩:=jl (cl:=cl) (tl:=nth a0) hr.nx (rows.length+1) 0 [0] [] [] (qE hr.pos) zo;have h1:=h.rl;have h2:=h.tln;have h3:=h.reps.len;have h4:=hr.le;have h5:=h.p0
 exact⟨by show 0<(eU _ _ _ _ _ _ _ _).1.length;omega,by show(eU _ _ _ _ _ _ _ _).1.length<=1000;omega,by show(eU _ _ _ _ _ _ _ _).2.length=(eU _ _ _ _ _ _ _ _).1.length;omega,fun j hj=>by
  obtain⟨r1,r2⟩:=h.row j (by rw[<-h1];exact hj)
  exact⟨r1,fun m hm=>by have:=(r2 m hm).1;rw[<-h1]at this;exact this⟩⟩
section
variable(li lk:List Int)(ts:List R3)(A B:List (List Nat)×List Nat)
theorem CI:(mj li lk ts A B).ig=cS li:=rfl
theorem CH:(mj li lk ts A B).kp=cS lk:=rfl
theorem CJ:(mj li lk ts A B).br=ju ts ts.length:=rfl
theorem vY:(mj li lk ts A B).rules=(ts.length:Int):=rfl
theorem th:(mj li lk ts A B).groups=ints (bC [A.1,B.1]):=rfl
theorem qT:(mj li lk ts A B).left=dh (bC [A.1,B.1]) (fJ (ints (bC [A.1,B.1]))) A.1:=rfl
theorem oo:(mj li lk ts A B).right=dh (bC [A.1,B.1]) (fJ (ints (bC [A.1,B.1]))) B.1:=rfl
theorem yB:(mj li lk ts A B).lt=A.2:=rfl
theorem yA:(mj li lk ts A B).rt=B.2:=rfl
end
theorem Bm{B0:Nat}{w:G1}{li lk:List Int}{ts:List R3}{xs:List X3}{a b A B:List (List Nat)×List Nat}{a6 a5:Nat->Nat}{g:List Nat}{many a7:Nat}{pa pb:K9}{gv:ix}{lc rc:List ix}(a8:ez li lk ts=true)(b4:stM true (rU ts)=some a)(b1:stM false (lu ts)=some b)(b5:Iy a.1 a.2)(b2:Iy b.1 b.2)(b6:Cls a6 a)(b3:Cls a5 b) 
  (hA:A=cK a6 a.1 a.2) (hB:B=cK a5 b.1 b.2) (a1:g=bC [A.1,B.1]) (a0:fJ (ints g)=many) (a':pa=dh g many A.1) (a9:pb=dh g many B.1) (a4:a7=ju ts xs.length) (hl:ts.length=xs.length) (b0:Sl aM 1 w gv g) (b8:PartV w lc pa A.2) (b7:PartV w rc pb B.2)
  (n1:Ke B0 gv) (n2:DM B0 lc) (n3:DM B0 rc):PostC B0 w (.tuple #[.agg (bS (cS li) (cS lk) a7 (xs.length:Nat) gv lc rc).toArray,nI 0]) li lk ts:=by
 refine .inr ⟨a8,.inl ⟨a,b,a6,a5,_,b4,b1,b5,b2,b6,b3,rfl,?_,?_⟩⟩
 ·rw[<-hA,<-hB];have a0:fJ (ints (bC [A.1,B.1]))=many:=by rw[<-a1];exact a0
  refine⟨gv,lc,rc,?_,?_,?_,?_⟩
  ·rw[CI,CH,CJ,vY,hl,<-a4]
  ·rw[th,<-a1];exact b0.natIv
  ·rw[qT,yB,a0,<-a1,<-a'];exact b8
  rw[oo,yA,a0,<-a1,<-a9];exact b7
 intro cs a3;have a2:cs=bS (cS li) (cS lk) a7 (xs.length:Nat) gv lc rc:=by
  have:=(Lm a3).symm;simpa using this
 subst a2;intro v hv
 rcases Jc.1 hv with hv|hv
 ·rcases Jc.1 hv with hv|hv
  ·simp only[GT,GS,or_false]at hv
   rcases hv with rfl|rfl|rfl|rfl|rfl
   ·exact fun a n c e=>by cases e
   ·exact fun a n c e=>by cases e
   ·exact fun a n c e=>by cases e
   ·exact fun a n c e=>by cases e
   exact n1
  exact n2 v hv
 exact n3 v hv
set_option maxHeartbeats 1000000 in
theorem mW(li lk:List Int)(ts:List R3)(v:ix)(w:G1)(h:Tx w v li lk ts):
  Jl Ig 14 [v] w fun u w'=>Jo w w'/\PostC w.heap.size w' u li lk ts:=by
 obtain⟨ig,kp,ru,xs,rfl,hi,hk,l9,hl,hx⟩:=h.ex;have i1:=hi.one;have i2:=hk.one;have i3:=l9.one;refine G4 func14 ntmps14 rfl rfl ?_;refine zh ?_;refine aF (aw w) 1 zo rfl rfl ?_;intro db w1 O1 t' hU1 hR1 hE1;refine ar hR1 2 zo (I0 _) rfl ?_;intro cb w2 O2 u4 x9 hR2 hE2;have m6:=t'.upd x9 zd zd;have n8:Ia (fun q=>1<=q) (fun _=>0) w O2 w2:=(hU1.mono (fun _ h=>zo) zd).trans (x9.mono (fun _ h=>zo) zd);have h8:=n8.ext;refine zh ?_;refine zv (ah (us:=[ig,kp,ru]) m6.cellsAdd (isAgg49 _) (sizeOf49 _) rfl) ?_;refine zc call33 (xd li lk ts xs ig kp ru w2 (hi.ext h8) (hk.ext h8) (l9.ext h8) hl (fun i hi=>(hx i hi).ext h8)) ?_;rintro _ w3 ⟨rfl,hE3⟩;have p9:Ia (fun _=>False) O2 w2 O2 w3:=aa (fun h=>h) O2 hE3;have j9:=m6.upd p9 zd (fun h=>h);have g8:=u4.upd p9 zd (fun h=>h);have g1:=n8.trans (p9.mono (fun _ h=>h.elim) zd);have hR3:=hR2.upd p9;refine zh ?_
 by_cases s9:ez li lk ts=false
 ·refine zTH rfl ((by rw[s9];rfl)) ?_;refine zv (Iv (cells:=tab0) zi (I0 _) rfl rfl) ?_
  refine zsa (us:=tab0) g8 (I4 _) ?_;have j':=g8.setRow (us:=tab0);have k6:Ia (fun j=>j=2) O2 w3 O2 (w3.setRow cb tab0):=G8 zd g8.tag rfl;refine zh ?_
  refine aT rfl rfl rfl (j'.cellsAdd) (IQ _) (I4 _) (⟨(g1.trans (k6.mono (fun _ h=>zo) zd)).ext,.inl ⟨s9,rfl⟩⟩)
 have l':ez li lk ts=true:=by simpa using s9
 obtain⟨h40,x4,t5,hrr⟩:=lx l';refine aN rfl ((by rw[l'];rfl)) ?_;have s8:=l9.ext g1.ext;refine zh ?_;have d0:=j9.drew.cellsAdd;refine aL (fun W=>∀j u,[ig,kp,ru][j]? = some u->W.cell? (nA db j)=some u) 12 rfl zk ?_;refine zrf 0 rfl d0 rfl ?_;refine zt 1 rfl d0 (fun w1 a6=>RV.ld (a6 0 _ rfl) rfl) ?_;refine zrf 3 rfl d0 rfl ?_;refine zt 4 rfl d0 (fun w1 a6=>RV.ld (a6 1 _ rfl) rfl) ?_;refine zrf 6 rfl d0 rfl ?_;refine zt 7 rfl d0 (fun w1 a6=>RV.ld (a6 2 _ rfl) rfl) ?_;refine zr 8 rfl d0 (fun _=>bm s8.sh underlying47 rfl) ?_;refine sQ (fun x:Nat×(Nat->Nat)×World=>[(1,nP db),(2,nP cb),(4,.pointer (some ⟨x.1,0,none⟩)),(26,.agg (bS (cS li) (cS lk) 0 (xs.length:Nat) (nS) dp dp).toArray)]) (fun x=>x.2.2) (fun x=>K6 x.2.1 x.2.2 3 x.1 tab0 32/\Ia (fun q=>q=3) O2 w3 x.2.1 x.2.2/\IY w.heap.size x.2.1 x.2.2) #[true,true,true,true,true,true,true,true,true,true,true,false] 1 ?_ ?_
 ·intro hN;have hR:=hR3.drew;have hU:Ia (fun q=>q=3) O2 w3 O2 w3.drew:=aa zd O2 (GY w3).drew;have k0:∀O W,Ia (fun q=>q=3) O2 w3 O W->∀(j:Nat) (u:ix),[ig,kp,ru][j]? = some u->W.cell? (nA db j)=some u:=fun O W u=>(j9.upd u zd zd).cellsAdd
  have ki:∀O W,Ia (fun q=>q=3) O2 w3 O W->Sl encI 1 W ig li:=fun O W u=>hi.ext (g1.trans (u.mono (fun _ h=>zo) zd)).ext
  have kk:∀O W,Ia (fun q=>q=3) O2 w3 O W->Sl encI 1 W kp lk:=fun O W u=>hk.ext (g1.trans (u.mono (fun _ h=>zo) zd)).ext
  refine bG 2 10 zk rfl rfl ?_ ?_ 
  ·refine zc KP (mn li ig _ (ki _ _ hU) x4) ?_;rintro _ wa ⟨rfl,c6⟩;rw[c6];clear c6 wa;refine zh ?_
   refine ae (k0 _ _ hU) ?_;refine bG 5 10 zk rfl rfl ?_ ?_ 
   ·refine zc KP (mn lk kp _ (kk _ _ hU) t5) ?_;rintro _ wa ⟨rfl,c6⟩;rw[c6];clear c6 wa;refine zh ?_
    refine ae (k0 _ _ hU) ?_;refine zr 9 rfl (k0 _ _ hU) (fun _=>Iv (cells:=(bS (cS li) (cS lk) 0 (xs.length:Nat) (nS) dp dp).toArray) zi (I0 _) rfl rfl) ?_
    refine I8 10 zk rfl ?_;refine ar hR 3 zd (I0 _) rfl ?_
    intro tb wc Oc fC b0 g2 y0;have hU:=GZ hU b0;have hR:=g2;refine zh ?_;refine ae (k0 _ _ hU) ?_;exact II (hN (tb,_,_) ⟨fC,hU,hR⟩) zk ⟨rfl,rfl,rfl,rfl,trivial⟩ rfl
   refine ar hR 3 zd (I0 _) rfl ?_;intro tb wc Oc fC b0 g2 y0;have hU:=GZ hU b0;have hR:=g2;refine zh ?_
   refine ae (k0 _ _ hU) ?_;refine I8 5 zk rfl ?_
   refine zc KP (mn lk kp _ (kk _ _ hU) t5) ?_;rintro _ wa ⟨rfl,c6⟩;rw[c6];clear c6 wa;refine zh ?_
   refine ae (k0 _ _ hU) ?_;refine zr 9 rfl (k0 _ _ hU) (fun _=>Iv (cells:=(bS (cS li) (cS lk) 0 (xs.length:Nat) (nS) dp dp).toArray) zi (I0 _) rfl rfl) ?_
   exact II (hN (tb,_,_) ⟨fC,hU,hR⟩) zk ⟨rfl,rfl,rfl,rfl,trivial⟩ rfl
  refine ar hR 3 zd (I0 _) rfl ?_;intro tb wc Oc fC b0 g2 y0;have hU:=GZ hU b0;have hR:=g2;refine zh ?_
  refine ae (k0 _ _ hU) ?_;refine I8 2 zk rfl ?_
  refine zc KP (mn li ig _ (ki _ _ hU) x4) ?_;rintro _ wa ⟨rfl,c6⟩;rw[c6];clear c6 wa;refine zh ?_
  refine ae (k0 _ _ hU) ?_;refine I8 5 zk rfl ?_
  refine zc KP (mn lk kp _ (kk _ _ hU) t5) ?_;rintro _ wa ⟨rfl,c6⟩;rw[c6];clear c6 wa;refine zh ?_
  refine ae (k0 _ _ hU) ?_;refine zr 9 rfl (k0 _ _ hU) (fun _=>Iv (cells:=(bS (cS li) (cS lk) 0 (xs.length:Nat) (nS) dp dp).toArray) zi (I0 _) rfl rfl) ?_
  exact II (hN (tb,_,_) ⟨fC,hU,hR⟩) zk ⟨rfl,rfl,rfl,rfl,trivial⟩ rfl
 rintro⟨tb,O4,w4⟩ ⟨g5,r6,x'⟩;dsimp only at g5 r6 x' ⊢;have t9:=j9.upd r6 zd zd;have u3:=g8.upd r6 zd zd;refine I8 11 zk rfl ?_;refine zsa (us:=(bS (cS li) (cS lk) 0 (xs.length:Nat) (nS) dp dp).toArray) g5 (I4 _) ?_;have s6:=g5.setRow (us:=(bS (cS li) (cS lk) 0 (xs.length:Nat) (nS) dp dp).toArray);have q':Ia (fun j=>j=3) O4 w4 O4 (w4.setRow tb (bS (cS li) (cS lk) 0 (xs.length:Nat) (nS) dp dp).toArray):=G8 zd g5.tag rfl;generalize w4.setRow tb (bS (cS li) (cS lk) 0 (xs.length:Nat) (nS) dp dp).toArray=w5 at *;have m5:=t9.upd q' zd zd;have u0:=u3.upd q' zd zd;have hR5:=x'.upd q';have n7:=g1.trans ((r6.trans q').mono (fun _ h=>zo) zd);refine zh ?_;refine ae (m5.cellsAdd) ?_;have y7:=l9.ext n7.ext;have c2:w5.cell? (nA db 2)=some ru:=m5.cell 2 rfl;have z6:(2^40:Nat)=1099511627776:=zd;refine JS zk ?_;refine zh ?_
 refine zlp (fun z:Nat×(Nat->Nat)×World×ix×ix=>[(1,nP db),(2,nP cb),(4,nP tb),(5,z.2.2.2.1),(6,z.2.2.2.2),(28,ru),(29,nI xs.length),(30,nI z.1)]) (fun z=>z.2.2.1) (fun z=>z.1<=xs.length/\Ia (fun q=>3<=q) O4 w5 z.2.1 z.2.2.1/\IY w.heap.size z.2.1 z.2.2.1/\K6 z.2.1 z.2.2.1 3 tb (bS (cS li) (cS lk) (ju ts z.1) (xs.length:Nat) (nS) dp dp).toArray 32/\JG aX 86 3 z.2.1 z.2.2.1 4 z.2.2.2.1 ((xs.take z.1).map (·.1))/\JG aX 86 3 z.2.1 z.2.2.1 5 z.2.2.2.2 ((xs.take z.1).map (·.2.1))) (fun z=>xs.length-z.1) (0,O4,w5,nS,nS) (⟨I3 _,J5 zd _ _,hR5,s6,K8 _ _ _ _ _ _,K8 _ _ _ _ _ _⟩) ?_;rintro⟨i,O9,w9,lv,rv⟩ ⟨z1,p',j3,j6,g7,g6⟩;dsimp only at z1 p' j3 j6 g7 g6 ⊢;have h0:=n7.trans (p'.mono (fun _ h=>zo) zd);have s7:=l9.ext h0.ext;have hxl:xs.length<=40:=zo;refine zh ?_
 refine zC ?_ ?_
 ·intro i5;replace i5:i<xs.length:=dT i5;obtain⟨x,p5⟩:∃x,x=nth xs i:=⟨_,rfl⟩
  have p4:=hx i i5;rw[<-p5]at p4;have p1:=p4.1.one;have p2:=p4.2.1.one;have y8:(cd x).toArray.toList.all Ib=true:=by obtain⟨x1,x2,bk⟩:=x;exact jE p1 p2
  refine zh ?_;refine zv (ah (us:=cd x) (fun j u hu=>s7.cell i5 (by rw[<-p5];exact hu)) (isAgg88 _) (sizeOf88 _) rfl) ?_
  refine ar j3 6 zo (zeroValue88 _) rfl ?_;intro rb l0 O10 e5 u9 k8 p0;refine zh ?_
  refine zsb (us:=(cd x).toArray) e5 (sizeOf88 _) y8 ?_;have e4:=e5.setRow (us:=(cd x).toArray);have h7:Ia (fun j=>j=6) O10 l0 O10 (l0.setRow rb (cd x).toArray):=G8 zd e5.tag rfl;generalize l0.setRow rb (cd x).toArray=d7 at *;have d3:=u9.trans h7;have l6:=j6.upd d3 zd zd;have m2:=g7.upd d3 zd zd;have m0:=g6.upd d3 zd zd;have k7:=k8.upd h7;obtain⟨y6,y5,rc3,_⟩:=jF e4;have hll:((xs.take i).map (·.1)).length=i:=by simp;omega
  have hrl:((xs.take i).map (·.2.1)).length=i:=by simp;omega
  refine zh ?_;refine aL (fun W=>(∀(q:Nat) (u:ix),(aX x.1)[q]? = some u->W.cell? (nA rb q)=some u)/\(∀(q:Nat) (u:ix),(aX x.2.1)[q]? = some u->W.cell? ((nA rb 3).add q)=some u)) 12 rfl zk ?_
  refine zin ⟨y6 _ (GY d7).drew,y5 _ (GY d7).drew⟩ fun zS=>?_
  refine zrm 0 rfl zS rfl ?_;refine zrf 1 rfl zS rfl ?_
  refine zt 2 rfl zS (fun w1 a6=>ah (us:=aX x.1) a6.1 (isAgg86 _) (sizeOf86 _) rfl) ?_;refine zrm 5 rfl zS rfl ?_
  refine zrf 6 rfl zS rfl ?_;refine zt 7 rfl zS (fun w1 a6=>ah (us:=aX x.2.1) a6.2 (isAgg86 _) (sizeOf86 _) rfl) ?_
  refine sQ (fun y:ix×ix×(Nat->Nat)×World=>[(1,nP db),(2,nP cb),(4,nP tb),(7,nI (i:Nat)),(8,nP rb),(28,ru),(29,nI xs.length),(30,nI (i:Nat)),(39,y.1),(44,y.2.1)]) (fun y=>y.2.2.2) (fun y=>JG aX 86 3 y.2.2.1 y.2.2.2 4 y.1 ((xs.take i).map (·.1)++[x.1])/\JG aX 86 3 y.2.2.1 y.2.2.2 5 y.2.1 ((xs.take i).map (·.2.1)++[x.2.1])/\Ia (fun q=>q=4\/q=5\/q=7\/q=8) O10 d7 y.2.2.1 y.2.2.2/\IY w.heap.size y.2.2.1 y.2.2.2) #[true,true,true,true,true,true,true,true,true,true,false,false] 2 ?_ ?_
  ·intro hN;have hR:=k7.drew;have hU:Ia (fun q=>q=4\/q=5\/q=7\/q=8) O10 d7 O10 d7.drew:=aa zd O10 (GY d7).drew;have k0:∀O W,Ia (fun q=>q=4\/q=5\/q=7\/q=8) O10 d7 O W->(∀(q:Nat) (u:ix),(aX x.1)[q]? = some u->W.cell? (nA rb q)=some u)/\(∀(q:Nat) (u:ix),(aX x.2.1)[q]? = some u->W.cell? ((nA rb 3).add q)=some u):=fun O W u=>by
    obtain⟨r1,r2,_,_⟩:=jF (e4.upd u zd zd);exact⟨r1 _ (GY _),r2 _ (GY _)⟩
   have rA:=m2.drew;have rB:=m0.drew;refine bG 3 8 zk rfl rfl ?_ ?_ 
   ·refine bH elN (enc:=aX) hR 7 zd x.1 rfl rfl rfl zd rfl ?_;intro y4 Wa Oa sA g9 u';have hU:=GZ hU (IE g9 (fun _ h=>.inr (.inr (.inl h))) zd);have hR:=u';have rA:=GR rA g9 zd zd;have rB:=GR rB g9 zd zd
    try have sB:=GR sB g9 zd zd
    refine zh ?_;refine ae (k0 _ _ hU) ?_
    refine bG 4 8 zk rfl rfl ?_ ?_ 
    ·refine aA elN rA hR sA.sl (by simp) rfl rfl (by simp) (fun u hu c hc=>by rw[G6.1 hu]at hc;simp only[aX,GT,GS,or_false]at hc;rcases hc with rfl|rfl|rfl;rfl;rfl;exact p1) (by simp only[ln];omega) (by simp only[ln];omega) zd rfl ?_;intro h' Wc Oc rA b0 g2;have hU:=GZ hU (IE b0 (fun _ h=>.inl h) zd);have hR:=g2;have rB:=GR rB b0 zd zd
     try have sB:=GR sB b0 zd zd
     refine zh ?_;refine ae (k0 _ _ hU) ?_
     refine I8 8 zk rfl ?_;refine bH elN (enc:=aX) hR 8 zd x.2.1 rfl rfl rfl zd rfl ?_
     intro w6 Wb Ob sB d1 o5;have hU:=GZ hU (IE d1 (fun _ h=>.inr (.inr (.inr h))) zd);have hR:=o5;have rA:=GR rA d1 zd zd;have rB:=GR rB d1 zd zd
     try have sA:=GR sA d1 zd zd
     refine zh ?_;refine ae (k0 _ _ hU) ?_
     refine I8 9 zk rfl ?_;refine aA elN rB hR sB.sl (by simp) rfl rfl (by simp) (fun u hu c hc=>by rw[G6.1 hu]at hc;simp only[aX,GT,GS,or_false]at hc;rcases hc with rfl|rfl|rfl;rfl;rfl;exact p2) (by simp only[ln];omega) (by simp only[ln];omega) zd rfl ?_
     intro h9 Wd Od rB g3 o4;have hU:=GZ hU (IE g3 (fun _ h=>.inr (.inl h)) zd);have hR:=o4;have rA:=GR rA g3 zd zd;refine zh ?_;refine ae (k0 _ _ hU) ?_;exact II (hN (h',h9,_,_) ⟨rA,rB,hU,hR⟩) zk ⟨rfl,rfl,rfl,rfl,rfl,rfl,rfl,rfl,rfl,rfl,trivial⟩ rfl
    refine bH elN (enc:=aX) hR 8 zd x.2.1 rfl rfl rfl zd rfl ?_;intro w6 Wb Ob sB d1 o5;have hU:=GZ hU (IE d1 (fun _ h=>.inr (.inr (.inr h))) zd);have hR:=o5;have rA:=GR rA d1 zd zd;have rB:=GR rB d1 zd zd
    try have sA:=GR sA d1 zd zd
    refine zh ?_;refine ae (k0 _ _ hU) ?_
    refine I8 4 zk rfl ?_;refine aA elN rA hR sA.sl (by simp) rfl rfl (by simp) (fun u hu c hc=>by rw[G6.1 hu]at hc;simp only[aX,GT,GS,or_false]at hc;rcases hc with rfl|rfl|rfl;rfl;rfl;exact p1) (by simp only[ln];omega) (by simp only[ln];omega) zd rfl ?_
    intro h' Wc Oc rA b0 g2;have hU:=GZ hU (IE b0 (fun _ h=>.inl h) zd);have hR:=g2;have rB:=GR rB b0 zd zd
    try have sB:=GR sB b0 zd zd
    refine zh ?_;refine ae (k0 _ _ hU) ?_
    refine I8 9 zk rfl ?_;refine aA elN rB hR sB.sl (by simp) rfl rfl (by simp) (fun u hu c hc=>by rw[G6.1 hu]at hc;simp only[aX,GT,GS,or_false]at hc;rcases hc with rfl|rfl|rfl;rfl;rfl;exact p2) (by simp only[ln];omega) (by simp only[ln];omega) zd rfl ?_
    intro h9 Wd Od rB g3 o4;have hU:=GZ hU (IE g3 (fun _ h=>.inr (.inl h)) zd);have hR:=o4;have rA:=GR rA g3 zd zd;refine zh ?_;refine ae (k0 _ _ hU) ?_;exact II (hN (h',h9,_,_) ⟨rA,rB,hU,hR⟩) zk ⟨rfl,rfl,rfl,rfl,rfl,rfl,rfl,rfl,rfl,rfl,trivial⟩ rfl
   refine bH elN (enc:=aX) hR 8 zd x.2.1 rfl rfl rfl zd rfl ?_;intro w6 Wb Ob sB d1 o5;have hU:=GZ hU (IE d1 (fun _ h=>.inr (.inr (.inr h))) zd);have hR:=o5;have rA:=GR rA d1 zd zd;have rB:=GR rB d1 zd zd
   try have sA:=GR sA d1 zd zd
   refine zh ?_;refine ae (k0 _ _ hU) ?_
   refine I8 3 zk rfl ?_;refine bH elN (enc:=aX) hR 7 zd x.1 rfl rfl rfl zd rfl ?_
   intro y4 Wa Oa sA g9 u';have hU:=GZ hU (IE g9 (fun _ h=>.inr (.inr (.inl h))) zd);have hR:=u';have rA:=GR rA g9 zd zd;have rB:=GR rB g9 zd zd
   try have sB:=GR sB g9 zd zd
   refine zh ?_;refine ae (k0 _ _ hU) ?_
   refine I8 4 zk rfl ?_;refine aA elN rA hR sA.sl (by simp) rfl rfl (by simp) (fun u hu c hc=>by rw[G6.1 hu]at hc;simp only[aX,GT,GS,or_false]at hc;rcases hc with rfl|rfl|rfl;rfl;rfl;exact p1) (by simp only[ln];omega) (by simp only[ln];omega) zd rfl ?_
   intro h' Wc Oc rA b0 g2;have hU:=GZ hU (IE b0 (fun _ h=>.inl h) zd);have hR:=g2;have rB:=GR rB b0 zd zd
   try have sB:=GR sB b0 zd zd
   refine zh ?_;refine ae (k0 _ _ hU) ?_
   refine I8 9 zk rfl ?_;refine aA elN rB hR sB.sl (by simp) rfl rfl (by simp) (fun u hu c hc=>by rw[G6.1 hu]at hc;simp only[aX,GT,GS,or_false]at hc;rcases hc with rfl|rfl|rfl;rfl;rfl;exact p2) (by simp only[ln];omega) (by simp only[ln];omega) zd rfl ?_
   intro h9 Wd Od rB g3 o4;have hU:=GZ hU (IE g3 (fun _ h=>.inr (.inl h)) zd);have hR:=o4;have rA:=GR rA g3 zd zd;refine zh ?_;refine ae (k0 _ _ hU) ?_;exact II (hN (h',h9,_,_) ⟨rA,rB,hU,hR⟩) zk ⟨rfl,rfl,rfl,rfl,rfl,rfl,rfl,rfl,rfl,rfl,trivial⟩ rfl
  rintro⟨h',h9,O12,g4⟩ ⟨e6,a',b8,a5⟩;dsimp only at e6 a' b8 a5 ⊢;have m1:=e4.upd b8 zd zd;have a9:=l6.upd b8 zd zd;obtain⟨s1,s2,s3,_⟩:=jF m1;have b3:=(p'.trans (d3.mono (fun _ h=>zo) zd)).trans (b8.mono (fun _ h=>zo) zd);have s3':=s3 _ (GY _);have x6:x.2.2=(nth ts i).2.2:=p4.2.2;have el:(xs.take (i+1)).map (·.1)=(xs.take i).map (·.1)++[x.1]:=by rw[aH i5,JK,<-p5];rfl
  have er:(xs.take (i+1)).map (·.2.1)=(xs.take i).map (·.2.1)++[x.2.1]:=by rw[aH i5,JK,<-p5];rfl
  refine zin (⟨s1 _ (GY _),s2 _ (GY _)⟩) fun zS=>?_
  refine zra 10 rfl zS rfl ?_;refine zra 11 rfl zS rfl ?_
  refine JS zk ?_;refine zh ?_
  have z3:=uh ts i zo;refine zC ?_ ?_
  ·intro hb;have u5:ju ts (i+1)=ju ts i ||| 2^i:=by rw[show ju ts (i+1)=if(nth ts i).2.2=true then ju ts i ||| 2^i else ju ts i from rfl,if_pos (by rw[<-x6];exact hb)]
   have hpw:2^i<2^40:=IJ zd zo;have t2:g4.cell? (nA tb 2)=some (.int .u64 ((ju ts i:Nat):Int)):=a9.cell 2 rfl;refine WC.tail 6 rfl rfl zk zk ?_;refine zh ?_;refine zw (uC (a:=1) (b:=i) rfl rfl rfl rfl (by show _<=64;omega) (by show _<=(18446744073709551615:Int);omega)) ?_;rw[L9];refine zwH (po (a:=ju ts i) (b:=2^i) rfl rfl rfl rfl (by show _<=(18446744073709551615:Int);omega) (by show _<=(18446744073709551615:Int);omega)) ?_;refine WS.go ?_;rw[<-u5];refine ak (j:=2) a9.drew rfl (KF _) rfl rfl rfl rfl ?_;have h6:Ia (fun j=>j=3) O12 g4.drew O12 (g4.drew.setCell ⟨tb,2,none⟩ (.int .u64 ((ju ts (i+1):Nat):Int))):=IW zd a9.tag rfl;have l5:K6 O12 (g4.drew.setCell ⟨tb,2,none⟩ (.int .u64 ((ju ts (i+1):Nat):Int))) 3 tb (bS (cS li) (cS lk) (ju ts (i+1)) (xs.length:Nat) (nS) dp dp).toArray 32:=a9.drew.set 2 _;generalize g4.drew.setCell ⟨tb,2,none⟩ (.int .u64 ((ju ts (i+1):Nat):Int))=s0 at *;refine zh ?_;refine zxd (i+1,O12,s0,h',h9) (⟨i5,b3.drew.trans (h6.mono (fun _ h=>zo) zd),a5.drew.upd h6,l5,by dsimp only;rw[el];exact e6.drew.upd h6 zd zd,by dsimp only;rw[er];exact a'.drew.upd h6 zd zd⟩)
  intro hb;have u5:ju ts (i+1)=ju ts i:=by rw[show ju ts (i+1)=if(nth ts i).2.2=true then ju ts i ||| 2^i else ju ts i from rfl,if_neg (by rw[<-x6,hb];decide)]
  refine zh ?_;refine zxd (i+1,O12,g4,h',h9) (⟨i5,b3,a5,by dsimp only;rw[u5];exact a9,by dsimp only;rw[el];exact e6,by dsimp only;rw[er];exact a'⟩)
 intro p6;obtain rfl:i=xs.length:=dF p6;rw[I1]at g7 g6;have hR9':=j3;refine zh ?_;refine zc call35 (oq true (rU ts) (xs.map (·.1)) lv w9 g7.sl (by simp[hl]) (fun j hj=>by rw[Ie]at hj;rw[ee hj,show rU ts=ts.map (·.1)from rfl,ee zo];exact(hx j hj).1.ext h0.ext)) ?_;rintro va l0 ⟨p0,hPa⟩;obtain⟨e0,d9,ea,rfl,a1,a2,ha0,ha1⟩:=hPa.uni;have k5:Ia (fun _=>False) O9 w9 O9 l0:=aa (fun h=>h) O9 p0;have k8:=j3.upd k5;refine zh ?_;refine ar k8 7 zo (IG _) rfl ?_;intro ab d7 O11 f4 h7 k7 hE11;refine zsb (us:=#[e0,d9]) f4 (Ic _) (by simp only[GU,a1,a2];rfl) ?_;have n3:=f4.setRow (us:=#[e0,d9]);have b8:Ia (fun j=>j=7) O11 d7 O11 (d7.setRow ab #[e0,d9]):=G8 zd f4.tag rfl;generalize d7.setRow ab #[e0,d9]=g4 at *;have g0:=h7.trans b8;have b3:=(k5.mono (S':=fun q=>q=7) (fun _ h=>h.elim) zd).trans g0;have a5:=k7.upd b8;have a':=g6.upd b3 zd zd;have n5:=h0.trans (b3.mono (fun _ h=>zo) zd);refine zh ?_;refine zc call35 (oq false (lu ts) (xs.map (·.2.1)) rv g4 a'.sl (by simp[hl]) (fun j hj=>by rw[Ie]at hj;rw[ee hj,show lu ts=ts.map (·.2.1)from rfl,ee zo];exact(hx j hj).2.1.ext n5.ext)) ?_;rintro vb s0 ⟨v6,hPb⟩;obtain⟨d',d8,eb,rfl,b1,b2,z8,z7⟩:=hPb.uni;have n4:Ia (fun _=>False) O11 g4 O11 s0:=aa (fun h=>h) O11 v6;have v2:=a5.upd n4;refine zh ?_;refine ar v2 8 zo (IG _) rfl ?_
 intro bb r' O14 e' u7 v1 hE14;refine zsb (us:=#[d',d8]) e' (Ic _) (by simp only[GU,b1,b2];rfl) ?_;have i':=e'.setRow (us:=#[d',d8]);have n6:Ia (fun j=>j=8) O14 r' O14 (r'.setRow bb #[d',d8]):=G8 zd e'.tag rfl;generalize r'.setRow bb #[d',d8]=w15 at *;have b7:=u7.trans n6;have f8:=(n4.mono (S':=fun q=>q=8) (fun _ h=>h.elim) zd).trans b7;have b9:=(g0.mono (S':=fun q=>q=7\/q=8) (fun _ h=>.inl h) zd).trans (f8.mono (fun _ h=>.inr h) zd);have f5:=(k5.mono (S':=fun q=>q=7\/q=8) (fun _ h=>h.elim) zd).trans b9;have o7:=v1.upd n6;have d2:=h0.trans (f5.mono (fun _ h=>zo) zd);have j1:=n3.upd f8 zd zd;have l4:=j6.upd f5 zd zd;have a4:=(u0.upd p' zd zd).upd f5 zd zd;refine zh ?_
 by_cases p8:ea=0
 ·refine au (d:=66) rfl (b':=false) ((by rw[p8];rfl)) ?_;refine zh ?_
  by_cases p7:eb=0
  ·obtain⟨a,y3,z9,x8,z',j8,j5,l3⟩:=ha1 p8;obtain⟨b,y2,z4,x7,z5,j7,j4,l2⟩:=z7 p7;have r8:=fN x8 y3;have r7:=fN x7 y2;obtain⟨A,hA⟩:∃A,A=cK y3 a.1 a.2:=⟨_,rfl⟩
   obtain⟨B,hB⟩:∃B,B=cK y2 b.1 b.2:=⟨_,rfl⟩
   rw[<-hA]at r8 j8 j5;rw[<-hB]at r7 j7 j4;refine zFH rfl ((by rw[p7];rfl)) ?_;refine zv (ah (us:=[e0,d9]) j1.cellsAdd (Jh _) (Ic _) rfl) ?_;refine zv (ah (us:=[d',d8]) i'.cellsAdd (Jh _) (Ic _) rfl) ?_;refine iK underlying119 (Ic _) (IG _) xC [(e0,d9),(d',d8)] rfl rfl rfl rfl zk (by simp) rfl ?_;intro l1 p3 l8 o';have g':Ia (fun _=>False) O14 w15 O14 p3:=aa (fun h=>h) O14 o';have f':=b9.trans (g'.mono (S':=fun q=>q=7\/q=8) (fun _ h=>h.elim) zd);have f7:=b7.trans (g'.mono (S':=fun q=>q=8) (fun _ h=>h.elim) zd);have v':=j8.upd j3 f';have v8:=j7.upd a5 f7;have o2:=l3.slU j5 j3 f';have o0:=l2.slU j4 a5 f7
   have n9:TabsD p3 l1 [(e0,d9),(d',d8)] [A.1,B.1] [A.2,B.2]:=⟨l8,rfl,rfl,fun i hi=>by
    match i,hi with
    |0,_=>exact⟨by rw[ax,ax];exact v'.rows,by rw[ax,ax];exact o2,by rw[ax,ax];exact r8⟩
    |1,_=>exact⟨by rw[bA,bA,ax,ax];exact v8.rows,by rw[bA,bA,ax,ax];exact o0,by rw[bA,bA,ax,ax];exact r7⟩⟩
   refine zc call36 (xx [(e0,d9),(d',d8)] [A.1,B.1] [A.2,B.2] l1 p3 n9 (by simp)) ?_;rintro gv k' ⟨c8,v5,i6⟩;obtain⟨many,hg,m4⟩:=oP [A.1,B.1];obtain⟨g,p6⟩:∃g,g=bC [A.1,B.1]:=⟨_,rfl⟩
   rw[<-p6]at hg m4 c8;have x5:∀T∈[A,B],∀p,p<T.1.length->∀i j,i<37->j<37->nth g i=nth g j->nth (nth T.1 p) i=nth (nth T.1 p) j:=fun T hT p hp i j hi hj e=>by
    refine vC (tabs:=[A.1,B.1]) (fun rows e2 r hr=>?_) ((m4 i j hi hj).1 e) T.1 ?_ _ (aQ hp)
    ·have o3:∃w0,Iy rows w0:=by
      rcases GT.1 e2 with rfl|e2
      ·exact⟨_,r8⟩
      rw[G6.1 e2];exact⟨_,r7⟩
     obtain⟨w0,o3⟩:=o3;obtain⟨q,hq,rfl⟩:=GQ hr;have h1:=(o3.row q hq).2 i hi;have h2:=(o3.row q hq).2 j hj;have:=o3.le;omega
    rcases GT.1 hT with rfl|hT
    ·simp
    rw[G6.1 hT];simp
   have u6:Ia (fun _=>False) O14 p3 O14 k':=aa (fun h=>h) O14 v5;have b6:=g'.trans u6;have e1:=l4.upd b6 zd (fun h=>h);have v0:=o7.upd b6;have y1:=c8.one;have i8:=i6.free c8 (fun x _=>by simp) (o7.upd g');refine zh ?_;refine ak (j:=4) e1 rfl (JM _) y1 rfl rfl rfl ?_;have h5:Ia (fun j=>j=3) O14 k' O14 (k'.setCell ⟨tb,4,none⟩ gv):=IW zd e1.tag rfl;have c7:K6 O14 (k'.setCell ⟨tb,4,none⟩ gv) 3 tb (bS (cS li) (cS lk) (ju ts xs.length) (xs.length:Nat) gv dp dp).toArray 32:=e1.set 4 _;generalize k'.setCell ⟨tb,4,none⟩ gv=w18 at *;have e7:=c8.upd i8 h5;have i7:=i8.upd h5;have o6:=v0.upd h5;have a0:=(b6.mono (S':=fun q=>q=3) (fun _ h=>h.elim) zd).trans h5;have c':=j1.upd a0 zd zd;have c9:=i'.upd a0 zd zd;have m9:=a4.upd a0 zd zd;have j2:=d2.trans (a0.mono (fun _ h=>zo) zd);have f9:=(b9.mono (S':=fun q=>q=3\/q=7\/q=8) (fun _ h=>.inr h) zd).trans (a0.mono (fun _ h=>.inl h) zd);have f6:=(b7.mono (S':=fun q=>q=3\/q=8) (fun _ h=>.inr h) zd).trans (a0.mono (fun _ h=>.inl h) zd);have v9:=j8.upd j3 f9;have v7:=j7.upd a5 f6;have o1:=l3.slU j5 j3 f9;have n':=l2.slU j4 a5 f6;refine zh ?_;have d4:w18.drew.cell? (nA tb 4)=some gv:=c7.cell 4 rfl;refine aL (fun W=>W.cell? (nA tb 4)=some gv/\(∀j u,[e0,d9][j]? = some u->W.cell? (nA ab j)=some u)/\∀j u,[d',d8][j]? = some u->W.cell? (nA bb j)=some u) 12 rfl zk ?_;refine zin ⟨d4,c'.drew.cellsAdd,c9.drew.cellsAdd⟩ fun zS=>?_
   refine zrf 0 rfl zS rfl ?_;refine zt 1 rfl zS (fun w1 a6=>RV.ld a6.1 rfl) ?_
   refine zt 2 rfl zS (fun w1 a6=>ah (us:=[e0,d9]) a6.2.1 (Jh _) (Ic _) rfl) ?_;refine zrf 4 rfl zS rfl ?_
   refine zt 5 rfl zS (fun w1 a6=>RV.ld a6.1 rfl) ?_;refine zt 6 rfl zS (fun w1 a6=>ah (us:=[d',d8]) a6.2.2 (Jh _) (Ic _) rfl) ?_
   have g3:Ia (fun _=>False) O14 w18 O14 w18.drew:=aa (fun h=>h) O14 (GY w18).drew;refine I8 3 zk rfl ?_;refine zc call37 (uT g many gv e0 d9 A.1 A.2 w18.drew hg e7.drew (v9.ext (GY w18).drew).rows o1.drew r8 (x5 A (by simp))) ?_;rintro _ r9 ⟨lc,rfl,y',t4,o9⟩;have d5:Ia (fun _=>False) O14 w18 O14 r9:=g3.trans (aa (fun h=>h) O14 o9);have a3:Jo w18 r9:=(GY w18).drew.trans o9;refine zh ?_;refine ae (⟨a3.cell (c7.cell 4 rfl),(c'.upd d5 zd (fun h=>h)).cellsAdd,(c9.upd d5 zd (fun h=>h)).cellsAdd⟩) ?_;refine zrf 8 rfl (⟨a3.cell (c7.cell 4 rfl),(c'.upd d5 zd (fun h=>h)).cellsAdd,(c9.upd d5 zd (fun h=>h)).cellsAdd⟩) rfl ?_;refine I8 7 zk rfl ?_;refine zc call37 (uT g many gv d' d8 B.1 B.2 r9 hg (e7.ext a3) (v7.ext a3).rows (n'.ext a3) r7 (x5 B (by simp))) ?_;rintro _ k9 ⟨rc,rfl,y9,e3,o8⟩;have b5:Ia (fun _=>False) O14 w18 O14 k9:=d5.trans (aa (fun h=>h) O14 o8);have a8:=c7.upd b5 zd (fun h=>h);have j0:=c'.upd b5 zd (fun h=>h);have i9:=c9.upd b5 zd (fun h=>h);have m8:=m9.upd b5 zd (fun h=>h);have m3:=y'.ext o8;refine zh ?_;refine ae (⟨a8.cell 4 rfl,j0.cellsAdd,i9.cellsAdd⟩) ?_;obtain⟨u1,b4,k1,n1,t1,t6,s5,k4,t8,t3,w8⟩:=m3;obtain⟨u2,d6,k2,n2,t2,s',s4,k3,t7,t0,w7⟩:=y9;subst t6;subst s';have q1:=s5.one;have q2:=k4.one;have q3:=t8.one;have q4:=t3.one;have q5:=w8.one;have r1:=s4.one;have r2:=k3.one;have r3:=t7.one;have r4:=t0.one;have r5:=w7.one;obtain⟨pa,x3⟩:∃pa,pa=dh g many A.1:=⟨_,rfl⟩
   obtain⟨pb,x0⟩:∃pb,pb=dh g many B.1:=⟨_,rfl⟩
   rw[<-x3]at s5 k4 t8 t3 t4 ⊢;rw[<-x0]at s4 k3 t7 t0 e3 ⊢;obtain⟨c5,m'⟩:∃c5,c5=ju ts xs.length:=⟨_,rfl⟩
   rw[<-m']at a8;refine I8 9 zk rfl ?_;refine ko (us:=#[nI pa.width,u1,b4,k1,n1,t1]) 5 (bS (cS li) (cS lk) c5 (xs.length:Nat) gv [nI pa.width,u1,b4,k1,n1,t1] dp).toArray a8 rfl (by show 5+6<=17;omega) (Ik _) (by simp only[GU,q1,q2,q3,q4,q5];rfl) rfl rfl rfl ?_;have a7:=a8.setRow (us:=(bS (cS li) (cS lk) c5 (xs.length:Nat) gv [nI pa.width,u1,b4,k1,n1,t1] dp).toArray);have h4:Ia (fun j=>j=3) O14 k9 O14 (k9.setRow tb (bS (cS li) (cS lk) c5 (xs.length:Nat) gv [nI pa.width,u1,b4,k1,n1,t1] dp).toArray):=G8 zd a8.tag rfl;generalize k9.setRow tb (bS (cS li) (cS lk) c5 (xs.length:Nat) gv [nI pa.width,u1,b4,k1,n1,t1] dp).toArray=w21 at *;have f3:=j0.upd h4 zd zd;have e9:=i9.upd h4 zd zd;have m7:=m8.upd h4 zd zd;refine zh ?_;refine ae (⟨a7.cell 4 rfl,f3.cellsAdd,e9.cellsAdd⟩) ?_;refine zrf 10 rfl (⟨a7.cell 4 rfl,f3.cellsAdd,e9.cellsAdd⟩) rfl ?_;refine I8 11 zk rfl ?_;refine ko (us:=#[nI pb.width,u2,d6,k2,n2,t2]) 11 (bS (cS li) (cS lk) c5 (xs.length:Nat) gv [nI pa.width,u1,b4,k1,n1,t1] [nI pb.width,u2,d6,k2,n2,t2]).toArray a7 rfl (by show 11+6<=17;omega) (Ik _) (by simp only[GU,r1,r2,r3,r4,r5];rfl) rfl rfl rfl ?_;have i0:=a7.setRow (us:=(bS (cS li) (cS lk) c5 (xs.length:Nat) gv [nI pa.width,u1,b4,k1,n1,t1] [nI pb.width,u2,d6,k2,n2,t2]).toArray)
   have h3:Ia (fun j=>j=3) O14 w21 O14 (w21.setRow tb (bS (cS li) (cS lk) c5 (xs.length:Nat) gv [nI pa.width,u1,b4,k1,n1,t1] [nI pb.width,u2,d6,k2,n2,t2]).toArray):=G8 zd a7.tag rfl;generalize w21.setRow tb (bS (cS li) (cS lk) c5 (xs.length:Nat) gv [nI pa.width,u1,b4,k1,n1,t1] [nI pb.width,u2,d6,k2,n2,t2]).toArray=w22 at *;have e8:=m7.upd h3 zd zd;refine zh ?_;refine ae (⟨i0.cell 4 rfl,(f3.upd h3 zd zd).cellsAdd,(e9.upd h3 zd zd).cellsAdd⟩) ?_;have go2:=y1;have n0:(bS (cS li) (cS lk) c5 (xs.length:Nat) gv [nI pa.width,u1,b4,k1,n1,t1] [nI pb.width,u2,d6,k2,n2,t2]).toArray.toList.all Ib=true:=by
    simp only[bS,KD,IL,GU,go2,q1,q2,q3,q4,q5,r1,r2,r3,r4,r5];rfl
   refine JS zk ?_;refine zh ?_
   refine zv (ah (us:=bS (cS li) (cS lk) c5 (xs.length:Nat) gv [nI pa.width,u1,b4,k1,n1,t1] [nI pb.width,u2,d6,k2,n2,t2]) i0.cellsAdd (IQ _) (I4 _) rfl) ?_;refine zsb (us:=(bS (cS li) (cS lk) c5 (xs.length:Nat) gv [nI pa.width,u1,b4,k1,n1,t1] [nI pb.width,u2,d6,k2,n2,t2]).toArray) e8 (I4 _) n0 ?_
   have j':=Kb (us:=(bS (cS li) (cS lk) c5 (xs.length:Nat) gv [nI pa.width,u1,b4,k1,n1,t1] [nI pb.width,u2,d6,k2,n2,t2]).toArray) e8;have k6:Ia (fun j=>j=2) O14 w22 O14 (w22.setRow cb (bS (cS li) (cS lk) c5 (xs.length:Nat) gv [nI pa.width,u1,b4,k1,n1,t1] [nI pb.width,u2,d6,k2,n2,t2]).toArray):=G8 zd e8.tag rfl;have hU20z:=((h4.mono (S':=fun q=>q=2\/q=3) (fun _ h=>.inr h) zd).trans (h3.mono (fun _ h=>.inr h) zd)).trans (k6.mono (fun _ h=>.inl h) zd);have hPL:PartV k9 [nI pa.width,u1,b4,k1,n1,t1] pa A.2:=⟨u1,b4,k1,n1,t1,rfl,s5,k4,t8,t3,w8⟩
   have hPR:PartV k9 [nI pb.width,u2,d6,k2,n2,t2] pb B.2:=⟨u2,d6,k2,n2,t2,rfl,s4,k3,t7,t0,w7⟩
   have v4:=hPL.upd t4 o6.drew hU20z;have v3:=hPR.upd e3 (o6.upd d5) hU20z;have z2:=(e7.upd i7 b5).upd (i7.upd b5) hU20z;have i4:=j2.size;have l7:=a3.size;refine zh ?_;refine aT rfl rfl rfl (j'.cellsAdd) (IQ _) (I4 _) (⟨((j2.trans (b5.mono (fun _ h=>h.elim) zd)).trans (hU20z.mono (fun _ h=>zo) zd)).ext,Bm l' z9 z4 x8 x7 z' z5 hA hB p6 hg.cnt x3 x0 m' hl z2 v4 v3 (i6.mono (JD d2.size o'.size)) (fun v hv=>(t4 v hv).mono i4) (fun v hv=>(e3 v hv).mono (JD i4 l7))⟩)
  refine zTH rfl ((by simpa using p7)) ?_;refine zv (Iv (cells:=tab0) zi (I0 _) rfl rfl) ?_
  refine zsa (us:=tab0) a4 (I4 _) ?_;have j':=Kb (us:=tab0) a4;have k6:Ia (fun j=>j=2) O14 w15 O14 (w15.setRow cb tab0):=G8 zd a4.tag rfl;refine zh ?_
  refine aT rfl rfl rfl (j'.cellsAdd) (IQ _) (I4 _) (⟨(d2.trans (k6.mono (fun _ h=>zo) zd)).ext,.inr ⟨l',.inr ⟨(.inr (z8 p7)),rfl⟩⟩⟩)
 refine au (d:=66) rfl (b':=true) ((by simpa using p8)) ?_;refine zh ?_
 refine zTH rfl rfl ?_;refine zv (Iv (cells:=tab0) zi (I0 _) rfl rfl) ?_
 refine zsa (us:=tab0) a4 (I4 _) ?_;have j':=Kb (us:=tab0) a4;have k6:Ia (fun j=>j=2) O14 w15 O14 (w15.setRow cb tab0):=G8 zd a4.tag rfl;refine zh ?_
 refine aT rfl rfl rfl (j'.cellsAdd) (IQ _) (I4 _) (⟨(d2.trans (k6.mono (fun _ h=>zo) zd)).ext,.inr ⟨l',.inr ⟨(.inl (ha0 p8)),rfl⟩⟩⟩)
end Go.Proofs.YtpfpmhhigheccaaGreatDoor
end
namespace Go.Proofs.YtpfpmhhigheccaaGreatDoor
def Dh(l:List Int):Int:=l.foldl max (nth l 0)
theorem Bx(l:List Int)(sv:ix)(w:G1)(h:JE w sv l)(a1:0<l.length):Jl Ig 51 [sv] w fun v w'=>v=nI (Dh l)/\w'=w:=by
 have hl:=h.len_le;have m0:w.cell? (adr sv 1 0)=some (nI (nth l 0)):=by have:=h.cell (j:=0) a1 rfl;rwa[aB]at this
 have e1:nth l 0=(l.take 1).foldl max (nth l 0):=by
  rw[aH a1];simp
 have a2:Dh l=(l.take l.length).foldl max (nth l 0):=by rw[I1];rfl
 rw[a2];obtain⟨z0,a3⟩:∃z,z=nth l 0:=⟨_,rfl⟩
 rw[<-a3]at m0 e1 ⊢;refine G4 func51 ntmps51 rfl rfl ?_;refine zh ?_;refine zFH rfl ((decide_eq_false zo)) ?_;refine zlp (fun z:Nat×Int=>[(0,sv),(3,nI z.2),(4,nI z.1)]) (fun z=>w) (fun z=>1<=z.1/\z.1<=l.length/\z.2=(l.take z.1).foldl max z0) (fun z=>l.length-z.1) (1,z0) (⟨I5 _,a1,e1⟩) ?_;rintro⟨q,m⟩ ⟨a4,hq,hm⟩;dsimp only at a4 hq hm ⊢;refine zh ?_;refine zC ?_ ?_
 ·intro a0;replace a0:q<l.length:=dT a0;have m1:w.cell? (adr sv 1 q)=some (nI (nth l q)):=by have:=h.cell (j:=0) a0 rfl;rwa[aB]at this
  refine zh ?_;refine zvH (ib rfl rfl) ?_
  refine zxd (q+1,max m (nth l q)) (⟨by dsimp only;omega,a0,by dsimp only;rw[aH a0,Jz,<-hm];rfl⟩)
 intro a5;obtain rfl:q=l.length:=dF a5;refine zh ?_;refine af rfl rfl (⟨by rw[hm],rfl⟩)
theorem nR{F:Lh}(hF:∀(args:Array ix) (w:G1),(callFunc F args).run Ig w=.ok (.enter F args) w)(cs:Array ix)(l:List (Nat))(sv:ix)(q:Nat->Bool)(w:G1)(h:Sl fp 1 w sv l) 
  (hq:∀i,i<l.length->∀w',Jo w w'->Jl Ig F ([(fun n:Nat=>Kq .u64 (n:Int)) (nth l i)]++cs.toList) w' fun v w''=>v=.bool (q i)/\Jo w' w'') :
  Jl Ig 76 [sv,.func (.func F) #[] cs] w fun v w'=>v=nI (dt q l.length)/\Jo w w':=by
 have hl:=h.len_le;refine G4 func76 ntmps76 rfl rfl ?_;refine zh ?_;refine zlp (fun x:Nat×G1=>[(0,sv),(1,.func (.func F) #[] cs),(7,nI l.length),(8,nI x.1)]) (fun x=>x.2) (fun x=>x.1<=l.length/\Jo w x.2/\∀i,i<x.1->q i=false) (fun x=>l.length-x.1) (0,w) (⟨I3 _,GY _,fun i hi=>absurd hi (IN i)⟩) ?_;rintro⟨k,w1⟩ ⟨hk,hE,a1⟩;dsimp only at hk hE a1 ⊢;have h1:=h.ext hE;refine zh ?_;refine zC ?_ ?_
 ·intro a0;replace a0:k<l.length:=dT a0;refine zh ?_;refine zv (RV.ld (by have:=h1.cell (i:=k) (j:=0) a0 rfl;rwa[aB]at this) rfl) ?_;refine dk rfl hF rfl (hq k a0 w1 hE) rfl ?_;rintro v w2 ⟨rfl,a3⟩;refine zh ?_;refine zC ?_ ?_
  ·intro hy;refine zh ?_;refine af rfl rfl (⟨by rw[cx a0 hy a1],hE.trans a3⟩)
  intro hy;refine zh ?_;refine zxd (k+1,w2) (⟨a0,hE.trans a3,fun i hi=>(JX.1 hi).elim (a1 i) (fun e=>by rw[e];exact hy)⟩)
 intro a2;replace a2:l.length<=k:=dF a2;refine zh ?_;refine af rfl rfl (⟨by rw[ct fun i hi=>a1 i zo],hE⟩)
theorem kU{F:Lh}(hF:∀(args:Array ix) (w:G1),(callFunc F args).run Ig w=.ok (.enter F args) w)(cs:Array ix)(l:List (Nat))(sv:ix)(q:Nat->Bool)(w:G1)(h:Sl fp 1 w sv l) 
  (hq:∀i,i<l.length->∀w',Jo w w'->Jl Ig F ([(fun n:Nat=>Kq .u64 (n:Int)) (nth l i)]++cs.toList) w' fun v w''=>v=.bool (q i)/\Jo w' w'') :
  Jl Ig 47 [sv,.func (.func F) #[] cs] w fun v w'=>v=.bool (iT q l.length)/\Jo w w':=by
 refine G4 func47 ntmps47 rfl rfl ?_;refine zh ?_
 refine zc call76 (nR hF cs l sv q w h hq) ?_;rintro v w1 ⟨rfl,hE⟩;refine zh ?_
 refine af rfl rfl (⟨by rw[firstN_any],hE⟩)
theorem Ap(b a0:Nat)(a:Addr)(w:G1)(hr:a0<=64)(hc:w.cell? a=some (nI (a0:Nat))):Jl Ig 48 [.int .u64 (b:Nat),.pointer (some a)] w fun v w'=>v=.bool (!(b / 2^a0==0))/\w'=w:=by
 have e:((((b / 2^a0:Nat):Int)) != 0) = !(b / 2^a0==0):=by
  generalize b / 2^a0=q
  by_cases h:q=0
  ·subst h;rfl
  rw[beq_eq_false_iff_ne.2 h];simpa using h
 refine G4 func48 ntmps48 rfl rfl ?_;refine zh ?_
 refine zvH (ia (a:=b) (b:=a0) rfl rfl rfl rfl (by show _<=64;omega)) ?_;refine af rfl rfl (⟨by rw[<-e],rfl⟩)
theorem Ao(a0:List Int)(rv lv:ix)(n:Nat)(a:Addr)(w:G1)(h:JE w rv a0)(a2:0<a0.length)(a1:Shape lv n)(hc:w.cell? a=some lv):Jl Ig 50 [rv,.pointer (some a)] w fun v w'=>v=.bool (decide ((n:Int)<=Dh a0))/\Jo w w':=by
 refine G4 func50 ntmps50 rfl rfl ?_;refine zh ?_
 refine Lr zk zk ?_;refine zh ?_
 refine WS.call call51 rfl (Bx a0 rv _ h.drew a2) rfl ?_;refine zh ?_
 refine zwH (bm a1 Ki rfl) ?_;refine WS.nil ?_
 refine zh ?_;refine af rfl rfl (⟨rfl,(GY w).drew⟩)
def gp(p:K9)(tl:List Nat)(many a0:Nat):Bool:=
 cN p&&(p.width==(many:Int)) && !((fy p).length==0)&&(tl.length==(fy p).length) && !(iT (fun i=>!(nth tl i / 2^a0==0)) tl.length) && !(iT (fun i=>decide (((fy p).length:Int)<=Dh (nth (fy p) i))) (fy p).length)
theorem kR(p:K9):(fy p).length=p.usual.length/\∀i,i<p.usual.length->(nth (fy p) i).length=p.width.toNat:=by
 refine⟨by simp[fy],fun i hi=>?_⟩;unfold fy;rw[fG _ _ _ hi];simp[A1]
theorem so(cs:List ix)(p:K9)(tl:List Nat)(many a0:Nat)(w:G1)(h:PartV w cs p tl)(hr:a0<=64):
  Jl Ig 30 [.agg cs.toArray,nI (many:Nat),nI (a0:Nat)] w fun v w'=>v=.bool (gp p tl many a0)/\Jo w w':=by
 obtain⟨uv,bv,kv,nv,tv,rfl,d3,d9,d8,d7,c'⟩:=h;obtain⟨a5,d4⟩:=kR p;have c9:=c'.len_le;refine G4 func30 ntmps30 rfl rfl ?_;refine zh ?_;refine aF (aw w) 1 zo rfl rfl ?_;intro db w1 O1 c7 e3 e5 f6;refine aF e5 2 zo rfl rfl ?_;intro yb w2 O2 b7 d2 e4 f5;have a9:=c7.upd d2 zd zd;have a':=(e3.mono (S':=fun q=>1<=q) (fun _ h=>zo) zd).trans (d2.mono (fun _ h=>zo) zd);have a4:=a'.ext
 have e8:∀(j:Nat) (u:ix),[nI p.width,uv,bv,kv,nv][j]? = some u->w2.cell? ((nA db 0).add j)=some u:=fun j u hu=>a9.cellsAdd j u (by
  match j,hu with
  |0,hu=>exact hu
  |1,hu=>exact hu
  |2,hu=>exact hu
  |3,hu=>exact hu
  |4,hu=>exact hu)
 refine zh ?_;refine zv (ah (us:=[nI p.width,uv,bv,kv,nv]) e8 (KT _) (IT _) rfl) ?_
 refine zc call46 (rC p _ w2 ⟨uv,bv,kv,nv,rfl,d3.ext a4,d9.ext a4,d8.ext a4,d7.ext a4⟩) ?_;rintro _ w3 ⟨rv,rfl,a7,e7⟩;have b4:Ia (fun _=>False) O2 w2 O2 w3:=aa (fun h=>h) O2 e7;have f3:=e4.upd b4;have b6:=b7.upd b4 zd (fun h=>h);have c6:=a9.upd b4 zd (fun h=>h);have c8:=a'.trans (b4.mono (fun _ h=>h.elim) zd);have ro:rv.oneCell'=true:=by
  split at a7
  ·obtain⟨b1,h1,_⟩:=a7;exact h1.one
  rw[a7];rfl
 refine zh ?_;refine ar (aw w3) 3 zo (zeroValue89 _) rfl ?_
 intro lb w4 O4 a6 e0 e' f4;refine ak (j:=0) a6 rfl (sizeOf89 _) ro rfl rfl rfl ?_;have d':Ia (fun j=>j=3) O4 w4 O4 (w4.setCell ⟨lb,0,none⟩ rv):=IW zd a6.tag rfl;have c5:K6 O4 (w4.setCell ⟨lb,0,none⟩ rv) 3 lb #[rv] 89:=a6.set 0 _;have a3:Jo w3 (w4.setCell ⟨lb,0,none⟩ rv):=(e0.trans d').ext;generalize w4.setCell ⟨lb,0,none⟩ rv=w5 at *;have a1:Jo w w5:=c8.ext.trans a3;have a8:=c6.ext a3;have b5:=b6.ext a3;have d0:w5.cell? (((nA db 0)).add 0)=some (nI p.width):=a8.cell 0 rfl;have d5:w5.cell? (nA db 5)=some tv:=a8.cell 5 rfl;have l0:w5.cell? ⟨lb,0,none⟩=some rv:=c5.cell 0 rfl;have y0:w5.cell? ⟨yb,0,none⟩=some (nI (a0:Nat)):=b5.cell 0 rfl;have b8:=c'.ext a1;refine zh ?_
 cases b3:cN p with
 |false=>
  refine au (d:=17) rfl (b':=true) (rfl) ?_;refine zh ?_
  refine zTH rfl rfl ?_;refine af rfl rfl (⟨by unfold gp;rw[b3];rfl,a1⟩)
 |true=>
  rw[b3,if_pos rfl]at a7;obtain⟨b1,d1,a2,d6⟩:=a7.ext a3;have ok:=okP p b3;have e9:=ok.w1;refine au (d:=17) rfl (b':=false) (rfl) ?_;refine zh ?_
  by_cases h1:p.width=(many:Int)
  ·refine au (d:=24) rfl (b':=false) ((by rw[h1];simp)) ?_;refine zh ?_
   by_cases h2:p.usual.length=0
   ·refine au (d:=29) rfl (b':=true) ((by rw[a2,a5,h2];rfl)) ?_;refine zh ?_
    refine zTH rfl rfl ?_;refine af rfl rfl (⟨by unfold gp;rw[a5,h2];simp,a1⟩)
   refine au (d:=29) rfl (b':=false) ((by rw[a2,a5,beq_eq_false_iff_ne];omega)) ?_;refine zh ?_
   by_cases h3:tl.length=p.usual.length
   ·refine zFH rfl ((by rw[a2,a5,h3];simp)) ?_;refine zv (dO rfl rfl) ?_
    refine zc call47 (kU call48 #[nP yb] tl tv (fun i=>!(nth tl i / 2^a0==0)) w5 b8 (fun i hi w' b2=>(Ap (nth tl i) a0 _ w' hr (b2.cell y0)).mono fun v w'' ⟨e1,e2⟩=>⟨e1,e2▸GY _⟩)) ?_;rintro _ w6 ⟨rfl,b0⟩;refine zh ?_
    cases h4:iT (fun i=>!(nth tl i / 2^a0==0)) tl.length with
    |true=>
     refine zTH rfl rfl ?_;refine af rfl rfl (⟨by unfold gp;rw[h4];simp,a1.trans b0⟩)
    |false=>
     have b9:=d1.ext b0;have l6:w6.cell? ⟨lb,0,none⟩=some rv:=b0.cell l0;refine zFH rfl rfl ?_;refine zv (dO rfl rfl) ?_;refine zc call49 (eX call50 #[nP lb] b1 rv (fun i=>decide (((fy p).length:Int)<=Dh (nth (fy p) i))) w6 b9 (fun i hi w' b2=>by have:=Ao (nth (fy p) i) (nth b1 i) rv b1.length ⟨lb,0,none⟩ w' (((d6 i zo).ext b0).ext b2) (by rw[d4 i zo];omega) d1.sh (b2.cell l6);rw[a2]at this;exact this)) ?_;rintro _ w7 ⟨rfl,e6⟩;refine zh ?_;refine af rfl rfl (⟨by unfold gp;rw[b3,h1,h4,a5,h3,a2,a5,beq_eq_false_iff_ne.2 h2];simp,(a1.trans b0).trans e6⟩)
   refine zTH rfl ((by rw[a2,a5];simp;omega)) ?_;refine af rfl rfl (⟨by unfold gp;rw[a5,beq_eq_false_iff_ne.2 h3];simp,a1⟩)
  refine au (d:=24) rfl (b':=true) ((by simpa using h1)) ?_;refine zh ?_
  refine zTH rfl rfl ?_;refine af rfl rfl (⟨by unfold gp;rw[beq_eq_false_iff_ne.2 h1];simp,a1⟩)
end Go.Proofs.YtpfpmhhigheccaaGreatDoor
section
namespace Go.VL
theorem add_add(b i j:Nat):(nA b i).add j=⟨b,i+j,none⟩:=by simp only[Kc];split<;>split<;>simp_all
end Go.VL
namespace Go.Proofs.YtpfpmhhigheccaaGreatDoor
open Go.VL Go.Proofs
set_option maxRecDepth 10000
structure TabB(w:G1)(b:Nat)(t:TabM)(gv:ix)(lc rc:List ix):Prop where
 cells:∀j u,(bS t.ig t.kp t.br t.rules gv lc rc)[j]? = some u->w.cell? ⟨b,j,none⟩=some u
 groups:JE w gv t.groups
 left:PartV w lc t.left t.lt
 right:PartV w rc t.right t.rt
section
variable{w:G1}{b:Nat}{t:TabM}{gv:ix}{lc rc:List ix}
theorem TabB.ext{w':G1}(h:TabB w b t gv lc rc)(e:Jo w w'):TabB w' b t gv lc rc:=⟨fun j u hu=>e.cell (h.cells j u hu),h.groups.ext e,h.left.ext e,h.right.ext e⟩
theorem TabB.c0(h:TabB w b t gv lc rc):w.cell? (nA b 0)=some (.int .u64 (t.ig:Int)):=h.cells 0 _ rfl
theorem TabB.c1(h:TabB w b t gv lc rc):w.cell? (nA b 1)=some (.int .u64 (t.kp:Int)):=h.cells 1 _ rfl
theorem TabB.c2(h:TabB w b t gv lc rc):w.cell? (nA b 2)=some (.int .u64 (t.br:Int)):=h.cells 2 _ rfl
theorem TabB.c3(h:TabB w b t gv lc rc):w.cell? (nA b 3)=some (nI t.rules):=h.cells 3 _ rfl
theorem TabB.c4(h:TabB w b t gv lc rc):w.cell? (nA b 4)=some gv:=h.cells 4 _ rfl
theorem TabB.cl(h:TabB w b t gv lc rc):∀(j:Nat) (u:ix),lc[j]? = some u->w.cell? ((nA b 5).add j)=some u:=fun j u hu=>by
 rw[add_add];refine h.cells (5+j) u ?_;have hj:=(I7.1 hu).1;rw[show bS t.ig t.kp t.br t.rules gv lc rc=[.int .u64 (t.ig:Int),.int .u64 (t.kp:Int),.int .u64 (t.br:Int),nI t.rules,gv]++(lc++rc)from G0 _ _ _];rw[JR (by simp),show 5+j-_=j from by simp,IU hj];exact hu
theorem TabB.cr(h:TabB w b t gv lc rc):∀(j:Nat) (u:ix),rc[j]? = some u->w.cell? ((nA b 11).add j)=some u:=fun j u hu=>by
 rw[add_add];refine h.cells (11+j) u ?_;have hl:=h.left.one.1;rw[JR (by simp[hl]),show 11+j-_=j from by simp[hl]];exact hu
end
theorem qz{w:G1}{b i:Nat}{O:Nat->Nat}{E:Iw}{t:TabM}{gv:ix}{lc rc:List ix}(hb:K6 O w i b (bS t.ig t.kp t.br t.rules gv lc rc).toArray E)(h1:JE w gv t.groups)(h2:PartV w lc t.left t.lt)(h3:PartV w rc t.right t.rt):TabB w b t gv lc rc:=
 ⟨fun j u hu=>hb.cell j (by simpa using hu),h1,h2,h3⟩
def bq(t:TabM):Bool:=
 !(decide (t.rules<0)||decide (40<t.rules)||(fJ t.groups==0)) && !(!(t.ig / 2^36==0) || !(t.kp / 2^36==0) || !(t.br / 2^t.rules.toNat==0))&&gp t.left t.lt (fJ t.groups) t.rules.toNat&&gp t.right t.rt (fJ t.groups) t.rules.toNat
theorem ne0(q:Nat):(((q:Nat):Int) != 0) = !(q==0):=by
 by_cases h:q=0
 ·subst h;rfl
 rw[beq_eq_false_iff_ne.2 h];simpa using h
theorem lj(t:TabM)(v:ix)(w:G1)(h:TabV w v t):Jl Ig 9 [v] w fun u w'=>u=.bool (bq t)/\Jo w w':=by
 obtain⟨gv,lc,rc,rfl,b0,a8,a7⟩:=h;obtain⟨ll,lo⟩:=a8.one;obtain⟨rl,ro⟩:=a7.one;refine G4 func9 ntmps9 rfl rfl ?_;refine zh ?_;refine aF (aw w) 1 zo rfl rfl ?_;intro db w1 O1 a3 b3 b4 a1;have hT:=qz (t:=t) a3 (b0.ext a1) (a8.ext a1) (a7.ext a1);have c0:=hT.c0;have c1:=hT.c1;have c2:=hT.c2;have c3:=hT.c3;have c4:=hT.c4;have cl:=hT.cl;have cr:=hT.cr;refine zh ?_;refine zc Lw (iq t.groups gv w1 hT.groups) ?_;rintro _ w2 ⟨rfl,a6⟩;rw[a6];clear a6 w2;obtain⟨many,a2⟩:∃many,many=fJ t.groups:=⟨_,rfl⟩
 have a9:bq t=(!(decide (t.rules<0)||decide (40<t.rules)||(many==0)) && !(!(t.ig / 2^36==0) || !(t.kp / 2^36==0) || !(t.br / 2^t.rules.toNat==0))&&gp t.left t.lt many t.rules.toNat&&gp t.right t.rt many t.rules.toNat):=by rw[a2];rfl
 rw[a9,<-a2];refine zh ?_
 by_cases h1:t.rules<0
 ·refine au (d:=11) rfl (b':=true) ((decide_eq_true h1)) ?_;refine zh ?_
  refine zTH rfl rfl ?_;refine af rfl rfl (⟨by rw[decide_eq_true h1];simp,a1⟩)
 refine au (d:=11) rfl (b':=false) ((decide_eq_false h1)) ?_;refine zh ?_
 by_cases h2:40<t.rules
 ·refine au (d:=16) rfl (b':=true) ((decide_eq_true h2)) ?_;refine zh ?_
  refine zTH rfl rfl ?_;refine af rfl rfl (⟨by rw[decide_eq_true h2];simp,a1⟩)
 obtain⟨rules,a0⟩:∃rules:Nat,t.rules=(rules:Int):=⟨t.rules.toNat,zo⟩
 have a':t.rules.toNat=rules:=zo;refine au (d:=16) rfl (b':=false) ((decide_eq_false h2)) ?_;refine zh ?_
 by_cases h3:many=0
 ·refine zTH rfl ((by rw[h3];rfl)) ?_;refine af rfl rfl (⟨by rw[h3];simp,a1⟩)
 refine zFH rfl ((by rw[beq_eq_false_iff_ne];omega)) ?_;refine zvH (ia (a:=t.ig) (b:=36) rfl rfl rfl rfl zd) ?_
 by_cases h4:t.ig / 2^36=0
 ·refine au (d:=25) rfl (b':=false) ((by rw[ne0,h4];rfl)) ?_;refine zh ?_
  refine zvH (ia (a:=t.kp) (b:=36) rfl rfl rfl rfl zd) ?_
  by_cases h5:t.kp / 2^36=0
  ·refine au (d:=31) rfl (b':=false) ((by rw[ne0,h5];rfl)) ?_;refine zh ?_
   refine zvH (ia (a:=t.br) (b:=rules) rfl rfl rfl a0 (by show _<=64;omega)) ?_
   by_cases h6:t.br / 2^rules=0
   ·have b2:nI t.rules=nI (rules:Int):=by rw[a0]
    refine zFH rfl ((by rw[ne0,h6];rfl)) ?_;refine zvH (ah (us:=lc) cl (IV _) (by rw[ll];exact Ik _) rfl) ?_
    rw[a0];refine zc call30 (so lc t.left t.lt many rules w1 hT.left zo) ?_;rintro _ w2 ⟨rfl,a5⟩;have a4:=hT.ext a5;have d3:=a4.c3;have d4:=a4.cr;rw[a0]at d3;refine zh ?_
    cases h7:gp t.left t.lt many rules with
    |false=>
     refine au (d:=45) rfl (b':=false) (rfl) ?_;refine zh ?_
     refine af rfl rfl (⟨by rw[Ir,h7];simp,a1.trans a5⟩)
    |true=>
     refine au (d:=45) rfl (b':=true) (rfl) ?_;refine zh ?_
     refine zvH (ah (us:=rc) d4 (IV _) (by rw[rl];exact Ik _) rfl) ?_;refine zc call30 (so rc t.right t.rt many rules w2 a4.right zo) ?_
     rintro _ w3 ⟨rfl,b1⟩;refine zh ?_;refine af rfl rfl (⟨?_,(a1.trans a5).trans b1⟩);rw[Ir,h7,h4,h5,h6,decide_eq_false zo,decide_eq_false zo,beq_eq_false_iff_ne.2 h3];simp
   refine zTH rfl ((by rw[ne0,beq_eq_false_iff_ne.2 h6];rfl)) ?_;refine af rfl rfl (⟨by rw[a',beq_eq_false_iff_ne.2 h6];simp,a1⟩)
  refine au (d:=31) rfl (b':=true) ((by rw[ne0,beq_eq_false_iff_ne.2 h5];rfl)) ?_;refine zh ?_
  refine zTH rfl rfl ?_;refine af rfl rfl (⟨by rw[beq_eq_false_iff_ne.2 h5];simp,a1⟩)
 refine au (d:=25) rfl (b':=true) ((by rw[ne0,beq_eq_false_iff_ne.2 h4];rfl)) ?_;refine zh ?_
 refine zTH rfl rfl ?_;refine af rfl rfl (⟨by rw[beq_eq_false_iff_ne.2 h4];simp,a1⟩)
end Go.Proofs.YtpfpmhhigheccaaGreatDoor
end
namespace Go.Proofs.YtpfpmhhigheccaaGreatDoor
abbrev RdT(α:Type):=List UInt8->Option (α×List UInt8)
def tk{α β:Type}(f:RdT α)(g:RdT β):RdT (α×β):=fun l=>match f l with
 |some (x,r)=>match g r with
  |some (y,s)=>some ((x,y),s)
  |none=>none
 |none=>none
theorem dc{α β:Type}{f:RdT α}{g:RdT β}{wf:α->List UInt8}{wg:β->List UInt8}{a3:α->Prop}{a0:β->Prop} 
  (hf:∀l x r,f l=some (x,r)↔l=wf x++r/\a3 x) (hg:∀l x r,g l=some (x,r)↔l=wg x++r/\a0 x) (l:List UInt8) (x:α×β) (r:List UInt8) :
  tk f g l=some (x,r)↔l=(wf x.1++wg x.2)++r/\a3 x.1/\a0 x.2:=by
 obtain⟨a,b⟩:=x;unfold tk
 constructor
 ·intro e
  cases h:f l with
  |none=>rw[h]at e;cases e
  |some q=>
   obtain⟨q,s⟩:=q;rw[h]at e;dsimp only at e
   cases h2:g s with
   |none=>rw[h2]at e;cases e
   |some y=>
    obtain⟨y,t⟩:=y;rw[h2]at e;obtain⟨e1,rfl⟩:=KL (Jm e);obtain⟨rfl,rfl⟩:=KL e1;obtain⟨a1,a2⟩:=(hf _ _ _).1 h;obtain⟨b1,b2⟩:=(hg _ _ _).1 h2;exact⟨by rw[a1,b1,G0],a2,b2⟩
 rintro⟨e,h1,h2⟩;rw[(hf l a (wg b++r)).2 ⟨by rw[e,G0],h1⟩];dsimp only;rw[(hg _ b r).2 ⟨rfl,h2⟩]
abbrev PaW:=Nat×List Nat×List Nat×List Nat×List Nat×List Nat
def FF:RdT PaW:=tk smR (tk lstR (tk lstR (tk lstR (tk lstR telR))))
def ze(p:PaW):List UInt8:=dK p.1++(pZ p.2.1++(pZ p.2.2.1++(pZ p.2.2.2.1++(pZ p.2.2.2.2.1++pZ p.2.2.2.2.2))))
def FH(p:PaW):Prop:=p.1<=2^20/\okL p.2.1/\okL p.2.2.1/\okL p.2.2.2.1/\okL p.2.2.2.2.1/\okU p.2.2.2.2.2
theorem uR(l:List UInt8)(p:PaW)(r:List UInt8):FF l=some (p,r)↔l=ze p++r/\FH p:=
 dc (fun _ _ _=>gy) (dc (fun _ _ _=>jM) (dc (fun _ _ _=>jM) (dc (fun _ _ _=>jM) (dc (fun _ _ _=>jM) (fun _ _ _=>A9))))) l p r
abbrev TbW:=Nat×Nat×Nat×Nat×List Nat×PaW×PaW
def FD:RdT TbW:=tk smR (tk (gH 0) (tk (gH 0) (tk (gH 0) (tk lstR (tk FF FF)))))
def DJ(t:TbW):List UInt8:=dK t.1++(dK t.2.1++(dK t.2.2.1++(dK t.2.2.2.1++(pZ t.2.2.2.2.1++(ze t.2.2.2.2.2.1++ze t.2.2.2.2.2.2)))))
def Gs(t:TbW):Prop:=t.1<=2^20/\t.2.1<2^64/\t.2.2.1<2^64/\t.2.2.2.1<2^64/\okL t.2.2.2.2.1/\FH t.2.2.2.2.2.1/\FH t.2.2.2.2.2.2
theorem uO(l:List UInt8)(t:TbW)(r:List UInt8):FD l=some (t,r)↔l=DJ t++r/\Gs t:=
 dc (fun _ _ _=>gy) (dc (fun _ _ _=>dR) (dc (fun _ _ _=>dR) (dc (fun _ _ _=>dR) (dc (fun _ _ _=>jM) (dc uR uR))))) l t r
def upN(a0:Int)(l:List Int):List Nat:=l.map fun n=>(n+a0).toNat
def dnN(a0:Int)(l:List Nat):List Int:=l.map fun(n:Nat)=>(n:Int)-a0
theorem xE{b:Int}:∀ {l:List Int},(∀n∈l,0<=n+b)->dnN b (upN b l)=l
 |[],_=>rfl
 |n::l,h=>by
  have h1:=h n (by simp);have ih:=xE (l:=l) fun x hx=>h x (by simp[hx])
  unfold dnN upN at *;rw[Ip,Ip,ih];congr 1;omega
theorem CC{b:Int}:∀(l:List Nat),upN b (dnN b l)=l
 |[]=>rfl
 |n::l=>by
  have ih:=CC (b:=b) l;unfold dnN upN at *;rw[Ip,Ip,ih];congr 1;omega
def tw(p:K9)(tl:List Nat):PaW:=(p.width.toNat,upN 0 p.usual,upN 0 p.base,upN 1 p.check,upN 0 p.next,tl)
def Bl(p:PaW):K9:=⟨(p.1:Int),dnN 0 p.2.1,dnN 0 p.2.2.1,dnN 1 p.2.2.2.1,dnN 0 p.2.2.2.2.1⟩
def yZ(t:TabM):TbW:=(t.rules.toNat,t.ig,t.kp,t.br,upN 0 t.groups,tw t.left t.lt,tw t.right t.rt)
def yf(t:TbW):TabM:=⟨t.2.1,t.2.2.1,t.2.2.2.1,(t.1:Int),dnN 0 t.2.2.2.2.1,Bl t.2.2.2.2.2.1,t.2.2.2.2.2.1.2.2.2.2.2,Bl t.2.2.2.2.2.2,t.2.2.2.2.2.2.2.2.2.2.2⟩
theorem C1(p:PaW):tw (Bl p) p.2.2.2.2.2=p:=by
 obtain⟨a,b,c,d,e,f⟩:=p;simp only[tw,Bl,CC,Ir]
theorem C0(t:TbW):yZ (yf t)=t:=by
 obtain⟨a,b,c,d,e,f,g⟩:=t;simp only[yZ,yf,CC,Ir,C1]
structure PrtB(p:K9)(tl:List Nat):Prop where
 w:0<=p.width/\p.width<=64
 u:p.usual.length<=1000/\∀n∈p.usual,0<=n/\n<=65535
 b:p.base.length<=1000/\∀n∈p.base,0<=n/\n<=65535
 c:p.check.length<=65599/\∀n∈p.check,-1<=n/\n<=1000
 n:p.next.length<=65599/\∀n∈p.next,0<=n/\n<=65535
 t:tl.length<=1000
structure TblB(t:TabM):Prop where
 r:0<=t.rules/\t.rules<=40
 ig:t.ig<2^36
 kp:t.kp<2^36
 br:t.br<2^40
 g:t.groups.length=37/\∀n∈t.groups,0<=n/\n<37
 l:PrtB t.left t.lt
 rt:PrtB t.right t.rt
theorem rP:∀(l:List Int) (n:Nat),eh l n≠0->jJ l n
 |[],_,_=>trivial
 |g::r,n,h=>by
  unfold eh at h
  split at h
  ·exact absurd rfl h
  exact⟨zo,zo,rP r _ h⟩
theorem rq:∀(l:List Int) (n:Nat),jJ l n->eh l n<=n+l.length
 |[],n,_=>by simp[eh]
 |g::r,n,h=>by
  obtain⟨h1,h2,h3⟩:=h;have ih:=rq r _ h3;unfold eh;rw[if_neg zo,J2];omega
theorem vx{p:K9}{tl:List Nat}{many a0:Nat}(h:gp p tl many a0=true):PrtB p tl:=by
 unfold gp at h;simp only[I2]at h;obtain⟨⟨⟨⟨⟨h1,_⟩,_⟩,h4⟩,_⟩,_⟩:=h;rw[(kR p).1]at h4;unfold cN at h1;simp only[I2,Iq,Iu,decide_eq_false_iff_not,bne_eq_false_iff_eq]at h1;obtain⟨⟨⟨⟨⟨a1,a2⟩,a3⟩,a4⟩,a5,a6⟩,⟨⟨b1,b2⟩,b3⟩,b4⟩:=h1;have h4:tl.length=p.usual.length:=by simpa using h4
 refine⟨⟨zo,zo⟩,⟨zo,fun n hn=>mA b1 hn⟩,⟨zo,fun n hn=>mA b2 hn⟩,⟨zo,fun n hn=>?_⟩,⟨zo,fun n hn=>mA b3 hn⟩,zo⟩;have:=mA b4 hn;omega
theorem gE{t:TabM}(h:bq t=true):TblB t:=by
 unfold bq at h;simp only[I2,Iq,Iu,decide_eq_false_iff_not,beq_eq_false_iff_ne]at h;obtain⟨⟨⟨⟨⟨a1,a2⟩,a3⟩,⟨b1,b2⟩,b3⟩,c1⟩,c2⟩:=h;have a0:∀ {n:Nat},(!(n / 2^36==0))=false->n<2^36:=fun {n} h=>by
  have h:n / 2^36=0:=by simpa using h
  exact(Jb zd).1 h
 have b3:t.br<2^t.rules.toNat:=by
  have h:t.br / 2^t.rules.toNat=0:=by simpa using b3
  exact(Jb (If _)).1 h
 have hg:t.groups.length=37:=by
  unfold fJ at a3
  split at a3
  ·assumption
  exact absurd rfl a3
 unfold fJ at a3;rw[if_pos hg]at a3;have hr:=rP _ _ a3;have a5:=(vf _ _ hr).2;have a4:=rq _ _ hr;rw[hg]at a4;refine⟨⟨zo,zo⟩,a0 (by simpa using b1),a0 (by simpa using b2),Io b3 (Ih zd zo),⟨hg,fun n hn=>?_⟩,vx c1,vx c2⟩;have:=a5 n hn;omega
theorem rH{b:Int}{l:List Int}(hl:l.length<=65599)(h:∀n∈l,0<=n+b/\n+b<=65536):okL (upN b l):=by
 have e:(2:Nat)^20=1048576:=zd;refine⟨by unfold upN;rw[Ie];omega,fun x hx=>?_⟩;obtain⟨n,hn,rfl⟩:=IR.1 hx;have:=h n hn;omega
theorem PrtB.ok{p:K9}{tl:List Nat}(h:PrtB p tl)(ht:∀x∈tl,x<2^64):FH (tw p tl)/\Bl (tw p tl)=p:=by
 have e:(2:Nat)^20=1048576:=zd;have h1:=h.w;have h2:=h.t;refine⟨⟨by show p.width.toNat<=_;omega,rH (by have:=h.u.1;omega) fun n hn=>by have:=h.u.2 n hn;omega,rH (by have:=h.b.1;omega) fun n hn=>by have:=h.b.2 n hn;omega,rH h.c.1 fun n hn=>by have:=h.c.2 n hn;omega,rH h.n.1 fun n hn=>by have:=h.n.2 n hn;omega,by show tl.length<=_;omega,ht⟩,?_⟩;obtain⟨wd,us,ba,ck,nx⟩:=p;have hu:=h.u.2;have hb:=h.b.2;have hc:=h.c.2;have hn:=h.n.2;dsimp only at h1 hu hb hc hn;unfold Bl tw;dsimp only;rw[xE fun n h'=>by have:=hu n h';omega,xE fun n h'=>by have:=hb n h';omega,xE fun n h'=>by have:=hc n h';omega,xE fun n h'=>by have:=hn n h';omega,Jn h1.1]
theorem TblB.ok{t:TabM}(h:TblB t)(hl:∀x∈t.lt,x<2^64)(hr:∀x∈t.rt,x<2^64):Gs (yZ t)/\yf (yZ t)=t:=by
 obtain⟨l1,l2⟩:=h.l.ok hl;obtain⟨r1,r2⟩:=h.rt.ok hr;have e:(2:Nat)^20=1048576:=zd;have a1:(2:Nat)^36<=2^64:=zd;have a0:(2:Nat)^40<=2^64:=zd;have h1:=h.r;have h2:=h.ig;have h3:=h.kp;have h4:=h.br;refine⟨⟨by show t.rules.toNat<=_;omega,by show t.ig<_;omega,by show t.kp<_;omega,by show t.br<_;omega,rH (by have:=h.g.1;omega) fun n hn=>by have:=h.g.2 n hn;omega,l1,r1⟩,?_⟩;obtain⟨ig,kp,br,ru,gr,lf,lt,rg,rt⟩:=t;have hg:=h.g.2;dsimp only at h1 hg l2 r2;unfold yf yZ;dsimp only;rw[xE fun n h'=>by have:=hg n h';omega,l2,r2,Jn h1.1];rfl
def lU(n c:Nat):Nat:=((n ^^^ c)*1099511628211) % 2^64
def nJ(l:List UInt8)(n:Nat):Nat:=l.foldl (fun n c=>lU n c.toNat) n
def sU(l:List UInt8):Nat:=nJ l 14695981039346656037
theorem pF(n c:Nat):lU n c<2^64:=by unfold lU;exact Ja _ (If 64)
theorem dZ(c:UInt8)(l:List UInt8)(n:Nat):nJ (c::l) n=nJ l (lU n c.toNat):=by unfold nJ;rw[KI]
theorem Bf{M:Nat}(hM:∀n c,lU n c<M)(l:List UInt8):∀(n:Nat),n<M->nJ l n<M:=by
 induction l with
 |nil=>intro n h;exact h
 |cons c l ih=>intro n _;rw[dZ];exact ih _ (hM _ _)
theorem CK(l:List UInt8)(n:Nat)(h:n<2^64):nJ l n<2^64:=Bf pF l n h
theorem pG(l:List UInt8):sU l<2^64:=CK l _ zd
theorem ve{a:Nat}(h:a<2^64):((a*1099511628211) % 2^64*14886173955864302971) % 2^64=a:=by
 rw[Nat.mod_mul_mod,KW,<-Nat.mul_mod_mod,show 1099511628211*14886173955864302971 % 2^64=1 from by decide,IK,JH h]
theorem De{a b:Nat}(ha:a<2^64)(hb:b<2^64)(h:(a*1099511628211) % 2^64=(b*1099511628211) % 2^64):a=b:=by
 rw[<-ve ha,<-ve hb,h]
theorem qO{a b c:Nat}(h:a ^^^ c=b ^^^ c):a=b:=by
 have:=congrArg (· ^^^ c) h;simpa[Nat.xor_assoc,Nat.xor_self]using this
theorem qN{a b c:Nat}(h:c ^^^ a=c ^^^ b):a=b:=qO (by rw[KZ a c,KZ b c];exact h)
theorem fc(c:UInt8):c.toNat<2^64:=Nat.lt_trans c.toNat_lt zd
theorem uP{a b c d:Nat}(ha:a<2^64)(hb:b<2^64)(hc:c<2^64)(hd:d<2^64)(h:lU a c=lU b d):a ^^^ c=b ^^^ d:=
 De (Jr ha hc) (Jr hb hd) h
theorem yF{M:Nat}(hM:∀n c,lU n c<M)(hi:∀a b (c:UInt8),a<M->b<M->lU a c.toNat=lU b c.toNat->a=b)(l:List UInt8):∀ {a b:Nat},a<M->b<M->nJ l a=nJ l b->a=b:=by
 induction l with
 |nil=>intro a b _ _ h;exact h
 |cons c l ih=>intro a b ha hb h;rw[dZ,dZ]at h;exact hi a b c ha hb (ih (hM _ _) (hM _ _) h)
theorem yE{M:Nat}(hM:∀n c,lU n c<M)(hi:∀a b (c:UInt8),a<M->b<M->lU a c.toNat=lU b c.toNat->a=b)(hj:∀a (c d:UInt8),a<M->lU a c.toNat=lU a d.toNat->c=d)(l:List UInt8):∀(k:Nat) (x:UInt8) (n:Nat),n<M->k<l.length->x≠nth l k->nJ (l.set k x) n≠nJ l n:=by
 induction l with
 |nil=>intro k x n _ h;exact absurd h (IN _)
 |cons c l ih=>
  intro k x n hn hk hx h
  cases k with
  |zero=>
   rw[ax]at hx;rw[List.set_cons_zero,dZ,dZ]at h;exact hx (hj n x c hn (yF hM hi l (hM _ _) (hM _ _) h))
  |succ k=>
   rw[bA]at hx;rw[List.set_cons_succ,dZ,dZ]at h;exact ih k x _ (hM _ _) (by simpa using hk) hx h
theorem Be(l:List UInt8)(k:Nat)(x:UInt8)(n:Nat)(hn:n<2^64)(hk:k<l.length)(hx:x≠nth l k):nJ (l.set k x) n≠nJ l n:=
 yE pF (fun _ _ c ha hb h=>qO (uP ha hb (fc c) (fc c) h)) (fun _ c d ha h=>UInt8.toNat_inj.1 (qN (uP ha ha (fc c) (fc d) h))) l k x n hn hk hx
def le8(n:Nat):List UInt8:=(Lb 8).map fun i=>G7 (n / 2^(8*i))
theorem fO(n:Nat):(le8 n).length=8:=by simp[le8]
theorem Gy:∀(k a b:Nat),a<256^k->b<256^k->(∀i,i<k->a / 2^(8*i) % 256=b / 2^(8*i) % 256)->a=b
 |0,a,b,ha,hb,_=>by rw[L0]at ha hb;omega
 |k+1,a,b,ha,hb,h=>by
  have h0:=h 0 (Nat.succ_pos k);rw[L1,L0,La,La]at h0;have ih:=Gy k (a / 256) (b / 256) (Ji (by rw[JC,<-JB];exact ha)) (Ji (by rw[JC,<-JB];exact hb)) fun i hi=>by
   have e:=h (i+1) zo;have e2:∀x:Nat,x / 256 / 2^(8*i)=x / 2^(8*(i+1)):=fun x=>by
    rw[K0,show 8*(i+1)=8+8*i from by omega,L7]
   rw[e2,e2];exact e
  omega
theorem Dk{a b:Nat}(ha:a<2^64)(hb:b<2^64)(h:le8 a=le8 b):a=b:=by
 have a0:∀i,i<8->a / 2^(8*i) % 256=b / 2^(8*i) % 256:=fun i hi=>by
  have e:nth (le8 a) i=nth (le8 b) i:=by rw[h]
  unfold le8 at e;rw[az (by simpa using hi),az (by simpa using hi),J3,J3,Kg]at e;have e:=congrArg JY e
  rwa[IB,IB]at e
 exact Gy 8 a b (by rw[show 256^8=2^64 from by decide];exact ha) (by rw[show 256^8=2^64 from by decide];exact hb) a0
def cM(b:List UInt8):List UInt8:=b++le8 (sU b)
theorem qZ(b:List UInt8):(cM b).length=b.length+8:=by rw[cM,ka,fO]
theorem Bi{b:List UInt8}{k:Nat}{x:UInt8}(hk:k<b.length+8)(hx:x≠nth (cM b) k):cM (((cM b).set k x).take b.length)≠(cM b).set k x:=fun h=>by
 by_cases hb:k<b.length
 ·have e1:(cM b).set k x=b.set k x++le8 (sU b):=by unfold cM;rw[List.set_append_left _ _ hb]
  have e2:((cM b).set k x).take b.length=b.set k x:=by rw[e1,Im (by simp),G9 (by simp)]
  rw[e2,e1]at h;have h:=List.append_cancel_left (h:b.set k x++_=_);have hn:nth (cM b) k=nth b k:=by unfold cM;rw[ay,if_pos hb]
  rw[hn]at hx;exact Be b k x _ zd hb hx (Dk (pG _) (pG _) h)
 have e2:((cM b).set k x).take b.length=b:=by
  unfold cM;rw[List.set_append_right _ _ zo,Im zo,G9 (I5 _)]
 rw[e2]at h;refine hx ?_;have hl:k<(cM b).length:=by rw[qZ];exact hk
 have:nth ((cM b).set k x) k=x:=by rw[az (by simpa using hl),K2]
 rw[<-h]at this;exact this.symm
theorem oR{p:K9}{tl:List Nat}{many a0:Nat}(h:gp p tl many a0=true):∀x∈tl,x<2^a0:=fun x hx=>by
 unfold gp at h;simp only[I2,Iq]at h;obtain⟨⟨_,h5⟩,_⟩:=h;obtain⟨j,hj,rfl⟩:=GQ hx;have:=bX.1 h5 j hj;have:nth tl j / 2^a0=0:=by simpa using this
 exact(Jb (If _)).1 this
theorem jf{t:TabM}(h:bq t=true):(∀x∈t.lt,x<2^64)/\∀x∈t.rt,x<2^64:=by
 have hr:=(gE h).r;have hp:2^t.rules.toNat<=2^64:=Ih zd zo;unfold bq at h;simp only[I2]at h;exact⟨fun x hx=>Io (oR h.1.2 x hx) hp,fun x hx=>Io (oR h.2 x hx) hp⟩
def hdrW:List UInt8:=[86,82,71,49]
def vI(t:TabM):List UInt8:=hdrW++DJ (yZ t)
def mT(t:TabM):List UInt8:=cM (vI t)
def oe(l:List UInt8):Except Int TabM:=
 if l.length<12\/l.take 4≠hdrW then .error 4
 else if cM (l.take (l.length-8))≠l then .error 10
 else match FD ((l.take (l.length-8)).drop 4)with
  |some (t,r)=>if r≠[]\/bq (yf t)=false then .error 4 else .ok (yf t)
  |none=>.error 4
theorem vH(t:TabM):4<=(vI t).length:=by unfold vI hdrW;simp
theorem lZ(t:TabM):(mT t).length=(vI t).length+8:=qZ _
theorem su(t:TabM):(mT t).take ((mT t).length-8)=vI t:=by
 rw[lZ,Ku];unfold mT cM;rw[Im (I5 _),G9 (I5 _)]
theorem mS(t:TabM):(mT t).take 4=hdrW:=by
 unfold mT cM vI;rw[G0,Im zd,G9 zd]
theorem AA{t:TabM}(h:bq t=true):oe (mT t)=.ok t:=by
 obtain⟨h1,h2⟩:=jf h;obtain⟨h3,h4⟩:=(gE h).ok h1 h2;have hl:=lZ t;have hb:=vH t;unfold oe;rw[if_neg (by rw[mS];simp;omega),su,if_neg (by simp[mT])];have e:(vI t).drop 4=DJ (yZ t):=by unfold vI;rw[List.drop_append_of_le_length zd,List.drop_of_length_le zd,IL]
 rw[e,(uO _ (yZ t) []).2 ⟨by rw[IM],h3⟩];dsimp only;rw[h4,if_neg (by simp[h])]
theorem Au{l:List UInt8}{t:TabM}(h:oe l=.ok t):l=mT t/\bq t=true:=by
 unfold oe at h
 split at h
 ·cases h
 rename_i h1
 split at h
 ·cases h
 rename_i h2;have h2:cM (l.take (l.length-8))=l:=Is h2
 cases hd:FD ((l.take (l.length-8)).drop 4)with
 |none=>rw[hd]at h;cases h
 |some x=>
  obtain⟨q,r⟩:=x;rw[hd]at h;dsimp only at h
  split at h
  ·cases h
  rename_i h3;obtain rfl:=Lq h;have h3r:r=[]:=Is fun e=>h3 (.inl e)
  have h3t:bq (yf q)=true:=by
   cases e:bq (yf q)with
   |true=>rfl
   |false=>exact absurd (.inr e) h3
  subst h3r;obtain⟨e1,_⟩:=(uO _ _ _).1 hd;rw[IM]at e1;have h4:l.take 4=hdrW:=Is fun e=>h1 (.inr e)
  refine⟨?_,h3t⟩;rw[mT,vI,C0,<-e1,<-h4];have:l.take 4=(l.take (l.length-8)).take 4:=by rw[List.take_take,JO zo]
  rw[this,List.take_append_drop,h2]
theorem xH{l:List UInt8}{t:TabM}(h:oe l=.ok t):cM (l.take (l.length-8))=l:=by
 obtain⟨rfl,_⟩:=Au h;rw[su];rfl
theorem xG{t:TabM}{k:Nat}{x:UInt8}(hk:k<(mT t).length)(hx:x≠nth (mT t) k):oe ((mT t).set k x)=.error (if k<4 then 4 else 10):=by
 have hl:=lZ t;have hb:=vH t;have a0:((mT t).set k x).length=(mT t).length:=List.length_set;unfold oe
 by_cases h4:k<4
 ·rw[if_pos h4,if_pos];refine .inr fun e=>hx ?_
  have h1:nth (((mT t).set k x).take 4) k=x:=by
   rw[az (by simp;omega),Kv,K2]
  have h2:nth ((mT t).take 4) k=nth (mT t) k:=by
   rw[az (by simp;omega),Kv,az zo]
  rw[<-h1,<-h2,e,mS]
 rw[if_neg h4,if_neg,if_pos]
 ·rw[a0,hl,Ku];exact Bi (b:=vI t) zo hx
 rintro(e|e)
 ·omega
 rw[Kf zo,mS]at e;exact e rfl
def RdS{α:Type}(f:RdT α)(l:List UInt8)(b:Bool)(x:α)(l':List UInt8)(b':Bool):Prop:=
 (b'=true/\(b=true\/f l=none))\/(b'=false/\b=false/\f l=some (x,l'))
section
variable{α β:Type}{f:RdT α}{g:RdT β}{l l1 l2:List UInt8}{b b1 b2:Bool}{x:α}{y:β}
theorem RdS.bad(h:b=true\/f l=none):RdS f l b x l1 true:=.inl ⟨rfl,h⟩
theorem RdS.seq(h:RdS f l b x l1 b1)(k:RdS g l1 b1 y l2 b2):RdS (tk f g) l b (x,y) l2 b2:=by
 unfold tk
 rcases k with⟨k1,k2⟩|⟨k1,k2,k3⟩
 ·refine .inl ⟨k1,?_⟩
  rcases h with⟨h1,h2⟩|⟨h1,h2,h3⟩
  ·rcases h2 with h2|h2
   ·exact .inl h2
   exact .inr (by dsimp only;rw[h2])
  rcases k2 with k2|k2
  ·rw[h1]at k2;cases k2
  exact .inr (by dsimp only;rw[h3];dsimp only;rw[k2])
 rcases h with⟨h1,h2⟩|⟨h1,h2,h3⟩
 ·rw[h1]at k2;cases k2
 exact .inr ⟨k1,h2,by dsimp only;rw[h3];dsimp only;rw[k3]⟩
end
def WNum(l0:List UInt8)(b0:Bool)(i n:Nat)(l:List UInt8)(b:Bool):Prop:=
 (b=true/\(b0=true\/gH 0 l0=none))\/(b=false/\b0=false/\i<=9/\n<128^i/\gH 0 l0=match gH i l with
  |some (m,r)=>some (n+128^i*m,r)
  |none=>none)
theorem xX(l:List UInt8)(b:Bool):WNum l b 0 0 l b:=by
 cases b with
 |true=>exact .inl ⟨rfl,.inl rfl⟩
 |false=>
  refine .inr ⟨rfl,rfl,zd,zd,?_⟩
  cases gH 0 l with
  |none=>rfl
  |some x=>simp
def nz(i:Nat)(c:UInt8):Bool:=(decide (i=9)&&decide (1<c.toNat))||(decide (0<i)&&decide (c.toNat=0))
theorem uX{i:Nat}{c:UInt8}{r:List UInt8}(h:nz i c=true):gH i (c::r)=none:=by
 unfold nz at h;simp only[JL,I2,decide_eq_true_eq]at h;unfold gH;rw[if_pos h]
theorem rM{i:Nat}{c:UInt8}{r:List UInt8}(h:nz i c=false):gH i (c::r)=if c.toNat<128 then some (c.toNat,r)else match gH (i+1) r with
  |some (m,r')=>some (c.toNat % 128+128*m,r')
  |none=>none:=by
 have hn:¬((i=9/\1<c.toNat)\/(0<i/\c.toNat=0)):=fun hn=>by
  have:nz i c=true:=by unfold nz;simpa only[JL,I2,decide_eq_true_eq]using hn
  rw[h]at this;cases this
 rw[gH,if_neg hn];rfl
theorem zf(i:Nat):128^i=2^(7*i):=by rw[Nat.pow_mul]
def Bs(i n:Nat)(c:UInt8):Nat:=n ||| ((c.toNat &&& 127)*2^(7*i) % 2^64)
theorem C9{i n:Nat}{c:UInt8}(h:n<2^64):Bs i n c<2^64:=IF h (Ja _ (If 64))
theorem zp{i n:Nat}{c:UInt8}(hi:i<=9)(hn:n<128^i)(hc:i=9->c.toNat<=1):Bs i n c=n+128^i*(c.toNat % 128):=by
 have hm:c.toNat &&& 127=c.toNat % 128:=JI c.toNat 7;unfold Bs;rw[hm,<-zf];have a0:c.toNat % 128*128^i<2^64:=by
  have h1:c.toNat % 128<128:=Ja _ zd
  rcases Nat.lt_or_ge i 9 with h9|h9
  ·have h2:128^i<=128^8:=Ih zd zo;exact Js (KS (Nat.le_of_lt_succ h1) h2) zd
  obtain rfl:i=9:=zo;have h3:c.toNat % 128<=1:=by have:=hc rfl;omega
  exact Js (KS h3 (I5 _)) zd
 rw[JH a0,JC (c.toNat % 128),zf,L8,Nat.add_comm];refine(JQ (i:=7*i) ?_ _).symm;rw[<-zf];exact hn
theorem D4{i:Nat}{c:UInt8}(h:nz i c=false):i=9->c.toNat<=1:=fun hi=>by
 unfold nz at h;subst hi;simp only[decide_true,Bool.true_and,Iu,decide_eq_false_iff_not]at h;omega
theorem WNum.empty{l0:List UInt8}{b0:Bool}{i n:Nat}{b:Bool}(h:WNum l0 b0 i n [] b):b0=true\/gH 0 l0=none:=by
 rcases h with⟨_,h⟩|⟨_,_,_,_,h⟩
 ·exact h
 exact .inr (by rw[h];rfl)
theorem WNum.fin{l0:List UInt8}{b0:Bool}{i n:Nat}{b:Bool}{c:UInt8}{r:List UInt8}(h:WNum l0 b0 i n (c::r) b)(hc:c.toNat<128):RdS (gH 0) l0 b0 (Bs i n c) r (b||nz i c):=by
 rcases h with⟨h1,h2⟩|⟨h1,h2,h3,h4,h5⟩
 ·rw[h1,KX];exact RdS.bad h2
 rw[h1,JW]
 cases hb:nz i c with
 |true=>exact RdS.bad (.inr (by rw[h5,uX hb]))
 |false=>exact .inr ⟨rfl,h2,by rw[h5,rM hb,if_pos hc,zp h3 h4 (D4 hb),JH hc]⟩
theorem WNum.step{l0:List UInt8}{b0:Bool}{i n:Nat}{b:Bool}{c:UInt8}{r:List UInt8}(h:WNum l0 b0 i n (c::r) b)(hc:¬c.toNat<128):WNum l0 b0 (i+1) (Bs i n c) r (b||nz i c):=by
 rcases h with⟨h1,h2⟩|⟨h1,h2,h3,h4,h5⟩
 ·rw[h1,KX];exact .inl ⟨rfl,h2⟩
 rw[h1,JW]
 cases hb:nz i c with
 |true=>exact .inl ⟨rfl,.inr (by rw[h5,uX hb])⟩
 |false=>
  have h9:=D4 hb;have hi:i≠9:=fun e=>by have:=h9 e;omega
  have ho:=zp h3 h4 h9;have hm:c.toNat % 128<128:=Ja _ zd;have hp:128^(i+1)=128^i*128:=JB _ _;refine .inr ⟨rfl,h2,zo,?_,?_⟩
  ·rw[ho,hp];have:128^i*(c.toNat % 128)<=128^i*127:=Nat.mul_le_mul_left _ zo;omega
  rw[h5,rM hb,if_neg hc]
  cases hr:gH (i+1) r with
  |none=>rfl
  |some q=>
   obtain⟨m,s⟩:=q;dsimp only;rw[ho,hp,Nat.mul_add,KW,Nat.add_assoc]
theorem WNum.over{l0:List UInt8}{b0:Bool}{n:Nat}{l:List UInt8}{b:Bool}(h:WNum l0 b0 10 n l b):b0=true\/gH 0 l0=none:=by
 rcases h with⟨_,h⟩|⟨_,_,h,_⟩
 ·exact h
 exact absurd h zd
theorem RdS.small{l l':List UInt8}{b b':Bool}{n:Nat}(h:RdS (gH 0) l b n l' b')(hn:¬2^20<n):RdS smR l b n l' b':=by
 unfold smR
 rcases h with⟨h1,h2⟩|⟨h1,h2,h3⟩
 ·refine .inl ⟨h1,?_⟩
  rcases h2 with h2|h2
  ·exact .inl h2
  exact .inr (by dsimp only;rw[h2])
 exact .inr ⟨h1,h2,by dsimp only;rw[h3];dsimp only;rw[if_neg hn]⟩
theorem RdS.great{l l' l2:List UInt8}{b b':Bool}{n x:Nat}(h:RdS (gH 0) l b n l' b')(hn:2^20<n):RdS smR l b x l2 true:=by
 unfold smR
 rcases h with⟨h1,h2⟩|⟨h1,h2,h3⟩
 ·refine .inl ⟨rfl,?_⟩
  rcases h2 with h2|h2
  ·exact .inl h2
  exact .inr (by dsimp only;rw[h2])
 exact .inl ⟨rfl,.inr (by dsimp only;rw[h3];dsimp only;rw[if_pos hn])⟩
def LstI{α:Type}(f:RdT α)(m:Nat)(l0:List UInt8)(b0:Bool)(k:Nat)(xs:List α)(l:List UInt8)(b:Bool):Prop:=
 (b=true/\(b0=true\/eS f m l0=none))\/(b=false/\b0=false/\eS f m l0=match eS f k l with
  |some (ys,r)=>some (xs++ys,r)
  |none=>none)
theorem px{α:Type}(f:RdT α)(m:Nat)(l:List UInt8)(b:Bool):LstI f m l b m [] l b:=by
 cases b with
 |true=>exact .inl ⟨rfl,.inl rfl⟩
 |false=>
  refine .inr ⟨rfl,rfl,?_⟩
  cases eS f m l with
  |none=>rfl
  |some x=>simp
theorem LstI.step{α:Type}{f:RdT α}{m:Nat}{l0:List UInt8}{b0:Bool}{k:Nat}{xs:List α}{l l':List UInt8}{b b':Bool}{x:α}(h:LstI f m l0 b0 (k+1) xs l b)(s:RdS f l b x l' b'):LstI f m l0 b0 k (xs++[x]) l' b':=by
 rcases h with⟨h1,h2⟩|⟨h1,h2,h3⟩
 ·rcases s with⟨s1,s2⟩|⟨s1,s2,s3⟩
  ·exact .inl ⟨s1,h2⟩
  rw[h1]at s2;cases s2
 rcases s with⟨s1,s2⟩|⟨s1,s2,s3⟩
 ·refine .inl ⟨s1,.inr ?_⟩
  rcases s2 with s2|s2
  ·rw[h1]at s2;cases s2
  rw[h3,eS,s2]
 refine .inr ⟨s1,h2,?_⟩;rw[h3,eS,s3];dsimp only
 cases eS f k l' with
 |none=>rfl
 |some q=>obtain⟨ys,r⟩:=q;dsimp only;rw[G0];rfl
theorem LstI.done{α:Type}{f:RdT α}{m:Nat}{l0:List UInt8}{b0:Bool}{k:Nat}{xs:List α}{l:List UInt8}{b:Bool}(h:LstI f m l0 b0 k xs l b)(hk:k=0\/b=true):RdS (eS f m) l0 b0 xs l b:=by
 rcases h with⟨h1,h2⟩|⟨h1,h2,h3⟩
 ·exact .inl ⟨h1,h2⟩
 rcases hk with rfl|hk
 ·exact .inr ⟨h1,h2,by rw[h3,eS];simp⟩
 rw[h1]at hk;cases hk
theorem RdS.lst{α:Type}{f:RdT α}{l l1 l2:List UInt8}{b b1 b2:Bool}{n:Nat}{xs:List α}(h:RdS smR l b n l1 b1)(k:RdS (eS f n) l1 b1 xs l2 b2):RdS (fun l=>match smR l with
  |some (n,r)=>eS f n r
  |none=>none) l b xs l2 b2:=by
 rcases h with⟨h1,h2⟩|⟨h1,h2,h3⟩
 ·rcases k with⟨k1,k2⟩|⟨k1,k2,k3⟩
  ·refine .inl ⟨k1,?_⟩
   rcases h2 with h2|h2
   ·exact .inl h2
   exact .inr (by dsimp only;rw[h2])
  rw[h1]at k2;cases k2
 rcases k with⟨k1,k2⟩|⟨k1,k2,k3⟩
 ·refine .inl ⟨k1,.inr ?_⟩
  rcases k2 with k2|k2
  ·rw[h1]at k2;cases k2
  dsimp only;rw[h3];exact k2
 exact .inr ⟨k1,h2,by dsimp only;rw[h3];exact k3⟩
theorem RdS.lstR{l l1 l2:List UInt8}{b b1 b2:Bool}{n:Nat}{xs:List Nat}(h:RdS smR l b n l1 b1)(k:RdS (eS smR n) l1 b1 xs l2 b2):RdS Jv l b xs l2 b2:=h.lst k
theorem RdS.telR{l l1 l2:List UInt8}{b b1 b2:Bool}{n:Nat}{xs:List Nat}(h:RdS smR l b n l1 b1)(k:RdS (eS (gH 0) n) l1 b1 xs l2 b2):RdS Ju l b xs l2 b2:=h.lst k
end Go.Proofs.YtpfpmhhigheccaaGreatDoor
namespace Go.VL
theorem wrap_u64(a:Nat):JA.wrap (a:Int)=((a % 2^64:Nat):Int):=by
 simp[KJ,KK,Kx]
theorem wrap_u8(a:Nat):Ly.wrap (a:Int)=((a % 2^8:Nat):Int):=by
 simp[KJ,KK,Kx]
section
variable{P:Kr}{N:Nat}{st:St}{w:G1}
variable{t xt yt:Iw}{x y:JN}{k:Lp}{m n:Int}{a b:Nat}
theorem CM(ha:(a:Int)<=k.max)(hb:(b:Int)<=k.max):(binOp .xor xt (.int k a) (.int k b)).run P w=.ok (.int k ((a ^^^ b:Nat):Int)) w:=by
 rw[binOp_xor];have h:((a ^^^ b:Nat):Int)<=k.max:=(kM k _).2 (Jr ((kM k a).1 ha) ((kM k b).1 hb));simp only[Op.intBits,BitVec.toNat_xor,eQ _ _ (max_lt k ha),eQ _ _ (max_lt k hb),lR k h];rfl
theorem uz(hx:ev st x=some (.int k m))(hy:ev st y=some (.int k n))(hm:m=a)(hn:n=b)(ha:(a:Int)<=k.max)(hb:(b:Int)<=k.max):RV P N (.binOp .xor xt x y yt) t st w (.int k ((a ^^^ b:Nat):Int)):=by
 subst hm;subst hn;exact dx hx hy (CM ha hb)
theorem AT(hx:ev st x=some (.int .u64 m))(hy:ev st y=some (.int .u64 n))(hm:m=a)(hn:n=b):RV P N (.binOp .mul xt x y yt) t st w (.int .u64 ((a*b % 2^64:Nat):Int)):=by
 subst hm;subst hn;refine dx hx hy ?_;rw[yQ,show(a:Int)*(b:Int)=((a*b:Nat):Int)from by simp,wrap_u64]
theorem DD{k':Lp}(hx:ev st x=some (.int .u64 m))(hy:ev st y=some (.int k' n))(hm:m=a)(hn:n=b)(hb:b<=64):RV P N (.binOp .shl xt x y yt) t st w (.int .u64 ((a*2^b % 2^64:Nat):Int)):=by
 subst hm;subst hn;refine dx hx hy ?_;rw[binOp_shl];have h1:¬(b:Int)<0:=zo;simp only[Op.shift,if_neg h1,Ir,JO (show b<=JA.bits from hb)];have h3:(a:Int)*2^b=((a*2^b:Nat):Int):=by simp
 rw[h3,wrap_u64];rfl
theorem vQ{a0:TypeDesc}{k:Lp}(hs:P.underlying xt=some a0)(a1:P.underlying yt=some (.int .u8))(hx:ev st x=some (.int k m))(hm:m=a):RV P N (.convert xt yt x) t st w (.int .u8 ((a % 2^8:Nat):Int)):=by
 subst hm;have:=iM (t:=t) (w:=w) (N:=N) hs a1 hx
 rwa[wrap_u8]at this
end
structure BufT{α:Type}(val:α->ix)(E:Iw)(O:Nat->Nat)(w:G1)(i:Nat)(v:ix)(l:List α):Prop where
 row:(v=nS/\l=[])\/∃g cap cur fz,v=.slice (some ⟨g,0,none⟩) l.length cap/\w.heap[g]? = some (.cells cur E fz)/\(∀j,j<cap->¬(fz.1<=j/\j<fz.2))/\l.length<=cap/\cap<=maxLen/\cur.size=cap/\cur.toList.take l.length=l.map val
 tag:∀g,v.ownBlock=some g->O g=i
theorem tY{α:Type}(val:α->ix)(l:List α):l.flatMap (fun x=>[val x])=l.map val:=by induction l<;>simp_all
theorem vP{α:Type}{val:α->ix}{E:Iw}{O:Nat->Nat}{w:G1}{i:Nat}{v:ix}{l:List α}(h:JG (fun x=>[val x]) E 1 O w i v l):BufT val E O w i v l:=by
 refine⟨?_,h.1.tag⟩
 rcases h.1.row.2 with⟨h1,h2⟩|⟨g,a1,a0,h1,_,h3,h4,h5,h6,h7⟩
 ·exact .inl ⟨h1,JJ h2⟩
 rw[IK]at h6 h7;exact .inr ⟨g,a1,a0,(0,0),h1,h3,fun j _ hj=>absurd hj.2 (IN _),h4,h5,h6,h7.trans (tY val l)⟩
theorem BufT.upd{α:Type}{val:α->ix}{S:Nat->Prop}{O O':Nat->Nat}{w w':G1}{i:Nat}{E:Iw}{v:ix}{l:List α}(h:BufT val E O w i v l)(u:Ia S O w O' w')(hi:i≠0)(hS:¬S i):BufT val E O' w' i v l:=by
 refine⟨?_,fun g hg=>?_⟩
 ·rcases h.row with h1|⟨g,a1,a0,fz,h1,h3,h4⟩
  ·exact .inl h1
  have ht:=h.tag g (by rw[h1];rfl);exact .inr ⟨g,a1,a0,fz,h1,(u.blk g (bu h3) (by rw[ht];exact hS)).trans h3,h4⟩
 have:=h.tag g hg;rw[u.tag g (by rw[this];exact hi),this]
theorem BufT.drew{α:Type}{val:α->ix}{O:Nat->Nat}{w:G1}{i:Nat}{E:Iw}{v:ix}{l:List α}(h:BufT val E O w i v l):BufT val E O w.drew i v l:=⟨h.row,h.tag⟩
theorem BufT.sl{α:Type}{val:α->ix}{E:Iw}{O:Nat->Nat}{w:G1}{i:Nat}{v:ix}{l:List α}(h:BufT val E O w i v l):Sl (fun x=>[val x]) 1 w v l:=by
 rcases h.row with⟨rfl,rfl⟩|⟨g,a0,a3,fz,rfl,hg,_,a1,a2,_,ht⟩
 ·exact⟨⟨none,0,rfl,I5 _,zo,fun h=>absurd rfl h⟩,fun i hi=>absurd hi (by simp)⟩
 refine⟨⟨_,a0,rfl,a1,by simpa[maxLen]using a2,fun _=>⟨g,0,rfl⟩⟩,fun i hi j u hu=>?_⟩;obtain rfl:j=0:=by have:=(I7.1 hu).1;simpa using this
 rw[aB];have ha:adr (.slice (some ⟨g,0,none⟩) l.length a0) 1 i=⟨g,i,none⟩:=by simp[adr]
 have h1:(l.map val)[i]? = some u:=by simpa[hi]using hu
 rw[<-ht,Kh,if_pos hi]at h1;rw[ha,cell_of_row w g i a3 E fz hg];simpa using h1
theorem BufT.newV{α:Type}{val:α->ix}{E:Iw}{B:Nat}{O:Nat->Nat}{w:G1}{i:Nat}{v:ix}{l:List α}(h:BufT val E O w i v l)(hi:i≠0)(r:IY B O w):Ke B v:=fun a n c e _=>by
 subst e;have h1:=h.tag a.block rfl;exact(r.rng a.block (by rw[h1];exact hi)).1
theorem nM{P:Kr}{w:G1}{T ty E:Iw}{a4:Nat}(he:LA P T E 1 a4){α:Type}{val:α->ix}{B:Nat}{O:Nat->Nat}(r:IY B O w){i:Nat} 
  {v:ix} {l:List α} (a5:BufT val E O w i v l) (a:Addr) (u:α) (hu:w.cell? a=some (val u)) (h1:(val u).oneCell'=true)
  (a1:(l.length+1)*a4<=140737488355328) (c8:l.length+1<=9223372036854775807) (b4:i≠0) :
  ∃v' w' O',(LC #[T,T] ty #[v,.slice (some a) 1 1]).run P w=.ok v' w'/\BufT val E O' w' i v' (l++[u])/\Ia (fun k=>k=i) O w O' w':=by
 have b2:¬(0=i):=fun h=>b4 h.symm
 have c7:a.add 0=a:=by unfold Kc;split<;>simp_all
 have a0:∀j x,[val u][j]? = some x->w.cell? (a.add j)=some x:=fun j x hx=>by
  obtain rfl:j=0:=by have:=(I7.1 hx).1;simpa using this
  rw[c7,hu];simpa using hx
 rcases a5.row with⟨rfl,rfl⟩|⟨g,a3,a8,fz,rfl,hg,b5,c9,b',b9,ht⟩
 ·have hr:RowO O w i E 1 (nS) 0 []:=RowO.nil _ _ _ _ _;obtain⟨v',w',O',h2,h3,h4⟩:=eE (P:=P) (ty:=ty) he r hr a 1 1 [val u] rfl a0 (by simpa using h1) (by simpa using a1) zo b4;exact⟨v',w',O',h2,vP (l:=[u]) ⟨h3,by simp⟩,h4⟩
 obtain⟨b1,z,hi,hz,a6,c6,b6⟩:=he.parts;have b3:=he.ht;have a':O g=i:=a5.tag g rfl
 by_cases a2:l.length+1<=a3
 ·have c5:w.cell? ⟨g,l.length,none⟩=some (a8[l.length]'(zo)):=by
   rw[cell_of_row w g l.length a8 E fz hg];exact Array.getElem?_eq_getElem zo
  have hr:=run_append_room_cells (P:=P) (w:=w) T ty E b1 b3 hi g 0 l.length a3 a 1 1 [val u] (by simp[a6]) a0 (by simpa using h1) a2
   (fun j hj=>by
    obtain rfl:j=0:=by simpa using hj
    simp only[a6,IK,JZ,L2,c5];rfl)
   (fun j hj=>by
    obtain rfl:j=0:=by simpa using hj
    simp only[a6,IK,JZ,L2,World.frozen?,hg];have:=b5 l.length zo
    simpa[Nat.not_lt]using this)
  simp only[a6,IK,JZ,World.setCells]at hr;refine⟨_,_,O,hr,⟨.inr ⟨g,a3,a8.setIfInBounds l.length (val u),fz,by simp,?_,b5,by simpa using a2,b',by simpa using b9,?_⟩,fun g' a9=>a5.tag g' a9⟩,IW b2 (i:=i) a' rfl⟩
  ·simp only[World.setCell,Array.getElem?_modify,if_pos];rw[hg];simp
  rw[Array.toList_setIfInBounds,ka,ln,JK,Ip,Jy];have b7:l.length<a8.toList.length:=by simp;omega
  rw[List.take_succ_eq_append_getElem (by simpa using b7),Kf (I5 _),ht];simp
 have a7:∀j x,(l.map val)[j]? = some x->w.cell? (nA g j)=some x:=fun j x hx=>by
  have hj:j<l.length:=by simpa using(I7.1 hx).1
  have ha:(nA g j)=⟨g,j,none⟩:=by simp only[Kc];split<;>simp_all
  rw[<-ht,Kh,if_pos hj]at hx;rw[ha,cell_of_row w g j a8 E fz hg];simpa using hx
 have hr:=run_append_grow (P:=P) w T ty E b1 z b3 hi hz ⟨g,0,none⟩ l.length a3 (l.map val) (by simp[a6]) a7 a 1 1 [val u] (by simp[a6]) a0 zo zo (growslice_fits zo (by rw[c6];exact a1));have b8:=grownCap_ge w (l.length+1) a3 E;have b0:grownCap w (l.length+1) a3 E<=maxLen:=grownCap_le_maxLen w (l.length+1) a3 E (by simpa[maxLen]using c8);have u0:=KH (S:=fun k=>k=i) (w:=w.drew) b2 (B:=B) ⟨r.le,r.rng⟩ (.cells ((l.map val).toArray++[val u].toArray++LB z.cells (grownCap w (l.length+1) a3 E-(l.length+1))) E) i;refine⟨_,_,ly O w.heap.size i,hr,⟨.inr ⟨w.heap.size,_,_,(0,0),by simp,heap_alloc_new w.drew _,fun j _ hj=>absurd hj.2 (IN _),by simpa using b8,b0,?_,?_⟩,?_⟩,⟨u0.os,u0.tape,u0.output,u0.size,u0.blk,u0.tag,u0.new,u0.z⟩⟩
 ·simp only[Array.size_append,List.size_toArray,Ie,ln,size_zeroCells,b6,IK];omega
 ·simp only[Array.toList_append,G0];rw[<-G0,show(l++[u]).length=(l.map val++[val u]).length from by simp,List.take_left];simp
 intro g' a9;simp[Jf]at a9;subst a9;exact dA _ _ _
section
variable{P:Kr}{N:Nat}{ops:Array Ln}{Q:Exit→Act→G1→Prop}{rest:List Ln}{st:St}{w:G1}
variable{t t' xt yt:Iw}{p p':String}{e e':Array Edge}{d d':Nat}{x y z:JN}
theorem qt{T E:Iw}{a0:Nat}(he:LA P T E 1 a0){α:Type}{val:α->ix}{B:Nat}{O:Nat->Nat}{i:Nat}{v:ix}{l:List α}(hr:BufT val E O w i v l)(r:IY B O w)(u:α){xv:ix} 
  (hv:∀c,ev ((d,c)::st) y=some v) (hx:ev st x=some xv) (a':xv=val u) (a2:(val u).oneCell'=true)
  (hb:(l.length+1)*a0<=140737488355328) (b2:l.length+1<=9223372036854775807) (a6:i≠0) (hd:K1 d N=true) (b1:K1 d' N=true)
  (h:∀v' w' O',BufT val E O' w' i v' (l++[u])->Ia (fun k=>k=i) O w O' w'->IY B O' w'->WL P N ops Q rest ((d',v')::(d,.slice (some ⟨w.heap.size,0,none⟩) 1 1)::st) w') :
  WL P N ops Q (⟨some d,.buildSlice T 1 #[(0,x)],t,p,e,none⟩::⟨some d',.call ⟨.builtin .append,#[y,.tmp d],#[T,T]⟩,t',p',e',none⟩::rest) st w:=by
 subst a';obtain⟨a8,z,hi,hz,a3,b4,b3⟩:=he.parts;have a7:(val u).cells = #[val u]:=by generalize val u=c at a2;cases c<;>first|rfl|simp[Ib]at a2
 refine Kz (v:=.slice (some ⟨w.heap.size,0,none⟩) 1 1) (w':=w.alloc (.cells (val u).cells E)) hd (fun a ha=>?_) ?_
 ·have:=run_buildSlice (P:=P) w T E 1 #[(0,val u)] (val u).cells a8 z he.ht hi hz (by rw[a3];decide) (by rw[a3];decide) (by
   rw[a3]
   exact jX (by rw[a7];rfl) (by simp))
  simp only[execOp,J1,Ip,Jy,ha.ev hx,J9,this,IC];rfl
 have a9:¬(fun k=>k=i) 0:=fun h=>a6 h.symm
 have hE:=Ext.alloc w (.cells (val u).cells E);have r1:=r.ext hE;have b0:BufT val E O (w.alloc (.cells (val u).cells E)) i v l:=hr.upd (aa (S:=fun _=>False) (fun h=>h) O hE) a6 (fun h=>h)
 obtain⟨v',w',O',a4,a5,a1⟩:=nM (P:=P) (ty:=t') he r1 b0 ⟨w.heap.size,0,none⟩ u (by
  rw[cell_of_row _ _ 0 (val u).cells E (0,0) (heap_alloc_new w _),a7];rfl) a2 hb b2 a6
 refine Kz (v:=v') (w':=w') b1 (fun a ha=>?_) ?_
 ·simp only[execOp,resolve,invoke,builtin,J9,Sem.run_pure,IC,J1,Ip,Jy,ha.ev (hv _),ha.ev (x:=.tmp d) (v:=.slice (some ⟨w.heap.size,0,none⟩) 1 1) (by simp[ev,cm]),a4]
 have hU:Ia (fun k=>k=i) O w O' w':=GZ (aa a9 O hE) a1;exact h v' w' O' a5 hU (r.upd hU)
end
section
variable{P:Kr}{N:Nat}{ops:Array Ln}{Q:Exit→Act→G1→Prop}{rest:List Ln}{st:St}{w:G1}
variable{t:Iw}{p:String}{e:Array Edge}{d:Nat}{op:Op}
theorem dP{v v':ix}(h:RV P N op t st w v)(e:v=v'):RV P N op t st w v':=e▸h
theorem ga{T E:Iw}{sz a1 n:Nat}(he:LA P T E sz a1){z:ix}{parts:List (Nat×JN)}{vs:List (Nat×ix)}(hz:(zeroValue E).run P w=.ok z w) 
  {α:Type} (enc:α->List ix) (xs:List α) {B:Nat} {O:Nat->Nat} (r:IY B O w) (i:Nat) (a7:i≠0) (hn:xs.length=n) (hv:evp st parts=some vs) (a5:Lt (n*sz) 16777216=true) (a3:Lu (n*sz) 0=false)
  (hf:L3 (fun i=>some (i*sz,sz)) ((KY (n*sz)).map (z.cells[· % z.cells.size]!)) vs=some (xs.flatMap enc).toArray) (a2:∀x∈xs,(enc x).length=sz) (hd:K1 d N=true)
  (h:∀v w' O',JG enc E sz O' w' i v xs->Ia (fun k=>k=i) O w O' w'->IY B O' w'->WL P N ops Q rest ((d,v)::st) w'):WL P N ops Q (⟨some d,.buildSlice T n parts.toArray,t,p,e,none⟩::rest) st w:=by
 subst hn;obtain⟨a8,z',hi,a',a6,b1,a9⟩:=he.parts;have a4:=Ka a5;have a0:¬xs.length*sz=0:=fun e=>by rw[e]at a3;simp at a3
 have b0:xs.length<=xs.length*sz:=Nat.le_mul_of_pos_right _ (Nat.pos_of_ne_zero fun e=>a0 (by rw[e,L1]));have u1:=KH (S:=fun k=>k=i) (fun e=>a7 e.symm) r (.cells (xs.flatMap enc).toArray E) i;have hE:(KO E).run P w=.ok sz w:=by simp[KO,typeInfo,hi,a6]
 refine Kz (v:=.slice (some ⟨w.heap.size,0,none⟩) xs.length xs.length) (w':=w.alloc (.cells (xs.flatMap enc).toArray E)) hd (fun a ha=>?_) (h _ _ (ly O w.heap.size i) ⟨⟨?_,fun g hg=>?_⟩,a2⟩ u1 (r.upd u1))
 ·have h1:=ha.evp hv;have e1:(KM (fun x:Nat×JN=>match x with|(i,x)=>(i,a.eval x)) parts)=vs:=by rw[<-h1]
  simp only[execOp,Ky,J1,e1,J9,run_underlying he.ht,IC,hE];rw[if_neg zo,if_neg a0];simp[hz,hf,newRow,newObj];rfl
 ·have:=World.ownsRow_lit (base:=0) (size:=sz) (e:=E) w (xs.flatMap enc).toArray xs.length (I3 _) (by simp[maxLen];omega) (by simpa using lY xs a2);simpa using this
 simp[Jf]at hg;subst hg;exact dA _ _ _
theorem qu{T E:Iw}{a0 n:Nat}{t':Iw}{p':String}{e':Array Edge}{d':Nat}(he:LA P T E 1 a0)(a8:P.underlying E=some (.int .u8)){z:ix}{parts:List (Nat×JN)}{vs:List (Nat×ix)}(hz:(zeroValue E).run P w=.ok z w) 
  {α:Type} (val:α->ix) (l:List α) {B:Nat} {O:Nat->Nat} (r:IY B O w) (i:Nat) (a6:i≠0) (hn:l.length=n) (hv:evp st parts=some vs) (a4:Lt (n*1) 16777216=true) (a2:Lu (n*1) 0=false)
  (hf:L3 (fun i=>some (i*1,1)) ((KY (n*1)).map (z.cells[· % z.cells.size]!)) vs=some (l.map val).toArray) (hd:K1 d N=true) (a7:K1 d' N=true)
  (h:∀v w' O',BufT val E O' w' i v l->Ia (fun k=>k=i) O w O' w'->IY B O' w'->WL P N ops Q rest ((d',v)::(d,v)::st) w') :
  WL P N ops Q (⟨some d,.buildSlice T n parts.toArray,t,p,e,none⟩::⟨some d',.convert T T (.tmp d),t',p',e',none⟩::rest) st w:=by
 subst hn;obtain⟨a9,z',hi,b0,a5,b1,a'⟩:=he.parts;have a3:=Ka a4;have a1:¬l.length*1=0:=fun e=>by rw[e]at a2;simp at a2
 have hE:(KO E).run P w=.ok 1 w:=by simp[KO,typeInfo,hi,a5]
 have u1:=KH (S:=fun k=>k=i) (fun e=>a6 e.symm) r (.cells (l.map val).toArray E ((l.map val).toArray.size,(l.map val).toArray.size+1)) i;refine Kz (v:=.slice (some ⟨w.heap.size,0,none⟩) l.length l.length) (w':=w.alloc (.cells (l.map val).toArray E)) hd (fun a ha=>?_) ?_
 ·have h1:=ha.evp hv;have e1:(KM (fun x:Nat×JN=>match x with|(i,x)=>(i,a.eval x)) parts)=vs:=by rw[<-h1]
  simp only[execOp,Ky,J1,e1,J9,run_underlying he.ht,IC,hE];rw[if_neg zo,if_neg a1];simp only[IK]at hf;simp[hz,hf,newRow,newObj];rfl
 refine Kz (v:=.slice (some ⟨w.heap.size,0,none⟩) l.length l.length) (w':=w.alloc (.cells (l.map val).toArray E ((l.map val).toArray.size,(l.map val).toArray.size+1))) a7 (fun a ha=>?_) (h _ _ (ly O w.heap.size i) ⟨.inr ⟨w.heap.size,l.length,_,_,rfl,heap_alloc_new w _,fun j hj hf=>?_,I5 _,?_,?_,?_⟩,fun g hg=>?_⟩ u1 (r.upd u1))
 ·simp only[execOp,ha.ev (x:=.tmp d) (v:=.slice (some ⟨w.heap.size,0,none⟩) l.length l.length) (by simp[ev,cm]),J9,Lib.run_convert_bytes_const w T E _ _ _ he.ht a8,IC];rfl
 ·have:=hf.1;simp at this;omega
 ·simp[maxLen];omega
 ·simp
 ·rw[G9 (by simp)]
 simp only[Jf,Le]at hg;subst hg;exact dA _ _ _
end
end Go.VL
namespace Go.Proofs.YtpfpmhhigheccaaGreatDoor
def grT(t:TabM)(c:Nat):Nat:=(nth t.groups c).toNat
def stL(t:TabM)(r c:Nat):Nat:=(getM t.left r (grT t c)).toNat
def stR(t:TabM)(r c:Nat):Nat:=(getM t.right r (grT t c)).toNat
structure OkT(t:TabM):Prop where
 okl:OkP t.left
 okr:OkP t.right
 gl:t.groups.length=37
 gr:∀c,c<37->0<=nth t.groups c/\nth t.groups c<64
 ll:t.lt.length=t.left.usual.length
 rl:t.rt.length=t.right.usual.length
 lp:0<t.left.usual.length
 rp:0<t.right.usual.length
 lst:∀r c,r<t.left.usual.length->c<37->0<=getM t.left r (grT t c)/\getM t.left r (grT t c)<t.left.usual.length
 rst:∀r c,r<t.right.usual.length->c<37->0<=getM t.right r (grT t c)/\getM t.right r (grT t c)<t.right.usual.length
 ig:t.ig<2^36
 kp:t.kp<2^36
 br:t.br<2^40
 lt:∀q∈t.lt,q<2^40
 rt:∀q∈t.rt,q<2^40
def FreeL(O:Nat->Nat)(w:G1)(cs:List ix):Prop:=∀v∈cs,Jj O w v
theorem FreeL.upd{S:Nat->Prop}{O O':Nat->Nat}{w w':G1}{cs:List ix}(h:FreeL O w cs)(u:Ia S O w O' w'):FreeL O' w' cs:=fun v hv=>(h v hv).upd u
theorem PartV.updF{S:Nat->Prop}{O O':Nat->Nat}{w w':G1}{cs:List ix}{p:K9}{tl:List Nat}(h:PartV w cs p tl)(n:FreeL O w cs)(u:Ia S O w O' w'):PartV w' cs p tl:=by
 obtain⟨uv,bv,kv,nv,tv,rfl,h1,h2,h3,h4,h5⟩:=h;exact⟨uv,bv,kv,nv,tv,rfl,h1.upd (n uv (by simp)) u,h2.upd (n bv (by simp)) u,h3.upd (n kv (by simp)) u,h4.upd (n nv (by simp)) u,h5.upd (n tv (by simp)) u⟩
theorem PartV.free0{w:G1}{cs:List ix}{p:K9}{tl:List Nat}(h:PartV w cs p tl):FreeL (fun _=>0) w cs:=fun v hv=>by
 obtain⟨uv,bv,kv,nv,tv,rfl,h1,h2,h3,h4,h5⟩:=h;simp only[GT,GS,or_false]at hv
 rcases hv with rfl|rfl|rfl|rfl|rfl|rfl
 ·exact fun a n c e=>by cases e
 ·exact h1.free0 (fun x=>by simp)
 ·exact h2.free0 (fun x=>by simp)
 ·exact h3.free0 (fun x=>by simp)
 ·exact h4.free0 (fun x=>by simp)
 exact h5.free0 (fun x=>by simp)
theorem elW:LA Ig 22 5 1 1:=⟨Ij,by kernel_rfl,zd⟩
abbrev lS(b:UInt8):ix:=.int .u8 (b.toNat:Int)
theorem mI{a:Nat}(h:a<2^64):(a:Int)<=JA.max:=by
 have:(a:Int)<=18446744073709551615:=zo;exact this
theorem qV(l:List UInt8)(c:UInt8)(n:Nat):nJ (l++[c]) n=lU (nJ l n) c.toNat:=by
 unfold nJ;rw[Jz,KI,List.foldl_nil]
theorem yC(l:List UInt8)(v:ix)(w:G1)(h:Sl mU 1 w v l):Jl Ig 11 [v] w fun u w'=>u=.int .u64 ((sU l:Nat):Int)/\w'=w:=by
 have hl:=h.len_le;have a1:sU l=nJ (l.take l.length) 14695981039346656037:=by rw[I1];rfl
 rw[a1];refine G4 func11 ntmps11 rfl rfl ?_;refine zh ?_;refine zlp (fun z:Nat×Nat=>[(3,.int .u64 ((z.2:Nat):Int)),(6,v),(7,nI l.length),(8,nI z.1)]) (fun z=>w) (fun z=>z.1<=l.length/\z.2=nJ (l.take z.1) 14695981039346656037/\z.2<2^64) (fun z=>l.length-z.1) (0,14695981039346656037) (⟨I3 _,rfl,zd⟩) ?_;rintro⟨q,n⟩ ⟨hq,hn,a2⟩;dsimp only at hq hn a2 ⊢;refine zh ?_;refine zC ?_ ?_
 ·intro a0;replace a0:q<l.length:=dT a0;have hc:=(nth l q).toNat_lt;have m1:w.cell? (adr v 1 q)=some (.int .u8 ((nth l q).toNat:Int)):=h.ld a0;have hs:lU n (nth l q).toNat=nJ (l.take (q+1)) 14695981039346656037:=by rw[aH a0,qV,<-hn]
  refine zh ?_;refine zv (dm Ii I6 rfl (Jd zo)) ?_
  refine zv (uz (a:=n) (b:=(nth l q).toNat) rfl rfl rfl rfl (mI a2) (mI (fc _))) ?_;refine zvH (dP (v':=.int .u64 ((lU n (nth l q).toNat:Nat):Int)) (AT (a:=n ^^^ (nth l q).toNat) (b:=1099511628211) rfl rfl rfl rfl) (by rw[lU])) ?_
  refine zxd (q+1,lU n (nth l q).toNat) (⟨a0,hs,pF _ _⟩)
 intro a3;obtain rfl:q=l.length:=dF a3;refine zh ?_;refine af rfl rfl (⟨by rw[hn],rfl⟩)
theorem rK:∀(k n:Nat),n<128^(k+1)->(dK n).length<=k+1
 |0,n,h=>by
  unfold dK;rw[if_pos (by simpa using h)];simp
 |k+1,n,h=>by
  unfold dK
  split
  ·simp
  have:=rK k (n / 128) (Ji (by rw[JC,<-JB];exact h));rw[J2];omega
theorem cJ{n:Nat}(h:n<2^64):(dK n).length<=10:=rK 9 n (Io h zd)
theorem F0{r:Nat}(h:r<128):r ||| 128=(G7 (128+r)).toNat:=by
 rw[toNat_ofNat zo,L8];exact(JQ (i:=7) h 1).symm
theorem im(B:Nat)(O:Nat->Nat)(w:G1)(i:Nat)(v:ix)(l:List UInt8)(z:Int)(n:Nat)(hz:z=n)(hR:IY B O w)(h:BufT lS 5 O w i v l)(hi:i≠0)(hn:n<2^64)(hl:l.length<=100000000000):
  Jl Ig 26 [v,.int .u64 z] w fun v' w'=>∃O',BufT lS 5 O' w' i v' (l++dK n)/\Ia (fun j=>j=i) O w O' w'/\IY B O' w':=by
 subst hz;have a6:=cJ hn;refine G4 func26 ntmps26 rfl rfl ?_;refine zh ?_;refine zlp (fun z:Nat×List UInt8×ix×(Nat->Nat)×World=>[(0,z.2.2.1),(1,.int .u64 ((z.1:Nat):Int))]) (fun z=>z.2.2.2.2) (fun z=>z.1<2^64/\z.2.1++dK z.1=dK n/\BufT lS 5 z.2.2.2.1 z.2.2.2.2 i z.2.2.1 (l++z.2.1)/\Ia (fun j=>j=i) O w z.2.2.2.1 z.2.2.2.2/\IY B z.2.2.2.1 z.2.2.2.2) (fun z=>z.1) (n,[],v,O,w) (⟨hn,rfl,by rw[IM];exact h,J5 (fun e=>hi e.symm) _ _,hR⟩) ?_;rintro⟨m,p,v1,O1,w1⟩ ⟨hm,hp,h1,a3,a5⟩;dsimp only at hm hp h1 a3 a5 ⊢;have a8:p.length<=10:=by have:=congrArg List.length hp;rw[ka]at this;omega
 have a9:(l++p).length<=100000000010:=by rw[ka];omega
 refine zh ?_;refine zC ?_ ?_
 ·intro a0;replace a0:127<m:=dT a0;have hr:m % 128<128:=Ja _ zd;have a1:dK m=G7 (128+m % 128)::dK (m / 128):=by rw[dK,if_neg zo]
  refine zh ?_;refine zv (dP (v':=.int .u64 ((m % 128:Nat):Int)) (uF (a:=m) (b:=127) rfl rfl rfl rfl (mI hm) zd) (by rw[show m &&& 127=m % 128 from JI m 7])) ?_
  refine zv (dm I6 Ii rfl (Lz zo)) ?_;refine zv (dP (v':=.int .u8 (((G7 (128+m % 128)).toNat:Nat):Int)) (po (a:=m % 128) (b:=128) rfl rfl rfl rfl (by show((m % 128:Nat):Int)<=255;omega) zd) (by rw[F0 hr])) ?_
  refine qt elW h1 a5 (G7 (128+m % 128)) (fun _=>rfl) rfl rfl rfl zo zo hi rfl rfl ?_;intro v2 w2 O2 h2 a2 a4;refine zh ?_
  refine zvH (ia (a:=m) (b:=7) rfl rfl rfl rfl zd) ?_;refine zxd (m / 128,p++[G7 (128+m % 128)],v2,O2,w2) (⟨by dsimp only;omega,by dsimp only;rw[G0,List.singleton_append,<-a1];exact hp,by dsimp only;rw[<-G0];exact h2,a3.trans a2,a4⟩)
 intro a7;have a0:m<128:=dF a7;have a1:dK m=[G7 m]:=by rw[dK,if_pos a0]
 rw[a1]at hp;refine zh ?_;refine zv (dP (v':=.int .u8 (((G7 m).toNat:Nat):Int)) (dm I6 Ii rfl (Lz zo)) (by rw[toNat_ofNat zo])) ?_;refine qt elW h1 a5 (G7 m) (fun _=>rfl) rfl rfl rfl zo zo hi rfl rfl ?_;intro v2 w2 O2 h2 a2 a4;refine zh ?_;refine af rfl rfl (⟨O2,by rw[<-hp,<-G0];exact h2,a3.trans a2,a4⟩)
structure ListsV(w:G1)(lv:ix)(vs:List ix)(xss:List (List Int)):Prop where
 sl:Sl (fun x:ix=>[x]) 1 w lv vs
 len:vs.length=xss.length
 row:∀j,j<xss.length->JE w (nth vs j) (nth xss j)
def okI(b:Int)(xs:List Int):Prop:=xs.length<=65599/\∀n∈xs,n<=65536/\0<=n+b/\n+b<=65536
theorem iF{α β:Type}{f:α->List β}{M:Nat}:∀(l:List α),(∀x∈l,(f x).length<=M)->(l.flatMap f).length<=l.length*M
 |[],_=>by simp
 |a::l,h=>by
  have h1:=h a (List.mem_cons_self ..);have h2:=iF l fun x hx=>h x (List.mem_cons_of_mem _ hx)
  rw[List.flatMap_cons,ka,J2,Nat.succ_mul];omega
theorem gu(b:Int)(xs:List Int):(upN b xs).length=xs.length:=by simp[upN]
theorem ym{b:Int}{xs:List Int}(h:okI b xs):∀x∈upN b xs,x<2^64:=fun x hx=>by
 obtain⟨n,hn,rfl⟩:=IR.1 hx;have:=(h.2 n hn).2;omega
theorem mC{xs:List Nat}(h:∀x∈xs,x<2^64):(xs.flatMap dK).length<=xs.length*10:=iF xs fun x hx=>cJ (h x hx)
theorem gL{b:Int}{xs:List Int}(h:okI b xs):(pZ (upN b xs)).length<=656000:=by
 have h1:=mC (ym h);have h2:=cJ (n:=(upN b xs).length) (by rw[gu];have:=h.1;omega);have h3:=h.1;unfold pZ;rw[ka];rw[gu]at h1 h2;rw[gu];omega
theorem Bt{α β:Type}[Inhabited α][Inhabited β](f:α->β){l:List α}{i:Nat}(h:i<l.length):nth (l.map f) i=f (nth l i):=by
 rw[az (by simpa using h),az h,J3]
theorem jP(B:Nat)(O:Nat → Nat)(w:G1)(i:Nat)(v lv:ix)(l:List UInt8)(b:Int)(vs:List ix)(xss:List (List Int))(_:0 ≤ b ∧ b ≤ 1)(hR:IY B O w)(h:BufT lS 5 O w i v l)(hi:i ≠ 0)(hl:l.length ≤ 10000000000)(hn:xss.length ≤ 2)
  (hok:∀xs ∈ xss, okI b xs) (hx:∀O' W, Ia (fun j => j = i) O w O' W → ListsV W lv vs xss) :
  Jl Ig 27 [v, nI b, lv] w fun v' w' => ∃O', BufT lS 5 O' w' i v' (l ++ xss.flatMap fun xs => pZ (upN b xs)) ∧ Ia (fun j => j = i) O w O' w' ∧ IY B O' w' := by
 have hz:¬(0 = i) := fun e => hi e.symm
 have h0 := hx O w (J5 hz _ _)
 have hvl := h0.len
 obtain⟨W, hW⟩:∃W:List Int → List UInt8, W = fun xs => pZ (upN b xs) := ⟨_, rfl⟩
 rw[← hW]
 have hWl:∀j, ((xss.take j).flatMap W).length ≤ 1312000 := fun j => by
  have := iF (f := W) (M := 656000) (xss.take j) fun xs hxs => by rw[hW]; exact gL (hok xs (It hxs))
  have h2:(xss.take j).length ≤ 2 := JD (by rw[Il]; exact Nat.min_le_right _ _) hn
  have h3 := Nat.mul_le_mul_right 656000 h2
  omega
 refine G4 func27 ntmps27 rfl rfl ?_
 refine GV ?_
 refine G2 ?_
 refine bE (GX rfl) rfl ?_
 refine GW ?_
 refine ai ?_
 refine GV ?_
 refine GV ?_
 refine G2 ?_
 refine bE (G5 rfl) rfl ?_
 refine bE (KA (by first | exact h0.sl) Ki rfl) rfl ?_
 refine bE (G5 rfl) rfl ?_
 refine GW ?_
 refine ai ?_
 refine J8 ?_
 rw[hvl]
 refine L4 (fun z:Nat×(Nat → Nat)×World×ix => [(0, z.2.2.2), (1, nI b), (11, lv), (12, nI xss.length), (13, nI z.1)]) (fun z:Nat×(Nat → Nat)×World×ix => z.2.2.1) (fun z:Nat×(Nat → Nat)×World×ix => z.1 ≤ xss.length ∧ BufT lS 5 z.2.1 z.2.2.1 i z.2.2.2 (l ++ (xss.take z.1).flatMap W) ∧ Ia (fun j => j = i) O w z.2.1 z.2.2.1 ∧ IY B z.2.1 z.2.2.1) (fun z:Nat×(Nat → Nat)×World×ix => xss.length - z.1) (0, O, w, v) (⟨I3 _, by simpa using h, J5 hz _ _, hR⟩) ⟨rfl, rfl, rfl, rfl, rfl, trivial⟩ rfl ?_
 rintro⟨q, O1, w1, v1⟩ ⟨hq, h1, hU1, hR1⟩
 dsimp only at hq h1 hU1 hR1 ⊢
 have hx1 := hx O1 w1 hU1
 refine GV ?_
 refine G2 ?_
 refine bE (Lj rfl rfl) rfl ?_
 refine GW ?_
 refine ai ?_
 refine GV ?_
 refine L5 rfl ?_ ?_
 ·intro hlt
  replace hlt:q < xss.length := by have := of_decide_eq_true hlt; omega
  have m1:w1.cell? (adr lv 1 q) = some (nth vs q) := hx1.sl.ld (by omega)
  have hr1 := hx1.row q hlt
  have hxl := hr1.len_le
  obtain⟨ho1, ho2⟩ := hok _ (aQ hlt)
  have hW1:W (nth xss q) = dK (nth xss q).length ++ (upN b (nth xss q)).flatMap dK := by rw[hW]; show pZ _ = _; unfold pZ; rw[gu]
  have hx2:∀O' W', Ia (fun j => j = i) O1 w1 O' W' → JE W' (nth vs q) (nth xss q) := fun O' W' u => (hx O' W' (hU1.trans u)).row q hlt
  have hup := mC (ym (hok _ (aQ hlt)))
  rw[gu]at hup
  obtain⟨xs, hxs⟩:∃xs, xs = nth xss q := ⟨_, rfl⟩
  obtain⟨xv, hxv⟩:∃xv, xv = nth vs q := ⟨_, rfl⟩
  rw[← hxv]at m1 hr1 hx2
  rw[← hxs]at hr1 hxl ho1 ho2 hW1 hx2 hup
  have hlq := hWl q
  refine K7 ?_
  refine ai ?_
  refine GV ?_
  refine J8 ?_
  refine GV ?_
  refine G2 ?_
  refine bE (JF hx1.sl Ki (JM _) rfl rfl q rfl (by omega)) rfl ?_
  refine bE (IZ (by first | exact m1) (Km _) rfl) rfl ?_
  refine bE (GX rfl) rfl ?_
  refine GW ?_
  refine ai ?_
  refine GV ?_
  refine G2 ?_
  refine bE (G5 rfl) rfl ?_
  refine bE (G5 rfl) rfl ?_
  refine bE (KA (by first | exact hx1.sl | exact hr1) Kk rfl) rfl ?_
  refine bE (dm J7 I6 rfl (Jd (by omega))) rfl ?_
  refine Jk Ko rfl (im B O1 w1 i v1 _ _ xs.length rfl hR1 h1 hi (by omega) (by rw[ka]; omega)) rfl ?_
  rintro v2 w2 ⟨O2, h2, hU2, hR2⟩
  have hr2 := hx2 O2 w2 hU2
  refine bE (GX rfl) rfl ?_
  refine GW ?_
  refine ai ?_
  refine GV ?_
  refine G2 ?_
  refine bE (G5 rfl) rfl ?_
  refine bE (KA (by first | exact hr2) Kk rfl) rfl ?_
  refine bE (G5 rfl) rfl ?_
  refine GW ?_
  refine ai ?_
  refine J8 ?_
  refine L4 (fun y:Nat×(Nat → Nat)×World×ix => [(0, y.2.2.2), (1, nI b), (11, lv), (12, nI xss.length), (13, nI q), (22, xv), (23, nI xs.length), (24, nI y.1)]) (fun y:Nat×(Nat → Nat)×World×ix => y.2.2.1) (fun y:Nat×(Nat → Nat)×World×ix => y.1 ≤ xs.length ∧ BufT lS 5 y.2.1 y.2.2.1 i y.2.2.2 (l ++ (xss.take q).flatMap W ++ dK xs.length ++ ((upN b xs).take y.1).flatMap dK) ∧ Ia (fun j => j = i) O1 w1 y.2.1 y.2.2.1 ∧ IY B y.2.1 y.2.2.1) (fun y:Nat×(Nat → Nat)×World×ix => xs.length - y.1) (0, O2, w2, v2) (⟨I3 _, by simpa using h2, hU2, hR2⟩) ⟨rfl, rfl, rfl, rfl, rfl, rfl, rfl, rfl, trivial⟩ rfl ?_
  rintro⟨k, O3, w3, v3⟩ ⟨hk, h3, hU3, hR3⟩
  dsimp only at hk h3 hU3 hR3 ⊢
  have hr3 := hx2 O3 w3 hU3
  refine GV ?_
  refine G2 ?_
  refine bE (Lj rfl rfl) rfl ?_
  refine GW ?_
  refine ai ?_
  refine GV ?_
  refine L5 rfl ?_ ?_
  ·intro hlt3
   replace hlt3:k < xs.length := by have := of_decide_eq_true hlt3; omega
   have hkl:k < (upN b xs).length := by rw[gu]; exact hlt3
   have m3:w3.cell? (adr xv 1 k) = some (nI (nth xs k)) := hr3.ld hlt3
   obtain⟨hk1, hk2, hk3⟩ := ho2 _ (aQ hlt3)
   have hnk:nth (upN b xs) k = (nth xs k + b).toNat := Bt _ hlt3
   have htl:(((upN b xs).take k).flatMap dK).length ≤ 655990 := by
    have := iF (f := dK) (M := 10) ((upN b xs).take k) fun x hx' => cJ (ym ⟨ho1, ho2⟩ x (It hx'))
    rw[Il, JO (by omega)]at this
    omega
   have hnl := cJ (n := xs.length) (by omega)
   refine K7 ?_
   refine ai ?_
   refine GV ?_
   refine J8 ?_
   refine GV ?_
   refine G2 ?_
   refine bE (JF (by first | exact hr3) Kk (sizeOf3 _) rfl rfl _ rfl (by omega)) rfl ?_
   refine bE (IZ (by first | exact m3) (isAgg3 _) rfl) rfl ?_
   refine bE (GX rfl) rfl ?_
   refine GW ?_
   refine ai ?_
   refine G2 ?_
   refine bE (G5 rfl) rfl ?_
   refine bE (G5 rfl) rfl ?_
   refine bE (G5 rfl) rfl ?_
   refine bE (KB rfl rfl (IX (by omega))) rfl ?_
   refine bE (dm J7 I6 rfl (Jd (by omega))) rfl ?_
   refine Jk Ko rfl (im B O3 w3 i v3 _ _ (nth xs k + b).toNat (by omega) hR3 h3 hi (by omega) (by simp only[ka]; omega)) rfl ?_
   rintro v4 w4 ⟨O4, h4, hU4, hR4⟩
   refine bE (GX rfl) rfl ?_
   refine GW ?_
   refine bp ?_
   refine ai ?_
   refine G2 ?_
   refine bE (KB rfl rfl (IX (by omega))) rfl ?_
   refine bE (G5 rfl) rfl ?_
   refine GW ?_
   refine L6 ((k + 1, O4, w4, v4)) (⟨hlt3, by dsimp only; rw[aH hkl, IP, hnk, ← G0, ID]; exact h4, hU3.trans hU4, hR4⟩) (by dsimp only; omega) ⟨rfl, rfl, rfl, rfl, rfl, rfl, rfl, rfl, trivial⟩ rfl
  ·intro hge3
   obtain rfl:k = xs.length := by have := of_decide_eq_false hge3; omega
   rw[← gu b xs, I1, gu, G0, ← hW1]at h3
   refine KG ?_
   refine aS ?_
   refine aS ?_
   refine bQ ?_
   refine bp ?_
   refine ai ?_
   refine G2 ?_
   refine bE (KB rfl rfl (IX (by omega))) rfl ?_
   refine bE (G5 rfl) rfl ?_
   refine GW ?_
   refine L6 ((q + 1, O3, w3, v3)) (⟨hlt, by dsimp only; rw[aH hlt, IP, ← hxs, ← G0, ID]; exact h3, hU1.trans hU3, hR3⟩) (by dsimp only; omega) ⟨rfl, rfl, rfl, rfl, rfl, trivial⟩ rfl
 ·intro hge
  obtain rfl:q = xss.length := by have := of_decide_eq_false hge; omega
  rw[I1]at h1
  refine KG ?_
  refine aS ?_
  refine aS ?_
  refine bQ ?_
  refine ai ?_
  refine GV ?_
  refine G2 ?_
  refine bE (G5 rfl) rfl ?_
  refine bE (GX rfl) rfl ?_
  refine GW ?_
  refine ai ?_
  refine KU ?_
  refine af rfl rfl (⟨O1, h1, hU1, hR1⟩)
theorem ow(B:Nat)(O:Nat->Nat)(w:G1)(i:Nat)(v:ix)(l:List UInt8)(hR:IY B O w)(h:BufT lS 5 O w i v l)(hi:i≠0)(hl:l.length<=1000000000000):
  Jl Ig 20 [v] w fun v' w'=>∃O',BufT lS 5 O' w' i v' (cM l)/\Ia (fun j=>j=i) O w O' w'/\IY B O' w':=by
 have hz:¬(0=i):=fun e=>hi e.symm
 have a9:=pG l;have a1:cM l=l++(le8 (sU l)).take 8:=by rw[G9 (by rw[fO];exact I5 _)];rfl
 have a5:∀j,j<8->nth (le8 (sU l)) j=G7 (sU l / 2^(8*j)):=fun j hj=>by
  rw[az (by rw[fO];exact hj)];simp[le8]
 rw[a1];refine G4 func20 ntmps20 rfl rfl ?_;refine zh ?_;refine zc call11 (yC l v w h.sl) ?_;rintro _ w0 ⟨rfl,a4⟩;rw[a4];generalize sU l=S at *;refine zh ?_;refine zlp (fun z:Nat×(Nat->Nat)×World×ix=>[(0,z.2.2.2),(3,.int .u64 (S:Int)),(7,nI z.1)]) (fun z=>z.2.2.1) (fun z=>z.1<=8/\BufT lS 5 z.2.1 z.2.2.1 i z.2.2.2 (l++(le8 S).take z.1)/\Ia (fun j=>j=i) O w z.2.1 z.2.2.1/\IY B z.2.1 z.2.2.1) (fun z=>8-z.1) (0,O,w,v) (⟨I3 _,by simpa using h,J5 hz _ _,hR⟩) ?_;rintro⟨q,O1,w1,v1⟩ ⟨hq,h1,a2,a3⟩;dsimp only at hq h1 a2 a3 ⊢;have a':(l++(le8 S).take q).length<=1000000000008:=by rw[ka,Il,fO];omega
 refine zh ?_;refine zC ?_ ?_
 ·intro a0;replace a0:q<8:=dT a0;refine zh ?_;refine zv (RV.mul rfl rfl (IX zo)) ?_;refine zv (ia (a:=S) (b:=8*q) rfl rfl rfl zo (by show _<=64;omega)) ?_;refine zv (dP (v':=.int .u8 (((G7 (S / 2^(8*q))).toNat:Nat):Int)) (vQ (a:=S / 2^(8*q)) I6 Ii rfl rfl) (by rw[IB])) ?_;refine qt elW h1 a3 (G7 (S / 2^(8*q))) (fun _=>rfl) rfl rfl rfl zo zo hi rfl rfl ?_;intro v2 w2 O2 h2 a7 a8;refine zh ?_;refine zxd (q+1,O2,w2,v2) (⟨a0,by dsimp only;rw[aH (by rw[fO];exact a0),a5 q a0,<-G0];exact h2,a2.trans a7,a8⟩)
 intro a6;obtain rfl:q=8:=dF a6;refine zh ?_;refine af rfl rfl (⟨O1,h1,a2,a3⟩)
theorem jo{O:Nat->Nat}{w:G1}{v:ix}{sz lo hi:Nat}(h:Jj O w v)(hn:hi-lo≠0->∃a n c,v=.slice a n c/\n≠0):Jj O w (cn v sz lo hi):=fun a n c e a2=>by
 unfold cn at e
 split at e
 ·rename_i a0 n0 c0;simp only[JV]at e;obtain⟨e1,e2,_⟩:=e;obtain⟨a1,n1,c1,e3,a3⟩:=hn fun h0=>a2 (e2.symm.trans h0)
  simp only[JV]at e3;obtain⟨rfl,rfl,rfl⟩:=e3
  cases a0 with
  |none=>split at e1<;>cases e1
  |some q=>
   have:=h q n0 c0 rfl a3
   split at e1
   ·cases e1;exact this
   have e4:q.add (lo*sz)=a:=by simpa using e1
   subst e4;have hb:(q.add (lo*sz)).block=q.block:=by unfold Kc;split<;>rfl
   rw[hb];exact this
 subst e;exact h a n c rfl a2
structure RdO(O:Nat->Nat)(w:G1)(rb:Nat)(l:List UInt8)(b:Bool):Prop where
 ex:∃bv,K6 O w 1 rb #[bv,.bool b] 63/\Sl mU 1 w bv l/\Jj O w bv
theorem RdO.upd{S:Nat->Prop}{O O':Nat->Nat}{w w':G1}{rb:Nat}{l:List UInt8}{b:Bool}(h:RdO O w rb l b)(u:Ia S O w O' w')(hS:¬S 1):RdO O' w' rb l b:=by
 obtain⟨bv,h1,h2,h3⟩:=h.ex;exact⟨bv,h1.upd u zd hS,h2.upd h3 u,h3.upd u⟩
theorem RdO.bad{O:Nat->Nat}{w:G1}{rb:Nat}{l:List UInt8}{b:Bool}(h:RdO O w rb l b):w.cell? ((nA rb 0).add 1)=some (.bool b):=by
 obtain⟨bv,h1,h2,h3⟩:=h.ex;exact h1.cell 1 rfl
def Dp(l:List UInt8):UInt8:=l.headD 0
theorem B3(B:Nat)(O:Nat->Nat)(w:G1)(rb:Nat)(l:List UInt8)(b:Bool)(hR:IY B O w)(h:RdO O w rb l b):
  Jl Ig 45 [nP rb] w fun u w'=>u=.int .u8 ((Dp l).toNat:Int)/\RdO O w' rb l.tail (b||l.isEmpty)/\Ia (fun j=>j=1) O w O w'/\IY B O w':=by
 obtain⟨bv,h1,h2,h3⟩:=h.ex;have hz:¬(0=1):=zd;have m0:w.cell? (nA rb 0)=some bv:=h1.cell 0 rfl;refine G4 func45 ntmps45 rfl rfl ?_;refine zh ?_
 cases l with
 |nil=>
  refine zTH rfl rfl ?_;refine ak (j:=1) h1 rfl (Jw _) rfl rfl rfl rfl ?_
  have hU:Ia (fun j=>j=1) O w O (w.setCell ⟨rb,1,none⟩ (.bool true)):=IW hz h1.tag rfl;have a0:=h1.set 1 (.bool true);refine zh ?_;refine af rfl rfl (⟨rfl,⟨bv,by rw[show(b||([]:List UInt8).isEmpty)=true from by simp];exact a0,h2.upd h3 hU,h3.upd hU⟩,hU,hR.upd hU⟩)
 |cons c r=>
  have m1:w.cell? (adr bv 1 0)=some (.int .u8 (c.toNat:Int)):=by have:=h2.ld (i:=0) (by simp);rwa[ax]at this
  have a1:Sl mU 1 w (cn bv 1 1 (c::r).length) r:=by
   have:=h2.slice (lo:=1) (hi:=(c::r).length) (by simp) (I5 _)
   rwa[I1,List.drop_one,List.tail_cons]at this
  have a2:Jj O w (cn bv 1 1 (c::r).length):=jo h3 fun _=>by
   obtain⟨a,cc,e,_⟩:=h2.shape;exact⟨a,_,cc,e,by simp⟩
  refine zFH rfl ((by rw[beq_eq_false_iff_ne,J2];omega)) ?_;refine zvH (JF h2 Ij (Kl _) rfl rfl 0 rfl (by simp)) ?_
  refine zvH (kZ h2 Ij (Kl _) rfl rfl 1 rfl (by simp)) ?_;refine ak (j:=0) h1 rfl (sizeOf22 _) a1.one rfl rfl rfl ?_
  have hU:Ia (fun j=>j=1) O w O (w.setCell ⟨rb,0,none⟩ (cn bv 1 1 (c::r).length)):=IW hz h1.tag rfl;have a0:=h1.set 0 (cn bv 1 1 (c::r).length);refine zh ?_;refine af rfl rfl (⟨rfl,⟨_,by rw[show(b||(c::r).isEmpty)=b from by simp];exact a0,a1.upd a2 hU,a2.upd hU⟩,hU,hR.upd hU⟩)
theorem Fo:∀c:Nat,c<256->((c &&& 128=0)↔c<128):=by decide +kernel
theorem iu(B:Nat)(O:Nat → Nat)(w:G1)(rb:Nat)(l:List UInt8)(b:Bool)(hR:IY B O w)(h:RdO O w rb l b):
  Jl Ig 23 [nP rb] w fun u w' => ∃n l' b', u = .int .u64 ((n:Nat):Int) ∧ n < 2^64 ∧ RdS (gH 0) l b n l' b' ∧ RdO O w' rb l' b' ∧ Ia (fun j => j = 1) O w O w' ∧ IY B O w' := by
 have hz:¬(0 = 1) := by decide
 refine G4 func23 ntmps23 rfl rfl ?_
 refine GV ?_
 refine G2 ?_
 refine zv (GX rfl) ?_
 refine GW ?_
 refine ai ?_
 refine GV ?_
 refine G2 ?_
 refine zv (GX rfl) ?_
 refine GW ?_
 refine ai ?_
 refine GV ?_
 refine GV ?_
 refine G2 ?_
 refine zv (GX rfl) ?_
 refine GW ?_
 refine ai ?_
 refine J8 ?_
 refine zlp (fun z:Nat×Int×Nat×List UInt8×Bool×G1 => [(0, nP rb), (3, .int .u64 ((z.2.2.1:Nat):Int)), (4, nI z.2.1)]) (fun z => z.2.2.2.2.2) (fun z => z.1 ≤ 10 ∧ z.2.1 = 7 * (z.1:Int) ∧ z.2.2.1 < 2^64 ∧ WNum l b z.1 z.2.2.1 z.2.2.2.1 z.2.2.2.2.1 ∧ RdO O z.2.2.2.2.2 rb z.2.2.2.1 z.2.2.2.2.1 ∧ Ia (fun j => j = 1) O w O z.2.2.2.2.2 ∧ IY B O z.2.2.2.2.2) (fun z => 10 - z.1) (0, 0, 0, l, b, w) (⟨I3 _, rfl, If 64, xX l b, h, J5 hz _ _, hR⟩) ?_
 rintro⟨k, i, n, l1, b1, w1⟩ ⟨hk, hi, hn6, hV, h1, hU1, hR1⟩
 dsimp only at hk hi hn6 hV h1 hU1 hR1 ⊢
 refine GV ?_
 refine GV ?_
 refine G2 ?_
 refine zv (G5 rfl) ?_
 refine zv (RV.leq rfl rfl) ?_
 refine GW ?_
 refine ai ?_
 refine zC ?_ ?_
 ·intro hlt
  replace hlt:k ≤ 9 := by have := of_decide_eq_true hlt; omega
  refine K7 ?_
  refine ai ?_
  refine GV ?_
  refine J8 ?_
  refine GV ?_
  refine G2 ?_
  refine zv (G5 rfl) ?_
  refine zv (aq rfl) ?_
  refine zv (RV.fa rfl) ?_
  refine zc call45 (B3 B O w1 rb l1 b1 hR1 h1) ?_
  rintro _ w2 ⟨rfl, h2, hU2, hR2⟩
  have hcb := (Dp l1).toNat_lt
  obtain⟨c, hc⟩:∃c, c = Dp l1 := ⟨_, rfl⟩
  rw[← hc]at hcb ⊢
  have m2 := h2.bad
  refine zv (GX rfl) ?_
  refine GW ?_
  refine ai ?_
  refine GV ?_
  refine nq (fun z:G1 => [(0, nP rb), (3, .int .u64 ((n:Nat):Int)), (4, nI i), (5, .int .u8 (c.toNat:Int))]) (fun z:G1 => z) (fun z:G1 => RdO O z rb l1.tail (b1 || l1.isEmpty || nz k c) ∧ Ia (fun j => j = 1) O w1 O z ∧ IY B O z) ?_ ?_
  ·intro hN
   obtain⟨bv, r1, r2, r3⟩ := h2.ex
   have fin:∀x, x = (b1 || l1.isEmpty || nz k c) → RdO O (w2.setCell ⟨rb, 1, none⟩ (.bool x)) rb l1.tail (b1 || l1.isEmpty || nz k c) ∧ Ia (fun j => j = 1) O w1 O (w2.setCell ⟨rb, 1, none⟩ (.bool x)) ∧ IY B O (w2.setCell ⟨rb, 1, none⟩ (.bool x)) := by
    rintro x rfl
    have u := IW (S := fun j => j = 1) (w := w2) (j := 1) (u := .bool (b1 || l1.isEmpty || nz k c)) hz r1.tag rfl
    exact⟨⟨bv, r1.set 1 _, r2.upd r3 u, r3.upd u⟩, hU2.trans u, hR2.upd u⟩
   have hst:∀x:Bool, Ib (.bool x) = true := fun _ => rfl
   refine G2 ?_
   refine zv (G5 rfl) ?_
   refine zv (G5 rfl) ?_
   refine zv (aq rfl) ?_
   refine zv (RV.fa rfl) ?_
   refine zv (RV.fa rfl) ?_
   refine zv (RV.ld m2 rfl) ?_
   refine zv (G5 rfl) ?_
   cases hb1:(b1 || l1.isEmpty)with
   |true =>
    rw[hb1]at m2 r1
    refine au (d := 20) rfl (b' := true) (rfl) ?_
    refine IH rfl rfl rfl ?_
    refine IH rfl rfl rfl ?_
    refine IH rfl rfl rfl ?_
    refine gY rfl rfl ?_
    refine gY rfl rfl ?_
    refine IH rfl rfl rfl ?_
    refine zv (bz rfl rfl) ?_
    refine zv (G5 rfl) ?_
    refine IH rfl rfl rfl ?_
    refine IH rfl rfl rfl ?_
    refine IH rfl rfl rfl ?_
    refine gY rfl rfl ?_
    refine gY rfl rfl ?_
    refine IH rfl rfl rfl ?_
    refine zv (bz rfl rfl) ?_
    refine zv (aq rfl) ?_
    refine zv (RV.fa rfl) ?_
    refine zv (RV.fa rfl) ?_
    refine ak (j := 1) r1 rfl (Jw _) rfl rfl rfl rfl ?_
    refine GW ?_
    exact ij (hN (_) (fin true (by rw[hb1]; rfl))) ⟨rfl, rfl, rfl, rfl, trivial⟩ rfl
   |false =>
    rw[hb1]at m2 r1
    have hwb:nz k c = ((decide (k = 9) && decide (1 < c.toNat)) || (decide (0 < k) && decide (c.toNat = 0))) := rfl
    have hc0:((c.toNat:Int) == 0) = decide (c.toNat = 0) := by
     by_cases h:c.toNat = 0
     ·rw[h]; rfl
     ·rw[decide_eq_false h, beq_eq_false_iff_ne]; omega
    refine au (d := 20) rfl (b' := false) (rfl) ?_
    refine bM rfl ?_
    refine zv (G5 rfl) ?_
    refine bM rfl ?_
    refine zv (KV rfl rfl) ?_
    refine bM rfl ?_
    refine zv (G5 rfl) ?_
    by_cases h9:k = 9
    ·skip
     refine au (d := 23) rfl (b' := true) ((by rw[beq_iff_eq]; omega)) ?_
     refine bM rfl ?_
     refine zv (G5 rfl) ?_
     refine bM rfl ?_
     refine zv (Lk rfl rfl) ?_
     refine bM rfl ?_
     refine zv (bz rfl rfl) ?_
     refine zv (bh rfl rfl) ?_
     refine zv (G5 rfl) ?_
     by_cases h1c:1 < c.toNat
     ·skip
      refine au (d := 28) rfl (b' := true) ((decide_eq_true (by omega))) ?_
      refine IH rfl rfl rfl ?_
      refine IH rfl rfl rfl ?_
      refine IH rfl rfl rfl ?_
      refine gY rfl rfl ?_
      refine gY rfl rfl ?_
      refine IH rfl rfl rfl ?_
      refine zv (bz rfl rfl) ?_
      refine zv (aq rfl) ?_
      refine zv (RV.fa rfl) ?_
      refine zv (RV.fa rfl) ?_
      refine ak (j := 1) r1 rfl (Jw _) rfl rfl rfl rfl ?_
      refine GW ?_
      exact ij (hN (_) (fin true (by rw[hb1, hwb, decide_eq_true h9, decide_eq_true h1c]; rfl))) ⟨rfl, rfl, rfl, rfl, trivial⟩ rfl
     ·skip
      refine au (d := 28) rfl (b' := false) ((decide_eq_false (by omega))) ?_
      refine bM rfl ?_
      refine zv (G5 rfl) ?_
      refine bM rfl ?_
      refine zv (Lk rfl rfl) ?_
      refine bM rfl ?_
      refine zv (G5 rfl) ?_
      refine au (d := 31) rfl (b' := true) ((decide_eq_true (by omega))) ?_
      refine bM rfl ?_
      refine zv (G5 rfl) ?_
      refine bM rfl ?_
      refine zv (KV rfl rfl) ?_
      refine bM rfl ?_
      refine zv (bz rfl rfl) ?_
      refine zv (bh rfl rfl) ?_
      refine zv (aq rfl) ?_
      refine zv (RV.fa rfl) ?_
      refine zv (RV.fa rfl) ?_
      rw[hc0]
      refine ak (j := 1) r1 rfl (Jw _) rfl rfl rfl rfl ?_
      refine GW ?_
      exact ij (hN (_) (fin _ (by rw[hb1, hwb, decide_eq_false h1c, decide_eq_true (show 0 < k by omega)]; simp))) ⟨rfl, rfl, rfl, rfl, trivial⟩ rfl
    ·skip
     refine au (d := 23) rfl (b' := false) ((by rw[beq_eq_false_iff_ne]; omega)) ?_
     refine IH rfl rfl rfl ?_
     refine IH rfl rfl rfl ?_
     refine bM rfl ?_
     refine zv (bh rfl rfl) ?_
     refine zv (bh rfl rfl) ?_
     refine zv (G5 rfl) ?_
     refine bM rfl ?_
     refine zv (G5 rfl) ?_
     refine bM rfl ?_
     refine zv (Lk rfl rfl) ?_
     refine bM rfl ?_
     refine zv (G5 rfl) ?_
     by_cases h0:0 < k
     ·skip
      refine au (d := 31) rfl (b' := true) ((decide_eq_true (by omega))) ?_
      refine bM rfl ?_
      refine zv (G5 rfl) ?_
      refine bM rfl ?_
      refine zv (KV rfl rfl) ?_
      refine bM rfl ?_
      refine zv (bz rfl rfl) ?_
      refine zv (bh rfl rfl) ?_
      refine zv (aq rfl) ?_
      refine zv (RV.fa rfl) ?_
      refine zv (RV.fa rfl) ?_
      rw[hc0]
      refine ak (j := 1) r1 rfl (Jw _) rfl rfl rfl rfl ?_
      refine GW ?_
      exact ij (hN (_) (fin _ (by rw[hb1, hwb, decide_eq_false h9, decide_eq_true h0]; simp))) ⟨rfl, rfl, rfl, rfl, trivial⟩ rfl
     ·skip
      refine au (d := 31) rfl (b' := false) ((decide_eq_false (by omega))) ?_
      refine IH rfl rfl rfl ?_
      refine IH rfl rfl rfl ?_
      refine bM rfl ?_
      refine zv (bh rfl rfl) ?_
      refine zv (bh rfl rfl) ?_
      refine zv (aq rfl) ?_
      refine zv (RV.fa rfl) ?_
      refine zv (RV.fa rfl) ?_
      refine ak (j := 1) r1 rfl (Jw _) rfl rfl rfl rfl ?_
      refine GW ?_
      exact ij (hN (_) (fin _ (by rw[hb1, hwb, decide_eq_false h9, decide_eq_false h0]; simp))) ⟨rfl, rfl, rfl, rfl, trivial⟩ rfl
  rintro w3 ⟨h3, hU3, hR3⟩
  have hm127:c.toNat &&& 127 ≤ 127 := Nat.and_le_right
  have hq6 := C9 (i := k) (c := c) hn6
  have h128 := Fo _ hcb
  refine ai ?_
  refine GV ?_
  refine G2 ?_
  refine zv (G5 rfl) ?_
  refine zv (G5 rfl) ?_
  refine zv (uF (a := c.toNat) (b := 127) rfl rfl rfl rfl (by show(c.toNat:Int) ≤ 255; omega) (by decide)) ?_
  refine zv (dm Ii I6 rfl (Jd (by omega))) ?_
  refine zv (G5 rfl) ?_
  refine zv (DD (a := c.toNat &&& 127) (b := 7 * k) rfl rfl rfl (by omega) (by omega)) ?_
  refine zv (dP (v' := .int .u64 ((Bs k n c:Nat):Int)) (po (a := n) (b := (c.toNat &&& 127) * 2^(7 * k) % 2^64) rfl rfl rfl rfl (mI hn6) (mI (Ja _ (If 64)))) (by rw[Bs])) ?_
  refine zv (GX rfl) ?_
  refine GW ?_
  refine ai ?_
  refine GV ?_
  refine G2 ?_
  refine zv (G5 rfl) ?_
  refine zv (uF (a := c.toNat) (b := 128) rfl rfl rfl rfl (by show(c.toNat:Int) ≤ 255; omega) (by decide)) ?_
  refine zv (KV rfl rfl) ?_
  refine GW ?_
  refine ai ?_
  refine zC ?_ ?_
  ·intro h0
   have hc8:c.toNat < 128 := h128.1 (by have := eq_of_beq h0; omega)
   refine GV ?_
   refine G2 ?_
   refine zv (G5 rfl) ?_
   refine zv (GX rfl) ?_
   refine GW ?_
   refine ai ?_
   refine KU ?_
   refine gh ?_
   refine bJ ?_
   refine bJ ?_
   refine gh ?_
   refine bJ ?_
   refine af rfl rfl (⟨Bs k n c, l1.tail, _, rfl, hq6, ?_, h3, hU1.trans hU3, hR3⟩)
   cases l1 with
   |nil => rw[show(b1 || ([]:List UInt8).isEmpty || nz k c) = true from by simp]; exact RdS.bad hV.empty
   |cons x r =>
    obtain rfl:c = x := hc
    rw[show(b1 || (c :: r).isEmpty || nz k c) = (b1 || nz k c)from by simp]
    exact hV.fin hc8
  ·intro h0
   have hc8:¬c.toNat < 128 := fun h => by
    rw[h128.2 h]at h0; cases h0
   refine K7 ?_
   refine bp ?_
   refine ai ?_
   refine G2 ?_
   refine zv (G5 rfl) ?_
   refine zv (KB rfl rfl (IX (by omega))) ?_
   refine zv (GX rfl) ?_
   refine GW ?_
   cases l1 with
   |nil => subst hc; exact absurd (by decide) hc8
   |cons x r =>
    obtain rfl:c = x := hc
    rw[show(b1 || (c :: r).isEmpty || nz k c) = (b1 || nz k c)from by simp]at h3
    refine zxd (k + 1, i + 7, Bs k n c, r, b1 || nz k c, w3) (⟨by dsimp only; omega, by dsimp only; omega, hq6, hV.step hc8, h3, hU1.trans hU3, hR3⟩)
 ·intro hge
  obtain rfl:k = 10 := by have := of_decide_eq_false hge; omega
  obtain⟨bv, r1, r2, r3⟩ := h1.ex
  refine KG ?_
  refine aS ?_
  refine aS ?_
  refine bQ ?_
  refine ai ?_
  refine GV ?_
  refine G2 ?_
  refine zv (G5 rfl) ?_
  refine zv (aq rfl) ?_
  refine zv (RV.fa rfl) ?_
  refine zv (RV.fa rfl) ?_
  refine ak (j := 1) r1 rfl (Jw _) rfl rfl rfl rfl ?_
  have u := IW (S := fun j => j = 1) (w := w1) (j := 1) (u := .bool true) hz r1.tag rfl
  refine GW ?_
  refine ai ?_
  refine GV ?_
  refine G2 ?_
  refine zv (GX rfl) ?_
  refine GW ?_
  refine ai ?_
  refine KU ?_
  refine af rfl rfl (⟨0, l1, true, rfl, by decide, RdS.bad hV.over, ⟨bv, r1.set 1 _, r2.upd r3 u, r3.upd u⟩, hU1.trans u, hR1.upd u⟩)
theorem eM(B:Nat)(O:Nat->Nat)(w:G1)(rb:Nat)(l:List UInt8)(b:Bool)(hR:IY B O w)(h:RdO O w rb l b):
  Jl Ig 22 [nP rb] w fun u w'=>∃n l' b',u=nI ((n:Nat):Int)/\n<=2^20/\RdS smR l b n l' b'/\RdO O w' rb l' b'/\Ia (fun j=>j=1) O w O w'/\IY B O w':=by
 have hz:¬(0=1):=zd;refine G4 func22 ntmps22 rfl rfl ?_;refine zh ?_;refine zc Kp (iu B O w rb l b hR h) ?_;rintro _ w1 ⟨n,l1,b1,rfl,hn,hS,h1,a2,a3⟩;refine zh ?_;refine zC ?_ ?_
 ·intro a5;have a1:2^20<n:=dT a5;obtain⟨bv,r1,r2,r3⟩:=h1.ex;refine zh ?_;refine ak (j:=1) r1 rfl (Jw _) rfl rfl rfl rfl ?_;have u:=IW (S:=fun j=>j=1) (w:=w1) (j:=1) (u:=.bool true) hz r1.tag rfl;refine zh ?_;refine af rfl rfl (⟨0,l1,true,rfl,zd,hS.great a1,⟨bv,r1.set 1 _,r2.upd r3 u,r3.upd u⟩,a2.trans u,a3.upd u⟩)
 intro a4;have a0:¬2^20<n:=dF a4;refine zh ?_;refine zvH (dm I6 J7 rfl (IX zo)) ?_;refine af rfl rfl (⟨n,l1,b1,rfl,zo,hS.small a0,h1,a2,a3⟩)
theorem BW(b:Int)(xs:List Nat)(x:Nat):dnN b (xs++[x])=dnN b xs++[(x:Int)-b]:=by simp[dnN]
theorem Dw(b:Int)(xs:List Nat):(dnN b xs).length=xs.length:=by simp[dnN]
theorem gD(B:Nat)(O:Nat->Nat)(w:G1)(rb i:Nat)(l:List UInt8)(b:Bool)(a0:Int)(b9:0<=a0/\a0<=1)(hi:1<i)(hR:IY B O w)(h:RdO O w rb l b):
  Jl Ig 24 [nP rb,nI a0] w fun u w'=>∃xs l' b' O',JG encI 3 1 O' w' i u (dnN a0 xs)/\RdS lstR l b xs l' b'/\RdO O' w' rb l' b'/\Ia (fun j=>j=1\/j=i) O w O' w'/\IY B O' w':=by
 have hz:¬(0=1\/0=i):=by omega
 refine G4 func24 ntmps24 rfl rfl ?_;refine zg ?_
 refine zc KR (eM B O w rb l b hR h) ?_;rintro _ w1 ⟨m,l1,b1,rfl,hm,hS,h1,a9,b5⟩;refine zg ?_
 refine zlp (fun z:Nat×List Nat×List UInt8×Bool×(Nat->Nat)×World×ix=>[(0,nP rb),(1,nI a0),(5,nI ((z.1:Nat):Int)),(6,z.2.2.2.2.2.2)]) (fun z=>z.2.2.2.2.2.1) (fun z=>z.1+z.2.1.length<=m/\LstI smR m l1 b1 z.1 z.2.1 z.2.2.1 z.2.2.2.1/\JG encI 3 1 z.2.2.2.2.1 z.2.2.2.2.2.1 i z.2.2.2.2.2.2 (dnN a0 z.2.1)/\RdO z.2.2.2.2.1 z.2.2.2.2.2.1 rb z.2.2.1 z.2.2.2.1/\Ia (fun j=>j=1\/j=i) O w z.2.2.2.2.1 z.2.2.2.2.2.1/\IY B z.2.2.2.2.1 z.2.2.2.2.2.1) (fun z=>z.1) (m,[],l1,b1,O,w1,nS) (⟨I5 _,px _ _ _ _,K8 _ _ _ _ _ _,h1,a9.mono (fun _ h=>.inl h) hz,b5⟩) ?_;rintro⟨k,xs,l2,b2,O2,w2,v2⟩ ⟨hk,hL,a2,h2,a3,a4⟩;dsimp only at hk hL a2 h2 a3 a4 ⊢;have m2:=h2.bad;refine zg ?_
 refine bx (fun w1=>_=w1) (!b2) 6 (rfl) rfl rfl rfl rfl rfl ?_ ?_
 ·intro a1;refine zg ?_;refine zvG (RV.ld m2 rfl) ?_;refine cH (tA:=11) 7 (rfl) rfl rfl rfl (fun v hv=>(Jm hv).symm.trans (congrArg Kd a1)) rfl
 rintro _ rfl;refine zg ?_;refine zC ?_ ?_
 ·intro hc;rw[I2,decide_eq_true_eq,Iq]at hc;obtain⟨b8,rfl⟩:=hc;obtain⟨k,rfl⟩:∃k',k=k'+1:=⟨k-1,by omega⟩
  have b6:=Dw a0 xs;have b7:(2^20:Nat)=1048576:=by decide
  refine zg ?_;refine zc KR (eM B O2 w2 rb l2 false a4 h2) ?_
  rintro _ w3 ⟨n,l3,b3,rfl,hn,a',h3,a7,b4⟩;have a8:=a2.upd a7 zo zo;refine zg ?_;refine zv (Li rfl rfl (IX zo)) ?_;refine Lx jx a8 b4 (((n:Int)-a0)) (fun _=>rfl) rfl rfl rfl (by simp[Ib]) zo zo zo zd rfl rfl ?_;intro v4 w4 O4 a5 a6 b0;rw[<-BW]at a5;refine zg ?_;refine zvG (dP (v':=nI ((k:Nat):Int)) (Li rfl rfl (IX zo)) (by congr 1;omega)) ?_;refine zxd (k,xs++[n],l3,b3,O4,w4,v4) (⟨by dsimp only;rw[ka,ln];omega,hL.step a',a5,h3.upd a6 zo,(a3.trans (a7.mono (fun _ h=>.inl h) hz)).trans (a6.mono (fun _ h=>.inr h) hz),b0⟩)
 intro hc;have hd:k=0\/b2=true:=by
  rw[K5,decide_eq_false_iff_not,Jp]at hc
  rcases hc with hc|hc
  ·exact .inl zo
  exact .inr hc
 refine zg ?_;refine af rfl rfl (⟨xs,l2,b2,O2,a2,hS.lstR (hL.done hd),h2,a3,a4⟩)
structure PartO(O:Nat->Nat)(w:G1)(a:Nat)(cs:List ix)(p:PaW):Prop where
 ex:∃uv bv kv nv tv,cs=[nI (p.1:Int),uv,bv,kv,nv,tv]/\JG encI 3 1 O w a uv (dnN 0 p.2.1)/\JG encI 3 1 O w (a+1) bv (dnN 0 p.2.2.1)/\JG encI 3 1 O w (a+2) kv (dnN 1 p.2.2.2.1)/\
  JG encI 3 1 O w (a+3) nv (dnN 0 p.2.2.2.2.1)/\JG fp 24 1 O w (a+4) tv p.2.2.2.2.2
theorem PartO.upd{S:Nat->Prop}{O O':Nat->Nat}{w w':G1}{a:Nat}{cs:List ix}{p:PaW}(h:PartO O w a cs p)(u:Ia S O w O' w')(ha:0<a)(hS:∀j,a<=j->j<=a+4->¬S j):PartO O' w' a cs p:=by
 obtain⟨uv,bv,kv,nv,tv,e,h1,h2,h3,h4,h5⟩:=h.ex;exact⟨uv,bv,kv,nv,tv,e,h1.upd u zo (hS a zo zo),h2.upd u zo (hS (a+1) zo zo),h3.upd u zo (hS (a+2) zo zo),h4.upd u zo (hS (a+3) zo zo),h5.upd u zo (hS (a+4) zo zo)⟩
theorem PartO.partV{O:Nat->Nat}{w:G1}{a:Nat}{cs:List ix}{p:PaW}(h:PartO O w a cs p):PartV w cs (Bl p) p.2.2.2.2.2:=by
 obtain⟨uv,bv,kv,nv,tv,e,h1,h2,h3,h4,h5⟩:=h.ex;exact⟨uv,bv,kv,nv,tv,e,h1.sl,h2.sl,h3.sl,h4.sl,h5.sl⟩
theorem rk(B:Nat)(O:Nat->Nat)(w:G1)(rb a:Nat)(l:List UInt8)(b:Bool)(ha:1<a)(hR:IY B O w)(h:RdO O w rb l b):
  Jl Ig 25 [nP rb] w fun u w'=>∃cs p l' b' O',u=.agg cs.toArray/\PartO O' w' a cs p/\RdS FF l b p l' b'/\RdO O' w' rb l' b'/\Ia (fun j=>j=1\/a<=j/\j<=a+6) O w O' w'/\IY B O' w':=by
 have hz:¬(0=1\/a<=0/\0<=a+6):=by omega
 refine G4 func25 ntmps25 rfl rfl ?_;refine zg ?_
 refine ar hR (a+6) zo (Jq _) rfl ?_;intro cb w1 O1 e4 g0 j0 j9;have h1:=h.upd g0 zo;have e6:=g0.mono (S':=fun j=>j=1\/a<=j/\j<=a+6) (fun _ h=>by omega) hz;refine zg ?_
 refine zc KR (eM B O1 w1 rb l b j0 h1) ?_;rintro _ w2 ⟨wd,l2,b2,rfl,j5,i3,h2,f',i'⟩;refine zg ?_
 refine zc KQ (gD B O1 w2 rb a l2 b2 0 zd ha i' h2) ?_;rintro uv w3 ⟨us,l3,b3,O3,g5,i2,h3,f9,i9⟩;refine zg ?_
 refine zc KQ (gD B O3 w3 rb (a+1) l3 b3 0 zd zo i9 h3) ?_;rintro bv w4 ⟨ps,l4,b4,O4,g8,i1,h4,e5,i8⟩;have g4:=g5.upd e5 zo zo;refine zg ?_
 refine zc KQ (gD B O4 w4 rb (a+2) l4 b4 1 zd zo i8 h4) ?_;rintro kv w5 ⟨ks,l5,b5,O5,g6,i0,h5,d4,i7⟩;have g3:=g4.upd d4 zo zo;have g7:=g8.upd d4 zo zo;refine zg ?_
 refine zc KQ (gD B O5 w5 rb (a+3) l5 b5 0 zd zo i7 h5) ?_;rintro nv w6 ⟨ns,l6,b6,O6,f4,h',h6,c',i6⟩;have e':=g3.upd c' zo zo;have f6:=g7.upd c' zo zo;have f5:=g6.upd c' zo zo;have d1:Ia (fun j=>j=1\/a<=j/\j<=a+6) O w O6 w6:=((((e6.trans (f'.mono (fun _ h=>by omega) hz)).trans (f9.mono (fun _ h=>by omega) hz)).trans (e5.mono (fun _ h=>by omega) hz)).trans (d4.mono (fun _ h=>by omega) hz)).trans (c'.mono (fun _ h=>by omega) hz);have e3:=((((e4.upd f' zo zo).upd f9 zo zo).upd e5 zo zo).upd d4 zo zo).upd c' zo zo;have o1:=e'.one;have o2:=f6.one;have o3:=f5.one;have o4:=f4.one;refine zv (aE DL (JT _) rfl (by first|rfl|(simp only[GU,o1,o2,o3,o4,IS];rfl)) rfl rfl) ?_
 refine zv (Iv (cells:=#[nI (wd:Int),uv,bv,kv,nv,nS]) Gq (Jq _) rfl zk) ?_;refine ar i6 (a+5) zo (Jq _) rfl ?_
 intro pb w7 O7 a8 g' i5 j8;refine zsb (us:=#[nI (wd:Int),uv,bv,kv,nv,nS]) a8 (Ik _) (by simp only[GU,o1,o2,o3,o4,IS];rfl) ?_;have d8:=a8.setRow (us:=#[nI (wd:Int),uv,bv,kv,nv,nS]);have f8:Ia (fun j=>j=a+5) O7 w7 O7 (w7.setRow pb #[nI (wd:Int),uv,bv,kv,nv,nS]):=G8 zo a8.tag rfl;generalize w7.setRow pb #[nI (wd:Int),uv,bv,kv,nv,nS]=w8 at *;have a':=g'.trans f8;have i4:=i5.upd f8;have h8:=h6.upd a' zo;have h0:=d1.trans (a'.mono (fun _ h=>by omega) hz);refine zg ?_;refine zc KR (eM B O7 w8 rb l6 b6 i4 h8) ?_;rintro _ w9 ⟨m,l9,b9,rfl,hm,h7,h9,f7,g1⟩;have c5:=d8.upd f7 zo zo;have c9:=(a'.mono (S':=fun j=>j=1\/j=a+4\/j=a+5) (fun _ h=>by omega) zo).trans (f7.mono (fun _ h=>by omega) zo);obtain⟨O9,j1⟩:∃O9,O9=O7:=⟨_,rfl⟩
 rw[<-j1]at h9 c5 c9 g1;refine zg ?_;refine zlp (fun z:Nat×List Nat×List UInt8×Bool×(Nat->Nat)×World×ix=>[(0,nP rb),(2,nP cb),(3,nP pb),(4,nI ((z.1:Nat):Int))]) (fun z=>z.2.2.2.2.2.1) (fun z=>z.1+z.2.1.length<=m/\LstI (gH 0) m l9 b9 z.1 z.2.1 z.2.2.1 z.2.2.2.1/\K6 z.2.2.2.2.1 z.2.2.2.2.2.1 (a+5) pb #[nI (wd:Int),uv,bv,kv,nv,z.2.2.2.2.2.2] 30/\JG fp 24 1 z.2.2.2.2.1 z.2.2.2.2.2.1 (a+4) z.2.2.2.2.2.2 z.2.1/\RdO z.2.2.2.2.1 z.2.2.2.2.2.1 rb z.2.2.1 z.2.2.2.1/\Ia (fun j=>j=1\/j=a+4\/j=a+5) O6 w6 z.2.2.2.2.1 z.2.2.2.2.2.1/\IY B z.2.2.2.2.1 z.2.2.2.2.2.1) (fun z=>z.1) (m,[],l9,b9,O9,w9,nS) (⟨I5 _,px _ _ _ _,c5,K8 _ _ _ _ _ _,h9,c9,g1⟩) ?_;rintro⟨k,xs,lk,bk,Ok,wk,tv⟩ ⟨hk,hL,a2,b1,c7,a3,d5⟩;dsimp only at hk hL a2 b1 c7 a3 d5 ⊢;have mk:=c7.bad;refine zg ?_;refine bx (fun w1=>_=w1) (!bk) 6 (rfl) rfl rfl rfl rfl rfl ?_ ?_
 ·intro a1;refine zg ?_;refine zvG (RV.ld mk rfl) ?_;refine cH (tA:=21) 7 (rfl) rfl rfl rfl (fun v hv=>(Jm hv).symm.trans (congrArg Kd a1)) rfl
 rintro _ rfl;refine zg ?_;refine zC ?_ ?_
 ·intro hc;rw[I2,decide_eq_true_eq,Iq]at hc;obtain⟨j7,rfl⟩:=hc;obtain⟨k,rfl⟩:∃k',k=k'+1:=⟨k-1,by omega⟩
  have j6:(2^20:Nat)=1048576:=by decide
  refine zg ?_;refine aL (fun _=>True) 8 rfl zk ?_
  refine zin trivial fun zS=>?_
  refine zrf 0 rfl zS rfl ?_;refine zrm 2 rfl zS rfl ?_
  obtain⟨O8,j2⟩:∃O8,O8=Ok:=⟨_,rfl⟩
  rw[<-j2]at a2 b1 c7 a3 d5;refine sQ (fun x:ix×Nat×List UInt8×Bool×G1=>[(0,nP rb),(2,nP cb),(3,nP pb),(4,nI ((k+1:Nat):Int)),(32,tv),(35,x.1)]) (fun x=>x.2.2.2.2) (fun x=>x.2.1<2^64/\RdS (gH 0) lk false x.2.1 x.2.2.1 x.2.2.2.1/\Sl fp 1 x.2.2.2.2 x.1 [x.2.1]/\RdO O8 x.2.2.2.2 rb x.2.2.1 x.2.2.2.1/\K6 O8 x.2.2.2.2 (a+5) pb #[nI (wd:Int),uv,bv,kv,nv,tv] 30/\JG fp 24 1 O8 x.2.2.2.2 (a+4) tv xs/\Ia (fun j=>j=1) O8 wk O8 x.2.2.2.2/\IY B O8 x.2.2.2.2) #[true,true,true,true,true,false,false,false] 3 ?_ ?_
  ·intro hN;have hR:=d5.drew;have hU:Ia (fun j=>j=1) O8 wk O8 wk.drew:=aa zd O8 (GY wk).drew;have g9:Ia (fun _=>False) O8 wk O8 wk.drew:=aa (fun h=>h) O8 (GY wk).drew;have fB:=a2.drew;have fT:=b1.drew;have fD:=c7.upd g9 (fun h=>h);have fK:∀(O:Nat->Nat) (W:G1),Ia (fun j=>j=1) O8 wk.drew O W->True:=fun _ _ _=>trivial
   refine bG 1 3 zk rfl rfl ?_ ?_ 
   ·refine zvG (RV.ld (fB.cell 5 rfl) rfl) ?_;refine ae trivial ?_
    refine I8 3 zk rfl ?_;refine zc Kp (iu B O8 _ rb _ _ hR fD) ?_
    rintro _ wc ⟨n,l9,b9,rfl,fn,fS,fD,hX,hR⟩;have fB:=J4 fB hX zo zo;have fT:=GR fT hX zo zo;have fK:=fun O W u=>fK O W (hX.trans u)
    have hU:=hU.trans hX;refine zg ?_;refine ae trivial ?_;refine I8 4 zk rfl ?_;refine bP iP (enc:=fp) n rfl rfl rfl zd rfl ?_;intro sv wd fV a7;have hX:=aa (S:=fun j=>j=1) zd O8 a7;have fB:=J4 fB hX zo zo;have fT:=GR fT hX zo zo;have fD:=RdO.upd fD (aa (S:=fun _=>False) (fun h=>h) O8 a7) (fun h=>h);have hR:=JP hR hX;have hU:=hU.trans hX;refine zg ?_;refine ae trivial ?_;exact II (hN (sv,n,l9,b9,_) ⟨fn,fS,fV,fD,fB,fT,hU,hR⟩) zk ⟨rfl,rfl,rfl,rfl,rfl,rfl,trivial⟩ rfl
   refine zc Kp (iu B O8 _ rb _ _ hR fD) ?_;rintro _ wc ⟨n,l9,b9,rfl,fn,fS,fD,hX,hR⟩;have fB:=J4 fB hX zo zo;have fT:=GR fT hX zo zo;have fK:=fun O W u=>fK O W (hX.trans u)
   have hU:=hU.trans hX;refine zg ?_;refine ae trivial ?_;refine bG 1 4 zk rfl rfl ?_ ?_ 
   ·refine zvG (RV.ld (fB.cell 5 rfl) rfl) ?_;refine ae trivial ?_
    refine I8 4 zk rfl ?_;refine bP iP (enc:=fp) n rfl rfl rfl zd rfl ?_
    intro sv wd fV a7;have hX:=aa (S:=fun j=>j=1) zd O8 a7;have fB:=J4 fB hX zo zo;have fT:=GR fT hX zo zo;have fD:=RdO.upd fD (aa (S:=fun _=>False) (fun h=>h) O8 a7) (fun h=>h);have hR:=JP hR hX;have hU:=hU.trans hX;refine zg ?_;refine ae trivial ?_;exact II (hN (sv,n,l9,b9,_) ⟨fn,fS,fV,fD,fB,fT,hU,hR⟩) zk ⟨rfl,rfl,rfl,rfl,rfl,rfl,trivial⟩ rfl
   refine bP iP (enc:=fp) n rfl rfl rfl zd rfl ?_;intro sv wd fV a7;have hX:=aa (S:=fun j=>j=1) zd O8 a7;have fB:=J4 fB hX zo zo;have fT:=GR fT hX zo zo;have fD:=RdO.upd fD (aa (S:=fun _=>False) (fun h=>h) O8 a7) (fun h=>h);have hR:=JP hR hX;have hU:=hU.trans hX;refine zg ?_
   refine ae trivial ?_;refine I8 1 zk rfl ?_
   refine zvG (RV.ld (fB.cell 5 rfl) rfl) ?_;refine ae trivial ?_
   exact II (hN (sv,n,l9,b9,_) ⟨fn,fS,fV,fD,fB,fT,hU,hR⟩) zk ⟨rfl,rfl,rfl,rfl,rfl,rfl,trivial⟩ rfl
  rintro⟨sv,n,g2,j3,j4⟩ ⟨d',d2,f3,c8,a5,b8,d0,d3⟩;dsimp only at d' d2 f3 c8 a5 b8 d0 d3 ⊢;refine I8 5 zk rfl ?_;refine cf iP b8 d3 f3 rfl rfl (fun _ _=>rfl) (fun u _ c hc=>by rw[G6.1 hc];rfl) (by rw[ln];omega) (by rw[ln];omega) zo rfl ?_;intro d6 e9 O11 b7 b0 e8;have a0:=a5.upd b0 zo zo;have e1:=c8.upd b0 zo;refine zg ?_;refine ae (trivial) ?_;refine zrf 6 rfl (trivial) rfl ?_;refine I8 7 zk rfl ?_;refine ak (j:=5) a0 rfl (Lc _) b7.one rfl rfl rfl ?_;have c6:=a0.set 5 d6;have a4:Ia (fun j=>j=a+5) O11 e9 O11 (e9.setCell ⟨pb,5,none⟩ d6):=IW zo a0.tag rfl;have d7:=b7.upd a4 zo zo;have e0:=e1.upd a4 zo;have e7:=e8.upd a4;refine zg ?_;refine ae (trivial) ?_;refine JS zk ?_;refine zg ?_;refine zvG (dP (v':=nI ((k:Nat):Int)) (Li rfl rfl (IX zo)) (by congr 1;omega)) ?_;refine zxd (k,xs++[n],g2,j3,O11,_,d6) (⟨by dsimp only;rw[ka,ln];omega,hL.step d2,c6,d7,e0,((a3.trans (d0.mono (fun _ h=>by omega) zo)).trans (b0.mono (fun _ h=>by omega) zo)).trans (a4.mono (fun _ h=>by omega) zo),e7⟩)
 intro hc;have hd:k=0\/bk=true:=by
  rw[K5,decide_eq_false_iff_not,Jp]at hc
  rcases hc with hc|hc
  ·exact .inl zo
  exact .inr hc
 have a9:=e3.upd a3 zo zo;have ok:=b1.one;have d9:[nI (wd:Int),uv,bv,kv,nv,tv].all Ib=true:=by simp only[GU,o1,o2,o3,o4,ok,IS];rfl
 refine zg ?_;refine zv (ah (us:=[nI (wd:Int),uv,bv,kv,nv,tv]) a2.cellsAdd (IV _) (Ik _) rfl) ?_
 refine zsb (us:=#[nI (wd:Int),uv,bv,kv,nv,tv]) a9 (Ik _) d9 ?_;have e2:=a9.setRow (us:=#[nI (wd:Int),uv,bv,kv,nv,tv]);have a6:Ia (fun j=>j=a+6) Ok wk Ok (wk.setRow cb #[nI (wd:Int),uv,bv,kv,nv,tv]):=G8 zo a9.tag rfl;generalize wk.setRow cb #[nI (wd:Int),uv,bv,kv,nv,tv]=wl at *;refine zg ?_
 refine aJ rfl rfl (e2.cellsAdd) (IV _) (Ik _) (⟨_,(wd,us,ps,ks,ns,xs),lk,bk,Ok,rfl,⟨uv,bv,kv,nv,tv,rfl,(e'.upd a3 zo zo).upd a6 zo zo,(f6.upd a3 zo zo).upd a6 zo zo,(f5.upd a3 zo zo).upd a6 zo zo,(f4.upd a3 zo zo).upd a6 zo zo,b1.upd a6 zo zo⟩,i3.seq (i2.seq (i1.seq (i0.seq (h'.seq (h7.telR (hL.done hd)))))),c7.upd a6 zo,(d1.trans (a3.mono (fun _ h=>by omega) hz)).trans (a6.mono (fun _ h=>by omega) hz),d5.upd a6⟩)
theorem Ck{xs:List Int}(h1:xs.length<=65599)(h2:∀n∈xs,0<=n/\n<=65535):okI 0 xs:=⟨h1,fun n hn=>by have:=h2 n hn;omega⟩
theorem Gt{xs:List Int}(h1:xs.length<=65599)(h2:∀n∈xs,-1<=n/\n<=1000):okI 1 xs:=⟨h1,fun n hn=>by have:=h2 n hn;omega⟩
theorem kA{O:Nat->Nat}{w:G1}{i j:Nat}{lv:ix}{vs:List ix}{a0:List (List Int)}(h:JG (fun x:ix=>[x]) 25 1 O w j lv vs)(a1:j≠i)(hj:j≠0)(hl:vs.length=a0.length)(hr:∀q∈vs.zip a0,JE w q.1 q.2/\Jj O w q.1):
  ∀O' W,Ia (fun j=>j=i) O w O' W->ListsV W lv vs a0:=fun O' W u=>⟨(h.upd u hj (fun e=>a1 e)).sl,hl,fun k hk=>by
 have hm:(nth vs k,nth a0 k)∈vs.zip a0:=by
  rw[az hk,az (hl▸hk:k<vs.length),<-List.getElem_zip (h:=by simp;omega)];exact KC _
 exact(hr _ hm).1.upd (hr _ hm).2 u⟩
theorem qP(B:Nat)(O:Nat → Nat)(w:G1)(v:ix)(l:List UInt8)(cs:List ix)(p:K9)(tl:List Nat)(hR:IY B O w)(h:BufT lS 5 O w 1 v l)(hp:PartV w cs p tl)(hf:FreeL O w cs)(hB:PrtB p tl)(ht:∀x ∈ tl, x < 2^64)(hl:l.length ≤ 100000000):
  Jl Ig 28 [v, .agg cs.toArray] w fun v' w' => ∃O', BufT lS 5 O' w' 1 v' (l ++ ze (tw p tl)) ∧ Ia (fun q => 1 ≤ q ∧ q ≤ 5) O w O' w' ∧ IY B O' w' := by
 have hz:¬(1 ≤ 0 ∧ 0 ≤ 5) := by omega
 obtain⟨uv, bv, kv, nv, tv, rfl, hu, hb, hk, hn, htl⟩ := hp
 have fu:Jj O w uv := hf _ (by simp)
 have fb:Jj O w bv := hf _ (by simp)
 have fk:Jj O w kv := hf _ (by simp)
 have fn:Jj O w nv := hf _ (by simp)
 have ft:Jj O w tv := hf _ (by simp)
 have o1 := hu.one
 have o2 := hb.one
 have o3 := hk.one
 have o4 := hn.one
 obtain⟨_, _, e1, _⟩ := hu.shape
 obtain⟨_, _, e2, _⟩ := hb.shape
 obtain⟨_, _, e3, _⟩ := hk.shape
 obtain⟨_, _, e4, _⟩ := hn.shape
 have hokU:okI 0 p.usual := Ck (by have := hB.u.1; omega) hB.u.2
 have hokB:okI 0 p.base := Ck (by have := hB.b.1; omega) hB.b.2
 have hokC:okI 1 p.check := Gt hB.c.1 hB.c.2
 have hokN:okI 0 p.next := Ck hB.n.1 hB.n.2
 have htll := hB.t
 obtain⟨W, hW⟩:∃W:Int → List Int → List UInt8, W = fun b xs => pZ (upN b xs) := ⟨_, rfl⟩
 have hWl:∀b xs, okI b xs → (W b xs).length ≤ 656000 := fun b xs h => by rw[hW]; exact gL h
 have hfin:ze (tw p tl) = dK p.width.toNat ++ (W 0 p.usual ++ (W 0 p.base ++ (W 1 p.check ++ (W 0 p.next ++ (dK tl.length ++ tl.flatMap dK))))) := by rw[hW]; rfl
 rw[hfin]
 have hw0 := hB.w
 have n1 := cJ (n := p.width.toNat) (by omega)
 have n2 := hWl _ _ hokU
 have n3 := hWl _ _ hokB
 have n4 := hWl _ _ hokC
 have n5 := hWl _ _ hokN
 have n6 := cJ (n := tl.length) (by omega)
 refine G4 func28 ntmps28 rfl rfl ?_
 refine GV ?_
 refine G2 ?_
 refine aF hR 2 (by omega) rfl rfl ?_
 intro db w1 O1 hdb1 hU1 hR1 hE1
 have h1 := h.upd hU1 (by decide) (by decide)
 have hU01 := hU1.mono (S' := fun q => 1 ≤ q ∧ q ≤ 5) (fun _ h => by omega) hz
 have c0:w1.cell? ((nA db 0).add 0) = some (nI p.width) := hdb1.cell 0 rfl
 refine bE (GX rfl) rfl ?_
 refine GW ?_
 refine ai ?_
 refine GV ?_
 refine G2 ?_
 refine bE (G5 rfl) rfl ?_
 refine bE (I9 0 IA rfl rfl (IT _) (by decide) rfl) rfl ?_
 refine bE (I9 0 Jg rfl rfl (sizeOf3 _) (by decide) rfl) rfl ?_
 refine bE (IZ (by first | exact c0) (isAgg3 _) rfl) rfl ?_
 refine bE (dm J7 I6 rfl (Jd (by omega))) rfl ?_
 refine Jk Ko rfl (im B O1 w1 1 v l _ p.width.toNat (by omega) hR1 h1 (by decide) (by omega) (by omega)) rfl ?_
 rintro v2 w2 ⟨O2, h2, hU2, hR2⟩
 have hdb2 := hdb1.upd hU2 (by decide) (by decide)
 have hU02 := hU01.trans (hU2.mono (fun _ h => by omega) hz)
 have d1:w2.cell? ((nA db 0).add 1) = some uv := hdb2.cell 1 rfl
 have d2:w2.cell? ((nA db 0).add 2) = some bv := hdb2.cell 2 rfl
 refine bE (GX rfl) rfl ?_
 refine GW ?_
 refine ai ?_
 refine GV ?_
 refine G2 ?_
 refine bE (G5 rfl) rfl ?_
 refine bE (I9 0 IA rfl rfl (IT _) (by decide) rfl) rfl ?_
 refine bE (I9 1 Jg rfl rfl (JM _) (by decide) rfl) rfl ?_
 refine bE (IZ (by first | exact d1) (Km _) rfl) rfl ?_
 refine bE (I9 0 IA rfl rfl (IT _) (by decide) rfl) rfl ?_
 refine bE (I9 2 Jg rfl rfl (JM _) (by decide) rfl) rfl ?_
 refine bE (IZ (by first | exact d2) (Km _) rfl) rfl ?_
 refine ga yi (JU w2) (fun x:ix => [x]) [uv, bv] hR2 3 (by decide) rfl rfl rfl rfl (by rw[e1, e2]; kernel_rfl) (by simp) rfl ?_
 intro lv3 w3 O3 hlv3 hU3 hR3
 have h3 := h2.upd hU3 (by decide) (by decide)
 have hU03 := hU02.trans (hU3.mono (fun _ h => by omega) hz)
 refine Jk Ld rfl (jP B O3 w3 1 v2 lv3 _ 0 [uv, bv] [p.usual, p.base] (by decide) hR3 h3 (by decide) (by simp only[ka]; omega) (by simp) (by simp[hokU, hokB]) (kA hlv3 (by decide) (by decide) rfl fun q hq => by simp only[List.zip_cons_cons, List.zip_nil_left, GT, GS, or_false]at hq; rcases hq with rfl | rfl; exact⟨hu.upd fu hU03, fu.upd hU03⟩; exact⟨hb.upd fb hU03, fb.upd hU03⟩)) rfl ?_
 rintro v4 w4 ⟨O4, h4, hU4, hR4⟩
 have hdb4 := (hdb2.upd hU3 (by decide) (by decide)).upd hU4 (by decide) (by decide)
 have hU04 := hU03.trans (hU4.mono (fun _ h => by omega) hz)
 have h4':BufT lS 5 O4 w4 1 v4 (l ++ dK p.width.toNat ++ W 0 p.usual ++ W 0 p.base) := by rw[hW]; simpa[G0]using h4
 have d3:w4.cell? ((nA db 0).add 3) = some kv := hdb4.cell 3 rfl
 refine bE (GX rfl) rfl ?_
 refine GW ?_
 refine ai ?_
 refine GV ?_
 refine G2 ?_
 refine bE (G5 rfl) rfl ?_
 refine bE (I9 0 IA rfl rfl (IT _) (by decide) rfl) rfl ?_
 refine bE (I9 3 Jg rfl rfl (JM _) (by decide) rfl) rfl ?_
 refine bE (IZ (by first | exact d3) (Km _) rfl) rfl ?_
 refine ga yi (JU w4) (fun x:ix => [x]) [kv] hR4 4 (by decide) rfl rfl rfl rfl (by rw[e3]; kernel_rfl) (by simp) rfl ?_
 intro lv5 w5 O5 hlv5 hU5 hR5
 have h5 := h4'.upd hU5 (by decide) (by decide)
 have hU05 := hU04.trans (hU5.mono (fun _ h => by omega) hz)
 refine Jk Ld rfl (jP B O5 w5 1 v4 lv5 _ 1 [kv] [p.check] (by decide) hR5 h5 (by decide) (by simp only[ka]; omega) (by simp) (by simp[hokC]) (kA hlv5 (by decide) (by decide) rfl fun q hq => by obtain rfl:q = _ := G6.1 hq; exact⟨hk.upd fk hU05, fk.upd hU05⟩)) rfl ?_
 rintro v6 w6 ⟨O6, h6, hU6, hR6⟩
 have hdb6 := (hdb4.upd hU5 (by decide) (by decide)).upd hU6 (by decide) (by decide)
 have hU06 := hU05.trans (hU6.mono (fun _ h => by omega) hz)
 have h6':BufT lS 5 O6 w6 1 v6 (l ++ dK p.width.toNat ++ W 0 p.usual ++ W 0 p.base ++ W 1 p.check) := by rw[hW]; simpa[hW]using h6
 have d4:w6.cell? ((nA db 0).add 4) = some nv := hdb6.cell 4 rfl
 refine bE (GX rfl) rfl ?_
 refine GW ?_
 refine ai ?_
 refine GV ?_
 refine G2 ?_
 refine bE (G5 rfl) rfl ?_
 refine bE (I9 0 IA rfl rfl (IT _) (by decide) rfl) rfl ?_
 refine bE (I9 4 Jg rfl rfl (JM _) (by decide) rfl) rfl ?_
 refine bE (IZ (by first | exact d4) (Km _) rfl) rfl ?_
 refine ga yi (JU w6) (fun x:ix => [x]) [nv] hR6 5 (by decide) rfl rfl rfl rfl (by rw[e4]; kernel_rfl) (by simp) rfl ?_
 intro lv7 w7 O7 hlv7 hU7 hR7
 have h7 := h6'.upd hU7 (by decide) (by decide)
 have hU07 := hU06.trans (hU7.mono (fun _ h => by omega) hz)
 refine Jk Ld rfl (jP B O7 w7 1 v6 lv7 _ 0 [nv] [p.next] (by decide) hR7 h7 (by decide) (by simp only[ka]; omega) (by simp) (by simp[hokN]) (kA hlv7 (by decide) (by decide) rfl fun q hq => by obtain rfl:q = _ := G6.1 hq; exact⟨hn.upd fn hU07, fn.upd hU07⟩)) rfl ?_
 rintro v8 w8 ⟨O8, h8, hU8, hR8⟩
 have hdb8 := (hdb6.upd hU7 (by decide) (by decide)).upd hU8 (by decide) (by decide)
 have hU08 := hU07.trans (hU8.mono (fun _ h => by omega) hz)
 obtain⟨L, hL⟩:∃L, L = l ++ dK p.width.toNat ++ W 0 p.usual ++ W 0 p.base ++ W 1 p.check ++ W 0 p.next := ⟨_, rfl⟩
 have hLl:L.length ≤ 110000000 := by rw[hL]; simp only[ka]; omega
 have h8':BufT lS 5 O8 w8 1 v8 L := by rw[hL, hW]; simpa[hW]using h8
 have ht8 := htl.upd ft hU08
 have d5:w8.cell? (nA db 5) = some tv := hdb8.cell 5 rfl
 refine bE (GX rfl) rfl ?_
 refine GW ?_
 refine ai ?_
 refine GV ?_
 refine G2 ?_
 refine bE (G5 rfl) rfl ?_
 refine bE (I9 5 IA rfl rfl (Lc _) (by decide) rfl) rfl ?_
 refine bE (IZ (by first | exact d5) (isAgg28 _) rfl) rfl ?_
 refine bE (KA (by first | exact ht8) Kj rfl) rfl ?_
 refine bE (dm J7 I6 rfl (Jd (by omega))) rfl ?_
 refine Jk Ko rfl (im B O8 w8 1 v8 L _ tl.length rfl hR8 h8' (by decide) (by omega) (by omega)) rfl ?_
 rintro v9 w9 ⟨O9, h9, hU9, hR9⟩
 have hdb9 := hdb8.upd hU9 (by decide) (by decide)
 have hU09 := hU08.trans (hU9.mono (fun _ h => by omega) hz)
 have ht9 := htl.upd ft hU09
 have e5:w9.cell? (nA db 5) = some tv := hdb9.cell 5 rfl
 refine bE (GX rfl) rfl ?_
 refine GW ?_
 refine ai ?_
 refine GV ?_
 refine GV ?_
 refine G2 ?_
 refine bE (I9 5 IA rfl rfl (Lc _) (by decide) rfl) rfl ?_
 refine bE (IZ (by first | exact e5) (isAgg28 _) rfl) rfl ?_
 refine bE (KA (by first | exact ht9) Kj rfl) rfl ?_
 refine bE (G5 rfl) rfl ?_
 refine GW ?_
 refine ai ?_
 refine J8 ?_
 refine L4 (fun z:Nat×(Nat → Nat)×World×ix => [(0, z.2.2.2), (41, tv), (42, nI tl.length), (43, nI z.1)]) (fun z:Nat×(Nat → Nat)×World×ix => z.2.2.1) (fun z:Nat×(Nat → Nat)×World×ix => z.1 ≤ tl.length ∧ BufT lS 5 z.2.1 z.2.2.1 1 z.2.2.2 (L ++ dK tl.length ++ (tl.take z.1).flatMap dK) ∧ Ia (fun q => 1 ≤ q ∧ q ≤ 5) O w z.2.1 z.2.2.1 ∧ IY B z.2.1 z.2.2.1) (fun z:Nat×(Nat → Nat)×World×ix => tl.length - z.1) (0, O9, w9, v9) (⟨I3 _, by simpa using h9, hU09, hR9⟩) ⟨rfl, rfl, rfl, rfl, trivial⟩ rfl ?_
 rintro⟨k, Ok, wk, vk⟩ ⟨hkk, hrk, hUk, hRk⟩
 dsimp only at hkk hrk hUk hRk ⊢
 have htk := htl.upd ft hUk
 have hflk:((tl.take k).flatMap dK).length ≤ 10000 := by
  have := mC (xs := tl.take k) fun x hx => ht x (It hx)
  rw[Il]at this; omega
 refine GV ?_
 refine G2 ?_
 refine bE (Lj rfl rfl) rfl ?_
 refine GW ?_
 refine ai ?_
 refine GV ?_
 refine L5 rfl ?_ ?_
 ·intro hlt
  replace hlt:k < tl.length := by have := of_decide_eq_true hlt; omega
  have mk:wk.cell? (adr tv 1 k) = some (.int .u64 ((nth tl k:Nat):Int)) := htk.ld hlt
  refine K7 ?_
  refine ai ?_
  refine GV ?_
  refine J8 ?_
  refine GV ?_
  refine G2 ?_
  refine bE (JF (by first | exact htk) Kj (KF _) rfl rfl _ rfl (by omega)) rfl ?_
  refine bE (IZ (by first | exact mk) (isAgg24 _) rfl) rfl ?_
  refine bE (GX rfl) rfl ?_
  refine GW ?_
  refine ai ?_
  refine G2 ?_
  refine bE (G5 rfl) rfl ?_
  refine bE (G5 rfl) rfl ?_
  refine Jk Ko rfl (im B Ok wk 1 vk _ _ (nth tl k) rfl hRk hrk (by decide) (ht _ (aQ hlt)) (by simp only[ka]; omega)) rfl ?_
  rintro v10 w10 ⟨O10, h10, hU10, hR10⟩
  refine bE (GX rfl) rfl ?_
  refine GW ?_
  refine bp ?_
  refine ai ?_
  refine G2 ?_
  refine bE (KB rfl rfl (IX (by omega))) rfl ?_
  refine bE (G5 rfl) rfl ?_
  refine GW ?_
  refine L6 ((k + 1, O10, w10, v10)) (⟨hlt, by dsimp only; rw[aH hlt, IP, ID, ← G0]; exact h10, hUk.trans (hU10.mono (fun _ h => by omega) hz), hR10⟩) (by dsimp only; omega) ⟨rfl, rfl, rfl, rfl, trivial⟩ rfl
 ·intro hge
  obtain rfl:k = tl.length := by have := of_decide_eq_false hge; omega
  rw[I1, hL]at hrk
  refine KG ?_
  refine aS ?_
  refine aS ?_
  refine bQ ?_
  refine ai ?_
  refine GV ?_
  refine G2 ?_
  refine bE (G5 rfl) rfl ?_
  refine bE (GX rfl) rfl ?_
  refine GW ?_
  refine ai ?_
  refine KU ?_
  refine af rfl rfl (⟨Ok, by simpa[G0]using hrk, hUk, hRk⟩)
theorem oy{t:TabM}(h:bq t=true):t.ig<2^64/\t.kp<2^64/\t.br<2^64:=by
 have hB:=gE h;have h1:=hB.ig;have h2:=hB.kp;have h3:=hB.br;omega
theorem pM{p:K9}{tl:List Nat}(hB:PrtB p tl)(ht:∀x∈tl,x<2^64):(ze (tw p tl)).length<=10000000:=by
 have a1:=hB.w;have a0:=hB.t;have n1:=cJ (n:=p.width.toNat) zo;have n2:=gL (Ck (by have:=hB.u.1;omega) hB.u.2);have n3:=gL (Ck (by have:=hB.b.1;omega) hB.b.2);have n4:=gL (Gt hB.c.1 hB.c.2);have n5:=gL (Ck hB.n.1 hB.n.2);have n6:=cJ (n:=tl.length) zo;have n7:=mC ht;simp only[ze,tw,ka];rw[show pZ tl=dK tl.length++tl.flatMap dK from rfl,ka];omega
theorem oW(t:TabM)(v:ix)(w:G1)(h:TabV w v t):Jl Ig 8 [v] w fun u w'=>
  Jo w w'/\((bq t=false/\u=.tuple #[nS,nI 1])\/(bq t=true/\∃bv,u=.tuple #[bv,nI 0]/\Sl mU 1 w' bv (mT t)/\Ke w.heap.size bv)):=by
 have g4:=h;obtain⟨gv,lc,rc,rfl,a6,a5,a3⟩:=h;obtain⟨ll,lo⟩:=a5.one;obtain⟨rl,ro⟩:=a3.one;have b5:(bS t.ig t.kp t.br t.rules gv lc rc).length=17:=by simp[ll,rl]
 refine G4 func8 ntmps8 rfl rfl ?_;refine zh ?_
 refine aF (aw w) 7 zo rfl rfl ?_;intro db w1 O1 a8 e7 f8 b1;refine zh ?_
 refine zv (ah (us:=bS t.ig t.kp t.br t.rules gv lc rc) a8.cellsAdd (IQ _) (by rw[b5];exact I4 _) rfl) ?_;refine zc call9 (lj t _ w1 ⟨gv,lc,rc,rfl,a6.ext b1,a5.ext b1,a3.ext b1⟩) ?_
 rintro _ w2 ⟨rfl,d6⟩;have b':=aa (S:=fun _=>False) (fun h=>h) O1 d6;refine zh ?_
 cases b3:bq t with
 |false=>
  refine zTH rfl rfl ?_;refine bI rfl rfl rfl (⟨b1.trans d6,.inl ⟨rfl,rfl⟩⟩)
 |true=>
  have hz:¬(1<=0/\0<=7):=zo;have hB:=gE b3;obtain⟨c',c9⟩:=jf b3;obtain⟨s1,s2,s3⟩:=oy b3;have d':=hB.r;have f7:=f8.upd b';have b7:=a8.upd b' zd (fun h=>h);have c7:Ia (fun q=>1<=q/\q<=7) (fun _=>0) w O1 w2:=(e7.mono (fun _ h=>zo) hz).trans (b'.mono (fun _ h=>h.elim) hz);have fg:Jj (fun _=>0) w gv:=a6.free0 (fun x=>by simp);have fl:=a5.free0;have fr:=a3.free0;refine zFH rfl rfl ?_;refine qu elW Ii (zeroValue5 w2) lS hdrW f7 1 zd rfl rfl rfl rfl zk rfl rfl ?_;intro v3 w3 O3 d9 d5 f6;have a1:=b7.upd d5 zd zd;have c6:=c7.trans (d5.mono (fun _ h=>zo) hz);have k0:w3.cell? (nA db 0)=some (.int .u64 (t.ig:Int)):=a1.cell 0 rfl;have k1:w3.cell? (nA db 1)=some (.int .u64 (t.kp:Int)):=a1.cell 1 rfl;have k2:w3.cell? (nA db 2)=some (.int .u64 (t.br:Int)):=a1.cell 2 rfl;have k3:w3.cell? (nA db 3)=some (nI t.rules):=a1.cell 3 rfl;obtain⟨ns,a'⟩:∃ns:List Nat,ns=[t.rules.toNat,t.ig,t.kp,t.br]:=⟨_,rfl⟩
  have g1:ns.length=4:=by rw[a'];rfl
  have d0:∀n∈ns,n<2^64:=by
   rw[a'];intro n hn;simp only[GT,GS,or_false]at hn
   rcases hn with rfl|rfl|rfl|rfl<;>omega
  have e2:∀k,k<4->(#[.int .u64 t.rules,.int .u64 (t.ig:Int),.int .u64 (t.kp:Int),.int .u64 (t.br:Int)]:Array ix)[k]? = some (.int .u64 ((nth ns k:Nat):Int)):=fun k hk=>by
   have e:(#[.int .u64 t.rules,.int .u64 (t.ig:Int),.int .u64 (t.kp:Int),.int .u64 (t.br:Int)]:Array ix)=(ns.map fun n:Nat=>Kq .u64 (n:Int)).toArray:=by
    rw[a'];simp only[Ip,Jy];rw[Jn d'.1]
   rw[e,List.getElem?_toArray,List.getElem?_map,List.getElem?_eq_getElem zo,az zo];rfl
  refine zh ?_;refine zvH (dm J7 I6 rfl (Jd zo)) ?_
  refine zvH (dD (cells:=#[.int .u64 t.rules,.int .u64 (t.ig:Int),.int .u64 (t.kp:Int),.int .u64 (t.br:Int)]) Ll (KF _) (zeroValue68 _) rfl zk) ?_;refine zlp (fun z:Nat×(Nat->Nat)×World×ix=>[(1,nP db),(4,z.2.2.2),(21,.agg #[.int .u64 t.rules,.int .u64 (t.ig:Int),.int .u64 (t.kp:Int),.int .u64 (t.br:Int)]),(22,nI z.1)]) (fun z=>z.2.2.1) (fun z=>z.1<=4/\BufT lS 5 z.2.1 z.2.2.1 1 z.2.2.2 (hdrW++(ns.take z.1).flatMap dK)/\Ia (fun q=>q=1) O3 w3 z.2.1 z.2.2.1/\IY w.heap.size z.2.1 z.2.2.1) (fun z=>4-z.1) (0,O3,w3,v3) (⟨I3 _,by simpa using d9,J5 zd _ _,f6⟩) ?_
  rintro⟨k,Ok,wk,vk⟩ ⟨hk,a9,b0,c8⟩;dsimp only at hk a9 b0 c8 ⊢;have e1:((ns.take k).flatMap dK).length<=40:=by
   have:=mC (xs:=ns.take k) fun x hx=>d0 x (It hx)
   rw[Il]at this;omega
  have g2:hdrW.length=4:=rfl;refine zh ?_;refine zC ?_ ?_
  ·intro a4;replace a4:k<4:=dT a4;refine zh ?_;refine zvH (uD Ll (KF _) (isAgg24 _) rfl rfl k rfl a4 (e2 k a4)) ?_;refine zc Ko (im w.heap.size Ok wk 1 vk _ _ (nth ns k) rfl c8 a9 zd (d0 _ (aQ zo)) (by rw[ka];omega)) ?_;rintro v4 w4 ⟨O4,h4,e6,f5⟩;refine zh ?_;refine zxd (k+1,O4,w4,v4) (⟨a4,by dsimp only;rw[aH zo,IP,ID,<-G0];exact h4,b0.trans e6,f5⟩)
  intro e0;obtain rfl:k=4:=dF e0;rw[G9 zo]at a9 e1;have a7:=a1.upd b0 zd zd;have hU0k:=c6.trans (b0.mono (fun _ h=>zo) hz);have k4:wk.cell? (nA db 4)=some gv:=a7.cell 4 rfl;obtain⟨_,_,eg,_⟩:=a6.shape;have d1:okI 0 t.groups:=Ck (by have:=hB.g.1;omega) fun n hn=>by have:=hB.g.2 n hn;omega
  have g3:=gL d1;refine zh ?_;refine ga yi (JU wk) (fun x:ix=>[x]) [gv] c8 3 zd rfl rfl rfl rfl (by rw[eg];kernel_rfl) (by simp) rfl ?_;intro d8 w5 O5 b4 c5 f4;have h5:=a9.upd c5 zd zd;have a2:=hU0k.trans (c5.mono (fun _ h=>zo) hz);refine zc Ld (jP w.heap.size O5 w5 1 vk d8 _ 0 [gv] [t.groups] zd f4 h5 zd (by rw[ka];omega) (by simp) (by simp[d1]) (kA b4 zd zd rfl fun q hq=>by obtain rfl:q=_:=G6.1 hq;exact⟨a6.upd fg a2,fg.upd a2⟩)) ?_;rintro v6 w6 ⟨O6,h6,d4,f3⟩;have b6:=(a7.upd c5 zd zd).upd d4 zd zd;have a0:=a2.trans (d4.mono (fun _ h=>zo) hz);obtain⟨L,hL⟩:∃L,L=hdrW++ns.flatMap dK++pZ (upN 0 t.groups):=⟨_,rfl⟩
  have g5:L.length<=1000000:=by rw[hL];simp only[ka];omega
  have f9:BufT lS 5 O6 w6 1 v6 L:=by rw[hL];simpa using h6
  have cl:∀O W,Ia (fun q=>1<=q/\q<=5) O6 w6 O W->(∀(j:Nat) (u:ix),lc[j]? = some u->W.cell? ((nA db 5).add j)=some u)/\∀(j:Nat) (u:ix),rc[j]? = some u->W.cell? ((nA db 11).add j)=some u:=fun O W u=>by
   have hT:=qz (t:=t) (b6.upd u zd zo) (a6.upd fg (a0.trans (u.mono (fun _ h=>zo) hz))) (a5.updF fl (a0.trans (u.mono (fun _ h=>zo) hz))) (a3.updF fr (a0.trans (u.mono (fun _ h=>zo) hz)));exact⟨hT.cl,hT.cr⟩
  have b9:Ia (fun q=>1<=q/\q<=5) O6 w6 O6 w6.drew:=aa zo O6 (GY w6).drew;refine zh ?_;refine aL (fun W=>(∀(j:Nat) (u:ix),lc[j]? = some u->W.cell? ((nA db 5).add j)=some u)/\∀(j:Nat) (u:ix),rc[j]? = some u->W.cell? ((nA db 11).add j)=some u) 10 rfl zk ?_;refine zin (cl O6 w6.drew b9) fun zS=>?_
  refine zrm 0 rfl zS rfl ?_;refine zrf 1 rfl zS rfl ?_
  refine zt 2 rfl zS (fun w1 b2=>ah (us:=lc) b2.1 (IV _) (by rw[ll];exact Ik _) rfl) ?_;refine zrf 4 rfl zS rfl ?_
  refine zt 5 rfl zS (fun w1 b2=>ah (us:=rc) b2.2 (IV _) (by rw[rl];exact Ik _) rfl) ?_;have h06d:=a0.trans (b9.mono (fun _ h=>zo) hz);refine I8 3 zk rfl ?_
  refine zc call28 (qP w.heap.size O6 w6.drew v6 L lc t.left t.lt f3.drew f9.drew (a5.updF fl h06d) (fl.upd h06d) hB.l c' zo) ?_;rintro v7 w7 ⟨O7,h7,e5,e'⟩;have b8:=b9.trans e5;have d7:=a0.trans (b8.mono (fun _ h=>zo) hz);have g0:(ze (tw t.left t.lt)).length<=10000000:=pM hB.l c';have f':(ze (tw t.right t.rt)).length<=10000000:=pM hB.rt c9;refine zh ?_
  refine ae (cl O7 w7 b8) ?_;refine I8 6 zk rfl ?_
  refine zc call28 (qP w.heap.size O7 w7 v7 _ rc t.right t.rt e' h7 (a3.updF fr d7) (fr.upd d7) hB.rt c9 (by rw[ka];omega)) ?_;rintro v8 w8 ⟨O8,h8,e4,e9⟩;have d3:=b8.trans e4;refine zh ?_
  refine ae (cl O8 w8 d3) ?_;refine I8 7 zk rfl ?_
  refine zc call20 (ow w.heap.size O8 w8 1 v8 _ e9 h8 zd (by simp only[ka];omega)) ?_;rintro v9 w9 ⟨O9,h9,e3,e8⟩;have d2:=d3.trans (e3.mono (fun _ h=>zo) zo);refine zh ?_
  refine zaf (cl O9 w9 d2) fun zS=>?_
  refine zra 8 rfl zS rfl ?_;refine zra 9 rfl zS rfl ?_
  refine JS zk ?_;refine zh ?_
  refine bI rfl rfl rfl (⟨(a0.trans (d2.mono (fun _ h=>zo) hz)).ext,.inr ⟨rfl,v9,rfl,?_,h9.newV zd e8⟩⟩);have e:L++ze (tw t.left t.lt)++ze (tw t.right t.rt)=vI t:=by
   rw[hL,a'];simp[vI,DJ,yZ,G0]
  rw[e]at h9;exact h9.sl
theorem GL:cL Ig 61 #[(0,1),(1,1)]:=⟨_,underlying61,fun w=>by kernel_rfl⟩
theorem GK:cL Ig 63 #[(0,2)]:=⟨_,underlying63,fun w=>by kernel_rfl⟩
theorem xS(B:Nat)(O:Nat->Nat)(w:G1)(i:Nat)(v:ix)(l:List UInt8)(hR:IY B O w)(h:Sl mU 1 w v l)(hf:Jj O w v)(hi:i≠0)(hl:l.length<=1000000000000):
  Jl Ig 21 [v] w fun u w'=>∃O',BufT lS 5 O' w' i u l/\Ia (fun j=>j=i) O w O' w'/\IY B O' w':=by
 have hz:¬(0=i):=fun e=>hi e.symm
 obtain⟨a,c,rfl,_,_,ha⟩:=h.shape;refine G4 func21 ntmps21 rfl rfl ?_;refine zh ?_;refine zvH (gd Ij rfl rfl) ?_
 cases a with
 |none=>
  have a4:l=[]:=JJ (Is fun a3=>by obtain⟨b,o,e⟩:=ha a3;cases e);subst a4;refine zTH rfl rfl ?_;refine af rfl rfl (⟨O,⟨.inl ⟨rfl,rfl⟩,fun g hg=>by simp[Jf]at hg⟩,J5 hz _ _,hR⟩)
 |some a=>
  refine zFH rfl rfl ?_;refine fj elW mU hR i hi rfl ?_
  intro v1 w1 O1 a1 a2 a7;have h2:=h.upd hf a2;refine zh ?_;refine cf elW a1 a7 h2 rfl rfl (fun _ _=>rfl) (fun u _ c hc=>by rw[G6.1 hc];rfl) (by simp;omega) (by simp;omega) hi rfl ?_;intro v2 w2 O2 a0 a5 a6;rw[IL]at a0;refine zh ?_;refine af rfl rfl (⟨O2,vP (val:=lS) a0,a2.trans a5,a6⟩)
theorem xQ(a b:List UInt8)(av bv:ix)(w:G1)(h1:Sl mU 1 w av a)(h2:Sl mU 1 w bv b):Jl Ig 19 [av,bv] w fun u w'=>u=.bool (a==b)/\w'=w:=by
 refine G4 func19 ntmps19 rfl rfl ?_;refine zh ?_
 refine zvH (gb h1 Ij Ii KE rfl) ?_;refine zv (gb h2 Ij Ii KE rfl) ?_
 refine zvH (cA rfl rfl) ?_;refine af rfl rfl (⟨rfl,rfl⟩)
section
variable{l l':List UInt8}{X:TbW}(h1:¬(l.length<12∨l.take 4≠hdrW))(h2:¬(cM (l.take (l.length-8))≠l))
include h1 h2
theorem BZ{b':Bool}(hS:RdS FD ((l.take (l.length-8)).drop 4) false X l' b'):oe l=if b'=true\/l'≠[]\/bq (yf X)=false then .error 4 else .ok (yf X):=by
 unfold oe;rw[if_neg h1,if_neg h2]
 rcases hS with⟨rfl,h|h⟩|⟨rfl,_,h⟩
 ·cases h
 ·rw[h,if_pos (.inl rfl)]
 rw[h]
 by_cases hc:l'≠[]\/bq (yf X)=false
 ·rw[if_pos (.inr hc)];dsimp only;rw[if_pos hc]
 rw[if_neg (fun e=>e.elim (fun e=>by cases e) hc)];dsimp only;rw[if_neg hc]
end
def DecP(w:G1)(u:ix):Except Int TabM->Prop
 |.error e=>u=.tuple #[.agg tab0,nI e]
 |.ok t=>∃tv,u=.tuple #[tv,nI 0]/\TabV w tv t
theorem kT(l:List UInt8)(v:ix)(w:G1)(h:Sl mU 1 w v l)(hl:l.length<=100000000):Jl Ig 7 [v] w fun u w'=>Jo w w'/\DecP w' u (oe l):=by
 have hz:¬(1<=0/\0<=50):=zo;have fv:Jj (fun _=>0) w v:=h.free0 (fun x=>by simp);refine G4 func7 ntmps7 rfl rfl ?_;refine zh ?_;refine ar (aw w) 2 zo (I0 _) rfl ?_;intro cb w1 O1 d7 f5 l2 l4;have e8:=h.ext l4;refine zh ?_;refine bY (fun w1=>_=w1) (!(l.take 4==hdrW)) 4 (rfl) rfl rfl rfl rfl rfl ?_ ?_
 ·intro a1;have m5:12<=l.length:=dF a1;have j4:Sl mU 1 w1 (cn v 1 0 4) (l.take 4):=by have:=e8.slice (lo:=0) (hi:=4) zo (zo);rwa[KN]at this
  refine zh ?_;refine zvH (dW e8 Ij (Kl _) rfl rfl 4 rfl zo) ?_
  refine zvH (gb j4 Ij Ii KE rfl) ?_;refine zvH (DE (a:=l.take 4) (b:=hdrW) rfl rfl) ?_
  refine nE 10 5 (rfl) a1
 rintro _ rfl;refine zh ?_;refine zC ?_ ?_
 ·intro hc;have e4:oe l=.error 4:=by
   unfold oe;rw[if_pos];rw[JL,decide_eq_true_eq,Iq,beq_eq_false_iff_ne]at hc;exact hc.imp (fun h=>zo) id
  obtain⟨wX,a9⟩:∃wX,wX=w1:=⟨_,rfl⟩
  obtain⟨OX,d0⟩:∃OX,OX=O1:=⟨_,rfl⟩
  have a5:=d7;rw[<-a9,<-d0]at a5;rw[<-a9];rw[<-a9,<-d0]at f5;refine zh ?_;refine zv (Iv (cells:=tab0) zi (I0 _) rfl rfl) ?_;refine zsa (us:=tab0) a5 (I4 _) ?_;have b':=a5.setRow (us:=tab0);have b1:Ia (fun j=>j=2) OX wX OX (wX.setRow cb tab0):=G8 zd a5.tag rfl;refine zh ?_;refine aT rfl rfl rfl (b'.cellsAdd) (IQ _) (I4 _) (⟨((f5.mono (S':=fun q=>1<=q/\q<=50) (fun _ h=>zo) hz).trans (b1.mono (fun _ h=>zo) hz)).ext,by rw[e4];rfl⟩)
 intro hc;rw[Iu,decide_eq_false_iff_not,Jp,beq_iff_eq]at hc;have h1:¬(l.length<12\/l.take 4≠hdrW):=fun e=>e.elim (fun e=>hc.1 zo) (fun e=>e hc.2)
 have m5:12<=l.length:=zo;have h0:=f5.mono (S':=fun q=>1<=q/\q<=50) (fun _ h=>zo) hz;obtain⟨bl,d8⟩:∃bl,bl=l.take (l.length-8):=⟨_,rfl⟩
 have j5:bl.length=l.length-8:=by rw[d8,Il];omega
 obtain⟨bv,g4⟩:∃bv,bv=cn v 1 0 (l.length-8):=⟨_,rfl⟩
 have i8:Sl mU 1 w1 bv bl:=by have:=e8.slice (lo:=0) (hi:=l.length-8) zo (zo);rw[KN]at this;rw[d8,g4];exact this
 have fb:Jj O1 w1 bv:=by
  rw[g4];exact jo (fv.upd f5) fun _=>by obtain⟨a,c,e,_⟩:=h.shape;exact⟨a,_,c,e,zo⟩
 refine zh ?_;refine zvH (dP (v':=bv) (dW e8 Ij (Kl _) rfl rfl (l.length-8) zo zo) g4.symm) ?_
 refine zc call21 (xS w.heap.size O1 w1 3 bv bl l2 i8 fb zd zo) ?_;rintro v2 w2 ⟨O2,h2,d',l0⟩;refine zc call20 (ow w.heap.size O2 w2 3 v2 bl l0 h2 zd zo) ?_
 rintro v3 w3 ⟨O3,h3,f4,k'⟩;have a':=h0.trans ((d'.trans f4).mono (fun _ h=>zo) hz);have b5:=(d7.upd d' zd zd).upd f4 zd zd;refine zh ?_;refine zc call19 (xQ (cM bl) l v3 v w3 h3.sl (h.ext a'.ext)) ?_;rintro _ w4 ⟨rfl,i6⟩;rw[i6];clear i6;refine zh ?_;refine zC ?_ ?_
 ·intro hs;have f':cM (l.take (l.length-8))≠l:=by rw[<-d8];simpa using hs
  have m4:oe l=.error 10:=by unfold oe;rw[if_neg h1,if_pos f']
  obtain⟨wX,a9⟩:∃wX,wX=w3:=⟨_,rfl⟩
  obtain⟨OX,d0⟩:∃OX,OX=O3:=⟨_,rfl⟩
  have a5:=b5;rw[<-a9,<-d0]at a5 a';rw[<-a9];refine zh ?_;refine zv (Iv (cells:=tab0) zi (I0 _) rfl rfl) ?_;refine zsa (us:=tab0) a5 (I4 _) ?_;have b':=a5.setRow (us:=tab0);have b1:Ia (fun j=>j=2) OX wX OX (wX.setRow cb tab0):=G8 zd a5.tag rfl;refine zh ?_;refine aT rfl rfl rfl (b'.cellsAdd) (IQ _) (I4 _) (⟨(a'.trans (b1.mono (fun _ h=>zo) hz)).ext,by rw[m4];rfl⟩)
 intro hs;have f':¬(cM (l.take (l.length-8))≠l):=by rw[<-d8];simpa using hs
 have f9:Sl mU 1 w3 bv bl:=(i8.upd fb d').upd (fb.upd d') f4;have f3:Jj O3 w3 bv:=(fb.upd d').upd f4;obtain⟨sv,f8⟩:∃sv,sv=cn bv 1 4 bl.length:=⟨_,rfl⟩
 have i7:Sl mU 1 w3 sv (bl.drop 4):=by have:=f9.slice (lo:=4) (hi:=bl.length) zo (I5 _);rw[I1]at this;rw[f8];exact this
 have j1:Jj O3 w3 sv:=by
  rw[f8];exact jo f3 fun _=>by obtain⟨a,c,e,_⟩:=f9.shape;exact⟨a,_,c,e,zo⟩
 have o0:=i7.one;have i':=b5;refine zh ?_;refine zv (dP (v':=sv) (kZ f9 Ij (Kl _) rfl rfl 4 rfl zo) f8.symm) ?_;refine zv (aE (cells:=#[sv,.bool false]) GL (zeroValue61 _) rfl (by simp only[GU,o0,IS];rfl) rfl rfl) ?_;refine zv (Iv (cells:=#[sv,.bool false]) GK (zeroValue63 _) rfl zk) ?_;refine aF k' 1 zo rfl rfl ?_;intro rb w5 O5 g0 e' k9 n2;have h5:RdO O5 w5 rb (bl.drop 4) false:=⟨sv,g0,i7.upd j1 e',j1.upd e'⟩
 have g':=a'.trans (e'.mono (fun _ h=>zo) hz);have g3:=b5.upd e' zd zd;refine zh ?_;refine zc KR (eM w.heap.size O5 w5 rb _ _ k9 h5) ?_;rintro _ w6 ⟨ru,l6,b6,rfl,m9,k4,h6,j',k8⟩;refine zh ?_;refine zc Kp (iu w.heap.size O5 w6 rb _ _ k8 h6) ?_;rintro _ w7 ⟨ig,l7,b7,rfl,n0,k3,h7,j9,k7⟩;refine zh ?_;refine zc Kp (iu w.heap.size O5 w7 rb _ _ k7 h7) ?_;rintro _ w8 ⟨kp,l8,b8,rfl,m',k2,h8,j8,k6⟩;refine zh ?_;refine zc Kp (iu w.heap.size O5 w8 rb _ _ k6 h8) ?_;rintro _ w9 ⟨br,l9,b9,rfl,n1,k1,h9,j7,k5⟩;have d9:=((j'.trans j9).trans j8).trans j7;have g9:=g'.trans (d9.mono (fun _ h=>zo) hz);have g2:=g3.upd d9 zd zd;refine zh ?_;refine zc KQ (gD w.heap.size O5 w9 rb 20 _ _ 0 zd zd k5 h9) ?_;rintro gv j3 ⟨gs,m8,n4,O10,g1,i0,m3,g8,i3⟩;refine zh ?_;refine zc call25 (rk w.heap.size O10 j3 rb 30 _ _ zd i3 m3) ?_;rintro _ j2 ⟨lc,L,m7,n3,O11,rfl,i4,h',m2,e0,i2⟩;refine zh ?_;refine zc call25 (rk w.heap.size O11 j2 rb 40 _ _ zd i2 m2) ?_;rintro _ m6 ⟨rc,R,f7,i5,O12,rfl,a8,h4,l',c7,i1⟩;have b2:=((g8.mono (S':=fun q=>q=1\/20<=q/\q<=50) (fun _ h=>zo) zo).trans (e0.mono (fun _ h=>zo) zo)).trans (c7.mono (fun _ h=>zo) zo);have e5:=g9.trans (b2.mono (fun _ h=>zo) hz);have d6:=g2.upd b2 zd zo;have b3:=(g1.upd e0 zd zo).upd c7 zd zo;have c8:=i4.upd c7 zd (fun j h1 h2=>zo);have hS:=k4.seq (k3.seq (k2.seq (k1.seq (i0.seq (h'.seq h4)))));have pl:=c8.partV;have pr:=a8.partV;obtain⟨ll,lo⟩:=pl.one
 obtain⟨rl,ro⟩:=pr.one;rw[d8]at hS;have e9:=BZ h1 f' hS;obtain⟨X,hX⟩:∃X:TbW,X=(ru,(ig,(kp,(br,(gs,(L,R)))))):=⟨_,rfl⟩
 rw[<-hX]at e9;obtain⟨T,hT⟩:∃T,T=yf X:=⟨_,rfl⟩
 have j0:T=⟨ig,kp,br,(ru:Int),dnN 0 gs,Bl L,L.2.2.2.2.2,Bl R,R.2.2.2.2.2⟩:=by rw[hT,hX];rfl
 rw[<-hT]at e9;have a0:(bS ig kp br (ru:Int) gv lc rc).length=17:=by simp[ll,rl]
 have og:=b3.one;have d2:(bS ig kp br (ru:Int) gv lc rc).all Ib=true:=by
  refine List.all_eq_true.2 fun x hx=>?_
  rcases Jc.1 hx with hx|hx
  ·rcases Jc.1 hx with hx|hx
   ·simp only[GT,GS,or_false]at hx
    rcases hx with rfl|rfl|rfl|rfl|rfl<;>first|rfl|exact og
   exact lo x hx
  exact ro x hx
 refine zv (Iv (cells:=(bS ig kp br (ru:Int) gv lc rc).toArray) zi (I0 _) rfl (by obtain⟨_,_,eg,_⟩:=b3.sl.shape;obtain⟨_,_,_,_,_,e1,_⟩:=c8.ex;obtain⟨_,_,_,_,_,e2,_⟩:=a8.ex;rw[eg,e1,e2];kernel_rfl)) ?_;refine ar i1 4 zo (I0 _) rfl ?_
 intro tb f6 O13 a6 g7 l1 l3;refine aR (us:=(bS ig kp br (ru:Int) gv lc rc).toArray) a6 (show(bS ig kp br (ru:Int) gv lc rc).toArray.size=17 from by simpa using a0) (by rw[show(bS ig kp br (ru:Int) gv lc rc).toArray.size=17 from by simpa using a0];exact I4 _) d2 rfl rfl rfl ?_;have d1:=a6.setRow (us:=(bS ig kp br (ru:Int) gv lc rc).toArray);have g6:Ia (fun j=>j=4) O13 f6 O13 (f6.setRow tb (bS ig kp br (ru:Int) gv lc rc).toArray):=G8 zd a6.tag rfl;generalize f6.setRow tb (bS ig kp br (ru:Int) gv lc rc).toArray=w14 at *;have c':=g7.trans g6;have e3:=e5.trans (c'.mono (fun _ h=>zo) hz);have l5:=l'.upd c' zd;have d5:=d6.upd c' zd zd;have d3:=b3.upd c' zd zd;have e7:=c8.upd c' zd (fun j h1 h2=>zo);have e6:=a8.upd c' zd (fun j h1 h2=>zo);have k0:∀W,Jo w14 W->TabV W (.agg (bS ig kp br (ru:Int) gv lc rc).toArray) T:=fun W e=>by
  rw[j0];exact⟨gv,lc,rc,rfl,d3.sl.ext e,e7.partV.ext e,e6.partV.ext e⟩
 obtain⟨rv,r1,r2,r3⟩:=l5.ex;have m0:w14.cell? ((nA rb 0).add 0)=some rv:=r1.cell 0 rfl;have m1:w14.cell? ((nA rb 0).add 1)=some (.bool i5):=r1.cell 1 rfl;have i9:∀W,Jo w14 W->∀(j:Nat) (u:ix),(bS ig kp br (ru:Int) gv lc rc)[j]? = some u->W.cell? (nA tb j)=some u:=fun W e j u hu=>e.cell (by simpa using d1.cellsAdd j u (by simpa using hu))
 refine zh ?_;refine bY (fun w1=>_=w1) (decide ((0:Int)<(f7.length:Int))) 7 (rfl) rfl rfl rfl rfl rfl ?_ ?_
 ·intro a2;refine zh ?_;refine nE 54 8 (rfl) a2
 rintro _ rfl;refine zh ?_;refine bY (Jo w14) (!(bq T)) 3 (GY w14) rfl rfl rfl rfl rfl ?_ ?_
 ·intro a3;refine zh ?_;refine zvH (ah (us:=bS ig kp br (ru:Int) gv lc rc) (i9 w14 (GY _)) (IQ _) (by rw[a0];exact I4 _) rfl) ?_;refine zc call9 (lj T _ w14 (k0 w14 (GY _))) ?_;rintro _ c9 ⟨rfl,b0⟩;refine zh ?_;refine nE 63 4 (b0) a3
 intro c9 b0;have c5:=aa (S:=fun _=>False) (fun h=>h) O13 b0;have a4:=d5.upd c5 zd (fun h=>h);have a7:=e3.trans (c5.mono (fun _ h=>h.elim) hz);have d4:((i5||decide ((0:Int)<(f7.length:Int))) || !(bq T))=decide (i5=true\/f7≠[]\/bq T=false):=by
  rw[Bool.eq_iff_iff];simp[List.length_pos_iff,or_assoc]
 refine zh ?_;rw[d4];refine zC ?_ ?_
 ·intro hc;have b4:oe l=.error 4:=by rw[e9,if_pos (of_decide_eq_true hc)]
  obtain⟨wX,a9⟩:∃wX,wX=c9:=⟨_,rfl⟩
  obtain⟨OX,d0⟩:∃OX,OX=O13:=⟨_,rfl⟩
  have a5:=a4;rw[<-a9,<-d0]at a5 a7;rw[<-a9];refine zh ?_;refine zv (Iv (cells:=tab0) zi (I0 _) rfl rfl) ?_;refine zsa (us:=tab0) a5 (I4 _) ?_;have b':=a5.setRow (us:=tab0);have b1:Ia (fun j=>j=2) OX wX OX (wX.setRow cb tab0):=G8 zd a5.tag rfl;refine zh ?_;refine aT rfl rfl rfl (b'.cellsAdd) (IQ _) (I4 _) (⟨(a7.trans (b1.mono (fun _ h=>zo) hz)).ext,by rw[b4];rfl⟩)
 intro hc;have b4:oe l=.ok T:=by rw[e9,if_neg (of_decide_eq_false hc)]
 refine zh ?_;refine zv (ah (us:=bS ig kp br (ru:Int) gv lc rc) (i9 c9 b0) (IQ _) (by rw[a0];exact I4 _) rfl) ?_
 refine aR (us:=(bS ig kp br (ru:Int) gv lc rc).toArray) a4 (show(bS ig kp br (ru:Int) gv lc rc).toArray.size=17 from by simpa using a0) (by rw[show(bS ig kp br (ru:Int) gv lc rc).toArray.size=17 from by simpa using a0];exact I4 _) d2 rfl rfl rfl ?_;have b':=a4.setRow (us:=(bS ig kp br (ru:Int) gv lc rc).toArray);have b1:Ia (fun j=>j=2) O13 c9 O13 (c9.setRow cb (bS ig kp br (ru:Int) gv lc rc).toArray):=G8 zd a4.tag rfl;generalize c9.setRow cb (bS ig kp br (ru:Int) gv lc rc).toArray=w16 at *;have c6:=c5.mono (S':=fun j=>j=2) (fun _ h=>h.elim) zd;have g5:=c6.trans b1;have j6:=a7.trans (b1.mono (fun _ h=>zo) hz);refine zh ?_
 refine aT (us:=bS ig kp br (ru:Int) gv lc rc) rfl rfl rfl (fun j u hu=>by simpa using b'.cellsAdd j u (by simpa using hu)) (IQ _) (by rw[a0];exact I4 _) ⟨j6.ext,by rw[b4];refine⟨_,rfl,?_⟩;rw[j0];exact⟨gv,lc,rc,rfl,(d3.upd g5 zd zd).sl,(e7.upd g5 zd (fun j h1 h2=>zo)).partV,(e6.upd g5 zd (fun j h1 h2=>zo)).partV⟩⟩
abbrev Gn(n:Nat):ix:=.int .u64 (n:Int)
theorem xB(la lb:List Nat)(av bv:ix)(w:G1)(ha:Sl (fun x:Nat => [Gn x]) 1 w av la)(hb:Sl (fun x:Nat => [Gn x]) 1 w bv lb):
    Jl Ig 68 [av, bv] w fun v w' => v = .bool (la == lb) ∧ Jo w w' := by
  have hal := ha.len_le
  refine G4 func68 ntmps68 rfl rfl ?_
  refine zh ?_
  refine zC ?_ ?_
  · intro hne
    refine zh ?_
    refine af rfl rfl (⟨?_, GY _⟩)
    have:la ≠ lb := fun e => by subst e; simp at hne
    simpa using this.symm ∘ Eq.symm
  · intro heq
    replace heq : la.length = lb.length := by have : (la.length : Int) = lb.length := by simpa using heq
                                              omega
    refine zh ?_
    refine zlp (fun x:Nat×G1 => [(0, av), (1, bv), (12, .int .i64 la.length), (13, .int .i64 x.1)]) (fun x => x.2) (fun x => x.1 ≤ la.length ∧ Jo w x.2 ∧ la.take x.1 = lb.take x.1) (fun x => la.length - x.1) (0, w) (⟨I3 _, GY _, rfl⟩) ?_
    rintro⟨k, w1⟩ ⟨hk, hE, htk⟩
    dsimp only at hk hE htk ⊢
    have ha1 := ha.ext hE
    have hb1 := hb.ext hE
    refine zh ?_
    refine zC ?_ ?_
    · intro hlt
      replace hlt:k < la.length := by have := of_decide_eq_true hlt; omega
      refine zh ?_
      refine Lr (by kernel_rfl) (by kernel_rfl) ?_
      refine zh ?_
      refine zwH (RV.ld (by first | exact ha1.ld (by omega) | exact hb1.ld (by omega)) rfl) ?_
      refine zwH (RV.ld (by first | exact ha1.ld (by omega) | exact hb1.ld (by omega)) rfl) ?_
      refine WS.nil ?_
      refine zh ?_
      refine zC ?_ ?_
      · intro hne
        refine zh ?_
        refine af rfl rfl (⟨?_, hE.drew⟩)
        have:la ≠ lb := fun e => by subst e; simp at hne
        simpa using this
      · intro hee
        refine zh ?_
        refine zxd (k + 1, w1.drew) (⟨hlt, hE.drew, by rw[aH hlt, aH (by omega:k < lb.length), htk]; first | simpa using hee | (simp at hee; simp; omega)⟩)
    · intro hge
      replace hge:la.length ≤ k := by have := of_decide_eq_false hge; omega
      refine zh ?_
      refine af rfl rfl (⟨?_, hE⟩)
      rw[G9 hge, G9 (by omega)]at htk
      simp[htk]
theorem lr(p:K9)(tl:List Nat)(cs a3:List ix)(w:G1)(h:PartV w cs p tl)(h':PartV w a3 p tl):
  Jl Ig 40 [.agg cs.toArray,.agg a3.toArray] w fun u w'=>u=.bool true/\Jo w w':=by
 obtain⟨u1,b1,k1,n1,t1,rfl,a6,b5,b3,a',a8⟩:=h;obtain⟨u2,b2,k2,n2,t2,rfl,a5,b4,b0,a9,a7⟩:=h';refine G4 func40 ntmps40 rfl rfl ?_;refine zh ?_;refine aF (aw w) 1 zo rfl rfl ?_;intro x1 w1 O1 a4 c6 b7 c5;refine aF b7 2 zo rfl rfl ?_;intro x2 w2 O2 a2 b6 c7 b9;have a0:=a4.upd b6 zd zd;have hE:=c5.trans b9
 have c1:∀j u,[nI p.width,u1,b1,k1,n1][j]? = some u->w2.cell? ((nA x1 0).add j)=some u:=fun j u hu=>a0.cellsAdd j u (by
  have hj:=(I7.1 hu).1;show([nI p.width,u1,b1,k1,n1]++[t1])[j]? = _
  rw[IU hj];exact hu)
 have c2:∀j u,[nI p.width,u2,b2,k2,n2][j]? = some u->w2.cell? ((nA x2 0).add j)=some u:=fun j u hu=>a2.cellsAdd j u (by
  have hj:=(I7.1 hu).1;show([nI p.width,u2,b2,k2,n2]++[t2])[j]? = _
  rw[IU hj];exact hu)
 refine zh ?_;refine zvH (ah (us:=[nI p.width,u1,b1,k1,n1]) c1 (KT _) (IT _) rfl) ?_
 refine zv (ah (us:=[nI p.width,u2,b2,k2,n2]) c2 (KT _) (IT _) rfl) ?_;refine zc call67 (za p p _ _ w2 ⟨u1,b1,k1,n1,rfl,a6.ext hE,b5.ext hE,b3.ext hE,a'.ext hE⟩ ⟨u2,b2,k2,n2,rfl,a5.ext hE,b4.ext hE,b0.ext hE,a9.ext hE⟩) ?_
 rintro _ w3 ⟨rfl,a1⟩;rw[qD];have d1:w3.cell? (nA x1 5)=some t1:=a1.cell (a0.cell 5 rfl);have d2:w3.cell? (nA x2 5)=some t2:=a1.cell (a2.cell 5 rfl);refine zh ?_;refine au (d:=10) rfl (b':=true) (rfl) ?_;refine zh ?_;refine zc call68 (xB tl tl t1 t2 w3 (a8.ext (hE.trans a1)) (a7.ext (hE.trans a1))) ?_;rintro _ w4 ⟨rfl,b8⟩;refine zh ?_;refine af rfl rfl (⟨by simp,(hE.trans a1).trans b8⟩)
theorem mr(t:TabM)(v v':ix)(w:G1)(h:TabV w v t)(h':TabV w v' t):Jl Ig 16 [v,v'] w fun u w'=>u=.bool true/\Jo w w':=by
 obtain⟨g1,l1,r1,rfl,b0,a7,a5⟩:=h;obtain⟨g2,l2,r2,rfl,a',a6,a4⟩:=h';refine G4 func16 ntmps16 rfl rfl ?_;refine zh ?_;refine aF (aw w) 1 zo rfl rfl ?_;intro x1 w1 O1 a9 b8 b4 b7;refine aF b4 2 zo rfl rfl ?_;intro x2 w2 O2 a8 b3 b9 b6;have hE:=b7.trans b6;have T1:=qz (t:=t) (a9.upd b3 zd zd) (b0.ext hE) (a7.ext hE) (a5.ext hE);have T2:=qz (t:=t) a8 (a'.ext hE) (a6.ext hE) (a4.ext hE);refine zh ?_;refine zvH (RV.ld (by first|exact T1.c0|exact T2.c0) rfl) ?_;refine zvH (RV.ld (by first|exact T1.c0|exact T2.c0) rfl) ?_;refine au (d:=10) rfl (b':=true) ((by simp)) ?_;refine zh ?_;refine zvH (RV.ld (by first|exact T1.c1|exact T2.c1) rfl) ?_;refine zvH (RV.ld (by first|exact T1.c1|exact T2.c1) rfl) ?_;refine au (d:=17) rfl (b':=true) ((by simp)) ?_;refine zh ?_;refine zvH (RV.ld (by first|exact T1.c2|exact T2.c2) rfl) ?_;refine zvH (RV.ld (by first|exact T1.c2|exact T2.c2) rfl) ?_;refine au (d:=24) rfl (b':=true) ((by simp)) ?_;refine zh ?_;refine zvH (RV.ld (by first|exact T1.c3|exact T2.c3) rfl) ?_;refine zvH (RV.ld (by first|exact T1.c3|exact T2.c3) rfl) ?_;refine au (d:=31) rfl (b':=true) ((by simp)) ?_;refine zh ?_;refine zvH (RV.ld (by first|exact T1.c4|exact T2.c4) rfl) ?_;refine zvH (RV.ld (by first|exact T1.c4|exact T2.c4) rfl) ?_;refine zc call39 (eW t.groups t.groups g1 g2 w2 T1.groups T2.groups) ?_;rintro _ w3 ⟨rfl,a3⟩;have T3:=T1.ext a3;have S3:=T2.ext a3;have a1:=T3.cl;have a2:=S3.cl
 refine zh ?_;refine au (d:=38) rfl (b':=true) ((by simp)) ?_
 refine zh ?_;refine zvH (ah (us:=l1) a1 (IV _) (by rw[a7.one.1];exact Ik _) rfl) ?_
 refine zvH (ah (us:=l2) a2 (IV _) (by rw[a6.one.1];exact Ik _) rfl) ?_;refine zc call40 (lr t.left t.lt l1 l2 w3 T3.left S3.left) ?_
 rintro _ w4 ⟨rfl,a0⟩;have T4:=T3.ext a0;have S4:=S3.ext a0;have b1:=T4.cr;have b2:=S4.cr;refine zh ?_;refine au (d:=45) rfl (b':=true) (rfl) ?_;refine zh ?_;refine zvH (ah (us:=r1) b1 (IV _) (by rw[a5.one.1];exact Ik _) rfl) ?_;refine zvH (ah (us:=r2) b2 (IV _) (by rw[a4.one.1];exact Ik _) rfl) ?_;refine zc call40 (lr t.right t.rt r1 r2 w4 T4.right S4.right) ?_;rintro _ w5 ⟨rfl,b5⟩;refine zh ?_;refine af rfl rfl (⟨rfl,((hE.trans a3).trans a0).trans b5⟩)
theorem xf(l:List UInt8)(v:ix)(w:G1)(h:Sl mU 1 w v l):Jl Ig 12 [v] w fun u w'=>u=.int .u64 ((sU l:Nat):Int)/\w'=w:=by
 have hl:=h.len_le;have a1:sU l=nJ (l.take l.length) 14695981039346656037:=by rw[I1];rfl
 rw[a1];refine G4 func12 ntmps12 rfl rfl ?_;refine zh ?_;refine zlp (fun z:Nat×Nat=>[(0,v),(3,.int .u64 ((z.2:Nat):Int)),(4,nI z.1)]) (fun z=>w) (fun z=>z.1<=l.length/\z.2=nJ (l.take z.1) 14695981039346656037/\z.2<2^64) (fun z=>l.length-z.1) (0,14695981039346656037) (⟨I3 _,rfl,zd⟩) ?_;rintro⟨q,n⟩ ⟨hq,hn,a2⟩;dsimp only at hq hn a2 ⊢;refine zh ?_;refine zC ?_ ?_
 ·intro a0;replace a0:q<l.length:=dT a0;have hc:=(nth l q).toNat_lt;have m1:w.cell? (adr v 1 q)=some (.int .u8 ((nth l q).toNat:Int)):=h.ld a0;have hs:lU n (nth l q).toNat=nJ (l.take (q+1)) 14695981039346656037:=by rw[aH a0,qV,<-hn]
  refine zh ?_;refine zv (dm Ii I6 rfl (Jd zo)) ?_
  refine zvH (uz (a:=n) (b:=(nth l q).toNat) rfl rfl rfl rfl (mI a2) (mI (fc _))) ?_;refine zvH (dP (v':=.int .u64 ((lU n (nth l q).toNat:Nat):Int)) (AT (a:=n ^^^ (nth l q).toNat) (b:=1099511628211) rfl rfl rfl rfl) (by rw[lU])) ?_
  refine zxd (q+1,lU n (nth l q).toNat) (⟨a0,hs,pF _ _⟩)
 intro a3;obtain rfl:q=l.length:=dF a3;refine zh ?_;refine af rfl rfl (⟨by rw[hn],rfl⟩)
theorem tt(l:List UInt8)(v:ix)(w:G1)(h:Sl mU 1 w v l)(hl:l.length<=1000000000000):Jl Ig 10 [v] w fun u w'=>Sl mU 1 w' u (cM l)/\Jo w w':=by
 have b0:=pG l;have a5:cM l=l++(le8 (sU l)).take 8:=by rw[G9 (by rw[fO];exact I5 _)];rfl
 have b1:∀j,j<8->nth (le8 (sU l)) j=G7 (sU l / 2^(8*j)):=fun j hj=>by
  rw[az (by rw[fO];exact hj)];simp[le8]
 rw[a5];refine G4 func10 ntmps10 rfl rfl ?_;refine zh ?_;refine zc call12 (xf l v w h) ?_;rintro _ w0 ⟨rfl,a9⟩;rw[a9];generalize sU l=S at *;refine zh ?_;refine fj elW mU (aw w) 1 zd rfl ?_;intro v1 w1 O1 a1 a7 b7;have h2:=h.ext a7.ext;refine zh ?_;refine cf elW a1 b7 h2 rfl rfl (fun _ _=>rfl) (fun u _ c hc=>by rw[G6.1 hc];rfl) (by simp;omega) (by simp;omega) zd rfl ?_;intro v2 w2 O2 a0 b4 b6;rw[IL]at a0;refine zh ?_;refine zlp (fun z:Nat×Nat×(Nat->Nat)×World×ix=>[(3,.int .u64 ((z.2.1:Nat):Int)),(4,z.2.2.2.2),(5,nI z.1)]) (fun z=>z.2.2.2.1) (fun z=>z.1<=8/\z.2.1=S / 2^(8*z.1)/\JG mU 5 1 z.2.2.1 z.2.2.2.1 1 z.2.2.2.2 (l++(le8 S).take z.1)/\Ia (fun j=>j=1) (fun _=>0) w z.2.2.1 z.2.2.2.1/\IY w.heap.size z.2.2.1 z.2.2.2.1) (fun z=>8-z.1) (0,S,O2,w2,v2) (⟨I3 _,by simp,by simpa using a0,a7.trans b4,b6⟩) ?_;rintro⟨q,s,Oq,wq,vq⟩ ⟨hq,a3,a4,a6,a8⟩;dsimp only at hq a3 a4 a6 a8 ⊢;have b8:(l++(le8 S).take q).length<=1000000000008:=by rw[ka,Il,fO];omega
 have a':s<2^64:=by rw[a3];exact Js (Nat.div_le_self _ _) b0
 refine zh ?_;refine zC ?_ ?_
 ·intro a2;replace a2:q<8:=dT a2;refine zh ?_;refine zv (RV.rem rfl rfl zd) ?_;refine zv (dP (v':=.int .u8 (((G7 (S / 2^(8*q))).toNat:Nat):Int)) (vQ (a:=s % 256) I6 Ii rfl rfl) (by rw[IB,a3,Nat.mod_mod])) ?_;refine Lx elW a4 a8 ((G7 (S / 2^(8*q)))) (fun _=>rfl) rfl rfl rfl (by simp[Ib]) zo zo zo zd rfl rfl ?_;intro v3 w3 O3 h3 b3 b5;refine zh ?_;refine zvH (dP (v':=.int .u64 ((s / 256:Nat):Int)) (RV.quo rfl rfl zd (show Fit .u64 ((s / 256:Nat):Int)from Jd zo)) rfl) ?_;refine zxd (q+1,s / 256,O3,w3,v3) (⟨a2,by dsimp only;rw[a3,K0,show 8*(q+1)=8*q+8 from by omega,L7],by dsimp only;rw[aH (by rw[fO];exact a2),b1 q a2,<-G0];exact h3,a6.trans b3,b5⟩)
 intro b2;obtain rfl:q=8:=dF b2;refine zh ?_;refine af rfl rfl (⟨a4.sl,a6.ext⟩)
theorem qo(ts:List R3):∀i,ju ts i<2^i
 |0=>by unfold ju;decide
 |i+1=>by
  have h1:ju ts i<2^(i+1):=Io (qo ts i) (Ih zd (Nat.le_succ i));unfold ju
  split
  ·exact IF h1 (IJ zd (Nat.lt_succ_self i))
  exact h1
theorem A7{g:Gr}{n:Nat}(he:∀k,g.en k<=n)(s:List Int):dG g s<2^n:=by
 have a0:∀(s:List Int) (b:Nat),b<2^n->s.foldl (fun b p=>b ||| nG g p.toNat) b<2^n:=fun s=>by
  induction s with
  |nil=>exact fun b hb=>hb
  |cons p s ih=>exact fun b hb=>ih _ (IF hb (jz he _ 0 (If n)))
 exact a0 s 0 (If n)
theorem qX{se:Bool}{ts:List Nd}{d:List (List Nat)×List Nat}(h:stM se ts=some d):∀q∈d.2,q<2^ts.length:=fun q hq=>by
 unfold stM at h
 split at h
 ·obtain⟨S,hS⟩:=sx h;obtain⟨j,hj,rfl⟩:=GQ hq;rw[hS.tel j (by rw[<-hS.tl];exact hj)];exact A7 (zy ts) _
 cases h
theorem mE{rows:List (List Nat)}{a0:List Nat}(hr:Iy rows a0)(cl:Nat->Nat){n:Nat}(h:∀q∈a0,q<2^n):∀q∈(cK cl rows a0).2,q<2^n:=fun q hq=>by
 obtain⟨F,hF⟩:=jl (cl:=cl) (tl:=nth a0) hr.nx (rows.length+1) 0 [0] [] [] (qE hr.pos) zo;obtain⟨j,hj,rfl⟩:=GQ hq;have a1:j<F.length:=by have:=hF.tln;change j<(eU _ _ _ _ _ _ _ _).2.length at hj;omega
 have ht:nth (cK cl rows a0).2 j=nth a0 (nth F j):=hF.tel j a1;rw[ht];have:=hF.reps.lt _ (aQ a1);exact h _ (aQ (by rw[hr.tl];exact this))
theorem CD{a b:Nat}(ha:a<65536)(hb:b<65536)(h1:G7 (a / 256)=G7 (b / 256))(h2:G7 (a % 256)=G7 (b % 256)):a=b:=by
 have e1:=congrArg JY h1;have e2:=congrArg JY h2;simp only[IB]at e1 e2;omega
theorem uf{i j:Nat}:∀(rows:List (List Nat)),(∀r∈rows,nth r i<65536/\nth r j<65536)->oX rows i=oX rows j->∀r∈rows,nth r i=nth r j
 |[],_,_=>fun r hr=>by cases hr
 |a::l,h,he=>by
  have e:[G7 (nth a i / 256),G7 (nth a i % 256)]++oX l i=[G7 (nth a j / 256),G7 (nth a j % 256)]++oX l j:=he;simp only[KD,IL,Lo]at e;obtain⟨e1,e2,e3⟩:=e;have ha:=h a (by simp);intro r hr
  rcases GT.1 hr with rfl|hr
  ·exact CD ha.1 ha.2 e1 e2
  exact uf l (fun r hr=>h r (by simp[hr])) e3 r hr
theorem B1{A B:List (List Nat)}{i j:Nat}(hA:∀r∈A,nth r i<65536/\nth r j<65536)(hB:∀r∈B,nth r i<65536/\nth r j<65536)(h:mX [A,B] i=mX [A,B] j):(∀r∈A,nth r i=nth r j)/\∀r∈B,nth r i=nth r j:=by
 have h:oX A i++(oX B i++[])=oX A j++(oX B j++[]):=h;rw[IM,IM]at h;obtain⟨h1,h2⟩:=List.append_inj h (by rw[kf,kf]);exact⟨uf A hA h1,uf B hB h2⟩
structure PartI(g:List Nat)(many n:Nat)(rows:List (List Nat))(p:K9):Prop where
 right:cN p=true
 us:p.usual.length=rows.length
 wd:p.width=(many:Int)
 get:∀r,r<rows.length->∀c,c<37->getM p r (nth g c)=((nxD rows r c:Nat):Int)
 lo:∀r,r<rows.length->∀k,k<many->0<=getM p r k/\getM p r k<rows.length
theorem uU{g:List Nat}{many:Nat}(hg:GrpI g many){rows:List (List Nat)}{a6:List Nat}(hr:Iy rows a6)(hc:∀i j,i<37->j<37->nth g i=nth g j->∀r∈rows,nth r i=nth r j):PartI g many rows.length rows (dh g many rows):=by
 have a2:=ox hg hr;have a8:=hg.le;have a7:(jG g many rows).length=rows.length:=by simp[jG]
 have a5:∀r,r<rows.length->nth (jG g many rows) r=ints (nN g many (nth rows r)):=fun r a0=>by
  unfold jG;rw[ee (by simpa using a0),ee a0]
 have a3:∀r,r<rows.length->(nth (jG g many rows) r).length=many:=fun r a0=>by rw[a5 r a0];simp[lV]
 obtain⟨s1,_,_,_,s5,_⟩:=oz (many:Int) (jG g many rows) (fun r a0=>by
  obtain⟨j,hj,rfl⟩:=GQ a0
  rw[a3 j zo];omega)
 have a1:∀r,r<rows.length->∀k,k<many->getM (dh g many rows) r k=((nth (nN g many (nth rows r)) k:Nat):Int):=fun r a0 k hk=>by
  unfold dh;rw[Ag _ _ r k zo (by rw[a3 r a0];exact hk),a5 r a0,ee (by rw[lV];exact hk)]
 refine⟨tq _ _ a2,by show(kI _ _).usual.length=_;rw[s1];simpa using a7,s5,fun r a0 c a4=>?_,fun r a0 k hk=>?_⟩
 ·rw[a1 r a0 _ (hg.lt c a4),tJ hg (fun i j hi hj e=>hc i j hi hj e _ (aQ a0)) a4];rfl
 rw[a1 r a0 k hk];obtain⟨i,hi,rfl⟩:=hg.hit k hk;rw[tJ hg (fun i j hi hj e=>hc i j hi hj e _ (aQ a0)) hi];have:=(hr.row r a0).2 i hi;omega
theorem Dg{l:List Int}{n:Int}(h:∀x∈l,x<n)(h0:nth l 0<n):Dh l<n:=by
 have a0:∀(l:List Int) (m:Int),(∀x∈l,x<n)->m<n->l.foldl max m<n:=fun l=>by
  induction l with
  |nil=>exact fun m _ hm=>hm
  |cons a l ih=>exact fun m h hm=>ih _ (fun x hx=>h x (by simp[hx])) (by have:=h a (by simp);omega)
 exact a0 l _ h h0
theorem vy{g:List Nat}{many n a0:Nat}{rows:List (List Nat)}{a5:List Nat}{p:K9}(hp:PartI g many n rows p)(hm:1<=many)(hr:Iy rows a5)(ht:∀q∈a5,q<2^a0):gp p a5 many a0=true:=by
 obtain⟨f1,f2⟩:=kR p;have a9:=hr.pos;have a8:=hr.tl;have a7:=hp.us;unfold gp;rw[hp.right,hp.wd,f1,a7,a8];have a1:iT (fun i=>!(nth a5 i / 2^a0==0)) rows.length=false:=bX.2 fun i hi=>by
  rw[J6 (ht _ (aQ zo))];rfl
 have a2:iT (fun i=>decide (((rows.length:Nat):Int)<=Dh (nth (fy p) i))) rows.length=false:=bX.2 fun i hi=>by
  have a3:nth (fy p) i=A1 p i:=by unfold fy;rw[fG _ _ _ zo]
  have a6:p.width.toNat=many:=by rw[hp.wd];rfl
  have a4:∀k,k<many->nth (A1 p i) k<rows.length:=fun k hk=>by
   unfold A1;rw[a6,az (xs:=KM (getM p i) (Lb many)) (by simpa using hk),J3,Kg];exact(hp.lo i hi k hk).2
  refine decide_eq_false (Int.not_le.2 (Dg (fun x hx=>?_) ?_))
  ·rw[a3]at hx;obtain⟨k,hk,rfl⟩:=GQ hx;exact a4 k (by unfold A1 at hk;rw[a6]at hk;simpa using hk)
  rw[a3];exact a4 0 hm
 have h0:(rows.length==0)=false:=beq_eq_false_iff_ne.2 zo;rw[a1,a2,h0];simp
structure TabI(t:TabM)(A B:List (List Nat)×List Nat):Prop where
 right:bq t=true
 ok:OkT t
 left:∀r c,r<A.1.length->c<37->stL t r c=nxD A.1 r c
 rght:∀r c,r<B.1.length->c<37->stR t r c=nxD B.1 r c
 ll:t.left.usual.length=A.1.length
 rl:t.right.usual.length=B.1.length
theorem CG{li lk:List Int}{ts:List R3}{A B:List (List Nat)×List Nat}(a8:ez li lk ts=true)(hA:Iy A.1 A.2)(hB:Iy B.1 B.2)(tA:∀q∈A.2,q<2^ts.length)(tB:∀q∈B.2,q<2^ts.length):TabI (mj li lk ts A B) A B:=by
 obtain⟨r1,r2,r3,r4⟩:=lx a8;obtain⟨many,hg,a5⟩:=oP [A.1,B.1];have a2:=hg.pos;have b0:=hg.le;have a4:=hg.len;have a3:∀ {rows:List (List Nat)} {a7:List Nat},Iy rows a7->∀i,i<37->∀r∈rows,nth r i<65536:=fun {rows a7} h i hi r hr=>by
  obtain⟨j,hj,rfl⟩:=GQ hr;have h1:=(h.row j hj).2 i hi;have h2:=h.le;omega
 have hc:∀i j,i<37->j<37->nth (bC [A.1,B.1]) i=nth (bC [A.1,B.1]) j->(∀r∈A.1,nth r i=nth r j)/\∀r∈B.1,nth r i=nth r j:=fun i j hi hj e=>
  B1 (fun r hr=>⟨a3 hA i hi r hr,a3 hA j hj r hr⟩) (fun r hr=>⟨a3 hB i hi r hr,a3 hB j hj r hr⟩) ((a5 i j hi hj).1 e)
 have a1:=hg.cnt;have iL:=uU hg hA (fun i j hi hj e=>(hc i j hi hj e).1);have iR:=uU hg hB (fun i j hi hj e=>(hc i j hi hj e).2);have fL:=vy iL a2 hA tA;have fR:=vy iR a2 hB tB;have e1:(mj li lk ts A B).left=dh (bC [A.1,B.1]) many A.1:=by rw[qT,a1]
 have e2:(mj li lk ts A B).right=dh (bC [A.1,B.1]) many B.1:=by rw[oo,a1]
 have e3:(mj li lk ts A B).groups=ints (bC [A.1,B.1]):=rfl;have gr:∀c,c<37->nth (mj li lk ts A B).groups c=((nth (bC [A.1,B.1]) c:Nat):Int):=fun c hc=>by rw[e3,ee zo]
 have gt:∀c,c<37->grT (mj li lk ts A B) c=nth (bC [A.1,B.1]) c:=fun c hc=>by unfold grT;rw[gr c hc];rfl
 have a6:∀q:Nat,q<2^ts.length->q<2^40:=fun q hq=>Io hq (Ih zd r1)
 have a':=hA.tl;have a9:=hB.tl;have pA:=hA.pos;have pB:=hB.pos;refine⟨?_,⟨okP _ (by rw[e1];exact iL.right),okP _ (by rw[e2];exact iR.right),by rw[e3];simpa using a4,fun c a0=>?_,by rw[e1,iL.us];exact a',by rw[e2,iR.us];exact a9,by rw[e1,iL.us];exact pA,by rw[e2,iR.us];exact pB,fun r c hr a0=>?_,fun r c hr a0=>?_,mo r2,mo r3,a6 _ (qo ts _),fun q hq=>a6 q (tA q hq),fun q hq=>a6 q (tB q hq)⟩,fun r c hr a0=>?_,fun r c hr a0=>?_,by rw[e1,iL.us],by rw[e2,iR.us]⟩
 ·unfold bq;have q1:(mj li lk ts A B).ig / 2^36=0:=J6 (mo r2);have q2:(mj li lk ts A B).kp / 2^36=0:=J6 (mo r3);have q3:(mj li lk ts A B).rules.toNat=ts.length:=rfl;have q4:(mj li lk ts A B).br / 2^ts.length=0:=J6 (qo ts _);have q5:fJ (mj li lk ts A B).groups=many:=by rw[e3,a1]
  have q6:(mj li lk ts A B).rules=(ts.length:Int):=rfl;rw[q1,q2,q3,q4,q5,q6,e1,e2,yB,yA,fL,fR,decide_eq_false zo,decide_eq_false zo,beq_eq_false_iff_ne.2 zo];rfl
 ·rw[gr c a0];have:=hg.lt c a0;omega
 ·rw[e1]at hr ⊢;rw[iL.us]at hr ⊢;rw[gt c a0,iL.get r hr c a0];have:=(hA.row r hr).2 c a0;unfold nxD;omega
 ·rw[e2]at hr ⊢;rw[iR.us]at hr ⊢;rw[gt c a0,iR.get r hr c a0];have:=(hB.row r hr).2 c a0;unfold nxD;omega
 ·unfold stL;rw[e1,gt c a0,iL.get r hr c a0];rfl
 unfold stR;rw[e2,gt c a0,iR.get r hr c a0];rfl
structure Made(li lk:List Int)(ts:List R3)(a b:List (List Nat)×List Nat)(clA clB:Nat->Nat):Prop where
 rt:ez li lk ts=true
 sa:stM true (rU ts)=some a
 sb:stM false (lu ts)=some b
 ra:Iy a.1 a.2
 rb:Iy b.1 b.2
 ca:Cls clA a
 cb:Cls clB b
abbrev lK(li lk:List Int)(ts:List R3)(a b:List (List Nat)×List Nat)(a1 a0:Nat->Nat):TabM:=mj li lk ts (cK a1 a.1 a.2) (cK a0 b.1 b.2)
section
variable{li lk:List Int}{ts:List R3}{a b:List (List Nat)×List Nat}{clA clB:Nat→Nat}
theorem Made.inv(h:Made li lk ts a b clA clB):TabI (lK li lk ts a b clA clB) (cK clA a.1 a.2) (cK clB b.1 b.2):=
 CG h.rt (fN h.ra clA) (fN h.rb clB) (mE h.ra clA (by have:=qX h.sa;rwa[Ie]at this)) (mE h.rb clB (by have:=qX h.sb;rwa[Ie]at this))
end
theorem rj{w:G1}{ru:ix}{xs:List X3}(h:Sl cd 7 w ru xs){k:Nat}(hk:k<xs.length):(∀j u,(aX (nth xs k).1)[j]? = some u->w.cell? (((adr ru 7 k).add 0).add j)=some u)/\(∀j u,(aX (nth xs k).2.1)[j]? = some u->w.cell? (((adr ru 7 k).add 3).add j)=some u)/\w.cell? ((adr ru 7 k).add 6)=some (.bool (nth xs k).2.2):=by
 refine⟨fun j u hu=>?_,fun j u hu=>?_,h.cell hk (j:=6) rfl⟩
 ·match j,hu with
  |0,hu=>exact h.cell hk (j:=0) hu
  |1,hu=>exact h.cell hk (j:=1) hu
  |2,hu=>exact h.cell hk (j:=2) hu
  |j+3,hu=>simp at hu
 match j,hu with
 |0,hu=>exact h.cell hk (j:=3) hu
 |1,hu=>exact h.cell hk (j:=4) hu
 |2,hu=>exact h.cell hk (j:=5) hu
 |j+3,hu=>simp at hu
section
abbrev mv(m:M3):ix:=.agg (kB m).toArray
theorem jT{F:Lh}(hF:∀(args:Array ix) (w:G1),(callFunc F args).run Ig w=.ok (.enter F args) w)(cs:Array ix)(l:List (M3))(sv:ix)(q:Nat->Bool)(w:G1)(h:Sl kB 4 w sv l) 
  (hq:∀i,i<l.length->∀w',Jo w w'->Jl Ig F ([mv (nth l i)]++cs.toList) w' fun v w''=>v=.bool (q i)/\Jo w' w'') :
  Jl Ig 165 [sv,.func (.func F) #[] cs] w fun v w'=>v=nI (dt q l.length)/\Jo w w':=by
 have hl:=h.len_le;refine G4 func165 ntmps165 rfl rfl ?_;refine zh ?_;refine zlp (fun x:Nat×G1=>[(0,sv),(1,.func (.func F) #[] cs),(7,nI l.length),(8,nI x.1)]) (fun x=>x.2) (fun x=>x.1<=l.length/\Jo w x.2/\∀i,i<x.1->q i=false) (fun x=>l.length-x.1) (0,w) (⟨I3 _,GY _,fun i hi=>absurd hi (IN i)⟩) ?_;rintro⟨k,w1⟩ ⟨hk,hE,a1⟩;dsimp only at hk hE a1 ⊢;have h1:=h.ext hE;refine zh ?_;refine zC ?_ ?_
 ·intro a0;replace a0:k<l.length:=dT a0;refine zh ?_;refine zv (ah (us:=kB (nth l k)) (fun j u hu=>h1.cell a0 hu) (isAgg218 _) (sizeOf218 _) rfl) ?_;refine dk rfl hF rfl (hq k a0 w1 hE) rfl ?_;rintro v w2 ⟨rfl,a3⟩;refine zh ?_;refine zC ?_ ?_
  ·intro hy;refine zh ?_;refine af rfl rfl (⟨by rw[cx a0 hy a1],hE.trans a3⟩)
  intro hy;refine zh ?_;refine zxd (k+1,w2) (⟨a0,hE.trans a3,fun i hi=>(JX.1 hi).elim (a1 i) (fun e=>by rw[e];exact hy)⟩)
 intro a2;replace a2:l.length<=k:=dF a2;refine zh ?_;refine af rfl rfl (⟨by rw[ct fun i hi=>a1 i zo],hE⟩)
theorem gS{F:Lh}(hF:∀(args:Array ix) (w:G1),(callFunc F args).run Ig w=.ok (.enter F args) w)(cs:Array ix)(l:List (M3))(sv:ix)(q:Nat->Bool)(w:G1)(h:Sl kB 4 w sv l) 
  (hq:∀i,i<l.length->∀w',Jo w w'->Jl Ig F ([mv (nth l i)]++cs.toList) w' fun v w''=>v=.bool (q i)/\Jo w' w'') :
  Jl Ig 150 [sv,.func (.func F) #[] cs] w fun v w'=>v=.bool (iT q l.length)/\Jo w w':=by
 refine G4 func150 ntmps150 rfl rfl ?_;refine zh ?_
 refine zc call165 (jT hF cs l sv q w h hq) ?_;rintro v w1 ⟨rfl,hE⟩;refine zh ?_
 refine af rfl rfl (⟨by rw[firstN_any],hE⟩)
theorem vX(m:M3)(s:List UInt8)(sb:Nat)(w:G1)(h:w.cell? ⟨sb,0,none⟩=some (.string (bs s))):Jl Ig 151 [mv m,nP sb] w fun v w'=>v=.bool (m.1==s)/\Jo w w':=by
 refine G4 func151 ntmps151 rfl rfl ?_;refine zh ?_
 refine aF (aw w) 1 zo rfl rfl ?_;intro xb w1 O1 a1 a2 a3 a0;refine zh ?_
 refine zv (RV.ld (a1.cell 0 rfl) rfl) ?_;refine zv (RV.ld (a0.cell h) rfl) ?_
 refine zvH (cA rfl rfl) ?_;refine af rfl rfl (⟨rfl,a0⟩)
theorem mV(l:List (List UInt8))(s:List UInt8)(sv:ix)(w:G1)(h:Sl encS 1 w sv l):Jl Ig 149 [sv,.string (bs s)] w fun v w'=>v=.bool (l.contains s)/\w'=w:=by
 refine G4 func149 ntmps149 rfl rfl ?_;refine zh ?_
 refine zc call157 (lz l s sv w h) ?_;rintro v w9 ⟨rfl,a0⟩;rw[a0];clear a0 w9;refine zh ?_
 refine af rfl rfl (⟨congrArg Kd ?_,rfl⟩);unfold Fg
 cases hf:l.findIdx? (· == s)with
 |none=>
  have h1:=List.findIdx?_eq_none_iff.1 hf;rw[decide_eq_false zd]
  symm
  rw[Bool.eq_false_iff];intro hc;have:=h1 s (K4.1 hc);simp at this
 |some k=>
  obtain⟨hk,h1,_⟩:=Jt.1 hf;show decide ((0:Int)<=((k:Nat):Int))=_;rw[decide_eq_true zo]
  symm
  rw[K4,<-eq_of_beq h1];exact KC hk
def wordsL:List (List UInt8):=[[108,101,116],[105,103,110,111,114,101],[107,101,101,112],[97,110,121]]
def ew(kn:Kn)(s:List UInt8):Int:=if((zq s).isSome||wordsL.contains s)=true then 5 else if kn.any (fun m=>m.1==s)=true then 11 else 0
variable{kn:Kn}
theorem yw(O:Nat->Nat)(w:G1)(j jm rb:Nat)(s:LS)(q:List UInt8)(hk:Mac O w jm s.mc kn)(h:Rd6 O w j rb s):
  Jl Ig 131 [nP rb,.string (bs q)] w fun v w'=>v=nI (ew kn q)/\Jo w w':=by
 obtain⟨ms,a2,b1,b2⟩:=hk;have b0:=a2.sl;refine G4 func131 ntmps131 rfl rfl ?_;refine zg ?_;refine aF (aw w) 1 zo rfl rfl ?_;intro sb w1 O1 a9 b4 b5 b3;have a3:=a9.cell 0 rfl;refine zg ?_;refine zv (RV.ld a3 rfl) ?_;refine zc call133 (iz q w1) ?_;rintro v w2 ⟨rfl,a6⟩;have a1:=b3.trans a6;refine zg ?_
 cases hn:(zq q).isSome with
 |true=>
  have hM:ew kn q=5:=by unfold ew;rw[hn];rfl
  rw[hM];refine au (d:=14) rfl (b':=true) (rfl) ?_;refine zg ?_;refine zTG rfl rfl ?_;refine af rfl rfl (⟨rfl,a1⟩)
 |false=>
  refine au (d:=14) rfl (b':=false) (rfl) ?_;refine zg ?_
  refine iK underlying123 (sizeOf9 _) (zeroValue9 _) encS wordsL rfl rfl rfl rfl zk zd rfl ?_;intro sv w3 a' a5;have a0:=a1.trans a5;refine zg ?_
  refine zvG (RV.ld ((a6.trans a5).cell a3) rfl) ?_;refine zc call149 (mV wordsL q sv w3 a') ?_
  rintro v w9 ⟨rfl,a7⟩;rw[a7];clear a7 w9;refine zg ?_
  cases hw:wordsL.contains q with
  |true=>
   have hM:ew kn q=5:=by unfold ew;rw[hn,hw];rfl
   rw[hM];refine zTG rfl rfl ?_;refine af rfl rfl (⟨rfl,a0⟩)
  |false=>
   refine aN rfl rfl ?_;have q9:=a0.cell h.q9;refine zg ?_
   refine zv (RV.ld q9 rfl) ?_;refine zv (dO rfl rfl) ?_
   refine zc call150 (gS call151 #[nP sb] ms s.mc (fun i=>(nth ms i).1==q) w3 (b0.ext a0) (fun i hi w' hE=>vX (nth ms i) q sb w' (hE.cell ((a6.trans a5).cell a3)))) ?_;rintro v w4 ⟨rfl,a8⟩;have a4:iT (fun i=>(nth ms i).1==q) ms.length=kn.any (fun m=>m.1==q):=by
    rw[<-b1,<-gV (l:=kn) (p:=fun m=>m.1==q)];exact xW fun i hi=>by rw[(b2 i zo).1]
   rw[a4];refine zg ?_
   cases ha:kn.any (fun m=>m.1==q)with
   |true=>
    have hM:ew kn q=11:=by unfold ew;rw[hn,hw,ha];rfl
    rw[hM];refine zTG rfl rfl ?_;refine af rfl rfl (⟨rfl,a0.trans a8⟩)
   |false=>
    have hM:ew kn q=0:=by unfold ew;rw[hn,hw,ha];rfl
    rw[hM];refine zFG rfl rfl ?_;refine af rfl rfl (⟨rfl,a0.trans a8⟩)
end
end Go.Proofs.YtpfpmhhigheccaaGreatDoor
