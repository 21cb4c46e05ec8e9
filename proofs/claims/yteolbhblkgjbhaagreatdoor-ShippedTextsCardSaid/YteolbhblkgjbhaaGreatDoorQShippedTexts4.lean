/- Texts that the proof of this statement needs, merged and shortened. -/
import Derived.Test.YteolbhblkgjbhaaGreatDoorQShippedTexts3
open Go renaming Value->ix,World->L0,TypeId->Ml,Program->NQ,Addr->NX,Operand->Pg,FuncId->Pl,Oper->Q2
open List renaming mem_singleton->ln,length_singleton->L4,mem_cons->L7,eq_nil_of_length_eq_zero->LP,append_nil->LQ,length_append->LV,length_cons->LW,all_cons->LX,not_mem_nil->LZ,findIdx?_eq_some_iff_getElem->M8,getElem?_append_right->Ma,length_map->Mc,append_assoc->Mf,drop_eq_getElem_cons->Mh,mem_append->Mi,take_append_drop->Mn,findIdx?_eq_none_iff->Mt,getElem?_eq_getElem->Mv,take_length->ME,all_eq_true->MF,length->MI,map_append->MK,mem_map->MM,getElem?_eq_some_iff->MS,getElem?_append_left->MT,foldl_append->MV,getElem?_toArray->N7,size_toArray->Nk,flatMap_cons->Nl,all_nil->Nm,length_take->Np,ext_getElem->Nq,take_left'->Nv,nil_append->Nw,takeWhile_cons_of_neg->NA,range->NB,drop_drop->NC,getElem_append_right->NH,getElem_append_left->NI,take_of_length_le->NS,mem_of_mem_take->P1,length_pos_iff->P6,getElem_of_mem->P7,getElem_range->Pb,getElem_take->Pj,any_eq_false->Pk,map_toArray->Po,getElem_map->Pp,flatMap_nil->Pq,cons_append->Pr,foldl_cons->PB,append_inj->PC,take_zero->PH,take_drop->PI,mem_range->PJ,drop_zero->PK,map_cons->PQ,map_nil->PY,drop->Qh
open Bool renaming and_eq_true->L1,or_eq_true->Mj,and_false->Na,true_and->NJ,false_or->NK,not_eq_true'->Pm,eq_iff_iff->PD
open Go.VL.Ret renaming enter->L2
open Go.VL.Ext renaming refl->L3
open Go.VL.Upd renaming setRow->L5,trans->M4,set->MA,mono->MB,drew->P3,ofDrew->Pf,refl->PO,putObj->Qe,alloc->Qj
open Go.VL.WH renaming one->L6,done->Md,leaf->N5
open Go.Proofs.Tryz renaming underlying9->L8,sizeOf120->L9,prog->M1,isAgg120->M9,sizeOf170->Me,sizeOf122->Mg,zeroValue31->Mm,sizeOf138->Mq,sizeOf31->Mu,zeroValue170->Mx,zeroValue122->MG,isAgg122->MH,sizeOf29->MN,zeroValue120->MU,isAgg170->MY,sizeOf54->N8,isAgg31->Nj,zeroValue138->Nx,isAgg29->Ny,sizeOf3->NP,isAgg138->NT,underlying136->P2,underlying54->Pc,underlying22->Pd,sizeOf4->Pe,zeroValue26->Pu,underlying4->Pv,call89->PN,call109->PT,sizeOf26->Qa,sizeOf24->Qb,call84->Qc,call62->Qd,underlying89->Ql,underlying27->Qn,underlying21->Qo,call138->Qp,call118->Qq,zeroValue29->Qv,underlying5->Qw,call81->Qz,call63->QA,call29->QB
open Nat renaming zero_le->LO,le_refl->LU,lt_succ_iff_lt_or_eq->M5,not_lt_zero->M7,or_lt_two_pow->Mo,pow_lt_pow_right->Mr,add_sub_cancel_left->Mz,div_eq_of_lt->N0,pow_le_pow_right->Nc,lt_of_lt_of_le->Nh,lt_of_le_of_lt->Ni,zero_add->No,one_mul->Nu,testBit_or->NG,add_assoc->NO,testBit_two_pow_mul->NR,le_trans->NU,add_comm->NV,le_succ->P5,testBit_two_pow->Pa,mod_lt->Ph,add_sub_cancel->Pi,blt->Pn,and_le_right->PA,two_pow_pos->PF,add_mul->Q8
open UInt8 renaming ofNat->LY,toNat->PW
open Go.VL.RowT renaming upd->M0,drew->NN,nil->NZ
open Go.VL renaming Upd->M6,Ext->Ms,Ret->MO,BlkO->N4,Ints->Ng,Rng->Ns,RowT->NF,NewV->Pz,Free->Qi,Elem->Qu
open Go.VL.BlkO renaming upd->Mb,drew->MP,setRow->MW,tag->PM
open Go.Proofs.YteolbhblkgjbhaaGreatDoor renaming RightD->Mk,PSt->PP,StarP->Qf,RowsG->Qx,LgA->Qy,LgS->QE
open Go.Value renaming oneCell'->Mp,ownBlock->Px,int->Q6
open Go.VL.Free renaming upd->Mw
open Go.Utf8 renaming valid->My,decode->N9,encode->NY
open Int renaming toNat_natCast->MC,le_refl->MX
open Go.World renaming drew->MD,setRow->NL,putObj_heap_same->NM,setCell->PE
open Go.VL.RV renaming build->MJ,extract->N6,move->Py,add->Qk
open Go.Result renaming andThen_ok->MQ
open Option renaming none->MR,some->Nn
open Go.VL.Sl renaming ext->MZ
open Go.Sem renaming run_bind->N1,run->PZ
open Go.Lib renaming ctz->N2,deBruijn64tab->Ps,lowest_bit->PS,ctzFrom->Q9
open Go.Addr renaming add->Nb
open Option.some renaming inj->Nf,injEq->Qg
open Classical renaming byContradiction->Nr
open Go.Instr renaming next->Nz,fill->Q3
open Go.VL.WC renaming tail->ND,still->P9
open Go.VL.Fit renaming i64->NW
open Go.VL.Rng renaming drew->P4,upd->Q0
open Go.IntKind renaming wrap_u64->P8,u64->PL
open Go.VL.WS renaming go->Pw,nil->PU,call->Q5
open Go.VL.WL renaming val->PV,push->QC
open Go.Proofs renaming TabAt->PX
open Go.Exit renaming noGoto->Q4
open Go.Proofs.YteolbhblkgjbhaaGreatDoor.Nt renaming leaf->Q7
open Go.Value.agg renaming inj->Qr
open List.cons renaming injEq->Qs,inj->Qt
open Go.Proofs.YteolbhblkgjbhaaGreatDoor.Nd renaming kids->QD
open Go.Builtin renaming append_->QG
set_option maxRecDepth 10000
open Go.VL Go.Proofs Go.Proofs.Tryz
variable {α:Type}{se:Bool}{w w' w0:L0}{rows:List (List Nat)}{A a:List (List Nat)×List Nat}{l l' li lk ms:List Int}{L M:List Int->Prop}{a0 g tl:List Nat}{r:List UInt8}{cs lc rc:List ix}{E T:Ml}{B b c fr i j jm k many n rb sz:Nat}{q:Nat->Bool}{O O':Nat->Nat}{S:Nat->Prop}{F:Pl}{gv v wv':ix}{enc:α->List ix}
section
namespace Go.VL
section
variable{P:NQ}{N:Nat}{ops:Array Q2}{Q:Exit→Act→L0→Prop}{rest:List Q2}{st:St}{w:L0}
variable{t:Ml}{p:String}{e:Array Edge}{d:Nat}{x y z:Pg}
theorem WC.scope{c:Code}(h:WC P N c (Q4 Q) st w):WC P N (.scope c) Q st w:=λa ha=>wp_scope_straight (h a ha)
theorem kh(h:QF N Q .ret st w):QF N (Q4 Q) .ret st w:=h
theorem run_next_at(w:L0)(b:Nat)(s:ByteArray)(a0:Nat)(ty:Ml)(hb:w.heap[b]? = some (.stringIter s a0))(h:a0<s.size)(hd:N9 s a0=(c,n)):
  (Nz (nP b) true ty).run P w=.ok (.tuple #[.bool true,nI a0,.int .i32 c]) (w.putObj b (.stringIter s (a0+n))):=by
 simp only[Nz,getObj,setObj,N1,PZ,hb,Result.andThen,h,if_true,hd];simp[goInt,World.putObj]
theorem rW(w:L0)(b:Nat)(s:ByteArray)(a0:Nat)(ty:Ml)(hb:w.heap[b]? = some (.stringIter s a0))(h:¬a0<s.size):
  (Nz (nP b) true ty).run P w=.ok (.tuple #[.bool false]) w:=by
 simp[Nz,getObj,PZ,hb,h]
theorem vK{l:List UInt8}{a0:Nat}(hx:ev st x=some (nP b))(hb:w.heap[b]? = some (.stringIter (bs l) a0))(hp:a0<l.length)(a2:N9 (bs l) a0=(c,n))(hd:Pn d N=true) 
  (h:WL P N ops Q rest ((d,.tuple #[.bool true,nI (a0:Nat),.int .i32 (c:Int)])::st) (w.putObj b (.stringIter (bs l) (a0+n)))):WL P N ops Q (⟨some d,.next x true,t,p,e,none⟩::rest) st w:=by
 have a1:=run_next_at (P:=P) w b (bs l) a0 t hb (by rw[df];exact hp) a2
 exact PV hd (λa ha=>by
  simp only[execOp,ha.ev hx,N1,a1,MQ]
  rfl) h
theorem yu{l:List UInt8}{a0:Nat}(hx:ev st x=some (nP b))(hb:w.heap[b]? = some (.stringIter (bs l) a0))(hp:l.length<=a0)(hd:Pn d N=true) 
  (h:WL P N ops Q rest ((d,.tuple #[.bool false])::st) w):WL P N ops Q (⟨some d,.next x true,t,p,e,none⟩::rest) st w:=by
 have a1:=rW (P:=P) w b (bs l) a0 t hb (by rw[df];omega)
 exact PV hd (λa ha=>by
  simp only[execOp,ha.ev hx,N1,a1,MQ]
  rfl) h
theorem yG{xt yt:Ml}{k k':IntKind}{m:Int}(hs:P.underlying xt=some (.int k'))(a0:P.underlying yt=some .string)(hx:ev st x=some (.int k m)):RV P N (.convert xt yt x) t st w (.string (NY m)):=
 λa ha a1 p e g=>by
  simp only[execOp,ha.ev hx];simp[convert,run_underlying hs,run_underlying a0,Conv.intToString]
end
theorem Dn{l:List UInt8}{a0:Nat}(h:a0<l.length)(hb:(nth l a0).toNat<128):N9 (bs l) a0=((nth l a0).toNat,1):=by
 have hs:a0<(bs l).size:=by rw[df];exact h
 have he:(bs l)[a0]'hs=nth l a0:=by rw[aB h];exact List.getElem_toArray (xs:=l) (i:=a0) h
 have:=decode_ascii (bs l) a0 hs (by rw[he];exact hb);rw[he]at this;exact this
theorem GL{l:List UInt8}(h:i<l.length):(bs l).get! i=nth l i:=by
 rw[aB h];show(bs l).data[i]! = _;rw[getElem!_pos (bs l).data i (by simpa[bs]using h)];simp[bs]
theorem Do{l:List UInt8}{a0:Nat}(h:a0<l.length)(hb:128<=(nth l a0).toNat):
  ∃c n,N9 (bs l) a0=(c,n)/\128<=c/\My (c:Int)=true/\1<=n/\a0+n<=l.length/\∀i,a0<=i->i<a0+n->128<=(nth l i).toNat:=by
 have h0:(bs l).get! (a0+0)=nth l a0:=GL h;have hc:∀k,(a0+k<(bs l).size&&((bs l).get! (a0+k)).toNat / 64==2)=true->a0+k<l.length/\128<=(nth l (a0+k)).toNat:=λk hk=>by
  simp only[L1,decide_eq_true_eq,beq_iff_eq,df]at hk;rw[GL hk.1]at hk;exact⟨hk.1,zo⟩
 have one:∀i,a0<=i->i<a0+1->128<=(nth l i).toNat:=λi h1 h2=>by
  obtain rfl:i=a0:=zo;exact hb
 have a1:∃c n,(Utf8.runeError,1)=(c,n)/\128<=c/\My (c:Int)=true/\1<=n/\a0+n<=l.length/\∀i,a0<=i->i<a0+n->128<=(nth l i).toNat:=⟨_,_,rfl,zd,zd,zd,zo,one⟩
 unfold N9;simp only[h0];rw[if_neg zo];have a2:=(nth l a0).toNat_lt
 split
 ·rename_i h1;simp only[L1]at h1;obtain⟨g1,g2⟩:=hc 1 (by simpa using h1.2)
  split
  ·rename_i h2;refine⟨_,_,rfl,h2,?_,zd,zo,λi k1 k2=>?_⟩
   ·unfold My;simp only[Mj,L1,decide_eq_true_eq];left;constructor<;>omega
   by_cases e:i=a0
   ·rw[e];exact hb
   obtain rfl:i=a0+1:=zo;exact g2
  exact a1
 split
 ·rename_i h1;simp only[L1]at h1;obtain⟨g1,g2⟩:=hc 1 (by simpa using h1.1.2);obtain⟨g3,g4⟩:=hc 2 (by simpa using h1.2)
  split
  ·rename_i h2;simp only[L1,decide_eq_true_eq]at h2;refine⟨_,_,rfl,zo,h2.2,zd,zo,λi k1 k2=>?_⟩
   by_cases e:i=a0
   ·rw[e];exact hb
   by_cases e1:i=a0+1
   ·rw[e1];exact g2
   obtain rfl:i=a0+2:=zo;exact g4
  exact a1
 split
 ·rename_i h1;simp only[L1]at h1;obtain⟨g1,g2⟩:=hc 1 (by simpa using h1.1.1.2);obtain⟨g3,g4⟩:=hc 2 (by simpa using h1.1.2);obtain⟨g5,g6⟩:=hc 3 (by simpa using h1.2)
  split
  ·rename_i h2;simp only[L1,decide_eq_true_eq]at h2;refine⟨_,_,rfl,zo,h2.2,zd,zo,λi k1 k2=>?_⟩
   by_cases e:i=a0
   ·rw[e];exact hb
   by_cases e1:i=a0+1
   ·rw[e1];exact g2
   by_cases e2:i=a0+2
   ·rw[e2];exact g4
   obtain rfl:i=a0+3:=zo;exact g6
  exact a1
 exact a1
theorem Dj(hc:128<=c)(hv:My (c:Int)=true):∃L:List UInt8,NY (c:Int)=bs L/\2<=L.length/\L.length<=4/\128<=(nth L 1).toNat:=by
 unfold NY;simp only[hv,if_true,MC];rw[if_neg zo];have hm:c % 64<64:=Ph _ zd
 split
 ·refine⟨[LY (0xC0+c / 64),LY (0x80+c % 64)],rfl,by simp,by simp,?_⟩;rw[aS,ao];simp;omega
 split
 ·refine⟨[LY (0xE0+c / 4096),LY (0x80+c / 64 % 64),LY (0x80+c % 64)],rfl,by simp,by simp,?_⟩;rw[aS,ao];have:c / 64 % 64<64:=Ph _ zd;simp;omega
 refine⟨[LY (0xF0+c / 262144),LY (0x80+c / 4096 % 64),LY (0x80+c / 64 % 64),LY (0x80+c % 64)],rfl,by simp,by simp,?_⟩;rw[aS,ao];have:c / 4096 % 64<64:=Ph _ zd;simp;omega
end Go.VL
namespace Go.Proofs.YteolbhblkgjbhaaGreatDoor
open Go.VL Go.Proofs
set_option maxRecDepth 10000
theorem rM(c:Int)(w:L0)(hv:My c=true):MO M1 211 [.int .i32 c] w λv w'=>v=.bool true/\w'=w:=by
 unfold My at hv;simp only[Mj,L1,decide_eq_true_eq]at hv;apply L2 func211 ntmps211 rfl rfl;refine zh ?_;apply au (d:=6) rfl (b':=true) ((decide_eq_true zo));refine zh ?_
 by_cases h:c<55296
 ·refine zTH rfl ((decide_eq_true zo)) ?_;refine af rfl rfl ⟨rfl,rfl⟩
 refine zFH rfl ((decide_eq_false zo)) ?_;apply au (d:=13) rfl (b':=true) ((decide_eq_true zo))
 refine zh ?_;refine zTH rfl ((decide_eq_true zo)) ?_
 refine af rfl rfl ⟨rfl,rfl⟩
theorem oX(c:Nat)(w:L0)(hc:128<=c)(hv:My (c:Int)=true):MO M1 160 [.string (bs [33,47]),.int .i32 (c:Int)] w λv w'=>v=nI (-1)/\Ms w w':=by
 apply L2 func160 ntmps160 rfl rfl;refine zh ?_
 apply au (d:=163) rfl (b':=true) ((decide_eq_true zo));refine zh ?_
 refine zFH rfl ((decide_eq_false zo)) ?_
 by_cases h3:(c:Int)=65533
 ·refine zTH rfl ((by simpa using h3)) ?_;apply vJ L8 rfl rfl
  refine zh ?_;apply zlp (λx:Nat=>[(175,.pointer (some ⟨w.heap.size,0,none⟩))]) (λx=>w.iter (bs [33,47]) x) (λx=>x<=2) (λx=>2-x) 0 (LO _)
  rintro k hk;refine zh ?_
  by_cases a2:k<2
  ·have a3:([33,47]:List UInt8)[k]? = some (nth [33,47] k):=by rw[aB (by simpa using a2)];exact Mv (by simpa using a2)
   have a4:(nth ([33,47]:List UInt8) k).toNat<128:=by
    have:k=0\/k=1:=zo
    rcases this with rfl|rfl
    ·rw[ao];decide
    rw[aS,ao];decide
   apply Gs rfl a3 a4 rfl;refine zh ?_
   refine zTH rfl rfl ?_;refine zFH rfl ((beq_eq_false_iff_ne.2 zo)) ?_
   refine zxd (k+1) a2
  apply Gq rfl (by simp;omega) rfl;refine zh ?_
  refine zFH rfl rfl ?_;refine af rfl rfl ⟨rfl,Ext.iter _ _ _⟩
 refine zFH rfl ((by simpa using h3)) ?_;apply zc call211 (rM c w hv)
 rintro v w9 ⟨rfl,a1⟩;rw[a1];clear a1 w9;obtain⟨L,hL,a6,a5,a7⟩:=Dj hc hv;refine zh ?_;apply aI rfl rfl;apply WC.scope;refine zh ?_;apply zv (yG Qo L8 rfl);rw[hL];refine zh ?_;refine zvH (bO L8 rfl) ?_;apply zlp (λx:Unit=>[(0,.string (bs [33,47])),(7,.string (bs L)),(8,nI ((L.length:Int)-1)),(9,nI ((L.length:Int)-1)),(10,nI 0)]) (λx=>w) (λx=>True) (λx=>0) () trivial;rintro _ _;refine zh ?_;refine zvH (bO L8 rfl) ?_
 by_cases h2:L.length=2
 ·apply aP rfl ((decide_eq_true (by simp;omega)));have a0:L[1]? = some (nth L 1):=by rw[aB zo];exact Mv zo
  refine zh ?_;apply WC.scope
  refine zh ?_;apply P9 zk zk
  refine zh ?_;refine zwH (bD (c:=47) L8 rfl rfl 1 zo rfl) ?_
  refine zwH (bD (c:=nth L 1) L8 rfl rfl 1 zo a0) ?_;apply PU
  refine zh ?_;refine zTH rfl ((by rw[bne_iff_ne];show(47:Int)≠_;omega)) ?_
  apply ND 7 rfl rfl zk zk;refine zh ?_
  refine zwH (ke L8 rfl rfl 2 zo (by simp)) ?_;apply zw (bD (c:=nth L 1) L8 rfl rfl 1 zo a0)
  apply Pw;apply zc call44 (dW [] (nth L 1) w.drew.drew)
  rintro v w9 ⟨rfl,a1⟩;rw[a1];clear a1 w9;refine zh ?_;refine zTH rfl rfl ?_;apply kh;refine zh ?_;apply kh;refine zh ?_;refine af rfl rfl ⟨rfl,(L3 w).drew.drew⟩
 refine zFH rfl ((decide_eq_false (by simp;omega))) ?_;apply kh
 refine zh ?_;refine af rfl rfl ⟨rfl,L3 _⟩
theorem lC(c:Nat)(w:L0)(hc:128<=c)(hv:My (c:Int)=true):MO M1 117 [.string (bs [33,47]),.int .i32 (c:Int)] w λv w'=>v=.bool false/\Ms w w':=by
 apply L2 func117 ntmps117 rfl rfl;refine zh ?_
 apply zc call160 (oX c w hc hv);rintro v w9 ⟨rfl,hE⟩;refine zh ?_
 refine af rfl rfl ⟨rfl,hE⟩
theorem xr(c:Nat)(w:L0)(hc:128<=c)(hv:My (c:Int)=true):MO M1 116 [.int .i32 (c:Int)] w λv w'=>v=.bool false/\Ms w w':=by
 apply L2 func116 ntmps116 rfl rfl;refine zh ?_
 apply zc call117 (lC c w hc hv);rintro v w9 ⟨rfl,hE⟩;refine zh ?_
 refine af rfl rfl ⟨rfl,hE⟩
end Go.Proofs.YteolbhblkgjbhaaGreatDoor
end
section
namespace Go.VL
def forget(i:Nat)(O:Nat->Nat)(b:Nat):Nat:=if O b=i then 0 else O b
theorem Rng.forget{B i:Nat}{O:Nat->Nat}{w:L0}(h:Ns B O w):Ns B (forget i O) w:=⟨h.le,λb hb=>by
 unfold VL.forget at hb
 split at hb
 ·exact absurd rfl hb
 exact h.rng b hb⟩
end Go.VL
namespace Go.Proofs.YteolbhblkgjbhaaGreatDoor
open Go.VL Go.Proofs
set_option maxRecDepth 10000
def gT(l:List UInt8):List UInt8:=(l.reverse.dropWhile (· == 32)).reverse
def D7(l:List UInt8):List UInt8:=aw (gT l)
theorem xa(l:List UInt8):gT (l++[32])=gT l:=by simp[gT]
theorem xc(l:List UInt8){c:UInt8}(h:c≠32):gT (l++[c])=l++[c]:=by simp[gT,h]
theorem nj(l:List UInt8)(w:L0)(hl:l.length<=1000000):MO M1 214 [.string (bs l),.int .u8 32] w λv w'=>v=.string (bs (aw l))/\w'=w:=by
 apply L2 func214 ntmps214 rfl rfl;refine zh ?_
 apply zlp (λx:List UInt8=>[(0,.string (bs x)),(1,.int .u8 32)]) (λx=>w) (λx=>aw x=aw l/\x.length<=1000000) (λx=>x.length) l ⟨rfl,hl⟩;rintro r ⟨hr,a0⟩;refine zh ?_
 refine zvH (bO L8 rfl) ?_
 cases r with
 |nil=>
  apply au (d:=8) rfl (b':=false) rfl;refine zh ?_
  refine zFH rfl rfl ?_;refine af rfl rfl ⟨by rw[<-hr];rfl,rfl⟩
 |cons b r2=>
  simp only[LW]at a0;apply au (d:=8) rfl (b':=true) ((decide_eq_true (by simp only[LW];omega)));refine zh ?_;refine zvH (bD (c:=b) L8 rfl rfl 0 rfl rfl) ?_;refine zC ?_ ?_
  ·intro hb;replace hb:b=32:=by
    by_cases e:b=32
    ·exact e
    have:=eJ b 32 zd e;exact absurd (this.symm.trans hb) zd
   subst hb;refine zh ?_;refine zvH (ke L8 rfl rfl 1 rfl (by simp)) ?_;refine zx r2 ⟨by rw[<-hr];simp[aw],zo⟩ (by simp)
  intro hb;replace hb:b≠32:=λe=>by subst e;cases hb
  refine zh ?_;refine af rfl rfl ⟨by rw[<-hr];simp[aw,hb],rfl⟩
theorem lO(l:List UInt8)(w:L0)(hl:l.length<=1000000):MO M1 215 [.string (bs l),.int .u8 32] w λv w'=>v=.string (bs (gT l))/\w'=w:=by
 apply L2 func215 ntmps215 rfl rfl;refine zh ?_
 apply zlp (λx:List UInt8=>[(0,.string (bs x)),(1,.int .u8 32)]) (λx=>w) (λx=>gT x=gT l/\x.length<=1000000) (λx=>x.length) l ⟨rfl,hl⟩;rintro r ⟨hr,a1⟩;refine zh ?_
 refine zvH (bO L8 rfl) ?_
 rcases List.eq_nil_or_concat r with rfl|⟨r2,b,rfl⟩
 ·apply au (d:=8) rfl (b':=false) rfl;refine zh ?_
  refine zFH rfl rfl ?_;refine af rfl rfl ⟨by rw[<-hr];rfl,rfl⟩
 rw[List.concat_eq_append]at *;have a0:(r2++[b]).length=r2.length+1:=by simp
 rw[a0]at a1;apply au (d:=8) rfl (b':=true) ((decide_eq_true (by rw[a0];omega)));refine zh ?_;refine zvH (bO L8 rfl) ?_;refine zvH (bD (c:=b) L8 rfl rfl r2.length (by rw[a0];omega) (by simp)) ?_;refine zC ?_ ?_
 ·intro hb;replace hb:b=32:=by
   by_cases e:b=32
   ·exact e
   have:=eJ b 32 zd e;exact absurd (this.symm.trans hb) zd
  subst hb;refine zh ?_;apply zv (bO L8 rfl);apply zv (RV.sub rfl rfl (NW (by rw[a0];omega)));refine zvH (yC L8 rfl rfl r2.length (by rw[a0];omega) (by simp)) ?_;rw[List.take_left];refine zx r2 ⟨by rw[<-hr,xa],zo⟩ (by simp)
 intro hb;replace hb:b≠32:=λe=>by subst e;cases hb
 refine zh ?_;refine af rfl rfl ⟨by rw[<-hr,xc _ hb],rfl⟩
theorem BC(l:List UInt8):(gT l).length<=l.length:=by
 have:=(List.dropWhile_suffix (l:=l.reverse) (· == (32:UInt8))).length_le;simpa[gT]using this
theorem D6(l:List UInt8)(w:L0)(hl:l.length<=1000000):MO M1 161 [.string (bs l),.string (bs [32])] w λv w'=>v=.string (bs (D7 l))/\Ms w w':=by
 have a0:=BC l;apply L2 func161 ntmps161 rfl rfl;refine zh ?_;refine zvH (bN rfl rfl) ?_
 by_cases h0:l=[]
 ·subst h0;apply au (d:=9) rfl (b':=true) rfl;refine zh ?_;refine zTH rfl rfl ?_;refine af rfl rfl ⟨rfl,L3 _⟩
 apply au (d:=9) rfl (b':=false) ((by simpa using h0));refine zh ?_
 refine zvH (bN rfl rfl) ?_;refine zFH rfl rfl ?_
 refine zvH (bO L8 rfl) ?_;apply au (d:=17) rfl (b':=true) rfl
 refine zh ?_;refine zvH (bD (c:=32) L8 rfl rfl 0 rfl rfl) ?_
 refine zTH rfl rfl ?_;apply P9 zk zk
 refine zh ?_;apply zw (bD (c:=32) L8 rfl rfl 0 rfl rfl)
 apply Q5 call215 rfl (lO l w.drew hl) rfl;refine zh ?_
 apply zw (bD (c:=32) L8 rfl rfl 0 rfl rfl);apply Q5 call214 rfl (nj (gT l) w.drew zo) rfl
 refine zh ?_;apply PU
 refine zh ?_;refine af rfl rfl ⟨rfl,(L3 w).drew⟩
def As(c:UInt8):Bool:=decide (c=33)||decide (c=47)
theorem IQ(c:UInt8):decide (0<=tG [33,47] c)=As c:=by
 unfold tG As
 by_cases h1:c=33
 ·subst h1;rfl
 by_cases h2:c=47
 ·subst h2;rfl
 have:[(33:UInt8),47].findIdx? (· == c)=none:=by
  rw[Mt];intro x hx;simp at hx
  rcases hx with rfl|rfl<;>simp<;>intro e<;>first|exact h1 e.symm|exact h2 e.symm
 rw[this];simp[h1,h2]
theorem sL(c:UInt8)(w:L0)(hc:c.toNat<128):MO M1 160 [.string (bs [33,47]),.int .i32 (c.toNat:Int)] w λv w'=>v=nI (tG [33,47] c)/\w'=w:=by
 apply L2 func160 ntmps160 rfl rfl;refine zh ?_
 apply au (d:=163) rfl (b':=true) ((decide_eq_true zo));refine zh ?_
 refine zTH rfl ((decide_eq_true zo)) ?_;apply zv (DQ Qo Qw rfl (Fit.u8 zo))
 apply zc call44 (dW [33,47] c w);rintro v w9 ⟨rfl,a0⟩;rw[a0];clear a0 w9;refine zh ?_
 refine af rfl rfl ⟨rfl,rfl⟩
theorem ny(c:UInt8)(w:L0)(hc:c.toNat<128):MO M1 117 [.string (bs [33,47]),.int .i32 (c.toNat:Int)] w λv w'=>v=.bool (As c)/\w'=w:=by
 apply L2 func117 ntmps117 rfl rfl;refine zh ?_
 apply zc call160 (sL c w hc);rintro v w9 ⟨rfl,a0⟩;rw[a0];clear a0 w9;refine zh ?_
 refine af rfl rfl ⟨congrArg Value.bool (IQ c),rfl⟩
theorem Cc(c:UInt8)(w:L0)(hc:c.toNat<128):MO M1 116 [.int .i32 (c.toNat:Int)] w λv w'=>v=.bool (As c)/\w'=w:=by
 apply L2 func116 ntmps116 rfl rfl;refine zh ?_
 apply zc call117 (ny c w hc);rintro v w9 ⟨rfl,a0⟩;rw[a0];clear a0 w9;refine zh ?_
 refine af rfl rfl ⟨rfl,rfl⟩
def mO(l:List UInt8):Int:=match l.findIdx? As with|some i=>(i:Nat)|none=>-1
theorem sM(l:List UInt8)(w:L0):MO M1 159 [.string (bs l),.func (.func 116) #[] #[],.bool true] w fun v w'=>v=nI (mO l)/\Ms w w':=by
 have b2:M6 (fun k=>k=1) (fun _=>0) w (lV (fun _=>0) w.heap.size 1) (w.iter (bs l) 0):=Qj zd (ax w) _ 1;have hO:lV (fun _=>0) w.heap.size 1 w.heap.size=1:=eG _ _ _;refine L2 func159 ntmps159 rfl rfl ?_;refine zh ?_;refine vJ L8 rfl rfl ?_;refine zh ?_;refine zlp (fun x:Nat×L0=>[(1,.func (.func 116) #[] #[]),(2,.bool true),(10,.pointer (some ⟨w.heap.size,0,none⟩))]) (fun x=>x.2) (fun x=>(∀i,i<x.1->i<l.length->As (nth l i)=false)/\x.2.heap[w.heap.size]? = some (.stringIter (bs l) x.1)/\M6 (fun k=>k=1) (fun _=>0) w (lV (fun _=>0) w.heap.size 1) x.2) (fun x=>l.length-x.1) (0,w.iter (bs l) 0) (⟨fun i hi=>absurd hi (M7 i),World.iter_heap w (bs l) 0,b2⟩) ?_;rintro⟨k,w1⟩ ⟨a3,a2,a5⟩;dsimp only at a3 a2 a5 ⊢;refine zh ?_
 by_cases a1:k<l.length
 ·by_cases a7:(nth l k).toNat<128
  ·refine vK rfl a2 a1 (Dn a1 a7) rfl ?_;have a4:=a5.trans (Qe zd hO (w:=w1) (.stringIter (bs l) (k+1)));have a0:(w1.putObj w.heap.size (.stringIter (bs l) (k+1))).heap[w.heap.size]? = some (.stringIter (bs l) (k+1)):=NM (bL a2);generalize w1.putObj w.heap.size (.stringIter (bs l) (k+1))=w2 at *;refine zh ?_
   refine zTH rfl rfl ?_;refine dk rfl call116 rfl (Cc (nth l k) w2 a7) rfl ?_
   rintro v w9 ⟨rfl,a6⟩;rw[a6];clear a6 w9;refine zh ?_;refine zvH (yF Pv rfl rfl) ?_
   cases hs:As (nth l k)with
   |true=>
    refine zTH rfl rfl ?_;have hf:l.findIdx? As=some k:=M8.2 ⟨a1,by rw[<-aB a1,hs],fun j hj=>by rw[<-aB zo,a3 j hj zo];decide⟩
    refine af rfl rfl (⟨by unfold mO;rw[hf];rfl,a4.ext⟩)
   |false=>
    refine zFH rfl rfl ?_;refine zxd (k+1,w2) (⟨fun i hi hl=>(M5.1 hi).elim (fun h=>a3 i h hl) (fun e=>by rw[e];exact hs),a0,a4⟩)
  obtain⟨c,n,a',b1,b0,b4,b3,a9⟩:=Do a1 zo;refine vK rfl a2 a1 a' rfl ?_;have a4:=a5.trans (Qe zd hO (w:=w1) (.stringIter (bs l) (k+n)));have a0:(w1.putObj w.heap.size (.stringIter (bs l) (k+n))).heap[w.heap.size]? = some (.stringIter (bs l) (k+n)):=NM (bL a2);generalize w1.putObj w.heap.size (.stringIter (bs l) (k+n))=w2 at *;refine zh ?_;refine zTH rfl rfl ?_;refine dk rfl call116 rfl (xr c w2 b1 b0) rfl ?_;rintro v w3 ⟨rfl,a8⟩;refine zh ?_;refine zvH (yF Pv rfl rfl) ?_;refine zFH rfl rfl ?_;refine zxd (k+n,w3) (⟨fun i hi hl=>?_,(a8.block _ (bL a0)).trans a0,a4.trans (ae zd _ a8)⟩)
  by_cases e:i<k
  ·exact a3 i e hl
  have:=a9 i zo hi;unfold As;rw[decide_eq_false (fun e=>by rw[e]at this;exact absurd this zd),decide_eq_false (fun e=>by rw[e]at this;exact absurd this zd)];rfl
 refine yu rfl a2 zo rfl ?_;refine zh ?_
 refine zFH rfl rfl ?_;have hf:l.findIdx? As=none:=Mt.2 fun x hx=>by
  obtain⟨j,hj,rfl⟩:=ck hx;exact a3 j zo hj
 refine af rfl rfl (⟨by unfold mO;rw[hf],a5.ext⟩)
theorem nu(l:List UInt8)(w:L0):MO M1 115 [.string (bs l),.func (.func 116) #[] #[]] w fun v w'=>v=nI (mO l)/\Ms w w':=by
 refine L2 func115 ntmps115 rfl rfl ?_;refine zh ?_
 refine zc call159 (sM l w) ?_;rintro v w1 ⟨rfl,hE⟩;refine zh ?_
 refine af rfl rfl (⟨rfl,hE⟩)
def JF(seg:List UInt8):XR:=if D7 seg=[]then .ok (.mk 9 0 [])else K1 seg
def pO(kn:Kn)(seg:List UInt8):XR:=if D7 seg=[]then .ok (.mk 9 0 [])else fM kn seg
variable{kn:Kn}
def PostS(O:Nat->Nat)(w:L0)(j rb:Nat)(s:LS)(fr:Nat)(x:N3):XR->Prop
 |.ok t=>Nt O w t x/\Rd6 O w j rb s
 |.bad p e=>x=(0,0,nS)/\e≠0/\Rd6 O w j rb {s with bad:=(fr:Int)+(p:Int),e:=e}
theorem zQ(l:List UInt8)(p:Nat)(e:Int)(h:fM kn l=.bad p e):e≠0/\p<=l.length:=by
 have hg:=jl (kn:=kn) 20 l;unfold fM at h
 split at h
 ·cases h;exact⟨zd,LO _⟩
 cases hf:yo kn 20 l with
 |bad q f=>
  rw[hf]at h hg
  cases h
  exact⟨hg.2,zo⟩
 |ok t r=>
  rw[hf]at h;dsimp only at h
  split at h
  ·cases h;exact⟨zd,zo⟩
  split at h
  ·cases h;exact⟨zd,LO _⟩
  cases h
theorem yB{l:List α}(h:NF enc E sz O w i v l)(hi:i≠0)(r:Ns B O w):Qi (forget i O) w v:=λa n c e _=>by
 have h1:=h.1.tag a.block (by subst e;rfl);have h2:=r.rng a.block (by rw[h1];exact hi);exact⟨by unfold forget;rw[if_pos h1],h2.2⟩
def Mac(O:Nat->Nat)(w:L0)(i:Nat)(v:ix)(kn:Kn):Prop:=
 ∃ms:List M3,NF eR 197 4 O w i v ms/\kn.length=ms.length/\∀q,q<ms.length->(nth kn q).1=(nth ms q).1/\Nt O w (nth kn q).2 (nth ms q).2
theorem Mac.upd{S:Nat->Prop}{O O':Nat->Nat}{w w':L0}{i:Nat}{v:ix}(h:Mac O w i v kn)(u:M6 S O w O' w')(hi:i≠0)(hS:¬S i):Mac O' w' i v kn:=by
 obtain⟨ms,h1,h2,h3⟩:=h;exact⟨ms,h1.upd u hi hS,h2,λq hq=>⟨(h3 q hq).1,(h3 q hq).2.upd u⟩⟩
theorem Mac.known(h:Mac O w i v kn)(hi:i≠0)(r:Ns B O w):Known (forget i O) w v kn:=by
 obtain⟨ms,h1,h2,h3⟩:=h;exact⟨ms,h1.sl,yB h1 hi r,h2,λq hq=>⟨(h3 q hq).1,(h3 q hq).2.weak λb hb=>by unfold forget;rw[hb];split<;>rfl⟩⟩
theorem Mac.nil(O:Nat->Nat)(w:L0)(i:Nat):Mac O w i nS []:=⟨[],NZ _ _ _ _ _ _,rfl,λq hq=>absurd hq (by simp)⟩
theorem rT(B:Nat)(O:Nat->Nat)(w:L0)(j rb:Nat)(s:LS)(fr to:Nat)(hR:Ns B O w)(hj:j≠0)(he:s.e=0)(d6:jm≠0)(e7:j≠jm)(e5:Mac O w jm s.mc kn)(e8:fr<=to)(e3:to<=s.l.length)(hl:s.l.length<=100000)(h:Rd6 O w j rb s):
  MO M1 118 [nP rb,nI fr,nI to] w λv w'=>∃x,v=nv x/\M6 (λk=>k=j) O w O w'/\PostS O w' j rb s fr x (pO kn ((s.l.take to).drop fr)):=by
 obtain⟨T0,d2,b1⟩:=hR.bound;obtain⟨T,a2,e6,hT⟩:∃T,0<T/\jm<T/\∀b,O b<T:=⟨T0+jm+1,zo,zo,λb=>by have:=b1 b;omega⟩
 clear d2 b1 T0;have f7:j<T:=by rw[<-h.tag];exact hT rb
 have f5:((s.l.take to).drop fr).length=to-fr:=by simp;omega
 apply L2 func118 ntmps118 rfl rfl;refine zh ?_
 apply ar hR T zo (MU _) rfl;intro xb w1 O1 e2 d9 f3 f8;have d8:=h.upd d9 hj zo;have c9:=d9.pT hj a2 (LU _);refine zh ?_
 refine zvH (RV.ld d8.q0 rfl) ?_;refine zvH (cf L8 rfl rfl rfl fr to rfl rfl e8 e3) ?_
 apply zc call161 (D6 ((s.l.take to).drop fr) w1 zo);rintro v w2 ⟨rfl,e1⟩;have c7:M6 (λ_=>False) O1 w1 O1 w2:=ae (λh=>h) O1 e1;have b2:=e2.upd c7 zo (λh=>h);have c5:=d8.upd c7 hj (λh=>h);have b4:=f3.upd c7;have a5:=c9.trans (jF O1 e1 hj a2);refine zvH (bN rfl rfl) ?_
 by_cases b3:D7 ((s.l.take to).drop fr)=[]
 ·have hM:pO kn ((s.l.take to).drop fr)=.ok (.mk 9 0 []):=by unfold pO;rw[if_pos b3]
  rw[hM];apply aP rfl ((by rw[b3];rfl));have a6:((9,0,nS):N3).2.2.oneCell'=true:=rfl;refine zh ?_;apply zv (aF kR (MU _) rfl (by first|rfl|(simp only[LX,Nm];rfl)) rfl rfl);apply zsb (us:=#[nI ((9,0,nS):N3).1,nI ((9,0,nS):N3).2.1,((9,0,nS):N3).2.2]) b2 (L9 _) (bX a6);have a8:=MW (us:=#[nI ((9,0,nS):N3).1,nI ((9,0,nS):N3).2.1,((9,0,nS):N3).2.2]) b2;have a1:M6 (λk=>k=T) O1 w2 O1 (NL w2 xb #[nI ((9,0,nS):N3).1,nI ((9,0,nS):N3).2.1,((9,0,nS):N3).2.2]):=L5 zo (PM b2) rfl;have a':=c5.upd a1 hj zo;have a7:=a5.trans (a1.pT hj a2 (LU _));refine zh ?_;refine aL rfl rfl a8.cellsAdd (M9 _) (L9 _) ⟨(9,0,nS),rfl,a7.priv hT hj,Q7 _ _ _ _,a'.fgt h.tag⟩
 have hM:pO kn ((s.l.take to).drop fr)=fM kn ((s.l.take to).drop fr):=by unfold pO;rw[if_neg b3]
 rw[hM];refine zFH rfl ((by simpa using b3)) ?_;apply zv (RV.ld c5.q9 rfl);have b9:=e5.upd a5 d6 zo;apply zc call111 (lT s.mc ((s.l.take to).drop fr) B O1 (forget jm O1) w2 b4 b4.forget (b9.known d6 b4));rintro v w3 ⟨e0,b5⟩;have c6:M6 (λ_=>False) O1 w2 O1 w3:=ae (λh=>h) O1 e0;have d3:=b2.upd c6 zo (λh=>h);have d7:=c5.upd c6 hj (λh=>h);have d':=b4.upd c6;have b0:=a5.trans (jF O1 e0 hj a2)
 cases hf:fM kn ((s.l.take to).drop fr)with
 |ok t=>
  rw[hf]at b5;obtain⟨x,rfl,d4⟩:=b5;have a6:=d4.one;refine zh ?_;apply ar d' (T+1) zo (MU _) rfl;intro nb w4 O4 a3 d1 e' f4;apply zsb (us:=#[nI x.1,nI x.2.1,x.2.2]) a3 (L9 _) (bX a6);have b8:=a3.setRow (us:=#[nI x.1,nI x.2.1,x.2.2]);have d0:M6 (λk=>k=T+1) O4 w4 O4 (w4.setRow nb #[nI x.1,nI x.2.1,x.2.2]):=L5 zo a3.tag rfl;have a0:=d1.trans d0;have a9:=d3.upd a0 zo zo;have b':=d7.upd a0 hj zo;have a4:=b0.trans (a0.pT hj a2 (P5 _));have b7:=d4.upd a0;generalize w4.setRow nb #[nI x.1,nI x.2.1,x.2.2]=w5 at *;refine zh ?_;refine zFH rfl rfl ?_;apply zv (ai (us:=aX x) b8.cellsAdd (M9 _) (L9 _) rfl);apply zsb (us:=#[nI x.1,nI x.2.1,x.2.2]) a9 (L9 _) (bX a6);have a8:=MW (us:=#[nI x.1,nI x.2.1,x.2.2]) a9;have a1:M6 (λk=>k=T) O4 w5 O4 (NL w5 xb #[nI x.1,nI x.2.1,x.2.2]):=L5 zo (PM a9) rfl;have a':=b'.upd a1 hj zo;have a7:=a4.trans (a1.pT hj a2 (LU _));refine zh ?_;refine aL rfl rfl a8.cellsAdd (M9 _) (L9 _) ⟨x,rfl,a7.priv hT hj,(b7.upd a1).low a7,a'.fgt h.tag⟩
 |bad p e=>
  rw[hf]at b5;obtain⟨rfl,d5⟩:=b5;obtain⟨_,f6⟩:=zQ _ _ _ hf;refine zh ?_;apply ar d' (T+1) zo (MU _) rfl;intro nb w4 O4 a3 d1 e' f4;apply zsa (us:=#[nI 0,nI 0,nS]) a3 (L9 _);have b8:=a3.setRow (us:=#[nI 0,nI 0,nS]);have d0:M6 (λk=>k=T+1) O4 w4 O4 (w4.setRow nb #[nI 0,nI 0,nS]):=L5 zo a3.tag rfl;have a0:=d1.trans d0;have a9:=d3.upd a0 zo zo;have b':=d7.upd a0 hj zo;have a4:=b0.trans (a0.pT hj a2 (P5 _));generalize w4.setRow nb #[nI 0,nI 0,nS]=w5 at *;refine zh ?_;refine zTH rfl ((by simpa using d5)) ?_;apply zc PT (bU O4 w5 j rb s ((fr:Int)+(p:Int)) e hj he b');rintro v w6 ⟨e9,c'⟩;have b6:=a9.upd c' zo zo;have e4:=b8.upd c' zo zo;have c8:=a4.trans (c'.pj a2);refine zh ?_;apply zv (ai (us:=aX ((0,0,nS):N3)) e4.cellsAdd (M9 _) (L9 _) rfl);have a6:((0,0,nS):N3).2.2.oneCell'=true:=rfl;apply zsb (us:=#[nI ((0,0,nS):N3).1,nI ((0,0,nS):N3).2.1,((0,0,nS):N3).2.2]) b6 (L9 _) (bX a6);have a8:=MW (us:=#[nI ((0,0,nS):N3).1,nI ((0,0,nS):N3).2.1,((0,0,nS):N3).2.2]) b6;have a1:M6 (λk=>k=T) O4 w6 O4 (NL w6 xb #[nI ((0,0,nS):N3).1,nI ((0,0,nS):N3).2.1,((0,0,nS):N3).2.2]):=L5 zo (PM b6) rfl;have a':=e9.upd a1 hj zo;have a7:=c8.trans (a1.pT hj a2 (LU _));refine zh ?_;refine aL rfl rfl a8.cellsAdd (M9 _) (L9 _) ⟨(0,0,nS),rfl,a7.priv hT hj,rfl,d5,a'.fgt h.tag⟩
end Go.Proofs.YteolbhblkgjbhaaGreatDoor
end
namespace Go.Proofs.YteolbhblkgjbhaaGreatDoor
section
def dm(t:Nd):Int:=if(bp t&&Br 3 t)=true then 4 else if(!(uQ t)||decide (4<uP t))=true then 8 else 0
theorem kV(t:Nd)(x:N3)(w:L0)(h:Nt (λ_=>0) w t x):MO M1 84 [nv x] w λv w'=>v=nI (dm t)/\Ms w w':=by
 apply L2 func84 ntmps84 rfl rfl;refine zh ?_
 apply aN (ax w) 1 zo rfl rfl;intro xb w1 O1 a5 a7 a8 a3;have a4:∀W,Ms w1 W->∀(j:Nat) (u:ix),(aX x)[j]? = some u->W.cell? (nA xb j)=some u:=λW hE j u hu=>hE.cell (a5.cellsAdd j u hu)
 refine zh ?_;apply zv (ai (us:=aX x) (a4 w1 (L3 _)) (M9 _) (L9 _) rfl)
 apply zc call122 (pX t x w1 (h.ext a3));rintro v w2 ⟨rfl,a2⟩;refine zh ?_
 apply zv (ai (us:=aX x) (a4 w2 a2) (M9 _) (L9 _) rfl);apply zc call123 (AV t 3 x w2 (h.ext (a3.trans a2)))
 rintro v w3 ⟨rfl,a6⟩;have a0:=(a3.trans a2).trans a6;refine zh ?_
 cases h1:(bp t&&Br 3 t)with
 |true=>
  refine zTH rfl rfl ?_;refine af rfl rfl ⟨by unfold dm;rw[if_pos h1],a0⟩
 |false=>
  refine zFH rfl rfl ?_;refine ct (λw1=>_=w1) (decide (4<uP t)) 2 rfl rfl rfl rfl rfl rfl ?_ ?_
  ·intro a1;refine zh ?_;refine nE 16 3 rfl a1
  rintro _ rfl;refine zh ?_
  cases h2:(!(uQ t)||decide (4<uP t))with
  |true=>
   refine zTH rfl rfl ?_;refine af rfl rfl ⟨by unfold dm;rw[if_neg (by rw[h1];decide),if_pos h2],a0⟩
  |false=>
   refine zFH rfl rfl ?_;refine af rfl rfl ⟨by unfold dm;rw[if_neg (by rw[h1];decide),if_neg (by rw[h2];decide)],a0⟩
abbrev R3:=Nd×Nd×Bool
abbrev X3:=N3×N3×Bool
def bP(x:X3):List ix:=[nI x.1.1,nI x.1.2.1,x.1.2.2,nI x.2.1.1,nI x.2.1.2.1,x.2.1.2.2,.bool x.2.2]
def Rt(O:Nat->Nat)(w:L0)(t:R3)(x:X3):Prop:=Nt O w t.1 x.1/\Nt O w t.2.1 x.2.1/\x.2.2=t.2.2
theorem Rt.upd{S:Nat->Prop}{O O':Nat->Nat}{w w':L0}{t:R3}{x:X3}(h:Rt O w t x)(u:M6 S O w O' w'):Rt O' w' t x:=⟨h.1.upd u,h.2.1.upd u,h.2.2⟩
theorem Rt.weak{O O':Nat->Nat}{w:L0}{t:R3}{x:X3}(h:Rt O' w t x)(k:∀b,O' b=0->O b=0):Rt O w t x:=⟨h.1.weak k,h.2.1.weak k,h.2.2⟩
theorem elR:Qu M1 54 122 7 88:=⟨Pc,by kernel_rfl,zd⟩
theorem Cm:cE M1 122 #[(0,3),(3,3),(6,1)]:=⟨_,underlying122,λw=>by kernel_rfl⟩
inductive LR where
 |ok (x:R3)
 |bad (p:Nat) (e:Int)
def Ly(r:List UInt8):LR:=
 match r.findIdx? As with
 |none=>.bad r.length 4
 |some k=>
  match JF (r.take k)with
  |.bad p e=>.bad p e
  |.ok a=>
   match JF (r.drop (k+1))with
   |.bad p e=>.bad (k+1+p) e
   |.ok b=>if dm b≠0 then .bad (k+1) (dm b)else .ok (a,b,(((nth r k).toNat:Int)==47))
def gZ(kn:Kn)(r:List UInt8):LR:=
 match r.findIdx? As with
 |none=>.bad r.length 4
 |some k=>
  match pO kn (r.take k)with
  |.bad p e=>.bad p e
  |.ok a=>
   match pO kn (r.drop (k+1))with
   |.bad p e=>.bad (k+1+p) e
   |.ok b=>if dm b≠0 then .bad (k+1) (dm b)else .ok (a,b,(((nth r k).toNat:Int)==47))
variable{kn:Kn}
def B7(s:LS)(fr:Nat):XR->LS
 |.ok _=>s
 |.bad p e=>{s with bad:=(fr:Int)+(p:Int),e:=e}
theorem PostS.rd{s:LS}{x:N3}{M:XR}(h:PostS O w j rb s fr x M):Rd6 O w j rb (B7 s fr M):=by
 cases M with
 |ok t=>exact h.2
 |bad p e=>exact h.2.2
theorem PostS.one{O:Nat->Nat}{w:L0}{j rb:Nat}{s:LS}{fr:Nat}{x:N3}{M:XR}(h:PostS O w j rb s fr x M):x.2.2.oneCell'=true:=by
 cases M with
 |ok t=>exact h.1.one
 |bad p e=>rw[h.1];rfl
theorem PostS.upd{S:Nat->Prop}{O O':Nat->Nat}{w w':L0}{j rb:Nat}{s:LS}{fr:Nat}{x:N3}{M:XR}(h:PostS O w j rb s fr x M)(u:M6 S O w O' w')(hj:j≠0)(hS:¬S j):PostS O' w' j rb s fr x M:=by
 cases M with
 |ok t=>exact⟨h.1.upd u,Mb h.2 u hj hS⟩
 |bad p e=>exact⟨h.1,h.2.1,Mb h.2.2 u hj hS⟩
theorem Ft(s:LS)(fr:Nat)(M:XR):(B7 s fr M).l=s.l:=by cases M<;>rfl
theorem B6(s:LS)(fr:Nat)(M:XR):(B7 s fr M).bg=s.bg:=by cases M<;>rfl
def Le(B:Nat)(O:Nat->Nat)(w w':L0)(j jr rb:Nat)(s:LS)(xs:List X3)(M:LR):Prop:=
 ∃O' rv,M6 (λk=>k=j\/k=jr) O w O' w'/\Ns B O' w'/\
  match M with
  |.ok t=>∃x,NF bP 122 7 O' w' jr rv (xs++[x])/\Rt O' w' t x/\Rd6 O' w' j rb {s with ru:=rv}
  |.bad p e=>e≠0/\Rd6 O' w' j rb {s with ru:=rv,bad:=s.bg+(p:Int),e:=e}
theorem kM{x y:N3}{b:Bool}(h1:x.2.2.oneCell'=true)(h2:y.2.2.oneCell'=true):(bP (x,y,b)).toArray.toList.all Mp=true:=by
 simp only[bP,LX,h1,h2];rfl
theorem bJ{x y:N3}{b:Bool}(h1:x.2.2.oneCell'=true)(h2:y.2.2.oneCell'=true):∀c∈bP (x,y,b),c.oneCell'=true:=by
 have:=kM (b:=b) h1 h2;exact MF.1 this
theorem Gz{L:List UInt8}(h:r <:+ L):L.drop (L.length-r.length)=r:=(List.suffix_iff_eq_drop.1 h).symm
theorem jR{x1 x2:N3}{brk:Bool}(h:N4 O w i b (bP (x1,x2,brk)).toArray E):∀(q:Nat) (u:ix),(aX x2)[q]? = some u->w.cell? ((nA b 3).add q)=some u:=λq u hu=>by
 have e:((nA b 3).add q)=⟨b,3+q,none⟩:=by
  simp only[Nb];(repeat' split)<;>simp_all
 rw[e];apply h.cell (3+q);simp only[aX]at hu
 match q,hu with
 |0,hu=>exact hu
 |1,hu=>exact hu
 |2,hu=>exact hu
theorem xi{m:Nat}{s:LS}{x:N3}{M:XR}{hbg:s.bg=((m-n:Nat):Int)}(h:PostS O w j rb s fr x M):w.cell? ⟨rb,0,none⟩=some (.string (bs s.l))/\w.cell? ⟨rb,3,none⟩=some (nI ((m-n:Nat):Int)):=by
 have h0:=h.rd.q0;have h3:=h.rd.q3;rw[Ft]at h0;rw[B6,hbg]at h3;exact⟨h0,h3⟩
theorem uq(B:Nat)(O:Nat->Nat)(w:L0)(j jr rb:Nat)(s:LS)(m:Nat)(r:List UInt8)(xs:List X3)(hR:Ns B O w)(hj:j≠0)(b0:jr≠0)(e7:j≠jr)(hm:m<=s.l.length)(hl:s.l.length<=100000)(i7:s.to=(m:Int))(hbg:s.bg=((m-r.length:Nat):Int))(he:s.e=0)(h2:jm≠0)(g0:j≠jm)(l':jr≠jm)(j3:Mac O w jm s.mc kn)
  (hr:r <:+ s.l.take m) (f':NF bP 122 7 O w jr s.ru xs) (l9:xs.length<=40) (h:Rd6 O w j rb s) :
  MO M1 80 [nP rb] w λ_ w'=>Le B O w w' j jr rb s xs (if xs.length=40 then .bad 0 3 else gZ kn r):=by
 obtain⟨T0,j6,i4⟩:=hR.bound;obtain⟨T,g7,h',l3,hT⟩:∃T,0<T/\jr<T/\jm<T/\∀b,O b<T:=⟨T0+jr+jm+1,by omega,by omega,by omega,λb=>by have:=i4 b;omega⟩
 clear j6 i4 T0;have f7:j<T:=by rw[<-h.tag];exact hT rb
 have b2:¬(λq:Nat=>q=j\/q=jr\/T<=q) 0:=λe=>by rcases e with e|e|e;exact hj e.symm;exact b0 e.symm;omega
 have j1:¬(λq:Nat=>q=j\/q=jr) 0:=λe=>by rcases e with e|e;exact hj e.symm;exact b0 e.symm
 have k5:(s.l.take m).length=m:=by simp;omega
 have k':=hr.length_le;rw[k5]at k';have c8:=Gz hr;rw[k5]at c8;have q0:=h.q0;have q2:=h.q2;rw[i7]at q2;have q3:=h.q3;rw[hbg]at q3;have q8:=h.q8;have k9:=f'.sl;apply L2 func80 ntmps80 rfl rfl;refine zg ?_;apply zv (RV.ld q8 rfl);refine zvG (RV.len (by first|exact k9) Pc rfl) ?_
 by_cases j8:xs.length=40
 ·rw[if_pos j8];apply aP rfl ((by rw[j8];rfl));have k7:w.drew.cell? ⟨rb,3,none⟩=some (nI ((m-r.length:Nat):Int)):=q3;refine zg ?_;apply ND 8 rfl rfl zk zk;refine zg ?_;apply zw (RV.ld k7 rfl);apply Pw;apply zc PT (bU O w.drew j rb s ((m-r.length:Nat):Int) 3 hj he h.drew);rintro v w1 ⟨f8,k3⟩;refine zg ?_;refine cG rfl ⟨O,s.ru,(Pf k3).mono (λ_ h=>.inl h) j1,hR.drew.upd k3,by decide,?_⟩;rw[show s.bg+((0:Nat):Int)=((m-r.length:Nat):Int)from by rw[hbg];simp];exact f8
 rw[if_neg j8];apply aI rfl ((beq_eq_false_iff_ne.2 zo));have hd:=h.drew;have d0:=hd.q0;have d2:=hd.q2;rw[i7]at d2;have d3:=hd.q3;rw[hbg]at d3;refine zg ?_;apply ND 16 rfl rfl zk zk;refine zg ?_;apply zwG (RV.ld d0 rfl);apply zwG (RV.ld d3 rfl);apply zw (RV.ld d2 rfl);apply zw (cf L8 rfl rfl rfl (m-r.length) m rfl rfl zo hm);apply Pw;rw[c8];apply zc call115 (nu r w.drew);rintro v w1 ⟨rfl,l7⟩;have i8:M6 (λ_=>False) O w.drew O w1:=ae (λh=>h) O l7;have f8:=hd.upd i8 hj (λh=>h);have j9:=f'.drew.upd i8 b0 (λh=>h);have j0:=hR.drew.upd i8;have e8:M6 (λq=>q=j\/T<=q) O w O w1:=Pf (i8.mono (λ_ h=>h.elim) (λe=>by rcases e with e|e;exact hj e.symm;omega));have e2:=f8.q2;rw[i7]at e2;have e3:=f8.q3;rw[hbg]at e3
 cases hf:r.findIdx? As with
 |none=>
  have hi:mO r = -1:=by unfold mO;rw[hf]
  have hM:gZ kn r=.bad r.length 4:=by unfold gZ;rw[hf]
  rw[hi,hM];refine zg ?_;apply aP rfl rfl;have l8:w1.drew.cell? ⟨rb,2,none⟩=some (nI (m:Int)):=e2;refine zg ?_;apply ND 8 rfl rfl zk zk;refine zg ?_;apply zw (RV.ld l8 rfl);apply Pw;apply zc PT (bU O w1.drew j rb s (m:Int) 4 hj he f8.drew);rintro v w2 ⟨l5,k2⟩;refine zg ?_;refine cG rfl ⟨O,s.ru,(e8.fgt (S':=λk=>k=j\/k=jr) (λb hb=>.inl (hb.resolve_right (by have:=hT b;omega))) j1).trans ((Pf k2).mono (λ_ h=>.inl h) j1),j0.drew.upd k2,by decide,?_⟩;rw[show s.bg+(r.length:Int)=(m:Int)from by rw[hbg];omega];exact l5
 |some k=>
  obtain⟨hk,m1,m0⟩:=M8.1 hf;have hi:mO r=(k:Nat):=by unfold mO;rw[hf]
  rw[hi];have j4:s.l[k+(m-r.length)]? = some (nth r k):=by
   have h1:(s.l.take m)[m-r.length+k]? = r[k]?:=by rw[<-c8,List.getElem?_drop,c8]
   rw[aB hk];exact nG (m:=m) (by rw[NV,h1];exact Mv hk)
  have f4:(s.l.take (k+(m-r.length))).drop (m-r.length)=r.take k:=by
   rw[<-c8,PI,List.take_take,Nat.min_eq_left zo,c8,NV]
  have h5:(s.l.take m).drop (k+(m-r.length)+1)=r.drop (k+1):=by
   rw[<-c8,NC,c8];congr 1;omega
  generalize i0:(((nth r k).toNat:Int)==47)=brk;refine zg ?_;apply zFG rfl ((decide_eq_false zo));apply zv (RV.ld e3 rfl);refine zvG (Qk rfl rfl (NW zo)) ?_;rw[show(k:Int)+((m-r.length:Nat):Int)=((k+(m-r.length):Nat):Int)from by omega];refine iO (λz:(Nat->Nat)×World×Nat×N3=>[(0,nP rb),(2,nI ((k+(m-r.length):Nat):Int)),(3,.pointer (some ⟨z.2.2.1,0,none⟩))]) (λz:(Nat->Nat)×World×Nat×N3=>z.2.1) (λz:(Nat->Nat)×World×Nat×N3=>N4 z.1 z.2.1 T z.2.2.1 (bP (z.2.2.2,(0,0,nS),brk)).toArray 122/\M6 (λq=>q=j\/T<=q) O w z.1 z.2.1/\Ns B z.1 z.2.1/\PostS z.1 z.2.1 j rb s (m-r.length) z.2.2.2 (pO kn (r.take k))) ?_ ?_
  ·intro Qm hN;apply aQ (λV=>V.cell? ⟨rb,0,none⟩=some (.string (bs s.l))/\V.cell? ⟨rb,3,none⟩=some (nI ((m-r.length:Nat):Int))) 19 rfl zk;refine zin ⟨f8.drew.q0,e3⟩ λzS=>?_
   apply zrm 0 rfl zS rfl;apply zrm 1 rfl zS rfl
   apply zr 2 rfl zS (λ_=>aq rfl);apply zrf 3 rfl zS rfl
   apply zrf 4 rfl zS rfl;apply zt 5 rfl zS (λw1 e5=>RV.ld e5.2 rfl)
   apply zrm 6 rfl zS rfl;apply zrm 8 rfl zS rfl
   apply zr 9 rfl zS (λ_=>aq rfl);apply zrf 10 rfl zS rfl
   apply zrf 11 rfl zS rfl;apply zt 12 rfl zS (λw1 e5=>RV.ld e5.1 rfl)
   apply zrm 13 rfl zS rfl;apply zr 14 rfl zS (λ_=>bD (c:=nth r k) L8 rfl rfl (k+(m-r.length)) rfl j4)
   apply zr 15 rfl zS (λ_=>RV.eql rfl rfl);rw[i0];refine bB 7 17 zk rfl rfl ?_ ?_
   ·apply zc Qq (rT B O w1.drew j rb s (m-r.length) (k+(m-r.length)) j0.drew hj he h2 g0 (j3.upd (P3 e8) h2 zo) zo zo hl f8.drew);rintro v w3 ⟨x1,rfl,h4,e4⟩;rw[f4]at e4;refine zg ?_
    apply aa (xi (hbg:=hbg) e4);apply zr 16 rfl (xi (hbg:=hbg) e4) (λ_=>MJ (cells:=(bP (x1,(0,0,nS),brk)).toArray) Cm (MG _) rfl rfl)
    apply L6 17 zk rfl;apply ar (j0.drew.upd h4) T zo (MG _) rfl
    intro xb w4 O4 d8 e0 i5 k6;have e1:=e4.upd e0 hj zo;refine zg ?_;apply aa (xi (hbg:=hbg) e1);apply L6 18 zk rfl;apply zsb (us:=(bP (x1,(0,0,nS),brk)).toArray) d8 (Mg _) (kM e4.one rfl);have f9:=d8.setRow (us:=(bP (x1,(0,0,nS),brk)).toArray);have d':M6 (λq=>q=T) O4 w4 O4 (w4.setRow xb (bP (x1,(0,0,nS),brk)).toArray):=L5 zo d8.tag rfl;have e':=e1.upd d' hj zo;refine zg ?_;apply aa (xi (hbg:=hbg) e');apply Md zk;exact dq (hN ((O4,_,xb,x1)) ⟨f9,(((P3 e8).trans (h4.pj g7)).trans (e0.pT hj g7 (LU _))).trans (d'.pT hj g7 (LU _)),i5.upd d',e'⟩) ⟨rfl,rfl,rfl,trivial⟩ rfl
   apply ar j0.drew T zo (MG _) rfl;intro xb w3 O3 g9 h4 g8 m2;have d7:=f8.drew.upd h4 hj zo;have f3:=d7.q3;rw[hbg]at f3;refine zg ?_
   apply aa ⟨d7.q0,f3⟩;apply L6 7 zk rfl
   apply zc Qq (rT B O3 w3 j rb s (m-r.length) (k+(m-r.length)) g8 hj he h2 g0 (j3.upd ((P3 e8).trans (h4.pT hj g7 (LU _))) h2 zo) zo zo hl d7);rintro v w4 ⟨x1,rfl,e0,e1⟩;rw[f4]at e1;have d8:=g9.upd e0 zo zo;refine zg ?_
   apply aa (xi (hbg:=hbg) e1);apply zr 16 rfl (xi (hbg:=hbg) e1) (λ_=>MJ (cells:=(bP (x1,(0,0,nS),brk)).toArray) Cm (MG _) rfl rfl)
   apply L6 18 zk rfl;apply zsb (us:=(bP (x1,(0,0,nS),brk)).toArray) d8 (Mg _) (kM e1.one rfl)
   have f9:=d8.setRow (us:=(bP (x1,(0,0,nS),brk)).toArray);have d':M6 (λq=>q=T) O3 w4 O3 (w4.setRow xb (bP (x1,(0,0,nS),brk)).toArray):=L5 zo d8.tag rfl;have e':=e1.upd d' hj zo;refine zg ?_;apply aa (xi (hbg:=hbg) e');apply Md zk;exact dq (hN ((O3,_,xb,x1)) ⟨f9,(((P3 e8).trans (h4.pT hj g7 (LU _))).trans (e0.pj g7)).trans (d'.pT hj g7 (LU _)),(g8.upd e0).upd d',e'⟩) ⟨rfl,rfl,rfl,trivial⟩ rfl
  rintro⟨O3,w3,xb,x1⟩ ⟨g9,g3,g8,e4⟩;dsimp only at g9 g3 g8 e4 ⊢;have f6:=f'.upd g3 b0 (λe=>by rcases e with e|e;exact e7 e.symm;omega);have hx1o:=e4.one;have g4:M6 (λq=>q=j\/q=jr\/T<=q) O w O3 w3:=g3.mono (λ_ h=>h.elim .inl (λh=>.inr (.inr h))) b2;refine zg ?_
  cases g':pO kn (r.take k)with
  |bad p e=>
   have hM:gZ kn r=.bad p e:=by unfold gZ;rw[hf];dsimp only;rw[g']
   rw[hM];rw[g']at e4;obtain⟨rfl,c9,d7⟩:=e4;replace d7:N4 O3 w3 j rb ({s with bad:=((m-r.length:Nat):Int)+(p:Int),e:=e}:LS).cells 114:=d7;refine zg ?_;refine zvG (RV.ld d7.q5 rfl) ?_;apply zFG rfl ((by simpa using c9));apply zv (ai (us:=aX ((0,0,nS):N3)) (jR g9) (M9 _) (L9 _) rfl);apply zc Qc (kV (.mk 0 0 []) (0,0,nS) w3 (Q7 _ _ _ _));rintro v w4 ⟨rfl,k6⟩;have i1:M6 (λ_=>False) O3 w3 O3 w4:=ae (λh=>h) O3 k6;have k1:=d7.upd i1 hj (λh=>h);have d8:=g9.upd i1 zo (λh=>h);have e6:=f6.upd i1 b0 (λh=>h);have i5:=g8.upd i1;have c5:=g4.trans (i1.mono (λ_ h=>h.elim) b2);refine zg ?_;refine zvG (RV.ld k1.q5 rfl) ?_;apply au (d:=98) rfl (b':=false) ((by simpa using c9));obtain⟨x1,hx1e⟩:∃x1:N3,x1=(0,0,nS):=⟨_,rfl⟩
   obtain⟨x2,hx2e⟩:∃x2:N3,x2=(0,0,nS):=⟨_,rfl⟩
   have hx2o:x2.2.2.oneCell'=true:=by rw[hx2e];rfl
   have hx1o:x1.2.2.oneCell'=true:=by rw[hx1e];rfl
   have j2:N4 O3 w4 T xb (bP (x1,x2,brk)).toArray 122:=by rw[hx1e,hx2e];exact d8
   have c':=(MP k1)
   have c6:=(MP j2)
   have a':=(NN e6)
   have e9:=(P4 i5)
   refine zg ?_;apply zFG rfl rfl
   apply aQ (λV=>∀(q:Nat) (u:ix),(bP (x1,x2,brk))[q]? = some u->V.cell? (nA xb q)=some u) 13 rfl zk;refine zin c6.cellsAdd λzS=>?_
   apply zrm 0 rfl zS rfl;apply zrm 1 rfl zS rfl
   apply zr 2 rfl zS (λ_=>aq rfl);apply zrf 3 rfl zS rfl
   apply zrf 4 rfl zS rfl;apply zt 6 rfl zS (λw1 e5=>ai (us:=bP (x1,x2,brk)) e5 (MH _) (Mg _) rfl)
   refine bB 5 7 zk rfl rfl ?_ ?_
   ·refine zvG (RV.ld c'.q8 rfl) ?_;apply aa c6.cellsAdd
    apply L6 7 zk rfl;apply aU elR (enc:=bP) (x1,x2,brk) rfl rfl rfl zd rfl
    intro w9 h9 d5;have a5:M6 (λ_=>False) O3 (MD w4) O3 w9:=ae (λh=>h) O3 d5;have c7:=c'.upd a5 hj (λh=>h);have b9:=c6.upd a5 zo (λh=>h);have a7:=a'.upd a5 b0 (λh=>h);have d4:=e9.upd a5;have b6:=(c5.drew).trans (a5.mono (λ_ h=>h.elim) b2);refine zg ?_;apply aa b9.cellsAdd;have a8:∀u∈[(x1,x2,brk)],∀c∈bP u,c.oneCell'=true:=λu hu=>by
     rw[ln.1 hu];exact bJ hx1o hx2o
    apply L6 8 zk rfl;apply aD elR a7 d4 h9 (by simp) rfl rfl (λ_ _=>rfl) a8 (by simp;omega) (by simp;omega) zo rfl
    intro a2 b1 O10 a0 a3 b8;have a4:=Mb c7 a3 hj zo;have a6:=Mb b9 a3 zo zo;have b4:=a0.one;refine zg ?_;refine zaf a6.cellsAdd λzS=>?_
    apply zr 9 rfl zS (λ_=>aq rfl);apply zrf 10 rfl zS rfl
    apply zrf 11 rfl zS rfl;apply L6 12 zk rfl
    apply ak (j:=8) a4 rfl (N8 _) b4 rfl rfl rfl;have b5:=a4.s_ru a2;have a1:M6 (λq=>q=j) O10 b1 O10 (b1.setCell ⟨rb,8,none⟩ a2):=MA (λe=>hj e.symm) a4.tag rfl;have b3:=a6.upd a1 zo zo;have a9:=a0.upd a1 b0 (λe=>e7 e.symm);have b7:=b8.upd a1;refine zg ?_
    apply aa b3.cellsAdd;apply Md zk
    have d1:M6 (λq=>q=j\/q=jr\/T<=q) O w O10 (b1.setCell ⟨rb,8,none⟩ a2):=(b6.trans (a3.mono (λ_ h=>.inr (.inl h)) b2)).trans (a1.mono (λ_ h=>.inl h) b2);refine aJ rfl ⟨lowT O10 T,a2,d1.lowT hT (λb hb=>by have:=hT b;rcases hb with h|h|h;exact .inl h;exact .inr h;omega) (λe=>by rcases e with e|e;exact hj e.symm;exact b0 e.symm),b7.lowT T,?_⟩;exact⟨c9,by rw[show s.bg+(p:Int)=((m-r.length:Nat):Int)+(p:Int)from by rw[hbg]];exact b5.lowT f7⟩
   apply aU elR (enc:=bP) (x1,x2,brk) rfl rfl rfl zd rfl;intro w9 h9 d5;have a5:M6 (λ_=>False) O3 (MD w4) O3 w9:=ae (λh=>h) O3 d5;have c7:=c'.upd a5 hj (λh=>h);have b9:=c6.upd a5 zo (λh=>h);have a7:=a'.upd a5 b0 (λh=>h);have d4:=e9.upd a5;have b6:=(c5.drew).trans (a5.mono (λ_ h=>h.elim) b2);refine zg ?_
   apply aa b9.cellsAdd;apply L6 5 zk rfl
   refine zvG (RV.ld c7.q8 rfl) ?_;apply aa b9.cellsAdd
   have a8:∀u∈[(x1,x2,brk)],∀c∈bP u,c.oneCell'=true:=λu hu=>by
    rw[ln.1 hu];exact bJ hx1o hx2o
   apply L6 8 zk rfl;apply aD elR a7 d4 h9 (by simp) rfl rfl (λ_ _=>rfl) a8 (by simp;omega) (by simp;omega) zo rfl
   intro a2 b1 O10 a0 a3 b8;have a4:=Mb c7 a3 hj zo;have a6:=Mb b9 a3 zo zo;have b4:=a0.one;refine zg ?_;refine zaf a6.cellsAdd λzS=>?_
   apply zr 9 rfl zS (λ_=>aq rfl);apply zrf 10 rfl zS rfl
   apply zrf 11 rfl zS rfl;apply L6 12 zk rfl
   apply ak (j:=8) a4 rfl (N8 _) b4 rfl rfl rfl;have b5:=a4.s_ru a2;have a1:M6 (λq=>q=j) O10 b1 O10 (b1.setCell ⟨rb,8,none⟩ a2):=MA (λe=>hj e.symm) a4.tag rfl;have b3:=a6.upd a1 zo zo;have a9:=a0.upd a1 b0 (λe=>e7 e.symm);have b7:=b8.upd a1;refine zg ?_
   apply aa b3.cellsAdd;apply Md zk
   have d1:M6 (λq=>q=j\/q=jr\/T<=q) O w O10 (b1.setCell ⟨rb,8,none⟩ a2):=(b6.trans (a3.mono (λ_ h=>.inr (.inl h)) b2)).trans (a1.mono (λ_ h=>.inl h) b2);refine aJ rfl ⟨lowT O10 T,a2,d1.lowT hT (λb hb=>by have:=hT b;rcases hb with h|h|h;exact .inl h;exact .inr h;omega) (λe=>by rcases e with e|e;exact hj e.symm;exact b0 e.symm),b7.lowT T,?_⟩;exact⟨c9,by rw[show s.bg+(p:Int)=((m-r.length:Nat):Int)+(p:Int)from by rw[hbg]];exact b5.lowT f7⟩
  |ok a=>
   rw[g']at e4;obtain⟨l2,d7⟩:=e4;replace d7:N4 O3 w3 j rb s.cells 114:=d7;have g2:=d7.q2;rw[i7]at g2;have g5:=d7.q5;rw[he]at g5;refine zg ?_;refine zvG (RV.ld g5 rfl) ?_;apply zTG rfl rfl;refine zvG (Qk rfl rfl (NW zo)) ?_;apply zv (RV.ld g2 rfl);rw[show((k+(m-r.length):Nat):Int)+1=((k+(m-r.length)+1:Nat):Int)from by omega];apply zc Qq (rT B O3 w3 j rb s (k+(m-r.length)+1) m g8 hj he h2 g0 (j3.upd g4 h2 zo) zo hm hl d7);rintro v w4 ⟨x2,rfl,e0,e1⟩;rw[h5]at e1;have hx2o:=e1.one;have d8:=g9.upd e0 zo zo;have e6:=f6.upd e0 b0 (λe=>e7 e.symm);have i5:=g8.upd e0;have j5:=g4.trans (e0.mono (λ_ h=>.inl h) b2);have l1:=l2.upd e0;refine zg ?_;apply lI 3 (us:=#[nI x2.1,nI x2.2.1,x2.2.2]) d8 (Nat.le_of_ble_eq_true rfl) (L9 _) (bX hx2o) rfl rfl rfl;rw[show((bP (x1,(0,0,nS),brk)).toArray.toList.take 3++(#[nI x2.1,nI x2.2.1,x2.2.2]:Array ix).toList++(bP (x1,(0,0,nS),brk)).toArray.toList.drop (3+(#[nI x2.1,nI x2.2.1,x2.2.2]:Array ix).size)).toArray=(bP (x1,x2,brk)).toArray from rfl];have f9:=d8.setRow (us:=(bP (x1,x2,brk)).toArray);have d':M6 (λq=>q=T) O3 w4 O3 (w4.setRow xb (bP (x1,x2,brk)).toArray):=L5 zo d8.tag rfl;have e':=e1.upd d' hj zo;have f5:=e6.upd d' b0 zo;have k4:=i5.upd d';have i3:=j5.trans (d'.mono (λ_ h=>.inr (.inr (Nat.le_of_eq h.symm))) b2);have l0:=l1.upd d';generalize w4.setRow xb (bP (x1,x2,brk)).toArray=w5 at *;refine zg ?_
   apply zv (ai (us:=aX x2) (jR f9) (M9 _) (L9 _) rfl)
   cases h6:pO kn (r.drop (k+1))with
   |bad p e=>
    have hM:gZ kn r=.bad (k+1+p) e:=by unfold gZ;rw[hf];dsimp only;rw[g'];dsimp only;rw[h6]
    rw[hM];rw[h6]at e';obtain⟨hx2e,c9,g1⟩:=e';replace g1:N4 O3 w5 j rb ({s with bad:=((k+(m-r.length)+1:Nat):Int)+(p:Int),e:=e}:LS).cells 114:=g1;apply zc Qc (kV (.mk 0 0 []) x2 w5 (by rw[hx2e];exact Q7 _ _ _ _));rintro v w6 ⟨rfl,j7⟩;have d9:M6 (λ_=>False) O3 w5 O3 w6:=ae (λh=>h) O3 j7;have h3:=g1.upd d9 hj (λh=>h);have i6:=f9.upd d9 zo (λh=>h);have d6:=f5.upd d9 b0 (λh=>h);have i':=k4.upd d9;have c5:=i3.trans (d9.mono (λ_ h=>h.elim) b2);refine zg ?_;refine zvG (RV.ld h3.q5 rfl) ?_;apply au (d:=98) rfl (b':=false) ((by simpa using c9));have c':=(MP h3)
    have c6:=(MP i6)
    have a':=(NN d6)
    have e9:=(P4 i')
    refine zg ?_;apply zFG rfl rfl
    apply aQ (λV=>∀(q:Nat) (u:ix),(bP (x1,x2,brk))[q]? = some u->V.cell? (nA xb q)=some u) 13 rfl zk;refine zin c6.cellsAdd λzS=>?_
    apply zrm 0 rfl zS rfl;apply zrm 1 rfl zS rfl
    apply zr 2 rfl zS (λ_=>aq rfl);apply zrf 3 rfl zS rfl
    apply zrf 4 rfl zS rfl;apply zt 6 rfl zS (λw1 e5=>ai (us:=bP (x1,x2,brk)) e5 (MH _) (Mg _) rfl)
    refine bB 5 7 zk rfl rfl ?_ ?_
    ·refine zvG (RV.ld c'.q8 rfl) ?_;apply aa c6.cellsAdd
     apply L6 7 zk rfl;apply aU elR (enc:=bP) (x1,x2,brk) rfl rfl rfl zd rfl
     intro w9 h9 d5;have a5:M6 (λ_=>False) O3 (MD w6) O3 w9:=ae (λh=>h) O3 d5;have c7:=c'.upd a5 hj (λh=>h);have b9:=c6.upd a5 zo (λh=>h);have a7:=a'.upd a5 b0 (λh=>h);have d4:=e9.upd a5;have b6:=(c5.drew).trans (a5.mono (λ_ h=>h.elim) b2);refine zg ?_;apply aa b9.cellsAdd;have a8:∀u∈[(x1,x2,brk)],∀c∈bP u,c.oneCell'=true:=λu hu=>by
      rw[ln.1 hu];exact bJ hx1o hx2o
     apply L6 8 zk rfl;apply aD elR a7 d4 h9 (by simp) rfl rfl (λ_ _=>rfl) a8 (by simp;omega) (by simp;omega) zo rfl
     intro a2 b1 O10 a0 a3 b8;have a4:=Mb c7 a3 hj zo;have a6:=Mb b9 a3 zo zo;have b4:=a0.one;refine zg ?_;refine zaf a6.cellsAdd λzS=>?_
     apply zr 9 rfl zS (λ_=>aq rfl);apply zrf 10 rfl zS rfl
     apply zrf 11 rfl zS rfl;apply L6 12 zk rfl
     apply ak (j:=8) a4 rfl (N8 _) b4 rfl rfl rfl;have b5:=a4.s_ru a2;have a1:M6 (λq=>q=j) O10 b1 O10 (b1.setCell ⟨rb,8,none⟩ a2):=MA (λe=>hj e.symm) a4.tag rfl;have b3:=a6.upd a1 zo zo;have a9:=a0.upd a1 b0 (λe=>e7 e.symm);have b7:=b8.upd a1;refine zg ?_
     apply aa b3.cellsAdd;apply Md zk
     have d1:M6 (λq=>q=j\/q=jr\/T<=q) O w O10 (b1.setCell ⟨rb,8,none⟩ a2):=(b6.trans (a3.mono (λ_ h=>.inr (.inl h)) b2)).trans (a1.mono (λ_ h=>.inl h) b2);refine aJ rfl ⟨lowT O10 T,a2,d1.lowT hT (λb hb=>by have:=hT b;rcases hb with h|h|h;exact .inl h;exact .inr h;omega) (λe=>by rcases e with e|e;exact hj e.symm;exact b0 e.symm),b7.lowT T,?_⟩;exact⟨c9,by rw[show s.bg+((k+1+p:Nat):Int)=((k+(m-r.length)+1:Nat):Int)+(p:Int)from by rw[hbg];omega];exact b5.lowT f7⟩
    apply aU elR (enc:=bP) (x1,x2,brk) rfl rfl rfl zd rfl;intro w9 h9 d5;have a5:M6 (λ_=>False) O3 (MD w6) O3 w9:=ae (λh=>h) O3 d5;have c7:=c'.upd a5 hj (λh=>h);have b9:=c6.upd a5 zo (λh=>h);have a7:=a'.upd a5 b0 (λh=>h);have d4:=e9.upd a5;have b6:=(c5.drew).trans (a5.mono (λ_ h=>h.elim) b2);refine zg ?_
    apply aa b9.cellsAdd;apply L6 5 zk rfl
    refine zvG (RV.ld c7.q8 rfl) ?_;apply aa b9.cellsAdd
    have a8:∀u∈[(x1,x2,brk)],∀c∈bP u,c.oneCell'=true:=λu hu=>by
     rw[ln.1 hu];exact bJ hx1o hx2o
    apply L6 8 zk rfl;apply aD elR a7 d4 h9 (by simp) rfl rfl (λ_ _=>rfl) a8 (by simp;omega) (by simp;omega) zo rfl
    intro a2 b1 O10 a0 a3 b8;have a4:=Mb c7 a3 hj zo;have a6:=Mb b9 a3 zo zo;have b4:=a0.one;refine zg ?_;refine zaf a6.cellsAdd λzS=>?_
    apply zr 9 rfl zS (λ_=>aq rfl);apply zrf 10 rfl zS rfl
    apply zrf 11 rfl zS rfl;apply L6 12 zk rfl
    apply ak (j:=8) a4 rfl (N8 _) b4 rfl rfl rfl;have b5:=a4.s_ru a2;have a1:M6 (λq=>q=j) O10 b1 O10 (b1.setCell ⟨rb,8,none⟩ a2):=MA (λe=>hj e.symm) a4.tag rfl;have b3:=a6.upd a1 zo zo;have a9:=a0.upd a1 b0 (λe=>e7 e.symm);have b7:=b8.upd a1;refine zg ?_
    apply aa b3.cellsAdd;apply Md zk
    have d1:M6 (λq=>q=j\/q=jr\/T<=q) O w O10 (b1.setCell ⟨rb,8,none⟩ a2):=(b6.trans (a3.mono (λ_ h=>.inr (.inl h)) b2)).trans (a1.mono (λ_ h=>.inl h) b2);refine aJ rfl ⟨lowT O10 T,a2,d1.lowT hT (λb hb=>by have:=hT b;rcases hb with h|h|h;exact .inl h;exact .inr h;omega) (λe=>by rcases e with e|e;exact hj e.symm;exact b0 e.symm),b7.lowT T,?_⟩;exact⟨c9,by rw[show s.bg+((k+1+p:Nat):Int)=((k+(m-r.length)+1:Nat):Int)+(p:Int)from by rw[hbg];omega];exact b5.lowT f7⟩
   |ok b=>
    rw[h6]at e';obtain⟨h8,g1⟩:=e';replace g1:N4 O3 w5 j rb s.cells 114:=g1;apply zc Qc (kV b x2 w5 h8.zero);rintro v w6 ⟨rfl,j7⟩;have d9:M6 (λ_=>False) O3 w5 O3 w6:=ae (λh=>h) O3 j7;have h3:=g1.upd d9 hj (λh=>h);have i6:=f9.upd d9 zo (λh=>h);have d6:=f5.upd d9 b0 (λh=>h);have i':=k4.upd d9;have i2:=i3.trans (d9.mono (λ_ h=>h.elim) b2);have k0:=l0.upd d9;have j':=h8.upd d9;have g6:=h3.q5;rw[he]at g6;refine zg ?_;refine zvG (RV.ld g6 rfl) ?_;apply au (d:=98) rfl (b':=true) rfl;refine zg ?_
    by_cases h0:dm b=0
    ·have hM:gZ kn r=.ok (a,b,brk):=by unfold gZ;rw[hf];dsimp only;rw[g'];dsimp only;rw[h6];dsimp only;rw[if_neg (by simpa using h0),i0]
     rw[hM];have c5:=i2;apply aI rfl ((by rw[h0];rfl));have c':=(MP h3)
     have c6:=(MP i6)
     have a':=(NN d6)
     have e9:=(P4 i')
     refine zg ?_;apply aQ (λV=>∀(q:Nat) (u:ix),(bP (x1,x2,brk))[q]? = some u->V.cell? (nA xb q)=some u) 13 rfl zk
     refine zin c6.cellsAdd λzS=>?_
     apply zrm 0 rfl zS rfl;apply zrm 1 rfl zS rfl
     apply zr 2 rfl zS (λ_=>aq rfl);apply zrf 3 rfl zS rfl
     apply zrf 4 rfl zS rfl;apply zt 6 rfl zS (λw1 e5=>ai (us:=bP (x1,x2,brk)) e5 (MH _) (Mg _) rfl)
     refine bB 5 7 zk rfl rfl ?_ ?_
     ·refine zvG (RV.ld c'.q8 rfl) ?_;apply aa c6.cellsAdd
      apply L6 7 zk rfl;apply aU elR (enc:=bP) (x1,x2,brk) rfl rfl rfl zd rfl
      intro w9 h9 d5;have a5:M6 (λ_=>False) O3 (MD w6) O3 w9:=ae (λh=>h) O3 d5;have c7:=c'.upd a5 hj (λh=>h);have b9:=c6.upd a5 zo (λh=>h);have a7:=a'.upd a5 b0 (λh=>h);have d4:=e9.upd a5;have b6:=(c5.drew).trans (a5.mono (λ_ h=>h.elim) b2);refine zg ?_;apply aa b9.cellsAdd;have a8:∀u∈[(x1,x2,brk)],∀c∈bP u,c.oneCell'=true:=λu hu=>by
       rw[ln.1 hu];exact bJ hx1o hx2o
      apply L6 8 zk rfl;apply aD elR a7 d4 h9 (by simp) rfl rfl (λ_ _=>rfl) a8 (by simp;omega) (by simp;omega) zo rfl
      intro a2 b1 O10 a0 a3 b8;have a4:=Mb c7 a3 hj zo;have a6:=Mb b9 a3 zo zo;have b4:=a0.one;refine zg ?_;refine zaf a6.cellsAdd λzS=>?_
      apply zr 9 rfl zS (λ_=>aq rfl);apply zrf 10 rfl zS rfl
      apply zrf 11 rfl zS rfl;apply L6 12 zk rfl
      apply ak (j:=8) a4 rfl (N8 _) b4 rfl rfl rfl;have b5:=a4.s_ru a2;have a1:M6 (λq=>q=j) O10 b1 O10 (b1.setCell ⟨rb,8,none⟩ a2):=MA (λe=>hj e.symm) a4.tag rfl;have b3:=a6.upd a1 zo zo;have a9:=a0.upd a1 b0 (λe=>e7 e.symm);have b7:=b8.upd a1;refine zg ?_
      apply aa b3.cellsAdd;apply Md zk
      have d1:M6 (λq=>q=j\/q=jr\/T<=q) O w O10 (b1.setCell ⟨rb,8,none⟩ a2):=(b6.trans (a3.mono (λ_ h=>.inr (.inl h)) b2)).trans (a1.mono (λ_ h=>.inl h) b2);refine aJ rfl ⟨lowT O10 T,a2,d1.lowT hT (λb hb=>by have:=hT b;rcases hb with h|h|h;exact .inl h;exact .inr h;omega) (λe=>by rcases e with e|e;exact hj e.symm;exact b0 e.symm),b7.lowT T,?_⟩;exact⟨(x1,x2,brk),a9.lowT h',⟨((((k0.drew).upd a5).upd a3).upd a1).weak (λb e=>kU e),((((j'.drew).upd a5).upd a3).upd a1).weak (λb e=>kU e),rfl⟩,b5.lowT f7⟩
     apply aU elR (enc:=bP) (x1,x2,brk) rfl rfl rfl zd rfl;intro w9 h9 d5;have a5:M6 (λ_=>False) O3 (MD w6) O3 w9:=ae (λh=>h) O3 d5;have c7:=c'.upd a5 hj (λh=>h);have b9:=c6.upd a5 zo (λh=>h);have a7:=a'.upd a5 b0 (λh=>h);have d4:=e9.upd a5;have b6:=(c5.drew).trans (a5.mono (λ_ h=>h.elim) b2);refine zg ?_
     apply aa b9.cellsAdd;apply L6 5 zk rfl
     refine zvG (RV.ld c7.q8 rfl) ?_;apply aa b9.cellsAdd
     have a8:∀u∈[(x1,x2,brk)],∀c∈bP u,c.oneCell'=true:=λu hu=>by
      rw[ln.1 hu];exact bJ hx1o hx2o
     apply L6 8 zk rfl;apply aD elR a7 d4 h9 (by simp) rfl rfl (λ_ _=>rfl) a8 (by simp;omega) (by simp;omega) zo rfl
     intro a2 b1 O10 a0 a3 b8;have a4:=Mb c7 a3 hj zo;have a6:=Mb b9 a3 zo zo;have b4:=a0.one;refine zg ?_;refine zaf a6.cellsAdd λzS=>?_
     apply zr 9 rfl zS (λ_=>aq rfl);apply zrf 10 rfl zS rfl
     apply zrf 11 rfl zS rfl;apply L6 12 zk rfl
     apply ak (j:=8) a4 rfl (N8 _) b4 rfl rfl rfl;have b5:=a4.s_ru a2;have a1:M6 (λq=>q=j) O10 b1 O10 (b1.setCell ⟨rb,8,none⟩ a2):=MA (λe=>hj e.symm) a4.tag rfl;have b3:=a6.upd a1 zo zo;have a9:=a0.upd a1 b0 (λe=>e7 e.symm);have b7:=b8.upd a1;refine zg ?_
     apply aa b3.cellsAdd;apply Md zk
     have d1:M6 (λq=>q=j\/q=jr\/T<=q) O w O10 (b1.setCell ⟨rb,8,none⟩ a2):=(b6.trans (a3.mono (λ_ h=>.inr (.inl h)) b2)).trans (a1.mono (λ_ h=>.inl h) b2);refine aJ rfl ⟨lowT O10 T,a2,d1.lowT hT (λb hb=>by have:=hT b;rcases hb with h|h|h;exact .inl h;exact .inr h;omega) (λe=>by rcases e with e|e;exact hj e.symm;exact b0 e.symm),b7.lowT T,?_⟩;exact⟨(x1,x2,brk),a9.lowT h',⟨((((k0.drew).upd a5).upd a3).upd a1).weak (λb e=>kU e),((((j'.drew).upd a5).upd a3).upd a1).weak (λb e=>kU e),rfl⟩,b5.lowT f7⟩
    have hM:gZ kn r=.bad (k+1) (dm b):=by unfold gZ;rw[hf];dsimp only;rw[g'];dsimp only;rw[h6];dsimp only;rw[if_pos (by simpa using h0)]
    rw[hM];apply zTG rfl ((by simpa using h0));refine zvG (Qk rfl rfl (NW zo)) ?_;apply zc PT (bU O3 w6 j rb s (((k+(m-r.length):Nat):Int)+1) (dm b) hj he h3);rintro v w7 ⟨l4,i9⟩;have k8:=i6.upd i9 zo zo;have h7:=d6.upd i9 b0 (λe=>e7 e.symm);have l6:=i'.upd i9;have c5:=i2.trans (i9.mono (λ_ h=>.inl h) b2);have c':=(MP l4)
    have c6:=(MP k8)
    have a':=(NN h7)
    have e9:=(P4 l6)
    refine zg ?_;apply aQ (λV=>∀(q:Nat) (u:ix),(bP (x1,x2,brk))[q]? = some u->V.cell? (nA xb q)=some u) 13 rfl zk
    refine zin c6.cellsAdd λzS=>?_
    apply zrm 0 rfl zS rfl;apply zrm 1 rfl zS rfl
    apply zr 2 rfl zS (λ_=>aq rfl);apply zrf 3 rfl zS rfl
    apply zrf 4 rfl zS rfl;apply zt 6 rfl zS (λw1 e5=>ai (us:=bP (x1,x2,brk)) e5 (MH _) (Mg _) rfl)
    refine bB 5 7 zk rfl rfl ?_ ?_
    ·refine zvG (RV.ld c'.q8 rfl) ?_;apply aa c6.cellsAdd
     apply L6 7 zk rfl;apply aU elR (enc:=bP) (x1,x2,brk) rfl rfl rfl zd rfl
     intro w9 h9 d5;have a5:M6 (λ_=>False) O3 (MD w7) O3 w9:=ae (λh=>h) O3 d5;have c7:=c'.upd a5 hj (λh=>h);have b9:=c6.upd a5 zo (λh=>h);have a7:=a'.upd a5 b0 (λh=>h);have d4:=e9.upd a5;have b6:=(c5.drew).trans (a5.mono (λ_ h=>h.elim) b2);refine zg ?_;apply aa b9.cellsAdd;have a8:∀u∈[(x1,x2,brk)],∀c∈bP u,c.oneCell'=true:=λu hu=>by
      rw[ln.1 hu];exact bJ hx1o hx2o
     apply L6 8 zk rfl;apply aD elR a7 d4 h9 (by simp) rfl rfl (λ_ _=>rfl) a8 (by simp;omega) (by simp;omega) zo rfl
     intro a2 b1 O10 a0 a3 b8;have a4:=Mb c7 a3 hj zo;have a6:=Mb b9 a3 zo zo;have b4:=a0.one;refine zg ?_;refine zaf a6.cellsAdd λzS=>?_
     apply zr 9 rfl zS (λ_=>aq rfl);apply zrf 10 rfl zS rfl
     apply zrf 11 rfl zS rfl;apply L6 12 zk rfl
     apply ak (j:=8) a4 rfl (N8 _) b4 rfl rfl rfl;have b5:=a4.s_ru a2;have a1:M6 (λq=>q=j) O10 b1 O10 (b1.setCell ⟨rb,8,none⟩ a2):=MA (λe=>hj e.symm) a4.tag rfl;have b3:=a6.upd a1 zo zo;have a9:=a0.upd a1 b0 (λe=>e7 e.symm);have b7:=b8.upd a1;refine zg ?_
     apply aa b3.cellsAdd;apply Md zk
     have d1:M6 (λq=>q=j\/q=jr\/T<=q) O w O10 (b1.setCell ⟨rb,8,none⟩ a2):=(b6.trans (a3.mono (λ_ h=>.inr (.inl h)) b2)).trans (a1.mono (λ_ h=>.inl h) b2);refine aJ rfl ⟨lowT O10 T,a2,d1.lowT hT (λb hb=>by have:=hT b;rcases hb with h|h|h;exact .inl h;exact .inr h;omega) (λe=>by rcases e with e|e;exact hj e.symm;exact b0 e.symm),b7.lowT T,?_⟩;exact⟨h0,by rw[show s.bg+((k+1:Nat):Int)=((k+(m-r.length):Nat):Int)+1 from by rw[hbg];omega];exact b5.lowT f7⟩
    apply aU elR (enc:=bP) (x1,x2,brk) rfl rfl rfl zd rfl;intro w9 h9 d5;have a5:M6 (λ_=>False) O3 (MD w7) O3 w9:=ae (λh=>h) O3 d5;have c7:=c'.upd a5 hj (λh=>h);have b9:=c6.upd a5 zo (λh=>h);have a7:=a'.upd a5 b0 (λh=>h);have d4:=e9.upd a5;have b6:=(c5.drew).trans (a5.mono (λ_ h=>h.elim) b2);refine zg ?_
    apply aa b9.cellsAdd;apply L6 5 zk rfl
    refine zvG (RV.ld c7.q8 rfl) ?_;apply aa b9.cellsAdd
    have a8:∀u∈[(x1,x2,brk)],∀c∈bP u,c.oneCell'=true:=λu hu=>by
     rw[ln.1 hu];exact bJ hx1o hx2o
    apply L6 8 zk rfl;apply aD elR a7 d4 h9 (by simp) rfl rfl (λ_ _=>rfl) a8 (by simp;omega) (by simp;omega) zo rfl
    intro a2 b1 O10 a0 a3 b8;have a4:=Mb c7 a3 hj zo;have a6:=Mb b9 a3 zo zo;have b4:=a0.one;refine zg ?_;refine zaf a6.cellsAdd λzS=>?_
    apply zr 9 rfl zS (λ_=>aq rfl);apply zrf 10 rfl zS rfl
    apply zrf 11 rfl zS rfl;apply L6 12 zk rfl
    apply ak (j:=8) a4 rfl (N8 _) b4 rfl rfl rfl;have b5:=a4.s_ru a2;have a1:M6 (λq=>q=j) O10 b1 O10 (b1.setCell ⟨rb,8,none⟩ a2):=MA (λe=>hj e.symm) a4.tag rfl;have b3:=a6.upd a1 zo zo;have a9:=a0.upd a1 b0 (λe=>e7 e.symm);have b7:=b8.upd a1;refine zg ?_
    apply aa b3.cellsAdd;apply Md zk
    have d1:M6 (λq=>q=j\/q=jr\/T<=q) O w O10 (b1.setCell ⟨rb,8,none⟩ a2):=(b6.trans (a3.mono (λ_ h=>.inr (.inl h)) b2)).trans (a1.mono (λ_ h=>.inl h) b2);refine aJ rfl ⟨lowT O10 T,a2,d1.lowT hT (λb hb=>by have:=hT b;rcases hb with h|h|h;exact .inl h;exact .inr h;omega) (λe=>by rcases e with e|e;exact hj e.symm;exact b0 e.symm),b7.lowT T,?_⟩;exact⟨h0,by rw[show s.bg+((k+1:Nat):Int)=((k+(m-r.length):Nat):Int)+1 from by rw[hbg];omega];exact b5.lowT f7⟩
end
def bF(seg:List UInt8):List UInt8:=seg.takeWhile (λb=>!(b==35))
def bj(seg:List UInt8):List UInt8:=aw (bF seg)
theorem Be{seg:List UInt8}(h:seg.findIdx? (· == 35)=some k):bF seg=seg.take k/\k<=seg.length:=by
 obtain⟨hk,h1,h2⟩:=M8.1 h;refine⟨?_,zo⟩;unfold bF;have e:seg=seg.take k++seg.drop k:=(Mn k seg).symm
 conv=>lhs;rw[e]
 rw[List.takeWhile_append_of_pos]
 ·rw[Mh hk,NA (by simpa using h1),LQ]
 intro x hx;obtain⟨i,hi,rfl⟩:=P7 hx;simp only[Np]at hi;have:=h2 i zo;simp only[Pj];simpa using this
theorem eL{p:UInt8->Bool}:∀ {l:List UInt8},(∀x∈l,p x=true)->l.takeWhile p=l
 |[],_=>rfl
 |a::l,h=>by rw[List.takeWhile_cons_of_pos (h a (by simp)),eL λx hx=>h x (by simp[hx])]
theorem Bf{seg:List UInt8}(h:seg.findIdx? (· == 35)=none):bF seg=seg:=by
 have h1:=Mt.1 h;exact eL λx hx=>by simpa using h1 x hx
def dz(r:List UInt8):List UInt8:=r.takeWhile (λb=>!(b==10))
def RowsT(O:Nat->Nat)(w:L0)(jr:Nat)(rv:ix)(ts:List R3)(xs:List X3):Prop:=
 NF bP 122 7 O w jr rv xs/\ts.length=xs.length/\xs.length<=40/\∀i,i<xs.length->Rt O w (nth ts i) (nth xs i)
theorem RowsT.push{jr:Nat}{rv:ix}{ts:List R3}{xs:List X3}{t:R3}{x:X3}(hr:NF bP 122 7 O w jr rv (xs++[x]))(h1:ts.length=xs.length)(h2:xs.length<40)(h3:∀i,i<xs.length->Rt O w (nth ts i) (nth xs i))(h4:Rt O w t x):RowsT O w jr rv (ts++[t]) (xs++[x]):=by
 refine⟨hr,by simp[h1],by simp;omega,λi hi=>?_⟩;simp only[LV,L4]at hi
 by_cases e:i<xs.length
 ·rw[aB (by simp;omega),aB (by simp;omega),NI zo,NI e,<-aB zo,<-aB e];exact h3 i e
 obtain rfl:i=xs.length:=zo;rw[aB (by simp;omega),aB (by simp),NH zo,NH zo];simp[h1];exact h4
theorem AO(h:r.findIdx? (· == 10)=some k):(dz r).length=k:=by
 obtain⟨hk,h1,h2⟩:=M8.1 h;unfold dz;have e:r=r.take k++r.drop k:=(Mn k r).symm;have e2:(r.take k).takeWhile (λb=>!(b==10))=r.take k:=eL λx hx=>by
  obtain⟨i,hi,rfl⟩:=P7 hx;simp only[Np]at hi;have:=h2 i zo;simp only[Pj];simpa using this
 conv=>lhs;rw[e]
 rw[List.takeWhile_append,e2,if_pos rfl,Mh hk,NA (by simpa using h1),LQ];simp;omega
theorem AP(h:r.findIdx? (· == 10)=none):dz r=r:=
 eL λx hx=>by simpa using Mt.1 h x hx
theorem uV(l:List UInt8)(fr:Nat):(l.take (fr+(dz (l.drop fr)).length)).drop fr=dz (l.drop fr):=by
 have h1:dz (l.drop fr)=(l.drop fr).take (dz (l.drop fr)).length:=List.prefix_iff_eq_take.1 (List.takeWhile_prefix _)
 conv=>rhs;rw[h1]
 rw[PI]
abbrev Am(ig kp ru:ix):ix:=.agg #[ig,kp,ru]
abbrev tE:ix:=nS
theorem Km:cE M1 56 #[(0,1),(1,1),(2,1)]:=⟨_,underlying56,λw=>by kernel_rfl⟩
theorem KO:cE M1 111 #[(0,1),(1,1),(2,1),(3,1),(4,1),(5,1)]:=⟨_,underlying111,λw=>by kernel_rfl⟩
theorem KN:cE M1 114 #[(0,6),(6,3),(9,1),(10,1),(11,1)]:=⟨_,underlying114,λw=>by kernel_rfl⟩
theorem BB{a b c:ix}(h6:w.cell? ⟨rb,6,none⟩=some a)(h7:w.cell? ⟨rb,7,none⟩=some b)(h8:w.cell? ⟨rb,8,none⟩=some c):∀(q:Nat) (u:ix),[a,b,c][q]? = some u->w.cell? ((nA rb 6).add q)=some u:=λq u hu=>by
 have e:((nA rb 6).add q)=⟨rb,6+q,none⟩:=by
  simp only[Nb];(repeat' split)<;>simp_all
 rw[e]
 match q,hu with
 |0,hu=>obtain rfl:=Nf hu;exact h6
 |1,hu=>obtain rfl:=Nf hu;exact h7
 |2,hu=>obtain rfl:=Nf hu;exact h8
def Gl(l:List Int)(i:Nat):Bool:=(decide (nth l i<0)||decide (36<=nth l i))||(decide ((0:Int)<(i:Int))&&decide (nth l i<=nth l (i-1)))
def kP(l:List Int):Bool:=!(jj (Gl l) l.length)
def rY(t:R3):Bool:=(bp t.1&&bp t.2.1)&&(dm t.2.1==0)
def Kq(ts:List R3):Bool:=!(jj (λi=>!(rY (nth ts i))) ts.length)
def eW(li lk:List Int)(ts:List R3):Bool:=((decide ((ts.length:Int)<=40)&&kP li)&&kP lk)&&Kq ts
theorem mh:namesL.length=36:=rfl
theorem uw(l:List Int)(sv:ix)(w:L0)(h:Sl (λc:Int=>[nI c]) 1 w sv l):MO M1 49 [sv] w λv w'=>v=.bool (kP l)/\w'=w:=by
 have a5:=h.len_le;apply L2 func49 ntmps49 rfl rfl;refine zh ?_;apply zlp (λx:Nat=>[(0,sv),(5,sv),(6,nI l.length),(7,nI x)]) (λx=>w) (λx=>x<=l.length/\∀i,i<x->Gl l i=false) (λx=>l.length-x) 0 ⟨LO _,λi hi=>absurd hi (M7 i)⟩;rintro k ⟨hk,a3⟩;refine zh ?_;refine zC ?_ ?_
 ·intro a0;replace a0:k<l.length:=dT a0;refine zh ?_;refine zvH (RV.ld (h.ld a0) rfl) ?_;refine ct (λw1=>_=w1) (decide (36<=nth l k)) 2 rfl rfl rfl rfl rfl rfl ?_ ?_
  ·intro a1;refine zh ?_;refine nE 14 3 rfl a1
  rintro _ rfl;refine zh ?_;refine ct (λw1=>_=w1) ((decide ((0:Int)<(k:Int))&&decide (nth l k<=nth l (k-1)))) 11 rfl rfl rfl rfl rfl rfl ?_ ?_
  ·intro a2;refine zh ?_
   cases a6:decide ((0:Int)<(k:Int))with
   |true=>
    have a7:=of_decide_eq_true a6;apply au (d:=21) rfl (b':=true) rfl;refine zh ?_;rw[show(k:Int)-1=((k-1:Nat):Int)from by omega];refine zh ?_;refine zvH (RV.ld (h.ld (i:=k-1) zo) rfl) ?_;refine nE 18 13 rfl a2
   |false=>
    apply au (d:=21) rfl (b':=false) rfl;refine zh ?_
    refine nE 18 13 rfl a2
  rintro _ rfl;refine zh ?_;refine zC ?_ ?_
  ·intro hy;refine zh ?_;refine af rfl rfl ⟨by unfold kP;rw[eD.2 ⟨k,a0,hy⟩];rfl,rfl⟩
  intro hy;refine zh ?_;refine zxd (k+1) ⟨a0,λi hi=>(M5.1 hi).elim (a3 i) (λe=>by rw[e];exact hy)⟩
 intro a4;replace a4:l.length<=k:=dF a4;refine zh ?_;refine af rfl rfl ⟨by unfold kP;rw[bK.2 λi hi=>a3 i zo];rfl,rfl⟩
abbrev nr(x:X3):ix:=.agg (bP x).toArray
theorem gz{x:X3}(h:N4 O w i b (bP x).toArray E):(∀W,Ms w W->∀(q:Nat) (u:ix),(aX x.1)[q]? = some u->W.cell? (nA b q)=some u)/\(∀W,Ms w W->∀(q:Nat) (u:ix),(aX x.2.1)[q]? = some u->W.cell? ((nA b 3).add q)=some u)/\(∀W,Ms w W->W.cell? (nA b 6)=some (.bool x.2.2))/\(∀W,Ms w W->∀(q:Nat) (u:ix),(bP x)[q]? = some u->W.cell? (nA b q)=some u):=by
 obtain⟨x1,x2,brk⟩:=x;refine⟨λW hE q u hu=>hE.cell (h.cellsAdd q u ?_),λW hE q u hu=>hE.cell (jR h q u hu),λW hE=>hE.cell (h.cellsAdd 6 _ rfl),λW hE q u hu=>hE.cell (h.cellsAdd q u hu)⟩;simp only[aX]at hu
 match q,hu with
 |0,hu=>exact hu
 |1,hu=>exact hu
 |2,hu=>exact hu
theorem Rt.ext{O:Nat->Nat}{w w':L0}{t:R3}{x:X3}(h:Rt O w t x)(e:Ms w w'):Rt O w' t x:=⟨h.1.ext e,h.2.1.ext e,h.2.2⟩
theorem Ay(t:R3)(x:X3)(w:L0)(h:Rt (λ_=>0) w t x):MO M1 52 [nr x] w λv w'=>v=.bool (rY t)/\Ms w w':=by
 have hx1o:=h.1.one;have hx2o:=h.2.1.one;have a7:=bJ (b:=x.2.2) hx1o hx2o;apply L2 func52 ntmps52 rfl rfl;refine zh ?_;apply aN (ax w) 1 zo rfl rfl;intro xb w1 O1 a6 a8 a9 a4;obtain⟨lc,rc,bc,_⟩:=gz a6;refine zh ?_;apply zv (ai (us:=aX x.1) (lc w1 (L3 _)) (M9 _) (L9 _) rfl);apply zc call83 (fZ t.1 x.1 w1 (h.1.ext a4));rintro v w2 ⟨rfl,a3⟩;refine zh ?_;refine aT (Ms w1) (bp t.2.1) 3 a3 rfl rfl rfl rfl rfl ?_ ?_
 ·intro a1;refine zh ?_;refine zvH (ai (us:=aX x.2.1) (rc _ a3) (M9 _) (L9 _) rfl) ?_;apply zc call83 (fZ t.2.1 x.2.1 _ (h.2.1.ext (a4.trans a3)));rintro v w3 ⟨rfl,a0⟩;refine zh ?_;refine nE 6 4 (a3.trans a0) a1
 intro w3 a0;refine zh ?_;refine aT (Ms w1) ((dm t.2.1==0)) 4 a0 rfl rfl rfl rfl rfl ?_ ?_
 ·intro a2;refine zh ?_;refine zvH (ai (us:=aX x.2.1) (rc _ a0) (M9 _) (L9 _) rfl) ?_;apply zc Qc (kV t.2.1 x.2.1 _ (h.2.1.ext (a4.trans a0)));rintro v w4 ⟨rfl,a5⟩;refine zh ?_;refine nE 11 5 (a0.trans a5) a2
 intro w4 a5;refine zh ?_;refine af rfl rfl ⟨rfl,a4.trans a5⟩
theorem AA(t:R3)(x:X3)(w:L0)(h:Rt (λ_=>0) w t x):MO M1 51 [nr x] w λv w'=>v=.bool (!(rY t))/\Ms w w':=by
 have hx1o:=h.1.one;have hx2o:=h.2.1.one;have a2:=bJ (b:=x.2.2) hx1o hx2o;apply L2 func51 ntmps51 rfl rfl;refine zh ?_;apply aN (ax w) 1 zo rfl rfl;intro xb w1 O1 a1 a4 a5 a0;obtain⟨_,_,_,ac⟩:=gz a1;refine zh ?_;apply zv (ai (us:=bP x) (ac w1 (L3 _)) (MH _) (Mg _) rfl);apply zc call52 (Ay t x w1 (h.ext a0));rintro v w2 ⟨rfl,a3⟩;refine zh ?_;refine af rfl rfl ⟨rfl,a0.trans a3⟩
theorem mr(hF:∀(args:Array ix) (w:L0),(callFunc F args).run M1 w=.ok (.enter F args) w)(cs:Array ix)(l:List X3)(sv:ix)(q:Nat->Bool)(w:L0)(h:Sl bP 7 w sv l) 
  (hq:∀i,i<l.length->∀w',Ms w w'->MO M1 F ([nr (nth l i)]++cs.toList) w' λv w''=>v=.bool (q i)/\Ms w' w'') :
  MO M1 82 [sv,.func (.func F) #[] cs] w λv w'=>v=nI (ed q l.length)/\Ms w w':=by
 have hl:=h.len_le;apply L2 func82 ntmps82 rfl rfl;refine zh ?_;apply zlp (λx:Nat×L0=>[(0,sv),(1,.func (.func F) #[] cs),(7,nI l.length),(8,nI x.1)]) (λx=>x.2) (λx=>x.1<=l.length/\Ms w x.2/\∀i,i<x.1->q i=false) (λx=>l.length-x.1) (0,w) ⟨LO _,L3 _,λi hi=>absurd hi (M7 i)⟩;rintro⟨k,w1⟩ ⟨hk,hE,a1⟩;dsimp only at hk hE a1 ⊢;have h1:=h.ext hE;refine zh ?_;refine zC ?_ ?_
 ·intro a0;replace a0:k<l.length:=dT a0;refine zh ?_;apply zv (ai (us:=bP (nth l k)) (λj u hu=>h1.cell a0 hu) (MH _) (Mg _) rfl);apply dk rfl hF rfl (hq k a0 w1 hE) rfl;rintro v w2 ⟨rfl,a3⟩;refine zh ?_;refine zC ?_ ?_
  ·intro hy;refine zh ?_;refine af rfl rfl ⟨by rw[cR a0 hy a1],hE.trans a3⟩
  intro hy;refine zh ?_;refine zxd (k+1,w2) ⟨a0,hE.trans a3,λi hi=>(M5.1 hi).elim (a1 i) (λe=>by rw[e];exact hy)⟩
 intro a2;replace a2:l.length<=k:=dF a2;refine zh ?_;refine af rfl rfl ⟨by rw[cQ λi hi=>a1 i zo],hE⟩
theorem jv(hF:∀(args:Array ix) (w:L0),(callFunc F args).run M1 w=.ok (.enter F args) w)(cs:Array ix)(l:List X3)(sv:ix)(q:Nat->Bool)(w:L0)(h:Sl bP 7 w sv l) 
  (hq:∀i,i<l.length->∀w',Ms w w'->MO M1 F ([nr (nth l i)]++cs.toList) w' λv w''=>v=.bool (q i)/\Ms w' w'') :
  MO M1 50 [sv,.func (.func F) #[] cs] w λv w'=>v=.bool (jj q l.length)/\Ms w w':=by
 apply L2 func50 ntmps50 rfl rfl;refine zh ?_
 apply zc call82 (mr hF cs l sv q w h hq);rintro v w1 ⟨rfl,hE⟩;refine zh ?_
 refine af rfl rfl ⟨by rw[firstN_any],hE⟩
theorem qz(li lk:List Int)(ts:List R3)(xs:List X3)(ig kp ru:ix)(w:L0)(hi:Sl (λc:Int=>[nI c]) 1 w ig li)(hk:Sl (λc:Int=>[nI c]) 1 w kp lk)(hr:Sl bP 7 w ru xs)(hl:ts.length=xs.length)(hx:∀i,i<xs.length->Rt (λ_=>0) w (nth ts i) (nth xs i)):
  MO M1 24 [Am ig kp ru] w λv w'=>v=.bool (eW li lk ts)/\Ms w w':=by
 have b0:=hi.one;have a':=hk.one;have a9:=hr.one;apply L2 func24 ntmps24 rfl rfl;refine zh ?_;apply aN (ax w) 1 zo rfl rfl;intro xb w1 O1 a5 b1 b2 a4;have c0:w1.cell? (nA xb 0)=some ig:=a5.cell 0 rfl;have c1:w1.cell? (nA xb 1)=some kp:=a5.cell 1 rfl;have c2:w1.cell? (nA xb 2)=some ru:=a5.cell 2 rfl;have a7:=hr.ext a4;refine zh ?_;refine aT (λw1=>_=w1) (kP li) 3 rfl rfl rfl rfl rfl rfl ?_ ?_
 ·intro a1;refine zh ?_;apply zc call49 (uw li ig w1 (hi.ext a4));rintro v w9 ⟨rfl,a0⟩;rw[a0];clear a0 w9;refine zh ?_;refine nE 7 4 rfl a1
 rintro _ rfl;refine zh ?_;refine aT (λw1=>_=w1) (kP lk) 3 rfl rfl rfl rfl rfl rfl ?_ ?_
 ·intro a2;refine zh ?_;apply zc call49 (uw lk kp w1 (hk.ext a4));rintro v w9 ⟨rfl,a0⟩;rw[a0];clear a0 w9;refine zh ?_;refine nE 12 4 rfl a2
 rintro _ rfl;refine zh ?_;have a8:Kq ts = !(jj (λi=>!(rY (nth ts i))) xs.length):=by unfold Kq;rw[hl]
 refine aT (Ms w1) ((!(jj (λi=>!(rY (nth ts i))) xs.length))) 4 (L3 w1) rfl rfl rfl rfl rfl ?_ ?_
 ·intro a3;refine zh ?_;apply zc call50 (jv call51 #[] xs ru (λi=>!(rY (nth ts i))) w1 a7 (λi hi w' hE=>AA (nth ts i) (nth xs i) w' ((hx i hi).ext (a4.trans hE))));rintro v w2 ⟨rfl,a6⟩;refine zh ?_;refine nE 17 5 a6 a3
 intro w2 a6;refine zh ?_;refine af rfl rfl ⟨by unfold eW;rw[hl,a8],a4.trans a6⟩
mutual
def ju:Nd->Nd->Bool
 |.mk k c l,.mk k' c' l'=>((k==k')&&(c==c'))&&ns l l'
def ns:List Nd->List Nd->Bool
 |[],[]=>true
 |a::l,b::l'=>ju a b&&ns l l'
 |[],_::_=>false
 |_::_,[]=>false
end
def vU(q:Nat->Bool)(n:Nat):Bool:=!(jj (λi=>!(q i)) n)
theorem fj:vU q n=true↔∀i,i<n->q i=true:=by
 unfold vU;rw[Pm,bK];simp
theorem tn(h:∀i,i<n->q i=true):vU q n=true:=fj.2 h
theorem yp(hk:k<n)(h:q k=false):vU q n=false:=by
 cases hq:vU q n with
 |false=>rfl
 |true=>exact absurd (fj.1 hq k hk) (by rw[h];decide)
theorem yZ:∀(l l':List Nd),ns l l'=(decide (l.length=l'.length)&&vU (λi=>ju (nth l i) (nth l' i)) l.length)
 |[],[]=>rfl
 |a::l,[]=>by simp[ns]
 |[],b::l'=>by simp[ns]
 |a::l,b::l'=>by
  have ih:=yZ l l';rw[ns,ih,PD];simp only[L1,decide_eq_true_eq,fj,LW,Nat.add_right_cancel_iff]
  constructor
  ·rintro⟨h1,h2,h3⟩;refine⟨h2,λi hi=>?_⟩
   cases i with
   |zero=>rw[ao,ao];exact h1
   |succ i=>rw[aS,aS];exact h3 i zo
  rintro⟨h1,h2⟩;refine⟨by have:=h2 0 zo;rwa[ao,ao]at this,h1,λi hi=>?_⟩;have:=h2 (i+1) zo
  rwa[aS,aS]at this
mutual
theorem kL:∀(t s:Nd),ju t s=true->t=s
 |.mk k c l,.mk k' c' l',h=>by
  simp only[ju,L1,beq_iff_eq]at h
  obtain⟨⟨rfl,rfl⟩,h⟩:=h
  rw[yY l l' h]
theorem yY:∀(l l':List Nd),ns l l'=true->l=l'
 |[],[],_=>rfl
 |a::l,[],h=>by simp[ns]at h
 |[],b::l',h=>by simp[ns]at h
 |a::l,b::l',h=>by
  simp only[ns,L1]at h
  rw[kL a b h.1,yY l l' h.2]
end
mutual
theorem qw:∀(t:Nd),ju t t=true
 |.mk k c l=>by simp only[ju,L1,beq_self_eq_true,qx l,and_self]
theorem qx:∀(l:List Nd),ns l l=true
 |[]=>rfl
 |a::l=>by simp only[ns,qw a,qx l,Bool.and_self]
end
theorem ow:∀(n:Nat) (t:Nd),nsz t<=n->∀(x:N3) (w:L0) (fJ:Nat),Nt (λ_=>0) w t x->fJ<=1000000->MO M1 146 [nv x,nI (fJ:Int)] w λv w'=>v=nI ((min (nsz t) (fJ+1):Nat):Int)/\Ms w w'
 |0,t,hn=>by have:=dd t;omega
 |n+1,.mk k c kids,hn=>by
  intro x w fJ h hm;obtain⟨xs,hs,hf,hl,hk⟩:=h.kids;simp only[QD]at hl hk;have b4:=ey kids;simp only[nsz]at hn ⊢;have a9:=hs.len_le;apply L2 func146 ntmps146 rfl rfl;refine zh ?_;apply aN (ax w) 1 zo rfl rfl;intro xb w1 O1 a5 b7 b8 a3;have c2:w1.cell? (nA xb 2)=some x.2.2:=a5.cell 2 rfl;have a8:=hs.ext a3;refine zh ?_;apply zlp (λy:Nat×L0=>[(1,nI (fJ:Int)),(2,nP xb),(5,nI ((min (dI (kids.take y.1)+1) (fJ+1):Nat):Int)),(6,nI y.1)]) (λy=>y.2) (λy=>y.1<=xs.length/\Ms w1 y.2) (λy=>xs.length-y.1) (0,w1) ⟨LO _,L3 _⟩;rintro⟨i,w2⟩ ⟨hi,a0⟩;dsimp only at hi a0 ⊢;have a7:=a8.ext a0;have d2:=a0.cell c2;have a6:=cJ kids i;refine zh ?_;refine aT (λw1=>_=w1) (decide (((min (dI (kids.take i)+1) (fJ+1):Nat):Int)<=(fJ:Int))) 3 rfl rfl rfl rfl rfl rfl ?_ ?_
  ·intro a1;refine zh ?_;refine nE 12 4 rfl a1
  rintro _ rfl;refine zh ?_;refine zC ?_ ?_
  ·intro hc;simp only[L1,decide_eq_true_eq]at hc;obtain⟨b6,b5⟩:=hc;have a2:i<xs.length:=zo;have b2:=dV kids i zo;have b1:=cJ kids (i+1);have a4:=(hk i a2).ext (a3.trans a0);have b0:=a4.one;have b3:=bM kids i zo;refine zh ?_;refine zvH (ai (us:=aX (nth xs i)) (λj u hu=>a7.cell a2 hu) (isAgg96 _) (sizeOf96 _) rfl) ?_;rw[show(fJ:Int)-((min (dI (kids.take i)+1) (fJ+1):Nat):Int)=((fJ-(dI (kids.take i)+1):Nat):Int)from by omega];apply zc call146 (ow n (nth kids i) zo (nth xs i) w2 (fJ-(dI (kids.take i)+1)) a4 zo);rintro v w5 ⟨rfl,a'⟩;refine zh ?_;rw[show((min (dI (kids.take i)+1) (fJ+1):Nat):Int)+((min (nsz (nth kids i)) (fJ-(dI (kids.take i)+1)+1):Nat):Int)=((min (dI (kids.take (i+1))+1) (fJ+1):Nat):Int)from by omega];refine zxd (i+1,w5) ⟨a2,a0.trans a'⟩
  intro hc;simp only[Bool.and_eq_false_iff,decide_eq_false_iff_not]at hc;have he:min (dI (kids.take i)+1) (fJ+1)=min (dI kids+1) (fJ+1):=by
   rcases hc with hc|hc
   ·obtain rfl:i=xs.length:=zo;rw[<-hl,ME]
   omega
  refine zh ?_;refine af rfl rfl ⟨by rw[he],a3.trans a0⟩
theorem sU{F:Pl}(hF:∀(args:Array ix) (w:L0),(callFunc F args).run M1 w=.ok (.enter F args) w)(l1 l2:List (N3))(v1 v2:ix)(q:Nat->Bool)(w:L0)(h1:Sl aX 3 w v1 l1)(h2:Sl aX 3 w v2 l2)(b1:∀i,i<l1.length->∀c∈aX (nth l1 i),c.oneCell'=true)(b0:∀i,i<l2.length->∀c∈aX (nth l2 i),c.oneCell'=true) 
  (hq:∀i,i<l1.length->i<l2.length->∀w',Ms w w'->MO M1 F [nv (nth l1 i),nv (nth l2 i)] w' fun v w''=>v=.bool (q i)/\Ms w' w'') :
  MO M1 119 [v1,v2,.func (.func F) #[] #[]] w fun v w'=>v=.bool (decide (l1.length=l2.length)&&vU q l1.length)/\Ms w w':=by
 have c6:=h1.len_le;have c5:=h2.len_le;refine L2 func119 ntmps119 rfl rfl ?_;refine zh ?_
 by_cases hl:l1.length=l2.length
 ·refine zFH rfl ((by rw[hl];simp)) ?_;refine zlp (fun y:Nat×L0=>[(1,v2),(2,.func (.func F) #[] #[]),(15,v1),(16,nI l1.length),(17,nI y.1)]) (fun y=>y.2) (fun y=>y.1<=l1.length/\Ms w y.2/\∀i,i<y.1->q i=true) (fun y=>l1.length-y.1) (0,w) (⟨LO _,L3 _,fun i hi=>absurd hi (M7 i)⟩) ?_
  rintro⟨k,w1⟩ ⟨hk,hE,a0⟩;dsimp only at hk hE a0 ⊢;have g1:=h1.ext hE;have g2:=h2.ext hE;refine zh ?_;refine zC ?_ ?_
  ·intro a2;replace a2:k<l1.length:=dT a2;have a1:k<l2.length:=zo;have o1:=b1 k a2;have o2:=b0 k a1;refine zh ?_;refine zv (ai (us:=aX (nth l1 k)) (fun j u hu=>g1.cell a2 hu) (M9 _) (L9 _) rfl) ?_;refine ar (ax w1) 1 zo (MU _) rfl ?_;intro ab w2 O2 a6 b7 b9 c9;refine zh ?_;refine zsb (us:=(aX (nth l1 k)).toArray) a6 (L9 _) (MF.2 o1) ?_;have b4:=a6.setRow (us:=(aX (nth l1 k)).toArray);have a9:M6 (fun j=>j=1) O2 w2 O2 (w2.setRow ab (aX (nth l1 k)).toArray):=L5 zd a6.tag rfl;have b8:=b9.upd a9;have a4:=b7.trans a9;generalize w2.setRow ab (aX (nth l1 k)).toArray=w3 at *;have b':=g2.ext a4.ext;refine zh ?_;refine zv (ai (us:=aX (nth l2 k)) (fun j u hu=>b'.cell a1 hu) (M9 _) (L9 _) rfl) ?_;refine ar b8 2 zo (MU _) rfl ?_;intro bb w4 O4 a5 b6 c7 c8;refine zsb (us:=(aX (nth l2 k)).toArray) a5 (L9 _) (MF.2 o2) ?_;have b2:=a5.setRow (us:=(aX (nth l2 k)).toArray);have b5:M6 (fun j=>j=2) O4 w4 O4 (w4.setRow bb (aX (nth l2 k)).toArray):=L5 zd a5.tag rfl;have a3:=b6.trans b5;have b3:=b4.upd a3 zd zd;have a7:Ms w1 (w4.setRow bb (aX (nth l2 k)).toArray):=((a4.mono (S':=fun j=>j=1\/j=2) (fun _ h=>.inl h) zd).trans (a3.mono (fun _ h=>.inr h) zd)).ext;generalize w4.setRow bb (aX (nth l2 k)).toArray=w5 at *;refine zh ?_
   refine zv (ai (us:=aX (nth l1 k)) b3.cellsAdd (M9 _) (L9 _) rfl) ?_;refine zv (ai (us:=aX (nth l2 k)) b2.cellsAdd (M9 _) (L9 _) rfl) ?_
   refine dk rfl hF rfl (hq k a2 a1 w5 (hE.trans a7)) rfl ?_;rintro v w6 ⟨rfl,a'⟩;refine zh ?_
   refine zC ?_ ?_
   ·intro hy;replace hy:q k=false:=by simpa using hy
    refine zh ?_;refine af rfl rfl (⟨by rw[yp a2 hy,Na],(hE.trans a7).trans a'⟩)
   intro hy;replace hy:q k=true:=by simpa using hy
   refine zh ?_;refine zxd (k+1,w6) (⟨a2,(hE.trans a7).trans a',fun i hi=>(M5.1 hi).elim (a0 i) (fun e=>by rw[e];exact hy)⟩)
  intro a8;replace a8:l1.length<=k:=dF a8;refine zh ?_;refine af rfl rfl (⟨by rw[decide_eq_true hl,tn fun i hi=>a0 i zo];rfl,hE⟩)
 refine zTH rfl ((by simpa using fun e:(l1.length:Int)=(l2.length:Int)=>hl zo)) ?_;refine af rfl rfl (⟨by rw[decide_eq_false hl];rfl,L3 _⟩)
theorem rV:∀(n:Nat) (t s:Nd),nsz t<=n->∀(x y:N3) (w:L0),Nt (fun _=>0) w t x->Nt (fun _=>0) w s y->MO M1 81 [nv x,nv y] w fun v w'=>v=.bool (ju t s)/\Ms w w'
 |0,t,s,hn=>by have:=dd t;omega
 |n+1,.mk k c kids,.mk k' c' kids',hn=>by
  intro x y w h h';have a':=h.ones;have a8:=h'.ones;obtain⟨xs,hs,hf,hl,hk⟩:=h.kids;obtain⟨ys,b0,b6,a6,a4⟩:=h'.kids;simp only[QD]at hl hk a6 a4;simp only[nsz]at hn;have hF:ju (.mk k c kids) (.mk k' c' kids')=(((k==k')&&(c==c'))&&(decide (xs.length=ys.length)&&vU (fun i=>ju (nth kids i) (nth kids' i)) xs.length)):=by
   rw[ju,yZ,hl,a6]
  rw[hF];generalize x.2.2=sv at *;generalize y.2.2=sv' at *;subst a';subst a8;simp only[Nd.kind,Nd.cls];refine L2 func81 ntmps81 rfl rfl ?_;refine zh ?_;refine aN (ax w) 1 zo rfl rfl ?_;intro xb w1 O1 a9 b7 b3 b5;refine aN b3 2 zo rfl rfl ?_;intro yb w2 O2 a0 b2 b8 b4;have a3:=a9.upd b2 zd zd;have hE:=b5.trans b4;have c0:w2.cell? (nA xb 0)=some (nI k):=a3.cell 0 rfl;have c1:w2.cell? (nA xb 1)=some (nI c):=a3.cell 1 rfl;have c2:w2.cell? (nA xb 2)=some sv:=a3.cell 2 rfl;have d0:w2.cell? (nA yb 0)=some (nI k'):=a0.cell 0 rfl;have d1:w2.cell? (nA yb 1)=some (nI c'):=a0.cell 1 rfl;have d2:w2.cell? (nA yb 2)=some sv':=a0.cell 2 rfl;refine zh ?_;refine aT (fun w1=>_=w1) ((c==c')) 5 (rfl) rfl rfl rfl rfl rfl ?_ ?_
  ·intro a1;refine zh ?_;refine nE 10 6 (rfl) a1
  rintro _ rfl;refine zh ?_;refine aT (Ms w2) ((decide (xs.length=ys.length)&&vU (fun i=>ju (nth kids i) (nth kids' i)) xs.length)) 5 (L3 w2) rfl rfl rfl rfl rfl ?_ ?_
  ·intro a2;refine zh ?_;refine zc call119 (sU Qz xs ys sv sv' (fun i=>ju (nth kids i) (nth kids' i)) w2 (hs.ext hE) (b0.ext hE) (fun i hi=>eI (hk i hi).one) (fun i hi=>eI (a4 i hi).one) (fun i hi b1 w' a7=>rV n (nth kids i) (nth kids' i) (by have:=bM kids i (zo);omega) (nth xs i) (nth ys i) w' ((hk i hi).ext (hE.trans a7)) ((a4 i b1).ext (hE.trans a7)))) ?_;rintro v w3 ⟨rfl,a5⟩;refine zh ?_;refine nE 17 6 (a5) a2
  intro w3 a5;refine zh ?_;refine af rfl rfl (⟨rfl,hE.trans a5⟩)
def eqI(l l':List Int):Bool:=decide (l.length=l'.length)&&vU (λi=>nth l i==nth l' i) l.length
theorem nU:eqI l l'=true↔l=l':=by
 unfold eqI;simp only[L1,decide_eq_true_eq,fj,beq_iff_eq]
 constructor
 ·rintro⟨h1,h2⟩;refine Nq h1 λi hi a0=>?_
  have:=h2 i hi
  rwa[aB hi,aB a0]at this
 rintro rfl;exact⟨rfl,λi _=>rfl⟩
theorem IW(h:¬l.length=l'.length):eqI l l'=false:=by unfold eqI;rw[decide_eq_false h];rfl
theorem J1(hi:i<l.length)(h:nth l i≠nth l' i):eqI l l'=false:=by unfold eqI;rw[yp (q:=λi=>nth l i==nth l' i) hi (beq_eq_false_iff_ne.2 h),Na]
def oq(t s:R3):Bool:=((t.2.2==s.2.2)&&ju t.1 s.1)&&ju t.2.1 s.2.1
theorem Fs{t s:R3}(h:oq t s=true):t=s:=by
 obtain⟨a,b,c⟩:=t;obtain⟨a',b',c'⟩:=s;simp only[oq,L1,beq_iff_eq]at h;obtain⟨⟨h1,h2⟩,h3⟩:=h;rw[h1,kL _ _ h2,kL _ _ h3]
theorem Au(t:R3):oq t t=true:=by simp[oq,qw]
def uj(ts a0:List R3):Bool:=decide (ts.length=a0.length)&&vU (λi=>oq (nth ts i) (nth a0 i)) ts.length
theorem xl{l l':List R3}:uj l l'=true↔l=l':=by
 unfold uj;simp only[L1,decide_eq_true_eq,fj]
 constructor
 ·rintro⟨h1,h2⟩;refine Nq h1 λi hi a0=>?_
  have:=h2 i hi;rw[aB hi,aB a0]at this;exact Fs this
 rintro rfl;exact⟨rfl,λi _=>Au _⟩
def Fq(li lk:List Int)(ts:List R3)(a2 a1:List Int)(a0:List R3):Bool:=(eqI li a2&&eqI lk a1)&&uj ts a0
theorem lq(l l':List Int)(sv a2:ix)(w:L0)(h:Sl encI 1 w sv l)(h':Sl encI 1 w a2 l'):MO M1 36 [sv,a2] w λv w'=>v=.bool (eqI l l')/\Ms w w':=by
 have a6:=h.len_le;have a5:=h'.len_le;apply L2 func36 ntmps36 rfl rfl;refine zh ?_
 by_cases hl:l.length=l'.length
 ·refine zFH rfl ((by rw[hl];simp)) ?_;apply zlp (λy:Nat×L0=>[(0,sv),(1,a2),(12,nI l.length),(13,nI y.1)]) (λy=>y.2) (λy=>y.1<=l.length/\Ms w y.2/\∀i,i<y.1->(nth l i==nth l' i)=true) (λy=>l.length-y.1) (0,w) ⟨LO _,L3 _,λi hi=>absurd hi (M7 i)⟩
  rintro⟨k,w1⟩ ⟨hk,hE,a0⟩;dsimp only at hk hE a0 ⊢;have g1:=h.ext hE;have g2:=h'.ext hE;refine zh ?_;refine zC ?_ ?_
  ·intro a1;replace a1:k<l.length:=dT a1;have a3:k<l'.length:=zo;have m1:=g1.ld a1;have m2:=g2.ld a3;refine zh ?_;apply P9 zk zk;refine zh ?_;apply PU;refine zh ?_;refine zC ?_ ?_
   ·intro hy;replace hy:nth l k≠nth l' k:=by simpa using hy
    refine zh ?_;refine af rfl rfl ⟨by rw[J1 a1 hy],hE.drew⟩
   intro hy;replace hy:nth l k=nth l' k:=by simpa using hy
   refine zh ?_;refine zxd (k+1,w1.drew) ⟨a1,hE.drew,λi hi=>(M5.1 hi).elim (a0 i) (λe=>by rw[e,hy];simp)⟩
  intro a4;replace a4:l.length<=k:=dF a4;refine zh ?_;refine af rfl rfl ⟨by unfold eqI;rw[decide_eq_true hl,tn λi hi=>a0 i zo];rfl,hE⟩
 refine zTH rfl ((by simpa using λe:(l.length:Int)=(l'.length:Int)=>hl zo)) ?_;refine af rfl rfl ⟨by rw[IW hl],L3 _⟩
theorem ui(t s:R3)(x y:X3)(w:L0)(h:Rt (λ_=>0) w t x)(h':Rt (λ_=>0) w s y):MO M1 47 [nr x,nr y] w λv w'=>v=.bool (oq t s)/\Ms w w':=by
 have ox:=bJ (b:=x.2.2) h.1.one h.2.1.one;have oy:=bJ (b:=y.2.2) h'.1.one h'.2.1.one;apply L2 func47 ntmps47 rfl rfl;refine zh ?_;apply aN (ax w) 1 zo rfl rfl;intro xb w1 O1 a6 b0 a8 a';apply aN a8 2 zo rfl rfl;intro yb w2 O2 a4 a7 b3 a9;have a5:=a6.upd a7 zd zd;have hE:=a'.trans a9;obtain⟨lx,rx,bx,_⟩:=gz a5;obtain⟨ly,ry,yy,_⟩:=gz a4;have b1:=bx w2 (L3 _);have b2:=yy w2 (L3 _);rw[h.2.2]at b1;rw[h'.2.2]at b2;refine zh ?_;refine zvH (yF Pv rfl rfl) ?_;refine aT (Ms w2) (ju t.1 s.1) 5 (L3 w2) rfl rfl rfl rfl rfl ?_ ?_
 ·intro a1;refine zh ?_;refine zvH (ai (us:=aX x.1) (lx _ (L3 _)) (M9 _) (L9 _) rfl) ?_;refine zvH (ai (us:=aX y.1) (ly _ (L3 _)) (M9 _) (L9 _) rfl) ?_;apply zc Qz (rV (nsz t.1) t.1 s.1 (LU _) x.1 y.1 w2 (h.1.ext hE) (h'.1.ext hE));rintro v w3 ⟨rfl,a0⟩;refine zh ?_;refine nE 10 6 a0 a1
 intro w3 a0;refine zh ?_;refine aT (Ms w2) (ju t.2.1 s.2.1) 5 a0 rfl rfl rfl rfl rfl ?_ ?_
 ·intro a2;refine zh ?_;refine zvH (ai (us:=aX x.2.1) (rx _ a0) (M9 _) (L9 _) rfl) ?_;refine zvH (ai (us:=aX y.2.1) (ry _ a0) (M9 _) (L9 _) rfl) ?_;apply zc Qz (rV (nsz t.2.1) t.2.1 s.2.1 (LU _) x.2.1 y.2.1 _ (h.2.1.ext (hE.trans a0)) (h'.2.1.ext (hE.trans a0)));rintro v w4 ⟨rfl,a3⟩;refine zh ?_;refine nE 17 6 (a0.trans a3) a2
 intro w4 a3;refine zh ?_;refine af rfl rfl ⟨rfl,hE.trans a3⟩
theorem sT{F:Pl}(hF:∀(args:Array ix) (w:L0),(callFunc F args).run M1 w=.ok (.enter F args) w)(l1 l2:List (X3))(v1 v2:ix)(q:Nat->Bool)(w:L0)(h1:Sl bP 7 w v1 l1)(h2:Sl bP 7 w v2 l2)(b1:∀i,i<l1.length->∀c∈bP (nth l1 i),c.oneCell'=true)(b0:∀i,i<l2.length->∀c∈bP (nth l2 i),c.oneCell'=true) 
  (hq:∀i,i<l1.length->i<l2.length->∀w',Ms w w'->MO M1 F [nr (nth l1 i),nr (nth l2 i)] w' fun v w''=>v=.bool (q i)/\Ms w' w'') :
  MO M1 46 [v1,v2,.func (.func F) #[] #[]] w fun v w'=>v=.bool (decide (l1.length=l2.length)&&vU q l1.length)/\Ms w w':=by
 have c6:=h1.len_le;have c5:=h2.len_le;refine L2 func46 ntmps46 rfl rfl ?_;refine zh ?_
 by_cases hl:l1.length=l2.length
 ·refine zFH rfl ((by rw[hl];simp)) ?_;refine zlp (fun y:Nat×L0=>[(1,v2),(2,.func (.func F) #[] #[]),(15,v1),(16,nI l1.length),(17,nI y.1)]) (fun y=>y.2) (fun y=>y.1<=l1.length/\Ms w y.2/\∀i,i<y.1->q i=true) (fun y=>l1.length-y.1) (0,w) (⟨LO _,L3 _,fun i hi=>absurd hi (M7 i)⟩) ?_
  rintro⟨k,w1⟩ ⟨hk,hE,a0⟩;dsimp only at hk hE a0 ⊢;have g1:=h1.ext hE;have g2:=h2.ext hE;refine zh ?_;refine zC ?_ ?_
  ·intro a2;replace a2:k<l1.length:=dT a2;have a1:k<l2.length:=zo;have o1:=b1 k a2;have o2:=b0 k a1;refine zh ?_;refine zv (ai (us:=bP (nth l1 k)) (fun j u hu=>g1.cell a2 hu) (MH _) (Mg _) rfl) ?_;refine ar (ax w1) 1 zo (MG _) rfl ?_;intro ab w2 O2 a6 b7 b9 c9;refine zh ?_;refine zsb (us:=(bP (nth l1 k)).toArray) a6 (Mg _) (MF.2 o1) ?_;have b4:=a6.setRow (us:=(bP (nth l1 k)).toArray);have a9:M6 (fun j=>j=1) O2 w2 O2 (w2.setRow ab (bP (nth l1 k)).toArray):=L5 zd a6.tag rfl;have b8:=b9.upd a9;have a4:=b7.trans a9;generalize w2.setRow ab (bP (nth l1 k)).toArray=w3 at *;have b':=g2.ext a4.ext;refine zh ?_;refine zv (ai (us:=bP (nth l2 k)) (fun j u hu=>b'.cell a1 hu) (MH _) (Mg _) rfl) ?_;refine ar b8 2 zo (MG _) rfl ?_;intro bb w4 O4 a5 b6 c7 c8;refine zsb (us:=(bP (nth l2 k)).toArray) a5 (Mg _) (MF.2 o2) ?_;have b2:=a5.setRow (us:=(bP (nth l2 k)).toArray);have b5:M6 (fun j=>j=2) O4 w4 O4 (w4.setRow bb (bP (nth l2 k)).toArray):=L5 zd a5.tag rfl;have a3:=b6.trans b5;have b3:=b4.upd a3 zd zd;have a7:Ms w1 (w4.setRow bb (bP (nth l2 k)).toArray):=((a4.mono (S':=fun j=>j=1\/j=2) (fun _ h=>.inl h) zd).trans (a3.mono (fun _ h=>.inr h) zd)).ext;generalize w4.setRow bb (bP (nth l2 k)).toArray=w5 at *;refine zh ?_
   refine zv (ai (us:=bP (nth l1 k)) b3.cellsAdd (MH _) (Mg _) rfl) ?_;refine zv (ai (us:=bP (nth l2 k)) b2.cellsAdd (MH _) (Mg _) rfl) ?_
   refine dk rfl hF rfl (hq k a2 a1 w5 (hE.trans a7)) rfl ?_;rintro v w6 ⟨rfl,a'⟩;refine zh ?_
   refine zC ?_ ?_
   ·intro hy;replace hy:q k=false:=by simpa using hy
    refine zh ?_;refine af rfl rfl (⟨by rw[yp a2 hy,Na],(hE.trans a7).trans a'⟩)
   intro hy;replace hy:q k=true:=by simpa using hy
   refine zh ?_;refine zxd (k+1,w6) (⟨a2,(hE.trans a7).trans a',fun i hi=>(M5.1 hi).elim (a0 i) (fun e=>by rw[e];exact hy)⟩)
  intro a8;replace a8:l1.length<=k:=dF a8;refine zh ?_;refine af rfl rfl (⟨by rw[decide_eq_true hl,tn fun i hi=>a0 i zo];rfl,hE⟩)
 refine zTH rfl ((by simpa using fun e:(l1.length:Int)=(l2.length:Int)=>hl zo)) ?_;refine af rfl rfl (⟨by rw[decide_eq_false hl];rfl,L3 _⟩)
structure Tx(w:L0)(v:ix)(li lk:List Int)(ts:List R3):Prop where
 ex:∃ig kp ru xs,v=Am ig kp ru/\Sl encI 1 w ig li/\Sl encI 1 w kp lk/\Sl bP 7 w ru xs/\ts.length=xs.length/\∀i,i<xs.length->Rt (λ_=>0) w (nth ts i) (nth xs i)
theorem Tx.ext{w w':L0}{v:ix}{li lk:List Int}{ts:List R3}(h:Tx w v li lk ts)(e:Ms w w'):Tx w' v li lk ts:=by
 obtain⟨ig,kp,ru,xs,hv,h1,h2,h3,h4,h5⟩:=h;exact⟨ig,kp,ru,xs,hv,h1.ext e,h2.ext e,h3.ext e,h4,λi hi=>(h5 i hi).ext e⟩
theorem uo(li lk a7 a6:List Int)(ts a4:List R3)(v v':ix)(w:L0)(h:Tx w v li lk ts)(h':Tx w v' a7 a6 a4):MO M1 22 [v,v'] w fun u w'=>u=.bool (Fq li lk ts a7 a6 a4)/\Ms w w':=by
 obtain⟨ig,kp,ru,xs,rfl,h1,h2,h3,h4,h5⟩:=h;obtain⟨b3,b2,b1,a5,rfl,b7,b6,b5,c9,b0⟩:=h';have o1:=h1.one;have o2:=h2.one;have o3:=h3.one;have d4:=b7.one;have d3:=b6.one;have c':=b5.one;have b9:uj ts a4=(decide (xs.length=a5.length)&&vU (fun i=>oq (nth ts i) (nth a4 i)) xs.length):=by unfold uj;rw[h4,c9]
 refine L2 func22 ntmps22 rfl rfl ?_;refine zh ?_
 refine aN (ax w) 1 zo rfl rfl ?_;intro xb w1 O1 b8 d5 c6 c8;refine aN c6 2 zo rfl rfl ?_
 intro yb w2 O2 a8 c5 d6 c7;have a9:=b8.upd c5 zd zd;have hE:=c8.trans c7;have c0:w2.cell? (nA xb 0)=some ig:=a9.cell 0 rfl;have c1:w2.cell? (nA xb 1)=some kp:=a9.cell 1 rfl;have c2:w2.cell? (nA xb 2)=some ru:=a9.cell 2 rfl;have d0:w2.cell? (nA yb 0)=some b3:=a8.cell 0 rfl;have d1:w2.cell? (nA yb 1)=some b2:=a8.cell 1 rfl;have d2:w2.cell? (nA yb 2)=some b1:=a8.cell 2 rfl;refine zh ?_;refine zc call36 (lq li a7 ig b3 w2 (h1.ext hE) (b7.ext hE)) ?_;rintro u w3 ⟨rfl,a3⟩;refine zh ?_;refine aT (Ms w2) (eqI lk a6) 5 (a3) rfl rfl rfl rfl rfl ?_ ?_
 ·intro a1;refine zh ?_;refine zvH (RV.ld (by first|exact a3.cell c1|exact a3.cell d1) rfl) ?_;refine zvH (RV.ld (by first|exact a3.cell c1|exact a3.cell d1) rfl) ?_;refine zc call36 (lq lk a6 kp b2 _ (h2.ext (hE.trans a3)) (b6.ext (hE.trans a3))) ?_;rintro u w4 ⟨rfl,a0⟩;refine zh ?_;refine nE 10 6 (a3.trans a0) a1
 intro w4 a0;refine zh ?_;refine aT (Ms w2) ((decide (xs.length=a5.length)&&vU (fun i=>oq (nth ts i) (nth a4 i)) xs.length)) 5 (a0) rfl rfl rfl rfl rfl ?_ ?_
 ·intro a2;refine zh ?_;refine zvH (RV.ld (by first|exact a0.cell c2|exact a0.cell d2) rfl) ?_;refine zvH (RV.ld (by first|exact a0.cell c2|exact a0.cell d2) rfl) ?_;refine zc call46 (sT call47 xs a5 ru b1 (fun i=>oq (nth ts i) (nth a4 i)) _ (h3.ext (hE.trans a0)) (b5.ext (hE.trans a0)) (fun i hi=>bJ (b:=(nth xs i).2.2) (h5 i hi).1.one (h5 i hi).2.1.one) (fun i hi=>bJ (b:=(nth a5 i).2.2) (b0 i hi).1.one (b0 i hi).2.1.one) (fun i hi b' w' b4=>ui (nth ts i) (nth a4 i) (nth xs i) (nth a5 i) w' ((h5 i hi).ext ((hE.trans a0).trans b4)) ((b0 i b').ext ((hE.trans a0).trans b4)))) ?_;rintro u w5 ⟨rfl,a'⟩;refine zh ?_;refine nE 17 6 (a0.trans a') a2
 intro w5 a';refine zh ?_;refine af rfl rfl (⟨by unfold Fq;rw[b9],hE.trans a'⟩)
def Few(li lk:List Int)(ts:List R3):Prop:=ts.length<=45/\li.length<=40/\lk.length<=40/\∀i,i<ts.length->nsz (nth ts i).1<=150/\nsz (nth ts i).2.1<=150
theorem _root_.Go.VL.BlkO.ext{cs:Array ix}(h:N4 O w i b cs E)(e:Ms w w'):N4 O w' i b cs E:=⟨by rw[e.block b (bL h.blk)];exact h.blk,h.tag⟩
theorem RowsG.upd{S:Nat->Prop}{B:Nat}{O O':Nat->Nat}{w0 w w':L0}{v:ix}{rows:List (List Nat)}(h:Qx w0.heap.size w v rows)(r:Ns B O w0)(u:M6 S O w O' w'):Qx w0.heap.size w' v rows:=by
 obtain⟨vs,h1,h2,h3,h4⟩:=h;exact⟨vs,h1.upd (h2.free h1 (λx _=>by simp) r) u,h2,h3,λi hi=>⟨(h4 i hi).1.upd ((h4 i hi).2.free (h4 i hi).1 (λx _=>by simp) r) u,(h4 i hi).2⟩⟩
theorem _root_.Go.VL.NewV.slU{l:List Nat}(h:Pz w0.heap.size v)(hs:Sl jh 1 w v l)(r:Ns B O w0)(u:M6 S O w O' w'):Sl jh 1 w' v l:=hs.upd (h.free hs (λx _=>by simp) r) u
def dr(l:List Int):Nat:=l.foldl (λb c=>b ||| 2^c.toNat) 0
theorem oj(h:∀c∈l,0<=c/\c<=35):dr l<2^36:=by
 have a0:∀(l:List Int) (b:Nat),(∀c∈l,0<=c/\c<=35)->b<2^36->l.foldl (λb c=>b ||| 2^c.toNat) b<2^36:=λl=>by
  induction l with
  |nil=>exact λb _ hb=>hb
  |cons c l ih=>exact λb h hb=>ih _ (λx hx=>h x (by simp[hx])) (Mo hb (Mr zd (by have:=h c (by simp);omega)))
 exact a0 l 0 h zd
theorem BY(h:i<l.length):dr (l.take (i+1))=dr (l.take i) ||| 2^(nth l i).toNat:=by
 unfold dr;rw[aY h,MV];rfl
theorem oi(l:List Int)(sv:ix)(w:L0)(h:Sl encI 1 w sv l)(hr:∀c∈l,0<=c/\c<=35):MO M1 89 [sv] w λv w'=>v=.int .u64 ((dr l:Nat):Int)/\w'=w:=by
 have hl:=h.len_le;have a1:PL.max=18446744073709551615:=rfl;apply L2 func89 ntmps89 rfl rfl;refine zh ?_;apply zlp (λz:Nat=>[(3,.int .u64 ((dr (l.take z):Nat):Int)),(6,sv),(7,nI l.length),(8,nI z)]) (λz=>w) (λz=>z<=l.length) (λz=>l.length-z) 0 (LO _);intro i hi;refine zh ?_;refine zC ?_ ?_
 ·intro a0;replace a0:i<l.length:=dT a0;have hc:=hr _ (aW a0);have m1:w.cell? (adr sv 1 i)=some (nI (nth l i)):=by have:=h.cell (i:=i) (j:=0) a0 rfl;rwa[aA]at this
  obtain⟨c,a3⟩:∃c:Nat,nth l i=(c:Int):=⟨(nth l i).toNat,zo⟩
  have hs:=BY a0;rw[a3]at m1 hs;simp only[MC]at hs;have a7:dr (l.take i)<2^36:=oj λx hx=>hr x (P1 hx)
  have a6:2^c<=2^35:=Nc zd zo;have a5:(2^35:Nat)=34359738368:=zd;have a4:(2^36:Nat)=68719476736:=zd;refine zh ?_;apply zv (yD (a:=1) (b:=c) rfl rfl rfl rfl (by show _<=64;omega) (by show _<=(18446744073709551615:Int);omega));rw[Nu];refine zvH (vP (a:=dr (l.take i)) (b:=2^c) rfl rfl rfl rfl (by show _<=(18446744073709551615:Int);omega) (by show _<=(18446744073709551615:Int);omega)) ?_;rw[<-hs];refine zxd (i+1) a0
 intro a2;obtain rfl:i=l.length:=dF a2;rw[ME];refine zh ?_;refine af rfl rfl ⟨rfl,rfl⟩
def stM(se:Bool)(ts:List Nd):Option (List (List Nat)×List Nat):=if ec ts=0 then Gf (da se (kq ts)) (dH (kq ts))else none
def Cls(cl:Nat->Nat)(d:List (List Nat)×List Nat):Prop:=∀p q,p<d.1.length->q<d.1.length->(cl p=cl q↔Alike (nxD d.1) (nth d.2) p q)
def PostSt(B:Nat)(w:L0)(v:ix):Option (List (List Nat)×List Nat)->Prop
 |some d=>∃cl nv tv,v=.tuple #[.agg #[nv,tv],nI 0]/\nv.oneCell'=true/\tv.oneCell'=true/\Mk d.1 d.2/\Cls cl d/\Qx B w nv (bh cl d.1 d.2).1/\Sl jh 1 w tv (bh cl d.1 d.2).2/\Pz B tv
 |none=>∃e:Int,e≠0/\v=.tuple #[.agg #[nS,nS],nI e]
theorem Cz{ts:List Nd}(h:ec ts=0):ts.length<=40/\(∀t∈ts,bp t=true)/\1+bu ts<=1000:=by
 unfold ec at h
 split at h
 ·cases h
 split at h
 ·cases h
 rename_i h1 h2
 split at h
 ·cases h
 rename_i h3;refine⟨zo,λt ht=>?_,zo⟩;have:ts.any (λt=>!bp t)=false:=by simpa using h2
 have:=Pk.1 this t ht;simpa using this
set_option maxHeartbeats 1000000 in
theorem qq(se:Bool)(ts:List Nd)(xs:List N3)(sv:ix)(w:L0)(hs:Sl aX 3 w sv xs)(hl:ts.length=xs.length)(hk:∀i,i<xs.length->Nt (λ_=>0) w (nth ts i) (nth xs i)):
  MO M1 90 [.bool se,sv] w λv w'=>Ms w w'/\PostSt w.heap.size w' v (stM se ts):=by
 apply L2 func90 ntmps90 rfl rfl;refine zh ?_
 apply ar (ax w) 1 zo (Mx _) rfl;intro cb w1 O1 c6 e2 e5 d4;refine zh ?_
 apply zc call128 (IG se ts xs sv w1 (hs.ext d4) hl (λi hi=>(hk i hi).ext d4));rintro _ w2 ⟨nb,rfl,e',e6⟩;have c8:M6 (λ_=>False) O1 w1 O1 w2:=ae (λh=>h) O1 e';have a2:=c6.upd c8 zd (λh=>h);have e4:=e5.upd c8;have b2:=e2.trans (c8.mono (λ_ h=>h.elim) zd);refine zh ?_
 by_cases he:ec ts=0
 ·have hD:=e6 he;obtain⟨f5,a4,f4⟩:=Cz he;obtain⟨a',a3⟩:=jQ a4;obtain⟨d5,h0⟩:=Cx ts;have d9:=qG a' a3;have d':∀q,(kq ts).en q<=40:=λq=>by have:=Cw ts q;omega
  have b6:stM se ts=Gf (da se (kq ts)) (dH (kq ts)):=by unfold stM;rw[if_pos he]
  have d8:Cy nb (ec ts)=nP nb:=by unfold Cy;rw[if_pos he]
  rw[d8,he,b6];refine zFH rfl rfl ?_;have hC:=Dm nb se (kq ts) w2 hD d5 h0 (IF ts) zo d';generalize hd:Gf (da se (kq ts)) (dH (kq ts))=D at hC b6 ⊢;apply zc call129 hC;rintro v w3 ⟨e9,hP⟩;have c7:M6 (λ_=>False) O1 w2 O1 w3:=ae (λh=>h) O1 e9;have b1:=a2.upd c7 zd (λh=>h);have d3:=e4.upd c7;have a8:=b2.trans (c7.mono (λ_ h=>h.elim) zd)
  cases D with
  |none=>
   obtain rfl:=hP;refine zh ?_;apply ar d3 2 zo (Mx _) rfl;intro db w4 O4 a0 b8 e3 e8;apply zsa (us:=#[nS,nS]) a0 (Me _);have b7:M6 (λj=>j=2) O4 w4 O4 (w4.setRow db #[nS,nS]):=L5 zd a0.tag rfl;have a6:=(b1.upd b8 zd zd).upd b7 zd zd;have c':=(a8.mono (S':=λq=>q=1\/q=2) (λ_ h=>.inl h) zd).trans ((b8.trans b7).mono (λ_ h=>.inr h) zd);generalize w4.setRow db #[nS,nS]=w5 at *;refine zh ?_;refine zTH rfl rfl ?_;refine zvH (aF AB (Mx _) rfl (by first|rfl|(simp only[LX,Nm];rfl)) rfl rfl) ?_;apply zsa (us:=#[nS,nS]) a6 (Me _);have b0:=a6.setRow (us:=#[nS,nS]);have a7:M6 (λj=>j=1) O4 w5 O4 (w5.setRow cb #[nS,nS]):=L5 zd a6.tag rfl;refine zh ?_;refine bE rfl rfl rfl b0.cellsAdd (MY _) (Me _) ⟨(c'.trans (a7.mono (λ_ h=>.inl h) zd)).ext,7,zd,rfl⟩
  |some d=>
   obtain⟨nv,tv,rfl,o1,o2,d7,d6⟩:=hP;obtain⟨S,f3⟩:=pc hd;have d1:=f3.right;refine zh ?_;apply ar (ax w3) 2 zo (Mx _) rfl;intro db w4 O4 a0 b8 e3 e8;apply zsb (us:=#[nv,tv]) a0 (Me _) (by simp only[LX,o1,o2];rfl);have c5:=a0.setRow (us:=#[nv,tv]);have b7:M6 (λj=>j=2) O4 w4 O4 (w4.setRow db #[nv,tv]):=L5 zd a0.tag rfl;have a1:Ms w3 (w4.setRow db #[nv,tv]):=(b8.trans b7).ext;generalize w4.setRow db #[nv,tv]=w5 at *;refine zh ?_;refine zFH rfl rfl ?_;apply zv (ai (us:=[nv,tv]) c5.cellsAdd (MY _) (Me _) rfl);apply zc call130 (xU nv tv d.1 d.2 w5 (d7.ext a1) (d6.ext a1) d1);rintro _ w6 ⟨cl,b5,b4,rfl,p1,p2,e7,e0,b',b9,a9⟩;have b3:=a1.trans e7;have a5:=b1.ext b3;have e1:M6 (λq=>q=1) O1 w3 O1 w6:=ae zd O1 b3;have c9:=a8.trans e1;have d2:=d3.ext a1;apply zsb (us:=#[b5,b4]) a5 (Me _) (by simp only[LX,p1,p2];rfl);have b0:=a5.setRow (us:=#[b5,b4]);have a7:M6 (λj=>j=1) O1 w6 O1 (w6.setRow cb #[b5,b4]):=L5 zd a5.tag rfl;have d0:w.heap.size<=w5.heap.size:=NU a8.size a1.size;refine zh ?_;refine bE rfl rfl rfl b0.cellsAdd (MY _) (Me _) ⟨(c9.trans a7).ext,cl,b5,b4,rfl,p1,p2,d1,e0,(b'.upd d2 a7).mono d0,a9.slU b9 d2 a7,a9.mono d0⟩
 have b6:stM se ts=none:=by unfold stM;rw[if_neg he]
 rw[b6];refine zTH rfl ((by simpa using he)) ?_;refine zvH (aF AB (Mx _) rfl (by first|rfl|(simp only[LX,Nm];rfl)) rfl rfl) ?_;apply zsa (us:=#[nS,nS]) a2 (Me _);have b0:=a2.setRow (us:=#[nS,nS]);have a7:M6 (λj=>j=1) O1 w2 O1 (w2.setRow cb #[nS,nS]):=L5 zd a2.tag rfl;refine zh ?_;refine bE rfl rfl rfl b0.cellsAdd (MY _) (Me _) ⟨(b2.trans a7).ext,ec ts,he,rfl⟩
theorem LB:cE M1 29 #[(0,5),(5,1)]:=⟨_,underlying29,λw=>by kernel_rfl⟩
def PartV(w:L0)(cs:List ix)(p:PP)(tl:List Nat):Prop:=
 ∃uv bv kv nv tv,cs=[nI p.width,uv,bv,kv,nv,tv]/\Ng w uv p.usual/\Ng w bv p.base/\Ng w kv p.check/\Ng w nv p.next/\Sl jh 1 w tv tl
theorem PartV.ext{w w':L0}{cs:List ix}{p:PP}{tl:List Nat}(h:PartV w cs p tl)(e:Ms w w'):PartV w' cs p tl:=by
 obtain⟨uv,bv,kv,nv,tv,h0,h1,h2,h3,h4,h5⟩:=h;exact⟨uv,bv,kv,nv,tv,h0,h1.ext e,h2.ext e,h3.ext e,h4.ext e,h5.ext e⟩
def Ji(B:Nat)(cs:List ix):Prop:=∀v∈cs,Pz B v
theorem _root_.Go.VL.NewV.slI(h:Pz w0.heap.size v)(hs:Ng w v l)(r:Ns B O w0)(u:M6 S O w O' w'):Ng w' v l:=hs.upd (h.free hs (λx _=>by simp) r) u
theorem PartV.upd{p:PP}(h:PartV w cs p tl)(n:Ji w0.heap.size cs)(r:Ns B O w0)(u:M6 S O w O' w'):PartV w' cs p tl:=by
 obtain⟨uv,bv,kv,nv,tv,rfl,h1,h2,h3,h4,h5⟩:=h;exact⟨uv,bv,kv,nv,tv,rfl,(n uv (by simp)).slI h1 r u,(n bv (by simp)).slI h2 r u,(n kv (by simp)).slI h3 r u,(n nv (by simp)).slI h4 r u,(n tv (by simp)).slU h5 r u⟩
theorem PartV.one{w:L0}{cs:List ix}{p:PP}{tl:List Nat}(h:PartV w cs p tl):cs.length=6/\∀v∈cs,v.oneCell'=true:=by
 obtain⟨uv,bv,kv,nv,tv,rfl,h1,h2,h3,h4,h5⟩:=h;refine⟨rfl,λv hv=>?_⟩;simp only[L7,LZ,or_false]at hv
 rcases hv with rfl|rfl|rfl|rfl|rfl|rfl
 ·rfl
 ·exact h1.one
 ·exact h2.one
 ·exact h3.one
 ·exact h4.one
 exact h5.one
theorem RowsN.pack(h:RowsN w v rows):Rows w v (rows.map ints):=by
 obtain⟨vs,h1,h2,h3⟩:=h
 exact⟨vs,h1,by rw[Mc];exact h2,λi hi=>by
  rw[Mc]at hi
  rw[dU hi];exact(h3 i hi).natIv⟩
def kN(g:List Nat)(many:Nat)(rows:List (List Nat)):List (List Int):=(rows.map (pW g many)).map ints
def dS(g:List Nat)(many:Nat)(rows:List (List Nat)):PP:=lU (many:Int) (kN g many rows)
theorem qy(hg:GrpI g many)(hr:Mk rows a0):cF (many:Int) (kN g many rows)=false:=by
 have h1:=hg.pos;have h2:=hg.le;have h3:=hr.le;unfold cF;have hl:(kN g many rows).length=rows.length:=by simp[kN]
 rw[decide_eq_false zo,decide_eq_false zo,decide_eq_false zo];simp only[NK];refine Pk.2 λr a1=>?_
 obtain⟨q,hq,rfl⟩:=MM.1 a1;obtain⟨o,ho,rfl⟩:=MM.1 hq;obtain⟨j,hj,rfl⟩:=ck ho;obtain⟨r1,r2⟩:=hr.row j hj;unfold iH;rw[show(ints (pW g many (nth rows j))).length=many from by simp[nL]];have a2:inB 0 65535 (ints (pW g many (nth rows j)))=true:=vl λn hn=>by
  obtain⟨x,hx,rfl⟩:=MM.1 hn;unfold pW at hx;obtain⟨k,hk,rfl⟩:=MM.1 hx
  cases hf:g.findIdx? (· == k)with
  |none=>simp only[Option.getD_none];have:=r2 0 zd;unfold nxD at *;omega
  |some q=>
   obtain⟨h1,_⟩:=M8.1 hf;have a3:=hg.len;simp only[Option.getD_some];have:=r2 q zo;omega
 rw[a2];simp
theorem zi(g:List Nat)(many:Nat)(gv nv tv:ix)(rows:List (List Nat))(d4:List Nat)(w:L0)(hg:GrpI g many)(e':Sl bm 1 w gv g)(hn:RowsN w nv rows)(g0:Sl jh 1 w tv d4)(hr:Mk rows d4) 
  (hc:∀p,p<rows.length->∀i j,i<37->j<37->nth g i=nth g j->nth (nth rows p) i=nth (nth rows p) j) :
  MO M1 92 [gv,.agg #[nv,tv]] w λv w'=>∃cs,v=.agg cs.toArray/\PartV w' cs (dS g many rows) d4/\Ji w.heap.size cs/\Ms w w':=by
 have a4:=qy hg hr;apply L2 func92 ntmps92 rfl rfl;refine zh ?_;apply aN (ax w) 1 zo rfl rfl;intro db w1 O1 e4 g' h4 h9;apply ar h4 2 zo (Qv _) rfl;intro cb w2 O2 e8 f8 b8 h8;have e3:=e4.upd f8 zd zd;have b6:M6 (λq=>1<=q) (λ_=>0) w O2 w2:=(g'.mono (λ_ h=>zo) zd).trans (f8.mono (λ_ h=>zo) zd);have b7:=b6.ext;refine zh ?_;apply zv (ai (us:=[nv,tv]) e3.cellsAdd (MY _) (Me _) rfl);apply zc call137 (FR g many gv nv tv rows d4 w2 hg (e'.ext b7) (hn.ext b7) (g0.ext b7) hr hc);rintro _ w3 ⟨d8,a6,a5,rfl,o1,o2,o3,c9,a',a9,h5⟩;have d6:M6 (λ_=>False) O2 w2 O2 w3:=ae (λh=>h) O2 h5;have e7:=e8.upd d6 zd (λh=>h);have e9:=b6.trans (d6.mono (λ_ h=>h.elim) zd);have h3:=b8.upd d6;refine zh ?_;apply ar h3 3 zo (zeroValue225 _) rfl;intro nb w4 O4 b3 g8 h2 h7;apply zsb (us:=#[d8,a6,a5]) b3 (sizeOf225 _) (by simp only[LX,o1,o2,o3];rfl);have b2:=b3.setRow (us:=#[d8,a6,a5]);have f7:M6 (λj=>j=3) O4 w4 O4 (w4.setRow nb #[d8,a6,a5]):=L5 zd b3.tag rfl;have a2:=g8.trans f7;have g9:=(d6.mono (S':=λq=>q=3) (λ_ h=>h.elim) zd).trans a2;have e6:=e7.upd a2 zd zd;have g6:=c9.upd b8 a2;have f':=a9.slU a' b8 a2;have h1:=h2.upd f7;have b5:=e9.trans (a2.mono (λ_ h=>zo) zd);generalize w4.setRow nb #[d8,a6,a5]=w5 at *;have h6:(rows.map (pW g many)).length=rows.length:=by simp
 refine zh ?_;have d1:w5.drew.cell? (nA nb 1)=some a6:=b2.cell 1 rfl;apply aQ (λW=>W.cell? (nA nb 1)=some a6) 11 rfl zk
 apply zrm 0 rfl d1 rfl;apply zrf 2 rfl d1 rfl
 apply zt 3 rfl d1 (λw1 f9=>RV.ld f9 rfl);refine iM (λx:ix×ix×ix×ix×Int×Nat×(Nat->Nat)×World=>[(4,nP cb),(5,nP nb),(7,.pointer (some ⟨x.2.2.2.2.2.1,0,none⟩)),(21,.agg #[nI (dS g many rows).width,x.1,x.2.1,x.2.2.1,x.2.2.2.1]),(22,nI x.2.2.2.2.1)]) (λx=>x.2.2.2.2.2.2.2) (λx=>Ng x.2.2.2.2.2.2.2 x.1 (dS g many rows).usual/\Ng x.2.2.2.2.2.2.2 x.2.1 (dS g many rows).base/\Ng x.2.2.2.2.2.2.2 x.2.2.1 (dS g many rows).check/\Ng x.2.2.2.2.2.2.2 x.2.2.2.1 (dS g many rows).next/\Pz w5.heap.size x.1/\Pz w5.heap.size x.2.1/\Pz w5.heap.size x.2.2.1/\Pz w5.heap.size x.2.2.2.1/\N4 x.2.2.2.2.2.2.1 x.2.2.2.2.2.2.2 4 x.2.2.2.2.2.1 #[nI 0,nS,nS,nS,nS] 26/\M6 (λq=>q=4) O4 w5 x.2.2.2.2.2.2.1 x.2.2.2.2.2.2.2/\Ns w.heap.size x.2.2.2.2.2.2.1 x.2.2.2.2.2.2.2/\Qi x.2.2.2.2.2.2.1 x.2.2.2.2.2.2.2 x.1/\Qi x.2.2.2.2.2.2.1 x.2.2.2.2.2.2.2 x.2.1/\Qi x.2.2.2.2.2.2.1 x.2.2.2.2.2.2.2 x.2.2.1/\Qi x.2.2.2.2.2.2.1 x.2.2.2.2.2.2.2 x.2.2.2.1) #[true,true,true,true,true,true,true,true,true,false,false] 2 ?_ ?_
 ·intro hN;have hR:=h1.drew;have hU:M6 (λq=>q=4) O4 w5 O4 w5.drew:=ae zd O4 (L3 w5).drew;have k0:∀O W,M6 (λq=>q=4) O4 w5 O W->W.cell? (nA nb 1)=some a6:=λO W u=>(b2.upd u zd zd).cell 1 rfl
  have kg:∀O W,M6 (λq=>q=4) O4 w5 O W->Sl encI 1 W gv (ints g):=λO W u=>(e'.ext (b5.trans (u.mono (λ_ h=>zo) zd)).ext).natIv
  have kn:∀O W,M6 (λq=>q=4) O4 w5 O W->Rows W a6 (kN g many rows):=λO W u=>(c9.upd b8 (a2.mono (S':=λq=>q=3\/q=4) (λ_ h=>.inl h) zd |>.trans (u.mono (λ_ h=>.inr h) zd))).rows.pack
  refine bB 1 8 zk rfl rfl ?_ ?_ 
  ·apply zc QB (iV (ints g) gv _ (kg _ _ hU));rintro _ wa ⟨rfl,c8⟩;rw[c8,hg.cnt];clear c8 wa;refine zh ?_
   apply aa (k0 _ _ hU);refine bB 4 8 zk rfl rfl ?_ ?_ 
   ·apply zc Qp (oI (many:Int) (kN g many rows) a6 _ (kn _ _ hU));rintro _ wb ⟨pv,ep,rfl,fP,f5,d2,gP⟩;have gP:=gP a4;rw[a4,if_neg zd]at fP;obtain⟨b9,b',d3,c7,c6,c5,n1,n2,n3,n4⟩:=gP;obtain⟨uv,bv,kv,a0,pe,f1,f2,f3,f4⟩:=fP;subst pe;obtain⟨rfl,rfl,rfl,rfl,rfl⟩:_=b9/\uv=b'/\bv=d3/\kv=c7/\a0=c6:=by simpa using c5
    have fU:=hU.size;have g1:=n1.free f1 (λx _=>by simp) hR;have g2:=n2.free f2 (λx _=>by simp) hR;have g3:=n3.free f3 (λx _=>by simp) hR;have g4:=n4.free f4 (λx _=>by simp) hR;have n1:=n1.mono fU;have n2:=n2.mono fU;have n3:=n3.mono fU;have n4:=n4.mono fU;have a7:=λO=>ae (S:=λ_=>False) (λh=>h) O d2
    have hU:=M4 hU ((a7 _).mono (λ_ h=>h.elim) zd);have hR:=Q0 hR (a7 _)
    try have fC:=Mb fC (a7 _) zd (λh=>h)
    refine zh ?_;refine zaf (k0 _ _ hU) λzS=>?_
    apply zrm 5 rfl zS rfl;apply zr 6 rfl zS (λ_=>N6 rfl rfl)
    apply zr 7 rfl zS (λ_=>N6 rfl rfl);apply L6 8 zk rfl
    apply ar hR 4 zd (Pu _) rfl;intro pb wc Oc fC a1 d0 a3;have hU:=M4 hU a1;have hR:=d0
    try have f1:=MZ f1 a3
    try have f2:=MZ f2 a3
    try have f3:=MZ f3 a3
    try have f4:=MZ f4 a3
    try have g1:=Mw g1 a1
    try have g2:=Mw g2 a1
    try have g3:=Mw g3 a1
    try have g4:=Mw g4 a1
    refine zh ?_;apply aa (k0 _ _ hU)
    exact N5 (hN (uv,bv,kv,a0,ep,pb,_,_) ⟨f1,f2,f3,f4,n1,n2,n3,n4,fC,hU,hR,g1,g2,g3,g4⟩) zk ⟨rfl,rfl,rfl,rfl,rfl,trivial⟩ rfl
   apply ar hR 4 zd (Pu _) rfl;intro pb wc Oc fC a1 d0 a3;have hU:=M4 hU a1;have hR:=d0
   try have f1:=MZ f1 a3
   try have f2:=MZ f2 a3
   try have f3:=MZ f3 a3
   try have f4:=MZ f4 a3
   try have g1:=Mw g1 a1
   try have g2:=Mw g2 a1
   try have g3:=Mw g3 a1
   try have g4:=Mw g4 a1
   refine zh ?_;apply aa (k0 _ _ hU)
   apply L6 4 zk rfl;apply zc Qp (oI (many:Int) (kN g many rows) a6 _ (kn _ _ hU))
   rintro _ wb ⟨pv,ep,rfl,fP,f5,d2,gP⟩;have gP:=gP a4;rw[a4,if_neg zd]at fP;obtain⟨b9,b',d3,c7,c6,c5,n1,n2,n3,n4⟩:=gP;obtain⟨uv,bv,kv,a0,pe,f1,f2,f3,f4⟩:=fP;subst pe;obtain⟨rfl,rfl,rfl,rfl,rfl⟩:_=b9/\uv=b'/\bv=d3/\kv=c7/\a0=c6:=by simpa using c5
   have fU:=hU.size;have g1:=n1.free f1 (λx _=>by simp) hR;have g2:=n2.free f2 (λx _=>by simp) hR;have g3:=n3.free f3 (λx _=>by simp) hR;have g4:=n4.free f4 (λx _=>by simp) hR;have n1:=n1.mono fU;have n2:=n2.mono fU;have n3:=n3.mono fU;have n4:=n4.mono fU;have a7:=λO=>ae (S:=λ_=>False) (λh=>h) O d2
   have hU:=M4 hU ((a7 _).mono (λ_ h=>h.elim) zd);have hR:=Q0 hR (a7 _)
   try have fC:=Mb fC (a7 _) zd (λh=>h)
   refine zh ?_;refine zaf (k0 _ _ hU) λzS=>?_
   apply zrm 5 rfl zS rfl;apply zr 6 rfl zS (λ_=>N6 rfl rfl)
   apply zr 7 rfl zS (λ_=>N6 rfl rfl);exact N5 (hN (uv,bv,kv,a0,ep,pb,_,_) ⟨f1,f2,f3,f4,n1,n2,n3,n4,fC,hU,hR,g1,g2,g3,g4⟩) zk ⟨rfl,rfl,rfl,rfl,rfl,trivial⟩ rfl
  apply ar hR 4 zd (Pu _) rfl;intro pb wc Oc fC a1 d0 a3;have hU:=M4 hU a1;have hR:=d0
  try have f1:=MZ f1 a3
  try have f2:=MZ f2 a3
  try have f3:=MZ f3 a3
  try have f4:=MZ f4 a3
  try have g1:=Mw g1 a1
  try have g2:=Mw g2 a1
  try have g3:=Mw g3 a1
  try have g4:=Mw g4 a1
  refine zh ?_;apply aa (k0 _ _ hU)
  apply L6 1 zk rfl;apply zc QB (iV (ints g) gv _ (kg _ _ hU))
  rintro _ wa ⟨rfl,c8⟩;rw[c8,hg.cnt];clear c8 wa;refine zh ?_;apply aa (k0 _ _ hU);apply L6 4 zk rfl;apply zc Qp (oI (many:Int) (kN g many rows) a6 _ (kn _ _ hU));rintro _ wb ⟨pv,ep,rfl,fP,f5,d2,gP⟩;have gP:=gP a4;rw[a4,if_neg zd]at fP;obtain⟨b9,b',d3,c7,c6,c5,n1,n2,n3,n4⟩:=gP;obtain⟨uv,bv,kv,a0,pe,f1,f2,f3,f4⟩:=fP;subst pe;obtain⟨rfl,rfl,rfl,rfl,rfl⟩:_=b9/\uv=b'/\bv=d3/\kv=c7/\a0=c6:=by simpa using c5
  have fU:=hU.size;have g1:=n1.free f1 (λx _=>by simp) hR;have g2:=n2.free f2 (λx _=>by simp) hR;have g3:=n3.free f3 (λx _=>by simp) hR;have g4:=n4.free f4 (λx _=>by simp) hR;have n1:=n1.mono fU;have n2:=n2.mono fU;have n3:=n3.mono fU;have n4:=n4.mono fU;have a7:=λO=>ae (S:=λ_=>False) (λh=>h) O d2
  have hU:=M4 hU ((a7 _).mono (λ_ h=>h.elim) zd);have hR:=Q0 hR (a7 _)
  try have fC:=Mb fC (a7 _) zd (λh=>h)
  refine zh ?_;refine zaf (k0 _ _ hU) λzS=>?_
  apply zrm 5 rfl zS rfl;apply zr 6 rfl zS (λ_=>N6 rfl rfl)
  apply zr 7 rfl zS (λ_=>N6 rfl rfl);exact N5 (hN (uv,bv,kv,a0,ep,pb,_,_) ⟨f1,f2,f3,f4,n1,n2,n3,n4,fC,hU,hR,g1,g2,g3,g4⟩) zk ⟨rfl,rfl,rfl,rfl,rfl,trivial⟩ rfl
 rintro⟨uv,bv,kv,a0,ep,pb,O7,w7⟩ ⟨f1,f2,f3,f4,n1,n2,n3,n4,b0,a8,h0,g1,g2,g3,g4⟩;dsimp only at f1 f2 f3 f4 n1 n2 n3 n4 b0 a8 h0 g1 g2 g3 g4 ⊢;have q1:=f1.one;have q2:=f2.one;have q3:=f3.one;have q4:=f4.one;have e1:=b2.upd a8 zd zd;have e5:=e6.upd a8 zd zd;apply L6 9 zk rfl;apply zsb (us:=#[nI (dS g many rows).width,uv,bv,kv,a0]) b0 (Qa _) (by simp only[LX,q1,q2,q3,q4];rfl);have e0:=b0.setRow (us:=#[nI (dS g many rows).width,uv,bv,kv,a0]);have d7:M6 (λj=>j=4) O7 w7 O7 (w7.setRow pb #[nI (dS g many rows).width,uv,bv,kv,a0]):=L5 zd b0.tag rfl;generalize w7.setRow pb #[nI (dS g many rows).width,uv,bv,kv,a0]=w8 at *;have b1:=e1.upd d7 zd zd;have b4:=e5.upd d7 zd zd;have c':=a8.trans d7;have d9:=a9.slU a' b8 ((a2.mono (S':=λq=>q=3\/q=4) (λ_ h=>.inl h) zd).trans (c'.mono (λ_ h=>.inr h) zd));have d':=(a9.free a' (λx _=>by simp) b8).upd ((a2.mono (S':=λq=>q=3\/q=4) (λ_ h=>.inl h) zd).trans (c'.mono (λ_ h=>.inr h) zd));refine zh ?_;apply aa (b1.cell 1 rfl);have e2:w8.cell? (nA nb 2)=some a5:=b1.cell 2 rfl;apply zra 10 rfl (b1.cell 1 rfl) rfl;apply Md zk;refine zh ?_;apply zv (ai (us:=[nI (dS g many rows).width,uv,bv,kv,a0]) e0.cellsAdd (isAgg26 _) (Qa _) rfl);obtain⟨ta,tc,g5,_⟩:=a'.shape;refine zh ?_;apply zv (MJ (cells:=#[nI (dS g many rows).width,uv,bv,kv,a0,a5]) LB (Qv _) rfl (by rw[g5];rfl))
 apply zsb (us:=#[nI (dS g many rows).width,uv,bv,kv,a0,a5]) b4 (MN _) (by simp only[LX,q1,q2,q3,q4,o3];rfl);have g7:=b4.setRow (us:=#[nI (dS g many rows).width,uv,bv,kv,a0,a5]);have f6:M6 (λj=>j=2) O7 w8 O7 (w8.setRow cb #[nI (dS g many rows).width,uv,bv,kv,a0,a5]):=L5 zd b4.tag rfl;have hU8z:=(d7.mono (S':=λq=>q=2\/q=4) (λ_ h=>.inr h) zd).trans (f6.mono (λ_ h=>.inl h) zd);have d5:=b5.size;refine zh ?_
 refine aL rfl rfl g7.cellsAdd (Ny _) (MN _) ⟨[nI (dS g many rows).width,uv,bv,kv,a0,a5],rfl,⟨uv,bv,kv,a0,a5,rfl,f1.upd g1 hU8z,f2.upd g2 hU8z,f3.upd g3 hU8z,f4.upd g4 hU8z,d9.upd d' f6⟩,λv hv=>?_,((b5.trans (a8.mono (λ_ h=>zo) zd)).trans (hU8z.mono (λ_ h=>zo) zd)).ext⟩;simp only[L7,LZ,or_false]at hv
 rcases hv with rfl|rfl|rfl|rfl|rfl|rfl
 ·exact λa n c e=>by cases e
 ·exact n1.mono d5
 ·exact n2.mono d5
 ·exact n3.mono d5
 ·exact n4.mono d5
 exact a9.mono b6.size
end Go.Proofs.YteolbhblkgjbhaaGreatDoor
section
namespace Go.VL
open Go.Proofs
theorem bT{P:NQ}{N:Nat}{ops:Array Q2}{Q:Exit->Act->L0->Prop}{a0:List Q2}{st:St}{t:Ml}{p:String}{e:Array Edge}{x y:Pg} 
     {cs us:Array ix}  (off:Nat) (a1:Array ix) (hb:N4 O w i b cs E) (a2:(cs.toList.take off++us.toList++cs.toList.drop (off+us.size)).toArray=a1) (hs:off+us.size<=cs.size) (hT:(sizeOf T).run P w=.ok us.size w) (h1:us.toList.all Mp=true)
  {q:NX} (hx:ev st x=some (.pointer (some q))) (hq:q=⟨b,off,none⟩) (hy:ev st y=some (.agg us))
  (h:WL P N ops Q a0 st (w.setRow b a1)):WL P N ops Q (⟨none,.store T x y,t,p,e,none⟩::a0) st w:=by
 subst a2;exact lI off hb hs hT h1 hx hq hy h
end Go.VL
namespace Go.Proofs.YteolbhblkgjbhaaGreatDoor
open Go.VL Go.Proofs
set_option maxRecDepth 10000
theorem It:cE M1 31 #[(0,1),(1,1),(2,1),(3,1),(4,1),(5,6),(11,6)]:=⟨_,underlying31,λw=>by kernel_rfl⟩
structure TabM where
 ig:Nat
 kp:Nat
 br:Nat
 rules:Int
 groups:List Int
 left:PP
 lt:List Nat
 right:PP
 rt:List Nat
abbrev fm(ig kp br:Nat)(rules:Int)(gv:ix)(lc rc:List ix):List ix:=[.int .u64 (ig:Int),.int .u64 (kp:Int),.int .u64 (br:Int),nI rules,gv]++lc++rc
def TabV(w:L0)(v:ix)(t:TabM):Prop:=∃gv lc rc,v=.agg (fm t.ig t.kp t.br t.rules gv lc rc).toArray/\Ng w gv t.groups/\PartV w lc t.left t.lt/\PartV w rc t.right t.rt
def TabN(B:Nat)(v:ix):Prop:=∀cs:List ix,v=.agg cs.toArray->Ji B cs
abbrev dZ:List ix:=[nI 0,nS,nS,nS,nS,nS]
abbrev pN:Array ix:=(fm 0 0 0 0 nS dZ dZ).toArray
def iF(ts:List R3):Nat->Nat
 |0=>0
 |i+1=>if(nth ts i).2.2=true then iF ts i ||| 2^i else iF ts i
theorem yl(ts:List R3):∀i,i<=40->iF ts i<2^40
 |0,_=>by unfold iF;decide
 |i+1,h=>by
  unfold iF
  split
  ·exact Mo (yl ts i zo) (Mr zd zo)
  exact yl ts i zo
abbrev nt(ts:List R3):List Nd:=ts.map (·.1)
abbrev fw(ts:List R3):List Nd:=ts.map (·.2.1)
def nZ(li lk:List Int)(ts:List R3)(A B:List (List Nat)×List Nat):TabM:=
 ⟨dr li,dr lk,iF ts ts.length,ts.length,ints (bV [A.1,B.1]),dS (bV [A.1,B.1]) (iu (ints (bV [A.1,B.1]))) A.1,A.2,dS (bV [A.1,B.1]) (iu (ints (bV [A.1,B.1]))) B.1,B.2⟩
def PostC(B:Nat)(w:L0)(v:ix)(li lk:List Int)(ts:List R3):Prop:=
 (eW li lk ts=false/\v=.tuple #[.agg pN,nI 1])\/eW li lk ts=true/\
  ((∃a b clA clB u,stM true (nt ts)=some a/\stM false (fw ts)=some b/\Mk a.1 a.2/\Mk b.1 b.2/\Cls clA a/\Cls clB b/\v=.tuple #[u,nI 0]/\TabV w u (nZ li lk ts (bh clA a.1 a.2) (bh clB b.1 b.2))/\TabN B u)\/
   ((stM true (nt ts)=none\/stM false (fw ts)=none)/\v=.tuple #[.agg pN,nI 7]))
theorem eA{ts:List R3}(h:eW li lk ts=true):ts.length<=40/\(∀c∈li,0<=c/\c<=35)/\(∀c∈lk,0<=c/\c<=35)/\∀t∈ts,rY t=true:=by
 have a0:∀ {l:List Int},kP l=true->∀c∈l,0<=c/\c<=35:=fun {l} h c hc=>by
  obtain⟨j,hj,rfl⟩:=ck hc;have:=bK.1 (show jj (Gl l) l.length=false by simpa[kP]using h) j hj;simp only[Gl,Bool.or_eq_false_iff,decide_eq_false_iff_not]at this;omega
 simp only[eW,L1,decide_eq_true_eq]at h;obtain⟨⟨⟨h1,h2⟩,h3⟩,h4⟩:=h;refine⟨zo,a0 h2,a0 h3,λt ht=>?_⟩;obtain⟨j,hj,rfl⟩:=ck ht;have:=bK.1 (show jj (λi=>!(rY (nth ts i))) ts.length=false by simpa[Kq]using h4) j hj;simpa using this
theorem PostSt.uni{o:Option (List (List Nat)×List Nat)}(h:PostSt B w v o):∃nv tv,∃e:Int,v=.tuple #[.agg #[nv,tv],nI e]/\nv.oneCell'=true/\tv.oneCell'=true/\(e≠0->o=none)/\
  (e=0->∃d cl,o=some d/\Mk d.1 d.2/\Cls cl d/\Qx B w nv (bh cl d.1 d.2).1/\Sl jh 1 w tv (bh cl d.1 d.2).2/\Pz B tv):=by
 cases o with
 |none=>
  obtain⟨e,he,rfl⟩:=h;exact⟨_,_,e,rfl,rfl,rfl,λ_=>rfl,λe0=>absurd e0 he⟩
 |some d=>
  obtain⟨cl,nv,tv,rfl,o1,o2,h1,h2,h3,h4,h5⟩:=h;exact⟨nv,tv,0,rfl,o1,o2,λe=>absurd rfl e,λ_=>⟨d,cl,rfl,h1,h2,h3,h4,h5⟩⟩
theorem fc(hr:Mk rows a0)(cl:Nat->Nat):Mk (bh cl rows a0).1 (bh cl rows a0).2:=by
 obtain⟨F,h⟩:=gH (cl:=cl) (tl:=nth a0) hr.nx (rows.length+1) 0 [0] [] [] (nX hr.pos) zo;have h1:=h.rl;have h2:=h.tln;have h3:=h.reps.len;have h4:=hr.le;have h5:=h.p0
 exact⟨by show 0<(gd _ _ _ _ _ _ _ _).1.length;omega,by show(gd _ _ _ _ _ _ _ _).1.length<=1000;omega,by show(gd _ _ _ _ _ _ _ _).2.length=(gd _ _ _ _ _ _ _ _).1.length;omega,λj hj=>by
  obtain⟨r1,r2⟩:=h.row j (by rw[<-h1];exact hj)
  exact⟨r1,λm hm=>by have:=(r2 m hm).1;rw[<-h1]at this;exact this⟩⟩
section
variable(li lk:List Int)(ts:List R3)(A B:List (List Nat)×List Nat)
theorem G6:(nZ li lk ts A B).ig=dr li:=rfl
theorem G5:(nZ li lk ts A B).kp=dr lk:=rfl
theorem G7:(nZ li lk ts A B).br=iF ts ts.length:=rfl
theorem Ap:(nZ li lk ts A B).rules=(ts.length:Int):=rfl
theorem xf:(nZ li lk ts A B).groups=ints (bV [A.1,B.1]):=rfl
theorem tT:(nZ li lk ts A B).left=dS (bV [A.1,B.1]) (iu (ints (bV [A.1,B.1]))) A.1:=rfl
theorem qp:(nZ li lk ts A B).right=dS (bV [A.1,B.1]) (iu (ints (bV [A.1,B.1]))) B.1:=rfl
theorem BR:(nZ li lk ts A B).lt=A.2:=rfl
theorem BQ:(nZ li lk ts A B).rt=B.2:=rfl
end
theorem Fx{B0:Nat}{ts:List R3}{xs:List X3}{b B:List (List Nat)×List Nat}{a6 a5:Nat->Nat}{a7:Nat}{pa pb:PP}(a8:eW li lk ts=true)(b4:stM true (nt ts)=some a)(b1:stM false (fw ts)=some b)(b5:Mk a.1 a.2)(b2:Mk b.1 b.2)(b6:Cls a6 a)(b3:Cls a5 b) 
  (hA:A=bh a6 a.1 a.2) (hB:B=bh a5 b.1 b.2) (a1:g=bV [A.1,B.1]) (a0:iu (ints g)=many) (a':pa=dS g many A.1) (a9:pb=dS g many B.1) (a4:a7=iF ts xs.length) (hl:ts.length=xs.length) (b0:Sl bm 1 w gv g) (b8:PartV w lc pa A.2) (b7:PartV w rc pb B.2)
  (n1:Pz B0 gv) (n2:Ji B0 lc) (n3:Ji B0 rc):PostC B0 w (.tuple #[.agg (fm (dr li) (dr lk) a7 (xs.length:Nat) gv lc rc).toArray,nI 0]) li lk ts:=by
 refine .inr ⟨a8,.inl ⟨a,b,a6,a5,_,b4,b1,b5,b2,b6,b3,rfl,?_,?_⟩⟩
 ·rw[<-hA,<-hB];have a0:iu (ints (bV [A.1,B.1]))=many:=by rw[<-a1];exact a0
  refine⟨gv,lc,rc,?_,?_,?_,?_⟩
  ·rw[G6,G5,G7,Ap,hl,<-a4]
  ·rw[xf,<-a1];exact b0.natIv
  ·rw[tT,BR,a0,<-a1,<-a'];exact b8
  rw[qp,BQ,a0,<-a1,<-a9];exact b7
 intro cs a3;have a2:cs=fm (dr li) (dr lk) a7 (xs.length:Nat) gv lc rc:=by
  have:=(Qr a3).symm;simpa using this
 subst a2;intro v hv
 rcases Mi.1 hv with hv|hv
 ·rcases Mi.1 hv with hv|hv
  ·simp only[L7,LZ,or_false]at hv
   rcases hv with rfl|rfl|rfl|rfl|rfl
   ·exact λa n c e=>by cases e
   ·exact λa n c e=>by cases e
   ·exact λa n c e=>by cases e
   ·exact λa n c e=>by cases e
   exact n1
  exact n2 v hv
 exact n3 v hv
set_option maxHeartbeats 1000000 in
theorem yj(li lk:List Int)(ts:List R3)(v:ix)(w:L0)(h:Tx w v li lk ts):
  MO M1 55 [v] w λu w'=>Ms w w'/\PostC w.heap.size w' u li lk ts:=by
 obtain⟨ig,kp,ru,xs,rfl,hi,hk,l9,hl,hx⟩:=h.ex;have i1:=hi.one;have i2:=hk.one;have i3:=l9.one;apply L2 func55 ntmps55 rfl rfl;refine zh ?_;apply aN (ax w) 1 zo rfl rfl;intro db w1 O1 t' hU1 hR1 hE1;apply ar hR1 2 zo (Mm _) rfl;intro cb w2 O2 u4 x9 hR2 hE2;have m6:=t'.upd x9 zd zd;have n8:M6 (λq=>1<=q) (λ_=>0) w O2 w2:=(hU1.mono (λ_ h=>zo) zd).trans (x9.mono (λ_ h=>zo) zd);have h8:=n8.ext;refine zh ?_;apply zv (ai (us:=[ig,kp,ru]) m6.cellsAdd (isAgg56 _) (sizeOf56 _) rfl);apply zc call24 (qz li lk ts xs ig kp ru w2 (hi.ext h8) (hk.ext h8) (l9.ext h8) hl (λi hi=>(hx i hi).ext h8));rintro _ w3 ⟨rfl,hE3⟩;have p9:M6 (λ_=>False) O2 w2 O2 w3:=ae (λh=>h) O2 hE3;have j9:=m6.upd p9 zd (λh=>h);have g8:=u4.upd p9 zd (λh=>h);have g1:=n8.trans (p9.mono (λ_ h=>h.elim) zd);have hR3:=hR2.upd p9;refine zh ?_
 by_cases s9:eW li lk ts=false
 ·refine zTH rfl ((by rw[s9];rfl)) ?_;apply zv (MJ (cells:=pN) It (Mm _) rfl rfl)
  apply zsa (us:=pN) g8 (Mu _);have j':=g8.setRow (us:=pN);have k6:M6 (λj=>j=2) O2 w3 O2 (w3.setRow cb pN):=L5 zd g8.tag rfl;refine zh ?_
  refine bE rfl rfl rfl j'.cellsAdd (Nj _) (Mu _) ⟨(g1.trans (k6.mono (λ_ h=>zo) zd)).ext,.inl ⟨s9,rfl⟩⟩
 have l':eW li lk ts=true:=by simpa using s9
 obtain⟨h40,x4,t5,hrr⟩:=eA l';apply aI rfl ((by rw[l'];rfl));have s8:=l9.ext g1.ext;refine zh ?_;have d0:=j9.drew.cellsAdd;apply aQ (λW=>∀j u,[ig,kp,ru][j]? = some u->W.cell? (nA db j)=some u) 12 rfl zk;apply zrf 0 rfl d0 rfl;apply zt 1 rfl d0 (λw1 a6=>RV.ld (a6 0 _ rfl) rfl);apply zrf 3 rfl d0 rfl;apply zt 4 rfl d0 (λw1 a6=>RV.ld (a6 1 _ rfl) rfl);apply zrf 6 rfl d0 rfl;apply zt 7 rfl d0 (λw1 a6=>RV.ld (a6 2 _ rfl) rfl);apply zr 8 rfl d0 (λ_=>bH s8.sh Pc rfl);refine iM (λx:Nat×(Nat->Nat)×World=>[(1,nP db),(2,nP cb),(4,.pointer (some ⟨x.1,0,none⟩)),(26,.agg (fm (dr li) (dr lk) 0 (xs.length:Nat) nS dZ dZ).toArray)]) (λx=>x.2.2) (λx=>N4 x.2.1 x.2.2 3 x.1 pN 31/\M6 (λq=>q=3) O2 w3 x.2.1 x.2.2/\Ns w.heap.size x.2.1 x.2.2) #[true,true,true,true,true,true,true,true,true,true,true,false] 1 ?_ ?_
 ·intro hN;have hR:=hR3.drew;have hU:M6 (λq=>q=3) O2 w3 O2 w3.drew:=ae zd O2 (L3 w3).drew;have k0:∀O W,M6 (λq=>q=3) O2 w3 O W->∀(j:Nat) (u:ix),[ig,kp,ru][j]? = some u->W.cell? (nA db j)=some u:=λO W u=>(j9.upd u zd zd).cellsAdd
  have ki:∀O W,M6 (λq=>q=3) O2 w3 O W->Sl encI 1 W ig li:=λO W u=>hi.ext (g1.trans (u.mono (λ_ h=>zo) zd)).ext
  have kk:∀O W,M6 (λq=>q=3) O2 w3 O W->Sl encI 1 W kp lk:=λO W u=>hk.ext (g1.trans (u.mono (λ_ h=>zo) zd)).ext
  refine bB 2 10 zk rfl rfl ?_ ?_ 
  ·apply zc PN (oi li ig _ (ki _ _ hU) x4);rintro _ wa ⟨rfl,c6⟩;rw[c6];clear c6 wa;refine zh ?_
   apply aa (k0 _ _ hU);refine bB 5 10 zk rfl rfl ?_ ?_ 
   ·apply zc PN (oi lk kp _ (kk _ _ hU) t5);rintro _ wa ⟨rfl,c6⟩;rw[c6];clear c6 wa;refine zh ?_
    apply aa (k0 _ _ hU);apply zr 9 rfl (k0 _ _ hU) (λ_=>MJ (cells:=(fm (dr li) (dr lk) 0 (xs.length:Nat) nS dZ dZ).toArray) It (Mm _) rfl rfl)
    apply L6 10 zk rfl;apply ar hR 3 zd (Mm _) rfl
    intro tb wc Oc fC b0 g2 y0;have hU:=M4 hU b0;have hR:=g2;refine zh ?_;apply aa (k0 _ _ hU);exact N5 (hN (tb,_,_) ⟨fC,hU,hR⟩) zk ⟨rfl,rfl,rfl,rfl,trivial⟩ rfl
   apply ar hR 3 zd (Mm _) rfl;intro tb wc Oc fC b0 g2 y0;have hU:=M4 hU b0;have hR:=g2;refine zh ?_
   apply aa (k0 _ _ hU);apply L6 5 zk rfl
   apply zc PN (oi lk kp _ (kk _ _ hU) t5);rintro _ wa ⟨rfl,c6⟩;rw[c6];clear c6 wa;refine zh ?_
   apply aa (k0 _ _ hU);apply zr 9 rfl (k0 _ _ hU) (λ_=>MJ (cells:=(fm (dr li) (dr lk) 0 (xs.length:Nat) nS dZ dZ).toArray) It (Mm _) rfl rfl)
   exact N5 (hN (tb,_,_) ⟨fC,hU,hR⟩) zk ⟨rfl,rfl,rfl,rfl,trivial⟩ rfl
  apply ar hR 3 zd (Mm _) rfl;intro tb wc Oc fC b0 g2 y0;have hU:=M4 hU b0;have hR:=g2;refine zh ?_
  apply aa (k0 _ _ hU);apply L6 2 zk rfl
  apply zc PN (oi li ig _ (ki _ _ hU) x4);rintro _ wa ⟨rfl,c6⟩;rw[c6];clear c6 wa;refine zh ?_
  apply aa (k0 _ _ hU);apply L6 5 zk rfl
  apply zc PN (oi lk kp _ (kk _ _ hU) t5);rintro _ wa ⟨rfl,c6⟩;rw[c6];clear c6 wa;refine zh ?_
  apply aa (k0 _ _ hU);apply zr 9 rfl (k0 _ _ hU) (λ_=>MJ (cells:=(fm (dr li) (dr lk) 0 (xs.length:Nat) nS dZ dZ).toArray) It (Mm _) rfl rfl)
  exact N5 (hN (tb,_,_) ⟨fC,hU,hR⟩) zk ⟨rfl,rfl,rfl,rfl,trivial⟩ rfl
 rintro⟨tb,O4,w4⟩ ⟨g5,r6,x'⟩;dsimp only at g5 r6 x' ⊢;have t9:=j9.upd r6 zd zd;have u3:=g8.upd r6 zd zd;apply L6 11 zk rfl;apply zsa (us:=(fm (dr li) (dr lk) 0 (xs.length:Nat) nS dZ dZ).toArray) g5 (Mu _);have s6:=g5.setRow (us:=(fm (dr li) (dr lk) 0 (xs.length:Nat) nS dZ dZ).toArray);have q':M6 (λj=>j=3) O4 w4 O4 (w4.setRow tb (fm (dr li) (dr lk) 0 (xs.length:Nat) nS dZ dZ).toArray):=L5 zd g5.tag rfl;generalize w4.setRow tb (fm (dr li) (dr lk) 0 (xs.length:Nat) nS dZ dZ).toArray=w5 at *;have m5:=t9.upd q' zd zd;have u0:=u3.upd q' zd zd;have hR5:=x'.upd q';have n7:=g1.trans ((r6.trans q').mono (λ_ h=>zo) zd);refine zh ?_;apply aa m5.cellsAdd;have y7:=l9.ext n7.ext;have c2:w5.cell? (nA db 2)=some ru:=m5.cell 2 rfl;have z6:(2^40:Nat)=1099511627776:=zd;apply Md zk;refine zh ?_
 apply zlp (λz:Nat×(Nat->Nat)×World×ix×ix=>[(1,nP db),(2,nP cb),(4,nP tb),(5,z.2.2.2.1),(6,z.2.2.2.2),(28,ru),(29,nI xs.length),(30,nI z.1)]) (λz=>z.2.2.1) (λz=>z.1<=xs.length/\M6 (λq=>3<=q) O4 w5 z.2.1 z.2.2.1/\Ns w.heap.size z.2.1 z.2.2.1/\N4 z.2.1 z.2.2.1 3 tb (fm (dr li) (dr lk) (iF ts z.1) (xs.length:Nat) nS dZ dZ).toArray 31/\NF aX 120 3 z.2.1 z.2.2.1 4 z.2.2.2.1 ((xs.take z.1).map (·.1))/\NF aX 120 3 z.2.1 z.2.2.1 5 z.2.2.2.2 ((xs.take z.1).map (·.2.1))) (λz=>xs.length-z.1) (0,O4,w5,nS,nS) ⟨LO _,PO zd _ _,hR5,s6,NZ _ _ _ _ _ _,NZ _ _ _ _ _ _⟩;rintro⟨i,O9,w9,lv,rv⟩ ⟨z1,p',j3,j6,g7,g6⟩;dsimp only at z1 p' j3 j6 g7 g6 ⊢;have h0:=n7.trans (p'.mono (λ_ h=>zo) zd);have s7:=l9.ext h0.ext;have hxl:xs.length<=40:=zo;refine zh ?_
 refine zC ?_ ?_
 ·intro i5;replace i5:i<xs.length:=dT i5;obtain⟨x,p5⟩:∃x,x=nth xs i:=⟨_,rfl⟩
  have p4:=hx i i5;rw[<-p5]at p4;have p1:=p4.1.one;have p2:=p4.2.1.one;have y8:(bP x).toArray.toList.all Mp=true:=by obtain⟨x1,x2,bk⟩:=x;exact kM p1 p2
  refine zh ?_;apply zv (ai (us:=bP x) (λj u hu=>s7.cell i5 (by rw[<-p5];exact hu)) (MH _) (Mg _) rfl)
  apply ar j3 6 zo (MG _) rfl;intro rb l0 O10 e5 u9 k8 p0;refine zh ?_
  apply zsb (us:=(bP x).toArray) e5 (Mg _) y8;have e4:=e5.setRow (us:=(bP x).toArray);have h7:M6 (λj=>j=6) O10 l0 O10 (l0.setRow rb (bP x).toArray):=L5 zd e5.tag rfl;generalize l0.setRow rb (bP x).toArray=d7 at *;have d3:=u9.trans h7;have l6:=j6.upd d3 zd zd;have m2:=g7.upd d3 zd zd;have m0:=g6.upd d3 zd zd;have k7:=k8.upd h7;obtain⟨y6,y5,rc3,_⟩:=gz e4;have hll:((xs.take i).map (·.1)).length=i:=by simp;omega
  have hrl:((xs.take i).map (·.2.1)).length=i:=by simp;omega
  refine zh ?_;apply aQ (λW=>(∀(q:Nat) (u:ix),(aX x.1)[q]? = some u->W.cell? (nA rb q)=some u)/\(∀(q:Nat) (u:ix),(aX x.2.1)[q]? = some u->W.cell? ((nA rb 3).add q)=some u)) 12 rfl zk
  refine zin ⟨y6 _ (L3 d7).drew,y5 _ (L3 d7).drew⟩ λzS=>?_
  apply zrm 0 rfl zS rfl;apply zrf 1 rfl zS rfl
  apply zt 2 rfl zS (λw1 a6=>ai (us:=aX x.1) a6.1 (M9 _) (L9 _) rfl);apply zrm 5 rfl zS rfl
  apply zrf 6 rfl zS rfl;apply zt 7 rfl zS (λw1 a6=>ai (us:=aX x.2.1) a6.2 (M9 _) (L9 _) rfl)
  refine iM (λy:ix×ix×(Nat->Nat)×World=>[(1,nP db),(2,nP cb),(4,nP tb),(7,nI (i:Nat)),(8,nP rb),(28,ru),(29,nI xs.length),(30,nI (i:Nat)),(39,y.1),(44,y.2.1)]) (λy=>y.2.2.2) (λy=>NF aX 120 3 y.2.2.1 y.2.2.2 4 y.1 ((xs.take i).map (·.1)++[x.1])/\NF aX 120 3 y.2.2.1 y.2.2.2 5 y.2.1 ((xs.take i).map (·.2.1)++[x.2.1])/\M6 (λq=>q=4\/q=5\/q=7\/q=8) O10 d7 y.2.2.1 y.2.2.2/\Ns w.heap.size y.2.2.1 y.2.2.2) #[true,true,true,true,true,true,true,true,true,true,false,false] 2 ?_ ?_
  ·intro hN;have hR:=k7.drew;have hU:M6 (λq=>q=4\/q=5\/q=7\/q=8) O10 d7 O10 d7.drew:=ae zd O10 (L3 d7).drew;have k0:∀O W,M6 (λq=>q=4\/q=5\/q=7\/q=8) O10 d7 O W->(∀(q:Nat) (u:ix),(aX x.1)[q]? = some u->W.cell? (nA rb q)=some u)/\(∀(q:Nat) (u:ix),(aX x.2.1)[q]? = some u->W.cell? ((nA rb 3).add q)=some u):=λO W u=>by
    obtain⟨r1,r2,_,_⟩:=gz (e4.upd u zd zd);exact⟨r1 _ (L3 _),r2 _ (L3 _)⟩
   have rA:=m2.drew;have rB:=m0.drew;refine bB 3 8 zk rfl rfl ?_ ?_ 
   ·apply aM elN (enc:=aX) hR 7 zd x.1 rfl rfl rfl zd rfl;intro y4 Wa Oa sA g9 u';have hU:=M4 hU (MB g9 (λ_ h=>.inr (.inr (.inl h))) zd);have hR:=u';have rA:=M0 rA g9 zd zd;have rB:=M0 rB g9 zd zd
    try have sB:=M0 sB g9 zd zd
    refine zh ?_;apply aa (k0 _ _ hU)
    refine bB 4 8 zk rfl rfl ?_ ?_ 
    ·apply aD elN rA hR sA.sl (by simp) rfl rfl (by simp) (λu hu c hc=>by rw[ln.1 hu]at hc;simp only[aX,L7,LZ,or_false]at hc;rcases hc with rfl|rfl|rfl;rfl;rfl;exact p1) (by simp only[L4];omega) (by simp only[L4];omega) zd rfl;intro h' Wc Oc rA b0 g2;have hU:=M4 hU (MB b0 (λ_ h=>.inl h) zd);have hR:=g2;have rB:=M0 rB b0 zd zd
     try have sB:=M0 sB b0 zd zd
     refine zh ?_;apply aa (k0 _ _ hU)
     apply L6 8 zk rfl;apply aM elN (enc:=aX) hR 8 zd x.2.1 rfl rfl rfl zd rfl
     intro w6 Wb Ob sB d1 o5;have hU:=M4 hU (MB d1 (λ_ h=>.inr (.inr (.inr h))) zd);have hR:=o5;have rA:=M0 rA d1 zd zd;have rB:=M0 rB d1 zd zd
     try have sA:=M0 sA d1 zd zd
     refine zh ?_;apply aa (k0 _ _ hU)
     apply L6 9 zk rfl;apply aD elN rB hR sB.sl (by simp) rfl rfl (by simp) (λu hu c hc=>by rw[ln.1 hu]at hc;simp only[aX,L7,LZ,or_false]at hc;rcases hc with rfl|rfl|rfl;rfl;rfl;exact p2) (by simp only[L4];omega) (by simp only[L4];omega) zd rfl
     intro h9 Wd Od rB g3 o4;have hU:=M4 hU (MB g3 (λ_ h=>.inr (.inl h)) zd);have hR:=o4;have rA:=M0 rA g3 zd zd;refine zh ?_;apply aa (k0 _ _ hU);exact N5 (hN (h',h9,_,_) ⟨rA,rB,hU,hR⟩) zk ⟨rfl,rfl,rfl,rfl,rfl,rfl,rfl,rfl,rfl,rfl,trivial⟩ rfl
    apply aM elN (enc:=aX) hR 8 zd x.2.1 rfl rfl rfl zd rfl;intro w6 Wb Ob sB d1 o5;have hU:=M4 hU (MB d1 (λ_ h=>.inr (.inr (.inr h))) zd);have hR:=o5;have rA:=M0 rA d1 zd zd;have rB:=M0 rB d1 zd zd
    try have sA:=M0 sA d1 zd zd
    refine zh ?_;apply aa (k0 _ _ hU)
    apply L6 4 zk rfl;apply aD elN rA hR sA.sl (by simp) rfl rfl (by simp) (λu hu c hc=>by rw[ln.1 hu]at hc;simp only[aX,L7,LZ,or_false]at hc;rcases hc with rfl|rfl|rfl;rfl;rfl;exact p1) (by simp only[L4];omega) (by simp only[L4];omega) zd rfl
    intro h' Wc Oc rA b0 g2;have hU:=M4 hU (MB b0 (λ_ h=>.inl h) zd);have hR:=g2;have rB:=M0 rB b0 zd zd
    try have sB:=M0 sB b0 zd zd
    refine zh ?_;apply aa (k0 _ _ hU)
    apply L6 9 zk rfl;apply aD elN rB hR sB.sl (by simp) rfl rfl (by simp) (λu hu c hc=>by rw[ln.1 hu]at hc;simp only[aX,L7,LZ,or_false]at hc;rcases hc with rfl|rfl|rfl;rfl;rfl;exact p2) (by simp only[L4];omega) (by simp only[L4];omega) zd rfl
    intro h9 Wd Od rB g3 o4;have hU:=M4 hU (MB g3 (λ_ h=>.inr (.inl h)) zd);have hR:=o4;have rA:=M0 rA g3 zd zd;refine zh ?_;apply aa (k0 _ _ hU);exact N5 (hN (h',h9,_,_) ⟨rA,rB,hU,hR⟩) zk ⟨rfl,rfl,rfl,rfl,rfl,rfl,rfl,rfl,rfl,rfl,trivial⟩ rfl
   apply aM elN (enc:=aX) hR 8 zd x.2.1 rfl rfl rfl zd rfl;intro w6 Wb Ob sB d1 o5;have hU:=M4 hU (MB d1 (λ_ h=>.inr (.inr (.inr h))) zd);have hR:=o5;have rA:=M0 rA d1 zd zd;have rB:=M0 rB d1 zd zd
   try have sA:=M0 sA d1 zd zd
   refine zh ?_;apply aa (k0 _ _ hU)
   apply L6 3 zk rfl;apply aM elN (enc:=aX) hR 7 zd x.1 rfl rfl rfl zd rfl
   intro y4 Wa Oa sA g9 u';have hU:=M4 hU (MB g9 (λ_ h=>.inr (.inr (.inl h))) zd);have hR:=u';have rA:=M0 rA g9 zd zd;have rB:=M0 rB g9 zd zd
   try have sB:=M0 sB g9 zd zd
   refine zh ?_;apply aa (k0 _ _ hU)
   apply L6 4 zk rfl;apply aD elN rA hR sA.sl (by simp) rfl rfl (by simp) (λu hu c hc=>by rw[ln.1 hu]at hc;simp only[aX,L7,LZ,or_false]at hc;rcases hc with rfl|rfl|rfl;rfl;rfl;exact p1) (by simp only[L4];omega) (by simp only[L4];omega) zd rfl
   intro h' Wc Oc rA b0 g2;have hU:=M4 hU (MB b0 (λ_ h=>.inl h) zd);have hR:=g2;have rB:=M0 rB b0 zd zd
   try have sB:=M0 sB b0 zd zd
   refine zh ?_;apply aa (k0 _ _ hU)
   apply L6 9 zk rfl;apply aD elN rB hR sB.sl (by simp) rfl rfl (by simp) (λu hu c hc=>by rw[ln.1 hu]at hc;simp only[aX,L7,LZ,or_false]at hc;rcases hc with rfl|rfl|rfl;rfl;rfl;exact p2) (by simp only[L4];omega) (by simp only[L4];omega) zd rfl
   intro h9 Wd Od rB g3 o4;have hU:=M4 hU (MB g3 (λ_ h=>.inr (.inl h)) zd);have hR:=o4;have rA:=M0 rA g3 zd zd;refine zh ?_;apply aa (k0 _ _ hU);exact N5 (hN (h',h9,_,_) ⟨rA,rB,hU,hR⟩) zk ⟨rfl,rfl,rfl,rfl,rfl,rfl,rfl,rfl,rfl,rfl,trivial⟩ rfl
  rintro⟨h',h9,O12,g4⟩ ⟨e6,a',b8,a5⟩;dsimp only at e6 a' b8 a5 ⊢;have m1:=e4.upd b8 zd zd;have a9:=l6.upd b8 zd zd;obtain⟨s1,s2,s3,_⟩:=gz m1;have b3:=(p'.trans (d3.mono (λ_ h=>zo) zd)).trans (b8.mono (λ_ h=>zo) zd);have s3':=s3 _ (L3 _);have x6:x.2.2=(nth ts i).2.2:=p4.2.2;have el:(xs.take (i+1)).map (·.1)=(xs.take i).map (·.1)++[x.1]:=by rw[aY i5,MK,<-p5];rfl
  have er:(xs.take (i+1)).map (·.2.1)=(xs.take i).map (·.2.1)++[x.2.1]:=by rw[aY i5,MK,<-p5];rfl
  refine zin ⟨s1 _ (L3 _),s2 _ (L3 _)⟩ λzS=>?_
  apply zra 10 rfl zS rfl;apply zra 11 rfl zS rfl
  apply Md zk;refine zh ?_
  have z3:=yl ts i zo;refine zC ?_ ?_
  ·intro hb;have u5:iF ts (i+1)=iF ts i ||| 2^i:=by rw[show iF ts (i+1)=if(nth ts i).2.2=true then iF ts i ||| 2^i else iF ts i from rfl,if_pos (by rw[<-x6];exact hb)]
   have hpw:2^i<2^40:=Mr zd zo;have t2:g4.cell? (nA tb 2)=some (.int .u64 ((iF ts i:Nat):Int)):=a9.cell 2 rfl;apply ND 6 rfl rfl zk zk;refine zh ?_;apply zw (yD (a:=1) (b:=i) rfl rfl rfl rfl (by show _<=64;omega) (by show _<=(18446744073709551615:Int);omega));rw[Nu];refine zwH (vP (a:=iF ts i) (b:=2^i) rfl rfl rfl rfl (by show _<=(18446744073709551615:Int);omega) (by show _<=(18446744073709551615:Int);omega)) ?_;apply Pw;rw[<-u5];apply ak (j:=2) a9.drew rfl (Qb _) rfl rfl rfl rfl;have h6:M6 (λj=>j=3) O12 g4.drew O12 (g4.drew.setCell ⟨tb,2,none⟩ (.int .u64 ((iF ts (i+1):Nat):Int))):=MA zd a9.tag rfl;have l5:N4 O12 (g4.drew.setCell ⟨tb,2,none⟩ (.int .u64 ((iF ts (i+1):Nat):Int))) 3 tb (fm (dr li) (dr lk) (iF ts (i+1)) (xs.length:Nat) nS dZ dZ).toArray 31:=a9.drew.set 2 _;generalize g4.drew.setCell ⟨tb,2,none⟩ (.int .u64 ((iF ts (i+1):Nat):Int))=s0 at *;refine zh ?_;refine zxd (i+1,O12,s0,h',h9) ⟨i5,b3.drew.trans (h6.mono (λ_ h=>zo) zd),a5.drew.upd h6,l5,by dsimp only;rw[el];exact e6.drew.upd h6 zd zd,by dsimp only;rw[er];exact a'.drew.upd h6 zd zd⟩
  intro hb;have u5:iF ts (i+1)=iF ts i:=by rw[show iF ts (i+1)=if(nth ts i).2.2=true then iF ts i ||| 2^i else iF ts i from rfl,if_neg (by rw[<-x6,hb];decide)]
  refine zh ?_;refine zxd (i+1,O12,g4,h',h9) ⟨i5,b3,a5,by dsimp only;rw[u5];exact a9,by dsimp only;rw[el];exact e6,by dsimp only;rw[er];exact a'⟩
 intro p6;obtain rfl:i=xs.length:=dF p6;rw[ME]at g7 g6;have hR9':=j3;refine zh ?_;apply zc call90 (qq true (nt ts) (xs.map (·.1)) lv w9 g7.sl (by simp[hl]) (λj hj=>by rw[Mc]at hj;rw[dU hj,show nt ts=ts.map (·.1)from rfl,dU zo];exact(hx j hj).1.ext h0.ext));rintro va l0 ⟨p0,hPa⟩;obtain⟨e0,d9,ea,rfl,a1,a2,ha0,ha1⟩:=hPa.uni;have k5:M6 (λ_=>False) O9 w9 O9 l0:=ae (λh=>h) O9 p0;have k8:=j3.upd k5;refine zh ?_;apply ar k8 7 zo (Mx _) rfl;intro ab d7 O11 f4 h7 k7 hE11;apply zsb (us:=#[e0,d9]) f4 (Me _) (by simp only[LX,a1,a2];rfl);have n3:=f4.setRow (us:=#[e0,d9]);have b8:M6 (λj=>j=7) O11 d7 O11 (d7.setRow ab #[e0,d9]):=L5 zd f4.tag rfl;generalize d7.setRow ab #[e0,d9]=g4 at *;have g0:=h7.trans b8;have b3:=(k5.mono (S':=λq=>q=7) (λ_ h=>h.elim) zd).trans g0;have a5:=k7.upd b8;have a':=g6.upd b3 zd zd;have n5:=h0.trans (b3.mono (λ_ h=>zo) zd);refine zh ?_;apply zc call90 (qq false (fw ts) (xs.map (·.2.1)) rv g4 a'.sl (by simp[hl]) (λj hj=>by rw[Mc]at hj;rw[dU hj,show fw ts=ts.map (·.2.1)from rfl,dU zo];exact(hx j hj).2.1.ext n5.ext));rintro vb s0 ⟨v6,hPb⟩;obtain⟨d',d8,eb,rfl,b1,b2,z8,z7⟩:=hPb.uni;have n4:M6 (λ_=>False) O11 g4 O11 s0:=ae (λh=>h) O11 v6;have v2:=a5.upd n4;refine zh ?_;apply ar v2 8 zo (Mx _) rfl
 intro bb r' O14 e' u7 v1 hE14;apply zsb (us:=#[d',d8]) e' (Me _) (by simp only[LX,b1,b2];rfl);have i':=e'.setRow (us:=#[d',d8]);have n6:M6 (λj=>j=8) O14 r' O14 (r'.setRow bb #[d',d8]):=L5 zd e'.tag rfl;generalize r'.setRow bb #[d',d8]=w15 at *;have b7:=u7.trans n6;have f8:=(n4.mono (S':=λq=>q=8) (λ_ h=>h.elim) zd).trans b7;have b9:=(g0.mono (S':=λq=>q=7\/q=8) (λ_ h=>.inl h) zd).trans (f8.mono (λ_ h=>.inr h) zd);have f5:=(k5.mono (S':=λq=>q=7\/q=8) (λ_ h=>h.elim) zd).trans b9;have o7:=v1.upd n6;have d2:=h0.trans (f5.mono (λ_ h=>zo) zd);have j1:=n3.upd f8 zd zd;have l4:=j6.upd f5 zd zd;have a4:=(u0.upd p' zd zd).upd f5 zd zd;refine zh ?_
 by_cases p8:ea=0
 ·apply au (d:=66) rfl (b':=false) ((by rw[p8];rfl));refine zh ?_
  by_cases p7:eb=0
  ·obtain⟨a,y3,z9,x8,z',j8,j5,l3⟩:=ha1 p8;obtain⟨b,y2,z4,x7,z5,j7,j4,l2⟩:=z7 p7;have r8:=fc x8 y3;have r7:=fc x7 y2;obtain⟨A,hA⟩:∃A,A=bh y3 a.1 a.2:=⟨_,rfl⟩
   obtain⟨B,hB⟩:∃B,B=bh y2 b.1 b.2:=⟨_,rfl⟩
   rw[<-hA]at r8 j8 j5;rw[<-hB]at r7 j7 j4;refine zFH rfl ((by rw[p7];rfl)) ?_;apply zv (ai (us:=[e0,d9]) j1.cellsAdd (MY _) (Me _) rfl);apply zv (ai (us:=[d',d8]) i'.cellsAdd (MY _) (Me _) rfl);apply cp underlying218 (Me _) (Mx _) A0 [(e0,d9),(d',d8)] rfl rfl rfl rfl zk (by simp) rfl;intro l1 p3 l8 o';have g':M6 (λ_=>False) O14 w15 O14 p3:=ae (λh=>h) O14 o';have f':=b9.trans (g'.mono (S':=λq=>q=7\/q=8) (λ_ h=>h.elim) zd);have f7:=b7.trans (g'.mono (S':=λq=>q=8) (λ_ h=>h.elim) zd);have v':=j8.upd j3 f';have v8:=j7.upd a5 f7;have o2:=l3.slU j5 j3 f';have o0:=l2.slU j4 a5 f7
   have n9:TabsD p3 l1 [(e0,d9),(d',d8)] [A.1,B.1] [A.2,B.2]:=⟨l8,rfl,rfl,λi hi=>by
    match i,hi with
    |0,_=>exact⟨by rw[ao,ao];exact v'.rows,by rw[ao,ao];exact o2,by rw[ao,ao];exact r8⟩
    |1,_=>exact⟨by rw[aS,aS,ao,ao];exact v8.rows,by rw[aS,aS,ao,ao];exact o0,by rw[aS,aS,ao,ao];exact r7⟩⟩
   apply zc call91 (AW [(e0,d9),(d',d8)] [A.1,B.1] [A.2,B.2] l1 p3 n9 (by simp));rintro gv k' ⟨c8,v5,i6⟩;obtain⟨many,hg,m4⟩:=qU [A.1,B.1];obtain⟨g,p6⟩:∃g,g=bV [A.1,B.1]:=⟨_,rfl⟩
   rw[<-p6]at hg m4 c8;have x5:∀T∈[A,B],∀p,p<T.1.length->∀i j,i<37->j<37->nth g i=nth g j->nth (nth T.1 p) i=nth (nth T.1 p) j:=λT hT p hp i j hi hj e=>by
    refine zU (tabs:=[A.1,B.1]) (λrows e2 r hr=>?_) ((m4 i j hi hj).1 e) T.1 ?_ _ (aW hp)
    ·have o3:∃w0,Mk rows w0:=by
      rcases L7.1 e2 with rfl|e2
      ·exact⟨_,r8⟩
      rw[ln.1 e2];exact⟨_,r7⟩
     obtain⟨w0,o3⟩:=o3;obtain⟨q,hq,rfl⟩:=ck hr;have h1:=(o3.row q hq).2 i hi;have h2:=(o3.row q hq).2 j hj;have:=o3.le;omega
    rcases L7.1 hT with rfl|hT
    ·simp
    rw[ln.1 hT];simp
   have u6:M6 (λ_=>False) O14 p3 O14 k':=ae (λh=>h) O14 v5;have b6:=g'.trans u6;have e1:=l4.upd b6 zd (λh=>h);have v0:=o7.upd b6;have y1:=c8.one;have i8:=i6.free c8 (λx _=>by simp) (o7.upd g');refine zh ?_;apply ak (j:=4) e1 rfl (sizeOf22 _) y1 rfl rfl rfl;have h5:M6 (λj=>j=3) O14 k' O14 (k'.setCell ⟨tb,4,none⟩ gv):=MA zd e1.tag rfl;have c7:N4 O14 (k'.setCell ⟨tb,4,none⟩ gv) 3 tb (fm (dr li) (dr lk) (iF ts xs.length) (xs.length:Nat) gv dZ dZ).toArray 31:=e1.set 4 _;generalize k'.setCell ⟨tb,4,none⟩ gv=w18 at *;have e7:=c8.upd i8 h5;have i7:=i8.upd h5;have o6:=v0.upd h5;have a0:=(b6.mono (S':=λq=>q=3) (λ_ h=>h.elim) zd).trans h5;have c':=j1.upd a0 zd zd;have c9:=i'.upd a0 zd zd;have m9:=a4.upd a0 zd zd;have j2:=d2.trans (a0.mono (λ_ h=>zo) zd);have f9:=(b9.mono (S':=λq=>q=3\/q=7\/q=8) (λ_ h=>.inr h) zd).trans (a0.mono (λ_ h=>.inl h) zd);have f6:=(b7.mono (S':=λq=>q=3\/q=8) (λ_ h=>.inr h) zd).trans (a0.mono (λ_ h=>.inl h) zd);have v9:=j8.upd j3 f9;have v7:=j7.upd a5 f6;have o1:=l3.slU j5 j3 f9;have n':=l2.slU j4 a5 f6;refine zh ?_;have d4:w18.drew.cell? (nA tb 4)=some gv:=c7.cell 4 rfl;apply aQ (λW=>W.cell? (nA tb 4)=some gv/\(∀j u,[e0,d9][j]? = some u->W.cell? (nA ab j)=some u)/\∀j u,[d',d8][j]? = some u->W.cell? (nA bb j)=some u) 12 rfl zk;refine zin ⟨d4,c'.drew.cellsAdd,c9.drew.cellsAdd⟩ λzS=>?_
   apply zrf 0 rfl zS rfl;apply zt 1 rfl zS (λw1 a6=>RV.ld a6.1 rfl)
   apply zt 2 rfl zS (λw1 a6=>ai (us:=[e0,d9]) a6.2.1 (MY _) (Me _) rfl);apply zrf 4 rfl zS rfl
   apply zt 5 rfl zS (λw1 a6=>RV.ld a6.1 rfl);apply zt 6 rfl zS (λw1 a6=>ai (us:=[d',d8]) a6.2.2 (MY _) (Me _) rfl)
   have g3:M6 (λ_=>False) O14 w18 O14 w18.drew:=ae (λh=>h) O14 (L3 w18).drew;apply L6 3 zk rfl;apply zc call92 (zi g many gv e0 d9 A.1 A.2 w18.drew hg e7.drew (v9.ext (L3 w18).drew).rows o1.drew r8 (x5 A (by simp)));rintro _ r9 ⟨lc,rfl,y',t4,o9⟩;have d5:M6 (λ_=>False) O14 w18 O14 r9:=g3.trans (ae (λh=>h) O14 o9);have a3:Ms w18 r9:=(L3 w18).drew.trans o9;refine zh ?_;apply aa ⟨a3.cell (c7.cell 4 rfl),(c'.upd d5 zd (λh=>h)).cellsAdd,(c9.upd d5 zd (λh=>h)).cellsAdd⟩;apply zrf 8 rfl ⟨a3.cell (c7.cell 4 rfl),(c'.upd d5 zd (λh=>h)).cellsAdd,(c9.upd d5 zd (λh=>h)).cellsAdd⟩ rfl;apply L6 7 zk rfl;apply zc call92 (zi g many gv d' d8 B.1 B.2 r9 hg (e7.ext a3) (v7.ext a3).rows (n'.ext a3) r7 (x5 B (by simp)));rintro _ k9 ⟨rc,rfl,y9,e3,o8⟩;have b5:M6 (λ_=>False) O14 w18 O14 k9:=d5.trans (ae (λh=>h) O14 o8);have a8:=c7.upd b5 zd (λh=>h);have j0:=c'.upd b5 zd (λh=>h);have i9:=c9.upd b5 zd (λh=>h);have m8:=m9.upd b5 zd (λh=>h);have m3:=y'.ext o8;refine zh ?_;apply aa ⟨a8.cell 4 rfl,j0.cellsAdd,i9.cellsAdd⟩;obtain⟨u1,b4,k1,n1,t1,t6,s5,k4,t8,t3,w8⟩:=m3;obtain⟨u2,d6,k2,n2,t2,s',s4,k3,t7,t0,w7⟩:=y9;subst t6;subst s';have q1:=s5.one;have q2:=k4.one;have q3:=t8.one;have q4:=t3.one;have q5:=w8.one;have r1:=s4.one;have r2:=k3.one;have r3:=t7.one;have r4:=t0.one;have r5:=w7.one;obtain⟨pa,x3⟩:∃pa,pa=dS g many A.1:=⟨_,rfl⟩
   obtain⟨pb,x0⟩:∃pb,pb=dS g many B.1:=⟨_,rfl⟩
   rw[<-x3]at s5 k4 t8 t3 t4 ⊢;rw[<-x0]at s4 k3 t7 t0 e3 ⊢;obtain⟨c5,m'⟩:∃c5,c5=iF ts xs.length:=⟨_,rfl⟩
   rw[<-m']at a8;apply L6 9 zk rfl;apply bT (us:=#[nI pa.width,u1,b4,k1,n1,t1]) 5 (fm (dr li) (dr lk) c5 (xs.length:Nat) gv [nI pa.width,u1,b4,k1,n1,t1] dZ).toArray a8 rfl (by show 5+6<=17;omega) (MN _) (by simp only[LX,q1,q2,q3,q4,q5];rfl) rfl rfl rfl;have a7:=a8.setRow (us:=(fm (dr li) (dr lk) c5 (xs.length:Nat) gv [nI pa.width,u1,b4,k1,n1,t1] dZ).toArray);have h4:M6 (λj=>j=3) O14 k9 O14 (k9.setRow tb (fm (dr li) (dr lk) c5 (xs.length:Nat) gv [nI pa.width,u1,b4,k1,n1,t1] dZ).toArray):=L5 zd a8.tag rfl;generalize k9.setRow tb (fm (dr li) (dr lk) c5 (xs.length:Nat) gv [nI pa.width,u1,b4,k1,n1,t1] dZ).toArray=w21 at *;have f3:=j0.upd h4 zd zd;have e9:=i9.upd h4 zd zd;have m7:=m8.upd h4 zd zd;refine zh ?_;apply aa ⟨a7.cell 4 rfl,f3.cellsAdd,e9.cellsAdd⟩;apply zrf 10 rfl ⟨a7.cell 4 rfl,f3.cellsAdd,e9.cellsAdd⟩ rfl;apply L6 11 zk rfl;apply bT (us:=#[nI pb.width,u2,d6,k2,n2,t2]) 11 (fm (dr li) (dr lk) c5 (xs.length:Nat) gv [nI pa.width,u1,b4,k1,n1,t1] [nI pb.width,u2,d6,k2,n2,t2]).toArray a7 rfl (by show 11+6<=17;omega) (MN _) (by simp only[LX,r1,r2,r3,r4,r5];rfl) rfl rfl rfl;have i0:=a7.setRow (us:=(fm (dr li) (dr lk) c5 (xs.length:Nat) gv [nI pa.width,u1,b4,k1,n1,t1] [nI pb.width,u2,d6,k2,n2,t2]).toArray)
   have h3:M6 (λj=>j=3) O14 w21 O14 (w21.setRow tb (fm (dr li) (dr lk) c5 (xs.length:Nat) gv [nI pa.width,u1,b4,k1,n1,t1] [nI pb.width,u2,d6,k2,n2,t2]).toArray):=L5 zd a7.tag rfl;generalize w21.setRow tb (fm (dr li) (dr lk) c5 (xs.length:Nat) gv [nI pa.width,u1,b4,k1,n1,t1] [nI pb.width,u2,d6,k2,n2,t2]).toArray=w22 at *;have e8:=m7.upd h3 zd zd;refine zh ?_;apply aa ⟨i0.cell 4 rfl,(f3.upd h3 zd zd).cellsAdd,(e9.upd h3 zd zd).cellsAdd⟩;have go2:=y1;have n0:(fm (dr li) (dr lk) c5 (xs.length:Nat) gv [nI pa.width,u1,b4,k1,n1,t1] [nI pb.width,u2,d6,k2,n2,t2]).toArray.toList.all Mp=true:=by
    simp only[fm,Pr,Nw,LX,go2,q1,q2,q3,q4,q5,r1,r2,r3,r4,r5];rfl
   apply Md zk;refine zh ?_
   apply zv (ai (us:=fm (dr li) (dr lk) c5 (xs.length:Nat) gv [nI pa.width,u1,b4,k1,n1,t1] [nI pb.width,u2,d6,k2,n2,t2]) i0.cellsAdd (Nj _) (Mu _) rfl);apply zsb (us:=(fm (dr li) (dr lk) c5 (xs.length:Nat) gv [nI pa.width,u1,b4,k1,n1,t1] [nI pb.width,u2,d6,k2,n2,t2]).toArray) e8 (Mu _) n0
   have j':=MW (us:=(fm (dr li) (dr lk) c5 (xs.length:Nat) gv [nI pa.width,u1,b4,k1,n1,t1] [nI pb.width,u2,d6,k2,n2,t2]).toArray) e8;have k6:M6 (λj=>j=2) O14 w22 O14 (w22.setRow cb (fm (dr li) (dr lk) c5 (xs.length:Nat) gv [nI pa.width,u1,b4,k1,n1,t1] [nI pb.width,u2,d6,k2,n2,t2]).toArray):=L5 zd e8.tag rfl;have hU20z:=((h4.mono (S':=λq=>q=2\/q=3) (λ_ h=>.inr h) zd).trans (h3.mono (λ_ h=>.inr h) zd)).trans (k6.mono (λ_ h=>.inl h) zd);have hPL:PartV k9 [nI pa.width,u1,b4,k1,n1,t1] pa A.2:=⟨u1,b4,k1,n1,t1,rfl,s5,k4,t8,t3,w8⟩
   have hPR:PartV k9 [nI pb.width,u2,d6,k2,n2,t2] pb B.2:=⟨u2,d6,k2,n2,t2,rfl,s4,k3,t7,t0,w7⟩
   have v4:=hPL.upd t4 o6.drew hU20z;have v3:=hPR.upd e3 (o6.upd d5) hU20z;have z2:=(e7.upd i7 b5).upd (i7.upd b5) hU20z;have i4:=j2.size;have l7:=a3.size;refine zh ?_;refine bE rfl rfl rfl j'.cellsAdd (Nj _) (Mu _) ⟨((j2.trans (b5.mono (λ_ h=>h.elim) zd)).trans (hU20z.mono (λ_ h=>zo) zd)).ext,Fx l' z9 z4 x8 x7 z' z5 hA hB p6 hg.cnt x3 x0 m' hl z2 v4 v3 (i6.mono (NU d2.size o'.size)) (λv hv=>(t4 v hv).mono i4) (λv hv=>(e3 v hv).mono (NU i4 l7))⟩
  refine zTH rfl ((by simpa using p7)) ?_;apply zv (MJ (cells:=pN) It (Mm _) rfl rfl)
  apply zsa (us:=pN) a4 (Mu _);have j':=MW (us:=pN) a4;have k6:M6 (λj=>j=2) O14 w15 O14 (w15.setRow cb pN):=L5 zd a4.tag rfl;refine zh ?_
  refine bE rfl rfl rfl j'.cellsAdd (Nj _) (Mu _) ⟨(d2.trans (k6.mono (λ_ h=>zo) zd)).ext,.inr ⟨l',.inr ⟨(.inr (z8 p7)),rfl⟩⟩⟩
 apply au (d:=66) rfl (b':=true) ((by simpa using p8));refine zh ?_
 refine zTH rfl rfl ?_;apply zv (MJ (cells:=pN) It (Mm _) rfl rfl)
 apply zsa (us:=pN) a4 (Mu _);have j':=MW (us:=pN) a4;have k6:M6 (λj=>j=2) O14 w15 O14 (w15.setRow cb pN):=L5 zd a4.tag rfl;refine zh ?_
 refine bE rfl rfl rfl j'.cellsAdd (Nj _) (Mu _) ⟨(d2.trans (k6.mono (λ_ h=>zo) zd)).ext,.inr ⟨l',.inr ⟨(.inl (ha0 p8)),rfl⟩⟩⟩
end Go.Proofs.YteolbhblkgjbhaaGreatDoor
end
section
namespace Go.VL
section
variable{P:NQ}{N:Nat}{st:St}{w:L0}{t xt yt:Ml}{x y:Pg}{k:IntKind}{m n:Int}
theorem I5(hx:ev st x=some (.int k m)):RV P N (.unOp .neg xt x) t st w (.int k (k.wrap (-m))):=
 λa ha a0 p e g=>by simp only[execOp,ha.ev hx];simp[Op.unary,Op.intArith,pure]
theorem I6(hx:ev st x=some (.int k m))(hy:ev st y=some (.int k n)):RV P N (.binOp .mul xt x y yt) t st w (.int k (k.wrap (m*n))):=
 gu hx hy Ic
end
theorem Ka(b j:Nat):nA b j=⟨b,j,none⟩:=by simp only[Nb];split<;>simp_all
end Go.VL
namespace Go.Proofs.YteolbhblkgjbhaaGreatDoor
open Go.VL Go.Proofs
set_option maxRecDepth 10000
theorem JC(x:Nat)(w:L0)(hx:x<18446744073709551616)(h0:x≠0)(hT:PX 1 Ps w):MO M1 141 [.int .u64 (x:Nat)] w λv w'=>v=nI ((N2 64 x:Nat):Int)/\w'=w:=by
 obtain⟨a0,hk⟩:=PS 64 x h0 hx;obtain⟨hi,a1⟩:=Lib.deBruijn64_at _ hk;have hp:2^N2 64 x<18446744073709551616:=Nh (Mr zd hk) zd;generalize N2 64 x=k at *;rw[show(2^64:Nat)=18446744073709551616 from by decide]at a0;generalize 2^k=pk at *;generalize a2:pk*285870213051353865 % 18446744073709551616 / 288230376151711744=idx at *;have a3:w.cell? (nA 1 idx)=some (.int .u8 (k:Int)):=by
  have:=hT idx hi;rw[a1]at this;rw[Ka];exact this
 apply L2 func141 ntmps141 rfl rfl;refine zh ?_
 refine zFH rfl ((by rw[beq_eq_false_iff_ne];omega)) ?_;apply zv (I5 rfl)
 apply zv (yH (a:=x) (b:=18446744073709551616-x) rfl rfl rfl (by rw[P8];omega) (by show _<=(18446744073709551615:Int);omega) (by show _<=(18446744073709551615:Int);omega));rw[a0];apply zv (I6 rfl rfl)
 rw[show PL.wrap (((pk:Nat):Int)*285870213051353865)=((pk*285870213051353865 % 18446744073709551616:Nat):Int)from by rw[P8];omega];apply zv (iP (a:=pk*285870213051353865 % 18446744073709551616) (b:=58) rfl rfl rfl rfl zd);rw[show pk*285870213051353865 % 18446744073709551616 / 2^58=idx from a2];refine zvH (fO underlying299 (sizeOf5 _) rfl rfl idx rfl hi) ?_;refine zvH (DQ Qw underlying3 rfl (NW zo)) ?_;refine af rfl rfl ⟨rfl,rfl⟩
theorem sO(s c:Nat)(w:L0)(hs:s<18446744073709551616)(hc:c<64):MO M1 63 [.int .u64 (s:Nat),nI (c:Nat)] w λv w'=>v=.bool (s.testBit c)/\w'=w:=by
 have hd:s / 2^c<=s:=Nat.div_le_self _ _;have e:(((s / 2^c &&& 1:Nat):Int)==1)=s.testBit c:=by
  rw[Nat.and_one_is_mod,Nat.testBit_eq_decide_div_mod_eq]
  rcases Nat.mod_two_eq_zero_or_one (s / 2^c)with h|h<;>rw[h]<;>rfl
 apply L2 func63 ntmps63 rfl rfl;refine zh ?_
 apply zv (iP (a:=s) (b:=c) rfl rfl rfl rfl (by show _<=64;omega));refine zvH (yH (a:=s / 2^c) (b:=1) rfl rfl rfl rfl (by show _<=(18446744073709551615:Int);omega) zd) ?_
 refine af rfl rfl ⟨by rw[<-e],rfl⟩
theorem kA(cs:List ix)(p:PP)(tl:List Nat)(r c:Nat)(w:L0)(h:PartV w cs p tl)(ok:OkP p)(hr:r<p.usual.length)(a9:c<64):
  MO M1 62 [.agg cs.toArray,nI (r:Nat),nI (c:Nat)] w λv w'=>v=nI (getM p r c)/\Ms w w':=by
 obtain⟨uv,bv,kv,nv,tv,rfl,a3,a7,a5,a4,a8⟩:=h;obtain⟨o1,o2,o3,o4,o5,o6,o7⟩:=ok;have a6:=o7 r zo;obtain⟨b,a2⟩:=Int.eq_ofNat_of_zero_le a6.1;have hg:getM p r c=if b+c<p.check.length/\nth p.check (b+c)=r then nth p.next (b+c)else nth p.usual r:=by simp only[getM,a2];rfl
 apply L2 func62 ntmps62 rfl rfl;refine zh ?_
 apply aN (ax w) 1 zo rfl rfl;intro db w1 O1 a1 a' b0 a0;have hu:=a3.ext a0;have hb:=a7.ext a0;have hk:=a5.ext a0;have hn:=a4.ext a0;have c1:w1.cell? ((nA db 0).add 1)=some uv:=a1.cell 1 rfl;have c2:w1.cell? ((nA db 0).add 2)=some bv:=a1.cell 2 rfl;have c3:w1.cell? ((nA db 0).add 3)=some kv:=a1.cell 3 rfl;have c4:w1.cell? ((nA db 0).add 4)=some nv:=a1.cell 4 rfl;have k1:w1.cell? (adr bv 1 r)=some (nI (b:Int)):=by have:=hb.cell (i:=r) (j:=0) zo rfl;rw[aA,a2]at this;exact this
 refine zh ?_
 by_cases h1:b+c<p.check.length
 ·apply au (d:=22) rfl (b':=true) (decide_eq_true zo);have k2:w1.cell? (adr kv 1 (b+c))=some (nI (nth p.check (b+c))):=by have:=hk.cell (i:=b+c) (j:=0) h1 rfl;rwa[aA]at this
  have k3:w1.cell? (adr nv 1 (b+c))=some (nI (nth p.next (b+c))):=by have:=hn.cell (i:=b+c) (j:=0) zo rfl;rwa[aA]at this
  refine zh ?_;refine zC ?_ ?_
  ·intro he;replace he:nth p.check (b+c)=r:=by simpa using he
   rw[if_pos ⟨h1,he⟩]at hg;refine zh ?_;refine af rfl rfl ⟨by rw[hg],a0⟩
  intro he;replace he:¬nth p.check (b+c)=r:=by simpa using he
  rw[if_neg (λh=>he h.2)]at hg;have k4:w1.cell? (adr uv 1 r)=some (nI (nth p.usual r)):=by have:=hu.cell (i:=r) (j:=0) hr rfl;rwa[aA]at this
  refine zh ?_;refine af rfl rfl ⟨by rw[hg],a0⟩
 rw[if_neg (λh=>h1 h.1)]at hg;have k4:w1.cell? (adr uv 1 r)=some (nI (nth p.usual r)):=by have:=hu.cell (i:=r) (j:=0) hr rfl;rwa[aA]at this
 apply au (d:=22) rfl (b':=false) (decide_eq_false zo);refine zh ?_
 refine zFH rfl rfl ?_;refine af rfl rfl ⟨by rw[hg],a0⟩
end Go.Proofs.YteolbhblkgjbhaaGreatDoor
end
namespace Go.Proofs.YteolbhblkgjbhaaGreatDoor
def IJ(l:List Int):Int:=l.foldl max (nth l 0)
theorem FM(l:List Int)(sv:ix)(w:L0)(h:Ng w sv l)(a1:0<l.length):MO M1 61 [sv] w λv w'=>v=nI (IJ l)/\w'=w:=by
 have hl:=h.len_le;have m0:w.cell? (adr sv 1 0)=some (nI (nth l 0)):=by have:=h.cell (j:=0) a1 rfl;rwa[aA]at this
 have e1:nth l 0=(l.take 1).foldl max (nth l 0):=by
  rw[aY a1];simp
 have a2:IJ l=(l.take l.length).foldl max (nth l 0):=by rw[ME];rfl
 rw[a2];obtain⟨z0,a3⟩:∃z,z=nth l 0:=⟨_,rfl⟩
 rw[<-a3]at m0 e1 ⊢;apply L2 func61 ntmps61 rfl rfl;refine zh ?_;refine zFH rfl ((decide_eq_false zo)) ?_;apply zlp (λz:Nat×Int=>[(0,sv),(3,nI z.2),(4,nI z.1)]) (λz=>w) (λz=>1<=z.1/\z.1<=l.length/\z.2=(l.take z.1).foldl max z0) (λz=>l.length-z.1) (1,z0) ⟨LU _,a1,e1⟩;rintro⟨q,m⟩ ⟨a4,hq,hm⟩;dsimp only at a4 hq hm ⊢;refine zh ?_;refine zC ?_ ?_
 ·intro a0;replace a0:q<l.length:=dT a0;have m1:w.cell? (adr sv 1 q)=some (nI (nth l q)):=by have:=h.cell (j:=0) a0 rfl;rwa[aA]at this
  refine zh ?_;refine zvH (gQ rfl rfl) ?_
  refine zxd (q+1,max m (nth l q)) ⟨by dsimp only;omega,a0,by dsimp only;rw[aY a0,MV,<-hm];rfl⟩
 intro a5;obtain rfl:q=l.length:=dF a5;refine zh ?_;refine af rfl rfl ⟨by rw[hm],rfl⟩
theorem pY(hF:∀(args:Array ix) (w:L0),(callFunc F args).run M1 w=.ok (.enter F args) w)(cs:Array ix)(l:List Nat)(sv:ix)(q:Nat->Bool)(w:L0)(h:Sl jh 1 w sv l) 
  (hq:∀i,i<l.length->∀w',Ms w w'->MO M1 F ([(λn:Nat=>Q6 .u64 (n:Int)) (nth l i)]++cs.toList) w' λv w''=>v=.bool (q i)/\Ms w' w'') :
  MO M1 95 [sv,.func (.func F) #[] cs] w λv w'=>v=nI (ed q l.length)/\Ms w w':=by
 have hl:=h.len_le;apply L2 func95 ntmps95 rfl rfl;refine zh ?_;apply zlp (λx:Nat×L0=>[(0,sv),(1,.func (.func F) #[] cs),(7,nI l.length),(8,nI x.1)]) (λx=>x.2) (λx=>x.1<=l.length/\Ms w x.2/\∀i,i<x.1->q i=false) (λx=>l.length-x.1) (0,w) ⟨LO _,L3 _,λi hi=>absurd hi (M7 i)⟩;rintro⟨k,w1⟩ ⟨hk,hE,a1⟩;dsimp only at hk hE a1 ⊢;have h1:=h.ext hE;refine zh ?_;refine zC ?_ ?_
 ·intro a0;replace a0:k<l.length:=dT a0;refine zh ?_;apply zv (RV.ld (by have:=h1.cell (i:=k) (j:=0) a0 rfl;rwa[aA]at this) rfl);apply dk rfl hF rfl (hq k a0 w1 hE) rfl;rintro v w2 ⟨rfl,a3⟩;refine zh ?_;refine zC ?_ ?_
  ·intro hy;refine zh ?_;refine af rfl rfl ⟨by rw[cR a0 hy a1],hE.trans a3⟩
  intro hy;refine zh ?_;refine zxd (k+1,w2) ⟨a0,hE.trans a3,λi hi=>(M5.1 hi).elim (a1 i) (λe=>by rw[e];exact hy)⟩
 intro a2;replace a2:l.length<=k:=dF a2;refine zh ?_;refine af rfl rfl ⟨by rw[cQ λi hi=>a1 i zo],hE⟩
theorem my(hF:∀(args:Array ix) (w:L0),(callFunc F args).run M1 w=.ok (.enter F args) w)(cs:Array ix)(l:List Nat)(sv:ix)(q:Nat->Bool)(w:L0)(h:Sl jh 1 w sv l) 
  (hq:∀i,i<l.length->∀w',Ms w w'->MO M1 F ([(λn:Nat=>Q6 .u64 (n:Int)) (nth l i)]++cs.toList) w' λv w''=>v=.bool (q i)/\Ms w' w'') :
  MO M1 57 [sv,.func (.func F) #[] cs] w λv w'=>v=.bool (jj q l.length)/\Ms w w':=by
 apply L2 func57 ntmps57 rfl rfl;refine zh ?_
 apply zc call95 (pY hF cs l sv q w h hq);rintro v w1 ⟨rfl,hE⟩;refine zh ?_
 refine af rfl rfl ⟨by rw[firstN_any],hE⟩
theorem Dd(b rules:Nat)(a:NX)(w:L0)(hr:rules<=64)(hc:w.cell? a=some (nI (rules:Nat))):MO M1 58 [.int .u64 (b:Nat),.pointer (some a)] w λv w'=>v=.bool (!(b / 2^rules==0))/\w'=w:=by
 have e:((((b / 2^rules:Nat):Int)) != 0) = !(b / 2^rules==0):=by
  generalize b / 2^rules=q
  by_cases h:q=0
  ·subst h;rfl
  rw[beq_eq_false_iff_ne.2 h];simpa using h
 apply L2 func58 ntmps58 rfl rfl;refine zh ?_
 refine zvH (iP (a:=b) (b:=rules) rfl rfl rfl rfl (by show _<=64;omega)) ?_;refine af rfl rfl ⟨by rw[<-e],rfl⟩
theorem Dc(row:List Int)(rv lv:ix)(n:Nat)(a:NX)(w:L0)(h:Ng w rv row)(a1:0<row.length)(a0:Shape lv n)(hc:w.cell? a=some lv):MO M1 60 [rv,.pointer (some a)] w λv w'=>v=.bool (decide ((n:Int)<=IJ row))/\Ms w w':=by
 apply L2 func60 ntmps60 rfl rfl;refine zh ?_
 apply P9 zk zk;refine zh ?_
 apply Q5 call61 rfl (FM row rv _ h.drew a1) rfl;refine zh ?_
 refine zwH (bH a0 underlying130 rfl) ?_;apply PU
 refine zh ?_;refine af rfl rfl ⟨rfl,(L3 w).drew⟩
def lh(p:PP)(tl:List Nat)(many rules:Nat):Bool:=
 dw p&&(p.width==(many:Int)) && !((gA p).length==0)&&(tl.length==(gA p).length) && !(jj (λi=>!(nth tl i / 2^rules==0)) tl.length) && !(jj (λi=>decide (((gA p).length:Int)<=IJ (nth (gA p) i))) (gA p).length)
theorem qX(p:PP):(gA p).length=p.usual.length/\∀i,i<p.usual.length->(nth (gA p) i).length=p.width.toNat:=by
 refine⟨by simp[gA],λi hi=>?_⟩;unfold gA;rw[gE _ _ _ hi];simp[DY]
theorem vu(cs:List ix)(p:PP)(tl:List Nat)(many rules:Nat)(w:L0)(h:PartV w cs p tl)(hr:rules<=64):
  MO M1 30 [.agg cs.toArray,nI (many:Nat),nI (rules:Nat)] w λv w'=>v=.bool (lh p tl many rules)/\Ms w w':=by
 obtain⟨uv,bv,kv,nv,tv,rfl,d2,d8,d7,d6,c9⟩:=h;obtain⟨a4,d3⟩:=qX p;have c8:=c9.len_le;apply L2 func30 ntmps30 rfl rfl;refine zh ?_;apply aN (ax w) 1 zo rfl rfl;intro db w1 O1 c6 e0 e4 f5;apply aN e4 2 zo rfl rfl;intro yb w2 O2 b6 d1 e3 f4;have a8:=c6.upd d1 zd zd;have a9:=(e0.mono (S':=λq=>1<=q) (λ_ h=>zo) zd).trans (d1.mono (λ_ h=>zo) zd);have a3:=a9.ext
 have e7:∀(j:Nat) (u:ix),[nI p.width,uv,bv,kv,nv][j]? = some u->w2.cell? ((nA db 0).add j)=some u:=λj u hu=>a8.cellsAdd j u (by
  match j,hu with
  |0,hu=>exact hu
  |1,hu=>exact hu
  |2,hu=>exact hu
  |3,hu=>exact hu
  |4,hu=>exact hu)
 refine zh ?_;apply zv (ai (us:=[nI p.width,uv,bv,kv,nv]) e7 (isAgg26 _) (Qa _) rfl)
 apply zc call56 (uF p _ w2 ⟨uv,bv,kv,nv,rfl,d2.ext a3,d8.ext a3,d7.ext a3,d6.ext a3⟩);rintro _ w3 ⟨rv,rfl,a6,e6⟩;have b3:M6 (λ_=>False) O2 w2 O2 w3:=ae (λh=>h) O2 e6;have e':=e3.upd b3;have b5:=b6.upd b3 zd (λh=>h);have c5:=a8.upd b3 zd (λh=>h);have c7:=a9.trans (b3.mono (λ_ h=>h.elim) zd);have ro:rv.oneCell'=true:=by
  split at a6
  ·obtain⟨b0,h1,_⟩:=a6;exact h1.one
  rw[a6];rfl
 refine zh ?_;apply ar (ax w3) 3 zo (zeroValue130 _) rfl
 intro lb w4 O4 a5 d' e9 f3;apply ak (j:=0) a5 rfl (sizeOf130 _) ro rfl rfl rfl;have d9:M6 (λj=>j=3) O4 w4 O4 (w4.setCell ⟨lb,0,none⟩ rv):=MA zd a5.tag rfl;have b9:N4 O4 (w4.setCell ⟨lb,0,none⟩ rv) 3 lb #[rv] 130:=a5.set 0 _;have a2:Ms w3 (w4.setCell ⟨lb,0,none⟩ rv):=(d'.trans d9).ext;generalize w4.setCell ⟨lb,0,none⟩ rv=w5 at *;have a0:Ms w w5:=c7.ext.trans a2;have a7:=c5.ext a2;have b4:=b5.ext a2;have d0:w5.cell? (((nA db 0)).add 0)=some (nI p.width):=a7.cell 0 rfl;have d5:w5.cell? (nA db 5)=some tv:=a7.cell 5 rfl;have l0:w5.cell? ⟨lb,0,none⟩=some rv:=b9.cell 0 rfl;have y0:w5.cell? ⟨yb,0,none⟩=some (nI (rules:Nat)):=b4.cell 0 rfl;have b7:=c9.ext a0;refine zh ?_
 cases b2:dw p with
 |false=>
  apply au (d:=17) rfl (b':=true) rfl;refine zh ?_
  refine zTH rfl rfl ?_;refine af rfl rfl ⟨by unfold lh;rw[b2];rfl,a0⟩
 |true=>
  rw[b2,if_pos rfl]at a6;obtain⟨b0,c',a1,d4⟩:=a6.ext a2;have ok:=okP p b2;have e8:=ok.w1;apply au (d:=17) rfl (b':=false) rfl;refine zh ?_
  by_cases h1:p.width=(many:Int)
  ·apply au (d:=24) rfl (b':=false) ((by rw[h1];simp));refine zh ?_
   by_cases h2:p.usual.length=0
   ·apply au (d:=29) rfl (b':=true) ((by rw[a1,a4,h2];rfl));refine zh ?_
    refine zTH rfl rfl ?_;refine af rfl rfl ⟨by unfold lh;rw[a4,h2];simp,a0⟩
   apply au (d:=29) rfl (b':=false) ((by rw[a1,a4,beq_eq_false_iff_ne];omega));refine zh ?_
   by_cases h3:tl.length=p.usual.length
   ·refine zFH rfl ((by rw[a1,a4,h3];simp)) ?_;apply zv (dY rfl rfl)
    apply zc call57 (my call58 #[nP yb] tl tv (λi=>!(nth tl i / 2^rules==0)) w5 b7 (λi hi w' b1=>(Dd (nth tl i) rules _ w' hr (b1.cell y0)).mono λv w'' ⟨e1,e2⟩=>⟨e1,e2▸L3 _⟩));rintro _ w6 ⟨rfl,a'⟩;refine zh ?_
    cases h4:jj (λi=>!(nth tl i / 2^rules==0)) tl.length with
    |true=>
     refine zTH rfl rfl ?_;refine af rfl rfl ⟨by unfold lh;rw[h4];simp,a0.trans a'⟩
    |false=>
     have b8:=c'.ext a';have l6:w6.cell? ⟨lb,0,none⟩=some rv:=a'.cell l0;refine zFH rfl rfl ?_;apply zv (dY rfl rfl);apply zc call59 (gj call60 #[nP lb] b0 rv (λi=>decide (((gA p).length:Int)<=IJ (nth (gA p) i))) w6 b8 (λi hi w' b1=>by have:=Dc (nth (gA p) i) (nth b0 i) rv b0.length ⟨lb,0,none⟩ w' (((d4 i zo).ext a').ext b1) (by rw[d3 i zo];omega) c'.sh (b1.cell l6);rw[a1]at this;exact this));rintro _ w7 ⟨rfl,e5⟩;refine zh ?_;refine af rfl rfl ⟨by unfold lh;rw[b2,h1,h4,a4,h3,a1,a4,beq_eq_false_iff_ne.2 h2];simp,(a0.trans a').trans e5⟩
   refine zTH rfl ((by rw[a1,a4];simp;omega)) ?_;refine af rfl rfl ⟨by unfold lh;rw[a4,beq_eq_false_iff_ne.2 h3];simp,a0⟩
  apply au (d:=24) rfl (b':=true) ((by simpa using h1));refine zh ?_
  refine zTH rfl rfl ?_;refine af rfl rfl ⟨by unfold lh;rw[beq_eq_false_iff_ne.2 h1];simp,a0⟩
end Go.Proofs.YteolbhblkgjbhaaGreatDoor
section
namespace Go.VL
theorem add_add(b i j:Nat):(nA b i).add j=⟨b,i+j,none⟩:=by simp only[Nb];split<;>split<;>simp_all
end Go.VL
namespace Go.Proofs.YteolbhblkgjbhaaGreatDoor
open Go.VL Go.Proofs
set_option maxRecDepth 10000
structure TabB(w:L0)(b:Nat)(t:TabM)(gv:ix)(lc rc:List ix):Prop where
 cells:∀j u,(fm t.ig t.kp t.br t.rules gv lc rc)[j]? = some u->w.cell? ⟨b,j,none⟩=some u
 groups:Ng w gv t.groups
 left:PartV w lc t.left t.lt
 right:PartV w rc t.right t.rt
section
variable{w:L0}{b:Nat}{t:TabM}{gv:ix}{lc rc:List ix}
theorem TabB.ext{w':L0}(h:TabB w b t gv lc rc)(e:Ms w w'):TabB w' b t gv lc rc:=⟨λj u hu=>e.cell (h.cells j u hu),h.groups.ext e,h.left.ext e,h.right.ext e⟩
theorem TabB.c0(h:TabB w b t gv lc rc):w.cell? (nA b 0)=some (.int .u64 (t.ig:Int)):=h.cells 0 _ rfl
theorem TabB.c1(h:TabB w b t gv lc rc):w.cell? (nA b 1)=some (.int .u64 (t.kp:Int)):=h.cells 1 _ rfl
theorem TabB.c2(h:TabB w b t gv lc rc):w.cell? (nA b 2)=some (.int .u64 (t.br:Int)):=h.cells 2 _ rfl
theorem TabB.c3(h:TabB w b t gv lc rc):w.cell? (nA b 3)=some (nI t.rules):=h.cells 3 _ rfl
theorem TabB.c4(h:TabB w b t gv lc rc):w.cell? (nA b 4)=some gv:=h.cells 4 _ rfl
theorem TabB.cl(h:TabB w b t gv lc rc):∀(j:Nat) (u:ix),lc[j]? = some u->w.cell? ((nA b 5).add j)=some u:=λj u hu=>by
 rw[add_add];apply h.cells (5+j) u;have hj:=(MS.1 hu).1;rw[show fm t.ig t.kp t.br t.rules gv lc rc=[.int .u64 (t.ig:Int),.int .u64 (t.kp:Int),.int .u64 (t.br:Int),nI t.rules,gv]++(lc++rc)from Mf _ _ _];rw[Ma (by simp),show 5+j-_=j from by simp,MT hj];exact hu
theorem TabB.cr(h:TabB w b t gv lc rc):∀(j:Nat) (u:ix),rc[j]? = some u->w.cell? ((nA b 11).add j)=some u:=λj u hu=>by
 rw[add_add];apply h.cells (11+j) u;have hl:=h.left.one.1;rw[Ma (by simp[hl]),show 11+j-_=j from by simp[hl]];exact hu
end
theorem yz{t:TabM}(hb:N4 O w i b (fm t.ig t.kp t.br t.rules gv lc rc).toArray E)(h1:Ng w gv t.groups)(h2:PartV w lc t.left t.lt)(h3:PartV w rc t.right t.rt):TabB w b t gv lc rc:=
 ⟨λj u hu=>hb.cell j (by simpa using hu),h1,h2,h3⟩
def iY(t:TabM):Bool:=
 !(decide (t.rules<0)||decide (40<t.rules)||(iu t.groups==0)) && !(!(t.ig / 2^36==0) || !(t.kp / 2^36==0) || !(t.br / 2^t.rules.toNat==0))&&lh t.left t.lt (iu t.groups) t.rules.toNat&&lh t.right t.rt (iu t.groups) t.rules.toNat
theorem ne0(q:Nat):(((q:Nat):Int) != 0) = !(q==0):=by
 by_cases h:q=0
 ·subst h;rfl
 rw[beq_eq_false_iff_ne.2 h];simpa using h
theorem tS(t:TabM)(v:ix)(w:L0)(h:TabV w v t):MO M1 10 [v] w λu w'=>u=.bool (iY t)/\Ms w w':=by
 obtain⟨gv,lc,rc,rfl,b0,a8,a7⟩:=h;obtain⟨ll,lo⟩:=a8.one;obtain⟨rl,ro⟩:=a7.one;apply L2 func10 ntmps10 rfl rfl;refine zh ?_;apply aN (ax w) 1 zo rfl rfl;intro db w1 O1 a3 b3 b4 a1;have hT:=yz (t:=t) a3 (b0.ext a1) (a8.ext a1) (a7.ext a1);have c0:=hT.c0;have c1:=hT.c1;have c2:=hT.c2;have c3:=hT.c3;have c4:=hT.c4;have cl:=hT.cl;have cr:=hT.cr;refine zh ?_;apply zc QB (iV t.groups gv w1 hT.groups);rintro _ w2 ⟨rfl,a6⟩;rw[a6];clear a6 w2;obtain⟨many,a2⟩:∃many,many=iu t.groups:=⟨_,rfl⟩
 have a9:iY t=(!(decide (t.rules<0)||decide (40<t.rules)||(many==0)) && !(!(t.ig / 2^36==0) || !(t.kp / 2^36==0) || !(t.br / 2^t.rules.toNat==0))&&lh t.left t.lt many t.rules.toNat&&lh t.right t.rt many t.rules.toNat):=by rw[a2];rfl
 rw[a9,<-a2];refine zh ?_
 by_cases h1:t.rules<0
 ·apply au (d:=11) rfl (b':=true) ((decide_eq_true h1));refine zh ?_
  refine zTH rfl rfl ?_;refine af rfl rfl ⟨by rw[decide_eq_true h1];simp,a1⟩
 apply au (d:=11) rfl (b':=false) ((decide_eq_false h1));refine zh ?_
 by_cases h2:40<t.rules
 ·apply au (d:=16) rfl (b':=true) ((decide_eq_true h2));refine zh ?_
  refine zTH rfl rfl ?_;refine af rfl rfl ⟨by rw[decide_eq_true h2];simp,a1⟩
 obtain⟨rules,a0⟩:∃rules:Nat,t.rules=(rules:Int):=⟨t.rules.toNat,zo⟩
 have a':t.rules.toNat=rules:=zo;apply au (d:=16) rfl (b':=false) ((decide_eq_false h2));refine zh ?_
 by_cases h3:many=0
 ·refine zTH rfl ((by rw[h3];rfl)) ?_;refine af rfl rfl ⟨by rw[h3];simp,a1⟩
 refine zFH rfl ((by rw[beq_eq_false_iff_ne];omega)) ?_;refine zvH (iP (a:=t.ig) (b:=36) rfl rfl rfl rfl zd) ?_
 by_cases h4:t.ig / 2^36=0
 ·apply au (d:=25) rfl (b':=false) ((by rw[ne0,h4];rfl));refine zh ?_
  refine zvH (iP (a:=t.kp) (b:=36) rfl rfl rfl rfl zd) ?_
  by_cases h5:t.kp / 2^36=0
  ·apply au (d:=31) rfl (b':=false) ((by rw[ne0,h5];rfl));refine zh ?_
   refine zvH (iP (a:=t.br) (b:=rules) rfl rfl rfl a0 (by show _<=64;omega)) ?_
   by_cases h6:t.br / 2^rules=0
   ·have b2:nI t.rules=nI (rules:Int):=by rw[a0]
    refine zFH rfl ((by rw[ne0,h6];rfl)) ?_;refine zvH (ai (us:=lc) cl (Ny _) (by rw[ll];exact MN _) rfl) ?_
    rw[a0];apply zc call30 (vu lc t.left t.lt many rules w1 hT.left zo);rintro _ w2 ⟨rfl,a5⟩;have a4:=hT.ext a5;have d3:=a4.c3;have d4:=a4.cr;rw[a0]at d3;refine zh ?_
    cases h7:lh t.left t.lt many rules with
    |false=>
     apply au (d:=45) rfl (b':=false) rfl;refine zh ?_
     refine af rfl rfl ⟨by rw[MC,h7];simp,a1.trans a5⟩
    |true=>
     apply au (d:=45) rfl (b':=true) rfl;refine zh ?_
     refine zvH (ai (us:=rc) d4 (Ny _) (by rw[rl];exact MN _) rfl) ?_;apply zc call30 (vu rc t.right t.rt many rules w2 a4.right zo)
     rintro _ w3 ⟨rfl,b1⟩;refine zh ?_;refine af rfl rfl ⟨?_,(a1.trans a5).trans b1⟩;rw[MC,h7,h4,h5,h6,decide_eq_false zo,decide_eq_false zo,beq_eq_false_iff_ne.2 h3];simp
   refine zTH rfl ((by rw[ne0,beq_eq_false_iff_ne.2 h6];rfl)) ?_;refine af rfl rfl ⟨by rw[a',beq_eq_false_iff_ne.2 h6];simp,a1⟩
  apply au (d:=31) rfl (b':=true) ((by rw[ne0,beq_eq_false_iff_ne.2 h5];rfl));refine zh ?_
  refine zTH rfl rfl ?_;refine af rfl rfl ⟨by rw[beq_eq_false_iff_ne.2 h5];simp,a1⟩
 apply au (d:=25) rfl (b':=true) ((by rw[ne0,beq_eq_false_iff_ne.2 h4];rfl));refine zh ?_
 refine zTH rfl rfl ?_;refine af rfl rfl ⟨by rw[beq_eq_false_iff_ne.2 h4];simp,a1⟩
end Go.Proofs.YteolbhblkgjbhaaGreatDoor
end
namespace Go.VL
theorem kG(g:Nat):∀(vs:List ix) (o:Nat) (w:L0),(w.setCells g o vs).os=w.os/\(w.setCells g o vs).tape=w.tape/\(w.setCells g o vs).output=w.output/\(w.setCells g o vs).heap.size=w.heap.size
 |[],_,_=>⟨rfl,rfl,rfl,rfl⟩
 |v::r,o,w=>by
  have h:=kG g r (o+1) (w.setCell ⟨g,o,none⟩ v);refine⟨h.1.trans rfl,h.2.1.trans rfl,h.2.2.1.trans rfl,h.2.2.2.trans ?_⟩;simp[PE]
theorem jy{g:Nat}{E:Ml}:∀(vs:List ix) (o:Nat) (w:L0) (a1:Array ix),w.heap[g]? = some (.cells a1 E (0,0))->∃a0,(w.setCells g o vs).heap[g]? = some (.cells a0 E (0,0))/\a0.size=a1.size
 |[],_,_,a1,h=>⟨a1,h,rfl⟩
 |v::r,o,w,a1,h=>by
  have h2:(w.setCell ⟨g,o,none⟩ v).heap[g]? = some (.cells (a1.setIfInBounds o v) E (0,0)):=by
   simp only[PE,Array.getElem?_modify,if_pos];rw[h];simp
  obtain⟨a0,h3,h4⟩:=jy r (o+1) _ _ h2;exact⟨a0,h3,by rw[h4];simp⟩
inductive WinO{α:Type}(enc:α->List ix)(E:Ml)(sz:Nat)(O:Nat->Nat)(w:L0)(i:Nat):ix->List α->Prop
 |none (a:Option NX):WinO enc E sz O w i (.slice a 0 0) []
 |some {g off cap:Nat} {cur:Array ix} {l:List α} (tag:O g=i) (blk:w.heap[g]? = some (.cells cur E (0,0))) (fit:off+cap*sz<=cur.size) (len:l.length<=cap) (mx:cap<=maxLen)
  (cells:∀j u,(l.flatMap enc)[j]? = some u->w.cell? ⟨g,off+j,MR⟩=some u) (hz:∀x∈l,(enc x).length=sz):WinO enc E sz O w i (.slice (Nn ⟨g,off,MR⟩) l.length cap) l
section
variable{α:Type}{enc:α→List ix}{E:Ml}{sz:Nat}{O:Nat→Nat}{w:L0}{i:Nat}{v:ix}{l:List α}
theorem WinO.nil(enc:α->List ix)(E:Ml)(sz:Nat)(O:Nat->Nat)(w:L0)(i:Nat):WinO enc E sz O w i (.slice .none 0 0) []:=.none .none
theorem rF(h:NF enc E sz O w i v l):WinO enc E sz O w i v l:=by
 obtain⟨⟨⟨hl,hr⟩,ht⟩,hz⟩:=h
 rcases hr with⟨rfl,h0⟩|⟨g,a5,a0,rfl,_,hg,a2,a3,a4,a1⟩
 ·obtain rfl:l=[]:=LP h0;exact .none .none
 refine .some (ht g rfl) hg zo a2 a3 (λj u hu=>?_) hz;rw[No,cell_of_row w g j a0 E (0,0) hg];rw[<-a1]at hu;have:=List.getElem?_take (l:=a0.toList) (i:=l.length*sz) (j:=j)
 rw[this]at hu
 split at hu
 ·simpa using hu
 cases hu
theorem WinO.upd(h:WinO enc E sz O w i v l)(u:M6 S O w O' w')(hi:i≠0)(hS:¬S i):WinO enc E sz O' w' i v l:=by
 cases h with
 |none a=>exact .none a
 | @some g off cap cur l tag blk fit len mx cells hz=>
  have hb:=u.blk g (bL blk) (by rw[tag];exact hS);exact .some (by rw[u.tag g (by rw[tag];exact hi),tag]) (by rw[hb];exact blk) fit len mx (λj x hx=>iE hb (cells j x hx)) hz
theorem WinO.sl(h:WinO enc E sz O w i v l):Sl enc sz w v l:=by
 cases h with
 |none a=>exact⟨⟨a,0,rfl,LU _,zo,λh=>absurd rfl h⟩,λi hi=>absurd hi (by simp)⟩
 | @some g off cap cur l tag blk fit len mx cells hz=>
  refine⟨⟨_,cap,rfl,len,by simpa[maxLen]using mx,λ_=>⟨g,off,rfl⟩⟩,λi hi j u hu=>?_⟩;have:=cells _ u (fg l hz i hi j u hu);rw[show((adr (.slice (Nn ⟨g,off,MR⟩) l.length cap) sz i).add j)=⟨g,off+(i*sz+j),MR⟩from by simp only[adr,Nb];split<;>simp_all[]];exact this
theorem WinO.one(h:WinO enc E sz O w i v l):v.oneCell'=true:=h.sl.one
theorem WinO.tail{x:α}{r:List α}(hp:0<sz)(h:WinO enc E sz O w i v (x::r)):WinO enc E sz O w i (dc v sz 1 (r.length+1)) r:=by
 generalize hl:x::r=l at h
 cases h with
 |none a=>cases hl
 | @some g off cap cur l tag blk fit len mx cells hz=>
  subst hl;simp only[LW]at len
  by_cases hc:cap=1
  ·have hr:r=[]:=LP zo;subst hr;subst hc;exact .none _
  have hx:=hz x (by simp);obtain⟨a0,rfl⟩:∃c,cap=c+1:=⟨cap-1,zo⟩
  have e:dc (.slice (Nn ⟨g,off,MR⟩) (x::r).length (a0+1)) sz 1 (r.length+1)=.slice (Nn ⟨g,off+sz,MR⟩) r.length a0:=by
   simp only[dc];rw[if_neg zo];simp only[Option.map_some,Nb,Nu,Pi];rw[if_neg zo]
  rw[e];refine .some tag blk (by rw[Q8]at fit;omega) zo zo (λj u hu=>?_) (λy hy=>hz y (by simp[hy]))
  have:=cells (sz+j) u (by
   rw[Nl,Ma zo,hx,Mz]
   exact hu)
  rw[NO];exact this
end
theorem pR{P:NQ}{ty:Ml}{bytes:Nat}(he:Qu P T E sz bytes)(r:Ns B O w){l:List α}(hw:WinO enc E sz O w i v l) 
  (x:α) (a:NX) (c:Nat) (hx:∀j u,(enc x)[j]? = some u->w.cell? (a.add j)=some u) (a':(enc x).length=sz) (h1:∀u∈enc x,u.oneCell'=true) (a3:(l.length+1)*bytes<=140737488355328) (b6:l.length+1<=9223372036854775807) (b':i≠0) :
  ∃v' w' O',(QG #[T,T] ty #[v,.slice (some a) 1 c]).run P w=.ok v' w'/\WinO enc E sz O' w' i v' (l++[x])/\M6 (λk=>k=i) O w O' w':=by
 obtain⟨a1,z,hi,hz,c8,d7,b7⟩:=he.parts;have ht:=he.ht;have hp:=he.pos;subst c8;subst d7;have b8:¬(0=i):=λh=>b' h.symm
 have fresh:∀ {v':ix} {w':L0} {a7:List ix} {n:Nat} {ls:List α},w'.ownsRow w.heap.size E a1.size v' n a7->n≠0->w.grownBy w' none->n=ls.length->a7=ls.flatMap enc->(∀y∈ls,(enc y).length=a1.size)->∃O',WinO enc E a1.size O' w' i v' ls/\M6 (λk=>k=i) O w O' w':=by
  intro v' w' a7 n ls a4 hn a5 b3 ho c9
  rcases a4.2 with⟨_,h0⟩|⟨g,a9,a8,rfl,hbg,hg,d9,d4,d3,c7⟩
  ·omega
  refine⟨lV O g i,rF ⟨⟨⟨by rw[<-ho];rw[a4.1,b3],.inr ⟨g,a9,a8,by rw[b3],LO _,hg,zo,d4,d3,by rw[<-b3,c7,ho]⟩⟩,λg' c5=>?_⟩,c9⟩,?_⟩
  ·simp only[Px,Qg]at c5;subst c5;exact eG _ _ _
  have d0:=bL hg;refine⟨a5.os,a5.tape,a5.output,a5.size,λb hb _=>a5.block b hb (by simp),λb hb=>?_,λb hb=>?_,b8⟩
  ·unfold lV;rw[if_neg];have:=(r.rng b hb).2;omega
  unfold lV at hb
  split at hb
  ·rename_i e;subst e;exact .inr ⟨hbg,d0⟩
  exact .inl hb
 have b5:∀(g off j:Nat),(⟨g,off,none⟩:NX).add j=⟨g,off+j,none⟩:=λg off j=>by simp only[Nb];split<;>simp_all
 cases hw with
 |none a0=>
  cases a0 with
  |none=>
   obtain⟨v',w',O',a2,b2,b1⟩:=fG (P:=P) (ty:=ty) he r (RowO.nil O w i E a1.size) a 1 c (enc x) zo hx h1 (by simpa using a3) (by simp) b';refine⟨v',w',O',a2,rF ⟨by simpa using b2,λy hy=>?_⟩,b1⟩;have c6:y=x:=by simpa using hy
   rw[c6];exact a'
  |some b0=>
   obtain⟨v',w',a2,a4,a5⟩:=run_append_arg_grows (P:=P) w T ty E a1 z a1.size a1.bytes ht hi hz rfl rfl b7 hp b0 0 0 [] (by simp) (λj u hu=>by simp at hu) a 1 c (enc x) zo hx zo (by simp[maxLen]) (by simpa using a3);obtain⟨O',h2,h3⟩:=fresh (ls:=[x]) a4 zo a5 (by simp) (by simp) (λy hy=>by rw[ln.1 hy];exact a');exact⟨v',w',O',a2,h2,h3⟩
 | @some g off a9 a8 l tag blk fit len mx cells hzl=>
  have b4:=nT l hzl
  by_cases a6:l.length+1<=a9
  ·have d2:off+l.length*a1.size+a1.size<=a8.size:=by
    have:=Nat.mul_le_mul_right a1.size a6;rw[Q8,Nu]at this;omega
   have b9:∀j,j<(enc x).length->(w.cell? ⟨g,off+l.length*a1.size+j,none⟩).isSome=true:=λj hj=>by
    rw[cell_of_row w g _ a8 E (0,0) blk,Array.getElem?_eq_getElem (show off+l.length*a1.size+j<a8.size by omega)];rfl
   have d1:∀j,j<(enc x).length->w.frozen? ⟨g,off+l.length*a1.size+j,none⟩=false:=λj hj=>by simp[World.frozen?,blk]
   have a2:=run_append_room_cells (P:=P) w T ty E a1 ht hi g off l.length a9 a 1 c (enc x) zo hx h1 a6 b9 d1;obtain⟨d8,d6,d5⟩:=jy (enc x) (off+l.length*a1.size) w a8 blk;obtain⟨s1,s2,s3,s4⟩:=kG g (enc x) (off+l.length*a1.size) w;have c':(l++[x]).length=l.length+1:=by simp
   refine⟨_,_,O,a2,?_,⟨s1,s2,s3,zo,λb hb hn=>World.heap_setCells_other w g _ _ hb (λe=>hn (by rw[e];exact tag)),λ_ _=>rfl,λ_ h=>.inl h,b8⟩⟩;rw[<-c'];refine .some tag d6 (by rw[d5];exact fit) zo mx (λj u hu=>?_) (λy hy=>?_)
   ·rw[List.flatMap_append,Nl,Pq,LQ]at hu
    by_cases hj:j<(l.flatMap enc).length
    ·rw[MT hj]at hu;rw[World.cell?_setCells_out g _ _ w _ (λ_ _=>.inl (by show off+j<_;omega))];exact cells j u hu
    rw[Ma zo]at hu;have hk:=(MS.1 hu).1;have:=World.cell?_setCells_in g (enc x) (off+l.length*a1.size) w b9 (j-(l.flatMap enc).length) hk;rw[show off+l.length*a1.size+(j-(l.flatMap enc).length)=off+j from by omega]at this;rw[this];exact(Mv hk).symm.trans hu
   rcases Mi.1 hy with hy|hy
   ·exact hzl y hy
   rw[ln.1 hy];exact a'
  obtain⟨v',w',a2,a4,a5⟩:=run_append_arg_grows (P:=P) w T ty E a1 z a1.size a1.bytes ht hi hz rfl rfl b7 hp ⟨g,off,none⟩ l.length a9 (l.flatMap enc) b4 (λj u hu=>by rw[b5];exact cells j u hu) a 1 c (enc x) zo hx zo (by simpa[maxLen]using b6) a3
  obtain⟨O',h2,h3⟩:=fresh (ls:=l++[x]) a4 zo a5 (by simp) (by simp) (λy hy=>by
   rcases Mi.1 hy with hy|hy
   ·exact hzl y hy
   rw[ln.1 hy];exact a')
  exact⟨v',w',O',a2,h2,h3⟩
section
variable{P:NQ}{N:Nat}{ops:Array Q2}{Q:Exit→Act→L0→Prop}{rest:List Q2}{st:St}{w:L0}{t:Ml}{p:String}{e:Array Edge}{d:Nat}{x y:Pg}
theorem vM{a0:Nat}(he:Qu P T E sz a0){sv:ix}{l:List α}{u:α}(hr:WinO enc E sz O w i v l)(r:Ns B O w)(hs:Sl enc sz w sv [u]) 
  (hx:ev st x=some v) (hy:ev st y=some sv) (a4:(enc u).length=sz) (a6:∀c∈enc u,c.oneCell'=true)
  (hb:(l.length+1)*a0<=140737488355328) (a9:l.length+1<=9223372036854775807) (a7:i≠0) (hd:Pn d N=true)
  (h:∀v' w' O',WinO enc E sz O' w' i v' (l++[u])->M6 (λk=>k=i) O w O' w'->Ns B O' w'->WL P N ops Q rest ((d,v')::st) w') :
  WL P N ops Q (⟨some d,.call ⟨.builtin .append,#[x,y],#[T,T]⟩,t,p,e,none⟩::rest) st w:=by
 obtain⟨a,c,rfl,_,_,a8⟩:=hs.shape;obtain⟨b,o,rfl⟩:=a8 (by simp);have a5:=Db hs (λq hq=>by rw[ln.1 hq];exact a4) he.pos rfl;simp only[Nl,Pq,LQ]at a5;obtain⟨v',w',O',a2,a3,a1⟩:=pR (P:=P) (ty:=t) he r hr u ⟨b,o,none⟩ c a5 a4 a6 hb a9 a7;refine PV (v:=v') (w':=w') hd (λa ha=>?_) (h v' w' O' a3 a1 (r.upd a1));simp only[execOp,resolve,invoke,builtin,N1,Sem.run_pure,MQ,Po,PQ,PY,ha.ev hx,ha.ev hy,L4,a2]
end
end Go.VL
namespace Go.Proofs.YteolbhblkgjbhaaGreatDoor
abbrev En:=Nat×Bool
abbrev Jg(x:En):List ix:=[nI (x.1:Int),.bool x.2]
theorem elE:Qu M1 136 138 2 16:=⟨P2,by kernel_rfl,zd⟩
structure RunS where
 row:Nat
 wait:List En
 begun:Bool
 last:En
 closed:Bool
def grT(t:TabM)(c:Nat):Nat:=(nth t.groups c).toNat
def stL(t:TabM)(r c:Nat):Nat:=(getM t.left r (grT t c)).toNat
def stR(t:TabM)(r c:Nat):Nat:=(getM t.right r (grT t c)).toNat
structure OkT(t:TabM):Prop where
 okl:OkP t.left
 okr:OkP t.right
 gl:t.groups.length=37
 gr:∀c,c<37->0<=nth t.groups c/\nth t.groups c<64
 ll:t.lt.length=t.left.usual.length
 rl:t.rt.length=t.right.usual.length
 lp:0<t.left.usual.length
 rp:0<t.right.usual.length
 lst:∀r c,r<t.left.usual.length->c<37->0<=getM t.left r (grT t c)/\getM t.left r (grT t c)<t.left.usual.length
 rst:∀r c,r<t.right.usual.length->c<37->0<=getM t.right r (grT t c)/\getM t.right r (grT t c)<t.right.usual.length
 ig:t.ig<2^36
 kp:t.kp<2^36
 br:t.br<2^40
 lt:∀q∈t.lt,q<2^40
 rt:∀q∈t.rt,q<2^40
theorem OkT.gN{t:TabM}(h:OkT t)(hc:c<37):nth t.groups c=((grT t c:Nat):Int)/\grT t c<64:=by
 have:=h.gr c hc;unfold grT;omega
theorem OkT.lN{t:TabM}(h:OkT t){r:Nat}(hr:r<t.left.usual.length)(hc:c<37):getM t.left r (grT t c)=((stL t r c:Nat):Int)/\stL t r c<t.left.usual.length:=by
 have:=h.lst r c hr hc;unfold stL;omega
theorem OkT.rN{t:TabM}(h:OkT t){r:Nat}(hr:r<t.right.usual.length)(hc:c<37):getM t.right r (grT t c)=((stR t r c:Nat):Int)/\stR t r c<t.right.usual.length:=by
 have:=h.rst r c hr hc;unfold stR;omega
def FreeL(O:Nat->Nat)(w:L0)(cs:List ix):Prop:=∀v∈cs,Qi O w v
theorem FreeL.upd{S:Nat->Prop}{O O':Nat->Nat}{w w':L0}{cs:List ix}(h:FreeL O w cs)(u:M6 S O w O' w'):FreeL O' w' cs:=λv hv=>(h v hv).upd u
theorem PartV.updF{p:PP}(h:PartV w cs p tl)(n:FreeL O w cs)(u:M6 S O w O' w'):PartV w' cs p tl:=by
 obtain⟨uv,bv,kv,nv,tv,rfl,h1,h2,h3,h4,h5⟩:=h;exact⟨uv,bv,kv,nv,tv,rfl,h1.upd (n uv (by simp)) u,h2.upd (n bv (by simp)) u,h3.upd (n kv (by simp)) u,h4.upd (n nv (by simp)) u,h5.upd (n tv (by simp)) u⟩
theorem PartV.tv{w:L0}{cs:List ix}{p:PP}{tl:List Nat}(h:PartV w cs p tl):∃tv,cs[5]? = some tv/\Sl jh 1 w tv tl:=by
 obtain⟨uv,bv,kv,nv,tv,rfl,h1,h2,h3,h4,h5⟩:=h;exact⟨tv,rfl,h5⟩
abbrev GB(wv:ix)(s:RunS):List ix:=[nI (s.row:Int),wv,.bool s.begun,nI (s.last.1:Int),.bool s.last.2,.bool s.closed]
abbrev pS(t:TabM)(gv:ix)(lc rc:List ix)(wv:ix)(s:RunS):List ix:=fm t.ig t.kp t.br t.rules gv lc rc++GB wv s
structure RunO(O:Nat->Nat)(w:L0)(i j rb:Nat)(t:TabM)(gv:ix)(lc rc:List ix)(wv:ix)(s:RunS):Prop where
 blk:N4 O w i rb (pS t gv lc rc wv s).toArray 140
 win:WinO Jg 138 2 O w j wv s.wait
 groups:Ng w gv t.groups
 left:PartV w lc t.left t.lt
 right:PartV w rc t.right t.rt
 fr:FreeL O w (gv::(lc++rc))
section
variable{O:Nat→Nat}{w:L0}{i j rb:Nat}{t:TabM}{gv:ix}{lc rc:List ix}{wv:ix}{s:RunS}
theorem RunO.upd{S:Nat->Prop}{O':Nat->Nat}{w':L0}(h:RunO O w i j rb t gv lc rc wv s)(u:M6 S O w O' w')(hi:i≠0)(hj:j≠0)(h1:¬S i)(h2:¬S j):RunO O' w' i j rb t gv lc rc wv s:=
 ⟨h.blk.upd u hi h1,h.win.upd u hj h2,h.groups.upd (h.fr gv (by simp)) u,h.left.updF (λv hv=>h.fr v (by simp[hv])) u,h.right.updF (λv hv=>h.fr v (by simp[hv])) u,h.fr.upd u⟩
theorem RunO.tab(h:RunO O w i j rb t gv lc rc wv s):TabB w rb t gv lc rc:=⟨λk u hu=>h.blk.cell k (by
 have:=(MS.1 hu).1;simp only[pS,N7]
 rw[MT this];exact hu),h.groups,h.left,h.right⟩
theorem RunO.len(h:RunO O w i j rb t gv lc rc wv s):(fm t.ig t.kp t.br t.rules gv lc rc).length=17:=by simp[h.left.one.1,h.right.one.1]
theorem RunO.cell(h:RunO O w i j rb t gv lc rc wv s)(k:Nat)(u:ix)(hu:[nI (s.row:Int),wv,.bool s.begun,nI (s.last.1:Int),.bool s.last.2,.bool s.closed][k]? = some u):w.cell? ⟨rb,17+k,none⟩=some u:=h.blk.cell (17+k) (by
 have hl:=h.len;simp only[pS,N7]
 rw[Ma zo,hl,Mz];exact hu)
theorem RunO.k17(h:RunO O w i j rb t gv lc rc wv s):w.cell? (nA rb 17)=some (nI (s.row:Int)):=h.cell 0 _ rfl
theorem RunO.k18(h:RunO O w i j rb t gv lc rc wv s):w.cell? (nA rb 18)=some wv:=h.cell 1 _ rfl
theorem RunO.k19(h:RunO O w i j rb t gv lc rc wv s):w.cell? (nA rb 19)=some (.bool s.begun):=h.cell 2 _ rfl
theorem RunO.k20(h:RunO O w i j rb t gv lc rc wv s):w.cell? ((nA rb 20).add 0)=some (nI (s.last.1:Int)):=h.cell 3 _ rfl
theorem RunO.k21(h:RunO O w i j rb t gv lc rc wv s):w.cell? ((nA rb 20).add 1)=some (.bool s.last.2):=h.cell 4 _ rfl
theorem RunO.k22(h:RunO O w i j rb t gv lc rc wv s):w.cell? (nA rb 22)=some (.bool s.closed):=h.cell 5 _ rfl
end
structure OkS(t:TabM)(s:RunS):Prop where
 row:s.row<t.left.usual.length
 wait:∀x∈s.wait,x.1<36
 last:s.last.1<36
 few:s.wait.length<=1000000
def rwL(t:TabM):List En->Nat->Nat->Nat->Nat
 |[],_,_,told=>told
 |(c,h)::r,row,seen,told=>if h=true then rwL t r row seen told else if seen=4 then told else rwL t r (stR t row c) (seen+1) (told ||| nth t.rt (stR t row c))
def eK(t:TabM)(l:List En):Nat:=rwL t l 0 0 (nth t.rt 0)
theorem B8{t:TabM}(ho:OkT t):∀(l:List En) (row a1 a0:Nat),(∀x∈l,x.1<36)->row<t.right.usual.length->a0<2^40->rwL t l row a1 a0<2^40
 |[],_,_,_,_,_,h=>h
 |(c,h)::r,row,a1,a0,hc,hr,ht=>by
  unfold rwL;have a2:=hc (c,h) (by simp);have hn:=(ho.rN hr (show c<37 by simp at a2;omega)).2
  split
  ·exact B8 ho r row a1 a0 (λx hx=>hc x (by simp[hx])) hr ht
  split
  ·exact ht
  exact B8 ho r _ _ _ (λx hx=>hc x (by simp[hx])) hn (Mo ht (ho.rt _ (aW (by rw[ho.rl];exact hn))))
theorem sf(O:Nat → Nat)(w:L0)(i j rb:Nat)(t:TabM)(gv:ix)(lc rc:List ix)(wv:ix)(s:RunS)(h:RunO O w i j rb t gv lc rc wv s)(ho:OkT t)(hs:OkS t s):
    MO M1 140 [.pointer (some ⟨rb, 0, none⟩)] w λv w' => v = .int .u64 ((eK t s.wait:Nat):Int) ∧ Ms w w' := by
  have hT := h.tab
  have hp40:(2^40:Nat) = 1099511627776 := by decide
  obtain⟨tv, htc, htl⟩ := h.right.tv
  have hrl := ho.rl
  have hrp := ho.rp
  have hgl := ho.gl
  have c4:w.cell? (((⟨rb, 0, none⟩:NX).add 0).add 4) = some gv := hT.c4
  have c5:w.cell? ((((⟨rb, 0, none⟩:NX).add 0).add 11).add 5) = some tv := hT.cr 5 tv htc
  have t0:w.cell? (adr tv 1 0) = some (.int .u64 ((nth t.rt 0:Nat):Int)) := by have := htl.cell (i := 0) (j := 0) (by omega) rfl; rwa[aA]at this
  have k18 := h.k18
  have hws := h.win.sl
  have hwl := hs.few
  apply L2 func140 ntmps140 rfl rfl
  refine zh ?_
  refine zvH (aC htl.sh Qn (Qb _) rfl rfl 0 rfl (by omega)) ?_
  apply zlp (λz:Nat×Nat×Nat×Nat×L0 => [(0, .pointer (some ⟨rb, 0, none⟩)), (3, .int .i64 (z.2.1:Nat)), (4, .int .u64 (z.2.2.2.1:Nat)), (5, .int .i64 (z.2.2.1:Nat)), (19, wv), (20, .int .i64 s.wait.length), (21, .int .i64 z.1)]) (λz => z.2.2.2.2) (λz => z.1 ≤ s.wait.length ∧ z.2.1 < t.right.usual.length ∧ z.2.2.1 ≤ 4 ∧ z.2.2.2.1 < 2^40 ∧ Ms w z.2.2.2.2 ∧ rwL t (s.wait.drop z.1) z.2.1 z.2.2.1 z.2.2.2.1 = eK t s.wait) (λz => s.wait.length - z.1) (0, 0, 0, nth t.rt 0, w) ⟨LO _, hrp, LO _, ho.rt _ (aW (by omega)), L3 _, rfl⟩
  rintro⟨k, row, seen, told, w1⟩ ⟨hk, hrow, hseen, htold, hE1, heq⟩
  dsimp only at hk hrow hseen htold hE1 heq ⊢
  have hws1 := hws.ext hE1
  refine zh ?_
  refine zC ?_ ?_
  · intro hlt
    replace hlt:k < s.wait.length := by have := of_decide_eq_true hlt; omega
    obtain⟨c, hd, hcd⟩:∃c hd, (c, hd) = nth s.wait k := ⟨_, _, rfl⟩
    have hc36 := hs.wait _ (aW hlt)
    rw[← hcd]at hc36
    dsimp only at hc36
    rw[Mh hlt, ← aB hlt, ← hcd, rwL]at heq
    refine zh ?_
    apply zv (ai (us := [.int .i64 (c:Nat), .bool hd]) (λj u hu => hws1.cell hlt (by rw[← hcd]; exact hu)) (NT _) (Mq _) rfl)
    apply ar (ax w1) 1 (by omega) (Nx _) rfl
    intro xb w2 O2 hxb2 hU2 hR2 hE2
    apply zsa (us := #[.int .i64 (c:Nat), .bool hd]) hxb2 (Mq _)
    have hxb3 := hxb2.setRow (us := #[.int .i64 (c:Nat), .bool hd])
    have hU3:M6 (λj => j = 1) O2 w2 O2 (w2.setRow xb #[.int .i64 (c:Nat), .bool hd]) := L5 (by decide) hxb2.tag rfl
    have hE13 := (hU2.trans hU3).ext
    generalize w2.setRow xb #[.int .i64 (c:Nat), .bool hd] = w3 at *
    have hE03 := hE1.trans hE13
    have x0:w3.cell? ((⟨xb, 0, none⟩:NX).add 0) = some (.int .i64 (c:Int)) := hxb3.cell 0 rfl
    have x1:w3.cell? ((⟨xb, 0, none⟩:NX).add 1) = some (.bool hd) := hxb3.cell 1 rfl
    refine zh ?_
    refine zC ?_ ?_
    · intro hh
      rw[if_pos hh]at heq
      refine zh ?_
      refine zxd (k + 1, row, seen, told, w3) ⟨hlt, hrow, hseen, htold, hE03, heq⟩
    · intro hh
      rw[if_neg (by rw[hh]; decide)]at heq
      refine zh ?_
      refine zC ?_ ?_
      · intro h4
        replace h4 : seen = 4 := by have : (seen : Int) = 4 := by simpa using h4
                                    omega
        rw[if_pos h4]at heq
        refine zh ?_
        refine af rfl rfl ⟨by rw[← heq], hE03⟩
      · intro h4
        replace h4 : seen ≠ 4 := by have : ¬ (seen : Int) = 4 := by simpa using h4
                                    omega
        rw[if_neg h4]at heq
        have hT3 := hT.ext hE03
        obtain⟨hg1, hg2⟩ := ho.gN (c := c) (by omega)
        obtain⟨hr1, hr2⟩ := ho.rN hrow (c := c) (by omega)
        have d4:w3.cell? (((⟨rb, 0, none⟩:NX).add 0).add 4) = some gv := hT3.c4
        have dcr:∀(j:Nat) (u:ix), rc[j]? = some u → w3.cell? ((((⟨rb, 0, none⟩:NX).add 0).add 11).add j) = some u := hT3.cr
        have dg:w3.cell? (adr gv 1 c) = some (.int .i64 ((grT t c:Nat):Int)) := by have := hT3.groups.cell (i := c) (j := 0) (by omega) rfl; rw[aA, hg1]at this; exact this
        have hgs := hT3.groups
        refine zh ?_
        apply ND 15 rfl rfl (by kernel_rfl) (by kernel_rfl)
        refine zh ?_
        refine zwH (ai (us := rc) dcr (Ny _) (by rw[h.right.one.1]; exact MN _) rfl) ?_
        apply Pw
        apply zc Qd (kA rc t.right t.rt row (grT t c) w3.drew (hT3.right.ext (L3 w3).drew) ho.okr hrow hg2)
        rintro _ w4 ⟨rfl, hE4⟩
        rw[hr1]
        have hE04:Ms w w4 := (hE03.trans (L3 w3).drew).trans hE4
        have hT4 := hT.ext hE04
        have e5:w4.cell? ((((⟨rb, 0, none⟩:NX).add 0).add 11).add 5) = some tv := hT4.cr 5 tv htc
        have htl4 := htl.ext hE04
        have t4:w4.cell? (adr tv 1 (stR t row c)) = some (.int .u64 ((nth t.rt (stR t row c):Nat):Int)) := by have := htl4.cell (i := stR t row c) (j := 0) (by omega) rfl; rwa[aA]at this
        have hlt2 := ho.rt _ (aW (l := t.rt) (j := stR t row c) (by omega))
        refine zh ?_
        refine zvH (vP (a := told) (b := nth t.rt (stR t row c)) rfl rfl rfl rfl (by show _ ≤ (18446744073709551615:Int); omega) (by show _ ≤ (18446744073709551615:Int); omega)) ?_
        refine zxd (k + 1, stR t row c, seen + 1, told ||| nth t.rt (stR t row c), w4) ⟨hlt, hr2, by dsimp only; omega, Mo htold hlt2, hE04, heq⟩
  · intro hge
    obtain rfl:k = s.wait.length := by have := of_decide_eq_false hge; omega
    rw[List.drop_length, rwL]at heq
    refine zh ?_
    refine af rfl rfl ⟨by rw[← heq], hE1⟩
theorem mG{g:Nat}{tab:List Nat}(h:PX g tab w)(e:Ms w w'):PX g tab w':=λj hj=>e.cell (h j hj)
abbrev lF(w:L0):Prop:=PX 1 Ps w
def dD(t:TabM)(s:RunS):Int:=if nth t.lt s.row &&& eK t s.wait=0 then -1 else((N2 64 (nth t.lt s.row &&& eK t s.wait):Nat):Int)
theorem oC{t:TabM}{s:RunS}(ho:OkT t)(hs:OkS t s):eK t s.wait<2^40:=B8 ho _ _ _ _ hs.wait ho.rp (ho.rt _ (aW (by have:=ho.rl;have:=ho.rp;omega)))
theorem rK(O:Nat->Nat)(w:L0)(i j rb:Nat)(t:TabM)(gv:ix)(lc rc:List ix)(wv:ix)(s:RunS)(h:RunO O w i j rb t gv lc rc wv s)(hi:i≠0)(hj:j≠0)(ho:OkT t)(hs:OkS t s)(hT:lF w):
  MO M1 97 [nP rb] w λv w'=>v=nI (dD t s)/\Ms w w':=by
 have hB:=h.tab;obtain⟨tv,a4,a3⟩:=h.left.tv;have a':=ho.ll;have a5:=hs.row;have c1:w.drew.cell? (((nA rb 0).add 5).add 5)=some tv:=hB.cl 5 tv a4;have t1:w.drew.cell? (adr tv 1 s.row)=some (.int .u64 ((nth t.lt s.row:Nat):Int)):=by have:=a3.cell (i:=s.row) (j:=0) zo rfl;rwa[aA]at this
 have k17:=h.k17;have a7:=ho.lt _ (aW (l:=t.lt) (j:=s.row) zo);have a9:=oC ho hs;have a6:(2^40:Nat)=1099511627776:=zd;have hW:dD t s=if nth t.lt s.row &&& eK t s.wait=0 then -1 else((N2 64 (nth t.lt s.row &&& eK t s.wait):Nat):Int):=rfl
 rw[hW];have a8:nth t.lt s.row &&& eK t s.wait<2^40:=Ni Nat.and_le_left a7;apply L2 func97 ntmps97 rfl rfl;refine zh ?_;have k17:w.drew.cell? (nA rb 17)=some (nI (s.row:Int)):=k17;apply aQ (λW=>W.cell? (((nA rb 0).add 5).add 5)=some tv/\W.cell? (adr tv 1 s.row)=some (.int .u64 ((nth t.lt s.row:Nat):Int))/\W.cell? (nA rb 17)=some (nI (s.row:Int))) 16 rfl zk;refine zin ⟨c1,t1,k17⟩ λzS=>?_
 apply zrm 0 rfl zS rfl;apply zr 1 rfl zS (λ_=>aq rfl)
 apply zrf 2 rfl zS rfl;apply zrf 3 rfl zS rfl
 apply zrf 4 rfl zS rfl;apply zt 5 rfl zS (λw1 a1=>RV.ld a1.1 rfl)
 apply zrm 6 rfl zS rfl;apply zr 7 rfl zS (λ_=>aq rfl)
 apply zrf 8 rfl zS rfl;apply zt 9 rfl zS (λw1 a1=>RV.ld a1.2.2 rfl)
 apply zr 10 rfl zS (λ_=>aC a3.sh Qn (Qb _) rfl rfl s.row rfl zo);apply zt 11 rfl zS (λw1 a1=>RV.ld a1.2.1 rfl)
 apply zrm 12 rfl zS rfl;apply L6 13 zk rfl
 apply zc call140 (sf O w.drew i j rb t gv lc rc wv s (h.upd (ae (S:=λ_=>False) (λh=>h) O (L3 w).drew) hi hj (λh=>h) (λh=>h)) ho hs);rintro _ w1 ⟨rfl,a2⟩;have a0:Ms w w1:=(L3 w).drew.trans a2;refine zh ?_
 refine zaf ⟨a2.cell c1,a2.cell t1,a2.cell k17⟩ λzS=>?_
 apply zr 14 rfl zS (λ_=>yH (a:=nth t.lt s.row) (b:=eK t s.wait) rfl rfl rfl rfl (by show _<=(18446744073709551615:Int);omega) (by show _<=(18446744073709551615:Int);omega));apply zra 15 rfl zS rfl
 apply Md zk;refine zh ?_
 generalize nth t.lt s.row &&& eK t s.wait=both at *
 by_cases h0:both=0
 ·rw[if_pos h0];refine zTH rfl ((by rw[h0];rfl)) ?_;refine af rfl rfl ⟨rfl,a0⟩
 rw[if_neg h0];refine zFH rfl ((by rw[beq_eq_false_iff_ne];omega)) ?_;apply zc call141 (JC both w1 zo h0 (mG hT a0));rintro _ w2 ⟨rfl,rfl⟩;refine zh ?_;refine af rfl rfl ⟨rfl,a0⟩
theorem KM:cE M1 138 #[(0,1),(1,1)]:=⟨_,underlying138,λw=>by kernel_rfl⟩
section
variable{O:Nat→Nat}{w:L0}{i j rb:Nat}{t:TabM}{gv:ix}{lc rc:List ix}{wv:ix}{s:RunS}
theorem RunO.size(h:RunO O w i j rb t gv lc rc wv s):(pS t gv lc rc wv s).toArray.size=23:=by simp[h.left.one.1,h.right.one.1]
theorem RunO.at_(h:RunO O w i j rb t gv lc rc wv s)(k:Nat){u:ix}(hu:(GB wv s)[k]? = some u):(pS t gv lc rc wv s).toArray[17+k]? = some u:=by
 have hl:=h.len;simp only[pS,N7];rw[Ma zo,hl,Mz];exact hu
theorem RunO.store2(h:RunO O w i j rb t gv lc rc wv s)(hi:i≠0)(hj:j≠0)(a0:i≠j)(u0:M6 S O w O' w')(hb:N4 O' w' i rb (pS t gv lc rc wv s).toArray 140)(k:Nat)(v:ix){s':RunS} 
  (hk:(GB wv s).set k v=GB wv' s') (hw:WinO Jg 138 2 O' w' j wv' s'.wait) :
  RunO O' (w'.setCell ⟨rb,17+k,none⟩ v) i j rb t gv lc rc wv' s'/\M6 (λq=>q=i) O' w' O' (w'.setCell ⟨rb,17+k,none⟩ v):=by
 have u:M6 (λq=>q=i) O' w' O' (w'.setCell ⟨rb,17+k,none⟩ v):=MA (λe=>hi e.symm) hb.tag rfl;have f0:=h.fr.upd u0;have g0:=h.groups.upd (h.fr gv (by simp)) u0;have l0:=h.left.updF (λv hv=>h.fr v (by simp[hv])) u0;have r0:=h.right.updF (λv hv=>h.fr v (by simp[hv])) u0;refine⟨⟨?_,hw.upd u hj (λe=>a0 e.symm),g0.upd (f0 gv (by simp)) u,l0.updF (λv hv=>f0 v (by simp[hv])) u,r0.updF (λv hv=>f0 v (by simp[hv])) u,f0.upd u⟩,u⟩;have hb:=hb.set (17+k) v;have hl:=h.len;have e:(pS t gv lc rc wv s).toArray.setIfInBounds (17+k) v=(pS t gv lc rc wv' s').toArray:=by
  rw[List.setIfInBounds_toArray];unfold pS;rw[List.set_append_right _ _ zo,hl,Mz,hk]
 rw[e]at hb;exact hb
theorem RunO.store(h:RunO O w i j rb t gv lc rc wv s)(hi:i≠0)(hj:j≠0)(a0:i≠j)(k:Nat)(v:ix){s':RunS}(hk:(GB wv s).set k v=GB wv' s')(hw:WinO Jg 138 2 O w j wv' s'.wait):
  RunO O (w.setCell ⟨rb,17+k,none⟩ v) i j rb t gv lc rc wv' s'/\M6 (λq=>q=i) O w O (w.setCell ⟨rb,17+k,none⟩ v):=
 h.store2 hi hj a0 (PO (S:=λ_=>False) (λh=>h) O w) h.blk k v hk hw
theorem RunO.lastE(h:RunO O w i j rb t gv lc rc wv s)(c:Nat)(b:Bool):((pS t gv lc rc wv s).toArray.toList.take 20++(#[nI (c:Int),.bool b]:Array ix).toList++(pS t gv lc rc wv s).toArray.toList.drop (20+(#[nI (c:Int),.bool b]:Array ix).size)).toArray=(pS t gv lc rc wv {s with last:=(c,b)}).toArray:=by
 have hl:=h.len;congr 1;show List.take 20 (fm t.ig t.kp t.br t.rules gv lc rc++GB wv s)++[nI (c:Int),.bool b]++Qh 22 (fm t.ig t.kp t.br t.rules gv lc rc++GB wv s)=_;have hd:Qh 22 (fm t.ig t.kp t.br t.rules gv lc rc)=[]:=List.drop_eq_nil_of_le zo;rw[List.take_append,List.drop_append,hl,NS zo,hd];simp
theorem RunO.lastS(h:RunO O w i j rb t gv lc rc wv s)(hi:i≠0)(hj:j≠0)(a0:i≠j)(c:Nat)(b:Bool):
  RunO O (w.setRow rb (pS t gv lc rc wv {s with last:=(c,b)}).toArray) i j rb t gv lc rc wv {s with last:=(c,b)}/\M6 (λq=>q=i) O w O (w.setRow rb (pS t gv lc rc wv {s with last:=(c,b)}).toArray):=by
 have u:M6 (λq=>q=i) O w O (w.setRow rb (pS t gv lc rc wv {s with last:=(c,b)}).toArray):=L5 (λe=>hi e.symm) h.blk.tag rfl;exact⟨⟨h.blk.setRow,h.win.upd u hj (λe=>a0 e.symm),h.groups.upd (h.fr gv (by simp)) u,h.left.updF (λv hv=>h.fr v (by simp[hv])) u,h.right.updF (λv hv=>h.fr v (by simp[hv])) u,h.fr.upd u⟩,u⟩
end
def bd(id:Int):Nat:=if id<0\/36<=id then 0 else id.toNat
theorem iD(id:Int):bd id<36:=by unfold bd;split<;>omega
def D2(t:TabM)(s:RunS)(c:Nat):Bool:=t.ig.testBit c&&(s.last.2 || !(t.kp.testBit s.last.1))
def si(t:TabM)(s:RunS)(c:Nat):RunS:=
 if s.begun=true then {s with last:=(c,D2 t s c),wait:=s.wait++[(c,D2 t s c)]} else {s with begun:=true,last:=(c,false),row:=stL t s.row c}
theorem Ir{t:TabM}{s:RunS}(ho:OkT t)(hs:OkS t s)(hc:c<36)(hf:s.wait.length+1<=1000000):OkS t (si t s c):=by
 unfold si
 split
 ·refine⟨hs.row,λx hx=>?_,hc,by simpa using hf⟩
  rcases Mi.1 hx with hx|hx
  ·exact hs.wait x hx
  rw[ln.1 hx];exact hc
 exact⟨(ho.lN hs.row zo).2,hs.wait,hc,by show s.wait.length<=_;omega⟩
theorem xx(B:Nat)(O:Nat->Nat)(w:L0)(i j rb:Nat)(t:TabM)(gv:ix)(lc rc:List ix)(wv:ix)(s:RunS)(h:RunO O w i j rb t gv lc rc wv s)(hi:i≠0)(hj:j≠0)(b3:i≠j)(g3:i<1000)(g0:j<1000)(ho:OkT t)(hs:OkS t s)(hf:s.wait.length+1<=1000000)(hR:Ns B O w)(id:Int):
  MO M1 32 [nP rb,nI id] w fun _ w'=>∃O' wv',RunO O' w' i j rb t gv lc rc wv' (si t s (bd id))/\M6 (fun q=>q=i\/q=j\/q=1000) O w O' w'/\Ns B O' w':=by
 have e7:(2^40:Nat)=1099511627776:=zd;have e8:(2^36:Nat)=68719476736:=zd;have hz:¬(0=i\/0=j\/0=1000):=zo;have f9:=hs.last;have f7:=hs.few;obtain⟨c,hc⟩:∃c,c=bd id:=⟨_,rfl⟩
 have e':c<36:=by rw[hc];exact iD id
 rw[<-hc];refine L2 func32 ntmps32 rfl rfl ?_;refine zh ?_;refine ct (fun w1=>_=w1) (decide (36<=id)) 2 (rfl) rfl rfl rfl rfl rfl ?_ ?_
 ·intro g1;refine zh ?_;refine nE 7 3 (rfl) g1
 rintro _ rfl;refine zh ?_;refine iO (fun z:Nat=>[(0,nP rb),(1,nI (z:Nat))]) (fun z:Nat=>w) (fun z:Nat=>z=c) ?_ ?_
 ·intro Qm hN;refine zC ?_ ?_
  ·intro hb;refine zh ?_;exact dq (hN (0) (by rw[hc];unfold bd;rw[if_pos (by simpa using hb)])) ⟨rfl,rfl,trivial⟩ rfl
  intro hb;obtain rfl:id=(c:Int):=by
   have:¬(id<0\/36<=id):=by simpa using hb
   rw[hc];unfold bd;rw[if_neg this];omega
  refine zh ?_;exact dq (hN (c) (rfl)) ⟨rfl,rfl,trivial⟩ rfl
 rintro c' e0;obtain rfl:c=c':=e0.symm;clear e0 hc;refine zh ?_;refine zv (aF KM (Nx _) rfl (by first|rfl|(simp only[LX,Nm];rfl)) rfl rfl) ?_;refine ar hR 1000 zo (Nx _) rfl ?_;intro xb w1 O1 a7 f4 f5 g5;refine zsa (us:=#[nI (c:Nat),.bool false]) a7 (Mq _) ?_;have a6:=a7.setRow (us:=#[nI (c:Nat),.bool false]);have e1:M6 (fun q=>q=1000) O1 w1 O1 (w1.setRow xb #[nI (c:Nat),.bool false]):=L5 zd a7.tag rfl;generalize w1.setRow xb #[nI (c:Nat),.bool false]=w2 at *;have b1:=f4.trans e1;have e2:=f5.upd e1;have h2:=h.upd b1 hi hj zo zo;have k19:=h2.k19;have b6:=a6.cellsAdd;refine zh ?_;have hX:=ae (S:=fun _=>False) (fun h=>h) O1 (L3 w2).drew
 cases hbg:s.begun with
 |false=>
  refine zTH rfl rfl ?_;refine aQ (fun W=>∀k u,[nI (c:Nat),.bool false][k]? = some u->W.cell? (nA xb k)=some u) 9 rfl zk ?_
  refine zrm 0 rfl b6 rfl ?_;refine zrm 1 rfl b6 rfl ?_
  refine zt 2 rfl b6 (fun w1 a0=>ai (us:=[nI (c:Nat),.bool false]) a0 (NT _) (Mq _) rfl) ?_;refine zr 3 rfl b6 (fun _=>aq rfl) ?_
  refine zrf 4 rfl b6 rfl ?_;have h2d:=h2.upd hX hi hj (fun h=>h) (fun h=>h);refine L6 5 zk rfl ?_
  refine ak (j:=19) h2d.blk (h2d.at_ 2 rfl) (Pe _) rfl rfl rfl rfl ?_;obtain⟨h3,b7⟩:=h2d.store hi hj b3 2 (.bool true) (wv':=wv) (s':={s with begun:=true}) (by simp[hbg]) h2d.win;have b0:=(hX.mono (S':=fun q=>q=i) (fun _ h=>h.elim) zo).trans b7;have b2:=a6.upd b0 zd zo;have d5:=e2.upd b0;generalize w2.drew.setCell ⟨rb,17+2,none⟩ (.bool true)=w3 at *;refine zh ?_
  refine zaf (b2.cellsAdd) fun zS=>?_
  refine zr 6 rfl zS (fun _=>aq rfl) ?_;refine zrf 7 rfl zS rfl ?_
  refine L6 8 zk rfl ?_;refine bT (us:=#[nI (c:Nat),.bool false]) 20 (pS t gv lc rc wv {s with begun:=true,last:=(c,false)}).toArray h3.blk (h3.lastE c false) (by rw[h3.size];show 22<=23;omega) (Mq _) rfl rfl rfl rfl ?_
  obtain⟨h4,a9⟩:=h3.lastS hi hj b3 c false;have b5:=b2.upd a9 zd zo;have a':=b0.trans a9;have d3:=d5.upd a9;generalize w3.setRow rb (pS t gv lc rc wv {s with begun:=true,last:=(c,false)}).toArray=w4 at *;refine zh ?_;refine aa (b5.cellsAdd) ?_;refine Md zk ?_;refine zh ?_;have hB:=h4.tab;obtain⟨d',e9⟩:=ho.gN (c:=c) zo;obtain⟨e6,f8⟩:=ho.lN hs.row (c:=c) zo;have g4:=ho.gl;have d4:w4.drew.cell? ((nA rb 0).add 4)=some gv:=hB.c4;have b9:∀(j:Nat) (u:ix),lc[j]? = some u->w4.drew.cell? (((nA rb 0).add 5).add j)=some u:=hB.cl;have dg:w4.drew.cell? (adr gv 1 c)=some (nI ((grT t c:Nat):Int)):=by have:=hB.groups.cell (i:=c) (j:=0) zo rfl;rw[aA,d']at this;exact this
  have f6:w4.drew.cell? (nA rb 17)=some (nI (s.row:Int)):=h4.k17;refine aQ (fun W=>W.cell? ((nA rb 0).add 4)=some gv/\W.cell? (adr gv 1 c)=some (nI ((grT t c:Nat):Int))/\∀(j:Nat) (u:ix),lc[j]? = some u->W.cell? (((nA rb 0).add 5).add j)=some u) 22 rfl zk ?_;refine zin ⟨d4,dg,b9⟩ fun zS=>?_
  refine zrm 0 rfl zS rfl ?_;refine zrm 1 rfl zS rfl ?_
  refine zr 2 rfl zS (fun _=>aq rfl) ?_;refine zrf 3 rfl zS rfl ?_
  refine zrf 4 rfl zS rfl ?_;refine zt 5 rfl zS (fun w1 a0=>ai (us:=lc) a0.2.2 (Ny _) (by rw[h.left.one.1];exact MN _) rfl) ?_
  refine zrm 6 rfl zS rfl ?_;refine zr 7 rfl zS (fun _=>aq rfl) ?_
  refine zrf 8 rfl zS rfl ?_;refine zrm 10 rfl zS rfl ?_
  refine zr 11 rfl zS (fun _=>aq rfl) ?_;refine zrf 12 rfl zS rfl ?_
  refine zrf 13 rfl zS rfl ?_;refine zt 14 rfl zS (fun w1 a0=>RV.ld a0.1 rfl) ?_
  refine zrm 15 rfl zS rfl ?_;refine zr 16 rfl zS (fun _=>aC hB.groups.sh Pd (NP _) rfl rfl c rfl zo) ?_
  refine zt 17 rfl zS (fun w1 a0=>RV.ld a0.2.1 rfl) ?_;refine L6 9 zk rfl ?_
  refine zvH (RV.ld f6 rfl) ?_;refine aa (⟨d4,dg,b9⟩) ?_
  refine L6 18 zk rfl ?_;refine zc Qd (kA lc t.left t.lt s.row (grT t c) w4.drew (hB.left.ext (L3 w4).drew) ho.okl hs.row e9) ?_
  rintro _ w5 ⟨rfl,a1⟩;rw[e6];refine zh ?_;refine aa (⟨a1.cell d4,a1.cell dg,fun j u hu=>a1.cell (b9 j u hu)⟩) ?_;have a5:=ae (S:=fun _=>False) (fun h=>h) O1 ((L3 w4).drew.trans a1);have h5:=h4.upd a5 hi hj (fun h=>h) (fun h=>h);have d0:=(a'.trans (a5.mono (fun _ h=>h.elim) zo))
  have d2:=d3.upd a5;refine zin (⟨a1.cell d4,a1.cell dg,fun j u hu=>a1.cell (b9 j u hu)⟩) fun zS=>?_
  refine zr 19 rfl zS (fun _=>aq rfl) ?_;refine zrf 20 rfl zS rfl ?_
  refine L6 21 zk rfl ?_;refine ak (j:=17) h5.blk (h5.at_ 0 rfl) (NP _) rfl rfl rfl rfl ?_
  obtain⟨h6,a8⟩:=h5.store hi hj b3 0 (nI ((stL t s.row c:Nat):Int)) (wv':=wv) (s':={s with begun:=true,last:=(c,false),row:=stL t s.row c}) rfl h5.win;have d6:=h6.tab;have d1:=d2.upd a8;have c9:=d0.trans a8;have q1:(w5.setCell ⟨rb,17+0,none⟩ (nI ((stL t s.row c:Nat):Int))).cell? (adr gv 1 c)=some (nI ((grT t c:Nat):Int)):=by have:=d6.groups.cell (i:=c) (j:=0) zo rfl;rw[aA,d']at this;exact this
  refine zh ?_;refine aa (⟨d6.c4,q1,d6.cl⟩) ?_
  refine Md zk ?_;refine zh ?_
  have e:si t s c = {s with begun:=true,last:=(c,false),row:=stL t s.row c}:=by unfold si;rw[hbg,if_neg zd]
  refine cG rfl (⟨O1,wv,by rw[e];exact h6,(b1.mono (fun _ h=>zo) hz).trans (c9.mono (fun _ h=>zo) hz),d1⟩)
 |true=>
  refine zFH rfl rfl ?_;have hB:=h2.tab;have a3:w2.drew.cell? ((nA rb 0).add 0)=some (.int .u64 (t.ig:Int)):=hB.c0;have a2:w2.drew.cell? ((nA rb 0).add 1)=some (.int .u64 (t.kp:Int)):=hB.c1;have k20:w2.drew.cell? ((nA rb 20).add 0)=some (nI (s.last.1:Int)):=h2.k20;have k21:w2.drew.cell? ((nA rb 20).add 1)=some (.bool s.last.2):=h2.k21;have b4:=a6.upd hX zd (fun h=>h);have d7:∀b,b=D2 t s c->N4 O1 (w2.drew.setCell ⟨xb,1,none⟩ (.bool b)) 1000 xb #[nI (c:Nat),.bool (D2 t s c)] 138/\M6 (fun q=>q=1000) O1 w2 O1 (w2.drew.setCell ⟨xb,1,none⟩ (.bool b))/\
    ((w2.drew.setCell ⟨xb,1,none⟩ (.bool b)).cell? ((nA rb 0).add 0)=some (.int .u64 (t.ig:Int))/\(w2.drew.setCell ⟨xb,1,none⟩ (.bool b)).cell? ((nA rb 0).add 1)=some (.int .u64 (t.kp:Int))/\(w2.drew.setCell ⟨xb,1,none⟩ (.bool b)).cell? ((nA rb 20).add 0)=some (nI (s.last.1:Int))/\(w2.drew.setCell ⟨xb,1,none⟩ (.bool b)).cell? ((nA rb 20).add 1)=some (.bool s.last.2)):=by
   rintro b rfl;have u1:M6 (fun q=>q=1000) O1 w2.drew O1 (w2.drew.setCell ⟨xb,1,none⟩ (.bool (D2 t s c))):=MA zd b4.tag rfl;have u2:=(hX.mono (S':=fun q=>q=1000) (fun _ h=>h.elim) zd).trans u1;have h3:=h2.upd u2 hi hj zo zo;exact⟨b4.set 1 _,u2,h3.tab.c0,h3.tab.c1,h3.k20,h3.k21⟩
  have hh:D2 t s c=(t.ig.testBit c&&(s.last.2 || !(t.kp.testBit s.last.1))):=rfl;have f':=ho.kp;have g2:=ho.ig;refine iO (fun z:L0=>[(0,nP rb),(4,nP xb)]) (fun z:L0=>z) (fun z:L0=>N4 O1 z 1000 xb #[nI (c:Nat),.bool (D2 t s c)] 138/\M6 (fun q=>q=1000) O1 w2 O1 z) ?_ ?_
  ·intro Qm hN;refine aQ (fun W=>W.cell? ((nA rb 0).add 0)=some (.int .u64 (t.ig:Int))/\W.cell? ((nA rb 0).add 1)=some (.int .u64 (t.kp:Int))/\W.cell? ((nA rb 20).add 0)=some (nI (s.last.1:Int))/\W.cell? ((nA rb 20).add 1)=some (.bool s.last.2)) 30 rfl zk ?_;refine zin ⟨a3,a2,k20,k21⟩ fun zS=>?_
   refine zrm 0 rfl zS rfl ?_;refine zr 1 rfl zS (fun _=>aq rfl) ?_
   refine zrf 2 rfl zS rfl ?_;refine zrf 3 rfl zS rfl ?_
   refine zt 4 rfl zS (fun w1 a0=>RV.ld a0.1 rfl) ?_;refine zrm 5 rfl zS rfl ?_
   refine L6 6 zk rfl ?_;refine zc QA (sO t.ig c _ zo zo) ?_
   rintro _ w3 ⟨rfl,rfl⟩;refine zh ?_;refine aa (⟨a3,a2,k20,k21⟩) ?_;refine zrm 7 rfl (⟨a3,a2,k20,k21⟩) rfl ?_
   cases c6:t.ig.testBit c with
   |false=>
    obtain⟨f1,f2,f3⟩:=d7 false (by rw[hh,c6];rfl);refine dC (d:=53) rfl (b':=false) (rfl) ?_;refine zin (⟨a3,a2,k20,k21⟩) fun zS=>?_
    refine zte 8 rfl rfl zS ?_;refine zte 9 rfl rfl zS ?_
    refine zte 10 rfl rfl zS ?_;refine zte 11 rfl rfl zS ?_
    refine zte 12 rfl rfl zS ?_;refine zte 13 rfl rfl zS ?_
    refine ztu 14 rfl zS ?_;refine ztu 15 rfl zS ?_
    refine ztu 16 rfl zS ?_;refine ztu 17 rfl zS ?_
    refine ztu 18 rfl zS ?_;refine ztu 19 rfl zS ?_
    refine ztu 20 rfl zS ?_;refine ztu 21 rfl zS ?_
    refine ztu 22 rfl zS ?_;refine ztu 23 rfl zS ?_
    refine ztu 24 rfl zS ?_;refine ztu 25 rfl zS ?_
    refine zte 26 rfl rfl zS ?_;refine zr 27 rfl zS (fun _=>aG rfl rfl) ?_
    refine zrf 28 rfl zS rfl ?_;refine L6 29 zk rfl ?_
    refine ak (j:=1) b4 rfl (Pe _) rfl rfl rfl rfl ?_;refine zh ?_
    refine aa (f3) ?_;refine Md zk ?_
    exact dq (hN (_) (⟨f1,f2⟩)) ⟨rfl,rfl,trivial⟩ rfl
   |true=>
    refine dC (d:=53) rfl (b':=true) (rfl) ?_;refine zin (⟨a3,a2,k20,k21⟩) fun zS=>?_
    refine zro 8 rfl zS (fun _=>Py rfl) ?_;refine zro 9 rfl zS (fun _=>aq rfl) ?_
    refine zro 10 rfl zS (fun _=>RV.fa rfl) ?_;refine zro 11 rfl zS (fun _=>RV.fa rfl) ?_
    refine zto 12 rfl zS (fun w1 a0=>RV.ld a0.2.2.2 rfl) ?_;refine zro 13 rfl zS (fun _=>Py rfl) ?_
    cases b8:s.last.2 with
    |true=>
     obtain⟨f1,f2,f3⟩:=d7 true (by rw[hh,c6,b8];rfl);rw[b8]at f3 k21;refine dC (d:=59) rfl (b':=true) (rfl) ?_;refine zin (⟨a3,a2,k20,k21⟩) fun zS=>?_
     refine zte 14 rfl rfl zS ?_;refine zte 15 rfl rfl zS ?_
     refine zte 16 rfl rfl zS ?_;refine zte 17 rfl rfl zS ?_
     refine zte 18 rfl rfl zS ?_;refine zte 19 rfl rfl zS ?_
     refine zte 20 rfl rfl zS ?_;refine zte 21 rfl rfl zS ?_
     refine zte 22 rfl rfl zS ?_;refine zte 23 rfl rfl zS ?_
     refine zte 24 rfl rfl zS ?_;refine zte 25 rfl rfl zS ?_
     refine zro 26 rfl zS (fun _=>aV rfl rfl) ?_;refine zr 27 rfl zS (fun _=>aV rfl rfl) ?_
     refine zrf 28 rfl zS rfl ?_;refine L6 29 zk rfl ?_
     refine ak (j:=1) b4 rfl (Pe _) rfl rfl rfl rfl ?_;refine zh ?_
     refine aa (f3) ?_;refine Md zk ?_
     exact dq (hN (_) (⟨f1,f2⟩)) ⟨rfl,rfl,trivial⟩ rfl
    |false=>
     obtain⟨f1,f2,f3⟩:=d7 (!(t.kp.testBit s.last.1)) (by rw[hh,c6,b8];rfl);rw[b8]at f3 k21;refine dC (d:=59) rfl (b':=false) (rfl) ?_;refine zin (⟨a3,a2,k20,k21⟩) fun zS=>?_
     refine zro 14 rfl zS (fun _=>Py rfl) ?_;refine zro 15 rfl zS (fun _=>aq rfl) ?_
     refine zro 16 rfl zS (fun _=>RV.fa rfl) ?_;refine zro 17 rfl zS (fun _=>RV.fa rfl) ?_
     refine zto 18 rfl zS (fun w1 a0=>RV.ld a0.2.1 rfl) ?_;refine zro 19 rfl zS (fun _=>Py rfl) ?_
     refine zro 20 rfl zS (fun _=>aq rfl) ?_;refine zro 21 rfl zS (fun _=>RV.fa rfl) ?_
     refine zro 22 rfl zS (fun _=>RV.fa rfl) ?_;refine zto 23 rfl zS (fun w1 a0=>RV.ld a0.2.2.1 rfl) ?_
     refine L6 24 zk rfl ?_;refine aH rfl ?_
     refine zc QA (sO t.kp s.last.1 _ zo zo) ?_;rintro _ w3 ⟨rfl,rfl⟩;refine zh ?_
     refine zaf (⟨a3,a2,k20,k21⟩) fun zS=>?_
     refine zro 25 rfl zS (fun _=>RV.not rfl) ?_;refine zro 26 rfl zS (fun _=>aG rfl rfl) ?_
     refine zr 27 rfl zS (fun _=>aV rfl rfl) ?_;refine zrf 28 rfl zS rfl ?_
     refine L6 29 zk rfl ?_;refine ak (j:=1) b4 rfl (Pe _) rfl rfl rfl rfl ?_
     refine zh ?_;refine aa (f3) ?_
     refine Md zk ?_;exact dq (hN (_) (⟨f1,f2⟩)) ⟨rfl,rfl,trivial⟩ rfl
  rintro w3 ⟨b2,b7⟩;refine zh ?_;obtain⟨hd,d9⟩:∃hd,hd=D2 t s c:=⟨_,rfl⟩
  rw[<-d9]at b2;have h3:=h2.upd b7 hi hj zo zo;have d5:=e2.upd b7;refine zh ?_;refine zvH (ai (us:=[nI (c:Nat),.bool hd]) b2.cellsAdd (NT _) (Mq _) rfl) ?_;refine bT (us:=#[nI (c:Nat),.bool hd]) 20 (pS t gv lc rc wv {s with last:=(c,hd)}).toArray h3.blk (h3.lastE c hd) (by rw[h3.size];show 22<=23;omega) (Mq _) rfl rfl rfl rfl ?_;obtain⟨h4,a9⟩:=h3.lastS hi hj b3 c hd;have b5:=b2.upd a9 zd zo;have a':=(b7.mono (S':=fun q=>q=i\/q=j\/q=1000) (fun _ h=>zo) hz).trans (a9.mono (fun _ h=>zo) hz);have d3:=d5.upd a9;generalize w3.setRow rb (pS t gv lc rc wv {s with last:=(c,hd)}).toArray=w4 at *;refine zh ?_;have k18:w4.drew.cell? (nA rb 18)=some wv:=h4.k18;refine aQ (fun W=>∀k u,[nI (c:Nat),.bool hd][k]? = some u->W.cell? (nA xb k)=some u) 11 rfl zk ?_;refine zin b5.cellsAdd fun zS=>?_
  refine zrm 0 rfl zS rfl ?_;refine zrm 1 rfl zS rfl ?_
  refine zr 2 rfl zS (fun _=>aq rfl) ?_;refine zrf 3 rfl zS rfl ?_
  refine zt 5 rfl zS (fun w1 a0=>ai (us:=[nI (c:Nat),.bool hd]) a0 (NT _) (Mq _) rfl) ?_;refine cC 4 6 elE (enc:=Jg) ((c,hd):En) rfl rfl zk zk zk zk (fun W hE=>RV.load (hE.cell k18) (isAgg136 _) rfl) (fun W hE k u hu=>hE.cell (b5.cellsAdd k u hu)) rfl rfl rfl zd rfl rfl rfl rfl rfl ?_
  intro sv w5 e5 a1;have a5:=ae (S:=fun _=>False) (fun h=>h) O1 ((L3 w4).drew.trans a1);have h5:=h4.upd a5 hi hj (fun h=>h) (fun h=>h);have e4:=b5.upd a5 zd (fun h=>h);have d2:=d3.upd a5;refine L6 7 zk rfl ?_;refine vM elE h5.win d2 e5 rfl rfl rfl (by simp[Mp]) (by show(s.wait.length+1)*16<=_;omega) (by show s.wait.length+1<=_;omega) hj rfl ?_;intro c5 w6 O6 a4 a8 d1;have d8:=e4.upd a8 zd zo;have h6:=h5.blk.upd a8 hi b3;refine zh ?_;refine zaf (d8.cellsAdd) fun zS=>?_
  refine zr 8 rfl zS (fun _=>aq rfl) ?_;refine zrf 9 rfl zS rfl ?_
  refine L6 10 zk rfl ?_;refine ak (j:=18) h6 (h5.at_ 1 rfl) (sizeOf136 _) a4.one rfl rfl rfl ?_
  obtain⟨h7,c7⟩:=h5.store2 hi hj b3 a8 h6 1 c5 (wv':=c5) (s':={s with last:=(c,hd),wait:=s.wait++[(c,hd)]}) rfl a4;have e3:=d8.upd c7 zd zo;refine zh ?_;refine aa (e3.cellsAdd) ?_;refine Md zk ?_;have e:si t s c = {s with last:=(c,hd),wait:=s.wait++[(c,hd)]}:=by unfold si;rw[hbg,if_pos rfl,<-d9]
  have c8:=((a'.trans (a5.mono (fun _ h=>h.elim) hz)).trans (a8.mono (fun _ h=>zo) hz)).trans (c7.mono (fun _ h=>zo) hz);refine aJ rfl (⟨O6,c5,by rw[e];exact h7,(b1.mono (fun _ h=>zo) hz).trans c8,d1.upd c7⟩)
theorem mF{g:Nat}{tab:List Nat}(h:PX g tab w)(hg:g<B)(r:Ns B O w)(u:M6 S O w O' w'):PX g tab w':=λj hj=>by
 have h0:O g=0:=by
  by_cases e:O g=0
  ·exact e
  have:=(r.rng g e).1;omega
 exact iE (u.blk g (by have:=r.le;omega) (by rw[h0];exact u.z)) (h j hj)
abbrev K8:Nat:=1
def Iw(t:TabM)(s:RunS)(x:En):Int:=if x.2=true then -1 else dD t s
def passB(t:TabM)(s:RunS)(x:En):Bool:=!x.2&&(decide (dD t s<0)||t.br.testBit (dD t s).toNat)
def FB(t:TabM)(s:RunS)(x:En)(r:List En):RunS:={s with row:=if x.2=true then s.row else stL t s.row x.1,wait:=r}
theorem Bx(t:TabM)(s:RunS)(ho:OkT t)(hs:OkS t s):dD t s = -1\/∃n,n<64/\dD t s=((n:Nat):Int):=by
 have a1:(2^40:Nat)=1099511627776:=zd;have a2:=oC ho hs;have a0:nth t.lt s.row &&& eK t s.wait<18446744073709551616:=Ni PA zo;unfold dD;generalize nth t.lt s.row &&& eK t s.wait=both at *
 split
 ·exact .inl rfl
 rename_i h0;obtain⟨_,hk⟩:=PS 64 both h0 a0;exact .inr ⟨_,hk,rfl⟩
theorem Fz{t:TabM}{s:RunS}{x:En}{r:List En}(ho:OkT t)(hs:OkS t s)(hw:s.wait=x::r):OkS t (FB t s x r):=by
 have hx:=hs.wait x (by simp[hw]);refine⟨?_,λy hy=>hs.wait y (by rw[hw];simp[show y∈r from hy]),hs.last,?_⟩
 ·show(if x.2=true then s.row else stL t s.row x.1)<_
  split
  ·exact hs.row
  exact(ho.lN hs.row zo).2
 have:=hs.few;rw[hw]at this;simp only[LW]at this;show r.length<=_;omega
theorem uE(B:Nat)(O:Nat->Nat)(w:L0)(i j rb:Nat)(t:TabM)(gv:ix)(lc rc:List ix)(wv:ix)(s:RunS)(x:En)(r:List En)(b0:s.wait=x::r)(h:RunO O w i j rb t gv lc rc wv s)(hi:i≠0)(hj:j≠0)(d1:i≠j)(f8:i<1000)(f7:j<1000)(ho:OkT t)(hs:OkS t s)(hR:Ns B O w)(hT:lF w)(hg:K8<B):
  MO M1 64 [nP rb] w λv w'=>v=.tuple #[nI (Iw t s x),.bool (passB t s x)]/\∃O' wv',RunO O' w' i j rb t gv lc rc wv' (FB t s x r)/\M6 (λq=>q=i\/q=j\/q=1000) O w O' w'/\Ns B O' w':=by
 have d9:(2^40:Nat)=1099511627776:=zd;have hz:¬(0=i\/0=j\/0=1000):=zo;have f5:=hs.few;have a9:s.wait.length=r.length+1:=by rw[b0];rfl
 have k18:=h.k18;have d0:=h.win.sl;obtain⟨c,hd,e1⟩:∃c hd,x=(c,hd):=⟨_,_,rfl⟩
 subst e1;have e2:c<36:=hs.wait (c,hd) (by simp[b0]);have a':=Bx t s ho hs;apply L2 func64 ntmps64 rfl rfl;refine zh ?_;apply zv (aC d0.sh P2 (Mq _) rfl rfl 0 rfl zo);apply zv (ai (us:=[nI (c:Nat),.bool hd]) (λk u hu=>d0.cell (i:=0) zo (by rw[b0,ao];exact hu)) (NT _) (Mq _) rfl);apply ar hR 1000 zo (Nx _) rfl;intro xb w1 O1 a4 e3 e7 g0;apply zsa (us:=#[nI (c:Nat),.bool hd]) a4 (Mq _);have a3:=a4.setRow (us:=#[nI (c:Nat),.bool hd]);have d5:M6 (λq=>q=1000) O1 w1 O1 (w1.setRow xb #[nI (c:Nat),.bool hd]):=L5 zd a4.tag rfl;generalize w1.setRow xb #[nI (c:Nat),.bool hd]=w2 at *;have a7:=e3.trans d5;have d6:=e7.upd d5;have h2:=h.upd a7 hi hj zo zo;have e4:lF w2:=mF hT hg hR a7;have x1:w2.cell? (nA xb 1)=some (.bool hd):=a3.cell 1 rfl;refine zh ?_;refine iO (λz:(Nat->Nat)×World×Int=>[(0,nP rb),(4,nP xb),(5,nI z.2.2)]) (λz:(Nat->Nat)×World×Int=>z.2.1) (λz:(Nat->Nat)×World×Int=>RunO z.1 z.2.1 i j rb t gv lc rc wv {s with row:=if hd=true then s.row else stL t s.row c}/\N4 z.1 z.2.1 1000 xb #[nI (c:Nat),.bool hd] 138/\M6 (λq=>q=i) O1 w2 z.1 z.2.1/\Ns B z.1 z.2.1/\z.2.2=Iw t s (c,hd)) ?_ ?_
 ·intro Qm hN
  by_cases a1:hd=true
  ·refine zFH rfl ((by rw[a1];rfl)) ?_;exact dq (hN ((O1,w2,-1)) ⟨by rw[if_pos a1];exact h2,a3,PO (λe=>hi e.symm) _ _,d6,by show _=if hd=true then _ else _;rw[if_pos a1]⟩) ⟨rfl,rfl,rfl,trivial⟩ rfl
  refine zTH rfl ((by rw[show hd=false from by simpa using a1];rfl)) ?_;apply zc call97 (rK O1 w2 i j rb t gv lc rc wv s h2 hi hj ho hs e4)
  rintro _ w3 ⟨rfl,e'⟩;have b4:=ae (S:=λ_=>False) (λh=>h) O1 e';have h3:=h2.upd b4 hi hj (λh=>h) (λh=>h);have a0:=a3.upd b4 zd (λh=>h);have b5:=d6.upd b4;refine zh ?_;have hB:=h3.tab;obtain⟨d2,d'⟩:=ho.gN (c:=c) zo;obtain⟨d8,f6⟩:=ho.lN hs.row (c:=c) zo;have f9:=ho.gl;have d4:w3.drew.cell? ((nA rb 0).add 4)=some gv:=hB.c4;have b6:∀(j:Nat) (u:ix),lc[j]? = some u->w3.drew.cell? (((nA rb 0).add 5).add j)=some u:=hB.cl;have dg:w3.drew.cell? (adr gv 1 c)=some (nI ((grT t c:Nat):Int)):=by have:=hB.groups.cell (i:=c) (j:=0) zo rfl;rw[aA,d2]at this;exact this
  have f3:w3.drew.cell? (nA rb 17)=some (nI (s.row:Int)):=h3.k17;have dx:w3.drew.cell? (nA xb 0)=some (nI (c:Int)):=a0.cell 0 rfl;apply aQ (λW=>W.cell? ((nA rb 0).add 4)=some gv/\W.cell? (adr gv 1 c)=some (nI ((grT t c:Nat):Int))/\(∀(j:Nat) (u:ix),lc[j]? = some u->W.cell? (((nA rb 0).add 5).add j)=some u)/\W.cell? (nA xb 0)=some (nI (c:Int))) 23 rfl zk;refine zin ⟨d4,dg,b6,dx⟩ λzS=>?_
  apply zrm 0 rfl zS rfl;apply zrm 1 rfl zS rfl
  apply zr 2 rfl zS (λ_=>aq rfl);apply zrf 3 rfl zS rfl
  apply zrf 4 rfl zS rfl;apply zt 5 rfl zS (λw1 a5=>ai (us:=lc) a5.2.2.1 (Ny _) (by rw[h.left.one.1];exact MN _) rfl)
  apply zrm 6 rfl zS rfl;apply zr 7 rfl zS (λ_=>aq rfl)
  apply zrf 8 rfl zS rfl;apply zrm 10 rfl zS rfl
  apply zr 11 rfl zS (λ_=>aq rfl);apply zrf 12 rfl zS rfl
  apply zrf 13 rfl zS rfl;apply zt 14 rfl zS (λw1 a5=>RV.ld a5.1 rfl)
  apply zrf 15 rfl zS rfl;apply zt 16 rfl zS (λw1 a5=>RV.ld a5.2.2.2 rfl)
  apply zr 17 rfl zS (λ_=>aC hB.groups.sh Pd (NP _) rfl rfl c rfl zo);apply zt 18 rfl zS (λw1 a5=>RV.ld a5.2.1 rfl)
  apply L6 9 zk rfl;refine zvH (RV.ld f3 rfl) ?_
  apply aa ⟨d4,dg,b6,dx⟩;apply L6 19 zk rfl
  apply zc Qd (kA lc t.left t.lt s.row (grT t c) w3.drew (hB.left.ext (L3 w3).drew) ho.okl hs.row d');rintro _ w5 ⟨rfl,a2⟩;rw[d8];refine zh ?_
  apply aa ⟨a2.cell d4,a2.cell dg,λj u hu=>a2.cell (b6 j u hu),a2.cell dx⟩;have b3:=ae (S:=λ_=>False) (λh=>h) O1 ((L3 w3).drew.trans a2);have h5:=h3.upd b3 hi hj (λh=>h) (λh=>h);have b7:=a0.upd b3 zd (λh=>h);have e6:=b5.upd b3;refine zin ⟨a2.cell d4,a2.cell dg,λj u hu=>a2.cell (b6 j u hu),a2.cell dx⟩ λzS=>?_
  apply zr 20 rfl zS (λ_=>aq rfl);apply zrf 21 rfl zS rfl
  apply L6 22 zk rfl;apply ak (j:=17) h5.blk (h5.at_ 0 rfl) (NP _) rfl rfl rfl rfl
  obtain⟨h6,c5⟩:=h5.store hi hj d1 0 (nI ((stL t s.row c:Nat):Int)) (wv':=wv) (s':={s with row:=stL t s.row c}) rfl h5.win;have c9:=h6.tab;have e5:=e6.upd c5;have a8:=b7.upd c5 zd zo;have c7:=((b4.trans b3).mono (S':=λq=>q=i) (λ_ h=>h.elim) zo).trans c5;have q1:(w5.setCell ⟨rb,17+0,none⟩ (nI ((stL t s.row c:Nat):Int))).cell? (adr gv 1 c)=some (nI ((grT t c:Nat):Int)):=by have:=c9.groups.cell (i:=c) (j:=0) zo rfl;rw[aA,d2]at this;exact this
  refine zh ?_;apply aa ⟨c9.c4,q1,c9.cl,a8.cell 0 rfl⟩
  apply Md zk;exact dq (hN ((O1,_,dD t s)) ⟨by rw[if_neg a1];exact h6,a8,c7,e5,by show _=if hd=true then _ else _;rw[if_neg a1]⟩) ⟨rfl,rfl,rfl,trivial⟩ rfl
 rintro⟨O3,w3,k⟩ ⟨h3,a0,d3,b5,hk⟩;dsimp only at h3 a0 d3 b5 hk ⊢;refine zh ?_;have b9:=h3.win.sl;have g1:=h3.k18;refine zh ?_;refine zvH (mI b9 P2 (Mq _) rfl rfl 1 rfl (by show 1<=s.wait.length;omega)) ?_;have d7:=h3.win;have c':WinO Jg 138 2 O3 w3 j (dc wv 2 1 s.wait.length) r:=by
  rw[a9];have:WinO Jg 138 2 O3 w3 j wv ((c,hd)::r):=by rw[<-b0];exact d7
  exact this.tail zd
 apply ak (j:=18) h3.blk (h3.at_ 1 rfl) (sizeOf136 _) c'.one rfl rfl rfl;obtain⟨h4,c6⟩:=h3.store hi hj d1 1 (dc wv 2 1 s.wait.length) (wv':=dc wv 2 1 s.wait.length) (s':=FB t s (c,hd) r) rfl c';have b8:=a0.upd c6 zd zo;have c8:=b5.upd c6;generalize w3.setCell ⟨rb,17+1,none⟩ (dc wv 2 1 s.wait.length)=w4 at *;have a6:=(a7.mono (S':=λq=>q=i\/q=j\/q=1000) (λ_ h=>zo) hz).trans ((d3.trans c6).mono (λ_ h=>zo) hz);have f4:w4.cell? (nA xb 1)=some (.bool hd):=b8.cell 1 rfl;refine zh ?_
 cases a1:hd with
 |true=>
  apply au (d:=51) rfl (b':=false) rfl;refine zh ?_
  refine cc rfl rfl rfl ⟨by rw[hk,a1];rfl,O3,_,by rw[<-a1];exact h4,a6,c8⟩
 |false=>
  have f':=ho.br;subst a1;replace hk:k=dD t s:=hk;have e9:passB t s (c,false)=(decide (dD t s<0)||t.br.testBit (dD t s).toNat):=rfl;have e8:Iw t s (c,false)=dD t s:=rfl;rw[e9,e8,<-hk];rw[<-hk]at a';apply au (d:=51) rfl (b':=true) rfl;refine zh ?_
  rcases a' with b1|⟨n,hn,b1⟩
  ·apply au (d:=54) rfl (b':=true) ((by rw[b1];rfl));refine zh ?_
   refine cc rfl rfl rfl ⟨by rw[b1];rfl,O3,_,h4,a6,c8⟩
  have e0:decide (k<0)=false:=decide_eq_false zo;rw[e0,b1];apply au (d:=54) rfl (b':=false) rfl;have b2:w4.cell? ((nA rb 0).add 2)=some (.int .u64 (t.br:Int)):=h4.tab.c2;refine zh ?_;apply zc QA (sO t.br n _ zo hn);rintro _ w5 ⟨rfl,rfl⟩;refine zh ?_;refine cc rfl rfl rfl ⟨rfl,O3,_,h4,a6,c8⟩
abbrev vx(b:Bool):List ix:=[.bool b]
theorem Kp:Qu M1 38 4 1 1:=⟨underlying38,by kernel_rfl,zd⟩
abbrev rX(row:Nat)(l:List En):RunS:=⟨row,l,true,(0,false),true⟩
def stepL(t:TabM)(row:Nat)(x:En):Nat:=if x.2=true then row else stL t row x.1
def closeL(t:TabM):List En->Nat->List Bool
 |[],_=>[]
 |x::r,row=>passB t (rX row (x::r)) x::closeL t r (stepL t row x)
theorem FC(t:TabM)(s:RunS)(x:En):passB t s x=passB t (rX s.row s.wait) x:=rfl
theorem mA(t:TabM):∀(l:List En) (row:Nat),(closeL t l row).length=l.length
 |[],_=>rfl
 |x::r,row=>by rw[closeL,LW,mA t r,LW]
theorem sY(B:Nat)(O:Nat->Nat)(w:L0)(i j m rb:Nat)(t:TabM)(gv:ix)(lc rc:List ix)(wv:ix)(s:RunS)(h:RunO O w i j rb t gv lc rc wv s)(hi:i≠0)(hj:j≠0)(b3:i≠j)(c9:i<1000)(c7:j<1000)(hm:m≠0)(d5:m<1000)(c8:i≠m)(c6:j≠m) 
  (ho:OkT t) (hs:OkS t s) (d0:s.closed=false) (hR:Ns B O w) (hT:lF w) (hg:K8<B) :
  MO M1 33 [nP rb] w λv w'=>∃O' wv' s',RunO O' w' i j rb t gv lc rc wv' s'/\OkS t s'/\s'.wait=[]/\s'.closed=true/\NF vx 4 1 O' w' m v (closeL t s.wait s.row)/\M6 (λq=>q=i\/q=j\/q=m\/q=1000) O w O' w'/\Ns B O' w':=by
 have hz:¬(0=i\/0=j\/0=m\/0=1000):=zo;have d4:=hs.few;have k22:=h.k22;rw[d0]at k22;obtain⟨R,b7⟩:∃R,R=closeL t s.wait s.row:=⟨_,rfl⟩
 rw[<-b7];apply L2 func33 ntmps33 rfl rfl;refine zh ?_;refine zvH (eS (q:=some ⟨rb,0,none⟩) Ql rfl rfl) ?_;apply au (d:=8) rfl (b':=false) rfl;refine zh ?_;refine zFH rfl rfl ?_;apply ak (j:=22) h.blk (h.at_ 5 rfl) (Pe _) rfl rfl rfl rfl;obtain⟨h1,b6⟩:=h.store hi hj b3 5 (.bool true) (wv':=wv) (s':={s with closed:=true}) rfl h.win;have d3:=hR.upd b6;generalize w.setCell ⟨rb,17+5,none⟩ (.bool true)=w1 at *;refine zh ?_;apply zlp (λz:(Nat->Nat)×World×ix×RunS×ix×List Bool=>[(0,nP rb),(3,z.2.2.2.2.1)]) (λz=>z.2.1) (λz=>RunO z.1 z.2.1 i j rb t gv lc rc z.2.2.1 z.2.2.2.1/\OkS t z.2.2.2.1/\z.2.2.2.1.closed=true/\NF vx 4 1 z.1 z.2.1 m z.2.2.2.2.1 z.2.2.2.2.2/\M6 (λq=>q=i\/q=j\/q=m\/q=1000) O w z.1 z.2.1/\Ns B z.1 z.2.1/\z.2.2.2.2.2++closeL t z.2.2.2.1.wait z.2.2.2.1.row=R/\z.2.2.2.2.2.length+z.2.2.2.1.wait.length<=1000000) (λz=>z.2.2.2.1.wait.length) (O,w1,wv,{s with closed:=true},nS,[]) ⟨h1,⟨hs.row,hs.wait,hs.last,hs.few⟩,rfl,NZ _ _ _ _ _ _,b6.mono (λ_ h=>zo) hz,d3,by rw[b7];rfl,by show 0+s.wait.length<=_;omega⟩;rintro⟨O2,w2,b0,s2,ov,l⟩ ⟨h2,a2,a9,a6,a3,a',a1,a8⟩;dsimp only at h2 a2 a9 a6 a3 a' a1 a8 ⊢;have c5:=h2.win.sl;have d6:=h2.k18;refine zh ?_;refine zC ?_ ?_
 ·intro a7;replace a7:0<s2.wait.length:=dT a7;obtain⟨x,r,a0⟩:=List.exists_cons_of_ne_nil (P6.1 a7);have b1:s2.wait.length=r.length+1:=by rw[a0];rfl
  rw[a0,closeL]at a1;refine zh ?_;apply zc call64 (uE B O2 w2 i j rb t gv lc rc b0 s2 x r a0 h2 hi hj b3 c9 c7 ho a2 a' (mF hT hg hR a3) hg);rintro _ w3 ⟨rfl,O3,b8,h3,b5,d2⟩;have a5:=a6.upd b5 hm zo;refine zh ?_;apply QC Kp a5 d2 (passB t s2 x) (λ_=>rfl) rfl rfl rfl (by simp[Mp]) zo zo zo zd rfl rfl;intro b9 w4 O4 a4 b4 d1;have h4:=h3.upd b4 hi hj c8 c6;refine zh ?_;refine zx (O4,w4,b8,FB t s2 x r,b9,l++[passB t s2 x]) ⟨h4,Fz ho a2 a0,a9,a4,(a3.trans (b5.mono (λ_ h=>zo) hz)).trans (b4.mono (λ_ h=>zo) hz),d1,by rw[Mf,<-a1,FC,a0];rfl,by rw[LV];show l.length+1+r.length<=_;omega⟩ (by show r.length<_;omega)
 intro c';have b2:s2.wait=[]:=LP (by have:=of_decide_eq_false c';omega);rw[b2,closeL,LQ]at a1;subst a1;refine zh ?_;refine af rfl rfl ⟨O2,b0,s2,h2,a2,b2,a9,a6,a3,a'⟩
end Go.Proofs.YteolbhblkgjbhaaGreatDoor
section
namespace Go.VL
theorem Bv:∀(l:List ix) (k:Nat) (cells:Array ix),k+l.length<=cells.size->(l.zipIdx k).foldl (fun(cs:Array ix) (q:ix×Nat)=>cs.setIfInBounds (0+q.2) q.1) cells=(cells.toList.take k++l++cells.toList.drop (k+l.length)).toArray
 |[],k,cells,_=>by simp
 |c::l,k,cells,h=>by
  simp only[LW]at h;rw[List.zipIdx_cons,PB,Bv l (k+1) _ (by simp;omega)];congr 1;simp only[No,Array.toList_setIfInBounds,LW];rw[List.drop_set_of_lt zo,List.take_succ_eq_append_getElem (by simp;omega),List.take_set_of_le (LU _)];simp[NO,NV 1]
theorem Di(pl:Array (Nat×Nat))(us cells:Array ix)(hp:pl[0]? = some (0,us.size))(hs:us.size<=cells.size):Q3 (pl[·]?) cells [(0,.agg us)]=some (us.toList++cells.toList.drop us.size).toArray:=by
 have hc:(Value.agg us).cells=us:=rfl;have a0:¬(us.size≠us.size\/0+us.size>cells.size):=zo;simp only[Q3,hp,hc];rw[if_neg (by simp;omega)];have:=Bv us.toList 0 cells (by simpa using hs);rw[<-Array.foldl_toList,Array.toList_zipIdx];simpa using this
end Go.VL
namespace Go.Proofs.YteolbhblkgjbhaaGreatDoor
open Go.VL Go.Proofs
set_option maxRecDepth 10000
theorem KL:cE M1 140 #[(0,17),(17,1),(18,1),(19,1),(20,2),(22,1)]:=⟨_,underlying140,λw=>by kernel_rfl⟩
def ou(t:TabM):RunS:=⟨stL t 0 36,[],false,(0,false),false⟩
theorem Il{t:TabM}(ho:OkT t):OkS t (ou t):=⟨(ho.lN ho.lp zd).2,λx hx=>(by cases hx),(by show 0<36;decide),(by show 0<=1000000;decide)⟩
theorem xo(B:Nat)(O:Nat->Nat)(w:L0)(i j:Nat)(t:TabM)(gv:ix)(lc rc:List ix)(d5:Ng w gv t.groups)(c9:PartV w lc t.left t.lt)(c8:PartV w rc t.right t.rt)(d7:FreeL O w (gv::(lc++rc)))(hi:i≠0)(hj:j≠0)(d3:i≠j)(e2:i<1000)(ho:OkT t)(d1:iY t=true)(hR:Ns B O w):
  MO M1 31 [.agg (fm t.ig t.kp t.br t.rules gv lc rc).toArray] w λv w'=>∃O' rb,v=nP rb/\RunO O' w' i j rb t gv lc rc nS (ou t)/\M6 (λq=>q=i\/q=1000) O w O' w'/\Ns B O' w':=by
 have hz:¬(0=i\/0=1000):=zo;obtain⟨ll,lo⟩:=c9.one;obtain⟨rl,ro⟩:=c8.one;have a0:(fm t.ig t.kp t.br t.rules gv lc rc).length=17:=by simp[ll,rl]
 apply L2 func31 ntmps31 rfl rfl;refine zh ?_
 apply aN hR 1000 zo rfl rfl;intro db w1 O1 a8 d0 e0 c5;have b5:=d7.upd d0;have a5:=d5.ext c5;have a4:=c9.ext c5;have a3:=c8.ext c5;refine zh ?_
 apply zv (ai (us:=fm t.ig t.kp t.br t.rules gv lc rc) a8.cellsAdd (Nj _) (by rw[a0];exact Mu _) rfl);apply zc call10 (tS t _ w1 ⟨gv,lc,rc,rfl,a5,a4,a3⟩)
 rintro _ w2 ⟨rfl,b1⟩;have b0:=ae (S:=λ_=>False) (λh=>h) O1 b1;have a7:=a8.upd b0 zd (λh=>h);have b4:=b5.upd b0;have d':=e0.upd b0;rw[d1];refine zh ?_;refine zFH rfl rfl ?_;apply zv (ai (us:=fm t.ig t.kp t.br t.rules gv lc rc) a7.cellsAdd (Nj _) (by rw[a0];exact Mu _) rfl);apply zv (MJ (cells:=(pS t gv lc rc nS ⟨0,[],false,(0,false),false⟩).toArray) KL (zeroValue140 _) rfl (by rw[Di _ _ _ (by rw[Nk,a0];rfl) (by rw[Nk,a0];decide),Nk,a0];rfl));apply aN d' i zo rfl rfl;intro rb w3 O3 b2 b9 d9 b';have b3:=b4.upd b9;have h3:RunO O3 w3 i j rb t gv lc rc nS ⟨0,[],false,(0,false),false⟩:=⟨b2,WinO.nil _ _ _ _ _ _,a5.ext (b1.trans b'),a4.ext (b1.trans b'),a3.ext (b1.trans b'),b3⟩
 have a6:=a7.upd b9 zd zo;have a9:=yz (t:=t) a6 h3.groups h3.left h3.right;refine zh ?_;obtain⟨c',d6⟩:=ho.gN (c:=36) zd;obtain⟨d2,e1⟩:=ho.lN ho.lp (c:=36) zd;have e3:=ho.gl;have d4:w3.drew.cell? (nA db 4)=some gv:=a9.c4;have c7:∀(j:Nat) (u:ix),lc[j]? = some u->w3.drew.cell? ((nA db 5).add j)=some u:=a9.cl;have dg:w3.drew.cell? (adr gv 1 36)=some (nI ((grT t 36:Nat):Int)):=by have:=a9.groups.cell (i:=36) (j:=0) zo rfl;rw[aA,c']at this;exact this
 apply aQ (λW=>W.cell? (nA db 4)=some gv/\W.cell? (adr gv 1 36)=some (nI ((grT t 36:Nat):Int))/\(∀(j:Nat) (u:ix),lc[j]? = some u->W.cell? ((nA db 5).add j)=some u)) 11 rfl zk;refine zin ⟨d4,dg,c7⟩ λzS=>?_
 apply zrm 0 rfl zS rfl;apply zrf 1 rfl zS rfl
 apply zt 2 rfl zS (λw1 a2=>ai (us:=lc) a2.2.2 (Ny _) (by rw[ll];exact MN _) rfl);apply zrf 3 rfl zS rfl
 apply zt 4 rfl zS (λw1 a2=>RV.ld a2.1 rfl);apply zr 5 rfl zS (λ_=>aC a9.groups.sh Pd (NP _) rfl rfl 36 rfl zo)
 apply zt 6 rfl zS (λw1 a2=>RV.ld a2.2.1 rfl);apply L6 7 zk rfl
 apply zc Qd (kA lc t.left t.lt 0 (grT t 36) w3.drew (a9.left.ext (L3 w3).drew) ho.okl ho.lp d6);rintro _ w5 ⟨rfl,a1⟩;rw[d2];refine zh ?_
 apply aa ⟨a1.cell d4,a1.cell dg,λj u hu=>a1.cell (c7 j u hu)⟩;have a':=ae (S:=λ_=>False) (λh=>h) O3 ((L3 w3).drew.trans a1);have h5:=h3.upd a' hi hj (λh=>h) (λh=>h);have b7:=a6.upd a' zd (λh=>h);have d8:=d9.upd a';refine zin ⟨a1.cell d4,a1.cell dg,λj u hu=>a1.cell (c7 j u hu)⟩ λzS=>?_
 apply zr 8 rfl zS (λ_=>aq rfl);apply zrf 9 rfl zS rfl
 apply L6 10 zk rfl;apply ak (j:=17) h5.blk (h5.at_ 0 rfl) (NP _) rfl rfl rfl rfl
 obtain⟨h6,b8⟩:=h5.store hi hj d3 0 (nI ((stL t 0 36:Nat):Int)) (wv':=nS) (s':=ou t) rfl h5.win;have b6:=b7.upd b8 zd zo;have c6:=yz (t:=t) b6 h6.groups h6.left h6.right;have q1:(w5.setCell ⟨rb,17+0,none⟩ (nI ((stL t 0 36:Nat):Int))).cell? (adr gv 1 36)=some (nI ((grT t 36:Nat):Int)):=by have:=c6.groups.cell (i:=36) (j:=0) zo rfl;rw[aA,c']at this;exact this
 refine zh ?_;apply aa ⟨c6.c4,q1,c6.cl⟩
 apply Md zk;refine zh ?_
 refine af rfl rfl ⟨O3,rb,rfl,h6,(((d0.mono (λ_ h=>zo) hz).trans (b0.mono (λ_ h=>h.elim) hz)).trans (b9.mono (λ_ h=>zo) hz)).trans ((a'.mono (λ_ h=>h.elim) hz).trans (b8.mono (λ_ h=>zo) hz)),d8.upd b8⟩
end Go.Proofs.YteolbhblkgjbhaaGreatDoor
end
section
namespace Go.VL
open Go.Proofs
section
variable{P:NQ}{N:Nat}{ops:Array Q2}{Q:Exit→Act→L0→Prop}{rest:List Q2}{st:St}{w:L0}
variable{t:Ml}{p:String}{e:Array Edge}{d:Nat}{x:Pg}
theorem DK{a0:Nat}(he:Qu P T E sz a0)(u:α)(r:Ns B O w)(i:Nat)(a6:i≠0){xv:ix}(hx:ev st x=some xv)(a2:xv.cells.toList=enc u)(a3:(enc u).length=sz)(hs:sz<=16777216)(hd:Pn d N=true) 
  (h:∀v w' O',NF enc E sz O' w' i v [u]->M6 (λk=>k=i) O w O' w'->Ns B O' w'->WL P N ops Q rest ((d,v)::st) w'):WL P N ops Q (⟨some d,.buildSlice T 1 #[(0,x)],t,p,e,none⟩::rest) st w:=by
 obtain⟨a4,z,hi,hz,a1,a9,a8⟩:=he.parts;have a7:xv.cells.size=sz:=by rw[<-a3,<-a2];simp
 have a5:=he.pos;have u1:=Qj (S:=λk=>k=i) (λe=>a6 e.symm) r (.cells xv.cells E) i;refine PV (v:=.slice (some ⟨w.heap.size,0,none⟩) 1 1) (w':=w.alloc (.cells xv.cells E)) hd (λa ha=>?_) (h _ _ (lV O w.heap.size i) ⟨⟨?_,λg hg=>?_⟩,λc hc=>by rw[ln.1 hc];exact a3⟩ u1 (r.upd u1))
 ·have:=run_buildSlice (P:=P) w T E 1 #[(0,xv)] xv.cells a4 z he.ht hi hz (by rw[a1];omega) (by rw[a1];omega) (by
   rw[a1]
   exact lj a7 (by simp))
  simp only[execOp,Po,PQ,PY,ha.ev hx,N1,this,MQ];rfl
 ·have:=World.ownsRow_lit (base:=0) (size:=sz) (e:=E) w xv.cells 1 (LO _) (by simp[maxLen]) zo;simpa[a2]using this
 simp[Px]at hg;subst hg;exact eG _ _ _
end
end Go.VL
namespace Go.Proofs.YteolbhblkgjbhaaGreatDoor
open Go.VL Go.Proofs
set_option maxRecDepth 10000
def cj(t:TabM)(s:RunS)(a0:List Int):RunS:=a0.foldl (λs id=>si t s (bd id)) s
theorem uB{t:TabM}{s:RunS}{a0:List Int}(h:k<a0.length):cj t s (a0.take (k+1))=si t (cj t s (a0.take k)) (bd (nth a0 k)):=by
 unfold cj;rw[aY h,MV];rfl
theorem Cl(t:TabM)(s:RunS)(c:Nat):(si t s c).wait.length<=s.wait.length+1/\(si t s c).closed=s.closed:=by
 unfold si
 split<;>simp
def th(t:TabM)(a0:List Int):List Bool:=true::closeL t (cj t (ou t) a0).wait (cj t (ou t) a0).row++if 0<a0.length then [true]else []
theorem PartV.free0{w:L0}{cs:List ix}{p:PP}{tl:List Nat}(h:PartV w cs p tl):FreeL (λ_=>0) w cs:=λv hv=>by
 obtain⟨uv,bv,kv,nv,tv,rfl,h1,h2,h3,h4,h5⟩:=h;simp only[L7,LZ,or_false]at hv
 rcases hv with rfl|rfl|rfl|rfl|rfl|rfl
 ·exact λa n c e=>by cases e
 ·exact h1.free0 (λx=>by simp)
 ·exact h2.free0 (λx=>by simp)
 ·exact h3.free0 (λx=>by simp)
 ·exact h4.free0 (λx=>by simp)
 exact h5.free0 (λx=>by simp)
theorem Dv(h:lF w):K8<w.heap.size:=by
 have:=h 0 zd;refine Nr λhn=>?_
 simp[World.cell?,Array.getElem?_eq_none (show w.heap.size<=1 from Nat.le_of_not_lt hn)]at this
theorem BP{t:TabM}(a2:Ng w gv t.groups)(a1:PartV w lc t.left t.lt)(a0:PartV w rc t.right t.rt):FreeL (λ_=>0) w (gv::(lc++rc)):=λv hv=>by
 rcases L7.1 hv with rfl|hv
 ·exact a2.free0 (λx=>by simp)
 rcases Mi.1 hv with hv|hv
 ·exact a1.free0 v hv
 exact a0.free0 v hv
theorem qk(w:L0)(t:TabM)(gv:ix)(lc rc:List ix)(d3:Ng w gv t.groups)(b5:PartV w lc t.left t.lt)(b0:PartV w rc t.right t.rt)(ho:OkT t)(d6:iY t=true)(hT:lF w)(a0:List Int)(dv:ix)(hd:Ng w dv a0)(hn:a0.length<=100000):
  MO M1 11 [.agg (fm t.ig t.kp t.br t.rules gv lc rc).toArray,dv] w λv w'=>Sl vx 1 w' v (th t a0)/\Ms w w':=by
 have hz:¬(0=1\/0=2\/0=3\/0=4\/0=1000):=zo;obtain⟨ll,lo⟩:=b5.one;obtain⟨rl,ro⟩:=b0.one;have b4:(fm t.ig t.kp t.br t.rules gv lc rc).length=17:=by simp[ll,rl]
 have hg:=Dv hT;have b6:Qi (λ_=>0) w dv:=hd.free0 (λx=>by simp);apply L2 func11 ntmps11 rfl rfl;refine zh ?_;apply aN (ax w) 1000 zo rfl rfl;intro db w1 O1 b7 d5 e6 c7;refine zh ?_;apply zv (ai (us:=fm t.ig t.kp t.br t.rules gv lc rc) b7.cellsAdd (Nj _) (by rw[b4];exact Mu _) rfl);apply zc call31 (xo w.heap.size O1 w1 1 2 t gv lc rc (d3.ext c7) (b5.ext c7) (b0.ext c7) ((BP d3 b5 b0).upd d5) zd zd zd zd ho d6 e6);rintro _ w2 ⟨O2,rb,rfl,h2,e2,e5⟩;have b':M6 (λq=>q=1\/q=2\/q=3\/q=4\/q=1000) (λ_=>0) w O2 w2:=(d5.mono (λ_ h=>zo) hz).trans (e2.mono (λ_ h=>zo) hz);refine zh ?_;refine zvH (eS (q:=some ⟨rb,0,none⟩) Ql rfl rfl) ?_;refine zFH rfl rfl ?_;apply DK Kp (enc:=vx) true e5 3 zd rfl rfl rfl zd rfl;intro c' w3 O3 b3 d4 e4;have h3:=h2.upd d4 zd zd zd zd;have a8:=b'.trans (d4.mono (λ_ h=>zo) hz);have f3:=hd.upd b6 a8;refine zh ?_
 apply zlp (λz:Nat×(Nat->Nat)×World×ix=>[(1,dv),(5,nP rb),(6,c'),(14,dv),(15,nI a0.length),(16,nI z.1)]) (λz=>z.2.2.1) (λz=>z.1<=a0.length/\RunO z.2.1 z.2.2.1 1 2 rb t gv lc rc z.2.2.2 (cj t (ou t) (a0.take z.1))/\OkS t (cj t (ou t) (a0.take z.1))/\(cj t (ou t) (a0.take z.1)).closed=false/\(cj t (ou t) (a0.take z.1)).wait.length<=z.1/\NF vx 4 1 z.2.1 z.2.2.1 3 c' [true]/\M6 (λq=>q=1\/q=2\/q=3\/q=4\/q=1000) (λ_=>0) w z.2.1 z.2.2.1/\Ns w.heap.size z.2.1 z.2.2.1) (λz=>a0.length-z.1) (0,O3,w3,nS) ⟨LO _,h3,Il ho,rfl,LO _,b3,a8,e4⟩;rintro⟨k,O4,w4,c9⟩ ⟨hk,h4,a3,a9,d2,a1,a7,c6⟩;dsimp only at hk h4 a3 a9 d2 a1 a7 c6 ⊢;have d9:=hd.upd b6 a7;refine zh ?_
 refine zC ?_ ?_
 ·intro a5;replace a5:k<a0.length:=dT a5;have d1:w4.cell? (adr dv 1 k)=some (nI (nth a0 k)):=by have:=d9.cell (i:=k) (j:=0) a5 rfl;rwa[aA]at this
  refine zh ?_;apply zc call32 (xx w.heap.size O4 w4 1 2 rb t gv lc rc c9 _ h4 zd zd zd zd zd ho a3 zo c6 (nth a0 k))
  rintro _ w5 ⟨O5,c8,h5,a6,c5⟩;obtain⟨p1,p2⟩:=Cl t (cj t (ou t) (a0.take k)) (bd (nth a0 k));have a':=Ir (c:=bd (nth a0 k)) ho a3 (iD _) zo;rw[<-uB a5]at h5 p1 p2 a';refine zh ?_;refine zxd (k+1,O5,w5,c8) ⟨a5,h5,a',by dsimp only;rw[p2];exact a9,by dsimp only;omega,a1.upd a6 zd zd,a7.trans (a6.mono (λ_ h=>zo) hz),c5⟩
 intro d8;obtain rfl:k=a0.length:=dF d8;rw[ME]at h4 a3 a9 d2;have d':th t a0=true::closeL t (cj t (ou t) a0).wait (cj t (ou t) a0).row++if 0<a0.length then [true]else []:=rfl
 rw[d'];refine zh ?_;apply zc call33 (sY w.heap.size O4 w4 1 2 4 rb t gv lc rc c9 _ h4 zd zd zd zd zd zd zd zd zd ho a3 a9 c6 (mF hT hg (ax w) a7) hg);rintro cv w5 ⟨O5,c8,s5,h5,a',_,_,b8,a6,c5⟩;have d7:=mA t (cj t (ou t) a0).wait (cj t (ou t) a0).row;have b2:=a1.upd a6 zd zd;have b9:=a7.trans (a6.mono (λ_ h=>zo) hz);generalize closeL t (cj t (ou t) a0).wait (cj t (ou t) a0).row=L at *;apply aK Kp b2 c5 b8.sl rfl rfl (λ_ _=>rfl) (λu _ c hc=>by rw[ln.1 hc];rfl) (by show(1+L.length)*1<=_;omega) (by show 1+L.length<=_;omega) zd rfl;intro e8 w6 O6 a4 e1 e3;have a2:=b9.trans (e1.mono (λ_ h=>zo) hz);have e':=hd.upd b6 a2;refine zh ?_
 by_cases d0:0<a0.length
 ·rw[if_pos d0];have e9:([true]++L).length=1+L.length:=by rw[LV];rfl
  refine zTH rfl ((decide_eq_true zo)) ?_;apply QC Kp a4 e3 true (λ_=>rfl) rfl rfl rfl (by simp[Mp]) zo zo zo zd rfl rfl
  intro e7 w7 O7 b1 e0 f4;refine zh ?_;refine af rfl rfl ⟨b1.sl,(a2.trans (e0.mono (λ_ h=>zo) hz)).ext⟩
 rw[if_neg d0];refine zFH rfl ((decide_eq_false zo)) ?_;refine af rfl rfl ⟨by rw[LQ];exact a4.sl,a2.ext⟩
end Go.Proofs.YteolbhblkgjbhaaGreatDoor
end
namespace Go.Proofs.YteolbhblkgjbhaaGreatDoor
theorem ti(ts:List R3):∀i,iF ts i<2^i
 |0=>by unfold iF;decide
 |i+1=>by
  have h1:iF ts i<2^(i+1):=Nh (ti ts i) (Nc zd (P5 i));unfold iF
  split
  ·exact Mo h1 (Mr zd (Nat.lt_succ_self i))
  exact h1
theorem Fa{g:Gr}(he:∀k,g.en k<=n)(s:List Int):dH g s<2^n:=by
 have a0:∀(s:List Int) (b:Nat),b<2^n->s.foldl (λb p=>b ||| jJ g p.toNat) b<2^n:=λs=>by
  induction s with
  |nil=>exact λb hb=>hb
  |cons p s ih=>exact λb hb=>ih _ (Mo hb (kz he _ 0 (PF n)))
 exact a0 s 0 (PF n)
theorem tW{ts:List Nd}{d:List (List Nat)×List Nat}(h:stM se ts=some d):∀q∈d.2,q<2^ts.length:=λq hq=>by
 unfold stM at h
 split at h
 ·obtain⟨S,hS⟩:=pc h;obtain⟨j,hj,rfl⟩:=ck hq;rw[hS.tel j (by rw[<-hS.tl];exact hj)];exact Fa (Cw ts) _
 cases h
theorem oN(hr:Mk rows a0)(cl:Nat->Nat)(h:∀q∈a0,q<2^n):∀q∈(bh cl rows a0).2,q<2^n:=λq hq=>by
 obtain⟨F,hF⟩:=gH (cl:=cl) (tl:=nth a0) hr.nx (rows.length+1) 0 [0] [] [] (nX hr.pos) zo;obtain⟨j,hj,rfl⟩:=ck hq;have a1:j<F.length:=by have:=hF.tln;change j<(gd _ _ _ _ _ _ _ _).2.length at hj;omega
 have ht:nth (bh cl rows a0).2 j=nth a0 (nth F j):=hF.tel j a1;rw[ht];have:=hF.reps.lt _ (aW a1);exact h _ (aW (by rw[hr.tl];exact this))
theorem G0{a:Nat}(ha:a<65536)(hb:b<65536)(h1:LY (a / 256)=LY (b / 256))(h2:LY (a % 256)=LY (b % 256)):a=b:=by
 have e1:=congrArg PW h1;have e2:=congrArg PW h2;simp only[UInt8.toNat_ofNat']at e1 e2;omega
theorem yk{i j:Nat}:∀(rows:List (List Nat)),(∀r∈rows,nth r i<65536/\nth r j<65536)->ri rows i=ri rows j->∀r∈rows,nth r i=nth r j
 |[],_,_=>λr hr=>by cases hr
 |a::l,h,he=>by
  have e:[LY (nth a i / 256),LY (nth a i % 256)]++ri l i=[LY (nth a j / 256),LY (nth a j % 256)]++ri l j:=he;simp only[Pr,Nw,Qs]at e;obtain⟨e1,e2,e3⟩:=e;have ha:=h a (by simp);intro r hr
  rcases L7.1 hr with rfl|hr
  ·exact G0 ha.1 ha.2 e1 e2
  exact yk l (λr hr=>h r (by simp[hr])) e3 r hr
theorem Gh{A B:List (List Nat)}(hA:∀r∈A,nth r i<65536/\nth r j<65536)(hB:∀r∈B,nth r i<65536/\nth r j<65536)(h:pf [A,B] i=pf [A,B] j):(∀r∈A,nth r i=nth r j)/\∀r∈B,nth r i=nth r j:=by
 have h:ri A i++(ri B i++[])=ri A j++(ri B j++[]):=h;rw[LQ,LQ]at h;obtain⟨h1,h2⟩:=PC h (by rw[lE,lE]);exact⟨yk A hA h1,yk B hB h2⟩
structure PartI(g:List Nat)(many n:Nat)(rows:List (List Nat))(p:PP):Prop where
 right:dw p=true
 us:p.usual.length=rows.length
 wd:p.width=(many:Int)
 get:∀r,r<rows.length->∀c,c<37->getM p r (nth g c)=((nxD rows r c:Nat):Int)
 lo:∀r,r<rows.length->∀k,k<many->0<=getM p r k/\getM p r k<rows.length
theorem zj(hg:GrpI g many){a6:List Nat}(hr:Mk rows a6)(hc:∀i j,i<37->j<37->nth g i=nth g j->∀r∈rows,nth r i=nth r j):PartI g many rows.length rows (dS g many rows):=by
 have a2:=qy hg hr;have a8:=hg.le;have a7:(kN g many rows).length=rows.length:=by simp[kN]
 have a5:∀r,r<rows.length->nth (kN g many rows) r=ints (pW g many (nth rows r)):=λr a0=>by
  unfold kN;rw[dU (by simpa using a0),dU a0]
 have a3:∀r,r<rows.length->(nth (kN g many rows) r).length=many:=λr a0=>by rw[a5 r a0];simp[nL]
 obtain⟨s1,_,_,_,s5,_⟩:=qD (many:Int) (kN g many rows) (λr a0=>by
  obtain⟨j,hj,rfl⟩:=ck a0
  rw[a3 j zo];omega)
 have a1:∀r,r<rows.length->∀k,k<many->getM (dS g many rows) r k=((nth (pW g many (nth rows r)) k:Nat):Int):=λr a0 k hk=>by
  unfold dS;rw[C4 _ _ r k zo (by rw[a3 r a0];exact hk),a5 r a0,dU (by rw[nL];exact hk)]
 refine⟨xu _ _ a2,by show(lU _ _).usual.length=_;rw[s1];simpa using a7,s5,λr a0 c a4=>?_,λr a0 k hk=>?_⟩
 ·rw[a1 r a0 _ (hg.lt c a4),xH hg (λi j hi hj e=>hc i j hi hj e _ (aW a0)) a4];rfl
 rw[a1 r a0 k hk];obtain⟨i,hi,rfl⟩:=hg.hit k hk;rw[xH hg (λi j hi hj e=>hc i j hi hj e _ (aW a0)) hi];have:=(hr.row r a0).2 i hi;omega
theorem II{n:Int}(h:∀x∈l,x<n)(h0:nth l 0<n):IJ l<n:=by
 have a0:∀(l:List Int) (m:Int),(∀x∈l,x<n)->m<n->l.foldl max m<n:=λl=>by
  induction l with
  |nil=>exact λm _ hm=>hm
  |cons a l ih=>exact λm h hm=>ih _ (λx hx=>h x (by simp[hx])) (by have:=h a (by simp);omega)
 exact a0 l _ h h0
theorem zP{rules:Nat}{a4:List Nat}{p:PP}(hp:PartI g many n rows p)(hm:1<=many)(hr:Mk rows a4)(ht:∀q∈a4,q<2^rules):lh p a4 many rules=true:=by
 obtain⟨f1,f2⟩:=qX p;have a8:=hr.pos;have a7:=hr.tl;have a6:=hp.us;unfold lh;rw[hp.right,hp.wd,f1,a6,a7];have a1:jj (λi=>!(nth a4 i / 2^rules==0)) rows.length=false:=bK.2 λi hi=>by
  rw[N0 (ht _ (aW zo))];rfl
 have a2:jj (λi=>decide (((rows.length:Nat):Int)<=IJ (nth (gA p) i))) rows.length=false:=bK.2 λi hi=>by
  have a0:nth (gA p) i=DY p i:=by unfold gA;rw[gE _ _ _ zo]
  have a5:p.width.toNat=many:=by rw[hp.wd];rfl
  have a3:∀k,k<many->nth (DY p i) k<rows.length:=λk hk=>by
   unfold DY;rw[a5,aB (xs:=List.map (getM p i) (NB many)) (by simpa using hk),Pp,Pb];exact(hp.lo i hi k hk).2
  refine decide_eq_false (Int.not_le.2 (II (λx hx=>?_) ?_))
  ·rw[a0]at hx;obtain⟨k,hk,rfl⟩:=ck hx;exact a3 k (by unfold DY at hk;rw[a5]at hk;simpa using hk)
  rw[a0];exact a3 0 hm
 have h0:(rows.length==0)=false:=beq_eq_false_iff_ne.2 zo;rw[a1,a2,h0];simp
structure TabI(t:TabM)(A B:List (List Nat)×List Nat):Prop where
 right:iY t=true
 ok:OkT t
 left:∀r c,r<A.1.length->c<37->stL t r c=nxD A.1 r c
 rght:∀r c,r<B.1.length->c<37->stR t r c=nxD B.1 r c
 ll:t.left.usual.length=A.1.length
 rl:t.right.usual.length=B.1.length
theorem G4{ts:List R3}{B:List (List Nat)×List Nat}(a8:eW li lk ts=true)(hA:Mk A.1 A.2)(hB:Mk B.1 B.2)(tA:∀q∈A.2,q<2^ts.length)(tB:∀q∈B.2,q<2^ts.length):TabI (nZ li lk ts A B) A B:=by
 obtain⟨r1,r2,r3,r4⟩:=eA a8;obtain⟨many,hg,a5⟩:=qU [A.1,B.1];have a2:=hg.pos;have b0:=hg.le;have a4:=hg.len;have a3:∀ {rows:List (List Nat)} {a7:List Nat},Mk rows a7->∀i,i<37->∀r∈rows,nth r i<65536:=fun {rows a7} h i hi r hr=>by
  obtain⟨j,hj,rfl⟩:=ck hr;have h1:=(h.row j hj).2 i hi;have h2:=h.le;omega
 have hc:∀i j,i<37->j<37->nth (bV [A.1,B.1]) i=nth (bV [A.1,B.1]) j->(∀r∈A.1,nth r i=nth r j)/\∀r∈B.1,nth r i=nth r j:=λi j hi hj e=>
  Gh (λr hr=>⟨a3 hA i hi r hr,a3 hA j hj r hr⟩) (λr hr=>⟨a3 hB i hi r hr,a3 hB j hj r hr⟩) ((a5 i j hi hj).1 e)
 have a1:=hg.cnt;have iL:=zj hg hA (λi j hi hj e=>(hc i j hi hj e).1);have iR:=zj hg hB (λi j hi hj e=>(hc i j hi hj e).2);have fL:=zP iL a2 hA tA;have fR:=zP iR a2 hB tB;have e1:(nZ li lk ts A B).left=dS (bV [A.1,B.1]) many A.1:=by rw[tT,a1]
 have e2:(nZ li lk ts A B).right=dS (bV [A.1,B.1]) many B.1:=by rw[qp,a1]
 have e3:(nZ li lk ts A B).groups=ints (bV [A.1,B.1]):=rfl;have gr:∀c,c<37->nth (nZ li lk ts A B).groups c=((nth (bV [A.1,B.1]) c:Nat):Int):=λc hc=>by rw[e3,dU zo]
 have gt:∀c,c<37->grT (nZ li lk ts A B) c=nth (bV [A.1,B.1]) c:=λc hc=>by unfold grT;rw[gr c hc];rfl
 have a6:∀q:Nat,q<2^ts.length->q<2^40:=λq hq=>Nh hq (Nc zd r1)
 have a':=hA.tl;have a9:=hB.tl;have pA:=hA.pos;have pB:=hB.pos;refine⟨?_,⟨okP _ (by rw[e1];exact iL.right),okP _ (by rw[e2];exact iR.right),by rw[e3];simpa using a4,λc a0=>?_,by rw[e1,iL.us];exact a',by rw[e2,iR.us];exact a9,by rw[e1,iL.us];exact pA,by rw[e2,iR.us];exact pB,λr c hr a0=>?_,λr c hr a0=>?_,oj r2,oj r3,a6 _ (ti ts _),λq hq=>a6 q (tA q hq),λq hq=>a6 q (tB q hq)⟩,λr c hr a0=>?_,λr c hr a0=>?_,by rw[e1,iL.us],by rw[e2,iR.us]⟩
 ·unfold iY;have q1:(nZ li lk ts A B).ig / 2^36=0:=N0 (oj r2);have q2:(nZ li lk ts A B).kp / 2^36=0:=N0 (oj r3);have q3:(nZ li lk ts A B).rules.toNat=ts.length:=rfl;have q4:(nZ li lk ts A B).br / 2^ts.length=0:=N0 (ti ts _);have q5:iu (nZ li lk ts A B).groups=many:=by rw[e3,a1]
  have q6:(nZ li lk ts A B).rules=(ts.length:Int):=rfl;rw[q1,q2,q3,q4,q5,q6,e1,e2,BR,BQ,fL,fR,decide_eq_false zo,decide_eq_false zo,beq_eq_false_iff_ne.2 zo];rfl
 ·rw[gr c a0];have:=hg.lt c a0;omega
 ·rw[e1]at hr ⊢;rw[iL.us]at hr ⊢;rw[gt c a0,iL.get r hr c a0];have:=(hA.row r hr).2 c a0;unfold nxD;omega
 ·rw[e2]at hr ⊢;rw[iR.us]at hr ⊢;rw[gt c a0,iR.get r hr c a0];have:=(hB.row r hr).2 c a0;unfold nxD;omega
 ·unfold stL;rw[e1,gt c a0,iL.get r hr c a0];rfl
 unfold stR;rw[e2,gt c a0,iR.get r hr c a0];rfl
theorem Fu(rows:List (List Nat))(u v:List Nat)(q:Nat):jO rows (u++v) q=jO rows v (jO rows u q):=MV
theorem CL{cl:Nat->Nat}(hr:Mk rows a0)(a4:Cls cl (rows,a0)):∃F,LI cl (nxD rows) (nth a0) rows.length F.length F (bh cl rows a0).1 (bh cl rows a0).2/\
  ∀(w:List Nat),(∀m∈w,m<37)->∀p q,p<F.length->q<rows.length->cl (nth F p)=cl q->jO (bh cl rows a0).1 w p<F.length/\jO rows w q<rows.length/\cl (nth F (jO (bh cl rows a0).1 w p))=cl (jO rows w q):=by
 obtain⟨F,hF⟩:=gH (cl:=cl) (tl:=nth a0) hr.nx (rows.length+1) 0 [0] [] [] (nX hr.pos) zo;refine⟨F,hF,λw=>?_⟩;have a6:LI cl (nxD rows) (nth a0) rows.length F.length F (bh cl rows a0).1 (bh cl rows a0).2:=hF;generalize bh cl rows a0=L at *
 induction w with
 |nil=>exact λ_ p q hp hq he=>⟨hp,hq,he⟩
 |cons m w ih=>
  intro hw p q hp hq he;have hm:=hw m (by simp);obtain⟨a1,a2⟩:=(a6.row p hp).2 m hm;have a5:=a6.reps.lt _ (aW hp);have a3:=hr.nx q m hq hm;have a7:Alike (nxD rows) (nth a0) (nth F p) q:=(a4 _ _ a5 hq).1 he;exact ih (λx hx=>hw x (by simp[hx])) _ _ a1 a3 (a2.trans ((a4 _ _ (hr.nx _ m a5 hm) a3).2 (a7.step hm)))
theorem tN{ts:List Nd}{cl:Nat->Nat}(h:stM se ts=some a)(hs:cm ts=true)(hr:Mk a.1 a.2)(a1:Cls cl a)(w:List Nat)(hw:∀m∈w,m<37):
  jO (bh cl a.1 a.2).1 w 0<(bh cl a.1 a.2).1.length/\∀i,(nth (bh cl a.1 a.2).2 (jO (bh cl a.1 a.2).1 w 0)).testBit i=true↔i<ts.length/\∃u v,ints w=u++v/\(se=true\/u=[])/\Lg (nth ts i) v:=by
 obtain⟨F,hF,a0⟩:=CL (cl:=cl) hr a1;obtain⟨c1,c2,c3⟩:=a0 w hw 0 0 hF.p0 hr.pos (by rw[hF.fst]);refine⟨by rw[hF.rl];exact c1,λi=>?_⟩;have hd:Gf (da se (kq ts)) (dH (kq ts))=some a:=by
  unfold stM at h
  split at h
  ·exact h
  cases h
 obtain⟨S,hS⟩:=pc hd;obtain⟨s1,s2⟩:=za hS w hw 0 hS.p0;have a3:=(a1 _ _ (hF.reps.lt _ (aW c1)) c2).1 c3;have a2:nth (bh cl a.1 a.2).2 (jO (bh cl a.1 a.2).1 w 0)=nth a.2 (jO a.1 w 0):=by
  rw[hF.tel _ c1];exact a3 [] (λm hm=>by cases hm)
 have a4:w.foldl (λs (m:Nat)=>da se (kq ts) s (m:Int)) (nth S 0)=DX (da se (kq ts)) (ints w):=by
  unfold DX;rw[hS.fst,List.foldl_map]
 rw[a2,hS.tel _ s1,s2,a4];exact An hs (oe se (kq ts)) (ints w) i
theorem zz:∀(l:List Nd) (s:Bool) (a0:Int),0<=a0->0<=cP s a0 l->a0<=cP s a0 l
 |[],_,a0,_,_=>by unfold cP;exact MX _
 |t::r,s,a0,h0,h=>by
  unfold cP at h ⊢
  split at h
  ·omega
  rename_i hn;rw[if_neg hn];have a1:a0<=if s=true then a0+cz t else max a0 (cz t):=by split<;>omega
  exact Int.le_trans a1 (zz r s _ zo h)
mutual
theorem xR:∀(t:Nd) (w:List Int),Lg t w->0<=cz t->(w.length:Int)<=cz t
 |.mk k c l,w,h,h0=>by
  unfold cz at h0 ⊢
  unfold Lg at h
  by_cases h67:k=6\/k=7
  ·rw[if_pos h67]at h0;omega
  rw[if_neg h67]at h0 ⊢
  by_cases h9:k=9
  ·subst h9
   simp at h
   rw[if_pos rfl,h];exact MX _
  rw[if_neg h9]at h0 ⊢
  by_cases h4:k=4
  ·subst h4
   simp at h
   rw[if_pos (.inl rfl)]at h0 ⊢
   have:=zB l w 0 h (MX _) h0
   simpa using this
  by_cases h5:k=5
  ·subst h5
   simp at h
   rw[if_pos (.inr (.inl rfl))]at h0 ⊢
   exact sG l w 0 h (MX _) h0
  by_cases h8:k=8
  ·subst h8
   simp at h
   rw[if_pos (.inr (.inr rfl))]at h0 ⊢
   rcases h with rfl|h
   ·exact h0
   exact sG l w 0 (by
    cases l with
    |nil=>exact h.elim
    |cons t r=>exact .inl h) (MX _) h0
  have h6:¬k=6:=λe=>h67 (.inl e)
  have h7:¬k=7:=λe=>h67 (.inr e)
  rw[if_neg h4,if_neg h5,if_neg h6,if_neg h7,if_neg h8,if_neg h9]at h
  obtain⟨m,rfl,_⟩:=h
  rw[if_neg zo]
  exact MX _
theorem zB:∀(l:List Nd) (w:List Int) (acc:Int),QE l w->0<=acc->0<=cP true acc l->acc+w.length<=cP true acc l
 |[],w,acc,h,_,_=>by
  unfold QE at h
  subst h
  unfold cP
  simp
 |t::r,w,acc,h,ha,h0=>by
  unfold QE at h
  unfold cP at h0 ⊢
  obtain⟨u,v,rfl,hu,hv⟩:=h
  split at h0
  ·omega
  rename_i hn
  rw[if_neg hn]
  rw[if_pos rfl]at h0 ⊢
  have h1:=xR t u hu zo
  have h2:=zB r v _ hv zo h0
  rw[LV]
  omega
theorem sG:∀(l:List Nd) (w:List Int) (acc:Int),Qy l w->0<=acc->0<=cP false acc l->(w.length:Int)<=cP false acc l
 |[],w,acc,h,_,_=>by unfold Qy at h;exact h.elim
 |t::r,w,acc,h,ha,h0=>by
  unfold Qy at h
  unfold cP at h0 ⊢
  split at h0
  ·omega
  rename_i hn
  rw[if_neg hn]
  rw[if_neg zd]at h0 ⊢
  rcases h with h|h
  ·have h1:=xR t w h zo
   have h2:=zz r false (max acc (cz t)) zo h0
   omega
  exact sG r w _ h zo h0
end
theorem FS{t:Nd}(h:dm t=0){w:List Int}(hw:Lg t w):w.length<=4:=by
 unfold dm at h
 split at h
 ·omega
 split at h
 ·omega
 rename_i hn;simp only[Mj,not_or,Pm,decide_eq_true_eq]at hn;obtain⟨h1,h2⟩:=hn;have hb:uQ t=true:=by simpa using h1
 have a0:=hb;unfold uQ at a0;rw[L1]at a0;have h3:=of_decide_eq_true a0.2;have h4:=xR t w hw h3;unfold uP at h2;rw[if_pos a0.1]at h2;omega
def fT:List En->List Nat
 |[]=>[]
 |(c,h)::r=>if h=true then fT r else c::fT r
theorem GZ{l:List En}(h:∀x∈l,x.1<n):∀m∈fT l,m<n:=by
 induction l with
 |nil=>exact λm hm=>by cases hm
 |cons x r ih=>
  obtain⟨c,hd⟩:=x;intro m hm;unfold fT at hm
  split at hm
  ·exact ih (λy hy=>h y (by simp[hy])) m hm
  rcases L7.1 hm with rfl|hm
  ·exact h (m,hd) (by simp)
  exact ih (λy hy=>h y (by simp[hy])) m hm
theorem xn{t:TabM}{A B:List (List Nat)×List Nat}(hI:TabI t A B)(hB:Mk B.1 B.2)(i:Nat):∀(l:List En) (row a0 a1:Nat),(∀x∈l,x.1<36)->row<B.1.length->a0<=4->
  ((rwL t l row a0 a1).testBit i=true↔a1.testBit i=true\/∃k,0<k/\k<=(fT l).length/\a0+k<=4/\(nth t.rt (jO B.1 ((fT l).take k) row)).testBit i=true)
 |[],row,a0,a1,_,_,_=>by
  unfold rwL fT
  constructor
  ·exact .inl
  rintro(h|⟨k,h1,h2,_⟩)
  ·exact h
  simp at h2;omega
 |(c,hd)::r,row,a0,a1,hc,hrow,hseen=>by
  have a2:∀x∈r,x.1<36:=λx hx=>hc x (by simp[hx])
  have a4:c<36:=hc (c,hd) (by simp);unfold rwL fT
  by_cases hh:hd=true
  ·rw[if_pos hh,if_pos hh];exact xn hI hB i r row a0 a1 a2 hrow hseen
  rw[if_neg hh,if_neg hh]
  by_cases h4:a0=4
  ·rw[if_pos h4]
   constructor
   ·exact .inl
   rintro(h|⟨k,h1,_,h3,_⟩)
   ·exact h
   omega
  have a3:=hI.rght row c hrow zo;have hn:=hB.nx row c hrow zo;rw[if_neg h4,a3,xn hI hB i r _ _ _ a2 hn zo,NG,Mj]
  constructor
  ·rintro((h|h)|⟨k,h1,h2,h3,h5⟩)
   ·exact .inl h
   ·exact .inr ⟨1,zd,by simp,zo,h⟩
   exact .inr ⟨k+1,zo,by simpa using h2,zo,h5⟩
  rintro(h|⟨k,h1,h2,h3,h5⟩)
  ·exact .inl (.inl h)
  cases k with
  |zero=>omega
  |succ k=>
   cases k with
   |zero=>exact .inl (.inr h5)
   |succ k=>exact .inr ⟨k+1,zo,by simpa using h2,zo,h5⟩
theorem Az{t:TabM}{B:List (List Nat)×List Nat}(hI:TabI t A B)(hB:Mk B.1 B.2)(i:Nat)(l:List En)(hl:∀x∈l,x.1<36):
  (eK t l).testBit i=true↔∃k,k<=(fT l).length/\k<=4/\(nth t.rt (jO B.1 ((fT l).take k) 0)).testBit i=true:=by
 unfold eK;rw[xn hI hB i l 0 0 _ hl hB.pos zd]
 constructor
 ·rintro(h|⟨k,_,h2,h3,h4⟩)
  ·exact⟨0,LO _,LO _,h⟩
  exact⟨k,h2,zo,h4⟩
 rintro⟨k,h2,h3,h4⟩
 cases k with
 |zero=>exact .inl h4
 |succ k=>exact .inr ⟨k+1,zo,h2,zo,h4⟩
theorem Gg{x:Nat}(h0:x≠0)(h:x<2^64):x.testBit (N2 64 x)=true/\∀j,j<N2 64 x->x.testBit j=false:=by
 obtain⟨m,e,_⟩:=Lib.ctzFrom_spec 64 x zo h;have hc:N2 64 x=Q9 64 x:=by unfold N2;rw[if_neg h0]
 rw[hc];generalize Q9 64 x=c at *;subst e;refine⟨?_,λj hj=>?_⟩
 ·rw[NR,Nat.sub_self,decide_eq_true (LU c),NJ,Nat.testBit_zero];exact decide_eq_true zo
 rw[NR,decide_eq_false zo,Bool.false_and]
def ko(ts:List R3)(a0 after:List Nat)(i:Nat):Prop:=i<ts.length/\(∃u v,ints a0=u++v/\Lg (nth (nt ts) i) v)/\∃u v,ints after=u++v/\Lg (nth (fw ts) i) u
def FirstR(ts:List R3)(a0 after:List Nat)(k:Int):Prop:=(k = -1/\∀i,¬ko ts a0 after i)\/∃i:Nat,k=i/\ko ts a0 after i/\∀j,j<i->¬ko ts a0 after j
theorem FirstR.uniq{ts:List R3}{b a:List Nat}{k k':Int}(h:FirstR ts b a k)(h':FirstR ts b a k'):k=k':=by
 rcases h with⟨rfl,h⟩|⟨i,rfl,h1,h2⟩<;>rcases h' with⟨rfl,h'⟩|⟨i',rfl,a0,a1⟩
 ·rfl
 ·exact absurd a0 (h i')
 ·exact absurd h1 (h' i)
 rcases Nat.lt_trichotomy i i' with h3|h3|h3
 ·exact absurd h1 (a1 i h3)
 ·rw[h3]
 exact absurd a0 (h2 i' h3)
theorem ue{ts:List Nd}(h:∀t∈ts,bp t=true):cm ts=true:=by
 induction ts with
 |nil=>rfl
 |cons t r ih=>
  unfold cm;rw[(ga (h t (by simp))).2.1,ih (λx hx=>h x (by simp[hx]))];rfl
structure Made(li lk:List Int)(ts:List R3)(a b:List (List Nat)×List Nat)(clA clB:Nat->Nat):Prop where
 rt:eW li lk ts=true
 sa:stM true (nt ts)=some a
 sb:stM false (fw ts)=some b
 ra:Mk a.1 a.2
 rb:Mk b.1 b.2
 ca:Cls clA a
 cb:Cls clB b
abbrev cy(li lk:List Int)(ts:List R3)(a b:List (List Nat)×List Nat)(a1 a0:Nat->Nat):TabM:=nZ li lk ts (bh a1 a.1 a.2) (bh a0 b.1 b.2)
section
variable{li lk:List Int}{ts:List R3}{a b:List (List Nat)×List Nat}{clA clB:Nat→Nat}
theorem Made.inv(h:Made li lk ts a b clA clB):TabI (cy li lk ts a b clA clB) (bh clA a.1 a.2) (bh clB b.1 b.2):=
 G4 h.rt (fc h.ra clA) (fc h.rb clB) (oN h.ra clA (by have:=tW h.sa;rwa[Mc]at this)) (oN h.rb clB (by have:=tW h.sb;rwa[Mc]at this))
theorem Made.rules(h:Made li lk ts a b clA clB):∀t∈ts,bp t.1=true/\bp t.2.1=true/\dm t.2.1=0:=λt ht=>by
 have:=(eA h.rt).2.2.2 t ht;unfold rY at this;simp only[L1,beq_iff_eq]at this;exact⟨this.1.1,this.1.2,this.2⟩
theorem Made.left(h:Made li lk ts a b clA clB)(w:List Nat)(hw:∀m∈w,m<37):jO (bh clA a.1 a.2).1 w 0<(bh clA a.1 a.2).1.length/\
  ∀i,(nth (bh clA a.1 a.2).2 (jO (bh clA a.1 a.2).1 w 0)).testBit i=true↔i<ts.length/\∃u v,ints w=u++v/\Lg (nth (nt ts) i) v:=by
 have hs:cm (nt ts)=true:=ue λt ht=>by
  obtain⟨x,hx,rfl⟩:=MM.1 ht;exact(h.rules x hx).1
 obtain⟨h1,h2⟩:=tN h.sa hs h.ra h.ca w hw;refine⟨h1,λi=>?_⟩;rw[h2 i,Mc];exact and_congr_right λ_=>⟨fun⟨u,v,e,_,hv⟩=>⟨u,v,e,hv⟩,fun⟨u,v,e,hv⟩=>⟨u,v,e,.inl rfl,hv⟩⟩
theorem Made.right(h:Made li lk ts a b clA clB)(l:List En)(hl:∀x∈l,x.1<36)(i:Nat):(eK (cy li lk ts a b clA clB) l).testBit i=true↔i<ts.length/\∃u v,ints (fT l)=u++v/\Lg (nth (fw ts) i) u:=by
 have hs:cm (fw ts)=true:=ue λt ht=>by
  obtain⟨x,hx,rfl⟩:=MM.1 ht;exact(h.rules x hx).2.1
 have hv:=GZ hl;rw[Az h.inv (fc h.rb clB) i l hl];have a0:∀k,(nth (cy li lk ts a b clA clB).rt (jO (bh clB b.1 b.2).1 ((fT l).take k) 0)).testBit i=true↔i<ts.length/\Lg (nth (fw ts) i) (ints ((fT l).take k)):=λk=>by
  have:=(tN h.sb hs h.rb h.cb ((fT l).take k) (λm hm=>by have:=hv m (P1 hm);omega)).2 i;rw[Mc]at this;refine this.trans (and_congr_right λ_=>⟨?_,λhL=>⟨[],_,rfl,.inr rfl,hL⟩⟩);rintro⟨u,v,e,hu,hL⟩
  rcases hu with hu|rfl
  ·cases hu
  rw[e];exact hL
 constructor
 ·rintro⟨k,h1,h2,h3⟩;obtain⟨h4,h5⟩:=(a0 k).1 h3;exact⟨h4,ints ((fT l).take k),ints ((fT l).drop k),by unfold ints;rw[<-MK,Mn],h5⟩
 rintro⟨h1,u,v,e,h2⟩;have hi:i<(fw ts).length:=by rw[Mc];exact h1
 have h4:u.length<=4:=FS (by
  rw[dU h1]
  exact(h.rules _ (aW h1)).2.2) h2
 have a1:u.length<=(fT l).length:=by have:=congrArg MI e;rw[LV]at this;unfold ints at this;rw[Mc]at this;omega
 refine⟨u.length,a1,h4,(a0 _).2 ⟨h1,?_⟩⟩;have:ints ((fT l).take u.length)=u:=by
  unfold ints at e ⊢;rw[List.map_take,e,Nv];rfl
 rw[this];exact h2
theorem Made.which(h:Made li lk ts a b clA clB)(a0:List Nat)(hb:∀m∈a0,m<37)(s:RunS)(hs:OkS (cy li lk ts a b clA clB) s)(a2:s.row=jO (bh clA a.1 a.2).1 a0 0):FirstR ts a0 (fT s.wait) (dD (cy li lk ts a b clA clB) s):=by
 have hl:=(h.left a0 hb).2;have hr:=h.right s.wait hs.wait;have hi:=h.inv;have a3:=oC hi.ok hs;unfold dD;have a4:(cy li lk ts a b clA clB).lt=(bh clA a.1 a.2).2:=rfl;rw[a4,a2];generalize eK (cy li lk ts a b clA clB) s.wait=R at *;generalize nth (bh clA a.1 a.2).2 (jO (bh clA a.1 a.2).1 a0 0)=L at *;have a1:∀i,(L &&& R).testBit i=true↔ko ts a0 (fT s.wait) i:=λi=>by
  rw[Nat.testBit_and,L1,hl i,hr i];unfold ko;exact⟨fun⟨⟨h1,h2⟩,_,h3⟩=>⟨h1,h2,h3⟩,fun⟨h1,h2,h3⟩=>⟨⟨h1,h2⟩,h1,h3⟩⟩
 have a5:L &&& R<2^64:=Ni PA (Nat.lt_trans a3 zd)
 split
 ·rename_i h0;exact .inl ⟨rfl,λi hA=>by have:=(a1 i).2 hA;rw[h0]at this;simp at this⟩
 rename_i h0;obtain⟨c1,c2⟩:=Gg h0 a5;exact .inr ⟨_,rfl,(a1 _).1 c1,λj hj hA=>by have:=(a1 j).2 hA;rw[c2 j hj]at this;cases this⟩
end
section
variable{cl cl':Nat→Nat}{n:Nat}(h:∀p q,p<n→q<n→(cl p=cl q↔cl' p=cl' q))
include h
end
theorem zZ(ts:List R3)(i:Nat):∀n,(iF ts n).testBit i=(decide (i<n)&&(nth ts i).2.2)
 |0=>by unfold iF;simp
 |n+1=>by
  have ih:=zZ ts i n;unfold iF
  by_cases hb:(nth ts n).2.2=true
  ·rw[if_pos hb,NG,ih,Pa]
   by_cases e:n=i
   ·subst e;rw[hb];simp
   rw[decide_eq_false e,Bool.or_false];congr 1;exact decide_eq_decide.2 zo
  rw[if_neg hb,ih]
  by_cases e:n=i
  ·subst e;rw[show(nth ts n).2.2=false from by simpa using hb];simp
  congr 1;exact decide_eq_decide.2 zo
def brk(ts:List R3)(k:Int):Bool:=decide (k<0)||(nth ts k.toNat).2.2
theorem rL(l r:List En):fT (l++r)=fT l++fT r:=by
 induction l with
 |nil=>rfl
 |cons x l ih=>
  obtain⟨c,h⟩:=x
  cases h with
  |true=>exact ih
  |false=>exact congrArg (c :: ·) ih
section
variable{li lk:List Int}{ts:List R3}{a b:List (List Nat)×List Nat}{clA clB:Nat→Nat}
theorem Made.stepL(h:Made li lk ts a b clA clB)(x:En)(hx:x.1<36)(a0:List Nat)(hb:∀m∈a0,m<37):stepL (cy li lk ts a b clA clB) (jO (bh clA a.1 a.2).1 a0 0) x=jO (bh clA a.1 a.2).1 (a0++fT [x]) 0/\∀m∈a0++fT [x],m<37:=by
 obtain⟨c,hd⟩:=x;have a1:=(h.left a0 hb).1;unfold Go.Proofs.YteolbhblkgjbhaaGreatDoor.stepL fT
 by_cases hh:hd=true
 ·rw[if_pos hh,if_pos hh];unfold fT;rw[LQ];exact⟨rfl,hb⟩
 rw[if_neg hh,if_neg hh];unfold fT;refine⟨?_,λm hm=>?_⟩
 ·rw[h.inv.left _ c a1 (by show c<37;simp at hx;omega),Fu];rfl
 rcases Mi.1 hm with hm|hm
 ·exact hb m hm
 rw[ln.1 hm];simp at hx;omega
theorem Made.passB(h:Made li lk ts a b clA clB)(l:List En)(x:En)(hl:∀y∈l,y.1<36)(hf:l.length<=1000000)(a0:List Nat)(hb:∀m∈a0,m<37):
  FirstR ts a0 (fT l) (dD (cy li lk ts a b clA clB) (rX (jO (bh clA a.1 a.2).1 a0 0) l))/\
  Go.Proofs.YteolbhblkgjbhaaGreatDoor.passB (cy li lk ts a b clA clB) (rX (jO (bh clA a.1 a.2).1 a0 0) l) x=(!x.2&&brk ts (dD (cy li lk ts a b clA clB) (rX (jO (bh clA a.1 a.2).1 a0 0) l))):=by
 have a1:=(h.left a0 hb).1;have hk:=h.which a0 hb (rX (jO (bh clA a.1 a.2).1 a0 0) l) ⟨by show _<(cy li lk ts a b clA clB).left.usual.length;rw[h.inv.ll];exact a1,hl,by show 0<36;decide,hf⟩ rfl;refine⟨hk,?_⟩;unfold Go.Proofs.YteolbhblkgjbhaaGreatDoor.passB brk;have a2:FirstR ts a0 (fT l) (dD (cy li lk ts a b clA clB) (rX (jO (bh clA a.1 a.2).1 a0 0) l)):=hk;generalize dD (cy li lk ts a b clA clB) (rX (jO (bh clA a.1 a.2).1 a0 0) l)=k at *
 rcases a2 with⟨rfl,_⟩|⟨i,rfl,h1,_⟩
 ·rfl
 have a3:(cy li lk ts a b clA clB).br=iF ts ts.length:=rfl;rw[a3,zZ,MC,decide_eq_true h1.1,NJ]
theorem Made.closeL(h:Made li lk ts a b clA clB):∀(l:List En) (a0:List Nat),(∀m∈a0,m<37)->(∀y∈l,y.1<36)->l.length<=1000000->∀i,i<l.length->
  ∃k,FirstR ts (a0++fT (l.take i)) (fT (l.drop i)) k/\nth (closeL (cy li lk ts a b clA clB) l (jO (bh clA a.1 a.2).1 a0 0)) i=(!(nth l i).2&&brk ts k)
 |[],_,_,_,_,i,hi=>absurd hi (M7 i)
 |x::r,a0,hb,hl,hf,i,hi=>by
  obtain⟨s1,s2⟩:=h.stepL x (hl x (by simp)) a0 hb;unfold Go.Proofs.YteolbhblkgjbhaaGreatDoor.closeL
  cases i with
  |zero=>
   obtain⟨p1,p2⟩:=h.passB (x::r) x hl hf a0 hb;refine⟨dD (cy li lk ts a b clA clB) (rX (jO (bh clA a.1 a.2).1 a0 0) (x::r)),?_,?_⟩
   ·rw[PH,PK];show FirstR ts (a0++[]) _ _;rw[LQ];exact p1
   rw[ao,ao];exact p2
  |succ i=>
   rw[aS,aS,s1];obtain⟨k,k1,k2⟩:=Made.closeL h r (a0++fT [x]) s2 (λy hy=>hl y (by simp[hy])) (by simp at hf;omega) i (by simpa using hi);refine⟨k,?_,k2⟩;rw[List.take_succ_cons,List.drop_succ_cons,show x::r.take i=[x]++r.take i from rfl,rL,<-Mf];exact k1
end
def qT(t:TabM):En->List Int->List En
 |_,[]=>[]
 |last,c::r=>(bd c,t.ig.testBit (bd c)&&(last.2 || !(t.kp.testBit last.1)))::qT t (bd c,t.ig.testBit (bd c)&&(last.2 || !(t.kp.testBit last.1))) r
theorem kQ(t:TabM):∀(a0:List Int) (s:RunS),s.begun=true->(cj t s a0).wait=s.wait++qT t s.last a0/\(cj t s a0).row=s.row
 |[],s,_=>⟨by unfold qT;rw[LQ];rfl,rfl⟩
 |c::r,s,hb=>by
  have e:si t s (bd c) = {s with last:=(bd c,D2 t s (bd c)),wait:=s.wait++[(bd c,D2 t s (bd c))]}:=by unfold si;rw[if_pos hb]
  obtain⟨h1,h2⟩:=kQ t r (si t s (bd c)) (by rw[e];exact hb);have e2:cj t s (c::r)=cj t (si t s (bd c)) r:=rfl;rw[e2,h1,h2,e];refine⟨?_,rfl⟩;rw[qT,Mf];rfl
theorem uC(t:TabM)(c:Int)(r:List Int):(cj t (ou t) (c::r)).wait=qT t (bd c,false) r/\(cj t (ou t) (c::r)).row=stL t (stL t 0 36) (bd c):=by
 have e2:cj t (ou t) (c::r)=cj t (si t (ou t) (bd c)) r:=rfl;have e:si t (ou t) (bd c) = {ou t with begun:=true,last:=(bd c,false),row:=stL t (stL t 0 36) (bd c)}:=rfl;obtain⟨h1,h2⟩:=kQ t r (si t (ou t) (bd c)) rfl;rw[e2,h1,h2,e];exact⟨rfl,rfl⟩
theorem nR(t:TabM):∀(l:List Int) (e:En),(qT t e l).length=l.length
 |[],_=>rfl
 |c::r,e=>by rw[qT,LW,nR t r,LW]
theorem C2(t:TabM):∀(l:List Int) (e:En),∀x∈qT t e l,x.1<36
 |[],_,x,hx=>by cases hx
 |c::r,e,x,hx=>by
  rw[qT]at hx
  rcases L7.1 hx with rfl|hx
  ·exact iD c
  exact C2 t r _ x hx
def vT(li lk ids:List Int):Nat->Bool
 |0=>false
 |i+1=>decide (((bd (nth ids (i+1)):Nat):Int)∈li)&&(vT li lk ids i || !(decide (((bd (nth ids i):Nat):Int)∈lk)))
def KP(k c m:Int):Bool:=
 if k=0 then m==c else if k=1 then decide (0<=m)&&decide (m<=35)else if k=2 then(decide (0<=m)&&decide (m<=35))&&(m != c)else(k==3)&&(m==36)
def JB(f g:Nat->Nat->Bool)(i k j:Nat):Bool:=(NB k).any λt=>f i t&&g t j
abbrev Tb:=Nat->Nat->Bool
def seg(ms:List Int)(i j:Nat):List Int:=(ms.drop i).take (j-i)
theorem oo(ms:List Int)(h:i<=j)(hj:j<=ms.length):(seg ms i j).length=j-i:=by simp[seg];omega
theorem yV(ms:List Int)(i:Nat):seg ms i i=[]:=by simp[seg]
theorem xk(ms:List Int){m:Nat}(h1:i<=m)(h2:m<=j):seg ms i j=seg ms i m++seg ms m j:=by
 unfold seg;obtain⟨a,rfl⟩:∃a,m=i+a:=⟨m-i,zo⟩
 obtain⟨b,rfl⟩:∃b,j=i+a+b:=⟨j-(i+a),zo⟩
 rw[show i+a+b-i=a+b from by omega,show i+a-i=a from by omega,show i+a+b-(i+a)=b from by omega,List.take_add,NC]
theorem ug(h:i<=j)(hj:j<=ms.length){u v:List Int}(e:seg ms i j=u++v):i+u.length<=j/\u=seg ms i (i+u.length)/\v=seg ms (i+u.length) j:=by
 have hl:=congrArg MI e;rw[oo ms h hj,LV]at hl;have h1:i+u.length<=j:=zo;have e2:=xk ms (show i<=i+u.length by omega) h1;rw[e]at e2;obtain⟨e3,e4⟩:=PC e2 (by rw[oo ms zo zo];omega);exact⟨h1,e3,e4⟩
theorem G9(h:i<ms.length):seg ms i (i+1)=[nth ms i]:=by
 unfold seg;rw[show i+1-i=1 from by omega,Mh h,aB h];rfl
def J9(n:Nat)(t:Tb):Nat->Tb
 |0=>t
 |r+1=>λi j=>J9 n t r i j||JB (J9 n t r) t i n j
def stepT(n:Nat)(k:Int)(a0 t:Tb):Tb:=
 if k=4 then λi j=>JB a0 t i n j else if k=6\/k=7 then λi j=>a0 i j||J9 n t n i j else λi j=>a0 i j||t i j
def ym(ms:List Int)(k c:Int):Tb:=λi j=>if i=j then decide (k=4\/k=6\/k=8\/k=9)else if j=i+1/\k<4 then KP k c (nth ms i)else false
mutual
/-- From which place of marks a node leads to which. -/
def gg(ms:List Int):Nd->Tb
 |.mk k c l=>fe ms k l (ym ms k c)
def fe(ms:List Int)(k:Int):List Nd->Tb->Tb
 |[],out=>out
 |t::r,out=>fe ms k r (stepT (ms.length+1) k out (gg ms t))
end
theorem By(f g:Tb)(i n j:Nat):JB f g i n j=true↔∃m,m<n/\f i m=true/\g m j=true:=by
 unfold JB;rw[List.any_eq_true]
 constructor
 ·rintro⟨m,hm,h⟩;rw[L1]at h;exact⟨m,PJ.1 hm,h.1,h.2⟩
 rintro⟨m,hm,h1,h2⟩;exact⟨m,PJ.2 hm,by rw[h1,h2];rfl⟩
def Says(ms:List Int)(t:Tb)(L:List Int->Prop):Prop:=∀i j,i<=ms.length->j<=ms.length->(t i j=true↔i<=j/\L (seg ms i j))
theorem yW{f g:Tb}(hf:Says ms f L)(hg:Says ms g M):Says ms (λi j=>JB f g i (ms.length+1) j) (λw=>∃u v,w=u++v/\L u/\M v):=λi j hi hj=>by
 rw[By]
 constructor
 ·rintro⟨m,hm,h1,h2⟩;obtain⟨a1,a2⟩:=(hf i m hi zo).1 h1;obtain⟨b1,b2⟩:=(hg m j zo hj).1 h2;exact⟨zo,_,_,xk ms a1 b1,a2,b2⟩
 rintro⟨a0,u,v,e,h1,h2⟩;obtain⟨s1,s2,s3⟩:=ug a0 hj e;exact⟨i+u.length,zo,(hf i _ hi zo).2 ⟨zo,s2▸h1⟩,(hg _ j zo hj).2 ⟨s1,s3▸h2⟩⟩
theorem rU{f g:Tb}(hf:Says ms f L)(hg:Says ms g M):Says ms (λi j=>f i j||g i j) (λw=>L w\/M w):=λi j hi hj=>by
 rw[Mj,hf i j hi hj,hg i j hi hj];exact⟨λh=>h.elim (λh=>⟨h.1,.inl h.2⟩) (λh=>⟨h.1,.inr h.2⟩),fun⟨h1,h2⟩=>h2.elim (λh=>.inl ⟨h1,h⟩) (λh=>.inr ⟨h1,h⟩)⟩
theorem Says.congr{f:Tb}(h:Says ms f L)(e:∀w,L w↔M w):Says ms f M:=λi j hi hj=>by rw[h i j hi hj,e]
def Kw(P:List Int->Prop):Nat->List Int->Prop
 |0,w=>P w
 |r+1,w=>∃u v,w=u++v/\Kw P r u/\P v
theorem yX{ms:List Int}{t:Tb}{L:List Int->Prop}(h:Says ms t L):∀r,Says ms (J9 (ms.length+1) t r) (λw=>∃s,s<=r/\Kw L s w)
 |0=>h.congr λw=>⟨λhw=>⟨0,LU _,hw⟩,fun⟨s,hs,hw⟩=>(match s,hs,hw with|0,_,hw=>hw)⟩
 |r+1=>by
  have ih:=yX h r;refine(rU ih (yW ih h)).congr λw=>?_
  constructor
  ·rintro(⟨s,hs,hw⟩|⟨u,v,rfl,⟨s,hs,hu⟩,hv⟩)
   ·exact⟨s,zo,hw⟩
   exact⟨s+1,zo,u,v,rfl,hu,hv⟩
  rintro⟨s,hs,hw⟩
  by_cases e:s<=r
  ·exact .inl ⟨s,e,hw⟩
  obtain rfl:s=r+1:=zo;obtain⟨u,v,rfl,hu,hv⟩:=hw;exact .inr ⟨u,v,rfl,⟨r,LU _,hu⟩,hv⟩
theorem B3{k c:Int}(hk:4<=k):Says ms (ym ms k c) (λw=>(k=4\/k=6\/k=8\/k=9)/\w=[]):=λi j hi hj=>by
 unfold ym
 by_cases e:i=j
 ·subst e;rw[if_pos rfl,yV,decide_eq_true_eq];exact⟨λh=>⟨LU _,h,rfl⟩,λh=>h.2.1⟩
 rw[if_neg e,if_neg zo];refine⟨λh=>(by cases h),fun⟨h1,_,h2⟩=>?_⟩;have:=congrArg MI h2;rw[oo ms h1 hj]at this;simp at this;omega
theorem Cq{k c m:Int}(hk:k=0/\0<=c/\c<36\/k=1\/k=2\/k=3):KP k c m=cW k c m:=by
 unfold KP cW
 rcases hk with⟨rfl,h1,h2⟩|rfl|rfl|rfl
 ·rw[if_pos rfl,if_pos rfl]
  by_cases e:m=c
  ·subst e;rw[decide_eq_true h1,decide_eq_true h2];rfl
  rw[beq_eq_false_iff_ne.2 e,Na]
 ·rw[if_neg zd,if_pos rfl,if_neg zd,if_pos rfl];congr 1;exact decide_eq_decide.2 zo
 ·rw[if_neg zd,if_neg zd,if_pos rfl,if_neg zd,if_neg zd,if_pos rfl];congr 2;exact decide_eq_decide.2 zo
 rw[if_neg zd,if_neg zd,if_neg zd,if_neg zd,if_neg zd,if_neg zd];rfl
theorem kK{k c:Int}(hk:k=0/\0<=c/\c<36\/k=1\/k=2\/k=3):Says ms (ym ms k c) (λw=>∃m,w=[m]/\cW k c m=true):=λi j hi hj=>by
 unfold ym
 by_cases e:i=j
 ·subst e;rw[if_pos rfl,yV,decide_eq_false zo];exact⟨λh=>(by cases h),fun⟨_,m,h,_⟩=>by cases h⟩
 rw[if_neg e]
 by_cases e2:j=i+1
 ·subst e2;rw[if_pos ⟨rfl,zo⟩,G9 zo,Cq hk];exact⟨λh=>⟨zo,_,rfl,h⟩,fun⟨_,m,h,ht⟩=>by cases h;exact ht⟩
 rw[if_neg zo];refine⟨λh=>(by cases h),fun⟨h1,m,h2,_⟩=>?_⟩;have:=congrArg MI h2;rw[oo ms h1 hj]at this;simp at this;omega
theorem Fg{P:List Int->Prop}{w:List Int}(h:Qf P w):w=[]\/∃s,s+1<=w.length/\∃l:List (List Int),l.length=s+1/\w=l.flatten/\∀u∈l,P u:=by
 induction h with
 |nil=>exact .inl rfl
 | @cons u v hu hv ih=>
  by_cases a0:u=[]
  ·subst a0;rw[Nw];exact ih
  have a1:0<u.length:=P6.2 a0
  rcases ih with rfl|⟨s,hs,l,hl,rfl,hP⟩
  ·exact .inr ⟨0,by rw[LQ];exact a1,[u],rfl,by simp,λx hx=>by rw[ln.1 hx];exact hu⟩
  refine .inr ⟨s+1,by rw[LV];omega,u::l,by simp[hl],rfl,λx hx=>?_⟩
  rcases L7.1 hx with rfl|hx
  ·exact hu
  exact hP x hx
theorem GD{P:List Int->Prop}:∀(s:Nat) (l:List (List Int)),l.length=s+1->(∀u∈l,P u)->Kw P s l.flatten
 |0,l,hl,hP=>by
  match l,hl with
  |[u],_=>have:=hP u (by simp);show P _;simpa using this
 |s+1,l,hl,hP=>by
  have a0:l≠[]:=λe=>by rw[e]at hl;cases hl
  refine⟨l.dropLast.flatten,l.getLast a0,?_,GD s _ (by rw[List.length_dropLast];omega) (λu hu=>hP u (List.dropLast_subset l hu)),hP _ (List.getLast_mem a0)⟩
  conv=>lhs;rw[<-List.dropLast_concat_getLast a0]
  simp
theorem zf{P:List Int->Prop}:∀(s:Nat) (w:List Int),Kw P s w->∃l:List (List Int),l.length=s+1/\w=l.flatten/\∀u∈l,P u
 |0,w,h=>⟨[w],rfl,by simp,λu hu=>by rw[ln.1 hu];exact h⟩
 |s+1,w,⟨u,v,e,hu,hv⟩=>by
  obtain⟨l,h1,h2,h3⟩:=zf s u hu;refine⟨l++[v],by simp[h1],by rw[e,h2];simp,λx hx=>?_⟩
  rcases Mi.1 hx with hx|hx
  ·exact h3 x hx
  rw[ln.1 hx];exact hv
theorem tV{P:List Int->Prop}:∀(l:List (List Int)),(∀u∈l,P u)->Qf P l.flatten
 |[],_=>.nil
 |u::l,h=>.cons (h u (by simp)) (tV l (λx hx=>h x (by simp[hx])))
theorem uW{ms:List Int}:∀(l:List Nd),(∀t∈l,Says ms (gg ms t) (Lg t))->∀(a0:Tb) (L:List Int->Prop),Says ms a0 L->Says ms (fe ms 4 l a0) (λw=>∃u v,w=u++v/\L u/\QE l v)
 |[],_,a0,L,h=>by
  unfold fe;refine h.congr λw=>?_
  constructor
  ·intro hw;exact⟨w,[],by simp,hw,by unfold QE;rfl⟩
  rintro⟨u,v,rfl,hu,hv⟩;unfold QE at hv;subst hv
  rwa[LQ]
 |t::r,hl,a0,L,h=>by
  unfold fe;have h1:Says ms (stepT (ms.length+1) 4 a0 (gg ms t)) (λw=>∃u v,w=u++v/\L u/\Lg t v):=yW h (hl t (by simp));refine(uW r (λx hx=>hl x (by simp[hx])) _ _ h1).congr λw=>?_
  constructor
  ·rintro⟨_,v,rfl,⟨a,b,rfl,ha,hb⟩,hv⟩;exact⟨a,b++v,by rw[Mf],ha,by unfold QE;exact⟨b,v,rfl,hb,hv⟩⟩
  rintro⟨a,v,rfl,ha,hv⟩;unfold QE at hv;obtain⟨b,v',rfl,hb,a1⟩:=hv;exact⟨a++b,v',by rw[Mf],⟨a,b,rfl,ha,hb⟩,a1⟩
theorem oQ{ms:List Int}{k:Int}(h4:k≠4)(h6:¬(k=6\/k=7)):∀(l:List Nd),(∀t∈l,Says ms (gg ms t) (Lg t))->∀(a0:Tb) (L:List Int->Prop),Says ms a0 L->Says ms (fe ms k l a0) (λw=>L w\/Qy l w)
 |[],_,a0,L,h=>by
  unfold fe;refine h.congr λw=>⟨.inl,λhw=>hw.elim id λhw=>?_⟩
  unfold Qy at hw;exact hw.elim
 |t::r,hl,a0,L,h=>by
  unfold fe;have h1:Says ms (stepT (ms.length+1) k a0 (gg ms t)) (λw=>L w\/Lg t w):=by
   unfold stepT;rw[if_neg h4,if_neg h6];exact rU h (hl t (by simp))
  refine(oQ h4 h6 r (λx hx=>hl x (by simp[hx])) _ _ h1).congr λw=>?_
  rw[Qy];exact or_assoc
theorem uh{t:Tb}(h:Says ms t L):Says ms (J9 (ms.length+1) t (ms.length+1)) (λw=>∃u v,w=u++v/\L u/\Qf L v):=λi j hi hj=>by
 rw[yX h _ i j hi hj];refine and_congr_right λa0=>?_
 have hl:=oo ms a0 hj
 constructor
 ·rintro⟨s,_,hw⟩;obtain⟨l,h1,h2,h3⟩:=zf s _ hw
  match l,h1,h3 with
  |u::r,_,h3=>exact⟨u,r.flatten,h2,h3 u (by simp),tV r (λx hx=>h3 x (by simp[hx]))⟩
 rintro⟨u,v,e,hu,hv⟩;have a1:v.length<=ms.length:=by have:=congrArg MI e;rw[LV]at this;omega
 rw[e]
 rcases Fg hv with rfl|⟨s,hs,l,h1,rfl,h3⟩
 ·exact⟨0,LO _,by rw[LQ];exact hu⟩
 refine⟨s+1,zo,?_⟩
 have:=GD (s+1) (u::l) (by simp[h1]) (λx hx=>by
  rcases L7.1 hx with rfl|hx
  ·exact hu
  exact h3 x hx)
 exact this
theorem lg4(c:Int)(l:List Nd)(w:List Int):Lg (.mk 4 c l) w↔QE l w:=by rw[Lg];simp
theorem lg5(c:Int)(l:List Nd)(w:List Int):Lg (.mk 5 c l) w↔Qy l w:=by rw[Lg];simp
theorem lg6(c:Int)(t:Nd)(w:List Int):Lg (.mk 6 c [t]) w↔Qf (Lg t) w:=by
 have eH:LgH [t]=Lg t:=by rw[LgH]
 rw[Lg,<-eH];simp
theorem lg7(c:Int)(t:Nd)(w:List Int):Lg (.mk 7 c [t]) w↔∃u v,w=u++v/\Lg t u/\Qf (Lg t) v:=by
 have eH:LgH [t]=Lg t:=by rw[LgH]
 rw[Lg,<-eH];simp
theorem lg8(c:Int)(t:Nd)(w:List Int):Lg (.mk 8 c [t]) w↔w=[]\/Lg t w:=by
 have eH:LgH [t]=Lg t:=by rw[LgH]
 rw[Lg,<-eH];simp
mutual
theorem qN(ms:List Int):∀(t:Nd) (wi:Bool),bS t wi=true->Says ms (gg ms t) (Lg t)
 |.mk k c l,wi,h=>by
  unfold bS at h
  rw[L1]at h
  have hall:=uX ms l h.2
  have hb:=λhk:4<=k=>B3 (ms:=ms) (c:=c) hk
  unfold gg
  rcases dE h.1 with⟨rfl,hn,h1,h2⟩|⟨rfl,hn,h1⟩|⟨rfl,hn,h1,h2⟩|⟨rfl,hn,h1⟩|⟨rfl,hn,h1⟩|⟨rfl,hn,h1⟩|⟨rfl,hn,h1⟩|⟨rfl,hn,h1⟩|⟨rfl,hn,h1⟩|⟨rfl,hn,h1,h2⟩
  ·obtain rfl:=LP hn
   unfold fe
   exact(kK (.inl ⟨rfl,h1,h2⟩)).congr λw=>by rw[Lg];simp
  ·obtain rfl:=LP hn
   unfold fe
   exact(kK (.inr (.inl rfl))).congr λw=>by rw[Lg];simp
  ·obtain rfl:=LP hn
   unfold fe
   exact(kK (.inr (.inr (.inl rfl)))).congr λw=>by rw[Lg];simp
  ·obtain rfl:=LP hn
   unfold fe
   exact(kK (.inr (.inr (.inr rfl)))).congr λw=>by rw[Lg];simp
  ·refine(uW l hall _ _ (hb zd)).congr λw=>?_
   rw[lg4]
   constructor
   ·rintro⟨u,v,rfl,⟨_,rfl⟩,hv⟩;exact hv
   intro hw;exact⟨[],w,rfl,⟨.inl rfl,rfl⟩,hw⟩
  ·refine(oQ zd zd l hall _ _ (hb zd)).congr λw=>?_
   rw[lg5]
   exact⟨λhw=>hw.elim (λhw=>absurd hw.1 zd) id,.inr⟩
  ·match l,hn,hall with
   |[t],_,hall=>
    have ht:=hall t (by simp)
    have h3:Says ms (fe ms 6 [t] (ym ms 6 c)) _:=rU (hb zd) (uh ht)
    refine h3.congr λw=>?_
    rw[lg6]
    constructor
    ·rintro(⟨_,rfl⟩|⟨u,v,rfl,hu,hv⟩)
     ·exact .nil
     exact .cons hu hv
    intro hw
    cases hw with
    |nil=>exact .inl ⟨zd,rfl⟩
    |cons hu hv=>exact .inr ⟨_,_,rfl,hu,hv⟩
  ·match l,hn,hall with
   |[t],_,hall=>
    have ht:=hall t (by simp)
    have h3:Says ms (fe ms 7 [t] (ym ms 7 c)) _:=rU (hb zd) (uh ht)
    refine h3.congr λw=>?_
    rw[lg7]
    constructor
    ·rintro(⟨h,_⟩|hw)
     ·exact absurd h zd
     exact hw
    exact .inr
  ·match l,hn,hall with
   |[t],_,hall=>
    refine(oQ zd zd [t] hall _ _ (hb zd)).congr λw=>?_
    rw[lg8]
    constructor
    ·rintro(⟨_,hw⟩|hw)
     ·exact .inl hw
     rw[Qy,Qy]at hw
     exact .inr (hw.elim id False.elim)
    rintro(hw|hw)
    ·exact .inl ⟨zd,hw⟩
    exact .inr (by rw[Qy];exact .inl hw)
  obtain rfl:=LP hn
  unfold fe
  refine(hb zd).congr λw=>?_
  rw[Lg];simp
theorem uX(ms:List Int):∀(l:List Nd),eO l=true->∀t∈l,Says ms (gg ms t) (Lg t)
 |[],_,t,ht=>by cases ht
 |a::r,h,t,ht=>by
  unfold eO at h
  rw[L1]at h
  have h1:=qN ms a true h.1
  have h2:=uX ms r h.2
  rcases L7.1 ht with e|ht
  ·rw[e];exact h1
  exact h2 t ht
end
theorem oP(ms:List Int){t:Nd}(h:bp t=true):Says ms (gg ms t) (Lg t):=by
 unfold bp at h;rw[L1]at h;exact qN ms t false h.2
section
variable{α:Type}
def KR(n:Nat)(p q:Nat->α)(j:Nat):List α:=(NB n).map λt=>if t<j then p t else q t
theorem JR(n:Nat)(p q:Nat->α)(h:p j=q j):KR n p q j=KR n p q (j+1):=by
 unfold KR;refine List.map_congr_left λt _=>?_
 by_cases e:t=j
 ·subst e;rw[if_neg zo,if_pos zo,h]
 by_cases e2:t<j
 ·rw[if_pos e2,if_pos zo]
 rw[if_neg e2,if_neg zo]
end
def vX(li lk ids:List Int):Nat->List Int
 |0=>[36]
 |k+1=>if vT li lk ids k=true then vX li lk ids k else vX li lk ids k++[((bd (nth ids k):Nat):Int)]
theorem D5(li lk a0:List Int):∀k,(vX li lk a0 k).length<=k+1/\1<=(vX li lk a0 k).length
 |0=>⟨LU _,LU _⟩
 |k+1=>by
  obtain⟨h1,h2⟩:=D5 li lk a0 k;unfold vX
  split
  ·exact⟨zo,h2⟩
  rw[LV,L4];exact⟨zo,zo⟩
def atN(li lk a0:List Int)(i:Nat):Nat:=if vT li lk a0 i=true then 0 else(vX li lk a0 i).length
def rD(f:Tb)(a:Nat):Nat->Bool
 |0=>false
 |k+1=>rD f a k||f k a
theorem pD(f:Tb)(a:Nat):∀k,rD f a k=true↔∃m,m<k/\f m a=true
 |0=>by simp[rD]
 |k+1=>by
  unfold rD;rw[Mj,pD f a k]
  constructor
  ·rintro(⟨m,h1,h2⟩|h)
   ·exact⟨m,zo,h2⟩
   exact⟨k,zo,h⟩
  rintro⟨m,h1,h2⟩
  by_cases e:m=k
  ·subst e;exact .inr h2
  exact .inl ⟨m,zo,h2⟩
def mD(f:Tb)(a:Nat):Nat->Bool
 |0=>false
 |k+1=>mD f a k||f a (a+k)
theorem mU(f:Tb)(a:Nat):∀k,mD f a k=true↔∃m,m<k/\f a (a+m)=true
 |0=>by simp[mD]
 |k+1=>by
  unfold mD;rw[Mj,mU f a k]
  constructor
  ·rintro(⟨m,h1,h2⟩|h)
   ·exact⟨m,zo,h2⟩
   exact⟨k,zo,h⟩
  rintro⟨m,h1,h2⟩
  by_cases e:m=k
  ·subst e;exact .inr h2
  exact .inl ⟨m,zo,h2⟩
def GP(ms:List Int)(x:R3)(a:Nat):Bool:=rD (gg ms x.1) a (a+1)&&mD (gg ms x.2.1) a (ms.length+1-a)
def qZ(ms:List Int)(a:Nat):List R3->Nat->Int
 |[],_=>-1
 |x::l,r=>if GP ms x a=true then(r:Int)else qZ ms a l (r+1)
theorem jX(ms:List Int)(a:Nat):∀(l:List R3) (r:Nat),(qZ ms a l r = -1/\∀i,i<l.length->GP ms (nth l i) a=false)\/∃i,i<l.length/\qZ ms a l r=((r+i:Nat):Int)/\GP ms (nth l i) a=true/\∀j,j<i->GP ms (nth l j) a=false
 |[],r=>.inl ⟨rfl,λi hi=>absurd hi (M7 i)⟩
 |x::l,r=>by
  unfold qZ
  by_cases hx:GP ms x a=true
  ·rw[if_pos hx];exact .inr ⟨0,Nat.succ_pos _,rfl,by rw[ao];exact hx,λj hj=>absurd hj (M7 j)⟩
  rw[if_neg hx];have a0:GP ms x a=false:=by simpa using hx
  rcases jX ms a l (r+1)with⟨h1,h2⟩|⟨i,h1,h2,h3,h4⟩
  ·refine .inl ⟨h1,λi hi=>?_⟩
   cases i with
   |zero=>rw[ao];exact a0
   |succ i=>rw[aS];exact h2 i (by simpa using hi)
  refine .inr ⟨i+1,by simpa using h1,by rw[h2];congr 1;omega,by rw[aS];exact h3,λj hj=>?_⟩
  cases j with
  |zero=>rw[ao];exact a0
  |succ j=>rw[aS];exact h4 j zo
def gX(li lk a0:List Int)(ts:List R3)(r i:Nat):Int:=if vT li lk a0 i=true then -2 else qZ (vX li lk a0 a0.length) (atN li lk a0 i) (ts.drop r) r
def Dw(li lk a0:List Int)(ts:List R3)(i:Nat):Bool:=gX li lk a0 ts 0 i == -1||(decide (0<=gX li lk a0 ts 0 i)&&(nth ts (gX li lk a0 ts 0 i).toNat).2.2)
def tf(li lk a0:List Int)(ts:List R3):List Bool:=true::(NB (a0.length-1)).map (λi=>Dw li lk a0 ts (i+1))++if 0<a0.length then [true]else []
theorem yq{t:Nd}(h:bp t=true){a:Nat}(ha:a<=ms.length):rD (gg ms t) a (a+1)=true↔∃u v,ms.take a=u++v/\Lg t v:=by
 rw[pD];have hS:=oP ms h
 constructor
 ·rintro⟨m,h1,h2⟩;obtain⟨_,h3⟩:=(hS m a zo ha).1 h2;refine⟨ms.take m,seg ms m a,?_,h3⟩;have:=xk ms (LO m) (show m<=a by omega);simpa[seg]using this
 rintro⟨u,v,e,h3⟩;have hl:=congrArg MI e;rw[Np,LV]at hl;have e0:seg ms 0 a=u++v:=by simpa[seg]using e
 obtain⟨s1,s2,s3⟩:=ug (LO a) ha e0;rw[No]at s1 s3;exact⟨u.length,zo,(hS _ a zo ha).2 ⟨s1,s3▸h3⟩⟩
theorem vF{t:Nd}(h:bp t=true){a:Nat}(ha:a<=ms.length):mD (gg ms t) a (ms.length+1-a)=true↔∃u v,ms.drop a=u++v/\Lg t u:=by
 rw[mU];have hS:=oP ms h
 constructor
 ·rintro⟨m,h1,h2⟩;obtain⟨_,h3⟩:=(hS a (a+m) ha zo).1 h2;refine⟨seg ms a (a+m),ms.drop (a+m),?_,h3⟩;unfold seg;rw[show a+m-a=m from by omega,<-NC,Mn]
 rintro⟨u,v,e,h3⟩;have hl:=congrArg MI e;rw[List.length_drop,LV]at hl;refine⟨u.length,zo,(hS a _ ha zo).2 ⟨zo,?_⟩⟩;unfold seg;rw[show a+u.length-a=u.length from by omega,e,Nv]
 ·exact h3
 rfl
theorem vw{ts:List R3}(hr:∀t∈ts,bp t.1=true/\bp t.2.1=true){a:Nat}(ha:a<=ms.length){after:List Nat}(hb:ints a0=ms.take a)(hf:ints after=ms.drop a):FirstR ts a0 after (qZ ms a ts 0):=by
 have a1:∀i,ko ts a0 after i↔i<ts.length/\GP ms (nth ts i) a=true:=λi=>by
  unfold ko;refine and_congr_right λhi=>?_
  obtain⟨r1,r2⟩:=hr _ (aW hi);unfold GP;rw[L1,yq r1 ha,vF r2 ha,hb,hf,dU hi,dU hi]
 rcases jX ms a ts 0 with⟨h1,h2⟩|⟨i,h1,h2,h3,h4⟩
 ·refine .inl ⟨h1,λi hi=>?_⟩;obtain⟨k1,k2⟩:=(a1 i).1 hi;rw[h2 i k1]at k2;cases k2
 refine .inr ⟨i,by rw[h2,No],(a1 i).2 ⟨h1,h3⟩,λj hj hA=>?_⟩;have:=((a1 j).1 hA).2;rw[h4 j hj]at this;cases this
theorem yU(h:∀c∈l,0<=c/\c<=35)(c:Nat):(dr l).testBit c=decide ((c:Int)∈l):=by
 have a0:∀(l:List Int),(∀c∈l,0<=c/\c<=35)->∀b:Nat,(l.foldl (λb c=>b ||| 2^c.toNat) b).testBit c=(b.testBit c||decide ((c:Int)∈l)):=by
  intro l
  induction l with
  |nil=>intro _ b;simp
  |cons x r ih=>
   intro hl b;have hx:=hl x (by simp);rw[PB,ih (λy hy=>hl y (by simp[hy])),NG,Pa,Bool.or_assoc];congr 1;rw[PD,Mj,decide_eq_true_eq,decide_eq_true_eq,decide_eq_true_eq,L7];apply or_congr_left;omega
 have:=a0 l h 0;simpa[dr]using this
theorem sN(t:TabM)(li lk a0:List Int)(a2:∀c:Nat,t.ig.testBit c=decide ((c:Int)∈li))(a1:∀c:Nat,t.kp.testBit c=decide ((c:Int)∈lk)):∀(r:List Int) (k:Nat),r=a0.drop (k+1)->∀j,j<r.length->nth (qT t (bd (nth a0 k),vT li lk a0 k) r) j=(bd (nth a0 (k+1+j)),vT li lk a0 (k+1+j))
 |[],_,_,j,hj=>absurd hj (M7 j)
 |c::r,k,e,j,hj=>by
  have hk:k+1<a0.length:=by
   refine Nr λhn=>?_
   rw[List.drop_of_length_le zo]at e;cases e
  rw[Mh hk,<-aB hk]at e;obtain⟨rfl,e2⟩:=Qt e;have hh:(t.ig.testBit (bd (nth a0 (k+1)))&&(vT li lk a0 k || !(t.kp.testBit (bd (nth a0 k)))))=vT li lk a0 (k+1):=by rw[a2,a1,vT]
  unfold qT;dsimp only;rw[hh]
  cases j with
  |zero=>rw[ao,Nat.add_zero]
  |succ j=>
   rw[aS,sN t li lk a0 a2 a1 r (k+1) e2 j (by simpa using hj),show k+1+(j+1)=k+1+1+j from by omega]
theorem vW(t:TabM)(li lk:List Int)(c:Int)(r:List Int)(a1:∀c:Nat,t.ig.testBit c=decide ((c:Int)∈li))(a0:∀c:Nat,t.kp.testBit c=decide ((c:Int)∈lk)):∀n,n<=r.length->vX li lk (c::r) (n+1)=ints ([36,bd c]++fT ((qT t (bd c,false) r).take n))
 |0,_=>by
  unfold vX vX;rw[PH,if_neg (by rw[vT];simp),ao];rfl
 |n+1,hn=>by
  have hL:=nR t r (bd c,false);have hx:=sN t li lk (c::r) a1 a0 r 0 rfl n hn;rw[ao,show vT li lk (c::r) 0=false from rfl,show 0+1+n=n+1 from by omega]at hx;rw[vX,vW t li lk c r a1 a0 n zo,aY zo,hx,rL,<-Mf];generalize [36,bd c]++fT ((qT t (bd c,false) r).take n)=X
  cases vT li lk (c::r) (n+1)with
  |true=>
   show ints X=ints (X++[]);rw[LQ]
  |false=>
   show ints X++[((bd (nth (c::r) (n+1)):Nat):Int)]=ints (X++[bd (nth (c::r) (n+1))]);unfold ints;rw[MK];rfl
section
variable{li lk:List Int}{ts:List R3}{a b:List (List Nat)×List Nat}{clA clB:Nat→Nat}
theorem Made.ig(h:Made li lk ts a b clA clB)(c:Nat):(cy li lk ts a b clA clB).ig.testBit c=decide ((c:Int)∈li):=yU (eA h.rt).2.1 c
theorem Made.kp(h:Made li lk ts a b clA clB)(c:Nat):(cy li lk ts a b clA clB).kp.testBit c=decide ((c:Int)∈lk):=yU (eA h.rt).2.2.1 c
theorem Made.row(h:Made li lk ts a b clA clB)(c:Int):stL (cy li lk ts a b clA clB) (stL (cy li lk ts a b clA clB) 0 36) (bd c)=jO (bh clA a.1 a.2).1 [36,bd c] 0:=by
 have h0:=(h.left [] (λm hm=>by cases hm)).1;have h1:=(h.left [36] (λm hm=>by rw[ln.1 hm];decide)).1;rw[h.inv.left 0 36 h0 zd];have hc:=iD c;exact h.inv.left _ _ h1 zo
theorem tM(hr:∀t∈ts,bp t.1=true/\bp t.2.1=true)(t:TabM)(c:Int)(r:List Int)(a1:∀c:Nat,t.ig.testBit c=decide ((c:Int)∈li))(a0:∀c:Nat,t.kp.testBit c=decide ((c:Int)∈lk))(hn:n<r.length)(hh:vT li lk (c::r) (n+1)=false):
  FirstR ts ([36,bd c]++fT ((qT t (bd c,false) r).take n)) (fT ((qT t (bd c,false) r).drop n)) (gX li lk (c::r) ts 0 (n+1)):=by
 have hL:=nR t r (bd c,false);have hw:=vW t li lk c r a1 a0 n zo;have hN:=vW t li lk c r a1 a0 r.length (LU _);rw[NS zo]at hN;have a2:fT (qT t (bd c,false) r)=fT ((qT t (bd c,false) r).take n)++fT ((qT t (bd c,false) r).drop n):=by rw[<-rL,Mn]
 have hA:atN li lk (c::r) (n+1)=(vX li lk (c::r) (n+1)).length:=by unfold atN;rw[hh];rfl
 have e0:vX li lk (c::r) (c::r).length=vX li lk (c::r) (n+1)++ints (fT ((qT t (bd c,false) r).drop n)):=by
  rw[hw,LW,hN,a2,<-Mf];unfold ints;rw[MK]
 unfold gX;rw[hh,if_neg zd,PK,hA,e0];refine vw hr (by rw[LV];omega) ?_ ?_
 ·rw[Nv rfl,hw]
 rw[List.drop_left' rfl]
theorem Ba(li lk a0:List Int)(ts:List R3)(i:Nat):Dw li lk a0 ts i=if vT li lk a0 i=true then false else brk ts (gX li lk a0 ts 0 i):=by
 unfold Dw brk
 split
 ·rename_i hh;have:gX li lk a0 ts 0 i = -2:=by unfold gX;rw[if_pos hh]
  rw[this];rfl
 rename_i hh;have hk : -1<=gX li lk a0 ts 0 i:=by
  unfold gX;rw[if_neg hh]
  rcases jX (vX li lk a0 a0.length) (atN li lk a0 i) (ts.drop 0) 0 with⟨h1,_⟩|⟨_,_,h1,_⟩<;>rw[h1]<;>omega
 generalize gX li lk a0 ts 0 i=k at *
 by_cases e:k = -1
 ·subst e;rfl
 rw[decide_eq_false (show¬k<0 by omega),decide_eq_true (show 0<=k by omega),NK,NJ,show(k == -1)=false from by simpa using e,NK]
theorem Made.rules2(h:Made li lk ts a b clA clB):∀t∈ts,bp t.1=true/\bp t.2.1=true:=λt ht=>⟨(h.rules t ht).1,(h.rules t ht).2.1⟩
theorem Made.breaks(h:Made li lk ts a b clA clB)(a0:List Int)(hn:a0.length<=100000):th (cy li lk ts a b clA clB) a0=tf li lk a0 ts:=by
 cases a0 with
 |nil=>rfl
 |cons c r=>
  obtain⟨p1,p2⟩:=uC (cy li lk ts a b clA clB) c r;unfold th tf;rw[p1,p2,h.row,LW,Pi];congr 2;have hL:=nR (cy li lk ts a b clA clB) r (bd c,false);have a1:∀m∈[36,bd c],m<37:=λm hm=>by
   have:=iD c;simp only[L7,LZ,or_false]at hm;omega
  refine Nq (by rw[mA,hL];simp) λi h1 h2=>?_
  have hi:i<r.length:=by simpa using h2
  rw[<-aB h1,Pp,Pb];obtain⟨k,k1,k2⟩:=h.closeL (qT (cy li lk ts a b clA clB) (bd c,false) r) [36,bd c] a1 (C2 _ _ _) (by rw[hL];simp at hn;omega) i zo;have hx:=sN (cy li lk ts a b clA clB) li lk (c::r) h.ig h.kp r 0 rfl i hi;rw[ao,show vT li lk (c::r) 0=false from rfl,show 0+1+i=i+1 from by omega]at hx;rw[k2,hx,Ba]
  cases hh:vT li lk (c::r) (i+1)with
  |true=>rfl
  |false=>
   have:=tM h.rules2 _ c r h.ig h.kp hi hh;rw[this.uniq k1];rfl
end
end Go.Proofs.YteolbhblkgjbhaaGreatDoor
