/- Texts that the proof of this statement needs, merged and shortened. -/
import Derived.Test.YteolbhblkgjbhaaGreatDoorRows
import Derived.Test.YteolbhblkgjbhaaGreatDoorCards
import Derived.Test.YteolbhblkgjbhaaGreatDoorTie
import Derived.SevenTiedAt
import Derived.LaidMore
import Derived.LaidHandle
import Derived.LaidLaws
import Derived.Lay
import Derived.Lib.LaidTab
import Derived.Calls
import Derived.Tactics
import Derived.Deep.Quiet
import Derived.Below
import Derived.OwnWalk
import Derived.IntWalk
import Derived.Deep.LoopGhost
import Derived.Great.BuildSlice
import Derived.OrdersHeld
import Derived.StillTail
import Derived.WalkKit
import Derived.ProofKit
import Derived.OpenShut
import Derived.ShutString
import Derived.ChangeOld
import Derived.Deep.Matrix
import Derived.Deep.Slices
import Derived.Laws.Strings3
import Derived.Laws.Concat
import Derived.Laws.Slices
import Derived.Laws.Cover3
import Derived.Laws.Pointers
import Derived.Laws.OwnMore
import Derived.Laws.IdiomStrings
import Derived.Laws.BytesArg
import Derived.RangeFuncLeaves
import Derived.RangeFuncCalls
import Derived.RangeFuncSeq
import Derived.TacticsIn
import Derived.Laws.LoneSync
import Derived.Laws.CopyRow
import Derived.Lib.Builder
import Derived.Lib.AppendStr
import Derived.Lib.UnsafeStr
import Derived.Shelf.Sort.Plain
import Derived.Shelf.Slices.In.SortNone
import Derived.Ground.Names2Prog
import Derived.Shelf.Slices.CompactI
import Derived.Test.YteolbhblkgjbhaaGreatDoorProg
import Derived.Sort.OwnSortedInts
import Derived.Maps.RangeRun
import Derived.ChangeKeysEq
import Derived.Lib.SliceRun
import Derived.Test.YteolbhblkgjbhaaGreatDoorChecked
import Derived.Laws.RangeString
import Derived.Scope
import Derived.Shelf.Spec.TrailingZeros
import Derived.ArgAppend
import Derived.Deep.Upon
open Go renaming Value->ix,World->ln,TypeId->L0,Operand->L4,Program->L5,IntKind->LW,Oper->LY,MapEntry->M9,Exit->Md,sizeOf->Mj,Addr->Mx,Act->MB,zeroValue->MK,Deferred->MO,Edge->MR,FuncId->N2,Code->N6,isAgg->PF,Func->QR,Calls->QY,Tmp->Rj,builtin->Rl,Field->RE,BinOp->RF
open Go.Result renaming andThen_ok->L1,ok->QZ
open Go.Sem renaming run_bind->L2,run_pure->LQ,run->MX
open Nat renaming blt->L3,eq_of_beq_eq_true->LP,lt_of_lt_of_le->M6,le_refl->M8,zero_add->Mg,beq->Mh,not_lt_zero->My,zero_le->MA,le_trans->MN,add_mul->MY,zero_mul->N1,le_of_ble_eq_true->N8,mul_one->Nx,min_eq_left->NM,add_assoc->P4,sub_self->PI,ble->PJ,add_zero->PK,add_comm->PL,pos_of_ne_zero->Qi,zero_testBit->Qu,testBit_or->QG,sub_zero->R0,one_mul->R7
open List renaming map_toArray->L6,map_cons->L9,eq_nil_of_length_eq_zero->LO,mem_singleton->LU,map_nil->M5,getElem?_eq_some_iff->M7,mem_append->Mb,cons_append->Me,replicate->Mi,flatMap_cons->Mk,append_assoc->Ml,append_nil->Mo,length_append->Ms,getD_eq_getElem?_getD->Mt,findIdx?_cons->Mu,mem_map->Mz,getElem?_eq_getElem->MC,range->MH,take_append_drop->MS,length_cons->MU,nil_append->MV,map_append->MW,take_succ_eq_append_getElem->N0,eraseIdx_eq_take_drop_succ->N4,getElem_mem->N9,length_nil->Nh,mem_range->Nr,nodup_append->Ns,getElem?_map->Nu,take->NC,any_eq_true->ND,mem_filter->NI,length_map->NJ,foldl_cons->NK,getElem?_eq_none->NN,dropWhile_suffix->NO,map->NR,getElem?_modify->NS,filter_eq_self->NY,findIdx?_eq_some_iff_getElem->P6,size_toArray->P9,ext_getElem?->Pa,mem_flatMap->Pe,take_append_of_le_length->Pf,length_set->Pj,take_take->Pp,pairwise_iff_getElem->Pq,sum_cons->Pu,map_take->Pv,findIdx?->Pw,filter_cons_of_neg->Py,take_of_length_le->PA,getElem_cons_zero->PB,drop_eq_nil_of_le->PC,length_filter_le->PM,eraseIdx_sublist->PN,mem_append_left->PQ,length->PS,take_set_of_le->Q0,replicate_succ->Q2,getElem_of_mem->Q3,set_cons_succ->Qb,find?_eq_none->Qc,suffix_cons->Qo,getElem_map->Qp,all_eq_true->Qq,nodup_cons->Qv,take_zero->QB,take_left->QC,take_set->QH,mem_cons->QJ,map_drop->QK,any_cons->QL,all_cons->QM
open Go.Proofs.Tryz renaming prog->L7,sizeOf3->Ma,sizeOf22->MM,underlying31->Na,sizeOf4->Nb,underlying327->Nj,underlying151->Nk,underlying140->Nl,underlying111->Nm,underlying278->NF,underlying250->NG,underlying114->NH,underlying26->NT,sizeOf9->Pl,sizeOf96->PD,sizeOf24->PE,underlying287->PT,underlying283->PU,underlying280->PV,underlying237->PW,underlying122->PX,underlying120->PY,sizeOf130->Q6,sizeOf120->Q7,underlying98->Qd,underlying96->Qe,underlying56->Qf,underlying45->Qg,underlying22->Qh,sizeOf27->R8,underlying248->Ra,underlying240->Rb,underlying225->Re,underlying197->Rf,underlying185->Rg,underlying170->Rh,underlying138->Ri,underlying77->Rm,underlying75->Rn,underlying29->Ro,isAgg22->Rp,zeroValue22->Ry,underlying4->Rz,underlying3->RA,underlying0->RB,zeroValue4->RG,zeroValue3->RH,zeroValue0->RI,isAgg4->RJ,isAgg3->RM
open Array renaming getD_eq_getD_getElem?->L8,getElem?_modify->Mw,getElem?_setIfInBounds->MP,toList_setIfInBounds->Nq,toList_modify->NV,length_toList->NW,toList_push->P7,replicate->Ph,ext_getElem?->Q5
open Classical renaming byContradiction->LV
open Go.Region renaming ready->LX,noSelect->M0,wanted->M4,free->Mf
open Bool renaming and_eq_true->LZ,false_eq_true->P5,false_or->Px,eq_iff_iff->Qy,or_assoc->QT
open Option renaming map_some->M1,map_none->MG,bind_some->Nw,bind_none->P8,map->Pi,getD_some->Q9
open Go.Addr renaming add->Mc
open Go.Fence renaming wide->Mm
open Go.Calls renaming mono->Mn
open Int renaming toNat_natCast->Mp,le_refl->Pk
open Go.Instr renaming sureAddr->Mq,keyThatStays->Mr,findNow->MQ,checkKey->MZ,mapUpdate->Ng,fill->No,storeAt->Nv,entryStore->NA,sameBits->NQ,findKey->NZ,findAsking->Pb,mapEntry->Pn,sameNow->Pr,indexAt->Ps,lookup->QN,loadAt->QO,build->QW
open List.cons renaming injEq->Mv
open Go.Deferred renaming ofValue->MD
open Go.Value renaming oneCell'->ME,int->N5,ownBlock->Nn,cells->Pd,bool->PZ,string->QE
open Go.Act renaming eval->MF,put->Ny
open Go.Lib renaming compact->MI,compactUpTo->Ni,keeps->Qw
open Go.Exit renaming inBlock->MJ
open Go.Oper renaming wp->MT,upon->NB,uponIn->PP,still->R6
open Go.World renaming setCell->N7,block_lt_of_cell?->Nz,frozen?->NX,setCells->Qs,cell?->QU
open Go.Builtin renaming append_->Nc,firstCells->NU,zeroCells->P3,delete_->Pc,lenOf->Po,clear_->Qk,len_->Qx
open Go.RowKit.Below renaming heap_setCell->Nf,refl->R4,heap_alloc->R5
open Function renaming comp_def->Np
open Go.IntKind renaming signed->NL,bits->P2,max->Pz,wrap->RW
open Option.some renaming injEq->NP,inj->R9
open Go.Op renaming intCmp->P1,intArith->Qa,equalIn->Qn,intBits->Rk,shift->RC,equal->RD
open Go.Code renaming region->Pg
open Prod.mk renaming injEq->Pm
open UInt8 renaming ofNat->PH,toNat->QV
open Prod renaming fst->PO
open Go.DataW renaming trod->Q4
open Go.Sort renaming ahead->Q8
open Go.CallsDIn renaming mono->Qj
open Go.Rows renaming mono->Ql
open Go.Shelf renaming Ren->Qr
open Go.Program renaming elem->Qt
open Std.Legacy.Range renaming size->Qz,forIn_eq_forIn_range'->QA
open BitVec renaming ofInt->QD
open Go.Proofs.Lays2 renaming n20->QQ
open Go.Conv renaming intToInt->QS
open Go.Proofs.Lays renaming n189->QX
open Go.ByteArray renaming toList_mk->Rq,extract_mk->Rv
open ByteArray renaming toList->Rr,size->Rs,getElem_eq_getElem_data->Ru,ext->Rw,data_append->Rx
open Go.StepsIn renaming trans->RN
open Go.Machine renaming fenced->RO
open Go.IntWalk renaming u8_in->RR,i64_in->RU
open Go.CallsIn renaming mono->RX
variable {α β κ ν:Type}{I:(Nat->Nat)->ln->Prop}{b b' se:Bool}{m:Int}{E T t ty xt yt:L0}{c x y:L4}{P:L5}{k k':LW}{o:LY}{s:List Int}{L:List Int->Prop}{args:List L4}{tl:List LY}{es:List M9}{ds:List MO}{cs us vs:List ix}{K:MB->ln->Prop}{Q Q':Md->MB->ln->Prop}{q:Mx}{f:N2}{Ix:N6->(Nat->Nat)->ln->Prop}{B N a a0 bytes d e i id j n r sz tA tB:Nat}{R:Nat->List Int->Prop}{O O' O2:Nat->Nat}{S:Nat->Prop}{g:Option (Nat×Bool)}{ro:Option Nat}{A:Prop}{op:RF}{sv u v v' xv z:ix}{R':ix->ln->Prop}{w w' w0:ln}{l xs:List α}{p:α->Bool}{enc:α->List ix}{μ:α->Nat}
namespace Go.VL
theorem zo(h:A:=by omega):A:=h
theorem zd(h:A:=by decide):A:=h
theorem zk(h:A:=by kernel_rfl):A:=h
theorem dT{p q:Prop}[Decidable p](h:decide p=true)(k:p→q:=by intro h;omega):q:=k (of_decide_eq_true h)
theorem dF{p q:Prop}[Decidable p](h:decide p=false)(k:¬p→q:=by intro h;omega):q:=k (of_decide_eq_false h)
abbrev nI(n:Int):ix:=.int .i64 n
abbrev nP(b:Nat):ix:=.pointer (some ⟨b,0,none⟩)
abbrev nA(b k:Nat):Mx:=(⟨b,0,none⟩:Mx).add k
abbrev nS:ix:=.slice none 0 0
end Go.VL
section
namespace Go.VL
abbrev St:=List (Nat×ix)
def cO:St->Nat->Option ix
 |[],_=>none
 |(k,v)::r,t=>bif Mh k t then some v else cO r t
structure Fits(N:Nat)(a:MB)(st:St):Prop where
 size:a.tmps.size=N
 defers:a.defers=[]
 get:∀t v,cO st t=some v->a.tmps[t]? = some v
def ev(st:St):L4->Option ix
 |.tmp t=>cO st t
 |.const v=>some v
 |.global g=>some (nP g)
 |.func f=>some (.func (.func f) #[] #[])
def Cov(st:St):St->Prop
 |[]=>True
 |(t,v)::r=>cO st t=some v/\Cov st r
theorem Fits.ev{N:Nat}{a:MB}{st:St}(h:Fits N a st){x:L4}{v:ix}(he:ev st x=some v):a.eval x=v:=by
 cases x with
 |tmp t=>
  have:=h.get t v he;simp[MF,L8,this]
 |const u=>simpa[VL.ev,MF]using he
 |global g=>simpa[VL.ev,MF]using he
 |func f=>simpa[VL.ev,MF]using he
theorem Fits.cov{a:MB}{st:St}(h:Fits N a st):∀ {a0:St},Cov st a0->Fits N a a0:=by
 intro a0 hc;refine⟨h.size,h.defers,?_⟩
 induction a0 with
 |nil=>intro t v hv;simp[cO]at hv
 |cons p r ih=>
  obtain⟨k,u⟩:=p;obtain⟨h1,h2⟩:=hc;intro t v hv;simp only[cO]at hv
  cases hb:Mh k t with
  |true=>
   rw[hb]at hv;have:k=t:=LP hb;simp at hv;subst this;subst hv;exact h.get _ _ h1
  |false=>rw[hb]at hv;exact ih h2 t v hv
theorem Fits.put{N:Nat}{a:MB}{st:St}(h:Fits N a st){d:Nat}(hd:L3 d N=true)(v:ix):Fits N (a.put (some d) v) ((d,v)::st):=by
 have a0:d<a.tmps.size:=by rw[h.size];exact N8 hd
 refine⟨by simp[Ny,h.size],h.defers,?_⟩;intro t u hu;simp only[cO]at hu;simp only[Ny,MP]
 cases hb:Mh d t with
 |true=>
  have:d=t:=LP hb;rw[hb]at hu;simp at hu;subst this;subst hu;simp[a0]
 |false=>
  have:d≠t:=λe=>by rw[e]at hb;simp at hb
  rw[hb]at hu;rw[if_neg this];exact h.get t u hu
section
variable(P:L5)(N:Nat)
def WL(ops:Array LY)(Q:Md->MB->ln->Prop)(l:List LY)(st:St)(w:ln):Prop:=∀a,Fits N a st->wpList P ops Q l a w
def WC(c:N6)(Q:Md->MB->ln->Prop)(st:St)(w:ln):Prop:=∀a,Fits N a st->c.wp P Q a w
def QF(Q:Md->MB->ln->Prop)(e:Md)(st:St)(w:ln):Prop:=∀a,Fits N a st->Q e a w
end
section
variable{P:L5}{N:Nat}{ops:Array LY}{Q:Md→MB→ln→Prop}{rest:List LY}{st:St}{w:ln}
theorem WC.region{l:List LY}(h:WL P N l.toArray Q l st w):WC P N (Pg id l.toArray false) Q st w:=λa ha=>wp_region_lit (h a ha)
theorem WL.nil(h:QF N Q .normal st w):WL P N ops Q [] st w:=h
theorem WC.seq{x y:N6}(h:WC P N x (Exit.then (y.wp P Q) Q) st w):WC P N (.seq x y) Q st w:=λa ha=>wp_seq (h a ha)
theorem WC.skip(h:QF N Q .normal st w):WC P N .skip Q st w:=λa ha=>wp_skip (h a ha)
theorem WC.exit{id:Nat}(h:QF N Q (.exit id) st w):WC P N (.exit id) Q st w:=λa ha=>wp_exit (h a ha)
theorem WC.ret(h:QF N Q .ret st w):WC P N .ret Q st w:=λa ha=>wp_ret (h a ha)
theorem WC.block{id:Nat}{c:N6}(h:WC P N c (MJ id Q) st w):WC P N (.block id c) Q st w:=λa ha=>wp_block (h a ha)
theorem WC.cond{c:L4}{x y:N6}{b:Bool}(hc:ev st c=some (.bool b))(ht:b=true->WC P N x Q st w)(hf:b=false->WC P N y Q st w):WC P N (.cond c x y) Q st w:=
 λa ha=>wp_cond_split (ha.ev hc) (λe=>ht e a ha) (λe=>hf e a ha)
theorem DL{x y:N6}(hc:ev st c=some (.bool true))(ht:WC P N x Q st w):WC P N (.cond c x y) Q st w:=
 λa ha=>wp_cond_true (ha.ev hc) (ht a ha)
theorem DM{x y:N6}(hc:ev st c=some (.bool false))(hf:WC P N y Q st w):WC P N (.cond c x y) Q st w:=
 λa ha=>wp_cond_false (ha.ev hc) (hf a ha)
theorem ah{y:N6}(h:WC P N y Q st w):QF N (Exit.then (y.wp P Q) Q') .normal st w:=h
theorem aO(h:QF N Q (.exit id) st w):QF N (Exit.then K Q) (.exit id) st w:=h
theorem cA(h:QF N Q .ret st w):QF N (Exit.then K Q) .ret st w:=h
theorem aE(h:QF N Q .normal st w):QF N (MJ id Q) .normal st w:=h
theorem gS(h:QF N Q .ret st w):QF N (MJ id Q) .ret st w:=h
theorem bC(h:QF N Q .normal st w):QF N (MJ id Q) (.exit id) st w:=λa ha=>by
 show if id=id then _ else _
 rw[if_pos rfl];exact h a ha
theorem nc(a1:Mh a0 id=false)(h:QF N Q (.exit a0) st w):QF N (MJ id Q) (.exit a0) st w:=λa ha=>by
 show if a0=id then _ else _
 rw[if_neg (λe=>by rw[e]at a1;simp at a1)];exact h a ha
theorem au{l:List LY}(hs:cO st d=some (.bool b))(hb:b=b')(h:WL P N ops Q l ((d,.bool b')::st) w):WL P N ops Q l st w:=by
 subst hb;refine λa ha=>h a ⟨ha.size,ha.defers,λt v hv=>?_⟩
 simp only[cO]at hv
 cases hb:Mh d t with
 |true=>rw[hb]at hv;have:=LP hb;subst this;simp at hv;subst hv;exact ha.get _ _ hs
 |false=>rw[hb]at hv;exact ha.get _ _ hv
theorem aP{x y:N6}(hc:ev st c=some (.bool b))(hb:b=true)(ht:WC P N x Q st w):WC P N (.cond c x y) Q st w:=by
 subst hb;exact DL hc ht
theorem aI{x y:N6}(hc:ev st c=some (.bool b))(hb:b=false)(hf:WC P N y Q st w):WC P N (.cond c x y) Q st w:=by
 subst hb;exact DM hc hf
theorem QF.weaken{e:Md}{a0:St}(hc:Cov st a0)(h:QF N Q e a0 w):QF N Q e st w:=λa ha=>h a (ha.cov hc)
theorem WC.loop{α:Type}{c:N6}(f:α->St)(g:α->ln)(I:α->Prop)(μ:α->Nat)(x0:α)(h0:I x0)(hc:Cov st (f x0))(hw:g x0=w)
  (a0:∀x,I x->WC P N c (Exit.then (λa' w'=>∃y,I y/\μ y<μ x/\Fits N a' (f y)/\g y=w') Q) (f x) (g x)):WC P N (.loop c) Q st w:=by
 intro a ha;apply wp_loop_ghost (λn a w=>∃y,I y/\μ y=n/\Fits N a (f y)/\g y=w) (μ x0) ⟨x0,h0,rfl,ha.cov hc,hw⟩;rintro n a w ⟨x,hI,rfl,hf,rfl⟩;apply wp_mono (a0 x hI a hf);intro e a' w' hq
 cases e with
 |normal=>obtain⟨y,h1,h2,h3,h4⟩:=hq;exact⟨μ y,h2,y,h1,rfl,h3,h4⟩
 |_=>exact hq
theorem QF.next{f:α->St}{g:α->ln}{I:α->Prop}{m:Nat}(y:α)(h1:I y)(h2:μ y<m)(h3:Cov st (f y))(h4:g y=w):
 QF N (Exit.then (λa' w'=>∃y,I y/\μ y<m/\Fits N a' (f y)/\g y=w') Q) .normal st w:=λ_ ha=>⟨y,h1,h2,ha.cov h3,h4⟩
theorem cZ(h:o.guard=none)(y:Nat->Option Bool):M4 o y=true:=by simp[M4,h]
theorem WL.step(hg:o.guard=none)(h:∀a,Fits N a st->o.wp P a w (wpList P ops Q rest) Q):WL P N ops Q (o::rest) st w:=by
 intro a ha;unfold wpList;rw[if_pos (cZ hg _)];exact .inl (h a ha)
theorem WL.val{op:Op}{p:String}{e:Array MR}(hd:L3 d N=true)
  (a0:∀a:MB,Fits N a st->(execOp a.eval ⟨some d,op,t,p,e,none⟩).run P w=.ok (.value v) w')
  (h:WL P N ops Q rest ((d,v)::st) w'):WL P N ops Q (⟨some d,op,t,p,e,none⟩::rest) st w:=by
 refine WL.step rfl λa ha=>?_
 unfold MT;rw[a0 a ha];exact h _ (ha.put hd v)
theorem iK{op:Op}{p:String}{e:Array MR}
  (a0:∀a:MB,Fits N a st->(execOp a.eval ⟨none,op,t,p,e,none⟩).run P w=.ok .skip w')
  (h:WL P N ops Q rest st w'):WL P N ops Q (⟨none,op,t,p,e,none⟩::rest) st w:=by
 refine WL.step rfl λa ha=>?_
 unfold MT;rw[a0 a ha];exact h _ ha
def said(ops:Array LY)(st:St)(j:Nat):Option Bool:=
 match (ops[j]?).bind (·.dst)with
 |some d=>match cO st d with
  |some (.bool b)=>some b
  |_=>none
 |none=>none
theorem cH{a:MB}(ha:Fits N a st)(h:said ops st j=some b):yielded ops a.tmps j=some b:=by
 unfold said at h;unfold yielded
 cases hd:(ops[j]?).bind (·.dst)with
 |none=>rw[hd]at h;simp at h
 |some d=>
  rw[hd]at h;simp only at h
  cases hs:cO st d with
  |none=>rw[hs]at h;simp at h
  |some v=>
   rw[hs]at h
   cases v<;>simp at h
   subst h;simp[ha.get _ _ hs]
theorem aH{op:Op}{p:String}{e:Array MR}{d:Option Rj}(hs:said ops st j=some b)
  (h:WL P N ops Q (⟨d,op,t,p,e,none⟩::rest) st w):WL P N ops Q (⟨d,op,t,p,e,some (j,b)⟩::rest) st w:=by
 intro a ha;have h1:=h a ha;unfold wpList at h1 ⊢;rw[if_pos (by simp[M4])]at h1;rw[if_pos (by simp[M4,cH ha hs])];exact h1
theorem WL.off{op:Op}{p:String}{e:Array MR}(hs:said ops st j=some b')(a0:(b'==b)=false)(hd:L3 d N=true)
  (h:WL P N ops Q rest ((d,undef)::st) w):WL P N ops Q (⟨some d,op,t,p,e,some (j,b)⟩::rest) st w:=by
 intro a ha;unfold wpList;rw[if_neg (by simp[M4,cH ha hs];simpa using a0)];exact h _ (ha.put hd undef)
def jN(ops:Array LY)(st:St)(j:Nat):Bool:=
 match (ops[j]?).bind (·.dst)with
 |some d=>match cO st d with
  |some (.tuple _)=>true
  |_=>false
 |none=>false
theorem bQ{op:Op}{p:String}{e:Array MR}(hs:jN ops st j=true)(hd:L3 d N=true)
  (h:WL P N ops Q rest ((d,undef)::st) w):WL P N ops Q (⟨some d,op,t,p,e,some (j,b)⟩::rest) st w:=by
 intro a ha;unfold wpList;rw[if_neg ?_]
 ·exact h _ (ha.put hd undef)
 unfold jN at hs;simp only[M4,yielded]
 cases hd:(ops[j]?).bind (·.dst)with
 |none=>rw[hd]at hs;simp at hs
 |some d=>
  rw[hd]at hs;simp only at hs
  cases hx:cO st d with
  |none=>rw[hx]at hs;simp at hs
  |some v=>
   rw[hx]at hs
   cases v<;>simp at hs
   simp[ha.get _ _ hx]
def RV(P:L5)(N:Nat)(op:Op)(t:L0)(st:St)(w:ln)(v:ix):Prop:=
 ∀a:MB,Fits N a st->∀(dst:Option Rj) (p:String) (e:Array MR) (g:Option (Nat×Bool)),(execOp a.eval ⟨dst,op,t,p,e,g⟩).run P w=.ok (.value v) w
theorem mW{op:Op}{p:String}{e:Array MR}(hv:RV P N op t st w v)(hd:L3 d N=true)
 (h:WL P N ops Q rest ((d,v)::st) w):WL P N ops Q (⟨some d,op,t,p,e,none⟩::rest) st w:=WL.val hd (λa ha=>hv a ha _ _ _ _) h
section
variable{t:L0}{p:String}{e:Array MR}{d:Nat}{x y z:L4}
theorem RV.move{v:ix}(hx:ev st x=some v):RV P N (.move x) t st w (v):=
 λa ha a0 p e g=>by simp only[execOp,ha.ev hx];rfl
theorem RV.assign{v:ix}(hx:ev st x=some v):RV P N (.assign x) t st w (v):=
 λa ha a0 p e g=>by simp only[execOp,ha.ev hx];rfl
theorem iX{a:MB}{a0:Option Rj}(hx:a.eval x=.bool b):(execOp a.eval ⟨a0,.pick x y z,t,p,e,g⟩).run P w=.ok (.value (bif b then a.eval y else a.eval z)) w:=by
 simp only[execOp,hx];cases b<;>rfl
theorem aG(hc:ev st x=some (.bool false))(hz:ev st z=some u):RV P N (.pick x y z) t st w (u):=
 λa ha a0 p e g=>by rw[iX (ha.ev hc),ha.ev hz];rfl
theorem aV(hc:ev st x=some (.bool true))(hy:ev st y=some v):RV P N (.pick x y z) t st w (v):=
 λa ha a0 p e g=>by rw[iX (ha.ev hc),ha.ev hy];rfl
theorem aq(hx:ev st x=some (.pointer (some q))):RV P N (.nilCheck x) t st w (.pointer (some q)):=
 λa ha a0 p e g=>by simp only[execOp,ha.ev hx];rfl
section
variable{k:LW}{m n:Int}{xt yt:L0}
theorem xq{n:Int}{a:MB}{a0:Option Rj}(hx:a.eval x=.int k m)(hy:a.eval y=.int k' n)(h:(binOp op xt (.int k m) (.int k' n)).run P w=.ok v w):
  (execOp a.eval ⟨a0,.binOp op xt x y yt,t,p,e,g⟩).run P w=.ok (.value v) w:=by
 simp only[execOp,hx,hy];have hg:(eqGuard op xt x y (.int k m) (.int k' n))=pure ():=by
  unfold eqGuard;cases op<;>rfl
 rw[hg];simp[h]
theorem gu(hx:ev st x=some (.int k m))(hy:ev st y=some (.int k' n))(hv:(binOp op xt (.int k m) (.int k' n)).run P w=.ok v w):RV P N (.binOp op xt x y yt) t st w (v):=
 λ_ ha _ _ _ _=>xq (ha.ev hx) (ha.ev hy) hv
theorem Ik:(binOp .add xt (.int k m) (.int k n)).run P w=.ok (.int k (k.wrap (m+n))) w:=by simp[binOp,Qa,pure]
theorem Ia:(binOp .sub xt (.int k m) (.int k n)).run P w=.ok (.int k (k.wrap (m-n))) w:=by simp[binOp,Qa,pure]
theorem Ic:(binOp .mul xt (.int k m) (.int k n)).run P w=.ok (.int k (k.wrap (m*n))) w:=by simp[binOp,Qa,pure]
theorem Ie:(binOp .lss xt (.int k m) (.int k n)).run P w=.ok (.bool (decide (m<n))) w:=by simp[binOp,P1,pure]
theorem If:(binOp .leq xt (.int k m) (.int k n)).run P w=.ok (.bool (decide (m<=n))) w:=by simp[binOp,P1,pure]
theorem Ig:(binOp .gtr xt (.int k m) (.int k n)).run P w=.ok (.bool (decide (n<m))) w:=by simp[binOp,P1,pure]
theorem Ih:(binOp .geq xt (.int k m) (.int k n)).run P w=.ok (.bool (decide (n<=m))) w:=by simp[binOp,P1,pure]
theorem Ii:(binOp .eql xt (.int k m) (.int k n)).run P w=.ok (.bool (m==n)) w:=by simp[binOp,P1,pure]
theorem Ib:(binOp .neq xt (.int k m) (.int k n)).run P w=.ok (.bool (m != n)) w:=by simp[binOp,P1,pure]
def Fit(k:LW)(r:Int):Prop:=k.wrap r=r
theorem Fit.i64{r:Int}(h : -9223372036854775808<=r/\r<=9223372036854775807):Fit .i64 r:=RU r h
theorem Fit.u8{r:Int}(h:0<=r/\r<=255):Fit .u8 r:=RR r h
theorem RV.add(hx:ev st x=some (.int k m))(hy:ev st y=some (.int k n))(hr:Fit k (m+n)):RV P N (.binOp .add xt x y yt) t st w (.int k (m+n)):=
 gu hx hy (by rw[Ik,hr])
theorem RV.sub(hx:ev st x=some (.int k m))(hy:ev st y=some (.int k n))(hr:Fit k (m-n)):RV P N (.binOp .sub xt x y yt) t st w (.int k (m-n)):=
 gu hx hy (by rw[Ia,hr])
theorem RV.lss(hx:ev st x=some (.int k m))(hy:ev st y=some (.int k n)):RV P N (.binOp .lss xt x y yt) t st w (.bool (decide (m<n))):=
 gu hx hy Ie
theorem RV.leq(hx:ev st x=some (.int k m))(hy:ev st y=some (.int k n)):RV P N (.binOp .leq xt x y yt) t st w (.bool (decide (m<=n))):=
 gu hx hy If
theorem RV.gtr(hx:ev st x=some (.int k m))(hy:ev st y=some (.int k n)):RV P N (.binOp .gtr xt x y yt) t st w (.bool (decide (n<m))):=
 gu hx hy Ig
theorem RV.geq(hx:ev st x=some (.int k m))(hy:ev st y=some (.int k n)):RV P N (.binOp .geq xt x y yt) t st w (.bool (decide (n<=m))):=
 gu hx hy Ih
theorem RV.eql(hx:ev st x=some (.int k m))(hy:ev st y=some (.int k n)):RV P N (.binOp .eql xt x y yt) t st w (.bool (m==n)):=
 gu hx hy Ii
theorem RV.neq(hx:ev st x=some (.int k m))(hy:ev st y=some (.int k n)):RV P N (.binOp .neq xt x y yt) t st w (.bool (m != n)):=
 gu hx hy Ib
theorem RV.not{b:Bool}(hx:ev st x=some (.bool b)):RV P N (.unOp .not xt x) t st w (.bool (!b)):=
 λa ha a0 p e g=>by simp only[execOp,ha.ev hx];rfl
theorem DQ{a0:TypeDesc}(hs:P.underlying xt=some a0)(a2:P.underlying yt=some (.int k'))(hx:ev st x=some (.int k m))(hr:Fit k' m):RV P N (.convert xt yt x) t st w (.int k' m):=
 λa ha a3 p e g=>by
  have a1:k'.wrap m=m:=hr;simp only[execOp,ha.ev hx];simp[convert,run_underlying hs,run_underlying a2,QS,a1]
theorem nW{a0:TypeDesc}(hs:P.underlying xt=some a0)(a1:P.underlying yt=some (.int k'))(hx:ev st x=some (.int k m)):RV P N (.convert xt yt x) t st w (.int k' (k'.wrap m)):=
 λa ha a2 p e g=>by
  simp only[execOp,ha.ev hx];simp[convert,run_underlying hs,run_underlying a1,QS]
end
theorem RV.extract{vs:Array ix}{i:Nat}{v:ix}(hx:ev st x=some (.tuple vs))(hv:vs[i]? = some v):RV P N (.extract x i) t st w (v):=
 λa ha a0 p e g=>by simp only[execOp,ha.ev hx];simp[Instr.extract,hv]
def evs(st:St):List L4->Option (List ix)
 |[]=>some []
 |x::r=>match ev st x,evs st r with
  |some v,some vs=>some (v::vs)
  |_,_=>none
theorem Fits.evs{a:MB}(ha:Fits N a st):∀ {l:List L4} {vs:List ix},evs st l=some vs->l.map a.eval=vs:=by
 intro l
 induction l with
 |nil=>intro vs h;simpa[VL.evs]using h.symm
 |cons x r ih=>
  intro vs h;simp only[VL.evs]at h
  cases h1:VL.ev st x with
  |none=>rw[h1]at h;simp at h
  |some v=>
   cases h2:VL.evs st r with
   |none=>rw[h1,h2]at h;simp at h
   |some vs'=>
    rw[h1,h2]at h;simp at h;subst h;rw[L9,ha.ev h1,ih h2]
theorem dY{fn:Fn}{f c:List L4}{fs:List ix}(hf:evs st f=some fs)(hc:evs st c=some cs):RV P N (.makeFunc fn f.toArray c.toArray) t st w (.func fn fs.toArray cs.toArray):=
 λa ha a0 p e g=>by simp only[execOp,Instr.makeFunc,L6,ha.evs hf,ha.evs hc];rfl
theorem WL.box{E:L0}{v:ix}(hx:ev st x=some v)(hd:L3 d N=true)
  (h:WL P N ops Q rest ((d,.pointer (some ⟨w.heap.size,0,none⟩))::st) (w.alloc (.cells v.cells E))):WL P N ops Q (⟨some d,.box E x,t,p,e,none⟩::rest) st w:=
 WL.val hd (λa ha=>by simp only[execOp,ha.ev hx];rfl) h
theorem WL.alloc{E:L0}{z:ix}(hz:(MK E).run P w=.ok z w)(hd:L3 d N=true)
  (h:WL P N ops Q rest ((d,.pointer (some ⟨w.heap.size,0,none⟩))::st) (w.alloc (.cells z.cells E))):WL P N ops Q (⟨some d,.alloc E,t,p,e,none⟩::rest) st w:=
 WL.val hd (λa ha=>by
  simp only[execOp,Instr.alloc]
  simp[hz,newVar,newRow,newObj];rfl) h
def Ret(P:L5)(f:N2)(args:List ix)(w:ln)(R:ix->ln->Prop):Prop:=
 QY P f args.toArray w fun | .returned v,w'=>R v w'|_,_=>False
theorem Ret.mono{args:List ix}{R:ix->ln->Prop}(h:Ret P f args w R)(hr:∀v w',R v w'->R' v w'):Ret P f args w R':=
 Mn h λe w' q=>by cases e<;>first|exact hr _ _ q|exact q.elim
theorem WL.call{f:N2}{args:List L4}{a2:Array L0}{vs:List ix}{R:ix->ln->Prop}
  (hf:∀(args:Array ix) (w:ln),(callFunc f args).run P w=.ok (.enter f args) w) (a0:evs st args=some vs) (hc:Ret P f vs w R) (hd:L3 d N=true)
  (h:∀v w',R v w'->WL P N ops Q rest ((d,v)::st) w'):WL P N ops Q (⟨some d,.call ⟨.value (.func f),args.toArray,a2⟩,t,p,e,none⟩::rest) st w:=by
 refine WL.step rfl λa ha=>?_
 unfold MT;have a1:(execOp a.eval ⟨some d,.call ⟨.value (.func f),args.toArray,a2⟩,t,p,e,none⟩).run P w=.ok (.enter f vs.toArray) w:=by
  simp only[execOp,resolve,MF,L6];rw[ha.evs a0];simp[MD,invoke,hf]
 rw[a1];exact Mn hc λe w' q=>by
  cases e with
  |returned v=>exact h v w' q _ (ha.put hd v)
  |panicked c=>exact q.elim
  |outgrown=>exact q.elim
theorem dk{a2:Array L0}{cs:Array ix}{R:ix->ln->Prop}
  (hx:ev st x=some (.func (.func f) #[] cs))
  (hf:∀(args:Array ix) (w:ln),(callFunc f args).run P w=.ok (.enter f args) w) (a0:evs st args=some vs) (hc:Ret P f (vs++cs.toList) w R) (hd:L3 d N=true)
  (h:∀v w',R v w'->WL P N ops Q rest ((d,v)::st) w'):WL P N ops Q (⟨some d,.call ⟨.value x,args.toArray,a2⟩,t,p,e,none⟩::rest) st w:=by
 refine WL.step rfl λa ha=>?_
 unfold MT;have a1:(execOp a.eval ⟨some d,.call ⟨.value x,args.toArray,a2⟩,t,p,e,none⟩).run P w=.ok (.enter f (vs++cs.toList).toArray) w:=by
  simp only[execOp,resolve,L6,ha.evs a0,ha.ev hx];simp[MD,invoke,hf]
 rw[a1];exact Mn hc λe w' q=>by
  cases e with
  |returned v=>exact h v w' q _ (ha.put hd v)
  |panicked c=>exact q.elim
  |outgrown=>exact q.elim
end
end
def RP(P:L5)(fn:QR)(R:ix->ln->Prop):Md->MB->ln->Prop
 |.normal,a,w |.ret,a,w=>a.defers=[]/\∃v,(results fn a.tmps).run P w=.ok v w/\R v w
 |_,_,_=>False
theorem Ret.body{P:L5}{N:Nat}{f:N2}{fn:QR}{c:N6}{args:List ix}{st:St}{w:ln}{R:ix->ln->Prop}
  (hf:P.funcs[f]? = some fn) (hb:fn.body=some c) (hN:fn.ntmps=N) (a0:Fits N { tmps:=args.toArray++Ph (N-args.length) undef,defers:=[] } st)
  (h:WC P N c (RP P fn R) st w):Ret P f args w R:=by
 apply calls_of_wp hf hb;rw[hN];apply wp_mono (h _ (by simpa using a0))
 intro e a w' q
 cases e<;>first|exact q|exact q.elim
theorem mw:∀ {args:List ix} (_:PJ args.length N=true) {st:St} (_:∀t v,cO st t=some v->args[t]? = some v),
  Fits N { tmps:=args.toArray++Ph (N-args.length) undef,defers:=[] } st:=by
 intro args hN st h;have a1:=N8 hN;refine⟨by simp;omega,rfl,λt v hv=>?_⟩;have:=h t v hv;have a0:=(M7.1 this).1;rw[Array.getElem?_append_left (by simpa using a0)];simpa using this
def Fh:Nat->List ix->St
 |_,[]=>[]
 |k,v::r=>(k,v)::Fh (k+1) r
theorem kF:∀(args:List ix) (k t:Nat) (v:ix),cO (Fh k args) t=some v->k<=t/\args[t-k]? = some v
 |[],k,t,v,h=>by simp[Fh,cO]at h
 |u::r,k,t,v,h=>by
  simp only[Fh,cO]at h
  cases hb:Mh k t with
  |true=>
   rw[hb]at h;have:k=t:=LP hb;subst this;simpa using h
  |false=>
   rw[hb]at h;obtain⟨h1,h2⟩:=kF r (k+1) t v h;refine⟨zo,?_⟩;rw[show t-k=(t-(k+1))+1 from by omega];simpa using h2
theorem Ret.enter{fn:QR}{c:N6}{args:List ix}{R:ix->ln->Prop}
  (hf:P.funcs[f]? = some fn) (hN:fn.ntmps=N) (hb:fn.body=some c) (a0:PJ args.length N=true)
  (h:WC P N c (RP P fn R) (Fh 0 args) w):Ret P f args w R:=
 Ret.body hf hb hN (mw a0 λt v hv=>by simpa using(kF args 0 t v hv).2) h
section
variable{P:L5}{N:Nat}{st:St}{w:ln}{fn:QR}{R:ix→ln→Prop}
theorem af{t:Rj}(hr:fn.results = #[.tmp t])(hv:cO st t=some v)(h:R v w):QF N (RP P fn R) .ret st w:=λa ha=>
 ⟨ha.defers,v,by have:=ha.get _ _ hv;simp[results,hr,L8,this],h⟩
theorem aJ(hr:fn.results = #[])(h:R (.tuple #[]) w):QF N (RP P fn R) .normal st w:=λa ha=>⟨ha.defers,_,by simp[results,hr],h⟩
theorem cG(hr:fn.results = #[])(h:R (.tuple #[]) w):QF N (RP P fn R) .ret st w:=λa ha=>⟨ha.defers,_,by simp[results,hr],h⟩
theorem cc{t u:Rj}(hr:fn.results = #[.tmp t,.tmp u])(hv:cO st t=some v)(a0:cO st u=some v')(h:R (.tuple #[v,v']) w):QF N (RP P fn R) .ret st w:=λa ha=>
 ⟨ha.defers,_,by have:=ha.get _ _ hv;have h2:=ha.get _ _ a0;simp[results,hr,L8,this,h2],h⟩
end
open Go.RowKit (Below)
def Ext(w w':ln):Prop:=Below w.heap.size w w'
theorem Ext.refl(w:ln):Ext w w:=R4 _ _
theorem Ext.trans{a b c:ln}(h:Ext a b)(k:Ext b c):Ext a c:=Below.trans h (Below.mono k h.size)
theorem Ext.alloc(w:ln)(o:Obj):Ext w (w.alloc o):=(R4 _ _).alloc (M8 _) o
theorem Ext.drew{w w':ln}(h:Ext w w'):Ext w w'.drew:=⟨h.os,h.tape,h.output,h.size,h.block⟩
theorem Ext.cell{w w':ln}(h:Ext w w'){a:Mx}{v:ix}(hc:w.cell? a=some v):w'.cell? a=some v:=
 (Below.cell h (Nz w a hc)).trans hc
def adr(v:ix)(sz i:Nat):Mx:=
 match v with
 |.slice (some a) _ _=>⟨a.block,a.off+i*sz,none⟩
 |_=>default
def nth[Inhabited α](xs:List α)(i:Nat):α:=xs.getD i default
theorem aB[Inhabited α](h:i<xs.length):nth xs i=xs[i]:=by
 simp[nth,Mt,h]
theorem ao[Inhabited α](a:α)(l:List α):nth (a::l) 0=a:=rfl
theorem aS[Inhabited α](a:α)(l:List α)(i:Nat):nth (a::l) (i+1)=nth l i:=rfl
attribute [irreducible] nth
structure Sl{α:Type}(enc:α->List ix)(sz:Nat)(w:ln)(v:ix)(xs:List α):Prop where
 shape:∃a c,v=.slice a xs.length c/\xs.length<=c/\c<=9223372036854775807/\(xs.length≠0->∃b o,a=some ⟨b,o,none⟩)
 cells:∀i (h:i<xs.length) j u,(enc xs[i])[j]? = some u->w.cell? ((adr v sz i).add j)=some u
theorem Sl.of_cells(h:Sl enc sz w v xs)(hc:∀a u,w.cell? a=some u->w'.cell? a=some u):Sl enc sz w' v xs:=
 ⟨h.shape,λi hi j u hu=>hc _ _ (h.cells i hi j u hu)⟩
theorem Sl.ext(h:Sl enc sz w v xs)(e:Ext w w'):Sl enc sz w' v xs:=h.of_cells λ_ _=>e.cell
theorem Sl.drew{α:Type}{enc:α->List ix}{sz:Nat}{w:ln}{v:ix}{xs:List α}(h:Sl enc sz w v xs):Sl enc sz w.drew v xs:=h.of_cells λ_ _ h=>h
theorem Sl.one(h:Sl enc sz w v xs):v.oneCell'=true:=by
 obtain⟨_,_,rfl,_⟩:=h.shape;rfl
theorem Sl.len_le(h:Sl enc sz w v xs):xs.length<=9223372036854775807:=by
 obtain⟨a,c,_,h1,h2,_⟩:=h.shape;omega
theorem Sl.cell{α:Type}[Inhabited α]{enc:α->List ix}{sz:Nat}{w:ln}{v:ix}{xs:List α}(h:Sl enc sz w v xs){i j:Nat}{u:ix}(hi:i<xs.length)(hu:(enc (nth xs i))[j]? = some u):w.cell? ((adr v sz i).add j)=some u:=
 h.cells i hi j u (by rw[<-aB hi];exact hu)
theorem aA(v:ix)(sz i:Nat):(adr v sz i).add 0=adr v sz i:=rfl
theorem Sl.ld[Inhabited α]{val:α->ix}(h:Sl (λx=>[val x]) sz w v xs)(hi:i<xs.length):w.cell? (adr v sz i)=some (val (nth xs i)):=
 h.cell (j:=0) hi rfl
abbrev Ints(w:ln)(v:ix)(xs:List Int):Prop:=Sl (fun(x:Int)=>[nI x]) 1 w v xs
abbrev LN(w:ln)(v:ix)(xs:List Nat):Prop:=Sl (fun(x:Nat)=>[nI (x:Int)]) 1 w v xs
section
variable{P:L5}{N:Nat}{ops:Array LY}{Q:Md→MB→ln→Prop}{rest:List LY}{st:St}{w:ln}
variable{t:L0}{p:String}{e:Array MR}{d:Nat}{x y z:L4}
theorem RV.len{T E:L0}{α:Type}{enc:α->List ix}{sz:Nat}{v:ix}{xs:List α}(hs:Sl enc sz w v xs)(hu:P.underlying T=some (.slice E))(hx:ev st x=some v):RV P N (.call ⟨.builtin .len,#[x],#[T]⟩) t st w (nI (xs.length:Int)):=
 λa ha a0 p e g=>by
  obtain⟨ad,c,hv,_⟩:=hs.shape;simp only[execOp,resolve,L6,L9,M5,ha.ev hx];subst hv;simp[invoke,Rl,Qx,run_underlying hu,goInt]
theorem RV.indexAddr{T E:L0}{α:Type}{enc:α->List ix}{sz:Nat}{v:ix}{xs:List α}{k:LW}{i:Int}(hs:Sl enc sz w v xs)(hu:P.underlying T=some (.slice E))(hE:(Mj E).run P w=.ok sz w)
  (hx:ev st x=some v) (hy:ev st y=some (.int k i)) (n:Nat) (hi:i=n) (hn:n<xs.length):RV P N (.indexAddr T x y) t st w (.pointer (some (adr v sz n))):=
 λa ha a0 p e g=>by
  obtain⟨ad,c,hv,_,_,hb⟩:=hs.shape;obtain⟨b,o,rfl⟩:=hb zo;simp only[execOp,ha.ev hx,ha.ev hy];subst hv;subst hi;have:((n:Int)<(xs.length:Int)):=zo;simp only[adr];have he:(if n*sz=0 then(⟨b,o,none⟩:Mx)else⟨b,o+n*sz,none⟩)=⟨b,o+n*sz,none⟩:=by split<;>simp_all
  simp[Ps,asIntOf,run_underlying hu,hE,Mc,hn,he]
def Shape(v:ix)(n:Nat):Prop:=∃a c,v=.slice a n c/\(n≠0->∃b o,a=some ⟨b,o,none⟩)
theorem Sl.sh(h:Sl enc sz w v xs):Shape v xs.length:=by
 obtain⟨a,c,h1,_,_,h2⟩:=h.shape;exact⟨a,c,h1,h2⟩
theorem aC{m:Nat}{i:Int}(hs:Shape v m)(hu:P.underlying T=some (.slice E))(hE:(Mj E).run P w=.ok sz w)
  (hx:ev st x=some v) (hy:ev st y=some (.int k i)) (n:Nat) (hi:i=n) (hn:n<m):RV P N (.indexAddr T x y) t st w (.pointer (some (adr v sz n))):=
 λa ha a0 p e g=>by
  obtain⟨ad,c,hv,hb⟩:=hs;obtain⟨b,o,rfl⟩:=hb zo;simp only[execOp,ha.ev hx,ha.ev hy];subst hv;subst hi;simp only[adr];have he:(if n*sz=0 then(⟨b,o,none⟩:Mx)else⟨b,o+n*sz,none⟩)=⟨b,o+n*sz,none⟩:=by split<;>simp_all
  simp[Ps,asIntOf,run_underlying hu,hE,Mc,hn,he]
theorem RV.load{T:L0}{q:Mx}{u:ix}(hc:w.cell? q=some u)(hT:(PF T).run P w=.ok false w)(hx:ev st x=some (.pointer (some q))):RV P N (.load T x) t st w (u):=
 λa ha a0 p e g=>by
  simp only[execOp,ha.ev hx];simp[QO,Mq,loadVar,hT,hc]
theorem run_loadCellsFrom{q:Mx}:∀(us:List ix) (i:Nat) (a0:Array ix),(∀j u,us[j]? = some u->w.cell? (q.add (i+j))=some u)->(loadCellsFrom q i us.length a0).run P w=.ok (a0++us.toArray) w
 |[],i,a0,_=>by simp[loadCellsFrom]
 |u::r,i,a0,h=>by
  have h0:=h 0 u rfl;have ih:=run_loadCellsFrom r (i+1) (a0.push u) (λj v hv=>by have:=h (j+1) v (by simpa using hv);rwa[show i+1+j=i+(j+1)from by omega]);simp only[PK]at h0;simp[loadCellsFrom,h0,ih]
theorem ai(hc:∀j u,us[j]? = some u->w.cell? (q.add j)=some u)(hT:(PF T).run P w=.ok true w)(hn:(Mj T).run P w=.ok us.length w)(hx:ev st x=some (.pointer (some q))):RV P N (.load T x) t st w (.agg us.toArray):=
 λa ha a0 p e g=>by
  simp only[execOp,ha.ev hx];have:=run_loadCellsFrom (P:=P) us 0 #[] (q:=q) (w:=w) (by simpa using hc);simp[QO,Mq,loadVar,hT,hn,loadCells,this]
theorem RV.fieldAddr{S:L0}{fs:Array RE}{f m:Nat}{fd:RE}{q:Mx}(o:Nat)(hu:P.underlying S=some (.struct fs))(hf:fs[f]? = some fd)(ho:fd.offset=o)(hz:(Mj fd.type).run P w=.ok m w)(hm:m≠0)
  (hx:ev st x=some (.pointer (some q))):RV P N (.fieldAddr S x f) t st w (.pointer (some (q.add o))):=
 λa ha a0 p e g=>by
  subst ho;simp only[execOp,ha.ev hx];simp[Instr.fieldAt,Mq,fieldPlace,run_underlying hu,hf,hz,hm]
end
end Go.VL
end
section
namespace Go.VL
open Go.RowKit (Below)
structure Upd(S:Nat->Prop)(O:Nat->Nat)(w:ln)(O':Nat->Nat)(w':ln):Prop where
 os:w'.os=w.os
 tape:w'.tape=w.tape
 output:w'.output=w.output
 size:w.heap.size<=w'.heap.size
 blk:∀b,b<w.heap.size->¬S (O b)->w'.heap[b]? = w.heap[b]?
 tag:∀b,O b≠0->O' b=O b
 new:∀b,O' b≠0->O b≠0\/(w.heap.size<=b/\b<w'.heap.size)
 z:¬S 0
structure Rng(B:Nat)(O:Nat->Nat)(w:ln):Prop where
 le:B<=w.heap.size
 rng:∀b,O b≠0->B<=b/\b<w.heap.size
theorem Upd.refl(h:¬S 0)(O:Nat->Nat)(w:ln):Upd S O w O w:=⟨rfl,rfl,rfl,M8 _,λ_ _ _=>rfl,λ_ _=>rfl,λ_ h=>.inl h,h⟩
theorem Upd.mono{S':Nat->Prop}(h:Upd S O w O' w')(hs:∀i,S i->S' i)(hz:¬S' 0):Upd S' O w O' w':=
 ⟨h.os,h.tape,h.output,h.size,λb hb hn=>h.blk b hb λhS=>hn (hs _ hS),h.tag,h.new,hz⟩
theorem Upd.trans{S:Nat->Prop}{O O1 O2:Nat->Nat}{w w1 w2:ln}(h:Upd S O w O1 w1)(k:Upd S O1 w1 O2 w2):Upd S O w O2 w2:=by
 refine⟨k.os.trans h.os,k.tape.trans h.tape,k.output.trans h.output,MN h.size k.size,λb hb hn=>?_,λb hb=>?_,λb hb=>?_,h.z⟩
 ·refine(k.blk b (M6 hb h.size) ?_).trans (h.blk b hb hn)
  by_cases h0:O b=0
  ·have:O1 b=0:=by
    refine LV λa0=>?_
    rcases h.new b a0 with h1|h1
    ·exact h1 h0
    omega
   rw[this];exact h.z
  rw[h.tag b h0];exact hn
 ·have h1:=h.tag b hb;rw[k.tag b (by rw[h1];exact hb),h1]
 rcases k.new b hb with h1|h1
 ·rcases h.new b h1 with h2|h2
  ·exact .inl h2
  exact .inr ⟨h2.1,M6 h2.2 k.size⟩
 exact .inr ⟨MN h.size h1.1,h1.2⟩
theorem ae(hz:¬S 0)(O:Nat->Nat)(h:Ext w w'):Upd S O w O w':=
 ⟨h.os,h.tape,h.output,h.size,λb hb _=>h.block b hb,λ_ _=>rfl,λ_ h=>.inl h,hz⟩
theorem Rng.upd(r:Rng B O w)(h:Upd S O w O' w'):Rng B O' w':=by
 refine⟨MN r.le h.size,λb hb=>?_⟩
 rcases h.new b hb with h1|h1
 ·exact⟨(r.rng b h1).1,M6 (r.rng b h1).2 h.size⟩
 exact⟨MN r.le h1.1,h1.2⟩
theorem ax(w:ln):Rng w.heap.size (λ_=>0) w:=⟨M8 _,λ_ h=>absurd rfl h⟩
theorem Rng.ext(r:Rng B O w)(h:Ext w w'):Rng B O w':=r.upd (ae (S:=λ_=>False) (λh=>h) O h)
theorem Upd.below(h:Upd S O w O' w')(r:Rng B O w):Below B w w':=by
 refine⟨h.os,h.tape,h.output,h.size,λb hb=>h.blk b (M6 hb r.le) ?_⟩;have:O b=0:=LV λa0=>by have:=(r.rng b a0).1;omega
 rw[this];exact h.z
theorem Upd.ext(h:Upd S (λ_=>0) w O' w'):Ext w w':=h.below (ax w)
theorem Upd.drew{S:Nat->Prop}{O O':Nat->Nat}{w w':ln}(h:Upd S O w O' w'):Upd S O w O' w'.drew:=⟨h.os,h.tape,h.output,h.size,h.blk,h.tag,h.new,h.z⟩
theorem Upd.ofDrew(h:Upd S O w.drew O' w'):Upd S O w O' w':=⟨h.os,h.tape,h.output,h.size,h.blk,h.tag,h.new,h.z⟩
theorem Rng.drew{B:Nat}{O:Nat->Nat}{w:ln}(h:Rng B O w):Rng B O w.drew:=⟨h.le,h.rng⟩
def lV(O:Nat->Nat)(b i:Nat):Nat->Nat:=λk=>if k=b then i else O k
theorem eG(O:Nat->Nat)(b i:Nat):lV O b i b=i:=if_pos rfl
theorem Upd.alloc{S:Nat->Prop}(hz:¬S 0){B:Nat}{O:Nat->Nat}{w:ln}(r:Rng B O w)(o:Obj)(i:Nat):Upd S O w (lV O w.heap.size i) (w.alloc o):=by
 refine⟨rfl,rfl,rfl,by simp,λb hb _=>R5 _ _ _ hb,λb hb=>?_,λb hb=>?_,hz⟩
 ·unfold lV;rw[if_neg];have:=(r.rng b hb).2;omega
 unfold lV at hb
 split at hb
 ·rename_i h;subst h;exact .inr ⟨M8 _,by simp⟩
 exact .inl hb
structure RowO(O:Nat->Nat)(w:ln)(i:Nat)(E:L0)(sz:Nat)(v:ix)(n:Nat)(xs:List ix):Prop where
 row:w.ownsRow 0 E sz v n xs
 tag:∀g,v.ownBlock=some g->O g=i
theorem bL{g:Nat}{o:Obj}(h:w.heap[g]? = some o):g<w.heap.size:=(Array.getElem?_eq_some_iff.1 h).1
theorem RowO.upd{xs:List ix}(h:RowO O w i E sz v n xs)(u:Upd S O w O' w')(hi:i≠0)(hS:¬S i):RowO O' w' i E sz v n xs:=by
 refine⟨⟨h.row.1,?_⟩,λg hg=>?_⟩
 ·rcases h.row.2 with h1|⟨g,a2,a1,hv,hg,hh,a0⟩
  ·exact .inl h1
  refine .inr ⟨g,a2,a1,hv,hg,?_,a0⟩;rw[u.blk g (bL hh) (by rw[h.tag g (by rw[hv];rfl)];exact hS)];exact hh
 have:=h.tag g hg;rw[u.tag g (by rw[this];exact hi),this]
theorem RowO.drew{O:Nat->Nat}{w:ln}{i:Nat}{E:L0}{sz:Nat}{v:ix}{n:Nat}{xs:List ix}(h:RowO O w i E sz v n xs):RowO O w.drew i E sz v n xs:=⟨h.row,h.tag⟩
theorem RowO.nil(O:Nat->Nat)(w:ln)(i:Nat)(E:L0)(sz:Nat):RowO O w i E sz nS 0 []:=⟨World.ownsRow_nil _ _ _ _,λg hg=>by simp[Nn]at hg⟩
structure BlkO(O:Nat->Nat)(w:ln)(i b:Nat)(cs:Array ix)(E:L0):Prop where
 blk:w.heap[b]? = some (.cells cs E (0,0))
 tag:O b=i
theorem BlkO.upd{b:Nat}{cs:Array ix}(h:BlkO O w i b cs E)(u:Upd S O w O' w')(hi:i≠0)(hS:¬S i):BlkO O' w' i b cs E:=
 ⟨by rw[u.blk b (bL h.blk) (by rw[h.tag];exact hS)];exact h.blk,by rw[u.tag b (by rw[h.tag];exact hi),h.tag]⟩
theorem BlkO.drew{O:Nat->Nat}{w:ln}{i b:Nat}{cs:Array ix}{E:L0}(h:BlkO O w i b cs E):BlkO O w.drew i b cs E:=⟨h.blk,h.tag⟩
theorem BlkO.new(O:Nat->Nat)(w:ln)(i:Nat)(cs:Array ix)(E:L0):BlkO (lV O w.heap.size i) (w.alloc (.cells cs E)) i w.heap.size cs E:=
 ⟨heap_alloc_new w _,eG _ _ _⟩
theorem BlkO.cell{O:Nat->Nat}{w:ln}{i b:Nat}{cs:Array ix}{E:L0}(h:BlkO O w i b cs E)(j:Nat){u:ix}(hu:cs[j]? = some u):w.cell? ⟨b,j,none⟩=some u:=by
 rw[cell_of_row w b j cs E (0,0) h.blk];exact hu
theorem BlkO.set{b:Nat}{cs:Array ix}(h:BlkO O w i b cs E)(j:Nat)(u:ix):BlkO O (w.setCell ⟨b,j,none⟩ u) i b (cs.setIfInBounds j u) E:=by
 refine⟨?_,h.tag⟩;simp only[N7,Mw,if_pos]
 rw[h.blk];simp
theorem Upd.set(hz:¬S 0){b:Nat}(ht:O b=i)(hS:S i):Upd S O w O (w.setCell ⟨b,j,none⟩ u):=
 ⟨rfl,rfl,rfl,by simp[N7],λk _ hn=>Nf _ _ _ _ (λe=>hn (by subst e;rw[ht];exact hS)),λ_ _=>rfl,λ_ h=>.inl h,hz⟩
def RowT(enc:α->List ix)(E:L0)(sz:Nat)(O:Nat->Nat)(w:ln)(i:Nat)(v:ix)(l:List α):Prop:=RowO O w i E sz v l.length (l.flatMap enc)/\∀x∈l,(enc x).length=sz
theorem fg{α:Type}{enc:α->List ix}{sz:Nat}:∀(l:List α),(∀x∈l,(enc x).length=sz)->∀i (h:i<l.length) j u,(enc l[i])[j]? = some u->(l.flatMap enc)[i*sz+j]? = some u
 |x::l,hz,0,_,j,u,hu=>by
  have hl:=hz x (by simp);have hj:=(M7.1 (by simpa using hu)).1;simp only[Mk,N1,Mg];rw[List.getElem?_append_left hj];simpa using hu
 |x::l,hz,i+1,h,j,u,hu=>by
  have hl:=hz x (by simp);simp only[Mk];rw[show(i+1)*sz+j=(enc x).length+(i*sz+j)from by rw[hl,MY];omega,List.getElem?_append_right zo,show(enc x).length+(i*sz+j)-(enc x).length=i*sz+j from by omega];exact fg l (λy hy=>hz y (by simp[hy])) i (by simpa using h) j u (by simpa using hu)
theorem RowT.sl(h:RowT enc E sz O w i v l):Sl enc sz w v l:=by
 obtain⟨⟨⟨hl,hr⟩,_⟩,hz⟩:=h
 rcases hr with⟨rfl,h0⟩|⟨g,a0,a3,rfl,_,hg,a1,a2,a4,ht⟩
 ·have:l=[]:=LO h0;subst this;exact⟨⟨none,0,rfl,M8 _,zo,λh=>absurd rfl h⟩,λi hi=>absurd hi (by simp)⟩
 refine⟨⟨_,a0,rfl,a1,by simpa[maxLen]using a2,λ_=>⟨g,0,rfl⟩⟩,λi hi j u hu=>?_⟩;have:=fg l hz i hi j u hu;rw[<-ht,List.getElem?_take]at this
 split at this
 ·have ha:((adr (.slice (some ⟨g,0,none⟩) l.length a0) sz i).add j)=⟨g,i*sz+j,none⟩:=by
   simp only[adr,Mc];split<;>simp_all
  rw[ha,cell_of_row w g _ a3 E (0,0) hg];simpa using this
 cases this
theorem RowT.upd{α:Type}{enc:α->List ix}{S:Nat->Prop}{O O':Nat->Nat}{w w':ln}{i:Nat}{E:L0}{sz:Nat}{v:ix}{l:List α}(h:RowT enc E sz O w i v l)(u:Upd S O w O' w')(hi:i≠0)(hS:¬S i):RowT enc E sz O' w' i v l:=
 ⟨h.1.upd u hi hS,h.2⟩
theorem RowT.drew{α:Type}{enc:α->List ix}{O:Nat->Nat}{w:ln}{i:Nat}{E:L0}{sz:Nat}{v:ix}{l:List α}(h:RowT enc E sz O w i v l):RowT enc E sz O w.drew i v l:=⟨h.1.drew,h.2⟩
theorem RowT.nil{α:Type}(enc:α->List ix)(E:L0)(sz:Nat)(O:Nat->Nat)(w:ln)(i:Nat):RowT enc E sz O w i nS []:=⟨RowO.nil _ _ _ _ _,by simp⟩
theorem RowO.one{xs:List ix}(h:RowO O w i E sz v n xs):v.oneCell'=true:=by
 rcases h.row.2 with⟨rfl,_⟩|⟨g,a1,a0,rfl,_⟩<;>rfl
theorem RowT.one{α:Type}{enc:α->List ix}{O:Nat->Nat}{w:ln}{i:Nat}{E:L0}{sz:Nat}{v:ix}{l:List α}(h:RowT enc E sz O w i v l):v.oneCell'=true:=h.1.one
theorem RowT.put{val:α->ix}(h:RowT (λx=>[val x]) E 1 O w i v l)(hn:n<l.length)(x:α):
  w.cell? (adr v 1 n)=some (val (l[n]))/\w.frozen? (adr v 1 n)=false/\RowT (λx=>[val x]) E 1 O (w.setCell (adr v 1 n) (val x)) i v (l.set n x)/\O (adr v 1 n).block=i:=by
 have a0:=h.sl.cells n hn 0 (val l[n]) rfl;rw[aA]at a0;refine⟨a0,?_⟩;obtain⟨⟨⟨hl,hr⟩,a1⟩,hz⟩:=h
 rcases hr with⟨rfl,h0⟩|⟨g,a3,a8,rfl,a7,hg,a4,a6,a5,ht⟩
 ·omega
 have ha:adr (.slice (some ⟨g,0,none⟩) l.length a3) 1 n=⟨g,n,none⟩:=by simp[adr]
 rw[ha];have a2:∀l:List α,(l.flatMap λx=>[val x])=l.map val:=λl=>by induction l<;>simp_all
 refine⟨by simp[NX,hg],⟨⟨⟨by rw[a2];simp,.inr ⟨g,a3,a8.setIfInBounds n (val x),by simp,a7,?_,by simpa using a4,a6,by simpa using a5,?_⟩⟩,by simpa using a1⟩,by simp⟩,a1 g rfl⟩
 ·simp only[N7,Mw,if_pos];rw[hg];simp
 simp only[Nx,Pj,Nq]at ht ⊢;rw[a2]at ht ⊢;rw[QH,ht,List.map_set]
structure Elem(P:L5)(T E:L0)(sz bytes:Nat):Prop where
 ht:P.underlying T=some (.slice E)
 info:(P.info? E).map (λi=>(i.zero.map (·.cells.size),i.size,i.bytes))=some (some sz,sz,bytes)
 pos:0<sz
theorem Elem.parts(h:Elem P T E sz bytes):∃i z,P.info? E=some i/\i.zero=some z/\i.size=sz/\i.bytes=bytes/\z.cells.size=sz:=by
 have:=h.info
 cases hi:P.info? E with
 |none=>rw[hi]at this;simp at this
 |some i=>
  rw[hi]at this;simp only[M1,NP,Pm]at this;obtain⟨h1,h2,h3⟩:=this
  cases hz:i.zero with
  |none=>rw[hz]at h1;simp at h1
  |some z=>rw[hz]at h1;simp at h1;exact⟨i,z,rfl,hz,h2,h3,h1⟩
theorem fG{a7:Nat}(he:Elem P T E sz a7)(r:Rng B O w)
    {xs:List ix} (a1:RowO O w i E sz v n xs)
  (a:Mx) (m c:Nat) (a0:List ix) (hl:a0.length=m*sz) (a3:∀j u,a0[j]? = some u->w.cell? (a.add j)=some u) (h1:∀u∈a0,u.oneCell'=true)
  (a4:(n+m)*a7<=140737488355328) (c8:n+m<=9223372036854775807) (b9:i≠0) :
  ∃v' w' O',(Nc #[T,T] ty #[v,.slice (some a) m c]).run P w=.ok v' w'/\RowO O' w' i E sz v' (n+m) (xs++a0)/\Upd (λk=>k=i) O w O' w':=by
 obtain⟨a8,z,hi,hz,b8,c7,b7⟩:=he.parts;have ht:=he.ht;subst b8;subst c7;have a5:(xs++a0).length=(n+m)*a8.size:=by rw[Ms,a1.row.1,hl,MY]
 have b2:¬(0=i):=λh=>b9 h.symm
 have a6:∀(old:Nat),old<n+m->
   RowO (lV O w.heap.size i) (w.drew.alloc (.cells (xs.toArray++a0.toArray++P3 z.cells (grownCap w (n+m) old E-(n+m))) E)) i E a8.size
    (.slice (some ⟨w.heap.size,0,none⟩) (n+m) (grownCap w (n+m) old E)) (n+m) (xs++a0)/\
   Upd (λk=>k=i) O w (lV O w.heap.size i) (w.drew.alloc (.cells (xs.toArray++a0.toArray++P3 z.cells (grownCap w (n+m) old E-(n+m))) E)):=by
  intro old ho;have b':=grownCap_ge w (n+m) old E;have b5:grownCap w (n+m) old E<=maxLen:=grownCap_le_maxLen w (n+m) old E (by simpa[maxLen]using c8);refine⟨⟨⟨a5,.inr ⟨w.heap.size,_,_,rfl,MA _,heap_alloc_new w.drew _,b',b5,?_,?_⟩⟩,?_⟩,?_⟩
  ·simp only[Array.size_append,P9,size_zeroCells,b7,a1.row.1,hl,<-MY];congr 1;omega
  ·simp only[Array.toList_append,Ml];rw[<-Ml,<-a5];exact QC
  ·intro g hg;simp[Nn]at hg;subst hg;exact eG _ _ _
  have u:=Upd.alloc (S:=λk=>k=i) (w:=w.drew) b2 (B:=B) ⟨r.le,r.rng⟩ (.cells (xs.toArray++a0.toArray++P3 z.cells (grownCap w (n+m) old E-(n+m))) E) i;exact⟨u.os,u.tape,u.output,u.size,u.blk,u.tag,u.new,u.z⟩
 rcases a1.row.2 with⟨rfl,rfl⟩|⟨g,b1,b6,rfl,hbg,hg,c9,b5,c6,a'⟩
 ·have hx:xs=[]:=LO (by simpa using a1.row.1);subst hx
  by_cases hm:m=0
  ·subst hm;have hn:a0=[]:=LO (by simpa using hl);subst hn;refine⟨nS,w,O,?_,RowO.nil _ _ _ _ _,Upd.refl b2 _ _⟩;simp[Nc,run_underlying ht,Mj,typeInfo,hi,Po,NU,loadCells,loadCellsFrom]
  have hr:=run_append_nil (P:=P) w T ty E a8 z ht hi hz a m c a0 hl a3 zo zo (by have hb:=a4;simp only[Mg]at hb;omega);have a9:=a6 0 zo;simp only[Mg,MV,Array.empty_append]at a9 ⊢;exact⟨_,_,_,hr,a9.1,a9.2⟩
 have b3:O g=i:=a1.tag g rfl
 by_cases a2:n+m<=b1
 ·have b4:n*a8.size+a0.length<=b6.size:=by rw[hl,c6,<-MY];exact Nat.mul_le_mul_right _ a2
  have hr:=run_append_room (P:=P) w T ty E a8 ht hi g n b1 b6 hg a m c a0 hl a3 h1 a2 b4;refine⟨_,_,O,hr,⟨⟨a5,.inr ⟨g,b1,_,rfl,hbg,setRow_heap w g b6 _ E _ hg,a2,b5,?_,?_⟩⟩,λg' c5=>a1.tag g' c5⟩,⟨rfl,rfl,rfl,by simp,λk _ hk=>setRow_other w g k _ (λe=>hk (by subst e;exact b3)),λ_ _=>rfl,λ_ h=>.inl h,b2⟩⟩
  ·simp only[P9,Ms,List.length_take,List.length_drop,NW];omega
  rw[a',<-a5];exact QC
 have b0:∀j u,xs[j]? = some u->w.cell? (nA g j)=some u:=a1.row.cells (g:=g) rfl;have hr:=run_append_grow (P:=P) w T ty E a8 z ht hi hz ⟨g,0,none⟩ n b1 xs a1.row.1 b0 a m c a0 hl a3 zo zo (growslice_fits zo a4);have a9:=a6 b1 zo;exact⟨_,_,_,hr,a9.1,a9.2⟩
theorem foldl_set(f:Array ix->ix×Nat->Array ix)(hf:∀cs c j,f cs (c,j)=cs.setIfInBounds (0+j) c):∀(l:List ix) (k:Nat) (cs:Array ix),k+l.length<=cs.size->
  (l.zipIdx k).foldl f cs=(cs.toList.take k++l++cs.toList.drop (k+l.length)).toArray
 |[],k,cs,_=>by simp
 |u::l,k,cs,h=>by
  simp only[MU]at h;simp only[List.zipIdx_cons,NK];rw[foldl_set f hf l (k+1) _ (by rw[hf];simp;omega),hf];simp only[Mg,Nq];have hk:k<cs.toList.length:=by simp;omega
  congr 1;rw[show k+1+l.length=k+(u::l).length from by simp;omega];have h1:(cs.toList.set k u).take (k+1)=cs.toList.take k++[u]:=by
   rw[N0 (by simpa using hk)];simp[Q0]
  have h2:(cs.toList.set k u).drop (k+(u::l).length)=cs.toList.drop (k+(u::l).length):=by
   rw[List.drop_set_of_lt (by simp)]
  rw[h1,h2];simp
theorem lj{cells:Array ix}(h1:v.cells.size=sz)(h2:cells.size=sz):No (λi=>some (i*sz,sz)) cells [(0,v)]=some v.cells:=by
 simp only[No,N1,h1,h2];simp only[Mg,ne_eq,not_true_eq_false,decide_false,gt_iff_lt,Nat.lt_irrefl,Bool.or_self,P5,if_false];have:=foldl_set (λcs (x:ix×Nat)=>cs.setIfInBounds (0+x.2) x.1) (λ_ _ _=>rfl) v.cells.toList 0 cells (by simp;omega);simp only[Mg]at this;rw[<-Array.foldl_toList,Array.toList_zipIdx,this];simp only[QB,MV];rw[PC (by simp;omega)];simp
section
variable{P:L5}{N:Nat}{ops:Array LY}{Q:Md→MB→ln→Prop}{rest:List LY}{st:St}{w:ln}
variable{t t':L0}{p p':String}{e e':Array MR}{d d':Nat}{x y z:L4}
theorem WL.push(he:Elem P T E sz a0)(hr:RowT enc E sz O w i v l)(r:Rng B O w)(u:α)
  (hv:∀c,ev ((d,c)::st) y=some v) (hx:ev st x=some xv) (a6:xv.cells.toList=enc u) (a7:(enc u).length=sz) (a':∀c∈enc u,c.oneCell'=true)
  (hb:(l.length+1)*a0<=140737488355328) (b4:l.length+1<=9223372036854775807) (a5:i≠0) (hs:sz<=16777216) (hd:L3 d N=true) (b2:L3 d' N=true)
  (h:∀v' w' O',RowT enc E sz O' w' i v' (l++[u])->Upd (λk=>k=i) O w O' w'->Rng B O' w'->WL P N ops Q rest ((d',v')::(d,.slice (some ⟨w.heap.size,0,none⟩) 1 1)::st) w') :
  WL P N ops Q (⟨some d,.buildSlice T 1 #[(0,x)],t,p,e,none⟩::⟨some d',.call ⟨.builtin .append,#[y,.tmp d],#[T,T]⟩,t',p',e',none⟩::rest) st w:=by
 obtain⟨a8,z,hi,hz,a2,b6,b5⟩:=he.parts;have b3:xv.cells.size=sz:=by rw[<-a7,<-a6];simp
 have b1:=he.pos;refine WL.val (v:=.slice (some ⟨w.heap.size,0,none⟩) 1 1) (w':=w.alloc (.cells xv.cells E)) hd (λa ha=>?_) ?_
 ·have:=run_buildSlice (P:=P) w T E 1 #[(0,xv)] xv.cells a8 z he.ht hi hz (by rw[a2];omega) (by rw[a2];omega) (by
   rw[a2]
   exact lj b3 (by simp))
  simp only[execOp,L6,L9,M5,ha.ev hx,L2,this,L1];rfl
 have a9:¬(λk=>k=i) 0:=λh=>a5 h.symm
 have hE:=Ext.alloc w (.cells xv.cells E);have r1:=r.ext hE;have b0:=hr.upd (ae (S:=λ_=>False) (λh=>h) O hE) a5 (λh=>h)
 obtain⟨v',w',O',a3,a4,a1⟩:=fG (P:=P) (ty:=t') he r1 b0.1 ⟨w.heap.size,0,none⟩ 1 1 (enc u) zo (λj c hc=>by
  rw[show((⟨w.heap.size,0,none⟩:Mx).add j)=⟨w.heap.size,j,none⟩from by simp only[Mc];split<;>simp_all,cell_of_row _ _ j xv.cells E (0,0) (heap_alloc_new w _)]
  rw[<-a6]at hc;simpa using hc) a' hb b4 a5
 refine WL.val (v:=v') (w':=w') b2 (λa ha=>?_) ?_
 ·simp only[execOp,resolve,invoke,builtin,L2,LQ,L1,L6,L9,M5,ha.ev (hv _),ha.ev (x:=.tmp d) (v:=.slice (some ⟨w.heap.size,0,none⟩) 1 1) (by simp[ev,cO]),a3]
 have hU:Upd (λk=>k=i) O w O' w':=Upd.trans (ae a9 O hE) a1;refine h v' w' O' ⟨by simpa using a4,?_⟩ hU (r.upd hU);intro c hc
 rcases Mb.1 hc with hc|hc
 ·exact hr.2 c hc
 rw[LU.1 hc];exact a7
theorem ak{b:Nat}{cs:Array ix}{c:ix}(hb:BlkO O w i b cs E)(hj:cs[j]? = some c)(hT:(Mj T).run P w=.ok 1 w)(h1:u.oneCell'=true)
   (hx:ev st x=some (.pointer (some q))) (hq:q=⟨b,j,none⟩) (hy:ev st y=some u)
  (h:WL P N ops Q rest st (w.setCell ⟨b,j,none⟩ u)):WL P N ops Q (⟨none,.store T x y,t,p,e,none⟩::rest) st w:=
 iK (λa ha=>by
  subst hq;have hc:=hb.cell j hj;have hf:w.frozen? ⟨b,j,none⟩=false:=by simp[NX,hb.blk]
  simp only[execOp,ha.ev hx,ha.ev hy]
  cases u<;>simp[ME]at h1<;>simp[Nv,Mq,storeVar,hT,Pd,storeCells,store,MX,hc,hf,Mc]) h
theorem WL.storeAt{val:α->ix}(hr:RowT (λx=>[val x]) E 1 O w i v l)(n:Nat)(hn:n<l.length)(u:α)(hT:(Mj T).run P w=.ok 1 w)(h1:(val u).oneCell'=true)(a1:i≠0)
   {uv:ix} (hx:ev st x=some (.pointer (some q))) (hq:q=adr v 1 n) (hy:ev st y=some uv) (hu:uv=val u)
  (h:∀w',RowT (λx=>[val x]) E 1 O w' i v (l.set n u)->Upd (λj=>j=i) O w O w'->WL P N ops Q rest st w'):WL P N ops Q (⟨none,.store T x y,t,p,e,none⟩::rest) st w:=by
 subst hq;subst hu;obtain⟨hc,hf,a0,ht⟩:=hr.put hn u;refine iK (w':=w.setCell (adr v 1 n) (val u)) (λa ha=>?_) (h _ a0 ?_)
 ·simp only[execOp,ha.ev hx,ha.ev hy];generalize val u=uv at *
  cases uv<;>simp[ME]at h1<;>simp[Nv,Mq,storeVar,hT,Pd,storeCells,store,MX,hc,hf,Mc]
 refine⟨rfl,rfl,rfl,by simp[N7],λk _ hn=>Nf _ _ _ _ (λe=>hn (by rw[e];exact ht)),λ_ _=>rfl,λ_ h=>.inl h,λh=>a1 h.symm⟩
end
end Go.VL
end
section
namespace Go.VL
def Calm(Q:Md->MB->ln->Prop):Md->MB->ln->Prop
 |.panic _,_,_=>False
 |e,a,w=>Q e a w
theorem Calm.imp:∀ {e:Md} {a:MB} {w:ln},Calm Q e a w->Q e a w:=by
 intro e a w h
 cases e<;>first|exact h|exact h.elim
section
variable(P:L5)(N:Nat)
def WH(ops:Array LY)(S:ln->Prop)(Q:Md->MB->ln->Prop)(a1:Nat)(a0:Array Bool)(st:St)(w:ln):Prop:=
 ∀a,Fits N a st->wpAnyH P .any ops (Calm Q) S a1 a0 a w
end
section
variable{P:L5}{N:Nat}{ops:Array LY}{S:ln→Prop}{Q:Md→MB→ln→Prop}{st:St}{w:ln}{fuel:Nat}{listed:Array Bool}
theorem aQ{l:List LY}(S:ln->Prop)(n:Nat)(hn:l.length=n)(hm:P.follows .mixedOrders=true)
  (h:WH P N l.toArray S Q n (Ph n false) st w.drew):WC P N (Pg id l.toArray true) Q st w:=λa ha=>by
 refine wp_mono (Q:=Calm Q) (wp_region_held (S:=S) hm ?_) λe a w h=>h.imp
 have:=h a ha;simp only[P9,hn];exact this
theorem WH.take{op:Op}{p:String}{e:Array MR}(i:Nat)(hi:ops[i]? = some ⟨some d,op,t,p,e,none⟩)
  (hs:M0 ops=true) (hf:Mf .any ops listed i=true) (hr:(LX .any ops listed).contains i=true) (hS:S w)
  (hv:∀w',S w'->RV P N op t st w' v) (hd:L3 d N=true) (h:WH P N ops S Q fuel (listed.setIfInBounds i true) ((d,v)::st) w):WH P N ops S Q (fuel+1) listed st w:=by
 intro a ha;apply wpAnyH_take (v:=v) hi hs hf hr (λ_ _ _ h=>h) (.inl ⟨by simp[M4],λw' a0=>hv w' a0 a ha _ _ _ _⟩) hS;exact h _ (ha.put hd v)
theorem vN{op:Op}{p:String}{e:Array MR}(i:Nat)(hi:ops[i]? = some ⟨some d,op,t,p,e,some (j,b)⟩)(hg:said ops st j=some b)
  (hs:M0 ops=true) (hf:Mf .any ops listed i=true) (hr:(LX .any ops listed).contains i=true) (hS:S w)
  (hv:∀w',S w'->RV P N op t st w' v) (hd:L3 d N=true) (h:WH P N ops S Q fuel (listed.setIfInBounds i true) ((d,v)::st) w):WH P N ops S Q (fuel+1) listed st w:=by
 intro a ha;apply wpAnyH_take (v:=v) hi hs hf hr (λ_ _ _ h=>h) (.inl ⟨by simp[M4,cH ha hg],λw' a0=>hv w' a0 a ha _ _ _ _⟩) hS;exact h _ (ha.put hd v)
theorem Bl{op:Op}{p:String}{e:Array MR}(i:Nat)(hi:ops[i]? = some ⟨some d,op,t,p,e,some (j,b)⟩)(hg:said ops st j=some b')(a0:(b'==b)=false)
  (hs:M0 ops=true) (hf:Mf .any ops listed i=true) (hr:(LX .any ops listed).contains i=true) (hS:S w)
  (hd:L3 d N=true) (h:WH P N ops S Q fuel (listed.setIfInBounds i true) ((d,undef)::st) w):WH P N ops S Q (fuel+1) listed st w:=by
 intro a ha;refine wpAnyH_take (v:=undef) hi hs hf hr (λ_ _ _ h=>h) (.inr ⟨?_,rfl⟩) hS ?_
 ·have:(b'==b)=false:=a0;simp[M4,cH ha hg];simpa using this
 exact h _ (ha.put hd undef)
theorem yx{op:Op}{p:String}{e:Array MR}(i:Nat)(hi:ops[i]? = some ⟨some d,op,t,p,e,some (j,b)⟩)(hg:jN ops st j=true)
  (hs:M0 ops=true) (hf:Mf .any ops listed i=true) (hr:(LX .any ops listed).contains i=true) (hS:S w)
  (hd:L3 d N=true) (h:WH P N ops S Q fuel (listed.setIfInBounds i true) ((d,undef)::st) w):WH P N ops S Q (fuel+1) listed st w:=by
 intro a ha;refine wpAnyH_take (v:=undef) hi hs hf hr (λ_ _ _ h=>h) (.inr ⟨?_,rfl⟩) hS ?_
 ·unfold jN at hg;simp only[M4,yielded]
  cases hd:(ops[j]?).bind (·.dst)with
  |none=>rw[hd]at hg;simp at hg
  |some d=>
   rw[hd]at hg;simp only at hg
   cases hx:cO st d with
   |none=>rw[hx]at hg;simp at hg
   |some v=>
    rw[hx]at hg
    cases v<;>simp at hg
    simp[ha.get _ _ hx]
 exact h _ (ha.put hd undef)
def tD(P:L5)(ops:Array LY)(S:ln->Prop)(Q:Md->MB->ln->Prop)(a1:Nat)(a0:Array Bool):Md->MB->ln->Prop:=
 Exit.then (λa' w'=>S w'/\wpAnyH P .any ops (Calm Q) S a1 a0 a' w') (Calm Q)
theorem aa(hS:S w)(h:WH P N ops S Q fuel (listed.setIfInBounds i true) st w):QF N (tD P ops S Q fuel (listed.setIfInBounds i true)) .normal st w:=λa ha=>⟨hS,h a ha⟩
theorem WH.all(rs:List Nat)(hr:LX .any ops listed=rs)(a0:rs≠[])
  (h:∀i∈rs,∀o,ops[i]? = some o->WL P N ops (tD P ops S Q fuel (listed.setIfInBounds i true)) [o] st w):WH P N ops S Q (fuel+1) listed st w:=by
 intro a ha;refine wpAnyH_all hr a0 λi hi=>?_
 have a1:∃o,ops[i]? = some o:=by
  rw[<-hr]at hi;simp only[LX,NI,Nr]at hi;exact⟨_,Array.getElem?_eq_getElem hi.1⟩
 obtain⟨o,ho⟩:=a1;have h1:=h i hi o ho a ha;unfold wpOp;simp only[ho];unfold wpList at h1
 split
 ·rename_i hw;rw[if_pos hw]at h1;refine h1.imp (λh2=>?_) (fun⟨h2,h3⟩=>⟨h2,h3⟩);unfold MT at h2 ⊢;generalize (execOp a.eval o).run P w=r at *
  cases r with
  |ok n w'=>
   cases n<;>simp only[NB]at h2 ⊢<;>first
    |exact h2
    |exact Mn h2 (λe w'' he=>by cases e<;>exact he)
    |exact Ql h2 (λ_ _ he=>he)
  |halt x w'=>cases x<;>simp only[NB]at h2 ⊢<;>exact h2
 rename_i hw;rw[if_neg hw]at h1;exact h1
theorem WH.one(i:Nat)(hr:LX .any ops listed=[i])(hi:ops[i]? = some o)
  (h:WL P N ops (tD P ops S Q fuel (listed.setIfInBounds i true)) [o] st w):WH P N ops S Q (fuel+1) listed st w:=
 WH.all [i] hr (by simp) λj hj o' a0=>by
  simp only[LU]at hj;subst hj;rw[hi]at a0;cases a0;exact h
theorem bB(i j:Nat){o':LY}(hr:LX .any ops listed=[i,j])(hi:ops[i]? = some o)(hj:ops[j]? = some o')
  (h:WL P N ops (tD P ops S Q fuel (listed.setIfInBounds i true)) [o] st w) (h':WL P N ops (tD P ops S Q fuel (listed.setIfInBounds j true)) [o'] st w):WH P N ops S Q (fuel+1) listed st w:=
 WH.all [i,j] hr (by simp) λk hk q hq=>by
  simp only[QJ,List.not_mem_nil,or_false]at hk
  rcases hk with rfl|rfl
  ·rw[hi]at hq;cases hq;exact h
  rw[hj]at hq;cases hq;exact h'
theorem dC(hs:cO st d=some (.bool b))(hb:b=b')(h:WH P N ops S Q fuel listed ((d,.bool b')::st) w):WH P N ops S Q fuel listed st w:=by
 subst hb;refine λa ha=>h a ⟨ha.size,ha.defers,λt v hv=>?_⟩
 simp only[cO]at hv
 cases hb:Mh d t with
 |true=>rw[hb]at hv;have:=LP hb;subst this;simp at hv;subst hv;exact ha.get _ _ hs
 |false=>rw[hb]at hv;exact ha.get _ _ hv
theorem WH.done(hr:LX .any ops listed=[])(h:QF N Q .normal st w):WH P N ops S Q fuel listed st w:=λa ha=>wpAnyH_done (Q:=Calm Q) hr (show Calm Q .normal a w from h a ha) fuel
end
section
variable(P:L5)(N:Nat)
def WS(ops:Array LY)(w:ln)(K:MB->Prop)(l:List LY)(st:St):Prop:=∀a,Fits N a st->wpStill P ops w K l a
end
section
variable{P:L5}{N:Nat}{ops:Array LY}{Q:Md→MB→ln→Prop}{K:MB→Prop}{st:St}{w:ln}{rest:List LY}
theorem WC.tail{l hd:List LY}(n:Nat)(ht:l.take n=hd)(a0:l.drop n=tl)(hm:P.follows .mixedOrders=true)(hB:Region.lexTailB .any l.toArray n=true)
  (h:WS P N l.toArray w.drew (λa'=>wpList P l.toArray Q tl a' w.drew) hd st):WC P N (Pg id l.toArray true) Q st w:=λa ha=>by
 subst ht;subst a0;exact wp_region_still_tail n hm hB (h a ha)
theorem WC.still{l:List LY}(hm:P.follows .mixedOrders=true)(hB:Region.lexB .any l.toArray=true)
  (h:WS P N l.toArray w.drew (λa'=>Q .normal a' w.drew) l st):WC P N (Pg id l.toArray true) Q st w:=λa ha=>by
 exact wp_region_still_lit hm hB (h a ha)
theorem WS.go(h:WL P N ops Q tl st w):WS P N ops w (λa'=>wpList P ops Q tl a' w) [] st:=λa ha=>h a ha
theorem WS.nil(h:QF N Q .normal st w):WS P N ops w (λa'=>Q .normal a' w) [] st:=λa ha=>h a ha
theorem qo{op:Op}{p:String}{e:Array MR}(hv:RV P N op t st w v)(hd:L3 d N=true)
  (h:WS P N ops w K rest ((d,v)::st)):WS P N ops w K (⟨some d,op,t,p,e,none⟩::rest) st:=λa ha=>by
 unfold wpStill;rw[if_pos (cZ rfl _)];unfold R6;rw[hv a ha];exact⟨rfl,h _ (ha.put hd v)⟩
theorem La{op:Op}{p:String}{e:Array MR}{d:Option Rj}(hs:said ops st j=some b)
  (h:WS P N ops w K (⟨d,op,t,p,e,none⟩::rest) st):WS P N ops w K (⟨d,op,t,p,e,some (j,b)⟩::rest) st:=by
 intro a ha;have h1:=h a ha;unfold wpStill at h1 ⊢;rw[if_pos (by simp[M4])]at h1;rw[if_pos (by simp[M4,cH ha hs])];exact h1
theorem WS.off{op:Op}{p:String}{e:Array MR}(hs:said ops st j=some b')(a0:(b'==b)=false)(hd:L3 d N=true)
  (h:WS P N ops w K rest ((d,undef)::st)):WS P N ops w K (⟨some d,op,t,p,e,some (j,b)⟩::rest) st:=by
 intro a ha;unfold wpStill;rw[if_neg (by simp[M4,cH ha hs];simpa using a0)];exact h _ (ha.put hd undef)
theorem DD{op:Op}{p:String}{e:Array MR}(hs:jN ops st j=true)(hd:L3 d N=true)
  (h:WS P N ops w K rest ((d,undef)::st)):WS P N ops w K (⟨some d,op,t,p,e,some (j,b)⟩::rest) st:=by
 intro a ha;unfold wpStill;rw[if_neg ?_]
 ·exact h _ (ha.put hd undef)
 unfold jN at hs;simp only[M4,yielded]
 cases hd:(ops[j]?).bind (·.dst)with
 |none=>rw[hd]at hs;simp at hs
 |some d=>
  rw[hd]at hs;simp only at hs
  cases hx:cO st d with
  |none=>rw[hx]at hs;simp at hs
  |some v=>
   rw[hx]at hs
   cases v<;>simp at hs
   simp[ha.get _ _ hx]
theorem cV{l:List LY}(hs:cO st d=some (.bool b))(hb:b=b')(h:WS P N ops w K l ((d,.bool b')::st)):WS P N ops w K l st:=by
 subst hb;refine λa ha=>h a ⟨ha.size,ha.defers,λt v hv=>?_⟩
 simp only[cO]at hv
 cases hb:Mh d t with
 |true=>rw[hb]at hv;have:=LP hb;subst this;simp at hv;subst hv;exact ha.get _ _ hs
 |false=>rw[hb]at hv;exact ha.get _ _ hv
theorem WS.call{t:L0}{p:String}{e:Array MR}{d:Nat}{f:N2}{args:List L4}{a2:Array L0}{vs:List ix}{v:ix}
  (hf:∀(args:Array ix) (w:ln),(callFunc f args).run P w=.ok (.enter f args) w) (a0:evs st args=some vs) (hc:Ret P f vs w λu w'=>u=v/\w'=w) (hd:L3 d N=true)
  (h:WS P N ops w K rest ((d,v)::st)):WS P N ops w K (⟨some d,.call ⟨.value (.func f),args.toArray,a2⟩,t,p,e,none⟩::rest) st:=by
 intro a ha;unfold wpStill;rw[if_pos (cZ rfl _)];unfold R6;have a1:(execOp a.eval ⟨some d,.call ⟨.value (.func f),args.toArray,a2⟩,t,p,e,none⟩).run P w=.ok (.enter f vs.toArray) w:=by
  simp only[execOp,resolve,MF,L6];rw[ha.evs a0];simp[MD,invoke,hf]
 rw[a1];refine⟨rfl,v,Mn hc λe w' q=>?_,h _ (ha.put hd v)⟩
 cases e with
 |returned u=>exact⟨by rw[q.1],q.2⟩
 |panicked c=>exact q.elim
 |outgrown=>exact q.elim
end
end Go.VL
end
section
namespace Go.VL
section
variable{κ ν:Type}{kv:κ→ix}{vv:ν→ix}
structure MapO{κ ν:Type}(kv:κ->ix)(vv:ν->ix)(O:Nat->Nat)(w:ln)(i r:Nat)(l:List (κ×ν)):Prop where
 blk:∃es clock,w.heap[r]? = some (.map es clock)/\es.toList.map (λe=>(e.key,e.val))=l.map λp=>(kv p.1,vv p.2)
 tag:O r=i
 born:∀es clock,w.heap[r]? = some (.map es clock)->(es.toList.map (·.born)).Nodup/\∀e∈es.toList,e.born<clock
theorem MapO.upd{l:List (κ×ν)}(h:MapO kv vv O w i r l)(u:Upd S O w O' w')(hi:i≠0)(hS:¬S i):MapO kv vv O' w' i r l:=by
 obtain⟨es,c,h1,h2⟩:=h.blk;have e:=u.blk r (bL h1) (by rw[h.tag];exact hS);exact⟨⟨es,c,by rw[e];exact h1,h2⟩,by rw[u.tag r (by rw[h.tag];exact hi),h.tag],λa0 c' h'=>h.born a0 c' (by rw[<-e];exact h')⟩
theorem MapO.new(O:Nat->Nat)(w:ln)(i:Nat):MapO kv vv (lV O w.heap.size i) (w.alloc (.map #[] 0)) i w.heap.size []:=⟨⟨#[],0,heap_alloc_new w _,by simp⟩,eG _ _ _,λes c h=>by rw[heap_alloc_new]at h;cases h;simp⟩
end
section
variable{κ ν:Type}[DecidableEq κ]
def bI:List (κ×ν)->κ->Option ν
 |[],_=>none
 |(a,x)::r,k=>if a=k then some x else bI r k
def cU:List (κ×ν)->κ->ν->List (κ×ν)
 |[],k,x=>[(k,x)]
 |(a,y)::r,k,x=>if a=k then(k,x)::r else(a,y)::cU r k x
def jn:List (κ×ν)->κ->Option Nat
 |[],_=>none
 |(a,_)::r,k=>if a=k then some 0 else(jn r k).map (· + 1)
theorem bn(l:List (κ×ν))(k k':κ)(x:ν):bI (cU l k x) k'=if k=k' then some x else bI l k':=by
 induction l with
 |nil=>simp[cU,bI]
 |cons p r ih=>
  obtain⟨a,y⟩:=p;simp only[cU]
  by_cases h:a=k
  ·subst h;simp only[if_pos,bI]
   by_cases h2:a=k'<;>simp[h2]
  simp only[if_neg h,bI]
  by_cases h2:a=k'
  ·subst h2;simp only[if_true];rw[if_neg (λe=>h e.symm)]
  simp[h2,ih]
structure KeyL(P:L5)(K:L0)(kv:κ->ix):Prop where
 check:∀b n k w,(MZ b (n+2) K (kv k)).run P w=.ok () w
 find:∀k (es:List M9) (ks:List κ) w,es.map (·.key)=ks.map kv->(NZ K (kv k) es).run P w=.ok ((ks.findIdx? (· = k)).bind λi=>(es[i]?).map λe=>(i,e.val)) w
 same:∀k,NQ 10000 (kv k) (kv k)=true
theorem KeyL.int{P:L5}{K:L0}{q:LW}(hK:P.underlying K=some (.int q)):KeyL P K (λn:Int=>N5 q n):=by
 refine⟨λb n k w=>?_,λk es ks w h=>?_,λk=>?_⟩
 ·simp[MZ,run_underlying hK]
 ·have key:∀(es:List M9) (ks:List Int) (j:Nat),es.map (·.key)=ks.map (λn=>N5 q n)->
    MQ (.int q) (.int q k) es j=some ((ks.findIdx? (· = k)).bind λi=>(es[i]?).map λe=>(j+i,e.val)):=by
   intro es
   induction es with
   |nil=>intro ks j h;cases ks with
    |nil=>simp[MQ]
    |cons a r=>simp at h
   |cons e es ih=>
    intro ks j h
    cases ks with
    |nil=>simp at h
    |cons a r=>
     simp only[L9,Mv]at h;simp only[MQ,h.1,Pr,if_true]
     by_cases hk:k=a
     ·subst hk;simp[Mu]
     have:(k==a)=false:=by simpa using hk
     rw[this];simp only;rw[ih r (j+1) h.2];simp only[Mu,decide_eq_true_eq];rw[if_neg (λe=>hk e.symm)]
     cases hf:Pw (λx=>decide (x=k)) r with
     |none=>simp
     |some i=>simp[P4,PL 1]
  have:=key es ks 0 h;simp only[Mg]at this;simp[NZ,run_underlying hK,this]
 simp[NQ]
theorem GO(a b:ByteArray):(a==b)=decide (a=b):=by
 cases a with|mk a=>cases b with|mk b=>
 show(a==b)=_
 by_cases h:a=b
 ·subst h;simp
 have:(a==b)=false:=by simpa using h
 rw[this];symm;simpa using h
theorem KeyL.str{K:L0}(hK:P.underlying K=some .string):KeyL P K QE:=by
 refine⟨λb n k w=>?_,λk es ks w h=>?_,λk=>?_⟩
 ·simp[MZ,run_underlying hK]
 ·have key:∀(es:List M9) (ks:List ByteArray) (j:Nat),es.map (·.key)=ks.map QE->
    MQ .string (.string k) es j=some ((ks.findIdx? (· = k)).bind λi=>(es[i]?).map λe=>(j+i,e.val)):=by
   intro es
   induction es with
   |nil=>intro ks j h;cases ks with
    |nil=>simp[MQ]
    |cons a r=>simp at h
   |cons e es ih=>
    intro ks j h
    cases ks with
    |nil=>simp at h
    |cons a r=>
     simp only[L9,Mv]at h;simp only[MQ,h.1,Pr,GO]
     by_cases hk:k=a
     ·subst hk;simp[Mu]
     have:decide (k=a)=false:=by simpa using hk
     rw[this];simp only;rw[ih r (j+1) h.2];simp only[Mu,decide_eq_true_eq];rw[if_neg (λe=>hk e.symm)]
     cases hf:Pw (λx=>decide (x=k)) r with
     |none=>simp
     |some i=>simp[P4,PL 1]
  have:=key es ks 0 h;simp only[Mg]at this;simp[NZ,run_underlying hK,this]
 simp[NQ,GO]
variable{kv:κ→ix}{vv:ν→ix}
theorem eE:∀(l:List (κ×ν)) (k:κ),(l.map (·.1)).findIdx? (· = k)=jn l k
 |[],k=>rfl
 |(a,x)::r,k=>by
  simp only[L9,Mu,jn,decide_eq_true_eq]
  by_cases h:a=k
  ·simp[h]
  simp only[if_neg h];rw[eE r k]
theorem lH:∀(l:List (κ×ν)) (k:κ),bI l k=(jn l k).bind λi=>(l[i]?).map (·.2)
 |[],k=>rfl
 |(a,x)::r,k=>by
  simp only[bI,jn]
  by_cases h:a=k
  ·simp[h]
  simp only[if_neg h];rw[lH r k]
  cases jn r k<;>simp
theorem eP:∀(l:List (κ×ν)) (k:κ) (x:ν),cU l k x=match jn l k with
  |some i=>l.set i (k,x)
  |none=>l++[(k,x)]
 |[],k,x=>rfl
 |(a,y)::r,k,x=>by
  simp only[cU,jn]
  by_cases h:a=k
  ·simp[h]
  simp only[if_neg h];rw[eP r k x]
  cases jn r k<;>simp
theorem iJ:∀ {l:List (κ×ν)} {k:κ} {i:Nat},jn l k=some i->∃x,l[i]? = some (k,x)
 |(a,x)::r,k,i,h=>by
  simp only[jn]at h
  by_cases hk:a=k
  ·subst hk;simp at h;subst h;exact⟨x,rfl⟩
  rw[if_neg hk]at h
  cases hr:jn r k with
  |none=>rw[hr]at h;simp at h
  |some j=>
   rw[hr]at h;simp at h;subst h;obtain⟨y,hy⟩:=iJ hr;exact⟨y,by simpa using hy⟩
def I3(vv:ν->ix)(z:ix):Option ν->ix
 |some x=>vv x
 |none=>z
def GR(vv:ν->ix)(z:ix):Option ν->ix
 |some x=>.tuple #[vv x,.bool true]
 |none=>.tuple #[z,.bool false]
theorem jz{K:L0}(hT:P.underlying T=some (.map K E))(hK:KeyL P K kv){l:List (κ×ν)}(h:MapO kv vv O w i r l)(hz:(MK E).run P w=.ok z w)(k:κ)(ok:Bool):
  (QN T (.map (some r)) (kv k) ok).run P w=.ok (match bI l k with
   |some x=>if ok then .tuple #[vv x,.bool true]else vv x
   |none=>if ok then .tuple #[z,.bool false]else z) w:=by
 obtain⟨es,c,h1,h2⟩:=h.blk;have a0:es.toList.map (·.key)=(l.map (·.1)).map kv:=by
  have:=congrArg (NR PO) h2;simpa[Np]using this
 have hf:=hK.find k es.toList (l.map (·.1)) w a0;rw[eE]at hf;have hc:=hK.check es.isEmpty 9998 k w;simp only[QN,L2,run_underlying hT,L1];simp only[getObj,MX,h1,L2,L1,LQ,hc,hf];rw[lH]
 cases hi:jn l k with
 |none=>simp[hz]
 |some j=>
  obtain⟨x,hx⟩:=iJ hi;have hj:es.toList[j]?.map (λe=>(e.key,e.val))=some (kv k,vv x):=by
   have:=congrArg (λl=>l[j]?) h2;simpa[hx]using this
  cases he:es.toList[j]? with
  |none=>rw[he]at hj;simp at hj
  |some e'=>
   rw[he]at hj;simp at hj;simp only[Nw,he,hx,M1,hj.2]
   cases ok<;>simp
theorem ei{K:L0}(hT:P.underlying T=some (.map K E))(hK:KeyL P K kv){l:List (κ×ν)}(h:MapO kv vv O w i r l)(a':i≠0)(k:κ)(x:ν):
  ∃w',(Ng T (.map (some r)) (kv k) (vv x)).run P w=.ok () w'/\MapO kv vv O w' i r (cU l k x)/\Upd (λj=>j=i) O w O w':=by
 obtain⟨es,c,h1,h2⟩:=h.blk;have a9:es.toList.map (·.key)=(l.map (·.1)).map kv:=by
  have:=congrArg (NR PO) h2;simpa[Np]using this
 have hf:=hK.find k es.toList (l.map (·.1)) w a9;rw[eE]at hf;have hc:=hK.check false 9998 k w;have hr:=bL h1;have a8:es.size=l.length:=by have:=congrArg PS h2;simpa using this
 have a1:=h.born es c h1;have a6:∀(a0:Array M9) (c':Nat),((a0.toList.map (·.born)).Nodup/\∀e∈a0.toList,e.born<c')->a0.toList.map (λe=>(e.key,e.val))=(cU l k x).map (λp=>(kv p.1,vv p.2))->
   MapO kv vv O { w with heap:=w.heap.setIfInBounds r (.map a0 c') } i r (cU l k x)/\Upd (λj=>j=i) O w O { w with heap:=w.heap.setIfInBounds r (.map a0 c') }:=by
  intro a0 c' a4 he;refine⟨⟨⟨a0,c',by simp[hr],he⟩,h.tag,λb0 c2 h2=>by simp[hr]at h2;obtain⟨rfl,rfl⟩:=h2;exact a4⟩,⟨rfl,rfl,rfl,by simp,λb _ hn=>?_,λ_ _=>rfl,λ_ h=>.inl h,λh=>a' h.symm⟩⟩;simp only[MP];rw[if_neg (λe=>hn (by rw[<-e];exact h.tag))]
 have a2:(Ng T (.map (some r)) (kv k) (vv x)).run P w=((match ((jn l k).bind λi=>(es.toList[i]?).map λe=>(i,e.val))with
   |some (i,_)=>do
    let key <-Mr (((es[i]?).map (·.key)).getD (kv k)) (kv k)
    setObj r (.map (es.modify i λe=>{ e with key,val:=vv x }) c)
   |none=>setObj r (.map (es.push { key:=kv k,val:=vv x,born:=c }) (c+1)):Sem Unit)).run P w:=by
  simp only[Ng,L2,run_underlying hT,L1];simp only[getObj,MX,h1,L2,L1,hc,hf];generalize ((jn l k).bind λi=>Pi (λe=>(i,e.val)) es.toList[i]?)=q
  cases q with
  |none=>rfl
  |some p=>rfl
 rw[a2,eP]
 cases hi:jn l k with
 |none=>
  refine⟨_,by simp only[P8,setObj,MX,h1];rfl,?_⟩
  have:=a6 (es.push { key:=kv k,val:=vv x,born:=c }) (c+1) (by
   refine⟨?_,?_⟩
   ·simp only[P7,MW,L9,M5];refine Ns.2 ⟨a1.1,by simp,?_⟩;intro a ha b hb;obtain⟨e,he,rfl⟩:=Mz.1 ha;have:=a1.2 e he;simp at hb;omega
   intro e he;simp only[P7,Mb,LU]at he
   rcases he with he|rfl
   ·have:=a1.2 e he;omega
   simp) (by rw[eP,hi];simp[h2])
  rw[eP,hi]at this;exact this
 |some j=>
  obtain⟨y,hy⟩:=iJ hi;have hj:es.toList[j]?.map (λe=>(e.key,e.val))=some (kv k,vv y):=by
   have:=congrArg (λl=>l[j]?) h2;simpa[hy]using this
  cases he:es.toList[j]? with
  |none=>rw[he]at hj;simp at hj
  |some e'=>
   rw[he]at hj;simp at hj;have a3:es[j]? = some e':=by simpa using he
   have a7:(Mr (kv k) (kv k))=pure (kv k):=by simp[Mr,hK.same k]
   refine⟨_,by simp only[Nw,he,M1,a3,hj.1,Q9,a7,L2,LQ,L1,setObj,MX,h1];rfl,?_⟩;have a5:((es.modify j λe=>{ e with key:=kv k,val:=vv x }).toList.map (·.born))=es.toList.map (·.born):=by
    simp only[NV];apply Pa;intro m;simp only[Nu,NS]
    split
    ·cases es.toList[m]?<;>simp
    cases es.toList[m]?<;>simp
   have:=a6 (es.modify j λe=>{ e with key:=kv k,val:=vv x }) c (by
    rw[a5];refine⟨a1.1,λe he=>?_⟩;have:e.born∈es.toList.map (·.born):=by rw[<-a5];exact Mz.2 ⟨e,he,rfl⟩
    obtain⟨e2,a3,q⟩:=Mz.1 this;have:=a1.2 e2 a3;omega) (by
    rw[eP,hi];simp only[NV];apply Pa;intro m;have h2m:=congrArg (λl=>l[m]?) h2;simp only[Nu]at h2m;simp only[Nu,NS,List.getElem?_set]
    by_cases hm:j=m
    ·subst hm;have hl:=(M7.1 hy).1;simp[he,hl]
    simp only[if_neg hm]
    simpa using h2m)
   rw[eP,hi]at this;exact this
section
variable{P:L5}{N:Nat}{ops:Array LY}{Q:Md→MB→ln→Prop}{rest:List LY}{st:St}{w:ln}
variable{t:L0}{p:String}{e:Array MR}{d:Nat}{x y z:L4}
theorem WL.makeMap{T:L0}(hd:L3 d N=true)(h:WL P N ops Q rest ((d,.map (some w.heap.size))::st) (w.alloc (.map #[] 0))):WL P N ops Q (⟨some d,.makeMap T none,t,p,e,none⟩::rest) st w:=
 WL.val hd (λa ha=>by simp only[execOp,MG,L2];rfl) h
theorem RV.lookup{T K E:L0}{O:Nat->Nat}{i r:Nat}{l:List (κ×ν)}(hm:MapO kv vv O w i r l)(hT:P.underlying T=some (.map K E))(hK:KeyL P K kv){z:ix}(hz:(MK E).run P w=.ok z w)
  (k:κ) {kx u:ix} (hx:ev st x=some (.map (some r))) (hy:ev st y=some kx) (hk:kx=kv k) (hu:I3 vv z (bI l k)=u):RV P N (.lookup T x y false) t st w u:=
 λa ha a0 p e g=>by
  subst hk;subst hu;simp only[execOp,ha.ev hx,ha.ev hy,L2,jz hT hK hm hz]
  cases bI l k<;>simp[I3]
theorem di{T K E:L0}{O:Nat->Nat}{i r:Nat}{l:List (κ×ν)}(hm:MapO kv vv O w i r l)(hT:P.underlying T=some (.map K E))(hK:KeyL P K kv){z:ix}(hz:(MK E).run P w=.ok z w)
  (k:κ) {kx u:ix} (hx:ev st x=some (.map (some r))) (hy:ev st y=some kx) (hk:kx=kv k) (hu:GR vv z (bI l k)=u):RV P N (.lookup T x y true) t st w u:=
 λa ha a0 p e g=>by
  subst hk;subst hu;simp only[execOp,ha.ev hx,ha.ev hy,L2,jz hT hK hm hz]
  cases bI l k<;>simp[GR]
theorem WL.mapUpdate{T K E:L0}{O:Nat->Nat}{i r:Nat}{l:List (κ×ν)}(hm:MapO kv vv O w i r l)(hT:P.underlying T=some (.map K E))(hK:KeyL P K kv)(a0:i≠0)
  (k:κ) (u:ν) {kx ux:ix} (hx:ev st x=some (.map (some r))) (hy:ev st y=some kx) (hz:ev st z=some ux) (hk:kx=kv k) (hu:ux=vv u)
  (h:∀w',MapO kv vv O w' i r (cU l k u)->Upd (λj=>j=i) O w O w'->WL P N ops Q rest st w'):WL P N ops Q (⟨none,.mapUpdate T x y z,t,p,e,none⟩::rest) st w:=by
 subst hk;subst hu;obtain⟨w',h1,h2,h3⟩:=ei hT hK hm a0 k u;exact iK (λa ha=>by simp only[execOp,ha.ev hx,ha.ev hy,ha.ev hz,L2,h1,L1,LQ]) (h w' h2 h3)
end
end
end Go.VL
end
section
namespace Go.VL
theorem I1[Inhabited α](h:∀j,j<l.length->p (nth l j)=true):l.all p=true:=by
 rw[Qq];intro x hx;obtain⟨i,hi,rfl⟩:=Q3 hx;rw[<-aB hi];exact h i hi
theorem xF[Inhabited α](hj:j<l.length)(h:p (nth l j)=false):l.all p=false:=by
 rw[List.all_eq_false];exact⟨l[j],N9 hj,by rw[<-aB hj,h];simp⟩
theorem aW[Inhabited α](hj:j<l.length):nth l j∈l:=by rw[aB hj];exact N9 hj
theorem aY[Inhabited α](hj:j<l.length):l.take (j+1)=l.take j++[nth l j]:=by
 rw[N0 hj,aB hj]
theorem ck[Inhabited α]{x:α}(hx:x∈l):∃j,j<l.length/\nth l j=x:=by
 obtain⟨i,hi,rfl⟩:=Q3 hx;exact⟨i,hi,aB hi⟩
def jj(q:Nat->Bool)(n:Nat):Bool:=(MH n).any q
theorem eD{q:Nat->Bool}:jj q n=true↔∃i,i<n/\q i=true:=by simp[jj]
theorem bK{q:Nat->Bool}:jj q n=false↔∀i,i<n->q i=false:=by simp[jj]
theorem Bi{q r:Nat->Bool}(h:∀i,i<n->q i=r i):jj q n=jj r n:=by
 cases hq:jj r n with
 |true=>obtain⟨i,hi,hr⟩:=eD.1 hq;exact eD.2 ⟨i,hi,by rw[h i hi,hr]⟩
 |false=>exact bK.2 λi hi=>by rw[h i hi];exact bK.1 hq i hi
theorem iI[Inhabited α]:jj (λi=>p (nth l i)) l.length=l.any p:=by
 cases h:l.any p with
 |true=>
  obtain⟨x,hx,hp⟩:=ND.1 h;obtain⟨i,hi,rfl⟩:=ck hx;exact eD.2 ⟨i,hi,hp⟩
 |false=>exact bK.2 λi hi=>by have:=List.any_eq_false.1 h _ (aW hi);simpa using this
def ed(q:Nat->Bool)(n:Nat):Int:=match (MH n).find? q with
 |some i=>i
 |none=>-1
theorem cQ{q:Nat->Bool}(h:∀i,i<n->q i=false):ed q n = -1:=by
 have:(MH n).find? q=none:=by rw[Qc];intro x hx;simp[h x (Nr.1 hx)]
 rw[ed,this]
theorem cR{q:Nat->Bool}{k:Nat}(hk:k<n)(hy:q k=true)(a0:∀i,i<k->q i=false):ed q n=k:=by
 have:(MH n).find? q=some k:=by
  rw[List.find?_range_eq_some];exact⟨hy,Nr.2 hk,λj hj=>by simp[a0 j hj]⟩
 rw[ed,this]
theorem firstN_any{q:Nat->Bool}:decide ((0:Int)<=ed q n)=jj q n:=by
 cases h:jj q n with
 |false=>rw[cQ (bK.1 h)];rfl
 |true=>
  obtain⟨i,hi,hq⟩:=eD.1 h;have:∃j,(MH n).find? q=some j:=by
   cases hf:(MH n).find? q with
   |some j=>exact⟨j,rfl⟩
   |none=>rw[Qc]at hf;exact absurd hq (hf i (Nr.2 hi))
  obtain⟨j,hj⟩:=this;rw[ed,hj];simp
theorem eZ[Inhabited α](h:l.length<=j):nth l j=default:=by simp[nth,Mt,NN h]
theorem bt[Inhabited α]{x:α}(hi:i<l.length):nth (l.set i x) j=if j=i then x else nth l j:=by
 by_cases hj:j<l.length
 ·rw[aB (by simpa using hj),aB hj,List.getElem_set]
  by_cases h:i=j<;>simp[h,eq_comm]
 rw[if_neg zo];have:∀l:List α,l.length<=j->nth l j=default:=λl h=>by simp[nth,Mt,NN h]
 rw[this _ (by simp;omega),this _ zo]
theorem ay[Inhabited α]{r:List α}:nth (l++r) j=if j<l.length then nth l j else nth r (j-l.length):=by
 split
 ·rename_i h;rw[aB (by simp;omega),aB h,List.getElem_append_left h]
 rename_i h
 by_cases hj:j-l.length<r.length
 ·rw[aB (by simp;omega),aB hj,List.getElem_append_right zo]
 have:∀(l:List α) (j:Nat),l.length<=j->nth l j=default:=λl j h=>by simp[nth,Mt,NN h]
 rw[this _ _ (by simp;omega),this _ _ zo]
theorem dU[Inhabited α][Inhabited β]{f:α->β}(h:i<l.length):nth (l.map f) i=f (nth l i):=by
 rw[aB (by simpa using h),aB h];simp
end Go.VL
end
section
namespace Go.VL
open Go.ChangeShapes Go.WideShapes Go.ChangeAt Go.RowKit Go.Deep
variable{H:Type}{enc:L0×ix→H}{P:L5}{w:ln}{base:Nat}{held:Bool}
theorem DO{args:List ix}(h:Ret P f args w λv w'=>v=.bool true/\Ext w w'):QY P f args.toArray w λe w'=>e=.returned (.bool true)/\Below w.heap.size w w':=
 Mn h λe w' q=>by
  cases e with
  |returned v=>exact⟨by rw[q.1],q.2⟩
  |panicked c=>exact q.elim
  |outgrown=>exact q.elim
end Go.VL
end
section
namespace Go.VL
open Go.ChangeShapes Go.WideShapes Go.ChangeAt Go.RowKit Go.Deep
section
variable{H:Type}{enc:L0×ix→H}{P:L5}{w:ln}{base:Nat}{held:Bool}
def Rd(enc:L0×ix->H)(P:L5)(w:ln)(base:Nat)(a0:Bool)(t:L0)(cs:List ix):Prop:=∃fuel x,Q4 enc P w base (λ_=>true) a0 fuel t cs=some x
theorem Ld{d:DataW H}{ps:List MemPlace}(h:DataW.Trod enc P w base (λ_=>true) held t v d ps):Rd enc P w base held t v.cells.toList:=by
 obtain⟨a0,hf⟩:=h;exact⟨a0,_,hf⟩
theorem Rd.str(ht:P.underlying t=some .string)(h:Rd enc P w base held t cs):∃s:ByteArray,cs=[.string s]/\s.size<=maxLen:=by
 obtain⟨a0,x,h⟩:=h
 cases a0 with
 |zero=>simp[Q4]at h
 |succ m=>
  unfold Q4 at h;rw[ht]at h
  split at h<;>simp_all
end
end Go.VL
end
section
namespace Go.VL
def evp(st:St):List (Nat×L4)->Option (List (Nat×ix))
 |[]=>some []
 |(i,x)::r=>match ev st x,evp st r with
  |some v,some vs=>some ((i,v)::vs)
  |_,_=>none
section
variable{P:L5}{N:Nat}{ops:Array LY}{Q:Md→MB→ln→Prop}{rest:List LY}{st:St}{w:ln}
variable{t:L0}{p:String}{e:Array MR}{d:Nat}{x y z:L4}
theorem Fits.evp{a:MB}(ha:Fits N a st):∀ {l:List (Nat×L4)} {vs:List (Nat×ix)},evp st l=some vs->l.map (λq=>(q.1,a.eval q.2))=vs:=by
 intro l
 induction l with
 |nil=>intro vs h;simpa[VL.evp]using h.symm
 |cons q r ih=>
  obtain⟨i,x⟩:=q;intro vs h;simp only[VL.evp]at h
  cases h1:VL.ev st x with
  |none=>rw[h1]at h;simp at h
  |some v=>
   cases h2:VL.evp st r with
   |none=>rw[h1,h2]at h;simp at h
   |some vs'=>
    rw[h1,h2]at h;simp at h;subst h;rw[L9,ha.ev h1,ih h2]
def cE(P:L5)(T:L0)(pl:Array (Nat×Nat)):Prop:=
 ∃fs,P.underlying T=some (.struct fs)/\∀w,(fs.mapM λf=>do pure (f.offset,<-Mj f.type):Sem (Array (Nat×Nat))).run P w=.ok pl w
theorem RV.build{T:L0}{pl:Array (Nat×Nat)}{parts:List (Nat×L4)}{vs:List (Nat×ix)}{z:ix}{cells:Array ix}(hp:cE P T pl)(hz:(MK T).run P w=.ok z w)
  (hv:evp st parts=some vs) (hf:No (pl[·]?) z.cells vs=some cells):RV P N (.build T parts.toArray) t st w (.agg cells):=
 λa ha a1 p e g=>by
  obtain⟨fs,hu,a0⟩:=hp;have h1:=ha.evp hv;have e1:(NR (λx:Nat×L4=>match x with|(i,x)=>(i,a.eval x)) parts)=vs:=by rw[<-h1]
  simp only[execOp,QW,L6,e1,L2,hz,L1,run_underlying hu,a0,hf,LQ]
theorem fill_flat(pl:Array (Nat×Nat)):∀(vs:List (Nat×ix)) (cells:Array ix),(vs.all λq=>q.2.oneCell')=true->
  (vs.all λq=>match pl[q.1]? with|some (off,1)=>L3 off cells.size|_=>false)=true->
  No (pl[·]?) cells vs=some (vs.foldl (λcs q=>cs.setIfInBounds (pl.getD q.1 (0,0)).1 q.2) cells)
 |[],cells,_,_=>rfl
 |(i,v)::r,cells,h1,h2=>by
  simp only[QM,LZ]at h1 h2;obtain⟨hv,h1⟩:=h1;obtain⟨hi,h2⟩:=h2
  cases hp:pl[i]? with
  |none=>rw[hp]at hi;simp at hi
  |some q=>
   obtain⟨off,s⟩:=q;rw[hp]at hi
   split at hi
   ·rename_i he;simp only[NP,Pm]at he;obtain⟨rfl,rfl⟩:=he;have a2:=N8 hi;have hc:v.cells = #[v]:=by cases v<;>first|rfl|simp[ME]at hv
    have hg:pl.getD i (0,0)=(off,1):=by simp[L8,hp]
    have a0:∀(f:Array ix->ix×Nat->Array ix),(∀cs c j,f cs (c,j)=cs.setIfInBounds (off+j) c)->(#[v].zipIdx).foldl f cells=cells.setIfInBounds off v:=λf hf=>by
     rw[show(#[v].zipIdx) = #[(v,0)]from rfl];show f cells (v,0)=_;rw[hf];rfl
    have a1:¬(1≠1\/off+1>cells.size):=zo;simp only[No,hp,hc,NK,hg];have e1:((#[v].size:Nat))=1:=rfl;simp only[e1];rw[if_neg (by simp;omega)];rw[a0 _ (λ_ _ _=>rfl)];exact fill_flat pl r _ h1 (by simpa using h2)
   cases hi
theorem aF{T:L0}{pl:Array (Nat×Nat)}{parts:List (Nat×L4)}{vs:List (Nat×ix)}{z:ix}{cells:Array ix}(hp:cE P T pl)(hz:(MK T).run P w=.ok z w)
  (hv:evp st parts=some vs) (h1:(vs.all λq=>q.2.oneCell')=true) (h2:(vs.all λq=>match pl[q.1]? with|some (off,1)=>L3 off z.cells.size|_=>false)=true)
  (hf:vs.foldl (λcs q=>cs.setIfInBounds (pl.getD q.1 (0,0)).1 q.2) z.cells=cells):RV P N (.build T parts.toArray) t st w (.agg cells):=
 RV.build hp hz hv (by rw[fill_flat pl vs _ h1 h2,hf])
theorem uk{b:Nat}{cs us:Array ix}(hb:BlkO O w i b cs E)(hs:us.size=cs.size)(hT:(Mj T).run P w=.ok us.size w)(h1:∀u∈us.toList,u.oneCell'=true):
  (Nv T (nP b) (.agg us)).run P w=.ok () (w.setRow b us):=by
 have:=run_storeCells_at P b 0 E us.toList 0 cs w hb.blk (by simp[hs]) h1;simp only[Mg,QB,MV,NW]at this;rw[PC (by simp[hs]),Mo]at this;simp only[Nv,Mq,storeVar,L2,LQ,L1,Pd,hT];simpa using this
theorem BlkO.setRow{O:Nat->Nat}{w:ln}{i b:Nat}{cs us:Array ix}{E:L0}(h:BlkO O w i b cs E):BlkO O (w.setRow b us) i b us E:=
 ⟨setRow_heap w b cs us E (0,0) h.blk,h.tag⟩
theorem Upd.setRow{S:Nat->Prop}(hz:¬S 0){O:Nat->Nat}{w:ln}{i b:Nat}{us:Array ix}(ht:O b=i)(hS:S i):Upd S O w O (w.setRow b us):=
 ⟨rfl,rfl,rfl,by simp,λk _ hn=>setRow_other w b k _ (λe=>hn (by subst e;rw[ht];exact hS)),λ_ _=>rfl,λ_ h=>.inl h,hz⟩
theorem bG{b:Nat}{cs us:Array ix}(hb:BlkO O w i b cs E)(hs:us.size=cs.size)(hT:(Mj T).run P w=.ok us.size w)(h1:us.toList.all ME=true)
   (hx:ev st x=some (.pointer (some q))) (hq:q=⟨b,0,none⟩) (hy:ev st y=some (.agg us))
  (h:WL P N ops Q rest st (w.setRow b us)):WL P N ops Q (⟨none,.store T x y,t,p,e,none⟩::rest) st w:=
 iK (λa ha=>by
  subst hq
  simp only[execOp,ha.ev hx,ha.ev hy,L2,uk hb hs hT (Qq.1 h1),L1,LQ]) h
theorem aN(r:Rng B O w)(i:Nat)(a0:i≠0)(hx:ev st x=some v)(hd:L3 d N=true)
  (h:∀b w' O',BlkO O' w' i b v.cells E->Upd (λj=>j=i) O w O' w'->Rng B O' w'->Ext w w'->WL P N ops Q rest ((d,nP b)::st) w'):WL P N ops Q (⟨some d,.box E x,t,p,e,none⟩::rest) st w:=by
 have u:=Upd.alloc (S:=λj=>j=i) (λh=>a0 h.symm) r (.cells v.cells E) i;exact WL.box hx hd (h _ _ _ (BlkO.new _ _ _ _ _) u (r.upd u) (Ext.alloc _ _))
theorem ar{B:Nat}{O:Nat->Nat}(r:Rng B O w)(i:Nat)(a0:i≠0){E:L0}{z:ix}(hz:(MK E).run P w=.ok z w)(hd:L3 d N=true)
  (h:∀b w' O',BlkO O' w' i b z.cells E->Upd (λj=>j=i) O w O' w'->Rng B O' w'->Ext w w'->WL P N ops Q rest ((d,nP b)::st) w'):WL P N ops Q (⟨some d,.alloc E,t,p,e,none⟩::rest) st w:=by
 have u:=Upd.alloc (S:=λj=>j=i) (λh=>a0 h.symm) r (.cells z.cells E) i;exact WL.alloc hz hd (h _ _ _ (BlkO.new _ _ _ _ _) u (r.upd u) (Ext.alloc _ _))
theorem BlkO.cellsAdd{b:Nat}{cs:Array ix}(h:BlkO O w i b cs E):∀j u,cs.toList[j]? = some u->w.cell? (nA b j)=some u:=λj u hu=>by
 rw[show(nA b j)=⟨b,j,none⟩from by simp only[Mc];split<;>simp_all];exact h.cell j (by simpa using hu)
end
section
variable{P:L5}{N:Nat}{st:St}{w:ln}{fn:QR}{R:ix→ln→Prop}
theorem dO(hc:∀j u,us[j]? = some u->w.cell? (q.add j)=some u)(hT:(PF T).run P w=.ok true w)(hn:(Mj T).run P w=.ok us.length w):
  (loadVar T q).run P w=.ok (.agg us.toArray) w:=by
 have:=run_loadCellsFrom (P:=P) us 0 #[] (q:=q) (w:=w) (by simpa using hc);simp[loadVar,hT,hn,loadCells,this]
theorem aL{t:Rj}(hr:fn.results = #[.cell t T])(hv:cO st t=some (.pointer (some q)))
  (hc:∀j u,us[j]? = some u->w.cell? (q.add j)=some u) (hT:(PF T).run P w=.ok true w) (hn:(Mj T).run P w=.ok us.length w) (h:R (.agg us.toArray) w):QF N (RP P fn R) .ret st w:=λa ha=>
 ⟨ha.defers,_,by have h1:=ha.get _ _ hv;simp[results,hr,L8,h1,asAddr,dO hc hT hn],h⟩
theorem bE{t u:Rj}(hr:fn.results = #[.cell t T,.tmp u])(hv:cO st t=some (.pointer (some q)))(a0:cO st u=some v')
  (hc:∀j u,us[j]? = some u->w.cell? (q.add j)=some u) (hT:(PF T).run P w=.ok true w) (hn:(Mj T).run P w=.ok us.length w) (h:R (.tuple #[.agg us.toArray,v']) w):QF N (RP P fn R) .ret st w:=λa ha=>
 ⟨ha.defers,_,by have h1:=ha.get _ _ hv;have h2:=ha.get _ _ a0;simp[results,hr,L8,h1,h2,asAddr,dO hc hT hn],h⟩
end
theorem yA{g:Nat}{cells:Array ix}(hb:w.heap[g]? = some (.cells cells E (0,0)))(hc:cells.toList=xs.flatMap enc)(hz:∀x∈xs,(enc x).length=sz)(hm:xs.length<=9223372036854775807):
  Sl enc sz w (.slice (some ⟨g,0,none⟩) xs.length xs.length) xs:=by
 refine⟨⟨_,_,rfl,M8 _,hm,λ_=>⟨g,0,rfl⟩⟩,λi hi j u hu=>?_⟩;have h:=fg xs hz i hi j u hu;have ha:((adr (.slice (some ⟨g,0,none⟩) xs.length xs.length) sz i).add j)=⟨g,i*sz+j,none⟩:=by
  simp only[adr,Mc];split<;>simp_all
 rw[ha,cell_of_row w g _ cells E (0,0) hb];rw[<-hc]at h;simpa using h
section
variable{P:L5}{N:Nat}{ops:Array LY}{Q:Md→MB→ln→Prop}{rest:List LY}{st:St}{w:ln}
variable{t:L0}{p:String}{e:Array MR}{d:Nat}
theorem cp{parts:List (Nat×L4)}{vs:List (Nat×ix)}(hu:P.underlying T=some (.slice E))(hE:(Mj E).run P w=.ok sz w)(hz:(MK E).run P w=.ok z w)
   (enc:α->List ix) (xs:List α) (hn:xs.length=n) (hv:evp st parts=some vs) (a4:PJ (n*sz) 16777216=true) (a1:Mh (n*sz) 0=false)
  (hf:No (λi=>some (i*sz,sz)) ((Array.range (n*sz)).map (z.cells[· % z.cells.size]!)) vs=some (xs.flatMap enc).toArray) (a2:∀x∈xs,(enc x).length=sz) (hd:L3 d N=true)
  (h:∀v w',Sl enc sz w' v xs->Ext w w'->WL P N ops Q rest ((d,v)::st) w'):WL P N ops Q (⟨some d,.buildSlice T n parts.toArray,t,p,e,none⟩::rest) st w:=by
 subst hn;have a3:=N8 a4;have a0:¬xs.length*sz=0:=λe=>by rw[e]at a1;simp at a1
 have a5:xs.length<=xs.length*sz:=Nat.le_mul_of_pos_right _ (Qi λe=>a0 (by rw[e,Nat.mul_zero]));refine WL.val (v:=.slice (some ⟨w.heap.size,0,none⟩) xs.length xs.length) (w':=w.alloc (.cells (xs.flatMap enc).toArray E)) hd (λa ha=>?_) (h _ _ (yA (heap_alloc_new w _) rfl a2 zo) (Ext.alloc _ _));have h1:=ha.evp hv;have e1:(NR (λx:Nat×L4=>match x with|(i,x)=>(i,a.eval x)) parts)=vs:=by rw[<-h1]
 simp only[execOp,Instr.buildSlice,L6,e1,L2,run_underlying hu,L1,hE];rw[if_neg zo,if_neg a0];simp[hz,hf,newRow,newObj];rfl
end
end Go.VL
end
section
namespace Go.VL
section
variable{P:L5}{N:Nat}{ops:Array LY}{Q:Md→MB→ln→Prop}{rest:List LY}{st:St}{w:ln}
theorem gw(K:Md->MB->ln->Prop):∀(l r:List LY) (a:MB) (w:ln),(∀e a w,K e a w->e≠.normal->Q e a w)->(∀a w,K .normal a w->wpList P ops Q r a w)->wpList P ops K l a w->wpList P ops Q (l++r) a w
 |[],r,a,w,_,hn,h=>hn a w h
 |o::l,r,a,w,hx,hn,h=>by
  simp only[Me];unfold wpList at h ⊢;have ih:=λa w=>gw K l r a w hx hn
  have a1:∀c a w,K (.panic c) a w->Q (.panic c) a w:=λc a w h=>hx _ a w h (by intro h;cases h)
  split
  ·rename_i hw;rw[if_pos hw]at h
   rcases h with h|⟨h1,a0,w0,h2⟩
   ·left;unfold MT at h ⊢;generalize (execOp a.eval o).run P w=q at *
    cases q with
    |ok n w'=>
     cases n<;>simp only[NB]at h ⊢<;>first
      |exact ih _ _ h
      |exact h.elim
      |exact Ql h (λ_ _ he=>ih _ _ he)
      |exact Mn h (λe w'' he=>by
       cases e with
       |returned v=>exact ih _ _ he
       |panicked c=>exact a1 _ _ _ he
       |outgrown=>obtain⟨a0,w0,he⟩:=he;exact⟨a0,w0,hx _ a0 w0 he (by intro h;cases h)⟩)
    |halt x w'=>cases x<;>simp only[NB]at h ⊢<;>first|exact a1 _ _ _ h|exact h.elim
   exact .inr ⟨h1,a0,w0,hx _ a0 w0 h2 (by intro h;cases h)⟩
  rename_i hw;rw[if_neg hw]at h;exact ih _ _ h
def Jj(N:Nat)(S:ln->Prop)(tB:Nat)(b:Bool)(st:St):Md->MB->ln->Prop:=λe a w=>e=.normal/\S w/\Fits N a st/\a.tmps[tB]? = some (.bool b)
def uD(N:Nat)(ops:Array LY)(st:St):List LY->Bool
 |[]=>true
 |o::r=>(match o.guard with
  |some (i,c)=>(match (ops[i]?).bind (·.dst)with
   |some d=>(match cO st d with
    |some (.bool x)=>!(x==c)
    |some (.tuple _)=>true
    |_=>false)
   |none=>false)
  |none=>false)&&(match o.dst with|some d=>(match cO st d with|none=>true|_=>false)&&L3 d N&&uD N ops ((d,undef)::st) r|none=>false)
theorem sj:∀(l:List LY) (st0 st:St) (a:MB),uD N ops st l=true->(∀t v,cO st0 t=some v->cO st t=some v)->Fits N a st->(∀a',Fits N a' st0->wpList P ops Q rest a' w)->wpList P ops Q (l++rest) a w
 |[],st0,st,a,_,hc,ha,h=>h a ⟨ha.size,ha.defers,λt v hv=>ha.get t v (hc t v hv)⟩
 |o::l,st0,st,a,hp,hc,ha,h=>by
  simp only[uD,LZ]at hp;obtain⟨hg,hd⟩:=hp
  cases a2:o.dst with
  |none=>rw[a2]at hd;simp at hd
  |some d=>
   rw[a2]at hd;simp only[LZ]at hd;obtain⟨⟨a4,a6⟩,a5⟩:=hd;have a0:cO st d=none:=by cases h:cO st d with|none=>rfl|some v=>rw[h]at a4;simp at a4
   simp only[Me];unfold wpList;rw[if_neg ?_]
   ·rw[a2];refine sj l st0 ((d,undef)::st) _ a5 (λt v hv=>?_) (ha.put a6 undef) h;have h1:=hc t v hv;simp only[cO]
    cases hb:Mh d t with
    |true=>have:=LP hb;subst this;rw[a0]at h1;simp at h1
    |false=>exact h1
   cases a3:o.guard with
   |none=>rw[a3]at hg;simp at hg
   |some ic=>
    obtain⟨i,c⟩:=ic;rw[a3]at hg;simp only at hg;simp only[M4,a3,yielded]
    cases a1:(ops[i]?).bind (·.dst)with
    |none=>rw[a1]at hg;simp at hg
    |some d'=>
     rw[a1]at hg;simp only at hg
     cases hs:cO st d' with
     |none=>rw[hs]at hg;simp at hg
     |some v=>
      rw[hs]at hg
      cases v<;>simp at hg
      ·rename_i x;simp[ha.get _ _ hs];exact λe=>hg (by rw[e])
      simp[ha.get _ _ hs]
theorem sH{a:MB}{t:Nat}(hs:cO st t=some (.bool b))(hb:b=b')(ha:Fits N a st):Fits N a ((t,.bool b')::st):=by
 subst hb;refine⟨ha.size,ha.defers,λu v hv=>?_⟩;simp only[cO]at hv
 cases hb:Mh t u with
 |true=>rw[hb]at hv;have:=LP hb;subst this;simp at hv;subst hv;exact ha.get _ _ hs
 |false=>rw[hb]at hv;exact ha.get _ _ hv
theorem aT{l G:List LY}{tP:Nat}{c:Bool}{p:String}{e:Array MR}(S:ln->Prop)(b:Bool)(n:Nat)(hS:S w)(hG:l.take n=G)(a0:l.drop n=⟨some tP,.pick (.tmp tA) (.tmp tB) (.const (.bool false)),t,p,e,none⟩::rest)
  (hc:cO st tA=some (.bool c)) (a1:uD N ops ((tA,.bool false)::st) G=true) (hd:L3 tP N=true)
  (h1:c=true->WL P N ops (Jj N S tB b st) G ((tA,.bool true)::st) w) (h2:∀w',S w'->WL P N ops Q rest ((tP,.bool (c&&b))::st) w'):WL P N ops Q l st w:=by
 intro a ha;rw[<-MS n l,hG,a0]
 cases c with
 |true=>
  refine gw (Jj N S tB b st) G _ a w (λe a w h a3=>absurd h.1 a3) (λa' w' h=>?_) (h1 rfl a (sH hc rfl ha));obtain⟨_,a4,hf,hb⟩:=h;unfold wpList;rw[if_pos (cZ rfl _)];left;unfold MT;rw[iX (b:=true) (by simpa[MF,L8]using(by rw[hf.get _ _ hc]:(a'.tmps[tA]?).getD undef=(some (.bool true)).getD undef))];simp only[cond_true];rw[show a'.eval (.tmp tB)=.bool b from by simp[MF,L8,hb]];exact h2 w' a4 _ (hf.put hd _)
 |false=>
  refine sj G st ((tA,.bool false)::st) a a1 (λt v hv=>?_) (sH hc rfl ha) (λa' a2=>?_)
  ·simp only[cO]
   cases hb:Mh tA t with
   |true=>have:=LP hb;subst this;rw[hc]at hv;exact hv
   |false=>exact hv
  unfold wpList;rw[if_pos (cZ rfl _)];left;unfold MT;rw[iX (b:=false) (by simpa[MF,L8]using(by rw[a2.get _ _ hc]:(a'.tmps[tA]?).getD undef=(some (.bool false)).getD undef))];exact h2 w hS _ (a2.put hd _)
theorem ct{l G:List LY}{tP:Nat}{c:Bool}{p:String}{e:Array MR}(S:ln->Prop)(b:Bool)(n:Nat)(hS:S w)(hG:l.take n=G)(a0:l.drop n=⟨some tP,.pick (.tmp tA) (.const (.bool true)) (.tmp tB),t,p,e,none⟩::rest)
  (hc:cO st tA=some (.bool c)) (a1:uD N ops ((tA,.bool true)::st) G=true) (hd:L3 tP N=true)
  (h1:c=false->WL P N ops (Jj N S tB b st) G ((tA,.bool false)::st) w) (h2:∀w',S w'->WL P N ops Q rest ((tP,.bool (c||b))::st) w'):WL P N ops Q l st w:=by
 intro a ha;rw[<-MS n l,hG,a0]
 cases c with
 |false=>
  refine gw (Jj N S tB b st) G _ a w (λe a w h a3=>absurd h.1 a3) (λa' w' h=>?_) (h1 rfl a (sH hc rfl ha));obtain⟨_,a4,hf,hb⟩:=h;unfold wpList;rw[if_pos (cZ rfl _)];left;unfold MT;rw[iX (b:=false) (by simpa[MF,L8]using(by rw[hf.get _ _ hc]:(a'.tmps[tA]?).getD undef=(some (.bool false)).getD undef))];simp only[cond_false];rw[show a'.eval (.tmp tB)=.bool b from by simp[MF,L8,hb]];exact h2 w' a4 _ (hf.put hd _)
 |true=>
  refine sj G st ((tA,.bool true)::st) a a1 (λt v hv=>?_) (sH hc rfl ha) (λa' a2=>?_)
  ·simp only[cO]
   cases hb:Mh tA t with
   |true=>have:=LP hb;subst this;rw[hc]at hv;exact hv
   |false=>exact hv
  unfold wpList;rw[if_pos (cZ rfl _)];left;unfold MT;rw[iX (b:=true) (by simpa[MF,L8]using(by rw[a2.get _ _ hc]:(a'.tmps[tA]?).getD undef=(some (.bool true)).getD undef))];exact h2 w hS _ (a2.put hd _)
theorem cg{S:ln->Prop}{c:Bool}{st0:St}(n:Nat)(hS:S w)(a0:st.drop n=st0)(hf:((st.take n).all λq=>Mh q.1 tA||(match cO st0 q.1 with|none=>true|_=>false))=true)
  (hA:cO st tA=some (.bool c)) (a3:∀v,cO st0 tA=some v->v=.bool c) (hb:cO st tB=some (.bool b)):QF N (Jj N S tB b st0) .normal st w:=λa ha=>by
 refine⟨rfl,hS,⟨ha.size,ha.defers,λt v hv=>?_⟩,ha.get _ _ hb⟩;apply ha.get t v
 by_cases ht:t=tA
 ·subst ht;rw[a3 v hv];exact hA
 have a2:∀(a1:St),(a1.all λq=>Mh q.1 tA||(match cO st0 q.1 with|none=>true|_=>false))=true->cO (a1++st0) t=some v:=by
  intro a1
  induction a1 with
  |nil=>intro _;exact hv
  |cons q r ih=>
   intro hq;simp only[QM,LZ,Bool.or_eq_true]at hq;obtain⟨k,u⟩:=q;simp only[Me,cO]
   cases hb:Mh k t with
   |false=>exact ih hq.2
   |true=>
    have:=LP hb;subst this
    rcases hq.1 with h|h
    ·exact absurd (LP h) ht
    simp only[hv]at h;cases h
 have:=a2 (st.take n) hf;rw[<-a0,MS]at this;exact this
end
end Go.VL
end
section
namespace Go.VL
section
variable{P:L5}{N:Nat}{ops:Array LY}{Q:Md→MB→ln→Prop}{rest:List LY}{st:St}{w:ln}
variable{t xt yt:L0}{p:String}{e:Array MR}{d:Nat}{x y z:L4}
theorem iQ{a b:ix}(hg:eqGuard op xt x y a b=pure ())(hx:ev st x=some a)(hy:ev st y=some b)(hr:(binOp op xt a b).run P w=.ok v w):RV P N (.binOp op xt x y yt) t st w v:=
 λac ha a0 p e g=>by
  simp only[execOp,ha.ev hx,ha.ev hy,hg,L2,LQ,L1,hr]
theorem yF{a:Bool}(hu:P.underlying xt=some .bool)(hx:ev st x=some (.bool a))(hy:ev st y=some (.bool b)):RV P N (.binOp .eql xt x y yt) t st w (.bool (a==b)):=
 iQ (eqGuard_at_bool ..) hx hy (run_eql_bool w xt a b hu)
theorem tz{a:Bool}(hu:P.underlying xt=some .bool)(hx:ev st x=some (.bool a))(hy:ev st y=some (.bool b)):RV P N (.binOp .neq xt x y yt) t st w (.bool (!(a==b))):=
 iQ (eqGuard_at_bool ..) hx hy (run_neq_bool w xt a b hu)
theorem gQ{n:Int}{a0:Array L0}(hx:ev st x=some (.int k m))(hy:ev st y=some (.int k' n)):RV P N (.call ⟨.builtin .max,#[x,y],a0⟩) t st w (.int k (max m n)):=
 λa ha a1 p e g=>by
  simp only[execOp,resolve,invoke,builtin,L2,LQ,L1,L6,L9,M5,ha.ev hx,ha.ev hy,run_max_int2];congr 3;rw[Int.max_def];split<;>split<;>omega
theorem I7{n:Int}{a0:Array L0}(hx:ev st x=some (.int k m))(hy:ev st y=some (.int k' n)):RV P N (.call ⟨.builtin .min,#[x,y],a0⟩) t st w (.int k (min m n)):=
 λa ha a1 p e g=>by
  simp only[execOp,resolve,invoke,builtin,L2,LQ,L1,L6,L9,M5,ha.ev hx,ha.ev hy,run_min_int2];congr 3;rw[Int.min_def];split<;>split<;>omega
def bs(l:List UInt8):ByteArray:=⟨l.toArray⟩
theorem df(l:List UInt8):(bs l).size=l.length:=by simp[bs,Rs]
theorem gn(l:List UInt8):(bs l).toList=l:=Rq l
theorem Dt(a b:List UInt8):bs a++bs b=bs (a++b):=by
 apply Rw;simp[bs,Rx]
theorem mC(l:List UInt8)(a b:Nat):(bs l).extract a b=bs ((l.take b).drop a):=by
 rw[bs,Rv,List.drop_take];rfl
theorem GN{a b:List UInt8}(h:bs a=bs b):a=b:=by
 have:=congrArg Rr h;rwa[gn,gn]at this
theorem pr{s u:ByteArray}:binOp op xt (.string s) (.string u)=Op.stringOp op s u:=by cases op<;>rfl
theorem bN{a b:List UInt8}(hx:ev st x=some (.string (bs a)))(hy:ev st y=some (.string (bs b))):RV P N (.binOp .eql xt x y yt) t st w (.bool (a==b)):=
 iQ (eqGuard_at_string ..) hx hy (by rw[pr];show QZ (PZ ((bs a).toList==(bs b).toList)) w=_;rw[gn,gn])
theorem mJ{a b:List UInt8}(hx:ev st x=some (.string (bs a)))(hy:ev st y=some (.string (bs b))):RV P N (.binOp .neq xt x y yt) t st w (.bool (!(a==b))):=
 iQ (eqGuard_at_string ..) hx hy (by rw[pr];show QZ (PZ (!((bs a).toList==(bs b).toList))) w=_;rw[gn,gn])
theorem DR{a b:List UInt8}(hx:ev st x=some (.string (bs a)))(hy:ev st y=some (.string (bs b)))(hb:a.length+b.length<=9223372036854775807):RV P N (.binOp .add xt x y yt) t st w (.string (bs (a++b))):=
 iQ (eqGuard_at_string ..) hx hy (by rw[pr,run_string_add_sum w _ _ (by rw[df,df];exact hb),Dt])
theorem bO{a:List UInt8}(hT:P.underlying T=some .string)(hx:ev st x=some (.string (bs a))):RV P N (.call ⟨.builtin .len,#[x],#[T]⟩) t st w (nI a.length):=
 λc hc a0 p e g=>by
  simp only[execOp,resolve,invoke,builtin,L2,LQ,L1,L6,L9,M5,hc.ev hx,run_len_string w T t _ hT,df];rfl
theorem bW{a:List UInt8}(hT:P.underlying xt=some .string)(hx:ev st x=some (.string (bs a)))(hy:ev st y=some (.int k m))(i:Nat)(hm:m=i)(hi:i<a.length):RV P N (.index xt x y) t st w (.int .u8 ((nth a i).toNat:Int)):=
 λc hc a0 p e g=>by
  subst hm;have h2:0<=(i:Int)/\(i:Int)<(bs a).size:=by rw[df];omega
  simp only[execOp,hc.ev hx,hc.ev hy,L2,run_index_string w xt (bs a) k i hT,dif_pos h2,L1];have:(bs a)[(i:Int).toNat]'(by rw[df];omega)=nth a i:=by
   rw[aB hi];simp[bs,Ru]
  rw[this];rfl
theorem cf{a:List UInt8}{n:Int}(hT:P.underlying xt=some .string)(hx:ev st x=some (.string (bs a)))(hy:ev st y=some (.int k m))(hz:ev st z=some (.int k' n))(i j:Nat)(hm:m=i)(hn:n=j)(a0:i<=j)(hj:j<=a.length):
  RV P N (.slice xt x (some y) (some z) none) t st w (.string (bs ((a.take j).drop i))):=
 λc hc a1 p e g=>by
  subst hm;subst hn;simp only[execOp,M1,MG,hc.ev hx,hc.ev hy,hc.ev hz,run_sliceAt_string w xt _ _ _ _ hT,L2,run_slice_string w xt (bs a) k k' i j hT zo zo (by rw[df];omega),L1,Mp,mC];rfl
theorem ke{a:List UInt8}(hT:P.underlying xt=some .string)(hx:ev st x=some (.string (bs a)))(hy:ev st y=some (.int k m))(i:Nat)(hm:m=i)(hi:i<=a.length):
  RV P N (.slice xt x (some y) none none) t st w (.string (bs (a.drop i))):=
 λc hc a0 p e g=>by
  subst hm;simp only[execOp,M1,MG,hc.ev hx,hc.ev hy,run_sliceAt_string w xt _ _ _ _ hT,L2,run_slice_string_l w xt (bs a) hT k i zo (by rw[df];omega),L1,Mp,mC,df,List.take_length];rfl
theorem yC{a:List UInt8}{n:Int}(hT:P.underlying xt=some .string)(hx:ev st x=some (.string (bs a)))(hz:ev st z=some (.int k n))(j:Nat)(hn:n=j)(hj:j<=a.length):
  RV P N (.slice xt x none (some z) none) t st w (.string (bs (a.take j))):=
 λc hc a0 p e g=>by
  subst hn;simp only[execOp,M1,MG,hc.ev hx,hc.ev hz,run_sliceAt_string w xt _ _ _ _ hT,L2,run_slice_string_h w xt (bs a) hT k j zo (by rw[df];omega),L1,Mp,mC,List.drop_zero];rfl
theorem kf{a:Option Mx}{l c:Nat}(hT:P.underlying xt=some (.slice T))(hx:ev st x=some (.slice a l c))(hy:ev st y=some nS):RV P N (.binOp .eql xt x y yt) t st w (.bool a.isNone):=
 iQ (eqGuard_at_slice ..) hx hy (by simp[binOp,run_equal_slice_nil w xt T a l c hT])
theorem eS{q:Option Mx}(hT:P.underlying xt=some (.pointer (P.pointee xt)))(hx:ev st x=some (.pointer q))(hy:ev st y=some (.pointer none)):RV P N (.binOp .eql xt x y yt) t st w (.bool q.isNone):=
 iQ (eqGuard_at_pointer ..) hx hy (run_eql_pointer_nil w xt q hT)
theorem Bn{q:Option Mx}(hT:P.underlying xt=some (.pointer (P.pointee xt)))(hx:ev st x=some (.pointer q))(hy:ev st y=some (.pointer none)):RV P N (.binOp .neq xt x y yt) t st w (.bool (!q.isNone)):=
 iQ (eqGuard_at_pointer ..) hx hy (run_neq_pointer_nil w xt q hT)
def dc(v:ix)(sz lo hi:Nat):ix:=
 match v with
 |.slice a _ cap=>.slice (if cap=lo then a else a.map (·.add (lo*sz))) (hi-lo) (cap-lo)
 |_=>v
theorem Sl.slice{α:Type}{enc:α->List ix}{sz:Nat}{v:ix}{xs:List α}(h:Sl enc sz w v xs){lo hi:Nat}(h1:lo<=hi)(h2:hi<=xs.length):Sl enc sz w (dc v sz lo hi) ((xs.take hi).drop lo):=by
 obtain⟨a,c,rfl,hc,hm,ha⟩:=h.shape;have a0:((xs.take hi).drop lo).length=hi-lo:=by simp;omega
 refine⟨⟨_,c-lo,by rw[a0];rfl,zo,zo,λa2=>?_⟩,λi a1 j u hu=>?_⟩
 ·rw[a0]at a2;obtain⟨b,o,rfl⟩:=ha zo;rw[if_neg zo];exact⟨b,o+lo*sz,by simp only[M1,Mc];split<;>simp_all⟩
 rw[a0]at a1;obtain⟨b,o,rfl⟩:=ha zo;have hg:((xs.take hi).drop lo)[i]'(by rw[a0];exact a1)=xs[lo+i]'(zo):=by simp
 rw[hg]at hu;have:=h.cells (lo+i) zo j u hu;have e1:adr (dc (.slice (some ⟨b,o,none⟩) xs.length c) sz lo hi) sz i=adr (.slice (some ⟨b,o,none⟩) xs.length c) sz (lo+i):=by
  simp only[dc,adr];rw[if_neg zo];simp only[M1,Mc]
  split<;>simp_all[MY,P4]
 rw[e1];exact this
theorem mI(h:Sl enc sz w v xs)(hT:P.underlying xt=some (.slice E))(hs:(Mj E).run P w=.ok sz w)
  (hx:ev st x=some v) (hy:ev st y=some (.int k m)) (i:Nat) (hm:m=i) (hi:i<=xs.length):RV P N (.slice xt x (some y) none none) t st w (dc v sz i xs.length):=
 λa' ha a0 p e g=>by
  subst hm;obtain⟨a,c,rfl,hc,_,_⟩:=h.shape;have hE:P.elem xt=E:=by simp[Qt,hT]
  simp only[execOp,M1,MG,ha.ev hx,ha.ev hy,run_sliceAt_slice w xt _ _ _ _ (by rw[hE];exact hT:P.underlying xt=some (.slice (P.elem xt))),L2,run_slice_l w xt a xs.length c (by rw[hE];exact hT) k i zo zo,hE,hs,L1,Mp,sliced];rfl
theorem rH{n:Int}(h:Sl enc sz w v xs)(hT:P.underlying xt=some (.slice E))(hs:(Mj E).run P w=.ok sz w)
  (hx:ev st x=some v) (hz:ev st z=some (.int k n)) (j:Nat) (hn:n=j) (hj:j<=xs.length):RV P N (.slice xt x none (some z) none) t st w (dc v sz 0 j):=
 λa' ha a0 p e g=>by
  subst hn;obtain⟨a,c,rfl,hc,_,_⟩:=h.shape;have hE:P.elem xt=E:=by simp[Qt,hT]
  simp only[execOp,M1,MG,ha.ev hx,ha.ev hz,run_sliceAt_slice w xt _ _ _ _ (by rw[hE];exact hT:P.underlying xt=some (.slice (P.elem xt))),L2,run_slice_h w xt a xs.length c (by rw[hE];exact hT) k j zo zo,hE,hs,L1,Mp,sliced];rfl
end
end Go.VL
end
section
namespace Go.VL
def Free(O:Nat->Nat)(w:ln)(v:ix):Prop:=∀a n c,v=.slice (some a) n c->n≠0->O a.block=0/\a.block<w.heap.size
theorem Free.upd(h:Free O w v)(u:Upd S O w O' w'):Free O' w' v:=λa n c e hn=>by
 obtain⟨h1,h2⟩:=h a n c e hn;refine⟨LV λa0=>?_,M6 h2 u.size⟩
 rcases u.new _ a0 with h3|h3
 ·exact h3 h1
 omega
theorem iE{a:Mx}(hb:w'.heap[a.block]? = w.heap[a.block]?)(h:w.cell? a=some u):w'.cell? a=some u:=by
 simpa only[QU,hb]using h
theorem Sl.upd(h:Sl enc sz w v xs)(f:Free O w v)(u:Upd S O w O' w'):Sl enc sz w' v xs:=by
 refine⟨h.shape,λi hi j x hx=>?_⟩;have hc:=h.cells i hi j x hx;obtain⟨a,c,e,_,_,ha⟩:=h.shape;obtain⟨b,o,rfl⟩:=ha zo;obtain⟨h1,h2⟩:=f _ _ _ e zo;refine iE ?_ hc
 have hb:((adr v sz i).add j).block=b:=by subst e;simp only[adr,Mc];split<;>rfl
 rw[hb];exact u.blk b h2 (by rw[h1];exact u.z)
theorem RowT.free(h:RowT enc E sz O' w' i v l)(hi:i≠0)(r:Rng w.heap.size O' w')(k:Rng B O w):Free O w' v:=λa n c e _=>by
 subst e;have h1:=h.1.tag a.block rfl;have h2:=r.rng a.block (by rw[h1];exact hi);exact⟨LV λa0=>by have:=k.rng _ a0;omega,h2.2⟩
def NewV(B:Nat)(v:ix):Prop:=∀a n c,v=.slice (some a) n c->n≠0->B<=a.block
theorem NewV.mono{B':Nat}(h:NewV B v)(hb:B'<=B):NewV B' v:=λa n c e hn=>MN hb (h a n c e hn)
theorem RowT.newV(h:RowT enc E sz O w i v l)(hi:i≠0)(r:Rng B O w):NewV B v:=λa n c e _=>by
 subst e;have h1:=h.1.tag a.block rfl;exact(r.rng a.block (by rw[h1];exact hi)).1
theorem Sl.blk_lt(h:Sl enc sz w v xs)(hf:∀x∈xs,enc x≠[]){a:Mx}{c:Nat}(e:v=.slice (some a) n c)(hn:n≠0):a.block<w.heap.size:=by
 obtain⟨a',c',e1,_,_,e2⟩:=h.shape;subst e
 cases e1
 obtain⟨b,o,e3⟩:=e2 hn
 cases e3
 have hl:=Qi hn
 cases hx:enc xs[0]with
 |nil=>exact absurd hx (hf _ (N9 hl))
 |cons u r=>
  have hc:=h.cells 0 hl 0 u (by rw[hx];rfl);have:=Nz _ _ hc;have hb:((adr (.slice (some ⟨b,o,none⟩) xs.length c) sz 0).add 0).block=b:=by simp only[adr,Mc];split<;>rfl
  rwa[hb]at this
theorem NewV.free(h:NewV w.heap.size v)(hs:Sl enc sz w' v xs)(hf:∀x∈xs,enc x≠[])(r:Rng B O w):Free O w' v:=λa n c e hn=>
 ⟨LV λa0=>by have h1:=(r.rng _ a0).2;have h2:=h a n c e hn;omega,hs.blk_lt hf e hn⟩
theorem sC(h:∀(B:Nat) (O:Nat->Nat),Rng B O w->Free O w' v):NewV w.heap.size v:=λa n c e hn=>by
 have h1:=(h 0 (λb=>if b<w.heap.size then 1 else 0) ⟨MA _,λb hb=>⟨MA _,LV λhn=>hb (if_neg hn)⟩⟩ a n c e hn).1;exact Nat.le_of_not_lt λa0=>by
  have h2:=(if_pos a0).symm.trans h1
  cases h2
section
variable{P:L5}{N:Nat}{ops:Array LY}{Q:Md→MB→ln→Prop}{rest:List LY}{st:St}{w:ln}
variable{t xt yt:L0}{p:String}{e:Array MR}{d:Nat}{x y z:L4}
theorem dG(he:Elem P T E 1 bytes){val:α->ix}(z0:α)(a2:(P.info? E).bind (·.zero)=some (val z0))(h1:∀a,(val a).oneCell'=true)(r:Rng B O w)(i:Nat)(a7:i≠0)(n:Nat){kl kc:LW}{m1 m2:Int}
  (hx:ev st x=some (.int kl m1)) (hy:ev st y=some (.int kc m2)) (a6:m1=n) (a5:m2=n) (hb:bytes*n<=281474976710656) (b0:n<=9223372036854775807) (hd:L3 d N=true)
  (h:∀w' O' v,v=.slice (some ⟨w.heap.size,0,none⟩) n n->RowT (λx=>[val x]) E 1 O' w' i v (Mi n z0)->Upd (λk=>k=i) O w O' w'->Rng B O' w'->Ext w w'->WL P N ops Q rest ((d,v)::st) w') :
  WL P N ops Q (⟨some d,.makeSlice T x y,t,p,e,none⟩::rest) st w:=by
 obtain⟨a1,z,hi,hz,a4,a9,b1⟩:=he.parts;have a3:z=val z0:=by rw[hi]at a2;simpa[hz]using a2
 subst a3;subst a6;subst a5;have a8:(val z0).cells = #[val z0]:=by have:=h1 z0;generalize val z0=u at *;cases u<;>first|rfl|simp[ME]at this
 have a':(a1.bytes:Int)*(n:Int)<=281474976710656:=by
  have h:((a1.bytes*n:Nat):Int)<=281474976710656:=by rw[a9];omega
  rwa[Int.natCast_mul]at h
 have a0:=run_make (P:=P) w T E a1 _ he.ht hi hz kl kc n n zo (Pk _) a' zo;simp only[Mp,a4,Nx,a8]at a0;have hz:¬(λk=>k=i) 0:=λh=>a7 h.symm
 have u:=Upd.alloc (S:=λk=>k=i) hz r (.cells (madeCells #[val z0] n) E) i;refine WL.val (v:=.slice (some ⟨w.heap.size,0,none⟩) n n) hd (λa ha=>by simp only[execOp,ha.ev hx,ha.ev hy,L2,a0,L1];rfl) (h _ _ _ rfl ⟨⟨?_,λg hg=>?_⟩,λa _=>rfl⟩ u (r.upd u) (Ext.alloc _ _))
 ·rw[List.length_replicate];have:=World.ownsRow_lit (base:=0) (size:=1) (e:=E) w (madeCells #[val z0] n) n (MA _) (by simpa[maxLen]using b0) (by rw[size_madeCells];omega);rw[toList_madeCells_one]at this;have e2:(Mi n z0).flatMap (λx=>[val x])=Mi n (val z0):=by
   induction n with
   |zero=>rfl
   |succ n ih=>simp only[Q2,Mk];congr 1;simp[List.flatMap_replicate]
  rw[e2];exact this
 simp only[Nn,NP]at hg;subst hg;exact eG _ _ _
theorem dB(he:Elem P T E sz a0)(u:α)(hx:ev st x=some xv)(a2:xv.cells.toList=enc u)(a4:(enc u).length=sz)(hs:sz<=16777216)(hd:L3 d N=true)
  (h:∀v w',Sl enc sz w' v [u]->Ext w w'->WL P N ops Q rest ((d,v)::st) w'):WL P N ops Q (⟨some d,.buildSlice T 1 #[(0,x)],t,p,e,none⟩::rest) st w:=by
 obtain⟨a3,z,hi,hz,a1,a8,a7⟩:=he.parts;have a6:xv.cells.size=sz:=by rw[<-a4,<-a2];simp
 have a5:=he.pos;refine WL.val (v:=.slice (some ⟨w.heap.size,0,none⟩) 1 1) (w':=w.alloc (.cells xv.cells E)) hd (λa ha=>?_) (h _ _ ⟨⟨_,1,rfl,M8 _,by simp,λ_=>⟨_,_,rfl⟩⟩,λi hi j c hc=>?_⟩ (Ext.alloc _ _))
 ·have:=run_buildSlice (P:=P) w T E 1 #[(0,xv)] xv.cells a3 z he.ht hi hz (by rw[a1];omega) (by rw[a1];omega) (by
   rw[a1]
   exact lj a6 (by simp))
  simp only[execOp,L6,L9,M5,ha.ev hx,L2,this,L1];rfl
 obtain rfl:i=0:=by simpa using hi
 simp only[PB]at hc;simp only[adr,N1,PK];rw[show((⟨w.heap.size,0,none⟩:Mx).add j)=⟨w.heap.size,j,none⟩from by simp only[Mc];split<;>simp_all,cell_of_row _ _ j xv.cells E (0,0) (heap_alloc_new w _)];rw[<-a2]at hc;simpa using hc
theorem nT{α:Type}{enc:α->List ix}{sz:Nat}:∀(us:List α),(∀u∈us,(enc u).length=sz)->(us.flatMap enc).length=us.length*sz
 |[],_=>by simp
 |x::r,h=>by
  simp only[Mk,Ms,MU,h x (by simp),nT r (λu hu=>h u (by simp[hu])),Nat.succ_mul];omega
theorem Db{us:List α}(hs:Sl enc sz w v us)(hz:∀u∈us,(enc u).length=sz)(hp:0<sz){a:Mx}{c:Nat}(hv:v=.slice (some a) n c):∀j u,(us.flatMap enc)[j]? = some u->w.cell? (a.add j)=some u:=by
 intro j u hu;have a0:=nT us hz;have hj:j<us.length*sz:=by rw[<-a0];exact(M7.1 hu).1
 have hq:=Nat.div_lt_of_lt_mul (by rw[Nat.mul_comm];exact hj);have hr:j % sz<sz:=Nat.mod_lt _ hp;have a1:j / sz*sz+j % sz=j:=Nat.div_add_mod' j sz;have hl:=hz _ (N9 hq);have h1:=fg us hz (j / sz) hq (j % sz) _ (MC zo);rw[a1,hu]at h1;have h2:=hs.cells (j / sz) hq (j % sz) u (by rw[MC zo,<-h1]);obtain⟨a',c',e1,_,_,e2⟩:=hs.shape;obtain⟨b,o,e3⟩:=e2 (Nat.ne_of_gt (Nat.lt_of_le_of_lt (MA _) hq));rw[hv]at e1 h2
 cases e1;cases e3
 simp only[adr]at h2;rw[show((⟨b,o,none⟩:Mx).add j)=((⟨b,o+j / sz*sz,none⟩:Mx).add (j % sz))from by simp only[Mc];split<;>split<;>simp_all<;>omega];exact h2
theorem aD(he:Elem P T E sz a0){us:List α}(hr:RowT enc E sz O w i v l)(r:Rng B O w)(hs:Sl enc sz w sv us)(a7:us.length≠0)
  (hx:ev st x=some v) (hy:ev st y=some sv) (a2:∀u∈us,(enc u).length=sz) (a6:∀u∈us,∀c∈enc u,c.oneCell'=true)
  (hb:(l.length+us.length)*a0<=140737488355328) (a':l.length+us.length<=9223372036854775807) (a8:i≠0) (hd:L3 d N=true)
  (h:∀v' w' O',RowT enc E sz O' w' i v' (l++us)->Upd (λk=>k=i) O w O' w'->Rng B O' w'->WL P N ops Q rest ((d,v')::st) w') :
  WL P N ops Q (⟨some d,.call ⟨.builtin .append,#[x,y],#[T,T]⟩,t,p,e,none⟩::rest) st w:=by
 obtain⟨a,c,rfl,_,_,a9⟩:=hs.shape;obtain⟨b,o,rfl⟩:=a9 a7;have a5:=nT us a2
 obtain⟨v',w',O',a3,a4,a1⟩:=fG (P:=P) (ty:=t) he r hr.1 ⟨b,o,none⟩ us.length c (us.flatMap enc) a5 (Db hs a2 he.pos rfl) (λu hu=>by
  obtain⟨q,hq,hc⟩:=Pe.1 hu
  exact a6 q hq u hc) hb a' a8
 refine WL.val (v:=v') (w':=w') hd (λa ha=>?_) (h v' w' O' ⟨by simpa using a4,λq hq=>?_⟩ a1 (r.upd a1))
 ·simp only[execOp,resolve,invoke,builtin,L2,LQ,L1,L6,L9,M5,ha.ev hx,ha.ev hy,a3]
 rcases Mb.1 hq with hq|hq
 ·exact hr.2 q hq
 exact a2 q hq
end
end Go.VL
end
section
namespace Go.VL
class FA(P:L5)(S:L0)(f:Nat)(o:outParam Nat):Prop where
 fa:∃fs fd m,P.underlying S=some (.struct fs)∧fs[f]? = some fd∧fd.offset=o∧(∀w,(Mj fd.type).run P w=.ok m w)∧m≠0
class AG(P:L5)(T:L0)(b:outParam Bool):Prop where
 ag:∀w,(PF T).run P w=.ok b w
structure Hold(B:Prop):Prop where
 out:B
class SC(P:L5)(T:L0)(sz:outParam Nat):Prop where
 sc:∃E,P.underlying T=some (.slice E)∧∀w,(Mj E).run P w=.ok sz w
section
variable{P:L5}{N:Nat}{ops:Array LY}{S:ln→Prop}{Q:Md→MB→ln→Prop}{K:MB→Prop}{rest:List LY}{st:St}{w:ln}{fuel:Nat}{listed:Array Bool}
variable{t:L0}{p:String}{e:Array MR}{d:Nat}{x:L4}{v:ix}{op:Op}
theorem RV.fa{T:L0}{f o:Nat}{q:Mx}[h:FA P T f o](hx:ev st x=some (.pointer (some q))):RV P N (.fieldAddr T x f) t st w (.pointer (some (q.add o))):=by
 obtain⟨fs,fd,m,h1,h2,h3,h4,h5⟩:=h.fa
 exact RV.fieldAddr o h1 h2 h3 (h4 w) h5 hx
theorem RV.ld[h:AG P T false](hc:w.cell? q=some u)(hx:ev st x=some (.pointer (some q))):RV P N (.load T x) t st w u:=RV.load hc (h.ag w) hx
theorem Ke[h:SC P T sz]{enc:α→List ix}(hx:ev st x=some v)(hs:Sl enc sz w v xs):RV P N (.call ⟨.builtin .len,#[x],#[T]⟩) t st w (.int .i64 (xs.length:Int)):=by
 obtain⟨E,h1,_⟩:=h.sc
 exact RV.len hs h1 hx
theorem Kf[h:SC P T sz]{enc:α→List ix}{i:Int}(hx:ev st x=some v)(hy:ev st y=some (.int k i))(hs:Sl enc sz w v xs)(hi:i=n)(hn:n<xs.length):RV P N (.indexAddr T x y) t st w (.pointer (some (adr v sz n))):=by
 obtain⟨E,h1,h2⟩:=h.sc
 exact RV.indexAddr hs h1 (h2 w) hx hy n hi hn
theorem Lt[h:AG P T false](hx:ev st x=some (.pointer (some q)))(hc:w.cell? q=some u)(hd:L3 d N=true)(h:WL P N ops Q rest ((d,u)::st) w):WL P N ops Q (⟨some d,.load T x,t,p,e,none⟩::rest) st w:=mW (RV.ld hc hx) hd h
theorem Lw[h:AG P T false](hx:ev st x=some (.pointer (some q)))(hc:w.cell? q=some u)(hd:L3 d N=true)(h:WS P N ops w K rest ((d,u)::st)):WS P N ops w K (⟨some d,.load T x,t,p,e,none⟩::rest) st:=qo (RV.ld hc hx) hd h
theorem Ls[h:SC P T sz]{enc:α→List ix}(hx:ev st x=some v)(hs:Sl enc sz w v xs)(hd:L3 d N=true)(h:WL P N ops Q rest ((d,.int .i64 (xs.length:Int))::st) w):WL P N ops Q (⟨some d,.call ⟨.builtin .len,#[x],#[T]⟩,t,p,e,none⟩::rest) st w:=mW (Ke hx hs) hd h
theorem Lu[h:SC P T sz]{enc:α→List ix}{i:Int}(hx:ev st x=some v)(hy:ev st y=some (.int k i))(hs:Sl enc sz w v xs)(hi:i=n)(hn:n<xs.length)(hd:L3 d N=true)(h:WL P N ops Q rest ((d,.pointer (some (adr v sz n)))::st) w):WL P N ops Q (⟨some d,.indexAddr T x y,t,p,e,none⟩::rest) st w:=mW (Kf hx hy hs hi hn) hd h
theorem Ky{n:Int}(hx:ev st x=some (.int .i64 m))(hy:ev st y=some (.int .i64 n))(hr : -9223372036854775808≤m+n∧m+n≤9223372036854775807)(hd:L3 d N=true)(h:WL P N ops Q rest ((d,.int .i64 (m+n))::st) w):WL P N ops Q (⟨some d,.binOp .add xt x y yt,t,p,e,none⟩::rest) st w:=mW (RV.add hx hy (Fit.i64 hr)) hd h
theorem Kx{n:Int}(hx:ev st x=some (.int .i64 m))(hy:ev st y=some (.int .i64 n))(hr : -9223372036854775808≤m-n∧m-n≤9223372036854775807)(hd:L3 d N=true)(h:WL P N ops Q rest ((d,.int .i64 (m-n))::st) w):WL P N ops Q (⟨some d,.binOp .sub xt x y yt,t,p,e,none⟩::rest) st w:=mW (RV.sub hx hy (Fit.i64 hr)) hd h
theorem Kc{z:L4}(hc:ev st x=some (.bool b))(hb:b=true)(hy:ev st y=some v):RV P N (.pick x y z) t st w v:=aV (hb▸hc) hy
theorem Kd{z:L4}(hc:ev st x=some (.bool b))(hb:b=false)(hz:ev st z=some v):RV P N (.pick x y z) t st w v:=aG (hb▸hc) hz
theorem GY{d:Option Rj}(hs:said ops st j=some b')(hb:b'=b)(h:WL P N ops Q (⟨d,op,t,p,e,none⟩::rest) st w):WL P N ops Q (⟨d,op,t,p,e,some (j,b)⟩::rest) st w:=aH (hb▸hs) h
theorem DG(hs:said ops st j=some b')(hb:b'=false)(hd:L3 d N=true)(h:WL P N ops Q rest ((d,undef)::st) w):WL P N ops Q (⟨some d,op,t,p,e,some (j,true)⟩::rest) st w:=WL.off hs (by rw[hb];rfl) hd h
theorem DH(hs:said ops st j=some b')(hb:b'=true)(hd:L3 d N=true)(h:WL P N ops Q rest ((d,undef)::st) w):WL P N ops Q (⟨some d,op,t,p,e,some (j,false)⟩::rest) st w:=WL.off hs (by rw[hb];rfl) hd h
theorem GU{d:Option Rj}(hs:said ops st j=some b')(hb:b'=b)(h:WS P N ops w K (⟨d,op,t,p,e,none⟩::rest) st):WS P N ops w K (⟨d,op,t,p,e,some (j,b)⟩::rest) st:=La (hb▸hs) h
theorem DE(hs:said ops st j=some b')(hb:b'=false)(hd:L3 d N=true)(h:WS P N ops w K rest ((d,undef)::st)):WS P N ops w K (⟨some d,op,t,p,e,some (j,true)⟩::rest) st:=WS.off hs (by rw[hb];rfl) hd h
theorem DF(hs:said ops st j=some b')(hb:b'=true)(hd:L3 d N=true)(h:WS P N ops w K rest ((d,undef)::st)):WS P N ops w K (⟨some d,op,t,p,e,some (j,false)⟩::rest) st:=WS.off hs (by rw[hb];rfl) hd h
theorem GW{l:List LY}(h:WL P N ops Q (o::l.take n) st w):WL P N ops Q (NC (n+1) (o::l)) st w:=h
theorem GX{l:List LY}(h:WL P N ops Q [] st w):WL P N ops Q (NC 0 l) st w:=h
theorem Gv(hx:ev st x=some v)(hd:L3 d N=true)(h:WL P N ops Q rest ((d,v)::st) w):WL P N ops Q (⟨some d,.move x,t,p,e,none⟩::rest) st w:=mW (RV.move hx) hd h
theorem yL(hx:ev st x=some v)(hd:L3 d N=true)(h:WL P N ops Q rest ((d,v)::st) w):WL P N ops Q (⟨some d,.assign x,t,p,e,none⟩::rest) st w:=mW (RV.assign hx) hd h
theorem Lj{f o:Nat}[FA P T f o](hx:ev st x=some (.pointer (some q)))(hd:L3 d N=true)(h:WL P N ops Q rest ((d,.pointer (some (q.add o)))::st) w):WL P N ops Q (⟨some d,.fieldAddr T x f,t,p,e,none⟩::rest) st w:=mW (RV.fa hx) hd h
theorem yK(hx:ev st x=some (.pointer (some q)))(hd:L3 d N=true)(h:WL P N ops Q rest ((d,.pointer (some q))::st) w):WL P N ops Q (⟨some d,.nilCheck x,t,p,e,none⟩::rest) st w:=mW (aq hx) hd h
theorem tI{vs:Array ix}(hx:ev st x=some (.tuple vs))(hv:vs[i]? = some v)(hd:L3 d N=true)(h:WL P N ops Q rest ((d,v)::st) w):WL P N ops Q (⟨some d,.extract x i,t,p,e,none⟩::rest) st w:=mW (RV.extract hx hv) hd h
theorem Jm(hx:ev st x=some (.bool b))(hd:L3 d N=true)(h:WL P N ops Q rest ((d,.bool (!b))::st) w):WL P N ops Q (⟨some d,.unOp .not xt x,t,p,e,none⟩::rest) st w:=mW (RV.not hx) hd h
theorem Jk{z:L4}(hc:ev st x=some (.bool b))(hb:b=true)(hy:ev st y=some v)(hd:L3 d N=true)(h:WL P N ops Q rest ((d,v)::st) w):WL P N ops Q (⟨some d,.pick x y z,t,p,e,none⟩::rest) st w:=mW (Kc hc hb hy) hd h
theorem Jl{z:L4}(hc:ev st x=some (.bool b))(hb:b=false)(hz:ev st z=some v)(hd:L3 d N=true)(h:WL P N ops Q rest ((d,v)::st) w):WL P N ops Q (⟨some d,.pick x y z,t,p,e,none⟩::rest) st w:=mW (Kd hc hb hz) hd h
theorem Jo{n:Int}(hx:ev st x=some (.int k m))(hy:ev st y=some (.int k n))(hd:L3 d N=true)(h:WL P N ops Q rest ((d,.bool (decide (m<n)))::st) w):WL P N ops Q (⟨some d,.binOp .lss xt x y yt,t,p,e,none⟩::rest) st w:=mW (RV.lss hx hy) hd h
theorem Jp{n:Int}(hx:ev st x=some (.int k m))(hy:ev st y=some (.int k n))(hd:L3 d N=true)(h:WL P N ops Q rest ((d,.bool (decide (m≤n)))::st) w):WL P N ops Q (⟨some d,.binOp .leq xt x y yt,t,p,e,none⟩::rest) st w:=mW (RV.leq hx hy) hd h
theorem Jq{n:Int}(hx:ev st x=some (.int k m))(hy:ev st y=some (.int k n))(hd:L3 d N=true)(h:WL P N ops Q rest ((d,.bool (decide (n<m)))::st) w):WL P N ops Q (⟨some d,.binOp .gtr xt x y yt,t,p,e,none⟩::rest) st w:=mW (RV.gtr hx hy) hd h
theorem Jr{n:Int}(hx:ev st x=some (.int k m))(hy:ev st y=some (.int k n))(hd:L3 d N=true)(h:WL P N ops Q rest ((d,.bool (decide (n≤m)))::st) w):WL P N ops Q (⟨some d,.binOp .geq xt x y yt,t,p,e,none⟩::rest) st w:=mW (RV.geq hx hy) hd h
theorem Js{n:Int}(hx:ev st x=some (.int k m))(hy:ev st y=some (.int k n))(hd:L3 d N=true)(h:WL P N ops Q rest ((d,.bool (m==n))::st) w):WL P N ops Q (⟨some d,.binOp .eql xt x y yt,t,p,e,none⟩::rest) st w:=mW (RV.eql hx hy) hd h
theorem Jn{n:Int}(hx:ev st x=some (.int k m))(hy:ev st y=some (.int k n))(hd:L3 d N=true)(h:WL P N ops Q rest ((d,.bool (m != n))::st) w):WL P N ops Q (⟨some d,.binOp .neq xt x y yt,t,p,e,none⟩::rest) st w:=mW (RV.neq hx hy) hd h
theorem Gw(hx:ev st x=some v)(hd:L3 d N=true)(h:WS P N ops w K rest ((d,v)::st)):WS P N ops w K (⟨some d,.move x,t,p,e,none⟩::rest) st:=qo (RV.move hx) hd h
theorem yN(hx:ev st x=some v)(hd:L3 d N=true)(h:WS P N ops w K rest ((d,v)::st)):WS P N ops w K (⟨some d,.assign x,t,p,e,none⟩::rest) st:=qo (RV.assign hx) hd h
theorem Lk{f o:Nat}[FA P T f o](hx:ev st x=some (.pointer (some q)))(hd:L3 d N=true)(h:WS P N ops w K rest ((d,.pointer (some (q.add o)))::st)):WS P N ops w K (⟨some d,.fieldAddr T x f,t,p,e,none⟩::rest) st:=qo (RV.fa hx) hd h
theorem yM(hx:ev st x=some (.pointer (some q)))(hd:L3 d N=true)(h:WS P N ops w K rest ((d,.pointer (some q))::st)):WS P N ops w K (⟨some d,.nilCheck x,t,p,e,none⟩::rest) st:=qo (aq hx) hd h
theorem tJ{vs:Array ix}(hx:ev st x=some (.tuple vs))(hv:vs[i]? = some v)(hd:L3 d N=true)(h:WS P N ops w K rest ((d,v)::st)):WS P N ops w K (⟨some d,.extract x i,t,p,e,none⟩::rest) st:=qo (RV.extract hx hv) hd h
theorem GS{l:List LY}(h:WS P N ops w K (o::l.take n) st):WS P N ops w K (NC (n+1) (o::l)) st:=h
theorem GT{l:List LY}(h:WS P N ops w K [] st):WS P N ops w K (NC 0 l) st:=h
theorem Jv{n:Int}(hx:ev st x=some (.int k m))(hy:ev st y=some (.int k n))(hd:L3 d N=true)(h:WS P N ops w K rest ((d,.bool (decide (m<n)))::st)):WS P N ops w K (⟨some d,.binOp .lss xt x y yt,t,p,e,none⟩::rest) st:=qo (RV.lss hx hy) hd h
theorem Jw{n:Int}(hx:ev st x=some (.int k m))(hy:ev st y=some (.int k n))(hd:L3 d N=true)(h:WS P N ops w K rest ((d,.bool (decide (m≤n)))::st)):WS P N ops w K (⟨some d,.binOp .leq xt x y yt,t,p,e,none⟩::rest) st:=qo (RV.leq hx hy) hd h
theorem Jy{n:Int}(hx:ev st x=some (.int k m))(hy:ev st y=some (.int k n))(hd:L3 d N=true)(h:WS P N ops w K rest ((d,.bool (decide (n<m)))::st)):WS P N ops w K (⟨some d,.binOp .gtr xt x y yt,t,p,e,none⟩::rest) st:=qo (RV.gtr hx hy) hd h
theorem Jz{n:Int}(hx:ev st x=some (.int k m))(hy:ev st y=some (.int k n))(hd:L3 d N=true)(h:WS P N ops w K rest ((d,.bool (decide (n≤m)))::st)):WS P N ops w K (⟨some d,.binOp .geq xt x y yt,t,p,e,none⟩::rest) st:=qo (RV.geq hx hy) hd h
theorem JA{n:Int}(hx:ev st x=some (.int k m))(hy:ev st y=some (.int k n))(hd:L3 d N=true)(h:WS P N ops w K rest ((d,.bool (m==n))::st)):WS P N ops w K (⟨some d,.binOp .eql xt x y yt,t,p,e,none⟩::rest) st:=qo (RV.eql hx hy) hd h
theorem Ju{n:Int}(hx:ev st x=some (.int k m))(hy:ev st y=some (.int k n))(hd:L3 d N=true)(h:WS P N ops w K rest ((d,.bool (m != n))::st)):WS P N ops w K (⟨some d,.binOp .neq xt x y yt,t,p,e,none⟩::rest) st:=qo (RV.neq hx hy) hd h
theorem KB{n:Int}(hx:ev st x=some (.int .i64 m))(hy:ev st y=some (.int .i64 n))(hr : -9223372036854775808≤m+n∧m+n≤9223372036854775807)(hd:L3 d N=true)(h:WS P N ops w K rest ((d,.int .i64 (m+n))::st)):WS P N ops w K (⟨some d,.binOp .add xt x y yt,t,p,e,none⟩::rest) st:=qo (RV.add hx hy (Fit.i64 hr)) hd h
theorem Kz{n:Int}(hx:ev st x=some (.int .i64 m))(hy:ev st y=some (.int .i64 n))(hr : -9223372036854775808≤m-n∧m-n≤9223372036854775807)(hd:L3 d N=true)(h:WS P N ops w K rest ((d,.int .i64 (m-n))::st)):WS P N ops w K (⟨some d,.binOp .sub xt x y yt,t,p,e,none⟩::rest) st:=qo (RV.sub hx hy (Fit.i64 hr)) hd h
theorem Jt(hx:ev st x=some (.bool b))(hd:L3 d N=true)(h:WS P N ops w K rest ((d,.bool (!b))::st)):WS P N ops w K (⟨some d,.unOp .not xt x,t,p,e,none⟩::rest) st:=qo (RV.not hx) hd h
theorem KA[h:AG P T false](hx:ev st x=some (.pointer (some q)))(hc:w0.cell? q=some u)(hd:L3 d N=true)(h:WS P N ops w0.drew K rest ((d,u)::st)):WS P N ops w0.drew K (⟨some d,.load T x,t,p,e,none⟩::rest) st:=qo (RV.ld (w:=w0.drew) hc hx) hd h
theorem Lv[h:SC P T sz]{enc:α→List ix}(hx:ev st x=some v)(hs:Sl enc sz w0 v xs)(hd:L3 d N=true)(h:WS P N ops w0.drew K rest ((d,.int .i64 (xs.length:Int))::st)):WS P N ops w0.drew K (⟨some d,.call ⟨.builtin .len,#[x],#[T]⟩,t,p,e,none⟩::rest) st:=qo (Ke hx (hs.ext (Ext.refl w0).drew)) hd h
theorem Lx[h:SC P T sz]{enc:α→List ix}{i:Int}(hx:ev st x=some v)(hy:ev st y=some (.int k i))(hs:Sl enc sz w0 v xs)(hi:i=n)(hn:n<xs.length)(hd:L3 d N=true)(h:WS P N ops w0.drew K rest ((d,.pointer (some (adr v sz n)))::st)):WS P N ops w0.drew K (⟨some d,.indexAddr T x y,t,p,e,none⟩::rest) st:=qo (Kf hx hy (hs.ext (Ext.refl w0).drew) hi hn) hd h
theorem zv(hv:RV P N op t st w v)(h:WL P N ops Q rest ((d,v)::st) w)(hd:L3 d N=true:=by exact rfl):WL P N ops Q (⟨some d,op,t,p,e,none⟩::rest) st w:=mW hv hd h
theorem zw(hv:RV P N op t st w v)(h:WS P N ops w K rest ((d,v)::st))(hd:L3 d N=true:=by exact rfl):WS P N ops w K (⟨some d,op,t,p,e,none⟩::rest) st:=qo hv hd h
theorem zc{ats:Array L0}{R:ix→ln→Prop}
 (hf:∀(args:Array ix) (w:ln),(callFunc f args).run P w=.ok (.enter f args) w) (hc:Ret P f vs w R)
 (h:∀v w',R v w'→WL P N ops Q rest ((d,v)::st) w') (hargs:evs st args=some vs:=by exact rfl) (hd:L3 d N=true:=by exact rfl):WL P N ops Q (⟨some d,.call ⟨.value (.func f),args.toArray,ats⟩,t,p,e,none⟩::rest) st w:=WL.call hf hargs hc hd h
theorem zt(i:Nat)(hi:ops[i]? = some ⟨some d,op,t,p,e,none⟩)(hS:S w)(hv:∀w',S w'→RV P N op t st w' v)(h:WH P N ops S Q fuel (listed.setIfInBounds i true) ((d,v)::st) w)
  (hs:M0 ops=true:=by kernel_rfl) (hf:Mf .any ops listed i=true:=by kernel_rfl) (hr:(LX .any ops listed).contains i=true:=by kernel_rfl) (hd:L3 d N=true:=by exact rfl):WH P N ops S Q (fuel+1) listed st w:=
 WH.take i hi hs hf hr hS hv hd h
theorem zr(i:Nat)(hi:ops[i]? = some ⟨some d,op,t,p,e,none⟩)(hS:S w)(hv:∀w',RV P N op t st w' v)(h:WH P N ops S Q fuel (listed.setIfInBounds i true) ((d,v)::st) w)
  (hs:M0 ops=true:=by kernel_rfl) (hf:Mf .any ops listed i=true:=by kernel_rfl) (hr:(LX .any ops listed).contains i=true:=by kernel_rfl) (hd:L3 d N=true:=by exact rfl):WH P N ops S Q (fuel+1) listed st w:=
 WH.take i hi hs hf hr hS (λw' _=>hv w') hd h
theorem zC{x y:N6}(ht:b=true→WC P N x Q st w)(hf:b=false→WC P N y Q st w)(hc:ev st c=some (.bool b):=by exact rfl):WC P N (.cond c x y) Q st w:=WC.cond hc ht hf
theorem zsa{O:Nat→Nat}{b:Nat}{cs us:Array ix}(hb:BlkO O w i b cs E)(hT:(Mj T).run P w=.ok us.size w)(h:WL P N ops Q rest st (w.setRow b us))(hs:us.size=cs.size:=by exact rfl)(h1:us.toList.all ME=true:=by exact rfl)(hx:ev st x=some (.pointer (some q)):=by exact rfl)(hq:q=⟨b,0,none⟩:=by exact rfl)(hy:ev st y=some (.agg us):=by exact rfl):WL P N ops Q (⟨none,.store T x y,t,p,e,none⟩::rest) st w:=bG hb hs hT h1 hx hq hy h
theorem zsb{O:Nat→Nat}{b:Nat}{cs us:Array ix}(hb:BlkO O w i b cs E)(hT:(Mj T).run P w=.ok us.size w)(h1:us.toList.all ME=true)(h:WL P N ops Q rest st (w.setRow b us))(hs:us.size=cs.size:=by exact rfl)(hx:ev st x=some (.pointer (some q)):=by exact rfl)(hq:q=⟨b,0,none⟩:=by exact rfl)(hy:ev st y=some (.agg us):=by exact rfl):WL P N ops Q (⟨none,.store T x y,t,p,e,none⟩::rest) st w:=bG hb hs hT h1 hx hq hy h
theorem fI{f o m:Nat}{fs:Array RE}{fd:RE}(h1:P.underlying T=some (.struct fs))(h2:fs[f]? = some fd)(h3:fd.offset=o)(h4:∀w,(Mj fd.type).run P w=.ok m w)(h5:m≠0:=by decide):FA P T f o:=⟨fs,fd,m,h1,h2,h3,h4,h5⟩
theorem zaf(hS:S w)(h:S w→WH P N ops S Q fuel (listed.setIfInBounds i true) st w):QF N (tD P ops S Q fuel (listed.setIfInBounds i true)) .normal st w:=aa hS (h hS)
theorem zrm(i:Nat)(hi:ops[i]? = some ⟨some d,.move x,t,p,e,none⟩)(hS:S w)(hx:ev st x=some v)(h:WH P N ops S Q fuel (listed.setIfInBounds i true) ((d,v)::st) w)
  (hs:M0 ops=true:=by kernel_rfl) (hf:Mf .any ops listed i=true:=by kernel_rfl) (hr:(LX .any ops listed).contains i=true:=by kernel_rfl) (hd:L3 d N=true:=by exact rfl):WH P N ops S Q (fuel+1) listed st w:=
 WH.take i hi hs hf hr hS (λ_ _=>RV.move hx) hd h
theorem zra(i:Nat)(hi:ops[i]? = some ⟨some d,.assign x,t,p,e,none⟩)(hS:S w)(hx:ev st x=some v)(h:WH P N ops S Q fuel (listed.setIfInBounds i true) ((d,v)::st) w)
  (hs:M0 ops=true:=by kernel_rfl) (hf:Mf .any ops listed i=true:=by kernel_rfl) (hr:(LX .any ops listed).contains i=true:=by kernel_rfl) (hd:L3 d N=true:=by exact rfl):WH P N ops S Q (fuel+1) listed st w:=
 WH.take i hi hs hf hr hS (λ_ _=>RV.assign hx) hd h
theorem zrf{f o:Nat}[h':FA P T f o](i:Nat)(hi:ops[i]? = some ⟨some d,.fieldAddr T x f,t,p,e,none⟩)(hS:S w)(hx:ev st x=some (.pointer (some q)))(h:WH P N ops S Q fuel (listed.setIfInBounds i true) ((d,.pointer (some (q.add o)))::st) w)
  (hs:M0 ops=true:=by kernel_rfl) (hf:Mf .any ops listed i=true:=by kernel_rfl) (hr:(LX .any ops listed).contains i=true:=by kernel_rfl) (hd:L3 d N=true:=by exact rfl):WH P N ops S Q (fuel+1) listed st w:=
 WH.take i hi hs hf hr hS (λ_ _=>RV.fa hx) hd h
theorem zto(i:Nat)(hi:ops[i]? = some ⟨some d,op,t,p,e,some (j,b)⟩)(hS:S w)(hv:∀w',S w'→RV P N op t st w' v)(h:WH P N ops S Q fuel (listed.setIfInBounds i true) ((d,v)::st) w)(hg:said ops st j=some b:=by exact rfl)
  (hs:M0 ops=true:=by kernel_rfl) (hf:Mf .any ops listed i=true:=by kernel_rfl) (hr:(LX .any ops listed).contains i=true:=by kernel_rfl) (hd:L3 d N=true:=by exact rfl):WH P N ops S Q (fuel+1) listed st w:=
 vN i hi hg hs hf hr hS hv hd h
theorem zro(i:Nat)(hi:ops[i]? = some ⟨some d,op,t,p,e,some (j,b)⟩)(hS:S w)(hv:∀w',RV P N op t st w' v)(h:WH P N ops S Q fuel (listed.setIfInBounds i true) ((d,v)::st) w)(hg:said ops st j=some b:=by exact rfl)
  (hs:M0 ops=true:=by kernel_rfl) (hf:Mf .any ops listed i=true:=by kernel_rfl) (hr:(LX .any ops listed).contains i=true:=by kernel_rfl) (hd:L3 d N=true:=by exact rfl):WH P N ops S Q (fuel+1) listed st w:=
 vN i hi hg hs hf hr hS (λw' _=>hv w') hd h
theorem zte(i:Nat)(hi:ops[i]? = some ⟨some d,op,t,p,e,some (j,b)⟩)(hg:said ops st j=some b')(hS:S w)(h:WH P N ops S Q fuel (listed.setIfInBounds i true) ((d,undef)::st) w)(hne:(b'==b)=false:=by exact rfl)
  (hs:M0 ops=true:=by kernel_rfl) (hf:Mf .any ops listed i=true:=by kernel_rfl) (hr:(LX .any ops listed).contains i=true:=by kernel_rfl) (hd:L3 d N=true:=by exact rfl):WH P N ops S Q (fuel+1) listed st w:=
 Bl i hi hg hne hs hf hr hS hd h
theorem ztu(i:Nat)(hi:ops[i]? = some ⟨some d,op,t,p,e,some (j,b)⟩)(hS:S w)(h:WH P N ops S Q fuel (listed.setIfInBounds i true) ((d,undef)::st) w)(hg:jN ops st j=true:=by exact rfl)
  (hs:M0 ops=true:=by kernel_rfl) (hf:Mf .any ops listed i=true:=by kernel_rfl) (hr:(LX .any ops listed).contains i=true:=by kernel_rfl) (hd:L3 d N=true:=by exact rfl):WH P N ops S Q (fuel+1) listed st w:=
 yx i hi hg hs hf hr hS hd h
theorem nE{c X:Bool}{st0:St}(tA n:Nat)(hS:S w)(e:X=c)(hX:cO st0 tA=some (.bool X):=by exact rfl)(hdrop:st.drop n=st0:=by exact rfl)(hf:((st.take n).all λq=>Mh q.1 tA||(match cO st0 q.1 with|none=>true|_=>false))=true:=by exact rfl)
 (hA:cO st tA=some (.bool c):=by exact rfl) (hb:cO st tB=some (.bool b):=by exact rfl):QF N (Jj N S tB b st0) .normal st w:=cg n hS hdrop hf hA (λv hv=>by rw[hX]at hv;cases hv;rw[e]) hb
theorem zin(hS:S w)(h:S w→WH P N ops S Q fuel listed st w):WH P N ops S Q fuel listed st w:=h hS
theorem zlp{c:N6}(f:α→St)(g:α→ln)(I:α→Prop)(μ:α→Nat)(x0:α)(h0:I x0)
 (round:∀x,I x→WC P N c (Exit.then (λa' w'=>∃y,I y∧μ y<μ x∧Fits N a' (f y)∧g y=w') Q) (f x) (g x)) (hc:Cov st (f x0):=by repeat' first|exact trivial|exact rfl|constructor) (hw:g x0=w:=by exact rfl):WC P N (.loop c) Q st w:=WC.loop f g I μ x0 h0 hc hw round
theorem zx{f:α→St}{g:α→ln}{I:α→Prop}{m:Nat}{μ:α→Nat}(y:α)(h1:I y)(h2:μ y<m)(h3:Cov st (f y):=by repeat' first|exact trivial|exact rfl|constructor)(h4:g y=w:=by exact rfl):
 QF N (Exit.then (λa' w'=>∃y,I y∧μ y<m∧Fits N a' (f y)∧g y=w') Q) .normal st w:=QF.next y h1 h2 h3 h4
theorem zxd{f:α→St}{g:α→ln}{I:α→Prop}{m:Nat}{μ:α→Nat}(y:α)(h1:I y)(h2:μ y<m:=by first|omega|(dsimp only;omega))(h3:Cov st (f y):=by repeat' first|exact trivial|exact rfl|constructor)(h4:g y=w:=by exact rfl):
 QF N (Exit.then (λa' w'=>∃y,I y∧μ y<m∧Fits N a' (f y)∧g y=w') Q) .normal st w:=QF.next y h1 h2 h3 h4
end
theorem zg{B:Prop}(k:B)(a:Hold B→A:=by
 intro k
 repeat first
  |((with_reducible refine' Gv ?_ ?_ ?_);rotate_left 1;exact rfl;exact rfl)
  |((with_reducible refine' yL ?_ ?_ ?_);rotate_left 1;exact rfl;exact rfl)
  |((with_reducible refine' Lj ?_ ?_ ?_);rotate_left 1;exact rfl;exact rfl)
  |with_reducible refine WL.nil ?_
  |with_reducible refine GW ?_
  |with_reducible refine GX ?_
  |with_reducible refine ah ?_
  |with_reducible refine WC.seq ?_
  |with_reducible refine WC.region ?_
  |with_reducible refine WC.skip ?_
  |with_reducible refine WC.block ?_
  |with_reducible refine WC.exit ?_
  |with_reducible refine WC.ret ?_
  |with_reducible refine aO ?_
  |with_reducible refine cA ?_
  |with_reducible refine aE ?_
  |with_reducible refine bC ?_
  |with_reducible refine gS ?_
  |((with_reducible refine nc ?_ ?_);exact rfl)
  |((with_reducible refine' yK ?_ ?_ ?_);rotate_left 1;exact rfl;exact rfl)
  |((with_reducible refine' tI ?_ ?_ ?_ ?_);rotate_left 2;exact rfl;exact rfl;exact rfl)
  |((with_reducible refine' Jo ?_ ?_ ?_ ?_);rotate_left 3;exact rfl;exact rfl;exact rfl)
  |((with_reducible refine' Jp ?_ ?_ ?_ ?_);rotate_left 3;exact rfl;exact rfl;exact rfl)
  |((with_reducible refine' Jq ?_ ?_ ?_ ?_);rotate_left 3;exact rfl;exact rfl;exact rfl)
  |((with_reducible refine' Jr ?_ ?_ ?_ ?_);rotate_left 3;exact rfl;exact rfl;exact rfl)
  |((with_reducible refine' Js ?_ ?_ ?_ ?_);rotate_left 3;exact rfl;exact rfl;exact rfl)
  |((with_reducible refine' Jn ?_ ?_ ?_ ?_);rotate_left 3;exact rfl;exact rfl;exact rfl)
  |((with_reducible refine' Jm ?_ ?_ ?_);rotate_left 1;exact rfl;exact rfl)
  |((with_reducible refine' Jk ?_ ?_ ?_ ?_ ?_);rotate_left 2;exact rfl;(with_reducible exact rfl);exact rfl;exact rfl)
  |((with_reducible refine' Jl ?_ ?_ ?_ ?_ ?_);rotate_left 2;exact rfl;(with_reducible exact rfl);exact rfl;exact rfl)
  |((with_reducible refine' DG ?_ ?_ ?_ ?_);rotate_left 1;exact rfl;(with_reducible exact rfl);exact rfl)
  |((with_reducible refine' DH ?_ ?_ ?_ ?_);rotate_left 1;exact rfl;(with_reducible exact rfl);exact rfl)
  |((with_reducible refine bQ ?_ ?_ ?_);exact rfl;exact rfl)
  |((with_reducible refine' GY ?_ ?_ ?_);rotate_left 1;exact rfl;(with_reducible exact rfl))
  |((with_reducible refine' Gw ?_ ?_ ?_);rotate_left 1;exact rfl;exact rfl)
  |((with_reducible refine' yN ?_ ?_ ?_);rotate_left 1;exact rfl;exact rfl)
  |((with_reducible refine' Lk ?_ ?_ ?_);rotate_left 1;exact rfl;exact rfl)
  |((with_reducible refine' yM ?_ ?_ ?_);rotate_left 1;exact rfl;exact rfl)
  |((with_reducible refine' tJ ?_ ?_ ?_ ?_);rotate_left 2;exact rfl;exact rfl;exact rfl)
  |((with_reducible refine' DE ?_ ?_ ?_ ?_);rotate_left 1;exact rfl;(with_reducible exact rfl);exact rfl)
  |((with_reducible refine' DF ?_ ?_ ?_ ?_);rotate_left 1;exact rfl;(with_reducible exact rfl);exact rfl)
  |((with_reducible refine DD ?_ ?_ ?_);exact rfl;exact rfl)
  |with_reducible refine GS ?_
  |with_reducible refine GT ?_
  |((with_reducible refine' Jt ?_ ?_ ?_);rotate_left 1;exact rfl;exact rfl)
  |((with_reducible refine' Jv ?_ ?_ ?_ ?_);rotate_left 3;exact rfl;exact rfl;exact rfl)
  |((with_reducible refine' Jw ?_ ?_ ?_ ?_);rotate_left 3;exact rfl;exact rfl;exact rfl)
  |((with_reducible refine' Jy ?_ ?_ ?_ ?_);rotate_left 3;exact rfl;exact rfl;exact rfl)
  |((with_reducible refine' Jz ?_ ?_ ?_ ?_);rotate_left 3;exact rfl;exact rfl;exact rfl)
  |((with_reducible refine' JA ?_ ?_ ?_ ?_);rotate_left 3;exact rfl;exact rfl;exact rfl)
  |((with_reducible refine' Ju ?_ ?_ ?_ ?_);rotate_left 3;exact rfl;exact rfl;exact rfl)
  |((with_reducible refine' GU ?_ ?_ ?_);rotate_left 1;exact rfl;(with_reducible exact rfl))
 exact k.out):A:=a ⟨k⟩
theorem zh{B:Prop}(k:B)(a:Hold B→A:=by
 intro k
 repeat first
  |((with_reducible refine' Gv ?_ ?_ ?_);rotate_left 1;exact rfl;exact rfl)
  |((with_reducible refine' yL ?_ ?_ ?_);rotate_left 1;exact rfl;exact rfl)
  |((with_reducible refine' Lj ?_ ?_ ?_);rotate_left 1;exact rfl;exact rfl)
  |with_reducible refine WL.nil ?_
  |with_reducible refine GW ?_
  |with_reducible refine GX ?_
  |with_reducible refine ah ?_
  |with_reducible refine WC.seq ?_
  |with_reducible refine WC.region ?_
  |with_reducible refine WC.skip ?_
  |with_reducible refine WC.block ?_
  |with_reducible refine WC.exit ?_
  |with_reducible refine WC.ret ?_
  |with_reducible refine aO ?_
  |with_reducible refine cA ?_
  |with_reducible refine aE ?_
  |with_reducible refine bC ?_
  |with_reducible refine gS ?_
  |((with_reducible refine nc ?_ ?_);exact rfl)
  |((with_reducible refine' yK ?_ ?_ ?_);rotate_left 1;exact rfl;exact rfl)
  |((with_reducible refine' tI ?_ ?_ ?_ ?_);rotate_left 2;exact rfl;exact rfl;exact rfl)
  |((with_reducible refine' Jo ?_ ?_ ?_ ?_);rotate_left 3;exact rfl;exact rfl;exact rfl)
  |((with_reducible refine' Jp ?_ ?_ ?_ ?_);rotate_left 3;exact rfl;exact rfl;exact rfl)
  |((with_reducible refine' Jq ?_ ?_ ?_ ?_);rotate_left 3;exact rfl;exact rfl;exact rfl)
  |((with_reducible refine' Jr ?_ ?_ ?_ ?_);rotate_left 3;exact rfl;exact rfl;exact rfl)
  |((with_reducible refine' Js ?_ ?_ ?_ ?_);rotate_left 3;exact rfl;exact rfl;exact rfl)
  |((with_reducible refine' Jn ?_ ?_ ?_ ?_);rotate_left 3;exact rfl;exact rfl;exact rfl)
  |((with_reducible refine' Jm ?_ ?_ ?_);rotate_left 1;exact rfl;exact rfl)
  |((with_reducible refine' Jk ?_ ?_ ?_ ?_ ?_);rotate_left 2;exact rfl;(with_reducible exact rfl);exact rfl;exact rfl)
  |((with_reducible refine' Jl ?_ ?_ ?_ ?_ ?_);rotate_left 2;exact rfl;(with_reducible exact rfl);exact rfl;exact rfl)
  |((with_reducible refine' DG ?_ ?_ ?_ ?_);rotate_left 1;exact rfl;(with_reducible exact rfl);exact rfl)
  |((with_reducible refine' DH ?_ ?_ ?_ ?_);rotate_left 1;exact rfl;(with_reducible exact rfl);exact rfl)
  |((with_reducible refine bQ ?_ ?_ ?_);exact rfl;exact rfl)
  |((with_reducible refine' GY ?_ ?_ ?_);rotate_left 1;exact rfl;(with_reducible exact rfl))
  |((with_reducible refine' Gw ?_ ?_ ?_);rotate_left 1;exact rfl;exact rfl)
  |((with_reducible refine' yN ?_ ?_ ?_);rotate_left 1;exact rfl;exact rfl)
  |((with_reducible refine' Lk ?_ ?_ ?_);rotate_left 1;exact rfl;exact rfl)
  |((with_reducible refine' yM ?_ ?_ ?_);rotate_left 1;exact rfl;exact rfl)
  |((with_reducible refine' tJ ?_ ?_ ?_ ?_);rotate_left 2;exact rfl;exact rfl;exact rfl)
  |((with_reducible refine' DE ?_ ?_ ?_ ?_);rotate_left 1;exact rfl;(with_reducible exact rfl);exact rfl)
  |((with_reducible refine' DF ?_ ?_ ?_ ?_);rotate_left 1;exact rfl;(with_reducible exact rfl);exact rfl)
  |((with_reducible refine DD ?_ ?_ ?_);exact rfl;exact rfl)
  |with_reducible refine GS ?_
  |with_reducible refine GT ?_
  |((with_reducible refine' Jt ?_ ?_ ?_);rotate_left 1;exact rfl;exact rfl)
  |((with_reducible refine' Jv ?_ ?_ ?_ ?_);rotate_left 3;exact rfl;exact rfl;exact rfl)
  |((with_reducible refine' Jw ?_ ?_ ?_ ?_);rotate_left 3;exact rfl;exact rfl;exact rfl)
  |((with_reducible refine' Jy ?_ ?_ ?_ ?_);rotate_left 3;exact rfl;exact rfl;exact rfl)
  |((with_reducible refine' Jz ?_ ?_ ?_ ?_);rotate_left 3;exact rfl;exact rfl;exact rfl)
  |((with_reducible refine' JA ?_ ?_ ?_ ?_);rotate_left 3;exact rfl;exact rfl;exact rfl)
  |((with_reducible refine' Ju ?_ ?_ ?_ ?_);rotate_left 3;exact rfl;exact rfl;exact rfl)
  |((with_reducible refine' GU ?_ ?_ ?_);rotate_left 1;exact rfl;(with_reducible exact rfl))
  |((with_reducible refine' Lt ?_ ?_ ?_ ?_);rotate_left 2;exact rfl;(with_reducible assumption);exact rfl)
  |((with_reducible refine' Ky ?_ ?_ ?_ ?_ ?_);rotate_left 2;exact rfl;exact rfl;omega;exact rfl)
  |((with_reducible refine' Ls ?_ ?_ ?_ ?_);rotate_left 4;exact rfl;(with_reducible assumption);exact rfl)
  |((with_reducible refine' Lu ?_ ?_ ?_ ?_ ?_ ?_ ?_);rotate_left 7;exact rfl;exact rfl;(with_reducible assumption);exact rfl;omega;exact rfl)
  |((with_reducible refine' Kx ?_ ?_ ?_ ?_ ?_);rotate_left 2;exact rfl;exact rfl;omega;exact rfl)
  |((with_reducible refine' Lw ?_ ?_ ?_ ?_);rotate_left 2;exact rfl;(with_reducible assumption);exact rfl)
  |((with_reducible refine' KB ?_ ?_ ?_ ?_ ?_);rotate_left 2;exact rfl;exact rfl;omega;exact rfl)
  |((with_reducible refine' Kz ?_ ?_ ?_ ?_ ?_);rotate_left 2;exact rfl;exact rfl;omega;exact rfl)
  |((with_reducible refine' KA ?_ ?_ ?_ ?_);rotate_left 2;exact rfl;(with_reducible assumption);exact rfl)
  |((with_reducible refine' Lv ?_ ?_ ?_ ?_);rotate_left 4;exact rfl;(with_reducible assumption);exact rfl)
  |((with_reducible refine' Lx ?_ ?_ ?_ ?_ ?_ ?_ ?_);rotate_left 7;exact rfl;exact rfl;(with_reducible assumption);exact rfl;omega;exact rfl)
 exact k.out):A:=a ⟨k⟩
section
variable{P:L5}{N:Nat}{ops:Array LY}{Q:Md→MB→ln→Prop}{K:MB→Prop}{rest:List LY}{st:St}{w:ln}
variable{t:L0}{p:String}{e:Array MR}{d:Nat}{v:ix}{op:Op}{B:Prop}
theorem zvG(hv:RV P N op t st w v)(k:B)(hd:L3 d N=true:=by exact rfl)(a:Hold B→WL P N ops Q rest ((d,v)::st) w:=by intro k;exact zg k.out):WL P N ops Q (⟨some d,op,t,p,e,none⟩::rest) st w:=mW hv hd (a ⟨k⟩)
theorem zwG(hv:RV P N op t st w v)(k:B)(hd:L3 d N=true:=by exact rfl)(a:Hold B→WS P N ops w K rest ((d,v)::st):=by intro k;exact zg k.out):WS P N ops w K (⟨some d,op,t,p,e,none⟩::rest) st:=qo hv hd (a ⟨k⟩)
theorem zTG{x y:N6}(hc:ev st c=some (.bool b))(hb:b=true)(k:B)(a:Hold B→WC P N x Q st w:=by intro k;exact zg k.out):WC P N (.cond c x y) Q st w:=aP hc hb (a ⟨k⟩)
theorem zFG{x y:N6}(hc:ev st c=some (.bool b))(hb:b=false)(k:B)(a:Hold B→WC P N y Q st w:=by intro k;exact zg k.out):WC P N (.cond c x y) Q st w:=aI hc hb (a ⟨k⟩)
theorem zvH(hv:RV P N op t st w v)(k:B)(hd:L3 d N=true:=by exact rfl)(a:Hold B→WL P N ops Q rest ((d,v)::st) w:=by intro k;exact zh k.out):WL P N ops Q (⟨some d,op,t,p,e,none⟩::rest) st w:=mW hv hd (a ⟨k⟩)
theorem zwH(hv:RV P N op t st w v)(k:B)(hd:L3 d N=true:=by exact rfl)(a:Hold B→WS P N ops w K rest ((d,v)::st):=by intro k;exact zh k.out):WS P N ops w K (⟨some d,op,t,p,e,none⟩::rest) st:=qo hv hd (a ⟨k⟩)
theorem zTH{x y:N6}(hc:ev st c=some (.bool b))(hb:b=true)(k:B)(a:Hold B→WC P N x Q st w:=by intro k;exact zh k.out):WC P N (.cond c x y) Q st w:=aP hc hb (a ⟨k⟩)
theorem zFH{x y:N6}(hc:ev st c=some (.bool b))(hb:b=false)(k:B)(a:Hold B→WC P N y Q st w:=by intro k;exact zh k.out):WC P N (.cond c x y) Q st w:=aI hc hb (a ⟨k⟩)
end
end Go.VL
end
section
namespace Go.VL
open Go.Proofs.Tryz
open Go.Proofs Go.Proofs.YteolbhblkgjbhaaGreatDoor
open Go.Proofs.Tryz
instance :FA L7 26 0 0:=fI NT rfl rfl Ma
instance :FA L7 26 1 1:=fI NT rfl rfl MM
instance :FA L7 26 2 2:=fI NT rfl rfl MM
instance :FA L7 26 3 3:=fI NT rfl rfl MM
instance :FA L7 26 4 4:=fI NT rfl rfl MM
instance :FA L7 29 0 0:=fI Ro rfl rfl sizeOf26
instance :FA L7 29 1 5:=fI Ro rfl rfl R8
instance :FA L7 31 0 0:=fI Na rfl rfl PE
instance :FA L7 31 1 1:=fI Na rfl rfl PE
instance :FA L7 31 2 2:=fI Na rfl rfl PE
instance :FA L7 31 3 3:=fI Na rfl rfl Ma
instance :FA L7 31 4 4:=fI Na rfl rfl MM
instance :FA L7 31 5 5:=fI Na rfl rfl sizeOf29
instance :FA L7 31 6 11:=fI Na rfl rfl sizeOf29
instance :FA L7 45 0 0:=fI Qg rfl rfl MM
instance :FA L7 45 1 1:=fI Qg rfl rfl MM
instance :FA L7 45 2 2:=fI Qg rfl rfl sizeOf43
instance :FA L7 56 0 0:=fI Qf rfl rfl MM
instance :FA L7 56 1 1:=fI Qf rfl rfl MM
instance :FA L7 56 2 2:=fI Qf rfl rfl sizeOf54
instance :FA L7 69 1 0:=fI underlying69 rfl rfl sizeOf67
instance :FA L7 71 0 0:=fI underlying71 rfl rfl sizeOf21
instance :FA L7 73 1 0:=fI underlying73 rfl rfl sizeOf71
instance :FA L7 75 1 0:=fI Rn rfl rfl sizeOf69
instance :FA L7 75 2 1:=fI Rn rfl rfl sizeOf73
instance :FA L7 77 0 0:=fI Rm rfl rfl sizeOf75
instance :FA L7 77 1 3:=fI Rm rfl rfl sizeOf31
instance :FA L7 80 0 0:=fI underlying80 rfl rfl sizeOf78
instance :FA L7 96 0 0:=fI Qe rfl rfl Ma
instance :FA L7 96 1 1:=fI Qe rfl rfl Ma
instance :FA L7 96 2 2:=fI Qe rfl rfl sizeOf94
instance :FA L7 98 0 0:=fI Qd rfl rfl PD
instance :FA L7 98 1 3:=fI Qd rfl rfl PD
instance :FA L7 98 2 6:=fI Qd rfl rfl Nb
instance :FA L7 111 0 0:=fI Nm rfl rfl Pl
instance :FA L7 111 1 1:=fI Nm rfl rfl Ma
instance :FA L7 111 2 2:=fI Nm rfl rfl Ma
instance :FA L7 111 3 3:=fI Nm rfl rfl Ma
instance :FA L7 111 4 4:=fI Nm rfl rfl Ma
instance :FA L7 111 5 5:=fI Nm rfl rfl sizeOf57
instance :FA L7 114 0 0:=fI NH rfl rfl sizeOf111
instance :FA L7 114 1 6:=fI NH rfl rfl sizeOf56
instance :FA L7 114 2 9:=fI NH rfl rfl sizeOf112
instance :FA L7 114 3 10:=fI NH rfl rfl Nb
instance :FA L7 114 4 11:=fI NH rfl rfl Nb
instance :FA L7 120 0 0:=fI PY rfl rfl Ma
instance :FA L7 120 1 1:=fI PY rfl rfl Ma
instance :FA L7 120 2 2:=fI PY rfl rfl sizeOf118
instance :FA L7 122 0 0:=fI PX rfl rfl Q7
instance :FA L7 122 1 3:=fI PX rfl rfl Q7
instance :FA L7 122 2 6:=fI PX rfl rfl Nb
instance :FA L7 138 0 0:=fI Ri rfl rfl Ma
instance :FA L7 138 1 1:=fI Ri rfl rfl Nb
instance :FA L7 140 0 0:=fI Nl rfl rfl sizeOf31
instance :FA L7 140 1 17:=fI Nl rfl rfl Ma
instance :FA L7 140 2 18:=fI Nl rfl rfl sizeOf136
instance :FA L7 140 3 19:=fI Nl rfl rfl Nb
instance :FA L7 140 4 20:=fI Nl rfl rfl sizeOf138
instance :FA L7 140 5 22:=fI Nl rfl rfl Nb
instance :FA L7 151 0 0:=fI Nk rfl rfl sizeOf45
instance :FA L7 151 1 3:=fI Nk rfl rfl sizeOf149
instance :FA L7 151 2 4:=fI Nk rfl rfl Nb
instance :FA L7 151 3 5:=fI Nk rfl rfl Nb
instance :FA L7 151 4 6:=fI Nk rfl rfl Ma
instance :FA L7 151 5 7:=fI Nk rfl rfl Ma
instance :FA L7 170 0 0:=fI Rh rfl rfl Q6
instance :FA L7 170 1 1:=fI Rh rfl rfl R8
instance :FA L7 185 0 0:=fI Rg rfl rfl Pl
instance :FA L7 185 1 1:=fI Rg rfl rfl PD
instance :FA L7 197 0 0:=fI Rf rfl rfl Pl
instance :FA L7 197 1 1:=fI Rf rfl rfl Q7
instance :FA L7 225 1 1:=fI Re rfl rfl Q6
instance :FA L7 225 2 2:=fI Re rfl rfl R8
instance :FA L7 237 0 0:=fI PW rfl rfl PD
instance :FA L7 237 1 3:=fI PW rfl rfl Ma
instance :FA L7 237 3 5:=fI PW rfl rfl Ma
instance :FA L7 240 0 0:=fI Rb rfl rfl sizeOf5
instance :FA L7 240 1 1:=fI Rb rfl rfl Pl
instance :FA L7 248 0 0:=fI Ra rfl rfl Pl
instance :FA L7 248 1 1:=fI Ra rfl rfl Ma
instance :FA L7 250 0 0:=fI NG rfl rfl sizeOf248
instance :FA L7 250 1 2:=fI NG rfl rfl sizeOf112
instance :FA L7 250 2 3:=fI NG rfl rfl Ma
instance :FA L7 250 3 4:=fI NG rfl rfl Ma
instance :FA L7 250 4 5:=fI NG rfl rfl sizeOf57
instance :FA L7 278 0 0:=fI NF rfl rfl Nb
instance :FA L7 278 1 1:=fI NF rfl rfl sizeOf275
instance :FA L7 278 2 2:=fI NF rfl rfl sizeOf276
instance :FA L7 278 3 3:=fI NF rfl rfl sizeOf273
instance :FA L7 278 4 4:=fI NF rfl rfl sizeOf274
instance :FA L7 280 0 0:=fI PV rfl rfl MM
instance :FA L7 280 1 1:=fI PV rfl rfl MM
instance :FA L7 280 2 2:=fI PV rfl rfl Ma
instance :FA L7 283 0 0:=fI PU rfl rfl Ma
instance :FA L7 283 1 1:=fI PU rfl rfl Ma
instance :FA L7 283 2 2:=fI PU rfl rfl Ma
instance :FA L7 287 0 0:=fI PT rfl rfl sizeOf213
instance :FA L7 287 1 1:=fI PT rfl rfl sizeOf285
instance :FA L7 287 2 2:=fI PT rfl rfl Q6
instance :FA L7 327 0 0:=fI Nj rfl rfl sizeOf170
instance :FA L7 327 1 2:=fI Nj rfl rfl sizeOf325
instance :FA L7 327 2 3:=fI Nj rfl rfl MM
instance :FA L7 327 3 4:=fI Nj rfl rfl sizeOf273
instance :FA L7 327 4 5:=fI Nj rfl rfl sizeOf324
instance :FA L7 327 5 6:=fI Nj rfl rfl Ma
instance :SC L7 22 1:=⟨3,Qh,Ma⟩
instance :SC L7 27 1:=⟨24,underlying27,PE⟩
instance :SC L7 39 1:=⟨4,underlying39,Nb⟩
instance :SC L7 43 7:=⟨98,underlying43,sizeOf98⟩
instance :SC L7 54 7:=⟨122,underlying54,sizeOf122⟩
instance :SC L7 94 3:=⟨96,underlying94,PD⟩
instance :SC L7 107 1:=⟨9,underlying107,Pl⟩
instance :SC L7 108 1:=⟨107,underlying108,sizeOf107⟩
instance :SC L7 112 4:=⟨197,underlying112,sizeOf197⟩
instance :SC L7 118 3:=⟨120,underlying118,Q7⟩
instance :SC L7 130 1:=⟨22,underlying130,MM⟩
instance :SC L7 136 2:=⟨138,underlying136,sizeOf138⟩
instance :SC L7 218 2:=⟨170,underlying218,sizeOf170⟩
instance :SC L7 234 3:=⟨240,underlying234,sizeOf240⟩
instance :SC L7 276 3:=⟨280,underlying276,sizeOf280⟩
instance :SC L7 325 1:=⟨130,underlying325,Q6⟩
instance :AG L7 3 false:=⟨RM⟩
instance :AG L7 4 false:=⟨RJ⟩
instance :AG L7 5 false:=⟨isAgg5⟩
instance :AG L7 9 false:=⟨isAgg9⟩
instance :AG L7 21 false:=⟨isAgg21⟩
instance :AG L7 22 false:=⟨Rp⟩
instance :AG L7 24 false:=⟨isAgg24⟩
instance :AG L7 27 false:=⟨isAgg27⟩
instance :AG L7 36 false:=⟨isAgg36⟩
instance :AG L7 43 false:=⟨isAgg43⟩
instance :AG L7 54 false:=⟨isAgg54⟩
instance :AG L7 57 false:=⟨isAgg57⟩
instance :AG L7 82 false:=⟨isAgg82⟩
instance :AG L7 94 false:=⟨isAgg94⟩
instance :AG L7 107 false:=⟨isAgg107⟩
instance :AG L7 112 false:=⟨isAgg112⟩
instance :AG L7 118 false:=⟨isAgg118⟩
instance :AG L7 130 false:=⟨isAgg130⟩
instance :AG L7 136 false:=⟨isAgg136⟩
instance :AG L7 149 false:=⟨isAgg149⟩
instance :AG L7 213 false:=⟨isAgg213⟩
instance :AG L7 273 false:=⟨isAgg273⟩
instance :AG L7 274 false:=⟨isAgg274⟩
instance :AG L7 275 false:=⟨isAgg275⟩
instance :AG L7 276 false:=⟨isAgg276⟩
instance :AG L7 285 false:=⟨isAgg285⟩
instance :AG L7 323 false:=⟨isAgg323⟩
instance :AG L7 324 false:=⟨isAgg324⟩
instance :AG L7 325 false:=⟨isAgg325⟩
end Go.VL
end
namespace Go.VL
open Go.Proofs.Tryz
theorem max_lt(k:LW)(h:(a:Int)<=k.max):a<2^k.bits:=by
 cases k<;>simp only[Pz,P2,NL]at h ⊢<;>simp at h ⊢<;>omega
theorem kS(n a:Nat)(h:a<2^n):(QD n (a:Int)).toNat=a:=by
 rw[show QD n (a:Int)=BitVec.ofNat n a from by simp,BitVec.toNat_ofNat,Nat.mod_eq_of_lt h]
theorem rI(k:LW)(h:(a:Int)<=k.max):k.wrap a=a:=by
 cases k<;>simp only[Pz,P2,NL]at h<;>simp[RW,P2,NL]at h ⊢<;>(try split)<;>omega
def BD(k:LW):Nat:=if k.signed then k.bits-1 else k.bits
theorem xP(k:LW)(a:Nat):(a:Int)<=k.max↔a<2^BD k:=by
 cases k<;>simp[Pz,P2,NL,BD]<;>omega
section
variable{P:L5}{N:Nat}{ops:Array LY}{Q:Md→MB→ln→Prop}{rest:List LY}{st:St}{w:ln}
variable{t xt yt:L0}{p:String}{e:Array MR}{d:Nat}{x y z:L4}
variable{k:LW}{m n:Int}{a b:Nat}
theorem Ij(ha:(a:Int)<=k.max)(hb:(b:Int)<=k.max):(binOp .and xt (.int k a) (.int k b)).run P w=.ok (.int k ((a &&& b:Nat):Int)) w:=by
 rw[binOp_and];have h:((a &&& b:Nat):Int)<=k.max:=by have:=@Nat.and_le_left a b;omega
 simp only[Rk,BitVec.toNat_and,kS _ _ (max_lt k ha),kS _ _ (max_lt k hb),rI k h];rfl
theorem JK(ha:(a:Int)<=k.max)(hb:(b:Int)<=k.max):(binOp .or xt (.int k a) (.int k b)).run P w=.ok (.int k ((a ||| b:Nat):Int)) w:=by
 rw[binOp_or];have h:=(xP k _).2 (Nat.or_lt_two_pow ((xP k a).1 ha) ((xP k b).1 hb));simp only[Rk,BitVec.toNat_or,kS _ _ (max_lt k ha),kS _ _ (max_lt k hb),rI k h];rfl
theorem yH(hx:ev st x=some (.int k m))(hy:ev st y=some (.int k n))(hm:m=a)(hn:n=b)(ha:(a:Int)<=k.max)(hb:(b:Int)<=k.max):RV P N (.binOp .and xt x y yt) t st w (.int k ((a &&& b:Nat):Int)):=by
 subst hm;subst hn;exact gu hx hy (Ij ha hb)
theorem vP(hx:ev st x=some (.int k m))(hy:ev st y=some (.int k n))(hm:m=a)(hn:n=b)(ha:(a:Int)<=k.max)(hb:(b:Int)<=k.max):RV P N (.binOp .or xt x y yt) t st w (.int k ((a ||| b:Nat):Int)):=by
 subst hm;subst hn;exact gu hx hy (JK ha hb)
theorem iP(hx:ev st x=some (.int k m))(hy:ev st y=some (.int k' n))(hm:m=a)(hn:n=b)(hb:b<=k.bits):RV P N (.binOp .shr xt x y yt) t st w (.int k ((a / 2^b:Nat):Int)):=by
 subst hm;subst hn;apply gu hx hy;rw[binOp_shr];have h1:¬(b:Int)<0:=zo;simp only[RC,if_neg h1,Mp,NM hb];rw[Int.fdiv_eq_ediv_of_nonneg _ (by exact_mod_cast MA _)];simp
theorem yD(hx:ev st x=some (.int k m))(hy:ev st y=some (.int k' n))(hm:m=a)(hn:n=b)(hb:b<=k.bits)(hr:((a*2^b:Nat):Int)<=k.max):RV P N (.binOp .shl xt x y yt) t st w (.int k ((a*2^b:Nat):Int)):=by
 subst hm;subst hn;apply gu hx hy;rw[binOp_shl];have h1:¬(b:Int)<0:=zo;have h2:=rI k hr;simp only[RC,if_neg h1,Mp,NM hb];have h3:(a:Int)*2^b=((a*2^b:Nat):Int):=by simp
 rw[h3,h2];rfl
theorem xg(l:List UInt8):strOfNums (l.map λb=>(b.toNat:Int))=bs l:=by
 simp only[strOfNums,bs,List.map_map];congr 1;rw[show((λn:Int=>PH n.toNat)∘λb:UInt8=>(b.toNat:Int))=id from by funext b;simp];simp
theorem Af{l:List UInt8}(hl:Sl (λb:UInt8=>[N5 .u8 (b.toNat:Int)]) 1 w v l)(hs:P.underlying xt=some (.slice E))(he:P.underlying E=some (.int .u8))(a0:P.underlying yt=some .string)(hx:ev st x=some v):
  RV P N (.convert xt yt x) t st w (.string (bs l)):=
 λa' ha a2 p e g=>by
  obtain⟨a,c,rfl,hc,_,a1⟩:=hl.shape;simp only[execOp,ha.ev hx,L2]
  by_cases h0:l.length=0
  ·obtain rfl:l=[]:=LO h0
   cases a with
   |none=>
    rw[run_convert_bytes_nil w xt E hs he _ _ yt a0];rfl
   |some q=>
    obtain⟨b,o,sp⟩:=q;have hq:=run_convert_bytes_string (P:=P) w xt yt E (some ⟨b,o,sp⟩) 0 c hs he a0;simp only[Nh]at hq ⊢;rw[hq,run_bytesToString w ⟨b,o,sp⟩ 0 c [] (by simp[loadCells,loadCellsFrom])];rfl
  obtain⟨b,o,rfl⟩:=a1 h0
  have:=run_convert_bytes_arg (P:=P) w xt E hs he b o l.length c (l.map λb=>(b.toNat:Int)) (by simp) (λi hi=>by
   have h1:=hl.cells i hi 0 _ rfl;rw[aA]at h1;simp only[adr,Nx]at h1;rw[h1,Mt,MC (by simpa using hi)]
   simp) yt a0
  rw[this,xg];rfl
end
section
open Go.RowKit
abbrev Fr(ro:Option Nat):Fence:={ Mm with round:=ro }
def fH(o:LY):Bool:=match o.op with | .defer _=>false|_=>true
theorem AK(h:fH o=true):∀c,o.op≠.defer c:=by
 intro c e;simp[fH,e]at h
def dn(ds:List MO)(Q:Md->MB->ln->Prop):Md->MB->ln->Prop:=λe a w=>Q e { a with defers:=a.defers++ds } w
theorem jY(a:MB)(x:List MO):({ a with defers:=x }:MB).eval=a.eval:=by
 funext t;cases t<;>rfl
theorem LD{a:MB}{next:MB->ln->Prop}{Q1:Md->MB->ln->Prop} 
  (hn:ro=none\/fH o=true) (a1:∀a w,¬Q1 .outgrown a w) (hq:∀c a w,Q1 (.panic c) a w->Q (.panic c) { a with defers:=a.defers++ds } w)
  (h:o.wp P a w (λa w=>next { a with defers:=a.defers++ds } w) Q1):o.wpIn (Fr ro) 0 P { a with defers:=a.defers++ds } w next Q:=by
 refine⟨λ_ _=>trivial,?_⟩;have hs:o.semAt (Fr ro).round ({ a with defers:=a.defers++ds }:MB).eval=execOp a.eval o:=by
  rw[jY]
  rcases hn with rfl|hn
  ·rfl
  exact Oper.semAt_eq _ _ _ (AK hn)
 rw[hs];unfold MT at h;generalize (execOp a.eval o).run P w=r at h ⊢
 cases r with
 |ok nx w'=>
  cases nx with
  |value v=>cases hd:o.dst<;>simpa[NB,PP,Ny,hd]using h
  |skip=>cases hd:o.dst<;>simpa[NB,PP,Ny,hd]using h
  |defer d=>cases hd:o.dst<;>simpa[NB,PP,Ny,hd]using h
  |enter f args=>
   refine⟨λhh=>by simp[Mm]at hh,?_⟩;apply RX (callsIn_wide.2 h:CallsIn Mm _ P f args w' _)
   intro e w'' q
   cases e with
   |returned v=>cases hd:o.dst<;>simpa[Ny,hd]using q
   |panicked c=>exact hq _ _ _ q
   |outgrown=>obtain⟨a0,w0,q⟩:=q;exact absurd q (a1 _ _)
  |row row args=>
   refine⟨λhh=>by simp[Mm]at hh,λc cs _=>?_⟩;obtain⟨v,w'',q,s⟩:=h c cs;refine⟨v,w'',?_,stepsIn_wide.2 s⟩
   cases hd:o.dst<;>simpa[Ny,hd]using q
  |_=>exact h.elim
 |halt hl w'=>
  cases hl with
  |panic v=>exact hq _ _ _ h
  |_=>exact h.elim
theorem fp{ro:Option Nat}{P:L5}{ops:Array LY}{Q:Md->MB->ln->Prop}{ds:List MO}(l2:List LY)(a2:∀a w,¬Q .outgrown a w):
  ∀(l:List LY),(ro=none\/l.all fH=true)->∀a w,wpList P ops (dn ds (Exit.then (wpListIn (Fr ro) 0 P ops Q l2) Q)) l a w->wpListIn (Fr ro) 0 P ops Q (l++l2) { a with defers:=a.defers++ds } w
 |[],_,a,w,h=>h
 |o::rest,hn,a,w,h=>by
  have a4:ro=none\/fH o=true:=by rcases hn with h|h;exact .inl h;exact .inr (by simp at h;exact h.1)
  have a3:ro=none\/rest.all fH=true:=by rcases hn with h|h;exact .inl h;exact .inr (by simp at h ⊢;exact h.2)
  rw[Me];unfold wpListIn;unfold wpList at h;have a1:∀a w,¬dn ds (Exit.then (wpListIn (Fr ro) 0 P ops Q l2) Q) .outgrown a w:=λa w q=>a2 _ _ q
  split at h
  ·rename_i hw;rw[if_pos hw]
   rcases h with h|⟨_,a0,w0,h⟩
   ·apply LD (Q1:=dn ds (Exit.then (wpListIn (Fr ro) 0 P ops Q l2) Q)) a4 a1 (λ_ _ _ q=>q);have hm:∀a w,wpList P ops (dn ds (Exit.then (wpListIn (Fr ro) 0 P ops Q l2) Q)) rest a w->wpListIn (Fr ro) 0 P ops Q (rest++l2) { a with defers:=a.defers++ds } w:=fp l2 a2 rest a3;unfold MT at h ⊢;generalize (execOp a.eval o).run P w=r at h ⊢
    cases r with
    |ok nx w'=>
     cases nx with
     |value v=>exact hm _ _ h
     |skip=>exact hm _ _ h
     |defer d=>exact hm _ _ h
     |enter f args=>
      apply Mn h;intro e w'' q
      cases e with
      |returned v=>exact hm _ _ q
      |_=>exact q
     |row row args=>exact Ql h λv w'' q=>hm _ _ q
     |_=>exact h
    |halt hl w'=>cases hl<;>exact h
   exact absurd h (a1 _ _)
  rename_i hw;rw[if_neg hw];refine⟨λ_ _=>trivial,?_⟩;have:=fp l2 a2 rest a3 _ _ h
  cases hd:o.dst<;>simpa[Ny,hd]using this
theorem then_self(Q:Md->MB->ln->Prop):Exit.then (λa w=>Q .normal a w) Q=Q:=by
 funext e a w;cases e<;>rfl
theorem nY{ops:Array LY}(a0:∀a w,¬Q .outgrown a w) 
  (l:List LY) (hn:ro=none\/l.all fH=true) (a:MB) (w:ln) (h:wpList P ops (dn ds Q) l a w):wpListIn (Fr ro) 0 P ops Q l { a with defers:=a.defers++ds } w:=by
 have:=fp (ro:=ro) (P:=P) (ops:=ops) (Q:=Q) (ds:=ds) [] a0 l hn a w (by
  rw[show Exit.then (wpListIn (Fr ro) 0 P ops Q []) Q=Q from then_self Q];exact h)
 rwa[Mo]at this
def WI(ro:Option Nat)(P:L5)(N:Nat)(ds:List MO)(c:N6)(Q:Md->MB->ln->Prop)(st:St)(w:ln):Prop:=
 ∀a,Fits N a st->c.wpIn (Fr ro) 0 P Q { a with defers:=ds } w
def QI(N:Nat)(ds:List MO)(Q:Md->MB->ln->Prop)(e:Md)(st:St)(w:ln):Prop:=
 ∀a,Fits N a st->Q e { a with defers:=ds } w
section
variable{P:L5}{N:Nat}{ro:Option Nat}{ds:List MO}{Q:Md→MB→ln→Prop}{st:St}{w:ln}
theorem tq{a:MB}{st:St}(h:Fits N a st)(ds:List MO):({ a with defers:=a.defers++ds }:MB) = { a with defers:=ds }:=by rw[h.defers];rfl
theorem QF.dn{e:Md}(h:QI N ds Q e st w):QF N (dn ds Q) e st w:=λa ha=>by
 show Q e _ w;rw[tq ha];exact h a ha
theorem WI.region{id:Nat}{l:List LY}(hn:ro=none\/l.all fH=true)(a0:∀a w,¬Q .outgrown a w)(h:WL P N l.toArray (dn ds Q) l st w):WI ro P N ds (.region id l.toArray false) Q st w:=λa ha=>by
 rw[<-tq ha];exact wpIn_region_lit (nY a0 l hn a w (h a ha))
theorem WI.seq{x y:N6}(h:WI ro P N ds x (Exit.then (y.wpIn (Fr ro) 0 P Q) Q) st w):WI ro P N ds (.seq x y) Q st w:=λa ha=>wpIn_seq (h a ha)
theorem WI.skip(h:QI N ds Q .normal st w):WI ro P N ds .skip Q st w:=λa ha=>wpIn_skip (h a ha)
theorem WI.exit{id:Nat}(h:QI N ds Q (.exit id) st w):WI ro P N ds (.exit id) Q st w:=λa ha=>wpIn_exit (h a ha)
theorem WI.ret(h:QI N ds Q .ret st w):WI ro P N ds .ret Q st w:=λa ha=>wpIn_ret (h a ha)
theorem WI.block{id:Nat}{c:N6}(h:WI ro P N ds c (MJ id Q) st w):WI ro P N ds (.block id c) Q st w:=λa ha=>wpIn_block (h a ha)
theorem Fits.evD{a:MB}(ha:Fits N a st)(hx:VL.ev st x=some v)(ds:List MO):({ a with defers:=ds }:MB).eval x=v:=by rw[jY];exact ha.ev hx
theorem WI.cond{c:L4}{x y:N6}{b:Bool}(hc:ev st c=some (.bool b))(ht:b=true->WI ro P N ds x Q st w)(hf:b=false->WI ro P N ds y Q st w):WI ro P N ds (.cond c x y) Q st w:=
 λa ha=>wpIn_cond_split (ha.evD hc ds) (λe=>ht e a ha) (λe=>hf e a ha)
theorem nV{x y:N6}(hc:ev st c=some (.bool b))(hb:b=true)(ht:WI ro P N ds x Q st w):WI ro P N ds (.cond c x y) Q st w:=by
 subst hb;exact λa ha=>wpIn_cond_true (ha.evD hc ds) (ht a ha)
theorem lJ{x y:N6}(hc:ev st c=some (.bool b))(hb:b=false)(hf:WI ro P N ds y Q st w):WI ro P N ds (.cond c x y) Q st w:=by
 subst hb;exact λa ha=>wpIn_cond_false (ha.evD hc ds) (hf a ha)
theorem aZ{y:N6}(h:WI ro P N ds y Q st w):QI N ds (Exit.then (y.wpIn (Fr ro) 0 P Q) Q') .normal st w:=h
theorem pJ(h:QI N ds Q (.exit id) st w):QI N ds (Exit.then K Q) (.exit id) st w:=h
theorem js(h:QI N ds Q .ret st w):QI N ds (Exit.then K Q) .ret st w:=h
theorem du(h:QI N ds Q .normal st w):QI N ds (MJ id Q) .normal st w:=h
theorem gR(h:QI N ds Q .ret st w):QI N ds (MJ id Q) .ret st w:=h
theorem yJ(h:QI N ds Q .normal st w):QI N ds (MJ id Q) (.exit id) st w:=λa ha=>by
 show if id=id then _ else _
 rw[if_pos rfl];exact h a ha
theorem mY{ops:Array LY}{p:String}{e:Array MR}{a2:Array L0}(a0:evs st args=some vs) 
  (h:QI N ({ target:=.fn (.func f) #[],args:=vs.toArray }::ds) Q .normal st w):WL P N ops (VL.dn ds Q) [⟨none,.defer ⟨.value (.func f),args.toArray,a2⟩,t,p,e,none⟩] st w:=by
 refine WL.step rfl λa ha=>?_
 unfold MT;have a1:(execOp a.eval ⟨none,.defer ⟨.value (.func f),args.toArray,a2⟩,t,p,e,none⟩).run P w=.ok (.defer { target:=.fn (.func f) #[],args:=vs.toArray }) w:=by
  simp only[execOp,resolve,MF,L6];rw[ha.evs a0];simp[MD]
 rw[a1];show Q .normal { (Ny _ none _)with defers:=_ } w;simp only[Ny,ha.defers];exact h a ha
end
theorem wpIn_loop_ghost{F:Fence}{a:MB}{c:N6}(I:Nat->MB->ln->Prop)(n0:Nat)(h₀:I n0 a w) 
  (a1:∀j a w,I j a w->c.wpIn F n P (Exit.then (λa' w'=>∃j',j'<j/\I j' a' w') Q) a w):(Code.loop c).wpIn F n P Q a w:=by
 intro b k cs a3 hb hr;have a2:∀j a w,I j a w->
   ∃e a' w',Q e a' w'/\ArrivesIn (RO P F) P (lone (b.atR a (.code c :: .inLoop c::k)) cs w) b k cs e a' w':=by
  intro j
  induction j using Nat.strongRecOn with
  |_ j ih=>
   intro a w hI;obtain⟨e,a₁,w₁,hq,a0⟩:=a1 j a w hI b (.inLoop c::k) cs a3 hb hr
   cases e with
   |normal=>
    obtain⟨j',a4,hI₁⟩:=hq;obtain⟨e₂,a₂,w₂,hq₂,harr₂⟩:=ih j' a4 a₁ w₁ hI₁;exact⟨e₂,a₂,w₂,hq₂,.of_steps (RN a0 (.one (fenced_calm hb hr rfl) stepR_inLoop)) harr₂⟩
   |exit id=>exact⟨_,a₁,w₁,hq,.pass (x:=.inLoop c) rfl (λ_ _=>.inl (by simp)) a0⟩
   |goto l=>exact⟨_,a₁,w₁,hq,.pass (x:=.inLoop c) rfl (λ_ _=>.inl (by simp)) a0⟩
   |ret=>exact⟨_,a₁,w₁,hq,.pass (x:=.inLoop c) rfl (λ_ _=>.inl (by simp)) a0⟩
   |panic ch=>exact⟨_,a₁,w₁,hq,.pass (x:=.inLoop c) rfl (λ_ _=>.inl (by simp)) a0⟩
   |outgrown=>exact⟨_,a₁,w₁,hq,.pass (x:=.inLoop c) rfl (λ_ _=>.inl (by simp)) a0⟩
 obtain⟨e,a',w',hq,a0⟩:=a2 _ a w h₀;exact⟨e,a',w',hq,.of_steps (.one (fenced_calm hb hr rfl) stepR_loop) a0⟩
section
variable{P:L5}{N:Nat}{ro:Option Nat}{ds:List MO}{Q:Md→MB→ln→Prop}{st:St}{w:ln}
theorem WI.loop{α:Type}{c:N6}(f:α->St)(g:α->ln)(I:α->Prop)(μ:α->Nat)(x0:α)(h0:I x0)(hc:Cov st (f x0))(hw:g x0=w) 
  (a0:∀x,I x->WI ro P N ds c (Exit.then (λa' w'=>∃y,I y/\μ y<μ x/\(∃a,a' = { a with defers:=ds }/\Fits N a (f y))/\g y=w') Q) (f x) (g x)):WI ro P N ds (.loop c) Q st w:=by
 intro a ha;apply wpIn_loop_ghost (λn a' w=>∃y,I y/\μ y=n/\(∃a,a' = { a with defers:=ds }/\Fits N a (f y))/\g y=w) (μ x0) ⟨x0,h0,rfl,⟨a,rfl,ha.cov hc⟩,hw⟩;rintro n _ w ⟨x,hI,rfl,⟨a,rfl,hf⟩,rfl⟩;apply wpIn_mono (a0 x hI a hf);intro e a' w' hq
 cases e with
 |normal=>obtain⟨y,h1,h2,h3,h4⟩:=hq;exact⟨μ y,h2,y,h1,rfl,h3,h4⟩
 |_=>exact hq
theorem QI.next{f:α->St}{g:α->ln}{I:α->Prop}{m:Nat}(y:α)(h1:I y)(h2:μ y<m)(h3:Cov st (f y))(h4:g y=w):
 QI N ds (Exit.then (λa' w'=>∃y,I y/\μ y<m/\(∃a,a' = { a with defers:=ds }/\Fits N a (f y))/\g y=w') Q) .normal st w:=λa ha=>⟨y,h1,h2,⟨a,rfl,ha.cov h3⟩,h4⟩
end
def Jc(R:ix->ln->Prop):Ending->ln->Prop
 |.returned v,w=>R v w
 |_,_=>False
def Leave(P:L5)(N:Nat)(fn:QR)(R:ix->ln->Prop)(ds:List MO)(st:St)(w:ln):Prop:=
 ∀a,Fits N a st->LeavesInM Mm 0 P fn a.tmps (Jc R) ds .returning w
section
variable{P:L5}{N:Nat}{ds:List MO}{st:St}{w:ln}{fn:QR}{R:ix→ln→Prop}
theorem mH{c:N6}{args:List ix}(hf:P.funcs[f]? = some fn)(hN:fn.ntmps=N)(hb:fn.body=some c)(a1:PJ args.length N=true) 
  (h:WI none P N [] c (bodyPostM Mm 0 P fn (Jc R)) (Fh 0 args) w):Ret P f args w R:=by
 have a0:=mw (N:=N) (args:=args) a1 (st:=Fh 0 args) λt v hv=>by simpa using(kF args 0 t v hv).2
 have hw:=h _ a0;have h2:=callsIn_of_wp_marks (F:=Mm) (n:=0) (P:=P) (f:=f) (fn:=fn) (c:=c) (args:=args.toArray) (w:=w) (R:=Jc R) hf hb trivial (by rw[hN];have:Fr none=Mm:=rfl;rw[this]at hw;simpa using hw);apply Mn (callsIn_wide.1 h2);intro e w' q
 cases e<;>exact q
theorem lM(h:Leave P N fn R ds st w):QI N ds (bodyPostM Mm 0 P fn (Jc R)) .ret st w:=λa ha=>h a ha
theorem I9(h:Leave P N fn R ds st w):QI N ds (bodyPostM Mm 0 P fn (Jc R)) .normal st w:=λa ha=>h a ha
theorem Leave.nil(hr:∀a:MB,Fits N a st->(results fn a.tmps).run P w=.ok v w)(h:R v w):Leave P N fn R [] st w:=λa ha=>⟨v,hr a ha,h⟩
theorem kj(hr:fn.results = #[])(h:R (.tuple #[]) w):Leave P N fn R [] st w:=Leave.nil (λa ha=>by simp[results,hr]) h
theorem Leave.mark{D:Nat}(hD:w.heap[D]? = some (.deferred (some [])))(h:Leave P N fn R ds st (w.putObj D (.deferred none))):Leave P N fn R ({ target:=.collected D,args:=#[] }::ds) st w:=
 λa ha=>⟨by simp,.inl ⟨D,_,rfl,run_takeDeferred hD,h a ha⟩⟩
theorem Leave.call(hf:∀(args:Array ix) (w:ln),(callFunc f args).run P w=.ok (.enter f args) w) 
  (hc:CallsDIn Mm 0 P f vs.toArray .returning w fun | .returned v,u,w'=>u=.returning/\R' v w'|_,_,_=>False) (h:∀v w',R' v w'->Leave P N fn R ds st w') :
  Leave P N fn R ({ target:=.fn (.func f) #[],args:=vs.toArray }::ds) st w:=
 λa ha=>⟨by simp,.inr ⟨λhh=>by simp[Mm]at hh,.func f,#[],f,vs.toArray,rfl,by simp[invoke,hf],λ_ _=>trivial,by
  apply Qj hc;intro e u w' q
  cases e with
  |returned v=>obtain⟨rfl,q⟩:=q;exact h v w' q a ha
  |panicked c=>exact q.elim
  |outgrown=>exact q.elim⟩⟩
end
def WLI(ro:Option Nat)(P:L5)(N:Nat)(ds:List MO)(ops:Array LY)(Q:Md->MB->ln->Prop)(l:List LY)(st:St)(w:ln):Prop:=
 ∀a,Fits N a st->wpListIn (Fr ro) 0 P ops Q l { a with defers:=ds } w
section
variable{P:L5}{N:Nat}{ro:Option Nat}{ds:List MO}{Q:Md→MB→ln→Prop}{st:St}{w:ln}
theorem yw(i:Nat){l:List LY}(hn:ro=none\/(l.take i).all fH=true)(a0:∀a w,¬Q .outgrown a w) 
  (h:WL P N l.toArray (VL.dn ds (Exit.then (wpListIn (Fr ro) 0 P l.toArray Q (l.drop i)) Q)) (l.take i) st w):WI ro P N ds (.region id l.toArray false) Q st w:=λa ha=>by
 rw[<-tq ha];apply wpIn_region_lit;have:=fp (l.drop i) a0 (l.take i) hn a w (h a ha)
 rwa[MS]at this
theorem I8{ops:Array LY}{l:List LY}(h:WLI ro P N ds ops Q l st w):QI N ds (Exit.then (wpListIn (Fr ro) 0 P ops Q l) Q') .normal st w:=h
theorem GV{ops:Array LY}{l:List LY}(hn:ro=none\/l.all fH=true)(a0:∀a w,¬Q .outgrown a w)(h:WL P N ops (VL.dn ds Q) l st w):WLI ro P N ds ops Q l st w:=λa ha=>by
 rw[<-tq ha];exact nY a0 l hn a w (h a ha)
end
def Cf(O:Nat->Nat)(w:ln)(L:Nat)(I:(Nat->Nat)->ln->Prop)(Ix:N6->(Nat->Nat)->ln->Prop):Md->MB->ln->Prop
 |.normal,_,w'=>∃O',Upd (λj=>j≠0/\j≠L) O w O' w'/\I O' w'
 |.ret,_,w'=>∃O',Upd (λj=>j≠0/\j≠L) O w O' w'/\Ix .ret O' w'
 |.exit id,_,w'=>∃O',Upd (λj=>j≠0/\j≠L) O w O' w'/\Ix (.exit id) O' w'
 |_,_,_=>False
theorem Upd.putObj{O:Nat->Nat}{w:ln}{L b:Nat}(hL:L≠0)(h:O b=L)(o:Obj):Upd (λj=>j=L) O w O (w.putObj b o):=
 ⟨rfl,rfl,rfl,by simp,λk _ hn=>World.putObj_heap_other (λe=>hn (by rw[e];exact h)),λ_ _=>rfl,λ_ h=>.inl h,λe=>hL e.symm⟩
theorem iS{st:St}{L:Nat}(O':Nat->Nat)(h:Upd (λj=>j≠0/\j≠L) O w O' w')(h2:I O' w'):
 QI N [] (Cf O w L I Ix) .normal st w':=λ_ _=>⟨O',h,h2⟩
theorem yI{st:St}{L:Nat}(O':Nat->Nat)(h:Upd (λj=>j≠0/\j≠L) O w O' w')(h2:Ix .ret O' w'):
 QI N [] (Cf O w L I Ix) .ret st w':=λ_ _=>⟨O',h,h2⟩
structure Fixed(O:Nat->Nat)(w:ln)(q:Mx)(u:ix):Prop where
 cell:w.cell? q=some u
 free:O q.block=0
theorem Upd.zero(h:Upd S O w O' w'){b:Nat}(hb:b<w.heap.size)(h0:O b=0):O' b=0:=
 LV λa0=>by
  rcases h.new b a0 with h1|h1
  ·exact h1 h0
  omega
theorem Fixed.upd(h:Fixed O w q u)(k:Upd S O w O' w'):Fixed O' w' q u:=by
 have a0:=Nz w q h.cell;have hb:=k.blk q.block a0 (by rw[h.free];exact k.z);refine⟨?_,k.zero a0 h.free⟩;have:=h.cell;unfold QU at this ⊢;rw[hb];exact this
end
end Go.VL
section
namespace Go.VL
open Go.Proofs.Tryz
open Go.RowKit
section
variable{P:L5}{N:Nat}{ops:Array LY}{Q:Md→MB→ln→Prop}{rest:List LY}{st:St}{w:ln}
variable{t:L0}{p:String}{e:Array MR}{d:Nat}{x y z:L4}
theorem Ag(h:(convert xt yt v).run P w=.ok u w)(hx:ev st x=some v):RV P N (.convert xt yt x) t st w u:=
 λa ha a0 p e g=>by simp only[execOp,ha.ev hx,L2,h,L1];rfl
theorem WL.ext{a1:Array L0}(hr:(callFunc f vs.toArray).run P w=.ok (.value v) w')(a0:evs st args=some vs)(hd:L3 d N=true) 
  (h:WL P N ops Q rest ((d,v)::st) w'):WL P N ops Q (⟨some d,.call ⟨.value (.func f),args.toArray,a1⟩,t,p,e,none⟩::rest) st w:=
 WL.val hd (λa ha=>by
  simp only[execOp,resolve,MF,L6];rw[ha.evs a0]
  simp[MD,invoke,hr]) h
theorem RV.ext{a1:Array L0}(hr:(callFunc f vs.toArray).run P w=.ok (.value v) w)(a0:evs st args=some vs):
 RV P N (.call ⟨.value (.func f),args.toArray,a1⟩) t st w v:=λa ha a2 p e g=>by
 simp only[execOp,resolve,MF,L6];rw[ha.evs a0];simp[MD,invoke,hr]
end
section
variable{P:L5}{N:Nat}{ops:Array LY}{Q:Md→MB→ln→Prop}{rest:List LY}{st:St}{w:ln}
variable{t:L0}{p:String}{e:Array MR}{d:Nat}{x y z:L4}
theorem lL{len:Nat}{i:Int}(hu:P.underlying T=some (.array len E))(hE:(Mj E).run P w=.ok sz w) 
  (hx:ev st x=some (.pointer (some q))) (hy:ev st y=some (.int k i)) (n:Nat) (hi:i=n) (hn:n<len):RV P N (.indexAddr T x y) t st w (.pointer (some (q.add (n*sz)))):=
 λa ha a0 p e g=>by
  subst hi;have h2:=zo;simp only[execOp,ha.ev hx,ha.ev hy];simp[Ps,Mq,asIntOf,run_underlying hu,hE];intro h3;omega
theorem fO{len:Nat}{i:Int}(hu:P.underlying T=some (.array len E))(hE:(Mj E).run P w=.ok 1 w) 
  (hx:ev st x=some (.pointer (some q))) (hy:ev st y=some (.int k i)) (n:Nat) (hi:i=n) (hn:n<len):RV P N (.indexAddr T x y) t st w (.pointer (some (q.add n))):=by
 have h:=lL (N:=N) (t:=t) hu hE hx hy n hi hn
 rwa[Nx]at h
theorem bD{a:List UInt8}{c:UInt8}(hT:P.underlying xt=some .string)(hx:ev st x=some (.string (bs a)))(hy:ev st y=some (.int k m))(i:Nat)(hm:m=i)(hi:a[i]? = some c):RV P N (.index xt x y) t st w (.int .u8 (c.toNat:Int)):=by
 obtain⟨h1,h2⟩:=M7.1 hi;have h:=bW (P:=P) (N:=N) (t:=t) (w:=w) hT hx hy i hm h1;rw[aB h1,h2]at h;exact h
theorem eu{T E:L0}{n sz:Nat}{parts:List (Nat×L4)}{vs:List (Nat×ix)}{z:ix}{cells:Array ix}(hu:P.underlying T=some (.array n E))(hE:(Mj E).run P w=.ok sz w)(hz:(MK T).run P w=.ok z w) 
  (hv:evp st parts=some vs) (hf:No (λi=>some (i*sz,sz)) z.cells vs=some cells):RV P N (.build T parts.toArray) t st w (.agg cells):=
 λa ha a0 p e g=>by
  have h1:=ha.evp hv;have e1:(NR (λx:Nat×L4=>match x with|(i,x)=>(i,a.eval x)) parts)=vs:=by rw[<-h1]
  simp only[execOp,QW,L6,e1,L2,hz,L1,run_underlying hu,hE,hf,LQ]
theorem pI(hu:P.underlying T=some (.array n E))(hE:(Mj E).run P w=.ok sz w)(_:n≠0)(hx:ev st x=some (.pointer (some q))):RV P N (.slice T x none none none) t st w (.slice (some q) n n):=
 λa ha a0 p e g=>by
  simp only[execOp,ha.ev hx,MG];simp[Instr.sliceAt,Instr.sliceBounds,Mq,run_underlying hu,hE,Mc]
theorem DJ{a2:Array L0}{fs:List ix}{cs:Array ix}{R:ix->ln->Prop} 
  (hx:ev st x=some (.func (.func f) fs.toArray cs))
  (hf:∀(args:Array ix) (w:ln),(callFunc f args).run P w=.ok (.enter f args) w) (a0:evs st args=some vs) (hc:Ret P f (fs++vs++cs.toList) w R) (hd:L3 d N=true)
  (h:∀v w',R v w'->WL P N ops Q rest ((d,v)::st) w'):WL P N ops Q (⟨some d,.call ⟨.value x,args.toArray,a2⟩,t,p,e,none⟩::rest) st w:=by
 refine WL.step rfl λa ha=>?_
 unfold MT;have a1:(execOp a.eval ⟨some d,.call ⟨.value x,args.toArray,a2⟩,t,p,e,none⟩).run P w=.ok (.enter f (fs++vs++cs.toList).toArray) w:=by
  simp only[execOp,resolve,L6,ha.evs a0,ha.ev hx];simp[MD,Go.invoke,hf]
 rw[a1];exact Mn hc λe w' q=>by
  cases e with
  |returned v=>exact h v w' q _ (ha.put hd v)
  |panicked c=>exact q.elim
  |outgrown=>exact q.elim
end
section
variable{P:L5}{N:Nat}{st:St}{w:ln}{fn:QR}{R:ix→ln→Prop}
theorem cD{t u o:Rj}{v2:ix}(hr:fn.results = #[.cell t T,.tmp u,.tmp o])(hv:cO st t=some (.pointer (some q)))(a1:cO st u=some v')(a0:cO st o=some v2) 
  (hc:∀j u,us[j]? = some u->w.cell? (q.add j)=some u) (hT:(PF T).run P w=.ok true w) (hn:(Mj T).run P w=.ok us.length w) (h:R (.tuple #[.agg us.toArray,v',v2]) w):QF N (RP P fn R) .ret st w:=λa ha=>
 ⟨ha.defers,_,by have h1:=ha.get _ _ hv;have h2:=ha.get _ _ a1;have h3:=ha.get _ _ a0;simp[results,hr,L8,h1,h2,h3,asAddr,dO hc hT hn],h⟩
end
def Lc(P:L5)(f:N2)(args:List ix)(w:ln)(R:ix->ln->Prop):Prop:=
 CallsDIn Mm 0 P f args.toArray .returning w fun | .returned v,u,w'=>u=.returning/\R v w'|_,_,_=>False
theorem RetB.enter{P:L5}{N:Nat}{f:N2}{fn:QR}{c:N6}{args:List ix}{w:ln}{R:ix->ln->Prop} 
  (hf:P.funcs[f]? = some fn) (hN:fn.ntmps=N) (hb:fn.body=some c) (a0:PJ args.length N=true)
  (h:WC P N c (RP P fn R) (Fh 0 args) w):Ret P f args w R/\Lc P f args w R:=by
 refine⟨Ret.enter hf hN hb a0 h,?_⟩;have a1:=mw (N:=N) (args:=args) a0 (st:=Fh 0 args) λt v hv=>by simpa using(kF args 0 t v hv).2
 have hw:=wpIn_wide (n:=0) |>.2 (h _ a1)
 have h2:=callsDIn_of_wp (F:=Mm) (n:=0) (P:=P) (f:=f) (fn:=fn) (c:=c) (args:=args.toArray) (u:=.returning) (w:=w) (R:=Jc R) hf hb trivial (by
  rw[hN];apply wpIn_mono (by simpa using hw);intro e a w' q
  cases e<;>first|exact q|exact q.elim)
 apply Qj h2;rintro e u w' ⟨rfl,q⟩
 cases e<;>first|exact⟨rfl,q⟩|exact q.elim
end Go.VL
namespace Go.VL
open Go.Proofs.Tryz
section
variable{P:L5}{N:Nat}{ops:Array LY}{Q:Md→MB→ln→Prop}{rest:List LY}{st:St}{w:ln}
variable{t:L0}{p:String}{e:Array MR}{d:Nat}{x y z:L4}
theorem aU(he:Elem P T E sz a0)(u:α)(hx:ev st x=some xv)(a2:xv.cells.toList=enc u)(a4:(enc u).length=sz)(hs:sz<=16777216)(hd:L3 d N=true) 
  (h:∀w',Sl enc sz w' (.slice (some ⟨w.heap.size,0,none⟩) 1 1) [u]->Ext w w'->WL P N ops Q rest ((d,.slice (some ⟨w.heap.size,0,none⟩) 1 1)::st) w'):WL P N ops Q (⟨some d,.buildSlice T 1 #[(0,x)],t,p,e,none⟩::rest) st w:=by
 obtain⟨a3,z,hi,hz,a1,a8,a7⟩:=he.parts;have a6:xv.cells.size=sz:=by rw[<-a4,<-a2];simp
 have a5:=he.pos;refine WL.val (v:=.slice (some ⟨w.heap.size,0,none⟩) 1 1) (w':=w.alloc (.cells xv.cells E)) hd (λa ha=>?_) (h _ ⟨⟨_,1,rfl,M8 _,by simp,λ_=>⟨_,_,rfl⟩⟩,λi hi j c hc=>?_⟩ (Ext.alloc _ _))
 ·have:=run_buildSlice (P:=P) w T E 1 #[(0,xv)] xv.cells a3 z he.ht hi hz (by rw[a1];omega) (by rw[a1];omega) (by
   rw[a1]
   exact lj a6 (by simp))
  simp only[execOp,L6,L9,M5,ha.ev hx,L2,this,L1];rfl
 obtain rfl:i=0:=by simpa using hi
 simp only[PB]at hc;simp only[adr,N1,PK];rw[show((⟨w.heap.size,0,none⟩:Mx).add j)=⟨w.heap.size,j,none⟩from by simp only[Mc];split<;>simp_all,cell_of_row _ _ j xv.cells E (0,0) (heap_alloc_new w _)];rw[<-a2]at hc;simpa using hc
end
end Go.VL
end
section
namespace Go.VL
open Go.Proofs.Tryz
theorem Free.weak(h:Free O' w v)(k:∀b,O' b=0->O b=0):Free O w v:=λa n c e hn=>⟨k _ (h a n c e hn).1,(h a n c e hn).2⟩
theorem Upd.z0(h:Upd S O w O' w')(b:Nat)(e:O' b=0):O b=0:=
 LV λa0=>by have:=h.tag b a0;omega
theorem Rng.bound(r:Rng B O w):∃T,0<T/\∀b,O b<T:=by
 have h:∀n,∃T,0<T/\∀b,b<n->O b<T:=λn=>by
  induction n with
  |zero=>exact⟨1,zo,λb hb=>zo⟩
  |succ n ih=>
   obtain⟨T,h0,hT⟩:=ih;refine⟨T+O n+1,zo,λb hb=>?_⟩
   by_cases e:b=n
   ·subst e;omega
   have:=hT b zo;omega
 obtain⟨T,h0,hT⟩:=h w.heap.size;refine⟨T,h0,λb=>?_⟩
 by_cases e:O b=0
 ·omega
 exact hT b (r.rng b e).2
theorem Upd.fgt{S':Nat->Prop}(h:Upd S O w O2 w')(hS:∀b,S (O b)->S' (O b))(hz:¬S' 0):Upd S' O w O w':=
 ⟨h.os,h.tape,h.output,h.size,λb hb hn=>h.blk b hb λhs=>hn (hS b hs),λ_ _=>rfl,λ_ h=>.inl h,hz⟩
theorem BlkO.fgt{b:Nat}{cs:Array ix}(h:BlkO O2 w j b cs E)(ho:O b=i):BlkO O w i b cs E:=⟨h.blk,ho⟩
theorem RowT.freeT{T:Nat}(h:RowT enc E sz O' w' T v l)(a1:0<T)(hT:∀b,O b<T)(r:Rng B O' w')(u:Upd S O w O' w'):Free O w' v:=λa n c e _=>by
 have h1:=h.1.tag a.block (by subst e;rfl);have h2:=r.rng a.block (by rw[h1];omega);refine⟨LV λa0=>?_,h2.2⟩;have:=u.tag _ a0;have:=hT a.block;omega
end Go.VL
namespace Go.Proofs.YteolbhblkgjbhaaGreatDoor
open Go.Proofs.Tryz
open Go.VL Go.Proofs
inductive Nd where|mk(k c:Int)(kids:List Nd)
instance:Inhabited Nd:=⟨.mk 0 0 []⟩
def Nd.kind:Nd->Int | .mk k _ _=>k
def Nd.cls:Nd->Int | .mk _ c _=>c
def Nd.kids:Nd->List Nd | .mk _ _ l=>l
mutual
def nsz:Nd->Nat | .mk _ _ l=>dI l+1
def dI:List Nd->Nat | []=>0|t::r=>nsz t+dI r
end
theorem dd(t:Nd):0<nsz t:=by cases t;simp[nsz]
theorem bM:∀(l:List Nd) (i:Nat),i<l.length->nsz (nth l i)<=dI l
 |t::r,0,_=>by rw[ao];simp[dI]
 |t::r,i+1,h=>by rw[aS];have:=bM r i (by simpa using h);simp only[dI];omega
theorem jS:∀(a b:List Nd),dI (a++b)=dI a+dI b
 |[],b=>by simp[dI]
 |t::a,b=>by simp only[Me,dI];rw[jS a b];omega
theorem cJ(l:List Nd)(i:Nat):dI (l.take i)<=dI l:=by
 conv=>rhs;rw[<-MS i l]
 rw[jS];omega
theorem dV(l:List Nd)(i:Nat)(h:i<l.length):dI (l.take (i+1))=dI (l.take i)+nsz (nth l i):=by
 rw[aY h,jS];simp[dI]
theorem ey:∀(l:List Nd),l.length<=dI l
 |[]=>by simp
 |t::r=>by have:=ey r;have:=dd t;simp only[dI,MU];omega
abbrev N3:=Int×Int×ix
@[simp] def aX(x:N3):List ix:=[nI x.1,nI x.2.1,x.2.2]
inductive Nt(O:Nat->Nat)(w:ln):Nd->N3->Prop
 |mk {k c:Int} {kids:List Nd} {v:ix} {xs:List N3}:Sl aX 3 w v xs->Free O w v->kids.length=xs.length->(∀i,i<xs.length->Nt O w (nth kids i) (nth xs i))->Nt O w (.mk k c kids) (k,c,v)
theorem Nt.upd{S:Nat->Prop}{O O':Nat->Nat}{w w':ln}{t:Nd}{x:N3}(h:Nt O w t x)(u:Upd S O w O' w'):Nt O' w' t x:=by
 induction h with
 |mk hs hf hl _ ih=>exact .mk (hs.upd hf u) (hf.upd u) hl ih
theorem Nt.drew{O:Nat->Nat}{w:ln}{t:Nd}{x:N3}(h:Nt O w t x):Nt O w.drew t x:=h.upd (ae (S:=λ_=>False) (λh=>h) O (Ext.refl w).drew)
theorem Nt.ext{t:Nd}{x:N3}(h:Nt O w t x)(e:Ext w w'):Nt O w' t x:=h.upd (ae (S:=λ_=>False) (λh=>h) O e)
theorem Nt.weak{O O':Nat->Nat}{w:ln}{t:Nd}{x:N3}(h:Nt O' w t x)(k:∀b,O' b=0->O b=0):Nt O w t x:=by
 induction h with
 |mk hs hf hl _ ih=>exact .mk hs (hf.weak k) hl ih
theorem Nt.low{t:Nd}{x:N3}(h:Nt O' w' t x)(u:Upd S O w O' w0):Nt O w' t x:=h.weak u.z0
theorem Nt.zero{t:Nd}{x:N3}(h:Nt O w t x):Nt (λ_=>0) w t x:=h.weak λ_ _=>rfl
theorem Nt.one{O:Nat->Nat}{w:ln}{t:Nd}{x:N3}(h:Nt O w t x):x.2.2.oneCell'=true:=by cases h with|mk hs=>exact hs.one
theorem Nt.leaf(O:Nat->Nat)(w:ln)(k c:Int):Nt O w (.mk k c []) (k,c,nS):=
 .mk (xs:=[]) ⟨⟨none,0,rfl,M8 _,zo,λh=>absurd rfl h⟩,λi hi=>absurd hi (by simp)⟩ (λa n c e=>by cases e) rfl (λi hi=>absurd hi (by simp))
theorem Nt.kind{O:Nat->Nat}{w:ln}{t:Nd}{x:N3}(h:Nt O w t x):x.1=t.kind:=by cases h;rfl
theorem Nt.kids{O:Nat->Nat}{w:ln}{t:Nd}{x:N3}(h:Nt O w t x):∃xs:List N3,Sl aX 3 w x.2.2 xs/\Free O w x.2.2/\t.kids.length=xs.length/\∀i,i<xs.length->Nt O w (nth t.kids i) (nth xs i):=by
 cases h with|mk hs hf hl hk=>exact⟨_,hs,hf,hl,hk⟩
def aj(b:UInt8):Bool:=(decide (65<=b.toNat)&&decide (b.toNat<=90))||(decide (97<=b.toNat)&&decide (b.toNat<=122))
def aw(r:List UInt8):List UInt8:=r.dropWhile (· == 32)
def namesL:List (List UInt8):=[[79,116,104,101,114],[67,82],[76,70],[78,101,119,108,105,110,101],[67,111,110,116,114,111,108],[69,120,116,101,110,100],[90,87,74],[70,111,114,109,97,116],[82,101,103,105,111,110,97,108],[80,114,101,112,101,110,100],[83,112,97,99,105,110,103],[76],[86],[84],[76,86],[76,86,84],[80,105,99,116],[85,112,112,101,114],[76,111,119,101,114],[76,101,116,116,101,114],[75,97,116,97,107,97,110,97],[73,100,101,111,103,114,97,112,104],[68,105,103,105,116],[77,105,100,76,101,116,116,101,114],[77,105,100,78,117,109],[68,111,116],[65,112,111,115,116,114,111,112,104,101],[81,117,111,116,101],[74,111,105,110,101,114],[83,112,97,99,101],[84,101,114,109],[79,112,101,110],[67,108,111,115,101],[72,121,112,104,101,110],[71,108,117,101],[71,97,112]]
def lZ(s:List UInt8):Option Nat:=namesL.findIdx? (· == s)
def xM(c:Int):List UInt8:=if 0<=c/\c<36 then nth namesL c.toNat else []
inductive PR where
 |ok (t:Nd) (r:List UInt8)
 |bad (p:Nat) (e:Int)
def ee(kind:Int)(r0:List UInt8):PR:=
 if aj ((aw r0).headD 0)=true then
  match lZ ((aw r0).takeWhile aj)with
  |none=>.bad (aw r0).length 5
  |some c=>.ok (.mk kind (c:Nat) []) ((aw r0).dropWhile aj)
 else .bad (aw r0).length 4
def JQ(r:List UInt8):PR:=if r.takeWhile aj=[97,110,121]then .ok (.mk 1 0 []) (r.dropWhile aj)else ee 0 r
def cM(al:Option (List UInt8->PR))(r:List UInt8):PR:=
 match al with
 |none=>.bad r.length 6
 |some f=>
  match f r.tail with
  |.bad p e=>.bad p e
  |.ok t r2=>if(aw r2).headD 0=41 then .ok t (aw r2).tail else .bad (aw r2).length 4
def K9(al:Option (List UInt8->PR))(r0:List UInt8):PR:=
 if aj ((aw r0).headD 0)=true then JQ (aw r0)
 else if(aw r0).headD 0=126 then ee 2 (aw r0).tail
 else if(aw r0).headD 0=94 then .ok (.mk 3 0 []) (aw r0).tail
 else if(aw r0).headD 0=40 then cM al (aw r0)
 else .bad (aw r0).length 4
def opM(c:UInt8):Option Nat:=if c=42 then some 0 else if c=43 then some 1 else if c=63 then some 2 else none
def GG(al:Option (List UInt8->PR))(r0:List UInt8):PR:=
 match K9 al r0 with
 |.bad p e=>.bad p e
 |.ok t r1=>
  match opM ((aw r1).headD 0)with
  |some k=>.ok (.mk (6+(k:Nat)) 0 [t]) (aw r1).tail
  |none=>.ok t (aw r1)
def fN(c:UInt8):Bool:=aj c||decide (c=126)||decide (c=94)||decide (c=40)
def oneM(k:Int)(l:List Nd):Nd:=if l.length=1 then nth l 0 else .mk k 0 l
def B1(al:Option (List UInt8->PR)):Nat->List Nd->List UInt8->PR
 |0,acc,r=>.ok (oneM 4 acc) r
 |n+1,acc,r=>
  if fN ((aw r).headD 0)=true then
   match GG al (aw r)with
   |.bad p e=>.bad p e
   |.ok t r2=>B1 al n (acc++[t]) r2
  else .ok (oneM 4 acc) (aw r)
def Ll(al:Option (List UInt8->PR))(r:List UInt8):PR:=
 match GG al r with
 |.bad p e=>.bad p e
 |.ok t r1=>B1 al (r1.length+1) [t] r1
def Ab(al:Option (List UInt8->PR)):Nat->List Nd->List UInt8->PR
 |0,acc,r=>.ok (oneM 5 acc) r
 |n+1,acc,r=>
  if(aw r).headD 0=124 then
   match Ll al (aw r).tail with
   |.bad p e=>.bad p e
   |.ok t r2=>Ab al n (acc++[t]) r2
  else .ok (oneM 5 acc) (aw r)
def J8(al:Option (List UInt8->PR))(r:List UInt8):PR:=
 match Ll al r with
 |.bad p e=>.bad p e
 |.ok t r1=>Ab al (r1.length+1) [t] r1
def J7:Nat->List UInt8->PR
 |0=>J8 none
 |d+1=>J8 (some (J7 d))
inductive XR where
 |ok (t:Nd)
 |bad (p:Nat) (e:Int)
def K1(l:List UInt8):XR:=
 if 4096<l.length then .bad 0 3 else
 match J7 20 l with
 |.bad p e=>.bad (l.length-p) e
 |.ok t r=>if(aw r).length≠0 then .bad (l.length-(aw r).length) 4 else if 2000<nsz t then .bad 0 3 else .ok t
def Good(r:List UInt8):PR->Prop
 |.ok _ r'=>r' <:+ r/\r'.length<r.length
 |.bad p e=>p<=r.length/\e≠0
theorem bz(r:List UInt8):aw r <:+ r:=NO _
theorem dL(r:List UInt8):(aw r).length<=r.length:=(bz r).length_le
theorem cI{r:List UInt8}(h:r.headD 0≠0):r.tail <:+ r/\r.tail.length+1=r.length:=by
 cases r with
 |nil=>simp at h
 |cons a r=>exact⟨Qo a r,rfl⟩
theorem Good.mono{r r':List UInt8}{x:PR}(h:Good r' x)(k:r' <:+ r):Good r x:=by
 have hl:=k.length_le
 cases x with
 |ok t q=>exact⟨h.1.trans k,by have:=h.2;omega⟩
 |bad p e=>exact⟨MN h.1 hl,h.2⟩
theorem jU{r:List UInt8}(h:aj (r.headD 0)=true):r.dropWhile aj <:+ r/\(r.dropWhile aj).length<r.length:=by
 cases r with
 |nil=>simp[aj]at h
 |cons a r=>
  simp only[List.headD_cons]at h;rw[List.dropWhile_cons_of_pos h];exact⟨(NO _).trans (Qo a r),by have:=(NO (l:=r) aj).length_le;simp;omega⟩
theorem pg(k:Int)(r:List UInt8):Good r (ee k r):=by
 refine Good.mono ?_ (bz r);unfold ee
 split
 ·rename_i h
  split
  ·exact⟨M8 _,zd⟩
  exact jU h
 exact⟨M8 _,zd⟩
def nD(al:Option (List UInt8->PR)):Prop:=∀f,al=some f->∀r,Good r (f r)
theorem ql{al:Option (List UInt8->PR)}(ha:nD al)(r:List UInt8)(h:r.headD 0≠0):Good r (cM al r):=by
 obtain⟨h1,h2⟩:=cI h;unfold cM
 cases al with
 |none=>exact⟨M8 _,zd⟩
 |some f=>
  have h3:=(ha f rfl r.tail).mono h1;have h4:=ha f rfl r.tail;dsimp only
  cases hf:f r.tail with
  |bad p e=>rw[hf]at h3;exact h3
  |ok t r2=>
   rw[hf]at h3 h4;dsimp only
   split
   ·rename_i hc;obtain⟨g1,g2⟩:=cI (r:=aw r2) (by rw[hc];decide);exact⟨(g1.trans (bz r2)).trans h3.1,by have:=dL r2;have:=h3.2;omega⟩
   exact⟨by have:=dL r2;have:=h3.2;omega,zd⟩
theorem GF{c:UInt8}{k:Nat}(h:opM c=some k):c≠0:=λe=>by subst e;simp[opM]at h
def Kl(r:List UInt8):PR->Prop
 |.ok _ r'=>r' <:+ r
 |.bad p e=>p<=r.length/\e≠0
end Go.Proofs.YteolbhblkgjbhaaGreatDoor
end
namespace Go.Proofs.YteolbhblkgjbhaaGreatDoor
open Go.Proofs.Tryz
section
open Go.VL Go.Proofs
set_option maxRecDepth 10000
abbrev Lf:=Int×Int×Nat
abbrev Kt:=List Nat×List Nat×Nat
structure Gr where
 ls:List Lf
 ks:List Kt
def Gr.fr(g:Gr)(k:Nat):List Nat:=(nth g.ks k).1
def Gr.lv(g:Gr)(k:Nat):List Nat:=(nth g.ks k).2.1
def Gr.en(g:Gr)(k:Nat):Nat:=(nth g.ks k).2.2
def Gr.knot(g:Gr):Gr:=⟨g.ls,g.ks++[([],[],0)]⟩
def Gr.free(g:Gr)(a b:Nat):Gr:=⟨g.ls,g.ks.set a (g.fr a++[b],g.lv a,g.en a)⟩
def Gr.leaf(g:Gr)(k c:Int)(a b:Nat):Gr:=⟨g.ls++[(k,c,b)],g.ks.set a (g.fr a,g.lv a++[g.ls.length+1],g.en a)⟩
def cW(k c m:Int):Bool:=
 if k=0 then(decide (0<=m)&&decide (m<36))&&(m==c)else if k=1 then decide (0<=m)&&decide (m<36)else if k=2 then(decide (0<=m)&&decide (m<36))&&(m != c)else m==36
def layO(k:Int)(g:Gr)(i:Nat):Gr:=if k=8 then(if k=7 then g else g.free i (i+1))else(if k=7 then g else g.free i (i+1)).free (i+1) i
mutual
def fK:Nd->Nat->Nat->Gr->Gr
 |.mk k c l,a,b,g=>
  if k=4 then nN l a b g
  else if k=5 then nQ l a b g
  else if k=6\/k=7\/k=8 then layO k (nO l g.ks.length (g.ks.length+1) ((g.knot.knot.free a g.ks.length).free (g.ks.length+1) b)) g.ks.length
  else if k=9 then g.free a b
  else g.leaf k c a b
def nN:List Nd->Nat->Nat->Gr->Gr
 |[],_,_,g=>g
 |t::r,a,b,g=>if r.isEmpty then fK t a b g else nN r g.ks.length b (fK t a g.ks.length g.knot)
def nQ:List Nd->Nat->Nat->Gr->Gr
 |[],_,_,g=>g
 |t::r,a,b,g=>nQ r a b (fK t a b g)
def nO:List Nd->Nat->Nat->Gr->Gr
 |[],_,_,g=>g
 |t::_,a,b,g=>fK t a b g
end
inductive StarP(L:List Int->Prop):List Int->Prop
 |nil:StarP L []
 |cons {u v:List Int}:L u->StarP L v->StarP L (u++v)
mutual
/-- Which words an expression matches. -/
def Lg:Nd->List Int->Prop
 |.mk k c l=>λw=>
  if k=4 then LgS l w
  else if k=5 then LgA l w
  else if k=6 then StarP (LgH l) w
  else if k=7 then∃u v,w=u++v/\LgH l u/\StarP (LgH l) v
  else if k=8 then w=[]\/LgH l w
  else if k=9 then w=[]
  else∃m,w=[m]/\cW k c m=true
def LgS:List Nd->List Int->Prop
 |[]=>λw=>w=[]
 |t::r=>λw=>∃u v,w=u++v/\Lg t u/\LgS r v
def LgA:List Nd->List Int->Prop
 |[]=>λ_=>False
 |t::r=>λw=>Lg t w\/LgA r w
def LgH:List Nd->List Int->Prop
 |[]=>λ_=>False
 |t::_=>Lg t
end
mutual
/-- Expressions whose parts are as many as they must. -/
def fV:Nd->Bool
 |.mk k _ l=>(if k=4 then !l.isEmpty else if k=6\/k=7\/k=8 then decide (l.length=1)else true)&&cm l
def cm:List Nd->Bool
 |[]=>true
 |t::r=>fV t&&cm r
end
inductive Pt(g:Gr):Nat->List Int->Nat->Prop
 |nil (k:Nat):Pt g k [] k
 |eps {k k' q:Nat} {w:List Int}:k<g.ks.length->k'∈g.fr k->Pt g k' w q->Pt g k w q
 |leaf {k j q:Nat} {m:Int} {w:List Int}:k<g.ks.length->j<g.ls.length->j+1∈g.lv k->cW (nth g.ls j).1 (nth g.ls j).2.1 m=true->Pt g (nth g.ls j).2.2 w q->Pt g k (m::w) q
theorem Pt.trans{g:Gr}{b c:Nat}{u v:List Int}(h:Pt g a u b)(k:Pt g b v c):Pt g a (u++v) c:=by
 induction h with
 |nil=>exact k
 |eps h1 h2 _ ih=>exact .eps h1 h2 (ih k)
 |leaf h1 h2 h3 h4 _ ih=>exact .leaf h1 h2 h3 h4 (ih k)
structure Sub(g g':Gr):Prop where
 len:g.ks.length<=g'.ks.length
 ls:∃r,g'.ls=g.ls++r
 fr:∀k j,k<g.ks.length->j∈g.fr k->j∈g'.fr k
 lv:∀k j,k<g.ks.length->j∈g.lv k->j∈g'.lv k
theorem Sub.refl(g:Gr):Sub g g:=⟨M8 _,⟨[],by simp⟩,λ_ _ _ h=>h,λ_ _ _ h=>h⟩
theorem Sub.trans{a b c:Gr}(h:Sub a b)(k:Sub b c):Sub a c:=by
 obtain⟨r,hr⟩:=h.ls;obtain⟨s,hs⟩:=k.ls;exact⟨MN h.len k.len,⟨r++s,by rw[hs,hr,Ml]⟩,λq j hq hj=>k.fr q j (M6 hq h.len) (h.fr q j hq hj),λq j hq hj=>k.lv q j (M6 hq h.len) (h.lv q j hq hj)⟩
theorem Sub.nthL{g g':Gr}(h:Sub g g')(hj:j<g.ls.length):j<g'.ls.length/\nth g'.ls j=nth g.ls j:=by
 obtain⟨r,hr⟩:=h.ls;rw[hr,ay,if_pos hj];exact⟨by simp;omega,rfl⟩
theorem Pt.mono{g g':Gr}(h:Sub g g'){b:Nat}{u:List Int}(p:Pt g a u b):Pt g' a u b:=by
 induction p with
 |nil=>exact .nil _
 |eps h1 h2 _ ih=>exact .eps (M6 h1 h.len) (h.fr _ _ h1 h2) ih
 |leaf h1 h2 h3 h4 _ ih=>
  obtain⟨e1,e2⟩:=h.nthL h2;exact .leaf (M6 h1 h.len) e1 (h.lv _ _ h1 h3) (by rw[e2];exact h4) (by rw[e2];exact ih)
theorem aR(g:Gr):g.knot.ks.length=g.ks.length+1:=by simp[Gr.knot]
theorem bf(g:Gr)(a b:Nat):(g.free a b).ks.length=g.ks.length:=by simp[Gr.free]
theorem gI(g:Gr)(k c:Int)(a b:Nat):(g.leaf k c a b).ks.length=g.ks.length:=by simp[Gr.leaf]
theorem sI(g:Gr)(k:Nat):nth g.knot.ks k=if k<g.ks.length then nth g.ks k else([],[],0):=by
 unfold Gr.knot;rw[ay]
 split
 ·rfl
 by_cases h:k-g.ks.length=0
 ·rw[h,ao]
 rw[eZ (by simp;omega)];rfl
theorem oW(g:Gr)(k:Nat):g.knot.fr k=if k<g.ks.length then g.fr k else []:=by unfold Gr.fr;rw[sI];split<;>rfl
theorem oU(g:Gr)(k:Nat):g.knot.lv k=if k<g.ks.length then g.lv k else []:=by unfold Gr.lv;rw[sI];split<;>rfl
theorem dX{g:Gr}{b:Nat}(ha:a<g.ks.length)(k:Nat):(g.free a b).fr k=if k=a then g.fr a++[b]else g.fr k:=by
 unfold Gr.free Gr.fr;rw[bt ha];split<;>rfl
theorem oY{g:Gr}{b:Nat}(ha:a<g.ks.length)(k:Nat):(g.free a b).lv k=g.lv k:=by
 unfold Gr.free Gr.lv;rw[bt ha];split
 ·rename_i h;rw[h]
 rfl
theorem oO{g:Gr}{x c:Int}{b:Nat}(ha:a<g.ks.length)(k:Nat):(g.leaf x c a b).fr k=g.fr k:=by
 unfold Gr.leaf Gr.fr;rw[bt ha];split
 ·rename_i h;rw[h]
 rfl
theorem mn{g:Gr}{x c:Int}{b:Nat}(ha:a<g.ks.length)(k:Nat):(g.leaf x c a b).lv k=if k=a then g.lv a++[g.ls.length+1]else g.lv k:=by
 unfold Gr.leaf Gr.lv;rw[bt ha];split<;>rfl
theorem jV(g:Gr)(x c:Int)(a b:Nat):(g.leaf x c a b).ls=g.ls++[(x,c,b)]:=rfl
theorem kZ(g:Gr):Sub g g.knot:=⟨by rw[aR];omega,⟨[],by simp[Gr.knot]⟩,λk j hk h=>by rw[oW,if_pos hk];exact h,λk j hk h=>by rw[oU,if_pos hk];exact h⟩
theorem fD{g:Gr}{b:Nat}(ha:a<g.ks.length):Sub g (g.free a b):=⟨by rw[bf];omega,⟨[],by simp[Gr.free]⟩,λk j _ h=>by
 rw[dX ha];split
 ·rename_i e;subst e;exact PQ _ h
 exact h,λk j _ h=>by rw[oY ha];exact h⟩
theorem FY{g:Gr}{x c:Int}{b:Nat}(ha:a<g.ks.length):Sub g (g.leaf x c a b):=⟨by rw[gI];omega,⟨_,rfl⟩,λk j _ h=>by rw[oO ha];exact h,λk j _ h=>by
 rw[mn ha];split
 ·rename_i e;subst e;exact PQ _ h
 exact h⟩
structure WF(g:Gr):Prop where
 fr:∀k j,k<g.ks.length->j∈g.fr k->j<g.ks.length
 lv:∀k j,k<g.ks.length->j∈g.lv k->1<=j/\j<=g.ls.length
 ls:∀j,j<g.ls.length->(nth g.ls j).2.2<g.ks.length
theorem WF.knot{g:Gr}(h:WF g):WF g.knot:=by
 have hl:=aR g;refine⟨λk j hk hj=>?_,λk j hk hj=>?_,λj hj=>?_⟩
 ·rw[oW]at hj
  split at hj
  ·rename_i e;have:=h.fr k j e hj;omega
  simp at hj
 ·rw[oU]at hj
  split at hj
  ·rename_i e;exact h.lv k j e hj
  simp at hj
 have:=h.ls j hj;show(nth g.ls j).2.2<_;omega
theorem WF.free{g:Gr}(h:WF g){a b:Nat}(ha:a<g.ks.length)(hb:b<g.ks.length):WF (g.free a b):=by
 have hl:=bf g a b;refine⟨λk j hk hj=>?_,λk j hk hj=>?_,λj hj=>?_⟩
 ·rw[hl]at hk ⊢;rw[dX ha]at hj
  split at hj
  ·rcases Mb.1 hj with hj|hj
   ·exact h.fr a j ha hj
   rw[LU.1 hj];exact hb
  exact h.fr k j hk hj
 ·rw[hl]at hk;rw[oY ha]at hj;exact h.lv k j hk hj
 rw[hl];exact h.ls j hj
theorem WF.leaf{g:Gr}(h:WF g){x c:Int}{a b:Nat}(ha:a<g.ks.length)(hb:b<g.ks.length):WF (g.leaf x c a b):=by
 have hl:=gI g x c a b;have h2:(g.leaf x c a b).ls.length=g.ls.length+1:=by simp[Gr.leaf]
 refine⟨λk j hk hj=>?_,λk j hk hj=>?_,λj hj=>?_⟩
 ·rw[hl]at hk ⊢;rw[oO ha]at hj;exact h.fr k j hk hj
 ·rw[hl]at hk;rw[h2];rw[mn ha]at hj
  split at hj
  ·rcases Mb.1 hj with hj|hj
   ·have:=h.lv a j ha hj;omega
   rw[LU.1 hj];omega
  have:=h.lv k j hk hj;omega
 rw[hl,jV,ay]
 split
 ·rename_i e;exact h.ls j e
 rw[h2]at hj;rw[show j-g.ls.length=0 from by omega,ao];exact hb
theorem zH(k:Int)(g:Gr)(i:Nat):(layO k g i).ks.length=g.ks.length:=by
 unfold layO;split<;>split<;>simp only[bf]
theorem IM{k:Int}{g:Gr}(h:WF g)(hi:i+1<g.ks.length):WF (layO k g i):=by
 unfold layO;split<;>split
 ·exact h
 ·exact h.free zo hi
 ·exact h.free hi zo
 exact(h.free zo hi).free (by rw[bf];exact hi) (by rw[bf];omega)
theorem zG{k:Int}{g:Gr}(hi:i+1<g.ks.length):Sub g (layO k g i):=by
 unfold layO;split<;>split
 ·exact Sub.refl _
 ·exact fD zo
 ·exact fD hi
 exact(fD zo).trans (fD (by rw[bf];exact hi))
def bR(g:Gr)(a b:Nat):Gr:=(g.knot.knot.free a g.ks.length).free (g.ks.length+1) b
theorem eo(g:Gr)(a b:Nat):(bR g a b).ks.length=g.ks.length+2:=by unfold bR;rw[bf,bf,aR,aR]
theorem eY{g:Gr}(h:WF g){b:Nat}(ha:a<g.ks.length)(hb:b<g.ks.length):WF (bR g a b):=by
 have h2:g.knot.knot.ks.length=g.ks.length+2:=by rw[aR,aR]
 exact(h.knot.knot.free zo zo).free (by rw[bf];omega) (by rw[bf];omega)
theorem AI{g:Gr}{b:Nat}(ha:a<g.ks.length):Sub g (bR g a b):=by
 have h2:g.knot.knot.ks.length=g.ks.length+2:=by rw[aR,aR]
 exact(((kZ g).trans (kZ _)).trans (fD zo)).trans (fD (by rw[bf];omega))
mutual
theorem cK:∀(t:Nd) (a b:Nat) (g:Gr),WF g->a<g.ks.length->b<g.ks.length->WF (fK t a b g)/\Sub g (fK t a b g)
 |.mk k c l,a,b,g,h,ha,hb=>by
  unfold fK
  split
  ·exact xX l a b g h ha hb
  split
  ·exact xZ l a b g h ha hb
  split
  ·have hl:=eo g a b
   obtain⟨h1,h2⟩:=mq l g.ks.length (g.ks.length+1) (bR g a b) (eY h ha hb) zo zo
   have:=h2.len
   show WF (layO k (nO l g.ks.length (g.ks.length+1) (bR g a b)) g.ks.length)/\Sub g (layO k (nO l g.ks.length (g.ks.length+1) (bR g a b)) g.ks.length)
   exact⟨IM h1 zo,((AI ha).trans h2).trans (zG zo)⟩
  split
  ·exact⟨h.free ha hb,fD ha⟩
  exact⟨h.leaf ha hb,FY ha⟩
theorem xX:∀(l:List Nd) (a b:Nat) (g:Gr),WF g->a<g.ks.length->b<g.ks.length->WF (nN l a b g)/\Sub g (nN l a b g)
 |[],_,_,g,h,_,_=>⟨h,Sub.refl g⟩
 |t::r,a,b,g,h,ha,hb=>by
  unfold nN
  split
  ·exact cK t a b g h ha hb
  have hl:=aR g
  obtain⟨h1,h2⟩:=cK t a g.ks.length g.knot h.knot zo zo
  have:=h2.len
  obtain⟨h3,h4⟩:=xX r g.ks.length b _ h1 zo zo
  exact⟨h3,((kZ g).trans h2).trans h4⟩
theorem xZ:∀(l:List Nd) (a b:Nat) (g:Gr),WF g->a<g.ks.length->b<g.ks.length->WF (nQ l a b g)/\Sub g (nQ l a b g)
 |[],_,_,g,h,_,_=>⟨h,Sub.refl g⟩
 |t::r,a,b,g,h,ha,hb=>by
  unfold nQ
  obtain⟨h1,h2⟩:=cK t a b g h ha hb
  have:=h2.len
  obtain⟨h3,h4⟩:=xZ r a b _ h1 zo zo
  exact⟨h3,h2.trans h4⟩
theorem mq:∀(l:List Nd) (a b:Nat) (g:Gr),WF g->a<g.ks.length->b<g.ks.length->WF (nO l a b g)/\Sub g (nO l a b g)
 |[],_,_,g,h,_,_=>⟨h,Sub.refl g⟩
 |t::_,a,b,g,h,ha,hb=>by
  unfold nO
  exact cK t a b g h ha hb
end
theorem og{g:Gr}{L:List Int->Prop}{i o:Nat}(hL:∀u,L u->Pt g i u o)(hb:Pt g o [] i):∀ {v:List Int},StarP L v->Pt g o v o
 |_,.nil=>.nil _
 |_,.cons h1 h2=>(hb.trans (hL _ h1)).trans (og hL hb h2)
mutual
theorem kX:∀(t:Nd) (a b:Nat) (g:Gr),WF g->a<g.ks.length->b<g.ks.length->fV t=true->∀w,Lg t w->Pt (fK t a b g) a w b
 |.mk k c l,a,b,g,h,ha,hb,hs,w,hw=>by
  unfold fV at hs
  simp only[LZ]at hs
  obtain⟨hs1,hs2⟩:=hs
  unfold Lg at hw
  unfold fK
  by_cases h4:k=4
  ·rw[if_pos h4]at hw hs1 ⊢
   exact vf l a b g h ha hb hs2 (by intro e;rw[e]at hs1;simp at hs1) w hw
  rw[if_neg h4]at hw hs1 ⊢
  by_cases h5:k=5
  ·rw[if_pos h5]at hw ⊢
   exact vh l a b g h ha hb hs2 w hw
  rw[if_neg h5]at hw ⊢
  by_cases h678:k=6\/k=7\/k=8
  ·rw[if_pos h678]at hs1 ⊢
   have hl:=eo g a b
   have hwf:=eY h ha hb
   obtain⟨h1,h2⟩:=mq l g.ks.length (g.ks.length+1) (bR g a b) hwf zo zo
   have hlen:=h2.len
   have hkid:=CT l g.ks.length (g.ks.length+1) (bR g a b) hwf zo zo hs2
   have hk2:g.knot.knot.ks.length=g.ks.length+2:=by rw[aR,aR]
   show Pt (layO k (nO l g.ks.length (g.ks.length+1) (bR g a b)) g.ks.length) a w b
   have ein:Pt (bR g a b) a [] g.ks.length:=.eps zo (by
    unfold bR
    rw[dX (by rw[bf];omega)]
    rw[if_neg zo,dX zo,if_pos rfl];simp) (.nil _)
   have eout:Pt (bR g a b) (g.ks.length+1) [] b:=.eps zo (by
    unfold bR
    rw[dX (by rw[bf];omega),if_pos rfl];simp) (.nil _)
   generalize bR g a b=g1 at *
   generalize nO l g.ks.length (g.ks.length+1) g1=g2 at *
   generalize g.ks.length=i at *
   have hsub:Sub g2 (layO k g2 i):=zG zo
   have e1:=(ein.mono h2).mono hsub
   have e2:=(eout.mono h2).mono hsub
   have ek:∀u,LgH l u->Pt (layO k g2 i) i u (i+1):=λu hu=>(hkid u hu).mono hsub
   have eskip:k≠7->Pt (layO k g2 i) i [] (i+1):=λhk=>.eps (by rw[zH];omega) (by
    unfold layO
    rw[if_neg hk]
    split
    ·rw[dX zo,if_pos rfl];simp
    rw[dX (by rw[bf];omega),if_neg zo,dX zo,if_pos rfl];simp) (.nil _)
   have eback:k≠8->Pt (layO k g2 i) (i+1) [] i:=λhk=>.eps (by rw[zH];omega) (by
    unfold layO
    rw[if_neg hk,dX (by split;omega;rw[bf];omega),if_pos rfl];simp) (.nil _)
   by_cases h6:k=6
   ·rw[if_pos h6]at hw
    have:=((e1.trans (eskip zo)).trans (og ek (eback zo) hw)).trans e2
    simpa using this
   rw[if_neg h6]at hw
   by_cases h7:k=7
   ·rw[if_pos h7]at hw
    obtain⟨u,v,rfl,hu,hv⟩:=hw
    have:=((e1.trans (ek u hu)).trans (og ek (eback zo) hv)).trans e2
    simpa using this
   rw[if_neg h7,if_pos (show k=8 from by omega)]at hw
   rcases hw with rfl|hw
   ·exact(e1.trans (eskip h7)).trans e2
   have:=(e1.trans (ek w hw)).trans e2
   simpa using this
  rw[if_neg zo,if_neg zo,if_neg zo]at hw
  rw[if_neg h678]
  by_cases h9:k=9
  ·rw[if_pos h9]at hw ⊢
   subst hw
   exact .eps (by rw[bf];exact ha) (by rw[dX ha,if_pos rfl];simp) (.nil _)
  rw[if_neg h9]at hw ⊢
  obtain⟨m,rfl,hm⟩:=hw
  have hn:nth (g.leaf k c a b).ls g.ls.length=(k,c,b):=by rw[jV,ay,if_neg zo,PI,ao]
  refine .leaf (j:=g.ls.length) (by rw[gI];exact ha) (by rw[jV];simp) (by rw[mn ha,if_pos rfl];simp) (by rw[hn];exact hm) (by rw[hn];exact .nil _)
theorem vf:∀(l:List Nd) (a b:Nat) (g:Gr),WF g->a<g.ks.length->b<g.ks.length->cm l=true->l≠[]->∀w,LgS l w->Pt (nN l a b g) a w b
 |[],_,_,_,_,_,_,_,hn,_,_=>absurd rfl hn
 |t::r,a,b,g,h,ha,hb,hs,_,w,hw=>by
  unfold cm at hs
  simp only[LZ]at hs
  unfold LgS at hw
  obtain⟨u,v,rfl,hu,hv⟩:=hw
  unfold nN
  split
  ·rename_i hr
   obtain rfl:r=[]:=by simpa using hr
   obtain rfl:v=[]:=by unfold LgS at hv;exact hv
   rw[Mo]
   exact kX t a b g h ha hb hs.1 u hu
  rename_i hr
  have hl:=aR g
  have p1:=kX t a g.ks.length g.knot h.knot zo zo hs.1 u hu
  obtain⟨h1,h2⟩:=cK t a g.ks.length g.knot h.knot zo zo
  have:=h2.len
  have p2:=vf r g.ks.length b _ h1 zo zo hs.2 (by intro e;rw[e]at hr;simp at hr) v hv
  exact(p1.mono (xX r g.ks.length b _ h1 zo zo).2).trans p2
theorem vh:∀(l:List Nd) (a b:Nat) (g:Gr),WF g->a<g.ks.length->b<g.ks.length->cm l=true->∀w,LgA l w->Pt (nQ l a b g) a w b
 |[],_,_,_,_,_,_,_,_,hw=>by unfold LgA at hw;exact hw.elim
 |t::r,a,b,g,h,ha,hb,hs,w,hw=>by
  unfold cm at hs
  simp only[LZ]at hs
  unfold LgA at hw
  unfold nQ
  obtain⟨h1,h2⟩:=cK t a b g h ha hb
  have:=h2.len
  rcases hw with hw|hw
  ·exact(kX t a b g h ha hb hs.1 w hw).mono (xZ r a b _ h1 zo zo).2
  exact vh r a b _ h1 zo zo hs.2 w hw
theorem CT:∀(l:List Nd) (a b:Nat) (g:Gr),WF g->a<g.ks.length->b<g.ks.length->cm l=true->∀w,LgH l w->Pt (nO l a b g) a w b
 |[],_,_,_,_,_,_,_,_,hw=>by unfold LgH at hw;exact hw.elim
 |t::_,a,b,g,h,ha,hb,hs,w,hw=>by
  unfold cm at hs
  simp only[LZ]at hs
  unfold LgH at hw
  unfold nO
  exact kX t a b g h ha hb hs.1 w hw
end
end
section
open Go.VL Go.Proofs
set_option maxRecDepth 10000
structure Lbl(g:Gr)(R:Nat->List Int->Prop):Prop where
 fr:∀k j,k<g.ks.length->j∈g.fr k->∀w,R j w->R k w
 lv:∀k j,k<g.ks.length->j<g.ls.length->j+1∈g.lv k->∀m w,cW (nth g.ls j).1 (nth g.ls j).2.1 m=true->R (nth g.ls j).2.2 w->R k (m::w)
theorem Lbl.path{g:Gr}(h:Lbl g R){k q:Nat}{w:List Int}(p:Pt g k w q):∀v,R q v->R k (w++v):=by
 induction p with
 |nil=>exact λv h=>h
 |eps h1 h2 _ ih=>exact λv hv=>h.fr _ _ h1 h2 _ (ih v hv)
 |leaf h1 h2 h3 h4 _ ih=>exact λv hv=>h.lv _ _ h1 h2 h3 _ _ h4 (ih v hv)
theorem Lbl.agree{g:Gr}{R':Nat->List Int->Prop}(h:Lbl g R)(hw:WF g)(e:∀k,k<g.ks.length->R' k=R k):Lbl g R':=
 ⟨λk j hk hj w=>by rw[e k hk,e j (hw.fr k j hk hj)];exact h.fr k j hk hj w,λk j hk hj hl m w=>by rw[e k hk,e _ (hw.ls j hj)];exact h.lv k j hk hj hl m w⟩
theorem Lbl.knot{g:Gr}{R:Nat->List Int->Prop}(h:Lbl g R):Lbl g.knot R:=by
 refine⟨λk j hk hj w=>?_,λk j hk hj hl m w=>?_⟩
 ·rw[oW]at hj
  split at hj
  ·rename_i e;exact h.fr k j e hj w
  simp at hj
 rw[oU]at hl
 split at hl
 ·rename_i e;exact h.lv k j e hj hl m w
 simp at hl
theorem Lbl.free{g:Gr}{R:Nat->List Int->Prop}(h:Lbl g R){a b:Nat}(ha:a<g.ks.length)(a0:∀w,R b w->R a w):Lbl (g.free a b) R:=by
 refine⟨λk j hk hj w=>?_,λk j hk hj hl m w=>?_⟩
 ·rw[bf]at hk;rw[dX ha]at hj
  split at hj
  ·rename_i e;subst e
   rcases Mb.1 hj with hj|hj
   ·exact h.fr k j ha hj w
   rw[LU.1 hj];exact a0 w
  exact h.fr k j hk hj w
 rw[bf]at hk;rw[oY ha]at hl;exact h.lv k j hk hj hl m w
theorem Lbl.leaf{g:Gr}{R:Nat->List Int->Prop}(h:Lbl g R)(hw:WF g){x c:Int}{a b:Nat}(ha:a<g.ks.length)(a1:∀m w,cW x c m=true->R b w->R a (m::w)):Lbl (g.leaf x c a b) R:=by
 refine⟨λk j hk hj w=>?_,λk j hk hj hl m w=>?_⟩
 ·rw[gI]at hk;rw[oO ha]at hj;exact h.fr k j hk hj w
 rw[gI]at hk;rw[mn ha]at hl;rw[jV,Ms]at hj;simp only[MU,Nh]at hj;rw[jV,ay]
 by_cases a0:j<g.ls.length
 ·rw[if_pos a0];refine h.lv k j hk a0 ?_ m w
  split at hl
  ·rename_i e;subst e
   rcases Mb.1 hl with hl|hl
   ·exact hl
   have:=LU.1 hl;omega
  exact hl
 rw[if_neg a0,show j-g.ls.length=0 from by omega,ao]
 split at hl
 ·rename_i e;subst e;exact a1 m w
 have:=hw.lv k (j+1) hk hl;omega
def nh(R:Nat->List Int->Prop)(i:Nat)(X:List Int->Prop):Nat->List Int->Prop:=λk=>if k=i then X else R k
theorem jI(R:Nat->List Int->Prop)(i:Nat)(X:List Int->Prop):nh R i X i=X:=if_pos rfl
theorem dJ{k:Nat}{X:List Int->Prop}(h:k≠i):nh R i X k=R k:=if_neg h
def Cat(L M:List Int->Prop):List Int->Prop:=λw=>∃u v,w=u++v/\L u/\M v
def xB(k:Int)(L:List Int->Prop):List Int->Prop:=if k=8 then λw=>w=[]else StarP L
def inL(k:Int)(L:List Int->Prop):List Int->Prop:=if k=6 then StarP L else if k=7 then Cat L (StarP L)else λw=>w=[]\/L w
theorem FE(k:Int)(L:List Int->Prop):xB k L []:=by unfold xB;split;rfl;exact .nil
theorem JU{k:Int}(hk:k=6\/k=7\/k=8){u v:List Int}(hu:L u)(hv:xB k L v):inL k L (u++v):=by
 unfold xB at hv;unfold inL
 rcases hk with rfl|rfl|rfl
 ·rw[if_neg zd]at hv;rw[if_pos rfl];exact .cons hu hv
 ·rw[if_neg zd]at hv;rw[if_neg zd,if_pos rfl];exact⟨u,v,rfl,hu,hv⟩
 rw[if_pos rfl]at hv;subst hv;rw[if_neg zd,if_neg zd,Mo];exact .inr hu
theorem IP{k:Int}(hk:k=6\/k=7\/k=8)(h7:k≠7){v:List Int}(hv:xB k L v):inL k L v:=by
 unfold xB at hv;unfold inL
 rcases hk with rfl|rfl|rfl
 ·rw[if_neg zd]at hv;rw[if_pos rfl];exact hv
 ·exact absurd rfl h7
 rw[if_pos rfl]at hv;rw[if_neg zd,if_neg zd];exact .inl hv
theorem FD{k:Int}(hk:k=6\/k=7\/k=8)(h8:k≠8){v:List Int}(hv:inL k L v):xB k L v:=by
 unfold inL at hv;unfold xB;rw[if_neg h8]
 rcases hk with rfl|rfl|rfl
 ·rw[if_pos rfl]at hv;exact hv
 ·rw[if_neg zd,if_pos rfl]at hv;obtain⟨u,v,rfl,hu,hv⟩:=hv;exact .cons hu hv
 exact absurd rfl h8
theorem Gt{k c:Int}{l:List Nd}(hk:k=6\/k=7\/k=8):Lg (.mk k c l)=inL k (LgH l):=by
 unfold Lg inL;funext w
 rcases hk with rfl|rfl|rfl
 ·rw[if_neg zd,if_neg zd,if_pos rfl,if_pos rfl]
 ·rw[if_neg zd,if_neg zd,if_neg zd,if_pos rfl,if_neg zd,if_pos rfl];rfl
 rw[if_neg zd,if_neg zd,if_neg zd,if_neg zd,if_pos rfl,if_neg zd,if_neg zd]
theorem F3{k:Int}{g:Gr}(h:Lbl g R)(hi:i+1<g.ks.length)(h7:k≠7->∀w,R (i+1) w->R i w)(h8:k≠8->∀w,R i w->R (i+1) w):Lbl (layO k g i) R:=by
 unfold layO
 split
 ·split
  ·exact h
  rename_i q;exact h.free zo (h7 q)
 rename_i q8
 split
 ·exact h.free hi (h8 q8)
 rename_i q;exact(h.free zo (h7 q)).free (by rw[bf];exact hi) (h8 q8)
mutual
theorem iy:∀(t:Nd) (a b:Nat) (g:Gr) (R:Nat->List Int->Prop),WF g->a<g.ks.length->b<g.ks.length->Lbl g R->(∀u v,Lg t u->R b v->R a (u++v))->
  ∃R',(∀k,k<g.ks.length->R' k=R k)/\Lbl (fK t a b g) R'
 |.mk k c l,a,b,g,R,h,ha,hb,hL,hab=>by
  unfold fK
  by_cases h4:k=4
  ·rw[if_pos h4]
   refine qP l a b g R h ha hb hL λu v hu hv=>hab u v ?_ hv
   unfold Lg;rw[if_pos h4];exact hu
  rw[if_neg h4]
  by_cases h5:k=5
  ·rw[if_pos h5]
   refine qQ l a b g R h ha hb hL λu v hu hv=>hab u v ?_ hv
   unfold Lg;rw[if_neg h4,if_pos h5];exact hu
  rw[if_neg h5]
  by_cases h678:k=6\/k=7\/k=8
  ·rw[if_pos h678]
   have hab':=λu v hu hv=>hab u v (by rw[Gt h678];exact hu) hv
   have hl:=eo g a b
   have hwf:=eY h ha hb
   obtain⟨h1,h2⟩:=mq l g.ks.length (g.ks.length+1) (bR g a b) hwf zo zo
   have hlen:=h2.len
   show∃R',(∀q,q<g.ks.length->R' q=R q)/\Lbl (layO k (nO l g.ks.length (g.ks.length+1) (bR g a b)) g.ks.length) R'
   have hR1:Lbl (bR g a b) (nh (nh R g.ks.length (Cat (inL k (LgH l)) (R b))) (g.ks.length+1) (Cat (xB k (LgH l)) (R b))):=by
    have hk2:g.knot.knot.ks.length=g.ks.length+2:=by rw[aR,aR]
    have hg:=(hL.agree (R':=nh (nh R g.ks.length (Cat (inL k (LgH l)) (R b))) (g.ks.length+1) (Cat (xB k (LgH l)) (R b))) h λq hq=>by rw[dJ zo,dJ zo]).knot.knot
    refine(hg.free zo ?_).free (by rw[bf];omega) ?_
    ·intro w hw
     rw[dJ zo,jI]at hw
     rw[dJ zo,dJ zo]
     obtain⟨u,v,rfl,hu,hv⟩:=hw
     exact hab' u v hu hv
    intro w hw
    rw[dJ zo,dJ zo]at hw
    rw[jI]
    exact⟨[],w,rfl,FE _ _,hw⟩
   have hi1:(nh (nh R g.ks.length (Cat (inL k (LgH l)) (R b))) (g.ks.length+1) (Cat (xB k (LgH l)) (R b))) g.ks.length=Cat (inL k (LgH l)) (R b):=by rw[dJ zo,jI]
   have ho1:(nh (nh R g.ks.length (Cat (inL k (LgH l)) (R b))) (g.ks.length+1) (Cat (xB k (LgH l)) (R b))) (g.ks.length+1)=Cat (xB k (LgH l)) (R b):=jI _ _ _
   have hold:∀q,q<g.ks.length->(nh (nh R g.ks.length (Cat (inL k (LgH l)) (R b))) (g.ks.length+1) (Cat (xB k (LgH l)) (R b))) q=R q:=λq hq=>by rw[dJ zo,dJ zo]
   generalize nh (nh R g.ks.length (Cat (inL k (LgH l)) (R b))) (g.ks.length+1) (Cat (xB k (LgH l)) (R b))=R1 at *
   obtain⟨R2,e2,hR2⟩:=AQ l g.ks.length (g.ks.length+1) (bR g a b) R1 hwf zo zo hR1 (λu v hu hv=>by
    rw[ho1]at hv
    rw[hi1]
    obtain⟨v1,v2,rfl,hv1,hv2⟩:=hv
    exact⟨u++v1,v2,by rw[Ml],JU h678 hu hv1,hv2⟩)
   refine⟨R2,λq hq=>by rw[e2 q zo,hold q hq],F3 hR2 zo ?_ ?_⟩
   ·intro h7 w
    rw[e2 _ zo,e2 _ zo,hi1,ho1]
    rintro⟨u,v,rfl,hu,hv⟩
    exact⟨u,v,rfl,IP h678 h7 hu,hv⟩
   intro h8 w
   rw[e2 _ zo,e2 _ zo,hi1,ho1]
   rintro⟨u,v,rfl,hu,hv⟩
   exact⟨u,v,rfl,FD h678 h8 hu,hv⟩
  rw[if_neg h678]
  have hg:Lg (.mk k c l)=λw=>if k=9 then w=[]else∃m,w=[m]/\cW k c m=true:=by
   unfold Lg;funext w;rw[if_neg h4,if_neg h5,if_neg zo,if_neg zo,if_neg zo]
  rw[hg]at hab
  by_cases h9:k=9
  ·rw[if_pos h9]
   exact⟨R,λ_ _=>rfl,hL.free ha λw hw=>hab [] w (by show(if k=9 then _ else _);rw[if_pos h9]) hw⟩
  rw[if_neg h9]
  exact⟨R,λ_ _=>rfl,hL.leaf h ha λm w hm hw=>hab [m] w (by show(if k=9 then _ else _);rw[if_neg h9];exact⟨m,rfl,hm⟩) hw⟩
theorem qP:∀(l:List Nd) (a b:Nat) (g:Gr) (R:Nat->List Int->Prop),WF g->a<g.ks.length->b<g.ks.length->Lbl g R->(∀u v,LgS l u->R b v->R a (u++v))->
  ∃R',(∀k,k<g.ks.length->R' k=R k)/\Lbl (nN l a b g) R'
 |[],_,_,_,R,_,_,_,hL,_=>⟨R,λ_ _=>rfl,hL⟩
 |t::r,a,b,g,R,h,ha,hb,hL,hab=>by
  unfold LgS at hab
  unfold nN
  split
  ·rename_i hr
   obtain rfl:r=[]:=by simpa using hr
   exact iy t a b g R h ha hb hL λu v hu hv=>hab u v ⟨u,[],by simp,hu,by unfold LgS;rfl⟩ hv
  have hl:=aR g
  have hold:∀q,q<g.ks.length->nh R g.ks.length (Cat (LgS r) (R b)) q=R q:=λq hq=>dJ zo
  have hmid:=jI R g.ks.length (Cat (LgS r) (R b))
  have hR1:=(hL.agree h hold).knot
  generalize nh R g.ks.length (Cat (LgS r) (R b))=R1 at *
  obtain⟨R2,e2,hR2⟩:=iy t a g.ks.length g.knot R1 h.knot zo zo hR1 (λu v hu hv=>by
   rw[hmid]at hv
   rw[hold a ha]
   obtain⟨v1,v2,rfl,hv1,hv2⟩:=hv
   rw[<-Ml]
   exact hab (u++v1) v2 ⟨u,v1,rfl,hu,hv1⟩ hv2)
  obtain⟨h1,h2⟩:=cK t a g.ks.length g.knot h.knot zo zo
  have hlen:=h2.len
  obtain⟨R3,e3,hR3⟩:=qP r g.ks.length b _ R2 h1 zo zo hR2 (λu v hu hv=>by
   rw[e2 b zo,hold b hb]at hv
   rw[e2 _ zo,hmid]
   exact⟨u,v,rfl,hu,hv⟩)
  exact⟨R3,λq hq=>by rw[e3 q zo,e2 q zo,hold q hq],hR3⟩
theorem qQ:∀(l:List Nd) (a b:Nat) (g:Gr) (R:Nat->List Int->Prop),WF g->a<g.ks.length->b<g.ks.length->Lbl g R->(∀u v,LgA l u->R b v->R a (u++v))->
  ∃R',(∀k,k<g.ks.length->R' k=R k)/\Lbl (nQ l a b g) R'
 |[],_,_,_,R,_,_,_,hL,_=>⟨R,λ_ _=>rfl,hL⟩
 |t::r,a,b,g,R,h,ha,hb,hL,hab=>by
  unfold LgA at hab
  unfold nQ
  obtain⟨R2,e2,hR2⟩:=iy t a b g R h ha hb hL λu v hu hv=>hab u v (.inl hu) hv
  obtain⟨h1,h2⟩:=cK t a b g h ha hb
  have hlen:=h2.len
  obtain⟨R3,e3,hR3⟩:=qQ r a b _ R2 h1 zo zo hR2 λu v hu hv=>by
   rw[e2 b hb]at hv
   rw[e2 a ha]
   exact hab u v (.inr hu) hv
  exact⟨R3,λq hq=>by rw[e3 q zo,e2 q hq],hR3⟩
theorem AQ:∀(l:List Nd) (a b:Nat) (g:Gr) (R:Nat->List Int->Prop),WF g->a<g.ks.length->b<g.ks.length->Lbl g R->(∀u v,LgH l u->R b v->R a (u++v))->
  ∃R',(∀k,k<g.ks.length->R' k=R k)/\Lbl (nO l a b g) R'
 |[],_,_,_,R,_,_,_,hL,_=>⟨R,λ_ _=>rfl,hL⟩
 |t::_,a,b,g,R,h,ha,hb,hL,hab=>by
  unfold LgH at hab
  unfold nO
  exact iy t a b g R h ha hb hL hab
end
theorem sJ(g:Gr)(k:Nat):g.knot.en k=if k<g.ks.length then g.en k else 0:=by unfold Gr.en;rw[sI];split<;>rfl
theorem ye{g:Gr}{b:Nat}(ha:a<g.ks.length)(k:Nat):(g.free a b).en k=g.en k:=by
 unfold Gr.free Gr.en;rw[bt ha];split
 ·rename_i h;rw[h]
 rfl
theorem CN{g:Gr}{x c:Int}{b:Nat}(ha:a<g.ks.length)(k:Nat):(g.leaf x c a b).en k=g.en k:=by
 unfold Gr.leaf Gr.en;rw[bt ha];split
 ·rename_i h;rw[h]
 rfl
def SameEn(g g':Gr):Prop:=∀k,g'.en k=if k<g.ks.length then g.en k else 0
theorem J4{g:Gr}{k:Nat}(h:g.ks.length<=k):g.en k=0:=by unfold Gr.en;rw[eZ h];rfl
theorem SameEn.refl(g:Gr):SameEn g g:=λk=>by
 split
 ·rfl
 exact J4 zo
theorem SameEn.trans{a b c:Gr}(h:SameEn a b)(k:SameEn b c)(hl:a.ks.length<=b.ks.length):SameEn a c:=λq=>by
 rw[k q]
 by_cases h1:q<a.ks.length
 ·rw[if_pos h1,if_pos zo,h q,if_pos h1]
 rw[if_neg h1]
 split
 ·rw[h q,if_neg h1]
 rfl
theorem oT(g:Gr):SameEn g g.knot:=sJ g
theorem ff{g:Gr}{b:Nat}(ha:a<g.ks.length):SameEn g (g.free a b):=λk=>by
 rw[ye ha];exact SameEn.refl g k
theorem CM{g:Gr}{x c:Int}{b:Nat}(ha:a<g.ks.length):SameEn g (g.leaf x c a b):=λk=>by
 rw[CN ha];exact SameEn.refl g k
theorem CR{k:Int}{g:Gr}(hi:i+1<g.ks.length):SameEn g (layO k g i):=by
 unfold layO;split<;>split
 ·exact SameEn.refl _
 ·exact ff zo
 ·exact ff hi
 exact(ff zo).trans (ff (by rw[bf];exact hi)) (by rw[bf];omega)
theorem xE{g:Gr}{b:Nat}(ha:a<g.ks.length):SameEn g (bR g a b):=by
 have h2:g.knot.knot.ks.length=g.ks.length+2:=by rw[aR,aR]
 unfold bR;exact(((oT g).trans (oT _) (by rw[aR];omega)).trans (ff zo) zo).trans (ff (by rw[bf];omega)) (by rw[bf];omega)
mutual
theorem iz:∀(t:Nd) (a b:Nat) (g:Gr),WF g->a<g.ks.length->b<g.ks.length->SameEn g (fK t a b g)
 |.mk k c l,a,b,g,h,ha,hb=>by
  unfold fK
  split
  ·exact ve l a b g h ha hb
  split
  ·exact vg l a b g h ha hb
  split
  ·have hl:=eo g a b
   have hwf:=eY h ha hb
   obtain⟨h1,h2⟩:=mq l g.ks.length (g.ks.length+1) (bR g a b) hwf zo zo
   have:=h2.len
   exact((xE ha).trans (CS l _ _ _ hwf zo zo) zo).trans (CR zo) (by show g.ks.length<=(nO l g.ks.length (g.ks.length+1) (bR g a b)).ks.length;omega)
  split
  ·exact ff ha
  exact CM ha
theorem ve:∀(l:List Nd) (a b:Nat) (g:Gr),WF g->a<g.ks.length->b<g.ks.length->SameEn g (nN l a b g)
 |[],_,_,g,_,_,_=>SameEn.refl g
 |t::r,a,b,g,h,ha,hb=>by
  unfold nN
  split
  ·exact iz t a b g h ha hb
  have hl:=aR g
  obtain⟨h1,h2⟩:=cK t a g.ks.length g.knot h.knot zo zo
  have:=h2.len
  exact((oT g).trans (iz t _ _ _ h.knot zo zo) zo).trans (ve r _ _ _ h1 zo zo) zo
theorem vg:∀(l:List Nd) (a b:Nat) (g:Gr),WF g->a<g.ks.length->b<g.ks.length->SameEn g (nQ l a b g)
 |[],_,_,g,_,_,_=>SameEn.refl g
 |t::r,a,b,g,h,ha,hb=>by
  unfold nQ
  obtain⟨h1,h2⟩:=cK t a b g h ha hb
  have:=h2.len
  exact(iz t a b g h ha hb).trans (vg r _ _ _ h1 zo zo) zo
theorem CS:∀(l:List Nd) (a b:Nat) (g:Gr),WF g->a<g.ks.length->b<g.ks.length->SameEn g (nO l a b g)
 |[],_,_,g,_,_,_=>SameEn.refl g
 |t::_,a,b,g,h,ha,hb=>by
  unfold nO
  exact iz t a b g h ha hb
end
end
section
open Go.VL Go.Proofs
set_option maxRecDepth 10000
def Gr.mark(g:Gr)(a e:Nat):Gr:=⟨g.ls,g.ks.set a (g.fr a,g.lv a,e)⟩
theorem cN(g:Gr)(a e:Nat):(g.mark a e).ks.length=g.ks.length:=by simp[Gr.mark]
theorem oM{g:Gr}(ha:a<g.ks.length)(k:Nat):(g.mark a e).fr k=g.fr k:=by
 unfold Gr.mark Gr.fr;rw[bt ha];split
 ·rename_i h;rw[h]
 rfl
theorem oL{g:Gr}(ha:a<g.ks.length)(k:Nat):(g.mark a e).lv k=g.lv k:=by
 unfold Gr.mark Gr.lv;rw[bt ha];split
 ·rename_i h;rw[h]
 rfl
theorem CG{g:Gr}(ha:a<g.ks.length)(k:Nat):(g.mark a e).en k=if k=a then e else g.en k:=by
 unfold Gr.mark Gr.en;rw[bt ha];split<;>rfl
theorem FP{g:Gr}(ha:a<g.ks.length):Sub g (g.mark a e):=⟨by rw[cN];omega,⟨[],by simp[Gr.mark]⟩,λk j _ h=>by rw[oM ha];exact h,λk j _ h=>by rw[oL ha];exact h⟩
theorem WF.mark{g:Gr}(h:WF g){a e:Nat}(ha:a<g.ks.length):WF (g.mark a e):=
 ⟨λk j hk hj=>by rw[cN]at hk ⊢;rw[oM ha]at hj;exact h.fr k j hk hj,λk j hk hj=>by rw[cN]at hk;rw[oL ha]at hj;exact h.lv k j hk hj,λj hj=>by rw[cN];exact h.ls j hj⟩
theorem Lbl.mark{g:Gr}{R:Nat->List Int->Prop}(h:Lbl g R){a e:Nat}(ha:a<g.ks.length):Lbl (g.mark a e) R:=
 ⟨λk j hk hj=>by rw[cN]at hk;rw[oM ha]at hj;exact h.fr k j hk hj,λk j hk hj hl=>by rw[cN]at hk;rw[oL ha]at hl;exact h.lv k j hk hj hl⟩
def dK(g:Gr)(i:Nat):Gr:=((g.knot.mark g.ks.length (i+1)).knot).free 0 (g.ks.length+1)
def nJ(x:Nd)(i:Nat)(g:Gr):Gr:=fK x (g.ks.length+1) g.ks.length (dK g i)
def cB:List Nd->Nat->Gr->Gr
 |[],_,g=>g
 |x::r,i,g=>cB r (i+1) (nJ x i g)
def g00:Gr:=⟨[],[([],[],0)]⟩
def kq(xs:List Nd):Gr:=cB xs 0 g00
theorem eh(g:Gr)(i:Nat):(dK g i).ks.length=g.ks.length+2:=by unfold dK;rw[bf,aR,cN,aR]
theorem eU{g:Gr}(h:WF g)(h0:0<g.ks.length)(i:Nat):WF (dK g i)/\Sub g (dK g i):=by
 have h1:=aR g;have h2:=cN g.knot g.ks.length (i+1);have h3:=aR (g.knot.mark g.ks.length (i+1));refine⟨((h.knot.mark zo).knot).free zo zo,(((kZ g).trans (FP zo)).trans (kZ _)).trans (fD zo)⟩
theorem BU{g:Gr}(h0:0<g.ks.length)(i k:Nat):(dK g i).en k=if k=g.ks.length then i+1 else if k<g.ks.length then g.en k else 0:=by
 have h1:=aR g;have h2:=cN g.knot g.ks.length (i+1);have h3:=aR (g.knot.mark g.ks.length (i+1));unfold dK;rw[ye zo,sJ,CG zo,sJ]
 by_cases hk:k=g.ks.length
 ·simp only[if_pos hk];rw[if_pos zo]
 simp only[if_neg hk]
 by_cases a0:k<g.ks.length
 ·simp only[if_pos a0];rw[if_pos zo]
 simp only[if_neg a0];split<;>rfl
theorem lX{g:Gr}(h:WF g)(h0:0<g.ks.length)(x:Nd)(i:Nat):WF (nJ x i g)/\Sub g (nJ x i g)/\g.ks.length+2<=(nJ x i g).ks.length:=by
 obtain⟨h1,h2⟩:=eU h h0 i;have hl:=eh g i;obtain⟨h3,h4⟩:=cK x (g.ks.length+1) g.ks.length (dK g i) h1 zo zo;exact⟨h3,h2.trans h4,by have:=h4.len;unfold nJ;omega⟩
theorem sq{g:Gr}(h:WF g)(h0:0<g.ks.length)(x:Nd)(i k:Nat):(nJ x i g).en k=if k=g.ks.length then i+1 else if k<g.ks.length then g.en k else 0:=by
 obtain⟨h1,h2⟩:=eU h h0 i;have hl:=eh g i;have:=iz x (g.ks.length+1) g.ks.length (dK g i) h1 zo zo k;rw[BU h0,hl]at this;unfold nJ;rw[this]
 by_cases hk:k=g.ks.length
 ·rw[if_pos zo]
 rw[if_neg hk]
 by_cases a0:k<g.ks.length
 ·rw[if_pos zo]
 rw[if_neg a0];split<;>rfl
theorem te:∀(xs:List Nd) (i:Nat) (g:Gr),WF g->0<g.ks.length->WF (cB xs i g)/\Sub g (cB xs i g)/\∀k,k<g.ks.length->(cB xs i g).en k=g.en k
 |[],_,g,h,_=>⟨h,Sub.refl g,λ_ _=>rfl⟩
 |x::r,i,g,h,h0=>by
  obtain⟨h1,h2,h3⟩:=lX h h0 x i;obtain⟨h4,h5,h6⟩:=te r (i+1) (nJ x i g) h1 zo;refine⟨h4,h2.trans h5,λk hk=>?_⟩;show(cB r (i+1) (nJ x i g)).en k=_;rw[h6 k zo,sq h h0,if_neg zo,if_pos hk]
theorem qV:WF g00:=by
 refine⟨λk j hk hj=>?_,λk j hk hj=>?_,λj hj=>?_⟩
 ·have:k=0:=by simpa[g00]using hk
  subst this;simp[Gr.fr,g00,ao]at hj
 ·have:k=0:=by simpa[g00]using hk
  subst this;simp[Gr.lv,g00,ao]at hj
 simp[g00]at hj
theorem Cx(xs:List Nd):WF (kq xs)/\0<(kq xs).ks.length:=by
 obtain⟨h1,h2,_⟩:=te xs 0 g00 qV zd;exact⟨h1,M6 zd h2.len⟩
theorem rn:∀(xs:List Nd) (i:Nat) (g:Gr),WF g->0<g.ks.length->cm xs=true->∀k w,k<xs.length->Lg (nth xs k) w->∃q,q<(cB xs i g).ks.length/\Pt (cB xs i g) 0 w q/\(cB xs i g).en q=i+k+1
 |[],_,_,_,_,_,k,w,hk,_=>absurd hk (My _)
 |x::r,i,g,h,h0,hs,k,w,hk,hw=>by
  unfold cm at hs;simp only[LZ]at hs;obtain⟨h1,h2,h3⟩:=lX h h0 x i;obtain⟨h4,h5,h6⟩:=te r (i+1) (nJ x i g) h1 zo;show∃q,q<(cB r (i+1) (nJ x i g)).ks.length/\_
  cases k with
  |zero=>
   rw[ao]at hw;have hl:=eh g i;obtain⟨g1,g2⟩:=eU h h0 i
   have p1:Pt (dK g i) 0 [] (g.ks.length+1):=.eps zo (by
    have e1:=aR g;have e2:=cN g.knot g.ks.length (i+1);have e3:=aR (g.knot.mark g.ks.length (i+1));unfold dK
    rw[dX zo,if_pos rfl];simp) (.nil _)
   have p2:=kX x (g.ks.length+1) g.ks.length (dK g i) g1 zo zo hs.1 w hw;have p3:Pt (nJ x i g) 0 w g.ks.length:=by
    show Pt (fK x (g.ks.length+1) g.ks.length (dK g i)) 0 w g.ks.length;have:=(p1.mono (cK x (g.ks.length+1) g.ks.length (dK g i) g1 zo zo).2).trans p2;simpa using this
   have a0:=h5.len;exact⟨g.ks.length,zo,p3.mono h5,by show(cB r (i+1) (nJ x i g)).en _=_;rw[h6 _ zo,sq h h0,if_pos rfl]⟩
  |succ k=>
   rw[aS]at hw;obtain⟨q,q1,q2,q3⟩:=rn r (i+1) (nJ x i g) h1 zo hs.2 k w (by simpa using hk) hw;exact⟨q,q1,q2,by show(cB r (i+1) (nJ x i g)).en _=_;rw[q3];omega⟩
theorem po(A:Nat->Prop):∀(xs:List Nd) (i:Nat) (g:Gr) (R:Nat->List Int->Prop),WF g->0<g.ks.length->Lbl g R->(∀k,k<g.ks.length->g.en k≠0->A (g.en k-1)->R k [])->(∀k w,k<xs.length->A (i+k)->Lg (nth xs k) w->R 0 w)->
  ∃R',(∀k,k<g.ks.length->R' k=R k)/\Lbl (cB xs i g) R'/\∀k,k<(cB xs i g).ks.length->(cB xs i g).en k≠0->A ((cB xs i g).en k-1)->R' k []
 |[],_,g,R,_,_,hL,hE,_=>⟨R,λ_ _=>rfl,hL,hE⟩
 |x::r,i,g,R,h,h0,hL,hE,hZ=>by
  obtain⟨h1,h2,h3⟩:=lX h h0 x i;obtain⟨g1,g2⟩:=eU h h0 i;have hl:=eh g i;have a0:∀q,q<g.ks.length->nh (nh R g.ks.length (λw=>w=[]/\A i)) (g.ks.length+1) (λw=>A i/\Lg x w) q=R q:=λq hq=>by rw[dJ zo,dJ zo]
  have ho:nh (nh R g.ks.length (λw=>w=[]/\A i)) (g.ks.length+1) (λw=>A i/\Lg x w) g.ks.length=λw=>w=[]/\A i:=by rw[dJ zo,jI]
  have hi:=jI (nh R g.ks.length (λw=>w=[]/\A i)) (g.ks.length+1) (λw=>A i/\Lg x w);have e1:=aR g;have e2:=cN g.knot g.ks.length (i+1);have e3:=aR (g.knot.mark g.ks.length (i+1));have a5:Lbl (dK g i) (nh (nh R g.ks.length (λw=>w=[]/\A i)) (g.ks.length+1) (λw=>A i/\Lg x w)):=by
   refine(((hL.agree h a0).knot.mark zo).knot).free zo λw hw=>?_
   rw[hi]at hw;rw[a0 0 h0];exact hZ 0 w (by simp) hw.1 (by rw[ao];exact hw.2)
  generalize nh (nh R g.ks.length (λw=>w=[]/\A i)) (g.ks.length+1) (λw=>A i/\Lg x w)=R1 at *
  obtain⟨R2,f2,a4⟩:=iy x (g.ks.length+1) g.ks.length (dK g i) R1 g1 zo zo a5 (λu v hu hv=>by
   rw[ho]at hv;rw[hi];obtain⟨rfl,hv⟩:=hv
   exact⟨hv,by rw[Mo];exact hu⟩)
  obtain⟨R3,f3,a3,a6⟩:=po A r (i+1) (nJ x i g) R2 h1 zo a4 (λk hk hn ha=>by
   rw[sq h h0]at hn ha
   by_cases a2:k=g.ks.length
   ·rw[if_pos a2]at ha;rw[a2,f2 _ zo,ho];exact⟨rfl,ha⟩
   ·rw[if_neg a2]at hn ha
    by_cases a1:k<g.ks.length
    ·rw[if_pos a1]at hn ha;rw[f2 _ zo,a0 k a1];exact hE k a1 hn ha
    rw[if_neg a1]at hn;exact absurd rfl hn) (λk w hk ha hw=>by
   rw[f2 _ zo,a0 0 h0]
   exact hZ (k+1) w (by simpa using hk) (by rw[show i+(k+1)=i+1+k from by omega];exact ha) (by rw[aS];exact hw))
  exact⟨R3,λq hq=>by rw[f3 q zo,f2 q zo,a0 q hq],a3,a6⟩
theorem zq{xs:List Nd}(hs:cm xs=true)(i:Nat)(w:List Int):(∃q,q<(kq xs).ks.length/\Pt (kq xs) 0 w q/\(kq xs).en q=i+1)↔i<xs.length/\Lg (nth xs i) w:=by
 constructor
 ·rintro⟨q,hq,hp,he⟩
  obtain⟨R,f,hL,hE⟩:=po (λk=>k=i) xs 0 g00 (λ_ w=>i<xs.length/\Lg (nth xs i) w) qV zd ⟨λk j hk hj=>by
   have:k=0:=by simpa[g00]using hk
   subst this;simp[Gr.fr,g00,ao]at hj,λk j hk hj=>by simp[g00]at hj⟩ (λk hk hn=>by
   have:k=0:=by simpa[g00]using hk
   subst this;exact absurd (by simp[Gr.en,g00,ao]) hn) (λk w hk ha hw=>by
   rw[Mg]at ha;subst ha
   exact⟨hk,hw⟩)
  have h1:=hE q hq (by show(kq xs).en q≠0;omega) (by show(kq xs).en q-1=i;omega);have h2:=hL.path hp [] h1;rw[f 0 zd,Mo]at h2;exact h2
 rintro⟨hi,hw⟩;obtain⟨q,q1,q2,q3⟩:=rn xs 0 g00 qV zd hs i w hi hw;exact⟨q,q1,q2,by show(cB xs 0 g00).en q=_;rw[q3];omega⟩
def ef:List Nat->List Nat->List Nat
 |l,[]=>l
 |l,x::r=>ef (if l.contains x then l else l++[x]) r
def ie(g:Gr):Nat->Nat->List Nat->List Nat
 |0,_,l=>l
 |n+1,i,l=>if i<l.length then ie g n (i+1) (ef l (g.fr (nth l i)))else l
def fx(g:Gr)(k:Nat):List Nat:=ie g g.ks.length 0 [k]
theorem jq:∀(r l:List Nat),∃s,ef l r=l++s
 |[],l=>⟨[],by simp[ef]⟩
 |x::r,l=>by
  unfold ef
  split
  ·exact jq r l
  obtain⟨s,hs⟩:=jq r (l++[x]);exact⟨x::s,by rw[hs];simp⟩
theorem gq:∀(r l:List Nat) (y:Nat),y∈ef l r↔y∈l\/y∈r
 |[],l,y=>by simp[ef]
 |x::r,l,y=>by
  unfold ef;rw[gq r]
  split
  ·rename_i h;have hx:x∈l:=by simpa using h
   constructor
   ·rintro(h1|h1)
    ·exact .inl h1
    exact .inr (by simp[h1])
   rintro(h1|h1)
   ·exact .inl h1
   rcases QJ.1 h1 with rfl|h1
   ·exact .inl hx
   exact .inr h1
  simp[or_assoc]
theorem mV:∀(r l:List Nat),l.Nodup->(ef l r).Nodup
 |[],l,h=>h
 |x::r,l,h=>by
  unfold ef;apply mV r _
  split
  ·exact h
  rename_i hx;have hx:x∉l:=by simpa using hx
  exact Ns.2 ⟨h,by simp,λa ha b hb=>by rw[LU.1 hb];intro e;exact hx (by rw[<-e];exact ha)⟩
theorem gF{l:List Nat}(hn:l.Nodup)(h:∀x∈l,x<n):l.length<=n:=by
 have:=hn.length_le_of_subset (l₂:=MH n) λx hx=>Nr.2 (h x hx)
 simpa using this
structure Rc(g:Gr)(k i:Nat)(l:List Nat):Prop where
 nd:l.Nodup
 lt:∀x∈l,x<g.ks.length
 fst:k∈l
 pt:∀x∈l,Pt g k [] x
 cl:∀j,j<i->j<l.length->∀y∈g.fr (nth l j),y∈l
theorem tu{g:Gr}{k:Nat}(hk:k<g.ks.length):Rc g k 0 [k]:=⟨by simp,by simpa using hk,by simp,λx hx=>by rw[LU.1 hx];exact .nil _,λj hj=>absurd hj (My _)⟩
theorem Rc.step{g:Gr}(hw:WF g){k:Nat}{l:List Nat}(h:Rc g k i l)(hi:i<l.length):Rc g k (i+1) (ef l (g.fr (nth l i))):=by
 have hm:=aW hi;obtain⟨s,hs⟩:=jq (g.fr (nth l i)) l;refine⟨mV _ _ h.nd,λx hx=>?_,(gq _ _ _).2 (.inl h.fst),λx hx=>?_,λj hj a1 y hy=>?_⟩
 ·rcases(gq _ _ _).1 hx with hx|hx
  ·exact h.lt x hx
  exact hw.fr _ _ (h.lt _ hm) hx
 ·rcases(gq _ _ _).1 hx with hx|hx
  ·exact h.pt x hx
  have:=(h.pt _ hm).trans (.eps (h.lt _ hm) hx (.nil x));simpa using this
 have a0:j<l.length:=zo;rw[hs,ay,if_pos a0]at hy;refine(gq _ _ _).2 ?_
 by_cases e:j=i
 ·subst e;exact .inr hy
 exact .inl (h.cl j zo a0 y hy)
theorem Rc.done{g:Gr}{k:Nat}{l:List Nat}(h:Rc g k i l)(hi:l.length<=i)(q:Nat):q∈l↔Pt g k [] q:=by
 refine⟨h.pt q,λp=>?_⟩;have a0:∀ {a:Nat} {w:List Int} {b:Nat},Pt g a w b->w=[]->a∈l->b∈l:=λp=>by
  induction p with
  |nil=>exact λ_ h=>h
  |eps h1 h2 _ ih=>
   intro e ha;obtain⟨j,hj,rfl⟩:=ck ha;exact ih e (h.cl j zo hj _ h2)
  |leaf=>intro e;cases e
 exact a0 p rfl h.fst
theorem oG{g:Gr}(hw:WF g){k:Nat}:∀(n i:Nat) (l:List Nat),Rc g k i l->g.ks.length<=i+n->∀q,q∈ie g n i l↔Pt g k [] q
 |0,i,l,h,hn,q=>h.done (MN (gF h.nd h.lt) zo) q
 |n+1,i,l,h,hn,q=>by
  unfold ie
  split
  ·rename_i hi;exact oG hw n (i+1) _ (h.step hw hi) zo q
  rename_i hi;exact h.done zo q
theorem ib{g:Gr}(hw:WF g){k:Nat}(hk:k<g.ks.length)(q:Nat):q∈fx g k↔Pt g k [] q:=oG hw _ _ _ (tu hk) zo q
def Gr.pl(g:Gr)(p:Nat):Nat:=if p=0 then 0 else(nth g.ls (p-1)).2.2
def de(g:Gr)(p:Nat):List Nat:=(fx g (g.pl p)).flatMap g.lv
def fF(g:Gr)(b k:Nat):Nat:=if g.en k=0 then b else b ||| 2^(g.en k-1)
def jJ(g:Gr)(p:Nat):Nat:=(fx g (g.pl p)).foldl (fF g) 0
theorem pU{g:Gr}(hw:WF g)(h0:0<g.ks.length){p:Nat}(hp:p<=g.ls.length):g.pl p<g.ks.length:=by
 unfold Gr.pl
 split
 ·exact h0
 exact hw.ls _ zo
theorem nK{g:Gr}(hw:WF g)(h0:0<g.ks.length){p:Nat}(hp:p<=g.ls.length)(j:Nat):j∈de g p↔∃k,Pt g (g.pl p) [] k/\j∈g.lv k:=by
 unfold de;rw[Pe]
 constructor
 ·rintro⟨k,hk,hj⟩;exact⟨k,(ib hw (pU hw h0 hp) k).1 hk,hj⟩
 rintro⟨k,hk,hj⟩;exact⟨k,(ib hw (pU hw h0 hp) k).2 hk,hj⟩
theorem tR(g:Gr)(i:Nat):∀(l:List Nat) (b:Nat),(l.foldl (fF g) b).testBit i=(b.testBit i||l.any λk=>decide (g.en k=i+1))
 |[],b=>by simp
 |k::l,b=>by
  rw[NK,tR g i l,QL];unfold fF
  split
  ·rename_i h;rw[decide_eq_false zo,Px]
  rename_i h;rw[QG,Nat.testBit_two_pow,QT];congr 2;exact decide_eq_decide.2 zo
theorem yP{g:Gr}(hw:WF g)(h0:0<g.ks.length){p:Nat}(hp:p<=g.ls.length)(i:Nat):(jJ g p).testBit i=true↔∃k,Pt g (g.pl p) [] k/\g.en k=i+1:=by
 unfold jJ;rw[tR,Qu,Px,ND]
 constructor
 ·rintro⟨k,hk,hj⟩;exact⟨k,(ib hw (pU hw h0 hp) k).1 hk,of_decide_eq_true hj⟩
 rintro⟨k,hk,hj⟩;exact⟨k,(ib hw (pU hw h0 hp) k).2 hk,decide_eq_true hj⟩
theorem DS{g:Gr}{b:Nat}{w:List Int}:Pt g a (w++[m]) b↔∃k j,Pt g a w k/\k<g.ks.length/\j<g.ls.length/\j+1∈g.lv k/\cW (nth g.ls j).1 (nth g.ls j).2.1 m=true/\Pt g (nth g.ls j).2.2 [] b:=by
 constructor
 ·intro p;generalize hx:w++[m]=x at p
  induction p generalizing w with
  |nil=>simp at hx
  |eps h1 h2 _ ih=>
   obtain⟨k,j,q1,q⟩:=ih hx;exact⟨k,j,.eps h1 h2 q1,q⟩
  | @leaf k j q m' w' h1 h2 h3 h4 p ih=>
   cases w with
   |nil=>
    simp only[MV,Mv]at hx;obtain⟨rfl,rfl⟩:=hx;exact⟨k,j,.nil _,h1,h2,h3,h4,p⟩
   |cons c w=>
    simp only[Me,Mv]at hx;obtain⟨rfl,hx⟩:=hx;obtain⟨k',j',q1,q⟩:=ih hx;exact⟨k',j',.leaf h1 h2 h3 h4 q1,q⟩
 rintro⟨k,j,p,h1,h2,h3,h4,q⟩;exact p.trans (.leaf h1 h2 h3 h4 q)
structure Stp(g:Gr)(se:Bool)(step:List Int->Int->List Int):Prop where
 mem:∀(s:List Int) (m x:Int),x∈step s m↔(se=true/\x=0)\/∃p∈s,∃j∈de g p.toNat,x=(j:Int)/\cW (nth g.ls (j-1)).1 (nth g.ls (j-1)).2.1 m=true
def DX(step:List Int->Int->List Int)(w:List Int):List Int:=w.foldl step [0]
theorem B9(step:List Int->Int->List Int)(w:List Int)(m:Int):DX step (w++[m])=step (DX step w) m:=by unfold DX;rw[List.foldl_append];rfl
def inP(g:Gr)(s:List Int):Prop:=∀x∈s,0<=x/\x.toNat<=g.ls.length
theorem xh{g:Gr}(hw:WF g)(h0:0<g.ks.length){step:List Int->Int->List Int}(h:Stp g se step)(hs:inP g s)(m:Int):inP g (step s m):=λx hx=>by
 rcases(h.mem s m x).1 hx with⟨_,rfl⟩|⟨p,hp,j,hj,rfl,_⟩
 ·exact⟨Pk _,MA _⟩
 obtain⟨k,hk,a2⟩:=(nK hw h0 (hs p hp).2 j).1 hj;have a1:=(ib hw (pU hw h0 (hs p hp).2) k).2 hk |> λhm=>by
  have a0:∀ {a:Nat} {w:List Int} {b:Nat},Pt g a w b->a<g.ks.length->b<g.ks.length:=λp=>by
   induction p with
   |nil=>exact λh=>h
   |eps h1 h2 _ ih=>exact λ_=>ih (hw.fr _ _ h1 h2)
   |leaf h1 h2 h3 h4 _ ih=>exact λ_=>ih (hw.ls _ h2)
  exact a0 hk (pU hw h0 (hs p hp).2)
 have:=hw.lv k j a1 a2;exact⟨zo,by simp;omega⟩
theorem GA{g:Gr}(hw:WF g)(h0:0<g.ks.length){step:List Int->Int->List Int}(h:Stp g se step)(w:List Int):inP g (DX step w):=by
 have a0:∀(w s:List Int),inP g s->inP g (w.foldl step s):=λw=>by
  induction w with
  |nil=>exact λs hs=>hs
  |cons m w ih=>exact λs hs=>ih _ (xh hw h0 h hs m)
 exact a0 w [0] λx hx=>by rw[LU.1 hx];exact⟨Pk _,MA _⟩
theorem Pt.lt{g:Gr}(hw:WF g){b:Nat}{w:List Int}(p:Pt g a w b):a<g.ks.length->b<g.ks.length:=by
 induction p with
 |nil=>exact λh=>h
 |eps h1 h2 _ ih=>exact λ_=>ih (hw.fr _ _ h1 h2)
 |leaf h1 h2 h3 h4 _ ih=>exact λ_=>ih (hw.ls _ h2)
def QP(g:Gr)(se:Bool)(w:List Int)(k:Nat):Prop:=∃u v,w=u++v/\(se=true\/u=[])/\Pt g 0 v k
theorem um{g:Gr}(hw:WF g)(h0:0<g.ks.length){se:Bool}{step:List Int->Int->List Int}(h:Stp g se step):∀(n:Nat) (w:List Int),w.length=n->∀k,(∃p∈DX step w,Pt g (g.pl p.toNat) [] k)↔QP g se w k
 |0,w,hn,k=>by
  obtain rfl:=LO hn
  constructor
  ·rintro⟨p,hp,q⟩;rw[show DX step []=[0]from rfl,LU]at hp;subst hp;exact⟨[],[],rfl,.inr rfl,q⟩
  rintro⟨u,v,e,_,q⟩;obtain⟨rfl,rfl⟩:=List.append_eq_nil_iff.1 e.symm;exact⟨0,by rw[show DX step []=[0]from rfl];simp,q⟩
 |n+1,w,hn,k=>by
  obtain⟨w,m,rfl⟩:∃w' m,w=w'++[m]:=⟨w.dropLast,w.getLast (by intro e;rw[e]at hn;simp at hn),(List.dropLast_concat_getLast _).symm⟩
  have ih:=um hw h0 h n w (by simpa using hn);have a3:=GA hw h0 h w;rw[B9]
  constructor
  ·rintro⟨p,hp,q⟩
   rcases(h.mem _ m p).1 hp with⟨a2,rfl⟩|⟨p',a0,j,hj,rfl,ht⟩
   ·exact⟨w++[m],[],by simp,.inl a2,q⟩
   obtain⟨k',a1,a5⟩:=(nK hw h0 (a3 p' a0).2 j).1 hj;have a4:=a1.lt hw (pU hw h0 (a3 p' a0).2);obtain⟨u,v,rfl,hu,hv⟩:=(ih k').1 ⟨p',a0,a1⟩;have a6:=hw.lv k' j a4 a5;refine⟨u,v++[m],by rw[Ml],hu,DS.2 ⟨k',j-1,hv,a4,zo,by rw[show j-1+1=j from by omega];exact a5,ht,?_⟩⟩;have e:g.pl ((j:Int)).toNat=(nth g.ls (j-1)).2.2:=by unfold Gr.pl;rw[if_neg (by simp;omega)];simp
   rw[<-e];exact q
  rintro⟨u,v,e,hu,hv⟩
  rcases List.eq_nil_or_concat v with rfl|⟨v,m',rfl⟩
  ·have a2:se=true:=by
    rcases hu with hu|hu
    ·exact hu
    subst hu;simp at e
   exact⟨0,(h.mem _ m 0).2 (.inl ⟨a2,rfl⟩),hv⟩
  rw[List.concat_eq_append]at e hv;rw[<-Ml]at e;obtain⟨rfl,e2⟩:=List.append_inj' e rfl;obtain rfl:m=m':=by simpa using e2
  obtain⟨k',j,p1,p2,p3,p4,p5,p6⟩:=DS.1 hv;obtain⟨p',a0,a1⟩:=(ih k').2 ⟨u,v,rfl,hu,p1⟩;refine⟨((j+1:Nat):Int),(h.mem _ m _).2 (.inr ⟨p',a0,j+1,(nK hw h0 (a3 p' a0).2 _).2 ⟨k',a1,p4⟩,rfl,by simpa using p5⟩),?_⟩;have e:g.pl (((j+1:Nat):Int)).toNat=(nth g.ls j).2.2:=by unfold Gr.pl;rw[if_neg (by simp)];simp
  rw[e];exact p6
def dH(g:Gr)(s:List Int):Nat:=s.foldl (λb p=>b ||| jJ g p.toNat) 0
theorem BE(g:Gr)(i:Nat)(s:List Int):(dH g s).testBit i=s.any λp=>(jJ g p.toNat).testBit i:=by
 have a0:∀(s:List Int) (b:Nat),(s.foldl (λb p=>b ||| jJ g p.toNat) b).testBit i=(b.testBit i||s.any λp=>(jJ g p.toNat).testBit i):=λs=>by
  induction s with
  |nil=>intro b;simp
  |cons p s ih=>intro b;rw[NK,ih,QG,QL,QT]
 unfold dH;rw[a0,Qu,Px]
theorem An{xs:List Nd}(hs:cm xs=true){step:List Int->Int->List Int}(h:Stp (kq xs) se step)(w:List Int)(i:Nat):
  (dH (kq xs) (DX step w)).testBit i=true↔i<xs.length/\∃u v,w=u++v/\(se=true\/u=[])/\Lg (nth xs i) v:=by
 obtain⟨hw,h0⟩:=Cx xs;have a0:=GA hw h0 h w;have hk:=um hw h0 h w.length w rfl;rw[BE,ND]
 constructor
 ·rintro⟨p,hp,hb⟩;obtain⟨k,a2,a1⟩:=(yP hw h0 (a0 p hp).2 i).1 hb;obtain⟨u,v,rfl,hu,hv⟩:=(hk k).1 ⟨p,hp,a2⟩;have:=(zq hs i v).1 ⟨k,hv.lt hw h0,hv,a1⟩;exact⟨this.1,u,v,rfl,hu,this.2⟩
 rintro⟨hi,u,v,rfl,hu,hv⟩;obtain⟨k,h1,h2,h3⟩:=(zq hs i v).2 ⟨hi,hv⟩;obtain⟨p,hp,hq⟩:=(hk k).2 ⟨u,v,rfl,hu,h2⟩;exact⟨p,hp,(yP hw h0 (a0 p hp).2 i).2 ⟨k,hq,h3⟩⟩
end
end Go.Proofs.YteolbhblkgjbhaaGreatDoor
section
namespace Go.Proofs
open Go.Proofs.Tryz
open Go.Shelf
def nz:Qr:=⟨fun|189=>113|125=>158|257=>157|128=>209|129=>210|294=>200|295=>201|296=>202|297=>203|298=>204|299=>205|216=>206|300=>207|301=>208|328=>246|329=>247|330=>248|331=>249|332=>250|215=>251|343=>263|n=>n,fun|28=>22|3=>3|46=>87|0=>0|51=>67|53=>24|4=>4|183=>305|182=>304|131=>143|5=>5|9=>9|218=>335|222=>338|228=>345|229=>262|n=>n,fun|n=>n⟩
theorem mZ:QX L7 nz:={
 mixed:=by kernel_rfl
 f125:=func158.trans (congrArg some (by kernel_rfl))
 f128:=func209.trans (congrArg some (by kernel_rfl))
 f129:=func210.trans (congrArg some (by kernel_rfl))
 f189:=func113.trans (congrArg some (by kernel_rfl))
 f215:=func251.trans (congrArg some (by kernel_rfl))
 f216:=func206.trans (congrArg some (by kernel_rfl))
 f257:=func157.trans (congrArg some (by kernel_rfl))
 f294:=func200.trans (congrArg some (by kernel_rfl))
 f295:=func201.trans (congrArg some (by kernel_rfl))
 f296:=func202.trans (congrArg some (by kernel_rfl))
 f297:=func203.trans (congrArg some (by kernel_rfl))
 f298:=func204.trans (congrArg some (by kernel_rfl))
 f299:=func205.trans (congrArg some (by kernel_rfl))
 f300:=func207.trans (congrArg some (by kernel_rfl))
 f301:=func208.trans (congrArg some (by kernel_rfl))
 f328:=func246.trans (congrArg some (by kernel_rfl))
 f329:=func247.trans (congrArg some (by kernel_rfl))
 f330:=func248.trans (congrArg some (by kernel_rfl))
 f331:=func249.trans (congrArg some (by kernel_rfl))
 f332:=func250.trans (congrArg some (by kernel_rfl))
 f343:=func263.trans (congrArg some (by kernel_rfl))
 t0:=RB
 a0:=isAgg0
 z0:=sizeOf0
 v0:=RI
 t3:=RA
 a3:=RM
 z3:=Ma
 v3:=RH
 t4:=Rz
 a4:=RJ
 z4:=Nb
 v4:=RG
 t5:=underlying5
 a5:=isAgg5
 z5:=sizeOf5
 v5:=zeroValue5
 t9:=underlying9
 a9:=isAgg9
 z9:=Pl
 v9:=zeroValue9
 t28:=Qh
 a28:=Rp
 z28:=MM
 v28:=Ry
 t46:=underlying87
 a46:=isAgg87
 z46:=sizeOf87
 v46:=zeroValue87
 t51:=underlying67
 a51:=isAgg67
 z51:=sizeOf67
 v51:=zeroValue67
 t53:=underlying24
 a53:=isAgg24
 z53:=PE
 v53:=zeroValue24
 t131:=underlying143
 a131:=isAgg143
 z131:=sizeOf143
 v131:=zeroValue143
 t182:=underlying304
 a182:=isAgg304
 z182:=sizeOf304
 v182:=zeroValue304
 t183:=underlying305
 a183:=isAgg305
 z183:=sizeOf305
 v183:=zeroValue305
 t218:=underlying335
 a218:=isAgg335
 z218:=sizeOf335
 v218:=zeroValue335
 t222:=underlying338
 a222:=isAgg338
 z222:=sizeOf338
 v222:=zeroValue338
 t228:=underlying345
 a228:=isAgg345
 z228:=sizeOf345
 v228:=zeroValue345
 t229:=underlying262
 a229:=isAgg262
 z229:=sizeOf262
 v229:=zeroValue262 }
open Go.Sort Go.RowKit in
theorem Tryz.slices_Sort_int(blk off a1:Nat)(zs:List Int)(w:ln)(hH:Holds (N5 .i64) w blk off zs.toArray)(a0:blk<w.heap.size)(a2:zs.length<4611686018427387904):
 QY L7 113 #[.slice (some ⟨blk,off,none⟩) zs.length a1] w λe w'=>
  e=.returned (.tuple #[])/\∃n os,w'=grow (putRow (N5 .i64) (Q8 w n) blk off (zs.mergeSort λx y=>decide (x<=y)).toArray) os:=Any.slices_Sort_int mZ blk off a1 zs w hH a0 a2
def lK:Qr:=⟨fun|20=>114|n=>n,fun|22=>22|3=>3|4=>4|0=>0|n=>n,fun|n=>n⟩
theorem jG:QQ L7 lK:={
 mixed:=by kernel_rfl
 f20:=func114.trans (congrArg some (by kernel_rfl))
 t0:=RB
 a0:=isAgg0
 z0:=sizeOf0
 v0:=RI
 t3:=RA
 a3:=RM
 z3:=Ma
 v3:=RH
 t4:=Rz
 a4:=RJ
 z4:=Nb
 v4:=RG
 t22:=Qh
 a22:=Rp
 z22:=MM
 v22:=Ry
 i3:=by kernel_rfl }
open Go.RowKit Go.Lib Go.Sort in
theorem Tryz.slices_Compact_int(blk off a0:Nat)(zs:List Int)(w:ln)(hH:Holds (N5 .i64) w blk off zs.toArray)(a2:zs.length<=9223372036854775807)(a1:zs.length<=a0):
 QY L7 114 #[.slice (some ⟨blk,off,none⟩) zs.length a0] w λe w'=>e=.returned (.slice (some ⟨blk,off,none⟩) (MI zs).length a0)/\∃q,w'=putRow (N5 .i64) (Q8 w q) blk off (MI zs++Mi (zs.length-(MI zs).length) 0).toArray:=Any.slices_Compact_int jG blk off a0 zs w hH a2 a1
open Go.RowKit Go.Lib Go.Sort in
theorem Tryz.slices_Compact_int_empty(a:Option Mx)(a0:Nat)(w:ln):
 QY L7 114 #[.slice a 0 a0] w λe w'=>e=.returned (.slice a 0 a0)/\w'=w:=Any.slices_Compact_int_empty jG a a0 w
open Go.RowKit Go.Sort in
theorem Tryz.slices_Sort_int_none(p:Option Mx)(a0:Nat)(w:ln):
 QY L7 113 #[.slice p 0 a0] w λe w'=>e=.returned (.tuple #[])/\w'=w:=Any.slices_Sort_int_none mZ p a0 w
end Go.Proofs
end
namespace Go.Proofs.YteolbhblkgjbhaaGreatDoor
open Go.Proofs.Tryz
section
open Go.VL Go.Proofs
set_option maxRecDepth 10000
abbrev encI(c:Int):List ix:=[nI c]
abbrev bm(n:Nat):List ix:=[nI (n:Int)]
theorem I4{l:List Nat}(h:Sl bm 1 w v l):Sl encI 1 w v (l.map fun(n:Nat)=>(n:Int)):=
 ⟨by simpa using h.shape,λi hi j u hu=>h.cells i (by simpa using hi) j u (by simpa using hu)⟩
theorem AU(l:List Int)(c:Int)(sv:ix)(w:ln)(h:Sl encI 1 w sv l):Ret L7 266 [sv,nI c] w λv w'=>v=nI (ed (λi=>c==nth l i) l.length)/\w'=w:=by
 have hl:=h.len_le;apply Ret.enter func266 ntmps266 rfl rfl;refine zh ?_;apply zlp (λx:Nat=>[(0,sv),(1,nI c),(7,nI l.length),(8,nI x)]) (λx=>w) (λx=>x<=l.length/\∀i,i<x->(c==nth l i)=false) (λx=>l.length-x) 0 ⟨MA _,λi hi=>absurd hi (My i)⟩;rintro k ⟨hk,a1⟩;refine zh ?_;refine zC ?_ ?_
 ·intro a0;replace a0:k<l.length:=dT a0;have m1:=h.ld a0;refine zh ?_;refine zC ?_ ?_
  ·intro hy;refine zh ?_;refine af rfl rfl ⟨by rw[cR (q:=λi=>c==nth l i) a0 hy a1],rfl⟩
  intro hy;refine zh ?_;refine zxd (k+1) ⟨a0,λi hi=>(Nat.lt_succ_iff_lt_or_eq.1 hi).elim (a1 i) (λe=>by rw[e];exact hy)⟩
 intro a2;replace a2:l.length<=k:=dF a2;refine zh ?_;refine af rfl rfl ⟨by rw[cQ (q:=λi=>c==nth l i) λi hi=>a1 i zo],rfl⟩
theorem sX(l:List Int)(c:Int)(sv:ix)(w:ln)(h:Sl encI 1 w sv l):Ret L7 255 [sv,nI c] w λv w'=>v=.bool (decide (c∈l))/\w'=w:=by
 have he:jj (λi=>c==nth l i) l.length=decide (c∈l):=by
  rw[iI (p:=λx=>c==x),Qy];simp[ND]
 apply Ret.enter func255 ntmps255 rfl rfl;refine zh ?_
 apply zc call266 (AU l c sv w h);rintro v w9 ⟨rfl,a0⟩;rw[a0];clear a0 w9;refine zh ?_
 refine af rfl rfl ⟨congrArg PZ (firstN_any.trans he),rfl⟩
theorem sW(l:List Nat)(c:Nat)(sv:ix)(w:ln)(h:Sl bm 1 w sv l):Ret L7 255 [sv,nI (c:Nat)] w λv w'=>v=.bool (l.contains c)/\w'=w:=by
 refine(sX _ c sv w (I4 h)).mono λv w' ⟨h1,h2⟩=>⟨?_,h2⟩
 rw[h1];congr 1;rw[Qy];simp only[decide_eq_true_eq,Mz,List.contains_iff_mem]
 constructor
 ·rintro⟨a,ha,e⟩;have e:a=c:=zo;rw[<-e];exact ha
 exact λhc=>⟨c,hc,rfl⟩
end
section
open Go.VL Go.Proofs Go.Sort
set_option maxRecDepth 10000
def gY(l:List Int):List Int:=l.mergeSort λx y=>decide (x<=y)
theorem ez(l:List Int):(gY l).length=l.length:=List.length_mergeSort ..
theorem lg(l:List Int):(l.flatMap encI)=l.map (N5 .i64):=by induction l<;>simp_all[encI]
theorem BA{g:Nat}{os:Array Obj}(d:Array Int)(hi:i≠0)(ho:O g=i):Upd (λk=>k=i) O w O (grow (putRow (N5 .i64) (Q8 w n) g 0 d) os):=by
 obtain⟨h1,h2,h3,h4,h5⟩:=grownBy_sortedI (w:=w) (g:=g) (n:=n) (os:=os) d;exact⟨h1,h2,h3,h4,λk hk hn=>h5 k hk (λe=>hn (by rw[<-ho];congr 1;exact R9 e)),λ_ _=>rfl,λ_ h=>.inl h,λe=>hi e.symm⟩
theorem kB{l:List Int}(hR:Rng B O w)(hr:RowT encI 3 1 O w i v l)(hi:i≠0)(hl:l.length<=1000000):Ret L7 113 [v] w λ_ w'=>RowT encI 3 1 O w' i v (gY l)/\Upd (λk=>k=i) O w O w'/\Rng B O w':=by
 rcases hr.1.row.2 with⟨rfl,h0⟩|⟨g,a6,a8,rfl,a7,hg,a2,a5,a4,ht⟩
 ·obtain rfl:l=[]:=LO h0;refine Mn (Tryz.slices_Sort_int_none none 0 w) λe w' ⟨he,hw⟩=>?_
  subst he;subst hw;exact⟨by rw[LO (ez [])];exact hr,Upd.refl (λe=>hi e.symm) _ _,hR⟩
 have a0:=hr.1.tag g rfl;rw[lg]at ht;have hH:=holds_of_blockI (ss:=l) hg (by simpa using ht);have a3:=bL hg;refine Mn (Tryz.slices_Sort_int g 0 a6 l w hH a3 zo) λe w' ⟨he,n,os,hw⟩=>?_
 subst he;subst hw;have hU:=BA (w:=w) (n:=n) (os:=os) (gY l).toArray hi a0;refine⟨⟨⟨?_,λg' a1=>by simp[Nn]at a1;subst a1;exact a0⟩,λ_ _=>rfl⟩,hU,hR.upd hU⟩;have:=ownsRow_sortedI (w:=w) (n:=n) (os:=os) (base:=0) (ss:=l) (ts:=gY l) (ez l) (MA _) hg a2 a5 a4;rw[lg,ez];exact this
theorem A3(l:List Int):(MI l).length<=l.length:=by
 unfold MI Ni;rw[NJ];exact MN (PM _ _) (by simp)
theorem fh{l:List Int}(hR:Rng B O w)(hr:RowT encI 3 1 O w i v l)(hi:i≠0)(hl:l.length<=1000000):Ret L7 114 [v] w λu w'=>RowT encI 3 1 O w' i u (MI l)/\Upd (λk=>k=i) O w O w'/\Rng B O w':=by
 rcases hr.1.row.2 with⟨rfl,h0⟩|⟨g,a4,a7,rfl,b0,hg,a5,a6,a',ht⟩
 ·obtain rfl:l=[]:=LO h0;refine Mn (Tryz.slices_Compact_int_empty none 0 w) λe w' ⟨he,hw⟩=>?_
  subst he;subst hw;exact⟨hr,Upd.refl (λe=>hi e.symm) _ _,hR⟩
 have a0:=hr.1.tag g rfl;rw[lg]at ht;have hH:=holds_of_blockI (ss:=l) hg (by simpa using ht);have a9:=A3 l;refine Mn (Tryz.slices_Compact_int g 0 a4 l w hH zo a5) λe w' ⟨he,n,hw⟩=>?_
 subst he;obtain⟨ts,a1⟩:∃ts,ts=MI l++Mi (l.length-(MI l).length) 0:=⟨_,rfl⟩
 rw[<-a1]at hw;have a8:ts.length=l.length:=by rw[a1];simp;omega
 have hU:=BA (w:=w) (n:=n) (os:=#[]) ts.toArray hi a0;have a2:=heap_sortedI (n:=n) (os:=#[]) ts.toArray hg;rw[grow_empty,<-hw]at hU a2;refine⟨⟨⟨⟨by rw[lg];simp,.inr ⟨g,a4,_,rfl,MA _,a2,zo,a6,by simp[putCells];omega,?_⟩⟩,λg' a3=>by simp[Nn]at a3;subst a3;exact a0⟩,λ_ _=>rfl⟩,hU,hR.upd hU⟩;have h1:=take_putCellsI a7 ts zo;have h2:=congrArg (NC (MI l).length) h1;rw[Pp,NM zo]at h2;rw[lg,Nx,h2,a1,MW,Pf (by simp),PA (by simp)]
end
section
open Go.VL Go.Proofs
set_option maxRecDepth 10000
def rk(l:List Int):List Int:=MI (gY l)
structure Cmp(d:Array Int)(m:Nat)(r:List Int):Prop where
 mem:∀x,x∈r↔∃j,j<m/\d[j]! = x
 pw:r.Pairwise (· < ·)
theorem zV(d:Array Int)(hs:∀i j,i<=j->j<d.size->d[i]!<=d[j]!):∀m,m<=d.size->Cmp d m (Ni d m)
 |0,_=>⟨λx=>by simp[Ni],by simp[Ni]⟩
 |m+1,hm=>by
  have ih:=zV d hs m zo;rw[Lib.compactUpTo_succ]
  by_cases hk:Qw d m=true
  ·rw[if_pos hk];refine⟨λx=>?_,?_⟩
   ·rw[Mb,ih.mem,LU]
    constructor
    ·rintro(⟨j,hj,e⟩|e)
     ·exact⟨j,zo,e⟩
     exact⟨m,zo,e.symm⟩
    rintro⟨j,hj,e⟩
    by_cases a0:j=m
    ·subst a0;exact .inr e.symm
    exact .inl ⟨j,zo,e⟩
   refine List.pairwise_append.2 ⟨ih.pw,by simp,λa ha b hb=>?_⟩;rw[LU]at hb;subst hb;obtain⟨j,hj,rfl⟩:=(ih.mem a).1 ha;simp only[Qw,decide_eq_true_eq]at hk;have h1:=hs j (m-1) zo zo;have h2:=hs (m-1) m zo zo
   rcases hk with hk|hk
   ·omega
   omega
  rw[if_neg hk,Mo];refine⟨λx=>?_,ih.pw⟩;rw[ih.mem]
  constructor
  ·rintro⟨j,hj,e⟩;exact⟨j,zo,e⟩
  rintro⟨j,hj,e⟩
  by_cases a0:j=m
  ·subst a0;simp only[Qw,decide_eq_true_eq,not_or]at hk;obtain⟨h1,h2⟩:=hk;exact⟨j-1,zo,by rw[<-e];exact(LV λa1=>h2 λe2=>a1 e2.symm)⟩
  exact⟨j,zo,e⟩
theorem tX(l:List Int):(gY l).Pairwise (·<=·):=by
 have:=List.pairwise_mergeSort (le:=λx y:Int=>decide (x<=y)) (λa b c h1 h2=>by simp at h1 h2 ⊢;omega) (λa b=>by simp;omega) l;exact this.imp λh=>by simpa using h
theorem BV(l:List Int)(x:Int):x∈gY l↔x∈l:=List.mem_mergeSort ..
theorem vC(l:List Int):(∀x,x∈rk l↔x∈l)/\(rk l).Pairwise (· < ·):=by
 have hp:=tX l;have a0:∀j,j<(gY l).length->(gY l).toArray[j]! = nth (gY l) j:=λj hj=>by
  rw[aB hj,getElem!_pos _ j (by simpa using hj)];simp
 have h:=zV (gY l).toArray (λi j a1 hj=>by
  have hj:j<(gY l).length:=by simpa using hj
  rw[a0 i zo,a0 j hj]
  by_cases e:i=j
  ·subst e;exact Pk _
  have:=Pq.1 hp i j zo hj zo
  rw[aB zo,aB hj];exact this) (gY l).length (by simp)
 refine⟨λx=>?_,h.pw⟩;show x∈Ni _ _↔_;rw[h.mem,<-BV l x]
 constructor
 ·rintro⟨j,hj,rfl⟩;rw[a0 j hj];exact aW hj
 intro hx;obtain⟨j,hj,rfl⟩:=ck hx;exact⟨j,hj,a0 j hj⟩
theorem vB(l:List Int)(x:Int):x∈rk l↔x∈l:=(vC l).1 x
theorem zW(l:List Int):(rk l).Pairwise (· < ·):=(vC l).2
theorem Fv{a:List Int}(h:a.Pairwise (· < ·))(hb:∀x∈a,0<=x/\x.toNat<n):a.length<=n:=by
 have hn:(a.map Int.toNat).Nodup:=by
  refine List.pairwise_map.2 (h.imp_of_mem fun {x y} hx hy a0=>?_);have:=hb x hx;have:=hb y hy;omega
 have:=gF hn (n:=n) λx hx=>by
  obtain⟨y,hy,rfl⟩:=Mz.1 hx;exact(hb y hy).2
 simpa using this
mutual
def dA:Nd->Nat
 |.mk k _ l=>if l.isEmpty=true/\k≠9 then 1 else bu l
def bu:List Nd->Nat
 |[]=>0
 |t::r=>dA t+bu r
end
mutual
/-- Parts stand where parts may stand. -/
def AS:Nd->Bool
 |.mk k _ l=>(if k=4\/k=5\/k=6\/k=7\/k=8 then !l.isEmpty else l.isEmpty)&&jW l
def jW:List Nd->Bool
 |[]=>true
 |t::r=>AS t&&jW r
end
mutual
theorem gh:∀(t:Nd) (a b:Nat) (g:Gr),AS t=true->fV t=true->(fK t a b g).ls.length=g.ls.length+dA t
 |.mk k c l,a,b,g,hk,hs=>by
  unfold AS at hk
  unfold fV at hs
  simp only[LZ]at hk hs
  obtain⟨hk1,hk2⟩:=hk
  obtain⟨hs1,hs2⟩:=hs
  unfold fK dA
  by_cases h4:k=4
  ·rw[if_pos zo]at hk1
   rw[if_pos h4,oR l a b g hk2 hs2,if_neg (by rintro⟨e,_⟩;rw[e]at hk1;simp at hk1)]
  rw[if_neg h4]
  by_cases h5:k=5
  ·rw[if_pos zo]at hk1
   rw[if_pos h5,oS l a b g hk2 hs2,if_neg (by rintro⟨e,_⟩;rw[e]at hk1;simp at hk1)]
  rw[if_neg h5]
  by_cases h678:k=6\/k=7\/k=8
  ·rw[if_pos zo]at hk1
   rw[if_neg h4,if_pos h678]at hs1
   have hO:∀(k:Int) (g:Gr) (i:Nat),(layO k g i).ls=g.ls:=λk g i=>by unfold layO;split<;>split<;>rfl
   rw[if_pos h678,hO,xY l _ _ _ hk2 hs2 (of_decide_eq_true hs1),if_neg (by rintro⟨e,_⟩;rw[e]at hk1;simp at hk1)]
   rfl
  rw[if_neg h678]
  rw[if_neg zo]at hk1
  have hl:l=[]:=by simpa using hk1
  subst hl
  by_cases h9:k=9
  ·rw[if_pos h9,if_neg (by rintro⟨_,e⟩;exact e h9)]
   rfl
  rw[if_neg h9,if_pos ⟨rfl,h9⟩]
  simp[Gr.leaf]
theorem oR:∀(l:List Nd) (a b:Nat) (g:Gr),jW l=true->cm l=true->(nN l a b g).ls.length=g.ls.length+bu l
 |[],_,_,g,_,_=>by simp[nN,bu]
 |t::r,a,b,g,hk,hs=>by
  unfold jW at hk
  unfold cm at hs
  simp only[LZ]at hk hs
  unfold nN bu
  split
  ·rename_i hr
   have hr:r=[]:=by simpa using hr
   subst hr
   rw[gh t a b g hk.1 hs.1];simp[bu]
  rw[oR r _ _ _ hk.2 hs.2,gh t _ _ _ hk.1 hs.1]
  show g.ls.length+_+_=_
  omega
theorem oS:∀(l:List Nd) (a b:Nat) (g:Gr),jW l=true->cm l=true->(nQ l a b g).ls.length=g.ls.length+bu l
 |[],_,_,g,_,_=>by simp[nQ,bu]
 |t::r,a,b,g,hk,hs=>by
  unfold jW at hk
  unfold cm at hs
  simp only[LZ]at hk hs
  unfold nQ bu
  rw[oS r _ _ _ hk.2 hs.2,gh t _ _ _ hk.1 hs.1]
  omega
theorem xY:∀(l:List Nd) (a b:Nat) (g:Gr),jW l=true->cm l=true->l.length=1->(nO l a b g).ls.length=g.ls.length+bu l
 |[],_,_,g,_,_,h=>by simp at h
 |t::r,a,b,g,hk,hs,h=>by
  have hr:r=[]:=by simpa using h
  subst hr
  unfold jW at hk
  unfold cm at hs
  simp only[LZ]at hk hs
  unfold nO
  rw[gh t _ _ _ hk.1 hs.1];simp[bu]
end
theorem mT:∀(xs:List Nd) (i:Nat) (g:Gr),jW xs=true->cm xs=true->(cB xs i g).ls.length=g.ls.length+bu xs
 |[],_,g,_,_=>by simp[cB,bu]
 |x::r,i,g,hk,hs=>by
  unfold jW at hk;unfold cm at hs;simp only[LZ]at hk hs;unfold cB bu;rw[mT r _ _ hk.2 hs.2,nJ,gh x _ _ _ hk.1 hs.1];show g.ls.length+_+_=_;omega
def xd(g:Gr):Nat:=(g.ks.map λk=>k.2.1.length).sum
theorem rP(f:Kt->Nat):∀(l:List Kt) (a:Nat) (x:Kt),a<l.length->((l.set a x).map f).sum+f (nth l a)=(l.map f).sum+f x
 |[],a,_,h=>absurd h (My a)
 |y::l,0,x,_=>by rw[ao];simp;omega
 |y::l,a+1,x,h=>by
  have:=rP f l a x (by simpa using h);rw[aS];simp only[Qb,L9,Pu];omega
theorem F6(g:Gr):xd g.knot=xd g:=by simp[xd,Gr.knot]
theorem F9{g:Gr}{b:Nat}(ha:a<g.ks.length):xd (g.free a b)=xd g:=by
 have:=rP (λk=>k.2.1.length) g.ks a (g.fr a++[b],g.lv a,g.en a) ha;unfold xd Gr.free;simp only[Gr.lv]at this ⊢;omega
theorem FO{g:Gr}{b:Nat}(ha:a<g.ks.length):xd (g.mark a b)=xd g:=by
 have:=rP (λk=>k.2.1.length) g.ks a (g.fr a,g.lv a,b) ha;unfold xd Gr.mark;simp only[Gr.lv]at this ⊢;omega
theorem FX{g:Gr}{x c:Int}{b:Nat}(ha:a<g.ks.length):xd (g.leaf x c a b)=xd g+1:=by
 have:=rP (λk=>k.2.1.length) g.ks a (g.fr a,g.lv a++[g.ls.length+1],g.en a) ha;unfold xd Gr.leaf;simp only[Gr.lv,Ms,MU,Nh]at this ⊢;omega
def Tot(g:Gr):Prop:=xd g=g.ls.length
theorem Tot.knot{g:Gr}(h:Tot g):Tot g.knot:=(F6 g).trans h
theorem Tot.free{g:Gr}(h:Tot g){a b:Nat}(ha:a<g.ks.length):Tot (g.free a b):=(F9 ha).trans h
theorem Tot.mark{g:Gr}(h:Tot g){a b:Nat}(ha:a<g.ks.length):Tot (g.mark a b):=(FO ha).trans h
theorem Tot.leaf{g:Gr}(h:Tot g){x c:Int}{a b:Nat}(ha:a<g.ks.length):Tot (g.leaf x c a b):=by
 unfold Tot;rw[FX ha,jV];simp;exact h
theorem Tot.layO{g:Gr}(h:Tot g){k:Int}{i:Nat}(hi:i+1<g.ks.length):Tot (layO k g i):=by
 unfold Go.Proofs.YteolbhblkgjbhaaGreatDoor.layO;split<;>split
 ·exact h
 ·exact h.free zo
 ·exact h.free hi
 exact(h.free zo).free (by rw[bf];exact hi)
mutual
theorem kY:∀(t:Nd) (a b:Nat) (g:Gr),WF g->a<g.ks.length->b<g.ks.length->Tot g->Tot (fK t a b g)
 |.mk k c l,a,b,g,h,ha,hb,hM=>by
  unfold fK
  split
  ·exact zF l a b g h ha hb hM
  split
  ·exact zI l a b g h ha hb hM
  split
  ·have hl:=eo g a b
   have hwf:=eY h ha hb
   obtain⟨h1,h2⟩:=mq l g.ks.length (g.ks.length+1) (bR g a b) hwf zo zo
   have:=h2.len
   have hk2:g.knot.knot.ks.length=g.ks.length+2:=by rw[aR,aR]
   have h3:=F4 l g.ks.length (g.ks.length+1) (bR g a b) hwf zo zo ((hM.knot.knot.free zo).free (by rw[bf];omega))
   exact h3.layO (by show _<(nO l g.ks.length (g.ks.length+1) (bR g a b)).ks.length;omega)
  split
  ·exact hM.free ha
  exact hM.leaf ha
theorem zF:∀(l:List Nd) (a b:Nat) (g:Gr),WF g->a<g.ks.length->b<g.ks.length->Tot g->Tot (nN l a b g)
 |[],_,_,g,_,_,_,hM=>hM
 |t::r,a,b,g,h,ha,hb,hM=>by
  unfold nN
  split
  ·exact kY t a b g h ha hb hM
  have hl:=aR g
  obtain⟨h1,h2⟩:=cK t a g.ks.length g.knot h.knot zo zo
  have:=h2.len
  exact zF r _ _ _ h1 zo zo (kY t _ _ _ h.knot zo zo hM.knot)
theorem zI:∀(l:List Nd) (a b:Nat) (g:Gr),WF g->a<g.ks.length->b<g.ks.length->Tot g->Tot (nQ l a b g)
 |[],_,_,g,_,_,_,hM=>hM
 |t::r,a,b,g,h,ha,hb,hM=>by
  unfold nQ
  obtain⟨h1,h2⟩:=cK t a b g h ha hb
  have:=h2.len
  exact zI r _ _ _ h1 zo zo (kY t a b g h ha hb hM)
theorem F4:∀(l:List Nd) (a b:Nat) (g:Gr),WF g->a<g.ks.length->b<g.ks.length->Tot g->Tot (nO l a b g)
 |[],_,_,g,_,_,_,hM=>hM
 |t::_,a,b,g,h,ha,hb,hM=>by
  unfold nO
  exact kY t a b g h ha hb hM
end
theorem FF{g:Gr}(h:WF g)(h0:0<g.ks.length)(x:Nd)(i:Nat)(ht:Tot g):Tot (nJ x i g):=by
 have e1:=aR g;have e2:=cN g.knot g.ks.length (i+1);have e3:=aR (g.knot.mark g.ks.length (i+1));have hl:=eh g i;exact kY x _ _ _ (eU h h0 i).1 zo zo (((ht.knot.mark zo).knot).free zo)
theorem vD:∀(xs:List Nd) (i:Nat) (g:Gr),WF g->0<g.ks.length->Tot g->Tot (cB xs i g)
 |[],_,_,_,_,ht=>ht
 |x::r,i,g,h,h0,ht=>by
  obtain⟨h1,h2,h3⟩:=lX h h0 x i;exact vD r (i+1) _ h1 zo (FF h h0 x i ht)
theorem rQ(f:Kt->Nat)(l:List Kt):(l.map f).sum=((MH l.length).map λi=>f (nth l i)).sum:=by
 congr 1;apply List.ext_getElem
 ·simp
 intro i h1 h2;simp only[Qp,List.getElem_range];rw[aB (by simpa using h1)]
theorem BS(f:Nat->Nat)(n:Nat):∀(l:List Nat),l.Nodup->(l.map f).sum<=((l.filter λx=>x != n).map f).sum+f n
 |[],_=>by simp
 |a::l,h=>by
  have h':=Qv.1 h
  by_cases e:a=n
  ·subst e;have hf:(l.filter λx=>x != a)=l:=NY.2 λx hx=>by
    simp only[bne_iff_ne,ne_eq];intro e;exact h'.1 (by rw[<-e];exact hx)
   rw[Py (by simp),hf];simp;omega
  have:=BS f n l h'.2;rw[List.filter_cons_of_pos (by simpa using e)];simp only[L9,Pu];omega
theorem tU(f:Nat->Nat):∀(n:Nat) (l:List Nat),l.Nodup->(∀x∈l,x<n)->(l.map f).sum<=((MH n).map f).sum
 |0,l,_,h=>by
  have:l=[]:=by cases l with
   |nil=>rfl
   |cons a r=>exact absurd (h a (by simp)) (My _)
  subst this;simp
 |n+1,l,hn,h=>by
  have h1:=BS f n l hn;have h2:=tU f n (l.filter λx=>x != n) (hn.filter _) λx hx=>by
   have hx:=NI.1 hx;have:=h x hx.1;have:x≠n:=by simpa using hx.2
   omega
  rw[List.range_succ,MW,List.sum_append];simp only[L9,M5,Pu,List.sum_nil];omega
theorem xw{g:Gr}(hw:WF g){k:Nat}(hk:k<g.ks.length):(fx g k).Nodup/\∀x∈fx g k,x<g.ks.length:=by
 have a0:∀(n i:Nat) (l:List Nat),Rc g k i l->(ie g n i l).Nodup/\∀x∈ie g n i l,x<g.ks.length:=λn=>by
  induction n with
  |zero=>exact λi l h=>⟨h.nd,h.lt⟩
  |succ n ih=>
   intro i l h;unfold ie
   split
   ·rename_i hi;exact ih _ _ (h.step hw hi)
   exact⟨h.nd,h.lt⟩
 exact a0 _ _ _ (tu hk)
theorem vq(f:Nat->List Nat):∀(l:List Nat),(l.flatMap f).length=(l.map λk=>(f k).length).sum
 |[]=>rfl
 |a::l=>by simp
theorem zu{g:Gr}(hw:WF g)(ht:Tot g){p:Nat}(hp:g.pl p<g.ks.length):(de g p).length<=g.ls.length:=by
 obtain⟨h1,h2⟩:=xw hw hp;unfold de;rw[vq];have:=tU (λk=>(g.lv k).length) g.ks.length _ h1 h2;have e:((MH g.ks.length).map λk=>(g.lv k).length).sum=xd g:=(rQ (λk=>k.2.1.length) g.ks).symm;rw[e,ht]at this;exact this
def JL(se:Bool)(g:Gr)(s:List Int)(m:Int):List Int:=
 (if se=true then [0]else [])++s.flatMap λp=>((de g p.toNat).filter λj=>cW (nth g.ls (j-1)).1 (nth g.ls (j-1)).2.1 m).map fun(j:Nat)=>(j:Int)
def da(se:Bool)(g:Gr)(s:List Int)(m:Int):List Int:=rk (JL se g s m)
theorem oe(se:Bool)(g:Gr):Stp g se (da se g):=⟨λs m x=>by
 unfold da JL;rw[vB,Mb,Pe]
 constructor
 ·rintro(h|⟨p,hp,h⟩)
  ·cases se with
   |true=>rw[if_pos rfl]at h;exact .inl ⟨rfl,LU.1 h⟩
   |false=>rw[if_neg zd]at h;simp at h
  obtain⟨j,hj,rfl⟩:=Mz.1 h;obtain⟨h1,h2⟩:=NI.1 hj;exact .inr ⟨p,hp,j,h1,rfl,h2⟩
 rintro(⟨h,rfl⟩|⟨p,hp,j,h1,rfl,h2⟩)
 ·rw[if_pos h];exact .inl (by simp)
 exact .inr ⟨p,hp,Mz.2 ⟨j,NI.2 ⟨h1,h2⟩,rfl⟩⟩⟩
theorem Ff{g:Gr}(hw:WF g)(h0:0<g.ks.length)(hs:inP g s)(m:Int):(da se g s m).length<=g.ls.length+1:=
 Fv (zW _) λx hx=>by have:=xh hw h0 (oe se g) hs m x hx;exact⟨this.1,zo⟩
theorem Ip{g:Gr}(hw:WF g)(h0:0<g.ks.length)(ht:Tot g):∀ {s:List Int},inP g s->(JL se g s m).length<=1+s.length*g.ls.length:=fun {s} hs=>by
 have a0:∀(s:List Int),inP g s->(s.flatMap λp=>((de g p.toNat).filter λj=>cW (nth g.ls (j-1)).1 (nth g.ls (j-1)).2.1 m).map fun(j:Nat)=>(j:Int)).length<=s.length*g.ls.length:=λs=>by
  induction s with
  |nil=>intro _;simp
  |cons p s ih=>
   intro h;have h1:=ih λx hx=>h x (by simp[hx])
   have h2:=zu hw ht (pU hw h0 (h p (by simp)).2);have h3:=PM (λj=>cW (nth g.ls (j-1)).1 (nth g.ls (j-1)).2.1 m) (de g p.toNat);simp only[Mk,Ms,NJ,MU,MY,R7];omega
 have:=a0 s hs;unfold JL;rw[Ms]
 split
 ·rw[List.length_singleton];omega
 rw[Nh];omega
end
section
open Go.VL Go.Proofs
set_option maxRecDepth 10000
def D1(S:List (List Int))(s:List Int):Option Nat:=S.findIdx? (· == s)
def DZ(S:List (List Int))(s:List Int):Nat:=(D1 S s).getD S.length
def sy(S:List (List Int))(s:List Int):List (List Int):=if(D1 S s).isSome=true then S else S++[s]
theorem CX{S:List (List Int)}{k:Nat}(h:D1 S s=some k):k<S.length/\nth S k=s:=by
 obtain⟨h1,h2,_⟩:=P6.1 h;exact⟨h1,by rw[aB h1];simpa using h2⟩
theorem zm(S:List (List Int))(s:List Int):∃r,sy S s=S++r:=by
 unfold sy
 split
 ·exact⟨[],by simp⟩
 exact⟨_,rfl⟩
theorem ID(S:List (List Int))(s:List Int):DZ S s<(sy S s).length/\nth (sy S s) (DZ S s)=s:=by
 unfold DZ sy
 cases h:D1 S s with
 |some k=>exact CX h
 |none=>
  simp only[Option.getD_none,Option.isSome_none,P5,if_false];exact⟨by simp,by rw[ay,if_neg zo,PI,ao]⟩
theorem FH(S:List (List Int))(s:List Int):S.length<=(sy S s).length/\(sy S s).length<=S.length+1:=by
 unfold sy
 split
 ·omega
 simp
theorem FG{S:List (List Int)}{k:Nat}(h:k<S.length):nth (sy S s) k=nth S k:=by
 obtain⟨r,hr⟩:=zm S s;rw[hr,ay,if_pos h]
def dP(step:List Int->Int->List Int)(s:List Int)(S:List (List Int)):Nat->List (List Int)×List Nat
 |0=>(S,[])
 |m+1=>(sy (dP step s S m).1 (step s (m:Nat)),(dP step s S m).2++[DZ (dP step s S m).1 (step s (m:Nat))])
structure RowI(step:List Int->Int->List Int)(s:List Int)(S S':List (List Int))(r:List Nat)(m:Nat):Prop where
 pre:∃q,S'=S++q
 top:S'.length<=S.length+m
 len:r.length=m
 lt:∀j,j<m->nth r j<S'.length/\nth S' (nth r j)=step s (j:Nat)
 mem:∀x∈S',x∈S\/∃j:Nat,j<m/\x=step s (j:Nat)
theorem kO(step:List Int->Int->List Int)(s:List Int)(S:List (List Int)):∀m,RowI step s S (dP step s S m).1 (dP step s S m).2 m
 |0=>⟨⟨[],by simp[dP]⟩,by simp[dP],rfl,λj hj=>absurd hj (My j),λx hx=>.inl hx⟩
 |m+1=>by
  have ih:=kO step s S m;unfold dP;generalize dP step s S m=R at *;obtain⟨S1,r⟩:=R;dsimp only at ih ⊢;obtain⟨q,hq⟩:=ih.pre;obtain⟨q2,a4⟩:=zm S1 (step s (m:Nat));have a5:=ID S1 (step s (m:Nat));have hl:=FH S1 (step s (m:Nat));have a0:=ih.top;have a3:=ih.len;refine⟨⟨q++q2,by rw[a4,hq,Ml]⟩,zo,by simp[a3],λj hj=>?_,λx hx=>?_⟩
  ·rw[ay]
   by_cases e:j<r.length
   ·rw[if_pos e];obtain⟨a1,a2⟩:=ih.lt j zo;exact⟨zo,by rw[FG a1];exact a2⟩
   rw[if_neg e,show j-r.length=0 from by omega,ao];obtain rfl:j=m:=zo;exact a5
  unfold sy at hx
  split at hx
  ·rcases ih.mem x hx with h|⟨j,hj,e⟩
   ·exact .inl h
   exact .inr ⟨j,zo,e⟩
  rcases Mb.1 hx with hx|hx
  ·rcases ih.mem x hx with h|⟨j,hj,e⟩
   ·exact .inl h
   exact .inr ⟨j,zo,e⟩
  exact .inr ⟨m,zo,LU.1 hx⟩
def IY(step:List Int->Int->List Int)(tells:List Int->Nat):Nat->Nat->List (List Int)->List (List Nat)->List Nat->Option (List (List Nat)×List Nat)
 |0,_,_,_,_=>none
 |n+1,i,S,rows,tls=>
  if i<S.length then
   if 1000<(dP step (nth S i) S 37).1.length then none
   else IY step tells n (i+1) (dP step (nth S i) S 37).1 (rows++[(dP step (nth S i) S 37).2]) (tls++[tells (nth S i)])
  else some (rows,tls)
def Gf(step:List Int->Int->List Int)(a0:List Int->Nat):Option (List (List Nat)×List Nat):=IY step a0 1002 0 [[0]] [] []
structure DI(step:List Int->Int->List Int)(tells:List Int->Nat)(i:Nat)(S:List (List Int))(rows:List (List Nat))(tls:List Nat):Prop where
 le:i<=S.length
 rl:rows.length=i
 tl:tls.length=i
 p0:0<S.length
 fst:nth S 0=[0]
 len:S.length<=1000
 row:∀j,j<i->(nth rows j).length=37/\∀m:Nat,m<37->nth (nth rows j) m<S.length/\nth S (nth (nth rows j) m)=step (nth S j) (m:Nat)
 tel:∀j,j<i->nth tls j=tells (nth S j)
theorem Aj(step:List Int->Int->List Int)(a0:List Int->Nat):DI step a0 0 [[0]] [] []:=⟨zd,rfl,rfl,zd,ao _ _,zd,λj hj=>absurd hj (My j),λj hj=>absurd hj (My j)⟩
theorem DI.next{step:List Int->Int->List Int}{a3:List Int->Nat}{S:List (List Int)}{rows:List (List Nat)}{a4:List Nat}(h:DI step a3 i S rows a4)(hi:i<S.length)(hl:(dP step (nth S i) S 37).1.length<=1000):
  DI step a3 (i+1) (dP step (nth S i) S 37).1 (rows++[(dP step (nth S i) S 37).2]) (a4++[a3 (nth S i)]):=by
 have hr:=kO step (nth S i) S 37;generalize dP step (nth S i) S 37=R at *;obtain⟨S1,r⟩:=R;dsimp only at hr hl ⊢;obtain⟨q,hq⟩:=hr.pre;have a0:∀k,k<S.length->nth S1 k=nth S k:=λk hk=>by rw[hq,ay,if_pos hk]
 have a5:S.length<=S1.length:=by rw[hq];simp
 have h1:=h.rl;have h2:=h.tl;have h3:=h.p0;refine⟨zo,by simp[h1],by simp[h2],zo,by rw[a0 0 h3];exact h.fst,hl,λj hj=>?_,λj hj=>?_⟩
 ·rw[ay]
  by_cases e:j<rows.length
  ·rw[if_pos e];obtain⟨a1,a2⟩:=h.row j zo;refine⟨a1,λm hm=>?_⟩;obtain⟨b1,b2⟩:=a2 m hm;exact⟨zo,by rw[a0 _ b1,a0 j zo];exact b2⟩
  rw[if_neg e,show j-rows.length=0 from by omega,ao];obtain rfl:j=i:=zo;refine⟨hr.len,λm hm=>?_⟩;obtain⟨b1,b2⟩:=hr.lt m hm;exact⟨b1,by rw[a0 j hi];exact b2⟩
 rw[ay]
 by_cases e:j<a4.length
 ·rw[if_pos e,a0 j zo];exact h.tel j zo
 rw[if_neg e,show j-a4.length=0 from by omega,ao];obtain rfl:j=i:=zo;rw[a0 j hi]
theorem vy{step:List Int->Int->List Int}{a0:List Int->Nat}:∀(n i:Nat) (S:List (List Int)) (rows:List (List Nat)) (a1:List Nat) (d:List (List Nat)×List Nat),DI step a0 i S rows a1->IY step a0 n i S rows a1=some d->∃S',DI step a0 S'.length S' d.1 d.2
 |0,_,_,_,_,_,_,h=>by cases h
 |n+1,i,S,rows,a1,d,hd,h=>by
  unfold IY at h
  split at h
  ·rename_i hi
   split at h
   ·cases h
   exact vy n _ _ _ _ d (hd.next hi zo) h
  rename_i hi
  cases h
  have:=hd.le;obtain rfl:i=S.length:=zo;exact⟨S,hd⟩
theorem pc{step:List Int->Int->List Int}{a0:List Int->Nat}{d:List (List Nat)×List Nat}(h:Gf step a0=some d):∃S,DI step a0 S.length S d.1 d.2:=vy _ _ _ _ _ d (Aj _ _) h
def jO(rows:List (List Nat))(w:List Nat)(q:Nat):Nat:=w.foldl (λq m=>nth (nth rows q) m) q
theorem za{step:List Int->Int->List Int}{a0:List Int->Nat}{S:List (List Int)}{rows:List (List Nat)}{a3:List Nat}(h:DI step a0 S.length S rows a3):∀(w:List Nat),(∀m∈w,m<37)->∀q,q<S.length->jO rows w q<S.length/\nth S (jO rows w q)=w.foldl (λs (m:Nat)=>step s (m:Int)) (nth S q)
 |[],_,q,hq=>⟨hq,rfl⟩
 |m::w,hw,q,hq=>by
  obtain⟨a1,a2⟩:=(h.row q hq).2 m (hw m (by simp));have:=za h w (λx hx=>hw x (by simp[hx])) _ a1;rw[a2]at this;exact this
def vS(s:List Int):List UInt8:=s.flatMap λp=>[PH (p.toNat / 256),PH (p.toNat % 256)]
def okS(s:List Int):Prop:=∀x∈s,0<=x/\x.toNat<=999
theorem zK:∀ {s t:List Int},okS s->okS t->vS s=vS t->s=t
 |[],[],_,_,_=>rfl
 |[],b::t,_,_,h=>by simp[vS]at h
 |a::s,[],_,_,h=>by simp[vS]at h
 |a::s,b::t,hs,ht,h=>by
  have h1:=hs a (by simp);have h2:=ht b (by simp);unfold vS at h;simp only[Mk,Me,MV,Mv]at h;obtain⟨e1,e2,e3⟩:=h;have e1:=congrArg QV e1;have e2:=congrArg QV e2;simp only[UInt8.toNat_ofNat']at e1 e2;have:a=b:=zo;subst this;rw[zK (λx hx=>hs x (by simp[hx])) (λx hx=>ht x (by simp[hx])) e3]
end
end Go.Proofs.YteolbhblkgjbhaaGreatDoor
namespace Go.VL
open Go.Proofs.Tryz
section
open Go.ChangeMaps (setBlock)
section
variable{κ ν:Type}[DecidableEq κ]{kv:κ→ix}{vv:ν→ix}
def qn:List (κ×ν)->κ->List (κ×ν)
 |[],_=>[]
 |(a,y)::r,k=>if a=k then r else(a,y)::qn r k
theorem jo:∀(l:List (κ×ν)) (k:κ),qn l k=match jn l k with
  |some i=>l.eraseIdx i
  |none=>l
 |[],k=>rfl
 |(a,y)::r,k=>by
  simp only[qn,jn]
  by_cases h:a=k
  ·simp[h]
  simp only[if_neg h];rw[jo r k]
  cases jn r k<;>simp
theorem map_eraseIdx(f:α->β)(l:List α)(j:Nat):(l.eraseIdx j).map f=(l.map f).eraseIdx j:=by
 simp[N4,Pv,QK]
theorem ft(o:Obj)(ht:O r=i)(a0:i≠0):Upd (λj=>j=i) O w O (setBlock w r o):=by
 refine⟨rfl,rfl,rfl,by simp[setBlock],λb _ hn=>?_,λ_ _=>rfl,λ_ h=>.inl h,λh=>a0 h.symm⟩;simp only[setBlock,MP]
 rw[if_neg (λe=>hn (by rw[<-e];exact ht))]
theorem eV{o o':Obj}(h:w.heap[r]? = some o):(setBlock w r o').heap[r]? = some o':=by
 have:=bL h;simp[setBlock,this]
theorem pQ{K U:L0}(hT:P.underlying T=some (.map K E))(hK:KeyL P K kv){l:List (κ×ν)}(h:MapO kv vv O w i r l)(a8:i≠0)(k:κ):
  ∃w',(Pc #[T,U] ty #[.map (some r),kv k]).run P w=.ok (.tuple #[]) w'/\MapO kv vv O w' i r (qn l k)/\Upd (λj=>j=i) O w O w':=by
 obtain⟨es,c,h1,h2⟩:=h.blk;have a3:=h.born es c h1;have a6:es.toList.map (·.key)=(l.map (·.1)).map kv:=by
  have:=congrArg (NR PO) h2;simpa[Np]using this
 have hf:=hK.find k es.toList (l.map (·.1)) w a6;rw[eE]at hf;have hc:=hK.check es.isEmpty 9998 k w;have hr:=bL h1;have a5:∀(a1:Array M9) (c':Nat),((a1.toList.map (·.born)).Nodup/\∀e∈a1.toList,e.born<c')->a1.toList.map (λe=>(e.key,e.val))=(qn l k).map (λp=>(kv p.1,vv p.2))->
   MapO kv vv O (setBlock w r (.map a1 c')) i r (qn l k)/\Upd (λj=>j=i) O w O (setBlock w r (.map a1 c')):=λa1 c' hb he=>
  ⟨⟨⟨a1,c',eV h1,he⟩,h.tag,λa9 c2 h2=>by rw[eV h1]at h2;cases h2;exact hb⟩,ft _ h.tag a8⟩
 have a2:(Pc #[T,U] ty #[.map (some r),kv k]).run P w=((match ((jn l k).bind λi=>(es.toList[i]?).map λe=>(i,e.val))with
   |some (i,_)=>do setObj r (.map (es.eraseIdxIfInBounds i) c);pure (.tuple #[])
   |none=>do setObj r (.map es c);pure (.tuple #[]):Sem ix)).run P w:=by
  simp only[Pc,List.getElem?_toArray,List.getElem?_cons_zero,List.getElem?_cons_succ,L2,run_underlying hT,L1];simp only[getObj,MX,h1,L2,L1,hc,hf];generalize ((jn l k).bind λi=>Pi (λe=>(i,e.val)) es.toList[i]?)=q
  cases q with
  |none=>rfl
  |some p=>rfl
 rw[a2,jo];have a0:∀a1,(do setObj r (.map a1 c);pure (.tuple #[]):Sem ix).run P w=.ok (.tuple #[]) (setBlock w r (.map a1 c)):=λa1=>by
  simp[setObj,MX,h1,setBlock]
 cases hi:jn l k with
 |none=>
  refine⟨_,by simp only[P8];exact a0 es,?_⟩;have:=a5 es c a3 (by rw[jo,hi];exact h2);rw[jo,hi]at this;exact this
 |some j=>
  obtain⟨y,hy⟩:=iJ hi;have a4:j<es.toList.length:=by
   have hl:=congrArg PS h2;simp only[NJ]at hl;have:=(M7.1 hy).1;omega
  refine⟨_,by simp only[Nw,MC a4,M1];exact a0 _,?_⟩
  have a7:j<es.size:=by simpa using a4
  have e1:(es.eraseIdxIfInBounds j).toList=es.toList.eraseIdx j:=by
   simp[Array.eraseIdxIfInBounds,a7]
  have:=a5 (es.eraseIdxIfInBounds j) c ⟨by
    rw[e1,N4,MW,Pv,QK];have hs:(NC j (es.toList.map (·.born))++List.drop (j+1) (es.toList.map (·.born))).Sublist (es.toList.map (·.born)):=by
     rw[<-N4];exact PN _ _
    exact hs.nodup a3.1,λe he=>a3.2 e (by rw[e1]at he;exact(PN _ _).mem he)⟩ (by
   rw[jo,hi,e1];have h3:=congrArg (λl=>l.eraseIdx j) h2
   rw[map_eraseIdx,map_eraseIdx];exact h3)
  rw[jo,hi]at this;exact this
structure RangeO(kv:κ->ix)(vv:ν->ix)(O:Nat->Nat)(w:ln)(i j r q:Nat)(left:List (κ×ν))(cur:Option (κ×ν)):Prop where
 ex:∃es clock seen c0,w.heap[r]? = some (.map es clock)/\w.heap[q]? = some (.mapIter (some r) clock seen c0)/\clock<=c0/\(es.toList.map (·.born)).Nodup/\(∀e∈es.toList,e.born<clock)/\
  (leftOf es seen).toList.map (λe=>(e.key,e.val))=left.map (λp=>(kv p.1,vv p.2))/\∀p,cur=some p->∃(e:M9) (s0:Array Nat),e∈es.toList/\seen=s0.push e.born/\c0=clock/\e.key=kv p.1/\e.val=vv p.2
 tag:O r=i
 tagq:O q=j
end
section
variable{κ ν:Type}{kv:κ→ix}{vv:ν→ix}
theorem RangeO.upd{q:Nat}{left:List (κ×ν)}{a1:Option (κ×ν)}(h:RangeO kv vv O w i j r q left a1)(u:Upd S O w O' w')(hi:i≠0)(hj:j≠0)(hS:¬S i)(a2:¬S j):RangeO kv vv O' w' i j r q left a1:=by
 obtain⟨es,c,a0,c0,h1,h2,h3⟩:=h.ex;have e1:=u.blk r (bL h1) (by rw[h.tag];exact hS);have e2:=u.blk q (bL h2) (by rw[h.tagq];exact a2);exact⟨⟨es,c,a0,c0,by rw[e1];exact h1,by rw[e2];exact h2,h3⟩,by rw[u.tag r (by rw[h.tag];exact hi),h.tag],by rw[u.tag q (by rw[h.tagq];exact hj),h.tagq]⟩
end
section
variable{κ ν:Type}[DecidableEq κ]{kv:κ→ix}{vv:ν→ix}
theorem yg{e:M9}{a1 a0:List M9}(hn:(es.map (·.born)).Nodup)(p:M9->Bool)(h:es.filter p=a1++e::a0):es.filter (λx=>p x && !(x.born==e.born))=a1++a0:=by
 have h1:es.filter (λx=>p x && !(x.born==e.born))=(es.filter p).filter (λx=>!(x.born==e.born)):=by
  rw[List.filter_filter];congr 1;funext x;exact Bool.and_comm _ _
 have a2:((a1++e::a0).map (·.born)).Nodup:=by rw[<-h];exact((List.filter_sublist (p:=p) (l:=es)).map _).nodup hn
 rw[h1,h,List.filter_append,Py (by simp)];simp only[MW,L9]at a2;have hd:=Ns.1 a2;congr 1
 ·refine NY.2 λx hx=>?_
  have:=hd.2.2 x.born (Mz.2 ⟨x,hx,rfl⟩) e.born (by simp);simpa using this
 refine NY.2 λx hx=>?_
 have:=(Qv.1 hd.2.1).1;simp only[Bool.not_eq_true',beq_eq_false_iff_ne,ne_eq];intro hc;exact this (by rw[<-hc];exact Mz.2 ⟨x,hx,rfl⟩)
theorem CH{γ:Type}{f:α->γ}{g:β->γ}:∀ {l:List α} {m:List β} {a0 a1:List α} {e:α},l.map f=m.map g->l=a0++e::a1->∃pre' x suf',m=pre'++x::suf'/\f e=g x/\(a0++a1).map f=(pre'++suf').map g:=by
 intro l m a0
 induction a0 generalizing l m with
 |nil=>
  intro a1 e h hl;subst hl
  cases m with
  |nil=>simp at h
  |cons x m=>
   simp only[MV,L9,Mv]at h;exact⟨[],x,m,rfl,h.1,h.2⟩
 |cons a a0 ih=>
  intro a1 e h hl;subst hl
  cases m with
  |nil=>simp at h
  |cons x m=>
   simp only[Me,L9,Mv]at h;obtain⟨p,y,s,rfl,h1,h2⟩:=ih h.2 rfl;exact⟨x::p,y,s,rfl,h1,by simp only[Me,L9,h.1,h2]⟩
end
section
variable{κ ν:Type}[DecidableEq κ]{kv:κ→ix}{vv:ν→ix}
variable{P:L5}{N:Nat}{ops:Array LY}{Q:Md→MB→ln→Prop}{rest:List LY}{st:St}{w:ln}
variable{t:L0}{p:String}{e:Array MR}{d:Nat}{x y z:L4}
theorem WL.delete{T K E U:L0}{O:Nat->Nat}{i r:Nat}{l:List (κ×ν)}(hm:MapO kv vv O w i r l)(hT:P.underlying T=some (.map K E))(hK:KeyL P K kv)(a1:i≠0) 
  (k:κ) {kx:ix} (hx:ev st x=some (.map (some r))) (hy:ev st y=some kx) (hk:kx=kv k)
  (h:∀w',MapO kv vv O w' i r (qn l k)->Upd (λj=>j=i) O w O w'->WL P N ops Q rest st w'):WL P N ops Q (⟨none,.call ⟨.builtin .delete,#[x,y],#[T,U]⟩,t,p,e,none⟩::rest) st w:=by
 subst hk;obtain⟨w',h1,h2,h3⟩:=pQ (ty:=t) (U:=U) hT hK hm a1 k;refine WL.step rfl λa ha=>?_
 unfold MT;have a0:(execOp a.eval ⟨none,.call ⟨.builtin .delete,#[x,y],#[T,U]⟩,t,p,e,none⟩).run P w=.ok (.value (.tuple #[])) w':=by
  simp only[execOp,resolve,invoke,builtin,L2,LQ,L1,L6,L9,M5,ha.ev hx,ha.ev hy,h1]
 rw[a0];exact h w' h2 h3 _ ha
end
section
variable{κ ν:Type}{kv:κ→ix}{vv:ν→ix}
variable{P:L5}{N:Nat}{ops:Array LY}{Q:Md→MB→ln→Prop}{rest:List LY}{st:St}{w:ln}
variable{t:L0}{p:String}{e:Array MR}{d:Nat}{x y z:L4}
theorem pG{K:L0}{l:List (κ×ν)}(hm:MapO kv vv O w i r l)(hT:P.underlying T=some (.map K E))(hR:Rng B O w)(j:Nat)(hj:j≠0)(_:i≠0)(hx:ev st x=some (.map (some r)))(hd:L3 d N=true) 
  (h:∀q w' O',RangeO kv vv O' w' i j r q l none->MapO kv vv O' w' i r l->Upd (λk=>k=j) O w O' w'->Rng B O' w'->WL P N ops Q rest ((d,nP q)::st) w'):WL P N ops Q (⟨some d,.range T x,t,p,e,none⟩::rest) st w:=by
 obtain⟨es,c,h1,h2⟩:=hm.blk;have a1:=hm.born es c h1;have a0:=bL h1;have hU:=Upd.alloc (S:=λk=>k=j) (λe=>hj e.symm) hR (.mapIter (some r) c #[] c) j;refine WL.val hd (λa ha=>by simp only[execOp,ha.ev hx,L2,run_range_map w _ _ _ _ _ _ hT h1,L1,LQ]) (h w.heap.size _ (lV O w.heap.size j) ⟨⟨es,c,#[],c,?_,heap_alloc_new w _,M8 _,a1.1,a1.2,?_,λp hp=>by cases hp⟩,?_,eG _ _ _⟩ ⟨⟨es,c,?_,h2⟩,?_,λa2 c' h'=>hm.born a2 c' (by rw[heap_alloc_old w _ a0]at h';exact h')⟩ hU (hR.upd hU))
 ·rw[heap_alloc_old w _ a0];exact h1
 ·unfold leftOf;have e1:es.filter (λe=>!(#[]:Array Nat).contains e.born)=es:=Array.filter_eq_self.2 (by simp);rw[e1];exact h2
 ·unfold lV;rw[if_neg zo];exact hm.tag
 ·rw[heap_alloc_old w _ a0];exact h1
 unfold lV;rw[if_neg zo];exact hm.tag
theorem rG{q:Nat}{left:List (κ×ν)}{b4:Option (κ×ν)}(hm:RangeO kv vv O w i j r q left b4)(b2:j≠0)(b3:i≠j)(hx:ev st x=some (nP q))(hd:L3 d N=true) 
  (h0:left=[]->WL P N ops Q rest ((d,.tuple #[.bool false])::st) w)
  (h1:∀a' a b a8 w',left=a'++(a,b)::a8->RangeO kv vv O w' i j r q (a'++a8) (some (a,b))->Upd (λk=>k=j) O w O w'->WL P N ops Q rest ((d,.tuple #[.bool true,kv a,vv b])::st) w'):WL P N ops Q (⟨some d,.next x false,t,p,e,none⟩::rest) st w:=by
 obtain⟨es,c,a0,c0,g1,g2,g3,g4,g5,g6,g7⟩:=hm.ex
 rcases Go.run_next_at (P:=P) w t q r c c0 a0 es c g2 g1 g5 g3 with⟨hs,a2⟩|⟨en,b0,w1,a5,a2⟩
 ·refine WL.val hd (λa ha=>by simp only[execOp,ha.ev hx,L2,a2,L1,LQ]) (h0 ?_);have h3:=congrArg PS g6;simp only[NJ,NW,hs]at h3;exact LO h3.symm
 obtain⟨a',a8,a6⟩:=List.append_of_mem b0;obtain⟨a9,⟨a,b⟩,a7,rfl,a4,a3⟩:=CH g6 a6;simp only[Pm]at a4;have a1:∀(a:MB),Fits N a st->(execOp a.eval ⟨some d,.next x false,t,p,e,none⟩).run P w=.ok (.value (.tuple #[.bool true,en.key,en.val])) (setBlock w1 q (.mapIter (some r) c (a0.push en.born) c)):=λa ha=>by
  simp only[execOp,ha.ev hx,L2,a2,L1,LQ]
 rw[a4.1,a4.2]at a1;have hw:w1.heap=w.heap:=by rcases a5 with rfl|rfl<;>rfl
 have b1:en∈es.toList:=by
  have:en∈(leftOf es a0):=by simpa using b0
  unfold leftOf at this;rw[Array.mem_filter]at this;simpa using this.1
 refine WL.val hd a1 (h1 a9 a b a7 _ rfl ⟨⟨es,c,a0.push en.born,c,?_,eV (by rw[hw];exact g2),M8 _,g4,g5,?_,λp hp=>?_⟩,hm.tag,hm.tagq⟩ ?_)
 ·simp only[setBlock,MP];rw[if_neg (λe=>b3 (by rw[<-hm.tag,<-hm.tagq,e])),hw];exact g1
 ·rw[<-a3];unfold leftOf at a6 ⊢;rw[Array.toList_filter]at a6 ⊢;rw[<-yg g4 _ a6];congr 2;funext x;simp;rfl
 ·cases hp
  exact⟨en,a0,b1,rfl,rfl,a4.1,a4.2⟩
 have hU:=ft (w:=w1) (.mapIter (some r) c (a0.push en.born) c) hm.tagq b2;exact⟨by rw[hU.os];rcases a5 with rfl|rfl<;>rfl,by rw[hU.tape];rcases a5 with rfl|rfl<;>rfl,by rw[hU.output];rcases a5 with rfl|rfl<;>rfl,by have:=hU.size;rw[hw]at this;exact this,λb hb hn=>by have:=hU.blk b (by rw[hw];exact hb) hn;rw[hw]at this;exact this,hU.tag,λb hb=>.inl hb,hU.z⟩
theorem RV.entry{O:Nat->Nat}{i j r q:Nat}{left:List (κ×ν)}{a:κ}{b:ν}(hm:RangeO kv vv O w i j r q left (some (a,b)))(hx:ev st x=some (nP q)):RV P N (.entry x) t st w (.tuple #[kv a,vv b]):=
 λac ha a1 p e g=>by
  obtain⟨es,c,a0,c0,g1,g2,g3,g4,g5,g6,g7⟩:=hm.ex;obtain⟨en,s0,e1,rfl,rfl,e2,e3⟩:=g7 _ rfl;simp only[execOp,ha.ev hx,L2,run_entry_at w q r c0 s0 es c0 en g2 g1 e1 g4,L1,LQ,e2,e3]
end
abbrev eB(p:Int×Int):ix:=.agg #[nI p.1,nI p.2]
theorem DT{K I:L0}(hK:P.underlying K=some (.array 2 I))(hI:P.underlying I=some (.int .i64))(a3:(P.info? I).isSome=true)(hc:P.cellsOf I=1):KeyL P K eB:=by
 obtain⟨i,hi⟩:=Option.isSome_iff_exists.1 a3;have hA:∀w,(PF I).run P w=.ok false w:=λw=>by simp[PF,run_underlying hI]
 have a0:∀(a b:Int) (w:ln),(part I #[nI a,nI b] 0).run P w=.ok (nI a) w/\(part I #[nI a,nI b] 1).run P w=.ok (nI b) w:=λa b w=>by
  constructor<;>simp[part,hA]
 have a5:∀b n k (w:ln),(MZ b (n+1) I (nI k)).run P w=.ok () w:=λb n k w=>by simp[MZ,run_underlying hI]
 have a4:∀(a b:Int×Int) (w:ln),(RD K (eB a) (eB b)).run P w=.ok (decide (a=b)) w:=λa b w=>by
  have h1:∀d (x y:Int) (w:ln),(Qn (d+1) I (nI x) (nI y)).run P w=.ok (x==y) w:=λd x y w=>by simp[Qn,run_underlying hI]
  obtain⟨a1,a2⟩:=a;obtain⟨b1,b2⟩:=b;have h2:∀(x y:Int) (w:ln),(Qn 9999 I (nI x) (nI y)).run P w=.ok (x==y) w:=λx y w=>h1 9998 x y w
  unfold RD Op.maxDepth;rw[run_equalIn_array w 9999 _ _ hK hi,hc];simp only[show MH 2=[0,1]from rfl,Op.eqItems,L2,N1,R7,(a0 a1 a2 w).1,(a0 b1 b2 w).1,h2,L1]
  by_cases e1:a1=b1
  ·by_cases e2:a2=b2
   ·subst e1;subst e2;simp[a0,h2]
   subst e1;simp[e2,a0,h2]
  simp[e1]
 refine⟨λb n k w=>?_,λk es ks w h=>?_,λk=>?_⟩
 ·obtain⟨k1,k2⟩:=k;unfold MZ;simp only[L2,run_underlying hK,L1];simp only[QA,Qz,R0,Nat.add_one_sub_one,Nat.div_one];simp[List.range',run_sizeOf w hi,hc,a0,a5]
 ·have key:∀(es:List M9) (ks:List (Int×Int)) (j:Nat) (w:ln),es.map (·.key)=ks.map eB->
    (Pb K (eB k) es j).run P w=.ok ((ks.findIdx? (· = k)).bind λi=>(es[i]?).map λe=>(j+i,e.val)) w:=by
   intro es
   induction es with
   |nil=>intro ks j w h;cases ks with
    |nil=>simp[Pb]
    |cons a r=>simp at h
   |cons e es ih=>
    intro ks j w h
    cases ks with
    |nil=>simp at h
    |cons a r=>
     simp only[L9,Mv]at h;simp only[Pb,L2,h.1,a4,L1]
     by_cases hk:k=a
     ·subst hk;simp[Mu]
     rw[decide_eq_false hk];simp only[P5,if_false];rw[ih r (j+1) w h.2];simp only[Mu,decide_eq_true_eq];rw[if_neg (λe=>hk e.symm)]
     cases hf:Pw (λx=>decide (x=k)) r with
     |none=>simp
     |some i=>simp[P4,PL 1]
  have:=key es ks 0 w h;simp only[Mg]at this;unfold NZ;simp only[L2,run_underlying hK,L1]
  cases es with
  |nil=>
   cases ks with
   |nil=>simp[MQ]
   |cons a r=>simp at h
  |cons e es=>simpa[MQ,Pr]using this
 simp[NQ]
section
variable{κ ν:Type}[DecidableEq κ]{kv:κ→ix}{vv:ν→ix}
theorem uN(es:Array M9)(i:Nat)(f g h:M9->M9)(hf:∀x,g (f x)=h x):(es.modify i f).modify i g=es.modify i h:=by
 apply Q5;intro j;simp only[Mw]
 by_cases hj:i=j
 ·simp only[if_pos hj];cases es[j]?<;>simp[hf]
 simp only[if_neg hj]
theorem xz(es:Array M9)(a:M9)(f:M9->M9):(es.push a).modify es.size f=es.push (f a):=by
 apply Q5;intro j;simp only[Mw,Array.getElem?_push]
 by_cases hj:j=es.size
 ·subst hj;simp
 rw[if_neg (λe=>hj e.symm),if_neg hj,if_neg hj]
theorem mQ{e:M9}(hn:(es.map (·.born)).Nodup)(he:es[j]? = some e):es.findIdx? (λx=>(x.born:Int)==(e.born:Int))=some j:=by
 obtain⟨hj,rfl⟩:=M7.1 he;rw[P6];refine⟨hj,by simp,λi hi=>?_⟩;have:=(Pq.1 hn) i j (by simp;omega) (by simpa using hj) hi;simp only[Qp]at this;simp;omega
theorem Av{K:L0}(hT:P.underlying T=some (.map K E))(hK:KeyL P K kv){l:List (κ×ν)}(h:MapO kv vv O w i r l)(a7:i≠0)(hz:(MK E).run P w=.ok z w)(k:κ)(x:ν):
  ∃(w1 w':ln) (v:ix) (b:Int),(Pn T (.map (some r)) (kv k)).run P w=.ok (.tuple #[v,nI b]) w1/\(NA T (.map (some r)) (nI b) (vv x)).run P w1=.ok () w'/\MapO kv vv O w' i r (cU l k x)/\Upd (λj=>j=i) O w O w'/\Upd (λj=>j=i) O w O w1:=by
 obtain⟨es,c,h1,h2⟩:=h.blk;have a9:=h.born es c h1;have hr:=bL h1;have b4:es.toList.map (·.key)=(l.map (·.1)).map kv:=by
  have:=congrArg (NR PO) h2;simpa[Np]using this
 have hf:=hK.find k es.toList (l.map (·.1)) w b4;rw[eE]at hf;have hc:=hK.check false 9998 k w;obtain⟨wm,a3,hm,hu⟩:=ei hT hK h a7 k x
 have a1:(Ng T (.map (some r)) (kv k) (vv x)).run P w=((match ((jn l k).bind λi=>(es.toList[i]?).map λe=>(i,e.val))with
   |some (i,_)=>do
    let key <-Mr (((es[i]?).map (·.key)).getD (kv k)) (kv k)
    setObj r (.map (es.modify i λe=>{ e with key,val:=vv x }) c)
   |none=>setObj r (.map (es.push { key:=kv k,val:=vv x,born:=c }) (c+1)):Sem Unit)).run P w:=by
  simp only[Ng,L2,run_underlying hT,L1];simp only[getObj,MX,h1,L2,L1,hc,hf];generalize ((jn l k).bind λi=>Pi (λe=>(i,e.val)) es.toList[i]?)=q
  cases q with
  |none=>rfl
  |some p=>rfl
 have a0:(Pn T (.map (some r)) (kv k)).run P w=((match ((jn l k).bind λi=>(es.toList[i]?).map λe=>(i,e.val))with
   |some (i,v)=>do
    let key <-Mr (((es[i]?).map (·.key)).getD (kv k)) (kv k)
    setObj r (.map (es.modify i λe=>{ e with key }) c)
    pure (.tuple #[v,goInt (((es[i]?).map (·.born)).getD 0)])
   |none=>do
    let zero <-MK E
    setObj r (.map (es.push { key:=kv k,val:=zero,born:=c }) (c+1))
    pure (.tuple #[zero,goInt c]):Sem ix)).run P w:=by
  simp only[Pn,L2,run_underlying hT,L1];simp only[getObj,MX,h1,L2,L1,hc,hf];generalize ((jn l k).bind λi=>Pi (λe=>(i,e.val)) es.toList[i]?)=q
  cases q with
  |none=>rfl
  |some p=>rfl
 have a2:∀(a':Array M9) (c':Nat) (w0:ln),(∃e0 k0,w0.heap[r]? = some (.map e0 k0))->(setObj r (.map a' c')).run P w0=.ok () (setBlock w0 r (.map a' c')):=λa' c' w0 h0=>by
  obtain⟨e0,k0,hq⟩:=h0;simp[setObj,MX,hq,setBlock]
 have a6:∃e0 k0,w.heap[r]? = some (.map e0 k0):=⟨es,c,h1⟩
 have b0:∀(a:Array M9) (q:M9->Bool),a.findIdx? q=a.toList.findIdx? q:=λa q=>by cases a;simp
 have a4:∀o o',setBlock (setBlock w r o) r o'=setBlock w r o':=λo o'=>by simp[setBlock]
 cases hi:jn l k with
 |none=>
  rw[hi]at a1 a0;simp only[P8]at a1 a0;rw[a2 _ _ _ a6]at a1;simp only[L2,hz,L1,a2 _ _ _ a6,LQ]at a0;have he:wm=setBlock w r (.map (es.push { key:=kv k,val:=vv x,born:=c }) (c+1)):=by rw[a1]at a3;cases a3;rfl
  refine⟨_,wm,z,c,a0,?_,hm,hu,ft _ h.tag a7⟩;have a5:(setBlock w r (.map (es.push { key:=kv k,val:=z,born:=c }) (c+1))).heap[r]? = some (.map (es.push { key:=kv k,val:=z,born:=c }) (c+1)):=eV h1;have a8:(es.push { key:=kv k,val:=z,born:=c }).findIdx? (λe=>(e.born:Int)==(c:Int))=some es.size:=by
   have b5:((es.push { key:=kv k,val:=z,born:=c }).toList.map (·.born)).Nodup:=by
    simp only[P7,MW,L9,M5];refine Ns.2 ⟨a9.1,by simp,λa ha b hb=>?_⟩;obtain⟨e,he,rfl⟩:=Mz.1 ha;have:=a9.2 e he;simp at hb;omega
   have:=mQ (j:=es.size) (e:={ key:=kv k,val:=z,born:=c }) b5 (by simp);rw[b0,<-this]
  simp only[NA,getObj,MX,L2,a5,L1,asInt,asIntOf,LQ,a8];rw[xz,he];have:=a2 (es.push { key:=kv k,val:=vv x,born:=c }) (c+1) (setBlock w r (.map (es.push { key:=kv k,val:=z,born:=c }) (c+1))) ⟨_,_,a5⟩;rw[a4]at this;exact this
 |some j=>
  obtain⟨y,hy⟩:=iJ hi;have hj:es.toList[j]?.map (λe=>(e.key,e.val))=some (kv k,vv y):=by
   have:=congrArg (λl=>l[j]?) h2;simpa[hy]using this
  cases he:es.toList[j]? with
  |none=>rw[he]at hj;simp at hj
  |some e'=>
   rw[he]at hj;simp at hj;have b1:es[j]? = some e':=by simpa using he
   have b2:(Mr (kv k) (kv k))=pure (kv k):=by simp[Mr,hK.same k]
   rw[hi]at a1 a0;simp only[Nw,he,M1,b1,hj.1,Q9,b2,L2,LQ,L1,a2 _ _ _ a6]at a1 a0;have hw:wm=setBlock w r (.map (es.modify j λe=>{ e with key:=kv k,val:=vv x }) c):=by rw[a1]at a3;cases a3;rfl
   refine⟨_,wm,e'.val,e'.born,a0,?_,hm,hu,ft _ h.tag a7⟩;have a5:(setBlock w r (.map (es.modify j λe=>{ e with key:=kv k }) c)).heap[r]? = some (.map (es.modify j λe=>{ e with key:=kv k }) c):=eV h1;have b3:((es.modify j λe=>{ e with key:=kv k }).toList.map (·.born))=es.toList.map (·.born):=by
    simp only[NV];apply Pa;intro m;simp only[Nu,NS]
    split
    ·cases es.toList[m]?<;>simp
    cases es.toList[m]?<;>simp
   have a8:(es.modify j λe=>{ e with key:=kv k }).findIdx? (λe=>(e.born:Int)==(e'.born:Int))=some j:=by
    have:=mQ (es:=(es.modify j λe=>{ e with key:=kv k }).toList) (j:=j) (e:={ e' with key:=kv k }) (by rw[b3];exact a9.1) (by
     have:(es.modify j λe=>{ e with key:=kv k })[j]? = some { e' with key:=kv k }:=by
      rw[Mw,if_pos rfl,b1];rfl
     rw[Array.getElem?_toList];exact this)
    rw[b0,<-this]
   simp only[NA,getObj,MX,L2,a5,L1,asInt,asIntOf,LQ,a8];rw[uN es j _ _ (λe=>{ e with key:=kv k,val:=vv x }) (λ_=>rfl),hw];have:=a2 (es.modify j λe=>{ e with key:=kv k,val:=vv x }) c (setBlock w r (.map (es.modify j λe=>{ e with key:=kv k }) c)) ⟨_,_,a5⟩;rw[a4]at this;exact this
variable{P:L5}{N:Nat}{ops:Array LY}{Q:Md→MB→ln→Prop}{rest:List LY}{st:St}{w:ln}
variable{t t' t2:L0}{p p' p2:String}{e e' e2:Array MR}{d d':Nat}{x y z:L4}
end
def Lq[DecidableEq κ](P:L5)(kv:κ->ix)(vv:ν->ix)(T:L0)(O:Nat->Nat)(w w1:ln)(i r:Nat)(l:List (κ×ν))(k:κ)(u:ν)(b:Int):Prop:=
 ∃w',(NA T (.map (some r)) (nI b) (vv u)).run P w1=.ok () w'/\MapO kv vv O w' i r (cU l k u)/\Upd (λj=>j=i) O w O w'
section
variable{κ ν:Type}[DecidableEq κ]{kv:κ→ix}{vv:ν→ix}
variable{P:L5}{N:Nat}{ops:Array LY}{Q:Md→MB→ln→Prop}{rest:List LY}{st:St}{w:ln}
variable{t:L0}{p:String}{e:Array MR}{d:Nat}{x y z:L4}
theorem mX{K:L0}{l:List (κ×ν)}(hm:MapO kv vv O w i r l)(hT:P.underlying T=some (.map K E))(hK:KeyL P K kv)(a0:i≠0){zv:ix}(hz:(MK E).run P w=.ok zv w) 
  (k:κ) (u:ν) {kx:ix} (hx:ev st x=some (.map (some r))) (hy:ev st y=some kx) (hk:kx=kv k) (hd:L3 d N=true)
  (h:∀w1 c b,Lq P kv vv T O w w1 i r l k u b->Upd (λj=>j=i) O w O w1->WL P N ops Q rest ((d,.tuple #[c,nI b])::st) w1):WL P N ops Q (⟨some d,.mapEntry T x y,t,p,e,none⟩::rest) st w:=by
 subst hk;obtain⟨w1,w',v,b,h1,h2,h3,h4,h5⟩:=Av hT hK hm a0 hz k u;exact WL.val hd (λa ha=>by simp only[execOp,ha.ev hx,ha.ev hy,L2,h1,L1,LQ]) (h w1 v b ⟨w',h2,h3,h4⟩ h5)
theorem jE{l:List (κ×ν)}{k:κ}{u:ν}{b:Int}(hE:Lq P kv vv T O w0 w i r l k u b){ux:ix}(hx:ev st x=some (.map (some r)))(hy:ev st y=some (nI b))(hz:ev st z=some ux)(hu:ux=vv u) 
  (h:∀w',MapO kv vv O w' i r (cU l k u)->Upd (λj=>j=i) O w0 O w'->WL P N ops Q rest st w'):WL P N ops Q (⟨none,.entryStore T x y z,t,p,e,none⟩::rest) st w:=by
 subst hu;obtain⟨w',h2,h3,h4⟩:=hE;exact iK (λa ha=>by simp only[execOp,ha.ev hx,ha.ev hy,ha.ev hz,L2,h2,L1,LQ]) (h w' h3 h4)
end
theorem sR{α:Type}{enc:α->List ix}{sz:Nat}:∀(l:List α),(∀x∈l,(enc x).length=sz)->∀(n:Nat) (hn:n<l.length) (j:Nat),j<sz->∀(x':α) (u:ix),enc x'=(enc l[n]).set j u->(l.flatMap enc).set (n*sz+j) u=(l.set n x').flatMap enc
 |a::l,hz,0,_,j,hj,x',u,hx=>by
  have ha:=hz a (by simp);simp only[Mk,List.set_cons_zero,N1,Mg];rw[List.set_append_left _ _ zo,hx];rfl
 |a::l,hz,n+1,hn,j,hj,x',u,hx=>by
  have ha:=hz a (by simp);simp only[Mk,Qb];rw[List.set_append_right _ _ (by rw[ha,MY];omega),show(n+1)*sz+j-(enc a).length=n*sz+j from by rw[ha,MY];omega];rw[sR l (λy hy=>hz y (by simp[hy])) n (by simpa using hn) j hj x' u (by simpa using hx)]
theorem RowT.putJ[Inhabited α](h:RowT enc E sz O w i v l)(hn:n<l.length)(hj:j<sz)(x':α)(u:ix)(hx:enc x'=(enc (nth l n)).set j u):
  ∃g c,(adr v sz n).add j=⟨g,n*sz+j,none⟩/\w.cell? ⟨g,n*sz+j,none⟩=some c/\w.frozen? ⟨g,n*sz+j,none⟩=false/\RowT enc E sz O (w.setCell ⟨g,n*sz+j,none⟩ u) i v (l.set n x')/\O g=i:=by
 rw[aB hn]at hx;have a2:=h.2 l[n] (N9 hn);have a5:(enc x').length=sz:=by rw[hx,Pj,a2]
 have hs:=h.sl;have a3:∃c,(enc l[n])[j]? = some c:=⟨_,MC zo⟩
 obtain⟨c,a3⟩:=a3;have a0:=hs.cells n hn j c a3;obtain⟨⟨⟨hl,hr⟩,a1⟩,hz⟩:=h
 rcases hr with⟨rfl,h0⟩|⟨g,a4,a',rfl,a9,hg,a6,a8,a7,ht⟩
 ·omega
 have ha:(adr (.slice (some ⟨g,0,none⟩) l.length a4) sz n).add j=⟨g,n*sz+j,none⟩:=by simp only[adr,Mc];split<;>simp_all
 rw[ha]at a0;refine⟨g,c,ha,a0,by simp[NX,hg],⟨⟨⟨?_,.inr ⟨g,a4,a'.setIfInBounds (n*sz+j) u,by simp,a9,?_,by simpa using a6,a8,by simpa using a7,?_⟩⟩,by simpa using a1⟩,?_⟩,a1 g rfl⟩
 ·rw[<-sR l hz n hn j hj x' u hx];simp[hl]
 ·simp only[N7,Mw,if_pos];rw[hg];simp
 ·simp only[Pj,Nq];rw[QH,ht,sR l hz n hn j hj x' u hx]
 intro y hy
 rcases List.mem_or_eq_of_mem_set hy with hy|rfl
 ·exact hz y hy
 exact a5
theorem pF{ops:Array LY}{a0:List LY}{st:St}{p:String}{e:Array MR} 
    [Inhabited α]        (hr:RowT enc E sz O w i v l) (n:Nat) (hn:n<l.length) (j:Nat) (hj:j<sz) (x':α) (hT:(Mj T).run P w=.ok 1 w)  (h1:u.oneCell'=true) (a4:i≠0)
   (hx:ev st x=some (.pointer (some q))) (hq:q=(adr v sz n).add j) (hy:ev st y=some u) (a2:enc x'=(enc (nth l n)).set j u)
  (h:∀w',RowT enc E sz O w' i v (l.set n x')->Upd (λk=>k=i) O w O w'->WL P N ops Q a0 st w'):WL P N ops Q (⟨none,.store T x y,t,p,e,none⟩::a0) st w:=by
 obtain⟨g,c,ha,hc,hf,a3,ht⟩:=hr.putJ hn hj x' u a2;rw[ha]at hq;subst hq;refine iK (w':=w.setCell ⟨g,n*sz+j,none⟩ u) (λa a1=>?_) (h _ a3 ⟨rfl,rfl,rfl,by simp[N7],λk _ hk=>Nf _ _ _ _ (λe=>hk (by rw[e];exact ht)),λ_ _=>rfl,λ_ h=>.inl h,λh=>a4 h.symm⟩);simp only[execOp,a1.ev hx,a1.ev hy]
 cases u<;>simp[ME]at h1<;>simp[Nv,Mq,storeVar,hT,Pd,storeCells,store,MX,hc,hf,Mc]
theorem Fits.fresh{a:MB}{st:St}(hn:(cO st d).isNone=true)(h:Fits N a ((d,v)::st)):Fits N a st:=by
 refine⟨h.size,h.defers,λt u hu=>h.get t u ?_⟩;simp only[cO]
 cases hb:Mh d t with
 |true=>have:=LP hb;subst this;rw[hu]at hn;cases hn
 |false=>exact hu
theorem Fits.swap{a:MB}{d':Nat}{st:St}(a0:Mh d d'=false)(h:Fits N a ((d,v)::(d',v')::st)):Fits N a ((d',v')::(d,v)::st):=by
 refine⟨h.size,h.defers,λt u hu=>h.get t u ?_⟩;simp only[cO]at hu ⊢
 cases h1:Mh d t with
 |true=>
  have:=LP h1;subst this;have h2:Mh d' d=false:=by
   cases h3:Mh d' d with
   |false=>rfl
   |true=>have:=LP h3;subst this;rw[a0]at h1;cases h1
  rw[h1,h2]at hu;exact hu
 |false=>
  rw[h1]at hu;exact hu
theorem cC{ops:Array LY}{S:ln->Prop}{a1:Nat}{a0:Array Bool}{st:St} 
  {T1:L0} {a2:Nat}    {t':L0} {p p':String} {e e':Array MR} {d':Nat} 
  (i j:Nat) (he:Elem P T E sz a2) (u:α) (hi:ops[i]? = some ⟨some d,.load T1 x,t,p,e,none⟩) (hj:ops[j]? = some ⟨some d',.buildSlice T 1 #[(0,y)],t',p',e',none⟩)
  (hr:LX .any ops a0=[i,j]) (a':LX .any ops (a0.setIfInBounds i true)=[j]) (a9:LX .any ops (a0.setIfInBounds j true)=[i])
  (a4:(a0.setIfInBounds j true).setIfInBounds i true=(a0.setIfInBounds i true).setIfInBounds j true)
  (hv:∀w',Ext w w'->RV P N (.load T1 x) t st w' v) (hS:∀w',Ext w w'->S w')
  (hy:ev st y=some xv) (a5:xv.cells.toList=enc u) (a6:(enc u).length=sz) (hs:sz<=16777216) (hd:L3 d N=true) (a7:L3 d' N=true) (b0:Mh d d'=false) (hf:(cO st d').isNone=true) (a8:ev ((d,v)::st) y=some xv)
  (h:∀sv w',Sl enc sz w' sv [u]->Ext w w'->WH P N ops S Q a1 ((a0.setIfInBounds i true).setIfInBounds j true) ((d',sv)::(d,v)::st) w'):WH P N ops S Q (a1+2) a0 st w:=by
 refine bB i j hr hi hj ?_ ?_
 ·refine mW (hv w (Ext.refl w)) hd (WL.nil (aa (hS w (Ext.refl w)) (WH.one j a' hj ?_)));refine dB he u a8 a5 a6 hs a7 λsv w' a3 hE=>WL.nil (aa (hS w' hE) (h sv w' a3 hE))
 refine dB he u hy a5 a6 hs a7 λsv w' a3 hE=>WL.nil (aa (hS w' hE) (WH.one i a9 hi ?_))
 refine mW (λa ha=>hv w' hE a (ha.fresh hf)) hd (WL.nil (aa (hS w' hE) ?_));rw[a4];exact λa ha=>h sv w' a3 hE a (ha.swap b0)
theorem bH{st:St}{m:Nat}(hs:Shape v m)(hu:P.underlying T=some (.slice E))(hx:ev st x=some v):RV P N (.call ⟨.builtin .len,#[x],#[T]⟩) t st w (nI (m:Int)):=
 λa ha a0 p e g=>by
  obtain⟨ad,c,hv,_⟩:=hs;simp only[execOp,resolve,L6,L9,M5,ha.ev hx];subst hv;simp[invoke,Rl,Qx,run_underlying hu,goInt]
theorem ot(he:Elem P T E sz a0){xs:List ix}(a1:RowO O w i E sz v n xs)(a:Option Mx)(c:Nat):
  (Nc #[T,T] ty #[v,.slice a 0 c]).run P w=.ok v w:=by
 obtain⟨a4,z,hi,hz,a6,a9,a5⟩:=he.parts;have ht:=he.ht
 rcases a1.row.2 with⟨rfl,rfl⟩|⟨g,b0,a',rfl,hbg,hg,a3,a8,a7,a2⟩
 ·cases a<;>simp[Nc,run_underlying ht,Mj,typeInfo,hi,Po,NU,loadCells,loadCellsFrom]
 cases a<;>simp[Nc,run_underlying ht,Mj,typeInfo,hi,Po,NU,loadCells,loadCellsFrom,a3,storeCells]
theorem aK{ops:Array LY}{a1:List LY}{st:St}{p:String}{e:Array MR} 
    (he:Elem P T E sz a0)       {us:List α} (hr:RowT enc E sz O w i v l) (r:Rng B O w) (hs:Sl enc sz w sv us)
  (hx:ev st x=some v) (hy:ev st y=some sv) (a4:∀u∈us,(enc u).length=sz) (a5:∀u∈us,∀c∈enc u,c.oneCell'=true)
  (hb:(l.length+us.length)*a0<=140737488355328) (a6:l.length+us.length<=9223372036854775807) (a3:i≠0) (hd:L3 d N=true)
  (h:∀v' w' O',RowT enc E sz O' w' i v' (l++us)->Upd (λk=>k=i) O w O' w'->Rng B O' w'->WL P N ops Q a1 ((d,v')::st) w') :
  WL P N ops Q (⟨some d,.call ⟨.builtin .append,#[x,y],#[T,T]⟩,t,p,e,none⟩::a1) st w:=by
 by_cases a2:us.length=0
 ·obtain rfl:=LO a2;obtain⟨a,c,rfl,_⟩:=hs.shape;refine WL.val (v:=v) (w':=w) hd (λac ha=>?_) (h v w O (by rw[Mo];exact hr) (Upd.refl (λe=>a3 e.symm) _ _) r);simp only[execOp,resolve,invoke,builtin,L2,LQ,L1,L6,L9,M5,ha.ev hx,ha.ev hy,Nh,ot he hr.1]
 exact aD he hr r hs a2 hx hy a4 a5 hb a6 a3 hd h
theorem MapO.fgt{kv:κ->ix}{vv:ν->ix}{i':Nat}{l:List (κ×ν)}(h:MapO kv vv O2 w i r l)(ho:O r=i'):MapO kv vv O w i' r l:=⟨h.blk,ho,h.born⟩
theorem bA(kv:κ->ix)(vv:ν->ix){ops:Array LY}{a0:List LY}{st:St}{p:String}{e:Array MR} 
    (r:Rng B O w) (i:Nat) (a1:i≠0) (hd:L3 d N=true)
  (h:∀q w' O',MapO kv vv O' w' i q []->Upd (λk=>k=i) O w O' w'->Rng B O' w'->WL P N ops Q a0 ((d,.map (some q))::st) w'):WL P N ops Q (⟨some d,.makeMap T none,t,p,e,none⟩::a0) st w:=by
 have hU:=Upd.alloc (S:=λk=>k=i) (λe=>a1 e.symm) r (.map #[] 0) i;exact WL.makeMap hd (h w.heap.size _ (lV O w.heap.size i) (MapO.new O w i) hU (r.upd hU))
theorem Ae{α:Type}{val:α->ix}{O:Nat->Nat}{i g a1:Nat}{E:L0}(z:α)(a0:i≠0):∀(k n:Nat) (l:List α) (w:ln) (m:Nat),RowT (λx=>[val x]) E 1 O w i (.slice (some ⟨g,0,none⟩) m a1) l->n+k=l.length->
  RowT (λx=>[val x]) E 1 O (w.setCells g n (Mi k (val z))) i (.slice (some ⟨g,0,none⟩) m a1) (l.take n++Mi k z)/\Upd (λj=>j=i) O w O (w.setCells g n (Mi k (val z)))
 |0,n,l,w,m,h,hn=>by
  simp only[List.replicate_zero,Mo,Qs];rw[PA zo];exact⟨h,Upd.refl (λe=>a0 e.symm) _ _⟩
 |k+1,n,l,w,m,h,hn=>by
  have ha:adr (.slice (some ⟨g,0,none⟩) m a1) 1 n=⟨g,n,none⟩:=by simp[adr]
  obtain⟨hc,hf,hr,ht⟩:=h.put (n:=n) zo z;rw[ha]at hr ht;simp only[Q2,Qs];obtain⟨h1,h2⟩:=Ae z a0 k (n+1) (l.set n z) (w.setCell ⟨g,n,none⟩ (val z)) m hr (by simp;omega);have e:(l.set n z).take (n+1)++Mi k z=l.take n++z::Mi k z:=by
   have hl:n<(l.set n z).length:=by simp;omega
   rw[N0 hl,List.getElem_set_self,Q0 (M8 n)];simp
  rw[e]at h1;have u1:Upd (λj=>j=i) O w O (w.setCell ⟨g,n,none⟩ (val z)):=Upd.set (λe=>a0 e.symm) ht rfl;exact⟨h1,u1.trans h2⟩
theorem RowT.short{val:α->ix}(h:RowT (λx=>[val x]) E 1 O w i v l)(hn:n<=l.length):RowT (λx=>[val x]) E 1 O w i (dc v 1 0 n) (l.take n):=by
 have a3:∀l:List α,(l.flatMap λx=>[val x])=l.map val:=λl=>by induction l<;>simp_all
 obtain⟨⟨⟨hl,hr⟩,a1⟩,hz⟩:=h
 rcases hr with⟨rfl,h0⟩|⟨g,a2,a8,rfl,a7,hg,a9,a6,a5,ht⟩
 ·obtain rfl:l=[]:=LO h0;obtain rfl:n=0:=by simpa using hn
  exact RowT.nil _ _ _ _ _ _
 have e:dc (.slice (some ⟨g,0,none⟩) l.length a2) 1 0 n=.slice (some ⟨g,0,none⟩) n a2:=by
  simp only[dc,N1,R0]
  split<;>simp[Mc]
 have a0:(l.take n).length=n:=by simp;omega
 rw[e];refine⟨⟨⟨?_,.inr ⟨g,a2,a8,by rw[a0],a7,hg,by rw[a0];omega,a6,a5,?_⟩⟩,λg' a4=>a1 g' a4⟩,λx _=>rfl⟩
 ·rw[a3];simp
 rw[a3]at ht ⊢;rw[a0];have:=congrArg (NC n) ht;rw[Pp,<-Pv]at this;simpa[NM hn]using this
theorem vL{ops:Array LY}{a5:List LY}{st:St}{p:String}{e:Array MR} 
    {val:α->ix}     (hr:RowT (λx=>[val x]) E 1 O w i v l) (n:Nat) (hn:n<=l.length) (z:α) (a8:i≠0) (hT:P.underlying T=some (.slice E)) (hz:∀w,(MK E).run P w=.ok (val z) w) (a9:(val z).cells = #[val z]) (h1:(val z).oneCell'=true)
   (hx:ev st x=some sv) (b0:sv=dc v 1 n l.length)
  (h:∀w' l',RowT (λx=>[val x]) E 1 O w' i v l'->l'.take n=l.take n->l'.length=l.length->Upd (λj=>j=i) O w O w'->WL P N ops Q a5 st w'):WL P N ops Q (⟨none,.call ⟨.builtin .clear,#[x],#[T]⟩,t,p,e,none⟩::a5) st w:=by
 subst b0;have a7:=hr;have a0:∃w' l',(Qk #[T] t #[dc v 1 n l.length]).run P w=.ok (.tuple #[]) w'/\RowT (λx=>[val x]) E 1 O w' i v l'/\l'.take n=l.take n/\l'.length=l.length/\Upd (λj=>j=i) O w O w':=by
  by_cases he:n=l.length
  ·subst he;obtain⟨a,c,rfl,_⟩:=hr.sl.shape;refine⟨w,l,?_,hr,rfl,rfl,Upd.refl (λe=>a8 e.symm) _ _⟩;simp only[dc,PI];generalize (if c=l.length then a else a.map λx=>x.add (l.length*1))=q
   cases q<;>simp[Qk,run_underlying hT]
  obtain⟨⟨⟨hl,b1⟩,a'⟩,b3⟩:=hr
  rcases b1 with⟨rfl,h0⟩|⟨g,a6,b8,rfl,b7,hg,b4,b6,b5,ht⟩
  ·omega
  obtain⟨k,hk⟩:∃k,n+k=l.length:=⟨l.length-n,zo⟩
  obtain⟨c1,c2⟩:=Ae z a8 k n l w l.length a7 hk;refine⟨_,_,?_,c1,?_,by simp;omega,c2⟩
  ·have es:dc (.slice (some ⟨g,0,none⟩) l.length a6) 1 n l.length=.slice (some ⟨g,n,none⟩) k (a6-n):=by
    simp only[dc];rw[if_neg zo,show l.length-n=k from by omega];simp only[M1,Mc,Nx]
    split
    ·rename_i h;simp[h]
    simp
   rw[es];refine Lib.run_clear_slice w T E t (val z) hT hz a9 h1 g n k (a6-n) zo (λj hj=>?_) (λj hj=>by simp[NX,hg]);have:=a7.sl.cells (n+j) zo 0 (val l[n+j]) rfl;rw[aA]at this;have ha:adr (.slice (some ⟨g,0,none⟩) l.length a6) 1 (n+j)=⟨g,n+j,none⟩:=by simp[adr]
   rw[ha]at this;rw[this];rfl
  rw[Pf (by simp;omega),Pp,Nat.min_self]
 obtain⟨w',l',a0,a1,a2,a3,a4⟩:=a0;refine WL.step rfl λa ha=>?_
 unfold MT;have b2:(execOp a.eval ⟨none,.call ⟨.builtin .clear,#[x],#[T]⟩,t,p,e,none⟩).run P w=.ok (.value (.tuple #[])) w':=by
  simp only[execOp,resolve,invoke,builtin,L2,LQ,L1,L6,L9,M5,ha.ev hx,a0]
 rw[b2];exact h w' l' a1 a2 a3 a4 _ ha
end
end Go.VL
