/- Texts that the proof of this statement needs, merged and shortened. -/
import Derived.Test.YteolbhblkgjbhaaGreatDoorRows
import Derived.Test.YteolbhblkgjbhaaGreatDoorCards
import Derived.Test.YteolbhblkgjbhaaGreatDoorTie
import Derived.SevenTiedAt
import Derived.LaidMore
import Derived.LaidHandle
import Derived.LaidLaws
import Derived.Lay
import Derived.Lib.LaidTab
import Derived.Calls
import Derived.Tactics
import Derived.Deep.Quiet
import Derived.Below
import Derived.OwnWalk
import Derived.IntWalk
import Derived.Deep.LoopGhost
import Derived.Great.BuildSlice
import Derived.OrdersHeld
import Derived.StillTail
import Derived.WalkKit
import Derived.ProofKit
import Derived.OpenShut
import Derived.ShutString
import Derived.ChangeOld
import Derived.Deep.Matrix
import Derived.Deep.Slices
import Derived.Laws.Strings3
import Derived.Laws.Concat
import Derived.Laws.Slices
import Derived.Laws.Cover3
import Derived.Laws.Pointers
import Derived.Laws.OwnMore
import Derived.Laws.IdiomStrings
import Derived.Laws.BytesArg
import Derived.RangeFuncLeaves
import Derived.RangeFuncCalls
import Derived.RangeFuncSeq
import Derived.TacticsIn
import Derived.Laws.LoneSync
import Derived.Laws.CopyRow
import Derived.Lib.Builder
import Derived.Lib.AppendStr
import Derived.Lib.UnsafeStr
import Derived.Shelf.Sort.Plain
import Derived.Shelf.Slices.In.SortNone
import Derived.Ground.Names2Prog
import Derived.Shelf.Slices.CompactI
import Derived.Test.YteolbhblkgjbhaaGreatDoorProg
import Derived.Sort.OwnSortedInts
import Derived.Maps.RangeRun
import Derived.ChangeKeysEq
import Derived.Lib.SliceRun
import Derived.Test.YteolbhblkgjbhaaGreatDoorChecked
import Derived.Laws.RangeString
import Derived.Scope
import Derived.Shelf.Spec.TrailingZeros
import Derived.ArgAppend
import Derived.Deep.Upon
set_option linter.defProp false
open Go renaming Value->ix,World->ln,TypeId->L0,Operand->L3,Program->L7,IntKind->LX,Oper->M8,sizeOf->Mp,Exit->Mq,Addr->Mr,Deferred->MH,Act->MJ,FuncId->MU,Edge->MV,Code->MX,zeroValue->N4,isAgg->Q0,MapEntry->Q4,Func->Qn,Calls->Qu,Tmp->QM,Field->Ra,BinOp->Rb
open Nat renaming blt->L1,eq_of_beq_eq_true->LZ,lt_of_lt_of_le->M9,le_refl->Me,not_lt_zero->Ms,zero_le->Mt,zero_add->Mu,le_trans->MF,beq->MG,le_of_ble_eq_true->MY,add_mul->Nf,mul_one->Nx,zero_mul->NJ,min_eq_left->NT,add_assoc->P5,ble->Pe,add_zero->Pf,pos_of_ne_zero->PP,zero_testBit->Q3,testBit_or->Qe,sub_self->Qw,add_comm->Qx
open Go.Result renaming andThen_ok->L2,ok->Qv
open Go.Proofs.Tryz renaming prog->L4,sizeOf3->Ma,sizeOf22->ME,underlying31->N0,sizeOf4->N1,underlying327->N6,underlying151->N7,underlying140->N8,underlying111->N9,underlying278->Nl,underlying250->Nm,underlying114->Nn,underlying26->Nw,sizeOf9->NS,sizeOf96->Pa,sizeOf24->Pb,underlying287->Po,underlying283->Pp,underlying280->Pq,underlying237->Pr,underlying122->Ps,underlying120->Pu,sizeOf130->Px,sizeOf120->Py,underlying98->PJ,underlying96->PK,underlying56->PL,underlying45->PM,underlying22->PN,sizeOf27->QB,underlying248->QD,underlying240->QE,underlying225->QG,underlying197->QH,underlying185->QJ,underlying170->QK,underlying138->QL,underlying77->QQ,underlying75->QR,underlying29->QS,isAgg22->QT,zeroValue22->R4,underlying4->R5,underlying3->R6,underlying0->R7,zeroValue4->Re,zeroValue3->Rf,zeroValue0->Rg,isAgg4->Rh,isAgg3->Ri
open Go.Sem renaming run_bind->L5,run_pure->Mb,run->NY
open Array renaming getD_eq_getD_getElem?->L6,replicate->NO,getElem?_setIfInBounds->NP,toList_setIfInBounds->NX,getElem?_modify->P9,toList_modify->Pm,length_toList->Pn,toList_push->PI
open List renaming map_toArray->L8,mem_singleton->L9,eq_nil_of_length_eq_zero->M0,map_cons->M1,mem_append->Md,getElem?_eq_some_iff->Mf,append_assoc->Mi,map_nil->Mm,length_append->Mn,getD_eq_getElem?_getD->Mo,range->Mv,getElem?_eq_getElem->Mw,cons_append->Mz,append_nil->MI,take_append_drop->MK,flatMap_cons->MM,mem_map->MO,length_cons->MP,findIdx?_cons->MS,mem_range->MT,nil_append->N2,replicate->Nc,getElem_mem->Nj,any_eq_true->Nk,mem_filter->No,length_nil->Np,foldl_cons->Nq,getElem?_eq_none->Ns,dropWhile_suffix->Nu,take_succ_eq_append_getElem->NG,size_toArray->NH,getElem?_map->NI,take->NK,mem_flatMap->NL,map_append->NQ,map->NZ,sum_cons->P3,getElem_cons_zero->P7,drop_eq_nil_of_le->P8,length_filter_le->Pg,mem_append_left->Pj,getElem?_modify->Pk,getElem_of_mem->Pw,getElem_range->PD,find?_eq_none->PE,nodup_append->PQ,ext_getElem?->PS,suffix_cons->PW,getElem_map->PX,all_eq_true->PY,length_map->Q5,take_zero->Q9,take_left->Qa,mem_cons->Qf,findIdx?->Qg,any_cons->Qh,all_cons->Qi
open Classical renaming byContradiction->LY
open Bool renaming and_eq_true->M4,false_or->P4,false_eq_true->PH,eq_iff_iff->Q7,or_assoc->Qp
open Go.Region renaming ready->M5,noSelect->M6,wanted->M7,free->Mg
open Option renaming map_some->Mc,map_none->MB,bind_some->PB
open Go.Addr renaming add->Mh
open Go.Fence renaming wide->Mj
open Go.Calls renaming mono->Mk
open Int renaming toNat_natCast->Ml,le_refl->NR
open Go.Deferred renaming ofValue->Mx
open Go.Instr renaming sureAddr->My,findNow->MZ,fill->Nb,storeAt->Nz,keyThatStays->NC,mapUpdate->NM,sameBits->NU,checkKey->NV,indexAt->P1,findKey->P2,sameNow->Qb,lookup->Qj,loadAt->Qk,build->Qs
open Go.Act renaming eval->MA,put->Ng
open Go.Lib renaming compact->MC,compactUpTo->N5,keeps->Q6
open Go.Exit renaming inBlock->MD
open Go.Value renaming oneCell'->MN,int->MR,ownBlock->Na,cells->Pc,bool->Pv,string->Qd
open Go.Oper renaming wp->MQ,upon->Ni,uponIn->Pi,still->QA
open List.cons renaming injEq->MW
open Go.World renaming block_lt_of_cell?->Nh,setCell->Ny,cells?_some->Pz,cell?_spot->PO,frozen?->Q8,cell?->Qq
open Go.IntKind renaming signed->Nr,bits->NB,max->P6,wrap->Rn
open Option.some renaming injEq->Nv,inj->QC
open Go.Op renaming intCmp->NA,intArith->PC,intBits->QO,shift->R8
open Go.Builtin renaming zeroCells->ND,append_->PF,len_->Rp,lenOf->Rq,firstCells->Rr
open Go.RowKit.Below renaming heap_setCell->NF,refl->Qy,heap_alloc->Qz
open Go.Code renaming region->NN
open Go.DataW renaming trod->NW
open UInt8 renaming ofNat->Pd,toNat->Qr
open Function renaming comp_def->Ph
open Go.Sort renaming ahead->PA
open Go.CallsDIn renaming mono->PT
open Go.Rows renaming mono->PU
open Prod.mk renaming injEq->PV
open Go.Shelf renaming Ren->PZ
open Go.Program renaming elem->Q2
open BitVec renaming ofInt->Qc
open Go.Proofs.Lays2 renaming n20->Ql
open Go.Conv renaming intToInt->Qo
open Go.Proofs.Lays renaming n189->Qt
open Prod renaming fst->QN
open Go.ByteArray renaming toList_mk->QU,extract_mk->QY
open ByteArray renaming toList->QV,size->QW,getElem_eq_getElem_data->QX,ext->QZ,data_append->R0
open Go.Lit renaming int->R9
open Go.StepsIn renaming trans->Rj
open Go.Machine renaming fenced->Rk
open Go.IntWalk renaming u8_in->Rl,i64_in->Rm
open Go.CallsIn renaming mono->Ro
def _root_.Eq.J.{u}{α:Sort u}{a b c:α}(h:a=b)(k:b=c):a=c:=h.trans k
def _root_.Iff.J{a b c:Prop}(h:a<->b)(k:b<->c):a<->c:=h.trans k
def _root_.List.IsSuffix.J.{u}{α:Type u}{a b c:List α}(h:a<:+b)(k:b<:+c):a<:+c:=h.trans k
def am.{u}{c:Prop}{h:Decidable c}(k:¬c){α:Sort u}{t e:α}:ite c t e=e:=_root_.if_neg k
def ap.{u}{c:Prop}{h:Decidable c}(k:c){α:Sort u}{t e:α}:ite c t e=t:=_root_.if_pos k
variable {α:Type}{I:(Nat->Nat)->ln->Prop}{b b' se:Bool}{m:Int}{E T t xt yt:L0}{c y:L3}{P:L7}{k k':LX}{s:List Int}{L:List Int->Prop}{args:List L3}{tl:List M8}{ds:List MH}{r:List UInt8}{cs us vs:List ix}{o:M8}{K:MJ->ln->Prop}{f:MU}{x:MX}{Ix:MX->(Nat->Nat)->ln->Prop}{Q Q':Mq->MJ->ln->Prop}{q:Mr}{B N a bytes d e i id j n sz tA tB:Nat}{R:Nat->List Int->Prop}{O O':Nat->Nat}{S:Nat->Prop}{g:Option (Nat×Bool)}{ro:Option Nat}{a0:Option QM}{A:Prop}{op:Rb}{u v v' xv z:ix}{R':ix->ln->Prop}{w w' w0:ln}{l xs:List α}{p:α->Bool}{enc:α->List ix}{μ:α->Nat}
variable {β:Type}{tP:Nat}{O2:Nat->Nat}{S':Nat->Prop}
namespace Go.VL
def zo(h:A:=by omega):A:=h
def zd(h:A:=by decide):A:=h
def zk(h:A:=by kernel_rfl):A:=h
def dT{p q:Prop}[Decidable p](h:decide p=true)(k:p→q:=by intro h;omega):q:=k (of_decide_eq_true h)
def dF{p q:Prop}[Decidable p](h:decide p=false)(k:¬p→q:=by intro h;omega):q:=k (of_decide_eq_false h)
abbrev nI(n:Int):ix:=.int .i64 n
abbrev nP(b:Nat):ix:=.pointer (some ⟨b,0,none⟩)
abbrev nA(b k:Nat):Mr:=(⟨b,0,none⟩:Mr).add k
abbrev nS:ix:=.slice none 0 0
end Go.VL
section
namespace Go.VL
abbrev St:=List (Nat×ix)
def cV:St->Nat->Option ix
 |[],_=>none
 |(k,v)::r,t=>bif MG k t then some v else cV r t
structure Fits(N:Nat)(a:MJ)(st:St):Prop where
 size:a.tmps.size=N
 defers:a.defers=[]
 get:∀t v,cV st t=some v->a.tmps[t]? = some v
def ev(st:St):L3->Option ix
 |.tmp t=>cV st t
 |.const v=>some v
 |.global g=>some (nP g)
 |.func f=>some (.func (.func f) #[] #[])
def Cov(st:St):St->Prop
 |[]=>True
 |(t,v)::r=>cV st t=some v/\Cov st r
def Fits.ev{N:Nat}{a:MJ}{st:St}(h:Fits N a st){x:L3}{v:ix}(he:ev st x=some v):a.eval x=v:=by
 cases x with
 |tmp t=>
  have:=h.get t v he;simp[MA,L6,this]
 |const u=>simpa[VL.ev,MA]using he
 |global g=>simpa[VL.ev,MA]using he
 |func f=>simpa[VL.ev,MA]using he
def Fits.cov{a:MJ}{st:St}(h:Fits N a st):∀ {a0:St},Cov st a0->Fits N a a0:=by
 intro a0 hc;refine⟨h.size,h.defers,?_⟩
 induction a0 with
 |nil=>intro t v hv;simp[cV]at hv
 |cons p r ih=>
  obtain⟨k,u⟩:=p;obtain⟨h1,h2⟩:=hc;intro t v hv;simp only[cV]at hv
  cases hb:MG k t with
  |true=>
   rw[hb]at hv;have:k=t:=LZ hb;simp at hv;subst this;subst hv;exact h.get _ _ h1
  |false=>rw[hb]at hv;exact ih h2 t v hv
def Fits.put{N:Nat}{a:MJ}{st:St}(h:Fits N a st){d:Nat}(hd:L1 d N=true)(v:ix):Fits N (a.put (some d) v) ((d,v)::st):=by
 have a0:d<a.tmps.size:=by rw[h.size];exact MY hd
 refine⟨by simp[Ng,h.size],h.defers,?_⟩;intro t u hu;simp only[cV]at hu;simp only[Ng,NP]
 cases hb:MG d t with
 |true=>
  have:d=t:=LZ hb;rw[hb]at hu;simp at hu;subst this;subst hu;simp[a0]
 |false=>
  have:d≠t:=λe=>by rw[e]at hb;simp at hb
  rw[hb]at hu;rw[am this];exact h.get t u hu
section
variable(P:L7)(N:Nat)
def WL(ops:Array M8)(Q:Mq->MJ->ln->Prop)(l:List M8)(st:St)(w:ln):Prop:=∀a,Fits N a st->wpList P ops Q l a w
def WC(c:MX)(Q:Mq->MJ->ln->Prop)(st:St)(w:ln):Prop:=∀a,Fits N a st->c.wp P Q a w
def QF(Q:Mq->MJ->ln->Prop)(e:Mq)(st:St)(w:ln):Prop:=∀a,Fits N a st->Q e a w
end
section
variable{P:L7}{N:Nat}{ops:Array M8}{Q:Mq→MJ→ln→Prop}{rest:List M8}{st:St}{w:ln}
def WC.region{l:List M8}(h:WL P N l.toArray Q l st w):WC P N (NN id l.toArray false) Q st w:=λa ha=>wp_region_lit (h a ha)
def WL.nil(h:QF N Q .normal st w):WL P N ops Q [] st w:=h
def WC.seq{x y:MX}(h:WC P N x (Exit.then (y.wp P Q) Q) st w):WC P N (.seq x y) Q st w:=λa ha=>wp_seq (h a ha)
def WC.skip(h:QF N Q .normal st w):WC P N .skip Q st w:=λa ha=>wp_skip (h a ha)
def WC.exit{id:Nat}(h:QF N Q (.exit id) st w):WC P N (.exit id) Q st w:=λa ha=>wp_exit (h a ha)
def WC.ret(h:QF N Q .ret st w):WC P N .ret Q st w:=λa ha=>wp_ret (h a ha)
def WC.block{id:Nat}{c:MX}(h:WC P N c (MD id Q) st w):WC P N (.block id c) Q st w:=λa ha=>wp_block (h a ha)
def WC.cond{c:L3}{x y:MX}{b:Bool}(hc:ev st c=some (.bool b))(ht:b=true->WC P N x Q st w)(hf:b=false->WC P N y Q st w):WC P N (.cond c x y) Q st w:=
 λa ha=>wp_cond_split (ha.ev hc) (λe=>ht e a ha) (λe=>hf e a ha)
def DS{y:MX}(hc:ev st c=some (.bool true))(ht:WC P N x Q st w):WC P N (.cond c x y) Q st w:=
 λa ha=>wp_cond_true (ha.ev hc) (ht a ha)
def DT{y:MX}(hc:ev st c=some (.bool false))(hf:WC P N y Q st w):WC P N (.cond c x y) Q st w:=
 λa ha=>wp_cond_false (ha.ev hc) (hf a ha)
def aa{y:MX}(h:WC P N y Q st w):QF N (Exit.then (y.wp P Q) Q') .normal st w:=h
def aB(h:QF N Q (.exit id) st w):QF N (Exit.then K Q) (.exit id) st w:=h
def da(h:QF N Q .ret st w):QF N (Exit.then K Q) .ret st w:=h
def au(h:QF N Q .normal st w):QF N (MD id Q) .normal st w:=h
def gX(h:QF N Q .ret st w):QF N (MD id Q) .ret st w:=h
def aJ(h:QF N Q .normal st w):QF N (MD id Q) (.exit id) st w:=λa ha=>by
 show if id=id then _ else _
 rw[ap rfl];exact h a ha
def nq{a0:Nat}(a1:MG a0 id=false)(h:QF N Q (.exit a0) st w):QF N (MD id Q) (.exit a0) st w:=λa ha=>by
 show if a0=id then _ else _
 rw[am (λe=>by rw[e]at a1;simp at a1)];exact h a ha
def ay{l:List M8}(hs:cV st d=some (.bool b))(hb:b=b')(h:WL P N ops Q l ((d,.bool b')::st) w):WL P N ops Q l st w:=by
 subst hb;refine λa ha=>h a ⟨ha.size,ha.defers,λt v hv=>?_⟩
 simp only[cV]at hv
 cases hb:MG d t with
 |true=>rw[hb]at hv;have:=LZ hb;subst this;simp at hv;subst hv;exact ha.get _ _ hs
 |false=>rw[hb]at hv;exact ha.get _ _ hv
def aM{y:MX}(hc:ev st c=some (.bool b))(hb:b=true)(ht:WC P N x Q st w):WC P N (.cond c x y) Q st w:=by
 subst hb;exact DS hc ht
def aH{y:MX}(hc:ev st c=some (.bool b))(hb:b=false)(hf:WC P N y Q st w):WC P N (.cond c x y) Q st w:=by
 subst hb;exact DT hc hf
def QF.weaken{e:Mq}{a0:St}(hc:Cov st a0)(h:QF N Q e a0 w):QF N Q e st w:=λa ha=>h a (ha.cov hc)
def WC.loop{α:Type}{c:MX}(f:α->St)(g:α->ln)(I:α->Prop)(μ:α->Nat)(x0:α)(h0:I x0)(hc:Cov st (f x0))(hw:g x0=w)
  (a0:∀x,I x->WC P N c (Exit.then (λa' w'=>∃y,I y/\μ y<μ x/\Fits N a' (f y)/\g y=w') Q) (f x) (g x)):WC P N (.loop c) Q st w:=by
 intro a ha;apply wp_loop_ghost (λn a w=>∃y,I y/\μ y=n/\Fits N a (f y)/\g y=w) (μ x0) ⟨x0,h0,rfl,ha.cov hc,hw⟩;rintro n a w ⟨x,hI,rfl,hf,rfl⟩;apply wp_mono (a0 x hI a hf);intro e a' w' hq
 cases e with
 |normal=>obtain⟨y,h1,h2,h3,h4⟩:=hq;exact⟨μ y,h2,y,h1,rfl,h3,h4⟩
 |_=>exact hq
def QF.next{f:α->St}{g:α->ln}{I:α->Prop}{m:Nat}(y:α)(h1:I y)(h2:μ y<m)(h3:Cov st (f y))(h4:g y=w):
 QF N (Exit.then (λa' w'=>∃y,I y/\μ y<m/\Fits N a' (f y)/\g y=w') Q) .normal st w:=λ_ ha=>⟨y,h1,h2,ha.cov h3,h4⟩
def di(h:o.guard=none)(y:Nat->Option Bool):M7 o y=true:=by simp[M7,h]
def WL.step(hg:o.guard=none)(h:∀a,Fits N a st->o.wp P a w (wpList P ops Q rest) Q):WL P N ops Q (o::rest) st w:=by
 intro a ha;unfold wpList;rw[ap (di hg _)];exact .inl (h a ha)
def WL.val{op:Op}{p:String}{e:Array MV}(hd:L1 d N=true)
  (a0:∀a:MJ,Fits N a st->(execOp a.eval ⟨some d,op,t,p,e,none⟩).run P w=.ok (.value v) w')
  (h:WL P N ops Q rest ((d,v)::st) w'):WL P N ops Q (⟨some d,op,t,p,e,none⟩::rest) st w:=by
 refine WL.step rfl λa ha=>?_
 unfold MQ;rw[a0 a ha];exact h _ (ha.put hd v)
def iZ{op:Op}{p:String}{e:Array MV}
  (a0:∀a:MJ,Fits N a st->(execOp a.eval ⟨none,op,t,p,e,none⟩).run P w=.ok .skip w')
  (h:WL P N ops Q rest st w'):WL P N ops Q (⟨none,op,t,p,e,none⟩::rest) st w:=by
 refine WL.step rfl λa ha=>?_
 unfold MQ;rw[a0 a ha];exact h _ ha
def said(ops:Array M8)(st:St)(j:Nat):Option Bool:=
 match (ops[j]?).bind (·.dst)with
 |some d=>match cV st d with
  |some (.bool b)=>some b
  |_=>none
 |none=>none
def cN{a:MJ}(ha:Fits N a st)(h:said ops st j=some b):yielded ops a.tmps j=some b:=by
 unfold said at h;unfold yielded
 cases hd:(ops[j]?).bind (·.dst)with
 |none=>rw[hd]at h;simp at h
 |some d=>
  rw[hd]at h;simp only at h
  cases hs:cV st d with
  |none=>rw[hs]at h;simp at h
  |some v=>
   rw[hs]at h
   cases v<;>simp at h
   subst h;simp[ha.get _ _ hs]
def bt{op:Op}{p:String}{e:Array MV}{d:Option QM}(hs:said ops st j=some b)
  (h:WL P N ops Q (⟨d,op,t,p,e,none⟩::rest) st w):WL P N ops Q (⟨d,op,t,p,e,some (j,b)⟩::rest) st w:=by
 intro a ha;have h1:=h a ha;unfold wpList at h1 ⊢;rw[ap (by simp[M7])]at h1;rw[ap (by simp[M7,cN ha hs])];exact h1
def WL.off{op:Op}{p:String}{e:Array MV}(hs:said ops st j=some b')(a0:(b'==b)=false)(hd:L1 d N=true)
  (h:WL P N ops Q rest ((d,undef)::st) w):WL P N ops Q (⟨some d,op,t,p,e,some (j,b)⟩::rest) st w:=by
 intro a ha;unfold wpList;rw[am (by simp[M7,cN ha hs];simpa using a0)];exact h _ (ha.put hd undef)
def jY(ops:Array M8)(st:St)(j:Nat):Bool:=
 match (ops[j]?).bind (·.dst)with
 |some d=>match cV st d with
  |some (.tuple _)=>true
  |_=>false
 |none=>false
def bR{op:Op}{p:String}{e:Array MV}(hs:jY ops st j=true)(hd:L1 d N=true)
  (h:WL P N ops Q rest ((d,undef)::st) w):WL P N ops Q (⟨some d,op,t,p,e,some (j,b)⟩::rest) st w:=by
 intro a ha;unfold wpList;rw[am ?_]
 ·exact h _ (ha.put hd undef)
 unfold jY at hs;simp only[M7,yielded]
 cases hd:(ops[j]?).bind (·.dst)with
 |none=>rw[hd]at hs;simp at hs
 |some d=>
  rw[hd]at hs;simp only at hs
  cases hx:cV st d with
  |none=>rw[hx]at hs;simp at hs
  |some v=>
   rw[hx]at hs
   cases v<;>simp at hs
   simp[ha.get _ _ hx]
def RV(P:L7)(N:Nat)(op:Op)(t:L0)(st:St)(w:ln)(v:ix):Prop:=
 ∀a:MJ,Fits N a st->∀(dst:Option QM) (p:String) (e:Array MV) (g:Option (Nat×Bool)),(execOp a.eval ⟨dst,op,t,p,e,g⟩).run P w=.ok (.value v) w
def aE{op:Op}{p:String}{e:Array MV}(hv:RV P N op t st w v)(hd:L1 d N=true)
 (h:WL P N ops Q rest ((d,v)::st) w):WL P N ops Q (⟨some d,op,t,p,e,none⟩::rest) st w:=WL.val hd (λa ha=>hv a ha _ _ _ _) h
section
variable{t:L0}{p:String}{e:Array MV}{d:Nat}{x y z:L3}
def RV.move{v:ix}(hx:ev st x=some v):RV P N (.move x) t st w (v):=
 λa ha a0 p e g=>by simp only[execOp,ha.ev hx];rfl
def RV.assign{v:ix}(hx:ev st x=some v):RV P N (.assign x) t st w (v):=
 λa ha a0 p e g=>by simp only[execOp,ha.ev hx];rfl
def jn{a:MJ}(hx:a.eval x=.bool b):(execOp a.eval ⟨a0,.pick x y z,t,p,e,g⟩).run P w=.ok (.value (bif b then a.eval y else a.eval z)) w:=by
 simp only[execOp,hx];cases b<;>rfl
def aV(hc:ev st x=some (.bool false))(hz:ev st z=some u):RV P N (.pick x y z) t st w (u):=
 λa ha a0 p e g=>by rw[jn (ha.ev hc),ha.ev hz];rfl
def aT(hc:ev st x=some (.bool true))(hy:ev st y=some v):RV P N (.pick x y z) t st w (v):=
 λa ha a0 p e g=>by rw[jn (ha.ev hc),ha.ev hy];rfl
def aq(hx:ev st x=some (.pointer (some q))):RV P N (.nilCheck x) t st w (.pointer (some q)):=
 λa ha a0 p e g=>by simp only[execOp,ha.ev hx];rfl
section
variable{k:LX}{m n:Int}{xt yt:L0}
def xA{n:Int}{a:MJ}(hx:a.eval x=.int k m)(hy:a.eval y=.int k' n)(h:(binOp op xt (.int k m) (.int k' n)).run P w=.ok v w):
  (execOp a.eval ⟨a0,.binOp op xt x y yt,t,p,e,g⟩).run P w=.ok (.value v) w:=by
 simp only[execOp,hx,hy];have hg:(eqGuard op xt x y (.int k m) (.int k' n))=pure ():=by
  unfold eqGuard;cases op<;>rfl
 rw[hg];simp[h]
def gx(hx:ev st x=some (.int k m))(hy:ev st y=some (.int k' n))(hv:(binOp op xt (.int k m) (.int k' n)).run P w=.ok v w):RV P N (.binOp op xt x y yt) t st w (v):=
 λ_ ha _ _ _ _=>xA (ha.ev hx) (ha.ev hy) hv
def Iz:(binOp .add xt (.int k m) (.int k n)).run P w=.ok (.int k (k.wrap (m+n))) w:=by simp[binOp,PC,pure]
def Ip:(binOp .sub xt (.int k m) (.int k n)).run P w=.ok (.int k (k.wrap (m-n))) w:=by simp[binOp,PC,pure]
def Ir:(binOp .mul xt (.int k m) (.int k n)).run P w=.ok (.int k (k.wrap (m*n))) w:=by simp[binOp,PC,pure]
def Is:(binOp .lss xt (.int k m) (.int k n)).run P w=.ok (.bool (decide (m<n))) w:=by simp[binOp,NA,pure]
def It:(binOp .leq xt (.int k m) (.int k n)).run P w=.ok (.bool (decide (m<=n))) w:=by simp[binOp,NA,pure]
def Iu:(binOp .gtr xt (.int k m) (.int k n)).run P w=.ok (.bool (decide (n<m))) w:=by simp[binOp,NA,pure]
def Iv:(binOp .geq xt (.int k m) (.int k n)).run P w=.ok (.bool (decide (n<=m))) w:=by simp[binOp,NA,pure]
def Iw:(binOp .eql xt (.int k m) (.int k n)).run P w=.ok (.bool (m==n)) w:=by simp[binOp,NA,pure]
def Iq:(binOp .neq xt (.int k m) (.int k n)).run P w=.ok (.bool (m != n)) w:=by simp[binOp,NA,pure]
def Fit(k:LX)(r:Int):Prop:=k.wrap r=r
def Fit.i64{r:Int}(h : -9223372036854775808<=r/\r<=9223372036854775807):Fit .i64 r:=Rm r h
def Fit.u8{r:Int}(h:0<=r/\r<=255):Fit .u8 r:=Rl r h
def RV.add(hx:ev st x=some (.int k m))(hy:ev st y=some (.int k n))(hr:Fit k (m+n)):RV P N (.binOp .add xt x y yt) t st w (.int k (m+n)):=
 gx hx hy (by rw[Iz,hr])
def RV.sub(hx:ev st x=some (.int k m))(hy:ev st y=some (.int k n))(hr:Fit k (m-n)):RV P N (.binOp .sub xt x y yt) t st w (.int k (m-n)):=
 gx hx hy (by rw[Ip,hr])
def RV.lss(hx:ev st x=some (.int k m))(hy:ev st y=some (.int k n)):RV P N (.binOp .lss xt x y yt) t st w (.bool (decide (m<n))):=
 gx hx hy Is
def RV.leq(hx:ev st x=some (.int k m))(hy:ev st y=some (.int k n)):RV P N (.binOp .leq xt x y yt) t st w (.bool (decide (m<=n))):=
 gx hx hy It
def RV.gtr(hx:ev st x=some (.int k m))(hy:ev st y=some (.int k n)):RV P N (.binOp .gtr xt x y yt) t st w (.bool (decide (n<m))):=
 gx hx hy Iu
def RV.geq(hx:ev st x=some (.int k m))(hy:ev st y=some (.int k n)):RV P N (.binOp .geq xt x y yt) t st w (.bool (decide (n<=m))):=
 gx hx hy Iv
def RV.eql(hx:ev st x=some (.int k m))(hy:ev st y=some (.int k n)):RV P N (.binOp .eql xt x y yt) t st w (.bool (m==n)):=
 gx hx hy Iw
def RV.neq(hx:ev st x=some (.int k m))(hy:ev st y=some (.int k n)):RV P N (.binOp .neq xt x y yt) t st w (.bool (m != n)):=
 gx hx hy Iq
def RV.not{b:Bool}(hx:ev st x=some (.bool b)):RV P N (.unOp .not xt x) t st w (.bool (!b)):=
 λa ha a0 p e g=>by simp only[execOp,ha.ev hx];rfl
def DY{a0:TypeDesc}(hs:P.underlying xt=some a0)(a2:P.underlying yt=some (.int k'))(hx:ev st x=some (.int k m))(hr:Fit k' m):RV P N (.convert xt yt x) t st w (.int k' m):=
 λa ha a3 p e g=>by
  have a1:k'.wrap m=m:=hr;simp only[execOp,ha.ev hx];simp[convert,run_underlying hs,run_underlying a2,Qo,a1]
def nZ{a0:TypeDesc}(hs:P.underlying xt=some a0)(a1:P.underlying yt=some (.int k'))(hx:ev st x=some (.int k m)):RV P N (.convert xt yt x) t st w (.int k' (k'.wrap m)):=
 λa ha a2 p e g=>by
  simp only[execOp,ha.ev hx];simp[convert,run_underlying hs,run_underlying a1,Qo]
end
def RV.extract{vs:Array ix}{i:Nat}{v:ix}(hx:ev st x=some (.tuple vs))(hv:vs[i]? = some v):RV P N (.extract x i) t st w (v):=
 λa ha a0 p e g=>by simp only[execOp,ha.ev hx];simp[Instr.extract,hv]
def evs(st:St):List L3->Option (List ix)
 |[]=>some []
 |x::r=>match ev st x,evs st r with
  |some v,some vs=>some (v::vs)
  |_,_=>none
def Fits.evs{a:MJ}(ha:Fits N a st):∀ {l:List L3} {vs:List ix},evs st l=some vs->l.map a.eval=vs:=by
 intro l
 induction l with
 |nil=>intro vs h;simpa[VL.evs]using h.symm
 |cons x r ih=>
  intro vs h;simp only[VL.evs]at h
  cases h1:VL.ev st x with
  |none=>rw[h1]at h;simp at h
  |some v=>
   cases h2:VL.evs st r with
   |none=>rw[h1,h2]at h;simp at h
   |some vs'=>
    rw[h1,h2]at h;simp at h;subst h;rw[M1,ha.ev h1,ih h2]
def eo{fn:Fn}{f c:List L3}{fs cs:List ix}(hf:evs st f=some fs)(hc:evs st c=some cs):RV P N (.makeFunc fn f.toArray c.toArray) t st w (.func fn fs.toArray cs.toArray):=
 λa ha a0 p e g=>by simp only[execOp,Instr.makeFunc,L8,ha.evs hf,ha.evs hc];rfl
def WL.box{E:L0}{v:ix}(hx:ev st x=some v)(hd:L1 d N=true)
  (h:WL P N ops Q rest ((d,.pointer (some ⟨w.heap.size,0,none⟩))::st) (w.alloc (.cells v.cells E))):WL P N ops Q (⟨some d,.box E x,t,p,e,none⟩::rest) st w:=
 WL.val hd (λa ha=>by simp only[execOp,ha.ev hx];rfl) h
def WL.alloc{E:L0}{z:ix}(hz:(N4 E).run P w=.ok z w)(hd:L1 d N=true)
  (h:WL P N ops Q rest ((d,.pointer (some ⟨w.heap.size,0,none⟩))::st) (w.alloc (.cells z.cells E))):WL P N ops Q (⟨some d,.alloc E,t,p,e,none⟩::rest) st w:=
 WL.val hd (λa ha=>by
  simp only[execOp,Instr.alloc]
  simp[hz,newVar,newRow,newObj];rfl) h
def Ret(P:L7)(f:MU)(args:List ix)(w:ln)(R:ix->ln->Prop):Prop:=
 Qu P f args.toArray w fun | .returned v,w'=>R v w'|_,_=>False
def Ret.mono{args:List ix}{R:ix->ln->Prop}(h:Ret P f args w R)(hr:∀v w',R v w'->R' v w'):Ret P f args w R':=
 Mk h λe w' q=>by cases e<;>first|exact hr _ _ q|exact q.elim
def WL.call{f:MU}{args:List L3}{a2:Array L0}{vs:List ix}{R:ix->ln->Prop}
  (hf:∀(args:Array ix) (w:ln),(callFunc f args).run P w=.ok (.enter f args) w) (a0:evs st args=some vs) (hc:Ret P f vs w R) (hd:L1 d N=true)
  (h:∀v w',R v w'->WL P N ops Q rest ((d,v)::st) w'):WL P N ops Q (⟨some d,.call ⟨.value (.func f),args.toArray,a2⟩,t,p,e,none⟩::rest) st w:=by
 refine WL.step rfl λa ha=>?_
 unfold MQ;have a1:(execOp a.eval ⟨some d,.call ⟨.value (.func f),args.toArray,a2⟩,t,p,e,none⟩).run P w=.ok (.enter f vs.toArray) w:=by
  simp only[execOp,resolve,MA,L8];rw[ha.evs a0];simp[Mx,invoke,hf]
 rw[a1];exact Mk hc λe w' q=>by
  cases e with
  |returned v=>exact h v w' q _ (ha.put hd v)
  |panicked c=>exact q.elim
  |outgrown=>exact q.elim
def ej{a2:Array L0}{cs:Array ix}{R:ix->ln->Prop}
  (hx:ev st x=some (.func (.func f) #[] cs))
  (hf:∀(args:Array ix) (w:ln),(callFunc f args).run P w=.ok (.enter f args) w) (a0:evs st args=some vs) (hc:Ret P f (vs++cs.toList) w R) (hd:L1 d N=true)
  (h:∀v w',R v w'->WL P N ops Q rest ((d,v)::st) w'):WL P N ops Q (⟨some d,.call ⟨.value x,args.toArray,a2⟩,t,p,e,none⟩::rest) st w:=by
 refine WL.step rfl λa ha=>?_
 unfold MQ;have a1:(execOp a.eval ⟨some d,.call ⟨.value x,args.toArray,a2⟩,t,p,e,none⟩).run P w=.ok (.enter f (vs++cs.toList).toArray) w:=by
  simp only[execOp,resolve,L8,ha.evs a0,ha.ev hx];simp[Mx,invoke,hf]
 rw[a1];exact Mk hc λe w' q=>by
  cases e with
  |returned v=>exact h v w' q _ (ha.put hd v)
  |panicked c=>exact q.elim
  |outgrown=>exact q.elim
end
end
def RP(P:L7)(fn:Qn)(R:ix->ln->Prop):Mq->MJ->ln->Prop
 |.normal,a,w |.ret,a,w=>a.defers=[]/\∃v,(results fn a.tmps).run P w=.ok v w/\R v w
 |_,_,_=>False
def Ret.body{P:L7}{N:Nat}{f:MU}{fn:Qn}{c:MX}{args:List ix}{st:St}{w:ln}{R:ix->ln->Prop}
  (hf:P.funcs[f]? = some fn) (hb:fn.body=some c) (hN:fn.ntmps=N) (a0:Fits N { tmps:=args.toArray++NO (N-args.length) undef,defers:=[] } st)
  (h:WC P N c (RP P fn R) st w):Ret P f args w R:=by
 apply calls_of_wp hf hb;rw[hN];apply wp_mono (h _ (by simpa using a0))
 intro e a w' q
 cases e<;>first|exact q|exact q.elim
def mI:∀ {args:List ix} (_:Pe args.length N=true) {st:St} (_:∀t v,cV st t=some v->args[t]? = some v),
  Fits N { tmps:=args.toArray++NO (N-args.length) undef,defers:=[] } st:=by
 intro args hN st h;have a1:=MY hN;refine⟨by simp;omega,rfl,λt v hv=>?_⟩;have:=h t v hv;rw[Array.getElem?_append_left (by simpa using ((Mf.1 this).1))];simpa using this
def Fq:Nat->List ix->St
 |_,[]=>[]
 |k,v::r=>(k,v)::Fq (k+1) r
def kR:∀(args:List ix) (k t:Nat) (v:ix),cV (Fq k args) t=some v->k<=t/\args[t-k]? = some v
 |[],k,t,v,h=>by simp[Fq,cV]at h
 |u::r,k,t,v,h=>by
  simp only[Fq,cV]at h
  cases hb:MG k t with
  |true=>
   rw[hb]at h;have:k=t:=LZ hb;subst this;simpa using h
  |false=>
   rw[hb]at h;obtain⟨h1,h2⟩:=kR r (k+1) t v h;refine⟨zo,?_⟩;rw[show t-k=(t-(k+1))+1 from by omega];simpa using h2
def Ret.enter{fn:Qn}{c:MX}{args:List ix}{R:ix->ln->Prop}
  (hf:P.funcs[f]? = some fn) (hN:fn.ntmps=N) (hb:fn.body=some c) (a0:Pe args.length N=true)
  (h:WC P N c (RP P fn R) (Fq 0 args) w):Ret P f args w R:=
 Ret.body hf hb hN (mI a0 λt v hv=>by simpa using(kR args 0 t v hv).2) h
section
variable{P:L7}{N:Nat}{st:St}{w:ln}{fn:Qn}{R:ix→ln→Prop}
def ah{t:QM}(hr:fn.results = #[.tmp t])(hv:cV st t=some v)(h:R v w):QF N (RP P fn R) .ret st w:=λa ha=>
 ⟨ha.defers,v,by have:=ha.get _ _ hv;simp[results,hr,L6,this],h⟩
def aK(hr:fn.results = #[])(h:R (.tuple #[]) w):QF N (RP P fn R) .normal st w:=λa ha=>⟨ha.defers,_,by simp[results,hr],h⟩
def cM(hr:fn.results = #[])(h:R (.tuple #[]) w):QF N (RP P fn R) .ret st w:=λa ha=>⟨ha.defers,_,by simp[results,hr],h⟩
def cy{t u:QM}(hr:fn.results = #[.tmp t,.tmp u])(hv:cV st t=some v)(a0:cV st u=some v')(h:R (.tuple #[v,v']) w):QF N (RP P fn R) .ret st w:=λa ha=>
 ⟨ha.defers,_,by have:=ha.get _ _ hv;have h2:=ha.get _ _ a0;simp[results,hr,L6,this,h2],h⟩
end
open Go.RowKit (Below)
def Ext(w w':ln):Prop:=Below w.heap.size w w'
def Ext.refl(w:ln):Ext w w:=Qy _ _
def Ext.J{a b c:ln}(h:Ext a b)(k:Ext b c):Ext a c:=Below.trans h (Below.mono k h.size)
def Ext.alloc(w:ln)(o:Obj):Ext w (w.alloc o):=(Qy _ _).alloc (Me _) o
def Ext.drew{w w':ln}(h:Ext w w'):Ext w w'.drew:=⟨h.os,h.tape,h.output,h.size,h.block⟩
def Ext.cell{w w':ln}(h:Ext w w'){a:Mr}{v:ix}(hc:w.cell? a=some v):w'.cell? a=some v:=
 (Below.cell h (Nh w a hc)).J hc
def adr(v:ix)(sz i:Nat):Mr:=
 match v with
 |.slice (some a) _ _=>⟨a.block,a.off+i*sz,none⟩
 |_=>default
def nth[Inhabited α](xs:List α)(i:Nat):α:=xs.getD i default
def aD[Inhabited α](h:i<xs.length):nth xs i=xs[i]:=by
 simp[nth,Mo,h]
def ar[Inhabited α](a:α)(l:List α):nth (a::l) 0=a:=rfl
def aX[Inhabited α](a:α)(l:List α)(i:Nat):nth (a::l) (i+1)=nth l i:=rfl
attribute [irreducible] nth
structure Sl{α:Type}(enc:α->List ix)(sz:Nat)(w:ln)(v:ix)(xs:List α):Prop where
 shape:∃a c,v=.slice a xs.length c/\xs.length<=c/\c<=9223372036854775807/\(xs.length≠0->∃b o,a=some ⟨b,o,none⟩)
 cells:∀i (h:i<xs.length) j u,(enc xs[i])[j]? = some u->w.cell? ((adr v sz i).add j)=some u
def Sl.of_cells(h:Sl enc sz w v xs)(hc:∀a u,w.cell? a=some u->w'.cell? a=some u):Sl enc sz w' v xs:=
 ⟨h.shape,λi hi j u hu=>hc _ _ (h.cells i hi j u hu)⟩
def Sl.ext(h:Sl enc sz w v xs)(e:Ext w w'):Sl enc sz w' v xs:=h.of_cells λ_ _=>e.cell
def Sl.drew{α:Type}{enc:α->List ix}{sz:Nat}{w:ln}{v:ix}{xs:List α}(h:Sl enc sz w v xs):Sl enc sz w.drew v xs:=h.of_cells λ_ _ h=>h
def Sl.one(h:Sl enc sz w v xs):v.oneCell'=true:=by
 obtain⟨_,_,rfl,_⟩:=h.shape;rfl
def Sl.len_le(h:Sl enc sz w v xs):xs.length<=9223372036854775807:=by
 obtain⟨a,c,_,h1,h2,_⟩:=h.shape;omega
def Sl.cell{α:Type}[Inhabited α]{enc:α->List ix}{sz:Nat}{w:ln}{v:ix}{xs:List α}(h:Sl enc sz w v xs){i j:Nat}{u:ix}(hi:i<xs.length)(hu:(enc (nth xs i))[j]? = some u):w.cell? ((adr v sz i).add j)=some u:=
 h.cells i hi j u (by rw[<-aD hi];exact hu)
def ax(v:ix)(sz i:Nat):(adr v sz i).add 0=adr v sz i:=rfl
def Sl.ld[Inhabited α]{val:α->ix}(h:Sl (λx=>[val x]) sz w v xs)(hi:i<xs.length):w.cell? (adr v sz i)=some (val (nth xs i)):=
 h.cell (j:=0) hi rfl
abbrev Ints(w:ln)(v:ix)(xs:List Int):Prop:=Sl (fun(x:Int)=>[nI x]) 1 w v xs
abbrev LW(w:ln)(v:ix)(xs:List Nat):Prop:=Sl (fun(x:Nat)=>[nI (x:Int)]) 1 w v xs
section
variable{P:L7}{N:Nat}{ops:Array M8}{Q:Mq→MJ→ln→Prop}{rest:List M8}{st:St}{w:ln}
variable{t:L0}{p:String}{e:Array MV}{d:Nat}{x y z:L3}
def RV.len{T E:L0}{α:Type}{enc:α->List ix}{sz:Nat}{v:ix}{xs:List α}(hs:Sl enc sz w v xs)(hu:P.underlying T=some (.slice E))(hx:ev st x=some v):RV P N (.call ⟨.builtin .len,#[x],#[T]⟩) t st w (nI (xs.length:Int)):=
 λa ha a0 p e g=>by
  obtain⟨ad,c,hv,_⟩:=hs.shape;simp only[execOp,resolve,L8,M1,Mm,ha.ev hx];subst hv;simp[invoke,Go.builtin,Rp,run_underlying hu,goInt]
def RV.indexAddr{T E:L0}{α:Type}{enc:α->List ix}{sz:Nat}{v:ix}{xs:List α}{k:LX}{i:Int}(hs:Sl enc sz w v xs)(hu:P.underlying T=some (.slice E))(hE:(Mp E).run P w=.ok sz w)
  (hx:ev st x=some v) (hy:ev st y=some (.int k i)) (n:Nat) (hi:i=n) (hn:n<xs.length):RV P N (.indexAddr T x y) t st w (.pointer (some (adr v sz n))):=
 λa ha a0 p e g=>by
  obtain⟨ad,c,hv,_,_,hb⟩:=hs.shape;obtain⟨b,o,rfl⟩:=hb zo;simp only[execOp,ha.ev hx,ha.ev hy];subst hv;subst hi;have:((n:Int)<(xs.length:Int)):=zo;simp only[adr];have he:(if n*sz=0 then(⟨b,o,none⟩:Mr)else⟨b,o+n*sz,none⟩)=⟨b,o+n*sz,none⟩:=by split<;>simp_all
  simp[P1,asIntOf,run_underlying hu,hE,Mh,hn,he]
def Shape(v:ix)(n:Nat):Prop:=∃a c,v=.slice a n c/\(n≠0->∃b o,a=some ⟨b,o,none⟩)
def Sl.sh(h:Sl enc sz w v xs):Shape v xs.length:=by
 obtain⟨a,c,h1,_,_,h2⟩:=h.shape;exact⟨a,c,h1,h2⟩
def aj{m:Nat}{i:Int}(hs:Shape v m)(hu:P.underlying T=some (.slice E))(hE:(Mp E).run P w=.ok sz w)
  (hx:ev st x=some v) (hy:ev st y=some (.int k i)) (n:Nat) (hi:i=n) (hn:n<m):RV P N (.indexAddr T x y) t st w (.pointer (some (adr v sz n))):=
 λa ha a0 p e g=>by
  obtain⟨ad,c,hv,hb⟩:=hs;obtain⟨b,o,rfl⟩:=hb zo;simp only[execOp,ha.ev hx,ha.ev hy];subst hv;subst hi;simp only[adr];have he:(if n*sz=0 then(⟨b,o,none⟩:Mr)else⟨b,o+n*sz,none⟩)=⟨b,o+n*sz,none⟩:=by split<;>simp_all
  simp[P1,asIntOf,run_underlying hu,hE,Mh,hn,he]
def RV.load{T:L0}{q:Mr}{u:ix}(hc:w.cell? q=some u)(hT:(Q0 T).run P w=.ok false w)(hx:ev st x=some (.pointer (some q))):RV P N (.load T x) t st w (u):=
 λa ha a0 p e g=>by
  simp only[execOp,ha.ev hx];simp[Qk,My,loadVar,hT,hc]
def run_loadCellsFrom{q:Mr}:∀(us:List ix) (i:Nat) (a0:Array ix),(∀j u,us[j]? = some u->w.cell? (q.add (i+j))=some u)->(loadCellsFrom q i us.length a0).run P w=.ok (a0++us.toArray) w
 |[],i,a0,_=>by simp[loadCellsFrom]
 |u::r,i,a0,h=>by
  have h0:=h 0 u rfl;simp only[Pf]at h0;simp[loadCellsFrom,h0,run_loadCellsFrom r (i+1) (a0.push u) (λj v hv=>by have:=h (j+1) v (by simpa using hv);rwa[show i+1+j=i+(j+1)from by omega])]
def ai(hc:∀j u,us[j]? = some u->w.cell? (q.add j)=some u)(hT:(Q0 T).run P w=.ok true w)(hn:(Mp T).run P w=.ok us.length w)(hx:ev st x=some (.pointer (some q))):RV P N (.load T x) t st w (.agg us.toArray):=
 λa ha a0 p e g=>by
  simp only[execOp,ha.ev hx];have:=run_loadCellsFrom (P:=P) us 0 #[] (q:=q) (w:=w) (by simpa using hc);simp[Qk,My,loadVar,hT,hn,loadCells,this]
def RV.fieldAddr{S:L0}{fs:Array Ra}{f m:Nat}{fd:Ra}{q:Mr}(o:Nat)(hu:P.underlying S=some (.struct fs))(hf:fs[f]? = some fd)(ho:fd.offset=o)(hz:(Mp fd.type).run P w=.ok m w)(hm:m≠0)
  (hx:ev st x=some (.pointer (some q))):RV P N (.fieldAddr S x f) t st w (.pointer (some (q.add o))):=
 λa ha a0 p e g=>by
  subst ho;simp only[execOp,ha.ev hx];simp[Instr.fieldAt,My,fieldPlace,run_underlying hu,hf,hz,hm]
end
end Go.VL
end
section
namespace Go.VL
open Go.RowKit (Below)
structure Upd(S:Nat->Prop)(O:Nat->Nat)(w:ln)(O':Nat->Nat)(w':ln):Prop where
 os:w'.os=w.os
 tape:w'.tape=w.tape
 output:w'.output=w.output
 size:w.heap.size<=w'.heap.size
 blk:∀b,b<w.heap.size->¬S (O b)->w'.heap[b]? = w.heap[b]?
 tag:∀b,O b≠0->O' b=O b
 new:∀b,O' b≠0->O b≠0\/(w.heap.size<=b/\b<w'.heap.size)
 z:¬S 0
structure Rng(B:Nat)(O:Nat->Nat)(w:ln):Prop where
 le:B<=w.heap.size
 rng:∀b,O b≠0->B<=b/\b<w.heap.size
def Upd.refl(h:¬S 0)(O:Nat->Nat)(w:ln):Upd S O w O w:=⟨rfl,rfl,rfl,Me _,λ_ _ _=>rfl,λ_ _=>rfl,λ_ h=>.inl h,h⟩
def Upd.mono(h:Upd S O w O' w')(hs:∀i,S i->S' i)(hz:¬S' 0):Upd S' O w O' w':=
 ⟨h.os,h.tape,h.output,h.size,λb hb hn=>h.blk b hb λhS=>hn (hs _ hS),h.tag,h.new,hz⟩
def Upd.J{S:Nat->Prop}{O O1 O2:Nat->Nat}{w w1 w2:ln}(h:Upd S O w O1 w1)(k:Upd S O1 w1 O2 w2):Upd S O w O2 w2:=by
 refine⟨k.os.J h.os,k.tape.J h.tape,k.output.J h.output,MF h.size k.size,λb hb hn=>?_,λb hb=>?_,λb hb=>?_,h.z⟩
 ·refine(k.blk b (M9 hb h.size) ?_).J (h.blk b hb hn)
  by_cases h0:O b=0
  ·have:O1 b=0:=by
    refine LY λa0=>?_
    rcases h.new b a0 with h1|h1
    ·exact h1 h0
    omega
   rw[this];exact h.z
  rw[h.tag b h0];exact hn
 ·have h1:=h.tag b hb;rw[k.tag b (by rw[h1];exact hb),h1]
 rcases k.new b hb with h1|h1
 ·rcases h.new b h1 with h2|h2
  ·exact .inl h2
  exact .inr ⟨h2.1,M9 h2.2 k.size⟩
 exact .inr ⟨MF h.size h1.1,h1.2⟩
def ae(hz:¬S 0)(O:Nat->Nat)(h:Ext w w'):Upd S O w O w':=
 ⟨h.os,h.tape,h.output,h.size,λb hb _=>h.block b hb,λ_ _=>rfl,λ_ h=>.inl h,hz⟩
def Rng.U(r:Rng B O w)(h:Upd S O w O' w'):Rng B O' w':=by
 refine⟨MF r.le h.size,λb hb=>?_⟩
 rcases h.new b hb with h1|h1
 ·exact⟨(r.rng b h1).1,M9 (r.rng b h1).2 h.size⟩
 exact⟨MF r.le h1.1,h1.2⟩
def aA(w:ln):Rng w.heap.size (λ_=>0) w:=⟨Me _,λ_ h=>absurd rfl h⟩
def Rng.ext(r:Rng B O w)(h:Ext w w'):Rng B O w':=r.U (ae (S:=λ_=>False) (λh=>h) O h)
def Upd.below(h:Upd S O w O' w')(r:Rng B O w):Below B w w':=by
 refine⟨h.os,h.tape,h.output,h.size,λb hb=>h.blk b (M9 hb r.le) ?_⟩;have:O b=0:=LY λa0=>by have:=(r.rng b a0).1;omega
 rw[this];exact h.z
def Upd.ext(h:Upd S (λ_=>0) w O' w'):Ext w w':=h.below (aA w)
def Upd.drew{S:Nat->Prop}{O O':Nat->Nat}{w w':ln}(h:Upd S O w O' w'):Upd S O w O' w'.drew:=⟨h.os,h.tape,h.output,h.size,h.blk,h.tag,h.new,h.z⟩
def Upd.ofDrew(h:Upd S O w.drew O' w'):Upd S O w O' w':=⟨h.os,h.tape,h.output,h.size,h.blk,h.tag,h.new,h.z⟩
def Rng.drew{B:Nat}{O:Nat->Nat}{w:ln}(h:Rng B O w):Rng B O w.drew:=⟨h.le,h.rng⟩
def mq(O:Nat->Nat)(b i:Nat):Nat->Nat:=λk=>if k=b then i else O k
def eM(O:Nat->Nat)(b i:Nat):mq O b i b=i:=ap rfl
def Upd.alloc{S:Nat->Prop}(hz:¬S 0){B:Nat}{O:Nat->Nat}{w:ln}(r:Rng B O w)(o:Obj)(i:Nat):Upd S O w (mq O w.heap.size i) (w.alloc o):=by
 refine⟨rfl,rfl,rfl,by simp,λb hb _=>Qz _ _ _ hb,λb hb=>?_,λb hb=>?_,hz⟩
 ·unfold mq;rw[am];have:=(r.rng b hb).2;omega
 unfold mq at hb
 split at hb
 ·rename_i h;subst h;exact .inr ⟨Me _,by simp⟩
 exact .inl hb
structure RowO(O:Nat->Nat)(w:ln)(i:Nat)(E:L0)(sz:Nat)(v:ix)(n:Nat)(xs:List ix):Prop where
 row:w.ownsRow 0 E sz v n xs
 tag:∀g,v.ownBlock=some g->O g=i
def bN{g:Nat}{o:Obj}(h:w.heap[g]? = some o):g<w.heap.size:=(Array.getElem?_eq_some_iff.1 h).1
def RowO.U{xs:List ix}(h:RowO O w i E sz v n xs)(u:Upd S O w O' w')(hi:i≠0)(hS:¬S i):RowO O' w' i E sz v n xs:=by
 refine⟨⟨h.row.1,?_⟩,λg hg=>?_⟩
 ·rcases h.row.2 with h1|⟨g,a2,a1,hv,hg,hh,a0⟩
  ·exact .inl h1
  refine .inr ⟨g,a2,a1,hv,hg,?_,a0⟩;rw[u.blk g (bN hh) (by rw[h.tag g (by rw[hv];rfl)];exact hS)];exact hh
 have:=h.tag g hg;rw[u.tag g (by rw[this];exact hi),this]
def RowO.drew{O:Nat->Nat}{w:ln}{i:Nat}{E:L0}{sz:Nat}{v:ix}{n:Nat}{xs:List ix}(h:RowO O w i E sz v n xs):RowO O w.drew i E sz v n xs:=⟨h.row,h.tag⟩
def RowO.nil(O:Nat->Nat)(w:ln)(i:Nat)(E:L0)(sz:Nat):RowO O w i E sz nS 0 []:=⟨World.ownsRow_nil _ _ _ _,λg hg=>by simp[Na]at hg⟩
structure BlkO(O:Nat->Nat)(w:ln)(i b:Nat)(cs:Array ix)(E:L0):Prop where
 blk:w.heap[b]? = some (.cells cs E (0,0))
 tag:O b=i
def BlkO.U{b:Nat}{cs:Array ix}(h:BlkO O w i b cs E)(u:Upd S O w O' w')(hi:i≠0)(hS:¬S i):BlkO O' w' i b cs E:=
 ⟨by rw[u.blk b (bN h.blk) (by rw[h.tag];exact hS)];exact h.blk,by rw[u.tag b (by rw[h.tag];exact hi),h.tag]⟩
def BlkO.drew{O:Nat->Nat}{w:ln}{i b:Nat}{cs:Array ix}{E:L0}(h:BlkO O w i b cs E):BlkO O w.drew i b cs E:=⟨h.blk,h.tag⟩
def BlkO.new(O:Nat->Nat)(w:ln)(i:Nat)(cs:Array ix)(E:L0):BlkO (mq O w.heap.size i) (w.alloc (.cells cs E)) i w.heap.size cs E:=
 ⟨heap_alloc_new w _,eM _ _ _⟩
def BlkO.cell{O:Nat->Nat}{w:ln}{i b:Nat}{cs:Array ix}{E:L0}(h:BlkO O w i b cs E)(j:Nat){u:ix}(hu:cs[j]? = some u):w.cell? ⟨b,j,none⟩=some u:=by
 rw[cell_of_row w b j cs E (0,0) h.blk];exact hu
def BlkO.set{b:Nat}{cs:Array ix}(h:BlkO O w i b cs E)(j:Nat)(u:ix):BlkO O (w.setCell ⟨b,j,none⟩ u) i b (cs.setIfInBounds j u) E:=by
 refine⟨?_,h.tag⟩;simp only[Ny,P9,ap]
 rw[h.blk];simp
def Upd.set(hz:¬S 0){b:Nat}(ht:O b=i)(hS:S i):Upd S O w O (w.setCell ⟨b,j,none⟩ u):=
 ⟨rfl,rfl,rfl,by simp[Ny],λk _ hn=>NF _ _ _ _ (λe=>hn (by subst e;rw[ht];exact hS)),λ_ _=>rfl,λ_ h=>.inl h,hz⟩
def RowT(enc:α->List ix)(E:L0)(sz:Nat)(O:Nat->Nat)(w:ln)(i:Nat)(v:ix)(l:List α):Prop:=RowO O w i E sz v l.length (l.flatMap enc)/\∀x∈l,(enc x).length=sz
def fj{α:Type}{enc:α->List ix}{sz:Nat}:∀(l:List α),(∀x∈l,(enc x).length=sz)->∀i (h:i<l.length) j u,(enc l[i])[j]? = some u->(l.flatMap enc)[i*sz+j]? = some u
 |x::l,hz,0,_,j,u,hu=>by
  have hl:=hz x (by simp);simp only[MM,NJ,Mu];rw[List.getElem?_append_left ((Mf.1 (by simpa using hu)).1)];simpa using hu
 |x::l,hz,i+1,h,j,u,hu=>by
  have hl:=hz x (by simp);simp only[MM];rw[show(i+1)*sz+j=(enc x).length+(i*sz+j)from by rw[hl,Nf];omega,List.getElem?_append_right zo,show(enc x).length+(i*sz+j)-(enc x).length=i*sz+j from by omega];exact fj l (λy hy=>hz y (by simp[hy])) i (by simpa using h) j u (by simpa using hu)
def RowT.sl(h:RowT enc E sz O w i v l):Sl enc sz w v l:=by
 obtain⟨⟨⟨hl,hr⟩,_⟩,hz⟩:=h
 rcases hr with⟨rfl,h0⟩|⟨g,a0,a3,rfl,_,hg,a1,a2,a4,ht⟩
 ·have:l=[]:=M0 h0;subst this;exact⟨⟨none,0,rfl,Me _,zo,λh=>absurd rfl h⟩,λi hi=>absurd hi (by simp)⟩
 refine⟨⟨_,a0,rfl,a1,by simpa[maxLen]using a2,λ_=>⟨g,0,rfl⟩⟩,λi hi j u hu=>?_⟩;have:=fj l hz i hi j u hu;rw[<-ht,List.getElem?_take]at this
 split at this
 ·have ha:((adr (.slice (some ⟨g,0,none⟩) l.length a0) sz i).add j)=⟨g,i*sz+j,none⟩:=by
   simp only[adr,Mh];split<;>simp_all
  rw[ha,cell_of_row w g _ a3 E (0,0) hg];simpa using this
 cases this
def RowT.U{α:Type}{enc:α->List ix}{S:Nat->Prop}{O O':Nat->Nat}{w w':ln}{i:Nat}{E:L0}{sz:Nat}{v:ix}{l:List α}(h:RowT enc E sz O w i v l)(u:Upd S O w O' w')(hi:i≠0)(hS:¬S i):RowT enc E sz O' w' i v l:=
 ⟨h.1.U u hi hS,h.2⟩
def RowT.drew{α:Type}{enc:α->List ix}{O:Nat->Nat}{w:ln}{i:Nat}{E:L0}{sz:Nat}{v:ix}{l:List α}(h:RowT enc E sz O w i v l):RowT enc E sz O w.drew i v l:=⟨h.1.drew,h.2⟩
def RowT.nil{α:Type}(enc:α->List ix)(E:L0)(sz:Nat)(O:Nat->Nat)(w:ln)(i:Nat):RowT enc E sz O w i nS []:=⟨RowO.nil _ _ _ _ _,by simp⟩
def RowO.one{xs:List ix}(h:RowO O w i E sz v n xs):v.oneCell'=true:=by
 rcases h.row.2 with⟨rfl,_⟩|⟨g,a1,a0,rfl,_⟩<;>rfl
def RowT.one{α:Type}{enc:α->List ix}{O:Nat->Nat}{w:ln}{i:Nat}{E:L0}{sz:Nat}{v:ix}{l:List α}(h:RowT enc E sz O w i v l):v.oneCell'=true:=h.1.one
def RowT.put{val:α->ix}(h:RowT (λx=>[val x]) E 1 O w i v l)(hn:n<l.length)(x:α):
  w.cell? (adr v 1 n)=some (val (l[n]))/\w.frozen? (adr v 1 n)=false/\RowT (λx=>[val x]) E 1 O (w.setCell (adr v 1 n) (val x)) i v (l.set n x)/\O (adr v 1 n).block=i:=by
 have a0:=h.sl.cells n hn 0 (val l[n]) rfl;rw[ax]at a0;refine⟨a0,?_⟩;obtain⟨⟨⟨hl,hr⟩,a1⟩,hz⟩:=h
 rcases hr with⟨rfl,h0⟩|⟨g,a3,a8,rfl,a7,hg,a4,a6,a5,ht⟩
 ·omega
 have ha:adr (.slice (some ⟨g,0,none⟩) l.length a3) 1 n=⟨g,n,none⟩:=by simp[adr]
 rw[ha];have a2:∀l:List α,(l.flatMap λx=>[val x])=l.map val:=λl=>by induction l<;>simp_all
 refine⟨by simp[Q8,hg],⟨⟨⟨by rw[a2];simp,.inr ⟨g,a3,a8.setIfInBounds n (val x),by simp,a7,?_,by simpa using a4,a6,by simpa using a5,?_⟩⟩,by simpa using a1⟩,by simp⟩,a1 g rfl⟩
 ·simp only[Ny,P9,ap];rw[hg];simp
 simp only[Nx,List.length_set,NX]at ht ⊢;rw[a2]at ht ⊢;rw[List.take_set,ht,List.map_set]
structure Elem(P:L7)(T E:L0)(sz bytes:Nat):Prop where
 ht:P.underlying T=some (.slice E)
 info:(P.info? E).map (λi=>(i.zero.map (·.cells.size),i.size,i.bytes))=some (some sz,sz,bytes)
 pos:0<sz
def Elem.parts(h:Elem P T E sz bytes):∃i z,P.info? E=some i/\i.zero=some z/\i.size=sz/\i.bytes=bytes/\z.cells.size=sz:=by
 have:=h.info
 cases hi:P.info? E with
 |none=>rw[hi]at this;simp at this
 |some i=>
  rw[hi]at this;simp only[Mc,Nv,PV]at this;obtain⟨h1,h2,h3⟩:=this
  cases hz:i.zero with
  |none=>rw[hz]at h1;simp at h1
  |some z=>rw[hz]at h1;simp at h1;exact⟨i,z,rfl,hz,h2,h3,h1⟩
def fK{ty:L0}{a7:Nat}(he:Elem P T E sz a7)(r:Rng B O w)
    {xs:List ix} (a1:RowO O w i E sz v n xs)
  (a:Mr) (m c:Nat) (a0:List ix) (hl:a0.length=m*sz) (a3:∀j u,a0[j]? = some u->w.cell? (a.add j)=some u) (h1:∀u∈a0,u.oneCell'=true)
  (a4:(n+m)*a7<=140737488355328) (c8:n+m<=9223372036854775807) (b9:i≠0) :
  ∃v' w' O',(PF #[T,T] ty #[v,.slice (some a) m c]).run P w=.ok v' w'/\RowO O' w' i E sz v' (n+m) (xs++a0)/\Upd (λk=>k=i) O w O' w':=by
 obtain⟨a8,z,hi,hz,b8,c7,b7⟩:=he.parts;have ht:=he.ht;subst b8;subst c7;have a5:(xs++a0).length=(n+m)*a8.size:=by rw[Mn,a1.row.1,hl,Nf]
 have b2:¬(0=i):=λh=>b9 h.symm
 have a6:∀(old:Nat),old<n+m->
   RowO (mq O w.heap.size i) (w.drew.alloc (.cells (xs.toArray++a0.toArray++ND z.cells (grownCap w (n+m) old E-(n+m))) E)) i E a8.size
    (.slice (some ⟨w.heap.size,0,none⟩) (n+m) (grownCap w (n+m) old E)) (n+m) (xs++a0)/\
   Upd (λk=>k=i) O w (mq O w.heap.size i) (w.drew.alloc (.cells (xs.toArray++a0.toArray++ND z.cells (grownCap w (n+m) old E-(n+m))) E)):=by
  intro old ho;have b':=grownCap_ge w (n+m) old E;have b5:=grownCap_le_maxLen w (n+m) old E (by simpa[maxLen]using c8);refine⟨⟨⟨a5,.inr ⟨w.heap.size,_,_,rfl,Mt _,heap_alloc_new w.drew _,b',b5,?_,?_⟩⟩,?_⟩,?_⟩
  ·simp only[Array.size_append,NH,size_zeroCells,b7,a1.row.1,hl,<-Nf];congr 1;omega
  ·simp only[Array.toList_append,Mi];rw[<-Mi,<-a5];exact Qa
  ·intro g hg;simp[Na]at hg;subst hg;exact eM _ _ _
  have u:=Upd.alloc (S:=λk=>k=i) (w:=w.drew) b2 (B:=B) ⟨r.le,r.rng⟩ (.cells (xs.toArray++a0.toArray++ND z.cells (grownCap w (n+m) old E-(n+m))) E) i;exact⟨u.os,u.tape,u.output,u.size,u.blk,u.tag,u.new,u.z⟩
 rcases a1.row.2 with⟨rfl,rfl⟩|⟨g,b1,b6,rfl,hbg,hg,c9,b5,c6,a'⟩
 ·have hx:=M0 (by simpa using a1.row.1);subst hx
  by_cases hm:m=0
  ·subst hm;have hn:=M0 (by simpa using hl);subst hn;refine⟨nS,w,O,?_,RowO.nil _ _ _ _ _,Upd.refl b2 _ _⟩;simp[PF,run_underlying ht,Mp,typeInfo,hi,Rq,Rr,loadCells,loadCellsFrom]
  have hr:=run_append_nil (P:=P) w T ty E a8 z ht hi hz a m c a0 hl a3 zo zo (by have hb:=a4;simp only[Mu]at hb;omega);have a9:=a6 0 zo;simp only[Mu,N2,Array.empty_append]at a9 ⊢;exact⟨_,_,_,hr,a9.1,a9.2⟩
 have b3:=a1.tag g rfl
 by_cases a2:n+m<=b1
 ·have b4:n*a8.size+a0.length<=b6.size:=by rw[hl,c6,<-Nf];exact Nat.mul_le_mul_right _ a2
  have hr:=run_append_room (P:=P) w T ty E a8 ht hi g n b1 b6 hg a m c a0 hl a3 h1 a2 b4;refine⟨_,_,O,hr,⟨⟨a5,.inr ⟨g,b1,_,rfl,hbg,setRow_heap w g b6 _ E _ hg,a2,b5,?_,?_⟩⟩,λg' c5=>a1.tag g' c5⟩,⟨rfl,rfl,rfl,by simp,λk _ hk=>setRow_other w g k _ (λe=>hk (by subst e;exact b3)),λ_ _=>rfl,λ_ h=>.inl h,b2⟩⟩
  ·simp only[NH,Mn,List.length_take,List.length_drop,Pn];omega
  rw[a',<-a5];exact Qa
 have hr:=run_append_grow (P:=P) w T ty E a8 z ht hi hz ⟨g,0,none⟩ n b1 xs a1.row.1 (a1.row.cells (g:=g) rfl) a m c a0 hl a3 zo zo (growslice_fits zo a4);have a9:=a6 b1 zo;exact⟨_,_,_,hr,a9.1,a9.2⟩
def foldl_set(f:Array ix->ix×Nat->Array ix)(hf:∀cs c j,f cs (c,j)=cs.setIfInBounds (0+j) c):∀(l:List ix) (k:Nat) (cs:Array ix),k+l.length<=cs.size->
  (l.zipIdx k).foldl f cs=(cs.toList.take k++l++cs.toList.drop (k+l.length)).toArray
 |[],k,cs,_=>by simp
 |u::l,k,cs,h=>by
  simp only[MP]at h;simp only[List.zipIdx_cons,Nq];rw[foldl_set f hf l (k+1) _ (by rw[hf];simp;omega),hf];simp only[Mu,NX];have hk:k<cs.toList.length:=by simp;omega
  congr 1;rw[show k+1+l.length=k+(u::l).length from by simp;omega];have h1:(cs.toList.set k u).take (k+1)=cs.toList.take k++[u]:=by
   rw[NG (by simpa using hk)];simp[List.take_set_of_le]
  have h2:(cs.toList.set k u).drop (k+(u::l).length)=cs.toList.drop (k+(u::l).length):=by
   rw[List.drop_set_of_lt (by simp)]
  rw[h1,h2];simp
def lF{cells:Array ix}(h1:v.cells.size=sz)(h2:cells.size=sz):Nb (λi=>some (i*sz,sz)) cells [(0,v)]=some v.cells:=by
 simp only[Nb,NJ,h1,h2];simp only[Mu,ne_eq,not_true_eq_false,decide_false,gt_iff_lt,Nat.lt_irrefl,Bool.or_self,PH,if_false];have:=foldl_set (λcs (x:ix×Nat)=>cs.setIfInBounds (0+x.2) x.1) (λ_ _ _=>rfl) v.cells.toList 0 cells (by simp;omega);simp only[Mu]at this;rw[<-Array.foldl_toList,Array.toList_zipIdx,this];simp only[Q9,N2];rw[P8 (by simp;omega)];simp
section
variable{P:L7}{N:Nat}{ops:Array M8}{Q:Mq→MJ→ln→Prop}{rest:List M8}{st:St}{w:ln}
variable{t t':L0}{p p':String}{e e':Array MV}{d d':Nat}{x y z:L3}
def WL.push{a0:Nat}(he:Elem P T E sz a0)(hr:RowT enc E sz O w i v l)(r:Rng B O w)(u:α)
  (hv:∀c,ev ((d,c)::st) y=some v) (hx:ev st x=some xv) (a6:xv.cells.toList=enc u) (a7:(enc u).length=sz) (a':∀c∈enc u,c.oneCell'=true)
  (hb:(l.length+1)*a0<=140737488355328) (b4:l.length+1<=9223372036854775807) (a5:i≠0) (hs:sz<=16777216) (hd:L1 d N=true) (b2:L1 d' N=true)
  (h:∀v' w' O',RowT enc E sz O' w' i v' (l++[u])->Upd (λk=>k=i) O w O' w'->Rng B O' w'->WL P N ops Q rest ((d',v')::(d,.slice (some ⟨w.heap.size,0,none⟩) 1 1)::st) w') :
  WL P N ops Q (⟨some d,.buildSlice T 1 #[(0,x)],t,p,e,none⟩::⟨some d',.call ⟨.builtin .append,#[y,.tmp d],#[T,T]⟩,t',p',e',none⟩::rest) st w:=by
 obtain⟨a8,z,hi,hz,a2,b6,b5⟩:=he.parts;have b3:xv.cells.size=sz:=by rw[<-a7,<-a6];simp
 have b1:=he.pos;refine WL.val (v:=.slice (some ⟨w.heap.size,0,none⟩) 1 1) (w':=w.alloc (.cells xv.cells E)) hd (λa ha=>?_) ?_
 ·have:=run_buildSlice (P:=P) w T E 1 #[(0,xv)] xv.cells a8 z he.ht hi hz (by rw[a2];omega) (by rw[a2];omega) (by
   rw[a2]
   exact lF b3 (by simp))
  simp only[execOp,L8,M1,Mm,ha.ev hx,L5,this,L2];rfl
 have a9:¬(λk=>k=i) 0:=λh=>a5 h.symm
 have hE:=Ext.alloc w (.cells xv.cells E)
 obtain⟨v',w',O',a3,a4,a1⟩:=fK (P:=P) (ty:=t') he (r.ext hE) (hr.U (ae (S:=λ_=>False) (λh=>h) O hE) a5 (λh=>h)).1 ⟨w.heap.size,0,none⟩ 1 1 (enc u) zo (λj c hc=>by
  rw[show((⟨w.heap.size,0,none⟩:Mr).add j)=⟨w.heap.size,j,none⟩from by simp only[Mh];split<;>simp_all,cell_of_row _ _ j xv.cells E (0,0) (heap_alloc_new w _)]
  rw[<-a6]at hc;simpa using hc) a' hb b4 a5
 refine WL.val (v:=v') (w':=w') b2 (λa ha=>?_) ?_
 ·simp only[execOp,resolve,invoke,builtin,L5,Mb,L2,L8,M1,Mm,ha.ev (hv _),ha.ev (x:=.tmp d) (v:=.slice (some ⟨w.heap.size,0,none⟩) 1 1) (by simp[ev,cV]),a3]
 have hU:=Upd.J (ae a9 O hE) a1;refine h v' w' O' ⟨by simpa using a4,?_⟩ hU (r.U hU);intro c hc
 rcases Md.1 hc with hc|hc
 ·exact hr.2 c hc
 rw[L9.1 hc];exact a7
def ao{b:Nat}{cs:Array ix}{c:ix}(hb:BlkO O w i b cs E)(hj:cs[j]? = some c)(hT:(Mp T).run P w=.ok 1 w)(h1:u.oneCell'=true)
   (hx:ev st x=some (.pointer (some q))) (hq:q=⟨b,j,none⟩) (hy:ev st y=some u)
  (h:WL P N ops Q rest st (w.setCell ⟨b,j,none⟩ u)):WL P N ops Q (⟨none,.store T x y,t,p,e,none⟩::rest) st w:=
 iZ (λa ha=>by
  subst hq;have hf:w.frozen? ⟨b,j,none⟩=false:=by simp[Q8,hb.blk]
  simp only[execOp,ha.ev hx,ha.ev hy]
  cases u<;>simp[MN]at h1<;>simp[Nz,My,storeVar,hT,Pc,storeCells,store,NY,hb.cell j hj,hf,Mh]) h
def WL.storeAt{val:α->ix}(hr:RowT (λx=>[val x]) E 1 O w i v l)(n:Nat)(hn:n<l.length)(u:α)(hT:(Mp T).run P w=.ok 1 w)(h1:(val u).oneCell'=true)(a1:i≠0)
   {uv:ix} (hx:ev st x=some (.pointer (some q))) (hq:q=adr v 1 n) (hy:ev st y=some uv) (hu:uv=val u)
  (h:∀w',RowT (λx=>[val x]) E 1 O w' i v (l.set n u)->Upd (λj=>j=i) O w O w'->WL P N ops Q rest st w'):WL P N ops Q (⟨none,.store T x y,t,p,e,none⟩::rest) st w:=by
 subst hq;subst hu;obtain⟨hc,hf,a0,ht⟩:=hr.put hn u;refine iZ (w':=w.setCell (adr v 1 n) (val u)) (λa ha=>?_) (h _ a0 ?_)
 ·simp only[execOp,ha.ev hx,ha.ev hy];generalize val u=uv at *
  cases uv<;>simp[MN]at h1<;>simp[Nz,My,storeVar,hT,Pc,storeCells,store,NY,hc,hf,Mh]
 refine⟨rfl,rfl,rfl,by simp[Ny],λk _ hn=>NF _ _ _ _ (λe=>hn (by rw[e];exact ht)),λ_ _=>rfl,λ_ h=>.inl h,λh=>a1 h.symm⟩
end
end Go.VL
end
section
namespace Go.VL
def Calm(Q:Mq->MJ->ln->Prop):Mq->MJ->ln->Prop
 |.panic _,_,_=>False
 |e,a,w=>Q e a w
def Calm.imp:∀ {e:Mq} {a:MJ} {w:ln},Calm Q e a w->Q e a w:=by
 intro e a w h
 cases e<;>first|exact h|exact h.elim
section
variable(P:L7)(N:Nat)
def WH(ops:Array M8)(S:ln->Prop)(Q:Mq->MJ->ln->Prop)(a1:Nat)(a0:Array Bool)(st:St)(w:ln):Prop:=
 ∀a,Fits N a st->wpAnyH P .any ops (Calm Q) S a1 a0 a w
end
section
variable{P:L7}{N:Nat}{ops:Array M8}{S:ln→Prop}{Q:Mq→MJ→ln→Prop}{st:St}{w:ln}{fuel:Nat}{listed:Array Bool}
def aO{l:List M8}(S:ln->Prop)(n:Nat)(hn:l.length=n)(hm:P.follows .mixedOrders=true)
  (h:WH P N l.toArray S Q n (NO n false) st w.drew):WC P N (NN id l.toArray true) Q st w:=λa ha=>by
 refine wp_mono (Q:=Calm Q) (wp_region_held (S:=S) hm ?_) λe a w h=>h.imp
 have:=h a ha;simp only[NH,hn];exact this
def WH.take{op:Op}{p:String}{e:Array MV}(i:Nat)(hi:ops[i]? = some ⟨some d,op,t,p,e,none⟩)
  (hs:M6 ops=true) (hf:Mg .any ops listed i=true) (hr:(M5 .any ops listed).contains i=true) (hS:S w)
  (hv:∀w',S w'->RV P N op t st w' v) (hd:L1 d N=true) (h:WH P N ops S Q fuel (listed.setIfInBounds i true) ((d,v)::st) w):WH P N ops S Q (fuel+1) listed st w:=by
 intro a ha;apply wpAnyH_take (v:=v) hi hs hf hr (λ_ _ _ h=>h) (.inl ⟨by simp[M7],λw' a0=>hv w' a0 a ha _ _ _ _⟩) hS;exact h _ (ha.put hd v)
def aW{op:Op}{p:String}{e:Array MV}(i:Nat)(hi:ops[i]? = some ⟨some d,op,t,p,e,some (j,b)⟩)(hg:said ops st j=some b)
  (hs:M6 ops=true) (hf:Mg .any ops listed i=true) (hr:(M5 .any ops listed).contains i=true) (hS:S w)
  (hv:∀w',S w'->RV P N op t st w' v) (hd:L1 d N=true) (h:WH P N ops S Q fuel (listed.setIfInBounds i true) ((d,v)::st) w):WH P N ops S Q (fuel+1) listed st w:=by
 intro a ha;apply wpAnyH_take (v:=v) hi hs hf hr (λ_ _ _ h=>h) (.inl ⟨by simp[M7,cN ha hg],λw' a0=>hv w' a0 a ha _ _ _ _⟩) hS;exact h _ (ha.put hd v)
def aG{op:Op}{p:String}{e:Array MV}(i:Nat)(hi:ops[i]? = some ⟨some d,op,t,p,e,some (j,b)⟩)(hg:said ops st j=some b')(a0:(b'==b)=false)
  (hs:M6 ops=true) (hf:Mg .any ops listed i=true) (hr:(M5 .any ops listed).contains i=true) (hS:S w)
  (hd:L1 d N=true) (h:WH P N ops S Q fuel (listed.setIfInBounds i true) ((d,undef)::st) w):WH P N ops S Q (fuel+1) listed st w:=by
 intro a ha;refine wpAnyH_take (v:=undef) hi hs hf hr (λ_ _ _ h=>h) (.inr ⟨?_,rfl⟩) hS ?_
 ·have:(b'==b)=false:=a0;simp[M7,cN ha hg];simpa using this
 exact h _ (ha.put hd undef)
def yC{op:Op}{p:String}{e:Array MV}(i:Nat)(hi:ops[i]? = some ⟨some d,op,t,p,e,some (j,b)⟩)(hg:jY ops st j=true)
  (hs:M6 ops=true) (hf:Mg .any ops listed i=true) (hr:(M5 .any ops listed).contains i=true) (hS:S w)
  (hd:L1 d N=true) (h:WH P N ops S Q fuel (listed.setIfInBounds i true) ((d,undef)::st) w):WH P N ops S Q (fuel+1) listed st w:=by
 intro a ha;refine wpAnyH_take (v:=undef) hi hs hf hr (λ_ _ _ h=>h) (.inr ⟨?_,rfl⟩) hS ?_
 ·unfold jY at hg;simp only[M7,yielded]
  cases hd:(ops[j]?).bind (·.dst)with
  |none=>rw[hd]at hg;simp at hg
  |some d=>
   rw[hd]at hg;simp only at hg
   cases hx:cV st d with
   |none=>rw[hx]at hg;simp at hg
   |some v=>
    rw[hx]at hg
    cases v<;>simp at hg
    simp[ha.get _ _ hx]
 exact h _ (ha.put hd undef)
def tE(P:L7)(ops:Array M8)(S:ln->Prop)(Q:Mq->MJ->ln->Prop)(a1:Nat)(a0:Array Bool):Mq->MJ->ln->Prop:=
 Exit.then (λa' w'=>S w'/\wpAnyH P .any ops (Calm Q) S a1 a0 a' w') (Calm Q)
def af(hS:S w)(h:WH P N ops S Q fuel (listed.setIfInBounds i true) st w):QF N (tE P ops S Q fuel (listed.setIfInBounds i true)) .normal st w:=λa ha=>⟨hS,h a ha⟩
def WH.all(rs:List Nat)(hr:M5 .any ops listed=rs)(a0:rs≠[])
  (h:∀i∈rs,∀o,ops[i]? = some o->WL P N ops (tE P ops S Q fuel (listed.setIfInBounds i true)) [o] st w):WH P N ops S Q (fuel+1) listed st w:=by
 intro a ha;refine wpAnyH_all hr a0 λi hi=>?_
 have a1:∃o,ops[i]? = some o:=by
  rw[<-hr]at hi;simp only[M5,No,MT]at hi;exact⟨_,Array.getElem?_eq_getElem hi.1⟩
 obtain⟨o,ho⟩:=a1;have h1:=h i hi o ho a ha;unfold wpOp;simp only[ho];unfold wpList at h1
 split
 ·rename_i hw;rw[ap hw]at h1;refine h1.imp (λh2=>?_) (fun⟨h2,h3⟩=>⟨h2,h3⟩);unfold MQ at h2 ⊢;generalize (execOp a.eval o).run P w=r at *
  cases r with
  |ok n w'=>
   cases n<;>simp only[Ni]at h2 ⊢<;>first
    |exact h2
    |exact Mk h2 (λe w'' he=>by cases e<;>exact he)
    |exact PU h2 (λ_ _ he=>he)
  |halt x w'=>cases x<;>simp only[Ni]at h2 ⊢<;>exact h2
 rename_i hw;rw[am hw]at h1;exact h1
def WH.one(i:Nat)(hr:M5 .any ops listed=[i])(hi:ops[i]? = some o)
  (h:WL P N ops (tE P ops S Q fuel (listed.setIfInBounds i true)) [o] st w):WH P N ops S Q (fuel+1) listed st w:=
 WH.all [i] hr (by simp) λj hj o' a0=>by
  simp only[L9]at hj;subst hj;rw[hi]at a0;cases a0;exact h
def bK(i j:Nat){o':M8}(hr:M5 .any ops listed=[i,j])(hi:ops[i]? = some o)(hj:ops[j]? = some o')
  (h:WL P N ops (tE P ops S Q fuel (listed.setIfInBounds i true)) [o] st w) (h':WL P N ops (tE P ops S Q fuel (listed.setIfInBounds j true)) [o'] st w):WH P N ops S Q (fuel+1) listed st w:=
 WH.all [i,j] hr (by simp) λk hk q hq=>by
  simp only[Qf,List.not_mem_nil,or_false]at hk
  rcases hk with rfl|rfl
  ·rw[hi]at hq;cases hq;exact h
  rw[hj]at hq;cases hq;exact h'
def bJ(hs:cV st d=some (.bool b))(hb:b=b')(h:WH P N ops S Q fuel listed ((d,.bool b')::st) w):WH P N ops S Q fuel listed st w:=by
 subst hb;refine λa ha=>h a ⟨ha.size,ha.defers,λt v hv=>?_⟩
 simp only[cV]at hv
 cases hb:MG d t with
 |true=>rw[hb]at hv;have:=LZ hb;subst this;simp at hv;subst hv;exact ha.get _ _ hs
 |false=>rw[hb]at hv;exact ha.get _ _ hv
def WH.done(hr:M5 .any ops listed=[])(h:QF N Q .normal st w):WH P N ops S Q fuel listed st w:=λa ha=>wpAnyH_done (Q:=Calm Q) hr (show Calm Q .normal a w from h a ha) fuel
end
section
variable(P:L7)(N:Nat)
def WS(ops:Array M8)(w:ln)(K:MJ->Prop)(l:List M8)(st:St):Prop:=∀a,Fits N a st->wpStill P ops w K l a
end
section
variable{P:L7}{N:Nat}{ops:Array M8}{Q:Mq→MJ→ln→Prop}{K:MJ→Prop}{st:St}{w:ln}{rest:List M8}
def WC.tail{l hd:List M8}(n:Nat)(ht:l.take n=hd)(a0:l.drop n=tl)(hm:P.follows .mixedOrders=true)(hB:Region.lexTailB .any l.toArray n=true)
  (h:WS P N l.toArray w.drew (λa'=>wpList P l.toArray Q tl a' w.drew) hd st):WC P N (NN id l.toArray true) Q st w:=λa ha=>by
 subst ht;subst a0;exact wp_region_still_tail n hm hB (h a ha)
def WC.still{l:List M8}(hm:P.follows .mixedOrders=true)(hB:Region.lexB .any l.toArray=true)
  (h:WS P N l.toArray w.drew (λa'=>Q .normal a' w.drew) l st):WC P N (NN id l.toArray true) Q st w:=λa ha=>by
 exact wp_region_still_lit hm hB (h a ha)
def WS.go(h:WL P N ops Q tl st w):WS P N ops w (λa'=>wpList P ops Q tl a' w) [] st:=λa ha=>h a ha
def WS.nil(h:QF N Q .normal st w):WS P N ops w (λa'=>Q .normal a' w) [] st:=λa ha=>h a ha
def qs{op:Op}{p:String}{e:Array MV}(hv:RV P N op t st w v)(hd:L1 d N=true)
  (h:WS P N ops w K rest ((d,v)::st)):WS P N ops w K (⟨some d,op,t,p,e,none⟩::rest) st:=λa ha=>by
 unfold wpStill;rw[ap (di rfl _)];unfold QA;rw[hv a ha];exact⟨rfl,h _ (ha.put hd v)⟩
def Li{op:Op}{p:String}{e:Array MV}{d:Option QM}(hs:said ops st j=some b)
  (h:WS P N ops w K (⟨d,op,t,p,e,none⟩::rest) st):WS P N ops w K (⟨d,op,t,p,e,some (j,b)⟩::rest) st:=by
 intro a ha;have h1:=h a ha;unfold wpStill at h1 ⊢;rw[ap (by simp[M7])]at h1;rw[ap (by simp[M7,cN ha hs])];exact h1
def WS.off{op:Op}{p:String}{e:Array MV}(hs:said ops st j=some b')(a0:(b'==b)=false)(hd:L1 d N=true)
  (h:WS P N ops w K rest ((d,undef)::st)):WS P N ops w K (⟨some d,op,t,p,e,some (j,b)⟩::rest) st:=by
 intro a ha;unfold wpStill;rw[am (by simp[M7,cN ha hs];simpa using a0)];exact h _ (ha.put hd undef)
def DM{op:Op}{p:String}{e:Array MV}(hs:jY ops st j=true)(hd:L1 d N=true)
  (h:WS P N ops w K rest ((d,undef)::st)):WS P N ops w K (⟨some d,op,t,p,e,some (j,b)⟩::rest) st:=by
 intro a ha;unfold wpStill;rw[am ?_]
 ·exact h _ (ha.put hd undef)
 unfold jY at hs;simp only[M7,yielded]
 cases hd:(ops[j]?).bind (·.dst)with
 |none=>rw[hd]at hs;simp at hs
 |some d=>
  rw[hd]at hs;simp only at hs
  cases hx:cV st d with
  |none=>rw[hx]at hs;simp at hs
  |some v=>
   rw[hx]at hs
   cases v<;>simp at hs
   simp[ha.get _ _ hx]
def dd{l:List M8}(hs:cV st d=some (.bool b))(hb:b=b')(h:WS P N ops w K l ((d,.bool b')::st)):WS P N ops w K l st:=by
 subst hb;refine λa ha=>h a ⟨ha.size,ha.defers,λt v hv=>?_⟩
 simp only[cV]at hv
 cases hb:MG d t with
 |true=>rw[hb]at hv;have:=LZ hb;subst this;simp at hv;subst hv;exact ha.get _ _ hs
 |false=>rw[hb]at hv;exact ha.get _ _ hv
def WS.call{t:L0}{p:String}{e:Array MV}{d:Nat}{f:MU}{args:List L3}{a2:Array L0}{vs:List ix}{v:ix}
  (hf:∀(args:Array ix) (w:ln),(callFunc f args).run P w=.ok (.enter f args) w) (a0:evs st args=some vs) (hc:Ret P f vs w λu w'=>u=v/\w'=w) (hd:L1 d N=true)
  (h:WS P N ops w K rest ((d,v)::st)):WS P N ops w K (⟨some d,.call ⟨.value (.func f),args.toArray,a2⟩,t,p,e,none⟩::rest) st:=by
 intro a ha;unfold wpStill;rw[ap (di rfl _)];unfold QA;have a1:(execOp a.eval ⟨some d,.call ⟨.value (.func f),args.toArray,a2⟩,t,p,e,none⟩).run P w=.ok (.enter f vs.toArray) w:=by
  simp only[execOp,resolve,MA,L8];rw[ha.evs a0];simp[Mx,invoke,hf]
 rw[a1];refine⟨rfl,v,Mk hc λe w' q=>?_,h _ (ha.put hd v)⟩
 cases e with
 |returned u=>exact⟨by rw[q.1],q.2⟩
 |panicked c=>exact q.elim
 |outgrown=>exact q.elim
end
end Go.VL
end
section
namespace Go.VL
section
variable{κ ν:Type}{kv:κ→ix}{vv:ν→ix}
structure MapO{κ ν:Type}(kv:κ->ix)(vv:ν->ix)(O:Nat->Nat)(w:ln)(i r:Nat)(l:List (κ×ν)):Prop where
 blk:∃es clock,w.heap[r]? = some (.map es clock)/\es.toList.map (λe=>(e.key,e.val))=l.map λp=>(kv p.1,vv p.2)
 tag:O r=i
 born:∀es clock,w.heap[r]? = some (.map es clock)->(es.toList.map (·.born)).Nodup/\∀e∈es.toList,e.born<clock
def MapO.U{r:Nat}{l:List (κ×ν)}(h:MapO kv vv O w i r l)(u:Upd S O w O' w')(hi:i≠0)(hS:¬S i):MapO kv vv O' w' i r l:=by
 obtain⟨es,c,h1,h2⟩:=h.blk;have e:=u.blk r (bN h1) (by rw[h.tag];exact hS);exact⟨⟨es,c,by rw[e];exact h1,h2⟩,by rw[u.tag r (by rw[h.tag];exact hi),h.tag],λa0 c' h'=>h.born a0 c' (by rw[<-e];exact h')⟩
def MapO.new(O:Nat->Nat)(w:ln)(i:Nat):MapO kv vv (mq O w.heap.size i) (w.alloc (.map #[] 0)) i w.heap.size []:=⟨⟨#[],0,heap_alloc_new w _,by simp⟩,eM _ _ _,λes c h=>by rw[heap_alloc_new]at h;cases h;simp⟩
end
section
variable{κ ν:Type}[DecidableEq κ]
def bI:List (κ×ν)->κ->Option ν
 |[],_=>none
 |(a,x)::r,k=>if a=k then some x else bI r k
def dc:List (κ×ν)->κ->ν->List (κ×ν)
 |[],k,x=>[(k,x)]
 |(a,y)::r,k,x=>if a=k then(k,x)::r else(a,y)::dc r k x
def jA:List (κ×ν)->κ->Option Nat
 |[],_=>none
 |(a,_)::r,k=>if a=k then some 0 else(jA r k).map (· + 1)
def bx(l:List (κ×ν))(k k':κ)(x:ν):bI (dc l k x) k'=if k=k' then some x else bI l k':=by
 induction l with
 |nil=>simp[dc,bI]
 |cons p r ih=>
  obtain⟨a,y⟩:=p;simp only[dc]
  by_cases h:a=k
  ·subst h;simp only[ap,bI]
   by_cases h2:a=k'<;>simp[h2]
  simp only[am h,bI]
  by_cases h2:a=k'
  ·subst h2;simp only[if_true];rw[am (λe=>h e.symm)]
  simp[h2,ih]
structure KeyL(P:L7)(K:L0)(kv:κ->ix):Prop where
 check:∀b n k w,(NV b (n+3) K (kv k)).run P w=.ok () w
 find:∀k (es:List Q4) (ks:List κ) w,es.map (·.key)=ks.map kv->(P2 K (kv k) es).run P w=.ok ((ks.findIdx? (· = k)).bind λi=>(es[i]?).map λe=>(i,e.val)) w
 same:∀k,NU 10000 (kv k) (kv k)=true
def KeyL.int{P:L7}{K:L0}{q:LX}(hK:P.underlying K=some (.int q)):KeyL P K (λn:Int=>MR q n):=by
 refine⟨λb n k w=>?_,λk es ks w h=>?_,λk=>?_⟩
 ·simp[NV,run_underlying hK]
 ·have key:∀(es:List Q4) (ks:List Int) (j:Nat),es.map (·.key)=ks.map (λn=>MR q n)->
    MZ (.int q) (.int q k) es j=some ((ks.findIdx? (· = k)).bind λi=>(es[i]?).map λe=>(j+i,e.val)):=by
   intro es
   induction es with
   |nil=>intro ks j h;cases ks with
    |nil=>simp[MZ]
    |cons a r=>simp at h
   |cons e es ih=>
    intro ks j h
    cases ks with
    |nil=>simp at h
    |cons a r=>
     simp only[M1,MW]at h;simp only[MZ,h.1,Qb,if_true]
     by_cases hk:k=a
     ·subst hk;simp[MS]
     have:(k==a)=false:=by simpa using hk
     rw[this];simp only;rw[ih r (j+1) h.2];simp only[MS,decide_eq_true_eq];rw[am (λe=>hk e.symm)]
     cases hf:Qg (λx=>decide (x=k)) r with
     |none=>simp
     |some i=>simp[P5,Qx 1]
  have:=key es ks 0 h;simp only[Mu]at this;simp[P2,run_underlying hK,this]
 simp[NU]
def G5(a b:ByteArray):(a==b)=decide (a=b):=by
 cases a with|mk a=>cases b with|mk b=>
 show(a==b)=_
 by_cases h:a=b
 ·subst h;simp
 have:(a==b)=false:=by simpa using h
 rw[this];symm;simpa using h
def GH{K:L0}(hK:P.underlying K=some .string):KeyL P K Qd:=by
 refine⟨λb n k w=>?_,λk es ks w h=>?_,λk=>?_⟩
 ·simp[NV,run_underlying hK]
 ·have key:∀(es:List Q4) (ks:List ByteArray) (j:Nat),es.map (·.key)=ks.map Qd->
    MZ .string (.string k) es j=some ((ks.findIdx? (· = k)).bind λi=>(es[i]?).map λe=>(j+i,e.val)):=by
   intro es
   induction es with
   |nil=>intro ks j h;cases ks with
    |nil=>simp[MZ]
    |cons a r=>simp at h
   |cons e es ih=>
    intro ks j h
    cases ks with
    |nil=>simp at h
    |cons a r=>
     simp only[M1,MW]at h;simp only[MZ,h.1,Qb,G5]
     by_cases hk:k=a
     ·subst hk;simp[MS]
     have:decide (k=a)=false:=by simpa using hk
     rw[this];simp only;rw[ih r (j+1) h.2];simp only[MS,decide_eq_true_eq];rw[am (λe=>hk e.symm)]
     cases hf:Qg (λx=>decide (x=k)) r with
     |none=>simp
     |some i=>simp[P5,Qx 1]
  have:=key es ks 0 h;simp only[Mu]at this;simp[P2,run_underlying hK,this]
 simp[NU,G5]
variable{kv:κ→ix}{vv:ν→ix}
def eL:∀(l:List (κ×ν)) (k:κ),(l.map (·.1)).findIdx? (· = k)=jA l k
 |[],k=>rfl
 |(a,x)::r,k=>by
  simp only[M1,MS,jA,decide_eq_true_eq]
  by_cases h:a=k
  ·simp[h]
  simp only[am h];rw[eL r k]
def lR:∀(l:List (κ×ν)) (k:κ),bI l k=(jA l k).bind λi=>(l[i]?).map (·.2)
 |[],k=>rfl
 |(a,x)::r,k=>by
  simp only[bI,jA]
  by_cases h:a=k
  ·simp[h]
  simp only[am h];rw[lR r k]
  cases jA r k<;>simp
def eT:∀(l:List (κ×ν)) (k:κ) (x:ν),dc l k x=match jA l k with
  |some i=>l.set i (k,x)
  |none=>l++[(k,x)]
 |[],k,x=>rfl
 |(a,y)::r,k,x=>by
  simp only[dc,jA]
  by_cases h:a=k
  ·simp[h]
  simp only[am h];rw[eT r k x]
  cases jA r k<;>simp
def iY:∀ {l:List (κ×ν)} {k:κ} {i:Nat},jA l k=some i->∃x,l[i]? = some (k,x)
 |(a,x)::r,k,i,h=>by
  simp only[jA]at h
  by_cases hk:a=k
  ·subst hk;simp at h;subst h;exact⟨x,rfl⟩
  rw[am hk]at h
  cases hr:jA r k with
  |none=>rw[hr]at h;simp at h
  |some j=>
   rw[hr]at h;simp at h;subst h;obtain⟨y,hy⟩:=iY hr;exact⟨y,by simpa using hy⟩
def Je(vv:ν->ix)(z:ix):Option ν->ix
 |some x=>vv x
 |none=>z
def G7(vv:ν->ix)(z:ix):Option ν->ix
 |some x=>.tuple #[vv x,.bool true]
 |none=>.tuple #[z,.bool false]
def jL{K:L0}(hT:P.underlying T=some (.map K E))(hK:KeyL P K kv){r:Nat}{l:List (κ×ν)}(h:MapO kv vv O w i r l)(hz:(N4 E).run P w=.ok z w)(k:κ)(ok:Bool):
  (Qj T (.map (some r)) (kv k) ok).run P w=.ok (match bI l k with
   |some x=>if ok then .tuple #[vv x,.bool true]else vv x
   |none=>if ok then .tuple #[z,.bool false]else z) w:=by
 obtain⟨es,c,h1,h2⟩:=h.blk;have a0:es.toList.map (·.key)=(l.map (·.1)).map kv:=by
  have:=congrArg (NZ QN) h2;simpa[Ph]using this
 have hf:=hK.find k es.toList (l.map (·.1)) w a0;rw[eL]at hf;simp only[Qj,L5,run_underlying hT,L2];simp only[getObj,NY,h1,L5,L2,Mb,hK.check es.isEmpty 9997 k w,hf];rw[lR]
 cases hi:jA l k with
 |none=>simp[hz]
 |some j=>
  obtain⟨x,hx⟩:=iY hi;have hj:es.toList[j]?.map (λe=>(e.key,e.val))=some (kv k,vv x):=by
   have:=congrArg (λl=>l[j]?) h2;simpa[hx]using this
  cases he:es.toList[j]? with
  |none=>rw[he]at hj;simp at hj
  |some e'=>
   rw[he]at hj;simp at hj;simp only[PB,he,hx,Mc,hj.2]
   cases ok<;>simp
def eA{K:L0}(hT:P.underlying T=some (.map K E))(hK:KeyL P K kv){r:Nat}{l:List (κ×ν)}(h:MapO kv vv O w i r l)(a':i≠0)(k:κ)(x:ν):
  ∃w',(NM T (.map (some r)) (kv k) (vv x)).run P w=.ok () w'/\MapO kv vv O w' i r (dc l k x)/\Upd (λj=>j=i) O w O w':=by
 obtain⟨es,c,h1,h2⟩:=h.blk;have a9:es.toList.map (·.key)=(l.map (·.1)).map kv:=by
  have:=congrArg (NZ QN) h2;simpa[Ph]using this
 have hf:=hK.find k es.toList (l.map (·.1)) w a9;rw[eL]at hf;have hr:=bN h1;have a8:es.size=l.length:=by have:=congrArg List.length h2;simpa using this
 have a1:=h.born es c h1;have a6:∀(a0:Array Q4) (c':Nat),((a0.toList.map (·.born)).Nodup/\∀e∈a0.toList,e.born<c')->a0.toList.map (λe=>(e.key,e.val))=(dc l k x).map (λp=>(kv p.1,vv p.2))->
   MapO kv vv O { w with heap:=w.heap.setIfInBounds r (.map a0 c') } i r (dc l k x)/\Upd (λj=>j=i) O w O { w with heap:=w.heap.setIfInBounds r (.map a0 c') }:=by
  intro a0 c' a4 he;refine⟨⟨⟨a0,c',by simp[hr],he⟩,h.tag,λb0 c2 h2=>by simp[hr]at h2;obtain⟨rfl,rfl⟩:=h2;exact a4⟩,⟨rfl,rfl,rfl,by simp,λb _ hn=>?_,λ_ _=>rfl,λ_ h=>.inl h,λh=>a' h.symm⟩⟩;simp only[NP];rw[am (λe=>hn (by rw[<-e];exact h.tag))]
 have a2:(NM T (.map (some r)) (kv k) (vv x)).run P w=((match ((jA l k).bind λi=>(es.toList[i]?).map λe=>(i,e.val))with
   |some (i,_)=>do
    let key <-NC (((es[i]?).map (·.key)).getD (kv k)) (kv k)
    setObj r (.map (es.modify i λe=>{ e with key,val:=vv x }) c)
   |none=>setObj r (.map (es.push { key:=kv k,val:=vv x,born:=c }) (c+1)):Sem Unit)).run P w:=by
  simp only[NM,L5,run_underlying hT,L2];simp only[getObj,NY,h1,L5,L2,hK.check false 9997 k w,hf];generalize ((jA l k).bind λi=>Option.map (λe=>(i,e.val)) es.toList[i]?)=q
  cases q with
  |none=>rfl
  |some p=>rfl
 rw[a2,eT]
 cases hi:jA l k with
 |none=>
  refine⟨_,by simp only[Option.bind_none,setObj,NY,h1];rfl,?_⟩
  have:=a6 (es.push { key:=kv k,val:=vv x,born:=c }) (c+1) (by
   refine⟨?_,?_⟩
   ·simp only[PI,NQ,M1,Mm];refine PQ.2 ⟨a1.1,by simp,?_⟩;intro a ha b hb;obtain⟨e,he,rfl⟩:=MO.1 ha;have:=a1.2 e he;simp at hb;omega
   intro e he;simp only[PI,Md,L9]at he
   rcases he with he|rfl
   ·have:=a1.2 e he;omega
   simp) (by rw[eT,hi];simp[h2])
  rw[eT,hi]at this;exact this
 |some j=>
  obtain⟨y,hy⟩:=iY hi;have hj:es.toList[j]?.map (λe=>(e.key,e.val))=some (kv k,vv y):=by
   have:=congrArg (λl=>l[j]?) h2;simpa[hy]using this
  cases he:es.toList[j]? with
  |none=>rw[he]at hj;simp at hj
  |some e'=>
   rw[he]at hj;simp at hj;have a3:es[j]? = some e':=by simpa using he
   have a7:(NC (kv k) (kv k))=pure (kv k):=by simp[NC,hK.same k]
   refine⟨_,by simp only[PB,he,Mc,a3,hj.1,Option.getD_some,a7,L5,Mb,L2,setObj,NY,h1];rfl,?_⟩;have a5:((es.modify j λe=>{ e with key:=kv k,val:=vv x }).toList.map (·.born))=es.toList.map (·.born):=by
    simp only[Pm];apply PS;intro m;simp only[NI,Pk]
    split
    ·cases es.toList[m]?<;>simp
    cases es.toList[m]?<;>simp
   have:=a6 (es.modify j λe=>{ e with key:=kv k,val:=vv x }) c (by
    rw[a5];refine⟨a1.1,λe he=>?_⟩;have:e.born∈es.toList.map (·.born):=by rw[<-a5];exact MO.2 ⟨e,he,rfl⟩
    obtain⟨e2,a3,q⟩:=MO.1 this;have:=a1.2 e2 a3;omega) (by
    rw[eT,hi];simp only[Pm];apply PS;intro m;have h2m:=congrArg (λl=>l[m]?) h2;simp only[NI]at h2m;simp only[NI,Pk,List.getElem?_set]
    by_cases hm:j=m
    ·subst hm;simp[he,(Mf.1 hy).1]
    simp only[am hm]
    simpa using h2m)
   rw[eT,hi]at this;exact this
section
variable{P:L7}{N:Nat}{ops:Array M8}{Q:Mq→MJ→ln→Prop}{rest:List M8}{st:St}{w:ln}
variable{t:L0}{p:String}{e:Array MV}{d:Nat}{x y z:L3}
def WL.makeMap{T:L0}(hd:L1 d N=true)(h:WL P N ops Q rest ((d,.map (some w.heap.size))::st) (w.alloc (.map #[] 0))):WL P N ops Q (⟨some d,.makeMap T none,t,p,e,none⟩::rest) st w:=
 WL.val hd (λa ha=>by simp only[execOp,MB,L5];rfl) h
def RV.lookup{T K E:L0}{O:Nat->Nat}{i r:Nat}{l:List (κ×ν)}(hm:MapO kv vv O w i r l)(hT:P.underlying T=some (.map K E))(hK:KeyL P K kv){z:ix}(hz:(N4 E).run P w=.ok z w)
  (k:κ) {kx u:ix} (hx:ev st x=some (.map (some r))) (hy:ev st y=some kx) (hk:kx=kv k) (hu:Je vv z (bI l k)=u):RV P N (.lookup T x y false) t st w u:=
 λa ha a0 p e g=>by
  subst hk;subst hu;simp only[execOp,ha.ev hx,ha.ev hy,L5,jL hT hK hm hz]
  cases bI l k<;>simp[Je]
def dr{T K E:L0}{O:Nat->Nat}{i r:Nat}{l:List (κ×ν)}(hm:MapO kv vv O w i r l)(hT:P.underlying T=some (.map K E))(hK:KeyL P K kv){z:ix}(hz:(N4 E).run P w=.ok z w)
  (k:κ) {kx u:ix} (hx:ev st x=some (.map (some r))) (hy:ev st y=some kx) (hk:kx=kv k) (hu:G7 vv z (bI l k)=u):RV P N (.lookup T x y true) t st w u:=
 λa ha a0 p e g=>by
  subst hk;subst hu;simp only[execOp,ha.ev hx,ha.ev hy,L5,jL hT hK hm hz]
  cases bI l k<;>simp[G7]
def WL.mapUpdate{T K E:L0}{O:Nat->Nat}{i r:Nat}{l:List (κ×ν)}(hm:MapO kv vv O w i r l)(hT:P.underlying T=some (.map K E))(hK:KeyL P K kv)(a0:i≠0)
  (k:κ) (u:ν) {kx ux:ix} (hx:ev st x=some (.map (some r))) (hy:ev st y=some kx) (hz:ev st z=some ux) (hk:kx=kv k) (hu:ux=vv u)
  (h:∀w',MapO kv vv O w' i r (dc l k u)->Upd (λj=>j=i) O w O w'->WL P N ops Q rest st w'):WL P N ops Q (⟨none,.mapUpdate T x y z,t,p,e,none⟩::rest) st w:=by
 subst hk;subst hu;obtain⟨w',h1,h2,h3⟩:=eA hT hK hm a0 k u;exact iZ (λa ha=>by simp only[execOp,ha.ev hx,ha.ev hy,ha.ev hz,L5,h1,L2,Mb]) (h w' h2 h3)
end
end
end Go.VL
end
section
namespace Go.VL
def Jc[Inhabited α](h:∀j,j<l.length->p (nth l j)=true):l.all p=true:=by
 rw[PY];intro x hx;obtain⟨i,hi,rfl⟩:=Pw hx;rw[<-aD hi];exact h i hi
def xO[Inhabited α](hj:j<l.length)(h:p (nth l j)=false):l.all p=false:=by
 rw[List.all_eq_false];exact⟨l[j],Nj hj,by rw[<-aD hj,h];simp⟩
def aZ[Inhabited α](hj:j<l.length):nth l j∈l:=by rw[aD hj];exact Nj hj
def bd[Inhabited α](hj:j<l.length):l.take (j+1)=l.take j++[nth l j]:=by
 rw[NG hj,aD hj]
def cu[Inhabited α]{x:α}(hx:x∈l):∃j,j<l.length/\nth l j=x:=by
 obtain⟨i,hi,rfl⟩:=Pw hx;exact⟨i,hi,aD hi⟩
def jy(q:Nat->Bool)(n:Nat):Bool:=(Mv n).any q
def eK{q:Nat->Bool}:jy q n=true↔∃i,i<n/\q i=true:=by simp[jy]
def bM{q:Nat->Bool}:jy q n=false↔∀i,i<n->q i=false:=by simp[jy]
def Bp{q r:Nat->Bool}(h:∀i,i<n->q i=r i):jy q n=jy r n:=by
 cases hq:jy r n with
 |true=>obtain⟨i,hi,hr⟩:=eK.1 hq;exact eK.2 ⟨i,hi,by rw[h i hi,hr]⟩
 |false=>exact bM.2 λi hi=>by rw[h i hi];exact bM.1 hq i hi
def iX[Inhabited α]:jy (λi=>p (nth l i)) l.length=l.any p:=by
 cases h:l.any p with
 |true=>
  obtain⟨x,hx,hp⟩:=Nk.1 h;obtain⟨i,hi,rfl⟩:=cu hx;exact eK.2 ⟨i,hi,hp⟩
 |false=>exact bM.2 λi hi=>by have:=List.any_eq_false.1 h _ (aZ hi);simpa using this
def eu(q:Nat->Bool)(n:Nat):Int:=match (Mv n).find? q with
 |some i=>i
 |none=>-1
def cX{q:Nat->Bool}(h:∀i,i<n->q i=false):eu q n = -1:=by
 have:(Mv n).find? q=none:=by rw[PE];intro x hx;simp[h x (MT.1 hx)]
 rw[eu,this]
def cZ{q:Nat->Bool}{k:Nat}(hk:k<n)(hy:q k=true)(a0:∀i,i<k->q i=false):eu q n=k:=by
 have:(Mv n).find? q=some k:=by
  rw[List.find?_range_eq_some];exact⟨hy,MT.2 hk,λj hj=>by simp[a0 j hj]⟩
 rw[eu,this]
def firstN_any{q:Nat->Bool}:decide ((0:Int)<=eu q n)=jy q n:=by
 cases h:jy q n with
 |false=>rw[cX (bM.1 h)];rfl
 |true=>
  obtain⟨i,hi,hq⟩:=eK.1 h;have:∃j,(Mv n).find? q=some j:=by
   cases hf:(Mv n).find? q with
   |some j=>exact⟨j,rfl⟩
   |none=>rw[PE]at hf;exact absurd hq (hf i (MT.2 hi))
  obtain⟨j,hj⟩:=this;rw[eu,hj];simp
def ff[Inhabited α](h:l.length<=j):nth l j=default:=by simp[nth,Mo,Ns h]
def bf[Inhabited α]{x:α}(hi:i<l.length):nth (l.set i x) j=if j=i then x else nth l j:=by
 by_cases hj:j<l.length
 ·rw[aD (by simpa using hj),aD hj,List.getElem_set]
  by_cases h:i=j<;>simp[h,eq_comm]
 rw[am zo];have:∀l:List α,l.length<=j->nth l j=default:=λl h=>by simp[nth,Mo,Ns h]
 rw[this _ (by simp;omega),this _ zo]
def aC[Inhabited α]{r:List α}:nth (l++r) j=if j<l.length then nth l j else nth r (j-l.length):=by
 split
 ·rename_i h;rw[aD (by simp;omega),aD h,List.getElem_append_left h]
 rename_i h
 by_cases hj:j-l.length<r.length
 ·rw[aD (by simp;omega),aD hj,List.getElem_append_right zo]
 have:∀(l:List α) (j:Nat),l.length<=j->nth l j=default:=λl j h=>by simp[nth,Mo,Ns h]
 rw[this _ _ (by simp;omega),this _ _ zo]
def ed[Inhabited α][Inhabited β]{f:α->β}(h:i<l.length):nth (l.map f) i=f (nth l i):=by
 rw[aD (by simpa using h),aD h];simp
end Go.VL
end
section
namespace Go.VL
open Go.ChangeShapes Go.WideShapes Go.ChangeAt Go.RowKit Go.Deep
variable{H:Type}{enc:L0×ix→H}{P:L7}{w:ln}{base:Nat}{held:Bool}
def DV{args:List ix}(h:Ret P f args w λv w'=>v=.bool true/\Ext w w'):Qu P f args.toArray w λe w'=>e=.returned (.bool true)/\Below w.heap.size w w':=
 Mk h λe w' q=>by
  cases e with
  |returned v=>exact⟨by rw[q.1],q.2⟩
  |panicked c=>exact q.elim
  |outgrown=>exact q.elim
end Go.VL
end
section
namespace Go.VL
open Go.ChangeShapes Go.WideShapes Go.ChangeAt Go.RowKit Go.Deep
section
variable{H:Type}{enc:L0×ix→H}{P:L7}{w:ln}{base:Nat}{held:Bool}
def Rd(enc:L0×ix->H)(P:L7)(w:ln)(base:Nat)(a0:Bool)(t:L0)(cs:List ix):Prop:=∃fuel x,NW enc P w base (λ_=>true) a0 fuel t cs=some x
def Ll{d:DataW H}{ps:List MemPlace}(h:DataW.Trod enc P w base (λ_=>true) held t v d ps):Rd enc P w base held t v.cells.toList:=by
 obtain⟨a0,hf⟩:=h;exact⟨a0,_,hf⟩
def Rd.int{t:L0}{k:LX}{cs:List ix}(ht:P.underlying t=some (.int k))(h:Rd enc P w base held t cs):∃n,cs=[.int k n]/\(R9 k n).wf=true:=by
 obtain⟨a0,x,h⟩:=h
 cases a0 with
 |zero=>simp[NW]at h
 |succ m=>
  unfold NW at h;rw[ht]at h
  split at h<;>simp_all
def Rd.slice{t e:L0}{sz:Nat}{cs:List ix}(ht:P.underlying t=some (.slice e))(ce:P.cellsOf e=sz)(hz:0<sz)(h:Rd enc P w base held t cs):
  ∃v xs,cs=[v]/\Sl (λc:List ix=>c) sz w v xs/\∀c∈xs,c.length=sz/\Rd enc P w base held e c:=by
 obtain⟨a5,x,h⟩:=h
 rcases open_slice ht h with⟨rfl,_⟩|⟨a,len,a6,m,n,D,Pl,rfl,hb,hl,hm,a3,rfl,hx⟩
 ·exact⟨_,[],rfl,⟨⟨none,0,rfl,Me _,zo,λh=>absurd rfl h⟩,λi hi=>absurd hi (by simp)⟩,by simp⟩
 simp only[if_true]at a3;subst a3;obtain⟨V,hV⟩:=choose_lt (α:=List ix) (p:=λi c=>w.cells? base (a.add (i*P.cellsOf e)) (P.cellsOf e)=some c/\NW enc P w base (λ_=>true) held n e c=some (D i,Pl i)) hx;rw[ce]at hV;have hc:∀i,i<len->∀j u,(V i)[j]? = some u->w.cell? (a.add (i*sz+j))=some u:=λi hi j u hu=>by
  obtain⟨_,a0,a1⟩:=Pz (hV i zo).1;have hj:j<sz:=by have:=(Mf.1 hu).1;omega
  have:=a1 j hj;rw[add_add]at this;rw[this,hu]
 have a0:∀i,i<len->(V i).length=sz:=λi hi=>(Pz (hV i zo).1).2.1
 have a2:((Mv len).map V).length=len:=by simp
 refine⟨_,(Mv len).map V,rfl,⟨⟨some a,m,by rw[a2],zo,by simpa[maxLen]using hm,λh=>?_⟩,λi hi j u hu=>?_⟩,λc a4=>?_⟩
 ·rw[a2]at h;have h0:0<(V 0).length:=by rw[a0 0 zo];exact hz
  have:=hc 0 zo 0 _ (Mw h0);obtain⟨b,o,s⟩:=a;have hs:s=none:=by simpa[Mh]using PO this
  subst hs;exact⟨b,o,rfl⟩
 ·rw[a2]at hi;have h0:0<(V 0).length:=by rw[a0 0 zo];exact hz
  obtain⟨b,o,s⟩:=a;have hs:s=none:=by simpa[Mh]using PO (hc 0 zo 0 _ (Mw h0))
  subst hs;simp only[PX,PD]at hu;have h2:=hc i hi j u hu;simp only[adr];have e1:((⟨b,o,none⟩:Mr).add (i*sz+j))=((⟨b,o+i*sz,none⟩:Mr).add j):=by
   simp only[Mh];split<;>split<;>simp_all<;>omega
  rw[e1]at h2;exact h2
 simp only[MO,MT]at a4;obtain⟨i,hi,rfl⟩:=a4;exact⟨a0 i hi,n,_,(hV i zo).2⟩
def CN{α β:Type}{f:α->β}{R:α->Prop}:∀(xs:List β),(∀c∈xs,∃a,c=f a/\R a)->∃ys:List α,xs=ys.map f/\∀y∈ys,R y
 |[],_=>⟨[],rfl,by simp⟩
 |c::xs,h=>by
  obtain⟨a,ha,hR⟩:=h c (by simp);obtain⟨ys,hy,hr⟩:=CN xs (λc hc=>h c (by simp[hc]));exact⟨a::ys,by simp[ha,hy],by simpa[hR]using hr⟩
def Sl.of_map{enc:β->List ix}{f:α->β}{ys:List α}(h:Sl enc sz w v (ys.map f)):Sl (λa=>enc (f a)) sz w v ys:=by
 refine⟨by simpa using h.shape,λi hi j u hu=>h.cells i (by simpa using hi) j u (by simpa using hu)⟩
def Rd.sliceOf{f:α->List ix}{R:α->Prop}{e:L0}(ht:P.underlying t=some (.slice e))(ce:P.cellsOf e=sz)(hz:0<sz)(a0:∀c,Rd enc P w base held e c->∃a,c=f a/\R a)(h:Rd enc P w base held t cs):
  ∃v xs,cs=[v]/\Sl f sz w v xs/\∀a∈xs,R a:=by
 obtain⟨v,xs,rfl,hs,hx⟩:=h.slice ht ce hz;obtain⟨ys,rfl,hy⟩:=CN (f:=f) (R:=R) xs λc hc=>a0 c (hx c hc).2
 exact⟨v,ys,rfl,hs.of_map,hy⟩
def Rd.ints{e:L0}(ht:P.underlying t=some (.slice e))(he:P.underlying e=some (.int k))(ce:P.cellsOf e=1)(h:Rd enc P w base held t cs):
 ∃v zs,cs=[v]/\Sl (λn=>[MR k n]) 1 w v zs/\∀n∈zs,(R9 k n).wf=true:=h.sliceOf ht ce zd (λ_ hc=>hc.int he)
end
end Go.VL
end
section
namespace Go.VL
def evp(st:St):List (Nat×L3)->Option (List (Nat×ix))
 |[]=>some []
 |(i,x)::r=>match ev st x,evp st r with
  |some v,some vs=>some ((i,v)::vs)
  |_,_=>none
section
variable{P:L7}{N:Nat}{ops:Array M8}{Q:Mq→MJ→ln→Prop}{rest:List M8}{st:St}{w:ln}
variable{t:L0}{p:String}{e:Array MV}{d:Nat}{x y z:L3}
def Fits.evp{a:MJ}(ha:Fits N a st):∀ {l:List (Nat×L3)} {vs:List (Nat×ix)},evp st l=some vs->l.map (λq=>(q.1,a.eval q.2))=vs:=by
 intro l
 induction l with
 |nil=>intro vs h;simpa[VL.evp]using h.symm
 |cons q r ih=>
  obtain⟨i,x⟩:=q;intro vs h;simp only[VL.evp]at h
  cases h1:VL.ev st x with
  |none=>rw[h1]at h;simp at h
  |some v=>
   cases h2:VL.evp st r with
   |none=>rw[h1,h2]at h;simp at h
   |some vs'=>
    rw[h1,h2]at h;simp at h;subst h;rw[M1,ha.ev h1,ih h2]
def cI(P:L7)(T:L0)(pl:Array (Nat×Nat)):Prop:=
 ∃fs,P.underlying T=some (.struct fs)/\∀w,(fs.mapM λf=>do pure (f.offset,<-Mp f.type):Sem (Array (Nat×Nat))).run P w=.ok pl w
def RV.build{T:L0}{pl:Array (Nat×Nat)}{parts:List (Nat×L3)}{vs:List (Nat×ix)}{z:ix}{cells:Array ix}(hp:cI P T pl)(hz:(N4 T).run P w=.ok z w)
  (hv:evp st parts=some vs) (hf:Nb (pl[·]?) z.cells vs=some cells):RV P N (.build T parts.toArray) t st w (.agg cells):=
 λa ha a1 p e g=>by
  obtain⟨fs,hu,a0⟩:=hp;have e1:(NZ (λx:Nat×L3=>match x with|(i,x)=>(i,a.eval x)) parts)=vs:=by rw[<-(ha.evp hv)]
  simp only[execOp,Qs,L8,e1,L5,hz,L2,run_underlying hu,a0,hf,Mb]
def fill_flat(pl:Array (Nat×Nat)):∀(vs:List (Nat×ix)) (cells:Array ix),(vs.all λq=>q.2.oneCell')=true->
  (vs.all λq=>match pl[q.1]? with|some (off,1)=>L1 off cells.size|_=>false)=true->
  Nb (pl[·]?) cells vs=some (vs.foldl (λcs q=>cs.setIfInBounds (pl.getD q.1 (0,0)).1 q.2) cells)
 |[],cells,_,_=>rfl
 |(i,v)::r,cells,h1,h2=>by
  simp only[Qi,M4]at h1 h2;obtain⟨hv,h1⟩:=h1;obtain⟨hi,h2⟩:=h2
  cases hp:pl[i]? with
  |none=>rw[hp]at hi;simp at hi
  |some q=>
   obtain⟨off,s⟩:=q;rw[hp]at hi
   split at hi
   ·rename_i he;simp only[Nv,PV]at he;obtain⟨rfl,rfl⟩:=he;have a2:=MY hi;have hc:v.cells = #[v]:=by cases v<;>first|rfl|simp[MN]at hv
    have hg:pl.getD i (0,0)=(off,1):=by simp[L6,hp]
    have a0:∀(f:Array ix->ix×Nat->Array ix),(∀cs c j,f cs (c,j)=cs.setIfInBounds (off+j) c)->(#[v].zipIdx).foldl f cells=cells.setIfInBounds off v:=λf hf=>by
     rw[show(#[v].zipIdx) = #[(v,0)]from rfl];show f cells (v,0)=_;rw[hf];rfl
    have a1:=zo;simp only[Nb,hp,hc,Nq,hg];have e1:((#[v].size:Nat))=1:=rfl;simp only[e1];rw[am (by simp;omega)];rw[a0 _ (λ_ _ _=>rfl)];exact fill_flat pl r _ h1 (by simpa using h2)
   cases hi
def aI{T:L0}{pl:Array (Nat×Nat)}{parts:List (Nat×L3)}{vs:List (Nat×ix)}{z:ix}{cells:Array ix}(hp:cI P T pl)(hz:(N4 T).run P w=.ok z w)
  (hv:evp st parts=some vs) (h1:(vs.all λq=>q.2.oneCell')=true) (h2:(vs.all λq=>match pl[q.1]? with|some (off,1)=>L1 off z.cells.size|_=>false)=true)
  (hf:vs.foldl (λcs q=>cs.setIfInBounds (pl.getD q.1 (0,0)).1 q.2) z.cells=cells):RV P N (.build T parts.toArray) t st w (.agg cells):=
 RV.build hp hz hv (by rw[fill_flat pl vs _ h1 h2,hf])
def uu{b:Nat}{cs us:Array ix}(hb:BlkO O w i b cs E)(hs:us.size=cs.size)(hT:(Mp T).run P w=.ok us.size w)(h1:∀u∈us.toList,u.oneCell'=true):
  (Nz T (nP b) (.agg us)).run P w=.ok () (w.setRow b us):=by
 have:=run_storeCells_at P b 0 E us.toList 0 cs w hb.blk (by simp[hs]) h1;simp only[Mu,Q9,N2,Pn]at this;rw[P8 (by simp[hs]),MI]at this;simp only[Nz,My,storeVar,L5,Mb,L2,Pc,hT];simpa using this
def BlkO.setRow{O:Nat->Nat}{w:ln}{i b:Nat}{cs us:Array ix}{E:L0}(h:BlkO O w i b cs E):BlkO O (w.setRow b us) i b us E:=
 ⟨setRow_heap w b cs us E (0,0) h.blk,h.tag⟩
def Upd.setRow{S:Nat->Prop}(hz:¬S 0){O:Nat->Nat}{w:ln}{i b:Nat}{us:Array ix}(ht:O b=i)(hS:S i):Upd S O w O (w.setRow b us):=
 ⟨rfl,rfl,rfl,by simp,λk _ hn=>setRow_other w b k _ (λe=>hn (by subst e;rw[ht];exact hS)),λ_ _=>rfl,λ_ h=>.inl h,hz⟩
def bL{b:Nat}{cs us:Array ix}(hb:BlkO O w i b cs E)(hs:us.size=cs.size)(hT:(Mp T).run P w=.ok us.size w)(h1:us.toList.all MN=true)
   (hx:ev st x=some (.pointer (some q))) (hq:q=⟨b,0,none⟩) (hy:ev st y=some (.agg us))
  (h:WL P N ops Q rest st (w.setRow b us)):WL P N ops Q (⟨none,.store T x y,t,p,e,none⟩::rest) st w:=
 iZ (λa ha=>by
  subst hq
  simp only[execOp,ha.ev hx,ha.ev hy,L5,uu hb hs hT (PY.1 h1),L2,Mb]) h
def aQ(r:Rng B O w)(i:Nat)(a0:i≠0)(hx:ev st x=some v)(hd:L1 d N=true)
  (h:∀b w' O',BlkO O' w' i b v.cells E->Upd (λj=>j=i) O w O' w'->Rng B O' w'->Ext w w'->WL P N ops Q rest ((d,nP b)::st) w'):WL P N ops Q (⟨some d,.box E x,t,p,e,none⟩::rest) st w:=by
 have u:=Upd.alloc (S:=λj=>j=i) (λh=>a0 h.symm) r (.cells v.cells E) i;exact WL.box hx hd (h _ _ _ (BlkO.new _ _ _ _ _) u (r.U u) (Ext.alloc _ _))
def aw{B:Nat}{O:Nat->Nat}(r:Rng B O w)(i:Nat)(a0:i≠0){E:L0}{z:ix}(hz:(N4 E).run P w=.ok z w)(hd:L1 d N=true)
  (h:∀b w' O',BlkO O' w' i b z.cells E->Upd (λj=>j=i) O w O' w'->Rng B O' w'->Ext w w'->WL P N ops Q rest ((d,nP b)::st) w'):WL P N ops Q (⟨some d,.alloc E,t,p,e,none⟩::rest) st w:=by
 have u:=Upd.alloc (S:=λj=>j=i) (λh=>a0 h.symm) r (.cells z.cells E) i;exact WL.alloc hz hd (h _ _ _ (BlkO.new _ _ _ _ _) u (r.U u) (Ext.alloc _ _))
def BlkO.V{b:Nat}{cs:Array ix}(h:BlkO O w i b cs E):∀j u,cs.toList[j]? = some u->w.cell? (nA b j)=some u:=λj u hu=>by
 rw[show(nA b j)=⟨b,j,none⟩from by simp only[Mh];split<;>simp_all];exact h.cell j (by simpa using hu)
end
section
variable{P:L7}{N:Nat}{st:St}{w:ln}{fn:Qn}{R:ix→ln→Prop}
def dW(hc:∀j u,us[j]? = some u->w.cell? (q.add j)=some u)(hT:(Q0 T).run P w=.ok true w)(hn:(Mp T).run P w=.ok us.length w):
  (loadVar T q).run P w=.ok (.agg us.toArray) w:=by
 have:=run_loadCellsFrom (P:=P) us 0 #[] (q:=q) (w:=w) (by simpa using hc);simp[loadVar,hT,hn,loadCells,this]
def aR{t:QM}(hr:fn.results = #[.cell t T])(hv:cV st t=some (.pointer (some q)))
  (hc:∀j u,us[j]? = some u->w.cell? (q.add j)=some u) (hT:(Q0 T).run P w=.ok true w) (hn:(Mp T).run P w=.ok us.length w) (h:R (.agg us.toArray) w):QF N (RP P fn R) .ret st w:=λa ha=>
 ⟨ha.defers,_,by have h1:=ha.get _ _ hv;simp[results,hr,L6,h1,asAddr,dW hc hT hn],h⟩
def bE{t u:QM}(hr:fn.results = #[.cell t T,.tmp u])(hv:cV st t=some (.pointer (some q)))(a0:cV st u=some v')
  (hc:∀j u,us[j]? = some u->w.cell? (q.add j)=some u) (hT:(Q0 T).run P w=.ok true w) (hn:(Mp T).run P w=.ok us.length w) (h:R (.tuple #[.agg us.toArray,v']) w):QF N (RP P fn R) .ret st w:=λa ha=>
 ⟨ha.defers,_,by have h1:=ha.get _ _ hv;have h2:=ha.get _ _ a0;simp[results,hr,L6,h1,h2,asAddr,dW hc hT hn],h⟩
end
def yE{g:Nat}{cells:Array ix}(hb:w.heap[g]? = some (.cells cells E (0,0)))(hc:cells.toList=xs.flatMap enc)(hz:∀x∈xs,(enc x).length=sz)(hm:xs.length<=9223372036854775807):
  Sl enc sz w (.slice (some ⟨g,0,none⟩) xs.length xs.length) xs:=by
 refine⟨⟨_,_,rfl,Me _,hm,λ_=>⟨g,0,rfl⟩⟩,λi hi j u hu=>?_⟩;have h:=fj xs hz i hi j u hu;have ha:((adr (.slice (some ⟨g,0,none⟩) xs.length xs.length) sz i).add j)=⟨g,i*sz+j,none⟩:=by
  simp only[adr,Mh];split<;>simp_all
 rw[ha,cell_of_row w g _ cells E (0,0) hb];rw[<-hc]at h;simpa using h
section
variable{P:L7}{N:Nat}{ops:Array M8}{Q:Mq→MJ→ln→Prop}{rest:List M8}{st:St}{w:ln}
variable{t:L0}{p:String}{e:Array MV}{d:Nat}
def cE{parts:List (Nat×L3)}{vs:List (Nat×ix)}(hu:P.underlying T=some (.slice E))(hE:(Mp E).run P w=.ok sz w)(hz:(N4 E).run P w=.ok z w)
   (enc:α->List ix) (xs:List α) (hn:xs.length=n) (hv:evp st parts=some vs) (a4:Pe (n*sz) 16777216=true) (a1:MG (n*sz) 0=false)
  (hf:Nb (λi=>some (i*sz,sz)) ((Array.range (n*sz)).map (z.cells[· % z.cells.size]!)) vs=some (xs.flatMap enc).toArray) (a2:∀x∈xs,(enc x).length=sz) (hd:L1 d N=true)
  (h:∀v w',Sl enc sz w' v xs->Ext w w'->WL P N ops Q rest ((d,v)::st) w'):WL P N ops Q (⟨some d,.buildSlice T n parts.toArray,t,p,e,none⟩::rest) st w:=by
 subst hn;have a3:=MY a4;have a0:¬xs.length*sz=0:=λe=>by rw[e]at a1;simp at a1
 have a5:xs.length<=xs.length*sz:=Nat.le_mul_of_pos_right _ (PP λe=>a0 (by rw[e,Nat.mul_zero]));refine WL.val (v:=.slice (some ⟨w.heap.size,0,none⟩) xs.length xs.length) (w':=w.alloc (.cells (xs.flatMap enc).toArray E)) hd (λa ha=>?_) (h _ _ (yE (heap_alloc_new w _) rfl a2 zo) (Ext.alloc _ _));have e1:(NZ (λx:Nat×L3=>match x with|(i,x)=>(i,a.eval x)) parts)=vs:=by rw[<-(ha.evp hv)]
 simp only[execOp,Instr.buildSlice,L8,e1,L5,run_underlying hu,L2,hE];rw[am zo,am a0];simp[hz,hf,newRow,newObj];rfl
end
end Go.VL
end
section
namespace Go.VL
section
variable{P:L7}{N:Nat}{ops:Array M8}{Q:Mq→MJ→ln→Prop}{rest:List M8}{st:St}{w:ln}
def gy(K:Mq->MJ->ln->Prop):∀(l r:List M8) (a:MJ) (w:ln),(∀e a w,K e a w->e≠.normal->Q e a w)->(∀a w,K .normal a w->wpList P ops Q r a w)->wpList P ops K l a w->wpList P ops Q (l++r) a w
 |[],r,a,w,_,hn,h=>hn a w h
 |o::l,r,a,w,hx,hn,h=>by
  simp only[Mz];unfold wpList at h ⊢;have ih:=λa w=>gy K l r a w hx hn
  have a1:∀c a w,K (.panic c) a w->Q (.panic c) a w:=λc a w h=>hx _ a w h (by intro h;cases h)
  split
  ·rename_i hw;rw[ap hw]at h
   rcases h with h|⟨h1,a0,w0,h2⟩
   ·left;unfold MQ at h ⊢;generalize (execOp a.eval o).run P w=q at *
    cases q with
    |ok n w'=>
     cases n<;>simp only[Ni]at h ⊢<;>first
      |exact ih _ _ h
      |exact h.elim
      |exact PU h (λ_ _ he=>ih _ _ he)
      |exact Mk h (λe w'' he=>by
       cases e with
       |returned v=>exact ih _ _ he
       |panicked c=>exact a1 _ _ _ he
       |outgrown=>obtain⟨a0,w0,he⟩:=he;exact⟨a0,w0,hx _ a0 w0 he (by intro h;cases h)⟩)
    |halt x w'=>cases x<;>simp only[Ni]at h ⊢<;>first|exact a1 _ _ _ h|exact h.elim
   exact .inr ⟨h1,a0,w0,hx _ a0 w0 h2 (by intro h;cases h)⟩
  rename_i hw;rw[am hw]at h;exact ih _ _ h
def Jv(N:Nat)(S:ln->Prop)(tB:Nat)(b:Bool)(st:St):Mq->MJ->ln->Prop:=λe a w=>e=.normal/\S w/\Fits N a st/\a.tmps[tB]? = some (.bool b)
def uI(N:Nat)(ops:Array M8)(st:St):List M8->Bool
 |[]=>true
 |o::r=>(match o.guard with
  |some (i,c)=>(match (ops[i]?).bind (·.dst)with
   |some d=>(match cV st d with
    |some (.bool x)=>!(x==c)
    |some (.tuple _)=>true
    |_=>false)
   |none=>false)
  |none=>false)&&(match o.dst with|some d=>(match cV st d with|none=>true|_=>false)&&L1 d N&&uI N ops ((d,undef)::st) r|none=>false)
def sx:∀(l:List M8) (st0 st:St) (a:MJ),uI N ops st l=true->(∀t v,cV st0 t=some v->cV st t=some v)->Fits N a st->(∀a',Fits N a' st0->wpList P ops Q rest a' w)->wpList P ops Q (l++rest) a w
 |[],st0,st,a,_,hc,ha,h=>h a ⟨ha.size,ha.defers,λt v hv=>ha.get t v (hc t v hv)⟩
 |o::l,st0,st,a,hp,hc,ha,h=>by
  simp only[uI,M4]at hp;obtain⟨hg,hd⟩:=hp
  cases a2:o.dst with
  |none=>rw[a2]at hd;simp at hd
  |some d=>
   rw[a2]at hd;simp only[M4]at hd;obtain⟨⟨a4,a6⟩,a5⟩:=hd;have a0:cV st d=none:=by cases h:cV st d with|none=>rfl|some v=>rw[h]at a4;simp at a4
   simp only[Mz];unfold wpList;rw[am ?_]
   ·rw[a2];refine sx l st0 ((d,undef)::st) _ a5 (λt v hv=>?_) (ha.put a6 undef) h;have h1:=hc t v hv;simp only[cV]
    cases hb:MG d t with
    |true=>have:=LZ hb;subst this;rw[a0]at h1;simp at h1
    |false=>exact h1
   cases a3:o.guard with
   |none=>rw[a3]at hg;simp at hg
   |some ic=>
    obtain⟨i,c⟩:=ic;rw[a3]at hg;simp only at hg;simp only[M7,a3,yielded]
    cases a1:(ops[i]?).bind (·.dst)with
    |none=>rw[a1]at hg;simp at hg
    |some d'=>
     rw[a1]at hg;simp only at hg
     cases hs:cV st d' with
     |none=>rw[hs]at hg;simp at hg
     |some v=>
      rw[hs]at hg
      cases v<;>simp at hg
      ·rename_i x;simp[ha.get _ _ hs];exact λe=>hg (by rw[e])
      simp[ha.get _ _ hs]
def sM{a:MJ}{t:Nat}(hs:cV st t=some (.bool b))(hb:b=b')(ha:Fits N a st):Fits N a ((t,.bool b')::st):=by
 subst hb;refine⟨ha.size,ha.defers,λu v hv=>?_⟩;simp only[cV]at hv
 cases hb:MG t u with
 |true=>rw[hb]at hv;have:=LZ hb;subst this;simp at hv;subst hv;exact ha.get _ _ hs
 |false=>rw[hb]at hv;exact ha.get _ _ hv
def aU{l G:List M8}{c:Bool}{p:String}{e:Array MV}(S:ln->Prop)(b:Bool)(n:Nat)(hS:S w)(hG:l.take n=G)(a0:l.drop n=⟨some tP,.pick (.tmp tA) (.tmp tB) (.const (.bool false)),t,p,e,none⟩::rest)
  (hc:cV st tA=some (.bool c)) (a1:uI N ops ((tA,.bool false)::st) G=true) (hd:L1 tP N=true)
  (h1:c=true->WL P N ops (Jv N S tB b st) G ((tA,.bool true)::st) w) (h2:∀w',S w'->WL P N ops Q rest ((tP,.bool (c&&b))::st) w'):WL P N ops Q l st w:=by
 intro a ha;rw[<-MK n l,hG,a0]
 cases c with
 |true=>
  refine gy (Jv N S tB b st) G _ a w (λe a w h a3=>absurd h.1 a3) (λa' w' h=>?_) (h1 rfl a (sM hc rfl ha));obtain⟨_,a4,hf,hb⟩:=h;unfold wpList;rw[ap (di rfl _)];left;unfold MQ;rw[jn (b:=true) (by simpa[MA,L6]using(by rw[hf.get _ _ hc]:(a'.tmps[tA]?).getD undef=(some (.bool true)).getD undef))];simp only[cond_true];rw[show a'.eval (.tmp tB)=.bool b from by simp[MA,L6,hb]];exact h2 w' a4 _ (hf.put hd _)
 |false=>
  refine sx G st ((tA,.bool false)::st) a a1 (λt v hv=>?_) (sM hc rfl ha) (λa' a2=>?_)
  ·simp only[cV]
   cases hb:MG tA t with
   |true=>have:=LZ hb;subst this;rw[hc]at hv;exact hv
   |false=>exact hv
  unfold wpList;rw[ap (di rfl _)];left;unfold MQ;rw[jn (b:=false) (by simpa[MA,L6]using(by rw[a2.get _ _ hc]:(a'.tmps[tA]?).getD undef=(some (.bool false)).getD undef))];exact h2 w hS _ (a2.put hd _)
def cx{l G:List M8}{c:Bool}{p:String}{e:Array MV}(S:ln->Prop)(b:Bool)(n:Nat)(hS:S w)(hG:l.take n=G)(a0:l.drop n=⟨some tP,.pick (.tmp tA) (.const (.bool true)) (.tmp tB),t,p,e,none⟩::rest)
  (hc:cV st tA=some (.bool c)) (a1:uI N ops ((tA,.bool true)::st) G=true) (hd:L1 tP N=true)
  (h1:c=false->WL P N ops (Jv N S tB b st) G ((tA,.bool false)::st) w) (h2:∀w',S w'->WL P N ops Q rest ((tP,.bool (c||b))::st) w'):WL P N ops Q l st w:=by
 intro a ha;rw[<-MK n l,hG,a0]
 cases c with
 |false=>
  refine gy (Jv N S tB b st) G _ a w (λe a w h a3=>absurd h.1 a3) (λa' w' h=>?_) (h1 rfl a (sM hc rfl ha));obtain⟨_,a4,hf,hb⟩:=h;unfold wpList;rw[ap (di rfl _)];left;unfold MQ;rw[jn (b:=false) (by simpa[MA,L6]using(by rw[hf.get _ _ hc]:(a'.tmps[tA]?).getD undef=(some (.bool false)).getD undef))];simp only[cond_false];rw[show a'.eval (.tmp tB)=.bool b from by simp[MA,L6,hb]];exact h2 w' a4 _ (hf.put hd _)
 |true=>
  refine sx G st ((tA,.bool true)::st) a a1 (λt v hv=>?_) (sM hc rfl ha) (λa' a2=>?_)
  ·simp only[cV]
   cases hb:MG tA t with
   |true=>have:=LZ hb;subst this;rw[hc]at hv;exact hv
   |false=>exact hv
  unfold wpList;rw[ap (di rfl _)];left;unfold MQ;rw[jn (b:=true) (by simpa[MA,L6]using(by rw[a2.get _ _ hc]:(a'.tmps[tA]?).getD undef=(some (.bool true)).getD undef))];exact h2 w hS _ (a2.put hd _)
def cp{S:ln->Prop}{c:Bool}{st0:St}(n:Nat)(hS:S w)(a0:st.drop n=st0)(hf:((st.take n).all λq=>MG q.1 tA||(match cV st0 q.1 with|none=>true|_=>false))=true)
  (hA:cV st tA=some (.bool c)) (a3:∀v,cV st0 tA=some v->v=.bool c) (hb:cV st tB=some (.bool b)):QF N (Jv N S tB b st0) .normal st w:=λa ha=>by
 refine⟨rfl,hS,⟨ha.size,ha.defers,λt v hv=>?_⟩,ha.get _ _ hb⟩;apply ha.get t v
 by_cases ht:t=tA
 ·subst ht;rw[a3 v hv];exact hA
 have a2:∀(a1:St),(a1.all λq=>MG q.1 tA||(match cV st0 q.1 with|none=>true|_=>false))=true->cV (a1++st0) t=some v:=by
  intro a1
  induction a1 with
  |nil=>intro _;exact hv
  |cons q r ih=>
   intro hq;simp only[Qi,M4,Bool.or_eq_true]at hq;obtain⟨k,u⟩:=q;simp only[Mz,cV]
   cases hb:MG k t with
   |false=>exact ih hq.2
   |true=>
    have:=LZ hb;subst this
    rcases hq.1 with h|h
    ·exact absurd (LZ h) ht
    simp only[hv]at h;cases h
 have:=a2 (st.take n) hf;rw[<-a0,MK]at this;exact this
end
end Go.VL
end
section
namespace Go.VL
section
variable{P:L7}{N:Nat}{ops:Array M8}{Q:Mq→MJ→ln→Prop}{rest:List M8}{st:St}{w:ln}
variable{t xt yt:L0}{p:String}{e:Array MV}{d:Nat}{x y z:L3}
def je{a b:ix}(hg:eqGuard op xt x y a b=pure ())(hx:ev st x=some a)(hy:ev st y=some b)(hr:(binOp op xt a b).run P w=.ok v w):RV P N (.binOp op xt x y yt) t st w v:=
 λac ha a0 p e g=>by
  simp only[execOp,ha.ev hx,ha.ev hy,hg,L5,Mb,L2,hr]
def DX{a:Bool}(hu:P.underlying xt=some .bool)(hx:ev st x=some (.bool a))(hy:ev st y=some (.bool b)):RV P N (.binOp .eql xt x y yt) t st w (.bool (a==b)):=
 je (eqGuard_at_bool ..) hx hy (run_eql_bool w xt a b hu)
def Jh{a:Bool}(hu:P.underlying xt=some .bool)(hx:ev st x=some (.bool a))(hy:ev st y=some (.bool b)):RV P N (.binOp .neq xt x y yt) t st w (.bool (!(a==b))):=
 je (eqGuard_at_bool ..) hx hy (run_neq_bool w xt a b hu)
def jd{n:Int}{a0:Array L0}(hx:ev st x=some (.int k m))(hy:ev st y=some (.int k' n)):RV P N (.call ⟨.builtin .max,#[x,y],a0⟩) t st w (.int k (max m n)):=
 λa ha a1 p e g=>by
  simp only[execOp,resolve,invoke,builtin,L5,Mb,L2,L8,M1,Mm,ha.ev hx,ha.ev hy,run_max_int2];congr 3;rw[Int.max_def];split<;>split<;>omega
def Jk{n:Int}{a0:Array L0}(hx:ev st x=some (.int k m))(hy:ev st y=some (.int k' n)):RV P N (.call ⟨.builtin .min,#[x,y],a0⟩) t st w (.int k (min m n)):=
 λa ha a1 p e g=>by
  simp only[execOp,resolve,invoke,builtin,L5,Mb,L2,L8,M1,Mm,ha.ev hx,ha.ev hy,run_min_int2];congr 3;rw[Int.min_def];split<;>split<;>omega
def bs(l:List UInt8):ByteArray:=⟨l.toArray⟩
def dp(l:List UInt8):(bs l).size=l.length:=by simp[bs,QW]
def gq(l:List UInt8):(bs l).toList=l:=QU l
def DB(a b:List UInt8):bs a++bs b=bs (a++b):=by
 apply QZ;simp[bs,R0]
def mO(l:List UInt8)(a b:Nat):(bs l).extract a b=bs ((l.take b).drop a):=by
 rw[bs,QY,List.drop_take];rfl
def G4{a b:List UInt8}(h:bs a=bs b):a=b:=by
 have:=congrArg QV h;rwa[gq,gq]at this
def pC{s u:ByteArray}:binOp op xt (.string s) (.string u)=Op.stringOp op s u:=by cases op<;>rfl
def bP{a b:List UInt8}(hx:ev st x=some (.string (bs a)))(hy:ev st y=some (.string (bs b))):RV P N (.binOp .eql xt x y yt) t st w (.bool (a==b)):=
 je (eqGuard_at_string ..) hx hy (by rw[pC];show Qv (Pv ((bs a).toList==(bs b).toList)) w=_;rw[gq,gq])
def Jg{a b:List UInt8}(hx:ev st x=some (.string (bs a)))(hy:ev st y=some (.string (bs b))):RV P N (.binOp .neq xt x y yt) t st w (.bool (!(a==b))):=
 je (eqGuard_at_string ..) hx hy (by rw[pC];show Qv (Pv (!((bs a).toList==(bs b).toList))) w=_;rw[gq,gq])
def DZ{a b:List UInt8}(hx:ev st x=some (.string (bs a)))(hy:ev st y=some (.string (bs b)))(hb:a.length+b.length<=9223372036854775807):RV P N (.binOp .add xt x y yt) t st w (.string (bs (a++b))):=
 je (eqGuard_at_string ..) hx hy (by rw[pC,run_string_add_sum w _ _ (by rw[dp,dp];exact hb),DB])
def bS{a:List UInt8}(hT:P.underlying T=some .string)(hx:ev st x=some (.string (bs a))):RV P N (.call ⟨.builtin .len,#[x],#[T]⟩) t st w (nI a.length):=
 λc hc a0 p e g=>by
  simp only[execOp,resolve,invoke,builtin,L5,Mb,L2,L8,M1,Mm,hc.ev hx,run_len_string w T t _ hT,dp];rfl
def bZ{a:List UInt8}(hT:P.underlying xt=some .string)(hx:ev st x=some (.string (bs a)))(hy:ev st y=some (.int k m))(i:Nat)(hm:m=i)(hi:i<a.length):RV P N (.index xt x y) t st w (.int .u8 ((nth a i).toNat:Int)):=
 λc hc a0 p e g=>by
  subst hm;have h2:0<=(i:Int)/\(i:Int)<(bs a).size:=by rw[dp];omega
  simp only[execOp,hc.ev hx,hc.ev hy,L5,run_index_string w xt (bs a) k i hT,dif_pos h2,L2];have:(bs a)[(i:Int).toNat]'(by rw[dp];omega)=nth a i:=by
   rw[aD hi];simp[bs,QX]
  rw[this];rfl
def cm{a:List UInt8}{n:Int}(hT:P.underlying xt=some .string)(hx:ev st x=some (.string (bs a)))(hy:ev st y=some (.int k m))(hz:ev st z=some (.int k' n))(i j:Nat)(hm:m=i)(hn:n=j)(a0:i<=j)(hj:j<=a.length):
  RV P N (.slice xt x (some y) (some z) none) t st w (.string (bs ((a.take j).drop i))):=
 λc hc a1 p e g=>by
  subst hm;subst hn;simp only[execOp,Mc,MB,hc.ev hx,hc.ev hy,hc.ev hz,run_sliceAt_string w xt _ _ _ _ hT,L5,run_slice_string w xt (bs a) k k' i j hT zo zo (by rw[dp];omega),L2,Ml,mO];rfl
def kD{a:List UInt8}(hT:P.underlying xt=some .string)(hx:ev st x=some (.string (bs a)))(hy:ev st y=some (.int k m))(i:Nat)(hm:m=i)(hi:i<=a.length):
  RV P N (.slice xt x (some y) none none) t st w (.string (bs (a.drop i))):=
 λc hc a0 p e g=>by
  subst hm;simp only[execOp,Mc,MB,hc.ev hx,hc.ev hy,run_sliceAt_string w xt _ _ _ _ hT,L5,run_slice_string_l w xt (bs a) hT k i zo (by rw[dp];omega),L2,Ml,mO,dp,List.take_length];rfl
def yG{a:List UInt8}{n:Int}(hT:P.underlying xt=some .string)(hx:ev st x=some (.string (bs a)))(hz:ev st z=some (.int k n))(j:Nat)(hn:n=j)(hj:j<=a.length):
  RV P N (.slice xt x none (some z) none) t st w (.string (bs (a.take j))):=
 λc hc a0 p e g=>by
  subst hn;simp only[execOp,Mc,MB,hc.ev hx,hc.ev hz,run_sliceAt_string w xt _ _ _ _ hT,L5,run_slice_string_h w xt (bs a) hT k j zo (by rw[dp];omega),L2,Ml,mO,List.drop_zero];rfl
def kF{a:Option Mr}{l c:Nat}(hT:P.underlying xt=some (.slice T))(hx:ev st x=some (.slice a l c))(hy:ev st y=some nS):RV P N (.binOp .eql xt x y yt) t st w (.bool a.isNone):=
 je (eqGuard_at_slice ..) hx hy (by simp[binOp,run_equal_slice_nil w xt T a l c hT])
def eE{q:Option Mr}(hT:P.underlying xt=some (.pointer (P.pointee xt)))(hx:ev st x=some (.pointer q))(hy:ev st y=some (.pointer none)):RV P N (.binOp .eql xt x y yt) t st w (.bool q.isNone):=
 je (eqGuard_at_pointer ..) hx hy (run_eql_pointer_nil w xt q hT)
def Bt{q:Option Mr}(hT:P.underlying xt=some (.pointer (P.pointee xt)))(hx:ev st x=some (.pointer q))(hy:ev st y=some (.pointer none)):RV P N (.binOp .neq xt x y yt) t st w (.bool (!q.isNone)):=
 je (eqGuard_at_pointer ..) hx hy (run_neq_pointer_nil w xt q hT)
def dk(v:ix)(sz lo hi:Nat):ix:=
 match v with
 |.slice a _ cap=>.slice (if cap=lo then a else a.map (·.add (lo*sz))) (hi-lo) (cap-lo)
 |_=>v
def Sl.slice{α:Type}{enc:α->List ix}{sz:Nat}{v:ix}{xs:List α}(h:Sl enc sz w v xs){lo hi:Nat}(h1:lo<=hi)(h2:hi<=xs.length):Sl enc sz w (dk v sz lo hi) ((xs.take hi).drop lo):=by
 obtain⟨a,c,rfl,hc,hm,ha⟩:=h.shape;have a0:((xs.take hi).drop lo).length=hi-lo:=by simp;omega
 refine⟨⟨_,c-lo,by rw[a0];rfl,zo,zo,λa2=>?_⟩,λi a1 j u hu=>?_⟩
 ·rw[a0]at a2;obtain⟨b,o,rfl⟩:=ha zo;rw[am zo];exact⟨b,o+lo*sz,by simp only[Mc,Mh];split<;>simp_all⟩
 rw[a0]at a1;obtain⟨b,o,rfl⟩:=ha zo;have hg:((xs.take hi).drop lo)[i]'(by rw[a0];exact a1)=xs[lo+i]'(zo):=by simp
 rw[hg]at hu;have:=h.cells (lo+i) zo j u hu;have e1:adr (dk (.slice (some ⟨b,o,none⟩) xs.length c) sz lo hi) sz i=adr (.slice (some ⟨b,o,none⟩) xs.length c) sz (lo+i):=by
  simp only[dk,adr];rw[am zo];simp only[Mc,Mh]
  split<;>simp_all[Nf,P5]
 rw[e1];exact this
def mS(h:Sl enc sz w v xs)(hT:P.underlying xt=some (.slice E))(hs:(Mp E).run P w=.ok sz w)
  (hx:ev st x=some v) (hy:ev st y=some (.int k m)) (i:Nat) (hm:m=i) (hi:i<=xs.length):RV P N (.slice xt x (some y) none none) t st w (dk v sz i xs.length):=
 λa' ha a0 p e g=>by
  subst hm;obtain⟨a,c,rfl,hc,_,_⟩:=h.shape;have hE:P.elem xt=E:=by simp[Q2,hT]
  simp only[execOp,Mc,MB,ha.ev hx,ha.ev hy,run_sliceAt_slice w xt _ _ _ _ (by rw[hE];exact hT:P.underlying xt=some (.slice (P.elem xt))),L5,run_slice_l w xt a xs.length c (by rw[hE];exact hT) k i zo zo,hE,hs,L2,Ml,sliced];rfl
def rJ{n:Int}(h:Sl enc sz w v xs)(hT:P.underlying xt=some (.slice E))(hs:(Mp E).run P w=.ok sz w)
  (hx:ev st x=some v) (hz:ev st z=some (.int k n)) (j:Nat) (hn:n=j) (hj:j<=xs.length):RV P N (.slice xt x none (some z) none) t st w (dk v sz 0 j):=
 λa' ha a0 p e g=>by
  subst hn;obtain⟨a,c,rfl,hc,_,_⟩:=h.shape;have hE:P.elem xt=E:=by simp[Q2,hT]
  simp only[execOp,Mc,MB,ha.ev hx,ha.ev hz,run_sliceAt_slice w xt _ _ _ _ (by rw[hE];exact hT:P.underlying xt=some (.slice (P.elem xt))),L5,run_slice_h w xt a xs.length c (by rw[hE];exact hT) k j zo zo,hE,hs,L2,Ml,sliced];rfl
end
end Go.VL
end
section
namespace Go.VL
def Free(O:Nat->Nat)(w:ln)(v:ix):Prop:=∀a n c,v=.slice (some a) n c->n≠0->O a.block=0/\a.block<w.heap.size
def Free.U(h:Free O w v)(u:Upd S O w O' w'):Free O' w' v:=λa n c e hn=>by
 obtain⟨h1,h2⟩:=h a n c e hn;refine⟨LY λa0=>?_,M9 h2 u.size⟩
 rcases u.new _ a0 with h3|h3
 ·exact h3 h1
 omega
def iS{a:Mr}(hb:w'.heap[a.block]? = w.heap[a.block]?)(h:w.cell? a=some u):w'.cell? a=some u:=by
 simpa only[Qq,hb]using h
def Sl.U(h:Sl enc sz w v xs)(f:Free O w v)(u:Upd S O w O' w'):Sl enc sz w' v xs:=by
 refine⟨h.shape,λi hi j x hx=>?_⟩;obtain⟨a,c,e,_,_,ha⟩:=h.shape;obtain⟨b,o,rfl⟩:=ha zo;obtain⟨h1,h2⟩:=f _ _ _ e zo;refine iS ?_ (h.cells i hi j x hx)
 have hb:((adr v sz i).add j).block=b:=by subst e;simp only[adr,Mh];split<;>rfl
 rw[hb];exact u.blk b h2 (by rw[h1];exact u.z)
def RowT.free(h:RowT enc E sz O' w' i v l)(hi:i≠0)(r:Rng w.heap.size O' w')(k:Rng B O w):Free O w' v:=λa n c e _=>by
 subst e;have h2:=r.rng a.block (by rw[h.1.tag a.block rfl];exact hi);exact⟨LY λa0=>by have:=k.rng _ a0;omega,h2.2⟩
def NewV(B:Nat)(v:ix):Prop:=∀a n c,v=.slice (some a) n c->n≠0->B<=a.block
def NewV.mono{B':Nat}(h:NewV B v)(hb:B'<=B):NewV B' v:=λa n c e hn=>MF hb (h a n c e hn)
def RowT.newV(h:RowT enc E sz O w i v l)(hi:i≠0)(r:Rng B O w):NewV B v:=λa n c e _=>by
 subst e;exact(r.rng a.block (by rw[h.1.tag a.block rfl];exact hi)).1
def Sl.blk_lt(h:Sl enc sz w v xs)(hf:∀x∈xs,enc x≠[]){a:Mr}{c:Nat}(e:v=.slice (some a) n c)(hn:n≠0):a.block<w.heap.size:=by
 obtain⟨a',c',e1,_,_,e2⟩:=h.shape;subst e
 cases e1
 obtain⟨b,o,e3⟩:=e2 hn
 cases e3
 have hl:=PP hn
 cases hx:enc xs[0]with
 |nil=>exact absurd hx (hf _ (Nj hl))
 |cons u r=>
  have:=Nh _ _ (h.cells 0 hl 0 u (by rw[hx];rfl));have hb:((adr (.slice (some ⟨b,o,none⟩) xs.length c) sz 0).add 0).block=b:=by simp only[adr,Mh];split<;>rfl
  rwa[hb]at this
def NewV.free(h:NewV w.heap.size v)(hs:Sl enc sz w' v xs)(hf:∀x∈xs,enc x≠[])(r:Rng B O w):Free O w' v:=λa n c e hn=>
 ⟨LY λa0=>by have h1:=(r.rng _ a0).2;have h2:=h a n c e hn;omega,hs.blk_lt hf e hn⟩
def sH(h:∀(B:Nat) (O:Nat->Nat),Rng B O w->Free O w' v):NewV w.heap.size v:=λa n c e hn=>by
 exact Nat.le_of_not_lt λa0=>by
  have h2:=(ap a0).symm.J ((h 0 (λb=>if b<w.heap.size then 1 else 0) ⟨Mt _,λb hb=>⟨Mt _,LY λhn=>hb (am hn)⟩⟩ a n c e hn).1)
  cases h2
section
variable{P:L7}{N:Nat}{ops:Array M8}{Q:Mq→MJ→ln→Prop}{rest:List M8}{st:St}{w:ln}
variable{t xt yt:L0}{p:String}{e:Array MV}{d:Nat}{x y z:L3}
def cg(he:Elem P T E 1 bytes){val:α->ix}(z0:α)(a2:(P.info? E).bind (·.zero)=some (val z0))(h1:∀a,(val a).oneCell'=true)(r:Rng B O w)(i:Nat)(a7:i≠0)(n:Nat){kl kc:LX}{m1 m2:Int}
  (hx:ev st x=some (.int kl m1)) (hy:ev st y=some (.int kc m2)) (a6:m1=n) (a5:m2=n) (hb:bytes*n<=281474976710656) (b0:n<=9223372036854775807) (hd:L1 d N=true)
  (h:∀w' O' v,v=.slice (some ⟨w.heap.size,0,none⟩) n n->RowT (λx=>[val x]) E 1 O' w' i v (Nc n z0)->Upd (λk=>k=i) O w O' w'->Rng B O' w'->Ext w w'->WL P N ops Q rest ((d,v)::st) w') :
  WL P N ops Q (⟨some d,.makeSlice T x y,t,p,e,none⟩::rest) st w:=by
 obtain⟨a1,z,hi,hz,a4,a9,b1⟩:=he.parts;have a3:z=val z0:=by rw[hi]at a2;simpa[hz]using a2
 subst a3;subst a6;subst a5;have a8:(val z0).cells = #[val z0]:=by have:=h1 z0;generalize val z0=u at *;cases u<;>first|rfl|simp[MN]at this
 have a':(a1.bytes:Int)*(n:Int)<=281474976710656:=by
  have h:((a1.bytes*n:Nat):Int)<=281474976710656:=by rw[a9];omega
  rwa[Int.natCast_mul]at h
 have a0:=run_make (P:=P) w T E a1 _ he.ht hi hz kl kc n n zo (NR _) a' zo;simp only[Ml,a4,Nx,a8]at a0;have hz:¬(λk=>k=i) 0:=λh=>a7 h.symm
 have u:=Upd.alloc (S:=λk=>k=i) hz r (.cells (madeCells #[val z0] n) E) i;refine WL.val (v:=.slice (some ⟨w.heap.size,0,none⟩) n n) hd (λa ha=>by simp only[execOp,ha.ev hx,ha.ev hy,L5,a0,L2];rfl) (h _ _ _ rfl ⟨⟨?_,λg hg=>?_⟩,λa _=>rfl⟩ u (r.U u) (Ext.alloc _ _))
 ·rw[List.length_replicate];have:=World.ownsRow_lit (base:=0) (size:=1) (e:=E) w (madeCells #[val z0] n) n (Mt _) (by simpa[maxLen]using b0) (by rw[size_madeCells];omega);rw[toList_madeCells_one]at this;have e2:(Nc n z0).flatMap (λx=>[val x])=Nc n (val z0):=by
   induction n with
   |zero=>rfl
   |succ n ih=>simp only[List.replicate_succ,MM];congr 1;simp[List.flatMap_replicate]
  rw[e2];exact this
 simp only[Na,Nv]at hg;subst hg;exact eM _ _ _
def cK{a0:Nat}(he:Elem P T E sz a0)(u:α)(hx:ev st x=some xv)(a2:xv.cells.toList=enc u)(a4:(enc u).length=sz)(hs:sz<=16777216)(hd:L1 d N=true)
  (h:∀v w',Sl enc sz w' v [u]->Ext w w'->WL P N ops Q rest ((d,v)::st) w'):WL P N ops Q (⟨some d,.buildSlice T 1 #[(0,x)],t,p,e,none⟩::rest) st w:=by
 obtain⟨a3,z,hi,hz,a1,a8,a7⟩:=he.parts;have a6:xv.cells.size=sz:=by rw[<-a4,<-a2];simp
 have a5:=he.pos;refine WL.val (v:=.slice (some ⟨w.heap.size,0,none⟩) 1 1) (w':=w.alloc (.cells xv.cells E)) hd (λa ha=>?_) (h _ _ ⟨⟨_,1,rfl,Me _,by simp,λ_=>⟨_,_,rfl⟩⟩,λi hi j c hc=>?_⟩ (Ext.alloc _ _))
 ·have:=run_buildSlice (P:=P) w T E 1 #[(0,xv)] xv.cells a3 z he.ht hi hz (by rw[a1];omega) (by rw[a1];omega) (by
   rw[a1]
   exact lF a6 (by simp))
  simp only[execOp,L8,M1,Mm,ha.ev hx,L5,this,L2];rfl
 obtain rfl:i=0:=by simpa using hi
 simp only[P7]at hc;simp only[adr,NJ,Pf];rw[show((⟨w.heap.size,0,none⟩:Mr).add j)=⟨w.heap.size,j,none⟩from by simp only[Mh];split<;>simp_all,cell_of_row _ _ j xv.cells E (0,0) (heap_alloc_new w _)];rw[<-a2]at hc;simpa using hc
def nX{α:Type}{enc:α->List ix}{sz:Nat}:∀(us:List α),(∀u∈us,(enc u).length=sz)->(us.flatMap enc).length=us.length*sz
 |[],_=>by simp
 |x::r,h=>by
  simp only[MM,Mn,MP,h x (by simp),nX r (λu hu=>h u (by simp[hu])),Nat.succ_mul];omega
def Di{us:List α}(hs:Sl enc sz w v us)(hz:∀u∈us,(enc u).length=sz)(hp:0<sz){a:Mr}{c:Nat}(hv:v=.slice (some a) n c):∀j u,(us.flatMap enc)[j]? = some u->w.cell? (a.add j)=some u:=by
 intro j u hu;have hj:j<us.length*sz:=by rw[<-(nX us hz)];exact(Mf.1 hu).1
 have hq:=Nat.div_lt_of_lt_mul (by rw[Nat.mul_comm];exact hj);have hr:j % sz<sz:=Nat.mod_lt _ hp;have a1:=Nat.div_add_mod' j sz;have hl:=hz _ (Nj hq);have h1:=fj us hz (j / sz) hq (j % sz) _ (Mw zo);rw[a1,hu]at h1;have h2:=hs.cells (j / sz) hq (j % sz) u (by rw[Mw zo,<-h1]);obtain⟨a',c',e1,_,_,e2⟩:=hs.shape;obtain⟨b,o,e3⟩:=e2 (Nat.ne_of_gt (Nat.lt_of_le_of_lt (Mt _) hq));rw[hv]at e1 h2
 cases e1;cases e3
 simp only[adr]at h2;rw[show((⟨b,o,none⟩:Mr).add j)=((⟨b,o+j / sz*sz,none⟩:Mr).add (j % sz))from by simp only[Mh];split<;>split<;>simp_all<;>omega];exact h2
def aF{a0:Nat}(he:Elem P T E sz a0){sv:ix}{us:List α}(hr:RowT enc E sz O w i v l)(r:Rng B O w)(hs:Sl enc sz w sv us)(a7:us.length≠0)
  (hx:ev st x=some v) (hy:ev st y=some sv) (a2:∀u∈us,(enc u).length=sz) (a6:∀u∈us,∀c∈enc u,c.oneCell'=true)
  (hb:(l.length+us.length)*a0<=140737488355328) (a':l.length+us.length<=9223372036854775807) (a8:i≠0) (hd:L1 d N=true)
  (h:∀v' w' O',RowT enc E sz O' w' i v' (l++us)->Upd (λk=>k=i) O w O' w'->Rng B O' w'->WL P N ops Q rest ((d,v')::st) w') :
  WL P N ops Q (⟨some d,.call ⟨.builtin .append,#[x,y],#[T,T]⟩,t,p,e,none⟩::rest) st w:=by
 obtain⟨a,c,rfl,_,_,a9⟩:=hs.shape;obtain⟨b,o,rfl⟩:=a9 a7
 obtain⟨v',w',O',a3,a4,a1⟩:=fK (P:=P) (ty:=t) he r hr.1 ⟨b,o,none⟩ us.length c (us.flatMap enc) (nX us a2) (Di hs a2 he.pos rfl) (λu hu=>by
  obtain⟨q,hq,hc⟩:=NL.1 hu
  exact a6 q hq u hc) hb a' a8
 refine WL.val (v:=v') (w':=w') hd (λa ha=>?_) (h v' w' O' ⟨by simpa using a4,λq hq=>?_⟩ a1 (r.U a1))
 ·simp only[execOp,resolve,invoke,builtin,L5,Mb,L2,L8,M1,Mm,ha.ev hx,ha.ev hy,a3]
 rcases Md.1 hq with hq|hq
 ·exact hr.2 q hq
 exact a2 q hq
end
end Go.VL
end
section
namespace Go.VL
class FA(P:L7)(S:L0)(f:Nat)(o:outParam Nat):Prop where
 fa:∃fs fd m,P.underlying S=some (.struct fs)∧fs[f]? = some fd∧fd.offset=o∧(∀w,(Mp fd.type).run P w=.ok m w)∧m≠0
class AG(P:L7)(T:L0)(b:outParam Bool):Prop where
 ag:∀w,(Q0 T).run P w=.ok b w
structure Hold(B:Prop):Prop where
 out:B
class SC(P:L7)(T:L0)(sz:outParam Nat):Prop where
 sc:∃E,P.underlying T=some (.slice E)∧∀w,(Mp E).run P w=.ok sz w
section
variable{P:L7}{N:Nat}{ops:Array M8}{S:ln→Prop}{Q:Mq→MJ→ln→Prop}{K:MJ→Prop}{rest:List M8}{st:St}{w:ln}{fuel:Nat}{listed:Array Bool}
variable{t:L0}{p:String}{e:Array MV}{d:Nat}{x:L3}{v:ix}{op:Op}
def RV.fa{T:L0}{f o:Nat}{q:Mr}[h:FA P T f o](hx:ev st x=some (.pointer (some q))):RV P N (.fieldAddr T x f) t st w (.pointer (some (q.add o))):=by
 obtain⟨fs,fd,m,h1,h2,h3,h4,h5⟩:=h.fa
 exact RV.fieldAddr o h1 h2 h3 (h4 w) h5 hx
def RV.ld[h:AG P T false](hc:w.cell? q=some u)(hx:ev st x=some (.pointer (some q))):RV P N (.load T x) t st w u:=RV.load hc (h.ag w) hx
def Kp[h:SC P T sz]{enc:α→List ix}(hx:ev st x=some v)(hs:Sl enc sz w v xs):RV P N (.call ⟨.builtin .len,#[x],#[T]⟩) t st w (.int .i64 (xs.length:Int)):=by
 obtain⟨E,h1,_⟩:=h.sc
 exact RV.len hs h1 hx
def Kq[h:SC P T sz]{enc:α→List ix}{i:Int}(hx:ev st x=some v)(hy:ev st y=some (.int k i))(hs:Sl enc sz w v xs)(hi:i=n)(hn:n<xs.length):RV P N (.indexAddr T x y) t st w (.pointer (some (adr v sz n))):=by
 obtain⟨E,h1,h2⟩:=h.sc
 exact RV.indexAddr hs h1 (h2 w) hx hy n hi hn
def Lz[h:AG P T false](hx:ev st x=some (.pointer (some q)))(hc:w.cell? q=some u)(hd:L1 d N=true)(h:WL P N ops Q rest ((d,u)::st) w):WL P N ops Q (⟨some d,.load T x,t,p,e,none⟩::rest) st w:=aE (RV.ld hc hx) hd h
def LC[h:AG P T false](hx:ev st x=some (.pointer (some q)))(hc:w.cell? q=some u)(hd:L1 d N=true)(h:WS P N ops w K rest ((d,u)::st)):WS P N ops w K (⟨some d,.load T x,t,p,e,none⟩::rest) st:=qs (RV.ld hc hx) hd h
def Ly[h:SC P T sz]{enc:α→List ix}(hx:ev st x=some v)(hs:Sl enc sz w v xs)(hd:L1 d N=true)(h:WL P N ops Q rest ((d,.int .i64 (xs.length:Int))::st) w):WL P N ops Q (⟨some d,.call ⟨.builtin .len,#[x],#[T]⟩,t,p,e,none⟩::rest) st w:=aE (Kp hx hs) hd h
def LA[h:SC P T sz]{enc:α→List ix}{i:Int}(hx:ev st x=some v)(hy:ev st y=some (.int k i))(hs:Sl enc sz w v xs)(hi:i=n)(hn:n<xs.length)(hd:L1 d N=true)(h:WL P N ops Q rest ((d,.pointer (some (adr v sz n)))::st) w):WL P N ops Q (⟨some d,.indexAddr T x y,t,p,e,none⟩::rest) st w:=aE (Kq hx hy hs hi hn) hd h
def KH{n:Int}(hx:ev st x=some (.int .i64 m))(hy:ev st y=some (.int .i64 n))(hr : -9223372036854775808≤m+n∧m+n≤9223372036854775807)(hd:L1 d N=true)(h:WL P N ops Q rest ((d,.int .i64 (m+n))::st) w):WL P N ops Q (⟨some d,.binOp .add xt x y yt,t,p,e,none⟩::rest) st w:=aE (RV.add hx hy (Fit.i64 hr)) hd h
def KG{n:Int}(hx:ev st x=some (.int .i64 m))(hy:ev st y=some (.int .i64 n))(hr : -9223372036854775808≤m-n∧m-n≤9223372036854775807)(hd:L1 d N=true)(h:WL P N ops Q rest ((d,.int .i64 (m-n))::st) w):WL P N ops Q (⟨some d,.binOp .sub xt x y yt,t,p,e,none⟩::rest) st w:=aE (RV.sub hx hy (Fit.i64 hr)) hd h
def Km{z:L3}(hc:ev st x=some (.bool b))(hb:b=true)(hy:ev st y=some v):RV P N (.pick x y z) t st w v:=aT (hb▸hc) hy
def Ko{z:L3}(hc:ev st x=some (.bool b))(hb:b=false)(hz:ev st z=some v):RV P N (.pick x y z) t st w v:=aV (hb▸hc) hz
def If{d:Option QM}(hs:said ops st j=some b')(hb:b'=b)(h:WL P N ops Q (⟨d,op,t,p,e,none⟩::rest) st w):WL P N ops Q (⟨d,op,t,p,e,some (j,b)⟩::rest) st w:=bt (hb▸hs) h
def DP(hs:said ops st j=some b')(hb:b'=false)(hd:L1 d N=true)(h:WL P N ops Q rest ((d,undef)::st) w):WL P N ops Q (⟨some d,op,t,p,e,some (j,true)⟩::rest) st w:=WL.off hs (by rw[hb];rfl) hd h
def DQ(hs:said ops st j=some b')(hb:b'=true)(hd:L1 d N=true)(h:WL P N ops Q rest ((d,undef)::st) w):WL P N ops Q (⟨some d,op,t,p,e,some (j,false)⟩::rest) st w:=WL.off hs (by rw[hb];rfl) hd h
def Ia{d:Option QM}(hs:said ops st j=some b')(hb:b'=b)(h:WS P N ops w K (⟨d,op,t,p,e,none⟩::rest) st):WS P N ops w K (⟨d,op,t,p,e,some (j,b)⟩::rest) st:=Li (hb▸hs) h
def DN(hs:said ops st j=some b')(hb:b'=false)(hd:L1 d N=true)(h:WS P N ops w K rest ((d,undef)::st)):WS P N ops w K (⟨some d,op,t,p,e,some (j,true)⟩::rest) st:=WS.off hs (by rw[hb];rfl) hd h
def DO(hs:said ops st j=some b')(hb:b'=true)(hd:L1 d N=true)(h:WS P N ops w K rest ((d,undef)::st)):WS P N ops w K (⟨some d,op,t,p,e,some (j,false)⟩::rest) st:=WS.off hs (by rw[hb];rfl) hd h
def Ic{l:List M8}(h:WL P N ops Q (o::l.take n) st w):WL P N ops Q (NK (n+1) (o::l)) st w:=h
def Ie{l:List M8}(h:WL P N ops Q [] st w):WL P N ops Q (NK 0 l) st w:=h
def GJ(hx:ev st x=some v)(hd:L1 d N=true)(h:WL P N ops Q rest ((d,v)::st) w):WL P N ops Q (⟨some d,.move x,t,p,e,none⟩::rest) st w:=aE (RV.move hx) hd h
def yO(hx:ev st x=some v)(hd:L1 d N=true)(h:WL P N ops Q rest ((d,v)::st) w):WL P N ops Q (⟨some d,.assign x,t,p,e,none⟩::rest) st w:=aE (RV.assign hx) hd h
def Lp{f o:Nat}[FA P T f o](hx:ev st x=some (.pointer (some q)))(hd:L1 d N=true)(h:WL P N ops Q rest ((d,.pointer (some (q.add o)))::st) w):WL P N ops Q (⟨some d,.fieldAddr T x f,t,p,e,none⟩::rest) st w:=aE (RV.fa hx) hd h
def yN(hx:ev st x=some (.pointer (some q)))(hd:L1 d N=true)(h:WL P N ops Q rest ((d,.pointer (some q))::st) w):WL P N ops Q (⟨some d,.nilCheck x,t,p,e,none⟩::rest) st w:=aE (aq hx) hd h
def tJ{vs:Array ix}(hx:ev st x=some (.tuple vs))(hv:vs[i]? = some v)(hd:L1 d N=true)(h:WL P N ops Q rest ((d,v)::st) w):WL P N ops Q (⟨some d,.extract x i,t,p,e,none⟩::rest) st w:=aE (RV.extract hx hv) hd h
def Jz(hx:ev st x=some (.bool b))(hd:L1 d N=true)(h:WL P N ops Q rest ((d,.bool (!b))::st) w):WL P N ops Q (⟨some d,.unOp .not xt x,t,p,e,none⟩::rest) st w:=aE (RV.not hx) hd h
def Jw{z:L3}(hc:ev st x=some (.bool b))(hb:b=true)(hy:ev st y=some v)(hd:L1 d N=true)(h:WL P N ops Q rest ((d,v)::st) w):WL P N ops Q (⟨some d,.pick x y z,t,p,e,none⟩::rest) st w:=aE (Km hc hb hy) hd h
def Jy{z:L3}(hc:ev st x=some (.bool b))(hb:b=false)(hz:ev st z=some v)(hd:L1 d N=true)(h:WL P N ops Q rest ((d,v)::st) w):WL P N ops Q (⟨some d,.pick x y z,t,p,e,none⟩::rest) st w:=aE (Ko hc hb hz) hd h
def JB{n:Int}(hx:ev st x=some (.int k m))(hy:ev st y=some (.int k n))(hd:L1 d N=true)(h:WL P N ops Q rest ((d,.bool (decide (m<n)))::st) w):WL P N ops Q (⟨some d,.binOp .lss xt x y yt,t,p,e,none⟩::rest) st w:=aE (RV.lss hx hy) hd h
def JC{n:Int}(hx:ev st x=some (.int k m))(hy:ev st y=some (.int k n))(hd:L1 d N=true)(h:WL P N ops Q rest ((d,.bool (decide (m≤n)))::st) w):WL P N ops Q (⟨some d,.binOp .leq xt x y yt,t,p,e,none⟩::rest) st w:=aE (RV.leq hx hy) hd h
def JD{n:Int}(hx:ev st x=some (.int k m))(hy:ev st y=some (.int k n))(hd:L1 d N=true)(h:WL P N ops Q rest ((d,.bool (decide (n<m)))::st) w):WL P N ops Q (⟨some d,.binOp .gtr xt x y yt,t,p,e,none⟩::rest) st w:=aE (RV.gtr hx hy) hd h
def JE{n:Int}(hx:ev st x=some (.int k m))(hy:ev st y=some (.int k n))(hd:L1 d N=true)(h:WL P N ops Q rest ((d,.bool (decide (n≤m)))::st) w):WL P N ops Q (⟨some d,.binOp .geq xt x y yt,t,p,e,none⟩::rest) st w:=aE (RV.geq hx hy) hd h
def JF{n:Int}(hx:ev st x=some (.int k m))(hy:ev st y=some (.int k n))(hd:L1 d N=true)(h:WL P N ops Q rest ((d,.bool (m==n))::st) w):WL P N ops Q (⟨some d,.binOp .eql xt x y yt,t,p,e,none⟩::rest) st w:=aE (RV.eql hx hy) hd h
def JA{n:Int}(hx:ev st x=some (.int k m))(hy:ev st y=some (.int k n))(hd:L1 d N=true)(h:WL P N ops Q rest ((d,.bool (m != n))::st) w):WL P N ops Q (⟨some d,.binOp .neq xt x y yt,t,p,e,none⟩::rest) st w:=aE (RV.neq hx hy) hd h
def GK(hx:ev st x=some v)(hd:L1 d N=true)(h:WS P N ops w K rest ((d,v)::st)):WS P N ops w K (⟨some d,.move x,t,p,e,none⟩::rest) st:=qs (RV.move hx) hd h
def yQ(hx:ev st x=some v)(hd:L1 d N=true)(h:WS P N ops w K rest ((d,v)::st)):WS P N ops w K (⟨some d,.assign x,t,p,e,none⟩::rest) st:=qs (RV.assign hx) hd h
def Lq{f o:Nat}[FA P T f o](hx:ev st x=some (.pointer (some q)))(hd:L1 d N=true)(h:WS P N ops w K rest ((d,.pointer (some (q.add o)))::st)):WS P N ops w K (⟨some d,.fieldAddr T x f,t,p,e,none⟩::rest) st:=qs (RV.fa hx) hd h
def yP(hx:ev st x=some (.pointer (some q)))(hd:L1 d N=true)(h:WS P N ops w K rest ((d,.pointer (some q))::st)):WS P N ops w K (⟨some d,.nilCheck x,t,p,e,none⟩::rest) st:=qs (aq hx) hd h
def tK{vs:Array ix}(hx:ev st x=some (.tuple vs))(hv:vs[i]? = some v)(hd:L1 d N=true)(h:WS P N ops w K rest ((d,v)::st)):WS P N ops w K (⟨some d,.extract x i,t,p,e,none⟩::rest) st:=qs (RV.extract hx hv) hd h
def G8{l:List M8}(h:WS P N ops w K (o::l.take n) st):WS P N ops w K (NK (n+1) (o::l)) st:=h
def G9{l:List M8}(h:WS P N ops w K [] st):WS P N ops w K (NK 0 l) st:=h
def JI{n:Int}(hx:ev st x=some (.int k m))(hy:ev st y=some (.int k n))(hd:L1 d N=true)(h:WS P N ops w K rest ((d,.bool (decide (m<n)))::st)):WS P N ops w K (⟨some d,.binOp .lss xt x y yt,t,p,e,none⟩::rest) st:=qs (RV.lss hx hy) hd h
def JJ{n:Int}(hx:ev st x=some (.int k m))(hy:ev st y=some (.int k n))(hd:L1 d N=true)(h:WS P N ops w K rest ((d,.bool (decide (m≤n)))::st)):WS P N ops w K (⟨some d,.binOp .leq xt x y yt,t,p,e,none⟩::rest) st:=qs (RV.leq hx hy) hd h
def JK{n:Int}(hx:ev st x=some (.int k m))(hy:ev st y=some (.int k n))(hd:L1 d N=true)(h:WS P N ops w K rest ((d,.bool (decide (n<m)))::st)):WS P N ops w K (⟨some d,.binOp .gtr xt x y yt,t,p,e,none⟩::rest) st:=qs (RV.gtr hx hy) hd h
def JL{n:Int}(hx:ev st x=some (.int k m))(hy:ev st y=some (.int k n))(hd:L1 d N=true)(h:WS P N ops w K rest ((d,.bool (decide (n≤m)))::st)):WS P N ops w K (⟨some d,.binOp .geq xt x y yt,t,p,e,none⟩::rest) st:=qs (RV.geq hx hy) hd h
def JM{n:Int}(hx:ev st x=some (.int k m))(hy:ev st y=some (.int k n))(hd:L1 d N=true)(h:WS P N ops w K rest ((d,.bool (m==n))::st)):WS P N ops w K (⟨some d,.binOp .eql xt x y yt,t,p,e,none⟩::rest) st:=qs (RV.eql hx hy) hd h
def JH{n:Int}(hx:ev st x=some (.int k m))(hy:ev st y=some (.int k n))(hd:L1 d N=true)(h:WS P N ops w K rest ((d,.bool (m != n))::st)):WS P N ops w K (⟨some d,.binOp .neq xt x y yt,t,p,e,none⟩::rest) st:=qs (RV.neq hx hy) hd h
def KK{n:Int}(hx:ev st x=some (.int .i64 m))(hy:ev st y=some (.int .i64 n))(hr : -9223372036854775808≤m+n∧m+n≤9223372036854775807)(hd:L1 d N=true)(h:WS P N ops w K rest ((d,.int .i64 (m+n))::st)):WS P N ops w K (⟨some d,.binOp .add xt x y yt,t,p,e,none⟩::rest) st:=qs (RV.add hx hy (Fit.i64 hr)) hd h
def KI{n:Int}(hx:ev st x=some (.int .i64 m))(hy:ev st y=some (.int .i64 n))(hr : -9223372036854775808≤m-n∧m-n≤9223372036854775807)(hd:L1 d N=true)(h:WS P N ops w K rest ((d,.int .i64 (m-n))::st)):WS P N ops w K (⟨some d,.binOp .sub xt x y yt,t,p,e,none⟩::rest) st:=qs (RV.sub hx hy (Fit.i64 hr)) hd h
def JG(hx:ev st x=some (.bool b))(hd:L1 d N=true)(h:WS P N ops w K rest ((d,.bool (!b))::st)):WS P N ops w K (⟨some d,.unOp .not xt x,t,p,e,none⟩::rest) st:=qs (RV.not hx) hd h
def KJ[h:AG P T false](hx:ev st x=some (.pointer (some q)))(hc:w0.cell? q=some u)(hd:L1 d N=true)(h:WS P N ops w0.drew K rest ((d,u)::st)):WS P N ops w0.drew K (⟨some d,.load T x,t,p,e,none⟩::rest) st:=qs (RV.ld (w:=w0.drew) hc hx) hd h
def LB[h:SC P T sz]{enc:α→List ix}(hx:ev st x=some v)(hs:Sl enc sz w0 v xs)(hd:L1 d N=true)(h:WS P N ops w0.drew K rest ((d,.int .i64 (xs.length:Int))::st)):WS P N ops w0.drew K (⟨some d,.call ⟨.builtin .len,#[x],#[T]⟩,t,p,e,none⟩::rest) st:=qs (Kp hx (hs.ext (Ext.refl w0).drew)) hd h
def LD[h:SC P T sz]{enc:α→List ix}{i:Int}(hx:ev st x=some v)(hy:ev st y=some (.int k i))(hs:Sl enc sz w0 v xs)(hi:i=n)(hn:n<xs.length)(hd:L1 d N=true)(h:WS P N ops w0.drew K rest ((d,.pointer (some (adr v sz n)))::st)):WS P N ops w0.drew K (⟨some d,.indexAddr T x y,t,p,e,none⟩::rest) st:=qs (Kq hx hy (hs.ext (Ext.refl w0).drew) hi hn) hd h
def zv(hv:RV P N op t st w v)(h:WL P N ops Q rest ((d,v)::st) w)(hd:L1 d N=true:=by exact rfl):WL P N ops Q (⟨some d,op,t,p,e,none⟩::rest) st w:=aE hv hd h
def zw(hv:RV P N op t st w v)(h:WS P N ops w K rest ((d,v)::st))(hd:L1 d N=true:=by exact rfl):WS P N ops w K (⟨some d,op,t,p,e,none⟩::rest) st:=qs hv hd h
def zc{ats:Array L0}{R:ix→ln→Prop}
 (hf:∀(args:Array ix) (w:ln),(callFunc f args).run P w=.ok (.enter f args) w) (hc:Ret P f vs w R)
 (h:∀v w',R v w'→WL P N ops Q rest ((d,v)::st) w') (hargs:evs st args=some vs:=by exact rfl) (hd:L1 d N=true:=by exact rfl):WL P N ops Q (⟨some d,.call ⟨.value (.func f),args.toArray,ats⟩,t,p,e,none⟩::rest) st w:=WL.call hf hargs hc hd h
def zt(i:Nat)(hi:ops[i]? = some ⟨some d,op,t,p,e,none⟩)(hS:S w)(hv:∀w',S w'→RV P N op t st w' v)(h:WH P N ops S Q fuel (listed.setIfInBounds i true) ((d,v)::st) w)
  (hs:M6 ops=true:=by kernel_rfl) (hf:Mg .any ops listed i=true:=by kernel_rfl) (hr:(M5 .any ops listed).contains i=true:=by kernel_rfl) (hd:L1 d N=true:=by exact rfl):WH P N ops S Q (fuel+1) listed st w:=
 WH.take i hi hs hf hr hS hv hd h
def zr(i:Nat)(hi:ops[i]? = some ⟨some d,op,t,p,e,none⟩)(hS:S w)(hv:∀w',RV P N op t st w' v)(h:WH P N ops S Q fuel (listed.setIfInBounds i true) ((d,v)::st) w)
  (hs:M6 ops=true:=by kernel_rfl) (hf:Mg .any ops listed i=true:=by kernel_rfl) (hr:(M5 .any ops listed).contains i=true:=by kernel_rfl) (hd:L1 d N=true:=by exact rfl):WH P N ops S Q (fuel+1) listed st w:=
 WH.take i hi hs hf hr hS (λw' _=>hv w') hd h
theorem zC{c:L3}{x y:MX}{b:Bool}(ht:b=true→WC P N x Q st w)(hf:b=false→WC P N y Q st w)(hc:ev st c=some (.bool b):=by exact rfl):WC P N (.cond c x y) Q st w:=WC.cond hc ht hf
def zsa{O:Nat→Nat}{b:Nat}{cs us:Array ix}(hb:BlkO O w i b cs E)(hT:(Mp T).run P w=.ok us.size w)(h:WL P N ops Q rest st (w.setRow b us))(hs:us.size=cs.size:=by exact rfl)(h1:us.toList.all MN=true:=by exact rfl)(hx:ev st x=some (.pointer (some q)):=by exact rfl)(hq:q=⟨b,0,none⟩:=by exact rfl)(hy:ev st y=some (.agg us):=by exact rfl):WL P N ops Q (⟨none,.store T x y,t,p,e,none⟩::rest) st w:=bL hb hs hT h1 hx hq hy h
def zsb{O:Nat→Nat}{b:Nat}{cs us:Array ix}(hb:BlkO O w i b cs E)(hT:(Mp T).run P w=.ok us.size w)(h1:us.toList.all MN=true)(h:WL P N ops Q rest st (w.setRow b us))(hs:us.size=cs.size:=by exact rfl)(hx:ev st x=some (.pointer (some q)):=by exact rfl)(hq:q=⟨b,0,none⟩:=by exact rfl)(hy:ev st y=some (.agg us):=by exact rfl):WL P N ops Q (⟨none,.store T x y,t,p,e,none⟩::rest) st w:=bL hb hs hT h1 hx hq hy h
theorem fI{f o m:Nat}{fs:Array Ra}{fd:Ra}(h1:P.underlying T=some (.struct fs))(h2:fs[f]? = some fd)(h3:fd.offset=o)(h4:∀w,(Mp fd.type).run P w=.ok m w)(h5:m≠0:=by decide):FA P T f o:=⟨fs,fd,m,h1,h2,h3,h4,h5⟩
def zaf(hS:S w)(h:S w→WH P N ops S Q fuel (listed.setIfInBounds i true) st w):QF N (tE P ops S Q fuel (listed.setIfInBounds i true)) .normal st w:=af hS (h hS)
def zrm{x:L3}(i:Nat)(hi:ops[i]? = some ⟨some d,.move x,t,p,e,none⟩)(hS:S w)(hx:ev st x=some v)(h:WH P N ops S Q fuel (listed.setIfInBounds i true) ((d,v)::st) w)
  (hs:M6 ops=true:=by kernel_rfl) (hf:Mg .any ops listed i=true:=by kernel_rfl) (hr:(M5 .any ops listed).contains i=true:=by kernel_rfl) (hd:L1 d N=true:=by exact rfl):WH P N ops S Q (fuel+1) listed st w:=
 WH.take i hi hs hf hr hS (λ_ _=>RV.move hx) hd h
def zra{x:L3}(i:Nat)(hi:ops[i]? = some ⟨some d,.assign x,t,p,e,none⟩)(hS:S w)(hx:ev st x=some v)(h:WH P N ops S Q fuel (listed.setIfInBounds i true) ((d,v)::st) w)
  (hs:M6 ops=true:=by kernel_rfl) (hf:Mg .any ops listed i=true:=by kernel_rfl) (hr:(M5 .any ops listed).contains i=true:=by kernel_rfl) (hd:L1 d N=true:=by exact rfl):WH P N ops S Q (fuel+1) listed st w:=
 WH.take i hi hs hf hr hS (λ_ _=>RV.assign hx) hd h
def zrf{f o:Nat}[h':FA P T f o]{x:L3}(i:Nat)(hi:ops[i]? = some ⟨some d,.fieldAddr T x f,t,p,e,none⟩)(hS:S w)(hx:ev st x=some (.pointer (some q)))(h:WH P N ops S Q fuel (listed.setIfInBounds i true) ((d,.pointer (some (q.add o)))::st) w)
  (hs:M6 ops=true:=by kernel_rfl) (hf:Mg .any ops listed i=true:=by kernel_rfl) (hr:(M5 .any ops listed).contains i=true:=by kernel_rfl) (hd:L1 d N=true:=by exact rfl):WH P N ops S Q (fuel+1) listed st w:=
 WH.take i hi hs hf hr hS (λ_ _=>RV.fa hx) hd h
def zto(i:Nat)(hi:ops[i]? = some ⟨some d,op,t,p,e,some (j,b)⟩)(hS:S w)(hv:∀w',S w'→RV P N op t st w' v)(h:WH P N ops S Q fuel (listed.setIfInBounds i true) ((d,v)::st) w)(hg:said ops st j=some b:=by exact rfl)
  (hs:M6 ops=true:=by kernel_rfl) (hf:Mg .any ops listed i=true:=by kernel_rfl) (hr:(M5 .any ops listed).contains i=true:=by kernel_rfl) (hd:L1 d N=true:=by exact rfl):WH P N ops S Q (fuel+1) listed st w:=
 aW i hi hg hs hf hr hS hv hd h
def zro(i:Nat)(hi:ops[i]? = some ⟨some d,op,t,p,e,some (j,b)⟩)(hS:S w)(hv:∀w',RV P N op t st w' v)(h:WH P N ops S Q fuel (listed.setIfInBounds i true) ((d,v)::st) w)(hg:said ops st j=some b:=by exact rfl)
  (hs:M6 ops=true:=by kernel_rfl) (hf:Mg .any ops listed i=true:=by kernel_rfl) (hr:(M5 .any ops listed).contains i=true:=by kernel_rfl) (hd:L1 d N=true:=by exact rfl):WH P N ops S Q (fuel+1) listed st w:=
 aW i hi hg hs hf hr hS (λw' _=>hv w') hd h
def zte(i:Nat)(hi:ops[i]? = some ⟨some d,op,t,p,e,some (j,b)⟩)(hg:said ops st j=some b')(hS:S w)(h:WH P N ops S Q fuel (listed.setIfInBounds i true) ((d,undef)::st) w)(hne:(b'==b)=false:=by exact rfl)
  (hs:M6 ops=true:=by kernel_rfl) (hf:Mg .any ops listed i=true:=by kernel_rfl) (hr:(M5 .any ops listed).contains i=true:=by kernel_rfl) (hd:L1 d N=true:=by exact rfl):WH P N ops S Q (fuel+1) listed st w:=
 aG i hi hg hne hs hf hr hS hd h
def ztu(i:Nat)(hi:ops[i]? = some ⟨some d,op,t,p,e,some (j,b)⟩)(hS:S w)(h:WH P N ops S Q fuel (listed.setIfInBounds i true) ((d,undef)::st) w)(hg:jY ops st j=true:=by exact rfl)
  (hs:M6 ops=true:=by kernel_rfl) (hf:Mg .any ops listed i=true:=by kernel_rfl) (hr:(M5 .any ops listed).contains i=true:=by kernel_rfl) (hd:L1 d N=true:=by exact rfl):WH P N ops S Q (fuel+1) listed st w:=
 yC i hi hg hs hf hr hS hd h
def nE{c X:Bool}{st0:St}(tA n:Nat)(hS:S w)(e:X=c)(hX:cV st0 tA=some (.bool X):=by exact rfl)(hdrop:st.drop n=st0:=by exact rfl)(hf:((st.take n).all λq=>MG q.1 tA||(match cV st0 q.1 with|none=>true|_=>false))=true:=by exact rfl)
 (hA:cV st tA=some (.bool c):=by exact rfl) (hb:cV st tB=some (.bool b):=by exact rfl):QF N (Jv N S tB b st0) .normal st w:=cp n hS hdrop hf hA (λv hv=>by rw[hX]at hv;cases hv;rw[e]) hb
def zin(hS:S w)(h:S w→WH P N ops S Q fuel listed st w):WH P N ops S Q fuel listed st w:=h hS
def zlp{c:MX}(f:α→St)(g:α→ln)(I:α→Prop)(μ:α→Nat)(x0:α)(h0:I x0)
 (round:∀x,I x→WC P N c (Exit.then (λa' w'=>∃y,I y∧μ y<μ x∧Fits N a' (f y)∧g y=w') Q) (f x) (g x)) (hc:Cov st (f x0):=by repeat' first|exact trivial|exact rfl|constructor) (hw:g x0=w:=by exact rfl):WC P N (.loop c) Q st w:=WC.loop f g I μ x0 h0 hc hw round
def zx{f:α→St}{g:α→ln}{I:α→Prop}{m:Nat}{μ:α→Nat}(y:α)(h1:I y)(h2:μ y<m)(h3:Cov st (f y):=by repeat' first|exact trivial|exact rfl|constructor)(h4:g y=w:=by exact rfl):
 QF N (Exit.then (λa' w'=>∃y,I y∧μ y<m∧Fits N a' (f y)∧g y=w') Q) .normal st w:=QF.next y h1 h2 h3 h4
def zxd{f:α→St}{g:α→ln}{I:α→Prop}{m:Nat}{μ:α→Nat}(y:α)(h1:I y)(h2:μ y<m:=by first|omega|(dsimp only;omega))(h3:Cov st (f y):=by repeat' first|exact trivial|exact rfl|constructor)(h4:g y=w:=by exact rfl):
 QF N (Exit.then (λa' w'=>∃y,I y∧μ y<m∧Fits N a' (f y)∧g y=w') Q) .normal st w:=QF.next y h1 h2 h3 h4
end
def zg{B:Prop}(k:B)(a:Hold B→A:=by
 intro k
 repeat first
  |((with_reducible refine' GJ ?_ ?_ ?_);rotate_left 1;exact rfl;exact rfl)
  |((with_reducible refine' yO ?_ ?_ ?_);rotate_left 1;exact rfl;exact rfl)
  |((with_reducible refine' Lp ?_ ?_ ?_);rotate_left 1;exact rfl;exact rfl)
  |with_reducible refine WL.nil ?_
  |with_reducible refine Ic ?_
  |with_reducible refine Ie ?_
  |with_reducible refine aa ?_
  |with_reducible refine WC.seq ?_
  |with_reducible refine WC.region ?_
  |with_reducible refine WC.skip ?_
  |with_reducible refine WC.block ?_
  |with_reducible refine WC.exit ?_
  |with_reducible refine WC.ret ?_
  |with_reducible refine aB ?_
  |with_reducible refine da ?_
  |with_reducible refine au ?_
  |with_reducible refine aJ ?_
  |with_reducible refine gX ?_
  |((with_reducible refine nq ?_ ?_);exact rfl)
  |((with_reducible refine' yN ?_ ?_ ?_);rotate_left 1;exact rfl;exact rfl)
  |((with_reducible refine' tJ ?_ ?_ ?_ ?_);rotate_left 2;exact rfl;exact rfl;exact rfl)
  |((with_reducible refine' JB ?_ ?_ ?_ ?_);rotate_left 3;exact rfl;exact rfl;exact rfl)
  |((with_reducible refine' JC ?_ ?_ ?_ ?_);rotate_left 3;exact rfl;exact rfl;exact rfl)
  |((with_reducible refine' JD ?_ ?_ ?_ ?_);rotate_left 3;exact rfl;exact rfl;exact rfl)
  |((with_reducible refine' JE ?_ ?_ ?_ ?_);rotate_left 3;exact rfl;exact rfl;exact rfl)
  |((with_reducible refine' JF ?_ ?_ ?_ ?_);rotate_left 3;exact rfl;exact rfl;exact rfl)
  |((with_reducible refine' JA ?_ ?_ ?_ ?_);rotate_left 3;exact rfl;exact rfl;exact rfl)
  |((with_reducible refine' Jz ?_ ?_ ?_);rotate_left 1;exact rfl;exact rfl)
  |((with_reducible refine' Jw ?_ ?_ ?_ ?_ ?_);rotate_left 2;exact rfl;(with_reducible exact rfl);exact rfl;exact rfl)
  |((with_reducible refine' Jy ?_ ?_ ?_ ?_ ?_);rotate_left 2;exact rfl;(with_reducible exact rfl);exact rfl;exact rfl)
  |((with_reducible refine' DP ?_ ?_ ?_ ?_);rotate_left 1;exact rfl;(with_reducible exact rfl);exact rfl)
  |((with_reducible refine' DQ ?_ ?_ ?_ ?_);rotate_left 1;exact rfl;(with_reducible exact rfl);exact rfl)
  |((with_reducible refine bR ?_ ?_ ?_);exact rfl;exact rfl)
  |((with_reducible refine' If ?_ ?_ ?_);rotate_left 1;exact rfl;(with_reducible exact rfl))
  |((with_reducible refine' GK ?_ ?_ ?_);rotate_left 1;exact rfl;exact rfl)
  |((with_reducible refine' yQ ?_ ?_ ?_);rotate_left 1;exact rfl;exact rfl)
  |((with_reducible refine' Lq ?_ ?_ ?_);rotate_left 1;exact rfl;exact rfl)
  |((with_reducible refine' yP ?_ ?_ ?_);rotate_left 1;exact rfl;exact rfl)
  |((with_reducible refine' tK ?_ ?_ ?_ ?_);rotate_left 2;exact rfl;exact rfl;exact rfl)
  |((with_reducible refine' DN ?_ ?_ ?_ ?_);rotate_left 1;exact rfl;(with_reducible exact rfl);exact rfl)
  |((with_reducible refine' DO ?_ ?_ ?_ ?_);rotate_left 1;exact rfl;(with_reducible exact rfl);exact rfl)
  |((with_reducible refine DM ?_ ?_ ?_);exact rfl;exact rfl)
  |with_reducible refine G8 ?_
  |with_reducible refine G9 ?_
  |((with_reducible refine' JG ?_ ?_ ?_);rotate_left 1;exact rfl;exact rfl)
  |((with_reducible refine' JI ?_ ?_ ?_ ?_);rotate_left 3;exact rfl;exact rfl;exact rfl)
  |((with_reducible refine' JJ ?_ ?_ ?_ ?_);rotate_left 3;exact rfl;exact rfl;exact rfl)
  |((with_reducible refine' JK ?_ ?_ ?_ ?_);rotate_left 3;exact rfl;exact rfl;exact rfl)
  |((with_reducible refine' JL ?_ ?_ ?_ ?_);rotate_left 3;exact rfl;exact rfl;exact rfl)
  |((with_reducible refine' JM ?_ ?_ ?_ ?_);rotate_left 3;exact rfl;exact rfl;exact rfl)
  |((with_reducible refine' JH ?_ ?_ ?_ ?_);rotate_left 3;exact rfl;exact rfl;exact rfl)
  |((with_reducible refine' Ia ?_ ?_ ?_);rotate_left 1;exact rfl;(with_reducible exact rfl))
 exact k.out):A:=a ⟨k⟩
theorem zh{B:Prop}(k:B)(a:Hold B→A:=by
 intro k
 repeat first
  |((with_reducible refine' GJ ?_ ?_ ?_);rotate_left 1;exact rfl;exact rfl)
  |((with_reducible refine' yO ?_ ?_ ?_);rotate_left 1;exact rfl;exact rfl)
  |((with_reducible refine' Lp ?_ ?_ ?_);rotate_left 1;exact rfl;exact rfl)
  |with_reducible refine WL.nil ?_
  |with_reducible refine Ic ?_
  |with_reducible refine Ie ?_
  |with_reducible refine aa ?_
  |with_reducible refine WC.seq ?_
  |with_reducible refine WC.region ?_
  |with_reducible refine WC.skip ?_
  |with_reducible refine WC.block ?_
  |with_reducible refine WC.exit ?_
  |with_reducible refine WC.ret ?_
  |with_reducible refine aB ?_
  |with_reducible refine da ?_
  |with_reducible refine au ?_
  |with_reducible refine aJ ?_
  |with_reducible refine gX ?_
  |((with_reducible refine nq ?_ ?_);exact rfl)
  |((with_reducible refine' yN ?_ ?_ ?_);rotate_left 1;exact rfl;exact rfl)
  |((with_reducible refine' tJ ?_ ?_ ?_ ?_);rotate_left 2;exact rfl;exact rfl;exact rfl)
  |((with_reducible refine' JB ?_ ?_ ?_ ?_);rotate_left 3;exact rfl;exact rfl;exact rfl)
  |((with_reducible refine' JC ?_ ?_ ?_ ?_);rotate_left 3;exact rfl;exact rfl;exact rfl)
  |((with_reducible refine' JD ?_ ?_ ?_ ?_);rotate_left 3;exact rfl;exact rfl;exact rfl)
  |((with_reducible refine' JE ?_ ?_ ?_ ?_);rotate_left 3;exact rfl;exact rfl;exact rfl)
  |((with_reducible refine' JF ?_ ?_ ?_ ?_);rotate_left 3;exact rfl;exact rfl;exact rfl)
  |((with_reducible refine' JA ?_ ?_ ?_ ?_);rotate_left 3;exact rfl;exact rfl;exact rfl)
  |((with_reducible refine' Jz ?_ ?_ ?_);rotate_left 1;exact rfl;exact rfl)
  |((with_reducible refine' Jw ?_ ?_ ?_ ?_ ?_);rotate_left 2;exact rfl;(with_reducible exact rfl);exact rfl;exact rfl)
  |((with_reducible refine' Jy ?_ ?_ ?_ ?_ ?_);rotate_left 2;exact rfl;(with_reducible exact rfl);exact rfl;exact rfl)
  |((with_reducible refine' DP ?_ ?_ ?_ ?_);rotate_left 1;exact rfl;(with_reducible exact rfl);exact rfl)
  |((with_reducible refine' DQ ?_ ?_ ?_ ?_);rotate_left 1;exact rfl;(with_reducible exact rfl);exact rfl)
  |((with_reducible refine bR ?_ ?_ ?_);exact rfl;exact rfl)
  |((with_reducible refine' If ?_ ?_ ?_);rotate_left 1;exact rfl;(with_reducible exact rfl))
  |((with_reducible refine' GK ?_ ?_ ?_);rotate_left 1;exact rfl;exact rfl)
  |((with_reducible refine' yQ ?_ ?_ ?_);rotate_left 1;exact rfl;exact rfl)
  |((with_reducible refine' Lq ?_ ?_ ?_);rotate_left 1;exact rfl;exact rfl)
  |((with_reducible refine' yP ?_ ?_ ?_);rotate_left 1;exact rfl;exact rfl)
  |((with_reducible refine' tK ?_ ?_ ?_ ?_);rotate_left 2;exact rfl;exact rfl;exact rfl)
  |((with_reducible refine' DN ?_ ?_ ?_ ?_);rotate_left 1;exact rfl;(with_reducible exact rfl);exact rfl)
  |((with_reducible refine' DO ?_ ?_ ?_ ?_);rotate_left 1;exact rfl;(with_reducible exact rfl);exact rfl)
  |((with_reducible refine DM ?_ ?_ ?_);exact rfl;exact rfl)
  |with_reducible refine G8 ?_
  |with_reducible refine G9 ?_
  |((with_reducible refine' JG ?_ ?_ ?_);rotate_left 1;exact rfl;exact rfl)
  |((with_reducible refine' JI ?_ ?_ ?_ ?_);rotate_left 3;exact rfl;exact rfl;exact rfl)
  |((with_reducible refine' JJ ?_ ?_ ?_ ?_);rotate_left 3;exact rfl;exact rfl;exact rfl)
  |((with_reducible refine' JK ?_ ?_ ?_ ?_);rotate_left 3;exact rfl;exact rfl;exact rfl)
  |((with_reducible refine' JL ?_ ?_ ?_ ?_);rotate_left 3;exact rfl;exact rfl;exact rfl)
  |((with_reducible refine' JM ?_ ?_ ?_ ?_);rotate_left 3;exact rfl;exact rfl;exact rfl)
  |((with_reducible refine' JH ?_ ?_ ?_ ?_);rotate_left 3;exact rfl;exact rfl;exact rfl)
  |((with_reducible refine' Ia ?_ ?_ ?_);rotate_left 1;exact rfl;(with_reducible exact rfl))
  |((with_reducible refine' Lz ?_ ?_ ?_ ?_);rotate_left 2;exact rfl;(with_reducible assumption);exact rfl)
  |((with_reducible refine' KH ?_ ?_ ?_ ?_ ?_);rotate_left 2;exact rfl;exact rfl;omega;exact rfl)
  |((with_reducible refine' Ly ?_ ?_ ?_ ?_);rotate_left 4;exact rfl;(with_reducible assumption);exact rfl)
  |((with_reducible refine' LA ?_ ?_ ?_ ?_ ?_ ?_ ?_);rotate_left 7;exact rfl;exact rfl;(with_reducible assumption);exact rfl;omega;exact rfl)
  |((with_reducible refine' KG ?_ ?_ ?_ ?_ ?_);rotate_left 2;exact rfl;exact rfl;omega;exact rfl)
  |((with_reducible refine' LC ?_ ?_ ?_ ?_);rotate_left 2;exact rfl;(with_reducible assumption);exact rfl)
  |((with_reducible refine' KK ?_ ?_ ?_ ?_ ?_);rotate_left 2;exact rfl;exact rfl;omega;exact rfl)
  |((with_reducible refine' KI ?_ ?_ ?_ ?_ ?_);rotate_left 2;exact rfl;exact rfl;omega;exact rfl)
  |((with_reducible refine' KJ ?_ ?_ ?_ ?_);rotate_left 2;exact rfl;(with_reducible assumption);exact rfl)
  |((with_reducible refine' LB ?_ ?_ ?_ ?_);rotate_left 4;exact rfl;(with_reducible assumption);exact rfl)
  |((with_reducible refine' LD ?_ ?_ ?_ ?_ ?_ ?_ ?_);rotate_left 7;exact rfl;exact rfl;(with_reducible assumption);exact rfl;omega;exact rfl)
 exact k.out):A:=a ⟨k⟩
section
variable{P:L7}{N:Nat}{ops:Array M8}{Q:Mq→MJ→ln→Prop}{K:MJ→Prop}{rest:List M8}{st:St}{w:ln}
variable{t:L0}{p:String}{e:Array MV}{d:Nat}{v:ix}{op:Op}{B:Prop}
def zvG(hv:RV P N op t st w v)(k:B)(hd:L1 d N=true:=by exact rfl)(a:Hold B→WL P N ops Q rest ((d,v)::st) w:=by intro k;exact zg k.out):WL P N ops Q (⟨some d,op,t,p,e,none⟩::rest) st w:=aE hv hd (a ⟨k⟩)
def zwG(hv:RV P N op t st w v)(k:B)(hd:L1 d N=true:=by exact rfl)(a:Hold B→WS P N ops w K rest ((d,v)::st):=by intro k;exact zg k.out):WS P N ops w K (⟨some d,op,t,p,e,none⟩::rest) st:=qs hv hd (a ⟨k⟩)
def zTG{y:MX}(hc:ev st c=some (.bool b))(hb:b=true)(k:B)(a:Hold B→WC P N x Q st w:=by intro k;exact zg k.out):WC P N (.cond c x y) Q st w:=aM hc hb (a ⟨k⟩)
def zFG{y:MX}(hc:ev st c=some (.bool b))(hb:b=false)(k:B)(a:Hold B→WC P N y Q st w:=by intro k;exact zg k.out):WC P N (.cond c x y) Q st w:=aH hc hb (a ⟨k⟩)
def zvH(hv:RV P N op t st w v)(k:B)(hd:L1 d N=true:=by exact rfl)(a:Hold B→WL P N ops Q rest ((d,v)::st) w:=by intro k;exact zh k.out):WL P N ops Q (⟨some d,op,t,p,e,none⟩::rest) st w:=aE hv hd (a ⟨k⟩)
def zwH(hv:RV P N op t st w v)(k:B)(hd:L1 d N=true:=by exact rfl)(a:Hold B→WS P N ops w K rest ((d,v)::st):=by intro k;exact zh k.out):WS P N ops w K (⟨some d,op,t,p,e,none⟩::rest) st:=qs hv hd (a ⟨k⟩)
def zTH{y:MX}(hc:ev st c=some (.bool b))(hb:b=true)(k:B)(a:Hold B→WC P N x Q st w:=by intro k;exact zh k.out):WC P N (.cond c x y) Q st w:=aM hc hb (a ⟨k⟩)
def zFH{y:MX}(hc:ev st c=some (.bool b))(hb:b=false)(k:B)(a:Hold B→WC P N y Q st w:=by intro k;exact zh k.out):WC P N (.cond c x y) Q st w:=aH hc hb (a ⟨k⟩)
end
end Go.VL
end
section
namespace Go.VL
open Go.Proofs.Tryz
open Go.Proofs Go.Proofs.YteolbhblkgjbhaaGreatDoor
open Go.Proofs.Tryz
instance :FA L4 26 0 0:=fI Nw rfl rfl Ma
instance :FA L4 26 1 1:=fI Nw rfl rfl ME
instance :FA L4 26 2 2:=fI Nw rfl rfl ME
instance :FA L4 26 3 3:=fI Nw rfl rfl ME
instance :FA L4 26 4 4:=fI Nw rfl rfl ME
instance :FA L4 29 0 0:=fI QS rfl rfl sizeOf26
instance :FA L4 29 1 5:=fI QS rfl rfl QB
instance :FA L4 31 0 0:=fI N0 rfl rfl Pb
instance :FA L4 31 1 1:=fI N0 rfl rfl Pb
instance :FA L4 31 2 2:=fI N0 rfl rfl Pb
instance :FA L4 31 3 3:=fI N0 rfl rfl Ma
instance :FA L4 31 4 4:=fI N0 rfl rfl ME
instance :FA L4 31 5 5:=fI N0 rfl rfl sizeOf29
instance :FA L4 31 6 11:=fI N0 rfl rfl sizeOf29
instance :FA L4 45 0 0:=fI PM rfl rfl ME
instance :FA L4 45 1 1:=fI PM rfl rfl ME
instance :FA L4 45 2 2:=fI PM rfl rfl sizeOf43
instance :FA L4 56 0 0:=fI PL rfl rfl ME
instance :FA L4 56 1 1:=fI PL rfl rfl ME
instance :FA L4 56 2 2:=fI PL rfl rfl sizeOf54
instance :FA L4 69 1 0:=fI underlying69 rfl rfl sizeOf67
instance :FA L4 71 0 0:=fI underlying71 rfl rfl sizeOf21
instance :FA L4 73 1 0:=fI underlying73 rfl rfl sizeOf71
instance :FA L4 75 1 0:=fI QR rfl rfl sizeOf69
instance :FA L4 75 2 1:=fI QR rfl rfl sizeOf73
instance :FA L4 77 0 0:=fI QQ rfl rfl sizeOf75
instance :FA L4 77 1 3:=fI QQ rfl rfl sizeOf31
instance :FA L4 80 0 0:=fI underlying80 rfl rfl sizeOf78
instance :FA L4 96 0 0:=fI PK rfl rfl Ma
instance :FA L4 96 1 1:=fI PK rfl rfl Ma
instance :FA L4 96 2 2:=fI PK rfl rfl sizeOf94
instance :FA L4 98 0 0:=fI PJ rfl rfl Pa
instance :FA L4 98 1 3:=fI PJ rfl rfl Pa
instance :FA L4 98 2 6:=fI PJ rfl rfl N1
instance :FA L4 111 0 0:=fI N9 rfl rfl NS
instance :FA L4 111 1 1:=fI N9 rfl rfl Ma
instance :FA L4 111 2 2:=fI N9 rfl rfl Ma
instance :FA L4 111 3 3:=fI N9 rfl rfl Ma
instance :FA L4 111 4 4:=fI N9 rfl rfl Ma
instance :FA L4 111 5 5:=fI N9 rfl rfl sizeOf57
instance :FA L4 114 0 0:=fI Nn rfl rfl sizeOf111
instance :FA L4 114 1 6:=fI Nn rfl rfl sizeOf56
instance :FA L4 114 2 9:=fI Nn rfl rfl sizeOf112
instance :FA L4 114 3 10:=fI Nn rfl rfl N1
instance :FA L4 114 4 11:=fI Nn rfl rfl N1
instance :FA L4 120 0 0:=fI Pu rfl rfl Ma
instance :FA L4 120 1 1:=fI Pu rfl rfl Ma
instance :FA L4 120 2 2:=fI Pu rfl rfl sizeOf118
instance :FA L4 122 0 0:=fI Ps rfl rfl Py
instance :FA L4 122 1 3:=fI Ps rfl rfl Py
instance :FA L4 122 2 6:=fI Ps rfl rfl N1
instance :FA L4 138 0 0:=fI QL rfl rfl Ma
instance :FA L4 138 1 1:=fI QL rfl rfl N1
instance :FA L4 140 0 0:=fI N8 rfl rfl sizeOf31
instance :FA L4 140 1 17:=fI N8 rfl rfl Ma
instance :FA L4 140 2 18:=fI N8 rfl rfl sizeOf136
instance :FA L4 140 3 19:=fI N8 rfl rfl N1
instance :FA L4 140 4 20:=fI N8 rfl rfl sizeOf138
instance :FA L4 140 5 22:=fI N8 rfl rfl N1
instance :FA L4 151 0 0:=fI N7 rfl rfl sizeOf45
instance :FA L4 151 1 3:=fI N7 rfl rfl sizeOf149
instance :FA L4 151 2 4:=fI N7 rfl rfl N1
instance :FA L4 151 3 5:=fI N7 rfl rfl N1
instance :FA L4 151 4 6:=fI N7 rfl rfl Ma
instance :FA L4 151 5 7:=fI N7 rfl rfl Ma
instance :FA L4 170 0 0:=fI QK rfl rfl Px
instance :FA L4 170 1 1:=fI QK rfl rfl QB
instance :FA L4 185 0 0:=fI QJ rfl rfl NS
instance :FA L4 185 1 1:=fI QJ rfl rfl Pa
instance :FA L4 197 0 0:=fI QH rfl rfl NS
instance :FA L4 197 1 1:=fI QH rfl rfl Py
instance :FA L4 225 1 1:=fI QG rfl rfl Px
instance :FA L4 225 2 2:=fI QG rfl rfl QB
instance :FA L4 237 0 0:=fI Pr rfl rfl Pa
instance :FA L4 237 1 3:=fI Pr rfl rfl Ma
instance :FA L4 237 3 5:=fI Pr rfl rfl Ma
instance :FA L4 240 0 0:=fI QE rfl rfl sizeOf5
instance :FA L4 240 1 1:=fI QE rfl rfl NS
instance :FA L4 248 0 0:=fI QD rfl rfl NS
instance :FA L4 248 1 1:=fI QD rfl rfl Ma
instance :FA L4 250 0 0:=fI Nm rfl rfl sizeOf248
instance :FA L4 250 1 2:=fI Nm rfl rfl sizeOf112
instance :FA L4 250 2 3:=fI Nm rfl rfl Ma
instance :FA L4 250 3 4:=fI Nm rfl rfl Ma
instance :FA L4 250 4 5:=fI Nm rfl rfl sizeOf57
instance :FA L4 278 0 0:=fI Nl rfl rfl N1
instance :FA L4 278 1 1:=fI Nl rfl rfl sizeOf275
instance :FA L4 278 2 2:=fI Nl rfl rfl sizeOf276
instance :FA L4 278 3 3:=fI Nl rfl rfl sizeOf273
instance :FA L4 278 4 4:=fI Nl rfl rfl sizeOf274
instance :FA L4 280 0 0:=fI Pq rfl rfl ME
instance :FA L4 280 1 1:=fI Pq rfl rfl ME
instance :FA L4 280 2 2:=fI Pq rfl rfl Ma
instance :FA L4 283 0 0:=fI Pp rfl rfl Ma
instance :FA L4 283 1 1:=fI Pp rfl rfl Ma
instance :FA L4 283 2 2:=fI Pp rfl rfl Ma
instance :FA L4 287 0 0:=fI Po rfl rfl sizeOf213
instance :FA L4 287 1 1:=fI Po rfl rfl sizeOf285
instance :FA L4 287 2 2:=fI Po rfl rfl Px
instance :FA L4 327 0 0:=fI N6 rfl rfl sizeOf170
instance :FA L4 327 1 2:=fI N6 rfl rfl sizeOf325
instance :FA L4 327 2 3:=fI N6 rfl rfl ME
instance :FA L4 327 3 4:=fI N6 rfl rfl sizeOf273
instance :FA L4 327 4 5:=fI N6 rfl rfl sizeOf324
instance :FA L4 327 5 6:=fI N6 rfl rfl Ma
instance :SC L4 22 1:=⟨3,PN,Ma⟩
instance :SC L4 27 1:=⟨24,underlying27,Pb⟩
instance :SC L4 39 1:=⟨4,underlying39,N1⟩
instance :SC L4 43 7:=⟨98,underlying43,sizeOf98⟩
instance :SC L4 54 7:=⟨122,underlying54,sizeOf122⟩
instance :SC L4 94 3:=⟨96,underlying94,Pa⟩
instance :SC L4 107 1:=⟨9,underlying107,NS⟩
instance :SC L4 108 1:=⟨107,underlying108,sizeOf107⟩
instance :SC L4 112 4:=⟨197,underlying112,sizeOf197⟩
instance :SC L4 118 3:=⟨120,underlying118,Py⟩
instance :SC L4 130 1:=⟨22,underlying130,ME⟩
instance :SC L4 136 2:=⟨138,underlying136,sizeOf138⟩
instance :SC L4 146 1:=⟨38,underlying146,sizeOf38⟩
instance :SC L4 218 2:=⟨170,underlying218,sizeOf170⟩
instance :SC L4 234 3:=⟨240,underlying234,sizeOf240⟩
instance :SC L4 276 3:=⟨280,underlying276,sizeOf280⟩
instance :SC L4 325 1:=⟨130,underlying325,Px⟩
instance :AG L4 3 false:=⟨Ri⟩
instance :AG L4 4 false:=⟨Rh⟩
instance :AG L4 5 false:=⟨isAgg5⟩
instance :AG L4 9 false:=⟨isAgg9⟩
instance :AG L4 21 false:=⟨isAgg21⟩
instance :AG L4 22 false:=⟨QT⟩
instance :AG L4 24 false:=⟨isAgg24⟩
instance :AG L4 27 false:=⟨isAgg27⟩
instance :AG L4 36 false:=⟨isAgg36⟩
instance :AG L4 38 false:=⟨isAgg38⟩
instance :AG L4 43 false:=⟨isAgg43⟩
instance :AG L4 54 false:=⟨isAgg54⟩
instance :AG L4 57 false:=⟨isAgg57⟩
instance :AG L4 82 false:=⟨isAgg82⟩
instance :AG L4 94 false:=⟨isAgg94⟩
instance :AG L4 107 false:=⟨isAgg107⟩
instance :AG L4 112 false:=⟨isAgg112⟩
instance :AG L4 118 false:=⟨isAgg118⟩
instance :AG L4 130 false:=⟨isAgg130⟩
instance :AG L4 136 false:=⟨isAgg136⟩
instance :AG L4 149 false:=⟨isAgg149⟩
instance :AG L4 213 false:=⟨isAgg213⟩
instance :AG L4 273 false:=⟨isAgg273⟩
instance :AG L4 274 false:=⟨isAgg274⟩
instance :AG L4 275 false:=⟨isAgg275⟩
instance :AG L4 276 false:=⟨isAgg276⟩
instance :AG L4 285 false:=⟨isAgg285⟩
instance :AG L4 323 false:=⟨isAgg323⟩
instance :AG L4 324 false:=⟨isAgg324⟩
instance :AG L4 325 false:=⟨isAgg325⟩
end Go.VL
end
namespace Go.VL
open Go.Proofs.Tryz
def max_lt(k:LX)(h:(a:Int)<=k.max):a<2^k.bits:=by
 cases k<;>simp only[P6,NB,Nr]at h ⊢<;>simp at h ⊢<;>omega
def lj(n a:Nat)(h:a<2^n):(Qc n (a:Int)).toNat=a:=by
 rw[show Qc n (a:Int)=BitVec.ofNat n a from by simp,BitVec.toNat_ofNat,Nat.mod_eq_of_lt h]
def rK(k:LX)(h:(a:Int)<=k.max):k.wrap a=a:=by
 cases k<;>simp only[P6,NB,Nr]at h<;>simp[Rn,NB,Nr]at h ⊢<;>(try split)<;>omega
def BJ(k:LX):Nat:=if k.signed then k.bits-1 else k.bits
def xY(k:LX)(a:Nat):(a:Int)<=k.max↔a<2^BJ k:=by
 cases k<;>simp[P6,NB,Nr,BJ]<;>omega
section
variable{P:L7}{N:Nat}{ops:Array M8}{Q:Mq→MJ→ln→Prop}{rest:List M8}{st:St}{w:ln}
variable{t xt yt:L0}{p:String}{e:Array MV}{d:Nat}{x y z:L3}
variable{k:LX}{m n:Int}{a b:Nat}
def Iy(ha:(a:Int)<=k.max)(hb:(b:Int)<=k.max):(binOp .and xt (.int k a) (.int k b)).run P w=.ok (.int k ((a &&& b:Nat):Int)) w:=by
 rw[binOp_and];have h:((a &&& b:Nat):Int)<=k.max:=by have:=@Nat.and_le_left a b;omega
 simp only[QO,BitVec.toNat_and,lj _ _ (max_lt k ha),lj _ _ (max_lt k hb),rK k h];rfl
def JX(ha:(a:Int)<=k.max)(hb:(b:Int)<=k.max):(binOp .or xt (.int k a) (.int k b)).run P w=.ok (.int k ((a ||| b:Nat):Int)) w:=by
 rw[binOp_or];simp only[QO,BitVec.toNat_or,lj _ _ (max_lt k ha),lj _ _ (max_lt k hb),rK k ((xY k _).2 (Nat.or_lt_two_pow ((xY k a).1 ha) ((xY k b).1 hb)))];rfl
def yK(hx:ev st x=some (.int k m))(hy:ev st y=some (.int k n))(hm:m=a)(hn:n=b)(ha:(a:Int)<=k.max)(hb:(b:Int)<=k.max):RV P N (.binOp .and xt x y yt) t st w (.int k ((a &&& b:Nat):Int)):=by
 subst hm;subst hn;exact gx hx hy (Iy ha hb)
def vX(hx:ev st x=some (.int k m))(hy:ev st y=some (.int k n))(hm:m=a)(hn:n=b)(ha:(a:Int)<=k.max)(hb:(b:Int)<=k.max):RV P N (.binOp .or xt x y yt) t st w (.int k ((a ||| b:Nat):Int)):=by
 subst hm;subst hn;exact gx hx hy (JX ha hb)
def jc(hx:ev st x=some (.int k m))(hy:ev st y=some (.int k' n))(hm:m=a)(hn:n=b)(hb:b<=k.bits):RV P N (.binOp .shr xt x y yt) t st w (.int k ((a / 2^b:Nat):Int)):=by
 subst hm;subst hn;apply gx hx hy;rw[binOp_shr];have h1:¬(b:Int)<0:=zo;simp only[R8,am h1,Ml,NT hb];rw[Int.fdiv_eq_ediv_of_nonneg _ (by exact_mod_cast Mt _)];simp
def yI(hx:ev st x=some (.int k m))(hy:ev st y=some (.int k' n))(hm:m=a)(hn:n=b)(hb:b<=k.bits)(hr:((a*2^b:Nat):Int)<=k.max):RV P N (.binOp .shl xt x y yt) t st w (.int k ((a*2^b:Nat):Int)):=by
 subst hm;subst hn;apply gx hx hy;rw[binOp_shl];have h1:¬(b:Int)<0:=zo;simp only[R8,am h1,Ml,NT hb];have h3:(a:Int)*2^b=((a*2^b:Nat):Int):=by simp
 rw[h3,rK k hr];rfl
theorem xq(l:List UInt8):strOfNums (l.map λb=>(b.toNat:Int))=bs l:=by
 simp only[strOfNums,bs,List.map_map];congr 1;rw[show((λn:Int=>Pd n.toNat)∘λb:UInt8=>(b.toNat:Int))=id from by funext b;simp];simp
def Ah{l:List UInt8}(hl:Sl (λb:UInt8=>[MR .u8 (b.toNat:Int)]) 1 w v l)(hs:P.underlying xt=some (.slice E))(he:P.underlying E=some (.int .u8))(a0:P.underlying yt=some .string)(hx:ev st x=some v):
  RV P N (.convert xt yt x) t st w (.string (bs l)):=
 λa' ha a2 p e g=>by
  obtain⟨a,c,rfl,hc,_,a1⟩:=hl.shape;simp only[execOp,ha.ev hx,L5]
  by_cases h0:l.length=0
  ·obtain rfl:l=[]:=M0 h0
   cases a with
   |none=>
    rw[run_convert_bytes_nil w xt E hs he _ _ yt a0];rfl
   |some q=>
    obtain⟨b,o,sp⟩:=q;have hq:=run_convert_bytes_string (P:=P) w xt yt E (some ⟨b,o,sp⟩) 0 c hs he a0;simp only[Np]at hq ⊢;rw[hq,run_bytesToString w ⟨b,o,sp⟩ 0 c [] (by simp[loadCells,loadCellsFrom])];rfl
  obtain⟨b,o,rfl⟩:=a1 h0
  have:=run_convert_bytes_arg (P:=P) w xt E hs he b o l.length c (l.map λb=>(b.toNat:Int)) (by simp) (λi hi=>by
   have h1:=hl.cells i hi 0 _ rfl;rw[ax]at h1;simp only[adr,Nx]at h1;rw[h1,Mo,Mw (by simpa using hi)]
   simp) yt a0
  rw[this,xq];rfl
end
section
open Go.RowKit
abbrev Fr(ro:Option Nat):Fence:={ Mj with round:=ro }
def fM(o:M8):Bool:=match o.op with | .defer _=>false|_=>true
def AR(h:fM o=true):∀c,o.op≠.defer c:=by
 intro c e;simp[fM,e]at h
def dn(ds:List MH)(Q:Mq->MJ->ln->Prop):Mq->MJ->ln->Prop:=λe a w=>Q e { a with defers:=a.defers++ds } w
def ku(a:MJ)(x:List MH):({ a with defers:=x }:MJ).eval=a.eval:=by
 funext t;cases t<;>rfl
def LL{a:MJ}{next:MJ->ln->Prop}{Q1:Mq->MJ->ln->Prop} 
  (hn:ro=none\/fM o=true) (a1:∀a w,¬Q1 .outgrown a w) (hq:∀c a w,Q1 (.panic c) a w->Q (.panic c) { a with defers:=a.defers++ds } w)
  (h:o.wp P a w (λa w=>next { a with defers:=a.defers++ds } w) Q1):o.wpIn (Fr ro) 0 P { a with defers:=a.defers++ds } w next Q:=by
 refine⟨λ_ _=>trivial,?_⟩;have hs:o.semAt (Fr ro).round ({ a with defers:=a.defers++ds }:MJ).eval=execOp a.eval o:=by
  rw[ku]
  rcases hn with rfl|hn
  ·rfl
  exact Oper.semAt_eq _ _ _ (AR hn)
 rw[hs];unfold MQ at h;generalize (execOp a.eval o).run P w=r at h ⊢
 cases r with
 |ok nx w'=>
  cases nx with
  |value v=>cases hd:o.dst<;>simpa[Ni,Pi,Ng,hd]using h
  |skip=>cases hd:o.dst<;>simpa[Ni,Pi,Ng,hd]using h
  |defer d=>cases hd:o.dst<;>simpa[Ni,Pi,Ng,hd]using h
  |enter f args=>
   refine⟨λhh=>by simp[Mj]at hh,?_⟩;apply Ro (callsIn_wide.2 h:CallsIn Mj _ P f args w' _)
   intro e w'' q
   cases e with
   |returned v=>cases hd:o.dst<;>simpa[Ng,hd]using q
   |panicked c=>exact hq _ _ _ q
   |outgrown=>obtain⟨a0,w0,q⟩:=q;exact absurd q (a1 _ _)
  |row row args=>
   refine⟨λhh=>by simp[Mj]at hh,λc cs _=>?_⟩;obtain⟨v,w'',q,s⟩:=h c cs;refine⟨v,w'',?_,stepsIn_wide.2 s⟩
   cases hd:o.dst<;>simpa[Ng,hd]using q
  |_=>exact h.elim
 |halt hl w'=>
  cases hl with
  |panic v=>exact hq _ _ _ h
  |_=>exact h.elim
def fw{ro:Option Nat}{P:L7}{ops:Array M8}{Q:Mq->MJ->ln->Prop}{ds:List MH}(l2:List M8)(a2:∀a w,¬Q .outgrown a w):
  ∀(l:List M8),(ro=none\/l.all fM=true)->∀a w,wpList P ops (dn ds (Exit.then (wpListIn (Fr ro) 0 P ops Q l2) Q)) l a w->wpListIn (Fr ro) 0 P ops Q (l++l2) { a with defers:=a.defers++ds } w
 |[],_,a,w,h=>h
 |o::rest,hn,a,w,h=>by
  have a4:ro=none\/fM o=true:=by rcases hn with h|h;exact .inl h;exact .inr (by simp at h;exact h.1)
  have a3:ro=none\/rest.all fM=true:=by rcases hn with h|h;exact .inl h;exact .inr (by simp at h ⊢;exact h.2)
  rw[Mz];unfold wpListIn;unfold wpList at h;have a1:∀a w,¬dn ds (Exit.then (wpListIn (Fr ro) 0 P ops Q l2) Q) .outgrown a w:=λa w q=>a2 _ _ q
  split at h
  ·rename_i hw;rw[ap hw]
   rcases h with h|⟨_,a0,w0,h⟩
   ·apply LL (Q1:=dn ds (Exit.then (wpListIn (Fr ro) 0 P ops Q l2) Q)) a4 a1 (λ_ _ _ q=>q);have hm:∀a w,wpList P ops (dn ds (Exit.then (wpListIn (Fr ro) 0 P ops Q l2) Q)) rest a w->wpListIn (Fr ro) 0 P ops Q (rest++l2) { a with defers:=a.defers++ds } w:=fw l2 a2 rest a3;unfold MQ at h ⊢;generalize (execOp a.eval o).run P w=r at h ⊢
    cases r with
    |ok nx w'=>
     cases nx with
     |value v=>exact hm _ _ h
     |skip=>exact hm _ _ h
     |defer d=>exact hm _ _ h
     |enter f args=>
      apply Mk h;intro e w'' q
      cases e with
      |returned v=>exact hm _ _ q
      |_=>exact q
     |row row args=>exact PU h λv w'' q=>hm _ _ q
     |_=>exact h
    |halt hl w'=>cases hl<;>exact h
   exact absurd h (a1 _ _)
  rename_i hw;rw[am hw];refine⟨λ_ _=>trivial,?_⟩;have:=fw l2 a2 rest a3 _ _ h
  cases hd:o.dst<;>simpa[Ng,hd]using this
def then_self(Q:Mq->MJ->ln->Prop):Exit.then (λa w=>Q .normal a w) Q=Q:=by
 funext e a w;cases e<;>rfl
def oe{ops:Array M8}(a0:∀a w,¬Q .outgrown a w) 
  (l:List M8) (hn:ro=none\/l.all fM=true) (a:MJ) (w:ln) (h:wpList P ops (dn ds Q) l a w):wpListIn (Fr ro) 0 P ops Q l { a with defers:=a.defers++ds } w:=by
 have:=fw (ro:=ro) (P:=P) (ops:=ops) (Q:=Q) (ds:=ds) [] a0 l hn a w (by
  rw[show Exit.then (wpListIn (Fr ro) 0 P ops Q []) Q=Q from then_self Q];exact h)
 rwa[MI]at this
def WI(ro:Option Nat)(P:L7)(N:Nat)(ds:List MH)(c:MX)(Q:Mq->MJ->ln->Prop)(st:St)(w:ln):Prop:=
 ∀a,Fits N a st->c.wpIn (Fr ro) 0 P Q { a with defers:=ds } w
def QI(N:Nat)(ds:List MH)(Q:Mq->MJ->ln->Prop)(e:Mq)(st:St)(w:ln):Prop:=
 ∀a,Fits N a st->Q e { a with defers:=ds } w
section
variable{P:L7}{N:Nat}{ro:Option Nat}{ds:List MH}{Q:Mq→MJ→ln→Prop}{st:St}{w:ln}
def tu{a:MJ}{st:St}(h:Fits N a st)(ds:List MH):({ a with defers:=a.defers++ds }:MJ) = { a with defers:=ds }:=by rw[h.defers];rfl
def QF.dn{e:Mq}(h:QI N ds Q e st w):QF N (dn ds Q) e st w:=λa ha=>by
 show Q e _ w;rw[tu ha];exact h a ha
def WI.region{id:Nat}{l:List M8}(hn:ro=none\/l.all fM=true)(a0:∀a w,¬Q .outgrown a w)(h:WL P N l.toArray (dn ds Q) l st w):WI ro P N ds (.region id l.toArray false) Q st w:=λa ha=>by
 rw[<-tu ha];exact wpIn_region_lit (oe a0 l hn a w (h a ha))
def WI.seq{x y:MX}(h:WI ro P N ds x (Exit.then (y.wpIn (Fr ro) 0 P Q) Q) st w):WI ro P N ds (.seq x y) Q st w:=λa ha=>wpIn_seq (h a ha)
def WI.skip(h:QI N ds Q .normal st w):WI ro P N ds .skip Q st w:=λa ha=>wpIn_skip (h a ha)
def WI.exit{id:Nat}(h:QI N ds Q (.exit id) st w):WI ro P N ds (.exit id) Q st w:=λa ha=>wpIn_exit (h a ha)
def WI.ret(h:QI N ds Q .ret st w):WI ro P N ds .ret Q st w:=λa ha=>wpIn_ret (h a ha)
def WI.block{id:Nat}{c:MX}(h:WI ro P N ds c (MD id Q) st w):WI ro P N ds (.block id c) Q st w:=λa ha=>wpIn_block (h a ha)
def Fits.evD{a:MJ}(ha:Fits N a st){x:L3}(hx:VL.ev st x=some v)(ds:List MH):({ a with defers:=ds }:MJ).eval x=v:=by rw[ku];exact ha.ev hx
def WI.cond{c:L3}{x y:MX}{b:Bool}(hc:ev st c=some (.bool b))(ht:b=true->WI ro P N ds x Q st w)(hf:b=false->WI ro P N ds y Q st w):WI ro P N ds (.cond c x y) Q st w:=
 λa ha=>wpIn_cond_split (ha.evD hc ds) (λe=>ht e a ha) (λe=>hf e a ha)
def nY{y:MX}(hc:ev st c=some (.bool b))(hb:b=true)(ht:WI ro P N ds x Q st w):WI ro P N ds (.cond c x y) Q st w:=by
 subst hb;exact λa ha=>wpIn_cond_true (ha.evD hc ds) (ht a ha)
def lU{y:MX}(hc:ev st c=some (.bool b))(hb:b=false)(hf:WI ro P N ds y Q st w):WI ro P N ds (.cond c x y) Q st w:=by
 subst hb;exact λa ha=>wpIn_cond_false (ha.evD hc ds) (hf a ha)
def bh{y:MX}(h:WI ro P N ds y Q st w):QI N ds (Exit.then (y.wpIn (Fr ro) 0 P Q) Q') .normal st w:=h
def pN(h:QI N ds Q (.exit id) st w):QI N ds (Exit.then K Q) (.exit id) st w:=h
def jE(h:QI N ds Q .ret st w):QI N ds (Exit.then K Q) .ret st w:=h
def dE(h:QI N ds Q .normal st w):QI N ds (MD id Q) .normal st w:=h
def gW(h:QI N ds Q .ret st w):QI N ds (MD id Q) .ret st w:=h
def yM(h:QI N ds Q .normal st w):QI N ds (MD id Q) (.exit id) st w:=λa ha=>by
 show if id=id then _ else _
 rw[ap rfl];exact h a ha
def nn{ops:Array M8}{p:String}{e:Array MV}{a2:Array L0}(a0:evs st args=some vs) 
  (h:QI N ({ target:=.fn (.func f) #[],args:=vs.toArray }::ds) Q .normal st w):WL P N ops (VL.dn ds Q) [⟨none,.defer ⟨.value (.func f),args.toArray,a2⟩,t,p,e,none⟩] st w:=by
 refine WL.step rfl λa ha=>?_
 unfold MQ;have a1:(execOp a.eval ⟨none,.defer ⟨.value (.func f),args.toArray,a2⟩,t,p,e,none⟩).run P w=.ok (.defer { target:=.fn (.func f) #[],args:=vs.toArray }) w:=by
  simp only[execOp,resolve,MA,L8];rw[ha.evs a0];simp[Mx]
 rw[a1];show Q .normal { (Ng _ none _)with defers:=_ } w;simp only[Ng,ha.defers];exact h a ha
end
def wpIn_loop_ghost{F:Fence}{a:MJ}{c:MX}(I:Nat->MJ->ln->Prop)(n0:Nat)(h₀:I n0 a w) 
  (a1:∀j a w,I j a w->c.wpIn F n P (Exit.then (λa' w'=>∃j',j'<j/\I j' a' w') Q) a w):(Code.loop c).wpIn F n P Q a w:=by
 intro b k cs a3 hb hr;have a2:∀j a w,I j a w->
   ∃e a' w',Q e a' w'/\ArrivesIn (Rk P F) P (lone (b.atR a (.code c :: .inLoop c::k)) cs w) b k cs e a' w':=by
  intro j
  induction j using Nat.strongRecOn with
  |_ j ih=>
   intro a w hI;obtain⟨e,a₁,w₁,hq,a0⟩:=a1 j a w hI b (.inLoop c::k) cs a3 hb hr
   cases e with
   |normal=>
    obtain⟨j',a4,hI₁⟩:=hq;obtain⟨e₂,a₂,w₂,hq₂,harr₂⟩:=ih j' a4 a₁ w₁ hI₁;exact⟨e₂,a₂,w₂,hq₂,.of_steps (Rj a0 (.one (fenced_calm hb hr rfl) stepR_inLoop)) harr₂⟩
   |exit id=>exact⟨_,a₁,w₁,hq,.pass (x:=.inLoop c) rfl (λ_ _=>.inl (by simp)) a0⟩
   |goto l=>exact⟨_,a₁,w₁,hq,.pass (x:=.inLoop c) rfl (λ_ _=>.inl (by simp)) a0⟩
   |ret=>exact⟨_,a₁,w₁,hq,.pass (x:=.inLoop c) rfl (λ_ _=>.inl (by simp)) a0⟩
   |panic ch=>exact⟨_,a₁,w₁,hq,.pass (x:=.inLoop c) rfl (λ_ _=>.inl (by simp)) a0⟩
   |outgrown=>exact⟨_,a₁,w₁,hq,.pass (x:=.inLoop c) rfl (λ_ _=>.inl (by simp)) a0⟩
 obtain⟨e,a',w',hq,a0⟩:=a2 _ a w h₀;exact⟨e,a',w',hq,.of_steps (.one (fenced_calm hb hr rfl) stepR_loop) a0⟩
section
variable{P:L7}{N:Nat}{ro:Option Nat}{ds:List MH}{Q:Mq→MJ→ln→Prop}{st:St}{w:ln}
def WI.loop{α:Type}{c:MX}(f:α->St)(g:α->ln)(I:α->Prop)(μ:α->Nat)(x0:α)(h0:I x0)(hc:Cov st (f x0))(hw:g x0=w) 
  (a0:∀x,I x->WI ro P N ds c (Exit.then (λa' w'=>∃y,I y/\μ y<μ x/\(∃a,a' = { a with defers:=ds }/\Fits N a (f y))/\g y=w') Q) (f x) (g x)):WI ro P N ds (.loop c) Q st w:=by
 intro a ha;apply wpIn_loop_ghost (λn a' w=>∃y,I y/\μ y=n/\(∃a,a' = { a with defers:=ds }/\Fits N a (f y))/\g y=w) (μ x0) ⟨x0,h0,rfl,⟨a,rfl,ha.cov hc⟩,hw⟩;rintro n _ w ⟨x,hI,rfl,⟨a,rfl,hf⟩,rfl⟩;apply wpIn_mono (a0 x hI a hf);intro e a' w' hq
 cases e with
 |normal=>obtain⟨y,h1,h2,h3,h4⟩:=hq;exact⟨μ y,h2,y,h1,rfl,h3,h4⟩
 |_=>exact hq
def QI.next{f:α->St}{g:α->ln}{I:α->Prop}{m:Nat}(y:α)(h1:I y)(h2:μ y<m)(h3:Cov st (f y))(h4:g y=w):
 QI N ds (Exit.then (λa' w'=>∃y,I y/\μ y<m/\(∃a,a' = { a with defers:=ds }/\Fits N a (f y))/\g y=w') Q) .normal st w:=λa ha=>⟨y,h1,h2,⟨a,rfl,ha.cov h3⟩,h4⟩
end
def Jp(R:ix->ln->Prop):Ending->ln->Prop
 |.returned v,w=>R v w
 |_,_=>False
def Leave(P:L7)(N:Nat)(fn:Qn)(R:ix->ln->Prop)(ds:List MH)(st:St)(w:ln):Prop:=
 ∀a,Fits N a st->LeavesInM Mj 0 P fn a.tmps (Jp R) ds .returning w
section
variable{P:L7}{N:Nat}{ds:List MH}{st:St}{w:ln}{fn:Qn}{R:ix→ln→Prop}
def mR{c:MX}{args:List ix}(hf:P.funcs[f]? = some fn)(hN:fn.ntmps=N)(hb:fn.body=some c)(a1:Pe args.length N=true) 
  (h:WI none P N [] c (bodyPostM Mj 0 P fn (Jp R)) (Fq 0 args) w):Ret P f args w R:=by
 have a0:=mI (N:=N) (args:=args) a1 (st:=Fq 0 args) λt v hv=>by simpa using(kR args 0 t v hv).2
 have hw:=h _ a0;apply Mk (callsIn_wide.1 (callsIn_of_wp_marks (F:=Mj) (n:=0) (P:=P) (f:=f) (fn:=fn) (c:=c) (args:=args.toArray) (w:=w) (R:=Jp R) hf hb trivial (by rw[hN];have:Fr none=Mj:=rfl;rw[this]at hw;simpa using hw)));intro e w' q
 cases e<;>exact q
def lX(h:Leave P N fn R ds st w):QI N ds (bodyPostM Mj 0 P fn (Jp R)) .ret st w:=λa ha=>h a ha
def Jm(h:Leave P N fn R ds st w):QI N ds (bodyPostM Mj 0 P fn (Jp R)) .normal st w:=λa ha=>h a ha
def Leave.nil(hr:∀a:MJ,Fits N a st->(results fn a.tmps).run P w=.ok v w)(h:R v w):Leave P N fn R [] st w:=λa ha=>⟨v,hr a ha,h⟩
def kH(hr:fn.results = #[])(h:R (.tuple #[]) w):Leave P N fn R [] st w:=Leave.nil (λa ha=>by simp[results,hr]) h
def Leave.mark{D:Nat}(hD:w.heap[D]? = some (.deferred (some [])))(h:Leave P N fn R ds st (w.putObj D (.deferred none))):Leave P N fn R ({ target:=.collected D,args:=#[] }::ds) st w:=
 λa ha=>⟨by simp,.inl ⟨D,_,rfl,run_takeDeferred hD,h a ha⟩⟩
def Leave.call(hf:∀(args:Array ix) (w:ln),(callFunc f args).run P w=.ok (.enter f args) w) 
  (hc:CallsDIn Mj 0 P f vs.toArray .returning w fun | .returned v,u,w'=>u=.returning/\R' v w'|_,_,_=>False) (h:∀v w',R' v w'->Leave P N fn R ds st w') :
  Leave P N fn R ({ target:=.fn (.func f) #[],args:=vs.toArray }::ds) st w:=
 λa ha=>⟨by simp,.inr ⟨λhh=>by simp[Mj]at hh,.func f,#[],f,vs.toArray,rfl,by simp[invoke,hf],λ_ _=>trivial,by
  apply PT hc;intro e u w' q
  cases e with
  |returned v=>obtain⟨rfl,q⟩:=q;exact h v w' q a ha
  |panicked c=>exact q.elim
  |outgrown=>exact q.elim⟩⟩
end
def WLI(ro:Option Nat)(P:L7)(N:Nat)(ds:List MH)(ops:Array M8)(Q:Mq->MJ->ln->Prop)(l:List M8)(st:St)(w:ln):Prop:=
 ∀a,Fits N a st->wpListIn (Fr ro) 0 P ops Q l { a with defers:=ds } w
section
variable{P:L7}{N:Nat}{ro:Option Nat}{ds:List MH}{Q:Mq→MJ→ln→Prop}{st:St}{w:ln}
def yB(i:Nat){l:List M8}(hn:ro=none\/(l.take i).all fM=true)(a0:∀a w,¬Q .outgrown a w) 
  (h:WL P N l.toArray (VL.dn ds (Exit.then (wpListIn (Fr ro) 0 P l.toArray Q (l.drop i)) Q)) (l.take i) st w):WI ro P N ds (.region id l.toArray false) Q st w:=λa ha=>by
 rw[<-tu ha];apply wpIn_region_lit;have:=fw (l.drop i) a0 (l.take i) hn a w (h a ha)
 rwa[MK]at this
def Jl{ops:Array M8}{l:List M8}(h:WLI ro P N ds ops Q l st w):QI N ds (Exit.then (wpListIn (Fr ro) 0 P ops Q l) Q') .normal st w:=h
def Ib{ops:Array M8}{l:List M8}(hn:ro=none\/l.all fM=true)(a0:∀a w,¬Q .outgrown a w)(h:WL P N ops (VL.dn ds Q) l st w):WLI ro P N ds ops Q l st w:=λa ha=>by
 rw[<-tu ha];exact oe a0 l hn a w (h a ha)
end
def Cm(O:Nat->Nat)(w:ln)(L:Nat)(I:(Nat->Nat)->ln->Prop)(Ix:MX->(Nat->Nat)->ln->Prop):Mq->MJ->ln->Prop
 |.normal,_,w'=>∃O',Upd (λj=>j≠0/\j≠L) O w O' w'/\I O' w'
 |.ret,_,w'=>∃O',Upd (λj=>j≠0/\j≠L) O w O' w'/\Ix .ret O' w'
 |.exit id,_,w'=>∃O',Upd (λj=>j≠0/\j≠L) O w O' w'/\Ix (.exit id) O' w'
 |_,_,_=>False
def Upd.putObj{O:Nat->Nat}{w:ln}{L b:Nat}(hL:L≠0)(h:O b=L)(o:Obj):Upd (λj=>j=L) O w O (w.putObj b o):=
 ⟨rfl,rfl,rfl,by simp,λk _ hn=>World.putObj_heap_other (λe=>hn (by rw[e];exact h)),λ_ _=>rfl,λ_ h=>.inl h,λe=>hL e.symm⟩
def jf{st:St}{L:Nat}(O':Nat->Nat)(h:Upd (λj=>j≠0/\j≠L) O w O' w')(h2:I O' w'):
 QI N [] (Cm O w L I Ix) .normal st w':=λ_ _=>⟨O',h,h2⟩
def yL{st:St}{L:Nat}(O':Nat->Nat)(h:Upd (λj=>j≠0/\j≠L) O w O' w')(h2:Ix .ret O' w'):
 QI N [] (Cm O w L I Ix) .ret st w':=λ_ _=>⟨O',h,h2⟩
structure Fixed(O:Nat->Nat)(w:ln)(q:Mr)(u:ix):Prop where
 cell:w.cell? q=some u
 free:O q.block=0
def Upd.zero(h:Upd S O w O' w'){b:Nat}(hb:b<w.heap.size)(h0:O b=0):O' b=0:=
 LY λa0=>by
  rcases h.new b a0 with h1|h1
  ·exact h1 h0
  omega
def Fixed.U(h:Fixed O w q u)(k:Upd S O w O' w'):Fixed O' w' q u:=by
 have a0:=Nh w q h.cell;refine⟨?_,k.zero a0 h.free⟩;have:=h.cell;unfold Qq at this ⊢;rw[k.blk q.block a0 (by rw[h.free];exact k.z)];exact this
end
end Go.VL
section
namespace Go.VL
open Go.Proofs.Tryz
open Go.RowKit
section
variable{P:L7}{N:Nat}{ops:Array M8}{Q:Mq→MJ→ln→Prop}{rest:List M8}{st:St}{w:ln}
variable{t:L0}{p:String}{e:Array MV}{d:Nat}{x y z:L3}
def Ai(h:(convert xt yt v).run P w=.ok u w)(hx:ev st x=some v):RV P N (.convert xt yt x) t st w u:=
 λa ha a0 p e g=>by simp only[execOp,ha.ev hx,L5,h,L2];rfl
def WL.ext{a1:Array L0}(hr:(callFunc f vs.toArray).run P w=.ok (.value v) w')(a0:evs st args=some vs)(hd:L1 d N=true) 
  (h:WL P N ops Q rest ((d,v)::st) w'):WL P N ops Q (⟨some d,.call ⟨.value (.func f),args.toArray,a1⟩,t,p,e,none⟩::rest) st w:=
 WL.val hd (λa ha=>by
  simp only[execOp,resolve,MA,L8];rw[ha.evs a0]
  simp[Mx,invoke,hr]) h
def RV.ext{a1:Array L0}(hr:(callFunc f vs.toArray).run P w=.ok (.value v) w)(a0:evs st args=some vs):
 RV P N (.call ⟨.value (.func f),args.toArray,a1⟩) t st w v:=λa ha a2 p e g=>by
 simp only[execOp,resolve,MA,L8];rw[ha.evs a0];simp[Mx,invoke,hr]
end
section
variable{P:L7}{N:Nat}{ops:Array M8}{Q:Mq→MJ→ln→Prop}{rest:List M8}{st:St}{w:ln}
variable{t:L0}{p:String}{e:Array MV}{d:Nat}{x y z:L3}
def lW{len:Nat}{i:Int}(hu:P.underlying T=some (.array len E))(hE:(Mp E).run P w=.ok sz w) 
  (hx:ev st x=some (.pointer (some q))) (hy:ev st y=some (.int k i)) (n:Nat) (hi:i=n) (hn:n<len):RV P N (.indexAddr T x y) t st w (.pointer (some (q.add (n*sz)))):=
 λa ha a0 p e g=>by
  subst hi;have h2:=zo;simp only[execOp,ha.ev hx,ha.ev hy];simp[P1,My,asIntOf,run_underlying hu,hE];intro h3;omega
def fT{len:Nat}{i:Int}(hu:P.underlying T=some (.array len E))(hE:(Mp E).run P w=.ok 1 w) 
  (hx:ev st x=some (.pointer (some q))) (hy:ev st y=some (.int k i)) (n:Nat) (hi:i=n) (hn:n<len):RV P N (.indexAddr T x y) t st w (.pointer (some (q.add n))):=by
 have h:=lW (N:=N) (t:=t) hu hE hx hy n hi hn
 rwa[Nx]at h
def bF{a:List UInt8}{c:UInt8}(hT:P.underlying xt=some .string)(hx:ev st x=some (.string (bs a)))(hy:ev st y=some (.int k m))(i:Nat)(hm:m=i)(hi:a[i]? = some c):RV P N (.index xt x y) t st w (.int .u8 (c.toNat:Int)):=by
 obtain⟨h1,h2⟩:=Mf.1 hi;have h:=bZ (P:=P) (N:=N) (t:=t) (w:=w) hT hx hy i hm h1;rw[aD h1,h2]at h;exact h
def fo{T E:L0}{n sz:Nat}{parts:List (Nat×L3)}{vs:List (Nat×ix)}{z:ix}{cells:Array ix}(hu:P.underlying T=some (.array n E))(hE:(Mp E).run P w=.ok sz w)(hz:(N4 T).run P w=.ok z w) 
  (hv:evp st parts=some vs) (hf:Nb (λi=>some (i*sz,sz)) z.cells vs=some cells):RV P N (.build T parts.toArray) t st w (.agg cells):=
 λa ha a0 p e g=>by
  have e1:(NZ (λx:Nat×L3=>match x with|(i,x)=>(i,a.eval x)) parts)=vs:=by rw[<-(ha.evp hv)]
  simp only[execOp,Qs,L8,e1,L5,hz,L2,run_underlying hu,hE,hf,Mb]
def yH(hu:P.underlying T=some (.array n E))(hE:(Mp E).run P w=.ok sz w)(_:n≠0)(hx:ev st x=some (.pointer (some q))):RV P N (.slice T x none none none) t st w (.slice (some q) n n):=
 λa ha a0 p e g=>by
  simp only[execOp,ha.ev hx,MB];simp[Instr.sliceAt,Instr.sliceBounds,My,run_underlying hu,hE,Mh]
def DR{a2:Array L0}{fs:List ix}{cs:Array ix}{R:ix->ln->Prop} 
  (hx:ev st x=some (.func (.func f) fs.toArray cs))
  (hf:∀(args:Array ix) (w:ln),(callFunc f args).run P w=.ok (.enter f args) w) (a0:evs st args=some vs) (hc:Ret P f (fs++vs++cs.toList) w R) (hd:L1 d N=true)
  (h:∀v w',R v w'->WL P N ops Q rest ((d,v)::st) w'):WL P N ops Q (⟨some d,.call ⟨.value x,args.toArray,a2⟩,t,p,e,none⟩::rest) st w:=by
 refine WL.step rfl λa ha=>?_
 unfold MQ;have a1:(execOp a.eval ⟨some d,.call ⟨.value x,args.toArray,a2⟩,t,p,e,none⟩).run P w=.ok (.enter f (fs++vs++cs.toList).toArray) w:=by
  simp only[execOp,resolve,L8,ha.evs a0,ha.ev hx];simp[Mx,Go.invoke,hf]
 rw[a1];exact Mk hc λe w' q=>by
  cases e with
  |returned v=>exact h v w' q _ (ha.put hd v)
  |panicked c=>exact q.elim
  |outgrown=>exact q.elim
end
section
variable{P:L7}{N:Nat}{st:St}{w:ln}{fn:Qn}{R:ix→ln→Prop}
def cH{t u o:QM}{v2:ix}(hr:fn.results = #[.cell t T,.tmp u,.tmp o])(hv:cV st t=some (.pointer (some q)))(a1:cV st u=some v')(a0:cV st o=some v2) 
  (hc:∀j u,us[j]? = some u->w.cell? (q.add j)=some u) (hT:(Q0 T).run P w=.ok true w) (hn:(Mp T).run P w=.ok us.length w) (h:R (.tuple #[.agg us.toArray,v',v2]) w):QF N (RP P fn R) .ret st w:=λa ha=>
 ⟨ha.defers,_,by have h1:=ha.get _ _ hv;have h2:=ha.get _ _ a1;have h3:=ha.get _ _ a0;simp[results,hr,L6,h1,h2,h3,asAddr,dW hc hT hn],h⟩
end
def Lk(P:L7)(f:MU)(args:List ix)(w:ln)(R:ix->ln->Prop):Prop:=
 CallsDIn Mj 0 P f args.toArray .returning w fun | .returned v,u,w'=>u=.returning/\R v w'|_,_,_=>False
def RetB.enter{P:L7}{N:Nat}{f:MU}{fn:Qn}{c:MX}{args:List ix}{w:ln}{R:ix->ln->Prop} 
  (hf:P.funcs[f]? = some fn) (hN:fn.ntmps=N) (hb:fn.body=some c) (a0:Pe args.length N=true)
  (h:WC P N c (RP P fn R) (Fq 0 args) w):Ret P f args w R/\Lk P f args w R:=by
 refine⟨Ret.enter hf hN hb a0 h,?_⟩
 have hw:=wpIn_wide (n:=0) |>.2 (h _ (mI (N:=N) (args:=args) a0 (st:=Fq 0 args) λt v hv=>by simpa using(kR args 0 t v hv).2))
 have h2:=callsDIn_of_wp (F:=Mj) (n:=0) (P:=P) (f:=f) (fn:=fn) (c:=c) (args:=args.toArray) (u:=.returning) (w:=w) (R:=Jp R) hf hb trivial (by
  rw[hN];apply wpIn_mono (by simpa using hw);intro e a w' q
  cases e<;>first|exact q|exact q.elim)
 apply PT h2;rintro e u w' ⟨rfl,q⟩
 cases e<;>first|exact⟨rfl,q⟩|exact q.elim
end Go.VL
namespace Go.VL
open Go.Proofs.Tryz
section
variable{P:L7}{N:Nat}{ops:Array M8}{Q:Mq→MJ→ln→Prop}{rest:List M8}{st:St}{w:ln}
variable{t:L0}{p:String}{e:Array MV}{d:Nat}{x y z:L3}
def bq{a0:Nat}(he:Elem P T E sz a0)(u:α)(hx:ev st x=some xv)(a2:xv.cells.toList=enc u)(a4:(enc u).length=sz)(hs:sz<=16777216)(hd:L1 d N=true) 
  (h:∀w',Sl enc sz w' (.slice (some ⟨w.heap.size,0,none⟩) 1 1) [u]->Ext w w'->WL P N ops Q rest ((d,.slice (some ⟨w.heap.size,0,none⟩) 1 1)::st) w'):WL P N ops Q (⟨some d,.buildSlice T 1 #[(0,x)],t,p,e,none⟩::rest) st w:=by
 obtain⟨a3,z,hi,hz,a1,a8,a7⟩:=he.parts;have a6:xv.cells.size=sz:=by rw[<-a4,<-a2];simp
 have a5:=he.pos;refine WL.val (v:=.slice (some ⟨w.heap.size,0,none⟩) 1 1) (w':=w.alloc (.cells xv.cells E)) hd (λa ha=>?_) (h _ ⟨⟨_,1,rfl,Me _,by simp,λ_=>⟨_,_,rfl⟩⟩,λi hi j c hc=>?_⟩ (Ext.alloc _ _))
 ·have:=run_buildSlice (P:=P) w T E 1 #[(0,xv)] xv.cells a3 z he.ht hi hz (by rw[a1];omega) (by rw[a1];omega) (by
   rw[a1]
   exact lF a6 (by simp))
  simp only[execOp,L8,M1,Mm,ha.ev hx,L5,this,L2];rfl
 obtain rfl:i=0:=by simpa using hi
 simp only[P7]at hc;simp only[adr,NJ,Pf];rw[show((⟨w.heap.size,0,none⟩:Mr).add j)=⟨w.heap.size,j,none⟩from by simp only[Mh];split<;>simp_all,cell_of_row _ _ j xv.cells E (0,0) (heap_alloc_new w _)];rw[<-a2]at hc;simpa using hc
end
end Go.VL
end
section
namespace Go.VL
open Go.Proofs.Tryz
def Free.weak(h:Free O' w v)(k:∀b,O' b=0->O b=0):Free O w v:=λa n c e hn=>⟨k _ (h a n c e hn).1,(h a n c e hn).2⟩
def Upd.z0(h:Upd S O w O' w')(b:Nat)(e:O' b=0):O b=0:=
 LY λa0=>by have:=h.tag b a0;omega
def Rng.bound(r:Rng B O w):∃T,0<T/\∀b,O b<T:=by
 have h:∀n,∃T,0<T/\∀b,b<n->O b<T:=λn=>by
  induction n with
  |zero=>exact⟨1,zo,λb hb=>zo⟩
  |succ n ih=>
   obtain⟨T,h0,hT⟩:=ih;refine⟨T+O n+1,zo,λb hb=>?_⟩
   by_cases e:b=n
   ·subst e;omega
   have:=hT b zo;omega
 obtain⟨T,h0,hT⟩:=h w.heap.size;refine⟨T,h0,λb=>?_⟩
 by_cases e:O b=0
 ·omega
 exact hT b (r.rng b e).2
def Upd.fgt(h:Upd S O w O2 w')(hS:∀b,S (O b)->S' (O b))(hz:¬S' 0):Upd S' O w O w':=
 ⟨h.os,h.tape,h.output,h.size,λb hb hn=>h.blk b hb λhs=>hn (hS b hs),λ_ _=>rfl,λ_ h=>.inl h,hz⟩
def BlkO.fgt{b:Nat}{cs:Array ix}(h:BlkO O2 w j b cs E)(ho:O b=i):BlkO O w i b cs E:=⟨h.blk,ho⟩
def RowT.freeT{T:Nat}(h:RowT enc E sz O' w' T v l)(a1:0<T)(hT:∀b,O b<T)(r:Rng B O' w')(u:Upd S O w O' w'):Free O w' v:=λa n c e _=>by
 have h1:=h.1.tag a.block (by subst e;rfl);have h2:=r.rng a.block (by rw[h1];omega);refine⟨LY λa0=>?_,h2.2⟩;have:=u.tag _ a0;have:=hT a.block;omega
end Go.VL
namespace Go.Proofs.YteolbhblkgjbhaaGreatDoor
open Go.Proofs.Tryz
open Go.VL Go.Proofs
inductive Nd where|mk(k c:Int)(kids:List Nd)
instance:Inhabited Nd:=⟨.mk 0 0 []⟩
def Nd.kind:Nd->Int | .mk k _ _=>k
def Nd.cls:Nd->Int | .mk _ c _=>c
def Nd.kids:Nd->List Nd | .mk _ _ l=>l
mutual
def nsz:Nd->Nat | .mk _ _ l=>dP l+1
def dP:List Nd->Nat | []=>0|t::r=>nsz t+dP r
end
def dy(t:Nd):0<nsz t:=by cases t;simp[nsz]
def bQ:∀(l:List Nd) (i:Nat),i<l.length->nsz (nth l i)<=dP l
 |t::r,0,_=>by rw[ar];simp[dP]
 |t::r,i+1,h=>by rw[aX];have:=bQ r i (by simpa using h);simp only[dP];omega
def kf:∀(a b:List Nd),dP (a++b)=dP a+dP b
 |[],b=>by simp[dP]
 |t::a,b=>by simp only[Mz,dP];rw[kf a b];omega
def cP(l:List Nd)(i:Nat):dP (l.take i)<=dP l:=by
 conv=>rhs;rw[<-MK i l]
 rw[kf];omega
def ee(l:List Nd)(i:Nat)(h:i<l.length):dP (l.take (i+1))=dP (l.take i)+nsz (nth l i):=by
 rw[bd h,kf];simp[dP]
def eQ:∀(l:List Nd),l.length<=dP l
 |[]=>by simp
 |t::r=>by have:=eQ r;have:=dy t;simp only[dP,MP];omega
abbrev N3:=Int×Int×ix
@[simp] def bu(x:N3):List ix:=[nI x.1,nI x.2.1,x.2.2]
inductive Nt(O:Nat->Nat)(w:ln):Nd->N3->Prop
 |mk {k c:Int} {kids:List Nd} {v:ix} {xs:List N3}:Sl bu 3 w v xs->Free O w v->kids.length=xs.length->(∀i,i<xs.length->Nt O w (nth kids i) (nth xs i))->Nt O w (.mk k c kids) (k,c,v)
def Nt.U{S:Nat->Prop}{O O':Nat->Nat}{w w':ln}{t:Nd}{x:N3}(h:Nt O w t x)(u:Upd S O w O' w'):Nt O' w' t x:=by
 induction h with
 |mk hs hf hl _ ih=>exact .mk (hs.U hf u) (hf.U u) hl ih
def Nt.drew{O:Nat->Nat}{w:ln}{t:Nd}{x:N3}(h:Nt O w t x):Nt O w.drew t x:=h.U (ae (S:=λ_=>False) (λh=>h) O (Ext.refl w).drew)
def Nt.ext{t:Nd}{x:N3}(h:Nt O w t x)(e:Ext w w'):Nt O w' t x:=h.U (ae (S:=λ_=>False) (λh=>h) O e)
def Nt.weak{O O':Nat->Nat}{w:ln}{t:Nd}{x:N3}(h:Nt O' w t x)(k:∀b,O' b=0->O b=0):Nt O w t x:=by
 induction h with
 |mk hs hf hl _ ih=>exact .mk hs (hf.weak k) hl ih
def Nt.low{t:Nd}{x:N3}(h:Nt O' w' t x)(u:Upd S O w O' w0):Nt O w' t x:=h.weak u.z0
def Nt.zero{t:Nd}{x:N3}(h:Nt O w t x):Nt (λ_=>0) w t x:=h.weak λ_ _=>rfl
def Nt.one{O:Nat->Nat}{w:ln}{t:Nd}{x:N3}(h:Nt O w t x):x.2.2.oneCell'=true:=by cases h with|mk hs=>exact hs.one
def Nt.leaf(O:Nat->Nat)(w:ln)(k c:Int):Nt O w (.mk k c []) (k,c,nS):=
 .mk (xs:=[]) ⟨⟨none,0,rfl,Me _,zo,λh=>absurd rfl h⟩,λi hi=>absurd hi (by simp)⟩ (λa n c e=>by cases e) rfl (λi hi=>absurd hi (by simp))
def Nt.kind{O:Nat->Nat}{w:ln}{t:Nd}{x:N3}(h:Nt O w t x):x.1=t.kind:=by cases h;rfl
def Nt.kids{O:Nat->Nat}{w:ln}{t:Nd}{x:N3}(h:Nt O w t x):∃xs:List N3,Sl bu 3 w x.2.2 xs/\Free O w x.2.2/\t.kids.length=xs.length/\∀i,i<xs.length->Nt O w (nth t.kids i) (nth xs i):=by
 cases h with|mk hs hf hl hk=>exact⟨_,hs,hf,hl,hk⟩
def ak(b:UInt8):Bool:=(decide (65<=b.toNat)&&decide (b.toNat<=90))||(decide (97<=b.toNat)&&decide (b.toNat<=122))
def az(r:List UInt8):List UInt8:=r.dropWhile (· == 32)
def namesL:List (List UInt8):=[[79,116,104,101,114],[67,82],[76,70],[78,101,119,108,105,110,101],[67,111,110,116,114,111,108],[69,120,116,101,110,100],[90,87,74],[70,111,114,109,97,116],[82,101,103,105,111,110,97,108],[80,114,101,112,101,110,100],[83,112,97,99,105,110,103],[76],[86],[84],[76,86],[76,86,84],[80,105,99,116],[85,112,112,101,114],[76,111,119,101,114],[76,101,116,116,101,114],[75,97,116,97,107,97,110,97],[73,100,101,111,103,114,97,112,104],[68,105,103,105,116],[77,105,100,76,101,116,116,101,114],[77,105,100,78,117,109],[68,111,116],[65,112,111,115,116,114,111,112,104,101],[81,117,111,116,101],[74,111,105,110,101,114],[83,112,97,99,101],[84,101,114,109],[79,112,101,110],[67,108,111,115,101],[72,121,112,104,101,110],[71,108,117,101],[71,97,112]]
def my(s:List UInt8):Option Nat:=namesL.findIdx? (· == s)
def xV(c:Int):List UInt8:=if 0<=c/\c<36 then nth namesL c.toNat else []
inductive PR where
 |ok (t:Nd) (r:List UInt8)
 |bad (p:Nat) (e:Int)
def ew(kind:Int)(r0:List UInt8):PR:=
 if ak ((az r0).headD 0)=true then
  match my ((az r0).takeWhile ak)with
  |none=>.bad (az r0).length 5
  |some c=>.ok (.mk kind (c:Nat) []) ((az r0).dropWhile ak)
 else .bad (az r0).length 4
def J4(r:List UInt8):PR:=if r.takeWhile ak=[97,110,121]then .ok (.mk 1 0 []) (r.dropWhile ak)else ew 0 r
def cS(al:Option (List UInt8->PR))(r:List UInt8):PR:=
 match al with
 |none=>.bad r.length 6
 |some f=>
  match f r.tail with
  |.bad p e=>.bad p e
  |.ok t r2=>if(az r2).headD 0=41 then .ok t (az r2).tail else .bad (az r2).length 4
def Lh(al:Option (List UInt8->PR))(r0:List UInt8):PR:=
 if ak ((az r0).headD 0)=true then J4 (az r0)
 else if(az r0).headD 0=126 then ew 2 (az r0).tail
 else if(az r0).headD 0=94 then .ok (.mk 3 0 []) (az r0).tail
 else if(az r0).headD 0=40 then cS al (az r0)
 else .bad (az r0).length 4
def opM(c:UInt8):Option Nat:=if c=42 then some 0 else if c=43 then some 1 else if c=63 then some 2 else none
def GW(al:Option (List UInt8->PR))(r0:List UInt8):PR:=
 match Lh al r0 with
 |.bad p e=>.bad p e
 |.ok t r1=>
  match opM ((az r1).headD 0)with
  |some k=>.ok (.mk (6+(k:Nat)) 0 [t]) (az r1).tail
  |none=>.ok t (az r1)
def fS(c:UInt8):Bool:=ak c||decide (c=126)||decide (c=94)||decide (c=40)
def oneM(k:Int)(l:List Nd):Nd:=if l.length=1 then nth l 0 else .mk k 0 l
def B7(al:Option (List UInt8->PR)):Nat->List Nd->List UInt8->PR
 |0,acc,r=>.ok (oneM 4 acc) r
 |n+1,acc,r=>
  if fS ((az r).headD 0)=true then
   match GW al (az r)with
   |.bad p e=>.bad p e
   |.ok t r2=>B7 al n (acc++[t]) r2
  else .ok (oneM 4 acc) (az r)
def Lr(al:Option (List UInt8->PR))(r:List UInt8):PR:=
 match GW al r with
 |.bad p e=>.bad p e
 |.ok t r1=>B7 al (r1.length+1) [t] r1
def Ad(al:Option (List UInt8->PR)):Nat->List Nd->List UInt8->PR
 |0,acc,r=>.ok (oneM 5 acc) r
 |n+1,acc,r=>
  if(az r).headD 0=124 then
   match Lr al (az r).tail with
   |.bad p e=>.bad p e
   |.ok t r2=>Ad al n (acc++[t]) r2
  else .ok (oneM 5 acc) (az r)
def Kj(al:Option (List UInt8->PR))(r:List UInt8):PR:=
 match Lr al r with
 |.bad p e=>.bad p e
 |.ok t r1=>Ad al (r1.length+1) [t] r1
def Ki:Nat->List UInt8->PR
 |0=>Kj none
 |d+1=>Kj (some (Ki d))
inductive XR where
 |ok (t:Nd)
 |bad (p:Nat) (e:Int)
def K7(l:List UInt8):XR:=
 if 4096<l.length then .bad 0 3 else
 match Ki 20 l with
 |.bad p e=>.bad (l.length-p) e
 |.ok t r=>if(az r).length≠0 then .bad (l.length-(az r).length) 4 else if 2000<nsz t then .bad 0 3 else .ok t
def Good(r:List UInt8):PR->Prop
 |.ok _ r'=>r' <:+ r/\r'.length<r.length
 |.bad p e=>p<=r.length/\e≠0
def bC(r:List UInt8):az r <:+ r:=Nu _
def dS(r:List UInt8):(az r).length<=r.length:=(bC r).length_le
def cO(h:r.headD 0≠0):r.tail <:+ r/\r.tail.length+1=r.length:=by
 cases r with
 |nil=>simp at h
 |cons a r=>exact⟨PW a r,rfl⟩
def Good.mono{r':List UInt8}{x:PR}(h:Good r' x)(k:r' <:+ r):Good r x:=by
 have hl:=k.length_le
 cases x with
 |ok t q=>exact⟨h.1.J k,by have:=h.2;omega⟩
 |bad p e=>exact⟨MF h.1 hl,h.2⟩
def kj(h:ak (r.headD 0)=true):r.dropWhile ak <:+ r/\(r.dropWhile ak).length<r.length:=by
 cases r with
 |nil=>simp[ak]at h
 |cons a r=>
  simp only[List.headD_cons]at h;rw[List.dropWhile_cons_of_pos h];exact⟨(Nu _).J (PW a r),by have:=(Nu (l:=r) ak).length_le;simp;omega⟩
def px(k:Int)(r:List UInt8):Good r (ew k r):=by
 refine Good.mono ?_ (bC r);unfold ew
 split
 ·rename_i h
  split
  ·exact⟨Me _,zd⟩
  exact kj h
 exact⟨Me _,zd⟩
def nJ(al:Option (List UInt8->PR)):Prop:=∀f,al=some f->∀r,Good r (f r)
def qo{al:Option (List UInt8->PR)}(ha:nJ al)(r:List UInt8)(h:r.headD 0≠0):Good r (cS al r):=by
 obtain⟨h1,h2⟩:=cO h;unfold cS
 cases al with
 |none=>exact⟨Me _,zd⟩
 |some f=>
  have h3:=(ha f rfl r.tail).mono h1;have h4:=ha f rfl r.tail;dsimp only
  cases hf:f r.tail with
  |bad p e=>rw[hf]at h3;exact h3
  |ok t r2=>
   rw[hf]at h3 h4;dsimp only
   split
   ·rename_i hc;obtain⟨g1,g2⟩:=cO (r:=az r2) (by rw[hc];decide);exact⟨(g1.J (bC r2)).J h3.1,by have:=dS r2;have:=h3.2;omega⟩
   exact⟨by have:=dS r2;have:=h3.2;omega,zd⟩
def GU{c:UInt8}{k:Nat}(h:opM c=some k):c≠0:=λe=>by subst e;simp[opM]at h
def Ky(r:List UInt8):PR->Prop
 |.ok _ r'=>r' <:+ r
 |.bad p e=>p<=r.length/\e≠0
end Go.Proofs.YteolbhblkgjbhaaGreatDoor
end
namespace Go.Proofs.YteolbhblkgjbhaaGreatDoor
open Go.Proofs.Tryz
section
open Go.VL Go.Proofs
set_option maxRecDepth 10000
abbrev Lf:=Int×Int×Nat
abbrev Kt:=List Nat×List Nat×Nat
structure Gr where
 ls:List Lf
 ks:List Kt
def Gr.fr(g:Gr)(k:Nat):List Nat:=(nth g.ks k).1
def Gr.lv(g:Gr)(k:Nat):List Nat:=(nth g.ks k).2.1
def Gr.en(g:Gr)(k:Nat):Nat:=(nth g.ks k).2.2
def Gr.knot(g:Gr):Gr:=⟨g.ls,g.ks++[([],[],0)]⟩
def Gr.free(g:Gr)(a b:Nat):Gr:=⟨g.ls,g.ks.set a (g.fr a++[b],g.lv a,g.en a)⟩
def Gr.leaf(g:Gr)(k c:Int)(a b:Nat):Gr:=⟨g.ls++[(k,c,b)],g.ks.set a (g.fr a,g.lv a++[g.ls.length+1],g.en a)⟩
def de(k c m:Int):Bool:=
 if k=0 then(decide (0<=m)&&decide (m<36))&&(m==c)else if k=1 then decide (0<=m)&&decide (m<36)else if k=2 then(decide (0<=m)&&decide (m<36))&&(m != c)else m==36
def layO(k:Int)(g:Gr)(i:Nat):Gr:=if k=8 then(if k=7 then g else g.free i (i+1))else(if k=7 then g else g.free i (i+1)).free (i+1) i
mutual
def fO:Nd->Nat->Nat->Gr->Gr
 |.mk k c l,a,b,g=>
  if k=4 then nT l a b g
  else if k=5 then nV l a b g
  else if k=6\/k=7\/k=8 then layO k (nU l g.ks.length (g.ks.length+1) ((g.knot.knot.free a g.ks.length).free (g.ks.length+1) b)) g.ks.length
  else if k=9 then g.free a b
  else g.leaf k c a b
def nT:List Nd->Nat->Nat->Gr->Gr
 |[],_,_,g=>g
 |t::r,a,b,g=>if r.isEmpty then fO t a b g else nT r g.ks.length b (fO t a g.ks.length g.knot)
def nV:List Nd->Nat->Nat->Gr->Gr
 |[],_,_,g=>g
 |t::r,a,b,g=>nV r a b (fO t a b g)
def nU:List Nd->Nat->Nat->Gr->Gr
 |[],_,_,g=>g
 |t::_,a,b,g=>fO t a b g
end
inductive StarP(L:List Int->Prop):List Int->Prop
 |nil:StarP L []
 |cons {u v:List Int}:L u->StarP L v->StarP L (u++v)
mutual
/-- Which words an expression matches. -/
def Lg:Nd->List Int->Prop
 |.mk k c l=>λw=>
  if k=4 then LgS l w
  else if k=5 then LgA l w
  else if k=6 then StarP (LgH l) w
  else if k=7 then∃u v,w=u++v/\LgH l u/\StarP (LgH l) v
  else if k=8 then w=[]\/LgH l w
  else if k=9 then w=[]
  else∃m,w=[m]/\de k c m=true
def LgS:List Nd->List Int->Prop
 |[]=>λw=>w=[]
 |t::r=>λw=>∃u v,w=u++v/\Lg t u/\LgS r v
def LgA:List Nd->List Int->Prop
 |[]=>λ_=>False
 |t::r=>λw=>Lg t w\/LgA r w
def LgH:List Nd->List Int->Prop
 |[]=>λ_=>False
 |t::_=>Lg t
end
mutual
/-- Expressions whose parts are as many as they must. -/
def fZ:Nd->Bool
 |.mk k _ l=>(if k=4 then !l.isEmpty else if k=6\/k=7\/k=8 then decide (l.length=1)else true)&&cz l
def cz:List Nd->Bool
 |[]=>true
 |t::r=>fZ t&&cz r
end
inductive Pt(g:Gr):Nat->List Int->Nat->Prop
 |nil (k:Nat):Pt g k [] k
 |eps {k k' q:Nat} {w:List Int}:k<g.ks.length->k'∈g.fr k->Pt g k' w q->Pt g k w q
 |leaf {k j q:Nat} {m:Int} {w:List Int}:k<g.ks.length->j<g.ls.length->j+1∈g.lv k->de (nth g.ls j).1 (nth g.ls j).2.1 m=true->Pt g (nth g.ls j).2.2 w q->Pt g k (m::w) q
def Pt.J{g:Gr}{b c:Nat}{u v:List Int}(h:Pt g a u b)(k:Pt g b v c):Pt g a (u++v) c:=by
 induction h with
 |nil=>exact k
 |eps h1 h2 _ ih=>exact .eps h1 h2 (ih k)
 |leaf h1 h2 h3 h4 _ ih=>exact .leaf h1 h2 h3 h4 (ih k)
structure Sub(g g':Gr):Prop where
 len:g.ks.length<=g'.ks.length
 ls:∃r,g'.ls=g.ls++r
 fr:∀k j,k<g.ks.length->j∈g.fr k->j∈g'.fr k
 lv:∀k j,k<g.ks.length->j∈g.lv k->j∈g'.lv k
def Sub.refl(g:Gr):Sub g g:=⟨Me _,⟨[],by simp⟩,λ_ _ _ h=>h,λ_ _ _ h=>h⟩
def Sub.J{a b c:Gr}(h:Sub a b)(k:Sub b c):Sub a c:=by
 obtain⟨r,hr⟩:=h.ls;obtain⟨s,hs⟩:=k.ls;exact⟨MF h.len k.len,⟨r++s,by rw[hs,hr,Mi]⟩,λq j hq hj=>k.fr q j (M9 hq h.len) (h.fr q j hq hj),λq j hq hj=>k.lv q j (M9 hq h.len) (h.lv q j hq hj)⟩
def Sub.nthL{g g':Gr}(h:Sub g g')(hj:j<g.ls.length):j<g'.ls.length/\nth g'.ls j=nth g.ls j:=by
 obtain⟨r,hr⟩:=h.ls;rw[hr,aC,ap hj];exact⟨by simp;omega,rfl⟩
def Pt.mono{g g':Gr}(h:Sub g g'){b:Nat}{u:List Int}(p:Pt g a u b):Pt g' a u b:=by
 induction p with
 |nil=>exact .nil _
 |eps h1 h2 _ ih=>exact .eps (M9 h1 h.len) (h.fr _ _ h1 h2) ih
 |leaf h1 h2 h3 h4 _ ih=>
  obtain⟨e1,e2⟩:=h.nthL h2;exact .leaf (M9 h1 h.len) e1 (h.lv _ _ h1 h3) (by rw[e2];exact h4) (by rw[e2];exact ih)
def aS(g:Gr):g.knot.ks.length=g.ks.length+1:=by simp[Gr.knot]
def bj(g:Gr)(a b:Nat):(g.free a b).ks.length=g.ks.length:=by simp[Gr.free]
def gL(g:Gr)(k c:Int)(a b:Nat):(g.leaf k c a b).ks.length=g.ks.length:=by simp[Gr.leaf]
def sN(g:Gr)(k:Nat):nth g.knot.ks k=if k<g.ks.length then nth g.ks k else([],[],0):=by
 unfold Gr.knot;rw[aC]
 split
 ·rfl
 by_cases h:k-g.ks.length=0
 ·rw[h,ar]
 rw[ff (by simp;omega)];rfl
def oW(g:Gr)(k:Nat):g.knot.fr k=if k<g.ks.length then g.fr k else []:=by unfold Gr.fr;rw[sN];split<;>rfl
def oU(g:Gr)(k:Nat):g.knot.lv k=if k<g.ks.length then g.lv k else []:=by unfold Gr.lv;rw[sN];split<;>rfl
def eh{g:Gr}{b:Nat}(ha:a<g.ks.length)(k:Nat):(g.free a b).fr k=if k=a then g.fr a++[b]else g.fr k:=by
 unfold Gr.free Gr.fr;rw[bf ha];split<;>rfl
def pc{g:Gr}{b:Nat}(ha:a<g.ks.length)(k:Nat):(g.free a b).lv k=g.lv k:=by
 unfold Gr.free Gr.lv;rw[bf ha];split
 ·rename_i h;rw[h]
 rfl
def oO{g:Gr}{x c:Int}{b:Nat}(ha:a<g.ks.length)(k:Nat):(g.leaf x c a b).fr k=g.fr k:=by
 unfold Gr.leaf Gr.fr;rw[bf ha];split
 ·rename_i h;rw[h]
 rfl
def mE{g:Gr}{x c:Int}{b:Nat}(ha:a<g.ks.length)(k:Nat):(g.leaf x c a b).lv k=if k=a then g.lv a++[g.ls.length+1]else g.lv k:=by
 unfold Gr.leaf Gr.lv;rw[bf ha];split<;>rfl
def ko(g:Gr)(x c:Int)(a b:Nat):(g.leaf x c a b).ls=g.ls++[(x,c,b)]:=rfl
def lA(g:Gr):Sub g g.knot:=⟨by rw[aS];omega,⟨[],by simp[Gr.knot]⟩,λk j hk h=>by rw[oW,ap hk];exact h,λk j hk h=>by rw[oU,ap hk];exact h⟩
def fG{g:Gr}{b:Nat}(ha:a<g.ks.length):Sub g (g.free a b):=⟨by rw[bj];omega,⟨[],by simp[Gr.free]⟩,λk j _ h=>by
 rw[eh ha];split
 ·rename_i e;subst e;exact Pj _ h
 exact h,λk j _ h=>by rw[pc ha];exact h⟩
def Ge{g:Gr}{x c:Int}{b:Nat}(ha:a<g.ks.length):Sub g (g.leaf x c a b):=⟨by rw[gL];omega,⟨_,rfl⟩,λk j _ h=>by rw[oO ha];exact h,λk j _ h=>by
 rw[mE ha];split
 ·rename_i e;subst e;exact Pj _ h
 exact h⟩
structure WF(g:Gr):Prop where
 fr:∀k j,k<g.ks.length->j∈g.fr k->j<g.ks.length
 lv:∀k j,k<g.ks.length->j∈g.lv k->1<=j/\j<=g.ls.length
 ls:∀j,j<g.ls.length->(nth g.ls j).2.2<g.ks.length
def WF.knot{g:Gr}(h:WF g):WF g.knot:=by
 have hl:=aS g;refine⟨λk j hk hj=>?_,λk j hk hj=>?_,λj hj=>?_⟩
 ·rw[oW]at hj
  split at hj
  ·rename_i e;have:=h.fr k j e hj;omega
  simp at hj
 ·rw[oU]at hj
  split at hj
  ·rename_i e;exact h.lv k j e hj
  simp at hj
 have:=h.ls j hj;show(nth g.ls j).2.2<_;omega
def WF.free{g:Gr}(h:WF g){a b:Nat}(ha:a<g.ks.length)(hb:b<g.ks.length):WF (g.free a b):=by
 have hl:=bj g a b;refine⟨λk j hk hj=>?_,λk j hk hj=>?_,λj hj=>?_⟩
 ·rw[hl]at hk ⊢;rw[eh ha]at hj
  split at hj
  ·rcases Md.1 hj with hj|hj
   ·exact h.fr a j ha hj
   rw[L9.1 hj];exact hb
  exact h.fr k j hk hj
 ·rw[hl]at hk;rw[pc ha]at hj;exact h.lv k j hk hj
 rw[hl];exact h.ls j hj
def WF.leaf{g:Gr}(h:WF g){x c:Int}{a b:Nat}(ha:a<g.ks.length)(hb:b<g.ks.length):WF (g.leaf x c a b):=by
 have hl:=gL g x c a b;have h2:(g.leaf x c a b).ls.length=g.ls.length+1:=by simp[Gr.leaf]
 refine⟨λk j hk hj=>?_,λk j hk hj=>?_,λj hj=>?_⟩
 ·rw[hl]at hk ⊢;rw[oO ha]at hj;exact h.fr k j hk hj
 ·rw[hl]at hk;rw[h2];rw[mE ha]at hj
  split at hj
  ·rcases Md.1 hj with hj|hj
   ·have:=h.lv a j ha hj;omega
   rw[L9.1 hj];omega
  have:=h.lv k j hk hj;omega
 rw[hl,ko,aC]
 split
 ·rename_i e;exact h.ls j e
 rw[h2]at hj;rw[show j-g.ls.length=0 from by omega,ar];exact hb
def zJ(k:Int)(g:Gr)(i:Nat):(layO k g i).ks.length=g.ks.length:=by
 unfold layO;split<;>split<;>simp only[bj]
def IZ{k:Int}{g:Gr}(h:WF g)(hi:i+1<g.ks.length):WF (layO k g i):=by
 unfold layO;split<;>split
 ·exact h
 ·exact h.free zo hi
 ·exact h.free hi zo
 exact(h.free zo hi).free (by rw[bj];exact hi) (by rw[bj];omega)
def zI{k:Int}{g:Gr}(hi:i+1<g.ks.length):Sub g (layO k g i):=by
 unfold layO;split<;>split
 ·exact Sub.refl _
 ·exact fG zo
 ·exact fG hi
 exact(fG zo).J (fG (by rw[bj];exact hi))
def bT(g:Gr)(a b:Nat):Gr:=(g.knot.knot.free a g.ks.length).free (g.ks.length+1) b
def eC(g:Gr)(a b:Nat):(bT g a b).ks.length=g.ks.length+2:=by unfold bT;rw[bj,bj,aS,aS]
def fe{g:Gr}(h:WF g){b:Nat}(ha:a<g.ks.length)(hb:b<g.ks.length):WF (bT g a b):=by
 have h2:g.knot.knot.ks.length=g.ks.length+2:=by rw[aS,aS]
 exact(h.knot.knot.free zo zo).free (by rw[bj];omega) (by rw[bj];omega)
def AP{g:Gr}{b:Nat}(ha:a<g.ks.length):Sub g (bT g a b):=by
 have h2:g.knot.knot.ks.length=g.ks.length+2:=by rw[aS,aS]
 exact(((lA g).J (lA _)).J (fG zo)).J (fG (by rw[bj];omega))
mutual
def cQ:∀(t:Nd) (a b:Nat) (g:Gr),WF g->a<g.ks.length->b<g.ks.length->WF (fO t a b g)/\Sub g (fO t a b g)
 |.mk k c l,a,b,g,h,ha,hb=>by
  unfold fO
  split
  ·exact yg l a b g h ha hb
  split
  ·exact yi l a b g h ha hb
  split
  ·have hl:=eC g a b
   obtain⟨h1,h2⟩:=mF l g.ks.length (g.ks.length+1) (bT g a b) (fe h ha hb) zo zo
   have:=h2.len
   show WF (layO k (nU l g.ks.length (g.ks.length+1) (bT g a b)) g.ks.length)/\Sub g (layO k (nU l g.ks.length (g.ks.length+1) (bT g a b)) g.ks.length)
   exact⟨IZ h1 zo,((AP ha).J h2).J (zI zo)⟩
  split
  ·exact⟨h.free ha hb,fG ha⟩
  exact⟨h.leaf ha hb,Ge ha⟩
def yg:∀(l:List Nd) (a b:Nat) (g:Gr),WF g->a<g.ks.length->b<g.ks.length->WF (nT l a b g)/\Sub g (nT l a b g)
 |[],_,_,g,h,_,_=>⟨h,Sub.refl g⟩
 |t::r,a,b,g,h,ha,hb=>by
  unfold nT
  split
  ·exact cQ t a b g h ha hb
  have hl:=aS g
  obtain⟨h1,h2⟩:=cQ t a g.ks.length g.knot h.knot zo zo
  have:=h2.len
  obtain⟨h3,h4⟩:=yg r g.ks.length b _ h1 zo zo
  exact⟨h3,((lA g).J h2).J h4⟩
def yi:∀(l:List Nd) (a b:Nat) (g:Gr),WF g->a<g.ks.length->b<g.ks.length->WF (nV l a b g)/\Sub g (nV l a b g)
 |[],_,_,g,h,_,_=>⟨h,Sub.refl g⟩
 |t::r,a,b,g,h,ha,hb=>by
  unfold nV
  obtain⟨h1,h2⟩:=cQ t a b g h ha hb
  have:=h2.len
  obtain⟨h3,h4⟩:=yi r a b _ h1 zo zo
  exact⟨h3,h2.J h4⟩
def mF:∀(l:List Nd) (a b:Nat) (g:Gr),WF g->a<g.ks.length->b<g.ks.length->WF (nU l a b g)/\Sub g (nU l a b g)
 |[],_,_,g,h,_,_=>⟨h,Sub.refl g⟩
 |t::_,a,b,g,h,ha,hb=>by
  unfold nU
  exact cQ t a b g h ha hb
end
def oj{g:Gr}{L:List Int->Prop}{i o:Nat}(hL:∀u,L u->Pt g i u o)(hb:Pt g o [] i):∀ {v:List Int},StarP L v->Pt g o v o
 |_,.nil=>.nil _
 |_,.cons h1 h2=>(hb.J (hL _ h1)).J (oj hL hb h2)
mutual
def ly:∀(t:Nd) (a b:Nat) (g:Gr),WF g->a<g.ks.length->b<g.ks.length->fZ t=true->∀w,Lg t w->Pt (fO t a b g) a w b
 |.mk k c l,a,b,g,h,ha,hb,hs,w,hw=>by
  unfold fZ at hs
  simp only[M4]at hs
  obtain⟨hs1,hs2⟩:=hs
  unfold Lg at hw
  unfold fO
  by_cases h4:k=4
  ·rw[ap h4]at hw hs1 ⊢
   exact vm l a b g h ha hb hs2 (by intro e;rw[e]at hs1;simp at hs1) w hw
  rw[am h4]at hw hs1 ⊢
  by_cases h5:k=5
  ·rw[ap h5]at hw ⊢
   exact vp l a b g h ha hb hs2 w hw
  rw[am h5]at hw ⊢
  by_cases h678:k=6\/k=7\/k=8
  ·rw[ap h678]at hs1 ⊢
   have hl:=eC g a b
   have hwf:=fe h ha hb
   obtain⟨h1,h2⟩:=mF l g.ks.length (g.ks.length+1) (bT g a b) hwf zo zo
   have hlen:=h2.len
   have hkid:=CZ l g.ks.length (g.ks.length+1) (bT g a b) hwf zo zo hs2
   have hk2:g.knot.knot.ks.length=g.ks.length+2:=by rw[aS,aS]
   show Pt (layO k (nU l g.ks.length (g.ks.length+1) (bT g a b)) g.ks.length) a w b
   have ein:Pt (bT g a b) a [] g.ks.length:=.eps zo (by
    unfold bT
    rw[eh (by rw[bj];omega)]
    rw[am zo,eh zo,ap rfl];simp) (.nil _)
   have eout:Pt (bT g a b) (g.ks.length+1) [] b:=.eps zo (by
    unfold bT
    rw[eh (by rw[bj];omega),ap rfl];simp) (.nil _)
   generalize bT g a b=g1 at *
   generalize nU l g.ks.length (g.ks.length+1) g1=g2 at *
   generalize g.ks.length=i at *
   have hsub:Sub g2 (layO k g2 i):=zI zo
   have e1:=(ein.mono h2).mono hsub
   have e2:=(eout.mono h2).mono hsub
   have ek:∀u,LgH l u->Pt (layO k g2 i) i u (i+1):=λu hu=>(hkid u hu).mono hsub
   have eskip:k≠7->Pt (layO k g2 i) i [] (i+1):=λhk=>.eps (by rw[zJ];omega) (by
    unfold layO
    rw[am hk]
    split
    ·rw[eh zo,ap rfl];simp
    rw[eh (by rw[bj];omega),am zo,eh zo,ap rfl];simp) (.nil _)
   have eback:k≠8->Pt (layO k g2 i) (i+1) [] i:=λhk=>.eps (by rw[zJ];omega) (by
    unfold layO
    rw[am hk,eh (by split;omega;rw[bj];omega),ap rfl];simp) (.nil _)
   by_cases h6:k=6
   ·rw[ap h6]at hw
    have:=((e1.J (eskip zo)).J (oj ek (eback zo) hw)).J e2
    simpa using this
   rw[am h6]at hw
   by_cases h7:k=7
   ·rw[ap h7]at hw
    obtain⟨u,v,rfl,hu,hv⟩:=hw
    have:=((e1.J (ek u hu)).J (oj ek (eback zo) hv)).J e2
    simpa using this
   rw[am h7,ap (show k=8 from by omega)]at hw
   rcases hw with rfl|hw
   ·exact(e1.J (eskip h7)).J e2
   have:=(e1.J (ek w hw)).J e2
   simpa using this
  rw[am zo,am zo,am zo]at hw
  rw[am h678]
  by_cases h9:k=9
  ·rw[ap h9]at hw ⊢
   subst hw
   exact .eps (by rw[bj];exact ha) (by rw[eh ha,ap rfl];simp) (.nil _)
  rw[am h9]at hw ⊢
  obtain⟨m,rfl,hm⟩:=hw
  have hn:nth (g.leaf k c a b).ls g.ls.length=(k,c,b):=by rw[ko,aC,am zo,Qw,ar]
  refine .leaf (j:=g.ls.length) (by rw[gL];exact ha) (by rw[ko];simp) (by rw[mE ha,ap rfl];simp) (by rw[hn];exact hm) (by rw[hn];exact .nil _)
def vm:∀(l:List Nd) (a b:Nat) (g:Gr),WF g->a<g.ks.length->b<g.ks.length->cz l=true->l≠[]->∀w,LgS l w->Pt (nT l a b g) a w b
 |[],_,_,_,_,_,_,_,hn,_,_=>absurd rfl hn
 |t::r,a,b,g,h,ha,hb,hs,_,w,hw=>by
  unfold cz at hs
  simp only[M4]at hs
  unfold LgS at hw
  obtain⟨u,v,rfl,hu,hv⟩:=hw
  unfold nT
  split
  ·rename_i hr
   obtain rfl:r=[]:=by simpa using hr
   obtain rfl:v=[]:=by unfold LgS at hv;exact hv
   rw[MI]
   exact ly t a b g h ha hb hs.1 u hu
  rename_i hr
  have hl:=aS g
  have p1:=ly t a g.ks.length g.knot h.knot zo zo hs.1 u hu
  obtain⟨h1,h2⟩:=cQ t a g.ks.length g.knot h.knot zo zo
  have:=h2.len
  have p2:=vm r g.ks.length b _ h1 zo zo hs.2 (by intro e;rw[e]at hr;simp at hr) v hv
  exact(p1.mono (yg r g.ks.length b _ h1 zo zo).2).J p2
def vp:∀(l:List Nd) (a b:Nat) (g:Gr),WF g->a<g.ks.length->b<g.ks.length->cz l=true->∀w,LgA l w->Pt (nV l a b g) a w b
 |[],_,_,_,_,_,_,_,_,hw=>by unfold LgA at hw;exact hw.elim
 |t::r,a,b,g,h,ha,hb,hs,w,hw=>by
  unfold cz at hs
  simp only[M4]at hs
  unfold LgA at hw
  unfold nV
  obtain⟨h1,h2⟩:=cQ t a b g h ha hb
  have:=h2.len
  rcases hw with hw|hw
  ·exact(ly t a b g h ha hb hs.1 w hw).mono (yi r a b _ h1 zo zo).2
  exact vp r a b _ h1 zo zo hs.2 w hw
def CZ:∀(l:List Nd) (a b:Nat) (g:Gr),WF g->a<g.ks.length->b<g.ks.length->cz l=true->∀w,LgH l w->Pt (nU l a b g) a w b
 |[],_,_,_,_,_,_,_,_,hw=>by unfold LgH at hw;exact hw.elim
 |t::_,a,b,g,h,ha,hb,hs,w,hw=>by
  unfold cz at hs
  simp only[M4]at hs
  unfold LgH at hw
  unfold nU
  exact ly t a b g h ha hb hs.1 w hw
end
end
section
open Go.VL Go.Proofs
set_option maxRecDepth 10000
structure Lbl(g:Gr)(R:Nat->List Int->Prop):Prop where
 fr:∀k j,k<g.ks.length->j∈g.fr k->∀w,R j w->R k w
 lv:∀k j,k<g.ks.length->j<g.ls.length->j+1∈g.lv k->∀m w,de (nth g.ls j).1 (nth g.ls j).2.1 m=true->R (nth g.ls j).2.2 w->R k (m::w)
def Lbl.path{g:Gr}(h:Lbl g R){k q:Nat}{w:List Int}(p:Pt g k w q):∀v,R q v->R k (w++v):=by
 induction p with
 |nil=>exact λv h=>h
 |eps h1 h2 _ ih=>exact λv hv=>h.fr _ _ h1 h2 _ (ih v hv)
 |leaf h1 h2 h3 h4 _ ih=>exact λv hv=>h.lv _ _ h1 h2 h3 _ _ h4 (ih v hv)
def Lbl.agree{g:Gr}{R':Nat->List Int->Prop}(h:Lbl g R)(hw:WF g)(e:∀k,k<g.ks.length->R' k=R k):Lbl g R':=
 ⟨λk j hk hj w=>by rw[e k hk,e j (hw.fr k j hk hj)];exact h.fr k j hk hj w,λk j hk hj hl m w=>by rw[e k hk,e _ (hw.ls j hj)];exact h.lv k j hk hj hl m w⟩
def Lbl.knot{g:Gr}{R:Nat->List Int->Prop}(h:Lbl g R):Lbl g.knot R:=by
 refine⟨λk j hk hj w=>?_,λk j hk hj hl m w=>?_⟩
 ·rw[oW]at hj
  split at hj
  ·rename_i e;exact h.fr k j e hj w
  simp at hj
 rw[oU]at hl
 split at hl
 ·rename_i e;exact h.lv k j e hj hl m w
 simp at hl
def Lbl.free{g:Gr}{R:Nat->List Int->Prop}(h:Lbl g R){a b:Nat}(ha:a<g.ks.length)(a0:∀w,R b w->R a w):Lbl (g.free a b) R:=by
 refine⟨λk j hk hj w=>?_,λk j hk hj hl m w=>?_⟩
 ·rw[bj]at hk;rw[eh ha]at hj
  split at hj
  ·rename_i e;subst e
   rcases Md.1 hj with hj|hj
   ·exact h.fr k j ha hj w
   rw[L9.1 hj];exact a0 w
  exact h.fr k j hk hj w
 rw[bj]at hk;rw[pc ha]at hl;exact h.lv k j hk hj hl m w
def Lbl.leaf{g:Gr}{R:Nat->List Int->Prop}(h:Lbl g R)(hw:WF g){x c:Int}{a b:Nat}(ha:a<g.ks.length)(a1:∀m w,de x c m=true->R b w->R a (m::w)):Lbl (g.leaf x c a b) R:=by
 refine⟨λk j hk hj w=>?_,λk j hk hj hl m w=>?_⟩
 ·rw[gL]at hk;rw[oO ha]at hj;exact h.fr k j hk hj w
 rw[gL]at hk;rw[mE ha]at hl;rw[ko,Mn]at hj;simp only[MP,Np]at hj;rw[ko,aC]
 by_cases a0:j<g.ls.length
 ·rw[ap a0];refine h.lv k j hk a0 ?_ m w
  split at hl
  ·rename_i e;subst e
   rcases Md.1 hl with hl|hl
   ·exact hl
   have:=L9.1 hl;omega
  exact hl
 rw[am a0,show j-g.ls.length=0 from by omega,ar]
 split at hl
 ·rename_i e;subst e;exact a1 m w
 have:=hw.lv k (j+1) hk hl;omega
def nu(R:Nat->List Int->Prop)(i:Nat)(X:List Int->Prop):Nat->List Int->Prop:=λk=>if k=i then X else R k
def jW(R:Nat->List Int->Prop)(i:Nat)(X:List Int->Prop):nu R i X i=X:=ap rfl
def dQ{k:Nat}{X:List Int->Prop}(h:k≠i):nu R i X k=R k:=am h
def Cat(L M:List Int->Prop):List Int->Prop:=λw=>∃u v,w=u++v/\L u/\M v
def xK(k:Int)(L:List Int->Prop):List Int->Prop:=if k=8 then λw=>w=[]else StarP L
def inL(k:Int)(L:List Int->Prop):List Int->Prop:=if k=6 then StarP L else if k=7 then Cat L (StarP L)else λw=>w=[]\/L w
def FO(k:Int)(L:List Int->Prop):xK k L []:=by unfold xK;split;rfl;exact .nil
def J7{k:Int}(hk:k=6\/k=7\/k=8){u v:List Int}(hu:L u)(hv:xK k L v):inL k L (u++v):=by
 unfold xK at hv;unfold inL
 rcases hk with rfl|rfl|rfl
 ·rw[am zd]at hv;rw[ap rfl];exact .cons hu hv
 ·rw[am zd]at hv;rw[am zd,ap rfl];exact⟨u,v,rfl,hu,hv⟩
 rw[ap rfl]at hv;subst hv;rw[am zd,am zd,MI];exact .inr hu
def I1{k:Int}(hk:k=6\/k=7\/k=8)(h7:k≠7){v:List Int}(hv:xK k L v):inL k L v:=by
 unfold xK at hv;unfold inL
 rcases hk with rfl|rfl|rfl
 ·rw[am zd]at hv;rw[ap rfl];exact hv
 ·exact absurd rfl h7
 rw[ap rfl]at hv;rw[am zd,am zd];exact .inl hv
def FN{k:Int}(hk:k=6\/k=7\/k=8)(h8:k≠8){v:List Int}(hv:inL k L v):xK k L v:=by
 unfold inL at hv;unfold xK;rw[am h8]
 rcases hk with rfl|rfl|rfl
 ·rw[ap rfl]at hv;exact hv
 ·rw[am zd,ap rfl]at hv;obtain⟨u,v,rfl,hu,hv⟩:=hv;exact .cons hu hv
 exact absurd rfl h8
def GG{k c:Int}{l:List Nd}(hk:k=6\/k=7\/k=8):Lg (.mk k c l)=inL k (LgH l):=by
 unfold Lg inL;funext w
 rcases hk with rfl|rfl|rfl
 ·rw[am zd,am zd,ap rfl,ap rfl]
 ·rw[am zd,am zd,am zd,ap rfl,am zd,ap rfl];rfl
 rw[am zd,am zd,am zd,am zd,ap rfl,am zd,am zd]
def Gh{k:Int}{g:Gr}(h:Lbl g R)(hi:i+1<g.ks.length)(h7:k≠7->∀w,R (i+1) w->R i w)(h8:k≠8->∀w,R i w->R (i+1) w):Lbl (layO k g i) R:=by
 unfold layO
 split
 ·split
  ·exact h
  rename_i q;exact h.free zo (h7 q)
 rename_i q8
 split
 ·exact h.free hi (h8 q8)
 rename_i q;exact(h.free zo (h7 q)).free (by rw[bj];exact hi) (h8 q8)
mutual
def iM:∀(t:Nd) (a b:Nat) (g:Gr) (R:Nat->List Int->Prop),WF g->a<g.ks.length->b<g.ks.length->Lbl g R->(∀u v,Lg t u->R b v->R a (u++v))->
  ∃R',(∀k,k<g.ks.length->R' k=R k)/\Lbl (fO t a b g) R'
 |.mk k c l,a,b,g,R,h,ha,hb,hL,hab=>by
  unfold fO
  by_cases h4:k=4
  ·rw[ap h4]
   refine qQ l a b g R h ha hb hL λu v hu hv=>hab u v ?_ hv
   unfold Lg;rw[ap h4];exact hu
  rw[am h4]
  by_cases h5:k=5
  ·rw[ap h5]
   refine qR l a b g R h ha hb hL λu v hu hv=>hab u v ?_ hv
   unfold Lg;rw[am h4,ap h5];exact hu
  rw[am h5]
  by_cases h678:k=6\/k=7\/k=8
  ·rw[ap h678]
   have hab':=λu v hu hv=>hab u v (by rw[GG h678];exact hu) hv
   have hl:=eC g a b
   have hwf:=fe h ha hb
   obtain⟨h1,h2⟩:=mF l g.ks.length (g.ks.length+1) (bT g a b) hwf zo zo
   have hlen:=h2.len
   show∃R',(∀q,q<g.ks.length->R' q=R q)/\Lbl (layO k (nU l g.ks.length (g.ks.length+1) (bT g a b)) g.ks.length) R'
   have hR1:Lbl (bT g a b) (nu (nu R g.ks.length (Cat (inL k (LgH l)) (R b))) (g.ks.length+1) (Cat (xK k (LgH l)) (R b))):=by
    have hk2:g.knot.knot.ks.length=g.ks.length+2:=by rw[aS,aS]
    have hg:=(hL.agree (R':=nu (nu R g.ks.length (Cat (inL k (LgH l)) (R b))) (g.ks.length+1) (Cat (xK k (LgH l)) (R b))) h λq hq=>by rw[dQ zo,dQ zo]).knot.knot
    refine(hg.free zo ?_).free (by rw[bj];omega) ?_
    ·intro w hw
     rw[dQ zo,jW]at hw
     rw[dQ zo,dQ zo]
     obtain⟨u,v,rfl,hu,hv⟩:=hw
     exact hab' u v hu hv
    intro w hw
    rw[dQ zo,dQ zo]at hw
    rw[jW]
    exact⟨[],w,rfl,FO _ _,hw⟩
   have hi1:(nu (nu R g.ks.length (Cat (inL k (LgH l)) (R b))) (g.ks.length+1) (Cat (xK k (LgH l)) (R b))) g.ks.length=Cat (inL k (LgH l)) (R b):=by rw[dQ zo,jW]
   have ho1:(nu (nu R g.ks.length (Cat (inL k (LgH l)) (R b))) (g.ks.length+1) (Cat (xK k (LgH l)) (R b))) (g.ks.length+1)=Cat (xK k (LgH l)) (R b):=jW _ _ _
   have hold:∀q,q<g.ks.length->(nu (nu R g.ks.length (Cat (inL k (LgH l)) (R b))) (g.ks.length+1) (Cat (xK k (LgH l)) (R b))) q=R q:=λq hq=>by rw[dQ zo,dQ zo]
   generalize nu (nu R g.ks.length (Cat (inL k (LgH l)) (R b))) (g.ks.length+1) (Cat (xK k (LgH l)) (R b))=R1 at *
   obtain⟨R2,e2,hR2⟩:=AX l g.ks.length (g.ks.length+1) (bT g a b) R1 hwf zo zo hR1 (λu v hu hv=>by
    rw[ho1]at hv
    rw[hi1]
    obtain⟨v1,v2,rfl,hv1,hv2⟩:=hv
    exact⟨u++v1,v2,by rw[Mi],J7 h678 hu hv1,hv2⟩)
   refine⟨R2,λq hq=>by rw[e2 q zo,hold q hq],Gh hR2 zo ?_ ?_⟩
   ·intro h7 w
    rw[e2 _ zo,e2 _ zo,hi1,ho1]
    rintro⟨u,v,rfl,hu,hv⟩
    exact⟨u,v,rfl,I1 h678 h7 hu,hv⟩
   intro h8 w
   rw[e2 _ zo,e2 _ zo,hi1,ho1]
   rintro⟨u,v,rfl,hu,hv⟩
   exact⟨u,v,rfl,FN h678 h8 hu,hv⟩
  rw[am h678]
  have hg:Lg (.mk k c l)=λw=>if k=9 then w=[]else∃m,w=[m]/\de k c m=true:=by
   unfold Lg;funext w;rw[am h4,am h5,am zo,am zo,am zo]
  rw[hg]at hab
  by_cases h9:k=9
  ·rw[ap h9]
   exact⟨R,λ_ _=>rfl,hL.free ha λw hw=>hab [] w (by show(if k=9 then _ else _);rw[ap h9]) hw⟩
  rw[am h9]
  exact⟨R,λ_ _=>rfl,hL.leaf h ha λm w hm hw=>hab [m] w (by show(if k=9 then _ else _);rw[am h9];exact⟨m,rfl,hm⟩) hw⟩
def qQ:∀(l:List Nd) (a b:Nat) (g:Gr) (R:Nat->List Int->Prop),WF g->a<g.ks.length->b<g.ks.length->Lbl g R->(∀u v,LgS l u->R b v->R a (u++v))->
  ∃R',(∀k,k<g.ks.length->R' k=R k)/\Lbl (nT l a b g) R'
 |[],_,_,_,R,_,_,_,hL,_=>⟨R,λ_ _=>rfl,hL⟩
 |t::r,a,b,g,R,h,ha,hb,hL,hab=>by
  unfold LgS at hab
  unfold nT
  split
  ·rename_i hr
   obtain rfl:r=[]:=by simpa using hr
   exact iM t a b g R h ha hb hL λu v hu hv=>hab u v ⟨u,[],by simp,hu,by unfold LgS;rfl⟩ hv
  have hl:=aS g
  have hold:∀q,q<g.ks.length->nu R g.ks.length (Cat (LgS r) (R b)) q=R q:=λq hq=>dQ zo
  have hmid:=jW R g.ks.length (Cat (LgS r) (R b))
  have hR1:=(hL.agree h hold).knot
  generalize nu R g.ks.length (Cat (LgS r) (R b))=R1 at *
  obtain⟨R2,e2,hR2⟩:=iM t a g.ks.length g.knot R1 h.knot zo zo hR1 (λu v hu hv=>by
   rw[hmid]at hv
   rw[hold a ha]
   obtain⟨v1,v2,rfl,hv1,hv2⟩:=hv
   rw[<-Mi]
   exact hab (u++v1) v2 ⟨u,v1,rfl,hu,hv1⟩ hv2)
  obtain⟨h1,h2⟩:=cQ t a g.ks.length g.knot h.knot zo zo
  have hlen:=h2.len
  obtain⟨R3,e3,hR3⟩:=qQ r g.ks.length b _ R2 h1 zo zo hR2 (λu v hu hv=>by
   rw[e2 b zo,hold b hb]at hv
   rw[e2 _ zo,hmid]
   exact⟨u,v,rfl,hu,hv⟩)
  exact⟨R3,λq hq=>by rw[e3 q zo,e2 q zo,hold q hq],hR3⟩
def qR:∀(l:List Nd) (a b:Nat) (g:Gr) (R:Nat->List Int->Prop),WF g->a<g.ks.length->b<g.ks.length->Lbl g R->(∀u v,LgA l u->R b v->R a (u++v))->
  ∃R',(∀k,k<g.ks.length->R' k=R k)/\Lbl (nV l a b g) R'
 |[],_,_,_,R,_,_,_,hL,_=>⟨R,λ_ _=>rfl,hL⟩
 |t::r,a,b,g,R,h,ha,hb,hL,hab=>by
  unfold LgA at hab
  unfold nV
  obtain⟨R2,e2,hR2⟩:=iM t a b g R h ha hb hL λu v hu hv=>hab u v (.inl hu) hv
  obtain⟨h1,h2⟩:=cQ t a b g h ha hb
  have hlen:=h2.len
  obtain⟨R3,e3,hR3⟩:=qR r a b _ R2 h1 zo zo hR2 λu v hu hv=>by
   rw[e2 b hb]at hv
   rw[e2 a ha]
   exact hab u v (.inr hu) hv
  exact⟨R3,λq hq=>by rw[e3 q zo,e2 q hq],hR3⟩
def AX:∀(l:List Nd) (a b:Nat) (g:Gr) (R:Nat->List Int->Prop),WF g->a<g.ks.length->b<g.ks.length->Lbl g R->(∀u v,LgH l u->R b v->R a (u++v))->
  ∃R',(∀k,k<g.ks.length->R' k=R k)/\Lbl (nU l a b g) R'
 |[],_,_,_,R,_,_,_,hL,_=>⟨R,λ_ _=>rfl,hL⟩
 |t::_,a,b,g,R,h,ha,hb,hL,hab=>by
  unfold LgH at hab
  unfold nU
  exact iM t a b g R h ha hb hL hab
end
def sO(g:Gr)(k:Nat):g.knot.en k=if k<g.ks.length then g.en k else 0:=by unfold Gr.en;rw[sN];split<;>rfl
def yl{g:Gr}{b:Nat}(ha:a<g.ks.length)(k:Nat):(g.free a b).en k=g.en k:=by
 unfold Gr.free Gr.en;rw[bf ha];split
 ·rename_i h;rw[h]
 rfl
def CT{g:Gr}{x c:Int}{b:Nat}(ha:a<g.ks.length)(k:Nat):(g.leaf x c a b).en k=g.en k:=by
 unfold Gr.leaf Gr.en;rw[bf ha];split
 ·rename_i h;rw[h]
 rfl
def SameEn(g g':Gr):Prop:=∀k,g'.en k=if k<g.ks.length then g.en k else 0
def Ke{g:Gr}{k:Nat}(h:g.ks.length<=k):g.en k=0:=by unfold Gr.en;rw[ff h];rfl
def SameEn.refl(g:Gr):SameEn g g:=λk=>by
 split
 ·rfl
 exact Ke zo
def SameEn.J{a b c:Gr}(h:SameEn a b)(k:SameEn b c)(hl:a.ks.length<=b.ks.length):SameEn a c:=λq=>by
 rw[k q]
 by_cases h1:q<a.ks.length
 ·rw[ap h1,ap zo,h q,ap h1]
 rw[am h1]
 split
 ·rw[h q,am h1]
 rfl
def oT(g:Gr):SameEn g g.knot:=sO g
def fh{g:Gr}{b:Nat}(ha:a<g.ks.length):SameEn g (g.free a b):=λk=>by
 rw[yl ha];exact SameEn.refl g k
def CS{g:Gr}{x c:Int}{b:Nat}(ha:a<g.ks.length):SameEn g (g.leaf x c a b):=λk=>by
 rw[CT ha];exact SameEn.refl g k
def CX{k:Int}{g:Gr}(hi:i+1<g.ks.length):SameEn g (layO k g i):=by
 unfold layO;split<;>split
 ·exact SameEn.refl _
 ·exact fh zo
 ·exact fh hi
 exact(fh zo).J (fh (by rw[bj];exact hi)) (by rw[bj];omega)
def xN{g:Gr}{b:Nat}(ha:a<g.ks.length):SameEn g (bT g a b):=by
 have h2:g.knot.knot.ks.length=g.ks.length+2:=by rw[aS,aS]
 unfold bT;exact(((oT g).J (oT _) (by rw[aS];omega)).J (fh zo) zo).J (fh (by rw[bj];omega)) (by rw[bj];omega)
mutual
def iN:∀(t:Nd) (a b:Nat) (g:Gr),WF g->a<g.ks.length->b<g.ks.length->SameEn g (fO t a b g)
 |.mk k c l,a,b,g,h,ha,hb=>by
  unfold fO
  split
  ·exact vl l a b g h ha hb
  split
  ·exact vo l a b g h ha hb
  split
  ·have hl:=eC g a b
   have hwf:=fe h ha hb
   obtain⟨h1,h2⟩:=mF l g.ks.length (g.ks.length+1) (bT g a b) hwf zo zo
   have:=h2.len
   exact((xN ha).J (CY l _ _ _ hwf zo zo) zo).J (CX zo) (by show g.ks.length<=(nU l g.ks.length (g.ks.length+1) (bT g a b)).ks.length;omega)
  split
  ·exact fh ha
  exact CS ha
def vl:∀(l:List Nd) (a b:Nat) (g:Gr),WF g->a<g.ks.length->b<g.ks.length->SameEn g (nT l a b g)
 |[],_,_,g,_,_,_=>SameEn.refl g
 |t::r,a,b,g,h,ha,hb=>by
  unfold nT
  split
  ·exact iN t a b g h ha hb
  have hl:=aS g
  obtain⟨h1,h2⟩:=cQ t a g.ks.length g.knot h.knot zo zo
  have:=h2.len
  exact((oT g).J (iN t _ _ _ h.knot zo zo) zo).J (vl r _ _ _ h1 zo zo) zo
def vo:∀(l:List Nd) (a b:Nat) (g:Gr),WF g->a<g.ks.length->b<g.ks.length->SameEn g (nV l a b g)
 |[],_,_,g,_,_,_=>SameEn.refl g
 |t::r,a,b,g,h,ha,hb=>by
  unfold nV
  obtain⟨h1,h2⟩:=cQ t a b g h ha hb
  have:=h2.len
  exact(iN t a b g h ha hb).J (vo r _ _ _ h1 zo zo) zo
def CY:∀(l:List Nd) (a b:Nat) (g:Gr),WF g->a<g.ks.length->b<g.ks.length->SameEn g (nU l a b g)
 |[],_,_,g,_,_,_=>SameEn.refl g
 |t::_,a,b,g,h,ha,hb=>by
  unfold nU
  exact iN t a b g h ha hb
end
end
section
open Go.VL Go.Proofs
set_option maxRecDepth 10000
def Gr.mark(g:Gr)(a e:Nat):Gr:=⟨g.ls,g.ks.set a (g.fr a,g.lv a,e)⟩
def cU(g:Gr)(a e:Nat):(g.mark a e).ks.length=g.ks.length:=by simp[Gr.mark]
def oM{g:Gr}(ha:a<g.ks.length)(k:Nat):(g.mark a e).fr k=g.fr k:=by
 unfold Gr.mark Gr.fr;rw[bf ha];split
 ·rename_i h;rw[h]
 rfl
def oL{g:Gr}(ha:a<g.ks.length)(k:Nat):(g.mark a e).lv k=g.lv k:=by
 unfold Gr.mark Gr.lv;rw[bf ha];split
 ·rename_i h;rw[h]
 rfl
def CL{g:Gr}(ha:a<g.ks.length)(k:Nat):(g.mark a e).en k=if k=a then e else g.en k:=by
 unfold Gr.mark Gr.en;rw[bf ha];split<;>rfl
def F5{g:Gr}(ha:a<g.ks.length):Sub g (g.mark a e):=⟨by rw[cU];omega,⟨[],by simp[Gr.mark]⟩,λk j _ h=>by rw[oM ha];exact h,λk j _ h=>by rw[oL ha];exact h⟩
def WF.mark{g:Gr}(h:WF g){a e:Nat}(ha:a<g.ks.length):WF (g.mark a e):=
 ⟨λk j hk hj=>by rw[cU]at hk ⊢;rw[oM ha]at hj;exact h.fr k j hk hj,λk j hk hj=>by rw[cU]at hk;rw[oL ha]at hj;exact h.lv k j hk hj,λj hj=>by rw[cU];exact h.ls j hj⟩
def Lbl.mark{g:Gr}{R:Nat->List Int->Prop}(h:Lbl g R){a e:Nat}(ha:a<g.ks.length):Lbl (g.mark a e) R:=
 ⟨λk j hk hj=>by rw[cU]at hk;rw[oM ha]at hj;exact h.fr k j hk hj,λk j hk hj hl=>by rw[cU]at hk;rw[oL ha]at hl;exact h.lv k j hk hj hl⟩
def dR(g:Gr)(i:Nat):Gr:=((g.knot.mark g.ks.length (i+1)).knot).free 0 (g.ks.length+1)
def nN(x:Nd)(i:Nat)(g:Gr):Gr:=fO x (g.ks.length+1) g.ks.length (dR g i)
def cF:List Nd->Nat->Gr->Gr
 |[],_,g=>g
 |x::r,i,g=>cF r (i+1) (nN x i g)
def g00:Gr:=⟨[],[([],[],0)]⟩
def kJ(xs:List Nd):Gr:=cF xs 0 g00
def ez(g:Gr)(i:Nat):(dR g i).ks.length=g.ks.length+2:=by unfold dR;rw[bj,aS,cU,aS]
def eW{g:Gr}(h:WF g)(h0:0<g.ks.length)(i:Nat):WF (dR g i)/\Sub g (dR g i):=by
 have h1:=aS g;have h2:=cU g.knot g.ks.length (i+1);have h3:=aS (g.knot.mark g.ks.length (i+1));refine⟨((h.knot.mark zo).knot).free zo zo,(((lA g).J (F5 zo)).J (lA _)).J (fG zo)⟩
def BZ{g:Gr}(h0:0<g.ks.length)(i k:Nat):(dR g i).en k=if k=g.ks.length then i+1 else if k<g.ks.length then g.en k else 0:=by
 have h1:=aS g;have h2:=cU g.knot g.ks.length (i+1);have h3:=aS (g.knot.mark g.ks.length (i+1));unfold dR;rw[yl zo,sO,CL zo,sO]
 by_cases hk:k=g.ks.length
 ·simp only[ap hk];rw[ap zo]
 simp only[am hk]
 by_cases a0:k<g.ks.length
 ·simp only[ap a0];rw[ap zo]
 simp only[am a0];split<;>rfl
def mu{g:Gr}(h:WF g)(h0:0<g.ks.length)(x:Nd)(i:Nat):WF (nN x i g)/\Sub g (nN x i g)/\g.ks.length+2<=(nN x i g).ks.length:=by
 obtain⟨h1,h2⟩:=eW h h0 i;have hl:=ez g i;obtain⟨h3,h4⟩:=cQ x (g.ks.length+1) g.ks.length (dR g i) h1 zo zo;exact⟨h3,h2.J h4,by have:=h4.len;unfold nN;omega⟩
def sE{g:Gr}(h:WF g)(h0:0<g.ks.length)(x:Nd)(i k:Nat):(nN x i g).en k=if k=g.ks.length then i+1 else if k<g.ks.length then g.en k else 0:=by
 obtain⟨h1,h2⟩:=eW h h0 i;have hl:=ez g i;have:=iN x (g.ks.length+1) g.ks.length (dR g i) h1 zo zo k;rw[BZ h0,hl]at this;unfold nN;rw[this]
 by_cases hk:k=g.ks.length
 ·rw[ap zo]
 rw[am hk]
 by_cases a0:k<g.ks.length
 ·rw[ap zo]
 rw[am a0];split<;>rfl
def tj:∀(xs:List Nd) (i:Nat) (g:Gr),WF g->0<g.ks.length->WF (cF xs i g)/\Sub g (cF xs i g)/\∀k,k<g.ks.length->(cF xs i g).en k=g.en k
 |[],_,g,h,_=>⟨h,Sub.refl g,λ_ _=>rfl⟩
 |x::r,i,g,h,h0=>by
  obtain⟨h1,h2,h3⟩:=mu h h0 x i;obtain⟨h4,h5,h6⟩:=tj r (i+1) (nN x i g) h1 zo;refine⟨h4,h2.J h5,λk hk=>?_⟩;show(cF r (i+1) (nN x i g)).en k=_;rw[h6 k zo,sE h h0,am zo,ap hk]
def qX:WF g00:=by
 refine⟨λk j hk hj=>?_,λk j hk hj=>?_,λj hj=>?_⟩
 ·have:k=0:=by simpa[g00]using hk
  subst this;simp[Gr.fr,g00,ar]at hj
 ·have:k=0:=by simpa[g00]using hk
  subst this;simp[Gr.lv,g00,ar]at hj
 simp[g00]at hj
def CB(xs:List Nd):WF (kJ xs)/\0<(kJ xs).ks.length:=by
 obtain⟨h1,h2,_⟩:=tj xs 0 g00 qX zd;exact⟨h1,M9 zd h2.len⟩
def rC:∀(xs:List Nd) (i:Nat) (g:Gr),WF g->0<g.ks.length->cz xs=true->∀k w,k<xs.length->Lg (nth xs k) w->∃q,q<(cF xs i g).ks.length/\Pt (cF xs i g) 0 w q/\(cF xs i g).en q=i+k+1
 |[],_,_,_,_,_,k,w,hk,_=>absurd hk (Ms _)
 |x::r,i,g,h,h0,hs,k,w,hk,hw=>by
  unfold cz at hs;simp only[M4]at hs;obtain⟨h1,h2,h3⟩:=mu h h0 x i;obtain⟨h4,h5,h6⟩:=tj r (i+1) (nN x i g) h1 zo;show∃q,q<(cF r (i+1) (nN x i g)).ks.length/\_
  cases k with
  |zero=>
   rw[ar]at hw;have hl:=ez g i;obtain⟨g1,g2⟩:=eW h h0 i
   have p1:Pt (dR g i) 0 [] (g.ks.length+1):=.eps zo (by
    have e1:=aS g;have e2:=cU g.knot g.ks.length (i+1);have e3:=aS (g.knot.mark g.ks.length (i+1));unfold dR
    rw[eh zo,ap rfl];simp) (.nil _)
   have p3:Pt (nN x i g) 0 w g.ks.length:=by
    show Pt (fO x (g.ks.length+1) g.ks.length (dR g i)) 0 w g.ks.length;have:=(p1.mono (cQ x (g.ks.length+1) g.ks.length (dR g i) g1 zo zo).2).J (ly x (g.ks.length+1) g.ks.length (dR g i) g1 zo zo hs.1 w hw);simpa using this
   have a0:=h5.len;exact⟨g.ks.length,zo,p3.mono h5,by show(cF r (i+1) (nN x i g)).en _=_;rw[h6 _ zo,sE h h0,ap rfl]⟩
  |succ k=>
   rw[aX]at hw;obtain⟨q,q1,q2,q3⟩:=rC r (i+1) (nN x i g) h1 zo hs.2 k w (by simpa using hk) hw;exact⟨q,q1,q2,by show(cF r (i+1) (nN x i g)).en _=_;rw[q3];omega⟩
def pz(A:Nat->Prop):∀(xs:List Nd) (i:Nat) (g:Gr) (R:Nat->List Int->Prop),WF g->0<g.ks.length->Lbl g R->(∀k,k<g.ks.length->g.en k≠0->A (g.en k-1)->R k [])->(∀k w,k<xs.length->A (i+k)->Lg (nth xs k) w->R 0 w)->
  ∃R',(∀k,k<g.ks.length->R' k=R k)/\Lbl (cF xs i g) R'/\∀k,k<(cF xs i g).ks.length->(cF xs i g).en k≠0->A ((cF xs i g).en k-1)->R' k []
 |[],_,g,R,_,_,hL,hE,_=>⟨R,λ_ _=>rfl,hL,hE⟩
 |x::r,i,g,R,h,h0,hL,hE,hZ=>by
  obtain⟨h1,h2,h3⟩:=mu h h0 x i;obtain⟨g1,g2⟩:=eW h h0 i;have hl:=ez g i;have a0:∀q,q<g.ks.length->nu (nu R g.ks.length (λw=>w=[]/\A i)) (g.ks.length+1) (λw=>A i/\Lg x w) q=R q:=λq hq=>by rw[dQ zo,dQ zo]
  have ho:nu (nu R g.ks.length (λw=>w=[]/\A i)) (g.ks.length+1) (λw=>A i/\Lg x w) g.ks.length=λw=>w=[]/\A i:=by rw[dQ zo,jW]
  have hi:=jW (nu R g.ks.length (λw=>w=[]/\A i)) (g.ks.length+1) (λw=>A i/\Lg x w);have e1:=aS g;have e2:=cU g.knot g.ks.length (i+1);have e3:=aS (g.knot.mark g.ks.length (i+1));have a5:Lbl (dR g i) (nu (nu R g.ks.length (λw=>w=[]/\A i)) (g.ks.length+1) (λw=>A i/\Lg x w)):=by
   refine(((hL.agree h a0).knot.mark zo).knot).free zo λw hw=>?_
   rw[hi]at hw;rw[a0 0 h0];exact hZ 0 w (by simp) hw.1 (by rw[ar];exact hw.2)
  generalize nu (nu R g.ks.length (λw=>w=[]/\A i)) (g.ks.length+1) (λw=>A i/\Lg x w)=R1 at *
  obtain⟨R2,f2,a4⟩:=iM x (g.ks.length+1) g.ks.length (dR g i) R1 g1 zo zo a5 (λu v hu hv=>by
   rw[ho]at hv;rw[hi];obtain⟨rfl,hv⟩:=hv
   exact⟨hv,by rw[MI];exact hu⟩)
  obtain⟨R3,f3,a3,a6⟩:=pz A r (i+1) (nN x i g) R2 h1 zo a4 (λk hk hn ha=>by
   rw[sE h h0]at hn ha
   by_cases a2:k=g.ks.length
   ·rw[ap a2]at ha;rw[a2,f2 _ zo,ho];exact⟨rfl,ha⟩
   ·rw[am a2]at hn ha
    by_cases a1:k<g.ks.length
    ·rw[ap a1]at hn ha;rw[f2 _ zo,a0 k a1];exact hE k a1 hn ha
    rw[am a1]at hn;exact absurd rfl hn) (λk w hk ha hw=>by
   rw[f2 _ zo,a0 0 h0]
   exact hZ (k+1) w (by simpa using hk) (by rw[show i+(k+1)=i+1+k from by omega];exact ha) (by rw[aX];exact hw))
  exact⟨R3,λq hq=>by rw[f3 q zo,f2 q zo,a0 q hq],a3,a6⟩
def zy{xs:List Nd}(hs:cz xs=true)(i:Nat)(w:List Int):(∃q,q<(kJ xs).ks.length/\Pt (kJ xs) 0 w q/\(kJ xs).en q=i+1)↔i<xs.length/\Lg (nth xs i) w:=by
 constructor
 ·rintro⟨q,hq,hp,he⟩
  obtain⟨R,f,hL,hE⟩:=pz (λk=>k=i) xs 0 g00 (λ_ w=>i<xs.length/\Lg (nth xs i) w) qX zd ⟨λk j hk hj=>by
   have:k=0:=by simpa[g00]using hk
   subst this;simp[Gr.fr,g00,ar]at hj,λk j hk hj=>by simp[g00]at hj⟩ (λk hk hn=>by
   have:k=0:=by simpa[g00]using hk
   subst this;exact absurd (by simp[Gr.en,g00,ar]) hn) (λk w hk ha hw=>by
   rw[Mu]at ha;subst ha
   exact⟨hk,hw⟩)
  have h2:=hL.path hp [] (hE q hq (by show(kJ xs).en q≠0;omega) (by show(kJ xs).en q-1=i;omega));rw[f 0 zd,MI]at h2;exact h2
 rintro⟨hi,hw⟩;obtain⟨q,q1,q2,q3⟩:=rC xs 0 g00 qX zd hs i w hi hw;exact⟨q,q1,q2,by show(cF xs 0 g00).en q=_;rw[q3];omega⟩
def ey:List Nat->List Nat->List Nat
 |l,[]=>l
 |l,x::r=>ey (if l.contains x then l else l++[x]) r
def iD(g:Gr):Nat->Nat->List Nat->List Nat
 |0,_,l=>l
 |n+1,i,l=>if i<l.length then iD g n (i+1) (ey l (g.fr (nth l i)))else l
def fD(g:Gr)(k:Nat):List Nat:=iD g g.ks.length 0 [k]
def jC:∀(r l:List Nat),∃s,ey l r=l++s
 |[],l=>⟨[],by simp[ey]⟩
 |x::r,l=>by
  unfold ey
  split
  ·exact jC r l
  obtain⟨s,hs⟩:=jC r (l++[x]);exact⟨x::s,by rw[hs];simp⟩
def gw:∀(r l:List Nat) (y:Nat),y∈ey l r↔y∈l\/y∈r
 |[],l,y=>by simp[ey]
 |x::r,l,y=>by
  unfold ey;rw[gw r]
  split
  ·rename_i h;have hx:x∈l:=by simpa using h
   constructor
   ·rintro(h1|h1)
    ·exact .inl h1
    exact .inr (by simp[h1])
   rintro(h1|h1)
   ·exact .inl h1
   rcases Qf.1 h1 with rfl|h1
   ·exact .inl hx
   exact .inr h1
  simp[or_assoc]
def nh:∀(r l:List Nat),l.Nodup->(ey l r).Nodup
 |[],l,h=>h
 |x::r,l,h=>by
  unfold ey;apply nh r _
  split
  ·exact h
  rename_i hx;have hx:x∉l:=by simpa using hx
  exact PQ.2 ⟨h,by simp,λa ha b hb=>by rw[L9.1 hb];intro e;exact hx (by rw[<-e];exact ha)⟩
def gI{l:List Nat}(hn:l.Nodup)(h:∀x∈l,x<n):l.length<=n:=by
 have:=hn.length_le_of_subset (l₂:=Mv n) λx hx=>MT.2 (h x hx)
 simpa using this
structure Rc(g:Gr)(k i:Nat)(l:List Nat):Prop where
 nd:l.Nodup
 lt:∀x∈l,x<g.ks.length
 fst:k∈l
 pt:∀x∈l,Pt g k [] x
 cl:∀j,j<i->j<l.length->∀y∈g.fr (nth l j),y∈l
def tC{g:Gr}{k:Nat}(hk:k<g.ks.length):Rc g k 0 [k]:=⟨by simp,by simpa using hk,by simp,λx hx=>by rw[L9.1 hx];exact .nil _,λj hj=>absurd hj (Ms _)⟩
def Rc.step{g:Gr}(hw:WF g){k:Nat}{l:List Nat}(h:Rc g k i l)(hi:i<l.length):Rc g k (i+1) (ey l (g.fr (nth l i))):=by
 have hm:=aZ hi;obtain⟨s,hs⟩:=jC (g.fr (nth l i)) l;refine⟨nh _ _ h.nd,λx hx=>?_,(gw _ _ _).2 (.inl h.fst),λx hx=>?_,λj hj a1 y hy=>?_⟩
 ·rcases(gw _ _ _).1 hx with hx|hx
  ·exact h.lt x hx
  exact hw.fr _ _ (h.lt _ hm) hx
 ·rcases(gw _ _ _).1 hx with hx|hx
  ·exact h.pt x hx
  have:=(h.pt _ hm).J (.eps (h.lt _ hm) hx (.nil x));simpa using this
 have a0:j<l.length:=zo;rw[hs,aC,ap a0]at hy;refine(gw _ _ _).2 ?_
 by_cases e:j=i
 ·subst e;exact .inr hy
 exact .inl (h.cl j zo a0 y hy)
def Rc.done{g:Gr}{k:Nat}{l:List Nat}(h:Rc g k i l)(hi:l.length<=i)(q:Nat):q∈l↔Pt g k [] q:=by
 refine⟨h.pt q,λp=>?_⟩;have a0:∀ {a:Nat} {w:List Int} {b:Nat},Pt g a w b->w=[]->a∈l->b∈l:=λp=>by
  induction p with
  |nil=>exact λ_ h=>h
  |eps h1 h2 _ ih=>
   intro e ha;obtain⟨j,hj,rfl⟩:=cu ha;exact ih e (h.cl j zo hj _ h2)
  |leaf=>intro e;cases e
 exact a0 p rfl h.fst
def oG{g:Gr}(hw:WF g){k:Nat}:∀(n i:Nat) (l:List Nat),Rc g k i l->g.ks.length<=i+n->∀q,q∈iD g n i l↔Pt g k [] q
 |0,i,l,h,hn,q=>h.done (MF (gI h.nd h.lt) zo) q
 |n+1,i,l,h,hn,q=>by
  unfold iD
  split
  ·rename_i hi;exact oG hw n (i+1) _ (h.step hw hi) zo q
  rename_i hi;exact h.done zo q
def iC{g:Gr}(hw:WF g){k:Nat}(hk:k<g.ks.length)(q:Nat):q∈fD g k↔Pt g k [] q:=oG hw _ _ _ (tC hk) zo q
def Gr.pl(g:Gr)(p:Nat):Nat:=if p=0 then 0 else(nth g.ls (p-1)).2.2
def dm(g:Gr)(p:Nat):List Nat:=(fD g (g.pl p)).flatMap g.lv
def fJ(g:Gr)(b k:Nat):Nat:=if g.en k=0 then b else b ||| 2^(g.en k-1)
def jX(g:Gr)(p:Nat):Nat:=(fD g (g.pl p)).foldl (fJ g) 0
def pX{g:Gr}(hw:WF g)(h0:0<g.ks.length){p:Nat}(hp:p<=g.ls.length):g.pl p<g.ks.length:=by
 unfold Gr.pl
 split
 ·exact h0
 exact hw.ls _ zo
def nO{g:Gr}(hw:WF g)(h0:0<g.ks.length){p:Nat}(hp:p<=g.ls.length)(j:Nat):j∈dm g p↔∃k,Pt g (g.pl p) [] k/\j∈g.lv k:=by
 unfold dm;rw[NL]
 constructor
 ·rintro⟨k,hk,hj⟩;exact⟨k,(iC hw (pX hw h0 hp) k).1 hk,hj⟩
 rintro⟨k,hk,hj⟩;exact⟨k,(iC hw (pX hw h0 hp) k).2 hk,hj⟩
def tW(g:Gr)(i:Nat):∀(l:List Nat) (b:Nat),(l.foldl (fJ g) b).testBit i=(b.testBit i||l.any λk=>decide (g.en k=i+1))
 |[],b=>by simp
 |k::l,b=>by
  rw[Nq,tW g i l,Qh];unfold fJ
  split
  ·rename_i h;rw[decide_eq_false zo,P4]
  rename_i h;rw[Qe,Nat.testBit_two_pow,Qp];congr 2;exact decide_eq_decide.2 zo
def yS{g:Gr}(hw:WF g)(h0:0<g.ks.length){p:Nat}(hp:p<=g.ls.length)(i:Nat):(jX g p).testBit i=true↔∃k,Pt g (g.pl p) [] k/\g.en k=i+1:=by
 unfold jX;rw[tW,Q3,P4,Nk]
 constructor
 ·rintro⟨k,hk,hj⟩;exact⟨k,(iC hw (pX hw h0 hp) k).1 hk,of_decide_eq_true hj⟩
 rintro⟨k,hk,hj⟩;exact⟨k,(iC hw (pX hw h0 hp) k).2 hk,decide_eq_true hj⟩
def D0{g:Gr}{b:Nat}{w:List Int}:Pt g a (w++[m]) b↔∃k j,Pt g a w k/\k<g.ks.length/\j<g.ls.length/\j+1∈g.lv k/\de (nth g.ls j).1 (nth g.ls j).2.1 m=true/\Pt g (nth g.ls j).2.2 [] b:=by
 constructor
 ·intro p;generalize hx:w++[m]=x at p
  induction p generalizing w with
  |nil=>simp at hx
  |eps h1 h2 _ ih=>
   obtain⟨k,j,q1,q⟩:=ih hx;exact⟨k,j,.eps h1 h2 q1,q⟩
  | @leaf k j q m' w' h1 h2 h3 h4 p ih=>
   cases w with
   |nil=>
    simp only[N2,MW]at hx;obtain⟨rfl,rfl⟩:=hx;exact⟨k,j,.nil _,h1,h2,h3,h4,p⟩
   |cons c w=>
    simp only[Mz,MW]at hx;obtain⟨rfl,hx⟩:=hx;obtain⟨k',j',q1,q⟩:=ih hx;exact⟨k',j',.leaf h1 h2 h3 h4 q1,q⟩
 rintro⟨k,j,p,h1,h2,h3,h4,q⟩;exact p.J (.leaf h1 h2 h3 h4 q)
structure Stp(g:Gr)(se:Bool)(step:List Int->Int->List Int):Prop where
 mem:∀(s:List Int) (m x:Int),x∈step s m↔(se=true/\x=0)\/∃p∈s,∃j∈dm g p.toNat,x=(j:Int)/\de (nth g.ls (j-1)).1 (nth g.ls (j-1)).2.1 m=true
def D6(step:List Int->Int->List Int)(w:List Int):List Int:=w.foldl step [0]
def Cf(step:List Int->Int->List Int)(w:List Int)(m:Int):D6 step (w++[m])=step (D6 step w) m:=by unfold D6;rw[List.foldl_append];rfl
def inP(g:Gr)(s:List Int):Prop:=∀x∈s,0<=x/\x.toNat<=g.ls.length
def xr{g:Gr}(hw:WF g)(h0:0<g.ks.length){step:List Int->Int->List Int}(h:Stp g se step)(hs:inP g s)(m:Int):inP g (step s m):=λx hx=>by
 rcases(h.mem s m x).1 hx with⟨_,rfl⟩|⟨p,hp,j,hj,rfl,_⟩
 ·exact⟨NR _,Mt _⟩
 obtain⟨k,hk,a2⟩:=(nO hw h0 (hs p hp).2 j).1 hj;have a1:=(iC hw (pX hw h0 (hs p hp).2) k).2 hk |> λhm=>by
  have a0:∀ {a:Nat} {w:List Int} {b:Nat},Pt g a w b->a<g.ks.length->b<g.ks.length:=λp=>by
   induction p with
   |nil=>exact λh=>h
   |eps h1 h2 _ ih=>exact λ_=>ih (hw.fr _ _ h1 h2)
   |leaf h1 h2 h3 h4 _ ih=>exact λ_=>ih (hw.ls _ h2)
  exact a0 hk (pX hw h0 (hs p hp).2)
 have:=hw.lv k j a1 a2;exact⟨zo,by simp;omega⟩
def GO{g:Gr}(hw:WF g)(h0:0<g.ks.length){step:List Int->Int->List Int}(h:Stp g se step)(w:List Int):inP g (D6 step w):=by
 have a0:∀(w s:List Int),inP g s->inP g (w.foldl step s):=λw=>by
  induction w with
  |nil=>exact λs hs=>hs
  |cons m w ih=>exact λs hs=>ih _ (xr hw h0 h hs m)
 exact a0 w [0] λx hx=>by rw[L9.1 hx];exact⟨NR _,Mt _⟩
def Pt.lt{g:Gr}(hw:WF g){b:Nat}{w:List Int}(p:Pt g a w b):a<g.ks.length->b<g.ks.length:=by
 induction p with
 |nil=>exact λh=>h
 |eps h1 h2 _ ih=>exact λ_=>ih (hw.fr _ _ h1 h2)
 |leaf h1 h2 h3 h4 _ ih=>exact λ_=>ih (hw.ls _ h2)
def QP(g:Gr)(se:Bool)(w:List Int)(k:Nat):Prop:=∃u v,w=u++v/\(se=true\/u=[])/\Pt g 0 v k
def uw{g:Gr}(hw:WF g)(h0:0<g.ks.length){se:Bool}{step:List Int->Int->List Int}(h:Stp g se step):∀(n:Nat) (w:List Int),w.length=n->∀k,(∃p∈D6 step w,Pt g (g.pl p.toNat) [] k)↔QP g se w k
 |0,w,hn,k=>by
  obtain rfl:=M0 hn
  constructor
  ·rintro⟨p,hp,q⟩;rw[show D6 step []=[0]from rfl,L9]at hp;subst hp;exact⟨[],[],rfl,.inr rfl,q⟩
  rintro⟨u,v,e,_,q⟩;obtain⟨rfl,rfl⟩:=List.append_eq_nil_iff.1 e.symm;exact⟨0,by rw[show D6 step []=[0]from rfl];simp,q⟩
 |n+1,w,hn,k=>by
  obtain⟨w,m,rfl⟩:∃w' m,w=w'++[m]:=⟨w.dropLast,w.getLast (by intro e;rw[e]at hn;simp at hn),(List.dropLast_concat_getLast _).symm⟩
  have ih:=uw hw h0 h n w (by simpa using hn);have a3:=GO hw h0 h w;rw[Cf]
  constructor
  ·rintro⟨p,hp,q⟩
   rcases(h.mem _ m p).1 hp with⟨a2,rfl⟩|⟨p',a0,j,hj,rfl,ht⟩
   ·exact⟨w++[m],[],by simp,.inl a2,q⟩
   obtain⟨k',a1,a5⟩:=(nO hw h0 (a3 p' a0).2 j).1 hj;have a4:=a1.lt hw (pX hw h0 (a3 p' a0).2);obtain⟨u,v,rfl,hu,hv⟩:=(ih k').1 ⟨p',a0,a1⟩;have a6:=hw.lv k' j a4 a5;refine⟨u,v++[m],by rw[Mi],hu,D0.2 ⟨k',j-1,hv,a4,zo,by rw[show j-1+1=j from by omega];exact a5,ht,?_⟩⟩;have e:g.pl ((j:Int)).toNat=(nth g.ls (j-1)).2.2:=by unfold Gr.pl;rw[am (by simp;omega)];simp
   rw[<-e];exact q
  rintro⟨u,v,e,hu,hv⟩
  rcases List.eq_nil_or_concat v with rfl|⟨v,m',rfl⟩
  ·have a2:se=true:=by
    rcases hu with hu|hu
    ·exact hu
    subst hu;simp at e
   exact⟨0,(h.mem _ m 0).2 (.inl ⟨a2,rfl⟩),hv⟩
  rw[List.concat_eq_append]at e hv;rw[<-Mi]at e;obtain⟨rfl,e2⟩:=List.append_inj' e rfl;obtain rfl:m=m':=by simpa using e2
  obtain⟨k',j,p1,p2,p3,p4,p5,p6⟩:=D0.1 hv;obtain⟨p',a0,a1⟩:=(ih k').2 ⟨u,v,rfl,hu,p1⟩;refine⟨((j+1:Nat):Int),(h.mem _ m _).2 (.inr ⟨p',a0,j+1,(nO hw h0 (a3 p' a0).2 _).2 ⟨k',a1,p4⟩,rfl,by simpa using p5⟩),?_⟩;have e:g.pl (((j+1:Nat):Int)).toNat=(nth g.ls j).2.2:=by unfold Gr.pl;rw[am (by simp)];simp
  rw[e];exact p6
def dN(g:Gr)(s:List Int):Nat:=s.foldl (λb p=>b ||| jX g p.toNat) 0
def BK(g:Gr)(i:Nat)(s:List Int):(dN g s).testBit i=s.any λp=>(jX g p.toNat).testBit i:=by
 have a0:∀(s:List Int) (b:Nat),(s.foldl (λb p=>b ||| jX g p.toNat) b).testBit i=(b.testBit i||s.any λp=>(jX g p.toNat).testBit i):=λs=>by
  induction s with
  |nil=>intro b;simp
  |cons p s ih=>intro b;rw[Nq,ih,Qe,Qh,Qp]
 unfold dN;rw[a0,Q3,P4]
def Ap{xs:List Nd}(hs:cz xs=true){step:List Int->Int->List Int}(h:Stp (kJ xs) se step)(w:List Int)(i:Nat):
  (dN (kJ xs) (D6 step w)).testBit i=true↔i<xs.length/\∃u v,w=u++v/\(se=true\/u=[])/\Lg (nth xs i) v:=by
 obtain⟨hw,h0⟩:=CB xs;have a0:=GO hw h0 h w;have hk:=uw hw h0 h w.length w rfl;rw[BK,Nk]
 constructor
 ·rintro⟨p,hp,hb⟩;obtain⟨k,a2,a1⟩:=(yS hw h0 (a0 p hp).2 i).1 hb;obtain⟨u,v,rfl,hu,hv⟩:=(hk k).1 ⟨p,hp,a2⟩;have:=(zy hs i v).1 ⟨k,hv.lt hw h0,hv,a1⟩;exact⟨this.1,u,v,rfl,hu,this.2⟩
 rintro⟨hi,u,v,rfl,hu,hv⟩;obtain⟨k,h1,h2,h3⟩:=(zy hs i v).2 ⟨hi,hv⟩;obtain⟨p,hp,hq⟩:=(hk k).2 ⟨u,v,rfl,hu,h2⟩;exact⟨p,hp,(yS hw h0 (a0 p hp).2 i).2 ⟨k,hq,h3⟩⟩
end
end Go.Proofs.YteolbhblkgjbhaaGreatDoor
section
namespace Go.Proofs
open Go.Proofs.Tryz
open Go.Shelf
def nG:PZ:=⟨fun|189=>113|125=>158|257=>157|128=>209|129=>210|294=>200|295=>201|296=>202|297=>203|298=>204|299=>205|216=>206|300=>207|301=>208|328=>246|329=>247|330=>248|331=>249|332=>250|215=>251|343=>263|n=>n,fun|28=>22|3=>3|46=>87|0=>0|51=>67|53=>24|4=>4|183=>305|182=>304|131=>143|5=>5|9=>9|218=>335|222=>338|228=>345|229=>262|n=>n,fun|n=>n⟩
def np:Qt L4 nG:={
 mixed:=by kernel_rfl
 f125:=func158.J (congrArg some (by kernel_rfl))
 f128:=func209.J (congrArg some (by kernel_rfl))
 f129:=func210.J (congrArg some (by kernel_rfl))
 f189:=func113.J (congrArg some (by kernel_rfl))
 f215:=func251.J (congrArg some (by kernel_rfl))
 f216:=func206.J (congrArg some (by kernel_rfl))
 f257:=func157.J (congrArg some (by kernel_rfl))
 f294:=func200.J (congrArg some (by kernel_rfl))
 f295:=func201.J (congrArg some (by kernel_rfl))
 f296:=func202.J (congrArg some (by kernel_rfl))
 f297:=func203.J (congrArg some (by kernel_rfl))
 f298:=func204.J (congrArg some (by kernel_rfl))
 f299:=func205.J (congrArg some (by kernel_rfl))
 f300:=func207.J (congrArg some (by kernel_rfl))
 f301:=func208.J (congrArg some (by kernel_rfl))
 f328:=func246.J (congrArg some (by kernel_rfl))
 f329:=func247.J (congrArg some (by kernel_rfl))
 f330:=func248.J (congrArg some (by kernel_rfl))
 f331:=func249.J (congrArg some (by kernel_rfl))
 f332:=func250.J (congrArg some (by kernel_rfl))
 f343:=func263.J (congrArg some (by kernel_rfl))
 t0:=R7
 a0:=isAgg0
 z0:=sizeOf0
 v0:=Rg
 t3:=R6
 a3:=Ri
 z3:=Ma
 v3:=Rf
 t4:=R5
 a4:=Rh
 z4:=N1
 v4:=Re
 t5:=underlying5
 a5:=isAgg5
 z5:=sizeOf5
 v5:=zeroValue5
 t9:=underlying9
 a9:=isAgg9
 z9:=NS
 v9:=zeroValue9
 t28:=PN
 a28:=QT
 z28:=ME
 v28:=R4
 t46:=underlying87
 a46:=isAgg87
 z46:=sizeOf87
 v46:=zeroValue87
 t51:=underlying67
 a51:=isAgg67
 z51:=sizeOf67
 v51:=zeroValue67
 t53:=underlying24
 a53:=isAgg24
 z53:=Pb
 v53:=zeroValue24
 t131:=underlying143
 a131:=isAgg143
 z131:=sizeOf143
 v131:=zeroValue143
 t182:=underlying304
 a182:=isAgg304
 z182:=sizeOf304
 v182:=zeroValue304
 t183:=underlying305
 a183:=isAgg305
 z183:=sizeOf305
 v183:=zeroValue305
 t218:=underlying335
 a218:=isAgg335
 z218:=sizeOf335
 v218:=zeroValue335
 t222:=underlying338
 a222:=isAgg338
 z222:=sizeOf338
 v222:=zeroValue338
 t228:=underlying345
 a228:=isAgg345
 z228:=sizeOf345
 v228:=zeroValue345
 t229:=underlying262
 a229:=isAgg262
 z229:=sizeOf262
 v229:=zeroValue262 }
open Go.Sort Go.RowKit in
def Tryz.slices_Sort_int(blk off a1:Nat)(zs:List Int)(w:ln)(hH:Holds (MR .i64) w blk off zs.toArray)(a0:blk<w.heap.size)(a2:zs.length<4611686018427387904):
 Qu L4 113 #[.slice (some ⟨blk,off,none⟩) zs.length a1] w λe w'=>
  e=.returned (.tuple #[])/\∃n os,w'=grow (putRow (MR .i64) (PA w n) blk off (zs.mergeSort λx y=>decide (x<=y)).toArray) os:=Any.slices_Sort_int np blk off a1 zs w hH a0 a2
def lV:PZ:=⟨fun|20=>114|n=>n,fun|22=>22|3=>3|4=>4|0=>0|n=>n,fun|n=>n⟩
def jU:Ql L4 lV:={
 mixed:=by kernel_rfl
 f20:=func114.J (congrArg some (by kernel_rfl))
 t0:=R7
 a0:=isAgg0
 z0:=sizeOf0
 v0:=Rg
 t3:=R6
 a3:=Ri
 z3:=Ma
 v3:=Rf
 t4:=R5
 a4:=Rh
 z4:=N1
 v4:=Re
 t22:=PN
 a22:=QT
 z22:=ME
 v22:=R4
 i3:=by kernel_rfl }
open Go.RowKit Go.Lib Go.Sort in
def Tryz.slices_Compact_int(blk off a0:Nat)(zs:List Int)(w:ln)(hH:Holds (MR .i64) w blk off zs.toArray)(a2:zs.length<=9223372036854775807)(a1:zs.length<=a0):
 Qu L4 114 #[.slice (some ⟨blk,off,none⟩) zs.length a0] w λe w'=>e=.returned (.slice (some ⟨blk,off,none⟩) (MC zs).length a0)/\∃q,w'=putRow (MR .i64) (PA w q) blk off (MC zs++Nc (zs.length-(MC zs).length) 0).toArray:=Any.slices_Compact_int jU blk off a0 zs w hH a2 a1
open Go.RowKit Go.Lib Go.Sort in
def Tryz.slices_Compact_int_empty(a:Option Mr)(a0:Nat)(w:ln):
 Qu L4 114 #[.slice a 0 a0] w λe w'=>e=.returned (.slice a 0 a0)/\w'=w:=Any.slices_Compact_int_empty jU a a0 w
open Go.RowKit Go.Sort in
def Tryz.slices_Sort_int_none(p:Option Mr)(a0:Nat)(w:ln):
 Qu L4 113 #[.slice p 0 a0] w λe w'=>e=.returned (.tuple #[])/\w'=w:=Any.slices_Sort_int_none np p a0 w
end Go.Proofs
end
namespace Go.Proofs.YteolbhblkgjbhaaGreatDoor
open Go.Proofs.Tryz
section
open Go.VL Go.Proofs
set_option maxRecDepth 10000
abbrev encI(c:Int):List ix:=[nI c]
abbrev bp(n:Nat):List ix:=[nI (n:Int)]
def Jf{l:List Nat}(h:Sl bp 1 w v l):Sl encI 1 w v (l.map fun(n:Nat)=>(n:Int)):=
 ⟨by simpa using h.shape,λi hi j u hu=>h.cells i (by simpa using hi) j u (by simpa using hu)⟩
def A1(l:List Int)(c:Int)(sv:ix)(w:ln)(h:Sl encI 1 w sv l):Ret L4 266 [sv,nI c] w λv w'=>v=nI (eu (λi=>c==nth l i) l.length)/\w'=w:=by
 have hl:=h.len_le;apply Ret.enter func266 ntmps266 rfl rfl;refine zh ?_;apply zlp (λx:Nat=>[(0,sv),(1,nI c),(7,nI l.length),(8,nI x)]) (λx=>w) (λx=>x<=l.length/\∀i,i<x->(c==nth l i)=false) (λx=>l.length-x) 0 ⟨Mt _,λi hi=>absurd hi (Ms i)⟩;rintro k ⟨hk,a1⟩;refine zh ?_;refine zC ?_ ?_
 ·intro a0;replace a0:k<l.length:=dT a0;have m1:=h.ld a0;refine zh ?_;refine zC ?_ ?_
  ·intro hy;refine zh ?_;refine ah rfl rfl ⟨by rw[cZ (q:=λi=>c==nth l i) a0 hy a1],rfl⟩
  intro hy;refine zh ?_;refine zxd (k+1) ⟨a0,λi hi=>(Nat.lt_succ_iff_lt_or_eq.1 hi).elim (a1 i) (λe=>by rw[e];exact hy)⟩
 intro a2;replace a2:l.length<=k:=dF a2;refine zh ?_;refine ah rfl rfl ⟨by rw[cX (q:=λi=>c==nth l i) λi hi=>a1 i zo],rfl⟩
def tf(l:List Int)(c:Int)(sv:ix)(w:ln)(h:Sl encI 1 w sv l):Ret L4 255 [sv,nI c] w λv w'=>v=.bool (decide (c∈l))/\w'=w:=by
 have he:jy (λi=>c==nth l i) l.length=decide (c∈l):=by
  rw[iX (p:=λx=>c==x),Q7];simp[Nk]
 apply Ret.enter func255 ntmps255 rfl rfl;refine zh ?_
 apply zc call266 (A1 l c sv w h);rintro v w9 ⟨rfl,a0⟩;rw[a0];clear a0 w9;refine zh ?_
 refine ah rfl rfl ⟨congrArg Pv (firstN_any.J he),rfl⟩
def te(l:List Nat)(c:Nat)(sv:ix)(w:ln)(h:Sl bp 1 w sv l):Ret L4 255 [sv,nI (c:Nat)] w λv w'=>v=.bool (l.contains c)/\w'=w:=by
 refine(tf _ c sv w (Jf h)).mono λv w' ⟨h1,h2⟩=>⟨?_,h2⟩
 rw[h1];congr 1;rw[Q7];simp only[decide_eq_true_eq,MO,List.contains_iff_mem]
 constructor
 ·rintro⟨a,ha,e⟩;have e:a=c:=zo;rw[<-e];exact ha
 exact λhc=>⟨c,hc,rfl⟩
end
section
open Go.VL Go.Proofs Go.Sort
set_option maxRecDepth 10000
def ir(l:List Int):List Int:=l.mergeSort λx y=>decide (x<=y)
def eG(l:List Int):(ir l).length=l.length:=List.length_mergeSort ..
def lD(l:List Int):(l.flatMap encI)=l.map (MR .i64):=by induction l<;>simp_all[encI]
def BF{g:Nat}{os:Array Obj}(d:Array Int)(hi:i≠0)(ho:O g=i):Upd (λk=>k=i) O w O (grow (putRow (MR .i64) (PA w n) g 0 d) os):=by
 obtain⟨h1,h2,h3,h4,h5⟩:=grownBy_sortedI (w:=w) (g:=g) (n:=n) (os:=os) d;exact⟨h1,h2,h3,h4,λk hk hn=>h5 k hk (λe=>hn (by rw[<-ho];congr 1;exact QC e)),λ_ _=>rfl,λ_ h=>.inl h,λe=>hi e.symm⟩
def kN{l:List Int}(hR:Rng B O w)(hr:RowT encI 3 1 O w i v l)(hi:i≠0)(hl:l.length<=1000000):Ret L4 113 [v] w λ_ w'=>RowT encI 3 1 O w' i v (ir l)/\Upd (λk=>k=i) O w O w'/\Rng B O w':=by
 rcases hr.1.row.2 with⟨rfl,h0⟩|⟨g,a6,a8,rfl,a7,hg,a2,a5,a4,ht⟩
 ·obtain rfl:l=[]:=M0 h0;refine Mk (Tryz.slices_Sort_int_none none 0 w) λe w' ⟨he,hw⟩=>?_
  subst he;subst hw;exact⟨by rw[M0 (eG [])];exact hr,Upd.refl (λe=>hi e.symm) _ _,hR⟩
 have a0:=hr.1.tag g rfl;rw[lD]at ht;refine Mk (Tryz.slices_Sort_int g 0 a6 l w (holds_of_blockI (ss:=l) hg (by simpa using ht)) (bN hg) zo) λe w' ⟨he,n,os,hw⟩=>?_
 subst he;subst hw;have hU:=BF (w:=w) (n:=n) (os:=os) (ir l).toArray hi a0;refine⟨⟨⟨?_,λg' a1=>by simp[Na]at a1;subst a1;exact a0⟩,λ_ _=>rfl⟩,hU,hR.U hU⟩;have:=ownsRow_sortedI (w:=w) (n:=n) (os:=os) (base:=0) (ss:=l) (ts:=ir l) (eG l) (Mt _) hg a2 a5 a4;rw[lD,eG];exact this
def Ba(l:List Int):(MC l).length<=l.length:=by
 unfold MC N5;rw[Q5];exact MF (Pg _ _) (by simp)
def fm{l:List Int}(hR:Rng B O w)(hr:RowT encI 3 1 O w i v l)(hi:i≠0)(hl:l.length<=1000000):Ret L4 114 [v] w λu w'=>RowT encI 3 1 O w' i u (MC l)/\Upd (λk=>k=i) O w O w'/\Rng B O w':=by
 rcases hr.1.row.2 with⟨rfl,h0⟩|⟨g,a4,a7,rfl,b0,hg,a5,a6,a',ht⟩
 ·obtain rfl:l=[]:=M0 h0;refine Mk (Tryz.slices_Compact_int_empty none 0 w) λe w' ⟨he,hw⟩=>?_
  subst he;subst hw;exact⟨hr,Upd.refl (λe=>hi e.symm) _ _,hR⟩
 have a0:=hr.1.tag g rfl;rw[lD]at ht;have a9:=Ba l;refine Mk (Tryz.slices_Compact_int g 0 a4 l w (holds_of_blockI (ss:=l) hg (by simpa using ht)) zo a5) λe w' ⟨he,n,hw⟩=>?_
 subst he;obtain⟨ts,a1⟩:∃ts,ts=MC l++Nc (l.length-(MC l).length) 0:=⟨_,rfl⟩
 rw[<-a1]at hw;have a8:ts.length=l.length:=by rw[a1];simp;omega
 have hU:=BF (w:=w) (n:=n) (os:=#[]) ts.toArray hi a0;have a2:=heap_sortedI (n:=n) (os:=#[]) ts.toArray hg;rw[grow_empty,<-hw]at hU a2;refine⟨⟨⟨⟨by rw[lD];simp,.inr ⟨g,a4,_,rfl,Mt _,a2,zo,a6,by simp[putCells];omega,?_⟩⟩,λg' a3=>by simp[Na]at a3;subst a3;exact a0⟩,λ_ _=>rfl⟩,hU,hR.U hU⟩;have h2:=congrArg (NK (MC l).length) (take_putCellsI a7 ts zo);rw[List.take_take,NT zo]at h2;rw[lD,Nx,h2,a1,NQ,List.take_append_of_le_length (by simp),List.take_of_length_le (by simp)]
end
section
open Go.VL Go.Proofs
set_option maxRecDepth 10000
def ry(l:List Int):List Int:=MC (ir l)
structure Cmp(d:Array Int)(m:Nat)(r:List Int):Prop where
 mem:∀x,x∈r↔∃j,j<m/\d[j]! = x
 pw:r.Pairwise (· < ·)
def zX(d:Array Int)(hs:∀i j,i<=j->j<d.size->d[i]!<=d[j]!):∀m,m<=d.size->Cmp d m (N5 d m)
 |0,_=>⟨λx=>by simp[N5],by simp[N5]⟩
 |m+1,hm=>by
  have ih:=zX d hs m zo;rw[Lib.compactUpTo_succ]
  by_cases hk:Q6 d m=true
  ·rw[ap hk];refine⟨λx=>?_,?_⟩
   ·rw[Md,ih.mem,L9]
    constructor
    ·rintro(⟨j,hj,e⟩|e)
     ·exact⟨j,zo,e⟩
     exact⟨m,zo,e.symm⟩
    rintro⟨j,hj,e⟩
    by_cases a0:j=m
    ·subst a0;exact .inr e.symm
    exact .inl ⟨j,zo,e⟩
   refine List.pairwise_append.2 ⟨ih.pw,by simp,λa ha b hb=>?_⟩;rw[L9]at hb;subst hb;obtain⟨j,hj,rfl⟩:=(ih.mem a).1 ha;simp only[Q6,decide_eq_true_eq]at hk;have h1:=hs j (m-1) zo zo;have h2:=hs (m-1) m zo zo
   rcases hk with hk|hk
   ·omega
   omega
  rw[am hk,MI];refine⟨λx=>?_,ih.pw⟩;rw[ih.mem]
  constructor
  ·rintro⟨j,hj,e⟩;exact⟨j,zo,e⟩
  rintro⟨j,hj,e⟩
  by_cases a0:j=m
  ·subst a0;simp only[Q6,decide_eq_true_eq,not_or]at hk;obtain⟨h1,h2⟩:=hk;exact⟨j-1,zo,by rw[<-e];exact(LY λa1=>h2 λe2=>a1 e2.symm)⟩
  exact⟨j,zo,e⟩
def ud(l:List Int):(ir l).Pairwise (·<=·):=by
 have:=List.pairwise_mergeSort (le:=λx y:Int=>decide (x<=y)) (λa b c h1 h2=>by simp at h1 h2 ⊢;omega) (λa b=>by simp;omega) l;exact this.imp λh=>by simpa using h
def B1(l:List Int)(x:Int):x∈ir l↔x∈l:=List.mem_mergeSort ..
def vK(l:List Int):(∀x,x∈ry l↔x∈l)/\(ry l).Pairwise (· < ·):=by
 have a0:∀j,j<(ir l).length->(ir l).toArray[j]! = nth (ir l) j:=λj hj=>by
  rw[aD hj,getElem!_pos _ j (by simpa using hj)];simp
 have h:=zX (ir l).toArray (λi j a1 hj=>by
  have hj:j<(ir l).length:=by simpa using hj
  rw[a0 i zo,a0 j hj]
  by_cases e:i=j
  ·subst e;exact NR _
  have:=List.pairwise_iff_getElem.1 (ud l) i j zo hj zo
  rw[aD zo,aD hj];exact this) (ir l).length (by simp)
 refine⟨λx=>?_,h.pw⟩;show x∈N5 _ _↔_;rw[h.mem,<-B1 l x]
 constructor
 ·rintro⟨j,hj,rfl⟩;rw[a0 j hj];exact aZ hj
 intro hx;obtain⟨j,hj,rfl⟩:=cu hx;exact⟨j,hj,a0 j hj⟩
def vJ(l:List Int)(x:Int):x∈ry l↔x∈l:=(vK l).1 x
def zY(l:List Int):(ry l).Pairwise (· < ·):=(vK l).2
def FF{a:List Int}(h:a.Pairwise (· < ·))(hb:∀x∈a,0<=x/\x.toNat<n):a.length<=n:=by
 have hn:(a.map Int.toNat).Nodup:=by
  refine List.pairwise_map.2 (h.imp_of_mem fun {x y} hx hy a0=>?_);have:=hb x hx;have:=hb y hy;omega
 have:=gI hn (n:=n) λx hx=>by
  obtain⟨y,hy,rfl⟩:=MO.1 hx;exact(hb y hy).2
 simpa using this
mutual
def dJ:Nd->Nat
 |.mk k _ l=>if l.isEmpty=true/\k≠9 then 1 else bB l
def bB:List Nd->Nat
 |[]=>0
 |t::r=>dJ t+bB r
end
mutual
/-- Parts stand where parts may stand. -/
def AZ:Nd->Bool
 |.mk k _ l=>(if k=4\/k=5\/k=6\/k=7\/k=8 then !l.isEmpty else l.isEmpty)&&kq l
def kq:List Nd->Bool
 |[]=>true
 |t::r=>AZ t&&kq r
end
mutual
def gj:∀(t:Nd) (a b:Nat) (g:Gr),AZ t=true->fZ t=true->(fO t a b g).ls.length=g.ls.length+dJ t
 |.mk k c l,a,b,g,hk,hs=>by
  unfold AZ at hk
  unfold fZ at hs
  simp only[M4]at hk hs
  obtain⟨hk1,hk2⟩:=hk
  obtain⟨hs1,hs2⟩:=hs
  unfold fO dJ
  by_cases h4:k=4
  ·rw[ap zo]at hk1
   rw[ap h4,oR l a b g hk2 hs2,am (by rintro⟨e,_⟩;rw[e]at hk1;simp at hk1)]
  rw[am h4]
  by_cases h5:k=5
  ·rw[ap zo]at hk1
   rw[ap h5,oS l a b g hk2 hs2,am (by rintro⟨e,_⟩;rw[e]at hk1;simp at hk1)]
  rw[am h5]
  by_cases h678:k=6\/k=7\/k=8
  ·rw[ap zo]at hk1
   rw[am h4,ap h678]at hs1
   have hO:∀(k:Int) (g:Gr) (i:Nat),(layO k g i).ls=g.ls:=λk g i=>by unfold layO;split<;>split<;>rfl
   rw[ap h678,hO,yh l _ _ _ hk2 hs2 (of_decide_eq_true hs1),am (by rintro⟨e,_⟩;rw[e]at hk1;simp at hk1)]
   rfl
  rw[am h678]
  rw[am zo]at hk1
  have hl:l=[]:=by simpa using hk1
  subst hl
  by_cases h9:k=9
  ·rw[ap h9,am (by rintro⟨_,e⟩;exact e h9)]
   rfl
  rw[am h9,ap ⟨rfl,h9⟩]
  simp[Gr.leaf]
def oR:∀(l:List Nd) (a b:Nat) (g:Gr),kq l=true->cz l=true->(nT l a b g).ls.length=g.ls.length+bB l
 |[],_,_,g,_,_=>by simp[nT,bB]
 |t::r,a,b,g,hk,hs=>by
  unfold kq at hk
  unfold cz at hs
  simp only[M4]at hk hs
  unfold nT bB
  split
  ·rename_i hr
   have hr:r=[]:=by simpa using hr
   subst hr
   rw[gj t a b g hk.1 hs.1];simp[bB]
  rw[oR r _ _ _ hk.2 hs.2,gj t _ _ _ hk.1 hs.1]
  show g.ls.length+_+_=_
  omega
def oS:∀(l:List Nd) (a b:Nat) (g:Gr),kq l=true->cz l=true->(nV l a b g).ls.length=g.ls.length+bB l
 |[],_,_,g,_,_=>by simp[nV,bB]
 |t::r,a,b,g,hk,hs=>by
  unfold kq at hk
  unfold cz at hs
  simp only[M4]at hk hs
  unfold nV bB
  rw[oS r _ _ _ hk.2 hs.2,gj t _ _ _ hk.1 hs.1]
  omega
def yh:∀(l:List Nd) (a b:Nat) (g:Gr),kq l=true->cz l=true->l.length=1->(nU l a b g).ls.length=g.ls.length+bB l
 |[],_,_,g,_,_,h=>by simp at h
 |t::r,a,b,g,hk,hs,h=>by
  have hr:r=[]:=by simpa using h
  subst hr
  unfold kq at hk
  unfold cz at hs
  simp only[M4]at hk hs
  unfold nU
  rw[gj t _ _ _ hk.1 hs.1];simp[bB]
end
def nf:∀(xs:List Nd) (i:Nat) (g:Gr),kq xs=true->cz xs=true->(cF xs i g).ls.length=g.ls.length+bB xs
 |[],_,g,_,_=>by simp[cF,bB]
 |x::r,i,g,hk,hs=>by
  unfold kq at hk;unfold cz at hs;simp only[M4]at hk hs;unfold cF bB;rw[nf r _ _ hk.2 hs.2,nN,gj x _ _ _ hk.1 hs.1];show g.ls.length+_+_=_;omega
def xm(g:Gr):Nat:=(g.ks.map λk=>k.2.1.length).sum
def rS(f:Kt->Nat):∀(l:List Kt) (a:Nat) (x:Kt),a<l.length->((l.set a x).map f).sum+f (nth l a)=(l.map f).sum+f x
 |[],a,_,h=>absurd h (Ms a)
 |y::l,0,x,_=>by rw[ar];simp;omega
 |y::l,a+1,x,h=>by
  have:=rS f l a x (by simpa using h);rw[aX];simp only[List.set_cons_succ,M1,P3];omega
def Gk(g:Gr):xm g.knot=xm g:=by simp[xm,Gr.knot]
def Gn{g:Gr}{b:Nat}(ha:a<g.ks.length):xm (g.free a b)=xm g:=by
 have:=rS (λk=>k.2.1.length) g.ks a (g.fr a++[b],g.lv a,g.en a) ha;unfold xm Gr.free;simp only[Gr.lv]at this ⊢;omega
def F4{g:Gr}{b:Nat}(ha:a<g.ks.length):xm (g.mark a b)=xm g:=by
 have:=rS (λk=>k.2.1.length) g.ks a (g.fr a,g.lv a,b) ha;unfold xm Gr.mark;simp only[Gr.lv]at this ⊢;omega
def Gd{g:Gr}{x c:Int}{b:Nat}(ha:a<g.ks.length):xm (g.leaf x c a b)=xm g+1:=by
 have:=rS (λk=>k.2.1.length) g.ks a (g.fr a,g.lv a++[g.ls.length+1],g.en a) ha;unfold xm Gr.leaf;simp only[Gr.lv,Mn,MP,Np]at this ⊢;omega
def Tot(g:Gr):Prop:=xm g=g.ls.length
def Tot.knot{g:Gr}(h:Tot g):Tot g.knot:=(Gk g).J h
def Tot.free{g:Gr}(h:Tot g){a b:Nat}(ha:a<g.ks.length):Tot (g.free a b):=(Gn ha).J h
def Tot.mark{g:Gr}(h:Tot g){a b:Nat}(ha:a<g.ks.length):Tot (g.mark a b):=(F4 ha).J h
def Tot.leaf{g:Gr}(h:Tot g){x c:Int}{a b:Nat}(ha:a<g.ks.length):Tot (g.leaf x c a b):=by
 unfold Tot;rw[Gd ha,ko];simp;exact h
def Tot.layO{g:Gr}(h:Tot g){k:Int}{i:Nat}(hi:i+1<g.ks.length):Tot (layO k g i):=by
 unfold Go.Proofs.YteolbhblkgjbhaaGreatDoor.layO;split<;>split
 ·exact h
 ·exact h.free zo
 ·exact h.free hi
 exact(h.free zo).free (by rw[bj];exact hi)
mutual
def lz:∀(t:Nd) (a b:Nat) (g:Gr),WF g->a<g.ks.length->b<g.ks.length->Tot g->Tot (fO t a b g)
 |.mk k c l,a,b,g,h,ha,hb,hM=>by
  unfold fO
  split
  ·exact zH l a b g h ha hb hM
  split
  ·exact zK l a b g h ha hb hM
  split
  ·have hl:=eC g a b
   have hwf:=fe h ha hb
   obtain⟨h1,h2⟩:=mF l g.ks.length (g.ks.length+1) (bT g a b) hwf zo zo
   have:=h2.len
   have hk2:g.knot.knot.ks.length=g.ks.length+2:=by rw[aS,aS]
   have h3:=Gi l g.ks.length (g.ks.length+1) (bT g a b) hwf zo zo ((hM.knot.knot.free zo).free (by rw[bj];omega))
   exact h3.layO (by show _<(nU l g.ks.length (g.ks.length+1) (bT g a b)).ks.length;omega)
  split
  ·exact hM.free ha
  exact hM.leaf ha
def zH:∀(l:List Nd) (a b:Nat) (g:Gr),WF g->a<g.ks.length->b<g.ks.length->Tot g->Tot (nT l a b g)
 |[],_,_,g,_,_,_,hM=>hM
 |t::r,a,b,g,h,ha,hb,hM=>by
  unfold nT
  split
  ·exact lz t a b g h ha hb hM
  have hl:=aS g
  obtain⟨h1,h2⟩:=cQ t a g.ks.length g.knot h.knot zo zo
  have:=h2.len
  exact zH r _ _ _ h1 zo zo (lz t _ _ _ h.knot zo zo hM.knot)
def zK:∀(l:List Nd) (a b:Nat) (g:Gr),WF g->a<g.ks.length->b<g.ks.length->Tot g->Tot (nV l a b g)
 |[],_,_,g,_,_,_,hM=>hM
 |t::r,a,b,g,h,ha,hb,hM=>by
  unfold nV
  obtain⟨h1,h2⟩:=cQ t a b g h ha hb
  have:=h2.len
  exact zK r _ _ _ h1 zo zo (lz t a b g h ha hb hM)
def Gi:∀(l:List Nd) (a b:Nat) (g:Gr),WF g->a<g.ks.length->b<g.ks.length->Tot g->Tot (nU l a b g)
 |[],_,_,g,_,_,_,hM=>hM
 |t::_,a,b,g,h,ha,hb,hM=>by
  unfold nU
  exact lz t a b g h ha hb hM
end
def FP{g:Gr}(h:WF g)(h0:0<g.ks.length)(x:Nd)(i:Nat)(ht:Tot g):Tot (nN x i g):=by
 have e1:=aS g;have e2:=cU g.knot g.ks.length (i+1);have e3:=aS (g.knot.mark g.ks.length (i+1));have hl:=ez g i;exact lz x _ _ _ (eW h h0 i).1 zo zo (((ht.knot.mark zo).knot).free zo)
def vL:∀(xs:List Nd) (i:Nat) (g:Gr),WF g->0<g.ks.length->Tot g->Tot (cF xs i g)
 |[],_,_,_,_,ht=>ht
 |x::r,i,g,h,h0,ht=>by
  obtain⟨h1,h2,h3⟩:=mu h h0 x i;exact vL r (i+1) _ h1 zo (FP h h0 x i ht)
def rT(f:Kt->Nat)(l:List Kt):(l.map f).sum=((Mv l.length).map λi=>f (nth l i)).sum:=by
 congr 1;apply List.ext_getElem
 ·simp
 intro i h1 h2;simp only[PX,PD];rw[aD (by simpa using h1)]
def BX(f:Nat->Nat)(n:Nat):∀(l:List Nat),l.Nodup->(l.map f).sum<=((l.filter λx=>x != n).map f).sum+f n
 |[],_=>by simp
 |a::l,h=>by
  have h':=List.nodup_cons.1 h
  by_cases e:a=n
  ·subst e;have hf:(l.filter λx=>x != a)=l:=List.filter_eq_self.2 λx hx=>by
    simp only[bne_iff_ne,ne_eq];intro e;exact h'.1 (by rw[<-e];exact hx)
   rw[List.filter_cons_of_neg (by simp),hf];simp;omega
  have:=BX f n l h'.2;rw[List.filter_cons_of_pos (by simpa using e)];simp only[M1,P3];omega
def tY(f:Nat->Nat):∀(n:Nat) (l:List Nat),l.Nodup->(∀x∈l,x<n)->(l.map f).sum<=((Mv n).map f).sum
 |0,l,_,h=>by
  have:l=[]:=by cases l with
   |nil=>rfl
   |cons a r=>exact absurd (h a (by simp)) (Ms _)
  subst this;simp
 |n+1,l,hn,h=>by
  have h1:=BX f n l hn;have h2:=tY f n (l.filter λx=>x != n) (hn.filter _) λx hx=>by
   have hx:=No.1 hx;have:=h x hx.1;have:x≠n:=by simpa using hx.2
   omega
  rw[List.range_succ,NQ,List.sum_append];simp only[M1,Mm,P3,List.sum_nil];omega
def xF{g:Gr}(hw:WF g){k:Nat}(hk:k<g.ks.length):(fD g k).Nodup/\∀x∈fD g k,x<g.ks.length:=by
 have a0:∀(n i:Nat) (l:List Nat),Rc g k i l->(iD g n i l).Nodup/\∀x∈iD g n i l,x<g.ks.length:=λn=>by
  induction n with
  |zero=>exact λi l h=>⟨h.nd,h.lt⟩
  |succ n ih=>
   intro i l h;unfold iD
   split
   ·rename_i hi;exact ih _ _ (h.step hw hi)
   exact⟨h.nd,h.lt⟩
 exact a0 _ _ _ (tC hk)
def vB(f:Nat->List Nat):∀(l:List Nat),(l.flatMap f).length=(l.map λk=>(f k).length).sum
 |[]=>rfl
 |a::l=>by simp
def zz{g:Gr}(hw:WF g)(ht:Tot g){p:Nat}(hp:g.pl p<g.ks.length):(dm g p).length<=g.ls.length:=by
 obtain⟨h1,h2⟩:=xF hw hp;unfold dm;rw[vB];have:=tY (λk=>(g.lv k).length) g.ks.length _ h1 h2;have e:((Mv g.ks.length).map λk=>(g.lv k).length).sum=xm g:=(rT (λk=>k.2.1.length) g.ks).symm;rw[e,ht]at this;exact this
def JY(se:Bool)(g:Gr)(s:List Int)(m:Int):List Int:=
 (if se=true then [0]else [])++s.flatMap λp=>((dm g p.toNat).filter λj=>de (nth g.ls (j-1)).1 (nth g.ls (j-1)).2.1 m).map fun(j:Nat)=>(j:Int)
def dj(se:Bool)(g:Gr)(s:List Int)(m:Int):List Int:=ry (JY se g s m)
def oi(se:Bool)(g:Gr):Stp g se (dj se g):=⟨λs m x=>by
 unfold dj JY;rw[vJ,Md,NL]
 constructor
 ·rintro(h|⟨p,hp,h⟩)
  ·cases se with
   |true=>rw[ap rfl]at h;exact .inl ⟨rfl,L9.1 h⟩
   |false=>rw[am zd]at h;simp at h
  obtain⟨j,hj,rfl⟩:=MO.1 h;obtain⟨h1,h2⟩:=No.1 hj;exact .inr ⟨p,hp,j,h1,rfl,h2⟩
 rintro(⟨h,rfl⟩|⟨p,hp,j,h1,rfl,h2⟩)
 ·rw[ap h];exact .inl (by simp)
 exact .inr ⟨p,hp,MO.2 ⟨j,No.2 ⟨h1,h2⟩,rfl⟩⟩⟩
def Fo{g:Gr}(hw:WF g)(h0:0<g.ks.length)(hs:inP g s)(m:Int):(dj se g s m).length<=g.ls.length+1:=
 FF (zY _) λx hx=>by have:=xr hw h0 (oi se g) hs m x hx;exact⟨this.1,zo⟩
def IC{g:Gr}(hw:WF g)(h0:0<g.ks.length)(ht:Tot g):∀ {s:List Int},inP g s->(JY se g s m).length<=1+s.length*g.ls.length:=fun {s} hs=>by
 have a0:∀(s:List Int),inP g s->(s.flatMap λp=>((dm g p.toNat).filter λj=>de (nth g.ls (j-1)).1 (nth g.ls (j-1)).2.1 m).map fun(j:Nat)=>(j:Int)).length<=s.length*g.ls.length:=λs=>by
  induction s with
  |nil=>intro _;simp
  |cons p s ih=>
   intro h;have h1:=ih λx hx=>h x (by simp[hx])
   have h2:=zz hw ht (pX hw h0 (h p (by simp)).2);have h3:=Pg (λj=>de (nth g.ls (j-1)).1 (nth g.ls (j-1)).2.1 m) (dm g p.toNat);simp only[MM,Mn,Q5,MP,Nf,Nat.one_mul];omega
 have:=a0 s hs;unfold JY;rw[Mn]
 split
 ·rw[List.length_singleton];omega
 rw[Np];omega
end
section
open Go.VL Go.Proofs
set_option maxRecDepth 10000
def Fa(S:List (List Int))(s:List Int):Option Nat:=S.findIdx? (· == s)
def D8(S:List (List Int))(s:List Int):Nat:=(Fa S s).getD S.length
def sG(S:List (List Int))(s:List Int):List (List Int):=if(Fa S s).isSome=true then S else S++[s]
def C3{S:List (List Int)}{k:Nat}(h:Fa S s=some k):k<S.length/\nth S k=s:=by
 obtain⟨h1,h2,_⟩:=List.findIdx?_eq_some_iff_getElem.1 h;exact⟨h1,by rw[aD h1];simpa using h2⟩
def zn(S:List (List Int))(s:List Int):∃r,sG S s=S++r:=by
 unfold sG
 split
 ·exact⟨[],by simp⟩
 exact⟨_,rfl⟩
def IP(S:List (List Int))(s:List Int):D8 S s<(sG S s).length/\nth (sG S s) (D8 S s)=s:=by
 unfold D8 sG
 cases h:Fa S s with
 |some k=>exact C3 h
 |none=>
  simp only[Option.getD_none,Option.isSome_none,PH,if_false];exact⟨by simp,by rw[aC,am zo,Qw,ar]⟩
def FR(S:List (List Int))(s:List Int):S.length<=(sG S s).length/\(sG S s).length<=S.length+1:=by
 unfold sG
 split
 ·omega
 simp
def FQ{S:List (List Int)}{k:Nat}(h:k<S.length):nth (sG S s) k=nth S k:=by
 obtain⟨r,hr⟩:=zn S s;rw[hr,aC,ap h]
def dX(step:List Int->Int->List Int)(s:List Int)(S:List (List Int)):Nat->List (List Int)×List Nat
 |0=>(S,[])
 |m+1=>(sG (dX step s S m).1 (step s (m:Nat)),(dX step s S m).2++[D8 (dX step s S m).1 (step s (m:Nat))])
structure RowI(step:List Int->Int->List Int)(s:List Int)(S S':List (List Int))(r:List Nat)(m:Nat):Prop where
 pre:∃q,S'=S++q
 top:S'.length<=S.length+m
 len:r.length=m
 lt:∀j,j<m->nth r j<S'.length/\nth S' (nth r j)=step s (j:Nat)
 mem:∀x∈S',x∈S\/∃j:Nat,j<m/\x=step s (j:Nat)
def la(step:List Int->Int->List Int)(s:List Int)(S:List (List Int)):∀m,RowI step s S (dX step s S m).1 (dX step s S m).2 m
 |0=>⟨⟨[],by simp[dX]⟩,by simp[dX],rfl,λj hj=>absurd hj (Ms j),λx hx=>.inl hx⟩
 |m+1=>by
  have ih:=la step s S m;unfold dX;generalize dX step s S m=R at *;obtain⟨S1,r⟩:=R;dsimp only at ih ⊢;obtain⟨q,hq⟩:=ih.pre;obtain⟨q2,a4⟩:=zn S1 (step s (m:Nat));have a5:=IP S1 (step s (m:Nat));have hl:=FR S1 (step s (m:Nat));have a0:=ih.top;have a3:=ih.len;refine⟨⟨q++q2,by rw[a4,hq,Mi]⟩,zo,by simp[a3],λj hj=>?_,λx hx=>?_⟩
  ·rw[aC]
   by_cases e:j<r.length
   ·rw[ap e];obtain⟨a1,a2⟩:=ih.lt j zo;exact⟨zo,by rw[FQ a1];exact a2⟩
   rw[am e,show j-r.length=0 from by omega,ar];obtain rfl:j=m:=zo;exact a5
  unfold sG at hx
  split at hx
  ·rcases ih.mem x hx with h|⟨j,hj,e⟩
   ·exact .inl h
   exact .inr ⟨j,zo,e⟩
  rcases Md.1 hx with hx|hx
  ·rcases ih.mem x hx with h|⟨j,hj,e⟩
   ·exact .inl h
   exact .inr ⟨j,zo,e⟩
  exact .inr ⟨m,zo,L9.1 hx⟩
def I9(step:List Int->Int->List Int)(tells:List Int->Nat):Nat->Nat->List (List Int)->List (List Nat)->List Nat->Option (List (List Nat)×List Nat)
 |0,_,_,_,_=>none
 |n+1,i,S,rows,tls=>
  if i<S.length then
   if 1000<(dX step (nth S i) S 37).1.length then none
   else I9 step tells n (i+1) (dX step (nth S i) S 37).1 (rows++[(dX step (nth S i) S 37).2]) (tls++[tells (nth S i)])
  else some (rows,tls)
def Gt(step:List Int->Int->List Int)(a0:List Int->Nat):Option (List (List Nat)×List Nat):=I9 step a0 1002 0 [[0]] [] []
structure DI(step:List Int->Int->List Int)(tells:List Int->Nat)(i:Nat)(S:List (List Int))(rows:List (List Nat))(tls:List Nat):Prop where
 le:i<=S.length
 rl:rows.length=i
 tl:tls.length=i
 p0:0<S.length
 fst:nth S 0=[0]
 len:S.length<=1000
 row:∀j,j<i->(nth rows j).length=37/\∀m:Nat,m<37->nth (nth rows j) m<S.length/\nth S (nth (nth rows j) m)=step (nth S j) (m:Nat)
 tel:∀j,j<i->nth tls j=tells (nth S j)
def Al(step:List Int->Int->List Int)(a0:List Int->Nat):DI step a0 0 [[0]] [] []:=⟨zd,rfl,rfl,zd,ar _ _,zd,λj hj=>absurd hj (Ms j),λj hj=>absurd hj (Ms j)⟩
def DI.next{step:List Int->Int->List Int}{a3:List Int->Nat}{S:List (List Int)}{rows:List (List Nat)}{a4:List Nat}(h:DI step a3 i S rows a4)(hi:i<S.length)(hl:(dX step (nth S i) S 37).1.length<=1000):
  DI step a3 (i+1) (dX step (nth S i) S 37).1 (rows++[(dX step (nth S i) S 37).2]) (a4++[a3 (nth S i)]):=by
 have hr:=la step (nth S i) S 37;generalize dX step (nth S i) S 37=R at *;obtain⟨S1,r⟩:=R;dsimp only at hr hl ⊢;obtain⟨q,hq⟩:=hr.pre;have a0:∀k,k<S.length->nth S1 k=nth S k:=λk hk=>by rw[hq,aC,ap hk]
 have a5:S.length<=S1.length:=by rw[hq];simp
 have h1:=h.rl;have h2:=h.tl;refine⟨zo,by simp[h1],by simp[h2],zo,by rw[a0 0 h.p0];exact h.fst,hl,λj hj=>?_,λj hj=>?_⟩
 ·rw[aC]
  by_cases e:j<rows.length
  ·rw[ap e];obtain⟨a1,a2⟩:=h.row j zo;refine⟨a1,λm hm=>?_⟩;obtain⟨b1,b2⟩:=a2 m hm;exact⟨zo,by rw[a0 _ b1,a0 j zo];exact b2⟩
  rw[am e,show j-rows.length=0 from by omega,ar];obtain rfl:j=i:=zo;refine⟨hr.len,λm hm=>?_⟩;obtain⟨b1,b2⟩:=hr.lt m hm;exact⟨b1,by rw[a0 j hi];exact b2⟩
 rw[aC]
 by_cases e:j<a4.length
 ·rw[ap e,a0 j zo];exact h.tel j zo
 rw[am e,show j-a4.length=0 from by omega,ar];obtain rfl:j=i:=zo;rw[a0 j hi]
def vG{step:List Int->Int->List Int}{a0:List Int->Nat}:∀(n i:Nat) (S:List (List Int)) (rows:List (List Nat)) (a1:List Nat) (d:List (List Nat)×List Nat),DI step a0 i S rows a1->I9 step a0 n i S rows a1=some d->∃S',DI step a0 S'.length S' d.1 d.2
 |0,_,_,_,_,_,_,h=>by cases h
 |n+1,i,S,rows,a1,d,hd,h=>by
  unfold I9 at h
  split at h
  ·rename_i hi
   split at h
   ·cases h
   exact vG n _ _ _ _ d (hd.next hi zo) h
  rename_i hi
  cases h
  have:=hd.le;obtain rfl:i=S.length:=zo;exact⟨S,hd⟩
def ph{step:List Int->Int->List Int}{a0:List Int->Nat}{d:List (List Nat)×List Nat}(h:Gt step a0=some d):∃S,DI step a0 S.length S d.1 d.2:=vG _ _ _ _ _ d (Al _ _) h
def jZ(rows:List (List Nat))(w:List Nat)(q:Nat):Nat:=w.foldl (λq m=>nth (nth rows q) m) q
def ze{step:List Int->Int->List Int}{a0:List Int->Nat}{S:List (List Int)}{rows:List (List Nat)}{a3:List Nat}(h:DI step a0 S.length S rows a3):∀(w:List Nat),(∀m∈w,m<37)->∀q,q<S.length->jZ rows w q<S.length/\nth S (jZ rows w q)=w.foldl (λs (m:Nat)=>step s (m:Int)) (nth S q)
 |[],_,q,hq=>⟨hq,rfl⟩
 |m::w,hw,q,hq=>by
  obtain⟨a1,a2⟩:=(h.row q hq).2 m (hw m (by simp));have:=ze h w (λx hx=>hw x (by simp[hx])) _ a1;rw[a2]at this;exact this
def xd(s:List Int):List UInt8:=s.flatMap λp=>[Pd (p.toNat / 256),Pd (p.toNat % 256)]
def okS(s:List Int):Prop:=∀x∈s,0<=x/\x.toNat<=999
def zM:∀ {s t:List Int},okS s->okS t->xd s=xd t->s=t
 |[],[],_,_,_=>rfl
 |[],b::t,_,_,h=>by simp[xd]at h
 |a::s,[],_,_,h=>by simp[xd]at h
 |a::s,b::t,hs,ht,h=>by
  have h1:=hs a (by simp);have h2:=ht b (by simp);unfold xd at h;simp only[MM,Mz,N2,MW]at h;obtain⟨e1,e2,e3⟩:=h;have e1:=congrArg Qr e1;have e2:=congrArg Qr e2;simp only[UInt8.toNat_ofNat']at e1 e2;have:a=b:=zo;subst this;rw[zM (λx hx=>hs x (by simp[hx])) (λx hx=>ht x (by simp[hx])) e3]
end
end Go.Proofs.YteolbhblkgjbhaaGreatDoor
