/- Texts that the proof of this statement needs, merged and shortened. -/
import Derived.Test.YtcfhbfflgnbacaaGreatDoorRows
import Derived.Test.YtcfhbfflgnbacaaGreatDoorCards
import Derived.Test.YtcfhbfflgnbacaaGreatDoorTie
import Derived.SevenTiedAt
import Derived.LaidMore
import Derived.LaidHandle
import Derived.LaidLaws
import Derived.Lay
import Derived.Lib.LaidTab
import Derived.Calls
import Derived.Tactics
import Derived.Deep.Quiet
import Derived.Below
import Derived.OwnWalk
import Derived.IntWalk
import Derived.Deep.LoopGhost
import Derived.Great.BuildSlice
import Derived.OrdersHeld
import Derived.StillTail
import Derived.WalkKit
import Derived.ProofKit
import Derived.OpenShut
import Derived.ShutString
import Derived.ChangeOld
import Derived.Deep.Matrix
import Derived.Deep.Slices
import Derived.Test.YtcfhbfflgnbacaaGreatDoorChecked
import Derived.Laws.Strings3
import Derived.Laws.Concat
import Derived.Laws.Slices
import Derived.Laws.Cover3
import Derived.Laws.Pointers
import Derived.Laws.OwnMore
import Derived.Laws.IdiomStrings
import Derived.Laws.BytesArg
import Derived.RangeFuncLeaves
import Derived.RangeFuncCalls
import Derived.RangeFuncSeq
import Derived.TacticsIn
import Derived.Laws.LoneSync
import Derived.Laws.CopyRow
import Derived.Lib.Builder
import Derived.Lib.AppendStr
import Derived.Lib.UnsafeStr
import Derived.Laws.RangeString
import Derived.Scope
import Derived.Test.YtcfhbfflgnbacaaGreatDoorProg
import Derived.Shelf.Sort.Plain
import Derived.Shelf.Slices.In.SortNone
import Derived.Ground.Names2Prog
import Derived.Shelf.Slices.CompactI
import Derived.Sort.OwnSortedInts
import Derived.Maps.RangeRun
import Derived.ChangeKeysEq
import Derived.Lib.SliceRun
import Derived.Shelf.Spec.TrailingZeros
import Derived.ArgAppend
import Derived.Deep.Upon
set_option linter.defProp false
open Go renaming Value->ix,World->ka,TypeId->ln,Operand->Lj,Program->Ln,IntKind->Lq,Oper->Ly,Exit->Mq,sizeOf->Ms,Addr->Mu,Act->MG,Deferred->MH,Edge->MV,Code->N8,zeroValue->Na,FuncId->Nj,Field->P8,isAgg->Qg,MapEntry->Qi,Func->QG,Tmp->QU,BinOp->R9
open Nat renaming blt->L3,eq_of_beq_eq_true->Lo,le_refl->Lr,zero_add->Mw,beq->My,zero_le->MC,lt_of_lt_of_le->MT,le_of_ble_eq_true->N0,le_trans->Ng,zero_mul->NS,mul_one->NX,add_mul->NY,not_lt_zero->P5,lt_succ_iff_lt_or_eq->Pm,sub_self->Px,add_zero->Py,pos_of_ne_zero->Q4,ble->Qa,min_eq_left->Qp,add_assoc->QB,add_comm->QE
open Go.Result renaming andThen_ok->Li
open Go.Proofs.Tryz renaming prog->Lk,sizeOf22->LK,sizeOf75->LU,sizeOf3->M0,zeroValue75->MP,underlying142->MU,isAgg75->MW,underlying9->MZ,underlying35->N5,underlying217->Nb,underlying155->Nc,underlying108->Nf,underlying251->Np,underlying173->Nq,underlying100->Nr,underlying98->Nw,underlying30->Nx,sizeOf4->Ny,underlying75->P2,sizeOf50->P3,sizeOf9->Pp,sizeOf28->Pu,underlying182->PG,underlying178->PH,underlying175->PI,underlying158->PJ,underlying152->PK,underlying144->PL,zeroValue256->PU,underlying77->PV,underlying73->PW,underlying61->PX,underlying49->PY,underlying47->PZ,underlying41->Q0,underlying25->Q2,sizeOf73->Qe,sizeOf31->Qf,sizeOf256->QD,sizeOf47->QL,sizeOf36->QM,sizeOf23->QN,underlying256->QO,underlying249->QQ,underlying232->QR,underlying127->QS,underlying106->QT,underlying78->QW,underlying52->QX,underlying33->QY
open Array renaming getD_eq_getD_getElem?->Ll,replicate->NV,getElem?_setIfInBounds->NW,toList_setIfInBounds->P9,getElem?_eq_some_iff->Pa,getElem?_modify->Ps,toList_modify->PE,length_toList->PF,toList_push->PT
open Go.Sem renaming run_bind->Lm,run_pure->M4,run->Pb
open List renaming map_toArray->Lp,getElem?_eq_some_iff->Lz,map_cons->LN,getElem?_eq_getElem->M1,length_cons->M5,eq_nil_of_length_eq_zero->M7,getD_eq_getElem?_getD->Mr,map_nil->Mv,mem_singleton->MD,getElem_cons_zero->ME,take_append_drop->MJ,dropWhile_suffix->MK,range->MN,getElem_append_right->MO,getElem_append_left->MQ,findIdx?_cons->MS,getElem_mem->N1,cons_append->N2,all_cons->N7,mem_range->Ni,flatMap_cons->Nk,suffix_cons->Nn,getElem?_eq_none->Nu,length_append->NH,find?_eq_none->NI,findIdx?_eq_some_iff_getElem->NL,take_succ_eq_append_getElem->NM,size_toArray->NN,mem_map->NO,getElem?_map->NP,append_assoc->NQ,takeWhile_append_dropWhile->NT,nil_append->NZ,mem_append->P1,take_zero->Pc,replicate->Pd,map->Pe,getElem?_append_right->Pf,dropWhile_cons_of_pos->Pg,findIdx?_eq_none_iff->Ph,take->Pn,drop_eq_nil_of_le->Pq,all_nil->Pr,getElem?_modify->PC,getElem_of_mem->PM,getElem_range->PQ,ext_getElem?->Q5,take_length->Qb,suffix_refl->Qc,all_eq_true->Qd,length_nil->Qj,foldl_cons->Qk,append_nil->Ql,take_left->Qq,mem_cons->Qu,findIdx?->Qv
open Classical renaming byContradiction->Ls
open Go.Region renaming ready->Lu,noSelect->LD,wanted->LL,free->M6,lexB->Qt
open Int renaming toNat_natCast->M8
open Go.Addr renaming add->M9
open Bool renaming and_eq_true->Mp,not_eq_true'->Q6,eq_false_iff->Q7
open Option renaming map_some->Mt,map_none->MB,bind_some->PO
open Go.Value renaming oneCell'->Mz,string->NJ,ownBlock->P4,int->Pk,cells->Pv
open Go.Instr renaming sureAddr->MA,findNow->N4,fill->Nh,storeAt->NA,keyThatStays->NF,mapUpdate->NU,sameBits->P6,checkKey->P7,indexAt->Pi,findKey->Pj,sameNow->Qr,lookup->Qw,loadAt->Qx,build->QC
open Go.Exit renaming inBlock->MF
open Go.Act renaming eval->MI,put->NB
open Go.Calls renaming mono->MM
open Go.Fence renaming wide->MR
open List.IsSuffix renaming trans->MX,length_le->NR
open Go.Deferred renaming ofValue->MY
open Go.Oper renaming wp->N6,upon->Nm,uponIn->PB,quietAt->QA,still->QK
open Option.some renaming injEq->N9
open Go.World renaming block_lt_of_cell?->Nl,setCell->Nz,cells?_some->PN,cell?_spot->Q3,frozen?->Qn,cell?->Qz
open Go.DataW renaming trod->No
open Go.IntKind renaming signed->Ns,bits->ND,max->Po,wrap->Rg
open Go.Code renaming region->Nv
open Go.Op renaming intCmp->NC,intArith->PP,intBits->QV,shift->R7
open Go.Builtin renaming zeroCells->NG,append_->PS,len_->Ri,lenOf->Rj,firstCells->Rk
open Go.RowKit.Below renaming heap_setCell->NK,refl->QH,heap_alloc->QJ
open UInt8 renaming ofNat->Pw
open Function renaming comp_def->Pz
open Go.Extern.BytealgIndexByte renaming indexByte->PA
open List.cons renaming injEq->PD
open Go.Rows renaming mono->Q8
open Prod.mk renaming injEq->Q9
open Go.Program renaming elem->Qh
open Prod renaming fst->Qo
open BitVec renaming ofInt->Qs
open Go.Conv renaming intToInt->Qy
open Go.ByteArray renaming toList_mk->QZ,extract_mk->R6
open ByteArray renaming toList->R0,size->R4,getElem_eq_getElem_data->R5
open Go.Lit renaming int->R8
open Go.StepsIn renaming trans->Ra
open Go.Machine renaming fenced->Rb
open Go.IntWalk renaming u8_in->Re,i64_in->Rf
open Go.CallsIn renaming mono->Rh
def _root_.Eq.J.{u}{α:Sort u}{a b c:α}(h:a=b)(k:b=c):a=c:=h.trans k
def _root_.Iff.J{a b c:Prop}(h:a<->b)(k:b<->c):a<->c:=h.trans k
def _root_.List.IsSuffix.J.{u}{α:Type u}{a b c:List α}(h:a<:+b)(k:b<:+c):a<:+c:=h.trans k
def am.{u}{c:Prop}{h:Decidable c}(k:¬c){α:Sort u}{t e:α}:ite c t e=e:=_root_.if_neg k
def ap.{u}{c:Prop}{h:Decidable c}(k:c){α:Sort u}{t e:α}:ite c t e=t:=_root_.if_pos k
variable {α:Type}{I:(Nat->Nat)->ka->Prop}{b b':Bool}{a0 e m op:Int}{vs:List (Nat×ix)}{tl:List Ly}{ds:List MH}{a l r:List UInt8}{args cs us:List ix}{c y:Lj}{P:Ln}{k k':Lq}{o:Ly}{K:MG->ka->Prop}{Q Q':Mq->MG->ka->Prop}{q:Mu}{x:N8}{Ix:N8->(Nat->Nat)->ka->Prop}{B L N bytes d i id j n rb sz tA tB:Nat}{O O':Nat->Nat}{S:Nat->Prop}{F f:Nj}{g:Option (Nat×Bool)}{ro:Option Nat}{A:Prop}{u v v' xv z:ix}{R:ix->ka->Prop}{w w' w0:ka}{E T t xt yt:ln}{xs:List α}{p:α->Bool}{enc:α->List ix}{μ:α->Nat}
namespace Go.VL
def zo(h:A:=by omega):A:=h
def zd(h:A:=by decide):A:=h
def zk(h:A:=by kernel_rfl):A:=h
def dT{p q:Prop}[Decidable p](h:decide p=true)(k:p→q:=by intro h;omega):q:=k (of_decide_eq_true h)
def dF{p q:Prop}[Decidable p](h:decide p=false)(k:¬p→q:=by intro h;omega):q:=k (of_decide_eq_false h)
abbrev nI(n:Int):ix:=.int .i64 n
abbrev nP(b:Nat):ix:=.pointer (some ⟨b,0,none⟩)
abbrev nA(b k:Nat):Mu:=(⟨b,0,none⟩:Mu).add k
abbrev nS:ix:=.slice none 0 0
abbrev St:=List (Nat×ix)
def cQ:St->Nat->Option ix
 |[],_=>none
 |(k,v)::r,t=>bif My k t then some v else cQ r t
structure Fits(N:Nat)(a:MG)(st:St):Prop where
 size:a.tmps.size=N
 defers:a.defers=[]
 get:∀t v,cQ st t=some v->a.tmps[t]? = some v
def ev(st:St):Lj->Option ix
 |.tmp t=>cQ st t
 |.const v=>some v
 |.global g=>some (nP g)
 |.func f=>some (.func (.func f) #[] #[])
def Cov(st:St):St->Prop
 |[]=>True
 |(t,v)::r=>cQ st t=some v/\Cov st r
def Fits.ev{N:Nat}{a:MG}{st:St}(h:Fits N a st){x:Lj}{v:ix}(he:ev st x=some v):a.eval x=v:=by
 cases x with
 |tmp t=>
  have:=h.get t v he;simp[MI,Ll,this]
 |const u=>simpa[VL.ev,MI]using he
 |global g=>simpa[VL.ev,MI]using he
 |func f=>simpa[VL.ev,MI]using he
def Fits.cov{a:MG}{st:St}(h:Fits N a st):∀ {a0:St},Cov st a0->Fits N a a0:=by
 intro a0 hc;refine⟨h.size,h.defers,?_⟩
 induction a0 with
 |nil=>intro t v hv;simp[cQ]at hv
 |cons p r ih=>
  obtain⟨k,u⟩:=p;obtain⟨h1,h2⟩:=hc;intro t v hv;simp only[cQ]at hv
  cases hb:My k t with
  |true=>
   rw[hb]at hv;have:k=t:=Lo hb;simp at hv;subst this;subst hv;exact h.get _ _ h1
  |false=>rw[hb]at hv;exact ih h2 t v hv
def Fits.put{N:Nat}{a:MG}{st:St}(h:Fits N a st){d:Nat}(hd:L3 d N=true)(v:ix):Fits N (a.put (some d) v) ((d,v)::st):=by
 have a0:d<a.tmps.size:=by rw[h.size];exact N0 hd
 refine⟨by simp[NB,h.size],h.defers,?_⟩;intro t u hu;simp only[cQ]at hu;simp only[NB,NW]
 cases hb:My d t with
 |true=>
  have:d=t:=Lo hb;rw[hb]at hu;simp at hu;subst this;subst hu;simp[a0]
 |false=>
  have:d≠t:=λe=>by rw[e]at hb;simp at hb
  rw[hb]at hu;rw[am this];exact h.get t u hu
section
variable(P:Ln)(N:Nat)
def WL(ops:Array Ly)(Q:Mq->MG->ka->Prop)(l:List Ly)(st:St)(w:ka):Prop:=∀a,Fits N a st->wpList P ops Q l a w
def WC(c:N8)(Q:Mq->MG->ka->Prop)(st:St)(w:ka):Prop:=∀a,Fits N a st->c.wp P Q a w
def QF(Q:Mq->MG->ka->Prop)(e:Mq)(st:St)(w:ka):Prop:=∀a,Fits N a st->Q e a w
end
section
variable{P:Ln}{N:Nat}{ops:Array Ly}{Q:Mq→MG→ka→Prop}{rest:List Ly}{st:St}{w:ka}
def WC.region{l:List Ly}(h:WL P N l.toArray Q l st w):WC P N (Nv id l.toArray false) Q st w:=λa ha=>wp_region_lit (h a ha)
def WL.nil(h:QF N Q .normal st w):WL P N ops Q [] st w:=h
def WC.seq{x y:N8}(h:WC P N x (Exit.then (y.wp P Q) Q) st w):WC P N (.seq x y) Q st w:=λa ha=>wp_seq (h a ha)
def WC.skip(h:QF N Q .normal st w):WC P N .skip Q st w:=λa ha=>wp_skip (h a ha)
def WC.exit{id:Nat}(h:QF N Q (.exit id) st w):WC P N (.exit id) Q st w:=λa ha=>wp_exit (h a ha)
def WC.ret(h:QF N Q .ret st w):WC P N .ret Q st w:=λa ha=>wp_ret (h a ha)
def WC.block{id:Nat}{c:N8}(h:WC P N c (MF id Q) st w):WC P N (.block id c) Q st w:=λa ha=>wp_block (h a ha)
def WC.cond{c:Lj}{x y:N8}{b:Bool}(hc:ev st c=some (.bool b))(ht:b=true->WC P N x Q st w)(hf:b=false->WC P N y Q st w):WC P N (.cond c x y) Q st w:=
 λa ha=>wp_cond_split (ha.ev hc) (λe=>ht e a ha) (λe=>hf e a ha)
def Fv{y:N8}(hc:ev st c=some (.bool true))(ht:WC P N x Q st w):WC P N (.cond c x y) Q st w:=
 λa ha=>wp_cond_true (ha.ev hc) (ht a ha)
def Fw{y:N8}(hc:ev st c=some (.bool false))(hf:WC P N y Q st w):WC P N (.cond c x y) Q st w:=
 λa ha=>wp_cond_false (ha.ev hc) (hf a ha)
def aF{y:N8}(h:WC P N y Q st w):QF N (Exit.then (y.wp P Q) Q') .normal st w:=h
def bW(h:QF N Q (.exit id) st w):QF N (Exit.then K Q) (.exit id) st w:=h
def sN(h:QF N Q .ret st w):QF N (Exit.then K Q) .ret st w:=h
def eM(h:QF N Q .normal st w):QF N (MF id Q) .normal st w:=h
def qB(h:QF N Q .ret st w):QF N (MF id Q) .ret st w:=h
def dO(h:QF N Q .normal st w):QF N (MF id Q) (.exit id) st w:=λa ha=>by
 show if id=id then _ else _
 rw[ap rfl];exact h a ha
def oD{a0:Nat}(a1:My a0 id=false)(h:QF N Q (.exit a0) st w):QF N (MF id Q) (.exit a0) st w:=λa ha=>by
 show if a0=id then _ else _
 rw[am (λe=>by rw[e]at a1;simp at a1)];exact h a ha
def ax{l:List Ly}(hs:cQ st d=some (.bool b))(hb:b=b')(h:WL P N ops Q l ((d,.bool b')::st) w):WL P N ops Q l st w:=by
 subst hb;refine λa ha=>h a ⟨ha.size,ha.defers,λt v hv=>?_⟩
 simp only[cQ]at hv
 cases hb:My d t with
 |true=>rw[hb]at hv;have:=Lo hb;subst this;simp at hv;subst hv;exact ha.get _ _ hs
 |false=>rw[hb]at hv;exact ha.get _ _ hv
def bp{y:N8}(hc:ev st c=some (.bool b))(hb:b=true)(ht:WC P N x Q st w):WC P N (.cond c x y) Q st w:=by
 subst hb;exact Fv hc ht
def bh{y:N8}(hc:ev st c=some (.bool b))(hb:b=false)(hf:WC P N y Q st w):WC P N (.cond c x y) Q st w:=by
 subst hb;exact Fw hc hf
def QF.weaken{e:Mq}{a0:St}(hc:Cov st a0)(h:QF N Q e a0 w):QF N Q e st w:=λa ha=>h a (ha.cov hc)
def WC.loop{α:Type}{c:N8}(f:α->St)(g:α->ka)(I:α->Prop)(μ:α->Nat)(x0:α)(h0:I x0)(hc:Cov st (f x0))(hw:g x0=w)
  (a0:∀x,I x->WC P N c (Exit.then (λa' w'=>∃y,I y/\μ y<μ x/\Fits N a' (f y)/\g y=w') Q) (f x) (g x)):WC P N (.loop c) Q st w:=by
 intro a ha;apply wp_loop_ghost (λn a w=>∃y,I y/\μ y=n/\Fits N a (f y)/\g y=w) (μ x0) ⟨x0,h0,rfl,ha.cov hc,hw⟩;rintro n a w ⟨x,hI,rfl,hf,rfl⟩;apply wp_mono (a0 x hI a hf);intro e a' w' hq
 cases e with
 |normal=>obtain⟨y,h1,h2,h3,h4⟩:=hq;exact⟨μ y,h2,y,h1,rfl,h3,h4⟩
 |_=>exact hq
def QF.next{f:α->St}{g:α->ka}{I:α->Prop}{m:Nat}(y:α)(h1:I y)(h2:μ y<m)(h3:Cov st (f y))(h4:g y=w):
 QF N (Exit.then (λa' w'=>∃y,I y/\μ y<m/\Fits N a' (f y)/\g y=w') Q) .normal st w:=λ_ ha=>⟨y,h1,h2,ha.cov h3,h4⟩
def cu(h:o.guard=none)(y:Nat->Option Bool):LL o y=true:=by simp[LL,h]
def WL.step(hg:o.guard=none)(h:∀a,Fits N a st->o.wp P a w (wpList P ops Q rest) Q):WL P N ops Q (o::rest) st w:=by
 intro a ha;unfold wpList;rw[ap (cu hg _)];exact .inl (h a ha)
def WL.val{op:Op}{p:String}{e:Array MV}(hd:L3 d N=true)
  (a0:∀a:MG,Fits N a st->(execOp a.eval ⟨some d,op,t,p,e,none⟩).run P w=.ok (.value v) w')
  (h:WL P N ops Q rest ((d,v)::st) w'):WL P N ops Q (⟨some d,op,t,p,e,none⟩::rest) st w:=by
 refine WL.step rfl λa ha=>?_
 unfold N6;rw[a0 a ha];exact h _ (ha.put hd v)
def jG{op:Op}{p:String}{e:Array MV}
  (a0:∀a:MG,Fits N a st->(execOp a.eval ⟨none,op,t,p,e,none⟩).run P w=.ok .skip w')
  (h:WL P N ops Q rest st w'):WL P N ops Q (⟨none,op,t,p,e,none⟩::rest) st w:=by
 refine WL.step rfl λa ha=>?_
 unfold N6;rw[a0 a ha];exact h _ ha
def said(ops:Array Ly)(st:St)(j:Nat):Option Bool:=
 match (ops[j]?).bind (·.dst)with
 |some d=>match cQ st d with
  |some (.bool b)=>some b
  |_=>none
 |none=>none
def cE{a:MG}(ha:Fits N a st)(h:said ops st j=some b):yielded ops a.tmps j=some b:=by
 unfold said at h;unfold yielded
 cases hd:(ops[j]?).bind (·.dst)with
 |none=>rw[hd]at h;simp at h
 |some d=>
  rw[hd]at h;simp only at h
  cases hs:cQ st d with
  |none=>rw[hs]at h;simp at h
  |some v=>
   rw[hs]at h
   cases v<;>simp at h
   subst h;simp[ha.get _ _ hs]
def fe{op:Op}{p:String}{e:Array MV}{d:Option QU}(hs:said ops st j=some b)
  (h:WL P N ops Q (⟨d,op,t,p,e,none⟩::rest) st w):WL P N ops Q (⟨d,op,t,p,e,some (j,b)⟩::rest) st w:=by
 intro a ha;have h1:=h a ha;unfold wpList at h1 ⊢;rw[ap (by simp[LL])]at h1;rw[ap (by simp[LL,cE ha hs])];exact h1
def WL.off{op:Op}{p:String}{e:Array MV}(hs:said ops st j=some b')(a0:(b'==b)=false)(hd:L3 d N=true)
  (h:WL P N ops Q rest ((d,undef)::st) w):WL P N ops Q (⟨some d,op,t,p,e,some (j,b)⟩::rest) st w:=by
 intro a ha;unfold wpList;rw[am (by simp[LL,cE ha hs];simpa using a0)];exact h _ (ha.put hd undef)
def kM(ops:Array Ly)(st:St)(j:Nat):Bool:=
 match (ops[j]?).bind (·.dst)with
 |some d=>match cQ st d with
  |some (.tuple _)=>true
  |_=>false
 |none=>false
def Fs{op:Op}{p:String}{e:Array MV}(hs:kM ops st j=true)(hd:L3 d N=true)
  (h:WL P N ops Q rest ((d,undef)::st) w):WL P N ops Q (⟨some d,op,t,p,e,some (j,b)⟩::rest) st w:=by
 intro a ha;unfold wpList;rw[am ?_]
 ·exact h _ (ha.put hd undef)
 unfold kM at hs;simp only[LL,yielded]
 cases hd:(ops[j]?).bind (·.dst)with
 |none=>rw[hd]at hs;simp at hs
 |some d=>
  rw[hd]at hs;simp only at hs
  cases hx:cQ st d with
  |none=>rw[hx]at hs;simp at hs
  |some v=>
   rw[hx]at hs
   cases v<;>simp at hs
   simp[ha.get _ _ hx]
def RV(P:Ln)(N:Nat)(op:Op)(t:ln)(st:St)(w:ka)(v:ix):Prop:=
 ∀a:MG,Fits N a st->∀(dst:Option QU) (p:String) (e:Array MV) (g:Option (Nat×Bool)),(execOp a.eval ⟨dst,op,t,p,e,g⟩).run P w=.ok (.value v) w
def oy{op:Op}{p:String}{e:Array MV}(hv:RV P N op t st w v)(hd:L3 d N=true)
 (h:WL P N ops Q rest ((d,v)::st) w):WL P N ops Q (⟨some d,op,t,p,e,none⟩::rest) st w:=WL.val hd (λa ha=>hv a ha _ _ _ _) h
section
variable{t:ln}{p:String}{e:Array MV}{d:Nat}{x y z:Lj}
def RV.move{v:ix}(hx:ev st x=some v):RV P N (.move x) t st w (v):=
 λa ha a0 p e g=>by simp only[execOp,ha.ev hx];rfl
def RV.assign{v:ix}(hx:ev st x=some v):RV P N (.assign x) t st w (v):=
 λa ha a0 p e g=>by simp only[execOp,ha.ev hx];rfl
def jN{a:MG}{a0:Option QU}(hx:a.eval x=.bool b):(execOp a.eval ⟨a0,.pick x y z,t,p,e,g⟩).run P w=.ok (.value (bif b then a.eval y else a.eval z)) w:=by
 simp only[execOp,hx];cases b<;>rfl
def bE(hc:ev st x=some (.bool false))(hz:ev st z=some u):RV P N (.pick x y z) t st w (u):=
 λa ha a0 p e g=>by rw[jN (ha.ev hc),ha.ev hz];rfl
def aX(hc:ev st x=some (.bool true))(hy:ev st y=some v):RV P N (.pick x y z) t st w (v):=
 λa ha a0 p e g=>by rw[jN (ha.ev hc),ha.ev hy];rfl
def ak(hx:ev st x=some (.pointer (some q))):RV P N (.nilCheck x) t st w (.pointer (some q)):=
 λa ha a0 p e g=>by simp only[execOp,ha.ev hx];rfl
section
variable{k:Lq}{m n:Int}{xt yt:ln}
def yg{op:R9}{n:Int}{a:MG}{a0:Option QU}(hx:a.eval x=.int k m)(hy:a.eval y=.int k' n)(h:(binOp op xt (.int k m) (.int k' n)).run P w=.ok v w):
  (execOp a.eval ⟨a0,.binOp op xt x y yt,t,p,e,g⟩).run P w=.ok (.value v) w:=by
 simp only[execOp,hx,hy];have hg:(eqGuard op xt x y (.int k m) (.int k' n))=pure ():=by
  unfold eqGuard;cases op<;>rfl
 rw[hg];simp[h]
def ie{op:R9}(hx:ev st x=some (.int k m))(hy:ev st y=some (.int k' n))(hv:(binOp op xt (.int k m) (.int k' n)).run P w=.ok v w):RV P N (.binOp op xt x y yt) t st w (v):=
 λ_ ha _ _ _ _=>yg (ha.ev hx) (ha.ev hy) hv
def IY:(binOp .add xt (.int k m) (.int k n)).run P w=.ok (.int k (k.wrap (m+n))) w:=by simp[binOp,PP,pure]
def IP:(binOp .sub xt (.int k m) (.int k n)).run P w=.ok (.int k (k.wrap (m-n))) w:=by simp[binOp,PP,pure]
def IR:(binOp .mul xt (.int k m) (.int k n)).run P w=.ok (.int k (k.wrap (m*n))) w:=by simp[binOp,PP,pure]
def IS:(binOp .lss xt (.int k m) (.int k n)).run P w=.ok (.bool (decide (m<n))) w:=by simp[binOp,NC,pure]
def IT:(binOp .leq xt (.int k m) (.int k n)).run P w=.ok (.bool (decide (m<=n))) w:=by simp[binOp,NC,pure]
def IU:(binOp .gtr xt (.int k m) (.int k n)).run P w=.ok (.bool (decide (n<m))) w:=by simp[binOp,NC,pure]
def IV:(binOp .geq xt (.int k m) (.int k n)).run P w=.ok (.bool (decide (n<=m))) w:=by simp[binOp,NC,pure]
def IW:(binOp .eql xt (.int k m) (.int k n)).run P w=.ok (.bool (m==n)) w:=by simp[binOp,NC,pure]
def IQ:(binOp .neq xt (.int k m) (.int k n)).run P w=.ok (.bool (m != n)) w:=by simp[binOp,NC,pure]
def Fit(k:Lq)(r:Int):Prop:=k.wrap r=r
def Fit.i64{r:Int}(h : -9223372036854775808<=r/\r<=9223372036854775807):Fit .i64 r:=Rf r h
def Fit.u8{r:Int}(h:0<=r/\r<=255):Fit .u8 r:=Re r h
def RV.add(hx:ev st x=some (.int k m))(hy:ev st y=some (.int k n))(hr:Fit k (m+n)):RV P N (.binOp .add xt x y yt) t st w (.int k (m+n)):=
 ie hx hy (by rw[IY,hr])
def RV.sub(hx:ev st x=some (.int k m))(hy:ev st y=some (.int k n))(hr:Fit k (m-n)):RV P N (.binOp .sub xt x y yt) t st w (.int k (m-n)):=
 ie hx hy (by rw[IP,hr])
def RV.lss(hx:ev st x=some (.int k m))(hy:ev st y=some (.int k n)):RV P N (.binOp .lss xt x y yt) t st w (.bool (decide (m<n))):=
 ie hx hy IS
def RV.leq(hx:ev st x=some (.int k m))(hy:ev st y=some (.int k n)):RV P N (.binOp .leq xt x y yt) t st w (.bool (decide (m<=n))):=
 ie hx hy IT
def RV.gtr(hx:ev st x=some (.int k m))(hy:ev st y=some (.int k n)):RV P N (.binOp .gtr xt x y yt) t st w (.bool (decide (n<m))):=
 ie hx hy IU
def RV.geq(hx:ev st x=some (.int k m))(hy:ev st y=some (.int k n)):RV P N (.binOp .geq xt x y yt) t st w (.bool (decide (n<=m))):=
 ie hx hy IV
def RV.eql(hx:ev st x=some (.int k m))(hy:ev st y=some (.int k n)):RV P N (.binOp .eql xt x y yt) t st w (.bool (m==n)):=
 ie hx hy IW
def RV.neq(hx:ev st x=some (.int k m))(hy:ev st y=some (.int k n)):RV P N (.binOp .neq xt x y yt) t st w (.bool (m != n)):=
 ie hx hy IQ
def RV.not{b:Bool}(hx:ev st x=some (.bool b)):RV P N (.unOp .not xt x) t st w (.bool (!b)):=
 λa ha a0 p e g=>by simp only[execOp,ha.ev hx];rfl
def FD{a0:TypeDesc}(hs:P.underlying xt=some a0)(a2:P.underlying yt=some (.int k'))(hx:ev st x=some (.int k m))(hr:Fit k' m):RV P N (.convert xt yt x) t st w (.int k' m):=
 λa ha a3 p e g=>by
  have a1:k'.wrap m=m:=hr;simp only[execOp,ha.ev hx];simp[convert,run_underlying hs,run_underlying a2,Qy,a1]
def oY{a0:TypeDesc}(hs:P.underlying xt=some a0)(a1:P.underlying yt=some (.int k'))(hx:ev st x=some (.int k m)):RV P N (.convert xt yt x) t st w (.int k' (k'.wrap m)):=
 λa ha a2 p e g=>by
  simp only[execOp,ha.ev hx];simp[convert,run_underlying hs,run_underlying a1,Qy]
end
def RV.extract{vs:Array ix}{i:Nat}{v:ix}(hx:ev st x=some (.tuple vs))(hv:vs[i]? = some v):RV P N (.extract x i) t st w (v):=
 λa ha a0 p e g=>by simp only[execOp,ha.ev hx];simp[Instr.extract,hv]
def evs(st:St):List Lj->Option (List ix)
 |[]=>some []
 |x::r=>match ev st x,evs st r with
  |some v,some vs=>some (v::vs)
  |_,_=>none
def Fits.evs{a:MG}(ha:Fits N a st):∀ {l:List Lj} {vs:List ix},evs st l=some vs->l.map a.eval=vs:=by
 intro l
 induction l with
 |nil=>intro vs h;simpa[VL.evs]using h.symm
 |cons x r ih=>
  intro vs h;simp only[VL.evs]at h
  cases h1:VL.ev st x with
  |none=>rw[h1]at h;simp at h
  |some v=>
   cases h2:VL.evs st r with
   |none=>rw[h1,h2]at h;simp at h
   |some vs'=>
    rw[h1,h2]at h;simp at h;subst h;rw[LN,ha.ev h1,ih h2]
def eZ{fn:Fn}{f c:List Lj}{fs:List ix}(hf:evs st f=some fs)(hc:evs st c=some cs):RV P N (.makeFunc fn f.toArray c.toArray) t st w (.func fn fs.toArray cs.toArray):=
 λa ha a0 p e g=>by simp only[execOp,Instr.makeFunc,Lp,ha.evs hf,ha.evs hc];rfl
def WL.box{E:ln}{v:ix}(hx:ev st x=some v)(hd:L3 d N=true)
  (h:WL P N ops Q rest ((d,.pointer (some ⟨w.heap.size,0,none⟩))::st) (w.alloc (.cells v.cells E))):WL P N ops Q (⟨some d,.box E x,t,p,e,none⟩::rest) st w:=
 WL.val hd (λa ha=>by simp only[execOp,ha.ev hx];rfl) h
def WL.alloc{E:ln}{z:ix}(hz:(Na E).run P w=.ok z w)(hd:L3 d N=true)
  (h:WL P N ops Q rest ((d,.pointer (some ⟨w.heap.size,0,none⟩))::st) (w.alloc (.cells z.cells E))):WL P N ops Q (⟨some d,.alloc E,t,p,e,none⟩::rest) st w:=
 WL.val hd (λa ha=>by
  simp only[execOp,Instr.alloc]
  simp[hz,newVar,newRow,newObj];rfl) h
def Ret(P:Ln)(f:Nj)(args:List ix)(w:ka)(R:ix->ka->Prop):Prop:=
 Calls P f args.toArray w fun | .returned v,w'=>R v w'|_,_=>False
def Ret.mono{R':ix->ka->Prop}(h:Ret P f args w R)(hr:∀v w',R v w'->R' v w'):Ret P f args w R':=
 MM h λe w' q=>by cases e<;>first|exact hr _ _ q|exact q.elim
def WL.call{f:Nj}{args:List Lj}{a2:Array ln}{vs:List ix}{R:ix->ka->Prop}
  (hf:∀(args:Array ix) (w:ka),(callFunc f args).run P w=.ok (.enter f args) w) (a0:evs st args=some vs) (hc:Ret P f vs w R) (hd:L3 d N=true)
  (h:∀v w',R v w'->WL P N ops Q rest ((d,v)::st) w'):WL P N ops Q (⟨some d,.call ⟨.value (.func f),args.toArray,a2⟩,t,p,e,none⟩::rest) st w:=by
 refine WL.step rfl λa ha=>?_
 unfold N6;have a1:(execOp a.eval ⟨some d,.call ⟨.value (.func f),args.toArray,a2⟩,t,p,e,none⟩).run P w=.ok (.enter f vs.toArray) w:=by
  simp only[execOp,resolve,MI,Lp];rw[ha.evs a0];simp[MY,invoke,hf]
 rw[a1];exact MM hc λe w' q=>by
  cases e with
  |returned v=>exact h v w' q _ (ha.put hd v)
  |panicked c=>exact q.elim
  |outgrown=>exact q.elim
def eo{f:Nj}{args:List Lj}{a2:Array ln}{vs:List ix}{cs:Array ix}{R:ix->ka->Prop}
  (hx:ev st x=some (.func (.func f) #[] cs))
  (hf:∀(args:Array ix) (w:ka),(callFunc f args).run P w=.ok (.enter f args) w) (a0:evs st args=some vs) (hc:Ret P f (vs++cs.toList) w R) (hd:L3 d N=true)
  (h:∀v w',R v w'->WL P N ops Q rest ((d,v)::st) w'):WL P N ops Q (⟨some d,.call ⟨.value x,args.toArray,a2⟩,t,p,e,none⟩::rest) st w:=by
 refine WL.step rfl λa ha=>?_
 unfold N6;have a1:(execOp a.eval ⟨some d,.call ⟨.value x,args.toArray,a2⟩,t,p,e,none⟩).run P w=.ok (.enter f (vs++cs.toList).toArray) w:=by
  simp only[execOp,resolve,Lp,ha.evs a0,ha.ev hx];simp[MY,invoke,hf]
 rw[a1];exact MM hc λe w' q=>by
  cases e with
  |returned v=>exact h v w' q _ (ha.put hd v)
  |panicked c=>exact q.elim
  |outgrown=>exact q.elim
end
end
def RP(P:Ln)(fn:QG)(R:ix->ka->Prop):Mq->MG->ka->Prop
 |.normal,a,w |.ret,a,w=>a.defers=[]/\∃v,(results fn a.tmps).run P w=.ok v w/\R v w
 |_,_,_=>False
def Ret.body{P:Ln}{N:Nat}{f:Nj}{fn:QG}{c:N8}{args:List ix}{st:St}{w:ka}{R:ix->ka->Prop}
  (hf:P.funcs[f]? = some fn) (hb:fn.body=some c) (hN:fn.ntmps=N) (a0:Fits N { tmps:=args.toArray++NV (N-args.length) undef,defers:=[] } st)
  (h:WC P N c (RP P fn R) st w):Ret P f args w R:=by
 apply calls_of_wp hf hb;rw[hN];apply wp_mono (h _ (by simpa using a0))
 intro e a w' q
 cases e<;>first|exact q|exact q.elim
def sg:∀ {args:List ix} (_:Qa args.length N=true) {st:St} (_:∀t v,cQ st t=some v->args[t]? = some v),
  Fits N { tmps:=args.toArray++NV (N-args.length) undef,defers:=[] } st:=by
 intro args hN st h;have a1:args.length<=N:=N0 hN;refine⟨by simp;omega,rfl,λt v hv=>?_⟩;have:=h t v hv;have a0:t<args.length:=(Lz.1 this).1;rw[Array.getElem?_append_left (by simpa using a0)];simpa using this
def IM:Nat->List ix->St
 |_,[]=>[]
 |k,v::r=>(k,v)::IM (k+1) r
def px:∀(args:List ix) (k t:Nat) (v:ix),cQ (IM k args) t=some v->k<=t/\args[t-k]? = some v
 |[],k,t,v,h=>by simp[IM,cQ]at h
 |u::r,k,t,v,h=>by
  simp only[IM,cQ]at h
  cases hb:My k t with
  |true=>
   rw[hb]at h;have:k=t:=Lo hb;subst this;simpa using h
  |false=>
   rw[hb]at h;obtain⟨h1,h2⟩:=px r (k+1) t v h;refine⟨zo,?_⟩;rw[show t-k=(t-(k+1))+1 from by omega];simpa using h2
def Ret.enter{fn:QG}{c:N8}
  (hf:P.funcs[f]? = some fn) (hN:fn.ntmps=N) (hb:fn.body=some c) (a0:Qa args.length N=true)
  (h:WC P N c (RP P fn R) (IM 0 args) w):Ret P f args w R:=
 Ret.body hf hb hN (sg a0 λt v hv=>by simpa using(px args 0 t v hv).2) h
section
variable{P:Ln}{N:Nat}{st:St}{w:ka}{fn:QG}{R:ix→ka→Prop}
def af{t:QU}(hr:fn.results = #[.tmp t])(hv:cQ st t=some v)(h:R v w):QF N (RP P fn R) .ret st w:=λa ha=>
 ⟨ha.defers,v,by have:=ha.get _ _ hv;simp[results,hr,Ll,this],h⟩
def aP(hr:fn.results = #[])(h:R (.tuple #[]) w):QF N (RP P fn R) .normal st w:=λa ha=>⟨ha.defers,_,by simp[results,hr],h⟩
def cP(hr:fn.results = #[])(h:R (.tuple #[]) w):QF N (RP P fn R) .ret st w:=λa ha=>⟨ha.defers,_,by simp[results,hr],h⟩
def cj{t u:QU}(hr:fn.results = #[.tmp t,.tmp u])(hv:cQ st t=some v)(a0:cQ st u=some v')(h:R (.tuple #[v,v']) w):QF N (RP P fn R) .ret st w:=λa ha=>
 ⟨ha.defers,_,by have:=ha.get _ _ hv;have h2:=ha.get _ _ a0;simp[results,hr,Ll,this,h2],h⟩
end
open Go.RowKit (Below)
def Ext(w w':ka):Prop:=Below w.heap.size w w'
def Ext.refl(w:ka):Ext w w:=QH _ _
def Ext.J{a b c:ka}(h:Ext a b)(k:Ext b c):Ext a c:=Below.trans h (Below.mono k h.size)
def Ext.alloc(w:ka)(o:Obj):Ext w (w.alloc o):=(QH _ _).alloc (Lr _) o
def Ext.drew{w w':ka}(h:Ext w w'):Ext w w'.drew:=⟨h.os,h.tape,h.output,h.size,h.block⟩
def Ext.cell{w w':ka}(h:Ext w w'){a:Mu}{v:ix}(hc:w.cell? a=some v):w'.cell? a=some v:=
 (Below.cell h (Nl w a hc)).J hc
def adr(v:ix)(sz i:Nat):Mu:=
 match v with
 |.slice (some a) _ _=>⟨a.block,a.off+i*sz,none⟩
 |_=>default
def nth[Inhabited α](xs:List α)(i:Nat):α:=xs.getD i default
def aB[Inhabited α](h:i<xs.length):nth xs i=xs[i]:=by
 simp[nth,Mr,h]
def ao[Inhabited α](a:α)(l:List α):nth (a::l) 0=a:=rfl
def aW[Inhabited α](a:α)(l:List α)(i:Nat):nth (a::l) (i+1)=nth l i:=rfl
attribute [irreducible] nth
structure Sl{α:Type}(enc:α->List ix)(sz:Nat)(w:ka)(v:ix)(xs:List α):Prop where
 shape:∃a c,v=.slice a xs.length c/\xs.length<=c/\c<=9223372036854775807/\(xs.length≠0->∃b o,a=some ⟨b,o,none⟩)
 cells:∀i (h:i<xs.length) j u,(enc xs[i])[j]? = some u->w.cell? ((adr v sz i).add j)=some u
def Sl.of_cells(h:Sl enc sz w v xs)(hc:∀a u,w.cell? a=some u->w'.cell? a=some u):Sl enc sz w' v xs:=
 ⟨h.shape,λi hi j u hu=>hc _ _ (h.cells i hi j u hu)⟩
def Sl.ext(h:Sl enc sz w v xs)(e:Ext w w'):Sl enc sz w' v xs:=h.of_cells λ_ _=>e.cell
def Sl.drew{α:Type}{enc:α->List ix}{sz:Nat}{w:ka}{v:ix}{xs:List α}(h:Sl enc sz w v xs):Sl enc sz w.drew v xs:=h.of_cells λ_ _ h=>h
def Sl.one(h:Sl enc sz w v xs):v.oneCell'=true:=by
 obtain⟨_,_,rfl,_⟩:=h.shape;rfl
def Sl.len_le(h:Sl enc sz w v xs):xs.length<=9223372036854775807:=by
 obtain⟨a,c,_,h1,h2,_⟩:=h.shape;omega
def Sl.cell{α:Type}[Inhabited α]{enc:α->List ix}{sz:Nat}{w:ka}{v:ix}{xs:List α}(h:Sl enc sz w v xs){i j:Nat}{u:ix}(hi:i<xs.length)(hu:(enc (nth xs i))[j]? = some u):w.cell? ((adr v sz i).add j)=some u:=
 h.cells i hi j u (by rw[<-aB hi];exact hu)
def ar(v:ix)(sz i:Nat):(adr v sz i).add 0=adr v sz i:=rfl
def Sl.ld[Inhabited α]{val:α->ix}(h:Sl (λx=>[val x]) sz w v xs)(hi:i<xs.length):w.cell? (adr v sz i)=some (val (nth xs i)):=
 h.cell (j:=0) hi rfl
abbrev Ints(w:ka)(v:ix)(xs:List Int):Prop:=Sl (fun(x:Int)=>[nI x]) 1 w v xs
abbrev Mo(w:ka)(v:ix)(xs:List Nat):Prop:=Sl (fun(x:Nat)=>[nI (x:Int)]) 1 w v xs
section
variable{P:Ln}{N:Nat}{ops:Array Ly}{Q:Mq→MG→ka→Prop}{rest:List Ly}{st:St}{w:ka}
variable{t:ln}{p:String}{e:Array MV}{d:Nat}{x y z:Lj}
def RV.len{T E:ln}{α:Type}{enc:α->List ix}{sz:Nat}{v:ix}{xs:List α}(hs:Sl enc sz w v xs)(hu:P.underlying T=some (.slice E))(hx:ev st x=some v):RV P N (.call ⟨.builtin .len,#[x],#[T]⟩) t st w (nI (xs.length:Int)):=
 λa ha a0 p e g=>by
  obtain⟨ad,c,hv,_⟩:=hs.shape;simp only[execOp,resolve,Lp,LN,Mv,ha.ev hx];subst hv;simp[invoke,Go.builtin,Ri,run_underlying hu,goInt]
def RV.indexAddr{T E:ln}{α:Type}{enc:α->List ix}{sz:Nat}{v:ix}{xs:List α}{k:Lq}{i:Int}(hs:Sl enc sz w v xs)(hu:P.underlying T=some (.slice E))(hE:(Ms E).run P w=.ok sz w)
  (hx:ev st x=some v) (hy:ev st y=some (.int k i)) (n:Nat) (hi:i=n) (hn:n<xs.length):RV P N (.indexAddr T x y) t st w (.pointer (some (adr v sz n))):=
 λa ha a0 p e g=>by
  obtain⟨ad,c,hv,_,_,hb⟩:=hs.shape;obtain⟨b,o,rfl⟩:=hb zo;simp only[execOp,ha.ev hx,ha.ev hy];subst hv;subst hi;have:((n:Int)<(xs.length:Int)):=zo;simp only[adr];have he:(if n*sz=0 then(⟨b,o,none⟩:Mu)else⟨b,o+n*sz,none⟩)=⟨b,o+n*sz,none⟩:=by split<;>simp_all
  simp[Pi,asIntOf,run_underlying hu,hE,M9,hn,he]
def Shape(v:ix)(n:Nat):Prop:=∃a c,v=.slice a n c/\(n≠0->∃b o,a=some ⟨b,o,none⟩)
def Sl.sh(h:Sl enc sz w v xs):Shape v xs.length:=by
 obtain⟨a,c,h1,_,_,h2⟩:=h.shape;exact⟨a,c,h1,h2⟩
def ai{m:Nat}{i:Int}(hs:Shape v m)(hu:P.underlying T=some (.slice E))(hE:(Ms E).run P w=.ok sz w)
  (hx:ev st x=some v) (hy:ev st y=some (.int k i)) (n:Nat) (hi:i=n) (hn:n<m):RV P N (.indexAddr T x y) t st w (.pointer (some (adr v sz n))):=
 λa ha a0 p e g=>by
  obtain⟨ad,c,hv,hb⟩:=hs;obtain⟨b,o,rfl⟩:=hb zo;simp only[execOp,ha.ev hx,ha.ev hy];subst hv;subst hi;simp only[adr];have he:(if n*sz=0 then(⟨b,o,none⟩:Mu)else⟨b,o+n*sz,none⟩)=⟨b,o+n*sz,none⟩:=by split<;>simp_all
  simp[Pi,asIntOf,run_underlying hu,hE,M9,hn,he]
def RV.load{T:ln}{q:Mu}{u:ix}(hc:w.cell? q=some u)(hT:(Qg T).run P w=.ok false w)(hx:ev st x=some (.pointer (some q))):RV P N (.load T x) t st w (u):=
 λa ha a0 p e g=>by
  simp only[execOp,ha.ev hx];simp[Qx,MA,loadVar,hT,hc]
def run_loadCellsFrom{q:Mu}:∀(us:List ix) (i:Nat) (acc:Array ix),(∀j u,us[j]? = some u->w.cell? (q.add (i+j))=some u)->(loadCellsFrom q i us.length acc).run P w=.ok (acc++us.toArray) w
 |[],i,acc,_=>by simp[loadCellsFrom]
 |u::r,i,acc,h=>by
  have h0:=h 0 u rfl;have ih:=run_loadCellsFrom r (i+1) (acc.push u) (λj v hv=>by have:=h (j+1) v (by simpa using hv);rwa[show i+1+j=i+(j+1)from by omega]);simp only[Py]at h0;simp[loadCellsFrom,h0,ih]
def ah(hc:∀j u,us[j]? = some u->w.cell? (q.add j)=some u)(hT:(Qg T).run P w=.ok true w)(hn:(Ms T).run P w=.ok us.length w)(hx:ev st x=some (.pointer (some q))):RV P N (.load T x) t st w (.agg us.toArray):=
 λa ha a0 p e g=>by
  simp only[execOp,ha.ev hx];have:=run_loadCellsFrom (P:=P) us 0 #[] (q:=q) (w:=w) (by simpa using hc);simp[Qx,MA,loadVar,hT,hn,loadCells,this]
def RV.fieldAddr{S:ln}{fs:Array P8}{f m:Nat}{fd:P8}{q:Mu}(o:Nat)(hu:P.underlying S=some (.struct fs))(hf:fs[f]? = some fd)(ho:fd.offset=o)(hz:(Ms fd.type).run P w=.ok m w)(hm:m≠0)
  (hx:ev st x=some (.pointer (some q))):RV P N (.fieldAddr S x f) t st w (.pointer (some (q.add o))):=
 λa ha a0 p e g=>by
  subst ho;simp only[execOp,ha.ev hx];simp[Instr.fieldAt,MA,fieldPlace,run_underlying hu,hf,hz,hm]
end
end Go.VL
namespace Go.VL
open Go.RowKit (Below)
structure Upd(S:Nat->Prop)(O:Nat->Nat)(w:ka)(O':Nat->Nat)(w':ka):Prop where
 os:w'.os=w.os
 tape:w'.tape=w.tape
 output:w'.output=w.output
 size:w.heap.size<=w'.heap.size
 blk:∀b,b<w.heap.size->¬S (O b)->w'.heap[b]? = w.heap[b]?
 tag:∀b,O b≠0->O' b=O b
 new:∀b,O' b≠0->O b≠0\/(w.heap.size<=b/\b<w'.heap.size)
 z:¬S 0
structure Rng(B:Nat)(O:Nat->Nat)(w:ka):Prop where
 le:B<=w.heap.size
 rng:∀b,O b≠0->B<=b/\b<w.heap.size
def Upd.refl(h:¬S 0)(O:Nat->Nat)(w:ka):Upd S O w O w:=⟨rfl,rfl,rfl,Lr _,λ_ _ _=>rfl,λ_ _=>rfl,λ_ h=>.inl h,h⟩
def Upd.mono{S':Nat->Prop}(h:Upd S O w O' w')(hs:∀i,S i->S' i)(hz:¬S' 0):Upd S' O w O' w':=
 ⟨h.os,h.tape,h.output,h.size,λb hb hn=>h.blk b hb λhS=>hn (hs _ hS),h.tag,h.new,hz⟩
def Upd.J{S:Nat->Prop}{O O1 O2:Nat->Nat}{w w1 w2:ka}(h:Upd S O w O1 w1)(k:Upd S O1 w1 O2 w2):Upd S O w O2 w2:=by
 refine⟨k.os.J h.os,k.tape.J h.tape,k.output.J h.output,Ng h.size k.size,λb hb hn=>?_,λb hb=>?_,λb hb=>?_,h.z⟩
 ·refine(k.blk b (MT hb h.size) ?_).J (h.blk b hb hn)
  by_cases h0:O b=0
  ·have:O1 b=0:=by
    refine Ls λa0=>?_
    rcases h.new b a0 with h1|h1
    ·exact h1 h0
    omega
   rw[this];exact h.z
  rw[h.tag b h0];exact hn
 ·have h1:=h.tag b hb;rw[k.tag b (by rw[h1];exact hb),h1]
 rcases k.new b hb with h1|h1
 ·rcases h.new b h1 with h2|h2
  ·exact .inl h2
  exact .inr ⟨h2.1,MT h2.2 k.size⟩
 exact .inr ⟨Ng h.size h1.1,h1.2⟩
def aa(hz:¬S 0)(O:Nat->Nat)(h:Ext w w'):Upd S O w O w':=
 ⟨h.os,h.tape,h.output,h.size,λb hb _=>h.block b hb,λ_ _=>rfl,λ_ h=>.inl h,hz⟩
def Rng.U(r:Rng B O w)(h:Upd S O w O' w'):Rng B O' w':=by
 refine⟨Ng r.le h.size,λb hb=>?_⟩
 rcases h.new b hb with h1|h1
 ·exact⟨(r.rng b h1).1,MT (r.rng b h1).2 h.size⟩
 exact⟨Ng r.le h1.1,h1.2⟩
def aw(w:ka):Rng w.heap.size (λ_=>0) w:=⟨Lr _,λ_ h=>absurd rfl h⟩
def Rng.ext(r:Rng B O w)(h:Ext w w'):Rng B O w':=r.U (aa (S:=λ_=>False) (λh=>h) O h)
def Upd.below(h:Upd S O w O' w')(r:Rng B O w):Below B w w':=by
 refine⟨h.os,h.tape,h.output,h.size,λb hb=>h.blk b (MT hb r.le) ?_⟩;have:O b=0:=Ls λa0=>by have:=(r.rng b a0).1;omega
 rw[this];exact h.z
def Upd.ext(h:Upd S (λ_=>0) w O' w'):Ext w w':=h.below (aw w)
def Upd.drew{S:Nat->Prop}{O O':Nat->Nat}{w w':ka}(h:Upd S O w O' w'):Upd S O w O' w'.drew:=⟨h.os,h.tape,h.output,h.size,h.blk,h.tag,h.new,h.z⟩
def Upd.ofDrew(h:Upd S O w.drew O' w'):Upd S O w O' w':=⟨h.os,h.tape,h.output,h.size,h.blk,h.tag,h.new,h.z⟩
def Rng.drew{B:Nat}{O:Nat->Nat}{w:ka}(h:Rng B O w):Rng B O w.drew:=⟨h.le,h.rng⟩
def og(O:Nat->Nat)(b i:Nat):Nat->Nat:=λk=>if k=b then i else O k
def fJ(O:Nat->Nat)(b i:Nat):og O b i b=i:=ap rfl
def Upd.alloc{S:Nat->Prop}(hz:¬S 0){B:Nat}{O:Nat->Nat}{w:ka}(r:Rng B O w)(o:Obj)(i:Nat):Upd S O w (og O w.heap.size i) (w.alloc o):=by
 refine⟨rfl,rfl,rfl,by simp,λb hb _=>QJ _ _ _ hb,λb hb=>?_,λb hb=>?_,hz⟩
 ·unfold og;rw[am];have:=(r.rng b hb).2;omega
 unfold og at hb
 split at hb
 ·rename_i h;subst h;exact .inr ⟨Lr _,by simp⟩
 exact .inl hb
structure RowO(O:Nat->Nat)(w:ka)(i:Nat)(E:ln)(sz:Nat)(v:ix)(n:Nat)(xs:List ix):Prop where
 row:w.ownsRow 0 E sz v n xs
 tag:∀g,v.ownBlock=some g->O g=i
def bH{g:Nat}{o:Obj}(h:w.heap[g]? = some o):g<w.heap.size:=(Pa.1 h).1
def RowO.U{xs:List ix}(h:RowO O w i E sz v n xs)(u:Upd S O w O' w')(hi:i≠0)(hS:¬S i):RowO O' w' i E sz v n xs:=by
 refine⟨⟨h.row.1,?_⟩,λg hg=>?_⟩
 ·rcases h.row.2 with h1|⟨g,a2,a1,hv,hg,hh,a0⟩
  ·exact .inl h1
  refine .inr ⟨g,a2,a1,hv,hg,?_,a0⟩;rw[u.blk g (bH hh) (by rw[h.tag g (by rw[hv];rfl)];exact hS)];exact hh
 have:=h.tag g hg;rw[u.tag g (by rw[this];exact hi),this]
def RowO.drew{O:Nat->Nat}{w:ka}{i:Nat}{E:ln}{sz:Nat}{v:ix}{n:Nat}{xs:List ix}(h:RowO O w i E sz v n xs):RowO O w.drew i E sz v n xs:=⟨h.row,h.tag⟩
def RowO.nil(O:Nat->Nat)(w:ka)(i:Nat)(E:ln)(sz:Nat):RowO O w i E sz nS 0 []:=⟨World.ownsRow_nil _ _ _ _,λg hg=>by simp[P4]at hg⟩
structure BlkO(O:Nat->Nat)(w:ka)(i b:Nat)(cs:Array ix)(E:ln):Prop where
 blk:w.heap[b]? = some (.cells cs E (0,0))
 tag:O b=i
def BlkO.U{b:Nat}{cs:Array ix}(h:BlkO O w i b cs E)(u:Upd S O w O' w')(hi:i≠0)(hS:¬S i):BlkO O' w' i b cs E:=
 ⟨by rw[u.blk b (bH h.blk) (by rw[h.tag];exact hS)];exact h.blk,by rw[u.tag b (by rw[h.tag];exact hi),h.tag]⟩
def BlkO.drew{O:Nat->Nat}{w:ka}{i b:Nat}{cs:Array ix}{E:ln}(h:BlkO O w i b cs E):BlkO O w.drew i b cs E:=⟨h.blk,h.tag⟩
def BlkO.new(O:Nat->Nat)(w:ka)(i:Nat)(cs:Array ix)(E:ln):BlkO (og O w.heap.size i) (w.alloc (.cells cs E)) i w.heap.size cs E:=
 ⟨heap_alloc_new w _,fJ _ _ _⟩
def BlkO.cell{O:Nat->Nat}{w:ka}{i b:Nat}{cs:Array ix}{E:ln}(h:BlkO O w i b cs E)(j:Nat){u:ix}(hu:cs[j]? = some u):w.cell? ⟨b,j,none⟩=some u:=by
 rw[cell_of_row w b j cs E (0,0) h.blk];exact hu
def BlkO.set{b:Nat}{cs:Array ix}(h:BlkO O w i b cs E)(j:Nat)(u:ix):BlkO O (w.setCell ⟨b,j,none⟩ u) i b (cs.setIfInBounds j u) E:=by
 refine⟨?_,h.tag⟩;simp only[Nz,Ps,ap]
 rw[h.blk];simp
def Upd.set(hz:¬S 0){b:Nat}(ht:O b=i)(hS:S i):Upd S O w O (w.setCell ⟨b,j,none⟩ u):=
 ⟨rfl,rfl,rfl,by simp[Nz],λk _ hn=>NK _ _ _ _ (λe=>hn (by subst e;rw[ht];exact hS)),λ_ _=>rfl,λ_ h=>.inl h,hz⟩
def RowT(enc:α->List ix)(E:ln)(sz:Nat)(O:Nat->Nat)(w:ka)(i:Nat)(v:ix)(l:List α):Prop:=RowO O w i E sz v l.length (l.flatMap enc)/\∀x∈l,(enc x).length=sz
def fT{α:Type}{enc:α->List ix}{sz:Nat}:∀(l:List α),(∀x∈l,(enc x).length=sz)->∀i (h:i<l.length) j u,(enc l[i])[j]? = some u->(l.flatMap enc)[i*sz+j]? = some u
 |x::l,hz,0,_,j,u,hu=>by
  have hl:=hz x (by simp);have hj:j<(enc x).length:=(Lz.1 (by simpa using hu)).1;simp only[Nk,NS,Mw];rw[List.getElem?_append_left hj];simpa using hu
 |x::l,hz,i+1,h,j,u,hu=>by
  have hl:=hz x (by simp);simp only[Nk];rw[show(i+1)*sz+j=(enc x).length+(i*sz+j)from by rw[hl,NY];omega,Pf zo,show(enc x).length+(i*sz+j)-(enc x).length=i*sz+j from by omega];exact fT l (λy hy=>hz y (by simp[hy])) i (by simpa using h) j u (by simpa using hu)
def RowT.sl{l:List α}(h:RowT enc E sz O w i v l):Sl enc sz w v l:=by
 obtain⟨⟨⟨hl,hr⟩,_⟩,hz⟩:=h
 rcases hr with⟨rfl,h0⟩|⟨g,a0,a3,rfl,_,hg,a1,a2,a4,ht⟩
 ·have:l=[]:=M7 h0;subst this;exact⟨⟨none,0,rfl,Lr _,zo,λh=>absurd rfl h⟩,λi hi=>absurd hi (by simp)⟩
 refine⟨⟨_,a0,rfl,a1,by simpa[maxLen]using a2,λ_=>⟨g,0,rfl⟩⟩,λi hi j u hu=>?_⟩;have:=fT l hz i hi j u hu;rw[<-ht,List.getElem?_take]at this
 split at this
 ·have ha:((adr (.slice (some ⟨g,0,none⟩) l.length a0) sz i).add j)=⟨g,i*sz+j,none⟩:=by
   simp only[adr,M9];split<;>simp_all
  rw[ha,cell_of_row w g _ a3 E (0,0) hg];simpa using this
 cases this
def RowT.U{α:Type}{enc:α->List ix}{S:Nat->Prop}{O O':Nat->Nat}{w w':ka}{i:Nat}{E:ln}{sz:Nat}{v:ix}{l:List α}(h:RowT enc E sz O w i v l)(u:Upd S O w O' w')(hi:i≠0)(hS:¬S i):RowT enc E sz O' w' i v l:=
 ⟨h.1.U u hi hS,h.2⟩
def RowT.drew{α:Type}{enc:α->List ix}{O:Nat->Nat}{w:ka}{i:Nat}{E:ln}{sz:Nat}{v:ix}{l:List α}(h:RowT enc E sz O w i v l):RowT enc E sz O w.drew i v l:=⟨h.1.drew,h.2⟩
def RowT.nil{α:Type}(enc:α->List ix)(E:ln)(sz:Nat)(O:Nat->Nat)(w:ka)(i:Nat):RowT enc E sz O w i nS []:=⟨RowO.nil _ _ _ _ _,by simp⟩
def RowO.one{xs:List ix}(h:RowO O w i E sz v n xs):v.oneCell'=true:=by
 rcases h.row.2 with⟨rfl,_⟩|⟨g,a1,a0,rfl,_⟩<;>rfl
def RowT.one{α:Type}{enc:α->List ix}{O:Nat->Nat}{w:ka}{i:Nat}{E:ln}{sz:Nat}{v:ix}{l:List α}(h:RowT enc E sz O w i v l):v.oneCell'=true:=h.1.one
def RowT.put{val:α->ix}{l:List α}(h:RowT (λx=>[val x]) E 1 O w i v l)(hn:n<l.length)(x:α):
  w.cell? (adr v 1 n)=some (val (l[n]))/\w.frozen? (adr v 1 n)=false/\RowT (λx=>[val x]) E 1 O (w.setCell (adr v 1 n) (val x)) i v (l.set n x)/\O (adr v 1 n).block=i:=by
 have a0:=h.sl.cells n hn 0 (val l[n]) rfl;rw[ar]at a0;refine⟨a0,?_⟩;obtain⟨⟨⟨hl,hr⟩,a1⟩,hz⟩:=h
 rcases hr with⟨rfl,h0⟩|⟨g,a3,a8,rfl,a7,hg,a4,a6,a5,ht⟩
 ·omega
 have ha:adr (.slice (some ⟨g,0,none⟩) l.length a3) 1 n=⟨g,n,none⟩:=by simp[adr]
 rw[ha];have a2:∀l:List α,(l.flatMap λx=>[val x])=l.map val:=λl=>by induction l<;>simp_all
 refine⟨by simp[Qn,hg],⟨⟨⟨by rw[a2];simp,.inr ⟨g,a3,a8.setIfInBounds n (val x),by simp,a7,?_,by simpa using a4,a6,by simpa using a5,?_⟩⟩,by simpa using a1⟩,by simp⟩,a1 g rfl⟩
 ·simp only[Nz,Ps,ap];rw[hg];simp
 simp only[NX,List.length_set,P9]at ht ⊢;rw[a2]at ht ⊢;rw[List.take_set,ht,List.map_set]
structure Elem(P:Ln)(T E:ln)(sz bytes:Nat):Prop where
 ht:P.underlying T=some (.slice E)
 info:(P.info? E).map (λi=>(i.zero.map (·.cells.size),i.size,i.bytes))=some (some sz,sz,bytes)
 pos:0<sz
def Elem.parts(h:Elem P T E sz bytes):∃i z,P.info? E=some i/\i.zero=some z/\i.size=sz/\i.bytes=bytes/\z.cells.size=sz:=by
 have:=h.info
 cases hi:P.info? E with
 |none=>rw[hi]at this;simp at this
 |some i=>
  rw[hi]at this;simp only[Mt,N9,Q9]at this;obtain⟨h1,h2,h3⟩:=this
  cases hz:i.zero with
  |none=>rw[hz]at h1;simp at h1
  |some z=>rw[hz]at h1;simp at h1;exact⟨i,z,rfl,hz,h2,h3,h1⟩
def gx{ty:ln}{a7:Nat}(he:Elem P T E sz a7)(r:Rng B O w)
    {xs:List ix} (a1:RowO O w i E sz v n xs)
  (a:Mu) (m c:Nat) (a0:List ix) (hl:a0.length=m*sz) (a3:∀j u,a0[j]? = some u->w.cell? (a.add j)=some u) (h1:∀u∈a0,u.oneCell'=true)
  (a4:(n+m)*a7<=140737488355328) (c8:n+m<=9223372036854775807) (b9:i≠0) :
  ∃v' w' O',(PS #[T,T] ty #[v,.slice (some a) m c]).run P w=.ok v' w'/\RowO O' w' i E sz v' (n+m) (xs++a0)/\Upd (λk=>k=i) O w O' w':=by
 obtain⟨a8,z,hi,hz,b8,c7,b7⟩:=he.parts;have ht:=he.ht;subst b8;subst c7;have a5:(xs++a0).length=(n+m)*a8.size:=by rw[NH,a1.row.1,hl,NY]
 have b2:¬(0=i):=λh=>b9 h.symm
 have a6:∀(old:Nat),old<n+m->
   RowO (og O w.heap.size i) (w.drew.alloc (.cells (xs.toArray++a0.toArray++NG z.cells (grownCap w (n+m) old E-(n+m))) E)) i E a8.size
    (.slice (some ⟨w.heap.size,0,none⟩) (n+m) (grownCap w (n+m) old E)) (n+m) (xs++a0)/\
   Upd (λk=>k=i) O w (og O w.heap.size i) (w.drew.alloc (.cells (xs.toArray++a0.toArray++NG z.cells (grownCap w (n+m) old E-(n+m))) E)):=by
  intro old ho;have b':=grownCap_ge w (n+m) old E;have b5:grownCap w (n+m) old E<=maxLen:=grownCap_le_maxLen w (n+m) old E (by simpa[maxLen]using c8);refine⟨⟨⟨a5,.inr ⟨w.heap.size,_,_,rfl,MC _,heap_alloc_new w.drew _,b',b5,?_,?_⟩⟩,?_⟩,?_⟩
  ·simp only[Array.size_append,NN,size_zeroCells,b7,a1.row.1,hl,<-NY];congr 1;omega
  ·simp only[Array.toList_append,NQ];rw[<-NQ,<-a5];exact Qq
  ·intro g hg;simp[P4]at hg;subst hg;exact fJ _ _ _
  have u:=Upd.alloc (S:=λk=>k=i) (w:=w.drew) b2 (B:=B) ⟨r.le,r.rng⟩ (.cells (xs.toArray++a0.toArray++NG z.cells (grownCap w (n+m) old E-(n+m))) E) i;exact⟨u.os,u.tape,u.output,u.size,u.blk,u.tag,u.new,u.z⟩
 rcases a1.row.2 with⟨rfl,rfl⟩|⟨g,b1,b6,rfl,hbg,hg,c9,b5,c6,a'⟩
 ·have hx:xs=[]:=M7 (by simpa using a1.row.1);subst hx
  by_cases hm:m=0
  ·subst hm;have hn:a0=[]:=M7 (by simpa using hl);subst hn;refine⟨nS,w,O,?_,RowO.nil _ _ _ _ _,Upd.refl b2 _ _⟩;simp[PS,run_underlying ht,Ms,typeInfo,hi,Rj,Rk,loadCells,loadCellsFrom]
  have hr:=run_append_nil (P:=P) w T ty E a8 z ht hi hz a m c a0 hl a3 zo zo (by have hb:=a4;simp only[Mw]at hb;omega);have a9:=a6 0 zo;simp only[Mw,NZ,Array.empty_append]at a9 ⊢;exact⟨_,_,_,hr,a9.1,a9.2⟩
 have b3:O g=i:=a1.tag g rfl
 by_cases a2:n+m<=b1
 ·have b4:n*a8.size+a0.length<=b6.size:=by rw[hl,c6,<-NY];exact Nat.mul_le_mul_right _ a2
  have hr:=run_append_room (P:=P) w T ty E a8 ht hi g n b1 b6 hg a m c a0 hl a3 h1 a2 b4;refine⟨_,_,O,hr,⟨⟨a5,.inr ⟨g,b1,_,rfl,hbg,setRow_heap w g b6 _ E _ hg,a2,b5,?_,?_⟩⟩,λg' c5=>a1.tag g' c5⟩,⟨rfl,rfl,rfl,by simp,λk _ hk=>setRow_other w g k _ (λe=>hk (by subst e;exact b3)),λ_ _=>rfl,λ_ h=>.inl h,b2⟩⟩
  ·simp only[NN,NH,List.length_take,List.length_drop,PF];omega
  rw[a',<-a5];exact Qq
 have b0:∀j u,xs[j]? = some u->w.cell? (nA g j)=some u:=a1.row.cells (g:=g) rfl;have hr:=run_append_grow (P:=P) w T ty E a8 z ht hi hz ⟨g,0,none⟩ n b1 xs a1.row.1 b0 a m c a0 hl a3 zo zo (growslice_fits zo a4);have a9:=a6 b1 zo;exact⟨_,_,_,hr,a9.1,a9.2⟩
def foldl_set(f:Array ix->ix×Nat->Array ix)(hf:∀cs c j,f cs (c,j)=cs.setIfInBounds (0+j) c):∀(l:List ix) (k:Nat) (cs:Array ix),k+l.length<=cs.size->
  (l.zipIdx k).foldl f cs=(cs.toList.take k++l++cs.toList.drop (k+l.length)).toArray
 |[],k,cs,_=>by simp
 |u::l,k,cs,h=>by
  simp only[M5]at h;simp only[List.zipIdx_cons,Qk];rw[foldl_set f hf l (k+1) _ (by rw[hf];simp;omega),hf];simp only[Mw,P9];have hk:k<cs.toList.length:=by simp;omega
  congr 1;rw[show k+1+l.length=k+(u::l).length from by simp;omega];have h1:(cs.toList.set k u).take (k+1)=cs.toList.take k++[u]:=by
   rw[NM (by simpa using hk)];simp[List.take_set_of_le]
  have h2:(cs.toList.set k u).drop (k+(u::l).length)=cs.toList.drop (k+(u::l).length):=by
   rw[List.drop_set_of_lt (by simp)]
  rw[h1,h2];simp
def oV{cells:Array ix}(h1:v.cells.size=sz)(h2:cells.size=sz):Nh (λi=>some (i*sz,sz)) cells [(0,v)]=some v.cells:=by
 simp only[Nh,NS,h1,h2];simp only[Mw,ne_eq,not_true_eq_false,decide_false,gt_iff_lt,Nat.lt_irrefl,Bool.or_self,Bool.false_eq_true,if_false];have:=foldl_set (λcs (x:ix×Nat)=>cs.setIfInBounds (0+x.2) x.1) (λ_ _ _=>rfl) v.cells.toList 0 cells (by simp;omega);simp only[Mw]at this;rw[<-Array.foldl_toList,Array.toList_zipIdx,this];simp only[Pc,NZ];rw[Pq (by simp;omega)];simp
section
variable{P:Ln}{N:Nat}{ops:Array Ly}{Q:Mq→MG→ka→Prop}{rest:List Ly}{st:St}{w:ka}
variable{t t':ln}{p p':String}{e e':Array MV}{d d':Nat}{x y z:Lj}
def WL.push{a0:Nat}(he:Elem P T E sz a0){l:List α}(hr:RowT enc E sz O w i v l)(r:Rng B O w)(u:α)
  (hv:∀c,ev ((d,c)::st) y=some v) (hx:ev st x=some xv) (a6:xv.cells.toList=enc u) (a7:(enc u).length=sz) (a':∀c∈enc u,c.oneCell'=true)
  (hb:(l.length+1)*a0<=140737488355328) (b4:l.length+1<=9223372036854775807) (a5:i≠0) (hs:sz<=16777216) (hd:L3 d N=true) (b2:L3 d' N=true)
  (h:∀v' w' O',RowT enc E sz O' w' i v' (l++[u])->Upd (λk=>k=i) O w O' w'->Rng B O' w'->WL P N ops Q rest ((d',v')::(d,.slice (some ⟨w.heap.size,0,none⟩) 1 1)::st) w') :
  WL P N ops Q (⟨some d,.buildSlice T 1 #[(0,x)],t,p,e,none⟩::⟨some d',.call ⟨.builtin .append,#[y,.tmp d],#[T,T]⟩,t',p',e',none⟩::rest) st w:=by
 obtain⟨a8,z,hi,hz,a2,b6,b5⟩:=he.parts;have b3:xv.cells.size=sz:=by rw[<-a7,<-a6];simp
 have b1:=he.pos;refine WL.val (v:=.slice (some ⟨w.heap.size,0,none⟩) 1 1) (w':=w.alloc (.cells xv.cells E)) hd (λa ha=>?_) ?_
 ·have:=run_buildSlice (P:=P) w T E 1 #[(0,xv)] xv.cells a8 z he.ht hi hz (by rw[a2];omega) (by rw[a2];omega) (by
   rw[a2]
   exact oV b3 (by simp))
  simp only[execOp,Lp,LN,Mv,ha.ev hx,Lm,this,Li];rfl
 have a9:¬(λk=>k=i) 0:=λh=>a5 h.symm
 have hE:=Ext.alloc w (.cells xv.cells E);have r1:=r.ext hE;have b0:RowT enc E sz O (w.alloc (.cells xv.cells E)) i v l:=hr.U (aa (S:=λ_=>False) (λh=>h) O hE) a5 (λh=>h)
 obtain⟨v',w',O',a3,a4,a1⟩:=gx (P:=P) (ty:=t') he r1 b0.1 ⟨w.heap.size,0,none⟩ 1 1 (enc u) zo (λj c hc=>by
  rw[show((⟨w.heap.size,0,none⟩:Mu).add j)=⟨w.heap.size,j,none⟩from by simp only[M9];split<;>simp_all,cell_of_row _ _ j xv.cells E (0,0) (heap_alloc_new w _)]
  rw[<-a6]at hc;simpa using hc) a' hb b4 a5
 refine WL.val (v:=v') (w':=w') b2 (λa ha=>?_) ?_
 ·simp only[execOp,resolve,invoke,builtin,Lm,M4,Li,Lp,LN,Mv,ha.ev (hv _),ha.ev (x:=.tmp d) (v:=.slice (some ⟨w.heap.size,0,none⟩) 1 1) (by simp[ev,cQ]),a3]
 have hU:Upd (λk=>k=i) O w O' w':=Upd.J (aa a9 O hE) a1;refine h v' w' O' ⟨by simpa using a4,?_⟩ hU (r.U hU);intro c hc
 rcases P1.1 hc with hc|hc
 ·exact hr.2 c hc
 rw[MD.1 hc];exact a7
def aj{b:Nat}{cs:Array ix}{c:ix}(hb:BlkO O w i b cs E)(hj:cs[j]? = some c)(hT:(Ms T).run P w=.ok 1 w)(h1:u.oneCell'=true)
   (hx:ev st x=some (.pointer (some q))) (hq:q=⟨b,j,none⟩) (hy:ev st y=some u)
  (h:WL P N ops Q rest st (w.setCell ⟨b,j,none⟩ u)):WL P N ops Q (⟨none,.store T x y,t,p,e,none⟩::rest) st w:=
 jG (λa ha=>by
  subst hq;have hc:=hb.cell j hj;have hf:w.frozen? ⟨b,j,none⟩=false:=by simp[Qn,hb.blk]
  simp only[execOp,ha.ev hx,ha.ev hy]
  cases u<;>simp[Mz]at h1<;>simp[NA,MA,storeVar,hT,Pv,storeCells,store,Pb,hc,hf,M9]) h
def WL.storeAt{val:α->ix}{l:List α}(hr:RowT (λx=>[val x]) E 1 O w i v l)(n:Nat)(hn:n<l.length)(u:α)(hT:(Ms T).run P w=.ok 1 w)(h1:(val u).oneCell'=true)(a1:i≠0)
   {uv:ix} (hx:ev st x=some (.pointer (some q))) (hq:q=adr v 1 n) (hy:ev st y=some uv) (hu:uv=val u)
  (h:∀w',RowT (λx=>[val x]) E 1 O w' i v (l.set n u)->Upd (λj=>j=i) O w O w'->WL P N ops Q rest st w'):WL P N ops Q (⟨none,.store T x y,t,p,e,none⟩::rest) st w:=by
 subst hq;subst hu;obtain⟨hc,hf,a0,ht⟩:=hr.put hn u;refine jG (w':=w.setCell (adr v 1 n) (val u)) (λa ha=>?_) (h _ a0 ?_)
 ·simp only[execOp,ha.ev hx,ha.ev hy];generalize val u=uv at *
  cases uv<;>simp[Mz]at h1<;>simp[NA,MA,storeVar,hT,Pv,storeCells,store,Pb,hc,hf,M9]
 refine⟨rfl,rfl,rfl,by simp[Nz],λk _ hn=>NK _ _ _ _ (λe=>hn (by rw[e];exact ht)),λ_ _=>rfl,λ_ h=>.inl h,λh=>a1 h.symm⟩
end
end Go.VL
namespace Go.VL
def Calm(Q:Mq->MG->ka->Prop):Mq->MG->ka->Prop
 |.panic _,_,_=>False
 |e,a,w=>Q e a w
def Calm.imp:∀ {e:Mq} {a:MG} {w:ka},Calm Q e a w->Q e a w:=by
 intro e a w h
 cases e<;>first|exact h|exact h.elim
section
variable(P:Ln)(N:Nat)
def WH(ops:Array Ly)(S:ka->Prop)(Q:Mq->MG->ka->Prop)(a1:Nat)(a0:Array Bool)(st:St)(w:ka):Prop:=
 ∀a,Fits N a st->wpAnyH P .any ops (Calm Q) S a1 a0 a w
end
section
variable{P:Ln}{N:Nat}{ops:Array Ly}{S:ka→Prop}{Q:Mq→MG→ka→Prop}{st:St}{w:ka}{fuel:Nat}{listed:Array Bool}
def aN{l:List Ly}(S:ka->Prop)(n:Nat)(hn:l.length=n)(hm:P.follows .mixedOrders=true)
  (h:WH P N l.toArray S Q n (NV n false) st w.drew):WC P N (Nv id l.toArray true) Q st w:=λa ha=>by
 refine wp_mono (Q:=Calm Q) (wp_region_held (S:=S) hm ?_) λe a w h=>h.imp
 have:=h a ha;simp only[NN,hn];exact this
def WH.take{op:Op}{p:String}{e:Array MV}(i:Nat)(hi:ops[i]? = some ⟨some d,op,t,p,e,none⟩)
  (hs:LD ops=true) (hf:M6 .any ops listed i=true) (hr:(Lu .any ops listed).contains i=true) (hS:S w)
  (hv:∀w',S w'->RV P N op t st w' v) (hd:L3 d N=true) (h:WH P N ops S Q fuel (listed.setIfInBounds i true) ((d,v)::st) w):WH P N ops S Q (fuel+1) listed st w:=by
 intro a ha;apply wpAnyH_take (v:=v) hi hs hf hr (λ_ _ _ h=>h) (.inl ⟨by simp[LL],λw' a0=>hv w' a0 a ha _ _ _ _⟩) hS;exact h _ (ha.put hd v)
def fX{op:Op}{p:String}{e:Array MV}(i:Nat)(hi:ops[i]? = some ⟨some d,op,t,p,e,some (j,b)⟩)(hg:said ops st j=some b)
  (hs:LD ops=true) (hf:M6 .any ops listed i=true) (hr:(Lu .any ops listed).contains i=true) (hS:S w)
  (hv:∀w',S w'->RV P N op t st w' v) (hd:L3 d N=true) (h:WH P N ops S Q fuel (listed.setIfInBounds i true) ((d,v)::st) w):WH P N ops S Q (fuel+1) listed st w:=by
 intro a ha;apply wpAnyH_take (v:=v) hi hs hf hr (λ_ _ _ h=>h) (.inl ⟨by simp[LL,cE ha hg],λw' a0=>hv w' a0 a ha _ _ _ _⟩) hS;exact h _ (ha.put hd v)
def B4{op:Op}{p:String}{e:Array MV}(i:Nat)(hi:ops[i]? = some ⟨some d,op,t,p,e,some (j,b)⟩)(hg:said ops st j=some b')(a0:(b'==b)=false)
  (hs:LD ops=true) (hf:M6 .any ops listed i=true) (hr:(Lu .any ops listed).contains i=true) (hS:S w)
  (hd:L3 d N=true) (h:WH P N ops S Q fuel (listed.setIfInBounds i true) ((d,undef)::st) w):WH P N ops S Q (fuel+1) listed st w:=by
 intro a ha;refine wpAnyH_take (v:=undef) hi hs hf hr (λ_ _ _ h=>h) (.inr ⟨?_,rfl⟩) hS ?_
 ·have:(b'==b)=false:=a0;simp[LL,cE ha hg];simpa using this
 exact h _ (ha.put hd undef)
def zA{op:Op}{p:String}{e:Array MV}(i:Nat)(hi:ops[i]? = some ⟨some d,op,t,p,e,some (j,b)⟩)(hg:kM ops st j=true)
  (hs:LD ops=true) (hf:M6 .any ops listed i=true) (hr:(Lu .any ops listed).contains i=true) (hS:S w)
  (hd:L3 d N=true) (h:WH P N ops S Q fuel (listed.setIfInBounds i true) ((d,undef)::st) w):WH P N ops S Q (fuel+1) listed st w:=by
 intro a ha;refine wpAnyH_take (v:=undef) hi hs hf hr (λ_ _ _ h=>h) (.inr ⟨?_,rfl⟩) hS ?_
 ·unfold kM at hg;simp only[LL,yielded]
  cases hd:(ops[j]?).bind (·.dst)with
  |none=>rw[hd]at hg;simp at hg
  |some d=>
   rw[hd]at hg;simp only at hg
   cases hx:cQ st d with
   |none=>rw[hx]at hg;simp at hg
   |some v=>
    rw[hx]at hg
    cases v<;>simp at hg
    simp[ha.get _ _ hx]
 exact h _ (ha.put hd undef)
def uq(P:Ln)(ops:Array Ly)(S:ka->Prop)(Q:Mq->MG->ka->Prop)(a1:Nat)(a0:Array Bool):Mq->MG->ka->Prop:=
 Exit.then (λa' w'=>S w'/\wpAnyH P .any ops (Calm Q) S a1 a0 a' w') (Calm Q)
def ae(hS:S w)(h:WH P N ops S Q fuel (listed.setIfInBounds i true) st w):QF N (uq P ops S Q fuel (listed.setIfInBounds i true)) .normal st w:=λa ha=>⟨hS,h a ha⟩
def WH.all(rs:List Nat)(hr:Lu .any ops listed=rs)(a0:rs≠[])
  (h:∀i∈rs,∀o,ops[i]? = some o->WL P N ops (uq P ops S Q fuel (listed.setIfInBounds i true)) [o] st w):WH P N ops S Q (fuel+1) listed st w:=by
 intro a ha;refine wpAnyH_all hr a0 λi hi=>?_
 have a1:∃o,ops[i]? = some o:=by
  rw[<-hr]at hi;simp only[Lu,List.mem_filter,Ni]at hi;exact⟨_,Array.getElem?_eq_getElem hi.1⟩
 obtain⟨o,ho⟩:=a1;have h1:=h i hi o ho a ha;unfold wpOp;simp only[ho];unfold wpList at h1
 split
 ·rename_i hw;rw[ap hw]at h1;refine h1.imp (λh2=>?_) (fun⟨h2,h3⟩=>⟨h2,h3⟩);unfold N6 at h2 ⊢;generalize (execOp a.eval o).run P w=r at *
  cases r with
  |ok n w'=>
   cases n<;>simp only[Nm]at h2 ⊢<;>first
    |exact h2
    |exact MM h2 (λe w'' he=>by cases e<;>exact he)
    |exact Q8 h2 (λ_ _ he=>he)
  |halt x w'=>cases x<;>simp only[Nm]at h2 ⊢<;>exact h2
 rename_i hw;rw[am hw]at h1;exact h1
def WH.one(i:Nat)(hr:Lu .any ops listed=[i])(hi:ops[i]? = some o)
  (h:WL P N ops (uq P ops S Q fuel (listed.setIfInBounds i true)) [o] st w):WH P N ops S Q (fuel+1) listed st w:=
 WH.all [i] hr (by simp) λj hj o' a0=>by
  simp only[MD]at hj;subst hj;rw[hi]at a0;cases a0;exact h
def WH.two(i j:Nat){o':Ly}(hr:Lu .any ops listed=[i,j])(hi:ops[i]? = some o)(hj:ops[j]? = some o')
  (h:WL P N ops (uq P ops S Q fuel (listed.setIfInBounds i true)) [o] st w) (h':WL P N ops (uq P ops S Q fuel (listed.setIfInBounds j true)) [o'] st w):WH P N ops S Q (fuel+1) listed st w:=
 WH.all [i,j] hr (by simp) λk hk q hq=>by
  simp only[Qu,List.not_mem_nil,or_false]at hk
  rcases hk with rfl|rfl
  ·rw[hi]at hq;cases hq;exact h
  rw[hj]at hq;cases hq;exact h'
def et(hs:cQ st d=some (.bool b))(hb:b=b')(h:WH P N ops S Q fuel listed ((d,.bool b')::st) w):WH P N ops S Q fuel listed st w:=by
 subst hb;refine λa ha=>h a ⟨ha.size,ha.defers,λt v hv=>?_⟩
 simp only[cQ]at hv
 cases hb:My d t with
 |true=>rw[hb]at hv;have:=Lo hb;subst this;simp at hv;subst hv;exact ha.get _ _ hs
 |false=>rw[hb]at hv;exact ha.get _ _ hv
def WH.done(hr:Lu .any ops listed=[])(h:QF N Q .normal st w):WH P N ops S Q fuel listed st w:=λa ha=>wpAnyH_done (Q:=Calm Q) hr (show Calm Q .normal a w from h a ha) fuel
end
section
variable(P:Ln)(N:Nat)
def WS(ops:Array Ly)(w:ka)(K:MG->Prop)(l:List Ly)(st:St):Prop:=∀a,Fits N a st->wpStill P ops w K l a
end
section
variable{P:Ln}{N:Nat}{ops:Array Ly}{Q:Mq→MG→ka→Prop}{K:MG→Prop}{st:St}{w:ka}{rest:List Ly}
def WC.tail{l hd:List Ly}(n:Nat)(ht:l.take n=hd)(a0:l.drop n=tl)(hm:P.follows .mixedOrders=true)(hB:Region.lexTailB .any l.toArray n=true)
  (h:WS P N l.toArray w.drew (λa'=>wpList P l.toArray Q tl a' w.drew) hd st):WC P N (Nv id l.toArray true) Q st w:=λa ha=>by
 subst ht;subst a0;exact wp_region_still_tail n hm hB (h a ha)
def WC.still{l:List Ly}(hm:P.follows .mixedOrders=true)(hB:Qt .any l.toArray=true)
  (h:WS P N l.toArray w.drew (λa'=>Q .normal a' w.drew) l st):WC P N (Nv id l.toArray true) Q st w:=λa ha=>by
 exact wp_region_still_lit hm hB (h a ha)
def dX(h:WL P N ops Q tl st w):WS P N ops w (λa'=>wpList P ops Q tl a' w) [] st:=λa ha=>h a ha
def WS.nil(h:QF N Q .normal st w):WS P N ops w (λa'=>Q .normal a' w) [] st:=λa ha=>h a ha
def rf{op:Op}{p:String}{e:Array MV}(hv:RV P N op t st w v)(hd:L3 d N=true)
  (h:WS P N ops w K rest ((d,v)::st)):WS P N ops w K (⟨some d,op,t,p,e,none⟩::rest) st:=λa ha=>by
 unfold wpStill;rw[ap (cu rfl _)];unfold QK;rw[hv a ha];exact⟨rfl,h _ (ha.put hd v)⟩
def LO{op:Op}{p:String}{e:Array MV}{d:Option QU}(hs:said ops st j=some b)
  (h:WS P N ops w K (⟨d,op,t,p,e,none⟩::rest) st):WS P N ops w K (⟨d,op,t,p,e,some (j,b)⟩::rest) st:=by
 intro a ha;have h1:=h a ha;unfold wpStill at h1 ⊢;rw[ap (by simp[LL])]at h1;rw[ap (by simp[LL,cE ha hs])];exact h1
def WS.off{op:Op}{p:String}{e:Array MV}(hs:said ops st j=some b')(a0:(b'==b)=false)(hd:L3 d N=true)
  (h:WS P N ops w K rest ((d,undef)::st)):WS P N ops w K (⟨some d,op,t,p,e,some (j,b)⟩::rest) st:=by
 intro a ha;unfold wpStill;rw[am (by simp[LL,cE ha hs];simpa using a0)];exact h _ (ha.put hd undef)
def Fo{op:Op}{p:String}{e:Array MV}(hs:kM ops st j=true)(hd:L3 d N=true)
  (h:WS P N ops w K rest ((d,undef)::st)):WS P N ops w K (⟨some d,op,t,p,e,some (j,b)⟩::rest) st:=by
 intro a ha;unfold wpStill;rw[am ?_]
 ·exact h _ (ha.put hd undef)
 unfold kM at hs;simp only[LL,yielded]
 cases hd:(ops[j]?).bind (·.dst)with
 |none=>rw[hd]at hs;simp at hs
 |some d=>
  rw[hd]at hs;simp only at hs
  cases hx:cQ st d with
  |none=>rw[hx]at hs;simp at hs
  |some v=>
   rw[hx]at hs
   cases v<;>simp at hs
   simp[ha.get _ _ hx]
def cg{l:List Ly}(hs:cQ st d=some (.bool b))(hb:b=b')(h:WS P N ops w K l ((d,.bool b')::st)):WS P N ops w K l st:=by
 subst hb;refine λa ha=>h a ⟨ha.size,ha.defers,λt v hv=>?_⟩
 simp only[cQ]at hv
 cases hb:My d t with
 |true=>rw[hb]at hv;have:=Lo hb;subst this;simp at hv;subst hv;exact ha.get _ _ hs
 |false=>rw[hb]at hv;exact ha.get _ _ hv
def WS.call{t:ln}{p:String}{e:Array MV}{d:Nat}{f:Nj}{args:List Lj}{a2:Array ln}{vs:List ix}{v:ix}
  (hf:∀(args:Array ix) (w:ka),(callFunc f args).run P w=.ok (.enter f args) w) (a0:evs st args=some vs) (hc:Ret P f vs w λu w'=>u=v/\w'=w) (hd:L3 d N=true)
  (h:WS P N ops w K rest ((d,v)::st)):WS P N ops w K (⟨some d,.call ⟨.value (.func f),args.toArray,a2⟩,t,p,e,none⟩::rest) st:=by
 intro a ha;unfold wpStill;rw[ap (cu rfl _)];unfold QK;have a1:(execOp a.eval ⟨some d,.call ⟨.value (.func f),args.toArray,a2⟩,t,p,e,none⟩).run P w=.ok (.enter f vs.toArray) w:=by
  simp only[execOp,resolve,MI,Lp];rw[ha.evs a0];simp[MY,invoke,hf]
 rw[a1];refine⟨rfl,v,MM hc λe w' q=>?_,h _ (ha.put hd v)⟩
 cases e with
 |returned u=>exact⟨by rw[q.1],q.2⟩
 |panicked c=>exact q.elim
 |outgrown=>exact q.elim
end
section
variable(P:Ln)(N:Nat)
def WQ(ops:Array Ly)(C:ka->Prop)(K:MG->Prop)(l:List Ly)(st:St):Prop:=∀a,Fits N a st->wpQuiet P ops C K l a
end
section
variable{P:Ln}{N:Nat}{ops:Array Ly}{C:ka→Prop}{Q:Mq→MG→ka→Prop}{K:MG→Prop}{st:St}{w:ka}{rest:List Ly}
def AW{l:List Ly}(C:ka->Prop)(hm:P.follows .mixedOrders=true)(hB:Qt .any l.toArray=true)(hC:C w.drew)
  (h:WQ P N l.toArray C (λa'=>∀w',C w'->Q .normal a' w') l st):WC P N (Nv id l.toArray true) Q st w:=λa ha=>
 wp_region_quiet (C:=C) hm hB hC (by simpa using h a ha)
def WQ.nil(h:∀w',C w'->QF N Q .normal st w'):WQ P N ops C (λa'=>∀w',C w'->Q .normal a' w') [] st:=λa ha w' a0=>h w' a0 a ha
def kG{op:Op}{p:String}{e:Array MV}(hv:∀w,C w->RV P N op t st w v)(hd:L3 d N=true)
  (h:WQ P N ops C K rest ((d,v)::st)):WQ P N ops C K (⟨some d,op,t,p,e,none⟩::rest) st:=λa ha=>by
 unfold wpQuiet;rw[ap (cu rfl _)];exact⟨v,λw hw=>by unfold QA;rw[hv w hw a ha];exact⟨rfl,rfl⟩,h _ (ha.put hd v)⟩
def WQ.call{t:ln}{p:String}{e:Array MV}{d:Nat}{f:Nj}{args:List Lj}{a2:Array ln}{vs:List ix}{v:ix}
  (hf:∀(args:Array ix) (w:ka),(callFunc f args).run P w=.ok (.enter f args) w) (a0:evs st args=some vs) (hc:∀w,C w->Ret P f vs w λu w'=>u=v/\C w') (hd:L3 d N=true)
  (h:WQ P N ops C K rest ((d,v)::st)):WQ P N ops C K (⟨some d,.call ⟨.value (.func f),args.toArray,a2⟩,t,p,e,none⟩::rest) st:=by
 intro a ha;unfold wpQuiet;rw[ap (cu rfl _)];refine⟨v,λw hw=>?_,h _ (ha.put hd v)⟩;unfold QA;have a1:(execOp a.eval ⟨some d,.call ⟨.value (.func f),args.toArray,a2⟩,t,p,e,none⟩).run P w=.ok (.enter f vs.toArray) w:=by
  simp only[execOp,resolve,MI,Lp];rw[ha.evs a0];simp[MY,invoke,hf]
 rw[a1];refine⟨rfl,MM (hc w hw) λe w' q=>?_⟩
 cases e with
 |returned u=>exact⟨by rw[q.1],q.2⟩
 |panicked c=>exact q.elim
 |outgrown=>exact q.elim
end
end Go.VL
namespace Go.VL
section
variable{κ ν:Type}{kv:κ→ix}{vv:ν→ix}
structure MapO{κ ν:Type}(kv:κ->ix)(vv:ν->ix)(O:Nat->Nat)(w:ka)(i r:Nat)(l:List (κ×ν)):Prop where
 blk:∃es clock,w.heap[r]? = some (.map es clock)/\es.toList.map (λe=>(e.key,e.val))=l.map λp=>(kv p.1,vv p.2)
 tag:O r=i
 born:∀es clock,w.heap[r]? = some (.map es clock)->(es.toList.map (·.born)).Nodup/\∀e∈es.toList,e.born<clock
def MapO.U{r:Nat}{l:List (κ×ν)}(h:MapO kv vv O w i r l)(u:Upd S O w O' w')(hi:i≠0)(hS:¬S i):MapO kv vv O' w' i r l:=by
 obtain⟨es,c,h1,h2⟩:=h.blk;have e:=u.blk r (bH h1) (by rw[h.tag];exact hS);exact⟨⟨es,c,by rw[e];exact h1,h2⟩,by rw[u.tag r (by rw[h.tag];exact hi),h.tag],λa0 c' h'=>h.born a0 c' (by rw[<-e];exact h')⟩
def MapO.new(O:Nat->Nat)(w:ka)(i:Nat):MapO kv vv (og O w.heap.size i) (w.alloc (.map #[] 0)) i w.heap.size []:=⟨⟨#[],0,heap_alloc_new w _,by simp⟩,fJ _ _ _,λes c h=>by rw[heap_alloc_new]at h;cases h;simp⟩
end
section
variable{κ ν:Type}[DecidableEq κ]
def bC:List (κ×ν)->κ->Option ν
 |[],_=>none
 |(a,x)::r,k=>if a=k then some x else bC r k
def dc:List (κ×ν)->κ->ν->List (κ×ν)
 |[],k,x=>[(k,x)]
 |(a,y)::r,k,x=>if a=k then(k,x)::r else(a,y)::dc r k x
def ke:List (κ×ν)->κ->Option Nat
 |[],_=>none
 |(a,_)::r,k=>if a=k then some 0 else(ke r k).map (· + 1)
def bn(l:List (κ×ν))(k k':κ)(x:ν):bC (dc l k x) k'=if k=k' then some x else bC l k':=by
 induction l with
 |nil=>simp[dc,bC]
 |cons p r ih=>
  obtain⟨a,y⟩:=p;simp only[dc]
  by_cases h:a=k
  ·subst h;simp only[ap,bC]
   by_cases h2:a=k'<;>simp[h2]
  simp only[am h,bC]
  by_cases h2:a=k'
  ·subst h2;simp only[if_true];rw[am (λe=>h e.symm)]
  simp[h2,ih]
structure KeyL(P:Ln)(K:ln)(kv:κ->ix):Prop where
 check:∀b n k w,(P7 b (n+3) K (kv k)).run P w=.ok () w
 find:∀k (es:List Qi) (ks:List κ) w,es.map (·.key)=ks.map kv->(Pj K (kv k) es).run P w=.ok ((ks.findIdx? (· = k)).bind λi=>(es[i]?).map λe=>(i,e.val)) w
 same:∀k,P6 10000 (kv k) (kv k)=true
def KeyL.int{P:Ln}{K:ln}{q:Lq}(hK:P.underlying K=some (.int q)):KeyL P K (λn:Int=>Pk q n):=by
 refine⟨λb n k w=>?_,λk es ks w h=>?_,λk=>?_⟩
 ·simp[P7,run_underlying hK]
 ·have key:∀(es:List Qi) (ks:List Int) (j:Nat),es.map (·.key)=ks.map (λn=>Pk q n)->
    N4 (.int q) (.int q k) es j=some ((ks.findIdx? (· = k)).bind λi=>(es[i]?).map λe=>(j+i,e.val)):=by
   intro es
   induction es with
   |nil=>intro ks j h;cases ks with
    |nil=>simp[N4]
    |cons a r=>simp at h
   |cons e es ih=>
    intro ks j h
    cases ks with
    |nil=>simp at h
    |cons a r=>
     simp only[LN,PD]at h;simp only[N4,h.1,Qr,if_true]
     by_cases hk:k=a
     ·subst hk;simp[MS]
     have:(k==a)=false:=by simpa using hk
     rw[this];simp only;rw[ih r (j+1) h.2];simp only[MS,decide_eq_true_eq];rw[am (λe=>hk e.symm)]
     cases hf:Qv (λx=>decide (x=k)) r with
     |none=>simp
     |some i=>simp[QB,QE 1]
  have:=key es ks 0 h;simp only[Mw]at this;simp[Pj,run_underlying hK,this]
 simp[P6]
def Iq(a b:ByteArray):(a==b)=decide (a=b):=by
 cases a with|mk a=>cases b with|mk b=>
 show(a==b)=_
 by_cases h:a=b
 ·subst h;simp
 have:(a==b)=false:=by simpa using h
 rw[this];symm;simpa using h
def G4{K:ln}(hK:P.underlying K=some .string):KeyL P K NJ:=by
 refine⟨λb n k w=>?_,λk es ks w h=>?_,λk=>?_⟩
 ·simp[P7,run_underlying hK]
 ·have key:∀(es:List Qi) (ks:List ByteArray) (j:Nat),es.map (·.key)=ks.map NJ->
    N4 .string (.string k) es j=some ((ks.findIdx? (· = k)).bind λi=>(es[i]?).map λe=>(j+i,e.val)):=by
   intro es
   induction es with
   |nil=>intro ks j h;cases ks with
    |nil=>simp[N4]
    |cons a r=>simp at h
   |cons e es ih=>
    intro ks j h
    cases ks with
    |nil=>simp at h
    |cons a r=>
     simp only[LN,PD]at h;simp only[N4,h.1,Qr,Iq]
     by_cases hk:k=a
     ·subst hk;simp[MS]
     have:decide (k=a)=false:=by simpa using hk
     rw[this];simp only;rw[ih r (j+1) h.2];simp only[MS,decide_eq_true_eq];rw[am (λe=>hk e.symm)]
     cases hf:Qv (λx=>decide (x=k)) r with
     |none=>simp
     |some i=>simp[QB,QE 1]
  have:=key es ks 0 h;simp only[Mw]at this;simp[Pj,run_underlying hK,this]
 simp[P6,Iq]
variable{kv:κ→ix}{vv:ν→ix}
def eY:∀(l:List (κ×ν)) (k:κ),(l.map (·.1)).findIdx? (· = k)=ke l k
 |[],k=>rfl
 |(a,x)::r,k=>by
  simp only[LN,MS,ke,decide_eq_true_eq]
  by_cases h:a=k
  ·simp[h]
  simp only[am h];rw[eY r k]
def mL:∀(l:List (κ×ν)) (k:κ),bC l k=(ke l k).bind λi=>(l[i]?).map (·.2)
 |[],k=>rfl
 |(a,x)::r,k=>by
  simp only[bC,ke]
  by_cases h:a=k
  ·simp[h]
  simp only[am h];rw[mL r k]
  cases ke r k<;>simp
def fw:∀(l:List (κ×ν)) (k:κ) (x:ν),dc l k x=match ke l k with
  |some i=>l.set i (k,x)
  |none=>l++[(k,x)]
 |[],k,x=>rfl
 |(a,y)::r,k,x=>by
  simp only[dc,ke]
  by_cases h:a=k
  ·simp[h]
  simp only[am h];rw[fw r k x]
  cases ke r k<;>simp
def jE:∀ {l:List (κ×ν)} {k:κ} {i:Nat},ke l k=some i->∃x,l[i]? = some (k,x)
 |(a,x)::r,k,i,h=>by
  simp only[ke]at h
  by_cases hk:a=k
  ·subst hk;simp at h;subst h;exact⟨x,rfl⟩
  rw[am hk]at h
  cases hr:ke r k with
  |none=>rw[hr]at h;simp at h
  |some j=>
   rw[hr]at h;simp at h;subst h;obtain⟨y,hy⟩:=jE hr;exact⟨y,by simpa using hy⟩
def JK(vv:ν->ix)(z:ix):Option ν->ix
 |some x=>vv x
 |none=>z
def It(vv:ν->ix)(z:ix):Option ν->ix
 |some x=>.tuple #[vv x,.bool true]
 |none=>.tuple #[z,.bool false]
def kC{K:ln}(hT:P.underlying T=some (.map K E))(hK:KeyL P K kv){r:Nat}{l:List (κ×ν)}(h:MapO kv vv O w i r l)(hz:(Na E).run P w=.ok z w)(k:κ)(ok:Bool):
  (Qw T (.map (some r)) (kv k) ok).run P w=.ok (match bC l k with
   |some x=>if ok then .tuple #[vv x,.bool true]else vv x
   |none=>if ok then .tuple #[z,.bool false]else z) w:=by
 obtain⟨es,c,h1,h2⟩:=h.blk;have a0:es.toList.map (·.key)=(l.map (·.1)).map kv:=by
  have:=congrArg (Pe Qo) h2;simpa[Pz]using this
 have hf:=hK.find k es.toList (l.map (·.1)) w a0;rw[eY]at hf;have hc:=hK.check es.isEmpty 9997 k w;simp only[Qw,Lm,run_underlying hT,Li];simp only[getObj,Pb,h1,Lm,Li,M4,hc,hf];rw[mL]
 cases hi:ke l k with
 |none=>simp[hz]
 |some j=>
  obtain⟨x,hx⟩:=jE hi;have hj:es.toList[j]?.map (λe=>(e.key,e.val))=some (kv k,vv x):=by
   have:=congrArg (λl=>l[j]?) h2;simpa[hx]using this
  cases he:es.toList[j]? with
  |none=>rw[he]at hj;simp at hj
  |some e'=>
   rw[he]at hj;simp at hj;simp only[PO,he,hx,Mt,hj.2]
   cases ok<;>simp
def eD{K:ln}(hT:P.underlying T=some (.map K E))(hK:KeyL P K kv){r:Nat}{l:List (κ×ν)}(h:MapO kv vv O w i r l)(a':i≠0)(k:κ)(x:ν):
  ∃w',(NU T (.map (some r)) (kv k) (vv x)).run P w=.ok () w'/\MapO kv vv O w' i r (dc l k x)/\Upd (λj=>j=i) O w O w':=by
 obtain⟨es,c,h1,h2⟩:=h.blk;have a9:es.toList.map (·.key)=(l.map (·.1)).map kv:=by
  have:=congrArg (Pe Qo) h2;simpa[Pz]using this
 have hf:=hK.find k es.toList (l.map (·.1)) w a9;rw[eY]at hf;have hc:=hK.check false 9997 k w;have hr:=bH h1;have a8:es.size=l.length:=by have:=congrArg List.length h2;simpa using this
 have a1:=h.born es c h1;have a6:∀(a0:Array Qi) (c':Nat),((a0.toList.map (·.born)).Nodup/\∀e∈a0.toList,e.born<c')->a0.toList.map (λe=>(e.key,e.val))=(dc l k x).map (λp=>(kv p.1,vv p.2))->
   MapO kv vv O { w with heap:=w.heap.setIfInBounds r (.map a0 c') } i r (dc l k x)/\Upd (λj=>j=i) O w O { w with heap:=w.heap.setIfInBounds r (.map a0 c') }:=by
  intro a0 c' a4 he;refine⟨⟨⟨a0,c',by simp[hr],he⟩,h.tag,λb0 c2 h2=>by simp[hr]at h2;obtain⟨rfl,rfl⟩:=h2;exact a4⟩,⟨rfl,rfl,rfl,by simp,λb _ hn=>?_,λ_ _=>rfl,λ_ h=>.inl h,λh=>a' h.symm⟩⟩;simp only[NW];rw[am (λe=>hn (by rw[<-e];exact h.tag))]
 have a2:(NU T (.map (some r)) (kv k) (vv x)).run P w=((match ((ke l k).bind λi=>(es.toList[i]?).map λe=>(i,e.val))with
   |some (i,_)=>do
    let key <-NF (((es[i]?).map (·.key)).getD (kv k)) (kv k)
    setObj r (.map (es.modify i λe=>{ e with key,val:=vv x }) c)
   |none=>setObj r (.map (es.push { key:=kv k,val:=vv x,born:=c }) (c+1)):Sem Unit)).run P w:=by
  simp only[NU,Lm,run_underlying hT,Li];simp only[getObj,Pb,h1,Lm,Li,hc,hf];generalize ((ke l k).bind λi=>Option.map (λe=>(i,e.val)) es.toList[i]?)=q
  cases q with
  |none=>rfl
  |some p=>rfl
 rw[a2,fw]
 cases hi:ke l k with
 |none=>
  refine⟨_,by simp only[Option.bind_none,setObj,Pb,h1];rfl,?_⟩
  have:=a6 (es.push { key:=kv k,val:=vv x,born:=c }) (c+1) (by
   refine⟨?_,?_⟩
   ·simp only[PT,List.map_append,LN,Mv];refine List.nodup_append.2 ⟨a1.1,by simp,?_⟩;intro a ha b hb;obtain⟨e,he,rfl⟩:=NO.1 ha;have:=a1.2 e he;simp at hb;omega
   intro e he;simp only[PT,P1,MD]at he
   rcases he with he|rfl
   ·have:=a1.2 e he;omega
   simp) (by rw[fw,hi];simp[h2])
  rw[fw,hi]at this;exact this
 |some j=>
  obtain⟨y,hy⟩:=jE hi;have hj:es.toList[j]?.map (λe=>(e.key,e.val))=some (kv k,vv y):=by
   have:=congrArg (λl=>l[j]?) h2;simpa[hy]using this
  cases he:es.toList[j]? with
  |none=>rw[he]at hj;simp at hj
  |some e'=>
   rw[he]at hj;simp at hj;have a3:es[j]? = some e':=by simpa using he
   have a7:(NF (kv k) (kv k))=pure (kv k):=by simp[NF,hK.same k]
   refine⟨_,by simp only[PO,he,Mt,a3,hj.1,Option.getD_some,a7,Lm,M4,Li,setObj,Pb,h1];rfl,?_⟩;have a5:((es.modify j λe=>{ e with key:=kv k,val:=vv x }).toList.map (·.born))=es.toList.map (·.born):=by
    simp only[PE];apply Q5;intro m;simp only[NP,PC]
    split
    ·cases es.toList[m]?<;>simp
    cases es.toList[m]?<;>simp
   have:=a6 (es.modify j λe=>{ e with key:=kv k,val:=vv x }) c (by
    rw[a5];refine⟨a1.1,λe he=>?_⟩;have:e.born∈es.toList.map (·.born):=by rw[<-a5];exact NO.2 ⟨e,he,rfl⟩
    obtain⟨e2,a3,q⟩:=NO.1 this;have:=a1.2 e2 a3;omega) (by
    rw[fw,hi];simp only[PE];apply Q5;intro m;have h2m:=congrArg (λl=>l[m]?) h2;simp only[NP]at h2m;simp only[NP,PC,List.getElem?_set]
    by_cases hm:j=m
    ·subst hm;have hl:j<l.length:=(Lz.1 hy).1;simp[he,hl]
    simp only[am hm]
    simpa using h2m)
   rw[fw,hi]at this;exact this
section
variable{P:Ln}{N:Nat}{ops:Array Ly}{Q:Mq→MG→ka→Prop}{rest:List Ly}{st:St}{w:ka}
variable{t:ln}{p:String}{e:Array MV}{d:Nat}{x y z:Lj}
def WL.makeMap{T:ln}(hd:L3 d N=true)(h:WL P N ops Q rest ((d,.map (some w.heap.size))::st) (w.alloc (.map #[] 0))):WL P N ops Q (⟨some d,.makeMap T none,t,p,e,none⟩::rest) st w:=
 WL.val hd (λa ha=>by simp only[execOp,MB,Lm];rfl) h
def RV.lookup{T K E:ln}{O:Nat->Nat}{i r:Nat}{l:List (κ×ν)}(hm:MapO kv vv O w i r l)(hT:P.underlying T=some (.map K E))(hK:KeyL P K kv){z:ix}(hz:(Na E).run P w=.ok z w)
  (k:κ) {kx u:ix} (hx:ev st x=some (.map (some r))) (hy:ev st y=some kx) (hk:kx=kv k) (hu:JK vv z (bC l k)=u):RV P N (.lookup T x y false) t st w u:=
 λa ha a0 p e g=>by
  subst hk;subst hu;simp only[execOp,ha.ev hx,ha.ev hy,Lm,kC hT hK hm hz]
  cases bC l k<;>simp[JK]
def dm{T K E:ln}{O:Nat->Nat}{i r:Nat}{l:List (κ×ν)}(hm:MapO kv vv O w i r l)(hT:P.underlying T=some (.map K E))(hK:KeyL P K kv){z:ix}(hz:(Na E).run P w=.ok z w)
  (k:κ) {kx u:ix} (hx:ev st x=some (.map (some r))) (hy:ev st y=some kx) (hk:kx=kv k) (hu:It vv z (bC l k)=u):RV P N (.lookup T x y true) t st w u:=
 λa ha a0 p e g=>by
  subst hk;subst hu;simp only[execOp,ha.ev hx,ha.ev hy,Lm,kC hT hK hm hz]
  cases bC l k<;>simp[It]
def WL.mapUpdate{T K E:ln}{O:Nat->Nat}{i r:Nat}{l:List (κ×ν)}(hm:MapO kv vv O w i r l)(hT:P.underlying T=some (.map K E))(hK:KeyL P K kv)(a0:i≠0)
  (k:κ) (u:ν) {kx ux:ix} (hx:ev st x=some (.map (some r))) (hy:ev st y=some kx) (hz:ev st z=some ux) (hk:kx=kv k) (hu:ux=vv u)
  (h:∀w',MapO kv vv O w' i r (dc l k u)->Upd (λj=>j=i) O w O w'->WL P N ops Q rest st w'):WL P N ops Q (⟨none,.mapUpdate T x y z,t,p,e,none⟩::rest) st w:=by
 subst hk;subst hu;obtain⟨w',h1,h2,h3⟩:=eD hT hK hm a0 k u;exact jG (λa ha=>by simp only[execOp,ha.ev hx,ha.ev hy,ha.ev hz,Lm,h1,Li,M4]) (h w' h2 h3)
end
end
end Go.VL
namespace Go.VL
def JF[Inhabited α]{l:List α}(h:∀j,j<l.length->p (nth l j)=true):l.all p=true:=by
 rw[Qd];intro x hx;obtain⟨i,hi,rfl⟩:=PM hx;rw[<-aB hi];exact h i hi
def yx[Inhabited α]{l:List α}(hj:j<l.length)(h:p (nth l j)=false):l.all p=false:=by
 rw[List.all_eq_false];exact⟨l[j],N1 hj,by rw[<-aB hj,h];simp⟩
def aJ[Inhabited α]{l:List α}(hj:j<l.length):nth l j∈l:=by rw[aB hj];exact N1 hj
def aG[Inhabited α]{l:List α}(hj:j<l.length):l.take (j+1)=l.take j++[nth l j]:=by
 rw[NM hj,aB hj]
def cd[Inhabited α]{l:List α}{x:α}(hx:x∈l):∃j,j<l.length/\nth l j=x:=by
 obtain⟨i,hi,rfl⟩:=PM hx;exact⟨i,hi,aB hi⟩
def jZ(q:Nat->Bool)(n:Nat):Bool:=(MN n).any q
def dj{q:Nat->Bool}:jZ q n=true↔∃i,i<n/\q i=true:=by simp[jZ]
def bD{q:Nat->Bool}:jZ q n=false↔∀i,i<n->q i=false:=by simp[jZ]
def jD[Inhabited α]{l:List α}:jZ (λi=>p (nth l i)) l.length=l.any p:=by
 cases h:l.any p with
 |true=>
  obtain⟨x,hx,hp⟩:=List.any_eq_true.1 h;obtain⟨i,hi,rfl⟩:=cd hx;exact dj.2 ⟨i,hi,hp⟩
 |false=>exact bD.2 λi hi=>by have:=List.any_eq_false.1 h _ (aJ hi);simpa using this
def ey(q:Nat->Bool)(n:Nat):Int:=match (MN n).find? q with
 |some i=>i
 |none=>-1
def cU{q:Nat->Bool}(h:∀i,i<n->q i=false):ey q n = -1:=by
 have:(MN n).find? q=none:=by rw[NI];intro x hx;simp[h x (Ni.1 hx)]
 rw[ey,this]
def cX{q:Nat->Bool}{k:Nat}(hk:k<n)(hy:q k=true)(a0:∀i,i<k->q i=false):ey q n=k:=by
 have:(MN n).find? q=some k:=by
  rw[List.find?_range_eq_some];exact⟨hy,Ni.2 hk,λj hj=>by simp[a0 j hj]⟩
 rw[ey,this]
def firstN_any{q:Nat->Bool}:decide ((0:Int)<=ey q n)=jZ q n:=by
 cases h:jZ q n with
 |false=>rw[cU (bD.1 h)];rfl
 |true=>
  obtain⟨i,hi,hq⟩:=dj.1 h;have:∃j,(MN n).find? q=some j:=by
   cases hf:(MN n).find? q with
   |some j=>exact⟨j,rfl⟩
   |none=>rw[NI]at hf;exact absurd hq (hf i (Ni.2 hi))
  obtain⟨j,hj⟩:=this;rw[ey,hj];simp
def eF[Inhabited α]{l:List α}(h:l.length<=j):nth l j=default:=by simp[nth,Mr,Nu h]
def bm[Inhabited α]{l:List α}{x:α}(hi:i<l.length):nth (l.set i x) j=if j=i then x else nth l j:=by
 by_cases hj:j<l.length
 ·rw[aB (by simpa using hj),aB hj,List.getElem_set]
  by_cases h:i=j<;>simp[h,eq_comm]
 rw[am zo];have:∀l:List α,l.length<=j->nth l j=default:=λl h=>by simp[nth,Mr,Nu h]
 rw[this _ (by simp;omega),this _ zo]
def az[Inhabited α]{l r:List α}:nth (l++r) j=if j<l.length then nth l j else nth r (j-l.length):=by
 split
 ·rename_i h;rw[aB (by simp;omega),aB h,MQ h]
 rename_i h
 by_cases hj:j-l.length<r.length
 ·rw[aB (by simp;omega),aB hj,MO zo]
 have:∀(l:List α) (j:Nat),l.length<=j->nth l j=default:=λl j h=>by simp[nth,Mr,Nu h]
 rw[this _ _ (by simp;omega),this _ _ zo]
def cz{β:Type}[Inhabited α][Inhabited β]{f:α->β}{l:List α}(h:i<l.length):nth (l.map f) i=f (nth l i):=by
 rw[aB (by simpa using h),aB h];simp
open Go.ChangeShapes Go.WideShapes Go.ChangeAt Go.RowKit Go.Deep
variable{H:Type}{enc:ln×ix→H}{P:Ln}{w:ka}{base:Nat}{held:Bool}
def Fy(h:Ret P f args w λv w'=>v=.bool true/\Ext w w'):Calls P f args.toArray w λe w'=>e=.returned (.bool true)/\Below w.heap.size w w':=
 MM h λe w' q=>by
  cases e with
  |returned v=>exact⟨by rw[q.1],q.2⟩
  |panicked c=>exact q.elim
  |outgrown=>exact q.elim
end Go.VL
namespace Go.VL
open Go.ChangeShapes Go.WideShapes Go.ChangeAt Go.RowKit Go.Deep
section
variable{H:Type}{enc:ln×ix→H}{P:Ln}{w:ka}{base:Nat}{held:Bool}
def Rd(enc:ln×ix->H)(P:Ln)(w:ka)(base:Nat)(held:Bool)(t:ln)(cs:List ix):Prop:=∃fuel x,No enc P w base (λ_=>true) held fuel t cs=some x
def Rd.of{d:DataW H}{ps:List MemPlace}(h:DataW.Trod enc P w base (λ_=>true) held t v d ps):Rd enc P w base held t v.cells.toList:=by
 obtain⟨a0,hf⟩:=h;exact⟨a0,_,hf⟩
def Rd.int{t:ln}{k:Lq}{cs:List ix}(ht:P.underlying t=some (.int k))(h:Rd enc P w base held t cs):∃n,cs=[.int k n]/\(R8 k n).wf=true:=by
 obtain⟨a0,x,h⟩:=h
 cases a0 with
 |zero=>simp[No]at h
 |succ m=>
  unfold No at h;rw[ht]at h
  split at h<;>simp_all
def Rd.bool{t:ln}{cs:List ix}(ht:P.underlying t=some .bool)(h:Rd enc P w base held t cs):∃b,cs=[.bool b]:=by
 obtain⟨a0,x,h⟩:=h
 cases a0 with
 |zero=>simp[No]at h
 |succ m=>
  unfold No at h;rw[ht]at h
  split at h<;>simp_all
def Rd.struct{t:ln}{fs:Array P8}{cs:List ix}(ht:P.underlying t=some (.struct fs))(h:Rd enc P w base held t cs):
  cs.length=P.cellsOf t/\∀(i:Nat) (f:P8),fs[i]? = some f->Rd enc P w base held f.type ((cs.drop f.offset).take (P.cellsOf f.type)):=by
 obtain⟨a1,x,h⟩:=h;obtain⟨xs,m,rfl,rfl,hl,a0,hf⟩:=DataW.trod_struct ht h;refine⟨hl,λi f hi=>?_⟩;have h1:=hf i f hi;have a2:i<fs.size:=(Pa.1 hi).1;rw[M1 zo]at h1;exact⟨m,_,h1⟩
def GM(P:Ln):List P8->Nat->Bool
 |[],_=>true
 |f::r,i=>My f.offset i&&My (P.cellsOf f.type) 1&&GM P r (i+1)
def AD:∀(fs:List P8) (k i:Nat) (f:P8),GM P fs k=true->fs[i]? = some f->f.offset=k+i/\P.cellsOf f.type=1
 |[],_,_,_,_,h=>by simp at h
 |g::r,k,i,f,hb,h=>by
  simp only[GM,Mp]at hb
  cases i with
  |zero=>simp only[List.getElem?_cons_zero,N9]at h;subst h;exact⟨by simpa using Lo hb.1.1,Lo hb.1.2⟩
  |succ i=>have:=AD r (k+1) i f hb.2 (by simpa using h);exact⟨zo,this.2⟩
def Rd.flat{fs:List P8}(ht:P.underlying t=some (.struct fs.toArray))(hb:GM P fs 0=true)(hn:P.cellsOf t=fs.length)(h:Rd enc P w base held t cs):
  cs.length=fs.length/\∀(i:Nat) (f:P8),fs[i]? = some f->∃v,cs[i]? = some v/\Rd enc P w base held f.type [v]:=by
 obtain⟨hl,hf⟩:=h.struct ht;refine⟨by rw[hl,hn],λi f hi=>?_⟩;obtain⟨h1,h2⟩:=AD fs 0 i f hb hi;have hr:=hf i f (by simpa using hi);have a0:i<cs.length:=by rw[hl,hn];exact(Lz.1 hi).1
 rw[h1,h2,Mw]at hr;refine⟨cs[i],M1 a0,?_⟩
 rwa[List.drop_eq_getElem_cons a0,List.take_succ_cons,Pc]at hr
def Rd.slice{t e:ln}{sz:Nat}{cs:List ix}(ht:P.underlying t=some (.slice e))(ce:P.cellsOf e=sz)(hz:0<sz)(h:Rd enc P w base held t cs):
  ∃v xs,cs=[v]/\Sl (λc:List ix=>c) sz w v xs/\∀c∈xs,c.length=sz/\Rd enc P w base held e c:=by
 obtain⟨a5,x,h⟩:=h
 rcases open_slice ht h with⟨rfl,_⟩|⟨a,len,a6,m,n,D,Pl,rfl,hb,hl,hm,a3,rfl,hx⟩
 ·exact⟨_,[],rfl,⟨⟨none,0,rfl,Lr _,zo,λh=>absurd rfl h⟩,λi hi=>absurd hi (by simp)⟩,by simp⟩
 simp only[if_true]at a3;subst a3;obtain⟨V,hV⟩:=choose_lt (α:=List ix) (p:=λi c=>w.cells? base (a.add (i*P.cellsOf e)) (P.cellsOf e)=some c/\No enc P w base (λ_=>true) held n e c=some (D i,Pl i)) hx;rw[ce]at hV;have hc:∀i,i<len->∀j u,(V i)[j]? = some u->w.cell? (a.add (i*sz+j))=some u:=λi hi j u hu=>by
  obtain⟨_,a0,a1⟩:=PN (hV i zo).1;have hj:j<sz:=by have:=(Lz.1 hu).1;omega
  have:=a1 j hj;rw[add_add]at this;rw[this,hu]
 have a0:∀i,i<len->(V i).length=sz:=λi hi=>(PN (hV i zo).1).2.1
 have a2:((MN len).map V).length=len:=by simp
 refine⟨_,(MN len).map V,rfl,⟨⟨some a,m,by rw[a2],zo,by simpa[maxLen]using hm,λh=>?_⟩,λi hi j u hu=>?_⟩,λc a4=>?_⟩
 ·rw[a2]at h;have h0:0<(V 0).length:=by rw[a0 0 zo];exact hz
  have:=hc 0 zo 0 _ (M1 h0);obtain⟨b,o,s⟩:=a;have hs:s=none:=by simpa[M9]using Q3 this
  subst hs;exact⟨b,o,rfl⟩
 ·rw[a2]at hi;have h0:0<(V 0).length:=by rw[a0 0 zo];exact hz
  have h1:=hc 0 zo 0 _ (M1 h0);obtain⟨b,o,s⟩:=a;have hs:s=none:=by simpa[M9]using Q3 h1
  subst hs;simp only[List.getElem_map,PQ]at hu;have h2:=hc i hi j u hu;simp only[adr];have e1:((⟨b,o,none⟩:Mu).add (i*sz+j))=((⟨b,o+i*sz,none⟩:Mu).add j):=by
   simp only[M9];split<;>split<;>simp_all<;>omega
  rw[e1]at h2;exact h2
 simp only[NO,Ni]at a4;obtain⟨i,hi,rfl⟩:=a4;exact⟨a0 i hi,n,_,(hV i zo).2⟩
def yG{α β:Type}{f:α->β}{R:α->Prop}:∀(xs:List β),(∀c∈xs,∃a,c=f a/\R a)->∃ys:List α,xs=ys.map f/\∀y∈ys,R y
 |[],_=>⟨[],rfl,by simp⟩
 |c::xs,h=>by
  obtain⟨a,ha,hR⟩:=h c (by simp);obtain⟨ys,hy,hr⟩:=yG xs (λc hc=>h c (by simp[hc]));exact⟨a::ys,by simp[ha,hy],by simpa[hR]using hr⟩
def Sl.of_map{β:Type}{enc:β->List ix}{f:α->β}{ys:List α}(h:Sl enc sz w v (ys.map f)):Sl (λa=>enc (f a)) sz w v ys:=by
 refine⟨by simpa using h.shape,λi hi j u hu=>h.cells i (by simpa using hi) j u (by simpa using hu)⟩
def Rd.sliceOf{f:α->List ix}{R:α->Prop}{e:ln}(ht:P.underlying t=some (.slice e))(ce:P.cellsOf e=sz)(hz:0<sz)(a0:∀c,Rd enc P w base held e c->∃a,c=f a/\R a)(h:Rd enc P w base held t cs):
  ∃v xs,cs=[v]/\Sl f sz w v xs/\∀a∈xs,R a:=by
 obtain⟨v,xs,rfl,hs,hx⟩:=h.slice ht ce hz;obtain⟨ys,rfl,hy⟩:=yG (f:=f) (R:=R) xs λc hc=>a0 c (hx c hc).2
 exact⟨v,ys,rfl,hs.of_map,hy⟩
def Rd.ints{e:ln}(ht:P.underlying t=some (.slice e))(he:P.underlying e=some (.int k))(ce:P.cellsOf e=1)(h:Rd enc P w base held t cs):
 ∃v zs,cs=[v]/\Sl (λn=>[Pk k n]) 1 w v zs/\∀n∈zs,(R8 k n).wf=true:=h.sliceOf ht ce zd (λ_ hc=>hc.int he)
end
end Go.VL
namespace Go.VL
def evp(st:St):List (Nat×Lj)->Option (List (Nat×ix))
 |[]=>some []
 |(i,x)::r=>match ev st x,evp st r with
  |some v,some vs=>some ((i,v)::vs)
  |_,_=>none
section
variable{P:Ln}{N:Nat}{ops:Array Ly}{Q:Mq→MG→ka→Prop}{rest:List Ly}{st:St}{w:ka}
variable{t:ln}{p:String}{e:Array MV}{d:Nat}{x y z:Lj}
def Fits.evp{a:MG}(ha:Fits N a st):∀ {l:List (Nat×Lj)} {vs:List (Nat×ix)},evp st l=some vs->l.map (λq=>(q.1,a.eval q.2))=vs:=by
 intro l
 induction l with
 |nil=>intro vs h;simpa[VL.evp]using h.symm
 |cons q r ih=>
  obtain⟨i,x⟩:=q;intro vs h;simp only[VL.evp]at h
  cases h1:VL.ev st x with
  |none=>rw[h1]at h;simp at h
  |some v=>
   cases h2:VL.evp st r with
   |none=>rw[h1,h2]at h;simp at h
   |some vs'=>
    rw[h1,h2]at h;simp at h;subst h;rw[LN,ha.ev h1,ih h2]
def cC(P:Ln)(T:ln)(pl:Array (Nat×Nat)):Prop:=
 ∃fs,P.underlying T=some (.struct fs)/\∀w,(fs.mapM λf=>do pure (f.offset,<-Ms f.type):Sem (Array (Nat×Nat))).run P w=.ok pl w
def RV.build{T:ln}{pl:Array (Nat×Nat)}{parts:List (Nat×Lj)}{vs:List (Nat×ix)}{z:ix}{cells:Array ix}(hp:cC P T pl)(hz:(Na T).run P w=.ok z w)
  (hv:evp st parts=some vs) (hf:Nh (pl[·]?) z.cells vs=some cells):RV P N (.build T parts.toArray) t st w (.agg cells):=
 λa ha a1 p e g=>by
  obtain⟨fs,hu,a0⟩:=hp;have h1:=ha.evp hv;have e1:(Pe (λx:Nat×Lj=>match x with|(i,x)=>(i,a.eval x)) parts)=vs:=by rw[<-h1]
  simp only[execOp,QC,Lp,e1,Lm,hz,Li,run_underlying hu,a0,hf,M4]
def fill_flat(pl:Array (Nat×Nat)):∀(vs:List (Nat×ix)) (cells:Array ix),(vs.all λq=>q.2.oneCell')=true->
  (vs.all λq=>match pl[q.1]? with|some (off,1)=>L3 off cells.size|_=>false)=true->
  Nh (pl[·]?) cells vs=some (vs.foldl (λcs q=>cs.setIfInBounds (pl.getD q.1 (0,0)).1 q.2) cells)
 |[],cells,_,_=>rfl
 |(i,v)::r,cells,h1,h2=>by
  simp only[N7,Mp]at h1 h2;obtain⟨hv,h1⟩:=h1;obtain⟨hi,h2⟩:=h2
  cases hp:pl[i]? with
  |none=>rw[hp]at hi;simp at hi
  |some q=>
   obtain⟨off,s⟩:=q;rw[hp]at hi
   split at hi
   ·rename_i he;simp only[N9,Q9]at he;obtain⟨rfl,rfl⟩:=he;have a2:off<cells.size:=N0 hi;have hc:v.cells = #[v]:=by cases v<;>first|rfl|simp[Mz]at hv
    have hg:pl.getD i (0,0)=(off,1):=by simp[Ll,hp]
    have a0:∀(f:Array ix->ix×Nat->Array ix),(∀cs c j,f cs (c,j)=cs.setIfInBounds (off+j) c)->(#[v].zipIdx).foldl f cells=cells.setIfInBounds off v:=λf hf=>by
     rw[show(#[v].zipIdx) = #[(v,0)]from rfl];show f cells (v,0)=_;rw[hf];rfl
    have a1:¬(1≠1\/off+1>cells.size):=zo;simp only[Nh,hp,hc,Qk,hg];have e1:((#[v].size:Nat))=1:=rfl;simp only[e1];rw[am (by simp;omega)];rw[a0 _ (λ_ _ _=>rfl)];exact fill_flat pl r _ h1 (by simpa using h2)
   cases hi
def aH{T:ln}{pl:Array (Nat×Nat)}{parts:List (Nat×Lj)}{vs:List (Nat×ix)}{z:ix}{cells:Array ix}(hp:cC P T pl)(hz:(Na T).run P w=.ok z w)
  (hv:evp st parts=some vs) (h1:(vs.all λq=>q.2.oneCell')=true) (h2:(vs.all λq=>match pl[q.1]? with|some (off,1)=>L3 off z.cells.size|_=>false)=true)
  (hf:vs.foldl (λcs q=>cs.setIfInBounds (pl.getD q.1 (0,0)).1 q.2) z.cells=cells):RV P N (.build T parts.toArray) t st w (.agg cells):=
 RV.build hp hz hv (by rw[fill_flat pl vs _ h1 h2,hf])
def uU{b:Nat}{cs us:Array ix}(hb:BlkO O w i b cs E)(hs:us.size=cs.size)(hT:(Ms T).run P w=.ok us.size w)(h1:∀u∈us.toList,u.oneCell'=true):
  (NA T (nP b) (.agg us)).run P w=.ok () (w.setRow b us):=by
 have:=run_storeCells_at P b 0 E us.toList 0 cs w hb.blk (by simp[hs]) h1;simp only[Mw,Pc,NZ,PF]at this;rw[Pq (by simp[hs]),Ql]at this;simp only[NA,MA,storeVar,Lm,M4,Li,Pv,hT];simpa using this
def BlkO.setRow{O:Nat->Nat}{w:ka}{i b:Nat}{cs us:Array ix}{E:ln}(h:BlkO O w i b cs E):BlkO O (w.setRow b us) i b us E:=
 ⟨setRow_heap w b cs us E (0,0) h.blk,h.tag⟩
def Upd.setRow{S:Nat->Prop}(hz:¬S 0){O:Nat->Nat}{w:ka}{i b:Nat}{us:Array ix}(ht:O b=i)(hS:S i):Upd S O w O (w.setRow b us):=
 ⟨rfl,rfl,rfl,by simp,λk _ hn=>setRow_other w b k _ (λe=>hn (by subst e;rw[ht];exact hS)),λ_ _=>rfl,λ_ h=>.inl h,hz⟩
def bQ{b:Nat}{cs us:Array ix}(hb:BlkO O w i b cs E)(hs:us.size=cs.size)(hT:(Ms T).run P w=.ok us.size w)(h1:us.toList.all Mz=true)
   (hx:ev st x=some (.pointer (some q))) (hq:q=⟨b,0,none⟩) (hy:ev st y=some (.agg us))
  (h:WL P N ops Q rest st (w.setRow b us)):WL P N ops Q (⟨none,.store T x y,t,p,e,none⟩::rest) st w:=
 jG (λa ha=>by
  subst hq
  simp only[execOp,ha.ev hx,ha.ev hy,Lm,uU hb hs hT (Qd.1 h1),Li,M4]) h
def aI(r:Rng B O w)(i:Nat)(a0:i≠0)(hx:ev st x=some v)(hd:L3 d N=true)
  (h:∀b w' O',BlkO O' w' i b v.cells E->Upd (λj=>j=i) O w O' w'->Rng B O' w'->Ext w w'->WL P N ops Q rest ((d,nP b)::st) w'):WL P N ops Q (⟨some d,.box E x,t,p,e,none⟩::rest) st w:=by
 have u:=Upd.alloc (S:=λj=>j=i) (λh=>a0 h.symm) r (.cells v.cells E) i;exact WL.box hx hd (h _ _ _ (BlkO.new _ _ _ _ _) u (r.U u) (Ext.alloc _ _))
def au{B:Nat}{O:Nat->Nat}(r:Rng B O w)(i:Nat)(a0:i≠0){E:ln}{z:ix}(hz:(Na E).run P w=.ok z w)(hd:L3 d N=true)
  (h:∀b w' O',BlkO O' w' i b z.cells E->Upd (λj=>j=i) O w O' w'->Rng B O' w'->Ext w w'->WL P N ops Q rest ((d,nP b)::st) w'):WL P N ops Q (⟨some d,.alloc E,t,p,e,none⟩::rest) st w:=by
 have u:=Upd.alloc (S:=λj=>j=i) (λh=>a0 h.symm) r (.cells z.cells E) i;exact WL.alloc hz hd (h _ _ _ (BlkO.new _ _ _ _ _) u (r.U u) (Ext.alloc _ _))
def BlkO.V{b:Nat}{cs:Array ix}(h:BlkO O w i b cs E):∀j u,cs.toList[j]? = some u->w.cell? (nA b j)=some u:=λj u hu=>by
 rw[show(nA b j)=⟨b,j,none⟩from by simp only[M9];split<;>simp_all];exact h.cell j (by simpa using hu)
end
section
variable{P:Ln}{N:Nat}{st:St}{w:ka}{fn:QG}{R:ix→ka→Prop}
def ef(hc:∀j u,us[j]? = some u->w.cell? (q.add j)=some u)(hT:(Qg T).run P w=.ok true w)(hn:(Ms T).run P w=.ok us.length w):
  (loadVar T q).run P w=.ok (.agg us.toArray) w:=by
 have:=run_loadCellsFrom (P:=P) us 0 #[] (q:=q) (w:=w) (by simpa using hc);simp[loadVar,hT,hn,loadCells,this]
def aO{t:QU}(hr:fn.results = #[.cell t T])(hv:cQ st t=some (.pointer (some q)))
  (hc:∀j u,us[j]? = some u->w.cell? (q.add j)=some u) (hT:(Qg T).run P w=.ok true w) (hn:(Ms T).run P w=.ok us.length w) (h:R (.agg us.toArray) w):QF N (RP P fn R) .ret st w:=λa ha=>
 ⟨ha.defers,_,by have h1:=ha.get _ _ hv;simp[results,hr,Ll,h1,asAddr,ef hc hT hn],h⟩
def bz{t u:QU}(hr:fn.results = #[.cell t T,.tmp u])(hv:cQ st t=some (.pointer (some q)))(a0:cQ st u=some v')
  (hc:∀j u,us[j]? = some u->w.cell? (q.add j)=some u) (hT:(Qg T).run P w=.ok true w) (hn:(Ms T).run P w=.ok us.length w) (h:R (.tuple #[.agg us.toArray,v']) w):QF N (RP P fn R) .ret st w:=λa ha=>
 ⟨ha.defers,_,by have h1:=ha.get _ _ hv;have h2:=ha.get _ _ a0;simp[results,hr,Ll,h1,h2,asAddr,ef hc hT hn],h⟩
end
def zB{g:Nat}{cells:Array ix}(hb:w.heap[g]? = some (.cells cells E (0,0)))(hc:cells.toList=xs.flatMap enc)(hz:∀x∈xs,(enc x).length=sz)(hm:xs.length<=9223372036854775807):
  Sl enc sz w (.slice (some ⟨g,0,none⟩) xs.length xs.length) xs:=by
 refine⟨⟨_,_,rfl,Lr _,hm,λ_=>⟨g,0,rfl⟩⟩,λi hi j u hu=>?_⟩;have h:=fT xs hz i hi j u hu;have ha:((adr (.slice (some ⟨g,0,none⟩) xs.length xs.length) sz i).add j)=⟨g,i*sz+j,none⟩:=by
  simp only[adr,M9];split<;>simp_all
 rw[ha,cell_of_row w g _ cells E (0,0) hb];rw[<-hc]at h;simpa using h
section
variable{P:Ln}{N:Nat}{ops:Array Ly}{Q:Mq→MG→ka→Prop}{rest:List Ly}{st:St}{w:ka}
variable{t:ln}{p:String}{e:Array MV}{d:Nat}
def fD{parts:List (Nat×Lj)}(hu:P.underlying T=some (.slice E))(hE:(Ms E).run P w=.ok sz w)(hz:(Na E).run P w=.ok z w)
   (enc:α->List ix) (xs:List α) (hn:xs.length=n) (hv:evp st parts=some vs) (a4:Qa (n*sz) 16777216=true) (a1:My (n*sz) 0=false)
  (hf:Nh (λi=>some (i*sz,sz)) ((Array.range (n*sz)).map (z.cells[· % z.cells.size]!)) vs=some (xs.flatMap enc).toArray) (a2:∀x∈xs,(enc x).length=sz) (hd:L3 d N=true)
  (h:∀v w',Sl enc sz w' v xs->Ext w w'->WL P N ops Q rest ((d,v)::st) w'):WL P N ops Q (⟨some d,.buildSlice T n parts.toArray,t,p,e,none⟩::rest) st w:=by
 subst hn;have a3:=N0 a4;have a0:¬xs.length*sz=0:=λe=>by rw[e]at a1;simp at a1
 have a5:xs.length<=xs.length*sz:=Nat.le_mul_of_pos_right _ (Q4 λe=>a0 (by rw[e,Nat.mul_zero]));refine WL.val (v:=.slice (some ⟨w.heap.size,0,none⟩) xs.length xs.length) (w':=w.alloc (.cells (xs.flatMap enc).toArray E)) hd (λa ha=>?_) (h _ _ (zB (heap_alloc_new w _) rfl a2 zo) (Ext.alloc _ _));have h1:=ha.evp hv;have e1:(Pe (λx:Nat×Lj=>match x with|(i,x)=>(i,a.eval x)) parts)=vs:=by rw[<-h1]
 simp only[execOp,Instr.buildSlice,Lp,e1,Lm,run_underlying hu,Li,hE];rw[am zo,am a0];simp[hz,hf,newRow,newObj];rfl
end
end Go.VL
namespace Go.VL
section
variable{P:Ln}{N:Nat}{ops:Array Ly}{Q:Mq→MG→ka→Prop}{rest:List Ly}{st:St}{w:ka}
def ij(K:Mq->MG->ka->Prop):∀(l r:List Ly) (a:MG) (w:ka),(∀e a w,K e a w->e≠.normal->Q e a w)->(∀a w,K .normal a w->wpList P ops Q r a w)->wpList P ops K l a w->wpList P ops Q (l++r) a w
 |[],r,a,w,_,hn,h=>hn a w h
 |o::l,r,a,w,hx,hn,h=>by
  simp only[N2];unfold wpList at h ⊢;have ih:=λa w=>ij K l r a w hx hn
  have a1:∀c a w,K (.panic c) a w->Q (.panic c) a w:=λc a w h=>hx _ a w h (by intro h;cases h)
  split
  ·rename_i hw;rw[ap hw]at h
   rcases h with h|⟨h1,a0,w0,h2⟩
   ·left;unfold N6 at h ⊢;generalize (execOp a.eval o).run P w=q at *
    cases q with
    |ok n w'=>
     cases n<;>simp only[Nm]at h ⊢<;>first
      |exact ih _ _ h
      |exact h.elim
      |exact Q8 h (λ_ _ he=>ih _ _ he)
      |exact MM h (λe w'' he=>by
       cases e with
       |returned v=>exact ih _ _ he
       |panicked c=>exact a1 _ _ _ he
       |outgrown=>obtain⟨a0,w0,he⟩:=he;exact⟨a0,w0,hx _ a0 w0 he (by intro h;cases h)⟩)
    |halt x w'=>cases x<;>simp only[Nm]at h ⊢<;>first|exact a1 _ _ _ h|exact h.elim
   exact .inr ⟨h1,a0,w0,hx _ a0 w0 h2 (by intro h;cases h)⟩
  rename_i hw;rw[am hw]at h;exact ih _ _ h
def JY(N:Nat)(S:ka->Prop)(tB:Nat)(b:Bool)(st:St):Mq->MG->ka->Prop:=λe a w=>e=.normal/\S w/\Fits N a st/\a.tmps[tB]? = some (.bool b)
def vi(N:Nat)(ops:Array Ly)(st:St):List Ly->Bool
 |[]=>true
 |o::r=>(match o.guard with
  |some (i,c)=>(match (ops[i]?).bind (·.dst)with
   |some d=>(match cQ st d with
    |some (.bool x)=>!(x==c)
    |some (.tuple _)=>true
    |_=>false)
   |none=>false)
  |none=>false)&&(match o.dst with|some d=>(match cQ st d with|none=>true|_=>false)&&L3 d N&&vi N ops ((d,undef)::st) r|none=>false)
def tn:∀(l:List Ly) (a0 st:St) (a:MG),vi N ops st l=true->(∀t v,cQ a0 t=some v->cQ st t=some v)->Fits N a st->(∀a',Fits N a' a0->wpList P ops Q rest a' w)->wpList P ops Q (l++rest) a w
 |[],a0,st,a,_,hc,ha,h=>h a ⟨ha.size,ha.defers,λt v hv=>ha.get t v (hc t v hv)⟩
 |o::l,a0,st,a,hp,hc,ha,h=>by
  simp only[vi,Mp]at hp;obtain⟨hg,hd⟩:=hp
  cases a3:o.dst with
  |none=>rw[a3]at hd;simp at hd
  |some d=>
   rw[a3]at hd;simp only[Mp]at hd;obtain⟨⟨a5,a7⟩,a6⟩:=hd;have a1:cQ st d=none:=by cases h:cQ st d with|none=>rfl|some v=>rw[h]at a5;simp at a5
   simp only[N2];unfold wpList;rw[am ?_]
   ·rw[a3];refine tn l a0 ((d,undef)::st) _ a6 (λt v hv=>?_) (ha.put a7 undef) h;have h1:=hc t v hv;simp only[cQ]
    cases hb:My d t with
    |true=>have:=Lo hb;subst this;rw[a1]at h1;simp at h1
    |false=>exact h1
   cases a4:o.guard with
   |none=>rw[a4]at hg;simp at hg
   |some ic=>
    obtain⟨i,c⟩:=ic;rw[a4]at hg;simp only at hg;simp only[LL,a4,yielded]
    cases a2:(ops[i]?).bind (·.dst)with
    |none=>rw[a2]at hg;simp at hg
    |some d'=>
     rw[a2]at hg;simp only at hg
     cases hs:cQ st d' with
     |none=>rw[hs]at hg;simp at hg
     |some v=>
      rw[hs]at hg
      cases v<;>simp at hg
      ·rename_i x;simp[ha.get _ _ hs];exact λe=>hg (by rw[e])
      simp[ha.get _ _ hs]
def tJ{a:MG}{t:Nat}(hs:cQ st t=some (.bool b))(hb:b=b')(ha:Fits N a st):Fits N a ((t,.bool b')::st):=by
 subst hb;refine⟨ha.size,ha.defers,λu v hv=>?_⟩;simp only[cQ]at hv
 cases hb:My t u with
 |true=>rw[hb]at hv;have:=Lo hb;subst this;simp at hv;subst hv;exact ha.get _ _ hs
 |false=>rw[hb]at hv;exact ha.get _ _ hv
def aT{l G:List Ly}{tP:Nat}{c:Bool}{p:String}{e:Array MV}(S:ka->Prop)(b:Bool)(n:Nat)(hS:S w)(hG:l.take n=G)(a0:l.drop n=⟨some tP,.pick (.tmp tA) (.tmp tB) (.const (.bool false)),t,p,e,none⟩::rest)
  (hc:cQ st tA=some (.bool c)) (a1:vi N ops ((tA,.bool false)::st) G=true) (hd:L3 tP N=true)
  (h1:c=true->WL P N ops (JY N S tB b st) G ((tA,.bool true)::st) w) (h2:∀w',S w'->WL P N ops Q rest ((tP,.bool (c&&b))::st) w'):WL P N ops Q l st w:=by
 intro a ha;rw[<-MJ n l,hG,a0]
 cases c with
 |true=>
  refine ij (JY N S tB b st) G _ a w (λe a w h a3=>absurd h.1 a3) (λa' w' h=>?_) (h1 rfl a (tJ hc rfl ha));obtain⟨_,a4,hf,hb⟩:=h;unfold wpList;rw[ap (cu rfl _)];left;unfold N6;rw[jN (b:=true) (by simpa[MI,Ll]using(by rw[hf.get _ _ hc]:(a'.tmps[tA]?).getD undef=(some (.bool true)).getD undef))];simp only[cond_true];rw[show a'.eval (.tmp tB)=.bool b from by simp[MI,Ll,hb]];exact h2 w' a4 _ (hf.put hd _)
 |false=>
  refine tn G st ((tA,.bool false)::st) a a1 (λt v hv=>?_) (tJ hc rfl ha) (λa' a2=>?_)
  ·simp only[cQ]
   cases hb:My tA t with
   |true=>have:=Lo hb;subst this;rw[hc]at hv;exact hv
   |false=>exact hv
  unfold wpList;rw[ap (cu rfl _)];left;unfold N6;rw[jN (b:=false) (by simpa[MI,Ll]using(by rw[a2.get _ _ hc]:(a'.tmps[tA]?).getD undef=(some (.bool false)).getD undef))];exact h2 w hS _ (a2.put hd _)
def bR{l G:List Ly}{tP:Nat}{c:Bool}{p:String}{e:Array MV}(S:ka->Prop)(b:Bool)(n:Nat)(hS:S w)(hG:l.take n=G)(a0:l.drop n=⟨some tP,.pick (.tmp tA) (.const (.bool true)) (.tmp tB),t,p,e,none⟩::rest)
  (hc:cQ st tA=some (.bool c)) (a1:vi N ops ((tA,.bool true)::st) G=true) (hd:L3 tP N=true)
  (h1:c=false->WL P N ops (JY N S tB b st) G ((tA,.bool false)::st) w) (h2:∀w',S w'->WL P N ops Q rest ((tP,.bool (c||b))::st) w'):WL P N ops Q l st w:=by
 intro a ha;rw[<-MJ n l,hG,a0]
 cases c with
 |false=>
  refine ij (JY N S tB b st) G _ a w (λe a w h a3=>absurd h.1 a3) (λa' w' h=>?_) (h1 rfl a (tJ hc rfl ha));obtain⟨_,a4,hf,hb⟩:=h;unfold wpList;rw[ap (cu rfl _)];left;unfold N6;rw[jN (b:=false) (by simpa[MI,Ll]using(by rw[hf.get _ _ hc]:(a'.tmps[tA]?).getD undef=(some (.bool false)).getD undef))];simp only[cond_false];rw[show a'.eval (.tmp tB)=.bool b from by simp[MI,Ll,hb]];exact h2 w' a4 _ (hf.put hd _)
 |true=>
  refine tn G st ((tA,.bool true)::st) a a1 (λt v hv=>?_) (tJ hc rfl ha) (λa' a2=>?_)
  ·simp only[cQ]
   cases hb:My tA t with
   |true=>have:=Lo hb;subst this;rw[hc]at hv;exact hv
   |false=>exact hv
  unfold wpList;rw[ap (cu rfl _)];left;unfold N6;rw[jN (b:=true) (by simpa[MI,Ll]using(by rw[a2.get _ _ hc]:(a'.tmps[tA]?).getD undef=(some (.bool true)).getD undef))];exact h2 w hS _ (a2.put hd _)
def FE{S:ka->Prop}{c:Bool}{a0:St}(n:Nat)(hS:S w)(a1:st.drop n=a0)(hf:((st.take n).all λq=>My q.1 tA||(match cQ a0 q.1 with|none=>true|_=>false))=true)
  (hA:cQ st tA=some (.bool c)) (a4:∀v,cQ a0 tA=some v->v=.bool c) (hb:cQ st tB=some (.bool b)):QF N (JY N S tB b a0) .normal st w:=λa ha=>by
 refine⟨rfl,hS,⟨ha.size,ha.defers,λt v hv=>?_⟩,ha.get _ _ hb⟩;apply ha.get t v
 by_cases ht:t=tA
 ·subst ht;rw[a4 v hv];exact hA
 have a3:∀(a2:St),(a2.all λq=>My q.1 tA||(match cQ a0 q.1 with|none=>true|_=>false))=true->cQ (a2++a0) t=some v:=by
  intro a2
  induction a2 with
  |nil=>intro _;exact hv
  |cons q r ih=>
   intro hq;simp only[N7,Mp,Bool.or_eq_true]at hq;obtain⟨k,u⟩:=q;simp only[N2,cQ]
   cases hb:My k t with
   |false=>exact ih hq.2
   |true=>
    have:=Lo hb;subst this
    rcases hq.1 with h|h
    ·exact absurd (Lo h) ht
    simp only[hv]at h;cases h
 have:=a3 (st.take n) hf;rw[<-a1,MJ]at this;exact this
end
end Go.VL
namespace Go.VL
section
variable{P:Ln}{N:Nat}{ops:Array Ly}{Q:Mq→MG→ka→Prop}{rest:List Ly}{st:St}{w:ka}
variable{t xt yt:ln}{p:String}{e:Array MV}{d:Nat}{x y z:Lj}
def nW{op:R9}{a b:ix}(hg:eqGuard op xt x y a b=pure ())(hx:ev st x=some a)(hy:ev st y=some b)(hr:(binOp op xt a b).run P w=.ok v w):RV P N (.binOp op xt x y yt) t st w v:=
 λac ha a0 p e g=>by
  simp only[execOp,ha.ev hx,ha.ev hy,hg,Lm,M4,Li,hr]
def FC{a:Bool}(hu:P.underlying xt=some .bool)(hx:ev st x=some (.bool a))(hy:ev st y=some (.bool b)):RV P N (.binOp .eql xt x y yt) t st w (.bool (a==b)):=
 nW (eqGuard_at_bool ..) hx hy (run_eql_bool w xt a b hu)
def JN{a:Bool}(hu:P.underlying xt=some .bool)(hx:ev st x=some (.bool a))(hy:ev st y=some (.bool b)):RV P N (.binOp .neq xt x y yt) t st w (.bool (!(a==b))):=
 nW (eqGuard_at_bool ..) hx hy (run_neq_bool w xt a b hu)
def fY{n:Int}{a0:Array ln}(hx:ev st x=some (.int k m))(hy:ev st y=some (.int k' n)):RV P N (.call ⟨.builtin .max,#[x,y],a0⟩) t st w (.int k (max m n)):=
 λa ha a1 p e g=>by
  simp only[execOp,resolve,invoke,builtin,Lm,M4,Li,Lp,LN,Mv,ha.ev hx,ha.ev hy,run_max_int2];congr 3;rw[Int.max_def];split<;>split<;>omega
def JQ{n:Int}{a0:Array ln}(hx:ev st x=some (.int k m))(hy:ev st y=some (.int k' n)):RV P N (.call ⟨.builtin .min,#[x,y],a0⟩) t st w (.int k (min m n)):=
 λa ha a1 p e g=>by
  simp only[execOp,resolve,invoke,builtin,Lm,M4,Li,Lp,LN,Mv,ha.ev hx,ha.ev hy,run_min_int2];congr 3;rw[Int.min_def];split<;>split<;>omega
def bs(l:List UInt8):ByteArray:=⟨l.toArray⟩
def dN(l:List UInt8):(bs l).size=l.length:=by simp[bs,R4]
def mJ(l:List UInt8):(bs l).toList=l:=QZ l
def nR(l:List UInt8)(a b:Nat):(bs l).extract a b=bs ((l.take b).drop a):=by
 rw[bs,R6,List.drop_take];rfl
def Ip{b:List UInt8}(h:bs a=bs b):a=b:=by
 have:=congrArg R0 h;rwa[mJ,mJ]at this
def Fc{op:R9}{s u:ByteArray}:binOp op xt (.string s) (.string u)=Op.stringOp op s u:=by cases op<;>rfl
def dC{b:List UInt8}(hx:ev st x=some (.string (bs a)))(hy:ev st y=some (.string (bs b))):RV P N (.binOp .eql xt x y yt) t st w (.bool (a==b)):=
 nW (eqGuard_at_string ..) hx hy (by rw[Fc];show Result.ok (Value.bool ((bs a).toList==(bs b).toList)) w=_;rw[mJ,mJ])
def cK(hT:P.underlying T=some .string)(hx:ev st x=some (.string (bs a))):RV P N (.call ⟨.builtin .len,#[x],#[T]⟩) t st w (nI a.length):=
 λc hc a0 p e g=>by
  simp only[execOp,resolve,invoke,builtin,Lm,M4,Li,Lp,LN,Mv,hc.ev hx,run_len_string w T t _ hT,dN];rfl
def FB(hT:P.underlying xt=some .string)(hx:ev st x=some (.string (bs a)))(hy:ev st y=some (.int k m))(i:Nat)(hm:m=i)(hi:i<a.length):RV P N (.index xt x y) t st w (.int .u8 ((nth a i).toNat:Int)):=
 λc hc a0 p e g=>by
  subst hm;have h2:0<=(i:Int)/\(i:Int)<(bs a).size:=by rw[dN];omega
  simp only[execOp,hc.ev hx,hc.ev hy,Lm,run_index_string w xt (bs a) k i hT,dif_pos h2,Li];have:(bs a)[(i:Int).toNat]'(by rw[dN];omega)=nth a i:=by
   rw[aB hi];simp[bs,R5]
  rw[this];rfl
def dH{n:Int}(hT:P.underlying xt=some .string)(hx:ev st x=some (.string (bs a)))(hy:ev st y=some (.int k m))(hz:ev st z=some (.int k' n))(i j:Nat)(hm:m=i)(hn:n=j)(a0:i<=j)(hj:j<=a.length):
  RV P N (.slice xt x (some y) (some z) none) t st w (.string (bs ((a.take j).drop i))):=
 λc hc a1 p e g=>by
  subst hm;subst hn;simp only[execOp,Mt,MB,hc.ev hx,hc.ev hy,hc.ev hz,run_sliceAt_string w xt _ _ _ _ hT,Lm,run_slice_string w xt (bs a) k k' i j hT zo zo (by rw[dN];omega),Li,M8,nR];rfl
def lh(hT:P.underlying xt=some .string)(hx:ev st x=some (.string (bs a)))(hy:ev st y=some (.int k m))(i:Nat)(hm:m=i)(hi:i<=a.length):
  RV P N (.slice xt x (some y) none none) t st w (.string (bs (a.drop i))):=
 λc hc a0 p e g=>by
  subst hm;simp only[execOp,Mt,MB,hc.ev hx,hc.ev hy,run_sliceAt_string w xt _ _ _ _ hT,Lm,run_slice_string_l w xt (bs a) hT k i zo (by rw[dN];omega),Li,M8,nR,dN,Qb];rfl
def zE{n:Int}(hT:P.underlying xt=some .string)(hx:ev st x=some (.string (bs a)))(hz:ev st z=some (.int k n))(j:Nat)(hn:n=j)(hj:j<=a.length):
  RV P N (.slice xt x none (some z) none) t st w (.string (bs (a.take j))):=
 λc hc a0 p e g=>by
  subst hn;simp only[execOp,Mt,MB,hc.ev hx,hc.ev hz,run_sliceAt_string w xt _ _ _ _ hT,Lm,run_slice_string_h w xt (bs a) hT k j zo (by rw[dN];omega),Li,M8,nR,List.drop_zero];rfl
def lq{a:Option Mu}{l c:Nat}(hT:P.underlying xt=some (.slice T))(hx:ev st x=some (.slice a l c))(hy:ev st y=some nS):RV P N (.binOp .eql xt x y yt) t st w (.bool a.isNone):=
 nW (eqGuard_at_slice ..) hx hy (by simp[binOp,run_equal_slice_nil w xt T a l c hT])
def ib{q:Option Mu}(hT:P.underlying xt=some (.pointer (P.pointee xt)))(hx:ev st x=some (.pointer q))(hy:ev st y=some (.pointer none)):RV P N (.binOp .eql xt x y yt) t st w (.bool q.isNone):=
 nW (eqGuard_at_pointer ..) hx hy (run_eql_pointer_nil w xt q hT)
def B7{q:Option Mu}(hT:P.underlying xt=some (.pointer (P.pointee xt)))(hx:ev st x=some (.pointer q))(hy:ev st y=some (.pointer none)):RV P N (.binOp .neq xt x y yt) t st w (.bool (!q.isNone)):=
 nW (eqGuard_at_pointer ..) hx hy (run_neq_pointer_nil w xt q hT)
def eO(v:ix)(sz lo hi:Nat):ix:=
 match v with
 |.slice a _ cap=>.slice (if cap=lo then a else a.map (·.add (lo*sz))) (hi-lo) (cap-lo)
 |_=>v
def sM(h:Sl enc sz w v xs)(hT:P.underlying xt=some (.slice E))(hs:(Ms E).run P w=.ok sz w)
  (hx:ev st x=some v) (hy:ev st y=some (.int k m)) (i:Nat) (hm:m=i) (hi:i<=xs.length):RV P N (.slice xt x (some y) none none) t st w (eO v sz i xs.length):=
 λa' ha a0 p e g=>by
  subst hm;obtain⟨a,c,rfl,hc,_,_⟩:=h.shape;have hE:P.elem xt=E:=by simp[Qh,hT]
  simp only[execOp,Mt,MB,ha.ev hx,ha.ev hy,run_sliceAt_slice w xt _ _ _ _ (by rw[hE];exact hT:P.underlying xt=some (.slice (P.elem xt))),Lm,run_slice_l w xt a xs.length c (by rw[hE];exact hT) k i zo zo,hE,hs,Li,M8,sliced];rfl
def B6{n:Int}(h:Sl enc sz w v xs)(hT:P.underlying xt=some (.slice E))(hs:(Ms E).run P w=.ok sz w)
  (hx:ev st x=some v) (hz:ev st z=some (.int k n)) (j:Nat) (hn:n=j) (hj:j<=xs.length):RV P N (.slice xt x none (some z) none) t st w (eO v sz 0 j):=
 λa' ha a0 p e g=>by
  subst hn;obtain⟨a,c,rfl,hc,_,_⟩:=h.shape;have hE:P.elem xt=E:=by simp[Qh,hT]
  simp only[execOp,Mt,MB,ha.ev hx,ha.ev hz,run_sliceAt_slice w xt _ _ _ _ (by rw[hE];exact hT:P.underlying xt=some (.slice (P.elem xt))),Lm,run_slice_h w xt a xs.length c (by rw[hE];exact hT) k j zo zo,hE,hs,Li,M8,sliced];rfl
end
end Go.VL
namespace Go.VL
def Free(O:Nat->Nat)(w:ka)(v:ix):Prop:=∀a n c,v=.slice (some a) n c->n≠0->O a.block=0/\a.block<w.heap.size
def Free.U(h:Free O w v)(u:Upd S O w O' w'):Free O' w' v:=λa n c e hn=>by
 obtain⟨h1,h2⟩:=h a n c e hn;refine⟨Ls λa0=>?_,MT h2 u.size⟩
 rcases u.new _ a0 with h3|h3
 ·exact h3 h1
 omega
def jz{a:Mu}(hb:w'.heap[a.block]? = w.heap[a.block]?)(h:w.cell? a=some u):w'.cell? a=some u:=by
 simpa only[Qz,hb]using h
def Sl.U(h:Sl enc sz w v xs)(f:Free O w v)(u:Upd S O w O' w'):Sl enc sz w' v xs:=by
 refine⟨h.shape,λi hi j x hx=>?_⟩;have hc:=h.cells i hi j x hx;obtain⟨a,c,e,_,_,ha⟩:=h.shape;obtain⟨b,o,rfl⟩:=ha zo;obtain⟨h1,h2⟩:=f _ _ _ e zo;refine jz ?_ hc
 have hb:((adr v sz i).add j).block=b:=by subst e;simp only[adr,M9];split<;>rfl
 rw[hb];exact u.blk b h2 (by rw[h1];exact u.z)
def RowT.free{l:List α}(h:RowT enc E sz O' w' i v l)(hi:i≠0)(r:Rng w.heap.size O' w')(k:Rng B O w):Free O w' v:=λa n c e _=>by
 subst e;have h1:=h.1.tag a.block rfl;have h2:=r.rng a.block (by rw[h1];exact hi);exact⟨Ls λa0=>by have:=k.rng _ a0;omega,h2.2⟩
def NewV(B:Nat)(v:ix):Prop:=∀a n c,v=.slice (some a) n c->n≠0->B<=a.block
def NewV.mono{B':Nat}(h:NewV B v)(hb:B'<=B):NewV B' v:=λa n c e hn=>Ng hb (h a n c e hn)
def RowT.newV{l:List α}(h:RowT enc E sz O w i v l)(hi:i≠0)(r:Rng B O w):NewV B v:=λa n c e _=>by
 subst e;have h1:=h.1.tag a.block rfl;exact(r.rng a.block (by rw[h1];exact hi)).1
def Sl.blk_lt(h:Sl enc sz w v xs)(hf:∀x∈xs,enc x≠[]){a:Mu}{c:Nat}(e:v=.slice (some a) n c)(hn:n≠0):a.block<w.heap.size:=by
 obtain⟨a',c',e1,_,_,e2⟩:=h.shape;subst e
 cases e1
 obtain⟨b,o,e3⟩:=e2 hn
 cases e3
 have hl:0<xs.length:=Q4 hn
 cases hx:enc xs[0]with
 |nil=>exact absurd hx (hf _ (N1 hl))
 |cons u r=>
  have hc:=h.cells 0 hl 0 u (by rw[hx];rfl);have:=Nl _ _ hc;have hb:((adr (.slice (some ⟨b,o,none⟩) xs.length c) sz 0).add 0).block=b:=by simp only[adr,M9];split<;>rfl
  rwa[hb]at this
def NewV.free(h:NewV w.heap.size v)(hs:Sl enc sz w' v xs)(hf:∀x∈xs,enc x≠[])(r:Rng B O w):Free O w' v:=λa n c e hn=>
 ⟨Ls λa0=>by have h1:=(r.rng _ a0).2;have h2:=h a n c e hn;omega,hs.blk_lt hf e hn⟩
def tw(h:∀(B:Nat) (O:Nat->Nat),Rng B O w->Free O w' v):NewV w.heap.size v:=λa n c e hn=>by
 have h1:=(h 0 (λb=>if b<w.heap.size then 1 else 0) ⟨MC _,λb hb=>⟨MC _,Ls λhn=>hb (am hn)⟩⟩ a n c e hn).1;exact Nat.le_of_not_lt λa0=>by
  have h2:(1:Nat)=0:=(ap a0).symm.J h1
  cases h2
section
variable{P:Ln}{N:Nat}{ops:Array Ly}{Q:Mq→MG→ka→Prop}{rest:List Ly}{st:St}{w:ka}
variable{t xt yt:ln}{p:String}{e:Array MV}{d:Nat}{x y z:Lj}
def cY(he:Elem P T E 1 bytes){val:α->ix}(z0:α)(a2:(P.info? E).bind (·.zero)=some (val z0))(h1:∀a,(val a).oneCell'=true)(r:Rng B O w)(i:Nat)(a7:i≠0)(n:Nat){kl kc:Lq}{m1 m2:Int}
  (hx:ev st x=some (.int kl m1)) (hy:ev st y=some (.int kc m2)) (a6:m1=n) (a5:m2=n) (hb:bytes*n<=281474976710656) (b0:n<=9223372036854775807) (hd:L3 d N=true)
  (h:∀w' O' v,v=.slice (some ⟨w.heap.size,0,none⟩) n n->RowT (λx=>[val x]) E 1 O' w' i v (Pd n z0)->Upd (λk=>k=i) O w O' w'->Rng B O' w'->Ext w w'->WL P N ops Q rest ((d,v)::st) w') :
  WL P N ops Q (⟨some d,.makeSlice T x y,t,p,e,none⟩::rest) st w:=by
 obtain⟨a1,z,hi,hz,a4,a9,b1⟩:=he.parts;have a3:z=val z0:=by rw[hi]at a2;simpa[hz]using a2
 subst a3;subst a6;subst a5;have a8:(val z0).cells = #[val z0]:=by have:=h1 z0;generalize val z0=u at *;cases u<;>first|rfl|simp[Mz]at this
 have a':(a1.bytes:Int)*(n:Int)<=281474976710656:=by
  have h:((a1.bytes*n:Nat):Int)<=281474976710656:=by rw[a9];omega
  rwa[Int.natCast_mul]at h
 have a0:=run_make (P:=P) w T E a1 _ he.ht hi hz kl kc n n zo (Int.le_refl _) a' zo;simp only[M8,a4,NX,a8]at a0;have hz:¬(λk=>k=i) 0:=λh=>a7 h.symm
 have u:=Upd.alloc (S:=λk=>k=i) hz r (.cells (madeCells #[val z0] n) E) i;refine WL.val (v:=.slice (some ⟨w.heap.size,0,none⟩) n n) hd (λa ha=>by simp only[execOp,ha.ev hx,ha.ev hy,Lm,a0,Li];rfl) (h _ _ _ rfl ⟨⟨?_,λg hg=>?_⟩,λa _=>rfl⟩ u (r.U u) (Ext.alloc _ _))
 ·rw[List.length_replicate];have:=World.ownsRow_lit (base:=0) (size:=1) (e:=E) w (madeCells #[val z0] n) n (MC _) (by simpa[maxLen]using b0) (by rw[size_madeCells];omega);rw[toList_madeCells_one]at this;have e2:(Pd n z0).flatMap (λx=>[val x])=Pd n (val z0):=by
   induction n with
   |zero=>rfl
   |succ n ih=>simp only[List.replicate_succ,Nk];congr 1;simp[List.flatMap_replicate]
  rw[e2];exact this
 simp only[P4,N9]at hg;subst hg;exact fJ _ _ _
def cA{a0:Nat}(he:Elem P T E sz a0)(u:α)(hx:ev st x=some xv)(a2:xv.cells.toList=enc u)(a4:(enc u).length=sz)(hs:sz<=16777216)(hd:L3 d N=true)
  (h:∀v w',Sl enc sz w' v [u]->Ext w w'->WL P N ops Q rest ((d,v)::st) w'):WL P N ops Q (⟨some d,.buildSlice T 1 #[(0,x)],t,p,e,none⟩::rest) st w:=by
 obtain⟨a3,z,hi,hz,a1,a8,a7⟩:=he.parts;have a6:xv.cells.size=sz:=by rw[<-a4,<-a2];simp
 have a5:=he.pos;refine WL.val (v:=.slice (some ⟨w.heap.size,0,none⟩) 1 1) (w':=w.alloc (.cells xv.cells E)) hd (λa ha=>?_) (h _ _ ⟨⟨_,1,rfl,Lr _,by simp,λ_=>⟨_,_,rfl⟩⟩,λi hi j c hc=>?_⟩ (Ext.alloc _ _))
 ·have:=run_buildSlice (P:=P) w T E 1 #[(0,xv)] xv.cells a3 z he.ht hi hz (by rw[a1];omega) (by rw[a1];omega) (by
   rw[a1]
   exact oV a6 (by simp))
  simp only[execOp,Lp,LN,Mv,ha.ev hx,Lm,this,Li];rfl
 obtain rfl:i=0:=by simpa using hi
 simp only[ME]at hc;simp only[adr,NS,Py];rw[show((⟨w.heap.size,0,none⟩:Mu).add j)=⟨w.heap.size,j,none⟩from by simp only[M9];split<;>simp_all,cell_of_row _ _ j xv.cells E (0,0) (heap_alloc_new w _)];rw[<-a2]at hc;simpa using hc
def oU{α:Type}{enc:α->List ix}{sz:Nat}:∀(us:List α),(∀u∈us,(enc u).length=sz)->(us.flatMap enc).length=us.length*sz
 |[],_=>by simp
 |x::r,h=>by
  simp only[Nk,NH,M5,h x (by simp),oU r (λu hu=>h u (by simp[hu])),Nat.succ_mul];omega
def DN{us:List α}(hs:Sl enc sz w v us)(hz:∀u∈us,(enc u).length=sz)(hp:0<sz){a:Mu}{c:Nat}(hv:v=.slice (some a) n c):∀j u,(us.flatMap enc)[j]? = some u->w.cell? (a.add j)=some u:=by
 intro j u hu;have a0:=oU us hz;have hj:j<us.length*sz:=by rw[<-a0];exact(Lz.1 hu).1
 have hq:j / sz<us.length:=Nat.div_lt_of_lt_mul (by rw[Nat.mul_comm];exact hj);have hr:j % sz<sz:=Nat.mod_lt _ hp;have a1:j / sz*sz+j % sz=j:=Nat.div_add_mod' j sz;have hl:=hz _ (N1 hq);have h1:=fT us hz (j / sz) hq (j % sz) _ (M1 zo);rw[a1,hu]at h1;have h2:=hs.cells (j / sz) hq (j % sz) u (by rw[M1 zo,<-h1]);obtain⟨a',c',e1,_,_,e2⟩:=hs.shape;obtain⟨b,o,e3⟩:=e2 (Nat.ne_of_gt (Nat.lt_of_le_of_lt (MC _) hq));rw[hv]at e1 h2
 cases e1;cases e3
 simp only[adr]at h2;rw[show((⟨b,o,none⟩:Mu).add j)=((⟨b,o+j / sz*sz,none⟩:Mu).add (j % sz))from by simp only[M9];split<;>split<;>simp_all<;>omega];exact h2
def aC{a0:Nat}(he:Elem P T E sz a0){sv:ix}{l us:List α}(hr:RowT enc E sz O w i v l)(r:Rng B O w)(hs:Sl enc sz w sv us)(a7:us.length≠0)
  (hx:ev st x=some v) (hy:ev st y=some sv) (a2:∀u∈us,(enc u).length=sz) (a6:∀u∈us,∀c∈enc u,c.oneCell'=true)
  (hb:(l.length+us.length)*a0<=140737488355328) (a':l.length+us.length<=9223372036854775807) (a8:i≠0) (hd:L3 d N=true)
  (h:∀v' w' O',RowT enc E sz O' w' i v' (l++us)->Upd (λk=>k=i) O w O' w'->Rng B O' w'->WL P N ops Q rest ((d,v')::st) w') :
  WL P N ops Q (⟨some d,.call ⟨.builtin .append,#[x,y],#[T,T]⟩,t,p,e,none⟩::rest) st w:=by
 obtain⟨a,c,rfl,_,_,a9⟩:=hs.shape;obtain⟨b,o,rfl⟩:=a9 a7;have a5:=oU us a2
 obtain⟨v',w',O',a3,a4,a1⟩:=gx (P:=P) (ty:=t) he r hr.1 ⟨b,o,none⟩ us.length c (us.flatMap enc) a5 (DN hs a2 he.pos rfl) (λu hu=>by
  obtain⟨q,hq,hc⟩:=List.mem_flatMap.1 hu
  exact a6 q hq u hc) hb a' a8
 refine WL.val (v:=v') (w':=w') hd (λa ha=>?_) (h v' w' O' ⟨by simpa using a4,λq hq=>?_⟩ a1 (r.U a1))
 ·simp only[execOp,resolve,invoke,builtin,Lm,M4,Li,Lp,LN,Mv,ha.ev hx,ha.ev hy,a3]
 rcases P1.1 hq with hq|hq
 ·exact hr.2 q hq
 exact a2 q hq
end
end Go.VL
namespace Go.VL
class FA(P:Ln)(S:ln)(f:Nat)(o:outParam Nat):Prop where
 fa:∃fs fd m,P.underlying S=some (.struct fs)∧fs[f]? = some fd∧fd.offset=o∧(∀w,(Ms fd.type).run P w=.ok m w)∧m≠0
class AG(P:Ln)(T:ln)(b:outParam Bool):Prop where
 ag:∀w,(Qg T).run P w=.ok b w
structure Hold(B:Prop):Prop where
 out:B
class SC(P:Ln)(T:ln)(sz:outParam Nat):Prop where
 sc:∃E,P.underlying T=some (.slice E)∧∀w,(Ms E).run P w=.ok sz w
section
variable{P:Ln}{N:Nat}{ops:Array Ly}{S:ka→Prop}{Q:Mq→MG→ka→Prop}{K:MG→Prop}{rest:List Ly}{st:St}{w:ka}{fuel:Nat}{listed:Array Bool}
variable{t:ln}{p:String}{e:Array MV}{d:Nat}{x:Lj}{v:ix}{op:Op}
def RV.fa{T:ln}{f o:Nat}{q:Mu}[h:FA P T f o](hx:ev st x=some (.pointer (some q))):RV P N (.fieldAddr T x f) t st w (.pointer (some (q.add o))):=by
 obtain⟨fs,fd,m,h1,h2,h3,h4,h5⟩:=h.fa
 exact RV.fieldAddr o h1 h2 h3 (h4 w) h5 hx
def RV.ld[h:AG P T false](hc:w.cell? q=some u)(hx:ev st x=some (.pointer (some q))):RV P N (.load T x) t st w u:=RV.load hc (h.ag w) hx
def KV[h:SC P T sz]{enc:α→List ix}(hx:ev st x=some v)(hs:Sl enc sz w v xs):RV P N (.call ⟨.builtin .len,#[x],#[T]⟩) t st w (.int .i64 (xs.length:Int)):=by
 obtain⟨E,h1,_⟩:=h.sc
 exact RV.len hs h1 hx
def KW[h:SC P T sz]{enc:α→List ix}{i:Int}(hx:ev st x=some v)(hy:ev st y=some (.int k i))(hs:Sl enc sz w v xs)(hi:i=n)(hn:n<xs.length):RV P N (.indexAddr T x y) t st w (.pointer (some (adr v sz n))):=by
 obtain⟨E,h1,h2⟩:=h.sc
 exact RV.indexAddr hs h1 (h2 w) hx hy n hi hn
def Mb[h:AG P T false](hx:ev st x=some (.pointer (some q)))(hc:w.cell? q=some u)(hd:L3 d N=true)(h:WL P N ops Q rest ((d,u)::st) w):WL P N ops Q (⟨some d,.load T x,t,p,e,none⟩::rest) st w:=oy (RV.ld hc hx) hd h
def Me[h:AG P T false](hx:ev st x=some (.pointer (some q)))(hc:w.cell? q=some u)(hd:L3 d N=true)(h:WS P N ops w K rest ((d,u)::st)):WS P N ops w K (⟨some d,.load T x,t,p,e,none⟩::rest) st:=rf (RV.ld hc hx) hd h
def Ma[h:SC P T sz]{enc:α→List ix}(hx:ev st x=some v)(hs:Sl enc sz w v xs)(hd:L3 d N=true)(h:WL P N ops Q rest ((d,.int .i64 (xs.length:Int))::st) w):WL P N ops Q (⟨some d,.call ⟨.builtin .len,#[x],#[T]⟩,t,p,e,none⟩::rest) st w:=oy (KV hx hs) hd h
def Mc[h:SC P T sz]{enc:α→List ix}{i:Int}(hx:ev st x=some v)(hy:ev st y=some (.int k i))(hs:Sl enc sz w v xs)(hi:i=n)(hn:n<xs.length)(hd:L3 d N=true)(h:WL P N ops Q rest ((d,.pointer (some (adr v sz n)))::st) w):WL P N ops Q (⟨some d,.indexAddr T x y,t,p,e,none⟩::rest) st w:=oy (KW hx hy hs hi hn) hd h
def La{n:Int}(hx:ev st x=some (.int .i64 m))(hy:ev st y=some (.int .i64 n))(hr : -9223372036854775808≤m+n∧m+n≤9223372036854775807)(hd:L3 d N=true)(h:WL P N ops Q rest ((d,.int .i64 (m+n))::st) w):WL P N ops Q (⟨some d,.binOp .add xt x y yt,t,p,e,none⟩::rest) st w:=oy (RV.add hx hy (Fit.i64 hr)) hd h
def K9{n:Int}(hx:ev st x=some (.int .i64 m))(hy:ev st y=some (.int .i64 n))(hr : -9223372036854775808≤m-n∧m-n≤9223372036854775807)(hd:L3 d N=true)(h:WL P N ops Q rest ((d,.int .i64 (m-n))::st) w):WL P N ops Q (⟨some d,.binOp .sub xt x y yt,t,p,e,none⟩::rest) st w:=oy (RV.sub hx hy (Fit.i64 hr)) hd h
def KT{z:Lj}(hc:ev st x=some (.bool b))(hb:b=true)(hy:ev st y=some v):RV P N (.pick x y z) t st w v:=aX (hb▸hc) hy
def KU{z:Lj}(hc:ev st x=some (.bool b))(hb:b=false)(hz:ev st z=some v):RV P N (.pick x y z) t st w v:=bE (hb▸hc) hz
def IB{d:Option QU}(hs:said ops st j=some b')(hb:b'=b)(h:WL P N ops Q (⟨d,op,t,p,e,none⟩::rest) st w):WL P N ops Q (⟨d,op,t,p,e,some (j,b)⟩::rest) st w:=fe (hb▸hs) h
def Ft(hs:said ops st j=some b')(hb:b'=false)(hd:L3 d N=true)(h:WL P N ops Q rest ((d,undef)::st) w):WL P N ops Q (⟨some d,op,t,p,e,some (j,true)⟩::rest) st w:=WL.off hs (by rw[hb];rfl) hd h
def Fu(hs:said ops st j=some b')(hb:b'=true)(hd:L3 d N=true)(h:WL P N ops Q rest ((d,undef)::st) w):WL P N ops Q (⟨some d,op,t,p,e,some (j,false)⟩::rest) st w:=WL.off hs (by rw[hb];rfl) hd h
def Iw{d:Option QU}(hs:said ops st j=some b')(hb:b'=b)(h:WS P N ops w K (⟨d,op,t,p,e,none⟩::rest) st):WS P N ops w K (⟨d,op,t,p,e,some (j,b)⟩::rest) st:=LO (hb▸hs) h
def Fp(hs:said ops st j=some b')(hb:b'=false)(hd:L3 d N=true)(h:WS P N ops w K rest ((d,undef)::st)):WS P N ops w K (⟨some d,op,t,p,e,some (j,true)⟩::rest) st:=WS.off hs (by rw[hb];rfl) hd h
def Fq(hs:said ops st j=some b')(hb:b'=true)(hd:L3 d N=true)(h:WS P N ops w K rest ((d,undef)::st)):WS P N ops w K (⟨some d,op,t,p,e,some (j,false)⟩::rest) st:=WS.off hs (by rw[hb];rfl) hd h
def Iz{l:List Ly}(h:WL P N ops Q (o::l.take n) st w):WL P N ops Q (Pn (n+1) (o::l)) st w:=h
def IA{l:List Ly}(h:WL P N ops Q [] st w):WL P N ops Q (Pn 0 l) st w:=h
def G6(hx:ev st x=some v)(hd:L3 d N=true)(h:WL P N ops Q rest ((d,v)::st) w):WL P N ops Q (⟨some d,.move x,t,p,e,none⟩::rest) st w:=oy (RV.move hx) hd h
def zL(hx:ev st x=some v)(hd:L3 d N=true)(h:WL P N ops Q rest ((d,v)::st) w):WL P N ops Q (⟨some d,.assign x,t,p,e,none⟩::rest) st w:=oy (RV.assign hx) hd h
def LY{f o:Nat}[FA P T f o](hx:ev st x=some (.pointer (some q)))(hd:L3 d N=true)(h:WL P N ops Q rest ((d,.pointer (some (q.add o)))::st) w):WL P N ops Q (⟨some d,.fieldAddr T x f,t,p,e,none⟩::rest) st w:=oy (RV.fa hx) hd h
def zK(hx:ev st x=some (.pointer (some q)))(hd:L3 d N=true)(h:WL P N ops Q rest ((d,.pointer (some q))::st) w):WL P N ops Q (⟨some d,.nilCheck x,t,p,e,none⟩::rest) st w:=oy (ak hx) hd h
def uB{vs:Array ix}(hx:ev st x=some (.tuple vs))(hv:vs[i]? = some v)(hd:L3 d N=true)(h:WL P N ops Q rest ((d,v)::st) w):WL P N ops Q (⟨some d,.extract x i,t,p,e,none⟩::rest) st w:=oy (RV.extract hx hv) hd h
def J1(hx:ev st x=some (.bool b))(hd:L3 d N=true)(h:WL P N ops Q rest ((d,.bool (!b))::st) w):WL P N ops Q (⟨some d,.unOp .not xt x,t,p,e,none⟩::rest) st w:=oy (RV.not hx) hd h
def JZ{z:Lj}(hc:ev st x=some (.bool b))(hb:b=true)(hy:ev st y=some v)(hd:L3 d N=true)(h:WL P N ops Q rest ((d,v)::st) w):WL P N ops Q (⟨some d,.pick x y z,t,p,e,none⟩::rest) st w:=oy (KT hc hb hy) hd h
def J0{z:Lj}(hc:ev st x=some (.bool b))(hb:b=false)(hz:ev st z=some v)(hd:L3 d N=true)(h:WL P N ops Q rest ((d,v)::st) w):WL P N ops Q (⟨some d,.pick x y z,t,p,e,none⟩::rest) st w:=oy (KU hc hb hz) hd h
def J3{n:Int}(hx:ev st x=some (.int k m))(hy:ev st y=some (.int k n))(hd:L3 d N=true)(h:WL P N ops Q rest ((d,.bool (decide (m<n)))::st) w):WL P N ops Q (⟨some d,.binOp .lss xt x y yt,t,p,e,none⟩::rest) st w:=oy (RV.lss hx hy) hd h
def J4{n:Int}(hx:ev st x=some (.int k m))(hy:ev st y=some (.int k n))(hd:L3 d N=true)(h:WL P N ops Q rest ((d,.bool (decide (m≤n)))::st) w):WL P N ops Q (⟨some d,.binOp .leq xt x y yt,t,p,e,none⟩::rest) st w:=oy (RV.leq hx hy) hd h
def J5{n:Int}(hx:ev st x=some (.int k m))(hy:ev st y=some (.int k n))(hd:L3 d N=true)(h:WL P N ops Q rest ((d,.bool (decide (n<m)))::st) w):WL P N ops Q (⟨some d,.binOp .gtr xt x y yt,t,p,e,none⟩::rest) st w:=oy (RV.gtr hx hy) hd h
def J6{n:Int}(hx:ev st x=some (.int k m))(hy:ev st y=some (.int k n))(hd:L3 d N=true)(h:WL P N ops Q rest ((d,.bool (decide (n≤m)))::st) w):WL P N ops Q (⟨some d,.binOp .geq xt x y yt,t,p,e,none⟩::rest) st w:=oy (RV.geq hx hy) hd h
def J7{n:Int}(hx:ev st x=some (.int k m))(hy:ev st y=some (.int k n))(hd:L3 d N=true)(h:WL P N ops Q rest ((d,.bool (m==n))::st) w):WL P N ops Q (⟨some d,.binOp .eql xt x y yt,t,p,e,none⟩::rest) st w:=oy (RV.eql hx hy) hd h
def J2{n:Int}(hx:ev st x=some (.int k m))(hy:ev st y=some (.int k n))(hd:L3 d N=true)(h:WL P N ops Q rest ((d,.bool (m != n))::st) w):WL P N ops Q (⟨some d,.binOp .neq xt x y yt,t,p,e,none⟩::rest) st w:=oy (RV.neq hx hy) hd h
def G7(hx:ev st x=some v)(hd:L3 d N=true)(h:WS P N ops w K rest ((d,v)::st)):WS P N ops w K (⟨some d,.move x,t,p,e,none⟩::rest) st:=rf (RV.move hx) hd h
def zN(hx:ev st x=some v)(hd:L3 d N=true)(h:WS P N ops w K rest ((d,v)::st)):WS P N ops w K (⟨some d,.assign x,t,p,e,none⟩::rest) st:=rf (RV.assign hx) hd h
def LZ{f o:Nat}[FA P T f o](hx:ev st x=some (.pointer (some q)))(hd:L3 d N=true)(h:WS P N ops w K rest ((d,.pointer (some (q.add o)))::st)):WS P N ops w K (⟨some d,.fieldAddr T x f,t,p,e,none⟩::rest) st:=rf (RV.fa hx) hd h
def zM(hx:ev st x=some (.pointer (some q)))(hd:L3 d N=true)(h:WS P N ops w K rest ((d,.pointer (some q))::st)):WS P N ops w K (⟨some d,.nilCheck x,t,p,e,none⟩::rest) st:=rf (ak hx) hd h
def uC{vs:Array ix}(hx:ev st x=some (.tuple vs))(hv:vs[i]? = some v)(hd:L3 d N=true)(h:WS P N ops w K rest ((d,v)::st)):WS P N ops w K (⟨some d,.extract x i,t,p,e,none⟩::rest) st:=rf (RV.extract hx hv) hd h
def Iu{l:List Ly}(h:WS P N ops w K (o::l.take n) st):WS P N ops w K (Pn (n+1) (o::l)) st:=h
def Iv{l:List Ly}(h:WS P N ops w K [] st):WS P N ops w K (Pn 0 l) st:=h
def Ka{n:Int}(hx:ev st x=some (.int k m))(hy:ev st y=some (.int k n))(hd:L3 d N=true)(h:WS P N ops w K rest ((d,.bool (decide (m<n)))::st)):WS P N ops w K (⟨some d,.binOp .lss xt x y yt,t,p,e,none⟩::rest) st:=rf (RV.lss hx hy) hd h
def Kb{n:Int}(hx:ev st x=some (.int k m))(hy:ev st y=some (.int k n))(hd:L3 d N=true)(h:WS P N ops w K rest ((d,.bool (decide (m≤n)))::st)):WS P N ops w K (⟨some d,.binOp .leq xt x y yt,t,p,e,none⟩::rest) st:=rf (RV.leq hx hy) hd h
def Kc{n:Int}(hx:ev st x=some (.int k m))(hy:ev st y=some (.int k n))(hd:L3 d N=true)(h:WS P N ops w K rest ((d,.bool (decide (n<m)))::st)):WS P N ops w K (⟨some d,.binOp .gtr xt x y yt,t,p,e,none⟩::rest) st:=rf (RV.gtr hx hy) hd h
def Kd{n:Int}(hx:ev st x=some (.int k m))(hy:ev st y=some (.int k n))(hd:L3 d N=true)(h:WS P N ops w K rest ((d,.bool (decide (n≤m)))::st)):WS P N ops w K (⟨some d,.binOp .geq xt x y yt,t,p,e,none⟩::rest) st:=rf (RV.geq hx hy) hd h
def Ke{n:Int}(hx:ev st x=some (.int k m))(hy:ev st y=some (.int k n))(hd:L3 d N=true)(h:WS P N ops w K rest ((d,.bool (m==n))::st)):WS P N ops w K (⟨some d,.binOp .eql xt x y yt,t,p,e,none⟩::rest) st:=rf (RV.eql hx hy) hd h
def J9{n:Int}(hx:ev st x=some (.int k m))(hy:ev st y=some (.int k n))(hd:L3 d N=true)(h:WS P N ops w K rest ((d,.bool (m != n))::st)):WS P N ops w K (⟨some d,.binOp .neq xt x y yt,t,p,e,none⟩::rest) st:=rf (RV.neq hx hy) hd h
def Ld{n:Int}(hx:ev st x=some (.int .i64 m))(hy:ev st y=some (.int .i64 n))(hr : -9223372036854775808≤m+n∧m+n≤9223372036854775807)(hd:L3 d N=true)(h:WS P N ops w K rest ((d,.int .i64 (m+n))::st)):WS P N ops w K (⟨some d,.binOp .add xt x y yt,t,p,e,none⟩::rest) st:=rf (RV.add hx hy (Fit.i64 hr)) hd h
def Lb{n:Int}(hx:ev st x=some (.int .i64 m))(hy:ev st y=some (.int .i64 n))(hr : -9223372036854775808≤m-n∧m-n≤9223372036854775807)(hd:L3 d N=true)(h:WS P N ops w K rest ((d,.int .i64 (m-n))::st)):WS P N ops w K (⟨some d,.binOp .sub xt x y yt,t,p,e,none⟩::rest) st:=rf (RV.sub hx hy (Fit.i64 hr)) hd h
def J8(hx:ev st x=some (.bool b))(hd:L3 d N=true)(h:WS P N ops w K rest ((d,.bool (!b))::st)):WS P N ops w K (⟨some d,.unOp .not xt x,t,p,e,none⟩::rest) st:=rf (RV.not hx) hd h
def Lc[h:AG P T false](hx:ev st x=some (.pointer (some q)))(hc:w0.cell? q=some u)(hd:L3 d N=true)(h:WS P N ops w0.drew K rest ((d,u)::st)):WS P N ops w0.drew K (⟨some d,.load T x,t,p,e,none⟩::rest) st:=rf (RV.ld (w:=w0.drew) hc hx) hd h
def Md[h:SC P T sz]{enc:α→List ix}(hx:ev st x=some v)(hs:Sl enc sz w0 v xs)(hd:L3 d N=true)(h:WS P N ops w0.drew K rest ((d,.int .i64 (xs.length:Int))::st)):WS P N ops w0.drew K (⟨some d,.call ⟨.builtin .len,#[x],#[T]⟩,t,p,e,none⟩::rest) st:=rf (KV hx (hs.ext (Ext.refl w0).drew)) hd h
def Mf[h:SC P T sz]{enc:α→List ix}{i:Int}(hx:ev st x=some v)(hy:ev st y=some (.int k i))(hs:Sl enc sz w0 v xs)(hi:i=n)(hn:n<xs.length)(hd:L3 d N=true)(h:WS P N ops w0.drew K rest ((d,.pointer (some (adr v sz n)))::st)):WS P N ops w0.drew K (⟨some d,.indexAddr T x y,t,p,e,none⟩::rest) st:=rf (KW hx hy (hs.ext (Ext.refl w0).drew) hi hn) hd h
def zv(hv:RV P N op t st w v)(h:WL P N ops Q rest ((d,v)::st) w)(hd:L3 d N=true:=by exact rfl):WL P N ops Q (⟨some d,op,t,p,e,none⟩::rest) st w:=oy hv hd h
def zw(hv:RV P N op t st w v)(h:WS P N ops w K rest ((d,v)::st))(hd:L3 d N=true:=by exact rfl):WS P N ops w K (⟨some d,op,t,p,e,none⟩::rest) st:=rf hv hd h
def zc{args:List Lj}{ats:Array ln}{vs:List ix}{R:ix→ka→Prop}
 (hf:∀(args:Array ix) (w:ka),(callFunc f args).run P w=.ok (.enter f args) w) (hc:Ret P f vs w R)
 (h:∀v w',R v w'→WL P N ops Q rest ((d,v)::st) w') (hargs:evs st args=some vs:=by exact rfl) (hd:L3 d N=true:=by exact rfl):WL P N ops Q (⟨some d,.call ⟨.value (.func f),args.toArray,ats⟩,t,p,e,none⟩::rest) st w:=WL.call hf hargs hc hd h
def zt(i:Nat)(hi:ops[i]? = some ⟨some d,op,t,p,e,none⟩)(hS:S w)(hv:∀w',S w'→RV P N op t st w' v)(h:WH P N ops S Q fuel (listed.setIfInBounds i true) ((d,v)::st) w)
  (hs:LD ops=true:=by kernel_rfl) (hf:M6 .any ops listed i=true:=by kernel_rfl) (hr:(Lu .any ops listed).contains i=true:=by kernel_rfl) (hd:L3 d N=true:=by exact rfl):WH P N ops S Q (fuel+1) listed st w:=
 WH.take i hi hs hf hr hS hv hd h
def zr(i:Nat)(hi:ops[i]? = some ⟨some d,op,t,p,e,none⟩)(hS:S w)(hv:∀w',RV P N op t st w' v)(h:WH P N ops S Q fuel (listed.setIfInBounds i true) ((d,v)::st) w)
  (hs:LD ops=true:=by kernel_rfl) (hf:M6 .any ops listed i=true:=by kernel_rfl) (hr:(Lu .any ops listed).contains i=true:=by kernel_rfl) (hd:L3 d N=true:=by exact rfl):WH P N ops S Q (fuel+1) listed st w:=
 WH.take i hi hs hf hr hS (λw' _=>hv w') hd h
theorem zC{c:Lj}{x y:N8}{b:Bool}(ht:b=true→WC P N x Q st w)(hf:b=false→WC P N y Q st w)(hc:ev st c=some (.bool b):=by exact rfl):WC P N (.cond c x y) Q st w:=WC.cond hc ht hf
def zsa{O:Nat→Nat}{b:Nat}{cs us:Array ix}(hb:BlkO O w i b cs E)(hT:(Ms T).run P w=.ok us.size w)(h:WL P N ops Q rest st (w.setRow b us))(hs:us.size=cs.size:=by exact rfl)(h1:us.toList.all Mz=true:=by exact rfl)(hx:ev st x=some (.pointer (some q)):=by exact rfl)(hq:q=⟨b,0,none⟩:=by exact rfl)(hy:ev st y=some (.agg us):=by exact rfl):WL P N ops Q (⟨none,.store T x y,t,p,e,none⟩::rest) st w:=bQ hb hs hT h1 hx hq hy h
def zsb{O:Nat→Nat}{b:Nat}{cs us:Array ix}(hb:BlkO O w i b cs E)(hT:(Ms T).run P w=.ok us.size w)(h1:us.toList.all Mz=true)(h:WL P N ops Q rest st (w.setRow b us))(hs:us.size=cs.size:=by exact rfl)(hx:ev st x=some (.pointer (some q)):=by exact rfl)(hq:q=⟨b,0,none⟩:=by exact rfl)(hy:ev st y=some (.agg us):=by exact rfl):WL P N ops Q (⟨none,.store T x y,t,p,e,none⟩::rest) st w:=bQ hb hs hT h1 hx hq hy h
theorem fI{f o m:Nat}{fs:Array P8}{fd:P8}(h1:P.underlying T=some (.struct fs))(h2:fs[f]? = some fd)(h3:fd.offset=o)(h4:∀w,(Ms fd.type).run P w=.ok m w)(h5:m≠0:=by decide):FA P T f o:=⟨fs,fd,m,h1,h2,h3,h4,h5⟩
def zaf(hS:S w)(h:S w→WH P N ops S Q fuel (listed.setIfInBounds i true) st w):QF N (uq P ops S Q fuel (listed.setIfInBounds i true)) .normal st w:=ae hS (h hS)
def zrm{x:Lj}(i:Nat)(hi:ops[i]? = some ⟨some d,.move x,t,p,e,none⟩)(hS:S w)(hx:ev st x=some v)(h:WH P N ops S Q fuel (listed.setIfInBounds i true) ((d,v)::st) w)
  (hs:LD ops=true:=by kernel_rfl) (hf:M6 .any ops listed i=true:=by kernel_rfl) (hr:(Lu .any ops listed).contains i=true:=by kernel_rfl) (hd:L3 d N=true:=by exact rfl):WH P N ops S Q (fuel+1) listed st w:=
 WH.take i hi hs hf hr hS (λ_ _=>RV.move hx) hd h
def zra{x:Lj}(i:Nat)(hi:ops[i]? = some ⟨some d,.assign x,t,p,e,none⟩)(hS:S w)(hx:ev st x=some v)(h:WH P N ops S Q fuel (listed.setIfInBounds i true) ((d,v)::st) w)
  (hs:LD ops=true:=by kernel_rfl) (hf:M6 .any ops listed i=true:=by kernel_rfl) (hr:(Lu .any ops listed).contains i=true:=by kernel_rfl) (hd:L3 d N=true:=by exact rfl):WH P N ops S Q (fuel+1) listed st w:=
 WH.take i hi hs hf hr hS (λ_ _=>RV.assign hx) hd h
def zrf{f o:Nat}[h':FA P T f o]{x:Lj}(i:Nat)(hi:ops[i]? = some ⟨some d,.fieldAddr T x f,t,p,e,none⟩)(hS:S w)(hx:ev st x=some (.pointer (some q)))(h:WH P N ops S Q fuel (listed.setIfInBounds i true) ((d,.pointer (some (q.add o)))::st) w)
  (hs:LD ops=true:=by kernel_rfl) (hf:M6 .any ops listed i=true:=by kernel_rfl) (hr:(Lu .any ops listed).contains i=true:=by kernel_rfl) (hd:L3 d N=true:=by exact rfl):WH P N ops S Q (fuel+1) listed st w:=
 WH.take i hi hs hf hr hS (λ_ _=>RV.fa hx) hd h
def zto(i:Nat)(hi:ops[i]? = some ⟨some d,op,t,p,e,some (j,b)⟩)(hS:S w)(hv:∀w',S w'→RV P N op t st w' v)(h:WH P N ops S Q fuel (listed.setIfInBounds i true) ((d,v)::st) w)(hg:said ops st j=some b:=by exact rfl)
  (hs:LD ops=true:=by kernel_rfl) (hf:M6 .any ops listed i=true:=by kernel_rfl) (hr:(Lu .any ops listed).contains i=true:=by kernel_rfl) (hd:L3 d N=true:=by exact rfl):WH P N ops S Q (fuel+1) listed st w:=
 fX i hi hg hs hf hr hS hv hd h
def zro(i:Nat)(hi:ops[i]? = some ⟨some d,op,t,p,e,some (j,b)⟩)(hS:S w)(hv:∀w',RV P N op t st w' v)(h:WH P N ops S Q fuel (listed.setIfInBounds i true) ((d,v)::st) w)(hg:said ops st j=some b:=by exact rfl)
  (hs:LD ops=true:=by kernel_rfl) (hf:M6 .any ops listed i=true:=by kernel_rfl) (hr:(Lu .any ops listed).contains i=true:=by kernel_rfl) (hd:L3 d N=true:=by exact rfl):WH P N ops S Q (fuel+1) listed st w:=
 fX i hi hg hs hf hr hS (λw' _=>hv w') hd h
def zte(i:Nat)(hi:ops[i]? = some ⟨some d,op,t,p,e,some (j,b)⟩)(hg:said ops st j=some b')(hS:S w)(h:WH P N ops S Q fuel (listed.setIfInBounds i true) ((d,undef)::st) w)(hne:(b'==b)=false:=by exact rfl)
  (hs:LD ops=true:=by kernel_rfl) (hf:M6 .any ops listed i=true:=by kernel_rfl) (hr:(Lu .any ops listed).contains i=true:=by kernel_rfl) (hd:L3 d N=true:=by exact rfl):WH P N ops S Q (fuel+1) listed st w:=
 B4 i hi hg hne hs hf hr hS hd h
def ztu(i:Nat)(hi:ops[i]? = some ⟨some d,op,t,p,e,some (j,b)⟩)(hS:S w)(h:WH P N ops S Q fuel (listed.setIfInBounds i true) ((d,undef)::st) w)(hg:kM ops st j=true:=by exact rfl)
  (hs:LD ops=true:=by kernel_rfl) (hf:M6 .any ops listed i=true:=by kernel_rfl) (hr:(Lu .any ops listed).contains i=true:=by kernel_rfl) (hd:L3 d N=true:=by exact rfl):WH P N ops S Q (fuel+1) listed st w:=
 zA i hi hg hs hf hr hS hd h
def nE{c X:Bool}{st0:St}(tA n:Nat)(hS:S w)(e:X=c)(hX:cQ st0 tA=some (.bool X):=by exact rfl)(hdrop:st.drop n=st0:=by exact rfl)(hf:((st.take n).all λq=>My q.1 tA||(match cQ st0 q.1 with|none=>true|_=>false))=true:=by exact rfl)
 (hA:cQ st tA=some (.bool c):=by exact rfl) (hb:cQ st tB=some (.bool b):=by exact rfl):QF N (JY N S tB b st0) .normal st w:=FE n hS hdrop hf hA (λv hv=>by rw[hX]at hv;cases hv;rw[e]) hb
def zin(hS:S w)(h:S w→WH P N ops S Q fuel listed st w):WH P N ops S Q fuel listed st w:=h hS
def zlp{c:N8}(f:α→St)(g:α→ka)(I:α→Prop)(μ:α→Nat)(x0:α)(h0:I x0)
 (round:∀x,I x→WC P N c (Exit.then (λa' w'=>∃y,I y∧μ y<μ x∧Fits N a' (f y)∧g y=w') Q) (f x) (g x)) (hc:Cov st (f x0):=by repeat' first|exact trivial|exact rfl|constructor) (hw:g x0=w:=by exact rfl):WC P N (.loop c) Q st w:=WC.loop f g I μ x0 h0 hc hw round
def zx{f:α→St}{g:α→ka}{I:α→Prop}{m:Nat}{μ:α→Nat}(y:α)(h1:I y)(h2:μ y<m)(h3:Cov st (f y):=by repeat' first|exact trivial|exact rfl|constructor)(h4:g y=w:=by exact rfl):
 QF N (Exit.then (λa' w'=>∃y,I y∧μ y<m∧Fits N a' (f y)∧g y=w') Q) .normal st w:=QF.next y h1 h2 h3 h4
def zxd{f:α→St}{g:α→ka}{I:α→Prop}{m:Nat}{μ:α→Nat}(y:α)(h1:I y)(h2:μ y<m:=by first|omega|(dsimp only;omega))(h3:Cov st (f y):=by repeat' first|exact trivial|exact rfl|constructor)(h4:g y=w:=by exact rfl):
 QF N (Exit.then (λa' w'=>∃y,I y∧μ y<m∧Fits N a' (f y)∧g y=w') Q) .normal st w:=QF.next y h1 h2 h3 h4
end
def zg{B:Prop}(k:B)(a:Hold B→A:=by
 intro k
 repeat first
  |((with_reducible refine' G6 ?_ ?_ ?_);rotate_left 1;exact rfl;exact rfl)
  |((with_reducible refine' zL ?_ ?_ ?_);rotate_left 1;exact rfl;exact rfl)
  |((with_reducible refine' LY ?_ ?_ ?_);rotate_left 1;exact rfl;exact rfl)
  |with_reducible refine WL.nil ?_
  |with_reducible refine Iz ?_
  |with_reducible refine IA ?_
  |with_reducible refine aF ?_
  |with_reducible refine WC.seq ?_
  |with_reducible refine WC.region ?_
  |with_reducible refine WC.skip ?_
  |with_reducible refine WC.block ?_
  |with_reducible refine WC.exit ?_
  |with_reducible refine WC.ret ?_
  |with_reducible refine bW ?_
  |with_reducible refine sN ?_
  |with_reducible refine eM ?_
  |with_reducible refine dO ?_
  |with_reducible refine qB ?_
  |((with_reducible refine oD ?_ ?_);exact rfl)
  |((with_reducible refine' zK ?_ ?_ ?_);rotate_left 1;exact rfl;exact rfl)
  |((with_reducible refine' uB ?_ ?_ ?_ ?_);rotate_left 2;exact rfl;exact rfl;exact rfl)
  |((with_reducible refine' J3 ?_ ?_ ?_ ?_);rotate_left 3;exact rfl;exact rfl;exact rfl)
  |((with_reducible refine' J4 ?_ ?_ ?_ ?_);rotate_left 3;exact rfl;exact rfl;exact rfl)
  |((with_reducible refine' J5 ?_ ?_ ?_ ?_);rotate_left 3;exact rfl;exact rfl;exact rfl)
  |((with_reducible refine' J6 ?_ ?_ ?_ ?_);rotate_left 3;exact rfl;exact rfl;exact rfl)
  |((with_reducible refine' J7 ?_ ?_ ?_ ?_);rotate_left 3;exact rfl;exact rfl;exact rfl)
  |((with_reducible refine' J2 ?_ ?_ ?_ ?_);rotate_left 3;exact rfl;exact rfl;exact rfl)
  |((with_reducible refine' J1 ?_ ?_ ?_);rotate_left 1;exact rfl;exact rfl)
  |((with_reducible refine' JZ ?_ ?_ ?_ ?_ ?_);rotate_left 2;exact rfl;(with_reducible exact rfl);exact rfl;exact rfl)
  |((with_reducible refine' J0 ?_ ?_ ?_ ?_ ?_);rotate_left 2;exact rfl;(with_reducible exact rfl);exact rfl;exact rfl)
  |((with_reducible refine' Ft ?_ ?_ ?_ ?_);rotate_left 1;exact rfl;(with_reducible exact rfl);exact rfl)
  |((with_reducible refine' Fu ?_ ?_ ?_ ?_);rotate_left 1;exact rfl;(with_reducible exact rfl);exact rfl)
  |((with_reducible refine Fs ?_ ?_ ?_);exact rfl;exact rfl)
  |((with_reducible refine' IB ?_ ?_ ?_);rotate_left 1;exact rfl;(with_reducible exact rfl))
  |((with_reducible refine' G7 ?_ ?_ ?_);rotate_left 1;exact rfl;exact rfl)
  |((with_reducible refine' zN ?_ ?_ ?_);rotate_left 1;exact rfl;exact rfl)
  |((with_reducible refine' LZ ?_ ?_ ?_);rotate_left 1;exact rfl;exact rfl)
  |((with_reducible refine' zM ?_ ?_ ?_);rotate_left 1;exact rfl;exact rfl)
  |((with_reducible refine' uC ?_ ?_ ?_ ?_);rotate_left 2;exact rfl;exact rfl;exact rfl)
  |((with_reducible refine' Fp ?_ ?_ ?_ ?_);rotate_left 1;exact rfl;(with_reducible exact rfl);exact rfl)
  |((with_reducible refine' Fq ?_ ?_ ?_ ?_);rotate_left 1;exact rfl;(with_reducible exact rfl);exact rfl)
  |((with_reducible refine Fo ?_ ?_ ?_);exact rfl;exact rfl)
  |with_reducible refine Iu ?_
  |with_reducible refine Iv ?_
  |((with_reducible refine' J8 ?_ ?_ ?_);rotate_left 1;exact rfl;exact rfl)
  |((with_reducible refine' Ka ?_ ?_ ?_ ?_);rotate_left 3;exact rfl;exact rfl;exact rfl)
  |((with_reducible refine' Kb ?_ ?_ ?_ ?_);rotate_left 3;exact rfl;exact rfl;exact rfl)
  |((with_reducible refine' Kc ?_ ?_ ?_ ?_);rotate_left 3;exact rfl;exact rfl;exact rfl)
  |((with_reducible refine' Kd ?_ ?_ ?_ ?_);rotate_left 3;exact rfl;exact rfl;exact rfl)
  |((with_reducible refine' Ke ?_ ?_ ?_ ?_);rotate_left 3;exact rfl;exact rfl;exact rfl)
  |((with_reducible refine' J9 ?_ ?_ ?_ ?_);rotate_left 3;exact rfl;exact rfl;exact rfl)
  |((with_reducible refine' Iw ?_ ?_ ?_);rotate_left 1;exact rfl;(with_reducible exact rfl))
 exact k.out):A:=a ⟨k⟩
theorem zh{B:Prop}(k:B)(a:Hold B→A:=by
 intro k
 repeat first
  |((with_reducible refine' G6 ?_ ?_ ?_);rotate_left 1;exact rfl;exact rfl)
  |((with_reducible refine' zL ?_ ?_ ?_);rotate_left 1;exact rfl;exact rfl)
  |((with_reducible refine' LY ?_ ?_ ?_);rotate_left 1;exact rfl;exact rfl)
  |with_reducible refine WL.nil ?_
  |with_reducible refine Iz ?_
  |with_reducible refine IA ?_
  |with_reducible refine aF ?_
  |with_reducible refine WC.seq ?_
  |with_reducible refine WC.region ?_
  |with_reducible refine WC.skip ?_
  |with_reducible refine WC.block ?_
  |with_reducible refine WC.exit ?_
  |with_reducible refine WC.ret ?_
  |with_reducible refine bW ?_
  |with_reducible refine sN ?_
  |with_reducible refine eM ?_
  |with_reducible refine dO ?_
  |with_reducible refine qB ?_
  |((with_reducible refine oD ?_ ?_);exact rfl)
  |((with_reducible refine' zK ?_ ?_ ?_);rotate_left 1;exact rfl;exact rfl)
  |((with_reducible refine' uB ?_ ?_ ?_ ?_);rotate_left 2;exact rfl;exact rfl;exact rfl)
  |((with_reducible refine' J3 ?_ ?_ ?_ ?_);rotate_left 3;exact rfl;exact rfl;exact rfl)
  |((with_reducible refine' J4 ?_ ?_ ?_ ?_);rotate_left 3;exact rfl;exact rfl;exact rfl)
  |((with_reducible refine' J5 ?_ ?_ ?_ ?_);rotate_left 3;exact rfl;exact rfl;exact rfl)
  |((with_reducible refine' J6 ?_ ?_ ?_ ?_);rotate_left 3;exact rfl;exact rfl;exact rfl)
  |((with_reducible refine' J7 ?_ ?_ ?_ ?_);rotate_left 3;exact rfl;exact rfl;exact rfl)
  |((with_reducible refine' J2 ?_ ?_ ?_ ?_);rotate_left 3;exact rfl;exact rfl;exact rfl)
  |((with_reducible refine' J1 ?_ ?_ ?_);rotate_left 1;exact rfl;exact rfl)
  |((with_reducible refine' JZ ?_ ?_ ?_ ?_ ?_);rotate_left 2;exact rfl;(with_reducible exact rfl);exact rfl;exact rfl)
  |((with_reducible refine' J0 ?_ ?_ ?_ ?_ ?_);rotate_left 2;exact rfl;(with_reducible exact rfl);exact rfl;exact rfl)
  |((with_reducible refine' Ft ?_ ?_ ?_ ?_);rotate_left 1;exact rfl;(with_reducible exact rfl);exact rfl)
  |((with_reducible refine' Fu ?_ ?_ ?_ ?_);rotate_left 1;exact rfl;(with_reducible exact rfl);exact rfl)
  |((with_reducible refine Fs ?_ ?_ ?_);exact rfl;exact rfl)
  |((with_reducible refine' IB ?_ ?_ ?_);rotate_left 1;exact rfl;(with_reducible exact rfl))
  |((with_reducible refine' G7 ?_ ?_ ?_);rotate_left 1;exact rfl;exact rfl)
  |((with_reducible refine' zN ?_ ?_ ?_);rotate_left 1;exact rfl;exact rfl)
  |((with_reducible refine' LZ ?_ ?_ ?_);rotate_left 1;exact rfl;exact rfl)
  |((with_reducible refine' zM ?_ ?_ ?_);rotate_left 1;exact rfl;exact rfl)
  |((with_reducible refine' uC ?_ ?_ ?_ ?_);rotate_left 2;exact rfl;exact rfl;exact rfl)
  |((with_reducible refine' Fp ?_ ?_ ?_ ?_);rotate_left 1;exact rfl;(with_reducible exact rfl);exact rfl)
  |((with_reducible refine' Fq ?_ ?_ ?_ ?_);rotate_left 1;exact rfl;(with_reducible exact rfl);exact rfl)
  |((with_reducible refine Fo ?_ ?_ ?_);exact rfl;exact rfl)
  |with_reducible refine Iu ?_
  |with_reducible refine Iv ?_
  |((with_reducible refine' J8 ?_ ?_ ?_);rotate_left 1;exact rfl;exact rfl)
  |((with_reducible refine' Ka ?_ ?_ ?_ ?_);rotate_left 3;exact rfl;exact rfl;exact rfl)
  |((with_reducible refine' Kb ?_ ?_ ?_ ?_);rotate_left 3;exact rfl;exact rfl;exact rfl)
  |((with_reducible refine' Kc ?_ ?_ ?_ ?_);rotate_left 3;exact rfl;exact rfl;exact rfl)
  |((with_reducible refine' Kd ?_ ?_ ?_ ?_);rotate_left 3;exact rfl;exact rfl;exact rfl)
  |((with_reducible refine' Ke ?_ ?_ ?_ ?_);rotate_left 3;exact rfl;exact rfl;exact rfl)
  |((with_reducible refine' J9 ?_ ?_ ?_ ?_);rotate_left 3;exact rfl;exact rfl;exact rfl)
  |((with_reducible refine' Iw ?_ ?_ ?_);rotate_left 1;exact rfl;(with_reducible exact rfl))
  |((with_reducible refine' Mb ?_ ?_ ?_ ?_);rotate_left 2;exact rfl;(with_reducible assumption);exact rfl)
  |((with_reducible refine' La ?_ ?_ ?_ ?_ ?_);rotate_left 2;exact rfl;exact rfl;omega;exact rfl)
  |((with_reducible refine' Ma ?_ ?_ ?_ ?_);rotate_left 4;exact rfl;(with_reducible assumption);exact rfl)
  |((with_reducible refine' Mc ?_ ?_ ?_ ?_ ?_ ?_ ?_);rotate_left 7;exact rfl;exact rfl;(with_reducible assumption);exact rfl;omega;exact rfl)
  |((with_reducible refine' K9 ?_ ?_ ?_ ?_ ?_);rotate_left 2;exact rfl;exact rfl;omega;exact rfl)
  |((with_reducible refine' Me ?_ ?_ ?_ ?_);rotate_left 2;exact rfl;(with_reducible assumption);exact rfl)
  |((with_reducible refine' Ld ?_ ?_ ?_ ?_ ?_);rotate_left 2;exact rfl;exact rfl;omega;exact rfl)
  |((with_reducible refine' Lb ?_ ?_ ?_ ?_ ?_);rotate_left 2;exact rfl;exact rfl;omega;exact rfl)
  |((with_reducible refine' Lc ?_ ?_ ?_ ?_);rotate_left 2;exact rfl;(with_reducible assumption);exact rfl)
  |((with_reducible refine' Md ?_ ?_ ?_ ?_);rotate_left 4;exact rfl;(with_reducible assumption);exact rfl)
  |((with_reducible refine' Mf ?_ ?_ ?_ ?_ ?_ ?_ ?_);rotate_left 7;exact rfl;exact rfl;(with_reducible assumption);exact rfl;omega;exact rfl)
 exact k.out):A:=a ⟨k⟩
section
variable{P:Ln}{N:Nat}{ops:Array Ly}{Q:Mq→MG→ka→Prop}{K:MG→Prop}{rest:List Ly}{st:St}{w:ka}
variable{t:ln}{p:String}{e:Array MV}{d:Nat}{v:ix}{op:Op}{B:Prop}
def zvG(hv:RV P N op t st w v)(k:B)(hd:L3 d N=true:=by exact rfl)(a:Hold B→WL P N ops Q rest ((d,v)::st) w:=by intro k;exact zg k.out):WL P N ops Q (⟨some d,op,t,p,e,none⟩::rest) st w:=oy hv hd (a ⟨k⟩)
def zwG(hv:RV P N op t st w v)(k:B)(hd:L3 d N=true:=by exact rfl)(a:Hold B→WS P N ops w K rest ((d,v)::st):=by intro k;exact zg k.out):WS P N ops w K (⟨some d,op,t,p,e,none⟩::rest) st:=rf hv hd (a ⟨k⟩)
def zTG{y:N8}(hc:ev st c=some (.bool b))(hb:b=true)(k:B)(a:Hold B→WC P N x Q st w:=by intro k;exact zg k.out):WC P N (.cond c x y) Q st w:=bp hc hb (a ⟨k⟩)
def zFG{y:N8}(hc:ev st c=some (.bool b))(hb:b=false)(k:B)(a:Hold B→WC P N y Q st w:=by intro k;exact zg k.out):WC P N (.cond c x y) Q st w:=bh hc hb (a ⟨k⟩)
def zvH(hv:RV P N op t st w v)(k:B)(hd:L3 d N=true:=by exact rfl)(a:Hold B→WL P N ops Q rest ((d,v)::st) w:=by intro k;exact zh k.out):WL P N ops Q (⟨some d,op,t,p,e,none⟩::rest) st w:=oy hv hd (a ⟨k⟩)
def zwH(hv:RV P N op t st w v)(k:B)(hd:L3 d N=true:=by exact rfl)(a:Hold B→WS P N ops w K rest ((d,v)::st):=by intro k;exact zh k.out):WS P N ops w K (⟨some d,op,t,p,e,none⟩::rest) st:=rf hv hd (a ⟨k⟩)
def zTH{y:N8}(hc:ev st c=some (.bool b))(hb:b=true)(k:B)(a:Hold B→WC P N x Q st w:=by intro k;exact zh k.out):WC P N (.cond c x y) Q st w:=bp hc hb (a ⟨k⟩)
def zFH{y:N8}(hc:ev st c=some (.bool b))(hb:b=false)(k:B)(a:Hold B→WC P N y Q st w:=by intro k;exact zh k.out):WC P N (.cond c x y) Q st w:=bh hc hb (a ⟨k⟩)
end
end Go.VL
namespace Go.VL
open Go.Proofs.Tryz
open Go.Proofs Go.Proofs.YtcfhbfflgnbacaaGreatDoor
open Go.Proofs.Tryz
instance :FA Lk 25 0 0:=fI Q2 rfl rfl LK
instance :FA Lk 25 1 1:=fI Q2 rfl rfl LK
instance :FA Lk 25 2 2:=fI Q2 rfl rfl QN
instance :FA Lk 26 2 2:=fI underlying26 rfl rfl QN
instance :FA Lk 30 0 0:=fI Nx rfl rfl M0
instance :FA Lk 30 1 1:=fI Nx rfl rfl LK
instance :FA Lk 30 2 2:=fI Nx rfl rfl LK
instance :FA Lk 30 3 3:=fI Nx rfl rfl LK
instance :FA Lk 30 4 4:=fI Nx rfl rfl LK
instance :FA Lk 33 0 0:=fI QY rfl rfl sizeOf30
instance :FA Lk 33 1 5:=fI QY rfl rfl Qf
instance :FA Lk 35 0 0:=fI N5 rfl rfl Pu
instance :FA Lk 35 1 1:=fI N5 rfl rfl Pu
instance :FA Lk 35 2 2:=fI N5 rfl rfl Pu
instance :FA Lk 35 3 3:=fI N5 rfl rfl M0
instance :FA Lk 35 4 4:=fI N5 rfl rfl LK
instance :FA Lk 35 5 5:=fI N5 rfl rfl sizeOf33
instance :FA Lk 35 6 11:=fI N5 rfl rfl sizeOf33
instance :FA Lk 41 0 0:=fI Q0 rfl rfl LK
instance :FA Lk 41 1 1:=fI Q0 rfl rfl LK
instance :FA Lk 41 2 2:=fI Q0 rfl rfl sizeOf39
instance :FA Lk 47 0 0:=fI PZ rfl rfl M0
instance :FA Lk 47 1 1:=fI PZ rfl rfl M0
instance :FA Lk 47 2 2:=fI PZ rfl rfl sizeOf45
instance :FA Lk 49 0 0:=fI PY rfl rfl QL
instance :FA Lk 49 1 3:=fI PY rfl rfl QL
instance :FA Lk 49 2 6:=fI PY rfl rfl Ny
instance :FA Lk 52 0 0:=fI QX rfl rfl P3
instance :FA Lk 52 1 1:=fI QX rfl rfl Qf
instance :FA Lk 61 0 0:=fI PX rfl rfl LK
instance :FA Lk 61 1 1:=fI PX rfl rfl LK
instance :FA Lk 61 2 2:=fI PX rfl rfl QN
instance :FA Lk 75 0 0:=fI P2 rfl rfl M0
instance :FA Lk 75 1 1:=fI P2 rfl rfl M0
instance :FA Lk 75 2 2:=fI P2 rfl rfl Qe
instance :FA Lk 77 0 0:=fI PV rfl rfl LU
instance :FA Lk 77 1 3:=fI PV rfl rfl LU
instance :FA Lk 77 2 6:=fI PV rfl rfl Ny
instance :FA Lk 78 0 0:=fI QW rfl rfl P3
instance :FA Lk 78 1 1:=fI QW rfl rfl Qf
instance :FA Lk 95 1 1:=fI underlying95 rfl rfl P3
instance :FA Lk 98 0 0:=fI Nw rfl rfl M0
instance :FA Lk 98 1 1:=fI Nw rfl rfl LK
instance :FA Lk 98 2 2:=fI Nw rfl rfl LK
instance :FA Lk 98 3 3:=fI Nw rfl rfl LK
instance :FA Lk 98 4 4:=fI Nw rfl rfl LK
instance :FA Lk 100 0 0:=fI Nr rfl rfl M0
instance :FA Lk 100 1 1:=fI Nr rfl rfl LK
instance :FA Lk 100 2 2:=fI Nr rfl rfl LK
instance :FA Lk 100 3 3:=fI Nr rfl rfl LK
instance :FA Lk 100 4 4:=fI Nr rfl rfl LK
instance :FA Lk 106 0 0:=fI QT rfl rfl M0
instance :FA Lk 106 1 1:=fI QT rfl rfl Ny
instance :FA Lk 108 0 0:=fI Nf rfl rfl sizeOf35
instance :FA Lk 108 1 17:=fI Nf rfl rfl M0
instance :FA Lk 108 2 18:=fI Nf rfl rfl sizeOf104
instance :FA Lk 108 3 19:=fI Nf rfl rfl Ny
instance :FA Lk 108 4 20:=fI Nf rfl rfl sizeOf106
instance :FA Lk 108 5 22:=fI Nf rfl rfl Ny
instance :FA Lk 127 1 1:=fI QS rfl rfl P3
instance :FA Lk 127 2 2:=fI QS rfl rfl Qf
instance :FA Lk 142 0 0:=fI MU rfl rfl Ny
instance :FA Lk 142 1 1:=fI MU rfl rfl sizeOf45
instance :FA Lk 142 2 2:=fI MU rfl rfl LK
instance :FA Lk 142 3 3:=fI MU rfl rfl LK
instance :FA Lk 142 4 4:=fI MU rfl rfl LK
instance :FA Lk 142 5 5:=fI MU rfl rfl sizeOf140
instance :FA Lk 142 6 6:=fI MU rfl rfl Pu
instance :FA Lk 144 0 0:=fI PL rfl rfl Ny
instance :FA Lk 144 1 1:=fI PL rfl rfl LK
instance :FA Lk 144 2 2:=fI PL rfl rfl LK
instance :FA Lk 152 0 0:=fI PK rfl rfl M0
instance :FA Lk 152 1 1:=fI PK rfl rfl M0
instance :FA Lk 152 2 2:=fI PK rfl rfl M0
instance :FA Lk 155 0 0:=fI Nc rfl rfl Pp
instance :FA Lk 155 1 1:=fI Nc rfl rfl M0
instance :FA Lk 155 2 2:=fI Nc rfl rfl M0
instance :FA Lk 155 3 3:=fI Nc rfl rfl M0
instance :FA Lk 155 4 4:=fI Nc rfl rfl M0
instance :FA Lk 155 5 5:=fI Nc rfl rfl QM
instance :FA Lk 158 0 0:=fI PJ rfl rfl sizeOf155
instance :FA Lk 158 1 6:=fI PJ rfl rfl sizeOf41
instance :FA Lk 158 2 9:=fI PJ rfl rfl sizeOf156
instance :FA Lk 173 0 0:=fI Nq rfl rfl Ny
instance :FA Lk 173 1 1:=fI Nq rfl rfl sizeOf170
instance :FA Lk 173 2 2:=fI Nq rfl rfl sizeOf171
instance :FA Lk 173 3 3:=fI Nq rfl rfl sizeOf168
instance :FA Lk 173 4 4:=fI Nq rfl rfl sizeOf169
instance :FA Lk 175 0 0:=fI PI rfl rfl LK
instance :FA Lk 175 1 1:=fI PI rfl rfl LK
instance :FA Lk 175 2 2:=fI PI rfl rfl M0
instance :FA Lk 178 0 0:=fI PH rfl rfl M0
instance :FA Lk 178 1 1:=fI PH rfl rfl M0
instance :FA Lk 178 2 2:=fI PH rfl rfl M0
instance :FA Lk 182 0 0:=fI PG rfl rfl sizeOf115
instance :FA Lk 182 1 1:=fI PG rfl rfl sizeOf180
instance :FA Lk 182 2 2:=fI PG rfl rfl P3
instance :FA Lk 217 0 0:=fI Nb rfl rfl sizeOf78
instance :FA Lk 217 1 2:=fI Nb rfl rfl sizeOf215
instance :FA Lk 217 2 3:=fI Nb rfl rfl LK
instance :FA Lk 217 3 4:=fI Nb rfl rfl sizeOf168
instance :FA Lk 217 4 5:=fI Nb rfl rfl sizeOf214
instance :FA Lk 217 5 6:=fI Nb rfl rfl M0
instance :FA Lk 232 0 0:=fI QR rfl rfl Pp
instance :FA Lk 232 1 1:=fI QR rfl rfl LU
instance :FA Lk 249 0 0:=fI QQ rfl rfl Pp
instance :FA Lk 249 1 1:=fI QQ rfl rfl M0
instance :FA Lk 251 0 0:=fI Np rfl rfl sizeOf249
instance :FA Lk 251 1 2:=fI Np rfl rfl sizeOf156
instance :FA Lk 251 2 3:=fI Np rfl rfl M0
instance :FA Lk 251 3 4:=fI Np rfl rfl M0
instance :FA Lk 251 4 5:=fI Np rfl rfl QM
instance :SC Lk 22 1:=⟨3,underlying22,M0⟩
instance :SC Lk 23 7:=⟨49,underlying23,sizeOf49⟩
instance :SC Lk 31 1:=⟨28,underlying31,Pu⟩
instance :SC Lk 39 7:=⟨77,underlying39,sizeOf77⟩
instance :SC Lk 45 3:=⟨47,underlying45,QL⟩
instance :SC Lk 50 1:=⟨22,underlying50,LK⟩
instance :SC Lk 56 2:=⟨52,underlying56,sizeOf52⟩
instance :SC Lk 58 1:=⟨3,underlying58,M0⟩
instance :SC Lk 70 1:=⟨4,underlying70,Ny⟩
instance :SC Lk 73 3:=⟨75,PW,LU⟩
instance :SC Lk 104 2:=⟨106,underlying104,sizeOf106⟩
instance :SC Lk 120 2:=⟨78,underlying120,sizeOf78⟩
instance :SC Lk 124 1:=⟨9,underlying124,Pp⟩
instance :SC Lk 140 2:=⟨199,underlying140,sizeOf199⟩
instance :SC Lk 149 3:=⟨152,underlying149,sizeOf152⟩
instance :SC Lk 156 4:=⟨232,underlying156,sizeOf232⟩
instance :SC Lk 171 3:=⟨175,underlying171,sizeOf175⟩
instance :SC Lk 215 1:=⟨50,underlying215,P3⟩
instance :AG Lk 3 false:=⟨isAgg3⟩
instance :AG Lk 4 false:=⟨isAgg4⟩
instance :AG Lk 5 false:=⟨isAgg5⟩
instance :AG Lk 9 false:=⟨isAgg9⟩
instance :AG Lk 22 false:=⟨isAgg22⟩
instance :AG Lk 23 false:=⟨isAgg23⟩
instance :AG Lk 28 false:=⟨isAgg28⟩
instance :AG Lk 31 false:=⟨isAgg31⟩
instance :AG Lk 36 false:=⟨isAgg36⟩
instance :AG Lk 39 false:=⟨isAgg39⟩
instance :AG Lk 45 false:=⟨isAgg45⟩
instance :AG Lk 50 false:=⟨isAgg50⟩
instance :AG Lk 73 false:=⟨isAgg73⟩
instance :AG Lk 104 false:=⟨isAgg104⟩
instance :AG Lk 115 false:=⟨isAgg115⟩
instance :AG Lk 140 false:=⟨isAgg140⟩
instance :AG Lk 156 false:=⟨isAgg156⟩
instance :AG Lk 168 false:=⟨isAgg168⟩
instance :AG Lk 169 false:=⟨isAgg169⟩
instance :AG Lk 170 false:=⟨isAgg170⟩
instance :AG Lk 171 false:=⟨isAgg171⟩
instance :AG Lk 180 false:=⟨isAgg180⟩
instance :AG Lk 213 false:=⟨isAgg213⟩
instance :AG Lk 214 false:=⟨isAgg214⟩
instance :AG Lk 215 false:=⟨isAgg215⟩
end Go.VL
namespace Go.VL
open Go.Proofs.Tryz
def max_lt(k:Lq){a:Nat}(h:(a:Int)<=k.max):a<2^k.bits:=by
 cases k<;>simp only[Po,ND,Ns]at h ⊢<;>simp at h ⊢<;>omega
def lU(n a:Nat)(h:a<2^n):(Qs n (a:Int)).toNat=a:=by
 rw[show Qs n (a:Int)=BitVec.ofNat n a from by simp,BitVec.toNat_ofNat,Nat.mod_eq_of_lt h]
def sO(k:Lq){a:Nat}(h:(a:Int)<=k.max):k.wrap a=a:=by
 cases k<;>simp only[Po,ND,Ns]at h<;>simp[Rg,ND,Ns]at h ⊢<;>(try split)<;>omega
def Ck(k:Lq):Nat:=if k.signed then k.bits-1 else k.bits
def yE(k:Lq)(a:Nat):(a:Int)<=k.max↔a<2^Ck k:=by
 cases k<;>simp[Po,ND,Ns,Ck]<;>omega
section
variable{P:Ln}{N:Nat}{ops:Array Ly}{Q:Mq→MG→ka→Prop}{rest:List Ly}{st:St}{w:ka}
variable{t xt yt:ln}{p:String}{e:Array MV}{d:Nat}{x y z:Lj}
variable{k:Lq}{m n:Int}{a b:Nat}
def IX(ha:(a:Int)<=k.max)(hb:(b:Int)<=k.max):(binOp .and xt (.int k a) (.int k b)).run P w=.ok (.int k ((a &&& b:Nat):Int)) w:=by
 rw[binOp_and];have h:((a &&& b:Nat):Int)<=k.max:=by have:=@Nat.and_le_left a b;omega
 simp only[QV,BitVec.toNat_and,lU _ _ (max_lt k ha),lU _ _ (max_lt k hb),sO k h];rfl
def Kl(ha:(a:Int)<=k.max)(hb:(b:Int)<=k.max):(binOp .or xt (.int k a) (.int k b)).run P w=.ok (.int k ((a ||| b:Nat):Int)) w:=by
 rw[binOp_or];have h:((a ||| b:Nat):Int)<=k.max:=(yE k _).2 (Nat.or_lt_two_pow ((yE k a).1 ha) ((yE k b).1 hb));simp only[QV,BitVec.toNat_or,lU _ _ (max_lt k ha),lU _ _ (max_lt k hb),sO k h];rfl
def zH(hx:ev st x=some (.int k m))(hy:ev st y=some (.int k n))(hm:m=a)(hn:n=b)(ha:(a:Int)<=k.max)(hb:(b:Int)<=k.max):RV P N (.binOp .and xt x y yt) t st w (.int k ((a &&& b:Nat):Int)):=by
 subst hm;subst hn;exact ie hx hy (IX ha hb)
def mQ(hx:ev st x=some (.int k m))(hy:ev st y=some (.int k n))(hm:m=a)(hn:n=b)(ha:(a:Int)<=k.max)(hb:(b:Int)<=k.max):RV P N (.binOp .or xt x y yt) t st w (.int k ((a ||| b:Nat):Int)):=by
 subst hm;subst hn;exact ie hx hy (Kl ha hb)
def jI(hx:ev st x=some (.int k m))(hy:ev st y=some (.int k' n))(hm:m=a)(hn:n=b)(hb:b<=k.bits):RV P N (.binOp .shr xt x y yt) t st w (.int k ((a / 2^b:Nat):Int)):=by
 subst hm;subst hn;apply ie hx hy;rw[binOp_shr];have h1:¬(b:Int)<0:=zo;simp only[R7,am h1,M8,Qp hb];rw[Int.fdiv_eq_ediv_of_nonneg _ (by exact_mod_cast MC _)];simp
def lj(hx:ev st x=some (.int k m))(hy:ev st y=some (.int k' n))(hm:m=a)(hn:n=b)(hb:b<=k.bits)(hr:((a*2^b:Nat):Int)<=k.max):RV P N (.binOp .shl xt x y yt) t st w (.int k ((a*2^b:Nat):Int)):=by
 subst hm;subst hn;apply ie hx hy;rw[binOp_shl];have h1:¬(b:Int)<0:=zo;have h2:=sO k hr;simp only[R7,am h1,M8,Qp hb];have h3:(a:Int)*2^b=((a*2^b:Nat):Int):=by simp
 rw[h3,h2];rfl
theorem xZ(l:List UInt8):strOfNums (l.map λb=>(b.toNat:Int))=bs l:=by
 simp only[strOfNums,bs,List.map_map];congr 1;rw[show((λn:Int=>Pw n.toNat)∘λb:UInt8=>(b.toNat:Int))=id from by funext b;simp];simp
def AY(hl:Sl (λb:UInt8=>[Pk .u8 (b.toNat:Int)]) 1 w v l)(hs:P.underlying xt=some (.slice E))(he:P.underlying E=some (.int .u8))(a0:P.underlying yt=some .string)(hx:ev st x=some v):
  RV P N (.convert xt yt x) t st w (.string (bs l)):=
 λa' ha a2 p e g=>by
  obtain⟨a,c,rfl,hc,_,a1⟩:=hl.shape;simp only[execOp,ha.ev hx,Lm]
  by_cases h0:l.length=0
  ·obtain rfl:l=[]:=M7 h0
   cases a with
   |none=>
    rw[run_convert_bytes_nil w xt E hs he _ _ yt a0];rfl
   |some q=>
    obtain⟨b,o,sp⟩:=q;have hq:=run_convert_bytes_string (P:=P) w xt yt E (some ⟨b,o,sp⟩) 0 c hs he a0;simp only[Qj]at hq ⊢;rw[hq,run_bytesToString w ⟨b,o,sp⟩ 0 c [] (by simp[loadCells,loadCellsFrom])];rfl
  obtain⟨b,o,rfl⟩:=a1 h0
  have:=run_convert_bytes_arg (P:=P) w xt E hs he b o l.length c (l.map λb=>(b.toNat:Int)) (by simp) (λi hi=>by
   have h1:=hl.cells i hi 0 _ rfl;rw[ar]at h1;simp only[adr,NX]at h1;rw[h1,Mr,M1 (by simpa using hi)]
   simp) yt a0
  rw[this,xZ];rfl
end
section
open Go.RowKit
abbrev Fr(ro:Option Nat):Fence:={ MR with round:=ro }
def gy(o:Ly):Bool:=match o.op with | .defer _=>false|_=>true
def Bq(h:gy o=true):∀c,o.op≠.defer c:=by
 intro c e;simp[gy,e]at h
def dn(ds:List MH)(Q:Mq->MG->ka->Prop):Mq->MG->ka->Prop:=λe a w=>Q e { a with defers:=a.defers++ds } w
def kW(a:MG)(x:List MH):({ a with defers:=x }:MG).eval=a.eval:=by
 funext t;cases t<;>rfl
def Mj{a:MG}{next:MG->ka->Prop}{Q1:Mq->MG->ka->Prop} 
  (hn:ro=none\/gy o=true) (a1:∀a w,¬Q1 .outgrown a w) (hq:∀c a w,Q1 (.panic c) a w->Q (.panic c) { a with defers:=a.defers++ds } w)
  (h:o.wp P a w (λa w=>next { a with defers:=a.defers++ds } w) Q1):o.wpIn (Fr ro) 0 P { a with defers:=a.defers++ds } w next Q:=by
 refine⟨λ_ _=>trivial,?_⟩;have hs:o.semAt (Fr ro).round ({ a with defers:=a.defers++ds }:MG).eval=execOp a.eval o:=by
  rw[kW]
  rcases hn with rfl|hn
  ·rfl
  exact Oper.semAt_eq _ _ _ (Bq hn)
 rw[hs];unfold N6 at h;generalize (execOp a.eval o).run P w=r at h ⊢
 cases r with
 |ok nx w'=>
  cases nx with
  |value v=>cases hd:o.dst<;>simpa[Nm,PB,NB,hd]using h
  |skip=>cases hd:o.dst<;>simpa[Nm,PB,NB,hd]using h
  |defer d=>cases hd:o.dst<;>simpa[Nm,PB,NB,hd]using h
  |enter f args=>
   refine⟨λhh=>by simp[MR]at hh,?_⟩;apply Rh (callsIn_wide.2 h:CallsIn MR _ P f args w' _)
   intro e w'' q
   cases e with
   |returned v=>cases hd:o.dst<;>simpa[NB,hd]using q
   |panicked c=>exact hq _ _ _ q
   |outgrown=>obtain⟨a0,w0,q⟩:=q;exact absurd q (a1 _ _)
  |row row args=>
   refine⟨λhh=>by simp[MR]at hh,λc cs _=>?_⟩;obtain⟨v,w'',q,s⟩:=h c cs;refine⟨v,w'',?_,stepsIn_wide.2 s⟩
   cases hd:o.dst<;>simpa[NB,hd]using q
  |_=>exact h.elim
 |halt hl w'=>
  cases hl with
  |panic v=>exact hq _ _ _ h
  |_=>exact h.elim
def ga{ro:Option Nat}{P:Ln}{ops:Array Ly}{Q:Mq->MG->ka->Prop}{ds:List MH}(l2:List Ly)(a2:∀a w,¬Q .outgrown a w):
  ∀(l:List Ly),(ro=none\/l.all gy=true)->∀a w,wpList P ops (dn ds (Exit.then (wpListIn (Fr ro) 0 P ops Q l2) Q)) l a w->wpListIn (Fr ro) 0 P ops Q (l++l2) { a with defers:=a.defers++ds } w
 |[],_,a,w,h=>h
 |o::rest,hn,a,w,h=>by
  have a4:ro=none\/gy o=true:=by rcases hn with h|h;exact .inl h;exact .inr (by simp at h;exact h.1)
  have a3:ro=none\/rest.all gy=true:=by rcases hn with h|h;exact .inl h;exact .inr (by simp at h ⊢;exact h.2)
  rw[N2];unfold wpListIn;unfold wpList at h;have a1:∀a w,¬dn ds (Exit.then (wpListIn (Fr ro) 0 P ops Q l2) Q) .outgrown a w:=λa w q=>a2 _ _ q
  split at h
  ·rename_i hw;rw[ap hw]
   rcases h with h|⟨_,a0,w0,h⟩
   ·apply Mj (Q1:=dn ds (Exit.then (wpListIn (Fr ro) 0 P ops Q l2) Q)) a4 a1 (λ_ _ _ q=>q);have hm:∀a w,wpList P ops (dn ds (Exit.then (wpListIn (Fr ro) 0 P ops Q l2) Q)) rest a w->wpListIn (Fr ro) 0 P ops Q (rest++l2) { a with defers:=a.defers++ds } w:=ga l2 a2 rest a3;unfold N6 at h ⊢;generalize (execOp a.eval o).run P w=r at h ⊢
    cases r with
    |ok nx w'=>
     cases nx with
     |value v=>exact hm _ _ h
     |skip=>exact hm _ _ h
     |defer d=>exact hm _ _ h
     |enter f args=>
      apply MM h;intro e w'' q
      cases e with
      |returned v=>exact hm _ _ q
      |_=>exact q
     |row row args=>exact Q8 h λv w'' q=>hm _ _ q
     |_=>exact h
    |halt hl w'=>cases hl<;>exact h
   exact absurd h (a1 _ _)
  rename_i hw;rw[am hw];refine⟨λ_ _=>trivial,?_⟩;have:=ga l2 a2 rest a3 _ _ h
  cases hd:o.dst<;>simpa[NB,hd]using this
def then_self(Q:Mq->MG->ka->Prop):Exit.then (λa w=>Q .normal a w) Q=Q:=by
 funext e a w;cases e<;>rfl
def oZ{ops:Array Ly}(a0:∀a w,¬Q .outgrown a w) 
  (l:List Ly) (hn:ro=none\/l.all gy=true) (a:MG) (w:ka) (h:wpList P ops (dn ds Q) l a w):wpListIn (Fr ro) 0 P ops Q l { a with defers:=a.defers++ds } w:=by
 have:=ga (ro:=ro) (P:=P) (ops:=ops) (Q:=Q) (ds:=ds) [] a0 l hn a w (by
  rw[show Exit.then (wpListIn (Fr ro) 0 P ops Q []) Q=Q from then_self Q];exact h)
 rwa[Ql]at this
def WI(ro:Option Nat)(P:Ln)(N:Nat)(ds:List MH)(c:N8)(Q:Mq->MG->ka->Prop)(st:St)(w:ka):Prop:=
 ∀a,Fits N a st->c.wpIn (Fr ro) 0 P Q { a with defers:=ds } w
def QI(N:Nat)(ds:List MH)(Q:Mq->MG->ka->Prop)(e:Mq)(st:St)(w:ka):Prop:=
 ∀a,Fits N a st->Q e { a with defers:=ds } w
section
variable{P:Ln}{N:Nat}{ro:Option Nat}{ds:List MH}{Q:Mq→MG→ka→Prop}{st:St}{w:ka}
def uh{a:MG}{st:St}(h:Fits N a st)(ds:List MH):({ a with defers:=a.defers++ds }:MG) = { a with defers:=ds }:=by rw[h.defers];rfl
def QF.dn{e:Mq}(h:QI N ds Q e st w):QF N (dn ds Q) e st w:=λa ha=>by
 show Q e _ w;rw[uh ha];exact h a ha
def WI.region{id:Nat}{l:List Ly}(hn:ro=none\/l.all gy=true)(a0:∀a w,¬Q .outgrown a w)(h:WL P N l.toArray (dn ds Q) l st w):WI ro P N ds (.region id l.toArray false) Q st w:=λa ha=>by
 rw[<-uh ha];exact wpIn_region_lit (oZ a0 l hn a w (h a ha))
def WI.seq{x y:N8}(h:WI ro P N ds x (Exit.then (y.wpIn (Fr ro) 0 P Q) Q) st w):WI ro P N ds (.seq x y) Q st w:=λa ha=>wpIn_seq (h a ha)
def WI.skip(h:QI N ds Q .normal st w):WI ro P N ds .skip Q st w:=λa ha=>wpIn_skip (h a ha)
def WI.exit{id:Nat}(h:QI N ds Q (.exit id) st w):WI ro P N ds (.exit id) Q st w:=λa ha=>wpIn_exit (h a ha)
def WI.ret(h:QI N ds Q .ret st w):WI ro P N ds .ret Q st w:=λa ha=>wpIn_ret (h a ha)
def WI.block{id:Nat}{c:N8}(h:WI ro P N ds c (MF id Q) st w):WI ro P N ds (.block id c) Q st w:=λa ha=>wpIn_block (h a ha)
def Fits.evD{a:MG}(ha:Fits N a st){x:Lj}(hx:VL.ev st x=some v)(ds:List MH):({ a with defers:=ds }:MG).eval x=v:=by rw[kW];exact ha.ev hx
def WI.cond{c:Lj}{x y:N8}{b:Bool}(hc:ev st c=some (.bool b))(ht:b=true->WI ro P N ds x Q st w)(hf:b=false->WI ro P N ds y Q st w):WI ro P N ds (.cond c x y) Q st w:=
 λa ha=>wpIn_cond_split (ha.evD hc ds) (λe=>ht e a ha) (λe=>hf e a ha)
def uj{y:N8}(hc:ev st c=some (.bool b))(hb:b=true)(ht:WI ro P N ds x Q st w):WI ro P N ds (.cond c x y) Q st w:=by
 subst hb;exact λa ha=>wpIn_cond_true (ha.evD hc ds) (ht a ha)
def mN{y:N8}(hc:ev st c=some (.bool b))(hb:b=false)(hf:WI ro P N ds y Q st w):WI ro P N ds (.cond c x y) Q st w:=by
 subst hb;exact λa ha=>wpIn_cond_false (ha.evD hc ds) (hf a ha)
def bq{y:N8}(h:WI ro P N ds y Q st w):QI N ds (Exit.then (y.wpIn (Fr ro) 0 P Q) Q') .normal st w:=h
def qA(h:QI N ds Q (.exit id) st w):QI N ds (Exit.then K Q) (.exit id) st w:=h
def ko(h:QI N ds Q .ret st w):QI N ds (Exit.then K Q) .ret st w:=h
def dJ(h:QI N ds Q .normal st w):QI N ds (MF id Q) .normal st w:=h
def iJ(h:QI N ds Q .ret st w):QI N ds (MF id Q) .ret st w:=h
def zJ(h:QI N ds Q .normal st w):QI N ds (MF id Q) (.exit id) st w:=λa ha=>by
 show if id=id then _ else _
 rw[ap rfl];exact h a ha
end
def wpIn_loop_ghost{F:Fence}{a:MG}{c:N8}(I:Nat->MG->ka->Prop)(n0:Nat)(h₀:I n0 a w) 
  (a1:∀j a w,I j a w->c.wpIn F n P (Exit.then (λa' w'=>∃j',j'<j/\I j' a' w') Q) a w):(Code.loop c).wpIn F n P Q a w:=by
 intro b k cs a3 hb hr;have a2:∀j a w,I j a w->
   ∃e a' w',Q e a' w'/\ArrivesIn (Rb P F) P (lone (b.atR a (.code c :: .inLoop c::k)) cs w) b k cs e a' w':=by
  intro j
  induction j using Nat.strongRecOn with
  |_ j ih=>
   intro a w hI;obtain⟨e,a₁,w₁,hq,a0⟩:=a1 j a w hI b (.inLoop c::k) cs a3 hb hr
   cases e with
   |normal=>
    obtain⟨j',a4,hI₁⟩:=hq;obtain⟨e₂,a₂,w₂,hq₂,harr₂⟩:=ih j' a4 a₁ w₁ hI₁;exact⟨e₂,a₂,w₂,hq₂,.of_steps (Ra a0 (.one (fenced_calm hb hr rfl) stepR_inLoop)) harr₂⟩
   |exit id=>exact⟨_,a₁,w₁,hq,.pass (x:=.inLoop c) rfl (λ_ _=>.inl (by simp)) a0⟩
   |goto l=>exact⟨_,a₁,w₁,hq,.pass (x:=.inLoop c) rfl (λ_ _=>.inl (by simp)) a0⟩
   |ret=>exact⟨_,a₁,w₁,hq,.pass (x:=.inLoop c) rfl (λ_ _=>.inl (by simp)) a0⟩
   |panic ch=>exact⟨_,a₁,w₁,hq,.pass (x:=.inLoop c) rfl (λ_ _=>.inl (by simp)) a0⟩
   |outgrown=>exact⟨_,a₁,w₁,hq,.pass (x:=.inLoop c) rfl (λ_ _=>.inl (by simp)) a0⟩
 obtain⟨e,a',w',hq,a0⟩:=a2 _ a w h₀;exact⟨e,a',w',hq,.of_steps (.one (fenced_calm hb hr rfl) stepR_loop) a0⟩
section
variable{P:Ln}{N:Nat}{ro:Option Nat}{ds:List MH}{Q:Mq→MG→ka→Prop}{st:St}{w:ka}
def WI.loop{α:Type}{c:N8}(f:α->St)(g:α->ka)(I:α->Prop)(μ:α->Nat)(x0:α)(h0:I x0)(hc:Cov st (f x0))(hw:g x0=w) 
  (a0:∀x,I x->WI ro P N ds c (Exit.then (λa' w'=>∃y,I y/\μ y<μ x/\(∃a,a' = { a with defers:=ds }/\Fits N a (f y))/\g y=w') Q) (f x) (g x)):WI ro P N ds (.loop c) Q st w:=by
 intro a ha;apply wpIn_loop_ghost (λn a' w=>∃y,I y/\μ y=n/\(∃a,a' = { a with defers:=ds }/\Fits N a (f y))/\g y=w) (μ x0) ⟨x0,h0,rfl,⟨a,rfl,ha.cov hc⟩,hw⟩;rintro n _ w ⟨x,hI,rfl,⟨a,rfl,hf⟩,rfl⟩;apply wpIn_mono (a0 x hI a hf);intro e a' w' hq
 cases e with
 |normal=>obtain⟨y,h1,h2,h3,h4⟩:=hq;exact⟨μ y,h2,y,h1,rfl,h3,h4⟩
 |_=>exact hq
def QI.next{f:α->St}{g:α->ka}{I:α->Prop}{m:Nat}(y:α)(h1:I y)(h2:μ y<m)(h3:Cov st (f y))(h4:g y=w):
 QI N ds (Exit.then (λa' w'=>∃y,I y/\μ y<m/\(∃a,a' = { a with defers:=ds }/\Fits N a (f y))/\g y=w') Q) .normal st w:=λa ha=>⟨y,h1,h2,⟨a,rfl,ha.cov h3⟩,h4⟩
end
def K4(R:ix->ka->Prop):Ending->ka->Prop
 |.returned v,w=>R v w
 |_,_=>False
def Leave(P:Ln)(N:Nat)(fn:QG)(R:ix->ka->Prop)(ds:List MH)(st:St)(w:ka):Prop:=
 ∀a,Fits N a st->LeavesInM MR 0 P fn a.tmps (K4 R) ds .returning w
section
variable{P:Ln}{N:Nat}{ds:List MH}{st:St}{w:ka}{fn:QG}{R:ix→ka→Prop}
def sL{c:N8}(hf:P.funcs[f]? = some fn)(hN:fn.ntmps=N)(hb:fn.body=some c)(a1:Qa args.length N=true) 
  (h:WI none P N [] c (bodyPostM MR 0 P fn (K4 R)) (IM 0 args) w):Ret P f args w R:=by
 have a0:=sg (N:=N) (args:=args) a1 (st:=IM 0 args) λt v hv=>by simpa using(px args 0 t v hv).2
 have hw:=h _ a0;have h2:=callsIn_of_wp_marks (F:=MR) (n:=0) (P:=P) (f:=f) (fn:=fn) (c:=c) (args:=args.toArray) (w:=w) (R:=K4 R) hf hb trivial (by rw[hN];have:Fr none=MR:=rfl;rw[this]at hw;simpa using hw);apply MM (callsIn_wide.1 h2);intro e w' q
 cases e<;>exact q
def mR(h:Leave P N fn R ds st w):QI N ds (bodyPostM MR 0 P fn (K4 R)) .ret st w:=λa ha=>h a ha
def Leave.nil(hr:∀a:MG,Fits N a st->(results fn a.tmps).run P w=.ok v w)(h:R v w):Leave P N fn R [] st w:=λa ha=>⟨v,hr a ha,h⟩
def qE(hr:fn.results = #[])(h:R (.tuple #[]) w):Leave P N fn R [] st w:=Leave.nil (λa ha=>by simp[results,hr]) h
def Leave.mark{D:Nat}(hD:w.heap[D]? = some (.deferred (some [])))(h:Leave P N fn R ds st (w.putObj D (.deferred none))):Leave P N fn R ({ target:=.collected D,args:=#[] }::ds) st w:=
 λa ha=>⟨by simp,.inl ⟨D,_,rfl,run_takeDeferred hD,h a ha⟩⟩
end
def WLI(ro:Option Nat)(P:Ln)(N:Nat)(ds:List MH)(ops:Array Ly)(Q:Mq->MG->ka->Prop)(l:List Ly)(st:St)(w:ka):Prop:=
 ∀a,Fits N a st->wpListIn (Fr ro) 0 P ops Q l { a with defers:=ds } w
section
variable{P:Ln}{N:Nat}{ro:Option Nat}{ds:List MH}{Q:Mq→MG→ka→Prop}{st:St}{w:ka}
def zz(i:Nat){l:List Ly}(hn:ro=none\/(l.take i).all gy=true)(a0:∀a w,¬Q .outgrown a w) 
  (h:WL P N l.toArray (VL.dn ds (Exit.then (wpListIn (Fr ro) 0 P l.toArray Q (l.drop i)) Q)) (l.take i) st w):WI ro P N ds (.region id l.toArray false) Q st w:=λa ha=>by
 rw[<-uh ha];apply wpIn_region_lit;have:=ga (l.drop i) a0 (l.take i) hn a w (h a ha)
 rwa[MJ]at this
def JR{ops:Array Ly}{l:List Ly}(h:WLI ro P N ds ops Q l st w):QI N ds (Exit.then (wpListIn (Fr ro) 0 P ops Q l) Q') .normal st w:=h
def Iy{ops:Array Ly}{l:List Ly}(hn:ro=none\/l.all gy=true)(a0:∀a w,¬Q .outgrown a w)(h:WL P N ops (VL.dn ds Q) l st w):WLI ro P N ds ops Q l st w:=λa ha=>by
 rw[<-uh ha];exact oZ a0 l hn a w (h a ha)
end
def CO(O:Nat->Nat)(w:ka)(L:Nat)(I:(Nat->Nat)->ka->Prop)(Ix:N8->(Nat->Nat)->ka->Prop):Mq->MG->ka->Prop
 |.normal,_,w'=>∃O',Upd (λj=>j≠0/\j≠L) O w O' w'/\I O' w'
 |.ret,_,w'=>∃O',Upd (λj=>j≠0/\j≠L) O w O' w'/\Ix .ret O' w'
 |.exit id,_,w'=>∃O',Upd (λj=>j≠0/\j≠L) O w O' w'/\Ix (.exit id) O' w'
 |_,_,_=>False
def Upd.putObj{O:Nat->Nat}{w:ka}{L b:Nat}(hL:L≠0)(h:O b=L)(o:Obj):Upd (λj=>j=L) O w O (w.putObj b o):=
 ⟨rfl,rfl,rfl,by simp,λk _ hn=>World.putObj_heap_other (λe=>hn (by rw[e];exact h)),λ_ _=>rfl,λ_ h=>.inl h,λe=>hL e.symm⟩
def jJ{st:St}(O':Nat->Nat)(h:Upd (λj=>j≠0/\j≠L) O w O' w')(h2:I O' w'):
 QI N [] (CO O w L I Ix) .normal st w':=λ_ _=>⟨O',h,h2⟩
def zI{st:St}(O':Nat->Nat)(h:Upd (λj=>j≠0/\j≠L) O w O' w')(h2:Ix .ret O' w'):
 QI N [] (CO O w L I Ix) .ret st w':=λ_ _=>⟨O',h,h2⟩
structure Fixed(O:Nat->Nat)(w:ka)(q:Mu)(u:ix):Prop where
 cell:w.cell? q=some u
 free:O q.block=0
def Upd.zero(h:Upd S O w O' w'){b:Nat}(hb:b<w.heap.size)(h0:O b=0):O' b=0:=
 Ls λa0=>by
  rcases h.new b a0 with h1|h1
  ·exact h1 h0
  omega
def Fixed.U(h:Fixed O w q u)(k:Upd S O w O' w'):Fixed O' w' q u:=by
 have a0:=Nl w q h.cell;have hb:=k.blk q.block a0 (by rw[h.free];exact k.z);refine⟨?_,k.zero a0 h.free⟩;have:=h.cell;unfold Qz at this ⊢;rw[hb];exact this
end
end Go.VL
namespace Go.VL
open Go.Proofs.Tryz
open Go.RowKit
section
variable{P:Ln}{N:Nat}{ops:Array Ly}{Q:Mq→MG→ka→Prop}{rest:List Ly}{st:St}{w:ka}
variable{t:ln}{p:String}{e:Array MV}{d:Nat}{x y z:Lj}
def RV.ext{args:List Lj}{a1:Array ln}{vs:List ix}(hr:(callFunc f vs.toArray).run P w=.ok (.value v) w)(a0:evs st args=some vs):
 RV P N (.call ⟨.value (.func f),args.toArray,a1⟩) t st w v:=λa ha a2 p e g=>by
 simp only[execOp,resolve,MI,Lp];rw[ha.evs a0];simp[MY,invoke,hr]
end
section
variable{P:Ln}{N:Nat}{ops:Array Ly}{Q:Mq→MG→ka→Prop}{rest:List Ly}{st:St}{w:ka}
variable{t:ln}{p:String}{e:Array MV}{d:Nat}{x y z:Lj}
def um{len:Nat}{i:Int}(hu:P.underlying T=some (.array len E))(hE:(Ms E).run P w=.ok sz w) 
  (hx:ev st x=some (.pointer (some q))) (hy:ev st y=some (.int k i)) (n:Nat) (hi:i=n) (hn:n<len):RV P N (.indexAddr T x y) t st w (.pointer (some (q.add (n*sz)))):=
 λa ha a0 p e g=>by
  subst hi;have h2:((n:Int)<(len:Int)):=zo;simp only[execOp,ha.ev hx,ha.ev hy];simp[Pi,MA,asIntOf,run_underlying hu,hE];intro h3;omega
def dI{len:Nat}{i:Int}(hu:P.underlying T=some (.array len E))(hE:(Ms E).run P w=.ok 1 w) 
  (hx:ev st x=some (.pointer (some q))) (hy:ev st y=some (.int k i)) (n:Nat) (hi:i=n) (hn:n<len):RV P N (.indexAddr T x y) t st w (.pointer (some (q.add n))):=by
 have h:=um (N:=N) (t:=t) hu hE hx hy n hi hn
 rwa[NX]at h
def bA{c:UInt8}(hT:P.underlying xt=some .string)(hx:ev st x=some (.string (bs a)))(hy:ev st y=some (.int k m))(i:Nat)(hm:m=i)(hi:a[i]? = some c):RV P N (.index xt x y) t st w (.int .u8 (c.toNat:Int)):=by
 obtain⟨h1,h2⟩:=Lz.1 hi;have h:=FB (P:=P) (N:=N) (t:=t) (w:=w) hT hx hy i hm h1;rw[aB h1,h2]at h;exact h
def eJ{T E:ln}{n sz:Nat}{parts:List (Nat×Lj)}{vs:List (Nat×ix)}{z:ix}{cells:Array ix}(hu:P.underlying T=some (.array n E))(hE:(Ms E).run P w=.ok sz w)(hz:(Na T).run P w=.ok z w) 
  (hv:evp st parts=some vs) (hf:Nh (λi=>some (i*sz,sz)) z.cells vs=some cells):RV P N (.build T parts.toArray) t st w (.agg cells):=
 λa ha a0 p e g=>by
  have h1:=ha.evp hv;have e1:(Pe (λx:Nat×Lj=>match x with|(i,x)=>(i,a.eval x)) parts)=vs:=by rw[<-h1]
  simp only[execOp,QC,Lp,e1,Lm,hz,Li,run_underlying hu,hE,hf,M4]
def zF(hu:P.underlying T=some (.array n E))(hE:(Ms E).run P w=.ok sz w)(_:n≠0)(hx:ev st x=some (.pointer (some q))):RV P N (.slice T x none none none) t st w (.slice (some q) n n):=
 λa ha a0 p e g=>by
  simp only[execOp,ha.ev hx,MB];simp[Instr.sliceAt,Instr.sliceBounds,MA,run_underlying hu,hE,M9]
end
section
variable{P:Ln}{N:Nat}{st:St}{w:ka}{fn:QG}{R:ix→ka→Prop}
def cV{t u o:QU}{v2:ix}(hr:fn.results = #[.cell t T,.tmp u,.tmp o])(hv:cQ st t=some (.pointer (some q)))(a1:cQ st u=some v')(a0:cQ st o=some v2) 
  (hc:∀j u,us[j]? = some u->w.cell? (q.add j)=some u) (hT:(Qg T).run P w=.ok true w) (hn:(Ms T).run P w=.ok us.length w) (h:R (.tuple #[.agg us.toArray,v',v2]) w):QF N (RP P fn R) .ret st w:=λa ha=>
 ⟨ha.defers,_,by have h1:=ha.get _ _ hv;have h2:=ha.get _ _ a1;have h3:=ha.get _ _ a0;simp[results,hr,Ll,h1,h2,h3,asAddr,ef hc hT hn],h⟩
end
end Go.VL
namespace Go.VL
open Go.Proofs.Tryz
section
variable{P:Ln}{N:Nat}{ops:Array Ly}{Q:Mq→MG→ka→Prop}{rest:List Ly}{st:St}{w:ka}
variable{t:ln}{p:String}{e:Array MV}{d:Nat}{x y z:Lj}
def aQ{a0:Nat}(he:Elem P T E sz a0)(u:α)(hx:ev st x=some xv)(a2:xv.cells.toList=enc u)(a4:(enc u).length=sz)(hs:sz<=16777216)(hd:L3 d N=true) 
  (h:∀w',Sl enc sz w' (.slice (some ⟨w.heap.size,0,none⟩) 1 1) [u]->Ext w w'->WL P N ops Q rest ((d,.slice (some ⟨w.heap.size,0,none⟩) 1 1)::st) w'):WL P N ops Q (⟨some d,.buildSlice T 1 #[(0,x)],t,p,e,none⟩::rest) st w:=by
 obtain⟨a3,z,hi,hz,a1,a8,a7⟩:=he.parts;have a6:xv.cells.size=sz:=by rw[<-a4,<-a2];simp
 have a5:=he.pos;refine WL.val (v:=.slice (some ⟨w.heap.size,0,none⟩) 1 1) (w':=w.alloc (.cells xv.cells E)) hd (λa ha=>?_) (h _ ⟨⟨_,1,rfl,Lr _,by simp,λ_=>⟨_,_,rfl⟩⟩,λi hi j c hc=>?_⟩ (Ext.alloc _ _))
 ·have:=run_buildSlice (P:=P) w T E 1 #[(0,xv)] xv.cells a3 z he.ht hi hz (by rw[a1];omega) (by rw[a1];omega) (by
   rw[a1]
   exact oV a6 (by simp))
  simp only[execOp,Lp,LN,Mv,ha.ev hx,Lm,this,Li];rfl
 obtain rfl:i=0:=by simpa using hi
 simp only[ME]at hc;simp only[adr,NS,Py];rw[show((⟨w.heap.size,0,none⟩:Mu).add j)=⟨w.heap.size,j,none⟩from by simp only[M9];split<;>simp_all,cell_of_row _ _ j xv.cells E (0,0) (heap_alloc_new w _)];rw[<-a2]at hc;simpa using hc
end
end Go.VL
section
namespace Go.VL
open Go.Proofs.Tryz
def Free.weak(h:Free O' w v)(k:∀b,O' b=0->O b=0):Free O w v:=λa n c e hn=>⟨k _ (h a n c e hn).1,(h a n c e hn).2⟩
def Upd.z0(h:Upd S O w O' w')(b:Nat)(e:O' b=0):O b=0:=
 Ls λa0=>by have:=h.tag b a0;omega
def Rng.bound(r:Rng B O w):∃T,0<T/\∀b,O b<T:=by
 have h:∀n,∃T,0<T/\∀b,b<n->O b<T:=λn=>by
  induction n with
  |zero=>exact⟨1,zo,λb hb=>zo⟩
  |succ n ih=>
   obtain⟨T,h0,hT⟩:=ih;refine⟨T+O n+1,zo,λb hb=>?_⟩
   by_cases e:b=n
   ·subst e;omega
   have:=hT b zo;omega
 obtain⟨T,h0,hT⟩:=h w.heap.size;refine⟨T,h0,λb=>?_⟩
 by_cases e:O b=0
 ·omega
 exact hT b (r.rng b e).2
def Upd.fgt{S':Nat->Prop}{O2:Nat->Nat}(h:Upd S O w O2 w')(hS:∀b,S (O b)->S' (O b))(hz:¬S' 0):Upd S' O w O w':=
 ⟨h.os,h.tape,h.output,h.size,λb hb hn=>h.blk b hb λhs=>hn (hS b hs),λ_ _=>rfl,λ_ h=>.inl h,hz⟩
def BlkO.fgt{O2:Nat->Nat}{b:Nat}{cs:Array ix}(h:BlkO O2 w j b cs E)(ho:O b=i):BlkO O w i b cs E:=⟨h.blk,ho⟩
def RowT.freeT{T:Nat}{l:List α}(h:RowT enc E sz O' w' T v l)(a1:0<T)(hT:∀b,O b<T)(r:Rng B O' w')(u:Upd S O w O' w'):Free O w' v:=λa n c e _=>by
 have h1:=h.1.tag a.block (by subst e;rfl);have h2:=r.rng a.block (by rw[h1];omega);refine⟨Ls λa0=>?_,h2.2⟩;have:=u.tag _ a0;have:=hT a.block;omega
end Go.VL
namespace Go.Proofs.YtcfhbfflgnbacaaGreatDoor
open Go.Proofs.Tryz
open Go.VL Go.Proofs
inductive Nd where|mk(k c:Int)(kids:List Nd)
instance:Inhabited Nd:=⟨.mk 0 0 []⟩
def Nd.kind:Nd->Int | .mk k _ _=>k
def Nd.cls:Nd->Int | .mk _ c _=>c
def Nd.kids:Nd->List Nd | .mk _ _ l=>l
mutual
def nsz:Nd->Nat | .mk _ _ l=>cM l+1
def cM:List Nd->Nat | []=>0|t::r=>nsz t+cM r
end
def da(t:Nd):0<nsz t:=by cases t;simp[nsz]
def bK:∀(l:List Nd) (i:Nat),i<l.length->nsz (nth l i)<=cM l
 |t::r,0,_=>by rw[ao];simp[cM]
 |t::r,i+1,h=>by rw[aW];have:=bK r i (by simpa using h);simp only[cM];omega
def fK:∀(a b:List Nd),cM (a++b)=cM a+cM b
 |[],b=>by simp[cM]
 |t::a,b=>by simp only[N2,cM];rw[fK a b];omega
def bY(l:List Nd)(i:Nat):cM (l.take i)<=cM l:=by
 conv=>rhs;rw[<-MJ i l]
 rw[fK];omega
def di(l:List Nd)(i:Nat)(h:i<l.length):cM (l.take (i+1))=cM (l.take i)+nsz (nth l i):=by
 rw[aG h,fK];simp[cM]
def du:∀(l:List Nd),l.length<=cM l
 |[]=>by simp
 |t::r=>by have:=du r;have:=da t;simp only[cM,M5];omega
abbrev N3:=Int×Int×ix
@[simp] def aY(x:N3):List ix:=[nI x.1,nI x.2.1,x.2.2]
inductive Nt(O:Nat->Nat)(w:ka):Nd->N3->Prop
 |mk {k c:Int} {kids:List Nd} {v:ix} {xs:List N3}:Sl aY 3 w v xs->Free O w v->kids.length=xs.length->(∀i,i<xs.length->Nt O w (nth kids i) (nth xs i))->Nt O w (.mk k c kids) (k,c,v)
def Nt.U{S:Nat->Prop}{O O':Nat->Nat}{w w':ka}{t:Nd}{x:N3}(h:Nt O w t x)(u:Upd S O w O' w'):Nt O' w' t x:=by
 induction h with
 |mk hs hf hl _ ih=>exact .mk (hs.U hf u) (hf.U u) hl ih
def Nt.drew{O:Nat->Nat}{w:ka}{t:Nd}{x:N3}(h:Nt O w t x):Nt O w.drew t x:=h.U (aa (S:=λ_=>False) (λh=>h) O (Ext.refl w).drew)
def Nt.ext{t:Nd}{x:N3}(h:Nt O w t x)(e:Ext w w'):Nt O w' t x:=h.U (aa (S:=λ_=>False) (λh=>h) O e)
def Nt.weak{O O':Nat->Nat}{w:ka}{t:Nd}{x:N3}(h:Nt O' w t x)(k:∀b,O' b=0->O b=0):Nt O w t x:=by
 induction h with
 |mk hs hf hl _ ih=>exact .mk hs (hf.weak k) hl ih
def Nt.low{t:Nd}{x:N3}(h:Nt O' w' t x)(u:Upd S O w O' w0):Nt O w' t x:=h.weak u.z0
def Nt.zero{t:Nd}{x:N3}(h:Nt O w t x):Nt (λ_=>0) w t x:=h.weak λ_ _=>rfl
def Nt.one{O:Nat->Nat}{w:ka}{t:Nd}{x:N3}(h:Nt O w t x):x.2.2.oneCell'=true:=by cases h with|mk hs=>exact hs.one
def Nt.leaf(O:Nat->Nat)(w:ka)(k c:Int):Nt O w (.mk k c []) (k,c,nS):=
 .mk (xs:=[]) ⟨⟨none,0,rfl,Lr _,zo,λh=>absurd rfl h⟩,λi hi=>absurd hi (by simp)⟩ (λa n c e=>by cases e) rfl (λi hi=>absurd hi (by simp))
def Nt.kind{O:Nat->Nat}{w:ka}{t:Nd}{x:N3}(h:Nt O w t x):x.1=t.kind:=by cases h;rfl
def Nt.kids{O:Nat->Nat}{w:ka}{t:Nd}{x:N3}(h:Nt O w t x):∃xs:List N3,Sl aY 3 w x.2.2 xs/\Free O w x.2.2/\t.kids.length=xs.length/\∀i,i<xs.length->Nt O w (nth t.kids i) (nth xs i):=by
 cases h with|mk hs hf hl hk=>exact⟨_,hs,hf,hl,hk⟩
def aq(b:UInt8):Bool:=(decide (65<=b.toNat)&&decide (b.toNat<=90))||(decide (97<=b.toNat)&&decide (b.toNat<=122))
def ay(r:List UInt8):List UInt8:=r.dropWhile (· == 32)
def namesL:List (List UInt8):=[[79,116,104,101,114],[67,82],[76,70],[78,101,119,108,105,110,101],[67,111,110,116,114,111,108],[69,120,116,101,110,100],[90,87,74],[70,111,114,109,97,116],[82,101,103,105,111,110,97,108],[80,114,101,112,101,110,100],[83,112,97,99,105,110,103],[76],[86],[84],[76,86],[76,86,84],[80,105,99,116],[85,112,112,101,114],[76,111,119,101,114],[76,101,116,116,101,114],[75,97,116,97,107,97,110,97],[73,100,101,111,103,114,97,112,104],[68,105,103,105,116],[77,105,100,76,101,116,116,101,114],[77,105,100,78,117,109],[68,111,116],[65,112,111,115,116,114,111,112,104,101],[81,117,111,116,101],[74,111,105,110,101,114],[83,112,97,99,101],[84,101,114,109],[79,112,101,110],[67,108,111,115,101],[72,121,112,104,101,110],[71,108,117,101],[71,97,112]]
def C4(s:List UInt8):Option Nat:=namesL.findIdx? (· == s)
inductive PR where
 |ok (t:Nd) (r:List UInt8)
 |bad (p:Nat) (e:Int)
def ez(kind:Int)(r0:List UInt8):PR:=
 if aq ((ay r0).headD 0)=true then
  match C4 ((ay r0).takeWhile aq)with
  |none=>.bad (ay r0).length 5
  |some c=>.ok (.mk kind (c:Nat) []) ((ay r0).dropWhile aq)
 else .bad (ay r0).length 4
def Kv(r:List UInt8):PR:=if r.takeWhile aq=[97,110,121]then .ok (.mk 1 0 []) (r.dropWhile aq)else ez 0 r
def cJ(al:Option (List UInt8->PR))(r:List UInt8):PR:=
 match al with
 |none=>.bad r.length 6
 |some f=>
  match f r.tail with
  |.bad p e=>.bad p e
  |.ok t r2=>if(ay r2).headD 0=41 then .ok t (ay r2).tail else .bad (ay r2).length 4
def LJ(al:Option (List UInt8->PR))(r0:List UInt8):PR:=
 if aq ((ay r0).headD 0)=true then Kv (ay r0)
 else if(ay r0).headD 0=126 then ez 2 (ay r0).tail
 else if(ay r0).headD 0=94 then .ok (.mk 3 0 []) (ay r0).tail
 else if(ay r0).headD 0=40 then cJ al (ay r0)
 else .bad (ay r0).length 4
def opM(c:UInt8):Option Nat:=if c=42 then some 0 else if c=43 then some 1 else if c=63 then some 2 else none
def Ig(al:Option (List UInt8->PR))(r0:List UInt8):PR:=
 match LJ al r0 with
 |.bad p e=>.bad p e
 |.ok t r1=>
  match opM ((ay r1).headD 0)with
  |some k=>.ok (.mk (6+(k:Nat)) 0 [t]) (ay r1).tail
  |none=>.ok t (ay r1)
def gF(c:UInt8):Bool:=aq c||decide (c=126)||decide (c=94)||decide (c=40)
def oneM(k:Int)(l:List Nd):Nd:=if l.length=1 then nth l 0 else .mk k 0 l
def CD(al:Option (List UInt8->PR)):Nat->List Nd->List UInt8->PR
 |0,acc,r=>.ok (oneM 4 acc) r
 |n+1,acc,r=>
  if gF ((ay r).headD 0)=true then
   match Ig al (ay r)with
   |.bad p e=>.bad p e
   |.ok t r2=>CD al n (acc++[t]) r2
  else .ok (oneM 4 acc) (ay r)
def L0(al:Option (List UInt8->PR))(r:List UInt8):PR:=
 match Ig al r with
 |.bad p e=>.bad p e
 |.ok t r1=>CD al (r1.length+1) [t] r1
def AS(al:Option (List UInt8->PR)):Nat->List Nd->List UInt8->PR
 |0,acc,r=>.ok (oneM 5 acc) r
 |n+1,acc,r=>
  if(ay r).headD 0=124 then
   match L0 al (ay r).tail with
   |.bad p e=>.bad p e
   |.ok t r2=>AS al n (acc++[t]) r2
  else .ok (oneM 5 acc) (ay r)
def KP(al:Option (List UInt8->PR))(r:List UInt8):PR:=
 match L0 al r with
 |.bad p e=>.bad p e
 |.ok t r1=>AS al (r1.length+1) [t] r1
def KO:Nat->List UInt8->PR
 |0=>KP none
 |d+1=>KP (some (KO d))
inductive XR where
 |ok (t:Nd)
 |bad (p:Nat) (e:Int)
def LC(l:List UInt8):XR:=
 if 4096<l.length then .bad 0 3 else
 match KO 20 l with
 |.bad p e=>.bad (l.length-p) e
 |.ok t r=>if(ay r).length≠0 then .bad (l.length-(ay r).length) 4 else if 2000<nsz t then .bad 0 3 else .ok t
def Good(r:List UInt8):PR->Prop
 |.ok _ r'=>r' <:+ r/\r'.length<r.length
 |.bad p e=>p<=r.length/\e≠0
def bt(r:List UInt8):ay r <:+ r:=MK _
def ed(r:List UInt8):(ay r).length<=r.length:=(bt r).length_le
def cF(h:r.headD 0≠0):r.tail <:+ r/\r.tail.length+1=r.length:=by
 cases r with
 |nil=>simp at h
 |cons a r=>exact⟨Nn a r,rfl⟩
def Good.mono{r':List UInt8}{x:PR}(h:Good r' x)(k:r' <:+ r):Good r x:=by
 have hl:=k.length_le
 cases x with
 |ok t q=>exact⟨h.1.J k,by have:=h.2;omega⟩
 |bad p e=>exact⟨Ng h.1 hl,h.2⟩
def kQ(h:aq (r.headD 0)=true):r.dropWhile aq <:+ r/\(r.dropWhile aq).length<r.length:=by
 cases r with
 |nil=>simp[aq]at h
 |cons a r=>
  simp only[List.headD_cons]at h;rw[Pg h];exact⟨(MK _).J (Nn a r),by have:=(MK (l:=r) aq).length_le;simp;omega⟩
def ql(k:Int)(r:List UInt8):Good r (ez k r):=by
 refine Good.mono ?_ (bt r);unfold ez
 split
 ·rename_i h
  split
  ·exact⟨Lr _,zd⟩
  exact kQ h
 exact⟨Lr _,zd⟩
def oL(al:Option (List UInt8->PR)):Prop:=∀f,al=some f->∀r,Good r (f r)
def qX{al:Option (List UInt8->PR)}(ha:oL al)(r:List UInt8)(h:r.headD 0≠0):Good r (cJ al r):=by
 obtain⟨h1,h2⟩:=cF h;unfold cJ
 cases al with
 |none=>exact⟨Lr _,zd⟩
 |some f=>
  have h3:=(ha f rfl r.tail).mono h1;have h4:=ha f rfl r.tail;dsimp only
  cases hf:f r.tail with
  |bad p e=>rw[hf]at h3;exact h3
  |ok t r2=>
   rw[hf]at h3 h4;dsimp only
   split
   ·rename_i hc;obtain⟨g1,g2⟩:=cF (r:=ay r2) (by rw[hc];decide);exact⟨(g1.J (bt r2)).J h3.1,by have:=ed r2;have:=h3.2;omega⟩
   exact⟨by have:=ed r2;have:=h3.2;omega,zd⟩
def If{c:UInt8}{k:Nat}(h:opM c=some k):c≠0:=λe=>by subst e;simp[opM]at h
def K2(r:List UInt8):PR->Prop
 |.ok _ r'=>r' <:+ r
 |.bad p e=>p<=r.length/\e≠0
end Go.Proofs.YtcfhbfflgnbacaaGreatDoor
end
namespace Go.VL
open Go.Proofs.Tryz
def Upd.priv{T:Nat}(h:Upd (λk=>k=j\/T<=k) O w O' w')(hT:∀b,O b<T)(hj:j≠0):Upd (λk=>k=j) O w O w':=
 h.fgt (λb hb=>hb.resolve_right (by have:=hT b;omega)) (λe=>hj e.symm)
def Upd.pj{T:Nat}(h:Upd (λk=>k=j) O w O' w')(hT:0<T):Upd (λk=>k=j\/T<=k) O w O' w':=
 h.mono (λ_ h=>.inl h) (λe=>by rcases e with e|e;exact h.z e;omega)
def Upd.pT{T U:Nat}(h:Upd (λk=>k=U) O w O' w')(hj:j≠0)(hT:0<T)(hU:T<=U):Upd (λk=>k=j\/T<=k) O w O' w':=
 h.mono (λ_ h=>.inr (by rw[h];exact hU)) (λe=>by rcases e with e|e;exact hj e.symm;omega)
def kI{T:Nat}(O:Nat->Nat)(h:Ext w w')(hj:j≠0)(hT:0<T):Upd (λk=>k=j\/T<=k) O w O w':=
 aa (λe=>by rcases e with e|e;exact hj e.symm;omega) O h
def rdr(kv:ix)(l:List UInt8)(a op a0 e:Int):Array ix:=#[.string (bs l),nI a,kv,nI op,nI a0,nI e]
variable{kv:ix}
def BlkO.rAt{a:Int}(h:BlkO O w j rb (rdr kv l a op a0 e) E)(a':Int):BlkO O (w.setCell ⟨rb,1,none⟩ (nI a')) j rb (rdr kv l a' op a0 e) E:=h.set 1 _
def BlkO.rOp{a:Int}(h:BlkO O w j rb (rdr kv l a op a0 e) E)(a':Int):BlkO O (w.setCell ⟨rb,3,none⟩ (nI a')) j rb (rdr kv l a a' a0 e) E:=h.set 3 _
def BlkO.rBad{a:Int}(h:BlkO O w j rb (rdr kv l a op a0 e) E)(a':Int):BlkO O (w.setCell ⟨rb,4,none⟩ (nI a')) j rb (rdr kv l a op a' e) E:=h.set 4 _
def BlkO.rE{a:Int}(h:BlkO O w j rb (rdr kv l a op a0 e) E)(a':Int):BlkO O (w.setCell ⟨rb,5,none⟩ (nI a')) j rb (rdr kv l a op a0 a') E:=h.set 5 _
def BlkO.r0{a:Int}(h:BlkO O w j rb (rdr kv l a op a0 e) E):w.cell? ⟨rb,0,none⟩=some (.string (bs l)):=h.cell 0 rfl
def BlkO.r1{a:Int}(h:BlkO O w j rb (rdr kv l a op a0 e) E):w.cell? ⟨rb,1,none⟩=some (nI a):=h.cell 1 rfl
def BlkO.r2{a:Int}(h:BlkO O w j rb (rdr kv l a op a0 e) E):w.cell? ⟨rb,2,none⟩=some kv:=h.cell 2 rfl
def BlkO.r3{a:Int}(h:BlkO O w j rb (rdr kv l a op a0 e) E):w.cell? ⟨rb,3,none⟩=some (nI op):=h.cell 3 rfl
def BlkO.r4{a:Int}(h:BlkO O w j rb (rdr kv l a op a0 e) E):w.cell? ⟨rb,4,none⟩=some (nI a0):=h.cell 4 rfl
def BlkO.r5{a:Int}(h:BlkO O w j rb (rdr kv l a op a0 e) E):w.cell? ⟨rb,5,none⟩=some (nI e):=h.cell 5 rfl
end Go.VL
namespace Go.Proofs.YtcfhbfflgnbacaaGreatDoor
open Go.Proofs.Tryz
open Go.VL Go.Proofs
set_option maxRecDepth 10000
abbrev Rdr(kv:ix)(O:Nat->Nat)(w:ka)(j rb:Nat)(l:List UInt8)(a op a0 e:Int):Prop:=BlkO O w j rb (rdr kv l a op a0 e) 251
variable{kv:ix}
def ph{b:UInt8}(h:(b::r) <:+ l):l[l.length-(r.length+1)]? = some b:=by
 obtain⟨p,rfl⟩:=h;rw[Pf (by simp)];simp
def Cy{b:List UInt8}(h:(a++b) <:+ l):(l.take (l.length-b.length)).drop (l.length-(a++b).length)=a:=by
 obtain⟨p,rfl⟩:=h;rw[<-NQ,List.take_left' (by simp;omega),List.drop_left' (by simp)]
def qn(b:UInt8)(k:Nat)(hk:k<256):((b.toNat:Int)==(k:Int))=decide (b=Pw k):=by
 by_cases h:b=Pw k
 ·subst h;simp;omega
 have:b.toNat≠k:=λe=>h (by rw[<-e];simp)
 simp[h];omega
def jT(c:UInt8)(w:ka):Ret Lk 213 [.int .u8 (c.toNat:Int)] w λv w'=>v=.bool (aq c)/\w'=w:=by
 apply Ret.enter func213 ntmps213 rfl rfl;refine zh ?_
 by_cases h1:65<=c.toNat
 ·apply ax (d:=5) rfl (b':=true) (decide_eq_true zo);refine zh ?_
  by_cases h2:c.toNat<=90
  ·apply ax (d:=9) rfl (b':=true) (decide_eq_true zo);refine zh ?_
   refine af rfl rfl ⟨by simp[aq,h1,h2],rfl⟩
  apply ax (d:=9) rfl (b':=false) (decide_eq_false zo);refine zh ?_
  by_cases h3:97<=c.toNat
  ·apply ax (d:=12) rfl (b':=true) (decide_eq_true zo);refine zh ?_
   have e:decide ((c.toNat:Int)<=122)=decide (c.toNat<=122):=decide_eq_decide.2 zo;refine af rfl rfl ⟨by rw[e];simp[aq,h1,h2,h3],rfl⟩
  apply ax (d:=12) rfl (b':=false) (decide_eq_false zo);refine zh ?_
  refine af rfl rfl ⟨by simp[aq,h1,h2,h3],rfl⟩
 apply ax (d:=5) rfl (b':=false) (decide_eq_false zo);refine zh ?_
 apply ax (d:=12) rfl (b':=false) (decide_eq_false zo);refine zh ?_
 have h3:¬97<=c.toNat:=zo;refine af rfl rfl ⟨by simp[aq,h1,h3],rfl⟩
def BW(O:Nat->Nat)(w:ka)(j rb:Nat)(l r:List UInt8)(op a4 e:Int)(hj:j≠0)(hr:r <:+ l)(hl:l.length<=100000)(h:Rdr kv O w j rb l ((l.length:Int)-(r.length:Int)) op a4 e):
  Ret Lk 179 [nP rb] w fun _ w'=>Rdr kv O w' j rb l ((l.length:Int)-((ay r).length:Int)) op a4 e/\Upd (fun k=>k=j) O w O w':=by
 have hz:¬(fun k:Nat=>k=j) 0:=fun e=>hj e.symm
 refine Ret.enter func179 ntmps179 rfl rfl ?_;refine zh ?_
 refine zlp (fun x:List UInt8×ka=>[(0,nP rb)]) (fun x=>x.2) (fun x=>x.1 <:+ l/\ay x.1=ay r/\Rdr kv O x.2 j rb l ((l.length:Int)-(x.1.length:Int)) op a4 e/\Upd (fun k=>k=j) O w O x.2) (fun x=>x.1.length) (r,w) (⟨hr,rfl,h,Upd.refl hz _ _⟩) ?_;rintro⟨r1,w1⟩ ⟨a2,a1,a5,a3⟩;dsimp only at a2 a1 a5 a3 ⊢;have a0:=a5.drew;have a7:=a2.length_le;refine zh ?_
 refine WC.still zk zk ?_;refine zh ?_
 refine zwH (RV.ld a0.r1 rfl) ?_;refine zw (RV.ld a0.r0 rfl) ?_
 refine zwH (cK MZ rfl) ?_
 cases r1 with
 |nil=>
  refine cg (d:=12) rfl (b':=false) (decide_eq_false (by simp)) ?_;refine zh ?_
  refine zw (bE rfl rfl) ?_;refine WS.nil ?_
  refine zh ?_;refine zFH rfl rfl ?_
  refine aP rfl (⟨by rw[<-a1];exact a0,a3.drew⟩)
 |cons b r2=>
  simp only[M5]at a7 a0;refine cg (d:=12) rfl (b':=true) (decide_eq_true (by simp only[M5];omega)) ?_;refine zh ?_;refine zwH (RV.ld a0.r0 rfl) ?_;refine zwH (RV.ld a0.r1 rfl) ?_;refine zwH (bA (c:=b) MZ rfl rfl (l.length-(r2.length+1)) zo (ph a2)) ?_;refine zw (aX rfl rfl) ?_;refine WS.nil ?_;refine zh ?_;refine zC ?_ ?_
  ·intro hb;replace hb:b=32:=by rw[show(32:Int)=((32:Nat):Int)from rfl,qn b 32 zd]at hb;simpa using hb
   subst hb;refine zh ?_;refine zvH (RV.ld a0.r1 rfl) ?_;refine aj (j:=1) a0 rfl (M0 _) rfl rfl rfl rfl ?_;rw[show((l.length:Int)-((r2.length+1:Nat):Int))+1=(l.length:Int)-(r2.length:Int)from by omega];have a8:=a0.rAt ((l.length:Int)-(r2.length:Int));have a9:Upd (fun k=>k=j) O w1.drew O (w1.drew.setCell ⟨rb,1,none⟩ (nI ((l.length:Int)-(r2.length:Int)))):=Upd.set hz a0.tag rfl;refine zh ?_;refine zx (r2,w1.drew.setCell ⟨rb,1,none⟩ (nI ((l.length:Int)-(r2.length:Int)))) (⟨(Nn _ _).J a2,by rw[<-a1];simp[ay],a8,a3.drew.J a9⟩) (by dsimp only;simp)
  intro hb;replace hb:b≠32:=by rw[show(32:Int)=((32:Nat):Int)from rfl,qn b 32 zd]at hb;simpa using hb
  have a6:ay (b::r2)=b::r2:=by simp[ay,hb]
  refine zh ?_;refine aP rfl (⟨by rw[<-a1,a6];exact a0,a3.drew⟩)
def AB(hr:r <:+ l)(h:r≠[]):l[l.length-r.length]? = some (r.headD 0):=by
 cases r with
 |nil=>exact absurd rfl h
 |cons b r=>exact ph hr
def ir(O:Nat → Nat)(w:ka)(j rb:Nat)(l r:List UInt8)(op bad e:Int)(hj:j ≠ 0)(hr:r <:+ l)(hl:l.length ≤ 100000)(h:Rdr kv O w j rb l ((l.length:Int) - (r.length:Int)) op bad e):
    Ret Lk 164 [.pointer (some ⟨rb, 0, none⟩)] w fun v w' => v = .int .u8 (((ay r).headD 0).toNat:Int) ∧ Rdr kv O w' j rb l ((l.length:Int) - ((ay r).length:Int)) op bad e ∧ Upd (fun k => k = j) O w O w' := by
  refine Ret.enter func164 ntmps164 rfl rfl ?_
  refine zh ?_
  refine zc call179 (BW O w j rb l r op bad e hj hr hl h) ?_
  rintro v w1 ⟨hb1, hU1⟩
  have hs := (bt r).J hr
  have hsl := hs.length_le
  generalize ay r = q at *
  have hb2 := hb1.drew
  refine zh ?_
  refine WC.still (by kernel_rfl) (by kernel_rfl) ?_
  refine zh ?_
  refine zwH (RV.ld hb2.r1 rfl) ?_
  refine zw (RV.ld hb2.r0 rfl) ?_
  refine zwH (cK MZ rfl) ?_
  refine WS.nil ?_
  refine zh ?_
  refine zC ?_ ?_
  · intro he
    replace he : q = [] := List.eq_nil_of_length_eq_zero (by have : (l.length : Int) - (q.length : Int) = l.length := by simpa using he
                                                             omega)
    subst he
    refine zh ?_
    refine af rfl rfl (⟨rfl, hb2, hU1.drew⟩)
  · intro he
    replace he:q ≠ [] := fun e => by subst e; simp at he
    have hb3 := hb2.drew
    refine zh ?_
    refine WC.still (by kernel_rfl) (by kernel_rfl) ?_
    refine zh ?_
    refine zwH (RV.ld hb3.r0 rfl) ?_
    refine zw (RV.ld hb3.r1 rfl) ?_
    refine zwH (bA (c := q.headD 0) MZ rfl rfl (l.length - q.length) (by omega) (AB hs he)) ?_
    refine WS.nil ?_
    refine zh ?_
    refine af rfl rfl (⟨rfl, hb3, hU1.drew.drew⟩)
def Al(O:Nat->Nat)(w:ka)(j rb:Nat)(l r:List UInt8)(op a6 e:Int)(hj:j≠0)(hr:r <:+ l)(hl:l.length<=100000)(h:Rdr kv O w j rb l ((l.length:Int)-(r.length:Int)) op a6 e):
  Ret Lk 220 [nP rb] w fun v w'=>v=.string (bs (r.takeWhile aq))/\Rdr kv O w' j rb l ((l.length:Int)-((r.dropWhile aq).length:Int)) op a6 e/\Upd (fun k=>k=j) O w O w':=by
 have hz:¬(fun k:Nat=>k=j) 0:=fun e=>hj e.symm
 refine Ret.enter func220 ntmps220 rfl rfl ?_;refine zh ?_
 refine zvH (RV.ld h.r1 rfl) ?_;refine zlp (fun x:List UInt8×ka=>[(0,nP rb),(3,nI ((l.length:Int)-(r.length:Int)))]) (fun x=>x.2) (fun x=>x.1 <:+ l/\x.1.dropWhile aq=r.dropWhile aq/\Rdr kv O x.2 j rb l ((l.length:Int)-(x.1.length:Int)) op a6 e/\Upd (fun k=>k=j) O w O x.2) (fun x=>x.1.length) (r,w) (⟨hr,rfl,h,Upd.refl hz _ _⟩) ?_
 rintro⟨r1,w1⟩ ⟨a4,a3,a7,a5⟩;dsimp only at a4 a3 a7 a5 ⊢;have a0:=a7.drew;have a':=a4.length_le;have a9:=hr.length_le;have a2:r1=r.dropWhile aq->(l.take (l.length-r1.length)).drop (l.length-r.length)=r.takeWhile aq:=fun e=>by
  have:=Cy (l:=l) (a:=r.takeWhile aq) (b:=r.dropWhile aq) (by rw[NT];exact hr);rw[NT,<-e]at this;exact this
 have b0:r1.length<=r.length\/r1≠r.dropWhile aq:=by
  by_cases e:r1=r.dropWhile aq
  ·left;rw[e];exact(MK _).length_le
  right;exact e
 refine zh ?_;refine WC.still zk zk ?_
 refine zh ?_;refine zwH (RV.ld a0.r1 rfl) ?_
 refine zw (RV.ld a0.r0 rfl) ?_;refine zwH (cK MZ rfl) ?_
 cases r1 with
 |nil=>
  have a1:=a0.drew;have hd:[]=r.dropWhile aq:=by rw[<-a3];rfl
  have h1:=a2 hd;refine cg (d:=18) rfl (b':=false) (decide_eq_false (by simp)) ?_;refine zh ?_;refine zw (bE rfl rfl) ?_;refine WS.nil ?_;refine zh ?_;refine zFH rfl rfl ?_;refine WC.still zk zk ?_;refine zh ?_;refine zwH (RV.ld a1.r0 rfl) ?_;refine zw (RV.ld a1.r1 rfl) ?_;refine zwH (dH MZ rfl rfl rfl (l.length-r.length) (l.length-0) zo (by simp) zo zo) ?_;refine WS.nil ?_;refine zh ?_;simp only[Qj]at h1;refine af rfl rfl (⟨by rw[h1],by rw[<-hd];exact a1,a5.drew.drew⟩)
 |cons b r2=>
  simp only[M5]at a' a0;refine cg (d:=18) rfl (b':=true) (decide_eq_true (by simp only[M5];omega)) ?_;refine zh ?_;refine zwH (RV.ld a0.r0 rfl) ?_;refine zwH (RV.ld a0.r1 rfl) ?_;refine zwH (bA (c:=b) MZ rfl rfl (l.length-(r2.length+1)) zo (ph a4)) ?_;refine WS.call call213 rfl (jT b w1.drew) rfl ?_;refine zw (aX rfl rfl) ?_;refine WS.nil ?_;refine zh ?_;refine zC ?_ ?_
  ·intro hb;replace hb:aq b=true:=hb;refine zh ?_;refine zvH (RV.ld a0.r1 rfl) ?_;refine aj (j:=1) a0 rfl (M0 _) rfl rfl rfl rfl ?_;rw[show((l.length:Int)-((r2.length+1:Nat):Int))+1=(l.length:Int)-(r2.length:Int)from by omega];have a1:=a0.rAt ((l.length:Int)-(r2.length:Int));have b1:Upd (fun k=>k=j) O w1.drew O (w1.drew.setCell ⟨rb,1,none⟩ (nI ((l.length:Int)-(r2.length:Int)))):=Upd.set hz a0.tag rfl;refine zh ?_;refine zx (r2,w1.drew.setCell ⟨rb,1,none⟩ (nI ((l.length:Int)-(r2.length:Int)))) (⟨(Nn _ _).J a4,by rw[<-a3,Pg hb],a1,a5.drew.J b1⟩) (by dsimp only;simp)
  intro hb;replace hb:aq b=false:=hb;have a8:(b::r2).dropWhile aq=b::r2:=List.dropWhile_cons_of_neg (by rw[hb];decide);have hd:b::r2=r.dropWhile aq:=by rw[<-a3,a8]
  have h1:=a2 hd;have h2:=b0.resolve_right (fun e=>e hd);simp only[M5]at h1 h2;have a1:=a0.drew;refine zh ?_;refine WC.still zk zk ?_;refine zh ?_;refine zwH (RV.ld a1.r0 rfl) ?_;refine zw (RV.ld a1.r1 rfl) ?_;refine zwH (dH MZ rfl rfl rfl (l.length-r.length) (l.length-(r2.length+1)) zo zo zo zo) ?_;refine WS.nil ?_;refine zh ?_;refine af rfl rfl (⟨by rw[h1],by rw[<-hd];exact a1,a5.drew.drew⟩)
def Ab:cC Lk 75 #[(0,1),(1,1),(2,1)]:=⟨_,P2,λw=>by kernel_rfl⟩
def iF(B:Nat)(O:Nat->Nat)(w:ka)(j rb:Nat)(l:List UInt8)(a op b3 p e:Int)(hj:j≠0)(hR:Rng B O w)(h:Rdr kv O w j rb l a op b3 0):
  Ret Lk 165 [nP rb,nI p,nI e] w λv w'=>v=.agg #[nI 0,nI 0,nS]/\Rdr kv O w' j rb l a op p e/\Upd (λk=>k=j) O w O w':=by
 obtain⟨T,a4,hT⟩:=hR.bound;have b4:j<T:=by rw[<-h.tag];exact hT rb
 apply Ret.enter func165 ntmps165 rfl rfl;refine zh ?_
 apply au hR T zo (MP _) rfl;intro xb w1 O1 a8 a6 b5 b6;have a1:=h.U a6 hj zo;refine zh ?_
 refine zvH (RV.ld a1.r5 rfl) ?_;refine zTH rfl rfl ?_
 apply aj (j:=4) a1 rfl (M0 _) rfl rfl rfl rfl;have a3:=a1.rBad p;have b2:Upd (λk=>k=j) O1 w1 O1 (w1.setCell ⟨rb,4,none⟩ (nI p)):=Upd.set (λe=>hj e.symm) a1.tag rfl;refine zh ?_
 apply aj (j:=5) a3 rfl (QM _) rfl rfl rfl rfl;have a':=a3.rE e;have b1:Upd (λk=>k=j) O1 (w1.setCell ⟨rb,4,none⟩ (nI p)) O1 ((w1.setCell ⟨rb,4,none⟩ (nI p)).setCell ⟨rb,5,none⟩ (nI e)):=Upd.set (λe=>hj e.symm) a3.tag rfl;have a0:=b2.J b1;have a2:=a8.U a0 zo zo;generalize (w1.setCell ⟨rb,4,none⟩ (nI p)).setCell ⟨rb,5,none⟩ (nI e)=w3 at *;refine zh ?_
 apply zv (aH Ab (MP _) rfl (by first|rfl|(simp only[N7,Pr];rfl)) rfl rfl);apply zsa (us:=#[nI 0,nI 0,nS]) a2 (LU _)
 have a7:=a2.setRow (us:=#[nI 0,nI 0,nS]);have a5:Upd (λk=>k=T) O1 w3 O1 (w3.setRow xb #[nI 0,nI 0,nS]):=Upd.setRow zo a2.tag rfl;have a9:=a'.U a5 hj zo;have b0:=((a6.pT hj a4 (Lr _)).J (a0.pj a4)).J (a5.pT hj a4 (Lr _));refine zh ?_;refine aO rfl rfl a7.V (MW _) (LU _) ⟨rfl,a9.fgt h.tag,b0.priv hT hj⟩
end Go.Proofs.YtcfhbfflgnbacaaGreatDoor
namespace Go.Proofs.YtcfhbfflgnbacaaGreatDoor
open Go.Proofs.Tryz
section
open Go.VL Go.Proofs
set_option maxRecDepth 10000
def uw(l:List UInt8)(c:UInt8):Int:=match l.findIdx? (· == c)with|some i=>(i:Nat)|none=>-1
def yT(l:List UInt8)(c:UInt8):firstIdx (bs l) c=uw l c:=by
 have a0:∀i,i<l.length->(bs l)[i]! = nth l i:=λi hi=>by
  rw[aB hi,getElem!_pos (bs l) i (by rw[dN];exact hi)];show l.toArray[i]=l[i];simp
 unfold firstIdx uw;rw[dN]
 cases hf:l.findIdx? (· == c)with
 |none=>
  have h:=Ph.1 hf;have:(MN l.length).find? (λi=>(bs l)[i]! == c)=none:=by
   rw[NI];intro i hi;have a1:i<l.length:=by simpa using hi
   rw[a0 i a1,aB a1,h _ (N1 a1)];decide
  rw[this]
 |some i=>
  obtain⟨hi,h1,h2⟩:=NL.1 hf;have:(MN l.length).find? (λi=>(bs l)[i]! == c)=some i:=by
   rw[List.find?_eq_some_iff_getElem];refine⟨by rw[a0 i hi,aB hi];exact h1,i,by simpa using hi,by simp,λj hj=>?_⟩;have:=h2 j hj;simp only[PQ];rw[a0 j zo,aB zo];simpa using this
  rw[this]
def qU(l:List UInt8)(c:UInt8)(w:ka):(callFunc 140 #[.string (bs l),.int .u8 (c.toNat:Int)]).run Lk w=.ok (.value (nI (uw l c))) w:=by
 rw[run_callFunc_extern func140 zk zk zk (e:=PA) zk,run_indexByte_string,yT];simp[Result.andThen]
def sW(l:List UInt8)(c:UInt8)(w:ka):Ret Lk 113 [.string (bs l),.int .u8 (c.toNat:Int)] w λv w'=>v=nI (uw l c)/\w'=w:=by
 apply Ret.enter func113 ntmps113 rfl rfl;refine zh ?_
 refine zvH (RV.ext (vs:=[.string (bs l),.int .u8 (c.toNat:Int)]) (qU l c w) rfl) ?_;refine af rfl rfl ⟨rfl,rfl⟩
def ej(l:List UInt8)(c:UInt8)(w:ka):Ret Lk 79 [.string (bs l),.int .u8 (c.toNat:Int)] w λv w'=>v=nI (uw l c)/\w'=w:=by
 apply Ret.enter func79 ntmps79 rfl rfl;refine zh ?_
 apply zc call113 (sW l c w);rintro v _ ⟨rfl,rfl⟩;refine zh ?_
 refine af rfl rfl ⟨rfl,rfl⟩
@[simp] def encS(x:List UInt8):List ix:=[.string (bs x)]
def Kz(l:List (List UInt8))(s:List UInt8):Int:=match l.findIdx? (· == s)with|some i=>(i:Nat)|none=>-1
def oj(l:List (List UInt8))(s:List UInt8)(sv:ix)(w:ka)(h:Sl encS 1 w sv l):Ret Lk 168 [sv,.string (bs s)] w fun v w'=>v=nI (Kz l s)/\w'=w:=by
 have hl:=h.len_le;refine Ret.enter func168 ntmps168 rfl rfl ?_;refine zh ?_;refine zlp (fun x:Nat=>[(0,sv),(1,.string (bs s)),(7,nI l.length),(8,nI x)]) (fun x=>w) (fun x=>x<=l.length/\∀i,i<x->(nth l i==s)=false) (fun x=>l.length-x) 0 (⟨MC _,fun i hi=>absurd hi (P5 i)⟩) ?_;rintro k ⟨hk,a1⟩;refine zh ?_;refine zC ?_ ?_
 ·intro a0;replace a0:k<l.length:=dT a0;refine zh ?_;refine zv (RV.ld (h.ld (val:=fun x=>.string (bs x)) a0) rfl) ?_;refine zvH (dC rfl rfl) ?_;refine zC ?_ ?_
  ·intro hy;replace hy:s=nth l k:=by simpa using hy
   have hf:l.findIdx? (· == s)=some k:=NL.2 ⟨a0,by rw[<-aB a0,hy];simp,fun j hj=>by rw[<-aB zo,a1 j hj];decide⟩;refine zh ?_;refine af rfl rfl (⟨by unfold Kz;rw[hf],rfl⟩)
  intro hy;replace hy:(nth l k==s)=false:=by
   rw[Q7];intro e;rw[eq_of_beq e]at hy;simp at hy
  refine zh ?_;refine zxd (k+1) (⟨a0,fun i hi=>(Pm.1 hi).elim (a1 i) (fun e=>by rw[e];exact hy)⟩)
 intro a2;replace a2:l.length<=k:=dF a2;have hf:l.findIdx? (· == s)=none:=Ph.2 fun x hx=>by
  obtain⟨j,hj,rfl⟩:=cd hx;exact a1 j zo
 refine zh ?_;refine af rfl rfl (⟨by unfold Kz;rw[hf],rfl⟩)
def jf:Array ix:=(namesL.map λs=>NJ (bs s)).toArray
def yA{b:Nat}(h:BlkO O w j b jf 256):Sl encS 1 w (.slice (some ⟨b,0,none⟩) 36 36) namesL:=by
 refine⟨⟨_,36,rfl,Lr _,zd,λ_=>⟨_,_,rfl⟩⟩,λi hi j u hu=>?_⟩;obtain rfl:j=0:=by
  have:=(Lz.1 hu).1;simpa using this
 have a0:NJ (bs namesL[i])=u:=by simpa using hu
 have:=h.cell i (u:=u) (by rw[<-a0];unfold jf;simp[hi]);have e:((adr (.slice (some ⟨b,0,none⟩) 36 36) 1 i).add 0)=⟨b,i,none⟩:=by simp[adr,M9]
 exact(congrArg w.cell? e).J this
def C9(w:ka):Ret Lk 167 [] w λv w'=>v=.agg jf/\Ext w w':=by
 apply Ret.enter func167 ntmps167 rfl rfl;refine zh ?_
 apply au (aw w) 1 zo (PU _) rfl;intro xb w1 O1 a0 a2 a4 a5;refine zh ?_
 apply zv (eJ (cells:=jf) QO (Pp _) (PU _) rfl zk);apply bQ (us:=jf) a0 zk (QD _) zk rfl rfl rfl
 have a1:=a0.setRow (us:=jf);have a3:Ext w (w1.setRow xb jf):=(a2.J (Upd.setRow zd a0.tag rfl)).ext;refine zh ?_;refine aO rfl rfl a1.V (isAgg256 _) (QD _) ⟨rfl,a3⟩
def Ih(s:List UInt8):Int:=match C4 s with|some c=>(c:Nat)|none=>0
def jS(s:List UInt8)(w:ka):Ret Lk 144 [.string (bs s)] w λv w'=>v=.tuple #[nI (Ih s),.bool (C4 s).isSome]/\Ext w w':=by
 apply Ret.enter func144 ntmps144 rfl rfl;refine zh ?_
 apply zc call167 (C9 w);rintro v w1 ⟨rfl,a5⟩;apply au (aw w1) 1 zo (PU _) rfl
 intro xb w2 O2 a0 a3 a6 a7;apply bQ (us:=jf) a0 zk (QD _) zk rfl rfl rfl;have a1:=a0.setRow (us:=jf);have a4:Ext w1 (w2.setRow xb jf):=(a3.J (Upd.setRow zd a0.tag rfl)).ext;have a2:=yA a1;generalize w2.setRow xb jf=w3 at *;refine zh ?_;refine zvH (zF QO (Pp _) zd rfl) ?_;apply zc call168 (oj namesL s _ w3 a2);rintro v _ ⟨rfl,rfl⟩;refine zh ?_;refine zvH (fY rfl rfl) ?_;have h:Kz namesL s=match C4 s with|some c=>(c:Nat)|none=>-1:=rfl
 refine cj rfl rfl rfl ⟨?_,a5.J a4⟩;rw[h];unfold Ih
 cases C4 s with
 |none=>rfl
 |some c=>simp
def nv(x:N3):ix:=.agg #[nI x.1,nI x.2.1,x.2.2]
def PostE(kv:ix)(O:Nat->Nat)(w:ka)(j rb:Nat)(l:List UInt8)(op:Int)(x:N3):PR->Prop
 |.ok t r=>Rdr kv O w j rb l ((l.length:Int)-(r.length:Int)) op 0 0/\Nt O w t x
 |.bad p e=>x.2.2.oneCell'=true/\∃a op',Rdr kv O w j rb l a op' ((l.length:Int)-(p:Int)) e/\0<=a/\a<=l.length+20-op/\op<=op'/\op'<=20
abbrev M3:=List UInt8×N3
def mT(m:M3):List ix:=[.string (bs m.1),nI m.2.1,nI m.2.2.1,m.2.2.2]
abbrev Kn:=List (List UInt8×Nd)
def KnownM(O:Nat->Nat)(w:ka)(kv:ix)(kn:Kn)(ms:List M3):Prop:=
 Sl mT 4 w kv ms/\Free O w kv/\kn.length=ms.length/\∀i,i<ms.length->(nth kn i).1=(nth ms i).1/\Nt O w (nth kn i).2 (nth ms i).2
def Known(O:Nat->Nat)(w:ka)(kv:ix)(kn:Kn):Prop:=∃ms:List M3,KnownM O w kv kn ms
def KnownM.U{S:Nat->Prop}{O O':Nat->Nat}{w w':ka}{kv:ix}{kn:Kn}{ms:List M3}(h:KnownM O w kv kn ms)(u:Upd S O w O' w'):KnownM O' w' kv kn ms:=by
 obtain⟨h1,h2,h3,h4⟩:=h;exact⟨h1.U h2 u,h2.U u,h3,λi hi=>⟨(h4 i hi).1,(h4 i hi).2.U u⟩⟩
def Known.U{S:Nat->Prop}{O O':Nat->Nat}{w w':ka}{kv:ix}{kn:Kn}(h:Known O w kv kn)(u:Upd S O w O' w'):Known O' w' kv kn:=by
 obtain⟨ms,h⟩:=h;exact⟨ms,h.U u⟩
def sl0[Inhabited α](w:ka):Sl enc sz w nS ([]:List α):=⟨⟨none,0,rfl,Lr _,zo,λh=>absurd rfl h⟩,λi hi=>absurd hi (by simp)⟩
variable{kv:ix}{kn:Kn}
def cH{x:N3}(h:x.2.2.oneCell'=true):(#[nI x.1,nI x.2.1,x.2.2]:Array ix).toList.all Mz=true:=by
 simp only[N7,h];rfl
def elN:Elem Lk 73 75 3 40:=⟨PW,by kernel_rfl,zd⟩
def gD{x:N3}(h:x.2.2.oneCell'=true):∀c∈aY x,c.oneCell'=true:=λc hc=>by
 simp at hc
 rcases hc with rfl|rfl|rfl
 ·rfl
 ·rfl
 exact h
def Reads(kv:ix)(kn:Kn)(F:Nat)(ex:List ix)(op:Int)(M:List UInt8->PR)(Pre:List UInt8->Prop):Prop:=
 ∀(B:Nat) (O:Nat->Nat) (j rb:Nat) (l r:List UInt8) (w:ka),Rng B O w->j≠0->r <:+ l->l.length<=4096->Pre r->Rdr kv O w j rb l ((l.length:Int)-(r.length:Int)) op 0 0->Known O w kv kn->
  Ret Lk F (nP rb::ex) w λv w'=>∃x,v=nv x/\Upd (λk=>k=j) O w O w'/\PostE kv O w' j rb l op x (M r)
def xj(kind op:Int)(d1:0<=op/\op<=20):Reads kv kn 218 [nI kind] op (ez kind) (λ_=>True):=by
 intro B O j rb l r w hR hj hr hl _ h _;obtain⟨T,a0,hT⟩:=hR.bound;have d2:j<T:=by rw[<-h.tag];exact hT rb
 have hq:=(bt r).J hr;have d0:=hq.length_le;apply Ret.enter func218 ntmps218 rfl rfl;refine zh ?_;apply au hR T zo (MP _) rfl;intro xb w1 O1 b' b5 c' d3;have c7:=h.U b5 hj zo;refine zh ?_;apply zc call164 (ir O1 w1 j rb l r op 0 0 hj hr zo c7);rintro v w2 ⟨rfl,a6,b0⟩;have b1:=b'.U b0 zo zo;have b6:=c'.U b0;have b3:=(b5.pT hj a0 (Lr _)).J (b0.pj a0);apply zc call213 (jT ((ay r).headD 0) w2);rintro v _ ⟨rfl,rfl⟩;refine zh ?_
 cases hc:aq ((ay r).headD 0)with
 |false=>
  have hM:ez kind r=.bad (ay r).length 4:=by unfold ez;rw[am (by rw[hc];decide)]
  refine zTH rfl rfl ?_;apply zv (RV.ld a6.r1 rfl)
  apply zc call165 (iF _ O1 _ j rb l _ _ 0 ((l.length:Int)-((ay r).length:Int)) 4 hj b6 a6);rintro v wf ⟨rfl,a8,a4⟩;have a1:=b1.U a4 zo zo;apply zsa (us:=#[nI 0,nI 0,nS]) a1 (LU _)
  have a7:=a1.setRow (us:=#[nI 0,nI 0,nS]);have a3:Upd (λk=>k=T) O1 wf O1 (wf.setRow xb #[nI 0,nI 0,nS]):=Upd.setRow zo a1.tag rfl;have hbg:=a8.U a3 hj zo;refine zh ?_;refine aO rfl rfl a7.V (MW _) (LU _) ⟨(0,0,nS),rfl,((b3.J (a4.pj a0)).J (a3.pT hj a0 (Lr _))).priv hT hj,?_⟩;rw[hM];exact⟨rfl,_,op,hbg.fgt h.tag,zo,zo,zo,zo⟩
 |true=>
  refine zFH rfl rfl ?_;refine zvH (RV.ld a6.r1 rfl) ?_
  apply zc call220 (Al O1 _ j rb l (ay r) op 0 0 hj hq zo a6);rintro v w3 ⟨rfl,c6,a'⟩;have b9:=b1.U a' zo zo;have c9:=b6.U a';apply zc call144 (jS ((ay r).takeWhile aq) w3)
  rintro v w4 ⟨rfl,b7⟩;have a9:Upd (λ_=>False) O1 w3 O1 w4:=aa (λh=>h) O1 b7;have b2:=c6.U a9 hj (λh=>h);have a5:=b9.U a9 zo (λh=>h);have c8:=c9.U a9;have a2:=(b3.J (a'.pj a0)).J (kI O1 b7 hj a0);refine zh ?_
  cases hn:C4 ((ay r).takeWhile aq)with
  |none=>
   have hM:ez kind r=.bad (ay r).length 5:=by unfold ez;rw[ap hc,hn]
   refine zTH rfl rfl ?_;apply zc call165 (iF _ O1 _ j rb l _ _ 0 ((l.length:Int)-((ay r).length:Int)) 5 hj c8 b2)
   rintro v wf ⟨rfl,a8,a4⟩;have a1:=a5.U a4 zo zo;apply zsa (us:=#[nI 0,nI 0,nS]) a1 (LU _);have a7:=a1.setRow (us:=#[nI 0,nI 0,nS]);have a3:Upd (λk=>k=T) O1 wf O1 (wf.setRow xb #[nI 0,nI 0,nS]):=Upd.setRow zo a1.tag rfl;have hbg:=a8.U a3 hj zo;refine zh ?_;refine aO rfl rfl a7.V (MW _) (LU _) ⟨(0,0,nS),rfl,((a2.J (a4.pj a0)).J (a3.pT hj a0 (Lr _))).priv hT hj,?_⟩;rw[hM];exact⟨rfl,_,op,hbg.fgt h.tag,by have:=(MK (l:=ay r) aq).length_le;omega,zo,zo,zo⟩
  |some c=>
   have hM:ez kind r=.ok (.mk kind (c:Nat) []) ((ay r).dropWhile aq):=by unfold ez;rw[ap hc,hn]
   have hv:Ih ((ay r).takeWhile aq)=(c:Nat):=by unfold Ih;rw[hn]
   rw[hv];refine zFH rfl rfl ?_;apply zv (aH Ab (MP _) rfl (by first|rfl|(simp only[N7,Pr];rfl)) rfl rfl);apply zsa (us:=#[nI kind,nI (c:Nat),nS]) a5 (LU _);have b8:=a5.setRow (us:=#[nI kind,nI (c:Nat),nS]);have b4:Upd (λk=>k=T) O1 w4 O1 (w4.setRow xb #[nI kind,nI (c:Nat),nS]):=Upd.setRow zo a5.tag rfl;have c5:=b2.U b4 hj zo;refine zh ?_;refine aO rfl rfl b8.V (MW _) (LU _) ⟨(kind,(c:Nat),nS),rfl,(a2.J (b4.pT hj a0 (Lr _))).priv hT hj,?_⟩;rw[hM];exact⟨c5.fgt h.tag,Nt.leaf _ _ _ _⟩
end
section
open Go.VL Go.Proofs
set_option maxRecDepth 10000
def sX:∀(n:Nat) (t:Nd),nsz t<=n->∀(x:N3) (w:ka) (eQ:Nat),Nt (fun _=>0) w t x->eQ<=1000000->Ret Lk 121 [nv x,nI (eQ:Int)] w fun v w'=>v=nI ((min (nsz t) (eQ+1):Nat):Int)/\Ext w w'
 |0,t,hn=>by have:=da t;omega
 |n+1,.mk k c kids,hn=>by
  intro x w eQ h hm;obtain⟨xs,hs,hf,hl,hk⟩:=h.kids;simp only[Nd.kids]at hl hk;have b9:=du kids;simp only[nsz]at hn ⊢;have b1:=hs.len_le;refine Ret.enter func121 ntmps121 rfl rfl ?_;refine zh ?_;refine aI (aw w) 1 zo rfl rfl ?_;intro xb w1 O1 a9 b' c6 a7;have b0:=hs.ext a7;refine zh ?_;refine zv (RV.ld (a9.cell 2 rfl) rfl) ?_;refine zv (RV.len (by first|exact b0) PW rfl) ?_;refine zv (RV.move rfl) ?_;refine WL.nil ?_;refine aF ?_;refine WC.block ?_;refine zlp (fun y:Nat×ka=>[(1,nI (eQ:Int)),(5,nI ((min (cM (kids.take y.1)+1) (eQ+1):Nat):Int)),(9,x.2.2),(10,nI xs.length),(11,nI y.1)]) (fun y=>y.2) (fun y=>y.1<=xs.length/\Ext w y.2) (fun y=>xs.length-y.1) (0,w1) (⟨MC _,a7⟩) ?_;rintro⟨i,w2⟩ ⟨hi,a0⟩;dsimp only at hi a0 ⊢;have a':=hs.ext a0;refine zh ?_;refine zC ?_ ?_
  ·intro a1;replace a1:i<xs.length:=dT a1;have b7:=di kids i zo;have b6:=bY kids (i+1);have a5:=(hk i a1).ext a0;have a8:=a5.one;have b8:=bK kids i zo;refine zh ?_;refine zv (ah (us:=aY (nth xs i)) (fun j u hu=>a'.cell a1 hu) (MW _) (LU _) rfl) ?_;refine au (aw w2) 1 zo (MP _) rfl ?_;intro kb w3 O3 a2 b4 c5 c7;refine zsb (us:=#[nI (nth xs i).1,nI (nth xs i).2.1,(nth xs i).2.2]) a2 (LU _) (cH a8) ?_;have b2:=a2.setRow (us:=#[nI (nth xs i).1,nI (nth xs i).2.1,(nth xs i).2.2]);have a3:Ext w2 (w3.setRow kb #[nI (nth xs i).1,nI (nth xs i).2.1,(nth xs i).2.2]):=(b4.J (Upd.setRow zd a2.tag rfl)).ext;generalize w3.setRow kb #[nI (nth xs i).1,nI (nth xs i).2.1,(nth xs i).2.2]=w4 at *;refine zh ?_;refine zC ?_ ?_
   ·intro a6;replace a6:eQ<cM (kids.take i)+1:=dT a6;refine zh ?_;refine af rfl rfl (⟨by congr 2;omega,a0.J a3⟩)
   intro a4;replace a4:cM (kids.take i)+1<=eQ:=dF a4;refine zh ?_;refine zvH (ah (us:=aY (nth xs i)) b2.V (MW _) (LU _) rfl) ?_;rw[show(eQ:Int)-((min (cM (kids.take i)+1) (eQ+1):Nat):Int)=((eQ-(cM (kids.take i)+1):Nat):Int)from by omega];refine zc call121 (sX n (nth kids i) zo (nth xs i) w4 (eQ-(cM (kids.take i)+1)) (a5.ext a3) zo) ?_;rintro v w5 ⟨rfl,b5⟩;refine zh ?_;rw[show((min (cM (kids.take i)+1) (eQ+1):Nat):Int)+((min (nsz (nth kids i)) (eQ-(cM (kids.take i)+1)+1):Nat):Int)=((min (cM (kids.take (i+1))+1) (eQ+1):Nat):Int)from by omega];refine zxd (i+1,w5) (⟨a1,(a0.J a3).J b5⟩)
  intro b3;obtain rfl:i=xs.length:=dF b3;refine zh ?_;refine af rfl rfl (⟨by rw[<-hl,Qb],a0⟩)
def aD(h:Upd S O w O' w')(hS:∀b,¬S (O b)):Ext w w':=⟨h.os,h.tape,h.output,h.size,λb hb=>h.blk b hb (hS b)⟩
def Nt.ones{t:Nd}{x:N3}(h:Nt O w t x):x=(t.kind,t.cls,x.2.2):=by cases h;rfl
def xi:∀(n:Nat),n<=1000000->∀(t:Nd),nsz t<=n->∀(B:Nat) (O:Nat->Nat) (x:N3) (w:ka),Rng B O w->Nt (λ_=>0) w t x->Ret Lk 166 [nv x] w λv w'=>∃y,v=nv y/\Nt O w' t y/\Ext w w'
 |0,_,t,hn=>by have:=da t;omega
 |n+1,hn6,.mk k c kids,hn=>by
  intro B O x w hR h;obtain⟨T,j5,hT⟩:=hR.bound;obtain⟨xs,hs,hf,hl,hk⟩:=h.kids;simp only[Nd.kids]at hl hk;obtain⟨x0,x1,sv⟩:=x;obtain rfl:k=x0:=(congrArg Qo h.ones).symm;obtain rfl:c=x1:=(congrArg (λq:N3=>q.2.1) h.ones).symm;dsimp only at hs hf;have j4:=du kids;simp only[nsz]at hn;have a5:¬(λq:Nat=>T<=q) 0:=λe=>zo
  apply Ret.enter func166 ntmps166 rfl rfl;refine zh ?_
  apply aI hR (T+1) zo rfl rfl;intro nb w1 O1 h7 i5 i' j8;apply au i' T zo (MP _) rfl
  intro xb w2 O2 h1 g8 i9 j7;have f':=h7.U g8 zo zo;have n0:w2.cell? (nA nb 0)=some (nI k):=f'.cell 0 rfl;have n1:w2.cell? (nA nb 1)=some (nI c):=f'.cell 1 rfl;refine zh ?_;apply zv (aH Ab (MP _) rfl (by first|rfl|(simp only[N7,Pr];rfl)) rfl rfl);apply au i9 (T+2) zo (MP _) rfl;intro ob w3 O3 f9 i4 i7 j6;apply zsa (us:=#[nI k,nI c,nS]) f9 (LU _);have h4:=f9.setRow (us:=#[nI k,nI c,nS]);have g7:Upd (λq=>q=T+2) O3 w3 O3 (w3.setRow ob #[nI k,nI c,nS]):=Upd.setRow zo f9.tag rfl;have d6:=i4.J g7;have i6:=i7.U g7;have h5:=f'.U d6 zo zo;have h0:=h1.U d6 zo zo;have e6:Upd (λq=>T<=q) O w O3 _:=((i5.mono (λ_ h=>by rw[h];omega) a5).J (g8.mono (λ_ h=>by rw[h];omega) a5)).J (d6.mono (λ_ h=>by rw[h];omega) a5);generalize w3.setRow ob #[nI k,nI c,nS]=w4 at *;have j0:=aD e6 (λb=>by have:=hT b;omega);have j2:=hs.ext j0;have n2:w4.cell? (nA nb 2)=some sv:=h5.cell 2 rfl;refine zh ?_
  apply zlp (λy:Nat×(Nat->Nat)×World×ix×List N3=>[(2,nP xb),(3,nP ob),(12,sv),(13,nI xs.length),(14,nI y.1)]) (λy=>y.2.2.1) (λy=>y.1<=xs.length/\BlkO y.2.1 y.2.2.1 T xb #[nI 0,nI 0,nS] 75/\BlkO y.2.1 y.2.2.1 (T+2) ob #[nI k,nI c,y.2.2.2.1] 75/\RowT aY 75 3 y.2.1 y.2.2.1 (T+3) y.2.2.2.1 y.2.2.2.2/\y.2.2.2.2.length=y.1/\(∀m,m<y.1->Nt y.2.1 y.2.2.1 (nth kids m) (nth y.2.2.2.2 m))/\Upd (λq=>T<=q) O w y.2.1 y.2.2.1/\Rng B y.2.1 y.2.2.1) (λy=>xs.length-y.1) (0,O3,w4,nS,[]) ⟨MC _,h0,h4,RowT.nil _ _ _ _ _ _,rfl,λm hm=>absurd hm (P5 m),e6,i6⟩;rintro⟨i,O1',f7,lv,zs⟩ ⟨hi,b2,d2,a',d0,f8,b',c5⟩;dsimp only at hi b2 d2 a' d0 f8 b' c5 ⊢;have e':=aD b' (λb=>by have:=hT b;omega);have h3:=hs.ext e';refine zh ?_
  refine zC ?_ ?_
  ·intro c9;replace c9:i<xs.length:=dT c9;have h9:=(hk i c9).ext e';have g9:=h9.one;have j3:=bK kids i zo;refine zh ?_;apply zv (ah (us:=aY (nth xs i)) (λj u hu=>h3.cell c9 hu) (MW _) (LU _) rfl);apply au c5 (T+4) zo (MP _) rfl;intro kb d9 O2' g1 g3 i8 j1;apply zsb (us:=#[nI (nth xs i).1,nI (nth xs i).2.1,(nth xs i).2.2]) g1 (LU _) (cH g9);have h':=g1.setRow (us:=#[nI (nth xs i).1,nI (nth xs i).2.1,(nth xs i).2.2]);have g2:Upd (λq=>q=T+4) O2' d9 O2' (d9.setRow kb #[nI (nth xs i).1,nI (nth xs i).2.1,(nth xs i).2.2]):=Upd.setRow zo g1.tag rfl;have b0:=g3.J g2;have g6:=(b2.U b0 zo zo).drew;have d1:=(d2.U b0 zo zo).drew;have c8:=(a'.U b0 zo zo).drew;have d7:=(c5.U b0).drew;have d':∀m,m<i->Nt O2' (d9.setRow kb #[nI (nth xs i).1,nI (nth xs i).2.1,(nth xs i).2.2]).drew (nth kids m) (nth zs m):=λm hm=>((f8 m hm).U b0).drew
   have d5:=(b'.J (b0.mono (λ_ h=>by rw[h];omega) a5)).drew;have g5:=aD d5 (λb=>by have:=hT b;omega);have hk3d:=h'.drew;have g0:Nt (λ_=>0) (d9.setRow kb #[nI (nth xs i).1,nI (nth xs i).2.1,(nth xs i).2.2]).drew (nth kids i) (nth xs i):=(hk i c9).ext g5;refine zh ?_;apply aN (λW=>∀(m:Nat) (u:ix),(aY (nth xs i))[m]? = some u->W.cell? (nA kb m)=some u) 8 rfl zk;generalize (d9.setRow kb #[nI (nth xs i).1,nI (nth xs i).2.1,(nth xs i).2.2]).drew=w3' at *;have i3:w3'.cell? (nA ob 2)=some lv:=d1.cell 2 rfl;refine zin hk3d.V λzS=>?_
   apply zrf 0 rfl zS rfl;apply zt 2 rfl zS (λw1 h2=>ah (us:=aY (nth xs i)) h2 (MW _) (LU _) rfl)
   have c':=xi n zo (nth kids i) zo B O2' (nth xs i) w3' d7 g0;refine WH.two 1 3 zk rfl rfl ?_ ?_
   ·refine zvH (RV.ld i3 rfl) ?_;apply ae hk3d.V
    apply WH.one 3 zk rfl;apply zc call166 c'
    rintro v w5 ⟨z,rfl,f3,g4⟩;have a8:Upd (λ_=>False) O2' w3' O2' w5:=aa (λh=>h) O2' g4;have f4:=g6.U a8 zo (λh=>h);have e4:=d1.U a8 zo (λh=>h);have a9:=c8.U a8 zo (λh=>h);have f6:=d7.U a8;have d3:=hk3d.U a8 zo (λh=>h);have b7:∀m,m<i->Nt O2' w5 (nth kids m) (nth zs m):=λm hm=>(d' m hm).U a8
    have b9:=d5.J (a8.mono (λ_ h=>h.elim) a5);refine zh ?_;apply ae d3.V;apply WH.one 4 zk rfl;apply aQ elN (enc:=aY) z rfl rfl rfl zd rfl;intro w6 h6 e9;have a1:Upd (λ_=>False) O2' w5 O2' w6:=aa (λh=>h) O2' e9;have e1:=f4.U a1 zo (λh=>h);have d8:=e4.U a1 zo (λh=>h);have a6:=a9.U a1 zo (λh=>h);have e8:=f6.U a1;have b8:=d3.U a1 zo (λh=>h);have b1:∀m,m<i->Nt O2' w6 (nth kids m) (nth zs m):=λm hm=>(b7 m hm).U a1
    have c6:=f3.U a1;have b6:=b9.J (a1.mono (λ_ h=>h.elim) a5);refine zh ?_;apply ae b8.V;have a7:∀u∈[z],∀c∈aY u,c.oneCell'=true:=λu hu=>by
     rw[MD.1 hu];exact gD c6.one
    apply WH.one 5 zk rfl;apply aC elN a6 e8 h6 (by simp) rfl rfl (λ_ _=>rfl) a7 (by simp;omega) (by simp;omega) zo rfl
    intro a3 w7 O7 a0 a4 e7;have e2:=a0.one;have b3:=BlkO.U d8 a4 zo zo;have e0:=BlkO.U e1 a4 zo zo;have b4:=BlkO.U b8 a4 zo zo;refine zh ?_;apply ae b4.V;apply zrf 6 rfl b4.V rfl;apply WH.one 7 zk rfl;apply aj (j:=2) b3 rfl (Qe _) e2 rfl rfl rfl;have e3:BlkO O7 (w7.setCell ⟨ob,2,none⟩ a3) (T+2) ob #[nI k,nI c,a3] 75:=b3.set 2 a3;have a2:Upd (λq=>q=T+2) O7 w7 O7 (w7.setCell ⟨ob,2,none⟩ a3):=Upd.set zo b3.tag rfl;have e5:=b4.U a2 zo zo;refine zh ?_;apply ae e5.V;have a5:¬(λq:Nat=>T<=q) 0:=λe=>zo
    have b5:=(b6.J (a4.mono (λ_ h=>by rw[h];omega) a5)).J (a2.mono (λ_ h=>by rw[h];omega) a5);apply WH.done zk;refine zh ?_;refine zxd (i+1,O7,(w7.setCell ⟨ob,2,none⟩ a3),a3,zs++[z]) ⟨c9,e0.U a2 zo zo,e3,a0.U a2 zo zo,by simp[d0],λm hm=>?_,b5,e7.U a2⟩;dsimp only at hm ⊢
    by_cases e:m<i
    ·rw[aB (xs:=zs++[z]) (by simp;omega),MQ zo,<-aB zo];exact((b1 m e).U a4).U a2
    obtain rfl:m=zs.length:=zo;rw[aB (xs:=zs++[z]) (by simp),MO zo];simp only[Px,ME];rw[d0];exact(c6.U a4).U a2
   apply zc call166 c';rintro v w5 ⟨z,rfl,f3,g4⟩;have a8:Upd (λ_=>False) O2' w3' O2' w5:=aa (λh=>h) O2' g4;have f4:=g6.U a8 zo (λh=>h);have e4:=d1.U a8 zo (λh=>h);have a9:=c8.U a8 zo (λh=>h);have f6:=d7.U a8;have d3:=hk3d.U a8 zo (λh=>h);have b7:∀m,m<i->Nt O2' w5 (nth kids m) (nth zs m):=λm hm=>(d' m hm).U a8
   have b9:=d5.J (a8.mono (λ_ h=>h.elim) a5);refine zh ?_;apply ae d3.V;have i2:w5.cell? (nA ob 2)=some lv:=e4.cell 2 rfl;refine WH.two 1 4 zk rfl rfl ?_ ?_
   ·refine zvH (RV.ld i2 rfl) ?_;apply ae d3.V
    apply WH.one 4 zk rfl;apply aQ elN (enc:=aY) z rfl rfl rfl zd rfl
    intro w6 h6 e9;have a1:Upd (λ_=>False) O2' w5 O2' w6:=aa (λh=>h) O2' e9;have e1:=f4.U a1 zo (λh=>h);have d8:=e4.U a1 zo (λh=>h);have a6:=a9.U a1 zo (λh=>h);have e8:=f6.U a1;have b8:=d3.U a1 zo (λh=>h);have b1:∀m,m<i->Nt O2' w6 (nth kids m) (nth zs m):=λm hm=>(b7 m hm).U a1
    have c6:=f3.U a1;have b6:=b9.J (a1.mono (λ_ h=>h.elim) a5);refine zh ?_;apply ae b8.V;have a7:∀u∈[z],∀c∈aY u,c.oneCell'=true:=λu hu=>by
     rw[MD.1 hu];exact gD c6.one
    apply WH.one 5 zk rfl;apply aC elN a6 e8 h6 (by simp) rfl rfl (λ_ _=>rfl) a7 (by simp;omega) (by simp;omega) zo rfl
    intro a3 w7 O7 a0 a4 e7;have e2:=a0.one;have b3:=BlkO.U d8 a4 zo zo;have e0:=BlkO.U e1 a4 zo zo;have b4:=BlkO.U b8 a4 zo zo;refine zh ?_;apply ae b4.V;apply zrf 6 rfl b4.V rfl;apply WH.one 7 zk rfl;apply aj (j:=2) b3 rfl (Qe _) e2 rfl rfl rfl;have e3:BlkO O7 (w7.setCell ⟨ob,2,none⟩ a3) (T+2) ob #[nI k,nI c,a3] 75:=b3.set 2 a3;have a2:Upd (λq=>q=T+2) O7 w7 O7 (w7.setCell ⟨ob,2,none⟩ a3):=Upd.set zo b3.tag rfl;have e5:=b4.U a2 zo zo;refine zh ?_;apply ae e5.V;have a5:¬(λq:Nat=>T<=q) 0:=λe=>zo
    have b5:=(b6.J (a4.mono (λ_ h=>by rw[h];omega) a5)).J (a2.mono (λ_ h=>by rw[h];omega) a5);apply WH.done zk;refine zh ?_;refine zxd (i+1,O7,(w7.setCell ⟨ob,2,none⟩ a3),a3,zs++[z]) ⟨c9,e0.U a2 zo zo,e3,a0.U a2 zo zo,by simp[d0],λm hm=>?_,b5,e7.U a2⟩;dsimp only at hm ⊢
    by_cases e:m<i
    ·rw[aB (xs:=zs++[z]) (by simp;omega),MQ zo,<-aB zo];exact((b1 m e).U a4).U a2
    obtain rfl:m=zs.length:=zo;rw[aB (xs:=zs++[z]) (by simp),MO zo];simp only[Px,ME];rw[d0];exact(c6.U a4).U a2
   apply aQ elN (enc:=aY) z rfl rfl rfl zd rfl;intro w6 h6 e9;have a1:Upd (λ_=>False) O2' w5 O2' w6:=aa (λh=>h) O2' e9;have e1:=f4.U a1 zo (λh=>h);have d8:=e4.U a1 zo (λh=>h);have a6:=a9.U a1 zo (λh=>h);have e8:=f6.U a1;have b8:=d3.U a1 zo (λh=>h);have b1:∀m,m<i->Nt O2' w6 (nth kids m) (nth zs m):=λm hm=>(b7 m hm).U a1
   have c6:=f3.U a1;have b6:=b9.J (a1.mono (λ_ h=>h.elim) a5);refine zh ?_;apply ae b8.V;have i1:w6.cell? (nA ob 2)=some lv:=d8.cell 2 rfl;apply WH.one 1 zk rfl;refine zvH (RV.ld i1 rfl) ?_;apply ae b8.V;have a7:∀u∈[z],∀c∈aY u,c.oneCell'=true:=λu hu=>by
    rw[MD.1 hu];exact gD c6.one
   apply WH.one 5 zk rfl;apply aC elN a6 e8 h6 (by simp) rfl rfl (λ_ _=>rfl) a7 (by simp;omega) (by simp;omega) zo rfl
   intro a3 w7 O7 a0 a4 e7;have e2:=a0.one;have b3:=BlkO.U d8 a4 zo zo;have e0:=BlkO.U e1 a4 zo zo;have b4:=BlkO.U b8 a4 zo zo;refine zh ?_;apply ae b4.V;apply zrf 6 rfl b4.V rfl;apply WH.one 7 zk rfl;apply aj (j:=2) b3 rfl (Qe _) e2 rfl rfl rfl;have e3:BlkO O7 (w7.setCell ⟨ob,2,none⟩ a3) (T+2) ob #[nI k,nI c,a3] 75:=b3.set 2 a3;have a2:Upd (λq=>q=T+2) O7 w7 O7 (w7.setCell ⟨ob,2,none⟩ a3):=Upd.set zo b3.tag rfl;have e5:=b4.U a2 zo zo;refine zh ?_;apply ae e5.V;have a5:¬(λq:Nat=>T<=q) 0:=λe=>zo
   have b5:=(b6.J (a4.mono (λ_ h=>by rw[h];omega) a5)).J (a2.mono (λ_ h=>by rw[h];omega) a5);apply WH.done zk;refine zh ?_;refine zxd (i+1,O7,(w7.setCell ⟨ob,2,none⟩ a3),a3,zs++[z]) ⟨c9,e0.U a2 zo zo,e3,a0.U a2 zo zo,by simp[d0],λm hm=>?_,b5,e7.U a2⟩;dsimp only at hm ⊢
   by_cases e:m<i
   ·rw[aB (xs:=zs++[z]) (by simp;omega),MQ zo,<-aB zo];exact((b1 m e).U a4).U a2
   obtain rfl:m=zs.length:=zo;rw[aB (xs:=zs++[z]) (by simp),MO zo];simp only[Px,ME];rw[d0];exact(c6.U a4).U a2
  intro i0;obtain rfl:i=xs.length:=dF i0;have h8:=a'.one;refine zh ?_;apply zv (ah (us:=aY ((k,c,lv):N3)) d2.V (MW _) (LU _) rfl);apply zsb (us:=#[nI k,nI c,lv]) b2 (LU _) (cH (x:=(k,c,lv)) h8);have g':=b2.setRow (us:=#[nI k,nI c,lv]);have f5:Upd (λq=>q=T) O1' f7 O1' (f7.setRow xb #[nI k,nI c,lv]):=Upd.setRow zo b2.tag rfl;have c7:=a'.U f5 zo zo;have d4:=b'.J (f5.mono (λ_ h=>by rw[h];omega) a5);have hN:Nt O (f7.setRow xb #[nI k,nI c,lv]) (.mk k c kids) (k,c,lv):=
   .mk c7.sl (c7.freeT zo (λb=>by have:=hT b;omega) (c5.U f5) d4) zo (λm hm=>((f8 m zo).U f5).low d4)
  refine zh ?_;refine aO rfl rfl g'.V (MW _) (LU _) ⟨(k,c,lv),rfl,hN,aD d4 (λb=>by have:=hT b;omega)⟩
end
section
open Go.VL Go.Proofs
set_option maxRecDepth 10000
def nH{F:Nj}(hF:∀(args:Array ix) (w:ka),(callFunc F args).run Lk w=.ok (.enter F args) w)(cs:Array ix)(l:List N3)(sv:ix)(q:Nat->Bool)(w:ka)(h:Sl aY 3 w sv l) 
  (hq:∀i,i<l.length->∀w',Ext w w'->Ret Lk F ([nv (nth l i)]++cs.toList) w' λv w''=>v=.bool (q i)/\Ext w' w'') :
  Ret Lk 125 [sv,.func (.func F) #[] cs] w λv w'=>v=nI (ey q l.length)/\Ext w w':=by
 have hl:=h.len_le;apply Ret.enter func125 ntmps125 rfl rfl;refine zh ?_;apply zlp (λx:Nat×ka=>[(0,sv),(1,.func (.func F) #[] cs),(7,nI l.length),(8,nI x.1)]) (λx=>x.2) (λx=>x.1<=l.length/\Ext w x.2/\∀i,i<x.1->q i=false) (λx=>l.length-x.1) (0,w) ⟨MC _,Ext.refl _,λi hi=>absurd hi (P5 i)⟩;rintro⟨k,w1⟩ ⟨hk,hE,a1⟩;dsimp only at hk hE a1 ⊢;have h1:=h.ext hE;refine zh ?_;refine zC ?_ ?_
 ·intro a0;replace a0:k<l.length:=dT a0;refine zh ?_;apply zv (ah (us:=aY (nth l k)) (λj u hu=>h1.cell a0 hu) (MW _) (LU _) rfl);apply eo rfl hF rfl (hq k a0 w1 hE) rfl;rintro v w2 ⟨rfl,a3⟩;refine zh ?_;refine zC ?_ ?_
  ·intro hy;refine zh ?_;refine af rfl rfl ⟨by rw[cX a0 hy a1],hE.J a3⟩
  intro hy;refine zh ?_;refine zxd (k+1,w2) ⟨a0,hE.J a3,λi hi=>(Pm.1 hi).elim (a1 i) (λe=>by rw[e];exact hy)⟩
 intro a2;replace a2:l.length<=k:=dF a2;refine zh ?_;refine af rfl rfl ⟨by rw[cU λi hi=>a1 i zo],hE⟩
def dz(hF:∀(args:Array ix) (w:ka),(callFunc F args).run Lk w=.ok (.enter F args) w)(cs:Array ix)(l:List N3)(sv:ix)(q:Nat->Bool)(w:ka)(h:Sl aY 3 w sv l) 
  (hq:∀i,i<l.length->∀w',Ext w w'->Ret Lk F ([nv (nth l i)]++cs.toList) w' λv w''=>v=.bool (q i)/\Ext w' w'') :
  Ret Lk 86 [sv,.func (.func F) #[] cs] w λv w'=>v=.bool (jZ q l.length)/\Ext w w':=by
 apply Ret.enter func86 ntmps86 rfl rfl;refine zh ?_
 apply zc call125 (nH hF cs l sv q w h hq);rintro v w1 ⟨rfl,hE⟩;refine zh ?_
 refine af rfl rfl ⟨by rw[firstN_any],hE⟩
def named(k:Int):Bool:=(k==0)||(k==2)
def least(k:Int):Int:=if k=4\/k=5 then 2 else if k=6\/k=7\/k=8 then 1 else 0
def eQ(k:Int):Int:=if k=4\/k=5 then 2000 else if k=6\/k=7\/k=8 then 1 else 0
def gm(k c:Int)(n:Nat)(a0:Bool):Bool:=
 !(decide (k<0)||decide (9<k)||((k==9)&&a0))&&(!(decide ((n:Int)<least k)||decide (eQ k<(n:Int))) &&
 !((named k&&(decide (c<0)||decide (36<=c)))||(!named k&&(c != 0))))
mutual
def bP:Nd->Bool->Bool | .mk k c l,wi=>gm k c l.length wi&&eT l
def eT:List Nd->Bool | []=>true|t::r=>bP t true&&eT r
end
def aZ(t:Nd):Bool:=decide (nsz t<=2000)&&bP t false
def dv{k c:Int}{wi:Bool}(h:gm k c n wi=true):
  (k=0/\n=0/\0<=c/\c<36)\/(k=1/\n=0/\c=0)\/(k=2/\n=0/\0<=c/\c<36)\/(k=3/\n=0/\c=0)\/(k=4/\2<=n/\c=0)\/(k=5/\2<=n/\c=0)\/(k=6/\n=1/\c=0)\/(k=7/\n=1/\c=0)\/(k=8/\n=1/\c=0)\/(k=9/\n=0/\c=0/\wi=false):=by
 have a0:k=0\/k=1\/k=2\/k=3\/k=4\/k=5\/k=6\/k=7\/k=8\/k=9:=by
  simp only[gm,Mp,Q6,Bool.or_eq_false_iff,decide_eq_false_iff_not]at h;omega
 rcases a0 with rfl|rfl|rfl|rfl|rfl|rfl|rfl|rfl|rfl|rfl<;>simp[gm,least,eQ,named]at h<;>(try simp)<;>(first|omega|(obtain⟨h1,h2⟩:=h;subst h1;simp;omega))
def qi:∀(l:List Nd),eT l=true->∀t∈l,bP t true=true
 |[],_,t,h=>absurd h (by simp)
 |a::r,hf,t,h=>by
  rw[eT,Mp]at hf
  rcases Qu.1 h with rfl|h
  ·exact hf.1
  exact qi r hf.2 t h
def gX:∀(l:List Nd),(!(jZ (λi=>!(bP (nth l i) true)) l.length))=eT l:=by
 intro l;rw[Bool.eq_iff_iff];rw[Q6,Q7,Ne,dj]
 induction l with
 |nil=>simp[eT]
 |cons t r ih=>
  simp only[eT,Mp,<-ih,M5]
  constructor
  ·intro h;refine⟨?_,fun⟨i,hi,hq⟩=>h ⟨i+1,zo,by rw[aW];exact hq⟩⟩
   cases ht:bP t true with
   |true=>rfl
   |false=>exact absurd ⟨0,zo,by rw[ao,ht];rfl⟩ h
  rintro⟨h1,h2⟩ ⟨i,hi,hq⟩
  cases i with
  |zero=>rw[ao,h1]at hq;simp at hq
  |succ i=>rw[aW]at hq;exact h2 ⟨i,zo,hq⟩
def Gq(k:Int)(w:ka):Ret Lk 151 [nI k] w λv w'=>v=.tuple #[nI (least k),nI (eQ k)]/\w'=w:=by
 apply Ret.enter func151 ntmps151 rfl rfl;refine zh ?_
 by_cases h4:k=4
 ·subst h4;refine zTH rfl rfl ?_;refine zTH rfl rfl ?_;refine cj rfl rfl rfl ⟨rfl,rfl⟩
 refine zFH rfl ((beq_eq_false_iff_ne.2 h4)) ?_
 by_cases h5:k=5
 ·subst h5;refine zTH rfl rfl ?_;refine cj rfl rfl rfl ⟨rfl,rfl⟩
 refine zFH rfl ((beq_eq_false_iff_ne.2 h5)) ?_
 by_cases h6:k=6
 ·subst h6;refine zTH rfl rfl ?_;refine zTH rfl rfl ?_;refine cj rfl rfl rfl ⟨rfl,rfl⟩
 refine zFH rfl ((beq_eq_false_iff_ne.2 h6)) ?_
 by_cases h7:k=7
 ·subst h7;refine zTH rfl rfl ?_;refine zTH rfl rfl ?_;refine cj rfl rfl rfl ⟨rfl,rfl⟩
 refine zFH rfl ((beq_eq_false_iff_ne.2 h7)) ?_
 by_cases h8:k=8
 ·subst h8;refine zTH rfl rfl ?_;refine cj rfl rfl rfl ⟨rfl,rfl⟩
 refine zFH rfl ((beq_eq_false_iff_ne.2 h8)) ?_;refine cj rfl rfl rfl ⟨by simp[least,eQ,h4,h5,h6,h7,h8],rfl⟩
def GN{t:Nd}(ih:∀(y:N3) (W:ka),Nt (λ_=>0) W t y->Ret Lk 122 [nv y,.bool true] W λv w'=>v=.bool b/\Ext W w')(x:N3)(w:ka)(h:Nt (λ_=>0) w t x):
  Ret Lk 152 [nv x] w λv w'=>v=.bool (!b)/\Ext w w':=by
 apply Ret.enter func152 ntmps152 rfl rfl;refine zh ?_
 apply aI (aw w) 1 zo rfl rfl;intro xb w1 O1 a1 a3 a4 a0;refine zh ?_
 apply zv (ah (us:=aY x) a1.V (MW _) (LU _) rfl);apply zc call122 (ih x w1 (h.ext a0))
 rintro v w2 ⟨rfl,a2⟩;refine zh ?_;refine af rfl rfl ⟨rfl,a0.J a2⟩
def AE:∀(n:Nat) (t:Nd),nsz t<=n->∀(x:N3) (w:ka) (a0:Bool),Nt (λ_=>0) w t x->Ret Lk 122 [nv x,.bool a0] w λv w'=>v=.bool (bP t a0)/\Ext w w'
 |0,t,hn=>by have:=da t;omega
 |n+1,.mk k c kids,hn=>by
  intro x w a0 h;have b1:=h.ones;obtain⟨xs,hs,hf,hl,hk⟩:=h.kids;simp only[Nd.kids]at hl hk;simp only[nsz]at hn;have hF:bP (.mk k c kids) a0=(gm k c kids.length a0&&eT kids):=rfl;rw[hF];generalize x.2.2=sv at *;subst b1;simp only[Nd.kind,Nd.cls];apply Ret.enter func122 ntmps122 rfl rfl;refine zh ?_;apply aI (aw w) 1 zo rfl rfl;intro xb w1 O1 a9 b4 b5 a4;have c0:w1.cell? (nA xb 0)=some (nI k):=a9.cell 0 rfl;have c1:w1.cell? (nA xb 1)=some (nI c):=a9.cell 1 rfl;have c2:w1.cell? (nA xb 2)=some sv:=a9.cell 2 rfl;have b2:=hs.ext a4;refine zh ?_;refine bR (λw1=>_=w1) ((k==2)) 3 rfl rfl rfl rfl rfl rfl ?_ ?_
  ·intro a1;refine zh ?_;refine nE 11 4 rfl a1
  rintro _ rfl;refine zh ?_;apply zc call151 (Gq k w1);rintro v w9 ⟨rfl,a'⟩;rw[a'];clear a' w9;refine zh ?_;refine bR (λw1=>_=w1) (decide (9<k)) 3 rfl rfl rfl rfl rfl rfl ?_ ?_
  ·intro a2;refine zh ?_;refine nE 26 4 rfl a2
  rintro _ rfl;refine zh ?_;refine bR (λw1=>_=w1) (((k==9)&&a0)) 6 rfl rfl rfl rfl rfl rfl ?_ ?_
  ·intro a3;refine zh ?_
   cases a7:(k==9)with
   |true=>
    apply ax (d:=35) rfl (b':=true) rfl;refine zh ?_
    refine nE 31 8 rfl a3
   |false=>
    apply ax (d:=35) rfl (b':=false) rfl;refine zh ?_
    refine nE 31 8 rfl a3
  rintro _ rfl;refine zh ?_
  cases h1:(decide (k<0)||decide (9<k)||((k==9)&&a0))with
  |true=>
   refine zTH rfl rfl ?_;refine af rfl rfl ⟨by simp only[gm,h1];rfl,a4⟩
  |false=>
   refine zFH rfl rfl ?_;refine bR (λw1=>_=w1) (decide (eQ k<(xs.length:Int))) 5 rfl rfl rfl rfl rfl rfl ?_ ?_
   ·intro a5;refine zh ?_;refine nE 45 6 rfl a5
   rintro _ rfl;refine zh ?_
   cases h2:(decide ((xs.length:Int)<least k)||decide (eQ k<(xs.length:Int)))with
   |true=>
    refine zTH rfl rfl ?_;refine af rfl rfl ⟨by simp only[gm,h1,hl,h2];rfl,a4⟩
   |false=>
    refine zFH rfl rfl ?_;refine aT (λw1=>_=w1) ((decide (c<0)||decide (36<=c))) 8 rfl rfl rfl rfl rfl rfl ?_ ?_
    ·intro a6;refine zh ?_
     cases a7:decide (c<0)with
     |true=>
      apply ax (d:=58) rfl (b':=true) rfl;refine zh ?_
      refine nE 54 10 rfl a6
     |false=>
      apply ax (d:=58) rfl (b':=false) rfl;refine zh ?_
      refine nE 54 10 rfl a6
    rintro _ rfl;refine zh ?_;refine bR (λw1=>_=w1) ((!((k==0)||(k==2))&&(c != 0))) 7 rfl rfl rfl rfl rfl rfl ?_ ?_
    ·intro a8;refine zh ?_
     cases a7:((k==0)||(k==2))with
     |true=>
      rw[a7]at a8;apply ax (d:=67) rfl (b':=false) rfl;refine zh ?_;refine nE 64 9 rfl a8
     |false=>
      rw[a7]at a8;apply ax (d:=67) rfl (b':=true) rfl;refine zh ?_;refine nE 64 9 rfl a8
    rintro _ rfl;refine zh ?_
    cases h3:(((((k==0)||(k==2))&&(decide (c<0)||decide (36<=c))))||(!((k==0)||(k==2))&&(c != 0)))with
    |true=>
     refine zTH rfl rfl ?_;refine af rfl rfl ⟨by simp only[gm,h1,hl,h2,named,h3];rfl,a4⟩
    |false=>
     refine zFH rfl rfl ?_;apply zc call86 (dz call152 #[] xs sv (λi=>!(bP (nth kids i) true)) w1 b2 (λi hi w' hE=>GN (λy W hy=>AE n (nth kids i) (by have:=bK kids i zo;omega) y W true hy) (nth xs i) w' ((hk i hi).ext (a4.J hE))))
     rintro v w2 ⟨rfl,b3⟩;refine zh ?_;have b0:=gX kids;rw[hl]at b0;refine af rfl rfl ⟨by rw[b0];simp only[gm,h1,hl,h2,named,h3];rfl,a4.J b3⟩
def gS(t:Nd)(x:N3)(w:ka)(h:Nt (λ_=>0) w t x):Ret Lk 84 [nv x] w λv w'=>v=.bool (aZ t)/\Ext w w':=by
 have hx:=h.ones;apply Ret.enter func84 ntmps84 rfl rfl;refine zh ?_;apply aI (aw w) 1 zo rfl rfl;intro xb w1 O1 a5 a6 a7 a3;have a4:∀W,Ext w1 W->∀(j:Nat) (u:ix),(aY x)[j]? = some u->W.cell? (nA xb j)=some u:=λW hE j u hu=>hE.cell (a5.V j u hu)
 refine zh ?_;apply zv (ah (us:=aY x) (a4 w1 (Ext.refl _)) (MW _) (LU _) rfl)
 apply zc call121 (sX (nsz t) t (Lr _) x w1 2000 (h.ext a3) zo);rintro v w2 ⟨rfl,a0⟩;have hd:decide (((min (nsz t) (2000+1):Nat):Int)<=2000)=decide (nsz t<=2000):=decide_eq_decide.2 zo;refine zh ?_
 rw[hd];refine aT (Ext w1) (bP t false) 2 a0 rfl rfl rfl rfl rfl ?_ ?_
 ·intro a1;refine zh ?_;refine zvH (ah (us:=aY x) (a4 _ a0) (MW _) (LU _) rfl) ?_;apply zc call122 (AE (nsz t) t (Lr _) x _ false (h.ext (a3.J a0)));rintro v w3 ⟨rfl,a2⟩;refine zh ?_;refine nE 6 3 (a0.J a2) a1
 intro w3 a2;refine zh ?_;refine af rfl rfl ⟨rfl,a3.J a2⟩
end
section
open Go.VL Go.Proofs
set_option maxRecDepth 10000
def Gj(s:List UInt8)(m:List UInt8×Nd):Bool:=(m.1==s&&aZ m.2)&&(m.2.kind != 9)
def iM(kn:Kn)(r:List UInt8):PR:=
 if r.takeWhile aq=[97,110,121]then .ok (.mk 1 0 []) (r.dropWhile aq)
 else match kn.reverse.find? (Gj (r.takeWhile aq))with
  |some m=>.ok m.2 (r.dropWhile aq)
  |none=>ez 0 r
def kA(kn:Kn)(al:Option (List UInt8->PR))(r0:List UInt8):PR:=
 if aq ((ay r0).headD 0)=true then iM kn (ay r0)
 else if(ay r0).headD 0=126 then ez 2 (ay r0).tail
 else if(ay r0).headD 0=94 then .ok (.mk 3 0 []) (ay r0).tail
 else if(ay r0).headD 0=40 then cJ al (ay r0)
 else .bad (ay r0).length 4
def gj(kn:Kn)(al:Option (List UInt8->PR))(r0:List UInt8):PR:=
 match kA kn al r0 with
 |.bad p e=>.bad p e
 |.ok t r1=>
  match opM ((ay r1).headD 0)with
  |some k=>.ok (.mk (6+(k:Nat)) 0 [t]) (ay r1).tail
  |none=>.ok t (ay r1)
def ee(kn:Kn)(al:Option (List UInt8->PR)):Nat->List Nd->List UInt8->PR
 |0,acc,r=>.ok (oneM 4 acc) r
 |n+1,acc,r=>
  if gF ((ay r).headD 0)=true then
   match gj kn al (ay r)with
   |.bad p e=>.bad p e
   |.ok t r2=>ee kn al n (acc++[t]) r2
  else .ok (oneM 4 acc) (ay r)
def FL(kn:Kn)(al:Option (List UInt8->PR))(r:List UInt8):PR:=
 match gj kn al r with
 |.bad p e=>.bad p e
 |.ok t r1=>ee kn al (r1.length+1) [t] r1
def dk(kn:Kn)(al:Option (List UInt8->PR)):Nat->List Nd->List UInt8->PR
 |0,acc,r=>.ok (oneM 5 acc) r
 |n+1,acc,r=>
  if(ay r).headD 0=124 then
   match FL kn al (ay r).tail with
   |.bad p e=>.bad p e
   |.ok t r2=>dk kn al n (acc++[t]) r2
  else .ok (oneM 5 acc) (ay r)
def qt(kn:Kn)(al:Option (List UInt8->PR))(r:List UInt8):PR:=
 match FL kn al r with
 |.bad p e=>.bad p e
 |.ok t r1=>dk kn al (r1.length+1) [t] r1
def zm(kn:Kn):Nat->List UInt8->PR
 |0=>qt kn none
 |d+1=>qt kn (some (zm kn d))
def gC(kn:Kn)(l:List UInt8):XR:=
 if 4096<l.length then .bad 0 3 else
 match zm kn 20 l with
 |.bad p e=>.bad (l.length-p) e
 |.ok t r=>if(ay r).length≠0 then .bad (l.length-(ay r).length) 4 else if 2000<nsz t then .bad 0 3 else .ok t
variable{kn:Kn}
def yD(r:List UInt8)(h:aq (r.headD 0)=true):Good r (iM kn r):=by
 unfold iM
 split
 ·exact kQ h
 split
 ·exact kQ h
 exact ql _ _
def sF{al:Option (List UInt8->PR)}(ha:oL al)(r:List UInt8):Good r (kA kn al r):=by
 refine Good.mono ?_ (bt r);unfold kA
 split
 ·rename_i h;exact yD _ h
 split
 ·rename_i h;obtain⟨g1,g2⟩:=cF (r:=ay r) (by rw[h];decide);exact(ql _ _).mono g1
 split
 ·rename_i h;obtain⟨g1,g2⟩:=cF (r:=ay r) (by rw[h];decide);exact⟨g1,zo⟩
 split
 ·rename_i h;exact qX ha _ (by rw[h];decide)
 exact⟨Lr _,zd⟩
def iw{al:Option (List UInt8->PR)}(ha:oL al)(r:List UInt8):Good r (gj kn al r):=by
 have h:=sF (kn:=kn) ha r;unfold gj
 cases hf:kA kn al r with
 |bad p e=>rw[hf]at h;exact h
 |ok t r1=>
  rw[hf]at h;have h2:=ed r1;dsimp only
  split
  ·rename_i k hk;obtain⟨g1,g2⟩:=cF (If hk);exact⟨(g1.J (bt r1)).J h.1,by have:=h.2;omega⟩
  exact⟨(bt r1).J h.1,by have:=h.2;omega⟩
def lJ{al:Option (List UInt8->PR)}(ha:oL al):∀(n:Nat) (acc:List Nd) (r:List UInt8),K2 r (ee kn al n acc r)
 |0,acc,r=>Qc r
 |n+1,acc,r=>by
  unfold ee
  split
  ·have h:=(iw (kn:=kn) ha (ay r)).mono (bt r)
   cases hf:gj kn al (ay r)with
   |bad p e=>rw[hf]at h;exact h
   |ok t r2=>
    rw[hf]at h;have ih:=lJ ha n (acc++[t]) r2;dsimp only
    cases hq:ee kn al n (acc++[t]) r2 with
    |bad p e=>rw[hq]at ih;exact⟨by have:=ih.1;have:=h.2;omega,ih.2⟩
    |ok t r3=>rw[hq]at ih;exact MX ih h.1
  exact bt r
def lK{al:Option (List UInt8->PR)}(ha:oL al)(r:List UInt8):Good r (FL kn al r):=by
 have h:=iw (kn:=kn) ha r;unfold FL
 cases hf:gj kn al r with
 |bad p e=>rw[hf]at h;exact h
 |ok t r1=>
  rw[hf]at h;have ih:=lJ (kn:=kn) ha (r1.length+1) [t] r1;dsimp only
  cases hq:ee kn al (r1.length+1) [t] r1 with
  |bad p e=>rw[hq]at ih;exact⟨by have:=ih.1;have:=h.2;omega,ih.2⟩
  |ok t r3=>rw[hq]at ih;exact⟨MX ih h.1,by have:=NR ih;have:=h.2;omega⟩
def kF{al:Option (List UInt8->PR)}(ha:oL al):∀(n:Nat) (acc:List Nd) (r:List UInt8),K2 r (dk kn al n acc r)
 |0,acc,r=>Qc r
 |n+1,acc,r=>by
  unfold dk
  split
  ·rename_i hc;obtain⟨g1,g2⟩:=cF (r:=ay r) (by rw[hc];decide);have h:=((lK (kn:=kn) ha (ay r).tail).mono g1).mono (bt r)
   cases hf:FL kn al (ay r).tail with
   |bad p e=>rw[hf]at h;exact h
   |ok t r2=>
    rw[hf]at h;have ih:=kF ha n (acc++[t]) r2;dsimp only
    cases hq:dk kn al n (acc++[t]) r2 with
    |bad p e=>rw[hq]at ih;exact⟨by have:=ih.1;have:=h.2;omega,ih.2⟩
    |ok t r3=>rw[hq]at ih;exact MX ih h.1
  exact bt r
def qs{al:Option (List UInt8->PR)}(ha:oL al)(r:List UInt8):Good r (qt kn al r):=by
 have h:=lK (kn:=kn) ha r;unfold qt
 cases hf:FL kn al r with
 |bad p e=>rw[hf]at h;exact h
 |ok t r1=>
  rw[hf]at h;have ih:=kF (kn:=kn) ha (r1.length+1) [t] r1;dsimp only
  cases hq:dk kn al (r1.length+1) [t] r1 with
  |bad p e=>rw[hq]at ih;exact⟨by have:=ih.1;have:=h.2;omega,ih.2⟩
  |ok t r3=>rw[hq]at ih;exact⟨MX ih h.1,by have:=NR ih;have:=h.2;omega⟩
def kd:∀(d:Nat) (r:List UInt8),Good r (zm kn d r)
 |0,r=>qs (λf e=>by cases e) r
 |d+1,r=>qs (λf e r=>by cases e;exact kd d r) r
def yB{m:List UInt8×Nd}(ha:¬r.takeWhile aq=[97,110,121])(h:kn.reverse.find? (Gj (r.takeWhile aq))=some m):iM kn r=.ok m.2 (r.dropWhile aq):=by
 unfold iM;rw[am ha,h]
def yC(ha:¬r.takeWhile aq=[97,110,121])(h:kn.reverse.find? (Gj (r.takeWhile aq))=none):iM kn r=ez 0 r:=by
 unfold iM;rw[am ha,h]
def uE(al:Option (List UInt8->PR))(r:List UInt8):kA [] al r=LJ al r:=rfl
def mg(al:Option (List UInt8->PR))(r:List UInt8):gj [] al r=Ig al r:=by
 unfold gj Ig;rw[uE];all_goals (cases LJ al r<;>rfl)
def jk(al:Option (List UInt8->PR)):∀(n:Nat) (acc:List Nd) (r:List UInt8),ee [] al n acc r=CD al n acc r
 |0,_,_=>rfl
 |n+1,acc,r=>by
  unfold ee CD;rw[mg]
  split
  ·cases Ig al (ay r)with
   |bad p e=>rfl
   |ok t r2=>exact jk al n _ _
  rfl
def qq(al:Option (List UInt8->PR))(r:List UInt8):FL [] al r=L0 al r:=by
 unfold FL L0;rw[mg]
 cases Ig al r with
 |bad p e=>rfl
 |ok t r2=>exact jk al _ _ _
def iS(al:Option (List UInt8->PR)):∀(n:Nat) (acc:List Nd) (r:List UInt8),dk [] al n acc r=AS al n acc r
 |0,_,_=>rfl
 |n+1,acc,r=>by
  unfold dk AS;rw[qq]
  split
  ·cases L0 al (ay r).tail with
   |bad p e=>rfl
   |ok t r2=>exact iS al n _ _
  rfl
def mw(al:Option (List UInt8->PR)):qt [] al=KP al:=by
 funext r;unfold qt KP;rw[qq]
 cases L0 al r with
 |bad p e=>rfl
 |ok t r2=>exact iS al _ _ _
def qj:∀d,zm [] d=KO d
 |0=>mw none
 |d+1=>by rw[zm,KO,qj d,mw]
def uD(l:List UInt8):gC [] l=LC l:=by unfold gC LC;rw[qj];all_goals (split;all_goals first|rfl|(cases KO 20 l<;>rfl))
end
end Go.Proofs.YtcfhbfflgnbacaaGreatDoor
