/- Texts that the proof of this statement needs, merged and shortened. -/
import Derived.Test.YtpfpmhhigheccaaGreatDoorRows
import Derived.Test.YtpfpmhhigheccaaGreatDoorCards
import Derived.Test.YtpfpmhhigheccaaGreatDoorTie
import Derived.SevenTiedAt
import Derived.LaidMore
import Derived.LaidHandle
import Derived.LaidLaws
import Derived.Lay
import Derived.Lib.LaidTab
import Derived.Calls
import Derived.Tactics
import Derived.Deep.Quiet
import Derived.Below
import Derived.OwnWalk
import Derived.IntWalk
import Derived.Deep.LoopGhost
import Derived.Great.BuildSlice
import Derived.OrdersHeld
import Derived.StillTail
import Derived.WalkKit
import Derived.ProofKit
import Derived.OpenShut
import Derived.ShutString
import Derived.ChangeOld
import Derived.Deep.Matrix
import Derived.Deep.Slices
import Derived.Test.YtpfpmhhigheccaaGreatDoorChecked
import Derived.Laws.Strings3
import Derived.Laws.Concat
import Derived.Laws.Slices
import Derived.Laws.Cover3
import Derived.Laws.Pointers
import Derived.Laws.OwnMore
import Derived.Laws.IdiomStrings
import Derived.Laws.BytesArg
import Derived.RangeFuncLeaves
import Derived.RangeFuncCalls
import Derived.RangeFuncSeq
import Derived.TacticsIn
import Derived.Laws.LoneSync
import Derived.Laws.CopyRow
import Derived.Lib.Builder
import Derived.Lib.AppendStr
import Derived.Lib.UnsafeStr
import Derived.Laws.RangeString
import Derived.Scope
import Derived.Test.YtpfpmhhigheccaaGreatDoorProg
import Derived.Shelf.Sort.Plain
import Derived.Shelf.Slices.In.SortNone
import Derived.Ground.Names2Prog
import Derived.Shelf.Slices.CompactI
import Derived.Sort.OwnSortedInts
import Derived.Maps.RangeRun
import Derived.ChangeKeysEq
import Derived.Lib.SliceRun
import Derived.Shelf.Spec.TrailingZeros
import Derived.ArgAppend
import Derived.Lib.SlBytesConst
import Derived.Deep.Upon
open Go renaming Value->ix,World->ka,TypeId->ln,Operand->I2,Program->I6,IntKind->I9,Oper->IG,Exit->IW,sizeOf->IY,Addr->IZ,Act->Jb,Deferred->Jd,Edge->Jp,Code->JC,zeroValue->JE,FuncId->JL,Field->KA,isAgg->LD,MapEntry->LG,Func->M9,Tmp->Mm,BinOp->My
open Nat renaming blt->I0,eq_of_beq_eq_true->I7,le_refl->ID,zero_add->J1,beq->J2,zero_le->J7,lt_of_lt_of_le->Jo,le_of_ble_eq_true->Ju,le_trans->JI,add_mul->JZ,zero_mul->Kj,mul_one->Kp,not_lt_zero->Kx,lt_succ_iff_lt_or_eq->KN,add_assoc->KO,sub_self->KX,add_zero->KY,pos_of_ne_zero->Lq,ble->Lw,min_eq_left->LO,add_comm->M8
open Go.Result renaming andThen_ok->I1,ok->M7
open Go.Proofs.Tryz renaming prog->I3,sizeOf86->IL,sizeOf3->IS,sizeOf25->Jc,zeroValue86->Jk,isAgg86->Jq,underlying9->Jt,underlying32->Jz,underlying201->JF,underlying145->JG,underlying138->JH,sizeOf4->JR,underlying237->JS,underlying165->JT,underlying148->JU,underlying27->JY,underlying86->Ku,underlying84->Kv,sizeOf9->KR,underlying174->L6,underlying170->L7,underlying167->L8,zeroValue241->Li,underlying88->Lj,underlying81->Lk,underlying79->Ll,underlying75->Lm,underlying49->Ln,underlying44->Lo,sizeOf89->LA,sizeOf84->LB,sizeOf24->LC,sizeOf241->M5,sizeOf79->Md,sizeOf42->Me,sizeOf33->Mf,sizeOf28->Mg,underlying241->Mh,underlying235->Mi,underlying218->Mj,underlying136->Mk,underlying127->Ml,underlying91->Mo,underlying61->Mp,underlying30->Mq
open Array renaming getD_eq_getD_getElem?->I4,replicate->Km,getElem?_setIfInBounds->Ko,toList_setIfInBounds->KB,getElem?_eq_some_iff->KC,getElem?_modify->KU,toList_modify->L4,length_toList->L5,toList_push->Lh
open Go.Sem renaming run_bind->I5,run_pure->IN,run->KD
open List renaming map_toArray->I8,getElem?_eq_some_iff->IH,map_cons->IK,getElem?_eq_getElem->IM,length_cons->IR,eq_nil_of_length_eq_zero->IU,getD_eq_getElem?_getD->IX,map_nil->J0,mem_singleton->J8,getElem_cons_zero->J9,take_append_drop->Jf,dropWhile_suffix->Jg,range->Ji,getElem_append_right->Jj,getElem_append_left->Jl,findIdx?_cons->Jn,getElem_mem->Jv,cons_append->Jw,all_cons->JB,mem_range->JK,flatMap_cons->JM,suffix_cons->JP,getElem?_eq_none->JW,length_append->K8,find?_eq_none->K9,findIdx?_eq_some_iff_getElem->Kc,take_succ_eq_append_getElem->Kd,size_toArray->Ke,mem_map->Kf,getElem?_map->Kg,append_assoc->Kh,takeWhile_append_dropWhile->Kk,nil_append->Kq,mem_append->Kr,take_zero->KE,replicate->KF,map->KG,getElem?_append_right->KH,dropWhile_cons_of_pos->KI,findIdx?_eq_none_iff->KJ,take->KP,drop_eq_nil_of_le->KS,all_nil->KT,getElem?_modify->L2,getElem_of_mem->L9,getElem_range->Ld,ext_getElem?->Lr,take_length->Lx,suffix_refl->Ly,all_eq_true->Lz,length_nil->LH,foldl_cons->LJ,append_nil->LK,take_left->LP,findIdx?->LW
open Classical renaming byContradiction->IE
open Go.Region renaming ready->IF,noSelect->II,wanted->IJ,free->IT,lexB->LV
open Option renaming map_some->IP,map_none->J6,bind_some->Lb
open Go.Addr renaming add->IQ
open Int renaming toNat_natCast->IV
open Go.Value renaming oneCell'->J3,string->Ka,ownBlock->Kw,int->KM,cells->KV,bool->M6
open Go.Instr renaming sureAddr->J4,findNow->Jy,fill->JJ,storeAt->K1,keyThatStays->K6,mapUpdate->Kl,sameBits->Ky,checkKey->Kz,indexAt->KK,findKey->KL,sameNow->LQ,lookup->LX,loadAt->LY,build->M4
open Bool renaming and_eq_true->J5,not_eq_true'->Ls,eq_false_iff->Lt
open Go.Exit renaming inBlock->Ja
open Go.Act renaming eval->Je,put->K2
open Go.Calls renaming mono->Jh
open Go.Fence renaming wide->Jm
open List.IsSuffix renaming trans->Jr,length_le->Ki
open Go.Deferred renaming ofValue->Js
open Go.Oper renaming wp->JA,upon->JO,uponIn->L1,quietAt->M1,still->Mc
open Option.some renaming injEq->JD
open Go.World renaming block_lt_of_cell?->JN,setCell->K0,cells?_some->La,cell?_spot->Lp,frozen?->LL,cell?->M0
open Go.DataW renaming trod->JQ
open Go.IntKind renaming signed->JV,bits->K5,max->KQ,wrap->ME
open Go.Code renaming region->JX
open Go.Op renaming intCmp->K4,intArith->Lc,intBits->Mn,shift->Mw
open Go.Builtin renaming zeroCells->K7,append_->Le,len_->MG,lenOf->MH,firstCells->MI
open Go.RowKit.Below renaming heap_setCell->Kb,refl->Ma,heap_alloc->Mb
open UInt8 renaming ofNat->KW
open Function renaming comp_def->KZ
open Go.Extern.BytealgIndexByte renaming indexByte->L0
open List.cons renaming injEq->L3
open Go.Rows renaming mono->Lu
open Prod.mk renaming injEq->Lv
open Go.Program renaming elem->LF
open Prod renaming fst->LN
open BitVec renaming ofInt->LU
open Go.Conv renaming intToInt->LZ
open Go.ByteArray renaming toList_mk->Mr,extract_mk->Mv
open ByteArray renaming toList->Ms,size->Mt,getElem_eq_getElem_data->Mu
open Go.Lit renaming int->Mx
open Go.StepsIn renaming trans->Mz
open Go.Machine renaming fenced->MA
open Go.IntWalk renaming u8_in->MB,u64_in->MC,i64_in->MD
open Go.CallsIn renaming mono->MF
namespace Go.VL
theorem zo{A:Prop}(h:A:=by omega):A:=h
theorem zd{A:Prop}(h:A:=by decide):A:=h
theorem zk{A:Prop}(h:A:=by kernel_rfl):A:=h
theorem dT{p q:Prop}[Decidable p](h:decide p=true)(k:p→q:=by intro h;omega):q:=k (of_decide_eq_true h)
theorem dF{p q:Prop}[Decidable p](h:decide p=false)(k:¬p→q:=by intro h;omega):q:=k (of_decide_eq_false h)
abbrev nI(n:Int):ix:=.int .i64 n
abbrev nP(b:Nat):ix:=.pointer (some ⟨b,0,none⟩)
abbrev nA(b k:Nat):IZ:=(⟨b,0,none⟩:IZ).add k
abbrev nS:ix:=.slice none 0 0
end Go.VL
section
namespace Go.VL
abbrev St:=List (Nat×ix)
def cf:St->Nat->Option ix
 |[],_=>none
 |(k,v)::r,t=>bif J2 k t then some v else cf r t
structure Fits(N:Nat)(a:Jb)(st:St):Prop where
 size:a.tmps.size=N
 defers:a.defers=[]
 get:∀t v,cf st t=some v->a.tmps[t]? = some v
def ev(st:St):I2->Option ix
 |.tmp t=>cf st t
 |.const v=>some v
 |.global g=>some (nP g)
 |.func f=>some (.func (.func f) #[] #[])
def Cov(st:St):St->Prop
 |[]=>True
 |(t,v)::r=>cf st t=some v/\Cov st r
theorem Fits.ev{N:Nat}{a:Jb}{st:St}(h:Fits N a st){x:I2}{v:ix}(he:ev st x=some v):a.eval x=v:=by
 cases x with
 |tmp t=>
  have:=h.get t v he;simp[Je,I4,this]
 |const u=>simpa[VL.ev,Je]using he
 |global g=>simpa[VL.ev,Je]using he
 |func f=>simpa[VL.ev,Je]using he
theorem Fits.cov{N:Nat}{a:Jb}{st:St}(h:Fits N a st):∀ {a0:St},Cov st a0->Fits N a a0:=by
 intro a0 hc;refine⟨h.size,h.defers,?_⟩
 induction a0 with
 |nil=>intro t v hv;simp[cf]at hv
 |cons p r ih=>
  obtain⟨k,u⟩:=p;obtain⟨h1,h2⟩:=hc;intro t v hv;simp only[cf]at hv
  cases hb:J2 k t with
  |true=>
   rw[hb]at hv;have:k=t:=I7 hb;simp at hv;subst this;subst hv;exact h.get _ _ h1
  |false=>rw[hb]at hv;exact ih h2 t v hv
theorem Fits.put{N:Nat}{a:Jb}{st:St}(h:Fits N a st){d:Nat}(hd:I0 d N=true)(v:ix):Fits N (a.put (some d) v) ((d,v)::st):=by
 have a0:d<a.tmps.size:=by rw[h.size];exact Ju hd
 refine⟨by simp[K2,h.size],h.defers,?_⟩;intro t u hu;simp only[cf]at hu;simp only[K2,Ko]
 cases hb:J2 d t with
 |true=>
  have:d=t:=I7 hb;rw[hb]at hu;simp at hu;subst this;subst hu;simp[a0]
 |false=>
  have:d≠t:=fun e=>by rw[e]at hb;simp at hb
  rw[hb]at hu;rw[if_neg this];exact h.get t u hu
section
variable(P:I6)(N:Nat)
def WL(ops:Array IG)(Q:IW->Jb->ka->Prop)(l:List IG)(st:St)(w:ka):Prop:=∀a,Fits N a st->wpList P ops Q l a w
def WC(c:JC)(Q:IW->Jb->ka->Prop)(st:St)(w:ka):Prop:=∀a,Fits N a st->c.wp P Q a w
def QF(Q:IW->Jb->ka->Prop)(e:IW)(st:St)(w:ka):Prop:=∀a,Fits N a st->Q e a w
end
section
variable{P:I6}{N:Nat}{ops:Array IG}{Q:IW→Jb→ka→Prop}{rest:List IG}{st:St}{w:ka}
theorem WC.region{id:Nat}{l:List IG}(h:WL P N l.toArray Q l st w):WC P N (JX id l.toArray false) Q st w:=fun a ha=>wp_region_lit (h a ha)
theorem WL.nil(h:QF N Q .normal st w):WL P N ops Q [] st w:=h
theorem WC.seq{x y:JC}(h:WC P N x (Exit.then (y.wp P Q) Q) st w):WC P N (.seq x y) Q st w:=fun a ha=>wp_seq (h a ha)
theorem WC.skip(h:QF N Q .normal st w):WC P N .skip Q st w:=fun a ha=>wp_skip (h a ha)
theorem WC.exit{id:Nat}(h:QF N Q (.exit id) st w):WC P N (.exit id) Q st w:=fun a ha=>wp_exit (h a ha)
theorem WC.ret(h:QF N Q .ret st w):WC P N .ret Q st w:=fun a ha=>wp_ret (h a ha)
theorem WC.block{id:Nat}{c:JC}(h:WC P N c (Ja id Q) st w):WC P N (.block id c) Q st w:=fun a ha=>wp_block (h a ha)
theorem WC.cond{c:I2}{x y:JC}{b:Bool}(hc:ev st c=some (.bool b))(ht:b=true->WC P N x Q st w)(hf:b=false->WC P N y Q st w):WC P N (.cond c x y) Q st w:=
 fun a ha=>wp_cond_split (ha.ev hc) (fun e=>ht e a ha) (fun e=>hf e a ha)
theorem Bi{c:I2}{x y:JC}(hc:ev st c=some (.bool true))(ht:WC P N x Q st w):WC P N (.cond c x y) Q st w:=
 fun a ha=>wp_cond_true (ha.ev hc) (ht a ha)
theorem Bj{c:I2}{x y:JC}(hc:ev st c=some (.bool false))(hf:WC P N y Q st w):WC P N (.cond c x y) Q st w:=
 fun a ha=>wp_cond_false (ha.ev hc) (hf a ha)
theorem ai{y:JC}{Q':IW->Jb->ka->Prop}(h:WC P N y Q st w):QF N (Exit.then (y.wp P Q) Q') .normal st w:=h
theorem aQ{K:Jb->ka->Prop}{id:Nat}(h:QF N Q (.exit id) st w):QF N (Exit.then K Q) (.exit id) st w:=h
theorem cu{K:Jb->ka->Prop}(h:QF N Q .ret st w):QF N (Exit.then K Q) .ret st w:=h
theorem bn{id:Nat}(h:QF N Q .normal st w):QF N (Ja id Q) .normal st w:=h
theorem gk{id:Nat}(h:QF N Q .ret st w):QF N (Ja id Q) .ret st w:=h
theorem bS{id:Nat}(h:QF N Q .normal st w):QF N (Ja id Q) (.exit id) st w:=fun a ha=>by
 show if id=id then _ else _
 rw[if_pos rfl];exact h a ha
theorem ma{id a0:Nat}(a1:J2 a0 id=false)(h:QF N Q (.exit a0) st w):QF N (Ja id Q) (.exit a0) st w:=fun a ha=>by
 show if a0=id then _ else _
 rw[if_neg (fun e=>by rw[e]at a1;simp at a1)];exact h a ha
theorem au{d:Nat}{b b':Bool}{l:List IG}(hs:cf st d=some (.bool b))(hb:b=b')(h:WL P N ops Q l ((d,.bool b')::st) w):WL P N ops Q l st w:=by
 subst hb;refine fun a ha=>h a ⟨ha.size,ha.defers,fun t v hv=>?_⟩
 simp only[cf]at hv
 cases hb:J2 d t with
 |true=>rw[hb]at hv;have:=I7 hb;subst this;simp at hv;subst hv;exact ha.get _ _ hs
 |false=>rw[hb]at hv;exact ha.get _ _ hv
theorem aO{c:I2}{x y:JC}{b:Bool}(hc:ev st c=some (.bool b))(hb:b=true)(ht:WC P N x Q st w):WC P N (.cond c x y) Q st w:=by
 subst hb;exact Bi hc ht
theorem aR{c:I2}{x y:JC}{b:Bool}(hc:ev st c=some (.bool b))(hb:b=false)(hf:WC P N y Q st w):WC P N (.cond c x y) Q st w:=by
 subst hb;exact Bj hc hf
theorem QF.weaken{e:IW}{a0:St}(hc:Cov st a0)(h:QF N Q e a0 w):QF N Q e st w:=fun a ha=>h a (ha.cov hc)
theorem WC.loop{α:Type}{c:JC}(f:α->St)(g:α->ka)(I:α->Prop)(μ:α->Nat)(x0:α)(h0:I x0)(hc:Cov st (f x0))(hw:g x0=w)
  (a0:∀x,I x->WC P N c (Exit.then (fun a' w'=>∃y,I y/\μ y<μ x/\Fits N a' (f y)/\g y=w') Q) (f x) (g x)):WC P N (.loop c) Q st w:=by
 intro a ha;refine wp_loop_ghost (fun n a w=>∃y,I y/\μ y=n/\Fits N a (f y)/\g y=w) (μ x0) ⟨x0,h0,rfl,ha.cov hc,hw⟩ ?_;rintro n a w ⟨x,hI,rfl,hf,rfl⟩;refine wp_mono (a0 x hI a hf) ?_;intro e a' w' hq
 cases e with
 |normal=>obtain⟨y,h1,h2,h3,h4⟩:=hq;exact⟨μ y,h2,y,h1,rfl,h3,h4⟩
 |_=>exact hq
theorem QF.next{α:Type}{f:α->St}{g:α->ka}{I:α->Prop}{m:Nat}{μ:α->Nat}(y:α)(h1:I y)(h2:μ y<m)(h3:Cov st (f y))(h4:g y=w):
 QF N (Exit.then (fun a' w'=>∃y,I y/\μ y<m/\Fits N a' (f y)/\g y=w') Q) .normal st w:=fun _ ha=>⟨y,h1,h2,ha.cov h3,h4⟩
theorem bP{o:IG}(h:o.guard=none)(y:Nat->Option Bool):IJ o y=true:=by simp[IJ,h]
theorem WL.step{o:IG}(hg:o.guard=none)(h:∀a,Fits N a st->o.wp P a w (wpList P ops Q rest) Q):WL P N ops Q (o::rest) st w:=by
 intro a ha;unfold wpList;rw[if_pos (bP hg _)];exact .inl (h a ha)
theorem WL.val{op:Op}{t:ln}{p:String}{e:Array Jp}{d:Nat}{v:ix}{w':ka}(hd:I0 d N=true)
  (a0:∀a:Jb,Fits N a st->(execOp a.eval ⟨some d,op,t,p,e,none⟩).run P w=.ok (.value v) w')
  (h:WL P N ops Q rest ((d,v)::st) w'):WL P N ops Q (⟨some d,op,t,p,e,none⟩::rest) st w:=by
 refine WL.step rfl fun a ha=>?_
 unfold JA;rw[a0 a ha];exact h _ (ha.put hd v)
theorem ik{op:Op}{t:ln}{p:String}{e:Array Jp}{w':ka}
  (a0:∀a:Jb,Fits N a st->(execOp a.eval ⟨none,op,t,p,e,none⟩).run P w=.ok .skip w')
  (h:WL P N ops Q rest st w'):WL P N ops Q (⟨none,op,t,p,e,none⟩::rest) st w:=by
 refine WL.step rfl fun a ha=>?_
 unfold JA;rw[a0 a ha];exact h _ ha
def said(ops:Array IG)(st:St)(j:Nat):Option Bool:=
 match (ops[j]?).bind (·.dst)with
 |some d=>match cf st d with
  |some (.bool b)=>some b
  |_=>none
 |none=>none
theorem bU{a:Jb}(ha:Fits N a st){j:Nat}{b:Bool}(h:said ops st j=some b):yielded ops a.tmps j=some b:=by
 unfold said at h;unfold yielded
 cases hd:(ops[j]?).bind (·.dst)with
 |none=>rw[hd]at h;simp at h
 |some d=>
  rw[hd]at h;simp only at h
  cases hs:cf st d with
  |none=>rw[hs]at h;simp at h
  |some v=>
   rw[hs]at h
   cases v<;>simp at h
   subst h;simp[ha.get _ _ hs]
theorem cz{op:Op}{t:ln}{p:String}{e:Array Jp}{d:Option Mm}{j:Nat}{b:Bool}(hs:said ops st j=some b)
  (h:WL P N ops Q (⟨d,op,t,p,e,none⟩::rest) st w):WL P N ops Q (⟨d,op,t,p,e,some (j,b)⟩::rest) st w:=by
 intro a ha;have h1:=h a ha;unfold wpList at h1 ⊢;rw[if_pos (by simp[IJ])]at h1;rw[if_pos (by simp[IJ,bU ha hs])];exact h1
theorem WL.off{op:Op}{t:ln}{p:String}{e:Array Jp}{d:Nat}{j:Nat}{b b':Bool}(hs:said ops st j=some b')(a0:(b'==b)=false)(hd:I0 d N=true)
  (h:WL P N ops Q rest ((d,undef)::st) w):WL P N ops Q (⟨some d,op,t,p,e,some (j,b)⟩::rest) st w:=by
 intro a ha;unfold wpList;rw[if_neg (by simp[IJ,bU ha hs];simpa using a0)];exact h _ (ha.put hd undef)
def jo(ops:Array IG)(st:St)(j:Nat):Bool:=
 match (ops[j]?).bind (·.dst)with
 |some d=>match cf st d with
  |some (.tuple _)=>true
  |_=>false
 |none=>false
theorem cX{op:Op}{t:ln}{p:String}{e:Array Jp}{d:Nat}{j:Nat}{b:Bool}(hs:jo ops st j=true)(hd:I0 d N=true)
  (h:WL P N ops Q rest ((d,undef)::st) w):WL P N ops Q (⟨some d,op,t,p,e,some (j,b)⟩::rest) st w:=by
 intro a ha;unfold wpList;rw[if_neg ?_]
 ·exact h _ (ha.put hd undef)
 unfold jo at hs;simp only[IJ,yielded]
 cases hd:(ops[j]?).bind (·.dst)with
 |none=>rw[hd]at hs;simp at hs
 |some d=>
  rw[hd]at hs;simp only at hs
  cases hx:cf st d with
  |none=>rw[hx]at hs;simp at hs
  |some v=>
   rw[hx]at hs
   cases v<;>simp at hs
   simp[ha.get _ _ hx]
def RV(P:I6)(N:Nat)(op:Op)(t:ln)(st:St)(w:ka)(v:ix):Prop:=
 ∀a:Jb,Fits N a st->∀(dst:Option Mm) (p:String) (e:Array Jp) (g:Option (Nat×Bool)),(execOp a.eval ⟨dst,op,t,p,e,g⟩).run P w=.ok (.value v) w
theorem bG{op:Op}{t:ln}{p:String}{e:Array Jp}{d:Nat}{v:ix}(hv:RV P N op t st w v)(hd:I0 d N=true)
 (h:WL P N ops Q rest ((d,v)::st) w):WL P N ops Q (⟨some d,op,t,p,e,none⟩::rest) st w:=WL.val hd (fun a ha=>hv a ha _ _ _ _) h
section
variable{t:ln}{p:String}{e:Array Jp}{d:Nat}{x y z:I2}
theorem RV.move{v:ix}(hx:ev st x=some v):RV P N (.move x) t st w (v):=
 fun a ha a0 p e g=>by simp only[execOp,ha.ev hx];rfl
theorem RV.assign{v:ix}(hx:ev st x=some v):RV P N (.assign x) t st w (v):=
 fun a ha a0 p e g=>by simp only[execOp,ha.ev hx];rfl
theorem iz{a:Jb}{b:Bool}{a0:Option Mm}{g:Option (Nat×Bool)}(hx:a.eval x=.bool b):(execOp a.eval ⟨a0,.pick x y z,t,p,e,g⟩).run P w=.ok (.value (bif b then a.eval y else a.eval z)) w:=by
 simp only[execOp,hx];cases b<;>rfl
theorem bq{u:ix}(hc:ev st x=some (.bool false))(hz:ev st z=some u):RV P N (.pick x y z) t st w (u):=
 fun a ha a0 p e g=>by rw[iz (ha.ev hc),ha.ev hz];rfl
theorem bp{v:ix}(hc:ev st x=some (.bool true))(hy:ev st y=some v):RV P N (.pick x y z) t st w (v):=
 fun a ha a0 p e g=>by rw[iz (ha.ev hc),ha.ev hy];rfl
theorem ao{q:IZ}(hx:ev st x=some (.pointer (some q))):RV P N (.nilCheck x) t st w (.pointer (some q)):=
 fun a ha a0 p e g=>by simp only[execOp,ha.ev hx];rfl
section
variable{k:I9}{m n:Int}{xt yt:ln}
theorem tQ{op:My}{k k':I9}{m n:Int}{a:Jb}{a0:Option Mm}{g:Option (Nat×Bool)}(hx:a.eval x=.int k m)(hy:a.eval y=.int k' n){v:ix}(h:(binOp op xt (.int k m) (.int k' n)).run P w=.ok v w):
  (execOp a.eval ⟨a0,.binOp op xt x y yt,t,p,e,g⟩).run P w=.ok (.value v) w:=by
 simp only[execOp,hx,hy];have hg:(eqGuard op xt x y (.int k m) (.int k' n))=pure ():=by
  unfold eqGuard;cases op<;>rfl
 rw[hg];simp[h]
theorem dS{op:My}{k':I9}{v:ix}(hx:ev st x=some (.int k m))(hy:ev st y=some (.int k' n))(hv:(binOp op xt (.int k m) (.int k' n)).run P w=.ok v w):RV P N (.binOp op xt x y yt) t st w (v):=
 fun _ ha _ _ _ _=>tQ (ha.ev hx) (ha.ev hy) hv
theorem Dt:(binOp .add xt (.int k m) (.int k n)).run P w=.ok (.int k (k.wrap (m+n))) w:=by simp[binOp,Lc,pure]
theorem Dl:(binOp .sub xt (.int k m) (.int k n)).run P w=.ok (.int k (k.wrap (m-n))) w:=by simp[binOp,Lc,pure]
theorem tO:(binOp .mul xt (.int k m) (.int k n)).run P w=.ok (.int k (k.wrap (m*n))) w:=by simp[binOp,Lc,pure]
theorem Dn:(binOp .lss xt (.int k m) (.int k n)).run P w=.ok (.bool (decide (m<n))) w:=by simp[binOp,K4,pure]
theorem Do:(binOp .leq xt (.int k m) (.int k n)).run P w=.ok (.bool (decide (m<=n))) w:=by simp[binOp,K4,pure]
theorem Dp:(binOp .gtr xt (.int k m) (.int k n)).run P w=.ok (.bool (decide (n<m))) w:=by simp[binOp,K4,pure]
theorem Dq:(binOp .geq xt (.int k m) (.int k n)).run P w=.ok (.bool (decide (n<=m))) w:=by simp[binOp,K4,pure]
theorem Dr:(binOp .eql xt (.int k m) (.int k n)).run P w=.ok (.bool (m==n)) w:=by simp[binOp,K4,pure]
theorem Dm:(binOp .neq xt (.int k m) (.int k n)).run P w=.ok (.bool (m != n)) w:=by simp[binOp,K4,pure]
def Fit(k:I9)(r:Int):Prop:=k.wrap r=r
theorem Fit.i64{r:Int}(h : -9223372036854775808<=r/\r<=9223372036854775807):Fit .i64 r:=MD r h
theorem Fit.u8{r:Int}(h:0<=r/\r<=255):Fit .u8 r:=MB r h
theorem Fit.u64{r:Int}(h:0<=r/\r<=18446744073709551615):Fit .u64 r:=MC r h
theorem RV.add(hx:ev st x=some (.int k m))(hy:ev st y=some (.int k n))(hr:Fit k (m+n)):RV P N (.binOp .add xt x y yt) t st w (.int k (m+n)):=
 dS hx hy (by rw[Dt,hr])
theorem RV.sub(hx:ev st x=some (.int k m))(hy:ev st y=some (.int k n))(hr:Fit k (m-n)):RV P N (.binOp .sub xt x y yt) t st w (.int k (m-n)):=
 dS hx hy (by rw[Dl,hr])
theorem RV.mul(hx:ev st x=some (.int k m))(hy:ev st y=some (.int k n))(hr:Fit k (m*n)):RV P N (.binOp .mul xt x y yt) t st w (.int k (m*n)):=
 dS hx hy (by rw[tO,hr])
theorem RV.lss(hx:ev st x=some (.int k m))(hy:ev st y=some (.int k n)):RV P N (.binOp .lss xt x y yt) t st w (.bool (decide (m<n))):=
 dS hx hy Dn
theorem RV.leq(hx:ev st x=some (.int k m))(hy:ev st y=some (.int k n)):RV P N (.binOp .leq xt x y yt) t st w (.bool (decide (m<=n))):=
 dS hx hy Do
theorem RV.gtr(hx:ev st x=some (.int k m))(hy:ev st y=some (.int k n)):RV P N (.binOp .gtr xt x y yt) t st w (.bool (decide (n<m))):=
 dS hx hy Dp
theorem RV.geq(hx:ev st x=some (.int k m))(hy:ev st y=some (.int k n)):RV P N (.binOp .geq xt x y yt) t st w (.bool (decide (n<=m))):=
 dS hx hy Dq
theorem RV.eql(hx:ev st x=some (.int k m))(hy:ev st y=some (.int k n)):RV P N (.binOp .eql xt x y yt) t st w (.bool (m==n)):=
 dS hx hy Dr
theorem RV.neq(hx:ev st x=some (.int k m))(hy:ev st y=some (.int k n)):RV P N (.binOp .neq xt x y yt) t st w (.bool (m != n)):=
 dS hx hy Dm
theorem RV.not{b:Bool}(hx:ev st x=some (.bool b)):RV P N (.unOp .not xt x) t st w (.bool (!b)):=
 fun a ha a0 p e g=>by simp only[execOp,ha.ev hx];rfl
theorem dU{k':I9}{a0:TypeDesc}(hs:P.underlying xt=some a0)(a2:P.underlying yt=some (.int k'))(hx:ev st x=some (.int k m))(hr:Fit k' m):RV P N (.convert xt yt x) t st w (.int k' m):=
 fun a ha a3 p e g=>by
  have a1:k'.wrap m=m:=hr;simp only[execOp,ha.ev hx];simp[convert,run_underlying hs,run_underlying a2,LZ,a1]
theorem kP{k':I9}{a0:TypeDesc}(hs:P.underlying xt=some a0)(a1:P.underlying yt=some (.int k'))(hx:ev st x=some (.int k m)):RV P N (.convert xt yt x) t st w (.int k' (k'.wrap m)):=
 fun a ha a2 p e g=>by
  simp only[execOp,ha.ev hx];simp[convert,run_underlying hs,run_underlying a1,LZ]
end
theorem RV.extract{vs:Array ix}{i:Nat}{v:ix}(hx:ev st x=some (.tuple vs))(hv:vs[i]? = some v):RV P N (.extract x i) t st w (v):=
 fun a ha a0 p e g=>by simp only[execOp,ha.ev hx];simp[Instr.extract,hv]
def evs(st:St):List I2->Option (List ix)
 |[]=>some []
 |x::r=>match ev st x,evs st r with
  |some v,some vs=>some (v::vs)
  |_,_=>none
theorem Fits.evs{a:Jb}(ha:Fits N a st):∀ {l:List I2} {vs:List ix},evs st l=some vs->l.map a.eval=vs:=by
 intro l
 induction l with
 |nil=>intro vs h;simpa[VL.evs]using h.symm
 |cons x r ih=>
  intro vs h;simp only[VL.evs]at h
  cases h1:VL.ev st x with
  |none=>rw[h1]at h;simp at h
  |some v=>
   cases h2:VL.evs st r with
   |none=>rw[h1,h2]at h;simp at h
   |some vs'=>
    rw[h1,h2]at h;simp at h;subst h;rw[IK,ha.ev h1,ih h2]
theorem dR{fn:Fn}{f c:List I2}{fs cs:List ix}(hf:evs st f=some fs)(hc:evs st c=some cs):RV P N (.makeFunc fn f.toArray c.toArray) t st w (.func fn fs.toArray cs.toArray):=
 fun a ha a0 p e g=>by simp only[execOp,Instr.makeFunc,I8,ha.evs hf,ha.evs hc];rfl
theorem WL.box{E:ln}{v:ix}(hx:ev st x=some v)(hd:I0 d N=true)
  (h:WL P N ops Q rest ((d,.pointer (some ⟨w.heap.size,0,none⟩))::st) (w.alloc (.cells v.cells E))):WL P N ops Q (⟨some d,.box E x,t,p,e,none⟩::rest) st w:=
 WL.val hd (fun a ha=>by simp only[execOp,ha.ev hx];rfl) h
theorem WL.alloc{E:ln}{z:ix}(hz:(JE E).run P w=.ok z w)(hd:I0 d N=true)
  (h:WL P N ops Q rest ((d,.pointer (some ⟨w.heap.size,0,none⟩))::st) (w.alloc (.cells z.cells E))):WL P N ops Q (⟨some d,.alloc E,t,p,e,none⟩::rest) st w:=
 WL.val hd (fun a ha=>by
  simp only[execOp,Instr.alloc]
  simp[hz,newVar,newRow,newObj];rfl) h
def Ret(P:I6)(f:JL)(args:List ix)(w:ka)(R:ix->ka->Prop):Prop:=
 Calls P f args.toArray w fun | .returned v,w'=>R v w'|_,_=>False
theorem Ret.mono{f:JL}{args:List ix}{w:ka}{R R':ix->ka->Prop}(h:Ret P f args w R)(hr:∀v w',R v w'->R' v w'):Ret P f args w R':=
 Jh h fun e w' q=>by cases e<;>first|exact hr _ _ q|exact q.elim
theorem WL.call{f:JL}{args:List I2}{a2:Array ln}{vs:List ix}{R:ix->ka->Prop}
  (hf:∀(args:Array ix) (w:ka),(callFunc f args).run P w=.ok (.enter f args) w) (a0:evs st args=some vs) (hc:Ret P f vs w R) (hd:I0 d N=true)
  (h:∀v w',R v w'->WL P N ops Q rest ((d,v)::st) w'):WL P N ops Q (⟨some d,.call ⟨.value (.func f),args.toArray,a2⟩,t,p,e,none⟩::rest) st w:=by
 refine WL.step rfl fun a ha=>?_
 unfold JA;have a1:(execOp a.eval ⟨some d,.call ⟨.value (.func f),args.toArray,a2⟩,t,p,e,none⟩).run P w=.ok (.enter f vs.toArray) w:=by
  simp only[execOp,resolve,Je,I8];rw[ha.evs a0];simp[Js,invoke,hf]
 rw[a1];exact Jh hc fun e w' q=>by
  cases e with
  |returned v=>exact h v w' q _ (ha.put hd v)
  |panicked c=>exact q.elim
  |outgrown=>exact q.elim
theorem dq{f:JL}{args:List I2}{a2:Array ln}{vs:List ix}{cs:Array ix}{R:ix->ka->Prop}
  (hx:ev st x=some (.func (.func f) #[] cs))
  (hf:∀(args:Array ix) (w:ka),(callFunc f args).run P w=.ok (.enter f args) w) (a0:evs st args=some vs) (hc:Ret P f (vs++cs.toList) w R) (hd:I0 d N=true)
  (h:∀v w',R v w'->WL P N ops Q rest ((d,v)::st) w'):WL P N ops Q (⟨some d,.call ⟨.value x,args.toArray,a2⟩,t,p,e,none⟩::rest) st w:=by
 refine WL.step rfl fun a ha=>?_
 unfold JA;have a1:(execOp a.eval ⟨some d,.call ⟨.value x,args.toArray,a2⟩,t,p,e,none⟩).run P w=.ok (.enter f (vs++cs.toList).toArray) w:=by
  simp only[execOp,resolve,I8,ha.evs a0,ha.ev hx];simp[Js,invoke,hf]
 rw[a1];exact Jh hc fun e w' q=>by
  cases e with
  |returned v=>exact h v w' q _ (ha.put hd v)
  |panicked c=>exact q.elim
  |outgrown=>exact q.elim
end
end
def RP(P:I6)(fn:M9)(R:ix->ka->Prop):IW->Jb->ka->Prop
 |.normal,a,w |.ret,a,w=>a.defers=[]/\∃v,(results fn a.tmps).run P w=.ok v w/\R v w
 |_,_,_=>False
theorem Ret.body{P:I6}{N:Nat}{f:JL}{fn:M9}{c:JC}{args:List ix}{st:St}{w:ka}{R:ix->ka->Prop}
  (hf:P.funcs[f]? = some fn) (hb:fn.body=some c) (hN:fn.ntmps=N) (a0:Fits N { tmps:=args.toArray++Km (N-args.length) undef,defers:=[] } st)
  (h:WC P N c (RP P fn R) st w):Ret P f args w R:=by
 refine calls_of_wp hf hb ?_;rw[hN];refine wp_mono (h _ (by simpa using a0)) ?_
 intro e a w' q
 cases e<;>first|exact q|exact q.elim
theorem pg{N:Nat}:∀ {args:List ix} (_:Lw args.length N=true) {st:St} (_:∀t v,cf st t=some v->args[t]? = some v),
  Fits N { tmps:=args.toArray++Km (N-args.length) undef,defers:=[] } st:=by
 intro args hN st h;have a1:args.length<=N:=Ju hN;refine⟨by simp;omega,rfl,fun t v hv=>?_⟩;have:=h t v hv;have a0:t<args.length:=(IH.1 this).1;rw[Array.getElem?_append_left (by simpa using a0)];simpa using this
def Dj:Nat->List ix->St
 |_,[]=>[]
 |k,v::r=>(k,v)::Dj (k+1) r
theorem mH:∀(args:List ix) (k t:Nat) (v:ix),cf (Dj k args) t=some v->k<=t/\args[t-k]? = some v
 |[],k,t,v,h=>by simp[Dj,cf]at h
 |u::r,k,t,v,h=>by
  simp only[Dj,cf]at h
  cases hb:J2 k t with
  |true=>
   rw[hb]at h;have:k=t:=I7 hb;subst this;simpa using h
  |false=>
   rw[hb]at h;obtain⟨h1,h2⟩:=mH r (k+1) t v h;refine⟨zo,?_⟩;rw[show t-k=(t-(k+1))+1 from by omega];simpa using h2
theorem Ret.enter{P:I6}{N:Nat}{f:JL}{fn:M9}{c:JC}{args:List ix}{w:ka}{R:ix->ka->Prop}
  (hf:P.funcs[f]? = some fn) (hN:fn.ntmps=N) (hb:fn.body=some c) (a0:Lw args.length N=true)
  (h:WC P N c (RP P fn R) (Dj 0 args) w):Ret P f args w R:=
 Ret.body hf hb hN (pg a0 fun t v hv=>by simpa using(mH args 0 t v hv).2) h
section
variable{P:I6}{N:Nat}{st:St}{w:ka}{fn:M9}{R:ix→ka→Prop}
theorem af{t:Mm}{v:ix}(hr:fn.results = #[.tmp t])(hv:cf st t=some v)(h:R v w):QF N (RP P fn R) .ret st w:=fun a ha=>
 ⟨ha.defers,v,by have:=ha.get _ _ hv;simp[results,hr,I4,this],h⟩
theorem aG(hr:fn.results = #[])(h:R (.tuple #[]) w):QF N (RP P fn R) .normal st w:=fun a ha=>⟨ha.defers,_,by simp[results,hr],h⟩
theorem cj(hr:fn.results = #[])(h:R (.tuple #[]) w):QF N (RP P fn R) .ret st w:=fun a ha=>⟨ha.defers,_,by simp[results,hr],h⟩
theorem bB{t u:Mm}{v v':ix}(hr:fn.results = #[.tmp t,.tmp u])(hv:cf st t=some v)(a0:cf st u=some v')(h:R (.tuple #[v,v']) w):QF N (RP P fn R) .ret st w:=fun a ha=>
 ⟨ha.defers,_,by have:=ha.get _ _ hv;have h2:=ha.get _ _ a0;simp[results,hr,I4,this,h2],h⟩
end
open Go.RowKit (Below)
def Ext(w w':ka):Prop:=Below w.heap.size w w'
theorem Ext.refl(w:ka):Ext w w:=Ma _ _
theorem Ext.trans{a b c:ka}(h:Ext a b)(k:Ext b c):Ext a c:=Below.trans h (Below.mono k h.size)
theorem Ext.alloc(w:ka)(o:Obj):Ext w (w.alloc o):=(Ma _ _).alloc (ID _) o
theorem Ext.drew{w w':ka}(h:Ext w w'):Ext w w'.drew:=⟨h.os,h.tape,h.output,h.size,h.block⟩
theorem Ext.cell{w w':ka}(h:Ext w w'){a:IZ}{v:ix}(hc:w.cell? a=some v):w'.cell? a=some v:=
 (Below.cell h (JN w a hc)).trans hc
def adr(v:ix)(sz i:Nat):IZ:=
 match v with
 |.slice (some a) _ _=>⟨a.block,a.off+i*sz,none⟩
 |_=>default
def nth{α:Type}[Inhabited α](xs:List α)(i:Nat):α:=xs.getD i default
theorem aB{α:Type}[Inhabited α]{xs:List α}{i:Nat}(h:i<xs.length):nth xs i=xs[i]:=by
 simp[nth,IX,h]
theorem ax{α:Type}[Inhabited α](a:α)(l:List α):nth (a::l) 0=a:=rfl
theorem bA{α:Type}[Inhabited α](a:α)(l:List α)(i:Nat):nth (a::l) (i+1)=nth l i:=rfl
attribute [irreducible] nth
structure Sl{α:Type}(enc:α->List ix)(sz:Nat)(w:ka)(v:ix)(xs:List α):Prop where
 shape:∃a c,v=.slice a xs.length c/\xs.length<=c/\c<=9223372036854775807/\(xs.length≠0->∃b o,a=some ⟨b,o,none⟩)
 cells:∀i (h:i<xs.length) j u,(enc xs[i])[j]? = some u->w.cell? ((adr v sz i).add j)=some u
theorem Sl.of_cells{α:Type}{enc:α->List ix}{sz:Nat}{w w':ka}{v:ix}{xs:List α}(h:Sl enc sz w v xs)(hc:∀a u,w.cell? a=some u->w'.cell? a=some u):Sl enc sz w' v xs:=
 ⟨h.shape,fun i hi j u hu=>hc _ _ (h.cells i hi j u hu)⟩
theorem Sl.ext{α:Type}{enc:α->List ix}{sz:Nat}{w w':ka}{v:ix}{xs:List α}(h:Sl enc sz w v xs)(e:Ext w w'):Sl enc sz w' v xs:=h.of_cells fun _ _=>e.cell
theorem Sl.drew{α:Type}{enc:α->List ix}{sz:Nat}{w:ka}{v:ix}{xs:List α}(h:Sl enc sz w v xs):Sl enc sz w.drew v xs:=h.of_cells fun _ _ h=>h
theorem Sl.one{α:Type}{enc:α->List ix}{sz:Nat}{w:ka}{v:ix}{xs:List α}(h:Sl enc sz w v xs):v.oneCell'=true:=by
 obtain⟨_,_,rfl,_⟩:=h.shape;rfl
theorem Sl.len_le{α:Type}{enc:α->List ix}{sz:Nat}{w:ka}{v:ix}{xs:List α}(h:Sl enc sz w v xs):xs.length<=9223372036854775807:=by
 obtain⟨a,c,_,h1,h2,_⟩:=h.shape;omega
theorem Sl.cell{α:Type}[Inhabited α]{enc:α->List ix}{sz:Nat}{w:ka}{v:ix}{xs:List α}(h:Sl enc sz w v xs){i j:Nat}{u:ix}(hi:i<xs.length)(hu:(enc (nth xs i))[j]? = some u):w.cell? ((adr v sz i).add j)=some u:=
 h.cells i hi j u (by rw[<-aB hi];exact hu)
theorem ay(v:ix)(sz i:Nat):(adr v sz i).add 0=adr v sz i:=rfl
theorem Sl.ld{α:Type}[Inhabited α]{val:α->ix}{sz:Nat}{w:ka}{v:ix}{xs:List α}(h:Sl (fun x=>[val x]) sz w v xs){i:Nat}(hi:i<xs.length):w.cell? (adr v sz i)=some (val (nth xs i)):=
 h.cell (j:=0) hi rfl
abbrev Ints(w:ka)(v:ix)(xs:List Int):Prop:=Sl (fun(x:Int)=>[nI x]) 1 w v xs
abbrev IA(w:ka)(v:ix)(xs:List Nat):Prop:=Sl (fun(x:Nat)=>[nI (x:Int)]) 1 w v xs
section
variable{P:I6}{N:Nat}{ops:Array IG}{Q:IW→Jb→ka→Prop}{rest:List IG}{st:St}{w:ka}
variable{t:ln}{p:String}{e:Array Jp}{d:Nat}{x y z:I2}
theorem RV.len{T E:ln}{α:Type}{enc:α->List ix}{sz:Nat}{v:ix}{xs:List α}(hs:Sl enc sz w v xs)(hu:P.underlying T=some (.slice E))(hx:ev st x=some v):RV P N (.call ⟨.builtin .len,#[x],#[T]⟩) t st w (nI (xs.length:Int)):=
 fun a ha a0 p e g=>by
  obtain⟨ad,c,hv,_⟩:=hs.shape;simp only[execOp,resolve,I8,IK,J0,ha.ev hx];subst hv;simp[invoke,Go.builtin,MG,run_underlying hu,goInt]
theorem RV.indexAddr{T E:ln}{α:Type}{enc:α->List ix}{sz:Nat}{v:ix}{xs:List α}{k:I9}{i:Int}(hs:Sl enc sz w v xs)(hu:P.underlying T=some (.slice E))(hE:(IY E).run P w=.ok sz w)
  (hx:ev st x=some v) (hy:ev st y=some (.int k i)) (n:Nat) (hi:i=n) (hn:n<xs.length):RV P N (.indexAddr T x y) t st w (.pointer (some (adr v sz n))):=
 fun a ha a0 p e g=>by
  obtain⟨ad,c,hv,_,_,hb⟩:=hs.shape;obtain⟨b,o,rfl⟩:=hb zo;simp only[execOp,ha.ev hx,ha.ev hy];subst hv;subst hi;have:((n:Int)<(xs.length:Int)):=zo;simp only[adr];have he:(if n*sz=0 then(⟨b,o,none⟩:IZ)else⟨b,o+n*sz,none⟩)=⟨b,o+n*sz,none⟩:=by split<;>simp_all
  simp[KK,asIntOf,run_underlying hu,hE,IQ,hn,he]
def Shape(v:ix)(n:Nat):Prop:=∃a c,v=.slice a n c/\(n≠0->∃b o,a=some ⟨b,o,none⟩)
theorem Sl.sh{α:Type}{enc:α->List ix}{sz:Nat}{w:ka}{v:ix}{xs:List α}(h:Sl enc sz w v xs):Shape v xs.length:=by
 obtain⟨a,c,h1,_,_,h2⟩:=h.shape;exact⟨a,c,h1,h2⟩
theorem az{T E:ln}{sz m:Nat}{v:ix}{k:I9}{i:Int}(hs:Shape v m)(hu:P.underlying T=some (.slice E))(hE:(IY E).run P w=.ok sz w)
  (hx:ev st x=some v) (hy:ev st y=some (.int k i)) (n:Nat) (hi:i=n) (hn:n<m):RV P N (.indexAddr T x y) t st w (.pointer (some (adr v sz n))):=
 fun a ha a0 p e g=>by
  obtain⟨ad,c,hv,hb⟩:=hs;obtain⟨b,o,rfl⟩:=hb zo;simp only[execOp,ha.ev hx,ha.ev hy];subst hv;subst hi;simp only[adr];have he:(if n*sz=0 then(⟨b,o,none⟩:IZ)else⟨b,o+n*sz,none⟩)=⟨b,o+n*sz,none⟩:=by split<;>simp_all
  simp[KK,asIntOf,run_underlying hu,hE,IQ,hn,he]
theorem RV.load{T:ln}{q:IZ}{u:ix}(hc:w.cell? q=some u)(hT:(LD T).run P w=.ok false w)(hx:ev st x=some (.pointer (some q))):RV P N (.load T x) t st w (u):=
 fun a ha a0 p e g=>by
  simp only[execOp,ha.ev hx];simp[LY,J4,loadVar,hT,hc]
theorem run_loadCellsFrom{q:IZ}:∀(us:List ix) (i:Nat) (a0:Array ix),(∀j u,us[j]? = some u->w.cell? (q.add (i+j))=some u)->(loadCellsFrom q i us.length a0).run P w=.ok (a0++us.toArray) w
 |[],i,a0,_=>by simp[loadCellsFrom]
 |u::r,i,a0,h=>by
  have h0:=h 0 u rfl;have ih:=run_loadCellsFrom r (i+1) (a0.push u) (fun j v hv=>by have:=h (j+1) v (by simpa using hv);rwa[show i+1+j=i+(j+1)from by omega]);simp only[KY]at h0;simp[loadCellsFrom,h0,ih]
theorem ah{T:ln}{q:IZ}{us:List ix}(hc:∀j u,us[j]? = some u->w.cell? (q.add j)=some u)(hT:(LD T).run P w=.ok true w)(hn:(IY T).run P w=.ok us.length w)(hx:ev st x=some (.pointer (some q))):RV P N (.load T x) t st w (.agg us.toArray):=
 fun a ha a0 p e g=>by
  simp only[execOp,ha.ev hx];have:=run_loadCellsFrom (P:=P) us 0 #[] (q:=q) (w:=w) (by simpa using hc);simp[LY,J4,loadVar,hT,hn,loadCells,this]
theorem RV.fieldAddr{S:ln}{fs:Array KA}{f m:Nat}{fd:KA}{q:IZ}(o:Nat)(hu:P.underlying S=some (.struct fs))(hf:fs[f]? = some fd)(ho:fd.offset=o)(hz:(IY fd.type).run P w=.ok m w)(hm:m≠0)
  (hx:ev st x=some (.pointer (some q))):RV P N (.fieldAddr S x f) t st w (.pointer (some (q.add o))):=
 fun a ha a0 p e g=>by
  subst ho;simp only[execOp,ha.ev hx];simp[Instr.fieldAt,J4,fieldPlace,run_underlying hu,hf,hz,hm]
end
end Go.VL
end
section
namespace Go.VL
open Go.RowKit (Below)
structure Upd(S:Nat->Prop)(O:Nat->Nat)(w:ka)(O':Nat->Nat)(w':ka):Prop where
 os:w'.os=w.os
 tape:w'.tape=w.tape
 output:w'.output=w.output
 size:w.heap.size<=w'.heap.size
 blk:∀b,b<w.heap.size->¬S (O b)->w'.heap[b]? = w.heap[b]?
 tag:∀b,O b≠0->O' b=O b
 new:∀b,O' b≠0->O b≠0\/(w.heap.size<=b/\b<w'.heap.size)
 z:¬S 0
structure Rng(B:Nat)(O:Nat->Nat)(w:ka):Prop where
 le:B<=w.heap.size
 rng:∀b,O b≠0->B<=b/\b<w.heap.size
theorem Upd.refl{S:Nat->Prop}(h:¬S 0)(O:Nat->Nat)(w:ka):Upd S O w O w:=⟨rfl,rfl,rfl,ID _,fun _ _ _=>rfl,fun _ _=>rfl,fun _ h=>.inl h,h⟩
theorem Upd.mono{S S':Nat->Prop}{O O':Nat->Nat}{w w':ka}(h:Upd S O w O' w')(hs:∀i,S i->S' i)(hz:¬S' 0):Upd S' O w O' w':=
 ⟨h.os,h.tape,h.output,h.size,fun b hb hn=>h.blk b hb fun hS=>hn (hs _ hS),h.tag,h.new,hz⟩
theorem Upd.trans{S:Nat->Prop}{O O1 O2:Nat->Nat}{w w1 w2:ka}(h:Upd S O w O1 w1)(k:Upd S O1 w1 O2 w2):Upd S O w O2 w2:=by
 refine⟨k.os.trans h.os,k.tape.trans h.tape,k.output.trans h.output,JI h.size k.size,fun b hb hn=>?_,fun b hb=>?_,fun b hb=>?_,h.z⟩
 ·refine(k.blk b (Jo hb h.size) ?_).trans (h.blk b hb hn)
  by_cases h0:O b=0
  ·have:O1 b=0:=by
    refine IE fun a0=>?_
    rcases h.new b a0 with h1|h1
    ·exact h1 h0
    omega
   rw[this];exact h.z
  rw[h.tag b h0];exact hn
 ·have h1:=h.tag b hb;rw[k.tag b (by rw[h1];exact hb),h1]
 rcases k.new b hb with h1|h1
 ·rcases h.new b h1 with h2|h2
  ·exact .inl h2
  exact .inr ⟨h2.1,Jo h2.2 k.size⟩
 exact .inr ⟨JI h.size h1.1,h1.2⟩
theorem aa{S:Nat->Prop}(hz:¬S 0){w w':ka}(O:Nat->Nat)(h:Ext w w'):Upd S O w O w':=
 ⟨h.os,h.tape,h.output,h.size,fun b hb _=>h.block b hb,fun _ _=>rfl,fun _ h=>.inl h,hz⟩
theorem Rng.upd{B:Nat}{S:Nat->Prop}{O O':Nat->Nat}{w w':ka}(r:Rng B O w)(h:Upd S O w O' w'):Rng B O' w':=by
 refine⟨JI r.le h.size,fun b hb=>?_⟩
 rcases h.new b hb with h1|h1
 ·exact⟨(r.rng b h1).1,Jo (r.rng b h1).2 h.size⟩
 exact⟨JI r.le h1.1,h1.2⟩
theorem aw(w:ka):Rng w.heap.size (fun _=>0) w:=⟨ID _,fun _ h=>absurd rfl h⟩
theorem Rng.ext{B:Nat}{O:Nat->Nat}{w w':ka}(r:Rng B O w)(h:Ext w w'):Rng B O w':=r.upd (aa (S:=fun _=>False) (fun h=>h) O h)
theorem Upd.below{B:Nat}{S:Nat->Prop}{O O':Nat->Nat}{w w':ka}(h:Upd S O w O' w')(r:Rng B O w):Below B w w':=by
 refine⟨h.os,h.tape,h.output,h.size,fun b hb=>h.blk b (Jo hb r.le) ?_⟩;have:O b=0:=IE fun a0=>by have:=(r.rng b a0).1;omega
 rw[this];exact h.z
theorem Upd.ext{S:Nat->Prop}{O':Nat->Nat}{w w':ka}(h:Upd S (fun _=>0) w O' w'):Ext w w':=h.below (aw w)
theorem Upd.drew{S:Nat->Prop}{O O':Nat->Nat}{w w':ka}(h:Upd S O w O' w'):Upd S O w O' w'.drew:=⟨h.os,h.tape,h.output,h.size,h.blk,h.tag,h.new,h.z⟩
theorem Upd.ofDrew{S:Nat->Prop}{O O':Nat->Nat}{w w':ka}(h:Upd S O w.drew O' w'):Upd S O w O' w':=⟨h.os,h.tape,h.output,h.size,h.blk,h.tag,h.new,h.z⟩
theorem Rng.drew{B:Nat}{O:Nat->Nat}{w:ka}(h:Rng B O w):Rng B O w.drew:=⟨h.le,h.rng⟩
def jI(O:Nat->Nat)(b i:Nat):Nat->Nat:=fun k=>if k=b then i else O k
theorem cT(O:Nat->Nat)(b i:Nat):jI O b i b=i:=if_pos rfl
theorem Upd.alloc{S:Nat->Prop}(hz:¬S 0){B:Nat}{O:Nat->Nat}{w:ka}(r:Rng B O w)(o:Obj)(i:Nat):Upd S O w (jI O w.heap.size i) (w.alloc o):=by
 refine⟨rfl,rfl,rfl,by simp,fun b hb _=>Mb _ _ _ hb,fun b hb=>?_,fun b hb=>?_,hz⟩
 ·unfold jI;rw[if_neg];have:=(r.rng b hb).2;omega
 unfold jI at hb
 split at hb
 ·rename_i h;subst h;exact .inr ⟨ID _,by simp⟩
 exact .inl hb
structure RowO(O:Nat->Nat)(w:ka)(i:Nat)(E:ln)(sz:Nat)(v:ix)(n:Nat)(xs:List ix):Prop where
 row:w.ownsRow 0 E sz v n xs
 tag:∀g,v.ownBlock=some g->O g=i
theorem bt{w:ka}{g:Nat}{o:Obj}(h:w.heap[g]? = some o):g<w.heap.size:=(KC.1 h).1
theorem RowO.upd{S:Nat->Prop}{O O':Nat->Nat}{w w':ka}{i:Nat}{E:ln}{sz:Nat}{v:ix}{n:Nat}{xs:List ix}(h:RowO O w i E sz v n xs)(u:Upd S O w O' w')(hi:i≠0)(hS:¬S i):RowO O' w' i E sz v n xs:=by
 refine⟨⟨h.row.1,?_⟩,fun g hg=>?_⟩
 ·rcases h.row.2 with h1|⟨g,a2,a1,hv,hg,hh,a0⟩
  ·exact .inl h1
  refine .inr ⟨g,a2,a1,hv,hg,?_,a0⟩;rw[u.blk g (bt hh) (by rw[h.tag g (by rw[hv];rfl)];exact hS)];exact hh
 have:=h.tag g hg;rw[u.tag g (by rw[this];exact hi),this]
theorem RowO.drew{O:Nat->Nat}{w:ka}{i:Nat}{E:ln}{sz:Nat}{v:ix}{n:Nat}{xs:List ix}(h:RowO O w i E sz v n xs):RowO O w.drew i E sz v n xs:=⟨h.row,h.tag⟩
theorem RowO.nil(O:Nat->Nat)(w:ka)(i:Nat)(E:ln)(sz:Nat):RowO O w i E sz (nS) 0 []:=⟨World.ownsRow_nil _ _ _ _,fun g hg=>by simp[Kw]at hg⟩
structure BlkO(O:Nat->Nat)(w:ka)(i b:Nat)(cs:Array ix)(E:ln):Prop where
 blk:w.heap[b]? = some (.cells cs E (0,0))
 tag:O b=i
theorem BlkO.upd{S:Nat->Prop}{O O':Nat->Nat}{w w':ka}{i b:Nat}{cs:Array ix}{E:ln}(h:BlkO O w i b cs E)(u:Upd S O w O' w')(hi:i≠0)(hS:¬S i):BlkO O' w' i b cs E:=
 ⟨by rw[u.blk b (bt h.blk) (by rw[h.tag];exact hS)];exact h.blk,by rw[u.tag b (by rw[h.tag];exact hi),h.tag]⟩
theorem BlkO.drew{O:Nat->Nat}{w:ka}{i b:Nat}{cs:Array ix}{E:ln}(h:BlkO O w i b cs E):BlkO O w.drew i b cs E:=⟨h.blk,h.tag⟩
theorem BlkO.new(O:Nat->Nat)(w:ka)(i:Nat)(cs:Array ix)(E:ln):BlkO (jI O w.heap.size i) (w.alloc (.cells cs E)) i w.heap.size cs E:=
 ⟨heap_alloc_new w _,cT _ _ _⟩
theorem BlkO.cell{O:Nat->Nat}{w:ka}{i b:Nat}{cs:Array ix}{E:ln}(h:BlkO O w i b cs E)(j:Nat){u:ix}(hu:cs[j]? = some u):w.cell? ⟨b,j,none⟩=some u:=by
 rw[cell_of_row w b j cs E (0,0) h.blk];exact hu
theorem BlkO.set{O:Nat->Nat}{w:ka}{i b:Nat}{cs:Array ix}{E:ln}(h:BlkO O w i b cs E)(j:Nat)(u:ix):BlkO O (w.setCell ⟨b,j,none⟩ u) i b (cs.setIfInBounds j u) E:=by
 refine⟨?_,h.tag⟩;simp only[K0,KU,if_pos]
 rw[h.blk];simp
theorem Upd.set{S:Nat->Prop}(hz:¬S 0){O:Nat->Nat}{w:ka}{i b j:Nat}{u:ix}(ht:O b=i)(hS:S i):Upd S O w O (w.setCell ⟨b,j,none⟩ u):=
 ⟨rfl,rfl,rfl,by simp[K0],fun k _ hn=>Kb _ _ _ _ (fun e=>hn (by subst e;rw[ht];exact hS)),fun _ _=>rfl,fun _ h=>.inl h,hz⟩
def RowT{α:Type}(enc:α->List ix)(E:ln)(sz:Nat)(O:Nat->Nat)(w:ka)(i:Nat)(v:ix)(l:List α):Prop:=RowO O w i E sz v l.length (l.flatMap enc)/\∀x∈l,(enc x).length=sz
theorem eu{α:Type}{enc:α->List ix}{sz:Nat}:∀(l:List α),(∀x∈l,(enc x).length=sz)->∀i (h:i<l.length) j u,(enc l[i])[j]? = some u->(l.flatMap enc)[i*sz+j]? = some u
 |x::l,hz,0,_,j,u,hu=>by
  have hl:=hz x (by simp);have hj:j<(enc x).length:=(IH.1 (by simpa using hu)).1;simp only[JM,Kj,J1];rw[List.getElem?_append_left hj];simpa using hu
 |x::l,hz,i+1,h,j,u,hu=>by
  have hl:=hz x (by simp);simp only[JM];rw[show(i+1)*sz+j=(enc x).length+(i*sz+j)from by rw[hl,JZ];omega,KH zo,show(enc x).length+(i*sz+j)-(enc x).length=i*sz+j from by omega];exact eu l (fun y hy=>hz y (by simp[hy])) i (by simpa using h) j u (by simpa using hu)
theorem RowT.sl{α:Type}{enc:α->List ix}{E:ln}{sz:Nat}{O:Nat->Nat}{w:ka}{i:Nat}{v:ix}{l:List α}(h:RowT enc E sz O w i v l):Sl enc sz w v l:=by
 obtain⟨⟨⟨hl,hr⟩,_⟩,hz⟩:=h
 rcases hr with⟨rfl,h0⟩|⟨g,a0,a3,rfl,_,hg,a1,a2,a4,ht⟩
 ·have:l=[]:=IU h0;subst this;exact⟨⟨none,0,rfl,ID _,zo,fun h=>absurd rfl h⟩,fun i hi=>absurd hi (by simp)⟩
 refine⟨⟨_,a0,rfl,a1,by simpa[maxLen]using a2,fun _=>⟨g,0,rfl⟩⟩,fun i hi j u hu=>?_⟩;have:=eu l hz i hi j u hu;rw[<-ht,List.getElem?_take]at this
 split at this
 ·have ha:((adr (.slice (some ⟨g,0,none⟩) l.length a0) sz i).add j)=⟨g,i*sz+j,none⟩:=by
   simp only[adr,IQ];split<;>simp_all
  rw[ha,cell_of_row w g _ a3 E (0,0) hg];simpa using this
 cases this
theorem RowT.upd{α:Type}{enc:α->List ix}{S:Nat->Prop}{O O':Nat->Nat}{w w':ka}{i:Nat}{E:ln}{sz:Nat}{v:ix}{l:List α}(h:RowT enc E sz O w i v l)(u:Upd S O w O' w')(hi:i≠0)(hS:¬S i):RowT enc E sz O' w' i v l:=
 ⟨h.1.upd u hi hS,h.2⟩
theorem RowT.drew{α:Type}{enc:α->List ix}{O:Nat->Nat}{w:ka}{i:Nat}{E:ln}{sz:Nat}{v:ix}{l:List α}(h:RowT enc E sz O w i v l):RowT enc E sz O w.drew i v l:=⟨h.1.drew,h.2⟩
theorem RowT.nil{α:Type}(enc:α->List ix)(E:ln)(sz:Nat)(O:Nat->Nat)(w:ka)(i:Nat):RowT enc E sz O w i (nS) []:=⟨RowO.nil _ _ _ _ _,by simp⟩
theorem RowO.one{O:Nat->Nat}{w:ka}{i:Nat}{E:ln}{sz:Nat}{v:ix}{n:Nat}{xs:List ix}(h:RowO O w i E sz v n xs):v.oneCell'=true:=by
 rcases h.row.2 with⟨rfl,_⟩|⟨g,a1,a0,rfl,_⟩<;>rfl
theorem RowT.one{α:Type}{enc:α->List ix}{O:Nat->Nat}{w:ka}{i:Nat}{E:ln}{sz:Nat}{v:ix}{l:List α}(h:RowT enc E sz O w i v l):v.oneCell'=true:=h.1.one
theorem RowT.put{α:Type}{val:α->ix}{O:Nat->Nat}{w:ka}{i:Nat}{E:ln}{v:ix}{l:List α}(h:RowT (fun x=>[val x]) E 1 O w i v l){n:Nat}(hn:n<l.length)(x:α):
  w.cell? (adr v 1 n)=some (val (l[n]))/\w.frozen? (adr v 1 n)=false/\RowT (fun x=>[val x]) E 1 O (w.setCell (adr v 1 n) (val x)) i v (l.set n x)/\O (adr v 1 n).block=i:=by
 have a0:=h.sl.cells n hn 0 (val l[n]) rfl;rw[ay]at a0;refine⟨a0,?_⟩;obtain⟨⟨⟨hl,hr⟩,a1⟩,hz⟩:=h
 rcases hr with⟨rfl,h0⟩|⟨g,a3,a8,rfl,a7,hg,a4,a6,a5,ht⟩
 ·omega
 have ha:adr (.slice (some ⟨g,0,none⟩) l.length a3) 1 n=⟨g,n,none⟩:=by simp[adr]
 rw[ha];have a2:∀l:List α,(l.flatMap fun x=>[val x])=l.map val:=fun l=>by induction l<;>simp_all
 refine⟨by simp[LL,hg],⟨⟨⟨by rw[a2];simp,.inr ⟨g,a3,a8.setIfInBounds n (val x),by simp,a7,?_,by simpa using a4,a6,by simpa using a5,?_⟩⟩,by simpa using a1⟩,by simp⟩,a1 g rfl⟩
 ·simp only[K0,KU,if_pos];rw[hg];simp
 simp only[Kp,List.length_set,KB]at ht ⊢;rw[a2]at ht ⊢;rw[List.take_set,ht,List.map_set]
structure Elem(P:I6)(T E:ln)(sz bytes:Nat):Prop where
 ht:P.underlying T=some (.slice E)
 info:(P.info? E).map (fun i=>(i.zero.map (·.cells.size),i.size,i.bytes))=some (some sz,sz,bytes)
 pos:0<sz
theorem Elem.parts{P:I6}{T E:ln}{sz bytes:Nat}(h:Elem P T E sz bytes):∃i z,P.info? E=some i/\i.zero=some z/\i.size=sz/\i.bytes=bytes/\z.cells.size=sz:=by
 have:=h.info
 cases hi:P.info? E with
 |none=>rw[hi]at this;simp at this
 |some i=>
  rw[hi]at this;simp only[IP,JD,Lv]at this;obtain⟨h1,h2,h3⟩:=this
  cases hz:i.zero with
  |none=>rw[hz]at h1;simp at h1
  |some z=>rw[hz]at h1;simp at h1;exact⟨i,z,rfl,hz,h2,h3,h1⟩
theorem dH{P:I6}{w:ka}{T ty E:ln}{sz a7:Nat}(he:Elem P T E sz a7){B:Nat}{O:Nat->Nat}(r:Rng B O w){i:Nat}
  {v:ix} {n:Nat} {xs:List ix} (a1:RowO O w i E sz v n xs)
  (a:IZ) (m c:Nat) (a0:List ix) (hl:a0.length=m*sz) (a3:∀j u,a0[j]? = some u->w.cell? (a.add j)=some u) (h1:∀u∈a0,u.oneCell'=true)
  (a4:(n+m)*a7<=140737488355328) (c8:n+m<=9223372036854775807) (b9:i≠0) :
  ∃v' w' O',(Le #[T,T] ty #[v,.slice (some a) m c]).run P w=.ok v' w'/\RowO O' w' i E sz v' (n+m) (xs++a0)/\Upd (fun k=>k=i) O w O' w':=by
 obtain⟨a8,z,hi,hz,b8,c7,b7⟩:=he.parts;have ht:=he.ht;subst b8;subst c7;have a5:(xs++a0).length=(n+m)*a8.size:=by rw[K8,a1.row.1,hl,JZ]
 have b2:¬(0=i):=fun h=>b9 h.symm
 have a6:∀(old:Nat),old<n+m->
   RowO (jI O w.heap.size i) (w.drew.alloc (.cells (xs.toArray++a0.toArray++K7 z.cells (grownCap w (n+m) old E-(n+m))) E)) i E a8.size
    (.slice (some ⟨w.heap.size,0,none⟩) (n+m) (grownCap w (n+m) old E)) (n+m) (xs++a0)/\
   Upd (fun k=>k=i) O w (jI O w.heap.size i) (w.drew.alloc (.cells (xs.toArray++a0.toArray++K7 z.cells (grownCap w (n+m) old E-(n+m))) E)):=by
  intro old ho;have b':=grownCap_ge w (n+m) old E;have b5:grownCap w (n+m) old E<=maxLen:=grownCap_le_maxLen w (n+m) old E (by simpa[maxLen]using c8);refine⟨⟨⟨a5,.inr ⟨w.heap.size,_,_,rfl,J7 _,heap_alloc_new w.drew _,b',b5,?_,?_⟩⟩,?_⟩,?_⟩
  ·simp only[Array.size_append,Ke,size_zeroCells,b7,a1.row.1,hl,<-JZ];congr 1;omega
  ·simp only[Array.toList_append,Kh];rw[<-Kh,<-a5];exact LP
  ·intro g hg;simp[Kw]at hg;subst hg;exact cT _ _ _
  have u:=Upd.alloc (S:=fun k=>k=i) (w:=w.drew) b2 (B:=B) ⟨r.le,r.rng⟩ (.cells (xs.toArray++a0.toArray++K7 z.cells (grownCap w (n+m) old E-(n+m))) E) i;exact⟨u.os,u.tape,u.output,u.size,u.blk,u.tag,u.new,u.z⟩
 rcases a1.row.2 with⟨rfl,rfl⟩|⟨g,b1,b6,rfl,hbg,hg,c9,b5,c6,a'⟩
 ·have hx:xs=[]:=IU (by simpa using a1.row.1);subst hx
  by_cases hm:m=0
  ·subst hm;have hn:a0=[]:=IU (by simpa using hl);subst hn;refine⟨nS,w,O,?_,RowO.nil _ _ _ _ _,Upd.refl b2 _ _⟩;simp[Le,run_underlying ht,IY,typeInfo,hi,MH,MI,loadCells,loadCellsFrom]
  have hr:=run_append_nil (P:=P) w T ty E a8 z ht hi hz a m c a0 hl a3 zo zo (by have hb:=a4;simp only[J1]at hb;omega);have a9:=a6 0 zo;simp only[J1,Kq,Array.empty_append]at a9 ⊢;exact⟨_,_,_,hr,a9.1,a9.2⟩
 have b3:O g=i:=a1.tag g rfl
 by_cases a2:n+m<=b1
 ·have b4:n*a8.size+a0.length<=b6.size:=by rw[hl,c6,<-JZ];exact Nat.mul_le_mul_right _ a2
  have hr:=run_append_room (P:=P) w T ty E a8 ht hi g n b1 b6 hg a m c a0 hl a3 h1 a2 b4;refine⟨_,_,O,hr,⟨⟨a5,.inr ⟨g,b1,_,rfl,hbg,setRow_heap w g b6 _ E _ hg,a2,b5,?_,?_⟩⟩,fun g' c5=>a1.tag g' c5⟩,⟨rfl,rfl,rfl,by simp,fun k _ hk=>setRow_other w g k _ (fun e=>hk (by subst e;exact b3)),fun _ _=>rfl,fun _ h=>.inl h,b2⟩⟩
  ·simp only[Ke,K8,List.length_take,List.length_drop,L5];omega
  rw[a',<-a5];exact LP
 have b0:∀j u,xs[j]? = some u->w.cell? (nA g j)=some u:=a1.row.cells (g:=g) rfl;have hr:=run_append_grow (P:=P) w T ty E a8 z ht hi hz ⟨g,0,none⟩ n b1 xs a1.row.1 b0 a m c a0 hl a3 zo zo (growslice_fits zo a4);have a9:=a6 b1 zo;exact⟨_,_,_,hr,a9.1,a9.2⟩
theorem foldl_set(f:Array ix->ix×Nat->Array ix)(hf:∀cs c j,f cs (c,j)=cs.setIfInBounds (0+j) c):∀(l:List ix) (k:Nat) (cs:Array ix),k+l.length<=cs.size->
  (l.zipIdx k).foldl f cs=(cs.toList.take k++l++cs.toList.drop (k+l.length)).toArray
 |[],k,cs,_=>by simp
 |u::l,k,cs,h=>by
  simp only[IR]at h;simp only[List.zipIdx_cons,LJ];rw[foldl_set f hf l (k+1) _ (by rw[hf];simp;omega),hf];simp only[J1,KB];have hk:k<cs.toList.length:=by simp;omega
  congr 1;rw[show k+1+l.length=k+(u::l).length from by simp;omega];have h1:(cs.toList.set k u).take (k+1)=cs.toList.take k++[u]:=by
   rw[Kd (by simpa using hk)];simp[List.take_set_of_le]
  have h2:(cs.toList.set k u).drop (k+(u::l).length)=cs.toList.drop (k+(u::l).length):=by
   rw[List.drop_set_of_lt (by simp)]
  rw[h1,h2];simp
theorem iK{sz:Nat}{cells:Array ix}{v:ix}(h1:v.cells.size=sz)(h2:cells.size=sz):JJ (fun i=>some (i*sz,sz)) cells [(0,v)]=some v.cells:=by
 simp only[JJ,Kj,h1,h2];simp only[J1,ne_eq,not_true_eq_false,decide_false,gt_iff_lt,Nat.lt_irrefl,Bool.or_self,Bool.false_eq_true,if_false];have:=foldl_set (fun cs (x:ix×Nat)=>cs.setIfInBounds (0+x.2) x.1) (fun _ _ _=>rfl) v.cells.toList 0 cells (by simp;omega);simp only[J1]at this;rw[<-Array.foldl_toList,Array.toList_zipIdx,this];simp only[KE,Kq];rw[KS (by simp;omega)];simp
section
variable{P:I6}{N:Nat}{ops:Array IG}{Q:IW→Jb→ka→Prop}{rest:List IG}{st:St}{w:ka}
variable{t t':ln}{p p':String}{e e':Array Jp}{d d':Nat}{x y z:I2}
theorem WL.push{T E:ln}{sz a0:Nat}(he:Elem P T E sz a0){α:Type}{enc:α->List ix}{B:Nat}{O:Nat->Nat}{i:Nat}{v:ix}{l:List α}(hr:RowT enc E sz O w i v l)(r:Rng B O w)(u:α){xv:ix}
  (hv:∀c,ev ((d,c)::st) y=some v) (hx:ev st x=some xv) (a6:xv.cells.toList=enc u) (a7:(enc u).length=sz) (a':∀c∈enc u,c.oneCell'=true)
  (hb:(l.length+1)*a0<=140737488355328) (b4:l.length+1<=9223372036854775807) (a5:i≠0) (hs:sz<=16777216) (hd:I0 d N=true) (b2:I0 d' N=true)
  (h:∀v' w' O',RowT enc E sz O' w' i v' (l++[u])->Upd (fun k=>k=i) O w O' w'->Rng B O' w'->WL P N ops Q rest ((d',v')::(d,.slice (some ⟨w.heap.size,0,none⟩) 1 1)::st) w') :
  WL P N ops Q (⟨some d,.buildSlice T 1 #[(0,x)],t,p,e,none⟩::⟨some d',.call ⟨.builtin .append,#[y,.tmp d],#[T,T]⟩,t',p',e',none⟩::rest) st w:=by
 obtain⟨a8,z,hi,hz,a2,b6,b5⟩:=he.parts;have b3:xv.cells.size=sz:=by rw[<-a7,<-a6];simp
 have b1:=he.pos;refine WL.val (v:=.slice (some ⟨w.heap.size,0,none⟩) 1 1) (w':=w.alloc (.cells xv.cells E)) hd (fun a ha=>?_) ?_
 ·have:=run_buildSlice (P:=P) w T E 1 #[(0,xv)] xv.cells a8 z he.ht hi hz (by rw[a2];omega) (by rw[a2];omega) (by
   rw[a2]
   exact iK b3 (by simp))
  simp only[execOp,I8,IK,J0,ha.ev hx,I5,this,I1];rfl
 have a9:¬(fun k=>k=i) 0:=fun h=>a5 h.symm
 have hE:=Ext.alloc w (.cells xv.cells E);have r1:=r.ext hE;have b0:RowT enc E sz O (w.alloc (.cells xv.cells E)) i v l:=hr.upd (aa (S:=fun _=>False) (fun h=>h) O hE) a5 (fun h=>h)
 obtain⟨v',w',O',a3,a4,a1⟩:=dH (P:=P) (ty:=t') he r1 b0.1 ⟨w.heap.size,0,none⟩ 1 1 (enc u) zo (fun j c hc=>by
  rw[show((⟨w.heap.size,0,none⟩:IZ).add j)=⟨w.heap.size,j,none⟩from by simp only[IQ];split<;>simp_all,cell_of_row _ _ j xv.cells E (0,0) (heap_alloc_new w _)]
  rw[<-a6]at hc;simpa using hc) a' hb b4 a5
 refine WL.val (v:=v') (w':=w') b2 (fun a ha=>?_) ?_
 ·simp only[execOp,resolve,invoke,builtin,I5,IN,I1,I8,IK,J0,ha.ev (hv _),ha.ev (x:=.tmp d) (v:=.slice (some ⟨w.heap.size,0,none⟩) 1 1) (by simp[ev,cf]),a3]
 have hU:Upd (fun k=>k=i) O w O' w':=Upd.trans (aa a9 O hE) a1;refine h v' w' O' ⟨by simpa using a4,?_⟩ hU (r.upd hU);intro c hc
 rcases Kr.1 hc with hc|hc
 ·exact hr.2 c hc
 rw[J8.1 hc];exact a7
theorem aj{T:ln}{O:Nat->Nat}{i b j:Nat}{cs:Array ix}{E:ln}{u c:ix}(hb:BlkO O w i b cs E)(hj:cs[j]? = some c)(hT:(IY T).run P w=.ok 1 w)(h1:u.oneCell'=true)
  {q:IZ} (hx:ev st x=some (.pointer (some q))) (hq:q=⟨b,j,none⟩) (hy:ev st y=some u)
  (h:WL P N ops Q rest st (w.setCell ⟨b,j,none⟩ u)):WL P N ops Q (⟨none,.store T x y,t,p,e,none⟩::rest) st w:=
 ik (fun a ha=>by
  subst hq;have hc:=hb.cell j hj;have hf:w.frozen? ⟨b,j,none⟩=false:=by simp[LL,hb.blk]
  simp only[execOp,ha.ev hx,ha.ev hy]
  cases u<;>simp[J3]at h1<;>simp[K1,J4,storeVar,hT,KV,storeCells,store,KD,hc,hf,IQ]) h
theorem WL.storeAt{T:ln}{α:Type}{val:α->ix}{O:Nat->Nat}{i:Nat}{E:ln}{v:ix}{l:List α}(hr:RowT (fun x=>[val x]) E 1 O w i v l)(n:Nat)(hn:n<l.length)(u:α)(hT:(IY T).run P w=.ok 1 w)(h1:(val u).oneCell'=true)(a1:i≠0)
  {q:IZ} {uv:ix} (hx:ev st x=some (.pointer (some q))) (hq:q=adr v 1 n) (hy:ev st y=some uv) (hu:uv=val u)
  (h:∀w',RowT (fun x=>[val x]) E 1 O w' i v (l.set n u)->Upd (fun j=>j=i) O w O w'->WL P N ops Q rest st w'):WL P N ops Q (⟨none,.store T x y,t,p,e,none⟩::rest) st w:=by
 subst hq;subst hu;obtain⟨hc,hf,a0,ht⟩:=hr.put hn u;refine ik (w':=w.setCell (adr v 1 n) (val u)) (fun a ha=>?_) (h _ a0 ?_)
 ·simp only[execOp,ha.ev hx,ha.ev hy];generalize val u=uv at *
  cases uv<;>simp[J3]at h1<;>simp[K1,J4,storeVar,hT,KV,storeCells,store,KD,hc,hf,IQ]
 refine⟨rfl,rfl,rfl,by simp[K0],fun k _ hn=>Kb _ _ _ _ (fun e=>hn (by rw[e];exact ht)),fun _ _=>rfl,fun _ h=>.inl h,fun h=>a1 h.symm⟩
end
end Go.VL
end
section
namespace Go.VL
def Calm(Q:IW->Jb->ka->Prop):IW->Jb->ka->Prop
 |.panic _,_,_=>False
 |e,a,w=>Q e a w
theorem Calm.imp{Q:IW->Jb->ka->Prop}:∀ {e:IW} {a:Jb} {w:ka},Calm Q e a w->Q e a w:=by
 intro e a w h
 cases e<;>first|exact h|exact h.elim
section
variable(P:I6)(N:Nat)
def WH(ops:Array IG)(S:ka->Prop)(Q:IW->Jb->ka->Prop)(a1:Nat)(a0:Array Bool)(st:St)(w:ka):Prop:=
 ∀a,Fits N a st->wpAnyH P .any ops (Calm Q) S a1 a0 a w
end
section
variable{P:I6}{N:Nat}{ops:Array IG}{S:ka→Prop}{Q:IW→Jb→ka→Prop}{st:St}{w:ka}{fuel:Nat}{listed:Array Bool}
theorem aL{id:Nat}{l:List IG}(S:ka->Prop)(n:Nat)(hn:l.length=n)(hm:P.follows .mixedOrders=true)
  (h:WH P N l.toArray S Q n (Km n false) st w.drew):WC P N (JX id l.toArray true) Q st w:=fun a ha=>by
 refine wp_mono (Q:=Calm Q) (wp_region_held (S:=S) hm ?_) fun e a w h=>h.imp
 have:=h a ha;simp only[Ke,hn];exact this
theorem WH.take{op:Op}{t:ln}{p:String}{e:Array Jp}{d:Nat}{v:ix}(i:Nat)(hi:ops[i]? = some ⟨some d,op,t,p,e,none⟩)
  (hs:II ops=true) (hf:IT .any ops listed i=true) (hr:(IF .any ops listed).contains i=true) (hS:S w)
  (hv:∀w',S w'->RV P N op t st w' v) (hd:I0 d N=true) (h:WH P N ops S Q fuel (listed.setIfInBounds i true) ((d,v)::st) w):WH P N ops S Q (fuel+1) listed st w:=by
 intro a ha;refine wpAnyH_take (v:=v) hi hs hf hr (fun _ _ _ h=>h) (.inl ⟨by simp[IJ],fun w' a0=>hv w' a0 a ha _ _ _ _⟩) hS ?_;exact h _ (ha.put hd v)
theorem tq{op:Op}{t:ln}{p:String}{e:Array Jp}{d j:Nat}{b:Bool}{v:ix}(i:Nat)(hi:ops[i]? = some ⟨some d,op,t,p,e,some (j,b)⟩)(hg:said ops st j=some b)
  (hs:II ops=true) (hf:IT .any ops listed i=true) (hr:(IF .any ops listed).contains i=true) (hS:S w)
  (hv:∀w',S w'->RV P N op t st w' v) (hd:I0 d N=true) (h:WH P N ops S Q fuel (listed.setIfInBounds i true) ((d,v)::st) w):WH P N ops S Q (fuel+1) listed st w:=by
 intro a ha;refine wpAnyH_take (v:=v) hi hs hf hr (fun _ _ _ h=>h) (.inl ⟨by simp[IJ,bU ha hg],fun w' a0=>hv w' a0 a ha _ _ _ _⟩) hS ?_;exact h _ (ha.put hd v)
theorem yo{op:Op}{t:ln}{p:String}{e:Array Jp}{d j:Nat}{b b':Bool}(i:Nat)(hi:ops[i]? = some ⟨some d,op,t,p,e,some (j,b)⟩)(hg:said ops st j=some b')(a0:(b'==b)=false)
  (hs:II ops=true) (hf:IT .any ops listed i=true) (hr:(IF .any ops listed).contains i=true) (hS:S w)
  (hd:I0 d N=true) (h:WH P N ops S Q fuel (listed.setIfInBounds i true) ((d,undef)::st) w):WH P N ops S Q (fuel+1) listed st w:=by
 intro a ha;refine wpAnyH_take (v:=undef) hi hs hf hr (fun _ _ _ h=>h) (.inr ⟨?_,rfl⟩) hS ?_
 ·have:(b'==b)=false:=a0;simp[IJ,bU ha hg];simpa using this
 exact h _ (ha.put hd undef)
theorem uT{op:Op}{t:ln}{p:String}{e:Array Jp}{d j:Nat}{b:Bool}(i:Nat)(hi:ops[i]? = some ⟨some d,op,t,p,e,some (j,b)⟩)(hg:jo ops st j=true)
  (hs:II ops=true) (hf:IT .any ops listed i=true) (hr:(IF .any ops listed).contains i=true) (hS:S w)
  (hd:I0 d N=true) (h:WH P N ops S Q fuel (listed.setIfInBounds i true) ((d,undef)::st) w):WH P N ops S Q (fuel+1) listed st w:=by
 intro a ha;refine wpAnyH_take (v:=undef) hi hs hf hr (fun _ _ _ h=>h) (.inr ⟨?_,rfl⟩) hS ?_
 ·unfold jo at hg;simp only[IJ,yielded]
  cases hd:(ops[j]?).bind (·.dst)with
  |none=>rw[hd]at hg;simp at hg
  |some d=>
   rw[hd]at hg;simp only at hg
   cases hx:cf st d with
   |none=>rw[hx]at hg;simp at hg
   |some v=>
    rw[hx]at hg
    cases v<;>simp at hg
    simp[ha.get _ _ hx]
 exact h _ (ha.put hd undef)
def qX(P:I6)(ops:Array IG)(S:ka->Prop)(Q:IW->Jb->ka->Prop)(a1:Nat)(a0:Array Bool):IW->Jb->ka->Prop:=
 Exit.then (fun a' w'=>S w'/\wpAnyH P .any ops (Calm Q) S a1 a0 a' w') (Calm Q)
theorem ae{i:Nat}(hS:S w)(h:WH P N ops S Q fuel (listed.setIfInBounds i true) st w):QF N (qX P ops S Q fuel (listed.setIfInBounds i true)) .normal st w:=fun a ha=>⟨hS,h a ha⟩
theorem WH.all(rs:List Nat)(hr:IF .any ops listed=rs)(a0:rs≠[])
  (h:∀i∈rs,∀o,ops[i]? = some o->WL P N ops (qX P ops S Q fuel (listed.setIfInBounds i true)) [o] st w):WH P N ops S Q (fuel+1) listed st w:=by
 intro a ha;refine wpAnyH_all hr a0 fun i hi=>?_
 have a1:∃o,ops[i]? = some o:=by
  rw[<-hr]at hi;simp only[IF,List.mem_filter,JK]at hi;exact⟨_,Array.getElem?_eq_getElem hi.1⟩
 obtain⟨o,ho⟩:=a1;have h1:=h i hi o ho a ha;unfold wpOp;simp only[ho];unfold wpList at h1
 split
 ·rename_i hw;rw[if_pos hw]at h1;refine h1.imp (fun h2=>?_) (fun⟨h2,h3⟩=>⟨h2,h3⟩);unfold JA at h2 ⊢;generalize (execOp a.eval o).run P w=r at *
  cases r with
  |ok n w'=>
   cases n<;>simp only[JO]at h2 ⊢<;>first
    |exact h2
    |exact Jh h2 (fun e w'' he=>by cases e<;>exact he)
    |exact Lu h2 (fun _ _ he=>he)
  |halt x w'=>cases x<;>simp only[JO]at h2 ⊢<;>exact h2
 rename_i hw;rw[if_neg hw]at h1;exact h1
theorem WH.one(i:Nat){o:IG}(hr:IF .any ops listed=[i])(hi:ops[i]? = some o)
  (h:WL P N ops (qX P ops S Q fuel (listed.setIfInBounds i true)) [o] st w):WH P N ops S Q (fuel+1) listed st w:=
 WH.all [i] hr (by simp) fun j hj o' a0=>by
  simp only[J8]at hj;subst hj;rw[hi]at a0;cases a0;exact h
theorem bI(i j:Nat){o o':IG}(hr:IF .any ops listed=[i,j])(hi:ops[i]? = some o)(hj:ops[j]? = some o')
  (h:WL P N ops (qX P ops S Q fuel (listed.setIfInBounds i true)) [o] st w) (h':WL P N ops (qX P ops S Q fuel (listed.setIfInBounds j true)) [o'] st w):WH P N ops S Q (fuel+1) listed st w:=
 WH.all [i,j] hr (by simp) fun k hk q hq=>by
  simp only[List.mem_cons,List.not_mem_nil,or_false]at hk
  rcases hk with rfl|rfl
  ·rw[hi]at hq;cases hq;exact h
  rw[hj]at hq;cases hq;exact h'
theorem lG{d:Nat}{b b':Bool}(hs:cf st d=some (.bool b))(hb:b=b')(h:WH P N ops S Q fuel listed ((d,.bool b')::st) w):WH P N ops S Q fuel listed st w:=by
 subst hb;refine fun a ha=>h a ⟨ha.size,ha.defers,fun t v hv=>?_⟩
 simp only[cf]at hv
 cases hb:J2 d t with
 |true=>rw[hb]at hv;have:=I7 hb;subst this;simp at hv;subst hv;exact ha.get _ _ hs
 |false=>rw[hb]at hv;exact ha.get _ _ hv
theorem WH.done(hr:IF .any ops listed=[])(h:QF N Q .normal st w):WH P N ops S Q fuel listed st w:=fun a ha=>wpAnyH_done (Q:=Calm Q) hr (show Calm Q .normal a w from h a ha) fuel
end
section
variable(P:I6)(N:Nat)
def WS(ops:Array IG)(w:ka)(K:Jb->Prop)(l:List IG)(st:St):Prop:=∀a,Fits N a st->wpStill P ops w K l a
end
section
variable{P:I6}{N:Nat}{ops:Array IG}{Q:IW→Jb→ka→Prop}{K:Jb→Prop}{st:St}{w:ka}{rest:List IG}
theorem WC.tail{id:Nat}{l hd tl:List IG}(n:Nat)(ht:l.take n=hd)(a0:l.drop n=tl)(hm:P.follows .mixedOrders=true)(hB:Region.lexTailB .any l.toArray n=true)
  (h:WS P N l.toArray w.drew (fun a'=>wpList P l.toArray Q tl a' w.drew) hd st):WC P N (JX id l.toArray true) Q st w:=fun a ha=>by
 subst ht;subst a0;exact wp_region_still_tail n hm hB (h a ha)
theorem WC.still{id:Nat}{l:List IG}(hm:P.follows .mixedOrders=true)(hB:LV .any l.toArray=true)
  (h:WS P N l.toArray w.drew (fun a'=>Q .normal a' w.drew) l st):WC P N (JX id l.toArray true) Q st w:=fun a ha=>by
 exact wp_region_still_lit hm hB (h a ha)
theorem WS.go{tl:List IG}(h:WL P N ops Q tl st w):WS P N ops w (fun a'=>wpList P ops Q tl a' w) [] st:=fun a ha=>h a ha
theorem WS.nil(h:QF N Q .normal st w):WS P N ops w (fun a'=>Q .normal a' w) [] st:=fun a ha=>h a ha
theorem oE{op:Op}{t:ln}{p:String}{e:Array Jp}{d:Nat}{v:ix}(hv:RV P N op t st w v)(hd:I0 d N=true)
  (h:WS P N ops w K rest ((d,v)::st)):WS P N ops w K (⟨some d,op,t,p,e,none⟩::rest) st:=fun a ha=>by
 unfold wpStill;rw[if_pos (bP rfl _)];unfold Mc;rw[hv a ha];exact⟨rfl,h _ (ha.put hd v)⟩
theorem G1{op:Op}{t:ln}{p:String}{e:Array Jp}{d:Option Mm}{j:Nat}{b:Bool}(hs:said ops st j=some b)
  (h:WS P N ops w K (⟨d,op,t,p,e,none⟩::rest) st):WS P N ops w K (⟨d,op,t,p,e,some (j,b)⟩::rest) st:=by
 intro a ha;have h1:=h a ha;unfold wpStill at h1 ⊢;rw[if_pos (by simp[IJ])]at h1;rw[if_pos (by simp[IJ,bU ha hs])];exact h1
theorem WS.off{op:Op}{t:ln}{p:String}{e:Array Jp}{d:Nat}{j:Nat}{b b':Bool}(hs:said ops st j=some b')(a0:(b'==b)=false)(hd:I0 d N=true)
  (h:WS P N ops w K rest ((d,undef)::st)):WS P N ops w K (⟨some d,op,t,p,e,some (j,b)⟩::rest) st:=by
 intro a ha;unfold wpStill;rw[if_neg (by simp[IJ,bU ha hs];simpa using a0)];exact h _ (ha.put hd undef)
theorem Ba{op:Op}{t:ln}{p:String}{e:Array Jp}{d:Nat}{j:Nat}{b:Bool}(hs:jo ops st j=true)(hd:I0 d N=true)
  (h:WS P N ops w K rest ((d,undef)::st)):WS P N ops w K (⟨some d,op,t,p,e,some (j,b)⟩::rest) st:=by
 intro a ha;unfold wpStill;rw[if_neg ?_]
 ·exact h _ (ha.put hd undef)
 unfold jo at hs;simp only[IJ,yielded]
 cases hd:(ops[j]?).bind (·.dst)with
 |none=>rw[hd]at hs;simp at hs
 |some d=>
  rw[hd]at hs;simp only at hs
  cases hx:cf st d with
  |none=>rw[hx]at hs;simp at hs
  |some v=>
   rw[hx]at hs
   cases v<;>simp at hs
   simp[ha.get _ _ hx]
theorem cy{d:Nat}{b b':Bool}{l:List IG}(hs:cf st d=some (.bool b))(hb:b=b')(h:WS P N ops w K l ((d,.bool b')::st)):WS P N ops w K l st:=by
 subst hb;refine fun a ha=>h a ⟨ha.size,ha.defers,fun t v hv=>?_⟩
 simp only[cf]at hv
 cases hb:J2 d t with
 |true=>rw[hb]at hv;have:=I7 hb;subst this;simp at hv;subst hv;exact ha.get _ _ hs
 |false=>rw[hb]at hv;exact ha.get _ _ hv
theorem WS.call{t:ln}{p:String}{e:Array Jp}{d:Nat}{f:JL}{args:List I2}{a2:Array ln}{vs:List ix}{v:ix}
  (hf:∀(args:Array ix) (w:ka),(callFunc f args).run P w=.ok (.enter f args) w) (a0:evs st args=some vs) (hc:Ret P f vs w fun u w'=>u=v/\w'=w) (hd:I0 d N=true)
  (h:WS P N ops w K rest ((d,v)::st)):WS P N ops w K (⟨some d,.call ⟨.value (.func f),args.toArray,a2⟩,t,p,e,none⟩::rest) st:=by
 intro a ha;unfold wpStill;rw[if_pos (bP rfl _)];unfold Mc;have a1:(execOp a.eval ⟨some d,.call ⟨.value (.func f),args.toArray,a2⟩,t,p,e,none⟩).run P w=.ok (.enter f vs.toArray) w:=by
  simp only[execOp,resolve,Je,I8];rw[ha.evs a0];simp[Js,invoke,hf]
 rw[a1];refine⟨rfl,v,Jh hc fun e w' q=>?_,h _ (ha.put hd v)⟩
 cases e with
 |returned u=>exact⟨by rw[q.1],q.2⟩
 |panicked c=>exact q.elim
 |outgrown=>exact q.elim
end
section
variable(P:I6)(N:Nat)
def WQ(ops:Array IG)(C:ka->Prop)(K:Jb->Prop)(l:List IG)(st:St):Prop:=∀a,Fits N a st->wpQuiet P ops C K l a
end
section
variable{P:I6}{N:Nat}{ops:Array IG}{C:ka→Prop}{Q:IW→Jb→ka→Prop}{K:Jb→Prop}{st:St}{w:ka}{rest:List IG}
theorem xe{id:Nat}{l:List IG}(C:ka->Prop)(hm:P.follows .mixedOrders=true)(hB:LV .any l.toArray=true)(hC:C w.drew)
  (h:WQ P N l.toArray C (fun a'=>∀w',C w'->Q .normal a' w') l st):WC P N (JX id l.toArray true) Q st w:=fun a ha=>
 wp_region_quiet (C:=C) hm hB hC (by simpa using h a ha)
theorem WQ.nil(h:∀w',C w'->QF N Q .normal st w'):WQ P N ops C (fun a'=>∀w',C w'->Q .normal a' w') [] st:=fun a ha w' a0=>h w' a0 a ha
theorem jf{op:Op}{t:ln}{p:String}{e:Array Jp}{d:Nat}{v:ix}(hv:∀w,C w->RV P N op t st w v)(hd:I0 d N=true)
  (h:WQ P N ops C K rest ((d,v)::st)):WQ P N ops C K (⟨some d,op,t,p,e,none⟩::rest) st:=fun a ha=>by
 unfold wpQuiet;rw[if_pos (bP rfl _)];exact⟨v,fun w hw=>by unfold M1;rw[hv w hw a ha];exact⟨rfl,rfl⟩,h _ (ha.put hd v)⟩
theorem WQ.call{t:ln}{p:String}{e:Array Jp}{d:Nat}{f:JL}{args:List I2}{a2:Array ln}{vs:List ix}{v:ix}
  (hf:∀(args:Array ix) (w:ka),(callFunc f args).run P w=.ok (.enter f args) w) (a0:evs st args=some vs) (hc:∀w,C w->Ret P f vs w fun u w'=>u=v/\C w') (hd:I0 d N=true)
  (h:WQ P N ops C K rest ((d,v)::st)):WQ P N ops C K (⟨some d,.call ⟨.value (.func f),args.toArray,a2⟩,t,p,e,none⟩::rest) st:=by
 intro a ha;unfold wpQuiet;rw[if_pos (bP rfl _)];refine⟨v,fun w hw=>?_,h _ (ha.put hd v)⟩;unfold M1;have a1:(execOp a.eval ⟨some d,.call ⟨.value (.func f),args.toArray,a2⟩,t,p,e,none⟩).run P w=.ok (.enter f vs.toArray) w:=by
  simp only[execOp,resolve,Je,I8];rw[ha.evs a0];simp[Js,invoke,hf]
 rw[a1];refine⟨rfl,Jh (hc w hw) fun e w' q=>?_⟩
 cases e with
 |returned u=>exact⟨by rw[q.1],q.2⟩
 |panicked c=>exact q.elim
 |outgrown=>exact q.elim
end
end Go.VL
end
section
namespace Go.VL
section
variable{κ ν:Type}{kv:κ→ix}{vv:ν→ix}
structure MapO{κ ν:Type}(kv:κ->ix)(vv:ν->ix)(O:Nat->Nat)(w:ka)(i r:Nat)(l:List (κ×ν)):Prop where
 blk:∃es clock,w.heap[r]? = some (.map es clock)/\es.toList.map (fun e=>(e.key,e.val))=l.map fun p=>(kv p.1,vv p.2)
 tag:O r=i
 born:∀es clock,w.heap[r]? = some (.map es clock)->(es.toList.map (·.born)).Nodup/\∀e∈es.toList,e.born<clock
theorem MapO.upd{S:Nat->Prop}{O O':Nat->Nat}{w w':ka}{i r:Nat}{l:List (κ×ν)}(h:MapO kv vv O w i r l)(u:Upd S O w O' w')(hi:i≠0)(hS:¬S i):MapO kv vv O' w' i r l:=by
 obtain⟨es,c,h1,h2⟩:=h.blk;have e:=u.blk r (bt h1) (by rw[h.tag];exact hS);exact⟨⟨es,c,by rw[e];exact h1,h2⟩,by rw[u.tag r (by rw[h.tag];exact hi),h.tag],fun a0 c' h'=>h.born a0 c' (by rw[<-e];exact h')⟩
theorem MapO.new(O:Nat->Nat)(w:ka)(i:Nat):MapO kv vv (jI O w.heap.size i) (w.alloc (.map #[] 0)) i w.heap.size []:=⟨⟨#[],0,heap_alloc_new w _,by simp⟩,cT _ _ _,fun es c h=>by rw[heap_alloc_new]at h;cases h;simp⟩
end
section
variable{κ ν:Type}[DecidableEq κ]
def bm:List (κ×ν)->κ->Option ν
 |[],_=>none
 |(a,x)::r,k=>if a=k then some x else bm r k
def cx:List (κ×ν)->κ->ν->List (κ×ν)
 |[],k,x=>[(k,x)]
 |(a,y)::r,k,x=>if a=k then(k,x)::r else(a,y)::cx r k x
def iN:List (κ×ν)->κ->Option Nat
 |[],_=>none
 |(a,_)::r,k=>if a=k then some 0 else(iN r k).map (· + 1)
theorem aP(l:List (κ×ν))(k k':κ)(x:ν):bm (cx l k x) k'=if k=k' then some x else bm l k':=by
 induction l with
 |nil=>simp[cx,bm]
 |cons p r ih=>
  obtain⟨a,y⟩:=p;simp only[cx]
  by_cases h:a=k
  ·subst h;simp only[if_pos,bm]
   by_cases h2:a=k'<;>simp[h2]
  simp only[if_neg h,bm]
  by_cases h2:a=k'
  ·subst h2;simp only[if_true];rw[if_neg (fun e=>h e.symm)]
  simp[h2,ih]
structure KeyL(P:I6)(K:ln)(kv:κ->ix):Prop where
 check:∀b n k w,(Kz b (n+2) K (kv k)).run P w=.ok () w
 find:∀k (es:List LG) (ks:List κ) w,es.map (·.key)=ks.map kv->(KL K (kv k) es).run P w=.ok ((ks.findIdx? (· = k)).bind fun i=>(es[i]?).map fun e=>(i,e.val)) w
 same:∀k,Ky 10000 (kv k) (kv k)=true
theorem KeyL.int{P:I6}{K:ln}{q:I9}(hK:P.underlying K=some (.int q)):KeyL P K (fun n:Int=>KM q n):=by
 refine⟨fun b n k w=>?_,fun k es ks w h=>?_,fun k=>?_⟩
 ·simp[Kz,run_underlying hK]
 ·have key:∀(es:List LG) (ks:List Int) (j:Nat),es.map (·.key)=ks.map (fun n=>KM q n)->
    Jy (.int q) (.int q k) es j=some ((ks.findIdx? (· = k)).bind fun i=>(es[i]?).map fun e=>(j+i,e.val)):=by
   intro es
   induction es with
   |nil=>intro ks j h;cases ks with
    |nil=>simp[Jy]
    |cons a r=>simp at h
   |cons e es ih=>
    intro ks j h
    cases ks with
    |nil=>simp at h
    |cons a r=>
     simp only[IK,L3]at h;simp only[Jy,h.1,LQ,if_true]
     by_cases hk:k=a
     ·subst hk;simp[Jn]
     have:(k==a)=false:=by simpa using hk
     rw[this];simp only;rw[ih r (j+1) h.2];simp only[Jn,decide_eq_true_eq];rw[if_neg (fun e=>hk e.symm)]
     cases hf:LW (fun x=>decide (x=k)) r with
     |none=>simp
     |some i=>simp[KO,M8 1]
  have:=key es ks 0 h;simp only[J1]at this;simp[KL,run_underlying hK,this]
 simp[Ky]
theorem C0(a b:ByteArray):(a==b)=decide (a=b):=by
 cases a with|mk a=>cases b with|mk b=>
 show(a==b)=_
 by_cases h:a=b
 ·subst h;simp
 have:(a==b)=false:=by simpa using h
 rw[this];symm;simpa using h
theorem CH{P:I6}{K:ln}(hK:P.underlying K=some .string):KeyL P K Ka:=by
 refine⟨fun b n k w=>?_,fun k es ks w h=>?_,fun k=>?_⟩
 ·simp[Kz,run_underlying hK]
 ·have key:∀(es:List LG) (ks:List ByteArray) (j:Nat),es.map (·.key)=ks.map Ka->
    Jy .string (.string k) es j=some ((ks.findIdx? (· = k)).bind fun i=>(es[i]?).map fun e=>(j+i,e.val)):=by
   intro es
   induction es with
   |nil=>intro ks j h;cases ks with
    |nil=>simp[Jy]
    |cons a r=>simp at h
   |cons e es ih=>
    intro ks j h
    cases ks with
    |nil=>simp at h
    |cons a r=>
     simp only[IK,L3]at h;simp only[Jy,h.1,LQ,C0]
     by_cases hk:k=a
     ·subst hk;simp[Jn]
     have:decide (k=a)=false:=by simpa using hk
     rw[this];simp only;rw[ih r (j+1) h.2];simp only[Jn,decide_eq_true_eq];rw[if_neg (fun e=>hk e.symm)]
     cases hf:LW (fun x=>decide (x=k)) r with
     |none=>simp
     |some i=>simp[KO,M8 1]
  have:=key es ks 0 h;simp only[J1]at this;simp[KL,run_underlying hK,this]
 simp[Ky,C0]
variable{kv:κ→ix}{vv:ν→ix}
theorem dQ:∀(l:List (κ×ν)) (k:κ),(l.map (·.1)).findIdx? (· = k)=iN l k
 |[],k=>rfl
 |(a,x)::r,k=>by
  simp only[IK,Jn,iN,decide_eq_true_eq]
  by_cases h:a=k
  ·simp[h]
  simp only[if_neg h];rw[dQ r k]
theorem kI:∀(l:List (κ×ν)) (k:κ),bm l k=(iN l k).bind fun i=>(l[i]?).map (·.2)
 |[],k=>rfl
 |(a,x)::r,k=>by
  simp only[bm,iN]
  by_cases h:a=k
  ·simp[h]
  simp only[if_neg h];rw[kI r k]
  cases iN r k<;>simp
theorem dY:∀(l:List (κ×ν)) (k:κ) (x:ν),cx l k x=match iN l k with
  |some i=>l.set i (k,x)
  |none=>l++[(k,x)]
 |[],k,x=>rfl
 |(a,y)::r,k,x=>by
  simp only[cx,iN]
  by_cases h:a=k
  ·simp[h]
  simp only[if_neg h];rw[dY r k x]
  cases iN r k<;>simp
theorem ij:∀ {l:List (κ×ν)} {k:κ} {i:Nat},iN l k=some i->∃x,l[i]? = some (k,x)
 |(a,x)::r,k,i,h=>by
  simp only[iN]at h
  by_cases hk:a=k
  ·subst hk;simp at h;subst h;exact⟨x,rfl⟩
  rw[if_neg hk]at h
  cases hr:iN r k with
  |none=>rw[hr]at h;simp at h
  |some j=>
   rw[hr]at h;simp at h;subst h;obtain⟨y,hy⟩:=ij hr;exact⟨y,by simpa using hy⟩
def D7(vv:ν->ix)(z:ix):Option ν->ix
 |some x=>vv x
 |none=>z
def C2(vv:ν->ix)(z:ix):Option ν->ix
 |some x=>.tuple #[vv x,.bool true]
 |none=>.tuple #[z,.bool false]
theorem ja{P:I6}{T K E:ln}(hT:P.underlying T=some (.map K E))(hK:KeyL P K kv){O:Nat->Nat}{w:ka}{i r:Nat}{l:List (κ×ν)}(h:MapO kv vv O w i r l){z:ix}(hz:(JE E).run P w=.ok z w)(k:κ)(ok:Bool):
  (LX T (.map (some r)) (kv k) ok).run P w=.ok (match bm l k with
   |some x=>if ok then .tuple #[vv x,.bool true]else vv x
   |none=>if ok then .tuple #[z,.bool false]else z) w:=by
 obtain⟨es,c,h1,h2⟩:=h.blk;have a0:es.toList.map (·.key)=(l.map (·.1)).map kv:=by
  have:=congrArg (KG LN) h2;simpa[KZ]using this
 have hf:=hK.find k es.toList (l.map (·.1)) w a0;rw[dQ]at hf;have hc:=hK.check es.isEmpty 9998 k w;simp only[LX,I5,run_underlying hT,I1];simp only[getObj,KD,h1,I5,I1,IN,hc,hf];rw[kI]
 cases hi:iN l k with
 |none=>simp[hz]
 |some j=>
  obtain⟨x,hx⟩:=ij hi;have hj:es.toList[j]?.map (fun e=>(e.key,e.val))=some (kv k,vv x):=by
   have:=congrArg (fun l=>l[j]?) h2;simpa[hx]using this
  cases he:es.toList[j]? with
  |none=>rw[he]at hj;simp at hj
  |some e'=>
   rw[he]at hj;simp at hj;simp only[Lb,he,hx,IP,hj.2]
   cases ok<;>simp
theorem dB{P:I6}{T K E:ln}(hT:P.underlying T=some (.map K E))(hK:KeyL P K kv){O:Nat->Nat}{w:ka}{i r:Nat}{l:List (κ×ν)}(h:MapO kv vv O w i r l)(a9:i≠0)(k:κ)(x:ν):
  ∃w',(Kl T (.map (some r)) (kv k) (vv x)).run P w=.ok () w'/\MapO kv vv O w' i r (cx l k x)/\Upd (fun j=>j=i) O w O w':=by
 obtain⟨es,c,h1,h2⟩:=h.blk;have a8:es.toList.map (·.key)=(l.map (·.1)).map kv:=by
  have:=congrArg (KG LN) h2;simpa[KZ]using this
 have hf:=hK.find k es.toList (l.map (·.1)) w a8;rw[dQ]at hf;have hc:=hK.check false 9998 k w;have hr:=bt h1;have a7:es.size=l.length:=by have:=congrArg List.length h2;simpa using this
 have a1:=h.born es c h1;have fin:∀(a0:Array LG) (c':Nat),((a0.toList.map (·.born)).Nodup/\∀e∈a0.toList,e.born<c')->a0.toList.map (fun e=>(e.key,e.val))=(cx l k x).map (fun p=>(kv p.1,vv p.2))->
   MapO kv vv O { w with heap:=w.heap.setIfInBounds r (.map a0 c') } i r (cx l k x)/\Upd (fun j=>j=i) O w O { w with heap:=w.heap.setIfInBounds r (.map a0 c') }:=by
  intro a0 c' a4 he;refine⟨⟨⟨a0,c',by simp[hr],he⟩,h.tag,fun a' c2 h2=>by simp[hr]at h2;obtain⟨rfl,rfl⟩:=h2;exact a4⟩,⟨rfl,rfl,rfl,by simp,fun b _ hn=>?_,fun _ _=>rfl,fun _ h=>.inl h,fun h=>a9 h.symm⟩⟩;simp only[Ko];rw[if_neg (fun e=>hn (by rw[<-e];exact h.tag))]
 have a2:(Kl T (.map (some r)) (kv k) (vv x)).run P w=((match ((iN l k).bind fun i=>(es.toList[i]?).map fun e=>(i,e.val))with
   |some (i,_)=>do
    let key <-K6 (((es[i]?).map (·.key)).getD (kv k)) (kv k)
    setObj r (.map (es.modify i fun e=>{ e with key,val:=vv x }) c)
   |none=>setObj r (.map (es.push { key:=kv k,val:=vv x,born:=c }) (c+1)):Sem Unit)).run P w:=by
  simp only[Kl,I5,run_underlying hT,I1];simp only[getObj,KD,h1,I5,I1,hc,hf];generalize ((iN l k).bind fun i=>Option.map (fun e=>(i,e.val)) es.toList[i]?)=q
  cases q with
  |none=>rfl
  |some p=>rfl
 rw[a2,dY]
 cases hi:iN l k with
 |none=>
  refine⟨_,by simp only[Option.bind_none,setObj,KD,h1];rfl,?_⟩
  have:=fin (es.push { key:=kv k,val:=vv x,born:=c }) (c+1) (by
   refine⟨?_,?_⟩
   ·simp only[Lh,List.map_append,IK,J0];refine List.nodup_append.2 ⟨a1.1,by simp,?_⟩;intro a ha b hb;obtain⟨e,he,rfl⟩:=Kf.1 ha;have:=a1.2 e he;simp at hb;omega
   intro e he;simp only[Lh,Kr,J8]at he
   rcases he with he|rfl
   ·have:=a1.2 e he;omega
   simp) (by rw[dY,hi];simp[h2])
  rw[dY,hi]at this;exact this
 |some j=>
  obtain⟨y,hy⟩:=ij hi;have hj:es.toList[j]?.map (fun e=>(e.key,e.val))=some (kv k,vv y):=by
   have:=congrArg (fun l=>l[j]?) h2;simpa[hy]using this
  cases he:es.toList[j]? with
  |none=>rw[he]at hj;simp at hj
  |some e'=>
   rw[he]at hj;simp at hj;have a3:es[j]? = some e':=by simpa using he
   have a6:(K6 (kv k) (kv k))=pure (kv k):=by simp[K6,hK.same k]
   refine⟨_,by simp only[Lb,he,IP,a3,hj.1,Option.getD_some,a6,I5,IN,I1,setObj,KD,h1];rfl,?_⟩;have a5:((es.modify j fun e=>{ e with key:=kv k,val:=vv x }).toList.map (·.born))=es.toList.map (·.born):=by
    simp only[L4];apply Lr;intro m;simp only[Kg,L2]
    split
    ·cases es.toList[m]?<;>simp
    cases es.toList[m]?<;>simp
   have:=fin (es.modify j fun e=>{ e with key:=kv k,val:=vv x }) c (by
    rw[a5];refine⟨a1.1,fun e he=>?_⟩;have:e.born∈es.toList.map (·.born):=by rw[<-a5];exact Kf.2 ⟨e,he,rfl⟩
    obtain⟨e2,a3,q⟩:=Kf.1 this;have:=a1.2 e2 a3;omega) (by
    rw[dY,hi];simp only[L4];apply Lr;intro m;have h2m:=congrArg (fun l=>l[m]?) h2;simp only[Kg]at h2m;simp only[Kg,L2,List.getElem?_set]
    by_cases hm:j=m
    ·subst hm;have hl:j<l.length:=(IH.1 hy).1;simp[he,hl]
    simp only[if_neg hm]
    simpa using h2m)
   rw[dY,hi]at this;exact this
section
variable{P:I6}{N:Nat}{ops:Array IG}{Q:IW→Jb→ka→Prop}{rest:List IG}{st:St}{w:ka}
variable{t:ln}{p:String}{e:Array Jp}{d:Nat}{x y z:I2}
theorem WL.makeMap{T:ln}(hd:I0 d N=true)(h:WL P N ops Q rest ((d,.map (some w.heap.size))::st) (w.alloc (.map #[] 0))):WL P N ops Q (⟨some d,.makeMap T none,t,p,e,none⟩::rest) st w:=
 WL.val hd (fun a ha=>by simp only[execOp,J6,I5];rfl) h
theorem RV.lookup{T K E:ln}{O:Nat->Nat}{i r:Nat}{l:List (κ×ν)}(hm:MapO kv vv O w i r l)(hT:P.underlying T=some (.map K E))(hK:KeyL P K kv){z:ix}(hz:(JE E).run P w=.ok z w)
  (k:κ) {kx u:ix} (hx:ev st x=some (.map (some r))) (hy:ev st y=some kx) (hk:kx=kv k) (hu:D7 vv z (bm l k)=u):RV P N (.lookup T x y false) t st w u:=
 fun a ha a0 p e g=>by
  subst hk;subst hu;simp only[execOp,ha.ev hx,ha.ev hy,I5,ja hT hK hm hz]
  cases bm l k<;>simp[D7]
theorem cG{T K E:ln}{O:Nat->Nat}{i r:Nat}{l:List (κ×ν)}(hm:MapO kv vv O w i r l)(hT:P.underlying T=some (.map K E))(hK:KeyL P K kv){z:ix}(hz:(JE E).run P w=.ok z w)
  (k:κ) {kx u:ix} (hx:ev st x=some (.map (some r))) (hy:ev st y=some kx) (hk:kx=kv k) (hu:C2 vv z (bm l k)=u):RV P N (.lookup T x y true) t st w u:=
 fun a ha a0 p e g=>by
  subst hk;subst hu;simp only[execOp,ha.ev hx,ha.ev hy,I5,ja hT hK hm hz]
  cases bm l k<;>simp[C2]
theorem WL.mapUpdate{T K E:ln}{O:Nat->Nat}{i r:Nat}{l:List (κ×ν)}(hm:MapO kv vv O w i r l)(hT:P.underlying T=some (.map K E))(hK:KeyL P K kv)(a0:i≠0)
  (k:κ) (u:ν) {kx ux:ix} (hx:ev st x=some (.map (some r))) (hy:ev st y=some kx) (hz:ev st z=some ux) (hk:kx=kv k) (hu:ux=vv u)
  (h:∀w',MapO kv vv O w' i r (cx l k u)->Upd (fun j=>j=i) O w O w'->WL P N ops Q rest st w'):WL P N ops Q (⟨none,.mapUpdate T x y z,t,p,e,none⟩::rest) st w:=by
 subst hk;subst hu;obtain⟨w',h1,h2,h3⟩:=dB hT hK hm a0 k u;exact ik (fun a ha=>by simp only[execOp,ha.ev hx,ha.ev hy,ha.ev hz,I5,h1,I1,IN]) (h w' h2 h3)
end
end
end Go.VL
end
section
namespace Go.VL
theorem D5{α:Type}[Inhabited α]{l:List α}{p:α->Bool}(h:∀j,j<l.length->p (nth l j)=true):l.all p=true:=by
 rw[Lz];intro x hx;obtain⟨i,hi,rfl⟩:=L9 hx;rw[<-aB hi];exact h i hi
theorem ug{α:Type}[Inhabited α]{l:List α}{p:α->Bool}{j:Nat}(hj:j<l.length)(h:p (nth l j)=false):l.all p=false:=by
 rw[List.all_eq_false];exact⟨l[j],Jv hj,by rw[<-aB hj,h];simp⟩
theorem aM{α:Type}[Inhabited α]{l:List α}{j:Nat}(hj:j<l.length):nth l j∈l:=by rw[aB hj];exact Jv hj
theorem aI{α:Type}[Inhabited α]{l:List α}{j:Nat}(hj:j<l.length):l.take (j+1)=l.take j++[nth l j]:=by
 rw[Kd hj,aB hj]
theorem IC{α:Type}[Inhabited α]{l:List α}{x:α}(hx:x∈l):∃j,j<l.length/\nth l j=x:=by
 obtain⟨i,hi,rfl⟩:=L9 hx;exact⟨i,hi,aB hi⟩
def iY(q:Nat->Bool)(n:Nat):Bool:=(Ji n).any q
theorem ey{q:Nat->Bool}{n:Nat}:iY q n=true↔∃i,i<n/\q i=true:=by simp[iY]
theorem bY{q:Nat->Bool}{n:Nat}:iY q n=false↔∀i,i<n->q i=false:=by simp[iY]
theorem yl{q r:Nat->Bool}{n:Nat}(h:∀i,i<n->q i=r i):iY q n=iY r n:=by
 cases hq:iY r n with
 |true=>obtain⟨i,hi,hr⟩:=ey.1 hq;exact ey.2 ⟨i,hi,by rw[h i hi,hr]⟩
 |false=>exact bY.2 fun i hi=>by rw[h i hi];exact bY.1 hq i hi
theorem ie{α:Type}[Inhabited α]{l:List α}{p:α->Bool}:iY (fun i=>p (nth l i)) l.length=l.any p:=by
 cases h:l.any p with
 |true=>
  obtain⟨x,hx,hp⟩:=List.any_eq_true.1 h;obtain⟨i,hi,rfl⟩:=IC hx;exact ey.2 ⟨i,hi,hp⟩
 |false=>exact bY.2 fun i hi=>by have:=List.any_eq_false.1 h _ (aM hi);simpa using this
def dw(q:Nat->Bool)(n:Nat):Int:=match (Ji n).find? q with
 |some i=>i
 |none=>-1
theorem cn{q:Nat->Bool}{n:Nat}(h:∀i,i<n->q i=false):dw q n = -1:=by
 have:(Ji n).find? q=none:=by rw[K9];intro x hx;simp[h x (JK.1 hx)]
 rw[dw,this]
theorem ct{q:Nat->Bool}{n k:Nat}(hk:k<n)(hy:q k=true)(a0:∀i,i<k->q i=false):dw q n=k:=by
 have:(Ji n).find? q=some k:=by
  rw[List.find?_range_eq_some];exact⟨hy,JK.2 hk,fun j hj=>by simp[a0 j hj]⟩
 rw[dw,this]
theorem firstN_any{q:Nat->Bool}{n:Nat}:decide ((0:Int)<=dw q n)=iY q n:=by
 cases h:iY q n with
 |false=>rw[cn (bY.1 h)];rfl
 |true=>
  obtain⟨i,hi,hq⟩:=ey.1 h;have:∃j,(Ji n).find? q=some j:=by
   cases hf:(Ji n).find? q with
   |some j=>exact⟨j,rfl⟩
   |none=>rw[K9]at hf;exact absurd hq (hf i (JK.2 hi))
  obtain⟨j,hj⟩:=this;rw[dw,hj];simp
theorem ej{α:Type}[Inhabited α]{l:List α}{j:Nat}(h:l.length<=j):nth l j=default:=by simp[nth,IX,JW h]
theorem aT{α:Type}[Inhabited α]{l:List α}{i j:Nat}{x:α}(hi:i<l.length):nth (l.set i x) j=if j=i then x else nth l j:=by
 by_cases hj:j<l.length
 ·rw[aB (by simpa using hj),aB hj,List.getElem_set]
  by_cases h:i=j<;>simp[h,eq_comm]
 rw[if_neg zo];have:∀l:List α,l.length<=j->nth l j=default:=fun l h=>by simp[nth,IX,JW h]
 rw[this _ (by simp;omega),this _ zo]
theorem aA{α:Type}[Inhabited α]{l r:List α}{j:Nat}:nth (l++r) j=if j<l.length then nth l j else nth r (j-l.length):=by
 split
 ·rename_i h;rw[aB (by simp;omega),aB h,Jl h]
 rename_i h
 by_cases hj:j-l.length<r.length
 ·rw[aB (by simp;omega),aB hj,Jj zo]
 have:∀(l:List α) (j:Nat),l.length<=j->nth l j=default:=fun l j h=>by simp[nth,IX,JW h]
 rw[this _ _ (by simp;omega),this _ _ zo]
theorem ei{α β:Type}[Inhabited α][Inhabited β]{f:α->β}{l:List α}{i:Nat}(h:i<l.length):nth (l.map f) i=f (nth l i):=by
 rw[aB (by simpa using h),aB h];simp
end Go.VL
end
section
namespace Go.VL
open Go.ChangeShapes Go.WideShapes Go.ChangeAt Go.RowKit Go.Deep
variable{H:Type}{enc:ln×ix→H}{P:I6}{w:ka}{base:Nat}{held:Bool}
theorem Bl{f:JL}{args:List ix}(h:Ret P f args w fun v w'=>v=.bool true/\Ext w w'):Calls P f args.toArray w fun e w'=>e=.returned (.bool true)/\Below w.heap.size w w':=
 Jh h fun e w' q=>by
  cases e with
  |returned v=>exact⟨by rw[q.1],q.2⟩
  |panicked c=>exact q.elim
  |outgrown=>exact q.elim
end Go.VL
end
section
namespace Go.VL
open Go.ChangeShapes Go.WideShapes Go.ChangeAt Go.RowKit Go.Deep
section
variable{H:Type}{enc:ln×ix→H}{P:I6}{w:ka}{base:Nat}{held:Bool}
def Rd(enc:ln×ix->H)(P:I6)(w:ka)(base:Nat)(held:Bool)(t:ln)(cs:List ix):Prop:=∃fuel x,JQ enc P w base (fun _=>true) held fuel t cs=some x
theorem Ga{t:ln}{v:ix}{d:DataW H}{ps:List MemPlace}(h:DataW.Trod enc P w base (fun _=>true) held t v d ps):Rd enc P w base held t v.cells.toList:=by
 obtain⟨a0,hf⟩:=h;exact⟨a0,_,hf⟩
theorem Rd.int{t:ln}{k:I9}{cs:List ix}(ht:P.underlying t=some (.int k))(h:Rd enc P w base held t cs):∃n,cs=[.int k n]/\(Mx k n).wf=true:=by
 obtain⟨a0,x,h⟩:=h
 cases a0 with
 |zero=>simp[JQ]at h
 |succ m=>
  unfold JQ at h;rw[ht]at h
  split at h<;>simp_all
theorem Rd.bool{t:ln}{cs:List ix}(ht:P.underlying t=some .bool)(h:Rd enc P w base held t cs):∃b,cs=[.bool b]:=by
 obtain⟨a0,x,h⟩:=h
 cases a0 with
 |zero=>simp[JQ]at h
 |succ m=>
  unfold JQ at h;rw[ht]at h
  split at h<;>simp_all
theorem Rd.struct{t:ln}{fs:Array KA}{cs:List ix}(ht:P.underlying t=some (.struct fs))(h:Rd enc P w base held t cs):
  cs.length=P.cellsOf t/\∀(i:Nat) (f:KA),fs[i]? = some f->Rd enc P w base held f.type ((cs.drop f.offset).take (P.cellsOf f.type)):=by
 obtain⟨a1,x,h⟩:=h;obtain⟨xs,m,rfl,rfl,hl,a0,hf⟩:=DataW.trod_struct ht h;refine⟨hl,fun i f hi=>?_⟩;have h1:=hf i f hi;have a2:i<fs.size:=(KC.1 hi).1;rw[IM zo]at h1;exact⟨m,_,h1⟩
def Cq(P:I6):List KA->Nat->Bool
 |[],_=>true
 |f::r,i=>J2 f.offset i&&J2 (P.cellsOf f.type) 1&&Cq P r (i+1)
theorem vM:∀(fs:List KA) (k i:Nat) (f:KA),Cq P fs k=true->fs[i]? = some f->f.offset=k+i/\P.cellsOf f.type=1
 |[],_,_,_,_,h=>by simp at h
 |g::r,k,i,f,hb,h=>by
  simp only[Cq,J5]at hb
  cases i with
  |zero=>simp only[List.getElem?_cons_zero,JD]at h;subst h;exact⟨by simpa using I7 hb.1.1,I7 hb.1.2⟩
  |succ i=>have:=vM r (k+1) i f hb.2 (by simpa using h);exact⟨zo,this.2⟩
theorem Rd.flat{t:ln}{fs:List KA}{cs:List ix}(ht:P.underlying t=some (.struct fs.toArray))(hb:Cq P fs 0=true)(hn:P.cellsOf t=fs.length)(h:Rd enc P w base held t cs):
  cs.length=fs.length/\∀(i:Nat) (f:KA),fs[i]? = some f->∃v,cs[i]? = some v/\Rd enc P w base held f.type [v]:=by
 obtain⟨hl,hf⟩:=h.struct ht;refine⟨by rw[hl,hn],fun i f hi=>?_⟩;obtain⟨h1,h2⟩:=vM fs 0 i f hb hi;have hr:=hf i f (by simpa using hi);have a0:i<cs.length:=by rw[hl,hn];exact(IH.1 hi).1
 rw[h1,h2,J1]at hr;refine⟨cs[i],IM a0,?_⟩
 rwa[List.drop_eq_getElem_cons a0,List.take_succ_cons,KE]at hr
theorem Rd.slice{t e:ln}{sz:Nat}{cs:List ix}(ht:P.underlying t=some (.slice e))(ce:P.cellsOf e=sz)(hz:0<sz)(h:Rd enc P w base held t cs):
  ∃v xs,cs=[v]/\Sl (fun c:List ix=>c) sz w v xs/\∀c∈xs,c.length=sz/\Rd enc P w base held e c:=by
 obtain⟨a5,x,h⟩:=h
 rcases open_slice ht h with⟨rfl,_⟩|⟨a,len,a6,m,n,D,Pl,rfl,hb,hl,hm,a3,rfl,hx⟩
 ·exact⟨_,[],rfl,⟨⟨none,0,rfl,ID _,zo,fun h=>absurd rfl h⟩,fun i hi=>absurd hi (by simp)⟩,by simp⟩
 simp only[if_true]at a3;subst a3;obtain⟨V,hV⟩:=choose_lt (α:=List ix) (p:=fun i c=>w.cells? base (a.add (i*P.cellsOf e)) (P.cellsOf e)=some c/\JQ enc P w base (fun _=>true) held n e c=some (D i,Pl i)) hx;rw[ce]at hV;have hc:∀i,i<len->∀j u,(V i)[j]? = some u->w.cell? (a.add (i*sz+j))=some u:=fun i hi j u hu=>by
  obtain⟨_,a0,a1⟩:=La (hV i zo).1;have hj:j<sz:=by have:=(IH.1 hu).1;omega
  have:=a1 j hj;rw[add_add]at this;rw[this,hu]
 have a0:∀i,i<len->(V i).length=sz:=fun i hi=>(La (hV i zo).1).2.1
 have a2:((Ji len).map V).length=len:=by simp
 refine⟨_,(Ji len).map V,rfl,⟨⟨some a,m,by rw[a2],zo,by simpa[maxLen]using hm,fun h=>?_⟩,fun i hi j u hu=>?_⟩,fun c a4=>?_⟩
 ·rw[a2]at h;have h0:0<(V 0).length:=by rw[a0 0 zo];exact hz
  have:=hc 0 zo 0 _ (IM h0);obtain⟨b,o,s⟩:=a;have hs:s=none:=by simpa[IQ]using Lp this
  subst hs;exact⟨b,o,rfl⟩
 ·rw[a2]at hi;have h0:0<(V 0).length:=by rw[a0 0 zo];exact hz
  have h1:=hc 0 zo 0 _ (IM h0);obtain⟨b,o,s⟩:=a;have hs:s=none:=by simpa[IQ]using Lp h1
  subst hs;simp only[List.getElem_map,Ld]at hu;have h2:=hc i hi j u hu;simp only[adr];have e1:((⟨b,o,none⟩:IZ).add (i*sz+j))=((⟨b,o+i*sz,none⟩:IZ).add j):=by
   simp only[IQ];split<;>split<;>simp_all<;>omega
  rw[e1]at h2;exact h2
 simp only[Kf,JK]at a4;obtain⟨i,hi,rfl⟩:=a4;exact⟨a0 i hi,n,_,(hV i zo).2⟩
theorem uq{α β:Type}{f:α->β}{R:α->Prop}:∀(xs:List β),(∀c∈xs,∃a,c=f a/\R a)->∃ys:List α,xs=ys.map f/\∀y∈ys,R y
 |[],_=>⟨[],rfl,by simp⟩
 |c::xs,h=>by
  obtain⟨a,ha,hR⟩:=h c (by simp);obtain⟨ys,hy,hr⟩:=uq xs (fun c hc=>h c (by simp[hc]));exact⟨a::ys,by simp[ha,hy],by simpa[hR]using hr⟩
theorem Sl.of_map{α β:Type}{enc:β->List ix}{f:α->β}{sz:Nat}{v:ix}{ys:List α}(h:Sl enc sz w v (ys.map f)):Sl (fun a=>enc (f a)) sz w v ys:=by
 refine⟨by simpa using h.shape,fun i hi j u hu=>h.cells i (by simpa using hi) j u (by simpa using hu)⟩
theorem Rd.sliceOf{α:Type}{f:α->List ix}{R:α->Prop}{t e:ln}{sz:Nat}{cs:List ix}(ht:P.underlying t=some (.slice e))(ce:P.cellsOf e=sz)(hz:0<sz)(a0:∀c,Rd enc P w base held e c->∃a,c=f a/\R a)(h:Rd enc P w base held t cs):
  ∃v xs,cs=[v]/\Sl f sz w v xs/\∀a∈xs,R a:=by
 obtain⟨v,xs,rfl,hs,hx⟩:=h.slice ht ce hz;obtain⟨ys,rfl,hy⟩:=uq (f:=f) (R:=R) xs fun c hc=>a0 c (hx c hc).2
 exact⟨v,ys,rfl,hs.of_map,hy⟩
theorem Rd.ints{k:I9}{t e:ln}{cs:List ix}(ht:P.underlying t=some (.slice e))(he:P.underlying e=some (.int k))(ce:P.cellsOf e=1)(h:Rd enc P w base held t cs):
 ∃v zs,cs=[v]/\Sl (fun n=>[KM k n]) 1 w v zs/\∀n∈zs,(Mx k n).wf=true:=h.sliceOf ht ce zd (fun _ hc=>hc.int he)
end
end Go.VL
end
section
namespace Go.VL
def evp(st:St):List (Nat×I2)->Option (List (Nat×ix))
 |[]=>some []
 |(i,x)::r=>match ev st x,evp st r with
  |some v,some vs=>some ((i,v)::vs)
  |_,_=>none
section
variable{P:I6}{N:Nat}{ops:Array IG}{Q:IW→Jb→ka→Prop}{rest:List IG}{st:St}{w:ka}
variable{t:ln}{p:String}{e:Array Jp}{d:Nat}{x y z:I2}
theorem Fits.evp{a:Jb}(ha:Fits N a st):∀ {l:List (Nat×I2)} {vs:List (Nat×ix)},evp st l=some vs->l.map (fun q=>(q.1,a.eval q.2))=vs:=by
 intro l
 induction l with
 |nil=>intro vs h;simpa[VL.evp]using h.symm
 |cons q r ih=>
  obtain⟨i,x⟩:=q;intro vs h;simp only[VL.evp]at h
  cases h1:VL.ev st x with
  |none=>rw[h1]at h;simp at h
  |some v=>
   cases h2:VL.evp st r with
   |none=>rw[h1,h2]at h;simp at h
   |some vs'=>
    rw[h1,h2]at h;simp at h;subst h;rw[IK,ha.ev h1,ih h2]
def cB(P:I6)(T:ln)(pl:Array (Nat×Nat)):Prop:=
 ∃fs,P.underlying T=some (.struct fs)/\∀w,(fs.mapM fun f=>do pure (f.offset,<-IY f.type):Sem (Array (Nat×Nat))).run P w=.ok pl w
theorem RV.build{T:ln}{pl:Array (Nat×Nat)}{parts:List (Nat×I2)}{vs:List (Nat×ix)}{z:ix}{cells:Array ix}(hp:cB P T pl)(hz:(JE T).run P w=.ok z w)
  (hv:evp st parts=some vs) (hf:JJ (pl[·]?) z.cells vs=some cells):RV P N (.build T parts.toArray) t st w (.agg cells):=
 fun a ha a1 p e g=>by
  obtain⟨fs,hu,a0⟩:=hp;have h1:=ha.evp hv;have e1:(KG (fun x:Nat×I2=>match x with|(i,x)=>(i,a.eval x)) parts)=vs:=by rw[<-h1]
  simp only[execOp,M4,I8,e1,I5,hz,I1,run_underlying hu,a0,hf,IN]
theorem fill_flat(pl:Array (Nat×Nat)):∀(vs:List (Nat×ix)) (cells:Array ix),(vs.all fun q=>q.2.oneCell')=true->
  (vs.all fun q=>match pl[q.1]? with|some (off,1)=>I0 off cells.size|_=>false)=true->
  JJ (pl[·]?) cells vs=some (vs.foldl (fun cs q=>cs.setIfInBounds (pl.getD q.1 (0,0)).1 q.2) cells)
 |[],cells,_,_=>rfl
 |(i,v)::r,cells,h1,h2=>by
  simp only[JB,J5]at h1 h2;obtain⟨hv,h1⟩:=h1;obtain⟨hi,h2⟩:=h2
  cases hp:pl[i]? with
  |none=>rw[hp]at hi;simp at hi
  |some q=>
   obtain⟨off,s⟩:=q;rw[hp]at hi
   split at hi
   ·rename_i he;simp only[JD,Lv]at he;obtain⟨rfl,rfl⟩:=he;have a2:off<cells.size:=Ju hi;have hc:v.cells = #[v]:=by cases v<;>first|rfl|simp[J3]at hv
    have hg:pl.getD i (0,0)=(off,1):=by simp[I4,hp]
    have a0:∀(f:Array ix->ix×Nat->Array ix),(∀cs c j,f cs (c,j)=cs.setIfInBounds (off+j) c)->(#[v].zipIdx).foldl f cells=cells.setIfInBounds off v:=fun f hf=>by
     rw[show(#[v].zipIdx) = #[(v,0)]from rfl];show f cells (v,0)=_;rw[hf];rfl
    have a1:¬(1≠1\/off+1>cells.size):=zo;simp only[JJ,hp,hc,LJ,hg];have e1:((#[v].size:Nat))=1:=rfl;simp only[e1];rw[if_neg (by simp;omega)];rw[a0 _ (fun _ _ _=>rfl)];exact fill_flat pl r _ h1 (by simpa using h2)
   cases hi
theorem aE{T:ln}{pl:Array (Nat×Nat)}{parts:List (Nat×I2)}{vs:List (Nat×ix)}{z:ix}{cells:Array ix}(hp:cB P T pl)(hz:(JE T).run P w=.ok z w)
  (hv:evp st parts=some vs) (h1:(vs.all fun q=>q.2.oneCell')=true) (h2:(vs.all fun q=>match pl[q.1]? with|some (off,1)=>I0 off z.cells.size|_=>false)=true)
  (hf:vs.foldl (fun cs q=>cs.setIfInBounds (pl.getD q.1 (0,0)).1 q.2) z.cells=cells):RV P N (.build T parts.toArray) t st w (.agg cells):=
 RV.build hp hz hv (by rw[fill_flat pl vs _ h1 h2,hf])
theorem rG{O:Nat->Nat}{i b:Nat}{cs us:Array ix}{E T:ln}(hb:BlkO O w i b cs E)(hs:us.size=cs.size)(hT:(IY T).run P w=.ok us.size w)(h1:∀u∈us.toList,u.oneCell'=true):
  (K1 T (nP b) (.agg us)).run P w=.ok () (w.setRow b us):=by
 have:=run_storeCells_at P b 0 E us.toList 0 cs w hb.blk (by simp[hs]) h1;simp only[J1,KE,Kq,L5]at this;rw[KS (by simp[hs]),LK]at this;simp only[K1,J4,storeVar,I5,IN,I1,KV,hT];simpa using this
theorem BlkO.setRow{O:Nat->Nat}{w:ka}{i b:Nat}{cs us:Array ix}{E:ln}(h:BlkO O w i b cs E):BlkO O (w.setRow b us) i b us E:=
 ⟨setRow_heap w b cs us E (0,0) h.blk,h.tag⟩
theorem Upd.setRow{S:Nat->Prop}(hz:¬S 0){O:Nat->Nat}{w:ka}{i b:Nat}{us:Array ix}(ht:O b=i)(hS:S i):Upd S O w O (w.setRow b us):=
 ⟨rfl,rfl,rfl,by simp,fun k _ hn=>setRow_other w b k _ (fun e=>hn (by subst e;rw[ht];exact hS)),fun _ _=>rfl,fun _ h=>.inl h,hz⟩
theorem aZ{T:ln}{O:Nat->Nat}{i b:Nat}{cs us:Array ix}{E:ln}(hb:BlkO O w i b cs E)(hs:us.size=cs.size)(hT:(IY T).run P w=.ok us.size w)(h1:us.toList.all J3=true)
  {q:IZ} (hx:ev st x=some (.pointer (some q))) (hq:q=⟨b,0,none⟩) (hy:ev st y=some (.agg us))
  (h:WL P N ops Q rest st (w.setRow b us)):WL P N ops Q (⟨none,.store T x y,t,p,e,none⟩::rest) st w:=
 ik (fun a ha=>by
  subst hq
  simp only[execOp,ha.ev hx,ha.ev hy,I5,rG hb hs hT (Lz.1 h1),I1,IN]) h
theorem aF{B:Nat}{O:Nat->Nat}(r:Rng B O w)(i:Nat)(a0:i≠0){E:ln}{v:ix}(hx:ev st x=some v)(hd:I0 d N=true)
  (h:∀b w' O',BlkO O' w' i b v.cells E->Upd (fun j=>j=i) O w O' w'->Rng B O' w'->Ext w w'->WL P N ops Q rest ((d,nP b)::st) w'):WL P N ops Q (⟨some d,.box E x,t,p,e,none⟩::rest) st w:=by
 have u:=Upd.alloc (S:=fun j=>j=i) (fun h=>a0 h.symm) r (.cells v.cells E) i;exact WL.box hx hd (h _ _ _ (BlkO.new _ _ _ _ _) u (r.upd u) (Ext.alloc _ _))
theorem ar{B:Nat}{O:Nat->Nat}(r:Rng B O w)(i:Nat)(a0:i≠0){E:ln}{z:ix}(hz:(JE E).run P w=.ok z w)(hd:I0 d N=true)
  (h:∀b w' O',BlkO O' w' i b z.cells E->Upd (fun j=>j=i) O w O' w'->Rng B O' w'->Ext w w'->WL P N ops Q rest ((d,nP b)::st) w'):WL P N ops Q (⟨some d,.alloc E,t,p,e,none⟩::rest) st w:=by
 have u:=Upd.alloc (S:=fun j=>j=i) (fun h=>a0 h.symm) r (.cells z.cells E) i;exact WL.alloc hz hd (h _ _ _ (BlkO.new _ _ _ _ _) u (r.upd u) (Ext.alloc _ _))
theorem BlkO.cellsAdd{O:Nat->Nat}{i b:Nat}{cs:Array ix}{E:ln}(h:BlkO O w i b cs E):∀j u,cs.toList[j]? = some u->w.cell? (nA b j)=some u:=fun j u hu=>by
 rw[show(nA b j)=⟨b,j,none⟩from by simp only[IQ];split<;>simp_all];exact h.cell j (by simpa using hu)
end
section
variable{P:I6}{N:Nat}{st:St}{w:ka}{fn:M9}{R:ix→ka→Prop}
theorem dh{T:ln}{q:IZ}{us:List ix}(hc:∀j u,us[j]? = some u->w.cell? (q.add j)=some u)(hT:(LD T).run P w=.ok true w)(hn:(IY T).run P w=.ok us.length w):
  (loadVar T q).run P w=.ok (.agg us.toArray) w:=by
 have:=run_loadCellsFrom (P:=P) us 0 #[] (q:=q) (w:=w) (by simpa using hc);simp[loadVar,hT,hn,loadCells,this]
theorem aJ{t:Mm}{T:ln}{q:IZ}{us:List ix}(hr:fn.results = #[.cell t T])(hv:cf st t=some (.pointer (some q)))
  (hc:∀j u,us[j]? = some u->w.cell? (q.add j)=some u) (hT:(LD T).run P w=.ok true w) (hn:(IY T).run P w=.ok us.length w) (h:R (.agg us.toArray) w):QF N (RP P fn R) .ret st w:=fun a ha=>
 ⟨ha.defers,_,by have h1:=ha.get _ _ hv;simp[results,hr,I4,h1,asAddr,dh hc hT hn],h⟩
theorem aS{t u:Mm}{T:ln}{q:IZ}{us:List ix}{v':ix}(hr:fn.results = #[.cell t T,.tmp u])(hv:cf st t=some (.pointer (some q)))(a0:cf st u=some v')
  (hc:∀j u,us[j]? = some u->w.cell? (q.add j)=some u) (hT:(LD T).run P w=.ok true w) (hn:(IY T).run P w=.ok us.length w) (h:R (.tuple #[.agg us.toArray,v']) w):QF N (RP P fn R) .ret st w:=fun a ha=>
 ⟨ha.defers,_,by have h1:=ha.get _ _ hv;have h2:=ha.get _ _ a0;simp[results,hr,I4,h1,h2,asAddr,dh hc hT hn],h⟩
end
theorem uU{α:Type}{enc:α->List ix}{sz:Nat}{w:ka}{g:Nat}{cells:Array ix}{E:ln}{xs:List α}(hb:w.heap[g]? = some (.cells cells E (0,0)))(hc:cells.toList=xs.flatMap enc)(hz:∀x∈xs,(enc x).length=sz)(hm:xs.length<=9223372036854775807):
  Sl enc sz w (.slice (some ⟨g,0,none⟩) xs.length xs.length) xs:=by
 refine⟨⟨_,_,rfl,ID _,hm,fun _=>⟨g,0,rfl⟩⟩,fun i hi j u hu=>?_⟩;have h:=eu xs hz i hi j u hu;have ha:((adr (.slice (some ⟨g,0,none⟩) xs.length xs.length) sz i).add j)=⟨g,i*sz+j,none⟩:=by
  simp only[adr,IQ];split<;>simp_all
 rw[ha,cell_of_row w g _ cells E (0,0) hb];rw[<-hc]at h;simpa using h
section
variable{P:I6}{N:Nat}{ops:Array IG}{Q:IW→Jb→ka→Prop}{rest:List IG}{st:St}{w:ka}
variable{t:ln}{p:String}{e:Array Jp}{d:Nat}
theorem iQ{T E:ln}{sz n:Nat}{z:ix}{parts:List (Nat×I2)}{vs:List (Nat×ix)}(hu:P.underlying T=some (.slice E))(hE:(IY E).run P w=.ok sz w)(hz:(JE E).run P w=.ok z w)
  {α:Type} (enc:α->List ix) (xs:List α) (hn:xs.length=n) (hv:evp st parts=some vs) (a4:Lw (n*sz) 16777216=true) (a1:J2 (n*sz) 0=false)
  (hf:JJ (fun i=>some (i*sz,sz)) ((Array.range (n*sz)).map (z.cells[· % z.cells.size]!)) vs=some (xs.flatMap enc).toArray) (a2:∀x∈xs,(enc x).length=sz) (hd:I0 d N=true)
  (h:∀v w',Sl enc sz w' v xs->Ext w w'->WL P N ops Q rest ((d,v)::st) w'):WL P N ops Q (⟨some d,.buildSlice T n parts.toArray,t,p,e,none⟩::rest) st w:=by
 subst hn;have a3:=Ju a4;have a0:¬xs.length*sz=0:=fun e=>by rw[e]at a1;simp at a1
 have a5:xs.length<=xs.length*sz:=Nat.le_mul_of_pos_right _ (Lq fun e=>a0 (by rw[e,Nat.mul_zero]));refine WL.val (v:=.slice (some ⟨w.heap.size,0,none⟩) xs.length xs.length) (w':=w.alloc (.cells (xs.flatMap enc).toArray E)) hd (fun a ha=>?_) (h _ _ (uU (heap_alloc_new w _) rfl a2 zo) (Ext.alloc _ _));have h1:=ha.evp hv;have e1:(KG (fun x:Nat×I2=>match x with|(i,x)=>(i,a.eval x)) parts)=vs:=by rw[<-h1]
 simp only[execOp,Instr.buildSlice,I8,e1,I5,run_underlying hu,I1,hE];rw[if_neg zo,if_neg a0];simp[hz,hf,newRow,newObj];rfl
end
end Go.VL
end
section
namespace Go.VL
section
variable{P:I6}{N:Nat}{ops:Array IG}{Q:IW→Jb→ka→Prop}{rest:List IG}{st:St}{w:ka}
theorem fG(K:IW->Jb->ka->Prop):∀(l r:List IG) (a:Jb) (w:ka),(∀e a w,K e a w->e≠.normal->Q e a w)->(∀a w,K .normal a w->wpList P ops Q r a w)->wpList P ops K l a w->wpList P ops Q (l++r) a w
 |[],r,a,w,_,hn,h=>hn a w h
 |o::l,r,a,w,hx,hn,h=>by
  simp only[Jw];unfold wpList at h ⊢;have ih:=fun a w=>fG K l r a w hx hn
  have a1:∀c a w,K (.panic c) a w->Q (.panic c) a w:=fun c a w h=>hx _ a w h (by intro h;cases h)
  split
  ·rename_i hw;rw[if_pos hw]at h
   rcases h with h|⟨h1,a0,w0,h2⟩
   ·left;unfold JA at h ⊢;generalize (execOp a.eval o).run P w=q at *
    cases q with
    |ok n w'=>
     cases n<;>simp only[JO]at h ⊢<;>first
      |exact ih _ _ h
      |exact h.elim
      |exact Lu h (fun _ _ he=>ih _ _ he)
      |exact Jh h (fun e w'' he=>by
       cases e with
       |returned v=>exact ih _ _ he
       |panicked c=>exact a1 _ _ _ he
       |outgrown=>obtain⟨a0,w0,he⟩:=he;exact⟨a0,w0,hx _ a0 w0 he (by intro h;cases h)⟩)
    |halt x w'=>cases x<;>simp only[JO]at h ⊢<;>first|exact a1 _ _ _ h|exact h.elim
   exact .inr ⟨h1,a0,w0,hx _ a0 w0 h2 (by intro h;cases h)⟩
  rename_i hw;rw[if_neg hw]at h;exact ih _ _ h
def Fq(N:Nat)(S:ka->Prop)(tB:Nat)(b:Bool)(st:St):IW->Jb->ka->Prop:=fun e a w=>e=.normal/\S w/\Fits N a st/\a.tmps[tB]? = some (.bool b)
def rS(N:Nat)(ops:Array IG)(st:St):List IG->Bool
 |[]=>true
 |o::r=>(match o.guard with
  |some (i,c)=>(match (ops[i]?).bind (·.dst)with
   |some d=>(match cf st d with
    |some (.bool x)=>!(x==c)
    |some (.tuple _)=>true
    |_=>false)
   |none=>false)
  |none=>false)&&(match o.dst with|some d=>(match cf st d with|none=>true|_=>false)&&I0 d N&&rS N ops ((d,undef)::st) r|none=>false)
theorem qf:∀(l:List IG) (st0 st:St) (a:Jb),rS N ops st l=true->(∀t v,cf st0 t=some v->cf st t=some v)->Fits N a st->(∀a',Fits N a' st0->wpList P ops Q rest a' w)->wpList P ops Q (l++rest) a w
 |[],st0,st,a,_,hc,ha,h=>h a ⟨ha.size,ha.defers,fun t v hv=>ha.get t v (hc t v hv)⟩
 |o::l,st0,st,a,hp,hc,ha,h=>by
  simp only[rS,J5]at hp;obtain⟨hg,hd⟩:=hp
  cases a2:o.dst with
  |none=>rw[a2]at hd;simp at hd
  |some d=>
   rw[a2]at hd;simp only[J5]at hd;obtain⟨⟨a4,a6⟩,a5⟩:=hd;have a0:cf st d=none:=by cases h:cf st d with|none=>rfl|some v=>rw[h]at a4;simp at a4
   simp only[Jw];unfold wpList;rw[if_neg ?_]
   ·rw[a2];refine qf l st0 ((d,undef)::st) _ a5 (fun t v hv=>?_) (ha.put a6 undef) h;have h1:=hc t v hv;simp only[cf]
    cases hb:J2 d t with
    |true=>have:=I7 hb;subst this;rw[a0]at h1;simp at h1
    |false=>exact h1
   cases a3:o.guard with
   |none=>rw[a3]at hg;simp at hg
   |some ic=>
    obtain⟨i,c⟩:=ic;rw[a3]at hg;simp only at hg;simp only[IJ,a3,yielded]
    cases a1:(ops[i]?).bind (·.dst)with
    |none=>rw[a1]at hg;simp at hg
    |some d'=>
     rw[a1]at hg;simp only at hg
     cases hs:cf st d' with
     |none=>rw[hs]at hg;simp at hg
     |some v=>
      rw[hs]at hg
      cases v<;>simp at hg
      ·rename_i x;simp[ha.get _ _ hs];exact fun e=>hg (by rw[e])
      simp[ha.get _ _ hs]
theorem qu{a:Jb}{t:Nat}{b b':Bool}(hs:cf st t=some (.bool b))(hb:b=b')(ha:Fits N a st):Fits N a ((t,.bool b')::st):=by
 subst hb;refine⟨ha.size,ha.defers,fun u v hv=>?_⟩;simp only[cf]at hv
 cases hb:J2 t u with
 |true=>rw[hb]at hv;have:=I7 hb;subst this;simp at hv;subst hv;exact ha.get _ _ hs
 |false=>rw[hb]at hv;exact ha.get _ _ hv
theorem bz{l G:List IG}{tA tB tP:Nat}{c:Bool}{t:ln}{p:String}{e:Array Jp}(S:ka->Prop)(b:Bool)(n:Nat)(hS:S w)(hG:l.take n=G)(a0:l.drop n=⟨some tP,.pick (.tmp tA) (.tmp tB) (.const (.bool false)),t,p,e,none⟩::rest)
  (hc:cf st tA=some (.bool c)) (a1:rS N ops ((tA,.bool false)::st) G=true) (hd:I0 tP N=true)
  (h1:c=true->WL P N ops (Fq N S tB b st) G ((tA,.bool true)::st) w) (h2:∀w',S w'->WL P N ops Q rest ((tP,.bool (c&&b))::st) w'):WL P N ops Q l st w:=by
 intro a ha;rw[<-Jf n l,hG,a0]
 cases c with
 |true=>
  refine fG (Fq N S tB b st) G _ a w (fun e a w h a3=>absurd h.1 a3) (fun a' w' h=>?_) (h1 rfl a (qu hc rfl ha));obtain⟨_,a4,hf,hb⟩:=h;unfold wpList;rw[if_pos (bP rfl _)];left;unfold JA;rw[iz (b:=true) (by simpa[Je,I4]using(by rw[hf.get _ _ hc]:(a'.tmps[tA]?).getD undef=(some (.bool true)).getD undef))];simp only[cond_true];rw[show a'.eval (.tmp tB)=.bool b from by simp[Je,I4,hb]];exact h2 w' a4 _ (hf.put hd _)
 |false=>
  refine qf G st ((tA,.bool false)::st) a a1 (fun t v hv=>?_) (qu hc rfl ha) (fun a' a2=>?_)
  ·simp only[cf]
   cases hb:J2 tA t with
   |true=>have:=I7 hb;subst this;rw[hc]at hv;exact hv
   |false=>exact hv
  unfold wpList;rw[if_pos (bP rfl _)];left;unfold JA;rw[iz (b:=false) (by simpa[Je,I4]using(by rw[a2.get _ _ hc]:(a'.tmps[tA]?).getD undef=(some (.bool false)).getD undef))];exact h2 w hS _ (a2.put hd _)
theorem bK{l G:List IG}{tA tB tP:Nat}{c:Bool}{t:ln}{p:String}{e:Array Jp}(S:ka->Prop)(b:Bool)(n:Nat)(hS:S w)(hG:l.take n=G)(a0:l.drop n=⟨some tP,.pick (.tmp tA) (.const (.bool true)) (.tmp tB),t,p,e,none⟩::rest)
  (hc:cf st tA=some (.bool c)) (a1:rS N ops ((tA,.bool true)::st) G=true) (hd:I0 tP N=true)
  (h1:c=false->WL P N ops (Fq N S tB b st) G ((tA,.bool false)::st) w) (h2:∀w',S w'->WL P N ops Q rest ((tP,.bool (c||b))::st) w'):WL P N ops Q l st w:=by
 intro a ha;rw[<-Jf n l,hG,a0]
 cases c with
 |false=>
  refine fG (Fq N S tB b st) G _ a w (fun e a w h a3=>absurd h.1 a3) (fun a' w' h=>?_) (h1 rfl a (qu hc rfl ha));obtain⟨_,a4,hf,hb⟩:=h;unfold wpList;rw[if_pos (bP rfl _)];left;unfold JA;rw[iz (b:=false) (by simpa[Je,I4]using(by rw[hf.get _ _ hc]:(a'.tmps[tA]?).getD undef=(some (.bool false)).getD undef))];simp only[cond_false];rw[show a'.eval (.tmp tB)=.bool b from by simp[Je,I4,hb]];exact h2 w' a4 _ (hf.put hd _)
 |true=>
  refine qf G st ((tA,.bool true)::st) a a1 (fun t v hv=>?_) (qu hc rfl ha) (fun a' a2=>?_)
  ·simp only[cf]
   cases hb:J2 tA t with
   |true=>have:=I7 hb;subst this;rw[hc]at hv;exact hv
   |false=>exact hv
  unfold wpList;rw[if_pos (bP rfl _)];left;unfold JA;rw[iz (b:=true) (by simpa[Je,I4]using(by rw[a2.get _ _ hc]:(a'.tmps[tA]?).getD undef=(some (.bool true)).getD undef))];exact h2 w hS _ (a2.put hd _)
theorem cI{S:ka->Prop}{tA tB:Nat}{b c:Bool}{st0:St}(n:Nat)(hS:S w)(a0:st.drop n=st0)(hf:((st.take n).all fun q=>J2 q.1 tA||(match cf st0 q.1 with|none=>true|_=>false))=true)
  (hA:cf st tA=some (.bool c)) (a3:∀v,cf st0 tA=some v->v=.bool c) (hb:cf st tB=some (.bool b)):QF N (Fq N S tB b st0) .normal st w:=fun a ha=>by
 refine⟨rfl,hS,⟨ha.size,ha.defers,fun t v hv=>?_⟩,ha.get _ _ hb⟩;refine ha.get t v ?_
 by_cases ht:t=tA
 ·subst ht;rw[a3 v hv];exact hA
 have a2:∀(a1:St),(a1.all fun q=>J2 q.1 tA||(match cf st0 q.1 with|none=>true|_=>false))=true->cf (a1++st0) t=some v:=by
  intro a1
  induction a1 with
  |nil=>intro _;exact hv
  |cons q r ih=>
   intro hq;simp only[JB,J5,Bool.or_eq_true]at hq;obtain⟨k,u⟩:=q;simp only[Jw,cf]
   cases hb:J2 k t with
   |false=>exact ih hq.2
   |true=>
    have:=I7 hb;subst this
    rcases hq.1 with h|h
    ·exact absurd (I7 h) ht
    simp only[hv]at h;cases h
 have:=a2 (st.take n) hf;rw[<-a0,Jf]at this;exact this
end
end Go.VL
end
section
namespace Go.VL
section
variable{P:I6}{N:Nat}{ops:Array IG}{Q:IW→Jb→ka→Prop}{rest:List IG}{st:St}{w:ka}
variable{t xt yt:ln}{p:String}{e:Array Jp}{d:Nat}{x y z:I2}
theorem jG{op:My}{a b v:ix}(hg:eqGuard op xt x y a b=pure ())(hx:ev st x=some a)(hy:ev st y=some b)(hr:(binOp op xt a b).run P w=.ok v w):RV P N (.binOp op xt x y yt) t st w v:=
 fun ac ha a0 p e g=>by
  simp only[execOp,ha.ev hx,ha.ev hy,hg,I5,IN,I1,hr]
theorem Bo{a b:Bool}(hu:P.underlying xt=some .bool)(hx:ev st x=some (.bool a))(hy:ev st y=some (.bool b)):RV P N (.binOp .eql xt x y yt) t st w (.bool (a==b)):=
 jG (eqGuard_at_bool ..) hx hy (run_eql_bool w xt a b hu)
theorem Fc{a b:Bool}(hu:P.underlying xt=some .bool)(hx:ev st x=some (.bool a))(hy:ev st y=some (.bool b)):RV P N (.binOp .neq xt x y yt) t st w (.bool (!(a==b))):=
 jG (eqGuard_at_bool ..) hx hy (run_neq_bool w xt a b hu)
theorem jF{k k':I9}{m n:Int}{a0:Array ln}(hx:ev st x=some (.int k m))(hy:ev st y=some (.int k' n)):RV P N (.call ⟨.builtin .max,#[x,y],a0⟩) t st w (.int k (max m n)):=
 fun a ha a1 p e g=>by
  simp only[execOp,resolve,invoke,builtin,I5,IN,I1,I8,IK,J0,ha.ev hx,ha.ev hy,run_max_int2];congr 3;rw[Int.max_def];split<;>split<;>omega
theorem Fh{k k':I9}{m n:Int}{a0:Array ln}(hx:ev st x=some (.int k m))(hy:ev st y=some (.int k' n)):RV P N (.call ⟨.builtin .min,#[x,y],a0⟩) t st w (.int k (min m n)):=
 fun a ha a1 p e g=>by
  simp only[execOp,resolve,invoke,builtin,I5,IN,I1,I8,IK,J0,ha.ev hx,ha.ev hy,run_min_int2];congr 3;rw[Int.min_def];split<;>split<;>omega
def bs(l:List UInt8):ByteArray:=⟨l.toArray⟩
theorem cW(l:List UInt8):(bs l).size=l.length:=by simp[bs,Mt]
theorem fq(l:List UInt8):(bs l).toList=l:=Mr l
theorem lE(l:List UInt8)(a b:Nat):(bs l).extract a b=bs ((l.take b).drop a):=by
 rw[bs,Mv,List.drop_take];rfl
theorem CZ{a b:List UInt8}(h:bs a=bs b):a=b:=by
 have:=congrArg Ms h;rwa[fq,fq]at this
theorem te{op:My}{s u:ByteArray}:binOp op xt (.string s) (.string u)=Op.stringOp op s u:=by cases op<;>rfl
theorem cH{a b:List UInt8}(hx:ev st x=some (.string (bs a)))(hy:ev st y=some (.string (bs b))):RV P N (.binOp .eql xt x y yt) t st w (.bool (a==b)):=
 jG (eqGuard_at_string ..) hx hy (by rw[te];show M7 (M6 ((bs a).toList==(bs b).toList)) w=_;rw[fq,fq])
theorem Fb{a b:List UInt8}(hx:ev st x=some (.string (bs a)))(hy:ev st y=some (.string (bs b))):RV P N (.binOp .neq xt x y yt) t st w (.bool (!(a==b))):=
 jG (eqGuard_at_string ..) hx hy (by rw[te];show M7 (M6 (!((bs a).toList==(bs b).toList))) w=_;rw[fq,fq])
theorem bZ{a:List UInt8}{T:ln}(hT:P.underlying T=some .string)(hx:ev st x=some (.string (bs a))):RV P N (.call ⟨.builtin .len,#[x],#[T]⟩) t st w (nI a.length):=
 fun c hc a0 p e g=>by
  simp only[execOp,resolve,invoke,builtin,I5,IN,I1,I8,IK,J0,hc.ev hx,run_len_string w T t _ hT,cW];rfl
theorem Bn{a:List UInt8}{k:I9}{m:Int}(hT:P.underlying xt=some .string)(hx:ev st x=some (.string (bs a)))(hy:ev st y=some (.int k m))(i:Nat)(hm:m=i)(hi:i<a.length):RV P N (.index xt x y) t st w (.int .u8 ((nth a i).toNat:Int)):=
 fun c hc a0 p e g=>by
  subst hm;have h2:0<=(i:Int)/\(i:Int)<(bs a).size:=by rw[cW];omega
  simp only[execOp,hc.ev hx,hc.ev hy,I5,run_index_string w xt (bs a) k i hT,dif_pos h2,I1];have:(bs a)[(i:Int).toNat]'(by rw[cW];omega)=nth a i:=by
   rw[aB hi];simp[bs,Mu]
  rw[this];rfl
theorem cQ{a:List UInt8}{k k':I9}{m n:Int}(hT:P.underlying xt=some .string)(hx:ev st x=some (.string (bs a)))(hy:ev st y=some (.int k m))(hz:ev st z=some (.int k' n))(i j:Nat)(hm:m=i)(hn:n=j)(a0:i<=j)(hj:j<=a.length):
  RV P N (.slice xt x (some y) (some z) none) t st w (.string (bs ((a.take j).drop i))):=
 fun c hc a1 p e g=>by
  subst hm;subst hn;simp only[execOp,IP,J6,hc.ev hx,hc.ev hy,hc.ev hz,run_sliceAt_string w xt _ _ _ _ hT,I5,run_slice_string w xt (bs a) k k' i j hT zo zo (by rw[cW];omega),I1,IV,lE];rfl
theorem jE{a:List UInt8}{k:I9}{m:Int}(hT:P.underlying xt=some .string)(hx:ev st x=some (.string (bs a)))(hy:ev st y=some (.int k m))(i:Nat)(hm:m=i)(hi:i<=a.length):
  RV P N (.slice xt x (some y) none none) t st w (.string (bs (a.drop i))):=
 fun c hc a0 p e g=>by
  subst hm;simp only[execOp,IP,J6,hc.ev hx,hc.ev hy,run_sliceAt_string w xt _ _ _ _ hT,I5,run_slice_string_l w xt (bs a) hT k i zo (by rw[cW];omega),I1,IV,lE,cW,Lx];rfl
theorem uW{a:List UInt8}{k:I9}{n:Int}(hT:P.underlying xt=some .string)(hx:ev st x=some (.string (bs a)))(hz:ev st z=some (.int k n))(j:Nat)(hn:n=j)(hj:j<=a.length):
  RV P N (.slice xt x none (some z) none) t st w (.string (bs (a.take j))):=
 fun c hc a0 p e g=>by
  subst hn;simp only[execOp,IP,J6,hc.ev hx,hc.ev hz,run_sliceAt_string w xt _ _ _ _ hT,I5,run_slice_string_h w xt (bs a) hT k j zo (by rw[cW];omega),I1,IV,lE,List.drop_zero];rfl
theorem gi{T:ln}{a:Option IZ}{l c:Nat}(hT:P.underlying xt=some (.slice T))(hx:ev st x=some (.slice a l c))(hy:ev st y=some (nS)):RV P N (.binOp .eql xt x y yt) t st w (.bool a.isNone):=
 jG (eqGuard_at_slice ..) hx hy (by simp[binOp,run_equal_slice_nil w xt T a l c hT])
theorem fy{q:Option IZ}(hT:P.underlying xt=some (.pointer (P.pointee xt)))(hx:ev st x=some (.pointer q))(hy:ev st y=some (.pointer none)):RV P N (.binOp .eql xt x y yt) t st w (.bool q.isNone):=
 jG (eqGuard_at_pointer ..) hx hy (run_eql_pointer_nil w xt q hT)
theorem yq{q:Option IZ}(hT:P.underlying xt=some (.pointer (P.pointee xt)))(hx:ev st x=some (.pointer q))(hy:ev st y=some (.pointer none)):RV P N (.binOp .neq xt x y yt) t st w (.bool (!q.isNone)):=
 jG (eqGuard_at_pointer ..) hx hy (run_neq_pointer_nil w xt q hT)
def bL(v:ix)(sz lo hi:Nat):ix:=
 match v with
 |.slice a _ cap=>.slice (if cap=lo then a else a.map (·.add (lo*sz))) (hi-lo) (cap-lo)
 |_=>v
theorem Sl.slice{α:Type}{enc:α->List ix}{sz:Nat}{v:ix}{xs:List α}(h:Sl enc sz w v xs){lo hi:Nat}(h1:lo<=hi)(h2:hi<=xs.length):Sl enc sz w (bL v sz lo hi) ((xs.take hi).drop lo):=by
 obtain⟨a,c,rfl,hc,hm,ha⟩:=h.shape;have a0:((xs.take hi).drop lo).length=hi-lo:=by simp;omega
 refine⟨⟨_,c-lo,by rw[a0];rfl,zo,zo,fun a2=>?_⟩,fun i a1 j u hu=>?_⟩
 ·rw[a0]at a2;obtain⟨b,o,rfl⟩:=ha zo;rw[if_neg zo];exact⟨b,o+lo*sz,by simp only[IP,IQ];split<;>simp_all⟩
 rw[a0]at a1;obtain⟨b,o,rfl⟩:=ha zo;have hg:((xs.take hi).drop lo)[i]'(by rw[a0];exact a1)=xs[lo+i]'(zo):=by simp
 rw[hg]at hu;have:=h.cells (lo+i) zo j u hu;have e1:adr (bL (.slice (some ⟨b,o,none⟩) xs.length c) sz lo hi) sz i=adr (.slice (some ⟨b,o,none⟩) xs.length c) sz (lo+i):=by
  simp only[bL,adr];rw[if_neg zo];simp only[IP,IQ]
  split<;>simp_all[JZ,KO]
 rw[e1];exact this
theorem iS{α:Type}{enc:α->List ix}{sz:Nat}{v:ix}{xs:List α}{E:ln}{k:I9}{m:Int}(h:Sl enc sz w v xs)(hT:P.underlying xt=some (.slice E))(hs:(IY E).run P w=.ok sz w)
  (hx:ev st x=some v) (hy:ev st y=some (.int k m)) (i:Nat) (hm:m=i) (hi:i<=xs.length):RV P N (.slice xt x (some y) none none) t st w (bL v sz i xs.length):=
 fun a' ha a0 p e g=>by
  subst hm;obtain⟨a,c,rfl,hc,_,_⟩:=h.shape;have hE:P.elem xt=E:=by simp[LF,hT]
  simp only[execOp,IP,J6,ha.ev hx,ha.ev hy,run_sliceAt_slice w xt _ _ _ _ (by rw[hE];exact hT:P.underlying xt=some (.slice (P.elem xt))),I5,run_slice_l w xt a xs.length c (by rw[hE];exact hT) k i zo zo,hE,hs,I1,IV,sliced];rfl
theorem lK{α:Type}{enc:α->List ix}{sz:Nat}{v:ix}{xs:List α}{E:ln}{k:I9}{n:Int}(h:Sl enc sz w v xs)(hT:P.underlying xt=some (.slice E))(hs:(IY E).run P w=.ok sz w)
  (hx:ev st x=some v) (hz:ev st z=some (.int k n)) (j:Nat) (hn:n=j) (hj:j<=xs.length):RV P N (.slice xt x none (some z) none) t st w (bL v sz 0 j):=
 fun a' ha a0 p e g=>by
  subst hn;obtain⟨a,c,rfl,hc,_,_⟩:=h.shape;have hE:P.elem xt=E:=by simp[LF,hT]
  simp only[execOp,IP,J6,ha.ev hx,ha.ev hz,run_sliceAt_slice w xt _ _ _ _ (by rw[hE];exact hT:P.underlying xt=some (.slice (P.elem xt))),I5,run_slice_h w xt a xs.length c (by rw[hE];exact hT) k j zo zo,hE,hs,I1,IV,sliced];rfl
end
end Go.VL
end
section
namespace Go.VL
def Free(O:Nat->Nat)(w:ka)(v:ix):Prop:=∀a n c,v=.slice (some a) n c->n≠0->O a.block=0/\a.block<w.heap.size
theorem Free.upd{S:Nat->Prop}{O O':Nat->Nat}{w w':ka}{v:ix}(h:Free O w v)(u:Upd S O w O' w'):Free O' w' v:=fun a n c e hn=>by
 obtain⟨h1,h2⟩:=h a n c e hn;refine⟨IE fun a0=>?_,Jo h2 u.size⟩
 rcases u.new _ a0 with h3|h3
 ·exact h3 h1
 omega
theorem gZ{w w':ka}{a:IZ}{u:ix}(hb:w'.heap[a.block]? = w.heap[a.block]?)(h:w.cell? a=some u):w'.cell? a=some u:=by
 simpa only[M0,hb]using h
theorem Sl.upd{α:Type}{enc:α->List ix}{sz:Nat}{S:Nat->Prop}{O O':Nat->Nat}{w w':ka}{v:ix}{xs:List α}(h:Sl enc sz w v xs)(f:Free O w v)(u:Upd S O w O' w'):Sl enc sz w' v xs:=by
 refine⟨h.shape,fun i hi j x hx=>?_⟩;have hc:=h.cells i hi j x hx;obtain⟨a,c,e,_,_,ha⟩:=h.shape;obtain⟨b,o,rfl⟩:=ha zo;obtain⟨h1,h2⟩:=f _ _ _ e zo;refine gZ ?_ hc
 have hb:((adr v sz i).add j).block=b:=by subst e;simp only[adr,IQ];split<;>rfl
 rw[hb];exact u.blk b h2 (by rw[h1];exact u.z)
theorem RowT.free{α:Type}{enc:α->List ix}{E:ln}{sz:Nat}{O O':Nat->Nat}{w w':ka}{i B:Nat}{v:ix}{l:List α}(h:RowT enc E sz O' w' i v l)(hi:i≠0)(r:Rng w.heap.size O' w')(k:Rng B O w):Free O w' v:=fun a n c e _=>by
 subst e;have h1:=h.1.tag a.block rfl;have h2:=r.rng a.block (by rw[h1];exact hi);exact⟨IE fun a0=>by have:=k.rng _ a0;omega,h2.2⟩
def NewV(B:Nat)(v:ix):Prop:=∀a n c,v=.slice (some a) n c->n≠0->B<=a.block
theorem NewV.mono{B B':Nat}{v:ix}(h:NewV B v)(hb:B'<=B):NewV B' v:=fun a n c e hn=>JI hb (h a n c e hn)
theorem RowT.newV{α:Type}{enc:α->List ix}{E:ln}{sz B:Nat}{O:Nat->Nat}{w:ka}{i:Nat}{v:ix}{l:List α}(h:RowT enc E sz O w i v l)(hi:i≠0)(r:Rng B O w):NewV B v:=fun a n c e _=>by
 subst e;have h1:=h.1.tag a.block rfl;exact(r.rng a.block (by rw[h1];exact hi)).1
theorem Sl.blk_lt{α:Type}{enc:α->List ix}{sz:Nat}{w:ka}{v:ix}{xs:List α}(h:Sl enc sz w v xs)(hf:∀x∈xs,enc x≠[]){a:IZ}{n c:Nat}(e:v=.slice (some a) n c)(hn:n≠0):a.block<w.heap.size:=by
 obtain⟨a',c',e1,_,_,e2⟩:=h.shape;subst e
 cases e1
 obtain⟨b,o,e3⟩:=e2 hn
 cases e3
 have hl:0<xs.length:=Lq hn
 cases hx:enc xs[0]with
 |nil=>exact absurd hx (hf _ (Jv hl))
 |cons u r=>
  have hc:=h.cells 0 hl 0 u (by rw[hx];rfl);have:=JN _ _ hc;have hb:((adr (.slice (some ⟨b,o,none⟩) xs.length c) sz 0).add 0).block=b:=by simp only[adr,IQ];split<;>rfl
  rwa[hb]at this
theorem NewV.free{α:Type}{enc:α->List ix}{sz B:Nat}{O:Nat->Nat}{w w':ka}{v:ix}{xs:List α}(h:NewV w.heap.size v)(hs:Sl enc sz w' v xs)(hf:∀x∈xs,enc x≠[])(r:Rng B O w):Free O w' v:=fun a n c e hn=>
 ⟨IE fun a0=>by have h1:=(r.rng _ a0).2;have h2:=h a n c e hn;omega,hs.blk_lt hf e hn⟩
theorem qn{w w':ka}{v:ix}(h:∀(B:Nat) (O:Nat->Nat),Rng B O w->Free O w' v):NewV w.heap.size v:=fun a n c e hn=>by
 have h1:=(h 0 (fun b=>if b<w.heap.size then 1 else 0) ⟨J7 _,fun b hb=>⟨J7 _,IE fun hn=>hb (if_neg hn)⟩⟩ a n c e hn).1;exact Nat.le_of_not_lt fun a0=>by
  have h2:(1:Nat)=0:=(if_pos a0).symm.trans h1
  cases h2
section
variable{P:I6}{N:Nat}{ops:Array IG}{Q:IW→Jb→ka→Prop}{rest:List IG}{st:St}{w:ka}
variable{t xt yt:ln}{p:String}{e:Array Jp}{d:Nat}{x y z:I2}
theorem cZ{T E:ln}{bytes:Nat}(he:Elem P T E 1 bytes){α:Type}{val:α->ix}(z0:α)(a2:(P.info? E).bind (·.zero)=some (val z0))(h1:∀a,(val a).oneCell'=true){B:Nat}{O:Nat->Nat}(r:Rng B O w)(i:Nat)(a7:i≠0)(n:Nat){kl kc:I9}{m1 m2:Int}
  (hx:ev st x=some (.int kl m1)) (hy:ev st y=some (.int kc m2)) (a6:m1=n) (a5:m2=n) (hb:bytes*n<=281474976710656) (b0:n<=9223372036854775807) (hd:I0 d N=true)
  (h:∀w' O' v,v=.slice (some ⟨w.heap.size,0,none⟩) n n->RowT (fun x=>[val x]) E 1 O' w' i v (KF n z0)->Upd (fun k=>k=i) O w O' w'->Rng B O' w'->Ext w w'->WL P N ops Q rest ((d,v)::st) w') :
  WL P N ops Q (⟨some d,.makeSlice T x y,t,p,e,none⟩::rest) st w:=by
 obtain⟨a1,z,hi,hz,a4,a9,b1⟩:=he.parts;have a3:z=val z0:=by rw[hi]at a2;simpa[hz]using a2
 subst a3;subst a6;subst a5;have a8:(val z0).cells = #[val z0]:=by have:=h1 z0;generalize val z0=u at *;cases u<;>first|rfl|simp[J3]at this
 have a':(a1.bytes:Int)*(n:Int)<=281474976710656:=by
  have h:((a1.bytes*n:Nat):Int)<=281474976710656:=by rw[a9];omega
  rwa[Int.natCast_mul]at h
 have a0:=run_make (P:=P) w T E a1 _ he.ht hi hz kl kc n n zo (Int.le_refl _) a' zo;simp only[IV,a4,Kp,a8]at a0;have hz:¬(fun k=>k=i) 0:=fun h=>a7 h.symm
 have u:=Upd.alloc (S:=fun k=>k=i) hz r (.cells (madeCells #[val z0] n) E) i;refine WL.val (v:=.slice (some ⟨w.heap.size,0,none⟩) n n) hd (fun a ha=>by simp only[execOp,ha.ev hx,ha.ev hy,I5,a0,I1];rfl) (h _ _ _ rfl ⟨⟨?_,fun g hg=>?_⟩,fun a _=>rfl⟩ u (r.upd u) (Ext.alloc _ _))
 ·rw[List.length_replicate];have:=World.ownsRow_lit (base:=0) (size:=1) (e:=E) w (madeCells #[val z0] n) n (J7 _) (by simpa[maxLen]using b0) (by rw[size_madeCells];omega);rw[toList_madeCells_one]at this;have e2:(KF n z0).flatMap (fun x=>[val x])=KF n (val z0):=by
   induction n with
   |zero=>rfl
   |succ n ih=>simp only[List.replicate_succ,JM];congr 1;simp[List.flatMap_replicate]
  rw[e2];exact this
 simp only[Kw,JD]at hg;subst hg;exact cT _ _ _
theorem bR{T E:ln}{sz a0:Nat}(he:Elem P T E sz a0){α:Type}{enc:α->List ix}(u:α){xv:ix}(hx:ev st x=some xv)(a2:xv.cells.toList=enc u)(a4:(enc u).length=sz)(hs:sz<=16777216)(hd:I0 d N=true)
  (h:∀v w',Sl enc sz w' v [u]->Ext w w'->WL P N ops Q rest ((d,v)::st) w'):WL P N ops Q (⟨some d,.buildSlice T 1 #[(0,x)],t,p,e,none⟩::rest) st w:=by
 obtain⟨a3,z,hi,hz,a1,a8,a7⟩:=he.parts;have a6:xv.cells.size=sz:=by rw[<-a4,<-a2];simp
 have a5:=he.pos;refine WL.val (v:=.slice (some ⟨w.heap.size,0,none⟩) 1 1) (w':=w.alloc (.cells xv.cells E)) hd (fun a ha=>?_) (h _ _ ⟨⟨_,1,rfl,ID _,by simp,fun _=>⟨_,_,rfl⟩⟩,fun i hi j c hc=>?_⟩ (Ext.alloc _ _))
 ·have:=run_buildSlice (P:=P) w T E 1 #[(0,xv)] xv.cells a3 z he.ht hi hz (by rw[a1];omega) (by rw[a1];omega) (by
   rw[a1]
   exact iK a6 (by simp))
  simp only[execOp,I8,IK,J0,ha.ev hx,I5,this,I1];rfl
 obtain rfl:i=0:=by simpa using hi
 simp only[J9]at hc;simp only[adr,Kj,KY];rw[show((⟨w.heap.size,0,none⟩:IZ).add j)=⟨w.heap.size,j,none⟩from by simp only[IQ];split<;>simp_all,cell_of_row _ _ j xv.cells E (0,0) (heap_alloc_new w _)];rw[<-a2]at hc;simpa using hc
theorem kA{α:Type}{enc:α->List ix}{sz:Nat}:∀(us:List α),(∀u∈us,(enc u).length=sz)->(us.flatMap enc).length=us.length*sz
 |[],_=>by simp
 |x::r,h=>by
  simp only[JM,K8,IR,h x (by simp),kA r (fun u hu=>h u (by simp[hu])),Nat.succ_mul];omega
theorem AH{α:Type}{enc:α->List ix}{sz:Nat}{us:List α}{v:ix}(hs:Sl enc sz w v us)(hz:∀u∈us,(enc u).length=sz)(hp:0<sz){a:IZ}{n c:Nat}(hv:v=.slice (some a) n c):∀j u,(us.flatMap enc)[j]? = some u->w.cell? (a.add j)=some u:=by
 intro j u hu;have a0:=kA us hz;have hj:j<us.length*sz:=by rw[<-a0];exact(IH.1 hu).1
 have hq:j / sz<us.length:=Nat.div_lt_of_lt_mul (by rw[Nat.mul_comm];exact hj);have hr:j % sz<sz:=Nat.mod_lt _ hp;have a1:j / sz*sz+j % sz=j:=Nat.div_add_mod' j sz;have hl:=hz _ (Jv hq);have h1:=eu us hz (j / sz) hq (j % sz) _ (IM zo);rw[a1,hu]at h1;have h2:=hs.cells (j / sz) hq (j % sz) u (by rw[IM zo,<-h1]);obtain⟨a',c',e1,_,_,e2⟩:=hs.shape;obtain⟨b,o,e3⟩:=e2 (Nat.ne_of_gt (Nat.lt_of_le_of_lt (J7 _) hq));rw[hv]at e1 h2
 cases e1;cases e3
 simp only[adr]at h2;rw[show((⟨b,o,none⟩:IZ).add j)=((⟨b,o+j / sz*sz,none⟩:IZ).add (j % sz))from by simp only[IQ];split<;>split<;>simp_all<;>omega];exact h2
theorem aC{T E:ln}{sz a0:Nat}(he:Elem P T E sz a0){α:Type}{enc:α->List ix}{B:Nat}{O:Nat->Nat}{i:Nat}{v sv:ix}{l us:List α}(hr:RowT enc E sz O w i v l)(r:Rng B O w)(hs:Sl enc sz w sv us)(a7:us.length≠0)
  (hx:ev st x=some v) (hy:ev st y=some sv) (a2:∀u∈us,(enc u).length=sz) (a6:∀u∈us,∀c∈enc u,c.oneCell'=true)
  (hb:(l.length+us.length)*a0<=140737488355328) (a':l.length+us.length<=9223372036854775807) (a8:i≠0) (hd:I0 d N=true)
  (h:∀v' w' O',RowT enc E sz O' w' i v' (l++us)->Upd (fun k=>k=i) O w O' w'->Rng B O' w'->WL P N ops Q rest ((d,v')::st) w') :
  WL P N ops Q (⟨some d,.call ⟨.builtin .append,#[x,y],#[T,T]⟩,t,p,e,none⟩::rest) st w:=by
 obtain⟨a,c,rfl,_,_,a9⟩:=hs.shape;obtain⟨b,o,rfl⟩:=a9 a7;have a5:=kA us a2
 obtain⟨v',w',O',a3,a4,a1⟩:=dH (P:=P) (ty:=t) he r hr.1 ⟨b,o,none⟩ us.length c (us.flatMap enc) a5 (AH hs a2 he.pos rfl) (fun u hu=>by
  obtain⟨q,hq,hc⟩:=List.mem_flatMap.1 hu
  exact a6 q hq u hc) hb a' a8
 refine WL.val (v:=v') (w':=w') hd (fun a ha=>?_) (h v' w' O' ⟨by simpa using a4,fun q hq=>?_⟩ a1 (r.upd a1))
 ·simp only[execOp,resolve,invoke,builtin,I5,IN,I1,I8,IK,J0,ha.ev hx,ha.ev hy,a3]
 rcases Kr.1 hq with hq|hq
 ·exact hr.2 q hq
 exact a2 q hq
end
end Go.VL
end
section
namespace Go.VL
class FA(P:I6)(S:ln)(f:Nat)(o:outParam Nat):Prop where
 fa:∃fs fd m,P.underlying S=some (.struct fs)∧fs[f]? = some fd∧fd.offset=o∧(∀w,(IY fd.type).run P w=.ok m w)∧m≠0
class AG(P:I6)(T:ln)(b:outParam Bool):Prop where
 ag:∀w,(LD T).run P w=.ok b w
structure Hold(B:Prop):Prop where
 out:B
class SC(P:I6)(T:ln)(sz:outParam Nat):Prop where
 sc:∃E,P.underlying T=some (.slice E)∧∀w,(IY E).run P w=.ok sz w
section
variable{P:I6}{N:Nat}{ops:Array IG}{S:ka→Prop}{Q:IW→Jb→ka→Prop}{K:Jb→Prop}{rest:List IG}{st:St}{w:ka}{fuel:Nat}{listed:Array Bool}
variable{t:ln}{p:String}{e:Array Jp}{d:Nat}{x:I2}{v:ix}{op:Op}
theorem RV.fa{T:ln}{f o:Nat}{q:IZ}[h:FA P T f o](hx:ev st x=some (.pointer (some q))):RV P N (.fieldAddr T x f) t st w (.pointer (some (q.add o))):=by
 obtain⟨fs,fd,m,h1,h2,h3,h4,h5⟩:=h.fa
 exact RV.fieldAddr o h1 h2 h3 (h4 w) h5 hx
theorem RV.ld{T:ln}{q:IZ}{u:ix}[h:AG P T false](hc:w.cell? q=some u)(hx:ev st x=some (.pointer (some q))):RV P N (.load T x) t st w u:=RV.load hc (h.ag w) hx
theorem Gd{T:ln}{sz:Nat}[h:SC P T sz]{α:Type}{enc:α→List ix}{v:ix}{xs:List α}(hx:ev st x=some v)(hs:Sl enc sz w v xs):RV P N (.call ⟨.builtin .len,#[x],#[T]⟩) t st w (.int .i64 (xs.length:Int)):=by
 obtain⟨E,h1,_⟩:=h.sc
 exact RV.len hs h1 hx
theorem Ge{y:I2}{T:ln}{sz:Nat}[h:SC P T sz]{α:Type}{enc:α→List ix}{v:ix}{xs:List α}{k:I9}{i:Int}{n:Nat}(hx:ev st x=some v)(hy:ev st y=some (.int k i))(hs:Sl enc sz w v xs)(hi:i=n)(hn:n<xs.length):RV P N (.indexAddr T x y) t st w (.pointer (some (adr v sz n))):=by
 obtain⟨E,h1,h2⟩:=h.sc
 exact RV.indexAddr hs h1 (h2 w) hx hy n hi hn
theorem Io{T:ln}{q:IZ}{u:ix}[h:AG P T false](hx:ev st x=some (.pointer (some q)))(hc:w.cell? q=some u)(hd:I0 d N=true)(h:WL P N ops Q rest ((d,u)::st) w):WL P N ops Q (⟨some d,.load T x,t,p,e,none⟩::rest) st w:=bG (RV.ld hc hx) hd h
theorem Ir{T:ln}{q:IZ}{u:ix}[h:AG P T false](hx:ev st x=some (.pointer (some q)))(hc:w.cell? q=some u)(hd:I0 d N=true)(h:WS P N ops w K rest ((d,u)::st)):WS P N ops w K (⟨some d,.load T x,t,p,e,none⟩::rest) st:=oE (RV.ld hc hx) hd h
theorem Im{T:ln}{sz:Nat}[h:SC P T sz]{α:Type}{enc:α→List ix}{v:ix}{xs:List α}(hx:ev st x=some v)(hs:Sl enc sz w v xs)(hd:I0 d N=true)(h:WL P N ops Q rest ((d,.int .i64 (xs.length:Int))::st) w):WL P N ops Q (⟨some d,.call ⟨.builtin .len,#[x],#[T]⟩,t,p,e,none⟩::rest) st w:=bG (Gd hx hs) hd h
theorem Ip{y:I2}{T:ln}{sz:Nat}[h:SC P T sz]{α:Type}{enc:α→List ix}{v:ix}{xs:List α}{k:I9}{i:Int}{n:Nat}(hx:ev st x=some v)(hy:ev st y=some (.int k i))(hs:Sl enc sz w v xs)(hi:i=n)(hn:n<xs.length)(hd:I0 d N=true)(h:WL P N ops Q rest ((d,.pointer (some (adr v sz n)))::st) w):WL P N ops Q (⟨some d,.indexAddr T x y,t,p,e,none⟩::rest) st w:=bG (Ge hx hy hs hi hn) hd h
theorem Gw{xt yt:ln}{y:I2}{m n:Int}(hx:ev st x=some (.int .i64 m))(hy:ev st y=some (.int .i64 n))(hr : -9223372036854775808≤m+n∧m+n≤9223372036854775807)(hd:I0 d N=true)(h:WL P N ops Q rest ((d,.int .i64 (m+n))::st) w):WL P N ops Q (⟨some d,.binOp .add xt x y yt,t,p,e,none⟩::rest) st w:=bG (RV.add hx hy (Fit.i64 hr)) hd h
theorem Gv{xt yt:ln}{y:I2}{m n:Int}(hx:ev st x=some (.int .i64 m))(hy:ev st y=some (.int .i64 n))(hr : -9223372036854775808≤m-n∧m-n≤9223372036854775807)(hd:I0 d N=true)(h:WL P N ops Q rest ((d,.int .i64 (m-n))::st) w):WL P N ops Q (⟨some d,.binOp .sub xt x y yt,t,p,e,none⟩::rest) st w:=bG (RV.sub hx hy (Fit.i64 hr)) hd h
theorem Gb{y z:I2}{b:Bool}{v:ix}(hc:ev st x=some (.bool b))(hb:b=true)(hy:ev st y=some v):RV P N (.pick x y z) t st w v:=bp (hb▸hc) hy
theorem Gc{y z:I2}{b:Bool}{v:ix}(hc:ev st x=some (.bool b))(hb:b=false)(hz:ev st z=some v):RV P N (.pick x y z) t st w v:=bq (hb▸hc) hz
theorem C9{d:Option Mm}{j:Nat}{b b':Bool}(hs:said ops st j=some b')(hb:b'=b)(h:WL P N ops Q (⟨d,op,t,p,e,none⟩::rest) st w):WL P N ops Q (⟨d,op,t,p,e,some (j,b)⟩::rest) st w:=cz (hb▸hs) h
theorem Be{j:Nat}{b':Bool}(hs:said ops st j=some b')(hb:b'=false)(hd:I0 d N=true)(h:WL P N ops Q rest ((d,undef)::st) w):WL P N ops Q (⟨some d,op,t,p,e,some (j,true)⟩::rest) st w:=WL.off hs (by rw[hb];rfl) hd h
theorem Bf{j:Nat}{b':Bool}(hs:said ops st j=some b')(hb:b'=true)(hd:I0 d N=true)(h:WL P N ops Q rest ((d,undef)::st) w):WL P N ops Q (⟨some d,op,t,p,e,some (j,false)⟩::rest) st w:=WL.off hs (by rw[hb];rfl) hd h
theorem C5{d:Option Mm}{j:Nat}{b b':Bool}(hs:said ops st j=some b')(hb:b'=b)(h:WS P N ops w K (⟨d,op,t,p,e,none⟩::rest) st):WS P N ops w K (⟨d,op,t,p,e,some (j,b)⟩::rest) st:=G1 (hb▸hs) h
theorem Bb{j:Nat}{b':Bool}(hs:said ops st j=some b')(hb:b'=false)(hd:I0 d N=true)(h:WS P N ops w K rest ((d,undef)::st)):WS P N ops w K (⟨some d,op,t,p,e,some (j,true)⟩::rest) st:=WS.off hs (by rw[hb];rfl) hd h
theorem Bc{j:Nat}{b':Bool}(hs:said ops st j=some b')(hb:b'=true)(hd:I0 d N=true)(h:WS P N ops w K rest ((d,undef)::st)):WS P N ops w K (⟨some d,op,t,p,e,some (j,false)⟩::rest) st:=WS.off hs (by rw[hb];rfl) hd h
theorem C7{o:IG}{n:Nat}{l:List IG}(h:WL P N ops Q (o::l.take n) st w):WL P N ops Q (KP (n+1) (o::l)) st w:=h
theorem C8{l:List IG}(h:WL P N ops Q [] st w):WL P N ops Q (KP 0 l) st w:=h
theorem CJ{v:ix}(hx:ev st x=some v)(hd:I0 d N=true)(h:WL P N ops Q rest ((d,v)::st) w):WL P N ops Q (⟨some d,.move x,t,p,e,none⟩::rest) st w:=bG (RV.move hx) hd h
theorem vh{v:ix}(hx:ev st x=some v)(hd:I0 d N=true)(h:WL P N ops Q rest ((d,v)::st) w):WL P N ops Q (⟨some d,.assign x,t,p,e,none⟩::rest) st w:=bG (RV.assign hx) hd h
theorem G7{T:ln}{f o:Nat}{q:IZ}[FA P T f o](hx:ev st x=some (.pointer (some q)))(hd:I0 d N=true)(h:WL P N ops Q rest ((d,.pointer (some (q.add o)))::st) w):WL P N ops Q (⟨some d,.fieldAddr T x f,t,p,e,none⟩::rest) st w:=bG (RV.fa hx) hd h
theorem vg{q:IZ}(hx:ev st x=some (.pointer (some q)))(hd:I0 d N=true)(h:WL P N ops Q rest ((d,.pointer (some q))::st) w):WL P N ops Q (⟨some d,.nilCheck x,t,p,e,none⟩::rest) st w:=bG (ao hx) hd h
theorem ri{vs:Array ix}{i:Nat}{v:ix}(hx:ev st x=some (.tuple vs))(hv:vs[i]? = some v)(hd:I0 d N=true)(h:WL P N ops Q rest ((d,v)::st) w):WL P N ops Q (⟨some d,.extract x i,t,p,e,none⟩::rest) st w:=bG (RV.extract hx hv) hd h
theorem Fu{xt:ln}{b:Bool}(hx:ev st x=some (.bool b))(hd:I0 d N=true)(h:WL P N ops Q rest ((d,.bool (!b))::st) w):WL P N ops Q (⟨some d,.unOp .not xt x,t,p,e,none⟩::rest) st w:=bG (RV.not hx) hd h
theorem Fs{y z:I2}{b:Bool}{v:ix}(hc:ev st x=some (.bool b))(hb:b=true)(hy:ev st y=some v)(hd:I0 d N=true)(h:WL P N ops Q rest ((d,v)::st) w):WL P N ops Q (⟨some d,.pick x y z,t,p,e,none⟩::rest) st w:=bG (Gb hc hb hy) hd h
theorem Ft{y z:I2}{b:Bool}{v:ix}(hc:ev st x=some (.bool b))(hb:b=false)(hz:ev st z=some v)(hd:I0 d N=true)(h:WL P N ops Q rest ((d,v)::st) w):WL P N ops Q (⟨some d,.pick x y z,t,p,e,none⟩::rest) st w:=bG (Gc hc hb hz) hd h
theorem Fw{xt yt:ln}{y:I2}{k:I9}{m n:Int}(hx:ev st x=some (.int k m))(hy:ev st y=some (.int k n))(hd:I0 d N=true)(h:WL P N ops Q rest ((d,.bool (decide (m<n)))::st) w):WL P N ops Q (⟨some d,.binOp .lss xt x y yt,t,p,e,none⟩::rest) st w:=bG (RV.lss hx hy) hd h
theorem Fx{xt yt:ln}{y:I2}{k:I9}{m n:Int}(hx:ev st x=some (.int k m))(hy:ev st y=some (.int k n))(hd:I0 d N=true)(h:WL P N ops Q rest ((d,.bool (decide (m≤n)))::st) w):WL P N ops Q (⟨some d,.binOp .leq xt x y yt,t,p,e,none⟩::rest) st w:=bG (RV.leq hx hy) hd h
theorem Fy{xt yt:ln}{y:I2}{k:I9}{m n:Int}(hx:ev st x=some (.int k m))(hy:ev st y=some (.int k n))(hd:I0 d N=true)(h:WL P N ops Q rest ((d,.bool (decide (n<m)))::st) w):WL P N ops Q (⟨some d,.binOp .gtr xt x y yt,t,p,e,none⟩::rest) st w:=bG (RV.gtr hx hy) hd h
theorem Fz{xt yt:ln}{y:I2}{k:I9}{m n:Int}(hx:ev st x=some (.int k m))(hy:ev st y=some (.int k n))(hd:I0 d N=true)(h:WL P N ops Q rest ((d,.bool (decide (n≤m)))::st) w):WL P N ops Q (⟨some d,.binOp .geq xt x y yt,t,p,e,none⟩::rest) st w:=bG (RV.geq hx hy) hd h
theorem FB{xt yt:ln}{y:I2}{k:I9}{m n:Int}(hx:ev st x=some (.int k m))(hy:ev st y=some (.int k n))(hd:I0 d N=true)(h:WL P N ops Q rest ((d,.bool (m==n))::st) w):WL P N ops Q (⟨some d,.binOp .eql xt x y yt,t,p,e,none⟩::rest) st w:=bG (RV.eql hx hy) hd h
theorem Fv{xt yt:ln}{y:I2}{k:I9}{m n:Int}(hx:ev st x=some (.int k m))(hy:ev st y=some (.int k n))(hd:I0 d N=true)(h:WL P N ops Q rest ((d,.bool (m != n))::st) w):WL P N ops Q (⟨some d,.binOp .neq xt x y yt,t,p,e,none⟩::rest) st w:=bG (RV.neq hx hy) hd h
theorem CK{v:ix}(hx:ev st x=some v)(hd:I0 d N=true)(h:WS P N ops w K rest ((d,v)::st)):WS P N ops w K (⟨some d,.move x,t,p,e,none⟩::rest) st:=oE (RV.move hx) hd h
theorem vj{v:ix}(hx:ev st x=some v)(hd:I0 d N=true)(h:WS P N ops w K rest ((d,v)::st)):WS P N ops w K (⟨some d,.assign x,t,p,e,none⟩::rest) st:=oE (RV.assign hx) hd h
theorem G8{T:ln}{f o:Nat}{q:IZ}[FA P T f o](hx:ev st x=some (.pointer (some q)))(hd:I0 d N=true)(h:WS P N ops w K rest ((d,.pointer (some (q.add o)))::st)):WS P N ops w K (⟨some d,.fieldAddr T x f,t,p,e,none⟩::rest) st:=oE (RV.fa hx) hd h
theorem vi{q:IZ}(hx:ev st x=some (.pointer (some q)))(hd:I0 d N=true)(h:WS P N ops w K rest ((d,.pointer (some q))::st)):WS P N ops w K (⟨some d,.nilCheck x,t,p,e,none⟩::rest) st:=oE (ao hx) hd h
theorem rj{vs:Array ix}{i:Nat}{v:ix}(hx:ev st x=some (.tuple vs))(hv:vs[i]? = some v)(hd:I0 d N=true)(h:WS P N ops w K rest ((d,v)::st)):WS P N ops w K (⟨some d,.extract x i,t,p,e,none⟩::rest) st:=oE (RV.extract hx hv) hd h
theorem C3{o:IG}{n:Nat}{l:List IG}(h:WS P N ops w K (o::l.take n) st):WS P N ops w K (KP (n+1) (o::l)) st:=h
theorem C4{l:List IG}(h:WS P N ops w K [] st):WS P N ops w K (KP 0 l) st:=h
theorem FE{xt yt:ln}{y:I2}{k:I9}{m n:Int}(hx:ev st x=some (.int k m))(hy:ev st y=some (.int k n))(hd:I0 d N=true)(h:WS P N ops w K rest ((d,.bool (decide (m<n)))::st)):WS P N ops w K (⟨some d,.binOp .lss xt x y yt,t,p,e,none⟩::rest) st:=oE (RV.lss hx hy) hd h
theorem FF{xt yt:ln}{y:I2}{k:I9}{m n:Int}(hx:ev st x=some (.int k m))(hy:ev st y=some (.int k n))(hd:I0 d N=true)(h:WS P N ops w K rest ((d,.bool (decide (m≤n)))::st)):WS P N ops w K (⟨some d,.binOp .leq xt x y yt,t,p,e,none⟩::rest) st:=oE (RV.leq hx hy) hd h
theorem FG{xt yt:ln}{y:I2}{k:I9}{m n:Int}(hx:ev st x=some (.int k m))(hy:ev st y=some (.int k n))(hd:I0 d N=true)(h:WS P N ops w K rest ((d,.bool (decide (n<m)))::st)):WS P N ops w K (⟨some d,.binOp .gtr xt x y yt,t,p,e,none⟩::rest) st:=oE (RV.gtr hx hy) hd h
theorem FH{xt yt:ln}{y:I2}{k:I9}{m n:Int}(hx:ev st x=some (.int k m))(hy:ev st y=some (.int k n))(hd:I0 d N=true)(h:WS P N ops w K rest ((d,.bool (decide (n≤m)))::st)):WS P N ops w K (⟨some d,.binOp .geq xt x y yt,t,p,e,none⟩::rest) st:=oE (RV.geq hx hy) hd h
theorem FJ{xt yt:ln}{y:I2}{k:I9}{m n:Int}(hx:ev st x=some (.int k m))(hy:ev st y=some (.int k n))(hd:I0 d N=true)(h:WS P N ops w K rest ((d,.bool (m==n))::st)):WS P N ops w K (⟨some d,.binOp .eql xt x y yt,t,p,e,none⟩::rest) st:=oE (RV.eql hx hy) hd h
theorem FD{xt yt:ln}{y:I2}{k:I9}{m n:Int}(hx:ev st x=some (.int k m))(hy:ev st y=some (.int k n))(hd:I0 d N=true)(h:WS P N ops w K rest ((d,.bool (m != n))::st)):WS P N ops w K (⟨some d,.binOp .neq xt x y yt,t,p,e,none⟩::rest) st:=oE (RV.neq hx hy) hd h
theorem Gz{xt yt:ln}{y:I2}{m n:Int}(hx:ev st x=some (.int .i64 m))(hy:ev st y=some (.int .i64 n))(hr : -9223372036854775808≤m+n∧m+n≤9223372036854775807)(hd:I0 d N=true)(h:WS P N ops w K rest ((d,.int .i64 (m+n))::st)):WS P N ops w K (⟨some d,.binOp .add xt x y yt,t,p,e,none⟩::rest) st:=oE (RV.add hx hy (Fit.i64 hr)) hd h
theorem Gx{xt yt:ln}{y:I2}{m n:Int}(hx:ev st x=some (.int .i64 m))(hy:ev st y=some (.int .i64 n))(hr : -9223372036854775808≤m-n∧m-n≤9223372036854775807)(hd:I0 d N=true)(h:WS P N ops w K rest ((d,.int .i64 (m-n))::st)):WS P N ops w K (⟨some d,.binOp .sub xt x y yt,t,p,e,none⟩::rest) st:=oE (RV.sub hx hy (Fit.i64 hr)) hd h
theorem FC{xt:ln}{b:Bool}(hx:ev st x=some (.bool b))(hd:I0 d N=true)(h:WS P N ops w K rest ((d,.bool (!b))::st)):WS P N ops w K (⟨some d,.unOp .not xt x,t,p,e,none⟩::rest) st:=oE (RV.not hx) hd h
theorem Gy{w0:ka}{T:ln}{q:IZ}{u:ix}[h:AG P T false](hx:ev st x=some (.pointer (some q)))(hc:w0.cell? q=some u)(hd:I0 d N=true)(h:WS P N ops w0.drew K rest ((d,u)::st)):WS P N ops w0.drew K (⟨some d,.load T x,t,p,e,none⟩::rest) st:=oE (RV.ld (w:=w0.drew) hc hx) hd h
theorem Iq{w0:ka}{T:ln}{sz:Nat}[h:SC P T sz]{α:Type}{enc:α→List ix}{v:ix}{xs:List α}(hx:ev st x=some v)(hs:Sl enc sz w0 v xs)(hd:I0 d N=true)(h:WS P N ops w0.drew K rest ((d,.int .i64 (xs.length:Int))::st)):WS P N ops w0.drew K (⟨some d,.call ⟨.builtin .len,#[x],#[T]⟩,t,p,e,none⟩::rest) st:=oE (Gd hx (hs.ext (Ext.refl w0).drew)) hd h
theorem Is{w0:ka}{y:I2}{T:ln}{sz:Nat}[h:SC P T sz]{α:Type}{enc:α→List ix}{v:ix}{xs:List α}{k:I9}{i:Int}{n:Nat}(hx:ev st x=some v)(hy:ev st y=some (.int k i))(hs:Sl enc sz w0 v xs)(hi:i=n)(hn:n<xs.length)(hd:I0 d N=true)(h:WS P N ops w0.drew K rest ((d,.pointer (some (adr v sz n)))::st)):WS P N ops w0.drew K (⟨some d,.indexAddr T x y,t,p,e,none⟩::rest) st:=oE (Ge hx hy (hs.ext (Ext.refl w0).drew) hi hn) hd h
theorem zv(hv:RV P N op t st w v)(h:WL P N ops Q rest ((d,v)::st) w)(hd:I0 d N=true:=by exact rfl):WL P N ops Q (⟨some d,op,t,p,e,none⟩::rest) st w:=bG hv hd h
theorem zw(hv:RV P N op t st w v)(h:WS P N ops w K rest ((d,v)::st))(hd:I0 d N=true:=by exact rfl):WS P N ops w K (⟨some d,op,t,p,e,none⟩::rest) st:=oE hv hd h
theorem zc{f:JL}{args:List I2}{ats:Array ln}{vs:List ix}{R:ix→ka→Prop}
 (hf:∀(args:Array ix) (w:ka),(callFunc f args).run P w=.ok (.enter f args) w) (hc:Ret P f vs w R)
 (h:∀v w',R v w'→WL P N ops Q rest ((d,v)::st) w') (hargs:evs st args=some vs:=by exact rfl) (hd:I0 d N=true:=by exact rfl):WL P N ops Q (⟨some d,.call ⟨.value (.func f),args.toArray,ats⟩,t,p,e,none⟩::rest) st w:=WL.call hf hargs hc hd h
theorem zt(i:Nat)(hi:ops[i]? = some ⟨some d,op,t,p,e,none⟩)(hS:S w)(hv:∀w',S w'→RV P N op t st w' v)(h:WH P N ops S Q fuel (listed.setIfInBounds i true) ((d,v)::st) w)
  (hs:II ops=true:=by kernel_rfl) (hf:IT .any ops listed i=true:=by kernel_rfl) (hr:(IF .any ops listed).contains i=true:=by kernel_rfl) (hd:I0 d N=true:=by exact rfl):WH P N ops S Q (fuel+1) listed st w:=
 WH.take i hi hs hf hr hS hv hd h
theorem zr(i:Nat)(hi:ops[i]? = some ⟨some d,op,t,p,e,none⟩)(hS:S w)(hv:∀w',RV P N op t st w' v)(h:WH P N ops S Q fuel (listed.setIfInBounds i true) ((d,v)::st) w)
  (hs:II ops=true:=by kernel_rfl) (hf:IT .any ops listed i=true:=by kernel_rfl) (hr:(IF .any ops listed).contains i=true:=by kernel_rfl) (hd:I0 d N=true:=by exact rfl):WH P N ops S Q (fuel+1) listed st w:=
 WH.take i hi hs hf hr hS (fun w' _=>hv w') hd h
theorem zC{c:I2}{x y:JC}{b:Bool}(ht:b=true→WC P N x Q st w)(hf:b=false→WC P N y Q st w)(hc:ev st c=some (.bool b):=by exact rfl):WC P N (.cond c x y) Q st w:=WC.cond hc ht hf
theorem zsa{y:I2}{T:ln}{O:Nat→Nat}{i b:Nat}{cs us:Array ix}{E:ln}{q:IZ}(hb:BlkO O w i b cs E)(hT:(IY T).run P w=.ok us.size w)(h:WL P N ops Q rest st (w.setRow b us))(hs:us.size=cs.size:=by exact rfl)(h1:us.toList.all J3=true:=by exact rfl)(hx:ev st x=some (.pointer (some q)):=by exact rfl)(hq:q=⟨b,0,none⟩:=by exact rfl)(hy:ev st y=some (.agg us):=by exact rfl):WL P N ops Q (⟨none,.store T x y,t,p,e,none⟩::rest) st w:=aZ hb hs hT h1 hx hq hy h
theorem zsb{y:I2}{T:ln}{O:Nat→Nat}{i b:Nat}{cs us:Array ix}{E:ln}{q:IZ}(hb:BlkO O w i b cs E)(hT:(IY T).run P w=.ok us.size w)(h1:us.toList.all J3=true)(h:WL P N ops Q rest st (w.setRow b us))(hs:us.size=cs.size:=by exact rfl)(hx:ev st x=some (.pointer (some q)):=by exact rfl)(hq:q=⟨b,0,none⟩:=by exact rfl)(hy:ev st y=some (.agg us):=by exact rfl):WL P N ops Q (⟨none,.store T x y,t,p,e,none⟩::rest) st w:=aZ hb hs hT h1 hx hq hy h
theorem fI{P:I6}{T:ln}{f o m:Nat}{fs:Array KA}{fd:KA}(h1:P.underlying T=some (.struct fs))(h2:fs[f]? = some fd)(h3:fd.offset=o)(h4:∀w,(IY fd.type).run P w=.ok m w)(h5:m≠0:=by decide):FA P T f o:=⟨fs,fd,m,h1,h2,h3,h4,h5⟩
theorem zaf{i:Nat}(hS:S w)(h:S w→WH P N ops S Q fuel (listed.setIfInBounds i true) st w):QF N (qX P ops S Q fuel (listed.setIfInBounds i true)) .normal st w:=ae hS (h hS)
theorem zrm{x:I2}(i:Nat)(hi:ops[i]? = some ⟨some d,.move x,t,p,e,none⟩)(hS:S w)(hx:ev st x=some v)(h:WH P N ops S Q fuel (listed.setIfInBounds i true) ((d,v)::st) w)
  (hs:II ops=true:=by kernel_rfl) (hf:IT .any ops listed i=true:=by kernel_rfl) (hr:(IF .any ops listed).contains i=true:=by kernel_rfl) (hd:I0 d N=true:=by exact rfl):WH P N ops S Q (fuel+1) listed st w:=
 WH.take i hi hs hf hr hS (fun _ _=>RV.move hx) hd h
theorem zra{x:I2}(i:Nat)(hi:ops[i]? = some ⟨some d,.assign x,t,p,e,none⟩)(hS:S w)(hx:ev st x=some v)(h:WH P N ops S Q fuel (listed.setIfInBounds i true) ((d,v)::st) w)
  (hs:II ops=true:=by kernel_rfl) (hf:IT .any ops listed i=true:=by kernel_rfl) (hr:(IF .any ops listed).contains i=true:=by kernel_rfl) (hd:I0 d N=true:=by exact rfl):WH P N ops S Q (fuel+1) listed st w:=
 WH.take i hi hs hf hr hS (fun _ _=>RV.assign hx) hd h
theorem zrf{T:ln}{f o:Nat}{q:IZ}[h':FA P T f o]{x:I2}(i:Nat)(hi:ops[i]? = some ⟨some d,.fieldAddr T x f,t,p,e,none⟩)(hS:S w)(hx:ev st x=some (.pointer (some q)))(h:WH P N ops S Q fuel (listed.setIfInBounds i true) ((d,.pointer (some (q.add o)))::st) w)
  (hs:II ops=true:=by kernel_rfl) (hf:IT .any ops listed i=true:=by kernel_rfl) (hr:(IF .any ops listed).contains i=true:=by kernel_rfl) (hd:I0 d N=true:=by exact rfl):WH P N ops S Q (fuel+1) listed st w:=
 WH.take i hi hs hf hr hS (fun _ _=>RV.fa hx) hd h
theorem zto{j:Nat}{b:Bool}(i:Nat)(hi:ops[i]? = some ⟨some d,op,t,p,e,some (j,b)⟩)(hS:S w)(hv:∀w',S w'→RV P N op t st w' v)(h:WH P N ops S Q fuel (listed.setIfInBounds i true) ((d,v)::st) w)(hg:said ops st j=some b:=by exact rfl)
  (hs:II ops=true:=by kernel_rfl) (hf:IT .any ops listed i=true:=by kernel_rfl) (hr:(IF .any ops listed).contains i=true:=by kernel_rfl) (hd:I0 d N=true:=by exact rfl):WH P N ops S Q (fuel+1) listed st w:=
 tq i hi hg hs hf hr hS hv hd h
theorem zro{j:Nat}{b:Bool}(i:Nat)(hi:ops[i]? = some ⟨some d,op,t,p,e,some (j,b)⟩)(hS:S w)(hv:∀w',RV P N op t st w' v)(h:WH P N ops S Q fuel (listed.setIfInBounds i true) ((d,v)::st) w)(hg:said ops st j=some b:=by exact rfl)
  (hs:II ops=true:=by kernel_rfl) (hf:IT .any ops listed i=true:=by kernel_rfl) (hr:(IF .any ops listed).contains i=true:=by kernel_rfl) (hd:I0 d N=true:=by exact rfl):WH P N ops S Q (fuel+1) listed st w:=
 tq i hi hg hs hf hr hS (fun w' _=>hv w') hd h
theorem zte{j:Nat}{b b':Bool}(i:Nat)(hi:ops[i]? = some ⟨some d,op,t,p,e,some (j,b)⟩)(hg:said ops st j=some b')(hS:S w)(h:WH P N ops S Q fuel (listed.setIfInBounds i true) ((d,undef)::st) w)(hne:(b'==b)=false:=by exact rfl)
  (hs:II ops=true:=by kernel_rfl) (hf:IT .any ops listed i=true:=by kernel_rfl) (hr:(IF .any ops listed).contains i=true:=by kernel_rfl) (hd:I0 d N=true:=by exact rfl):WH P N ops S Q (fuel+1) listed st w:=
 yo i hi hg hne hs hf hr hS hd h
theorem ztu{j:Nat}{b:Bool}(i:Nat)(hi:ops[i]? = some ⟨some d,op,t,p,e,some (j,b)⟩)(hS:S w)(h:WH P N ops S Q fuel (listed.setIfInBounds i true) ((d,undef)::st) w)(hg:jo ops st j=true:=by exact rfl)
  (hs:II ops=true:=by kernel_rfl) (hf:IT .any ops listed i=true:=by kernel_rfl) (hr:(IF .any ops listed).contains i=true:=by kernel_rfl) (hd:I0 d N=true:=by exact rfl):WH P N ops S Q (fuel+1) listed st w:=
 uT i hi hg hs hf hr hS hd h
theorem nE{tB:Nat}{b c X:Bool}{st0:St}(tA n:Nat)(hS:S w)(e:X=c)(hX:cf st0 tA=some (.bool X):=by exact rfl)(hdrop:st.drop n=st0:=by exact rfl)(hf:((st.take n).all fun q=>J2 q.1 tA||(match cf st0 q.1 with|none=>true|_=>false))=true:=by exact rfl)
 (hA:cf st tA=some (.bool c):=by exact rfl) (hb:cf st tB=some (.bool b):=by exact rfl):QF N (Fq N S tB b st0) .normal st w:=cI n hS hdrop hf hA (fun v hv=>by rw[hX]at hv;cases hv;rw[e]) hb
theorem zin(hS:S w)(h:S w→WH P N ops S Q fuel listed st w):WH P N ops S Q fuel listed st w:=h hS
theorem zlp{α:Type}{c:JC}(f:α→St)(g:α→ka)(I:α→Prop)(μ:α→Nat)(x0:α)(h0:I x0)
 (round:∀x,I x→WC P N c (Exit.then (fun a' w'=>∃y,I y∧μ y<μ x∧Fits N a' (f y)∧g y=w') Q) (f x) (g x)) (hc:Cov st (f x0):=by repeat' first|exact trivial|exact rfl|constructor) (hw:g x0=w:=by exact rfl):WC P N (.loop c) Q st w:=WC.loop f g I μ x0 h0 hc hw round
theorem zx{α:Type}{f:α→St}{g:α→ka}{I:α→Prop}{m:Nat}{μ:α→Nat}(y:α)(h1:I y)(h2:μ y<m)(h3:Cov st (f y):=by repeat' first|exact trivial|exact rfl|constructor)(h4:g y=w:=by exact rfl):
 QF N (Exit.then (fun a' w'=>∃y,I y∧μ y<m∧Fits N a' (f y)∧g y=w') Q) .normal st w:=QF.next y h1 h2 h3 h4
theorem zxd{α:Type}{f:α→St}{g:α→ka}{I:α→Prop}{m:Nat}{μ:α→Nat}(y:α)(h1:I y)(h2:μ y<m:=by first|omega|(dsimp only;omega))(h3:Cov st (f y):=by repeat' first|exact trivial|exact rfl|constructor)(h4:g y=w:=by exact rfl):
 QF N (Exit.then (fun a' w'=>∃y,I y∧μ y<m∧Fits N a' (f y)∧g y=w') Q) .normal st w:=QF.next y h1 h2 h3 h4
end
theorem zg{A B:Prop}(k:B)(a:Hold B→A:=by
 intro k
 repeat first
  |((with_reducible refine' CJ ?_ ?_ ?_);rotate_left 1;exact rfl;exact rfl)
  |((with_reducible refine' vh ?_ ?_ ?_);rotate_left 1;exact rfl;exact rfl)
  |((with_reducible refine' G7 ?_ ?_ ?_);rotate_left 1;exact rfl;exact rfl)
  |with_reducible refine WL.nil ?_
  |with_reducible refine C7 ?_
  |with_reducible refine C8 ?_
  |with_reducible refine ai ?_
  |with_reducible refine WC.seq ?_
  |with_reducible refine WC.region ?_
  |with_reducible refine WC.skip ?_
  |with_reducible refine WC.block ?_
  |with_reducible refine WC.exit ?_
  |with_reducible refine WC.ret ?_
  |with_reducible refine aQ ?_
  |with_reducible refine cu ?_
  |with_reducible refine bn ?_
  |with_reducible refine bS ?_
  |with_reducible refine gk ?_
  |((with_reducible refine ma ?_ ?_);exact rfl)
  |((with_reducible refine' vg ?_ ?_ ?_);rotate_left 1;exact rfl;exact rfl)
  |((with_reducible refine' ri ?_ ?_ ?_ ?_);rotate_left 2;exact rfl;exact rfl;exact rfl)
  |((with_reducible refine' Fw ?_ ?_ ?_ ?_);rotate_left 3;exact rfl;exact rfl;exact rfl)
  |((with_reducible refine' Fx ?_ ?_ ?_ ?_);rotate_left 3;exact rfl;exact rfl;exact rfl)
  |((with_reducible refine' Fy ?_ ?_ ?_ ?_);rotate_left 3;exact rfl;exact rfl;exact rfl)
  |((with_reducible refine' Fz ?_ ?_ ?_ ?_);rotate_left 3;exact rfl;exact rfl;exact rfl)
  |((with_reducible refine' FB ?_ ?_ ?_ ?_);rotate_left 3;exact rfl;exact rfl;exact rfl)
  |((with_reducible refine' Fv ?_ ?_ ?_ ?_);rotate_left 3;exact rfl;exact rfl;exact rfl)
  |((with_reducible refine' Fu ?_ ?_ ?_);rotate_left 1;exact rfl;exact rfl)
  |((with_reducible refine' Fs ?_ ?_ ?_ ?_ ?_);rotate_left 2;exact rfl;(with_reducible exact rfl);exact rfl;exact rfl)
  |((with_reducible refine' Ft ?_ ?_ ?_ ?_ ?_);rotate_left 2;exact rfl;(with_reducible exact rfl);exact rfl;exact rfl)
  |((with_reducible refine' Be ?_ ?_ ?_ ?_);rotate_left 1;exact rfl;(with_reducible exact rfl);exact rfl)
  |((with_reducible refine' Bf ?_ ?_ ?_ ?_);rotate_left 1;exact rfl;(with_reducible exact rfl);exact rfl)
  |((with_reducible refine cX ?_ ?_ ?_);exact rfl;exact rfl)
  |((with_reducible refine' C9 ?_ ?_ ?_);rotate_left 1;exact rfl;(with_reducible exact rfl))
  |((with_reducible refine' CK ?_ ?_ ?_);rotate_left 1;exact rfl;exact rfl)
  |((with_reducible refine' vj ?_ ?_ ?_);rotate_left 1;exact rfl;exact rfl)
  |((with_reducible refine' G8 ?_ ?_ ?_);rotate_left 1;exact rfl;exact rfl)
  |((with_reducible refine' vi ?_ ?_ ?_);rotate_left 1;exact rfl;exact rfl)
  |((with_reducible refine' rj ?_ ?_ ?_ ?_);rotate_left 2;exact rfl;exact rfl;exact rfl)
  |((with_reducible refine' Bb ?_ ?_ ?_ ?_);rotate_left 1;exact rfl;(with_reducible exact rfl);exact rfl)
  |((with_reducible refine' Bc ?_ ?_ ?_ ?_);rotate_left 1;exact rfl;(with_reducible exact rfl);exact rfl)
  |((with_reducible refine Ba ?_ ?_ ?_);exact rfl;exact rfl)
  |with_reducible refine C3 ?_
  |with_reducible refine C4 ?_
  |((with_reducible refine' FC ?_ ?_ ?_);rotate_left 1;exact rfl;exact rfl)
  |((with_reducible refine' FE ?_ ?_ ?_ ?_);rotate_left 3;exact rfl;exact rfl;exact rfl)
  |((with_reducible refine' FF ?_ ?_ ?_ ?_);rotate_left 3;exact rfl;exact rfl;exact rfl)
  |((with_reducible refine' FG ?_ ?_ ?_ ?_);rotate_left 3;exact rfl;exact rfl;exact rfl)
  |((with_reducible refine' FH ?_ ?_ ?_ ?_);rotate_left 3;exact rfl;exact rfl;exact rfl)
  |((with_reducible refine' FJ ?_ ?_ ?_ ?_);rotate_left 3;exact rfl;exact rfl;exact rfl)
  |((with_reducible refine' FD ?_ ?_ ?_ ?_);rotate_left 3;exact rfl;exact rfl;exact rfl)
  |((with_reducible refine' C5 ?_ ?_ ?_);rotate_left 1;exact rfl;(with_reducible exact rfl))
 exact k.out):A:=a ⟨k⟩
theorem zh{A B:Prop}(k:B)(a:Hold B→A:=by
 intro k
 repeat first
  |((with_reducible refine' CJ ?_ ?_ ?_);rotate_left 1;exact rfl;exact rfl)
  |((with_reducible refine' vh ?_ ?_ ?_);rotate_left 1;exact rfl;exact rfl)
  |((with_reducible refine' G7 ?_ ?_ ?_);rotate_left 1;exact rfl;exact rfl)
  |with_reducible refine WL.nil ?_
  |with_reducible refine C7 ?_
  |with_reducible refine C8 ?_
  |with_reducible refine ai ?_
  |with_reducible refine WC.seq ?_
  |with_reducible refine WC.region ?_
  |with_reducible refine WC.skip ?_
  |with_reducible refine WC.block ?_
  |with_reducible refine WC.exit ?_
  |with_reducible refine WC.ret ?_
  |with_reducible refine aQ ?_
  |with_reducible refine cu ?_
  |with_reducible refine bn ?_
  |with_reducible refine bS ?_
  |with_reducible refine gk ?_
  |((with_reducible refine ma ?_ ?_);exact rfl)
  |((with_reducible refine' vg ?_ ?_ ?_);rotate_left 1;exact rfl;exact rfl)
  |((with_reducible refine' ri ?_ ?_ ?_ ?_);rotate_left 2;exact rfl;exact rfl;exact rfl)
  |((with_reducible refine' Fw ?_ ?_ ?_ ?_);rotate_left 3;exact rfl;exact rfl;exact rfl)
  |((with_reducible refine' Fx ?_ ?_ ?_ ?_);rotate_left 3;exact rfl;exact rfl;exact rfl)
  |((with_reducible refine' Fy ?_ ?_ ?_ ?_);rotate_left 3;exact rfl;exact rfl;exact rfl)
  |((with_reducible refine' Fz ?_ ?_ ?_ ?_);rotate_left 3;exact rfl;exact rfl;exact rfl)
  |((with_reducible refine' FB ?_ ?_ ?_ ?_);rotate_left 3;exact rfl;exact rfl;exact rfl)
  |((with_reducible refine' Fv ?_ ?_ ?_ ?_);rotate_left 3;exact rfl;exact rfl;exact rfl)
  |((with_reducible refine' Fu ?_ ?_ ?_);rotate_left 1;exact rfl;exact rfl)
  |((with_reducible refine' Fs ?_ ?_ ?_ ?_ ?_);rotate_left 2;exact rfl;(with_reducible exact rfl);exact rfl;exact rfl)
  |((with_reducible refine' Ft ?_ ?_ ?_ ?_ ?_);rotate_left 2;exact rfl;(with_reducible exact rfl);exact rfl;exact rfl)
  |((with_reducible refine' Be ?_ ?_ ?_ ?_);rotate_left 1;exact rfl;(with_reducible exact rfl);exact rfl)
  |((with_reducible refine' Bf ?_ ?_ ?_ ?_);rotate_left 1;exact rfl;(with_reducible exact rfl);exact rfl)
  |((with_reducible refine cX ?_ ?_ ?_);exact rfl;exact rfl)
  |((with_reducible refine' C9 ?_ ?_ ?_);rotate_left 1;exact rfl;(with_reducible exact rfl))
  |((with_reducible refine' CK ?_ ?_ ?_);rotate_left 1;exact rfl;exact rfl)
  |((with_reducible refine' vj ?_ ?_ ?_);rotate_left 1;exact rfl;exact rfl)
  |((with_reducible refine' G8 ?_ ?_ ?_);rotate_left 1;exact rfl;exact rfl)
  |((with_reducible refine' vi ?_ ?_ ?_);rotate_left 1;exact rfl;exact rfl)
  |((with_reducible refine' rj ?_ ?_ ?_ ?_);rotate_left 2;exact rfl;exact rfl;exact rfl)
  |((with_reducible refine' Bb ?_ ?_ ?_ ?_);rotate_left 1;exact rfl;(with_reducible exact rfl);exact rfl)
  |((with_reducible refine' Bc ?_ ?_ ?_ ?_);rotate_left 1;exact rfl;(with_reducible exact rfl);exact rfl)
  |((with_reducible refine Ba ?_ ?_ ?_);exact rfl;exact rfl)
  |with_reducible refine C3 ?_
  |with_reducible refine C4 ?_
  |((with_reducible refine' FC ?_ ?_ ?_);rotate_left 1;exact rfl;exact rfl)
  |((with_reducible refine' FE ?_ ?_ ?_ ?_);rotate_left 3;exact rfl;exact rfl;exact rfl)
  |((with_reducible refine' FF ?_ ?_ ?_ ?_);rotate_left 3;exact rfl;exact rfl;exact rfl)
  |((with_reducible refine' FG ?_ ?_ ?_ ?_);rotate_left 3;exact rfl;exact rfl;exact rfl)
  |((with_reducible refine' FH ?_ ?_ ?_ ?_);rotate_left 3;exact rfl;exact rfl;exact rfl)
  |((with_reducible refine' FJ ?_ ?_ ?_ ?_);rotate_left 3;exact rfl;exact rfl;exact rfl)
  |((with_reducible refine' FD ?_ ?_ ?_ ?_);rotate_left 3;exact rfl;exact rfl;exact rfl)
  |((with_reducible refine' C5 ?_ ?_ ?_);rotate_left 1;exact rfl;(with_reducible exact rfl))
  |((with_reducible refine' Io ?_ ?_ ?_ ?_);rotate_left 2;exact rfl;(with_reducible assumption);exact rfl)
  |((with_reducible refine' Gw ?_ ?_ ?_ ?_ ?_);rotate_left 2;exact rfl;exact rfl;omega;exact rfl)
  |((with_reducible refine' Im ?_ ?_ ?_ ?_);rotate_left 4;exact rfl;(with_reducible assumption);exact rfl)
  |((with_reducible refine' Ip ?_ ?_ ?_ ?_ ?_ ?_ ?_);rotate_left 7;exact rfl;exact rfl;(with_reducible assumption);exact rfl;omega;exact rfl)
  |((with_reducible refine' Gv ?_ ?_ ?_ ?_ ?_);rotate_left 2;exact rfl;exact rfl;omega;exact rfl)
  |((with_reducible refine' Ir ?_ ?_ ?_ ?_);rotate_left 2;exact rfl;(with_reducible assumption);exact rfl)
  |((with_reducible refine' Gz ?_ ?_ ?_ ?_ ?_);rotate_left 2;exact rfl;exact rfl;omega;exact rfl)
  |((with_reducible refine' Gx ?_ ?_ ?_ ?_ ?_);rotate_left 2;exact rfl;exact rfl;omega;exact rfl)
  |((with_reducible refine' Gy ?_ ?_ ?_ ?_);rotate_left 2;exact rfl;(with_reducible assumption);exact rfl)
  |((with_reducible refine' Iq ?_ ?_ ?_ ?_);rotate_left 4;exact rfl;(with_reducible assumption);exact rfl)
  |((with_reducible refine' Is ?_ ?_ ?_ ?_ ?_ ?_ ?_);rotate_left 7;exact rfl;exact rfl;(with_reducible assumption);exact rfl;omega;exact rfl)
 exact k.out):A:=a ⟨k⟩
section
variable{P:I6}{N:Nat}{ops:Array IG}{Q:IW→Jb→ka→Prop}{K:Jb→Prop}{rest:List IG}{st:St}{w:ka}
variable{t:ln}{p:String}{e:Array Jp}{d:Nat}{v:ix}{op:Op}{B:Prop}
theorem zvG(hv:RV P N op t st w v)(k:B)(hd:I0 d N=true:=by exact rfl)(a:Hold B→WL P N ops Q rest ((d,v)::st) w:=by intro k;exact zg k.out):WL P N ops Q (⟨some d,op,t,p,e,none⟩::rest) st w:=bG hv hd (a ⟨k⟩)
theorem zwG(hv:RV P N op t st w v)(k:B)(hd:I0 d N=true:=by exact rfl)(a:Hold B→WS P N ops w K rest ((d,v)::st):=by intro k;exact zg k.out):WS P N ops w K (⟨some d,op,t,p,e,none⟩::rest) st:=oE hv hd (a ⟨k⟩)
theorem zTG{c:I2}{x y:JC}{b:Bool}(hc:ev st c=some (.bool b))(hb:b=true)(k:B)(a:Hold B→WC P N x Q st w:=by intro k;exact zg k.out):WC P N (.cond c x y) Q st w:=aO hc hb (a ⟨k⟩)
theorem zFG{c:I2}{x y:JC}{b:Bool}(hc:ev st c=some (.bool b))(hb:b=false)(k:B)(a:Hold B→WC P N y Q st w:=by intro k;exact zg k.out):WC P N (.cond c x y) Q st w:=aR hc hb (a ⟨k⟩)
theorem zvH(hv:RV P N op t st w v)(k:B)(hd:I0 d N=true:=by exact rfl)(a:Hold B→WL P N ops Q rest ((d,v)::st) w:=by intro k;exact zh k.out):WL P N ops Q (⟨some d,op,t,p,e,none⟩::rest) st w:=bG hv hd (a ⟨k⟩)
theorem zwH(hv:RV P N op t st w v)(k:B)(hd:I0 d N=true:=by exact rfl)(a:Hold B→WS P N ops w K rest ((d,v)::st):=by intro k;exact zh k.out):WS P N ops w K (⟨some d,op,t,p,e,none⟩::rest) st:=oE hv hd (a ⟨k⟩)
theorem zTH{c:I2}{x y:JC}{b:Bool}(hc:ev st c=some (.bool b))(hb:b=true)(k:B)(a:Hold B→WC P N x Q st w:=by intro k;exact zh k.out):WC P N (.cond c x y) Q st w:=aO hc hb (a ⟨k⟩)
theorem zFH{c:I2}{x y:JC}{b:Bool}(hc:ev st c=some (.bool b))(hb:b=false)(k:B)(a:Hold B→WC P N y Q st w:=by intro k;exact zh k.out):WC P N (.cond c x y) Q st w:=aR hc hb (a ⟨k⟩)
end
end Go.VL
end
section
namespace Go.VL
open Go.Proofs.Tryz
open Go.Proofs Go.Proofs.YtpfpmhhigheccaaGreatDoor
open Go.Proofs.Tryz
instance :FA I3 27 0 0:=fI JY rfl rfl IS
instance :FA I3 27 1 1:=fI JY rfl rfl Jc
instance :FA I3 27 2 2:=fI JY rfl rfl Jc
instance :FA I3 27 3 3:=fI JY rfl rfl Jc
instance :FA I3 27 4 4:=fI JY rfl rfl Jc
instance :FA I3 30 0 0:=fI Mq rfl rfl sizeOf27
instance :FA I3 30 1 5:=fI Mq rfl rfl Mg
instance :FA I3 32 0 0:=fI Jz rfl rfl LC
instance :FA I3 32 1 1:=fI Jz rfl rfl LC
instance :FA I3 32 2 2:=fI Jz rfl rfl LC
instance :FA I3 32 3 3:=fI Jz rfl rfl IS
instance :FA I3 32 4 4:=fI Jz rfl rfl Jc
instance :FA I3 32 5 5:=fI Jz rfl rfl sizeOf30
instance :FA I3 32 6 11:=fI Jz rfl rfl sizeOf30
instance :FA I3 44 0 0:=fI Lo rfl rfl Jc
instance :FA I3 44 1 1:=fI Lo rfl rfl Jc
instance :FA I3 44 2 2:=fI Lo rfl rfl Me
instance :FA I3 45 2 2:=fI underlying45 rfl rfl Me
instance :FA I3 49 0 0:=fI Ln rfl rfl Jc
instance :FA I3 49 1 1:=fI Ln rfl rfl Jc
instance :FA I3 49 2 2:=fI Ln rfl rfl sizeOf47
instance :FA I3 61 0 0:=fI Mp rfl rfl sizeOf22
instance :FA I3 61 1 1:=fI Mp rfl rfl JR
instance :FA I3 63 0 0:=fI underlying63 rfl rfl sizeOf61
instance :FA I3 75 0 0:=fI Lm rfl rfl Jc
instance :FA I3 75 1 1:=fI Lm rfl rfl Jc
instance :FA I3 75 2 2:=fI Lm rfl rfl Me
instance :FA I3 79 0 0:=fI Ll rfl rfl IS
instance :FA I3 79 1 1:=fI Ll rfl rfl IS
instance :FA I3 79 2 2:=fI Ll rfl rfl sizeOf77
instance :FA I3 81 0 0:=fI Lk rfl rfl Md
instance :FA I3 81 1 3:=fI Lk rfl rfl Md
instance :FA I3 81 2 6:=fI Lk rfl rfl JR
instance :FA I3 86 0 0:=fI Ku rfl rfl IS
instance :FA I3 86 1 1:=fI Ku rfl rfl IS
instance :FA I3 86 2 2:=fI Ku rfl rfl LB
instance :FA I3 88 0 0:=fI Lj rfl rfl IL
instance :FA I3 88 1 3:=fI Lj rfl rfl IL
instance :FA I3 88 2 6:=fI Lj rfl rfl JR
instance :FA I3 91 0 0:=fI Mo rfl rfl LA
instance :FA I3 91 1 1:=fI Mo rfl rfl Mg
instance :FA I3 127 1 1:=fI Ml rfl rfl LA
instance :FA I3 127 2 2:=fI Ml rfl rfl Mg
instance :FA I3 136 0 0:=fI Mk rfl rfl IS
instance :FA I3 136 1 1:=fI Mk rfl rfl JR
instance :FA I3 138 0 0:=fI JH rfl rfl sizeOf32
instance :FA I3 138 1 17:=fI JH rfl rfl IS
instance :FA I3 138 2 18:=fI JH rfl rfl sizeOf134
instance :FA I3 138 3 19:=fI JH rfl rfl JR
instance :FA I3 138 4 20:=fI JH rfl rfl sizeOf136
instance :FA I3 138 5 22:=fI JH rfl rfl JR
instance :FA I3 145 0 0:=fI JG rfl rfl KR
instance :FA I3 145 1 1:=fI JG rfl rfl IS
instance :FA I3 145 2 2:=fI JG rfl rfl IS
instance :FA I3 145 3 3:=fI JG rfl rfl IS
instance :FA I3 145 4 4:=fI JG rfl rfl IS
instance :FA I3 145 5 5:=fI JG rfl rfl Mf
instance :FA I3 148 0 0:=fI JU rfl rfl sizeOf145
instance :FA I3 148 1 6:=fI JU rfl rfl sizeOf49
instance :FA I3 148 2 9:=fI JU rfl rfl sizeOf146
instance :FA I3 148 3 10:=fI JU rfl rfl JR
instance :FA I3 148 4 11:=fI JU rfl rfl JR
instance :FA I3 165 0 0:=fI JT rfl rfl JR
instance :FA I3 165 1 1:=fI JT rfl rfl sizeOf162
instance :FA I3 165 2 2:=fI JT rfl rfl sizeOf163
instance :FA I3 165 3 3:=fI JT rfl rfl sizeOf160
instance :FA I3 165 4 4:=fI JT rfl rfl sizeOf161
instance :FA I3 167 0 0:=fI L8 rfl rfl Jc
instance :FA I3 167 1 1:=fI L8 rfl rfl Jc
instance :FA I3 167 2 2:=fI L8 rfl rfl IS
instance :FA I3 170 0 0:=fI L7 rfl rfl IS
instance :FA I3 170 1 1:=fI L7 rfl rfl IS
instance :FA I3 170 2 2:=fI L7 rfl rfl IS
instance :FA I3 174 0 0:=fI L6 rfl rfl sizeOf114
instance :FA I3 174 1 1:=fI L6 rfl rfl sizeOf172
instance :FA I3 174 2 2:=fI L6 rfl rfl LA
instance :FA I3 201 0 0:=fI JF rfl rfl sizeOf91
instance :FA I3 201 1 2:=fI JF rfl rfl sizeOf199
instance :FA I3 201 2 3:=fI JF rfl rfl Jc
instance :FA I3 201 3 4:=fI JF rfl rfl sizeOf160
instance :FA I3 201 4 5:=fI JF rfl rfl sizeOf198
instance :FA I3 201 5 6:=fI JF rfl rfl IS
instance :FA I3 218 0 0:=fI Mj rfl rfl KR
instance :FA I3 218 1 1:=fI Mj rfl rfl IL
instance :FA I3 235 0 0:=fI Mi rfl rfl KR
instance :FA I3 235 1 1:=fI Mi rfl rfl IS
instance :FA I3 237 0 0:=fI JS rfl rfl sizeOf235
instance :FA I3 237 1 2:=fI JS rfl rfl sizeOf146
instance :FA I3 237 2 3:=fI JS rfl rfl IS
instance :FA I3 237 3 4:=fI JS rfl rfl IS
instance :FA I3 237 4 5:=fI JS rfl rfl Mf
instance :SC I3 22 1:=⟨5,underlying22,sizeOf5⟩
instance :SC I3 25 1:=⟨3,underlying25,IS⟩
instance :SC I3 28 1:=⟨24,underlying28,LC⟩
instance :SC I3 42 7:=⟨81,underlying42,sizeOf81⟩
instance :SC I3 47 7:=⟨88,underlying47,sizeOf88⟩
instance :SC I3 53 1:=⟨4,underlying53,JR⟩
instance :SC I3 77 3:=⟨79,underlying77,Md⟩
instance :SC I3 84 3:=⟨86,Kv,IL⟩
instance :SC I3 89 1:=⟨25,underlying89,Jc⟩
instance :SC I3 119 2:=⟨91,underlying119,sizeOf91⟩
instance :SC I3 123 1:=⟨9,underlying123,KR⟩
instance :SC I3 134 2:=⟨136,underlying134,sizeOf136⟩
instance :SC I3 146 4:=⟨218,underlying146,sizeOf218⟩
instance :SC I3 163 3:=⟨167,underlying163,sizeOf167⟩
instance :SC I3 199 1:=⟨89,underlying199,LA⟩
instance :AG I3 3 false:=⟨isAgg3⟩
instance :AG I3 4 false:=⟨isAgg4⟩
instance :AG I3 5 false:=⟨isAgg5⟩
instance :AG I3 9 false:=⟨isAgg9⟩
instance :AG I3 22 false:=⟨isAgg22⟩
instance :AG I3 24 false:=⟨isAgg24⟩
instance :AG I3 25 false:=⟨isAgg25⟩
instance :AG I3 28 false:=⟨isAgg28⟩
instance :AG I3 33 false:=⟨isAgg33⟩
instance :AG I3 42 false:=⟨isAgg42⟩
instance :AG I3 47 false:=⟨isAgg47⟩
instance :AG I3 77 false:=⟨isAgg77⟩
instance :AG I3 84 false:=⟨isAgg84⟩
instance :AG I3 89 false:=⟨isAgg89⟩
instance :AG I3 114 false:=⟨isAgg114⟩
instance :AG I3 134 false:=⟨isAgg134⟩
instance :AG I3 146 false:=⟨isAgg146⟩
instance :AG I3 160 false:=⟨isAgg160⟩
instance :AG I3 161 false:=⟨isAgg161⟩
instance :AG I3 162 false:=⟨isAgg162⟩
instance :AG I3 163 false:=⟨isAgg163⟩
instance :AG I3 172 false:=⟨isAgg172⟩
instance :AG I3 197 false:=⟨isAgg197⟩
instance :AG I3 198 false:=⟨isAgg198⟩
instance :AG I3 199 false:=⟨isAgg199⟩
end Go.VL
end
namespace Go.VL
open Go.Proofs.Tryz
theorem max_lt(k:I9){a:Nat}(h:(a:Int)<=k.max):a<2^k.bits:=by
 cases k<;>simp only[KQ,K5,JV]at h ⊢<;>simp at h ⊢<;>omega
theorem eX(n a:Nat)(h:a<2^n):(LU n (a:Int)).toNat=a:=by
 rw[show LU n (a:Int)=BitVec.ofNat n a from by simp,BitVec.toNat_ofNat,Nat.mod_eq_of_lt h]
theorem my(k:I9){a:Nat}(h:(a:Int)<=k.max):k.wrap a=a:=by
 cases k<;>simp only[KQ,K5,JV]at h<;>simp[ME,K5,JV]at h ⊢<;>(try split)<;>omega
def yH(k:I9):Nat:=if k.signed then k.bits-1 else k.bits
theorem lq(k:I9)(a:Nat):(a:Int)<=k.max↔a<2^yH k:=by
 cases k<;>simp[KQ,K5,JV,yH]<;>omega
section
variable{P:I6}{N:Nat}{ops:Array IG}{Q:IW→Jb→ka→Prop}{rest:List IG}{st:St}{w:ka}
variable{t xt yt:ln}{p:String}{e:Array Jp}{d:Nat}{x y z:I2}
variable{k:I9}{m n:Int}{a b:Nat}
theorem Ds(ha:(a:Int)<=k.max)(hb:(b:Int)<=k.max):(binOp .and xt (.int k a) (.int k b)).run P w=.ok (.int k ((a &&& b:Nat):Int)) w:=by
 rw[binOp_and];have h:((a &&& b:Nat):Int)<=k.max:=by have:=@Nat.and_le_left a b;omega
 simp only[Mn,BitVec.toNat_and,eX _ _ (max_lt k ha),eX _ _ (max_lt k hb),my k h];rfl
theorem FO(ha:(a:Int)<=k.max)(hb:(b:Int)<=k.max):(binOp .or xt (.int k a) (.int k b)).run P w=.ok (.int k ((a ||| b:Nat):Int)) w:=by
 rw[binOp_or];have h:((a ||| b:Nat):Int)<=k.max:=(lq k _).2 (Nat.or_lt_two_pow ((lq k a).1 ha) ((lq k b).1 hb));simp only[Mn,BitVec.toNat_or,eX _ _ (max_lt k ha),eX _ _ (max_lt k hb),my k h];rfl
theorem lL(hx:ev st x=some (.int k m))(hy:ev st y=some (.int k n))(hm:m=a)(hn:n=b)(ha:(a:Int)<=k.max)(hb:(b:Int)<=k.max):RV P N (.binOp .and xt x y yt) t st w (.int k ((a &&& b:Nat):Int)):=by
 subst hm;subst hn;exact dS hx hy (Ds ha hb)
theorem nJ(hx:ev st x=some (.int k m))(hy:ev st y=some (.int k n))(hm:m=a)(hn:n=b)(ha:(a:Int)<=k.max)(hb:(b:Int)<=k.max):RV P N (.binOp .or xt x y yt) t st w (.int k ((a ||| b:Nat):Int)):=by
 subst hm;subst hn;exact dS hx hy (FO ha hb)
theorem eM{k':I9}(hx:ev st x=some (.int k m))(hy:ev st y=some (.int k' n))(hm:m=a)(hn:n=b)(hb:b<=k.bits):RV P N (.binOp .shr xt x y yt) t st w (.int k ((a / 2^b:Nat):Int)):=by
 subst hm;subst hn;refine dS hx hy ?_;rw[binOp_shr];have h1:¬(b:Int)<0:=zo;simp only[Mw,if_neg h1,IV,LO hb];rw[Int.fdiv_eq_ediv_of_nonneg _ (by exact_mod_cast J7 _)];simp
theorem uY{k':I9}(hx:ev st x=some (.int k m))(hy:ev st y=some (.int k' n))(hm:m=a)(hn:n=b)(hb:b<=k.bits)(hr:((a*2^b:Nat):Int)<=k.max):RV P N (.binOp .shl xt x y yt) t st w (.int k ((a*2^b:Nat):Int)):=by
 subst hm;subst hn;refine dS hx hy ?_;rw[binOp_shl];have h1:¬(b:Int)<0:=zo;have h2:=my k hr;simp only[Mw,if_neg h1,IV,LO hb];have h3:(a:Int)*2^b=((a*2^b:Nat):Int):=by simp
 rw[h3,h2];rfl
theorem tJ(l:List UInt8):strOfNums (l.map fun b=>(b.toNat:Int))=bs l:=by
 simp only[strOfNums,bs,List.map_map];congr 1;rw[show((fun n:Int=>KW n.toNat)∘fun b:UInt8=>(b.toNat:Int))=id from by funext b;simp];simp
theorem kO{l:List UInt8}{v:ix}{E:ln}(hl:Sl (fun b:UInt8=>[KM .u8 (b.toNat:Int)]) 1 w v l)(hs:P.underlying xt=some (.slice E))(he:P.underlying E=some (.int .u8))(a0:P.underlying yt=some .string)(hx:ev st x=some v):
  RV P N (.convert xt yt x) t st w (.string (bs l)):=
 fun a' ha a2 p e g=>by
  obtain⟨a,c,rfl,hc,_,a1⟩:=hl.shape;simp only[execOp,ha.ev hx,I5]
  by_cases h0:l.length=0
  ·obtain rfl:l=[]:=IU h0
   cases a with
   |none=>
    rw[run_convert_bytes_nil w xt E hs he _ _ yt a0];rfl
   |some q=>
    obtain⟨b,o,sp⟩:=q;have hq:=run_convert_bytes_string (P:=P) w xt yt E (some ⟨b,o,sp⟩) 0 c hs he a0;simp only[LH]at hq ⊢;rw[hq,run_bytesToString w ⟨b,o,sp⟩ 0 c [] (by simp[loadCells,loadCellsFrom])];rfl
  obtain⟨b,o,rfl⟩:=a1 h0
  have:=run_convert_bytes_arg (P:=P) w xt E hs he b o l.length c (l.map fun b=>(b.toNat:Int)) (by simp) (fun i hi=>by
   have h1:=hl.cells i hi 0 _ rfl;rw[ay]at h1;simp only[adr,Kp]at h1;rw[h1,IX,IM (by simpa using hi)]
   simp) yt a0
  rw[this,tJ];rfl
end
section
open Go.RowKit
abbrev Fr(ro:Option Nat):Fence:={ Jm with round:=ro }
def eJ(o:IG):Bool:=match o.op with | .defer _=>false|_=>true
theorem xC{o:IG}(h:eJ o=true):∀c,o.op≠.defer c:=by
 intro c e;simp[eJ,e]at h
def dn(ds:List Jd)(Q:IW->Jb->ka->Prop):IW->Jb->ka->Prop:=fun e a w=>Q e { a with defers:=a.defers++ds } w
theorem jA(a:Jb)(x:List Jd):({ a with defers:=x }:Jb).eval=a.eval:=by
 funext t;cases t<;>rfl
theorem Iw{ro:Option Nat}{P:I6}{o:IG}{a:Jb}{w:ka}{next:Jb->ka->Prop}{Q Q1:IW->Jb->ka->Prop}{ds:List Jd} 
  (hn:ro=none\/eJ o=true) (a1:∀a w,¬Q1 .outgrown a w) (hq:∀c a w,Q1 (.panic c) a w->Q (.panic c) { a with defers:=a.defers++ds } w)
  (h:o.wp P a w (fun a w=>next { a with defers:=a.defers++ds } w) Q1):o.wpIn (Fr ro) 0 P { a with defers:=a.defers++ds } w next Q:=by
 refine⟨fun _ _=>trivial,?_⟩;have hs:o.semAt (Fr ro).round ({ a with defers:=a.defers++ds }:Jb).eval=execOp a.eval o:=by
  rw[jA]
  rcases hn with rfl|hn
  ·rfl
  exact Oper.semAt_eq _ _ _ (xC hn)
 rw[hs];unfold JA at h;generalize (execOp a.eval o).run P w=r at h ⊢
 cases r with
 |ok nx w'=>
  cases nx with
  |value v=>cases hd:o.dst<;>simpa[JO,L1,K2,hd]using h
  |skip=>cases hd:o.dst<;>simpa[JO,L1,K2,hd]using h
  |defer d=>cases hd:o.dst<;>simpa[JO,L1,K2,hd]using h
  |enter f args=>
   refine⟨fun hh=>by simp[Jm]at hh,?_⟩;refine MF (callsIn_wide.2 h:CallsIn Jm _ P f args w' _) ?_
   intro e w'' q
   cases e with
   |returned v=>cases hd:o.dst<;>simpa[K2,hd]using q
   |panicked c=>exact hq _ _ _ q
   |outgrown=>obtain⟨a0,w0,q⟩:=q;exact absurd q (a1 _ _)
  |row row args=>
   refine⟨fun hh=>by simp[Jm]at hh,fun c cs _=>?_⟩;obtain⟨v,w'',q,s⟩:=h c cs;refine⟨v,w'',?_,stepsIn_wide.2 s⟩
   cases hd:o.dst<;>simpa[K2,hd]using q
  |_=>exact h.elim
 |halt hl w'=>
  cases hl with
  |panic v=>exact hq _ _ _ h
  |_=>exact h.elim
theorem eB{ro:Option Nat}{P:I6}{ops:Array IG}{Q:IW->Jb->ka->Prop}{ds:List Jd}(l2:List IG)(a2:∀a w,¬Q .outgrown a w):
  ∀(l:List IG),(ro=none\/l.all eJ=true)->∀a w,wpList P ops (dn ds (Exit.then (wpListIn (Fr ro) 0 P ops Q l2) Q)) l a w->wpListIn (Fr ro) 0 P ops Q (l++l2) { a with defers:=a.defers++ds } w
 |[],_,a,w,h=>h
 |o::rest,hn,a,w,h=>by
  have a4:ro=none\/eJ o=true:=by rcases hn with h|h;exact .inl h;exact .inr (by simp at h;exact h.1)
  have a3:ro=none\/rest.all eJ=true:=by rcases hn with h|h;exact .inl h;exact .inr (by simp at h ⊢;exact h.2)
  rw[Jw];unfold wpListIn;unfold wpList at h;have a1:∀a w,¬dn ds (Exit.then (wpListIn (Fr ro) 0 P ops Q l2) Q) .outgrown a w:=fun a w q=>a2 _ _ q
  split at h
  ·rename_i hw;rw[if_pos hw]
   rcases h with h|⟨_,a0,w0,h⟩
   ·refine Iw (Q1:=dn ds (Exit.then (wpListIn (Fr ro) 0 P ops Q l2) Q)) a4 a1 (fun _ _ _ q=>q) ?_;have hm:∀a w,wpList P ops (dn ds (Exit.then (wpListIn (Fr ro) 0 P ops Q l2) Q)) rest a w->wpListIn (Fr ro) 0 P ops Q (rest++l2) { a with defers:=a.defers++ds } w:=eB l2 a2 rest a3;unfold JA at h ⊢;generalize (execOp a.eval o).run P w=r at h ⊢
    cases r with
    |ok nx w'=>
     cases nx with
     |value v=>exact hm _ _ h
     |skip=>exact hm _ _ h
     |defer d=>exact hm _ _ h
     |enter f args=>
      refine Jh h ?_;intro e w'' q
      cases e with
      |returned v=>exact hm _ _ q
      |_=>exact q
     |row row args=>exact Lu h fun v w'' q=>hm _ _ q
     |_=>exact h
    |halt hl w'=>cases hl<;>exact h
   exact absurd h (a1 _ _)
  rename_i hw;rw[if_neg hw];refine⟨fun _ _=>trivial,?_⟩;have:=eB l2 a2 rest a3 _ _ h
  cases hd:o.dst<;>simpa[K2,hd]using this
theorem then_self(Q:IW->Jb->ka->Prop):Exit.then (fun a w=>Q .normal a w) Q=Q:=by
 funext e a w;cases e<;>rfl
theorem mD{ro:Option Nat}{P:I6}{ops:Array IG}{Q:IW->Jb->ka->Prop}{ds:List Jd}(a0:∀a w,¬Q .outgrown a w) 
  (l:List IG) (hn:ro=none\/l.all eJ=true) (a:Jb) (w:ka) (h:wpList P ops (dn ds Q) l a w):wpListIn (Fr ro) 0 P ops Q l { a with defers:=a.defers++ds } w:=by
 have:=eB (ro:=ro) (P:=P) (ops:=ops) (Q:=Q) (ds:=ds) [] a0 l hn a w (by
  rw[show Exit.then (wpListIn (Fr ro) 0 P ops Q []) Q=Q from then_self Q];exact h)
 rwa[LK]at this
def WI(ro:Option Nat)(P:I6)(N:Nat)(ds:List Jd)(c:JC)(Q:IW->Jb->ka->Prop)(st:St)(w:ka):Prop:=
 ∀a,Fits N a st->c.wpIn (Fr ro) 0 P Q { a with defers:=ds } w
def QI(N:Nat)(ds:List Jd)(Q:IW->Jb->ka->Prop)(e:IW)(st:St)(w:ka):Prop:=
 ∀a,Fits N a st->Q e { a with defers:=ds } w
section
variable{P:I6}{N:Nat}{ro:Option Nat}{ds:List Jd}{Q:IW→Jb→ka→Prop}{st:St}{w:ka}
theorem qN{N:Nat}{a:Jb}{st:St}(h:Fits N a st)(ds:List Jd):({ a with defers:=a.defers++ds }:Jb) = { a with defers:=ds }:=by rw[h.defers];rfl
theorem QF.dn{e:IW}(h:QI N ds Q e st w):QF N (dn ds Q) e st w:=fun a ha=>by
 show Q e _ w;rw[qN ha];exact h a ha
theorem WI.region{id:Nat}{l:List IG}(hn:ro=none\/l.all eJ=true)(a0:∀a w,¬Q .outgrown a w)(h:WL P N l.toArray (dn ds Q) l st w):WI ro P N ds (.region id l.toArray false) Q st w:=fun a ha=>by
 rw[<-qN ha];exact wpIn_region_lit (mD a0 l hn a w (h a ha))
theorem WI.seq{x y:JC}(h:WI ro P N ds x (Exit.then (y.wpIn (Fr ro) 0 P Q) Q) st w):WI ro P N ds (.seq x y) Q st w:=fun a ha=>wpIn_seq (h a ha)
theorem WI.skip(h:QI N ds Q .normal st w):WI ro P N ds .skip Q st w:=fun a ha=>wpIn_skip (h a ha)
theorem WI.exit{id:Nat}(h:QI N ds Q (.exit id) st w):WI ro P N ds (.exit id) Q st w:=fun a ha=>wpIn_exit (h a ha)
theorem WI.ret(h:QI N ds Q .ret st w):WI ro P N ds .ret Q st w:=fun a ha=>wpIn_ret (h a ha)
theorem WI.block{id:Nat}{c:JC}(h:WI ro P N ds c (Ja id Q) st w):WI ro P N ds (.block id c) Q st w:=fun a ha=>wpIn_block (h a ha)
theorem Fits.evD{a:Jb}(ha:Fits N a st){x:I2}{v:ix}(hx:VL.ev st x=some v)(ds:List Jd):({ a with defers:=ds }:Jb).eval x=v:=by rw[jA];exact ha.ev hx
theorem WI.cond{c:I2}{x y:JC}{b:Bool}(hc:ev st c=some (.bool b))(ht:b=true->WI ro P N ds x Q st w)(hf:b=false->WI ro P N ds y Q st w):WI ro P N ds (.cond c x y) Q st w:=
 fun a ha=>wpIn_cond_split (ha.evD hc ds) (fun e=>ht e a ha) (fun e=>hf e a ha)
theorem qR{c:I2}{x y:JC}{b:Bool}(hc:ev st c=some (.bool b))(hb:b=true)(ht:WI ro P N ds x Q st w):WI ro P N ds (.cond c x y) Q st w:=by
 subst hb;exact fun a ha=>wpIn_cond_true (ha.evD hc ds) (ht a ha)
theorem kL{c:I2}{x y:JC}{b:Bool}(hc:ev st c=some (.bool b))(hb:b=false)(hf:WI ro P N ds y Q st w):WI ro P N ds (.cond c x y) Q st w:=by
 subst hb;exact fun a ha=>wpIn_cond_false (ha.evD hc ds) (hf a ha)
theorem aV{y:JC}{Q':IW->Jb->ka->Prop}(h:WI ro P N ds y Q st w):QI N ds (Exit.then (y.wpIn (Fr ro) 0 P Q) Q') .normal st w:=h
theorem nK{K:Jb->ka->Prop}{id:Nat}(h:QI N ds Q (.exit id) st w):QI N ds (Exit.then K Q) (.exit id) st w:=h
theorem iT{K:Jb->ka->Prop}(h:QI N ds Q .ret st w):QI N ds (Exit.then K Q) .ret st w:=h
theorem cR{id:Nat}(h:QI N ds Q .normal st w):QI N ds (Ja id Q) .normal st w:=h
theorem gj{id:Nat}(h:QI N ds Q .ret st w):QI N ds (Ja id Q) .ret st w:=h
theorem vf{id:Nat}(h:QI N ds Q .normal st w):QI N ds (Ja id Q) (.exit id) st w:=fun a ha=>by
 show if id=id then _ else _
 rw[if_pos rfl];exact h a ha
end
theorem wpIn_loop_ghost{F:Fence}{n:Nat}{P:I6}{Q:IW->Jb->ka->Prop}{a:Jb}{w:ka}{c:JC}(I:Nat->Jb->ka->Prop)(n0:Nat)(h₀:I n0 a w) 
  (a1:∀j a w,I j a w->c.wpIn F n P (Exit.then (fun a' w'=>∃j',j'<j/\I j' a' w') Q) a w):(Code.loop c).wpIn F n P Q a w:=by
 intro b k cs a3 hb hr;have a2:∀j a w,I j a w->
   ∃e a' w',Q e a' w'/\ArrivesIn (MA P F) P (lone (b.atR a (.code c :: .inLoop c::k)) cs w) b k cs e a' w':=by
  intro j
  induction j using Nat.strongRecOn with
  |_ j ih=>
   intro a w hI;obtain⟨e,a₁,w₁,hq,a0⟩:=a1 j a w hI b (.inLoop c::k) cs a3 hb hr
   cases e with
   |normal=>
    obtain⟨j',a4,hI₁⟩:=hq;obtain⟨e₂,a₂,w₂,hq₂,harr₂⟩:=ih j' a4 a₁ w₁ hI₁;exact⟨e₂,a₂,w₂,hq₂,.of_steps (Mz a0 (.one (fenced_calm hb hr rfl) stepR_inLoop)) harr₂⟩
   |exit id=>exact⟨_,a₁,w₁,hq,.pass (x:=.inLoop c) rfl (fun _ _=>.inl (by simp)) a0⟩
   |goto l=>exact⟨_,a₁,w₁,hq,.pass (x:=.inLoop c) rfl (fun _ _=>.inl (by simp)) a0⟩
   |ret=>exact⟨_,a₁,w₁,hq,.pass (x:=.inLoop c) rfl (fun _ _=>.inl (by simp)) a0⟩
   |panic ch=>exact⟨_,a₁,w₁,hq,.pass (x:=.inLoop c) rfl (fun _ _=>.inl (by simp)) a0⟩
   |outgrown=>exact⟨_,a₁,w₁,hq,.pass (x:=.inLoop c) rfl (fun _ _=>.inl (by simp)) a0⟩
 obtain⟨e,a',w',hq,a0⟩:=a2 _ a w h₀;exact⟨e,a',w',hq,.of_steps (.one (fenced_calm hb hr rfl) stepR_loop) a0⟩
section
variable{P:I6}{N:Nat}{ro:Option Nat}{ds:List Jd}{Q:IW→Jb→ka→Prop}{st:St}{w:ka}
theorem WI.loop{α:Type}{c:JC}(f:α->St)(g:α->ka)(I:α->Prop)(μ:α->Nat)(x0:α)(h0:I x0)(hc:Cov st (f x0))(hw:g x0=w) 
  (a0:∀x,I x->WI ro P N ds c (Exit.then (fun a' w'=>∃y,I y/\μ y<μ x/\(∃a,a' = { a with defers:=ds }/\Fits N a (f y))/\g y=w') Q) (f x) (g x)):WI ro P N ds (.loop c) Q st w:=by
 intro a ha;refine wpIn_loop_ghost (fun n a' w=>∃y,I y/\μ y=n/\(∃a,a' = { a with defers:=ds }/\Fits N a (f y))/\g y=w) (μ x0) ⟨x0,h0,rfl,⟨a,rfl,ha.cov hc⟩,hw⟩ ?_;rintro n _ w ⟨x,hI,rfl,⟨a,rfl,hf⟩,rfl⟩;refine wpIn_mono (a0 x hI a hf) ?_;intro e a' w' hq
 cases e with
 |normal=>obtain⟨y,h1,h2,h3,h4⟩:=hq;exact⟨μ y,h2,y,h1,rfl,h3,h4⟩
 |_=>exact hq
theorem QI.next{α:Type}{f:α->St}{g:α->ka}{I:α->Prop}{m:Nat}{μ:α->Nat}(y:α)(h1:I y)(h2:μ y<m)(h3:Cov st (f y))(h4:g y=w):
 QI N ds (Exit.then (fun a' w'=>∃y,I y/\μ y<m/\(∃a,a' = { a with defers:=ds }/\Fits N a (f y))/\g y=w') Q) .normal st w:=fun a ha=>⟨y,h1,h2,⟨a,rfl,ha.cov h3⟩,h4⟩
end
def Gl(R:ix->ka->Prop):Ending->ka->Prop
 |.returned v,w=>R v w
 |_,_=>False
def Leave(P:I6)(N:Nat)(fn:M9)(R:ix->ka->Prop)(ds:List Jd)(st:St)(w:ka):Prop:=
 ∀a,Fits N a st->LeavesInM Jm 0 P fn a.tmps (Gl R) ds .returning w
section
variable{P:I6}{N:Nat}{ds:List Jd}{st:St}{w:ka}{fn:M9}{R:ix→ka→Prop}
theorem pN{f:JL}{c:JC}{args:List ix}(hf:P.funcs[f]? = some fn)(hN:fn.ntmps=N)(hb:fn.body=some c)(a1:Lw args.length N=true) 
  (h:WI none P N [] c (bodyPostM Jm 0 P fn (Gl R)) (Dj 0 args) w):Ret P f args w R:=by
 have a0:=pg (N:=N) (args:=args) a1 (st:=Dj 0 args) fun t v hv=>by simpa using(mH args 0 t v hv).2
 have hw:=h _ a0;have h2:=callsIn_of_wp_marks (F:=Jm) (n:=0) (P:=P) (f:=f) (fn:=fn) (c:=c) (args:=args.toArray) (w:=w) (R:=Gl R) hf hb trivial (by rw[hN];have:Fr none=Jm:=rfl;rw[this]at hw;simpa using hw);refine Jh (callsIn_wide.1 h2) ?_;intro e w' q
 cases e<;>exact q
theorem kQ(h:Leave P N fn R ds st w):QI N ds (bodyPostM Jm 0 P fn (Gl R)) .ret st w:=fun a ha=>h a ha
theorem Leave.nil{v:ix}(hr:∀a:Jb,Fits N a st->(results fn a.tmps).run P w=.ok v w)(h:R v w):Leave P N fn R [] st w:=fun a ha=>⟨v,hr a ha,h⟩
theorem nN(hr:fn.results = #[])(h:R (.tuple #[]) w):Leave P N fn R [] st w:=Leave.nil (fun a ha=>by simp[results,hr]) h
theorem Leave.mark{D:Nat}(hD:w.heap[D]? = some (.deferred (some [])))(h:Leave P N fn R ds st (w.putObj D (.deferred none))):Leave P N fn R ({ target:=.collected D,args:=#[] }::ds) st w:=
 fun a ha=>⟨by simp,.inl ⟨D,_,rfl,run_takeDeferred hD,h a ha⟩⟩
end
def WLI(ro:Option Nat)(P:I6)(N:Nat)(ds:List Jd)(ops:Array IG)(Q:IW->Jb->ka->Prop)(l:List IG)(st:St)(w:ka):Prop:=
 ∀a,Fits N a st->wpListIn (Fr ro) 0 P ops Q l { a with defers:=ds } w
section
variable{P:I6}{N:Nat}{ro:Option Nat}{ds:List Jd}{Q:IW→Jb→ka→Prop}{st:St}{w:ka}
theorem uS(i:Nat){id:Nat}{l:List IG}(hn:ro=none\/(l.take i).all eJ=true)(a0:∀a w,¬Q .outgrown a w) 
  (h:WL P N l.toArray (VL.dn ds (Exit.then (wpListIn (Fr ro) 0 P l.toArray Q (l.drop i)) Q)) (l.take i) st w):WI ro P N ds (.region id l.toArray false) Q st w:=fun a ha=>by
 rw[<-qN ha];refine wpIn_region_lit ?_;have:=eB (l.drop i) a0 (l.take i) hn a w (h a ha)
 rwa[Jf]at this
theorem Fi{ops:Array IG}{l:List IG}{Q':IW->Jb->ka->Prop}(h:WLI ro P N ds ops Q l st w):QI N ds (Exit.then (wpListIn (Fr ro) 0 P ops Q l) Q') .normal st w:=h
theorem C6{ops:Array IG}{l:List IG}(hn:ro=none\/l.all eJ=true)(a0:∀a w,¬Q .outgrown a w)(h:WL P N ops (VL.dn ds Q) l st w):WLI ro P N ds ops Q l st w:=fun a ha=>by
 rw[<-qN ha];exact mD a0 l hn a w (h a ha)
end
def zz(O:Nat->Nat)(w:ka)(L:Nat)(I:(Nat->Nat)->ka->Prop)(Ix:JC->(Nat->Nat)->ka->Prop):IW->Jb->ka->Prop
 |.normal,_,w'=>∃O',Upd (fun j=>j≠0/\j≠L) O w O' w'/\I O' w'
 |.ret,_,w'=>∃O',Upd (fun j=>j≠0/\j≠L) O w O' w'/\Ix .ret O' w'
 |.exit id,_,w'=>∃O',Upd (fun j=>j≠0/\j≠L) O w O' w'/\Ix (.exit id) O' w'
 |_,_,_=>False
theorem Upd.putObj{O:Nat->Nat}{w:ka}{L b:Nat}(hL:L≠0)(h:O b=L)(o:Obj):Upd (fun j=>j=L) O w O (w.putObj b o):=
 ⟨rfl,rfl,rfl,by simp,fun k _ hn=>World.putObj_heap_other (fun e=>hn (by rw[e];exact h)),fun _ _=>rfl,fun _ h=>.inl h,fun e=>hL e.symm⟩
theorem im{N:Nat}{st:St}{O:Nat->Nat}{w w':ka}{L:Nat}{I:(Nat->Nat)->ka->Prop}{Ix:JC->(Nat->Nat)->ka->Prop}(O':Nat->Nat)(h:Upd (fun j=>j≠0/\j≠L) O w O' w')(h2:I O' w'):
 QI N [] (zz O w L I Ix) .normal st w':=fun _ _=>⟨O',h,h2⟩
theorem ve{N:Nat}{st:St}{O:Nat->Nat}{w w':ka}{L:Nat}{I:(Nat->Nat)->ka->Prop}{Ix:JC->(Nat->Nat)->ka->Prop}(O':Nat->Nat)(h:Upd (fun j=>j≠0/\j≠L) O w O' w')(h2:Ix .ret O' w'):
 QI N [] (zz O w L I Ix) .ret st w':=fun _ _=>⟨O',h,h2⟩
structure Fixed(O:Nat->Nat)(w:ka)(q:IZ)(u:ix):Prop where
 cell:w.cell? q=some u
 free:O q.block=0
theorem Upd.zero{S:Nat->Prop}{O O':Nat->Nat}{w w':ka}(h:Upd S O w O' w'){b:Nat}(hb:b<w.heap.size)(h0:O b=0):O' b=0:=
 IE fun a0=>by
  rcases h.new b a0 with h1|h1
  ·exact h1 h0
  omega
theorem Fixed.upd{S:Nat->Prop}{O O':Nat->Nat}{w w':ka}{q:IZ}{u:ix}(h:Fixed O w q u)(k:Upd S O w O' w'):Fixed O' w' q u:=by
 have a0:=JN w q h.cell;have hb:=k.blk q.block a0 (by rw[h.free];exact k.z);refine⟨?_,k.zero a0 h.free⟩;have:=h.cell;unfold M0 at this ⊢;rw[hb];exact this
end
end Go.VL
section
namespace Go.VL
open Go.Proofs.Tryz
open Go.RowKit
section
variable{P:I6}{N:Nat}{ops:Array IG}{Q:IW→Jb→ka→Prop}{rest:List IG}{st:St}{w:ka}
variable{t:ln}{p:String}{e:Array Jp}{d:Nat}{x y z:I2}
theorem RV.ext{f:JL}{args:List I2}{a1:Array ln}{vs:List ix}{v:ix}(hr:(callFunc f vs.toArray).run P w=.ok (.value v) w)(a0:evs st args=some vs):
 RV P N (.call ⟨.value (.func f),args.toArray,a1⟩) t st w v:=fun a ha a2 p e g=>by
 simp only[execOp,resolve,Je,I8];rw[ha.evs a0];simp[Js,invoke,hr]
end
section
variable{P:I6}{N:Nat}{ops:Array IG}{Q:IW→Jb→ka→Prop}{rest:List IG}{st:St}{w:ka}
variable{t:ln}{p:String}{e:Array Jp}{d:Nat}{x y z:I2}
theorem qT{T E:ln}{len sz:Nat}{k:I9}{i:Int}{q:IZ}(hu:P.underlying T=some (.array len E))(hE:(IY E).run P w=.ok sz w) 
  (hx:ev st x=some (.pointer (some q))) (hy:ev st y=some (.int k i)) (n:Nat) (hi:i=n) (hn:n<len):RV P N (.indexAddr T x y) t st w (.pointer (some (q.add (n*sz)))):=
 fun a ha a0 p e g=>by
  subst hi;have h2:((n:Int)<(len:Int)):=zo;simp only[execOp,ha.ev hx,ha.ev hy];simp[KK,J4,asIntOf,run_underlying hu,hE];intro h3;omega
theorem eN{T E:ln}{len:Nat}{k:I9}{i:Int}{q:IZ}(hu:P.underlying T=some (.array len E))(hE:(IY E).run P w=.ok 1 w) 
  (hx:ev st x=some (.pointer (some q))) (hy:ev st y=some (.int k i)) (n:Nat) (hi:i=n) (hn:n<len):RV P N (.indexAddr T x y) t st w (.pointer (some (q.add n))):=by
 have h:=qT (N:=N) (t:=t) hu hE hx hy n hi hn
 rwa[Kp]at h
theorem bh{xt:ln}{a:List UInt8}{k:I9}{m:Int}{c:UInt8}(hT:P.underlying xt=some .string)(hx:ev st x=some (.string (bs a)))(hy:ev st y=some (.int k m))(i:Nat)(hm:m=i)(hi:a[i]? = some c):RV P N (.index xt x y) t st w (.int .u8 (c.toNat:Int)):=by
 obtain⟨h1,h2⟩:=IH.1 hi;have h:=Bn (P:=P) (N:=N) (t:=t) (w:=w) hT hx hy i hm h1;rw[aB h1,h2]at h;exact h
theorem dG{T E:ln}{n sz:Nat}{parts:List (Nat×I2)}{vs:List (Nat×ix)}{z:ix}{cells:Array ix}(hu:P.underlying T=some (.array n E))(hE:(IY E).run P w=.ok sz w)(hz:(JE T).run P w=.ok z w) 
  (hv:evp st parts=some vs) (hf:JJ (fun i=>some (i*sz,sz)) z.cells vs=some cells):RV P N (.build T parts.toArray) t st w (.agg cells):=
 fun a ha a0 p e g=>by
  have h1:=ha.evp hv;have e1:(KG (fun x:Nat×I2=>match x with|(i,x)=>(i,a.eval x)) parts)=vs:=by rw[<-h1]
  simp only[execOp,M4,I8,e1,I5,hz,I1,run_underlying hu,hE,hf,IN]
theorem uX{T E:ln}{n sz:Nat}{q:IZ}(hu:P.underlying T=some (.array n E))(hE:(IY E).run P w=.ok sz w)(_:n≠0)(hx:ev st x=some (.pointer (some q))):RV P N (.slice T x none none none) t st w (.slice (some q) n n):=
 fun a ha a0 p e g=>by
  simp only[execOp,ha.ev hx,J6];simp[Instr.sliceAt,Instr.sliceBounds,J4,run_underlying hu,hE,IQ]
end
abbrev vR(b:UInt8):List ix:=[.int .u8 (b.toNat:Int)]
section
variable{P:I6}{N:Nat}{st:St}{w:ka}{fn:M9}{R:ix→ka→Prop}
theorem cp{t u o:Mm}{T:ln}{q:IZ}{us:List ix}{v' v2:ix}(hr:fn.results = #[.cell t T,.tmp u,.tmp o])(hv:cf st t=some (.pointer (some q)))(a1:cf st u=some v')(a0:cf st o=some v2) 
  (hc:∀j u,us[j]? = some u->w.cell? (q.add j)=some u) (hT:(LD T).run P w=.ok true w) (hn:(IY T).run P w=.ok us.length w) (h:R (.tuple #[.agg us.toArray,v',v2]) w):QF N (RP P fn R) .ret st w:=fun a ha=>
 ⟨ha.defers,_,by have h1:=ha.get _ _ hv;have h2:=ha.get _ _ a1;have h3:=ha.get _ _ a0;simp[results,hr,I4,h1,h2,h3,asAddr,dh hc hT hn],h⟩
end
end Go.VL
namespace Go.VL
open Go.Proofs.Tryz
section
variable{P:I6}{N:Nat}{ops:Array IG}{Q:IW→Jb→ka→Prop}{rest:List IG}{st:St}{w:ka}
variable{t:ln}{p:String}{e:Array Jp}{d:Nat}{x y z:I2}
theorem aH{T E:ln}{sz a0:Nat}(he:Elem P T E sz a0){α:Type}{enc:α->List ix}(u:α){xv:ix}(hx:ev st x=some xv)(a2:xv.cells.toList=enc u)(a4:(enc u).length=sz)(hs:sz<=16777216)(hd:I0 d N=true) 
  (h:∀w',Sl enc sz w' (.slice (some ⟨w.heap.size,0,none⟩) 1 1) [u]->Ext w w'->WL P N ops Q rest ((d,.slice (some ⟨w.heap.size,0,none⟩) 1 1)::st) w'):WL P N ops Q (⟨some d,.buildSlice T 1 #[(0,x)],t,p,e,none⟩::rest) st w:=by
 obtain⟨a3,z,hi,hz,a1,a8,a7⟩:=he.parts;have a6:xv.cells.size=sz:=by rw[<-a4,<-a2];simp
 have a5:=he.pos;refine WL.val (v:=.slice (some ⟨w.heap.size,0,none⟩) 1 1) (w':=w.alloc (.cells xv.cells E)) hd (fun a ha=>?_) (h _ ⟨⟨_,1,rfl,ID _,by simp,fun _=>⟨_,_,rfl⟩⟩,fun i hi j c hc=>?_⟩ (Ext.alloc _ _))
 ·have:=run_buildSlice (P:=P) w T E 1 #[(0,xv)] xv.cells a3 z he.ht hi hz (by rw[a1];omega) (by rw[a1];omega) (by
   rw[a1]
   exact iK a6 (by simp))
  simp only[execOp,I8,IK,J0,ha.ev hx,I5,this,I1];rfl
 obtain rfl:i=0:=by simpa using hi
 simp only[J9]at hc;simp only[adr,Kj,KY];rw[show((⟨w.heap.size,0,none⟩:IZ).add j)=⟨w.heap.size,j,none⟩from by simp only[IQ];split<;>simp_all,cell_of_row _ _ j xv.cells E (0,0) (heap_alloc_new w _)];rw[<-a2]at hc;simpa using hc
end
end Go.VL
end
section
namespace Go.VL
open Go.Proofs.Tryz
theorem Free.weak{O O':Nat->Nat}{w:ka}{v:ix}(h:Free O' w v)(k:∀b,O' b=0->O b=0):Free O w v:=fun a n c e hn=>⟨k _ (h a n c e hn).1,(h a n c e hn).2⟩
theorem Upd.z0{S:Nat->Prop}{O O':Nat->Nat}{w w':ka}(h:Upd S O w O' w')(b:Nat)(e:O' b=0):O b=0:=
 IE fun a0=>by have:=h.tag b a0;omega
theorem Rng.bound{B:Nat}{O:Nat->Nat}{w:ka}(r:Rng B O w):∃T,0<T/\∀b,O b<T:=by
 have h:∀n,∃T,0<T/\∀b,b<n->O b<T:=fun n=>by
  induction n with
  |zero=>exact⟨1,zo,fun b hb=>zo⟩
  |succ n ih=>
   obtain⟨T,h0,hT⟩:=ih;refine⟨T+O n+1,zo,fun b hb=>?_⟩
   by_cases e:b=n
   ·subst e;omega
   have:=hT b (zo);omega
 obtain⟨T,h0,hT⟩:=h w.heap.size;refine⟨T,h0,fun b=>?_⟩
 by_cases e:O b=0
 ·omega
 exact hT b (r.rng b e).2
theorem Upd.fgt{S S':Nat->Prop}{O O2:Nat->Nat}{w w':ka}(h:Upd S O w O2 w')(hS:∀b,S (O b)->S' (O b))(hz:¬S' 0):Upd S' O w O w':=
 ⟨h.os,h.tape,h.output,h.size,fun b hb hn=>h.blk b hb fun hs=>hn (hS b hs),fun _ _=>rfl,fun _ h=>.inl h,hz⟩
theorem BlkO.fgt{O O2:Nat->Nat}{w:ka}{i j b:Nat}{cs:Array ix}{E:ln}(h:BlkO O2 w j b cs E)(ho:O b=i):BlkO O w i b cs E:=⟨h.blk,ho⟩
theorem RowT.freeT{α:Type}{enc:α->List ix}{E:ln}{sz:Nat}{S:Nat->Prop}{O O':Nat->Nat}{w w':ka}{T:Nat}{v:ix}{l:List α}(h:RowT enc E sz O' w' T v l)(a1:0<T)(hT:∀b,O b<T){B:Nat}(r:Rng B O' w')(u:Upd S O w O' w'):Free O w' v:=fun a n c e _=>by
 have h1:=h.1.tag a.block (by subst e;rfl);have h2:=r.rng a.block (by rw[h1];omega);refine⟨IE fun a0=>?_,h2.2⟩;have:=u.tag _ a0;have:=hT a.block;omega
end Go.VL
namespace Go.Proofs.YtpfpmhhigheccaaGreatDoor
open Go.Proofs.Tryz
open Go.VL Go.Proofs
inductive Nd where|mk(k c:Int)(kids:List Nd)
instance:Inhabited Nd:=⟨.mk 0 0 []⟩
def Nd.kind:Nd->Int | .mk k _ _=>k
def Nd.cls:Nd->Int | .mk _ c _=>c
def Nd.kids:Nd->List Nd | .mk _ _ l=>l
mutual
def nsz:Nd->Nat | .mk _ _ l=>dt l+1
def dt:List Nd->Nat | []=>0|t::r=>nsz t+dt r
end
theorem dD(t:Nd):0<nsz t:=by cases t;simp[nsz]
theorem cg:∀(l:List Nd) (i:Nat),i<l.length->nsz (nth l i)<=dt l
 |t::r,0,_=>by rw[ax];simp[dt]
 |t::r,i+1,h=>by rw[bA];have:=cg r i (by simpa using h);simp only[dt];omega
theorem jv:∀(a b:List Nd),dt (a++b)=dt a+dt b
 |[],b=>by simp[dt]
 |t::a,b=>by simp only[Jw,dt];rw[jv a b];omega
theorem cm(l:List Nd)(i:Nat):dt (l.take i)<=dt l:=by
 conv=>rhs;rw[<-Jf i l]
 rw[jv];omega
theorem dO(l:List Nd)(i:Nat)(h:i<l.length):dt (l.take (i+1))=dt (l.take i)+nsz (nth l i):=by
 rw[aI h,jv];simp[dt]
theorem eH:∀(l:List Nd),l.length<=dt l
 |[]=>by simp
 |t::r=>by have:=eH r;have:=dD t;simp only[dt,IR];omega
abbrev N3:=Int×Int×ix
@[simp] def aW(x:N3):List ix:=[nI x.1,nI x.2.1,x.2.2]
inductive Nt(O:Nat->Nat)(w:ka):Nd->N3->Prop
 |mk {k c:Int} {kids:List Nd} {v:ix} {xs:List N3}:Sl aW 3 w v xs->Free O w v->kids.length=xs.length->(∀i,i<xs.length->Nt O w (nth kids i) (nth xs i))->Nt O w (.mk k c kids) (k,c,v)
theorem Nt.upd{S:Nat->Prop}{O O':Nat->Nat}{w w':ka}{t:Nd}{x:N3}(h:Nt O w t x)(u:Upd S O w O' w'):Nt O' w' t x:=by
 induction h with
 |mk hs hf hl _ ih=>exact .mk (hs.upd hf u) (hf.upd u) hl ih
theorem Nt.drew{O:Nat->Nat}{w:ka}{t:Nd}{x:N3}(h:Nt O w t x):Nt O w.drew t x:=h.upd (aa (S:=fun _=>False) (fun h=>h) O (Ext.refl w).drew)
theorem Nt.ext{O:Nat->Nat}{w w':ka}{t:Nd}{x:N3}(h:Nt O w t x)(e:Ext w w'):Nt O w' t x:=h.upd (aa (S:=fun _=>False) (fun h=>h) O e)
theorem Nt.weak{O O':Nat->Nat}{w:ka}{t:Nd}{x:N3}(h:Nt O' w t x)(k:∀b,O' b=0->O b=0):Nt O w t x:=by
 induction h with
 |mk hs hf hl _ ih=>exact .mk hs (hf.weak k) hl ih
theorem Nt.low{S:Nat->Prop}{O O':Nat->Nat}{w w0 w':ka}{t:Nd}{x:N3}(h:Nt O' w' t x)(u:Upd S O w O' w0):Nt O w' t x:=h.weak u.z0
theorem Nt.zero{O:Nat->Nat}{w:ka}{t:Nd}{x:N3}(h:Nt O w t x):Nt (fun _=>0) w t x:=h.weak fun _ _=>rfl
theorem Nt.one{O:Nat->Nat}{w:ka}{t:Nd}{x:N3}(h:Nt O w t x):x.2.2.oneCell'=true:=by cases h with|mk hs=>exact hs.one
theorem Nt.leaf(O:Nat->Nat)(w:ka)(k c:Int):Nt O w (.mk k c []) (k,c,nS):=
 .mk (xs:=[]) ⟨⟨none,0,rfl,ID _,zo,fun h=>absurd rfl h⟩,fun i hi=>absurd hi (by simp)⟩ (fun a n c e=>by cases e) rfl (fun i hi=>absurd hi (by simp))
theorem Nt.kind{O:Nat->Nat}{w:ka}{t:Nd}{x:N3}(h:Nt O w t x):x.1=t.kind:=by cases h;rfl
theorem Nt.kids{O:Nat->Nat}{w:ka}{t:Nd}{x:N3}(h:Nt O w t x):∃xs:List N3,Sl aW 3 w x.2.2 xs/\Free O w x.2.2/\t.kids.length=xs.length/\∀i,i<xs.length->Nt O w (nth t.kids i) (nth xs i):=by
 cases h with|mk hs hf hl hk=>exact⟨_,hs,hf,hl,hk⟩
def ak(b:UInt8):Bool:=(decide (65<=b.toNat)&&decide (b.toNat<=90))||(decide (97<=b.toNat)&&decide (b.toNat<=122))
def aq(r:List UInt8):List UInt8:=r.dropWhile (· == 32)
def namesL:List (List UInt8):=[[79,116,104,101,114],[67,82],[76,70],[78,101,119,108,105,110,101],[67,111,110,116,114,111,108],[69,120,116,101,110,100],[90,87,74],[70,111,114,109,97,116],[82,101,103,105,111,110,97,108],[80,114,101,112,101,110,100],[83,112,97,99,105,110,103],[76],[86],[84],[76,86],[76,86,84],[80,105,99,116],[85,112,112,101,114],[76,111,119,101,114],[76,101,116,116,101,114],[75,97,116,97,107,97,110,97],[73,100,101,111,103,114,97,112,104],[68,105,103,105,116],[77,105,100,76,101,116,116,101,114],[77,105,100,78,117,109],[68,111,116],[65,112,111,115,116,114,111,112,104,101],[81,117,111,116,101],[74,111,105,110,101,114],[83,112,97,99,101],[84,101,114,109],[79,112,101,110],[67,108,111,115,101],[72,121,112,104,101,110],[71,108,117,101],[71,97,112]]
def zP(s:List UInt8):Option Nat:=namesL.findIdx? (· == s)
inductive PR where
 |ok (t:Nd) (r:List UInt8)
 |bad (p:Nat) (e:Int)
def dy(kind:Int)(r0:List UInt8):PR:=
 if ak ((aq r0).headD 0)=true then
  match zP ((aq r0).takeWhile ak)with
  |none=>.bad (aq r0).length 5
  |some c=>.ok (.mk kind (c:Nat) []) ((aq r0).dropWhile ak)
 else .bad (aq r0).length 4
def FV(r:List UInt8):PR:=if r.takeWhile ak=[97,110,121]then .ok (.mk 1 0 []) (r.dropWhile ak)else dy 0 r
def bX(al:Option (List UInt8->PR))(r:List UInt8):PR:=
 match al with
 |none=>.bad r.length 6
 |some f=>
  match f r.tail with
  |.bad p e=>.bad p e
  |.ok t r2=>if(aq r2).headD 0=41 then .ok t (aq r2).tail else .bad (aq r2).length 4
def GX(al:Option (List UInt8->PR))(r0:List UInt8):PR:=
 if ak ((aq r0).headD 0)=true then FV (aq r0)
 else if(aq r0).headD 0=126 then dy 2 (aq r0).tail
 else if(aq r0).headD 0=94 then .ok (.mk 3 0 []) (aq r0).tail
 else if(aq r0).headD 0=40 then bX al (aq r0)
 else .bad (aq r0).length 4
def opM(c:UInt8):Option Nat:=if c=42 then some 0 else if c=43 then some 1 else if c=63 then some 2 else none
def CS(al:Option (List UInt8->PR))(r0:List UInt8):PR:=
 match GX al r0 with
 |.bad p e=>.bad p e
 |.ok t r1=>
  match opM ((aq r1).headD 0)with
  |some k=>.ok (.mk (6+(k:Nat)) 0 [t]) (aq r1).tail
  |none=>.ok t (aq r1)
def eL(c:UInt8):Bool:=ak c||decide (c=126)||decide (c=94)||decide (c=40)
def oneM(k:Int)(l:List Nd):Nd:=if l.length=1 then nth l 0 else .mk k 0 l
def zj(al:Option (List UInt8->PR)):Nat->List Nd->List UInt8->PR
 |0,acc,r=>.ok (oneM 4 acc) r
 |n+1,acc,r=>
  if eL ((aq r).headD 0)=true then
   match CS al (aq r)with
   |.bad p e=>.bad p e
   |.ok t r2=>zj al n (acc++[t]) r2
  else .ok (oneM 4 acc) (aq r)
def Ia(al:Option (List UInt8->PR))(r:List UInt8):PR:=
 match CS al r with
 |.bad p e=>.bad p e
 |.ok t r1=>zj al (r1.length+1) [t] r1
def xa(al:Option (List UInt8->PR)):Nat->List Nd->List UInt8->PR
 |0,acc,r=>.ok (oneM 5 acc) r
 |n+1,acc,r=>
  if(aq r).headD 0=124 then
   match Ia al (aq r).tail with
   |.bad p e=>.bad p e
   |.ok t r2=>xa al n (acc++[t]) r2
  else .ok (oneM 5 acc) (aq r)
def F8(al:Option (List UInt8->PR))(r:List UInt8):PR:=
 match Ia al r with
 |.bad p e=>.bad p e
 |.ok t r1=>xa al (r1.length+1) [t] r1
def F7:Nat->List UInt8->PR
 |0=>F8 none
 |d+1=>F8 (some (F7 d))
inductive XR where
 |ok (t:Nd)
 |bad (p:Nat) (e:Int)
def GS(l:List UInt8):XR:=
 if 4096<l.length then .bad 0 3 else
 match F7 20 l with
 |.bad p e=>.bad (l.length-p) e
 |.ok t r=>if(aq r).length≠0 then .bad (l.length-(aq r).length) 4 else if 2000<nsz t then .bad 0 3 else .ok t
def Good(r:List UInt8):PR->Prop
 |.ok _ r'=>r' <:+ r/\r'.length<r.length
 |.bad p e=>p<=r.length/\e≠0
theorem aX(r:List UInt8):aq r <:+ r:=Jg _
theorem dc(r:List UInt8):(aq r).length<=r.length:=(aX r).length_le
theorem bV{r:List UInt8}(h:r.headD 0≠0):r.tail <:+ r/\r.tail.length+1=r.length:=by
 cases r with
 |nil=>simp at h
 |cons a r=>exact⟨JP a r,rfl⟩
theorem Good.mono{r r':List UInt8}{x:PR}(h:Good r' x)(k:r' <:+ r):Good r x:=by
 have hl:=k.length_le
 cases x with
 |ok t q=>exact⟨h.1.trans k,by have:=h.2;omega⟩
 |bad p e=>exact⟨JI h.1 hl,h.2⟩
theorem jw{r:List UInt8}(h:ak (r.headD 0)=true):r.dropWhile ak <:+ r/\(r.dropWhile ak).length<r.length:=by
 cases r with
 |nil=>simp[ak]at h
 |cons a r=>
  simp only[List.headD_cons]at h;rw[KI h];exact⟨(Jg _).trans (JP a r),by have:=(Jg (l:=r) ak).length_le;simp;omega⟩
theorem nw(k:Int)(r:List UInt8):Good r (dy k r):=by
 refine Good.mono ?_ (aX r);unfold dy
 split
 ·rename_i h
  split
  ·exact⟨ID _,zd⟩
  exact jw h
 exact⟨ID _,zd⟩
def mw(al:Option (List UInt8->PR)):Prop:=∀f,al=some f->∀r,Good r (f r)
theorem oz{al:Option (List UInt8->PR)}(ha:mw al)(r:List UInt8)(h:r.headD 0≠0):Good r (bX al r):=by
 obtain⟨h1,h2⟩:=bV h;unfold bX
 cases al with
 |none=>exact⟨ID _,zd⟩
 |some f=>
  have h3:=(ha f rfl r.tail).mono h1;have h4:=ha f rfl r.tail;dsimp only
  cases hf:f r.tail with
  |bad p e=>rw[hf]at h3;exact h3
  |ok t r2=>
   rw[hf]at h3 h4;dsimp only
   split
   ·rename_i hc;obtain⟨g1,g2⟩:=bV (r:=aq r2) (by rw[hc];decide);exact⟨(g1.trans (aX r2)).trans h3.1,by have:=dc r2;have:=h3.2;omega⟩
   exact⟨by have:=dc r2;have:=h3.2;omega,zd⟩
theorem CQ{c:UInt8}{k:Nat}(h:opM c=some k):c≠0:=fun e=>by subst e;simp[opM]at h
def Gk(r:List UInt8):PR->Prop
 |.ok _ r'=>r' <:+ r
 |.bad p e=>p<=r.length/\e≠0
end Go.Proofs.YtpfpmhhigheccaaGreatDoor
end
section
namespace Go.VL
open Go.Proofs.Tryz
theorem Upd.priv{j T:Nat}{O O':Nat->Nat}{w w':ka}(h:Upd (fun k=>k=j\/T<=k) O w O' w')(hT:∀b,O b<T)(hj:j≠0):Upd (fun k=>k=j) O w O w':=
 h.fgt (fun b hb=>hb.resolve_right (by have:=hT b;omega)) (fun e=>hj e.symm)
theorem Upd.pj{j T:Nat}{O O':Nat->Nat}{w w':ka}(h:Upd (fun k=>k=j) O w O' w')(hT:0<T):Upd (fun k=>k=j\/T<=k) O w O' w':=
 h.mono (fun _ h=>.inl h) (fun e=>by rcases e with e|e;exact h.z e;omega)
theorem Upd.pT{j T U:Nat}{O O':Nat->Nat}{w w':ka}(h:Upd (fun k=>k=U) O w O' w')(hj:j≠0)(hT:0<T)(hU:T<=U):Upd (fun k=>k=j\/T<=k) O w O' w':=
 h.mono (fun _ h=>.inr (by rw[h];exact hU)) (fun e=>by rcases e with e|e;exact hj e.symm;omega)
theorem jh{j T:Nat}{w w':ka}(O:Nat->Nat)(h:Ext w w')(hj:j≠0)(hT:0<T):Upd (fun k=>k=j\/T<=k) O w O w':=
 aa (fun e=>by rcases e with e|e;exact hj e.symm;omega) O h
def rdr(kv:ix)(l:List UInt8)(a op bad e:Int):Array ix:=#[.string (bs l),nI a,kv,nI op,nI bad,nI e]
variable{kv:ix}
theorem BlkO.rAt{O:Nat->Nat}{w:ka}{j rb:Nat}{l:List UInt8}{a op bad e:Int}{E:ln}(h:BlkO O w j rb (rdr kv l a op bad e) E)(a':Int):BlkO O (w.setCell ⟨rb,1,none⟩ (nI a')) j rb (rdr kv l a' op bad e) E:=h.set 1 _
theorem BlkO.rOp{O:Nat->Nat}{w:ka}{j rb:Nat}{l:List UInt8}{a op bad e:Int}{E:ln}(h:BlkO O w j rb (rdr kv l a op bad e) E)(a':Int):BlkO O (w.setCell ⟨rb,3,none⟩ (nI a')) j rb (rdr kv l a a' bad e) E:=h.set 3 _
theorem BlkO.rBad{O:Nat->Nat}{w:ka}{j rb:Nat}{l:List UInt8}{a op bad e:Int}{E:ln}(h:BlkO O w j rb (rdr kv l a op bad e) E)(a':Int):BlkO O (w.setCell ⟨rb,4,none⟩ (nI a')) j rb (rdr kv l a op a' e) E:=h.set 4 _
theorem BlkO.rE{O:Nat->Nat}{w:ka}{j rb:Nat}{l:List UInt8}{a op bad e:Int}{E:ln}(h:BlkO O w j rb (rdr kv l a op bad e) E)(a':Int):BlkO O (w.setCell ⟨rb,5,none⟩ (nI a')) j rb (rdr kv l a op bad a') E:=h.set 5 _
theorem BlkO.r0{O:Nat->Nat}{w:ka}{j rb:Nat}{l:List UInt8}{a op bad e:Int}{E:ln}(h:BlkO O w j rb (rdr kv l a op bad e) E):w.cell? ⟨rb,0,none⟩=some (.string (bs l)):=h.cell 0 rfl
theorem BlkO.r1{O:Nat->Nat}{w:ka}{j rb:Nat}{l:List UInt8}{a op bad e:Int}{E:ln}(h:BlkO O w j rb (rdr kv l a op bad e) E):w.cell? ⟨rb,1,none⟩=some (nI a):=h.cell 1 rfl
theorem BlkO.r2{O:Nat->Nat}{w:ka}{j rb:Nat}{l:List UInt8}{a op bad e:Int}{E:ln}(h:BlkO O w j rb (rdr kv l a op bad e) E):w.cell? ⟨rb,2,none⟩=some kv:=h.cell 2 rfl
theorem BlkO.r3{O:Nat->Nat}{w:ka}{j rb:Nat}{l:List UInt8}{a op bad e:Int}{E:ln}(h:BlkO O w j rb (rdr kv l a op bad e) E):w.cell? ⟨rb,3,none⟩=some (nI op):=h.cell 3 rfl
theorem BlkO.r4{O:Nat->Nat}{w:ka}{j rb:Nat}{l:List UInt8}{a op bad e:Int}{E:ln}(h:BlkO O w j rb (rdr kv l a op bad e) E):w.cell? ⟨rb,4,none⟩=some (nI bad):=h.cell 4 rfl
theorem BlkO.r5{O:Nat->Nat}{w:ka}{j rb:Nat}{l:List UInt8}{a op bad e:Int}{E:ln}(h:BlkO O w j rb (rdr kv l a op bad e) E):w.cell? ⟨rb,5,none⟩=some (nI e):=h.cell 5 rfl
end Go.VL
namespace Go.Proofs.YtpfpmhhigheccaaGreatDoor
open Go.Proofs.Tryz
open Go.VL Go.Proofs
set_option maxRecDepth 10000
abbrev Rdr(kv:ix)(O:Nat->Nat)(w:ka)(j rb:Nat)(l:List UInt8)(a op bad e:Int):Prop:=BlkO O w j rb (rdr kv l a op bad e) 237
variable{kv:ix}
theorem mG{l r:List UInt8}{b:UInt8}(h:(b::r) <:+ l):l[l.length-(r.length+1)]? = some b:=by
 obtain⟨p,rfl⟩:=h;rw[KH (by simp)];simp
theorem yY{l a b:List UInt8}(h:(a++b) <:+ l):(l.take (l.length-b.length)).drop (l.length-(a++b).length)=a:=by
 obtain⟨p,rfl⟩:=h;rw[<-Kh,List.take_left' (by simp;omega),List.drop_left' (by simp)]
theorem nz(b:UInt8)(k:Nat)(hk:k<256):((b.toNat:Int)==(k:Int))=decide (b=KW k):=by
 by_cases h:b=KW k
 ·subst h;simp;omega
 have:b.toNat≠k:=fun e=>h (by rw[<-e];simp)
 simp[h];omega
theorem iE(c:UInt8)(w:ka):Ret I3 202 [.int .u8 (c.toNat:Int)] w fun v w'=>v=.bool (ak c)/\w'=w:=by
 refine Ret.enter func202 ntmps202 rfl rfl ?_;refine zh ?_
 by_cases h1:65<=c.toNat
 ·refine au (d:=5) rfl (b':=true) (decide_eq_true zo) ?_;refine zh ?_
  by_cases h2:c.toNat<=90
  ·refine au (d:=9) rfl (b':=true) (decide_eq_true zo) ?_;refine zh ?_
   refine af rfl rfl (⟨by simp[ak,h1,h2],rfl⟩)
  refine au (d:=9) rfl (b':=false) (decide_eq_false zo) ?_;refine zh ?_
  by_cases h3:97<=c.toNat
  ·refine au (d:=12) rfl (b':=true) (decide_eq_true zo) ?_;refine zh ?_
   have e:decide ((c.toNat:Int)<=122)=decide (c.toNat<=122):=decide_eq_decide.2 zo;refine af rfl rfl (⟨by rw[e];simp[ak,h1,h2,h3],rfl⟩)
  refine au (d:=12) rfl (b':=false) (decide_eq_false zo) ?_;refine zh ?_
  refine af rfl rfl (⟨by simp[ak,h1,h2,h3],rfl⟩)
 refine au (d:=5) rfl (b':=false) (decide_eq_false zo) ?_;refine zh ?_
 refine au (d:=12) rfl (b':=false) (decide_eq_false zo) ?_;refine zh ?_
 have h3:¬97<=c.toNat:=zo;refine af rfl rfl (⟨by simp[ak,h1,h3],rfl⟩)
theorem ye(O:Nat->Nat)(w:ka)(j rb:Nat)(l r:List UInt8)(op bad e:Int)(hj:j≠0)(hr:r <:+ l)(hl:l.length<=100000)(h:Rdr kv O w j rb l ((l.length:Int)-(r.length:Int)) op bad e):
  Ret I3 168 [nP rb] w fun _ w'=>Rdr kv O w' j rb l ((l.length:Int)-((aq r).length:Int)) op bad e/\Upd (fun k=>k=j) O w O w':=by
 have hz:¬(fun k:Nat=>k=j) 0:=fun e=>hj e.symm
 refine Ret.enter func168 ntmps168 rfl rfl ?_;refine zh ?_
 refine zlp (fun x:List UInt8×ka=>[(0,nP rb)]) (fun x=>x.2) (fun x=>x.1 <:+ l/\aq x.1=aq r/\Rdr kv O x.2 j rb l ((l.length:Int)-(x.1.length:Int)) op bad e/\Upd (fun k=>k=j) O w O x.2) (fun x=>x.1.length) (r,w) (⟨hr,rfl,h,Upd.refl hz _ _⟩) ?_;rintro⟨r1,w1⟩ ⟨a2,a1,a4,a3⟩;dsimp only at a2 a1 a4 a3 ⊢;have a0:=a4.drew;have a6:=a2.length_le;refine zh ?_
 refine WC.still zk zk ?_;refine zh ?_
 refine zwH (RV.ld a0.r1 rfl) ?_;refine zw (RV.ld a0.r0 rfl) ?_
 refine zwH (bZ Jt rfl) ?_
 cases r1 with
 |nil=>
  refine cy (d:=12) rfl (b':=false) (decide_eq_false (by simp)) ?_;refine zh ?_
  refine zw (bq rfl rfl) ?_;refine WS.nil ?_
  refine zh ?_;refine zFH rfl rfl ?_
  refine aG rfl (⟨by rw[<-a1];exact a0,a3.drew⟩)
 |cons b r2=>
  simp only[IR]at a6 a0;refine cy (d:=12) rfl (b':=true) (decide_eq_true (by simp only[IR];omega)) ?_;refine zh ?_;refine zwH (RV.ld a0.r0 rfl) ?_;refine zwH (RV.ld a0.r1 rfl) ?_;refine zwH (bh (c:=b) Jt rfl rfl (l.length-(r2.length+1)) zo (mG a2)) ?_;refine zw (bp rfl rfl) ?_;refine WS.nil ?_;refine zh ?_;refine zC ?_ ?_
  ·intro hb;replace hb:b=32:=by rw[show(32:Int)=((32:Nat):Int)from rfl,nz b 32 zd]at hb;simpa using hb
   subst hb;refine zh ?_;refine zvH (RV.ld a0.r1 rfl) ?_;refine aj (j:=1) a0 rfl (IS _) rfl rfl rfl rfl ?_;rw[show((l.length:Int)-((r2.length+1:Nat):Int))+1=(l.length:Int)-(r2.length:Int)from by omega];have a7:=a0.rAt ((l.length:Int)-(r2.length:Int));have a8:Upd (fun k=>k=j) O w1.drew O (w1.drew.setCell ⟨rb,1,none⟩ (nI ((l.length:Int)-(r2.length:Int)))):=Upd.set hz a0.tag rfl;refine zh ?_;refine zx (r2,w1.drew.setCell ⟨rb,1,none⟩ (nI ((l.length:Int)-(r2.length:Int)))) (⟨(JP _ _).trans a2,by rw[<-a1];simp[aq],a7,a3.drew.trans a8⟩) (by dsimp only;simp)
  intro hb;replace hb:b≠32:=by rw[show(32:Int)=((32:Nat):Int)from rfl,nz b 32 zd]at hb;simpa using hb
  have a5:aq (b::r2)=b::r2:=by simp[aq,hb]
  refine zh ?_;refine aG rfl (⟨by rw[<-a1,a5];exact a0,a3.drew⟩)
theorem vJ{l r:List UInt8}(hr:r <:+ l)(h:r≠[]):l[l.length-r.length]? = some (r.headD 0):=by
 cases r with
 |nil=>exact absurd rfl h
 |cons b r=>exact mG hr
theorem fN(O:Nat → Nat)(w:ka)(j rb:Nat)(l r:List UInt8)(op bad e:Int)(hj:j ≠ 0)(hr:r <:+ l)(hl:l.length ≤ 100000)(h:Rdr kv O w j rb l ((l.length:Int) - (r.length:Int)) op bad e):
    Ret I3 153 [.pointer (some ⟨rb, 0, none⟩)] w fun v w' => v = .int .u8 (((aq r).headD 0).toNat:Int) ∧ Rdr kv O w' j rb l ((l.length:Int) - ((aq r).length:Int)) op bad e ∧ Upd (fun k => k = j) O w O w' := by
  refine Ret.enter func153 ntmps153 rfl rfl ?_
  refine zh ?_
  refine zc call168 (ye O w j rb l r op bad e hj hr hl h) ?_
  rintro v w1 ⟨hb1, hU1⟩
  have hs := (aX r).trans hr
  have hsl := hs.length_le
  generalize aq r = q at *
  have hb2 := hb1.drew
  refine zh ?_
  refine WC.still (by kernel_rfl) (by kernel_rfl) ?_
  refine zh ?_
  refine zwH (RV.ld hb2.r1 rfl) ?_
  refine zw (RV.ld hb2.r0 rfl) ?_
  refine zwH (bZ Jt rfl) ?_
  refine WS.nil ?_
  refine zh ?_
  refine zC ?_ ?_
  · intro he
    replace he : q = [] := List.eq_nil_of_length_eq_zero (by have : (l.length : Int) - (q.length : Int) = l.length := by simpa using he
                                                             omega)
    subst he
    refine zh ?_
    refine af rfl rfl (⟨rfl, hb2, hU1.drew⟩)
  · intro he
    replace he:q ≠ [] := fun e => by subst e; simp at he
    have hb3 := hb2.drew
    refine zh ?_
    refine WC.still (by kernel_rfl) (by kernel_rfl) ?_
    refine zh ?_
    refine zwH (RV.ld hb3.r0 rfl) ?_
    refine zw (RV.ld hb3.r1 rfl) ?_
    refine zwH (bh (c := q.headD 0) Jt rfl rfl (l.length - q.length) (by omega) (vJ hs he)) ?_
    refine WS.nil ?_
    refine zh ?_
    refine af rfl rfl (⟨rfl, hb3, hU1.drew.drew⟩)
theorem vB(O:Nat->Nat)(w:ka)(j rb:Nat)(l r:List UInt8)(op bad e:Int)(hj:j≠0)(hr:r <:+ l)(hl:l.length<=100000)(h:Rdr kv O w j rb l ((l.length:Int)-(r.length:Int)) op bad e):
  Ret I3 209 [nP rb] w fun v w'=>v=.string (bs (r.takeWhile ak))/\Rdr kv O w' j rb l ((l.length:Int)-((r.dropWhile ak).length:Int)) op bad e/\Upd (fun k=>k=j) O w O w':=by
 have hz:¬(fun k:Nat=>k=j) 0:=fun e=>hj e.symm
 refine Ret.enter func209 ntmps209 rfl rfl ?_;refine zh ?_
 refine zvH (RV.ld h.r1 rfl) ?_;refine zlp (fun x:List UInt8×ka=>[(0,nP rb),(3,nI ((l.length:Int)-(r.length:Int)))]) (fun x=>x.2) (fun x=>x.1 <:+ l/\x.1.dropWhile ak=r.dropWhile ak/\Rdr kv O x.2 j rb l ((l.length:Int)-(x.1.length:Int)) op bad e/\Upd (fun k=>k=j) O w O x.2) (fun x=>x.1.length) (r,w) (⟨hr,rfl,h,Upd.refl hz _ _⟩) ?_
 rintro⟨r1,w1⟩ ⟨a4,a3,a6,a5⟩;dsimp only at a4 a3 a6 a5 ⊢;have a0:=a6.drew;have a9:=a4.length_le;have a8:=hr.length_le;have a2:r1=r.dropWhile ak->(l.take (l.length-r1.length)).drop (l.length-r.length)=r.takeWhile ak:=fun e=>by
  have:=yY (l:=l) (a:=r.takeWhile ak) (b:=r.dropWhile ak) (by rw[Kk];exact hr);rw[Kk,<-e]at this;exact this
 have a':r1.length<=r.length\/r1≠r.dropWhile ak:=by
  by_cases e:r1=r.dropWhile ak
  ·left;rw[e];exact(Jg _).length_le
  right;exact e
 refine zh ?_;refine WC.still zk zk ?_
 refine zh ?_;refine zwH (RV.ld a0.r1 rfl) ?_
 refine zw (RV.ld a0.r0 rfl) ?_;refine zwH (bZ Jt rfl) ?_
 cases r1 with
 |nil=>
  have a1:=a0.drew;have hd:[]=r.dropWhile ak:=by rw[<-a3];rfl
  have h1:=a2 hd;refine cy (d:=18) rfl (b':=false) (decide_eq_false (by simp)) ?_;refine zh ?_;refine zw (bq rfl rfl) ?_;refine WS.nil ?_;refine zh ?_;refine zFH rfl rfl ?_;refine WC.still zk zk ?_;refine zh ?_;refine zwH (RV.ld a1.r0 rfl) ?_;refine zw (RV.ld a1.r1 rfl) ?_;refine zwH (cQ Jt rfl rfl rfl (l.length-r.length) (l.length-0) zo (by simp) zo zo) ?_;refine WS.nil ?_;refine zh ?_;simp only[LH]at h1;refine af rfl rfl (⟨by rw[h1],by rw[<-hd];exact a1,a5.drew.drew⟩)
 |cons b r2=>
  simp only[IR]at a9 a0;refine cy (d:=18) rfl (b':=true) (decide_eq_true (by simp only[IR];omega)) ?_;refine zh ?_;refine zwH (RV.ld a0.r0 rfl) ?_;refine zwH (RV.ld a0.r1 rfl) ?_;refine zwH (bh (c:=b) Jt rfl rfl (l.length-(r2.length+1)) zo (mG a4)) ?_;refine WS.call call202 rfl (iE b w1.drew) rfl ?_;refine zw (bp rfl rfl) ?_;refine WS.nil ?_;refine zh ?_;refine zC ?_ ?_
  ·intro hb;replace hb:ak b=true:=hb;refine zh ?_;refine zvH (RV.ld a0.r1 rfl) ?_;refine aj (j:=1) a0 rfl (IS _) rfl rfl rfl rfl ?_;rw[show((l.length:Int)-((r2.length+1:Nat):Int))+1=(l.length:Int)-(r2.length:Int)from by omega];have a1:=a0.rAt ((l.length:Int)-(r2.length:Int));have b0:Upd (fun k=>k=j) O w1.drew O (w1.drew.setCell ⟨rb,1,none⟩ (nI ((l.length:Int)-(r2.length:Int)))):=Upd.set hz a0.tag rfl;refine zh ?_;refine zx (r2,w1.drew.setCell ⟨rb,1,none⟩ (nI ((l.length:Int)-(r2.length:Int)))) (⟨(JP _ _).trans a4,by rw[<-a3,KI hb],a1,a5.drew.trans b0⟩) (by dsimp only;simp)
  intro hb;replace hb:ak b=false:=hb;have a7:(b::r2).dropWhile ak=b::r2:=List.dropWhile_cons_of_neg (by rw[hb];decide);have hd:b::r2=r.dropWhile ak:=by rw[<-a3,a7]
  have h1:=a2 hd;have h2:=a'.resolve_right (fun e=>e hd);simp only[IR]at h1 h2;have a1:=a0.drew;refine zh ?_;refine WC.still zk zk ?_;refine zh ?_;refine zwH (RV.ld a1.r0 rfl) ?_;refine zw (RV.ld a1.r1 rfl) ?_;refine zwH (cQ Jt rfl rfl rfl (l.length-r.length) (l.length-(r2.length+1)) zo zo zo zo) ?_;refine WS.nil ?_;refine zh ?_;refine af rfl rfl (⟨by rw[h1],by rw[<-hd];exact a1,a5.drew.drew⟩)
theorem vq:cB I3 86 #[(0,1),(1,1),(2,1)]:=⟨_,Ku,fun w=>by kernel_rfl⟩
theorem gd(B:Nat)(O:Nat->Nat)(w:ka)(j rb:Nat)(l:List UInt8)(a op bad p e:Int)(hj:j≠0)(hR:Rng B O w)(h:Rdr kv O w j rb l a op bad 0):
  Ret I3 154 [nP rb,nI p,nI e] w fun v w'=>v=.agg #[nI 0,nI 0,nS]/\Rdr kv O w' j rb l a op p e/\Upd (fun k=>k=j) O w O w':=by
 obtain⟨T,a4,hT⟩:=hR.bound;have b3:j<T:=by rw[<-h.tag];exact hT rb
 refine Ret.enter func154 ntmps154 rfl rfl ?_;refine zh ?_
 refine ar hR T zo (Jk _) rfl ?_;intro xb w1 O1 a8 a6 b4 b5;have a1:=h.upd a6 hj zo;refine zh ?_
 refine zvH (RV.ld a1.r5 rfl) ?_;refine zTH rfl rfl ?_
 refine aj (j:=4) a1 rfl (IS _) rfl rfl rfl rfl ?_;have a3:=a1.rBad p;have b2:Upd (fun k=>k=j) O1 w1 O1 (w1.setCell ⟨rb,4,none⟩ (nI p)):=Upd.set (fun e=>hj e.symm) a1.tag rfl;refine zh ?_
 refine aj (j:=5) a3 rfl (Mf _) rfl rfl rfl rfl ?_;have a':=a3.rE e;have b1:Upd (fun k=>k=j) O1 (w1.setCell ⟨rb,4,none⟩ (nI p)) O1 ((w1.setCell ⟨rb,4,none⟩ (nI p)).setCell ⟨rb,5,none⟩ (nI e)):=Upd.set (fun e=>hj e.symm) a3.tag rfl;have a0:=b2.trans b1;have a2:=a8.upd a0 zo zo;generalize (w1.setCell ⟨rb,4,none⟩ (nI p)).setCell ⟨rb,5,none⟩ (nI e)=w3 at *;refine zh ?_
 refine zv (aE vq (Jk _) rfl (by first|rfl|(simp only[JB,KT];rfl)) rfl rfl) ?_;refine zsa (us:=#[nI 0,nI 0,nS]) a2 (IL _) ?_
 have a7:=a2.setRow (us:=#[nI 0,nI 0,nS]);have a5:Upd (fun k=>k=T) O1 w3 O1 (w3.setRow xb #[nI 0,nI 0,nS]):=Upd.setRow zo a2.tag rfl;have a9:=a'.upd a5 hj zo;have b0:=((a6.pT hj a4 (ID _)).trans (a0.pj a4)).trans (a5.pT hj a4 (ID _));refine zh ?_;refine aJ rfl rfl (a7.cellsAdd) (Jq _) (IL _) (⟨rfl,a9.fgt h.tag,b0.priv hT hj⟩)
end Go.Proofs.YtpfpmhhigheccaaGreatDoor
end
namespace Go.Proofs.YtpfpmhhigheccaaGreatDoor
open Go.Proofs.Tryz
section
open Go.VL Go.Proofs
set_option maxRecDepth 10000
def rf(l:List UInt8)(c:UInt8):Int:=match l.findIdx? (· == c)with|some i=>(i:Nat)|none=>-1
theorem uF(l:List UInt8)(c:UInt8):firstIdx (bs l) c=rf l c:=by
 have a0:∀i,i<l.length->(bs l)[i]! = nth l i:=fun i hi=>by
  rw[aB hi,getElem!_pos (bs l) i (by rw[cW];exact hi)];show l.toArray[i]=l[i];simp
 unfold firstIdx rf;rw[cW]
 cases hf:l.findIdx? (· == c)with
 |none=>
  have h:=KJ.1 hf;have:(Ji l.length).find? (fun i=>(bs l)[i]! == c)=none:=by
   rw[K9];intro i hi;have a1:i<l.length:=by simpa using hi
   rw[a0 i a1,aB a1,h _ (Jv a1)];decide
  rw[this]
 |some i=>
  obtain⟨hi,h1,h2⟩:=Kc.1 hf;have:(Ji l.length).find? (fun i=>(bs l)[i]! == c)=some i:=by
   rw[List.find?_eq_some_iff_getElem];refine⟨by rw[a0 i hi,aB hi];exact h1,i,by simpa using hi,by simp,fun j hj=>?_⟩;have:=h2 j hj;simp only[Ld];rw[a0 j zo,aB zo];simpa using this
  rw[this]
theorem ou(l:List UInt8)(c:UInt8)(w:ka):(callFunc 129 #[.string (bs l),.int .u8 (c.toNat:Int)]).run I3 w=.ok (.value (nI (rf l c))) w:=by
 rw[run_callFunc_extern func129 zk zk zk (e:=L0) zk,run_indexByte_string,uF];simp[Result.andThen]
theorem pW(l:List UInt8)(c:UInt8)(w:ka):Ret I3 102 [.string (bs l),.int .u8 (c.toNat:Int)] w fun v w'=>v=nI (rf l c)/\w'=w:=by
 refine Ret.enter func102 ntmps102 rfl rfl ?_;refine zh ?_
 refine zvH (RV.ext (vs:=[.string (bs l),.int .u8 (c.toNat:Int)]) (ou l c w) rfl) ?_;refine af rfl rfl (⟨rfl,rfl⟩)
theorem dp(l:List UInt8)(c:UInt8)(w:ka):Ret I3 72 [.string (bs l),.int .u8 (c.toNat:Int)] w fun v w'=>v=nI (rf l c)/\w'=w:=by
 refine Ret.enter func72 ntmps72 rfl rfl ?_;refine zh ?_
 refine zc call102 (pW l c w) ?_;rintro v _ ⟨rfl,rfl⟩;refine zh ?_
 refine af rfl rfl (⟨rfl,rfl⟩)
@[simp] def encS(x:List UInt8):List ix:=[.string (bs x)]
def FX(l:List (List UInt8))(s:List UInt8):Int:=match l.findIdx? (· == s)with|some i=>(i:Nat)|none=>-1
theorem lR(l:List (List UInt8))(s:List UInt8)(sv:ix)(w:ka)(h:Sl encS 1 w sv l):Ret I3 157 [sv,.string (bs s)] w fun v w'=>v=nI (FX l s)/\w'=w:=by
 have hl:=h.len_le;refine Ret.enter func157 ntmps157 rfl rfl ?_;refine zh ?_;refine zlp (fun x:Nat=>[(0,sv),(1,.string (bs s)),(7,nI l.length),(8,nI x)]) (fun x=>w) (fun x=>x<=l.length/\∀i,i<x->(nth l i==s)=false) (fun x=>l.length-x) 0 (⟨J7 _,fun i hi=>absurd hi (Kx i)⟩) ?_;rintro k ⟨hk,a1⟩;refine zh ?_;refine zC ?_ ?_
 ·intro a0;replace a0:k<l.length:=dT a0;refine zh ?_;refine zv (RV.ld (h.ld (val:=fun x=>.string (bs x)) a0) rfl) ?_;refine zvH (cH rfl rfl) ?_;refine zC ?_ ?_
  ·intro hy;replace hy:s=nth l k:=by simpa using hy
   have hf:l.findIdx? (· == s)=some k:=Kc.2 ⟨a0,by rw[<-aB a0,hy];simp,fun j hj=>by rw[<-aB zo,a1 j hj];decide⟩;refine zh ?_;refine af rfl rfl (⟨by unfold FX;rw[hf],rfl⟩)
  intro hy;replace hy:(nth l k==s)=false:=by
   rw[Lt];intro e;rw[eq_of_beq e]at hy;simp at hy
  refine zh ?_;refine zxd (k+1) (⟨a0,fun i hi=>(KN.1 hi).elim (a1 i) (fun e=>by rw[e];exact hy)⟩)
 intro a2;replace a2:l.length<=k:=dF a2;have hf:l.findIdx? (· == s)=none:=KJ.2 fun x hx=>by
  obtain⟨j,hj,rfl⟩:=IC hx;exact a1 j zo
 refine zh ?_;refine af rfl rfl (⟨by unfold FX;rw[hf],rfl⟩)
def gO:Array ix:=(namesL.map fun s=>Ka (bs s)).toArray
theorem uj{O:Nat->Nat}{w:ka}{j b:Nat}(h:BlkO O w j b gO 241):Sl encS 1 w (.slice (some ⟨b,0,none⟩) 36 36) namesL:=by
 refine⟨⟨_,36,rfl,ID _,zd,fun _=>⟨_,_,rfl⟩⟩,fun i hi j u hu=>?_⟩;obtain rfl:j=0:=by
  have:=(IH.1 hu).1;simpa using this
 have a0:Ka (bs namesL[i])=u:=by simpa using hu
 have:=h.cell i (u:=u) (by rw[<-a0];unfold gO;simp[hi]);have e:((adr (.slice (some ⟨b,0,none⟩) 36 36) 1 i).add 0)=⟨b,i,none⟩:=by simp[adr,IQ]
 exact(congrArg w.cell? e).trans this
theorem zW(w:ka):Ret I3 156 [] w fun v w'=>v=.agg gO/\Ext w w':=by
 refine Ret.enter func156 ntmps156 rfl rfl ?_;refine zh ?_
 refine ar (aw w) 1 zo (Li _) rfl ?_;intro xb w1 O1 a0 a2 a4 a5;refine zh ?_
 refine zv (dG (cells:=gO) Mh (KR _) (Li _) rfl zk) ?_;refine aZ (us:=gO) a0 zk (M5 _) zk rfl rfl rfl ?_
 have a1:=a0.setRow (us:=gO);have a3:Ext w (w1.setRow xb gO):=(a2.trans (Upd.setRow zd a0.tag rfl)).ext;refine zh ?_;refine aJ rfl rfl (a1.cellsAdd) (isAgg241 _) (M5 _) (⟨rfl,a3⟩)
def CT(s:List UInt8):Int:=match zP s with|some c=>(c:Nat)|none=>0
theorem iD(s:List UInt8)(w:ka):Ret I3 133 [.string (bs s)] w fun v w'=>v=.tuple #[nI (CT s),.bool (zP s).isSome]/\Ext w w':=by
 refine Ret.enter func133 ntmps133 rfl rfl ?_;refine zh ?_
 refine zc call156 (zW w) ?_;rintro v w1 ⟨rfl,a5⟩;refine ar (aw w1) 1 zo (Li _) rfl ?_
 intro xb w2 O2 a0 a3 a6 a7;refine aZ (us:=gO) a0 zk (M5 _) zk rfl rfl rfl ?_;have a1:=a0.setRow (us:=gO);have a4:Ext w1 (w2.setRow xb gO):=(a3.trans (Upd.setRow zd a0.tag rfl)).ext;have a2:=uj a1;generalize w2.setRow xb gO=w3 at *;refine zh ?_;refine zvH (uX Mh (KR _) zd rfl) ?_;refine zc call157 (lR namesL s _ w3 a2) ?_;rintro v _ ⟨rfl,rfl⟩;refine zh ?_;refine zvH (jF rfl rfl) ?_;have h:FX namesL s=match zP s with|some c=>(c:Nat)|none=>-1:=rfl
 refine bB rfl rfl rfl (⟨?_,a5.trans a4⟩);rw[h];unfold CT
 cases zP s with
 |none=>rfl
 |some c=>simp
def nv(x:N3):ix:=.agg #[nI x.1,nI x.2.1,x.2.2]
def PostE(kv:ix)(O:Nat->Nat)(w:ka)(j rb:Nat)(l:List UInt8)(op:Int)(x:N3):PR->Prop
 |.ok t r=>Rdr kv O w j rb l ((l.length:Int)-(r.length:Int)) op 0 0/\Nt O w t x
 |.bad p e=>x.2.2.oneCell'=true/\∃a op',Rdr kv O w j rb l a op' ((l.length:Int)-(p:Int)) e/\0<=a/\a<=l.length+20-op/\op<=op'/\op'<=20
abbrev M3:=List UInt8×N3
def kS(m:M3):List ix:=[.string (bs m.1),nI m.2.1,nI m.2.2.1,m.2.2.2]
abbrev Kn:=List (List UInt8×Nd)
def KnownM(O:Nat->Nat)(w:ka)(kv:ix)(kn:Kn)(ms:List M3):Prop:=
 Sl kS 4 w kv ms/\Free O w kv/\kn.length=ms.length/\∀i,i<ms.length->(nth kn i).1=(nth ms i).1/\Nt O w (nth kn i).2 (nth ms i).2
def Known(O:Nat->Nat)(w:ka)(kv:ix)(kn:Kn):Prop:=∃ms:List M3,KnownM O w kv kn ms
theorem KnownM.upd{S:Nat->Prop}{O O':Nat->Nat}{w w':ka}{kv:ix}{kn:Kn}{ms:List M3}(h:KnownM O w kv kn ms)(u:Upd S O w O' w'):KnownM O' w' kv kn ms:=by
 obtain⟨h1,h2,h3,h4⟩:=h;exact⟨h1.upd h2 u,h2.upd u,h3,fun i hi=>⟨(h4 i hi).1,(h4 i hi).2.upd u⟩⟩
theorem Known.upd{S:Nat->Prop}{O O':Nat->Nat}{w w':ka}{kv:ix}{kn:Kn}(h:Known O w kv kn)(u:Upd S O w O' w'):Known O' w' kv kn:=by
 obtain⟨ms,h⟩:=h;exact⟨ms,h.upd u⟩
variable{kv:ix}{kn:Kn}
theorem bW{x:N3}(h:x.2.2.oneCell'=true):(#[nI x.1,nI x.2.1,x.2.2]:Array ix).toList.all J3=true:=by
 simp only[JB,h];rfl
theorem elN:Elem I3 84 86 3 40:=⟨Kv,by kernel_rfl,zd⟩
theorem gW{x:N3}(h:x.2.2.oneCell'=true):∀c∈aW x,c.oneCell'=true:=fun c hc=>by
 simp at hc
 rcases hc with rfl|rfl|rfl
 ·rfl
 ·rfl
 exact h
def Reads(kv:ix)(kn:Kn)(F:Nat)(ex:List ix)(op:Int)(M:List UInt8->PR)(Pre:List UInt8->Prop):Prop:=
 ∀(B:Nat) (O:Nat->Nat) (j rb:Nat) (l r:List UInt8) (w:ka),Rng B O w->j≠0->r <:+ l->l.length<=4096->Pre r->Rdr kv O w j rb l ((l.length:Int)-(r.length:Int)) op 0 0->Known O w kv kn->
  Ret I3 F (nP rb::ex) w fun v w'=>∃x,v=nv x/\Upd (fun k=>k=j) O w O w'/\PostE kv O w' j rb l op x (M r)
theorem sT(kind op:Int)(d1:0<=op/\op<=20):Reads kv kn 207 [nI kind] op (dy kind) (fun _=>True):=by
 intro B O j rb l r w hR hj hr hl _ h _;obtain⟨T,a0,hT⟩:=hR.bound;have d2:j<T:=by rw[<-h.tag];exact hT rb
 have hq:=(aX r).trans hr;have d0:=hq.length_le;refine Ret.enter func207 ntmps207 rfl rfl ?_;refine zh ?_;refine ar hR T zo (Jk _) rfl ?_;intro xb w1 O1 b' b5 c' d3;have c7:=h.upd b5 hj zo;refine zh ?_;refine zc call153 (fN O1 w1 j rb l r op 0 0 hj hr zo c7) ?_;rintro v w2 ⟨rfl,a6,b0⟩;have b1:=b'.upd b0 zo zo;have b6:=c'.upd b0;have b3:=(b5.pT hj a0 (ID _)).trans (b0.pj a0);refine zc call202 (iE ((aq r).headD 0) w2) ?_;rintro v _ ⟨rfl,rfl⟩;refine zh ?_
 cases hc:ak ((aq r).headD 0)with
 |false=>
  have hM:dy kind r=.bad (aq r).length 4:=by unfold dy;rw[if_neg (by rw[hc];decide)]
  refine zTH rfl rfl ?_;refine zv (RV.ld a6.r1 rfl) ?_
  refine zc call154 (gd _ O1 _ j rb l _ _ 0 ((l.length:Int)-((aq r).length:Int)) 4 hj b6 a6) ?_;rintro v wf ⟨rfl,a8,a4⟩;have a1:=b1.upd a4 zo zo;refine zsa (us:=#[nI 0,nI 0,nS]) a1 (IL _) ?_
  have a7:=a1.setRow (us:=#[nI 0,nI 0,nS]);have a3:Upd (fun k=>k=T) O1 wf O1 (wf.setRow xb #[nI 0,nI 0,nS]):=Upd.setRow zo a1.tag rfl;have hbg:=a8.upd a3 hj zo;refine zh ?_;refine aJ rfl rfl (a7.cellsAdd) (Jq _) (IL _) (⟨(0,0,nS),rfl,((b3.trans (a4.pj a0)).trans (a3.pT hj a0 (ID _))).priv hT hj,?_⟩);rw[hM];exact⟨rfl,_,op,hbg.fgt h.tag,zo,zo,zo,zo⟩
 |true=>
  refine zFH rfl rfl ?_;refine zvH (RV.ld a6.r1 rfl) ?_
  refine zc call209 (vB O1 _ j rb l (aq r) op 0 0 hj hq zo a6) ?_;rintro v w3 ⟨rfl,c6,a'⟩;have b9:=b1.upd a' zo zo;have c9:=b6.upd a';refine zc call133 (iD ((aq r).takeWhile ak) w3) ?_
  rintro v w4 ⟨rfl,b7⟩;have a9:Upd (fun _=>False) O1 w3 O1 w4:=aa (fun h=>h) O1 b7;have b2:=c6.upd a9 hj (fun h=>h);have a5:=b9.upd a9 zo (fun h=>h);have c8:=c9.upd a9;have a2:=(b3.trans (a'.pj a0)).trans (jh O1 b7 hj a0);refine zh ?_
  cases hn:zP ((aq r).takeWhile ak)with
  |none=>
   have hM:dy kind r=.bad (aq r).length 5:=by unfold dy;rw[if_pos hc,hn]
   refine zTH rfl rfl ?_;refine zc call154 (gd _ O1 _ j rb l _ _ 0 ((l.length:Int)-((aq r).length:Int)) 5 hj c8 b2) ?_
   rintro v wf ⟨rfl,a8,a4⟩;have a1:=a5.upd a4 zo zo;refine zsa (us:=#[nI 0,nI 0,nS]) a1 (IL _) ?_;have a7:=a1.setRow (us:=#[nI 0,nI 0,nS]);have a3:Upd (fun k=>k=T) O1 wf O1 (wf.setRow xb #[nI 0,nI 0,nS]):=Upd.setRow zo a1.tag rfl;have hbg:=a8.upd a3 hj zo;refine zh ?_;refine aJ rfl rfl (a7.cellsAdd) (Jq _) (IL _) (⟨(0,0,nS),rfl,((a2.trans (a4.pj a0)).trans (a3.pT hj a0 (ID _))).priv hT hj,?_⟩);rw[hM];exact⟨rfl,_,op,hbg.fgt h.tag,by have:=(Jg (l:=aq r) ak).length_le;omega,zo,zo,zo⟩
  |some c=>
   have hM:dy kind r=.ok (.mk kind (c:Nat) []) ((aq r).dropWhile ak):=by unfold dy;rw[if_pos hc,hn]
   have hv:CT ((aq r).takeWhile ak)=(c:Nat):=by unfold CT;rw[hn]
   rw[hv];refine zFH rfl rfl ?_;refine zv (aE vq (Jk _) rfl (by first|rfl|(simp only[JB,KT];rfl)) rfl rfl) ?_;refine zsa (us:=#[nI kind,nI (c:Nat),nS]) a5 (IL _) ?_;have b8:=a5.setRow (us:=#[nI kind,nI (c:Nat),nS]);have b4:Upd (fun k=>k=T) O1 w4 O1 (w4.setRow xb #[nI kind,nI (c:Nat),nS]):=Upd.setRow zo a5.tag rfl;have c5:=b2.upd b4 hj zo;refine zh ?_;refine aJ rfl rfl (b8.cellsAdd) (Jq _) (IL _) (⟨(kind,(c:Nat),nS),rfl,(a2.trans (b4.pT hj a0 (ID _))).priv hT hj,?_⟩);rw[hM];exact⟨c5.fgt h.tag,Nt.leaf _ _ _ _⟩
end
section
open Go.VL Go.Proofs
set_option maxRecDepth 10000
theorem pX:∀(n:Nat) (t:Nd),nsz t<=n->∀(x:N3) (w:ka) (fE:Nat),Nt (fun _=>0) w t x->fE<=1000000->Ret I3 108 [nv x,nI (fE:Int)] w fun v w'=>v=nI ((min (nsz t) (fE+1):Nat):Int)/\Ext w w'
 |0,t,hn=>by have:=dD t;omega
 |n+1,.mk k c kids,hn=>by
  intro x w fE h hm;obtain⟨xs,hs,hf,hl,hk⟩:=h.kids;simp only[Nd.kids]at hl hk;have b9:=eH kids;simp only[nsz]at hn ⊢;have b1:=hs.len_le;refine Ret.enter func108 ntmps108 rfl rfl ?_;refine zg ?_;refine aF (aw w) 1 zo rfl rfl ?_;intro xb w1 O1 a' b' c6 a8;have b0:=hs.ext a8;refine zg ?_;refine zv (RV.ld (a'.cell 2 rfl) rfl) ?_;refine zvG (RV.len (by first|exact b0) Kv rfl) ?_;refine zlp (fun y:Nat×ka=>[(1,nI (fE:Int)),(5,nI ((min (dt (kids.take y.1)+1) (fE+1):Nat):Int)),(9,x.2.2),(10,nI xs.length),(11,nI y.1)]) (fun y=>y.2) (fun y=>y.1<=xs.length/\Ext w y.2) (fun y=>xs.length-y.1) (0,w1) (⟨J7 _,a8⟩) ?_;rintro⟨i,w2⟩ ⟨hi,a0⟩;dsimp only at hi a0 ⊢;have a4:=hs.ext a0;refine zg ?_;refine zC ?_ ?_
  ·intro a1;replace a1:i<xs.length:=by have:=of_decide_eq_true a1;omega
   have b7:=dO kids i zo;have b6:=cm kids (i+1);have a6:=(hk i a1).ext a0;have a9:=a6.one;have b8:=cg kids i zo;refine zg ?_;refine zv (RV.indexAddr (by first|exact a4) Kv (IL _) rfl rfl _ rfl zo) ?_;refine zv (ah (us:=aW (nth xs i)) (fun j u hu=>a4.cell a1 hu) (Jq _) (IL _) rfl) ?_;refine ar (aw w2) 1 zo (Jk _) rfl ?_;intro kb w3 O3 a2 b4 c5 c7;refine zsb (us:=#[nI (nth xs i).1,nI (nth xs i).2.1,(nth xs i).2.2]) a2 (IL _) (bW a9) ?_;have b2:=a2.setRow (us:=#[nI (nth xs i).1,nI (nth xs i).2.1,(nth xs i).2.2]);have a3:Ext w2 (w3.setRow kb #[nI (nth xs i).1,nI (nth xs i).2.1,(nth xs i).2.2]):=(b4.trans (Upd.setRow zd a2.tag rfl)).ext;generalize w3.setRow kb #[nI (nth xs i).1,nI (nth xs i).2.1,(nth xs i).2.2]=w4 at *;refine zg ?_;refine zC ?_ ?_
   ·intro a7;replace a7:fE<dt (kids.take i)+1:=by have:=of_decide_eq_true a7;omega
    refine zg ?_;refine af rfl rfl (⟨by congr 2;omega,a0.trans a3⟩)
   intro a5;replace a5:dt (kids.take i)+1<=fE:=by have:=of_decide_eq_false a5;omega
   refine zg ?_;refine zvG (ah (us:=aW (nth xs i)) b2.cellsAdd (Jq _) (IL _) rfl) ?_
   refine zv (RV.sub rfl rfl (Fit.i64 zo)) ?_;rw[show(fE:Int)-((min (dt (kids.take i)+1) (fE+1):Nat):Int)=((fE-(dt (kids.take i)+1):Nat):Int)from by omega];refine zc call108 (pX n (nth kids i) zo (nth xs i) w4 (fE-(dt (kids.take i)+1)) (a6.ext a3) zo) ?_
   rintro v w5 ⟨rfl,b5⟩;refine zvG (RV.add rfl rfl (Fit.i64 zo)) ?_;refine zvG (RV.add rfl rfl (Fit.i64 zo)) ?_;rw[show((min (dt (kids.take i)+1) (fE+1):Nat):Int)+((min (nsz (nth kids i)) (fE-(dt (kids.take i)+1)+1):Nat):Int)=((min (dt (kids.take (i+1))+1) (fE+1):Nat):Int)from by omega];refine zxd (i+1,w5) (⟨a1,(a0.trans a3).trans b5⟩)
  intro b3;obtain rfl:i=xs.length:=by have:=of_decide_eq_false b3;omega
  refine zg ?_;refine af rfl rfl (⟨by rw[<-hl,Lx],a0⟩)
theorem aD{S:Nat->Prop}{O O':Nat->Nat}{w w':ka}(h:Upd S O w O' w')(hS:∀b,¬S (O b)):Ext w w':=⟨h.os,h.tape,h.output,h.size,fun b hb=>h.blk b hb (hS b)⟩
theorem Nt.ones{O:Nat->Nat}{w:ka}{t:Nd}{x:N3}(h:Nt O w t x):x=(t.kind,t.cls,x.2.2):=by cases h;rfl
theorem sS:∀(n:Nat),n<=1000000->∀(t:Nd),nsz t<=n->∀(B:Nat) (O:Nat->Nat) (x:N3) (w:ka),Rng B O w->Nt (fun _=>0) w t x->Ret I3 155 [nv x] w fun v w'=>∃y,v=nv y/\Nt O w' t y/\Ext w w'
 |0,_,t,hn=>by have:=dD t;omega
 |n+1,hn6,.mk k c kids,hn=>by
  intro B O x w hR h;obtain⟨T,j5,hT⟩:=hR.bound;obtain⟨xs,hs,hf,hl,hk⟩:=h.kids;simp only[Nd.kids]at hl hk;obtain⟨x0,x1,sv⟩:=x;obtain rfl:k=x0:=(congrArg LN h.ones).symm;obtain rfl:c=x1:=(congrArg (fun q:N3=>q.2.1) h.ones).symm;dsimp only at hs hf;have j4:=eH kids;simp only[nsz]at hn;have a5:¬(fun q:Nat=>T<=q) 0:=fun e=>zo
  refine Ret.enter func155 ntmps155 rfl rfl ?_;refine zh ?_
  refine aF hR (T+1) zo rfl rfl ?_;intro nb w1 O1 h7 i5 i' j8;refine ar i' T zo (Jk _) rfl ?_
  intro xb w2 O2 h1 g8 i9 j7;have f':=h7.upd g8 zo zo;have n0:w2.cell? (nA nb 0)=some (nI k):=f'.cell 0 rfl;have n1:w2.cell? (nA nb 1)=some (nI c):=f'.cell 1 rfl;refine zh ?_;refine zv (aE vq (Jk _) rfl (by first|rfl|(simp only[JB,KT];rfl)) rfl rfl) ?_;refine ar i9 (T+2) zo (Jk _) rfl ?_;intro ob w3 O3 f9 i4 i7 j6;refine zsa (us:=#[nI k,nI c,nS]) f9 (IL _) ?_;have h4:=f9.setRow (us:=#[nI k,nI c,nS]);have g7:Upd (fun q=>q=T+2) O3 w3 O3 (w3.setRow ob #[nI k,nI c,nS]):=Upd.setRow zo f9.tag rfl;have d6:=i4.trans g7;have i6:=i7.upd g7;have h5:=f'.upd d6 zo zo;have h0:=h1.upd d6 zo zo;have e6:Upd (fun q=>T<=q) O w O3 _:=((i5.mono (fun _ h=>by rw[h];omega) a5).trans (g8.mono (fun _ h=>by rw[h];omega) a5)).trans (d6.mono (fun _ h=>by rw[h];omega) a5);generalize w3.setRow ob #[nI k,nI c,nS]=w4 at *;have j0:=aD e6 (fun b=>by have:=hT b;omega);have j2:=hs.ext j0;have n2:w4.cell? (nA nb 2)=some sv:=h5.cell 2 rfl;refine zh ?_
  refine zlp (fun y:Nat×(Nat->Nat)×World×ix×List N3=>[(2,nP xb),(3,nP ob),(12,sv),(13,nI xs.length),(14,nI y.1)]) (fun y=>y.2.2.1) (fun y=>y.1<=xs.length/\BlkO y.2.1 y.2.2.1 T xb #[nI 0,nI 0,nS] 86/\BlkO y.2.1 y.2.2.1 (T+2) ob #[nI k,nI c,y.2.2.2.1] 86/\RowT aW 86 3 y.2.1 y.2.2.1 (T+3) y.2.2.2.1 y.2.2.2.2/\y.2.2.2.2.length=y.1/\(∀m,m<y.1->Nt y.2.1 y.2.2.1 (nth kids m) (nth y.2.2.2.2 m))/\Upd (fun q=>T<=q) O w y.2.1 y.2.2.1/\Rng B y.2.1 y.2.2.1) (fun y=>xs.length-y.1) (0,O3,w4,nS,[]) (⟨J7 _,h0,h4,RowT.nil _ _ _ _ _ _,rfl,fun m hm=>absurd hm (Kx m),e6,i6⟩) ?_;rintro⟨i,O1',f7,lv,zs⟩ ⟨hi,b2,d2,a',d0,f8,b',c5⟩;dsimp only at hi b2 d2 a' d0 f8 b' c5 ⊢;have e':=aD b' (fun b=>by have:=hT b;omega);have h3:=hs.ext e';refine zh ?_
  refine zC ?_ ?_
  ·intro c9;replace c9:i<xs.length:=dT c9;have h9:=(hk i c9).ext e';have g9:=h9.one;have j3:=cg kids i zo;refine zh ?_;refine zv (ah (us:=aW (nth xs i)) (fun j u hu=>h3.cell c9 hu) (Jq _) (IL _) rfl) ?_;refine ar c5 (T+4) zo (Jk _) rfl ?_;intro kb d9 O2' g1 g3 i8 j1;refine zsb (us:=#[nI (nth xs i).1,nI (nth xs i).2.1,(nth xs i).2.2]) g1 (IL _) (bW g9) ?_;have h':=g1.setRow (us:=#[nI (nth xs i).1,nI (nth xs i).2.1,(nth xs i).2.2]);have g2:Upd (fun q=>q=T+4) O2' d9 O2' (d9.setRow kb #[nI (nth xs i).1,nI (nth xs i).2.1,(nth xs i).2.2]):=Upd.setRow zo g1.tag rfl;have b0:=g3.trans g2;have g6:=(b2.upd b0 zo zo).drew;have d1:=(d2.upd b0 zo zo).drew;have c8:=(a'.upd b0 zo zo).drew;have d7:=(c5.upd b0).drew;have d':∀m,m<i->Nt O2' (d9.setRow kb #[nI (nth xs i).1,nI (nth xs i).2.1,(nth xs i).2.2]).drew (nth kids m) (nth zs m):=fun m hm=>((f8 m hm).upd b0).drew
   have d5:=(b'.trans (b0.mono (fun _ h=>by rw[h];omega) a5)).drew;have g5:=aD d5 (fun b=>by have:=hT b;omega);have hk3d:=h'.drew;have g0:Nt (fun _=>0) (d9.setRow kb #[nI (nth xs i).1,nI (nth xs i).2.1,(nth xs i).2.2]).drew (nth kids i) (nth xs i):=(hk i c9).ext g5;refine zh ?_;refine aL (fun W=>∀(m:Nat) (u:ix),(aW (nth xs i))[m]? = some u->W.cell? (nA kb m)=some u) 8 rfl zk ?_;generalize (d9.setRow kb #[nI (nth xs i).1,nI (nth xs i).2.1,(nth xs i).2.2]).drew=w3' at *;have i3:w3'.cell? (nA ob 2)=some lv:=d1.cell 2 rfl;refine zin hk3d.cellsAdd fun zS=>?_
   refine zrf 0 rfl zS rfl ?_;refine zt 2 rfl zS (fun w1 h2=>ah (us:=aW (nth xs i)) h2 (Jq _) (IL _) rfl) ?_
   have c':=sS n zo (nth kids i) zo B O2' (nth xs i) w3' d7 g0;refine bI 1 3 zk rfl rfl ?_ ?_
   ·refine zvH (RV.ld i3 rfl) ?_;refine ae hk3d.cellsAdd ?_
    refine WH.one 3 zk rfl ?_;refine zc call155 c' ?_
    rintro v w5 ⟨z,rfl,f3,g4⟩;have a8:Upd (fun _=>False) O2' w3' O2' w5:=aa (fun h=>h) O2' g4;have f4:=g6.upd a8 zo (fun h=>h);have e4:=d1.upd a8 zo (fun h=>h);have a9:=c8.upd a8 zo (fun h=>h);have f6:=d7.upd a8;have d3:=hk3d.upd a8 zo (fun h=>h);have b7:∀m,m<i->Nt O2' w5 (nth kids m) (nth zs m):=fun m hm=>(d' m hm).upd a8
    have b9:=d5.trans (a8.mono (fun _ h=>h.elim) a5);refine zh ?_;refine ae d3.cellsAdd ?_;refine WH.one 4 zk rfl ?_;refine aH elN (enc:=aW) z rfl rfl rfl zd rfl ?_;intro w6 h6 e9;have a1:Upd (fun _=>False) O2' w5 O2' w6:=aa (fun h=>h) O2' e9;have e1:=f4.upd a1 zo (fun h=>h);have d8:=e4.upd a1 zo (fun h=>h);have a6:=a9.upd a1 zo (fun h=>h);have e8:=f6.upd a1;have b8:=d3.upd a1 zo (fun h=>h);have b1:∀m,m<i->Nt O2' w6 (nth kids m) (nth zs m):=fun m hm=>(b7 m hm).upd a1
    have c6:=f3.upd a1;have b6:=b9.trans (a1.mono (fun _ h=>h.elim) a5);refine zh ?_;refine ae b8.cellsAdd ?_;have a7:∀u∈[z],∀c∈aW u,c.oneCell'=true:=fun u hu=>by
     rw[J8.1 hu];exact gW c6.one
    refine WH.one 5 zk rfl ?_;refine aC elN a6 e8 h6 (by simp) rfl rfl (fun _ _=>rfl) a7 (by simp;omega) (by simp;omega) zo rfl ?_
    intro a3 w7 O7 a0 a4 e7;have e2:=a0.one;have b3:=BlkO.upd d8 a4 zo zo;have e0:=BlkO.upd e1 a4 zo zo;have b4:=BlkO.upd b8 a4 zo zo;refine zh ?_;refine ae b4.cellsAdd ?_;refine zrf 6 rfl b4.cellsAdd rfl ?_;refine WH.one 7 zk rfl ?_;refine aj (j:=2) b3 rfl (LB _) e2 rfl rfl rfl ?_;have e3:BlkO O7 (w7.setCell ⟨ob,2,none⟩ a3) (T+2) ob #[nI k,nI c,a3] 86:=b3.set 2 a3;have a2:Upd (fun q=>q=T+2) O7 w7 O7 (w7.setCell ⟨ob,2,none⟩ a3):=Upd.set zo b3.tag rfl;have e5:=b4.upd a2 zo zo;refine zh ?_;refine ae e5.cellsAdd ?_;have a5:¬(fun q:Nat=>T<=q) 0:=fun e=>zo
    have b5:=(b6.trans (a4.mono (fun _ h=>by rw[h];omega) a5)).trans (a2.mono (fun _ h=>by rw[h];omega) a5);refine WH.done zk ?_;refine zh ?_;refine zxd (i+1,O7,(w7.setCell ⟨ob,2,none⟩ a3),a3,zs++[z]) (⟨c9,e0.upd a2 zo zo,e3,a0.upd a2 zo zo,by simp[d0],fun m hm=>?_,b5,e7.upd a2⟩);dsimp only at hm ⊢
    by_cases e:m<i
    ·rw[aB (xs:=zs++[z]) (by simp;omega),Jl zo,<-aB zo];exact((b1 m e).upd a4).upd a2
    obtain rfl:m=zs.length:=zo;rw[aB (xs:=zs++[z]) (by simp),Jj zo];simp only[KX,J9];rw[d0];exact(c6.upd a4).upd a2
   refine zc call155 c' ?_;rintro v w5 ⟨z,rfl,f3,g4⟩;have a8:Upd (fun _=>False) O2' w3' O2' w5:=aa (fun h=>h) O2' g4;have f4:=g6.upd a8 zo (fun h=>h);have e4:=d1.upd a8 zo (fun h=>h);have a9:=c8.upd a8 zo (fun h=>h);have f6:=d7.upd a8;have d3:=hk3d.upd a8 zo (fun h=>h);have b7:∀m,m<i->Nt O2' w5 (nth kids m) (nth zs m):=fun m hm=>(d' m hm).upd a8
   have b9:=d5.trans (a8.mono (fun _ h=>h.elim) a5);refine zh ?_;refine ae d3.cellsAdd ?_;have i2:w5.cell? (nA ob 2)=some lv:=e4.cell 2 rfl;refine bI 1 4 zk rfl rfl ?_ ?_
   ·refine zvH (RV.ld i2 rfl) ?_;refine ae d3.cellsAdd ?_
    refine WH.one 4 zk rfl ?_;refine aH elN (enc:=aW) z rfl rfl rfl zd rfl ?_
    intro w6 h6 e9;have a1:Upd (fun _=>False) O2' w5 O2' w6:=aa (fun h=>h) O2' e9;have e1:=f4.upd a1 zo (fun h=>h);have d8:=e4.upd a1 zo (fun h=>h);have a6:=a9.upd a1 zo (fun h=>h);have e8:=f6.upd a1;have b8:=d3.upd a1 zo (fun h=>h);have b1:∀m,m<i->Nt O2' w6 (nth kids m) (nth zs m):=fun m hm=>(b7 m hm).upd a1
    have c6:=f3.upd a1;have b6:=b9.trans (a1.mono (fun _ h=>h.elim) a5);refine zh ?_;refine ae b8.cellsAdd ?_;have a7:∀u∈[z],∀c∈aW u,c.oneCell'=true:=fun u hu=>by
     rw[J8.1 hu];exact gW c6.one
    refine WH.one 5 zk rfl ?_;refine aC elN a6 e8 h6 (by simp) rfl rfl (fun _ _=>rfl) a7 (by simp;omega) (by simp;omega) zo rfl ?_
    intro a3 w7 O7 a0 a4 e7;have e2:=a0.one;have b3:=BlkO.upd d8 a4 zo zo;have e0:=BlkO.upd e1 a4 zo zo;have b4:=BlkO.upd b8 a4 zo zo;refine zh ?_;refine ae b4.cellsAdd ?_;refine zrf 6 rfl b4.cellsAdd rfl ?_;refine WH.one 7 zk rfl ?_;refine aj (j:=2) b3 rfl (LB _) e2 rfl rfl rfl ?_;have e3:BlkO O7 (w7.setCell ⟨ob,2,none⟩ a3) (T+2) ob #[nI k,nI c,a3] 86:=b3.set 2 a3;have a2:Upd (fun q=>q=T+2) O7 w7 O7 (w7.setCell ⟨ob,2,none⟩ a3):=Upd.set zo b3.tag rfl;have e5:=b4.upd a2 zo zo;refine zh ?_;refine ae e5.cellsAdd ?_;have a5:¬(fun q:Nat=>T<=q) 0:=fun e=>zo
    have b5:=(b6.trans (a4.mono (fun _ h=>by rw[h];omega) a5)).trans (a2.mono (fun _ h=>by rw[h];omega) a5);refine WH.done zk ?_;refine zh ?_;refine zxd (i+1,O7,(w7.setCell ⟨ob,2,none⟩ a3),a3,zs++[z]) (⟨c9,e0.upd a2 zo zo,e3,a0.upd a2 zo zo,by simp[d0],fun m hm=>?_,b5,e7.upd a2⟩);dsimp only at hm ⊢
    by_cases e:m<i
    ·rw[aB (xs:=zs++[z]) (by simp;omega),Jl zo,<-aB zo];exact((b1 m e).upd a4).upd a2
    obtain rfl:m=zs.length:=zo;rw[aB (xs:=zs++[z]) (by simp),Jj zo];simp only[KX,J9];rw[d0];exact(c6.upd a4).upd a2
   refine aH elN (enc:=aW) z rfl rfl rfl zd rfl ?_;intro w6 h6 e9;have a1:Upd (fun _=>False) O2' w5 O2' w6:=aa (fun h=>h) O2' e9;have e1:=f4.upd a1 zo (fun h=>h);have d8:=e4.upd a1 zo (fun h=>h);have a6:=a9.upd a1 zo (fun h=>h);have e8:=f6.upd a1;have b8:=d3.upd a1 zo (fun h=>h);have b1:∀m,m<i->Nt O2' w6 (nth kids m) (nth zs m):=fun m hm=>(b7 m hm).upd a1
   have c6:=f3.upd a1;have b6:=b9.trans (a1.mono (fun _ h=>h.elim) a5);refine zh ?_;refine ae b8.cellsAdd ?_;have i1:w6.cell? (nA ob 2)=some lv:=d8.cell 2 rfl;refine WH.one 1 zk rfl ?_;refine zvH (RV.ld i1 rfl) ?_;refine ae b8.cellsAdd ?_;have a7:∀u∈[z],∀c∈aW u,c.oneCell'=true:=fun u hu=>by
    rw[J8.1 hu];exact gW c6.one
   refine WH.one 5 zk rfl ?_;refine aC elN a6 e8 h6 (by simp) rfl rfl (fun _ _=>rfl) a7 (by simp;omega) (by simp;omega) zo rfl ?_
   intro a3 w7 O7 a0 a4 e7;have e2:=a0.one;have b3:=BlkO.upd d8 a4 zo zo;have e0:=BlkO.upd e1 a4 zo zo;have b4:=BlkO.upd b8 a4 zo zo;refine zh ?_;refine ae b4.cellsAdd ?_;refine zrf 6 rfl b4.cellsAdd rfl ?_;refine WH.one 7 zk rfl ?_;refine aj (j:=2) b3 rfl (LB _) e2 rfl rfl rfl ?_;have e3:BlkO O7 (w7.setCell ⟨ob,2,none⟩ a3) (T+2) ob #[nI k,nI c,a3] 86:=b3.set 2 a3;have a2:Upd (fun q=>q=T+2) O7 w7 O7 (w7.setCell ⟨ob,2,none⟩ a3):=Upd.set zo b3.tag rfl;have e5:=b4.upd a2 zo zo;refine zh ?_;refine ae e5.cellsAdd ?_;have a5:¬(fun q:Nat=>T<=q) 0:=fun e=>zo
   have b5:=(b6.trans (a4.mono (fun _ h=>by rw[h];omega) a5)).trans (a2.mono (fun _ h=>by rw[h];omega) a5);refine WH.done zk ?_;refine zh ?_;refine zxd (i+1,O7,(w7.setCell ⟨ob,2,none⟩ a3),a3,zs++[z]) (⟨c9,e0.upd a2 zo zo,e3,a0.upd a2 zo zo,by simp[d0],fun m hm=>?_,b5,e7.upd a2⟩);dsimp only at hm ⊢
   by_cases e:m<i
   ·rw[aB (xs:=zs++[z]) (by simp;omega),Jl zo,<-aB zo];exact((b1 m e).upd a4).upd a2
   obtain rfl:m=zs.length:=zo;rw[aB (xs:=zs++[z]) (by simp),Jj zo];simp only[KX,J9];rw[d0];exact(c6.upd a4).upd a2
  intro i0;obtain rfl:i=xs.length:=dF i0;have h8:=a'.one;refine zh ?_;refine zv (ah (us:=aW ((k,c,lv):N3)) d2.cellsAdd (Jq _) (IL _) rfl) ?_;refine zsb (us:=#[nI k,nI c,lv]) b2 (IL _) (bW (x:=(k,c,lv)) h8) ?_;have g':=b2.setRow (us:=#[nI k,nI c,lv]);have f5:Upd (fun q=>q=T) O1' f7 O1' (f7.setRow xb #[nI k,nI c,lv]):=Upd.setRow zo b2.tag rfl;have c7:=a'.upd f5 zo zo;have d4:=b'.trans (f5.mono (fun _ h=>by rw[h];omega) a5);have hN:Nt O (f7.setRow xb #[nI k,nI c,lv]) (.mk k c kids) (k,c,lv):=
   .mk c7.sl (c7.freeT zo (fun b=>by have:=hT b;omega) (c5.upd f5) d4) zo (fun m hm=>((f8 m zo).upd f5).low d4)
  refine zh ?_;refine aJ rfl rfl (g'.cellsAdd) (Jq _) (IL _) (⟨(k,c,lv),rfl,hN,aD d4 (fun b=>by have:=hT b;omega)⟩)
end
section
open Go.VL Go.Proofs
set_option maxRecDepth 10000
theorem ly{F:JL}(hF:∀(args:Array ix) (w:ka),(callFunc F args).run I3 w=.ok (.enter F args) w)(cs:Array ix)(l:List (N3))(sv:ix)(q:Nat->Bool)(w:ka)(h:Sl aW 3 w sv l) 
  (hq:∀i,i<l.length->∀w',Ext w w'->Ret I3 F ([nv (nth l i)]++cs.toList) w' fun v w''=>v=.bool (q i)/\Ext w' w'') :
  Ret I3 112 [sv,.func (.func F) #[] cs] w fun v w'=>v=nI (dw q l.length)/\Ext w w':=by
 have hl:=h.len_le;refine Ret.enter func112 ntmps112 rfl rfl ?_;refine zh ?_;refine zlp (fun x:Nat×ka=>[(0,sv),(1,.func (.func F) #[] cs),(7,nI l.length),(8,nI x.1)]) (fun x=>x.2) (fun x=>x.1<=l.length/\Ext w x.2/\∀i,i<x.1->q i=false) (fun x=>l.length-x.1) (0,w) (⟨J7 _,Ext.refl _,fun i hi=>absurd hi (Kx i)⟩) ?_;rintro⟨k,w1⟩ ⟨hk,hE,a1⟩;dsimp only at hk hE a1 ⊢;have h1:=h.ext hE;refine zh ?_;refine zC ?_ ?_
 ·intro a0;replace a0:k<l.length:=dT a0;refine zh ?_;refine zv (ah (us:=aW (nth l k)) (fun j u hu=>h1.cell a0 hu) (Jq _) (IL _) rfl) ?_;refine dq rfl hF rfl (hq k a0 w1 hE) rfl ?_;rintro v w2 ⟨rfl,a3⟩;refine zh ?_;refine zC ?_ ?_
  ·intro hy;refine zh ?_;refine af rfl rfl (⟨by rw[ct a0 hy a1],hE.trans a3⟩)
  intro hy;refine zh ?_;refine zxd (k+1,w2) (⟨a0,hE.trans a3,fun i hi=>(KN.1 hi).elim (a1 i) (fun e=>by rw[e];exact hy)⟩)
 intro a2;replace a2:l.length<=k:=dF a2;refine zh ?_;refine af rfl rfl (⟨by rw[cn fun i hi=>a1 i zo],hE⟩)
theorem cO{F:JL}(hF:∀(args:Array ix) (w:ka),(callFunc F args).run I3 w=.ok (.enter F args) w)(cs:Array ix)(l:List (N3))(sv:ix)(q:Nat->Bool)(w:ka)(h:Sl aW 3 w sv l) 
  (hq:∀i,i<l.length->∀w',Ext w w'->Ret I3 F ([nv (nth l i)]++cs.toList) w' fun v w''=>v=.bool (q i)/\Ext w' w'') :
  Ret I3 81 [sv,.func (.func F) #[] cs] w fun v w'=>v=.bool (iY q l.length)/\Ext w w':=by
 refine Ret.enter func81 ntmps81 rfl rfl ?_;refine zh ?_
 refine zc call112 (ly hF cs l sv q w h hq) ?_;rintro v w1 ⟨rfl,hE⟩;refine zh ?_
 refine af rfl rfl (⟨by rw[firstN_any],hE⟩)
def named(k:Int):Bool:=(k==0)||(k==2)
def least(k:Int):Int:=if k=4\/k=5 then 2 else if k=6\/k=7\/k=8 then 1 else 0
def fE(k:Int):Int:=if k=4\/k=5 then 2000 else if k=6\/k=7\/k=8 then 1 else 0
def ky(k c:Int)(n:Nat)(a0:Bool):Bool:=
 !(decide (k<0)||decide (9<k)||((k==9)&&a0))&&(!(decide ((n:Int)<least k)||decide (fE k<(n:Int))) &&
 !((named k&&(decide (c<0)||decide (36<=c)))||(!named k&&(c != 0))))
mutual
def ox:Nd->Bool->Bool | .mk k c l,wi=>ky k c l.length wi&&sP l
def sP:List Nd->Bool | []=>true|t::r=>ox t true&&sP r
end
def bM(t:Nd):Bool:=decide (nsz t<=2000)&&ox t false
theorem xK{k c:Int}{n:Nat}{wi:Bool}(h:ky k c n wi=true):
  (k=0/\n=0/\0<=c/\c<36)\/(k=1/\n=0/\c=0)\/(k=2/\n=0/\0<=c/\c<36)\/(k=3/\n=0/\c=0)\/(k=4/\2<=n/\c=0)\/(k=5/\2<=n/\c=0)\/(k=6/\n=1/\c=0)\/(k=7/\n=1/\c=0)\/(k=8/\n=1/\c=0)\/(k=9/\n=0/\c=0/\wi=false):=by
 have a0:k=0\/k=1\/k=2\/k=3\/k=4\/k=5\/k=6\/k=7\/k=8\/k=9:=by
  simp only[ky,J5,Ls,Bool.or_eq_false_iff,decide_eq_false_iff_not]at h;omega
 rcases a0 with rfl|rfl|rfl|rfl|rfl|rfl|rfl|rfl|rfl|rfl<;>simp[ky,least,fE,named]at h<;>(try simp)<;>(first|omega|(obtain⟨h1,h2⟩:=h;subst h1;simp;omega))
theorem AI:∀(l:List Nd),(!(iY (fun i=>!(ox (nth l i) true)) l.length))=sP l:=by
 intro l;rw[Bool.eq_iff_iff];rw[Ls,Lt,Ne,ey]
 induction l with
 |nil=>simp[sP]
 |cons t r ih=>
  simp only[sP,J5,<-ih,IR]
  constructor
  ·intro h;refine⟨?_,fun⟨i,hi,hq⟩=>h ⟨i+1,zo,by rw[bA];exact hq⟩⟩
   cases ht:ox t true with
   |true=>rfl
   |false=>exact absurd ⟨0,zo,by rw[ax,ht];rfl⟩ h
  rintro⟨h1,h2⟩ ⟨i,hi,hq⟩
  cases i with
  |zero=>rw[ax,h1]at hq;simp at hq
  |succ i=>rw[bA]at hq;exact h2 ⟨i,zo,hq⟩
theorem B9(k:Int)(w:ka):Ret I3 140 [nI k] w fun v w'=>v=.tuple #[nI (least k),nI (fE k)]/\w'=w:=by
 refine Ret.enter func140 ntmps140 rfl rfl ?_;refine zh ?_
 by_cases h4:k=4
 ·subst h4;refine zTH rfl rfl ?_;refine zTH rfl rfl ?_;refine bB rfl rfl rfl (⟨rfl,rfl⟩)
 refine zFH rfl ((beq_eq_false_iff_ne.2 h4)) ?_
 by_cases h5:k=5
 ·subst h5;refine zTH rfl rfl ?_;refine bB rfl rfl rfl (⟨rfl,rfl⟩)
 refine zFH rfl ((beq_eq_false_iff_ne.2 h5)) ?_
 by_cases h6:k=6
 ·subst h6;refine zTH rfl rfl ?_;refine zTH rfl rfl ?_;refine bB rfl rfl rfl (⟨rfl,rfl⟩)
 refine zFH rfl ((beq_eq_false_iff_ne.2 h6)) ?_
 by_cases h7:k=7
 ·subst h7;refine zTH rfl rfl ?_;refine zTH rfl rfl ?_;refine bB rfl rfl rfl (⟨rfl,rfl⟩)
 refine zFH rfl ((beq_eq_false_iff_ne.2 h7)) ?_
 by_cases h8:k=8
 ·subst h8;refine zTH rfl rfl ?_;refine bB rfl rfl rfl (⟨rfl,rfl⟩)
 refine zFH rfl ((beq_eq_false_iff_ne.2 h8)) ?_;refine bB rfl rfl rfl (⟨by simp[least,fE,h4,h5,h6,h7,h8],rfl⟩)
theorem Cr{b:Bool}{t:Nd}(ih:∀(y:N3) (W:ka),Nt (fun _=>0) W t y->Ret I3 109 [nv y,.bool true] W fun v w'=>v=.bool b/\Ext W w')(x:N3)(w:ka)(h:Nt (fun _=>0) w t x):
  Ret I3 141 [nv x] w fun v w'=>v=.bool (!b)/\Ext w w':=by
 refine Ret.enter func141 ntmps141 rfl rfl ?_;refine zh ?_
 refine aF (aw w) 1 zo rfl rfl ?_;intro xb w1 O1 a1 a3 a4 a0;refine zh ?_
 refine zv (ah (us:=aW x) a1.cellsAdd (Jq _) (IL _) rfl) ?_;refine zc call109 (ih x w1 (h.ext a0)) ?_
 rintro v w2 ⟨rfl,a2⟩;refine zh ?_;refine af rfl rfl (⟨rfl,a0.trans a2⟩)
theorem vN:∀(n:Nat) (t:Nd),nsz t<=n->∀(x:N3) (w:ka) (a0:Bool),Nt (fun _=>0) w t x->Ret I3 109 [nv x,.bool a0] w fun v w'=>v=.bool (ox t a0)/\Ext w w'
 |0,t,hn=>by have:=dD t;omega
 |n+1,.mk k c kids,hn=>by
  intro x w a0 h;have b1:=h.ones;obtain⟨xs,hs,hf,hl,hk⟩:=h.kids;simp only[Nd.kids]at hl hk;simp only[nsz]at hn;have hF:ox (.mk k c kids) a0=(ky k c kids.length a0&&sP kids):=rfl;rw[hF];generalize x.2.2=sv at *;subst b1;simp only[Nd.kind,Nd.cls];refine Ret.enter func109 ntmps109 rfl rfl ?_;refine zh ?_;refine aF (aw w) 1 zo rfl rfl ?_;intro xb w1 O1 a9 b4 b5 a4;have c0:w1.cell? (nA xb 0)=some (nI k):=a9.cell 0 rfl;have c1:w1.cell? (nA xb 1)=some (nI c):=a9.cell 1 rfl;have c2:w1.cell? (nA xb 2)=some sv:=a9.cell 2 rfl;have b2:=hs.ext a4;refine zh ?_;refine bK (fun w1=>_=w1) ((k==2)) 3 (rfl) rfl rfl rfl rfl rfl ?_ ?_
  ·intro a1;refine zh ?_;refine nE 11 4 (rfl) a1
  rintro _ rfl;refine zh ?_;refine zc call140 (B9 k w1) ?_;rintro v w9 ⟨rfl,a'⟩;rw[a'];clear a' w9;refine zh ?_;refine bK (fun w1=>_=w1) (decide (9<k)) 3 (rfl) rfl rfl rfl rfl rfl ?_ ?_
  ·intro a2;refine zh ?_;refine nE 26 4 (rfl) a2
  rintro _ rfl;refine zh ?_;refine bK (fun w1=>_=w1) (((k==9)&&a0)) 6 (rfl) rfl rfl rfl rfl rfl ?_ ?_
  ·intro a3;refine zh ?_
   cases a7:(k==9)with
   |true=>
    refine au (d:=35) rfl (b':=true) (rfl) ?_;refine zh ?_
    refine nE 31 8 (rfl) a3
   |false=>
    refine au (d:=35) rfl (b':=false) (rfl) ?_;refine zh ?_
    refine nE 31 8 (rfl) a3
  rintro _ rfl;refine zh ?_
  cases h1:(decide (k<0)||decide (9<k)||((k==9)&&a0))with
  |true=>
   refine zTH rfl rfl ?_;refine af rfl rfl (⟨by simp only[ky,h1];rfl,a4⟩)
  |false=>
   refine zFH rfl rfl ?_;refine bK (fun w1=>_=w1) (decide (fE k<(xs.length:Int))) 5 (rfl) rfl rfl rfl rfl rfl ?_ ?_
   ·intro a5;refine zh ?_;refine nE 45 6 (rfl) a5
   rintro _ rfl;refine zh ?_
   cases h2:(decide ((xs.length:Int)<least k)||decide (fE k<(xs.length:Int)))with
   |true=>
    refine zTH rfl rfl ?_;refine af rfl rfl (⟨by simp only[ky,h1,hl,h2];rfl,a4⟩)
   |false=>
    refine zFH rfl rfl ?_;refine bz (fun w1=>_=w1) ((decide (c<0)||decide (36<=c))) 8 (rfl) rfl rfl rfl rfl rfl ?_ ?_
    ·intro a6;refine zh ?_
     cases a7:decide (c<0)with
     |true=>
      refine au (d:=58) rfl (b':=true) (rfl) ?_;refine zh ?_
      refine nE 54 10 (rfl) a6
     |false=>
      refine au (d:=58) rfl (b':=false) (rfl) ?_;refine zh ?_
      refine nE 54 10 (rfl) a6
    rintro _ rfl;refine zh ?_;refine bK (fun w1=>_=w1) ((!((k==0)||(k==2))&&(c != 0))) 7 (rfl) rfl rfl rfl rfl rfl ?_ ?_
    ·intro a8;refine zh ?_
     cases a7:((k==0)||(k==2))with
     |true=>
      rw[a7]at a8;refine au (d:=67) rfl (b':=false) (rfl) ?_;refine zh ?_;refine nE 64 9 (rfl) a8
     |false=>
      rw[a7]at a8;refine au (d:=67) rfl (b':=true) (rfl) ?_;refine zh ?_;refine nE 64 9 (rfl) a8
    rintro _ rfl;refine zh ?_
    cases h3:(((((k==0)||(k==2))&&(decide (c<0)||decide (36<=c))))||(!((k==0)||(k==2))&&(c != 0)))with
    |true=>
     refine zTH rfl rfl ?_;refine af rfl rfl (⟨by simp only[ky,h1,hl,h2,named,h3];rfl,a4⟩)
    |false=>
     refine zFH rfl rfl ?_;refine zc call81 (cO call141 #[] xs sv (fun i=>!(ox (nth kids i) true)) w1 b2 (fun i hi w' hE=>Cr (fun y W hy=>vN n (nth kids i) (by have:=cg kids i (zo);omega) y W true hy) (nth xs i) w' ((hk i hi).ext (a4.trans hE)))) ?_
     rintro v w2 ⟨rfl,b3⟩;refine zh ?_;have b0:=AI kids;rw[hl]at b0;refine af rfl rfl (⟨by rw[b0];simp only[ky,h1,hl,h2,named,h3];rfl,a4.trans b3⟩)
theorem eU(t:Nd)(x:N3)(w:ka)(h:Nt (fun _=>0) w t x):Ret I3 79 [nv x] w fun v w'=>v=.bool (bM t)/\Ext w w':=by
 have hx:=h.ones;refine Ret.enter func79 ntmps79 rfl rfl ?_;refine zh ?_;refine aF (aw w) 1 zo rfl rfl ?_;intro xb w1 O1 a5 a6 a7 a3;have a4:∀W,Ext w1 W->∀(j:Nat) (u:ix),(aW x)[j]? = some u->W.cell? (nA xb j)=some u:=fun W hE j u hu=>hE.cell (a5.cellsAdd j u hu)
 refine zh ?_;refine zv (ah (us:=aW x) (a4 w1 (Ext.refl _)) (Jq _) (IL _) rfl) ?_
 refine zc call108 (pX (nsz t) t (ID _) x w1 2000 (h.ext a3) zo) ?_;rintro v w2 ⟨rfl,a0⟩;have hd:decide (((min (nsz t) (2000+1):Nat):Int)<=2000)=decide (nsz t<=2000):=decide_eq_decide.2 zo;refine zh ?_
 rw[hd];refine bz (Ext w1) (ox t false) 2 (a0) rfl rfl rfl rfl rfl ?_ ?_
 ·intro a1;refine zh ?_;refine zvH (ah (us:=aW x) (a4 _ a0) (Jq _) (IL _) rfl) ?_;refine zc call109 (vN (nsz t) t (ID _) x _ false (h.ext (a3.trans a0))) ?_;rintro v w3 ⟨rfl,a2⟩;refine zh ?_;refine nE 6 3 (a0.trans a2) a1
 intro w3 a2;refine zh ?_;refine af rfl rfl (⟨rfl,a3.trans a2⟩)
end
section
open Go.VL Go.Proofs
set_option maxRecDepth 10000
def B4(s:List UInt8)(m:List UInt8×Nd):Bool:=(m.1==s&&bM m.2)&&(m.2.kind != 9)
def gq(kn:Kn)(r:List UInt8):PR:=
 if r.takeWhile ak=[97,110,121]then .ok (.mk 1 0 []) (r.dropWhile ak)
 else match kn.reverse.find? (B4 (r.takeWhile ak))with
  |some m=>.ok m.2 (r.dropWhile ak)
  |none=>dy 0 r
def iX(kn:Kn)(al:Option (List UInt8->PR))(r0:List UInt8):PR:=
 if ak ((aq r0).headD 0)=true then gq kn (aq r0)
 else if(aq r0).headD 0=126 then dy 2 (aq r0).tail
 else if(aq r0).headD 0=94 then .ok (.mk 3 0 []) (aq r0).tail
 else if(aq r0).headD 0=40 then bX al (aq r0)
 else .bad (aq r0).length 4
def eG(kn:Kn)(al:Option (List UInt8->PR))(r0:List UInt8):PR:=
 match iX kn al r0 with
 |.bad p e=>.bad p e
 |.ok t r1=>
  match opM ((aq r1).headD 0)with
  |some k=>.ok (.mk (6+(k:Nat)) 0 [t]) (aq r1).tail
  |none=>.ok t (aq r1)
def df(kn:Kn)(al:Option (List UInt8->PR)):Nat->List Nd->List UInt8->PR
 |0,acc,r=>.ok (oneM 4 acc) r
 |n+1,acc,r=>
  if eL ((aq r).headD 0)=true then
   match eG kn al (aq r)with
   |.bad p e=>.bad p e
   |.ok t r2=>df kn al n (acc++[t]) r2
  else .ok (oneM 4 acc) (aq r)
def Bt(kn:Kn)(al:Option (List UInt8->PR))(r:List UInt8):PR:=
 match eG kn al r with
 |.bad p e=>.bad p e
 |.ok t r1=>df kn al (r1.length+1) [t] r1
def cE(kn:Kn)(al:Option (List UInt8->PR)):Nat->List Nd->List UInt8->PR
 |0,acc,r=>.ok (oneM 5 acc) r
 |n+1,acc,r=>
  if(aq r).headD 0=124 then
   match Bt kn al (aq r).tail with
   |.bad p e=>.bad p e
   |.ok t r2=>cE kn al n (acc++[t]) r2
  else .ok (oneM 5 acc) (aq r)
def nF(kn:Kn)(al:Option (List UInt8->PR))(r:List UInt8):PR:=
 match Bt kn al r with
 |.bad p e=>.bad p e
 |.ok t r1=>cE kn al (r1.length+1) [t] r1
def uO(kn:Kn):Nat->List UInt8->PR
 |0=>nF kn none
 |d+1=>nF kn (some (uO kn d))
def eK(kn:Kn)(l:List UInt8):XR:=
 if 4096<l.length then .bad 0 3 else
 match uO kn 20 l with
 |.bad p e=>.bad (l.length-p) e
 |.ok t r=>if(aq r).length≠0 then .bad (l.length-(aq r).length) 4 else if 2000<nsz t then .bad 0 3 else .ok t
variable{kn:Kn}
theorem uo(r:List UInt8)(h:ak (r.headD 0)=true):Good r (gq kn r):=by
 unfold gq
 split
 ·exact jw h
 split
 ·exact jw h
 exact nw _ _
theorem pI{al:Option (List UInt8->PR)}(ha:mw al)(r:List UInt8):Good r (iX kn al r):=by
 refine Good.mono ?_ (aX r);unfold iX
 split
 ·rename_i h;exact uo _ h
 split
 ·rename_i h;obtain⟨g1,g2⟩:=bV (r:=aq r) (by rw[h];decide);exact(nw _ _).mono g1
 split
 ·rename_i h;obtain⟨g1,g2⟩:=bV (r:=aq r) (by rw[h];decide);exact⟨g1,zo⟩
 split
 ·rename_i h;exact oz ha _ (by rw[h];decide)
 exact⟨ID _,zd⟩
theorem fO{al:Option (List UInt8->PR)}(ha:mw al)(r:List UInt8):Good r (eG kn al r):=by
 have h:=pI (kn:=kn) ha r;unfold eG
 cases hf:iX kn al r with
 |bad p e=>rw[hf]at h;exact h
 |ok t r1=>
  rw[hf]at h;have h2:=dc r1;dsimp only
  split
  ·rename_i k hk;obtain⟨g1,g2⟩:=bV (CQ hk);exact⟨(g1.trans (aX r1)).trans h.1,by have:=h.2;omega⟩
  exact⟨(aX r1).trans h.1,by have:=h.2;omega⟩
theorem jQ{al:Option (List UInt8->PR)}(ha:mw al):∀(n:Nat) (a0:List Nd) (r:List UInt8),Gk r (df kn al n a0 r)
 |0,a0,r=>Ly r
 |n+1,a0,r=>by
  unfold df
  split
  ·have h:=(fO (kn:=kn) ha (aq r)).mono (aX r)
   cases hf:eG kn al (aq r)with
   |bad p e=>rw[hf]at h;exact h
   |ok t r2=>
    rw[hf]at h;have ih:=jQ ha n (a0++[t]) r2;dsimp only
    cases hq:df kn al n (a0++[t]) r2 with
    |bad p e=>rw[hq]at ih;exact⟨by have:=ih.1;have:=h.2;omega,ih.2⟩
    |ok t r3=>rw[hq]at ih;exact Jr ih h.1
  exact aX r
theorem jR{al:Option (List UInt8->PR)}(ha:mw al)(r:List UInt8):Good r (Bt kn al r):=by
 have h:=fO (kn:=kn) ha r;unfold Bt
 cases hf:eG kn al r with
 |bad p e=>rw[hf]at h;exact h
 |ok t r1=>
  rw[hf]at h;have ih:=jQ (kn:=kn) ha (r1.length+1) [t] r1;dsimp only
  cases hq:df kn al (r1.length+1) [t] r1 with
  |bad p e=>rw[hq]at ih;exact⟨by have:=ih.1;have:=h.2;omega,ih.2⟩
  |ok t r3=>rw[hq]at ih;exact⟨Jr ih h.1,by have:=Ki ih;have:=h.2;omega⟩
theorem je{al:Option (List UInt8->PR)}(ha:mw al):∀(n:Nat) (a0:List Nd) (r:List UInt8),Gk r (cE kn al n a0 r)
 |0,a0,r=>Ly r
 |n+1,a0,r=>by
  unfold cE
  split
  ·rename_i hc;obtain⟨g1,g2⟩:=bV (r:=aq r) (by rw[hc];decide);have h:=((jR (kn:=kn) ha (aq r).tail).mono g1).mono (aX r)
   cases hf:Bt kn al (aq r).tail with
   |bad p e=>rw[hf]at h;exact h
   |ok t r2=>
    rw[hf]at h;have ih:=je ha n (a0++[t]) r2;dsimp only
    cases hq:cE kn al n (a0++[t]) r2 with
    |bad p e=>rw[hq]at ih;exact⟨by have:=ih.1;have:=h.2;omega,ih.2⟩
    |ok t r3=>rw[hq]at ih;exact Jr ih h.1
  exact aX r
theorem nD{al:Option (List UInt8->PR)}(ha:mw al)(r:List UInt8):Good r (nF kn al r):=by
 have h:=jR (kn:=kn) ha r;unfold nF
 cases hf:Bt kn al r with
 |bad p e=>rw[hf]at h;exact h
 |ok t r1=>
  rw[hf]at h;have ih:=je (kn:=kn) ha (r1.length+1) [t] r1;dsimp only
  cases hq:cE kn al (r1.length+1) [t] r1 with
  |bad p e=>rw[hq]at ih;exact⟨by have:=ih.1;have:=h.2;omega,ih.2⟩
  |ok t r3=>rw[hq]at ih;exact⟨Jr ih h.1,by have:=Ki ih;have:=h.2;omega⟩
theorem iM:∀(d:Nat) (r:List UInt8),Good r (uO kn d r)
 |0,r=>nD (fun f e=>by cases e) r
 |d+1,r=>nD (fun f e r=>by cases e;exact iM d r) r
theorem uk{r:List UInt8}{m:List UInt8×Nd}(ha:¬r.takeWhile ak=[97,110,121])(h:kn.reverse.find? (B4 (r.takeWhile ak))=some m):gq kn r=.ok m.2 (r.dropWhile ak):=by
 unfold gq;rw[if_neg ha,h]
theorem um{r:List UInt8}(ha:¬r.takeWhile ak=[97,110,121])(h:kn.reverse.find? (B4 (r.takeWhile ak))=none):gq kn r=dy 0 r:=by
 unfold gq;rw[if_neg ha,h]
end
end Go.Proofs.YtpfpmhhigheccaaGreatDoor
