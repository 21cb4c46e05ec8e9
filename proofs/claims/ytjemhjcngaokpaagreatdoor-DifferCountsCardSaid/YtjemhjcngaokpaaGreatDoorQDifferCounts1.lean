/- Texts that the proof of this statement needs, merged and shortened. -/
import Derived.Test.YtjemhjcngaokpaaGreatDoorRows
import Derived.Test.YtjemhjcngaokpaaGreatDoorCards
import Derived.Test.YtjemhjcngaokpaaGreatDoorTie
import Derived.SevenTiedAt
import Derived.LaidMore
import Derived.LaidHandle
import Derived.LaidLaws
import Derived.Lay
import Derived.Lib.LaidTab
import Derived.Calls
import Derived.Tactics
import Derived.Deep.Quiet
import Derived.Below
import Derived.OwnWalk
import Derived.IntWalk
import Derived.Deep.LoopGhost
import Derived.Great.BuildSlice
import Derived.OrdersHeld
import Derived.StillTail
import Derived.WalkKit
import Derived.ProofKit
import Derived.OpenShut
import Derived.ShutString
import Derived.ChangeOld
import Derived.Deep.Matrix
import Derived.Deep.Slices
import Derived.Test.YtjemhjcngaokpaaGreatDoorChecked
import Derived.Laws.Strings3
import Derived.Laws.Concat
import Derived.Laws.Slices
import Derived.Laws.Cover3
import Derived.Laws.Pointers
import Derived.Laws.OwnMore
import Derived.Laws.IdiomStrings
import Derived.Laws.BytesArg
import Derived.RangeFuncLeaves
import Derived.RangeFuncCalls
import Derived.RangeFuncSeq
import Derived.TacticsIn
import Derived.Laws.LoneSync
import Derived.Laws.CopyRow
import Derived.Lib.Builder
import Derived.Lib.AppendStr
import Derived.Lib.UnsafeStr
import Derived.Laws.RangeString
import Derived.Scope
import Derived.Test.YtjemhjcngaokpaaGreatDoorProg
import Derived.Shelf.Sort.Plain
import Derived.Shelf.Slices.In.SortNone
import Derived.Ground.Names2Prog
import Derived.Shelf.Slices.CompactI
import Derived.Sort.OwnSortedInts
import Derived.Maps.RangeRun
import Derived.ChangeKeysEq
import Derived.Lib.SliceRun
import Derived.Shelf.Spec.TrailingZeros
import Derived.ArgAppend
import Derived.Deep.Upon
import Derived.DeepKeys5
import Derived.Lib.SlBytesConst
open Go renaming Value->ix,World->ka,TypeId->ln,Operand->J3,Program->J7,IntKind->Jj,Oper->Jn,Exit->JF,sizeOf->JI,Addr->JL,Deferred->JP,Act->JT,Edge->Kb,Code->Kf,zeroValue->Ki,FuncId->Kq,Field->Lu,isAgg->Md,MapEntry->MI,Func->MZ,Tmp->Nh,BinOp->NA
open Nat renaming blt->J0,le_refl->J4,eq_of_beq_eq_true->Ji,zero_le->JJ,zero_add->JQ,beq->JR,lt_of_lt_of_le->K1,le_of_ble_eq_true->Kj,le_trans->Kw,zero_mul->La,mul_one->Lk,add_mul->Ll,not_lt_zero->Lr,lt_succ_iff_lt_or_eq->LH,add_assoc->LJ,sub_self->LU,add_zero->LV,add_comm->LW,le_succ->Mb,pos_of_ne_zero->Mv,ble->MB,min_eq_left->MR
open Go.Proofs.Tryz renaming sizeOf67->J1,prog->J5,sizeOf3->Jk,isAgg67->Jl,zeroValue67->Jp,sizeOf22->JU,underlying9->Ka,underlying35->Km,underlying205->Kr,underlying125->Ku,underlying119->Kv,sizeOf4->KJ,underlying244->KL,underlying160->KM,underlying141->KN,underlying128->KO,underlying65->KT,underlying30->KU,underlying139->Lc,underlying135->Ld,underlying67->Lo,sizeOf9->Lp,sizeOf28->Lq,underlying169->M6,underlying165->M7,underlying162->M8,underlying145->M9,underlying126->Ma,sizeOf226->Mc,zeroValue249->Ml,underlying69->Mm,underlying54->Mn,underlying52->Mo,underlying48->Mp,underlying41->Mq,underlying25->Mr,call152->Ms,sizeOf70->MF,sizeOf65->MG,call151->N1,sizeOf249->N6,sizeOf52->Na,sizeOf36->Nb,sizeOf35->Nc,sizeOf31->Nf,sizeOf23->Ng,underlying249->Ni,underlying242->Nj,underlying226->Nk,underlying117->Nl,underlying107->Nm,underlying72->No,underlying58->Np,underlying33->Nq,call200->Nr
open Go.Result renaming andThen_ok->J2
open Array renaming getD_eq_getD_getElem?->J6,getElem?_eq_some_iff->Kz,replicate->Li,getElem?_setIfInBounds->Lj,toList_setIfInBounds->Lv,getElem?_modify->LO,toList_modify->M4,length_toList->M5,toList_push->Mk
open Go.Sem renaming run_bind->J8,run_pure->Jv,run->Lw
open List renaming map_toArray->J9,map_cons->Jm,getElem?_eq_some_iff->Jq,getElem?_eq_getElem->Ju,length_cons->Jz,map_nil->JB,all_cons->JC,eq_nil_of_length_eq_zero->JD,mem_singleton->JM,getD_eq_getElem?_getD->JN,getElem_cons_zero->JZ,take_append_drop->K4,dropWhile_suffix->K5,range->K6,getElem_mem->K7,getElem_append_right->K8,length_reverse->K9,getElem_append_left->Kc,findIdx?_cons->Ke,cons_append->Kk,getElem_of_mem->Kp,mem_range->KA,find?_eq_none->KB,findIdx?_eq_none_iff->KC,flatMap_cons->KD,suffix_cons->KH,all_nil->KK,getElem?_eq_none->KQ,length_append->L0,findIdx?_eq_some_iff_getElem->L3,take_succ_eq_append_getElem->L4,size_toArray->L5,mem_map->L6,getElem?_map->L7,append_assoc->L8,takeWhile_append_dropWhile->Lb,nil_append->Lm,mem_append->Ln,take_zero->Lx,replicate->Ly,map->Lz,getElem?_append_right->LA,dropWhile_cons_of_pos->LB,take->LK,drop_eq_nil_of_le->LN,getElem?_modify->M0,getElem_range->Mi,ext_getElem?->Mw,take_length->MC,suffix_refl->MD,all_eq_true->ME,length_nil->MJ,foldl_cons->MK,find?_cons->MM,append_nil->MN,take_left->MS,findIdx?->MW
open Classical renaming byContradiction->Jh
open Go.Region renaming ready->Jo,noSelect->Jr,wanted->Js,free->JA,lexB->MV
open Go.World renaming setCell->Jt,putObj_heap_other->JE,setRow->JH,block_lt_of_cell?->Kd,putObj_heap_same->LG,alloc_heap_new->LP,ownsRow_lit->Me,cells?_some->Mf,size_alloc->Mt,cell?_spot->Mu,frozen?->MP,cell?->N2
open Go.Addr renaming add->Jw
open Go.Fence renaming wide->Jy
open Int renaming toNat_natCast->JG
open Go.Value renaming oneCell'->JK,ownBlock->KR,string->L1,int->LF,cells->LQ
open Option renaming map_some->JO,map_none->JY,bind_some->Mg
open Go.Deferred renaming ofValue->JS
open Go.Instr renaming sureAddr->JV,findNow->Kl,fill->Kx,storeAt->KV,keyThatStays->KY,mapUpdate->Lh,sameBits->Ls,checkKey->Lt,indexAt->LC,findKey->LD,sameNow->MT,lookup->MX,loadAt->MY,build->N5
open Bool renaming and_eq_true->JW,not_eq_true'->Mx,eq_false_iff->My
open Go.Calls renaming mono->JX
open Go.Exit renaming inBlock->K0
open Go.Act renaming eval->K2,put->KF
open Go.Oper renaming wp->Kg,upon->KG,uponIn->LZ,quietAt->N4,still->N9
open List.IsSuffix renaming trans->Kh,length_le->L9
open Option.some renaming injEq->Ko
open Go.Code renaming region->KE
open Go.DataW renaming trod->KI
open Go.IntKind renaming signed->KP,bits->KX,max->LL,wrap->NH
open UInt8 renaming ofNat->KS
open Go.Op renaming intCmp->KW,intArith->Mh,intBits->Nn,shift->Ny
open Go.Builtin renaming zeroCells->KZ,append_->Mj,len_->NI,lenOf->NJ,firstCells->NK
open Go.RowKit.Below renaming heap_setCell->L2,refl->N7,heap_alloc->N8
open Go.Ending.returned renaming inj->Le
open Function renaming comp_def->LX
open Go.Extern.BytealgIndexByte renaming indexByte->LY
open List.cons renaming injEq->M1
open Go.Rows renaming mono->Mz
open Prod.mk renaming injEq->MA
open Go.Program renaming elem->MH
open Go.CallsIn renaming mono->MO
open Prod renaming fst->MQ
open BitVec renaming ofInt->MU
open Go.Conv renaming intToInt->N0
open Go.ByteArray renaming toList_mk->Ns,extract_mk->Nx
open ByteArray renaming toList->Nu,size->Nv,getElem_eq_getElem_data->Nw
open Go.Lit renaming int->Nz
open Go.StepsIn renaming trans->NB
open Go.RoundIn renaming mono->NC
open Go.Machine renaming fenced->ND
open Go.IntWalk renaming u8_in->NF,i64_in->NG
namespace Go.VL
theorem zo{A:Prop}(h:A:=by omega):A:=h
theorem zd{A:Prop}(h:A:=by decide):A:=h
theorem zk{A:Prop}(h:A:=by kernel_rfl):A:=h
theorem dT{p q:Prop}[Decidable p](h:decide p=true)(k:p→q:=by intro h;omega):q:=k (of_decide_eq_true h)
theorem dF{p q:Prop}[Decidable p](h:decide p=false)(k:¬p→q:=by intro h;omega):q:=k (of_decide_eq_false h)
abbrev nI(n:Int):ix:=.int .i64 n
abbrev nP(b:Nat):ix:=.pointer (some ⟨b,0,none⟩)
abbrev nA(b k:Nat):JL:=(⟨b,0,none⟩:JL).add k
abbrev nS:ix:=.slice none 0 0
end Go.VL
section
namespace Go.VL
abbrev St:=List (Nat×ix)
def cA:St->Nat->Option ix
 |[],_=>none
 |(k,v)::r,t=>bif JR k t then some v else cA r t
structure Fits(N:Nat)(a:JT)(st:St):Prop where
 size:a.tmps.size=N
 defers:a.defers=[]
 get:∀t v,cA st t=some v->a.tmps[t]? = some v
def ev(st:St):J3->Option ix
 |.tmp t=>cA st t
 |.const v=>some v
 |.global g=>some (nP g)
 |.func f=>some (.func (.func f) #[] #[])
def Cov(st:St):St->Prop
 |[]=>True
 |(t,v)::r=>cA st t=some v/\Cov st r
theorem Fits.ev{N:Nat}{a:JT}{st:St}(h:Fits N a st){x:J3}{v:ix}(he:ev st x=some v):a.eval x=v:=by
 cases x with
 |tmp t=>
  have:=h.get t v he;simp[K2,J6,this]
 |const u=>simpa[VL.ev,K2]using he
 |global g=>simpa[VL.ev,K2]using he
 |func f=>simpa[VL.ev,K2]using he
theorem Fits.cov{N:Nat}{a:JT}{st:St}(h:Fits N a st):∀ {a0:St},Cov st a0->Fits N a a0:=by
 intro a0 hc;refine⟨h.size,h.defers,?_⟩
 induction a0 with
 |nil=>intro t v hv;simp[cA]at hv
 |cons p r ih=>
  obtain⟨k,u⟩:=p;obtain⟨h1,h2⟩:=hc;intro t v hv;simp only[cA]at hv
  cases hb:JR k t with
  |true=>
   rw[hb]at hv;have:k=t:=Ji hb;simp at hv;subst this;subst hv;exact h.get _ _ h1
  |false=>rw[hb]at hv;exact ih h2 t v hv
theorem Fits.put{N:Nat}{a:JT}{st:St}(h:Fits N a st){d:Nat}(hd:J0 d N=true)(v:ix):Fits N (a.put (some d) v) ((d,v)::st):=by
 have a0:d<a.tmps.size:=by rw[h.size];exact Kj hd
 refine⟨by simp[KF,h.size],h.defers,?_⟩;intro t u hu;simp only[cA]at hu;simp only[KF,Lj]
 cases hb:JR d t with
 |true=>
  have:d=t:=Ji hb;rw[hb]at hu;simp at hu;subst this;subst hu;simp[a0]
 |false=>
  have:d≠t:=fun e=>by rw[e]at hb;simp at hb
  rw[hb]at hu;rw[if_neg this];exact h.get t u hu
section
variable(P:J7)(N:Nat)
def WL(ops:Array Jn)(Q:JF->JT->ka->Prop)(l:List Jn)(st:St)(w:ka):Prop:=∀a,Fits N a st->wpList P ops Q l a w
def WC(c:Kf)(Q:JF->JT->ka->Prop)(st:St)(w:ka):Prop:=∀a,Fits N a st->c.wp P Q a w
def QF(Q:JF->JT->ka->Prop)(e:JF)(st:St)(w:ka):Prop:=∀a,Fits N a st->Q e a w
end
section
variable{P:J7}{N:Nat}{ops:Array Jn}{Q:JF→JT→ka→Prop}{rest:List Jn}{st:St}{w:ka}
theorem WC.region{id:Nat}{l:List Jn}(h:WL P N l.toArray Q l st w):WC P N (KE id l.toArray false) Q st w:=fun a ha=>wp_region_lit (h a ha)
theorem WL.nil(h:QF N Q .normal st w):WL P N ops Q [] st w:=h
theorem WC.seq{x y:Kf}(h:WC P N x (Exit.then (y.wp P Q) Q) st w):WC P N (.seq x y) Q st w:=fun a ha=>wp_seq (h a ha)
theorem WC.skip(h:QF N Q .normal st w):WC P N .skip Q st w:=fun a ha=>wp_skip (h a ha)
theorem WC.exit{id:Nat}(h:QF N Q (.exit id) st w):WC P N (.exit id) Q st w:=fun a ha=>wp_exit (h a ha)
theorem WC.ret(h:QF N Q .ret st w):WC P N .ret Q st w:=fun a ha=>wp_ret (h a ha)
theorem WC.block{id:Nat}{c:Kf}(h:WC P N c (K0 id Q) st w):WC P N (.block id c) Q st w:=fun a ha=>wp_block (h a ha)
theorem WC.cond{c:J3}{x y:Kf}{b:Bool}(hc:ev st c=some (.bool b))(ht:b=true->WC P N x Q st w)(hf:b=false->WC P N y Q st w):WC P N (.cond c x y) Q st w:=
 fun a ha=>wp_cond_split (ha.ev hc) (fun e=>ht e a ha) (fun e=>hf e a ha)
theorem BN{c:J3}{x y:Kf}(hc:ev st c=some (.bool true))(ht:WC P N x Q st w):WC P N (.cond c x y) Q st w:=
 fun a ha=>wp_cond_true (ha.ev hc) (ht a ha)
theorem BP{c:J3}{x y:Kf}(hc:ev st c=some (.bool false))(hf:WC P N y Q st w):WC P N (.cond c x y) Q st w:=
 fun a ha=>wp_cond_false (ha.ev hc) (hf a ha)
theorem aq{y:Kf}{Q':JF->JT->ka->Prop}(h:WC P N y Q st w):QF N (Exit.then (y.wp P Q) Q') .normal st w:=h
theorem bT{K:JT->ka->Prop}{id:Nat}(h:QF N Q (.exit id) st w):QF N (Exit.then K Q) (.exit id) st w:=h
theorem dM{K:JT->ka->Prop}(h:QF N Q .ret st w):QF N (Exit.then K Q) .ret st w:=h
theorem bU{id:Nat}(h:QF N Q .normal st w):QF N (K0 id Q) .normal st w:=h
theorem ot{id:Nat}(h:QF N Q .ret st w):QF N (K0 id Q) .ret st w:=h
theorem dN{id:Nat}(h:QF N Q .normal st w):QF N (K0 id Q) (.exit id) st w:=fun a ha=>by
 show if id=id then _ else _
 rw[if_pos rfl];exact h a ha
theorem my{id a0:Nat}(a1:JR a0 id=false)(h:QF N Q (.exit a0) st w):QF N (K0 id Q) (.exit a0) st w:=fun a ha=>by
 show if a0=id then _ else _
 rw[if_neg (fun e=>by rw[e]at a1;simp at a1)];exact h a ha
theorem az{d:Nat}{b b':Bool}{l:List Jn}(hs:cA st d=some (.bool b))(hb:b=b')(h:WL P N ops Q l ((d,.bool b')::st) w):WL P N ops Q l st w:=by
 subst hb;refine fun a ha=>h a ⟨ha.size,ha.defers,fun t v hv=>?_⟩
 simp only[cA]at hv
 cases hb:JR d t with
 |true=>rw[hb]at hv;have:=Ji hb;subst this;simp at hv;subst hv;exact ha.get _ _ hs
 |false=>rw[hb]at hv;exact ha.get _ _ hv
theorem aR{c:J3}{x y:Kf}{b:Bool}(hc:ev st c=some (.bool b))(hb:b=true)(ht:WC P N x Q st w):WC P N (.cond c x y) Q st w:=by
 subst hb;exact BN hc ht
theorem aN{c:J3}{x y:Kf}{b:Bool}(hc:ev st c=some (.bool b))(hb:b=false)(hf:WC P N y Q st w):WC P N (.cond c x y) Q st w:=by
 subst hb;exact BP hc hf
theorem QF.weaken{e:JF}{a0:St}(hc:Cov st a0)(h:QF N Q e a0 w):QF N Q e st w:=fun a ha=>h a (ha.cov hc)
theorem WC.loop{α:Type}{c:Kf}(f:α->St)(g:α->ka)(I:α->Prop)(μ:α->Nat)(x0:α)(h0:I x0)(hc:Cov st (f x0))(hw:g x0=w)
  (round:∀x,I x->WC P N c (Exit.then (fun a' w'=>∃y,I y/\μ y<μ x/\Fits N a' (f y)/\g y=w') Q) (f x) (g x)):WC P N (.loop c) Q st w:=by
 intro a ha;refine wp_loop_ghost (fun n a w=>∃y,I y/\μ y=n/\Fits N a (f y)/\g y=w) (μ x0) ⟨x0,h0,rfl,ha.cov hc,hw⟩ ?_;rintro n a w ⟨x,hI,rfl,hf,rfl⟩;refine wp_mono (round x hI a hf) ?_;intro e a' w' hq
 cases e with
 |normal=>obtain⟨y,h1,h2,h3,h4⟩:=hq;exact⟨μ y,h2,y,h1,rfl,h3,h4⟩
 |_=>exact hq
theorem QF.next{α:Type}{f:α->St}{g:α->ka}{I:α->Prop}{m:Nat}{μ:α->Nat}(y:α)(h1:I y)(h2:μ y<m)(h3:Cov st (f y))(h4:g y=w):
 QF N (Exit.then (fun a' w'=>∃y,I y/\μ y<m/\Fits N a' (f y)/\g y=w') Q) .normal st w:=fun _ ha=>⟨y,h1,h2,ha.cov h3,h4⟩
theorem bR{o:Jn}(h:o.guard=none)(y:Nat->Option Bool):Js o y=true:=by simp[Js,h]
theorem WL.step{o:Jn}(hg:o.guard=none)(h:∀a,Fits N a st->o.wp P a w (wpList P ops Q rest) Q):WL P N ops Q (o::rest) st w:=by
 intro a ha;unfold wpList;rw[if_pos (bR hg _)];exact .inl (h a ha)
theorem WL.val{op:Op}{t:ln}{p:String}{e:Array Kb}{d:Nat}{v:ix}{w':ka}(hd:J0 d N=true)
  (a0:∀a:JT,Fits N a st->(execOp a.eval ⟨some d,op,t,p,e,none⟩).run P w=.ok (.value v) w')
  (h:WL P N ops Q rest ((d,v)::st) w'):WL P N ops Q (⟨some d,op,t,p,e,none⟩::rest) st w:=by
 refine WL.step rfl fun a ha=>?_
 unfold Kg;rw[a0 a ha];exact h _ (ha.put hd v)
theorem ir{op:Op}{t:ln}{p:String}{e:Array Kb}{w':ka}
  (a0:∀a:JT,Fits N a st->(execOp a.eval ⟨none,op,t,p,e,none⟩).run P w=.ok .skip w')
  (h:WL P N ops Q rest st w'):WL P N ops Q (⟨none,op,t,p,e,none⟩::rest) st w:=by
 refine WL.step rfl fun a ha=>?_
 unfold Kg;rw[a0 a ha];exact h _ ha
def said(ops:Array Jn)(st:St)(j:Nat):Option Bool:=
 match (ops[j]?).bind (·.dst)with
 |some d=>match cA st d with
  |some (.bool b)=>some b
  |_=>none
 |none=>none
theorem bX{a:JT}(ha:Fits N a st){j:Nat}{b:Bool}(h:said ops st j=some b):yielded ops a.tmps j=some b:=by
 unfold said at h;unfold yielded
 cases hd:(ops[j]?).bind (·.dst)with
 |none=>rw[hd]at h;simp at h
 |some d=>
  rw[hd]at h;simp only at h
  cases hs:cA st d with
  |none=>rw[hs]at h;simp at h
  |some v=>
   rw[hs]at h
   cases v<;>simp at h
   subst h;simp[ha.get _ _ hs]
theorem gn{op:Op}{t:ln}{p:String}{e:Array Kb}{d:Option Nh}{j:Nat}{b:Bool}(hs:said ops st j=some b)
  (h:WL P N ops Q (⟨d,op,t,p,e,none⟩::rest) st w):WL P N ops Q (⟨d,op,t,p,e,some (j,b)⟩::rest) st w:=by
 intro a ha;have h1:=h a ha;unfold wpList at h1 ⊢;rw[if_pos (by simp[Js])]at h1;rw[if_pos (by simp[Js,bX ha hs])];exact h1
theorem WL.off{op:Op}{t:ln}{p:String}{e:Array Kb}{d:Nat}{j:Nat}{b b':Bool}(hs:said ops st j=some b')(a0:(b'==b)=false)(hd:J0 d N=true)
  (h:WL P N ops Q rest ((d,undef)::st) w):WL P N ops Q (⟨some d,op,t,p,e,some (j,b)⟩::rest) st w:=by
 intro a ha;unfold wpList;rw[if_neg (by simp[Js,bX ha hs];simpa using a0)];exact h _ (ha.put hd undef)
def jx(ops:Array Jn)(st:St)(j:Nat):Bool:=
 match (ops[j]?).bind (·.dst)with
 |some d=>match cA st d with
  |some (.tuple _)=>true
  |_=>false
 |none=>false
theorem gp{op:Op}{t:ln}{p:String}{e:Array Kb}{d:Nat}{j:Nat}{b:Bool}(hs:jx ops st j=true)(hd:J0 d N=true)
  (h:WL P N ops Q rest ((d,undef)::st) w):WL P N ops Q (⟨some d,op,t,p,e,some (j,b)⟩::rest) st w:=by
 intro a ha;unfold wpList;rw[if_neg ?_]
 ·exact h _ (ha.put hd undef)
 unfold jx at hs;simp only[Js,yielded]
 cases hd:(ops[j]?).bind (·.dst)with
 |none=>rw[hd]at hs;simp at hs
 |some d=>
  rw[hd]at hs;simp only at hs
  cases hx:cA st d with
  |none=>rw[hx]at hs;simp at hs
  |some v=>
   rw[hx]at hs
   cases v<;>simp at hs
   simp[ha.get _ _ hx]
def RV(P:J7)(N:Nat)(op:Op)(t:ln)(st:St)(w:ka)(v:ix):Prop:=
 ∀a:JT,Fits N a st->∀(dst:Option Nh) (p:String) (e:Array Kb) (g:Option (Nat×Bool)),(execOp a.eval ⟨dst,op,t,p,e,g⟩).run P w=.ok (.value v) w
theorem mr{op:Op}{t:ln}{p:String}{e:Array Kb}{d:Nat}{v:ix}(hv:RV P N op t st w v)(hd:J0 d N=true)
 (h:WL P N ops Q rest ((d,v)::st) w):WL P N ops Q (⟨some d,op,t,p,e,none⟩::rest) st w:=WL.val hd (fun a ha=>hv a ha _ _ _ _) h
section
variable{t:ln}{p:String}{e:Array Kb}{d:Nat}{x y z:J3}
theorem RV.move{v:ix}(hx:ev st x=some v):RV P N (.move x) t st w (v):=
 fun a ha a0 p e g=>by simp only[execOp,ha.ev hx];rfl
theorem RV.assign{v:ix}(hx:ev st x=some v):RV P N (.assign x) t st w (v):=
 fun a ha a0 p e g=>by simp only[execOp,ha.ev hx];rfl
theorem iH{a:JT}{b:Bool}{a0:Option Nh}{g:Option (Nat×Bool)}(hx:a.eval x=.bool b):(execOp a.eval ⟨a0,.pick x y z,t,p,e,g⟩).run P w=.ok (.value (bif b then a.eval y else a.eval z)) w:=by
 simp only[execOp,hx];cases b<;>rfl
theorem bC{u:ix}(hc:ev st x=some (.bool false))(hz:ev st z=some u):RV P N (.pick x y z) t st w (u):=
 fun a ha a0 p e g=>by rw[iH (ha.ev hc),ha.ev hz];rfl
theorem bB{v:ix}(hc:ev st x=some (.bool true))(hy:ev st y=some v):RV P N (.pick x y z) t st w (v):=
 fun a ha a0 p e g=>by rw[iH (ha.ev hc),ha.ev hy];rfl
theorem ao{q:JL}(hx:ev st x=some (.pointer (some q))):RV P N (.nilCheck x) t st w (.pointer (some q)):=
 fun a ha a0 p e g=>by simp only[execOp,ha.ev hx];rfl
section
variable{k:Jj}{m n:Int}{xt yt:ln}
theorem uA{op:NA}{k k':Jj}{m n:Int}{a:JT}{a0:Option Nh}{g:Option (Nat×Bool)}(hx:a.eval x=.int k m)(hy:a.eval y=.int k' n){v:ix}(h:(binOp op xt (.int k m) (.int k' n)).run P w=.ok v w):
  (execOp a.eval ⟨a0,.binOp op xt x y yt,t,p,e,g⟩).run P w=.ok (.value v) w:=by
 simp only[execOp,hx,hy];have hg:(eqGuard op xt x y (.int k m) (.int k' n))=pure ():=by
  unfold eqGuard;cases op<;>rfl
 rw[hg];simp[h]
theorem eY{op:NA}{k':Jj}{v:ix}(hx:ev st x=some (.int k m))(hy:ev st y=some (.int k' n))(hv:(binOp op xt (.int k m) (.int k' n)).run P w=.ok v w):RV P N (.binOp op xt x y yt) t st w (v):=
 fun _ ha _ _ _ _=>uA (ha.ev hx) (ha.ev hy) hv
theorem D5:(binOp .add xt (.int k m) (.int k n)).run P w=.ok (.int k (k.wrap (m+n))) w:=by simp[binOp,Mh,pure]
theorem DW:(binOp .sub xt (.int k m) (.int k n)).run P w=.ok (.int k (k.wrap (m-n))) w:=by simp[binOp,Mh,pure]
theorem DY:(binOp .mul xt (.int k m) (.int k n)).run P w=.ok (.int k (k.wrap (m*n))) w:=by simp[binOp,Mh,pure]
theorem DZ:(binOp .lss xt (.int k m) (.int k n)).run P w=.ok (.bool (decide (m<n))) w:=by simp[binOp,KW,pure]
theorem D0:(binOp .leq xt (.int k m) (.int k n)).run P w=.ok (.bool (decide (m<=n))) w:=by simp[binOp,KW,pure]
theorem D1:(binOp .gtr xt (.int k m) (.int k n)).run P w=.ok (.bool (decide (n<m))) w:=by simp[binOp,KW,pure]
theorem D2:(binOp .geq xt (.int k m) (.int k n)).run P w=.ok (.bool (decide (n<=m))) w:=by simp[binOp,KW,pure]
theorem D3:(binOp .eql xt (.int k m) (.int k n)).run P w=.ok (.bool (m==n)) w:=by simp[binOp,KW,pure]
theorem DX:(binOp .neq xt (.int k m) (.int k n)).run P w=.ok (.bool (m != n)) w:=by simp[binOp,KW,pure]
def Fit(k:Jj)(r:Int):Prop:=k.wrap r=r
theorem Fit.i64{r:Int}(h : -9223372036854775808<=r/\r<=9223372036854775807):Fit .i64 r:=NG r h
theorem Fit.u8{r:Int}(h:0<=r/\r<=255):Fit .u8 r:=NF r h
theorem RV.add(hx:ev st x=some (.int k m))(hy:ev st y=some (.int k n))(hr:Fit k (m+n)):RV P N (.binOp .add xt x y yt) t st w (.int k (m+n)):=
 eY hx hy (by rw[D5,hr])
theorem RV.sub(hx:ev st x=some (.int k m))(hy:ev st y=some (.int k n))(hr:Fit k (m-n)):RV P N (.binOp .sub xt x y yt) t st w (.int k (m-n)):=
 eY hx hy (by rw[DW,hr])
theorem RV.lss(hx:ev st x=some (.int k m))(hy:ev st y=some (.int k n)):RV P N (.binOp .lss xt x y yt) t st w (.bool (decide (m<n))):=
 eY hx hy DZ
theorem RV.leq(hx:ev st x=some (.int k m))(hy:ev st y=some (.int k n)):RV P N (.binOp .leq xt x y yt) t st w (.bool (decide (m<=n))):=
 eY hx hy D0
theorem RV.gtr(hx:ev st x=some (.int k m))(hy:ev st y=some (.int k n)):RV P N (.binOp .gtr xt x y yt) t st w (.bool (decide (n<m))):=
 eY hx hy D1
theorem RV.geq(hx:ev st x=some (.int k m))(hy:ev st y=some (.int k n)):RV P N (.binOp .geq xt x y yt) t st w (.bool (decide (n<=m))):=
 eY hx hy D2
theorem RV.eql(hx:ev st x=some (.int k m))(hy:ev st y=some (.int k n)):RV P N (.binOp .eql xt x y yt) t st w (.bool (m==n)):=
 eY hx hy D3
theorem RV.neq(hx:ev st x=some (.int k m))(hy:ev st y=some (.int k n)):RV P N (.binOp .neq xt x y yt) t st w (.bool (m != n)):=
 eY hx hy DX
theorem RV.not{b:Bool}(hx:ev st x=some (.bool b)):RV P N (.unOp .not xt x) t st w (.bool (!b)):=
 fun a ha a0 p e g=>by simp only[execOp,ha.ev hx];rfl
theorem BV{k':Jj}{a0:TypeDesc}(hs:P.underlying xt=some a0)(a2:P.underlying yt=some (.int k'))(hx:ev st x=some (.int k m))(hr:Fit k' m):RV P N (.convert xt yt x) t st w (.int k' m):=
 fun a ha a3 p e g=>by
  have a1:k'.wrap m=m:=hr;simp only[execOp,ha.ev hx];simp[convert,run_underlying hs,run_underlying a2,N0,a1]
theorem mR{k':Jj}{a0:TypeDesc}(hs:P.underlying xt=some a0)(a1:P.underlying yt=some (.int k'))(hx:ev st x=some (.int k m)):RV P N (.convert xt yt x) t st w (.int k' (k'.wrap m)):=
 fun a ha a2 p e g=>by
  simp only[execOp,ha.ev hx];simp[convert,run_underlying hs,run_underlying a1,N0]
end
theorem RV.extract{vs:Array ix}{i:Nat}{v:ix}(hx:ev st x=some (.tuple vs))(hv:vs[i]? = some v):RV P N (.extract x i) t st w (v):=
 fun a ha a0 p e g=>by simp only[execOp,ha.ev hx];simp[Instr.extract,hv]
def evs(st:St):List J3->Option (List ix)
 |[]=>some []
 |x::r=>match ev st x,evs st r with
  |some v,some vs=>some (v::vs)
  |_,_=>none
theorem Fits.evs{a:JT}(ha:Fits N a st):∀ {l:List J3} {vs:List ix},evs st l=some vs->l.map a.eval=vs:=by
 intro l
 induction l with
 |nil=>intro vs h;simpa[VL.evs]using h.symm
 |cons x r ih=>
  intro vs h;simp only[VL.evs]at h
  cases h1:VL.ev st x with
  |none=>rw[h1]at h;simp at h
  |some v=>
   cases h2:VL.evs st r with
   |none=>rw[h1,h2]at h;simp at h
   |some vs'=>
    rw[h1,h2]at h;simp at h;subst h;rw[Jm,ha.ev h1,ih h2]
theorem dw{fn:Fn}{f c:List J3}{fs cs:List ix}(hf:evs st f=some fs)(hc:evs st c=some cs):RV P N (.makeFunc fn f.toArray c.toArray) t st w (.func fn fs.toArray cs.toArray):=
 fun a ha a0 p e g=>by simp only[execOp,Instr.makeFunc,J9,ha.evs hf,ha.evs hc];rfl
theorem WL.box{E:ln}{v:ix}(hx:ev st x=some v)(hd:J0 d N=true)
  (h:WL P N ops Q rest ((d,.pointer (some ⟨w.heap.size,0,none⟩))::st) (w.alloc (.cells v.cells E))):WL P N ops Q (⟨some d,.box E x,t,p,e,none⟩::rest) st w:=
 WL.val hd (fun a ha=>by simp only[execOp,ha.ev hx];rfl) h
theorem WL.alloc{E:ln}{z:ix}(hz:(Ki E).run P w=.ok z w)(hd:J0 d N=true)
  (h:WL P N ops Q rest ((d,.pointer (some ⟨w.heap.size,0,none⟩))::st) (w.alloc (.cells z.cells E))):WL P N ops Q (⟨some d,.alloc E,t,p,e,none⟩::rest) st w:=
 WL.val hd (fun a ha=>by
  simp only[execOp,Instr.alloc]
  simp[hz,newVar,newRow,newObj];rfl) h
def Ret(P:J7)(f:Kq)(args:List ix)(w:ka)(R:ix->ka->Prop):Prop:=
 Calls P f args.toArray w fun | .returned v,w'=>R v w'|_,_=>False
theorem Ret.mono{f:Kq}{args:List ix}{w:ka}{R R':ix->ka->Prop}(h:Ret P f args w R)(hr:∀v w',R v w'->R' v w'):Ret P f args w R':=
 JX h fun e w' q=>by cases e<;>first|exact hr _ _ q|exact q.elim
theorem WL.call{f:Kq}{args:List J3}{a2:Array ln}{vs:List ix}{R:ix->ka->Prop}
  (hf:∀(args:Array ix) (w:ka),(callFunc f args).run P w=.ok (.enter f args) w) (a0:evs st args=some vs) (hc:Ret P f vs w R) (hd:J0 d N=true)
  (h:∀v w',R v w'->WL P N ops Q rest ((d,v)::st) w'):WL P N ops Q (⟨some d,.call ⟨.value (.func f),args.toArray,a2⟩,t,p,e,none⟩::rest) st w:=by
 refine WL.step rfl fun a ha=>?_
 unfold Kg;have a1:(execOp a.eval ⟨some d,.call ⟨.value (.func f),args.toArray,a2⟩,t,p,e,none⟩).run P w=.ok (.enter f vs.toArray) w:=by
  simp only[execOp,resolve,K2,J9];rw[ha.evs a0];simp[JS,invoke,hf]
 rw[a1];exact JX hc fun e w' q=>by
  cases e with
  |returned v=>exact h v w' q _ (ha.put hd v)
  |panicked c=>exact q.elim
  |outgrown=>exact q.elim
theorem du{f:Kq}{args:List J3}{a2:Array ln}{vs:List ix}{cs:Array ix}{R:ix->ka->Prop}
  (hx:ev st x=some (.func (.func f) #[] cs))
  (hf:∀(args:Array ix) (w:ka),(callFunc f args).run P w=.ok (.enter f args) w) (a0:evs st args=some vs) (hc:Ret P f (vs++cs.toList) w R) (hd:J0 d N=true)
  (h:∀v w',R v w'->WL P N ops Q rest ((d,v)::st) w'):WL P N ops Q (⟨some d,.call ⟨.value x,args.toArray,a2⟩,t,p,e,none⟩::rest) st w:=by
 refine WL.step rfl fun a ha=>?_
 unfold Kg;have a1:(execOp a.eval ⟨some d,.call ⟨.value x,args.toArray,a2⟩,t,p,e,none⟩).run P w=.ok (.enter f (vs++cs.toList).toArray) w:=by
  simp only[execOp,resolve,J9,ha.evs a0,ha.ev hx];simp[JS,invoke,hf]
 rw[a1];exact JX hc fun e w' q=>by
  cases e with
  |returned v=>exact h v w' q _ (ha.put hd v)
  |panicked c=>exact q.elim
  |outgrown=>exact q.elim
end
end
def RP(P:J7)(fn:MZ)(R:ix->ka->Prop):JF->JT->ka->Prop
 |.normal,a,w |.ret,a,w=>a.defers=[]/\∃v,(results fn a.tmps).run P w=.ok v w/\R v w
 |_,_,_=>False
theorem Ret.body{P:J7}{N:Nat}{f:Kq}{fn:MZ}{c:Kf}{args:List ix}{st:St}{w:ka}{R:ix->ka->Prop}
  (hf:P.funcs[f]? = some fn) (hb:fn.body=some c) (hN:fn.ntmps=N) (a0:Fits N { tmps:=args.toArray++Li (N-args.length) undef,defers:=[] } st)
  (h:WC P N c (RP P fn R) st w):Ret P f args w R:=by
 refine calls_of_wp hf hb ?_;rw[hN];refine wp_mono (h _ (by simpa using a0)) ?_
 intro e a w' q
 cases e<;>first|exact q|exact q.elim
theorem pV{N:Nat}:∀ {args:List ix} (_:MB args.length N=true) {st:St} (_:∀t v,cA st t=some v->args[t]? = some v),
  Fits N { tmps:=args.toArray++Li (N-args.length) undef,defers:=[] } st:=by
 intro args hN st h;have a1:args.length<=N:=Kj hN;refine⟨by simp;omega,rfl,fun t v hv=>?_⟩;have:=h t v hv;have a0:t<args.length:=(Jq.1 this).1;rw[Array.getElem?_append_left (by simpa using a0)];simpa using this
def DS:Nat->List ix->St
 |_,[]=>[]
 |k,v::r=>(k,v)::DS (k+1) r
theorem mW:∀(args:List ix) (k t:Nat) (v:ix),cA (DS k args) t=some v->k<=t/\args[t-k]? = some v
 |[],k,t,v,h=>by simp[DS,cA]at h
 |u::r,k,t,v,h=>by
  simp only[DS,cA]at h
  cases hb:JR k t with
  |true=>
   rw[hb]at h;have:k=t:=Ji hb;subst this;simpa using h
  |false=>
   rw[hb]at h;obtain⟨h1,h2⟩:=mW r (k+1) t v h;refine⟨zo,?_⟩;rw[show t-k=(t-(k+1))+1 from by omega];simpa using h2
theorem Ret.enter{P:J7}{N:Nat}{f:Kq}{fn:MZ}{c:Kf}{args:List ix}{w:ka}{R:ix->ka->Prop}
  (hf:P.funcs[f]? = some fn) (hN:fn.ntmps=N) (hb:fn.body=some c) (a0:MB args.length N=true)
  (h:WC P N c (RP P fn R) (DS 0 args) w):Ret P f args w R:=
 Ret.body hf hb hN (pV a0 fun t v hv=>by simpa using(mW args 0 t v hv).2) h
section
variable{P:J7}{N:Nat}{st:St}{w:ka}{fn:MZ}{R:ix→ka→Prop}
theorem ah{t:Nh}{v:ix}(hr:fn.results = #[.tmp t])(hv:cA st t=some v)(h:R v w):QF N (RP P fn R) .ret st w:=fun a ha=>
 ⟨ha.defers,v,by have:=ha.get _ _ hv;simp[results,hr,J6,this],h⟩
theorem aH(hr:fn.results = #[])(h:R (.tuple #[]) w):QF N (RP P fn R) .normal st w:=fun a ha=>⟨ha.defers,_,by simp[results,hr],h⟩
theorem cz(hr:fn.results = #[])(h:R (.tuple #[]) w):QF N (RP P fn R) .ret st w:=fun a ha=>⟨ha.defers,_,by simp[results,hr],h⟩
theorem bx{t u:Nh}{v v':ix}(hr:fn.results = #[.tmp t,.tmp u])(hv:cA st t=some v)(a0:cA st u=some v')(h:R (.tuple #[v,v']) w):QF N (RP P fn R) .ret st w:=fun a ha=>
 ⟨ha.defers,_,by have:=ha.get _ _ hv;have h2:=ha.get _ _ a0;simp[results,hr,J6,this,h2],h⟩
end
open Go.RowKit (Below)
def Ext(w w':ka):Prop:=Below w.heap.size w w'
theorem Ext.refl(w:ka):Ext w w:=N7 _ _
theorem Ext.trans{a b c:ka}(h:Ext a b)(k:Ext b c):Ext a c:=Below.trans h (Below.mono k h.size)
theorem Ext.alloc(w:ka)(o:Obj):Ext w (w.alloc o):=(N7 _ _).alloc (J4 _) o
theorem Ext.drew{w w':ka}(h:Ext w w'):Ext w w'.drew:=⟨h.os,h.tape,h.output,h.size,h.block⟩
theorem Ext.cell{w w':ka}(h:Ext w w'){a:JL}{v:ix}(hc:w.cell? a=some v):w'.cell? a=some v:=
 (Below.cell h (Kd w a hc)).trans hc
def adr(v:ix)(sz i:Nat):JL:=
 match v with
 |.slice (some a) _ _=>⟨a.block,a.off+i*sz,none⟩
 |_=>default
def nth{α:Type}[Inhabited α](xs:List α)(i:Nat):α:=xs.getD i default
theorem aB{α:Type}[Inhabited α]{xs:List α}{i:Nat}(h:i<xs.length):nth xs i=xs[i]:=by
 simp[nth,JN,h]
theorem ay{α:Type}[Inhabited α](a:α)(l:List α):nth (a::l) 0=a:=rfl
theorem bA{α:Type}[Inhabited α](a:α)(l:List α)(i:Nat):nth (a::l) (i+1)=nth l i:=rfl
attribute [irreducible] nth
structure Sl{α:Type}(enc:α->List ix)(sz:Nat)(w:ka)(v:ix)(xs:List α):Prop where
 shape:∃a c,v=.slice a xs.length c/\xs.length<=c/\c<=9223372036854775807/\(xs.length≠0->∃b o,a=some ⟨b,o,none⟩)
 cells:∀i (h:i<xs.length) j u,(enc xs[i])[j]? = some u->w.cell? ((adr v sz i).add j)=some u
theorem Sl.of_cells{α:Type}{enc:α->List ix}{sz:Nat}{w w':ka}{v:ix}{xs:List α}(h:Sl enc sz w v xs)(hc:∀a u,w.cell? a=some u->w'.cell? a=some u):Sl enc sz w' v xs:=
 ⟨h.shape,fun i hi j u hu=>hc _ _ (h.cells i hi j u hu)⟩
theorem Sl.ext{α:Type}{enc:α->List ix}{sz:Nat}{w w':ka}{v:ix}{xs:List α}(h:Sl enc sz w v xs)(e:Ext w w'):Sl enc sz w' v xs:=h.of_cells fun _ _=>e.cell
theorem Sl.drew{α:Type}{enc:α->List ix}{sz:Nat}{w:ka}{v:ix}{xs:List α}(h:Sl enc sz w v xs):Sl enc sz w.drew v xs:=h.of_cells fun _ _ h=>h
theorem Sl.one{α:Type}{enc:α->List ix}{sz:Nat}{w:ka}{v:ix}{xs:List α}(h:Sl enc sz w v xs):v.oneCell'=true:=by
 obtain⟨_,_,rfl,_⟩:=h.shape;rfl
theorem Sl.len_le{α:Type}{enc:α->List ix}{sz:Nat}{w:ka}{v:ix}{xs:List α}(h:Sl enc sz w v xs):xs.length<=9223372036854775807:=by
 obtain⟨a,c,_,h1,h2,_⟩:=h.shape;omega
theorem Sl.cell{α:Type}[Inhabited α]{enc:α->List ix}{sz:Nat}{w:ka}{v:ix}{xs:List α}(h:Sl enc sz w v xs){i j:Nat}{u:ix}(hi:i<xs.length)(hu:(enc (nth xs i))[j]? = some u):w.cell? ((adr v sz i).add j)=some u:=
 h.cells i hi j u (by rw[<-aB hi];exact hu)
theorem ax(v:ix)(sz i:Nat):(adr v sz i).add 0=adr v sz i:=rfl
theorem Sl.ld{α:Type}[Inhabited α]{val:α->ix}{sz:Nat}{w:ka}{v:ix}{xs:List α}(h:Sl (fun x=>[val x]) sz w v xs){i:Nat}(hi:i<xs.length):w.cell? (adr v sz i)=some (val (nth xs i)):=
 h.cell (j:=0) hi rfl
abbrev Ints(w:ka)(v:ix)(xs:List Int):Prop:=Sl (fun(x:Int)=>[nI x]) 1 w v xs
abbrev Jg(w:ka)(v:ix)(xs:List Nat):Prop:=Sl (fun(x:Nat)=>[nI (x:Int)]) 1 w v xs
section
variable{P:J7}{N:Nat}{ops:Array Jn}{Q:JF→JT→ka→Prop}{rest:List Jn}{st:St}{w:ka}
variable{t:ln}{p:String}{e:Array Kb}{d:Nat}{x y z:J3}
theorem RV.len{T E:ln}{α:Type}{enc:α->List ix}{sz:Nat}{v:ix}{xs:List α}(hs:Sl enc sz w v xs)(hu:P.underlying T=some (.slice E))(hx:ev st x=some v):RV P N (.call ⟨.builtin .len,#[x],#[T]⟩) t st w (nI (xs.length:Int)):=
 fun a ha a0 p e g=>by
  obtain⟨ad,c,hv,_⟩:=hs.shape;simp only[execOp,resolve,J9,Jm,JB,ha.ev hx];subst hv;simp[invoke,Go.builtin,NI,run_underlying hu,goInt]
theorem RV.indexAddr{T E:ln}{α:Type}{enc:α->List ix}{sz:Nat}{v:ix}{xs:List α}{k:Jj}{i:Int}(hs:Sl enc sz w v xs)(hu:P.underlying T=some (.slice E))(hE:(JI E).run P w=.ok sz w)
  (hx:ev st x=some v) (hy:ev st y=some (.int k i)) (n:Nat) (hi:i=n) (hn:n<xs.length):RV P N (.indexAddr T x y) t st w (.pointer (some (adr v sz n))):=
 fun a ha a0 p e g=>by
  obtain⟨ad,c,hv,_,_,hb⟩:=hs.shape;obtain⟨b,o,rfl⟩:=hb zo;simp only[execOp,ha.ev hx,ha.ev hy];subst hv;subst hi;have:((n:Int)<(xs.length:Int)):=zo;simp only[adr];have he:(if n*sz=0 then(⟨b,o,none⟩:JL)else⟨b,o+n*sz,none⟩)=⟨b,o+n*sz,none⟩:=by split<;>simp_all
  simp[LC,asIntOf,run_underlying hu,hE,Jw,hn,he]
def Shape(v:ix)(n:Nat):Prop:=∃a c,v=.slice a n c/\(n≠0->∃b o,a=some ⟨b,o,none⟩)
theorem Sl.sh{α:Type}{enc:α->List ix}{sz:Nat}{w:ka}{v:ix}{xs:List α}(h:Sl enc sz w v xs):Shape v xs.length:=by
 obtain⟨a,c,h1,_,_,h2⟩:=h.shape;exact⟨a,c,h1,h2⟩
theorem ai{T E:ln}{sz m:Nat}{v:ix}{k:Jj}{i:Int}(hs:Shape v m)(hu:P.underlying T=some (.slice E))(hE:(JI E).run P w=.ok sz w)
  (hx:ev st x=some v) (hy:ev st y=some (.int k i)) (n:Nat) (hi:i=n) (hn:n<m):RV P N (.indexAddr T x y) t st w (.pointer (some (adr v sz n))):=
 fun a ha a0 p e g=>by
  obtain⟨ad,c,hv,hb⟩:=hs;obtain⟨b,o,rfl⟩:=hb zo;simp only[execOp,ha.ev hx,ha.ev hy];subst hv;subst hi;simp only[adr];have he:(if n*sz=0 then(⟨b,o,none⟩:JL)else⟨b,o+n*sz,none⟩)=⟨b,o+n*sz,none⟩:=by split<;>simp_all
  simp[LC,asIntOf,run_underlying hu,hE,Jw,hn,he]
theorem RV.load{T:ln}{q:JL}{u:ix}(hc:w.cell? q=some u)(hT:(Md T).run P w=.ok false w)(hx:ev st x=some (.pointer (some q))):RV P N (.load T x) t st w (u):=
 fun a ha a0 p e g=>by
  simp only[execOp,ha.ev hx];simp[MY,JV,loadVar,hT,hc]
theorem run_loadCellsFrom{q:JL}:∀(us:List ix) (i:Nat) (a0:Array ix),(∀j u,us[j]? = some u->w.cell? (q.add (i+j))=some u)->(loadCellsFrom q i us.length a0).run P w=.ok (a0++us.toArray) w
 |[],i,a0,_=>by simp[loadCellsFrom]
 |u::r,i,a0,h=>by
  have h0:=h 0 u rfl;have ih:=run_loadCellsFrom r (i+1) (a0.push u) (fun j v hv=>by have:=h (j+1) v (by simpa using hv);rwa[show i+1+j=i+(j+1)from by omega]);simp only[LV]at h0;simp[loadCellsFrom,h0,ih]
theorem af{T:ln}{q:JL}{us:List ix}(hc:∀j u,us[j]? = some u->w.cell? (q.add j)=some u)(hT:(Md T).run P w=.ok true w)(hn:(JI T).run P w=.ok us.length w)(hx:ev st x=some (.pointer (some q))):RV P N (.load T x) t st w (.agg us.toArray):=
 fun a ha a0 p e g=>by
  simp only[execOp,ha.ev hx];have:=run_loadCellsFrom (P:=P) us 0 #[] (q:=q) (w:=w) (by simpa using hc);simp[MY,JV,loadVar,hT,hn,loadCells,this]
theorem RV.fieldAddr{S:ln}{fs:Array Lu}{f m:Nat}{fd:Lu}{q:JL}(o:Nat)(hu:P.underlying S=some (.struct fs))(hf:fs[f]? = some fd)(ho:fd.offset=o)(hz:(JI fd.type).run P w=.ok m w)(hm:m≠0)
  (hx:ev st x=some (.pointer (some q))):RV P N (.fieldAddr S x f) t st w (.pointer (some (q.add o))):=
 fun a ha a0 p e g=>by
  subst ho;simp only[execOp,ha.ev hx];simp[Instr.fieldAt,JV,fieldPlace,run_underlying hu,hf,hz,hm]
end
end Go.VL
end
section
namespace Go.VL
open Go.RowKit (Below)
structure Upd(S:Nat->Prop)(O:Nat->Nat)(w:ka)(O':Nat->Nat)(w':ka):Prop where
 os:w'.os=w.os
 tape:w'.tape=w.tape
 output:w'.output=w.output
 size:w.heap.size<=w'.heap.size
 blk:∀b,b<w.heap.size->¬S (O b)->w'.heap[b]? = w.heap[b]?
 tag:∀b,O b≠0->O' b=O b
 new:∀b,O' b≠0->O b≠0\/(w.heap.size<=b/\b<w'.heap.size)
 z:¬S 0
structure Rng(B:Nat)(O:Nat->Nat)(w:ka):Prop where
 le:B<=w.heap.size
 rng:∀b,O b≠0->B<=b/\b<w.heap.size
theorem Upd.refl{S:Nat->Prop}(h:¬S 0)(O:Nat->Nat)(w:ka):Upd S O w O w:=⟨rfl,rfl,rfl,J4 _,fun _ _ _=>rfl,fun _ _=>rfl,fun _ h=>.inl h,h⟩
theorem Upd.mono{S S':Nat->Prop}{O O':Nat->Nat}{w w':ka}(h:Upd S O w O' w')(hs:∀i,S i->S' i)(hz:¬S' 0):Upd S' O w O' w':=
 ⟨h.os,h.tape,h.output,h.size,fun b hb hn=>h.blk b hb fun hS=>hn (hs _ hS),h.tag,h.new,hz⟩
theorem Upd.trans{S:Nat->Prop}{O O1 O2:Nat->Nat}{w w1 w2:ka}(h:Upd S O w O1 w1)(k:Upd S O1 w1 O2 w2):Upd S O w O2 w2:=by
 refine⟨k.os.trans h.os,k.tape.trans h.tape,k.output.trans h.output,Kw h.size k.size,fun b hb hn=>?_,fun b hb=>?_,fun b hb=>?_,h.z⟩
 ·refine(k.blk b (K1 hb h.size) ?_).trans (h.blk b hb hn)
  by_cases h0:O b=0
  ·have:O1 b=0:=by
    refine Jh fun a0=>?_
    rcases h.new b a0 with h1|h1
    ·exact h1 h0
    omega
   rw[this];exact h.z
  rw[h.tag b h0];exact hn
 ·have h1:=h.tag b hb;rw[k.tag b (by rw[h1];exact hb),h1]
 rcases k.new b hb with h1|h1
 ·rcases h.new b h1 with h2|h2
  ·exact .inl h2
  exact .inr ⟨h2.1,K1 h2.2 k.size⟩
 exact .inr ⟨Kw h.size h1.1,h1.2⟩
theorem aa{S:Nat->Prop}(hz:¬S 0){w w':ka}(O:Nat->Nat)(h:Ext w w'):Upd S O w O w':=
 ⟨h.os,h.tape,h.output,h.size,fun b hb _=>h.block b hb,fun _ _=>rfl,fun _ h=>.inl h,hz⟩
theorem Rng.upd{B:Nat}{S:Nat->Prop}{O O':Nat->Nat}{w w':ka}(r:Rng B O w)(h:Upd S O w O' w'):Rng B O' w':=by
 refine⟨Kw r.le h.size,fun b hb=>?_⟩
 rcases h.new b hb with h1|h1
 ·exact⟨(r.rng b h1).1,K1 (r.rng b h1).2 h.size⟩
 exact⟨Kw r.le h1.1,h1.2⟩
theorem ar(w:ka):Rng w.heap.size (fun _=>0) w:=⟨J4 _,fun _ h=>absurd rfl h⟩
theorem Rng.ext{B:Nat}{O:Nat->Nat}{w w':ka}(r:Rng B O w)(h:Ext w w'):Rng B O w':=r.upd (aa (S:=fun _=>False) (fun h=>h) O h)
theorem Upd.below{B:Nat}{S:Nat->Prop}{O O':Nat->Nat}{w w':ka}(h:Upd S O w O' w')(r:Rng B O w):Below B w w':=by
 refine⟨h.os,h.tape,h.output,h.size,fun b hb=>h.blk b (K1 hb r.le) ?_⟩;have:O b=0:=Jh fun a0=>by have:=(r.rng b a0).1;omega
 rw[this];exact h.z
theorem Upd.ext{S:Nat->Prop}{O':Nat->Nat}{w w':ka}(h:Upd S (fun _=>0) w O' w'):Ext w w':=h.below (ar w)
theorem Upd.drew{S:Nat->Prop}{O O':Nat->Nat}{w w':ka}(h:Upd S O w O' w'):Upd S O w O' w'.drew:=⟨h.os,h.tape,h.output,h.size,h.blk,h.tag,h.new,h.z⟩
theorem Upd.ofDrew{S:Nat->Prop}{O O':Nat->Nat}{w w':ka}(h:Upd S O w.drew O' w'):Upd S O w O' w':=⟨h.os,h.tape,h.output,h.size,h.blk,h.tag,h.new,h.z⟩
theorem Rng.drew{B:Nat}{O:Nat->Nat}{w:ka}(h:Rng B O w):Rng B O w.drew:=⟨h.le,h.rng⟩
def lB(O:Nat->Nat)(b i:Nat):Nat->Nat:=fun k=>if k=b then i else O k
theorem ed(O:Nat->Nat)(b i:Nat):lB O b i b=i:=if_pos rfl
theorem Upd.alloc{S:Nat->Prop}(hz:¬S 0){B:Nat}{O:Nat->Nat}{w:ka}(r:Rng B O w)(o:Obj)(i:Nat):Upd S O w (lB O w.heap.size i) (w.alloc o):=by
 refine⟨rfl,rfl,rfl,by simp,fun b hb _=>N8 _ _ _ hb,fun b hb=>?_,fun b hb=>?_,hz⟩
 ·unfold lB;rw[if_neg];have:=(r.rng b hb).2;omega
 unfold lB at hb
 split at hb
 ·rename_i h;subst h;exact .inr ⟨J4 _,by simp⟩
 exact .inl hb
structure RowO(O:Nat->Nat)(w:ka)(i:Nat)(E:ln)(sz:Nat)(v:ix)(n:Nat)(xs:List ix):Prop where
 row:w.ownsRow 0 E sz v n xs
 tag:∀g,v.ownBlock=some g->O g=i
theorem bq{w:ka}{g:Nat}{o:Obj}(h:w.heap[g]? = some o):g<w.heap.size:=(Kz.1 h).1
theorem RowO.upd{S:Nat->Prop}{O O':Nat->Nat}{w w':ka}{i:Nat}{E:ln}{sz:Nat}{v:ix}{n:Nat}{xs:List ix}(h:RowO O w i E sz v n xs)(u:Upd S O w O' w')(hi:i≠0)(hS:¬S i):RowO O' w' i E sz v n xs:=by
 refine⟨⟨h.row.1,?_⟩,fun g hg=>?_⟩
 ·rcases h.row.2 with h1|⟨g,a2,a1,hv,hg,hh,a0⟩
  ·exact .inl h1
  refine .inr ⟨g,a2,a1,hv,hg,?_,a0⟩;rw[u.blk g (bq hh) (by rw[h.tag g (by rw[hv];rfl)];exact hS)];exact hh
 have:=h.tag g hg;rw[u.tag g (by rw[this];exact hi),this]
theorem RowO.drew{O:Nat->Nat}{w:ka}{i:Nat}{E:ln}{sz:Nat}{v:ix}{n:Nat}{xs:List ix}(h:RowO O w i E sz v n xs):RowO O w.drew i E sz v n xs:=⟨h.row,h.tag⟩
theorem RowO.nil(O:Nat->Nat)(w:ka)(i:Nat)(E:ln)(sz:Nat):RowO O w i E sz (nS) 0 []:=⟨World.ownsRow_nil _ _ _ _,fun g hg=>by simp[KR]at hg⟩
structure BlkO(O:Nat->Nat)(w:ka)(i b:Nat)(cs:Array ix)(E:ln):Prop where
 blk:w.heap[b]? = some (.cells cs E (0,0))
 tag:O b=i
theorem BlkO.upd{S:Nat->Prop}{O O':Nat->Nat}{w w':ka}{i b:Nat}{cs:Array ix}{E:ln}(h:BlkO O w i b cs E)(u:Upd S O w O' w')(hi:i≠0)(hS:¬S i):BlkO O' w' i b cs E:=
 ⟨by rw[u.blk b (bq h.blk) (by rw[h.tag];exact hS)];exact h.blk,by rw[u.tag b (by rw[h.tag];exact hi),h.tag]⟩
theorem BlkO.drew{O:Nat->Nat}{w:ka}{i b:Nat}{cs:Array ix}{E:ln}(h:BlkO O w i b cs E):BlkO O w.drew i b cs E:=⟨h.blk,h.tag⟩
theorem BlkO.new(O:Nat->Nat)(w:ka)(i:Nat)(cs:Array ix)(E:ln):BlkO (lB O w.heap.size i) (w.alloc (.cells cs E)) i w.heap.size cs E:=
 ⟨heap_alloc_new w _,ed _ _ _⟩
theorem BlkO.cell{O:Nat->Nat}{w:ka}{i b:Nat}{cs:Array ix}{E:ln}(h:BlkO O w i b cs E)(j:Nat){u:ix}(hu:cs[j]? = some u):w.cell? ⟨b,j,none⟩=some u:=by
 rw[cell_of_row w b j cs E (0,0) h.blk];exact hu
theorem BlkO.set{O:Nat->Nat}{w:ka}{i b:Nat}{cs:Array ix}{E:ln}(h:BlkO O w i b cs E)(j:Nat)(u:ix):BlkO O (w.setCell ⟨b,j,none⟩ u) i b (cs.setIfInBounds j u) E:=by
 refine⟨?_,h.tag⟩;simp only[Jt,LO,if_pos]
 rw[h.blk];simp
theorem Upd.set{S:Nat->Prop}(hz:¬S 0){O:Nat->Nat}{w:ka}{i b j:Nat}{u:ix}(ht:O b=i)(hS:S i):Upd S O w O (w.setCell ⟨b,j,none⟩ u):=
 ⟨rfl,rfl,rfl,by simp[Jt],fun k _ hn=>L2 _ _ _ _ (fun e=>hn (by subst e;rw[ht];exact hS)),fun _ _=>rfl,fun _ h=>.inl h,hz⟩
def RowT{α:Type}(enc:α->List ix)(E:ln)(sz:Nat)(O:Nat->Nat)(w:ka)(i:Nat)(v:ix)(l:List α):Prop:=RowO O w i E sz v l.length (l.flatMap enc)/\∀x∈l,(enc x).length=sz
theorem eJ{α:Type}{enc:α->List ix}{sz:Nat}:∀(l:List α),(∀x∈l,(enc x).length=sz)->∀i (h:i<l.length) j u,(enc l[i])[j]? = some u->(l.flatMap enc)[i*sz+j]? = some u
 |x::l,hz,0,_,j,u,hu=>by
  have hl:=hz x (by simp);have hj:j<(enc x).length:=(Jq.1 (by simpa using hu)).1;simp only[KD,La,JQ];rw[List.getElem?_append_left hj];simpa using hu
 |x::l,hz,i+1,h,j,u,hu=>by
  have hl:=hz x (by simp);simp only[KD];rw[show(i+1)*sz+j=(enc x).length+(i*sz+j)from by rw[hl,Ll];omega,LA zo,show(enc x).length+(i*sz+j)-(enc x).length=i*sz+j from by omega];exact eJ l (fun y hy=>hz y (by simp[hy])) i (by simpa using h) j u (by simpa using hu)
theorem RowT.sl{α:Type}{enc:α->List ix}{E:ln}{sz:Nat}{O:Nat->Nat}{w:ka}{i:Nat}{v:ix}{l:List α}(h:RowT enc E sz O w i v l):Sl enc sz w v l:=by
 obtain⟨⟨⟨hl,hr⟩,_⟩,hz⟩:=h
 rcases hr with⟨rfl,h0⟩|⟨g,a0,a3,rfl,_,hg,a1,a2,a4,ht⟩
 ·have:l=[]:=JD h0;subst this;exact⟨⟨none,0,rfl,J4 _,zo,fun h=>absurd rfl h⟩,fun i hi=>absurd hi (by simp)⟩
 refine⟨⟨_,a0,rfl,a1,by simpa[maxLen]using a2,fun _=>⟨g,0,rfl⟩⟩,fun i hi j u hu=>?_⟩;have:=eJ l hz i hi j u hu;rw[<-ht,List.getElem?_take]at this
 split at this
 ·have ha:((adr (.slice (some ⟨g,0,none⟩) l.length a0) sz i).add j)=⟨g,i*sz+j,none⟩:=by
   simp only[adr,Jw];split<;>simp_all
  rw[ha,cell_of_row w g _ a3 E (0,0) hg];simpa using this
 cases this
theorem RowT.upd{α:Type}{enc:α->List ix}{S:Nat->Prop}{O O':Nat->Nat}{w w':ka}{i:Nat}{E:ln}{sz:Nat}{v:ix}{l:List α}(h:RowT enc E sz O w i v l)(u:Upd S O w O' w')(hi:i≠0)(hS:¬S i):RowT enc E sz O' w' i v l:=
 ⟨h.1.upd u hi hS,h.2⟩
theorem RowT.drew{α:Type}{enc:α->List ix}{O:Nat->Nat}{w:ka}{i:Nat}{E:ln}{sz:Nat}{v:ix}{l:List α}(h:RowT enc E sz O w i v l):RowT enc E sz O w.drew i v l:=⟨h.1.drew,h.2⟩
theorem RowT.nil{α:Type}(enc:α->List ix)(E:ln)(sz:Nat)(O:Nat->Nat)(w:ka)(i:Nat):RowT enc E sz O w i (nS) []:=⟨RowO.nil _ _ _ _ _,by simp⟩
theorem RowO.one{O:Nat->Nat}{w:ka}{i:Nat}{E:ln}{sz:Nat}{v:ix}{n:Nat}{xs:List ix}(h:RowO O w i E sz v n xs):v.oneCell'=true:=by
 rcases h.row.2 with⟨rfl,_⟩|⟨g,a1,a0,rfl,_⟩<;>rfl
theorem RowT.one{α:Type}{enc:α->List ix}{O:Nat->Nat}{w:ka}{i:Nat}{E:ln}{sz:Nat}{v:ix}{l:List α}(h:RowT enc E sz O w i v l):v.oneCell'=true:=h.1.one
theorem RowT.put{α:Type}{val:α->ix}{O:Nat->Nat}{w:ka}{i:Nat}{E:ln}{v:ix}{l:List α}(h:RowT (fun x=>[val x]) E 1 O w i v l){n:Nat}(hn:n<l.length)(x:α):
  w.cell? (adr v 1 n)=some (val (l[n]))/\w.frozen? (adr v 1 n)=false/\RowT (fun x=>[val x]) E 1 O (w.setCell (adr v 1 n) (val x)) i v (l.set n x)/\O (adr v 1 n).block=i:=by
 have a0:=h.sl.cells n hn 0 (val l[n]) rfl;rw[ax]at a0;refine⟨a0,?_⟩;obtain⟨⟨⟨hl,hr⟩,a1⟩,hz⟩:=h
 rcases hr with⟨rfl,h0⟩|⟨g,a3,a8,rfl,a7,hg,a4,a6,a5,ht⟩
 ·omega
 have ha:adr (.slice (some ⟨g,0,none⟩) l.length a3) 1 n=⟨g,n,none⟩:=by simp[adr]
 rw[ha];have a2:∀l:List α,(l.flatMap fun x=>[val x])=l.map val:=fun l=>by induction l<;>simp_all
 refine⟨by simp[MP,hg],⟨⟨⟨by rw[a2];simp,.inr ⟨g,a3,a8.setIfInBounds n (val x),by simp,a7,?_,by simpa using a4,a6,by simpa using a5,?_⟩⟩,by simpa using a1⟩,by simp⟩,a1 g rfl⟩
 ·simp only[Jt,LO,if_pos];rw[hg];simp
 simp only[Lk,List.length_set,Lv]at ht ⊢;rw[a2]at ht ⊢;rw[List.take_set,ht,List.map_set]
structure Elem(P:J7)(T E:ln)(sz bytes:Nat):Prop where
 ht:P.underlying T=some (.slice E)
 info:(P.info? E).map (fun i=>(i.zero.map (·.cells.size),i.size,i.bytes))=some (some sz,sz,bytes)
 pos:0<sz
theorem Elem.parts{P:J7}{T E:ln}{sz bytes:Nat}(h:Elem P T E sz bytes):∃i z,P.info? E=some i/\i.zero=some z/\i.size=sz/\i.bytes=bytes/\z.cells.size=sz:=by
 have:=h.info
 cases hi:P.info? E with
 |none=>rw[hi]at this;simp at this
 |some i=>
  rw[hi]at this;simp only[JO,Ko,MA]at this;obtain⟨h1,h2,h3⟩:=this
  cases hz:i.zero with
  |none=>rw[hz]at h1;simp at h1
  |some z=>rw[hz]at h1;simp at h1;exact⟨i,z,rfl,hz,h2,h3,h1⟩
theorem eZ{P:J7}{w:ka}{T ty E:ln}{sz a7:Nat}(he:Elem P T E sz a7){B:Nat}{O:Nat->Nat}(r:Rng B O w){i:Nat}
  {v:ix} {n:Nat} {xs:List ix} (a1:RowO O w i E sz v n xs)
  (a:JL) (m c:Nat) (a0:List ix) (hl:a0.length=m*sz) (a3:∀j u,a0[j]? = some u->w.cell? (a.add j)=some u) (h1:∀u∈a0,u.oneCell'=true)
  (a4:(n+m)*a7<=140737488355328) (c8:n+m<=9223372036854775807) (b9:i≠0) :
  ∃v' w' O',(Mj #[T,T] ty #[v,.slice (some a) m c]).run P w=.ok v' w'/\RowO O' w' i E sz v' (n+m) (xs++a0)/\Upd (fun k=>k=i) O w O' w':=by
 obtain⟨a8,z,hi,hz,b8,c7,b7⟩:=he.parts;have ht:=he.ht;subst b8;subst c7;have a5:(xs++a0).length=(n+m)*a8.size:=by rw[L0,a1.row.1,hl,Ll]
 have b2:¬(0=i):=fun h=>b9 h.symm
 have a6:∀(old:Nat),old<n+m->
   RowO (lB O w.heap.size i) (w.drew.alloc (.cells (xs.toArray++a0.toArray++KZ z.cells (grownCap w (n+m) old E-(n+m))) E)) i E a8.size
    (.slice (some ⟨w.heap.size,0,none⟩) (n+m) (grownCap w (n+m) old E)) (n+m) (xs++a0)/\
   Upd (fun k=>k=i) O w (lB O w.heap.size i) (w.drew.alloc (.cells (xs.toArray++a0.toArray++KZ z.cells (grownCap w (n+m) old E-(n+m))) E)):=by
  intro old ho;have b':=grownCap_ge w (n+m) old E;have b5:grownCap w (n+m) old E<=maxLen:=grownCap_le_maxLen w (n+m) old E (by simpa[maxLen]using c8);refine⟨⟨⟨a5,.inr ⟨w.heap.size,_,_,rfl,JJ _,heap_alloc_new w.drew _,b',b5,?_,?_⟩⟩,?_⟩,?_⟩
  ·simp only[Array.size_append,L5,size_zeroCells,b7,a1.row.1,hl,<-Ll];congr 1;omega
  ·simp only[Array.toList_append,L8];rw[<-L8,<-a5];exact MS
  ·intro g hg;simp[KR]at hg;subst hg;exact ed _ _ _
  have u:=Upd.alloc (S:=fun k=>k=i) (w:=w.drew) b2 (B:=B) ⟨r.le,r.rng⟩ (.cells (xs.toArray++a0.toArray++KZ z.cells (grownCap w (n+m) old E-(n+m))) E) i;exact⟨u.os,u.tape,u.output,u.size,u.blk,u.tag,u.new,u.z⟩
 rcases a1.row.2 with⟨rfl,rfl⟩|⟨g,b1,b6,rfl,hbg,hg,c9,b5,c6,a'⟩
 ·have hx:xs=[]:=JD (by simpa using a1.row.1);subst hx
  by_cases hm:m=0
  ·subst hm;have hn:a0=[]:=JD (by simpa using hl);subst hn;refine⟨nS,w,O,?_,RowO.nil _ _ _ _ _,Upd.refl b2 _ _⟩;simp[Mj,run_underlying ht,JI,typeInfo,hi,NJ,NK,loadCells,loadCellsFrom]
  have hr:=run_append_nil (P:=P) w T ty E a8 z ht hi hz a m c a0 hl a3 zo zo (by have hb:=a4;simp only[JQ]at hb;omega);have a9:=a6 0 zo;simp only[JQ,Lm,Array.empty_append]at a9 ⊢;exact⟨_,_,_,hr,a9.1,a9.2⟩
 have b3:O g=i:=a1.tag g rfl
 by_cases a2:n+m<=b1
 ·have b4:n*a8.size+a0.length<=b6.size:=by rw[hl,c6,<-Ll];exact Nat.mul_le_mul_right _ a2
  have hr:=run_append_room (P:=P) w T ty E a8 ht hi g n b1 b6 hg a m c a0 hl a3 h1 a2 b4;refine⟨_,_,O,hr,⟨⟨a5,.inr ⟨g,b1,_,rfl,hbg,setRow_heap w g b6 _ E _ hg,a2,b5,?_,?_⟩⟩,fun g' c5=>a1.tag g' c5⟩,⟨rfl,rfl,rfl,by simp,fun k _ hk=>setRow_other w g k _ (fun e=>hk (by subst e;exact b3)),fun _ _=>rfl,fun _ h=>.inl h,b2⟩⟩
  ·simp only[L5,L0,List.length_take,List.length_drop,M5];omega
  rw[a',<-a5];exact MS
 have b0:∀j u,xs[j]? = some u->w.cell? (nA g j)=some u:=a1.row.cells (g:=g) rfl;have hr:=run_append_grow (P:=P) w T ty E a8 z ht hi hz ⟨g,0,none⟩ n b1 xs a1.row.1 b0 a m c a0 hl a3 zo zo (growslice_fits zo a4);have a9:=a6 b1 zo;exact⟨_,_,_,hr,a9.1,a9.2⟩
theorem foldl_set(f:Array ix->ix×Nat->Array ix)(hf:∀cs c j,f cs (c,j)=cs.setIfInBounds (0+j) c):∀(l:List ix) (k:Nat) (cs:Array ix),k+l.length<=cs.size->
  (l.zipIdx k).foldl f cs=(cs.toList.take k++l++cs.toList.drop (k+l.length)).toArray
 |[],k,cs,_=>by simp
 |u::l,k,cs,h=>by
  simp only[Jz]at h;simp only[List.zipIdx_cons,MK];rw[foldl_set f hf l (k+1) _ (by rw[hf];simp;omega),hf];simp only[JQ,Lv];have hk:k<cs.toList.length:=by simp;omega
  congr 1;rw[show k+1+l.length=k+(u::l).length from by simp;omega];have h1:(cs.toList.set k u).take (k+1)=cs.toList.take k++[u]:=by
   rw[L4 (by simpa using hk)];simp[List.take_set_of_le]
  have h2:(cs.toList.set k u).drop (k+(u::l).length)=cs.toList.drop (k+(u::l).length):=by
   rw[List.drop_set_of_lt (by simp)]
  rw[h1,h2];simp
theorem kI{sz:Nat}{cells:Array ix}{v:ix}(h1:v.cells.size=sz)(h2:cells.size=sz):Kx (fun i=>some (i*sz,sz)) cells [(0,v)]=some v.cells:=by
 simp only[Kx,La,h1,h2];simp only[JQ,ne_eq,not_true_eq_false,decide_false,gt_iff_lt,Nat.lt_irrefl,Bool.or_self,Bool.false_eq_true,if_false];have:=foldl_set (fun cs (x:ix×Nat)=>cs.setIfInBounds (0+x.2) x.1) (fun _ _ _=>rfl) v.cells.toList 0 cells (by simp;omega);simp only[JQ]at this;rw[<-Array.foldl_toList,Array.toList_zipIdx,this];simp only[Lx,Lm];rw[LN (by simp;omega)];simp
section
variable{P:J7}{N:Nat}{ops:Array Jn}{Q:JF→JT→ka→Prop}{rest:List Jn}{st:St}{w:ka}
variable{t t':ln}{p p':String}{e e':Array Kb}{d d':Nat}{x y z:J3}
theorem WL.push{T E:ln}{sz a0:Nat}(he:Elem P T E sz a0){α:Type}{enc:α->List ix}{B:Nat}{O:Nat->Nat}{i:Nat}{v:ix}{l:List α}(hr:RowT enc E sz O w i v l)(r:Rng B O w)(u:α){xv:ix}
  (hv:∀c,ev ((d,c)::st) y=some v) (hx:ev st x=some xv) (a6:xv.cells.toList=enc u) (a7:(enc u).length=sz) (a':∀c∈enc u,c.oneCell'=true)
  (hb:(l.length+1)*a0<=140737488355328) (b4:l.length+1<=9223372036854775807) (a5:i≠0) (hs:sz<=16777216) (hd:J0 d N=true) (b2:J0 d' N=true)
  (h:∀v' w' O',RowT enc E sz O' w' i v' (l++[u])->Upd (fun k=>k=i) O w O' w'->Rng B O' w'->WL P N ops Q rest ((d',v')::(d,.slice (some ⟨w.heap.size,0,none⟩) 1 1)::st) w') :
  WL P N ops Q (⟨some d,.buildSlice T 1 #[(0,x)],t,p,e,none⟩::⟨some d',.call ⟨.builtin .append,#[y,.tmp d],#[T,T]⟩,t',p',e',none⟩::rest) st w:=by
 obtain⟨a8,z,hi,hz,a2,b6,b5⟩:=he.parts;have b3:xv.cells.size=sz:=by rw[<-a7,<-a6];simp
 have b1:=he.pos;refine WL.val (v:=.slice (some ⟨w.heap.size,0,none⟩) 1 1) (w':=w.alloc (.cells xv.cells E)) hd (fun a ha=>?_) ?_
 ·have:=run_buildSlice (P:=P) w T E 1 #[(0,xv)] xv.cells a8 z he.ht hi hz (by rw[a2];omega) (by rw[a2];omega) (by
   rw[a2]
   exact kI b3 (by simp))
  simp only[execOp,J9,Jm,JB,ha.ev hx,J8,this,J2];rfl
 have a9:¬(fun k=>k=i) 0:=fun h=>a5 h.symm
 have hE:=Ext.alloc w (.cells xv.cells E);have r1:=r.ext hE;have b0:RowT enc E sz O (w.alloc (.cells xv.cells E)) i v l:=hr.upd (aa (S:=fun _=>False) (fun h=>h) O hE) a5 (fun h=>h)
 obtain⟨v',w',O',a3,a4,a1⟩:=eZ (P:=P) (ty:=t') he r1 b0.1 ⟨w.heap.size,0,none⟩ 1 1 (enc u) zo (fun j c hc=>by
  rw[show((⟨w.heap.size,0,none⟩:JL).add j)=⟨w.heap.size,j,none⟩from by simp only[Jw];split<;>simp_all,cell_of_row _ _ j xv.cells E (0,0) (heap_alloc_new w _)]
  rw[<-a6]at hc;simpa using hc) a' hb b4 a5
 refine WL.val (v:=v') (w':=w') b2 (fun a ha=>?_) ?_
 ·simp only[execOp,resolve,invoke,builtin,J8,Jv,J2,J9,Jm,JB,ha.ev (hv _),ha.ev (x:=.tmp d) (v:=.slice (some ⟨w.heap.size,0,none⟩) 1 1) (by simp[ev,cA]),a3]
 have hU:Upd (fun k=>k=i) O w O' w':=Upd.trans (aa a9 O hE) a1;refine h v' w' O' ⟨by simpa using a4,?_⟩ hU (r.upd hU);intro c hc
 rcases Ln.1 hc with hc|hc
 ·exact hr.2 c hc
 rw[JM.1 hc];exact a7
theorem aj{T:ln}{O:Nat->Nat}{i b j:Nat}{cs:Array ix}{E:ln}{u c:ix}(hb:BlkO O w i b cs E)(hj:cs[j]? = some c)(hT:(JI T).run P w=.ok 1 w)(h1:u.oneCell'=true)
  {q:JL} (hx:ev st x=some (.pointer (some q))) (hq:q=⟨b,j,none⟩) (hy:ev st y=some u)
  (h:WL P N ops Q rest st (w.setCell ⟨b,j,none⟩ u)):WL P N ops Q (⟨none,.store T x y,t,p,e,none⟩::rest) st w:=
 ir (fun a ha=>by
  subst hq;have hc:=hb.cell j hj;have hf:w.frozen? ⟨b,j,none⟩=false:=by simp[MP,hb.blk]
  simp only[execOp,ha.ev hx,ha.ev hy]
  cases u<;>simp[JK]at h1<;>simp[KV,JV,storeVar,hT,LQ,storeCells,store,Lw,hc,hf,Jw]) h
theorem WL.storeAt{T:ln}{α:Type}{val:α->ix}{O:Nat->Nat}{i:Nat}{E:ln}{v:ix}{l:List α}(hr:RowT (fun x=>[val x]) E 1 O w i v l)(n:Nat)(hn:n<l.length)(u:α)(hT:(JI T).run P w=.ok 1 w)(h1:(val u).oneCell'=true)(a1:i≠0)
  {q:JL} {uv:ix} (hx:ev st x=some (.pointer (some q))) (hq:q=adr v 1 n) (hy:ev st y=some uv) (hu:uv=val u)
  (h:∀w',RowT (fun x=>[val x]) E 1 O w' i v (l.set n u)->Upd (fun j=>j=i) O w O w'->WL P N ops Q rest st w'):WL P N ops Q (⟨none,.store T x y,t,p,e,none⟩::rest) st w:=by
 subst hq;subst hu;obtain⟨hc,hf,a0,ht⟩:=hr.put hn u;refine ir (w':=w.setCell (adr v 1 n) (val u)) (fun a ha=>?_) (h _ a0 ?_)
 ·simp only[execOp,ha.ev hx,ha.ev hy];generalize val u=uv at *
  cases uv<;>simp[JK]at h1<;>simp[KV,JV,storeVar,hT,LQ,storeCells,store,Lw,hc,hf,Jw]
 refine⟨rfl,rfl,rfl,by simp[Jt],fun k _ hn=>L2 _ _ _ _ (fun e=>hn (by rw[e];exact ht)),fun _ _=>rfl,fun _ h=>.inl h,fun h=>a1 h.symm⟩
end
end Go.VL
end
section
namespace Go.VL
def Calm(Q:JF->JT->ka->Prop):JF->JT->ka->Prop
 |.panic _,_,_=>False
 |e,a,w=>Q e a w
theorem Calm.imp{Q:JF->JT->ka->Prop}:∀ {e:JF} {a:JT} {w:ka},Calm Q e a w->Q e a w:=by
 intro e a w h
 cases e<;>first|exact h|exact h.elim
section
variable(P:J7)(N:Nat)
def WH(ops:Array Jn)(S:ka->Prop)(Q:JF->JT->ka->Prop)(a1:Nat)(a0:Array Bool)(st:St)(w:ka):Prop:=
 ∀a,Fits N a st->wpAnyH P .any ops (Calm Q) S a1 a0 a w
end
section
variable{P:J7}{N:Nat}{ops:Array Jn}{S:ka→Prop}{Q:JF→JT→ka→Prop}{st:St}{w:ka}{fuel:Nat}{listed:Array Bool}
theorem aG{id:Nat}{l:List Jn}(S:ka->Prop)(n:Nat)(hn:l.length=n)(hm:P.follows .mixedOrders=true)
  (h:WH P N l.toArray S Q n (Li n false) st w.drew):WC P N (KE id l.toArray true) Q st w:=fun a ha=>by
 refine wp_mono (Q:=Calm Q) (wp_region_held (S:=S) hm ?_) fun e a w h=>h.imp
 have:=h a ha;simp only[L5,hn];exact this
theorem WH.take{op:Op}{t:ln}{p:String}{e:Array Kb}{d:Nat}{v:ix}(i:Nat)(hi:ops[i]? = some ⟨some d,op,t,p,e,none⟩)
  (hs:Jr ops=true) (hf:JA .any ops listed i=true) (hr:(Jo .any ops listed).contains i=true) (hS:S w)
  (hv:∀w',S w'->RV P N op t st w' v) (hd:J0 d N=true) (h:WH P N ops S Q fuel (listed.setIfInBounds i true) ((d,v)::st) w):WH P N ops S Q (fuel+1) listed st w:=by
 intro a ha;refine wpAnyH_take (v:=v) hi hs hf hr (fun _ _ _ h=>h) (.inl ⟨by simp[Js],fun w' a0=>hv w' a0 a ha _ _ _ _⟩) hS ?_;exact h _ (ha.put hd v)
theorem ue{op:Op}{t:ln}{p:String}{e:Array Kb}{d j:Nat}{b:Bool}{v:ix}(i:Nat)(hi:ops[i]? = some ⟨some d,op,t,p,e,some (j,b)⟩)(hg:said ops st j=some b)
  (hs:Jr ops=true) (hf:JA .any ops listed i=true) (hr:(Jo .any ops listed).contains i=true) (hS:S w)
  (hv:∀w',S w'->RV P N op t st w' v) (hd:J0 d N=true) (h:WH P N ops S Q fuel (listed.setIfInBounds i true) ((d,v)::st) w):WH P N ops S Q (fuel+1) listed st w:=by
 intro a ha;refine wpAnyH_take (v:=v) hi hs hf hr (fun _ _ _ h=>h) (.inl ⟨by simp[Js,bX ha hg],fun w' a0=>hv w' a0 a ha _ _ _ _⟩) hS ?_;exact h _ (ha.put hd v)
theorem yT{op:Op}{t:ln}{p:String}{e:Array Kb}{d j:Nat}{b b':Bool}(i:Nat)(hi:ops[i]? = some ⟨some d,op,t,p,e,some (j,b)⟩)(hg:said ops st j=some b')(a0:(b'==b)=false)
  (hs:Jr ops=true) (hf:JA .any ops listed i=true) (hr:(Jo .any ops listed).contains i=true) (hS:S w)
  (hd:J0 d N=true) (h:WH P N ops S Q fuel (listed.setIfInBounds i true) ((d,undef)::st) w):WH P N ops S Q (fuel+1) listed st w:=by
 intro a ha;refine wpAnyH_take (v:=undef) hi hs hf hr (fun _ _ _ h=>h) (.inr ⟨?_,rfl⟩) hS ?_
 ·have:(b'==b)=false:=a0;simp[Js,bX ha hg];simpa using this
 exact h _ (ha.put hd undef)
theorem vC{op:Op}{t:ln}{p:String}{e:Array Kb}{d j:Nat}{b:Bool}(i:Nat)(hi:ops[i]? = some ⟨some d,op,t,p,e,some (j,b)⟩)(hg:jx ops st j=true)
  (hs:Jr ops=true) (hf:JA .any ops listed i=true) (hr:(Jo .any ops listed).contains i=true) (hS:S w)
  (hd:J0 d N=true) (h:WH P N ops S Q fuel (listed.setIfInBounds i true) ((d,undef)::st) w):WH P N ops S Q (fuel+1) listed st w:=by
 intro a ha;refine wpAnyH_take (v:=undef) hi hs hf hr (fun _ _ _ h=>h) (.inr ⟨?_,rfl⟩) hS ?_
 ·unfold jx at hg;simp only[Js,yielded]
  cases hd:(ops[j]?).bind (·.dst)with
  |none=>rw[hd]at hg;simp at hg
  |some d=>
   rw[hd]at hg;simp only at hg
   cases hx:cA st d with
   |none=>rw[hx]at hg;simp at hg
   |some v=>
    rw[hx]at hg
    cases v<;>simp at hg
    simp[ha.get _ _ hx]
 exact h _ (ha.put hd undef)
def rR(P:J7)(ops:Array Jn)(S:ka->Prop)(Q:JF->JT->ka->Prop)(a1:Nat)(a0:Array Bool):JF->JT->ka->Prop:=
 Exit.then (fun a' w'=>S w'/\wpAnyH P .any ops (Calm Q) S a1 a0 a' w') (Calm Q)
theorem ae{i:Nat}(hS:S w)(h:WH P N ops S Q fuel (listed.setIfInBounds i true) st w):QF N (rR P ops S Q fuel (listed.setIfInBounds i true)) .normal st w:=fun a ha=>⟨hS,h a ha⟩
theorem WH.all(rs:List Nat)(hr:Jo .any ops listed=rs)(a0:rs≠[])
  (h:∀i∈rs,∀o,ops[i]? = some o->WL P N ops (rR P ops S Q fuel (listed.setIfInBounds i true)) [o] st w):WH P N ops S Q (fuel+1) listed st w:=by
 intro a ha;refine wpAnyH_all hr a0 fun i hi=>?_
 have a1:∃o,ops[i]? = some o:=by
  rw[<-hr]at hi;simp only[Jo,List.mem_filter,KA]at hi;exact⟨_,Array.getElem?_eq_getElem hi.1⟩
 obtain⟨o,ho⟩:=a1;have h1:=h i hi o ho a ha;unfold wpOp;simp only[ho];unfold wpList at h1
 split
 ·rename_i hw;rw[if_pos hw]at h1;refine h1.imp (fun h2=>?_) (fun⟨h2,h3⟩=>⟨h2,h3⟩);unfold Kg at h2 ⊢;generalize (execOp a.eval o).run P w=r at *
  cases r with
  |ok n w'=>
   cases n<;>simp only[KG]at h2 ⊢<;>first
    |exact h2
    |exact JX h2 (fun e w'' he=>by cases e<;>exact he)
    |exact Mz h2 (fun _ _ he=>he)
  |halt x w'=>cases x<;>simp only[KG]at h2 ⊢<;>exact h2
 rename_i hw;rw[if_neg hw]at h1;exact h1
theorem WH.one(i:Nat){o:Jn}(hr:Jo .any ops listed=[i])(hi:ops[i]? = some o)
  (h:WL P N ops (rR P ops S Q fuel (listed.setIfInBounds i true)) [o] st w):WH P N ops S Q (fuel+1) listed st w:=
 WH.all [i] hr (by simp) fun j hj o' a0=>by
  simp only[JM]at hj;subst hj;rw[hi]at a0;cases a0;exact h
theorem bL(i j:Nat){o o':Jn}(hr:Jo .any ops listed=[i,j])(hi:ops[i]? = some o)(hj:ops[j]? = some o')
  (h:WL P N ops (rR P ops S Q fuel (listed.setIfInBounds i true)) [o] st w) (h':WL P N ops (rR P ops S Q fuel (listed.setIfInBounds j true)) [o'] st w):WH P N ops S Q (fuel+1) listed st w:=
 WH.all [i,j] hr (by simp) fun k hk q hq=>by
  simp only[List.mem_cons,List.not_mem_nil,or_false]at hk
  rcases hk with rfl|rfl
  ·rw[hi]at hq;cases hq;exact h
  rw[hj]at hq;cases hq;exact h'
theorem fm{d:Nat}{b b':Bool}(hs:cA st d=some (.bool b))(hb:b=b')(h:WH P N ops S Q fuel listed ((d,.bool b')::st) w):WH P N ops S Q fuel listed st w:=by
 subst hb;refine fun a ha=>h a ⟨ha.size,ha.defers,fun t v hv=>?_⟩
 simp only[cA]at hv
 cases hb:JR d t with
 |true=>rw[hb]at hv;have:=Ji hb;subst this;simp at hv;subst hv;exact ha.get _ _ hs
 |false=>rw[hb]at hv;exact ha.get _ _ hv
theorem WH.done(hr:Jo .any ops listed=[])(h:QF N Q .normal st w):WH P N ops S Q fuel listed st w:=fun a ha=>wpAnyH_done (Q:=Calm Q) hr (show Calm Q .normal a w from h a ha) fuel
end
section
variable(P:J7)(N:Nat)
def WS(ops:Array Jn)(w:ka)(K:JT->Prop)(l:List Jn)(st:St):Prop:=∀a,Fits N a st->wpStill P ops w K l a
end
section
variable{P:J7}{N:Nat}{ops:Array Jn}{Q:JF→JT→ka→Prop}{K:JT→Prop}{st:St}{w:ka}{rest:List Jn}
theorem WC.tail{id:Nat}{l hd tl:List Jn}(n:Nat)(ht:l.take n=hd)(a0:l.drop n=tl)(hm:P.follows .mixedOrders=true)(hB:Region.lexTailB .any l.toArray n=true)
  (h:WS P N l.toArray w.drew (fun a'=>wpList P l.toArray Q tl a' w.drew) hd st):WC P N (KE id l.toArray true) Q st w:=fun a ha=>by
 subst ht;subst a0;exact wp_region_still_tail n hm hB (h a ha)
theorem WC.still{id:Nat}{l:List Jn}(hm:P.follows .mixedOrders=true)(hB:MV .any l.toArray=true)
  (h:WS P N l.toArray w.drew (fun a'=>Q .normal a' w.drew) l st):WC P N (KE id l.toArray true) Q st w:=fun a ha=>by
 exact wp_region_still_lit hm hB (h a ha)
theorem WS.go{tl:List Jn}(h:WL P N ops Q tl st w):WS P N ops w (fun a'=>wpList P ops Q tl a' w) [] st:=fun a ha=>h a ha
theorem WS.nil(h:QF N Q .normal st w):WS P N ops w (fun a'=>Q .normal a' w) [] st:=fun a ha=>h a ha
theorem pd{op:Op}{t:ln}{p:String}{e:Array Kb}{d:Nat}{v:ix}(hv:RV P N op t st w v)(hd:J0 d N=true)
  (h:WS P N ops w K rest ((d,v)::st)):WS P N ops w K (⟨some d,op,t,p,e,none⟩::rest) st:=fun a ha=>by
 unfold wpStill;rw[if_pos (bR rfl _)];unfold N9;rw[hv a ha];exact⟨rfl,h _ (ha.put hd v)⟩
theorem IK{op:Op}{t:ln}{p:String}{e:Array Kb}{d:Option Nh}{j:Nat}{b:Bool}(hs:said ops st j=some b)
  (h:WS P N ops w K (⟨d,op,t,p,e,none⟩::rest) st):WS P N ops w K (⟨d,op,t,p,e,some (j,b)⟩::rest) st:=by
 intro a ha;have h1:=h a ha;unfold wpStill at h1 ⊢;rw[if_pos (by simp[Js])]at h1;rw[if_pos (by simp[Js,bX ha hs])];exact h1
theorem WS.off{op:Op}{t:ln}{p:String}{e:Array Kb}{d:Nat}{j:Nat}{b b':Bool}(hs:said ops st j=some b')(a0:(b'==b)=false)(hd:J0 d N=true)
  (h:WS P N ops w K rest ((d,undef)::st)):WS P N ops w K (⟨some d,op,t,p,e,some (j,b)⟩::rest) st:=by
 intro a ha;unfold wpStill;rw[if_neg (by simp[Js,bX ha hs];simpa using a0)];exact h _ (ha.put hd undef)
theorem BF{op:Op}{t:ln}{p:String}{e:Array Kb}{d:Nat}{j:Nat}{b:Bool}(hs:jx ops st j=true)(hd:J0 d N=true)
  (h:WS P N ops w K rest ((d,undef)::st)):WS P N ops w K (⟨some d,op,t,p,e,some (j,b)⟩::rest) st:=by
 intro a ha;unfold wpStill;rw[if_neg ?_]
 ·exact h _ (ha.put hd undef)
 unfold jx at hs;simp only[Js,yielded]
 cases hd:(ops[j]?).bind (·.dst)with
 |none=>rw[hd]at hs;simp at hs
 |some d=>
  rw[hd]at hs;simp only at hs
  cases hx:cA st d with
  |none=>rw[hx]at hs;simp at hs
  |some v=>
   rw[hx]at hs
   cases v<;>simp at hs
   simp[ha.get _ _ hx]
theorem cd{d:Nat}{b b':Bool}{l:List Jn}(hs:cA st d=some (.bool b))(hb:b=b')(h:WS P N ops w K l ((d,.bool b')::st)):WS P N ops w K l st:=by
 subst hb;refine fun a ha=>h a ⟨ha.size,ha.defers,fun t v hv=>?_⟩
 simp only[cA]at hv
 cases hb:JR d t with
 |true=>rw[hb]at hv;have:=Ji hb;subst this;simp at hv;subst hv;exact ha.get _ _ hs
 |false=>rw[hb]at hv;exact ha.get _ _ hv
theorem WS.call{t:ln}{p:String}{e:Array Kb}{d:Nat}{f:Kq}{args:List J3}{a2:Array ln}{vs:List ix}{v:ix}
  (hf:∀(args:Array ix) (w:ka),(callFunc f args).run P w=.ok (.enter f args) w) (a0:evs st args=some vs) (hc:Ret P f vs w fun u w'=>u=v/\w'=w) (hd:J0 d N=true)
  (h:WS P N ops w K rest ((d,v)::st)):WS P N ops w K (⟨some d,.call ⟨.value (.func f),args.toArray,a2⟩,t,p,e,none⟩::rest) st:=by
 intro a ha;unfold wpStill;rw[if_pos (bR rfl _)];unfold N9;have a1:(execOp a.eval ⟨some d,.call ⟨.value (.func f),args.toArray,a2⟩,t,p,e,none⟩).run P w=.ok (.enter f vs.toArray) w:=by
  simp only[execOp,resolve,K2,J9];rw[ha.evs a0];simp[JS,invoke,hf]
 rw[a1];refine⟨rfl,v,JX hc fun e w' q=>?_,h _ (ha.put hd v)⟩
 cases e with
 |returned u=>exact⟨by rw[q.1],q.2⟩
 |panicked c=>exact q.elim
 |outgrown=>exact q.elim
end
section
variable(P:J7)(N:Nat)
def WQ(ops:Array Jn)(C:ka->Prop)(K:JT->Prop)(l:List Jn)(st:St):Prop:=∀a,Fits N a st->wpQuiet P ops C K l a
end
section
variable{P:J7}{N:Nat}{ops:Array Jn}{C:ka→Prop}{Q:JF→JT→ka→Prop}{K:JT→Prop}{st:St}{w:ka}{rest:List Jn}
theorem xI{id:Nat}{l:List Jn}(C:ka->Prop)(hm:P.follows .mixedOrders=true)(hB:MV .any l.toArray=true)(hC:C w.drew)
  (h:WQ P N l.toArray C (fun a'=>∀w',C w'->Q .normal a' w') l st):WC P N (KE id l.toArray true) Q st w:=fun a ha=>
 wp_region_quiet (C:=C) hm hB hC (by simpa using h a ha)
theorem WQ.nil(h:∀w',C w'->QF N Q .normal st w'):WQ P N ops C (fun a'=>∀w',C w'->Q .normal a' w') [] st:=fun a ha w' a0=>h w' a0 a ha
theorem jq{op:Op}{t:ln}{p:String}{e:Array Kb}{d:Nat}{v:ix}(hv:∀w,C w->RV P N op t st w v)(hd:J0 d N=true)
  (h:WQ P N ops C K rest ((d,v)::st)):WQ P N ops C K (⟨some d,op,t,p,e,none⟩::rest) st:=fun a ha=>by
 unfold wpQuiet;rw[if_pos (bR rfl _)];exact⟨v,fun w hw=>by unfold N4;rw[hv w hw a ha];exact⟨rfl,rfl⟩,h _ (ha.put hd v)⟩
theorem WQ.call{t:ln}{p:String}{e:Array Kb}{d:Nat}{f:Kq}{args:List J3}{a2:Array ln}{vs:List ix}{v:ix}
  (hf:∀(args:Array ix) (w:ka),(callFunc f args).run P w=.ok (.enter f args) w) (a0:evs st args=some vs) (hc:∀w,C w->Ret P f vs w fun u w'=>u=v/\C w') (hd:J0 d N=true)
  (h:WQ P N ops C K rest ((d,v)::st)):WQ P N ops C K (⟨some d,.call ⟨.value (.func f),args.toArray,a2⟩,t,p,e,none⟩::rest) st:=by
 intro a ha;unfold wpQuiet;rw[if_pos (bR rfl _)];refine⟨v,fun w hw=>?_,h _ (ha.put hd v)⟩;unfold N4;have a1:(execOp a.eval ⟨some d,.call ⟨.value (.func f),args.toArray,a2⟩,t,p,e,none⟩).run P w=.ok (.enter f vs.toArray) w:=by
  simp only[execOp,resolve,K2,J9];rw[ha.evs a0];simp[JS,invoke,hf]
 rw[a1];refine⟨rfl,JX (hc w hw) fun e w' q=>?_⟩
 cases e with
 |returned u=>exact⟨by rw[q.1],q.2⟩
 |panicked c=>exact q.elim
 |outgrown=>exact q.elim
end
end Go.VL
end
section
namespace Go.VL
section
variable{κ ν:Type}{kv:κ→ix}{vv:ν→ix}
structure MapO{κ ν:Type}(kv:κ->ix)(vv:ν->ix)(O:Nat->Nat)(w:ka)(i r:Nat)(l:List (κ×ν)):Prop where
 blk:∃es clock,w.heap[r]? = some (.map es clock)/\es.toList.map (fun e=>(e.key,e.val))=l.map fun p=>(kv p.1,vv p.2)
 tag:O r=i
 born:∀es clock,w.heap[r]? = some (.map es clock)->(es.toList.map (·.born)).Nodup/\∀e∈es.toList,e.born<clock
theorem MapO.upd{S:Nat->Prop}{O O':Nat->Nat}{w w':ka}{i r:Nat}{l:List (κ×ν)}(h:MapO kv vv O w i r l)(u:Upd S O w O' w')(hi:i≠0)(hS:¬S i):MapO kv vv O' w' i r l:=by
 obtain⟨es,c,h1,h2⟩:=h.blk;have e:=u.blk r (bq h1) (by rw[h.tag];exact hS);exact⟨⟨es,c,by rw[e];exact h1,h2⟩,by rw[u.tag r (by rw[h.tag];exact hi),h.tag],fun a0 c' h'=>h.born a0 c' (by rw[<-e];exact h')⟩
theorem MapO.new(O:Nat->Nat)(w:ka)(i:Nat):MapO kv vv (lB O w.heap.size i) (w.alloc (.map #[] 0)) i w.heap.size []:=⟨⟨#[],0,heap_alloc_new w _,by simp⟩,ed _ _ _,fun es c h=>by rw[heap_alloc_new]at h;cases h;simp⟩
end
section
variable{κ ν:Type}[DecidableEq κ]
def bm:List (κ×ν)->κ->Option ν
 |[],_=>none
 |(a,x)::r,k=>if a=k then some x else bm r k
def cE:List (κ×ν)->κ->ν->List (κ×ν)
 |[],k,x=>[(k,x)]
 |(a,y)::r,k,x=>if a=k then(k,x)::r else(a,y)::cE r k x
def iU:List (κ×ν)->κ->Option Nat
 |[],_=>none
 |(a,_)::r,k=>if a=k then some 0 else(iU r k).map (· + 1)
theorem aP(l:List (κ×ν))(k k':κ)(x:ν):bm (cE l k x) k'=if k=k' then some x else bm l k':=by
 induction l with
 |nil=>simp[cE,bm]
 |cons p r ih=>
  obtain⟨a,y⟩:=p;simp only[cE]
  by_cases h:a=k
  ·subst h;simp only[if_pos,bm]
   by_cases h2:a=k'<;>simp[h2]
  simp only[if_neg h,bm]
  by_cases h2:a=k'
  ·subst h2;simp only[if_true];rw[if_neg (fun e=>h e.symm)]
  simp[h2,ih]
structure KeyL(P:J7)(K:ln)(kv:κ->ix):Prop where
 check:∀b n k w,(Lt b (n+3) K (kv k)).run P w=.ok () w
 find:∀k (es:List MI) (ks:List κ) w,es.map (·.key)=ks.map kv->(LD K (kv k) es).run P w=.ok ((ks.findIdx? (· = k)).bind fun i=>(es[i]?).map fun e=>(i,e.val)) w
 same:∀k,Ls 10000 (kv k) (kv k)=true
theorem KeyL.int{P:J7}{K:ln}{q:Jj}(hK:P.underlying K=some (.int q)):KeyL P K (fun n:Int=>LF q n):=by
 refine⟨fun b n k w=>?_,fun k es ks w h=>?_,fun k=>?_⟩
 ·simp[Lt,run_underlying hK]
 ·have key:∀(es:List MI) (ks:List Int) (j:Nat),es.map (·.key)=ks.map (fun n=>LF q n)->
    Kl (.int q) (.int q k) es j=some ((ks.findIdx? (· = k)).bind fun i=>(es[i]?).map fun e=>(j+i,e.val)):=by
   intro es
   induction es with
   |nil=>intro ks j h;cases ks with
    |nil=>simp[Kl]
    |cons a r=>simp at h
   |cons e es ih=>
    intro ks j h
    cases ks with
    |nil=>simp at h
    |cons a r=>
     simp only[Jm,M1]at h;simp only[Kl,h.1,MT,if_true]
     by_cases hk:k=a
     ·subst hk;simp[Ke]
     have:(k==a)=false:=by simpa using hk
     rw[this];simp only;rw[ih r (j+1) h.2];simp only[Ke,decide_eq_true_eq];rw[if_neg (fun e=>hk e.symm)]
     cases hf:MW (fun x=>decide (x=k)) r with
     |none=>simp
     |some i=>simp[LJ,LW 1]
  have:=key es ks 0 h;simp only[JQ]at this;simp[LD,run_underlying hK,this]
 simp[Ls]
theorem Dz(a b:ByteArray):(a==b)=decide (a=b):=by
 cases a with|mk a=>cases b with|mk b=>
 show(a==b)=_
 by_cases h:a=b
 ·subst h;simp
 have:(a==b)=false:=by simpa using h
 rw[this];symm;simpa using h
theorem Db{P:J7}{K:ln}(hK:P.underlying K=some .string):KeyL P K L1:=by
 refine⟨fun b n k w=>?_,fun k es ks w h=>?_,fun k=>?_⟩
 ·simp[Lt,run_underlying hK]
 ·have key:∀(es:List MI) (ks:List ByteArray) (j:Nat),es.map (·.key)=ks.map L1->
    Kl .string (.string k) es j=some ((ks.findIdx? (· = k)).bind fun i=>(es[i]?).map fun e=>(j+i,e.val)):=by
   intro es
   induction es with
   |nil=>intro ks j h;cases ks with
    |nil=>simp[Kl]
    |cons a r=>simp at h
   |cons e es ih=>
    intro ks j h
    cases ks with
    |nil=>simp at h
    |cons a r=>
     simp only[Jm,M1]at h;simp only[Kl,h.1,MT,Dz]
     by_cases hk:k=a
     ·subst hk;simp[Ke]
     have:decide (k=a)=false:=by simpa using hk
     rw[this];simp only;rw[ih r (j+1) h.2];simp only[Ke,decide_eq_true_eq];rw[if_neg (fun e=>hk e.symm)]
     cases hf:MW (fun x=>decide (x=k)) r with
     |none=>simp
     |some i=>simp[LJ,LW 1]
  have:=key es ks 0 h;simp only[JQ]at this;simp[LD,run_underlying hK,this]
 simp[Ls,Dz]
variable{kv:κ→ix}{vv:ν→ix}
theorem ec:∀(l:List (κ×ν)) (k:κ),(l.map (·.1)).findIdx? (· = k)=iU l k
 |[],k=>rfl
 |(a,x)::r,k=>by
  simp only[Jm,Ke,iU,decide_eq_true_eq]
  by_cases h:a=k
  ·simp[h]
  simp only[if_neg h];rw[ec r k]
theorem kU:∀(l:List (κ×ν)) (k:κ),bm l k=(iU l k).bind fun i=>(l[i]?).map (·.2)
 |[],k=>rfl
 |(a,x)::r,k=>by
  simp only[bm,iU]
  by_cases h:a=k
  ·simp[h]
  simp only[if_neg h];rw[kU r k]
  cases iU r k<;>simp
theorem eu:∀(l:List (κ×ν)) (k:κ) (x:ν),cE l k x=match iU l k with
  |some i=>l.set i (k,x)
  |none=>l++[(k,x)]
 |[],k,x=>rfl
 |(a,y)::r,k,x=>by
  simp only[cE,iU]
  by_cases h:a=k
  ·simp[h]
  simp only[if_neg h];rw[eu r k x]
  cases iU r k<;>simp
theorem iq:∀ {l:List (κ×ν)} {k:κ} {i:Nat},iU l k=some i->∃x,l[i]? = some (k,x)
 |(a,x)::r,k,i,h=>by
  simp only[iU]at h
  by_cases hk:a=k
  ·subst hk;simp at h;subst h;exact⟨x,rfl⟩
  rw[if_neg hk]at h
  cases hr:iU r k with
  |none=>rw[hr]at h;simp at h
  |some j=>
   rw[hr]at h;simp at h;subst h;obtain⟨y,hy⟩:=iq hr;exact⟨y,by simpa using hy⟩
def FJ(vv:ν->ix)(z:ix):Option ν->ix
 |some x=>vv x
 |none=>z
def DB(vv:ν->ix)(z:ix):Option ν->ix
 |some x=>.tuple #[vv x,.bool true]
 |none=>.tuple #[z,.bool false]
theorem jf{P:J7}{T K E:ln}(hT:P.underlying T=some (.map K E))(hK:KeyL P K kv){O:Nat->Nat}{w:ka}{i r:Nat}{l:List (κ×ν)}(h:MapO kv vv O w i r l){z:ix}(hz:(Ki E).run P w=.ok z w)(k:κ)(ok:Bool):
  (MX T (.map (some r)) (kv k) ok).run P w=.ok (match bm l k with
   |some x=>if ok then .tuple #[vv x,.bool true]else vv x
   |none=>if ok then .tuple #[z,.bool false]else z) w:=by
 obtain⟨es,c,h1,h2⟩:=h.blk;have a0:es.toList.map (·.key)=(l.map (·.1)).map kv:=by
  have:=congrArg (Lz MQ) h2;simpa[LX]using this
 have hf:=hK.find k es.toList (l.map (·.1)) w a0;rw[ec]at hf;have hc:=hK.check es.isEmpty 9997 k w;simp only[MX,J8,run_underlying hT,J2];simp only[getObj,Lw,h1,J8,J2,Jv,hc,hf];rw[kU]
 cases hi:iU l k with
 |none=>simp[hz]
 |some j=>
  obtain⟨x,hx⟩:=iq hi;have hj:es.toList[j]?.map (fun e=>(e.key,e.val))=some (kv k,vv x):=by
   have:=congrArg (fun l=>l[j]?) h2;simpa[hx]using this
  cases he:es.toList[j]? with
  |none=>rw[he]at hj;simp at hj
  |some e'=>
   rw[he]at hj;simp at hj;simp only[Mg,he,hx,JO,hj.2]
   cases ok<;>simp
theorem dH{P:J7}{T K E:ln}(hT:P.underlying T=some (.map K E))(hK:KeyL P K kv){O:Nat->Nat}{w:ka}{i r:Nat}{l:List (κ×ν)}(h:MapO kv vv O w i r l)(a':i≠0)(k:κ)(x:ν):
  ∃w',(Lh T (.map (some r)) (kv k) (vv x)).run P w=.ok () w'/\MapO kv vv O w' i r (cE l k x)/\Upd (fun j=>j=i) O w O w':=by
 obtain⟨es,c,h1,h2⟩:=h.blk;have a9:es.toList.map (·.key)=(l.map (·.1)).map kv:=by
  have:=congrArg (Lz MQ) h2;simpa[LX]using this
 have hf:=hK.find k es.toList (l.map (·.1)) w a9;rw[ec]at hf;have hc:=hK.check false 9997 k w;have hr:=bq h1;have a8:es.size=l.length:=by have:=congrArg List.length h2;simpa using this
 have a1:=h.born es c h1;have a6:∀(a0:Array MI) (c':Nat),((a0.toList.map (·.born)).Nodup/\∀e∈a0.toList,e.born<c')->a0.toList.map (fun e=>(e.key,e.val))=(cE l k x).map (fun p=>(kv p.1,vv p.2))->
   MapO kv vv O { w with heap:=w.heap.setIfInBounds r (.map a0 c') } i r (cE l k x)/\Upd (fun j=>j=i) O w O { w with heap:=w.heap.setIfInBounds r (.map a0 c') }:=by
  intro a0 c' a4 he;refine⟨⟨⟨a0,c',by simp[hr],he⟩,h.tag,fun b0 c2 h2=>by simp[hr]at h2;obtain⟨rfl,rfl⟩:=h2;exact a4⟩,⟨rfl,rfl,rfl,by simp,fun b _ hn=>?_,fun _ _=>rfl,fun _ h=>.inl h,fun h=>a' h.symm⟩⟩;simp only[Lj];rw[if_neg (fun e=>hn (by rw[<-e];exact h.tag))]
 have a2:(Lh T (.map (some r)) (kv k) (vv x)).run P w=((match ((iU l k).bind fun i=>(es.toList[i]?).map fun e=>(i,e.val))with
   |some (i,_)=>do
    let key <-KY (((es[i]?).map (·.key)).getD (kv k)) (kv k)
    setObj r (.map (es.modify i fun e=>{ e with key,val:=vv x }) c)
   |none=>setObj r (.map (es.push { key:=kv k,val:=vv x,born:=c }) (c+1)):Sem Unit)).run P w:=by
  simp only[Lh,J8,run_underlying hT,J2];simp only[getObj,Lw,h1,J8,J2,hc,hf];generalize ((iU l k).bind fun i=>Option.map (fun e=>(i,e.val)) es.toList[i]?)=q
  cases q with
  |none=>rfl
  |some p=>rfl
 rw[a2,eu]
 cases hi:iU l k with
 |none=>
  refine⟨_,by simp only[Option.bind_none,setObj,Lw,h1];rfl,?_⟩
  have:=a6 (es.push { key:=kv k,val:=vv x,born:=c }) (c+1) (by
   refine⟨?_,?_⟩
   ·simp only[Mk,List.map_append,Jm,JB];refine List.nodup_append.2 ⟨a1.1,by simp,?_⟩;intro a ha b hb;obtain⟨e,he,rfl⟩:=L6.1 ha;have:=a1.2 e he;simp at hb;omega
   intro e he;simp only[Mk,Ln,JM]at he
   rcases he with he|rfl
   ·have:=a1.2 e he;omega
   simp) (by rw[eu,hi];simp[h2])
  rw[eu,hi]at this;exact this
 |some j=>
  obtain⟨y,hy⟩:=iq hi;have hj:es.toList[j]?.map (fun e=>(e.key,e.val))=some (kv k,vv y):=by
   have:=congrArg (fun l=>l[j]?) h2;simpa[hy]using this
  cases he:es.toList[j]? with
  |none=>rw[he]at hj;simp at hj
  |some e'=>
   rw[he]at hj;simp at hj;have a3:es[j]? = some e':=by simpa using he
   have a7:(KY (kv k) (kv k))=pure (kv k):=by simp[KY,hK.same k]
   refine⟨_,by simp only[Mg,he,JO,a3,hj.1,Option.getD_some,a7,J8,Jv,J2,setObj,Lw,h1];rfl,?_⟩;have a5:((es.modify j fun e=>{ e with key:=kv k,val:=vv x }).toList.map (·.born))=es.toList.map (·.born):=by
    simp only[M4];apply Mw;intro m;simp only[L7,M0]
    split
    ·cases es.toList[m]?<;>simp
    cases es.toList[m]?<;>simp
   have:=a6 (es.modify j fun e=>{ e with key:=kv k,val:=vv x }) c (by
    rw[a5];refine⟨a1.1,fun e he=>?_⟩;have:e.born∈es.toList.map (·.born):=by rw[<-a5];exact L6.2 ⟨e,he,rfl⟩
    obtain⟨e2,a3,q⟩:=L6.1 this;have:=a1.2 e2 a3;omega) (by
    rw[eu,hi];simp only[M4];apply Mw;intro m;have h2m:=congrArg (fun l=>l[m]?) h2;simp only[L7]at h2m;simp only[L7,M0,List.getElem?_set]
    by_cases hm:j=m
    ·subst hm;have hl:j<l.length:=(Jq.1 hy).1;simp[he,hl]
    simp only[if_neg hm]
    simpa using h2m)
   rw[eu,hi]at this;exact this
section
variable{P:J7}{N:Nat}{ops:Array Jn}{Q:JF→JT→ka→Prop}{rest:List Jn}{st:St}{w:ka}
variable{t:ln}{p:String}{e:Array Kb}{d:Nat}{x y z:J3}
theorem WL.makeMap{T:ln}(hd:J0 d N=true)(h:WL P N ops Q rest ((d,.map (some w.heap.size))::st) (w.alloc (.map #[] 0))):WL P N ops Q (⟨some d,.makeMap T none,t,p,e,none⟩::rest) st w:=
 WL.val hd (fun a ha=>by simp only[execOp,JY,J8];rfl) h
theorem RV.lookup{T K E:ln}{O:Nat->Nat}{i r:Nat}{l:List (κ×ν)}(hm:MapO kv vv O w i r l)(hT:P.underlying T=some (.map K E))(hK:KeyL P K kv){z:ix}(hz:(Ki E).run P w=.ok z w)
  (k:κ) {kx u:ix} (hx:ev st x=some (.map (some r))) (hy:ev st y=some kx) (hk:kx=kv k) (hu:FJ vv z (bm l k)=u):RV P N (.lookup T x y false) t st w u:=
 fun a ha a0 p e g=>by
  subst hk;subst hu;simp only[execOp,ha.ev hx,ha.ev hy,J8,jf hT hK hm hz]
  cases bm l k<;>simp[FJ]
theorem cN{T K E:ln}{O:Nat->Nat}{i r:Nat}{l:List (κ×ν)}(hm:MapO kv vv O w i r l)(hT:P.underlying T=some (.map K E))(hK:KeyL P K kv){z:ix}(hz:(Ki E).run P w=.ok z w)
  (k:κ) {kx u:ix} (hx:ev st x=some (.map (some r))) (hy:ev st y=some kx) (hk:kx=kv k) (hu:DB vv z (bm l k)=u):RV P N (.lookup T x y true) t st w u:=
 fun a ha a0 p e g=>by
  subst hk;subst hu;simp only[execOp,ha.ev hx,ha.ev hy,J8,jf hT hK hm hz]
  cases bm l k<;>simp[DB]
theorem WL.mapUpdate{T K E:ln}{O:Nat->Nat}{i r:Nat}{l:List (κ×ν)}(hm:MapO kv vv O w i r l)(hT:P.underlying T=some (.map K E))(hK:KeyL P K kv)(a0:i≠0)
  (k:κ) (u:ν) {kx ux:ix} (hx:ev st x=some (.map (some r))) (hy:ev st y=some kx) (hz:ev st z=some ux) (hk:kx=kv k) (hu:ux=vv u)
  (h:∀w',MapO kv vv O w' i r (cE l k u)->Upd (fun j=>j=i) O w O w'->WL P N ops Q rest st w'):WL P N ops Q (⟨none,.mapUpdate T x y z,t,p,e,none⟩::rest) st w:=by
 subst hk;subst hu;obtain⟨w',h1,h2,h3⟩:=dH hT hK hm a0 k u;exact ir (fun a ha=>by simp only[execOp,ha.ev hx,ha.ev hy,ha.ev hz,J8,h1,J2,Jv]) (h w' h2 h3)
end
end
end Go.VL
end
section
namespace Go.VL
theorem FF{α:Type}[Inhabited α]{l:List α}{p:α->Bool}(h:∀j,j<l.length->p (nth l j)=true):l.all p=true:=by
 rw[ME];intro x hx;obtain⟨i,hi,rfl⟩:=Kp hx;rw[<-aB hi];exact h i hi
theorem uN{α:Type}[Inhabited α]{l:List α}{p:α->Bool}{j:Nat}(hj:j<l.length)(h:p (nth l j)=false):l.all p=false:=by
 rw[List.all_eq_false];exact⟨l[j],K7 hj,by rw[<-aB hj,h];simp⟩
theorem aI{α:Type}[Inhabited α]{l:List α}{j:Nat}(hj:j<l.length):nth l j∈l:=by rw[aB hj];exact K7 hj
theorem aM{α:Type}[Inhabited α]{l:List α}{j:Nat}(hj:j<l.length):l.take (j+1)=l.take j++[nth l j]:=by
 rw[L4 hj,aB hj]
theorem cG{α:Type}[Inhabited α]{l:List α}{x:α}(hx:x∈l):∃j,j<l.length/\nth l j=x:=by
 obtain⟨i,hi,rfl⟩:=Kp hx;exact⟨i,hi,aB hi⟩
def jc(q:Nat->Bool)(n:Nat):Bool:=(K6 n).any q
theorem eL{q:Nat->Bool}{n:Nat}:jc q n=true↔∃i,i<n/\q i=true:=by simp[jc]
theorem cF{q:Nat->Bool}{n:Nat}:jc q n=false↔∀i,i<n->q i=false:=by simp[jc]
theorem yR{q r:Nat->Bool}{n:Nat}(h:∀i,i<n->q i=r i):jc q n=jc r n:=by
 cases hq:jc r n with
 |true=>obtain⟨i,hi,hr⟩:=eL.1 hq;exact eL.2 ⟨i,hi,by rw[h i hi,hr]⟩
 |false=>exact cF.2 fun i hi=>by rw[h i hi];exact cF.1 hq i hi
theorem im{α:Type}[Inhabited α]{l:List α}{p:α->Bool}:jc (fun i=>p (nth l i)) l.length=l.any p:=by
 cases h:l.any p with
 |true=>
  obtain⟨x,hx,hp⟩:=List.any_eq_true.1 h;obtain⟨i,hi,rfl⟩:=cG hx;exact eL.2 ⟨i,hi,hp⟩
 |false=>exact cF.2 fun i hi=>by have:=List.any_eq_false.1 h _ (aI hi);simpa using this
def dC(q:Nat->Bool)(n:Nat):Int:=match (K6 n).find? q with
 |some i=>i
 |none=>-1
theorem cC{q:Nat->Bool}{n:Nat}(h:∀i,i<n->q i=false):dC q n = -1:=by
 have:(K6 n).find? q=none:=by rw[KB];intro x hx;simp[h x (KA.1 hx)]
 rw[dC,this]
theorem cD{q:Nat->Bool}{n k:Nat}(hk:k<n)(hy:q k=true)(a0:∀i,i<k->q i=false):dC q n=k:=by
 have:(K6 n).find? q=some k:=by
  rw[List.find?_range_eq_some];exact⟨hy,KA.2 hk,fun j hj=>by simp[a0 j hj]⟩
 rw[dC,this]
theorem firstN_any{q:Nat->Bool}{n:Nat}:decide ((0:Int)<=dC q n)=jc q n:=by
 cases h:jc q n with
 |false=>rw[cC (cF.1 h)];rfl
 |true=>
  obtain⟨i,hi,hq⟩:=eL.1 h;have:∃j,(K6 n).find? q=some j:=by
   cases hf:(K6 n).find? q with
   |some j=>exact⟨j,rfl⟩
   |none=>rw[KB]at hf;exact absurd hq (hf i (KA.2 hi))
  obtain⟨j,hj⟩:=this;rw[dC,hj];simp
theorem eF{α:Type}[Inhabited α]{l:List α}{j:Nat}(h:l.length<=j):nth l j=default:=by simp[nth,JN,KQ h]
theorem aQ{α:Type}[Inhabited α]{l:List α}{i j:Nat}{x:α}(hi:i<l.length):nth (l.set i x) j=if j=i then x else nth l j:=by
 by_cases hj:j<l.length
 ·rw[aB (by simpa using hj),aB hj,List.getElem_set]
  by_cases h:i=j<;>simp[h,eq_comm]
 rw[if_neg zo];have:∀l:List α,l.length<=j->nth l j=default:=fun l h=>by simp[nth,JN,KQ h]
 rw[this _ (by simp;omega),this _ zo]
theorem aA{α:Type}[Inhabited α]{l r:List α}{j:Nat}:nth (l++r) j=if j<l.length then nth l j else nth r (j-l.length):=by
 split
 ·rename_i h;rw[aB (by simp;omega),aB h,Kc h]
 rename_i h
 by_cases hj:j-l.length<r.length
 ·rw[aB (by simp;omega),aB hj,K8 zo]
 have:∀(l:List α) (j:Nat),l.length<=j->nth l j=default:=fun l j h=>by simp[nth,JN,KQ h]
 rw[this _ _ (by simp;omega),this _ _ zo]
theorem eE{α β:Type}[Inhabited α][Inhabited β]{f:α->β}{l:List α}{i:Nat}(h:i<l.length):nth (l.map f) i=f (nth l i):=by
 rw[aB (by simpa using h),aB h];simp
end Go.VL
end
section
namespace Go.VL
open Go.ChangeShapes Go.WideShapes Go.ChangeAt Go.RowKit Go.Deep
variable{H:Type}{enc:ln×ix→H}{P:J7}{w:ka}{base:Nat}{held:Bool}
theorem BS{f:Kq}{args:List ix}(h:Ret P f args w fun v w'=>v=.bool true/\Ext w w'):Calls P f args.toArray w fun e w'=>e=.returned (.bool true)/\Below w.heap.size w w':=
 JX h fun e w' q=>by
  cases e with
  |returned v=>exact⟨by rw[q.1],q.2⟩
  |panicked c=>exact q.elim
  |outgrown=>exact q.elim
end Go.VL
end
section
namespace Go.VL
open Go.ChangeShapes Go.WideShapes Go.ChangeAt Go.RowKit Go.Deep
section
variable{H:Type}{enc:ln×ix→H}{P:J7}{w:ka}{base:Nat}{held:Bool}
def Rd(enc:ln×ix->H)(P:J7)(w:ka)(base:Nat)(held:Bool)(t:ln)(cs:List ix):Prop:=∃fuel x,KI enc P w base (fun _=>true) held fuel t cs=some x
theorem GN{t:ln}{v:ix}{d:DataW H}{ps:List MemPlace}(h:DataW.Trod enc P w base (fun _=>true) held t v d ps):Rd enc P w base held t v.cells.toList:=by
 obtain⟨a0,hf⟩:=h;exact⟨a0,_,hf⟩
theorem Rd.int{t:ln}{k:Jj}{cs:List ix}(ht:P.underlying t=some (.int k))(h:Rd enc P w base held t cs):∃n,cs=[.int k n]/\(Nz k n).wf=true:=by
 obtain⟨a0,x,h⟩:=h
 cases a0 with
 |zero=>simp[KI]at h
 |succ m=>
  unfold KI at h;rw[ht]at h
  split at h<;>simp_all
theorem Rd.bool{t:ln}{cs:List ix}(ht:P.underlying t=some .bool)(h:Rd enc P w base held t cs):∃b,cs=[.bool b]:=by
 obtain⟨a0,x,h⟩:=h
 cases a0 with
 |zero=>simp[KI]at h
 |succ m=>
  unfold KI at h;rw[ht]at h
  split at h<;>simp_all
theorem Rd.struct{t:ln}{fs:Array Lu}{cs:List ix}(ht:P.underlying t=some (.struct fs))(h:Rd enc P w base held t cs):
  cs.length=P.cellsOf t/\∀(i:Nat) (f:Lu),fs[i]? = some f->Rd enc P w base held f.type ((cs.drop f.offset).take (P.cellsOf f.type)):=by
 obtain⟨a1,x,h⟩:=h;obtain⟨xs,m,rfl,rfl,hl,a0,hf⟩:=DataW.trod_struct ht h;refine⟨hl,fun i f hi=>?_⟩;have h1:=hf i f hi;have a2:i<fs.size:=(Kz.1 hi).1;rw[Ju zo]at h1;exact⟨m,_,h1⟩
def CW(P:J7):List Lu->Nat->Bool
 |[],_=>true
 |f::r,i=>JR f.offset i&&JR (P.cellsOf f.type) 1&&CW P r (i+1)
theorem xo:∀(fs:List Lu) (k i:Nat) (f:Lu),CW P fs k=true->fs[i]? = some f->f.offset=k+i/\P.cellsOf f.type=1
 |[],_,_,_,_,h=>by simp at h
 |g::r,k,i,f,hb,h=>by
  simp only[CW,JW]at hb
  cases i with
  |zero=>simp only[List.getElem?_cons_zero,Ko]at h;subst h;exact⟨by simpa using Ji hb.1.1,Ji hb.1.2⟩
  |succ i=>have:=xo r (k+1) i f hb.2 (by simpa using h);exact⟨zo,this.2⟩
theorem Rd.flat{t:ln}{fs:List Lu}{cs:List ix}(ht:P.underlying t=some (.struct fs.toArray))(hb:CW P fs 0=true)(hn:P.cellsOf t=fs.length)(h:Rd enc P w base held t cs):
  cs.length=fs.length/\∀(i:Nat) (f:Lu),fs[i]? = some f->∃v,cs[i]? = some v/\Rd enc P w base held f.type [v]:=by
 obtain⟨hl,hf⟩:=h.struct ht;refine⟨by rw[hl,hn],fun i f hi=>?_⟩;obtain⟨h1,h2⟩:=xo fs 0 i f hb hi;have hr:=hf i f (by simpa using hi);have a0:i<cs.length:=by rw[hl,hn];exact(Jq.1 hi).1
 rw[h1,h2,JQ]at hr;refine⟨cs[i],Ju a0,?_⟩
 rwa[List.drop_eq_getElem_cons a0,List.take_succ_cons,Lx]at hr
theorem Rd.slice{t e:ln}{sz:Nat}{cs:List ix}(ht:P.underlying t=some (.slice e))(ce:P.cellsOf e=sz)(hz:0<sz)(h:Rd enc P w base held t cs):
  ∃v xs,cs=[v]/\Sl (fun c:List ix=>c) sz w v xs/\∀c∈xs,c.length=sz/\Rd enc P w base held e c:=by
 obtain⟨a5,x,h⟩:=h
 rcases open_slice ht h with⟨rfl,_⟩|⟨a,len,a6,m,n,D,Pl,rfl,hb,hl,hm,a3,rfl,hx⟩
 ·exact⟨_,[],rfl,⟨⟨none,0,rfl,J4 _,zo,fun h=>absurd rfl h⟩,fun i hi=>absurd hi (by simp)⟩,by simp⟩
 simp only[if_true]at a3;subst a3;obtain⟨V,hV⟩:=choose_lt (α:=List ix) (p:=fun i c=>w.cells? base (a.add (i*P.cellsOf e)) (P.cellsOf e)=some c/\KI enc P w base (fun _=>true) held n e c=some (D i,Pl i)) hx;rw[ce]at hV;have hc:∀i,i<len->∀j u,(V i)[j]? = some u->w.cell? (a.add (i*sz+j))=some u:=fun i hi j u hu=>by
  obtain⟨_,a0,a1⟩:=Mf (hV i zo).1;have hj:j<sz:=by have:=(Jq.1 hu).1;omega
  have:=a1 j hj;rw[add_add]at this;rw[this,hu]
 have a0:∀i,i<len->(V i).length=sz:=fun i hi=>(Mf (hV i zo).1).2.1
 have a2:((K6 len).map V).length=len:=by simp
 refine⟨_,(K6 len).map V,rfl,⟨⟨some a,m,by rw[a2],zo,by simpa[maxLen]using hm,fun h=>?_⟩,fun i hi j u hu=>?_⟩,fun c a4=>?_⟩
 ·rw[a2]at h;have h0:0<(V 0).length:=by rw[a0 0 zo];exact hz
  have:=hc 0 zo 0 _ (Ju h0);obtain⟨b,o,s⟩:=a;have hs:s=none:=by simpa[Jw]using Mu this
  subst hs;exact⟨b,o,rfl⟩
 ·rw[a2]at hi;have h0:0<(V 0).length:=by rw[a0 0 zo];exact hz
  have h1:=hc 0 zo 0 _ (Ju h0);obtain⟨b,o,s⟩:=a;have hs:s=none:=by simpa[Jw]using Mu h1
  subst hs;simp only[List.getElem_map,Mi]at hu;have h2:=hc i hi j u hu;simp only[adr];have e1:((⟨b,o,none⟩:JL).add (i*sz+j))=((⟨b,o+i*sz,none⟩:JL).add j):=by
   simp only[Jw];split<;>split<;>simp_all<;>omega
  rw[e1]at h2;exact h2
 simp only[L6,KA]at a4;obtain⟨i,hi,rfl⟩:=a4;exact⟨a0 i hi,n,_,(hV i zo).2⟩
theorem uU{α β:Type}{f:α->β}{R:α->Prop}:∀(xs:List β),(∀c∈xs,∃a,c=f a/\R a)->∃ys:List α,xs=ys.map f/\∀y∈ys,R y
 |[],_=>⟨[],rfl,by simp⟩
 |c::xs,h=>by
  obtain⟨a,ha,hR⟩:=h c (by simp);obtain⟨ys,hy,hr⟩:=uU xs (fun c hc=>h c (by simp[hc]));exact⟨a::ys,by simp[ha,hy],by simpa[hR]using hr⟩
theorem Sl.of_map{α β:Type}{enc:β->List ix}{f:α->β}{sz:Nat}{v:ix}{ys:List α}(h:Sl enc sz w v (ys.map f)):Sl (fun a=>enc (f a)) sz w v ys:=by
 refine⟨by simpa using h.shape,fun i hi j u hu=>h.cells i (by simpa using hi) j u (by simpa using hu)⟩
theorem Rd.sliceOf{α:Type}{f:α->List ix}{R:α->Prop}{t e:ln}{sz:Nat}{cs:List ix}(ht:P.underlying t=some (.slice e))(ce:P.cellsOf e=sz)(hz:0<sz)(a0:∀c,Rd enc P w base held e c->∃a,c=f a/\R a)(h:Rd enc P w base held t cs):
  ∃v xs,cs=[v]/\Sl f sz w v xs/\∀a∈xs,R a:=by
 obtain⟨v,xs,rfl,hs,hx⟩:=h.slice ht ce hz;obtain⟨ys,rfl,hy⟩:=uU (f:=f) (R:=R) xs fun c hc=>a0 c (hx c hc).2
 exact⟨v,ys,rfl,hs.of_map,hy⟩
theorem Rd.ints{k:Jj}{t e:ln}{cs:List ix}(ht:P.underlying t=some (.slice e))(he:P.underlying e=some (.int k))(ce:P.cellsOf e=1)(h:Rd enc P w base held t cs):
 ∃v zs,cs=[v]/\Sl (fun n=>[LF k n]) 1 w v zs/\∀n∈zs,(Nz k n).wf=true:=h.sliceOf ht ce zd (fun _ hc=>hc.int he)
end
end Go.VL
end
section
namespace Go.VL
def evp(st:St):List (Nat×J3)->Option (List (Nat×ix))
 |[]=>some []
 |(i,x)::r=>match ev st x,evp st r with
  |some v,some vs=>some ((i,v)::vs)
  |_,_=>none
section
variable{P:J7}{N:Nat}{ops:Array Jn}{Q:JF→JT→ka→Prop}{rest:List Jn}{st:St}{w:ka}
variable{t:ln}{p:String}{e:Array Kb}{d:Nat}{x y z:J3}
theorem Fits.evp{a:JT}(ha:Fits N a st):∀ {l:List (Nat×J3)} {vs:List (Nat×ix)},evp st l=some vs->l.map (fun q=>(q.1,a.eval q.2))=vs:=by
 intro l
 induction l with
 |nil=>intro vs h;simpa[VL.evp]using h.symm
 |cons q r ih=>
  obtain⟨i,x⟩:=q;intro vs h;simp only[VL.evp]at h
  cases h1:VL.ev st x with
  |none=>rw[h1]at h;simp at h
  |some v=>
   cases h2:VL.evp st r with
   |none=>rw[h1,h2]at h;simp at h
   |some vs'=>
    rw[h1,h2]at h;simp at h;subst h;rw[Jm,ha.ev h1,ih h2]
def ck(P:J7)(T:ln)(pl:Array (Nat×Nat)):Prop:=
 ∃fs,P.underlying T=some (.struct fs)/\∀w,(fs.mapM fun f=>do pure (f.offset,<-JI f.type):Sem (Array (Nat×Nat))).run P w=.ok pl w
theorem RV.build{T:ln}{pl:Array (Nat×Nat)}{parts:List (Nat×J3)}{vs:List (Nat×ix)}{z:ix}{cells:Array ix}(hp:ck P T pl)(hz:(Ki T).run P w=.ok z w)
  (hv:evp st parts=some vs) (hf:Kx (pl[·]?) z.cells vs=some cells):RV P N (.build T parts.toArray) t st w (.agg cells):=
 fun a ha a1 p e g=>by
  obtain⟨fs,hu,a0⟩:=hp;have h1:=ha.evp hv;have e1:(Lz (fun x:Nat×J3=>match x with|(i,x)=>(i,a.eval x)) parts)=vs:=by rw[<-h1]
  simp only[execOp,N5,J9,e1,J8,hz,J2,run_underlying hu,a0,hf,Jv]
theorem fill_flat(pl:Array (Nat×Nat)):∀(vs:List (Nat×ix)) (cells:Array ix),(vs.all fun q=>q.2.oneCell')=true->
  (vs.all fun q=>match pl[q.1]? with|some (off,1)=>J0 off cells.size|_=>false)=true->
  Kx (pl[·]?) cells vs=some (vs.foldl (fun cs q=>cs.setIfInBounds (pl.getD q.1 (0,0)).1 q.2) cells)
 |[],cells,_,_=>rfl
 |(i,v)::r,cells,h1,h2=>by
  simp only[JC,JW]at h1 h2;obtain⟨hv,h1⟩:=h1;obtain⟨hi,h2⟩:=h2
  cases hp:pl[i]? with
  |none=>rw[hp]at hi;simp at hi
  |some q=>
   obtain⟨off,s⟩:=q;rw[hp]at hi
   split at hi
   ·rename_i he;simp only[Ko,MA]at he;obtain⟨rfl,rfl⟩:=he;have a2:off<cells.size:=Kj hi;have hc:v.cells = #[v]:=by cases v<;>first|rfl|simp[JK]at hv
    have hg:pl.getD i (0,0)=(off,1):=by simp[J6,hp]
    have a0:∀(f:Array ix->ix×Nat->Array ix),(∀cs c j,f cs (c,j)=cs.setIfInBounds (off+j) c)->(#[v].zipIdx).foldl f cells=cells.setIfInBounds off v:=fun f hf=>by
     rw[show(#[v].zipIdx) = #[(v,0)]from rfl];show f cells (v,0)=_;rw[hf];rfl
    have a1:¬(1≠1\/off+1>cells.size):=zo;simp only[Kx,hp,hc,MK,hg];have e1:((#[v].size:Nat))=1:=rfl;simp only[e1];rw[if_neg (by simp;omega)];rw[a0 _ (fun _ _ _=>rfl)];exact fill_flat pl r _ h1 (by simpa using h2)
   cases hi
theorem aF{T:ln}{pl:Array (Nat×Nat)}{parts:List (Nat×J3)}{vs:List (Nat×ix)}{z:ix}{cells:Array ix}(hp:ck P T pl)(hz:(Ki T).run P w=.ok z w)
  (hv:evp st parts=some vs) (h1:(vs.all fun q=>q.2.oneCell')=true) (h2:(vs.all fun q=>match pl[q.1]? with|some (off,1)=>J0 off z.cells.size|_=>false)=true)
  (hf:vs.foldl (fun cs q=>cs.setIfInBounds (pl.getD q.1 (0,0)).1 q.2) z.cells=cells):RV P N (.build T parts.toArray) t st w (.agg cells):=
 RV.build hp hz hv (by rw[fill_flat pl vs _ h1 h2,hf])
theorem su{O:Nat->Nat}{i b:Nat}{cs us:Array ix}{E T:ln}(hb:BlkO O w i b cs E)(hs:us.size=cs.size)(hT:(JI T).run P w=.ok us.size w)(h1:∀u∈us.toList,u.oneCell'=true):
  (KV T (nP b) (.agg us)).run P w=.ok () (w.setRow b us):=by
 have:=run_storeCells_at P b 0 E us.toList 0 cs w hb.blk (by simp[hs]) h1;simp only[JQ,Lx,Lm,M5]at this;rw[LN (by simp[hs]),MN]at this;simp only[KV,JV,storeVar,J8,Jv,J2,LQ,hT];simpa using this
theorem BlkO.setRow{O:Nat->Nat}{w:ka}{i b:Nat}{cs us:Array ix}{E:ln}(h:BlkO O w i b cs E):BlkO O (w.setRow b us) i b us E:=
 ⟨setRow_heap w b cs us E (0,0) h.blk,h.tag⟩
theorem Upd.setRow{S:Nat->Prop}(hz:¬S 0){O:Nat->Nat}{w:ka}{i b:Nat}{us:Array ix}(ht:O b=i)(hS:S i):Upd S O w O (w.setRow b us):=
 ⟨rfl,rfl,rfl,by simp,fun k _ hn=>setRow_other w b k _ (fun e=>hn (by subst e;rw[ht];exact hS)),fun _ _=>rfl,fun _ h=>.inl h,hz⟩
theorem bu{T:ln}{O:Nat->Nat}{i b:Nat}{cs us:Array ix}{E:ln}(hb:BlkO O w i b cs E)(hs:us.size=cs.size)(hT:(JI T).run P w=.ok us.size w)(h1:us.toList.all JK=true)
  {q:JL} (hx:ev st x=some (.pointer (some q))) (hq:q=⟨b,0,none⟩) (hy:ev st y=some (.agg us))
  (h:WL P N ops Q rest st (w.setRow b us)):WL P N ops Q (⟨none,.store T x y,t,p,e,none⟩::rest) st w:=
 ir (fun a ha=>by
  subst hq
  simp only[execOp,ha.ev hx,ha.ev hy,J8,su hb hs hT (ME.1 h1),J2,Jv]) h
theorem aE{B:Nat}{O:Nat->Nat}(r:Rng B O w)(i:Nat)(a0:i≠0){E:ln}{v:ix}(hx:ev st x=some v)(hd:J0 d N=true)
  (h:∀b w' O',BlkO O' w' i b v.cells E->Upd (fun j=>j=i) O w O' w'->Rng B O' w'->Ext w w'->WL P N ops Q rest ((d,nP b)::st) w'):WL P N ops Q (⟨some d,.box E x,t,p,e,none⟩::rest) st w:=by
 have u:=Upd.alloc (S:=fun j=>j=i) (fun h=>a0 h.symm) r (.cells v.cells E) i;exact WL.box hx hd (h _ _ _ (BlkO.new _ _ _ _ _) u (r.upd u) (Ext.alloc _ _))
theorem aw{B:Nat}{O:Nat->Nat}(r:Rng B O w)(i:Nat)(a0:i≠0){E:ln}{z:ix}(hz:(Ki E).run P w=.ok z w)(hd:J0 d N=true)
  (h:∀b w' O',BlkO O' w' i b z.cells E->Upd (fun j=>j=i) O w O' w'->Rng B O' w'->Ext w w'->WL P N ops Q rest ((d,nP b)::st) w'):WL P N ops Q (⟨some d,.alloc E,t,p,e,none⟩::rest) st w:=by
 have u:=Upd.alloc (S:=fun j=>j=i) (fun h=>a0 h.symm) r (.cells z.cells E) i;exact WL.alloc hz hd (h _ _ _ (BlkO.new _ _ _ _ _) u (r.upd u) (Ext.alloc _ _))
theorem BlkO.cellsAdd{O:Nat->Nat}{i b:Nat}{cs:Array ix}{E:ln}(h:BlkO O w i b cs E):∀j u,cs.toList[j]? = some u->w.cell? (nA b j)=some u:=fun j u hu=>by
 rw[show(nA b j)=⟨b,j,none⟩from by simp only[Jw];split<;>simp_all];exact h.cell j (by simpa using hu)
end
section
variable{P:J7}{N:Nat}{st:St}{w:ka}{fn:MZ}{R:ix→ka→Prop}
theorem dk{T:ln}{q:JL}{us:List ix}(hc:∀j u,us[j]? = some u->w.cell? (q.add j)=some u)(hT:(Md T).run P w=.ok true w)(hn:(JI T).run P w=.ok us.length w):
  (loadVar T q).run P w=.ok (.agg us.toArray) w:=by
 have:=run_loadCellsFrom (P:=P) us 0 #[] (q:=q) (w:=w) (by simpa using hc);simp[loadVar,hT,hn,loadCells,this]
theorem aK{t:Nh}{T:ln}{q:JL}{us:List ix}(hr:fn.results = #[.cell t T])(hv:cA st t=some (.pointer (some q)))
  (hc:∀j u,us[j]? = some u->w.cell? (q.add j)=some u) (hT:(Md T).run P w=.ok true w) (hn:(JI T).run P w=.ok us.length w) (h:R (.agg us.toArray) w):QF N (RP P fn R) .ret st w:=fun a ha=>
 ⟨ha.defers,_,by have h1:=ha.get _ _ hv;simp[results,hr,J6,h1,asAddr,dk hc hT hn],h⟩
theorem bp{t u:Nh}{T:ln}{q:JL}{us:List ix}{v':ix}(hr:fn.results = #[.cell t T,.tmp u])(hv:cA st t=some (.pointer (some q)))(a0:cA st u=some v')
  (hc:∀j u,us[j]? = some u->w.cell? (q.add j)=some u) (hT:(Md T).run P w=.ok true w) (hn:(JI T).run P w=.ok us.length w) (h:R (.tuple #[.agg us.toArray,v']) w):QF N (RP P fn R) .ret st w:=fun a ha=>
 ⟨ha.defers,_,by have h1:=ha.get _ _ hv;have h2:=ha.get _ _ a0;simp[results,hr,J6,h1,h2,asAddr,dk hc hT hn],h⟩
end
theorem vE{α:Type}{enc:α->List ix}{sz:Nat}{w:ka}{g:Nat}{cells:Array ix}{E:ln}{xs:List α}(hb:w.heap[g]? = some (.cells cells E (0,0)))(hc:cells.toList=xs.flatMap enc)(hz:∀x∈xs,(enc x).length=sz)(hm:xs.length<=9223372036854775807):
  Sl enc sz w (.slice (some ⟨g,0,none⟩) xs.length xs.length) xs:=by
 refine⟨⟨_,_,rfl,J4 _,hm,fun _=>⟨g,0,rfl⟩⟩,fun i hi j u hu=>?_⟩;have h:=eJ xs hz i hi j u hu;have ha:((adr (.slice (some ⟨g,0,none⟩) xs.length xs.length) sz i).add j)=⟨g,i*sz+j,none⟩:=by
  simp only[adr,Jw];split<;>simp_all
 rw[ha,cell_of_row w g _ cells E (0,0) hb];rw[<-hc]at h;simpa using h
section
variable{P:J7}{N:Nat}{ops:Array Jn}{Q:JF→JT→ka→Prop}{rest:List Jn}{st:St}{w:ka}
variable{t:ln}{p:String}{e:Array Kb}{d:Nat}
theorem fT{T E:ln}{sz n:Nat}{z:ix}{parts:List (Nat×J3)}{vs:List (Nat×ix)}(hu:P.underlying T=some (.slice E))(hE:(JI E).run P w=.ok sz w)(hz:(Ki E).run P w=.ok z w)
  {α:Type} (enc:α->List ix) (xs:List α) (hn:xs.length=n) (hv:evp st parts=some vs) (a4:MB (n*sz) 16777216=true) (a1:JR (n*sz) 0=false)
  (hf:Kx (fun i=>some (i*sz,sz)) ((Array.range (n*sz)).map (z.cells[· % z.cells.size]!)) vs=some (xs.flatMap enc).toArray) (a2:∀x∈xs,(enc x).length=sz) (hd:J0 d N=true)
  (h:∀v w',Sl enc sz w' v xs->Ext w w'->WL P N ops Q rest ((d,v)::st) w'):WL P N ops Q (⟨some d,.buildSlice T n parts.toArray,t,p,e,none⟩::rest) st w:=by
 subst hn;have a3:=Kj a4;have a0:¬xs.length*sz=0:=fun e=>by rw[e]at a1;simp at a1
 have a5:xs.length<=xs.length*sz:=Nat.le_mul_of_pos_right _ (Mv fun e=>a0 (by rw[e,Nat.mul_zero]));refine WL.val (v:=.slice (some ⟨w.heap.size,0,none⟩) xs.length xs.length) (w':=w.alloc (.cells (xs.flatMap enc).toArray E)) hd (fun a ha=>?_) (h _ _ (vE (heap_alloc_new w _) rfl a2 zo) (Ext.alloc _ _));have h1:=ha.evp hv;have e1:(Lz (fun x:Nat×J3=>match x with|(i,x)=>(i,a.eval x)) parts)=vs:=by rw[<-h1]
 simp only[execOp,Instr.buildSlice,J9,e1,J8,run_underlying hu,J2,hE];rw[if_neg zo,if_neg a0];simp[hz,hf,newRow,newObj];rfl
end
end Go.VL
end
section
namespace Go.VL
section
variable{P:J7}{N:Nat}{ops:Array Jn}{Q:JF→JT→ka→Prop}{rest:List Jn}{st:St}{w:ka}
theorem fX(K:JF->JT->ka->Prop):∀(l r:List Jn) (a:JT) (w:ka),(∀e a w,K e a w->e≠.normal->Q e a w)->(∀a w,K .normal a w->wpList P ops Q r a w)->wpList P ops K l a w->wpList P ops Q (l++r) a w
 |[],r,a,w,_,hn,h=>hn a w h
 |o::l,r,a,w,hx,hn,h=>by
  simp only[Kk];unfold wpList at h ⊢;have ih:=fun a w=>fX K l r a w hx hn
  have a1:∀c a w,K (.panic c) a w->Q (.panic c) a w:=fun c a w h=>hx _ a w h (by intro h;cases h)
  split
  ·rename_i hw;rw[if_pos hw]at h
   rcases h with h|⟨h1,a0,w0,h2⟩
   ·left;unfold Kg at h ⊢;generalize (execOp a.eval o).run P w=q at *
    cases q with
    |ok n w'=>
     cases n<;>simp only[KG]at h ⊢<;>first
      |exact ih _ _ h
      |exact h.elim
      |exact Mz h (fun _ _ he=>ih _ _ he)
      |exact JX h (fun e w'' he=>by
       cases e with
       |returned v=>exact ih _ _ he
       |panicked c=>exact a1 _ _ _ he
       |outgrown=>obtain⟨a0,w0,he⟩:=he;exact⟨a0,w0,hx _ a0 w0 he (by intro h;cases h)⟩)
    |halt x w'=>cases x<;>simp only[KG]at h ⊢<;>first|exact a1 _ _ _ h|exact h.elim
   exact .inr ⟨h1,a0,w0,hx _ a0 w0 h2 (by intro h;cases h)⟩
  rename_i hw;rw[if_neg hw]at h;exact ih _ _ h
def FU(N:Nat)(S:ka->Prop)(tB:Nat)(b:Bool)(st:St):JF->JT->ka->Prop:=fun e a w=>e=.normal/\S w/\Fits N a st/\a.tmps[tB]? = some (.bool b)
def sJ(N:Nat)(ops:Array Jn)(st:St):List Jn->Bool
 |[]=>true
 |o::r=>(match o.guard with
  |some (i,c)=>(match (ops[i]?).bind (·.dst)with
   |some d=>(match cA st d with
    |some (.bool x)=>!(x==c)
    |some (.tuple _)=>true
    |_=>false)
   |none=>false)
  |none=>false)&&(match o.dst with|some d=>(match cA st d with|none=>true|_=>false)&&J0 d N&&sJ N ops ((d,undef)::st) r|none=>false)
theorem qB:∀(l:List Jn) (st0 st:St) (a:JT),sJ N ops st l=true->(∀t v,cA st0 t=some v->cA st t=some v)->Fits N a st->(∀a',Fits N a' st0->wpList P ops Q rest a' w)->wpList P ops Q (l++rest) a w
 |[],st0,st,a,_,hc,ha,h=>h a ⟨ha.size,ha.defers,fun t v hv=>ha.get t v (hc t v hv)⟩
 |o::l,st0,st,a,hp,hc,ha,h=>by
  simp only[sJ,JW]at hp;obtain⟨hg,hd⟩:=hp
  cases a2:o.dst with
  |none=>rw[a2]at hd;simp at hd
  |some d=>
   rw[a2]at hd;simp only[JW]at hd;obtain⟨⟨a4,a6⟩,a5⟩:=hd;have a0:cA st d=none:=by cases h:cA st d with|none=>rfl|some v=>rw[h]at a4;simp at a4
   simp only[Kk];unfold wpList;rw[if_neg ?_]
   ·rw[a2];refine qB l st0 ((d,undef)::st) _ a5 (fun t v hv=>?_) (ha.put a6 undef) h;have h1:=hc t v hv;simp only[cA]
    cases hb:JR d t with
    |true=>have:=Ji hb;subst this;rw[a0]at h1;simp at h1
    |false=>exact h1
   cases a3:o.guard with
   |none=>rw[a3]at hg;simp at hg
   |some ic=>
    obtain⟨i,c⟩:=ic;rw[a3]at hg;simp only at hg;simp only[Js,a3,yielded]
    cases a1:(ops[i]?).bind (·.dst)with
    |none=>rw[a1]at hg;simp at hg
    |some d'=>
     rw[a1]at hg;simp only at hg
     cases hs:cA st d' with
     |none=>rw[hs]at hg;simp at hg
     |some v=>
      rw[hs]at hg
      cases v<;>simp at hg
      ·rename_i x;simp[ha.get _ _ hs];exact fun e=>hg (by rw[e])
      simp[ha.get _ _ hs]
theorem qS{a:JT}{t:Nat}{b b':Bool}(hs:cA st t=some (.bool b))(hb:b=b')(ha:Fits N a st):Fits N a ((t,.bool b')::st):=by
 subst hb;refine⟨ha.size,ha.defers,fun u v hv=>?_⟩;simp only[cA]at hv
 cases hb:JR t u with
 |true=>rw[hb]at hv;have:=Ji hb;subst this;simp at hv;subst hv;exact ha.get _ _ hs
 |false=>rw[hb]at hv;exact ha.get _ _ hv
theorem bG{l G:List Jn}{tA tB tP:Nat}{c:Bool}{t:ln}{p:String}{e:Array Kb}(S:ka->Prop)(b:Bool)(n:Nat)(hS:S w)(hG:l.take n=G)(a0:l.drop n=⟨some tP,.pick (.tmp tA) (.tmp tB) (.const (.bool false)),t,p,e,none⟩::rest)
  (hc:cA st tA=some (.bool c)) (a1:sJ N ops ((tA,.bool false)::st) G=true) (hd:J0 tP N=true)
  (h1:c=true->WL P N ops (FU N S tB b st) G ((tA,.bool true)::st) w) (h2:∀w',S w'->WL P N ops Q rest ((tP,.bool (c&&b))::st) w'):WL P N ops Q l st w:=by
 intro a ha;rw[<-K4 n l,hG,a0]
 cases c with
 |true=>
  refine fX (FU N S tB b st) G _ a w (fun e a w h a3=>absurd h.1 a3) (fun a' w' h=>?_) (h1 rfl a (qS hc rfl ha));obtain⟨_,a4,hf,hb⟩:=h;unfold wpList;rw[if_pos (bR rfl _)];left;unfold Kg;rw[iH (b:=true) (by simpa[K2,J6]using(by rw[hf.get _ _ hc]:(a'.tmps[tA]?).getD undef=(some (.bool true)).getD undef))];simp only[cond_true];rw[show a'.eval (.tmp tB)=.bool b from by simp[K2,J6,hb]];exact h2 w' a4 _ (hf.put hd _)
 |false=>
  refine qB G st ((tA,.bool false)::st) a a1 (fun t v hv=>?_) (qS hc rfl ha) (fun a' a2=>?_)
  ·simp only[cA]
   cases hb:JR tA t with
   |true=>have:=Ji hb;subst this;rw[hc]at hv;exact hv
   |false=>exact hv
  unfold wpList;rw[if_pos (bR rfl _)];left;unfold Kg;rw[iH (b:=false) (by simpa[K2,J6]using(by rw[a2.get _ _ hc]:(a'.tmps[tA]?).getD undef=(some (.bool false)).getD undef))];exact h2 w hS _ (a2.put hd _)
theorem bN{l G:List Jn}{tA tB tP:Nat}{c:Bool}{t:ln}{p:String}{e:Array Kb}(S:ka->Prop)(b:Bool)(n:Nat)(hS:S w)(hG:l.take n=G)(a0:l.drop n=⟨some tP,.pick (.tmp tA) (.const (.bool true)) (.tmp tB),t,p,e,none⟩::rest)
  (hc:cA st tA=some (.bool c)) (a1:sJ N ops ((tA,.bool true)::st) G=true) (hd:J0 tP N=true)
  (h1:c=false->WL P N ops (FU N S tB b st) G ((tA,.bool false)::st) w) (h2:∀w',S w'->WL P N ops Q rest ((tP,.bool (c||b))::st) w'):WL P N ops Q l st w:=by
 intro a ha;rw[<-K4 n l,hG,a0]
 cases c with
 |false=>
  refine fX (FU N S tB b st) G _ a w (fun e a w h a3=>absurd h.1 a3) (fun a' w' h=>?_) (h1 rfl a (qS hc rfl ha));obtain⟨_,a4,hf,hb⟩:=h;unfold wpList;rw[if_pos (bR rfl _)];left;unfold Kg;rw[iH (b:=false) (by simpa[K2,J6]using(by rw[hf.get _ _ hc]:(a'.tmps[tA]?).getD undef=(some (.bool false)).getD undef))];simp only[cond_false];rw[show a'.eval (.tmp tB)=.bool b from by simp[K2,J6,hb]];exact h2 w' a4 _ (hf.put hd _)
 |true=>
  refine qB G st ((tA,.bool true)::st) a a1 (fun t v hv=>?_) (qS hc rfl ha) (fun a' a2=>?_)
  ·simp only[cA]
   cases hb:JR tA t with
   |true=>have:=Ji hb;subst this;rw[hc]at hv;exact hv
   |false=>exact hv
  unfold wpList;rw[if_pos (bR rfl _)];left;unfold Kg;rw[iH (b:=true) (by simpa[K2,J6]using(by rw[a2.get _ _ hc]:(a'.tmps[tA]?).getD undef=(some (.bool true)).getD undef))];exact h2 w hS _ (a2.put hd _)
theorem dy{S:ka->Prop}{tA tB:Nat}{b c:Bool}{st0:St}(n:Nat)(hS:S w)(a0:st.drop n=st0)(hf:((st.take n).all fun q=>JR q.1 tA||(match cA st0 q.1 with|none=>true|_=>false))=true)
  (hA:cA st tA=some (.bool c)) (a3:∀v,cA st0 tA=some v->v=.bool c) (hb:cA st tB=some (.bool b)):QF N (FU N S tB b st0) .normal st w:=fun a ha=>by
 refine⟨rfl,hS,⟨ha.size,ha.defers,fun t v hv=>?_⟩,ha.get _ _ hb⟩;refine ha.get t v ?_
 by_cases ht:t=tA
 ·subst ht;rw[a3 v hv];exact hA
 have a2:∀(a1:St),(a1.all fun q=>JR q.1 tA||(match cA st0 q.1 with|none=>true|_=>false))=true->cA (a1++st0) t=some v:=by
  intro a1
  induction a1 with
  |nil=>intro _;exact hv
  |cons q r ih=>
   intro hq;simp only[JC,JW,Bool.or_eq_true]at hq;obtain⟨k,u⟩:=q;simp only[Kk,cA]
   cases hb:JR k t with
   |false=>exact ih hq.2
   |true=>
    have:=Ji hb;subst this
    rcases hq.1 with h|h
    ·exact absurd (Ji h) ht
    simp only[hv]at h;cases h
 have:=a2 (st.take n) hf;rw[<-a0,K4]at this;exact this
end
end Go.VL
end
section
namespace Go.VL
section
variable{P:J7}{N:Nat}{ops:Array Jn}{Q:JF→JT→ka→Prop}{rest:List Jn}{st:St}{w:ka}
variable{t xt yt:ln}{p:String}{e:Array Kb}{d:Nat}{x y z:J3}
theorem lU{op:NA}{a b v:ix}(hg:eqGuard op xt x y a b=pure ())(hx:ev st x=some a)(hy:ev st y=some b)(hr:(binOp op xt a b).run P w=.ok v w):RV P N (.binOp op xt x y yt) t st w v:=
 fun ac ha a0 p e g=>by
  simp only[execOp,ha.ev hx,ha.ev hy,hg,J8,Jv,J2,hr]
theorem rO{a b:Bool}(hu:P.underlying xt=some .bool)(hx:ev st x=some (.bool a))(hy:ev st y=some (.bool b)):RV P N (.binOp .eql xt x y yt) t st w (.bool (a==b)):=
 lU (eqGuard_at_bool ..) hx hy (run_eql_bool w xt a b hu)
theorem FM{a b:Bool}(hu:P.underlying xt=some .bool)(hx:ev st x=some (.bool a))(hy:ev st y=some (.bool b)):RV P N (.binOp .neq xt x y yt) t st w (.bool (!(a==b))):=
 lU (eqGuard_at_bool ..) hx hy (run_neq_bool w xt a b hu)
theorem jN{k k':Jj}{m n:Int}{a0:Array ln}(hx:ev st x=some (.int k m))(hy:ev st y=some (.int k' n)):RV P N (.call ⟨.builtin .max,#[x,y],a0⟩) t st w (.int k (max m n)):=
 fun a ha a1 p e g=>by
  simp only[execOp,resolve,invoke,builtin,J8,Jv,J2,J9,Jm,JB,ha.ev hx,ha.ev hy,run_max_int2];congr 3;rw[Int.max_def];split<;>split<;>omega
theorem FP{k k':Jj}{m n:Int}{a0:Array ln}(hx:ev st x=some (.int k m))(hy:ev st y=some (.int k' n)):RV P N (.call ⟨.builtin .min,#[x,y],a0⟩) t st w (.int k (min m n)):=
 fun a ha a1 p e g=>by
  simp only[execOp,resolve,invoke,builtin,J8,Jv,J2,J9,Jm,JB,ha.ev hx,ha.ev hy,run_min_int2];congr 3;rw[Int.min_def];split<;>split<;>omega
def bs(l:List UInt8):ByteArray:=⟨l.toArray⟩
theorem cZ(l:List UInt8):(bs l).size=l.length:=by simp[bs,Nv]
theorem kP(l:List UInt8):(bs l).toList=l:=Ns l
theorem lR(l:List UInt8)(a b:Nat):(bs l).extract a b=bs ((l.take b).drop a):=by
 rw[bs,Nx,List.drop_take];rfl
theorem Dx{a b:List UInt8}(h:bs a=bs b):a=b:=by
 have:=congrArg Nu h;rwa[kP,kP]at this
theorem Bx{op:NA}{s u:ByteArray}:binOp op xt (.string s) (.string u)=Op.stringOp op s u:=by cases op<;>rfl
theorem cR{a b:List UInt8}(hx:ev st x=some (.string (bs a)))(hy:ev st y=some (.string (bs b))):RV P N (.binOp .eql xt x y yt) t st w (.bool (a==b)):=
 lU (eqGuard_at_string ..) hx hy (by rw[Bx];show Result.ok (Value.bool ((bs a).toList==(bs b).toList)) w=_;rw[kP,kP])
theorem cf{a:List UInt8}{T:ln}(hT:P.underlying T=some .string)(hx:ev st x=some (.string (bs a))):RV P N (.call ⟨.builtin .len,#[x],#[T]⟩) t st w (nI a.length):=
 fun c hc a0 p e g=>by
  simp only[execOp,resolve,invoke,builtin,J8,Jv,J2,J9,Jm,JB,hc.ev hx,run_len_string w T t _ hT,cZ];rfl
theorem BU{a:List UInt8}{k:Jj}{m:Int}(hT:P.underlying xt=some .string)(hx:ev st x=some (.string (bs a)))(hy:ev st y=some (.int k m))(i:Nat)(hm:m=i)(hi:i<a.length):RV P N (.index xt x y) t st w (.int .u8 ((nth a i).toNat:Int)):=
 fun c hc a0 p e g=>by
  subst hm;have h2:0<=(i:Int)/\(i:Int)<(bs a).size:=by rw[cZ];omega
  simp only[execOp,hc.ev hx,hc.ev hy,J8,run_index_string w xt (bs a) k i hT,dif_pos h2,J2];have:(bs a)[(i:Int).toNat]'(by rw[cZ];omega)=nth a i:=by
   rw[aB hi];simp[bs,Nw]
  rw[this];rfl
theorem cT{a:List UInt8}{k k':Jj}{m n:Int}(hT:P.underlying xt=some .string)(hx:ev st x=some (.string (bs a)))(hy:ev st y=some (.int k m))(hz:ev st z=some (.int k' n))(i j:Nat)(hm:m=i)(hn:n=j)(a0:i<=j)(hj:j<=a.length):
  RV P N (.slice xt x (some y) (some z) none) t st w (.string (bs ((a.take j).drop i))):=
 fun c hc a1 p e g=>by
  subst hm;subst hn;simp only[execOp,JO,JY,hc.ev hx,hc.ev hy,hc.ev hz,run_sliceAt_string w xt _ _ _ _ hT,J8,run_slice_string w xt (bs a) k k' i j hT zo zo (by rw[cZ];omega),J2,JG,lR];rfl
theorem jM{a:List UInt8}{k:Jj}{m:Int}(hT:P.underlying xt=some .string)(hx:ev st x=some (.string (bs a)))(hy:ev st y=some (.int k m))(i:Nat)(hm:m=i)(hi:i<=a.length):
  RV P N (.slice xt x (some y) none none) t st w (.string (bs (a.drop i))):=
 fun c hc a0 p e g=>by
  subst hm;simp only[execOp,JO,JY,hc.ev hx,hc.ev hy,run_sliceAt_string w xt _ _ _ _ hT,J8,run_slice_string_l w xt (bs a) hT k i zo (by rw[cZ];omega),J2,JG,lR,cZ,MC];rfl
theorem vG{a:List UInt8}{k:Jj}{n:Int}(hT:P.underlying xt=some .string)(hx:ev st x=some (.string (bs a)))(hz:ev st z=some (.int k n))(j:Nat)(hn:n=j)(hj:j<=a.length):
  RV P N (.slice xt x none (some z) none) t st w (.string (bs (a.take j))):=
 fun c hc a0 p e g=>by
  subst hn;simp only[execOp,JO,JY,hc.ev hx,hc.ev hz,run_sliceAt_string w xt _ _ _ _ hT,J8,run_slice_string_h w xt (bs a) hT k j zo (by rw[cZ];omega),J2,JG,lR,List.drop_zero];rfl
theorem jO{T:ln}{a:Option JL}{l c:Nat}(hT:P.underlying xt=some (.slice T))(hx:ev st x=some (.slice a l c))(hy:ev st y=some (nS)):RV P N (.binOp .eql xt x y yt) t st w (.bool a.isNone):=
 lU (eqGuard_at_slice ..) hx hy (by simp[binOp,run_equal_slice_nil w xt T a l c hT])
theorem ez{q:Option JL}(hT:P.underlying xt=some (.pointer (P.pointee xt)))(hx:ev st x=some (.pointer q))(hy:ev st y=some (.pointer none)):RV P N (.binOp .eql xt x y yt) t st w (.bool q.isNone):=
 lU (eqGuard_at_pointer ..) hx hy (run_eql_pointer_nil w xt q hT)
theorem yW{q:Option JL}(hT:P.underlying xt=some (.pointer (P.pointee xt)))(hx:ev st x=some (.pointer q))(hy:ev st y=some (.pointer none)):RV P N (.binOp .neq xt x y yt) t st w (.bool (!q.isNone)):=
 lU (eqGuard_at_pointer ..) hx hy (run_neq_pointer_nil w xt q hT)
def dU(v:ix)(sz lo hi:Nat):ix:=
 match v with
 |.slice a _ cap=>.slice (if cap=lo then a else a.map (·.add (lo*sz))) (hi-lo) (cap-lo)
 |_=>v
theorem qm{α:Type}{enc:α->List ix}{sz:Nat}{v:ix}{xs:List α}{E:ln}{k:Jj}{m:Int}(h:Sl enc sz w v xs)(hT:P.underlying xt=some (.slice E))(hs:(JI E).run P w=.ok sz w)
  (hx:ev st x=some v) (hy:ev st y=some (.int k m)) (i:Nat) (hm:m=i) (hi:i<=xs.length):RV P N (.slice xt x (some y) none none) t st w (dU v sz i xs.length):=
 fun a' ha a0 p e g=>by
  subst hm;obtain⟨a,c,rfl,hc,_,_⟩:=h.shape;have hE:P.elem xt=E:=by simp[MH,hT]
  simp only[execOp,JO,JY,ha.ev hx,ha.ev hy,run_sliceAt_slice w xt _ _ _ _ (by rw[hE];exact hT:P.underlying xt=some (.slice (P.elem xt))),J8,run_slice_l w xt a xs.length c (by rw[hE];exact hT) k i zo zo,hE,hs,J2,JG,sliced];rfl
theorem yV{α:Type}{enc:α->List ix}{sz:Nat}{v:ix}{xs:List α}{E:ln}{k:Jj}{n:Int}(h:Sl enc sz w v xs)(hT:P.underlying xt=some (.slice E))(hs:(JI E).run P w=.ok sz w)
  (hx:ev st x=some v) (hz:ev st z=some (.int k n)) (j:Nat) (hn:n=j) (hj:j<=xs.length):RV P N (.slice xt x none (some z) none) t st w (dU v sz 0 j):=
 fun a' ha a0 p e g=>by
  subst hn;obtain⟨a,c,rfl,hc,_,_⟩:=h.shape;have hE:P.elem xt=E:=by simp[MH,hT]
  simp only[execOp,JO,JY,ha.ev hx,ha.ev hz,run_sliceAt_slice w xt _ _ _ _ (by rw[hE];exact hT:P.underlying xt=some (.slice (P.elem xt))),J8,run_slice_h w xt a xs.length c (by rw[hE];exact hT) k j zo zo,hE,hs,J2,JG,sliced];rfl
end
end Go.VL
end
section
namespace Go.VL
def Free(O:Nat->Nat)(w:ka)(v:ix):Prop:=∀a n c,v=.slice (some a) n c->n≠0->O a.block=0/\a.block<w.heap.size
theorem Free.upd{S:Nat->Prop}{O O':Nat->Nat}{w w':ka}{v:ix}(h:Free O w v)(u:Upd S O w O' w'):Free O' w' v:=fun a n c e hn=>by
 obtain⟨h1,h2⟩:=h a n c e hn;refine⟨Jh fun a0=>?_,K1 h2 u.size⟩
 rcases u.new _ a0 with h3|h3
 ·exact h3 h1
 omega
theorem ij{w w':ka}{a:JL}{u:ix}(hb:w'.heap[a.block]? = w.heap[a.block]?)(h:w.cell? a=some u):w'.cell? a=some u:=by
 simpa only[N2,hb]using h
theorem Sl.upd{α:Type}{enc:α->List ix}{sz:Nat}{S:Nat->Prop}{O O':Nat->Nat}{w w':ka}{v:ix}{xs:List α}(h:Sl enc sz w v xs)(f:Free O w v)(u:Upd S O w O' w'):Sl enc sz w' v xs:=by
 refine⟨h.shape,fun i hi j x hx=>?_⟩;have hc:=h.cells i hi j x hx;obtain⟨a,c,e,_,_,ha⟩:=h.shape;obtain⟨b,o,rfl⟩:=ha zo;obtain⟨h1,h2⟩:=f _ _ _ e zo;refine ij ?_ hc
 have hb:((adr v sz i).add j).block=b:=by subst e;simp only[adr,Jw];split<;>rfl
 rw[hb];exact u.blk b h2 (by rw[h1];exact u.z)
theorem RowT.free{α:Type}{enc:α->List ix}{E:ln}{sz:Nat}{O O':Nat->Nat}{w w':ka}{i B:Nat}{v:ix}{l:List α}(h:RowT enc E sz O' w' i v l)(hi:i≠0)(r:Rng w.heap.size O' w')(k:Rng B O w):Free O w' v:=fun a n c e _=>by
 subst e;have h1:=h.1.tag a.block rfl;have h2:=r.rng a.block (by rw[h1];exact hi);exact⟨Jh fun a0=>by have:=k.rng _ a0;omega,h2.2⟩
def NewV(B:Nat)(v:ix):Prop:=∀a n c,v=.slice (some a) n c->n≠0->B<=a.block
theorem NewV.mono{B B':Nat}{v:ix}(h:NewV B v)(hb:B'<=B):NewV B' v:=fun a n c e hn=>Kw hb (h a n c e hn)
theorem RowT.newV{α:Type}{enc:α->List ix}{E:ln}{sz B:Nat}{O:Nat->Nat}{w:ka}{i:Nat}{v:ix}{l:List α}(h:RowT enc E sz O w i v l)(hi:i≠0)(r:Rng B O w):NewV B v:=fun a n c e _=>by
 subst e;have h1:=h.1.tag a.block rfl;exact(r.rng a.block (by rw[h1];exact hi)).1
theorem Sl.blk_lt{α:Type}{enc:α->List ix}{sz:Nat}{w:ka}{v:ix}{xs:List α}(h:Sl enc sz w v xs)(hf:∀x∈xs,enc x≠[]){a:JL}{n c:Nat}(e:v=.slice (some a) n c)(hn:n≠0):a.block<w.heap.size:=by
 obtain⟨a',c',e1,_,_,e2⟩:=h.shape;subst e
 cases e1
 obtain⟨b,o,e3⟩:=e2 hn
 cases e3
 have hl:0<xs.length:=Mv hn
 cases hx:enc xs[0]with
 |nil=>exact absurd hx (hf _ (K7 hl))
 |cons u r=>
  have hc:=h.cells 0 hl 0 u (by rw[hx];rfl);have:=Kd _ _ hc;have hb:((adr (.slice (some ⟨b,o,none⟩) xs.length c) sz 0).add 0).block=b:=by simp only[adr,Jw];split<;>rfl
  rwa[hb]at this
theorem NewV.free{α:Type}{enc:α->List ix}{sz B:Nat}{O:Nat->Nat}{w w':ka}{v:ix}{xs:List α}(h:NewV w.heap.size v)(hs:Sl enc sz w' v xs)(hf:∀x∈xs,enc x≠[])(r:Rng B O w):Free O w' v:=fun a n c e hn=>
 ⟨Jh fun a0=>by have h1:=(r.rng _ a0).2;have h2:=h a n c e hn;omega,hs.blk_lt hf e hn⟩
theorem qL{w w':ka}{v:ix}(h:∀(B:Nat) (O:Nat->Nat),Rng B O w->Free O w' v):NewV w.heap.size v:=fun a n c e hn=>by
 have h1:=(h 0 (fun b=>if b<w.heap.size then 1 else 0) ⟨JJ _,fun b hb=>⟨JJ _,Jh fun hn=>hb (if_neg hn)⟩⟩ a n c e hn).1;exact Nat.le_of_not_lt fun a0=>by
  have h2:(1:Nat)=0:=(if_pos a0).symm.trans h1
  cases h2
section
variable{P:J7}{N:Nat}{ops:Array Jn}{Q:JF→JT→ka→Prop}{rest:List Jn}{st:St}{w:ka}
variable{t xt yt:ln}{p:String}{e:Array Kb}{d:Nat}{x y z:J3}
theorem dd{T E:ln}{bytes:Nat}(he:Elem P T E 1 bytes){α:Type}{val:α->ix}(z0:α)(a2:(P.info? E).bind (·.zero)=some (val z0))(h1:∀a,(val a).oneCell'=true){B:Nat}{O:Nat->Nat}(r:Rng B O w)(i:Nat)(a7:i≠0)(n:Nat){kl kc:Jj}{m1 m2:Int}
  (hx:ev st x=some (.int kl m1)) (hy:ev st y=some (.int kc m2)) (a6:m1=n) (a5:m2=n) (hb:bytes*n<=281474976710656) (b0:n<=9223372036854775807) (hd:J0 d N=true)
  (h:∀w' O' v,v=.slice (some ⟨w.heap.size,0,none⟩) n n->RowT (fun x=>[val x]) E 1 O' w' i v (Ly n z0)->Upd (fun k=>k=i) O w O' w'->Rng B O' w'->Ext w w'->WL P N ops Q rest ((d,v)::st) w') :
  WL P N ops Q (⟨some d,.makeSlice T x y,t,p,e,none⟩::rest) st w:=by
 obtain⟨a1,z,hi,hz,a4,a9,b1⟩:=he.parts;have a3:z=val z0:=by rw[hi]at a2;simpa[hz]using a2
 subst a3;subst a6;subst a5;have a8:(val z0).cells = #[val z0]:=by have:=h1 z0;generalize val z0=u at *;cases u<;>first|rfl|simp[JK]at this
 have a':(a1.bytes:Int)*(n:Int)<=281474976710656:=by
  have h:((a1.bytes*n:Nat):Int)<=281474976710656:=by rw[a9];omega
  rwa[Int.natCast_mul]at h
 have a0:=run_make (P:=P) w T E a1 _ he.ht hi hz kl kc n n zo (Int.le_refl _) a' zo;simp only[JG,a4,Lk,a8]at a0;have hz:¬(fun k=>k=i) 0:=fun h=>a7 h.symm
 have u:=Upd.alloc (S:=fun k=>k=i) hz r (.cells (madeCells #[val z0] n) E) i;refine WL.val (v:=.slice (some ⟨w.heap.size,0,none⟩) n n) hd (fun a ha=>by simp only[execOp,ha.ev hx,ha.ev hy,J8,a0,J2];rfl) (h _ _ _ rfl ⟨⟨?_,fun g hg=>?_⟩,fun a _=>rfl⟩ u (r.upd u) (Ext.alloc _ _))
 ·rw[List.length_replicate];have:=Me (base:=0) (size:=1) (e:=E) w (madeCells #[val z0] n) n (JJ _) (by simpa[maxLen]using b0) (by rw[size_madeCells];omega);rw[toList_madeCells_one]at this;have e2:(Ly n z0).flatMap (fun x=>[val x])=Ly n (val z0):=by
   induction n with
   |zero=>rfl
   |succ n ih=>simp only[List.replicate_succ,KD];congr 1;simp[List.flatMap_replicate]
  rw[e2];exact this
 simp only[KR,Ko]at hg;subst hg;exact ed _ _ _
theorem da{T E:ln}{sz a0:Nat}(he:Elem P T E sz a0){α:Type}{enc:α->List ix}(u:α){xv:ix}(hx:ev st x=some xv)(a2:xv.cells.toList=enc u)(a4:(enc u).length=sz)(hs:sz<=16777216)(hd:J0 d N=true)
  (h:∀v w',Sl enc sz w' v [u]->Ext w w'->WL P N ops Q rest ((d,v)::st) w'):WL P N ops Q (⟨some d,.buildSlice T 1 #[(0,x)],t,p,e,none⟩::rest) st w:=by
 obtain⟨a3,z,hi,hz,a1,a8,a7⟩:=he.parts;have a6:xv.cells.size=sz:=by rw[<-a4,<-a2];simp
 have a5:=he.pos;refine WL.val (v:=.slice (some ⟨w.heap.size,0,none⟩) 1 1) (w':=w.alloc (.cells xv.cells E)) hd (fun a ha=>?_) (h _ _ ⟨⟨_,1,rfl,J4 _,by simp,fun _=>⟨_,_,rfl⟩⟩,fun i hi j c hc=>?_⟩ (Ext.alloc _ _))
 ·have:=run_buildSlice (P:=P) w T E 1 #[(0,xv)] xv.cells a3 z he.ht hi hz (by rw[a1];omega) (by rw[a1];omega) (by
   rw[a1]
   exact kI a6 (by simp))
  simp only[execOp,J9,Jm,JB,ha.ev hx,J8,this,J2];rfl
 obtain rfl:i=0:=by simpa using hi
 simp only[JZ]at hc;simp only[adr,La,LV];rw[show((⟨w.heap.size,0,none⟩:JL).add j)=⟨w.heap.size,j,none⟩from by simp only[Jw];split<;>simp_all,cell_of_row _ _ j xv.cells E (0,0) (heap_alloc_new w _)];rw[<-a2]at hc;simpa using hc
theorem mQ{α:Type}{enc:α->List ix}{sz:Nat}:∀(us:List α),(∀u∈us,(enc u).length=sz)->(us.flatMap enc).length=us.length*sz
 |[],_=>by simp
 |x::r,h=>by
  simp only[KD,L0,Jz,h x (by simp),mQ r (fun u hu=>h u (by simp[hu])),Nat.succ_mul];omega
theorem Bc{α:Type}{enc:α->List ix}{sz:Nat}{us:List α}{v:ix}(hs:Sl enc sz w v us)(hz:∀u∈us,(enc u).length=sz)(hp:0<sz){a:JL}{n c:Nat}(hv:v=.slice (some a) n c):∀j u,(us.flatMap enc)[j]? = some u->w.cell? (a.add j)=some u:=by
 intro j u hu;have a0:=mQ us hz;have hj:j<us.length*sz:=by rw[<-a0];exact(Jq.1 hu).1
 have hq:j / sz<us.length:=Nat.div_lt_of_lt_mul (by rw[Nat.mul_comm];exact hj);have hr:j % sz<sz:=Nat.mod_lt _ hp;have a1:j / sz*sz+j % sz=j:=Nat.div_add_mod' j sz;have hl:=hz _ (K7 hq);have h1:=eJ us hz (j / sz) hq (j % sz) _ (Ju zo);rw[a1,hu]at h1;have h2:=hs.cells (j / sz) hq (j % sz) u (by rw[Ju zo,<-h1]);obtain⟨a',c',e1,_,_,e2⟩:=hs.shape;obtain⟨b,o,e3⟩:=e2 (Nat.ne_of_gt (Nat.lt_of_le_of_lt (JJ _) hq));rw[hv]at e1 h2
 cases e1;cases e3
 simp only[adr]at h2;rw[show((⟨b,o,none⟩:JL).add j)=((⟨b,o+j / sz*sz,none⟩:JL).add (j % sz))from by simp only[Jw];split<;>split<;>simp_all<;>omega];exact h2
theorem aC{T E:ln}{sz a0:Nat}(he:Elem P T E sz a0){α:Type}{enc:α->List ix}{B:Nat}{O:Nat->Nat}{i:Nat}{v sv:ix}{l us:List α}(hr:RowT enc E sz O w i v l)(r:Rng B O w)(hs:Sl enc sz w sv us)(a7:us.length≠0)
  (hx:ev st x=some v) (hy:ev st y=some sv) (a2:∀u∈us,(enc u).length=sz) (a6:∀u∈us,∀c∈enc u,c.oneCell'=true)
  (hb:(l.length+us.length)*a0<=140737488355328) (a':l.length+us.length<=9223372036854775807) (a8:i≠0) (hd:J0 d N=true)
  (h:∀v' w' O',RowT enc E sz O' w' i v' (l++us)->Upd (fun k=>k=i) O w O' w'->Rng B O' w'->WL P N ops Q rest ((d,v')::st) w') :
  WL P N ops Q (⟨some d,.call ⟨.builtin .append,#[x,y],#[T,T]⟩,t,p,e,none⟩::rest) st w:=by
 obtain⟨a,c,rfl,_,_,a9⟩:=hs.shape;obtain⟨b,o,rfl⟩:=a9 a7;have a5:=mQ us a2
 obtain⟨v',w',O',a3,a4,a1⟩:=eZ (P:=P) (ty:=t) he r hr.1 ⟨b,o,none⟩ us.length c (us.flatMap enc) a5 (Bc hs a2 he.pos rfl) (fun u hu=>by
  obtain⟨q,hq,hc⟩:=List.mem_flatMap.1 hu
  exact a6 q hq u hc) hb a' a8
 refine WL.val (v:=v') (w':=w') hd (fun a ha=>?_) (h v' w' O' ⟨by simpa using a4,fun q hq=>?_⟩ a1 (r.upd a1))
 ·simp only[execOp,resolve,invoke,builtin,J8,Jv,J2,J9,Jm,JB,ha.ev hx,ha.ev hy,a3]
 rcases Ln.1 hq with hq|hq
 ·exact hr.2 q hq
 exact a2 q hq
end
end Go.VL
end
section
namespace Go.VL
class FA(P:J7)(S:ln)(f:Nat)(o:outParam Nat):Prop where
 fa:∃fs fd m,P.underlying S=some (.struct fs)∧fs[f]? = some fd∧fd.offset=o∧(∀w,(JI fd.type).run P w=.ok m w)∧m≠0
class AG(P:J7)(T:ln)(b:outParam Bool):Prop where
 ag:∀w,(Md T).run P w=.ok b w
structure Hold(B:Prop):Prop where
 out:B
class SC(P:J7)(T:ln)(sz:outParam Nat):Prop where
 sc:∃E,P.underlying T=some (.slice E)∧∀w,(JI E).run P w=.ok sz w
section
variable{P:J7}{N:Nat}{ops:Array Jn}{S:ka→Prop}{Q:JF→JT→ka→Prop}{K:JT→Prop}{rest:List Jn}{st:St}{w:ka}{fuel:Nat}{listed:Array Bool}
variable{t:ln}{p:String}{e:Array Kb}{d:Nat}{x:J3}{v:ix}{op:Op}
theorem RV.fa{T:ln}{f o:Nat}{q:JL}[h:FA P T f o](hx:ev st x=some (.pointer (some q))):RV P N (.fieldAddr T x f) t st w (.pointer (some (q.add o))):=by
 obtain⟨fs,fd,m,h1,h2,h3,h4,h5⟩:=h.fa
 exact RV.fieldAddr o h1 h2 h3 (h4 w) h5 hx
theorem RV.ld{T:ln}{q:JL}{u:ix}[h:AG P T false](hc:w.cell? q=some u)(hx:ev st x=some (.pointer (some q))):RV P N (.load T x) t st w u:=RV.load hc (h.ag w) hx
theorem GQ{T:ln}{sz:Nat}[h:SC P T sz]{α:Type}{enc:α→List ix}{v:ix}{xs:List α}(hx:ev st x=some v)(hs:Sl enc sz w v xs):RV P N (.call ⟨.builtin .len,#[x],#[T]⟩) t st w (.int .i64 (xs.length:Int)):=by
 obtain⟨E,h1,_⟩:=h.sc
 exact RV.len hs h1 hx
theorem GR{y:J3}{T:ln}{sz:Nat}[h:SC P T sz]{α:Type}{enc:α→List ix}{v:ix}{xs:List α}{k:Jj}{i:Int}{n:Nat}(hx:ev st x=some v)(hy:ev st y=some (.int k i))(hs:Sl enc sz w v xs)(hi:i=n)(hn:n<xs.length):RV P N (.indexAddr T x y) t st w (.pointer (some (adr v sz n))):=by
 obtain⟨E,h1,h2⟩:=h.sc
 exact RV.indexAddr hs h1 (h2 w) hx hy n hi hn
theorem I4{T:ln}{q:JL}{u:ix}[h:AG P T false](hx:ev st x=some (.pointer (some q)))(hc:w.cell? q=some u)(hd:J0 d N=true)(h:WL P N ops Q rest ((d,u)::st) w):WL P N ops Q (⟨some d,.load T x,t,p,e,none⟩::rest) st w:=mr (RV.ld hc hx) hd h
theorem I7{T:ln}{q:JL}{u:ix}[h:AG P T false](hx:ev st x=some (.pointer (some q)))(hc:w.cell? q=some u)(hd:J0 d N=true)(h:WS P N ops w K rest ((d,u)::st)):WS P N ops w K (⟨some d,.load T x,t,p,e,none⟩::rest) st:=pd (RV.ld hc hx) hd h
theorem I3{T:ln}{sz:Nat}[h:SC P T sz]{α:Type}{enc:α→List ix}{v:ix}{xs:List α}(hx:ev st x=some v)(hs:Sl enc sz w v xs)(hd:J0 d N=true)(h:WL P N ops Q rest ((d,.int .i64 (xs.length:Int))::st) w):WL P N ops Q (⟨some d,.call ⟨.builtin .len,#[x],#[T]⟩,t,p,e,none⟩::rest) st w:=mr (GQ hx hs) hd h
theorem I5{y:J3}{T:ln}{sz:Nat}[h:SC P T sz]{α:Type}{enc:α→List ix}{v:ix}{xs:List α}{k:Jj}{i:Int}{n:Nat}(hx:ev st x=some v)(hy:ev st y=some (.int k i))(hs:Sl enc sz w v xs)(hi:i=n)(hn:n<xs.length)(hd:J0 d N=true)(h:WL P N ops Q rest ((d,.pointer (some (adr v sz n)))::st) w):WL P N ops Q (⟨some d,.indexAddr T x y,t,p,e,none⟩::rest) st w:=mr (GR hx hy hs hi hn) hd h
theorem G9{xt yt:ln}{y:J3}{m n:Int}(hx:ev st x=some (.int .i64 m))(hy:ev st y=some (.int .i64 n))(hr : -9223372036854775808≤m+n∧m+n≤9223372036854775807)(hd:J0 d N=true)(h:WL P N ops Q rest ((d,.int .i64 (m+n))::st) w):WL P N ops Q (⟨some d,.binOp .add xt x y yt,t,p,e,none⟩::rest) st w:=mr (RV.add hx hy (Fit.i64 hr)) hd h
theorem G8{xt yt:ln}{y:J3}{m n:Int}(hx:ev st x=some (.int .i64 m))(hy:ev st y=some (.int .i64 n))(hr : -9223372036854775808≤m-n∧m-n≤9223372036854775807)(hd:J0 d N=true)(h:WL P N ops Q rest ((d,.int .i64 (m-n))::st) w):WL P N ops Q (⟨some d,.binOp .sub xt x y yt,t,p,e,none⟩::rest) st w:=mr (RV.sub hx hy (Fit.i64 hr)) hd h
theorem GO{y z:J3}{b:Bool}{v:ix}(hc:ev st x=some (.bool b))(hb:b=true)(hy:ev st y=some v):RV P N (.pick x y z) t st w v:=bB (hb▸hc) hy
theorem GP{y z:J3}{b:Bool}{v:ix}(hc:ev st x=some (.bool b))(hb:b=false)(hz:ev st z=some v):RV P N (.pick x y z) t st w v:=bC (hb▸hc) hz
theorem DJ{d:Option Nh}{j:Nat}{b b':Bool}(hs:said ops st j=some b')(hb:b'=b)(h:WL P N ops Q (⟨d,op,t,p,e,none⟩::rest) st w):WL P N ops Q (⟨d,op,t,p,e,some (j,b)⟩::rest) st w:=gn (hb▸hs) h
theorem BJ{j:Nat}{b':Bool}(hs:said ops st j=some b')(hb:b'=false)(hd:J0 d N=true)(h:WL P N ops Q rest ((d,undef)::st) w):WL P N ops Q (⟨some d,op,t,p,e,some (j,true)⟩::rest) st w:=WL.off hs (by rw[hb];rfl) hd h
theorem BK{j:Nat}{b':Bool}(hs:said ops st j=some b')(hb:b'=true)(hd:J0 d N=true)(h:WL P N ops Q rest ((d,undef)::st) w):WL P N ops Q (⟨some d,op,t,p,e,some (j,false)⟩::rest) st w:=WL.off hs (by rw[hb];rfl) hd h
theorem DE{d:Option Nh}{j:Nat}{b b':Bool}(hs:said ops st j=some b')(hb:b'=b)(h:WS P N ops w K (⟨d,op,t,p,e,none⟩::rest) st):WS P N ops w K (⟨d,op,t,p,e,some (j,b)⟩::rest) st:=IK (hb▸hs) h
theorem BG{j:Nat}{b':Bool}(hs:said ops st j=some b')(hb:b'=false)(hd:J0 d N=true)(h:WS P N ops w K rest ((d,undef)::st)):WS P N ops w K (⟨some d,op,t,p,e,some (j,true)⟩::rest) st:=WS.off hs (by rw[hb];rfl) hd h
theorem BH{j:Nat}{b':Bool}(hs:said ops st j=some b')(hb:b'=true)(hd:J0 d N=true)(h:WS P N ops w K rest ((d,undef)::st)):WS P N ops w K (⟨some d,op,t,p,e,some (j,false)⟩::rest) st:=WS.off hs (by rw[hb];rfl) hd h
theorem DG{o:Jn}{n:Nat}{l:List Jn}(h:WL P N ops Q (o::l.take n) st w):WL P N ops Q (LK (n+1) (o::l)) st w:=h
theorem DH{l:List Jn}(h:WL P N ops Q [] st w):WL P N ops Q (LK 0 l) st w:=h
theorem Dd{v:ix}(hx:ev st x=some v)(hd:J0 d N=true)(h:WL P N ops Q rest ((d,v)::st) w):WL P N ops Q (⟨some d,.move x,t,p,e,none⟩::rest) st w:=mr (RV.move hx) hd h
theorem vM{v:ix}(hx:ev st x=some v)(hd:J0 d N=true)(h:WL P N ops Q rest ((d,v)::st) w):WL P N ops Q (⟨some d,.assign x,t,p,e,none⟩::rest) st w:=mr (RV.assign hx) hd h
theorem IR{T:ln}{f o:Nat}{q:JL}[FA P T f o](hx:ev st x=some (.pointer (some q)))(hd:J0 d N=true)(h:WL P N ops Q rest ((d,.pointer (some (q.add o)))::st) w):WL P N ops Q (⟨some d,.fieldAddr T x f,t,p,e,none⟩::rest) st w:=mr (RV.fa hx) hd h
theorem vL{q:JL}(hx:ev st x=some (.pointer (some q)))(hd:J0 d N=true)(h:WL P N ops Q rest ((d,.pointer (some q))::st) w):WL P N ops Q (⟨some d,.nilCheck x,t,p,e,none⟩::rest) st w:=mr (ao hx) hd h
theorem rW{vs:Array ix}{i:Nat}{v:ix}(hx:ev st x=some (.tuple vs))(hv:vs[i]? = some v)(hd:J0 d N=true)(h:WL P N ops Q rest ((d,v)::st) w):WL P N ops Q (⟨some d,.extract x i,t,p,e,none⟩::rest) st w:=mr (RV.extract hx hv) hd h
theorem FX{xt:ln}{b:Bool}(hx:ev st x=some (.bool b))(hd:J0 d N=true)(h:WL P N ops Q rest ((d,.bool (!b))::st) w):WL P N ops Q (⟨some d,.unOp .not xt x,t,p,e,none⟩::rest) st w:=mr (RV.not hx) hd h
theorem FV{y z:J3}{b:Bool}{v:ix}(hc:ev st x=some (.bool b))(hb:b=true)(hy:ev st y=some v)(hd:J0 d N=true)(h:WL P N ops Q rest ((d,v)::st) w):WL P N ops Q (⟨some d,.pick x y z,t,p,e,none⟩::rest) st w:=mr (GO hc hb hy) hd h
theorem FW{y z:J3}{b:Bool}{v:ix}(hc:ev st x=some (.bool b))(hb:b=false)(hz:ev st z=some v)(hd:J0 d N=true)(h:WL P N ops Q rest ((d,v)::st) w):WL P N ops Q (⟨some d,.pick x y z,t,p,e,none⟩::rest) st w:=mr (GP hc hb hz) hd h
theorem FZ{xt yt:ln}{y:J3}{k:Jj}{m n:Int}(hx:ev st x=some (.int k m))(hy:ev st y=some (.int k n))(hd:J0 d N=true)(h:WL P N ops Q rest ((d,.bool (decide (m<n)))::st) w):WL P N ops Q (⟨some d,.binOp .lss xt x y yt,t,p,e,none⟩::rest) st w:=mr (RV.lss hx hy) hd h
theorem F0{xt yt:ln}{y:J3}{k:Jj}{m n:Int}(hx:ev st x=some (.int k m))(hy:ev st y=some (.int k n))(hd:J0 d N=true)(h:WL P N ops Q rest ((d,.bool (decide (m≤n)))::st) w):WL P N ops Q (⟨some d,.binOp .leq xt x y yt,t,p,e,none⟩::rest) st w:=mr (RV.leq hx hy) hd h
theorem F3{xt yt:ln}{y:J3}{k:Jj}{m n:Int}(hx:ev st x=some (.int k m))(hy:ev st y=some (.int k n))(hd:J0 d N=true)(h:WL P N ops Q rest ((d,.bool (decide (n<m)))::st) w):WL P N ops Q (⟨some d,.binOp .gtr xt x y yt,t,p,e,none⟩::rest) st w:=mr (RV.gtr hx hy) hd h
theorem F4{xt yt:ln}{y:J3}{k:Jj}{m n:Int}(hx:ev st x=some (.int k m))(hy:ev st y=some (.int k n))(hd:J0 d N=true)(h:WL P N ops Q rest ((d,.bool (decide (n≤m)))::st) w):WL P N ops Q (⟨some d,.binOp .geq xt x y yt,t,p,e,none⟩::rest) st w:=mr (RV.geq hx hy) hd h
theorem F5{xt yt:ln}{y:J3}{k:Jj}{m n:Int}(hx:ev st x=some (.int k m))(hy:ev st y=some (.int k n))(hd:J0 d N=true)(h:WL P N ops Q rest ((d,.bool (m==n))::st) w):WL P N ops Q (⟨some d,.binOp .eql xt x y yt,t,p,e,none⟩::rest) st w:=mr (RV.eql hx hy) hd h
theorem FY{xt yt:ln}{y:J3}{k:Jj}{m n:Int}(hx:ev st x=some (.int k m))(hy:ev st y=some (.int k n))(hd:J0 d N=true)(h:WL P N ops Q rest ((d,.bool (m != n))::st) w):WL P N ops Q (⟨some d,.binOp .neq xt x y yt,t,p,e,none⟩::rest) st w:=mr (RV.neq hx hy) hd h
theorem De{v:ix}(hx:ev st x=some v)(hd:J0 d N=true)(h:WS P N ops w K rest ((d,v)::st)):WS P N ops w K (⟨some d,.move x,t,p,e,none⟩::rest) st:=pd (RV.move hx) hd h
theorem vO{v:ix}(hx:ev st x=some v)(hd:J0 d N=true)(h:WS P N ops w K rest ((d,v)::st)):WS P N ops w K (⟨some d,.assign x,t,p,e,none⟩::rest) st:=pd (RV.assign hx) hd h
theorem IS{T:ln}{f o:Nat}{q:JL}[FA P T f o](hx:ev st x=some (.pointer (some q)))(hd:J0 d N=true)(h:WS P N ops w K rest ((d,.pointer (some (q.add o)))::st)):WS P N ops w K (⟨some d,.fieldAddr T x f,t,p,e,none⟩::rest) st:=pd (RV.fa hx) hd h
theorem vN{q:JL}(hx:ev st x=some (.pointer (some q)))(hd:J0 d N=true)(h:WS P N ops w K rest ((d,.pointer (some q))::st)):WS P N ops w K (⟨some d,.nilCheck x,t,p,e,none⟩::rest) st:=pd (ao hx) hd h
theorem rX{vs:Array ix}{i:Nat}{v:ix}(hx:ev st x=some (.tuple vs))(hv:vs[i]? = some v)(hd:J0 d N=true)(h:WS P N ops w K rest ((d,v)::st)):WS P N ops w K (⟨some d,.extract x i,t,p,e,none⟩::rest) st:=pd (RV.extract hx hv) hd h
theorem DC{o:Jn}{n:Nat}{l:List Jn}(h:WS P N ops w K (o::l.take n) st):WS P N ops w K (LK (n+1) (o::l)) st:=h
theorem DD{l:List Jn}(h:WS P N ops w K [] st):WS P N ops w K (LK 0 l) st:=h
theorem F8{xt yt:ln}{y:J3}{k:Jj}{m n:Int}(hx:ev st x=some (.int k m))(hy:ev st y=some (.int k n))(hd:J0 d N=true)(h:WS P N ops w K rest ((d,.bool (decide (m<n)))::st)):WS P N ops w K (⟨some d,.binOp .lss xt x y yt,t,p,e,none⟩::rest) st:=pd (RV.lss hx hy) hd h
theorem F9{xt yt:ln}{y:J3}{k:Jj}{m n:Int}(hx:ev st x=some (.int k m))(hy:ev st y=some (.int k n))(hd:J0 d N=true)(h:WS P N ops w K rest ((d,.bool (decide (m≤n)))::st)):WS P N ops w K (⟨some d,.binOp .leq xt x y yt,t,p,e,none⟩::rest) st:=pd (RV.leq hx hy) hd h
theorem Ga{xt yt:ln}{y:J3}{k:Jj}{m n:Int}(hx:ev st x=some (.int k m))(hy:ev st y=some (.int k n))(hd:J0 d N=true)(h:WS P N ops w K rest ((d,.bool (decide (n<m)))::st)):WS P N ops w K (⟨some d,.binOp .gtr xt x y yt,t,p,e,none⟩::rest) st:=pd (RV.gtr hx hy) hd h
theorem Gb{xt yt:ln}{y:J3}{k:Jj}{m n:Int}(hx:ev st x=some (.int k m))(hy:ev st y=some (.int k n))(hd:J0 d N=true)(h:WS P N ops w K rest ((d,.bool (decide (n≤m)))::st)):WS P N ops w K (⟨some d,.binOp .geq xt x y yt,t,p,e,none⟩::rest) st:=pd (RV.geq hx hy) hd h
theorem Gc{xt yt:ln}{y:J3}{k:Jj}{m n:Int}(hx:ev st x=some (.int k m))(hy:ev st y=some (.int k n))(hd:J0 d N=true)(h:WS P N ops w K rest ((d,.bool (m==n))::st)):WS P N ops w K (⟨some d,.binOp .eql xt x y yt,t,p,e,none⟩::rest) st:=pd (RV.eql hx hy) hd h
theorem F7{xt yt:ln}{y:J3}{k:Jj}{m n:Int}(hx:ev st x=some (.int k m))(hy:ev st y=some (.int k n))(hd:J0 d N=true)(h:WS P N ops w K rest ((d,.bool (m != n))::st)):WS P N ops w K (⟨some d,.binOp .neq xt x y yt,t,p,e,none⟩::rest) st:=pd (RV.neq hx hy) hd h
theorem Ic{xt yt:ln}{y:J3}{m n:Int}(hx:ev st x=some (.int .i64 m))(hy:ev st y=some (.int .i64 n))(hr : -9223372036854775808≤m+n∧m+n≤9223372036854775807)(hd:J0 d N=true)(h:WS P N ops w K rest ((d,.int .i64 (m+n))::st)):WS P N ops w K (⟨some d,.binOp .add xt x y yt,t,p,e,none⟩::rest) st:=pd (RV.add hx hy (Fit.i64 hr)) hd h
theorem Ia{xt yt:ln}{y:J3}{m n:Int}(hx:ev st x=some (.int .i64 m))(hy:ev st y=some (.int .i64 n))(hr : -9223372036854775808≤m-n∧m-n≤9223372036854775807)(hd:J0 d N=true)(h:WS P N ops w K rest ((d,.int .i64 (m-n))::st)):WS P N ops w K (⟨some d,.binOp .sub xt x y yt,t,p,e,none⟩::rest) st:=pd (RV.sub hx hy (Fit.i64 hr)) hd h
theorem F6{xt:ln}{b:Bool}(hx:ev st x=some (.bool b))(hd:J0 d N=true)(h:WS P N ops w K rest ((d,.bool (!b))::st)):WS P N ops w K (⟨some d,.unOp .not xt x,t,p,e,none⟩::rest) st:=pd (RV.not hx) hd h
theorem Ib{w0:ka}{T:ln}{q:JL}{u:ix}[h:AG P T false](hx:ev st x=some (.pointer (some q)))(hc:w0.cell? q=some u)(hd:J0 d N=true)(h:WS P N ops w0.drew K rest ((d,u)::st)):WS P N ops w0.drew K (⟨some d,.load T x,t,p,e,none⟩::rest) st:=pd (RV.ld (w:=w0.drew) hc hx) hd h
theorem I6{w0:ka}{T:ln}{sz:Nat}[h:SC P T sz]{α:Type}{enc:α→List ix}{v:ix}{xs:List α}(hx:ev st x=some v)(hs:Sl enc sz w0 v xs)(hd:J0 d N=true)(h:WS P N ops w0.drew K rest ((d,.int .i64 (xs.length:Int))::st)):WS P N ops w0.drew K (⟨some d,.call ⟨.builtin .len,#[x],#[T]⟩,t,p,e,none⟩::rest) st:=pd (GQ hx (hs.ext (Ext.refl w0).drew)) hd h
theorem I8{w0:ka}{y:J3}{T:ln}{sz:Nat}[h:SC P T sz]{α:Type}{enc:α→List ix}{v:ix}{xs:List α}{k:Jj}{i:Int}{n:Nat}(hx:ev st x=some v)(hy:ev st y=some (.int k i))(hs:Sl enc sz w0 v xs)(hi:i=n)(hn:n<xs.length)(hd:J0 d N=true)(h:WS P N ops w0.drew K rest ((d,.pointer (some (adr v sz n)))::st)):WS P N ops w0.drew K (⟨some d,.indexAddr T x y,t,p,e,none⟩::rest) st:=pd (GR hx hy (hs.ext (Ext.refl w0).drew) hi hn) hd h
theorem zv(hv:RV P N op t st w v)(h:WL P N ops Q rest ((d,v)::st) w)(hd:J0 d N=true:=by exact rfl):WL P N ops Q (⟨some d,op,t,p,e,none⟩::rest) st w:=mr hv hd h
theorem zw(hv:RV P N op t st w v)(h:WS P N ops w K rest ((d,v)::st))(hd:J0 d N=true:=by exact rfl):WS P N ops w K (⟨some d,op,t,p,e,none⟩::rest) st:=pd hv hd h
theorem zc{f:Kq}{args:List J3}{ats:Array ln}{vs:List ix}{R:ix→ka→Prop}
 (hf:∀(args:Array ix) (w:ka),(callFunc f args).run P w=.ok (.enter f args) w) (hc:Ret P f vs w R)
 (h:∀v w',R v w'→WL P N ops Q rest ((d,v)::st) w') (hargs:evs st args=some vs:=by exact rfl) (hd:J0 d N=true:=by exact rfl):WL P N ops Q (⟨some d,.call ⟨.value (.func f),args.toArray,ats⟩,t,p,e,none⟩::rest) st w:=WL.call hf hargs hc hd h
theorem zt(i:Nat)(hi:ops[i]? = some ⟨some d,op,t,p,e,none⟩)(hS:S w)(hv:∀w',S w'→RV P N op t st w' v)(h:WH P N ops S Q fuel (listed.setIfInBounds i true) ((d,v)::st) w)
  (hs:Jr ops=true:=by kernel_rfl) (hf:JA .any ops listed i=true:=by kernel_rfl) (hr:(Jo .any ops listed).contains i=true:=by kernel_rfl) (hd:J0 d N=true:=by exact rfl):WH P N ops S Q (fuel+1) listed st w:=
 WH.take i hi hs hf hr hS hv hd h
theorem zr(i:Nat)(hi:ops[i]? = some ⟨some d,op,t,p,e,none⟩)(hS:S w)(hv:∀w',RV P N op t st w' v)(h:WH P N ops S Q fuel (listed.setIfInBounds i true) ((d,v)::st) w)
  (hs:Jr ops=true:=by kernel_rfl) (hf:JA .any ops listed i=true:=by kernel_rfl) (hr:(Jo .any ops listed).contains i=true:=by kernel_rfl) (hd:J0 d N=true:=by exact rfl):WH P N ops S Q (fuel+1) listed st w:=
 WH.take i hi hs hf hr hS (fun w' _=>hv w') hd h
theorem zC{c:J3}{x y:Kf}{b:Bool}(ht:b=true→WC P N x Q st w)(hf:b=false→WC P N y Q st w)(hc:ev st c=some (.bool b):=by exact rfl):WC P N (.cond c x y) Q st w:=WC.cond hc ht hf
theorem zsa{y:J3}{T:ln}{O:Nat→Nat}{i b:Nat}{cs us:Array ix}{E:ln}{q:JL}(hb:BlkO O w i b cs E)(hT:(JI T).run P w=.ok us.size w)(h:WL P N ops Q rest st (w.setRow b us))(hs:us.size=cs.size:=by exact rfl)(h1:us.toList.all JK=true:=by exact rfl)(hx:ev st x=some (.pointer (some q)):=by exact rfl)(hq:q=⟨b,0,none⟩:=by exact rfl)(hy:ev st y=some (.agg us):=by exact rfl):WL P N ops Q (⟨none,.store T x y,t,p,e,none⟩::rest) st w:=bu hb hs hT h1 hx hq hy h
theorem zsb{y:J3}{T:ln}{O:Nat→Nat}{i b:Nat}{cs us:Array ix}{E:ln}{q:JL}(hb:BlkO O w i b cs E)(hT:(JI T).run P w=.ok us.size w)(h1:us.toList.all JK=true)(h:WL P N ops Q rest st (w.setRow b us))(hs:us.size=cs.size:=by exact rfl)(hx:ev st x=some (.pointer (some q)):=by exact rfl)(hq:q=⟨b,0,none⟩:=by exact rfl)(hy:ev st y=some (.agg us):=by exact rfl):WL P N ops Q (⟨none,.store T x y,t,p,e,none⟩::rest) st w:=bu hb hs hT h1 hx hq hy h
theorem fI{P:J7}{T:ln}{f o m:Nat}{fs:Array Lu}{fd:Lu}(h1:P.underlying T=some (.struct fs))(h2:fs[f]? = some fd)(h3:fd.offset=o)(h4:∀w,(JI fd.type).run P w=.ok m w)(h5:m≠0:=by decide):FA P T f o:=⟨fs,fd,m,h1,h2,h3,h4,h5⟩
theorem zaf{i:Nat}(hS:S w)(h:S w→WH P N ops S Q fuel (listed.setIfInBounds i true) st w):QF N (rR P ops S Q fuel (listed.setIfInBounds i true)) .normal st w:=ae hS (h hS)
theorem zrm{x:J3}(i:Nat)(hi:ops[i]? = some ⟨some d,.move x,t,p,e,none⟩)(hS:S w)(hx:ev st x=some v)(h:WH P N ops S Q fuel (listed.setIfInBounds i true) ((d,v)::st) w)
  (hs:Jr ops=true:=by kernel_rfl) (hf:JA .any ops listed i=true:=by kernel_rfl) (hr:(Jo .any ops listed).contains i=true:=by kernel_rfl) (hd:J0 d N=true:=by exact rfl):WH P N ops S Q (fuel+1) listed st w:=
 WH.take i hi hs hf hr hS (fun _ _=>RV.move hx) hd h
theorem zra{x:J3}(i:Nat)(hi:ops[i]? = some ⟨some d,.assign x,t,p,e,none⟩)(hS:S w)(hx:ev st x=some v)(h:WH P N ops S Q fuel (listed.setIfInBounds i true) ((d,v)::st) w)
  (hs:Jr ops=true:=by kernel_rfl) (hf:JA .any ops listed i=true:=by kernel_rfl) (hr:(Jo .any ops listed).contains i=true:=by kernel_rfl) (hd:J0 d N=true:=by exact rfl):WH P N ops S Q (fuel+1) listed st w:=
 WH.take i hi hs hf hr hS (fun _ _=>RV.assign hx) hd h
theorem zrf{T:ln}{f o:Nat}{q:JL}[h':FA P T f o]{x:J3}(i:Nat)(hi:ops[i]? = some ⟨some d,.fieldAddr T x f,t,p,e,none⟩)(hS:S w)(hx:ev st x=some (.pointer (some q)))(h:WH P N ops S Q fuel (listed.setIfInBounds i true) ((d,.pointer (some (q.add o)))::st) w)
  (hs:Jr ops=true:=by kernel_rfl) (hf:JA .any ops listed i=true:=by kernel_rfl) (hr:(Jo .any ops listed).contains i=true:=by kernel_rfl) (hd:J0 d N=true:=by exact rfl):WH P N ops S Q (fuel+1) listed st w:=
 WH.take i hi hs hf hr hS (fun _ _=>RV.fa hx) hd h
theorem zto{j:Nat}{b:Bool}(i:Nat)(hi:ops[i]? = some ⟨some d,op,t,p,e,some (j,b)⟩)(hS:S w)(hv:∀w',S w'→RV P N op t st w' v)(h:WH P N ops S Q fuel (listed.setIfInBounds i true) ((d,v)::st) w)(hg:said ops st j=some b:=by exact rfl)
  (hs:Jr ops=true:=by kernel_rfl) (hf:JA .any ops listed i=true:=by kernel_rfl) (hr:(Jo .any ops listed).contains i=true:=by kernel_rfl) (hd:J0 d N=true:=by exact rfl):WH P N ops S Q (fuel+1) listed st w:=
 ue i hi hg hs hf hr hS hv hd h
theorem zro{j:Nat}{b:Bool}(i:Nat)(hi:ops[i]? = some ⟨some d,op,t,p,e,some (j,b)⟩)(hS:S w)(hv:∀w',RV P N op t st w' v)(h:WH P N ops S Q fuel (listed.setIfInBounds i true) ((d,v)::st) w)(hg:said ops st j=some b:=by exact rfl)
  (hs:Jr ops=true:=by kernel_rfl) (hf:JA .any ops listed i=true:=by kernel_rfl) (hr:(Jo .any ops listed).contains i=true:=by kernel_rfl) (hd:J0 d N=true:=by exact rfl):WH P N ops S Q (fuel+1) listed st w:=
 ue i hi hg hs hf hr hS (fun w' _=>hv w') hd h
theorem zte{j:Nat}{b b':Bool}(i:Nat)(hi:ops[i]? = some ⟨some d,op,t,p,e,some (j,b)⟩)(hg:said ops st j=some b')(hS:S w)(h:WH P N ops S Q fuel (listed.setIfInBounds i true) ((d,undef)::st) w)(hne:(b'==b)=false:=by exact rfl)
  (hs:Jr ops=true:=by kernel_rfl) (hf:JA .any ops listed i=true:=by kernel_rfl) (hr:(Jo .any ops listed).contains i=true:=by kernel_rfl) (hd:J0 d N=true:=by exact rfl):WH P N ops S Q (fuel+1) listed st w:=
 yT i hi hg hne hs hf hr hS hd h
theorem ztu{j:Nat}{b:Bool}(i:Nat)(hi:ops[i]? = some ⟨some d,op,t,p,e,some (j,b)⟩)(hS:S w)(h:WH P N ops S Q fuel (listed.setIfInBounds i true) ((d,undef)::st) w)(hg:jx ops st j=true:=by exact rfl)
  (hs:Jr ops=true:=by kernel_rfl) (hf:JA .any ops listed i=true:=by kernel_rfl) (hr:(Jo .any ops listed).contains i=true:=by kernel_rfl) (hd:J0 d N=true:=by exact rfl):WH P N ops S Q (fuel+1) listed st w:=
 vC i hi hg hs hf hr hS hd h
theorem nE{tB:Nat}{b c X:Bool}{st0:St}(tA n:Nat)(hS:S w)(e:X=c)(hX:cA st0 tA=some (.bool X):=by exact rfl)(hdrop:st.drop n=st0:=by exact rfl)(hf:((st.take n).all fun q=>JR q.1 tA||(match cA st0 q.1 with|none=>true|_=>false))=true:=by exact rfl)
 (hA:cA st tA=some (.bool c):=by exact rfl) (hb:cA st tB=some (.bool b):=by exact rfl):QF N (FU N S tB b st0) .normal st w:=dy n hS hdrop hf hA (fun v hv=>by rw[hX]at hv;cases hv;rw[e]) hb
theorem zin(hS:S w)(h:S w→WH P N ops S Q fuel listed st w):WH P N ops S Q fuel listed st w:=h hS
theorem zlp{α:Type}{c:Kf}(f:α→St)(g:α→ka)(I:α→Prop)(μ:α→Nat)(x0:α)(h0:I x0)
 (round:∀x,I x→WC P N c (Exit.then (fun a' w'=>∃y,I y∧μ y<μ x∧Fits N a' (f y)∧g y=w') Q) (f x) (g x)) (hc:Cov st (f x0):=by repeat' first|exact trivial|exact rfl|constructor) (hw:g x0=w:=by exact rfl):WC P N (.loop c) Q st w:=WC.loop f g I μ x0 h0 hc hw round
theorem zx{α:Type}{f:α→St}{g:α→ka}{I:α→Prop}{m:Nat}{μ:α→Nat}(y:α)(h1:I y)(h2:μ y<m)(h3:Cov st (f y):=by repeat' first|exact trivial|exact rfl|constructor)(h4:g y=w:=by exact rfl):
 QF N (Exit.then (fun a' w'=>∃y,I y∧μ y<m∧Fits N a' (f y)∧g y=w') Q) .normal st w:=QF.next y h1 h2 h3 h4
theorem zxd{α:Type}{f:α→St}{g:α→ka}{I:α→Prop}{m:Nat}{μ:α→Nat}(y:α)(h1:I y)(h2:μ y<m:=by first|omega|(dsimp only;omega))(h3:Cov st (f y):=by repeat' first|exact trivial|exact rfl|constructor)(h4:g y=w:=by exact rfl):
 QF N (Exit.then (fun a' w'=>∃y,I y∧μ y<m∧Fits N a' (f y)∧g y=w') Q) .normal st w:=QF.next y h1 h2 h3 h4
end
theorem zg{A B:Prop}(k:B)(a:Hold B→A:=by
 intro k
 repeat first
  |((with_reducible refine' Dd ?_ ?_ ?_);rotate_left 1;exact rfl;exact rfl)
  |((with_reducible refine' vM ?_ ?_ ?_);rotate_left 1;exact rfl;exact rfl)
  |((with_reducible refine' IR ?_ ?_ ?_);rotate_left 1;exact rfl;exact rfl)
  |with_reducible refine WL.nil ?_
  |with_reducible refine DG ?_
  |with_reducible refine DH ?_
  |with_reducible refine aq ?_
  |with_reducible refine WC.seq ?_
  |with_reducible refine WC.region ?_
  |with_reducible refine WC.skip ?_
  |with_reducible refine WC.block ?_
  |with_reducible refine WC.exit ?_
  |with_reducible refine WC.ret ?_
  |with_reducible refine bT ?_
  |with_reducible refine dM ?_
  |with_reducible refine bU ?_
  |with_reducible refine dN ?_
  |with_reducible refine ot ?_
  |((with_reducible refine my ?_ ?_);exact rfl)
  |((with_reducible refine' vL ?_ ?_ ?_);rotate_left 1;exact rfl;exact rfl)
  |((with_reducible refine' rW ?_ ?_ ?_ ?_);rotate_left 2;exact rfl;exact rfl;exact rfl)
  |((with_reducible refine' FZ ?_ ?_ ?_ ?_);rotate_left 3;exact rfl;exact rfl;exact rfl)
  |((with_reducible refine' F0 ?_ ?_ ?_ ?_);rotate_left 3;exact rfl;exact rfl;exact rfl)
  |((with_reducible refine' F3 ?_ ?_ ?_ ?_);rotate_left 3;exact rfl;exact rfl;exact rfl)
  |((with_reducible refine' F4 ?_ ?_ ?_ ?_);rotate_left 3;exact rfl;exact rfl;exact rfl)
  |((with_reducible refine' F5 ?_ ?_ ?_ ?_);rotate_left 3;exact rfl;exact rfl;exact rfl)
  |((with_reducible refine' FY ?_ ?_ ?_ ?_);rotate_left 3;exact rfl;exact rfl;exact rfl)
  |((with_reducible refine' FX ?_ ?_ ?_);rotate_left 1;exact rfl;exact rfl)
  |((with_reducible refine' FV ?_ ?_ ?_ ?_ ?_);rotate_left 2;exact rfl;(with_reducible exact rfl);exact rfl;exact rfl)
  |((with_reducible refine' FW ?_ ?_ ?_ ?_ ?_);rotate_left 2;exact rfl;(with_reducible exact rfl);exact rfl;exact rfl)
  |((with_reducible refine' BJ ?_ ?_ ?_ ?_);rotate_left 1;exact rfl;(with_reducible exact rfl);exact rfl)
  |((with_reducible refine' BK ?_ ?_ ?_ ?_);rotate_left 1;exact rfl;(with_reducible exact rfl);exact rfl)
  |((with_reducible refine gp ?_ ?_ ?_);exact rfl;exact rfl)
  |((with_reducible refine' DJ ?_ ?_ ?_);rotate_left 1;exact rfl;(with_reducible exact rfl))
  |((with_reducible refine' De ?_ ?_ ?_);rotate_left 1;exact rfl;exact rfl)
  |((with_reducible refine' vO ?_ ?_ ?_);rotate_left 1;exact rfl;exact rfl)
  |((with_reducible refine' IS ?_ ?_ ?_);rotate_left 1;exact rfl;exact rfl)
  |((with_reducible refine' vN ?_ ?_ ?_);rotate_left 1;exact rfl;exact rfl)
  |((with_reducible refine' rX ?_ ?_ ?_ ?_);rotate_left 2;exact rfl;exact rfl;exact rfl)
  |((with_reducible refine' BG ?_ ?_ ?_ ?_);rotate_left 1;exact rfl;(with_reducible exact rfl);exact rfl)
  |((with_reducible refine' BH ?_ ?_ ?_ ?_);rotate_left 1;exact rfl;(with_reducible exact rfl);exact rfl)
  |((with_reducible refine BF ?_ ?_ ?_);exact rfl;exact rfl)
  |with_reducible refine DC ?_
  |with_reducible refine DD ?_
  |((with_reducible refine' F6 ?_ ?_ ?_);rotate_left 1;exact rfl;exact rfl)
  |((with_reducible refine' F8 ?_ ?_ ?_ ?_);rotate_left 3;exact rfl;exact rfl;exact rfl)
  |((with_reducible refine' F9 ?_ ?_ ?_ ?_);rotate_left 3;exact rfl;exact rfl;exact rfl)
  |((with_reducible refine' Ga ?_ ?_ ?_ ?_);rotate_left 3;exact rfl;exact rfl;exact rfl)
  |((with_reducible refine' Gb ?_ ?_ ?_ ?_);rotate_left 3;exact rfl;exact rfl;exact rfl)
  |((with_reducible refine' Gc ?_ ?_ ?_ ?_);rotate_left 3;exact rfl;exact rfl;exact rfl)
  |((with_reducible refine' F7 ?_ ?_ ?_ ?_);rotate_left 3;exact rfl;exact rfl;exact rfl)
  |((with_reducible refine' DE ?_ ?_ ?_);rotate_left 1;exact rfl;(with_reducible exact rfl))
 exact k.out):A:=a ⟨k⟩
theorem zh{A B:Prop}(k:B)(a:Hold B→A:=by
 intro k
 repeat first
  |((with_reducible refine' Dd ?_ ?_ ?_);rotate_left 1;exact rfl;exact rfl)
  |((with_reducible refine' vM ?_ ?_ ?_);rotate_left 1;exact rfl;exact rfl)
  |((with_reducible refine' IR ?_ ?_ ?_);rotate_left 1;exact rfl;exact rfl)
  |with_reducible refine WL.nil ?_
  |with_reducible refine DG ?_
  |with_reducible refine DH ?_
  |with_reducible refine aq ?_
  |with_reducible refine WC.seq ?_
  |with_reducible refine WC.region ?_
  |with_reducible refine WC.skip ?_
  |with_reducible refine WC.block ?_
  |with_reducible refine WC.exit ?_
  |with_reducible refine WC.ret ?_
  |with_reducible refine bT ?_
  |with_reducible refine dM ?_
  |with_reducible refine bU ?_
  |with_reducible refine dN ?_
  |with_reducible refine ot ?_
  |((with_reducible refine my ?_ ?_);exact rfl)
  |((with_reducible refine' vL ?_ ?_ ?_);rotate_left 1;exact rfl;exact rfl)
  |((with_reducible refine' rW ?_ ?_ ?_ ?_);rotate_left 2;exact rfl;exact rfl;exact rfl)
  |((with_reducible refine' FZ ?_ ?_ ?_ ?_);rotate_left 3;exact rfl;exact rfl;exact rfl)
  |((with_reducible refine' F0 ?_ ?_ ?_ ?_);rotate_left 3;exact rfl;exact rfl;exact rfl)
  |((with_reducible refine' F3 ?_ ?_ ?_ ?_);rotate_left 3;exact rfl;exact rfl;exact rfl)
  |((with_reducible refine' F4 ?_ ?_ ?_ ?_);rotate_left 3;exact rfl;exact rfl;exact rfl)
  |((with_reducible refine' F5 ?_ ?_ ?_ ?_);rotate_left 3;exact rfl;exact rfl;exact rfl)
  |((with_reducible refine' FY ?_ ?_ ?_ ?_);rotate_left 3;exact rfl;exact rfl;exact rfl)
  |((with_reducible refine' FX ?_ ?_ ?_);rotate_left 1;exact rfl;exact rfl)
  |((with_reducible refine' FV ?_ ?_ ?_ ?_ ?_);rotate_left 2;exact rfl;(with_reducible exact rfl);exact rfl;exact rfl)
  |((with_reducible refine' FW ?_ ?_ ?_ ?_ ?_);rotate_left 2;exact rfl;(with_reducible exact rfl);exact rfl;exact rfl)
  |((with_reducible refine' BJ ?_ ?_ ?_ ?_);rotate_left 1;exact rfl;(with_reducible exact rfl);exact rfl)
  |((with_reducible refine' BK ?_ ?_ ?_ ?_);rotate_left 1;exact rfl;(with_reducible exact rfl);exact rfl)
  |((with_reducible refine gp ?_ ?_ ?_);exact rfl;exact rfl)
  |((with_reducible refine' DJ ?_ ?_ ?_);rotate_left 1;exact rfl;(with_reducible exact rfl))
  |((with_reducible refine' De ?_ ?_ ?_);rotate_left 1;exact rfl;exact rfl)
  |((with_reducible refine' vO ?_ ?_ ?_);rotate_left 1;exact rfl;exact rfl)
  |((with_reducible refine' IS ?_ ?_ ?_);rotate_left 1;exact rfl;exact rfl)
  |((with_reducible refine' vN ?_ ?_ ?_);rotate_left 1;exact rfl;exact rfl)
  |((with_reducible refine' rX ?_ ?_ ?_ ?_);rotate_left 2;exact rfl;exact rfl;exact rfl)
  |((with_reducible refine' BG ?_ ?_ ?_ ?_);rotate_left 1;exact rfl;(with_reducible exact rfl);exact rfl)
  |((with_reducible refine' BH ?_ ?_ ?_ ?_);rotate_left 1;exact rfl;(with_reducible exact rfl);exact rfl)
  |((with_reducible refine BF ?_ ?_ ?_);exact rfl;exact rfl)
  |with_reducible refine DC ?_
  |with_reducible refine DD ?_
  |((with_reducible refine' F6 ?_ ?_ ?_);rotate_left 1;exact rfl;exact rfl)
  |((with_reducible refine' F8 ?_ ?_ ?_ ?_);rotate_left 3;exact rfl;exact rfl;exact rfl)
  |((with_reducible refine' F9 ?_ ?_ ?_ ?_);rotate_left 3;exact rfl;exact rfl;exact rfl)
  |((with_reducible refine' Ga ?_ ?_ ?_ ?_);rotate_left 3;exact rfl;exact rfl;exact rfl)
  |((with_reducible refine' Gb ?_ ?_ ?_ ?_);rotate_left 3;exact rfl;exact rfl;exact rfl)
  |((with_reducible refine' Gc ?_ ?_ ?_ ?_);rotate_left 3;exact rfl;exact rfl;exact rfl)
  |((with_reducible refine' F7 ?_ ?_ ?_ ?_);rotate_left 3;exact rfl;exact rfl;exact rfl)
  |((with_reducible refine' DE ?_ ?_ ?_);rotate_left 1;exact rfl;(with_reducible exact rfl))
  |((with_reducible refine' I4 ?_ ?_ ?_ ?_);rotate_left 2;exact rfl;(with_reducible assumption);exact rfl)
  |((with_reducible refine' G9 ?_ ?_ ?_ ?_ ?_);rotate_left 2;exact rfl;exact rfl;omega;exact rfl)
  |((with_reducible refine' I3 ?_ ?_ ?_ ?_);rotate_left 4;exact rfl;(with_reducible assumption);exact rfl)
  |((with_reducible refine' I5 ?_ ?_ ?_ ?_ ?_ ?_ ?_);rotate_left 7;exact rfl;exact rfl;(with_reducible assumption);exact rfl;omega;exact rfl)
  |((with_reducible refine' G8 ?_ ?_ ?_ ?_ ?_);rotate_left 2;exact rfl;exact rfl;omega;exact rfl)
  |((with_reducible refine' I7 ?_ ?_ ?_ ?_);rotate_left 2;exact rfl;(with_reducible assumption);exact rfl)
  |((with_reducible refine' Ic ?_ ?_ ?_ ?_ ?_);rotate_left 2;exact rfl;exact rfl;omega;exact rfl)
  |((with_reducible refine' Ia ?_ ?_ ?_ ?_ ?_);rotate_left 2;exact rfl;exact rfl;omega;exact rfl)
  |((with_reducible refine' Ib ?_ ?_ ?_ ?_);rotate_left 2;exact rfl;(with_reducible assumption);exact rfl)
  |((with_reducible refine' I6 ?_ ?_ ?_ ?_);rotate_left 4;exact rfl;(with_reducible assumption);exact rfl)
  |((with_reducible refine' I8 ?_ ?_ ?_ ?_ ?_ ?_ ?_);rotate_left 7;exact rfl;exact rfl;(with_reducible assumption);exact rfl;omega;exact rfl)
 exact k.out):A:=a ⟨k⟩
section
variable{P:J7}{N:Nat}{ops:Array Jn}{Q:JF→JT→ka→Prop}{K:JT→Prop}{rest:List Jn}{st:St}{w:ka}
variable{t:ln}{p:String}{e:Array Kb}{d:Nat}{v:ix}{op:Op}{B:Prop}
theorem zvG(hv:RV P N op t st w v)(k:B)(hd:J0 d N=true:=by exact rfl)(a:Hold B→WL P N ops Q rest ((d,v)::st) w:=by intro k;exact zg k.out):WL P N ops Q (⟨some d,op,t,p,e,none⟩::rest) st w:=mr hv hd (a ⟨k⟩)
theorem zwG(hv:RV P N op t st w v)(k:B)(hd:J0 d N=true:=by exact rfl)(a:Hold B→WS P N ops w K rest ((d,v)::st):=by intro k;exact zg k.out):WS P N ops w K (⟨some d,op,t,p,e,none⟩::rest) st:=pd hv hd (a ⟨k⟩)
theorem zTG{c:J3}{x y:Kf}{b:Bool}(hc:ev st c=some (.bool b))(hb:b=true)(k:B)(a:Hold B→WC P N x Q st w:=by intro k;exact zg k.out):WC P N (.cond c x y) Q st w:=aR hc hb (a ⟨k⟩)
theorem zFG{c:J3}{x y:Kf}{b:Bool}(hc:ev st c=some (.bool b))(hb:b=false)(k:B)(a:Hold B→WC P N y Q st w:=by intro k;exact zg k.out):WC P N (.cond c x y) Q st w:=aN hc hb (a ⟨k⟩)
theorem zvH(hv:RV P N op t st w v)(k:B)(hd:J0 d N=true:=by exact rfl)(a:Hold B→WL P N ops Q rest ((d,v)::st) w:=by intro k;exact zh k.out):WL P N ops Q (⟨some d,op,t,p,e,none⟩::rest) st w:=mr hv hd (a ⟨k⟩)
theorem zwH(hv:RV P N op t st w v)(k:B)(hd:J0 d N=true:=by exact rfl)(a:Hold B→WS P N ops w K rest ((d,v)::st):=by intro k;exact zh k.out):WS P N ops w K (⟨some d,op,t,p,e,none⟩::rest) st:=pd hv hd (a ⟨k⟩)
theorem zTH{c:J3}{x y:Kf}{b:Bool}(hc:ev st c=some (.bool b))(hb:b=true)(k:B)(a:Hold B→WC P N x Q st w:=by intro k;exact zh k.out):WC P N (.cond c x y) Q st w:=aR hc hb (a ⟨k⟩)
theorem zFH{c:J3}{x y:Kf}{b:Bool}(hc:ev st c=some (.bool b))(hb:b=false)(k:B)(a:Hold B→WC P N y Q st w:=by intro k;exact zh k.out):WC P N (.cond c x y) Q st w:=aN hc hb (a ⟨k⟩)
end
end Go.VL
end
section
namespace Go.VL
open Go.Proofs.Tryz
open Go.Proofs Go.Proofs.YtjemhjcngaokpaaGreatDoor
open Go.Proofs.Tryz
instance :FA J5 25 0 0:=fI Mr rfl rfl JU
instance :FA J5 25 1 1:=fI Mr rfl rfl JU
instance :FA J5 25 2 2:=fI Mr rfl rfl Ng
instance :FA J5 26 2 2:=fI underlying26 rfl rfl Ng
instance :FA J5 30 0 0:=fI KU rfl rfl Jk
instance :FA J5 30 1 1:=fI KU rfl rfl JU
instance :FA J5 30 2 2:=fI KU rfl rfl JU
instance :FA J5 30 3 3:=fI KU rfl rfl JU
instance :FA J5 30 4 4:=fI KU rfl rfl JU
instance :FA J5 33 0 0:=fI Nq rfl rfl sizeOf30
instance :FA J5 33 1 5:=fI Nq rfl rfl Nf
instance :FA J5 35 0 0:=fI Km rfl rfl Lq
instance :FA J5 35 1 1:=fI Km rfl rfl Lq
instance :FA J5 35 2 2:=fI Km rfl rfl Lq
instance :FA J5 35 3 3:=fI Km rfl rfl Jk
instance :FA J5 35 4 4:=fI Km rfl rfl JU
instance :FA J5 35 5 5:=fI Km rfl rfl sizeOf33
instance :FA J5 35 6 11:=fI Km rfl rfl sizeOf33
instance :FA J5 41 0 0:=fI Mq rfl rfl JU
instance :FA J5 41 1 1:=fI Mq rfl rfl JU
instance :FA J5 41 2 2:=fI Mq rfl rfl sizeOf39
instance :FA J5 48 0 0:=fI Mp rfl rfl JU
instance :FA J5 48 1 1:=fI Mp rfl rfl JU
instance :FA J5 48 2 2:=fI Mp rfl rfl Ng
instance :FA J5 52 0 0:=fI Mo rfl rfl Jk
instance :FA J5 52 1 1:=fI Mo rfl rfl Jk
instance :FA J5 52 2 2:=fI Mo rfl rfl sizeOf50
instance :FA J5 54 0 0:=fI Mn rfl rfl Na
instance :FA J5 54 1 3:=fI Mn rfl rfl Na
instance :FA J5 54 2 6:=fI Mn rfl rfl KJ
instance :FA J5 58 0 0:=fI Np rfl rfl JU
instance :FA J5 58 1 1:=fI Np rfl rfl Jk
instance :FA J5 67 0 0:=fI Lo rfl rfl Jk
instance :FA J5 67 1 1:=fI Lo rfl rfl Jk
instance :FA J5 67 2 2:=fI Lo rfl rfl MG
instance :FA J5 69 0 0:=fI Mm rfl rfl J1
instance :FA J5 69 1 3:=fI Mm rfl rfl J1
instance :FA J5 69 2 6:=fI Mm rfl rfl KJ
instance :FA J5 72 0 0:=fI No rfl rfl MF
instance :FA J5 72 1 1:=fI No rfl rfl Nf
instance :FA J5 107 1 1:=fI Nm rfl rfl MF
instance :FA J5 107 2 2:=fI Nm rfl rfl Nf
instance :FA J5 117 0 0:=fI Nl rfl rfl Jk
instance :FA J5 117 1 1:=fI Nl rfl rfl KJ
instance :FA J5 119 0 0:=fI Kv rfl rfl Nc
instance :FA J5 119 1 17:=fI Kv rfl rfl Jk
instance :FA J5 119 2 18:=fI Kv rfl rfl sizeOf115
instance :FA J5 119 3 19:=fI Kv rfl rfl KJ
instance :FA J5 119 4 20:=fI Kv rfl rfl sizeOf117
instance :FA J5 119 5 22:=fI Kv rfl rfl KJ
instance :FA J5 125 0 0:=fI Ku rfl rfl Lp
instance :FA J5 125 1 1:=fI Ku rfl rfl Jk
instance :FA J5 125 2 2:=fI Ku rfl rfl Jk
instance :FA J5 125 3 3:=fI Ku rfl rfl Jk
instance :FA J5 125 4 4:=fI Ku rfl rfl Jk
instance :FA J5 125 5 5:=fI Ku rfl rfl Nb
instance :FA J5 128 0 0:=fI KO rfl rfl sizeOf125
instance :FA J5 128 1 6:=fI KO rfl rfl sizeOf41
instance :FA J5 128 2 9:=fI KO rfl rfl sizeOf126
instance :FA J5 128 3 10:=fI KO rfl rfl KJ
instance :FA J5 128 4 11:=fI KO rfl rfl KJ
instance :FA J5 135 0 0:=fI Ld rfl rfl Nc
instance :FA J5 135 1 17:=fI Ld rfl rfl Nc
instance :FA J5 135 2 34:=fI Ld rfl rfl sizeOf132
instance :FA J5 135 3 35:=fI Ld rfl rfl sizeOf133
instance :FA J5 139 0 0:=fI Lc rfl rfl Jk
instance :FA J5 139 1 1:=fI Lc rfl rfl Lq
instance :FA J5 139 2 2:=fI Lc rfl rfl Jk
instance :FA J5 139 3 3:=fI Lc rfl rfl Lq
instance :FA J5 141 0 0:=fI KN rfl rfl sizeOf139
instance :FA J5 141 1 4:=fI KN rfl rfl sizeOf139
instance :FA J5 141 2 8:=fI KN rfl rfl KJ
instance :FA J5 141 3 9:=fI KN rfl rfl KJ
instance :FA J5 141 4 10:=fI KN rfl rfl Jk
instance :FA J5 145 0 0:=fI M9 rfl rfl sizeOf143
instance :FA J5 145 1 1:=fI M9 rfl rfl Jk
instance :FA J5 145 2 2:=fI M9 rfl rfl Jk
instance :FA J5 160 0 0:=fI KM rfl rfl KJ
instance :FA J5 160 1 1:=fI KM rfl rfl sizeOf157
instance :FA J5 160 2 2:=fI KM rfl rfl sizeOf158
instance :FA J5 160 3 3:=fI KM rfl rfl sizeOf155
instance :FA J5 160 4 4:=fI KM rfl rfl sizeOf156
instance :FA J5 162 0 0:=fI M8 rfl rfl JU
instance :FA J5 162 1 1:=fI M8 rfl rfl JU
instance :FA J5 162 2 2:=fI M8 rfl rfl Jk
instance :FA J5 165 0 0:=fI M7 rfl rfl Jk
instance :FA J5 165 1 1:=fI M7 rfl rfl Jk
instance :FA J5 165 2 2:=fI M7 rfl rfl Jk
instance :FA J5 169 0 0:=fI M6 rfl rfl sizeOf94
instance :FA J5 169 1 1:=fI M6 rfl rfl sizeOf167
instance :FA J5 169 2 2:=fI M6 rfl rfl MF
instance :FA J5 205 0 0:=fI Kr rfl rfl sizeOf72
instance :FA J5 205 1 2:=fI Kr rfl rfl sizeOf203
instance :FA J5 205 2 3:=fI Kr rfl rfl JU
instance :FA J5 205 3 4:=fI Kr rfl rfl sizeOf155
instance :FA J5 205 4 5:=fI Kr rfl rfl sizeOf202
instance :FA J5 205 5 6:=fI Kr rfl rfl Jk
instance :FA J5 226 0 0:=fI Nk rfl rfl Lp
instance :FA J5 226 1 1:=fI Nk rfl rfl J1
instance :FA J5 242 0 0:=fI Nj rfl rfl Lp
instance :FA J5 242 1 1:=fI Nj rfl rfl Jk
instance :FA J5 244 0 0:=fI KL rfl rfl sizeOf242
instance :FA J5 244 1 2:=fI KL rfl rfl sizeOf126
instance :FA J5 244 2 3:=fI KL rfl rfl Jk
instance :FA J5 244 3 4:=fI KL rfl rfl Jk
instance :FA J5 244 4 5:=fI KL rfl rfl Nb
instance :SC J5 22 1:=⟨3,underlying22,Jk⟩
instance :SC J5 23 7:=⟨54,underlying23,sizeOf54⟩
instance :SC J5 31 1:=⟨28,underlying31,Lq⟩
instance :SC J5 39 7:=⟨69,underlying39,sizeOf69⟩
instance :SC J5 50 3:=⟨52,underlying50,Na⟩
instance :SC J5 61 1:=⟨3,underlying61,Jk⟩
instance :SC J5 65 3:=⟨67,KT,J1⟩
instance :SC J5 70 1:=⟨22,underlying70,JU⟩
instance :SC J5 99 2:=⟨72,underlying99,sizeOf72⟩
instance :SC J5 103 1:=⟨9,underlying103,Lp⟩
instance :SC J5 115 2:=⟨117,underlying115,sizeOf117⟩
instance :SC J5 126 4:=⟨226,Ma,Mc⟩
instance :SC J5 133 3:=⟨145,underlying133,sizeOf145⟩
instance :SC J5 143 11:=⟨141,underlying143,sizeOf141⟩
instance :SC J5 158 3:=⟨162,underlying158,sizeOf162⟩
instance :SC J5 203 1:=⟨70,underlying203,MF⟩
instance :AG J5 3 false:=⟨isAgg3⟩
instance :AG J5 4 false:=⟨isAgg4⟩
instance :AG J5 5 false:=⟨isAgg5⟩
instance :AG J5 9 false:=⟨isAgg9⟩
instance :AG J5 22 false:=⟨isAgg22⟩
instance :AG J5 23 false:=⟨isAgg23⟩
instance :AG J5 28 false:=⟨isAgg28⟩
instance :AG J5 31 false:=⟨isAgg31⟩
instance :AG J5 36 false:=⟨isAgg36⟩
instance :AG J5 39 false:=⟨isAgg39⟩
instance :AG J5 50 false:=⟨isAgg50⟩
instance :AG J5 65 false:=⟨isAgg65⟩
instance :AG J5 70 false:=⟨isAgg70⟩
instance :AG J5 94 false:=⟨isAgg94⟩
instance :AG J5 115 false:=⟨isAgg115⟩
instance :AG J5 126 false:=⟨isAgg126⟩
instance :AG J5 132 false:=⟨isAgg132⟩
instance :AG J5 133 false:=⟨isAgg133⟩
instance :AG J5 143 false:=⟨isAgg143⟩
instance :AG J5 155 false:=⟨isAgg155⟩
instance :AG J5 156 false:=⟨isAgg156⟩
instance :AG J5 157 false:=⟨isAgg157⟩
instance :AG J5 158 false:=⟨isAgg158⟩
instance :AG J5 167 false:=⟨isAgg167⟩
instance :AG J5 201 false:=⟨isAgg201⟩
instance :AG J5 202 false:=⟨isAgg202⟩
instance :AG J5 203 false:=⟨isAgg203⟩
end Go.VL
end
namespace Go.VL
open Go.Proofs.Tryz
theorem max_lt(k:Jj){a:Nat}(h:(a:Int)<=k.max):a<2^k.bits:=by
 cases k<;>simp only[LL,KX,KP]at h ⊢<;>simp at h ⊢<;>omega
theorem fG(n a:Nat)(h:a<2^n):(MU n (a:Int)).toNat=a:=by
 rw[show MU n (a:Int)=BitVec.ofNat n a from by simp,BitVec.toNat_ofNat,Nat.mod_eq_of_lt h]
theorem mL(k:Jj){a:Nat}(h:(a:Int)<=k.max):k.wrap a=a:=by
 cases k<;>simp only[LL,KX,KP]at h<;>simp[NH,KX,KP]at h ⊢<;>(try split)<;>omega
def zn(k:Jj):Nat:=if k.signed then k.bits-1 else k.bits
theorem lG(k:Jj)(a:Nat):(a:Int)<=k.max↔a<2^zn k:=by
 cases k<;>simp[LL,KX,KP,zn]<;>omega
section
variable{P:J7}{N:Nat}{ops:Array Jn}{Q:JF→JT→ka→Prop}{rest:List Jn}{st:St}{w:ka}
variable{t xt yt:ln}{p:String}{e:Array Kb}{d:Nat}{x y z:J3}
variable{k:Jj}{m n:Int}{a b:Nat}
theorem D4(ha:(a:Int)<=k.max)(hb:(b:Int)<=k.max):(binOp .and xt (.int k a) (.int k b)).run P w=.ok (.int k ((a &&& b:Nat):Int)) w:=by
 rw[binOp_and];have h:((a &&& b:Nat):Int)<=k.max:=by have:=@Nat.and_le_left a b;omega
 simp only[Nn,BitVec.toNat_and,fG _ _ (max_lt k ha),fG _ _ (max_lt k hb),mL k h];rfl
theorem Gk(ha:(a:Int)<=k.max)(hb:(b:Int)<=k.max):(binOp .or xt (.int k a) (.int k b)).run P w=.ok (.int k ((a ||| b:Nat):Int)) w:=by
 rw[binOp_or];have h:((a ||| b:Nat):Int)<=k.max:=(lG k _).2 (Nat.or_lt_two_pow ((lG k a).1 ha) ((lG k b).1 hb));simp only[Nn,BitVec.toNat_or,fG _ _ (max_lt k ha),fG _ _ (max_lt k hb),mL k h];rfl
theorem lV(hx:ev st x=some (.int k m))(hy:ev st y=some (.int k n))(hm:m=a)(hn:n=b)(ha:(a:Int)<=k.max)(hb:(b:Int)<=k.max):RV P N (.binOp .and xt x y yt) t st w (.int k ((a &&& b:Nat):Int)):=by
 subst hm;subst hn;exact eY hx hy (D4 ha hb)
theorem oo(hx:ev st x=some (.int k m))(hy:ev st y=some (.int k n))(hm:m=a)(hn:n=b)(ha:(a:Int)<=k.max)(hb:(b:Int)<=k.max):RV P N (.binOp .or xt x y yt) t st w (.int k ((a ||| b:Nat):Int)):=by
 subst hm;subst hn;exact eY hx hy (Gk ha hb)
theorem gq{k':Jj}(hx:ev st x=some (.int k m))(hy:ev st y=some (.int k' n))(hm:m=a)(hn:n=b)(hb:b<=k.bits):RV P N (.binOp .shr xt x y yt) t st w (.int k ((a / 2^b:Nat):Int)):=by
 subst hm;subst hn;refine eY hx hy ?_;rw[binOp_shr];have h1:¬(b:Int)<0:=zo;simp only[Ny,if_neg h1,JG,MR hb];rw[Int.fdiv_eq_ediv_of_nonneg _ (by exact_mod_cast JJ _)];simp
theorem rL{k':Jj}(hx:ev st x=some (.int k m))(hy:ev st y=some (.int k' n))(hm:m=a)(hn:n=b)(hb:b<=k.bits)(hr:((a*2^b:Nat):Int)<=k.max):RV P N (.binOp .shl xt x y yt) t st w (.int k ((a*2^b:Nat):Int)):=by
 subst hm;subst hn;refine eY hx hy ?_;rw[binOp_shl];have h1:¬(b:Int)<0:=zo;have h2:=mL k hr;simp only[Ny,if_neg h1,JG,MR hb];have h3:(a:Int)*2^b=((a*2^b:Nat):Int):=by simp
 rw[h3,h2];rfl
theorem uw(l:List UInt8):strOfNums (l.map fun b=>(b.toNat:Int))=bs l:=by
 simp only[strOfNums,bs,List.map_map];congr 1;rw[show((fun n:Int=>KS n.toNat)∘fun b:UInt8=>(b.toNat:Int))=id from by funext b;simp];simp
theorem xK{l:List UInt8}{v:ix}{E:ln}(hl:Sl (fun b:UInt8=>[LF .u8 (b.toNat:Int)]) 1 w v l)(hs:P.underlying xt=some (.slice E))(he:P.underlying E=some (.int .u8))(a0:P.underlying yt=some .string)(hx:ev st x=some v):
  RV P N (.convert xt yt x) t st w (.string (bs l)):=
 fun a' ha a2 p e g=>by
  obtain⟨a,c,rfl,hc,_,a1⟩:=hl.shape;simp only[execOp,ha.ev hx,J8]
  by_cases h0:l.length=0
  ·obtain rfl:l=[]:=JD h0
   cases a with
   |none=>
    rw[run_convert_bytes_nil w xt E hs he _ _ yt a0];rfl
   |some q=>
    obtain⟨b,o,sp⟩:=q;have hq:=run_convert_bytes_string (P:=P) w xt yt E (some ⟨b,o,sp⟩) 0 c hs he a0;simp only[MJ]at hq ⊢;rw[hq,run_bytesToString w ⟨b,o,sp⟩ 0 c [] (by simp[loadCells,loadCellsFrom])];rfl
  obtain⟨b,o,rfl⟩:=a1 h0
  have:=run_convert_bytes_arg (P:=P) w xt E hs he b o l.length c (l.map fun b=>(b.toNat:Int)) (by simp) (fun i hi=>by
   have h1:=hl.cells i hi 0 _ rfl;rw[ax]at h1;simp only[adr,Lk]at h1;rw[h1,JN,Ju (by simpa using hi)]
   simp) yt a0
  rw[this,uw];rfl
end
section
open Go.RowKit
abbrev Fr(ro:Option Nat):Fence:={ Jy with round:=ro }
def fe(o:Jn):Bool:=match o.op with | .defer _=>false|_=>true
theorem yh{o:Jn}(h:fe o=true):∀c,o.op≠.defer c:=by
 intro c e;simp[fe,e]at h
def dn(ds:List JP)(Q:JF->JT->ka->Prop):JF->JT->ka->Prop:=fun e a w=>Q e { a with defers:=a.defers++ds } w
theorem jI(a:JT)(x:List JP):({ a with defers:=x }:JT).eval=a.eval:=by
 funext t;cases t<;>rfl
theorem Jc{ro:Option Nat}{P:J7}{o:Jn}{a:JT}{w:ka}{next:JT->ka->Prop}{Q Q1:JF->JT->ka->Prop}{ds:List JP} 
  (hn:ro=none\/fe o=true) (a1:∀a w,¬Q1 .outgrown a w) (hq:∀c a w,Q1 (.panic c) a w->Q (.panic c) { a with defers:=a.defers++ds } w)
  (h:o.wp P a w (fun a w=>next { a with defers:=a.defers++ds } w) Q1):o.wpIn (Fr ro) 0 P { a with defers:=a.defers++ds } w next Q:=by
 refine⟨fun _ _=>trivial,?_⟩;have hs:o.semAt (Fr ro).round ({ a with defers:=a.defers++ds }:JT).eval=execOp a.eval o:=by
  rw[jI]
  rcases hn with rfl|hn
  ·rfl
  exact Oper.semAt_eq _ _ _ (yh hn)
 rw[hs];unfold Kg at h;generalize (execOp a.eval o).run P w=r at h ⊢
 cases r with
 |ok nx w'=>
  cases nx with
  |value v=>cases hd:o.dst<;>simpa[KG,LZ,KF,hd]using h
  |skip=>cases hd:o.dst<;>simpa[KG,LZ,KF,hd]using h
  |defer d=>cases hd:o.dst<;>simpa[KG,LZ,KF,hd]using h
  |enter f args=>
   refine⟨fun hh=>by simp[Jy]at hh,?_⟩;refine MO (callsIn_wide.2 h:CallsIn Jy _ P f args w' _) ?_
   intro e w'' q
   cases e with
   |returned v=>cases hd:o.dst<;>simpa[KF,hd]using q
   |panicked c=>exact hq _ _ _ q
   |outgrown=>obtain⟨a0,w0,q⟩:=q;exact absurd q (a1 _ _)
  |row row args=>
   refine⟨fun hh=>by simp[Jy]at hh,fun c cs _=>?_⟩;obtain⟨v,w'',q,s⟩:=h c cs;refine⟨v,w'',?_,stepsIn_wide.2 s⟩
   cases hd:o.dst<;>simpa[KF,hd]using q
  |_=>exact h.elim
 |halt hl w'=>
  cases hl with
  |panic v=>exact hq _ _ _ h
  |_=>exact h.elim
theorem eP{ro:Option Nat}{P:J7}{ops:Array Jn}{Q:JF->JT->ka->Prop}{ds:List JP}(l2:List Jn)(a2:∀a w,¬Q .outgrown a w):
  ∀(l:List Jn),(ro=none\/l.all fe=true)->∀a w,wpList P ops (dn ds (Exit.then (wpListIn (Fr ro) 0 P ops Q l2) Q)) l a w->wpListIn (Fr ro) 0 P ops Q (l++l2) { a with defers:=a.defers++ds } w
 |[],_,a,w,h=>h
 |o::rest,hn,a,w,h=>by
  have a4:ro=none\/fe o=true:=by rcases hn with h|h;exact .inl h;exact .inr (by simp at h;exact h.1)
  have a3:ro=none\/rest.all fe=true:=by rcases hn with h|h;exact .inl h;exact .inr (by simp at h ⊢;exact h.2)
  rw[Kk];unfold wpListIn;unfold wpList at h;have a1:∀a w,¬dn ds (Exit.then (wpListIn (Fr ro) 0 P ops Q l2) Q) .outgrown a w:=fun a w q=>a2 _ _ q
  split at h
  ·rename_i hw;rw[if_pos hw]
   rcases h with h|⟨_,a0,w0,h⟩
   ·refine Jc (Q1:=dn ds (Exit.then (wpListIn (Fr ro) 0 P ops Q l2) Q)) a4 a1 (fun _ _ _ q=>q) ?_;have hm:∀a w,wpList P ops (dn ds (Exit.then (wpListIn (Fr ro) 0 P ops Q l2) Q)) rest a w->wpListIn (Fr ro) 0 P ops Q (rest++l2) { a with defers:=a.defers++ds } w:=eP l2 a2 rest a3;unfold Kg at h ⊢;generalize (execOp a.eval o).run P w=r at h ⊢
    cases r with
    |ok nx w'=>
     cases nx with
     |value v=>exact hm _ _ h
     |skip=>exact hm _ _ h
     |defer d=>exact hm _ _ h
     |enter f args=>
      refine JX h ?_;intro e w'' q
      cases e with
      |returned v=>exact hm _ _ q
      |_=>exact q
     |row row args=>exact Mz h fun v w'' q=>hm _ _ q
     |_=>exact h
    |halt hl w'=>cases hl<;>exact h
   exact absurd h (a1 _ _)
  rename_i hw;rw[if_neg hw];refine⟨fun _ _=>trivial,?_⟩;have:=eP l2 a2 rest a3 _ _ h
  cases hd:o.dst<;>simpa[KF,hd]using this
theorem then_self(Q:JF->JT->ka->Prop):Exit.then (fun a w=>Q .normal a w) Q=Q:=by
 funext e a w;cases e<;>rfl
theorem mS{ro:Option Nat}{P:J7}{ops:Array Jn}{Q:JF->JT->ka->Prop}{ds:List JP}(a0:∀a w,¬Q .outgrown a w) 
  (l:List Jn) (hn:ro=none\/l.all fe=true) (a:JT) (w:ka) (h:wpList P ops (dn ds Q) l a w):wpListIn (Fr ro) 0 P ops Q l { a with defers:=a.defers++ds } w:=by
 have:=eP (ro:=ro) (P:=P) (ops:=ops) (Q:=Q) (ds:=ds) [] a0 l hn a w (by
  rw[show Exit.then (wpListIn (Fr ro) 0 P ops Q []) Q=Q from then_self Q];exact h)
 rwa[MN]at this
def WI(ro:Option Nat)(P:J7)(N:Nat)(ds:List JP)(c:Kf)(Q:JF->JT->ka->Prop)(st:St)(w:ka):Prop:=
 ∀a,Fits N a st->c.wpIn (Fr ro) 0 P Q { a with defers:=ds } w
def QI(N:Nat)(ds:List JP)(Q:JF->JT->ka->Prop)(e:JF)(st:St)(w:ka):Prop:=
 ∀a,Fits N a st->Q e { a with defers:=ds } w
section
variable{P:J7}{N:Nat}{ro:Option Nat}{ds:List JP}{Q:JF→JT→ka→Prop}{st:St}{w:ka}
theorem rH{N:Nat}{a:JT}{st:St}(h:Fits N a st)(ds:List JP):({ a with defers:=a.defers++ds }:JT) = { a with defers:=ds }:=by rw[h.defers];rfl
theorem QF.dn{e:JF}(h:QI N ds Q e st w):QF N (dn ds Q) e st w:=fun a ha=>by
 show Q e _ w;rw[rH ha];exact h a ha
theorem WI.region{id:Nat}{l:List Jn}(hn:ro=none\/l.all fe=true)(a0:∀a w,¬Q .outgrown a w)(h:WL P N l.toArray (dn ds Q) l st w):WI ro P N ds (.region id l.toArray false) Q st w:=fun a ha=>by
 rw[<-rH ha];exact wpIn_region_lit (mS a0 l hn a w (h a ha))
theorem WI.seq{x y:Kf}(h:WI ro P N ds x (Exit.then (y.wpIn (Fr ro) 0 P Q) Q) st w):WI ro P N ds (.seq x y) Q st w:=fun a ha=>wpIn_seq (h a ha)
theorem WI.skip(h:QI N ds Q .normal st w):WI ro P N ds .skip Q st w:=fun a ha=>wpIn_skip (h a ha)
theorem WI.exit{id:Nat}(h:QI N ds Q (.exit id) st w):WI ro P N ds (.exit id) Q st w:=fun a ha=>wpIn_exit (h a ha)
theorem WI.ret(h:QI N ds Q .ret st w):WI ro P N ds .ret Q st w:=fun a ha=>wpIn_ret (h a ha)
theorem WI.block{id:Nat}{c:Kf}(h:WI ro P N ds c (K0 id Q) st w):WI ro P N ds (.block id c) Q st w:=fun a ha=>wpIn_block (h a ha)
theorem Fits.evD{a:JT}(ha:Fits N a st){x:J3}{v:ix}(hx:VL.ev st x=some v)(ds:List JP):({ a with defers:=ds }:JT).eval x=v:=by rw[jI];exact ha.ev hx
theorem WI.cond{c:J3}{x y:Kf}{b:Bool}(hc:ev st c=some (.bool b))(ht:b=true->WI ro P N ds x Q st w)(hf:b=false->WI ro P N ds y Q st w):WI ro P N ds (.cond c x y) Q st w:=
 fun a ha=>wpIn_cond_split (ha.evD hc ds) (fun e=>ht e a ha) (fun e=>hf e a ha)
theorem rJ{c:J3}{x y:Kf}{b:Bool}(hc:ev st c=some (.bool b))(hb:b=true)(ht:WI ro P N ds x Q st w):WI ro P N ds (.cond c x y) Q st w:=by
 subst hb;exact fun a ha=>wpIn_cond_true (ha.evD hc ds) (ht a ha)
theorem kX{c:J3}{x y:Kf}{b:Bool}(hc:ev st c=some (.bool b))(hb:b=false)(hf:WI ro P N ds y Q st w):WI ro P N ds (.cond c x y) Q st w:=by
 subst hb;exact fun a ha=>wpIn_cond_false (ha.evD hc ds) (hf a ha)
theorem aU{y:Kf}{Q':JF->JT->ka->Prop}(h:WI ro P N ds y Q st w):QI N ds (Exit.then (y.wpIn (Fr ro) 0 P Q) Q') .normal st w:=h
theorem oq{K:JT->ka->Prop}{id:Nat}(h:QI N ds Q (.exit id) st w):QI N ds (Exit.then K Q) (.exit id) st w:=h
theorem iY{K:JT->ka->Prop}(h:QI N ds Q .ret st w):QI N ds (Exit.then K Q) .ret st w:=h
theorem cU{id:Nat}(h:QI N ds Q .normal st w):QI N ds (K0 id Q) .normal st w:=h
theorem gu{id:Nat}(h:QI N ds Q .ret st w):QI N ds (K0 id Q) .ret st w:=h
theorem vK{id:Nat}(h:QI N ds Q .normal st w):QI N ds (K0 id Q) (.exit id) st w:=fun a ha=>by
 show if id=id then _ else _
 rw[if_pos rfl];exact h a ha
end
theorem wpIn_loop_ghost{F:Fence}{n:Nat}{P:J7}{Q:JF->JT->ka->Prop}{a:JT}{w:ka}{c:Kf}(I:Nat->JT->ka->Prop)(n0:Nat)(h₀:I n0 a w) 
  (round:∀j a w,I j a w->c.wpIn F n P (Exit.then (fun a' w'=>∃j',j'<j/\I j' a' w') Q) a w):(Code.loop c).wpIn F n P Q a w:=by
 intro b k cs a2 hb hr;have a1:∀j a w,I j a w->
   ∃e a' w',Q e a' w'/\ArrivesIn (ND P F) P (lone (b.atR a (.code c :: .inLoop c::k)) cs w) b k cs e a' w':=by
  intro j
  induction j using Nat.strongRecOn with
  |_ j ih=>
   intro a w hI;obtain⟨e,a₁,w₁,hq,a0⟩:=round j a w hI b (.inLoop c::k) cs a2 hb hr
   cases e with
   |normal=>
    obtain⟨j',a3,hI₁⟩:=hq;obtain⟨e₂,a₂,w₂,hq₂,harr₂⟩:=ih j' a3 a₁ w₁ hI₁;exact⟨e₂,a₂,w₂,hq₂,.of_steps (NB a0 (.one (fenced_calm hb hr rfl) stepR_inLoop)) harr₂⟩
   |exit id=>exact⟨_,a₁,w₁,hq,.pass (x:=.inLoop c) rfl (fun _ _=>.inl (by simp)) a0⟩
   |goto l=>exact⟨_,a₁,w₁,hq,.pass (x:=.inLoop c) rfl (fun _ _=>.inl (by simp)) a0⟩
   |ret=>exact⟨_,a₁,w₁,hq,.pass (x:=.inLoop c) rfl (fun _ _=>.inl (by simp)) a0⟩
   |panic ch=>exact⟨_,a₁,w₁,hq,.pass (x:=.inLoop c) rfl (fun _ _=>.inl (by simp)) a0⟩
   |outgrown=>exact⟨_,a₁,w₁,hq,.pass (x:=.inLoop c) rfl (fun _ _=>.inl (by simp)) a0⟩
 obtain⟨e,a',w',hq,a0⟩:=a1 _ a w h₀;exact⟨e,a',w',hq,.of_steps (.one (fenced_calm hb hr rfl) stepR_loop) a0⟩
section
variable{P:J7}{N:Nat}{ro:Option Nat}{ds:List JP}{Q:JF→JT→ka→Prop}{st:St}{w:ka}
theorem WI.loop{α:Type}{c:Kf}(f:α->St)(g:α->ka)(I:α->Prop)(μ:α->Nat)(x0:α)(h0:I x0)(hc:Cov st (f x0))(hw:g x0=w) 
  (round:∀x,I x->WI ro P N ds c (Exit.then (fun a' w'=>∃y,I y/\μ y<μ x/\(∃a,a' = { a with defers:=ds }/\Fits N a (f y))/\g y=w') Q) (f x) (g x)):WI ro P N ds (.loop c) Q st w:=by
 intro a ha;refine wpIn_loop_ghost (fun n a' w=>∃y,I y/\μ y=n/\(∃a,a' = { a with defers:=ds }/\Fits N a (f y))/\g y=w) (μ x0) ⟨x0,h0,rfl,⟨a,rfl,ha.cov hc⟩,hw⟩ ?_;rintro n _ w ⟨x,hI,rfl,⟨a,rfl,hf⟩,rfl⟩;refine wpIn_mono (round x hI a hf) ?_;intro e a' w' hq
 cases e with
 |normal=>obtain⟨y,h1,h2,h3,h4⟩:=hq;exact⟨μ y,h2,y,h1,rfl,h3,h4⟩
 |_=>exact hq
theorem QI.next{α:Type}{f:α->St}{g:α->ka}{I:α->Prop}{m:Nat}{μ:α->Nat}(y:α)(h1:I y)(h2:μ y<m)(h3:Cov st (f y))(h4:g y=w):
 QI N ds (Exit.then (fun a' w'=>∃y,I y/\μ y<m/\(∃a,a' = { a with defers:=ds }/\Fits N a (f y))/\g y=w') Q) .normal st w:=fun a ha=>⟨y,h1,h2,⟨a,rfl,ha.cov h3⟩,h4⟩
end
def GZ(R:ix->ka->Prop):Ending->ka->Prop
 |.returned v,w=>R v w
 |_,_=>False
def Leave(P:J7)(N:Nat)(fn:MZ)(R:ix->ka->Prop)(ds:List JP)(st:St)(w:ka):Prop:=
 ∀a,Fits N a st->LeavesInM Jy 0 P fn a.tmps (GZ R) ds .returning w
section
variable{P:J7}{N:Nat}{ds:List JP}{st:St}{w:ka}{fn:MZ}{R:ix→ka→Prop}
theorem ql{f:Kq}{c:Kf}{args:List ix}(hf:P.funcs[f]? = some fn)(hN:fn.ntmps=N)(hb:fn.body=some c)(a1:MB args.length N=true) 
  (h:WI none P N [] c (bodyPostM Jy 0 P fn (GZ R)) (DS 0 args) w):Ret P f args w R:=by
 have a0:=pV (N:=N) (args:=args) a1 (st:=DS 0 args) fun t v hv=>by simpa using(mW args 0 t v hv).2
 have hw:=h _ a0;have h2:=callsIn_of_wp_marks (F:=Jy) (n:=0) (P:=P) (f:=f) (fn:=fn) (c:=c) (args:=args.toArray) (w:=w) (R:=GZ R) hf hb trivial (by rw[hN];have:Fr none=Jy:=rfl;rw[this]at hw;simpa using hw);refine JX (callsIn_wide.1 h2) ?_;intro e w' q
 cases e<;>exact q
theorem kZ(h:Leave P N fn R ds st w):QI N ds (bodyPostM Jy 0 P fn (GZ R)) .ret st w:=fun a ha=>h a ha
theorem Leave.nil{v:ix}(hr:∀a:JT,Fits N a st->(results fn a.tmps).run P w=.ok v w)(h:R v w):Leave P N fn R [] st w:=fun a ha=>⟨v,hr a ha,h⟩
theorem oz(hr:fn.results = #[])(h:R (.tuple #[]) w):Leave P N fn R [] st w:=Leave.nil (fun a ha=>by simp[results,hr]) h
theorem Leave.mark{D:Nat}(hD:w.heap[D]? = some (.deferred (some [])))(h:Leave P N fn R ds st (w.putObj D (.deferred none))):Leave P N fn R ({ target:=.collected D,args:=#[] }::ds) st w:=
 fun a ha=>⟨by simp,.inl ⟨D,_,rfl,run_takeDeferred hD,h a ha⟩⟩
end
def WLI(ro:Option Nat)(P:J7)(N:Nat)(ds:List JP)(ops:Array Jn)(Q:JF->JT->ka->Prop)(l:List Jn)(st:St)(w:ka):Prop:=
 ∀a,Fits N a st->wpListIn (Fr ro) 0 P ops Q l { a with defers:=ds } w
section
variable{P:J7}{N:Nat}{ro:Option Nat}{ds:List JP}{Q:JF→JT→ka→Prop}{st:St}{w:ka}
theorem vB(i:Nat){id:Nat}{l:List Jn}(hn:ro=none\/(l.take i).all fe=true)(a0:∀a w,¬Q .outgrown a w) 
  (h:WL P N l.toArray (VL.dn ds (Exit.then (wpListIn (Fr ro) 0 P l.toArray Q (l.drop i)) Q)) (l.take i) st w):WI ro P N ds (.region id l.toArray false) Q st w:=fun a ha=>by
 rw[<-rH ha];refine wpIn_region_lit ?_;have:=eP (l.drop i) a0 (l.take i) hn a w (h a ha)
 rwa[K4]at this
theorem QI.list{ops:Array Jn}{l:List Jn}{Q':JF->JT->ka->Prop}(h:WLI ro P N ds ops Q l st w):QI N ds (Exit.then (wpListIn (Fr ro) 0 P ops Q l) Q') .normal st w:=h
theorem DF{ops:Array Jn}{l:List Jn}(hn:ro=none\/l.all fe=true)(a0:∀a w,¬Q .outgrown a w)(h:WL P N ops (VL.dn ds Q) l st w):WLI ro P N ds ops Q l st w:=fun a ha=>by
 rw[<-rH ha];exact mS a0 l hn a w (h a ha)
end
def Aa(O:Nat->Nat)(w:ka)(L:Nat)(I:(Nat->Nat)->ka->Prop)(Ix:Kf->(Nat->Nat)->ka->Prop):JF->JT->ka->Prop
 |.normal,_,w'=>∃O',Upd (fun j=>j≠0/\j≠L) O w O' w'/\I O' w'
 |.ret,_,w'=>∃O',Upd (fun j=>j≠0/\j≠L) O w O' w'/\Ix .ret O' w'
 |.exit id,_,w'=>∃O',Upd (fun j=>j≠0/\j≠L) O w O' w'/\Ix (.exit id) O' w'
 |_,_,_=>False
theorem Upd.putObj{O:Nat->Nat}{w:ka}{L b:Nat}(hL:L≠0)(h:O b=L)(o:Obj):Upd (fun j=>j=L) O w O (w.putObj b o):=
 ⟨rfl,rfl,rfl,by simp,fun k _ hn=>JE (fun e=>hn (by rw[e];exact h)),fun _ _=>rfl,fun _ h=>.inl h,fun e=>hL e.symm⟩
theorem iB{N:Nat}{st:St}{O:Nat->Nat}{w w':ka}{L:Nat}{I:(Nat->Nat)->ka->Prop}{Ix:Kf->(Nat->Nat)->ka->Prop}(O':Nat->Nat)(h:Upd (fun j=>j≠0/\j≠L) O w O' w')(h2:I O' w'):
 QI N [] (Aa O w L I Ix) .normal st w':=fun _ _=>⟨O',h,h2⟩
theorem vJ{N:Nat}{st:St}{O:Nat->Nat}{w w':ka}{L:Nat}{I:(Nat->Nat)->ka->Prop}{Ix:Kf->(Nat->Nat)->ka->Prop}(O':Nat->Nat)(h:Upd (fun j=>j≠0/\j≠L) O w O' w')(h2:Ix .ret O' w'):
 QI N [] (Aa O w L I Ix) .ret st w':=fun _ _=>⟨O',h,h2⟩
structure Fixed(O:Nat->Nat)(w:ka)(q:JL)(u:ix):Prop where
 cell:w.cell? q=some u
 free:O q.block=0
theorem Upd.zero{S:Nat->Prop}{O O':Nat->Nat}{w w':ka}(h:Upd S O w O' w'){b:Nat}(hb:b<w.heap.size)(h0:O b=0):O' b=0:=
 Jh fun a0=>by
  rcases h.new b a0 with h1|h1
  ·exact h1 h0
  omega
theorem Fixed.upd{S:Nat->Prop}{O O':Nat->Nat}{w w':ka}{q:JL}{u:ix}(h:Fixed O w q u)(k:Upd S O w O' w'):Fixed O' w' q u:=by
 have a0:=Kd w q h.cell;have hb:=k.blk q.block a0 (by rw[h.free];exact k.z);refine⟨?_,k.zero a0 h.free⟩;have:=h.cell;unfold N2 at this ⊢;rw[hb];exact this
end
end Go.VL
section
namespace Go.VL
open Go.Proofs.Tryz
open Go.RowKit
section
variable{P:J7}{N:Nat}{ops:Array Jn}{Q:JF→JT→ka→Prop}{rest:List Jn}{st:St}{w:ka}
variable{t:ln}{p:String}{e:Array Kb}{d:Nat}{x y z:J3}
theorem RV.ext{f:Kq}{args:List J3}{a1:Array ln}{vs:List ix}{v:ix}(hr:(callFunc f vs.toArray).run P w=.ok (.value v) w)(a0:evs st args=some vs):
 RV P N (.call ⟨.value (.func f),args.toArray,a1⟩) t st w v:=fun a ha a2 p e g=>by
 simp only[execOp,resolve,K2,J9];rw[ha.evs a0];simp[JS,invoke,hr]
end
section
variable{P:J7}{N:Nat}{ops:Array Jn}{Q:JF→JT→ka→Prop}{rest:List Jn}{st:St}{w:ka}
variable{t:ln}{p:String}{e:Array Kb}{d:Nat}{x y z:J3}
theorem rM{T E:ln}{len sz:Nat}{k:Jj}{i:Int}{q:JL}(hu:P.underlying T=some (.array len E))(hE:(JI E).run P w=.ok sz w) 
  (hx:ev st x=some (.pointer (some q))) (hy:ev st y=some (.int k i)) (n:Nat) (hi:i=n) (hn:n<len):RV P N (.indexAddr T x y) t st w (.pointer (some (q.add (n*sz)))):=
 fun a ha a0 p e g=>by
  subst hi;have h2:((n:Int)<(len:Int)):=zo;simp only[execOp,ha.ev hx,ha.ev hy];simp[LC,JV,asIntOf,run_underlying hu,hE];intro h3;omega
theorem fo{T E:ln}{len:Nat}{k:Jj}{i:Int}{q:JL}(hu:P.underlying T=some (.array len E))(hE:(JI E).run P w=.ok 1 w) 
  (hx:ev st x=some (.pointer (some q))) (hy:ev st y=some (.int k i)) (n:Nat) (hi:i=n) (hn:n<len):RV P N (.indexAddr T x y) t st w (.pointer (some (q.add n))):=by
 have h:=rM (N:=N) (t:=t) hu hE hx hy n hi hn
 rwa[Lk]at h
theorem bj{xt:ln}{a:List UInt8}{k:Jj}{m:Int}{c:UInt8}(hT:P.underlying xt=some .string)(hx:ev st x=some (.string (bs a)))(hy:ev st y=some (.int k m))(i:Nat)(hm:m=i)(hi:a[i]? = some c):RV P N (.index xt x y) t st w (.int .u8 (c.toNat:Int)):=by
 obtain⟨h1,h2⟩:=Jq.1 hi;have h:=BU (P:=P) (N:=N) (t:=t) (w:=w) hT hx hy i hm h1;rw[aB h1,h2]at h;exact h
theorem eM{T E:ln}{n sz:Nat}{parts:List (Nat×J3)}{vs:List (Nat×ix)}{z:ix}{cells:Array ix}(hu:P.underlying T=some (.array n E))(hE:(JI E).run P w=.ok sz w)(hz:(Ki T).run P w=.ok z w) 
  (hv:evp st parts=some vs) (hf:Kx (fun i=>some (i*sz,sz)) z.cells vs=some cells):RV P N (.build T parts.toArray) t st w (.agg cells):=
 fun a ha a0 p e g=>by
  have h1:=ha.evp hv;have e1:(Lz (fun x:Nat×J3=>match x with|(i,x)=>(i,a.eval x)) parts)=vs:=by rw[<-h1]
  simp only[execOp,N5,J9,e1,J8,hz,J2,run_underlying hu,hE,hf,Jv]
theorem vH{T E:ln}{n sz:Nat}{q:JL}(hu:P.underlying T=some (.array n E))(hE:(JI E).run P w=.ok sz w)(_:n≠0)(hx:ev st x=some (.pointer (some q))):RV P N (.slice T x none none none) t st w (.slice (some q) n n):=
 fun a ha a0 p e g=>by
  simp only[execOp,ha.ev hx,JY];simp[Instr.sliceAt,Instr.sliceBounds,JV,run_underlying hu,hE,Jw]
theorem BL{f:Kq}{args:List J3}{a2:Array ln}{vs fs:List ix}{cs:Array ix}{R:ix->ka->Prop} 
  (hx:ev st x=some (.func (.func f) fs.toArray cs))
  (hf:∀(args:Array ix) (w:ka),(callFunc f args).run P w=.ok (.enter f args) w) (a0:evs st args=some vs) (hc:Ret P f (fs++vs++cs.toList) w R) (hd:J0 d N=true)
  (h:∀v w',R v w'->WL P N ops Q rest ((d,v)::st) w'):WL P N ops Q (⟨some d,.call ⟨.value x,args.toArray,a2⟩,t,p,e,none⟩::rest) st w:=by
 refine WL.step rfl fun a ha=>?_
 unfold Kg;have a1:(execOp a.eval ⟨some d,.call ⟨.value x,args.toArray,a2⟩,t,p,e,none⟩).run P w=.ok (.enter f (fs++vs++cs.toList).toArray) w:=by
  simp only[execOp,resolve,J9,ha.evs a0,ha.ev hx];simp[JS,Go.invoke,hf]
 rw[a1];exact JX hc fun e w' q=>by
  cases e with
  |returned v=>exact h v w' q _ (ha.put hd v)
  |panicked c=>exact q.elim
  |outgrown=>exact q.elim
end
section
variable{P:J7}{N:Nat}{st:St}{w:ka}{fn:MZ}{R:ix→ka→Prop}
theorem cg{t u o:Nh}{T:ln}{q:JL}{us:List ix}{v' v2:ix}(hr:fn.results = #[.cell t T,.tmp u,.tmp o])(hv:cA st t=some (.pointer (some q)))(a1:cA st u=some v')(a0:cA st o=some v2) 
  (hc:∀j u,us[j]? = some u->w.cell? (q.add j)=some u) (hT:(Md T).run P w=.ok true w) (hn:(JI T).run P w=.ok us.length w) (h:R (.tuple #[.agg us.toArray,v',v2]) w):QF N (RP P fn R) .ret st w:=fun a ha=>
 ⟨ha.defers,_,by have h1:=ha.get _ _ hv;have h2:=ha.get _ _ a1;have h3:=ha.get _ _ a0;simp[results,hr,J6,h1,h2,h3,asAddr,dk hc hT hn],h⟩
end
end Go.VL
namespace Go.VL
open Go.Proofs.Tryz
section
variable{P:J7}{N:Nat}{ops:Array Jn}{Q:JF→JT→ka→Prop}{rest:List Jn}{st:St}{w:ka}
variable{t:ln}{p:String}{e:Array Kb}{d:Nat}{x y z:J3}
theorem aJ{T E:ln}{sz a0:Nat}(he:Elem P T E sz a0){α:Type}{enc:α->List ix}(u:α){xv:ix}(hx:ev st x=some xv)(a2:xv.cells.toList=enc u)(a4:(enc u).length=sz)(hs:sz<=16777216)(hd:J0 d N=true) 
  (h:∀w',Sl enc sz w' (.slice (some ⟨w.heap.size,0,none⟩) 1 1) [u]->Ext w w'->WL P N ops Q rest ((d,.slice (some ⟨w.heap.size,0,none⟩) 1 1)::st) w'):WL P N ops Q (⟨some d,.buildSlice T 1 #[(0,x)],t,p,e,none⟩::rest) st w:=by
 obtain⟨a3,z,hi,hz,a1,a8,a7⟩:=he.parts;have a6:xv.cells.size=sz:=by rw[<-a4,<-a2];simp
 have a5:=he.pos;refine WL.val (v:=.slice (some ⟨w.heap.size,0,none⟩) 1 1) (w':=w.alloc (.cells xv.cells E)) hd (fun a ha=>?_) (h _ ⟨⟨_,1,rfl,J4 _,by simp,fun _=>⟨_,_,rfl⟩⟩,fun i hi j c hc=>?_⟩ (Ext.alloc _ _))
 ·have:=run_buildSlice (P:=P) w T E 1 #[(0,xv)] xv.cells a3 z he.ht hi hz (by rw[a1];omega) (by rw[a1];omega) (by
   rw[a1]
   exact kI a6 (by simp))
  simp only[execOp,J9,Jm,JB,ha.ev hx,J8,this,J2];rfl
 obtain rfl:i=0:=by simpa using hi
 simp only[JZ]at hc;simp only[adr,La,LV];rw[show((⟨w.heap.size,0,none⟩:JL).add j)=⟨w.heap.size,j,none⟩from by simp only[Jw];split<;>simp_all,cell_of_row _ _ j xv.cells E (0,0) (heap_alloc_new w _)];rw[<-a2]at hc;simpa using hc
end
end Go.VL
end
section
namespace Go.VL
open Go.Proofs.Tryz
theorem Free.weak{O O':Nat->Nat}{w:ka}{v:ix}(h:Free O' w v)(k:∀b,O' b=0->O b=0):Free O w v:=fun a n c e hn=>⟨k _ (h a n c e hn).1,(h a n c e hn).2⟩
theorem Upd.z0{S:Nat->Prop}{O O':Nat->Nat}{w w':ka}(h:Upd S O w O' w')(b:Nat)(e:O' b=0):O b=0:=
 Jh fun a0=>by have:=h.tag b a0;omega
theorem Rng.bound{B:Nat}{O:Nat->Nat}{w:ka}(r:Rng B O w):∃T,0<T/\∀b,O b<T:=by
 have h:∀n,∃T,0<T/\∀b,b<n->O b<T:=fun n=>by
  induction n with
  |zero=>exact⟨1,zo,fun b hb=>zo⟩
  |succ n ih=>
   obtain⟨T,h0,hT⟩:=ih;refine⟨T+O n+1,zo,fun b hb=>?_⟩
   by_cases e:b=n
   ·subst e;omega
   have:=hT b (zo);omega
 obtain⟨T,h0,hT⟩:=h w.heap.size;refine⟨T,h0,fun b=>?_⟩
 by_cases e:O b=0
 ·omega
 exact hT b (r.rng b e).2
theorem Upd.fgt{S S':Nat->Prop}{O O2:Nat->Nat}{w w':ka}(h:Upd S O w O2 w')(hS:∀b,S (O b)->S' (O b))(hz:¬S' 0):Upd S' O w O w':=
 ⟨h.os,h.tape,h.output,h.size,fun b hb hn=>h.blk b hb fun hs=>hn (hS b hs),fun _ _=>rfl,fun _ h=>.inl h,hz⟩
theorem BlkO.fgt{O O2:Nat->Nat}{w:ka}{i j b:Nat}{cs:Array ix}{E:ln}(h:BlkO O2 w j b cs E)(ho:O b=i):BlkO O w i b cs E:=⟨h.blk,ho⟩
theorem RowT.freeT{α:Type}{enc:α->List ix}{E:ln}{sz:Nat}{S:Nat->Prop}{O O':Nat->Nat}{w w':ka}{T:Nat}{v:ix}{l:List α}(h:RowT enc E sz O' w' T v l)(a1:0<T)(hT:∀b,O b<T){B:Nat}(r:Rng B O' w')(u:Upd S O w O' w'):Free O w' v:=fun a n c e _=>by
 have h1:=h.1.tag a.block (by subst e;rfl);have h2:=r.rng a.block (by rw[h1];omega);refine⟨Jh fun a0=>?_,h2.2⟩;have:=u.tag _ a0;have:=hT a.block;omega
end Go.VL
namespace Go.Proofs.YtjemhjcngaokpaaGreatDoor
open Go.Proofs.Tryz
open Go.VL Go.Proofs
inductive Nd where|mk(k c:Int)(kids:List Nd)
instance:Inhabited Nd:=⟨.mk 0 0 []⟩
def Nd.kind:Nd->Int | .mk k _ _=>k
def Nd.cls:Nd->Int | .mk _ c _=>c
def Nd.kids:Nd->List Nd | .mk _ _ l=>l
mutual
def nsz:Nd->Nat | .mk _ _ l=>dA l+1
def dA:List Nd->Nat | []=>0|t::r=>nsz t+dA r
end
theorem dJ(t:Nd):0<nsz t:=by cases t;simp[nsz]
theorem cu:∀(l:List Nd) (i:Nat),i<l.length->nsz (nth l i)<=dA l
 |t::r,0,_=>by rw[ay];simp[dA]
 |t::r,i+1,h=>by rw[bA];have:=cu r i (by simpa using h);simp only[dA];omega
theorem jC:∀(a b:List Nd),dA (a++b)=dA a+dA b
 |[],b=>by simp[dA]
 |t::a,b=>by simp only[Kk,dA];rw[jC a b];omega
theorem cB(l:List Nd)(i:Nat):dA (l.take i)<=dA l:=by
 conv=>rhs;rw[<-K4 i l]
 rw[jC];omega
theorem dY(l:List Nd)(i:Nat)(h:i<l.length):dA (l.take (i+1))=dA (l.take i)+nsz (nth l i):=by
 rw[aM h,jC];simp[dA]
theorem eV:∀(l:List Nd),l.length<=dA l
 |[]=>by simp
 |t::r=>by have:=eV r;have:=dJ t;simp only[dA,Jz];omega
abbrev N3:=Int×Int×ix
@[simp] def aV(x:N3):List ix:=[nI x.1,nI x.2.1,x.2.2]
inductive Nt(O:Nat->Nat)(w:ka):Nd->N3->Prop
 |mk {k c:Int} {kids:List Nd} {v:ix} {xs:List N3}:Sl aV 3 w v xs->Free O w v->kids.length=xs.length->(∀i,i<xs.length->Nt O w (nth kids i) (nth xs i))->Nt O w (.mk k c kids) (k,c,v)
theorem Nt.upd{S:Nat->Prop}{O O':Nat->Nat}{w w':ka}{t:Nd}{x:N3}(h:Nt O w t x)(u:Upd S O w O' w'):Nt O' w' t x:=by
 induction h with
 |mk hs hf hl _ ih=>exact .mk (hs.upd hf u) (hf.upd u) hl ih
theorem Nt.drew{O:Nat->Nat}{w:ka}{t:Nd}{x:N3}(h:Nt O w t x):Nt O w.drew t x:=h.upd (aa (S:=fun _=>False) (fun h=>h) O (Ext.refl w).drew)
theorem Nt.ext{O:Nat->Nat}{w w':ka}{t:Nd}{x:N3}(h:Nt O w t x)(e:Ext w w'):Nt O w' t x:=h.upd (aa (S:=fun _=>False) (fun h=>h) O e)
theorem Nt.weak{O O':Nat->Nat}{w:ka}{t:Nd}{x:N3}(h:Nt O' w t x)(k:∀b,O' b=0->O b=0):Nt O w t x:=by
 induction h with
 |mk hs hf hl _ ih=>exact .mk hs (hf.weak k) hl ih
theorem Nt.low{S:Nat->Prop}{O O':Nat->Nat}{w w0 w':ka}{t:Nd}{x:N3}(h:Nt O' w' t x)(u:Upd S O w O' w0):Nt O w' t x:=h.weak u.z0
theorem Nt.zero{O:Nat->Nat}{w:ka}{t:Nd}{x:N3}(h:Nt O w t x):Nt (fun _=>0) w t x:=h.weak fun _ _=>rfl
theorem Nt.one{O:Nat->Nat}{w:ka}{t:Nd}{x:N3}(h:Nt O w t x):x.2.2.oneCell'=true:=by cases h with|mk hs=>exact hs.one
theorem Nt.leaf(O:Nat->Nat)(w:ka)(k c:Int):Nt O w (.mk k c []) (k,c,nS):=
 .mk (xs:=[]) ⟨⟨none,0,rfl,J4 _,zo,fun h=>absurd rfl h⟩,fun i hi=>absurd hi (by simp)⟩ (fun a n c e=>by cases e) rfl (fun i hi=>absurd hi (by simp))
theorem Nt.kind{O:Nat->Nat}{w:ka}{t:Nd}{x:N3}(h:Nt O w t x):x.1=t.kind:=by cases h;rfl
theorem Nt.kids{O:Nat->Nat}{w:ka}{t:Nd}{x:N3}(h:Nt O w t x):∃xs:List N3,Sl aV 3 w x.2.2 xs/\Free O w x.2.2/\t.kids.length=xs.length/\∀i,i<xs.length->Nt O w (nth t.kids i) (nth xs i):=by
 cases h with|mk hs hf hl hk=>exact⟨_,hs,hf,hl,hk⟩
def ak(b:UInt8):Bool:=(decide (65<=b.toNat)&&decide (b.toNat<=90))||(decide (97<=b.toNat)&&decide (b.toNat<=122))
def au(r:List UInt8):List UInt8:=r.dropWhile (· == 32)
def namesL:List (List UInt8):=[[79,116,104,101,114],[67,82],[76,70],[78,101,119,108,105,110,101],[67,111,110,116,114,111,108],[69,120,116,101,110,100],[90,87,74],[70,111,114,109,97,116],[82,101,103,105,111,110,97,108],[80,114,101,112,101,110,100],[83,112,97,99,105,110,103],[76],[86],[84],[76,86],[76,86,84],[80,105,99,116],[85,112,112,101,114],[76,111,119,101,114],[76,101,116,116,101,114],[75,97,116,97,107,97,110,97],[73,100,101,111,103,114,97,112,104],[68,105,103,105,116],[77,105,100,76,101,116,116,101,114],[77,105,100,78,117,109],[68,111,116],[65,112,111,115,116,114,111,112,104,101],[81,117,111,116,101],[74,111,105,110,101,114],[83,112,97,99,101],[84,101,114,109],[79,112,101,110],[67,108,111,115,101],[72,121,112,104,101,110],[71,108,117,101],[71,97,112]]
def An(s:List UInt8):Option Nat:=namesL.findIdx? (· == s)
inductive PR where
 |ok (t:Nd) (r:List UInt8)
 |bad (p:Nat) (e:Int)
def dD(kind:Int)(r0:List UInt8):PR:=
 if ak ((au r0).headD 0)=true then
  match An ((au r0).takeWhile ak)with
  |none=>.bad (au r0).length 5
  |some c=>.ok (.mk kind (c:Nat) []) ((au r0).dropWhile ak)
 else .bad (au r0).length 4
def Gw(r:List UInt8):PR:=if r.takeWhile ak=[97,110,121]then .ok (.mk 1 0 []) (r.dropWhile ak)else dD 0 r
def cc(al:Option (List UInt8->PR))(r:List UInt8):PR:=
 match al with
 |none=>.bad r.length 6
 |some f=>
  match f r.tail with
  |.bad p e=>.bad p e
  |.ok t r2=>if(au r2).headD 0=41 then .ok t (au r2).tail else .bad (au r2).length 4
def IF(al:Option (List UInt8->PR))(r0:List UInt8):PR:=
 if ak ((au r0).headD 0)=true then Gw (au r0)
 else if(au r0).headD 0=126 then dD 2 (au r0).tail
 else if(au r0).headD 0=94 then .ok (.mk 3 0 []) (au r0).tail
 else if(au r0).headD 0=40 then cc al (au r0)
 else .bad (au r0).length 4
def opM(c:UInt8):Option Nat:=if c=42 then some 0 else if c=43 then some 1 else if c=63 then some 2 else none
def Do(al:Option (List UInt8->PR))(r0:List UInt8):PR:=
 match IF al r0 with
 |.bad p e=>.bad p e
 |.ok t r1=>
  match opM ((au r1).headD 0)with
  |some k=>.ok (.mk (6+(k:Nat)) 0 [t]) (au r1).tail
  |none=>.ok t (au r1)
def fj(c:UInt8):Bool:=ak c||decide (c=126)||decide (c=94)||decide (c=40)
def oneM(k:Int)(l:List Nd):Nd:=if l.length=1 then nth l 0 else .mk k 0 l
def zO(al:Option (List UInt8->PR)):Nat->List Nd->List UInt8->PR
 |0,acc,r=>.ok (oneM 4 acc) r
 |n+1,acc,r=>
  if fj ((au r).headD 0)=true then
   match Do al (au r)with
   |.bad p e=>.bad p e
   |.ok t r2=>zO al n (acc++[t]) r2
  else .ok (oneM 4 acc) (au r)
def IT(al:Option (List UInt8->PR))(r:List UInt8):PR:=
 match Do al r with
 |.bad p e=>.bad p e
 |.ok t r1=>zO al (r1.length+1) [t] r1
def xF(al:Option (List UInt8->PR)):Nat->List Nd->List UInt8->PR
 |0,acc,r=>.ok (oneM 5 acc) r
 |n+1,acc,r=>
  if(au r).headD 0=124 then
   match IT al (au r).tail with
   |.bad p e=>.bad p e
   |.ok t r2=>xF al n (acc++[t]) r2
  else .ok (oneM 5 acc) (au r)
def GK(al:Option (List UInt8->PR))(r:List UInt8):PR:=
 match IT al r with
 |.bad p e=>.bad p e
 |.ok t r1=>xF al (r1.length+1) [t] r1
def GJ:Nat->List UInt8->PR
 |0=>GK none
 |d+1=>GK (some (GJ d))
inductive XR where
 |ok (t:Nd)
 |bad (p:Nat) (e:Int)
def IA(l:List UInt8):XR:=
 if 4096<l.length then .bad 0 3 else
 match GJ 20 l with
 |.bad p e=>.bad (l.length-p) e
 |.ok t r=>if(au r).length≠0 then .bad (l.length-(au r).length) 4 else if 2000<nsz t then .bad 0 3 else .ok t
def Good(r:List UInt8):PR->Prop
 |.ok _ r'=>r' <:+ r/\r'.length<r.length
 |.bad p e=>p<=r.length/\e≠0
theorem aW(r:List UInt8):au r <:+ r:=K5 _
theorem dh(r:List UInt8):(au r).length<=r.length:=(aW r).length_le
theorem bY{r:List UInt8}(h:r.headD 0≠0):r.tail <:+ r/\r.tail.length+1=r.length:=by
 cases r with
 |nil=>simp at h
 |cons a r=>exact⟨KH a r,rfl⟩
theorem Good.mono{r r':List UInt8}{x:PR}(h:Good r' x)(k:r' <:+ r):Good r x:=by
 have hl:=k.length_le
 cases x with
 |ok t q=>exact⟨h.1.trans k,by have:=h.2;omega⟩
 |bad p e=>exact⟨Kw h.1 hl,h.2⟩
theorem jF{r:List UInt8}(h:ak (r.headD 0)=true):r.dropWhile ak <:+ r/\(r.dropWhile ak).length<r.length:=by
 cases r with
 |nil=>simp[ak]at h
 |cons a r=>
  simp only[List.headD_cons]at h;rw[LB h];exact⟨(K5 _).trans (KH a r),by have:=(K5 (l:=r) ak).length_le;simp;omega⟩
theorem nX(k:Int)(r:List UInt8):Good r (dD k r):=by
 refine Good.mono ?_ (aW r);unfold dD
 split
 ·rename_i h
  split
  ·exact⟨J4 _,zd⟩
  exact jF h
 exact⟨J4 _,zd⟩
def mK(al:Option (List UInt8->PR)):Prop:=∀f,al=some f->∀r,Good r (f r)
theorem oY{al:Option (List UInt8->PR)}(ha:mK al)(r:List UInt8)(h:r.headD 0≠0):Good r (cc al r):=by
 obtain⟨h1,h2⟩:=bY h;unfold cc
 cases al with
 |none=>exact⟨J4 _,zd⟩
 |some f=>
  have h3:=(ha f rfl r.tail).mono h1;have h4:=ha f rfl r.tail;dsimp only
  cases hf:f r.tail with
  |bad p e=>rw[hf]at h3;exact h3
  |ok t r2=>
   rw[hf]at h3 h4;dsimp only
   split
   ·rename_i hc;obtain⟨g1,g2⟩:=bY (r:=au r2) (by rw[hc];decide);exact⟨(g1.trans (aW r2)).trans h3.1,by have:=dh r2;have:=h3.2;omega⟩
   exact⟨by have:=dh r2;have:=h3.2;omega,zd⟩
theorem Dn{c:UInt8}{k:Nat}(h:opM c=some k):c≠0:=fun e=>by subst e;simp[opM]at h
def GY(r:List UInt8):PR->Prop
 |.ok _ r'=>r' <:+ r
 |.bad p e=>p<=r.length/\e≠0
end Go.Proofs.YtjemhjcngaokpaaGreatDoor
end
section
namespace Go.VL
open Go.Proofs.Tryz
theorem Upd.priv{j T:Nat}{O O':Nat->Nat}{w w':ka}(h:Upd (fun k=>k=j\/T<=k) O w O' w')(hT:∀b,O b<T)(hj:j≠0):Upd (fun k=>k=j) O w O w':=
 h.fgt (fun b hb=>hb.resolve_right (by have:=hT b;omega)) (fun e=>hj e.symm)
theorem Upd.pj{j T:Nat}{O O':Nat->Nat}{w w':ka}(h:Upd (fun k=>k=j) O w O' w')(hT:0<T):Upd (fun k=>k=j\/T<=k) O w O' w':=
 h.mono (fun _ h=>.inl h) (fun e=>by rcases e with e|e;exact h.z e;omega)
theorem Upd.pT{j T U:Nat}{O O':Nat->Nat}{w w':ka}(h:Upd (fun k=>k=U) O w O' w')(hj:j≠0)(hT:0<T)(hU:T<=U):Upd (fun k=>k=j\/T<=k) O w O' w':=
 h.mono (fun _ h=>.inr (by rw[h];exact hU)) (fun e=>by rcases e with e|e;exact hj e.symm;omega)
theorem jt{j T:Nat}{w w':ka}(O:Nat->Nat)(h:Ext w w')(hj:j≠0)(hT:0<T):Upd (fun k=>k=j\/T<=k) O w O w':=
 aa (fun e=>by rcases e with e|e;exact hj e.symm;omega) O h
def rdr(kv:ix)(l:List UInt8)(a op a0 e:Int):Array ix:=#[.string (bs l),nI a,kv,nI op,nI a0,nI e]
variable{kv:ix}
theorem BlkO.rAt{O:Nat->Nat}{w:ka}{j rb:Nat}{l:List UInt8}{a op a0 e:Int}{E:ln}(h:BlkO O w j rb (rdr kv l a op a0 e) E)(a':Int):BlkO O (w.setCell ⟨rb,1,none⟩ (nI a')) j rb (rdr kv l a' op a0 e) E:=h.set 1 _
theorem BlkO.rOp{O:Nat->Nat}{w:ka}{j rb:Nat}{l:List UInt8}{a op a0 e:Int}{E:ln}(h:BlkO O w j rb (rdr kv l a op a0 e) E)(a':Int):BlkO O (w.setCell ⟨rb,3,none⟩ (nI a')) j rb (rdr kv l a a' a0 e) E:=h.set 3 _
theorem BlkO.rBad{O:Nat->Nat}{w:ka}{j rb:Nat}{l:List UInt8}{a op a0 e:Int}{E:ln}(h:BlkO O w j rb (rdr kv l a op a0 e) E)(a':Int):BlkO O (w.setCell ⟨rb,4,none⟩ (nI a')) j rb (rdr kv l a op a' e) E:=h.set 4 _
theorem BlkO.rE{O:Nat->Nat}{w:ka}{j rb:Nat}{l:List UInt8}{a op a0 e:Int}{E:ln}(h:BlkO O w j rb (rdr kv l a op a0 e) E)(a':Int):BlkO O (w.setCell ⟨rb,5,none⟩ (nI a')) j rb (rdr kv l a op a0 a') E:=h.set 5 _
theorem BlkO.r0{O:Nat->Nat}{w:ka}{j rb:Nat}{l:List UInt8}{a op a0 e:Int}{E:ln}(h:BlkO O w j rb (rdr kv l a op a0 e) E):w.cell? ⟨rb,0,none⟩=some (.string (bs l)):=h.cell 0 rfl
theorem BlkO.r1{O:Nat->Nat}{w:ka}{j rb:Nat}{l:List UInt8}{a op a0 e:Int}{E:ln}(h:BlkO O w j rb (rdr kv l a op a0 e) E):w.cell? ⟨rb,1,none⟩=some (nI a):=h.cell 1 rfl
theorem BlkO.r2{O:Nat->Nat}{w:ka}{j rb:Nat}{l:List UInt8}{a op a0 e:Int}{E:ln}(h:BlkO O w j rb (rdr kv l a op a0 e) E):w.cell? ⟨rb,2,none⟩=some kv:=h.cell 2 rfl
theorem BlkO.r3{O:Nat->Nat}{w:ka}{j rb:Nat}{l:List UInt8}{a op a0 e:Int}{E:ln}(h:BlkO O w j rb (rdr kv l a op a0 e) E):w.cell? ⟨rb,3,none⟩=some (nI op):=h.cell 3 rfl
theorem BlkO.r4{O:Nat->Nat}{w:ka}{j rb:Nat}{l:List UInt8}{a op a0 e:Int}{E:ln}(h:BlkO O w j rb (rdr kv l a op a0 e) E):w.cell? ⟨rb,4,none⟩=some (nI a0):=h.cell 4 rfl
theorem BlkO.r5{O:Nat->Nat}{w:ka}{j rb:Nat}{l:List UInt8}{a op a0 e:Int}{E:ln}(h:BlkO O w j rb (rdr kv l a op a0 e) E):w.cell? ⟨rb,5,none⟩=some (nI e):=h.cell 5 rfl
end Go.VL
namespace Go.Proofs.YtjemhjcngaokpaaGreatDoor
open Go.Proofs.Tryz
open Go.VL Go.Proofs
set_option maxRecDepth 10000
abbrev Rdr(kv:ix)(O:Nat->Nat)(w:ka)(j rb:Nat)(l:List UInt8)(a op a0 e:Int):Prop:=BlkO O w j rb (rdr kv l a op a0 e) 244
variable{kv:ix}
theorem mV{l r:List UInt8}{b:UInt8}(h:(b::r) <:+ l):l[l.length-(r.length+1)]? = some b:=by
 obtain⟨p,rfl⟩:=h;rw[LA (by simp)];simp
theorem zH{l a b:List UInt8}(h:(a++b) <:+ l):(l.take (l.length-b.length)).drop (l.length-(a++b).length)=a:=by
 obtain⟨p,rfl⟩:=h;rw[<-L8,List.take_left' (by simp;omega),List.drop_left' (by simp)]
theorem nZ(b:UInt8)(k:Nat)(hk:k<256):((b.toNat:Int)==(k:Int))=decide (b=KS k):=by
 by_cases h:b=KS k
 ·subst h;simp;omega
 have:b.toNat≠k:=fun e=>h (by rw[<-e];simp)
 simp[h];omega
theorem iN(c:UInt8)(w:ka):Ret J5 200 [.int .u8 (c.toNat:Int)] w fun v w'=>v=.bool (ak c)/\w'=w:=by
 refine Ret.enter func200 ntmps200 rfl rfl ?_;refine zh ?_
 by_cases h1:65<=c.toNat
 ·refine az (d:=5) rfl (b':=true) (decide_eq_true zo) ?_;refine zh ?_
  by_cases h2:c.toNat<=90
  ·refine az (d:=9) rfl (b':=true) (decide_eq_true zo) ?_;refine zh ?_
   refine ah rfl rfl (⟨by simp[ak,h1,h2],rfl⟩)
  refine az (d:=9) rfl (b':=false) (decide_eq_false zo) ?_;refine zh ?_
  by_cases h3:97<=c.toNat
  ·refine az (d:=12) rfl (b':=true) (decide_eq_true zo) ?_;refine zh ?_
   have e:decide ((c.toNat:Int)<=122)=decide (c.toNat<=122):=decide_eq_decide.2 zo;refine ah rfl rfl (⟨by rw[e];simp[ak,h1,h2,h3],rfl⟩)
  refine az (d:=12) rfl (b':=false) (decide_eq_false zo) ?_;refine zh ?_
  refine ah rfl rfl (⟨by simp[ak,h1,h2,h3],rfl⟩)
 refine az (d:=5) rfl (b':=false) (decide_eq_false zo) ?_;refine zh ?_
 refine az (d:=12) rfl (b':=false) (decide_eq_false zo) ?_;refine zh ?_
 have h3:¬97<=c.toNat:=zo;refine ah rfl rfl (⟨by simp[ak,h1,h3],rfl⟩)
theorem yM(O:Nat->Nat)(w:ka)(j rb:Nat)(l r:List UInt8)(op a4 e:Int)(hj:j≠0)(hr:r <:+ l)(hl:l.length<=100000)(h:Rdr kv O w j rb l ((l.length:Int)-(r.length:Int)) op a4 e):
  Ret J5 166 [nP rb] w fun _ w'=>Rdr kv O w' j rb l ((l.length:Int)-((au r).length:Int)) op a4 e/\Upd (fun k=>k=j) O w O w':=by
 have hz:¬(fun k:Nat=>k=j) 0:=fun e=>hj e.symm
 refine Ret.enter func166 ntmps166 rfl rfl ?_;refine zh ?_
 refine zlp (fun x:List UInt8×ka=>[(0,nP rb)]) (fun x=>x.2) (fun x=>x.1 <:+ l/\au x.1=au r/\Rdr kv O x.2 j rb l ((l.length:Int)-(x.1.length:Int)) op a4 e/\Upd (fun k=>k=j) O w O x.2) (fun x=>x.1.length) (r,w) (⟨hr,rfl,h,Upd.refl hz _ _⟩) ?_;rintro⟨r1,w1⟩ ⟨a2,a1,a5,a3⟩;dsimp only at a2 a1 a5 a3 ⊢;have a0:=a5.drew;have a7:=a2.length_le;refine zh ?_
 refine WC.still zk zk ?_;refine zh ?_
 refine zwH (RV.ld a0.r1 rfl) ?_;refine zw (RV.ld a0.r0 rfl) ?_
 refine zwH (cf Ka rfl) ?_
 cases r1 with
 |nil=>
  refine cd (d:=12) rfl (b':=false) (decide_eq_false (by simp)) ?_;refine zh ?_
  refine zw (bC rfl rfl) ?_;refine WS.nil ?_
  refine zh ?_;refine zFH rfl rfl ?_
  refine aH rfl (⟨by rw[<-a1];exact a0,a3.drew⟩)
 |cons b r2=>
  simp only[Jz]at a7 a0;refine cd (d:=12) rfl (b':=true) (decide_eq_true (by simp only[Jz];omega)) ?_;refine zh ?_;refine zwH (RV.ld a0.r0 rfl) ?_;refine zwH (RV.ld a0.r1 rfl) ?_;refine zwH (bj (c:=b) Ka rfl rfl (l.length-(r2.length+1)) zo (mV a2)) ?_;refine zw (bB rfl rfl) ?_;refine WS.nil ?_;refine zh ?_;refine zC ?_ ?_
  ·intro hb;replace hb:b=32:=by rw[show(32:Int)=((32:Nat):Int)from rfl,nZ b 32 zd]at hb;simpa using hb
   subst hb;refine zh ?_;refine zvH (RV.ld a0.r1 rfl) ?_;refine aj (j:=1) a0 rfl (Jk _) rfl rfl rfl rfl ?_;rw[show((l.length:Int)-((r2.length+1:Nat):Int))+1=(l.length:Int)-(r2.length:Int)from by omega];have a8:=a0.rAt ((l.length:Int)-(r2.length:Int));have a9:Upd (fun k=>k=j) O w1.drew O (w1.drew.setCell ⟨rb,1,none⟩ (nI ((l.length:Int)-(r2.length:Int)))):=Upd.set hz a0.tag rfl;refine zh ?_;refine zx (r2,w1.drew.setCell ⟨rb,1,none⟩ (nI ((l.length:Int)-(r2.length:Int)))) (⟨(KH _ _).trans a2,by rw[<-a1];simp[au],a8,a3.drew.trans a9⟩) (by dsimp only;simp)
  intro hb;replace hb:b≠32:=by rw[show(32:Int)=((32:Nat):Int)from rfl,nZ b 32 zd]at hb;simpa using hb
  have a6:au (b::r2)=b::r2:=by simp[au,hb]
  refine zh ?_;refine aH rfl (⟨by rw[<-a1,a6];exact a0,a3.drew⟩)
theorem xj{l r:List UInt8}(hr:r <:+ l)(h:r≠[]):l[l.length-r.length]? = some (r.headD 0):=by
 cases r with
 |nil=>exact absurd rfl h
 |cons b r=>exact mV hr
theorem gb(O:Nat → Nat)(w:ka)(j rb:Nat)(l r:List UInt8)(op bad e:Int)(hj:j ≠ 0)(hr:r <:+ l)(hl:l.length ≤ 100000)(h:Rdr kv O w j rb l ((l.length:Int) - (r.length:Int)) op bad e):
    Ret J5 151 [.pointer (some ⟨rb, 0, none⟩)] w fun v w' => v = .int .u8 (((au r).headD 0).toNat:Int) ∧ Rdr kv O w' j rb l ((l.length:Int) - ((au r).length:Int)) op bad e ∧ Upd (fun k => k = j) O w O w' := by
  refine Ret.enter func151 ntmps151 rfl rfl ?_
  refine zh ?_
  refine zc call166 (yM O w j rb l r op bad e hj hr hl h) ?_
  rintro v w1 ⟨hb1, hU1⟩
  have hs := (aW r).trans hr
  have hsl := hs.length_le
  generalize au r = q at *
  have hb2 := hb1.drew
  refine zh ?_
  refine WC.still (by kernel_rfl) (by kernel_rfl) ?_
  refine zh ?_
  refine zwH (RV.ld hb2.r1 rfl) ?_
  refine zw (RV.ld hb2.r0 rfl) ?_
  refine zwH (cf Ka rfl) ?_
  refine WS.nil ?_
  refine zh ?_
  refine zC ?_ ?_
  · intro he
    replace he : q = [] := List.eq_nil_of_length_eq_zero (by have : (l.length : Int) - (q.length : Int) = l.length := by simpa using he
                                                             omega)
    subst he
    refine zh ?_
    refine ah rfl rfl (⟨rfl, hb2, hU1.drew⟩)
  · intro he
    replace he:q ≠ [] := fun e => by subst e; simp at he
    have hb3 := hb2.drew
    refine zh ?_
    refine WC.still (by kernel_rfl) (by kernel_rfl) ?_
    refine zh ?_
    refine zwH (RV.ld hb3.r0 rfl) ?_
    refine zw (RV.ld hb3.r1 rfl) ?_
    refine zwH (bj (c := q.headD 0) Ka rfl rfl (l.length - q.length) (by omega) (xj hs he)) ?_
    refine WS.nil ?_
    refine zh ?_
    refine ah rfl rfl (⟨rfl, hb3, hU1.drew.drew⟩)
theorem xa(O:Nat->Nat)(w:ka)(j rb:Nat)(l r:List UInt8)(op a6 e:Int)(hj:j≠0)(hr:r <:+ l)(hl:l.length<=100000)(h:Rdr kv O w j rb l ((l.length:Int)-(r.length:Int)) op a6 e):
  Ret J5 207 [nP rb] w fun v w'=>v=.string (bs (r.takeWhile ak))/\Rdr kv O w' j rb l ((l.length:Int)-((r.dropWhile ak).length:Int)) op a6 e/\Upd (fun k=>k=j) O w O w':=by
 have hz:¬(fun k:Nat=>k=j) 0:=fun e=>hj e.symm
 refine Ret.enter func207 ntmps207 rfl rfl ?_;refine zh ?_
 refine zvH (RV.ld h.r1 rfl) ?_;refine zlp (fun x:List UInt8×ka=>[(0,nP rb),(3,nI ((l.length:Int)-(r.length:Int)))]) (fun x=>x.2) (fun x=>x.1 <:+ l/\x.1.dropWhile ak=r.dropWhile ak/\Rdr kv O x.2 j rb l ((l.length:Int)-(x.1.length:Int)) op a6 e/\Upd (fun k=>k=j) O w O x.2) (fun x=>x.1.length) (r,w) (⟨hr,rfl,h,Upd.refl hz _ _⟩) ?_
 rintro⟨r1,w1⟩ ⟨a4,a3,a7,a5⟩;dsimp only at a4 a3 a7 a5 ⊢;have a0:=a7.drew;have a':=a4.length_le;have a9:=hr.length_le;have a2:r1=r.dropWhile ak->(l.take (l.length-r1.length)).drop (l.length-r.length)=r.takeWhile ak:=fun e=>by
  have:=zH (l:=l) (a:=r.takeWhile ak) (b:=r.dropWhile ak) (by rw[Lb];exact hr);rw[Lb,<-e]at this;exact this
 have b0:r1.length<=r.length\/r1≠r.dropWhile ak:=by
  by_cases e:r1=r.dropWhile ak
  ·left;rw[e];exact(K5 _).length_le
  right;exact e
 refine zh ?_;refine WC.still zk zk ?_
 refine zh ?_;refine zwH (RV.ld a0.r1 rfl) ?_
 refine zw (RV.ld a0.r0 rfl) ?_;refine zwH (cf Ka rfl) ?_
 cases r1 with
 |nil=>
  have a1:=a0.drew;have hd:[]=r.dropWhile ak:=by rw[<-a3];rfl
  have h1:=a2 hd;refine cd (d:=18) rfl (b':=false) (decide_eq_false (by simp)) ?_;refine zh ?_;refine zw (bC rfl rfl) ?_;refine WS.nil ?_;refine zh ?_;refine zFH rfl rfl ?_;refine WC.still zk zk ?_;refine zh ?_;refine zwH (RV.ld a1.r0 rfl) ?_;refine zw (RV.ld a1.r1 rfl) ?_;refine zwH (cT Ka rfl rfl rfl (l.length-r.length) (l.length-0) zo (by simp) zo zo) ?_;refine WS.nil ?_;refine zh ?_;simp only[MJ]at h1;refine ah rfl rfl (⟨by rw[h1],by rw[<-hd];exact a1,a5.drew.drew⟩)
 |cons b r2=>
  simp only[Jz]at a' a0;refine cd (d:=18) rfl (b':=true) (decide_eq_true (by simp only[Jz];omega)) ?_;refine zh ?_;refine zwH (RV.ld a0.r0 rfl) ?_;refine zwH (RV.ld a0.r1 rfl) ?_;refine zwH (bj (c:=b) Ka rfl rfl (l.length-(r2.length+1)) zo (mV a4)) ?_;refine WS.call Nr rfl (iN b w1.drew) rfl ?_;refine zw (bB rfl rfl) ?_;refine WS.nil ?_;refine zh ?_;refine zC ?_ ?_
  ·intro hb;replace hb:ak b=true:=hb;refine zh ?_;refine zvH (RV.ld a0.r1 rfl) ?_;refine aj (j:=1) a0 rfl (Jk _) rfl rfl rfl rfl ?_;rw[show((l.length:Int)-((r2.length+1:Nat):Int))+1=(l.length:Int)-(r2.length:Int)from by omega];have a1:=a0.rAt ((l.length:Int)-(r2.length:Int));have b1:Upd (fun k=>k=j) O w1.drew O (w1.drew.setCell ⟨rb,1,none⟩ (nI ((l.length:Int)-(r2.length:Int)))):=Upd.set hz a0.tag rfl;refine zh ?_;refine zx (r2,w1.drew.setCell ⟨rb,1,none⟩ (nI ((l.length:Int)-(r2.length:Int)))) (⟨(KH _ _).trans a4,by rw[<-a3,LB hb],a1,a5.drew.trans b1⟩) (by dsimp only;simp)
  intro hb;replace hb:ak b=false:=hb;have a8:(b::r2).dropWhile ak=b::r2:=List.dropWhile_cons_of_neg (by rw[hb];decide);have hd:b::r2=r.dropWhile ak:=by rw[<-a3,a8]
  have h1:=a2 hd;have h2:=b0.resolve_right (fun e=>e hd);simp only[Jz]at h1 h2;have a1:=a0.drew;refine zh ?_;refine WC.still zk zk ?_;refine zh ?_;refine zwH (RV.ld a1.r0 rfl) ?_;refine zw (RV.ld a1.r1 rfl) ?_;refine zwH (cT Ka rfl rfl rfl (l.length-r.length) (l.length-(r2.length+1)) zo zo zo zo) ?_;refine WS.nil ?_;refine zh ?_;refine ah rfl rfl (⟨by rw[h1],by rw[<-hd];exact a1,a5.drew.drew⟩)
theorem vT:ck J5 67 #[(0,1),(1,1),(2,1)]:=⟨_,Lo,fun w=>by kernel_rfl⟩
theorem gk(B:Nat)(O:Nat->Nat)(w:ka)(j rb:Nat)(l:List UInt8)(a op b3 p e:Int)(hj:j≠0)(hR:Rng B O w)(h:Rdr kv O w j rb l a op b3 0):
  Ret J5 152 [nP rb,nI p,nI e] w fun v w'=>v=.agg #[nI 0,nI 0,nS]/\Rdr kv O w' j rb l a op p e/\Upd (fun k=>k=j) O w O w':=by
 obtain⟨T,a4,hT⟩:=hR.bound;have b4:j<T:=by rw[<-h.tag];exact hT rb
 refine Ret.enter func152 ntmps152 rfl rfl ?_;refine zh ?_
 refine aw hR T zo (Jp _) rfl ?_;intro xb w1 O1 a8 a6 b5 b6;have a1:=h.upd a6 hj zo;refine zh ?_
 refine zvH (RV.ld a1.r5 rfl) ?_;refine zTH rfl rfl ?_
 refine aj (j:=4) a1 rfl (Jk _) rfl rfl rfl rfl ?_;have a3:=a1.rBad p;have b2:Upd (fun k=>k=j) O1 w1 O1 (w1.setCell ⟨rb,4,none⟩ (nI p)):=Upd.set (fun e=>hj e.symm) a1.tag rfl;refine zh ?_
 refine aj (j:=5) a3 rfl (Nb _) rfl rfl rfl rfl ?_;have a':=a3.rE e;have b1:Upd (fun k=>k=j) O1 (w1.setCell ⟨rb,4,none⟩ (nI p)) O1 ((w1.setCell ⟨rb,4,none⟩ (nI p)).setCell ⟨rb,5,none⟩ (nI e)):=Upd.set (fun e=>hj e.symm) a3.tag rfl;have a0:=b2.trans b1;have a2:=a8.upd a0 zo zo;generalize (w1.setCell ⟨rb,4,none⟩ (nI p)).setCell ⟨rb,5,none⟩ (nI e)=w3 at *;refine zh ?_
 refine zv (aF vT (Jp _) rfl (by first|rfl|(simp only[JC,KK];rfl)) rfl rfl) ?_;refine zsa (us:=#[nI 0,nI 0,nS]) a2 (J1 _) ?_
 have a7:=a2.setRow (us:=#[nI 0,nI 0,nS]);have a5:Upd (fun k=>k=T) O1 w3 O1 (w3.setRow xb #[nI 0,nI 0,nS]):=Upd.setRow zo a2.tag rfl;have a9:=a'.upd a5 hj zo;have b0:=((a6.pT hj a4 (J4 _)).trans (a0.pj a4)).trans (a5.pT hj a4 (J4 _));refine zh ?_;refine aK rfl rfl (a7.cellsAdd) (Jl _) (J1 _) (⟨rfl,a9.fgt h.tag,b0.priv hT hj⟩)
end Go.Proofs.YtjemhjcngaokpaaGreatDoor
end
namespace Go.Proofs.YtjemhjcngaokpaaGreatDoor
open Go.Proofs.Tryz
section
open Go.VL Go.Proofs
set_option maxRecDepth 10000
def rU(l:List UInt8)(c:UInt8):Int:=match l.findIdx? (· == c)with|some i=>(i:Nat)|none=>-1
theorem vi(l:List UInt8)(c:UInt8):firstIdx (bs l) c=rU l c:=by
 have a0:∀i,i<l.length->(bs l)[i]! = nth l i:=fun i hi=>by
  rw[aB hi,getElem!_pos (bs l) i (by rw[cZ];exact hi)];show l.toArray[i]=l[i];simp
 unfold firstIdx rU;rw[cZ]
 cases hf:l.findIdx? (· == c)with
 |none=>
  have h:=KC.1 hf;have:(K6 l.length).find? (fun i=>(bs l)[i]! == c)=none:=by
   rw[KB];intro i hi;have a1:i<l.length:=by simpa using hi
   rw[a0 i a1,aB a1,h _ (K7 a1)];decide
  rw[this]
 |some i=>
  obtain⟨hi,h1,h2⟩:=L3.1 hf;have:(K6 l.length).find? (fun i=>(bs l)[i]! == c)=some i:=by
   rw[List.find?_eq_some_iff_getElem];refine⟨by rw[a0 i hi,aB hi];exact h1,i,by simpa using hi,by simp,fun j hj=>?_⟩;have:=h2 j hj;simp only[Mi];rw[a0 j zo,aB zo];simpa using this
  rw[this]
theorem oU(l:List UInt8)(c:UInt8)(w:ka):(callFunc 127 #[.string (bs l),.int .u8 (c.toNat:Int)]).run J5 w=.ok (.value (nI (rU l c))) w:=by
 rw[run_callFunc_extern func127 zk zk zk (e:=LY) zk,run_indexByte_string,vi];simp[Result.andThen]
theorem qu(l:List UInt8)(c:UInt8)(w:ka):Ret J5 91 [.string (bs l),.int .u8 (c.toNat:Int)] w fun v w'=>v=nI (rU l c)/\w'=w:=by
 refine Ret.enter func91 ntmps91 rfl rfl ?_;refine zh ?_
 refine zvH (RV.ext (vs:=[.string (bs l),.int .u8 (c.toNat:Int)]) (oU l c w) rfl) ?_;refine ah rfl rfl (⟨rfl,rfl⟩)
theorem dt(l:List UInt8)(c:UInt8)(w:ka):Ret J5 51 [.string (bs l),.int .u8 (c.toNat:Int)] w fun v w'=>v=nI (rU l c)/\w'=w:=by
 refine Ret.enter func51 ntmps51 rfl rfl ?_;refine zh ?_
 refine zc call91 (qu l c w) ?_;rintro v _ ⟨rfl,rfl⟩;refine zh ?_
 refine ah rfl rfl (⟨rfl,rfl⟩)
@[simp] def encS(x:List UInt8):List ix:=[.string (bs x)]
def GB(l:List (List UInt8))(s:List UInt8):Int:=match l.findIdx? (· == s)with|some i=>(i:Nat)|none=>-1
theorem mh(l:List (List UInt8))(s:List UInt8)(sv:ix)(w:ka)(h:Sl encS 1 w sv l):Ret J5 155 [sv,.string (bs s)] w fun v w'=>v=nI (GB l s)/\w'=w:=by
 have hl:=h.len_le;refine Ret.enter func155 ntmps155 rfl rfl ?_;refine zh ?_;refine zlp (fun x:Nat=>[(0,sv),(1,.string (bs s)),(7,nI l.length),(8,nI x)]) (fun x=>w) (fun x=>x<=l.length/\∀i,i<x->(nth l i==s)=false) (fun x=>l.length-x) 0 (⟨JJ _,fun i hi=>absurd hi (Lr i)⟩) ?_;rintro k ⟨hk,a1⟩;refine zh ?_;refine zC ?_ ?_
 ·intro a0;replace a0:k<l.length:=dT a0;refine zh ?_;refine zv (RV.ld (h.ld (val:=fun x=>.string (bs x)) a0) rfl) ?_;refine zvH (cR rfl rfl) ?_;refine zC ?_ ?_
  ·intro hy;replace hy:s=nth l k:=by simpa using hy
   have hf:l.findIdx? (· == s)=some k:=L3.2 ⟨a0,by rw[<-aB a0,hy];simp,fun j hj=>by rw[<-aB zo,a1 j hj];decide⟩;refine zh ?_;refine ah rfl rfl (⟨by unfold GB;rw[hf],rfl⟩)
  intro hy;replace hy:(nth l k==s)=false:=by
   rw[My];intro e;rw[eq_of_beq e]at hy;simp at hy
  refine zh ?_;refine zxd (k+1) (⟨a0,fun i hi=>(LH.1 hi).elim (a1 i) (fun e=>by rw[e];exact hy)⟩)
 intro a2;replace a2:l.length<=k:=dF a2;have hf:l.findIdx? (· == s)=none:=KC.2 fun x hx=>by
  obtain⟨j,hj,rfl⟩:=cG hx;exact a1 j zo
 refine zh ?_;refine ah rfl rfl (⟨by unfold GB;rw[hf],rfl⟩)
def gR:Array ix:=(namesL.map fun s=>L1 (bs s)).toArray
theorem uQ{O:Nat->Nat}{w:ka}{j b:Nat}(h:BlkO O w j b gR 249):Sl encS 1 w (.slice (some ⟨b,0,none⟩) 36 36) namesL:=by
 refine⟨⟨_,36,rfl,J4 _,zd,fun _=>⟨_,_,rfl⟩⟩,fun i hi j u hu=>?_⟩;obtain rfl:j=0:=by
  have:=(Jq.1 hu).1;simpa using this
 have a0:L1 (bs namesL[i])=u:=by simpa using hu
 have:=h.cell i (u:=u) (by rw[<-a0];unfold gR;simp[hi]);have e:((adr (.slice (some ⟨b,0,none⟩) 36 36) 1 i).add 0)=⟨b,i,none⟩:=by simp[adr,Jw]
 exact(congrArg w.cell? e).trans this
theorem Av(w:ka):Ret J5 154 [] w fun v w'=>v=.agg gR/\Ext w w':=by
 refine Ret.enter func154 ntmps154 rfl rfl ?_;refine zh ?_
 refine aw (ar w) 1 zo (Ml _) rfl ?_;intro xb w1 O1 a0 a2 a4 a5;refine zh ?_
 refine zv (eM (cells:=gR) Ni (Lp _) (Ml _) rfl zk) ?_;refine bu (us:=gR) a0 zk (N6 _) zk rfl rfl rfl ?_
 have a1:=a0.setRow (us:=gR);have a3:Ext w (w1.setRow xb gR):=(a2.trans (Upd.setRow zd a0.tag rfl)).ext;refine zh ?_;refine aK rfl rfl (a1.cellsAdd) (isAgg249 _) (N6 _) (⟨rfl,a3⟩)
def Dp(s:List UInt8):Int:=match An s with|some c=>(c:Nat)|none=>0
theorem iM(s:List UInt8)(w:ka):Ret J5 131 [.string (bs s)] w fun v w'=>v=.tuple #[nI (Dp s),.bool (An s).isSome]/\Ext w w':=by
 refine Ret.enter func131 ntmps131 rfl rfl ?_;refine zh ?_
 refine zc call154 (Av w) ?_;rintro v w1 ⟨rfl,a5⟩;refine aw (ar w1) 1 zo (Ml _) rfl ?_
 intro xb w2 O2 a0 a3 a6 a7;refine bu (us:=gR) a0 zk (N6 _) zk rfl rfl rfl ?_;have a1:=a0.setRow (us:=gR);have a4:Ext w1 (w2.setRow xb gR):=(a3.trans (Upd.setRow zd a0.tag rfl)).ext;have a2:=uQ a1;generalize w2.setRow xb gR=w3 at *;refine zh ?_;refine zvH (vH Ni (Lp _) zd rfl) ?_;refine zc call155 (mh namesL s _ w3 a2) ?_;rintro v _ ⟨rfl,rfl⟩;refine zh ?_;refine zvH (jN rfl rfl) ?_;have h:GB namesL s=match An s with|some c=>(c:Nat)|none=>-1:=rfl
 refine bx rfl rfl rfl (⟨?_,a5.trans a4⟩);rw[h];unfold Dp
 cases An s with
 |none=>rfl
 |some c=>simp
def nv(x:N3):ix:=.agg #[nI x.1,nI x.2.1,x.2.2]
def PostE(kv:ix)(O:Nat->Nat)(w:ka)(j rb:Nat)(l:List UInt8)(op:Int)(x:N3):PR->Prop
 |.ok t r=>Rdr kv O w j rb l ((l.length:Int)-(r.length:Int)) op 0 0/\Nt O w t x
 |.bad p e=>x.2.2.oneCell'=true/\∃a op',Rdr kv O w j rb l a op' ((l.length:Int)-(p:Int)) e/\0<=a/\a<=l.length+20-op/\op<=op'/\op'<=20
abbrev M3:=List UInt8×N3
def lf(m:M3):List ix:=[.string (bs m.1),nI m.2.1,nI m.2.2.1,m.2.2.2]
abbrev Kn:=List (List UInt8×Nd)
def KnownM(O:Nat->Nat)(w:ka)(kv:ix)(kn:Kn)(ms:List M3):Prop:=
 Sl lf 4 w kv ms/\Free O w kv/\kn.length=ms.length/\∀i,i<ms.length->(nth kn i).1=(nth ms i).1/\Nt O w (nth kn i).2 (nth ms i).2
def Known(O:Nat->Nat)(w:ka)(kv:ix)(kn:Kn):Prop:=∃ms:List M3,KnownM O w kv kn ms
theorem KnownM.upd{S:Nat->Prop}{O O':Nat->Nat}{w w':ka}{kv:ix}{kn:Kn}{ms:List M3}(h:KnownM O w kv kn ms)(u:Upd S O w O' w'):KnownM O' w' kv kn ms:=by
 obtain⟨h1,h2,h3,h4⟩:=h;exact⟨h1.upd h2 u,h2.upd u,h3,fun i hi=>⟨(h4 i hi).1,(h4 i hi).2.upd u⟩⟩
theorem Known.upd{S:Nat->Prop}{O O':Nat->Nat}{w w':ka}{kv:ix}{kn:Kn}(h:Known O w kv kn)(u:Upd S O w O' w'):Known O' w' kv kn:=by
 obtain⟨ms,h⟩:=h;exact⟨ms,h.upd u⟩
variable{kv:ix}{kn:Kn}
theorem bZ{x:N3}(h:x.2.2.oneCell'=true):(#[nI x.1,nI x.2.1,x.2.2]:Array ix).toList.all JK=true:=by
 simp only[JC,h];rfl
theorem elN:Elem J5 65 67 3 40:=⟨KT,by kernel_rfl,zd⟩
theorem gY{x:N3}(h:x.2.2.oneCell'=true):∀c∈aV x,c.oneCell'=true:=fun c hc=>by
 simp at hc
 rcases hc with rfl|rfl|rfl
 ·rfl
 ·rfl
 exact h
def Reads(kv:ix)(kn:Kn)(F:Nat)(ex:List ix)(op:Int)(M:List UInt8->PR)(Pre:List UInt8->Prop):Prop:=
 ∀(B:Nat) (O:Nat->Nat) (j rb:Nat) (l r:List UInt8) (w:ka),Rng B O w->j≠0->r <:+ l->l.length<=4096->Pre r->Rdr kv O w j rb l ((l.length:Int)-(r.length:Int)) op 0 0->Known O w kv kn->
  Ret J5 F (nP rb::ex) w fun v w'=>∃x,v=nv x/\Upd (fun k=>k=j) O w O w'/\PostE kv O w' j rb l op x (M r)
theorem tN(kind op:Int)(d1:0<=op/\op<=20):Reads kv kn 205 [nI kind] op (dD kind) (fun _=>True):=by
 intro B O j rb l r w hR hj hr hl _ h _;obtain⟨T,a0,hT⟩:=hR.bound;have d2:j<T:=by rw[<-h.tag];exact hT rb
 have hq:=(aW r).trans hr;have d0:=hq.length_le;refine Ret.enter func205 ntmps205 rfl rfl ?_;refine zh ?_;refine aw hR T zo (Jp _) rfl ?_;intro xb w1 O1 b' b5 c' d3;have c7:=h.upd b5 hj zo;refine zh ?_;refine zc N1 (gb O1 w1 j rb l r op 0 0 hj hr zo c7) ?_;rintro v w2 ⟨rfl,a6,b0⟩;have b1:=b'.upd b0 zo zo;have b6:=c'.upd b0;have b3:=(b5.pT hj a0 (J4 _)).trans (b0.pj a0);refine zc Nr (iN ((au r).headD 0) w2) ?_;rintro v _ ⟨rfl,rfl⟩;refine zh ?_
 cases hc:ak ((au r).headD 0)with
 |false=>
  have hM:dD kind r=.bad (au r).length 4:=by unfold dD;rw[if_neg (by rw[hc];decide)]
  refine zTH rfl rfl ?_;refine zv (RV.ld a6.r1 rfl) ?_
  refine zc Ms (gk _ O1 _ j rb l _ _ 0 ((l.length:Int)-((au r).length:Int)) 4 hj b6 a6) ?_;rintro v wf ⟨rfl,a8,a4⟩;have a1:=b1.upd a4 zo zo;refine zsa (us:=#[nI 0,nI 0,nS]) a1 (J1 _) ?_
  have a7:=a1.setRow (us:=#[nI 0,nI 0,nS]);have a3:Upd (fun k=>k=T) O1 wf O1 (wf.setRow xb #[nI 0,nI 0,nS]):=Upd.setRow zo a1.tag rfl;have hbg:=a8.upd a3 hj zo;refine zh ?_;refine aK rfl rfl (a7.cellsAdd) (Jl _) (J1 _) (⟨(0,0,nS),rfl,((b3.trans (a4.pj a0)).trans (a3.pT hj a0 (J4 _))).priv hT hj,?_⟩);rw[hM];exact⟨rfl,_,op,hbg.fgt h.tag,zo,zo,zo,zo⟩
 |true=>
  refine zFH rfl rfl ?_;refine zvH (RV.ld a6.r1 rfl) ?_
  refine zc call207 (xa O1 _ j rb l (au r) op 0 0 hj hq zo a6) ?_;rintro v w3 ⟨rfl,c6,a'⟩;have b9:=b1.upd a' zo zo;have c9:=b6.upd a';refine zc call131 (iM ((au r).takeWhile ak) w3) ?_
  rintro v w4 ⟨rfl,b7⟩;have a9:Upd (fun _=>False) O1 w3 O1 w4:=aa (fun h=>h) O1 b7;have b2:=c6.upd a9 hj (fun h=>h);have a5:=b9.upd a9 zo (fun h=>h);have c8:=c9.upd a9;have a2:=(b3.trans (a'.pj a0)).trans (jt O1 b7 hj a0);refine zh ?_
  cases hn:An ((au r).takeWhile ak)with
  |none=>
   have hM:dD kind r=.bad (au r).length 5:=by unfold dD;rw[if_pos hc,hn]
   refine zTH rfl rfl ?_;refine zc Ms (gk _ O1 _ j rb l _ _ 0 ((l.length:Int)-((au r).length:Int)) 5 hj c8 b2) ?_
   rintro v wf ⟨rfl,a8,a4⟩;have a1:=a5.upd a4 zo zo;refine zsa (us:=#[nI 0,nI 0,nS]) a1 (J1 _) ?_;have a7:=a1.setRow (us:=#[nI 0,nI 0,nS]);have a3:Upd (fun k=>k=T) O1 wf O1 (wf.setRow xb #[nI 0,nI 0,nS]):=Upd.setRow zo a1.tag rfl;have hbg:=a8.upd a3 hj zo;refine zh ?_;refine aK rfl rfl (a7.cellsAdd) (Jl _) (J1 _) (⟨(0,0,nS),rfl,((a2.trans (a4.pj a0)).trans (a3.pT hj a0 (J4 _))).priv hT hj,?_⟩);rw[hM];exact⟨rfl,_,op,hbg.fgt h.tag,by have:=(K5 (l:=au r) ak).length_le;omega,zo,zo,zo⟩
  |some c=>
   have hM:dD kind r=.ok (.mk kind (c:Nat) []) ((au r).dropWhile ak):=by unfold dD;rw[if_pos hc,hn]
   have hv:Dp ((au r).takeWhile ak)=(c:Nat):=by unfold Dp;rw[hn]
   rw[hv];refine zFH rfl rfl ?_;refine zv (aF vT (Jp _) rfl (by first|rfl|(simp only[JC,KK];rfl)) rfl rfl) ?_;refine zsa (us:=#[nI kind,nI (c:Nat),nS]) a5 (J1 _) ?_;have b8:=a5.setRow (us:=#[nI kind,nI (c:Nat),nS]);have b4:Upd (fun k=>k=T) O1 w4 O1 (w4.setRow xb #[nI kind,nI (c:Nat),nS]):=Upd.setRow zo a5.tag rfl;have c5:=b2.upd b4 hj zo;refine zh ?_;refine aK rfl rfl (b8.cellsAdd) (Jl _) (J1 _) (⟨(kind,(c:Nat),nS),rfl,(a2.trans (b4.pT hj a0 (J4 _))).priv hT hj,?_⟩);rw[hM];exact⟨c5.fgt h.tag,Nt.leaf _ _ _ _⟩
end
section
open Go.VL Go.Proofs
set_option maxRecDepth 10000
theorem qw:∀(n:Nat) (t:Nd),nsz t<=n->∀(x:N3) (w:ka) (fV:Nat),Nt (fun _=>0) w t x->fV<=1000000->Ret J5 104 [nv x,nI (fV:Int)] w fun v w'=>v=nI ((min (nsz t) (fV+1):Nat):Int)/\Ext w w'
 |0,t,hn=>by have:=dJ t;omega
 |n+1,.mk k c kids,hn=>by
  intro x w fV h hm;obtain⟨xs,hs,hf,hl,hk⟩:=h.kids;simp only[Nd.kids]at hl hk;have b9:=eV kids;simp only[nsz]at hn ⊢;have b1:=hs.len_le;refine Ret.enter func104 ntmps104 rfl rfl ?_;refine zg ?_;refine aE (ar w) 1 zo rfl rfl ?_;intro xb w1 O1 a' b' c6 a8;have b0:=hs.ext a8;refine zg ?_;refine zv (RV.ld (a'.cell 2 rfl) rfl) ?_;refine zvG (RV.len (by first|exact b0) KT rfl) ?_;refine zlp (fun y:Nat×ka=>[(1,nI (fV:Int)),(5,nI ((min (dA (kids.take y.1)+1) (fV+1):Nat):Int)),(9,x.2.2),(10,nI xs.length),(11,nI y.1)]) (fun y=>y.2) (fun y=>y.1<=xs.length/\Ext w y.2) (fun y=>xs.length-y.1) (0,w1) (⟨JJ _,a8⟩) ?_;rintro⟨i,w2⟩ ⟨hi,a0⟩;dsimp only at hi a0 ⊢;have a4:=hs.ext a0;refine zg ?_;refine zC ?_ ?_
  ·intro a1;replace a1:i<xs.length:=by have:=of_decide_eq_true a1;omega
   have b7:=dY kids i zo;have b6:=cB kids (i+1);have a6:=(hk i a1).ext a0;have a9:=a6.one;have b8:=cu kids i zo;refine zg ?_;refine zv (RV.indexAddr (by first|exact a4) KT (J1 _) rfl rfl _ rfl zo) ?_;refine zv (af (us:=aV (nth xs i)) (fun j u hu=>a4.cell a1 hu) (Jl _) (J1 _) rfl) ?_;refine aw (ar w2) 1 zo (Jp _) rfl ?_;intro kb w3 O3 a2 b4 c5 c7;refine zsb (us:=#[nI (nth xs i).1,nI (nth xs i).2.1,(nth xs i).2.2]) a2 (J1 _) (bZ a9) ?_;have b2:=a2.setRow (us:=#[nI (nth xs i).1,nI (nth xs i).2.1,(nth xs i).2.2]);have a3:Ext w2 (w3.setRow kb #[nI (nth xs i).1,nI (nth xs i).2.1,(nth xs i).2.2]):=(b4.trans (Upd.setRow zd a2.tag rfl)).ext;generalize w3.setRow kb #[nI (nth xs i).1,nI (nth xs i).2.1,(nth xs i).2.2]=w4 at *;refine zg ?_;refine zC ?_ ?_
   ·intro a7;replace a7:fV<dA (kids.take i)+1:=by have:=of_decide_eq_true a7;omega
    refine zg ?_;refine ah rfl rfl (⟨by congr 2;omega,a0.trans a3⟩)
   intro a5;replace a5:dA (kids.take i)+1<=fV:=by have:=of_decide_eq_false a5;omega
   refine zg ?_;refine zvG (af (us:=aV (nth xs i)) b2.cellsAdd (Jl _) (J1 _) rfl) ?_
   refine zv (RV.sub rfl rfl (Fit.i64 zo)) ?_;rw[show(fV:Int)-((min (dA (kids.take i)+1) (fV+1):Nat):Int)=((fV-(dA (kids.take i)+1):Nat):Int)from by omega];refine zc call104 (qw n (nth kids i) zo (nth xs i) w4 (fV-(dA (kids.take i)+1)) (a6.ext a3) zo) ?_
   rintro v w5 ⟨rfl,b5⟩;refine zvG (RV.add rfl rfl (Fit.i64 zo)) ?_;refine zvG (RV.add rfl rfl (Fit.i64 zo)) ?_;rw[show((min (dA (kids.take i)+1) (fV+1):Nat):Int)+((min (nsz (nth kids i)) (fV-(dA (kids.take i)+1)+1):Nat):Int)=((min (dA (kids.take (i+1))+1) (fV+1):Nat):Int)from by omega];refine zxd (i+1,w5) (⟨a1,(a0.trans a3).trans b5⟩)
  intro b3;obtain rfl:i=xs.length:=by have:=of_decide_eq_false b3;omega
  refine zg ?_;refine ah rfl rfl (⟨by rw[<-hl,MC],a0⟩)
theorem aD{S:Nat->Prop}{O O':Nat->Nat}{w w':ka}(h:Upd S O w O' w')(hS:∀b,¬S (O b)):Ext w w':=⟨h.os,h.tape,h.output,h.size,fun b hb=>h.blk b hb (hS b)⟩
theorem Nt.ones{O:Nat->Nat}{w:ka}{t:Nd}{x:N3}(h:Nt O w t x):x=(t.kind,t.cls,x.2.2):=by cases h;rfl
theorem tM:∀(n:Nat),n<=1000000->∀(t:Nd),nsz t<=n->∀(B:Nat) (O:Nat->Nat) (x:N3) (w:ka),Rng B O w->Nt (fun _=>0) w t x->Ret J5 153 [nv x] w fun v w'=>∃y,v=nv y/\Nt O w' t y/\Ext w w'
 |0,_,t,hn=>by have:=dJ t;omega
 |n+1,hn6,.mk k c kids,hn=>by
  intro B O x w hR h;obtain⟨T,j5,hT⟩:=hR.bound;obtain⟨xs,hs,hf,hl,hk⟩:=h.kids;simp only[Nd.kids]at hl hk;obtain⟨x0,x1,sv⟩:=x;obtain rfl:k=x0:=(congrArg MQ h.ones).symm;obtain rfl:c=x1:=(congrArg (fun q:N3=>q.2.1) h.ones).symm;dsimp only at hs hf;have j4:=eV kids;simp only[nsz]at hn;have a5:¬(fun q:Nat=>T<=q) 0:=fun e=>zo
  refine Ret.enter func153 ntmps153 rfl rfl ?_;refine zh ?_
  refine aE hR (T+1) zo rfl rfl ?_;intro nb w1 O1 h7 i5 i' j8;refine aw i' T zo (Jp _) rfl ?_
  intro xb w2 O2 h1 g8 i9 j7;have f':=h7.upd g8 zo zo;have n0:w2.cell? (nA nb 0)=some (nI k):=f'.cell 0 rfl;have n1:w2.cell? (nA nb 1)=some (nI c):=f'.cell 1 rfl;refine zh ?_;refine zv (aF vT (Jp _) rfl (by first|rfl|(simp only[JC,KK];rfl)) rfl rfl) ?_;refine aw i9 (T+2) zo (Jp _) rfl ?_;intro ob w3 O3 f9 i4 i7 j6;refine zsa (us:=#[nI k,nI c,nS]) f9 (J1 _) ?_;have h4:=f9.setRow (us:=#[nI k,nI c,nS]);have g7:Upd (fun q=>q=T+2) O3 w3 O3 (w3.setRow ob #[nI k,nI c,nS]):=Upd.setRow zo f9.tag rfl;have d6:=i4.trans g7;have i6:=i7.upd g7;have h5:=f'.upd d6 zo zo;have h0:=h1.upd d6 zo zo;have e6:Upd (fun q=>T<=q) O w O3 _:=((i5.mono (fun _ h=>by rw[h];omega) a5).trans (g8.mono (fun _ h=>by rw[h];omega) a5)).trans (d6.mono (fun _ h=>by rw[h];omega) a5);generalize w3.setRow ob #[nI k,nI c,nS]=w4 at *;have j0:=aD e6 (fun b=>by have:=hT b;omega);have j2:=hs.ext j0;have n2:w4.cell? (nA nb 2)=some sv:=h5.cell 2 rfl;refine zh ?_
  refine zlp (fun y:Nat×(Nat->Nat)×World×ix×List N3=>[(2,nP xb),(3,nP ob),(12,sv),(13,nI xs.length),(14,nI y.1)]) (fun y=>y.2.2.1) (fun y=>y.1<=xs.length/\BlkO y.2.1 y.2.2.1 T xb #[nI 0,nI 0,nS] 67/\BlkO y.2.1 y.2.2.1 (T+2) ob #[nI k,nI c,y.2.2.2.1] 67/\RowT aV 67 3 y.2.1 y.2.2.1 (T+3) y.2.2.2.1 y.2.2.2.2/\y.2.2.2.2.length=y.1/\(∀m,m<y.1->Nt y.2.1 y.2.2.1 (nth kids m) (nth y.2.2.2.2 m))/\Upd (fun q=>T<=q) O w y.2.1 y.2.2.1/\Rng B y.2.1 y.2.2.1) (fun y=>xs.length-y.1) (0,O3,w4,nS,[]) (⟨JJ _,h0,h4,RowT.nil _ _ _ _ _ _,rfl,fun m hm=>absurd hm (Lr m),e6,i6⟩) ?_;rintro⟨i,O1',f7,lv,zs⟩ ⟨hi,b2,d2,a',d0,f8,b',c5⟩;dsimp only at hi b2 d2 a' d0 f8 b' c5 ⊢;have e':=aD b' (fun b=>by have:=hT b;omega);have h3:=hs.ext e';refine zh ?_
  refine zC ?_ ?_
  ·intro c9;replace c9:i<xs.length:=dT c9;have h9:=(hk i c9).ext e';have g9:=h9.one;have j3:=cu kids i zo;refine zh ?_;refine zv (af (us:=aV (nth xs i)) (fun j u hu=>h3.cell c9 hu) (Jl _) (J1 _) rfl) ?_;refine aw c5 (T+4) zo (Jp _) rfl ?_;intro kb d9 O2' g1 g3 i8 j1;refine zsb (us:=#[nI (nth xs i).1,nI (nth xs i).2.1,(nth xs i).2.2]) g1 (J1 _) (bZ g9) ?_;have h':=g1.setRow (us:=#[nI (nth xs i).1,nI (nth xs i).2.1,(nth xs i).2.2]);have g2:Upd (fun q=>q=T+4) O2' d9 O2' (d9.setRow kb #[nI (nth xs i).1,nI (nth xs i).2.1,(nth xs i).2.2]):=Upd.setRow zo g1.tag rfl;have b0:=g3.trans g2;have g6:=(b2.upd b0 zo zo).drew;have d1:=(d2.upd b0 zo zo).drew;have c8:=(a'.upd b0 zo zo).drew;have d7:=(c5.upd b0).drew;have d':∀m,m<i->Nt O2' (d9.setRow kb #[nI (nth xs i).1,nI (nth xs i).2.1,(nth xs i).2.2]).drew (nth kids m) (nth zs m):=fun m hm=>((f8 m hm).upd b0).drew
   have d5:=(b'.trans (b0.mono (fun _ h=>by rw[h];omega) a5)).drew;have g5:=aD d5 (fun b=>by have:=hT b;omega);have hk3d:=h'.drew;have g0:Nt (fun _=>0) (d9.setRow kb #[nI (nth xs i).1,nI (nth xs i).2.1,(nth xs i).2.2]).drew (nth kids i) (nth xs i):=(hk i c9).ext g5;refine zh ?_;refine aG (fun W=>∀(m:Nat) (u:ix),(aV (nth xs i))[m]? = some u->W.cell? (nA kb m)=some u) 8 rfl zk ?_;generalize (d9.setRow kb #[nI (nth xs i).1,nI (nth xs i).2.1,(nth xs i).2.2]).drew=w3' at *;have i3:w3'.cell? (nA ob 2)=some lv:=d1.cell 2 rfl;refine zin hk3d.cellsAdd fun zS=>?_
   refine zrf 0 rfl zS rfl ?_;refine zt 2 rfl zS (fun w1 h2=>af (us:=aV (nth xs i)) h2 (Jl _) (J1 _) rfl) ?_
   have c':=tM n zo (nth kids i) zo B O2' (nth xs i) w3' d7 g0;refine bL 1 3 zk rfl rfl ?_ ?_
   ·refine zvH (RV.ld i3 rfl) ?_;refine ae hk3d.cellsAdd ?_
    refine WH.one 3 zk rfl ?_;refine zc call153 c' ?_
    rintro v w5 ⟨z,rfl,f3,g4⟩;have a8:Upd (fun _=>False) O2' w3' O2' w5:=aa (fun h=>h) O2' g4;have f4:=g6.upd a8 zo (fun h=>h);have e4:=d1.upd a8 zo (fun h=>h);have a9:=c8.upd a8 zo (fun h=>h);have f6:=d7.upd a8;have d3:=hk3d.upd a8 zo (fun h=>h);have b7:∀m,m<i->Nt O2' w5 (nth kids m) (nth zs m):=fun m hm=>(d' m hm).upd a8
    have b9:=d5.trans (a8.mono (fun _ h=>h.elim) a5);refine zh ?_;refine ae d3.cellsAdd ?_;refine WH.one 4 zk rfl ?_;refine aJ elN (enc:=aV) z rfl rfl rfl zd rfl ?_;intro w6 h6 e9;have a1:Upd (fun _=>False) O2' w5 O2' w6:=aa (fun h=>h) O2' e9;have e1:=f4.upd a1 zo (fun h=>h);have d8:=e4.upd a1 zo (fun h=>h);have a6:=a9.upd a1 zo (fun h=>h);have e8:=f6.upd a1;have b8:=d3.upd a1 zo (fun h=>h);have b1:∀m,m<i->Nt O2' w6 (nth kids m) (nth zs m):=fun m hm=>(b7 m hm).upd a1
    have c6:=f3.upd a1;have b6:=b9.trans (a1.mono (fun _ h=>h.elim) a5);refine zh ?_;refine ae b8.cellsAdd ?_;have a7:∀u∈[z],∀c∈aV u,c.oneCell'=true:=fun u hu=>by
     rw[JM.1 hu];exact gY c6.one
    refine WH.one 5 zk rfl ?_;refine aC elN a6 e8 h6 (by simp) rfl rfl (fun _ _=>rfl) a7 (by simp;omega) (by simp;omega) zo rfl ?_
    intro a3 w7 O7 a0 a4 e7;have e2:=a0.one;have b3:=BlkO.upd d8 a4 zo zo;have e0:=BlkO.upd e1 a4 zo zo;have b4:=BlkO.upd b8 a4 zo zo;refine zh ?_;refine ae b4.cellsAdd ?_;refine zrf 6 rfl b4.cellsAdd rfl ?_;refine WH.one 7 zk rfl ?_;refine aj (j:=2) b3 rfl (MG _) e2 rfl rfl rfl ?_;have e3:BlkO O7 (w7.setCell ⟨ob,2,none⟩ a3) (T+2) ob #[nI k,nI c,a3] 67:=b3.set 2 a3;have a2:Upd (fun q=>q=T+2) O7 w7 O7 (w7.setCell ⟨ob,2,none⟩ a3):=Upd.set zo b3.tag rfl;have e5:=b4.upd a2 zo zo;refine zh ?_;refine ae e5.cellsAdd ?_;have a5:¬(fun q:Nat=>T<=q) 0:=fun e=>zo
    have b5:=(b6.trans (a4.mono (fun _ h=>by rw[h];omega) a5)).trans (a2.mono (fun _ h=>by rw[h];omega) a5);refine WH.done zk ?_;refine zh ?_;refine zxd (i+1,O7,(w7.setCell ⟨ob,2,none⟩ a3),a3,zs++[z]) (⟨c9,e0.upd a2 zo zo,e3,a0.upd a2 zo zo,by simp[d0],fun m hm=>?_,b5,e7.upd a2⟩);dsimp only at hm ⊢
    by_cases e:m<i
    ·rw[aB (xs:=zs++[z]) (by simp;omega),Kc zo,<-aB zo];exact((b1 m e).upd a4).upd a2
    obtain rfl:m=zs.length:=zo;rw[aB (xs:=zs++[z]) (by simp),K8 zo];simp only[LU,JZ];rw[d0];exact(c6.upd a4).upd a2
   refine zc call153 c' ?_;rintro v w5 ⟨z,rfl,f3,g4⟩;have a8:Upd (fun _=>False) O2' w3' O2' w5:=aa (fun h=>h) O2' g4;have f4:=g6.upd a8 zo (fun h=>h);have e4:=d1.upd a8 zo (fun h=>h);have a9:=c8.upd a8 zo (fun h=>h);have f6:=d7.upd a8;have d3:=hk3d.upd a8 zo (fun h=>h);have b7:∀m,m<i->Nt O2' w5 (nth kids m) (nth zs m):=fun m hm=>(d' m hm).upd a8
   have b9:=d5.trans (a8.mono (fun _ h=>h.elim) a5);refine zh ?_;refine ae d3.cellsAdd ?_;have i2:w5.cell? (nA ob 2)=some lv:=e4.cell 2 rfl;refine bL 1 4 zk rfl rfl ?_ ?_
   ·refine zvH (RV.ld i2 rfl) ?_;refine ae d3.cellsAdd ?_
    refine WH.one 4 zk rfl ?_;refine aJ elN (enc:=aV) z rfl rfl rfl zd rfl ?_
    intro w6 h6 e9;have a1:Upd (fun _=>False) O2' w5 O2' w6:=aa (fun h=>h) O2' e9;have e1:=f4.upd a1 zo (fun h=>h);have d8:=e4.upd a1 zo (fun h=>h);have a6:=a9.upd a1 zo (fun h=>h);have e8:=f6.upd a1;have b8:=d3.upd a1 zo (fun h=>h);have b1:∀m,m<i->Nt O2' w6 (nth kids m) (nth zs m):=fun m hm=>(b7 m hm).upd a1
    have c6:=f3.upd a1;have b6:=b9.trans (a1.mono (fun _ h=>h.elim) a5);refine zh ?_;refine ae b8.cellsAdd ?_;have a7:∀u∈[z],∀c∈aV u,c.oneCell'=true:=fun u hu=>by
     rw[JM.1 hu];exact gY c6.one
    refine WH.one 5 zk rfl ?_;refine aC elN a6 e8 h6 (by simp) rfl rfl (fun _ _=>rfl) a7 (by simp;omega) (by simp;omega) zo rfl ?_
    intro a3 w7 O7 a0 a4 e7;have e2:=a0.one;have b3:=BlkO.upd d8 a4 zo zo;have e0:=BlkO.upd e1 a4 zo zo;have b4:=BlkO.upd b8 a4 zo zo;refine zh ?_;refine ae b4.cellsAdd ?_;refine zrf 6 rfl b4.cellsAdd rfl ?_;refine WH.one 7 zk rfl ?_;refine aj (j:=2) b3 rfl (MG _) e2 rfl rfl rfl ?_;have e3:BlkO O7 (w7.setCell ⟨ob,2,none⟩ a3) (T+2) ob #[nI k,nI c,a3] 67:=b3.set 2 a3;have a2:Upd (fun q=>q=T+2) O7 w7 O7 (w7.setCell ⟨ob,2,none⟩ a3):=Upd.set zo b3.tag rfl;have e5:=b4.upd a2 zo zo;refine zh ?_;refine ae e5.cellsAdd ?_;have a5:¬(fun q:Nat=>T<=q) 0:=fun e=>zo
    have b5:=(b6.trans (a4.mono (fun _ h=>by rw[h];omega) a5)).trans (a2.mono (fun _ h=>by rw[h];omega) a5);refine WH.done zk ?_;refine zh ?_;refine zxd (i+1,O7,(w7.setCell ⟨ob,2,none⟩ a3),a3,zs++[z]) (⟨c9,e0.upd a2 zo zo,e3,a0.upd a2 zo zo,by simp[d0],fun m hm=>?_,b5,e7.upd a2⟩);dsimp only at hm ⊢
    by_cases e:m<i
    ·rw[aB (xs:=zs++[z]) (by simp;omega),Kc zo,<-aB zo];exact((b1 m e).upd a4).upd a2
    obtain rfl:m=zs.length:=zo;rw[aB (xs:=zs++[z]) (by simp),K8 zo];simp only[LU,JZ];rw[d0];exact(c6.upd a4).upd a2
   refine aJ elN (enc:=aV) z rfl rfl rfl zd rfl ?_;intro w6 h6 e9;have a1:Upd (fun _=>False) O2' w5 O2' w6:=aa (fun h=>h) O2' e9;have e1:=f4.upd a1 zo (fun h=>h);have d8:=e4.upd a1 zo (fun h=>h);have a6:=a9.upd a1 zo (fun h=>h);have e8:=f6.upd a1;have b8:=d3.upd a1 zo (fun h=>h);have b1:∀m,m<i->Nt O2' w6 (nth kids m) (nth zs m):=fun m hm=>(b7 m hm).upd a1
   have c6:=f3.upd a1;have b6:=b9.trans (a1.mono (fun _ h=>h.elim) a5);refine zh ?_;refine ae b8.cellsAdd ?_;have i1:w6.cell? (nA ob 2)=some lv:=d8.cell 2 rfl;refine WH.one 1 zk rfl ?_;refine zvH (RV.ld i1 rfl) ?_;refine ae b8.cellsAdd ?_;have a7:∀u∈[z],∀c∈aV u,c.oneCell'=true:=fun u hu=>by
    rw[JM.1 hu];exact gY c6.one
   refine WH.one 5 zk rfl ?_;refine aC elN a6 e8 h6 (by simp) rfl rfl (fun _ _=>rfl) a7 (by simp;omega) (by simp;omega) zo rfl ?_
   intro a3 w7 O7 a0 a4 e7;have e2:=a0.one;have b3:=BlkO.upd d8 a4 zo zo;have e0:=BlkO.upd e1 a4 zo zo;have b4:=BlkO.upd b8 a4 zo zo;refine zh ?_;refine ae b4.cellsAdd ?_;refine zrf 6 rfl b4.cellsAdd rfl ?_;refine WH.one 7 zk rfl ?_;refine aj (j:=2) b3 rfl (MG _) e2 rfl rfl rfl ?_;have e3:BlkO O7 (w7.setCell ⟨ob,2,none⟩ a3) (T+2) ob #[nI k,nI c,a3] 67:=b3.set 2 a3;have a2:Upd (fun q=>q=T+2) O7 w7 O7 (w7.setCell ⟨ob,2,none⟩ a3):=Upd.set zo b3.tag rfl;have e5:=b4.upd a2 zo zo;refine zh ?_;refine ae e5.cellsAdd ?_;have a5:¬(fun q:Nat=>T<=q) 0:=fun e=>zo
   have b5:=(b6.trans (a4.mono (fun _ h=>by rw[h];omega) a5)).trans (a2.mono (fun _ h=>by rw[h];omega) a5);refine WH.done zk ?_;refine zh ?_;refine zxd (i+1,O7,(w7.setCell ⟨ob,2,none⟩ a3),a3,zs++[z]) (⟨c9,e0.upd a2 zo zo,e3,a0.upd a2 zo zo,by simp[d0],fun m hm=>?_,b5,e7.upd a2⟩);dsimp only at hm ⊢
   by_cases e:m<i
   ·rw[aB (xs:=zs++[z]) (by simp;omega),Kc zo,<-aB zo];exact((b1 m e).upd a4).upd a2
   obtain rfl:m=zs.length:=zo;rw[aB (xs:=zs++[z]) (by simp),K8 zo];simp only[LU,JZ];rw[d0];exact(c6.upd a4).upd a2
  intro i0;obtain rfl:i=xs.length:=dF i0;have h8:=a'.one;refine zh ?_;refine zv (af (us:=aV ((k,c,lv):N3)) d2.cellsAdd (Jl _) (J1 _) rfl) ?_;refine zsb (us:=#[nI k,nI c,lv]) b2 (J1 _) (bZ (x:=(k,c,lv)) h8) ?_;have g':=b2.setRow (us:=#[nI k,nI c,lv]);have f5:Upd (fun q=>q=T) O1' f7 O1' (f7.setRow xb #[nI k,nI c,lv]):=Upd.setRow zo b2.tag rfl;have c7:=a'.upd f5 zo zo;have d4:=b'.trans (f5.mono (fun _ h=>by rw[h];omega) a5);have hN:Nt O (f7.setRow xb #[nI k,nI c,lv]) (.mk k c kids) (k,c,lv):=
   .mk c7.sl (c7.freeT zo (fun b=>by have:=hT b;omega) (c5.upd f5) d4) zo (fun m hm=>((f8 m zo).upd f5).low d4)
  refine zh ?_;refine aK rfl rfl (g'.cellsAdd) (Jl _) (J1 _) (⟨(k,c,lv),rfl,hN,aD d4 (fun b=>by have:=hT b;omega)⟩)
end
section
open Go.VL Go.Proofs
set_option maxRecDepth 10000
theorem lK{F:Kq}(hF:∀(args:Array ix) (w:ka),(callFunc F args).run J5 w=.ok (.enter F args) w)(cs:Array ix)(l:List (N3))(sv:ix)(q:Nat->Bool)(w:ka)(h:Sl aV 3 w sv l) 
  (hq:∀i,i<l.length->∀w',Ext w w'->Ret J5 F ([nv (nth l i)]++cs.toList) w' fun v w''=>v=.bool (q i)/\Ext w' w'') :
  Ret J5 108 [sv,.func (.func F) #[] cs] w fun v w'=>v=nI (dC q l.length)/\Ext w w':=by
 have hl:=h.len_le;refine Ret.enter func108 ntmps108 rfl rfl ?_;refine zh ?_;refine zlp (fun x:Nat×ka=>[(0,sv),(1,.func (.func F) #[] cs),(7,nI l.length),(8,nI x.1)]) (fun x=>x.2) (fun x=>x.1<=l.length/\Ext w x.2/\∀i,i<x.1->q i=false) (fun x=>l.length-x.1) (0,w) (⟨JJ _,Ext.refl _,fun i hi=>absurd hi (Lr i)⟩) ?_;rintro⟨k,w1⟩ ⟨hk,hE,a1⟩;dsimp only at hk hE a1 ⊢;have h1:=h.ext hE;refine zh ?_;refine zC ?_ ?_
 ·intro a0;replace a0:k<l.length:=dT a0;refine zh ?_;refine zv (af (us:=aV (nth l k)) (fun j u hu=>h1.cell a0 hu) (Jl _) (J1 _) rfl) ?_;refine du rfl hF rfl (hq k a0 w1 hE) rfl ?_;rintro v w2 ⟨rfl,a3⟩;refine zh ?_;refine zC ?_ ?_
  ·intro hy;refine zh ?_;refine ah rfl rfl (⟨by rw[cD a0 hy a1],hE.trans a3⟩)
  intro hy;refine zh ?_;refine zxd (k+1,w2) (⟨a0,hE.trans a3,fun i hi=>(LH.1 hi).elim (a1 i) (fun e=>by rw[e];exact hy)⟩)
 intro a2;replace a2:l.length<=k:=dF a2;refine zh ?_;refine ah rfl rfl (⟨by rw[cC fun i hi=>a1 i zo],hE⟩)
theorem cQ{F:Kq}(hF:∀(args:Array ix) (w:ka),(callFunc F args).run J5 w=.ok (.enter F args) w)(cs:Array ix)(l:List (N3))(sv:ix)(q:Nat->Bool)(w:ka)(h:Sl aV 3 w sv l) 
  (hq:∀i,i<l.length->∀w',Ext w w'->Ret J5 F ([nv (nth l i)]++cs.toList) w' fun v w''=>v=.bool (q i)/\Ext w' w'') :
  Ret J5 63 [sv,.func (.func F) #[] cs] w fun v w'=>v=.bool (jc q l.length)/\Ext w w':=by
 refine Ret.enter func63 ntmps63 rfl rfl ?_;refine zh ?_
 refine zc call108 (lK hF cs l sv q w h hq) ?_;rintro v w1 ⟨rfl,hE⟩;refine zh ?_
 refine ah rfl rfl (⟨by rw[firstN_any],hE⟩)
def named(k:Int):Bool:=(k==0)||(k==2)
def least(k:Int):Int:=if k=4\/k=5 then 2 else if k=6\/k=7\/k=8 then 1 else 0
def fV(k:Int):Int:=if k=4\/k=5 then 2000 else if k=6\/k=7\/k=8 then 1 else 0
def kD(k c:Int)(n:Nat)(a0:Bool):Bool:=
 !(decide (k<0)||decide (9<k)||((k==9)&&a0))&&(!(decide ((n:Int)<least k)||decide (fV k<(n:Int))) &&
 !((named k&&(decide (c<0)||decide (36<=c)))||(!named k&&(c != 0))))
mutual
def oW:Nd->Bool->Bool | .mk k c l,wi=>kD k c l.length wi&&tD l
def tD:List Nd->Bool | []=>true|t::r=>oW t true&&tD r
end
def bO(t:Nd):Bool:=decide (nsz t<=2000)&&oW t false
theorem yr{k c:Int}{n:Nat}{wi:Bool}(h:kD k c n wi=true):
  (k=0/\n=0/\0<=c/\c<36)\/(k=1/\n=0/\c=0)\/(k=2/\n=0/\0<=c/\c<36)\/(k=3/\n=0/\c=0)\/(k=4/\2<=n/\c=0)\/(k=5/\2<=n/\c=0)\/(k=6/\n=1/\c=0)\/(k=7/\n=1/\c=0)\/(k=8/\n=1/\c=0)\/(k=9/\n=0/\c=0/\wi=false):=by
 have a0:k=0\/k=1\/k=2\/k=3\/k=4\/k=5\/k=6\/k=7\/k=8\/k=9:=by
  simp only[kD,JW,Mx,Bool.or_eq_false_iff,decide_eq_false_iff_not]at h;omega
 rcases a0 with rfl|rfl|rfl|rfl|rfl|rfl|rfl|rfl|rfl|rfl<;>simp[kD,least,fV,named]at h<;>(try simp)<;>(first|omega|(obtain⟨h1,h2⟩:=h;subst h1;simp;omega))
theorem Be:∀(l:List Nd),(!(jc (fun i=>!(oW (nth l i) true)) l.length))=tD l:=by
 intro l;rw[Bool.eq_iff_iff];rw[Mx,My,Ne,eL]
 induction l with
 |nil=>simp[tD]
 |cons t r ih=>
  simp only[tD,JW,<-ih,Jz]
  constructor
  ·intro h;refine⟨?_,fun⟨i,hi,hq⟩=>h ⟨i+1,zo,by rw[bA];exact hq⟩⟩
   cases ht:oW t true with
   |true=>rfl
   |false=>exact absurd ⟨0,zo,by rw[ay,ht];rfl⟩ h
  rintro⟨h1,h2⟩ ⟨i,hi,hq⟩
  cases i with
  |zero=>rw[ay,h1]at hq;simp at hq
  |succ i=>rw[bA]at hq;exact h2 ⟨i,zo,hq⟩
theorem CE(k:Int)(w:ka):Ret J5 138 [nI k] w fun v w'=>v=.tuple #[nI (least k),nI (fV k)]/\w'=w:=by
 refine Ret.enter func138 ntmps138 rfl rfl ?_;refine zh ?_
 by_cases h4:k=4
 ·subst h4;refine zTH rfl rfl ?_;refine zTH rfl rfl ?_;refine bx rfl rfl rfl (⟨rfl,rfl⟩)
 refine zFH rfl ((beq_eq_false_iff_ne.2 h4)) ?_
 by_cases h5:k=5
 ·subst h5;refine zTH rfl rfl ?_;refine bx rfl rfl rfl (⟨rfl,rfl⟩)
 refine zFH rfl ((beq_eq_false_iff_ne.2 h5)) ?_
 by_cases h6:k=6
 ·subst h6;refine zTH rfl rfl ?_;refine zTH rfl rfl ?_;refine bx rfl rfl rfl (⟨rfl,rfl⟩)
 refine zFH rfl ((beq_eq_false_iff_ne.2 h6)) ?_
 by_cases h7:k=7
 ·subst h7;refine zTH rfl rfl ?_;refine zTH rfl rfl ?_;refine bx rfl rfl rfl (⟨rfl,rfl⟩)
 refine zFH rfl ((beq_eq_false_iff_ne.2 h7)) ?_
 by_cases h8:k=8
 ·subst h8;refine zTH rfl rfl ?_;refine bx rfl rfl rfl (⟨rfl,rfl⟩)
 refine zFH rfl ((beq_eq_false_iff_ne.2 h8)) ?_;refine bx rfl rfl rfl (⟨by simp[least,fV,h4,h5,h6,h7,h8],rfl⟩)
theorem CX{b:Bool}{t:Nd}(ih:∀(y:N3) (W:ka),Nt (fun _=>0) W t y->Ret J5 105 [nv y,.bool true] W fun v w'=>v=.bool b/\Ext W w')(x:N3)(w:ka)(h:Nt (fun _=>0) w t x):
  Ret J5 139 [nv x] w fun v w'=>v=.bool (!b)/\Ext w w':=by
 refine Ret.enter func139 ntmps139 rfl rfl ?_;refine zh ?_
 refine aE (ar w) 1 zo rfl rfl ?_;intro xb w1 O1 a1 a3 a4 a0;refine zh ?_
 refine zv (af (us:=aV x) a1.cellsAdd (Jl _) (J1 _) rfl) ?_;refine zc call105 (ih x w1 (h.ext a0)) ?_
 rintro v w2 ⟨rfl,a2⟩;refine zh ?_;refine ah rfl rfl (⟨rfl,a0.trans a2⟩)
theorem xp:∀(n:Nat) (t:Nd),nsz t<=n->∀(x:N3) (w:ka) (a0:Bool),Nt (fun _=>0) w t x->Ret J5 105 [nv x,.bool a0] w fun v w'=>v=.bool (oW t a0)/\Ext w w'
 |0,t,hn=>by have:=dJ t;omega
 |n+1,.mk k c kids,hn=>by
  intro x w a0 h;have b1:=h.ones;obtain⟨xs,hs,hf,hl,hk⟩:=h.kids;simp only[Nd.kids]at hl hk;simp only[nsz]at hn;have hF:oW (.mk k c kids) a0=(kD k c kids.length a0&&tD kids):=rfl;rw[hF];generalize x.2.2=sv at *;subst b1;simp only[Nd.kind,Nd.cls];refine Ret.enter func105 ntmps105 rfl rfl ?_;refine zh ?_;refine aE (ar w) 1 zo rfl rfl ?_;intro xb w1 O1 a9 b4 b5 a4;have c0:w1.cell? (nA xb 0)=some (nI k):=a9.cell 0 rfl;have c1:w1.cell? (nA xb 1)=some (nI c):=a9.cell 1 rfl;have c2:w1.cell? (nA xb 2)=some sv:=a9.cell 2 rfl;have b2:=hs.ext a4;refine zh ?_;refine bN (fun w1=>_=w1) ((k==2)) 3 (rfl) rfl rfl rfl rfl rfl ?_ ?_
  ·intro a1;refine zh ?_;refine nE 11 4 (rfl) a1
  rintro _ rfl;refine zh ?_;refine zc call138 (CE k w1) ?_;rintro v w9 ⟨rfl,a'⟩;rw[a'];clear a' w9;refine zh ?_;refine bN (fun w1=>_=w1) (decide (9<k)) 3 (rfl) rfl rfl rfl rfl rfl ?_ ?_
  ·intro a2;refine zh ?_;refine nE 26 4 (rfl) a2
  rintro _ rfl;refine zh ?_;refine bN (fun w1=>_=w1) (((k==9)&&a0)) 6 (rfl) rfl rfl rfl rfl rfl ?_ ?_
  ·intro a3;refine zh ?_
   cases a7:(k==9)with
   |true=>
    refine az (d:=35) rfl (b':=true) (rfl) ?_;refine zh ?_
    refine nE 31 8 (rfl) a3
   |false=>
    refine az (d:=35) rfl (b':=false) (rfl) ?_;refine zh ?_
    refine nE 31 8 (rfl) a3
  rintro _ rfl;refine zh ?_
  cases h1:(decide (k<0)||decide (9<k)||((k==9)&&a0))with
  |true=>
   refine zTH rfl rfl ?_;refine ah rfl rfl (⟨by simp only[kD,h1];rfl,a4⟩)
  |false=>
   refine zFH rfl rfl ?_;refine bN (fun w1=>_=w1) (decide (fV k<(xs.length:Int))) 5 (rfl) rfl rfl rfl rfl rfl ?_ ?_
   ·intro a5;refine zh ?_;refine nE 45 6 (rfl) a5
   rintro _ rfl;refine zh ?_
   cases h2:(decide ((xs.length:Int)<least k)||decide (fV k<(xs.length:Int)))with
   |true=>
    refine zTH rfl rfl ?_;refine ah rfl rfl (⟨by simp only[kD,h1,hl,h2];rfl,a4⟩)
   |false=>
    refine zFH rfl rfl ?_;refine bG (fun w1=>_=w1) ((decide (c<0)||decide (36<=c))) 8 (rfl) rfl rfl rfl rfl rfl ?_ ?_
    ·intro a6;refine zh ?_
     cases a7:decide (c<0)with
     |true=>
      refine az (d:=58) rfl (b':=true) (rfl) ?_;refine zh ?_
      refine nE 54 10 (rfl) a6
     |false=>
      refine az (d:=58) rfl (b':=false) (rfl) ?_;refine zh ?_
      refine nE 54 10 (rfl) a6
    rintro _ rfl;refine zh ?_;refine bN (fun w1=>_=w1) ((!((k==0)||(k==2))&&(c != 0))) 7 (rfl) rfl rfl rfl rfl rfl ?_ ?_
    ·intro a8;refine zh ?_
     cases a7:((k==0)||(k==2))with
     |true=>
      rw[a7]at a8;refine az (d:=67) rfl (b':=false) (rfl) ?_;refine zh ?_;refine nE 64 9 (rfl) a8
     |false=>
      rw[a7]at a8;refine az (d:=67) rfl (b':=true) (rfl) ?_;refine zh ?_;refine nE 64 9 (rfl) a8
    rintro _ rfl;refine zh ?_
    cases h3:(((((k==0)||(k==2))&&(decide (c<0)||decide (36<=c))))||(!((k==0)||(k==2))&&(c != 0)))with
    |true=>
     refine zTH rfl rfl ?_;refine ah rfl rfl (⟨by simp only[kD,h1,hl,h2,named,h3];rfl,a4⟩)
    |false=>
     refine zFH rfl rfl ?_;refine zc call63 (cQ call139 #[] xs sv (fun i=>!(oW (nth kids i) true)) w1 b2 (fun i hi w' hE=>CX (fun y W hy=>xp n (nth kids i) (by have:=cu kids i (zo);omega) y W true hy) (nth xs i) w' ((hk i hi).ext (a4.trans hE)))) ?_
     rintro v w2 ⟨rfl,b3⟩;refine zh ?_;have b0:=Be kids;rw[hl]at b0;refine ah rfl rfl (⟨by rw[b0];simp only[kD,h1,hl,h2,named,h3];rfl,a4.trans b3⟩)
theorem fD(t:Nd)(x:N3)(w:ka)(h:Nt (fun _=>0) w t x):Ret J5 61 [nv x] w fun v w'=>v=.bool (bO t)/\Ext w w':=by
 have hx:=h.ones;refine Ret.enter func61 ntmps61 rfl rfl ?_;refine zh ?_;refine aE (ar w) 1 zo rfl rfl ?_;intro xb w1 O1 a5 a6 a7 a3;have a4:∀W,Ext w1 W->∀(j:Nat) (u:ix),(aV x)[j]? = some u->W.cell? (nA xb j)=some u:=fun W hE j u hu=>hE.cell (a5.cellsAdd j u hu)
 refine zh ?_;refine zv (af (us:=aV x) (a4 w1 (Ext.refl _)) (Jl _) (J1 _) rfl) ?_
 refine zc call104 (qw (nsz t) t (J4 _) x w1 2000 (h.ext a3) zo) ?_;rintro v w2 ⟨rfl,a0⟩;have hd:decide (((min (nsz t) (2000+1):Nat):Int)<=2000)=decide (nsz t<=2000):=decide_eq_decide.2 zo;refine zh ?_
 rw[hd];refine bG (Ext w1) (oW t false) 2 (a0) rfl rfl rfl rfl rfl ?_ ?_
 ·intro a1;refine zh ?_;refine zvH (af (us:=aV x) (a4 _ a0) (Jl _) (J1 _) rfl) ?_;refine zc call105 (xp (nsz t) t (J4 _) x _ false (h.ext (a3.trans a0))) ?_;rintro v w3 ⟨rfl,a2⟩;refine zh ?_;refine nE 6 3 (a0.trans a2) a1
 intro w3 a2;refine zh ?_;refine ah rfl rfl (⟨rfl,a3.trans a2⟩)
end
section
open Go.VL Go.Proofs
set_option maxRecDepth 10000
def Cz(s:List UInt8)(m:List UInt8×Nd):Bool:=(m.1==s&&bO m.2)&&(m.2.kind != 9)
def gC(kn:Kn)(r:List UInt8):PR:=
 if r.takeWhile ak=[97,110,121]then .ok (.mk 1 0 []) (r.dropWhile ak)
 else match kn.reverse.find? (Cz (r.takeWhile ak))with
  |some m=>.ok m.2 (r.dropWhile ak)
  |none=>dD 0 r
def jb(kn:Kn)(al:Option (List UInt8->PR))(r0:List UInt8):PR:=
 if ak ((au r0).headD 0)=true then gC kn (au r0)
 else if(au r0).headD 0=126 then dD 2 (au r0).tail
 else if(au r0).headD 0=94 then .ok (.mk 3 0 []) (au r0).tail
 else if(au r0).headD 0=40 then cc al (au r0)
 else .bad (au r0).length 4
def eU(kn:Kn)(al:Option (List UInt8->PR))(r0:List UInt8):PR:=
 match jb kn al r0 with
 |.bad p e=>.bad p e
 |.ok t r1=>
  match opM ((au r1).headD 0)with
  |some k=>.ok (.mk (6+(k:Nat)) 0 [t]) (au r1).tail
  |none=>.ok t (au r1)
def dj(kn:Kn)(al:Option (List UInt8->PR)):Nat->List Nd->List UInt8->PR
 |0,acc,r=>.ok (oneM 4 acc) r
 |n+1,acc,r=>
  if fj ((au r).headD 0)=true then
   match eU kn al (au r)with
   |.bad p e=>.bad p e
   |.ok t r2=>dj kn al n (acc++[t]) r2
  else .ok (oneM 4 acc) (au r)
def BZ(kn:Kn)(al:Option (List UInt8->PR))(r:List UInt8):PR:=
 match eU kn al r with
 |.bad p e=>.bad p e
 |.ok t r1=>dj kn al (r1.length+1) [t] r1
def cM(kn:Kn)(al:Option (List UInt8->PR)):Nat->List Nd->List UInt8->PR
 |0,acc,r=>.ok (oneM 5 acc) r
 |n+1,acc,r=>
  if(au r).headD 0=124 then
   match BZ kn al (au r).tail with
   |.bad p e=>.bad p e
   |.ok t r2=>cM kn al n (acc++[t]) r2
  else .ok (oneM 5 acc) (au r)
def oh(kn:Kn)(al:Option (List UInt8->PR))(r:List UInt8):PR:=
 match BZ kn al r with
 |.bad p e=>.bad p e
 |.ok t r1=>cM kn al (r1.length+1) [t] r1
def vx(kn:Kn):Nat->List UInt8->PR
 |0=>oh kn none
 |d+1=>oh kn (some (vx kn d))
def fh(kn:Kn)(l:List UInt8):XR:=
 if 4096<l.length then .bad 0 3 else
 match vx kn 20 l with
 |.bad p e=>.bad (l.length-p) e
 |.ok t r=>if(au r).length≠0 then .bad (l.length-(au r).length) 4 else if 2000<nsz t then .bad 0 3 else .ok t
variable{kn:Kn}
theorem uT(r:List UInt8)(h:ak (r.headD 0)=true):Good r (gC kn r):=by
 unfold gC
 split
 ·exact jF h
 split
 ·exact jF h
 exact nX _ _
theorem qg{al:Option (List UInt8->PR)}(ha:mK al)(r:List UInt8):Good r (jb kn al r):=by
 refine Good.mono ?_ (aW r);unfold jb
 split
 ·rename_i h;exact uT _ h
 split
 ·rename_i h;obtain⟨g1,g2⟩:=bY (r:=au r) (by rw[h];decide);exact(nX _ _).mono g1
 split
 ·rename_i h;obtain⟨g1,g2⟩:=bY (r:=au r) (by rw[h];decide);exact⟨g1,zo⟩
 split
 ·rename_i h;exact oY ha _ (by rw[h];decide)
 exact⟨J4 _,zd⟩
theorem gd{al:Option (List UInt8->PR)}(ha:mK al)(r:List UInt8):Good r (eU kn al r):=by
 have h:=qg (kn:=kn) ha r;unfold eU
 cases hf:jb kn al r with
 |bad p e=>rw[hf]at h;exact h
 |ok t r1=>
  rw[hf]at h;have h2:=dh r1;dsimp only
  split
  ·rename_i k hk;obtain⟨g1,g2⟩:=bY (Dn hk);exact⟨(g1.trans (aW r1)).trans h.1,by have:=h.2;omega⟩
  exact⟨(aW r1).trans h.1,by have:=h.2;omega⟩
theorem jW{al:Option (List UInt8->PR)}(ha:mK al):∀(n:Nat) (a0:List Nd) (r:List UInt8),GY r (dj kn al n a0 r)
 |0,a0,r=>MD r
 |n+1,a0,r=>by
  unfold dj
  split
  ·have h:=(gd (kn:=kn) ha (au r)).mono (aW r)
   cases hf:eU kn al (au r)with
   |bad p e=>rw[hf]at h;exact h
   |ok t r2=>
    rw[hf]at h;have ih:=jW ha n (a0++[t]) r2;dsimp only
    cases hq:dj kn al n (a0++[t]) r2 with
    |bad p e=>rw[hq]at ih;exact⟨by have:=ih.1;have:=h.2;omega,ih.2⟩
    |ok t r3=>rw[hq]at ih;exact Kh ih h.1
  exact aW r
theorem jX{al:Option (List UInt8->PR)}(ha:mK al)(r:List UInt8):Good r (BZ kn al r):=by
 have h:=gd (kn:=kn) ha r;unfold BZ
 cases hf:eU kn al r with
 |bad p e=>rw[hf]at h;exact h
 |ok t r1=>
  rw[hf]at h;have ih:=jW (kn:=kn) ha (r1.length+1) [t] r1;dsimp only
  cases hq:dj kn al (r1.length+1) [t] r1 with
  |bad p e=>rw[hq]at ih;exact⟨by have:=ih.1;have:=h.2;omega,ih.2⟩
  |ok t r3=>rw[hq]at ih;exact⟨Kh ih h.1,by have:=L9 ih;have:=h.2;omega⟩
theorem jo{al:Option (List UInt8->PR)}(ha:mK al):∀(n:Nat) (a0:List Nd) (r:List UInt8),GY r (cM kn al n a0 r)
 |0,a0,r=>MD r
 |n+1,a0,r=>by
  unfold cM
  split
  ·rename_i hc;obtain⟨g1,g2⟩:=bY (r:=au r) (by rw[hc];decide);have h:=((jX (kn:=kn) ha (au r).tail).mono g1).mono (aW r)
   cases hf:BZ kn al (au r).tail with
   |bad p e=>rw[hf]at h;exact h
   |ok t r2=>
    rw[hf]at h;have ih:=jo ha n (a0++[t]) r2;dsimp only
    cases hq:cM kn al n (a0++[t]) r2 with
    |bad p e=>rw[hq]at ih;exact⟨by have:=ih.1;have:=h.2;omega,ih.2⟩
    |ok t r3=>rw[hq]at ih;exact Kh ih h.1
  exact aW r
theorem og{al:Option (List UInt8->PR)}(ha:mK al)(r:List UInt8):Good r (oh kn al r):=by
 have h:=jX (kn:=kn) ha r;unfold oh
 cases hf:BZ kn al r with
 |bad p e=>rw[hf]at h;exact h
 |ok t r1=>
  rw[hf]at h;have ih:=jo (kn:=kn) ha (r1.length+1) [t] r1;dsimp only
  cases hq:cM kn al (r1.length+1) [t] r1 with
  |bad p e=>rw[hq]at ih;exact⟨by have:=ih.1;have:=h.2;omega,ih.2⟩
  |ok t r3=>rw[hq]at ih;exact⟨Kh ih h.1,by have:=L9 ih;have:=h.2;omega⟩
theorem iT:∀(d:Nat) (r:List UInt8),Good r (vx kn d r)
 |0,r=>og (fun f e=>by cases e) r
 |d+1,r=>og (fun f e r=>by cases e;exact iT d r) r
theorem uR{r:List UInt8}{m:List UInt8×Nd}(ha:¬r.takeWhile ak=[97,110,121])(h:kn.reverse.find? (Cz (r.takeWhile ak))=some m):gC kn r=.ok m.2 (r.dropWhile ak):=by
 unfold gC;rw[if_neg ha,h]
theorem uS{r:List UInt8}(ha:¬r.takeWhile ak=[97,110,121])(h:kn.reverse.find? (Cz (r.takeWhile ak))=none):gC kn r=dD 0 r:=by
 unfold gC;rw[if_neg ha,h]
end
end Go.Proofs.YtjemhjcngaokpaaGreatDoor
namespace Go.VL
open Go.Proofs.Tryz
section
open Go.RowKit
section
variable{P:J7}{N:Nat}{ro:Option Nat}{ds:List JP}{Q:JF→JT→ka→Prop}{st:St}{w:ka}
theorem yS{ops:Array Jn}{a1:List Jn}{t:ln}{p:String}{e:Array Kb}{d:Nat}{x y z:J3}{a3:Array ln}{l:Nat}{u u2:ix}{R:Ending->ka->Prop} 
  (hx:ev st x=some (.func (.yield l) #[] #[])) (hy:ev st y=some u) (hz:ev st z=some u2) (hc:YieldAt Jy 0 P l #[u,u2] w R) (hd:J0 d N=true)
  (hR:∀e w',R e w'->∃v,e=.returned v)
  (h:∀v w',R (.returned v) w'->WLI none P N ds ops Q a1 ((d,v)::st) w'):WLI none P N ds ops Q (⟨some d,.call ⟨.value x,#[y,z],a3⟩,t,p,e,none⟩::a1) st w:=by
 intro a ha;unfold wpListIn;rw[if_pos (bR rfl _)];refine⟨fun _ _=>trivial,?_⟩;obtain⟨fn,a0,assign,body,a4,hr⟩:=hc;have a2:(Oper.semAt (Fr none).round ({ a with defers:=ds }:JT).eval ⟨some d,.call ⟨.value x,#[y,z],a3⟩,t,p,e,none⟩).run P w=.ok (.round l fn a0 assign body) w:=by
  rw[jI];rw[show(Fr none).round=none from rfl,Oper.semAt_none];simp only[execOp,resolve,J9,Jm,JB,ha.ev hx,ha.ev hy,ha.ev hz];simp[JS,invoke,a4]
 rw[a2];refine⟨fun hh=>by simp[Jy]at hh,?_⟩;refine NC (hr:RoundIn Jy _ P l fn a0 assign body w _) ?_;intro e' w' q;obtain⟨v,rfl⟩:=hR _ _ q;have:=h v w' q _ (ha.put hd v);simpa[KF]using this
end
def GW{α:Type}(P:J7)(gf:Nat)(lb:List ix)(ex:Nat->ix)(enc:α->ix)(xs:List α)(Rd:ka->Prop):Prop:=
 ∀(l:Nat) (J:Nat->ka->Prop) (Jx:ka->Prop) (W:ka),(∀i W,J i W->Rd W)->(∀i W W',J i W->Ext W W'->J i W')->
  (∀i (hi:i<xs.length) W W',J i W->Ext W W'->YieldAt Jy 0 P l #[ex i,enc xs[i]] W' fun e W2=>((e=.returned (.bool true)/\J (i+1) W2)\/(e=.returned (.bool false)/\Jx W2))/\∀b,W.heap.size<=b->b<W'.heap.size->W2.heap[b]? = W'.heap[b]?)->
  J 0 W->Ret P gf (.func (.yield l) #[] #[]::lb) W fun _ W'=>J xs.length W'\/Jx W'
theorem rI{P:J7}{N:Nat}{ds:List JP}{Q:JF->JT->ka->Prop}{st:St}{w:ka}{α:Type}{g:J3}{p0 p1 d0:Nat}{T:ln}{id:Nat}{e1 e2:Array Kb}{q1 q2:String}{t1 t2:ln}{body:Kf} 
  {gf:Nat} {lb:List ix} {ex:Nat->ix} {enc:α->ix} {xs:List α} {Rd:ka->Prop}
  (hg:ev st g=some (.func (.func gf) #[] lb.toArray)) (eg:∀args w,(callFunc gf args).run P w=.ok (.enter gf args) w) (it:GW P gf lb ex enc xs Rd)
  (e':J0 p0 N=true) (e9:J0 p1 N=true) (f7:J0 d0 N=true) {z:ix} (hz:∀W:ka,(Ki T).run P W=.ok z W) 
  {B:Nat} {O:Nat->Nat} (r:Rng B O w) (L K:Nat) (hL:L≠0) (hK:K≠0) (d3:L≠K)
  (b0:∀(W:ka) (O':Nat->Nat) (b:Nat) (y:ix) (x:α) (_:x∈xs) (ops:Array Jn) (Q':JF->JT->ka->Prop),BlkO O' W K b z.cells T->
   (∀w2,BlkO O' w2 K b (enc x).cells T->Upd (fun j=>j=K) O' W O' w2->WL P N ops Q' [] ((d0,nP b)::(p1,enc x)::(p0,y)::st) w2)->
   WL P N ops Q' [⟨none,.store T (.tmp d0) (.tmp p1),t2,q2,e2,none⟩] ((d0,nP b)::(p1,enc x)::(p0,y)::st) W)
  (I:Nat->(Nat->Nat)->ka->Prop) (Ix:Kf->(Nat->Nat)->ka->Prop)
  (hI:∀i O W O' W',I i O W->Upd (fun j=>j=L\/j=K) O W O' W'->I i O' W') (d4:∀c O W O' W',Ix c O W->Upd (fun j=>j=L) O W O' W'->Ix c O' W')
  (g1:∀i O W,I i O W->Rd W) (h0:I 0 O w)
  (b6:∀l i (hi:i<xs.length) b O' W,Rng B O' W->I i O' W->BlkO O' W K b (enc xs[i]).cells T->
   WI (some l) P N [] body (Aa O' W L (I (i+1)) Ix) ((d0,nP b)::(p1,enc xs[i])::(p0,ex i)::st) W)
  (b5:∀D O' W,Rng B O' W->O' D=L->I xs.length O' W->W.heap[D]? = some (.deferred (some []))->QI N ({ target:=.collected D,args:=#[] }::ds) Q .normal st W)
  (hstop:∀D c O' W,Rng B O' W->O' D=L->Ix c O' W->W.heap[D]? = some (.deferred (some []))->WI none P N ({ target:=.collected D,args:=#[] }::ds) c Q st W) :
  WI none P N ds (.rangeFunc g #[p0,p1] (.region id #[⟨some d0,.alloc T,t1,q1,e1,none⟩,⟨none,.store T (.tmp d0) (.tmp p1),t2,q2,e2,none⟩] false) body) Q st w:=by
 intro a ha;refine wpIn_rangeFunc ?_;intro fn g7;rw[show(Fr none).round=none from rfl];obtain⟨D,hD⟩:∃D,D=w.heap.size:=⟨_,rfl⟩
 obtain⟨e8,b8⟩:∃c,c=KE id #[⟨some d0,.alloc T,t1,q1,e1,none⟩,⟨none,.store T (.tmp d0) (.tmp p1),t2,q2,e2,none⟩] false:=⟨_,rfl⟩
 rw[<-b8];obtain⟨a5,a2⟩:∃a5:LoopState->Option Kf->Loop,a5=fun st pe=>{ state:=st,pending:=pe,fn,tmps:=a.tmps,params:=#[p0,p1],assign:=e8,body,defers:=D }:=⟨_,rfl⟩
 obtain⟨W1,b'⟩:∃W1,(w.alloc (.deferred (some []))).alloc (.loop (a5 .ready none))=W1:=⟨_,rfl⟩
 obtain⟨O1,d2⟩:∃O1,lB (lB O D L) (D+1) L=O1:=⟨_,rfl⟩
 have d6:¬(fun j=>j=L) 0:=fun e=>hL e.symm
 have e5:Upd (fun j=>j=L) O w (lB O D L) (w.alloc (.deferred (some []))):=by rw[hD];exact Upd.alloc d6 r _ L
 have e6:Upd (fun j=>j=L) O w O1 W1:=by
  rw[<-b',<-d2];refine e5.trans ?_;have:=Upd.alloc (S:=fun j=>j=L) d6 (r.upd e5) (.loop (a5 .ready none)) L
  rwa[Mt,<-hD]at this
 have g2:Rng B O1 W1:=r.upd e6;have g3:W1.heap[D+1]? = some (.loop (a5 .ready none)):=by
  rw[<-b',hD];have:=LP (w.alloc (.deferred (some []))) (.loop (a5 .ready none));rwa[Mt]at this
 have g4:W1.heap[D]? = some (.deferred (some [])):=by
  rw[<-b',hD];exact(Below.heap_alloc _ _ _ (by simp)).trans (LP w _)
 have hO1D:O1 D=L:=by rw[<-d2];unfold lB;rw[if_neg zo,if_pos rfl]
 have hO1L:O1 (D+1)=L:=by rw[<-d2];exact ed _ _ _
 have g5:I 0 O1 W1:=hI _ _ _ _ _ h0 (e6.mono (fun _ h=>.inl h) (by rintro(h|h);exact hL h.symm;exact hK h.symm))
 refine⟨D+1,[{ target:=.collected D,args:=#[] }],W1,{ target:=.fn (.func gf) lb.toArray,args:=#[.func (.yield (D+1)) #[] #[]] },W1,gf,
  #[.func (.yield (D+1)) #[] #[]]++lb.toArray,W1,?_,?_,fun _ _=>trivial,?_,fun hh=>by simp[Jy]at hh,?_⟩
 ·rw[<-b',a2,hD];exact run_enterLoop_outer _ _ _ _ _
 ·simp only[resolve,ha.evD hg ds];simp[go_sem]
 ·simp[invoke,go_sem,eg]
 have hJ:=it (D+1)
  (fun i W=>∃O',Rng B O' W/\O' D=L/\O' (D+1)=L/\I i O' W/\W.heap[D+1]? = some (.loop (a5 .ready none))/\W.heap[D]? = some (.deferred (some [])))
  (fun W=>∃c O',Rng B O' W/\O' D=L/\O' (D+1)=L/\Ix c O' W/\W.heap[D+1]? = some (.loop (a5 .done (some c)))/\W.heap[D]? = some (.deferred (some [])))
  W1 (fun i W ⟨O',_,_,_,h,_⟩=>g1 i O' W h) (fun i W W' ⟨O',h1,h2,h3,h4,h5,h6⟩ hE=>⟨O',h1.ext hE,h2,h3,hI _ _ _ _ _ h4 (aa (by rintro(h|h);exact hL h.symm;exact hK h.symm) _ hE),(hE.block _ (bq h5)).trans h5,(hE.block _ (bq h6)).trans h6⟩) ?_ ⟨O1,g2,hO1D,hO1L,g5,g3,g4⟩
 ·unfold Ret at hJ;rw[show(Value.func (.yield (D+1)) #[] #[]::lb).toArray = #[.func (.yield (D+1)) #[] #[]]++lb.toArray from by simp]at hJ;refine MO (callsIn_wide.2 hJ:CallsIn Jy _ P gf _ W1 _) ?_;rintro e W2 q
  cases e with
  |returned v=>
   rcases q with⟨O',a7,b2,b1,hi,hl,hk⟩|⟨c,O',a7,b2,b1,hi,hl,hk⟩
   ·refine⟨none,_,by have:=run_endLoop (P:=P) hl (by rw[a2];simp);rw[a2]at this;exact this,?_⟩;have b3:=Upd.putObj hL b1 (w:=W2) (.loop { a5 .ready none with state:=.exhausted });rw[a2]at b3;have:=b5 D O' _ (a7.upd b3) b2 (hI _ _ _ _ _ hi (b3.mono (fun _ h=>.inl h) (by rintro(h|h);exact hL h.symm;exact hK h.symm))) ((JE zo).trans hk) a ha;exact this
   refine⟨some c,_,by have:=run_endLoop (P:=P) hl (by rw[a2];simp);rw[a2]at this;exact this,?_⟩;have b3:=Upd.putObj hL b1 (w:=W2) (.loop { a5 .done (some c)with state:=.exhausted });rw[a2]at b3;exact hstop D c O' _ (a7.upd b3) b2 (d4 _ _ _ _ _ hi b3) ((JE zo).trans hk) a ha
  |panicked c=>exact q.elim
  |outgrown=>exact q.elim
 rintro i hi W0 W ⟨O',e7,b2,b1,c8,c7,e0⟩ c5;have a7:=e7.ext c5;have f6:=hI _ _ _ _ _ c8 (aa (S:=fun j=>j=L\/j=K) (by rintro(h|h);exact hL h.symm;exact hK h.symm) O' c5);have hl:=(c5.block _ (bq c7)).trans c7;have hk:=(c5.block _ (bq e0)).trans e0;have g6:=bq c7;have hy:=run_yield (P:=P) (args:=#[ex i,enc xs[i]]) hl (by rw[a2];rfl);rw[a2]at hy;refine⟨fn,_,e8,body,hy,roundIn_of_wpIn trivial ?_⟩;have c9:Fits N ((a.put (some p0) (ex i)).put (some p1) (enc xs[i])) ((p1,enc xs[i])::(p0,ex i)::st):=(ha.put e' _).put e9 _;have d1:({ tmps:=(#[p0,p1].zip #[ex i,enc xs[i]]).foldl (fun tmps (t,a)=>tmps.setIfInBounds t a) a.tmps,defers:=[] }:JT) = { (a.put (some p0) (ex i)).put (some p1) (enc xs[i])with defers:=[] }:=by simp[KF]
 rw[d1];rw[b8];refine(WI.region (ro:=some (D+1)) (ds:=[]) (P:=P) (N:=N) (.inr rfl) (fun _ _ h=>h) ?_:WI (some (D+1)) P N [] _ _ ((p1,enc xs[i])::(p0,ex i)::st) W) _ c9;refine aw a7 K hK (hz W) f7 ?_;intro b w1 O2 hb g0 g9 g';refine b0 w1 O2 b (ex i) xs[i] (K7 hi) _ _ hb ?_;intro w2 b7 f';refine WL.nil (QF.dn ?_);intro a3 f9;have c6:D+1<W.heap.size:=(Kz.1 hl).1;have b9:Upd (fun j=>j=K) O' W O2 w2:=g0.trans f';have d9:w2.heap[D+1]? = some (.loop (a5 .ready none)):=(b9.blk (D+1) c6 (by rw[b1];exact d3)).trans hl;have f5:w2.heap[D]? = some (.deferred (some [])):=(b9.blk D zo (by rw[b2];exact d3)).trans hk;have ho2L:O2 (D+1)=L:=(b9.tag (D+1) (by rw[b1];exact hL)).trans b1;have ho2D:O2 D=L:=(b9.tag D (by rw[b2];exact hL)).trans b2;refine⟨_,run_beginRound d9 (by rw[a2]),?_⟩;have e4:=Upd.putObj hL ho2L (w:=w2) (.loop { a5 .ready none with state:=.busy });have a':¬(fun j=>j=L\/j=K) 0:=by rintro(h|h);exact hL h.symm;exact hK h.symm
 have a1:Upd (fun j=>j=L\/j=K) O' W O2 (w2.putObj (D+1) (.loop { a5 .ready none with state:=.busy })):=(b9.mono (fun _ h=>.inr h) a').trans (e4.mono (fun _ h=>.inl h) a');have d8:(w2.putObj (D+1) (.loop { a5 .ready none with state:=.busy })).heap[D+1]? = some (.loop { a5 .ready none with state:=.busy }):=LG (bq d9);have d':(w2.putObj (D+1) (.loop { a5 .ready none with state:=.busy })).heap[D]? = some (.deferred (some [])):=(JE zo).trans f5;have c':=b6 (D+1) i hi b O2 _ (a7.upd a1) (hI _ _ _ _ _ f6 a1) (b7.upd e4 hK (fun e=>d3 e.symm)) a3 f9;generalize w2.putObj (D+1) (.loop { a5 .ready none with state:=.busy })=w3 at *;refine wpIn_mono c' ?_;have d5:∀(a0:Option Kf) (O4:Nat->Nat) (w4:ka),Upd (fun j=>j≠0/\j≠L) O2 w3 O4 w4->
   (Instr.endRound (D+1) a0).run P w4=.ok (.bool a0.isNone) (w4.putObj (D+1) (.loop (a5 (if a0.isNone then .ready else .done) a0)))/\
   Upd (fun j=>j=L) O4 w4 O4 (w4.putObj (D+1) (.loop (a5 (if a0.isNone then .ready else .done) a0)))/\O4 D=L/\O4 (D+1)=L/\
   (w4.putObj (D+1) (.loop (a5 (if a0.isNone then .ready else .done) a0))).heap[D+1]? = some (.loop (a5 (if a0.isNone then .ready else .done) a0))/\
   (w4.putObj (D+1) (.loop (a5 (if a0.isNone then .ready else .done) a0))).heap[D]? = some (.deferred (some [])):=by
  intro a0 O4 w4 a6;have d7:=(a6.blk (D+1) (bq d8) (by rw[ho2L];exact fun h=>h.2 rfl)).trans d8;have f4:=(a6.blk D (bq d') (by rw[ho2D];exact fun h=>h.2 rfl)).trans d';have ho4D:O4 D=L:=(a6.tag D (by rw[ho2D];exact hL)).trans ho2D;have ho4L:O4 (D+1)=L:=(a6.tag (D+1) (by rw[ho2L];exact hL)).trans ho2L;have:=run_endRound (P:=P) a0 d7;rw[a2]at this ⊢;exact⟨this,Upd.putObj hL ho4L _,ho4D,ho4L,LG (bq d7),(JE zo).trans f4⟩
 have a9:∀(O4:Nat->Nat) (w4:ka) (o:Obj),Upd (fun j=>j≠0/\j≠L) O2 w3 O4 w4->∀b,W0.heap.size<=b->b<W.heap.size->(w4.putObj (D+1) o).heap[b]? = W.heap[b]?:=by
  intro O4 w4 o a6 b g8 b7;have e3:O' b=0:=Jh fun f3=>by have:=(e7.rng b f3).2;omega
  have f8:=a1.zero b7 e3;have e1:=a1.blk b b7 (by rw[e3];rintro(h|h);exact hL h.symm;exact hK h.symm);have e2:=a6.blk b (K1 b7 a1.size) (by rw[f8];exact fun h=>h.1 rfl);rw[JE zo,e2,e1]
 rintro e a4 w4 q
 cases e with
 |normal=>
  obtain⟨O4,a6,b4⟩:=q;obtain⟨hr,a8,h1,h2,h3,h4⟩:=d5 none O4 w4 a6;exact⟨_,_,hr,.inl ⟨rfl,O4,((a7.upd a1).upd a6).upd a8,h1,h2,hI _ _ _ _ _ b4 (a8.mono (fun _ h=>.inl h) a'),h3,h4⟩,a9 O4 w4 _ a6⟩
 |ret=>
  obtain⟨O4,a6,b4⟩:=q;obtain⟨hr,a8,h1,h2,h3,h4⟩:=d5 (some .ret) O4 w4 a6;exact⟨_,_,hr,.inr ⟨rfl,.ret,O4,((a7.upd a1).upd a6).upd a8,h1,h2,d4 _ _ _ _ _ b4 a8,h3,h4⟩,a9 O4 w4 _ a6⟩
 |exit id'=>
  obtain⟨O4,a6,b4⟩:=q;obtain⟨hr,a8,h1,h2,h3,h4⟩:=d5 (some (.exit id')) O4 w4 a6;exact⟨_,_,hr,.inr ⟨rfl,.exit id',O4,((a7.upd a1).upd a6).upd a8,h1,h2,d4 _ _ _ _ _ b4 a8,h3,h4⟩,a9 O4 w4 _ a6⟩
 |_=>exact q.elim
end
end Go.VL
section
namespace Go.VL
open Go.Proofs.Tryz
section
variable{P:J7}{N:Nat}{ops:Array Jn}{Q:JF→JT→ka→Prop}{rest:List Jn}{st:St}{w:ka}
variable{t:ln}{p:String}{e:Array Kb}{d:Nat}{x y z:J3}
theorem bK{T E:ln}{sz a0:Nat}(he:Elem P T E sz a0){α:Type}{enc:α->List ix}{B:Nat}{O:Nat->Nat}(r:Rng B O w)(i:Nat)(a6:i≠0)(u:α){xv:ix}(hx:ev st x=some xv)(a2:xv.cells.toList=enc u)(a3:(enc u).length=sz)(hs:sz<=16777216)(hd:J0 d N=true) 
  (h:∀v w' O',RowT enc E sz O' w' i v [u]->Upd (fun k=>k=i) O w O' w'->Rng B O' w'->WL P N ops Q rest ((d,v)::st) w'):WL P N ops Q (⟨some d,.buildSlice T 1 #[(0,x)],t,p,e,none⟩::rest) st w:=by
 obtain⟨a4,z,hi,hz,a1,a9,a8⟩:=he.parts;have a7:xv.cells.size=sz:=by rw[<-a3,<-a2];simp
 have a5:=he.pos;have u1:=Upd.alloc (S:=fun k=>k=i) (fun e=>a6 e.symm) r (.cells xv.cells E) i;refine WL.val (v:=.slice (some ⟨w.heap.size,0,none⟩) 1 1) (w':=w.alloc (.cells xv.cells E)) hd (fun a ha=>?_) (h _ _ (lB O w.heap.size i) ⟨⟨?_,fun g hg=>?_⟩,fun c hc=>by rw[JM.1 hc];exact a3⟩ u1 (r.upd u1))
 ·have:=run_buildSlice (P:=P) w T E 1 #[(0,xv)] xv.cells a4 z he.ht hi hz (by rw[a1];omega) (by rw[a1];omega) (by
   rw[a1]
   exact kI a7 (by simp))
  simp only[execOp,J9,Jm,JB,ha.ev hx,J8,this,J2];rfl
 ·have:=Me (base:=0) (size:=sz) (e:=E) w xv.cells 1 (JJ _) (by simp[maxLen]) zo;simpa[a2]using this
 simp[KR]at hg;subst hg;exact ed _ _ _
end
section
variable{P:J7}{N:Nat}{st:St}{w:ka}{fn:MZ}{R:ix→ka→Prop}
theorem iE{t:Nh}{T:ln}{q:JL}{us:List ix}(hr:fn.results = #[.cell t T])(hv:cA st t=some (.pointer (some q))) 
  (hc:∀j u,us[j]? = some u->w.cell? (q.add j)=some u) (hT:(Md T).run P w=.ok true w) (hn:(JI T).run P w=.ok us.length w) (h:R (.agg us.toArray) w):Leave P N fn R [] st w:=
 Leave.nil (fun a ha=>by have h1:=ha.get _ _ hv;simp[results,hr,J6,h1,asAddr,dk hc hT hn]) h
end
end Go.VL
namespace Go.Proofs.YtjemhjcngaokpaaGreatDoor
open Go.Proofs.Tryz
open Go.VL Go.Proofs
set_option maxRecDepth 10000
theorem elM:Elem J5 126 226 4 56:=⟨Ma,by kernel_rfl,zd⟩
theorem tV(q:Option JL)(n c:Nat)(w:ka):Ret J5 208 [.slice q n c] w fun v w'=>∃b,v=.func (.func 209) #[] #[nP b]/\w'.cell? ⟨b,0,none⟩=some (.slice q n c)/\w.heap.size<=b/\Ext w w':=by
 refine Ret.enter func208 ntmps208 rfl rfl ?_;refine zh ?_
 refine aE (ar w) 1 zo rfl rfl ?_;intro b w1 O1 hb a2 a0 a1;refine zh ?_
 refine zvH (dw rfl rfl) ?_;refine ah rfl rfl (⟨b,rfl,hb.cell 0 rfl,(a0.rng b (by rw[hb.tag];decide)).1,a1⟩)
theorem Ab{α:Type}[Inhabited α]{l:List α}{i:Nat}(h:i<l.reverse.length):l.reverse[i]=nth l (l.length-1-i):=by
 rw[K9]at h;rw[List.getElem_reverse,aB zo]
theorem oZ(kv:ix)(ms:List M3)(b:Nat):GW J5 209 [nP b] (fun i=>nI ((ms.length:Int)-1-(i:Int))) (fun m:M3=>.agg (lf m).toArray) ms.reverse (fun W=>W.cell? ⟨b,0,none⟩=some kv/\Sl lf 4 W kv ms):=by
 intro lp J Jx W a3 a9 hY h0;obtain⟨a8,a4⟩:=a3 _ _ h0;have a6:=a4.len_le;have a5:ms.reverse.length=ms.length:=K9;refine ql func209 ntmps209 rfl rfl ?_;refine WI.seq ?_;refine WI.region (.inl rfl) (fun _ _ h=>h) ?_;refine zh ?_;refine QF.dn ?_;refine aU ?_;refine WI.block ?_;refine WI.loop (fun x:Nat×ka×Int=>[(0,.func (.yield lp) #[] #[]),(1,nP b),(3,nI x.2.2)]) (fun x:Nat×ka×Int=>x.2.1) (fun x:Nat×ka×Int=>x.1<=ms.length/\J x.1 x.2.1/\x.2.2=(ms.length:Int)-1-(x.1:Nat)) (fun x:Nat×ka×Int=>ms.length-x.1) (0,W,(ms.length:Int)-1) (⟨JJ _,h0,by dsimp only;omega⟩) ⟨rfl,rfl,rfl,trivial⟩ rfl ?_;rintro⟨i,w1,z⟩ ⟨hi,hJ,hz⟩;dsimp only at hi hJ hz ⊢;subst hz;obtain⟨hb,hs⟩:=a3 _ _ hJ;refine WI.seq ?_;refine WI.seq ?_;refine WI.region (.inl rfl) (fun _ _ h=>h) ?_;refine zh ?_;refine QF.dn ?_;refine aU ?_;refine WI.cond rfl ?_ ?_
 ·intro a0;replace a0:i<ms.length:=dT a0;have hy:=hY i zo w1 w1 hJ (Ext.refl _);rw[Ab]at hy;dsimp only at hy;refine WI.skip ?_;refine aU ?_;refine WI.seq ?_;refine WI.block ?_;refine WI.seq ?_;refine vB 6 (.inl rfl) (fun _ _ h=>h) ?_;refine zh ?_;refine zv (RV.indexAddr hs Ma (Mc _) rfl rfl (ms.length-1-i) zo zo) ?_;refine zvH (af (us:=lf (nth ms (ms.length-1-i))) (fun j u hu=>hs.cell zo hu) (isAgg226 _) (Mc _) rfl) ?_;refine QF.dn (QI.list ?_);refine yS rfl rfl rfl (hy) rfl (by rintro e w' ⟨⟨rfl,_⟩|⟨rfl,_⟩,_⟩<;>exact⟨_,rfl⟩) ?_;rintro v w5 ⟨⟨e,a1⟩|⟨e,a1⟩,a7⟩
  ·obtain rfl:=Le e;refine DF (.inl rfl) (fun _ _ h=>h) ?_;refine zh ?_;refine QF.dn ?_;refine aU ?_;refine kX rfl (rfl) ?_;refine WI.skip ?_;refine cU ?_;refine aU ?_;refine WI.region (.inl rfl) (fun _ _ h=>h) ?_;refine zh ?_;refine QF.dn ?_;refine QI.next ((i+1,w5,(ms.length:Int)-1-(i:Int)-1)) (⟨a0,a1,by dsimp only;omega⟩) (by dsimp only;omega) ⟨rfl,rfl,rfl,trivial⟩ rfl
  obtain rfl:=Le e;refine DF (.inl rfl) (fun _ _ h=>h) ?_;refine zh ?_;refine QF.dn ?_;refine aU ?_;refine rJ rfl (rfl) ?_;refine WI.ret ?_;refine gu ?_;refine iY ?_;refine iY ?_;refine gu ?_;exact kZ (oz rfl (.inr a1))
 intro a2;replace a2:¬i<ms.length:=dF a2;obtain rfl:i=ms.length:=zo;refine WI.exit ?_;refine oq ?_;refine oq ?_;refine vK ?_;exact kZ (oz rfl (.inl (by rw[a5];exact hJ)))
end Go.Proofs.YtjemhjcngaokpaaGreatDoor
end
namespace Go.Proofs.YtjemhjcngaokpaaGreatDoor
open Go.Proofs.Tryz
section
open Go.VL Go.Proofs
set_option maxRecDepth 10000
variable{kv:ix}{kn:Kn}
theorem cells_from{w:ka}{b:Nat}{us vs:List ix}(k:Nat)(h:∀(j:Nat) (u:ix),us[j]? = some u->w.cell? (nA b j)=some u)(hv:∀(q:Nat) (u:ix),vs[q]? = some u->us[k+q]? = some u):∀(q:Nat) (u:ix),vs[q]? = some u->w.cell? ((nA b k).add q)=some u:=fun q u hu=>by
 have h1:=h (k+q) u (hv q u hu);have e:((nA b k).add q)=((⟨b,0,none⟩:JL).add (k+q)):=by
  simp only[Jw];(repeat' split)<;>simp_all[]
 rw[e];exact h1
theorem KnownM.ex{O:Nat->Nat}{w:ka}{ms:List M3}(h:KnownM O w kv kn ms):Known O w kv kn:=⟨ms,h⟩
theorem Fp{O:Nat->Nat}{w:ka}{ms:List M3}(h:KnownM O w kv kn ms){x:M3}(hx:x∈ms.reverse):(lf x).toArray.toList.all JK=true:=by
 obtain⟨i,hi,e⟩:=Kp (List.mem_reverse.1 hx);have h1:=(h.2.2.2 i hi).2.one;rw[aB hi,e]at h1;simp only[lf,JC,h1];rfl
theorem Bh{α:Type}[Inhabited α]{p:α->Bool}{l:List α}(h:∀q,q<l.length->p (nth l q)=false):l.find? p=none:=by
 rw[KB];intro x hx;obtain⟨i,hi,rfl⟩:=Kp hx;have:=h i hi;rw[aB hi]at this;rw[this];decide
theorem Bi{α:Type}[Inhabited α]{p:α->Bool}:∀ {l:List α} {k:Nat},k<l.length->(∀q,q<k->p (nth l q)=false)->p (nth l k)=true->l.find? p=some (nth l k)
 |[],k,hk,_,_=>absurd hk (by simp)
 |a::l,0,_,_,hp=>by rw[ay]at hp ⊢;rw[MM,hp]
 |a::l,k+1,hk,h,hp=>by
  have h0:=h 0 zo;rw[ay]at h0;rw[bA]at hp ⊢;rw[MM,h0];exact Bi (by simpa using hk) (fun q hq=>by have:=h (q+1) (zo);rwa[bA]at this) hp
theorem Fg{α:Type}[Inhabited α]{l:List α}{i:Nat}(h:i<l.length):nth l.reverse i=nth l (l.length-1-i):=by
 rw[aB (by rw[K9];exact h),Ab]
theorem Aw(op:Int)(h':0<=op/\op<=20):Reads kv kn 204 [] op (gC kn) (fun r=>ak (r.headD 0)=true):=by
 intro B O j rb l r w hR hj hr hl h9 h i3;obtain⟨T,a1,hT⟩:=hR.bound;have j5:j<T:=by rw[<-h.tag];exact hT rb
 have j4:=hr.length_le;refine ql func204 ntmps204 rfl rfl ?_;refine WI.seq ?_;refine WI.region (.inl rfl) (fun _ _ h=>h) ?_;refine aw hR T zo (Jp _) rfl ?_;intro xb w1 O1 h0 g0 j3 k0;have f9:=h.upd g0 hj zo;refine zh ?_;refine QF.dn ?_;refine aU ?_;refine WI.seq ?_;refine WI.region (.inl rfl) (fun _ _ h=>h) ?_;refine zh ?_;refine zvH (RV.ld f9.r1 rfl) ?_;refine QF.dn ?_;refine aU ?_;refine WI.seq ?_;refine WI.region (.inl rfl) (fun _ _ h=>h) ?_;refine zh ?_;refine zc call207 (xa O1 w1 j rb l r op 0 0 hj hr zo f9) ?_;rintro v w2 ⟨rfl,i9,e1⟩;have g':=h0.upd e1 zo zo;have g5:=j3.upd e1;have i':=(g0.pT hj a1 (J4 _)).trans (e1.pj a1);refine aw g5 (T+1) zo (zeroValue9 _) rfl ?_;intro sb w3 O3 d5 j1 j9 j';refine aj (j:=0) d5 rfl (Lp _) rfl rfl rfl rfl ?_;have e4:=d5.set 0 (.string (bs (r.takeWhile ak)));have j0:Upd (fun k=>k=T+1) O3 w3 O3 (w3.setCell ⟨sb,0,none⟩ (.string (bs (r.takeWhile ak)))):=Upd.set zo d5.tag rfl;have a8:=j1.trans j0;have c6:=g'.upd a8 zo zo;have d9:=i9.upd a8 hj zo;have g4:=g5.upd a8;have b0:=i'.trans (a8.pT hj a1 (Mb _));generalize w3.setCell ⟨sb,0,none⟩ (.string (bs (r.takeWhile ak)))=w4 at *;refine zh ?_;refine QF.dn ?_;refine aU ?_;refine WI.seq ?_;refine WI.seq ?_;refine WI.region (.inl rfl) (fun _ _ h=>h) ?_;refine zv (RV.ld (e4.cell 0 rfl) rfl) ?_;refine zvH (cR rfl rfl) ?_;refine QF.dn ?_;refine aU ?_
 by_cases ha:r.takeWhile ak=[97,110,121]
 ·have hM:gC kn r=.ok (.mk 1 0 []) (r.dropWhile ak):=by unfold gC;rw[if_pos ha]
  refine rJ rfl ((by rw[ha];rfl)) ?_;refine WI.seq ?_
  refine WI.region (.inl rfl) (fun _ _ h=>h) ?_;refine zv (aF vT (Jp _) rfl (by first|rfl|(simp only[JC,KK];rfl)) rfl rfl) ?_
  refine zsa (us:=(#[nI 1,nI 0,nS])) c6 (J1 _) ?_;have d3:=BlkO.setRow (us:=(#[nI 1,nI 0,nS])) c6;have f':Upd (fun k=>k=T) O3 w4 O3 (JH w4 xb (#[nI 1,nI 0,nS])):=Upd.setRow zo (BlkO.tag c6) rfl;have d8:=BlkO.upd d9 f' hj zo;refine zh ?_
  refine QF.dn ?_;refine aU ?_
  refine WI.ret ?_;refine iY ?_
  refine kZ (iE rfl rfl d3.cellsAdd (Jl _) (J1 _) ⟨(1,0,nS),rfl,(b0.trans (f'.pT hj a1 (J4 _))).priv hT hj,?_⟩);rw[hM];exact⟨d8.fgt h.tag,Nt.leaf _ _ _ _⟩
 obtain⟨ms,c9⟩:=i3.upd b0;obtain⟨qa,qc,f3,_⟩:=c9.1.shape;have i2:=c9.1.len_le;have i4:kn.length=ms.length:=c9.2.2.1;refine kX rfl ((by simpa using ha)) ?_;subst f3;refine WI.skip ?_;refine aU ?_;refine WI.seq ?_;refine WI.seq ?_;refine WI.region (.inl rfl) (fun _ _ h=>h) ?_;refine zh ?_;refine zv (RV.ld d9.r2 rfl) ?_;refine zc call208 (tV qa ms.length qc w4) ?_;rintro v w5 ⟨b,rfl,i8,j8,g7⟩;have b8:Upd (fun _=>False) O3 w4 O3 w5:=aa (fun h=>h) O3 g7;have d3:=c6.upd b8 zo (fun h=>h);have h8:=e4.upd b8 zo (fun h=>h);have d8:=d9.upd b8 hj (fun h=>h);have j2:=g4.upd b8;have f7:=c9.upd b8;have e0:=b0.trans (jt O3 g7 hj a1);have i7:Fixed O3 w5 ⟨b,0,none⟩ (.slice qa ms.length qc):=⟨i8,Jh fun i0=>by have:=(g4.rng b i0).2;omega⟩
 generalize f3:Value.slice qa ms.length qc=kv at *;generalize c7:r.takeWhile ak=sw at *;have e5:∀ {S:Nat->Prop} {O' O2:Nat->Nat} {W W':ka},Upd S O' W O2 W'->(∀k,S k->T<=k)->Upd (fun k=>k=j\/T<=k) O' W O2 W':=fun h hS=>h.mono (fun k hk=>.inr (hS k hk)) (fun e=>by rcases e with e|e;exact hj e.symm;omega)
 refine zh ?_;refine QF.dn ?_
 refine aU ?_;refine WI.block ?_
 refine rI (L:=T+2) (K:=T+3) rfl call209 (oZ kv ms b) rfl rfl rfl (fun W=>zeroValue226 W) j2 zo zo zo (fun W O' pb y x hx ops Q' hb h=>bu (us:=(lf x).toArray) hb rfl (Mc _) (Fp f7 hx) rfl rfl rfl (h _ hb.setRow (Upd.setRow zo hb.tag rfl))) (fun k O' W=>Upd (fun p=>p=j\/T<=p) O w O' W/\BlkO O' W T xb #[nI 0,nI 0,nS] 67/\BlkO O' W (T+1) sb #[.string (bs sw)] 9/\Rdr kv O' W j rb l ((l.length:Int)-((r.dropWhile ak).length:Int)) op 0 0/\Fixed O' W ⟨b,0,none⟩ kv/\KnownM O' W kv kn ms/\∀q,q<k->Cz sw (nth kn.reverse q)=false) (fun c O' W=>c=.ret/\Upd (fun p=>p=j\/T<=p) O w O' W/\Rdr kv O' W j rb l ((l.length:Int)-((r.dropWhile ak).length:Int)) op 0 0/\∃m x,kn.reverse.find? (Cz sw)=some m/\Nt O' W m.2 x/\BlkO O' W T xb #[nI x.1,nI x.2.1,x.2.2] 67) (fun i O' W O2 W' ⟨h1,h2,h3,h4,h5,h6,h7⟩ hU=>⟨h1.trans (e5 hU (fun k hk=>zo)),h2.upd hU zo zo,h3.upd hU zo zo,h4.upd hU hj zo,h5.upd hU,h6.upd hU,h7⟩) (fun c O' W O2 W' ⟨h1,h2,h3,m,x,h4,h5,h6⟩ hU=>⟨h1,h2.trans (e5 hU (fun k hk=>zo)),h3.upd hU hj zo,m,x,h4,h5.upd hU,h6.upd hU zo zo⟩) (fun i O' W ⟨_,_,_,_,h5,h6,_⟩=>⟨h5.cell,h6.1⟩) ⟨e0,d3,h8,d8,i7,f7,fun q hq=>absurd hq zo⟩ ?_ ?_ ?_
 ·rintro lp i hi pb O6 w6 d0 ⟨b3,b1,c8,a',d6,b6,a3⟩ b2;rw[K9]at hi;have i5:ms.length-1-i<ms.length:=zo;obtain⟨m,e8⟩:∃m,m=nth ms (ms.length-1-i):=⟨_,rfl⟩
  obtain⟨g1,g2⟩:=b6.2.2.2 _ i5;replace b2:BlkO O6 w6 (T+3) pb (lf m).toArray 226:=by have:=b2;rw[Ab,<-e8]at this;exact this
  rw[<-e8]at g1 g2;have f4:nth kn.reverse i=nth kn (ms.length-1-i):=by rw[Fg zo,i4]
  have b5:Cz sw (nth kn.reverse i)=false->∀q,q<i+1->Cz sw (nth kn.reverse q)=false:=fun h q hq=>by
   by_cases e:q=i
   ·rw[e];exact h
   exact a3 q zo
  have a0:Cz sw (nth kn.reverse i)=((m.1==sw&&bO (nth kn (ms.length-1-i)).2)&&((nth kn (ms.length-1-i)).2.kind != 9)):=by
   unfold Cz;rw[f4,g1]
  have f5:m.2.1=(nth kn (ms.length-1-i)).2.kind:=g2.kind;generalize nth kn (ms.length-1-i)=km at *;have j7:=b2.cell 0 rfl;have hz:Upd (fun p=>p≠0/\p≠T+2) O6 w6 O6 w6:=Upd.refl zo _ _;refine WI.block ?_;refine WI.seq ?_;refine WI.region (.inr rfl) (fun _ _ h=>h) ?_;refine zh ?_;refine zv (RV.ld (b2.cell 0 rfl) rfl) ?_;refine zv (RV.ld (c8.cell 0 rfl) rfl) ?_;refine zvH (cR rfl rfl) ?_
  cases h1:(m.1==sw)with
  |false=>
   rw[h1]at a0;refine az (d:=30) rfl (b':=false) (rfl) ?_;refine zh ?_;refine QF.dn ?_;refine aU ?_;refine kX rfl rfl ?_;refine WI.skip ?_;refine cU ?_;exact iB O6 hz ⟨b3,b1,c8,a',d6,b6,b5 (by rw[a0];rfl)⟩
  |true=>
   rw[h1]at a0;refine az (d:=30) rfl (b':=true) (rfl) ?_;have d7:∀W:ka,(∀(j:Nat) (u:ix),(lf m)[j]? = some u->W.cell? (nA pb j)=some u)->∀(q:Nat) (u:ix),(aV m.2)[q]? = some u->W.cell? ((nA pb 1).add q)=some u:=fun W h=>cells_from (us:=lf m) 1 h (fun q u hu=>by rw[LW];exact hu)
   refine zh ?_;refine zvH (af (us:=aV m.2) (d7 _ b2.cellsAdd) (Jl _) (J1 _) rfl) ?_
   refine zc call61 (fD km.2 m.2 w6 g2.zero) ?_;rintro v w7 ⟨rfl,g6⟩;have a4:Upd (fun _=>False) O6 w6 O6 w7:=aa (fun h=>h) O6 g6;have a2:=b1.upd a4 zo (fun h=>h);have e3:=c8.upd a4 zo (fun h=>h);have b7:=a'.upd a4 hj (fun h=>h);have e6:=b2.upd a4 zo (fun h=>h);have g3:=d0.upd a4;have f6:=b6.upd a4;have f8:=d6.upd a4;have e7:=g2.upd a4;have a7:=b3.trans (jt O6 g6 hj a1);have d1:Upd (fun p=>p≠0/\p≠T+2) O6 w6 O6 w7:=a4.mono (fun _ h=>h.elim) zo;refine zh ?_
   cases h2:bO km.2 with
   |false=>
    rw[h2]at a0;refine az (d:=35) rfl (b':=false) (rfl) ?_;refine zh ?_;refine QF.dn ?_;refine aU ?_;refine kX rfl rfl ?_;refine WI.skip ?_;refine cU ?_;exact iB O6 d1 ⟨a7,a2,e3,b7,f8,f6,b5 (by rw[a0];rfl)⟩
   |true=>
    rw[h2]at a0;refine az (d:=35) rfl (b':=true) (rfl) ?_;have j6:w7.cell? ((nA pb 1).add 0)=some (nI m.2.1):=d7 _ e6.cellsAdd 0 _ rfl;refine zh ?_;refine QF.dn ?_;refine aU ?_
    cases h3:(km.2.kind != 9)with
    |false=>
     rw[h3]at a0;refine kX rfl ((by rw[f5];exact h3)) ?_;refine WI.skip ?_;refine cU ?_;exact iB O6 d1 ⟨a7,a2,e3,b7,f8,f6,b5 (by rw[a0];rfl)⟩
    |true=>
     rw[h3]at a0;refine rJ rfl ((by rw[f5];exact h3)) ?_;have d2:=e7.one;refine WI.seq ?_;refine WI.region (.inr rfl) (fun _ _ h=>h) ?_;refine zh ?_;refine zv (af (us:=aV m.2) (d7 _ e6.cellsAdd) (Jl _) (J1 _) rfl) ?_;refine zsb (us:=#[nI m.2.1,nI m.2.2.1,m.2.2.2]) a2 (J1 _) (bZ d2) ?_;have b4:=a2.setRow (us:=#[nI m.2.1,nI m.2.2.1,m.2.2.2]);have a6:Upd (fun k=>k=T) O6 w7 O6 (w7.setRow xb #[nI m.2.1,nI m.2.2.1,m.2.2.2]):=Upd.setRow zo a2.tag rfl;refine zh ?_;refine QF.dn ?_;refine aU ?_;refine WI.ret ?_;refine gu ?_;exact vJ O6 (d1.trans (a6.mono (fun _ h=>zo) zo)) ⟨rfl,a7.trans (a6.pT hj a1 (J4 _)),b7.upd a6 hj zo,_,m.2,by rw[Bi (by rw[K9];omega) a3 (by rw[a0];rfl),f4],e7.upd a6,b4⟩
 ·rintro D O6 w6 d0 e2 ⟨b3,b1,c8,a',d6,b6,a3⟩ hm;have hM:gC kn r=dD 0 r:=by
   exact uS (by rw[c7];exact ha) (by rw[c7];exact Bh (fun q hq=>a3 q (by simp at hq ⊢;omega)))
  have d':=b3;refine cU ?_;refine aU ?_;refine WI.seq ?_;refine WI.region (.inl rfl) (fun _ _ h=>h) ?_;refine zh ?_;refine aj (j:=1) a' rfl (Jk _) rfl rfl rfl rfl ?_;have b7:=a'.rAt ((l.length:Int)-(r.length:Int));have a7:Upd (fun k=>k=j) O6 w6 O6 (w6.setCell ⟨rb,1,none⟩ (nI ((l.length:Int)-(r.length:Int)))):=Upd.set (fun e=>hj e.symm) a'.tag rfl;have a2:=b1.upd a7 zo zo;have g3:=d0.upd a7;have e':=(a7.blk D (bq hm) zo).trans hm;have b9:=d'.trans (a7.pj a1);generalize w6.setCell ⟨rb,1,none⟩ (nI ((l.length:Int)-(r.length:Int)))=w7 at *;refine zh ?_;refine QF.dn ?_;refine aU ?_;refine WI.seq ?_;refine WI.region (.inl rfl) (fun _ _ h=>h) ?_;refine zh ?_;refine zc call205 (tN 0 op h' B O6 j rb l r w7 g3 hj hr hl trivial b7 (b6.upd a7).ex) ?_;rintro v w8 ⟨x,rfl,a6,a9⟩;have b4:=a2.upd a6 zo zo;have e9:=(a6.blk D (bq e') zo).trans e';have d2:x.2.2.oneCell'=true:=by
   cases hc:dD 0 r with
   |ok t r'=>rw[hc]at a9;exact a9.2.one
   |bad p e=>rw[hc]at a9;exact a9.1
  refine zsb (us:=#[nI x.1,nI x.2.1,x.2.2]) b4 (J1 _) (bZ d2) ?_;have g9:=b4.setRow (us:=#[nI x.1,nI x.2.1,x.2.2]);have c':Upd (fun k=>k=T) O6 w8 O6 (w8.setRow xb #[nI x.1,nI x.2.1,x.2.2]):=Upd.setRow zo b4.tag rfl;have i1:=(c'.blk D (bq e9) zo).trans e9;have a5:Upd (fun k=>k=T+2) O6 (w8.setRow xb #[nI x.1,nI x.2.1,x.2.2]) O6 ((w8.setRow xb #[nI x.1,nI x.2.1,x.2.2]).putObj D (.deferred none)):=Upd.putObj zo e2 _;have c5:=(c'.pT hj a1 (J4 _)).trans (a5.pT hj a1 zo);have d4:=g9.upd a5 zo zo;refine zh ?_
  refine QF.dn ?_;refine aU ?_
  refine WI.ret ?_;refine kZ (Leave.mark i1 (iE rfl rfl d4.cellsAdd (Jl _) (J1 _) ⟨x,rfl,((b9.trans (a6.pj a1)).trans c5).priv hT hj,?_⟩))
  rw[hM]
  cases hc:dD 0 r with
  |ok t r'=>
   rw[hc]at a9;exact⟨((a9.1.upd c' hj zo).upd a5 hj zo).fgt h.tag,(a9.2.upd c5).low (b9.trans (a6.pj a1))⟩
  |bad p e=>
   rw[hc]at a9;obtain⟨h1,a,g8,h2,h3⟩:=a9;exact⟨h1,a,g8,((h2.upd c' hj zo).upd a5 hj zo).fgt h.tag,h3⟩
 rintro D c O6 w6 d0 e2 ⟨rfl,b3,a',m,x,i6,b5,b1⟩ hm;have a5:Upd (fun k=>k=T+2) O6 w6 O6 (w6.putObj D (.deferred none)):=Upd.putObj zo e2 _;have c5:=b3.trans (a5.pT hj a1 zo);have a2:=b1.upd a5 zo zo;refine WI.ret ?_;refine gu ?_;refine iY ?_;refine kZ (Leave.mark hm (iE rfl rfl a2.cellsAdd (Jl _) (J1 _) ⟨x,rfl,c5.priv hT hj,?_⟩));rw[uR (by rw[c7];exact ha) (by rw[c7];exact i6)];exact⟨(a'.upd a5 hj zo).fgt h.tag,(b5.upd a5).low c5⟩
end
section
open Go.VL Go.Proofs
set_option maxRecDepth 10000
variable{kv:ix}{kn:Kn}
theorem vq(b:UInt8)(k:Nat)(hk:k<256)(h:¬b=KS k):((b.toNat:Int) != (k:Int))=true:=by rw[bne,nZ b k hk,decide_eq_false h];rfl
theorem ik(b:UInt8)(k:Nat)(hk:k<256)(h:¬b=KS k):((b.toNat:Int)==(k:Int))=false:=by rw[nZ b k hk,decide_eq_false h]
theorem PostE.one{O:Nat->Nat}{w:ka}{j rb:Nat}{l:List UInt8}{op:Int}{x:N3}{M:PR}(h:PostE kv O w j rb l op x M):x.2.2.oneCell'=true:=by
 cases M with
 |ok t r=>exact h.2.one
 |bad p e=>exact h.1
theorem PostE.upd{S:Nat->Prop}{O O':Nat->Nat}{w w':ka}{j rb:Nat}{l:List UInt8}{op:Int}{x:N3}{M:PR}(h:PostE kv O w j rb l op x M)(u:Upd S O w O' w')(hj:j≠0)(hS:¬S j):PostE kv O' w' j rb l op x M:=by
 cases M with
 |ok t r=>exact⟨BlkO.upd h.1 u hj hS,h.2.upd u⟩
 |bad p e=>obtain⟨h1,a,o,h2,h3⟩:=h;exact⟨h1,a,o,BlkO.upd h2 u hj hS,h3⟩
theorem PostE.low{S:Nat->Prop}{O O':Nat->Nat}{w w0 w':ka}{j rb:Nat}{l:List UInt8}{op:Int}{x:N3}{M:PR}(h:PostE kv O' w' j rb l op x M)(u:Upd S O w O' w0)(a0:O rb=j):PostE kv O w' j rb l op x M:=by
 cases M with
 |ok t r=>exact⟨BlkO.fgt h.1 a0,h.2.low u⟩
 |bad p e=>obtain⟨h1,a,o,h2,h3⟩:=h;exact⟨h1,a,o,BlkO.fgt h2 a0,h3⟩
theorem qG(k:Int)(xs:List N3)(lv:ix)(w:ka)(h:Sl aV 3 w lv xs)(h1:∀i,i<xs.length->(nth xs i).2.2.oneCell'=true):
  Ret J5 165 [nI k,lv] w fun v w'=>v=nv (if xs.length=1 then nth xs 0 else(k,0,lv))/\Ext w w':=by
 refine Ret.enter func165 ntmps165 rfl rfl ?_;refine zh ?_
 refine aw (ar w) 1 zo (Jp _) rfl ?_;intro xb w1 O1 a0 a3 a6 a5;have a2:=h.ext a5;refine zh ?_
 by_cases hl:xs.length=1
 ·have a4:=h1 0 zo;rw[if_pos hl];refine zTH rfl ((by rw[hl];rfl)) ?_;refine zv (RV.indexAddr a2 KT (J1 _) rfl rfl 0 rfl zo) ?_;refine zv (af (us:=aV (nth xs 0)) (fun j u hu=>a2.cell zo hu) (Jl _) (J1 _) rfl) ?_;refine zsb (us:=#[nI (nth xs 0).1,nI (nth xs 0).2.1,(nth xs 0).2.2]) a0 (J1 _) (bZ a4) ?_;have a1:=a0.setRow (us:=#[nI (nth xs 0).1,nI (nth xs 0).2.1,(nth xs 0).2.2]);refine zh ?_;refine aK rfl rfl (a1.cellsAdd) (Jl _) (J1 _) (⟨rfl,(a3.trans (Upd.setRow zd a0.tag rfl)).ext⟩)
 rw[if_neg hl];refine zFH rfl ((by simp;omega)) ?_;refine zv (aF vT (Jp _) rfl (by first|rfl|(simp only[JC,h.one];rfl)) rfl rfl) ?_;refine zsb (us:=#[nI k,nI 0,lv]) a0 (J1 _) (bZ (x:=(k,0,lv)) h.one) ?_;have a1:=a0.setRow (us:=#[nI k,nI 0,lv]);refine zh ?_;refine aK rfl rfl (a1.cellsAdd) (Jl _) (J1 _) (⟨rfl,(a3.trans (Upd.setRow zd a0.tag rfl)).ext⟩)
def uf(kv:ix)(kn:Kn)(al:Option (List UInt8->PR))(op:Int):Prop:=
 match al with
 |none=>op=20
 |some f=>op<20/\Reads kv kn 150 [] (op+1) f (fun _=>True)
theorem tT(al:Option (List UInt8->PR))(op:Int)(h7:0<=op/\op<=20)(ha:uf kv kn al op)(hg:mK al):Reads kv kn 206 [] op (cc al) (fun r=>r.headD 0≠0):=by
 intro B O j rb l r w hR hj hr hl d1 h g7;obtain⟨T,a0,hT⟩:=hR.bound;have h8:j<T:=by rw[<-h.tag];exact hT rb
 have h6:=hr.length_le;refine Ret.enter func206 ntmps206 rfl rfl ?_;refine zh ?_;refine aw hR T zo (Jp _) rfl ?_;intro xb w1 O1 e6 e' f5 i1;have a7:=h.upd e' hj zo;have b4:=e'.pT hj a0 (J4 _);obtain⟨f',h5⟩:=bY d1;have e7:=f'.trans hr;refine zh ?_;refine zvH (RV.ld a7.r3 rfl) ?_
 cases al with
 |none=>
  have hM:cc none r=.bad r.length 6:=rfl;replace ha:op=20:=ha;refine zTH rfl ((by rw[ha];rfl)) ?_;refine zv (RV.ld a7.r1 rfl) ?_;refine zc Ms (gk _ O1 w1 j rb l _ _ 0 ((l.length:Int)-(r.length:Int)) 6 hj f5 a7) ?_;rintro v wf ⟨rfl,d8,b6⟩;have a6:=e6.upd b6 zo zo;refine zsa (us:=#[nI 0,nI 0,nS]) a6 (J1 _) ?_;have c9:=a6.setRow (us:=#[nI 0,nI 0,nS]);have b5:Upd (fun k=>k=T) O1 wf O1 (wf.setRow xb #[nI 0,nI 0,nS]):=Upd.setRow zo a6.tag rfl;have hbg:=d8.upd b5 hj zo;refine zh ?_;refine aK rfl rfl (c9.cellsAdd) (Jl _) (J1 _) (⟨(0,0,nS),rfl,((b4.trans (b6.pj a0)).trans (b5.pT hj a0 (J4 _))).priv hT hj,?_⟩);rw[hM];exact⟨rfl,_,op,hbg.fgt h.tag,zo,zo,zo,zo⟩
 |some f=>
  obtain⟨h9,g'⟩:=ha;have b9:=hg f rfl r.tail;refine zFH rfl ((by simp;omega)) ?_;refine zvH (RV.ld a7.r1 rfl) ?_;refine aj (j:=1) a7 rfl (Jk _) rfl rfl rfl rfl ?_;rw[show((l.length:Int)-(r.length:Int))+1=(l.length:Int)-(r.tail.length:Int)from by omega];have c5:=BlkO.rAt a7 ((l.length:Int)-(r.tail.length:Int));have e4:Upd (fun k=>k=j) O1 w1 O1 (Jt w1 ⟨rb,1,none⟩ (nI ((l.length:Int)-(r.tail.length:Int)))):=Upd.set (fun e=>hj e.symm) (BlkO.tag a7) rfl;have f9:=e6.upd e4 zo zo;have h4:=f5.upd e4;generalize Jt w1 ⟨rb,1,none⟩ (nI ((l.length:Int)-(r.tail.length:Int)))=w2 at *;refine zh ?_;refine zvH (RV.ld c5.r3 rfl) ?_;refine aj (j:=3) c5 rfl (Jk _) rfl rfl rfl rfl ?_;have g9:=c5.rOp (op+1);have e3:Upd (fun k=>k=j) O1 w2 O1 (w2.setCell ⟨rb,3,none⟩ (nI (op+1))):=Upd.set (fun e=>hj e.symm) c5.tag rfl;have f8:=f9.upd e3 zo zo;have f4:=h4.upd e3;have b3:=(b4.trans (e4.pj a0)).trans (e3.pj a0);generalize w2.setCell ⟨rb,3,none⟩ (nI (op+1))=w3 at *;refine zh ?_;refine zc call150 (g' B O1 j rb l r.tail w3 f4 hj e7 hl trivial g9 (g7.upd b3)) ?_;rintro v w4 ⟨x,rfl,e2,f6⟩;have b7:=f6.one;have f7:=f8.upd e2 zo zo;have f3:=f4.upd e2;have e1:=b3.trans (e2.pj a0);refine aw f3 (T+1) zo (Jp _) rfl ?_;intro nb w5 O5 d7 h1 h' i0;refine zsb (us:=#[nI x.1,nI x.2.1,x.2.2]) d7 (J1 _) (bZ b7) ?_;have e9:=d7.setRow (us:=#[nI x.1,nI x.2.1,x.2.2])
  have h0:Upd (fun k=>k=T+1) O5 w5 O5 (w5.setRow nb #[nI x.1,nI x.2.1,x.2.2]):=Upd.setRow zo d7.tag rfl;have a4:=h1.trans h0;have e5:=f7.upd a4 zo zo;have c8:=f6.upd a4 hj zo;have h3:=f3.upd a4;have b2:=e1.trans (a4.pT hj a0 (Mb _));generalize w5.setRow nb #[nI x.1,nI x.2.1,x.2.2]=w6 at *
  cases hf:f r.tail with
  |bad p e=>
   rw[hf]at b9 c8;have hM:cc (some f) r=.bad p e:=by unfold cc;dsimp only;rw[hf]
   obtain⟨g1,a,a',a1,g2,g3,g4,g5⟩:=c8;replace a1:BlkO O5 w6 j rb (rdr kv l a a' ((l.length:Int)-(p:Int)) e) 244:=a1;refine zh ?_;refine zvH (RV.ld a1.r5 rfl) ?_;refine az (d:=39) rfl (b':=false) ((by simpa using b9.2)) ?_;refine zh ?_;refine zFH rfl rfl ?_;refine zvH (RV.ld a1.r1 rfl) ?_;refine aj (j:=1) a1 rfl (Jk _) rfl rfl rfl rfl ?_;have a2:=a1.rAt (a+1);have a3:Upd (fun k=>k=j) O5 w6 O5 (w6.setCell ⟨rb,1,none⟩ (nI (a+1))):=Upd.set (fun e=>hj e.symm) a1.tag rfl;have b8:=e5.upd a3 zo zo;have d6:=e9.upd a3 zo zo;generalize w6.setCell ⟨rb,1,none⟩ (nI (a+1))=w7 at *;refine zh ?_;refine zvH (RV.ld a2.r3 rfl) ?_;refine aj (j:=3) a2 rfl (Jk _) rfl rfl rfl rfl ?_;have a8:=a2.rOp (a'-1);have a5:Upd (fun k=>k=j) O5 w7 O5 (w7.setCell ⟨rb,3,none⟩ (nI (a'-1))):=Upd.set (fun e=>hj e.symm) a2.tag rfl;have b0:=b8.upd a5 zo zo;have d5:=d6.upd a5 zo zo;generalize w7.setCell ⟨rb,3,none⟩ (nI (a'-1))=w8 at *;have e0:=(b2.trans (a3.pj a0)).trans (a5.pj a0);refine zh ?_;refine zv (af (us:=aV x) d5.cellsAdd (Jl _) (J1 _) rfl) ?_;refine zsb (us:=#[nI x.1,nI x.2.1,x.2.2]) b0 (J1 _) (bZ b7) ?_;have c':=BlkO.setRow (us:=#[nI x.1,nI x.2.1,x.2.2]) b0;have a9:Upd (fun k=>k=T) O5 w8 O5 (JH w8 xb #[nI x.1,nI x.2.1,x.2.2]):=Upd.setRow zo (BlkO.tag b0) rfl;have d9:=a8.upd a9 hj zo;have c6:=e0.trans (a9.pT hj a0 (J4 _));refine zh ?_
   refine aK rfl rfl (c'.cellsAdd) (Jl _) (J1 _) (⟨x,rfl,c6.priv hT hj,?_⟩);rw[hM];exact⟨b7,a+1,a'-1,d9.fgt h.tag,zo,zo,zo,zo⟩
  |ok t r2=>
   rw[hf]at b9 c8;obtain⟨a1,hn⟩:=c8;replace a1:BlkO O5 w6 j rb (rdr kv l ((l.length:Int)-(r2.length:Int)) (op+1) 0 0) 244:=a1;have e8:=b9.1.trans e7;have g0:=(aW r2).trans e8;have hq2l:=g0.length_le;refine zh ?_;refine zvH (RV.ld a1.r5 rfl) ?_;refine az (d:=39) rfl (b':=true) (rfl) ?_;refine zh ?_;refine zc N1 (gb O5 w6 j rb l r2 (op+1) 0 0 hj e8 zo a1) ?_;rintro v w7 ⟨rfl,a2,a3⟩;have b8:=e5.upd a3 zo zo;have d6:=e9.upd a3 zo zo;have h2:=h3.upd a3;have b1:=b2.trans (a3.pj a0);have d4:=hn.upd a3;refine zh ?_
   by_cases hc:(au r2).headD 0=41
   ·have hM:cc (some f) r=.ok t (au r2).tail:=by unfold cc;dsimp only;rw[hf];dsimp only;rw[if_pos hc]
    obtain⟨g1,g2⟩:=bY (r:=au r2) (by rw[hc];decide);refine zFH rfl ((by rw[hc];rfl)) ?_;refine zvH (RV.ld a2.r1 rfl) ?_;refine aj (j:=1) a2 rfl (Jk _) rfl rfl rfl rfl ?_;rw[show((l.length:Int)-((au r2).length:Int))+1=(l.length:Int)-((au r2).tail.length:Int)from by omega];have a8:=BlkO.rAt a2 ((l.length:Int)-((au r2).tail.length:Int));have a5:Upd (fun k=>k=j) O5 w7 O5 (Jt w7 ⟨rb,1,none⟩ (nI ((l.length:Int)-((au r2).tail.length:Int)))):=Upd.set (fun e=>hj e.symm) (BlkO.tag a2) rfl;have b0:=b8.upd a5 zo zo;have d5:=d6.upd a5 zo zo;have d3:=d4.upd a5;generalize Jt w7 ⟨rb,1,none⟩ (nI ((l.length:Int)-((au r2).tail.length:Int)))=w8 at *;refine zh ?_;refine zvH (RV.ld a8.r3 rfl) ?_;refine aj (j:=3) a8 rfl (Jk _) rfl rfl rfl rfl ?_;rw[show op+1-1=op from by omega];have g8:=a8.rOp op;have c7:Upd (fun k=>k=j) O5 w8 O5 (w8.setCell ⟨rb,3,none⟩ (nI op)):=Upd.set (fun e=>hj e.symm) a8.tag rfl;have d0:=b0.upd c7 zo zo;have g6:=d5.upd c7 zo zo;have d2:=d3.upd c7;generalize w8.setCell ⟨rb,3,none⟩ (nI op)=w9 at *;have d':=(b1.trans (a5.pj a0)).trans (c7.pj a0);refine zh ?_;refine zv (af (us:=aV x) g6.cellsAdd (Jl _) (J1 _) rfl) ?_;refine zsb (us:=#[nI x.1,nI x.2.1,x.2.2]) d0 (J1 _) (bZ b7) ?_;have c':=BlkO.setRow (us:=#[nI x.1,nI x.2.1,x.2.2]) d0;have a9:Upd (fun k=>k=T) O5 w9 O5 (JH w9 xb #[nI x.1,nI x.2.1,x.2.2]):=Upd.setRow zo (BlkO.tag d0) rfl
    have d9:=g8.upd a9 hj zo;have c6:=d'.trans (a9.pT hj a0 (J4 _));refine zh ?_;refine aK rfl rfl (c'.cellsAdd) (Jl _) (J1 _) (⟨x,rfl,c6.priv hT hj,?_⟩);rw[hM];exact⟨d9.fgt h.tag,(d2.upd a9).low c6⟩
   have hM:cc (some f) r=.bad (au r2).length 4:=by unfold cc;dsimp only;rw[hf];dsimp only;rw[if_neg hc]
   refine zTH rfl ((vq _ 41 zd hc)) ?_;refine zv (RV.ld a2.r1 rfl) ?_
   refine zc Ms (gk _ O5 w7 j rb l _ _ 0 ((l.length:Int)-((au r2).length:Int)) 4 hj h2 a2) ?_;rintro v wf ⟨rfl,d8,b6⟩;have a6:=b8.upd b6 zo zo;refine zsa (us:=#[nI 0,nI 0,nS]) a6 (J1 _) ?_
   have c9:=a6.setRow (us:=#[nI 0,nI 0,nS]);have b5:Upd (fun k=>k=T) O5 wf O5 (wf.setRow xb #[nI 0,nI 0,nS]):=Upd.setRow zo a6.tag rfl;have hbg:=d8.upd b5 hj zo;refine zh ?_;refine aK rfl rfl (c9.cellsAdd) (Jl _) (J1 _) (⟨(0,0,nS),rfl,((b1.trans (b6.pj a0)).trans (b5.pT hj a0 (J4 _))).priv hT hj,?_⟩);rw[hM];exact⟨rfl,_,op+1,hbg.fgt h.tag,zo,zo,zo,zo⟩
theorem C5(al:Option (List UInt8->PR))(op:Int)(b4:0<=op/\op<=20)(ha:uf kv kn al op)(hg:mK al):Reads kv kn 199 [] op (jb kn al) (fun _=>True):=by
 intro B O j rb l r w hR hj hr hl c9 h b5;obtain⟨T,a1,hT⟩:=hR.bound;have d6:j<T:=by rw[<-h.tag];exact hT rb
 have d4:=hr.length_le;refine Ret.enter func199 ntmps199 rfl rfl ?_;refine zh ?_;refine aw hR T zo (Jp _) rfl ?_;intro xb w1 O1 c8 c6 d3 d7;have d1:=h.upd c6 hj zo;have b7:=c6.pT hj a1 (J4 _);have hq:=(aW r).trans hr;have d5:=hq.length_le;refine zh ?_;refine zc N1 (gb O1 w1 j rb l r op 0 0 hj hr zo d1) ?_;rintro v w2 ⟨rfl,a2,b8⟩;have b1:=c8.upd b8 zo zo;have b2:=d3.upd b8;have a0:=b7.trans (b8.pj a1);refine zh ?_;refine zc Nr (iN ((au r).headD 0) w2) ?_;rintro v w9 ⟨rfl,b9⟩;rw[b9];clear b9 w9;refine zh ?_
 by_cases h1:ak ((au r).headD 0)=true
 ·have hM:jb kn al r=gC kn (au r):=by unfold jb;rw[if_pos h1]
  rw[hM];refine zTH rfl (h1) ?_;refine zc call204 (Aw op b4 B O1 j rb l (au r) w2 b2 hj hq hl h1 a2 (b5.upd a0)) ?_;rintro v wc ⟨x,rfl,a6,a7⟩;have a8:=a7.one;have a3:=BlkO.upd b1 a6 zo zo;refine zsb (us:=#[nI x.1,nI x.2.1,x.2.2]) a3 (J1 _) (bZ a8) ?_;have a9:=BlkO.setRow (us:=#[nI x.1,nI x.2.1,x.2.2]) a3;have a4:Upd (fun k=>k=T) O1 wc O1 (JH wc xb #[nI x.1,nI x.2.1,x.2.2]):=Upd.setRow zo (BlkO.tag a3) rfl;have a5:=(a0.trans (a6.pj a1)).trans (a4.pT hj a1 (J4 _));refine zh ?_;refine aK rfl rfl (a9.cellsAdd) (Jl _) (J1 _) (⟨x,rfl,a5.priv hT hj,(a7.upd a4 hj zo).low a5 h.tag⟩)
 refine zFH rfl ((by simpa using h1)) ?_
 by_cases h2:(au r).headD 0=126
 ·have hM:jb kn al r=dD 2 (au r).tail:=by unfold jb;rw[if_neg h1,if_pos h2]
  obtain⟨k1,k2⟩:=bY (r:=au r) (by rw[h2];decide);rw[hM];refine zTH rfl ((by rw[h2];rfl)) ?_;refine zvH (RV.ld a2.r1 rfl) ?_;refine aj (j:=1) a2 rfl (Jk _) rfl rfl rfl rfl ?_;rw[show((l.length:Int)-((au r).length:Int))+1=(l.length:Int)-((au r).tail.length:Int)from by omega];have b6:=BlkO.rAt a2 ((l.length:Int)-((au r).tail.length:Int));have a':Upd (fun k=>k=j) O1 w2 O1 (Jt w2 ⟨rb,1,none⟩ (nI ((l.length:Int)-((au r).tail.length:Int)))):=Upd.set (fun e=>hj e.symm) (BlkO.tag a2) rfl;have b0:=b1.upd a' zo zo;have d2:=b2.upd a';refine zh ?_;refine zc call205 (tN 2 op b4 B O1 j rb l (au r).tail _ d2 hj (k1.trans hq) hl trivial b6 (b5.upd (a0.trans (a'.pj a1)))) ?_;rintro v wc ⟨x,rfl,a6,a7⟩;have a8:=a7.one;have a3:=BlkO.upd b0 a6 zo zo;refine zsb (us:=#[nI x.1,nI x.2.1,x.2.2]) a3 (J1 _) (bZ a8) ?_;have a9:=BlkO.setRow (us:=#[nI x.1,nI x.2.1,x.2.2]) a3;have a4:Upd (fun k=>k=T) O1 wc O1 (JH wc xb #[nI x.1,nI x.2.1,x.2.2]):=Upd.setRow zo (BlkO.tag a3) rfl;have a5:=((a0.trans (a'.pj a1)).trans (a6.pj a1)).trans (a4.pT hj a1 (J4 _));refine zh ?_;refine aK rfl rfl (a9.cellsAdd) (Jl _) (J1 _) (⟨x,rfl,a5.priv hT hj,(a7.upd a4 hj zo).low a5 h.tag⟩)
 refine zFH rfl ((ik _ 126 zd h2)) ?_
 by_cases h3:(au r).headD 0=94
 ·have hM:jb kn al r=.ok (.mk 3 0 []) (au r).tail:=by unfold jb;rw[if_neg h1,if_neg h2,if_pos h3]
  obtain⟨k1,k2⟩:=bY (r:=au r) (by rw[h3];decide);rw[hM];refine zTH rfl ((by rw[h3];rfl)) ?_;refine zvH (RV.ld a2.r1 rfl) ?_;refine aj (j:=1) a2 rfl (Jk _) rfl rfl rfl rfl ?_;rw[show((l.length:Int)-((au r).length:Int))+1=(l.length:Int)-((au r).tail.length:Int)from by omega];have b6:=BlkO.rAt a2 ((l.length:Int)-((au r).tail.length:Int));have a':Upd (fun k=>k=j) O1 w2 O1 (Jt w2 ⟨rb,1,none⟩ (nI ((l.length:Int)-((au r).tail.length:Int)))):=Upd.set (fun e=>hj e.symm) (BlkO.tag a2) rfl;have b0:=b1.upd a' zo zo;have a8:((3,0,nS):N3).2.2.oneCell'=true:=rfl;refine zh ?_;refine zv (aF vT (Jp _) rfl (by first|rfl|(simp only[JC,h.one];rfl)) rfl rfl) ?_;refine zsb (us:=#[nI ((3,0,nS):N3).1,nI ((3,0,nS):N3).2.1,((3,0,nS):N3).2.2]) b0 (J1 _) (bZ a8) ?_;have a9:=BlkO.setRow (us:=#[nI ((3,0,nS):N3).1,nI ((3,0,nS):N3).2.1,((3,0,nS):N3).2.2]) b0;have a4:Upd (fun k=>k=T) O1 (Jt w2 ⟨rb,1,none⟩ (nI ((l.length:Int)-((au r).tail.length:Int)))) O1 (JH (Jt w2 ⟨rb,1,none⟩ (nI ((l.length:Int)-((au r).tail.length:Int)))) xb #[nI ((3,0,nS):N3).1,nI ((3,0,nS):N3).2.1,((3,0,nS):N3).2.2]):=Upd.setRow zo (BlkO.tag b0) rfl;have d0:=b6.upd a4 hj zo;have a5:=(a0.trans (a'.pj a1)).trans (a4.pT hj a1 (J4 _));refine zh ?_;refine aK rfl rfl (a9.cellsAdd) (Jl _) (J1 _) (⟨(3,0,nS),rfl,a5.priv hT hj,d0.fgt h.tag,Nt.leaf _ _ _ _⟩)
 refine zFH rfl ((ik _ 94 zd h3)) ?_
 by_cases h4:(au r).headD 0=40
 ·have hM:jb kn al r=cc al (au r):=by unfold jb;rw[if_neg h1,if_neg h2,if_neg h3,if_pos h4]
  rw[hM];refine zTH rfl ((by rw[h4];rfl)) ?_;refine zc call206 (tT al op b4 ha hg B O1 j rb l (au r) w2 b2 hj hq hl (show(au r).headD 0≠0 by rw[h4];decide) a2 (b5.upd a0)) ?_;rintro v wc ⟨x,rfl,a6,a7⟩;have a8:=a7.one;have a3:=BlkO.upd b1 a6 zo zo;refine zsb (us:=#[nI x.1,nI x.2.1,x.2.2]) a3 (J1 _) (bZ a8) ?_;have a9:=BlkO.setRow (us:=#[nI x.1,nI x.2.1,x.2.2]) a3;have a4:Upd (fun k=>k=T) O1 wc O1 (JH wc xb #[nI x.1,nI x.2.1,x.2.2]):=Upd.setRow zo (BlkO.tag a3) rfl;have a5:=(a0.trans (a6.pj a1)).trans (a4.pT hj a1 (J4 _));refine zh ?_;refine aK rfl rfl (a9.cellsAdd) (Jl _) (J1 _) (⟨x,rfl,a5.priv hT hj,(a7.upd a4 hj zo).low a5 h.tag⟩)
 have hM:jb kn al r=.bad (au r).length 4:=by unfold jb;rw[if_neg h1,if_neg h2,if_neg h3,if_neg h4]
 rw[hM];refine zFH rfl ((ik _ 40 zd h4)) ?_;refine zv (RV.ld a2.r1 rfl) ?_;refine zc Ms (gk _ O1 w2 j rb l _ _ 0 ((l.length:Int)-((au r).length:Int)) 4 hj b2 a2) ?_;rintro v wf ⟨rfl,c',c5⟩;have b3:=b1.upd c5 zo zo;refine zsa (us:=#[nI 0,nI 0,nS]) b3 (J1 _) ?_;have c7:=b3.setRow (us:=#[nI 0,nI 0,nS]);have b':Upd (fun k=>k=T) O1 wf O1 (wf.setRow xb #[nI 0,nI 0,nS]):=Upd.setRow zo b3.tag rfl;have hbg:=c'.upd b' hj zo;refine zh ?_;refine aK rfl rfl (c7.cellsAdd) (Jl _) (J1 _) (⟨(0,0,nS),rfl,((a0.trans (c5.pj a1)).trans (b'.pT hj a1 (J4 _))).priv hT hj,?_⟩);exact⟨rfl,_,op,hbg.fgt h.tag,zo,zo,zo,zo⟩
end
section
open Go.VL Go.Proofs
set_option maxRecDepth 10000
variable{kv:ix}{kn:Kn}
theorem Fb(c:UInt8):rU [42,43,63] c=match opM c with|some k=>(k:Nat)|none=>-1:=by
 unfold rU opM
 by_cases h1:c=42
 ·subst h1;rfl
 by_cases h2:c=43
 ·subst h2;rfl
 by_cases h3:c=63
 ·subst h3;rfl
 rw[if_neg h1,if_neg h2,if_neg h3];have:[(42:UInt8),43,63].findIdx? (· == c)=none:=by
  rw[KC];intro x hx;simp at hx
  rcases hx with rfl|rfl|rfl<;>simp<;>intro e<;>first|exact h1 e.symm|exact h2 e.symm|exact h3 e.symm
 rw[this]
theorem sO(al:Option (List UInt8 → PR))(op:Int)(hop:0 ≤ op ∧ op ≤ 20)(ha:uf kv kn al op)(hg:mK al): Reads kv kn 188 [] op (eU kn al) (fun _ => True) := by
  intro B O j rb l r w hR hj hr hl hpre h hkn
  obtain⟨T, hT0, hT⟩ := hR.bound
  have hjT:j < T := by rw[← h.tag]; exact hT rb
  have hrl := hr.length_le
  refine Ret.enter func188 ntmps188 rfl rfl ?_
  refine zh ?_
  refine aw hR T (by omega) (Jp _) rfl ?_
  intro xb w1 O1 hx1 hU1 hR1 hE1
  have hb1 := h.upd hU1 hj (by omega)
  have hUt1 := hU1.pT hj hT0 (J4 _)
  have hga := qg (kn := kn) hg r
  refine zh ?_
  refine zc call199 (C5 al op hop ha hg B O1 j rb l r w1 hR1 hj hr hl trivial hb1 (hkn.upd hUt1)) ?_
  rintro v w2 ⟨x, rfl, hU2, hP2⟩
  have hxo := hP2.one
  have hx2 := hx1.upd hU2 (by omega) (by omega)
  have hR2 := hR1.upd hU2
  have hUt2 := hUt1.trans (hU2.pj hT0)
  refine aw hR2 (T + 1) (by omega) (Jp _) rfl ?_
  intro nb w3 O3 hn3 hU3 hR3 hE3
  refine zsb (us := #[.int .i64 x.1, .int .i64 x.2.1, x.2.2]) hn3 (J1 _) (bZ hxo) ?_
  have hn4 := hn3.setRow (us := #[.int .i64 x.1, .int .i64 x.2.1, x.2.2])
  have hU4:Upd (fun k => k = T + 1) O3 w3 O3 (w3.setRow nb #[.int .i64 x.1, .int .i64 x.2.1, x.2.2]) := Upd.setRow (by omega) hn3.tag rfl
  have hU34 := hU3.trans hU4
  have hx4 := hx2.upd hU34 (by omega) (by omega)
  have hP4 := hP2.upd hU34 hj (by omega)
  have hR4 := hR2.upd hU34
  have hUt4 := hUt2.trans (hU34.pT hj hT0 (Mb _))
  generalize w3.setRow nb #[.int .i64 x.1, .int .i64 x.2.1, x.2.2] = w4 at *
  cases hf:jb kn al r with
  |bad p e =>
    rw[hf]at hga hP4
    have hM:eU kn al r = .bad p e := by unfold eU; rw[hf]
    have hP5 := hP4
    obtain⟨g1, a, op', hb4, g2, g3, g4, g5⟩ := hP4
    replace hb4:BlkO O3 w4 j rb (rdr kv l a op' ((l.length:Int) - (p:Int)) e) 244 := hb4
    refine zh ?_
    refine zvH (RV.ld hb4.r5 rfl) ?_
    refine zTH rfl ((by simpa using hga.2)) ?_
    refine zv (af (us := aV x) hn4.cellsAdd (Jl _) (J1 _) rfl) ?_
    refine zsb (us := #[.int .i64 x.1, .int .i64 x.2.1, x.2.2]) hx4 (J1 _) (bZ hxo) ?_
    have hxd := BlkO.setRow (us := #[.int .i64 x.1, .int .i64 x.2.1, x.2.2]) hx4
    have hUd:Upd (fun k => k = T) O3 w4 O3 (JH w4 xb #[.int .i64 x.1, .int .i64 x.2.1, x.2.2]) := Upd.setRow (by omega) (BlkO.tag hx4) rfl
    have hUz := hUt4.trans (hUd.pT hj hT0 (J4 _))
    refine zh ?_
    refine aK rfl rfl (hxd.cellsAdd) (Jl _) (J1 _) (⟨x, rfl, hUz.priv hT hj, ?_⟩)
    rw[hM]
    exact(hP5.upd hUd hj (by omega)).low hUz h.tag
  |ok t r1 =>
    rw[hf]at hga hP4
    obtain⟨hb4, hnt4⟩ := hP4
    replace hb4:BlkO O3 w4 j rb (rdr kv l ((l.length:Int) - (r1.length:Int)) op 0 0) 244 := hb4
    have hr1 := hga.1.trans hr
    have hq1 := (aW r1).trans hr1
    have hql := hq1.length_le
    refine zh ?_
    refine zvH (RV.ld hb4.r5 rfl) ?_
    refine zFH rfl rfl ?_
    refine zc N1 (gb O3 w4 j rb l r1 op 0 0 hj hr1 (by omega) hb4) ?_
    rintro v w5 ⟨rfl, hb5, hU5⟩
    have hx5 := hx4.upd hU5 (by omega) (by omega)
    have hn5 := hn4.upd hU5 (by omega) (by omega)
    have hR5 := hR4.upd hU5
    have hUt5 := hUt4.trans (hU5.pj hT0)
    have hnt5 := hnt4.upd hU5
    refine zc call51 (dt [42, 43, 63] ((au r1).headD 0) w5) ?_
    rintro v w9 ⟨rfl, hw9⟩
    rw[hw9, Fb]
    clear hw9 w9
    have hb6 := hb5.drew
    have hx6 := hx5.drew
    have hn6 := hn5.drew
    have hnt6 := hnt5.drew
    have hUt6 := hUt5.drew
    have hR6 := hR5.drew
    refine zh ?_
    refine WC.still (by kernel_rfl) (by kernel_rfl) ?_
    refine zh ?_
    refine zwH (RV.ld hb6.r1 rfl) ?_
    refine zw (RV.ld hb6.r0 rfl) ?_
    refine zwH (cf Ka rfl) ?_
    cases hk:opM ((au r1).headD 0)with
    |none =>
      have hM:eU kn al r = .ok t (au r1) := by unfold eU; rw[hf]; dsimp only; rw[hk]
      by_cases hq0:(au r1).length = 0
      · skip
        refine cd (d := 30) rfl (b' := true) ((beq_iff_eq.2 (by omega))) ?_
        generalize w5.drew = w6 at *
        refine zh ?_
        refine zw (bB rfl rfl) ?_
        refine WS.nil ?_
        refine zh ?_
        refine zTH rfl rfl ?_
        refine zv (af (us := aV x) hn6.cellsAdd (Jl _) (J1 _) rfl) ?_
        refine zsb (us := #[.int .i64 x.1, .int .i64 x.2.1, x.2.2]) hx6 (J1 _) (bZ hxo) ?_
        have hxd := BlkO.setRow (us := #[.int .i64 x.1, .int .i64 x.2.1, x.2.2]) hx6
        have hUd:Upd (fun k => k = T) O3 w6 O3 (JH w6 xb #[.int .i64 x.1, .int .i64 x.2.1, x.2.2]) := Upd.setRow (by omega) (BlkO.tag hx6) rfl
        have hUz := hUt6.trans (hUd.pT hj hT0 (J4 _))
        have hbd := hb6.upd hUd hj (by omega)
        refine zh ?_
        refine aK rfl rfl (hxd.cellsAdd) (Jl _) (J1 _) (⟨x, rfl, hUz.priv hT hj, ?_⟩)
        rw[hM]
        exact⟨hbd.fgt h.tag, (hnt6.upd hUd).low hUz⟩
      · skip
        refine cd (d := 30) rfl (b' := false) ((beq_eq_false_iff_ne.2 (by omega))) ?_
        refine zh ?_
        refine zw (bC rfl rfl) ?_
        refine WS.nil ?_
        refine zh ?_
        refine aR rfl rfl ?_
        generalize w5.drew = w6 at *
        refine zh ?_
        refine zv (af (us := aV x) hn6.cellsAdd (Jl _) (J1 _) rfl) ?_
        refine zsb (us := #[.int .i64 x.1, .int .i64 x.2.1, x.2.2]) hx6 (J1 _) (bZ hxo) ?_
        have hxd := BlkO.setRow (us := #[.int .i64 x.1, .int .i64 x.2.1, x.2.2]) hx6
        have hUd:Upd (fun k => k = T) O3 w6 O3 (JH w6 xb #[.int .i64 x.1, .int .i64 x.2.1, x.2.2]) := Upd.setRow (by omega) (BlkO.tag hx6) rfl
        have hUz := hUt6.trans (hUd.pT hj hT0 (J4 _))
        have hbd := hb6.upd hUd hj (by omega)
        refine zh ?_
        refine aK rfl rfl (hxd.cellsAdd) (Jl _) (J1 _) (⟨x, rfl, hUz.priv hT hj, ?_⟩)
        rw[hM]
        exact⟨hbd.fgt h.tag, (hnt6.upd hUd).low hUz⟩
    |some k =>
      have hM:eU kn al r = .ok (.mk (6 + (k:Nat)) 0 [t]) (au r1).tail := by unfold eU; rw[hf]; dsimp only; rw[hk]
      obtain⟨k1, k2⟩ := bY (Dn hk)
      have hk3:k ≤ 2 := by
        unfold opM at hk
        (repeat' split at hk) <;> simp at hk <;> omega
      refine cd (d := 30) rfl (b' := false) ((beq_eq_false_iff_ne.2 (by omega))) ?_
      refine zh ?_
      refine zw (bC rfl rfl) ?_
      refine WS.nil ?_
      refine zh ?_
      refine aN rfl ((decide_eq_false (by simp))) ?_
      generalize w5.drew = w6 at *
      refine zh ?_
      refine zvH (RV.ld hb6.r1 rfl) ?_
      refine aj (j := 1) hb6 rfl (Jk _) rfl rfl rfl rfl ?_
      rw[show((l.length:Int) - ((au r1).length:Int)) + 1 = (l.length:Int) - ((au r1).tail.length:Int)from by omega]
      have hb7 := BlkO.rAt hb6 ((l.length:Int) - ((au r1).tail.length:Int))
      have hU7:Upd (fun k => k = j) O3 w6 O3 (Jt w6 ⟨rb, 1, none⟩ (.int .i64 ((l.length:Int) - ((au r1).tail.length:Int)))) := Upd.set (fun e => hj e.symm) (BlkO.tag hb6) rfl
      have hx7 := hx6.upd hU7 (by omega) (by omega)
      have hn7 := hn6.upd hU7 (by omega) (by omega)
      have hR7 := hR6.upd hU7
      have hUt7 := hUt6.trans (hU7.pj hT0)
      have hnt7 := hnt6.upd hU7
      generalize Jt w6 ⟨rb, 1, none⟩ (.int .i64 ((l.length:Int) - ((au r1).tail.length:Int))) = w7 at *
      refine zh ?_
      refine zv (RV.add rfl rfl (Fit.i64 (by dsimp only; omega))) ?_
      refine zv (af (us := aV x) hn7.cellsAdd (Jl _) (J1 _) rfl) ?_
      refine aJ elN (enc := aV) x rfl rfl rfl (by decide) rfl ?_
      intro w8 h8 hE8
      have hX8:Upd (fun _ => False) O3 w7 O3 w8 := aa (fun h => h) O3 hE8
      have hx8 := hx7.upd hX8 (by omega) (fun h => h)
      have hb8 := hb7.upd hX8 hj (fun h => h)
      have hUt8 := hUt7.trans (jt O3 hE8 hj hT0)
      have hnt8 := hnt7.upd hX8
      have hfr:Free O3 w8 (.slice (some ⟨w7.heap.size, 0, none⟩) 1 1) := fun a n c e _ => by
        cases e
        refine⟨Jh fun hne => by have := (hR7.rng _ hne).2; simp at this, ?_⟩
        obtain⟨_, _, e, _, _, hh⟩ := h8.shape
        have hc := Kd _ _ (h8.cells 0 (by simp) 0 _ rfl)
        simpa[adr, Jw]using hc
      have hN:Nt O3 w8 (.mk (6 + (k:Nat)) 0 [t]) (6 + (k:Nat), 0, .slice (some ⟨w7.heap.size, 0, none⟩) 1 1) :=
        .mk (xs := [x]) h8 hfr rfl (fun i hi => by obtain rfl : i = 0 := by simpa using hi
                                                   rw[ay, ay]; exact hnt8)
      have hxo2:((6 + (k:Nat), 0, .slice (some ⟨w7.heap.size, 0, none⟩) 1 1):N3).2.2.oneCell' = true := rfl
      clear hxo
      have hxo := hxo2
      refine zv (aF vT (Jp _) rfl (by first | rfl | (simp only[JC, KK]; rfl)) rfl rfl) ?_
      refine zsb (us := #[.int .i64 ((6 + (k:Nat), 0, .slice (some ⟨w7.heap.size, 0, none⟩) 1 1):N3).1, .int .i64 ((6 + (k:Nat), 0, .slice (some ⟨w7.heap.size, 0, none⟩) 1 1):N3).2.1, ((6 + (k:Nat), 0, .slice (some ⟨w7.heap.size, 0, none⟩) 1 1):N3).2.2]) hx8 (J1 _) (bZ hxo) ?_
      have hxd := BlkO.setRow (us := #[.int .i64 ((6 + (k:Nat), 0, .slice (some ⟨w7.heap.size, 0, none⟩) 1 1):N3).1, .int .i64 ((6 + (k:Nat), 0, .slice (some ⟨w7.heap.size, 0, none⟩) 1 1):N3).2.1, ((6 + (k:Nat), 0, .slice (some ⟨w7.heap.size, 0, none⟩) 1 1):N3).2.2]) hx8
      have hUd:Upd (fun k => k = T) O3 w8 O3 (JH w8 xb #[.int .i64 ((6 + (k:Nat), 0, .slice (some ⟨w7.heap.size, 0, none⟩) 1 1):N3).1, .int .i64 ((6 + (k:Nat), 0, .slice (some ⟨w7.heap.size, 0, none⟩) 1 1):N3).2.1, ((6 + (k:Nat), 0, .slice (some ⟨w7.heap.size, 0, none⟩) 1 1):N3).2.2]) := Upd.setRow (by omega) (BlkO.tag hx8) rfl
      have hUz := hUt8.trans (hUd.pT hj hT0 (J4 _))
      have hbd := hb8.upd hUd hj (by omega)
      refine zh ?_
      refine aK rfl rfl (hxd.cellsAdd) (Jl _) (J1 _) (⟨_, rfl, hUz.priv hT hj, ?_⟩)
      rw[hM]
      exact⟨hbd.fgt h.tag, (hN.upd hUd).low hUz⟩
end
end Go.Proofs.YtjemhjcngaokpaaGreatDoor
