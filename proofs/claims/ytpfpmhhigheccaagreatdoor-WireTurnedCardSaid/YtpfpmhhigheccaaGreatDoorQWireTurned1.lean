/- Texts that the proof of this statement needs, merged and shortened. -/
import Derived.Test.YtpfpmhhigheccaaGreatDoorRows
import Derived.Test.YtpfpmhhigheccaaGreatDoorCards
import Derived.Test.YtpfpmhhigheccaaGreatDoorTie
import Derived.SevenTiedAt
import Derived.LaidMore
import Derived.LaidHandle
import Derived.LaidLaws
import Derived.Lay
import Derived.Lib.LaidTab
import Derived.Calls
import Derived.Tactics
import Derived.Deep.Quiet
import Derived.Below
import Derived.OwnWalk
import Derived.IntWalk
import Derived.Deep.LoopGhost
import Derived.Great.BuildSlice
import Derived.OrdersHeld
import Derived.StillTail
import Derived.WalkKit
import Derived.ProofKit
import Derived.OpenShut
import Derived.ShutString
import Derived.ChangeOld
import Derived.Deep.Matrix
import Derived.Deep.Slices
import Derived.Test.YtpfpmhhigheccaaGreatDoorChecked
import Derived.Laws.Strings3
import Derived.Laws.Concat
import Derived.Laws.Slices
import Derived.Laws.Cover3
import Derived.Laws.Pointers
import Derived.Laws.OwnMore
import Derived.Laws.IdiomStrings
import Derived.Laws.BytesArg
import Derived.RangeFuncLeaves
import Derived.RangeFuncCalls
import Derived.RangeFuncSeq
import Derived.TacticsIn
import Derived.Laws.LoneSync
import Derived.Laws.CopyRow
import Derived.Lib.Builder
import Derived.Lib.AppendStr
import Derived.Lib.UnsafeStr
import Derived.Laws.RangeString
import Derived.Scope
import Derived.Test.YtpfpmhhigheccaaGreatDoorProg
import Derived.Shelf.Sort.Plain
import Derived.Shelf.Slices.In.SortNone
import Derived.Ground.Names2Prog
import Derived.Shelf.Slices.CompactI
import Derived.Sort.OwnSortedInts
import Derived.Maps.RangeRun
import Derived.ChangeKeysEq
import Derived.Lib.SliceRun
import Derived.Shelf.Spec.TrailingZeros
import Derived.ArgAppend
import Derived.Lib.SlBytesConst
import Derived.Deep.Upon
open Go renaming Value->ix,World->ka,TypeId->ln,Operand->G2,Program->G7,IntKind->GR,Oper->GU,Exit->I9,sizeOf->Ib,Addr->Ie,Act->Iq,Deferred->Is,Edge->IJ,Code->IT,zeroValue->IV,FuncId->J1,Field->JM,isAgg->KS,MapEntry->KU,Func->Li,Tmp->Lu,BinOp->LJ
open Nat renaming blt->G0,eq_of_beq_eq_true->G8,le_refl->GS,zero_add->Ig,beq->Ij,zero_le->Im,lt_of_lt_of_le->IF,le_of_ble_eq_true->IL,le_trans->IY,add_mul->Je,zero_mul->Jy,mul_one->JD,not_lt_zero->JJ,lt_succ_iff_lt_or_eq->JZ,add_assoc->K0,sub_self->Kb,add_zero->Kc,pos_of_ne_zero->KF,ble->KL,min_eq_left->L0,add_comm->Lh
open Go.Result renaming andThen_ok->G1,ok->Le
open Array renaming getD_eq_getD_getElem?->G4,replicate->JB,getElem?_setIfInBounds->JC,toList_setIfInBounds->JN,getElem?_eq_some_iff->JO,getElem?_modify->K8,toList_modify->Ki,length_toList->Kj,toList_push->Kw
open Go.Sem renaming run_bind->G5,run_pure->I2,run->JP
open Go.Proofs.Tryz renaming prog->G6,sizeOf86->GY,sizeOf3->I8,sizeOf25->Ir,zeroValue86->IB,isAgg86->IG,underlying9->IK,underlying32->IQ,underlying201->IW,underlying145->IX,underlying237->J7,underlying165->J8,underlying148->J9,underlying27->Jd,underlying86->JG,underlying84->JH,sizeOf9->K4,sizeOf4->K5,underlying174->Kk,underlying170->Kl,underlying167->Km,zeroValue241->Kx,underlying88->Ky,underlying81->Kz,underlying79->KA,underlying75->KB,underlying49->KC,underlying44->KD,sizeOf89->KP,sizeOf84->KQ,sizeOf24->KR,sizeOf241->Lc,sizeOf79->Lm,sizeOf42->Ln,sizeOf33->Lo,sizeOf28->Lp,underlying241->Lq,underlying235->Lr,underlying218->Ls,underlying127->Lt,underlying91->Lw,underlying61->Lx,underlying30->Ly
open List renaming map_toArray->G9,getElem?_eq_some_iff->GV,map_cons->GW,getElem?_eq_getElem->I1,length_cons->I5,eq_nil_of_length_eq_zero->I6,getD_eq_getElem?_getD->Ia,map_nil->If,mem_singleton->Io,getElem_cons_zero->Ip,take_append_drop->Iu,dropWhile_suffix->Iv,range->Iy,getElem_append_right->IA,getElem_append_left->IC,findIdx?_cons->IE,getElem_mem->IM,cons_append->IN,all_cons->IS,mem_range->J0,flatMap_cons->J2,suffix_cons->J5,getElem?_eq_none->Jb,length_append->Jm,find?_eq_none->Jn,findIdx?_eq_some_iff_getElem->Jq,take_succ_eq_append_getElem->Jr,size_toArray->Js,mem_map->Jt,getElem?_map->Ju,append_assoc->Jv,takeWhile_append_dropWhile->Jz,nil_append->JE,mem_append->JF,take_zero->JQ,replicate->JR,map->JS,getElem?_append_right->JT,dropWhile_cons_of_pos->JU,findIdx?_eq_none_iff->JV,take->K1,drop_eq_nil_of_le->K6,all_nil->K7,getElem?_modify->Kg,getElem_of_mem->Ko,getElem_range->Ku,ext_getElem?->KG,take_length->KM,suffix_refl->KN,all_eq_true->KO,length_nil->KV,foldl_cons->KW,append_nil->KX,take_left->L1,findIdx?->L5
open Classical renaming byContradiction->GT
open Go.Region renaming ready->GX,wanted->GZ,noSelect->I0,free->Ic,lexB->L4
open Option renaming map_some->I3,map_none->Il,bind_some->Kq
open Go.Addr renaming add->I4
open Int renaming toNat_natCast->I7
open Go.Value renaming oneCell'->Ih,string->Jo,ownBlock->JI,int->JY,cells->K9,bool->Ld
open Go.Instr renaming sureAddr->Ii,findNow->IP,fill->IZ,storeAt->Jg,keyThatStays->Jk,mapUpdate->JA,sameBits->JK,checkKey->JL,indexAt->JW,findKey->JX,sameNow->L2,lookup->L6,loadAt->L7,build->Lb
open Bool renaming and_eq_true->Ik,not_eq_true'->KH,eq_false_iff->KI
open Go.Act renaming eval->It,put->Jh
open Go.Calls renaming mono->Iw
open Go.Exit renaming inBlock->Iz
open Go.Fence renaming wide->ID
open List.IsSuffix renaming trans->IH,length_le->Jw
open Go.Deferred renaming ofValue->II
open Go.Oper renaming wp->IR,upon->J4,uponIn->Kf,quietAt->La,still->Ll
open Option.some renaming injEq->IU
open Go.World renaming block_lt_of_cell?->J3,setCell->Jf,cells?_some->Kp,cell?_spot->KE,frozen?->KY,cell?->L9
open Go.DataW renaming trod->J6
open Go.IntKind renaming signed->Ja,bits->Jj,max->K2,wrap->LQ
open Go.Code renaming region->Jc
open Go.Op renaming intCmp->Ji,intArith->Kr,intBits->Lv,intDiv->Lz,shift->LG
open Go.Builtin renaming zeroCells->Jl,append_->Kv,len_->LV,lenOf->LW,firstCells->LX
open Go.RowKit.Below renaming heap_setCell->Jp,refl->Lj,heap_alloc->Lk
open UInt8 renaming ofNat->Ka
open Function renaming comp_def->Kd
open Go.Extern.BytealgIndexByte renaming indexByte->Ke
open List.cons renaming injEq->Kh
open Go.Rows renaming mono->KJ
open Prod.mk renaming injEq->KK
open Go.Program renaming elem->KT
open Prod renaming fst->KZ
open BitVec renaming ofInt->L3
open Go.Conv renaming intToInt->L8
open Go.ByteArray renaming toList_mk->LA,extract_mk->LF
open ByteArray renaming toList->LB,size->LC,getElem_eq_getElem_data->LD
open Go.Lit renaming int->LH
open Go.StepsIn renaming trans->LK
open Go.Machine renaming fenced->LL
open Go.IntWalk renaming u8_in->LN,u64_in->LO,i64_in->LP
open Go.CallsIn renaming mono->LU
namespace Go.VL
theorem zo{A:Prop}(h:A:=by omega):A:=h
theorem zd{A:Prop}(h:A:=by decide):A:=h
theorem zk{A:Prop}(h:A:=by kernel_rfl):A:=h
theorem dT{p q:Prop}[Decidable p](h:decide p=true)(k:p→q:=by intro h;omega):q:=k (of_decide_eq_true h)
theorem dF{p q:Prop}[Decidable p](h:decide p=false)(k:¬p→q:=by intro h;omega):q:=k (of_decide_eq_false h)
abbrev nI(n:Int):ix:=.int .i64 n
abbrev nP(b:Nat):ix:=.pointer (some ⟨b,0,none⟩)
abbrev nA(b k:Nat):Ie:=(⟨b,0,none⟩:Ie).add k
abbrev nS:ix:=.slice none 0 0
end Go.VL
section
namespace Go.VL
abbrev St:=List (Nat×ix)
def cm:St->Nat->Option ix
 |[],_=>none
 |(k,v)::r,t=>bif Ij k t then some v else cm r t
structure Fits(N:Nat)(a:Iq)(st:St):Prop where
 size:a.tmps.size=N
 defers:a.defers=[]
 get:∀t v,cm st t=some v->a.tmps[t]? = some v
def ev(st:St):G2->Option ix
 |.tmp t=>cm st t
 |.const v=>some v
 |.global g=>some (nP g)
 |.func f=>some (.func (.func f) #[] #[])
def Cov(st:St):St->Prop
 |[]=>True
 |(t,v)::r=>cm st t=some v/\Cov st r
theorem Fits.ev{N:Nat}{a:Iq}{st:St}(h:Fits N a st){x:G2}{v:ix}(he:ev st x=some v):a.eval x=v:=by
 cases x with
 |tmp t=>
  have:=h.get t v he;simp[It,G4,this]
 |const u=>simpa[VL.ev,It]using he
 |global g=>simpa[VL.ev,It]using he
 |func f=>simpa[VL.ev,It]using he
theorem Fits.cov{N:Nat}{a:Iq}{st:St}(h:Fits N a st):∀ {a0:St},Cov st a0->Fits N a a0:=by
 intro a0 hc;refine⟨h.size,h.defers,?_⟩
 induction a0 with
 |nil=>intro t v hv;simp[cm]at hv
 |cons p r ih=>
  obtain⟨k,u⟩:=p;obtain⟨h1,h2⟩:=hc;intro t v hv;simp only[cm]at hv
  cases hb:Ij k t with
  |true=>
   rw[hb]at hv;have:k=t:=G8 hb;simp at hv;subst this;subst hv;exact h.get _ _ h1
  |false=>rw[hb]at hv;exact ih h2 t v hv
theorem Fits.put{N:Nat}{a:Iq}{st:St}(h:Fits N a st){d:Nat}(hd:G0 d N=true)(v:ix):Fits N (a.put (some d) v) ((d,v)::st):=by
 have a0:d<a.tmps.size:=by rw[h.size];exact IL hd
 refine⟨by simp[Jh,h.size],h.defers,?_⟩;intro t u hu;simp only[cm]at hu;simp only[Jh,JC]
 cases hb:Ij d t with
 |true=>
  have:d=t:=G8 hb;rw[hb]at hu;simp at hu;subst this;subst hu;simp[a0]
 |false=>
  have:d≠t:=fun e=>by rw[e]at hb;simp at hb
  rw[hb]at hu;rw[if_neg this];exact h.get t u hu
section
variable(P:G7)(N:Nat)
def WL(ops:Array GU)(Q:I9->Iq->ka->Prop)(l:List GU)(st:St)(w:ka):Prop:=∀a,Fits N a st->wpList P ops Q l a w
def WC(c:IT)(Q:I9->Iq->ka->Prop)(st:St)(w:ka):Prop:=∀a,Fits N a st->c.wp P Q a w
def QF(Q:I9->Iq->ka->Prop)(e:I9)(st:St)(w:ka):Prop:=∀a,Fits N a st->Q e a w
end
section
variable{P:G7}{N:Nat}{ops:Array GU}{Q:I9→Iq→ka→Prop}{rest:List GU}{st:St}{w:ka}
theorem WC.region{id:Nat}{l:List GU}(h:WL P N l.toArray Q l st w):WC P N (Jc id l.toArray false) Q st w:=fun a ha=>wp_region_lit (h a ha)
theorem WL.nil(h:QF N Q .normal st w):WL P N ops Q [] st w:=h
theorem WC.seq{x y:IT}(h:WC P N x (Exit.then (y.wp P Q) Q) st w):WC P N (.seq x y) Q st w:=fun a ha=>wp_seq (h a ha)
theorem WC.skip(h:QF N Q .normal st w):WC P N .skip Q st w:=fun a ha=>wp_skip (h a ha)
theorem WC.exit{id:Nat}(h:QF N Q (.exit id) st w):WC P N (.exit id) Q st w:=fun a ha=>wp_exit (h a ha)
theorem WC.ret(h:QF N Q .ret st w):WC P N .ret Q st w:=fun a ha=>wp_ret (h a ha)
theorem WC.block{id:Nat}{c:IT}(h:WC P N c (Iz id Q) st w):WC P N (.block id c) Q st w:=fun a ha=>wp_block (h a ha)
theorem WC.cond{c:G2}{x y:IT}{b:Bool}(hc:ev st c=some (.bool b))(ht:b=true->WC P N x Q st w)(hf:b=false->WC P N y Q st w):WC P N (.cond c x y) Q st w:=
 fun a ha=>wp_cond_split (ha.ev hc) (fun e=>ht e a ha) (fun e=>hf e a ha)
theorem AP{c:G2}{x y:IT}(hc:ev st c=some (.bool true))(ht:WC P N x Q st w):WC P N (.cond c x y) Q st w:=
 fun a ha=>wp_cond_true (ha.ev hc) (ht a ha)
theorem AQ{c:G2}{x y:IT}(hc:ev st c=some (.bool false))(hf:WC P N y Q st w):WC P N (.cond c x y) Q st w:=
 fun a ha=>wp_cond_false (ha.ev hc) (hf a ha)
theorem ai{y:IT}{Q':I9->Iq->ka->Prop}(h:WC P N y Q st w):QF N (Exit.then (y.wp P Q) Q') .normal st w:=h
theorem aS{K:Iq->ka->Prop}{id:Nat}(h:QF N Q (.exit id) st w):QF N (Exit.then K Q) (.exit id) st w:=h
theorem bJ{K:Iq->ka->Prop}(h:QF N Q .ret st w):QF N (Exit.then K Q) .ret st w:=h
theorem bp{id:Nat}(h:QF N Q .normal st w):QF N (Iz id Q) .normal st w:=h
theorem gh{id:Nat}(h:QF N Q .ret st w):QF N (Iz id Q) .ret st w:=h
theorem bQ{id:Nat}(h:QF N Q .normal st w):QF N (Iz id Q) (.exit id) st w:=fun a ha=>by
 show if id=id then _ else _
 rw[if_pos rfl];exact h a ha
theorem au{d:Nat}{b b':Bool}{l:List GU}(hs:cm st d=some (.bool b))(hb:b=b')(h:WL P N ops Q l ((d,.bool b')::st) w):WL P N ops Q l st w:=by
 subst hb;refine fun a ha=>h a ⟨ha.size,ha.defers,fun t v hv=>?_⟩
 simp only[cm]at hv
 cases hb:Ij d t with
 |true=>rw[hb]at hv;have:=G8 hb;subst this;simp at hv;subst hv;exact ha.get _ _ hs
 |false=>rw[hb]at hv;exact ha.get _ _ hv
theorem aO{c:G2}{x y:IT}{b:Bool}(hc:ev st c=some (.bool b))(hb:b=true)(ht:WC P N x Q st w):WC P N (.cond c x y) Q st w:=by
 subst hb;exact AP hc ht
theorem aN{c:G2}{x y:IT}{b:Bool}(hc:ev st c=some (.bool b))(hb:b=false)(hf:WC P N y Q st w):WC P N (.cond c x y) Q st w:=by
 subst hb;exact AQ hc hf
theorem QF.weaken{e:I9}{a0:St}(hc:Cov st a0)(h:QF N Q e a0 w):QF N Q e st w:=fun a ha=>h a (ha.cov hc)
theorem WC.loop{α:Type}{c:IT}(f:α->St)(g:α->ka)(I:α->Prop)(μ:α->Nat)(x0:α)(h0:I x0)(hc:Cov st (f x0))(hw:g x0=w)
  (a0:∀x,I x->WC P N c (Exit.then (fun a' w'=>∃y,I y/\μ y<μ x/\Fits N a' (f y)/\g y=w') Q) (f x) (g x)):WC P N (.loop c) Q st w:=by
 intro a ha;refine wp_loop_ghost (fun n a w=>∃y,I y/\μ y=n/\Fits N a (f y)/\g y=w) (μ x0) ⟨x0,h0,rfl,ha.cov hc,hw⟩ ?_;rintro n a w ⟨x,hI,rfl,hf,rfl⟩;refine wp_mono (a0 x hI a hf) ?_;intro e a' w' hq
 cases e with
 |normal=>obtain⟨y,h1,h2,h3,h4⟩:=hq;exact⟨μ y,h2,y,h1,rfl,h3,h4⟩
 |_=>exact hq
theorem QF.next{α:Type}{f:α->St}{g:α->ka}{I:α->Prop}{m:Nat}{μ:α->Nat}(y:α)(h1:I y)(h2:μ y<m)(h3:Cov st (f y))(h4:g y=w):
 QF N (Exit.then (fun a' w'=>∃y,I y/\μ y<m/\Fits N a' (f y)/\g y=w') Q) .normal st w:=fun _ ha=>⟨y,h1,h2,ha.cov h3,h4⟩
theorem bN{o:GU}(h:o.guard=none)(y:Nat->Option Bool):GZ o y=true:=by simp[GZ,h]
theorem WL.step{o:GU}(hg:o.guard=none)(h:∀a,Fits N a st->o.wp P a w (wpList P ops Q rest) Q):WL P N ops Q (o::rest) st w:=by
 intro a ha;unfold wpList;rw[if_pos (bN hg _)];exact .inl (h a ha)
theorem WL.val{op:Op}{t:ln}{p:String}{e:Array IJ}{d:Nat}{v:ix}{w':ka}(hd:G0 d N=true)
  (a0:∀a:Iq,Fits N a st->(execOp a.eval ⟨some d,op,t,p,e,none⟩).run P w=.ok (.value v) w')
  (h:WL P N ops Q rest ((d,v)::st) w'):WL P N ops Q (⟨some d,op,t,p,e,none⟩::rest) st w:=by
 refine WL.step rfl fun a ha=>?_
 unfold IR;rw[a0 a ha];exact h _ (ha.put hd v)
theorem gX{op:Op}{t:ln}{p:String}{e:Array IJ}{w':ka}
  (a0:∀a:Iq,Fits N a st->(execOp a.eval ⟨none,op,t,p,e,none⟩).run P w=.ok .skip w')
  (h:WL P N ops Q rest st w'):WL P N ops Q (⟨none,op,t,p,e,none⟩::rest) st w:=by
 refine WL.step rfl fun a ha=>?_
 unfold IR;rw[a0 a ha];exact h _ ha
def said(ops:Array GU)(st:St)(j:Nat):Option Bool:=
 match (ops[j]?).bind (·.dst)with
 |some d=>match cm st d with
  |some (.bool b)=>some b
  |_=>none
 |none=>none
theorem bT{a:Iq}(ha:Fits N a st){j:Nat}{b:Bool}(h:said ops st j=some b):yielded ops a.tmps j=some b:=by
 unfold said at h;unfold yielded
 cases hd:(ops[j]?).bind (·.dst)with
 |none=>rw[hd]at h;simp at h
 |some d=>
  rw[hd]at h;simp only at h
  cases hs:cm st d with
  |none=>rw[hs]at h;simp at h
  |some v=>
   rw[hs]at h
   cases v<;>simp at h
   subst h;simp[ha.get _ _ hs]
theorem bM{op:Op}{t:ln}{p:String}{e:Array IJ}{d:Option Lu}{j:Nat}{b:Bool}(hs:said ops st j=some b)
  (h:WL P N ops Q (⟨d,op,t,p,e,none⟩::rest) st w):WL P N ops Q (⟨d,op,t,p,e,some (j,b)⟩::rest) st w:=by
 intro a ha;have h1:=h a ha;unfold wpList at h1 ⊢;rw[if_pos (by simp[GZ])]at h1;rw[if_pos (by simp[GZ,bT ha hs])];exact h1
theorem WL.off{op:Op}{t:ln}{p:String}{e:Array IJ}{d:Nat}{j:Nat}{b b':Bool}(hs:said ops st j=some b')(a0:(b'==b)=false)(hd:G0 d N=true)
  (h:WL P N ops Q rest ((d,undef)::st) w):WL P N ops Q (⟨some d,op,t,p,e,some (j,b)⟩::rest) st w:=by
 intro a ha;unfold wpList;rw[if_neg (by simp[GZ,bT ha hs];simpa using a0)];exact h _ (ha.put hd undef)
def mu(ops:Array GU)(st:St)(j:Nat):Bool:=
 match (ops[j]?).bind (·.dst)with
 |some d=>match cm st d with
  |some (.tuple _)=>true
  |_=>false
 |none=>false
theorem gY{op:Op}{t:ln}{p:String}{e:Array IJ}{d:Nat}{j:Nat}{b:Bool}(hs:mu ops st j=true)(hd:G0 d N=true)
  (h:WL P N ops Q rest ((d,undef)::st) w):WL P N ops Q (⟨some d,op,t,p,e,some (j,b)⟩::rest) st w:=by
 intro a ha;unfold wpList;rw[if_neg ?_]
 ·exact h _ (ha.put hd undef)
 unfold mu at hs;simp only[GZ,yielded]
 cases hd:(ops[j]?).bind (·.dst)with
 |none=>rw[hd]at hs;simp at hs
 |some d=>
  rw[hd]at hs;simp only at hs
  cases hx:cm st d with
  |none=>rw[hx]at hs;simp at hs
  |some v=>
   rw[hx]at hs
   cases v<;>simp at hs
   simp[ha.get _ _ hx]
def RV(P:G7)(N:Nat)(op:Op)(t:ln)(st:St)(w:ka)(v:ix):Prop:=
 ∀a:Iq,Fits N a st->∀(dst:Option Lu) (p:String) (e:Array IJ) (g:Option (Nat×Bool)),(execOp a.eval ⟨dst,op,t,p,e,g⟩).run P w=.ok (.value v) w
theorem bE{op:Op}{t:ln}{p:String}{e:Array IJ}{d:Nat}{v:ix}(hv:RV P N op t st w v)(hd:G0 d N=true)
 (h:WL P N ops Q rest ((d,v)::st) w):WL P N ops Q (⟨some d,op,t,p,e,none⟩::rest) st w:=WL.val hd (fun a ha=>hv a ha _ _ _ _) h
section
variable{t:ln}{p:String}{e:Array IJ}{d:Nat}{x y z:G2}
theorem RV.move{v:ix}(hx:ev st x=some v):RV P N (.move x) t st w (v):=
 fun a ha a0 p e g=>by simp only[execOp,ha.ev hx];rfl
theorem RV.assign{v:ix}(hx:ev st x=some v):RV P N (.assign x) t st w (v):=
 fun a ha a0 p e g=>by simp only[execOp,ha.ev hx];rfl
theorem ir{a:Iq}{b:Bool}{a0:Option Lu}{g:Option (Nat×Bool)}(hx:a.eval x=.bool b):(execOp a.eval ⟨a0,.pick x y z,t,p,e,g⟩).run P w=.ok (.value (bif b then a.eval y else a.eval z)) w:=by
 simp only[execOp,hx];cases b<;>rfl
theorem bh{u:ix}(hc:ev st x=some (.bool false))(hz:ev st z=some u):RV P N (.pick x y z) t st w (u):=
 fun a ha a0 p e g=>by rw[ir (ha.ev hc),ha.ev hz];rfl
theorem bz{v:ix}(hc:ev st x=some (.bool true))(hy:ev st y=some v):RV P N (.pick x y z) t st w (v):=
 fun a ha a0 p e g=>by rw[ir (ha.ev hc),ha.ev hy];rfl
theorem aq{q:Ie}(hx:ev st x=some (.pointer (some q))):RV P N (.nilCheck x) t st w (.pointer (some q)):=
 fun a ha a0 p e g=>by simp only[execOp,ha.ev hx];rfl
section
variable{k:GR}{m n:Int}{xt yt:ln}
theorem tm{op:LJ}{k k':GR}{m n:Int}{a:Iq}{a0:Option Lu}{g:Option (Nat×Bool)}(hx:a.eval x=.int k m)(hy:a.eval y=.int k' n){v:ix}(h:(binOp op xt (.int k m) (.int k' n)).run P w=.ok v w):
  (execOp a.eval ⟨a0,.binOp op xt x y yt,t,p,e,g⟩).run P w=.ok (.value v) w:=by
 simp only[execOp,hx,hy];have hg:(eqGuard op xt x y (.int k m) (.int k' n))=pure ():=by
  unfold eqGuard;cases op<;>rfl
 rw[hg];simp[h]
theorem dx{op:LJ}{k':GR}{v:ix}(hx:ev st x=some (.int k m))(hy:ev st y=some (.int k' n))(hv:(binOp op xt (.int k m) (.int k' n)).run P w=.ok v w):RV P N (.binOp op xt x y yt) t st w (v):=
 fun _ ha _ _ _ _=>tm (ha.ev hx) (ha.ev hy) hv
theorem CX:(binOp .add xt (.int k m) (.int k n)).run P w=.ok (.int k (k.wrap (m+n))) w:=by simp[binOp,Kr,pure]
theorem CN:(binOp .sub xt (.int k m) (.int k n)).run P w=.ok (.int k (k.wrap (m-n))) w:=by simp[binOp,Kr,pure]
theorem yQ:(binOp .mul xt (.int k m) (.int k n)).run P w=.ok (.int k (k.wrap (m*n))) w:=by simp[binOp,Kr,pure]
theorem CP(hn:n≠0):(binOp .quo xt (.int k m) (.int k n)).run P w=.ok (.int k (k.wrap (m.tdiv n))) w:=by simp[binOp,Lz,hn,pure]
theorem CO(hn:n≠0):(binOp .rem xt (.int k m) (.int k n)).run P w=.ok (.int k (m.tmod n)) w:=by simp[binOp,Lz,hn,pure]
theorem CR:(binOp .lss xt (.int k m) (.int k n)).run P w=.ok (.bool (decide (m<n))) w:=by simp[binOp,Ji,pure]
theorem CS:(binOp .leq xt (.int k m) (.int k n)).run P w=.ok (.bool (decide (m<=n))) w:=by simp[binOp,Ji,pure]
theorem CT:(binOp .gtr xt (.int k m) (.int k n)).run P w=.ok (.bool (decide (n<m))) w:=by simp[binOp,Ji,pure]
theorem CU:(binOp .geq xt (.int k m) (.int k n)).run P w=.ok (.bool (decide (n<=m))) w:=by simp[binOp,Ji,pure]
theorem CV:(binOp .eql xt (.int k m) (.int k n)).run P w=.ok (.bool (m==n)) w:=by simp[binOp,Ji,pure]
theorem CQ:(binOp .neq xt (.int k m) (.int k n)).run P w=.ok (.bool (m != n)) w:=by simp[binOp,Ji,pure]
def Fit(k:GR)(r:Int):Prop:=k.wrap r=r
theorem Fit.i64{r:Int}(h : -9223372036854775808<=r/\r<=9223372036854775807):Fit .i64 r:=LP r h
theorem Fit.u8{r:Int}(h:0<=r/\r<=255):Fit .u8 r:=LN r h
theorem Fit.u64{r:Int}(h:0<=r/\r<=18446744073709551615):Fit .u64 r:=LO r h
theorem RV.add(hx:ev st x=some (.int k m))(hy:ev st y=some (.int k n))(hr:Fit k (m+n)):RV P N (.binOp .add xt x y yt) t st w (.int k (m+n)):=
 dx hx hy (by rw[CX,hr])
theorem RV.sub(hx:ev st x=some (.int k m))(hy:ev st y=some (.int k n))(hr:Fit k (m-n)):RV P N (.binOp .sub xt x y yt) t st w (.int k (m-n)):=
 dx hx hy (by rw[CN,hr])
theorem RV.mul(hx:ev st x=some (.int k m))(hy:ev st y=some (.int k n))(hr:Fit k (m*n)):RV P N (.binOp .mul xt x y yt) t st w (.int k (m*n)):=
 dx hx hy (by rw[yQ,hr])
theorem RV.lss(hx:ev st x=some (.int k m))(hy:ev st y=some (.int k n)):RV P N (.binOp .lss xt x y yt) t st w (.bool (decide (m<n))):=
 dx hx hy CR
theorem RV.leq(hx:ev st x=some (.int k m))(hy:ev st y=some (.int k n)):RV P N (.binOp .leq xt x y yt) t st w (.bool (decide (m<=n))):=
 dx hx hy CS
theorem RV.gtr(hx:ev st x=some (.int k m))(hy:ev st y=some (.int k n)):RV P N (.binOp .gtr xt x y yt) t st w (.bool (decide (n<m))):=
 dx hx hy CT
theorem RV.geq(hx:ev st x=some (.int k m))(hy:ev st y=some (.int k n)):RV P N (.binOp .geq xt x y yt) t st w (.bool (decide (n<=m))):=
 dx hx hy CU
theorem RV.eql(hx:ev st x=some (.int k m))(hy:ev st y=some (.int k n)):RV P N (.binOp .eql xt x y yt) t st w (.bool (m==n)):=
 dx hx hy CV
theorem RV.neq(hx:ev st x=some (.int k m))(hy:ev st y=some (.int k n)):RV P N (.binOp .neq xt x y yt) t st w (.bool (m != n)):=
 dx hx hy CQ
theorem RV.not{b:Bool}(hx:ev st x=some (.bool b)):RV P N (.unOp .not xt x) t st w (.bool (!b)):=
 fun a ha a0 p e g=>by simp only[execOp,ha.ev hx];rfl
theorem dm{k':GR}{a0:TypeDesc}(hs:P.underlying xt=some a0)(a2:P.underlying yt=some (.int k'))(hx:ev st x=some (.int k m))(hr:Fit k' m):RV P N (.convert xt yt x) t st w (.int k' m):=
 fun a ha a3 p e g=>by
  have a1:k'.wrap m=m:=hr;simp only[execOp,ha.ev hx];simp[convert,run_underlying hs,run_underlying a2,L8,a1]
theorem iM{k':GR}{a0:TypeDesc}(hs:P.underlying xt=some a0)(a1:P.underlying yt=some (.int k'))(hx:ev st x=some (.int k m)):RV P N (.convert xt yt x) t st w (.int k' (k'.wrap m)):=
 fun a ha a2 p e g=>by
  simp only[execOp,ha.ev hx];simp[convert,run_underlying hs,run_underlying a1,L8]
end
theorem RV.extract{vs:Array ix}{i:Nat}{v:ix}(hx:ev st x=some (.tuple vs))(hv:vs[i]? = some v):RV P N (.extract x i) t st w (v):=
 fun a ha a0 p e g=>by simp only[execOp,ha.ev hx];simp[Instr.extract,hv]
def evs(st:St):List G2->Option (List ix)
 |[]=>some []
 |x::r=>match ev st x,evs st r with
  |some v,some vs=>some (v::vs)
  |_,_=>none
theorem Fits.evs{a:Iq}(ha:Fits N a st):∀ {l:List G2} {vs:List ix},evs st l=some vs->l.map a.eval=vs:=by
 intro l
 induction l with
 |nil=>intro vs h;simpa[VL.evs]using h.symm
 |cons x r ih=>
  intro vs h;simp only[VL.evs]at h
  cases h1:VL.ev st x with
  |none=>rw[h1]at h;simp at h
  |some v=>
   cases h2:VL.evs st r with
   |none=>rw[h1,h2]at h;simp at h
   |some vs'=>
    rw[h1,h2]at h;simp at h;subst h;rw[GW,ha.ev h1,ih h2]
theorem dO{fn:Fn}{f c:List G2}{fs cs:List ix}(hf:evs st f=some fs)(hc:evs st c=some cs):RV P N (.makeFunc fn f.toArray c.toArray) t st w (.func fn fs.toArray cs.toArray):=
 fun a ha a0 p e g=>by simp only[execOp,Instr.makeFunc,G9,ha.evs hf,ha.evs hc];rfl
theorem WL.box{E:ln}{v:ix}(hx:ev st x=some v)(hd:G0 d N=true)
  (h:WL P N ops Q rest ((d,.pointer (some ⟨w.heap.size,0,none⟩))::st) (w.alloc (.cells v.cells E))):WL P N ops Q (⟨some d,.box E x,t,p,e,none⟩::rest) st w:=
 WL.val hd (fun a ha=>by simp only[execOp,ha.ev hx];rfl) h
theorem WL.alloc{E:ln}{z:ix}(hz:(IV E).run P w=.ok z w)(hd:G0 d N=true)
  (h:WL P N ops Q rest ((d,.pointer (some ⟨w.heap.size,0,none⟩))::st) (w.alloc (.cells z.cells E))):WL P N ops Q (⟨some d,.alloc E,t,p,e,none⟩::rest) st w:=
 WL.val hd (fun a ha=>by
  simp only[execOp,Instr.alloc]
  simp[hz,newVar,newRow,newObj];rfl) h
def Ret(P:G7)(f:J1)(args:List ix)(w:ka)(R:ix->ka->Prop):Prop:=
 Calls P f args.toArray w fun | .returned v,w'=>R v w'|_,_=>False
theorem Ret.mono{f:J1}{args:List ix}{w:ka}{R R':ix->ka->Prop}(h:Ret P f args w R)(hr:∀v w',R v w'->R' v w'):Ret P f args w R':=
 Iw h fun e w' q=>by cases e<;>first|exact hr _ _ q|exact q.elim
theorem WL.call{f:J1}{args:List G2}{a2:Array ln}{vs:List ix}{R:ix->ka->Prop}
  (hf:∀(args:Array ix) (w:ka),(callFunc f args).run P w=.ok (.enter f args) w) (a0:evs st args=some vs) (hc:Ret P f vs w R) (hd:G0 d N=true)
  (h:∀v w',R v w'->WL P N ops Q rest ((d,v)::st) w'):WL P N ops Q (⟨some d,.call ⟨.value (.func f),args.toArray,a2⟩,t,p,e,none⟩::rest) st w:=by
 refine WL.step rfl fun a ha=>?_
 unfold IR;have a1:(execOp a.eval ⟨some d,.call ⟨.value (.func f),args.toArray,a2⟩,t,p,e,none⟩).run P w=.ok (.enter f vs.toArray) w:=by
  simp only[execOp,resolve,It,G9];rw[ha.evs a0];simp[II,invoke,hf]
 rw[a1];exact Iw hc fun e w' q=>by
  cases e with
  |returned v=>exact h v w' q _ (ha.put hd v)
  |panicked c=>exact q.elim
  |outgrown=>exact q.elim
theorem dk{f:J1}{args:List G2}{a2:Array ln}{vs:List ix}{cs:Array ix}{R:ix->ka->Prop}
  (hx:ev st x=some (.func (.func f) #[] cs))
  (hf:∀(args:Array ix) (w:ka),(callFunc f args).run P w=.ok (.enter f args) w) (a0:evs st args=some vs) (hc:Ret P f (vs++cs.toList) w R) (hd:G0 d N=true)
  (h:∀v w',R v w'->WL P N ops Q rest ((d,v)::st) w'):WL P N ops Q (⟨some d,.call ⟨.value x,args.toArray,a2⟩,t,p,e,none⟩::rest) st w:=by
 refine WL.step rfl fun a ha=>?_
 unfold IR;have a1:(execOp a.eval ⟨some d,.call ⟨.value x,args.toArray,a2⟩,t,p,e,none⟩).run P w=.ok (.enter f (vs++cs.toList).toArray) w:=by
  simp only[execOp,resolve,G9,ha.evs a0,ha.ev hx];simp[II,invoke,hf]
 rw[a1];exact Iw hc fun e w' q=>by
  cases e with
  |returned v=>exact h v w' q _ (ha.put hd v)
  |panicked c=>exact q.elim
  |outgrown=>exact q.elim
end
end
def RP(P:G7)(fn:Li)(R:ix->ka->Prop):I9->Iq->ka->Prop
 |.normal,a,w |.ret,a,w=>a.defers=[]/\∃v,(results fn a.tmps).run P w=.ok v w/\R v w
 |_,_,_=>False
theorem Ret.body{P:G7}{N:Nat}{f:J1}{fn:Li}{c:IT}{args:List ix}{st:St}{w:ka}{R:ix->ka->Prop}
  (hf:P.funcs[f]? = some fn) (hb:fn.body=some c) (hN:fn.ntmps=N) (a0:Fits N { tmps:=args.toArray++JB (N-args.length) undef,defers:=[] } st)
  (h:WC P N c (RP P fn R) st w):Ret P f args w R:=by
 refine calls_of_wp hf hb ?_;rw[hN];refine wp_mono (h _ (by simpa using a0)) ?_
 intro e a w' q
 cases e<;>first|exact q|exact q.elim
theorem oS{N:Nat}:∀ {args:List ix} (_:KL args.length N=true) {st:St} (_:∀t v,cm st t=some v->args[t]? = some v),
  Fits N { tmps:=args.toArray++JB (N-args.length) undef,defers:=[] } st:=by
 intro args hN st h;have a1:args.length<=N:=IL hN;refine⟨by simp;omega,rfl,fun t v hv=>?_⟩;have:=h t v hv;have a0:t<args.length:=(GV.1 this).1;rw[Array.getElem?_append_left (by simpa using a0)];simpa using this
def CL:Nat->List ix->St
 |_,[]=>[]
 |k,v::r=>(k,v)::CL (k+1) r
theorem mm:∀(args:List ix) (k t:Nat) (v:ix),cm (CL k args) t=some v->k<=t/\args[t-k]? = some v
 |[],k,t,v,h=>by simp[CL,cm]at h
 |u::r,k,t,v,h=>by
  simp only[CL,cm]at h
  cases hb:Ij k t with
  |true=>
   rw[hb]at h;have:k=t:=G8 hb;subst this;simpa using h
  |false=>
   rw[hb]at h;obtain⟨h1,h2⟩:=mm r (k+1) t v h;refine⟨zo,?_⟩;rw[show t-k=(t-(k+1))+1 from by omega];simpa using h2
theorem Ret.enter{P:G7}{N:Nat}{f:J1}{fn:Li}{c:IT}{args:List ix}{w:ka}{R:ix->ka->Prop}
  (hf:P.funcs[f]? = some fn) (hN:fn.ntmps=N) (hb:fn.body=some c) (a0:KL args.length N=true)
  (h:WC P N c (RP P fn R) (CL 0 args) w):Ret P f args w R:=
 Ret.body hf hb hN (oS a0 fun t v hv=>by simpa using(mm args 0 t v hv).2) h
section
variable{P:G7}{N:Nat}{st:St}{w:ka}{fn:Li}{R:ix→ka→Prop}
theorem af{t:Lu}{v:ix}(hr:fn.results = #[.tmp t])(hv:cm st t=some v)(h:R v w):QF N (RP P fn R) .ret st w:=fun a ha=>
 ⟨ha.defers,v,by have:=ha.get _ _ hv;simp[results,hr,G4,this],h⟩
theorem aG(hr:fn.results = #[])(h:R (.tuple #[]) w):QF N (RP P fn R) .normal st w:=fun a ha=>⟨ha.defers,_,by simp[results,hr],h⟩
theorem cC(hr:fn.results = #[])(h:R (.tuple #[]) w):QF N (RP P fn R) .ret st w:=fun a ha=>⟨ha.defers,_,by simp[results,hr],h⟩
theorem bI{t u:Lu}{v v':ix}(hr:fn.results = #[.tmp t,.tmp u])(hv:cm st t=some v)(a0:cm st u=some v')(h:R (.tuple #[v,v']) w):QF N (RP P fn R) .ret st w:=fun a ha=>
 ⟨ha.defers,_,by have:=ha.get _ _ hv;have h2:=ha.get _ _ a0;simp[results,hr,G4,this,h2],h⟩
end
open Go.RowKit (Below)
def Ext(w w':ka):Prop:=Below w.heap.size w w'
theorem Ext.refl(w:ka):Ext w w:=Lj _ _
theorem Ext.trans{a b c:ka}(h:Ext a b)(k:Ext b c):Ext a c:=Below.trans h (Below.mono k h.size)
theorem Ext.alloc(w:ka)(o:Obj):Ext w (w.alloc o):=(Lj _ _).alloc (GS _) o
theorem Ext.drew{w w':ka}(h:Ext w w'):Ext w w'.drew:=⟨h.os,h.tape,h.output,h.size,h.block⟩
theorem Ext.cell{w w':ka}(h:Ext w w'){a:Ie}{v:ix}(hc:w.cell? a=some v):w'.cell? a=some v:=
 (Below.cell h (J3 w a hc)).trans hc
def adr(v:ix)(sz i:Nat):Ie:=
 match v with
 |.slice (some a) _ _=>⟨a.block,a.off+i*sz,none⟩
 |_=>default
def nth{α:Type}[Inhabited α](xs:List α)(i:Nat):α:=xs.getD i default
theorem az{α:Type}[Inhabited α]{xs:List α}{i:Nat}(h:i<xs.length):nth xs i=xs[i]:=by
 simp[nth,Ia,h]
theorem ax{α:Type}[Inhabited α](a:α)(l:List α):nth (a::l) 0=a:=rfl
theorem bA{α:Type}[Inhabited α](a:α)(l:List α)(i:Nat):nth (a::l) (i+1)=nth l i:=rfl
attribute [irreducible] nth
structure Sl{α:Type}(enc:α->List ix)(sz:Nat)(w:ka)(v:ix)(xs:List α):Prop where
 shape:∃a c,v=.slice a xs.length c/\xs.length<=c/\c<=9223372036854775807/\(xs.length≠0->∃b o,a=some ⟨b,o,none⟩)
 cells:∀i (h:i<xs.length) j u,(enc xs[i])[j]? = some u->w.cell? ((adr v sz i).add j)=some u
theorem Sl.of_cells{α:Type}{enc:α->List ix}{sz:Nat}{w w':ka}{v:ix}{xs:List α}(h:Sl enc sz w v xs)(hc:∀a u,w.cell? a=some u->w'.cell? a=some u):Sl enc sz w' v xs:=
 ⟨h.shape,fun i hi j u hu=>hc _ _ (h.cells i hi j u hu)⟩
theorem Sl.ext{α:Type}{enc:α->List ix}{sz:Nat}{w w':ka}{v:ix}{xs:List α}(h:Sl enc sz w v xs)(e:Ext w w'):Sl enc sz w' v xs:=h.of_cells fun _ _=>e.cell
theorem Sl.drew{α:Type}{enc:α->List ix}{sz:Nat}{w:ka}{v:ix}{xs:List α}(h:Sl enc sz w v xs):Sl enc sz w.drew v xs:=h.of_cells fun _ _ h=>h
theorem Sl.one{α:Type}{enc:α->List ix}{sz:Nat}{w:ka}{v:ix}{xs:List α}(h:Sl enc sz w v xs):v.oneCell'=true:=by
 obtain⟨_,_,rfl,_⟩:=h.shape;rfl
theorem Sl.len_le{α:Type}{enc:α->List ix}{sz:Nat}{w:ka}{v:ix}{xs:List α}(h:Sl enc sz w v xs):xs.length<=9223372036854775807:=by
 obtain⟨a,c,_,h1,h2,_⟩:=h.shape;omega
theorem Sl.cell{α:Type}[Inhabited α]{enc:α->List ix}{sz:Nat}{w:ka}{v:ix}{xs:List α}(h:Sl enc sz w v xs){i j:Nat}{u:ix}(hi:i<xs.length)(hu:(enc (nth xs i))[j]? = some u):w.cell? ((adr v sz i).add j)=some u:=
 h.cells i hi j u (by rw[<-az hi];exact hu)
theorem aB(v:ix)(sz i:Nat):(adr v sz i).add 0=adr v sz i:=rfl
theorem Sl.ld{α:Type}[Inhabited α]{val:α->ix}{sz:Nat}{w:ka}{v:ix}{xs:List α}(h:Sl (fun x=>[val x]) sz w v xs){i:Nat}(hi:i<xs.length):w.cell? (adr v sz i)=some (val (nth xs i)):=
 h.cell (j:=0) hi rfl
abbrev Ints(w:ka)(v:ix)(xs:List Int):Prop:=Sl (fun(x:Int)=>[nI x]) 1 w v xs
abbrev GP(w:ka)(v:ix)(xs:List Nat):Prop:=Sl (fun(x:Nat)=>[nI (x:Int)]) 1 w v xs
section
variable{P:G7}{N:Nat}{ops:Array GU}{Q:I9→Iq→ka→Prop}{rest:List GU}{st:St}{w:ka}
variable{t:ln}{p:String}{e:Array IJ}{d:Nat}{x y z:G2}
theorem RV.len{T E:ln}{α:Type}{enc:α->List ix}{sz:Nat}{v:ix}{xs:List α}(hs:Sl enc sz w v xs)(hu:P.underlying T=some (.slice E))(hx:ev st x=some v):RV P N (.call ⟨.builtin .len,#[x],#[T]⟩) t st w (nI (xs.length:Int)):=
 fun a ha a0 p e g=>by
  obtain⟨ad,c,hv,_⟩:=hs.shape;simp only[execOp,resolve,G9,GW,If,ha.ev hx];subst hv;simp[invoke,Go.builtin,LV,run_underlying hu,goInt]
theorem RV.indexAddr{T E:ln}{α:Type}{enc:α->List ix}{sz:Nat}{v:ix}{xs:List α}{k:GR}{i:Int}(hs:Sl enc sz w v xs)(hu:P.underlying T=some (.slice E))(hE:(Ib E).run P w=.ok sz w)
  (hx:ev st x=some v) (hy:ev st y=some (.int k i)) (n:Nat) (hi:i=n) (hn:n<xs.length):RV P N (.indexAddr T x y) t st w (.pointer (some (adr v sz n))):=
 fun a ha a0 p e g=>by
  obtain⟨ad,c,hv,_,_,hb⟩:=hs.shape;obtain⟨b,o,rfl⟩:=hb zo;simp only[execOp,ha.ev hx,ha.ev hy];subst hv;subst hi;have:((n:Int)<(xs.length:Int)):=zo;simp only[adr];have he:(if n*sz=0 then(⟨b,o,none⟩:Ie)else⟨b,o+n*sz,none⟩)=⟨b,o+n*sz,none⟩:=by split<;>simp_all
  simp[JW,asIntOf,run_underlying hu,hE,I4,hn,he]
def Shape(v:ix)(n:Nat):Prop:=∃a c,v=.slice a n c/\(n≠0->∃b o,a=some ⟨b,o,none⟩)
theorem Sl.sh{α:Type}{enc:α->List ix}{sz:Nat}{w:ka}{v:ix}{xs:List α}(h:Sl enc sz w v xs):Shape v xs.length:=by
 obtain⟨a,c,h1,_,_,h2⟩:=h.shape;exact⟨a,c,h1,h2⟩
theorem aC{T E:ln}{sz m:Nat}{v:ix}{k:GR}{i:Int}(hs:Shape v m)(hu:P.underlying T=some (.slice E))(hE:(Ib E).run P w=.ok sz w)
  (hx:ev st x=some v) (hy:ev st y=some (.int k i)) (n:Nat) (hi:i=n) (hn:n<m):RV P N (.indexAddr T x y) t st w (.pointer (some (adr v sz n))):=
 fun a ha a0 p e g=>by
  obtain⟨ad,c,hv,hb⟩:=hs;obtain⟨b,o,rfl⟩:=hb zo;simp only[execOp,ha.ev hx,ha.ev hy];subst hv;subst hi;simp only[adr];have he:(if n*sz=0 then(⟨b,o,none⟩:Ie)else⟨b,o+n*sz,none⟩)=⟨b,o+n*sz,none⟩:=by split<;>simp_all
  simp[JW,asIntOf,run_underlying hu,hE,I4,hn,he]
theorem RV.load{T:ln}{q:Ie}{u:ix}(hc:w.cell? q=some u)(hT:(KS T).run P w=.ok false w)(hx:ev st x=some (.pointer (some q))):RV P N (.load T x) t st w (u):=
 fun a ha a0 p e g=>by
  simp only[execOp,ha.ev hx];simp[L7,Ii,loadVar,hT,hc]
theorem run_loadCellsFrom{q:Ie}:∀(us:List ix) (i:Nat) (a0:Array ix),(∀j u,us[j]? = some u->w.cell? (q.add (i+j))=some u)->(loadCellsFrom q i us.length a0).run P w=.ok (a0++us.toArray) w
 |[],i,a0,_=>by simp[loadCellsFrom]
 |u::r,i,a0,h=>by
  have h0:=h 0 u rfl;have ih:=run_loadCellsFrom r (i+1) (a0.push u) (fun j v hv=>by have:=h (j+1) v (by simpa using hv);rwa[show i+1+j=i+(j+1)from by omega]);simp only[Kc]at h0;simp[loadCellsFrom,h0,ih]
theorem ah{T:ln}{q:Ie}{us:List ix}(hc:∀j u,us[j]? = some u->w.cell? (q.add j)=some u)(hT:(KS T).run P w=.ok true w)(hn:(Ib T).run P w=.ok us.length w)(hx:ev st x=some (.pointer (some q))):RV P N (.load T x) t st w (.agg us.toArray):=
 fun a ha a0 p e g=>by
  simp only[execOp,ha.ev hx];have:=run_loadCellsFrom (P:=P) us 0 #[] (q:=q) (w:=w) (by simpa using hc);simp[L7,Ii,loadVar,hT,hn,loadCells,this]
theorem RV.fieldAddr{S:ln}{fs:Array JM}{f m:Nat}{fd:JM}{q:Ie}(o:Nat)(hu:P.underlying S=some (.struct fs))(hf:fs[f]? = some fd)(ho:fd.offset=o)(hz:(Ib fd.type).run P w=.ok m w)(hm:m≠0)
  (hx:ev st x=some (.pointer (some q))):RV P N (.fieldAddr S x f) t st w (.pointer (some (q.add o))):=
 fun a ha a0 p e g=>by
  subst ho;simp only[execOp,ha.ev hx];simp[Instr.fieldAt,Ii,fieldPlace,run_underlying hu,hf,hz,hm]
end
end Go.VL
end
section
namespace Go.VL
open Go.RowKit (Below)
structure Upd(S:Nat->Prop)(O:Nat->Nat)(w:ka)(O':Nat->Nat)(w':ka):Prop where
 os:w'.os=w.os
 tape:w'.tape=w.tape
 output:w'.output=w.output
 size:w.heap.size<=w'.heap.size
 blk:∀b,b<w.heap.size->¬S (O b)->w'.heap[b]? = w.heap[b]?
 tag:∀b,O b≠0->O' b=O b
 new:∀b,O' b≠0->O b≠0\/(w.heap.size<=b/\b<w'.heap.size)
 z:¬S 0
structure Rng(B:Nat)(O:Nat->Nat)(w:ka):Prop where
 le:B<=w.heap.size
 rng:∀b,O b≠0->B<=b/\b<w.heap.size
theorem Upd.refl{S:Nat->Prop}(h:¬S 0)(O:Nat->Nat)(w:ka):Upd S O w O w:=⟨rfl,rfl,rfl,GS _,fun _ _ _=>rfl,fun _ _=>rfl,fun _ h=>.inl h,h⟩
theorem Upd.mono{S S':Nat->Prop}{O O':Nat->Nat}{w w':ka}(h:Upd S O w O' w')(hs:∀i,S i->S' i)(hz:¬S' 0):Upd S' O w O' w':=
 ⟨h.os,h.tape,h.output,h.size,fun b hb hn=>h.blk b hb fun hS=>hn (hs _ hS),h.tag,h.new,hz⟩
theorem Upd.trans{S:Nat->Prop}{O O1 O2:Nat->Nat}{w w1 w2:ka}(h:Upd S O w O1 w1)(k:Upd S O1 w1 O2 w2):Upd S O w O2 w2:=by
 refine⟨k.os.trans h.os,k.tape.trans h.tape,k.output.trans h.output,IY h.size k.size,fun b hb hn=>?_,fun b hb=>?_,fun b hb=>?_,h.z⟩
 ·refine(k.blk b (IF hb h.size) ?_).trans (h.blk b hb hn)
  by_cases h0:O b=0
  ·have:O1 b=0:=by
    refine GT fun a0=>?_
    rcases h.new b a0 with h1|h1
    ·exact h1 h0
    omega
   rw[this];exact h.z
  rw[h.tag b h0];exact hn
 ·have h1:=h.tag b hb;rw[k.tag b (by rw[h1];exact hb),h1]
 rcases k.new b hb with h1|h1
 ·rcases h.new b h1 with h2|h2
  ·exact .inl h2
  exact .inr ⟨h2.1,IF h2.2 k.size⟩
 exact .inr ⟨IY h.size h1.1,h1.2⟩
theorem aa{S:Nat->Prop}(hz:¬S 0){w w':ka}(O:Nat->Nat)(h:Ext w w'):Upd S O w O w':=
 ⟨h.os,h.tape,h.output,h.size,fun b hb _=>h.block b hb,fun _ _=>rfl,fun _ h=>.inl h,hz⟩
theorem Rng.upd{B:Nat}{S:Nat->Prop}{O O':Nat->Nat}{w w':ka}(r:Rng B O w)(h:Upd S O w O' w'):Rng B O' w':=by
 refine⟨IY r.le h.size,fun b hb=>?_⟩
 rcases h.new b hb with h1|h1
 ·exact⟨(r.rng b h1).1,IF (r.rng b h1).2 h.size⟩
 exact⟨IY r.le h1.1,h1.2⟩
theorem aw(w:ka):Rng w.heap.size (fun _=>0) w:=⟨GS _,fun _ h=>absurd rfl h⟩
theorem Rng.ext{B:Nat}{O:Nat->Nat}{w w':ka}(r:Rng B O w)(h:Ext w w'):Rng B O w':=r.upd (aa (S:=fun _=>False) (fun h=>h) O h)
theorem Upd.below{B:Nat}{S:Nat->Prop}{O O':Nat->Nat}{w w':ka}(h:Upd S O w O' w')(r:Rng B O w):Below B w w':=by
 refine⟨h.os,h.tape,h.output,h.size,fun b hb=>h.blk b (IF hb r.le) ?_⟩;have:O b=0:=GT fun a0=>by have:=(r.rng b a0).1;omega
 rw[this];exact h.z
theorem Upd.ext{S:Nat->Prop}{O':Nat->Nat}{w w':ka}(h:Upd S (fun _=>0) w O' w'):Ext w w':=h.below (aw w)
theorem Upd.drew{S:Nat->Prop}{O O':Nat->Nat}{w w':ka}(h:Upd S O w O' w'):Upd S O w O' w'.drew:=⟨h.os,h.tape,h.output,h.size,h.blk,h.tag,h.new,h.z⟩
theorem Upd.ofDrew{S:Nat->Prop}{O O':Nat->Nat}{w w':ka}(h:Upd S O w.drew O' w'):Upd S O w O' w':=⟨h.os,h.tape,h.output,h.size,h.blk,h.tag,h.new,h.z⟩
theorem Rng.drew{B:Nat}{O:Nat->Nat}{w:ka}(h:Rng B O w):Rng B O w.drew:=⟨h.le,h.rng⟩
def ly(O:Nat->Nat)(b i:Nat):Nat->Nat:=fun k=>if k=b then i else O k
theorem dA(O:Nat->Nat)(b i:Nat):ly O b i b=i:=if_pos rfl
theorem Upd.alloc{S:Nat->Prop}(hz:¬S 0){B:Nat}{O:Nat->Nat}{w:ka}(r:Rng B O w)(o:Obj)(i:Nat):Upd S O w (ly O w.heap.size i) (w.alloc o):=by
 refine⟨rfl,rfl,rfl,by simp,fun b hb _=>Lk _ _ _ hb,fun b hb=>?_,fun b hb=>?_,hz⟩
 ·unfold ly;rw[if_neg];have:=(r.rng b hb).2;omega
 unfold ly at hb
 split at hb
 ·rename_i h;subst h;exact .inr ⟨GS _,by simp⟩
 exact .inl hb
structure RowO(O:Nat->Nat)(w:ka)(i:Nat)(E:ln)(sz:Nat)(v:ix)(n:Nat)(xs:List ix):Prop where
 row:w.ownsRow 0 E sz v n xs
 tag:∀g,v.ownBlock=some g->O g=i
theorem bu{w:ka}{g:Nat}{o:Obj}(h:w.heap[g]? = some o):g<w.heap.size:=(JO.1 h).1
theorem RowO.upd{S:Nat->Prop}{O O':Nat->Nat}{w w':ka}{i:Nat}{E:ln}{sz:Nat}{v:ix}{n:Nat}{xs:List ix}(h:RowO O w i E sz v n xs)(u:Upd S O w O' w')(hi:i≠0)(hS:¬S i):RowO O' w' i E sz v n xs:=by
 refine⟨⟨h.row.1,?_⟩,fun g hg=>?_⟩
 ·rcases h.row.2 with h1|⟨g,a2,a1,hv,hg,hh,a0⟩
  ·exact .inl h1
  refine .inr ⟨g,a2,a1,hv,hg,?_,a0⟩;rw[u.blk g (bu hh) (by rw[h.tag g (by rw[hv];rfl)];exact hS)];exact hh
 have:=h.tag g hg;rw[u.tag g (by rw[this];exact hi),this]
theorem RowO.drew{O:Nat->Nat}{w:ka}{i:Nat}{E:ln}{sz:Nat}{v:ix}{n:Nat}{xs:List ix}(h:RowO O w i E sz v n xs):RowO O w.drew i E sz v n xs:=⟨h.row,h.tag⟩
theorem RowO.nil(O:Nat->Nat)(w:ka)(i:Nat)(E:ln)(sz:Nat):RowO O w i E sz (nS) 0 []:=⟨World.ownsRow_nil _ _ _ _,fun g hg=>by simp[JI]at hg⟩
structure BlkO(O:Nat->Nat)(w:ka)(i b:Nat)(cs:Array ix)(E:ln):Prop where
 blk:w.heap[b]? = some (.cells cs E (0,0))
 tag:O b=i
theorem BlkO.upd{S:Nat->Prop}{O O':Nat->Nat}{w w':ka}{i b:Nat}{cs:Array ix}{E:ln}(h:BlkO O w i b cs E)(u:Upd S O w O' w')(hi:i≠0)(hS:¬S i):BlkO O' w' i b cs E:=
 ⟨by rw[u.blk b (bu h.blk) (by rw[h.tag];exact hS)];exact h.blk,by rw[u.tag b (by rw[h.tag];exact hi),h.tag]⟩
theorem BlkO.drew{O:Nat->Nat}{w:ka}{i b:Nat}{cs:Array ix}{E:ln}(h:BlkO O w i b cs E):BlkO O w.drew i b cs E:=⟨h.blk,h.tag⟩
theorem BlkO.new(O:Nat->Nat)(w:ka)(i:Nat)(cs:Array ix)(E:ln):BlkO (ly O w.heap.size i) (w.alloc (.cells cs E)) i w.heap.size cs E:=
 ⟨heap_alloc_new w _,dA _ _ _⟩
theorem BlkO.cell{O:Nat->Nat}{w:ka}{i b:Nat}{cs:Array ix}{E:ln}(h:BlkO O w i b cs E)(j:Nat){u:ix}(hu:cs[j]? = some u):w.cell? ⟨b,j,none⟩=some u:=by
 rw[cell_of_row w b j cs E (0,0) h.blk];exact hu
theorem BlkO.set{O:Nat->Nat}{w:ka}{i b:Nat}{cs:Array ix}{E:ln}(h:BlkO O w i b cs E)(j:Nat)(u:ix):BlkO O (w.setCell ⟨b,j,none⟩ u) i b (cs.setIfInBounds j u) E:=by
 refine⟨?_,h.tag⟩;simp only[Jf,K8,if_pos]
 rw[h.blk];simp
theorem Upd.set{S:Nat->Prop}(hz:¬S 0){O:Nat->Nat}{w:ka}{i b j:Nat}{u:ix}(ht:O b=i)(hS:S i):Upd S O w O (w.setCell ⟨b,j,none⟩ u):=
 ⟨rfl,rfl,rfl,by simp[Jf],fun k _ hn=>Jp _ _ _ _ (fun e=>hn (by subst e;rw[ht];exact hS)),fun _ _=>rfl,fun _ h=>.inl h,hz⟩
def RowT{α:Type}(enc:α->List ix)(E:ln)(sz:Nat)(O:Nat->Nat)(w:ka)(i:Nat)(v:ix)(l:List α):Prop:=RowO O w i E sz v l.length (l.flatMap enc)/\∀x∈l,(enc x).length=sz
theorem fX{α:Type}{enc:α->List ix}{sz:Nat}:∀(l:List α),(∀x∈l,(enc x).length=sz)->∀i (h:i<l.length) j u,(enc l[i])[j]? = some u->(l.flatMap enc)[i*sz+j]? = some u
 |x::l,hz,0,_,j,u,hu=>by
  have hl:=hz x (by simp);have hj:j<(enc x).length:=(GV.1 (by simpa using hu)).1;simp only[J2,Jy,Ig];rw[List.getElem?_append_left hj];simpa using hu
 |x::l,hz,i+1,h,j,u,hu=>by
  have hl:=hz x (by simp);simp only[J2];rw[show(i+1)*sz+j=(enc x).length+(i*sz+j)from by rw[hl,Je];omega,JT zo,show(enc x).length+(i*sz+j)-(enc x).length=i*sz+j from by omega];exact fX l (fun y hy=>hz y (by simp[hy])) i (by simpa using h) j u (by simpa using hu)
theorem RowT.sl{α:Type}{enc:α->List ix}{E:ln}{sz:Nat}{O:Nat->Nat}{w:ka}{i:Nat}{v:ix}{l:List α}(h:RowT enc E sz O w i v l):Sl enc sz w v l:=by
 obtain⟨⟨⟨hl,hr⟩,_⟩,hz⟩:=h
 rcases hr with⟨rfl,h0⟩|⟨g,a0,a3,rfl,_,hg,a1,a2,a4,ht⟩
 ·have:l=[]:=I6 h0;subst this;exact⟨⟨none,0,rfl,GS _,zo,fun h=>absurd rfl h⟩,fun i hi=>absurd hi (by simp)⟩
 refine⟨⟨_,a0,rfl,a1,by simpa[maxLen]using a2,fun _=>⟨g,0,rfl⟩⟩,fun i hi j u hu=>?_⟩;have:=fX l hz i hi j u hu;rw[<-ht,List.getElem?_take]at this
 split at this
 ·have ha:((adr (.slice (some ⟨g,0,none⟩) l.length a0) sz i).add j)=⟨g,i*sz+j,none⟩:=by
   simp only[adr,I4];split<;>simp_all
  rw[ha,cell_of_row w g _ a3 E (0,0) hg];simpa using this
 cases this
theorem RowT.upd{α:Type}{enc:α->List ix}{S:Nat->Prop}{O O':Nat->Nat}{w w':ka}{i:Nat}{E:ln}{sz:Nat}{v:ix}{l:List α}(h:RowT enc E sz O w i v l)(u:Upd S O w O' w')(hi:i≠0)(hS:¬S i):RowT enc E sz O' w' i v l:=
 ⟨h.1.upd u hi hS,h.2⟩
theorem RowT.drew{α:Type}{enc:α->List ix}{O:Nat->Nat}{w:ka}{i:Nat}{E:ln}{sz:Nat}{v:ix}{l:List α}(h:RowT enc E sz O w i v l):RowT enc E sz O w.drew i v l:=⟨h.1.drew,h.2⟩
theorem RowT.nil{α:Type}(enc:α->List ix)(E:ln)(sz:Nat)(O:Nat->Nat)(w:ka)(i:Nat):RowT enc E sz O w i (nS) []:=⟨RowO.nil _ _ _ _ _,by simp⟩
theorem RowO.one{O:Nat->Nat}{w:ka}{i:Nat}{E:ln}{sz:Nat}{v:ix}{n:Nat}{xs:List ix}(h:RowO O w i E sz v n xs):v.oneCell'=true:=by
 rcases h.row.2 with⟨rfl,_⟩|⟨g,a1,a0,rfl,_⟩<;>rfl
theorem RowT.one{α:Type}{enc:α->List ix}{O:Nat->Nat}{w:ka}{i:Nat}{E:ln}{sz:Nat}{v:ix}{l:List α}(h:RowT enc E sz O w i v l):v.oneCell'=true:=h.1.one
theorem RowT.put{α:Type}{val:α->ix}{O:Nat->Nat}{w:ka}{i:Nat}{E:ln}{v:ix}{l:List α}(h:RowT (fun x=>[val x]) E 1 O w i v l){n:Nat}(hn:n<l.length)(x:α):
  w.cell? (adr v 1 n)=some (val (l[n]))/\w.frozen? (adr v 1 n)=false/\RowT (fun x=>[val x]) E 1 O (w.setCell (adr v 1 n) (val x)) i v (l.set n x)/\O (adr v 1 n).block=i:=by
 have a0:=h.sl.cells n hn 0 (val l[n]) rfl;rw[aB]at a0;refine⟨a0,?_⟩;obtain⟨⟨⟨hl,hr⟩,a1⟩,hz⟩:=h
 rcases hr with⟨rfl,h0⟩|⟨g,a3,a8,rfl,a7,hg,a4,a6,a5,ht⟩
 ·omega
 have ha:adr (.slice (some ⟨g,0,none⟩) l.length a3) 1 n=⟨g,n,none⟩:=by simp[adr]
 rw[ha];have a2:∀l:List α,(l.flatMap fun x=>[val x])=l.map val:=fun l=>by induction l<;>simp_all
 refine⟨by simp[KY,hg],⟨⟨⟨by rw[a2];simp,.inr ⟨g,a3,a8.setIfInBounds n (val x),by simp,a7,?_,by simpa using a4,a6,by simpa using a5,?_⟩⟩,by simpa using a1⟩,by simp⟩,a1 g rfl⟩
 ·simp only[Jf,K8,if_pos];rw[hg];simp
 simp only[JD,List.length_set,JN]at ht ⊢;rw[a2]at ht ⊢;rw[List.take_set,ht,List.map_set]
structure Elem(P:G7)(T E:ln)(sz bytes:Nat):Prop where
 ht:P.underlying T=some (.slice E)
 info:(P.info? E).map (fun i=>(i.zero.map (·.cells.size),i.size,i.bytes))=some (some sz,sz,bytes)
 pos:0<sz
theorem Elem.parts{P:G7}{T E:ln}{sz bytes:Nat}(h:Elem P T E sz bytes):∃i z,P.info? E=some i/\i.zero=some z/\i.size=sz/\i.bytes=bytes/\z.cells.size=sz:=by
 have:=h.info
 cases hi:P.info? E with
 |none=>rw[hi]at this;simp at this
 |some i=>
  rw[hi]at this;simp only[I3,IU,KK]at this;obtain⟨h1,h2,h3⟩:=this
  cases hz:i.zero with
  |none=>rw[hz]at h1;simp at h1
  |some z=>rw[hz]at h1;simp at h1;exact⟨i,z,rfl,hz,h2,h3,h1⟩
theorem eE{P:G7}{w:ka}{T ty E:ln}{sz a7:Nat}(he:Elem P T E sz a7){B:Nat}{O:Nat->Nat}(r:Rng B O w){i:Nat}
  {v:ix} {n:Nat} {xs:List ix} (a1:RowO O w i E sz v n xs)
  (a:Ie) (m c:Nat) (a0:List ix) (hl:a0.length=m*sz) (a3:∀j u,a0[j]? = some u->w.cell? (a.add j)=some u) (h1:∀u∈a0,u.oneCell'=true)
  (a4:(n+m)*a7<=140737488355328) (c8:n+m<=9223372036854775807) (b9:i≠0) :
  ∃v' w' O',(Kv #[T,T] ty #[v,.slice (some a) m c]).run P w=.ok v' w'/\RowO O' w' i E sz v' (n+m) (xs++a0)/\Upd (fun k=>k=i) O w O' w':=by
 obtain⟨a8,z,hi,hz,b8,c7,b7⟩:=he.parts;have ht:=he.ht;subst b8;subst c7;have a5:(xs++a0).length=(n+m)*a8.size:=by rw[Jm,a1.row.1,hl,Je]
 have b2:¬(0=i):=fun h=>b9 h.symm
 have a6:∀(old:Nat),old<n+m->
   RowO (ly O w.heap.size i) (w.drew.alloc (.cells (xs.toArray++a0.toArray++Jl z.cells (grownCap w (n+m) old E-(n+m))) E)) i E a8.size
    (.slice (some ⟨w.heap.size,0,none⟩) (n+m) (grownCap w (n+m) old E)) (n+m) (xs++a0)/\
   Upd (fun k=>k=i) O w (ly O w.heap.size i) (w.drew.alloc (.cells (xs.toArray++a0.toArray++Jl z.cells (grownCap w (n+m) old E-(n+m))) E)):=by
  intro old ho;have b':=grownCap_ge w (n+m) old E;have b5:grownCap w (n+m) old E<=maxLen:=grownCap_le_maxLen w (n+m) old E (by simpa[maxLen]using c8);refine⟨⟨⟨a5,.inr ⟨w.heap.size,_,_,rfl,Im _,heap_alloc_new w.drew _,b',b5,?_,?_⟩⟩,?_⟩,?_⟩
  ·simp only[Array.size_append,Js,size_zeroCells,b7,a1.row.1,hl,<-Je];congr 1;omega
  ·simp only[Array.toList_append,Jv];rw[<-Jv,<-a5];exact L1
  ·intro g hg;simp[JI]at hg;subst hg;exact dA _ _ _
  have u:=Upd.alloc (S:=fun k=>k=i) (w:=w.drew) b2 (B:=B) ⟨r.le,r.rng⟩ (.cells (xs.toArray++a0.toArray++Jl z.cells (grownCap w (n+m) old E-(n+m))) E) i;exact⟨u.os,u.tape,u.output,u.size,u.blk,u.tag,u.new,u.z⟩
 rcases a1.row.2 with⟨rfl,rfl⟩|⟨g,b1,b6,rfl,hbg,hg,c9,b5,c6,a'⟩
 ·have hx:xs=[]:=I6 (by simpa using a1.row.1);subst hx
  by_cases hm:m=0
  ·subst hm;have hn:a0=[]:=I6 (by simpa using hl);subst hn;refine⟨nS,w,O,?_,RowO.nil _ _ _ _ _,Upd.refl b2 _ _⟩;simp[Kv,run_underlying ht,Ib,typeInfo,hi,LW,LX,loadCells,loadCellsFrom]
  have hr:=run_append_nil (P:=P) w T ty E a8 z ht hi hz a m c a0 hl a3 zo zo (by have hb:=a4;simp only[Ig]at hb;omega);have a9:=a6 0 zo;simp only[Ig,JE,Array.empty_append]at a9 ⊢;exact⟨_,_,_,hr,a9.1,a9.2⟩
 have b3:O g=i:=a1.tag g rfl
 by_cases a2:n+m<=b1
 ·have b4:n*a8.size+a0.length<=b6.size:=by rw[hl,c6,<-Je];exact Nat.mul_le_mul_right _ a2
  have hr:=run_append_room (P:=P) w T ty E a8 ht hi g n b1 b6 hg a m c a0 hl a3 h1 a2 b4;refine⟨_,_,O,hr,⟨⟨a5,.inr ⟨g,b1,_,rfl,hbg,setRow_heap w g b6 _ E _ hg,a2,b5,?_,?_⟩⟩,fun g' c5=>a1.tag g' c5⟩,⟨rfl,rfl,rfl,by simp,fun k _ hk=>setRow_other w g k _ (fun e=>hk (by subst e;exact b3)),fun _ _=>rfl,fun _ h=>.inl h,b2⟩⟩
  ·simp only[Js,Jm,List.length_take,List.length_drop,Kj];omega
  rw[a',<-a5];exact L1
 have b0:∀j u,xs[j]? = some u->w.cell? (nA g j)=some u:=a1.row.cells (g:=g) rfl;have hr:=run_append_grow (P:=P) w T ty E a8 z ht hi hz ⟨g,0,none⟩ n b1 xs a1.row.1 b0 a m c a0 hl a3 zo zo (growslice_fits zo a4);have a9:=a6 b1 zo;exact⟨_,_,_,hr,a9.1,a9.2⟩
theorem foldl_set(f:Array ix->ix×Nat->Array ix)(hf:∀cs c j,f cs (c,j)=cs.setIfInBounds (0+j) c):∀(l:List ix) (k:Nat) (cs:Array ix),k+l.length<=cs.size->
  (l.zipIdx k).foldl f cs=(cs.toList.take k++l++cs.toList.drop (k+l.length)).toArray
 |[],k,cs,_=>by simp
 |u::l,k,cs,h=>by
  simp only[I5]at h;simp only[List.zipIdx_cons,KW];rw[foldl_set f hf l (k+1) _ (by rw[hf];simp;omega),hf];simp only[Ig,JN];have hk:k<cs.toList.length:=by simp;omega
  congr 1;rw[show k+1+l.length=k+(u::l).length from by simp;omega];have h1:(cs.toList.set k u).take (k+1)=cs.toList.take k++[u]:=by
   rw[Jr (by simpa using hk)];simp[List.take_set_of_le]
  have h2:(cs.toList.set k u).drop (k+(u::l).length)=cs.toList.drop (k+(u::l).length):=by
   rw[List.drop_set_of_lt (by simp)]
  rw[h1,h2];simp
theorem jX{sz:Nat}{cells:Array ix}{v:ix}(h1:v.cells.size=sz)(h2:cells.size=sz):IZ (fun i=>some (i*sz,sz)) cells [(0,v)]=some v.cells:=by
 simp only[IZ,Jy,h1,h2];simp only[Ig,ne_eq,not_true_eq_false,decide_false,gt_iff_lt,Nat.lt_irrefl,Bool.or_self,Bool.false_eq_true,if_false];have:=foldl_set (fun cs (x:ix×Nat)=>cs.setIfInBounds (0+x.2) x.1) (fun _ _ _=>rfl) v.cells.toList 0 cells (by simp;omega);simp only[Ig]at this;rw[<-Array.foldl_toList,Array.toList_zipIdx,this];simp only[JQ,JE];rw[K6 (by simp;omega)];simp
section
variable{P:G7}{N:Nat}{ops:Array GU}{Q:I9→Iq→ka→Prop}{rest:List GU}{st:St}{w:ka}
variable{t t':ln}{p p':String}{e e':Array IJ}{d d':Nat}{x y z:G2}
theorem WL.push{T E:ln}{sz a0:Nat}(he:Elem P T E sz a0){α:Type}{enc:α->List ix}{B:Nat}{O:Nat->Nat}{i:Nat}{v:ix}{l:List α}(hr:RowT enc E sz O w i v l)(r:Rng B O w)(u:α){xv:ix}
  (hv:∀c,ev ((d,c)::st) y=some v) (hx:ev st x=some xv) (a6:xv.cells.toList=enc u) (a7:(enc u).length=sz) (a':∀c∈enc u,c.oneCell'=true)
  (hb:(l.length+1)*a0<=140737488355328) (b4:l.length+1<=9223372036854775807) (a5:i≠0) (hs:sz<=16777216) (hd:G0 d N=true) (b2:G0 d' N=true)
  (h:∀v' w' O',RowT enc E sz O' w' i v' (l++[u])->Upd (fun k=>k=i) O w O' w'->Rng B O' w'->WL P N ops Q rest ((d',v')::(d,.slice (some ⟨w.heap.size,0,none⟩) 1 1)::st) w') :
  WL P N ops Q (⟨some d,.buildSlice T 1 #[(0,x)],t,p,e,none⟩::⟨some d',.call ⟨.builtin .append,#[y,.tmp d],#[T,T]⟩,t',p',e',none⟩::rest) st w:=by
 obtain⟨a8,z,hi,hz,a2,b6,b5⟩:=he.parts;have b3:xv.cells.size=sz:=by rw[<-a7,<-a6];simp
 have b1:=he.pos;refine WL.val (v:=.slice (some ⟨w.heap.size,0,none⟩) 1 1) (w':=w.alloc (.cells xv.cells E)) hd (fun a ha=>?_) ?_
 ·have:=run_buildSlice (P:=P) w T E 1 #[(0,xv)] xv.cells a8 z he.ht hi hz (by rw[a2];omega) (by rw[a2];omega) (by
   rw[a2]
   exact jX b3 (by simp))
  simp only[execOp,G9,GW,If,ha.ev hx,G5,this,G1];rfl
 have a9:¬(fun k=>k=i) 0:=fun h=>a5 h.symm
 have hE:=Ext.alloc w (.cells xv.cells E);have r1:=r.ext hE;have b0:RowT enc E sz O (w.alloc (.cells xv.cells E)) i v l:=hr.upd (aa (S:=fun _=>False) (fun h=>h) O hE) a5 (fun h=>h)
 obtain⟨v',w',O',a3,a4,a1⟩:=eE (P:=P) (ty:=t') he r1 b0.1 ⟨w.heap.size,0,none⟩ 1 1 (enc u) zo (fun j c hc=>by
  rw[show((⟨w.heap.size,0,none⟩:Ie).add j)=⟨w.heap.size,j,none⟩from by simp only[I4];split<;>simp_all,cell_of_row _ _ j xv.cells E (0,0) (heap_alloc_new w _)]
  rw[<-a6]at hc;simpa using hc) a' hb b4 a5
 refine WL.val (v:=v') (w':=w') b2 (fun a ha=>?_) ?_
 ·simp only[execOp,resolve,invoke,builtin,G5,I2,G1,G9,GW,If,ha.ev (hv _),ha.ev (x:=.tmp d) (v:=.slice (some ⟨w.heap.size,0,none⟩) 1 1) (by simp[ev,cm]),a3]
 have hU:Upd (fun k=>k=i) O w O' w':=Upd.trans (aa a9 O hE) a1;refine h v' w' O' ⟨by simpa using a4,?_⟩ hU (r.upd hU);intro c hc
 rcases JF.1 hc with hc|hc
 ·exact hr.2 c hc
 rw[Io.1 hc];exact a7
theorem ak{T:ln}{O:Nat->Nat}{i b j:Nat}{cs:Array ix}{E:ln}{u c:ix}(hb:BlkO O w i b cs E)(hj:cs[j]? = some c)(hT:(Ib T).run P w=.ok 1 w)(h1:u.oneCell'=true)
  {q:Ie} (hx:ev st x=some (.pointer (some q))) (hq:q=⟨b,j,none⟩) (hy:ev st y=some u)
  (h:WL P N ops Q rest st (w.setCell ⟨b,j,none⟩ u)):WL P N ops Q (⟨none,.store T x y,t,p,e,none⟩::rest) st w:=
 gX (fun a ha=>by
  subst hq;have hc:=hb.cell j hj;have hf:w.frozen? ⟨b,j,none⟩=false:=by simp[KY,hb.blk]
  simp only[execOp,ha.ev hx,ha.ev hy]
  cases u<;>simp[Ih]at h1<;>simp[Jg,Ii,storeVar,hT,K9,storeCells,store,JP,hc,hf,I4]) h
theorem WL.storeAt{T:ln}{α:Type}{val:α->ix}{O:Nat->Nat}{i:Nat}{E:ln}{v:ix}{l:List α}(hr:RowT (fun x=>[val x]) E 1 O w i v l)(n:Nat)(hn:n<l.length)(u:α)(hT:(Ib T).run P w=.ok 1 w)(h1:(val u).oneCell'=true)(a1:i≠0)
  {q:Ie} {uv:ix} (hx:ev st x=some (.pointer (some q))) (hq:q=adr v 1 n) (hy:ev st y=some uv) (hu:uv=val u)
  (h:∀w',RowT (fun x=>[val x]) E 1 O w' i v (l.set n u)->Upd (fun j=>j=i) O w O w'->WL P N ops Q rest st w'):WL P N ops Q (⟨none,.store T x y,t,p,e,none⟩::rest) st w:=by
 subst hq;subst hu;obtain⟨hc,hf,a0,ht⟩:=hr.put hn u;refine gX (w':=w.setCell (adr v 1 n) (val u)) (fun a ha=>?_) (h _ a0 ?_)
 ·simp only[execOp,ha.ev hx,ha.ev hy];generalize val u=uv at *
  cases uv<;>simp[Ih]at h1<;>simp[Jg,Ii,storeVar,hT,K9,storeCells,store,JP,hc,hf,I4]
 refine⟨rfl,rfl,rfl,by simp[Jf],fun k _ hn=>Jp _ _ _ _ (fun e=>hn (by rw[e];exact ht)),fun _ _=>rfl,fun _ h=>.inl h,fun h=>a1 h.symm⟩
end
end Go.VL
end
section
namespace Go.VL
def Calm(Q:I9->Iq->ka->Prop):I9->Iq->ka->Prop
 |.panic _,_,_=>False
 |e,a,w=>Q e a w
theorem Calm.imp{Q:I9->Iq->ka->Prop}:∀ {e:I9} {a:Iq} {w:ka},Calm Q e a w->Q e a w:=by
 intro e a w h
 cases e<;>first|exact h|exact h.elim
section
variable(P:G7)(N:Nat)
def WH(ops:Array GU)(S:ka->Prop)(Q:I9->Iq->ka->Prop)(a1:Nat)(a0:Array Bool)(st:St)(w:ka):Prop:=
 ∀a,Fits N a st->wpAnyH P .any ops (Calm Q) S a1 a0 a w
end
section
variable{P:G7}{N:Nat}{ops:Array GU}{S:ka→Prop}{Q:I9→Iq→ka→Prop}{st:St}{w:ka}{fuel:Nat}{listed:Array Bool}
theorem aL{id:Nat}{l:List GU}(S:ka->Prop)(n:Nat)(hn:l.length=n)(hm:P.follows .mixedOrders=true)
  (h:WH P N l.toArray S Q n (JB n false) st w.drew):WC P N (Jc id l.toArray true) Q st w:=fun a ha=>by
 refine wp_mono (Q:=Calm Q) (wp_region_held (S:=S) hm ?_) fun e a w h=>h.imp
 have:=h a ha;simp only[Js,hn];exact this
theorem WH.take{op:Op}{t:ln}{p:String}{e:Array IJ}{d:Nat}{v:ix}(i:Nat)(hi:ops[i]? = some ⟨some d,op,t,p,e,none⟩)
  (hs:I0 ops=true) (hf:Ic .any ops listed i=true) (hr:(GX .any ops listed).contains i=true) (hS:S w)
  (hv:∀w',S w'->RV P N op t st w' v) (hd:G0 d N=true) (h:WH P N ops S Q fuel (listed.setIfInBounds i true) ((d,v)::st) w):WH P N ops S Q (fuel+1) listed st w:=by
 intro a ha;refine wpAnyH_take (v:=v) hi hs hf hr (fun _ _ _ h=>h) (.inl ⟨by simp[GZ],fun w' a0=>hv w' a0 a ha _ _ _ _⟩) hS ?_;exact h _ (ha.put hd v)
theorem sR{op:Op}{t:ln}{p:String}{e:Array IJ}{d j:Nat}{b:Bool}{v:ix}(i:Nat)(hi:ops[i]? = some ⟨some d,op,t,p,e,some (j,b)⟩)(hg:said ops st j=some b)
  (hs:I0 ops=true) (hf:Ic .any ops listed i=true) (hr:(GX .any ops listed).contains i=true) (hS:S w)
  (hv:∀w',S w'->RV P N op t st w' v) (hd:G0 d N=true) (h:WH P N ops S Q fuel (listed.setIfInBounds i true) ((d,v)::st) w):WH P N ops S Q (fuel+1) listed st w:=by
 intro a ha;refine wpAnyH_take (v:=v) hi hs hf hr (fun _ _ _ h=>h) (.inl ⟨by simp[GZ,bT ha hg],fun w' a0=>hv w' a0 a ha _ _ _ _⟩) hS ?_;exact h _ (ha.put hd v)
theorem xZ{op:Op}{t:ln}{p:String}{e:Array IJ}{d j:Nat}{b b':Bool}(i:Nat)(hi:ops[i]? = some ⟨some d,op,t,p,e,some (j,b)⟩)(hg:said ops st j=some b')(a0:(b'==b)=false)
  (hs:I0 ops=true) (hf:Ic .any ops listed i=true) (hr:(GX .any ops listed).contains i=true) (hS:S w)
  (hd:G0 d N=true) (h:WH P N ops S Q fuel (listed.setIfInBounds i true) ((d,undef)::st) w):WH P N ops S Q (fuel+1) listed st w:=by
 intro a ha;refine wpAnyH_take (v:=undef) hi hs hf hr (fun _ _ _ h=>h) (.inr ⟨?_,rfl⟩) hS ?_
 ·have:(b'==b)=false:=a0;simp[GZ,bT ha hg];simpa using this
 exact h _ (ha.put hd undef)
def qG(P:G7)(ops:Array GU)(S:ka->Prop)(Q:I9->Iq->ka->Prop)(a1:Nat)(a0:Array Bool):I9->Iq->ka->Prop:=
 Exit.then (fun a' w'=>S w'/\wpAnyH P .any ops (Calm Q) S a1 a0 a' w') (Calm Q)
theorem ae{i:Nat}(hS:S w)(h:WH P N ops S Q fuel (listed.setIfInBounds i true) st w):QF N (qG P ops S Q fuel (listed.setIfInBounds i true)) .normal st w:=fun a ha=>⟨hS,h a ha⟩
theorem WH.all(rs:List Nat)(hr:GX .any ops listed=rs)(a0:rs≠[])
  (h:∀i∈rs,∀o,ops[i]? = some o->WL P N ops (qG P ops S Q fuel (listed.setIfInBounds i true)) [o] st w):WH P N ops S Q (fuel+1) listed st w:=by
 intro a ha;refine wpAnyH_all hr a0 fun i hi=>?_
 have a1:∃o,ops[i]? = some o:=by
  rw[<-hr]at hi;simp only[GX,List.mem_filter,J0]at hi;exact⟨_,Array.getElem?_eq_getElem hi.1⟩
 obtain⟨o,ho⟩:=a1;have h1:=h i hi o ho a ha;unfold wpOp;simp only[ho];unfold wpList at h1
 split
 ·rename_i hw;rw[if_pos hw]at h1;refine h1.imp (fun h2=>?_) (fun⟨h2,h3⟩=>⟨h2,h3⟩);unfold IR at h2 ⊢;generalize (execOp a.eval o).run P w=r at *
  cases r with
  |ok n w'=>
   cases n<;>simp only[J4]at h2 ⊢<;>first
    |exact h2
    |exact Iw h2 (fun e w'' he=>by cases e<;>exact he)
    |exact KJ h2 (fun _ _ he=>he)
  |halt x w'=>cases x<;>simp only[J4]at h2 ⊢<;>exact h2
 rename_i hw;rw[if_neg hw]at h1;exact h1
theorem WH.one(i:Nat){o:GU}(hr:GX .any ops listed=[i])(hi:ops[i]? = some o)
  (h:WL P N ops (qG P ops S Q fuel (listed.setIfInBounds i true)) [o] st w):WH P N ops S Q (fuel+1) listed st w:=
 WH.all [i] hr (by simp) fun j hj o' a0=>by
  simp only[Io]at hj;subst hj;rw[hi]at a0;cases a0;exact h
theorem bG(i j:Nat){o o':GU}(hr:GX .any ops listed=[i,j])(hi:ops[i]? = some o)(hj:ops[j]? = some o')
  (h:WL P N ops (qG P ops S Q fuel (listed.setIfInBounds i true)) [o] st w) (h':WL P N ops (qG P ops S Q fuel (listed.setIfInBounds j true)) [o'] st w):WH P N ops S Q (fuel+1) listed st w:=
 WH.all [i,j] hr (by simp) fun k hk q hq=>by
  simp only[List.mem_cons,List.not_mem_nil,or_false]at hk
  rcases hk with rfl|rfl
  ·rw[hi]at hq;cases hq;exact h
  rw[hj]at hq;cases hq;exact h'
theorem qy{d:Nat}{b b':Bool}(hs:cm st d=some (.bool b))(hb:b=b')(h:WH P N ops S Q fuel listed ((d,.bool b')::st) w):WH P N ops S Q fuel listed st w:=by
 subst hb;refine fun a ha=>h a ⟨ha.size,ha.defers,fun t v hv=>?_⟩
 simp only[cm]at hv
 cases hb:Ij d t with
 |true=>rw[hb]at hv;have:=G8 hb;subst this;simp at hv;subst hv;exact ha.get _ _ hs
 |false=>rw[hb]at hv;exact ha.get _ _ hv
theorem WH.done(hr:GX .any ops listed=[])(h:QF N Q .normal st w):WH P N ops S Q fuel listed st w:=fun a ha=>wpAnyH_done (Q:=Calm Q) hr (show Calm Q .normal a w from h a ha) fuel
end
section
variable(P:G7)(N:Nat)
def WS(ops:Array GU)(w:ka)(K:Iq->Prop)(l:List GU)(st:St):Prop:=∀a,Fits N a st->wpStill P ops w K l a
end
section
variable{P:G7}{N:Nat}{ops:Array GU}{Q:I9→Iq→ka→Prop}{K:Iq→Prop}{st:St}{w:ka}{rest:List GU}
theorem WC.tail{id:Nat}{l hd tl:List GU}(n:Nat)(ht:l.take n=hd)(a0:l.drop n=tl)(hm:P.follows .mixedOrders=true)(hB:Region.lexTailB .any l.toArray n=true)
  (h:WS P N l.toArray w.drew (fun a'=>wpList P l.toArray Q tl a' w.drew) hd st):WC P N (Jc id l.toArray true) Q st w:=fun a ha=>by
 subst ht;subst a0;exact wp_region_still_tail n hm hB (h a ha)
theorem WC.still{id:Nat}{l:List GU}(hm:P.follows .mixedOrders=true)(hB:L4 .any l.toArray=true)
  (h:WS P N l.toArray w.drew (fun a'=>Q .normal a' w.drew) l st):WC P N (Jc id l.toArray true) Q st w:=fun a ha=>by
 exact wp_region_still_lit hm hB (h a ha)
theorem WS.go{tl:List GU}(h:WL P N ops Q tl st w):WS P N ops w (fun a'=>wpList P ops Q tl a' w) [] st:=fun a ha=>h a ha
theorem WS.nil(h:QF N Q .normal st w):WS P N ops w (fun a'=>Q .normal a' w) [] st:=fun a ha=>h a ha
theorem om{op:Op}{t:ln}{p:String}{e:Array IJ}{d:Nat}{v:ix}(hv:RV P N op t st w v)(hd:G0 d N=true)
  (h:WS P N ops w K rest ((d,v)::st)):WS P N ops w K (⟨some d,op,t,p,e,none⟩::rest) st:=fun a ha=>by
 unfold wpStill;rw[if_pos (bN rfl _)];unfold Ll;rw[hv a ha];exact⟨rfl,h _ (ha.put hd v)⟩
theorem Gf{op:Op}{t:ln}{p:String}{e:Array IJ}{d:Option Lu}{j:Nat}{b:Bool}(hs:said ops st j=some b)
  (h:WS P N ops w K (⟨d,op,t,p,e,none⟩::rest) st):WS P N ops w K (⟨d,op,t,p,e,some (j,b)⟩::rest) st:=by
 intro a ha;have h1:=h a ha;unfold wpStill at h1 ⊢;rw[if_pos (by simp[GZ])]at h1;rw[if_pos (by simp[GZ,bT ha hs])];exact h1
theorem WS.off{op:Op}{t:ln}{p:String}{e:Array IJ}{d:Nat}{j:Nat}{b b':Bool}(hs:said ops st j=some b')(a0:(b'==b)=false)(hd:G0 d N=true)
  (h:WS P N ops w K rest ((d,undef)::st)):WS P N ops w K (⟨some d,op,t,p,e,some (j,b)⟩::rest) st:=by
 intro a ha;unfold wpStill;rw[if_neg (by simp[GZ,bT ha hs];simpa using a0)];exact h _ (ha.put hd undef)
theorem AJ{op:Op}{t:ln}{p:String}{e:Array IJ}{d:Nat}{j:Nat}{b:Bool}(hs:mu ops st j=true)(hd:G0 d N=true)
  (h:WS P N ops w K rest ((d,undef)::st)):WS P N ops w K (⟨some d,op,t,p,e,some (j,b)⟩::rest) st:=by
 intro a ha;unfold wpStill;rw[if_neg ?_]
 ·exact h _ (ha.put hd undef)
 unfold mu at hs;simp only[GZ,yielded]
 cases hd:(ops[j]?).bind (·.dst)with
 |none=>rw[hd]at hs;simp at hs
 |some d=>
  rw[hd]at hs;simp only at hs
  cases hx:cm st d with
  |none=>rw[hx]at hs;simp at hs
  |some v=>
   rw[hx]at hs
   cases v<;>simp at hs
   simp[ha.get _ _ hx]
theorem cz{d:Nat}{b b':Bool}{l:List GU}(hs:cm st d=some (.bool b))(hb:b=b')(h:WS P N ops w K l ((d,.bool b')::st)):WS P N ops w K l st:=by
 subst hb;refine fun a ha=>h a ⟨ha.size,ha.defers,fun t v hv=>?_⟩
 simp only[cm]at hv
 cases hb:Ij d t with
 |true=>rw[hb]at hv;have:=G8 hb;subst this;simp at hv;subst hv;exact ha.get _ _ hs
 |false=>rw[hb]at hv;exact ha.get _ _ hv
theorem WS.call{t:ln}{p:String}{e:Array IJ}{d:Nat}{f:J1}{args:List G2}{a2:Array ln}{vs:List ix}{v:ix}
  (hf:∀(args:Array ix) (w:ka),(callFunc f args).run P w=.ok (.enter f args) w) (a0:evs st args=some vs) (hc:Ret P f vs w fun u w'=>u=v/\w'=w) (hd:G0 d N=true)
  (h:WS P N ops w K rest ((d,v)::st)):WS P N ops w K (⟨some d,.call ⟨.value (.func f),args.toArray,a2⟩,t,p,e,none⟩::rest) st:=by
 intro a ha;unfold wpStill;rw[if_pos (bN rfl _)];unfold Ll;have a1:(execOp a.eval ⟨some d,.call ⟨.value (.func f),args.toArray,a2⟩,t,p,e,none⟩).run P w=.ok (.enter f vs.toArray) w:=by
  simp only[execOp,resolve,It,G9];rw[ha.evs a0];simp[II,invoke,hf]
 rw[a1];refine⟨rfl,v,Iw hc fun e w' q=>?_,h _ (ha.put hd v)⟩
 cases e with
 |returned u=>exact⟨by rw[q.1],q.2⟩
 |panicked c=>exact q.elim
 |outgrown=>exact q.elim
end
section
variable(P:G7)(N:Nat)
def WQ(ops:Array GU)(C:ka->Prop)(K:Iq->Prop)(l:List GU)(st:St):Prop:=∀a,Fits N a st->wpQuiet P ops C K l a
end
section
variable{P:G7}{N:Nat}{ops:Array GU}{C:ka→Prop}{Q:I9→Iq→ka→Prop}{K:Iq→Prop}{st:St}{w:ka}{rest:List GU}
theorem vN{id:Nat}{l:List GU}(C:ka->Prop)(hm:P.follows .mixedOrders=true)(hB:L4 .any l.toArray=true)(hC:C w.drew)
  (h:WQ P N l.toArray C (fun a'=>∀w',C w'->Q .normal a' w') l st):WC P N (Jc id l.toArray true) Q st w:=fun a ha=>
 wp_region_quiet (C:=C) hm hB hC (by simpa using h a ha)
theorem WQ.nil(h:∀w',C w'->QF N Q .normal st w'):WQ P N ops C (fun a'=>∀w',C w'->Q .normal a' w') [] st:=fun a ha w' a0=>h w' a0 a ha
theorem iX{op:Op}{t:ln}{p:String}{e:Array IJ}{d:Nat}{v:ix}(hv:∀w,C w->RV P N op t st w v)(hd:G0 d N=true)
  (h:WQ P N ops C K rest ((d,v)::st)):WQ P N ops C K (⟨some d,op,t,p,e,none⟩::rest) st:=fun a ha=>by
 unfold wpQuiet;rw[if_pos (bN rfl _)];exact⟨v,fun w hw=>by unfold La;rw[hv w hw a ha];exact⟨rfl,rfl⟩,h _ (ha.put hd v)⟩
theorem WQ.call{t:ln}{p:String}{e:Array IJ}{d:Nat}{f:J1}{args:List G2}{a2:Array ln}{vs:List ix}{v:ix}
  (hf:∀(args:Array ix) (w:ka),(callFunc f args).run P w=.ok (.enter f args) w) (a0:evs st args=some vs) (hc:∀w,C w->Ret P f vs w fun u w'=>u=v/\C w') (hd:G0 d N=true)
  (h:WQ P N ops C K rest ((d,v)::st)):WQ P N ops C K (⟨some d,.call ⟨.value (.func f),args.toArray,a2⟩,t,p,e,none⟩::rest) st:=by
 intro a ha;unfold wpQuiet;rw[if_pos (bN rfl _)];refine⟨v,fun w hw=>?_,h _ (ha.put hd v)⟩;unfold La;have a1:(execOp a.eval ⟨some d,.call ⟨.value (.func f),args.toArray,a2⟩,t,p,e,none⟩).run P w=.ok (.enter f vs.toArray) w:=by
  simp only[execOp,resolve,It,G9];rw[ha.evs a0];simp[II,invoke,hf]
 rw[a1];refine⟨rfl,Iw (hc w hw) fun e w' q=>?_⟩
 cases e with
 |returned u=>exact⟨by rw[q.1],q.2⟩
 |panicked c=>exact q.elim
 |outgrown=>exact q.elim
end
end Go.VL
end
section
namespace Go.VL
section
variable{κ ν:Type}{kv:κ→ix}{vv:ν→ix}
structure MapO{κ ν:Type}(kv:κ->ix)(vv:ν->ix)(O:Nat->Nat)(w:ka)(i r:Nat)(l:List (κ×ν)):Prop where
 blk:∃es clock,w.heap[r]? = some (.map es clock)/\es.toList.map (fun e=>(e.key,e.val))=l.map fun p=>(kv p.1,vv p.2)
 tag:O r=i
 born:∀es clock,w.heap[r]? = some (.map es clock)->(es.toList.map (·.born)).Nodup/\∀e∈es.toList,e.born<clock
theorem MapO.upd{S:Nat->Prop}{O O':Nat->Nat}{w w':ka}{i r:Nat}{l:List (κ×ν)}(h:MapO kv vv O w i r l)(u:Upd S O w O' w')(hi:i≠0)(hS:¬S i):MapO kv vv O' w' i r l:=by
 obtain⟨es,c,h1,h2⟩:=h.blk;have e:=u.blk r (bu h1) (by rw[h.tag];exact hS);exact⟨⟨es,c,by rw[e];exact h1,h2⟩,by rw[u.tag r (by rw[h.tag];exact hi),h.tag],fun a0 c' h'=>h.born a0 c' (by rw[<-e];exact h')⟩
theorem MapO.new(O:Nat->Nat)(w:ka)(i:Nat):MapO kv vv (ly O w.heap.size i) (w.alloc (.map #[] 0)) i w.heap.size []:=⟨⟨#[],0,heap_alloc_new w _,by simp⟩,dA _ _ _,fun es c h=>by rw[heap_alloc_new]at h;cases h;simp⟩
end
section
variable{κ ν:Type}[DecidableEq κ]
def bn:List (κ×ν)->κ->Option ν
 |[],_=>none
 |(a,x)::r,k=>if a=k then some x else bn r k
def cy:List (κ×ν)->κ->ν->List (κ×ν)
 |[],k,x=>[(k,x)]
 |(a,y)::r,k,x=>if a=k then(k,x)::r else(a,y)::cy r k x
def iH:List (κ×ν)->κ->Option Nat
 |[],_=>none
 |(a,_)::r,k=>if a=k then some 0 else(iH r k).map (· + 1)
theorem aP(l:List (κ×ν))(k k':κ)(x:ν):bn (cy l k x) k'=if k=k' then some x else bn l k':=by
 induction l with
 |nil=>simp[cy,bn]
 |cons p r ih=>
  obtain⟨a,y⟩:=p;simp only[cy]
  by_cases h:a=k
  ·subst h;simp only[if_pos,bn]
   by_cases h2:a=k'<;>simp[h2]
  simp only[if_neg h,bn]
  by_cases h2:a=k'
  ·subst h2;simp only[if_true];rw[if_neg (fun e=>h e.symm)]
  simp[h2,ih]
structure KeyL(P:G7)(K:ln)(kv:κ->ix):Prop where
 check:∀b n k w,(JL b (n+2) K (kv k)).run P w=.ok () w
 find:∀k (es:List KU) (ks:List κ) w,es.map (·.key)=ks.map kv->(JX K (kv k) es).run P w=.ok ((ks.findIdx? (· = k)).bind fun i=>(es[i]?).map fun e=>(i,e.val)) w
 same:∀k,JK 10000 (kv k) (kv k)=true
theorem KeyL.int{P:G7}{K:ln}{q:GR}(hK:P.underlying K=some (.int q)):KeyL P K (fun n:Int=>JY q n):=by
 refine⟨fun b n k w=>?_,fun k es ks w h=>?_,fun k=>?_⟩
 ·simp[JL,run_underlying hK]
 ·have key:∀(es:List KU) (ks:List Int) (j:Nat),es.map (·.key)=ks.map (fun n=>JY q n)->
    IP (.int q) (.int q k) es j=some ((ks.findIdx? (· = k)).bind fun i=>(es[i]?).map fun e=>(j+i,e.val)):=by
   intro es
   induction es with
   |nil=>intro ks j h;cases ks with
    |nil=>simp[IP]
    |cons a r=>simp at h
   |cons e es ih=>
    intro ks j h
    cases ks with
    |nil=>simp at h
    |cons a r=>
     simp only[GW,Kh]at h;simp only[IP,h.1,L2,if_true]
     by_cases hk:k=a
     ·subst hk;simp[IE]
     have:(k==a)=false:=by simpa using hk
     rw[this];simp only;rw[ih r (j+1) h.2];simp only[IE,decide_eq_true_eq];rw[if_neg (fun e=>hk e.symm)]
     cases hf:L5 (fun x=>decide (x=k)) r with
     |none=>simp
     |some i=>simp[K0,Lh 1]
  have:=key es ks 0 h;simp only[Ig]at this;simp[JX,run_underlying hK,this]
 simp[JK]
theorem Cs(a b:ByteArray):(a==b)=decide (a=b):=by
 cases a with|mk a=>cases b with|mk b=>
 show(a==b)=_
 by_cases h:a=b
 ·subst h;simp
 have:(a==b)=false:=by simpa using h
 rw[this];symm;simpa using h
theorem Cc{P:G7}{K:ln}(hK:P.underlying K=some .string):KeyL P K Jo:=by
 refine⟨fun b n k w=>?_,fun k es ks w h=>?_,fun k=>?_⟩
 ·simp[JL,run_underlying hK]
 ·have key:∀(es:List KU) (ks:List ByteArray) (j:Nat),es.map (·.key)=ks.map Jo->
    IP .string (.string k) es j=some ((ks.findIdx? (· = k)).bind fun i=>(es[i]?).map fun e=>(j+i,e.val)):=by
   intro es
   induction es with
   |nil=>intro ks j h;cases ks with
    |nil=>simp[IP]
    |cons a r=>simp at h
   |cons e es ih=>
    intro ks j h
    cases ks with
    |nil=>simp at h
    |cons a r=>
     simp only[GW,Kh]at h;simp only[IP,h.1,L2,Cs]
     by_cases hk:k=a
     ·subst hk;simp[IE]
     have:decide (k=a)=false:=by simpa using hk
     rw[this];simp only;rw[ih r (j+1) h.2];simp only[IE,decide_eq_true_eq];rw[if_neg (fun e=>hk e.symm)]
     cases hf:L5 (fun x=>decide (x=k)) r with
     |none=>simp
     |some i=>simp[K0,Lh 1]
  have:=key es ks 0 h;simp only[Ig]at this;simp[JX,run_underlying hK,this]
 simp[JK,Cs]
variable{kv:κ→ix}{vv:ν→ix}
theorem dN:∀(l:List (κ×ν)) (k:κ),(l.map (·.1)).findIdx? (· = k)=iH l k
 |[],k=>rfl
 |(a,x)::r,k=>by
  simp only[GW,IE,iH,decide_eq_true_eq]
  by_cases h:a=k
  ·simp[h]
  simp only[if_neg h];rw[dN r k]
theorem kj:∀(l:List (κ×ν)) (k:κ),bn l k=(iH l k).bind fun i=>(l[i]?).map (·.2)
 |[],k=>rfl
 |(a,x)::r,k=>by
  simp only[bn,iH]
  by_cases h:a=k
  ·simp[h]
  simp only[if_neg h];rw[kj r k]
  cases iH r k<;>simp
theorem dU:∀(l:List (κ×ν)) (k:κ) (x:ν),cy l k x=match iH l k with
  |some i=>l.set i (k,x)
  |none=>l++[(k,x)]
 |[],k,x=>rfl
 |(a,y)::r,k,x=>by
  simp only[cy,iH]
  by_cases h:a=k
  ·simp[h]
  simp only[if_neg h];rw[dU r k x]
  cases iH r k<;>simp
theorem gW:∀ {l:List (κ×ν)} {k:κ} {i:Nat},iH l k=some i->∃x,l[i]? = some (k,x)
 |(a,x)::r,k,i,h=>by
  simp only[iH]at h
  by_cases hk:a=k
  ·subst hk;simp at h;subst h;exact⟨x,rfl⟩
  rw[if_neg hk]at h
  cases hr:iH r k with
  |none=>rw[hr]at h;simp at h
  |some j=>
   rw[hr]at h;simp at h;subst h;obtain⟨y,hy⟩:=gW hr;exact⟨y,by simpa using hy⟩
def DB(vv:ν->ix)(z:ix):Option ν->ix
 |some x=>vv x
 |none=>z
def Cu(vv:ν->ix)(z:ix):Option ν->ix
 |some x=>.tuple #[vv x,.bool true]
 |none=>.tuple #[z,.bool false]
theorem iU{P:G7}{T K E:ln}(hT:P.underlying T=some (.map K E))(hK:KeyL P K kv){O:Nat->Nat}{w:ka}{i r:Nat}{l:List (κ×ν)}(h:MapO kv vv O w i r l){z:ix}(hz:(IV E).run P w=.ok z w)(k:κ)(ok:Bool):
  (L6 T (.map (some r)) (kv k) ok).run P w=.ok (match bn l k with
   |some x=>if ok then .tuple #[vv x,.bool true]else vv x
   |none=>if ok then .tuple #[z,.bool false]else z) w:=by
 obtain⟨es,c,h1,h2⟩:=h.blk;have a0:es.toList.map (·.key)=(l.map (·.1)).map kv:=by
  have:=congrArg (JS KZ) h2;simpa[Kd]using this
 have hf:=hK.find k es.toList (l.map (·.1)) w a0;rw[dN]at hf;have hc:=hK.check es.isEmpty 9998 k w;simp only[L6,G5,run_underlying hT,G1];simp only[getObj,JP,h1,G5,G1,I2,hc,hf];rw[kj]
 cases hi:iH l k with
 |none=>simp[hz]
 |some j=>
  obtain⟨x,hx⟩:=gW hi;have hj:es.toList[j]?.map (fun e=>(e.key,e.val))=some (kv k,vv x):=by
   have:=congrArg (fun l=>l[j]?) h2;simpa[hx]using this
  cases he:es.toList[j]? with
  |none=>rw[he]at hj;simp at hj
  |some e'=>
   rw[he]at hj;simp at hj;simp only[Kq,he,hx,I3,hj.2]
   cases ok<;>simp
theorem dy{P:G7}{T K E:ln}(hT:P.underlying T=some (.map K E))(hK:KeyL P K kv){O:Nat->Nat}{w:ka}{i r:Nat}{l:List (κ×ν)}(h:MapO kv vv O w i r l)(a9:i≠0)(k:κ)(x:ν):
  ∃w',(JA T (.map (some r)) (kv k) (vv x)).run P w=.ok () w'/\MapO kv vv O w' i r (cy l k x)/\Upd (fun j=>j=i) O w O w':=by
 obtain⟨es,c,h1,h2⟩:=h.blk;have a8:es.toList.map (·.key)=(l.map (·.1)).map kv:=by
  have:=congrArg (JS KZ) h2;simpa[Kd]using this
 have hf:=hK.find k es.toList (l.map (·.1)) w a8;rw[dN]at hf;have hc:=hK.check false 9998 k w;have hr:=bu h1;have a7:es.size=l.length:=by have:=congrArg List.length h2;simpa using this
 have a1:=h.born es c h1;have fin:∀(a0:Array KU) (c':Nat),((a0.toList.map (·.born)).Nodup/\∀e∈a0.toList,e.born<c')->a0.toList.map (fun e=>(e.key,e.val))=(cy l k x).map (fun p=>(kv p.1,vv p.2))->
   MapO kv vv O { w with heap:=w.heap.setIfInBounds r (.map a0 c') } i r (cy l k x)/\Upd (fun j=>j=i) O w O { w with heap:=w.heap.setIfInBounds r (.map a0 c') }:=by
  intro a0 c' a4 he;refine⟨⟨⟨a0,c',by simp[hr],he⟩,h.tag,fun a' c2 h2=>by simp[hr]at h2;obtain⟨rfl,rfl⟩:=h2;exact a4⟩,⟨rfl,rfl,rfl,by simp,fun b _ hn=>?_,fun _ _=>rfl,fun _ h=>.inl h,fun h=>a9 h.symm⟩⟩;simp only[JC];rw[if_neg (fun e=>hn (by rw[<-e];exact h.tag))]
 have a2:(JA T (.map (some r)) (kv k) (vv x)).run P w=((match ((iH l k).bind fun i=>(es.toList[i]?).map fun e=>(i,e.val))with
   |some (i,_)=>do
    let key <-Jk (((es[i]?).map (·.key)).getD (kv k)) (kv k)
    setObj r (.map (es.modify i fun e=>{ e with key,val:=vv x }) c)
   |none=>setObj r (.map (es.push { key:=kv k,val:=vv x,born:=c }) (c+1)):Sem Unit)).run P w:=by
  simp only[JA,G5,run_underlying hT,G1];simp only[getObj,JP,h1,G5,G1,hc,hf];generalize ((iH l k).bind fun i=>Option.map (fun e=>(i,e.val)) es.toList[i]?)=q
  cases q with
  |none=>rfl
  |some p=>rfl
 rw[a2,dU]
 cases hi:iH l k with
 |none=>
  refine⟨_,by simp only[Option.bind_none,setObj,JP,h1];rfl,?_⟩
  have:=fin (es.push { key:=kv k,val:=vv x,born:=c }) (c+1) (by
   refine⟨?_,?_⟩
   ·simp only[Kw,List.map_append,GW,If];refine List.nodup_append.2 ⟨a1.1,by simp,?_⟩;intro a ha b hb;obtain⟨e,he,rfl⟩:=Jt.1 ha;have:=a1.2 e he;simp at hb;omega
   intro e he;simp only[Kw,JF,Io]at he
   rcases he with he|rfl
   ·have:=a1.2 e he;omega
   simp) (by rw[dU,hi];simp[h2])
  rw[dU,hi]at this;exact this
 |some j=>
  obtain⟨y,hy⟩:=gW hi;have hj:es.toList[j]?.map (fun e=>(e.key,e.val))=some (kv k,vv y):=by
   have:=congrArg (fun l=>l[j]?) h2;simpa[hy]using this
  cases he:es.toList[j]? with
  |none=>rw[he]at hj;simp at hj
  |some e'=>
   rw[he]at hj;simp at hj;have a3:es[j]? = some e':=by simpa using he
   have a6:(Jk (kv k) (kv k))=pure (kv k):=by simp[Jk,hK.same k]
   refine⟨_,by simp only[Kq,he,I3,a3,hj.1,Option.getD_some,a6,G5,I2,G1,setObj,JP,h1];rfl,?_⟩;have a5:((es.modify j fun e=>{ e with key:=kv k,val:=vv x }).toList.map (·.born))=es.toList.map (·.born):=by
    simp only[Ki];apply KG;intro m;simp only[Ju,Kg]
    split
    ·cases es.toList[m]?<;>simp
    cases es.toList[m]?<;>simp
   have:=fin (es.modify j fun e=>{ e with key:=kv k,val:=vv x }) c (by
    rw[a5];refine⟨a1.1,fun e he=>?_⟩;have:e.born∈es.toList.map (·.born):=by rw[<-a5];exact Jt.2 ⟨e,he,rfl⟩
    obtain⟨e2,a3,q⟩:=Jt.1 this;have:=a1.2 e2 a3;omega) (by
    rw[dU,hi];simp only[Ki];apply KG;intro m;have h2m:=congrArg (fun l=>l[m]?) h2;simp only[Ju]at h2m;simp only[Ju,Kg,List.getElem?_set]
    by_cases hm:j=m
    ·subst hm;have hl:j<l.length:=(GV.1 hy).1;simp[he,hl]
    simp only[if_neg hm]
    simpa using h2m)
   rw[dU,hi]at this;exact this
section
variable{P:G7}{N:Nat}{ops:Array GU}{Q:I9→Iq→ka→Prop}{rest:List GU}{st:St}{w:ka}
variable{t:ln}{p:String}{e:Array IJ}{d:Nat}{x y z:G2}
theorem WL.makeMap{T:ln}(hd:G0 d N=true)(h:WL P N ops Q rest ((d,.map (some w.heap.size))::st) (w.alloc (.map #[] 0))):WL P N ops Q (⟨some d,.makeMap T none,t,p,e,none⟩::rest) st w:=
 WL.val hd (fun a ha=>by simp only[execOp,Il,G5];rfl) h
theorem RV.lookup{T K E:ln}{O:Nat->Nat}{i r:Nat}{l:List (κ×ν)}(hm:MapO kv vv O w i r l)(hT:P.underlying T=some (.map K E))(hK:KeyL P K kv){z:ix}(hz:(IV E).run P w=.ok z w)
  (k:κ) {kx u:ix} (hx:ev st x=some (.map (some r))) (hy:ev st y=some kx) (hk:kx=kv k) (hu:DB vv z (bn l k)=u):RV P N (.lookup T x y false) t st w u:=
 fun a ha a0 p e g=>by
  subst hk;subst hu;simp only[execOp,ha.ev hx,ha.ev hy,G5,iU hT hK hm hz]
  cases bn l k<;>simp[DB]
theorem cG{T K E:ln}{O:Nat->Nat}{i r:Nat}{l:List (κ×ν)}(hm:MapO kv vv O w i r l)(hT:P.underlying T=some (.map K E))(hK:KeyL P K kv){z:ix}(hz:(IV E).run P w=.ok z w)
  (k:κ) {kx u:ix} (hx:ev st x=some (.map (some r))) (hy:ev st y=some kx) (hk:kx=kv k) (hu:Cu vv z (bn l k)=u):RV P N (.lookup T x y true) t st w u:=
 fun a ha a0 p e g=>by
  subst hk;subst hu;simp only[execOp,ha.ev hx,ha.ev hy,G5,iU hT hK hm hz]
  cases bn l k<;>simp[Cu]
theorem WL.mapUpdate{T K E:ln}{O:Nat->Nat}{i r:Nat}{l:List (κ×ν)}(hm:MapO kv vv O w i r l)(hT:P.underlying T=some (.map K E))(hK:KeyL P K kv)(a0:i≠0)
  (k:κ) (u:ν) {kx ux:ix} (hx:ev st x=some (.map (some r))) (hy:ev st y=some kx) (hz:ev st z=some ux) (hk:kx=kv k) (hu:ux=vv u)
  (h:∀w',MapO kv vv O w' i r (cy l k u)->Upd (fun j=>j=i) O w O w'->WL P N ops Q rest st w'):WL P N ops Q (⟨none,.mapUpdate T x y z,t,p,e,none⟩::rest) st w:=by
 subst hk;subst hu;obtain⟨w',h1,h2,h3⟩:=dy hT hK hm a0 k u;exact gX (fun a ha=>by simp only[execOp,ha.ev hx,ha.ev hy,ha.ev hz,G5,h1,G1,I2]) (h w' h2 h3)
end
end
end Go.VL
end
section
namespace Go.VL
theorem Dz{α:Type}[Inhabited α]{l:List α}{p:α->Bool}(h:∀j,j<l.length->p (nth l j)=true):l.all p=true:=by
 rw[KO];intro x hx;obtain⟨i,hi,rfl⟩:=Ko hx;rw[<-az hi];exact h i hi
theorem tH{α:Type}[Inhabited α]{l:List α}{p:α->Bool}{j:Nat}(hj:j<l.length)(h:p (nth l j)=false):l.all p=false:=by
 rw[List.all_eq_false];exact⟨l[j],IM hj,by rw[<-az hj,h];simp⟩
theorem aQ{α:Type}[Inhabited α]{l:List α}{j:Nat}(hj:j<l.length):nth l j∈l:=by rw[az hj];exact IM hj
theorem aH{α:Type}[Inhabited α]{l:List α}{j:Nat}(hj:j<l.length):l.take (j+1)=l.take j++[nth l j]:=by
 rw[Jr hj,az hj]
theorem GQ{α:Type}[Inhabited α]{l:List α}{x:α}(hx:x∈l):∃j,j<l.length/\nth l j=x:=by
 obtain⟨i,hi,rfl⟩:=Ko hx;exact⟨i,hi,az hi⟩
def iT(q:Nat->Bool)(n:Nat):Bool:=(Iy n).any q
theorem eo{q:Nat->Bool}{n:Nat}:iT q n=true↔∃i,i<n/\q i=true:=by simp[iT]
theorem bX{q:Nat->Bool}{n:Nat}:iT q n=false↔∀i,i<n->q i=false:=by simp[iT]
theorem xW{q r:Nat->Bool}{n:Nat}(h:∀i,i<n->q i=r i):iT q n=iT r n:=by
 cases hq:iT r n with
 |true=>obtain⟨i,hi,hr⟩:=eo.1 hq;exact eo.2 ⟨i,hi,by rw[h i hi,hr]⟩
 |false=>exact bX.2 fun i hi=>by rw[h i hi];exact bX.1 hq i hi
theorem gV{α:Type}[Inhabited α]{l:List α}{p:α->Bool}:iT (fun i=>p (nth l i)) l.length=l.any p:=by
 cases h:l.any p with
 |true=>
  obtain⟨x,hx,hp⟩:=List.any_eq_true.1 h;obtain⟨i,hi,rfl⟩:=GQ hx;exact eo.2 ⟨i,hi,hp⟩
 |false=>exact bX.2 fun i hi=>by have:=List.any_eq_false.1 h _ (aQ hi);simpa using this
def dt(q:Nat->Bool)(n:Nat):Int:=match (Iy n).find? q with
 |some i=>i
 |none=>-1
theorem ct{q:Nat->Bool}{n:Nat}(h:∀i,i<n->q i=false):dt q n = -1:=by
 have:(Iy n).find? q=none:=by rw[Jn];intro x hx;simp[h x (J0.1 hx)]
 rw[dt,this]
theorem cx{q:Nat->Bool}{n k:Nat}(hk:k<n)(hy:q k=true)(a0:∀i,i<k->q i=false):dt q n=k:=by
 have:(Iy n).find? q=some k:=by
  rw[List.find?_range_eq_some];exact⟨hy,J0.2 hk,fun j hj=>by simp[a0 j hj]⟩
 rw[dt,this]
theorem firstN_any{q:Nat->Bool}{n:Nat}:decide ((0:Int)<=dt q n)=iT q n:=by
 cases h:iT q n with
 |false=>rw[ct (bX.1 h)];rfl
 |true=>
  obtain⟨i,hi,hq⟩:=eo.1 h;have:∃j,(Iy n).find? q=some j:=by
   cases hf:(Iy n).find? q with
   |some j=>exact⟨j,rfl⟩
   |none=>rw[Jn]at hf;exact absurd hq (hf i (J0.2 hi))
  obtain⟨j,hj⟩:=this;rw[dt,hj];simp
theorem ef{α:Type}[Inhabited α]{l:List α}{j:Nat}(h:l.length<=j):nth l j=default:=by simp[nth,Ia,Jb h]
theorem aU{α:Type}[Inhabited α]{l:List α}{i j:Nat}{x:α}(hi:i<l.length):nth (l.set i x) j=if j=i then x else nth l j:=by
 by_cases hj:j<l.length
 ·rw[az (by simpa using hj),az hj,List.getElem_set]
  by_cases h:i=j<;>simp[h,eq_comm]
 rw[if_neg zo];have:∀l:List α,l.length<=j->nth l j=default:=fun l h=>by simp[nth,Ia,Jb h]
 rw[this _ (by simp;omega),this _ zo]
theorem ay{α:Type}[Inhabited α]{l r:List α}{j:Nat}:nth (l++r) j=if j<l.length then nth l j else nth r (j-l.length):=by
 split
 ·rename_i h;rw[az (by simp;omega),az h,IC h]
 rename_i h
 by_cases hj:j-l.length<r.length
 ·rw[az (by simp;omega),az hj,IA zo]
 have:∀(l:List α) (j:Nat),l.length<=j->nth l j=default:=fun l j h=>by simp[nth,Ia,Jb h]
 rw[this _ _ (by simp;omega),this _ _ zo]
theorem ee{α β:Type}[Inhabited α][Inhabited β]{f:α->β}{l:List α}{i:Nat}(h:i<l.length):nth (l.map f) i=f (nth l i):=by
 rw[az (by simpa using h),az h];simp
end Go.VL
end
section
namespace Go.VL
open Go.ChangeShapes Go.WideShapes Go.ChangeAt Go.RowKit Go.Deep
variable{H:Type}{enc:ln×ix→H}{P:G7}{w:ka}{base:Nat}{held:Bool}
theorem AS{f:J1}{args:List ix}(h:Ret P f args w fun v w'=>v=.bool true/\Ext w w'):Calls P f args.toArray w fun e w'=>e=.returned (.bool true)/\Below w.heap.size w w':=
 Iw h fun e w' q=>by
  cases e with
  |returned v=>exact⟨by rw[q.1],q.2⟩
  |panicked c=>exact q.elim
  |outgrown=>exact q.elim
end Go.VL
end
section
namespace Go.VL
open Go.ChangeShapes Go.WideShapes Go.ChangeAt Go.RowKit Go.Deep
section
variable{H:Type}{enc:ln×ix→H}{P:G7}{w:ka}{base:Nat}{held:Bool}
def Rd(enc:ln×ix->H)(P:G7)(w:ka)(base:Nat)(held:Bool)(t:ln)(cs:List ix):Prop:=∃fuel x,J6 enc P w base (fun _=>true) held fuel t cs=some x
theorem Gh{t:ln}{v:ix}{d:DataW H}{ps:List MemPlace}(h:DataW.Trod enc P w base (fun _=>true) held t v d ps):Rd enc P w base held t v.cells.toList:=by
 obtain⟨a0,hf⟩:=h;exact⟨a0,_,hf⟩
theorem Rd.int{t:ln}{k:GR}{cs:List ix}(ht:P.underlying t=some (.int k))(h:Rd enc P w base held t cs):∃n,cs=[.int k n]/\(LH k n).wf=true:=by
 obtain⟨a0,x,h⟩:=h
 cases a0 with
 |zero=>simp[J6]at h
 |succ m=>
  unfold J6 at h;rw[ht]at h
  split at h<;>simp_all
theorem Rd.bool{t:ln}{cs:List ix}(ht:P.underlying t=some .bool)(h:Rd enc P w base held t cs):∃b,cs=[.bool b]:=by
 obtain⟨a0,x,h⟩:=h
 cases a0 with
 |zero=>simp[J6]at h
 |succ m=>
  unfold J6 at h;rw[ht]at h
  split at h<;>simp_all
theorem Rd.struct{t:ln}{fs:Array JM}{cs:List ix}(ht:P.underlying t=some (.struct fs))(h:Rd enc P w base held t cs):
  cs.length=P.cellsOf t/\∀(i:Nat) (f:JM),fs[i]? = some f->Rd enc P w base held f.type ((cs.drop f.offset).take (P.cellsOf f.type)):=by
 obtain⟨a1,x,h⟩:=h;obtain⟨xs,m,rfl,rfl,hl,a0,hf⟩:=DataW.trod_struct ht h;refine⟨hl,fun i f hi=>?_⟩;have h1:=hf i f hi;have a2:i<fs.size:=(JO.1 hi).1;rw[I1 zo]at h1;exact⟨m,_,h1⟩
def BU(P:G7):List JM->Nat->Bool
 |[],_=>true
 |f::r,i=>Ij f.offset i&&Ij (P.cellsOf f.type) 1&&BU P r (i+1)
theorem vu:∀(fs:List JM) (k i:Nat) (f:JM),BU P fs k=true->fs[i]? = some f->f.offset=k+i/\P.cellsOf f.type=1
 |[],_,_,_,_,h=>by simp at h
 |g::r,k,i,f,hb,h=>by
  simp only[BU,Ik]at hb
  cases i with
  |zero=>simp only[List.getElem?_cons_zero,IU]at h;subst h;exact⟨by simpa using G8 hb.1.1,G8 hb.1.2⟩
  |succ i=>have:=vu r (k+1) i f hb.2 (by simpa using h);exact⟨zo,this.2⟩
theorem Rd.flat{t:ln}{fs:List JM}{cs:List ix}(ht:P.underlying t=some (.struct fs.toArray))(hb:BU P fs 0=true)(hn:P.cellsOf t=fs.length)(h:Rd enc P w base held t cs):
  cs.length=fs.length/\∀(i:Nat) (f:JM),fs[i]? = some f->∃v,cs[i]? = some v/\Rd enc P w base held f.type [v]:=by
 obtain⟨hl,hf⟩:=h.struct ht;refine⟨by rw[hl,hn],fun i f hi=>?_⟩;obtain⟨h1,h2⟩:=vu fs 0 i f hb hi;have hr:=hf i f (by simpa using hi);have a0:i<cs.length:=by rw[hl,hn];exact(GV.1 hi).1
 rw[h1,h2,Ig]at hr;refine⟨cs[i],I1 a0,?_⟩
 rwa[List.drop_eq_getElem_cons a0,List.take_succ_cons,JQ]at hr
theorem Rd.slice{t e:ln}{sz:Nat}{cs:List ix}(ht:P.underlying t=some (.slice e))(ce:P.cellsOf e=sz)(hz:0<sz)(h:Rd enc P w base held t cs):
  ∃v xs,cs=[v]/\Sl (fun c:List ix=>c) sz w v xs/\∀c∈xs,c.length=sz/\Rd enc P w base held e c:=by
 obtain⟨a5,x,h⟩:=h
 rcases open_slice ht h with⟨rfl,_⟩|⟨a,len,a6,m,n,D,Pl,rfl,hb,hl,hm,a3,rfl,hx⟩
 ·exact⟨_,[],rfl,⟨⟨none,0,rfl,GS _,zo,fun h=>absurd rfl h⟩,fun i hi=>absurd hi (by simp)⟩,by simp⟩
 simp only[if_true]at a3;subst a3;obtain⟨V,hV⟩:=choose_lt (α:=List ix) (p:=fun i c=>w.cells? base (a.add (i*P.cellsOf e)) (P.cellsOf e)=some c/\J6 enc P w base (fun _=>true) held n e c=some (D i,Pl i)) hx;rw[ce]at hV;have hc:∀i,i<len->∀j u,(V i)[j]? = some u->w.cell? (a.add (i*sz+j))=some u:=fun i hi j u hu=>by
  obtain⟨_,a0,a1⟩:=Kp (hV i zo).1;have hj:j<sz:=by have:=(GV.1 hu).1;omega
  have:=a1 j hj;rw[add_add]at this;rw[this,hu]
 have a0:∀i,i<len->(V i).length=sz:=fun i hi=>(Kp (hV i zo).1).2.1
 have a2:((Iy len).map V).length=len:=by simp
 refine⟨_,(Iy len).map V,rfl,⟨⟨some a,m,by rw[a2],zo,by simpa[maxLen]using hm,fun h=>?_⟩,fun i hi j u hu=>?_⟩,fun c a4=>?_⟩
 ·rw[a2]at h;have h0:0<(V 0).length:=by rw[a0 0 zo];exact hz
  have:=hc 0 zo 0 _ (I1 h0);obtain⟨b,o,s⟩:=a;have hs:s=none:=by simpa[I4]using KE this
  subst hs;exact⟨b,o,rfl⟩
 ·rw[a2]at hi;have h0:0<(V 0).length:=by rw[a0 0 zo];exact hz
  have h1:=hc 0 zo 0 _ (I1 h0);obtain⟨b,o,s⟩:=a;have hs:s=none:=by simpa[I4]using KE h1
  subst hs;simp only[List.getElem_map,Ku]at hu;have h2:=hc i hi j u hu;simp only[adr];have e1:((⟨b,o,none⟩:Ie).add (i*sz+j))=((⟨b,o+i*sz,none⟩:Ie).add j):=by
   simp only[I4];split<;>split<;>simp_all<;>omega
  rw[e1]at h2;exact h2
 simp only[Jt,J0]at a4;obtain⟨i,hi,rfl⟩:=a4;exact⟨a0 i hi,n,_,(hV i zo).2⟩
theorem tO{α β:Type}{f:α->β}{R:α->Prop}:∀(xs:List β),(∀c∈xs,∃a,c=f a/\R a)->∃ys:List α,xs=ys.map f/\∀y∈ys,R y
 |[],_=>⟨[],rfl,by simp⟩
 |c::xs,h=>by
  obtain⟨a,ha,hR⟩:=h c (by simp);obtain⟨ys,hy,hr⟩:=tO xs (fun c hc=>h c (by simp[hc]));exact⟨a::ys,by simp[ha,hy],by simpa[hR]using hr⟩
theorem Sl.of_map{α β:Type}{enc:β->List ix}{f:α->β}{sz:Nat}{v:ix}{ys:List α}(h:Sl enc sz w v (ys.map f)):Sl (fun a=>enc (f a)) sz w v ys:=by
 refine⟨by simpa using h.shape,fun i hi j u hu=>h.cells i (by simpa using hi) j u (by simpa using hu)⟩
theorem Rd.sliceOf{α:Type}{f:α->List ix}{R:α->Prop}{t e:ln}{sz:Nat}{cs:List ix}(ht:P.underlying t=some (.slice e))(ce:P.cellsOf e=sz)(hz:0<sz)(a0:∀c,Rd enc P w base held e c->∃a,c=f a/\R a)(h:Rd enc P w base held t cs):
  ∃v xs,cs=[v]/\Sl f sz w v xs/\∀a∈xs,R a:=by
 obtain⟨v,xs,rfl,hs,hx⟩:=h.slice ht ce hz;obtain⟨ys,rfl,hy⟩:=tO (f:=f) (R:=R) xs fun c hc=>a0 c (hx c hc).2
 exact⟨v,ys,rfl,hs.of_map,hy⟩
theorem Rd.ints{k:GR}{t e:ln}{cs:List ix}(ht:P.underlying t=some (.slice e))(he:P.underlying e=some (.int k))(ce:P.cellsOf e=1)(h:Rd enc P w base held t cs):
 ∃v zs,cs=[v]/\Sl (fun n=>[JY k n]) 1 w v zs/\∀n∈zs,(LH k n).wf=true:=h.sliceOf ht ce zd (fun _ hc=>hc.int he)
end
end Go.VL
end
section
namespace Go.VL
def evp(st:St):List (Nat×G2)->Option (List (Nat×ix))
 |[]=>some []
 |(i,x)::r=>match ev st x,evp st r with
  |some v,some vs=>some ((i,v)::vs)
  |_,_=>none
section
variable{P:G7}{N:Nat}{ops:Array GU}{Q:I9→Iq→ka→Prop}{rest:List GU}{st:St}{w:ka}
variable{t:ln}{p:String}{e:Array IJ}{d:Nat}{x y z:G2}
theorem Fits.evp{a:Iq}(ha:Fits N a st):∀ {l:List (Nat×G2)} {vs:List (Nat×ix)},evp st l=some vs->l.map (fun q=>(q.1,a.eval q.2))=vs:=by
 intro l
 induction l with
 |nil=>intro vs h;simpa[VL.evp]using h.symm
 |cons q r ih=>
  obtain⟨i,x⟩:=q;intro vs h;simp only[VL.evp]at h
  cases h1:VL.ev st x with
  |none=>rw[h1]at h;simp at h
  |some v=>
   cases h2:VL.evp st r with
   |none=>rw[h1,h2]at h;simp at h
   |some vs'=>
    rw[h1,h2]at h;simp at h;subst h;rw[GW,ha.ev h1,ih h2]
def cL(P:G7)(T:ln)(pl:Array (Nat×Nat)):Prop:=
 ∃fs,P.underlying T=some (.struct fs)/\∀w,(fs.mapM fun f=>do pure (f.offset,<-Ib f.type):Sem (Array (Nat×Nat))).run P w=.ok pl w
theorem RV.build{T:ln}{pl:Array (Nat×Nat)}{parts:List (Nat×G2)}{vs:List (Nat×ix)}{z:ix}{cells:Array ix}(hp:cL P T pl)(hz:(IV T).run P w=.ok z w)
  (hv:evp st parts=some vs) (hf:IZ (pl[·]?) z.cells vs=some cells):RV P N (.build T parts.toArray) t st w (.agg cells):=
 fun a ha a1 p e g=>by
  obtain⟨fs,hu,a0⟩:=hp;have h1:=ha.evp hv;have e1:(JS (fun x:Nat×G2=>match x with|(i,x)=>(i,a.eval x)) parts)=vs:=by rw[<-h1]
  simp only[execOp,Lb,G9,e1,G5,hz,G1,run_underlying hu,a0,hf,I2]
theorem fill_flat(pl:Array (Nat×Nat)):∀(vs:List (Nat×ix)) (cells:Array ix),(vs.all fun q=>q.2.oneCell')=true->
  (vs.all fun q=>match pl[q.1]? with|some (off,1)=>G0 off cells.size|_=>false)=true->
  IZ (pl[·]?) cells vs=some (vs.foldl (fun cs q=>cs.setIfInBounds (pl.getD q.1 (0,0)).1 q.2) cells)
 |[],cells,_,_=>rfl
 |(i,v)::r,cells,h1,h2=>by
  simp only[IS,Ik]at h1 h2;obtain⟨hv,h1⟩:=h1;obtain⟨hi,h2⟩:=h2
  cases hp:pl[i]? with
  |none=>rw[hp]at hi;simp at hi
  |some q=>
   obtain⟨off,s⟩:=q;rw[hp]at hi
   split at hi
   ·rename_i he;simp only[IU,KK]at he;obtain⟨rfl,rfl⟩:=he;have a2:off<cells.size:=IL hi;have hc:v.cells = #[v]:=by cases v<;>first|rfl|simp[Ih]at hv
    have hg:pl.getD i (0,0)=(off,1):=by simp[G4,hp]
    have a0:∀(f:Array ix->ix×Nat->Array ix),(∀cs c j,f cs (c,j)=cs.setIfInBounds (off+j) c)->(#[v].zipIdx).foldl f cells=cells.setIfInBounds off v:=fun f hf=>by
     rw[show(#[v].zipIdx) = #[(v,0)]from rfl];show f cells (v,0)=_;rw[hf];rfl
    have a1:¬(1≠1\/off+1>cells.size):=zo;simp only[IZ,hp,hc,KW,hg];have e1:((#[v].size:Nat))=1:=rfl;simp only[e1];rw[if_neg (by simp;omega)];rw[a0 _ (fun _ _ _=>rfl)];exact fill_flat pl r _ h1 (by simpa using h2)
   cases hi
theorem aE{T:ln}{pl:Array (Nat×Nat)}{parts:List (Nat×G2)}{vs:List (Nat×ix)}{z:ix}{cells:Array ix}(hp:cL P T pl)(hz:(IV T).run P w=.ok z w)
  (hv:evp st parts=some vs) (h1:(vs.all fun q=>q.2.oneCell')=true) (h2:(vs.all fun q=>match pl[q.1]? with|some (off,1)=>G0 off z.cells.size|_=>false)=true)
  (hf:vs.foldl (fun cs q=>cs.setIfInBounds (pl.getD q.1 (0,0)).1 q.2) z.cells=cells):RV P N (.build T parts.toArray) t st w (.agg cells):=
 RV.build hp hz hv (by rw[fill_flat pl vs _ h1 h2,hf])
theorem rf{O:Nat->Nat}{i b:Nat}{cs us:Array ix}{E T:ln}(hb:BlkO O w i b cs E)(hs:us.size=cs.size)(hT:(Ib T).run P w=.ok us.size w)(h1:∀u∈us.toList,u.oneCell'=true):
  (Jg T (nP b) (.agg us)).run P w=.ok () (w.setRow b us):=by
 have:=run_storeCells_at P b 0 E us.toList 0 cs w hb.blk (by simp[hs]) h1;simp only[Ig,JQ,JE,Kj]at this;rw[K6 (by simp[hs]),KX]at this;simp only[Jg,Ii,storeVar,G5,I2,G1,K9,hT];simpa using this
theorem BlkO.setRow{O:Nat->Nat}{w:ka}{i b:Nat}{cs us:Array ix}{E:ln}(h:BlkO O w i b cs E):BlkO O (w.setRow b us) i b us E:=
 ⟨setRow_heap w b cs us E (0,0) h.blk,h.tag⟩
theorem Upd.setRow{S:Nat->Prop}(hz:¬S 0){O:Nat->Nat}{w:ka}{i b:Nat}{us:Array ix}(ht:O b=i)(hS:S i):Upd S O w O (w.setRow b us):=
 ⟨rfl,rfl,rfl,by simp,fun k _ hn=>setRow_other w b k _ (fun e=>hn (by subst e;rw[ht];exact hS)),fun _ _=>rfl,fun _ h=>.inl h,hz⟩
theorem aR{T:ln}{O:Nat->Nat}{i b:Nat}{cs us:Array ix}{E:ln}(hb:BlkO O w i b cs E)(hs:us.size=cs.size)(hT:(Ib T).run P w=.ok us.size w)(h1:us.toList.all Ih=true)
  {q:Ie} (hx:ev st x=some (.pointer (some q))) (hq:q=⟨b,0,none⟩) (hy:ev st y=some (.agg us))
  (h:WL P N ops Q rest st (w.setRow b us)):WL P N ops Q (⟨none,.store T x y,t,p,e,none⟩::rest) st w:=
 gX (fun a ha=>by
  subst hq
  simp only[execOp,ha.ev hx,ha.ev hy,G5,rf hb hs hT (KO.1 h1),G1,I2]) h
theorem aF{B:Nat}{O:Nat->Nat}(r:Rng B O w)(i:Nat)(a0:i≠0){E:ln}{v:ix}(hx:ev st x=some v)(hd:G0 d N=true)
  (h:∀b w' O',BlkO O' w' i b v.cells E->Upd (fun j=>j=i) O w O' w'->Rng B O' w'->Ext w w'->WL P N ops Q rest ((d,nP b)::st) w'):WL P N ops Q (⟨some d,.box E x,t,p,e,none⟩::rest) st w:=by
 have u:=Upd.alloc (S:=fun j=>j=i) (fun h=>a0 h.symm) r (.cells v.cells E) i;exact WL.box hx hd (h _ _ _ (BlkO.new _ _ _ _ _) u (r.upd u) (Ext.alloc _ _))
theorem ar{B:Nat}{O:Nat->Nat}(r:Rng B O w)(i:Nat)(a0:i≠0){E:ln}{z:ix}(hz:(IV E).run P w=.ok z w)(hd:G0 d N=true)
  (h:∀b w' O',BlkO O' w' i b z.cells E->Upd (fun j=>j=i) O w O' w'->Rng B O' w'->Ext w w'->WL P N ops Q rest ((d,nP b)::st) w'):WL P N ops Q (⟨some d,.alloc E,t,p,e,none⟩::rest) st w:=by
 have u:=Upd.alloc (S:=fun j=>j=i) (fun h=>a0 h.symm) r (.cells z.cells E) i;exact WL.alloc hz hd (h _ _ _ (BlkO.new _ _ _ _ _) u (r.upd u) (Ext.alloc _ _))
theorem BlkO.cellsAdd{O:Nat->Nat}{i b:Nat}{cs:Array ix}{E:ln}(h:BlkO O w i b cs E):∀j u,cs.toList[j]? = some u->w.cell? (nA b j)=some u:=fun j u hu=>by
 rw[show(nA b j)=⟨b,j,none⟩from by simp only[I4];split<;>simp_all];exact h.cell j (by simpa using hu)
end
section
variable{P:G7}{N:Nat}{st:St}{w:ka}{fn:Li}{R:ix→ka→Prop}
theorem de{T:ln}{q:Ie}{us:List ix}(hc:∀j u,us[j]? = some u->w.cell? (q.add j)=some u)(hT:(KS T).run P w=.ok true w)(hn:(Ib T).run P w=.ok us.length w):
  (loadVar T q).run P w=.ok (.agg us.toArray) w:=by
 have:=run_loadCellsFrom (P:=P) us 0 #[] (q:=q) (w:=w) (by simpa using hc);simp[loadVar,hT,hn,loadCells,this]
theorem aJ{t:Lu}{T:ln}{q:Ie}{us:List ix}(hr:fn.results = #[.cell t T])(hv:cm st t=some (.pointer (some q)))
  (hc:∀j u,us[j]? = some u->w.cell? (q.add j)=some u) (hT:(KS T).run P w=.ok true w) (hn:(Ib T).run P w=.ok us.length w) (h:R (.agg us.toArray) w):QF N (RP P fn R) .ret st w:=fun a ha=>
 ⟨ha.defers,_,by have h1:=ha.get _ _ hv;simp[results,hr,G4,h1,asAddr,de hc hT hn],h⟩
theorem aT{t u:Lu}{T:ln}{q:Ie}{us:List ix}{v':ix}(hr:fn.results = #[.cell t T,.tmp u])(hv:cm st t=some (.pointer (some q)))(a0:cm st u=some v')
  (hc:∀j u,us[j]? = some u->w.cell? (q.add j)=some u) (hT:(KS T).run P w=.ok true w) (hn:(Ib T).run P w=.ok us.length w) (h:R (.tuple #[.agg us.toArray,v']) w):QF N (RP P fn R) .ret st w:=fun a ha=>
 ⟨ha.defers,_,by have h1:=ha.get _ _ hv;have h2:=ha.get _ _ a0;simp[results,hr,G4,h1,h2,asAddr,de hc hT hn],h⟩
end
theorem uw{α:Type}{enc:α->List ix}{sz:Nat}{w:ka}{g:Nat}{cells:Array ix}{E:ln}{xs:List α}(hb:w.heap[g]? = some (.cells cells E (0,0)))(hc:cells.toList=xs.flatMap enc)(hz:∀x∈xs,(enc x).length=sz)(hm:xs.length<=9223372036854775807):
  Sl enc sz w (.slice (some ⟨g,0,none⟩) xs.length xs.length) xs:=by
 refine⟨⟨_,_,rfl,GS _,hm,fun _=>⟨g,0,rfl⟩⟩,fun i hi j u hu=>?_⟩;have h:=fX xs hz i hi j u hu;have ha:((adr (.slice (some ⟨g,0,none⟩) xs.length xs.length) sz i).add j)=⟨g,i*sz+j,none⟩:=by
  simp only[adr,I4];split<;>simp_all
 rw[ha,cell_of_row w g _ cells E (0,0) hb];rw[<-hc]at h;simpa using h
section
variable{P:G7}{N:Nat}{ops:Array GU}{Q:I9→Iq→ka→Prop}{rest:List GU}{st:St}{w:ka}
variable{t:ln}{p:String}{e:Array IJ}{d:Nat}
theorem iK{T E:ln}{sz n:Nat}{z:ix}{parts:List (Nat×G2)}{vs:List (Nat×ix)}(hu:P.underlying T=some (.slice E))(hE:(Ib E).run P w=.ok sz w)(hz:(IV E).run P w=.ok z w)
  {α:Type} (enc:α->List ix) (xs:List α) (hn:xs.length=n) (hv:evp st parts=some vs) (a4:KL (n*sz) 16777216=true) (a1:Ij (n*sz) 0=false)
  (hf:IZ (fun i=>some (i*sz,sz)) ((Array.range (n*sz)).map (z.cells[· % z.cells.size]!)) vs=some (xs.flatMap enc).toArray) (a2:∀x∈xs,(enc x).length=sz) (hd:G0 d N=true)
  (h:∀v w',Sl enc sz w' v xs->Ext w w'->WL P N ops Q rest ((d,v)::st) w'):WL P N ops Q (⟨some d,.buildSlice T n parts.toArray,t,p,e,none⟩::rest) st w:=by
 subst hn;have a3:=IL a4;have a0:¬xs.length*sz=0:=fun e=>by rw[e]at a1;simp at a1
 have a5:xs.length<=xs.length*sz:=Nat.le_mul_of_pos_right _ (KF fun e=>a0 (by rw[e,Nat.mul_zero]));refine WL.val (v:=.slice (some ⟨w.heap.size,0,none⟩) xs.length xs.length) (w':=w.alloc (.cells (xs.flatMap enc).toArray E)) hd (fun a ha=>?_) (h _ _ (uw (heap_alloc_new w _) rfl a2 zo) (Ext.alloc _ _));have h1:=ha.evp hv;have e1:(JS (fun x:Nat×G2=>match x with|(i,x)=>(i,a.eval x)) parts)=vs:=by rw[<-h1]
 simp only[execOp,Instr.buildSlice,G9,e1,G5,run_underlying hu,G1,hE];rw[if_neg zo,if_neg a0];simp[hz,hf,newRow,newObj];rfl
end
end Go.VL
end
section
namespace Go.VL
section
variable{P:G7}{N:Nat}{ops:Array GU}{Q:I9→Iq→ka→Prop}{rest:List GU}{st:St}{w:ka}
theorem fq(K:I9->Iq->ka->Prop):∀(l r:List GU) (a:Iq) (w:ka),(∀e a w,K e a w->e≠.normal->Q e a w)->(∀a w,K .normal a w->wpList P ops Q r a w)->wpList P ops K l a w->wpList P ops Q (l++r) a w
 |[],r,a,w,_,hn,h=>hn a w h
 |o::l,r,a,w,hx,hn,h=>by
  simp only[IN];unfold wpList at h ⊢;have ih:=fun a w=>fq K l r a w hx hn
  have a1:∀c a w,K (.panic c) a w->Q (.panic c) a w:=fun c a w h=>hx _ a w h (by intro h;cases h)
  split
  ·rename_i hw;rw[if_pos hw]at h
   rcases h with h|⟨h1,a0,w0,h2⟩
   ·left;unfold IR at h ⊢;generalize (execOp a.eval o).run P w=q at *
    cases q with
    |ok n w'=>
     cases n<;>simp only[J4]at h ⊢<;>first
      |exact ih _ _ h
      |exact h.elim
      |exact KJ h (fun _ _ he=>ih _ _ he)
      |exact Iw h (fun e w'' he=>by
       cases e with
       |returned v=>exact ih _ _ he
       |panicked c=>exact a1 _ _ _ he
       |outgrown=>obtain⟨a0,w0,he⟩:=he;exact⟨a0,w0,hx _ a0 w0 he (by intro h;cases h)⟩)
    |halt x w'=>cases x<;>simp only[J4]at h ⊢<;>first|exact a1 _ _ _ h|exact h.elim
   exact .inr ⟨h1,a0,w0,hx _ a0 w0 h2 (by intro h;cases h)⟩
  rename_i hw;rw[if_neg hw]at h;exact ih _ _ h
def DN(N:Nat)(S:ka->Prop)(tB:Nat)(b:Bool)(st:St):I9->Iq->ka->Prop:=fun e a w=>e=.normal/\S w/\Fits N a st/\a.tmps[tB]? = some (.bool b)
def rz(N:Nat)(ops:Array GU)(st:St):List GU->Bool
 |[]=>true
 |o::r=>(match o.guard with
  |some (i,c)=>(match (ops[i]?).bind (·.dst)with
   |some d=>(match cm st d with
    |some (.bool x)=>!(x==c)
    |some (.tuple _)=>true
    |_=>false)
   |none=>false)
  |none=>false)&&(match o.dst with|some d=>(match cm st d with|none=>true|_=>false)&&G0 d N&&rz N ops ((d,undef)::st) r|none=>false)
theorem pN:∀(l:List GU) (st0 st:St) (a:Iq),rz N ops st l=true->(∀t v,cm st0 t=some v->cm st t=some v)->Fits N a st->(∀a',Fits N a' st0->wpList P ops Q rest a' w)->wpList P ops Q (l++rest) a w
 |[],st0,st,a,_,hc,ha,h=>h a ⟨ha.size,ha.defers,fun t v hv=>ha.get t v (hc t v hv)⟩
 |o::l,st0,st,a,hp,hc,ha,h=>by
  simp only[rz,Ik]at hp;obtain⟨hg,hd⟩:=hp
  cases a2:o.dst with
  |none=>rw[a2]at hd;simp at hd
  |some d=>
   rw[a2]at hd;simp only[Ik]at hd;obtain⟨⟨a4,a6⟩,a5⟩:=hd;have a0:cm st d=none:=by cases h:cm st d with|none=>rfl|some v=>rw[h]at a4;simp at a4
   simp only[IN];unfold wpList;rw[if_neg ?_]
   ·rw[a2];refine pN l st0 ((d,undef)::st) _ a5 (fun t v hv=>?_) (ha.put a6 undef) h;have h1:=hc t v hv;simp only[cm]
    cases hb:Ij d t with
    |true=>have:=G8 hb;subst this;rw[a0]at h1;simp at h1
    |false=>exact h1
   cases a3:o.guard with
   |none=>rw[a3]at hg;simp at hg
   |some ic=>
    obtain⟨i,c⟩:=ic;rw[a3]at hg;simp only at hg;simp only[GZ,a3,yielded]
    cases a1:(ops[i]?).bind (·.dst)with
    |none=>rw[a1]at hg;simp at hg
    |some d'=>
     rw[a1]at hg;simp only at hg
     cases hs:cm st d' with
     |none=>rw[hs]at hg;simp at hg
     |some v=>
      rw[hs]at hg
      cases v<;>simp at hg
      ·rename_i x;simp[ha.get _ _ hs];exact fun e=>hg (by rw[e])
      simp[ha.get _ _ hs]
theorem qd{a:Iq}{t:Nat}{b b':Bool}(hs:cm st t=some (.bool b))(hb:b=b')(ha:Fits N a st):Fits N a ((t,.bool b')::st):=by
 subst hb;refine⟨ha.size,ha.defers,fun u v hv=>?_⟩;simp only[cm]at hv
 cases hb:Ij t u with
 |true=>rw[hb]at hv;have:=G8 hb;subst this;simp at hv;subst hv;exact ha.get _ _ hs
 |false=>rw[hb]at hv;exact ha.get _ _ hv
theorem bx{l G:List GU}{tA tB tP:Nat}{c:Bool}{t:ln}{p:String}{e:Array IJ}(S:ka->Prop)(b:Bool)(n:Nat)(hS:S w)(hG:l.take n=G)(a0:l.drop n=⟨some tP,.pick (.tmp tA) (.tmp tB) (.const (.bool false)),t,p,e,none⟩::rest)
  (hc:cm st tA=some (.bool c)) (a1:rz N ops ((tA,.bool false)::st) G=true) (hd:G0 tP N=true)
  (h1:c=true->WL P N ops (DN N S tB b st) G ((tA,.bool true)::st) w) (h2:∀w',S w'->WL P N ops Q rest ((tP,.bool (c&&b))::st) w'):WL P N ops Q l st w:=by
 intro a ha;rw[<-Iu n l,hG,a0]
 cases c with
 |true=>
  refine fq (DN N S tB b st) G _ a w (fun e a w h a3=>absurd h.1 a3) (fun a' w' h=>?_) (h1 rfl a (qd hc rfl ha));obtain⟨_,a4,hf,hb⟩:=h;unfold wpList;rw[if_pos (bN rfl _)];left;unfold IR;rw[ir (b:=true) (by simpa[It,G4]using(by rw[hf.get _ _ hc]:(a'.tmps[tA]?).getD undef=(some (.bool true)).getD undef))];simp only[cond_true];rw[show a'.eval (.tmp tB)=.bool b from by simp[It,G4,hb]];exact h2 w' a4 _ (hf.put hd _)
 |false=>
  refine pN G st ((tA,.bool false)::st) a a1 (fun t v hv=>?_) (qd hc rfl ha) (fun a' a2=>?_)
  ·simp only[cm]
   cases hb:Ij tA t with
   |true=>have:=G8 hb;subst this;rw[hc]at hv;exact hv
   |false=>exact hv
  unfold wpList;rw[if_pos (bN rfl _)];left;unfold IR;rw[ir (b:=false) (by simpa[It,G4]using(by rw[a2.get _ _ hc]:(a'.tmps[tA]?).getD undef=(some (.bool false)).getD undef))];exact h2 w hS _ (a2.put hd _)
theorem bY{l G:List GU}{tA tB tP:Nat}{c:Bool}{t:ln}{p:String}{e:Array IJ}(S:ka->Prop)(b:Bool)(n:Nat)(hS:S w)(hG:l.take n=G)(a0:l.drop n=⟨some tP,.pick (.tmp tA) (.const (.bool true)) (.tmp tB),t,p,e,none⟩::rest)
  (hc:cm st tA=some (.bool c)) (a1:rz N ops ((tA,.bool true)::st) G=true) (hd:G0 tP N=true)
  (h1:c=false->WL P N ops (DN N S tB b st) G ((tA,.bool false)::st) w) (h2:∀w',S w'->WL P N ops Q rest ((tP,.bool (c||b))::st) w'):WL P N ops Q l st w:=by
 intro a ha;rw[<-Iu n l,hG,a0]
 cases c with
 |false=>
  refine fq (DN N S tB b st) G _ a w (fun e a w h a3=>absurd h.1 a3) (fun a' w' h=>?_) (h1 rfl a (qd hc rfl ha));obtain⟨_,a4,hf,hb⟩:=h;unfold wpList;rw[if_pos (bN rfl _)];left;unfold IR;rw[ir (b:=false) (by simpa[It,G4]using(by rw[hf.get _ _ hc]:(a'.tmps[tA]?).getD undef=(some (.bool false)).getD undef))];simp only[cond_false];rw[show a'.eval (.tmp tB)=.bool b from by simp[It,G4,hb]];exact h2 w' a4 _ (hf.put hd _)
 |true=>
  refine pN G st ((tA,.bool true)::st) a a1 (fun t v hv=>?_) (qd hc rfl ha) (fun a' a2=>?_)
  ·simp only[cm]
   cases hb:Ij tA t with
   |true=>have:=G8 hb;subst this;rw[hc]at hv;exact hv
   |false=>exact hv
  unfold wpList;rw[if_pos (bN rfl _)];left;unfold IR;rw[ir (b:=true) (by simpa[It,G4]using(by rw[a2.get _ _ hc]:(a'.tmps[tA]?).getD undef=(some (.bool true)).getD undef))];exact h2 w hS _ (a2.put hd _)
theorem cH{S:ka->Prop}{tA tB:Nat}{b c:Bool}{st0:St}(n:Nat)(hS:S w)(a0:st.drop n=st0)(hf:((st.take n).all fun q=>Ij q.1 tA||(match cm st0 q.1 with|none=>true|_=>false))=true)
  (hA:cm st tA=some (.bool c)) (a3:∀v,cm st0 tA=some v->v=.bool c) (hb:cm st tB=some (.bool b)):QF N (DN N S tB b st0) .normal st w:=fun a ha=>by
 refine⟨rfl,hS,⟨ha.size,ha.defers,fun t v hv=>?_⟩,ha.get _ _ hb⟩;refine ha.get t v ?_
 by_cases ht:t=tA
 ·subst ht;rw[a3 v hv];exact hA
 have a2:∀(a1:St),(a1.all fun q=>Ij q.1 tA||(match cm st0 q.1 with|none=>true|_=>false))=true->cm (a1++st0) t=some v:=by
  intro a1
  induction a1 with
  |nil=>intro _;exact hv
  |cons q r ih=>
   intro hq;simp only[IS,Ik,Bool.or_eq_true]at hq;obtain⟨k,u⟩:=q;simp only[IN,cm]
   cases hb:Ij k t with
   |false=>exact ih hq.2
   |true=>
    have:=G8 hb;subst this
    rcases hq.1 with h|h
    ·exact absurd (G8 h) ht
    simp only[hv]at h;cases h
 have:=a2 (st.take n) hf;rw[<-a0,Iu]at this;exact this
end
end Go.VL
end
section
namespace Go.VL
section
variable{P:G7}{N:Nat}{ops:Array GU}{Q:I9→Iq→ka→Prop}{rest:List GU}{st:St}{w:ka}
variable{t xt yt:ln}{p:String}{e:Array IJ}{d:Nat}{x y z:G2}
theorem lh{op:LJ}{a b v:ix}(hg:eqGuard op xt x y a b=pure ())(hx:ev st x=some a)(hy:ev st y=some b)(hr:(binOp op xt a b).run P w=.ok v w):RV P N (.binOp op xt x y yt) t st w v:=
 fun ac ha a0 p e g=>by
  simp only[execOp,ha.ev hx,ha.ev hy,hg,G5,I2,G1,hr]
theorem AW{a b:Bool}(hu:P.underlying xt=some .bool)(hx:ev st x=some (.bool a))(hy:ev st y=some (.bool b)):RV P N (.binOp .eql xt x y yt) t st w (.bool (a==b)):=
 lh (eqGuard_at_bool ..) hx hy (run_eql_bool w xt a b hu)
theorem ib{k k':GR}{m n:Int}{a0:Array ln}(hx:ev st x=some (.int k m))(hy:ev st y=some (.int k' n)):RV P N (.call ⟨.builtin .max,#[x,y],a0⟩) t st w (.int k (max m n)):=
 fun a ha a1 p e g=>by
  simp only[execOp,resolve,invoke,builtin,G5,I2,G1,G9,GW,If,ha.ev hx,ha.ev hy,run_max_int2];congr 3;rw[Int.max_def];split<;>split<;>omega
theorem DF{k k':GR}{m n:Int}{a0:Array ln}(hx:ev st x=some (.int k m))(hy:ev st y=some (.int k' n)):RV P N (.call ⟨.builtin .min,#[x,y],a0⟩) t st w (.int k (min m n)):=
 fun a ha a1 p e g=>by
  simp only[execOp,resolve,invoke,builtin,G5,I2,G1,G9,GW,If,ha.ev hx,ha.ev hy,run_min_int2];congr 3;rw[Int.min_def];split<;>split<;>omega
def bs(l:List UInt8):ByteArray:=⟨l.toArray⟩
theorem cV(l:List UInt8):(bs l).size=l.length:=by simp[bs,LC]
theorem fe(l:List UInt8):(bs l).toList=l:=LA l
theorem kX(l:List UInt8)(a b:Nat):(bs l).extract a b=bs ((l.take b).drop a):=by
 rw[bs,LF,List.drop_take];rfl
theorem Cr{a b:List UInt8}(h:bs a=bs b):a=b:=by
 have:=congrArg LB h;rwa[fe,fe]at this
theorem sJ{op:LJ}{s u:ByteArray}:binOp op xt (.string s) (.string u)=Op.stringOp op s u:=by cases op<;>rfl
theorem cA{a b:List UInt8}(hx:ev st x=some (.string (bs a)))(hy:ev st y=some (.string (bs b))):RV P N (.binOp .eql xt x y yt) t st w (.bool (a==b)):=
 lh (eqGuard_at_string ..) hx hy (by rw[sJ];show Le (Ld ((bs a).toList==(bs b).toList)) w=_;rw[fe,fe])
theorem DE{a b:List UInt8}(hx:ev st x=some (.string (bs a)))(hy:ev st y=some (.string (bs b))):RV P N (.binOp .neq xt x y yt) t st w (.bool (!(a==b))):=
 lh (eqGuard_at_string ..) hx hy (by rw[sJ];show Le (Ld (!((bs a).toList==(bs b).toList))) w=_;rw[fe,fe])
theorem bZ{a:List UInt8}{T:ln}(hT:P.underlying T=some .string)(hx:ev st x=some (.string (bs a))):RV P N (.call ⟨.builtin .len,#[x],#[T]⟩) t st w (nI a.length):=
 fun c hc a0 p e g=>by
  simp only[execOp,resolve,invoke,builtin,G5,I2,G1,G9,GW,If,hc.ev hx,run_len_string w T t _ hT,cV];rfl
theorem AV{a:List UInt8}{k:GR}{m:Int}(hT:P.underlying xt=some .string)(hx:ev st x=some (.string (bs a)))(hy:ev st y=some (.int k m))(i:Nat)(hm:m=i)(hi:i<a.length):RV P N (.index xt x y) t st w (.int .u8 ((nth a i).toNat:Int)):=
 fun c hc a0 p e g=>by
  subst hm;have h2:0<=(i:Int)/\(i:Int)<(bs a).size:=by rw[cV];omega
  simp only[execOp,hc.ev hx,hc.ev hy,G5,run_index_string w xt (bs a) k i hT,dif_pos h2,G1];have:(bs a)[(i:Int).toNat]'(by rw[cV];omega)=nth a i:=by
   rw[az hi];simp[bs,LD]
  rw[this];rfl
theorem cQ{a:List UInt8}{k k':GR}{m n:Int}(hT:P.underlying xt=some .string)(hx:ev st x=some (.string (bs a)))(hy:ev st y=some (.int k m))(hz:ev st z=some (.int k' n))(i j:Nat)(hm:m=i)(hn:n=j)(a0:i<=j)(hj:j<=a.length):
  RV P N (.slice xt x (some y) (some z) none) t st w (.string (bs ((a.take j).drop i))):=
 fun c hc a1 p e g=>by
  subst hm;subst hn;simp only[execOp,I3,Il,hc.ev hx,hc.ev hy,hc.ev hz,run_sliceAt_string w xt _ _ _ _ hT,G5,run_slice_string w xt (bs a) k k' i j hT zo zo (by rw[cV];omega),G1,I7,kX];rfl
theorem jv{a:List UInt8}{k:GR}{m:Int}(hT:P.underlying xt=some .string)(hx:ev st x=some (.string (bs a)))(hy:ev st y=some (.int k m))(i:Nat)(hm:m=i)(hi:i<=a.length):
  RV P N (.slice xt x (some y) none none) t st w (.string (bs (a.drop i))):=
 fun c hc a0 p e g=>by
  subst hm;simp only[execOp,I3,Il,hc.ev hx,hc.ev hy,run_sliceAt_string w xt _ _ _ _ hT,G5,run_slice_string_l w xt (bs a) hT k i zo (by rw[cV];omega),G1,I7,kX,cV,KM];rfl
theorem uA{a:List UInt8}{k:GR}{n:Int}(hT:P.underlying xt=some .string)(hx:ev st x=some (.string (bs a)))(hz:ev st z=some (.int k n))(j:Nat)(hn:n=j)(hj:j<=a.length):
  RV P N (.slice xt x none (some z) none) t st w (.string (bs (a.take j))):=
 fun c hc a0 p e g=>by
  subst hn;simp only[execOp,I3,Il,hc.ev hx,hc.ev hz,run_sliceAt_string w xt _ _ _ _ hT,G5,run_slice_string_h w xt (bs a) hT k j zo (by rw[cV];omega),G1,I7,kX,List.drop_zero];rfl
theorem RV.quo{k:GR}{m n:Int}(hx:ev st x=some (.int k m))(hy:ev st y=some (.int k n))(h0:n≠0)(hr:Fit k (m.tdiv n)):RV P N (.binOp .quo xt x y yt) t st w (.int k (m.tdiv n)):=
 dx hx hy (by rw[CP h0,hr])
theorem RV.rem{k:GR}{m n:Int}(hx:ev st x=some (.int k m))(hy:ev st y=some (.int k n))(h0:n≠0):RV P N (.binOp .rem xt x y yt) t st w (.int k (m.tmod n)):=
 dx hx hy (CO h0)
theorem gd{T:ln}{a:Option Ie}{l c:Nat}(hT:P.underlying xt=some (.slice T))(hx:ev st x=some (.slice a l c))(hy:ev st y=some (nS)):RV P N (.binOp .eql xt x y yt) t st w (.bool a.isNone):=
 lh (eqGuard_at_slice ..) hx hy (by simp[binOp,run_equal_slice_nil w xt T a l c hT])
theorem lg{q:Option Ie}(hT:P.underlying xt=some (.pointer (P.pointee xt)))(hx:ev st x=some (.pointer q))(hy:ev st y=some (.pointer none)):RV P N (.binOp .eql xt x y yt) t st w (.bool q.isNone):=
 lh (eqGuard_at_pointer ..) hx hy (run_eql_pointer_nil w xt q hT)
theorem yd{q:Option Ie}(hT:P.underlying xt=some (.pointer (P.pointee xt)))(hx:ev st x=some (.pointer q))(hy:ev st y=some (.pointer none)):RV P N (.binOp .neq xt x y yt) t st w (.bool (!q.isNone)):=
 lh (eqGuard_at_pointer ..) hx hy (run_neq_pointer_nil w xt q hT)
def cn(v:ix)(sz lo hi:Nat):ix:=
 match v with
 |.slice a _ cap=>.slice (if cap=lo then a else a.map (·.add (lo*sz))) (hi-lo) (cap-lo)
 |_=>v
theorem Sl.slice{α:Type}{enc:α->List ix}{sz:Nat}{v:ix}{xs:List α}(h:Sl enc sz w v xs){lo hi:Nat}(h1:lo<=hi)(h2:hi<=xs.length):Sl enc sz w (cn v sz lo hi) ((xs.take hi).drop lo):=by
 obtain⟨a,c,rfl,hc,hm,ha⟩:=h.shape;have a0:((xs.take hi).drop lo).length=hi-lo:=by simp;omega
 refine⟨⟨_,c-lo,by rw[a0];rfl,zo,zo,fun a2=>?_⟩,fun i a1 j u hu=>?_⟩
 ·rw[a0]at a2;obtain⟨b,o,rfl⟩:=ha zo;rw[if_neg zo];exact⟨b,o+lo*sz,by simp only[I3,I4];split<;>simp_all⟩
 rw[a0]at a1;obtain⟨b,o,rfl⟩:=ha zo;have hg:((xs.take hi).drop lo)[i]'(by rw[a0];exact a1)=xs[lo+i]'(zo):=by simp
 rw[hg]at hu;have:=h.cells (lo+i) zo j u hu;have e1:adr (cn (.slice (some ⟨b,o,none⟩) xs.length c) sz lo hi) sz i=adr (.slice (some ⟨b,o,none⟩) xs.length c) sz (lo+i):=by
  simp only[cn,adr];rw[if_neg zo];simp only[I3,I4]
  split<;>simp_all[Je,K0]
 rw[e1];exact this
theorem kZ{α:Type}{enc:α->List ix}{sz:Nat}{v:ix}{xs:List α}{E:ln}{k:GR}{m:Int}(h:Sl enc sz w v xs)(hT:P.underlying xt=some (.slice E))(hs:(Ib E).run P w=.ok sz w)
  (hx:ev st x=some v) (hy:ev st y=some (.int k m)) (i:Nat) (hm:m=i) (hi:i<=xs.length):RV P N (.slice xt x (some y) none none) t st w (cn v sz i xs.length):=
 fun a' ha a0 p e g=>by
  subst hm;obtain⟨a,c,rfl,hc,_,_⟩:=h.shape;have hE:P.elem xt=E:=by simp[KT,hT]
  simp only[execOp,I3,Il,ha.ev hx,ha.ev hy,run_sliceAt_slice w xt _ _ _ _ (by rw[hE];exact hT:P.underlying xt=some (.slice (P.elem xt))),G5,run_slice_l w xt a xs.length c (by rw[hE];exact hT) k i zo zo,hE,hs,G1,I7,sliced];rfl
theorem dW{α:Type}{enc:α->List ix}{sz:Nat}{v:ix}{xs:List α}{E:ln}{k:GR}{n:Int}(h:Sl enc sz w v xs)(hT:P.underlying xt=some (.slice E))(hs:(Ib E).run P w=.ok sz w)
  (hx:ev st x=some v) (hz:ev st z=some (.int k n)) (j:Nat) (hn:n=j) (hj:j<=xs.length):RV P N (.slice xt x none (some z) none) t st w (cn v sz 0 j):=
 fun a' ha a0 p e g=>by
  subst hn;obtain⟨a,c,rfl,hc,_,_⟩:=h.shape;have hE:P.elem xt=E:=by simp[KT,hT]
  simp only[execOp,I3,Il,ha.ev hx,ha.ev hz,run_sliceAt_slice w xt _ _ _ _ (by rw[hE];exact hT:P.underlying xt=some (.slice (P.elem xt))),G5,run_slice_h w xt a xs.length c (by rw[hE];exact hT) k j zo zo,hE,hs,G1,I7,sliced];rfl
end
end Go.VL
end
section
namespace Go.VL
def Free(O:Nat->Nat)(w:ka)(v:ix):Prop:=∀a n c,v=.slice (some a) n c->n≠0->O a.block=0/\a.block<w.heap.size
theorem Free.upd{S:Nat->Prop}{O O':Nat->Nat}{w w':ka}{v:ix}(h:Free O w v)(u:Upd S O w O' w'):Free O' w' v:=fun a n c e hn=>by
 obtain⟨h1,h2⟩:=h a n c e hn;refine⟨GT fun a0=>?_,IF h2 u.size⟩
 rcases u.new _ a0 with h3|h3
 ·exact h3 h1
 omega
theorem mZ{w w':ka}{a:Ie}{u:ix}(hb:w'.heap[a.block]? = w.heap[a.block]?)(h:w.cell? a=some u):w'.cell? a=some u:=by
 simpa only[L9,hb]using h
theorem Sl.upd{α:Type}{enc:α->List ix}{sz:Nat}{S:Nat->Prop}{O O':Nat->Nat}{w w':ka}{v:ix}{xs:List α}(h:Sl enc sz w v xs)(f:Free O w v)(u:Upd S O w O' w'):Sl enc sz w' v xs:=by
 refine⟨h.shape,fun i hi j x hx=>?_⟩;have hc:=h.cells i hi j x hx;obtain⟨a,c,e,_,_,ha⟩:=h.shape;obtain⟨b,o,rfl⟩:=ha zo;obtain⟨h1,h2⟩:=f _ _ _ e zo;refine mZ ?_ hc
 have hb:((adr v sz i).add j).block=b:=by subst e;simp only[adr,I4];split<;>rfl
 rw[hb];exact u.blk b h2 (by rw[h1];exact u.z)
theorem RowT.free{α:Type}{enc:α->List ix}{E:ln}{sz:Nat}{O O':Nat->Nat}{w w':ka}{i B:Nat}{v:ix}{l:List α}(h:RowT enc E sz O' w' i v l)(hi:i≠0)(r:Rng w.heap.size O' w')(k:Rng B O w):Free O w' v:=fun a n c e _=>by
 subst e;have h1:=h.1.tag a.block rfl;have h2:=r.rng a.block (by rw[h1];exact hi);exact⟨GT fun a0=>by have:=k.rng _ a0;omega,h2.2⟩
def NewV(B:Nat)(v:ix):Prop:=∀a n c,v=.slice (some a) n c->n≠0->B<=a.block
theorem NewV.mono{B B':Nat}{v:ix}(h:NewV B v)(hb:B'<=B):NewV B' v:=fun a n c e hn=>IY hb (h a n c e hn)
theorem RowT.newV{α:Type}{enc:α->List ix}{E:ln}{sz B:Nat}{O:Nat->Nat}{w:ka}{i:Nat}{v:ix}{l:List α}(h:RowT enc E sz O w i v l)(hi:i≠0)(r:Rng B O w):NewV B v:=fun a n c e _=>by
 subst e;have h1:=h.1.tag a.block rfl;exact(r.rng a.block (by rw[h1];exact hi)).1
theorem Sl.blk_lt{α:Type}{enc:α->List ix}{sz:Nat}{w:ka}{v:ix}{xs:List α}(h:Sl enc sz w v xs)(hf:∀x∈xs,enc x≠[]){a:Ie}{n c:Nat}(e:v=.slice (some a) n c)(hn:n≠0):a.block<w.heap.size:=by
 obtain⟨a',c',e1,_,_,e2⟩:=h.shape;subst e
 cases e1
 obtain⟨b,o,e3⟩:=e2 hn
 cases e3
 have hl:0<xs.length:=KF hn
 cases hx:enc xs[0]with
 |nil=>exact absurd hx (hf _ (IM hl))
 |cons u r=>
  have hc:=h.cells 0 hl 0 u (by rw[hx];rfl);have:=J3 _ _ hc;have hb:((adr (.slice (some ⟨b,o,none⟩) xs.length c) sz 0).add 0).block=b:=by simp only[adr,I4];split<;>rfl
  rwa[hb]at this
theorem NewV.free{α:Type}{enc:α->List ix}{sz B:Nat}{O:Nat->Nat}{w w':ka}{v:ix}{xs:List α}(h:NewV w.heap.size v)(hs:Sl enc sz w' v xs)(hf:∀x∈xs,enc x≠[])(r:Rng B O w):Free O w' v:=fun a n c e hn=>
 ⟨GT fun a0=>by have h1:=(r.rng _ a0).2;have h2:=h a n c e hn;omega,hs.blk_lt hf e hn⟩
theorem pV{w w':ka}{v:ix}(h:∀(B:Nat) (O:Nat->Nat),Rng B O w->Free O w' v):NewV w.heap.size v:=fun a n c e hn=>by
 have h1:=(h 0 (fun b=>if b<w.heap.size then 1 else 0) ⟨Im _,fun b hb=>⟨Im _,GT fun hn=>hb (if_neg hn)⟩⟩ a n c e hn).1;exact Nat.le_of_not_lt fun a0=>by
  have h2:(1:Nat)=0:=(if_pos a0).symm.trans h1
  cases h2
section
variable{P:G7}{N:Nat}{ops:Array GU}{Q:I9→Iq→ka→Prop}{rest:List GU}{st:St}{w:ka}
variable{t xt yt:ln}{p:String}{e:Array IJ}{d:Nat}{x y z:G2}
theorem cX{T E:ln}{bytes:Nat}(he:Elem P T E 1 bytes){α:Type}{val:α->ix}(z0:α)(a2:(P.info? E).bind (·.zero)=some (val z0))(h1:∀a,(val a).oneCell'=true){B:Nat}{O:Nat->Nat}(r:Rng B O w)(i:Nat)(a7:i≠0)(n:Nat){kl kc:GR}{m1 m2:Int}
  (hx:ev st x=some (.int kl m1)) (hy:ev st y=some (.int kc m2)) (a6:m1=n) (a5:m2=n) (hb:bytes*n<=281474976710656) (b0:n<=9223372036854775807) (hd:G0 d N=true)
  (h:∀w' O' v,v=.slice (some ⟨w.heap.size,0,none⟩) n n->RowT (fun x=>[val x]) E 1 O' w' i v (JR n z0)->Upd (fun k=>k=i) O w O' w'->Rng B O' w'->Ext w w'->WL P N ops Q rest ((d,v)::st) w') :
  WL P N ops Q (⟨some d,.makeSlice T x y,t,p,e,none⟩::rest) st w:=by
 obtain⟨a1,z,hi,hz,a4,a9,b1⟩:=he.parts;have a3:z=val z0:=by rw[hi]at a2;simpa[hz]using a2
 subst a3;subst a6;subst a5;have a8:(val z0).cells = #[val z0]:=by have:=h1 z0;generalize val z0=u at *;cases u<;>first|rfl|simp[Ih]at this
 have a':(a1.bytes:Int)*(n:Int)<=281474976710656:=by
  have h:((a1.bytes*n:Nat):Int)<=281474976710656:=by rw[a9];omega
  rwa[Int.natCast_mul]at h
 have a0:=run_make (P:=P) w T E a1 _ he.ht hi hz kl kc n n zo (Int.le_refl _) a' zo;simp only[I7,a4,JD,a8]at a0;have hz:¬(fun k=>k=i) 0:=fun h=>a7 h.symm
 have u:=Upd.alloc (S:=fun k=>k=i) hz r (.cells (madeCells #[val z0] n) E) i;refine WL.val (v:=.slice (some ⟨w.heap.size,0,none⟩) n n) hd (fun a ha=>by simp only[execOp,ha.ev hx,ha.ev hy,G5,a0,G1];rfl) (h _ _ _ rfl ⟨⟨?_,fun g hg=>?_⟩,fun a _=>rfl⟩ u (r.upd u) (Ext.alloc _ _))
 ·rw[List.length_replicate];have:=World.ownsRow_lit (base:=0) (size:=1) (e:=E) w (madeCells #[val z0] n) n (Im _) (by simpa[maxLen]using b0) (by rw[size_madeCells];omega);rw[toList_madeCells_one]at this;have e2:(JR n z0).flatMap (fun x=>[val x])=JR n (val z0):=by
   induction n with
   |zero=>rfl
   |succ n ih=>simp only[List.replicate_succ,J2];congr 1;simp[List.flatMap_replicate]
  rw[e2];exact this
 simp only[JI,IU]at hg;subst hg;exact dA _ _ _
theorem bP{T E:ln}{sz a0:Nat}(he:Elem P T E sz a0){α:Type}{enc:α->List ix}(u:α){xv:ix}(hx:ev st x=some xv)(a2:xv.cells.toList=enc u)(a4:(enc u).length=sz)(hs:sz<=16777216)(hd:G0 d N=true)
  (h:∀v w',Sl enc sz w' v [u]->Ext w w'->WL P N ops Q rest ((d,v)::st) w'):WL P N ops Q (⟨some d,.buildSlice T 1 #[(0,x)],t,p,e,none⟩::rest) st w:=by
 obtain⟨a3,z,hi,hz,a1,a8,a7⟩:=he.parts;have a6:xv.cells.size=sz:=by rw[<-a4,<-a2];simp
 have a5:=he.pos;refine WL.val (v:=.slice (some ⟨w.heap.size,0,none⟩) 1 1) (w':=w.alloc (.cells xv.cells E)) hd (fun a ha=>?_) (h _ _ ⟨⟨_,1,rfl,GS _,by simp,fun _=>⟨_,_,rfl⟩⟩,fun i hi j c hc=>?_⟩ (Ext.alloc _ _))
 ·have:=run_buildSlice (P:=P) w T E 1 #[(0,xv)] xv.cells a3 z he.ht hi hz (by rw[a1];omega) (by rw[a1];omega) (by
   rw[a1]
   exact jX a6 (by simp))
  simp only[execOp,G9,GW,If,ha.ev hx,G5,this,G1];rfl
 obtain rfl:i=0:=by simpa using hi
 simp only[Ip]at hc;simp only[adr,Jy,Kc];rw[show((⟨w.heap.size,0,none⟩:Ie).add j)=⟨w.heap.size,j,none⟩from by simp only[I4];split<;>simp_all,cell_of_row _ _ j xv.cells E (0,0) (heap_alloc_new w _)];rw[<-a2]at hc;simpa using hc
theorem lY{α:Type}{enc:α->List ix}{sz:Nat}:∀(us:List α),(∀u∈us,(enc u).length=sz)->(us.flatMap enc).length=us.length*sz
 |[],_=>by simp
 |x::r,h=>by
  simp only[J2,Jm,I5,h x (by simp),lY r (fun u hu=>h u (by simp[hu])),Nat.succ_mul];omega
theorem Du{α:Type}{enc:α->List ix}{sz:Nat}{us:List α}{v:ix}(hs:Sl enc sz w v us)(hz:∀u∈us,(enc u).length=sz)(hp:0<sz){a:Ie}{n c:Nat}(hv:v=.slice (some a) n c):∀j u,(us.flatMap enc)[j]? = some u->w.cell? (a.add j)=some u:=by
 intro j u hu;have a0:=lY us hz;have hj:j<us.length*sz:=by rw[<-a0];exact(GV.1 hu).1
 have hq:j / sz<us.length:=Nat.div_lt_of_lt_mul (by rw[Nat.mul_comm];exact hj);have hr:j % sz<sz:=Nat.mod_lt _ hp;have a1:j / sz*sz+j % sz=j:=Nat.div_add_mod' j sz;have hl:=hz _ (IM hq);have h1:=fX us hz (j / sz) hq (j % sz) _ (I1 zo);rw[a1,hu]at h1;have h2:=hs.cells (j / sz) hq (j % sz) u (by rw[I1 zo,<-h1]);obtain⟨a',c',e1,_,_,e2⟩:=hs.shape;obtain⟨b,o,e3⟩:=e2 (Nat.ne_of_gt (Nat.lt_of_le_of_lt (Im _) hq));rw[hv]at e1 h2
 cases e1;cases e3
 simp only[adr]at h2;rw[show((⟨b,o,none⟩:Ie).add j)=((⟨b,o+j / sz*sz,none⟩:Ie).add (j % sz))from by simp only[I4];split<;>split<;>simp_all<;>omega];exact h2
theorem aA{T E:ln}{sz a0:Nat}(he:Elem P T E sz a0){α:Type}{enc:α->List ix}{B:Nat}{O:Nat->Nat}{i:Nat}{v sv:ix}{l us:List α}(hr:RowT enc E sz O w i v l)(r:Rng B O w)(hs:Sl enc sz w sv us)(a7:us.length≠0)
  (hx:ev st x=some v) (hy:ev st y=some sv) (a2:∀u∈us,(enc u).length=sz) (a6:∀u∈us,∀c∈enc u,c.oneCell'=true)
  (hb:(l.length+us.length)*a0<=140737488355328) (a':l.length+us.length<=9223372036854775807) (a8:i≠0) (hd:G0 d N=true)
  (h:∀v' w' O',RowT enc E sz O' w' i v' (l++us)->Upd (fun k=>k=i) O w O' w'->Rng B O' w'->WL P N ops Q rest ((d,v')::st) w') :
  WL P N ops Q (⟨some d,.call ⟨.builtin .append,#[x,y],#[T,T]⟩,t,p,e,none⟩::rest) st w:=by
 obtain⟨a,c,rfl,_,_,a9⟩:=hs.shape;obtain⟨b,o,rfl⟩:=a9 a7;have a5:=lY us a2
 obtain⟨v',w',O',a3,a4,a1⟩:=eE (P:=P) (ty:=t) he r hr.1 ⟨b,o,none⟩ us.length c (us.flatMap enc) a5 (Du hs a2 he.pos rfl) (fun u hu=>by
  obtain⟨q,hq,hc⟩:=List.mem_flatMap.1 hu
  exact a6 q hq u hc) hb a' a8
 refine WL.val (v:=v') (w':=w') hd (fun a ha=>?_) (h v' w' O' ⟨by simpa using a4,fun q hq=>?_⟩ a1 (r.upd a1))
 ·simp only[execOp,resolve,invoke,builtin,G5,I2,G1,G9,GW,If,ha.ev hx,ha.ev hy,a3]
 rcases JF.1 hq with hq|hq
 ·exact hr.2 q hq
 exact a2 q hq
end
end Go.VL
end
section
namespace Go.VL
class FA(P:G7)(S:ln)(f:Nat)(o:outParam Nat):Prop where
 fa:∃fs fd m,P.underlying S=some (.struct fs)∧fs[f]? = some fd∧fd.offset=o∧(∀w,(Ib fd.type).run P w=.ok m w)∧m≠0
class AG(P:G7)(T:ln)(b:outParam Bool):Prop where
 ag:∀w,(KS T).run P w=.ok b w
structure Hold(B:Prop):Prop where
 out:B
class SC(P:G7)(T:ln)(sz:outParam Nat):Prop where
 sc:∃E,P.underlying T=some (.slice E)∧∀w,(Ib E).run P w=.ok sz w
section
variable{P:G7}{N:Nat}{ops:Array GU}{S:ka→Prop}{Q:I9→Iq→ka→Prop}{K:Iq→Prop}{rest:List GU}{st:St}{w:ka}{fuel:Nat}{listed:Array Bool}
variable{t:ln}{p:String}{e:Array IJ}{d:Nat}{x:G2}{v:ix}{op:Op}
theorem RV.fa{T:ln}{f o:Nat}{q:Ie}[h:FA P T f o](hx:ev st x=some (.pointer (some q))):RV P N (.fieldAddr T x f) t st w (.pointer (some (q.add o))):=by
 obtain⟨fs,fd,m,h1,h2,h3,h4,h5⟩:=h.fa
 exact RV.fieldAddr o h1 h2 h3 (h4 w) h5 hx
theorem RV.ld{T:ln}{q:Ie}{u:ix}[h:AG P T false](hc:w.cell? q=some u)(hx:ev st x=some (.pointer (some q))):RV P N (.load T x) t st w u:=RV.load hc (h.ag w) hx
theorem Fu{T:ln}{sz:Nat}[h:SC P T sz]{α:Type}{enc:α→List ix}{v:ix}{xs:List α}(hx:ev st x=some v)(hs:Sl enc sz w v xs):RV P N (.call ⟨.builtin .len,#[x],#[T]⟩) t st w (.int .i64 (xs.length:Int)):=by
 obtain⟨E,h1,_⟩:=h.sc
 exact RV.len hs h1 hx
theorem Fv{y:G2}{T:ln}{sz:Nat}[h:SC P T sz]{α:Type}{enc:α→List ix}{v:ix}{xs:List α}{k:GR}{i:Int}{n:Nat}(hx:ev st x=some v)(hy:ev st y=some (.int k i))(hs:Sl enc sz w v xs)(hi:i=n)(hn:n<xs.length):RV P N (.indexAddr T x y) t st w (.pointer (some (adr v sz n))):=by
 obtain⟨E,h1,h2⟩:=h.sc
 exact RV.indexAddr hs h1 (h2 w) hx hy n hi hn
theorem GD{T:ln}{q:Ie}{u:ix}[h:AG P T false](hx:ev st x=some (.pointer (some q)))(hc:w.cell? q=some u)(hd:G0 d N=true)(h:WL P N ops Q rest ((d,u)::st) w):WL P N ops Q (⟨some d,.load T x,t,p,e,none⟩::rest) st w:=bE (RV.ld hc hx) hd h
theorem GG{T:ln}{q:Ie}{u:ix}[h:AG P T false](hx:ev st x=some (.pointer (some q)))(hc:w.cell? q=some u)(hd:G0 d N=true)(h:WS P N ops w K rest ((d,u)::st)):WS P N ops w K (⟨some d,.load T x,t,p,e,none⟩::rest) st:=om (RV.ld hc hx) hd h
theorem GC{T:ln}{sz:Nat}[h:SC P T sz]{α:Type}{enc:α→List ix}{v:ix}{xs:List α}(hx:ev st x=some v)(hs:Sl enc sz w v xs)(hd:G0 d N=true)(h:WL P N ops Q rest ((d,.int .i64 (xs.length:Int))::st) w):WL P N ops Q (⟨some d,.call ⟨.builtin .len,#[x],#[T]⟩,t,p,e,none⟩::rest) st w:=bE (Fu hx hs) hd h
theorem GE{y:G2}{T:ln}{sz:Nat}[h:SC P T sz]{α:Type}{enc:α→List ix}{v:ix}{xs:List α}{k:GR}{i:Int}{n:Nat}(hx:ev st x=some v)(hy:ev st y=some (.int k i))(hs:Sl enc sz w v xs)(hi:i=n)(hn:n<xs.length)(hd:G0 d N=true)(h:WL P N ops Q rest ((d,.pointer (some (adr v sz n)))::st) w):WL P N ops Q (⟨some d,.indexAddr T x y,t,p,e,none⟩::rest) st w:=bE (Fv hx hy hs hi hn) hd h
theorem FN{xt yt:ln}{y:G2}{m n:Int}(hx:ev st x=some (.int .i64 m))(hy:ev st y=some (.int .i64 n))(hr : -9223372036854775808≤m+n∧m+n≤9223372036854775807)(hd:G0 d N=true)(h:WL P N ops Q rest ((d,.int .i64 (m+n))::st) w):WL P N ops Q (⟨some d,.binOp .add xt x y yt,t,p,e,none⟩::rest) st w:=bE (RV.add hx hy (Fit.i64 hr)) hd h
theorem FM{xt yt:ln}{y:G2}{m n:Int}(hx:ev st x=some (.int .i64 m))(hy:ev st y=some (.int .i64 n))(hr : -9223372036854775808≤m-n∧m-n≤9223372036854775807)(hd:G0 d N=true)(h:WL P N ops Q rest ((d,.int .i64 (m-n))::st) w):WL P N ops Q (⟨some d,.binOp .sub xt x y yt,t,p,e,none⟩::rest) st w:=bE (RV.sub hx hy (Fit.i64 hr)) hd h
theorem Fs{y z:G2}{b:Bool}{v:ix}(hc:ev st x=some (.bool b))(hb:b=true)(hy:ev st y=some v):RV P N (.pick x y z) t st w v:=bz (hb▸hc) hy
theorem Ft{y z:G2}{b:Bool}{v:ix}(hc:ev st x=some (.bool b))(hb:b=false)(hz:ev st z=some v):RV P N (.pick x y z) t st w v:=bh (hb▸hc) hz
theorem CB{d:Option Lu}{j:Nat}{b b':Bool}(hs:said ops st j=some b')(hb:b'=b)(h:WL P N ops Q (⟨d,op,t,p,e,none⟩::rest) st w):WL P N ops Q (⟨d,op,t,p,e,some (j,b)⟩::rest) st w:=bM (hb▸hs) h
theorem AM{j:Nat}{b':Bool}(hs:said ops st j=some b')(hb:b'=false)(hd:G0 d N=true)(h:WL P N ops Q rest ((d,undef)::st) w):WL P N ops Q (⟨some d,op,t,p,e,some (j,true)⟩::rest) st w:=WL.off hs (by rw[hb];rfl) hd h
theorem AN{j:Nat}{b':Bool}(hs:said ops st j=some b')(hb:b'=true)(hd:G0 d N=true)(h:WL P N ops Q rest ((d,undef)::st) w):WL P N ops Q (⟨some d,op,t,p,e,some (j,false)⟩::rest) st w:=WL.off hs (by rw[hb];rfl) hd h
theorem Cx{d:Option Lu}{j:Nat}{b b':Bool}(hs:said ops st j=some b')(hb:b'=b)(h:WS P N ops w K (⟨d,op,t,p,e,none⟩::rest) st):WS P N ops w K (⟨d,op,t,p,e,some (j,b)⟩::rest) st:=Gf (hb▸hs) h
theorem AK{j:Nat}{b':Bool}(hs:said ops st j=some b')(hb:b'=false)(hd:G0 d N=true)(h:WS P N ops w K rest ((d,undef)::st)):WS P N ops w K (⟨some d,op,t,p,e,some (j,true)⟩::rest) st:=WS.off hs (by rw[hb];rfl) hd h
theorem AL{j:Nat}{b':Bool}(hs:said ops st j=some b')(hb:b'=true)(hd:G0 d N=true)(h:WS P N ops w K rest ((d,undef)::st)):WS P N ops w K (⟨some d,op,t,p,e,some (j,false)⟩::rest) st:=WS.off hs (by rw[hb];rfl) hd h
theorem Cz{o:GU}{n:Nat}{l:List GU}(h:WL P N ops Q (o::l.take n) st w):WL P N ops Q (K1 (n+1) (o::l)) st w:=h
theorem CA{l:List GU}(h:WL P N ops Q [] st w):WL P N ops Q (K1 0 l) st w:=h
theorem Ce{v:ix}(hx:ev st x=some v)(hd:G0 d N=true)(h:WL P N ops Q rest ((d,v)::st) w):WL P N ops Q (⟨some d,.move x,t,p,e,none⟩::rest) st w:=bE (RV.move hx) hd h
theorem uJ{v:ix}(hx:ev st x=some v)(hd:G0 d N=true)(h:WL P N ops Q rest ((d,v)::st) w):WL P N ops Q (⟨some d,.assign x,t,p,e,none⟩::rest) st w:=bE (RV.assign hx) hd h
theorem Gl{T:ln}{f o:Nat}{q:Ie}[FA P T f o](hx:ev st x=some (.pointer (some q)))(hd:G0 d N=true)(h:WL P N ops Q rest ((d,.pointer (some (q.add o)))::st) w):WL P N ops Q (⟨some d,.fieldAddr T x f,t,p,e,none⟩::rest) st w:=bE (RV.fa hx) hd h
theorem uI{q:Ie}(hx:ev st x=some (.pointer (some q)))(hd:G0 d N=true)(h:WL P N ops Q rest ((d,.pointer (some q))::st) w):WL P N ops Q (⟨some d,.nilCheck x,t,p,e,none⟩::rest) st w:=bE (aq hx) hd h
theorem qL{vs:Array ix}{i:Nat}{v:ix}(hx:ev st x=some (.tuple vs))(hv:vs[i]? = some v)(hd:G0 d N=true)(h:WL P N ops Q rest ((d,v)::st) w):WL P N ops Q (⟨some d,.extract x i,t,p,e,none⟩::rest) st w:=bE (RV.extract hx hv) hd h
theorem DQ{xt:ln}{b:Bool}(hx:ev st x=some (.bool b))(hd:G0 d N=true)(h:WL P N ops Q rest ((d,.bool (!b))::st) w):WL P N ops Q (⟨some d,.unOp .not xt x,t,p,e,none⟩::rest) st w:=bE (RV.not hx) hd h
theorem DO{y z:G2}{b:Bool}{v:ix}(hc:ev st x=some (.bool b))(hb:b=true)(hy:ev st y=some v)(hd:G0 d N=true)(h:WL P N ops Q rest ((d,v)::st) w):WL P N ops Q (⟨some d,.pick x y z,t,p,e,none⟩::rest) st w:=bE (Fs hc hb hy) hd h
theorem DP{y z:G2}{b:Bool}{v:ix}(hc:ev st x=some (.bool b))(hb:b=false)(hz:ev st z=some v)(hd:G0 d N=true)(h:WL P N ops Q rest ((d,v)::st) w):WL P N ops Q (⟨some d,.pick x y z,t,p,e,none⟩::rest) st w:=bE (Ft hc hb hz) hd h
theorem DS{xt yt:ln}{y:G2}{k:GR}{m n:Int}(hx:ev st x=some (.int k m))(hy:ev st y=some (.int k n))(hd:G0 d N=true)(h:WL P N ops Q rest ((d,.bool (decide (m<n)))::st) w):WL P N ops Q (⟨some d,.binOp .lss xt x y yt,t,p,e,none⟩::rest) st w:=bE (RV.lss hx hy) hd h
theorem DT{xt yt:ln}{y:G2}{k:GR}{m n:Int}(hx:ev st x=some (.int k m))(hy:ev st y=some (.int k n))(hd:G0 d N=true)(h:WL P N ops Q rest ((d,.bool (decide (m≤n)))::st) w):WL P N ops Q (⟨some d,.binOp .leq xt x y yt,t,p,e,none⟩::rest) st w:=bE (RV.leq hx hy) hd h
theorem DU{xt yt:ln}{y:G2}{k:GR}{m n:Int}(hx:ev st x=some (.int k m))(hy:ev st y=some (.int k n))(hd:G0 d N=true)(h:WL P N ops Q rest ((d,.bool (decide (n<m)))::st) w):WL P N ops Q (⟨some d,.binOp .gtr xt x y yt,t,p,e,none⟩::rest) st w:=bE (RV.gtr hx hy) hd h
theorem DV{xt yt:ln}{y:G2}{k:GR}{m n:Int}(hx:ev st x=some (.int k m))(hy:ev st y=some (.int k n))(hd:G0 d N=true)(h:WL P N ops Q rest ((d,.bool (decide (n≤m)))::st) w):WL P N ops Q (⟨some d,.binOp .geq xt x y yt,t,p,e,none⟩::rest) st w:=bE (RV.geq hx hy) hd h
theorem DW{xt yt:ln}{y:G2}{k:GR}{m n:Int}(hx:ev st x=some (.int k m))(hy:ev st y=some (.int k n))(hd:G0 d N=true)(h:WL P N ops Q rest ((d,.bool (m==n))::st) w):WL P N ops Q (⟨some d,.binOp .eql xt x y yt,t,p,e,none⟩::rest) st w:=bE (RV.eql hx hy) hd h
theorem DR{xt yt:ln}{y:G2}{k:GR}{m n:Int}(hx:ev st x=some (.int k m))(hy:ev st y=some (.int k n))(hd:G0 d N=true)(h:WL P N ops Q rest ((d,.bool (m != n))::st) w):WL P N ops Q (⟨some d,.binOp .neq xt x y yt,t,p,e,none⟩::rest) st w:=bE (RV.neq hx hy) hd h
theorem Cf{v:ix}(hx:ev st x=some v)(hd:G0 d N=true)(h:WS P N ops w K rest ((d,v)::st)):WS P N ops w K (⟨some d,.move x,t,p,e,none⟩::rest) st:=om (RV.move hx) hd h
theorem uL{v:ix}(hx:ev st x=some v)(hd:G0 d N=true)(h:WS P N ops w K rest ((d,v)::st)):WS P N ops w K (⟨some d,.assign x,t,p,e,none⟩::rest) st:=om (RV.assign hx) hd h
theorem Gm{T:ln}{f o:Nat}{q:Ie}[FA P T f o](hx:ev st x=some (.pointer (some q)))(hd:G0 d N=true)(h:WS P N ops w K rest ((d,.pointer (some (q.add o)))::st)):WS P N ops w K (⟨some d,.fieldAddr T x f,t,p,e,none⟩::rest) st:=om (RV.fa hx) hd h
theorem uK{q:Ie}(hx:ev st x=some (.pointer (some q)))(hd:G0 d N=true)(h:WS P N ops w K rest ((d,.pointer (some q))::st)):WS P N ops w K (⟨some d,.nilCheck x,t,p,e,none⟩::rest) st:=om (aq hx) hd h
theorem qM{vs:Array ix}{i:Nat}{v:ix}(hx:ev st x=some (.tuple vs))(hv:vs[i]? = some v)(hd:G0 d N=true)(h:WS P N ops w K rest ((d,v)::st)):WS P N ops w K (⟨some d,.extract x i,t,p,e,none⟩::rest) st:=om (RV.extract hx hv) hd h
theorem Cv{o:GU}{n:Nat}{l:List GU}(h:WS P N ops w K (o::l.take n) st):WS P N ops w K (K1 (n+1) (o::l)) st:=h
theorem Cw{l:List GU}(h:WS P N ops w K [] st):WS P N ops w K (K1 0 l) st:=h
theorem DZ{xt yt:ln}{y:G2}{k:GR}{m n:Int}(hx:ev st x=some (.int k m))(hy:ev st y=some (.int k n))(hd:G0 d N=true)(h:WS P N ops w K rest ((d,.bool (decide (m<n)))::st)):WS P N ops w K (⟨some d,.binOp .lss xt x y yt,t,p,e,none⟩::rest) st:=om (RV.lss hx hy) hd h
theorem D0{xt yt:ln}{y:G2}{k:GR}{m n:Int}(hx:ev st x=some (.int k m))(hy:ev st y=some (.int k n))(hd:G0 d N=true)(h:WS P N ops w K rest ((d,.bool (decide (m≤n)))::st)):WS P N ops w K (⟨some d,.binOp .leq xt x y yt,t,p,e,none⟩::rest) st:=om (RV.leq hx hy) hd h
theorem D1{xt yt:ln}{y:G2}{k:GR}{m n:Int}(hx:ev st x=some (.int k m))(hy:ev st y=some (.int k n))(hd:G0 d N=true)(h:WS P N ops w K rest ((d,.bool (decide (n<m)))::st)):WS P N ops w K (⟨some d,.binOp .gtr xt x y yt,t,p,e,none⟩::rest) st:=om (RV.gtr hx hy) hd h
theorem D2{xt yt:ln}{y:G2}{k:GR}{m n:Int}(hx:ev st x=some (.int k m))(hy:ev st y=some (.int k n))(hd:G0 d N=true)(h:WS P N ops w K rest ((d,.bool (decide (n≤m)))::st)):WS P N ops w K (⟨some d,.binOp .geq xt x y yt,t,p,e,none⟩::rest) st:=om (RV.geq hx hy) hd h
theorem D3{xt yt:ln}{y:G2}{k:GR}{m n:Int}(hx:ev st x=some (.int k m))(hy:ev st y=some (.int k n))(hd:G0 d N=true)(h:WS P N ops w K rest ((d,.bool (m==n))::st)):WS P N ops w K (⟨some d,.binOp .eql xt x y yt,t,p,e,none⟩::rest) st:=om (RV.eql hx hy) hd h
theorem DY{xt yt:ln}{y:G2}{k:GR}{m n:Int}(hx:ev st x=some (.int k m))(hy:ev st y=some (.int k n))(hd:G0 d N=true)(h:WS P N ops w K rest ((d,.bool (m != n))::st)):WS P N ops w K (⟨some d,.binOp .neq xt x y yt,t,p,e,none⟩::rest) st:=om (RV.neq hx hy) hd h
theorem FQ{xt yt:ln}{y:G2}{m n:Int}(hx:ev st x=some (.int .i64 m))(hy:ev st y=some (.int .i64 n))(hr : -9223372036854775808≤m+n∧m+n≤9223372036854775807)(hd:G0 d N=true)(h:WS P N ops w K rest ((d,.int .i64 (m+n))::st)):WS P N ops w K (⟨some d,.binOp .add xt x y yt,t,p,e,none⟩::rest) st:=om (RV.add hx hy (Fit.i64 hr)) hd h
theorem FO{xt yt:ln}{y:G2}{m n:Int}(hx:ev st x=some (.int .i64 m))(hy:ev st y=some (.int .i64 n))(hr : -9223372036854775808≤m-n∧m-n≤9223372036854775807)(hd:G0 d N=true)(h:WS P N ops w K rest ((d,.int .i64 (m-n))::st)):WS P N ops w K (⟨some d,.binOp .sub xt x y yt,t,p,e,none⟩::rest) st:=om (RV.sub hx hy (Fit.i64 hr)) hd h
theorem DX{xt:ln}{b:Bool}(hx:ev st x=some (.bool b))(hd:G0 d N=true)(h:WS P N ops w K rest ((d,.bool (!b))::st)):WS P N ops w K (⟨some d,.unOp .not xt x,t,p,e,none⟩::rest) st:=om (RV.not hx) hd h
theorem FP{w0:ka}{T:ln}{q:Ie}{u:ix}[h:AG P T false](hx:ev st x=some (.pointer (some q)))(hc:w0.cell? q=some u)(hd:G0 d N=true)(h:WS P N ops w0.drew K rest ((d,u)::st)):WS P N ops w0.drew K (⟨some d,.load T x,t,p,e,none⟩::rest) st:=om (RV.ld (w:=w0.drew) hc hx) hd h
theorem GF{w0:ka}{T:ln}{sz:Nat}[h:SC P T sz]{α:Type}{enc:α→List ix}{v:ix}{xs:List α}(hx:ev st x=some v)(hs:Sl enc sz w0 v xs)(hd:G0 d N=true)(h:WS P N ops w0.drew K rest ((d,.int .i64 (xs.length:Int))::st)):WS P N ops w0.drew K (⟨some d,.call ⟨.builtin .len,#[x],#[T]⟩,t,p,e,none⟩::rest) st:=om (Fu hx (hs.ext (Ext.refl w0).drew)) hd h
theorem GH{w0:ka}{y:G2}{T:ln}{sz:Nat}[h:SC P T sz]{α:Type}{enc:α→List ix}{v:ix}{xs:List α}{k:GR}{i:Int}{n:Nat}(hx:ev st x=some v)(hy:ev st y=some (.int k i))(hs:Sl enc sz w0 v xs)(hi:i=n)(hn:n<xs.length)(hd:G0 d N=true)(h:WS P N ops w0.drew K rest ((d,.pointer (some (adr v sz n)))::st)):WS P N ops w0.drew K (⟨some d,.indexAddr T x y,t,p,e,none⟩::rest) st:=om (Fv hx hy (hs.ext (Ext.refl w0).drew) hi hn) hd h
theorem zv(hv:RV P N op t st w v)(h:WL P N ops Q rest ((d,v)::st) w)(hd:G0 d N=true:=by exact rfl):WL P N ops Q (⟨some d,op,t,p,e,none⟩::rest) st w:=bE hv hd h
theorem zw(hv:RV P N op t st w v)(h:WS P N ops w K rest ((d,v)::st))(hd:G0 d N=true:=by exact rfl):WS P N ops w K (⟨some d,op,t,p,e,none⟩::rest) st:=om hv hd h
theorem zc{f:J1}{args:List G2}{ats:Array ln}{vs:List ix}{R:ix→ka→Prop}
 (hf:∀(args:Array ix) (w:ka),(callFunc f args).run P w=.ok (.enter f args) w) (hc:Ret P f vs w R)
 (h:∀v w',R v w'→WL P N ops Q rest ((d,v)::st) w') (hargs:evs st args=some vs:=by exact rfl) (hd:G0 d N=true:=by exact rfl):WL P N ops Q (⟨some d,.call ⟨.value (.func f),args.toArray,ats⟩,t,p,e,none⟩::rest) st w:=WL.call hf hargs hc hd h
theorem zt(i:Nat)(hi:ops[i]? = some ⟨some d,op,t,p,e,none⟩)(hS:S w)(hv:∀w',S w'→RV P N op t st w' v)(h:WH P N ops S Q fuel (listed.setIfInBounds i true) ((d,v)::st) w)
  (hs:I0 ops=true:=by kernel_rfl) (hf:Ic .any ops listed i=true:=by kernel_rfl) (hr:(GX .any ops listed).contains i=true:=by kernel_rfl) (hd:G0 d N=true:=by exact rfl):WH P N ops S Q (fuel+1) listed st w:=
 WH.take i hi hs hf hr hS hv hd h
theorem zr(i:Nat)(hi:ops[i]? = some ⟨some d,op,t,p,e,none⟩)(hS:S w)(hv:∀w',RV P N op t st w' v)(h:WH P N ops S Q fuel (listed.setIfInBounds i true) ((d,v)::st) w)
  (hs:I0 ops=true:=by kernel_rfl) (hf:Ic .any ops listed i=true:=by kernel_rfl) (hr:(GX .any ops listed).contains i=true:=by kernel_rfl) (hd:G0 d N=true:=by exact rfl):WH P N ops S Q (fuel+1) listed st w:=
 WH.take i hi hs hf hr hS (fun w' _=>hv w') hd h
theorem zC{c:G2}{x y:IT}{b:Bool}(ht:b=true→WC P N x Q st w)(hf:b=false→WC P N y Q st w)(hc:ev st c=some (.bool b):=by exact rfl):WC P N (.cond c x y) Q st w:=WC.cond hc ht hf
theorem zsa{y:G2}{T:ln}{O:Nat→Nat}{i b:Nat}{cs us:Array ix}{E:ln}{q:Ie}(hb:BlkO O w i b cs E)(hT:(Ib T).run P w=.ok us.size w)(h:WL P N ops Q rest st (w.setRow b us))(hs:us.size=cs.size:=by exact rfl)(h1:us.toList.all Ih=true:=by exact rfl)(hx:ev st x=some (.pointer (some q)):=by exact rfl)(hq:q=⟨b,0,none⟩:=by exact rfl)(hy:ev st y=some (.agg us):=by exact rfl):WL P N ops Q (⟨none,.store T x y,t,p,e,none⟩::rest) st w:=aR hb hs hT h1 hx hq hy h
theorem zsb{y:G2}{T:ln}{O:Nat→Nat}{i b:Nat}{cs us:Array ix}{E:ln}{q:Ie}(hb:BlkO O w i b cs E)(hT:(Ib T).run P w=.ok us.size w)(h1:us.toList.all Ih=true)(h:WL P N ops Q rest st (w.setRow b us))(hs:us.size=cs.size:=by exact rfl)(hx:ev st x=some (.pointer (some q)):=by exact rfl)(hq:q=⟨b,0,none⟩:=by exact rfl)(hy:ev st y=some (.agg us):=by exact rfl):WL P N ops Q (⟨none,.store T x y,t,p,e,none⟩::rest) st w:=aR hb hs hT h1 hx hq hy h
theorem fI{P:G7}{T:ln}{f o m:Nat}{fs:Array JM}{fd:JM}(h1:P.underlying T=some (.struct fs))(h2:fs[f]? = some fd)(h3:fd.offset=o)(h4:∀w,(Ib fd.type).run P w=.ok m w)(h5:m≠0:=by decide):FA P T f o:=⟨fs,fd,m,h1,h2,h3,h4,h5⟩
theorem zaf{i:Nat}(hS:S w)(h:S w→WH P N ops S Q fuel (listed.setIfInBounds i true) st w):QF N (qG P ops S Q fuel (listed.setIfInBounds i true)) .normal st w:=ae hS (h hS)
theorem zrm{x:G2}(i:Nat)(hi:ops[i]? = some ⟨some d,.move x,t,p,e,none⟩)(hS:S w)(hx:ev st x=some v)(h:WH P N ops S Q fuel (listed.setIfInBounds i true) ((d,v)::st) w)
  (hs:I0 ops=true:=by kernel_rfl) (hf:Ic .any ops listed i=true:=by kernel_rfl) (hr:(GX .any ops listed).contains i=true:=by kernel_rfl) (hd:G0 d N=true:=by exact rfl):WH P N ops S Q (fuel+1) listed st w:=
 WH.take i hi hs hf hr hS (fun _ _=>RV.move hx) hd h
theorem zra{x:G2}(i:Nat)(hi:ops[i]? = some ⟨some d,.assign x,t,p,e,none⟩)(hS:S w)(hx:ev st x=some v)(h:WH P N ops S Q fuel (listed.setIfInBounds i true) ((d,v)::st) w)
  (hs:I0 ops=true:=by kernel_rfl) (hf:Ic .any ops listed i=true:=by kernel_rfl) (hr:(GX .any ops listed).contains i=true:=by kernel_rfl) (hd:G0 d N=true:=by exact rfl):WH P N ops S Q (fuel+1) listed st w:=
 WH.take i hi hs hf hr hS (fun _ _=>RV.assign hx) hd h
theorem zrf{T:ln}{f o:Nat}{q:Ie}[h':FA P T f o]{x:G2}(i:Nat)(hi:ops[i]? = some ⟨some d,.fieldAddr T x f,t,p,e,none⟩)(hS:S w)(hx:ev st x=some (.pointer (some q)))(h:WH P N ops S Q fuel (listed.setIfInBounds i true) ((d,.pointer (some (q.add o)))::st) w)
  (hs:I0 ops=true:=by kernel_rfl) (hf:Ic .any ops listed i=true:=by kernel_rfl) (hr:(GX .any ops listed).contains i=true:=by kernel_rfl) (hd:G0 d N=true:=by exact rfl):WH P N ops S Q (fuel+1) listed st w:=
 WH.take i hi hs hf hr hS (fun _ _=>RV.fa hx) hd h
theorem zto{j:Nat}{b:Bool}(i:Nat)(hi:ops[i]? = some ⟨some d,op,t,p,e,some (j,b)⟩)(hS:S w)(hv:∀w',S w'→RV P N op t st w' v)(h:WH P N ops S Q fuel (listed.setIfInBounds i true) ((d,v)::st) w)(hg:said ops st j=some b:=by exact rfl)
  (hs:I0 ops=true:=by kernel_rfl) (hf:Ic .any ops listed i=true:=by kernel_rfl) (hr:(GX .any ops listed).contains i=true:=by kernel_rfl) (hd:G0 d N=true:=by exact rfl):WH P N ops S Q (fuel+1) listed st w:=
 sR i hi hg hs hf hr hS hv hd h
theorem zro{j:Nat}{b:Bool}(i:Nat)(hi:ops[i]? = some ⟨some d,op,t,p,e,some (j,b)⟩)(hS:S w)(hv:∀w',RV P N op t st w' v)(h:WH P N ops S Q fuel (listed.setIfInBounds i true) ((d,v)::st) w)(hg:said ops st j=some b:=by exact rfl)
  (hs:I0 ops=true:=by kernel_rfl) (hf:Ic .any ops listed i=true:=by kernel_rfl) (hr:(GX .any ops listed).contains i=true:=by kernel_rfl) (hd:G0 d N=true:=by exact rfl):WH P N ops S Q (fuel+1) listed st w:=
 sR i hi hg hs hf hr hS (fun w' _=>hv w') hd h
theorem zte{j:Nat}{b b':Bool}(i:Nat)(hi:ops[i]? = some ⟨some d,op,t,p,e,some (j,b)⟩)(hg:said ops st j=some b')(hS:S w)(h:WH P N ops S Q fuel (listed.setIfInBounds i true) ((d,undef)::st) w)(hne:(b'==b)=false:=by exact rfl)
  (hs:I0 ops=true:=by kernel_rfl) (hf:Ic .any ops listed i=true:=by kernel_rfl) (hr:(GX .any ops listed).contains i=true:=by kernel_rfl) (hd:G0 d N=true:=by exact rfl):WH P N ops S Q (fuel+1) listed st w:=
 xZ i hi hg hne hs hf hr hS hd h
theorem nE{tB:Nat}{b c X:Bool}{st0:St}(tA n:Nat)(hS:S w)(e:X=c)(hX:cm st0 tA=some (.bool X):=by exact rfl)(hdrop:st.drop n=st0:=by exact rfl)(hf:((st.take n).all fun q=>Ij q.1 tA||(match cm st0 q.1 with|none=>true|_=>false))=true:=by exact rfl)
 (hA:cm st tA=some (.bool c):=by exact rfl) (hb:cm st tB=some (.bool b):=by exact rfl):QF N (DN N S tB b st0) .normal st w:=cH n hS hdrop hf hA (fun v hv=>by rw[hX]at hv;cases hv;rw[e]) hb
theorem zin(hS:S w)(h:S w→WH P N ops S Q fuel listed st w):WH P N ops S Q fuel listed st w:=h hS
theorem zlp{α:Type}{c:IT}(f:α→St)(g:α→ka)(I:α→Prop)(μ:α→Nat)(x0:α)(h0:I x0)
 (round:∀x,I x→WC P N c (Exit.then (fun a' w'=>∃y,I y∧μ y<μ x∧Fits N a' (f y)∧g y=w') Q) (f x) (g x)) (hc:Cov st (f x0):=by repeat' first|exact trivial|exact rfl|constructor) (hw:g x0=w:=by exact rfl):WC P N (.loop c) Q st w:=WC.loop f g I μ x0 h0 hc hw round
theorem zx{α:Type}{f:α→St}{g:α→ka}{I:α→Prop}{m:Nat}{μ:α→Nat}(y:α)(h1:I y)(h2:μ y<m)(h3:Cov st (f y):=by repeat' first|exact trivial|exact rfl|constructor)(h4:g y=w:=by exact rfl):
 QF N (Exit.then (fun a' w'=>∃y,I y∧μ y<m∧Fits N a' (f y)∧g y=w') Q) .normal st w:=QF.next y h1 h2 h3 h4
theorem zxd{α:Type}{f:α→St}{g:α→ka}{I:α→Prop}{m:Nat}{μ:α→Nat}(y:α)(h1:I y)(h2:μ y<m:=by first|omega|(dsimp only;omega))(h3:Cov st (f y):=by repeat' first|exact trivial|exact rfl|constructor)(h4:g y=w:=by exact rfl):
 QF N (Exit.then (fun a' w'=>∃y,I y∧μ y<m∧Fits N a' (f y)∧g y=w') Q) .normal st w:=QF.next y h1 h2 h3 h4
end
theorem zg{A B:Prop}(k:B)(a:Hold B→A:=by
 intro k
 repeat first
  |((with_reducible refine' Ce ?_ ?_ ?_);rotate_left 1;exact rfl;exact rfl)
  |((with_reducible refine' uJ ?_ ?_ ?_);rotate_left 1;exact rfl;exact rfl)
  |((with_reducible refine' Gl ?_ ?_ ?_);rotate_left 1;exact rfl;exact rfl)
  |with_reducible refine WL.nil ?_
  |with_reducible refine Cz ?_
  |with_reducible refine CA ?_
  |with_reducible refine ai ?_
  |with_reducible refine WC.seq ?_
  |with_reducible refine WC.region ?_
  |with_reducible refine WC.skip ?_
  |with_reducible refine WC.block ?_
  |with_reducible refine WC.exit ?_
  |with_reducible refine WC.ret ?_
  |with_reducible refine aS ?_
  |with_reducible refine bJ ?_
  |with_reducible refine bp ?_
  |with_reducible refine bQ ?_
  |with_reducible refine gh ?_
  |((with_reducible refine QF.blockMiss ?_ ?_);exact rfl)
  |((with_reducible refine' uI ?_ ?_ ?_);rotate_left 1;exact rfl;exact rfl)
  |((with_reducible refine' qL ?_ ?_ ?_ ?_);rotate_left 2;exact rfl;exact rfl;exact rfl)
  |((with_reducible refine' DS ?_ ?_ ?_ ?_);rotate_left 3;exact rfl;exact rfl;exact rfl)
  |((with_reducible refine' DT ?_ ?_ ?_ ?_);rotate_left 3;exact rfl;exact rfl;exact rfl)
  |((with_reducible refine' DU ?_ ?_ ?_ ?_);rotate_left 3;exact rfl;exact rfl;exact rfl)
  |((with_reducible refine' DV ?_ ?_ ?_ ?_);rotate_left 3;exact rfl;exact rfl;exact rfl)
  |((with_reducible refine' DW ?_ ?_ ?_ ?_);rotate_left 3;exact rfl;exact rfl;exact rfl)
  |((with_reducible refine' DR ?_ ?_ ?_ ?_);rotate_left 3;exact rfl;exact rfl;exact rfl)
  |((with_reducible refine' DQ ?_ ?_ ?_);rotate_left 1;exact rfl;exact rfl)
  |((with_reducible refine' DO ?_ ?_ ?_ ?_ ?_);rotate_left 2;exact rfl;(with_reducible exact rfl);exact rfl;exact rfl)
  |((with_reducible refine' DP ?_ ?_ ?_ ?_ ?_);rotate_left 2;exact rfl;(with_reducible exact rfl);exact rfl;exact rfl)
  |((with_reducible refine' AM ?_ ?_ ?_ ?_);rotate_left 1;exact rfl;(with_reducible exact rfl);exact rfl)
  |((with_reducible refine' AN ?_ ?_ ?_ ?_);rotate_left 1;exact rfl;(with_reducible exact rfl);exact rfl)
  |((with_reducible refine gY ?_ ?_ ?_);exact rfl;exact rfl)
  |((with_reducible refine' CB ?_ ?_ ?_);rotate_left 1;exact rfl;(with_reducible exact rfl))
  |((with_reducible refine' Cf ?_ ?_ ?_);rotate_left 1;exact rfl;exact rfl)
  |((with_reducible refine' uL ?_ ?_ ?_);rotate_left 1;exact rfl;exact rfl)
  |((with_reducible refine' Gm ?_ ?_ ?_);rotate_left 1;exact rfl;exact rfl)
  |((with_reducible refine' uK ?_ ?_ ?_);rotate_left 1;exact rfl;exact rfl)
  |((with_reducible refine' qM ?_ ?_ ?_ ?_);rotate_left 2;exact rfl;exact rfl;exact rfl)
  |((with_reducible refine' AK ?_ ?_ ?_ ?_);rotate_left 1;exact rfl;(with_reducible exact rfl);exact rfl)
  |((with_reducible refine' AL ?_ ?_ ?_ ?_);rotate_left 1;exact rfl;(with_reducible exact rfl);exact rfl)
  |((with_reducible refine AJ ?_ ?_ ?_);exact rfl;exact rfl)
  |with_reducible refine Cv ?_
  |with_reducible refine Cw ?_
  |((with_reducible refine' DX ?_ ?_ ?_);rotate_left 1;exact rfl;exact rfl)
  |((with_reducible refine' DZ ?_ ?_ ?_ ?_);rotate_left 3;exact rfl;exact rfl;exact rfl)
  |((with_reducible refine' D0 ?_ ?_ ?_ ?_);rotate_left 3;exact rfl;exact rfl;exact rfl)
  |((with_reducible refine' D1 ?_ ?_ ?_ ?_);rotate_left 3;exact rfl;exact rfl;exact rfl)
  |((with_reducible refine' D2 ?_ ?_ ?_ ?_);rotate_left 3;exact rfl;exact rfl;exact rfl)
  |((with_reducible refine' D3 ?_ ?_ ?_ ?_);rotate_left 3;exact rfl;exact rfl;exact rfl)
  |((with_reducible refine' DY ?_ ?_ ?_ ?_);rotate_left 3;exact rfl;exact rfl;exact rfl)
  |((with_reducible refine' Cx ?_ ?_ ?_);rotate_left 1;exact rfl;(with_reducible exact rfl))
 exact k.out):A:=a ⟨k⟩
theorem zh{A B:Prop}(k:B)(a:Hold B→A:=by
 intro k
 repeat first
  |((with_reducible refine' Ce ?_ ?_ ?_);rotate_left 1;exact rfl;exact rfl)
  |((with_reducible refine' uJ ?_ ?_ ?_);rotate_left 1;exact rfl;exact rfl)
  |((with_reducible refine' Gl ?_ ?_ ?_);rotate_left 1;exact rfl;exact rfl)
  |with_reducible refine WL.nil ?_
  |with_reducible refine Cz ?_
  |with_reducible refine CA ?_
  |with_reducible refine ai ?_
  |with_reducible refine WC.seq ?_
  |with_reducible refine WC.region ?_
  |with_reducible refine WC.skip ?_
  |with_reducible refine WC.block ?_
  |with_reducible refine WC.exit ?_
  |with_reducible refine WC.ret ?_
  |with_reducible refine aS ?_
  |with_reducible refine bJ ?_
  |with_reducible refine bp ?_
  |with_reducible refine bQ ?_
  |with_reducible refine gh ?_
  |((with_reducible refine QF.blockMiss ?_ ?_);exact rfl)
  |((with_reducible refine' uI ?_ ?_ ?_);rotate_left 1;exact rfl;exact rfl)
  |((with_reducible refine' qL ?_ ?_ ?_ ?_);rotate_left 2;exact rfl;exact rfl;exact rfl)
  |((with_reducible refine' DS ?_ ?_ ?_ ?_);rotate_left 3;exact rfl;exact rfl;exact rfl)
  |((with_reducible refine' DT ?_ ?_ ?_ ?_);rotate_left 3;exact rfl;exact rfl;exact rfl)
  |((with_reducible refine' DU ?_ ?_ ?_ ?_);rotate_left 3;exact rfl;exact rfl;exact rfl)
  |((with_reducible refine' DV ?_ ?_ ?_ ?_);rotate_left 3;exact rfl;exact rfl;exact rfl)
  |((with_reducible refine' DW ?_ ?_ ?_ ?_);rotate_left 3;exact rfl;exact rfl;exact rfl)
  |((with_reducible refine' DR ?_ ?_ ?_ ?_);rotate_left 3;exact rfl;exact rfl;exact rfl)
  |((with_reducible refine' DQ ?_ ?_ ?_);rotate_left 1;exact rfl;exact rfl)
  |((with_reducible refine' DO ?_ ?_ ?_ ?_ ?_);rotate_left 2;exact rfl;(with_reducible exact rfl);exact rfl;exact rfl)
  |((with_reducible refine' DP ?_ ?_ ?_ ?_ ?_);rotate_left 2;exact rfl;(with_reducible exact rfl);exact rfl;exact rfl)
  |((with_reducible refine' AM ?_ ?_ ?_ ?_);rotate_left 1;exact rfl;(with_reducible exact rfl);exact rfl)
  |((with_reducible refine' AN ?_ ?_ ?_ ?_);rotate_left 1;exact rfl;(with_reducible exact rfl);exact rfl)
  |((with_reducible refine gY ?_ ?_ ?_);exact rfl;exact rfl)
  |((with_reducible refine' CB ?_ ?_ ?_);rotate_left 1;exact rfl;(with_reducible exact rfl))
  |((with_reducible refine' Cf ?_ ?_ ?_);rotate_left 1;exact rfl;exact rfl)
  |((with_reducible refine' uL ?_ ?_ ?_);rotate_left 1;exact rfl;exact rfl)
  |((with_reducible refine' Gm ?_ ?_ ?_);rotate_left 1;exact rfl;exact rfl)
  |((with_reducible refine' uK ?_ ?_ ?_);rotate_left 1;exact rfl;exact rfl)
  |((with_reducible refine' qM ?_ ?_ ?_ ?_);rotate_left 2;exact rfl;exact rfl;exact rfl)
  |((with_reducible refine' AK ?_ ?_ ?_ ?_);rotate_left 1;exact rfl;(with_reducible exact rfl);exact rfl)
  |((with_reducible refine' AL ?_ ?_ ?_ ?_);rotate_left 1;exact rfl;(with_reducible exact rfl);exact rfl)
  |((with_reducible refine AJ ?_ ?_ ?_);exact rfl;exact rfl)
  |with_reducible refine Cv ?_
  |with_reducible refine Cw ?_
  |((with_reducible refine' DX ?_ ?_ ?_);rotate_left 1;exact rfl;exact rfl)
  |((with_reducible refine' DZ ?_ ?_ ?_ ?_);rotate_left 3;exact rfl;exact rfl;exact rfl)
  |((with_reducible refine' D0 ?_ ?_ ?_ ?_);rotate_left 3;exact rfl;exact rfl;exact rfl)
  |((with_reducible refine' D1 ?_ ?_ ?_ ?_);rotate_left 3;exact rfl;exact rfl;exact rfl)
  |((with_reducible refine' D2 ?_ ?_ ?_ ?_);rotate_left 3;exact rfl;exact rfl;exact rfl)
  |((with_reducible refine' D3 ?_ ?_ ?_ ?_);rotate_left 3;exact rfl;exact rfl;exact rfl)
  |((with_reducible refine' DY ?_ ?_ ?_ ?_);rotate_left 3;exact rfl;exact rfl;exact rfl)
  |((with_reducible refine' Cx ?_ ?_ ?_);rotate_left 1;exact rfl;(with_reducible exact rfl))
  |((with_reducible refine' GD ?_ ?_ ?_ ?_);rotate_left 2;exact rfl;(with_reducible assumption);exact rfl)
  |((with_reducible refine' FN ?_ ?_ ?_ ?_ ?_);rotate_left 2;exact rfl;exact rfl;omega;exact rfl)
  |((with_reducible refine' GC ?_ ?_ ?_ ?_);rotate_left 4;exact rfl;(with_reducible assumption);exact rfl)
  |((with_reducible refine' GE ?_ ?_ ?_ ?_ ?_ ?_ ?_);rotate_left 7;exact rfl;exact rfl;(with_reducible assumption);exact rfl;omega;exact rfl)
  |((with_reducible refine' FM ?_ ?_ ?_ ?_ ?_);rotate_left 2;exact rfl;exact rfl;omega;exact rfl)
  |((with_reducible refine' GG ?_ ?_ ?_ ?_);rotate_left 2;exact rfl;(with_reducible assumption);exact rfl)
  |((with_reducible refine' FQ ?_ ?_ ?_ ?_ ?_);rotate_left 2;exact rfl;exact rfl;omega;exact rfl)
  |((with_reducible refine' FO ?_ ?_ ?_ ?_ ?_);rotate_left 2;exact rfl;exact rfl;omega;exact rfl)
  |((with_reducible refine' FP ?_ ?_ ?_ ?_);rotate_left 2;exact rfl;(with_reducible assumption);exact rfl)
  |((with_reducible refine' GF ?_ ?_ ?_ ?_);rotate_left 4;exact rfl;(with_reducible assumption);exact rfl)
  |((with_reducible refine' GH ?_ ?_ ?_ ?_ ?_ ?_ ?_);rotate_left 7;exact rfl;exact rfl;(with_reducible assumption);exact rfl;omega;exact rfl)
 exact k.out):A:=a ⟨k⟩
section
variable{P:G7}{N:Nat}{ops:Array GU}{Q:I9→Iq→ka→Prop}{K:Iq→Prop}{rest:List GU}{st:St}{w:ka}
variable{t:ln}{p:String}{e:Array IJ}{d:Nat}{v:ix}{op:Op}{B:Prop}
theorem zvG(hv:RV P N op t st w v)(k:B)(hd:G0 d N=true:=by exact rfl)(a:Hold B→WL P N ops Q rest ((d,v)::st) w:=by intro k;exact zg k.out):WL P N ops Q (⟨some d,op,t,p,e,none⟩::rest) st w:=bE hv hd (a ⟨k⟩)
theorem zwG(hv:RV P N op t st w v)(k:B)(hd:G0 d N=true:=by exact rfl)(a:Hold B→WS P N ops w K rest ((d,v)::st):=by intro k;exact zg k.out):WS P N ops w K (⟨some d,op,t,p,e,none⟩::rest) st:=om hv hd (a ⟨k⟩)
theorem zTG{c:G2}{x y:IT}{b:Bool}(hc:ev st c=some (.bool b))(hb:b=true)(k:B)(a:Hold B→WC P N x Q st w:=by intro k;exact zg k.out):WC P N (.cond c x y) Q st w:=aO hc hb (a ⟨k⟩)
theorem zFG{c:G2}{x y:IT}{b:Bool}(hc:ev st c=some (.bool b))(hb:b=false)(k:B)(a:Hold B→WC P N y Q st w:=by intro k;exact zg k.out):WC P N (.cond c x y) Q st w:=aN hc hb (a ⟨k⟩)
theorem zvH(hv:RV P N op t st w v)(k:B)(hd:G0 d N=true:=by exact rfl)(a:Hold B→WL P N ops Q rest ((d,v)::st) w:=by intro k;exact zh k.out):WL P N ops Q (⟨some d,op,t,p,e,none⟩::rest) st w:=bE hv hd (a ⟨k⟩)
theorem zwH(hv:RV P N op t st w v)(k:B)(hd:G0 d N=true:=by exact rfl)(a:Hold B→WS P N ops w K rest ((d,v)::st):=by intro k;exact zh k.out):WS P N ops w K (⟨some d,op,t,p,e,none⟩::rest) st:=om hv hd (a ⟨k⟩)
theorem zTH{c:G2}{x y:IT}{b:Bool}(hc:ev st c=some (.bool b))(hb:b=true)(k:B)(a:Hold B→WC P N x Q st w:=by intro k;exact zh k.out):WC P N (.cond c x y) Q st w:=aO hc hb (a ⟨k⟩)
theorem zFH{c:G2}{x y:IT}{b:Bool}(hc:ev st c=some (.bool b))(hb:b=false)(k:B)(a:Hold B→WC P N y Q st w:=by intro k;exact zh k.out):WC P N (.cond c x y) Q st w:=aN hc hb (a ⟨k⟩)
end
end Go.VL
end
section
namespace Go.VL
open Go.Proofs.Tryz
open Go.Proofs Go.Proofs.YtpfpmhhigheccaaGreatDoor
open Go.Proofs.Tryz
instance :FA G6 27 0 0:=fI Jd rfl rfl I8
instance :FA G6 27 1 1:=fI Jd rfl rfl Ir
instance :FA G6 27 2 2:=fI Jd rfl rfl Ir
instance :FA G6 27 3 3:=fI Jd rfl rfl Ir
instance :FA G6 27 4 4:=fI Jd rfl rfl Ir
instance :FA G6 30 0 0:=fI Ly rfl rfl sizeOf27
instance :FA G6 30 1 5:=fI Ly rfl rfl Lp
instance :FA G6 32 0 0:=fI IQ rfl rfl KR
instance :FA G6 32 1 1:=fI IQ rfl rfl KR
instance :FA G6 32 2 2:=fI IQ rfl rfl KR
instance :FA G6 32 3 3:=fI IQ rfl rfl I8
instance :FA G6 32 4 4:=fI IQ rfl rfl Ir
instance :FA G6 32 5 5:=fI IQ rfl rfl sizeOf30
instance :FA G6 32 6 11:=fI IQ rfl rfl sizeOf30
instance :FA G6 44 0 0:=fI KD rfl rfl Ir
instance :FA G6 44 1 1:=fI KD rfl rfl Ir
instance :FA G6 44 2 2:=fI KD rfl rfl Ln
instance :FA G6 45 2 2:=fI underlying45 rfl rfl Ln
instance :FA G6 49 0 0:=fI KC rfl rfl Ir
instance :FA G6 49 1 1:=fI KC rfl rfl Ir
instance :FA G6 49 2 2:=fI KC rfl rfl sizeOf47
instance :FA G6 61 0 0:=fI Lx rfl rfl sizeOf22
instance :FA G6 61 1 1:=fI Lx rfl rfl K5
instance :FA G6 63 0 0:=fI underlying63 rfl rfl sizeOf61
instance :FA G6 75 0 0:=fI KB rfl rfl Ir
instance :FA G6 75 1 1:=fI KB rfl rfl Ir
instance :FA G6 75 2 2:=fI KB rfl rfl Ln
instance :FA G6 79 0 0:=fI KA rfl rfl I8
instance :FA G6 79 1 1:=fI KA rfl rfl I8
instance :FA G6 79 2 2:=fI KA rfl rfl sizeOf77
instance :FA G6 81 0 0:=fI Kz rfl rfl Lm
instance :FA G6 81 1 3:=fI Kz rfl rfl Lm
instance :FA G6 81 2 6:=fI Kz rfl rfl K5
instance :FA G6 86 0 0:=fI JG rfl rfl I8
instance :FA G6 86 1 1:=fI JG rfl rfl I8
instance :FA G6 86 2 2:=fI JG rfl rfl KQ
instance :FA G6 88 0 0:=fI Ky rfl rfl GY
instance :FA G6 88 1 3:=fI Ky rfl rfl GY
instance :FA G6 88 2 6:=fI Ky rfl rfl K5
instance :FA G6 91 0 0:=fI Lw rfl rfl KP
instance :FA G6 91 1 1:=fI Lw rfl rfl Lp
instance :FA G6 127 1 1:=fI Lt rfl rfl KP
instance :FA G6 127 2 2:=fI Lt rfl rfl Lp
instance :FA G6 145 0 0:=fI IX rfl rfl K4
instance :FA G6 145 1 1:=fI IX rfl rfl I8
instance :FA G6 145 2 2:=fI IX rfl rfl I8
instance :FA G6 145 3 3:=fI IX rfl rfl I8
instance :FA G6 145 4 4:=fI IX rfl rfl I8
instance :FA G6 145 5 5:=fI IX rfl rfl Lo
instance :FA G6 148 0 0:=fI J9 rfl rfl sizeOf145
instance :FA G6 148 1 6:=fI J9 rfl rfl sizeOf49
instance :FA G6 148 2 9:=fI J9 rfl rfl sizeOf146
instance :FA G6 148 3 10:=fI J9 rfl rfl K5
instance :FA G6 148 4 11:=fI J9 rfl rfl K5
instance :FA G6 165 0 0:=fI J8 rfl rfl K5
instance :FA G6 165 1 1:=fI J8 rfl rfl sizeOf162
instance :FA G6 165 2 2:=fI J8 rfl rfl sizeOf163
instance :FA G6 165 3 3:=fI J8 rfl rfl sizeOf160
instance :FA G6 165 4 4:=fI J8 rfl rfl sizeOf161
instance :FA G6 167 0 0:=fI Km rfl rfl Ir
instance :FA G6 167 1 1:=fI Km rfl rfl Ir
instance :FA G6 167 2 2:=fI Km rfl rfl I8
instance :FA G6 170 0 0:=fI Kl rfl rfl I8
instance :FA G6 170 1 1:=fI Kl rfl rfl I8
instance :FA G6 170 2 2:=fI Kl rfl rfl I8
instance :FA G6 174 0 0:=fI Kk rfl rfl sizeOf114
instance :FA G6 174 1 1:=fI Kk rfl rfl sizeOf172
instance :FA G6 174 2 2:=fI Kk rfl rfl KP
instance :FA G6 201 0 0:=fI IW rfl rfl sizeOf91
instance :FA G6 201 1 2:=fI IW rfl rfl sizeOf199
instance :FA G6 201 2 3:=fI IW rfl rfl Ir
instance :FA G6 201 3 4:=fI IW rfl rfl sizeOf160
instance :FA G6 201 4 5:=fI IW rfl rfl sizeOf198
instance :FA G6 201 5 6:=fI IW rfl rfl I8
instance :FA G6 218 0 0:=fI Ls rfl rfl K4
instance :FA G6 218 1 1:=fI Ls rfl rfl GY
instance :FA G6 235 0 0:=fI Lr rfl rfl K4
instance :FA G6 235 1 1:=fI Lr rfl rfl I8
instance :FA G6 237 0 0:=fI J7 rfl rfl sizeOf235
instance :FA G6 237 1 2:=fI J7 rfl rfl sizeOf146
instance :FA G6 237 2 3:=fI J7 rfl rfl I8
instance :FA G6 237 3 4:=fI J7 rfl rfl I8
instance :FA G6 237 4 5:=fI J7 rfl rfl Lo
instance :SC G6 22 1:=⟨5,underlying22,sizeOf5⟩
instance :SC G6 25 1:=⟨3,underlying25,I8⟩
instance :SC G6 28 1:=⟨24,underlying28,KR⟩
instance :SC G6 42 7:=⟨81,underlying42,sizeOf81⟩
instance :SC G6 47 7:=⟨88,underlying47,sizeOf88⟩
instance :SC G6 77 3:=⟨79,underlying77,Lm⟩
instance :SC G6 84 3:=⟨86,JH,GY⟩
instance :SC G6 89 1:=⟨25,underlying89,Ir⟩
instance :SC G6 119 2:=⟨91,underlying119,sizeOf91⟩
instance :SC G6 123 1:=⟨9,underlying123,K4⟩
instance :SC G6 146 4:=⟨218,underlying146,sizeOf218⟩
instance :SC G6 163 3:=⟨167,underlying163,sizeOf167⟩
instance :SC G6 199 1:=⟨89,underlying199,KP⟩
instance :AG G6 3 false:=⟨isAgg3⟩
instance :AG G6 4 false:=⟨isAgg4⟩
instance :AG G6 5 false:=⟨isAgg5⟩
instance :AG G6 9 false:=⟨isAgg9⟩
instance :AG G6 22 false:=⟨isAgg22⟩
instance :AG G6 24 false:=⟨isAgg24⟩
instance :AG G6 25 false:=⟨isAgg25⟩
instance :AG G6 28 false:=⟨isAgg28⟩
instance :AG G6 33 false:=⟨isAgg33⟩
instance :AG G6 42 false:=⟨isAgg42⟩
instance :AG G6 47 false:=⟨isAgg47⟩
instance :AG G6 77 false:=⟨isAgg77⟩
instance :AG G6 84 false:=⟨isAgg84⟩
instance :AG G6 89 false:=⟨isAgg89⟩
instance :AG G6 114 false:=⟨isAgg114⟩
instance :AG G6 146 false:=⟨isAgg146⟩
instance :AG G6 160 false:=⟨isAgg160⟩
instance :AG G6 161 false:=⟨isAgg161⟩
instance :AG G6 162 false:=⟨isAgg162⟩
instance :AG G6 163 false:=⟨isAgg163⟩
instance :AG G6 172 false:=⟨isAgg172⟩
instance :AG G6 197 false:=⟨isAgg197⟩
instance :AG G6 198 false:=⟨isAgg198⟩
instance :AG G6 199 false:=⟨isAgg199⟩
end Go.VL
end
namespace Go.VL
open Go.Proofs.Tryz
theorem max_lt(k:GR){a:Nat}(h:(a:Int)<=k.max):a<2^k.bits:=by
 cases k<;>simp only[K2,Jj,Ja]at h ⊢<;>simp at h ⊢<;>omega
theorem eQ(n a:Nat)(h:a<2^n):(L3 n (a:Int)).toNat=a:=by
 rw[show L3 n (a:Int)=BitVec.ofNat n a from by simp,BitVec.toNat_ofNat,Nat.mod_eq_of_lt h]
theorem lR(k:GR){a:Nat}(h:(a:Int)<=k.max):k.wrap a=a:=by
 cases k<;>simp only[K2,Jj,Ja]at h<;>simp[LQ,Jj,Ja]at h ⊢<;>(try split)<;>omega
def yp(k:GR):Nat:=if k.signed then k.bits-1 else k.bits
theorem kM(k:GR)(a:Nat):(a:Int)<=k.max↔a<2^yp k:=by
 cases k<;>simp[K2,Jj,Ja,yp]<;>omega
section
variable{P:G7}{N:Nat}{ops:Array GU}{Q:I9→Iq→ka→Prop}{rest:List GU}{st:St}{w:ka}
variable{t xt yt:ln}{p:String}{e:Array IJ}{d:Nat}{x y z:G2}
variable{k:GR}{m n:Int}{a b:Nat}
theorem CW(ha:(a:Int)<=k.max)(hb:(b:Int)<=k.max):(binOp .and xt (.int k a) (.int k b)).run P w=.ok (.int k ((a &&& b:Nat):Int)) w:=by
 rw[binOp_and];have h:((a &&& b:Nat):Int)<=k.max:=by have:=@Nat.and_le_left a b;omega
 simp only[Lv,BitVec.toNat_and,eQ _ _ (max_lt k ha),eQ _ _ (max_lt k hb),lR k h];rfl
theorem D7(ha:(a:Int)<=k.max)(hb:(b:Int)<=k.max):(binOp .or xt (.int k a) (.int k b)).run P w=.ok (.int k ((a ||| b:Nat):Int)) w:=by
 rw[binOp_or];have h:((a ||| b:Nat):Int)<=k.max:=(kM k _).2 (Nat.or_lt_two_pow ((kM k a).1 ha) ((kM k b).1 hb));simp only[Lv,BitVec.toNat_or,eQ _ _ (max_lt k ha),eQ _ _ (max_lt k hb),lR k h];rfl
theorem uF(hx:ev st x=some (.int k m))(hy:ev st y=some (.int k n))(hm:m=a)(hn:n=b)(ha:(a:Int)<=k.max)(hb:(b:Int)<=k.max):RV P N (.binOp .and xt x y yt) t st w (.int k ((a &&& b:Nat):Int)):=by
 subst hm;subst hn;exact dx hx hy (CW ha hb)
theorem po(hx:ev st x=some (.int k m))(hy:ev st y=some (.int k n))(hm:m=a)(hn:n=b)(ha:(a:Int)<=k.max)(hb:(b:Int)<=k.max):RV P N (.binOp .or xt x y yt) t st w (.int k ((a ||| b:Nat):Int)):=by
 subst hm;subst hn;exact dx hx hy (D7 ha hb)
theorem ia{k':GR}(hx:ev st x=some (.int k m))(hy:ev st y=some (.int k' n))(hm:m=a)(hn:n=b)(hb:b<=k.bits):RV P N (.binOp .shr xt x y yt) t st w (.int k ((a / 2^b:Nat):Int)):=by
 subst hm;subst hn;refine dx hx hy ?_;rw[binOp_shr];have h1:¬(b:Int)<0:=zo;simp only[LG,if_neg h1,I7,L0 hb];rw[Int.fdiv_eq_ediv_of_nonneg _ (by exact_mod_cast Im _)];simp
theorem uC{k':GR}(hx:ev st x=some (.int k m))(hy:ev st y=some (.int k' n))(hm:m=a)(hn:n=b)(hb:b<=k.bits)(hr:((a*2^b:Nat):Int)<=k.max):RV P N (.binOp .shl xt x y yt) t st w (.int k ((a*2^b:Nat):Int)):=by
 subst hm;subst hn;refine dx hx hy ?_;rw[binOp_shl];have h1:¬(b:Int)<0:=zo;have h2:=lR k hr;simp only[LG,if_neg h1,I7,L0 hb];have h3:(a:Int)*2^b=((a*2^b:Nat):Int):=by simp
 rw[h3,h2];rfl
theorem ti(l:List UInt8):strOfNums (l.map fun b=>(b.toNat:Int))=bs l:=by
 simp only[strOfNums,bs,List.map_map];congr 1;rw[show((fun n:Int=>Ka n.toNat)∘fun b:UInt8=>(b.toNat:Int))=id from by funext b;simp];simp
theorem gb{l:List UInt8}{v:ix}{E:ln}(hl:Sl (fun b:UInt8=>[JY .u8 (b.toNat:Int)]) 1 w v l)(hs:P.underlying xt=some (.slice E))(he:P.underlying E=some (.int .u8))(a0:P.underlying yt=some .string)(hx:ev st x=some v):
  RV P N (.convert xt yt x) t st w (.string (bs l)):=
 fun a' ha a2 p e g=>by
  obtain⟨a,c,rfl,hc,_,a1⟩:=hl.shape;simp only[execOp,ha.ev hx,G5]
  by_cases h0:l.length=0
  ·obtain rfl:l=[]:=I6 h0
   cases a with
   |none=>
    rw[run_convert_bytes_nil w xt E hs he _ _ yt a0];rfl
   |some q=>
    obtain⟨b,o,sp⟩:=q;have hq:=run_convert_bytes_string (P:=P) w xt yt E (some ⟨b,o,sp⟩) 0 c hs he a0;simp only[KV]at hq ⊢;rw[hq,run_bytesToString w ⟨b,o,sp⟩ 0 c [] (by simp[loadCells,loadCellsFrom])];rfl
  obtain⟨b,o,rfl⟩:=a1 h0
  have:=run_convert_bytes_arg (P:=P) w xt E hs he b o l.length c (l.map fun b=>(b.toNat:Int)) (by simp) (fun i hi=>by
   have h1:=hl.cells i hi 0 _ rfl;rw[aB]at h1;simp only[adr,JD]at h1;rw[h1,Ia,I1 (by simpa using hi)]
   simp) yt a0
  rw[this,ti];rfl
end
section
open Go.RowKit
abbrev Fr(ro:Option Nat):Fence:={ ID with round:=ro }
def eF(o:GU):Bool:=match o.op with | .defer _=>false|_=>true
theorem xk{o:GU}(h:eF o=true):∀c,o.op≠.defer c:=by
 intro c e;simp[eF,e]at h
def dn(ds:List Is)(Q:I9->Iq->ka->Prop):I9->Iq->ka->Prop:=fun e a w=>Q e { a with defers:=a.defers++ds } w
theorem jq(a:Iq)(x:List Is):({ a with defers:=x }:Iq).eval=a.eval:=by
 funext t;cases t<;>rfl
theorem GM{ro:Option Nat}{P:G7}{o:GU}{a:Iq}{w:ka}{next:Iq->ka->Prop}{Q Q1:I9->Iq->ka->Prop}{ds:List Is} 
  (hn:ro=none\/eF o=true) (a1:∀a w,¬Q1 .outgrown a w) (hq:∀c a w,Q1 (.panic c) a w->Q (.panic c) { a with defers:=a.defers++ds } w)
  (h:o.wp P a w (fun a w=>next { a with defers:=a.defers++ds } w) Q1):o.wpIn (Fr ro) 0 P { a with defers:=a.defers++ds } w next Q:=by
 refine⟨fun _ _=>trivial,?_⟩;have hs:o.semAt (Fr ro).round ({ a with defers:=a.defers++ds }:Iq).eval=execOp a.eval o:=by
  rw[jq]
  rcases hn with rfl|hn
  ·rfl
  exact Oper.semAt_eq _ _ _ (xk hn)
 rw[hs];unfold IR at h;generalize (execOp a.eval o).run P w=r at h ⊢
 cases r with
 |ok nx w'=>
  cases nx with
  |value v=>cases hd:o.dst<;>simpa[J4,Kf,Jh,hd]using h
  |skip=>cases hd:o.dst<;>simpa[J4,Kf,Jh,hd]using h
  |defer d=>cases hd:o.dst<;>simpa[J4,Kf,Jh,hd]using h
  |enter f args=>
   refine⟨fun hh=>by simp[ID]at hh,?_⟩;refine LU (callsIn_wide.2 h:CallsIn ID _ P f args w' _) ?_
   intro e w'' q
   cases e with
   |returned v=>cases hd:o.dst<;>simpa[Jh,hd]using q
   |panicked c=>exact hq _ _ _ q
   |outgrown=>obtain⟨a0,w0,q⟩:=q;exact absurd q (a1 _ _)
  |row row args=>
   refine⟨fun hh=>by simp[ID]at hh,fun c cs _=>?_⟩;obtain⟨v,w'',q,s⟩:=h c cs;refine⟨v,w'',?_,stepsIn_wide.2 s⟩
   cases hd:o.dst<;>simpa[Jh,hd]using q
  |_=>exact h.elim
 |halt hl w'=>
  cases hl with
  |panic v=>exact hq _ _ _ h
  |_=>exact h.elim
theorem eu{ro:Option Nat}{P:G7}{ops:Array GU}{Q:I9->Iq->ka->Prop}{ds:List Is}(l2:List GU)(a2:∀a w,¬Q .outgrown a w):
  ∀(l:List GU),(ro=none\/l.all eF=true)->∀a w,wpList P ops (dn ds (Exit.then (wpListIn (Fr ro) 0 P ops Q l2) Q)) l a w->wpListIn (Fr ro) 0 P ops Q (l++l2) { a with defers:=a.defers++ds } w
 |[],_,a,w,h=>h
 |o::rest,hn,a,w,h=>by
  have a4:ro=none\/eF o=true:=by rcases hn with h|h;exact .inl h;exact .inr (by simp at h;exact h.1)
  have a3:ro=none\/rest.all eF=true:=by rcases hn with h|h;exact .inl h;exact .inr (by simp at h ⊢;exact h.2)
  rw[IN];unfold wpListIn;unfold wpList at h;have a1:∀a w,¬dn ds (Exit.then (wpListIn (Fr ro) 0 P ops Q l2) Q) .outgrown a w:=fun a w q=>a2 _ _ q
  split at h
  ·rename_i hw;rw[if_pos hw]
   rcases h with h|⟨_,a0,w0,h⟩
   ·refine GM (Q1:=dn ds (Exit.then (wpListIn (Fr ro) 0 P ops Q l2) Q)) a4 a1 (fun _ _ _ q=>q) ?_;have hm:∀a w,wpList P ops (dn ds (Exit.then (wpListIn (Fr ro) 0 P ops Q l2) Q)) rest a w->wpListIn (Fr ro) 0 P ops Q (rest++l2) { a with defers:=a.defers++ds } w:=eu l2 a2 rest a3;unfold IR at h ⊢;generalize (execOp a.eval o).run P w=r at h ⊢
    cases r with
    |ok nx w'=>
     cases nx with
     |value v=>exact hm _ _ h
     |skip=>exact hm _ _ h
     |defer d=>exact hm _ _ h
     |enter f args=>
      refine Iw h ?_;intro e w'' q
      cases e with
      |returned v=>exact hm _ _ q
      |_=>exact q
     |row row args=>exact KJ h fun v w'' q=>hm _ _ q
     |_=>exact h
    |halt hl w'=>cases hl<;>exact h
   exact absurd h (a1 _ _)
  rename_i hw;rw[if_neg hw];refine⟨fun _ _=>trivial,?_⟩;have:=eu l2 a2 rest a3 _ _ h
  cases hd:o.dst<;>simpa[Jh,hd]using this
theorem then_self(Q:I9->Iq->ka->Prop):Exit.then (fun a w=>Q .normal a w) Q=Q:=by
 funext e a w;cases e<;>rfl
theorem ma{ro:Option Nat}{P:G7}{ops:Array GU}{Q:I9->Iq->ka->Prop}{ds:List Is}(a0:∀a w,¬Q .outgrown a w) 
  (l:List GU) (hn:ro=none\/l.all eF=true) (a:Iq) (w:ka) (h:wpList P ops (dn ds Q) l a w):wpListIn (Fr ro) 0 P ops Q l { a with defers:=a.defers++ds } w:=by
 have:=eu (ro:=ro) (P:=P) (ops:=ops) (Q:=Q) (ds:=ds) [] a0 l hn a w (by
  rw[show Exit.then (wpListIn (Fr ro) 0 P ops Q []) Q=Q from then_self Q];exact h)
 rwa[KX]at this
def WI(ro:Option Nat)(P:G7)(N:Nat)(ds:List Is)(c:IT)(Q:I9->Iq->ka->Prop)(st:St)(w:ka):Prop:=
 ∀a,Fits N a st->c.wpIn (Fr ro) 0 P Q { a with defers:=ds } w
def QI(N:Nat)(ds:List Is)(Q:I9->Iq->ka->Prop)(e:I9)(st:St)(w:ka):Prop:=
 ∀a,Fits N a st->Q e { a with defers:=ds } w
section
variable{P:G7}{N:Nat}{ro:Option Nat}{ds:List Is}{Q:I9→Iq→ka→Prop}{st:St}{w:ka}
theorem qs{N:Nat}{a:Iq}{st:St}(h:Fits N a st)(ds:List Is):({ a with defers:=a.defers++ds }:Iq) = { a with defers:=ds }:=by rw[h.defers];rfl
theorem QF.dn{e:I9}(h:QI N ds Q e st w):QF N (dn ds Q) e st w:=fun a ha=>by
 show Q e _ w;rw[qs ha];exact h a ha
theorem WI.region{id:Nat}{l:List GU}(hn:ro=none\/l.all eF=true)(a0:∀a w,¬Q .outgrown a w)(h:WL P N l.toArray (dn ds Q) l st w):WI ro P N ds (.region id l.toArray false) Q st w:=fun a ha=>by
 rw[<-qs ha];exact wpIn_region_lit (ma a0 l hn a w (h a ha))
theorem WI.seq{x y:IT}(h:WI ro P N ds x (Exit.then (y.wpIn (Fr ro) 0 P Q) Q) st w):WI ro P N ds (.seq x y) Q st w:=fun a ha=>wpIn_seq (h a ha)
theorem WI.skip(h:QI N ds Q .normal st w):WI ro P N ds .skip Q st w:=fun a ha=>wpIn_skip (h a ha)
theorem WI.exit{id:Nat}(h:QI N ds Q (.exit id) st w):WI ro P N ds (.exit id) Q st w:=fun a ha=>wpIn_exit (h a ha)
theorem WI.ret(h:QI N ds Q .ret st w):WI ro P N ds .ret Q st w:=fun a ha=>wpIn_ret (h a ha)
theorem WI.block{id:Nat}{c:IT}(h:WI ro P N ds c (Iz id Q) st w):WI ro P N ds (.block id c) Q st w:=fun a ha=>wpIn_block (h a ha)
theorem Fits.evD{a:Iq}(ha:Fits N a st){x:G2}{v:ix}(hx:VL.ev st x=some v)(ds:List Is):({ a with defers:=ds }:Iq).eval x=v:=by rw[jq];exact ha.ev hx
theorem WI.cond{c:G2}{x y:IT}{b:Bool}(hc:ev st c=some (.bool b))(ht:b=true->WI ro P N ds x Q st w)(hf:b=false->WI ro P N ds y Q st w):WI ro P N ds (.cond c x y) Q st w:=
 fun a ha=>wpIn_cond_split (ha.evD hc ds) (fun e=>ht e a ha) (fun e=>hf e a ha)
theorem qx{c:G2}{x y:IT}{b:Bool}(hc:ev st c=some (.bool b))(hb:b=true)(ht:WI ro P N ds x Q st w):WI ro P N ds (.cond c x y) Q st w:=by
 subst hb;exact fun a ha=>wpIn_cond_true (ha.evD hc ds) (ht a ha)
theorem ku{c:G2}{x y:IT}{b:Bool}(hc:ev st c=some (.bool b))(hb:b=false)(hf:WI ro P N ds y Q st w):WI ro P N ds (.cond c x y) Q st w:=by
 subst hb;exact fun a ha=>wpIn_cond_false (ha.evD hc ds) (hf a ha)
theorem aW{y:IT}{Q':I9->Iq->ka->Prop}(h:WI ro P N ds y Q st w):QI N ds (Exit.then (y.wpIn (Fr ro) 0 P Q) Q') .normal st w:=h
theorem nt{K:Iq->ka->Prop}{id:Nat}(h:QI N ds Q (.exit id) st w):QI N ds (Exit.then K Q) (.exit id) st w:=h
theorem iN{K:Iq->ka->Prop}(h:QI N ds Q .ret st w):QI N ds (Exit.then K Q) .ret st w:=h
theorem cR{id:Nat}(h:QI N ds Q .normal st w):QI N ds (Iz id Q) .normal st w:=h
theorem gg{id:Nat}(h:QI N ds Q .ret st w):QI N ds (Iz id Q) .ret st w:=h
theorem uH{id:Nat}(h:QI N ds Q .normal st w):QI N ds (Iz id Q) (.exit id) st w:=fun a ha=>by
 show if id=id then _ else _
 rw[if_pos rfl];exact h a ha
end
theorem wpIn_loop_ghost{F:Fence}{n:Nat}{P:G7}{Q:I9->Iq->ka->Prop}{a:Iq}{w:ka}{c:IT}(I:Nat->Iq->ka->Prop)(n0:Nat)(h₀:I n0 a w) 
  (a1:∀j a w,I j a w->c.wpIn F n P (Exit.then (fun a' w'=>∃j',j'<j/\I j' a' w') Q) a w):(Code.loop c).wpIn F n P Q a w:=by
 intro b k cs a3 hb hr;have a2:∀j a w,I j a w->
   ∃e a' w',Q e a' w'/\ArrivesIn (LL P F) P (lone (b.atR a (.code c :: .inLoop c::k)) cs w) b k cs e a' w':=by
  intro j
  induction j using Nat.strongRecOn with
  |_ j ih=>
   intro a w hI;obtain⟨e,a₁,w₁,hq,a0⟩:=a1 j a w hI b (.inLoop c::k) cs a3 hb hr
   cases e with
   |normal=>
    obtain⟨j',a4,hI₁⟩:=hq;obtain⟨e₂,a₂,w₂,hq₂,harr₂⟩:=ih j' a4 a₁ w₁ hI₁;exact⟨e₂,a₂,w₂,hq₂,.of_steps (LK a0 (.one (fenced_calm hb hr rfl) stepR_inLoop)) harr₂⟩
   |exit id=>exact⟨_,a₁,w₁,hq,.pass (x:=.inLoop c) rfl (fun _ _=>.inl (by simp)) a0⟩
   |goto l=>exact⟨_,a₁,w₁,hq,.pass (x:=.inLoop c) rfl (fun _ _=>.inl (by simp)) a0⟩
   |ret=>exact⟨_,a₁,w₁,hq,.pass (x:=.inLoop c) rfl (fun _ _=>.inl (by simp)) a0⟩
   |panic ch=>exact⟨_,a₁,w₁,hq,.pass (x:=.inLoop c) rfl (fun _ _=>.inl (by simp)) a0⟩
   |outgrown=>exact⟨_,a₁,w₁,hq,.pass (x:=.inLoop c) rfl (fun _ _=>.inl (by simp)) a0⟩
 obtain⟨e,a',w',hq,a0⟩:=a2 _ a w h₀;exact⟨e,a',w',hq,.of_steps (.one (fenced_calm hb hr rfl) stepR_loop) a0⟩
section
variable{P:G7}{N:Nat}{ro:Option Nat}{ds:List Is}{Q:I9→Iq→ka→Prop}{st:St}{w:ka}
theorem WI.loop{α:Type}{c:IT}(f:α->St)(g:α->ka)(I:α->Prop)(μ:α->Nat)(x0:α)(h0:I x0)(hc:Cov st (f x0))(hw:g x0=w) 
  (a0:∀x,I x->WI ro P N ds c (Exit.then (fun a' w'=>∃y,I y/\μ y<μ x/\(∃a,a' = { a with defers:=ds }/\Fits N a (f y))/\g y=w') Q) (f x) (g x)):WI ro P N ds (.loop c) Q st w:=by
 intro a ha;refine wpIn_loop_ghost (fun n a' w=>∃y,I y/\μ y=n/\(∃a,a' = { a with defers:=ds }/\Fits N a (f y))/\g y=w) (μ x0) ⟨x0,h0,rfl,⟨a,rfl,ha.cov hc⟩,hw⟩ ?_;rintro n _ w ⟨x,hI,rfl,⟨a,rfl,hf⟩,rfl⟩;refine wpIn_mono (a0 x hI a hf) ?_;intro e a' w' hq
 cases e with
 |normal=>obtain⟨y,h1,h2,h3,h4⟩:=hq;exact⟨μ y,h2,y,h1,rfl,h3,h4⟩
 |_=>exact hq
theorem QI.next{α:Type}{f:α->St}{g:α->ka}{I:α->Prop}{m:Nat}{μ:α->Nat}(y:α)(h1:I y)(h2:μ y<m)(h3:Cov st (f y))(h4:g y=w):
 QI N ds (Exit.then (fun a' w'=>∃y,I y/\μ y<m/\(∃a,a' = { a with defers:=ds }/\Fits N a (f y))/\g y=w') Q) .normal st w:=fun a ha=>⟨y,h1,h2,⟨a,rfl,ha.cov h3⟩,h4⟩
end
def FE(R:ix->ka->Prop):Ending->ka->Prop
 |.returned v,w=>R v w
 |_,_=>False
def Leave(P:G7)(N:Nat)(fn:Li)(R:ix->ka->Prop)(ds:List Is)(st:St)(w:ka):Prop:=
 ∀a,Fits N a st->LeavesInM ID 0 P fn a.tmps (FE R) ds .returning w
section
variable{P:G7}{N:Nat}{ds:List Is}{st:St}{w:ka}{fn:Li}{R:ix→ka→Prop}
theorem pk{f:J1}{c:IT}{args:List ix}(hf:P.funcs[f]? = some fn)(hN:fn.ntmps=N)(hb:fn.body=some c)(a1:KL args.length N=true) 
  (h:WI none P N [] c (bodyPostM ID 0 P fn (FE R)) (CL 0 args) w):Ret P f args w R:=by
 have a0:=oS (N:=N) (args:=args) a1 (st:=CL 0 args) fun t v hv=>by simpa using(mm args 0 t v hv).2
 have hw:=h _ a0;have h2:=callsIn_of_wp_marks (F:=ID) (n:=0) (P:=P) (f:=f) (fn:=fn) (c:=c) (args:=args.toArray) (w:=w) (R:=FE R) hf hb trivial (by rw[hN];have:Fr none=ID:=rfl;rw[this]at hw;simpa using hw);refine Iw (callsIn_wide.1 h2) ?_;intro e w' q
 cases e<;>exact q
theorem kz(h:Leave P N fn R ds st w):QI N ds (bodyPostM ID 0 P fn (FE R)) .ret st w:=fun a ha=>h a ha
theorem Leave.nil{v:ix}(hr:∀a:Iq,Fits N a st->(results fn a.tmps).run P w=.ok v w)(h:R v w):Leave P N fn R [] st w:=fun a ha=>⟨v,hr a ha,h⟩
theorem ny(hr:fn.results = #[])(h:R (.tuple #[]) w):Leave P N fn R [] st w:=Leave.nil (fun a ha=>by simp[results,hr]) h
theorem Leave.mark{D:Nat}(hD:w.heap[D]? = some (.deferred (some [])))(h:Leave P N fn R ds st (w.putObj D (.deferred none))):Leave P N fn R ({ target:=.collected D,args:=#[] }::ds) st w:=
 fun a ha=>⟨by simp,.inl ⟨D,_,rfl,run_takeDeferred hD,h a ha⟩⟩
end
def WLI(ro:Option Nat)(P:G7)(N:Nat)(ds:List Is)(ops:Array GU)(Q:I9->Iq->ka->Prop)(l:List GU)(st:St)(w:ka):Prop:=
 ∀a,Fits N a st->wpListIn (Fr ro) 0 P ops Q l { a with defers:=ds } w
section
variable{P:G7}{N:Nat}{ro:Option Nat}{ds:List Is}{Q:I9→Iq→ka→Prop}{st:St}{w:ka}
theorem uu(i:Nat){id:Nat}{l:List GU}(hn:ro=none\/(l.take i).all eF=true)(a0:∀a w,¬Q .outgrown a w) 
  (h:WL P N l.toArray (VL.dn ds (Exit.then (wpListIn (Fr ro) 0 P l.toArray Q (l.drop i)) Q)) (l.take i) st w):WI ro P N ds (.region id l.toArray false) Q st w:=fun a ha=>by
 rw[<-qs ha];refine wpIn_region_lit ?_;have:=eu (l.drop i) a0 (l.take i) hn a w (h a ha)
 rwa[Iu]at this
theorem DG{ops:Array GU}{l:List GU}{Q':I9->Iq->ka->Prop}(h:WLI ro P N ds ops Q l st w):QI N ds (Exit.then (wpListIn (Fr ro) 0 P ops Q l) Q') .normal st w:=h
theorem Cy{ops:Array GU}{l:List GU}(hn:ro=none\/l.all eF=true)(a0:∀a w,¬Q .outgrown a w)(h:WL P N ops (VL.dn ds Q) l st w):WLI ro P N ds ops Q l st w:=fun a ha=>by
 rw[<-qs ha];exact ma a0 l hn a w (h a ha)
end
def yU(O:Nat->Nat)(w:ka)(L:Nat)(I:(Nat->Nat)->ka->Prop)(Ix:IT->(Nat->Nat)->ka->Prop):I9->Iq->ka->Prop
 |.normal,_,w'=>∃O',Upd (fun j=>j≠0/\j≠L) O w O' w'/\I O' w'
 |.ret,_,w'=>∃O',Upd (fun j=>j≠0/\j≠L) O w O' w'/\Ix .ret O' w'
 |.exit id,_,w'=>∃O',Upd (fun j=>j≠0/\j≠L) O w O' w'/\Ix (.exit id) O' w'
 |_,_,_=>False
theorem Upd.putObj{O:Nat->Nat}{w:ka}{L b:Nat}(hL:L≠0)(h:O b=L)(o:Obj):Upd (fun j=>j=L) O w O (w.putObj b o):=
 ⟨rfl,rfl,rfl,by simp,fun k _ hn=>World.putObj_heap_other (fun e=>hn (by rw[e];exact h)),fun _ _=>rfl,fun _ h=>.inl h,fun e=>hL e.symm⟩
theorem ie{N:Nat}{st:St}{O:Nat->Nat}{w w':ka}{L:Nat}{I:(Nat->Nat)->ka->Prop}{Ix:IT->(Nat->Nat)->ka->Prop}(O':Nat->Nat)(h:Upd (fun j=>j≠0/\j≠L) O w O' w')(h2:I O' w'):
 QI N [] (yU O w L I Ix) .normal st w':=fun _ _=>⟨O',h,h2⟩
theorem uG{N:Nat}{st:St}{O:Nat->Nat}{w w':ka}{L:Nat}{I:(Nat->Nat)->ka->Prop}{Ix:IT->(Nat->Nat)->ka->Prop}(O':Nat->Nat)(h:Upd (fun j=>j≠0/\j≠L) O w O' w')(h2:Ix .ret O' w'):
 QI N [] (yU O w L I Ix) .ret st w':=fun _ _=>⟨O',h,h2⟩
structure Fixed(O:Nat->Nat)(w:ka)(q:Ie)(u:ix):Prop where
 cell:w.cell? q=some u
 free:O q.block=0
theorem Upd.zero{S:Nat->Prop}{O O':Nat->Nat}{w w':ka}(h:Upd S O w O' w'){b:Nat}(hb:b<w.heap.size)(h0:O b=0):O' b=0:=
 GT fun a0=>by
  rcases h.new b a0 with h1|h1
  ·exact h1 h0
  omega
theorem Fixed.upd{S:Nat->Prop}{O O':Nat->Nat}{w w':ka}{q:Ie}{u:ix}(h:Fixed O w q u)(k:Upd S O w O' w'):Fixed O' w' q u:=by
 have a0:=J3 w q h.cell;have hb:=k.blk q.block a0 (by rw[h.free];exact k.z);refine⟨?_,k.zero a0 h.free⟩;have:=h.cell;unfold L9 at this ⊢;rw[hb];exact this
end
end Go.VL
section
namespace Go.VL
open Go.Proofs.Tryz
open Go.RowKit
section
variable{P:G7}{N:Nat}{ops:Array GU}{Q:I9→Iq→ka→Prop}{rest:List GU}{st:St}{w:ka}
variable{t:ln}{p:String}{e:Array IJ}{d:Nat}{x y z:G2}
theorem RV.ext{f:J1}{args:List G2}{a1:Array ln}{vs:List ix}{v:ix}(hr:(callFunc f vs.toArray).run P w=.ok (.value v) w)(a0:evs st args=some vs):
 RV P N (.call ⟨.value (.func f),args.toArray,a1⟩) t st w v:=fun a ha a2 p e g=>by
 simp only[execOp,resolve,It,G9];rw[ha.evs a0];simp[II,invoke,hr]
end
section
variable{P:G7}{N:Nat}{ops:Array GU}{Q:I9→Iq→ka→Prop}{rest:List GU}{st:St}{w:ka}
variable{t:ln}{p:String}{e:Array IJ}{d:Nat}{x y z:G2}
theorem qB{T E:ln}{len sz:Nat}{k:GR}{i:Int}{q:Ie}(hu:P.underlying T=some (.array len E))(hE:(Ib E).run P w=.ok sz w) 
  (hx:ev st x=some (.pointer (some q))) (hy:ev st y=some (.int k i)) (n:Nat) (hi:i=n) (hn:n<len):RV P N (.indexAddr T x y) t st w (.pointer (some (q.add (n*sz)))):=
 fun a ha a0 p e g=>by
  subst hi;have h2:((n:Int)<(len:Int)):=zo;simp only[execOp,ha.ev hx,ha.ev hy];simp[JW,Ii,asIntOf,run_underlying hu,hE];intro h3;omega
theorem jb{T E:ln}{len:Nat}{k:GR}{i:Int}{q:Ie}(hu:P.underlying T=some (.array len E))(hE:(Ib E).run P w=.ok 1 w) 
  (hx:ev st x=some (.pointer (some q))) (hy:ev st y=some (.int k i)) (n:Nat) (hi:i=n) (hn:n<len):RV P N (.indexAddr T x y) t st w (.pointer (some (q.add n))):=by
 have h:=qB (N:=N) (t:=t) hu hE hx hy n hi hn
 rwa[JD]at h
theorem bj{xt:ln}{a:List UInt8}{k:GR}{m:Int}{c:UInt8}(hT:P.underlying xt=some .string)(hx:ev st x=some (.string (bs a)))(hy:ev st y=some (.int k m))(i:Nat)(hm:m=i)(hi:a[i]? = some c):RV P N (.index xt x y) t st w (.int .u8 (c.toNat:Int)):=by
 obtain⟨h1,h2⟩:=GV.1 hi;have h:=AV (P:=P) (N:=N) (t:=t) (w:=w) hT hx hy i hm h1;rw[az h1,h2]at h;exact h
theorem dD{T E:ln}{n sz:Nat}{parts:List (Nat×G2)}{vs:List (Nat×ix)}{z:ix}{cells:Array ix}(hu:P.underlying T=some (.array n E))(hE:(Ib E).run P w=.ok sz w)(hz:(IV T).run P w=.ok z w) 
  (hv:evp st parts=some vs) (hf:IZ (fun i=>some (i*sz,sz)) z.cells vs=some cells):RV P N (.build T parts.toArray) t st w (.agg cells):=
 fun a ha a0 p e g=>by
  have h1:=ha.evp hv;have e1:(JS (fun x:Nat×G2=>match x with|(i,x)=>(i,a.eval x)) parts)=vs:=by rw[<-h1]
  simp only[execOp,Lb,G9,e1,G5,hz,G1,run_underlying hu,hE,hf,I2]
theorem uB{T E:ln}{n sz:Nat}{q:Ie}(hu:P.underlying T=some (.array n E))(hE:(Ib E).run P w=.ok sz w)(_:n≠0)(hx:ev st x=some (.pointer (some q))):RV P N (.slice T x none none none) t st w (.slice (some q) n n):=
 fun a ha a0 p e g=>by
  simp only[execOp,ha.ev hx,Il];simp[Instr.sliceAt,Instr.sliceBounds,Ii,run_underlying hu,hE,I4]
end
abbrev mU(b:UInt8):List ix:=[.int .u8 (b.toNat:Int)]
section
variable{P:G7}{N:Nat}{st:St}{w:ka}{fn:Li}{R:ix→ka→Prop}
theorem cu{t u o:Lu}{T:ln}{q:Ie}{us:List ix}{v' v2:ix}(hr:fn.results = #[.cell t T,.tmp u,.tmp o])(hv:cm st t=some (.pointer (some q)))(a1:cm st u=some v')(a0:cm st o=some v2) 
  (hc:∀j u,us[j]? = some u->w.cell? (q.add j)=some u) (hT:(KS T).run P w=.ok true w) (hn:(Ib T).run P w=.ok us.length w) (h:R (.tuple #[.agg us.toArray,v',v2]) w):QF N (RP P fn R) .ret st w:=fun a ha=>
 ⟨ha.defers,_,by have h1:=ha.get _ _ hv;have h2:=ha.get _ _ a1;have h3:=ha.get _ _ a0;simp[results,hr,G4,h1,h2,h3,asAddr,de hc hT hn],h⟩
end
end Go.VL
namespace Go.VL
open Go.Proofs.Tryz
section
variable{P:G7}{N:Nat}{ops:Array GU}{Q:I9→Iq→ka→Prop}{rest:List GU}{st:St}{w:ka}
variable{t:ln}{p:String}{e:Array IJ}{d:Nat}{x y z:G2}
theorem aI{T E:ln}{sz a0:Nat}(he:Elem P T E sz a0){α:Type}{enc:α->List ix}(u:α){xv:ix}(hx:ev st x=some xv)(a2:xv.cells.toList=enc u)(a4:(enc u).length=sz)(hs:sz<=16777216)(hd:G0 d N=true) 
  (h:∀w',Sl enc sz w' (.slice (some ⟨w.heap.size,0,none⟩) 1 1) [u]->Ext w w'->WL P N ops Q rest ((d,.slice (some ⟨w.heap.size,0,none⟩) 1 1)::st) w'):WL P N ops Q (⟨some d,.buildSlice T 1 #[(0,x)],t,p,e,none⟩::rest) st w:=by
 obtain⟨a3,z,hi,hz,a1,a8,a7⟩:=he.parts;have a6:xv.cells.size=sz:=by rw[<-a4,<-a2];simp
 have a5:=he.pos;refine WL.val (v:=.slice (some ⟨w.heap.size,0,none⟩) 1 1) (w':=w.alloc (.cells xv.cells E)) hd (fun a ha=>?_) (h _ ⟨⟨_,1,rfl,GS _,by simp,fun _=>⟨_,_,rfl⟩⟩,fun i hi j c hc=>?_⟩ (Ext.alloc _ _))
 ·have:=run_buildSlice (P:=P) w T E 1 #[(0,xv)] xv.cells a3 z he.ht hi hz (by rw[a1];omega) (by rw[a1];omega) (by
   rw[a1]
   exact jX a6 (by simp))
  simp only[execOp,G9,GW,If,ha.ev hx,G5,this,G1];rfl
 obtain rfl:i=0:=by simpa using hi
 simp only[Ip]at hc;simp only[adr,Jy,Kc];rw[show((⟨w.heap.size,0,none⟩:Ie).add j)=⟨w.heap.size,j,none⟩from by simp only[I4];split<;>simp_all,cell_of_row _ _ j xv.cells E (0,0) (heap_alloc_new w _)];rw[<-a2]at hc;simpa using hc
end
end Go.VL
end
section
namespace Go.VL
open Go.Proofs.Tryz
theorem Free.weak{O O':Nat->Nat}{w:ka}{v:ix}(h:Free O' w v)(k:∀b,O' b=0->O b=0):Free O w v:=fun a n c e hn=>⟨k _ (h a n c e hn).1,(h a n c e hn).2⟩
theorem Upd.z0{S:Nat->Prop}{O O':Nat->Nat}{w w':ka}(h:Upd S O w O' w')(b:Nat)(e:O' b=0):O b=0:=
 GT fun a0=>by have:=h.tag b a0;omega
theorem Rng.bound{B:Nat}{O:Nat->Nat}{w:ka}(r:Rng B O w):∃T,0<T/\∀b,O b<T:=by
 have h:∀n,∃T,0<T/\∀b,b<n->O b<T:=fun n=>by
  induction n with
  |zero=>exact⟨1,zo,fun b hb=>zo⟩
  |succ n ih=>
   obtain⟨T,h0,hT⟩:=ih;refine⟨T+O n+1,zo,fun b hb=>?_⟩
   by_cases e:b=n
   ·subst e;omega
   have:=hT b (zo);omega
 obtain⟨T,h0,hT⟩:=h w.heap.size;refine⟨T,h0,fun b=>?_⟩
 by_cases e:O b=0
 ·omega
 exact hT b (r.rng b e).2
theorem Upd.fgt{S S':Nat->Prop}{O O2:Nat->Nat}{w w':ka}(h:Upd S O w O2 w')(hS:∀b,S (O b)->S' (O b))(hz:¬S' 0):Upd S' O w O w':=
 ⟨h.os,h.tape,h.output,h.size,fun b hb hn=>h.blk b hb fun hs=>hn (hS b hs),fun _ _=>rfl,fun _ h=>.inl h,hz⟩
theorem BlkO.fgt{O O2:Nat->Nat}{w:ka}{i j b:Nat}{cs:Array ix}{E:ln}(h:BlkO O2 w j b cs E)(ho:O b=i):BlkO O w i b cs E:=⟨h.blk,ho⟩
theorem RowT.freeT{α:Type}{enc:α->List ix}{E:ln}{sz:Nat}{S:Nat->Prop}{O O':Nat->Nat}{w w':ka}{T:Nat}{v:ix}{l:List α}(h:RowT enc E sz O' w' T v l)(a1:0<T)(hT:∀b,O b<T){B:Nat}(r:Rng B O' w')(u:Upd S O w O' w'):Free O w' v:=fun a n c e _=>by
 have h1:=h.1.tag a.block (by subst e;rfl);have h2:=r.rng a.block (by rw[h1];omega);refine⟨GT fun a0=>?_,h2.2⟩;have:=u.tag _ a0;have:=hT a.block;omega
end Go.VL
namespace Go.Proofs.YtpfpmhhigheccaaGreatDoor
open Go.Proofs.Tryz
open Go.VL Go.Proofs
inductive Nd where|mk(k c:Int)(kids:List Nd)
instance:Inhabited Nd:=⟨.mk 0 0 []⟩
def Nd.kind:Nd->Int | .mk k _ _=>k
def Nd.cls:Nd->Int | .mk _ c _=>c
def Nd.kids:Nd->List Nd | .mk _ _ l=>l
mutual
def nsz:Nd->Nat | .mk _ _ l=>dq l+1
def dq:List Nd->Nat | []=>0|t::r=>nsz t+dq r
end
theorem dB(t:Nd):0<nsz t:=by cases t;simp[nsz]
theorem cj:∀(l:List Nd) (i:Nat),i<l.length->nsz (nth l i)<=dq l
 |t::r,0,_=>by rw[ax];simp[dq]
 |t::r,i+1,h=>by rw[bA];have:=cj r i (by simpa using h);simp only[dq];omega
theorem jh:∀(a b:List Nd),dq (a++b)=dq a+dq b
 |[],b=>by simp[dq]
 |t::a,b=>by simp only[IN,dq];rw[jh a b];omega
theorem cp(l:List Nd)(i:Nat):dq (l.take i)<=dq l:=by
 conv=>rhs;rw[<-Iu i l]
 rw[jh];omega
theorem dL(l:List Nd)(i:Nat)(h:i<l.length):dq (l.take (i+1))=dq (l.take i)+nsz (nth l i):=by
 rw[aH h,jh];simp[dq]
theorem eC:∀(l:List Nd),l.length<=dq l
 |[]=>by simp
 |t::r=>by have:=eC r;have:=dB t;simp only[dq,I5];omega
abbrev N3:=Int×Int×ix
@[simp] def aX(x:N3):List ix:=[nI x.1,nI x.2.1,x.2.2]
inductive Nt(O:Nat->Nat)(w:ka):Nd->N3->Prop
 |mk {k c:Int} {kids:List Nd} {v:ix} {xs:List N3}:Sl aX 3 w v xs->Free O w v->kids.length=xs.length->(∀i,i<xs.length->Nt O w (nth kids i) (nth xs i))->Nt O w (.mk k c kids) (k,c,v)
theorem Nt.upd{S:Nat->Prop}{O O':Nat->Nat}{w w':ka}{t:Nd}{x:N3}(h:Nt O w t x)(u:Upd S O w O' w'):Nt O' w' t x:=by
 induction h with
 |mk hs hf hl _ ih=>exact .mk (hs.upd hf u) (hf.upd u) hl ih
theorem Nt.drew{O:Nat->Nat}{w:ka}{t:Nd}{x:N3}(h:Nt O w t x):Nt O w.drew t x:=h.upd (aa (S:=fun _=>False) (fun h=>h) O (Ext.refl w).drew)
theorem Nt.ext{O:Nat->Nat}{w w':ka}{t:Nd}{x:N3}(h:Nt O w t x)(e:Ext w w'):Nt O w' t x:=h.upd (aa (S:=fun _=>False) (fun h=>h) O e)
theorem Nt.weak{O O':Nat->Nat}{w:ka}{t:Nd}{x:N3}(h:Nt O' w t x)(k:∀b,O' b=0->O b=0):Nt O w t x:=by
 induction h with
 |mk hs hf hl _ ih=>exact .mk hs (hf.weak k) hl ih
theorem Nt.low{S:Nat->Prop}{O O':Nat->Nat}{w w0 w':ka}{t:Nd}{x:N3}(h:Nt O' w' t x)(u:Upd S O w O' w0):Nt O w' t x:=h.weak u.z0
theorem Nt.zero{O:Nat->Nat}{w:ka}{t:Nd}{x:N3}(h:Nt O w t x):Nt (fun _=>0) w t x:=h.weak fun _ _=>rfl
theorem Nt.one{O:Nat->Nat}{w:ka}{t:Nd}{x:N3}(h:Nt O w t x):x.2.2.oneCell'=true:=by cases h with|mk hs=>exact hs.one
theorem Nt.leaf(O:Nat->Nat)(w:ka)(k c:Int):Nt O w (.mk k c []) (k,c,nS):=
 .mk (xs:=[]) ⟨⟨none,0,rfl,GS _,zo,fun h=>absurd rfl h⟩,fun i hi=>absurd hi (by simp)⟩ (fun a n c e=>by cases e) rfl (fun i hi=>absurd hi (by simp))
theorem Nt.kind{O:Nat->Nat}{w:ka}{t:Nd}{x:N3}(h:Nt O w t x):x.1=t.kind:=by cases h;rfl
theorem Nt.kids{O:Nat->Nat}{w:ka}{t:Nd}{x:N3}(h:Nt O w t x):∃xs:List N3,Sl aX 3 w x.2.2 xs/\Free O w x.2.2/\t.kids.length=xs.length/\∀i,i<xs.length->Nt O w (nth t.kids i) (nth xs i):=by
 cases h with|mk hs hf hl hk=>exact⟨_,hs,hf,hl,hk⟩
def aj(b:UInt8):Bool:=(decide (65<=b.toNat)&&decide (b.toNat<=90))||(decide (97<=b.toNat)&&decide (b.toNat<=122))
def ao(r:List UInt8):List UInt8:=r.dropWhile (· == 32)
def namesL:List (List UInt8):=[[79,116,104,101,114],[67,82],[76,70],[78,101,119,108,105,110,101],[67,111,110,116,114,111,108],[69,120,116,101,110,100],[90,87,74],[70,111,114,109,97,116],[82,101,103,105,111,110,97,108],[80,114,101,112,101,110,100],[83,112,97,99,105,110,103],[76],[86],[84],[76,86],[76,86,84],[80,105,99,116],[85,112,112,101,114],[76,111,119,101,114],[76,101,116,116,101,114],[75,97,116,97,107,97,110,97],[73,100,101,111,103,114,97,112,104],[68,105,103,105,116],[77,105,100,76,101,116,116,101,114],[77,105,100,78,117,109],[68,111,116],[65,112,111,115,116,114,111,112,104,101],[81,117,111,116,101],[74,111,105,110,101,114],[83,112,97,99,101],[84,101,114,109],[79,112,101,110],[67,108,111,115,101],[72,121,112,104,101,110],[71,108,117,101],[71,97,112]]
def zq(s:List UInt8):Option Nat:=namesL.findIdx? (· == s)
inductive PR where
 |ok (t:Nd) (r:List UInt8)
 |bad (p:Nat) (e:Int)
def du(kind:Int)(r0:List UInt8):PR:=
 if aj ((ao r0).headD 0)=true then
  match zq ((ao r0).takeWhile aj)with
  |none=>.bad (ao r0).length 5
  |some c=>.ok (.mk kind (c:Nat) []) ((ao r0).dropWhile aj)
 else .bad (ao r0).length 4
def Fe(r:List UInt8):PR:=if r.takeWhile aj=[97,110,121]then .ok (.mk 1 0 []) (r.dropWhile aj)else du 0 r
def bW(al:Option (List UInt8->PR))(r:List UInt8):PR:=
 match al with
 |none=>.bad r.length 6
 |some f=>
  match f r.tail with
  |.bad p e=>.bad p e
  |.ok t r2=>if(ao r2).headD 0=41 then .ok t (ao r2).tail else .bad (ao r2).length 4
def Gb(al:Option (List UInt8->PR))(r0:List UInt8):PR:=
 if aj ((ao r0).headD 0)=true then Fe (ao r0)
 else if(ao r0).headD 0=126 then du 2 (ao r0).tail
 else if(ao r0).headD 0=94 then .ok (.mk 3 0 []) (ao r0).tail
 else if(ao r0).headD 0=40 then bW al (ao r0)
 else .bad (ao r0).length 4
def opM(c:UInt8):Option Nat:=if c=42 then some 0 else if c=43 then some 1 else if c=63 then some 2 else none
def Cl(al:Option (List UInt8->PR))(r0:List UInt8):PR:=
 match Gb al r0 with
 |.bad p e=>.bad p e
 |.ok t r1=>
  match opM ((ao r1).headD 0)with
  |some k=>.ok (.mk (6+(k:Nat)) 0 [t]) (ao r1).tail
  |none=>.ok t (ao r1)
def eH(c:UInt8):Bool:=aj c||decide (c=126)||decide (c=94)||decide (c=40)
def oneM(k:Int)(l:List Nd):Nd:=if l.length=1 then nth l 0 else .mk k 0 l
def yN(al:Option (List UInt8->PR)):Nat->List Nd->List UInt8->PR
 |0,acc,r=>.ok (oneM 4 acc) r
 |n+1,acc,r=>
  if eH ((ao r).headD 0)=true then
   match Cl al (ao r)with
   |.bad p e=>.bad p e
   |.ok t r2=>yN al n (acc++[t]) r2
  else .ok (oneM 4 acc) (ao r)
def Gp(al:Option (List UInt8->PR))(r:List UInt8):PR:=
 match Cl al r with
 |.bad p e=>.bad p e
 |.ok t r1=>yN al (r1.length+1) [t] r1
def vK(al:Option (List UInt8->PR)):Nat->List Nd->List UInt8->PR
 |0,acc,r=>.ok (oneM 5 acc) r
 |n+1,acc,r=>
  if(ao r).headD 0=124 then
   match Gp al (ao r).tail with
   |.bad p e=>.bad p e
   |.ok t r2=>vK al n (acc++[t]) r2
  else .ok (oneM 5 acc) (ao r)
def Fq(al:Option (List UInt8->PR))(r:List UInt8):PR:=
 match Gp al r with
 |.bad p e=>.bad p e
 |.ok t r1=>vK al (r1.length+1) [t] r1
def Fp:Nat->List UInt8->PR
 |0=>Fq none
 |d+1=>Fq (some (Fp d))
inductive XR where
 |ok (t:Nd)
 |bad (p:Nat) (e:Int)
def F7(l:List UInt8):XR:=
 if 4096<l.length then .bad 0 3 else
 match Fp 20 l with
 |.bad p e=>.bad (l.length-p) e
 |.ok t r=>if(ao r).length≠0 then .bad (l.length-(ao r).length) 4 else if 2000<nsz t then .bad 0 3 else .ok t
def Good(r:List UInt8):PR->Prop
 |.ok _ r'=>r' <:+ r/\r'.length<r.length
 |.bad p e=>p<=r.length/\e≠0
theorem aY(r:List UInt8):ao r <:+ r:=Iv _
theorem cZ(r:List UInt8):(ao r).length<=r.length:=(aY r).length_le
theorem bU{r:List UInt8}(h:r.headD 0≠0):r.tail <:+ r/\r.tail.length+1=r.length:=by
 cases r with
 |nil=>simp at h
 |cons a r=>exact⟨J5 a r,rfl⟩
theorem Good.mono{r r':List UInt8}{x:PR}(h:Good r' x)(k:r' <:+ r):Good r x:=by
 have hl:=k.length_le
 cases x with
 |ok t q=>exact⟨h.1.trans k,by have:=h.2;omega⟩
 |bad p e=>exact⟨IY h.1 hl,h.2⟩
theorem jj{r:List UInt8}(h:aj (r.headD 0)=true):r.dropWhile aj <:+ r/\(r.dropWhile aj).length<r.length:=by
 cases r with
 |nil=>simp[aj]at h
 |cons a r=>
  simp only[List.headD_cons]at h;rw[JU h];exact⟨(Iv _).trans (J5 a r),by have:=(Iv (l:=r) aj).length_le;simp;omega⟩
theorem mY(k:Int)(r:List UInt8):Good r (du k r):=by
 refine Good.mono ?_ (aY r);unfold du
 split
 ·rename_i h
  split
  ·exact⟨GS _,zd⟩
  exact jj h
 exact⟨GS _,zd⟩
def lQ(al:Option (List UInt8->PR)):Prop:=∀f,al=some f->∀r,Good r (f r)
theorem oh{al:Option (List UInt8->PR)}(ha:lQ al)(r:List UInt8)(h:r.headD 0≠0):Good r (bW al r):=by
 obtain⟨h1,h2⟩:=bU h;unfold bW
 cases al with
 |none=>exact⟨GS _,zd⟩
 |some f=>
  have h3:=(ha f rfl r.tail).mono h1;have h4:=ha f rfl r.tail;dsimp only
  cases hf:f r.tail with
  |bad p e=>rw[hf]at h3;exact h3
  |ok t r2=>
   rw[hf]at h3 h4;dsimp only
   split
   ·rename_i hc;obtain⟨g1,g2⟩:=bU (r:=ao r2) (by rw[hc];decide);exact⟨(g1.trans (aY r2)).trans h3.1,by have:=cZ r2;have:=h3.2;omega⟩
   exact⟨by have:=cZ r2;have:=h3.2;omega,zd⟩
theorem Cj{c:UInt8}{k:Nat}(h:opM c=some k):c≠0:=fun e=>by subst e;simp[opM]at h
def FC(r:List UInt8):PR->Prop
 |.ok _ r'=>r' <:+ r
 |.bad p e=>p<=r.length/\e≠0
end Go.Proofs.YtpfpmhhigheccaaGreatDoor
end
section
namespace Go.VL
open Go.Proofs.Tryz
theorem Upd.priv{j T:Nat}{O O':Nat->Nat}{w w':ka}(h:Upd (fun k=>k=j\/T<=k) O w O' w')(hT:∀b,O b<T)(hj:j≠0):Upd (fun k=>k=j) O w O w':=
 h.fgt (fun b hb=>hb.resolve_right (by have:=hT b;omega)) (fun e=>hj e.symm)
theorem Upd.pj{j T:Nat}{O O':Nat->Nat}{w w':ka}(h:Upd (fun k=>k=j) O w O' w')(hT:0<T):Upd (fun k=>k=j\/T<=k) O w O' w':=
 h.mono (fun _ h=>.inl h) (fun e=>by rcases e with e|e;exact h.z e;omega)
theorem Upd.pT{j T U:Nat}{O O':Nat->Nat}{w w':ka}(h:Upd (fun k=>k=U) O w O' w')(hj:j≠0)(hT:0<T)(hU:T<=U):Upd (fun k=>k=j\/T<=k) O w O' w':=
 h.mono (fun _ h=>.inr (by rw[h];exact hU)) (fun e=>by rcases e with e|e;exact hj e.symm;omega)
theorem iZ{j T:Nat}{w w':ka}(O:Nat->Nat)(h:Ext w w')(hj:j≠0)(hT:0<T):Upd (fun k=>k=j\/T<=k) O w O w':=
 aa (fun e=>by rcases e with e|e;exact hj e.symm;omega) O h
def rdr(kv:ix)(l:List UInt8)(a op bad e:Int):Array ix:=#[.string (bs l),nI a,kv,nI op,nI bad,nI e]
variable{kv:ix}
theorem BlkO.rAt{O:Nat->Nat}{w:ka}{j rb:Nat}{l:List UInt8}{a op bad e:Int}{E:ln}(h:BlkO O w j rb (rdr kv l a op bad e) E)(a':Int):BlkO O (w.setCell ⟨rb,1,none⟩ (nI a')) j rb (rdr kv l a' op bad e) E:=h.set 1 _
theorem BlkO.rOp{O:Nat->Nat}{w:ka}{j rb:Nat}{l:List UInt8}{a op bad e:Int}{E:ln}(h:BlkO O w j rb (rdr kv l a op bad e) E)(a':Int):BlkO O (w.setCell ⟨rb,3,none⟩ (nI a')) j rb (rdr kv l a a' bad e) E:=h.set 3 _
theorem BlkO.rBad{O:Nat->Nat}{w:ka}{j rb:Nat}{l:List UInt8}{a op bad e:Int}{E:ln}(h:BlkO O w j rb (rdr kv l a op bad e) E)(a':Int):BlkO O (w.setCell ⟨rb,4,none⟩ (nI a')) j rb (rdr kv l a op a' e) E:=h.set 4 _
theorem BlkO.rE{O:Nat->Nat}{w:ka}{j rb:Nat}{l:List UInt8}{a op bad e:Int}{E:ln}(h:BlkO O w j rb (rdr kv l a op bad e) E)(a':Int):BlkO O (w.setCell ⟨rb,5,none⟩ (nI a')) j rb (rdr kv l a op bad a') E:=h.set 5 _
theorem BlkO.r0{O:Nat->Nat}{w:ka}{j rb:Nat}{l:List UInt8}{a op bad e:Int}{E:ln}(h:BlkO O w j rb (rdr kv l a op bad e) E):w.cell? ⟨rb,0,none⟩=some (.string (bs l)):=h.cell 0 rfl
theorem BlkO.r1{O:Nat->Nat}{w:ka}{j rb:Nat}{l:List UInt8}{a op bad e:Int}{E:ln}(h:BlkO O w j rb (rdr kv l a op bad e) E):w.cell? ⟨rb,1,none⟩=some (nI a):=h.cell 1 rfl
theorem BlkO.r2{O:Nat->Nat}{w:ka}{j rb:Nat}{l:List UInt8}{a op bad e:Int}{E:ln}(h:BlkO O w j rb (rdr kv l a op bad e) E):w.cell? ⟨rb,2,none⟩=some kv:=h.cell 2 rfl
theorem BlkO.r3{O:Nat->Nat}{w:ka}{j rb:Nat}{l:List UInt8}{a op bad e:Int}{E:ln}(h:BlkO O w j rb (rdr kv l a op bad e) E):w.cell? ⟨rb,3,none⟩=some (nI op):=h.cell 3 rfl
theorem BlkO.r4{O:Nat->Nat}{w:ka}{j rb:Nat}{l:List UInt8}{a op bad e:Int}{E:ln}(h:BlkO O w j rb (rdr kv l a op bad e) E):w.cell? ⟨rb,4,none⟩=some (nI bad):=h.cell 4 rfl
theorem BlkO.r5{O:Nat->Nat}{w:ka}{j rb:Nat}{l:List UInt8}{a op bad e:Int}{E:ln}(h:BlkO O w j rb (rdr kv l a op bad e) E):w.cell? ⟨rb,5,none⟩=some (nI e):=h.cell 5 rfl
end Go.VL
namespace Go.Proofs.YtpfpmhhigheccaaGreatDoor
open Go.Proofs.Tryz
open Go.VL Go.Proofs
set_option maxRecDepth 10000
abbrev Rdr(kv:ix)(O:Nat->Nat)(w:ka)(j rb:Nat)(l:List UInt8)(a op bad e:Int):Prop:=BlkO O w j rb (rdr kv l a op bad e) 237
variable{kv:ix}
theorem ml{l r:List UInt8}{b:UInt8}(h:(b::r) <:+ l):l[l.length-(r.length+1)]? = some b:=by
 obtain⟨p,rfl⟩:=h;rw[JT (by simp)];simp
theorem yG{l a b:List UInt8}(h:(a++b) <:+ l):(l.take (l.length-b.length)).drop (l.length-(a++b).length)=a:=by
 obtain⟨p,rfl⟩:=h;rw[<-Jv,List.take_left' (by simp;omega),List.drop_left' (by simp)]
theorem nf(b:UInt8)(k:Nat)(hk:k<256):((b.toNat:Int)==(k:Int))=decide (b=Ka k):=by
 by_cases h:b=Ka k
 ·subst h;simp;omega
 have:b.toNat≠k:=fun e=>h (by rw[<-e];simp)
 simp[h];omega
theorem iA(c:UInt8)(w:ka):Ret G6 202 [.int .u8 (c.toNat:Int)] w fun v w'=>v=.bool (aj c)/\w'=w:=by
 refine Ret.enter func202 ntmps202 rfl rfl ?_;refine zh ?_
 by_cases h1:65<=c.toNat
 ·refine au (d:=5) rfl (b':=true) (decide_eq_true zo) ?_;refine zh ?_
  by_cases h2:c.toNat<=90
  ·refine au (d:=9) rfl (b':=true) (decide_eq_true zo) ?_;refine zh ?_
   refine af rfl rfl (⟨by simp[aj,h1,h2],rfl⟩)
  refine au (d:=9) rfl (b':=false) (decide_eq_false zo) ?_;refine zh ?_
  by_cases h3:97<=c.toNat
  ·refine au (d:=12) rfl (b':=true) (decide_eq_true zo) ?_;refine zh ?_
   have e:decide ((c.toNat:Int)<=122)=decide (c.toNat<=122):=decide_eq_decide.2 zo;refine af rfl rfl (⟨by rw[e];simp[aj,h1,h2,h3],rfl⟩)
  refine au (d:=12) rfl (b':=false) (decide_eq_false zo) ?_;refine zh ?_
  refine af rfl rfl (⟨by simp[aj,h1,h2,h3],rfl⟩)
 refine au (d:=5) rfl (b':=false) (decide_eq_false zo) ?_;refine zh ?_
 refine au (d:=12) rfl (b':=false) (decide_eq_false zo) ?_;refine zh ?_
 have h3:¬97<=c.toNat:=zo;refine af rfl rfl (⟨by simp[aj,h1,h3],rfl⟩)
theorem xP(O:Nat->Nat)(w:ka)(j rb:Nat)(l r:List UInt8)(op bad e:Int)(hj:j≠0)(hr:r <:+ l)(hl:l.length<=100000)(h:Rdr kv O w j rb l ((l.length:Int)-(r.length:Int)) op bad e):
  Ret G6 168 [nP rb] w fun _ w'=>Rdr kv O w' j rb l ((l.length:Int)-((ao r).length:Int)) op bad e/\Upd (fun k=>k=j) O w O w':=by
 have hz:¬(fun k:Nat=>k=j) 0:=fun e=>hj e.symm
 refine Ret.enter func168 ntmps168 rfl rfl ?_;refine zh ?_
 refine zlp (fun x:List UInt8×ka=>[(0,nP rb)]) (fun x=>x.2) (fun x=>x.1 <:+ l/\ao x.1=ao r/\Rdr kv O x.2 j rb l ((l.length:Int)-(x.1.length:Int)) op bad e/\Upd (fun k=>k=j) O w O x.2) (fun x=>x.1.length) (r,w) (⟨hr,rfl,h,Upd.refl hz _ _⟩) ?_;rintro⟨r1,w1⟩ ⟨a2,a1,a4,a3⟩;dsimp only at a2 a1 a4 a3 ⊢;have a0:=a4.drew;have a6:=a2.length_le;refine zh ?_
 refine WC.still zk zk ?_;refine zh ?_
 refine zwH (RV.ld a0.r1 rfl) ?_;refine zw (RV.ld a0.r0 rfl) ?_
 refine zwH (bZ IK rfl) ?_
 cases r1 with
 |nil=>
  refine cz (d:=12) rfl (b':=false) (decide_eq_false (by simp)) ?_;refine zh ?_
  refine zw (bh rfl rfl) ?_;refine WS.nil ?_
  refine zh ?_;refine zFH rfl rfl ?_
  refine aG rfl (⟨by rw[<-a1];exact a0,a3.drew⟩)
 |cons b r2=>
  simp only[I5]at a6 a0;refine cz (d:=12) rfl (b':=true) (decide_eq_true (by simp only[I5];omega)) ?_;refine zh ?_;refine zwH (RV.ld a0.r0 rfl) ?_;refine zwH (RV.ld a0.r1 rfl) ?_;refine zwH (bj (c:=b) IK rfl rfl (l.length-(r2.length+1)) zo (ml a2)) ?_;refine zw (bz rfl rfl) ?_;refine WS.nil ?_;refine zh ?_;refine zC ?_ ?_
  ·intro hb;replace hb:b=32:=by rw[show(32:Int)=((32:Nat):Int)from rfl,nf b 32 zd]at hb;simpa using hb
   subst hb;refine zh ?_;refine zvH (RV.ld a0.r1 rfl) ?_;refine ak (j:=1) a0 rfl (I8 _) rfl rfl rfl rfl ?_;rw[show((l.length:Int)-((r2.length+1:Nat):Int))+1=(l.length:Int)-(r2.length:Int)from by omega];have a7:=a0.rAt ((l.length:Int)-(r2.length:Int));have a8:Upd (fun k=>k=j) O w1.drew O (w1.drew.setCell ⟨rb,1,none⟩ (nI ((l.length:Int)-(r2.length:Int)))):=Upd.set hz a0.tag rfl;refine zh ?_;refine zx (r2,w1.drew.setCell ⟨rb,1,none⟩ (nI ((l.length:Int)-(r2.length:Int)))) (⟨(J5 _ _).trans a2,by rw[<-a1];simp[ao],a7,a3.drew.trans a8⟩) (by dsimp only;simp)
  intro hb;replace hb:b≠32:=by rw[show(32:Int)=((32:Nat):Int)from rfl,nf b 32 zd]at hb;simpa using hb
  have a5:ao (b::r2)=b::r2:=by simp[ao,hb]
  refine zh ?_;refine aG rfl (⟨by rw[<-a1,a5];exact a0,a3.drew⟩)
theorem vo{l r:List UInt8}(hr:r <:+ l)(h:r≠[]):l[l.length-r.length]? = some (r.headD 0):=by
 cases r with
 |nil=>exact absurd rfl h
 |cons b r=>exact ml hr
theorem fE(O:Nat → Nat)(w:ka)(j rb:Nat)(l r:List UInt8)(op bad e:Int)(hj:j ≠ 0)(hr:r <:+ l)(hl:l.length ≤ 100000)(h:Rdr kv O w j rb l ((l.length:Int) - (r.length:Int)) op bad e):
    Ret G6 153 [.pointer (some ⟨rb, 0, none⟩)] w fun v w' => v = .int .u8 (((ao r).headD 0).toNat:Int) ∧ Rdr kv O w' j rb l ((l.length:Int) - ((ao r).length:Int)) op bad e ∧ Upd (fun k => k = j) O w O w' := by
  refine Ret.enter func153 ntmps153 rfl rfl ?_
  refine zh ?_
  refine zc call168 (xP O w j rb l r op bad e hj hr hl h) ?_
  rintro v w1 ⟨hb1, hU1⟩
  have hs := (aY r).trans hr
  have hsl := hs.length_le
  generalize ao r = q at *
  have hb2 := hb1.drew
  refine zh ?_
  refine WC.still (by kernel_rfl) (by kernel_rfl) ?_
  refine zh ?_
  refine zwH (RV.ld hb2.r1 rfl) ?_
  refine zw (RV.ld hb2.r0 rfl) ?_
  refine zwH (bZ IK rfl) ?_
  refine WS.nil ?_
  refine zh ?_
  refine zC ?_ ?_
  · intro he
    replace he : q = [] := List.eq_nil_of_length_eq_zero (by have : (l.length : Int) - (q.length : Int) = l.length := by simpa using he
                                                             omega)
    subst he
    refine zh ?_
    refine af rfl rfl (⟨rfl, hb2, hU1.drew⟩)
  · intro he
    replace he:q ≠ [] := fun e => by subst e; simp at he
    have hb3 := hb2.drew
    refine zh ?_
    refine WC.still (by kernel_rfl) (by kernel_rfl) ?_
    refine zh ?_
    refine zwH (RV.ld hb3.r0 rfl) ?_
    refine zw (RV.ld hb3.r1 rfl) ?_
    refine zwH (bj (c := q.headD 0) IK rfl rfl (l.length - q.length) (by omega) (vo hs he)) ?_
    refine WS.nil ?_
    refine zh ?_
    refine af rfl rfl (⟨rfl, hb3, hU1.drew.drew⟩)
theorem vd(O:Nat->Nat)(w:ka)(j rb:Nat)(l r:List UInt8)(op bad e:Int)(hj:j≠0)(hr:r <:+ l)(hl:l.length<=100000)(h:Rdr kv O w j rb l ((l.length:Int)-(r.length:Int)) op bad e):
  Ret G6 209 [nP rb] w fun v w'=>v=.string (bs (r.takeWhile aj))/\Rdr kv O w' j rb l ((l.length:Int)-((r.dropWhile aj).length:Int)) op bad e/\Upd (fun k=>k=j) O w O w':=by
 have hz:¬(fun k:Nat=>k=j) 0:=fun e=>hj e.symm
 refine Ret.enter func209 ntmps209 rfl rfl ?_;refine zh ?_
 refine zvH (RV.ld h.r1 rfl) ?_;refine zlp (fun x:List UInt8×ka=>[(0,nP rb),(3,nI ((l.length:Int)-(r.length:Int)))]) (fun x=>x.2) (fun x=>x.1 <:+ l/\x.1.dropWhile aj=r.dropWhile aj/\Rdr kv O x.2 j rb l ((l.length:Int)-(x.1.length:Int)) op bad e/\Upd (fun k=>k=j) O w O x.2) (fun x=>x.1.length) (r,w) (⟨hr,rfl,h,Upd.refl hz _ _⟩) ?_
 rintro⟨r1,w1⟩ ⟨a4,a3,a6,a5⟩;dsimp only at a4 a3 a6 a5 ⊢;have a0:=a6.drew;have a9:=a4.length_le;have a8:=hr.length_le;have a2:r1=r.dropWhile aj->(l.take (l.length-r1.length)).drop (l.length-r.length)=r.takeWhile aj:=fun e=>by
  have:=yG (l:=l) (a:=r.takeWhile aj) (b:=r.dropWhile aj) (by rw[Jz];exact hr);rw[Jz,<-e]at this;exact this
 have a':r1.length<=r.length\/r1≠r.dropWhile aj:=by
  by_cases e:r1=r.dropWhile aj
  ·left;rw[e];exact(Iv _).length_le
  right;exact e
 refine zh ?_;refine WC.still zk zk ?_
 refine zh ?_;refine zwH (RV.ld a0.r1 rfl) ?_
 refine zw (RV.ld a0.r0 rfl) ?_;refine zwH (bZ IK rfl) ?_
 cases r1 with
 |nil=>
  have a1:=a0.drew;have hd:[]=r.dropWhile aj:=by rw[<-a3];rfl
  have h1:=a2 hd;refine cz (d:=18) rfl (b':=false) (decide_eq_false (by simp)) ?_;refine zh ?_;refine zw (bh rfl rfl) ?_;refine WS.nil ?_;refine zh ?_;refine zFH rfl rfl ?_;refine WC.still zk zk ?_;refine zh ?_;refine zwH (RV.ld a1.r0 rfl) ?_;refine zw (RV.ld a1.r1 rfl) ?_;refine zwH (cQ IK rfl rfl rfl (l.length-r.length) (l.length-0) zo (by simp) zo zo) ?_;refine WS.nil ?_;refine zh ?_;simp only[KV]at h1;refine af rfl rfl (⟨by rw[h1],by rw[<-hd];exact a1,a5.drew.drew⟩)
 |cons b r2=>
  simp only[I5]at a9 a0;refine cz (d:=18) rfl (b':=true) (decide_eq_true (by simp only[I5];omega)) ?_;refine zh ?_;refine zwH (RV.ld a0.r0 rfl) ?_;refine zwH (RV.ld a0.r1 rfl) ?_;refine zwH (bj (c:=b) IK rfl rfl (l.length-(r2.length+1)) zo (ml a4)) ?_;refine WS.call call202 rfl (iA b w1.drew) rfl ?_;refine zw (bz rfl rfl) ?_;refine WS.nil ?_;refine zh ?_;refine zC ?_ ?_
  ·intro hb;replace hb:aj b=true:=hb;refine zh ?_;refine zvH (RV.ld a0.r1 rfl) ?_;refine ak (j:=1) a0 rfl (I8 _) rfl rfl rfl rfl ?_;rw[show((l.length:Int)-((r2.length+1:Nat):Int))+1=(l.length:Int)-(r2.length:Int)from by omega];have a1:=a0.rAt ((l.length:Int)-(r2.length:Int));have b0:Upd (fun k=>k=j) O w1.drew O (w1.drew.setCell ⟨rb,1,none⟩ (nI ((l.length:Int)-(r2.length:Int)))):=Upd.set hz a0.tag rfl;refine zh ?_;refine zx (r2,w1.drew.setCell ⟨rb,1,none⟩ (nI ((l.length:Int)-(r2.length:Int)))) (⟨(J5 _ _).trans a4,by rw[<-a3,JU hb],a1,a5.drew.trans b0⟩) (by dsimp only;simp)
  intro hb;replace hb:aj b=false:=hb;have a7:(b::r2).dropWhile aj=b::r2:=List.dropWhile_cons_of_neg (by rw[hb];decide);have hd:b::r2=r.dropWhile aj:=by rw[<-a3,a7]
  have h1:=a2 hd;have h2:=a'.resolve_right (fun e=>e hd);simp only[I5]at h1 h2;have a1:=a0.drew;refine zh ?_;refine WC.still zk zk ?_;refine zh ?_;refine zwH (RV.ld a1.r0 rfl) ?_;refine zw (RV.ld a1.r1 rfl) ?_;refine zwH (cQ IK rfl rfl rfl (l.length-r.length) (l.length-(r2.length+1)) zo zo zo zo) ?_;refine WS.nil ?_;refine zh ?_;refine af rfl rfl (⟨by rw[h1],by rw[<-hd];exact a1,a5.drew.drew⟩)
theorem uS:cL G6 86 #[(0,1),(1,1),(2,1)]:=⟨_,JG,fun w=>by kernel_rfl⟩
theorem fY(B:Nat)(O:Nat->Nat)(w:ka)(j rb:Nat)(l:List UInt8)(a op bad p e:Int)(hj:j≠0)(hR:Rng B O w)(h:Rdr kv O w j rb l a op bad 0):
  Ret G6 154 [nP rb,nI p,nI e] w fun v w'=>v=.agg #[nI 0,nI 0,nS]/\Rdr kv O w' j rb l a op p e/\Upd (fun k=>k=j) O w O w':=by
 obtain⟨T,a4,hT⟩:=hR.bound;have b3:j<T:=by rw[<-h.tag];exact hT rb
 refine Ret.enter func154 ntmps154 rfl rfl ?_;refine zh ?_
 refine ar hR T zo (IB _) rfl ?_;intro xb w1 O1 a8 a6 b4 b5;have a1:=h.upd a6 hj zo;refine zh ?_
 refine zvH (RV.ld a1.r5 rfl) ?_;refine zTH rfl rfl ?_
 refine ak (j:=4) a1 rfl (I8 _) rfl rfl rfl rfl ?_;have a3:=a1.rBad p;have b2:Upd (fun k=>k=j) O1 w1 O1 (w1.setCell ⟨rb,4,none⟩ (nI p)):=Upd.set (fun e=>hj e.symm) a1.tag rfl;refine zh ?_
 refine ak (j:=5) a3 rfl (Lo _) rfl rfl rfl rfl ?_;have a':=a3.rE e;have b1:Upd (fun k=>k=j) O1 (w1.setCell ⟨rb,4,none⟩ (nI p)) O1 ((w1.setCell ⟨rb,4,none⟩ (nI p)).setCell ⟨rb,5,none⟩ (nI e)):=Upd.set (fun e=>hj e.symm) a3.tag rfl;have a0:=b2.trans b1;have a2:=a8.upd a0 zo zo;generalize (w1.setCell ⟨rb,4,none⟩ (nI p)).setCell ⟨rb,5,none⟩ (nI e)=w3 at *;refine zh ?_
 refine zv (aE uS (IB _) rfl (by first|rfl|(simp only[IS,K7];rfl)) rfl rfl) ?_;refine zsa (us:=#[nI 0,nI 0,nS]) a2 (GY _) ?_
 have a7:=a2.setRow (us:=#[nI 0,nI 0,nS]);have a5:Upd (fun k=>k=T) O1 w3 O1 (w3.setRow xb #[nI 0,nI 0,nS]):=Upd.setRow zo a2.tag rfl;have a9:=a'.upd a5 hj zo;have b0:=((a6.pT hj a4 (GS _)).trans (a0.pj a4)).trans (a5.pT hj a4 (GS _));refine zh ?_;refine aJ rfl rfl (a7.cellsAdd) (IG _) (GY _) (⟨rfl,a9.fgt h.tag,b0.priv hT hj⟩)
end Go.Proofs.YtpfpmhhigheccaaGreatDoor
end
namespace Go.Proofs.YtpfpmhhigheccaaGreatDoor
open Go.Proofs.Tryz
section
open Go.VL Go.Proofs
set_option maxRecDepth 10000
def qJ(l:List UInt8)(c:UInt8):Int:=match l.findIdx? (· == c)with|some i=>(i:Nat)|none=>-1
theorem tZ(l:List UInt8)(c:UInt8):firstIdx (bs l) c=qJ l c:=by
 have a0:∀i,i<l.length->(bs l)[i]! = nth l i:=fun i hi=>by
  rw[az hi,getElem!_pos (bs l) i (by rw[cV];exact hi)];show l.toArray[i]=l[i];simp
 unfold firstIdx qJ;rw[cV]
 cases hf:l.findIdx? (· == c)with
 |none=>
  have h:=JV.1 hf;have:(Iy l.length).find? (fun i=>(bs l)[i]! == c)=none:=by
   rw[Jn];intro i hi;have a1:i<l.length:=by simpa using hi
   rw[a0 i a1,az a1,h _ (IM a1)];decide
  rw[this]
 |some i=>
  obtain⟨hi,h1,h2⟩:=Jq.1 hf;have:(Iy l.length).find? (fun i=>(bs l)[i]! == c)=some i:=by
   rw[List.find?_eq_some_iff_getElem];refine⟨by rw[a0 i hi,az hi];exact h1,i,by simpa using hi,by simp,fun j hj=>?_⟩;have:=h2 j hj;simp only[Ku];rw[a0 j zo,az zo];simpa using this
  rw[this]
theorem nX(l:List UInt8)(c:UInt8)(w:ka):(callFunc 129 #[.string (bs l),.int .u8 (c.toNat:Int)]).run G6 w=.ok (.value (nI (qJ l c))) w:=by
 rw[run_callFunc_extern func129 zk zk zk (e:=Ke) zk,run_indexByte_string,tZ];simp[Result.andThen]
theorem pH(l:List UInt8)(c:UInt8)(w:ka):Ret G6 102 [.string (bs l),.int .u8 (c.toNat:Int)] w fun v w'=>v=nI (qJ l c)/\w'=w:=by
 refine Ret.enter func102 ntmps102 rfl rfl ?_;refine zh ?_
 refine zvH (RV.ext (vs:=[.string (bs l),.int .u8 (c.toNat:Int)]) (nX l c w) rfl) ?_;refine af rfl rfl (⟨rfl,rfl⟩)
theorem dj(l:List UInt8)(c:UInt8)(w:ka):Ret G6 72 [.string (bs l),.int .u8 (c.toNat:Int)] w fun v w'=>v=nI (qJ l c)/\w'=w:=by
 refine Ret.enter func72 ntmps72 rfl rfl ?_;refine zh ?_
 refine zc call102 (pH l c w) ?_;rintro v _ ⟨rfl,rfl⟩;refine zh ?_
 refine af rfl rfl (⟨rfl,rfl⟩)
@[simp] def encS(x:List UInt8):List ix:=[.string (bs x)]
def Fg(l:List (List UInt8))(s:List UInt8):Int:=match l.findIdx? (· == s)with|some i=>(i:Nat)|none=>-1
theorem lz(l:List (List UInt8))(s:List UInt8)(sv:ix)(w:ka)(h:Sl encS 1 w sv l):Ret G6 157 [sv,.string (bs s)] w fun v w'=>v=nI (Fg l s)/\w'=w:=by
 have hl:=h.len_le;refine Ret.enter func157 ntmps157 rfl rfl ?_;refine zh ?_;refine zlp (fun x:Nat=>[(0,sv),(1,.string (bs s)),(7,nI l.length),(8,nI x)]) (fun x=>w) (fun x=>x<=l.length/\∀i,i<x->(nth l i==s)=false) (fun x=>l.length-x) 0 (⟨Im _,fun i hi=>absurd hi (JJ i)⟩) ?_;rintro k ⟨hk,a1⟩;refine zh ?_;refine zC ?_ ?_
 ·intro a0;replace a0:k<l.length:=dT a0;refine zh ?_;refine zv (RV.ld (h.ld (val:=fun x=>.string (bs x)) a0) rfl) ?_;refine zvH (cA rfl rfl) ?_;refine zC ?_ ?_
  ·intro hy;replace hy:s=nth l k:=by simpa using hy
   have hf:l.findIdx? (· == s)=some k:=Jq.2 ⟨a0,by rw[<-az a0,hy];simp,fun j hj=>by rw[<-az zo,a1 j hj];decide⟩;refine zh ?_;refine af rfl rfl (⟨by unfold Fg;rw[hf],rfl⟩)
  intro hy;replace hy:(nth l k==s)=false:=by
   rw[KI];intro e;rw[eq_of_beq e]at hy;simp at hy
  refine zh ?_;refine zxd (k+1) (⟨a0,fun i hi=>(JZ.1 hi).elim (a1 i) (fun e=>by rw[e];exact hy)⟩)
 intro a2;replace a2:l.length<=k:=dF a2;have hf:l.findIdx? (· == s)=none:=JV.2 fun x hx=>by
  obtain⟨j,hj,rfl⟩:=GQ hx;exact a1 j zo
 refine zh ?_;refine af rfl rfl (⟨by unfold Fg;rw[hf],rfl⟩)
def gI:Array ix:=(namesL.map fun s=>Jo (bs s)).toArray
theorem tK{O:Nat->Nat}{w:ka}{j b:Nat}(h:BlkO O w j b gI 241):Sl encS 1 w (.slice (some ⟨b,0,none⟩) 36 36) namesL:=by
 refine⟨⟨_,36,rfl,GS _,zd,fun _=>⟨_,_,rfl⟩⟩,fun i hi j u hu=>?_⟩;obtain rfl:j=0:=by
  have:=(GV.1 hu).1;simpa using this
 have a0:Jo (bs namesL[i])=u:=by simpa using hu
 have:=h.cell i (u:=u) (by rw[<-a0];unfold gI;simp[hi]);have e:((adr (.slice (some ⟨b,0,none⟩) 36 36) 1 i).add 0)=⟨b,i,none⟩:=by simp[adr,I4]
 exact(congrArg w.cell? e).trans this
theorem zD(w:ka):Ret G6 156 [] w fun v w'=>v=.agg gI/\Ext w w':=by
 refine Ret.enter func156 ntmps156 rfl rfl ?_;refine zh ?_
 refine ar (aw w) 1 zo (Kx _) rfl ?_;intro xb w1 O1 a0 a2 a4 a5;refine zh ?_
 refine zv (dD (cells:=gI) Lq (K4 _) (Kx _) rfl zk) ?_;refine aR (us:=gI) a0 zk (Lc _) zk rfl rfl rfl ?_
 have a1:=a0.setRow (us:=gI);have a3:Ext w (w1.setRow xb gI):=(a2.trans (Upd.setRow zd a0.tag rfl)).ext;refine zh ?_;refine aJ rfl rfl (a1.cellsAdd) (isAgg241 _) (Lc _) (⟨rfl,a3⟩)
def Cm(s:List UInt8):Int:=match zq s with|some c=>(c:Nat)|none=>0
theorem iz(s:List UInt8)(w:ka):Ret G6 133 [.string (bs s)] w fun v w'=>v=.tuple #[nI (Cm s),.bool (zq s).isSome]/\Ext w w':=by
 refine Ret.enter func133 ntmps133 rfl rfl ?_;refine zh ?_
 refine zc call156 (zD w) ?_;rintro v w1 ⟨rfl,a5⟩;refine ar (aw w1) 1 zo (Kx _) rfl ?_
 intro xb w2 O2 a0 a3 a6 a7;refine aR (us:=gI) a0 zk (Lc _) zk rfl rfl rfl ?_;have a1:=a0.setRow (us:=gI);have a4:Ext w1 (w2.setRow xb gI):=(a3.trans (Upd.setRow zd a0.tag rfl)).ext;have a2:=tK a1;generalize w2.setRow xb gI=w3 at *;refine zh ?_;refine zvH (uB Lq (K4 _) zd rfl) ?_;refine zc call157 (lz namesL s _ w3 a2) ?_;rintro v _ ⟨rfl,rfl⟩;refine zh ?_;refine zvH (ib rfl rfl) ?_;have h:Fg namesL s=match zq s with|some c=>(c:Nat)|none=>-1:=rfl
 refine bI rfl rfl rfl (⟨?_,a5.trans a4⟩);rw[h];unfold Cm
 cases zq s with
 |none=>rfl
 |some c=>simp
def nv(x:N3):ix:=.agg #[nI x.1,nI x.2.1,x.2.2]
def PostE(kv:ix)(O:Nat->Nat)(w:ka)(j rb:Nat)(l:List UInt8)(op:Int)(x:N3):PR->Prop
 |.ok t r=>Rdr kv O w j rb l ((l.length:Int)-(r.length:Int)) op 0 0/\Nt O w t x
 |.bad p e=>x.2.2.oneCell'=true/\∃a op',Rdr kv O w j rb l a op' ((l.length:Int)-(p:Int)) e/\0<=a/\a<=l.length+20-op/\op<=op'/\op'<=20
abbrev M3:=List UInt8×N3
def kB(m:M3):List ix:=[.string (bs m.1),nI m.2.1,nI m.2.2.1,m.2.2.2]
abbrev Kn:=List (List UInt8×Nd)
def KnownM(O:Nat->Nat)(w:ka)(kv:ix)(kn:Kn)(ms:List M3):Prop:=
 Sl kB 4 w kv ms/\Free O w kv/\kn.length=ms.length/\∀i,i<ms.length->(nth kn i).1=(nth ms i).1/\Nt O w (nth kn i).2 (nth ms i).2
def Known(O:Nat->Nat)(w:ka)(kv:ix)(kn:Kn):Prop:=∃ms:List M3,KnownM O w kv kn ms
theorem KnownM.upd{S:Nat->Prop}{O O':Nat->Nat}{w w':ka}{kv:ix}{kn:Kn}{ms:List M3}(h:KnownM O w kv kn ms)(u:Upd S O w O' w'):KnownM O' w' kv kn ms:=by
 obtain⟨h1,h2,h3,h4⟩:=h;exact⟨h1.upd h2 u,h2.upd u,h3,fun i hi=>⟨(h4 i hi).1,(h4 i hi).2.upd u⟩⟩
theorem Known.upd{S:Nat->Prop}{O O':Nat->Nat}{w w':ka}{kv:ix}{kn:Kn}(h:Known O w kv kn)(u:Upd S O w O' w'):Known O' w' kv kn:=by
 obtain⟨ms,h⟩:=h;exact⟨ms,h.upd u⟩
variable{kv:ix}{kn:Kn}
theorem bV{x:N3}(h:x.2.2.oneCell'=true):(#[nI x.1,nI x.2.1,x.2.2]:Array ix).toList.all Ih=true:=by
 simp only[IS,h];rfl
theorem elN:Elem G6 84 86 3 40:=⟨JH,by kernel_rfl,zd⟩
theorem gR{x:N3}(h:x.2.2.oneCell'=true):∀c∈aX x,c.oneCell'=true:=fun c hc=>by
 simp at hc
 rcases hc with rfl|rfl|rfl
 ·rfl
 ·rfl
 exact h
def Reads(kv:ix)(kn:Kn)(F:Nat)(ex:List ix)(op:Int)(M:List UInt8->PR)(Pre:List UInt8->Prop):Prop:=
 ∀(B:Nat) (O:Nat->Nat) (j rb:Nat) (l r:List UInt8) (w:ka),Rng B O w->j≠0->r <:+ l->l.length<=4096->Pre r->Rdr kv O w j rb l ((l.length:Int)-(r.length:Int)) op 0 0->Known O w kv kn->
  Ret G6 F (nP rb::ex) w fun v w'=>∃x,v=nv x/\Upd (fun k=>k=j) O w O w'/\PostE kv O w' j rb l op x (M r)
theorem sD(kind op:Int)(d1:0<=op/\op<=20):Reads kv kn 207 [nI kind] op (du kind) (fun _=>True):=by
 intro B O j rb l r w hR hj hr hl _ h _;obtain⟨T,a0,hT⟩:=hR.bound;have d2:j<T:=by rw[<-h.tag];exact hT rb
 have hq:=(aY r).trans hr;have d0:=hq.length_le;refine Ret.enter func207 ntmps207 rfl rfl ?_;refine zh ?_;refine ar hR T zo (IB _) rfl ?_;intro xb w1 O1 b' b5 c' d3;have c7:=h.upd b5 hj zo;refine zh ?_;refine zc call153 (fE O1 w1 j rb l r op 0 0 hj hr zo c7) ?_;rintro v w2 ⟨rfl,a6,b0⟩;have b1:=b'.upd b0 zo zo;have b6:=c'.upd b0;have b3:=(b5.pT hj a0 (GS _)).trans (b0.pj a0);refine zc call202 (iA ((ao r).headD 0) w2) ?_;rintro v _ ⟨rfl,rfl⟩;refine zh ?_
 cases hc:aj ((ao r).headD 0)with
 |false=>
  have hM:du kind r=.bad (ao r).length 4:=by unfold du;rw[if_neg (by rw[hc];decide)]
  refine zTH rfl rfl ?_;refine zv (RV.ld a6.r1 rfl) ?_
  refine zc call154 (fY _ O1 _ j rb l _ _ 0 ((l.length:Int)-((ao r).length:Int)) 4 hj b6 a6) ?_;rintro v wf ⟨rfl,a8,a4⟩;have a1:=b1.upd a4 zo zo;refine zsa (us:=#[nI 0,nI 0,nS]) a1 (GY _) ?_
  have a7:=a1.setRow (us:=#[nI 0,nI 0,nS]);have a3:Upd (fun k=>k=T) O1 wf O1 (wf.setRow xb #[nI 0,nI 0,nS]):=Upd.setRow zo a1.tag rfl;have hbg:=a8.upd a3 hj zo;refine zh ?_;refine aJ rfl rfl (a7.cellsAdd) (IG _) (GY _) (⟨(0,0,nS),rfl,((b3.trans (a4.pj a0)).trans (a3.pT hj a0 (GS _))).priv hT hj,?_⟩);rw[hM];exact⟨rfl,_,op,hbg.fgt h.tag,zo,zo,zo,zo⟩
 |true=>
  refine zFH rfl rfl ?_;refine zvH (RV.ld a6.r1 rfl) ?_
  refine zc call209 (vd O1 _ j rb l (ao r) op 0 0 hj hq zo a6) ?_;rintro v w3 ⟨rfl,c6,a'⟩;have b9:=b1.upd a' zo zo;have c9:=b6.upd a';refine zc call133 (iz ((ao r).takeWhile aj) w3) ?_
  rintro v w4 ⟨rfl,b7⟩;have a9:Upd (fun _=>False) O1 w3 O1 w4:=aa (fun h=>h) O1 b7;have b2:=c6.upd a9 hj (fun h=>h);have a5:=b9.upd a9 zo (fun h=>h);have c8:=c9.upd a9;have a2:=(b3.trans (a'.pj a0)).trans (iZ O1 b7 hj a0);refine zh ?_
  cases hn:zq ((ao r).takeWhile aj)with
  |none=>
   have hM:du kind r=.bad (ao r).length 5:=by unfold du;rw[if_pos hc,hn]
   refine zTH rfl rfl ?_;refine zc call154 (fY _ O1 _ j rb l _ _ 0 ((l.length:Int)-((ao r).length:Int)) 5 hj c8 b2) ?_
   rintro v wf ⟨rfl,a8,a4⟩;have a1:=a5.upd a4 zo zo;refine zsa (us:=#[nI 0,nI 0,nS]) a1 (GY _) ?_;have a7:=a1.setRow (us:=#[nI 0,nI 0,nS]);have a3:Upd (fun k=>k=T) O1 wf O1 (wf.setRow xb #[nI 0,nI 0,nS]):=Upd.setRow zo a1.tag rfl;have hbg:=a8.upd a3 hj zo;refine zh ?_;refine aJ rfl rfl (a7.cellsAdd) (IG _) (GY _) (⟨(0,0,nS),rfl,((a2.trans (a4.pj a0)).trans (a3.pT hj a0 (GS _))).priv hT hj,?_⟩);rw[hM];exact⟨rfl,_,op,hbg.fgt h.tag,by have:=(Iv (l:=ao r) aj).length_le;omega,zo,zo,zo⟩
  |some c=>
   have hM:du kind r=.ok (.mk kind (c:Nat) []) ((ao r).dropWhile aj):=by unfold du;rw[if_pos hc,hn]
   have hv:Cm ((ao r).takeWhile aj)=(c:Nat):=by unfold Cm;rw[hn]
   rw[hv];refine zFH rfl rfl ?_;refine zv (aE uS (IB _) rfl (by first|rfl|(simp only[IS,K7];rfl)) rfl rfl) ?_;refine zsa (us:=#[nI kind,nI (c:Nat),nS]) a5 (GY _) ?_;have b8:=a5.setRow (us:=#[nI kind,nI (c:Nat),nS]);have b4:Upd (fun k=>k=T) O1 w4 O1 (w4.setRow xb #[nI kind,nI (c:Nat),nS]):=Upd.setRow zo a5.tag rfl;have c5:=b2.upd b4 hj zo;refine zh ?_;refine aJ rfl rfl (b8.cellsAdd) (IG _) (GY _) (⟨(kind,(c:Nat),nS),rfl,(a2.trans (b4.pT hj a0 (GS _))).priv hT hj,?_⟩);rw[hM];exact⟨c5.fgt h.tag,Nt.leaf _ _ _ _⟩
end
section
open Go.VL Go.Proofs
set_option maxRecDepth 10000
theorem pI:∀(n:Nat) (t:Nd),nsz t<=n->∀(x:N3) (w:ka) (fm:Nat),Nt (fun _=>0) w t x->fm<=1000000->Ret G6 108 [nv x,nI (fm:Int)] w fun v w'=>v=nI ((min (nsz t) (fm+1):Nat):Int)/\Ext w w'
 |0,t,hn=>by have:=dB t;omega
 |n+1,.mk k c kids,hn=>by
  intro x w fm h hm;obtain⟨xs,hs,hf,hl,hk⟩:=h.kids;simp only[Nd.kids]at hl hk;have b9:=eC kids;simp only[nsz]at hn ⊢;have b1:=hs.len_le;refine Ret.enter func108 ntmps108 rfl rfl ?_;refine zg ?_;refine aF (aw w) 1 zo rfl rfl ?_;intro xb w1 O1 a' b' c6 a8;have b0:=hs.ext a8;refine zg ?_;refine zv (RV.ld (a'.cell 2 rfl) rfl) ?_;refine zvG (RV.len (by first|exact b0) JH rfl) ?_;refine zlp (fun y:Nat×ka=>[(1,nI (fm:Int)),(5,nI ((min (dq (kids.take y.1)+1) (fm+1):Nat):Int)),(9,x.2.2),(10,nI xs.length),(11,nI y.1)]) (fun y=>y.2) (fun y=>y.1<=xs.length/\Ext w y.2) (fun y=>xs.length-y.1) (0,w1) (⟨Im _,a8⟩) ?_;rintro⟨i,w2⟩ ⟨hi,a0⟩;dsimp only at hi a0 ⊢;have a4:=hs.ext a0;refine zg ?_;refine zC ?_ ?_
  ·intro a1;replace a1:i<xs.length:=by have:=of_decide_eq_true a1;omega
   have b7:=dL kids i zo;have b6:=cp kids (i+1);have a6:=(hk i a1).ext a0;have a9:=a6.one;have b8:=cj kids i zo;refine zg ?_;refine zv (RV.indexAddr (by first|exact a4) JH (GY _) rfl rfl _ rfl zo) ?_;refine zv (ah (us:=aX (nth xs i)) (fun j u hu=>a4.cell a1 hu) (IG _) (GY _) rfl) ?_;refine ar (aw w2) 1 zo (IB _) rfl ?_;intro kb w3 O3 a2 b4 c5 c7;refine zsb (us:=#[nI (nth xs i).1,nI (nth xs i).2.1,(nth xs i).2.2]) a2 (GY _) (bV a9) ?_;have b2:=a2.setRow (us:=#[nI (nth xs i).1,nI (nth xs i).2.1,(nth xs i).2.2]);have a3:Ext w2 (w3.setRow kb #[nI (nth xs i).1,nI (nth xs i).2.1,(nth xs i).2.2]):=(b4.trans (Upd.setRow zd a2.tag rfl)).ext;generalize w3.setRow kb #[nI (nth xs i).1,nI (nth xs i).2.1,(nth xs i).2.2]=w4 at *;refine zg ?_;refine zC ?_ ?_
   ·intro a7;replace a7:fm<dq (kids.take i)+1:=by have:=of_decide_eq_true a7;omega
    refine zg ?_;refine af rfl rfl (⟨by congr 2;omega,a0.trans a3⟩)
   intro a5;replace a5:dq (kids.take i)+1<=fm:=by have:=of_decide_eq_false a5;omega
   refine zg ?_;refine zvG (ah (us:=aX (nth xs i)) b2.cellsAdd (IG _) (GY _) rfl) ?_
   refine zv (RV.sub rfl rfl (Fit.i64 zo)) ?_;rw[show(fm:Int)-((min (dq (kids.take i)+1) (fm+1):Nat):Int)=((fm-(dq (kids.take i)+1):Nat):Int)from by omega];refine zc call108 (pI n (nth kids i) zo (nth xs i) w4 (fm-(dq (kids.take i)+1)) (a6.ext a3) zo) ?_
   rintro v w5 ⟨rfl,b5⟩;refine zvG (RV.add rfl rfl (Fit.i64 zo)) ?_;refine zvG (RV.add rfl rfl (Fit.i64 zo)) ?_;rw[show((min (dq (kids.take i)+1) (fm+1):Nat):Int)+((min (nsz (nth kids i)) (fm-(dq (kids.take i)+1)+1):Nat):Int)=((min (dq (kids.take (i+1))+1) (fm+1):Nat):Int)from by omega];refine zxd (i+1,w5) (⟨a1,(a0.trans a3).trans b5⟩)
  intro b3;obtain rfl:i=xs.length:=by have:=of_decide_eq_false b3;omega
  refine zg ?_;refine af rfl rfl (⟨by rw[<-hl,KM],a0⟩)
theorem aD{S:Nat->Prop}{O O':Nat->Nat}{w w':ka}(h:Upd S O w O' w')(hS:∀b,¬S (O b)):Ext w w':=⟨h.os,h.tape,h.output,h.size,fun b hb=>h.blk b hb (hS b)⟩
theorem Nt.ones{O:Nat->Nat}{w:ka}{t:Nd}{x:N3}(h:Nt O w t x):x=(t.kind,t.cls,x.2.2):=by cases h;rfl
theorem sC:∀(n:Nat),n<=1000000->∀(t:Nd),nsz t<=n->∀(B:Nat) (O:Nat->Nat) (x:N3) (w:ka),Rng B O w->Nt (fun _=>0) w t x->Ret G6 155 [nv x] w fun v w'=>∃y,v=nv y/\Nt O w' t y/\Ext w w'
 |0,_,t,hn=>by have:=dB t;omega
 |n+1,hn6,.mk k c kids,hn=>by
  intro B O x w hR h;obtain⟨T,j5,hT⟩:=hR.bound;obtain⟨xs,hs,hf,hl,hk⟩:=h.kids;simp only[Nd.kids]at hl hk;obtain⟨x0,x1,sv⟩:=x;obtain rfl:k=x0:=(congrArg KZ h.ones).symm;obtain rfl:c=x1:=(congrArg (fun q:N3=>q.2.1) h.ones).symm;dsimp only at hs hf;have j4:=eC kids;simp only[nsz]at hn;have a5:¬(fun q:Nat=>T<=q) 0:=fun e=>zo
  refine Ret.enter func155 ntmps155 rfl rfl ?_;refine zh ?_
  refine aF hR (T+1) zo rfl rfl ?_;intro nb w1 O1 h7 i5 i' j8;refine ar i' T zo (IB _) rfl ?_
  intro xb w2 O2 h1 g8 i9 j7;have f':=h7.upd g8 zo zo;have n0:w2.cell? (nA nb 0)=some (nI k):=f'.cell 0 rfl;have n1:w2.cell? (nA nb 1)=some (nI c):=f'.cell 1 rfl;refine zh ?_;refine zv (aE uS (IB _) rfl (by first|rfl|(simp only[IS,K7];rfl)) rfl rfl) ?_;refine ar i9 (T+2) zo (IB _) rfl ?_;intro ob w3 O3 f9 i4 i7 j6;refine zsa (us:=#[nI k,nI c,nS]) f9 (GY _) ?_;have h4:=f9.setRow (us:=#[nI k,nI c,nS]);have g7:Upd (fun q=>q=T+2) O3 w3 O3 (w3.setRow ob #[nI k,nI c,nS]):=Upd.setRow zo f9.tag rfl;have d6:=i4.trans g7;have i6:=i7.upd g7;have h5:=f'.upd d6 zo zo;have h0:=h1.upd d6 zo zo;have e6:Upd (fun q=>T<=q) O w O3 _:=((i5.mono (fun _ h=>by rw[h];omega) a5).trans (g8.mono (fun _ h=>by rw[h];omega) a5)).trans (d6.mono (fun _ h=>by rw[h];omega) a5);generalize w3.setRow ob #[nI k,nI c,nS]=w4 at *;have j0:=aD e6 (fun b=>by have:=hT b;omega);have j2:=hs.ext j0;have n2:w4.cell? (nA nb 2)=some sv:=h5.cell 2 rfl;refine zh ?_
  refine zlp (fun y:Nat×(Nat->Nat)×World×ix×List N3=>[(2,nP xb),(3,nP ob),(12,sv),(13,nI xs.length),(14,nI y.1)]) (fun y=>y.2.2.1) (fun y=>y.1<=xs.length/\BlkO y.2.1 y.2.2.1 T xb #[nI 0,nI 0,nS] 86/\BlkO y.2.1 y.2.2.1 (T+2) ob #[nI k,nI c,y.2.2.2.1] 86/\RowT aX 86 3 y.2.1 y.2.2.1 (T+3) y.2.2.2.1 y.2.2.2.2/\y.2.2.2.2.length=y.1/\(∀m,m<y.1->Nt y.2.1 y.2.2.1 (nth kids m) (nth y.2.2.2.2 m))/\Upd (fun q=>T<=q) O w y.2.1 y.2.2.1/\Rng B y.2.1 y.2.2.1) (fun y=>xs.length-y.1) (0,O3,w4,nS,[]) (⟨Im _,h0,h4,RowT.nil _ _ _ _ _ _,rfl,fun m hm=>absurd hm (JJ m),e6,i6⟩) ?_;rintro⟨i,O1',f7,lv,zs⟩ ⟨hi,b2,d2,a',d0,f8,b',c5⟩;dsimp only at hi b2 d2 a' d0 f8 b' c5 ⊢;have e':=aD b' (fun b=>by have:=hT b;omega);have h3:=hs.ext e';refine zh ?_
  refine zC ?_ ?_
  ·intro c9;replace c9:i<xs.length:=dT c9;have h9:=(hk i c9).ext e';have g9:=h9.one;have j3:=cj kids i zo;refine zh ?_;refine zv (ah (us:=aX (nth xs i)) (fun j u hu=>h3.cell c9 hu) (IG _) (GY _) rfl) ?_;refine ar c5 (T+4) zo (IB _) rfl ?_;intro kb d9 O2' g1 g3 i8 j1;refine zsb (us:=#[nI (nth xs i).1,nI (nth xs i).2.1,(nth xs i).2.2]) g1 (GY _) (bV g9) ?_;have h':=g1.setRow (us:=#[nI (nth xs i).1,nI (nth xs i).2.1,(nth xs i).2.2]);have g2:Upd (fun q=>q=T+4) O2' d9 O2' (d9.setRow kb #[nI (nth xs i).1,nI (nth xs i).2.1,(nth xs i).2.2]):=Upd.setRow zo g1.tag rfl;have b0:=g3.trans g2;have g6:=(b2.upd b0 zo zo).drew;have d1:=(d2.upd b0 zo zo).drew;have c8:=(a'.upd b0 zo zo).drew;have d7:=(c5.upd b0).drew;have d':∀m,m<i->Nt O2' (d9.setRow kb #[nI (nth xs i).1,nI (nth xs i).2.1,(nth xs i).2.2]).drew (nth kids m) (nth zs m):=fun m hm=>((f8 m hm).upd b0).drew
   have d5:=(b'.trans (b0.mono (fun _ h=>by rw[h];omega) a5)).drew;have g5:=aD d5 (fun b=>by have:=hT b;omega);have hk3d:=h'.drew;have g0:Nt (fun _=>0) (d9.setRow kb #[nI (nth xs i).1,nI (nth xs i).2.1,(nth xs i).2.2]).drew (nth kids i) (nth xs i):=(hk i c9).ext g5;refine zh ?_;refine aL (fun W=>∀(m:Nat) (u:ix),(aX (nth xs i))[m]? = some u->W.cell? (nA kb m)=some u) 8 rfl zk ?_;generalize (d9.setRow kb #[nI (nth xs i).1,nI (nth xs i).2.1,(nth xs i).2.2]).drew=w3' at *;have i3:w3'.cell? (nA ob 2)=some lv:=d1.cell 2 rfl;refine zin hk3d.cellsAdd fun zS=>?_
   refine zrf 0 rfl zS rfl ?_;refine zt 2 rfl zS (fun w1 h2=>ah (us:=aX (nth xs i)) h2 (IG _) (GY _) rfl) ?_
   have c':=sC n zo (nth kids i) zo B O2' (nth xs i) w3' d7 g0;refine bG 1 3 zk rfl rfl ?_ ?_
   ·refine zvH (RV.ld i3 rfl) ?_;refine ae hk3d.cellsAdd ?_
    refine WH.one 3 zk rfl ?_;refine zc call155 c' ?_
    rintro v w5 ⟨z,rfl,f3,g4⟩;have a8:Upd (fun _=>False) O2' w3' O2' w5:=aa (fun h=>h) O2' g4;have f4:=g6.upd a8 zo (fun h=>h);have e4:=d1.upd a8 zo (fun h=>h);have a9:=c8.upd a8 zo (fun h=>h);have f6:=d7.upd a8;have d3:=hk3d.upd a8 zo (fun h=>h);have b7:∀m,m<i->Nt O2' w5 (nth kids m) (nth zs m):=fun m hm=>(d' m hm).upd a8
    have b9:=d5.trans (a8.mono (fun _ h=>h.elim) a5);refine zh ?_;refine ae d3.cellsAdd ?_;refine WH.one 4 zk rfl ?_;refine aI elN (enc:=aX) z rfl rfl rfl zd rfl ?_;intro w6 h6 e9;have a1:Upd (fun _=>False) O2' w5 O2' w6:=aa (fun h=>h) O2' e9;have e1:=f4.upd a1 zo (fun h=>h);have d8:=e4.upd a1 zo (fun h=>h);have a6:=a9.upd a1 zo (fun h=>h);have e8:=f6.upd a1;have b8:=d3.upd a1 zo (fun h=>h);have b1:∀m,m<i->Nt O2' w6 (nth kids m) (nth zs m):=fun m hm=>(b7 m hm).upd a1
    have c6:=f3.upd a1;have b6:=b9.trans (a1.mono (fun _ h=>h.elim) a5);refine zh ?_;refine ae b8.cellsAdd ?_;have a7:∀u∈[z],∀c∈aX u,c.oneCell'=true:=fun u hu=>by
     rw[Io.1 hu];exact gR c6.one
    refine WH.one 5 zk rfl ?_;refine aA elN a6 e8 h6 (by simp) rfl rfl (fun _ _=>rfl) a7 (by simp;omega) (by simp;omega) zo rfl ?_
    intro a3 w7 O7 a0 a4 e7;have e2:=a0.one;have b3:=BlkO.upd d8 a4 zo zo;have e0:=BlkO.upd e1 a4 zo zo;have b4:=BlkO.upd b8 a4 zo zo;refine zh ?_;refine ae b4.cellsAdd ?_;refine zrf 6 rfl b4.cellsAdd rfl ?_;refine WH.one 7 zk rfl ?_;refine ak (j:=2) b3 rfl (KQ _) e2 rfl rfl rfl ?_;have e3:BlkO O7 (w7.setCell ⟨ob,2,none⟩ a3) (T+2) ob #[nI k,nI c,a3] 86:=b3.set 2 a3;have a2:Upd (fun q=>q=T+2) O7 w7 O7 (w7.setCell ⟨ob,2,none⟩ a3):=Upd.set zo b3.tag rfl;have e5:=b4.upd a2 zo zo;refine zh ?_;refine ae e5.cellsAdd ?_;have a5:¬(fun q:Nat=>T<=q) 0:=fun e=>zo
    have b5:=(b6.trans (a4.mono (fun _ h=>by rw[h];omega) a5)).trans (a2.mono (fun _ h=>by rw[h];omega) a5);refine WH.done zk ?_;refine zh ?_;refine zxd (i+1,O7,(w7.setCell ⟨ob,2,none⟩ a3),a3,zs++[z]) (⟨c9,e0.upd a2 zo zo,e3,a0.upd a2 zo zo,by simp[d0],fun m hm=>?_,b5,e7.upd a2⟩);dsimp only at hm ⊢
    by_cases e:m<i
    ·rw[az (xs:=zs++[z]) (by simp;omega),IC zo,<-az zo];exact((b1 m e).upd a4).upd a2
    obtain rfl:m=zs.length:=zo;rw[az (xs:=zs++[z]) (by simp),IA zo];simp only[Kb,Ip];rw[d0];exact(c6.upd a4).upd a2
   refine zc call155 c' ?_;rintro v w5 ⟨z,rfl,f3,g4⟩;have a8:Upd (fun _=>False) O2' w3' O2' w5:=aa (fun h=>h) O2' g4;have f4:=g6.upd a8 zo (fun h=>h);have e4:=d1.upd a8 zo (fun h=>h);have a9:=c8.upd a8 zo (fun h=>h);have f6:=d7.upd a8;have d3:=hk3d.upd a8 zo (fun h=>h);have b7:∀m,m<i->Nt O2' w5 (nth kids m) (nth zs m):=fun m hm=>(d' m hm).upd a8
   have b9:=d5.trans (a8.mono (fun _ h=>h.elim) a5);refine zh ?_;refine ae d3.cellsAdd ?_;have i2:w5.cell? (nA ob 2)=some lv:=e4.cell 2 rfl;refine bG 1 4 zk rfl rfl ?_ ?_
   ·refine zvH (RV.ld i2 rfl) ?_;refine ae d3.cellsAdd ?_
    refine WH.one 4 zk rfl ?_;refine aI elN (enc:=aX) z rfl rfl rfl zd rfl ?_
    intro w6 h6 e9;have a1:Upd (fun _=>False) O2' w5 O2' w6:=aa (fun h=>h) O2' e9;have e1:=f4.upd a1 zo (fun h=>h);have d8:=e4.upd a1 zo (fun h=>h);have a6:=a9.upd a1 zo (fun h=>h);have e8:=f6.upd a1;have b8:=d3.upd a1 zo (fun h=>h);have b1:∀m,m<i->Nt O2' w6 (nth kids m) (nth zs m):=fun m hm=>(b7 m hm).upd a1
    have c6:=f3.upd a1;have b6:=b9.trans (a1.mono (fun _ h=>h.elim) a5);refine zh ?_;refine ae b8.cellsAdd ?_;have a7:∀u∈[z],∀c∈aX u,c.oneCell'=true:=fun u hu=>by
     rw[Io.1 hu];exact gR c6.one
    refine WH.one 5 zk rfl ?_;refine aA elN a6 e8 h6 (by simp) rfl rfl (fun _ _=>rfl) a7 (by simp;omega) (by simp;omega) zo rfl ?_
    intro a3 w7 O7 a0 a4 e7;have e2:=a0.one;have b3:=BlkO.upd d8 a4 zo zo;have e0:=BlkO.upd e1 a4 zo zo;have b4:=BlkO.upd b8 a4 zo zo;refine zh ?_;refine ae b4.cellsAdd ?_;refine zrf 6 rfl b4.cellsAdd rfl ?_;refine WH.one 7 zk rfl ?_;refine ak (j:=2) b3 rfl (KQ _) e2 rfl rfl rfl ?_;have e3:BlkO O7 (w7.setCell ⟨ob,2,none⟩ a3) (T+2) ob #[nI k,nI c,a3] 86:=b3.set 2 a3;have a2:Upd (fun q=>q=T+2) O7 w7 O7 (w7.setCell ⟨ob,2,none⟩ a3):=Upd.set zo b3.tag rfl;have e5:=b4.upd a2 zo zo;refine zh ?_;refine ae e5.cellsAdd ?_;have a5:¬(fun q:Nat=>T<=q) 0:=fun e=>zo
    have b5:=(b6.trans (a4.mono (fun _ h=>by rw[h];omega) a5)).trans (a2.mono (fun _ h=>by rw[h];omega) a5);refine WH.done zk ?_;refine zh ?_;refine zxd (i+1,O7,(w7.setCell ⟨ob,2,none⟩ a3),a3,zs++[z]) (⟨c9,e0.upd a2 zo zo,e3,a0.upd a2 zo zo,by simp[d0],fun m hm=>?_,b5,e7.upd a2⟩);dsimp only at hm ⊢
    by_cases e:m<i
    ·rw[az (xs:=zs++[z]) (by simp;omega),IC zo,<-az zo];exact((b1 m e).upd a4).upd a2
    obtain rfl:m=zs.length:=zo;rw[az (xs:=zs++[z]) (by simp),IA zo];simp only[Kb,Ip];rw[d0];exact(c6.upd a4).upd a2
   refine aI elN (enc:=aX) z rfl rfl rfl zd rfl ?_;intro w6 h6 e9;have a1:Upd (fun _=>False) O2' w5 O2' w6:=aa (fun h=>h) O2' e9;have e1:=f4.upd a1 zo (fun h=>h);have d8:=e4.upd a1 zo (fun h=>h);have a6:=a9.upd a1 zo (fun h=>h);have e8:=f6.upd a1;have b8:=d3.upd a1 zo (fun h=>h);have b1:∀m,m<i->Nt O2' w6 (nth kids m) (nth zs m):=fun m hm=>(b7 m hm).upd a1
   have c6:=f3.upd a1;have b6:=b9.trans (a1.mono (fun _ h=>h.elim) a5);refine zh ?_;refine ae b8.cellsAdd ?_;have i1:w6.cell? (nA ob 2)=some lv:=d8.cell 2 rfl;refine WH.one 1 zk rfl ?_;refine zvH (RV.ld i1 rfl) ?_;refine ae b8.cellsAdd ?_;have a7:∀u∈[z],∀c∈aX u,c.oneCell'=true:=fun u hu=>by
    rw[Io.1 hu];exact gR c6.one
   refine WH.one 5 zk rfl ?_;refine aA elN a6 e8 h6 (by simp) rfl rfl (fun _ _=>rfl) a7 (by simp;omega) (by simp;omega) zo rfl ?_
   intro a3 w7 O7 a0 a4 e7;have e2:=a0.one;have b3:=BlkO.upd d8 a4 zo zo;have e0:=BlkO.upd e1 a4 zo zo;have b4:=BlkO.upd b8 a4 zo zo;refine zh ?_;refine ae b4.cellsAdd ?_;refine zrf 6 rfl b4.cellsAdd rfl ?_;refine WH.one 7 zk rfl ?_;refine ak (j:=2) b3 rfl (KQ _) e2 rfl rfl rfl ?_;have e3:BlkO O7 (w7.setCell ⟨ob,2,none⟩ a3) (T+2) ob #[nI k,nI c,a3] 86:=b3.set 2 a3;have a2:Upd (fun q=>q=T+2) O7 w7 O7 (w7.setCell ⟨ob,2,none⟩ a3):=Upd.set zo b3.tag rfl;have e5:=b4.upd a2 zo zo;refine zh ?_;refine ae e5.cellsAdd ?_;have a5:¬(fun q:Nat=>T<=q) 0:=fun e=>zo
   have b5:=(b6.trans (a4.mono (fun _ h=>by rw[h];omega) a5)).trans (a2.mono (fun _ h=>by rw[h];omega) a5);refine WH.done zk ?_;refine zh ?_;refine zxd (i+1,O7,(w7.setCell ⟨ob,2,none⟩ a3),a3,zs++[z]) (⟨c9,e0.upd a2 zo zo,e3,a0.upd a2 zo zo,by simp[d0],fun m hm=>?_,b5,e7.upd a2⟩);dsimp only at hm ⊢
   by_cases e:m<i
   ·rw[az (xs:=zs++[z]) (by simp;omega),IC zo,<-az zo];exact((b1 m e).upd a4).upd a2
   obtain rfl:m=zs.length:=zo;rw[az (xs:=zs++[z]) (by simp),IA zo];simp only[Kb,Ip];rw[d0];exact(c6.upd a4).upd a2
  intro i0;obtain rfl:i=xs.length:=dF i0;have h8:=a'.one;refine zh ?_;refine zv (ah (us:=aX ((k,c,lv):N3)) d2.cellsAdd (IG _) (GY _) rfl) ?_;refine zsb (us:=#[nI k,nI c,lv]) b2 (GY _) (bV (x:=(k,c,lv)) h8) ?_;have g':=b2.setRow (us:=#[nI k,nI c,lv]);have f5:Upd (fun q=>q=T) O1' f7 O1' (f7.setRow xb #[nI k,nI c,lv]):=Upd.setRow zo b2.tag rfl;have c7:=a'.upd f5 zo zo;have d4:=b'.trans (f5.mono (fun _ h=>by rw[h];omega) a5);have hN:Nt O (f7.setRow xb #[nI k,nI c,lv]) (.mk k c kids) (k,c,lv):=
   .mk c7.sl (c7.freeT zo (fun b=>by have:=hT b;omega) (c5.upd f5) d4) zo (fun m hm=>((f8 m zo).upd f5).low d4)
  refine zh ?_;refine aJ rfl rfl (g'.cellsAdd) (IG _) (GY _) (⟨(k,c,lv),rfl,hN,aD d4 (fun b=>by have:=hT b;omega)⟩)
end
section
open Go.VL Go.Proofs
set_option maxRecDepth 10000
theorem kQ{F:J1}(hF:∀(args:Array ix) (w:ka),(callFunc F args).run G6 w=.ok (.enter F args) w)(cs:Array ix)(l:List (N3))(sv:ix)(q:Nat->Bool)(w:ka)(h:Sl aX 3 w sv l) 
  (hq:∀i,i<l.length->∀w',Ext w w'->Ret G6 F ([nv (nth l i)]++cs.toList) w' fun v w''=>v=.bool (q i)/\Ext w' w'') :
  Ret G6 112 [sv,.func (.func F) #[] cs] w fun v w'=>v=nI (dt q l.length)/\Ext w w':=by
 have hl:=h.len_le;refine Ret.enter func112 ntmps112 rfl rfl ?_;refine zh ?_;refine zlp (fun x:Nat×ka=>[(0,sv),(1,.func (.func F) #[] cs),(7,nI l.length),(8,nI x.1)]) (fun x=>x.2) (fun x=>x.1<=l.length/\Ext w x.2/\∀i,i<x.1->q i=false) (fun x=>l.length-x.1) (0,w) (⟨Im _,Ext.refl _,fun i hi=>absurd hi (JJ i)⟩) ?_;rintro⟨k,w1⟩ ⟨hk,hE,a1⟩;dsimp only at hk hE a1 ⊢;have h1:=h.ext hE;refine zh ?_;refine zC ?_ ?_
 ·intro a0;replace a0:k<l.length:=dT a0;refine zh ?_;refine zv (ah (us:=aX (nth l k)) (fun j u hu=>h1.cell a0 hu) (IG _) (GY _) rfl) ?_;refine dk rfl hF rfl (hq k a0 w1 hE) rfl ?_;rintro v w2 ⟨rfl,a3⟩;refine zh ?_;refine zC ?_ ?_
  ·intro hy;refine zh ?_;refine af rfl rfl (⟨by rw[cx a0 hy a1],hE.trans a3⟩)
  intro hy;refine zh ?_;refine zxd (k+1,w2) (⟨a0,hE.trans a3,fun i hi=>(JZ.1 hi).elim (a1 i) (fun e=>by rw[e];exact hy)⟩)
 intro a2;replace a2:l.length<=k:=dF a2;refine zh ?_;refine af rfl rfl (⟨by rw[ct fun i hi=>a1 i zo],hE⟩)
theorem cO{F:J1}(hF:∀(args:Array ix) (w:ka),(callFunc F args).run G6 w=.ok (.enter F args) w)(cs:Array ix)(l:List (N3))(sv:ix)(q:Nat->Bool)(w:ka)(h:Sl aX 3 w sv l) 
  (hq:∀i,i<l.length->∀w',Ext w w'->Ret G6 F ([nv (nth l i)]++cs.toList) w' fun v w''=>v=.bool (q i)/\Ext w' w'') :
  Ret G6 81 [sv,.func (.func F) #[] cs] w fun v w'=>v=.bool (iT q l.length)/\Ext w w':=by
 refine Ret.enter func81 ntmps81 rfl rfl ?_;refine zh ?_
 refine zc call112 (kQ hF cs l sv q w h hq) ?_;rintro v w1 ⟨rfl,hE⟩;refine zh ?_
 refine af rfl rfl (⟨by rw[firstN_any],hE⟩)
def named(k:Int):Bool:=(k==0)||(k==2)
def least(k:Int):Int:=if k=4\/k=5 then 2 else if k=6\/k=7\/k=8 then 1 else 0
def fm(k:Int):Int:=if k=4\/k=5 then 2000 else if k=6\/k=7\/k=8 then 1 else 0
def jU(k c:Int)(n:Nat)(a0:Bool):Bool:=
 !(decide (k<0)||decide (9<k)||((k==9)&&a0))&&(!(decide ((n:Int)<least k)||decide (fm k<(n:Int))) &&
 !((named k&&(decide (c<0)||decide (36<=c)))||(!named k&&(c != 0))))
mutual
def nZ:Nd->Bool->Bool | .mk k c l,wi=>jU k c l.length wi&&sq l
def sq:List Nd->Bool | []=>true|t::r=>nZ t true&&sq r
end
def bK(t:Nd):Bool:=decide (nsz t<=2000)&&nZ t false
theorem xu{k c:Int}{n:Nat}{wi:Bool}(h:jU k c n wi=true):
  (k=0/\n=0/\0<=c/\c<36)\/(k=1/\n=0/\c=0)\/(k=2/\n=0/\0<=c/\c<36)\/(k=3/\n=0/\c=0)\/(k=4/\2<=n/\c=0)\/(k=5/\2<=n/\c=0)\/(k=6/\n=1/\c=0)\/(k=7/\n=1/\c=0)\/(k=8/\n=1/\c=0)\/(k=9/\n=0/\c=0/\wi=false):=by
 have a0:k=0\/k=1\/k=2\/k=3\/k=4\/k=5\/k=6\/k=7\/k=8\/k=9:=by
  simp only[jU,Ik,KH,Bool.or_eq_false_iff,decide_eq_false_iff_not]at h;omega
 rcases a0 with rfl|rfl|rfl|rfl|rfl|rfl|rfl|rfl|rfl|rfl<;>simp[jU,least,fm,named]at h<;>(try simp)<;>(first|omega|(obtain⟨h1,h2⟩:=h;subst h1;simp;omega))
theorem An:∀(l:List Nd),(!(iT (fun i=>!(nZ (nth l i) true)) l.length))=sq l:=by
 intro l;rw[Bool.eq_iff_iff];rw[KH,KI,Ne,eo]
 induction l with
 |nil=>simp[sq]
 |cons t r ih=>
  simp only[sq,Ik,<-ih,I5]
  constructor
  ·intro h;refine⟨?_,fun⟨i,hi,hq⟩=>h ⟨i+1,zo,by rw[bA];exact hq⟩⟩
   cases ht:nZ t true with
   |true=>rfl
   |false=>exact absurd ⟨0,zo,by rw[ax,ht];rfl⟩ h
  rintro⟨h1,h2⟩ ⟨i,hi,hq⟩
  cases i with
  |zero=>rw[ax,h1]at hq;simp at hq
  |succ i=>rw[bA]at hq;exact h2 ⟨i,zo,hq⟩
theorem BB(k:Int)(w:ka):Ret G6 140 [nI k] w fun v w'=>v=.tuple #[nI (least k),nI (fm k)]/\w'=w:=by
 refine Ret.enter func140 ntmps140 rfl rfl ?_;refine zh ?_
 by_cases h4:k=4
 ·subst h4;refine zTH rfl rfl ?_;refine zTH rfl rfl ?_;refine bI rfl rfl rfl (⟨rfl,rfl⟩)
 refine zFH rfl ((beq_eq_false_iff_ne.2 h4)) ?_
 by_cases h5:k=5
 ·subst h5;refine zTH rfl rfl ?_;refine bI rfl rfl rfl (⟨rfl,rfl⟩)
 refine zFH rfl ((beq_eq_false_iff_ne.2 h5)) ?_
 by_cases h6:k=6
 ·subst h6;refine zTH rfl rfl ?_;refine zTH rfl rfl ?_;refine bI rfl rfl rfl (⟨rfl,rfl⟩)
 refine zFH rfl ((beq_eq_false_iff_ne.2 h6)) ?_
 by_cases h7:k=7
 ·subst h7;refine zTH rfl rfl ?_;refine zTH rfl rfl ?_;refine bI rfl rfl rfl (⟨rfl,rfl⟩)
 refine zFH rfl ((beq_eq_false_iff_ne.2 h7)) ?_
 by_cases h8:k=8
 ·subst h8;refine zTH rfl rfl ?_;refine bI rfl rfl rfl (⟨rfl,rfl⟩)
 refine zFH rfl ((beq_eq_false_iff_ne.2 h8)) ?_;refine bI rfl rfl rfl (⟨by simp[least,fm,h4,h5,h6,h7,h8],rfl⟩)
theorem BV{b:Bool}{t:Nd}(ih:∀(y:N3) (W:ka),Nt (fun _=>0) W t y->Ret G6 109 [nv y,.bool true] W fun v w'=>v=.bool b/\Ext W w')(x:N3)(w:ka)(h:Nt (fun _=>0) w t x):
  Ret G6 141 [nv x] w fun v w'=>v=.bool (!b)/\Ext w w':=by
 refine Ret.enter func141 ntmps141 rfl rfl ?_;refine zh ?_
 refine aF (aw w) 1 zo rfl rfl ?_;intro xb w1 O1 a1 a3 a4 a0;refine zh ?_
 refine zv (ah (us:=aX x) a1.cellsAdd (IG _) (GY _) rfl) ?_;refine zc call109 (ih x w1 (h.ext a0)) ?_
 rintro v w2 ⟨rfl,a2⟩;refine zh ?_;refine af rfl rfl (⟨rfl,a0.trans a2⟩)
theorem vw:∀(n:Nat) (t:Nd),nsz t<=n->∀(x:N3) (w:ka) (a0:Bool),Nt (fun _=>0) w t x->Ret G6 109 [nv x,.bool a0] w fun v w'=>v=.bool (nZ t a0)/\Ext w w'
 |0,t,hn=>by have:=dB t;omega
 |n+1,.mk k c kids,hn=>by
  intro x w a0 h;have b1:=h.ones;obtain⟨xs,hs,hf,hl,hk⟩:=h.kids;simp only[Nd.kids]at hl hk;simp only[nsz]at hn;have hF:nZ (.mk k c kids) a0=(jU k c kids.length a0&&sq kids):=rfl;rw[hF];generalize x.2.2=sv at *;subst b1;simp only[Nd.kind,Nd.cls];refine Ret.enter func109 ntmps109 rfl rfl ?_;refine zh ?_;refine aF (aw w) 1 zo rfl rfl ?_;intro xb w1 O1 a9 b4 b5 a4;have c0:w1.cell? (nA xb 0)=some (nI k):=a9.cell 0 rfl;have c1:w1.cell? (nA xb 1)=some (nI c):=a9.cell 1 rfl;have c2:w1.cell? (nA xb 2)=some sv:=a9.cell 2 rfl;have b2:=hs.ext a4;refine zh ?_;refine bY (fun w1=>_=w1) ((k==2)) 3 (rfl) rfl rfl rfl rfl rfl ?_ ?_
  ·intro a1;refine zh ?_;refine nE 11 4 (rfl) a1
  rintro _ rfl;refine zh ?_;refine zc call140 (BB k w1) ?_;rintro v w9 ⟨rfl,a'⟩;rw[a'];clear a' w9;refine zh ?_;refine bY (fun w1=>_=w1) (decide (9<k)) 3 (rfl) rfl rfl rfl rfl rfl ?_ ?_
  ·intro a2;refine zh ?_;refine nE 26 4 (rfl) a2
  rintro _ rfl;refine zh ?_;refine bY (fun w1=>_=w1) (((k==9)&&a0)) 6 (rfl) rfl rfl rfl rfl rfl ?_ ?_
  ·intro a3;refine zh ?_
   cases a7:(k==9)with
   |true=>
    refine au (d:=35) rfl (b':=true) (rfl) ?_;refine zh ?_
    refine nE 31 8 (rfl) a3
   |false=>
    refine au (d:=35) rfl (b':=false) (rfl) ?_;refine zh ?_
    refine nE 31 8 (rfl) a3
  rintro _ rfl;refine zh ?_
  cases h1:(decide (k<0)||decide (9<k)||((k==9)&&a0))with
  |true=>
   refine zTH rfl rfl ?_;refine af rfl rfl (⟨by simp only[jU,h1];rfl,a4⟩)
  |false=>
   refine zFH rfl rfl ?_;refine bY (fun w1=>_=w1) (decide (fm k<(xs.length:Int))) 5 (rfl) rfl rfl rfl rfl rfl ?_ ?_
   ·intro a5;refine zh ?_;refine nE 45 6 (rfl) a5
   rintro _ rfl;refine zh ?_
   cases h2:(decide ((xs.length:Int)<least k)||decide (fm k<(xs.length:Int)))with
   |true=>
    refine zTH rfl rfl ?_;refine af rfl rfl (⟨by simp only[jU,h1,hl,h2];rfl,a4⟩)
   |false=>
    refine zFH rfl rfl ?_;refine bx (fun w1=>_=w1) ((decide (c<0)||decide (36<=c))) 8 (rfl) rfl rfl rfl rfl rfl ?_ ?_
    ·intro a6;refine zh ?_
     cases a7:decide (c<0)with
     |true=>
      refine au (d:=58) rfl (b':=true) (rfl) ?_;refine zh ?_
      refine nE 54 10 (rfl) a6
     |false=>
      refine au (d:=58) rfl (b':=false) (rfl) ?_;refine zh ?_
      refine nE 54 10 (rfl) a6
    rintro _ rfl;refine zh ?_;refine bY (fun w1=>_=w1) ((!((k==0)||(k==2))&&(c != 0))) 7 (rfl) rfl rfl rfl rfl rfl ?_ ?_
    ·intro a8;refine zh ?_
     cases a7:((k==0)||(k==2))with
     |true=>
      rw[a7]at a8;refine au (d:=67) rfl (b':=false) (rfl) ?_;refine zh ?_;refine nE 64 9 (rfl) a8
     |false=>
      rw[a7]at a8;refine au (d:=67) rfl (b':=true) (rfl) ?_;refine zh ?_;refine nE 64 9 (rfl) a8
    rintro _ rfl;refine zh ?_
    cases h3:(((((k==0)||(k==2))&&(decide (c<0)||decide (36<=c))))||(!((k==0)||(k==2))&&(c != 0)))with
    |true=>
     refine zTH rfl rfl ?_;refine af rfl rfl (⟨by simp only[jU,h1,hl,h2,named,h3];rfl,a4⟩)
    |false=>
     refine zFH rfl rfl ?_;refine zc call81 (cO call141 #[] xs sv (fun i=>!(nZ (nth kids i) true)) w1 b2 (fun i hi w' hE=>BV (fun y W hy=>vw n (nth kids i) (by have:=cj kids i (zo);omega) y W true hy) (nth xs i) w' ((hk i hi).ext (a4.trans hE)))) ?_
     rintro v w2 ⟨rfl,b3⟩;refine zh ?_;have b0:=An kids;rw[hl]at b0;refine af rfl rfl (⟨by rw[b0];simp only[jU,h1,hl,h2,named,h3];rfl,a4.trans b3⟩)
theorem eN(t:Nd)(x:N3)(w:ka)(h:Nt (fun _=>0) w t x):Ret G6 79 [nv x] w fun v w'=>v=.bool (bK t)/\Ext w w':=by
 have hx:=h.ones;refine Ret.enter func79 ntmps79 rfl rfl ?_;refine zh ?_;refine aF (aw w) 1 zo rfl rfl ?_;intro xb w1 O1 a5 a6 a7 a3;have a4:∀W,Ext w1 W->∀(j:Nat) (u:ix),(aX x)[j]? = some u->W.cell? (nA xb j)=some u:=fun W hE j u hu=>hE.cell (a5.cellsAdd j u hu)
 refine zh ?_;refine zv (ah (us:=aX x) (a4 w1 (Ext.refl _)) (IG _) (GY _) rfl) ?_
 refine zc call108 (pI (nsz t) t (GS _) x w1 2000 (h.ext a3) zo) ?_;rintro v w2 ⟨rfl,a0⟩;have hd:decide (((min (nsz t) (2000+1):Nat):Int)<=2000)=decide (nsz t<=2000):=decide_eq_decide.2 zo;refine zh ?_
 rw[hd];refine bx (Ext w1) (nZ t false) 2 (a0) rfl rfl rfl rfl rfl ?_ ?_
 ·intro a1;refine zh ?_;refine zvH (ah (us:=aX x) (a4 _ a0) (IG _) (GY _) rfl) ?_;refine zc call109 (vw (nsz t) t (GS _) x _ false (h.ext (a3.trans a0))) ?_;rintro v w3 ⟨rfl,a2⟩;refine zh ?_;refine nE 6 3 (a0.trans a2) a1
 intro w3 a2;refine zh ?_;refine af rfl rfl (⟨rfl,a3.trans a2⟩)
end
section
open Go.VL Go.Proofs
set_option maxRecDepth 10000
def Bw(s:List UInt8)(m:List UInt8×Nd):Bool:=(m.1==s&&bK m.2)&&(m.2.kind != 9)
def gk(kn:Kn)(r:List UInt8):PR:=
 if r.takeWhile aj=[97,110,121]then .ok (.mk 1 0 []) (r.dropWhile aj)
 else match kn.reverse.find? (Bw (r.takeWhile aj))with
  |some m=>.ok m.2 (r.dropWhile aj)
  |none=>du 0 r
def iS(kn:Kn)(al:Option (List UInt8->PR))(r0:List UInt8):PR:=
 if aj ((ao r0).headD 0)=true then gk kn (ao r0)
 else if(ao r0).headD 0=126 then du 2 (ao r0).tail
 else if(ao r0).headD 0=94 then .ok (.mk 3 0 []) (ao r0).tail
 else if(ao r0).headD 0=40 then bW al (ao r0)
 else .bad (ao r0).length 4
def eB(kn:Kn)(al:Option (List UInt8->PR))(r0:List UInt8):PR:=
 match iS kn al r0 with
 |.bad p e=>.bad p e
 |.ok t r1=>
  match opM ((ao r1).headD 0)with
  |some k=>.ok (.mk (6+(k:Nat)) 0 [t]) (ao r1).tail
  |none=>.ok t (ao r1)
def dd(kn:Kn)(al:Option (List UInt8->PR)):Nat->List Nd->List UInt8->PR
 |0,acc,r=>.ok (oneM 4 acc) r
 |n+1,acc,r=>
  if eH ((ao r).headD 0)=true then
   match eB kn al (ao r)with
   |.bad p e=>.bad p e
   |.ok t r2=>dd kn al n (acc++[t]) r2
  else .ok (oneM 4 acc) (ao r)
def A0(kn:Kn)(al:Option (List UInt8->PR))(r:List UInt8):PR:=
 match eB kn al r with
 |.bad p e=>.bad p e
 |.ok t r1=>dd kn al (r1.length+1) [t] r1
def cF(kn:Kn)(al:Option (List UInt8->PR)):Nat->List Nd->List UInt8->PR
 |0,acc,r=>.ok (oneM 5 acc) r
 |n+1,acc,r=>
  if(ao r).headD 0=124 then
   match A0 kn al (ao r).tail with
   |.bad p e=>.bad p e
   |.ok t r2=>cF kn al n (acc++[t]) r2
  else .ok (oneM 5 acc) (ao r)
def nj(kn:Kn)(al:Option (List UInt8->PR))(r:List UInt8):PR:=
 match A0 kn al r with
 |.bad p e=>.bad p e
 |.ok t r1=>cF kn al (r1.length+1) [t] r1
def uk(kn:Kn):Nat->List UInt8->PR
 |0=>nj kn none
 |d+1=>nj kn (some (uk kn d))
def eG(kn:Kn)(l:List UInt8):XR:=
 if 4096<l.length then .bad 0 3 else
 match uk kn 20 l with
 |.bad p e=>.bad (l.length-p) e
 |.ok t r=>if(ao r).length≠0 then .bad (l.length-(ao r).length) 4 else if 2000<nsz t then .bad 0 3 else .ok t
variable{kn:Kn}
theorem tN(r:List UInt8)(h:aj (r.headD 0)=true):Good r (gk kn r):=by
 unfold gk
 split
 ·exact jj h
 split
 ·exact jj h
 exact mY _ _
theorem pd{al:Option (List UInt8->PR)}(ha:lQ al)(r:List UInt8):Good r (iS kn al r):=by
 refine Good.mono ?_ (aY r);unfold iS
 split
 ·rename_i h;exact tN _ h
 split
 ·rename_i h;obtain⟨g1,g2⟩:=bU (r:=ao r) (by rw[h];decide);exact(mY _ _).mono g1
 split
 ·rename_i h;obtain⟨g1,g2⟩:=bU (r:=ao r) (by rw[h];decide);exact⟨g1,zo⟩
 split
 ·rename_i h;exact oh ha _ (by rw[h];decide)
 exact⟨GS _,zd⟩
theorem fF{al:Option (List UInt8->PR)}(ha:lQ al)(r:List UInt8):Good r (eB kn al r):=by
 have h:=pd (kn:=kn) ha r;unfold eB
 cases hf:iS kn al r with
 |bad p e=>rw[hf]at h;exact h
 |ok t r1=>
  rw[hf]at h;have h2:=cZ r1;dsimp only
  split
  ·rename_i k hk;obtain⟨g1,g2⟩:=bU (Cj hk);exact⟨(g1.trans (aY r1)).trans h.1,by have:=h.2;omega⟩
  exact⟨(aY r1).trans h.1,by have:=h.2;omega⟩
theorem jC{al:Option (List UInt8->PR)}(ha:lQ al):∀(n:Nat) (a0:List Nd) (r:List UInt8),FC r (dd kn al n a0 r)
 |0,a0,r=>KN r
 |n+1,a0,r=>by
  unfold dd
  split
  ·have h:=(fF (kn:=kn) ha (ao r)).mono (aY r)
   cases hf:eB kn al (ao r)with
   |bad p e=>rw[hf]at h;exact h
   |ok t r2=>
    rw[hf]at h;have ih:=jC ha n (a0++[t]) r2;dsimp only
    cases hq:dd kn al n (a0++[t]) r2 with
    |bad p e=>rw[hq]at ih;exact⟨by have:=ih.1;have:=h.2;omega,ih.2⟩
    |ok t r3=>rw[hq]at ih;exact IH ih h.1
  exact aY r
theorem jD{al:Option (List UInt8->PR)}(ha:lQ al)(r:List UInt8):Good r (A0 kn al r):=by
 have h:=fF (kn:=kn) ha r;unfold A0
 cases hf:eB kn al r with
 |bad p e=>rw[hf]at h;exact h
 |ok t r1=>
  rw[hf]at h;have ih:=jC (kn:=kn) ha (r1.length+1) [t] r1;dsimp only
  cases hq:dd kn al (r1.length+1) [t] r1 with
  |bad p e=>rw[hq]at ih;exact⟨by have:=ih.1;have:=h.2;omega,ih.2⟩
  |ok t r3=>rw[hq]at ih;exact⟨IH ih h.1,by have:=Jw ih;have:=h.2;omega⟩
theorem iW{al:Option (List UInt8->PR)}(ha:lQ al):∀(n:Nat) (a0:List Nd) (r:List UInt8),FC r (cF kn al n a0 r)
 |0,a0,r=>KN r
 |n+1,a0,r=>by
  unfold cF
  split
  ·rename_i hc;obtain⟨g1,g2⟩:=bU (r:=ao r) (by rw[hc];decide);have h:=((jD (kn:=kn) ha (ao r).tail).mono g1).mono (aY r)
   cases hf:A0 kn al (ao r).tail with
   |bad p e=>rw[hf]at h;exact h
   |ok t r2=>
    rw[hf]at h;have ih:=iW ha n (a0++[t]) r2;dsimp only
    cases hq:cF kn al n (a0++[t]) r2 with
    |bad p e=>rw[hq]at ih;exact⟨by have:=ih.1;have:=h.2;omega,ih.2⟩
    |ok t r3=>rw[hq]at ih;exact IH ih h.1
  exact aY r
theorem nh{al:Option (List UInt8->PR)}(ha:lQ al)(r:List UInt8):Good r (nj kn al r):=by
 have h:=jD (kn:=kn) ha r;unfold nj
 cases hf:A0 kn al r with
 |bad p e=>rw[hf]at h;exact h
 |ok t r1=>
  rw[hf]at h;have ih:=iW (kn:=kn) ha (r1.length+1) [t] r1;dsimp only
  cases hq:cF kn al (r1.length+1) [t] r1 with
  |bad p e=>rw[hq]at ih;exact⟨by have:=ih.1;have:=h.2;omega,ih.2⟩
  |ok t r3=>rw[hq]at ih;exact⟨IH ih h.1,by have:=Jw ih;have:=h.2;omega⟩
theorem iG:∀(d:Nat) (r:List UInt8),Good r (uk kn d r)
 |0,r=>nh (fun f e=>by cases e) r
 |d+1,r=>nh (fun f e r=>by cases e;exact iG d r) r
theorem tL{r:List UInt8}{m:List UInt8×Nd}(ha:¬r.takeWhile aj=[97,110,121])(h:kn.reverse.find? (Bw (r.takeWhile aj))=some m):gk kn r=.ok m.2 (r.dropWhile aj):=by
 unfold gk;rw[if_neg ha,h]
theorem tM{r:List UInt8}(ha:¬r.takeWhile aj=[97,110,121])(h:kn.reverse.find? (Bw (r.takeWhile aj))=none):gk kn r=du 0 r:=by
 unfold gk;rw[if_neg ha,h]
end
end Go.Proofs.YtpfpmhhigheccaaGreatDoor
