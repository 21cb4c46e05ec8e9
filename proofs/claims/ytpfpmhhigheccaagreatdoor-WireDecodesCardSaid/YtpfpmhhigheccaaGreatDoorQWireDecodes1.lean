/- Texts that the proof of this statement needs, merged and shortened. -/
import Derived.Test.YtpfpmhhigheccaaGreatDoorRows
import Derived.Test.YtpfpmhhigheccaaGreatDoorCards
import Derived.Test.YtpfpmhhigheccaaGreatDoorTie
import Derived.SevenTiedAt
import Derived.LaidMore
import Derived.LaidHandle
import Derived.LaidLaws
import Derived.Lay
import Derived.Calls
import Derived.Tactics
import Derived.Deep.Quiet
import Derived.Below
import Derived.OwnWalk
import Derived.IntWalk
import Derived.Deep.LoopGhost
import Derived.Great.BuildSlice
import Derived.OrdersHeld
import Derived.StillTail
import Derived.WalkKit
import Derived.ProofKit
import Derived.OpenShut
import Derived.ShutString
import Derived.ChangeOld
import Derived.Deep.Matrix
import Derived.Deep.Slices
import Derived.Laws.Strings3
import Derived.Laws.Concat
import Derived.Laws.Slices
import Derived.Laws.Cover3
import Derived.Laws.Pointers
import Derived.Laws.OwnMore
import Derived.Laws.IdiomStrings
import Derived.Laws.BytesArg
import Derived.RangeFuncLeaves
import Derived.RangeFuncCalls
import Derived.RangeFuncSeq
import Derived.TacticsIn
import Derived.Laws.LoneSync
import Derived.Laws.CopyRow
import Derived.Lib.Builder
import Derived.Lib.AppendStr
import Derived.Lib.UnsafeStr
import Derived.Shelf.Sort.Plain
import Derived.Shelf.Slices.In.SortNone
import Derived.Ground.Names2Prog
import Derived.Shelf.Slices.CompactI
import Derived.Test.YtpfpmhhigheccaaGreatDoorProg
import Derived.Sort.OwnSortedInts
import Derived.Maps.RangeRun
import Derived.ChangeKeysEq
import Derived.Lib.SliceRun
import Derived.Test.YtpfpmhhigheccaaGreatDoorChecked
import Derived.Laws.RangeString
import Derived.Scope
import Derived.Shelf.Spec.TrailingZeros
import Derived.ArgAppend
import Derived.Lib.SlBytesConst
import Derived.Deep.Upon
open Go renaming Value->ix,World->ln,TypeId->G0,Operand->G4,Program->G7,IntKind->G8,Oper->Gv,sizeOf->GO,Exit->GP,Addr->GQ,Deferred->I2,Act->I4,Edge->Iq,Code->Ir,zeroValue->Is,FuncId->IT,isAgg->Kj,MapEntry->Kl,Calls->KK,Func->KP,Tmp->KX,Field->Li,BinOp->Lj
open Nat renaming blt->G1,eq_of_beq_eq_true->Gq,le_refl->GD,lt_of_lt_of_le->GG,zero_le->GY,zero_add->I0,le_trans->I1,not_lt_zero->I3,beq->I7,le_of_ble_eq_true->Ik,add_mul->IB,mul_one->IS,pos_of_ne_zero->J2,zero_mul->J8,min_eq_left->Jh,add_assoc->Js,pow_succ->JA,add_zero->JB,div_lt_of_lt_mul->JO,ble->Kb,lt_irrefl->KH,ne_of_gt->KM,mul_comm->KN,add_comm->KO
open Go.Result renaming andThen_ok->G2,ok->KL
open Array renaming getD_eq_getD_getElem?->G5,replicate->Jd,getElem?_setIfInBounds->Je,toList_setIfInBounds->Jl,getElem?_modify->Jw,toList_modify->JH,length_toList->JI,toList_push->JZ
open Go.Sem renaming run_bind->G6,run_pure->GA,run->Jm
open List renaming map_toArray->G9,mem_singleton->Gs,eq_nil_of_length_eq_zero->Gt,map_cons->Gu,append_assoc->Gy,mem_append->GC,getElem?_eq_some_iff->GE,map_nil->GJ,length_append->GM,getD_eq_getElem?_getD->GN,range->GS,getElem?_eq_getElem->GT,cons_append->GW,take_append_drop->I5,flatMap_cons->I6,mem_map->Ia,length_cons->Ib,findIdx?_cons->Ih,mem_range->Ii,singleton_append->Ij,replicate->Iz,getElem_mem->IE,nil_append->II,mem_filter->IJ,length_nil->IK,append_nil->IL,getElem?_eq_none->IN,dropWhile_suffix->IP,take_succ_eq_append_getElem->J5,size_toArray->J6,getElem?_map->J7,take->J9,mem_flatMap->Ja,map_append->Jf,map->Jn,sum_cons->Jq,mem_cons->Jr,getElem_cons_zero->Ju,drop_eq_nil_of_le->Jv,length_filter_le->JC,mem_append_left->JF,getElem?_modify->JG,getElem_of_mem->JP,getElem_range->JV,find?_eq_none->JW,nodup_append->K7,ext_getElem?->K8,suffix_cons->Kc,getElem_map->Kd,any_eq_true->Ke,all_eq_true->Kf,length_map->Km,foldl_cons->Ko,take_zero->Ku,take_left->Kv,findIdx?->Kz,all_cons->KA
open Go.Proofs.Tryz renaming prog->Gn,sizeOf3->GU,sizeOf25->Ie,underlying32->Im,underlying201->Iu,underlying145->Iv,underlying237->IF,underlying165->IG,underlying148->IH,underlying27->IR,sizeOf4->Jg,sizeOf24->Jy,underlying174->JJ,underlying170->JK,underlying167->JL,underlying88->K0,underlying86->K1,underlying49->K2,underlying25->K4,sizeOf9->K5,sizeOf89->Kh,sizeOf86->Ki,sizeOf28->KT,underlying235->KU,underlying218->KV,underlying127->KW,underlying91->L0,underlying61->L1,underlying30->L2,isAgg25->L3,zeroValue25->La,underlying4->Lb,underlying3->Lc,underlying0->Ld,zeroValue4->Lk,zeroValue3->Ll,zeroValue0->Lm,isAgg4->Ln,isAgg3->Lo
open Classical renaming byContradiction->Gp
open Go.Region renaming ready->Gw,wanted->Gx,noSelect->Gz,free->GR
open Option renaming map_some->GB,map_none->GX,bind_some->JT
open Bool renaming and_eq_true->GF,false_eq_true->JY,eq_iff_iff->Kq
open Go.Addr renaming add->GH
open Int renaming toNat_natCast->GI,le_refl->JQ
open Option.some renaming inj->GK,injEq->IQ
open Go.Calls renaming mono->GL
open Go.Instr renaming sureAddr->GV,findNow->Il,fill->Iy,storeAt->IV,keyThatStays->IZ,mapUpdate->Jb,sameBits->Ji,checkKey->Jj,indexAt->Jo,findKey->Jp,sameNow->Kw,lookup->KB,loadAt->KC,build->KI
open Go.Lib renaming compact->GZ,compactUpTo->It,keeps->Kp
open Go.Value renaming oneCell'->I8,int->Ig,ownBlock->Iw,cells->Jz,bool->JM,string->Ky
open Go.Act renaming eval->I9,put->IW
open Go.Exit renaming inBlock->Ic
open Go.Fence renaming wide->If
open UInt8 renaming ofNat->Io,toNat_ofNat'->JN,toNat->KG
open Go.Oper renaming wp->Ip,upon->ID,uponIn->JE,still->KS
open Go.Deferred renaming ofValue->IA
open Go.World renaming block_lt_of_cell?->IC,setCell->IU,cells?_some->JR,cell?_spot->K6,frozen?->Kr,cell?->KF
open Go.IntKind renaming signed->IM,bits->IY,max->Jt,wrap->Lu
open Go.Op renaming intCmp->IX,intArith->JU,intBits->KZ,intDiv->L4,shift->Le
open Go.Builtin renaming zeroCells->J0,append_->JX,len_->Lw,lenOf->Lx,firstCells->Ly
open Go.RowKit.Below renaming heap_setCell->J1,refl->KQ,heap_alloc->KR
open List.cons renaming injEq->J3
open Prod.mk renaming inj->J4,injEq->Ka
open Go.Code renaming region->Jc
open Go.DataW renaming trod->Jk
open Function renaming comp_def->JD
open Go.Sort renaming ahead->JS
open Go.Rows renaming mono->K9
open Go.Shelf renaming Ren->Kg
open Go.Program renaming elem->Kk
open BitVec renaming ofInt->Kx
open Go.Proofs.Lays2 renaming n20->KD
open Go.Conv renaming intToInt->KE
open Go.Proofs.Lays renaming n189->KJ
open Prod renaming fst->KY
open Go.ByteArray renaming toList_mk->L5,extract_mk->L9
open ByteArray renaming toList->L6,size->L7,getElem_eq_getElem_data->L8
open Go.Lit renaming int->Lh
open Go.StepsIn renaming trans->Lp
open Go.Machine renaming fenced->Lq
open Go.IntWalk renaming u8_in->Lr,u64_in->Ls,i64_in->Lt
open Go.CallsIn renaming mono->Lv
namespace Go.VL
theorem zo{A:Prop}(h:A:=by omega):A:=h
theorem zd{A:Prop}(h:A:=by decide):A:=h
theorem zk{A:Prop}(h:A:=by kernel_rfl):A:=h
theorem dT{p q:Prop}[Decidable p](h:decide p=true)(k:p→q:=by intro h;omega):q:=k (of_decide_eq_true h)
theorem dF{p q:Prop}[Decidable p](h:decide p=false)(k:¬p→q:=by intro h;omega):q:=k (of_decide_eq_false h)
abbrev nI(n:Int):ix:=.int .i64 n
abbrev nP(b:Nat):ix:=.pointer (some ⟨b,0,none⟩)
abbrev nA(b k:Nat):GQ:=(⟨b,0,none⟩:GQ).add k
abbrev nS:ix:=.slice none 0 0
end Go.VL
section
namespace Go.VL
abbrev St:=List (Nat×ix)
def bV:St->Nat->Option ix
 |[],_=>none
 |(k,v)::r,t=>bif I7 k t then some v else bV r t
structure Fits(N:Nat)(a:I4)(st:St):Prop where
 size:a.tmps.size=N
 defers:a.defers=[]
 get:∀t v,bV st t=some v->a.tmps[t]? = some v
def ev(st:St):G4->Option ix
 |.tmp t=>bV st t
 |.const v=>some v
 |.global g=>some (nP g)
 |.func f=>some (.func (.func f) #[] #[])
def Cov(st:St):St->Prop
 |[]=>True
 |(t,v)::r=>bV st t=some v/\Cov st r
theorem Fits.ev{N:Nat}{a:I4}{st:St}(h:Fits N a st){x:G4}{v:ix}(he:ev st x=some v):a.eval x=v:=by
 cases x with
 |tmp t=>
  have:=h.get t v he;simp[I9,G5,this]
 |const u=>simpa[VL.ev,I9]using he
 |global g=>simpa[VL.ev,I9]using he
 |func f=>simpa[VL.ev,I9]using he
theorem Fits.cov{N:Nat}{a:I4}{st:St}(h:Fits N a st):∀ {a0:St},Cov st a0->Fits N a a0:=by
 intro a0 hc;refine⟨h.size,h.defers,?_⟩
 induction a0 with
 |nil=>intro t v hv;simp[bV]at hv
 |cons p r ih=>
  obtain⟨k,u⟩:=p;obtain⟨h1,h2⟩:=hc;intro t v hv;simp only[bV]at hv
  cases hb:I7 k t with
  |true=>
   rw[hb]at hv;have:k=t:=Gq hb;simp at hv;subst this;subst hv;exact h.get _ _ h1
  |false=>rw[hb]at hv;exact ih h2 t v hv
theorem Fits.put{N:Nat}{a:I4}{st:St}(h:Fits N a st){d:Nat}(hd:G1 d N=true)(v:ix):Fits N (a.put (some d) v) ((d,v)::st):=by
 have a0:d<a.tmps.size:=by rw[h.size];exact Ik hd
 refine⟨by simp[IW,h.size],h.defers,?_⟩;intro t u hu;simp only[bV]at hu;simp only[IW,Je]
 cases hb:I7 d t with
 |true=>
  have:d=t:=Gq hb;rw[hb]at hu;simp at hu;subst this;subst hu;simp[a0]
 |false=>
  have:d≠t:=fun e=>by rw[e]at hb;simp at hb
  rw[hb]at hu;rw[if_neg this];exact h.get t u hu
section
variable(P:G7)(N:Nat)
def WL(ops:Array Gv)(Q:GP->I4->ln->Prop)(l:List Gv)(st:St)(w:ln):Prop:=∀a,Fits N a st->wpList P ops Q l a w
def WC(c:Ir)(Q:GP->I4->ln->Prop)(st:St)(w:ln):Prop:=∀a,Fits N a st->c.wp P Q a w
def QF(Q:GP->I4->ln->Prop)(e:GP)(st:St)(w:ln):Prop:=∀a,Fits N a st->Q e a w
end
section
variable{P:G7}{N:Nat}{ops:Array Gv}{Q:GP→I4→ln→Prop}{rest:List Gv}{st:St}{w:ln}
theorem WC.region{id:Nat}{l:List Gv}(h:WL P N l.toArray Q l st w):WC P N (Jc id l.toArray false) Q st w:=fun a ha=>wp_region_lit (h a ha)
theorem WL.nil(h:QF N Q .normal st w):WL P N ops Q [] st w:=h
theorem WC.seq{x y:Ir}(h:WC P N x (Exit.then (y.wp P Q) Q) st w):WC P N (.seq x y) Q st w:=fun a ha=>wp_seq (h a ha)
theorem WC.skip(h:QF N Q .normal st w):WC P N .skip Q st w:=fun a ha=>wp_skip (h a ha)
theorem WC.exit{id:Nat}(h:QF N Q (.exit id) st w):WC P N (.exit id) Q st w:=fun a ha=>wp_exit (h a ha)
theorem WC.ret(h:QF N Q .ret st w):WC P N .ret Q st w:=fun a ha=>wp_ret (h a ha)
theorem WC.block{id:Nat}{c:Ir}(h:WC P N c (Ic id Q) st w):WC P N (.block id c) Q st w:=fun a ha=>wp_block (h a ha)
theorem WC.cond{c:G4}{x y:Ir}{b:Bool}(hc:ev st c=some (.bool b))(ht:b=true->WC P N x Q st w)(hf:b=false->WC P N y Q st w):WC P N (.cond c x y) Q st w:=
 fun a ha=>wp_cond_split (ha.ev hc) (fun e=>ht e a ha) (fun e=>hf e a ha)
theorem Am{c:G4}{x y:Ir}(hc:ev st c=some (.bool true))(ht:WC P N x Q st w):WC P N (.cond c x y) Q st w:=
 fun a ha=>wp_cond_true (ha.ev hc) (ht a ha)
theorem An{c:G4}{x y:Ir}(hc:ev st c=some (.bool false))(hf:WC P N y Q st w):WC P N (.cond c x y) Q st w:=
 fun a ha=>wp_cond_false (ha.ev hc) (hf a ha)
theorem ax{y:Ir}{Q':GP->I4->ln->Prop}(h:WC P N y Q st w):QF N (Exit.then (y.wp P Q) Q') .normal st w:=h
theorem bI{K:I4->ln->Prop}{id:Nat}(h:QF N Q (.exit id) st w):QF N (Exit.then K Q) (.exit id) st w:=h
theorem dP{K:I4->ln->Prop}(h:QF N Q .ret st w):QF N (Exit.then K Q) .ret st w:=h
theorem bJ{id:Nat}(h:QF N Q .normal st w):QF N (Ic id Q) .normal st w:=h
theorem mU{id:Nat}(h:QF N Q .ret st w):QF N (Ic id Q) .ret st w:=h
theorem dv{id:Nat}(h:QF N Q .normal st w):QF N (Ic id Q) (.exit id) st w:=fun a ha=>by
 show if id=id then _ else _
 rw[if_pos rfl];exact h a ha
theorem ao{d:Nat}{b b':Bool}{l:List Gv}(hs:bV st d=some (.bool b))(hb:b=b')(h:WL P N ops Q l ((d,.bool b')::st) w):WL P N ops Q l st w:=by
 subst hb;refine fun a ha=>h a ⟨ha.size,ha.defers,fun t v hv=>?_⟩
 simp only[bV]at hv
 cases hb:I7 d t with
 |true=>rw[hb]at hv;have:=Gq hb;subst this;simp at hv;subst hv;exact ha.get _ _ hs
 |false=>rw[hb]at hv;exact ha.get _ _ hv
theorem aS{c:G4}{x y:Ir}{b:Bool}(hc:ev st c=some (.bool b))(hb:b=true)(ht:WC P N x Q st w):WC P N (.cond c x y) Q st w:=by
 subst hb;exact Am hc ht
theorem aX{c:G4}{x y:Ir}{b:Bool}(hc:ev st c=some (.bool b))(hb:b=false)(hf:WC P N y Q st w):WC P N (.cond c x y) Q st w:=by
 subst hb;exact An hc hf
theorem QF.weaken{e:GP}{a0:St}(hc:Cov st a0)(h:QF N Q e a0 w):QF N Q e st w:=fun a ha=>h a (ha.cov hc)
theorem WC.loop{α:Type}{c:Ir}(f:α->St)(g:α->ln)(I:α->Prop)(μ:α->Nat)(x0:α)(h0:I x0)(hc:Cov st (f x0))(hw:g x0=w)
  (a0:∀x,I x->WC P N c (Exit.then (fun a' w'=>∃y,I y/\μ y<μ x/\Fits N a' (f y)/\g y=w') Q) (f x) (g x)):WC P N (.loop c) Q st w:=by
 intro a ha;refine wp_loop_ghost (fun n a w=>∃y,I y/\μ y=n/\Fits N a (f y)/\g y=w) (μ x0) ⟨x0,h0,rfl,ha.cov hc,hw⟩ ?_;rintro n a w ⟨x,hI,rfl,hf,rfl⟩;refine wp_mono (a0 x hI a hf) ?_;intro e a' w' hq
 cases e with
 |normal=>obtain⟨y,h1,h2,h3,h4⟩:=hq;exact⟨μ y,h2,y,h1,rfl,h3,h4⟩
 |_=>exact hq
theorem QF.next{α:Type}{f:α->St}{g:α->ln}{I:α->Prop}{m:Nat}{μ:α->Nat}(y:α)(h1:I y)(h2:μ y<m)(h3:Cov st (f y))(h4:g y=w):
 QF N (Exit.then (fun a' w'=>∃y,I y/\μ y<m/\Fits N a' (f y)/\g y=w') Q) .normal st w:=fun _ ha=>⟨y,h1,h2,ha.cov h3,h4⟩
theorem cm{o:Gv}(h:o.guard=none)(y:Nat->Option Bool):Gx o y=true:=by simp[Gx,h]
theorem WL.step{o:Gv}(hg:o.guard=none)(h:∀a,Fits N a st->o.wp P a w (wpList P ops Q rest) Q):WL P N ops Q (o::rest) st w:=by
 intro a ha;unfold wpList;rw[if_pos (cm hg _)];exact .inl (h a ha)
theorem WL.val{op:Op}{t:G0}{p:String}{e:Array Iq}{d:Nat}{v:ix}{w':ln}(hd:G1 d N=true)
  (a0:∀a:I4,Fits N a st->(execOp a.eval ⟨some d,op,t,p,e,none⟩).run P w=.ok (.value v) w')
  (h:WL P N ops Q rest ((d,v)::st) w'):WL P N ops Q (⟨some d,op,t,p,e,none⟩::rest) st w:=by
 refine WL.step rfl fun a ha=>?_
 unfold Ip;rw[a0 a ha];exact h _ (ha.put hd v)
theorem gO{op:Op}{t:G0}{p:String}{e:Array Iq}{w':ln}
  (a0:∀a:I4,Fits N a st->(execOp a.eval ⟨none,op,t,p,e,none⟩).run P w=.ok .skip w')
  (h:WL P N ops Q rest st w'):WL P N ops Q (⟨none,op,t,p,e,none⟩::rest) st w:=by
 refine WL.step rfl fun a ha=>?_
 unfold Ip;rw[a0 a ha];exact h _ ha
def said(ops:Array Gv)(st:St)(j:Nat):Option Bool:=
 match (ops[j]?).bind (·.dst)with
 |some d=>match bV st d with
  |some (.bool b)=>some b
  |_=>none
 |none=>none
theorem bM{a:I4}(ha:Fits N a st){j:Nat}{b:Bool}(h:said ops st j=some b):yielded ops a.tmps j=some b:=by
 unfold said at h;unfold yielded
 cases hd:(ops[j]?).bind (·.dst)with
 |none=>rw[hd]at h;simp at h
 |some d=>
  rw[hd]at h;simp only at h
  cases hs:bV st d with
  |none=>rw[hs]at h;simp at h
  |some v=>
   rw[hs]at h
   cases v<;>simp at h
   subst h;simp[ha.get _ _ hs]
theorem DV{op:Op}{t:G0}{p:String}{e:Array Iq}{d:Option KX}{j:Nat}{b:Bool}(hs:said ops st j=some b)
  (h:WL P N ops Q (⟨d,op,t,p,e,none⟩::rest) st w):WL P N ops Q (⟨d,op,t,p,e,some (j,b)⟩::rest) st w:=by
 intro a ha;have h1:=h a ha;unfold wpList at h1 ⊢;rw[if_pos (by simp[Gx])]at h1;rw[if_pos (by simp[Gx,bM ha hs])];exact h1
theorem WL.off{op:Op}{t:G0}{p:String}{e:Array Iq}{d:Nat}{j:Nat}{b b':Bool}(hs:said ops st j=some b')(a0:(b'==b)=false)(hd:G1 d N=true)
  (h:WL P N ops Q rest ((d,undef)::st) w):WL P N ops Q (⟨some d,op,t,p,e,some (j,b)⟩::rest) st w:=by
 intro a ha;unfold wpList;rw[if_neg (by simp[Gx,bM ha hs];simpa using a0)];exact h _ (ha.put hd undef)
def lV(ops:Array Gv)(st:St)(j:Nat):Bool:=
 match (ops[j]?).bind (·.dst)with
 |some d=>match bV st d with
  |some (.tuple _)=>true
  |_=>false
 |none=>false
theorem Ai{op:Op}{t:G0}{p:String}{e:Array Iq}{d:Nat}{j:Nat}{b:Bool}(hs:lV ops st j=true)(hd:G1 d N=true)
  (h:WL P N ops Q rest ((d,undef)::st) w):WL P N ops Q (⟨some d,op,t,p,e,some (j,b)⟩::rest) st w:=by
 intro a ha;unfold wpList;rw[if_neg ?_]
 ·exact h _ (ha.put hd undef)
 unfold lV at hs;simp only[Gx,yielded]
 cases hd:(ops[j]?).bind (·.dst)with
 |none=>rw[hd]at hs;simp at hs
 |some d=>
  rw[hd]at hs;simp only at hs
  cases hx:bV st d with
  |none=>rw[hx]at hs;simp at hs
  |some v=>
   rw[hx]at hs
   cases v<;>simp at hs
   simp[ha.get _ _ hx]
def RV(P:G7)(N:Nat)(op:Op)(t:G0)(st:St)(w:ln)(v:ix):Prop:=
 ∀a:I4,Fits N a st->∀(dst:Option KX) (p:String) (e:Array Iq) (g:Option (Nat×Bool)),(execOp a.eval ⟨dst,op,t,p,e,g⟩).run P w=.ok (.value v) w
theorem lq{op:Op}{t:G0}{p:String}{e:Array Iq}{d:Nat}{v:ix}(hv:RV P N op t st w v)(hd:G1 d N=true)
 (h:WL P N ops Q rest ((d,v)::st) w):WL P N ops Q (⟨some d,op,t,p,e,none⟩::rest) st w:=WL.val hd (fun a ha=>hv a ha _ _ _ _) h
section
variable{t:G0}{p:String}{e:Array Iq}{d:Nat}{x y z:G4}
theorem RV.move{v:ix}(hx:ev st x=some v):RV P N (.move x) t st w (v):=
 fun a ha a0 p e g=>by simp only[execOp,ha.ev hx];rfl
theorem RV.assign{v:ix}(hx:ev st x=some v):RV P N (.assign x) t st w (v):=
 fun a ha a0 p e g=>by simp only[execOp,ha.ev hx];rfl
theorem gY{a:I4}{b:Bool}{a0:Option KX}{g:Option (Nat×Bool)}(hx:a.eval x=.bool b):(execOp a.eval ⟨a0,.pick x y z,t,p,e,g⟩).run P w=.ok (.value (bif b then a.eval y else a.eval z)) w:=by
 simp only[execOp,hx];cases b<;>rfl
theorem bF{u:ix}(hc:ev st x=some (.bool false))(hz:ev st z=some u):RV P N (.pick x y z) t st w (u):=
 fun a ha a0 p e g=>by rw[gY (ha.ev hc),ha.ev hz];rfl
theorem bT{v:ix}(hc:ev st x=some (.bool true))(hy:ev st y=some v):RV P N (.pick x y z) t st w (v):=
 fun a ha a0 p e g=>by rw[gY (ha.ev hc),ha.ev hy];rfl
theorem aq{q:GQ}(hx:ev st x=some (.pointer (some q))):RV P N (.nilCheck x) t st w (.pointer (some q)):=
 fun a ha a0 p e g=>by simp only[execOp,ha.ev hx];rfl
section
variable{k:G8}{m n:Int}{xt yt:G0}
theorem sS{op:Lj}{k k':G8}{m n:Int}{a:I4}{a0:Option KX}{g:Option (Nat×Bool)}(hx:a.eval x=.int k m)(hy:a.eval y=.int k' n){v:ix}(h:(binOp op xt (.int k m) (.int k' n)).run P w=.ok v w):
  (execOp a.eval ⟨a0,.binOp op xt x y yt,t,p,e,g⟩).run P w=.ok (.value v) w:=by
 simp only[execOp,hx,hy];have hg:(eqGuard op xt x y (.int k m) (.int k' n))=pure ():=by
  unfold eqGuard;cases op<;>rfl
 rw[hg];simp[h]
theorem dm{op:Lj}{k':G8}{v:ix}(hx:ev st x=some (.int k m))(hy:ev st y=some (.int k' n))(hv:(binOp op xt (.int k m) (.int k' n)).run P w=.ok v w):RV P N (.binOp op xt x y yt) t st w (v):=
 fun _ ha _ _ _ _=>sS (ha.ev hx) (ha.ev hy) hv
theorem Cu:(binOp .add xt (.int k m) (.int k n)).run P w=.ok (.int k (k.wrap (m+n))) w:=by simp[binOp,JU,pure]
theorem Ck:(binOp .sub xt (.int k m) (.int k n)).run P w=.ok (.int k (k.wrap (m-n))) w:=by simp[binOp,JU,pure]
theorem yn:(binOp .mul xt (.int k m) (.int k n)).run P w=.ok (.int k (k.wrap (m*n))) w:=by simp[binOp,JU,pure]
theorem Cm(hn:n≠0):(binOp .quo xt (.int k m) (.int k n)).run P w=.ok (.int k (k.wrap (m.tdiv n))) w:=by simp[binOp,L4,hn,pure]
theorem Cl(hn:n≠0):(binOp .rem xt (.int k m) (.int k n)).run P w=.ok (.int k (m.tmod n)) w:=by simp[binOp,L4,hn,pure]
theorem Co:(binOp .lss xt (.int k m) (.int k n)).run P w=.ok (.bool (decide (m<n))) w:=by simp[binOp,IX,pure]
theorem Cp:(binOp .leq xt (.int k m) (.int k n)).run P w=.ok (.bool (decide (m<=n))) w:=by simp[binOp,IX,pure]
theorem Cq:(binOp .gtr xt (.int k m) (.int k n)).run P w=.ok (.bool (decide (n<m))) w:=by simp[binOp,IX,pure]
theorem Cr:(binOp .geq xt (.int k m) (.int k n)).run P w=.ok (.bool (decide (n<=m))) w:=by simp[binOp,IX,pure]
theorem Cs:(binOp .eql xt (.int k m) (.int k n)).run P w=.ok (.bool (m==n)) w:=by simp[binOp,IX,pure]
theorem Cn:(binOp .neq xt (.int k m) (.int k n)).run P w=.ok (.bool (m != n)) w:=by simp[binOp,IX,pure]
def Fit(k:G8)(r:Int):Prop:=k.wrap r=r
theorem Fit.i64{r:Int}(h : -9223372036854775808<=r/\r<=9223372036854775807):Fit .i64 r:=Lt r h
theorem Fit.u8{r:Int}(h:0<=r/\r<=255):Fit .u8 r:=Lr r h
theorem Fit.u64{r:Int}(h:0<=r/\r<=18446744073709551615):Fit .u64 r:=Ls r h
theorem RV.add(hx:ev st x=some (.int k m))(hy:ev st y=some (.int k n))(hr:Fit k (m+n)):RV P N (.binOp .add xt x y yt) t st w (.int k (m+n)):=
 dm hx hy (by rw[Cu,hr])
theorem RV.sub(hx:ev st x=some (.int k m))(hy:ev st y=some (.int k n))(hr:Fit k (m-n)):RV P N (.binOp .sub xt x y yt) t st w (.int k (m-n)):=
 dm hx hy (by rw[Ck,hr])
theorem RV.mul(hx:ev st x=some (.int k m))(hy:ev st y=some (.int k n))(hr:Fit k (m*n)):RV P N (.binOp .mul xt x y yt) t st w (.int k (m*n)):=
 dm hx hy (by rw[yn,hr])
theorem RV.lss(hx:ev st x=some (.int k m))(hy:ev st y=some (.int k n)):RV P N (.binOp .lss xt x y yt) t st w (.bool (decide (m<n))):=
 dm hx hy Co
theorem RV.leq(hx:ev st x=some (.int k m))(hy:ev st y=some (.int k n)):RV P N (.binOp .leq xt x y yt) t st w (.bool (decide (m<=n))):=
 dm hx hy Cp
theorem RV.gtr(hx:ev st x=some (.int k m))(hy:ev st y=some (.int k n)):RV P N (.binOp .gtr xt x y yt) t st w (.bool (decide (n<m))):=
 dm hx hy Cq
theorem RV.geq(hx:ev st x=some (.int k m))(hy:ev st y=some (.int k n)):RV P N (.binOp .geq xt x y yt) t st w (.bool (decide (n<=m))):=
 dm hx hy Cr
theorem RV.eql(hx:ev st x=some (.int k m))(hy:ev st y=some (.int k n)):RV P N (.binOp .eql xt x y yt) t st w (.bool (m==n)):=
 dm hx hy Cs
theorem RV.neq(hx:ev st x=some (.int k m))(hy:ev st y=some (.int k n)):RV P N (.binOp .neq xt x y yt) t st w (.bool (m != n)):=
 dm hx hy Cn
theorem RV.not{b:Bool}(hx:ev st x=some (.bool b)):RV P N (.unOp .not xt x) t st w (.bool (!b)):=
 fun a ha a0 p e g=>by simp only[execOp,ha.ev hx];rfl
theorem dJ{k':G8}{a0:TypeDesc}(hs:P.underlying xt=some a0)(a2:P.underlying yt=some (.int k'))(hx:ev st x=some (.int k m))(hr:Fit k' m):RV P N (.convert xt yt x) t st w (.int k' m):=
 fun a ha a3 p e g=>by
  have a1:k'.wrap m=m:=hr;simp only[execOp,ha.ev hx];simp[convert,run_underlying hs,run_underlying a2,KE,a1]
theorem jZ{k':G8}{a0:TypeDesc}(hs:P.underlying xt=some a0)(a1:P.underlying yt=some (.int k'))(hx:ev st x=some (.int k m)):RV P N (.convert xt yt x) t st w (.int k' (k'.wrap m)):=
 fun a ha a2 p e g=>by
  simp only[execOp,ha.ev hx];simp[convert,run_underlying hs,run_underlying a1,KE]
end
theorem RV.extract{vs:Array ix}{i:Nat}{v:ix}(hx:ev st x=some (.tuple vs))(hv:vs[i]? = some v):RV P N (.extract x i) t st w (v):=
 fun a ha a0 p e g=>by simp only[execOp,ha.ev hx];simp[Instr.extract,hv]
def evs(st:St):List G4->Option (List ix)
 |[]=>some []
 |x::r=>match ev st x,evs st r with
  |some v,some vs=>some (v::vs)
  |_,_=>none
theorem Fits.evs{a:I4}(ha:Fits N a st):∀ {l:List G4} {vs:List ix},evs st l=some vs->l.map a.eval=vs:=by
 intro l
 induction l with
 |nil=>intro vs h;simpa[VL.evs]using h.symm
 |cons x r ih=>
  intro vs h;simp only[VL.evs]at h
  cases h1:VL.ev st x with
  |none=>rw[h1]at h;simp at h
  |some v=>
   cases h2:VL.evs st r with
   |none=>rw[h1,h2]at h;simp at h
   |some vs'=>
    rw[h1,h2]at h;simp at h;subst h;rw[Gu,ha.ev h1,ih h2]
theorem dH{fn:Fn}{f c:List G4}{fs cs:List ix}(hf:evs st f=some fs)(hc:evs st c=some cs):RV P N (.makeFunc fn f.toArray c.toArray) t st w (.func fn fs.toArray cs.toArray):=
 fun a ha a0 p e g=>by simp only[execOp,Instr.makeFunc,G9,ha.evs hf,ha.evs hc];rfl
theorem WL.box{E:G0}{v:ix}(hx:ev st x=some v)(hd:G1 d N=true)
  (h:WL P N ops Q rest ((d,.pointer (some ⟨w.heap.size,0,none⟩))::st) (w.alloc (.cells v.cells E))):WL P N ops Q (⟨some d,.box E x,t,p,e,none⟩::rest) st w:=
 WL.val hd (fun a ha=>by simp only[execOp,ha.ev hx];rfl) h
theorem WL.alloc{E:G0}{z:ix}(hz:(Is E).run P w=.ok z w)(hd:G1 d N=true)
  (h:WL P N ops Q rest ((d,.pointer (some ⟨w.heap.size,0,none⟩))::st) (w.alloc (.cells z.cells E))):WL P N ops Q (⟨some d,.alloc E,t,p,e,none⟩::rest) st w:=
 WL.val hd (fun a ha=>by
  simp only[execOp,Instr.alloc]
  simp[hz,newVar,newRow,newObj];rfl) h
def Ret(P:G7)(f:IT)(args:List ix)(w:ln)(R:ix->ln->Prop):Prop:=
 KK P f args.toArray w fun | .returned v,w'=>R v w'|_,_=>False
theorem Ret.mono{f:IT}{args:List ix}{w:ln}{R R':ix->ln->Prop}(h:Ret P f args w R)(hr:∀v w',R v w'->R' v w'):Ret P f args w R':=
 GL h fun e w' q=>by cases e<;>first|exact hr _ _ q|exact q.elim
theorem WL.call{f:IT}{args:List G4}{a2:Array G0}{vs:List ix}{R:ix->ln->Prop}
  (hf:∀(args:Array ix) (w:ln),(callFunc f args).run P w=.ok (.enter f args) w) (a0:evs st args=some vs) (hc:Ret P f vs w R) (hd:G1 d N=true)
  (h:∀v w',R v w'->WL P N ops Q rest ((d,v)::st) w'):WL P N ops Q (⟨some d,.call ⟨.value (.func f),args.toArray,a2⟩,t,p,e,none⟩::rest) st w:=by
 refine WL.step rfl fun a ha=>?_
 unfold Ip;have a1:(execOp a.eval ⟨some d,.call ⟨.value (.func f),args.toArray,a2⟩,t,p,e,none⟩).run P w=.ok (.enter f vs.toArray) w:=by
  simp only[execOp,resolve,I9,G9];rw[ha.evs a0];simp[IA,invoke,hf]
 rw[a1];exact GL hc fun e w' q=>by
  cases e with
  |returned v=>exact h v w' q _ (ha.put hd v)
  |panicked c=>exact q.elim
  |outgrown=>exact q.elim
theorem df{f:IT}{args:List G4}{a2:Array G0}{vs:List ix}{cs:Array ix}{R:ix->ln->Prop}
  (hx:ev st x=some (.func (.func f) #[] cs))
  (hf:∀(args:Array ix) (w:ln),(callFunc f args).run P w=.ok (.enter f args) w) (a0:evs st args=some vs) (hc:Ret P f (vs++cs.toList) w R) (hd:G1 d N=true)
  (h:∀v w',R v w'->WL P N ops Q rest ((d,v)::st) w'):WL P N ops Q (⟨some d,.call ⟨.value x,args.toArray,a2⟩,t,p,e,none⟩::rest) st w:=by
 refine WL.step rfl fun a ha=>?_
 unfold Ip;have a1:(execOp a.eval ⟨some d,.call ⟨.value x,args.toArray,a2⟩,t,p,e,none⟩).run P w=.ok (.enter f (vs++cs.toList).toArray) w:=by
  simp only[execOp,resolve,G9,ha.evs a0,ha.ev hx];simp[IA,invoke,hf]
 rw[a1];exact GL hc fun e w' q=>by
  cases e with
  |returned v=>exact h v w' q _ (ha.put hd v)
  |panicked c=>exact q.elim
  |outgrown=>exact q.elim
end
end
def RP(P:G7)(fn:KP)(R:ix->ln->Prop):GP->I4->ln->Prop
 |.normal,a,w |.ret,a,w=>a.defers=[]/\∃v,(results fn a.tmps).run P w=.ok v w/\R v w
 |_,_,_=>False
theorem Ret.body{P:G7}{N:Nat}{f:IT}{fn:KP}{c:Ir}{args:List ix}{st:St}{w:ln}{R:ix->ln->Prop}
  (hf:P.funcs[f]? = some fn) (hb:fn.body=some c) (hN:fn.ntmps=N) (a0:Fits N { tmps:=args.toArray++Jd (N-args.length) undef,defers:=[] } st)
  (h:WC P N c (RP P fn R) st w):Ret P f args w R:=by
 refine calls_of_wp hf hb ?_;rw[hN];refine wp_mono (h _ (by simpa using a0)) ?_
 intro e a w' q
 cases e<;>first|exact q|exact q.elim
theorem oE{N:Nat}:∀ {args:List ix} (_:Kb args.length N=true) {st:St} (_:∀t v,bV st t=some v->args[t]? = some v),
  Fits N { tmps:=args.toArray++Jd (N-args.length) undef,defers:=[] } st:=by
 intro args hN st h;have a1:args.length<=N:=Ik hN;refine⟨by simp;omega,rfl,fun t v hv=>?_⟩;have:=h t v hv;have a0:t<args.length:=(GE.1 this).1;rw[Array.getElem?_append_left (by simpa using a0)];simpa using this
def Ci:Nat->List ix->St
 |_,[]=>[]
 |k,v::r=>(k,v)::Ci (k+1) r
theorem lR:∀(args:List ix) (k t:Nat) (v:ix),bV (Ci k args) t=some v->k<=t/\args[t-k]? = some v
 |[],k,t,v,h=>by simp[Ci,bV]at h
 |u::r,k,t,v,h=>by
  simp only[Ci,bV]at h
  cases hb:I7 k t with
  |true=>
   rw[hb]at h;have:k=t:=Gq hb;subst this;simpa using h
  |false=>
   rw[hb]at h;obtain⟨h1,h2⟩:=lR r (k+1) t v h;refine⟨zo,?_⟩;rw[show t-k=(t-(k+1))+1 from by omega];simpa using h2
theorem Ret.enter{P:G7}{N:Nat}{f:IT}{fn:KP}{c:Ir}{args:List ix}{w:ln}{R:ix->ln->Prop}
  (hf:P.funcs[f]? = some fn) (hN:fn.ntmps=N) (hb:fn.body=some c) (a0:Kb args.length N=true)
  (h:WC P N c (RP P fn R) (Ci 0 args) w):Ret P f args w R:=
 Ret.body hf hb hN (oE a0 fun t v hv=>by simpa using(lR args 0 t v hv).2) h
section
variable{P:G7}{N:Nat}{st:St}{w:ln}{fn:KP}{R:ix→ln→Prop}
theorem ae{t:KX}{v:ix}(hr:fn.results = #[.tmp t])(hv:bV st t=some v)(h:R v w):QF N (RP P fn R) .ret st w:=fun a ha=>
 ⟨ha.defers,v,by have:=ha.get _ _ hv;simp[results,hr,G5,this],h⟩
theorem aE(hr:fn.results = #[])(h:R (.tuple #[]) w):QF N (RP P fn R) .normal st w:=fun a ha=>⟨ha.defers,_,by simp[results,hr],h⟩
theorem cj(hr:fn.results = #[])(h:R (.tuple #[]) w):QF N (RP P fn R) .ret st w:=fun a ha=>⟨ha.defers,_,by simp[results,hr],h⟩
theorem bC{t u:KX}{v v':ix}(hr:fn.results = #[.tmp t,.tmp u])(hv:bV st t=some v)(a0:bV st u=some v')(h:R (.tuple #[v,v']) w):QF N (RP P fn R) .ret st w:=fun a ha=>
 ⟨ha.defers,_,by have:=ha.get _ _ hv;have h2:=ha.get _ _ a0;simp[results,hr,G5,this,h2],h⟩
end
open Go.RowKit (Below)
def Ext(w w':ln):Prop:=Below w.heap.size w w'
theorem Ext.refl(w:ln):Ext w w:=KQ _ _
theorem Ext.trans{a b c:ln}(h:Ext a b)(k:Ext b c):Ext a c:=Below.trans h (Below.mono k h.size)
theorem Ext.alloc(w:ln)(o:Obj):Ext w (w.alloc o):=(KQ _ _).alloc (GD _) o
theorem Ext.drew{w w':ln}(h:Ext w w'):Ext w w'.drew:=⟨h.os,h.tape,h.output,h.size,h.block⟩
theorem Ext.cell{w w':ln}(h:Ext w w'){a:GQ}{v:ix}(hc:w.cell? a=some v):w'.cell? a=some v:=
 (Below.cell h (IC w a hc)).trans hc
def adr(v:ix)(sz i:Nat):GQ:=
 match v with
 |.slice (some a) _ _=>⟨a.block,a.off+i*sz,none⟩
 |_=>default
def nth{α:Type}[Inhabited α](xs:List α)(i:Nat):α:=xs.getD i default
theorem aB{α:Type}[Inhabited α]{xs:List α}{i:Nat}(h:i<xs.length):nth xs i=xs[i]:=by
 simp[nth,GN,h]
theorem au{α:Type}[Inhabited α](a:α)(l:List α):nth (a::l) 0=a:=rfl
theorem bp{α:Type}[Inhabited α](a:α)(l:List α)(i:Nat):nth (a::l) (i+1)=nth l i:=rfl
attribute [irreducible] nth
structure Sl{α:Type}(enc:α->List ix)(sz:Nat)(w:ln)(v:ix)(xs:List α):Prop where
 shape:∃a c,v=.slice a xs.length c/\xs.length<=c/\c<=9223372036854775807/\(xs.length≠0->∃b o,a=some ⟨b,o,none⟩)
 cells:∀i (h:i<xs.length) j u,(enc xs[i])[j]? = some u->w.cell? ((adr v sz i).add j)=some u
theorem Sl.of_cells{α:Type}{enc:α->List ix}{sz:Nat}{w w':ln}{v:ix}{xs:List α}(h:Sl enc sz w v xs)(hc:∀a u,w.cell? a=some u->w'.cell? a=some u):Sl enc sz w' v xs:=
 ⟨h.shape,fun i hi j u hu=>hc _ _ (h.cells i hi j u hu)⟩
theorem Sl.ext{α:Type}{enc:α->List ix}{sz:Nat}{w w':ln}{v:ix}{xs:List α}(h:Sl enc sz w v xs)(e:Ext w w'):Sl enc sz w' v xs:=h.of_cells fun _ _=>e.cell
theorem Sl.drew{α:Type}{enc:α->List ix}{sz:Nat}{w:ln}{v:ix}{xs:List α}(h:Sl enc sz w v xs):Sl enc sz w.drew v xs:=h.of_cells fun _ _ h=>h
theorem Sl.one{α:Type}{enc:α->List ix}{sz:Nat}{w:ln}{v:ix}{xs:List α}(h:Sl enc sz w v xs):v.oneCell'=true:=by
 obtain⟨_,_,rfl,_⟩:=h.shape;rfl
theorem Sl.len_le{α:Type}{enc:α->List ix}{sz:Nat}{w:ln}{v:ix}{xs:List α}(h:Sl enc sz w v xs):xs.length<=9223372036854775807:=by
 obtain⟨a,c,_,h1,h2,_⟩:=h.shape;omega
theorem Sl.cell{α:Type}[Inhabited α]{enc:α->List ix}{sz:Nat}{w:ln}{v:ix}{xs:List α}(h:Sl enc sz w v xs){i j:Nat}{u:ix}(hi:i<xs.length)(hu:(enc (nth xs i))[j]? = some u):w.cell? ((adr v sz i).add j)=some u:=
 h.cells i hi j u (by rw[<-aB hi];exact hu)
theorem az(v:ix)(sz i:Nat):(adr v sz i).add 0=adr v sz i:=rfl
theorem Sl.ld{α:Type}[Inhabited α]{val:α->ix}{sz:Nat}{w:ln}{v:ix}{xs:List α}(h:Sl (fun x=>[val x]) sz w v xs){i:Nat}(hi:i<xs.length):w.cell? (adr v sz i)=some (val (nth xs i)):=
 h.cell (j:=0) hi rfl
abbrev Ints(w:ln)(v:ix)(xs:List Int):Prop:=Sl (fun(x:Int)=>[nI x]) 1 w v xs
abbrev Gk(w:ln)(v:ix)(xs:List Nat):Prop:=Sl (fun(x:Nat)=>[nI (x:Int)]) 1 w v xs
section
variable{P:G7}{N:Nat}{ops:Array Gv}{Q:GP→I4→ln→Prop}{rest:List Gv}{st:St}{w:ln}
variable{t:G0}{p:String}{e:Array Iq}{d:Nat}{x y z:G4}
theorem RV.len{T E:G0}{α:Type}{enc:α->List ix}{sz:Nat}{v:ix}{xs:List α}(hs:Sl enc sz w v xs)(hu:P.underlying T=some (.slice E))(hx:ev st x=some v):RV P N (.call ⟨.builtin .len,#[x],#[T]⟩) t st w (nI (xs.length:Int)):=
 fun a ha a0 p e g=>by
  obtain⟨ad,c,hv,_⟩:=hs.shape;simp only[execOp,resolve,G9,Gu,GJ,ha.ev hx];subst hv;simp[invoke,Go.builtin,Lw,run_underlying hu,goInt]
theorem RV.indexAddr{T E:G0}{α:Type}{enc:α->List ix}{sz:Nat}{v:ix}{xs:List α}{k:G8}{i:Int}(hs:Sl enc sz w v xs)(hu:P.underlying T=some (.slice E))(hE:(GO E).run P w=.ok sz w)
  (hx:ev st x=some v) (hy:ev st y=some (.int k i)) (n:Nat) (hi:i=n) (hn:n<xs.length):RV P N (.indexAddr T x y) t st w (.pointer (some (adr v sz n))):=
 fun a ha a0 p e g=>by
  obtain⟨ad,c,hv,_,_,hb⟩:=hs.shape;obtain⟨b,o,rfl⟩:=hb zo;simp only[execOp,ha.ev hx,ha.ev hy];subst hv;subst hi;have:((n:Int)<(xs.length:Int)):=zo;simp only[adr];have he:(if n*sz=0 then(⟨b,o,none⟩:GQ)else⟨b,o+n*sz,none⟩)=⟨b,o+n*sz,none⟩:=by split<;>simp_all
  simp[Jo,asIntOf,run_underlying hu,hE,GH,hn,he]
def Shape(v:ix)(n:Nat):Prop:=∃a c,v=.slice a n c/\(n≠0->∃b o,a=some ⟨b,o,none⟩)
theorem Sl.sh{α:Type}{enc:α->List ix}{sz:Nat}{w:ln}{v:ix}{xs:List α}(h:Sl enc sz w v xs):Shape v xs.length:=by
 obtain⟨a,c,h1,_,_,h2⟩:=h.shape;exact⟨a,c,h1,h2⟩
theorem aA{T E:G0}{sz m:Nat}{v:ix}{k:G8}{i:Int}(hs:Shape v m)(hu:P.underlying T=some (.slice E))(hE:(GO E).run P w=.ok sz w)
  (hx:ev st x=some v) (hy:ev st y=some (.int k i)) (n:Nat) (hi:i=n) (hn:n<m):RV P N (.indexAddr T x y) t st w (.pointer (some (adr v sz n))):=
 fun a ha a0 p e g=>by
  obtain⟨ad,c,hv,hb⟩:=hs;obtain⟨b,o,rfl⟩:=hb zo;simp only[execOp,ha.ev hx,ha.ev hy];subst hv;subst hi;simp only[adr];have he:(if n*sz=0 then(⟨b,o,none⟩:GQ)else⟨b,o+n*sz,none⟩)=⟨b,o+n*sz,none⟩:=by split<;>simp_all
  simp[Jo,asIntOf,run_underlying hu,hE,GH,hn,he]
theorem RV.load{T:G0}{q:GQ}{u:ix}(hc:w.cell? q=some u)(hT:(Kj T).run P w=.ok false w)(hx:ev st x=some (.pointer (some q))):RV P N (.load T x) t st w (u):=
 fun a ha a0 p e g=>by
  simp only[execOp,ha.ev hx];simp[KC,GV,loadVar,hT,hc]
theorem run_loadCellsFrom{q:GQ}:∀(us:List ix) (i:Nat) (a0:Array ix),(∀j u,us[j]? = some u->w.cell? (q.add (i+j))=some u)->(loadCellsFrom q i us.length a0).run P w=.ok (a0++us.toArray) w
 |[],i,a0,_=>by simp[loadCellsFrom]
 |u::r,i,a0,h=>by
  have h0:=h 0 u rfl;have ih:=run_loadCellsFrom r (i+1) (a0.push u) (fun j v hv=>by have:=h (j+1) v (by simpa using hv);rwa[show i+1+j=i+(j+1)from by omega]);simp only[JB]at h0;simp[loadCellsFrom,h0,ih]
theorem ah{T:G0}{q:GQ}{us:List ix}(hc:∀j u,us[j]? = some u->w.cell? (q.add j)=some u)(hT:(Kj T).run P w=.ok true w)(hn:(GO T).run P w=.ok us.length w)(hx:ev st x=some (.pointer (some q))):RV P N (.load T x) t st w (.agg us.toArray):=
 fun a ha a0 p e g=>by
  simp only[execOp,ha.ev hx];have:=run_loadCellsFrom (P:=P) us 0 #[] (q:=q) (w:=w) (by simpa using hc);simp[KC,GV,loadVar,hT,hn,loadCells,this]
theorem RV.fieldAddr{S:G0}{fs:Array Li}{f m:Nat}{fd:Li}{q:GQ}(o:Nat)(hu:P.underlying S=some (.struct fs))(hf:fs[f]? = some fd)(ho:fd.offset=o)(hz:(GO fd.type).run P w=.ok m w)(hm:m≠0)
  (hx:ev st x=some (.pointer (some q))):RV P N (.fieldAddr S x f) t st w (.pointer (some (q.add o))):=
 fun a ha a0 p e g=>by
  subst ho;simp only[execOp,ha.ev hx];simp[Instr.fieldAt,GV,fieldPlace,run_underlying hu,hf,hz,hm]
end
end Go.VL
end
section
namespace Go.VL
open Go.RowKit (Below)
structure Upd(S:Nat->Prop)(O:Nat->Nat)(w:ln)(O':Nat->Nat)(w':ln):Prop where
 os:w'.os=w.os
 tape:w'.tape=w.tape
 output:w'.output=w.output
 size:w.heap.size<=w'.heap.size
 blk:∀b,b<w.heap.size->¬S (O b)->w'.heap[b]? = w.heap[b]?
 tag:∀b,O b≠0->O' b=O b
 new:∀b,O' b≠0->O b≠0\/(w.heap.size<=b/\b<w'.heap.size)
 z:¬S 0
structure Rng(B:Nat)(O:Nat->Nat)(w:ln):Prop where
 le:B<=w.heap.size
 rng:∀b,O b≠0->B<=b/\b<w.heap.size
theorem Upd.refl{S:Nat->Prop}(h:¬S 0)(O:Nat->Nat)(w:ln):Upd S O w O w:=⟨rfl,rfl,rfl,GD _,fun _ _ _=>rfl,fun _ _=>rfl,fun _ h=>.inl h,h⟩
theorem Upd.mono{S S':Nat->Prop}{O O':Nat->Nat}{w w':ln}(h:Upd S O w O' w')(hs:∀i,S i->S' i)(hz:¬S' 0):Upd S' O w O' w':=
 ⟨h.os,h.tape,h.output,h.size,fun b hb hn=>h.blk b hb fun hS=>hn (hs _ hS),h.tag,h.new,hz⟩
theorem Upd.trans{S:Nat->Prop}{O O1 O2:Nat->Nat}{w w1 w2:ln}(h:Upd S O w O1 w1)(k:Upd S O1 w1 O2 w2):Upd S O w O2 w2:=by
 refine⟨k.os.trans h.os,k.tape.trans h.tape,k.output.trans h.output,I1 h.size k.size,fun b hb hn=>?_,fun b hb=>?_,fun b hb=>?_,h.z⟩
 ·refine(k.blk b (GG hb h.size) ?_).trans (h.blk b hb hn)
  by_cases h0:O b=0
  ·have:O1 b=0:=by
    refine Gp fun a0=>?_
    rcases h.new b a0 with h1|h1
    ·exact h1 h0
    omega
   rw[this];exact h.z
  rw[h.tag b h0];exact hn
 ·have h1:=h.tag b hb;rw[k.tag b (by rw[h1];exact hb),h1]
 rcases k.new b hb with h1|h1
 ·rcases h.new b h1 with h2|h2
  ·exact .inl h2
  exact .inr ⟨h2.1,GG h2.2 k.size⟩
 exact .inr ⟨I1 h.size h1.1,h1.2⟩
theorem aa{S:Nat->Prop}(hz:¬S 0){w w':ln}(O:Nat->Nat)(h:Ext w w'):Upd S O w O w':=
 ⟨h.os,h.tape,h.output,h.size,fun b hb _=>h.block b hb,fun _ _=>rfl,fun _ h=>.inl h,hz⟩
theorem Rng.upd{B:Nat}{S:Nat->Prop}{O O':Nat->Nat}{w w':ln}(r:Rng B O w)(h:Upd S O w O' w'):Rng B O' w':=by
 refine⟨I1 r.le h.size,fun b hb=>?_⟩
 rcases h.new b hb with h1|h1
 ·exact⟨(r.rng b h1).1,GG (r.rng b h1).2 h.size⟩
 exact⟨I1 r.le h1.1,h1.2⟩
theorem aw(w:ln):Rng w.heap.size (fun _=>0) w:=⟨GD _,fun _ h=>absurd rfl h⟩
theorem Rng.ext{B:Nat}{O:Nat->Nat}{w w':ln}(r:Rng B O w)(h:Ext w w'):Rng B O w':=r.upd (aa (S:=fun _=>False) (fun h=>h) O h)
theorem Upd.below{B:Nat}{S:Nat->Prop}{O O':Nat->Nat}{w w':ln}(h:Upd S O w O' w')(r:Rng B O w):Below B w w':=by
 refine⟨h.os,h.tape,h.output,h.size,fun b hb=>h.blk b (GG hb r.le) ?_⟩;have:O b=0:=Gp fun a0=>by have:=(r.rng b a0).1;omega
 rw[this];exact h.z
theorem Upd.ext{S:Nat->Prop}{O':Nat->Nat}{w w':ln}(h:Upd S (fun _=>0) w O' w'):Ext w w':=h.below (aw w)
theorem Upd.drew{S:Nat->Prop}{O O':Nat->Nat}{w w':ln}(h:Upd S O w O' w'):Upd S O w O' w'.drew:=⟨h.os,h.tape,h.output,h.size,h.blk,h.tag,h.new,h.z⟩
theorem Upd.ofDrew{S:Nat->Prop}{O O':Nat->Nat}{w w':ln}(h:Upd S O w.drew O' w'):Upd S O w O' w':=⟨h.os,h.tape,h.output,h.size,h.blk,h.tag,h.new,h.z⟩
theorem Rng.drew{B:Nat}{O:Nat->Nat}{w:ln}(h:Rng B O w):Rng B O w.drew:=⟨h.le,h.rng⟩
def kW(O:Nat->Nat)(b i:Nat):Nat->Nat:=fun k=>if k=b then i else O k
theorem dr(O:Nat->Nat)(b i:Nat):kW O b i b=i:=if_pos rfl
theorem Upd.alloc{S:Nat->Prop}(hz:¬S 0){B:Nat}{O:Nat->Nat}{w:ln}(r:Rng B O w)(o:Obj)(i:Nat):Upd S O w (kW O w.heap.size i) (w.alloc o):=by
 refine⟨rfl,rfl,rfl,by simp,fun b hb _=>KR _ _ _ hb,fun b hb=>?_,fun b hb=>?_,hz⟩
 ·unfold kW;rw[if_neg];have:=(r.rng b hb).2;omega
 unfold kW at hb
 split at hb
 ·rename_i h;subst h;exact .inr ⟨GD _,by simp⟩
 exact .inl hb
structure RowO(O:Nat->Nat)(w:ln)(i:Nat)(E:G0)(sz:Nat)(v:ix)(n:Nat)(xs:List ix):Prop where
 row:w.ownsRow 0 E sz v n xs
 tag:∀g,v.ownBlock=some g->O g=i
theorem bm{w:ln}{g:Nat}{o:Obj}(h:w.heap[g]? = some o):g<w.heap.size:=(Array.getElem?_eq_some_iff.1 h).1
theorem RowO.upd{S:Nat->Prop}{O O':Nat->Nat}{w w':ln}{i:Nat}{E:G0}{sz:Nat}{v:ix}{n:Nat}{xs:List ix}(h:RowO O w i E sz v n xs)(u:Upd S O w O' w')(hi:i≠0)(hS:¬S i):RowO O' w' i E sz v n xs:=by
 refine⟨⟨h.row.1,?_⟩,fun g hg=>?_⟩
 ·rcases h.row.2 with h1|⟨g,a2,a1,hv,hg,hh,a0⟩
  ·exact .inl h1
  refine .inr ⟨g,a2,a1,hv,hg,?_,a0⟩;rw[u.blk g (bm hh) (by rw[h.tag g (by rw[hv];rfl)];exact hS)];exact hh
 have:=h.tag g hg;rw[u.tag g (by rw[this];exact hi),this]
theorem RowO.drew{O:Nat->Nat}{w:ln}{i:Nat}{E:G0}{sz:Nat}{v:ix}{n:Nat}{xs:List ix}(h:RowO O w i E sz v n xs):RowO O w.drew i E sz v n xs:=⟨h.row,h.tag⟩
theorem RowO.nil(O:Nat->Nat)(w:ln)(i:Nat)(E:G0)(sz:Nat):RowO O w i E sz (nS) 0 []:=⟨World.ownsRow_nil _ _ _ _,fun g hg=>by simp[Iw]at hg⟩
structure BlkO(O:Nat->Nat)(w:ln)(i b:Nat)(cs:Array ix)(E:G0):Prop where
 blk:w.heap[b]? = some (.cells cs E (0,0))
 tag:O b=i
theorem BlkO.upd{S:Nat->Prop}{O O':Nat->Nat}{w w':ln}{i b:Nat}{cs:Array ix}{E:G0}(h:BlkO O w i b cs E)(u:Upd S O w O' w')(hi:i≠0)(hS:¬S i):BlkO O' w' i b cs E:=
 ⟨by rw[u.blk b (bm h.blk) (by rw[h.tag];exact hS)];exact h.blk,by rw[u.tag b (by rw[h.tag];exact hi),h.tag]⟩
theorem BlkO.drew{O:Nat->Nat}{w:ln}{i b:Nat}{cs:Array ix}{E:G0}(h:BlkO O w i b cs E):BlkO O w.drew i b cs E:=⟨h.blk,h.tag⟩
theorem BlkO.new(O:Nat->Nat)(w:ln)(i:Nat)(cs:Array ix)(E:G0):BlkO (kW O w.heap.size i) (w.alloc (.cells cs E)) i w.heap.size cs E:=
 ⟨heap_alloc_new w _,dr _ _ _⟩
theorem BlkO.cell{O:Nat->Nat}{w:ln}{i b:Nat}{cs:Array ix}{E:G0}(h:BlkO O w i b cs E)(j:Nat){u:ix}(hu:cs[j]? = some u):w.cell? ⟨b,j,none⟩=some u:=by
 rw[cell_of_row w b j cs E (0,0) h.blk];exact hu
theorem BlkO.set{O:Nat->Nat}{w:ln}{i b:Nat}{cs:Array ix}{E:G0}(h:BlkO O w i b cs E)(j:Nat)(u:ix):BlkO O (w.setCell ⟨b,j,none⟩ u) i b (cs.setIfInBounds j u) E:=by
 refine⟨?_,h.tag⟩;simp only[IU,Jw,if_pos]
 rw[h.blk];simp
theorem Upd.set{S:Nat->Prop}(hz:¬S 0){O:Nat->Nat}{w:ln}{i b j:Nat}{u:ix}(ht:O b=i)(hS:S i):Upd S O w O (w.setCell ⟨b,j,none⟩ u):=
 ⟨rfl,rfl,rfl,by simp[IU],fun k _ hn=>J1 _ _ _ _ (fun e=>hn (by subst e;rw[ht];exact hS)),fun _ _=>rfl,fun _ h=>.inl h,hz⟩
def RowT{α:Type}(enc:α->List ix)(E:G0)(sz:Nat)(O:Nat->Nat)(w:ln)(i:Nat)(v:ix)(l:List α):Prop:=RowO O w i E sz v l.length (l.flatMap enc)/\∀x∈l,(enc x).length=sz
theorem fM{α:Type}{enc:α->List ix}{sz:Nat}:∀(l:List α),(∀x∈l,(enc x).length=sz)->∀i (h:i<l.length) j u,(enc l[i])[j]? = some u->(l.flatMap enc)[i*sz+j]? = some u
 |x::l,hz,0,_,j,u,hu=>by
  have hl:=hz x (by simp);have hj:j<(enc x).length:=(GE.1 (by simpa using hu)).1;simp only[I6,J8,I0];rw[List.getElem?_append_left hj];simpa using hu
 |x::l,hz,i+1,h,j,u,hu=>by
  have hl:=hz x (by simp);simp only[I6];rw[show(i+1)*sz+j=(enc x).length+(i*sz+j)from by rw[hl,IB];omega,List.getElem?_append_right zo,show(enc x).length+(i*sz+j)-(enc x).length=i*sz+j from by omega];exact fM l (fun y hy=>hz y (by simp[hy])) i (by simpa using h) j u (by simpa using hu)
theorem RowT.sl{α:Type}{enc:α->List ix}{E:G0}{sz:Nat}{O:Nat->Nat}{w:ln}{i:Nat}{v:ix}{l:List α}(h:RowT enc E sz O w i v l):Sl enc sz w v l:=by
 obtain⟨⟨⟨hl,hr⟩,_⟩,hz⟩:=h
 rcases hr with⟨rfl,h0⟩|⟨g,a0,a3,rfl,_,hg,a1,a2,a4,ht⟩
 ·have:l=[]:=Gt h0;subst this;exact⟨⟨none,0,rfl,GD _,zo,fun h=>absurd rfl h⟩,fun i hi=>absurd hi (by simp)⟩
 refine⟨⟨_,a0,rfl,a1,by simpa[maxLen]using a2,fun _=>⟨g,0,rfl⟩⟩,fun i hi j u hu=>?_⟩;have:=fM l hz i hi j u hu;rw[<-ht,List.getElem?_take]at this
 split at this
 ·have ha:((adr (.slice (some ⟨g,0,none⟩) l.length a0) sz i).add j)=⟨g,i*sz+j,none⟩:=by
   simp only[adr,GH];split<;>simp_all
  rw[ha,cell_of_row w g _ a3 E (0,0) hg];simpa using this
 cases this
theorem RowT.upd{α:Type}{enc:α->List ix}{S:Nat->Prop}{O O':Nat->Nat}{w w':ln}{i:Nat}{E:G0}{sz:Nat}{v:ix}{l:List α}(h:RowT enc E sz O w i v l)(u:Upd S O w O' w')(hi:i≠0)(hS:¬S i):RowT enc E sz O' w' i v l:=
 ⟨h.1.upd u hi hS,h.2⟩
theorem RowT.drew{α:Type}{enc:α->List ix}{O:Nat->Nat}{w:ln}{i:Nat}{E:G0}{sz:Nat}{v:ix}{l:List α}(h:RowT enc E sz O w i v l):RowT enc E sz O w.drew i v l:=⟨h.1.drew,h.2⟩
theorem RowT.nil{α:Type}(enc:α->List ix)(E:G0)(sz:Nat)(O:Nat->Nat)(w:ln)(i:Nat):RowT enc E sz O w i (nS) []:=⟨RowO.nil _ _ _ _ _,by simp⟩
theorem RowO.one{O:Nat->Nat}{w:ln}{i:Nat}{E:G0}{sz:Nat}{v:ix}{n:Nat}{xs:List ix}(h:RowO O w i E sz v n xs):v.oneCell'=true:=by
 rcases h.row.2 with⟨rfl,_⟩|⟨g,a1,a0,rfl,_⟩<;>rfl
theorem RowT.one{α:Type}{enc:α->List ix}{O:Nat->Nat}{w:ln}{i:Nat}{E:G0}{sz:Nat}{v:ix}{l:List α}(h:RowT enc E sz O w i v l):v.oneCell'=true:=h.1.one
theorem RowT.put{α:Type}{val:α->ix}{O:Nat->Nat}{w:ln}{i:Nat}{E:G0}{v:ix}{l:List α}(h:RowT (fun x=>[val x]) E 1 O w i v l){n:Nat}(hn:n<l.length)(x:α):
  w.cell? (adr v 1 n)=some (val (l[n]))/\w.frozen? (adr v 1 n)=false/\RowT (fun x=>[val x]) E 1 O (w.setCell (adr v 1 n) (val x)) i v (l.set n x)/\O (adr v 1 n).block=i:=by
 have a0:=h.sl.cells n hn 0 (val l[n]) rfl;rw[az]at a0;refine⟨a0,?_⟩;obtain⟨⟨⟨hl,hr⟩,a1⟩,hz⟩:=h
 rcases hr with⟨rfl,h0⟩|⟨g,a3,a8,rfl,a7,hg,a4,a6,a5,ht⟩
 ·omega
 have ha:adr (.slice (some ⟨g,0,none⟩) l.length a3) 1 n=⟨g,n,none⟩:=by simp[adr]
 rw[ha];have a2:∀l:List α,(l.flatMap fun x=>[val x])=l.map val:=fun l=>by induction l<;>simp_all
 refine⟨by simp[Kr,hg],⟨⟨⟨by rw[a2];simp,.inr ⟨g,a3,a8.setIfInBounds n (val x),by simp,a7,?_,by simpa using a4,a6,by simpa using a5,?_⟩⟩,by simpa using a1⟩,by simp⟩,a1 g rfl⟩
 ·simp only[IU,Jw,if_pos];rw[hg];simp
 simp only[IS,List.length_set,Jl]at ht ⊢;rw[a2]at ht ⊢;rw[List.take_set,ht,List.map_set]
structure Elem(P:G7)(T E:G0)(sz bytes:Nat):Prop where
 ht:P.underlying T=some (.slice E)
 info:(P.info? E).map (fun i=>(i.zero.map (·.cells.size),i.size,i.bytes))=some (some sz,sz,bytes)
 pos:0<sz
theorem Elem.parts{P:G7}{T E:G0}{sz bytes:Nat}(h:Elem P T E sz bytes):∃i z,P.info? E=some i/\i.zero=some z/\i.size=sz/\i.bytes=bytes/\z.cells.size=sz:=by
 have:=h.info
 cases hi:P.info? E with
 |none=>rw[hi]at this;simp at this
 |some i=>
  rw[hi]at this;simp only[GB,IQ,Ka]at this;obtain⟨h1,h2,h3⟩:=this
  cases hz:i.zero with
  |none=>rw[hz]at h1;simp at h1
  |some z=>rw[hz]at h1;simp at h1;exact⟨i,z,rfl,hz,h2,h3,h1⟩
theorem ez{P:G7}{w:ln}{T ty E:G0}{sz a7:Nat}(he:Elem P T E sz a7){B:Nat}{O:Nat->Nat}(r:Rng B O w){i:Nat}
  {v:ix} {n:Nat} {xs:List ix} (a1:RowO O w i E sz v n xs)
  (a:GQ) (m c:Nat) (a0:List ix) (hl:a0.length=m*sz) (a3:∀j u,a0[j]? = some u->w.cell? (a.add j)=some u) (h1:∀u∈a0,u.oneCell'=true)
  (a4:(n+m)*a7<=140737488355328) (c8:n+m<=9223372036854775807) (b9:i≠0) :
  ∃v' w' O',(JX #[T,T] ty #[v,.slice (some a) m c]).run P w=.ok v' w'/\RowO O' w' i E sz v' (n+m) (xs++a0)/\Upd (fun k=>k=i) O w O' w':=by
 obtain⟨a8,z,hi,hz,b8,c7,b7⟩:=he.parts;have ht:=he.ht;subst b8;subst c7;have a5:(xs++a0).length=(n+m)*a8.size:=by rw[GM,a1.row.1,hl,IB]
 have b2:¬(0=i):=fun h=>b9 h.symm
 have a6:∀(old:Nat),old<n+m->
   RowO (kW O w.heap.size i) (w.drew.alloc (.cells (xs.toArray++a0.toArray++J0 z.cells (grownCap w (n+m) old E-(n+m))) E)) i E a8.size
    (.slice (some ⟨w.heap.size,0,none⟩) (n+m) (grownCap w (n+m) old E)) (n+m) (xs++a0)/\
   Upd (fun k=>k=i) O w (kW O w.heap.size i) (w.drew.alloc (.cells (xs.toArray++a0.toArray++J0 z.cells (grownCap w (n+m) old E-(n+m))) E)):=by
  intro old ho;have b':=grownCap_ge w (n+m) old E;have b5:grownCap w (n+m) old E<=maxLen:=grownCap_le_maxLen w (n+m) old E (by simpa[maxLen]using c8);refine⟨⟨⟨a5,.inr ⟨w.heap.size,_,_,rfl,GY _,heap_alloc_new w.drew _,b',b5,?_,?_⟩⟩,?_⟩,?_⟩
  ·simp only[Array.size_append,J6,size_zeroCells,b7,a1.row.1,hl,<-IB];congr 1;omega
  ·simp only[Array.toList_append,Gy];rw[<-Gy,<-a5];exact Kv
  ·intro g hg;simp[Iw]at hg;subst hg;exact dr _ _ _
  have u:=Upd.alloc (S:=fun k=>k=i) (w:=w.drew) b2 (B:=B) ⟨r.le,r.rng⟩ (.cells (xs.toArray++a0.toArray++J0 z.cells (grownCap w (n+m) old E-(n+m))) E) i;exact⟨u.os,u.tape,u.output,u.size,u.blk,u.tag,u.new,u.z⟩
 rcases a1.row.2 with⟨rfl,rfl⟩|⟨g,b1,b6,rfl,hbg,hg,c9,b5,c6,a'⟩
 ·have hx:xs=[]:=Gt (by simpa using a1.row.1);subst hx
  by_cases hm:m=0
  ·subst hm;have hn:a0=[]:=Gt (by simpa using hl);subst hn;refine⟨nS,w,O,?_,RowO.nil _ _ _ _ _,Upd.refl b2 _ _⟩;simp[JX,run_underlying ht,GO,typeInfo,hi,Lx,Ly,loadCells,loadCellsFrom]
  have hr:=run_append_nil (P:=P) w T ty E a8 z ht hi hz a m c a0 hl a3 zo zo (by have hb:=a4;simp only[I0]at hb;omega);have a9:=a6 0 zo;simp only[I0,II,Array.empty_append]at a9 ⊢;exact⟨_,_,_,hr,a9.1,a9.2⟩
 have b3:O g=i:=a1.tag g rfl
 by_cases a2:n+m<=b1
 ·have b4:n*a8.size+a0.length<=b6.size:=by rw[hl,c6,<-IB];exact Nat.mul_le_mul_right _ a2
  have hr:=run_append_room (P:=P) w T ty E a8 ht hi g n b1 b6 hg a m c a0 hl a3 h1 a2 b4;refine⟨_,_,O,hr,⟨⟨a5,.inr ⟨g,b1,_,rfl,hbg,setRow_heap w g b6 _ E _ hg,a2,b5,?_,?_⟩⟩,fun g' c5=>a1.tag g' c5⟩,⟨rfl,rfl,rfl,by simp,fun k _ hk=>setRow_other w g k _ (fun e=>hk (by subst e;exact b3)),fun _ _=>rfl,fun _ h=>.inl h,b2⟩⟩
  ·simp only[J6,GM,List.length_take,List.length_drop,JI];omega
  rw[a',<-a5];exact Kv
 have b0:∀j u,xs[j]? = some u->w.cell? (nA g j)=some u:=a1.row.cells (g:=g) rfl;have hr:=run_append_grow (P:=P) w T ty E a8 z ht hi hz ⟨g,0,none⟩ n b1 xs a1.row.1 b0 a m c a0 hl a3 zo zo (growslice_fits zo a4);have a9:=a6 b1 zo;exact⟨_,_,_,hr,a9.1,a9.2⟩
theorem foldl_set(f:Array ix->ix×Nat->Array ix)(hf:∀cs c j,f cs (c,j)=cs.setIfInBounds (0+j) c):∀(l:List ix) (k:Nat) (cs:Array ix),k+l.length<=cs.size->
  (l.zipIdx k).foldl f cs=(cs.toList.take k++l++cs.toList.drop (k+l.length)).toArray
 |[],k,cs,_=>by simp
 |u::l,k,cs,h=>by
  simp only[Ib]at h;simp only[List.zipIdx_cons,Ko];rw[foldl_set f hf l (k+1) _ (by rw[hf];simp;omega),hf];simp only[I0,Jl];have hk:k<cs.toList.length:=by simp;omega
  congr 1;rw[show k+1+l.length=k+(u::l).length from by simp;omega];have h1:(cs.toList.set k u).take (k+1)=cs.toList.take k++[u]:=by
   rw[J5 (by simpa using hk)];simp[List.take_set_of_le]
  have h2:(cs.toList.set k u).drop (k+(u::l).length)=cs.toList.drop (k+(u::l).length):=by
   rw[List.drop_set_of_lt (by simp)]
  rw[h1,h2];simp
theorem jN{sz:Nat}{cells:Array ix}{v:ix}(h1:v.cells.size=sz)(h2:cells.size=sz):Iy (fun i=>some (i*sz,sz)) cells [(0,v)]=some v.cells:=by
 simp only[Iy,J8,h1,h2];simp only[I0,ne_eq,not_true_eq_false,decide_false,gt_iff_lt,KH,Bool.or_self,JY,if_false];have:=foldl_set (fun cs (x:ix×Nat)=>cs.setIfInBounds (0+x.2) x.1) (fun _ _ _=>rfl) v.cells.toList 0 cells (by simp;omega);simp only[I0]at this;rw[<-Array.foldl_toList,Array.toList_zipIdx,this];simp only[Ku,II];rw[Jv (by simp;omega)];simp
section
variable{P:G7}{N:Nat}{ops:Array Gv}{Q:GP→I4→ln→Prop}{rest:List Gv}{st:St}{w:ln}
variable{t t':G0}{p p':String}{e e':Array Iq}{d d':Nat}{x y z:G4}
theorem WL.push{T E:G0}{sz a0:Nat}(he:Elem P T E sz a0){α:Type}{enc:α->List ix}{B:Nat}{O:Nat->Nat}{i:Nat}{v:ix}{l:List α}(hr:RowT enc E sz O w i v l)(r:Rng B O w)(u:α){xv:ix}
  (hv:∀c,ev ((d,c)::st) y=some v) (hx:ev st x=some xv) (a6:xv.cells.toList=enc u) (a7:(enc u).length=sz) (a':∀c∈enc u,c.oneCell'=true)
  (hb:(l.length+1)*a0<=140737488355328) (b4:l.length+1<=9223372036854775807) (a5:i≠0) (hs:sz<=16777216) (hd:G1 d N=true) (b2:G1 d' N=true)
  (h:∀v' w' O',RowT enc E sz O' w' i v' (l++[u])->Upd (fun k=>k=i) O w O' w'->Rng B O' w'->WL P N ops Q rest ((d',v')::(d,.slice (some ⟨w.heap.size,0,none⟩) 1 1)::st) w') :
  WL P N ops Q (⟨some d,.buildSlice T 1 #[(0,x)],t,p,e,none⟩::⟨some d',.call ⟨.builtin .append,#[y,.tmp d],#[T,T]⟩,t',p',e',none⟩::rest) st w:=by
 obtain⟨a8,z,hi,hz,a2,b6,b5⟩:=he.parts;have b3:xv.cells.size=sz:=by rw[<-a7,<-a6];simp
 have b1:=he.pos;refine WL.val (v:=.slice (some ⟨w.heap.size,0,none⟩) 1 1) (w':=w.alloc (.cells xv.cells E)) hd (fun a ha=>?_) ?_
 ·have:=run_buildSlice (P:=P) w T E 1 #[(0,xv)] xv.cells a8 z he.ht hi hz (by rw[a2];omega) (by rw[a2];omega) (by
   rw[a2]
   exact jN b3 (by simp))
  simp only[execOp,G9,Gu,GJ,ha.ev hx,G6,this,G2];rfl
 have a9:¬(fun k=>k=i) 0:=fun h=>a5 h.symm
 have hE:=Ext.alloc w (.cells xv.cells E);have r1:=r.ext hE;have b0:RowT enc E sz O (w.alloc (.cells xv.cells E)) i v l:=hr.upd (aa (S:=fun _=>False) (fun h=>h) O hE) a5 (fun h=>h)
 obtain⟨v',w',O',a3,a4,a1⟩:=ez (P:=P) (ty:=t') he r1 b0.1 ⟨w.heap.size,0,none⟩ 1 1 (enc u) zo (fun j c hc=>by
  rw[show((⟨w.heap.size,0,none⟩:GQ).add j)=⟨w.heap.size,j,none⟩from by simp only[GH];split<;>simp_all,cell_of_row _ _ j xv.cells E (0,0) (heap_alloc_new w _)]
  rw[<-a6]at hc;simpa using hc) a' hb b4 a5
 refine WL.val (v:=v') (w':=w') b2 (fun a ha=>?_) ?_
 ·simp only[execOp,resolve,invoke,builtin,G6,GA,G2,G9,Gu,GJ,ha.ev (hv _),ha.ev (x:=.tmp d) (v:=.slice (some ⟨w.heap.size,0,none⟩) 1 1) (by simp[ev,bV]),a3]
 have hU:Upd (fun k=>k=i) O w O' w':=Upd.trans (aa a9 O hE) a1;refine h v' w' O' ⟨by simpa using a4,?_⟩ hU (r.upd hU);intro c hc
 rcases GC.1 hc with hc|hc
 ·exact hr.2 c hc
 rw[Gs.1 hc];exact a7
theorem aj{T:G0}{O:Nat->Nat}{i b j:Nat}{cs:Array ix}{E:G0}{u c:ix}(hb:BlkO O w i b cs E)(hj:cs[j]? = some c)(hT:(GO T).run P w=.ok 1 w)(h1:u.oneCell'=true)
  {q:GQ} (hx:ev st x=some (.pointer (some q))) (hq:q=⟨b,j,none⟩) (hy:ev st y=some u)
  (h:WL P N ops Q rest st (w.setCell ⟨b,j,none⟩ u)):WL P N ops Q (⟨none,.store T x y,t,p,e,none⟩::rest) st w:=
 gO (fun a ha=>by
  subst hq;have hc:=hb.cell j hj;have hf:w.frozen? ⟨b,j,none⟩=false:=by simp[Kr,hb.blk]
  simp only[execOp,ha.ev hx,ha.ev hy]
  cases u<;>simp[I8]at h1<;>simp[IV,GV,storeVar,hT,Jz,storeCells,store,Jm,hc,hf,GH]) h
theorem WL.storeAt{T:G0}{α:Type}{val:α->ix}{O:Nat->Nat}{i:Nat}{E:G0}{v:ix}{l:List α}(hr:RowT (fun x=>[val x]) E 1 O w i v l)(n:Nat)(hn:n<l.length)(u:α)(hT:(GO T).run P w=.ok 1 w)(h1:(val u).oneCell'=true)(a1:i≠0)
  {q:GQ} {uv:ix} (hx:ev st x=some (.pointer (some q))) (hq:q=adr v 1 n) (hy:ev st y=some uv) (hu:uv=val u)
  (h:∀w',RowT (fun x=>[val x]) E 1 O w' i v (l.set n u)->Upd (fun j=>j=i) O w O w'->WL P N ops Q rest st w'):WL P N ops Q (⟨none,.store T x y,t,p,e,none⟩::rest) st w:=by
 subst hq;subst hu;obtain⟨hc,hf,a0,ht⟩:=hr.put hn u;refine gO (w':=w.setCell (adr v 1 n) (val u)) (fun a ha=>?_) (h _ a0 ?_)
 ·simp only[execOp,ha.ev hx,ha.ev hy];generalize val u=uv at *
  cases uv<;>simp[I8]at h1<;>simp[IV,GV,storeVar,hT,Jz,storeCells,store,Jm,hc,hf,GH]
 refine⟨rfl,rfl,rfl,by simp[IU],fun k _ hn=>J1 _ _ _ _ (fun e=>hn (by rw[e];exact ht)),fun _ _=>rfl,fun _ h=>.inl h,fun h=>a1 h.symm⟩
end
end Go.VL
end
section
namespace Go.VL
def Calm(Q:GP->I4->ln->Prop):GP->I4->ln->Prop
 |.panic _,_,_=>False
 |e,a,w=>Q e a w
theorem Calm.imp{Q:GP->I4->ln->Prop}:∀ {e:GP} {a:I4} {w:ln},Calm Q e a w->Q e a w:=by
 intro e a w h
 cases e<;>first|exact h|exact h.elim
section
variable(P:G7)(N:Nat)
def WH(ops:Array Gv)(S:ln->Prop)(Q:GP->I4->ln->Prop)(a1:Nat)(a0:Array Bool)(st:St)(w:ln):Prop:=
 ∀a,Fits N a st->wpAnyH P .any ops (Calm Q) S a1 a0 a w
end
section
variable{P:G7}{N:Nat}{ops:Array Gv}{S:ln→Prop}{Q:GP→I4→ln→Prop}{st:St}{w:ln}{fuel:Nat}{listed:Array Bool}
theorem aK{id:Nat}{l:List Gv}(S:ln->Prop)(n:Nat)(hn:l.length=n)(hm:P.follows .mixedOrders=true)
  (h:WH P N l.toArray S Q n (Jd n false) st w.drew):WC P N (Jc id l.toArray true) Q st w:=fun a ha=>by
 refine wp_mono (Q:=Calm Q) (wp_region_held (S:=S) hm ?_) fun e a w h=>h.imp
 have:=h a ha;simp only[J6,hn];exact this
theorem WH.take{op:Op}{t:G0}{p:String}{e:Array Iq}{d:Nat}{v:ix}(i:Nat)(hi:ops[i]? = some ⟨some d,op,t,p,e,none⟩)
  (hs:Gz ops=true) (hf:GR .any ops listed i=true) (hr:(Gw .any ops listed).contains i=true) (hS:S w)
  (hv:∀w',S w'->RV P N op t st w' v) (hd:G1 d N=true) (h:WH P N ops S Q fuel (listed.setIfInBounds i true) ((d,v)::st) w):WH P N ops S Q (fuel+1) listed st w:=by
 intro a ha;refine wpAnyH_take (v:=v) hi hs hf hr (fun _ _ _ h=>h) (.inl ⟨by simp[Gx],fun w' a0=>hv w' a0 a ha _ _ _ _⟩) hS ?_;exact h _ (ha.put hd v)
theorem su{op:Op}{t:G0}{p:String}{e:Array Iq}{d j:Nat}{b:Bool}{v:ix}(i:Nat)(hi:ops[i]? = some ⟨some d,op,t,p,e,some (j,b)⟩)(hg:said ops st j=some b)
  (hs:Gz ops=true) (hf:GR .any ops listed i=true) (hr:(Gw .any ops listed).contains i=true) (hS:S w)
  (hv:∀w',S w'->RV P N op t st w' v) (hd:G1 d N=true) (h:WH P N ops S Q fuel (listed.setIfInBounds i true) ((d,v)::st) w):WH P N ops S Q (fuel+1) listed st w:=by
 intro a ha;refine wpAnyH_take (v:=v) hi hs hf hr (fun _ _ _ h=>h) (.inl ⟨by simp[Gx,bM ha hg],fun w' a0=>hv w' a0 a ha _ _ _ _⟩) hS ?_;exact h _ (ha.put hd v)
theorem xB{op:Op}{t:G0}{p:String}{e:Array Iq}{d j:Nat}{b b':Bool}(i:Nat)(hi:ops[i]? = some ⟨some d,op,t,p,e,some (j,b)⟩)(hg:said ops st j=some b')(a0:(b'==b)=false)
  (hs:Gz ops=true) (hf:GR .any ops listed i=true) (hr:(Gw .any ops listed).contains i=true) (hS:S w)
  (hd:G1 d N=true) (h:WH P N ops S Q fuel (listed.setIfInBounds i true) ((d,undef)::st) w):WH P N ops S Q (fuel+1) listed st w:=by
 intro a ha;refine wpAnyH_take (v:=undef) hi hs hf hr (fun _ _ _ h=>h) (.inr ⟨?_,rfl⟩) hS ?_
 ·have:(b'==b)=false:=a0;simp[Gx,bM ha hg];simpa using this
 exact h _ (ha.put hd undef)
def qp(P:G7)(ops:Array Gv)(S:ln->Prop)(Q:GP->I4->ln->Prop)(a1:Nat)(a0:Array Bool):GP->I4->ln->Prop:=
 Exit.then (fun a' w'=>S w'/\wpAnyH P .any ops (Calm Q) S a1 a0 a' w') (Calm Q)
theorem af{i:Nat}(hS:S w)(h:WH P N ops S Q fuel (listed.setIfInBounds i true) st w):QF N (qp P ops S Q fuel (listed.setIfInBounds i true)) .normal st w:=fun a ha=>⟨hS,h a ha⟩
theorem WH.all(rs:List Nat)(hr:Gw .any ops listed=rs)(a0:rs≠[])
  (h:∀i∈rs,∀o,ops[i]? = some o->WL P N ops (qp P ops S Q fuel (listed.setIfInBounds i true)) [o] st w):WH P N ops S Q (fuel+1) listed st w:=by
 intro a ha;refine wpAnyH_all hr a0 fun i hi=>?_
 have a1:∃o,ops[i]? = some o:=by
  rw[<-hr]at hi;simp only[Gw,IJ,Ii]at hi;exact⟨_,Array.getElem?_eq_getElem hi.1⟩
 obtain⟨o,ho⟩:=a1;have h1:=h i hi o ho a ha;unfold wpOp;simp only[ho];unfold wpList at h1
 split
 ·rename_i hw;rw[if_pos hw]at h1;refine h1.imp (fun h2=>?_) (fun⟨h2,h3⟩=>⟨h2,h3⟩);unfold Ip at h2 ⊢;generalize (execOp a.eval o).run P w=r at *
  cases r with
  |ok n w'=>
   cases n<;>simp only[ID]at h2 ⊢<;>first
    |exact h2
    |exact GL h2 (fun e w'' he=>by cases e<;>exact he)
    |exact K9 h2 (fun _ _ he=>he)
  |halt x w'=>cases x<;>simp only[ID]at h2 ⊢<;>exact h2
 rename_i hw;rw[if_neg hw]at h1;exact h1
theorem WH.one(i:Nat){o:Gv}(hr:Gw .any ops listed=[i])(hi:ops[i]? = some o)
  (h:WL P N ops (qp P ops S Q fuel (listed.setIfInBounds i true)) [o] st w):WH P N ops S Q (fuel+1) listed st w:=
 WH.all [i] hr (by simp) fun j hj o' a0=>by
  simp only[Gs]at hj;subst hj;rw[hi]at a0;cases a0;exact h
theorem bL(i j:Nat){o o':Gv}(hr:Gw .any ops listed=[i,j])(hi:ops[i]? = some o)(hj:ops[j]? = some o')
  (h:WL P N ops (qp P ops S Q fuel (listed.setIfInBounds i true)) [o] st w) (h':WL P N ops (qp P ops S Q fuel (listed.setIfInBounds j true)) [o'] st w):WH P N ops S Q (fuel+1) listed st w:=
 WH.all [i,j] hr (by simp) fun k hk q hq=>by
  simp only[Jr,List.not_mem_nil,or_false]at hk
  rcases hk with rfl|rfl
  ·rw[hi]at hq;cases hq;exact h
  rw[hj]at hq;cases hq;exact h'
theorem kO{d:Nat}{b b':Bool}(hs:bV st d=some (.bool b))(hb:b=b')(h:WH P N ops S Q fuel listed ((d,.bool b')::st) w):WH P N ops S Q fuel listed st w:=by
 subst hb;refine fun a ha=>h a ⟨ha.size,ha.defers,fun t v hv=>?_⟩
 simp only[bV]at hv
 cases hb:I7 d t with
 |true=>rw[hb]at hv;have:=Gq hb;subst this;simp at hv;subst hv;exact ha.get _ _ hs
 |false=>rw[hb]at hv;exact ha.get _ _ hv
theorem WH.done(hr:Gw .any ops listed=[])(h:QF N Q .normal st w):WH P N ops S Q fuel listed st w:=fun a ha=>wpAnyH_done (Q:=Calm Q) hr (show Calm Q .normal a w from h a ha) fuel
end
section
variable(P:G7)(N:Nat)
def WS(ops:Array Gv)(w:ln)(K:I4->Prop)(l:List Gv)(st:St):Prop:=∀a,Fits N a st->wpStill P ops w K l a
end
section
variable{P:G7}{N:Nat}{ops:Array Gv}{Q:GP→I4→ln→Prop}{K:I4→Prop}{st:St}{w:ln}{rest:List Gv}
theorem WC.tail{id:Nat}{l hd tl:List Gv}(n:Nat)(ht:l.take n=hd)(a0:l.drop n=tl)(hm:P.follows .mixedOrders=true)(hB:Region.lexTailB .any l.toArray n=true)
  (h:WS P N l.toArray w.drew (fun a'=>wpList P l.toArray Q tl a' w.drew) hd st):WC P N (Jc id l.toArray true) Q st w:=fun a ha=>by
 subst ht;subst a0;exact wp_region_still_tail n hm hB (h a ha)
theorem WC.still{id:Nat}{l:List Gv}(hm:P.follows .mixedOrders=true)(hB:Region.lexB .any l.toArray=true)
  (h:WS P N l.toArray w.drew (fun a'=>Q .normal a' w.drew) l st):WC P N (Jc id l.toArray true) Q st w:=fun a ha=>by
 exact wp_region_still_lit hm hB (h a ha)
theorem WS.go{tl:List Gv}(h:WL P N ops Q tl st w):WS P N ops w (fun a'=>wpList P ops Q tl a' w) [] st:=fun a ha=>h a ha
theorem WS.nil(h:QF N Q .normal st w):WS P N ops w (fun a'=>Q .normal a' w) [] st:=fun a ha=>h a ha
theorem nO{op:Op}{t:G0}{p:String}{e:Array Iq}{d:Nat}{v:ix}(hv:RV P N op t st w v)(hd:G1 d N=true)
  (h:WS P N ops w K rest ((d,v)::st)):WS P N ops w K (⟨some d,op,t,p,e,none⟩::rest) st:=fun a ha=>by
 unfold wpStill;rw[if_pos (cm rfl _)];unfold KS;rw[hv a ha];exact⟨rfl,h _ (ha.put hd v)⟩
theorem FL{op:Op}{t:G0}{p:String}{e:Array Iq}{d:Option KX}{j:Nat}{b:Bool}(hs:said ops st j=some b)
  (h:WS P N ops w K (⟨d,op,t,p,e,none⟩::rest) st):WS P N ops w K (⟨d,op,t,p,e,some (j,b)⟩::rest) st:=by
 intro a ha;have h1:=h a ha;unfold wpStill at h1 ⊢;rw[if_pos (by simp[Gx])]at h1;rw[if_pos (by simp[Gx,bM ha hs])];exact h1
theorem WS.off{op:Op}{t:G0}{p:String}{e:Array Iq}{d:Nat}{j:Nat}{b b':Bool}(hs:said ops st j=some b')(a0:(b'==b)=false)(hd:G1 d N=true)
  (h:WS P N ops w K rest ((d,undef)::st)):WS P N ops w K (⟨some d,op,t,p,e,some (j,b)⟩::rest) st:=by
 intro a ha;unfold wpStill;rw[if_neg (by simp[Gx,bM ha hs];simpa using a0)];exact h _ (ha.put hd undef)
theorem Af{op:Op}{t:G0}{p:String}{e:Array Iq}{d:Nat}{j:Nat}{b:Bool}(hs:lV ops st j=true)(hd:G1 d N=true)
  (h:WS P N ops w K rest ((d,undef)::st)):WS P N ops w K (⟨some d,op,t,p,e,some (j,b)⟩::rest) st:=by
 intro a ha;unfold wpStill;rw[if_neg ?_]
 ·exact h _ (ha.put hd undef)
 unfold lV at hs;simp only[Gx,yielded]
 cases hd:(ops[j]?).bind (·.dst)with
 |none=>rw[hd]at hs;simp at hs
 |some d=>
  rw[hd]at hs;simp only at hs
  cases hx:bV st d with
  |none=>rw[hx]at hs;simp at hs
  |some v=>
   rw[hx]at hs
   cases v<;>simp at hs
   simp[ha.get _ _ hx]
theorem cd{d:Nat}{b b':Bool}{l:List Gv}(hs:bV st d=some (.bool b))(hb:b=b')(h:WS P N ops w K l ((d,.bool b')::st)):WS P N ops w K l st:=by
 subst hb;refine fun a ha=>h a ⟨ha.size,ha.defers,fun t v hv=>?_⟩
 simp only[bV]at hv
 cases hb:I7 d t with
 |true=>rw[hb]at hv;have:=Gq hb;subst this;simp at hv;subst hv;exact ha.get _ _ hs
 |false=>rw[hb]at hv;exact ha.get _ _ hv
theorem WS.call{t:G0}{p:String}{e:Array Iq}{d:Nat}{f:IT}{args:List G4}{a2:Array G0}{vs:List ix}{v:ix}
  (hf:∀(args:Array ix) (w:ln),(callFunc f args).run P w=.ok (.enter f args) w) (a0:evs st args=some vs) (hc:Ret P f vs w fun u w'=>u=v/\w'=w) (hd:G1 d N=true)
  (h:WS P N ops w K rest ((d,v)::st)):WS P N ops w K (⟨some d,.call ⟨.value (.func f),args.toArray,a2⟩,t,p,e,none⟩::rest) st:=by
 intro a ha;unfold wpStill;rw[if_pos (cm rfl _)];unfold KS;have a1:(execOp a.eval ⟨some d,.call ⟨.value (.func f),args.toArray,a2⟩,t,p,e,none⟩).run P w=.ok (.enter f vs.toArray) w:=by
  simp only[execOp,resolve,I9,G9];rw[ha.evs a0];simp[IA,invoke,hf]
 rw[a1];refine⟨rfl,v,GL hc fun e w' q=>?_,h _ (ha.put hd v)⟩
 cases e with
 |returned u=>exact⟨by rw[q.1],q.2⟩
 |panicked c=>exact q.elim
 |outgrown=>exact q.elim
end
end Go.VL
end
section
namespace Go.VL
section
variable{κ ν:Type}{kv:κ→ix}{vv:ν→ix}
structure MapO{κ ν:Type}(kv:κ->ix)(vv:ν->ix)(O:Nat->Nat)(w:ln)(i r:Nat)(l:List (κ×ν)):Prop where
 blk:∃es clock,w.heap[r]? = some (.map es clock)/\es.toList.map (fun e=>(e.key,e.val))=l.map fun p=>(kv p.1,vv p.2)
 tag:O r=i
 born:∀es clock,w.heap[r]? = some (.map es clock)->(es.toList.map (·.born)).Nodup/\∀e∈es.toList,e.born<clock
theorem MapO.upd{S:Nat->Prop}{O O':Nat->Nat}{w w':ln}{i r:Nat}{l:List (κ×ν)}(h:MapO kv vv O w i r l)(u:Upd S O w O' w')(hi:i≠0)(hS:¬S i):MapO kv vv O' w' i r l:=by
 obtain⟨es,c,h1,h2⟩:=h.blk;have e:=u.blk r (bm h1) (by rw[h.tag];exact hS);exact⟨⟨es,c,by rw[e];exact h1,h2⟩,by rw[u.tag r (by rw[h.tag];exact hi),h.tag],fun a0 c' h'=>h.born a0 c' (by rw[<-e];exact h')⟩
theorem MapO.new(O:Nat->Nat)(w:ln)(i:Nat):MapO kv vv (kW O w.heap.size i) (w.alloc (.map #[] 0)) i w.heap.size []:=⟨⟨#[],0,heap_alloc_new w _,by simp⟩,dr _ _ _,fun es c h=>by rw[heap_alloc_new]at h;cases h;simp⟩
end
section
variable{κ ν:Type}[DecidableEq κ]
def bf:List (κ×ν)->κ->Option ν
 |[],_=>none
 |(a,x)::r,k=>if a=k then some x else bf r k
def bZ:List (κ×ν)->κ->ν->List (κ×ν)
 |[],k,x=>[(k,x)]
 |(a,y)::r,k,x=>if a=k then(k,x)::r else(a,y)::bZ r k x
def iy:List (κ×ν)->κ->Option Nat
 |[],_=>none
 |(a,_)::r,k=>if a=k then some 0 else(iy r k).map (· + 1)
theorem aL(l:List (κ×ν))(k k':κ)(x:ν):bf (bZ l k x) k'=if k=k' then some x else bf l k':=by
 induction l with
 |nil=>simp[bZ,bf]
 |cons p r ih=>
  obtain⟨a,y⟩:=p;simp only[bZ]
  by_cases h:a=k
  ·subst h;simp only[if_pos,bf]
   by_cases h2:a=k'<;>simp[h2]
  simp only[if_neg h,bf]
  by_cases h2:a=k'
  ·subst h2;simp only[if_true];rw[if_neg (fun e=>h e.symm)]
  simp[h2,ih]
structure KeyL(P:G7)(K:G0)(kv:κ->ix):Prop where
 check:∀b n k w,(Jj b (n+2) K (kv k)).run P w=.ok () w
 find:∀k (es:List Kl) (ks:List κ) w,es.map (·.key)=ks.map kv->(Jp K (kv k) es).run P w=.ok ((ks.findIdx? (· = k)).bind fun i=>(es[i]?).map fun e=>(i,e.val)) w
 same:∀k,Ji 10000 (kv k) (kv k)=true
theorem KeyL.int{P:G7}{K:G0}{q:G8}(hK:P.underlying K=some (.int q)):KeyL P K (fun n:Int=>Ig q n):=by
 refine⟨fun b n k w=>?_,fun k es ks w h=>?_,fun k=>?_⟩
 ·simp[Jj,run_underlying hK]
 ·have key:∀(es:List Kl) (ks:List Int) (j:Nat),es.map (·.key)=ks.map (fun n=>Ig q n)->
    Il (.int q) (.int q k) es j=some ((ks.findIdx? (· = k)).bind fun i=>(es[i]?).map fun e=>(j+i,e.val)):=by
   intro es
   induction es with
   |nil=>intro ks j h;cases ks with
    |nil=>simp[Il]
    |cons a r=>simp at h
   |cons e es ih=>
    intro ks j h
    cases ks with
    |nil=>simp at h
    |cons a r=>
     simp only[Gu,J3]at h;simp only[Il,h.1,Kw,if_true]
     by_cases hk:k=a
     ·subst hk;simp[Ih]
     have:(k==a)=false:=by simpa using hk
     rw[this];simp only;rw[ih r (j+1) h.2];simp only[Ih,decide_eq_true_eq];rw[if_neg (fun e=>hk e.symm)]
     cases hf:Kz (fun x=>decide (x=k)) r with
     |none=>simp
     |some i=>simp[Js,KO 1]
  have:=key es ks 0 h;simp only[I0]at this;simp[Jp,run_underlying hK,this]
 simp[Ji]
theorem B1(a b:ByteArray):(a==b)=decide (a=b):=by
 cases a with|mk a=>cases b with|mk b=>
 show(a==b)=_
 by_cases h:a=b
 ·subst h;simp
 have:(a==b)=false:=by simpa using h
 rw[this];symm;simpa using h
theorem BH{P:G7}{K:G0}(hK:P.underlying K=some .string):KeyL P K Ky:=by
 refine⟨fun b n k w=>?_,fun k es ks w h=>?_,fun k=>?_⟩
 ·simp[Jj,run_underlying hK]
 ·have key:∀(es:List Kl) (ks:List ByteArray) (j:Nat),es.map (·.key)=ks.map Ky->
    Il .string (.string k) es j=some ((ks.findIdx? (· = k)).bind fun i=>(es[i]?).map fun e=>(j+i,e.val)):=by
   intro es
   induction es with
   |nil=>intro ks j h;cases ks with
    |nil=>simp[Il]
    |cons a r=>simp at h
   |cons e es ih=>
    intro ks j h
    cases ks with
    |nil=>simp at h
    |cons a r=>
     simp only[Gu,J3]at h;simp only[Il,h.1,Kw,B1]
     by_cases hk:k=a
     ·subst hk;simp[Ih]
     have:decide (k=a)=false:=by simpa using hk
     rw[this];simp only;rw[ih r (j+1) h.2];simp only[Ih,decide_eq_true_eq];rw[if_neg (fun e=>hk e.symm)]
     cases hf:Kz (fun x=>decide (x=k)) r with
     |none=>simp
     |some i=>simp[Js,KO 1]
  have:=key es ks 0 h;simp only[I0]at this;simp[Jp,run_underlying hK,this]
 simp[Ji,B1]
variable{kv:κ→ix}{vv:ν→ix}
theorem dG:∀(l:List (κ×ν)) (k:κ),(l.map (·.1)).findIdx? (· = k)=iy l k
 |[],k=>rfl
 |(a,x)::r,k=>by
  simp only[Gu,Ih,iy,decide_eq_true_eq]
  by_cases h:a=k
  ·simp[h]
  simp only[if_neg h];rw[dG r k]
theorem jU:∀(l:List (κ×ν)) (k:κ),bf l k=(iy l k).bind fun i=>(l[i]?).map (·.2)
 |[],k=>rfl
 |(a,x)::r,k=>by
  simp only[bf,iy]
  by_cases h:a=k
  ·simp[h]
  simp only[if_neg h];rw[jU r k]
  cases iy r k<;>simp
theorem dN:∀(l:List (κ×ν)) (k:κ) (x:ν),bZ l k x=match iy l k with
  |some i=>l.set i (k,x)
  |none=>l++[(k,x)]
 |[],k,x=>rfl
 |(a,y)::r,k,x=>by
  simp only[bZ,iy]
  by_cases h:a=k
  ·simp[h]
  simp only[if_neg h];rw[dN r k x]
  cases iy r k<;>simp
theorem gM:∀ {l:List (κ×ν)} {k:κ} {i:Nat},iy l k=some i->∃x,l[i]? = some (k,x)
 |(a,x)::r,k,i,h=>by
  simp only[iy]at h
  by_cases hk:a=k
  ·subst hk;simp at h;subst h;exact⟨x,rfl⟩
  rw[if_neg hk]at h
  cases hr:iy r k with
  |none=>rw[hr]at h;simp at h
  |some j=>
   rw[hr]at h;simp at h;subst h;obtain⟨y,hy⟩:=gM hr;exact⟨y,by simpa using hy⟩
def C8(vv:ν->ix)(z:ix):Option ν->ix
 |some x=>vv x
 |none=>z
def B3(vv:ν->ix)(z:ix):Option ν->ix
 |some x=>.tuple #[vv x,.bool true]
 |none=>.tuple #[z,.bool false]
theorem iI{P:G7}{T K E:G0}(hT:P.underlying T=some (.map K E))(hK:KeyL P K kv){O:Nat->Nat}{w:ln}{i r:Nat}{l:List (κ×ν)}(h:MapO kv vv O w i r l){z:ix}(hz:(Is E).run P w=.ok z w)(k:κ)(ok:Bool):
  (KB T (.map (some r)) (kv k) ok).run P w=.ok (match bf l k with
   |some x=>if ok then .tuple #[vv x,.bool true]else vv x
   |none=>if ok then .tuple #[z,.bool false]else z) w:=by
 obtain⟨es,c,h1,h2⟩:=h.blk;have a0:es.toList.map (·.key)=(l.map (·.1)).map kv:=by
  have:=congrArg (Jn KY) h2;simpa[JD]using this
 have hf:=hK.find k es.toList (l.map (·.1)) w a0;rw[dG]at hf;have hc:=hK.check es.isEmpty 9998 k w;simp only[KB,G6,run_underlying hT,G2];simp only[getObj,Jm,h1,G6,G2,GA,hc,hf];rw[jU]
 cases hi:iy l k with
 |none=>simp[hz]
 |some j=>
  obtain⟨x,hx⟩:=gM hi;have hj:es.toList[j]?.map (fun e=>(e.key,e.val))=some (kv k,vv x):=by
   have:=congrArg (fun l=>l[j]?) h2;simpa[hx]using this
  cases he:es.toList[j]? with
  |none=>rw[he]at hj;simp at hj
  |some e'=>
   rw[he]at hj;simp at hj;simp only[JT,he,hx,GB,hj.2]
   cases ok<;>simp
theorem dp{P:G7}{T K E:G0}(hT:P.underlying T=some (.map K E))(hK:KeyL P K kv){O:Nat->Nat}{w:ln}{i r:Nat}{l:List (κ×ν)}(h:MapO kv vv O w i r l)(a9:i≠0)(k:κ)(x:ν):
  ∃w',(Jb T (.map (some r)) (kv k) (vv x)).run P w=.ok () w'/\MapO kv vv O w' i r (bZ l k x)/\Upd (fun j=>j=i) O w O w':=by
 obtain⟨es,c,h1,h2⟩:=h.blk;have a8:es.toList.map (·.key)=(l.map (·.1)).map kv:=by
  have:=congrArg (Jn KY) h2;simpa[JD]using this
 have hf:=hK.find k es.toList (l.map (·.1)) w a8;rw[dG]at hf;have hc:=hK.check false 9998 k w;have hr:=bm h1;have a7:es.size=l.length:=by have:=congrArg List.length h2;simpa using this
 have a1:=h.born es c h1;have fin:∀(a0:Array Kl) (c':Nat),((a0.toList.map (·.born)).Nodup/\∀e∈a0.toList,e.born<c')->a0.toList.map (fun e=>(e.key,e.val))=(bZ l k x).map (fun p=>(kv p.1,vv p.2))->
   MapO kv vv O { w with heap:=w.heap.setIfInBounds r (.map a0 c') } i r (bZ l k x)/\Upd (fun j=>j=i) O w O { w with heap:=w.heap.setIfInBounds r (.map a0 c') }:=by
  intro a0 c' a4 he;refine⟨⟨⟨a0,c',by simp[hr],he⟩,h.tag,fun a' c2 h2=>by simp[hr]at h2;obtain⟨rfl,rfl⟩:=h2;exact a4⟩,⟨rfl,rfl,rfl,by simp,fun b _ hn=>?_,fun _ _=>rfl,fun _ h=>.inl h,fun h=>a9 h.symm⟩⟩;simp only[Je];rw[if_neg (fun e=>hn (by rw[<-e];exact h.tag))]
 have a2:(Jb T (.map (some r)) (kv k) (vv x)).run P w=((match ((iy l k).bind fun i=>(es.toList[i]?).map fun e=>(i,e.val))with
   |some (i,_)=>do
    let key <-IZ (((es[i]?).map (·.key)).getD (kv k)) (kv k)
    setObj r (.map (es.modify i fun e=>{ e with key,val:=vv x }) c)
   |none=>setObj r (.map (es.push { key:=kv k,val:=vv x,born:=c }) (c+1)):Sem Unit)).run P w:=by
  simp only[Jb,G6,run_underlying hT,G2];simp only[getObj,Jm,h1,G6,G2,hc,hf];generalize ((iy l k).bind fun i=>Option.map (fun e=>(i,e.val)) es.toList[i]?)=q
  cases q with
  |none=>rfl
  |some p=>rfl
 rw[a2,dN]
 cases hi:iy l k with
 |none=>
  refine⟨_,by simp only[Option.bind_none,setObj,Jm,h1];rfl,?_⟩
  have:=fin (es.push { key:=kv k,val:=vv x,born:=c }) (c+1) (by
   refine⟨?_,?_⟩
   ·simp only[JZ,Jf,Gu,GJ];refine K7.2 ⟨a1.1,by simp,?_⟩;intro a ha b hb;obtain⟨e,he,rfl⟩:=Ia.1 ha;have:=a1.2 e he;simp at hb;omega
   intro e he;simp only[JZ,GC,Gs]at he
   rcases he with he|rfl
   ·have:=a1.2 e he;omega
   simp) (by rw[dN,hi];simp[h2])
  rw[dN,hi]at this;exact this
 |some j=>
  obtain⟨y,hy⟩:=gM hi;have hj:es.toList[j]?.map (fun e=>(e.key,e.val))=some (kv k,vv y):=by
   have:=congrArg (fun l=>l[j]?) h2;simpa[hy]using this
  cases he:es.toList[j]? with
  |none=>rw[he]at hj;simp at hj
  |some e'=>
   rw[he]at hj;simp at hj;have a3:es[j]? = some e':=by simpa using he
   have a6:(IZ (kv k) (kv k))=pure (kv k):=by simp[IZ,hK.same k]
   refine⟨_,by simp only[JT,he,GB,a3,hj.1,Option.getD_some,a6,G6,GA,G2,setObj,Jm,h1];rfl,?_⟩;have a5:((es.modify j fun e=>{ e with key:=kv k,val:=vv x }).toList.map (·.born))=es.toList.map (·.born):=by
    simp only[JH];apply K8;intro m;simp only[J7,JG]
    split
    ·cases es.toList[m]?<;>simp
    cases es.toList[m]?<;>simp
   have:=fin (es.modify j fun e=>{ e with key:=kv k,val:=vv x }) c (by
    rw[a5];refine⟨a1.1,fun e he=>?_⟩;have:e.born∈es.toList.map (·.born):=by rw[<-a5];exact Ia.2 ⟨e,he,rfl⟩
    obtain⟨e2,a3,q⟩:=Ia.1 this;have:=a1.2 e2 a3;omega) (by
    rw[dN,hi];simp only[JH];apply K8;intro m;have h2m:=congrArg (fun l=>l[m]?) h2;simp only[J7]at h2m;simp only[J7,JG,List.getElem?_set]
    by_cases hm:j=m
    ·subst hm;have hl:j<l.length:=(GE.1 hy).1;simp[he,hl]
    simp only[if_neg hm]
    simpa using h2m)
   rw[dN,hi]at this;exact this
section
variable{P:G7}{N:Nat}{ops:Array Gv}{Q:GP→I4→ln→Prop}{rest:List Gv}{st:St}{w:ln}
variable{t:G0}{p:String}{e:Array Iq}{d:Nat}{x y z:G4}
theorem WL.makeMap{T:G0}(hd:G1 d N=true)(h:WL P N ops Q rest ((d,.map (some w.heap.size))::st) (w.alloc (.map #[] 0))):WL P N ops Q (⟨some d,.makeMap T none,t,p,e,none⟩::rest) st w:=
 WL.val hd (fun a ha=>by simp only[execOp,GX,G6];rfl) h
theorem RV.lookup{T K E:G0}{O:Nat->Nat}{i r:Nat}{l:List (κ×ν)}(hm:MapO kv vv O w i r l)(hT:P.underlying T=some (.map K E))(hK:KeyL P K kv){z:ix}(hz:(Is E).run P w=.ok z w)
  (k:κ) {kx u:ix} (hx:ev st x=some (.map (some r))) (hy:ev st y=some kx) (hk:kx=kv k) (hu:C8 vv z (bf l k)=u):RV P N (.lookup T x y false) t st w u:=
 fun a ha a0 p e g=>by
  subst hk;subst hu;simp only[execOp,ha.ev hx,ha.ev hy,G6,iI hT hK hm hz]
  cases bf l k<;>simp[C8]
theorem cy{T K E:G0}{O:Nat->Nat}{i r:Nat}{l:List (κ×ν)}(hm:MapO kv vv O w i r l)(hT:P.underlying T=some (.map K E))(hK:KeyL P K kv){z:ix}(hz:(Is E).run P w=.ok z w)
  (k:κ) {kx u:ix} (hx:ev st x=some (.map (some r))) (hy:ev st y=some kx) (hk:kx=kv k) (hu:B3 vv z (bf l k)=u):RV P N (.lookup T x y true) t st w u:=
 fun a ha a0 p e g=>by
  subst hk;subst hu;simp only[execOp,ha.ev hx,ha.ev hy,G6,iI hT hK hm hz]
  cases bf l k<;>simp[B3]
theorem WL.mapUpdate{T K E:G0}{O:Nat->Nat}{i r:Nat}{l:List (κ×ν)}(hm:MapO kv vv O w i r l)(hT:P.underlying T=some (.map K E))(hK:KeyL P K kv)(a0:i≠0)
  (k:κ) (u:ν) {kx ux:ix} (hx:ev st x=some (.map (some r))) (hy:ev st y=some kx) (hz:ev st z=some ux) (hk:kx=kv k) (hu:ux=vv u)
  (h:∀w',MapO kv vv O w' i r (bZ l k u)->Upd (fun j=>j=i) O w O w'->WL P N ops Q rest st w'):WL P N ops Q (⟨none,.mapUpdate T x y z,t,p,e,none⟩::rest) st w:=by
 subst hk;subst hu;obtain⟨w',h1,h2,h3⟩:=dp hT hK hm a0 k u;exact gO (fun a ha=>by simp only[execOp,ha.ev hx,ha.ev hy,ha.ev hz,G6,h1,G2,GA]) (h w' h2 h3)
end
end
end Go.VL
end
section
namespace Go.VL
theorem C6{α:Type}[Inhabited α]{l:List α}{p:α->Bool}(h:∀j,j<l.length->p (nth l j)=true):l.all p=true:=by
 rw[Kf];intro x hx;obtain⟨i,hi,rfl⟩:=JP hx;rw[<-aB hi];exact h i hi
theorem tk{α:Type}[Inhabited α]{l:List α}{p:α->Bool}{j:Nat}(hj:j<l.length)(h:p (nth l j)=false):l.all p=false:=by
 rw[List.all_eq_false];exact⟨l[j],IE hj,by rw[<-aB hj,h];simp⟩
theorem aN{α:Type}[Inhabited α]{l:List α}{j:Nat}(hj:j<l.length):nth l j∈l:=by rw[aB hj];exact IE hj
theorem aF{α:Type}[Inhabited α]{l:List α}{j:Nat}(hj:j<l.length):l.take (j+1)=l.take j++[nth l j]:=by
 rw[J5 hj,aB hj]
theorem Gm{α:Type}[Inhabited α]{l:List α}{x:α}(hx:x∈l):∃j,j<l.length/\nth l j=x:=by
 obtain⟨i,hi,rfl⟩:=JP hx;exact⟨i,hi,aB hi⟩
def iH(q:Nat->Bool)(n:Nat):Bool:=(GS n).any q
theorem eh{q:Nat->Bool}{n:Nat}:iH q n=true↔∃i,i<n/\q i=true:=by simp[iH]
theorem bP{q:Nat->Bool}{n:Nat}:iH q n=false↔∀i,i<n->q i=false:=by simp[iH]
theorem xy{q r:Nat->Bool}{n:Nat}(h:∀i,i<n->q i=r i):iH q n=iH r n:=by
 cases hq:iH r n with
 |true=>obtain⟨i,hi,hr⟩:=eh.1 hq;exact eh.2 ⟨i,hi,by rw[h i hi,hr]⟩
 |false=>exact bP.2 fun i hi=>by rw[h i hi];exact bP.1 hq i hi
theorem gL{α:Type}[Inhabited α]{l:List α}{p:α->Bool}:iH (fun i=>p (nth l i)) l.length=l.any p:=by
 cases h:l.any p with
 |true=>
  obtain⟨x,hx,hp⟩:=Ke.1 h;obtain⟨i,hi,rfl⟩:=Gm hx;exact eh.2 ⟨i,hi,hp⟩
 |false=>exact bP.2 fun i hi=>by have:=List.any_eq_false.1 h _ (aN hi);simpa using this
def dh(q:Nat->Bool)(n:Nat):Int:=match (GS n).find? q with
 |some i=>i
 |none=>-1
theorem bW{q:Nat->Bool}{n:Nat}(h:∀i,i<n->q i=false):dh q n = -1:=by
 have:(GS n).find? q=none:=by rw[JW];intro x hx;simp[h x (Ii.1 hx)]
 rw[dh,this]
theorem bY{q:Nat->Bool}{n k:Nat}(hk:k<n)(hy:q k=true)(a0:∀i,i<k->q i=false):dh q n=k:=by
 have:(GS n).find? q=some k:=by
  rw[List.find?_range_eq_some];exact⟨hy,Ii.2 hk,fun j hj=>by simp[a0 j hj]⟩
 rw[dh,this]
theorem firstN_any{q:Nat->Bool}{n:Nat}:decide ((0:Int)<=dh q n)=iH q n:=by
 cases h:iH q n with
 |false=>rw[bW (bP.1 h)];rfl
 |true=>
  obtain⟨i,hi,hq⟩:=eh.1 h;have:∃j,(GS n).find? q=some j:=by
   cases hf:(GS n).find? q with
   |some j=>exact⟨j,rfl⟩
   |none=>rw[JW]at hf;exact absurd hq (hf i (Ii.2 hi))
  obtain⟨j,hj⟩:=this;rw[dh,hj];simp
theorem dW{α:Type}[Inhabited α]{l:List α}{j:Nat}(h:l.length<=j):nth l j=default:=by simp[nth,GN,IN h]
theorem aP{α:Type}[Inhabited α]{l:List α}{i j:Nat}{x:α}(hi:i<l.length):nth (l.set i x) j=if j=i then x else nth l j:=by
 by_cases hj:j<l.length
 ·rw[aB (by simpa using hj),aB hj,List.getElem_set]
  by_cases h:i=j<;>simp[h,eq_comm]
 rw[if_neg zo];have:∀l:List α,l.length<=j->nth l j=default:=fun l h=>by simp[nth,GN,IN h]
 rw[this _ (by simp;omega),this _ zo]
theorem ay{α:Type}[Inhabited α]{l r:List α}{j:Nat}:nth (l++r) j=if j<l.length then nth l j else nth r (j-l.length):=by
 split
 ·rename_i h;rw[aB (by simp;omega),aB h,List.getElem_append_left h]
 rename_i h
 by_cases hj:j-l.length<r.length
 ·rw[aB (by simp;omega),aB hj,List.getElem_append_right zo]
 have:∀(l:List α) (j:Nat),l.length<=j->nth l j=default:=fun l j h=>by simp[nth,GN,IN h]
 rw[this _ _ (by simp;omega),this _ _ zo]
theorem dV{α β:Type}[Inhabited α][Inhabited β]{f:α->β}{l:List α}{i:Nat}(h:i<l.length):nth (l.map f) i=f (nth l i):=by
 rw[aB (by simpa using h),aB h];simp
end Go.VL
end
section
namespace Go.VL
open Go.ChangeShapes Go.WideShapes Go.ChangeAt Go.RowKit Go.Deep
variable{H:Type}{enc:G0×ix→H}{P:G7}{w:ln}{base:Nat}{held:Bool}
theorem Ap{f:IT}{args:List ix}(h:Ret P f args w fun v w'=>v=.bool true/\Ext w w'):KK P f args.toArray w fun e w'=>e=.returned (.bool true)/\Below w.heap.size w w':=
 GL h fun e w' q=>by
  cases e with
  |returned v=>exact⟨by rw[q.1],q.2⟩
  |panicked c=>exact q.elim
  |outgrown=>exact q.elim
end Go.VL
end
section
namespace Go.VL
open Go.ChangeShapes Go.WideShapes Go.ChangeAt Go.RowKit Go.Deep
section
variable{H:Type}{enc:G0×ix→H}{P:G7}{w:ln}{base:Nat}{held:Bool}
def Rd(enc:G0×ix->H)(P:G7)(w:ln)(base:Nat)(a0:Bool)(t:G0)(cs:List ix):Prop:=∃fuel x,Jk enc P w base (fun _=>true) a0 fuel t cs=some x
theorem FN{t:G0}{v:ix}{d:DataW H}{ps:List MemPlace}(h:DataW.Trod enc P w base (fun _=>true) held t v d ps):Rd enc P w base held t v.cells.toList:=by
 obtain⟨a0,hf⟩:=h;exact⟨a0,_,hf⟩
theorem Rd.int{t:G0}{k:G8}{cs:List ix}(ht:P.underlying t=some (.int k))(h:Rd enc P w base held t cs):∃n,cs=[.int k n]/\(Lh k n).wf=true:=by
 obtain⟨a0,x,h⟩:=h
 cases a0 with
 |zero=>simp[Jk]at h
 |succ m=>
  unfold Jk at h;rw[ht]at h
  split at h<;>simp_all
theorem Rd.slice{t e:G0}{sz:Nat}{cs:List ix}(ht:P.underlying t=some (.slice e))(ce:P.cellsOf e=sz)(hz:0<sz)(h:Rd enc P w base held t cs):
  ∃v xs,cs=[v]/\Sl (fun c:List ix=>c) sz w v xs/\∀c∈xs,c.length=sz/\Rd enc P w base held e c:=by
 obtain⟨a5,x,h⟩:=h
 rcases open_slice ht h with⟨rfl,_⟩|⟨a,len,a6,m,n,D,Pl,rfl,hb,hl,hm,a3,rfl,hx⟩
 ·exact⟨_,[],rfl,⟨⟨none,0,rfl,GD _,zo,fun h=>absurd rfl h⟩,fun i hi=>absurd hi (by simp)⟩,by simp⟩
 simp only[if_true]at a3;subst a3;obtain⟨V,hV⟩:=choose_lt (α:=List ix) (p:=fun i c=>w.cells? base (a.add (i*P.cellsOf e)) (P.cellsOf e)=some c/\Jk enc P w base (fun _=>true) held n e c=some (D i,Pl i)) hx;rw[ce]at hV;have hc:∀i,i<len->∀j u,(V i)[j]? = some u->w.cell? (a.add (i*sz+j))=some u:=fun i hi j u hu=>by
  obtain⟨_,a0,a1⟩:=JR (hV i zo).1;have hj:j<sz:=by have:=(GE.1 hu).1;omega
  have:=a1 j hj;rw[add_add]at this;rw[this,hu]
 have a0:∀i,i<len->(V i).length=sz:=fun i hi=>(JR (hV i zo).1).2.1
 have a2:((GS len).map V).length=len:=by simp
 refine⟨_,(GS len).map V,rfl,⟨⟨some a,m,by rw[a2],zo,by simpa[maxLen]using hm,fun h=>?_⟩,fun i hi j u hu=>?_⟩,fun c a4=>?_⟩
 ·rw[a2]at h;have h0:0<(V 0).length:=by rw[a0 0 zo];exact hz
  have:=hc 0 zo 0 _ (GT h0);obtain⟨b,o,s⟩:=a;have hs:s=none:=by simpa[GH]using K6 this
  subst hs;exact⟨b,o,rfl⟩
 ·rw[a2]at hi;have h0:0<(V 0).length:=by rw[a0 0 zo];exact hz
  have h1:=hc 0 zo 0 _ (GT h0);obtain⟨b,o,s⟩:=a;have hs:s=none:=by simpa[GH]using K6 h1
  subst hs;simp only[Kd,JV]at hu;have h2:=hc i hi j u hu;simp only[adr];have e1:((⟨b,o,none⟩:GQ).add (i*sz+j))=((⟨b,o+i*sz,none⟩:GQ).add j):=by
   simp only[GH];split<;>split<;>simp_all<;>omega
  rw[e1]at h2;exact h2
 simp only[Ia,Ii]at a4;obtain⟨i,hi,rfl⟩:=a4;exact⟨a0 i hi,n,_,(hV i zo).2⟩
theorem yV{α β:Type}{f:α->β}{R:α->Prop}:∀(xs:List β),(∀c∈xs,∃a,c=f a/\R a)->∃ys:List α,xs=ys.map f/\∀y∈ys,R y
 |[],_=>⟨[],rfl,by simp⟩
 |c::xs,h=>by
  obtain⟨a,ha,hR⟩:=h c (by simp);obtain⟨ys,hy,hr⟩:=yV xs (fun c hc=>h c (by simp[hc]));exact⟨a::ys,by simp[ha,hy],by simpa[hR]using hr⟩
theorem Sl.of_map{α β:Type}{enc:β->List ix}{f:α->β}{sz:Nat}{v:ix}{ys:List α}(h:Sl enc sz w v (ys.map f)):Sl (fun a=>enc (f a)) sz w v ys:=by
 refine⟨by simpa using h.shape,fun i hi j u hu=>h.cells i (by simpa using hi) j u (by simpa using hu)⟩
theorem Rd.sliceOf{α:Type}{f:α->List ix}{R:α->Prop}{t e:G0}{sz:Nat}{cs:List ix}(ht:P.underlying t=some (.slice e))(ce:P.cellsOf e=sz)(hz:0<sz)(a0:∀c,Rd enc P w base held e c->∃a,c=f a/\R a)(h:Rd enc P w base held t cs):
  ∃v xs,cs=[v]/\Sl f sz w v xs/\∀a∈xs,R a:=by
 obtain⟨v,xs,rfl,hs,hx⟩:=h.slice ht ce hz;obtain⟨ys,rfl,hy⟩:=yV (f:=f) (R:=R) xs fun c hc=>a0 c (hx c hc).2
 exact⟨v,ys,rfl,hs.of_map,hy⟩
theorem Rd.ints{k:G8}{t e:G0}{cs:List ix}(ht:P.underlying t=some (.slice e))(he:P.underlying e=some (.int k))(ce:P.cellsOf e=1)(h:Rd enc P w base held t cs):
 ∃v zs,cs=[v]/\Sl (fun n=>[Ig k n]) 1 w v zs/\∀n∈zs,(Lh k n).wf=true:=h.sliceOf ht ce zd (fun _ hc=>hc.int he)
end
end Go.VL
end
section
namespace Go.Proofs.YtpfpmhhigheccaaGreatDoor
open Go.VL Go.Proofs
set_option maxRecDepth 10000
def dD(n:Nat):List UInt8:=if n<128 then [Io n]else Io (128+n % 128)::dD (n / 128)
decreasing_by omega
def gz:Nat->List UInt8->Option (Nat×List UInt8)
 |_,[]=>none
 |i,c::r=>
  if(i=9/\1<c.toNat)\/(0<i/\c.toNat=0)then none
  else if c.toNat<128 then some (c.toNat,r)
  else match gz (i+1) r with
   |some (m,r')=>some (c.toNat % 128+128*m,r')
   |none=>none
theorem CD(n:Nat):dD n≠[]:=by unfold dD;split<;>simp
theorem toNat_ofNat{n:Nat}(h:n<256):(Io n).toNat=n:=by rw[JN];omega
theorem ofNat_eq{c:UInt8}{n:Nat}(h:c.toNat=n):c=Io n:=by subst h;simp
theorem yG:∀(k i n:Nat) (r:List UInt8),i+k=9->(0<i->0<n)->n<2*128^k->gz i (dD n++r)=some (n,r)
 |0,i,n,r,hi,h0,hn=>by
  have hn:n<2:=by simpa using hn
  unfold dD;rw[if_pos zo,Ij];unfold gz;rw[toNat_ofNat zo,if_neg zo,if_pos zo]
 |k+1,i,n,r,hi,h0,hn=>by
  unfold dD
  split
  ·rename_i hlt;rw[Ij];unfold gz;rw[toNat_ofNat zo,if_neg zo,if_pos hlt]
  rename_i hge;rw[GW];unfold gz;rw[toNat_ofNat zo,if_neg zo,if_neg zo]
  have ih:=yG k (i+1) (n / 128) r zo (fun _=>zo) (by
   rw[JA]at hn;refine JO ?_;rw[show 128*(2*128^k)=2*(128^k*128)from by rw[KN (128^k) 128,Nat.mul_left_comm]]
   exact hn)
  rw[ih];dsimp only;rw[show(128+n % 128) % 128+128*(n / 128)=n from by omega]
theorem uF:∀(k i:Nat) (l:List UInt8) (n:Nat) (r:List UInt8),i+k=9->gz i l=some (n,r)->l=dD n++r/\n<2*128^k/\(0<i->0<n)
 |_,_,[],_,_,_,h=>by cases h
 |0,i,c::l,n,r,hi,h=>by
  unfold gz at h
  split at h
  ·cases h
  rename_i hc;rw[if_pos zo]at h;have h:=GK h;obtain⟨rfl,rfl⟩:c.toNat=n/\l=r:=by simpa using h
  refine⟨?_,by rw[Nat.pow_zero];omega,fun _=>zo⟩;unfold dD;rw[if_pos zo,Ij,<-ofNat_eq rfl]
 |k+1,i,c::l,n,r,hi,h=>by
  unfold gz at h
  split at h
  ·cases h
  rename_i hc
  split at h
  ·rename_i hlt;have h:=GK h;obtain⟨rfl,rfl⟩:c.toNat=n/\l=r:=by simpa using h
   refine⟨?_,?_,fun _=>zo⟩
   ·unfold dD;rw[if_pos hlt,Ij,<-ofNat_eq rfl]
   have:128<=128^(k+1):=by rw[JA];have:=J2 (KM (Nat.pow_pos (n:=k) (show 0<128 by decide)));omega
   omega
  rename_i hge
  cases hm:gz (i+1) l with
  |none=>rw[hm]at h;cases h
  |some x=>
   obtain⟨m,r'⟩:=x;rw[hm]at h;have h:=GK h;obtain⟨rfl,rfl⟩:c.toNat % 128+128*m=n/\r'=r:=by simpa using h
   obtain⟨e1,e2,e3⟩:=uF k (i+1) l m r' zo hm;have e3:=e3 zo;have a0:=c.toNat_lt;refine⟨?_,by rw[JA];omega,fun _=>zo⟩;unfold dD;rw[if_neg zo,show(c.toNat % 128+128*m) / 128=m from by omega,show 128+(c.toNat % 128+128*m) % 128=c.toNat from by omega,<-ofNat_eq rfl,e1];rfl
theorem dL{l:List UInt8}{n:Nat}{r:List UInt8}:gz 0 l=some (n,r)↔l=dD n++r/\n<2^64:=by
 have e:2*128^9=2^64:=zd
 constructor
 ·intro h;obtain⟨h1,h2,_⟩:=uF 9 0 l n r rfl h;exact⟨h1,zo⟩
 rintro⟨rfl,h⟩;exact yG 9 0 n r rfl (fun h=>absurd h (KH 0)) zo
def smR(l:List UInt8):Option (Nat×List UInt8):=match gz 0 l with
 |some (n,r)=>if 2^20<n then none else some (n,r)
 |none=>none
theorem gn{l:List UInt8}{n:Nat}{r:List UInt8}:smR l=some (n,r)↔l=dD n++r/\n<=2^20:=by
 unfold smR
 cases h:gz 0 l with
 |none=>
  constructor
  ·intro e;cases e
  rintro⟨e,hn⟩;rw[dL.2 ⟨e,zo⟩]at h;cases h
 |some x=>
  obtain⟨m,s⟩:=x;obtain⟨h1,h2⟩:=dL.1 h;dsimp only
  split
  ·rename_i hb
   constructor
   ·intro e;cases e
   rintro⟨e,hn⟩;rw[dL.2 ⟨e,zo⟩]at h;have h:=GK h;have:n=m:=(J4 h).1;omega
  rename_i hb
  constructor
  ·intro e;have e:=GK e;obtain⟨rfl,rfl⟩:=J4 e;exact⟨h1,zo⟩
  rintro⟨e,hn⟩;rw[dL.2 ⟨e,zo⟩]at h;exact h.symm
def eO{α:Type}(f:List UInt8->Option (α×List UInt8)):Nat->List UInt8->Option (List α×List UInt8)
 |0,l=>some ([],l)
 |k+1,l=>match f l with
  |some (x,r)=>match eO f k r with
   |some (xs,s)=>some (x::xs,s)
   |none=>none
  |none=>none
theorem eN{α:Type}{f:List UInt8->Option (α×List UInt8)}{g:α->List UInt8}{ok:α->Prop}(hf:∀l x r,f l=some (x,r)↔l=g x++r/\ok x):∀(k:Nat) (l:List UInt8) (xs:List α) (r:List UInt8),eO f k l=some (xs,r)↔l=xs.flatMap g++r/\xs.length=k/\∀x∈xs,ok x
 |0,l,xs,r=>by
  unfold eO
  constructor
  ·intro e;obtain⟨rfl,rfl⟩:=J4 (GK e);exact⟨rfl,rfl,fun x hx=>by cases hx⟩
  rintro⟨e,hl,_⟩;have:=Gt hl;subst this;rw[e];rfl
 |k+1,l,xs,r=>by
  unfold eO
  constructor
  ·intro e
   cases h:f l with
   |none=>rw[h]at e;cases e
   |some x=>
    obtain⟨x,s⟩:=x;rw[h]at e;dsimp only at e
    cases h2:eO f k s with
    |none=>rw[h2]at e;cases e
    |some y=>
     obtain⟨ys,t⟩:=y;rw[h2]at e;obtain⟨rfl,rfl⟩:=J4 (GK e);obtain⟨a1,a2⟩:=(hf _ _ _).1 h;obtain⟨b1,b2,b3⟩:=(eN hf k _ _ _).1 h2;refine⟨by rw[a1,b1];simp,by simp[b2],fun z hz=>?_⟩
     rcases Jr.1 hz with rfl|hz
     ·exact a2
     exact b3 z hz
  rintro⟨e,hl,a0⟩
  cases xs with
  |nil=>simp at hl
  |cons x ys=>
   rw[(hf l x (ys.flatMap g++r)).2 ⟨by rw[e];simp,a0 x (by simp)⟩];dsimp only;rw[(eN hf k _ ys r).2 ⟨rfl,by simpa using hl,fun z hz=>a0 z (by simp[hz])⟩]
def lstR(l:List UInt8):Option (List Nat×List UInt8):=match smR l with
 |some (n,r)=>eO smR n r
 |none=>none
def pK(xs:List Nat):List UInt8:=dD xs.length++xs.flatMap dD
def okL(xs:List Nat):Prop:=xs.length<=2^20/\∀x∈xs,x<=2^20
theorem jC{l:List UInt8}{xs:List Nat}{r:List UInt8}:lstR l=some (xs,r)↔l=pK xs++r/\okL xs:=by
 unfold lstR pK okL
 constructor
 ·intro e
  cases h:smR l with
  |none=>rw[h]at e;cases e
  |some x=>
   obtain⟨n,s⟩:=x;rw[h]at e;obtain⟨a1,a2⟩:=gn.1 h;obtain⟨b1,b2,b3⟩:=(eN (fun _ _ _=>gn) n s xs r).1 e;subst b2;exact⟨by rw[a1,b1,Gy],a2,b3⟩
 rintro⟨e,h1,h2⟩;rw[gn.2 ⟨by rw[e,Gy],h1⟩];exact(eN (fun _ _ _=>gn) _ _ xs r).2 ⟨rfl,rfl,h2⟩
def telR(l:List UInt8):Option (List Nat×List UInt8):=match smR l with
 |some (n,r)=>eO (gz 0) n r
 |none=>none
def okU(xs:List Nat):Prop:=xs.length<=2^20/\∀x∈xs,x<2^64
theorem AK{l:List UInt8}{xs:List Nat}{r:List UInt8}:telR l=some (xs,r)↔l=pK xs++r/\okU xs:=by
 unfold telR pK okU
 constructor
 ·intro e
  cases h:smR l with
  |none=>rw[h]at e;cases e
  |some x=>
   obtain⟨n,s⟩:=x;rw[h]at e;obtain⟨a1,a2⟩:=gn.1 h;obtain⟨b1,b2,b3⟩:=(eN (fun _ _ _=>dL) n s xs r).1 e;subst b2;exact⟨by rw[a1,b1,Gy],a2,b3⟩
 rintro⟨e,h1,h2⟩;rw[gn.2 ⟨by rw[e,Gy],h1⟩];exact(eN (fun _ _ _=>dL) _ _ xs r).2 ⟨rfl,rfl,h2⟩
end Go.Proofs.YtpfpmhhigheccaaGreatDoor
end
section
namespace Go.VL
def evp(st:St):List (Nat×G4)->Option (List (Nat×ix))
 |[]=>some []
 |(i,x)::r=>match ev st x,evp st r with
  |some v,some vs=>some ((i,v)::vs)
  |_,_=>none
section
variable{P:G7}{N:Nat}{ops:Array Gv}{Q:GP→I4→ln→Prop}{rest:List Gv}{st:St}{w:ln}
variable{t:G0}{p:String}{e:Array Iq}{d:Nat}{x y z:G4}
theorem Fits.evp{a:I4}(ha:Fits N a st):∀ {l:List (Nat×G4)} {vs:List (Nat×ix)},evp st l=some vs->l.map (fun q=>(q.1,a.eval q.2))=vs:=by
 intro l
 induction l with
 |nil=>intro vs h;simpa[VL.evp]using h.symm
 |cons q r ih=>
  obtain⟨i,x⟩:=q;intro vs h;simp only[VL.evp]at h
  cases h1:VL.ev st x with
  |none=>rw[h1]at h;simp at h
  |some v=>
   cases h2:VL.evp st r with
   |none=>rw[h1,h2]at h;simp at h
   |some vs'=>
    rw[h1,h2]at h;simp at h;subst h;rw[Gu,ha.ev h1,ih h2]
def cD(P:G7)(T:G0)(pl:Array (Nat×Nat)):Prop:=
 ∃fs,P.underlying T=some (.struct fs)/\∀w,(fs.mapM fun f=>do pure (f.offset,<-GO f.type):Sem (Array (Nat×Nat))).run P w=.ok pl w
theorem RV.build{T:G0}{pl:Array (Nat×Nat)}{parts:List (Nat×G4)}{vs:List (Nat×ix)}{z:ix}{cells:Array ix}(hp:cD P T pl)(hz:(Is T).run P w=.ok z w)
  (hv:evp st parts=some vs) (hf:Iy (pl[·]?) z.cells vs=some cells):RV P N (.build T parts.toArray) t st w (.agg cells):=
 fun a ha a1 p e g=>by
  obtain⟨fs,hu,a0⟩:=hp;have h1:=ha.evp hv;have e1:(Jn (fun x:Nat×G4=>match x with|(i,x)=>(i,a.eval x)) parts)=vs:=by rw[<-h1]
  simp only[execOp,KI,G9,e1,G6,hz,G2,run_underlying hu,a0,hf,GA]
theorem fill_flat(pl:Array (Nat×Nat)):∀(vs:List (Nat×ix)) (cells:Array ix),(vs.all fun q=>q.2.oneCell')=true->
  (vs.all fun q=>match pl[q.1]? with|some (off,1)=>G1 off cells.size|_=>false)=true->
  Iy (pl[·]?) cells vs=some (vs.foldl (fun cs q=>cs.setIfInBounds (pl.getD q.1 (0,0)).1 q.2) cells)
 |[],cells,_,_=>rfl
 |(i,v)::r,cells,h1,h2=>by
  simp only[KA,GF]at h1 h2;obtain⟨hv,h1⟩:=h1;obtain⟨hi,h2⟩:=h2
  cases hp:pl[i]? with
  |none=>rw[hp]at hi;simp at hi
  |some q=>
   obtain⟨off,s⟩:=q;rw[hp]at hi
   split at hi
   ·rename_i he;simp only[IQ,Ka]at he;obtain⟨rfl,rfl⟩:=he;have a2:off<cells.size:=Ik hi;have hc:v.cells = #[v]:=by cases v<;>first|rfl|simp[I8]at hv
    have hg:pl.getD i (0,0)=(off,1):=by simp[G5,hp]
    have a0:∀(f:Array ix->ix×Nat->Array ix),(∀cs c j,f cs (c,j)=cs.setIfInBounds (off+j) c)->(#[v].zipIdx).foldl f cells=cells.setIfInBounds off v:=fun f hf=>by
     rw[show(#[v].zipIdx) = #[(v,0)]from rfl];show f cells (v,0)=_;rw[hf];rfl
    have a1:¬(1≠1\/off+1>cells.size):=zo;simp only[Iy,hp,hc,Ko,hg];have e1:((#[v].size:Nat))=1:=rfl;simp only[e1];rw[if_neg (by simp;omega)];rw[a0 _ (fun _ _ _=>rfl)];exact fill_flat pl r _ h1 (by simpa using h2)
   cases hi
theorem aD{T:G0}{pl:Array (Nat×Nat)}{parts:List (Nat×G4)}{vs:List (Nat×ix)}{z:ix}{cells:Array ix}(hp:cD P T pl)(hz:(Is T).run P w=.ok z w)
  (hv:evp st parts=some vs) (h1:(vs.all fun q=>q.2.oneCell')=true) (h2:(vs.all fun q=>match pl[q.1]? with|some (off,1)=>G1 off z.cells.size|_=>false)=true)
  (hf:vs.foldl (fun cs q=>cs.setIfInBounds (pl.getD q.1 (0,0)).1 q.2) z.cells=cells):RV P N (.build T parts.toArray) t st w (.agg cells):=
 RV.build hp hz hv (by rw[fill_flat pl vs _ h1 h2,hf])
theorem qJ{O:Nat->Nat}{i b:Nat}{cs us:Array ix}{E T:G0}(hb:BlkO O w i b cs E)(hs:us.size=cs.size)(hT:(GO T).run P w=.ok us.size w)(h1:∀u∈us.toList,u.oneCell'=true):
  (IV T (nP b) (.agg us)).run P w=.ok () (w.setRow b us):=by
 have:=run_storeCells_at P b 0 E us.toList 0 cs w hb.blk (by simp[hs]) h1;simp only[I0,Ku,II,JI]at this;rw[Jv (by simp[hs]),IL]at this;simp only[IV,GV,storeVar,G6,GA,G2,Jz,hT];simpa using this
theorem BlkO.setRow{O:Nat->Nat}{w:ln}{i b:Nat}{cs us:Array ix}{E:G0}(h:BlkO O w i b cs E):BlkO O (w.setRow b us) i b us E:=
 ⟨setRow_heap w b cs us E (0,0) h.blk,h.tag⟩
theorem Upd.setRow{S:Nat->Prop}(hz:¬S 0){O:Nat->Nat}{w:ln}{i b:Nat}{us:Array ix}(ht:O b=i)(hS:S i):Upd S O w O (w.setRow b us):=
 ⟨rfl,rfl,rfl,by simp,fun k _ hn=>setRow_other w b k _ (fun e=>hn (by subst e;rw[ht];exact hS)),fun _ _=>rfl,fun _ h=>.inl h,hz⟩
theorem aZ{T:G0}{O:Nat->Nat}{i b:Nat}{cs us:Array ix}{E:G0}(hb:BlkO O w i b cs E)(hs:us.size=cs.size)(hT:(GO T).run P w=.ok us.size w)(h1:us.toList.all I8=true)
  {q:GQ} (hx:ev st x=some (.pointer (some q))) (hq:q=⟨b,0,none⟩) (hy:ev st y=some (.agg us))
  (h:WL P N ops Q rest st (w.setRow b us)):WL P N ops Q (⟨none,.store T x y,t,p,e,none⟩::rest) st w:=
 gO (fun a ha=>by
  subst hq
  simp only[execOp,ha.ev hx,ha.ev hy,G6,qJ hb hs hT (Kf.1 h1),G2,GA]) h
theorem aG{B:Nat}{O:Nat->Nat}(r:Rng B O w)(i:Nat)(a0:i≠0){E:G0}{v:ix}(hx:ev st x=some v)(hd:G1 d N=true)
  (h:∀b w' O',BlkO O' w' i b v.cells E->Upd (fun j=>j=i) O w O' w'->Rng B O' w'->Ext w w'->WL P N ops Q rest ((d,nP b)::st) w'):WL P N ops Q (⟨some d,.box E x,t,p,e,none⟩::rest) st w:=by
 have u:=Upd.alloc (S:=fun j=>j=i) (fun h=>a0 h.symm) r (.cells v.cells E) i;exact WL.box hx hd (h _ _ _ (BlkO.new _ _ _ _ _) u (r.upd u) (Ext.alloc _ _))
theorem ar{B:Nat}{O:Nat->Nat}(r:Rng B O w)(i:Nat)(a0:i≠0){E:G0}{z:ix}(hz:(Is E).run P w=.ok z w)(hd:G1 d N=true)
  (h:∀b w' O',BlkO O' w' i b z.cells E->Upd (fun j=>j=i) O w O' w'->Rng B O' w'->Ext w w'->WL P N ops Q rest ((d,nP b)::st) w'):WL P N ops Q (⟨some d,.alloc E,t,p,e,none⟩::rest) st w:=by
 have u:=Upd.alloc (S:=fun j=>j=i) (fun h=>a0 h.symm) r (.cells z.cells E) i;exact WL.alloc hz hd (h _ _ _ (BlkO.new _ _ _ _ _) u (r.upd u) (Ext.alloc _ _))
theorem BlkO.cellsAdd{O:Nat->Nat}{i b:Nat}{cs:Array ix}{E:G0}(h:BlkO O w i b cs E):∀j u,cs.toList[j]? = some u->w.cell? (nA b j)=some u:=fun j u hu=>by
 rw[show(nA b j)=⟨b,j,none⟩from by simp only[GH];split<;>simp_all];exact h.cell j (by simpa using hu)
end
section
variable{P:G7}{N:Nat}{st:St}{w:ln}{fn:KP}{R:ix→ln→Prop}
theorem cY{T:G0}{q:GQ}{us:List ix}(hc:∀j u,us[j]? = some u->w.cell? (q.add j)=some u)(hT:(Kj T).run P w=.ok true w)(hn:(GO T).run P w=.ok us.length w):
  (loadVar T q).run P w=.ok (.agg us.toArray) w:=by
 have:=run_loadCellsFrom (P:=P) us 0 #[] (q:=q) (w:=w) (by simpa using hc);simp[loadVar,hT,hn,loadCells,this]
theorem aI{t:KX}{T:G0}{q:GQ}{us:List ix}(hr:fn.results = #[.cell t T])(hv:bV st t=some (.pointer (some q)))
  (hc:∀j u,us[j]? = some u->w.cell? (q.add j)=some u) (hT:(Kj T).run P w=.ok true w) (hn:(GO T).run P w=.ok us.length w) (h:R (.agg us.toArray) w):QF N (RP P fn R) .ret st w:=fun a ha=>
 ⟨ha.defers,_,by have h1:=ha.get _ _ hv;simp[results,hr,G5,h1,asAddr,cY hc hT hn],h⟩
theorem aO{t u:KX}{T:G0}{q:GQ}{us:List ix}{v':ix}(hr:fn.results = #[.cell t T,.tmp u])(hv:bV st t=some (.pointer (some q)))(a0:bV st u=some v')
  (hc:∀j u,us[j]? = some u->w.cell? (q.add j)=some u) (hT:(Kj T).run P w=.ok true w) (hn:(GO T).run P w=.ok us.length w) (h:R (.tuple #[.agg us.toArray,v']) w):QF N (RP P fn R) .ret st w:=fun a ha=>
 ⟨ha.defers,_,by have h1:=ha.get _ _ hv;have h2:=ha.get _ _ a0;simp[results,hr,G5,h1,h2,asAddr,cY hc hT hn],h⟩
end
theorem tY{α:Type}{enc:α->List ix}{sz:Nat}{w:ln}{g:Nat}{cells:Array ix}{E:G0}{xs:List α}(hb:w.heap[g]? = some (.cells cells E (0,0)))(hc:cells.toList=xs.flatMap enc)(hz:∀x∈xs,(enc x).length=sz)(hm:xs.length<=9223372036854775807):
  Sl enc sz w (.slice (some ⟨g,0,none⟩) xs.length xs.length) xs:=by
 refine⟨⟨_,_,rfl,GD _,hm,fun _=>⟨g,0,rfl⟩⟩,fun i hi j u hu=>?_⟩;have h:=fM xs hz i hi j u hu;have ha:((adr (.slice (some ⟨g,0,none⟩) xs.length xs.length) sz i).add j)=⟨g,i*sz+j,none⟩:=by
  simp only[adr,GH];split<;>simp_all
 rw[ha,cell_of_row w g _ cells E (0,0) hb];rw[<-hc]at h;simpa using h
section
variable{P:G7}{N:Nat}{ops:Array Gv}{Q:GP→I4→ln→Prop}{rest:List Gv}{st:St}{w:ln}
variable{t:G0}{p:String}{e:Array Iq}{d:Nat}
theorem iB{T E:G0}{sz n:Nat}{z:ix}{parts:List (Nat×G4)}{vs:List (Nat×ix)}(hu:P.underlying T=some (.slice E))(hE:(GO E).run P w=.ok sz w)(hz:(Is E).run P w=.ok z w)
  {α:Type} (enc:α->List ix) (xs:List α) (hn:xs.length=n) (hv:evp st parts=some vs) (a4:Kb (n*sz) 16777216=true) (a1:I7 (n*sz) 0=false)
  (hf:Iy (fun i=>some (i*sz,sz)) ((Array.range (n*sz)).map (z.cells[· % z.cells.size]!)) vs=some (xs.flatMap enc).toArray) (a2:∀x∈xs,(enc x).length=sz) (hd:G1 d N=true)
  (h:∀v w',Sl enc sz w' v xs->Ext w w'->WL P N ops Q rest ((d,v)::st) w'):WL P N ops Q (⟨some d,.buildSlice T n parts.toArray,t,p,e,none⟩::rest) st w:=by
 subst hn;have a3:=Ik a4;have a0:¬xs.length*sz=0:=fun e=>by rw[e]at a1;simp at a1
 have a5:xs.length<=xs.length*sz:=Nat.le_mul_of_pos_right _ (J2 fun e=>a0 (by rw[e,Nat.mul_zero]));refine WL.val (v:=.slice (some ⟨w.heap.size,0,none⟩) xs.length xs.length) (w':=w.alloc (.cells (xs.flatMap enc).toArray E)) hd (fun a ha=>?_) (h _ _ (tY (heap_alloc_new w _) rfl a2 zo) (Ext.alloc _ _));have h1:=ha.evp hv;have e1:(Jn (fun x:Nat×G4=>match x with|(i,x)=>(i,a.eval x)) parts)=vs:=by rw[<-h1]
 simp only[execOp,Instr.buildSlice,G9,e1,G6,run_underlying hu,G2,hE];rw[if_neg zo,if_neg a0];simp[hz,hf,newRow,newObj];rfl
end
end Go.VL
end
section
namespace Go.VL
section
variable{P:G7}{N:Nat}{ops:Array Gv}{Q:GP→I4→ln→Prop}{rest:List Gv}{st:St}{w:ln}
theorem fh(K:GP->I4->ln->Prop):∀(l r:List Gv) (a:I4) (w:ln),(∀e a w,K e a w->e≠.normal->Q e a w)->(∀a w,K .normal a w->wpList P ops Q r a w)->wpList P ops K l a w->wpList P ops Q (l++r) a w
 |[],r,a,w,_,hn,h=>hn a w h
 |o::l,r,a,w,hx,hn,h=>by
  simp only[GW];unfold wpList at h ⊢;have ih:=fun a w=>fh K l r a w hx hn
  have a1:∀c a w,K (.panic c) a w->Q (.panic c) a w:=fun c a w h=>hx _ a w h (by intro h;cases h)
  split
  ·rename_i hw;rw[if_pos hw]at h
   rcases h with h|⟨h1,a0,w0,h2⟩
   ·left;unfold Ip at h ⊢;generalize (execOp a.eval o).run P w=q at *
    cases q with
    |ok n w'=>
     cases n<;>simp only[ID]at h ⊢<;>first
      |exact ih _ _ h
      |exact h.elim
      |exact K9 h (fun _ _ he=>ih _ _ he)
      |exact GL h (fun e w'' he=>by
       cases e with
       |returned v=>exact ih _ _ he
       |panicked c=>exact a1 _ _ _ he
       |outgrown=>obtain⟨a0,w0,he⟩:=he;exact⟨a0,w0,hx _ a0 w0 he (by intro h;cases h)⟩)
    |halt x w'=>cases x<;>simp only[ID]at h ⊢<;>first|exact a1 _ _ _ h|exact h.elim
   exact .inr ⟨h1,a0,w0,hx _ a0 w0 h2 (by intro h;cases h)⟩
  rename_i hw;rw[if_neg hw]at h;exact ih _ _ h
def Di(N:Nat)(S:ln->Prop)(tB:Nat)(b:Bool)(st:St):GP->I4->ln->Prop:=fun e a w=>e=.normal/\S w/\Fits N a st/\a.tmps[tB]? = some (.bool b)
def qR(N:Nat)(ops:Array Gv)(st:St):List Gv->Bool
 |[]=>true
 |o::r=>(match o.guard with
  |some (i,c)=>(match (ops[i]?).bind (·.dst)with
   |some d=>(match bV st d with
    |some (.bool x)=>!(x==c)
    |some (.tuple _)=>true
    |_=>false)
   |none=>false)
  |none=>false)&&(match o.dst with|some d=>(match bV st d with|none=>true|_=>false)&&G1 d N&&qR N ops ((d,undef)::st) r|none=>false)
theorem po:∀(l:List Gv) (st0 st:St) (a:I4),qR N ops st l=true->(∀t v,bV st0 t=some v->bV st t=some v)->Fits N a st->(∀a',Fits N a' st0->wpList P ops Q rest a' w)->wpList P ops Q (l++rest) a w
 |[],st0,st,a,_,hc,ha,h=>h a ⟨ha.size,ha.defers,fun t v hv=>ha.get t v (hc t v hv)⟩
 |o::l,st0,st,a,hp,hc,ha,h=>by
  simp only[qR,GF]at hp;obtain⟨hg,hd⟩:=hp
  cases a2:o.dst with
  |none=>rw[a2]at hd;simp at hd
  |some d=>
   rw[a2]at hd;simp only[GF]at hd;obtain⟨⟨a4,a6⟩,a5⟩:=hd;have a0:bV st d=none:=by cases h:bV st d with|none=>rfl|some v=>rw[h]at a4;simp at a4
   simp only[GW];unfold wpList;rw[if_neg ?_]
   ·rw[a2];refine po l st0 ((d,undef)::st) _ a5 (fun t v hv=>?_) (ha.put a6 undef) h;have h1:=hc t v hv;simp only[bV]
    cases hb:I7 d t with
    |true=>have:=Gq hb;subst this;rw[a0]at h1;simp at h1
    |false=>exact h1
   cases a3:o.guard with
   |none=>rw[a3]at hg;simp at hg
   |some ic=>
    obtain⟨i,c⟩:=ic;rw[a3]at hg;simp only at hg;simp only[Gx,a3,yielded]
    cases a1:(ops[i]?).bind (·.dst)with
    |none=>rw[a1]at hg;simp at hg
    |some d'=>
     rw[a1]at hg;simp only at hg
     cases hs:bV st d' with
     |none=>rw[hs]at hg;simp at hg
     |some v=>
      rw[hs]at hg
      cases v<;>simp at hg
      ·rename_i x;simp[ha.get _ _ hs];exact fun e=>hg (by rw[e])
      simp[ha.get _ _ hs]
theorem pM{a:I4}{t:Nat}{b b':Bool}(hs:bV st t=some (.bool b))(hb:b=b')(ha:Fits N a st):Fits N a ((t,.bool b')::st):=by
 subst hb;refine⟨ha.size,ha.defers,fun u v hv=>?_⟩;simp only[bV]at hv
 cases hb:I7 t u with
 |true=>rw[hb]at hv;have:=Gq hb;subst this;simp at hv;subst hv;exact ha.get _ _ hs
 |false=>rw[hb]at hv;exact ha.get _ _ hv
theorem bx{l G:List Gv}{tA tB tP:Nat}{c:Bool}{t:G0}{p:String}{e:Array Iq}(S:ln->Prop)(b:Bool)(n:Nat)(hS:S w)(hG:l.take n=G)(a0:l.drop n=⟨some tP,.pick (.tmp tA) (.tmp tB) (.const (.bool false)),t,p,e,none⟩::rest)
  (hc:bV st tA=some (.bool c)) (a1:qR N ops ((tA,.bool false)::st) G=true) (hd:G1 tP N=true)
  (h1:c=true->WL P N ops (Di N S tB b st) G ((tA,.bool true)::st) w) (h2:∀w',S w'->WL P N ops Q rest ((tP,.bool (c&&b))::st) w'):WL P N ops Q l st w:=by
 intro a ha;rw[<-I5 n l,hG,a0]
 cases c with
 |true=>
  refine fh (Di N S tB b st) G _ a w (fun e a w h a3=>absurd h.1 a3) (fun a' w' h=>?_) (h1 rfl a (pM hc rfl ha));obtain⟨_,a4,hf,hb⟩:=h;unfold wpList;rw[if_pos (cm rfl _)];left;unfold Ip;rw[gY (b:=true) (by simpa[I9,G5]using(by rw[hf.get _ _ hc]:(a'.tmps[tA]?).getD undef=(some (.bool true)).getD undef))];simp only[cond_true];rw[show a'.eval (.tmp tB)=.bool b from by simp[I9,G5,hb]];exact h2 w' a4 _ (hf.put hd _)
 |false=>
  refine po G st ((tA,.bool false)::st) a a1 (fun t v hv=>?_) (pM hc rfl ha) (fun a' a2=>?_)
  ·simp only[bV]
   cases hb:I7 tA t with
   |true=>have:=Gq hb;subst this;rw[hc]at hv;exact hv
   |false=>exact hv
  unfold wpList;rw[if_pos (cm rfl _)];left;unfold Ip;rw[gY (b:=false) (by simpa[I9,G5]using(by rw[a2.get _ _ hc]:(a'.tmps[tA]?).getD undef=(some (.bool false)).getD undef))];exact h2 w hS _ (a2.put hd _)
theorem cu{l G:List Gv}{tA tB tP:Nat}{c:Bool}{t:G0}{p:String}{e:Array Iq}(S:ln->Prop)(b:Bool)(n:Nat)(hS:S w)(hG:l.take n=G)(a0:l.drop n=⟨some tP,.pick (.tmp tA) (.const (.bool true)) (.tmp tB),t,p,e,none⟩::rest)
  (hc:bV st tA=some (.bool c)) (a1:qR N ops ((tA,.bool true)::st) G=true) (hd:G1 tP N=true)
  (h1:c=false->WL P N ops (Di N S tB b st) G ((tA,.bool false)::st) w) (h2:∀w',S w'->WL P N ops Q rest ((tP,.bool (c||b))::st) w'):WL P N ops Q l st w:=by
 intro a ha;rw[<-I5 n l,hG,a0]
 cases c with
 |false=>
  refine fh (Di N S tB b st) G _ a w (fun e a w h a3=>absurd h.1 a3) (fun a' w' h=>?_) (h1 rfl a (pM hc rfl ha));obtain⟨_,a4,hf,hb⟩:=h;unfold wpList;rw[if_pos (cm rfl _)];left;unfold Ip;rw[gY (b:=false) (by simpa[I9,G5]using(by rw[hf.get _ _ hc]:(a'.tmps[tA]?).getD undef=(some (.bool false)).getD undef))];simp only[cond_false];rw[show a'.eval (.tmp tB)=.bool b from by simp[I9,G5,hb]];exact h2 w' a4 _ (hf.put hd _)
 |true=>
  refine po G st ((tA,.bool true)::st) a a1 (fun t v hv=>?_) (pM hc rfl ha) (fun a' a2=>?_)
  ·simp only[bV]
   cases hb:I7 tA t with
   |true=>have:=Gq hb;subst this;rw[hc]at hv;exact hv
   |false=>exact hv
  unfold wpList;rw[if_pos (cm rfl _)];left;unfold Ip;rw[gY (b:=true) (by simpa[I9,G5]using(by rw[a2.get _ _ hc]:(a'.tmps[tA]?).getD undef=(some (.bool true)).getD undef))];exact h2 w hS _ (a2.put hd _)
theorem dI{S:ln->Prop}{tA tB:Nat}{b c:Bool}{st0:St}(n:Nat)(hS:S w)(a0:st.drop n=st0)(hf:((st.take n).all fun q=>I7 q.1 tA||(match bV st0 q.1 with|none=>true|_=>false))=true)
  (hA:bV st tA=some (.bool c)) (a3:∀v,bV st0 tA=some v->v=.bool c) (hb:bV st tB=some (.bool b)):QF N (Di N S tB b st0) .normal st w:=fun a ha=>by
 refine⟨rfl,hS,⟨ha.size,ha.defers,fun t v hv=>?_⟩,ha.get _ _ hb⟩;refine ha.get t v ?_
 by_cases ht:t=tA
 ·subst ht;rw[a3 v hv];exact hA
 have a2:∀(a1:St),(a1.all fun q=>I7 q.1 tA||(match bV st0 q.1 with|none=>true|_=>false))=true->bV (a1++st0) t=some v:=by
  intro a1
  induction a1 with
  |nil=>intro _;exact hv
  |cons q r ih=>
   intro hq;simp only[KA,GF,Bool.or_eq_true]at hq;obtain⟨k,u⟩:=q;simp only[GW,bV]
   cases hb:I7 k t with
   |false=>exact ih hq.2
   |true=>
    have:=Gq hb;subst this
    rcases hq.1 with h|h
    ·exact absurd (Gq h) ht
    simp only[hv]at h;cases h
 have:=a2 (st.take n) hf;rw[<-a0,I5]at this;exact this
end
end Go.VL
end
section
namespace Go.VL
section
variable{P:G7}{N:Nat}{ops:Array Gv}{Q:GP→I4→ln→Prop}{rest:List Gv}{st:St}{w:ln}
variable{t xt yt:G0}{p:String}{e:Array Iq}{d:Nat}{x y z:G4}
theorem kR{op:Lj}{a b v:ix}(hg:eqGuard op xt x y a b=pure ())(hx:ev st x=some a)(hy:ev st y=some b)(hr:(binOp op xt a b).run P w=.ok v w):RV P N (.binOp op xt x y yt) t st w v:=
 fun ac ha a0 p e g=>by
  simp only[execOp,ha.ev hx,ha.ev hy,hg,G6,GA,G2,hr]
theorem Aw{a b:Bool}(hu:P.underlying xt=some .bool)(hx:ev st x=some (.bool a))(hy:ev st y=some (.bool b)):RV P N (.binOp .eql xt x y yt) t st w (.bool (a==b)):=
 kR (eqGuard_at_bool ..) hx hy (run_eql_bool w xt a b hu)
theorem jg{k k':G8}{m n:Int}{a0:Array G0}(hx:ev st x=some (.int k m))(hy:ev st y=some (.int k' n)):RV P N (.call ⟨.builtin .max,#[x,y],a0⟩) t st w (.int k (max m n)):=
 fun a ha a1 p e g=>by
  simp only[execOp,resolve,invoke,builtin,G6,GA,G2,G9,Gu,GJ,ha.ev hx,ha.ev hy,run_max_int2];congr 3;rw[Int.max_def];split<;>split<;>omega
theorem Db{k k':G8}{m n:Int}{a0:Array G0}(hx:ev st x=some (.int k m))(hy:ev st y=some (.int k' n)):RV P N (.call ⟨.builtin .min,#[x,y],a0⟩) t st w (.int k (min m n)):=
 fun a ha a1 p e g=>by
  simp only[execOp,resolve,invoke,builtin,G6,GA,G2,G9,Gu,GJ,ha.ev hx,ha.ev hy,run_min_int2];congr 3;rw[Int.min_def];split<;>split<;>omega
def bs(l:List UInt8):ByteArray:=⟨l.toArray⟩
theorem cP(l:List UInt8):(bs l).size=l.length:=by simp[bs,L7]
theorem eW(l:List UInt8):(bs l).toList=l:=L5 l
theorem kM(l:List UInt8)(a b:Nat):(bs l).extract a b=bs ((l.take b).drop a):=by
 rw[bs,L9,List.drop_take];rfl
theorem BZ{a b:List UInt8}(h:bs a=bs b):a=b:=by
 have:=congrArg L6 h;rwa[eW,eW]at this
theorem sg{op:Lj}{s u:ByteArray}:binOp op xt (.string s) (.string u)=Op.stringOp op s u:=by cases op<;>rfl
theorem bU{a b:List UInt8}(hx:ev st x=some (.string (bs a)))(hy:ev st y=some (.string (bs b))):RV P N (.binOp .eql xt x y yt) t st w (.bool (a==b)):=
 kR (eqGuard_at_string ..) hx hy (by rw[sg];show KL (JM ((bs a).toList==(bs b).toList)) w=_;rw[eW,eW])
theorem Ar{a b:List UInt8}(hx:ev st x=some (.string (bs a)))(hy:ev st y=some (.string (bs b))):RV P N (.binOp .neq xt x y yt) t st w (.bool (!(a==b))):=
 kR (eqGuard_at_string ..) hx hy (by rw[sg];show KL (JM (!((bs a).toList==(bs b).toList))) w=_;rw[eW,eW])
theorem bQ{a:List UInt8}{T:G0}(hT:P.underlying T=some .string)(hx:ev st x=some (.string (bs a))):RV P N (.call ⟨.builtin .len,#[x],#[T]⟩) t st w (nI a.length):=
 fun c hc a0 p e g=>by
  simp only[execOp,resolve,invoke,builtin,G6,GA,G2,G9,Gu,GJ,hc.ev hx,run_len_string w T t _ hT,cP];rfl
theorem Av{a:List UInt8}{k:G8}{m:Int}(hT:P.underlying xt=some .string)(hx:ev st x=some (.string (bs a)))(hy:ev st y=some (.int k m))(i:Nat)(hm:m=i)(hi:i<a.length):RV P N (.index xt x y) t st w (.int .u8 ((nth a i).toNat:Int)):=
 fun c hc a0 p e g=>by
  subst hm;have h2:0<=(i:Int)/\(i:Int)<(bs a).size:=by rw[cP];omega
  simp only[execOp,hc.ev hx,hc.ev hy,G6,run_index_string w xt (bs a) k i hT,dif_pos h2,G2];have:(bs a)[(i:Int).toNat]'(by rw[cP];omega)=nth a i:=by
   rw[aB hi];simp[bs,L8]
  rw[this];rfl
theorem cJ{a:List UInt8}{k k':G8}{m n:Int}(hT:P.underlying xt=some .string)(hx:ev st x=some (.string (bs a)))(hy:ev st y=some (.int k m))(hz:ev st z=some (.int k' n))(i j:Nat)(hm:m=i)(hn:n=j)(a0:i<=j)(hj:j<=a.length):
  RV P N (.slice xt x (some y) (some z) none) t st w (.string (bs ((a.take j).drop i))):=
 fun c hc a1 p e g=>by
  subst hm;subst hn;simp only[execOp,GB,GX,hc.ev hx,hc.ev hy,hc.ev hz,run_sliceAt_string w xt _ _ _ _ hT,G6,run_slice_string w xt (bs a) k k' i j hT zo zo (by rw[cP];omega),G2,GI,kM];rfl
theorem jf{a:List UInt8}{k:G8}{m:Int}(hT:P.underlying xt=some .string)(hx:ev st x=some (.string (bs a)))(hy:ev st y=some (.int k m))(i:Nat)(hm:m=i)(hi:i<=a.length):
  RV P N (.slice xt x (some y) none none) t st w (.string (bs (a.drop i))):=
 fun c hc a0 p e g=>by
  subst hm;simp only[execOp,GB,GX,hc.ev hx,hc.ev hy,run_sliceAt_string w xt _ _ _ _ hT,G6,run_slice_string_l w xt (bs a) hT k i zo (by rw[cP];omega),G2,GI,kM,cP,List.take_length];rfl
theorem uc{a:List UInt8}{k:G8}{n:Int}(hT:P.underlying xt=some .string)(hx:ev st x=some (.string (bs a)))(hz:ev st z=some (.int k n))(j:Nat)(hn:n=j)(hj:j<=a.length):
  RV P N (.slice xt x none (some z) none) t st w (.string (bs (a.take j))):=
 fun c hc a0 p e g=>by
  subst hn;simp only[execOp,GB,GX,hc.ev hx,hc.ev hz,run_sliceAt_string w xt _ _ _ _ hT,G6,run_slice_string_h w xt (bs a) hT k j zo (by rw[cP];omega),G2,GI,kM,List.drop_zero];rfl
theorem RV.quo{k:G8}{m n:Int}(hx:ev st x=some (.int k m))(hy:ev st y=some (.int k n))(h0:n≠0)(hr:Fit k (m.tdiv n)):RV P N (.binOp .quo xt x y yt) t st w (.int k (m.tdiv n)):=
 dm hx hy (by rw[Cm h0,hr])
theorem RV.rem{k:G8}{m n:Int}(hx:ev st x=some (.int k m))(hy:ev st y=some (.int k n))(h0:n≠0):RV P N (.binOp .rem xt x y yt) t st w (.int k (m.tmod n)):=
 dm hx hy (Cl h0)
theorem fW{T:G0}{a:Option GQ}{l c:Nat}(hT:P.underlying xt=some (.slice T))(hx:ev st x=some (.slice a l c))(hy:ev st y=some (nS)):RV P N (.binOp .eql xt x y yt) t st w (.bool a.isNone):=
 kR (eqGuard_at_slice ..) hx hy (by simp[binOp,run_equal_slice_nil w xt T a l c hT])
theorem kQ{q:Option GQ}(hT:P.underlying xt=some (.pointer (P.pointee xt)))(hx:ev st x=some (.pointer q))(hy:ev st y=some (.pointer none)):RV P N (.binOp .eql xt x y yt) t st w (.bool q.isNone):=
 kR (eqGuard_at_pointer ..) hx hy (run_eql_pointer_nil w xt q hT)
theorem xD{q:Option GQ}(hT:P.underlying xt=some (.pointer (P.pointee xt)))(hx:ev st x=some (.pointer q))(hy:ev st y=some (.pointer none)):RV P N (.binOp .neq xt x y yt) t st w (.bool (!q.isNone)):=
 kR (eqGuard_at_pointer ..) hx hy (run_neq_pointer_nil w xt q hT)
def cf(v:ix)(sz lo hi:Nat):ix:=
 match v with
 |.slice a _ cap=>.slice (if cap=lo then a else a.map (·.add (lo*sz))) (hi-lo) (cap-lo)
 |_=>v
theorem Sl.slice{α:Type}{enc:α->List ix}{sz:Nat}{v:ix}{xs:List α}(h:Sl enc sz w v xs){lo hi:Nat}(h1:lo<=hi)(h2:hi<=xs.length):Sl enc sz w (cf v sz lo hi) ((xs.take hi).drop lo):=by
 obtain⟨a,c,rfl,hc,hm,ha⟩:=h.shape;have a0:((xs.take hi).drop lo).length=hi-lo:=by simp;omega
 refine⟨⟨_,c-lo,by rw[a0];rfl,zo,zo,fun a2=>?_⟩,fun i a1 j u hu=>?_⟩
 ·rw[a0]at a2;obtain⟨b,o,rfl⟩:=ha zo;rw[if_neg zo];exact⟨b,o+lo*sz,by simp only[GB,GH];split<;>simp_all⟩
 rw[a0]at a1;obtain⟨b,o,rfl⟩:=ha zo;have hg:((xs.take hi).drop lo)[i]'(by rw[a0];exact a1)=xs[lo+i]'(zo):=by simp
 rw[hg]at hu;have:=h.cells (lo+i) zo j u hu;have e1:adr (cf (.slice (some ⟨b,o,none⟩) xs.length c) sz lo hi) sz i=adr (.slice (some ⟨b,o,none⟩) xs.length c) sz (lo+i):=by
  simp only[cf,adr];rw[if_neg zo];simp only[GB,GH]
  split<;>simp_all[IB,Js]
 rw[e1];exact this
theorem kP{α:Type}{enc:α->List ix}{sz:Nat}{v:ix}{xs:List α}{E:G0}{k:G8}{m:Int}(h:Sl enc sz w v xs)(hT:P.underlying xt=some (.slice E))(hs:(GO E).run P w=.ok sz w)
  (hx:ev st x=some v) (hy:ev st y=some (.int k m)) (i:Nat) (hm:m=i) (hi:i<=xs.length):RV P N (.slice xt x (some y) none none) t st w (cf v sz i xs.length):=
 fun a' ha a0 p e g=>by
  subst hm;obtain⟨a,c,rfl,hc,_,_⟩:=h.shape;have hE:P.elem xt=E:=by simp[Kk,hT]
  simp only[execOp,GB,GX,ha.ev hx,ha.ev hy,run_sliceAt_slice w xt _ _ _ _ (by rw[hE];exact hT:P.underlying xt=some (.slice (P.elem xt))),G6,run_slice_l w xt a xs.length c (by rw[hE];exact hT) k i zo zo,hE,hs,G2,GI,sliced];rfl
theorem eZ{α:Type}{enc:α->List ix}{sz:Nat}{v:ix}{xs:List α}{E:G0}{k:G8}{n:Int}(h:Sl enc sz w v xs)(hT:P.underlying xt=some (.slice E))(hs:(GO E).run P w=.ok sz w)
  (hx:ev st x=some v) (hz:ev st z=some (.int k n)) (j:Nat) (hn:n=j) (hj:j<=xs.length):RV P N (.slice xt x none (some z) none) t st w (cf v sz 0 j):=
 fun a' ha a0 p e g=>by
  subst hn;obtain⟨a,c,rfl,hc,_,_⟩:=h.shape;have hE:P.elem xt=E:=by simp[Kk,hT]
  simp only[execOp,GB,GX,ha.ev hx,ha.ev hz,run_sliceAt_slice w xt _ _ _ _ (by rw[hE];exact hT:P.underlying xt=some (.slice (P.elem xt))),G6,run_slice_h w xt a xs.length c (by rw[hE];exact hT) k j zo zo,hE,hs,G2,GI,sliced];rfl
end
end Go.VL
end
section
namespace Go.VL
def Free(O:Nat->Nat)(w:ln)(v:ix):Prop:=∀a n c,v=.slice (some a) n c->n≠0->O a.block=0/\a.block<w.heap.size
theorem Free.upd{S:Nat->Prop}{O O':Nat->Nat}{w w':ln}{v:ix}(h:Free O w v)(u:Upd S O w O' w'):Free O' w' v:=fun a n c e hn=>by
 obtain⟨h1,h2⟩:=h a n c e hn;refine⟨Gp fun a0=>?_,GG h2 u.size⟩
 rcases u.new _ a0 with h3|h3
 ·exact h3 h1
 omega
theorem mK{w w':ln}{a:GQ}{u:ix}(hb:w'.heap[a.block]? = w.heap[a.block]?)(h:w.cell? a=some u):w'.cell? a=some u:=by
 simpa only[KF,hb]using h
theorem Sl.upd{α:Type}{enc:α->List ix}{sz:Nat}{S:Nat->Prop}{O O':Nat->Nat}{w w':ln}{v:ix}{xs:List α}(h:Sl enc sz w v xs)(f:Free O w v)(u:Upd S O w O' w'):Sl enc sz w' v xs:=by
 refine⟨h.shape,fun i hi j x hx=>?_⟩;have hc:=h.cells i hi j x hx;obtain⟨a,c,e,_,_,ha⟩:=h.shape;obtain⟨b,o,rfl⟩:=ha zo;obtain⟨h1,h2⟩:=f _ _ _ e zo;refine mK ?_ hc
 have hb:((adr v sz i).add j).block=b:=by subst e;simp only[adr,GH];split<;>rfl
 rw[hb];exact u.blk b h2 (by rw[h1];exact u.z)
theorem RowT.free{α:Type}{enc:α->List ix}{E:G0}{sz:Nat}{O O':Nat->Nat}{w w':ln}{i B:Nat}{v:ix}{l:List α}(h:RowT enc E sz O' w' i v l)(hi:i≠0)(r:Rng w.heap.size O' w')(k:Rng B O w):Free O w' v:=fun a n c e _=>by
 subst e;have h1:=h.1.tag a.block rfl;have h2:=r.rng a.block (by rw[h1];exact hi);exact⟨Gp fun a0=>by have:=k.rng _ a0;omega,h2.2⟩
def NewV(B:Nat)(v:ix):Prop:=∀a n c,v=.slice (some a) n c->n≠0->B<=a.block
theorem NewV.mono{B B':Nat}{v:ix}(h:NewV B v)(hb:B'<=B):NewV B' v:=fun a n c e hn=>I1 hb (h a n c e hn)
theorem RowT.newV{α:Type}{enc:α->List ix}{E:G0}{sz B:Nat}{O:Nat->Nat}{w:ln}{i:Nat}{v:ix}{l:List α}(h:RowT enc E sz O w i v l)(hi:i≠0)(r:Rng B O w):NewV B v:=fun a n c e _=>by
 subst e;have h1:=h.1.tag a.block rfl;exact(r.rng a.block (by rw[h1];exact hi)).1
theorem Sl.blk_lt{α:Type}{enc:α->List ix}{sz:Nat}{w:ln}{v:ix}{xs:List α}(h:Sl enc sz w v xs)(hf:∀x∈xs,enc x≠[]){a:GQ}{n c:Nat}(e:v=.slice (some a) n c)(hn:n≠0):a.block<w.heap.size:=by
 obtain⟨a',c',e1,_,_,e2⟩:=h.shape;subst e
 cases e1
 obtain⟨b,o,e3⟩:=e2 hn
 cases e3
 have hl:0<xs.length:=J2 hn
 cases hx:enc xs[0]with
 |nil=>exact absurd hx (hf _ (IE hl))
 |cons u r=>
  have hc:=h.cells 0 hl 0 u (by rw[hx];rfl);have:=IC _ _ hc;have hb:((adr (.slice (some ⟨b,o,none⟩) xs.length c) sz 0).add 0).block=b:=by simp only[adr,GH];split<;>rfl
  rwa[hb]at this
theorem NewV.free{α:Type}{enc:α->List ix}{sz B:Nat}{O:Nat->Nat}{w w':ln}{v:ix}{xs:List α}(h:NewV w.heap.size v)(hs:Sl enc sz w' v xs)(hf:∀x∈xs,enc x≠[])(r:Rng B O w):Free O w' v:=fun a n c e hn=>
 ⟨Gp fun a0=>by have h1:=(r.rng _ a0).2;have h2:=h a n c e hn;omega,hs.blk_lt hf e hn⟩
theorem pG{w w':ln}{v:ix}(h:∀(B:Nat) (O:Nat->Nat),Rng B O w->Free O w' v):NewV w.heap.size v:=fun a n c e hn=>by
 have h1:=(h 0 (fun b=>if b<w.heap.size then 1 else 0) ⟨GY _,fun b hb=>⟨GY _,Gp fun hn=>hb (if_neg hn)⟩⟩ a n c e hn).1;exact Nat.le_of_not_lt fun a0=>by
  have h2:(1:Nat)=0:=(if_pos a0).symm.trans h1
  cases h2
section
variable{P:G7}{N:Nat}{ops:Array Gv}{Q:GP→I4→ln→Prop}{rest:List Gv}{st:St}{w:ln}
variable{t xt yt:G0}{p:String}{e:Array Iq}{d:Nat}{x y z:G4}
theorem cR{T E:G0}{bytes:Nat}(he:Elem P T E 1 bytes){α:Type}{val:α->ix}(z0:α)(a2:(P.info? E).bind (·.zero)=some (val z0))(h1:∀a,(val a).oneCell'=true){B:Nat}{O:Nat->Nat}(r:Rng B O w)(i:Nat)(a7:i≠0)(n:Nat){kl kc:G8}{m1 m2:Int}
  (hx:ev st x=some (.int kl m1)) (hy:ev st y=some (.int kc m2)) (a6:m1=n) (a5:m2=n) (hb:bytes*n<=281474976710656) (b0:n<=9223372036854775807) (hd:G1 d N=true)
  (h:∀w' O' v,v=.slice (some ⟨w.heap.size,0,none⟩) n n->RowT (fun x=>[val x]) E 1 O' w' i v (Iz n z0)->Upd (fun k=>k=i) O w O' w'->Rng B O' w'->Ext w w'->WL P N ops Q rest ((d,v)::st) w') :
  WL P N ops Q (⟨some d,.makeSlice T x y,t,p,e,none⟩::rest) st w:=by
 obtain⟨a1,z,hi,hz,a4,a9,b1⟩:=he.parts;have a3:z=val z0:=by rw[hi]at a2;simpa[hz]using a2
 subst a3;subst a6;subst a5;have a8:(val z0).cells = #[val z0]:=by have:=h1 z0;generalize val z0=u at *;cases u<;>first|rfl|simp[I8]at this
 have a':(a1.bytes:Int)*(n:Int)<=281474976710656:=by
  have h:((a1.bytes*n:Nat):Int)<=281474976710656:=by rw[a9];omega
  rwa[Int.natCast_mul]at h
 have a0:=run_make (P:=P) w T E a1 _ he.ht hi hz kl kc n n zo (JQ _) a' zo;simp only[GI,a4,IS,a8]at a0;have hz:¬(fun k=>k=i) 0:=fun h=>a7 h.symm
 have u:=Upd.alloc (S:=fun k=>k=i) hz r (.cells (madeCells #[val z0] n) E) i;refine WL.val (v:=.slice (some ⟨w.heap.size,0,none⟩) n n) hd (fun a ha=>by simp only[execOp,ha.ev hx,ha.ev hy,G6,a0,G2];rfl) (h _ _ _ rfl ⟨⟨?_,fun g hg=>?_⟩,fun a _=>rfl⟩ u (r.upd u) (Ext.alloc _ _))
 ·rw[List.length_replicate];have:=World.ownsRow_lit (base:=0) (size:=1) (e:=E) w (madeCells #[val z0] n) n (GY _) (by simpa[maxLen]using b0) (by rw[size_madeCells];omega);rw[toList_madeCells_one]at this;have e2:(Iz n z0).flatMap (fun x=>[val x])=Iz n (val z0):=by
   induction n with
   |zero=>rfl
   |succ n ih=>simp only[List.replicate_succ,I6];congr 1;simp[List.flatMap_replicate]
  rw[e2];exact this
 simp only[Iw,IQ]at hg;subst hg;exact dr _ _ _
theorem bH{T E:G0}{sz a0:Nat}(he:Elem P T E sz a0){α:Type}{enc:α->List ix}(u:α){xv:ix}(hx:ev st x=some xv)(a2:xv.cells.toList=enc u)(a4:(enc u).length=sz)(hs:sz<=16777216)(hd:G1 d N=true)
  (h:∀v w',Sl enc sz w' v [u]->Ext w w'->WL P N ops Q rest ((d,v)::st) w'):WL P N ops Q (⟨some d,.buildSlice T 1 #[(0,x)],t,p,e,none⟩::rest) st w:=by
 obtain⟨a3,z,hi,hz,a1,a8,a7⟩:=he.parts;have a6:xv.cells.size=sz:=by rw[<-a4,<-a2];simp
 have a5:=he.pos;refine WL.val (v:=.slice (some ⟨w.heap.size,0,none⟩) 1 1) (w':=w.alloc (.cells xv.cells E)) hd (fun a ha=>?_) (h _ _ ⟨⟨_,1,rfl,GD _,by simp,fun _=>⟨_,_,rfl⟩⟩,fun i hi j c hc=>?_⟩ (Ext.alloc _ _))
 ·have:=run_buildSlice (P:=P) w T E 1 #[(0,xv)] xv.cells a3 z he.ht hi hz (by rw[a1];omega) (by rw[a1];omega) (by
   rw[a1]
   exact jN a6 (by simp))
  simp only[execOp,G9,Gu,GJ,ha.ev hx,G6,this,G2];rfl
 obtain rfl:i=0:=by simpa using hi
 simp only[Ju]at hc;simp only[adr,J8,JB];rw[show((⟨w.heap.size,0,none⟩:GQ).add j)=⟨w.heap.size,j,none⟩from by simp only[GH];split<;>simp_all,cell_of_row _ _ j xv.cells E (0,0) (heap_alloc_new w _)];rw[<-a2]at hc;simpa using hc
theorem lK{α:Type}{enc:α->List ix}{sz:Nat}:∀(us:List α),(∀u∈us,(enc u).length=sz)->(us.flatMap enc).length=us.length*sz
 |[],_=>by simp
 |x::r,h=>by
  simp only[I6,GM,Ib,h x (by simp),lK r (fun u hu=>h u (by simp[hu])),Nat.succ_mul];omega
theorem CY{α:Type}{enc:α->List ix}{sz:Nat}{us:List α}{v:ix}(hs:Sl enc sz w v us)(hz:∀u∈us,(enc u).length=sz)(hp:0<sz){a:GQ}{n c:Nat}(hv:v=.slice (some a) n c):∀j u,(us.flatMap enc)[j]? = some u->w.cell? (a.add j)=some u:=by
 intro j u hu;have a0:=lK us hz;have hj:j<us.length*sz:=by rw[<-a0];exact(GE.1 hu).1
 have hq:j / sz<us.length:=JO (by rw[KN];exact hj);have hr:j % sz<sz:=Nat.mod_lt _ hp;have a1:j / sz*sz+j % sz=j:=Nat.div_add_mod' j sz;have hl:=hz _ (IE hq);have h1:=fM us hz (j / sz) hq (j % sz) _ (GT zo);rw[a1,hu]at h1;have h2:=hs.cells (j / sz) hq (j % sz) u (by rw[GT zo,<-h1]);obtain⟨a',c',e1,_,_,e2⟩:=hs.shape;obtain⟨b,o,e3⟩:=e2 (KM (Nat.lt_of_le_of_lt (GY _) hq));rw[hv]at e1 h2
 cases e1;cases e3
 simp only[adr]at h2;rw[show((⟨b,o,none⟩:GQ).add j)=((⟨b,o+j / sz*sz,none⟩:GQ).add (j % sz))from by simp only[GH];split<;>split<;>simp_all<;>omega];exact h2
theorem aC{T E:G0}{sz a0:Nat}(he:Elem P T E sz a0){α:Type}{enc:α->List ix}{B:Nat}{O:Nat->Nat}{i:Nat}{v sv:ix}{l us:List α}(hr:RowT enc E sz O w i v l)(r:Rng B O w)(hs:Sl enc sz w sv us)(a7:us.length≠0)
  (hx:ev st x=some v) (hy:ev st y=some sv) (a2:∀u∈us,(enc u).length=sz) (a6:∀u∈us,∀c∈enc u,c.oneCell'=true)
  (hb:(l.length+us.length)*a0<=140737488355328) (a':l.length+us.length<=9223372036854775807) (a8:i≠0) (hd:G1 d N=true)
  (h:∀v' w' O',RowT enc E sz O' w' i v' (l++us)->Upd (fun k=>k=i) O w O' w'->Rng B O' w'->WL P N ops Q rest ((d,v')::st) w') :
  WL P N ops Q (⟨some d,.call ⟨.builtin .append,#[x,y],#[T,T]⟩,t,p,e,none⟩::rest) st w:=by
 obtain⟨a,c,rfl,_,_,a9⟩:=hs.shape;obtain⟨b,o,rfl⟩:=a9 a7;have a5:=lK us a2
 obtain⟨v',w',O',a3,a4,a1⟩:=ez (P:=P) (ty:=t) he r hr.1 ⟨b,o,none⟩ us.length c (us.flatMap enc) a5 (CY hs a2 he.pos rfl) (fun u hu=>by
  obtain⟨q,hq,hc⟩:=Ja.1 hu
  exact a6 q hq u hc) hb a' a8
 refine WL.val (v:=v') (w':=w') hd (fun a ha=>?_) (h v' w' O' ⟨by simpa using a4,fun q hq=>?_⟩ a1 (r.upd a1))
 ·simp only[execOp,resolve,invoke,builtin,G6,GA,G2,G9,Gu,GJ,ha.ev hx,ha.ev hy,a3]
 rcases GC.1 hq with hq|hq
 ·exact hr.2 q hq
 exact a2 q hq
end
end Go.VL
end
section
namespace Go.VL
class FA(P:G7)(S:G0)(f:Nat)(o:outParam Nat):Prop where
 fa:∃fs fd m,P.underlying S=some (.struct fs)∧fs[f]? = some fd∧fd.offset=o∧(∀w,(GO fd.type).run P w=.ok m w)∧m≠0
class AG(P:G7)(T:G0)(b:outParam Bool):Prop where
 ag:∀w,(Kj T).run P w=.ok b w
structure Hold(B:Prop):Prop where
 out:B
class SC(P:G7)(T:G0)(sz:outParam Nat):Prop where
 sc:∃E,P.underlying T=some (.slice E)∧∀w,(GO E).run P w=.ok sz w
section
variable{P:G7}{N:Nat}{ops:Array Gv}{S:ln→Prop}{Q:GP→I4→ln→Prop}{K:I4→Prop}{rest:List Gv}{st:St}{w:ln}{fuel:Nat}{listed:Array Bool}
variable{t:G0}{p:String}{e:Array Iq}{d:Nat}{x:G4}{v:ix}{op:Op}
theorem RV.fa{T:G0}{f o:Nat}{q:GQ}[h:FA P T f o](hx:ev st x=some (.pointer (some q))):RV P N (.fieldAddr T x f) t st w (.pointer (some (q.add o))):=by
 obtain⟨fs,fd,m,h1,h2,h3,h4,h5⟩:=h.fa
 exact RV.fieldAddr o h1 h2 h3 (h4 w) h5 hx
theorem RV.ld{T:G0}{q:GQ}{u:ix}[h:AG P T false](hc:w.cell? q=some u)(hx:ev st x=some (.pointer (some q))):RV P N (.load T x) t st w u:=RV.load hc (h.ag w) hx
theorem DY{T:G0}{sz:Nat}[h:SC P T sz]{α:Type}{enc:α→List ix}{v:ix}{xs:List α}(hx:ev st x=some v)(hs:Sl enc sz w v xs):RV P N (.call ⟨.builtin .len,#[x],#[T]⟩) t st w (.int .i64 (xs.length:Int)):=by
 obtain⟨E,h1,_⟩:=h.sc
 exact RV.len hs h1 hx
theorem DZ{y:G4}{T:G0}{sz:Nat}[h:SC P T sz]{α:Type}{enc:α→List ix}{v:ix}{xs:List α}{k:G8}{i:Int}{n:Nat}(hx:ev st x=some v)(hy:ev st y=some (.int k i))(hs:Sl enc sz w v xs)(hi:i=n)(hn:n<xs.length):RV P N (.indexAddr T x y) t st w (.pointer (some (adr v sz n))):=by
 obtain⟨E,h1,h2⟩:=h.sc
 exact RV.indexAddr hs h1 (h2 w) hx hy n hi hn
theorem F9{T:G0}{q:GQ}{u:ix}[h:AG P T false](hx:ev st x=some (.pointer (some q)))(hc:w.cell? q=some u)(hd:G1 d N=true)(h:WL P N ops Q rest ((d,u)::st) w):WL P N ops Q (⟨some d,.load T x,t,p,e,none⟩::rest) st w:=lq (RV.ld hc hx) hd h
theorem Gc{T:G0}{q:GQ}{u:ix}[h:AG P T false](hx:ev st x=some (.pointer (some q)))(hc:w.cell? q=some u)(hd:G1 d N=true)(h:WS P N ops w K rest ((d,u)::st)):WS P N ops w K (⟨some d,.load T x,t,p,e,none⟩::rest) st:=nO (RV.ld hc hx) hd h
theorem F8{T:G0}{sz:Nat}[h:SC P T sz]{α:Type}{enc:α→List ix}{v:ix}{xs:List α}(hx:ev st x=some v)(hs:Sl enc sz w v xs)(hd:G1 d N=true)(h:WL P N ops Q rest ((d,.int .i64 (xs.length:Int))::st) w):WL P N ops Q (⟨some d,.call ⟨.builtin .len,#[x],#[T]⟩,t,p,e,none⟩::rest) st w:=lq (DY hx hs) hd h
theorem Ga{y:G4}{T:G0}{sz:Nat}[h:SC P T sz]{α:Type}{enc:α→List ix}{v:ix}{xs:List α}{k:G8}{i:Int}{n:Nat}(hx:ev st x=some v)(hy:ev st y=some (.int k i))(hs:Sl enc sz w v xs)(hi:i=n)(hn:n<xs.length)(hd:G1 d N=true)(h:WL P N ops Q rest ((d,.pointer (some (adr v sz n)))::st) w):WL P N ops Q (⟨some d,.indexAddr T x y,t,p,e,none⟩::rest) st w:=lq (DZ hx hy hs hi hn) hd h
theorem Fg{xt yt:G0}{y:G4}{m n:Int}(hx:ev st x=some (.int .i64 m))(hy:ev st y=some (.int .i64 n))(hr : -9223372036854775808≤m+n∧m+n≤9223372036854775807)(hd:G1 d N=true)(h:WL P N ops Q rest ((d,.int .i64 (m+n))::st) w):WL P N ops Q (⟨some d,.binOp .add xt x y yt,t,p,e,none⟩::rest) st w:=lq (RV.add hx hy (Fit.i64 hr)) hd h
theorem Ff{xt yt:G0}{y:G4}{m n:Int}(hx:ev st x=some (.int .i64 m))(hy:ev st y=some (.int .i64 n))(hr : -9223372036854775808≤m-n∧m-n≤9223372036854775807)(hd:G1 d N=true)(h:WL P N ops Q rest ((d,.int .i64 (m-n))::st) w):WL P N ops Q (⟨some d,.binOp .sub xt x y yt,t,p,e,none⟩::rest) st w:=lq (RV.sub hx hy (Fit.i64 hr)) hd h
theorem DW{y z:G4}{b:Bool}{v:ix}(hc:ev st x=some (.bool b))(hb:b=true)(hy:ev st y=some v):RV P N (.pick x y z) t st w v:=bT (hb▸hc) hy
theorem DX{y z:G4}{b:Bool}{v:ix}(hc:ev st x=some (.bool b))(hb:b=false)(hz:ev st z=some v):RV P N (.pick x y z) t st w v:=bF (hb▸hc) hz
theorem Ca{d:Option KX}{j:Nat}{b b':Bool}(hs:said ops st j=some b')(hb:b'=b)(h:WL P N ops Q (⟨d,op,t,p,e,none⟩::rest) st w):WL P N ops Q (⟨d,op,t,p,e,some (j,b)⟩::rest) st w:=DV (hb▸hs) h
theorem Aj{j:Nat}{b':Bool}(hs:said ops st j=some b')(hb:b'=false)(hd:G1 d N=true)(h:WL P N ops Q rest ((d,undef)::st) w):WL P N ops Q (⟨some d,op,t,p,e,some (j,true)⟩::rest) st w:=WL.off hs (by rw[hb];rfl) hd h
theorem Ak{j:Nat}{b':Bool}(hs:said ops st j=some b')(hb:b'=true)(hd:G1 d N=true)(h:WL P N ops Q rest ((d,undef)::st) w):WL P N ops Q (⟨some d,op,t,p,e,some (j,false)⟩::rest) st w:=WL.off hs (by rw[hb];rfl) hd h
theorem B6{d:Option KX}{j:Nat}{b b':Bool}(hs:said ops st j=some b')(hb:b'=b)(h:WS P N ops w K (⟨d,op,t,p,e,none⟩::rest) st):WS P N ops w K (⟨d,op,t,p,e,some (j,b)⟩::rest) st:=FL (hb▸hs) h
theorem Ag{j:Nat}{b':Bool}(hs:said ops st j=some b')(hb:b'=false)(hd:G1 d N=true)(h:WS P N ops w K rest ((d,undef)::st)):WS P N ops w K (⟨some d,op,t,p,e,some (j,true)⟩::rest) st:=WS.off hs (by rw[hb];rfl) hd h
theorem Ah{j:Nat}{b':Bool}(hs:said ops st j=some b')(hb:b'=true)(hd:G1 d N=true)(h:WS P N ops w K rest ((d,undef)::st)):WS P N ops w K (⟨some d,op,t,p,e,some (j,false)⟩::rest) st:=WS.off hs (by rw[hb];rfl) hd h
theorem B8{o:Gv}{n:Nat}{l:List Gv}(h:WL P N ops Q (o::l.take n) st w):WL P N ops Q (J9 (n+1) (o::l)) st w:=h
theorem B9{l:List Gv}(h:WL P N ops Q [] st w):WL P N ops Q (J9 0 l) st w:=h
theorem BK{v:ix}(hx:ev st x=some v)(hd:G1 d N=true)(h:WL P N ops Q rest ((d,v)::st) w):WL P N ops Q (⟨some d,.move x,t,p,e,none⟩::rest) st w:=lq (RV.move hx) hd h
theorem um{v:ix}(hx:ev st x=some v)(hd:G1 d N=true)(h:WL P N ops Q rest ((d,v)::st) w):WL P N ops Q (⟨some d,.assign x,t,p,e,none⟩::rest) st w:=lq (RV.assign hx) hd h
theorem FR{T:G0}{f o:Nat}{q:GQ}[FA P T f o](hx:ev st x=some (.pointer (some q)))(hd:G1 d N=true)(h:WL P N ops Q rest ((d,.pointer (some (q.add o)))::st) w):WL P N ops Q (⟨some d,.fieldAddr T x f,t,p,e,none⟩::rest) st w:=lq (RV.fa hx) hd h
theorem uk{q:GQ}(hx:ev st x=some (.pointer (some q)))(hd:G1 d N=true)(h:WL P N ops Q rest ((d,.pointer (some q))::st) w):WL P N ops Q (⟨some d,.nilCheck x,t,p,e,none⟩::rest) st w:=lq (aq hx) hd h
theorem qw{vs:Array ix}{i:Nat}{v:ix}(hx:ev st x=some (.tuple vs))(hv:vs[i]? = some v)(hd:G1 d N=true)(h:WL P N ops Q rest ((d,v)::st) w):WL P N ops Q (⟨some d,.extract x i,t,p,e,none⟩::rest) st w:=lq (RV.extract hx hv) hd h
theorem Dl{xt:G0}{b:Bool}(hx:ev st x=some (.bool b))(hd:G1 d N=true)(h:WL P N ops Q rest ((d,.bool (!b))::st) w):WL P N ops Q (⟨some d,.unOp .not xt x,t,p,e,none⟩::rest) st w:=lq (RV.not hx) hd h
theorem Dj{y z:G4}{b:Bool}{v:ix}(hc:ev st x=some (.bool b))(hb:b=true)(hy:ev st y=some v)(hd:G1 d N=true)(h:WL P N ops Q rest ((d,v)::st) w):WL P N ops Q (⟨some d,.pick x y z,t,p,e,none⟩::rest) st w:=lq (DW hc hb hy) hd h
theorem Dk{y z:G4}{b:Bool}{v:ix}(hc:ev st x=some (.bool b))(hb:b=false)(hz:ev st z=some v)(hd:G1 d N=true)(h:WL P N ops Q rest ((d,v)::st) w):WL P N ops Q (⟨some d,.pick x y z,t,p,e,none⟩::rest) st w:=lq (DX hc hb hz) hd h
theorem Dn{xt yt:G0}{y:G4}{k:G8}{m n:Int}(hx:ev st x=some (.int k m))(hy:ev st y=some (.int k n))(hd:G1 d N=true)(h:WL P N ops Q rest ((d,.bool (decide (m<n)))::st) w):WL P N ops Q (⟨some d,.binOp .lss xt x y yt,t,p,e,none⟩::rest) st w:=lq (RV.lss hx hy) hd h
theorem Do{xt yt:G0}{y:G4}{k:G8}{m n:Int}(hx:ev st x=some (.int k m))(hy:ev st y=some (.int k n))(hd:G1 d N=true)(h:WL P N ops Q rest ((d,.bool (decide (m≤n)))::st) w):WL P N ops Q (⟨some d,.binOp .leq xt x y yt,t,p,e,none⟩::rest) st w:=lq (RV.leq hx hy) hd h
theorem Dp{xt yt:G0}{y:G4}{k:G8}{m n:Int}(hx:ev st x=some (.int k m))(hy:ev st y=some (.int k n))(hd:G1 d N=true)(h:WL P N ops Q rest ((d,.bool (decide (n<m)))::st) w):WL P N ops Q (⟨some d,.binOp .gtr xt x y yt,t,p,e,none⟩::rest) st w:=lq (RV.gtr hx hy) hd h
theorem Dq{xt yt:G0}{y:G4}{k:G8}{m n:Int}(hx:ev st x=some (.int k m))(hy:ev st y=some (.int k n))(hd:G1 d N=true)(h:WL P N ops Q rest ((d,.bool (decide (n≤m)))::st) w):WL P N ops Q (⟨some d,.binOp .geq xt x y yt,t,p,e,none⟩::rest) st w:=lq (RV.geq hx hy) hd h
theorem Dr{xt yt:G0}{y:G4}{k:G8}{m n:Int}(hx:ev st x=some (.int k m))(hy:ev st y=some (.int k n))(hd:G1 d N=true)(h:WL P N ops Q rest ((d,.bool (m==n))::st) w):WL P N ops Q (⟨some d,.binOp .eql xt x y yt,t,p,e,none⟩::rest) st w:=lq (RV.eql hx hy) hd h
theorem Dm{xt yt:G0}{y:G4}{k:G8}{m n:Int}(hx:ev st x=some (.int k m))(hy:ev st y=some (.int k n))(hd:G1 d N=true)(h:WL P N ops Q rest ((d,.bool (m != n))::st) w):WL P N ops Q (⟨some d,.binOp .neq xt x y yt,t,p,e,none⟩::rest) st w:=lq (RV.neq hx hy) hd h
theorem BL{v:ix}(hx:ev st x=some v)(hd:G1 d N=true)(h:WS P N ops w K rest ((d,v)::st)):WS P N ops w K (⟨some d,.move x,t,p,e,none⟩::rest) st:=nO (RV.move hx) hd h
theorem uq{v:ix}(hx:ev st x=some v)(hd:G1 d N=true)(h:WS P N ops w K rest ((d,v)::st)):WS P N ops w K (⟨some d,.assign x,t,p,e,none⟩::rest) st:=nO (RV.assign hx) hd h
theorem FS{T:G0}{f o:Nat}{q:GQ}[FA P T f o](hx:ev st x=some (.pointer (some q)))(hd:G1 d N=true)(h:WS P N ops w K rest ((d,.pointer (some (q.add o)))::st)):WS P N ops w K (⟨some d,.fieldAddr T x f,t,p,e,none⟩::rest) st:=nO (RV.fa hx) hd h
theorem uo{q:GQ}(hx:ev st x=some (.pointer (some q)))(hd:G1 d N=true)(h:WS P N ops w K rest ((d,.pointer (some q))::st)):WS P N ops w K (⟨some d,.nilCheck x,t,p,e,none⟩::rest) st:=nO (aq hx) hd h
theorem qx{vs:Array ix}{i:Nat}{v:ix}(hx:ev st x=some (.tuple vs))(hv:vs[i]? = some v)(hd:G1 d N=true)(h:WS P N ops w K rest ((d,v)::st)):WS P N ops w K (⟨some d,.extract x i,t,p,e,none⟩::rest) st:=nO (RV.extract hx hv) hd h
theorem B4{o:Gv}{n:Nat}{l:List Gv}(h:WS P N ops w K (o::l.take n) st):WS P N ops w K (J9 (n+1) (o::l)) st:=h
theorem B5{l:List Gv}(h:WS P N ops w K [] st):WS P N ops w K (J9 0 l) st:=h
theorem Du{xt yt:G0}{y:G4}{k:G8}{m n:Int}(hx:ev st x=some (.int k m))(hy:ev st y=some (.int k n))(hd:G1 d N=true)(h:WS P N ops w K rest ((d,.bool (decide (m<n)))::st)):WS P N ops w K (⟨some d,.binOp .lss xt x y yt,t,p,e,none⟩::rest) st:=nO (RV.lss hx hy) hd h
theorem Dv{xt yt:G0}{y:G4}{k:G8}{m n:Int}(hx:ev st x=some (.int k m))(hy:ev st y=some (.int k n))(hd:G1 d N=true)(h:WS P N ops w K rest ((d,.bool (decide (m≤n)))::st)):WS P N ops w K (⟨some d,.binOp .leq xt x y yt,t,p,e,none⟩::rest) st:=nO (RV.leq hx hy) hd h
theorem Dw{xt yt:G0}{y:G4}{k:G8}{m n:Int}(hx:ev st x=some (.int k m))(hy:ev st y=some (.int k n))(hd:G1 d N=true)(h:WS P N ops w K rest ((d,.bool (decide (n<m)))::st)):WS P N ops w K (⟨some d,.binOp .gtr xt x y yt,t,p,e,none⟩::rest) st:=nO (RV.gtr hx hy) hd h
theorem Dx{xt yt:G0}{y:G4}{k:G8}{m n:Int}(hx:ev st x=some (.int k m))(hy:ev st y=some (.int k n))(hd:G1 d N=true)(h:WS P N ops w K rest ((d,.bool (decide (n≤m)))::st)):WS P N ops w K (⟨some d,.binOp .geq xt x y yt,t,p,e,none⟩::rest) st:=nO (RV.geq hx hy) hd h
theorem Dy{xt yt:G0}{y:G4}{k:G8}{m n:Int}(hx:ev st x=some (.int k m))(hy:ev st y=some (.int k n))(hd:G1 d N=true)(h:WS P N ops w K rest ((d,.bool (m==n))::st)):WS P N ops w K (⟨some d,.binOp .eql xt x y yt,t,p,e,none⟩::rest) st:=nO (RV.eql hx hy) hd h
theorem Dt{xt yt:G0}{y:G4}{k:G8}{m n:Int}(hx:ev st x=some (.int k m))(hy:ev st y=some (.int k n))(hd:G1 d N=true)(h:WS P N ops w K rest ((d,.bool (m != n))::st)):WS P N ops w K (⟨some d,.binOp .neq xt x y yt,t,p,e,none⟩::rest) st:=nO (RV.neq hx hy) hd h
theorem Fj{xt yt:G0}{y:G4}{m n:Int}(hx:ev st x=some (.int .i64 m))(hy:ev st y=some (.int .i64 n))(hr : -9223372036854775808≤m+n∧m+n≤9223372036854775807)(hd:G1 d N=true)(h:WS P N ops w K rest ((d,.int .i64 (m+n))::st)):WS P N ops w K (⟨some d,.binOp .add xt x y yt,t,p,e,none⟩::rest) st:=nO (RV.add hx hy (Fit.i64 hr)) hd h
theorem Fh{xt yt:G0}{y:G4}{m n:Int}(hx:ev st x=some (.int .i64 m))(hy:ev st y=some (.int .i64 n))(hr : -9223372036854775808≤m-n∧m-n≤9223372036854775807)(hd:G1 d N=true)(h:WS P N ops w K rest ((d,.int .i64 (m-n))::st)):WS P N ops w K (⟨some d,.binOp .sub xt x y yt,t,p,e,none⟩::rest) st:=nO (RV.sub hx hy (Fit.i64 hr)) hd h
theorem Ds{xt:G0}{b:Bool}(hx:ev st x=some (.bool b))(hd:G1 d N=true)(h:WS P N ops w K rest ((d,.bool (!b))::st)):WS P N ops w K (⟨some d,.unOp .not xt x,t,p,e,none⟩::rest) st:=nO (RV.not hx) hd h
theorem Fi{w0:ln}{T:G0}{q:GQ}{u:ix}[h:AG P T false](hx:ev st x=some (.pointer (some q)))(hc:w0.cell? q=some u)(hd:G1 d N=true)(h:WS P N ops w0.drew K rest ((d,u)::st)):WS P N ops w0.drew K (⟨some d,.load T x,t,p,e,none⟩::rest) st:=nO (RV.ld (w:=w0.drew) hc hx) hd h
theorem Gb{w0:ln}{T:G0}{sz:Nat}[h:SC P T sz]{α:Type}{enc:α→List ix}{v:ix}{xs:List α}(hx:ev st x=some v)(hs:Sl enc sz w0 v xs)(hd:G1 d N=true)(h:WS P N ops w0.drew K rest ((d,.int .i64 (xs.length:Int))::st)):WS P N ops w0.drew K (⟨some d,.call ⟨.builtin .len,#[x],#[T]⟩,t,p,e,none⟩::rest) st:=nO (DY hx (hs.ext (Ext.refl w0).drew)) hd h
theorem Gd{w0:ln}{y:G4}{T:G0}{sz:Nat}[h:SC P T sz]{α:Type}{enc:α→List ix}{v:ix}{xs:List α}{k:G8}{i:Int}{n:Nat}(hx:ev st x=some v)(hy:ev st y=some (.int k i))(hs:Sl enc sz w0 v xs)(hi:i=n)(hn:n<xs.length)(hd:G1 d N=true)(h:WS P N ops w0.drew K rest ((d,.pointer (some (adr v sz n)))::st)):WS P N ops w0.drew K (⟨some d,.indexAddr T x y,t,p,e,none⟩::rest) st:=nO (DZ hx hy (hs.ext (Ext.refl w0).drew) hi hn) hd h
theorem zv(hv:RV P N op t st w v)(h:WL P N ops Q rest ((d,v)::st) w)(hd:G1 d N=true:=by exact rfl):WL P N ops Q (⟨some d,op,t,p,e,none⟩::rest) st w:=lq hv hd h
theorem zw(hv:RV P N op t st w v)(h:WS P N ops w K rest ((d,v)::st))(hd:G1 d N=true:=by exact rfl):WS P N ops w K (⟨some d,op,t,p,e,none⟩::rest) st:=nO hv hd h
theorem zc{f:IT}{args:List G4}{ats:Array G0}{vs:List ix}{R:ix→ln→Prop}
 (hf:∀(args:Array ix) (w:ln),(callFunc f args).run P w=.ok (.enter f args) w) (hc:Ret P f vs w R)
 (h:∀v w',R v w'→WL P N ops Q rest ((d,v)::st) w') (hargs:evs st args=some vs:=by exact rfl) (hd:G1 d N=true:=by exact rfl):WL P N ops Q (⟨some d,.call ⟨.value (.func f),args.toArray,ats⟩,t,p,e,none⟩::rest) st w:=WL.call hf hargs hc hd h
theorem zt(i:Nat)(hi:ops[i]? = some ⟨some d,op,t,p,e,none⟩)(hS:S w)(hv:∀w',S w'→RV P N op t st w' v)(h:WH P N ops S Q fuel (listed.setIfInBounds i true) ((d,v)::st) w)
  (hs:Gz ops=true:=by kernel_rfl) (hf:GR .any ops listed i=true:=by kernel_rfl) (hr:(Gw .any ops listed).contains i=true:=by kernel_rfl) (hd:G1 d N=true:=by exact rfl):WH P N ops S Q (fuel+1) listed st w:=
 WH.take i hi hs hf hr hS hv hd h
theorem zr(i:Nat)(hi:ops[i]? = some ⟨some d,op,t,p,e,none⟩)(hS:S w)(hv:∀w',RV P N op t st w' v)(h:WH P N ops S Q fuel (listed.setIfInBounds i true) ((d,v)::st) w)
  (hs:Gz ops=true:=by kernel_rfl) (hf:GR .any ops listed i=true:=by kernel_rfl) (hr:(Gw .any ops listed).contains i=true:=by kernel_rfl) (hd:G1 d N=true:=by exact rfl):WH P N ops S Q (fuel+1) listed st w:=
 WH.take i hi hs hf hr hS (fun w' _=>hv w') hd h
theorem zC{c:G4}{x y:Ir}{b:Bool}(ht:b=true→WC P N x Q st w)(hf:b=false→WC P N y Q st w)(hc:ev st c=some (.bool b):=by exact rfl):WC P N (.cond c x y) Q st w:=WC.cond hc ht hf
theorem zsa{y:G4}{T:G0}{O:Nat→Nat}{i b:Nat}{cs us:Array ix}{E:G0}{q:GQ}(hb:BlkO O w i b cs E)(hT:(GO T).run P w=.ok us.size w)(h:WL P N ops Q rest st (w.setRow b us))(hs:us.size=cs.size:=by exact rfl)(h1:us.toList.all I8=true:=by exact rfl)(hx:ev st x=some (.pointer (some q)):=by exact rfl)(hq:q=⟨b,0,none⟩:=by exact rfl)(hy:ev st y=some (.agg us):=by exact rfl):WL P N ops Q (⟨none,.store T x y,t,p,e,none⟩::rest) st w:=aZ hb hs hT h1 hx hq hy h
theorem zsb{y:G4}{T:G0}{O:Nat→Nat}{i b:Nat}{cs us:Array ix}{E:G0}{q:GQ}(hb:BlkO O w i b cs E)(hT:(GO T).run P w=.ok us.size w)(h1:us.toList.all I8=true)(h:WL P N ops Q rest st (w.setRow b us))(hs:us.size=cs.size:=by exact rfl)(hx:ev st x=some (.pointer (some q)):=by exact rfl)(hq:q=⟨b,0,none⟩:=by exact rfl)(hy:ev st y=some (.agg us):=by exact rfl):WL P N ops Q (⟨none,.store T x y,t,p,e,none⟩::rest) st w:=aZ hb hs hT h1 hx hq hy h
theorem fI{P:G7}{T:G0}{f o m:Nat}{fs:Array Li}{fd:Li}(h1:P.underlying T=some (.struct fs))(h2:fs[f]? = some fd)(h3:fd.offset=o)(h4:∀w,(GO fd.type).run P w=.ok m w)(h5:m≠0:=by decide):FA P T f o:=⟨fs,fd,m,h1,h2,h3,h4,h5⟩
theorem zaf{i:Nat}(hS:S w)(h:S w→WH P N ops S Q fuel (listed.setIfInBounds i true) st w):QF N (qp P ops S Q fuel (listed.setIfInBounds i true)) .normal st w:=af hS (h hS)
theorem zrm{x:G4}(i:Nat)(hi:ops[i]? = some ⟨some d,.move x,t,p,e,none⟩)(hS:S w)(hx:ev st x=some v)(h:WH P N ops S Q fuel (listed.setIfInBounds i true) ((d,v)::st) w)
  (hs:Gz ops=true:=by kernel_rfl) (hf:GR .any ops listed i=true:=by kernel_rfl) (hr:(Gw .any ops listed).contains i=true:=by kernel_rfl) (hd:G1 d N=true:=by exact rfl):WH P N ops S Q (fuel+1) listed st w:=
 WH.take i hi hs hf hr hS (fun _ _=>RV.move hx) hd h
theorem zra{x:G4}(i:Nat)(hi:ops[i]? = some ⟨some d,.assign x,t,p,e,none⟩)(hS:S w)(hx:ev st x=some v)(h:WH P N ops S Q fuel (listed.setIfInBounds i true) ((d,v)::st) w)
  (hs:Gz ops=true:=by kernel_rfl) (hf:GR .any ops listed i=true:=by kernel_rfl) (hr:(Gw .any ops listed).contains i=true:=by kernel_rfl) (hd:G1 d N=true:=by exact rfl):WH P N ops S Q (fuel+1) listed st w:=
 WH.take i hi hs hf hr hS (fun _ _=>RV.assign hx) hd h
theorem zrf{T:G0}{f o:Nat}{q:GQ}[h':FA P T f o]{x:G4}(i:Nat)(hi:ops[i]? = some ⟨some d,.fieldAddr T x f,t,p,e,none⟩)(hS:S w)(hx:ev st x=some (.pointer (some q)))(h:WH P N ops S Q fuel (listed.setIfInBounds i true) ((d,.pointer (some (q.add o)))::st) w)
  (hs:Gz ops=true:=by kernel_rfl) (hf:GR .any ops listed i=true:=by kernel_rfl) (hr:(Gw .any ops listed).contains i=true:=by kernel_rfl) (hd:G1 d N=true:=by exact rfl):WH P N ops S Q (fuel+1) listed st w:=
 WH.take i hi hs hf hr hS (fun _ _=>RV.fa hx) hd h
theorem zto{j:Nat}{b:Bool}(i:Nat)(hi:ops[i]? = some ⟨some d,op,t,p,e,some (j,b)⟩)(hS:S w)(hv:∀w',S w'→RV P N op t st w' v)(h:WH P N ops S Q fuel (listed.setIfInBounds i true) ((d,v)::st) w)(hg:said ops st j=some b:=by exact rfl)
  (hs:Gz ops=true:=by kernel_rfl) (hf:GR .any ops listed i=true:=by kernel_rfl) (hr:(Gw .any ops listed).contains i=true:=by kernel_rfl) (hd:G1 d N=true:=by exact rfl):WH P N ops S Q (fuel+1) listed st w:=
 su i hi hg hs hf hr hS hv hd h
theorem zro{j:Nat}{b:Bool}(i:Nat)(hi:ops[i]? = some ⟨some d,op,t,p,e,some (j,b)⟩)(hS:S w)(hv:∀w',RV P N op t st w' v)(h:WH P N ops S Q fuel (listed.setIfInBounds i true) ((d,v)::st) w)(hg:said ops st j=some b:=by exact rfl)
  (hs:Gz ops=true:=by kernel_rfl) (hf:GR .any ops listed i=true:=by kernel_rfl) (hr:(Gw .any ops listed).contains i=true:=by kernel_rfl) (hd:G1 d N=true:=by exact rfl):WH P N ops S Q (fuel+1) listed st w:=
 su i hi hg hs hf hr hS (fun w' _=>hv w') hd h
theorem zte{j:Nat}{b b':Bool}(i:Nat)(hi:ops[i]? = some ⟨some d,op,t,p,e,some (j,b)⟩)(hg:said ops st j=some b')(hS:S w)(h:WH P N ops S Q fuel (listed.setIfInBounds i true) ((d,undef)::st) w)(hne:(b'==b)=false:=by exact rfl)
  (hs:Gz ops=true:=by kernel_rfl) (hf:GR .any ops listed i=true:=by kernel_rfl) (hr:(Gw .any ops listed).contains i=true:=by kernel_rfl) (hd:G1 d N=true:=by exact rfl):WH P N ops S Q (fuel+1) listed st w:=
 xB i hi hg hne hs hf hr hS hd h
theorem nE{tB:Nat}{b c X:Bool}{st0:St}(tA n:Nat)(hS:S w)(e:X=c)(hX:bV st0 tA=some (.bool X):=by exact rfl)(hdrop:st.drop n=st0:=by exact rfl)(hf:((st.take n).all fun q=>I7 q.1 tA||(match bV st0 q.1 with|none=>true|_=>false))=true:=by exact rfl)
 (hA:bV st tA=some (.bool c):=by exact rfl) (hb:bV st tB=some (.bool b):=by exact rfl):QF N (Di N S tB b st0) .normal st w:=dI n hS hdrop hf hA (fun v hv=>by rw[hX]at hv;cases hv;rw[e]) hb
theorem zin(hS:S w)(h:S w→WH P N ops S Q fuel listed st w):WH P N ops S Q fuel listed st w:=h hS
theorem zlp{α:Type}{c:Ir}(f:α→St)(g:α→ln)(I:α→Prop)(μ:α→Nat)(x0:α)(h0:I x0)
 (round:∀x,I x→WC P N c (Exit.then (fun a' w'=>∃y,I y∧μ y<μ x∧Fits N a' (f y)∧g y=w') Q) (f x) (g x)) (hc:Cov st (f x0):=by repeat' first|exact trivial|exact rfl|constructor) (hw:g x0=w:=by exact rfl):WC P N (.loop c) Q st w:=WC.loop f g I μ x0 h0 hc hw round
theorem zx{α:Type}{f:α→St}{g:α→ln}{I:α→Prop}{m:Nat}{μ:α→Nat}(y:α)(h1:I y)(h2:μ y<m)(h3:Cov st (f y):=by repeat' first|exact trivial|exact rfl|constructor)(h4:g y=w:=by exact rfl):
 QF N (Exit.then (fun a' w'=>∃y,I y∧μ y<m∧Fits N a' (f y)∧g y=w') Q) .normal st w:=QF.next y h1 h2 h3 h4
theorem zxd{α:Type}{f:α→St}{g:α→ln}{I:α→Prop}{m:Nat}{μ:α→Nat}(y:α)(h1:I y)(h2:μ y<m:=by first|omega|(dsimp only;omega))(h3:Cov st (f y):=by repeat' first|exact trivial|exact rfl|constructor)(h4:g y=w:=by exact rfl):
 QF N (Exit.then (fun a' w'=>∃y,I y∧μ y<m∧Fits N a' (f y)∧g y=w') Q) .normal st w:=QF.next y h1 h2 h3 h4
end
theorem zg{A B:Prop}(k:B)(a:Hold B→A:=by
 intro k
 repeat first
  |((with_reducible refine' BK ?_ ?_ ?_);rotate_left 1;exact rfl;exact rfl)
  |((with_reducible refine' um ?_ ?_ ?_);rotate_left 1;exact rfl;exact rfl)
  |((with_reducible refine' FR ?_ ?_ ?_);rotate_left 1;exact rfl;exact rfl)
  |with_reducible refine WL.nil ?_
  |with_reducible refine B8 ?_
  |with_reducible refine B9 ?_
  |with_reducible refine ax ?_
  |with_reducible refine WC.seq ?_
  |with_reducible refine WC.region ?_
  |with_reducible refine WC.skip ?_
  |with_reducible refine WC.block ?_
  |with_reducible refine WC.exit ?_
  |with_reducible refine WC.ret ?_
  |with_reducible refine bI ?_
  |with_reducible refine dP ?_
  |with_reducible refine bJ ?_
  |with_reducible refine dv ?_
  |with_reducible refine mU ?_
  |((with_reducible refine QF.blockMiss ?_ ?_);exact rfl)
  |((with_reducible refine' uk ?_ ?_ ?_);rotate_left 1;exact rfl;exact rfl)
  |((with_reducible refine' qw ?_ ?_ ?_ ?_);rotate_left 2;exact rfl;exact rfl;exact rfl)
  |((with_reducible refine' Dn ?_ ?_ ?_ ?_);rotate_left 3;exact rfl;exact rfl;exact rfl)
  |((with_reducible refine' Do ?_ ?_ ?_ ?_);rotate_left 3;exact rfl;exact rfl;exact rfl)
  |((with_reducible refine' Dp ?_ ?_ ?_ ?_);rotate_left 3;exact rfl;exact rfl;exact rfl)
  |((with_reducible refine' Dq ?_ ?_ ?_ ?_);rotate_left 3;exact rfl;exact rfl;exact rfl)
  |((with_reducible refine' Dr ?_ ?_ ?_ ?_);rotate_left 3;exact rfl;exact rfl;exact rfl)
  |((with_reducible refine' Dm ?_ ?_ ?_ ?_);rotate_left 3;exact rfl;exact rfl;exact rfl)
  |((with_reducible refine' Dl ?_ ?_ ?_);rotate_left 1;exact rfl;exact rfl)
  |((with_reducible refine' Dj ?_ ?_ ?_ ?_ ?_);rotate_left 2;exact rfl;(with_reducible exact rfl);exact rfl;exact rfl)
  |((with_reducible refine' Dk ?_ ?_ ?_ ?_ ?_);rotate_left 2;exact rfl;(with_reducible exact rfl);exact rfl;exact rfl)
  |((with_reducible refine' Aj ?_ ?_ ?_ ?_);rotate_left 1;exact rfl;(with_reducible exact rfl);exact rfl)
  |((with_reducible refine' Ak ?_ ?_ ?_ ?_);rotate_left 1;exact rfl;(with_reducible exact rfl);exact rfl)
  |((with_reducible refine Ai ?_ ?_ ?_);exact rfl;exact rfl)
  |((with_reducible refine' Ca ?_ ?_ ?_);rotate_left 1;exact rfl;(with_reducible exact rfl))
  |((with_reducible refine' BL ?_ ?_ ?_);rotate_left 1;exact rfl;exact rfl)
  |((with_reducible refine' uq ?_ ?_ ?_);rotate_left 1;exact rfl;exact rfl)
  |((with_reducible refine' FS ?_ ?_ ?_);rotate_left 1;exact rfl;exact rfl)
  |((with_reducible refine' uo ?_ ?_ ?_);rotate_left 1;exact rfl;exact rfl)
  |((with_reducible refine' qx ?_ ?_ ?_ ?_);rotate_left 2;exact rfl;exact rfl;exact rfl)
  |((with_reducible refine' Ag ?_ ?_ ?_ ?_);rotate_left 1;exact rfl;(with_reducible exact rfl);exact rfl)
  |((with_reducible refine' Ah ?_ ?_ ?_ ?_);rotate_left 1;exact rfl;(with_reducible exact rfl);exact rfl)
  |((with_reducible refine Af ?_ ?_ ?_);exact rfl;exact rfl)
  |with_reducible refine B4 ?_
  |with_reducible refine B5 ?_
  |((with_reducible refine' Ds ?_ ?_ ?_);rotate_left 1;exact rfl;exact rfl)
  |((with_reducible refine' Du ?_ ?_ ?_ ?_);rotate_left 3;exact rfl;exact rfl;exact rfl)
  |((with_reducible refine' Dv ?_ ?_ ?_ ?_);rotate_left 3;exact rfl;exact rfl;exact rfl)
  |((with_reducible refine' Dw ?_ ?_ ?_ ?_);rotate_left 3;exact rfl;exact rfl;exact rfl)
  |((with_reducible refine' Dx ?_ ?_ ?_ ?_);rotate_left 3;exact rfl;exact rfl;exact rfl)
  |((with_reducible refine' Dy ?_ ?_ ?_ ?_);rotate_left 3;exact rfl;exact rfl;exact rfl)
  |((with_reducible refine' Dt ?_ ?_ ?_ ?_);rotate_left 3;exact rfl;exact rfl;exact rfl)
  |((with_reducible refine' B6 ?_ ?_ ?_);rotate_left 1;exact rfl;(with_reducible exact rfl))
 exact k.out):A:=a ⟨k⟩
theorem zh{A B:Prop}(k:B)(a:Hold B→A:=by
 intro k
 repeat first
  |((with_reducible refine' BK ?_ ?_ ?_);rotate_left 1;exact rfl;exact rfl)
  |((with_reducible refine' um ?_ ?_ ?_);rotate_left 1;exact rfl;exact rfl)
  |((with_reducible refine' FR ?_ ?_ ?_);rotate_left 1;exact rfl;exact rfl)
  |with_reducible refine WL.nil ?_
  |with_reducible refine B8 ?_
  |with_reducible refine B9 ?_
  |with_reducible refine ax ?_
  |with_reducible refine WC.seq ?_
  |with_reducible refine WC.region ?_
  |with_reducible refine WC.skip ?_
  |with_reducible refine WC.block ?_
  |with_reducible refine WC.exit ?_
  |with_reducible refine WC.ret ?_
  |with_reducible refine bI ?_
  |with_reducible refine dP ?_
  |with_reducible refine bJ ?_
  |with_reducible refine dv ?_
  |with_reducible refine mU ?_
  |((with_reducible refine QF.blockMiss ?_ ?_);exact rfl)
  |((with_reducible refine' uk ?_ ?_ ?_);rotate_left 1;exact rfl;exact rfl)
  |((with_reducible refine' qw ?_ ?_ ?_ ?_);rotate_left 2;exact rfl;exact rfl;exact rfl)
  |((with_reducible refine' Dn ?_ ?_ ?_ ?_);rotate_left 3;exact rfl;exact rfl;exact rfl)
  |((with_reducible refine' Do ?_ ?_ ?_ ?_);rotate_left 3;exact rfl;exact rfl;exact rfl)
  |((with_reducible refine' Dp ?_ ?_ ?_ ?_);rotate_left 3;exact rfl;exact rfl;exact rfl)
  |((with_reducible refine' Dq ?_ ?_ ?_ ?_);rotate_left 3;exact rfl;exact rfl;exact rfl)
  |((with_reducible refine' Dr ?_ ?_ ?_ ?_);rotate_left 3;exact rfl;exact rfl;exact rfl)
  |((with_reducible refine' Dm ?_ ?_ ?_ ?_);rotate_left 3;exact rfl;exact rfl;exact rfl)
  |((with_reducible refine' Dl ?_ ?_ ?_);rotate_left 1;exact rfl;exact rfl)
  |((with_reducible refine' Dj ?_ ?_ ?_ ?_ ?_);rotate_left 2;exact rfl;(with_reducible exact rfl);exact rfl;exact rfl)
  |((with_reducible refine' Dk ?_ ?_ ?_ ?_ ?_);rotate_left 2;exact rfl;(with_reducible exact rfl);exact rfl;exact rfl)
  |((with_reducible refine' Aj ?_ ?_ ?_ ?_);rotate_left 1;exact rfl;(with_reducible exact rfl);exact rfl)
  |((with_reducible refine' Ak ?_ ?_ ?_ ?_);rotate_left 1;exact rfl;(with_reducible exact rfl);exact rfl)
  |((with_reducible refine Ai ?_ ?_ ?_);exact rfl;exact rfl)
  |((with_reducible refine' Ca ?_ ?_ ?_);rotate_left 1;exact rfl;(with_reducible exact rfl))
  |((with_reducible refine' BL ?_ ?_ ?_);rotate_left 1;exact rfl;exact rfl)
  |((with_reducible refine' uq ?_ ?_ ?_);rotate_left 1;exact rfl;exact rfl)
  |((with_reducible refine' FS ?_ ?_ ?_);rotate_left 1;exact rfl;exact rfl)
  |((with_reducible refine' uo ?_ ?_ ?_);rotate_left 1;exact rfl;exact rfl)
  |((with_reducible refine' qx ?_ ?_ ?_ ?_);rotate_left 2;exact rfl;exact rfl;exact rfl)
  |((with_reducible refine' Ag ?_ ?_ ?_ ?_);rotate_left 1;exact rfl;(with_reducible exact rfl);exact rfl)
  |((with_reducible refine' Ah ?_ ?_ ?_ ?_);rotate_left 1;exact rfl;(with_reducible exact rfl);exact rfl)
  |((with_reducible refine Af ?_ ?_ ?_);exact rfl;exact rfl)
  |with_reducible refine B4 ?_
  |with_reducible refine B5 ?_
  |((with_reducible refine' Ds ?_ ?_ ?_);rotate_left 1;exact rfl;exact rfl)
  |((with_reducible refine' Du ?_ ?_ ?_ ?_);rotate_left 3;exact rfl;exact rfl;exact rfl)
  |((with_reducible refine' Dv ?_ ?_ ?_ ?_);rotate_left 3;exact rfl;exact rfl;exact rfl)
  |((with_reducible refine' Dw ?_ ?_ ?_ ?_);rotate_left 3;exact rfl;exact rfl;exact rfl)
  |((with_reducible refine' Dx ?_ ?_ ?_ ?_);rotate_left 3;exact rfl;exact rfl;exact rfl)
  |((with_reducible refine' Dy ?_ ?_ ?_ ?_);rotate_left 3;exact rfl;exact rfl;exact rfl)
  |((with_reducible refine' Dt ?_ ?_ ?_ ?_);rotate_left 3;exact rfl;exact rfl;exact rfl)
  |((with_reducible refine' B6 ?_ ?_ ?_);rotate_left 1;exact rfl;(with_reducible exact rfl))
  |((with_reducible refine' F9 ?_ ?_ ?_ ?_);rotate_left 2;exact rfl;(with_reducible assumption);exact rfl)
  |((with_reducible refine' Fg ?_ ?_ ?_ ?_ ?_);rotate_left 2;exact rfl;exact rfl;omega;exact rfl)
  |((with_reducible refine' F8 ?_ ?_ ?_ ?_);rotate_left 4;exact rfl;(with_reducible assumption);exact rfl)
  |((with_reducible refine' Ga ?_ ?_ ?_ ?_ ?_ ?_ ?_);rotate_left 7;exact rfl;exact rfl;(with_reducible assumption);exact rfl;omega;exact rfl)
  |((with_reducible refine' Ff ?_ ?_ ?_ ?_ ?_);rotate_left 2;exact rfl;exact rfl;omega;exact rfl)
  |((with_reducible refine' Gc ?_ ?_ ?_ ?_);rotate_left 2;exact rfl;(with_reducible assumption);exact rfl)
  |((with_reducible refine' Fj ?_ ?_ ?_ ?_ ?_);rotate_left 2;exact rfl;exact rfl;omega;exact rfl)
  |((with_reducible refine' Fh ?_ ?_ ?_ ?_ ?_);rotate_left 2;exact rfl;exact rfl;omega;exact rfl)
  |((with_reducible refine' Fi ?_ ?_ ?_ ?_);rotate_left 2;exact rfl;(with_reducible assumption);exact rfl)
  |((with_reducible refine' Gb ?_ ?_ ?_ ?_);rotate_left 4;exact rfl;(with_reducible assumption);exact rfl)
  |((with_reducible refine' Gd ?_ ?_ ?_ ?_ ?_ ?_ ?_);rotate_left 7;exact rfl;exact rfl;(with_reducible assumption);exact rfl;omega;exact rfl)
 exact k.out):A:=a ⟨k⟩
section
variable{P:G7}{N:Nat}{ops:Array Gv}{Q:GP→I4→ln→Prop}{K:I4→Prop}{rest:List Gv}{st:St}{w:ln}
variable{t:G0}{p:String}{e:Array Iq}{d:Nat}{v:ix}{op:Op}{B:Prop}
theorem zvG(hv:RV P N op t st w v)(k:B)(hd:G1 d N=true:=by exact rfl)(a:Hold B→WL P N ops Q rest ((d,v)::st) w:=by intro k;exact zg k.out):WL P N ops Q (⟨some d,op,t,p,e,none⟩::rest) st w:=lq hv hd (a ⟨k⟩)
theorem zwG(hv:RV P N op t st w v)(k:B)(hd:G1 d N=true:=by exact rfl)(a:Hold B→WS P N ops w K rest ((d,v)::st):=by intro k;exact zg k.out):WS P N ops w K (⟨some d,op,t,p,e,none⟩::rest) st:=nO hv hd (a ⟨k⟩)
theorem zTG{c:G4}{x y:Ir}{b:Bool}(hc:ev st c=some (.bool b))(hb:b=true)(k:B)(a:Hold B→WC P N x Q st w:=by intro k;exact zg k.out):WC P N (.cond c x y) Q st w:=aS hc hb (a ⟨k⟩)
theorem zFG{c:G4}{x y:Ir}{b:Bool}(hc:ev st c=some (.bool b))(hb:b=false)(k:B)(a:Hold B→WC P N y Q st w:=by intro k;exact zg k.out):WC P N (.cond c x y) Q st w:=aX hc hb (a ⟨k⟩)
theorem zvH(hv:RV P N op t st w v)(k:B)(hd:G1 d N=true:=by exact rfl)(a:Hold B→WL P N ops Q rest ((d,v)::st) w:=by intro k;exact zh k.out):WL P N ops Q (⟨some d,op,t,p,e,none⟩::rest) st w:=lq hv hd (a ⟨k⟩)
theorem zwH(hv:RV P N op t st w v)(k:B)(hd:G1 d N=true:=by exact rfl)(a:Hold B→WS P N ops w K rest ((d,v)::st):=by intro k;exact zh k.out):WS P N ops w K (⟨some d,op,t,p,e,none⟩::rest) st:=nO hv hd (a ⟨k⟩)
theorem zTH{c:G4}{x y:Ir}{b:Bool}(hc:ev st c=some (.bool b))(hb:b=true)(k:B)(a:Hold B→WC P N x Q st w:=by intro k;exact zh k.out):WC P N (.cond c x y) Q st w:=aS hc hb (a ⟨k⟩)
theorem zFH{c:G4}{x y:Ir}{b:Bool}(hc:ev st c=some (.bool b))(hb:b=false)(k:B)(a:Hold B→WC P N y Q st w:=by intro k;exact zh k.out):WC P N (.cond c x y) Q st w:=aX hc hb (a ⟨k⟩)
end
end Go.VL
end
section
namespace Go.VL
open Go.Proofs.Tryz
open Go.Proofs Go.Proofs.YtpfpmhhigheccaaGreatDoor
open Go.Proofs.Tryz
instance :FA Gn 27 0 0:=fI IR rfl rfl GU
instance :FA Gn 27 1 1:=fI IR rfl rfl Ie
instance :FA Gn 27 2 2:=fI IR rfl rfl Ie
instance :FA Gn 27 3 3:=fI IR rfl rfl Ie
instance :FA Gn 27 4 4:=fI IR rfl rfl Ie
instance :FA Gn 30 0 0:=fI L2 rfl rfl sizeOf27
instance :FA Gn 30 1 5:=fI L2 rfl rfl KT
instance :FA Gn 32 0 0:=fI Im rfl rfl Jy
instance :FA Gn 32 1 1:=fI Im rfl rfl Jy
instance :FA Gn 32 2 2:=fI Im rfl rfl Jy
instance :FA Gn 32 3 3:=fI Im rfl rfl GU
instance :FA Gn 32 4 4:=fI Im rfl rfl Ie
instance :FA Gn 32 5 5:=fI Im rfl rfl sizeOf30
instance :FA Gn 32 6 11:=fI Im rfl rfl sizeOf30
instance :FA Gn 49 0 0:=fI K2 rfl rfl Ie
instance :FA Gn 49 1 1:=fI K2 rfl rfl Ie
instance :FA Gn 49 2 2:=fI K2 rfl rfl sizeOf47
instance :FA Gn 61 0 0:=fI L1 rfl rfl sizeOf22
instance :FA Gn 61 1 1:=fI L1 rfl rfl Jg
instance :FA Gn 63 0 0:=fI underlying63 rfl rfl sizeOf61
instance :FA Gn 86 0 0:=fI K1 rfl rfl GU
instance :FA Gn 86 1 1:=fI K1 rfl rfl GU
instance :FA Gn 86 2 2:=fI K1 rfl rfl sizeOf84
instance :FA Gn 88 0 0:=fI K0 rfl rfl Ki
instance :FA Gn 88 1 3:=fI K0 rfl rfl Ki
instance :FA Gn 88 2 6:=fI K0 rfl rfl Jg
instance :FA Gn 91 0 0:=fI L0 rfl rfl Kh
instance :FA Gn 91 1 1:=fI L0 rfl rfl KT
instance :FA Gn 127 1 1:=fI KW rfl rfl Kh
instance :FA Gn 127 2 2:=fI KW rfl rfl KT
instance :FA Gn 145 0 0:=fI Iv rfl rfl K5
instance :FA Gn 145 1 1:=fI Iv rfl rfl GU
instance :FA Gn 145 2 2:=fI Iv rfl rfl GU
instance :FA Gn 145 3 3:=fI Iv rfl rfl GU
instance :FA Gn 145 4 4:=fI Iv rfl rfl GU
instance :FA Gn 145 5 5:=fI Iv rfl rfl sizeOf33
instance :FA Gn 148 0 0:=fI IH rfl rfl sizeOf145
instance :FA Gn 148 1 6:=fI IH rfl rfl sizeOf49
instance :FA Gn 148 2 9:=fI IH rfl rfl sizeOf146
instance :FA Gn 148 3 10:=fI IH rfl rfl Jg
instance :FA Gn 148 4 11:=fI IH rfl rfl Jg
instance :FA Gn 165 0 0:=fI IG rfl rfl Jg
instance :FA Gn 165 1 1:=fI IG rfl rfl sizeOf162
instance :FA Gn 165 2 2:=fI IG rfl rfl sizeOf163
instance :FA Gn 165 3 3:=fI IG rfl rfl sizeOf160
instance :FA Gn 165 4 4:=fI IG rfl rfl sizeOf161
instance :FA Gn 167 0 0:=fI JL rfl rfl Ie
instance :FA Gn 167 1 1:=fI JL rfl rfl Ie
instance :FA Gn 167 2 2:=fI JL rfl rfl GU
instance :FA Gn 170 0 0:=fI JK rfl rfl GU
instance :FA Gn 170 1 1:=fI JK rfl rfl GU
instance :FA Gn 170 2 2:=fI JK rfl rfl GU
instance :FA Gn 174 0 0:=fI JJ rfl rfl sizeOf114
instance :FA Gn 174 1 1:=fI JJ rfl rfl sizeOf172
instance :FA Gn 174 2 2:=fI JJ rfl rfl Kh
instance :FA Gn 201 0 0:=fI Iu rfl rfl sizeOf91
instance :FA Gn 201 1 2:=fI Iu rfl rfl sizeOf199
instance :FA Gn 201 2 3:=fI Iu rfl rfl Ie
instance :FA Gn 201 3 4:=fI Iu rfl rfl sizeOf160
instance :FA Gn 201 4 5:=fI Iu rfl rfl sizeOf198
instance :FA Gn 201 5 6:=fI Iu rfl rfl GU
instance :FA Gn 218 0 0:=fI KV rfl rfl K5
instance :FA Gn 218 1 1:=fI KV rfl rfl Ki
instance :FA Gn 235 0 0:=fI KU rfl rfl K5
instance :FA Gn 235 1 1:=fI KU rfl rfl GU
instance :FA Gn 237 0 0:=fI IF rfl rfl sizeOf235
instance :FA Gn 237 1 2:=fI IF rfl rfl sizeOf146
instance :FA Gn 237 2 3:=fI IF rfl rfl GU
instance :FA Gn 237 3 4:=fI IF rfl rfl GU
instance :FA Gn 237 4 5:=fI IF rfl rfl sizeOf33
instance :SC Gn 22 1:=⟨5,underlying22,sizeOf5⟩
instance :SC Gn 25 1:=⟨3,K4,GU⟩
instance :SC Gn 28 1:=⟨24,underlying28,Jy⟩
instance :SC Gn 47 7:=⟨88,underlying47,sizeOf88⟩
instance :SC Gn 84 3:=⟨86,underlying84,Ki⟩
instance :SC Gn 89 1:=⟨25,underlying89,Ie⟩
instance :SC Gn 119 2:=⟨91,underlying119,sizeOf91⟩
instance :SC Gn 123 1:=⟨9,underlying123,K5⟩
instance :SC Gn 146 4:=⟨218,underlying146,sizeOf218⟩
instance :SC Gn 163 3:=⟨167,underlying163,sizeOf167⟩
instance :SC Gn 199 1:=⟨89,underlying199,Kh⟩
instance :AG Gn 3 false:=⟨Lo⟩
instance :AG Gn 4 false:=⟨Ln⟩
instance :AG Gn 5 false:=⟨isAgg5⟩
instance :AG Gn 9 false:=⟨isAgg9⟩
instance :AG Gn 22 false:=⟨isAgg22⟩
instance :AG Gn 24 false:=⟨isAgg24⟩
instance :AG Gn 25 false:=⟨L3⟩
instance :AG Gn 28 false:=⟨isAgg28⟩
instance :AG Gn 33 false:=⟨isAgg33⟩
instance :AG Gn 47 false:=⟨isAgg47⟩
instance :AG Gn 84 false:=⟨isAgg84⟩
instance :AG Gn 89 false:=⟨isAgg89⟩
instance :AG Gn 114 false:=⟨isAgg114⟩
instance :AG Gn 146 false:=⟨isAgg146⟩
instance :AG Gn 160 false:=⟨isAgg160⟩
instance :AG Gn 161 false:=⟨isAgg161⟩
instance :AG Gn 162 false:=⟨isAgg162⟩
instance :AG Gn 163 false:=⟨isAgg163⟩
instance :AG Gn 172 false:=⟨isAgg172⟩
instance :AG Gn 197 false:=⟨isAgg197⟩
instance :AG Gn 198 false:=⟨isAgg198⟩
instance :AG Gn 199 false:=⟨isAgg199⟩
end Go.VL
end
namespace Go.VL
open Go.Proofs.Tryz
theorem max_lt(k:G8){a:Nat}(h:(a:Int)<=k.max):a<2^k.bits:=by
 cases k<;>simp only[Jt,IY,IM]at h ⊢<;>simp at h ⊢<;>omega
theorem eM(n a:Nat)(h:a<2^n):(Kx n (a:Int)).toNat=a:=by
 rw[show Kx n (a:Int)=BitVec.ofNat n a from by simp,BitVec.toNat_ofNat,Nat.mod_eq_of_lt h]
theorem lF(k:G8){a:Nat}(h:(a:Int)<=k.max):k.wrap a=a:=by
 cases k<;>simp only[Jt,IY,IM]at h<;>simp[Lu,IY,IM]at h ⊢<;>(try split)<;>omega
def xO(k:G8):Nat:=if k.signed then k.bits-1 else k.bits
theorem kC(k:G8)(a:Nat):(a:Int)<=k.max↔a<2^xO k:=by
 cases k<;>simp[Jt,IY,IM,xO]<;>omega
section
variable{P:G7}{N:Nat}{ops:Array Gv}{Q:GP→I4→ln→Prop}{rest:List Gv}{st:St}{w:ln}
variable{t xt yt:G0}{p:String}{e:Array Iq}{d:Nat}{x y z:G4}
variable{k:G8}{m n:Int}{a b:Nat}
theorem Ct(ha:(a:Int)<=k.max)(hb:(b:Int)<=k.max):(binOp .and xt (.int k a) (.int k b)).run P w=.ok (.int k ((a &&& b:Nat):Int)) w:=by
 rw[binOp_and];have h:((a &&& b:Nat):Int)<=k.max:=by have:=@Nat.and_le_left a b;omega
 simp only[KZ,BitVec.toNat_and,eM _ _ (max_lt k ha),eM _ _ (max_lt k hb),lF k h];rfl
theorem DD(ha:(a:Int)<=k.max)(hb:(b:Int)<=k.max):(binOp .or xt (.int k a) (.int k b)).run P w=.ok (.int k ((a ||| b:Nat):Int)) w:=by
 rw[binOp_or];have h:((a ||| b:Nat):Int)<=k.max:=(kC k _).2 (Nat.or_lt_two_pow ((kC k a).1 ha) ((kC k b).1 hb));simp only[KZ,BitVec.toNat_or,eM _ _ (max_lt k ha),eM _ _ (max_lt k hb),lF k h];rfl
theorem uh(hx:ev st x=some (.int k m))(hy:ev st y=some (.int k n))(hm:m=a)(hn:n=b)(ha:(a:Int)<=k.max)(hb:(b:Int)<=k.max):RV P N (.binOp .and xt x y yt) t st w (.int k ((a &&& b:Nat):Int)):=by
 subst hm;subst hn;exact dm hx hy (Ct ha hb)
theorem oT(hx:ev st x=some (.int k m))(hy:ev st y=some (.int k n))(hm:m=a)(hn:n=b)(ha:(a:Int)<=k.max)(hb:(b:Int)<=k.max):RV P N (.binOp .or xt x y yt) t st w (.int k ((a ||| b:Nat):Int)):=by
 subst hm;subst hn;exact dm hx hy (DD ha hb)
theorem gS{k':G8}(hx:ev st x=some (.int k m))(hy:ev st y=some (.int k' n))(hm:m=a)(hn:n=b)(hb:b<=k.bits):RV P N (.binOp .shr xt x y yt) t st w (.int k ((a / 2^b:Nat):Int)):=by
 subst hm;subst hn;refine dm hx hy ?_;rw[binOp_shr];have h1:¬(b:Int)<0:=zo;simp only[Le,if_neg h1,GI,Jh hb];rw[Int.fdiv_eq_ediv_of_nonneg _ (by exact_mod_cast GY _)];simp
theorem ue{k':G8}(hx:ev st x=some (.int k m))(hy:ev st y=some (.int k' n))(hm:m=a)(hn:n=b)(hb:b<=k.bits)(hr:((a*2^b:Nat):Int)<=k.max):RV P N (.binOp .shl xt x y yt) t st w (.int k ((a*2^b:Nat):Int)):=by
 subst hm;subst hn;refine dm hx hy ?_;rw[binOp_shl];have h1:¬(b:Int)<0:=zo;have h2:=lF k hr;simp only[Le,if_neg h1,GI,Jh hb];have h3:(a:Int)*2^b=((a*2^b:Nat):Int):=by simp
 rw[h3,h2];rfl
theorem sO(l:List UInt8):strOfNums (l.map fun b=>(b.toNat:Int))=bs l:=by
 simp only[strOfNums,bs,List.map_map];congr 1;rw[show((fun n:Int=>Io n.toNat)∘fun b:UInt8=>(b.toNat:Int))=id from by funext b;simp];simp
theorem dx{l:List UInt8}{v:ix}{E:G0}(hl:Sl (fun b:UInt8=>[Ig .u8 (b.toNat:Int)]) 1 w v l)(hs:P.underlying xt=some (.slice E))(he:P.underlying E=some (.int .u8))(a0:P.underlying yt=some .string)(hx:ev st x=some v):
  RV P N (.convert xt yt x) t st w (.string (bs l)):=
 fun a' ha a2 p e g=>by
  obtain⟨a,c,rfl,hc,_,a1⟩:=hl.shape;simp only[execOp,ha.ev hx,G6]
  by_cases h0:l.length=0
  ·obtain rfl:l=[]:=Gt h0
   cases a with
   |none=>
    rw[run_convert_bytes_nil w xt E hs he _ _ yt a0];rfl
   |some q=>
    obtain⟨b,o,sp⟩:=q;have hq:=run_convert_bytes_string (P:=P) w xt yt E (some ⟨b,o,sp⟩) 0 c hs he a0;simp only[IK]at hq ⊢;rw[hq,run_bytesToString w ⟨b,o,sp⟩ 0 c [] (by simp[loadCells,loadCellsFrom])];rfl
  obtain⟨b,o,rfl⟩:=a1 h0
  have:=run_convert_bytes_arg (P:=P) w xt E hs he b o l.length c (l.map fun b=>(b.toNat:Int)) (by simp) (fun i hi=>by
   have h1:=hl.cells i hi 0 _ rfl;rw[az]at h1;simp only[adr,IS]at h1;rw[h1,GN,GT (by simpa using hi)]
   simp) yt a0
  rw[this,sO];rfl
end
section
open Go.RowKit
abbrev Fr(ro:Option Nat):Fence:={ If with round:=ro }
def eA(o:Gv):Bool:=match o.op with | .defer _=>false|_=>true
theorem vM{o:Gv}(h:eA o=true):∀c,o.op≠.defer c:=by
 intro c e;simp[eA,e]at h
def dn(ds:List I2)(Q:GP->I4->ln->Prop):GP->I4->ln->Prop:=fun e a w=>Q e { a with defers:=a.defers++ds } w
theorem jb(a:I4)(x:List I2):({ a with defers:=x }:I4).eval=a.eval:=by
 funext t;cases t<;>rfl
theorem Gh{ro:Option Nat}{P:G7}{o:Gv}{a:I4}{w:ln}{next:I4->ln->Prop}{Q Q1:GP->I4->ln->Prop}{ds:List I2} 
  (hn:ro=none\/eA o=true) (a1:∀a w,¬Q1 .outgrown a w) (hq:∀c a w,Q1 (.panic c) a w->Q (.panic c) { a with defers:=a.defers++ds } w)
  (h:o.wp P a w (fun a w=>next { a with defers:=a.defers++ds } w) Q1):o.wpIn (Fr ro) 0 P { a with defers:=a.defers++ds } w next Q:=by
 refine⟨fun _ _=>trivial,?_⟩;have hs:o.semAt (Fr ro).round ({ a with defers:=a.defers++ds }:I4).eval=execOp a.eval o:=by
  rw[jb]
  rcases hn with rfl|hn
  ·rfl
  exact Oper.semAt_eq _ _ _ (vM hn)
 rw[hs];unfold Ip at h;generalize (execOp a.eval o).run P w=r at h ⊢
 cases r with
 |ok nx w'=>
  cases nx with
  |value v=>cases hd:o.dst<;>simpa[ID,JE,IW,hd]using h
  |skip=>cases hd:o.dst<;>simpa[ID,JE,IW,hd]using h
  |defer d=>cases hd:o.dst<;>simpa[ID,JE,IW,hd]using h
  |enter f args=>
   refine⟨fun hh=>by simp[If]at hh,?_⟩;refine Lv (callsIn_wide.2 h:CallsIn If _ P f args w' _) ?_
   intro e w'' q
   cases e with
   |returned v=>cases hd:o.dst<;>simpa[IW,hd]using q
   |panicked c=>exact hq _ _ _ q
   |outgrown=>obtain⟨a0,w0,q⟩:=q;exact absurd q (a1 _ _)
  |row row args=>
   refine⟨fun hh=>by simp[If]at hh,fun c cs _=>?_⟩;obtain⟨v,w'',q,s⟩:=h c cs;refine⟨v,w'',?_,stepsIn_wide.2 s⟩
   cases hd:o.dst<;>simpa[IW,hd]using q
  |_=>exact h.elim
 |halt hl w'=>
  cases hl with
  |panic v=>exact hq _ _ _ h
  |_=>exact h.elim
theorem ej{ro:Option Nat}{P:G7}{ops:Array Gv}{Q:GP->I4->ln->Prop}{ds:List I2}(l2:List Gv)(a2:∀a w,¬Q .outgrown a w):
  ∀(l:List Gv),(ro=none\/l.all eA=true)->∀a w,wpList P ops (dn ds (Exit.then (wpListIn (Fr ro) 0 P ops Q l2) Q)) l a w->wpListIn (Fr ro) 0 P ops Q (l++l2) { a with defers:=a.defers++ds } w
 |[],_,a,w,h=>h
 |o::rest,hn,a,w,h=>by
  have a4:ro=none\/eA o=true:=by rcases hn with h|h;exact .inl h;exact .inr (by simp at h;exact h.1)
  have a3:ro=none\/rest.all eA=true:=by rcases hn with h|h;exact .inl h;exact .inr (by simp at h ⊢;exact h.2)
  rw[GW];unfold wpListIn;unfold wpList at h;have a1:∀a w,¬dn ds (Exit.then (wpListIn (Fr ro) 0 P ops Q l2) Q) .outgrown a w:=fun a w q=>a2 _ _ q
  split at h
  ·rename_i hw;rw[if_pos hw]
   rcases h with h|⟨_,a0,w0,h⟩
   ·refine Gh (Q1:=dn ds (Exit.then (wpListIn (Fr ro) 0 P ops Q l2) Q)) a4 a1 (fun _ _ _ q=>q) ?_;have hm:∀a w,wpList P ops (dn ds (Exit.then (wpListIn (Fr ro) 0 P ops Q l2) Q)) rest a w->wpListIn (Fr ro) 0 P ops Q (rest++l2) { a with defers:=a.defers++ds } w:=ej l2 a2 rest a3;unfold Ip at h ⊢;generalize (execOp a.eval o).run P w=r at h ⊢
    cases r with
    |ok nx w'=>
     cases nx with
     |value v=>exact hm _ _ h
     |skip=>exact hm _ _ h
     |defer d=>exact hm _ _ h
     |enter f args=>
      refine GL h ?_;intro e w'' q
      cases e with
      |returned v=>exact hm _ _ q
      |_=>exact q
     |row row args=>exact K9 h fun v w'' q=>hm _ _ q
     |_=>exact h
    |halt hl w'=>cases hl<;>exact h
   exact absurd h (a1 _ _)
  rename_i hw;rw[if_neg hw];refine⟨fun _ _=>trivial,?_⟩;have:=ej l2 a2 rest a3 _ _ h
  cases hd:o.dst<;>simpa[IW,hd]using this
theorem then_self(Q:GP->I4->ln->Prop):Exit.then (fun a w=>Q .normal a w) Q=Q:=by
 funext e a w;cases e<;>rfl
theorem lL{ro:Option Nat}{P:G7}{ops:Array Gv}{Q:GP->I4->ln->Prop}{ds:List I2}(a0:∀a w,¬Q .outgrown a w) 
  (l:List Gv) (hn:ro=none\/l.all eA=true) (a:I4) (w:ln) (h:wpList P ops (dn ds Q) l a w):wpListIn (Fr ro) 0 P ops Q l { a with defers:=a.defers++ds } w:=by
 have:=ej (ro:=ro) (P:=P) (ops:=ops) (Q:=Q) (ds:=ds) [] a0 l hn a w (by
  rw[show Exit.then (wpListIn (Fr ro) 0 P ops Q []) Q=Q from then_self Q];exact h)
 rwa[IL]at this
def WI(ro:Option Nat)(P:G7)(N:Nat)(ds:List I2)(c:Ir)(Q:GP->I4->ln->Prop)(st:St)(w:ln):Prop:=
 ∀a,Fits N a st->c.wpIn (Fr ro) 0 P Q { a with defers:=ds } w
def QI(N:Nat)(ds:List I2)(Q:GP->I4->ln->Prop)(e:GP)(st:St)(w:ln):Prop:=
 ∀a,Fits N a st->Q e { a with defers:=ds } w
section
variable{P:G7}{N:Nat}{ro:Option Nat}{ds:List I2}{Q:GP→I4→ln→Prop}{st:St}{w:ln}
theorem qe{N:Nat}{a:I4}{st:St}(h:Fits N a st)(ds:List I2):({ a with defers:=a.defers++ds }:I4) = { a with defers:=ds }:=by rw[h.defers];rfl
theorem QF.dn{e:GP}(h:QI N ds Q e st w):QF N (dn ds Q) e st w:=fun a ha=>by
 show Q e _ w;rw[qe ha];exact h a ha
theorem WI.region{id:Nat}{l:List Gv}(hn:ro=none\/l.all eA=true)(a0:∀a w,¬Q .outgrown a w)(h:WL P N l.toArray (dn ds Q) l st w):WI ro P N ds (.region id l.toArray false) Q st w:=fun a ha=>by
 rw[<-qe ha];exact wpIn_region_lit (lL a0 l hn a w (h a ha))
theorem WI.seq{x y:Ir}(h:WI ro P N ds x (Exit.then (y.wpIn (Fr ro) 0 P Q) Q) st w):WI ro P N ds (.seq x y) Q st w:=fun a ha=>wpIn_seq (h a ha)
theorem WI.skip(h:QI N ds Q .normal st w):WI ro P N ds .skip Q st w:=fun a ha=>wpIn_skip (h a ha)
theorem WI.exit{id:Nat}(h:QI N ds Q (.exit id) st w):WI ro P N ds (.exit id) Q st w:=fun a ha=>wpIn_exit (h a ha)
theorem WI.ret(h:QI N ds Q .ret st w):WI ro P N ds .ret Q st w:=fun a ha=>wpIn_ret (h a ha)
theorem WI.block{id:Nat}{c:Ir}(h:WI ro P N ds c (Ic id Q) st w):WI ro P N ds (.block id c) Q st w:=fun a ha=>wpIn_block (h a ha)
theorem Fits.evD{a:I4}(ha:Fits N a st){x:G4}{v:ix}(hx:VL.ev st x=some v)(ds:List I2):({ a with defers:=ds }:I4).eval x=v:=by rw[jb];exact ha.ev hx
theorem WI.cond{c:G4}{x y:Ir}{b:Bool}(hc:ev st c=some (.bool b))(ht:b=true->WI ro P N ds x Q st w)(hf:b=false->WI ro P N ds y Q st w):WI ro P N ds (.cond c x y) Q st w:=
 fun a ha=>wpIn_cond_split (ha.evD hc ds) (fun e=>ht e a ha) (fun e=>hf e a ha)
theorem qi{c:G4}{x y:Ir}{b:Bool}(hc:ev st c=some (.bool b))(hb:b=true)(ht:WI ro P N ds x Q st w):WI ro P N ds (.cond c x y) Q st w:=by
 subst hb;exact fun a ha=>wpIn_cond_true (ha.evD hc ds) (ht a ha)
theorem jX{c:G4}{x y:Ir}{b:Bool}(hc:ev st c=some (.bool b))(hb:b=false)(hf:WI ro P N ds y Q st w):WI ro P N ds (.cond c x y) Q st w:=by
 subst hb;exact fun a ha=>wpIn_cond_false (ha.evD hc ds) (hf a ha)
theorem aR{y:Ir}{Q':GP->I4->ln->Prop}(h:WI ro P N ds y Q st w):QI N ds (Exit.then (y.wpIn (Fr ro) 0 P Q) Q') .normal st w:=h
theorem mT{K:I4->ln->Prop}{id:Nat}(h:QI N ds Q (.exit id) st w):QI N ds (Exit.then K Q) (.exit id) st w:=h
theorem iC{K:I4->ln->Prop}(h:QI N ds Q .ret st w):QI N ds (Exit.then K Q) .ret st w:=h
theorem cK{id:Nat}(h:QI N ds Q .normal st w):QI N ds (Ic id Q) .normal st w:=h
theorem fX{id:Nat}(h:QI N ds Q .ret st w):QI N ds (Ic id Q) .ret st w:=h
theorem uj{id:Nat}(h:QI N ds Q .normal st w):QI N ds (Ic id Q) (.exit id) st w:=fun a ha=>by
 show if id=id then _ else _
 rw[if_pos rfl];exact h a ha
end
theorem wpIn_loop_ghost{F:Fence}{n:Nat}{P:G7}{Q:GP->I4->ln->Prop}{a:I4}{w:ln}{c:Ir}(I:Nat->I4->ln->Prop)(n0:Nat)(h₀:I n0 a w) 
  (a1:∀j a w,I j a w->c.wpIn F n P (Exit.then (fun a' w'=>∃j',j'<j/\I j' a' w') Q) a w):(Code.loop c).wpIn F n P Q a w:=by
 intro b k cs a3 hb hr;have a2:∀j a w,I j a w->
   ∃e a' w',Q e a' w'/\ArrivesIn (Lq P F) P (lone (b.atR a (.code c :: .inLoop c::k)) cs w) b k cs e a' w':=by
  intro j
  induction j using Nat.strongRecOn with
  |_ j ih=>
   intro a w hI;obtain⟨e,a₁,w₁,hq,a0⟩:=a1 j a w hI b (.inLoop c::k) cs a3 hb hr
   cases e with
   |normal=>
    obtain⟨j',a4,hI₁⟩:=hq;obtain⟨e₂,a₂,w₂,hq₂,harr₂⟩:=ih j' a4 a₁ w₁ hI₁;exact⟨e₂,a₂,w₂,hq₂,.of_steps (Lp a0 (.one (fenced_calm hb hr rfl) stepR_inLoop)) harr₂⟩
   |exit id=>exact⟨_,a₁,w₁,hq,.pass (x:=.inLoop c) rfl (fun _ _=>.inl (by simp)) a0⟩
   |goto l=>exact⟨_,a₁,w₁,hq,.pass (x:=.inLoop c) rfl (fun _ _=>.inl (by simp)) a0⟩
   |ret=>exact⟨_,a₁,w₁,hq,.pass (x:=.inLoop c) rfl (fun _ _=>.inl (by simp)) a0⟩
   |panic ch=>exact⟨_,a₁,w₁,hq,.pass (x:=.inLoop c) rfl (fun _ _=>.inl (by simp)) a0⟩
   |outgrown=>exact⟨_,a₁,w₁,hq,.pass (x:=.inLoop c) rfl (fun _ _=>.inl (by simp)) a0⟩
 obtain⟨e,a',w',hq,a0⟩:=a2 _ a w h₀;exact⟨e,a',w',hq,.of_steps (.one (fenced_calm hb hr rfl) stepR_loop) a0⟩
section
variable{P:G7}{N:Nat}{ro:Option Nat}{ds:List I2}{Q:GP→I4→ln→Prop}{st:St}{w:ln}
theorem WI.loop{α:Type}{c:Ir}(f:α->St)(g:α->ln)(I:α->Prop)(μ:α->Nat)(x0:α)(h0:I x0)(hc:Cov st (f x0))(hw:g x0=w) 
  (a0:∀x,I x->WI ro P N ds c (Exit.then (fun a' w'=>∃y,I y/\μ y<μ x/\(∃a,a' = { a with defers:=ds }/\Fits N a (f y))/\g y=w') Q) (f x) (g x)):WI ro P N ds (.loop c) Q st w:=by
 intro a ha;refine wpIn_loop_ghost (fun n a' w=>∃y,I y/\μ y=n/\(∃a,a' = { a with defers:=ds }/\Fits N a (f y))/\g y=w) (μ x0) ⟨x0,h0,rfl,⟨a,rfl,ha.cov hc⟩,hw⟩ ?_;rintro n _ w ⟨x,hI,rfl,⟨a,rfl,hf⟩,rfl⟩;refine wpIn_mono (a0 x hI a hf) ?_;intro e a' w' hq
 cases e with
 |normal=>obtain⟨y,h1,h2,h3,h4⟩:=hq;exact⟨μ y,h2,y,h1,rfl,h3,h4⟩
 |_=>exact hq
theorem QI.next{α:Type}{f:α->St}{g:α->ln}{I:α->Prop}{m:Nat}{μ:α->Nat}(y:α)(h1:I y)(h2:μ y<m)(h3:Cov st (f y))(h4:g y=w):
 QI N ds (Exit.then (fun a' w'=>∃y,I y/\μ y<m/\(∃a,a' = { a with defers:=ds }/\Fits N a (f y))/\g y=w') Q) .normal st w:=fun a ha=>⟨y,h1,h2,⟨a,rfl,ha.cov h3⟩,h4⟩
end
def D8(R:ix->ln->Prop):Ending->ln->Prop
 |.returned v,w=>R v w
 |_,_=>False
def Leave(P:G7)(N:Nat)(fn:KP)(R:ix->ln->Prop)(ds:List I2)(st:St)(w:ln):Prop:=
 ∀a,Fits N a st->LeavesInM If 0 P fn a.tmps (D8 R) ds .returning w
section
variable{P:G7}{N:Nat}{ds:List I2}{st:St}{w:ln}{fn:KP}{R:ix→ln→Prop}
theorem oS{f:IT}{c:Ir}{args:List ix}(hf:P.funcs[f]? = some fn)(hN:fn.ntmps=N)(hb:fn.body=some c)(a1:Kb args.length N=true) 
  (h:WI none P N [] c (bodyPostM If 0 P fn (D8 R)) (Ci 0 args) w):Ret P f args w R:=by
 have a0:=oE (N:=N) (args:=args) a1 (st:=Ci 0 args) fun t v hv=>by simpa using(lR args 0 t v hv).2
 have hw:=h _ a0;have h2:=callsIn_of_wp_marks (F:=If) (n:=0) (P:=P) (f:=f) (fn:=fn) (c:=c) (args:=args.toArray) (w:=w) (R:=D8 R) hf hb trivial (by rw[hN];have:Fr none=If:=rfl;rw[this]at hw;simpa using hw);refine GL (callsIn_wide.1 h2) ?_;intro e w' q
 cases e<;>exact q
theorem ka(h:Leave P N fn R ds st w):QI N ds (bodyPostM If 0 P fn (D8 R)) .ret st w:=fun a ha=>h a ha
theorem Leave.nil{v:ix}(hr:∀a:I4,Fits N a st->(results fn a.tmps).run P w=.ok v w)(h:R v w):Leave P N fn R [] st w:=fun a ha=>⟨v,hr a ha,h⟩
theorem mX(hr:fn.results = #[])(h:R (.tuple #[]) w):Leave P N fn R [] st w:=Leave.nil (fun a ha=>by simp[results,hr]) h
theorem Leave.mark{D:Nat}(hD:w.heap[D]? = some (.deferred (some [])))(h:Leave P N fn R ds st (w.putObj D (.deferred none))):Leave P N fn R ({ target:=.collected D,args:=#[] }::ds) st w:=
 fun a ha=>⟨by simp,.inl ⟨D,_,rfl,run_takeDeferred hD,h a ha⟩⟩
end
def WLI(ro:Option Nat)(P:G7)(N:Nat)(ds:List I2)(ops:Array Gv)(Q:GP->I4->ln->Prop)(l:List Gv)(st:St)(w:ln):Prop:=
 ∀a,Fits N a st->wpListIn (Fr ro) 0 P ops Q l { a with defers:=ds } w
section
variable{P:G7}{N:Nat}{ro:Option Nat}{ds:List I2}{Q:GP→I4→ln→Prop}{st:St}{w:ln}
theorem tX(i:Nat){id:Nat}{l:List Gv}(hn:ro=none\/(l.take i).all eA=true)(a0:∀a w,¬Q .outgrown a w) 
  (h:WL P N l.toArray (VL.dn ds (Exit.then (wpListIn (Fr ro) 0 P l.toArray Q (l.drop i)) Q)) (l.take i) st w):WI ro P N ds (.region id l.toArray false) Q st w:=fun a ha=>by
 rw[<-qe ha];refine wpIn_region_lit ?_;have:=ej (l.drop i) a0 (l.take i) hn a w (h a ha)
 rwa[I5]at this
theorem Dc{ops:Array Gv}{l:List Gv}{Q':GP->I4->ln->Prop}(h:WLI ro P N ds ops Q l st w):QI N ds (Exit.then (wpListIn (Fr ro) 0 P ops Q l) Q') .normal st w:=h
theorem B7{ops:Array Gv}{l:List Gv}(hn:ro=none\/l.all eA=true)(a0:∀a w,¬Q .outgrown a w)(h:WL P N ops (VL.dn ds Q) l st w):WLI ro P N ds ops Q l st w:=fun a ha=>by
 rw[<-qe ha];exact lL a0 l hn a w (h a ha)
end
def yr(O:Nat->Nat)(w:ln)(L:Nat)(I:(Nat->Nat)->ln->Prop)(Ix:Ir->(Nat->Nat)->ln->Prop):GP->I4->ln->Prop
 |.normal,_,w'=>∃O',Upd (fun j=>j≠0/\j≠L) O w O' w'/\I O' w'
 |.ret,_,w'=>∃O',Upd (fun j=>j≠0/\j≠L) O w O' w'/\Ix .ret O' w'
 |.exit id,_,w'=>∃O',Upd (fun j=>j≠0/\j≠L) O w O' w'/\Ix (.exit id) O' w'
 |_,_,_=>False
theorem Upd.putObj{O:Nat->Nat}{w:ln}{L b:Nat}(hL:L≠0)(h:O b=L)(o:Obj):Upd (fun j=>j=L) O w O (w.putObj b o):=
 ⟨rfl,rfl,rfl,by simp,fun k _ hn=>World.putObj_heap_other (fun e=>hn (by rw[e];exact h)),fun _ _=>rfl,fun _ h=>.inl h,fun e=>hL e.symm⟩
theorem gT{N:Nat}{st:St}{O:Nat->Nat}{w w':ln}{L:Nat}{I:(Nat->Nat)->ln->Prop}{Ix:Ir->(Nat->Nat)->ln->Prop}(O':Nat->Nat)(h:Upd (fun j=>j≠0/\j≠L) O w O' w')(h2:I O' w'):
 QI N [] (yr O w L I Ix) .normal st w':=fun _ _=>⟨O',h,h2⟩
theorem ui{N:Nat}{st:St}{O:Nat->Nat}{w w':ln}{L:Nat}{I:(Nat->Nat)->ln->Prop}{Ix:Ir->(Nat->Nat)->ln->Prop}(O':Nat->Nat)(h:Upd (fun j=>j≠0/\j≠L) O w O' w')(h2:Ix .ret O' w'):
 QI N [] (yr O w L I Ix) .ret st w':=fun _ _=>⟨O',h,h2⟩
structure Fixed(O:Nat->Nat)(w:ln)(q:GQ)(u:ix):Prop where
 cell:w.cell? q=some u
 free:O q.block=0
theorem Upd.zero{S:Nat->Prop}{O O':Nat->Nat}{w w':ln}(h:Upd S O w O' w'){b:Nat}(hb:b<w.heap.size)(h0:O b=0):O' b=0:=
 Gp fun a0=>by
  rcases h.new b a0 with h1|h1
  ·exact h1 h0
  omega
theorem Fixed.upd{S:Nat->Prop}{O O':Nat->Nat}{w w':ln}{q:GQ}{u:ix}(h:Fixed O w q u)(k:Upd S O w O' w'):Fixed O' w' q u:=by
 have a0:=IC w q h.cell;have hb:=k.blk q.block a0 (by rw[h.free];exact k.z);refine⟨?_,k.zero a0 h.free⟩;have:=h.cell;unfold KF at this ⊢;rw[hb];exact this
end
end Go.VL
section
namespace Go.VL
open Go.Proofs.Tryz
open Go.RowKit
section
variable{P:G7}{N:Nat}{ops:Array Gv}{Q:GP→I4→ln→Prop}{rest:List Gv}{st:St}{w:ln}
variable{t:G0}{p:String}{e:Array Iq}{d:Nat}{x y z:G4}
theorem RV.ext{f:IT}{args:List G4}{a1:Array G0}{vs:List ix}{v:ix}(hr:(callFunc f vs.toArray).run P w=.ok (.value v) w)(a0:evs st args=some vs):
 RV P N (.call ⟨.value (.func f),args.toArray,a1⟩) t st w v:=fun a ha a2 p e g=>by
 simp only[execOp,resolve,I9,G9];rw[ha.evs a0];simp[IA,invoke,hr]
end
section
variable{P:G7}{N:Nat}{ops:Array Gv}{Q:GP→I4→ln→Prop}{rest:List Gv}{st:St}{w:ln}
variable{t:G0}{p:String}{e:Array Iq}{d:Nat}{x y z:G4}
theorem ql{T E:G0}{len sz:Nat}{k:G8}{i:Int}{q:GQ}(hu:P.underlying T=some (.array len E))(hE:(GO E).run P w=.ok sz w) 
  (hx:ev st x=some (.pointer (some q))) (hy:ev st y=some (.int k i)) (n:Nat) (hi:i=n) (hn:n<len):RV P N (.indexAddr T x y) t st w (.pointer (some (q.add (n*sz)))):=
 fun a ha a0 p e g=>by
  subst hi;have h2:((n:Int)<(len:Int)):=zo;simp only[execOp,ha.ev hx,ha.ev hy];simp[Jo,GV,asIntOf,run_underlying hu,hE];intro h3;omega
theorem iP{T E:G0}{len:Nat}{k:G8}{i:Int}{q:GQ}(hu:P.underlying T=some (.array len E))(hE:(GO E).run P w=.ok 1 w) 
  (hx:ev st x=some (.pointer (some q))) (hy:ev st y=some (.int k i)) (n:Nat) (hi:i=n) (hn:n<len):RV P N (.indexAddr T x y) t st w (.pointer (some (q.add n))):=by
 have h:=ql (N:=N) (t:=t) hu hE hx hy n hi hn
 rwa[IS]at h
theorem aY{xt:G0}{a:List UInt8}{k:G8}{m:Int}{c:UInt8}(hT:P.underlying xt=some .string)(hx:ev st x=some (.string (bs a)))(hy:ev st y=some (.int k m))(i:Nat)(hm:m=i)(hi:a[i]? = some c):RV P N (.index xt x y) t st w (.int .u8 (c.toNat:Int)):=by
 obtain⟨h1,h2⟩:=GE.1 hi;have h:=Av (P:=P) (N:=N) (t:=t) (w:=w) hT hx hy i hm h1;rw[aB h1,h2]at h;exact h
theorem du{T E:G0}{n sz:Nat}{parts:List (Nat×G4)}{vs:List (Nat×ix)}{z:ix}{cells:Array ix}(hu:P.underlying T=some (.array n E))(hE:(GO E).run P w=.ok sz w)(hz:(Is T).run P w=.ok z w) 
  (hv:evp st parts=some vs) (hf:Iy (fun i=>some (i*sz,sz)) z.cells vs=some cells):RV P N (.build T parts.toArray) t st w (.agg cells):=
 fun a ha a0 p e g=>by
  have h1:=ha.evp hv;have e1:(Jn (fun x:Nat×G4=>match x with|(i,x)=>(i,a.eval x)) parts)=vs:=by rw[<-h1]
  simp only[execOp,KI,G9,e1,G6,hz,G2,run_underlying hu,hE,hf,GA]
theorem ud{T E:G0}{n sz:Nat}{q:GQ}(hu:P.underlying T=some (.array n E))(hE:(GO E).run P w=.ok sz w)(_:n≠0)(hx:ev st x=some (.pointer (some q))):RV P N (.slice T x none none none) t st w (.slice (some q) n n):=
 fun a ha a0 p e g=>by
  simp only[execOp,ha.ev hx,GX];simp[Instr.sliceAt,Instr.sliceBounds,GV,run_underlying hu,hE,GH]
end
abbrev mG(b:UInt8):List ix:=[.int .u8 (b.toNat:Int)]
section
variable{P:G7}{N:Nat}{st:St}{w:ln}{fn:KP}{R:ix→ln→Prop}
theorem bX{t u o:KX}{T:G0}{q:GQ}{us:List ix}{v' v2:ix}(hr:fn.results = #[.cell t T,.tmp u,.tmp o])(hv:bV st t=some (.pointer (some q)))(a1:bV st u=some v')(a0:bV st o=some v2) 
  (hc:∀j u,us[j]? = some u->w.cell? (q.add j)=some u) (hT:(Kj T).run P w=.ok true w) (hn:(GO T).run P w=.ok us.length w) (h:R (.tuple #[.agg us.toArray,v',v2]) w):QF N (RP P fn R) .ret st w:=fun a ha=>
 ⟨ha.defers,_,by have h1:=ha.get _ _ hv;have h2:=ha.get _ _ a1;have h3:=ha.get _ _ a0;simp[results,hr,G5,h1,h2,h3,asAddr,cY hc hT hn],h⟩
end
end Go.VL
namespace Go.VL
open Go.Proofs.Tryz
section
variable{P:G7}{N:Nat}{ops:Array Gv}{Q:GP→I4→ln→Prop}{rest:List Gv}{st:St}{w:ln}
variable{t:G0}{p:String}{e:Array Iq}{d:Nat}{x y z:G4}
theorem aM{T E:G0}{sz a0:Nat}(he:Elem P T E sz a0){α:Type}{enc:α->List ix}(u:α){xv:ix}(hx:ev st x=some xv)(a2:xv.cells.toList=enc u)(a4:(enc u).length=sz)(hs:sz<=16777216)(hd:G1 d N=true) 
  (h:∀w',Sl enc sz w' (.slice (some ⟨w.heap.size,0,none⟩) 1 1) [u]->Ext w w'->WL P N ops Q rest ((d,.slice (some ⟨w.heap.size,0,none⟩) 1 1)::st) w'):WL P N ops Q (⟨some d,.buildSlice T 1 #[(0,x)],t,p,e,none⟩::rest) st w:=by
 obtain⟨a3,z,hi,hz,a1,a8,a7⟩:=he.parts;have a6:xv.cells.size=sz:=by rw[<-a4,<-a2];simp
 have a5:=he.pos;refine WL.val (v:=.slice (some ⟨w.heap.size,0,none⟩) 1 1) (w':=w.alloc (.cells xv.cells E)) hd (fun a ha=>?_) (h _ ⟨⟨_,1,rfl,GD _,by simp,fun _=>⟨_,_,rfl⟩⟩,fun i hi j c hc=>?_⟩ (Ext.alloc _ _))
 ·have:=run_buildSlice (P:=P) w T E 1 #[(0,xv)] xv.cells a3 z he.ht hi hz (by rw[a1];omega) (by rw[a1];omega) (by
   rw[a1]
   exact jN a6 (by simp))
  simp only[execOp,G9,Gu,GJ,ha.ev hx,G6,this,G2];rfl
 obtain rfl:i=0:=by simpa using hi
 simp only[Ju]at hc;simp only[adr,J8,JB];rw[show((⟨w.heap.size,0,none⟩:GQ).add j)=⟨w.heap.size,j,none⟩from by simp only[GH];split<;>simp_all,cell_of_row _ _ j xv.cells E (0,0) (heap_alloc_new w _)];rw[<-a2]at hc;simpa using hc
end
end Go.VL
end
section
namespace Go.VL
open Go.Proofs.Tryz
theorem Free.weak{O O':Nat->Nat}{w:ln}{v:ix}(h:Free O' w v)(k:∀b,O' b=0->O b=0):Free O w v:=fun a n c e hn=>⟨k _ (h a n c e hn).1,(h a n c e hn).2⟩
theorem Upd.z0{S:Nat->Prop}{O O':Nat->Nat}{w w':ln}(h:Upd S O w O' w')(b:Nat)(e:O' b=0):O b=0:=
 Gp fun a0=>by have:=h.tag b a0;omega
theorem Rng.bound{B:Nat}{O:Nat->Nat}{w:ln}(r:Rng B O w):∃T,0<T/\∀b,O b<T:=by
 have h:∀n,∃T,0<T/\∀b,b<n->O b<T:=fun n=>by
  induction n with
  |zero=>exact⟨1,zo,fun b hb=>zo⟩
  |succ n ih=>
   obtain⟨T,h0,hT⟩:=ih;refine⟨T+O n+1,zo,fun b hb=>?_⟩
   by_cases e:b=n
   ·subst e;omega
   have:=hT b (zo);omega
 obtain⟨T,h0,hT⟩:=h w.heap.size;refine⟨T,h0,fun b=>?_⟩
 by_cases e:O b=0
 ·omega
 exact hT b (r.rng b e).2
theorem Upd.fgt{S S':Nat->Prop}{O O2:Nat->Nat}{w w':ln}(h:Upd S O w O2 w')(hS:∀b,S (O b)->S' (O b))(hz:¬S' 0):Upd S' O w O w':=
 ⟨h.os,h.tape,h.output,h.size,fun b hb hn=>h.blk b hb fun hs=>hn (hS b hs),fun _ _=>rfl,fun _ h=>.inl h,hz⟩
theorem BlkO.fgt{O O2:Nat->Nat}{w:ln}{i j b:Nat}{cs:Array ix}{E:G0}(h:BlkO O2 w j b cs E)(ho:O b=i):BlkO O w i b cs E:=⟨h.blk,ho⟩
theorem RowT.freeT{α:Type}{enc:α->List ix}{E:G0}{sz:Nat}{S:Nat->Prop}{O O':Nat->Nat}{w w':ln}{T:Nat}{v:ix}{l:List α}(h:RowT enc E sz O' w' T v l)(a1:0<T)(hT:∀b,O b<T){B:Nat}(r:Rng B O' w')(u:Upd S O w O' w'):Free O w' v:=fun a n c e _=>by
 have h1:=h.1.tag a.block (by subst e;rfl);have h2:=r.rng a.block (by rw[h1];omega);refine⟨Gp fun a0=>?_,h2.2⟩;have:=u.tag _ a0;have:=hT a.block;omega
end Go.VL
namespace Go.Proofs.YtpfpmhhigheccaaGreatDoor
open Go.Proofs.Tryz
open Go.VL Go.Proofs
inductive Nd where|mk(k c:Int)(kids:List Nd)
instance:Inhabited Nd:=⟨.mk 0 0 []⟩
def Nd.kind:Nd->Int | .mk k _ _=>k
def Nd.cls:Nd->Int | .mk _ c _=>c
def Nd.kids:Nd->List Nd | .mk _ _ l=>l
mutual
def nsz:Nd->Nat | .mk _ _ l=>dZ l+1
def dZ:List Nd->Nat | []=>0|t::r=>nsz t+dZ r
end
theorem dX(t:Nd):0<nsz t:=by cases t;simp[nsz]
theorem cB:∀(l:List Nd) (i:Nat),i<l.length->nsz (nth l i)<=dZ l
 |t::r,0,_=>by rw[au];simp[dZ]
 |t::r,i+1,h=>by rw[bp];have:=cB r i (by simpa using h);simp only[dZ];omega
theorem iW:∀(a b:List Nd),dZ (a++b)=dZ a+dZ b
 |[],b=>by simp[dZ]
 |t::a,b=>by simp only[GW,dZ];rw[iW a b];omega
theorem cH(l:List Nd)(i:Nat):dZ (l.take i)<=dZ l:=by
 conv=>rhs;rw[<-I5 i l]
 rw[iW];omega
theorem dY(l:List Nd)(i:Nat)(h:i<l.length):dZ (l.take (i+1))=dZ (l.take i)+nsz (nth l i):=by
 rw[aF h,iW];simp[dZ]
theorem ij:∀(l:List Nd),l.length<=dZ l
 |[]=>by simp
 |t::r=>by have:=ij r;have:=dX t;simp only[dZ,Ib];omega
abbrev N3:=Int×Int×ix
@[simp] def bn(x:N3):List ix:=[nI x.1,nI x.2.1,x.2.2]
inductive Nt(O:Nat->Nat)(w:ln):Nd->N3->Prop
 |mk {k c:Int} {kids:List Nd} {v:ix} {xs:List N3}:Sl bn 3 w v xs->Free O w v->kids.length=xs.length->(∀i,i<xs.length->Nt O w (nth kids i) (nth xs i))->Nt O w (.mk k c kids) (k,c,v)
theorem Nt.upd{S:Nat->Prop}{O O':Nat->Nat}{w w':ln}{t:Nd}{x:N3}(h:Nt O w t x)(u:Upd S O w O' w'):Nt O' w' t x:=by
 induction h with
 |mk hs hf hl _ ih=>exact .mk (hs.upd hf u) (hf.upd u) hl ih
theorem Nt.drew{O:Nat->Nat}{w:ln}{t:Nd}{x:N3}(h:Nt O w t x):Nt O w.drew t x:=h.upd (aa (S:=fun _=>False) (fun h=>h) O (Ext.refl w).drew)
theorem Nt.ext{O:Nat->Nat}{w w':ln}{t:Nd}{x:N3}(h:Nt O w t x)(e:Ext w w'):Nt O w' t x:=h.upd (aa (S:=fun _=>False) (fun h=>h) O e)
theorem Nt.weak{O O':Nat->Nat}{w:ln}{t:Nd}{x:N3}(h:Nt O' w t x)(k:∀b,O' b=0->O b=0):Nt O w t x:=by
 induction h with
 |mk hs hf hl _ ih=>exact .mk hs (hf.weak k) hl ih
theorem Nt.low{S:Nat->Prop}{O O':Nat->Nat}{w w0 w':ln}{t:Nd}{x:N3}(h:Nt O' w' t x)(u:Upd S O w O' w0):Nt O w' t x:=h.weak u.z0
theorem Nt.zero{O:Nat->Nat}{w:ln}{t:Nd}{x:N3}(h:Nt O w t x):Nt (fun _=>0) w t x:=h.weak fun _ _=>rfl
theorem Nt.one{O:Nat->Nat}{w:ln}{t:Nd}{x:N3}(h:Nt O w t x):x.2.2.oneCell'=true:=by cases h with|mk hs=>exact hs.one
theorem Nt.leaf(O:Nat->Nat)(w:ln)(k c:Int):Nt O w (.mk k c []) (k,c,nS):=
 .mk (xs:=[]) ⟨⟨none,0,rfl,GD _,zo,fun h=>absurd rfl h⟩,fun i hi=>absurd hi (by simp)⟩ (fun a n c e=>by cases e) rfl (fun i hi=>absurd hi (by simp))
theorem Nt.kind{O:Nat->Nat}{w:ln}{t:Nd}{x:N3}(h:Nt O w t x):x.1=t.kind:=by cases h;rfl
theorem Nt.kids{O:Nat->Nat}{w:ln}{t:Nd}{x:N3}(h:Nt O w t x):∃xs:List N3,Sl bn 3 w x.2.2 xs/\Free O w x.2.2/\t.kids.length=xs.length/\∀i,i<xs.length->Nt O w (nth t.kids i) (nth xs i):=by
 cases h with|mk hs hf hl hk=>exact⟨_,hs,hf,hl,hk⟩
def ai(b:UInt8):Bool:=(decide (65<=b.toNat)&&decide (b.toNat<=90))||(decide (97<=b.toNat)&&decide (b.toNat<=122))
def ak(r:List UInt8):List UInt8:=r.dropWhile (· == 32)
def namesL:List (List UInt8):=[[79,116,104,101,114],[67,82],[76,70],[78,101,119,108,105,110,101],[67,111,110,116,114,111,108],[69,120,116,101,110,100],[90,87,74],[70,111,114,109,97,116],[82,101,103,105,111,110,97,108],[80,114,101,112,101,110,100],[83,112,97,99,105,110,103],[76],[86],[84],[76,86],[76,86,84],[80,105,99,116],[85,112,112,101,114],[76,111,119,101,114],[76,101,116,116,101,114],[75,97,116,97,107,97,110,97],[73,100,101,111,103,114,97,112,104],[68,105,103,105,116],[77,105,100,76,101,116,116,101,114],[77,105,100,78,117,109],[68,111,116],[65,112,111,115,116,114,111,112,104,101],[81,117,111,116,101],[74,111,105,110,101,114],[83,112,97,99,101],[84,101,114,109],[79,112,101,110],[67,108,111,115,101],[72,121,112,104,101,110],[71,108,117,101],[71,97,112]]
def yI(s:List UInt8):Option Nat:=namesL.findIdx? (· == s)
inductive PR where
 |ok (t:Nd) (r:List UInt8)
 |bad (p:Nat) (e:Int)
def di(kind:Int)(r0:List UInt8):PR:=
 if ai ((ak r0).headD 0)=true then
  match yI ((ak r0).takeWhile ai)with
  |none=>.bad (ak r0).length 5
  |some c=>.ok (.mk kind (c:Nat) []) ((ak r0).dropWhile ai)
 else .bad (ak r0).length 4
def DJ(r:List UInt8):PR:=if r.takeWhile ai=[97,110,121]then .ok (.mk 1 0 []) (r.dropWhile ai)else di 0 r
def bO(al:Option (List UInt8->PR))(r:List UInt8):PR:=
 match al with
 |none=>.bad r.length 6
 |some f=>
  match f r.tail with
  |.bad p e=>.bad p e
  |.ok t r2=>if(ak r2).headD 0=41 then .ok t (ak r2).tail else .bad (ak r2).length 4
def FG(al:Option (List UInt8->PR))(r0:List UInt8):PR:=
 if ai ((ak r0).headD 0)=true then DJ (ak r0)
 else if(ak r0).headD 0=126 then di 2 (ak r0).tail
 else if(ak r0).headD 0=94 then .ok (.mk 3 0 []) (ak r0).tail
 else if(ak r0).headD 0=40 then bO al (ak r0)
 else .bad (ak r0).length 4
def opM(c:UInt8):Option Nat:=if c=42 then some 0 else if c=43 then some 1 else if c=63 then some 2 else none
def BT(al:Option (List UInt8->PR))(r0:List UInt8):PR:=
 match FG al r0 with
 |.bad p e=>.bad p e
 |.ok t r1=>
  match opM ((ak r1).headD 0)with
  |some k=>.ok (.mk (6+(k:Nat)) 0 [t]) (ak r1).tail
  |none=>.ok t (ak r1)
def eC(c:UInt8):Bool:=ai c||decide (c=126)||decide (c=94)||decide (c=40)
def oneM(k:Int)(l:List Nd):Nd:=if l.length=1 then nth l 0 else .mk k 0 l
def yj(al:Option (List UInt8->PR)):Nat->List Nd->List UInt8->PR
 |0,acc,r=>.ok (oneM 4 acc) r
 |n+1,acc,r=>
  if eC ((ak r).headD 0)=true then
   match BT al (ak r)with
   |.bad p e=>.bad p e
   |.ok t r2=>yj al n (acc++[t]) r2
  else .ok (oneM 4 acc) (ak r)
def FU(al:Option (List UInt8->PR))(r:List UInt8):PR:=
 match BT al r with
 |.bad p e=>.bad p e
 |.ok t r1=>yj al (r1.length+1) [t] r1
def vj(al:Option (List UInt8->PR)):Nat->List Nd->List UInt8->PR
 |0,acc,r=>.ok (oneM 5 acc) r
 |n+1,acc,r=>
  if(ak r).headD 0=124 then
   match FU al (ak r).tail with
   |.bad p e=>.bad p e
   |.ok t r2=>vj al n (acc++[t]) r2
  else .ok (oneM 5 acc) (ak r)
def DU(al:Option (List UInt8->PR))(r:List UInt8):PR:=
 match FU al r with
 |.bad p e=>.bad p e
 |.ok t r1=>vj al (r1.length+1) [t] r1
def DT:Nat->List UInt8->PR
 |0=>DU none
 |d+1=>DU (some (DT d))
inductive XR where
 |ok (t:Nd)
 |bad (p:Nat) (e:Int)
def FC(l:List UInt8):XR:=
 if 4096<l.length then .bad 0 3 else
 match DT 20 l with
 |.bad p e=>.bad (l.length-p) e
 |.ok t r=>if(ak r).length≠0 then .bad (l.length-(ak r).length) 4 else if 2000<nsz t then .bad 0 3 else .ok t
def Good(r:List UInt8):PR->Prop
 |.ok _ r'=>r' <:+ r/\r'.length<r.length
 |.bad p e=>p<=r.length/\e≠0
theorem aT(r:List UInt8):ak r <:+ r:=IP _
theorem cU(r:List UInt8):(ak r).length<=r.length:=(aT r).length_le
theorem bN{r:List UInt8}(h:r.headD 0≠0):r.tail <:+ r/\r.tail.length+1=r.length:=by
 cases r with
 |nil=>simp at h
 |cons a r=>exact⟨Kc a r,rfl⟩
theorem Good.mono{r r':List UInt8}{x:PR}(h:Good r' x)(k:r' <:+ r):Good r x:=by
 have hl:=k.length_le
 cases x with
 |ok t q=>exact⟨h.1.trans k,by have:=h.2;omega⟩
 |bad p e=>exact⟨I1 h.1 hl,h.2⟩
theorem iX{r:List UInt8}(h:ai (r.headD 0)=true):r.dropWhile ai <:+ r/\(r.dropWhile ai).length<r.length:=by
 cases r with
 |nil=>simp[ai]at h
 |cons a r=>
  simp only[List.headD_cons]at h;rw[List.dropWhile_cons_of_pos h];exact⟨(IP _).trans (Kc a r),by have:=(IP (l:=r) ai).length_le;simp;omega⟩
theorem mJ(k:Int)(r:List UInt8):Good r (di k r):=by
 refine Good.mono ?_ (aT r);unfold di
 split
 ·rename_i h
  split
  ·exact⟨GD _,zd⟩
  exact iX h
 exact⟨GD _,zd⟩
def lE(al:Option (List UInt8->PR)):Prop:=∀f,al=some f->∀r,Good r (f r)
theorem nL{al:Option (List UInt8->PR)}(ha:lE al)(r:List UInt8)(h:r.headD 0≠0):Good r (bO al r):=by
 obtain⟨h1,h2⟩:=bN h;unfold bO
 cases al with
 |none=>exact⟨GD _,zd⟩
 |some f=>
  have h3:=(ha f rfl r.tail).mono h1;have h4:=ha f rfl r.tail;dsimp only
  cases hf:f r.tail with
  |bad p e=>rw[hf]at h3;exact h3
  |ok t r2=>
   rw[hf]at h3 h4;dsimp only
   split
   ·rename_i hc;obtain⟨g1,g2⟩:=bN (r:=ak r2) (by rw[hc];decide);exact⟨(g1.trans (aT r2)).trans h3.1,by have:=cU r2;have:=h3.2;omega⟩
   exact⟨by have:=cU r2;have:=h3.2;omega,zd⟩
theorem BR{c:UInt8}{k:Nat}(h:opM c=some k):c≠0:=fun e=>by subst e;simp[opM]at h
def D5(r:List UInt8):PR->Prop
 |.ok _ r'=>r' <:+ r
 |.bad p e=>p<=r.length/\e≠0
end Go.Proofs.YtpfpmhhigheccaaGreatDoor
end
namespace Go.Proofs.YtpfpmhhigheccaaGreatDoor
open Go.Proofs.Tryz
section
open Go.VL Go.Proofs
set_option maxRecDepth 10000
abbrev Lf:=Int×Int×Nat
abbrev Kt:=List Nat×List Nat×Nat
structure Gr where
 ls:List Lf
 ks:List Kt
def Gr.fr(g:Gr)(k:Nat):List Nat:=(nth g.ks k).1
def Gr.lv(g:Gr)(k:Nat):List Nat:=(nth g.ks k).2.1
def Gr.en(g:Gr)(k:Nat):Nat:=(nth g.ks k).2.2
def Gr.knot(g:Gr):Gr:=⟨g.ls,g.ks++[([],[],0)]⟩
def Gr.free(g:Gr)(a b:Nat):Gr:=⟨g.ls,g.ks.set a (g.fr a++[b],g.lv a,g.en a)⟩
def Gr.leaf(g:Gr)(k c:Int)(a b:Nat):Gr:=⟨g.ls++[(k,c,b)],g.ks.set a (g.fr a,g.lv a++[g.ls.length+1],g.en a)⟩
def cQ(k c m:Int):Bool:=
 if k=0 then(decide (0<=m)&&decide (m<36))&&(m==c)else if k=1 then decide (0<=m)&&decide (m<36)else if k=2 then(decide (0<=m)&&decide (m<36))&&(m != c)else m==36
def layO(k:Int)(g:Gr)(i:Nat):Gr:=if k=8 then(if k=7 then g else g.free i (i+1))else(if k=7 then g else g.free i (i+1)).free (i+1) i
mutual
def fe:Nd->Nat->Nat->Gr->Gr
 |.mk k c l,a,b,g=>
  if k=4 then nc l a b g
  else if k=5 then nf l a b g
  else if k=6\/k=7\/k=8 then layO k (ou l g.ks.length (g.ks.length+1) ((g.knot.knot.free a g.ks.length).free (g.ks.length+1) b)) g.ks.length
  else if k=9 then g.free a b
  else g.leaf k c a b
def nc:List Nd->Nat->Nat->Gr->Gr
 |[],_,_,g=>g
 |t::r,a,b,g=>if r.isEmpty then fe t a b g else nc r g.ks.length b (fe t a g.ks.length g.knot)
def nf:List Nd->Nat->Nat->Gr->Gr
 |[],_,_,g=>g
 |t::r,a,b,g=>nf r a b (fe t a b g)
def ou:List Nd->Nat->Nat->Gr->Gr
 |[],_,_,g=>g
 |t::_,a,b,g=>fe t a b g
end
inductive StarP(L:List Int->Prop):List Int->Prop
 |nil:StarP L []
 |cons {u v:List Int}:L u->StarP L v->StarP L (u++v)
mutual
/-- Which words an expression matches. -/
def Lg:Nd->List Int->Prop
 |.mk k c l=>fun w=>
  if k=4 then LgS l w
  else if k=5 then LgA l w
  else if k=6 then StarP (LgH l) w
  else if k=7 then∃u v,w=u++v/\LgH l u/\StarP (LgH l) v
  else if k=8 then w=[]\/LgH l w
  else if k=9 then w=[]
  else∃m,w=[m]/\cQ k c m=true
def LgS:List Nd->List Int->Prop
 |[]=>fun w=>w=[]
 |t::r=>fun w=>∃u v,w=u++v/\Lg t u/\LgS r v
def LgA:List Nd->List Int->Prop
 |[]=>fun _=>False
 |t::r=>fun w=>Lg t w\/LgA r w
def LgH:List Nd->List Int->Prop
 |[]=>fun _=>False
 |t::_=>Lg t
end
mutual
/-- Expressions whose parts are as many as they must. -/
def gp:Nd->Bool
 |.mk k _ l=>(if k=4 then !l.isEmpty else if k=6\/k=7\/k=8 then decide (l.length=1)else true)&&dB l
def dB:List Nd->Bool
 |[]=>true
 |t::r=>gp t&&dB r
end
inductive Pt(g:Gr):Nat->List Int->Nat->Prop
 |nil (k:Nat):Pt g k [] k
 |eps {k k' q:Nat} {w:List Int}:k<g.ks.length->k'∈g.fr k->Pt g k' w q->Pt g k w q
 |leaf {k j q:Nat} {m:Int} {w:List Int}:k<g.ks.length->j<g.ls.length->j+1∈g.lv k->cQ (nth g.ls j).1 (nth g.ls j).2.1 m=true->Pt g (nth g.ls j).2.2 w q->Pt g k (m::w) q
theorem Pt.trans{g:Gr}{a b c:Nat}{u v:List Int}(h:Pt g a u b)(k:Pt g b v c):Pt g a (u++v) c:=by
 induction h with
 |nil=>exact k
 |eps h1 h2 _ ih=>exact .eps h1 h2 (ih k)
 |leaf h1 h2 h3 h4 _ ih=>exact .leaf h1 h2 h3 h4 (ih k)
structure Sub(g g':Gr):Prop where
 len:g.ks.length<=g'.ks.length
 ls:∃r,g'.ls=g.ls++r
 fr:∀k j,k<g.ks.length->j∈g.fr k->j∈g'.fr k
 lv:∀k j,k<g.ks.length->j∈g.lv k->j∈g'.lv k
theorem Sub.refl(g:Gr):Sub g g:=⟨GD _,⟨[],by simp⟩,fun _ _ _ h=>h,fun _ _ _ h=>h⟩
theorem Sub.trans{a b c:Gr}(h:Sub a b)(k:Sub b c):Sub a c:=by
 obtain⟨r,hr⟩:=h.ls;obtain⟨s,hs⟩:=k.ls;exact⟨I1 h.len k.len,⟨r++s,by rw[hs,hr,Gy]⟩,fun q j hq hj=>k.fr q j (GG hq h.len) (h.fr q j hq hj),fun q j hq hj=>k.lv q j (GG hq h.len) (h.lv q j hq hj)⟩
theorem aH(g:Gr):g.knot.ks.length=g.ks.length+1:=by simp[Gr.knot]
theorem aW(g:Gr)(a b:Nat):(g.free a b).ks.length=g.ks.length:=by simp[Gr.free]
theorem im(g:Gr)(k c:Int)(a b:Nat):(g.leaf k c a b).ks.length=g.ks.length:=by simp[Gr.leaf]
theorem pN(g:Gr)(k:Nat):nth g.knot.ks k=if k<g.ks.length then nth g.ks k else([],[],0):=by
 unfold Gr.knot;rw[ay]
 split
 ·rfl
 by_cases h:k-g.ks.length=0
 ·rw[h,au]
 rw[dW (by simp;omega)];rfl
theorem mB(g:Gr)(k:Nat):g.knot.fr k=if k<g.ks.length then g.fr k else []:=by unfold Gr.fr;rw[pN];split<;>rfl
theorem mA(g:Gr)(k:Nat):g.knot.lv k=if k<g.ks.length then g.lv k else []:=by unfold Gr.lv;rw[pN];split<;>rfl
theorem mE{g:Gr}{a b:Nat}(ha:a<g.ks.length)(k:Nat):(g.free a b).fr k=if k=a then g.fr a++[b]else g.fr k:=by
 unfold Gr.free Gr.fr;rw[aP ha];split<;>rfl
theorem mD{g:Gr}{a b:Nat}(ha:a<g.ks.length)(k:Nat):(g.free a b).lv k=g.lv k:=by
 unfold Gr.free Gr.lv;rw[aP ha];split
 ·rename_i h;rw[h]
 rfl
theorem mr{g:Gr}{x c:Int}{a b:Nat}(ha:a<g.ks.length)(k:Nat):(g.leaf x c a b).fr k=g.fr k:=by
 unfold Gr.leaf Gr.fr;rw[aP ha];split
 ·rename_i h;rw[h]
 rfl
theorem mo{g:Gr}{x c:Int}{a b:Nat}(ha:a<g.ks.length)(k:Nat):(g.leaf x c a b).lv k=if k=a then g.lv a++[g.ls.length+1]else g.lv k:=by
 unfold Gr.leaf Gr.lv;rw[aP ha];split<;>rfl
theorem mq(g:Gr)(x c:Int)(a b:Nat):(g.leaf x c a b).ls=g.ls++[(x,c,b)]:=rfl
theorem jI(g:Gr):Sub g g.knot:=⟨by rw[aH];omega,⟨[],by simp[Gr.knot]⟩,fun k j hk h=>by rw[mB,if_pos hk];exact h,fun k j hk h=>by rw[mA,if_pos hk];exact h⟩
theorem ey{g:Gr}{a b:Nat}(ha:a<g.ks.length):Sub g (g.free a b):=⟨by rw[aW];omega,⟨[],by simp[Gr.free]⟩,fun k j _ h=>by
 rw[mE ha];split
 ·rename_i e;subst e;exact JF _ h
 exact h,fun k j _ h=>by rw[mD ha];exact h⟩
theorem Bb{g:Gr}{x c:Int}{a b:Nat}(ha:a<g.ks.length):Sub g (g.leaf x c a b):=⟨by rw[im];omega,⟨_,rfl⟩,fun k j _ h=>by rw[mr ha];exact h,fun k j _ h=>by
 rw[mo ha];split
 ·rename_i e;subst e;exact JF _ h
 exact h⟩
structure WF(g:Gr):Prop where
 fr:∀k j,k<g.ks.length->j∈g.fr k->j<g.ks.length
 lv:∀k j,k<g.ks.length->j∈g.lv k->1<=j/\j<=g.ls.length
 ls:∀j,j<g.ls.length->(nth g.ls j).2.2<g.ks.length
theorem WF.knot{g:Gr}(h:WF g):WF g.knot:=by
 have hl:=aH g;refine⟨fun k j hk hj=>?_,fun k j hk hj=>?_,fun j hj=>?_⟩
 ·rw[mB]at hj
  split at hj
  ·rename_i e;have:=h.fr k j e hj;omega
  simp at hj
 ·rw[mA]at hj
  split at hj
  ·rename_i e;exact h.lv k j e hj
  simp at hj
 have:=h.ls j hj;show(nth g.ls j).2.2<_;omega
theorem WF.free{g:Gr}(h:WF g){a b:Nat}(ha:a<g.ks.length)(hb:b<g.ks.length):WF (g.free a b):=by
 have hl:=aW g a b;refine⟨fun k j hk hj=>?_,fun k j hk hj=>?_,fun j hj=>?_⟩
 ·rw[hl]at hk ⊢;rw[mE ha]at hj
  split at hj
  ·rcases GC.1 hj with hj|hj
   ·exact h.fr a j ha hj
   rw[Gs.1 hj];exact hb
  exact h.fr k j hk hj
 ·rw[hl]at hk;rw[mD ha]at hj;exact h.lv k j hk hj
 rw[hl];exact h.ls j hj
theorem WF.leaf{g:Gr}(h:WF g){x c:Int}{a b:Nat}(ha:a<g.ks.length)(hb:b<g.ks.length):WF (g.leaf x c a b):=by
 have hl:=im g x c a b;have h2:(g.leaf x c a b).ls.length=g.ls.length+1:=by simp[Gr.leaf]
 refine⟨fun k j hk hj=>?_,fun k j hk hj=>?_,fun j hj=>?_⟩
 ·rw[hl]at hk ⊢;rw[mr ha]at hj;exact h.fr k j hk hj
 ·rw[hl]at hk;rw[h2];rw[mo ha]at hj
  split at hj
  ·rcases GC.1 hj with hj|hj
   ·have:=h.lv a j ha hj;omega
   rw[Gs.1 hj];omega
  have:=h.lv k j hk hj;omega
 rw[hl,mq,ay]
 split
 ·rename_i e;exact h.ls j e
 rw[h2]at hj;rw[show j-g.ls.length=0 from by omega,au];exact hb
theorem CP{k:Int}{g:Gr}{i:Nat}(h:WF g)(hi:i+1<g.ks.length):WF (layO k g i):=by
 unfold layO;split<;>split
 ·exact h
 ·exact h.free zo hi
 ·exact h.free hi zo
 exact(h.free zo hi).free (by rw[aW];exact hi) (by rw[aW];omega)
theorem Bf{k:Int}{g:Gr}{i:Nat}(hi:i+1<g.ks.length):Sub g (layO k g i):=by
 unfold layO;split<;>split
 ·exact Sub.refl _
 ·exact ey zo
 ·exact ey hi
 exact(ey zo).trans (ey (by rw[aW];exact hi))
def bK(g:Gr)(a b:Nat):Gr:=(g.knot.knot.free a g.ks.length).free (g.ks.length+1) b
theorem dO(g:Gr)(a b:Nat):(bK g a b).ks.length=g.ks.length+2:=by unfold bK;rw[aW,aW,aH,aH]
theorem eL{g:Gr}(h:WF g){a b:Nat}(ha:a<g.ks.length)(hb:b<g.ks.length):WF (bK g a b):=by
 have h2:g.knot.knot.ks.length=g.ks.length+2:=by rw[aH,aH]
 exact(h.knot.knot.free zo zo).free (by rw[aW];omega) (by rw[aW];omega)
theorem vK{g:Gr}{a b:Nat}(ha:a<g.ks.length):Sub g (bK g a b):=by
 have h2:g.knot.knot.ks.length=g.ks.length+2:=by rw[aH,aH]
 exact(((jI g).trans (jI _)).trans (ey zo)).trans (ey (by rw[aW];omega))
mutual
theorem cp:∀(t:Nd) (a b:Nat) (g:Gr),WF g->a<g.ks.length->b<g.ks.length->WF (fe t a b g)/\Sub g (fe t a b g)
 |.mk k c l,a,b,g,h,ha,hb=>by
  unfold fe
  split
  ·exact zb l a b g h ha hb
  split
  ·exact zl l a b g h ha hb
  split
  ·have hl:=dO g a b
   obtain⟨h1,h2⟩:=mx l g.ks.length (g.ks.length+1) (bK g a b) (eL h ha hb) zo zo
   have:=h2.len
   show WF (layO k (ou l g.ks.length (g.ks.length+1) (bK g a b)) g.ks.length)/\Sub g (layO k (ou l g.ks.length (g.ks.length+1) (bK g a b)) g.ks.length)
   exact⟨CP h1 zo,((vK ha).trans h2).trans (Bf zo)⟩
  split
  ·exact⟨h.free ha hb,ey ha⟩
  exact⟨h.leaf ha hb,Bb ha⟩
theorem zb:∀(l:List Nd) (a b:Nat) (g:Gr),WF g->a<g.ks.length->b<g.ks.length->WF (nc l a b g)/\Sub g (nc l a b g)
 |[],_,_,g,h,_,_=>⟨h,Sub.refl g⟩
 |t::r,a,b,g,h,ha,hb=>by
  unfold nc
  split
  ·exact cp t a b g h ha hb
  have hl:=aH g
  obtain⟨h1,h2⟩:=cp t a g.ks.length g.knot h.knot zo zo
  have:=h2.len
  obtain⟨h3,h4⟩:=zb r g.ks.length b _ h1 zo zo
  exact⟨h3,((jI g).trans h2).trans h4⟩
theorem zl:∀(l:List Nd) (a b:Nat) (g:Gr),WF g->a<g.ks.length->b<g.ks.length->WF (nf l a b g)/\Sub g (nf l a b g)
 |[],_,_,g,h,_,_=>⟨h,Sub.refl g⟩
 |t::r,a,b,g,h,ha,hb=>by
  unfold nf
  obtain⟨h1,h2⟩:=cp t a b g h ha hb
  have:=h2.len
  obtain⟨h3,h4⟩:=zl r a b _ h1 zo zo
  exact⟨h3,h2.trans h4⟩
theorem mx:∀(l:List Nd) (a b:Nat) (g:Gr),WF g->a<g.ks.length->b<g.ks.length->WF (ou l a b g)/\Sub g (ou l a b g)
 |[],_,_,g,h,_,_=>⟨h,Sub.refl g⟩
 |t::_,a,b,g,h,ha,hb=>by
  unfold ou
  exact cp t a b g h ha hb
end
end
section
open Go.VL Go.Proofs
set_option maxRecDepth 10000
structure Lbl(g:Gr)(R:Nat->List Int->Prop):Prop where
 fr:∀k j,k<g.ks.length->j∈g.fr k->∀w,R j w->R k w
 lv:∀k j,k<g.ks.length->j<g.ls.length->j+1∈g.lv k->∀m w,cQ (nth g.ls j).1 (nth g.ls j).2.1 m=true->R (nth g.ls j).2.2 w->R k (m::w)
theorem Lbl.agree{g:Gr}{R R':Nat->List Int->Prop}(h:Lbl g R)(hw:WF g)(e:∀k,k<g.ks.length->R' k=R k):Lbl g R':=
 ⟨fun k j hk hj w=>by rw[e k hk,e j (hw.fr k j hk hj)];exact h.fr k j hk hj w,fun k j hk hj hl m w=>by rw[e k hk,e _ (hw.ls j hj)];exact h.lv k j hk hj hl m w⟩
theorem Lbl.knot{g:Gr}{R:Nat->List Int->Prop}(h:Lbl g R):Lbl g.knot R:=by
 refine⟨fun k j hk hj w=>?_,fun k j hk hj hl m w=>?_⟩
 ·rw[mB]at hj
  split at hj
  ·rename_i e;exact h.fr k j e hj w
  simp at hj
 rw[mA]at hl
 split at hl
 ·rename_i e;exact h.lv k j e hj hl m w
 simp at hl
theorem Lbl.free{g:Gr}{R:Nat->List Int->Prop}(h:Lbl g R){a b:Nat}(ha:a<g.ks.length)(a0:∀w,R b w->R a w):Lbl (g.free a b) R:=by
 refine⟨fun k j hk hj w=>?_,fun k j hk hj hl m w=>?_⟩
 ·rw[aW]at hk;rw[mE ha]at hj
  split at hj
  ·rename_i e;subst e
   rcases GC.1 hj with hj|hj
   ·exact h.fr k j ha hj w
   rw[Gs.1 hj];exact a0 w
  exact h.fr k j hk hj w
 rw[aW]at hk;rw[mD ha]at hl;exact h.lv k j hk hj hl m w
theorem Lbl.leaf{g:Gr}{R:Nat->List Int->Prop}(h:Lbl g R)(hw:WF g){x c:Int}{a b:Nat}(ha:a<g.ks.length)(a1:∀m w,cQ x c m=true->R b w->R a (m::w)):Lbl (g.leaf x c a b) R:=by
 refine⟨fun k j hk hj w=>?_,fun k j hk hj hl m w=>?_⟩
 ·rw[im]at hk;rw[mr ha]at hj;exact h.fr k j hk hj w
 rw[im]at hk;rw[mo ha]at hl;rw[mq,GM]at hj;simp only[Ib,IK]at hj;rw[mq,ay]
 by_cases a0:j<g.ls.length
 ·rw[if_pos a0];refine h.lv k j hk a0 ?_ m w
  split at hl
  ·rename_i e;subst e
   rcases GC.1 hl with hl|hl
   ·exact hl
   have:=Gs.1 hl;omega
  exact hl
 rw[if_neg a0,show j-g.ls.length=0 from by omega,au]
 split at hl
 ·rename_i e;subst e;exact a1 m w
 have:=hw.lv k (j+1) hk hl;omega
def sy(R:Nat->List Int->Prop)(i:Nat)(X:List Int->Prop):Nat->List Int->Prop:=fun k=>if k=i then X else R k
theorem lO(R:Nat->List Int->Prop)(i:Nat)(X:List Int->Prop):sy R i X i=X:=if_pos rfl
theorem dR{R:Nat->List Int->Prop}{i k:Nat}{X:List Int->Prop}(h:k≠i):sy R i X k=R k:=if_neg h
def Cat(L M:List Int->Prop):List Int->Prop:=fun w=>∃u v,w=u++v/\L u/\M v
def ti(k:Int)(L:List Int->Prop):List Int->Prop:=if k=8 then fun w=>w=[]else StarP L
def inL(k:Int)(L:List Int->Prop):List Int->Prop:=if k=6 then StarP L else if k=7 then Cat L (StarP L)else fun w=>w=[]\/L w
theorem AV(k:Int)(L:List Int->Prop):ti k L []:=by unfold ti;split;rfl;exact .nil
theorem DK{k:Int}(hk:k=6\/k=7\/k=8){L:List Int->Prop}{u v:List Int}(hu:L u)(hv:ti k L v):inL k L (u++v):=by
 unfold ti at hv;unfold inL
 rcases hk with rfl|rfl|rfl
 ·rw[if_neg zd]at hv;rw[if_pos rfl];exact .cons hu hv
 ·rw[if_neg zd]at hv;rw[if_neg zd,if_pos rfl];exact⟨u,v,rfl,hu,hv⟩
 rw[if_pos rfl]at hv;subst hv;rw[if_neg zd,if_neg zd,IL];exact .inr hu
theorem CR{k:Int}(hk:k=6\/k=7\/k=8)(h7:k≠7){L:List Int->Prop}{v:List Int}(hv:ti k L v):inL k L v:=by
 unfold ti at hv;unfold inL
 rcases hk with rfl|rfl|rfl
 ·rw[if_neg zd]at hv;rw[if_pos rfl];exact hv
 ·exact absurd rfl h7
 rw[if_pos rfl]at hv;rw[if_neg zd,if_neg zd];exact .inl hv
theorem AU{k:Int}(hk:k=6\/k=7\/k=8)(h8:k≠8){L:List Int->Prop}{v:List Int}(hv:inL k L v):ti k L v:=by
 unfold inL at hv;unfold ti;rw[if_neg h8]
 rcases hk with rfl|rfl|rfl
 ·rw[if_pos rfl]at hv;exact hv
 ·rw[if_neg zd,if_pos rfl]at hv;obtain⟨u,v,rfl,hu,hv⟩:=hv;exact .cons hu hv
 exact absurd rfl h8
theorem BG{k c:Int}{l:List Nd}(hk:k=6\/k=7\/k=8):Lg (.mk k c l)=inL k (LgH l):=by
 unfold Lg inL;funext w
 rcases hk with rfl|rfl|rfl
 ·rw[if_neg zd,if_neg zd,if_pos rfl,if_pos rfl]
 ·rw[if_neg zd,if_neg zd,if_neg zd,if_pos rfl,if_neg zd,if_pos rfl];rfl
 rw[if_neg zd,if_neg zd,if_neg zd,if_neg zd,if_pos rfl,if_neg zd,if_neg zd]
theorem Bg{k:Int}{g:Gr}{R:Nat->List Int->Prop}{i:Nat}(h:Lbl g R)(hi:i+1<g.ks.length)(h7:k≠7->∀w,R (i+1) w->R i w)(h8:k≠8->∀w,R i w->R (i+1) w):Lbl (layO k g i) R:=by
 unfold layO
 split
 ·split
  ·exact h
  rename_i q;exact h.free zo (h7 q)
 rename_i q8
 split
 ·exact h.free hi (h8 q8)
 rename_i q;exact(h.free zo (h7 q)).free (by rw[aW];exact hi) (h8 q8)
mutual
theorem jG:∀(t:Nd) (a b:Nat) (g:Gr) (R:Nat->List Int->Prop),WF g->a<g.ks.length->b<g.ks.length->Lbl g R->(∀u v,Lg t u->R b v->R a (u++v))->
  ∃R',(∀k,k<g.ks.length->R' k=R k)/\Lbl (fe t a b g) R'
 |.mk k c l,a,b,g,R,h,ha,hb,hL,hab=>by
  unfold fe
  by_cases h4:k=4
  ·rw[if_pos h4]
   refine ot l a b g R h ha hb hL fun u v hu hv=>hab u v ?_ hv
   unfold Lg;rw[if_pos h4];exact hu
  rw[if_neg h4]
  by_cases h5:k=5
  ·rw[if_pos h5]
   refine ow l a b g R h ha hb hL fun u v hu hv=>hab u v ?_ hv
   unfold Lg;rw[if_neg h4,if_pos h5];exact hu
  rw[if_neg h5]
  by_cases h678:k=6\/k=7\/k=8
  ·rw[if_pos h678]
   have hab':∀u v,inL k (LgH l) u->R b v->R a (u++v):=fun u v hu hv=>hab u v (by rw[BG h678];exact hu) hv
   have hl:=dO g a b
   have hwf:=eL h ha hb
   obtain⟨h1,h2⟩:=mx l g.ks.length (g.ks.length+1) (bK g a b) hwf zo zo
   have hlen:=h2.len
   show∃R',(∀q,q<g.ks.length->R' q=R q)/\Lbl (layO k (ou l g.ks.length (g.ks.length+1) (bK g a b)) g.ks.length) R'
   have hR1:Lbl (bK g a b) (sy (sy R g.ks.length (Cat (inL k (LgH l)) (R b))) (g.ks.length+1) (Cat (ti k (LgH l)) (R b))):=by
    have hk2:g.knot.knot.ks.length=g.ks.length+2:=by rw[aH,aH]
    have hg:=(hL.agree (R':=sy (sy R g.ks.length (Cat (inL k (LgH l)) (R b))) (g.ks.length+1) (Cat (ti k (LgH l)) (R b))) h fun q hq=>by rw[dR zo,dR zo]).knot.knot
    refine(hg.free zo ?_).free (by rw[aW];omega) ?_
    ·intro w hw
     rw[dR zo,lO]at hw
     rw[dR zo,dR zo]
     obtain⟨u,v,rfl,hu,hv⟩:=hw
     exact hab' u v hu hv
    intro w hw
    rw[dR zo,dR zo]at hw
    rw[lO]
    exact⟨[],w,rfl,AV _ _,hw⟩
   have hi1:(sy (sy R g.ks.length (Cat (inL k (LgH l)) (R b))) (g.ks.length+1) (Cat (ti k (LgH l)) (R b))) g.ks.length=Cat (inL k (LgH l)) (R b):=by rw[dR zo,lO]
   have ho1:(sy (sy R g.ks.length (Cat (inL k (LgH l)) (R b))) (g.ks.length+1) (Cat (ti k (LgH l)) (R b))) (g.ks.length+1)=Cat (ti k (LgH l)) (R b):=lO _ _ _
   have hold:∀q,q<g.ks.length->(sy (sy R g.ks.length (Cat (inL k (LgH l)) (R b))) (g.ks.length+1) (Cat (ti k (LgH l)) (R b))) q=R q:=fun q hq=>by rw[dR zo,dR zo]
   generalize sy (sy R g.ks.length (Cat (inL k (LgH l)) (R b))) (g.ks.length+1) (Cat (ti k (LgH l)) (R b))=R1 at *
   obtain⟨R2,e2,hR2⟩:=vR l g.ks.length (g.ks.length+1) (bK g a b) R1 hwf zo zo hR1 (fun u v hu hv=>by
    rw[ho1]at hv
    rw[hi1]
    obtain⟨v1,v2,rfl,hv1,hv2⟩:=hv
    exact⟨u++v1,v2,by rw[Gy],DK h678 hu hv1,hv2⟩)
   refine⟨R2,fun q hq=>by rw[e2 q zo,hold q hq],Bg hR2 zo ?_ ?_⟩
   ·intro h7 w
    rw[e2 _ zo,e2 _ zo,hi1,ho1]
    rintro⟨u,v,rfl,hu,hv⟩
    exact⟨u,v,rfl,CR h678 h7 hu,hv⟩
   intro h8 w
   rw[e2 _ zo,e2 _ zo,hi1,ho1]
   rintro⟨u,v,rfl,hu,hv⟩
   exact⟨u,v,rfl,AU h678 h8 hu,hv⟩
  rw[if_neg h678]
  have hg:Lg (.mk k c l)=fun w=>if k=9 then w=[]else∃m,w=[m]/\cQ k c m=true:=by
   unfold Lg;funext w;rw[if_neg h4,if_neg h5,if_neg zo,if_neg zo,if_neg zo]
  rw[hg]at hab
  by_cases h9:k=9
  ·rw[if_pos h9]
   exact⟨R,fun _ _=>rfl,hL.free ha fun w hw=>hab [] w (by show(if k=9 then _ else _);rw[if_pos h9]) hw⟩
  rw[if_neg h9]
  exact⟨R,fun _ _=>rfl,hL.leaf h ha fun m w hm hw=>hab [m] w (by show(if k=9 then _ else _);rw[if_neg h9];exact⟨m,rfl,hm⟩) hw⟩
theorem ot:∀(l:List Nd) (a b:Nat) (g:Gr) (R:Nat->List Int->Prop),WF g->a<g.ks.length->b<g.ks.length->Lbl g R->(∀u v,LgS l u->R b v->R a (u++v))->
  ∃R',(∀k,k<g.ks.length->R' k=R k)/\Lbl (nc l a b g) R'
 |[],_,_,_,R,_,_,_,hL,_=>⟨R,fun _ _=>rfl,hL⟩
 |t::r,a,b,g,R,h,ha,hb,hL,hab=>by
  unfold LgS at hab
  unfold nc
  split
  ·rename_i hr
   obtain rfl:r=[]:=by simpa using hr
   exact jG t a b g R h ha hb hL fun u v hu hv=>hab u v ⟨u,[],by simp,hu,by unfold LgS;rfl⟩ hv
  have hl:=aH g
  have hold:∀q,q<g.ks.length->sy R g.ks.length (Cat (LgS r) (R b)) q=R q:=fun q hq=>dR zo
  have hmid:=lO R g.ks.length (Cat (LgS r) (R b))
  have hR1:=(hL.agree h hold).knot
  generalize sy R g.ks.length (Cat (LgS r) (R b))=R1 at *
  obtain⟨R2,e2,hR2⟩:=jG t a g.ks.length g.knot R1 h.knot zo zo hR1 (fun u v hu hv=>by
   rw[hmid]at hv
   rw[hold a ha]
   obtain⟨v1,v2,rfl,hv1,hv2⟩:=hv
   rw[<-Gy]
   exact hab (u++v1) v2 ⟨u,v1,rfl,hu,hv1⟩ hv2)
  obtain⟨h1,h2⟩:=cp t a g.ks.length g.knot h.knot zo zo
  have hlen:=h2.len
  obtain⟨R3,e3,hR3⟩:=ot r g.ks.length b _ R2 h1 zo zo hR2 (fun u v hu hv=>by
   rw[e2 b zo,hold b hb]at hv
   rw[e2 _ zo,hmid]
   exact⟨u,v,rfl,hu,hv⟩)
  exact⟨R3,fun q hq=>by rw[e3 q zo,e2 q zo,hold q hq],hR3⟩
theorem ow:∀(l:List Nd) (a b:Nat) (g:Gr) (R:Nat->List Int->Prop),WF g->a<g.ks.length->b<g.ks.length->Lbl g R->(∀u v,LgA l u->R b v->R a (u++v))->
  ∃R',(∀k,k<g.ks.length->R' k=R k)/\Lbl (nf l a b g) R'
 |[],_,_,_,R,_,_,_,hL,_=>⟨R,fun _ _=>rfl,hL⟩
 |t::r,a,b,g,R,h,ha,hb,hL,hab=>by
  unfold LgA at hab
  unfold nf
  obtain⟨R2,e2,hR2⟩:=jG t a b g R h ha hb hL fun u v hu hv=>hab u v (.inl hu) hv
  obtain⟨h1,h2⟩:=cp t a b g h ha hb
  have hlen:=h2.len
  obtain⟨R3,e3,hR3⟩:=ow r a b _ R2 h1 zo zo hR2 fun u v hu hv=>by
   rw[e2 b hb]at hv
   rw[e2 a ha]
   exact hab u v (.inr hu) hv
  exact⟨R3,fun q hq=>by rw[e3 q zo,e2 q hq],hR3⟩
theorem vR:∀(l:List Nd) (a b:Nat) (g:Gr) (R:Nat->List Int->Prop),WF g->a<g.ks.length->b<g.ks.length->Lbl g R->(∀u v,LgH l u->R b v->R a (u++v))->
  ∃R',(∀k,k<g.ks.length->R' k=R k)/\Lbl (ou l a b g) R'
 |[],_,_,_,R,_,_,_,hL,_=>⟨R,fun _ _=>rfl,hL⟩
 |t::_,a,b,g,R,h,ha,hb,hL,hab=>by
  unfold LgH at hab
  unfold ou
  exact jG t a b g R h ha hb hL hab
end
theorem pO(g:Gr)(k:Nat):g.knot.en k=if k<g.ks.length then g.en k else 0:=by unfold Gr.en;rw[pN];split<;>rfl
theorem tH{g:Gr}{a b:Nat}(ha:a<g.ks.length)(k:Nat):(g.free a b).en k=g.en k:=by
 unfold Gr.free Gr.en;rw[aP ha];split
 ·rename_i h;rw[h]
 rfl
theorem yZ{g:Gr}{x c:Int}{a b:Nat}(ha:a<g.ks.length)(k:Nat):(g.leaf x c a b).en k=g.en k:=by
 unfold Gr.leaf Gr.en;rw[aP ha];split
 ·rename_i h;rw[h]
 rfl
def SameEn(g g':Gr):Prop:=∀k,g'.en k=if k<g.ks.length then g.en k else 0
theorem DP{g:Gr}{k:Nat}(h:g.ks.length<=k):g.en k=0:=by unfold Gr.en;rw[dW h];rfl
theorem SameEn.refl(g:Gr):SameEn g g:=fun k=>by
 split
 ·rfl
 exact DP zo
theorem SameEn.trans{a b c:Gr}(h:SameEn a b)(k:SameEn b c)(hl:a.ks.length<=b.ks.length):SameEn a c:=fun q=>by
 rw[k q]
 by_cases h1:q<a.ks.length
 ·rw[if_pos h1,if_pos zo,h q,if_pos h1]
 rw[if_neg h1]
 split
 ·rw[h q,if_neg h1]
 rfl
theorem mz(g:Gr):SameEn g g.knot:=pO g
theorem ee{g:Gr}{a b:Nat}(ha:a<g.ks.length):SameEn g (g.free a b):=fun k=>by
 rw[tH ha];exact SameEn.refl g k
theorem yY{g:Gr}{x c:Int}{a b:Nat}(ha:a<g.ks.length):SameEn g (g.leaf x c a b):=fun k=>by
 rw[yZ ha];exact SameEn.refl g k
theorem zi{k:Int}{g:Gr}{i:Nat}(hi:i+1<g.ks.length):SameEn g (layO k g i):=by
 unfold layO;split<;>split
 ·exact SameEn.refl _
 ·exact ee zo
 ·exact ee hi
 exact(ee zo).trans (ee (by rw[aW];exact hi)) (by rw[aW];omega)
theorem tj{g:Gr}{a b:Nat}(ha:a<g.ks.length):SameEn g (bK g a b):=by
 have h2:g.knot.knot.ks.length=g.ks.length+2:=by rw[aH,aH]
 unfold bK;exact(((mz g).trans (mz _) (by rw[aH];omega)).trans (ee zo) zo).trans (ee (by rw[aW];omega)) (by rw[aW];omega)
mutual
theorem gG:∀(t:Nd) (a b:Nat) (g:Gr),WF g->a<g.ks.length->b<g.ks.length->SameEn g (fe t a b g)
 |.mk k c l,a,b,g,h,ha,hb=>by
  unfold fe
  split
  ·exact rF l a b g h ha hb
  split
  ·exact rG l a b g h ha hb
  split
  ·have hl:=dO g a b
   have hwf:=eL h ha hb
   obtain⟨h1,h2⟩:=mx l g.ks.length (g.ks.length+1) (bK g a b) hwf zo zo
   have:=h2.len
   exact((tj ha).trans (zj l _ _ _ hwf zo zo) zo).trans (zi zo) (by show g.ks.length<=(ou l g.ks.length (g.ks.length+1) (bK g a b)).ks.length;omega)
  split
  ·exact ee ha
  exact yY ha
theorem rF:∀(l:List Nd) (a b:Nat) (g:Gr),WF g->a<g.ks.length->b<g.ks.length->SameEn g (nc l a b g)
 |[],_,_,g,_,_,_=>SameEn.refl g
 |t::r,a,b,g,h,ha,hb=>by
  unfold nc
  split
  ·exact gG t a b g h ha hb
  have hl:=aH g
  obtain⟨h1,h2⟩:=cp t a g.ks.length g.knot h.knot zo zo
  have:=h2.len
  exact((mz g).trans (gG t _ _ _ h.knot zo zo) zo).trans (rF r _ _ _ h1 zo zo) zo
theorem rG:∀(l:List Nd) (a b:Nat) (g:Gr),WF g->a<g.ks.length->b<g.ks.length->SameEn g (nf l a b g)
 |[],_,_,g,_,_,_=>SameEn.refl g
 |t::r,a,b,g,h,ha,hb=>by
  unfold nf
  obtain⟨h1,h2⟩:=cp t a b g h ha hb
  have:=h2.len
  exact(gG t a b g h ha hb).trans (rG r _ _ _ h1 zo zo) zo
theorem zj:∀(l:List Nd) (a b:Nat) (g:Gr),WF g->a<g.ks.length->b<g.ks.length->SameEn g (ou l a b g)
 |[],_,_,g,_,_,_=>SameEn.refl g
 |t::_,a,b,g,h,ha,hb=>by
  unfold ou
  exact gG t a b g h ha hb
end
end
section
open Go.VL Go.Proofs
set_option maxRecDepth 10000
def Gr.mark(g:Gr)(a e:Nat):Gr:=⟨g.ls,g.ks.set a (g.fr a,g.lv a,e)⟩
theorem dd(g:Gr)(a e:Nat):(g.mark a e).ks.length=g.ks.length:=by simp[Gr.mark]
theorem pJ{g:Gr}{a e:Nat}(ha:a<g.ks.length)(k:Nat):(g.mark a e).fr k=g.fr k:=by
 unfold Gr.mark Gr.fr;rw[aP ha];split
 ·rename_i h;rw[h]
 rfl
theorem pI{g:Gr}{a e:Nat}(ha:a<g.ks.length)(k:Nat):(g.mark a e).lv k=g.lv k:=by
 unfold Gr.mark Gr.lv;rw[aP ha];split
 ·rename_i h;rw[h]
 rfl
theorem yS{g:Gr}{a e:Nat}(ha:a<g.ks.length)(k:Nat):(g.mark a e).en k=if k=a then e else g.en k:=by
 unfold Gr.mark Gr.en;rw[aP ha];split<;>rfl
theorem A7{g:Gr}{a e:Nat}(ha:a<g.ks.length):Sub g (g.mark a e):=⟨by rw[dd];omega,⟨[],by simp[Gr.mark]⟩,fun k j _ h=>by rw[pJ ha];exact h,fun k j _ h=>by rw[pI ha];exact h⟩
theorem WF.mark{g:Gr}(h:WF g){a e:Nat}(ha:a<g.ks.length):WF (g.mark a e):=
 ⟨fun k j hk hj=>by rw[dd]at hk ⊢;rw[pJ ha]at hj;exact h.fr k j hk hj,fun k j hk hj=>by rw[dd]at hk;rw[pI ha]at hj;exact h.lv k j hk hj,fun j hj=>by rw[dd];exact h.ls j hj⟩
def fZ(g:Gr)(i:Nat):Gr:=((g.knot.mark g.ks.length (i+1)).knot).free 0 (g.ks.length+1)
def qV(x:Nd)(i:Nat)(g:Gr):Gr:=fe x (g.ks.length+1) g.ks.length (fZ g i)
def dj:List Nd->Nat->Gr->Gr
 |[],_,g=>g
 |x::r,i,g=>dj r (i+1) (qV x i g)
def g00:Gr:=⟨[],[([],[],0)]⟩
def qs(xs:List Nd):Gr:=dj xs 0 g00
theorem eE(g:Gr)(i:Nat):(fZ g i).ks.length=g.ks.length+2:=by unfold fZ;rw[aW,aH,dd,aH]
theorem gk{g:Gr}(h:WF g)(h0:0<g.ks.length)(i:Nat):WF (fZ g i)/\Sub g (fZ g i):=by
 have h1:=aH g;have h2:=dd g.knot g.ks.length (i+1);have h3:=aH (g.knot.mark g.ks.length (i+1));refine⟨((h.knot.mark zo).knot).free zo zo,(((jI g).trans (A7 zo)).trans (jI _)).trans (ey zo)⟩
theorem yf{g:Gr}(h0:0<g.ks.length)(i k:Nat):(fZ g i).en k=if k=g.ks.length then i+1 else if k<g.ks.length then g.en k else 0:=by
 have h1:=aH g;have h2:=dd g.knot g.ks.length (i+1);have h3:=aH (g.knot.mark g.ks.length (i+1));unfold fZ;rw[tH zo,pO,yS zo,pO]
 by_cases hk:k=g.ks.length
 ·simp only[if_pos hk];rw[if_pos zo]
 simp only[if_neg hk]
 by_cases a0:k<g.ks.length
 ·simp only[if_pos a0];rw[if_pos zo]
 simp only[if_neg a0];split<;>rfl
theorem pC{g:Gr}(h:WF g)(h0:0<g.ks.length)(x:Nd)(i:Nat):WF (qV x i g)/\Sub g (qV x i g)/\g.ks.length+2<=(qV x i g).ks.length:=by
 obtain⟨h1,h2⟩:=gk h h0 i;have hl:=eE g i;obtain⟨h3,h4⟩:=cp x (g.ks.length+1) g.ks.length (fZ g i) h1 zo zo;exact⟨h3,h2.trans h4,by have:=h4.len;unfold qV;omega⟩
theorem yE{g:Gr}(h:WF g)(h0:0<g.ks.length)(x:Nd)(i k:Nat):(qV x i g).en k=if k=g.ks.length then i+1 else if k<g.ks.length then g.en k else 0:=by
 obtain⟨h1,h2⟩:=gk h h0 i;have hl:=eE g i;have:=gG x (g.ks.length+1) g.ks.length (fZ g i) h1 zo zo k;rw[yf h0,hl]at this;unfold qV;rw[this]
 by_cases hk:k=g.ks.length
 ·rw[if_pos zo]
 rw[if_neg hk]
 by_cases a0:k<g.ks.length
 ·rw[if_pos zo]
 rw[if_neg a0];split<;>rfl
theorem vg:∀(xs:List Nd) (i:Nat) (g:Gr),WF g->0<g.ks.length->WF (dj xs i g)/\Sub g (dj xs i g)/\∀k,k<g.ks.length->(dj xs i g).en k=g.en k
 |[],_,g,h,_=>⟨h,Sub.refl g,fun _ _=>rfl⟩
 |x::r,i,g,h,h0=>by
  obtain⟨h1,h2,h3⟩:=pC h h0 x i;obtain⟨h4,h5,h6⟩:=vg r (i+1) (qV x i g) h1 zo;refine⟨h4,h2.trans h5,fun k hk=>?_⟩;show(dj r (i+1) (qV x i g)).en k=_;rw[h6 k zo,yE h h0,if_neg zo,if_pos hk]
theorem uS:WF g00:=by
 refine⟨fun k j hk hj=>?_,fun k j hk hj=>?_,fun j hj=>?_⟩
 ·have:k=0:=by simpa[g00]using hk
  subst this;simp[Gr.fr,g00,au]at hj
 ·have:k=0:=by simpa[g00]using hk
  subst this;simp[Gr.lv,g00,au]at hj
 simp[g00]at hj
theorem CI(xs:List Nd):WF (qs xs)/\0<(qs xs).ks.length:=by
 obtain⟨h1,h2,_⟩:=vg xs 0 g00 uS zd;exact⟨h1,GG zd h2.len⟩
def dk:List Nat->List Nat->List Nat
 |l,[]=>l
 |l,x::r=>dk (if l.contains x then l else l++[x]) r
def gx(g:Gr):Nat->Nat->List Nat->List Nat
 |0,_,l=>l
 |n+1,i,l=>if i<l.length then gx g n (i+1) (dk l (g.fr (nth l i)))else l
def eu(g:Gr)(k:Nat):List Nat:=gx g g.ks.length 0 [k]
theorem iA:∀(r l:List Nat),∃s,dk l r=l++s
 |[],l=>⟨[],by simp[dk]⟩
 |x::r,l=>by
  unfold dk
  split
  ·exact iA r l
  obtain⟨s,hs⟩:=iA r (l++[x]);exact⟨x::s,by rw[hs];simp⟩
theorem eY:∀(r l:List Nat) (y:Nat),y∈dk l r↔y∈l\/y∈r
 |[],l,y=>by simp[dk]
 |x::r,l,y=>by
  unfold dk;rw[eY r]
  split
  ·rename_i h;have hx:x∈l:=by simpa using h
   constructor
   ·rintro(h1|h1)
    ·exact .inl h1
    exact .inr (by simp[h1])
   rintro(h1|h1)
   ·exact .inl h1
   rcases Jr.1 h1 with rfl|h1
   ·exact .inl hx
   exact .inr h1
  simp[or_assoc]
theorem lj:∀(r l:List Nat),l.Nodup->(dk l r).Nodup
 |[],l,h=>h
 |x::r,l,h=>by
  unfold dk;refine lj r _ ?_
  split
  ·exact h
  rename_i hx;have hx:x∉l:=by simpa using hx
  exact K7.2 ⟨h,by simp,fun a ha b hb=>by rw[Gs.1 hb];intro e;exact hx (by rw[<-e];exact ha)⟩
theorem fx{n:Nat}{l:List Nat}(hn:l.Nodup)(h:∀x∈l,x<n):l.length<=n:=by
 have:=hn.length_le_of_subset (l₂:=GS n) fun x hx=>Ii.2 (h x hx)
 simpa using this
structure Rc(g:Gr)(k i:Nat)(l:List Nat):Prop where
 nd:l.Nodup
 lt:∀x∈l,x<g.ks.length
 fst:k∈l
 pt:∀x∈l,Pt g k [] x
 cl:∀j,j<i->j<l.length->∀y∈g.fr (nth l j),y∈l
theorem qk{g:Gr}{k:Nat}(hk:k<g.ks.length):Rc g k 0 [k]:=⟨by simp,by simpa using hk,by simp,fun x hx=>by rw[Gs.1 hx];exact .nil _,fun j hj=>absurd hj (I3 _)⟩
theorem Rc.step{g:Gr}(hw:WF g){k i:Nat}{l:List Nat}(h:Rc g k i l)(hi:i<l.length):Rc g k (i+1) (dk l (g.fr (nth l i))):=by
 have hm:=aN hi;obtain⟨s,hs⟩:=iA (g.fr (nth l i)) l;refine⟨lj _ _ h.nd,fun x hx=>?_,(eY _ _ _).2 (.inl h.fst),fun x hx=>?_,fun j hj a1 y hy=>?_⟩
 ·rcases(eY _ _ _).1 hx with hx|hx
  ·exact h.lt x hx
  exact hw.fr _ _ (h.lt _ hm) hx
 ·rcases(eY _ _ _).1 hx with hx|hx
  ·exact h.pt x hx
  have:=(h.pt _ hm).trans (.eps (h.lt _ hm) hx (.nil x));simpa using this
 have a0:j<l.length:=zo;rw[hs,ay,if_pos a0]at hy;refine(eY _ _ _).2 ?_
 by_cases e:j=i
 ·subst e;exact .inr hy
 exact .inl (h.cl j zo a0 y hy)
theorem Rc.done{g:Gr}{k i:Nat}{l:List Nat}(h:Rc g k i l)(hi:l.length<=i)(q:Nat):q∈l↔Pt g k [] q:=by
 refine⟨h.pt q,fun p=>?_⟩;have a0:∀ {a:Nat} {w:List Int} {b:Nat},Pt g a w b->w=[]->a∈l->b∈l:=fun p=>by
  induction p with
  |nil=>exact fun _ h=>h
  |eps h1 h2 _ ih=>
   intro e ha;obtain⟨j,hj,rfl⟩:=Gm ha;exact ih e (h.cl j zo hj _ h2)
  |leaf=>intro e;cases e
 exact a0 p rfl h.fst
theorem lY{g:Gr}(hw:WF g){k:Nat}:∀(n i:Nat) (l:List Nat),Rc g k i l->g.ks.length<=i+n->∀q,q∈gx g n i l↔Pt g k [] q
 |0,i,l,h,hn,q=>h.done (I1 (fx h.nd h.lt) zo) q
 |n+1,i,l,h,hn,q=>by
  unfold gx
  split
  ·rename_i hi;exact lY hw n (i+1) _ (h.step hw hi) zo q
  rename_i hi;exact h.done zo q
theorem lX{g:Gr}(hw:WF g){k:Nat}(hk:k<g.ks.length)(q:Nat):q∈eu g k↔Pt g k [] q:=lY hw _ _ _ (qk hk) zo q
def Gr.pl(g:Gr)(p:Nat):Nat:=if p=0 then 0 else(nth g.ls (p-1)).2.2
def cn(g:Gr)(p:Nat):List Nat:=(eu g (g.pl p)).flatMap g.lv
def fj(g:Gr)(b k:Nat):Nat:=if g.en k=0 then b else b ||| 2^(g.en k-1)
def nh(g:Gr)(p:Nat):Nat:=(eu g (g.pl p)).foldl (fj g) 0
theorem tf{g:Gr}(hw:WF g)(h0:0<g.ks.length){p:Nat}(hp:p<=g.ls.length):g.pl p<g.ks.length:=by
 unfold Gr.pl
 split
 ·exact h0
 exact hw.ls _ zo
theorem uH{g:Gr}(hw:WF g)(h0:0<g.ks.length){p:Nat}(hp:p<=g.ls.length)(j:Nat):j∈cn g p↔∃k,Pt g (g.pl p) [] k/\j∈g.lv k:=by
 unfold cn;rw[Ja]
 constructor
 ·rintro⟨k,hk,hj⟩;exact⟨k,(lX hw (tf hw h0 hp) k).1 hk,hj⟩
 rintro⟨k,hk,hj⟩;exact⟨k,(lX hw (tf hw h0 hp) k).2 hk,hj⟩
structure Stp(g:Gr)(se:Bool)(step:List Int->Int->List Int):Prop where
 mem:∀(s:List Int) (m x:Int),x∈step s m↔(se=true/\x=0)\/∃p∈s,∃j∈cn g p.toNat,x=(j:Int)/\cQ (nth g.ls (j-1)).1 (nth g.ls (j-1)).2.1 m=true
def inP(g:Gr)(s:List Int):Prop:=∀x∈s,0<=x/\x.toNat<=g.ls.length
theorem ye{g:Gr}(hw:WF g)(h0:0<g.ks.length){se:Bool}{step:List Int->Int->List Int}(h:Stp g se step){s:List Int}(hs:inP g s)(m:Int):inP g (step s m):=fun x hx=>by
 rcases(h.mem s m x).1 hx with⟨_,rfl⟩|⟨p,hp,j,hj,rfl,_⟩
 ·exact⟨JQ _,GY _⟩
 obtain⟨k,hk,a2⟩:=(uH hw h0 (hs p hp).2 j).1 hj;have a1:k<g.ks.length:=(lX hw (tf hw h0 (hs p hp).2) k).2 hk |> fun hm=>by
  have a0:∀ {a:Nat} {w:List Int} {b:Nat},Pt g a w b->a<g.ks.length->b<g.ks.length:=fun p=>by
   induction p with
   |nil=>exact fun h=>h
   |eps h1 h2 _ ih=>exact fun _=>ih (hw.fr _ _ h1 h2)
   |leaf h1 h2 h3 h4 _ ih=>exact fun _=>ih (hw.ls _ h2)
  exact a0 hk (tf hw h0 (hs p hp).2)
 have:=hw.lv k j a1 a2;exact⟨zo,by simp;omega⟩
theorem Pt.lt{g:Gr}(hw:WF g){a b:Nat}{w:List Int}(p:Pt g a w b):a<g.ks.length->b<g.ks.length:=by
 induction p with
 |nil=>exact fun h=>h
 |eps h1 h2 _ ih=>exact fun _=>ih (hw.fr _ _ h1 h2)
 |leaf h1 h2 h3 h4 _ ih=>exact fun _=>ih (hw.ls _ h2)
def dy(g:Gr)(s:List Int):Nat:=s.foldl (fun b p=>b ||| nh g p.toNat) 0
end
end Go.Proofs.YtpfpmhhigheccaaGreatDoor
section
namespace Go.Proofs
open Go.Proofs.Tryz
open Go.Shelf
def lC:Kg:=⟨fun|189=>134|125=>159|257=>158|128=>178|129=>179|294=>169|295=>170|296=>171|297=>172|298=>173|299=>174|216=>175|300=>176|301=>177|328=>192|329=>193|330=>194|331=>195|332=>196|215=>197|343=>203|n=>n,fun|28=>25|3=>3|46=>73|0=>0|51=>260|53=>24|4=>4|183=>255|182=>254|131=>141|5=>5|9=>9|218=>271|222=>274|228=>278|229=>224|n=>n,fun|n=>n⟩
theorem lu:KJ Gn lC:={
 mixed:=by kernel_rfl
 f125:=func159.trans (congrArg some (by kernel_rfl))
 f128:=func178.trans (congrArg some (by kernel_rfl))
 f129:=func179.trans (congrArg some (by kernel_rfl))
 f189:=func134.trans (congrArg some (by kernel_rfl))
 f215:=func197.trans (congrArg some (by kernel_rfl))
 f216:=func175.trans (congrArg some (by kernel_rfl))
 f257:=func158.trans (congrArg some (by kernel_rfl))
 f294:=func169.trans (congrArg some (by kernel_rfl))
 f295:=func170.trans (congrArg some (by kernel_rfl))
 f296:=func171.trans (congrArg some (by kernel_rfl))
 f297:=func172.trans (congrArg some (by kernel_rfl))
 f298:=func173.trans (congrArg some (by kernel_rfl))
 f299:=func174.trans (congrArg some (by kernel_rfl))
 f300:=func176.trans (congrArg some (by kernel_rfl))
 f301:=func177.trans (congrArg some (by kernel_rfl))
 f328:=func192.trans (congrArg some (by kernel_rfl))
 f329:=func193.trans (congrArg some (by kernel_rfl))
 f330:=func194.trans (congrArg some (by kernel_rfl))
 f331:=func195.trans (congrArg some (by kernel_rfl))
 f332:=func196.trans (congrArg some (by kernel_rfl))
 f343:=func203.trans (congrArg some (by kernel_rfl))
 t0:=Ld
 a0:=isAgg0
 z0:=sizeOf0
 v0:=Lm
 t3:=Lc
 a3:=Lo
 z3:=GU
 v3:=Ll
 t4:=Lb
 a4:=Ln
 z4:=Jg
 v4:=Lk
 t5:=underlying5
 a5:=isAgg5
 z5:=sizeOf5
 v5:=zeroValue5
 t9:=underlying9
 a9:=isAgg9
 z9:=K5
 v9:=zeroValue9
 t28:=K4
 a28:=L3
 z28:=Ie
 v28:=La
 t46:=underlying73
 a46:=isAgg73
 z46:=sizeOf73
 v46:=zeroValue73
 t51:=underlying260
 a51:=isAgg260
 z51:=sizeOf260
 v51:=zeroValue260
 t53:=underlying24
 a53:=isAgg24
 z53:=Jy
 v53:=zeroValue24
 t131:=underlying141
 a131:=isAgg141
 z131:=sizeOf141
 v131:=zeroValue141
 t182:=underlying254
 a182:=isAgg254
 z182:=sizeOf254
 v182:=zeroValue254
 t183:=underlying255
 a183:=isAgg255
 z183:=sizeOf255
 v183:=zeroValue255
 t218:=underlying271
 a218:=isAgg271
 z218:=sizeOf271
 v218:=zeroValue271
 t222:=underlying274
 a222:=isAgg274
 z222:=sizeOf274
 v222:=zeroValue274
 t228:=underlying278
 a228:=isAgg278
 z228:=sizeOf278
 v228:=zeroValue278
 t229:=underlying224
 a229:=isAgg224
 z229:=sizeOf224
 v229:=zeroValue224 }
open Go.Sort Go.RowKit in
theorem Tryz.slices_Sort_int(blk off a1:Nat)(zs:List Int)(w:ln)(hH:Holds (Ig .i64) w blk off zs.toArray)(a0:blk<w.heap.size)(a2:zs.length<4611686018427387904):
 KK Gn 134 #[.slice (some ⟨blk,off,none⟩) zs.length a1] w fun e w'=>
  e=.returned (.tuple #[])/\∃n os,w'=grow (putRow (Ig .i64) (JS w n) blk off (zs.mergeSort fun x y=>decide (x<=y)).toArray) os:=Any.slices_Sort_int lu blk off a1 zs w hH a0 a2
def jY:Kg:=⟨fun|20=>135|n=>n,fun|22=>25|3=>3|4=>4|0=>0|n=>n,fun|n=>n⟩
theorem iO:KD Gn jY:={
 mixed:=by kernel_rfl
 f20:=func135.trans (congrArg some (by kernel_rfl))
 t0:=Ld
 a0:=isAgg0
 z0:=sizeOf0
 v0:=Lm
 t3:=Lc
 a3:=Lo
 z3:=GU
 v3:=Ll
 t4:=Lb
 a4:=Ln
 z4:=Jg
 v4:=Lk
 t22:=K4
 a22:=L3
 z22:=Ie
 v22:=La
 i3:=by kernel_rfl }
open Go.RowKit Go.Lib Go.Sort in
theorem Tryz.slices_Compact_int(blk off a0:Nat)(zs:List Int)(w:ln)(hH:Holds (Ig .i64) w blk off zs.toArray)(a2:zs.length<=9223372036854775807)(a1:zs.length<=a0):
 KK Gn 135 #[.slice (some ⟨blk,off,none⟩) zs.length a0] w fun e w'=>e=.returned (.slice (some ⟨blk,off,none⟩) (GZ zs).length a0)/\∃q,w'=putRow (Ig .i64) (JS w q) blk off (GZ zs++Iz (zs.length-(GZ zs).length) 0).toArray:=Any.slices_Compact_int iO blk off a0 zs w hH a2 a1
open Go.RowKit Go.Lib Go.Sort in
theorem Tryz.slices_Compact_int_empty(a:Option GQ)(a0:Nat)(w:ln):
 KK Gn 135 #[.slice a 0 a0] w fun e w'=>e=.returned (.slice a 0 a0)/\w'=w:=Any.slices_Compact_int_empty iO a a0 w
open Go.RowKit Go.Sort in
theorem Tryz.slices_Sort_int_none(p:Option GQ)(a0:Nat)(w:ln):
 KK Gn 134 #[.slice p 0 a0] w fun e w'=>e=.returned (.tuple #[])/\w'=w:=Any.slices_Sort_int_none lu p a0 w
end Go.Proofs
end
namespace Go.Proofs.YtpfpmhhigheccaaGreatDoor
open Go.Proofs.Tryz
section
open Go.VL Go.Proofs
set_option maxRecDepth 10000
abbrev encI(c:Int):List ix:=[nI c]
abbrev aJ(n:Nat):List ix:=[nI (n:Int)]
theorem C9{w:ln}{v:ix}{l:List Nat}(h:Sl aJ 1 w v l):Sl encI 1 w v (l.map fun(n:Nat)=>(n:Int)):=
 ⟨by simpa using h.shape,fun i hi j u hu=>h.cells i (by simpa using hi) j u (by simpa using hu)⟩
theorem vT(l:List Int)(c:Int)(sv:ix)(w:ln)(h:Sl encI 1 w sv l):Ret Gn 164 [sv,nI c] w fun v w'=>v=nI (dh (fun i=>c==nth l i) l.length)/\w'=w:=by
 have hl:=h.len_le;refine Ret.enter func164 ntmps164 rfl rfl ?_;refine zh ?_;refine zlp (fun x:Nat=>[(0,sv),(1,nI c),(7,nI l.length),(8,nI x)]) (fun x=>w) (fun x=>x<=l.length/\∀i,i<x->(c==nth l i)=false) (fun x=>l.length-x) 0 (⟨GY _,fun i hi=>absurd hi (I3 i)⟩) ?_;rintro k ⟨hk,a1⟩;refine zh ?_;refine zC ?_ ?_
 ·intro a0;replace a0:k<l.length:=dT a0;have m1:=h.ld a0;refine zh ?_;refine zC ?_ ?_
  ·intro hy;refine zh ?_;refine ae rfl rfl (⟨by rw[bY (q:=fun i=>c==nth l i) a0 hy a1],rfl⟩)
  intro hy;refine zh ?_;refine zxd (k+1) (⟨a0,fun i hi=>(Nat.lt_succ_iff_lt_or_eq.1 hi).elim (a1 i) (fun e=>by rw[e];exact hy)⟩)
 intro a2;replace a2:l.length<=k:=dF a2;refine zh ?_;refine ae rfl rfl (⟨by rw[bW (q:=fun i=>c==nth l i) fun i hi=>a1 i zo],rfl⟩)
theorem pY(l:List Int)(c:Int)(sv:ix)(w:ln)(h:Sl encI 1 w sv l):Ret Gn 144 [sv,nI c] w fun v w'=>v=.bool (decide (c∈l))/\w'=w:=by
 have he:iH (fun i=>c==nth l i) l.length=decide (c∈l):=by
  rw[gL (p:=fun x=>c==x),Kq];simp[Ke]
 refine Ret.enter func144 ntmps144 rfl rfl ?_;refine zh ?_
 refine zc call164 (vT l c sv w h) ?_;rintro v w9 ⟨rfl,a0⟩;rw[a0];clear a0 w9;refine zh ?_
 refine ae rfl rfl (⟨congrArg JM (firstN_any.trans he),rfl⟩)
theorem pX(l:List Nat)(c:Nat)(sv:ix)(w:ln)(h:Sl aJ 1 w sv l):Ret Gn 144 [sv,nI (c:Nat)] w fun v w'=>v=.bool (l.contains c)/\w'=w:=by
 refine(pY _ c sv w (C9 h)).mono fun v w' ⟨h1,h2⟩=>⟨?_,h2⟩
 rw[h1];congr 1;rw[Kq];simp only[decide_eq_true_eq,Ia,List.contains_iff_mem]
 constructor
 ·rintro⟨a,ha,e⟩;have e:a=c:=zo;rw[<-e];exact ha
 exact fun hc=>⟨c,hc,rfl⟩
end
section
open Go.VL Go.Proofs Go.Sort
set_option maxRecDepth 10000
def gm(l:List Int):List Int:=l.mergeSort fun x y=>decide (x<=y)
theorem dA(l:List Int):(gm l).length=l.length:=List.length_mergeSort ..
theorem jM(l:List Int):(l.flatMap encI)=l.map (Ig .i64):=by induction l<;>simp_all[encI]
theorem xK{O:Nat->Nat}{w:ln}{i g n:Nat}{os:Array Obj}(d:Array Int)(hi:i≠0)(ho:O g=i):Upd (fun k=>k=i) O w O (grow (putRow (Ig .i64) (JS w n) g 0 d) os):=by
 obtain⟨h1,h2,h3,h4,h5⟩:=grownBy_sortedI (w:=w) (g:=g) (n:=n) (os:=os) d;exact⟨h1,h2,h3,h4,fun k hk hn=>h5 k hk (fun e=>hn (by rw[<-ho];congr 1;exact GK e)),fun _ _=>rfl,fun _ h=>.inl h,fun e=>hi e.symm⟩
theorem jo{B:Nat}{O:Nat->Nat}{i:Nat}{v:ix}{l:List Int}{w:ln}(hR:Rng B O w)(hr:RowT encI 3 1 O w i v l)(hi:i≠0)(hl:l.length<=1000000):Ret Gn 134 [v] w fun _ w'=>RowT encI 3 1 O w' i v (gm l)/\Upd (fun k=>k=i) O w O w'/\Rng B O w':=by
 rcases hr.1.row.2 with⟨rfl,h0⟩|⟨g,a6,a8,rfl,a7,hg,a2,a5,a4,ht⟩
 ·obtain rfl:l=[]:=Gt h0;refine GL (Tryz.slices_Sort_int_none none 0 w) fun e w' ⟨he,hw⟩=>?_
  subst he;subst hw;exact⟨by rw[Gt (dA [])];exact hr,Upd.refl (fun e=>hi e.symm) _ _,hR⟩
 have a0:=hr.1.tag g rfl;rw[jM]at ht;have hH:=holds_of_blockI (ss:=l) hg (by simpa using ht);have a3:=bm hg;refine GL (Tryz.slices_Sort_int g 0 a6 l w hH a3 zo) fun e w' ⟨he,n,os,hw⟩=>?_
 subst he;subst hw;have hU:=xK (w:=w) (n:=n) (os:=os) (gm l).toArray hi a0;refine⟨⟨⟨?_,fun g' a1=>by simp[Iw]at a1;subst a1;exact a0⟩,fun _ _=>rfl⟩,hU,hR.upd hU⟩;have:=ownsRow_sortedI (w:=w) (n:=n) (os:=os) (base:=0) (ss:=l) (ts:=gm l) (dA l) (GY _) hg a2 a5 a4;rw[jM,dA];exact this
theorem xg(l:List Int):(GZ l).length<=l.length:=by
 unfold GZ It;rw[Km];exact I1 (JC _ _) (by simp)
theorem ef{B:Nat}{O:Nat->Nat}{i:Nat}{v:ix}{l:List Int}{w:ln}(hR:Rng B O w)(hr:RowT encI 3 1 O w i v l)(hi:i≠0)(hl:l.length<=1000000):Ret Gn 135 [v] w fun u w'=>RowT encI 3 1 O w' i u (GZ l)/\Upd (fun k=>k=i) O w O w'/\Rng B O w':=by
 rcases hr.1.row.2 with⟨rfl,h0⟩|⟨g,a4,a7,rfl,b0,hg,a5,a6,a',ht⟩
 ·obtain rfl:l=[]:=Gt h0;refine GL (Tryz.slices_Compact_int_empty none 0 w) fun e w' ⟨he,hw⟩=>?_
  subst he;subst hw;exact⟨hr,Upd.refl (fun e=>hi e.symm) _ _,hR⟩
 have a0:=hr.1.tag g rfl;rw[jM]at ht;have hH:=holds_of_blockI (ss:=l) hg (by simpa using ht);have a9:=xg l;refine GL (Tryz.slices_Compact_int g 0 a4 l w hH zo a5) fun e w' ⟨he,n,hw⟩=>?_
 subst he;obtain⟨ts,a1⟩:∃ts,ts=GZ l++Iz (l.length-(GZ l).length) 0:=⟨_,rfl⟩
 rw[<-a1]at hw;have a8:ts.length=l.length:=by rw[a1];simp;omega
 have hU:=xK (w:=w) (n:=n) (os:=#[]) ts.toArray hi a0;have a2:=heap_sortedI (n:=n) (os:=#[]) ts.toArray hg;rw[grow_empty,<-hw]at hU a2;refine⟨⟨⟨⟨by rw[jM];simp,.inr ⟨g,a4,_,rfl,GY _,a2,zo,a6,by simp[putCells];omega,?_⟩⟩,fun g' a3=>by simp[Iw]at a3;subst a3;exact a0⟩,fun _ _=>rfl⟩,hU,hR.upd hU⟩;have h1:=take_putCellsI a7 ts zo;have h2:=congrArg (J9 (GZ l).length) h1;rw[List.take_take,Jh zo]at h2;rw[jM,IS,h2,a1,Jf,List.take_append_of_le_length (by simp),List.take_of_length_le (by simp)]
end
section
open Go.VL Go.Proofs
set_option maxRecDepth 10000
def oM(l:List Int):List Int:=GZ (gm l)
structure Cmp(d:Array Int)(m:Nat)(r:List Int):Prop where
 mem:∀x,x∈r↔∃j,j<m/\d[j]! = x
 pw:r.Pairwise (· < ·)
theorem ve(d:Array Int)(hs:∀i j,i<=j->j<d.size->d[i]!<=d[j]!):∀m,m<=d.size->Cmp d m (It d m)
 |0,_=>⟨fun x=>by simp[It],by simp[It]⟩
 |m+1,hm=>by
  have ih:=ve d hs m zo;rw[Lib.compactUpTo_succ]
  by_cases hk:Kp d m=true
  ·rw[if_pos hk];refine⟨fun x=>?_,?_⟩
   ·rw[GC,ih.mem,Gs]
    constructor
    ·rintro(⟨j,hj,e⟩|e)
     ·exact⟨j,zo,e⟩
     exact⟨m,zo,e.symm⟩
    rintro⟨j,hj,e⟩
    by_cases a0:j=m
    ·subst a0;exact .inr e.symm
    exact .inl ⟨j,zo,e⟩
   refine List.pairwise_append.2 ⟨ih.pw,by simp,fun a ha b hb=>?_⟩;rw[Gs]at hb;subst hb;obtain⟨j,hj,rfl⟩:=(ih.mem a).1 ha;simp only[Kp,decide_eq_true_eq]at hk;have h1:=hs j (m-1) zo zo;have h2:=hs (m-1) m zo zo
   rcases hk with hk|hk
   ·omega
   omega
  rw[if_neg hk,IL];refine⟨fun x=>?_,ih.pw⟩;rw[ih.mem]
  constructor
  ·rintro⟨j,hj,e⟩;exact⟨j,zo,e⟩
  rintro⟨j,hj,e⟩
  by_cases a0:j=m
  ·subst a0;simp only[Kp,decide_eq_true_eq,not_or]at hk;obtain⟨h1,h2⟩:=hk;exact⟨j-1,zo,by rw[<-e];exact(Gp fun a1=>h2 fun e2=>a1 e2.symm)⟩
  exact⟨j,zo,e⟩
theorem qI(l:List Int):(gm l).Pairwise (·<=·):=by
 have:=List.pairwise_mergeSort (le:=fun x y:Int=>decide (x<=y)) (fun a b c h1 h2=>by simp at h1 h2 ⊢;omega) (fun a b=>by simp;omega) l;exact this.imp fun h=>by simpa using h
theorem yg(l:List Int)(x:Int):x∈gm l↔x∈l:=List.mem_mergeSort ..
theorem rW(l:List Int):(∀x,x∈oM l↔x∈l)/\(oM l).Pairwise (· < ·):=by
 have hp:=qI l;have a0:∀j,j<(gm l).length->(gm l).toArray[j]! = nth (gm l) j:=fun j hj=>by
  rw[aB hj,getElem!_pos _ j (by simpa using hj)];simp
 have h:=ve (gm l).toArray (fun i j a1 hj=>by
  have hj:j<(gm l).length:=by simpa using hj
  rw[a0 i zo,a0 j hj]
  by_cases e:i=j
  ·subst e;exact JQ _
  have:=List.pairwise_iff_getElem.1 hp i j zo hj zo
  rw[aB zo,aB hj];exact this) (gm l).length (by simp)
 refine⟨fun x=>?_,h.pw⟩;show x∈It _ _↔_;rw[h.mem,<-yg l x]
 constructor
 ·rintro⟨j,hj,rfl⟩;rw[a0 j hj];exact aN hj
 intro hx;obtain⟨j,hj,rfl⟩:=Gm hx;exact⟨j,hj,a0 j hj⟩
theorem rV(l:List Int)(x:Int):x∈oM l↔x∈l:=(rW l).1 x
theorem vf(l:List Int):(oM l).Pairwise (· < ·):=(rW l).2
theorem AR{a:List Int}(h:a.Pairwise (· < ·)){n:Nat}(hb:∀x∈a,0<=x/\x.toNat<n):a.length<=n:=by
 have hn:(a.map Int.toNat).Nodup:=by
  refine List.pairwise_map.2 (h.imp_of_mem fun {x y} hx hy a0=>?_);have:=hb x hx;have:=hb y hy;omega
 have:=fx hn (n:=n) fun x hx=>by
  obtain⟨y,hy,rfl⟩:=Ia.1 hx;exact(hb y hy).2
 simpa using this
mutual
def cO:Nd->Nat
 |.mk k _ l=>if l.isEmpty=true/\k≠9 then 1 else aQ l
def aQ:List Nd->Nat
 |[]=>0
 |t::r=>cO t+aQ r
end
mutual
/-- Parts stand where parts may stand. -/
def vS:Nd->Bool
 |.mk k _ l=>(if k=4\/k=5\/k=6\/k=7\/k=8 then !l.isEmpty else l.isEmpty)&&iZ l
def iZ:List Nd->Bool
 |[]=>true
 |t::r=>vS t&&iZ r
end
mutual
theorem eR:∀(t:Nd) (a b:Nat) (g:Gr),vS t=true->gp t=true->(fe t a b g).ls.length=g.ls.length+cO t
 |.mk k c l,a,b,g,hk,hs=>by
  unfold vS at hk
  unfold gp at hs
  simp only[GF]at hk hs
  obtain⟨hk1,hk2⟩:=hk
  obtain⟨hs1,hs2⟩:=hs
  unfold fe cO
  by_cases h4:k=4
  ·rw[if_pos zo]at hk1
   rw[if_pos h4,mw l a b g hk2 hs2,if_neg (by rintro⟨e,_⟩;rw[e]at hk1;simp at hk1)]
  rw[if_neg h4]
  by_cases h5:k=5
  ·rw[if_pos zo]at hk1
   rw[if_pos h5,my l a b g hk2 hs2,if_neg (by rintro⟨e,_⟩;rw[e]at hk1;simp at hk1)]
  rw[if_neg h5]
  by_cases h678:k=6\/k=7\/k=8
  ·rw[if_pos zo]at hk1
   rw[if_neg h4,if_pos h678]at hs1
   have hO:∀(k:Int) (g:Gr) (i:Nat),(layO k g i).ls=g.ls:=fun k g i=>by unfold layO;split<;>split<;>rfl
   rw[if_pos h678,hO,tE l _ _ _ hk2 hs2 (of_decide_eq_true hs1),if_neg (by rintro⟨e,_⟩;rw[e]at hk1;simp at hk1)]
   rfl
  rw[if_neg h678]
  rw[if_neg zo]at hk1
  have hl:l=[]:=by simpa using hk1
  subst hl
  by_cases h9:k=9
  ·rw[if_pos h9,if_neg (by rintro⟨_,e⟩;exact e h9)]
   rfl
  rw[if_neg h9,if_pos ⟨rfl,h9⟩]
  simp[Gr.leaf]
theorem mw:∀(l:List Nd) (a b:Nat) (g:Gr),iZ l=true->dB l=true->(nc l a b g).ls.length=g.ls.length+aQ l
 |[],_,_,g,_,_=>by simp[nc,aQ]
 |t::r,a,b,g,hk,hs=>by
  unfold iZ at hk
  unfold dB at hs
  simp only[GF]at hk hs
  unfold nc aQ
  split
  ·rename_i hr
   have hr:r=[]:=by simpa using hr
   subst hr
   rw[eR t a b g hk.1 hs.1];simp[aQ]
  rw[mw r _ _ _ hk.2 hs.2,eR t _ _ _ hk.1 hs.1]
  show g.ls.length+_+_=_
  omega
theorem my:∀(l:List Nd) (a b:Nat) (g:Gr),iZ l=true->dB l=true->(nf l a b g).ls.length=g.ls.length+aQ l
 |[],_,_,g,_,_=>by simp[nf,aQ]
 |t::r,a,b,g,hk,hs=>by
  unfold iZ at hk
  unfold dB at hs
  simp only[GF]at hk hs
  unfold nf aQ
  rw[my r _ _ _ hk.2 hs.2,eR t _ _ _ hk.1 hs.1]
  omega
theorem tE:∀(l:List Nd) (a b:Nat) (g:Gr),iZ l=true->dB l=true->l.length=1->(ou l a b g).ls.length=g.ls.length+aQ l
 |[],_,_,g,_,_,h=>by simp at h
 |t::r,a,b,g,hk,hs,h=>by
  have hr:r=[]:=by simpa using h
  subst hr
  unfold iZ at hk
  unfold dB at hs
  simp only[GF]at hk hs
  unfold ou
  rw[eR t _ _ _ hk.1 hs.1];simp[aQ]
end
theorem lh:∀(xs:List Nd) (i:Nat) (g:Gr),iZ xs=true->dB xs=true->(dj xs i g).ls.length=g.ls.length+aQ xs
 |[],_,g,_,_=>by simp[dj,aQ]
 |x::r,i,g,hk,hs=>by
  unfold iZ at hk;unfold dB at hs;simp only[GF]at hk hs;unfold dj aQ;rw[lh r _ _ hk.2 hs.2,qV,eR x _ _ _ hk.1 hs.1];show g.ls.length+_+_=_;omega
def sJ(g:Gr):Nat:=(g.ks.map fun k=>k.2.1.length).sum
theorem oX(f:Kt->Nat):∀(l:List Kt) (a:Nat) (x:Kt),a<l.length->((l.set a x).map f).sum+f (nth l a)=(l.map f).sum+f x
 |[],a,_,h=>absurd h (I3 a)
 |y::l,0,x,_=>by rw[au];simp;omega
 |y::l,a+1,x,h=>by
  have:=oX f l a x (by simpa using h);rw[bp];simp only[List.set_cons_succ,Gu,Jq];omega
theorem Bj(g:Gr):sJ g.knot=sJ g:=by simp[sJ,Gr.knot]
theorem Bo{g:Gr}{a b:Nat}(ha:a<g.ks.length):sJ (g.free a b)=sJ g:=by
 have:=oX (fun k=>k.2.1.length) g.ks a (g.fr a++[b],g.lv a,g.en a) ha;unfold sJ Gr.free;simp only[Gr.lv]at this ⊢;omega
theorem A6{g:Gr}{a b:Nat}(ha:a<g.ks.length):sJ (g.mark a b)=sJ g:=by
 have:=oX (fun k=>k.2.1.length) g.ks a (g.fr a,g.lv a,b) ha;unfold sJ Gr.mark;simp only[Gr.lv]at this ⊢;omega
theorem Ba{g:Gr}{x c:Int}{a b:Nat}(ha:a<g.ks.length):sJ (g.leaf x c a b)=sJ g+1:=by
 have:=oX (fun k=>k.2.1.length) g.ks a (g.fr a,g.lv a++[g.ls.length+1],g.en a) ha;unfold sJ Gr.leaf;simp only[Gr.lv,GM,Ib,IK]at this ⊢;omega
def Tot(g:Gr):Prop:=sJ g=g.ls.length
theorem Tot.knot{g:Gr}(h:Tot g):Tot g.knot:=(Bj g).trans h
theorem Tot.free{g:Gr}(h:Tot g){a b:Nat}(ha:a<g.ks.length):Tot (g.free a b):=(Bo ha).trans h
theorem Tot.mark{g:Gr}(h:Tot g){a b:Nat}(ha:a<g.ks.length):Tot (g.mark a b):=(A6 ha).trans h
theorem Tot.leaf{g:Gr}(h:Tot g){x c:Int}{a b:Nat}(ha:a<g.ks.length):Tot (g.leaf x c a b):=by
 unfold Tot;rw[Ba ha,mq];simp;exact h
theorem Tot.layO{g:Gr}(h:Tot g){k:Int}{i:Nat}(hi:i+1<g.ks.length):Tot (layO k g i):=by
 unfold Go.Proofs.YtpfpmhhigheccaaGreatDoor.layO;split<;>split
 ·exact h
 ·exact h.free zo
 ·exact h.free hi
 exact(h.free zo).free (by rw[aW];exact hi)
mutual
theorem jH:∀(t:Nd) (a b:Nat) (g:Gr),WF g->a<g.ks.length->b<g.ks.length->Tot g->Tot (fe t a b g)
 |.mk k c l,a,b,g,h,ha,hb,hM=>by
  unfold fe
  split
  ·exact uN l a b g h ha hb hM
  split
  ·exact uO l a b g h ha hb hM
  split
  ·have hl:=dO g a b
   have hwf:=eL h ha hb
   obtain⟨h1,h2⟩:=mx l g.ks.length (g.ks.length+1) (bK g a b) hwf zo zo
   have:=h2.len
   have hk2:g.knot.knot.ks.length=g.ks.length+2:=by rw[aH,aH]
   have h3:=Bh l g.ks.length (g.ks.length+1) (bK g a b) hwf zo zo ((hM.knot.knot.free zo).free (by rw[aW];omega))
   exact h3.layO (by show _<(ou l g.ks.length (g.ks.length+1) (bK g a b)).ks.length;omega)
  split
  ·exact hM.free ha
  exact hM.leaf ha
theorem uN:∀(l:List Nd) (a b:Nat) (g:Gr),WF g->a<g.ks.length->b<g.ks.length->Tot g->Tot (nc l a b g)
 |[],_,_,g,_,_,_,hM=>hM
 |t::r,a,b,g,h,ha,hb,hM=>by
  unfold nc
  split
  ·exact jH t a b g h ha hb hM
  have hl:=aH g
  obtain⟨h1,h2⟩:=cp t a g.ks.length g.knot h.knot zo zo
  have:=h2.len
  exact uN r _ _ _ h1 zo zo (jH t _ _ _ h.knot zo zo hM.knot)
theorem uO:∀(l:List Nd) (a b:Nat) (g:Gr),WF g->a<g.ks.length->b<g.ks.length->Tot g->Tot (nf l a b g)
 |[],_,_,g,_,_,_,hM=>hM
 |t::r,a,b,g,h,ha,hb,hM=>by
  unfold nf
  obtain⟨h1,h2⟩:=cp t a b g h ha hb
  have:=h2.len
  exact uO r _ _ _ h1 zo zo (jH t a b g h ha hb hM)
theorem Bh:∀(l:List Nd) (a b:Nat) (g:Gr),WF g->a<g.ks.length->b<g.ks.length->Tot g->Tot (ou l a b g)
 |[],_,_,g,_,_,_,hM=>hM
 |t::_,a,b,g,h,ha,hb,hM=>by
  unfold ou
  exact jH t a b g h ha hb hM
end
theorem AW{g:Gr}(h:WF g)(h0:0<g.ks.length)(x:Nd)(i:Nat)(ht:Tot g):Tot (qV x i g):=by
 have e1:=aH g;have e2:=dd g.knot g.ks.length (i+1);have e3:=aH (g.knot.mark g.ks.length (i+1));have hl:=eE g i;exact jH x _ _ _ (gk h h0 i).1 zo zo (((ht.knot.mark zo).knot).free zo)
theorem rZ:∀(xs:List Nd) (i:Nat) (g:Gr),WF g->0<g.ks.length->Tot g->Tot (dj xs i g)
 |[],_,_,_,_,ht=>ht
 |x::r,i,g,h,h0,ht=>by
  obtain⟨h1,h2,h3⟩:=pC h h0 x i;exact rZ r (i+1) _ h1 zo (AW h h0 x i ht)
theorem oZ(f:Kt->Nat)(l:List Kt):(l.map f).sum=((GS l.length).map fun i=>f (nth l i)).sum:=by
 congr 1;apply List.ext_getElem
 ·simp
 intro i h1 h2;simp only[Kd,JV];rw[aB (by simpa using h1)]
theorem xZ(f:Nat->Nat)(n:Nat):∀(l:List Nat),l.Nodup->(l.map f).sum<=((l.filter fun x=>x != n).map f).sum+f n
 |[],_=>by simp
 |a::l,h=>by
  have h':=List.nodup_cons.1 h
  by_cases e:a=n
  ·subst e;have hf:(l.filter fun x=>x != a)=l:=List.filter_eq_self.2 fun x hx=>by
    simp only[bne_iff_ne,ne_eq];intro e;exact h'.1 (by rw[<-e];exact hx)
   rw[List.filter_cons_of_neg (by simp),hf];simp;omega
  have:=xZ f n l h'.2;rw[List.filter_cons_of_pos (by simpa using e)];simp only[Gu,Jq];omega
theorem qD(f:Nat->Nat):∀(n:Nat) (l:List Nat),l.Nodup->(∀x∈l,x<n)->(l.map f).sum<=((GS n).map f).sum
 |0,l,_,h=>by
  have:l=[]:=by cases l with
   |nil=>rfl
   |cons a r=>exact absurd (h a (by simp)) (I3 _)
  subst this;simp
 |n+1,l,hn,h=>by
  have h1:=xZ f n l hn;have h2:=qD f n (l.filter fun x=>x != n) (hn.filter _) fun x hx=>by
   have hx:=IJ.1 hx;have:=h x hx.1;have:x≠n:=by simpa using hx.2
   omega
  rw[List.range_succ,Jf,List.sum_append];simp only[Gu,GJ,Jq,List.sum_nil];omega
theorem sX{g:Gr}(hw:WF g){k:Nat}(hk:k<g.ks.length):(eu g k).Nodup/\∀x∈eu g k,x<g.ks.length:=by
 have a0:∀(n i:Nat) (l:List Nat),Rc g k i l->(gx g n i l).Nodup/\∀x∈gx g n i l,x<g.ks.length:=fun n=>by
  induction n with
  |zero=>exact fun i l h=>⟨h.nd,h.lt⟩
  |succ n ih=>
   intro i l h;unfold gx
   split
   ·rename_i hi;exact ih _ _ (h.step hw hi)
   exact⟨h.nd,h.lt⟩
 exact a0 _ _ _ (qk hk)
theorem rM(f:Nat->List Nat):∀(l:List Nat),(l.flatMap f).length=(l.map fun k=>(f k).length).sum
 |[]=>rfl
 |a::l=>by simp
theorem uI{g:Gr}(hw:WF g)(ht:Tot g){p:Nat}(hp:g.pl p<g.ks.length):(cn g p).length<=g.ls.length:=by
 obtain⟨h1,h2⟩:=sX hw hp;unfold cn;rw[rM];have:=qD (fun k=>(g.lv k).length) g.ks.length _ h1 h2;have e:((GS g.ks.length).map fun k=>(g.lv k).length).sum=sJ g:=(oZ (fun k=>k.2.1.length) g.ks).symm;rw[e,ht]at this;exact this
def DE(se:Bool)(g:Gr)(s:List Int)(m:Int):List Int:=
 (if se=true then [0]else [])++s.flatMap fun p=>((cn g p.toNat).filter fun j=>cQ (nth g.ls (j-1)).1 (nth g.ls (j-1)).2.1 m).map fun(j:Nat)=>(j:Int)
def cG(se:Bool)(g:Gr)(s:List Int)(m:Int):List Int:=oM (DE se g s m)
theorem qG(se:Bool)(g:Gr):Stp g se (cG se g):=⟨fun s m x=>by
 unfold cG DE;rw[rV,GC,Ja]
 constructor
 ·rintro(h|⟨p,hp,h⟩)
  ·cases se with
   |true=>rw[if_pos rfl]at h;exact .inl ⟨rfl,Gs.1 h⟩
   |false=>rw[if_neg zd]at h;simp at h
  obtain⟨j,hj,rfl⟩:=Ia.1 h;obtain⟨h1,h2⟩:=IJ.1 hj;exact .inr ⟨p,hp,j,h1,rfl,h2⟩
 rintro(⟨h,rfl⟩|⟨p,hp,j,h1,rfl,h2⟩)
 ·rw[if_pos h];exact .inl (by simp)
 exact .inr ⟨p,hp,Ia.2 ⟨j,IJ.2 ⟨h1,h2⟩,rfl⟩⟩⟩
theorem AO{se:Bool}{g:Gr}(hw:WF g)(h0:0<g.ks.length){s:List Int}(hs:inP g s)(m:Int):(cG se g s m).length<=g.ls.length+1:=
 AR (vf _) fun x hx=>by have:=ye hw h0 (qG se g) hs m x hx;exact⟨this.1,zo⟩
theorem Cy{se:Bool}{g:Gr}(hw:WF g)(h0:0<g.ks.length)(ht:Tot g){m:Int}:∀ {s:List Int},inP g s->(DE se g s m).length<=1+s.length*g.ls.length:=fun {s} hs=>by
 have a0:∀(s:List Int),inP g s->(s.flatMap fun p=>((cn g p.toNat).filter fun j=>cQ (nth g.ls (j-1)).1 (nth g.ls (j-1)).2.1 m).map fun(j:Nat)=>(j:Int)).length<=s.length*g.ls.length:=fun s=>by
  induction s with
  |nil=>intro _;simp
  |cons p s ih=>
   intro h;have h1:=ih fun x hx=>h x (by simp[hx])
   have h2:=uI hw ht (tf hw h0 (h p (by simp)).2);have h3:=JC (fun j=>cQ (nth g.ls (j-1)).1 (nth g.ls (j-1)).2.1 m) (cn g p.toNat);simp only[I6,GM,Km,Ib,IB,Nat.one_mul];omega
 have:=a0 s hs;unfold DE;rw[GM]
 split
 ·rw[List.length_singleton];omega
 rw[IK];omega
end
section
open Go.VL Go.Proofs
set_option maxRecDepth 10000
def AE(S:List (List Int))(s:List Int):Option Nat:=S.findIdx? (· == s)
def AC(S:List (List Int))(s:List Int):Nat:=(AE S s).getD S.length
def pF(S:List (List Int))(s:List Int):List (List Int):=if(AE S s).isSome=true then S else S++[s]
theorem zq{S:List (List Int)}{s:List Int}{k:Nat}(h:AE S s=some k):k<S.length/\nth S k=s:=by
 obtain⟨h1,h2,_⟩:=List.findIdx?_eq_some_iff_getElem.1 h;exact⟨h1,by rw[aB h1];simpa using h2⟩
theorem uE(S:List (List Int))(s:List Int):∃r,pF S s=S++r:=by
 unfold pF
 split
 ·exact⟨[],by simp⟩
 exact⟨_,rfl⟩
theorem CE(S:List (List Int))(s:List Int):AC S s<(pF S s).length/\nth (pF S s) (AC S s)=s:=by
 unfold AC pF
 cases h:AE S s with
 |some k=>exact zq h
 |none=>
  simp only[Option.getD_none,Option.isSome_none,JY,if_false];exact⟨by simp,by rw[ay,if_neg zo,Nat.sub_self,au]⟩
theorem AY(S:List (List Int))(s:List Int):S.length<=(pF S s).length/\(pF S s).length<=S.length+1:=by
 unfold pF
 split
 ·omega
 simp
theorem AX{S:List (List Int)}{s:List Int}{k:Nat}(h:k<S.length):nth (pF S s) k=nth S k:=by
 obtain⟨r,hr⟩:=uE S s;rw[hr,ay,if_pos h]
def cZ(step:List Int->Int->List Int)(s:List Int)(S:List (List Int)):Nat->List (List Int)×List Nat
 |0=>(S,[])
 |m+1=>(pF (cZ step s S m).1 (step s (m:Nat)),(cZ step s S m).2++[AC (cZ step s S m).1 (step s (m:Nat))])
structure RowI(step:List Int->Int->List Int)(s:List Int)(S S':List (List Int))(r:List Nat)(m:Nat):Prop where
 pre:∃q,S'=S++q
 top:S'.length<=S.length+m
 len:r.length=m
 lt:∀j,j<m->nth r j<S'.length/\nth S' (nth r j)=step s (j:Nat)
 mem:∀x∈S',x∈S\/∃j:Nat,j<m/\x=step s (j:Nat)
theorem jx(step:List Int->Int->List Int)(s:List Int)(S:List (List Int)):∀m,RowI step s S (cZ step s S m).1 (cZ step s S m).2 m
 |0=>⟨⟨[],by simp[cZ]⟩,by simp[cZ],rfl,fun j hj=>absurd hj (I3 j),fun x hx=>.inl hx⟩
 |m+1=>by
  have ih:=jx step s S m;unfold cZ;generalize cZ step s S m=R at *;obtain⟨S1,r⟩:=R;dsimp only at ih ⊢;obtain⟨q,hq⟩:=ih.pre;obtain⟨q2,a4⟩:=uE S1 (step s (m:Nat));have a5:=CE S1 (step s (m:Nat));have hl:=AY S1 (step s (m:Nat));have a0:=ih.top;have a3:=ih.len;refine⟨⟨q++q2,by rw[a4,hq,Gy]⟩,zo,by simp[a3],fun j hj=>?_,fun x hx=>?_⟩
  ·rw[ay]
   by_cases e:j<r.length
   ·rw[if_pos e];obtain⟨a1,a2⟩:=ih.lt j zo;exact⟨zo,by rw[AX a1];exact a2⟩
   rw[if_neg e,show j-r.length=0 from by omega,au];obtain rfl:j=m:=zo;exact a5
  unfold pF at hx
  split at hx
  ·rcases ih.mem x hx with h|⟨j,hj,e⟩
   ·exact .inl h
   exact .inr ⟨j,zo,e⟩
  rcases GC.1 hx with hx|hx
  ·rcases ih.mem x hx with h|⟨j,hj,e⟩
   ·exact .inl h
   exact .inr ⟨j,zo,e⟩
  exact .inr ⟨m,zo,Gs.1 hx⟩
def C3(step:List Int->Int->List Int)(tells:List Int->Nat):Nat->Nat->List (List Int)->List (List Nat)->List Nat->Option (List (List Nat)×List Nat)
 |0,_,_,_,_=>none
 |n+1,i,S,rows,tls=>
  if i<S.length then
   if 1000<(cZ step (nth S i) S 37).1.length then none
   else C3 step tells n (i+1) (cZ step (nth S i) S 37).1 (rows++[(cZ step (nth S i) S 37).2]) (tls++[tells (nth S i)])
  else some (rows,tls)
def BY(step:List Int->Int->List Int)(a0:List Int->Nat):Option (List (List Nat)×List Nat):=C3 step a0 1002 0 [[0]] [] []
structure DI(step:List Int->Int->List Int)(tells:List Int->Nat)(i:Nat)(S:List (List Int))(rows:List (List Nat))(tls:List Nat):Prop where
 le:i<=S.length
 rl:rows.length=i
 tl:tls.length=i
 p0:0<S.length
 fst:nth S 0=[0]
 len:S.length<=1000
 row:∀j,j<i->(nth rows j).length=37/\∀m:Nat,m<37->nth (nth rows j) m<S.length/\nth S (nth (nth rows j) m)=step (nth S j) (m:Nat)
 tel:∀j,j<i->nth tls j=tells (nth S j)
theorem vx(step:List Int->Int->List Int)(a0:List Int->Nat):DI step a0 0 [[0]] [] []:=⟨zd,rfl,rfl,zd,au _ _,zd,fun j hj=>absurd hj (I3 j),fun j hj=>absurd hj (I3 j)⟩
theorem DI.next{step:List Int->Int->List Int}{a3:List Int->Nat}{i:Nat}{S:List (List Int)}{rows:List (List Nat)}{a4:List Nat}(h:DI step a3 i S rows a4)(hi:i<S.length)(hl:(cZ step (nth S i) S 37).1.length<=1000):
  DI step a3 (i+1) (cZ step (nth S i) S 37).1 (rows++[(cZ step (nth S i) S 37).2]) (a4++[a3 (nth S i)]):=by
 have hr:=jx step (nth S i) S 37;generalize cZ step (nth S i) S 37=R at *;obtain⟨S1,r⟩:=R;dsimp only at hr hl ⊢;obtain⟨q,hq⟩:=hr.pre;have a0:∀k,k<S.length->nth S1 k=nth S k:=fun k hk=>by rw[hq,ay,if_pos hk]
 have a5:S.length<=S1.length:=by rw[hq];simp
 have h1:=h.rl;have h2:=h.tl;have h3:=h.p0;refine⟨zo,by simp[h1],by simp[h2],zo,by rw[a0 0 h3];exact h.fst,hl,fun j hj=>?_,fun j hj=>?_⟩
 ·rw[ay]
  by_cases e:j<rows.length
  ·rw[if_pos e];obtain⟨a1,a2⟩:=h.row j zo;refine⟨a1,fun m hm=>?_⟩;obtain⟨b1,b2⟩:=a2 m hm;exact⟨zo,by rw[a0 _ b1,a0 j zo];exact b2⟩
  rw[if_neg e,show j-rows.length=0 from by omega,au];obtain rfl:j=i:=zo;refine⟨hr.len,fun m hm=>?_⟩;obtain⟨b1,b2⟩:=hr.lt m hm;exact⟨b1,by rw[a0 j hi];exact b2⟩
 rw[ay]
 by_cases e:j<a4.length
 ·rw[if_pos e,a0 j zo];exact h.tel j zo
 rw[if_neg e,show j-a4.length=0 from by omega,au];obtain rfl:j=i:=zo;rw[a0 j hi]
theorem rS{step:List Int->Int->List Int}{a0:List Int->Nat}:∀(n i:Nat) (S:List (List Int)) (rows:List (List Nat)) (a1:List Nat) (d:List (List Nat)×List Nat),DI step a0 i S rows a1->C3 step a0 n i S rows a1=some d->∃S',DI step a0 S'.length S' d.1 d.2
 |0,_,_,_,_,_,_,h=>by cases h
 |n+1,i,S,rows,a1,d,hd,h=>by
  unfold C3 at h
  split at h
  ·rename_i hi
   split at h
   ·cases h
   exact rS n _ _ _ _ d (hd.next hi zo) h
  rename_i hi
  cases h
  have:=hd.le;obtain rfl:i=S.length:=zo;exact⟨S,hd⟩
theorem rR{step:List Int->Int->List Int}{a0:List Int->Nat}{d:List (List Nat)×List Nat}(h:BY step a0=some d):∃S,DI step a0 S.length S d.1 d.2:=rS _ _ _ _ _ d (vx _ _) h
def sC(s:List Int):List UInt8:=s.flatMap fun p=>[Io (p.toNat / 256),Io (p.toNat % 256)]
def okS(s:List Int):Prop:=∀x∈s,0<=x/\x.toNat<=999
theorem uQ:∀ {s t:List Int},okS s->okS t->sC s=sC t->s=t
 |[],[],_,_,_=>rfl
 |[],b::t,_,_,h=>by simp[sC]at h
 |a::s,[],_,_,h=>by simp[sC]at h
 |a::s,b::t,hs,ht,h=>by
  have h1:=hs a (by simp);have h2:=ht b (by simp);unfold sC at h;simp only[I6,GW,II,J3]at h;obtain⟨e1,e2,e3⟩:=h;have e1:=congrArg KG e1;have e2:=congrArg KG e2;simp only[JN]at e1 e2;have:a=b:=zo;subst this;rw[uQ (fun x hx=>hs x (by simp[hx])) (fun x hx=>ht x (by simp[hx])) e3]
end
end Go.Proofs.YtpfpmhhigheccaaGreatDoor
