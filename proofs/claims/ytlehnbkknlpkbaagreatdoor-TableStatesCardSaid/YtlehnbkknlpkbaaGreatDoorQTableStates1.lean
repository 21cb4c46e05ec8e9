/- Texts that the proof of this statement needs, merged and shortened. -/
import Derived.Test.YtlehnbkknlpkbaaGreatDoorRows
import Derived.Test.YtlehnbkknlpkbaaGreatDoorCards
import Derived.Test.YtlehnbkknlpkbaaGreatDoorTie
import Derived.SevenTiedAt
import Derived.LaidMore
import Derived.LaidHandle
import Derived.LaidLaws
import Derived.Lay
import Derived.Lib.LaidTab
import Derived.Calls
import Derived.Tactics
import Derived.Deep.Quiet
import Derived.Below
import Derived.OwnWalk
import Derived.IntWalk
import Derived.Deep.LoopGhost
import Derived.Great.BuildSlice
import Derived.OrdersHeld
import Derived.StillTail
import Derived.WalkKit
import Derived.ProofKit
import Derived.OpenShut
import Derived.ShutString
import Derived.ChangeOld
import Derived.Deep.Matrix
import Derived.Deep.Slices
import Derived.Laws.Strings3
import Derived.Laws.Concat
import Derived.Laws.Slices
import Derived.Laws.Cover3
import Derived.Laws.Pointers
import Derived.Laws.OwnMore
import Derived.Laws.IdiomStrings
import Derived.Laws.BytesArg
import Derived.RangeFuncLeaves
import Derived.RangeFuncCalls
import Derived.RangeFuncSeq
import Derived.TacticsIn
import Derived.Laws.LoneSync
import Derived.Laws.CopyRow
import Derived.Lib.Builder
import Derived.Lib.AppendStr
import Derived.Lib.UnsafeStr
import Derived.Shelf.Sort.Plain
import Derived.Shelf.Slices.In.SortNone
import Derived.Ground.Names2Prog
import Derived.Shelf.Slices.CompactI
import Derived.Test.YtlehnbkknlpkbaaGreatDoorProg
import Derived.Sort.OwnSortedInts
import Derived.Maps.RangeRun
import Derived.ChangeKeysEq
import Derived.Lib.SliceRun
import Derived.Test.YtlehnbkknlpkbaaGreatDoorChecked
import Derived.Laws.RangeString
import Derived.Scope
import Derived.Shelf.Spec.TrailingZeros
import Derived.ArgAppend
import Derived.Deep.Upon
open Go renaming Value->ix,World->ln,TypeId->ow,Operand->oD,Program->ps,IntKind->rk,Oper->su,sizeOf->uu,Exit->uw,Addr->vX,Deferred->zl,Act->A2,Edge->CR,Code->Dc,zeroValue->De,FuncId->J6,isAgg->Ky,MapEntry->KB,Calls->KZ,Func->L3,Tmp->Le,Field->Ly,BinOp->Lz
open Go.Result renaming andThen_ok->ox
open Nat renaming blt->oz,eq_of_beq_eq_true->qN,lt_of_lt_of_le->sx,le_refl->th,not_lt_zero->uY,zero_le->vg,zero_add->vO,le_trans->ze,beq->zf,le_of_ble_eq_true->CX,mul_one->J4,add_mul->J5,zero_mul->Ju,min_eq_left->JD,add_zero->JU,pos_of_ne_zero->Kk,ble->Kq,zero_testBit->KA,testBit_or->KL,add_assoc->KW,sub_self->L1,add_comm->L2
open Array renaming getD_eq_getD_getElem?->oU,replicate->Jz,getElem?_setIfInBounds->JA,toList_setIfInBounds->JG,getElem?_modify->JQ,toList_modify->K0,length_toList->K1,toList_push->Ke
open Go.Sem renaming run_bind->pc,run_pure->sN,run->JH
open Go.Proofs.Tryz renaming prog->pN,sizeOf3->uh,sizeOf22->BG,underlying35->CZ,underlying228->DH,underlying167->DN,underlying116->DZ,sizeOf4->Gv,underlying262->GT,underlying185->GY,underlying170->GZ,underlying30->J3,sizeOf28->JR,underlying194->K2,underlying190->K4,underlying187->K5,underlying85->Kf,underlying83->Kg,underlying41->Kh,underlying22->Ki,sizeOf9->Kj,sizeOf83->Kx,sizeOf50->L7,sizeOf31->L8,underlying260->La,underlying243->Lb,underlying139->Lc,underlying114->Ld,underlying86->Lj,underlying33->Lk,isAgg22->Ll,zeroValue22->Lt,underlying4->Lu,underlying3->Lv,underlying0->Lw,zeroValue4->LA,zeroValue3->LB,zeroValue0->LC,isAgg4->LD,isAgg3->LF
open List renaming mem_singleton->pR,map_toArray->pZ,eq_nil_of_length_eq_zero->rf,map_cons->ri,mem_append->sP,append_assoc->tp,map_nil->tG,length_append->tR,getD_eq_getElem?_getD->ug,getElem?_eq_some_iff->uV,cons_append->yr,append_nil->zI,take_append_drop->Ae,flatMap_cons->As,range->AW,length_cons->Bh,findIdx?_cons->BV,mem_map->BW,mem_cons->Db,nil_append->Dd,replicate->Fu,mem_range->FJ,getElem?_eq_getElem->G6,getElem_mem->Gh,any_eq_true->Gi,mem_filter->I4,length_nil->Ib,foldl_cons->IJ,getElem?_eq_none->J0,dropWhile_suffix->J1,take_succ_eq_append_getElem->Jr,size_toArray->Js,getElem?_map->Jt,mem_flatMap->Jv,map_append->JB,map->JI,sum_cons->JL,getElem_cons_zero->JO,drop_eq_nil_of_le->JP,length_filter_le->JV,mem_append_left->JY,getElem?_modify->JZ,getElem_of_mem->K6,pairwise_cons->Ka,find?_eq_none->Kb,nodup_append->Kl,ext_getElem?->Km,take->Kr,suffix_cons->Ku,all_eq_true->Kv,length_map->KC,take_zero->KG,take_left->KH,findIdx?->KM,any_cons->KN,all_cons->KO
open Classical renaming byContradiction->qy
open Bool renaming and_eq_true->rj,false_or->JM,false_eq_true->Kd,eq_iff_iff->KE,or_assoc->KT
open Go.Region renaming ready->rm,noSelect->rI,wanted->rU,free->sQ
open Int renaming toNat_natCast->tq,le_refl->JC
open Go.Calls renaming mono->tJ
open Option renaming map_some->uM,map_none->yJ,bind_some->K8
open Go.Instr renaming sureAddr->xK,findNow->CY,fill->Fo,storeAt->J8,keyThatStays->Jo,mapUpdate->Jw,sameBits->JE,checkKey->JF,indexAt->JJ,findKey->JK,sameNow->KI,lookup->KP,loadAt->KQ,build->KX
open Go.Lib renaming compact->yP,compactUpTo->DA,keeps->KD
open Go.Exit renaming inBlock->yY
open Go.Addr renaming add->zR
open Go.Value renaming oneCell'->AK,int->C2,ownBlock->Fm,cells->JS,string->KK,bool->L0
open Go.Act renaming eval->B1,put->J9
open Go.Fence renaming wide->BJ
open List.cons renaming injEq->C9
open Go.Oper renaming wp->Da,upon->Gc,uponIn->JX,still->L6
open Go.Deferred renaming ofValue->FX
open Go.World renaming block_lt_of_cell?->Gb,setCell->J7,frozen?->KF,cell?->KU
open Go.IntKind renaming signed->IP,bits->Jn,max->JN,wrap->LL
open Option.some renaming injEq->J2,inj->L9
open Go.Op renaming intCmp->Ji,intArith->K9,intBits->Li,shift->Lx
open Go.Builtin renaming zeroCells->Jp,append_->Kc,len_->LO,lenOf->LP,firstCells->LQ
open Go.RowKit.Below renaming heap_setCell->Jq,refl->L4,heap_alloc->L5
open Go.Code renaming region->Jy
open UInt8 renaming ofNat->JT,toNat->KV
open Function renaming comp_def->JW
open Go.Sort renaming ahead->K7
open Go.Rows renaming mono->Ko
open Prod.mk renaming injEq->Kp
open Go.Shelf renaming Ren->Kw
open Go.Program renaming elem->Kz
open BitVec renaming ofInt->KJ
open Go.Proofs.Lays2 renaming n20->KR
open Go.Conv renaming intToInt->KS
open Go.Proofs.Lays renaming n189->KY
open Prod renaming fst->Lh
open Go.ByteArray renaming toList_mk->Lm,extract_mk->Lq
open ByteArray renaming toList->Ln,size->Lo,getElem_eq_getElem_data->Lp,ext->Lr,data_append->Ls
open Go.StepsIn renaming trans->LG
open Go.Machine renaming fenced->LH
open Go.IntWalk renaming u8_in->LJ,i64_in->LK
open Go.CallsIn renaming mono->LN
namespace Go.VL
theorem zo{A:Prop}(h:A:=by omega):A:=h
theorem zd{A:Prop}(h:A:=by decide):A:=h
theorem zk{A:Prop}(h:A:=by kernel_rfl):A:=h
theorem dT{p q:Prop}[Decidable p](h:decide p=true)(k:p→q:=by intro h;omega):q:=k (of_decide_eq_true h)
theorem dF{p q:Prop}[Decidable p](h:decide p=false)(k:¬p→q:=by intro h;omega):q:=k (of_decide_eq_false h)
abbrev nI(n:Int):ix:=.int .i64 n
abbrev nP(b:Nat):ix:=.pointer (some ⟨b,0,none⟩)
abbrev nA(b k:Nat):vX:=(⟨b,0,none⟩:vX).add k
abbrev nS:ix:=.slice none 0 0
end Go.VL
section
namespace Go.VL
abbrev St:=List (Nat×ix)
def cC:St->Nat->Option ix
 |[],_=>none
 |(k,v)::r,t=>bif zf k t then some v else cC r t
structure Fits(N:Nat)(a:A2)(st:St):Prop where
 size:a.tmps.size=N
 defers:a.defers=[]
 get:∀t v,cC st t=some v->a.tmps[t]? = some v
def ev(st:St):oD->Option ix
 |.tmp t=>cC st t
 |.const v=>some v
 |.global g=>some (nP g)
 |.func f=>some (.func (.func f) #[] #[])
def Cov(st:St):St->Prop
 |[]=>True
 |(t,v)::r=>cC st t=some v/\Cov st r
theorem Fits.ev{N:Nat}{a:A2}{st:St}(h:Fits N a st){x:oD}{v:ix}(he:ev st x=some v):a.eval x=v:=by
 cases x with
 |tmp t=>
  have:=h.get t v he;simp[B1,oU,this]
 |const u=>simpa[VL.ev,B1]using he
 |global g=>simpa[VL.ev,B1]using he
 |func f=>simpa[VL.ev,B1]using he
theorem Fits.cov{N:Nat}{a:A2}{st:St}(h:Fits N a st):∀ {a0:St},Cov st a0->Fits N a a0:=by
 intro a0 hc;refine⟨h.size,h.defers,?_⟩
 induction a0 with
 |nil=>intro t v hv;simp[cC]at hv
 |cons p r ih=>
  obtain⟨k,u⟩:=p;obtain⟨h1,h2⟩:=hc;intro t v hv;simp only[cC]at hv
  cases hb:zf k t with
  |true=>
   rw[hb]at hv;have:k=t:=qN hb;simp at hv;subst this;subst hv;exact h.get _ _ h1
  |false=>rw[hb]at hv;exact ih h2 t v hv
theorem Fits.put{N:Nat}{a:A2}{st:St}(h:Fits N a st){d:Nat}(hd:oz d N=true)(v:ix):Fits N (a.put (some d) v) ((d,v)::st):=by
 have a0:d<a.tmps.size:=by rw[h.size];exact CX hd
 refine⟨by simp[J9,h.size],h.defers,?_⟩;intro t u hu;simp only[cC]at hu;simp only[J9,JA]
 cases hb:zf d t with
 |true=>
  have:d=t:=qN hb;rw[hb]at hu;simp at hu;subst this;subst hu;simp[a0]
 |false=>
  have:d≠t:=fun e=>by rw[e]at hb;simp at hb
  rw[hb]at hu;rw[if_neg this];exact h.get t u hu
section
variable(P:ps)(N:Nat)
def WL(ops:Array su)(Q:uw->A2->ln->Prop)(l:List su)(st:St)(w:ln):Prop:=∀a,Fits N a st->wpList P ops Q l a w
def WC(c:Dc)(Q:uw->A2->ln->Prop)(st:St)(w:ln):Prop:=∀a,Fits N a st->c.wp P Q a w
def QF(Q:uw->A2->ln->Prop)(e:uw)(st:St)(w:ln):Prop:=∀a,Fits N a st->Q e a w
end
section
variable{P:ps}{N:Nat}{ops:Array su}{Q:uw→A2→ln→Prop}{rest:List su}{st:St}{w:ln}
theorem WC.region{id:Nat}{l:List su}(h:WL P N l.toArray Q l st w):WC P N (Jy id l.toArray false) Q st w:=fun a ha=>wp_region_lit (h a ha)
theorem WL.nil(h:QF N Q .normal st w):WL P N ops Q [] st w:=h
theorem WC.seq{x y:Dc}(h:WC P N x (Exit.then (y.wp P Q) Q) st w):WC P N (.seq x y) Q st w:=fun a ha=>wp_seq (h a ha)
theorem WC.skip(h:QF N Q .normal st w):WC P N .skip Q st w:=fun a ha=>wp_skip (h a ha)
theorem WC.exit{id:Nat}(h:QF N Q (.exit id) st w):WC P N (.exit id) Q st w:=fun a ha=>wp_exit (h a ha)
theorem WC.ret(h:QF N Q .ret st w):WC P N .ret Q st w:=fun a ha=>wp_ret (h a ha)
theorem WC.block{id:Nat}{c:Dc}(h:WC P N c (yY id Q) st w):WC P N (.block id c) Q st w:=fun a ha=>wp_block (h a ha)
theorem WC.cond{c:oD}{x y:Dc}{b:Bool}(hc:ev st c=some (.bool b))(ht:b=true->WC P N x Q st w)(hf:b=false->WC P N y Q st w):WC P N (.cond c x y) Q st w:=
 fun a ha=>wp_cond_split (ha.ev hc) (fun e=>ht e a ha) (fun e=>hf e a ha)
theorem Cq{c:oD}{x y:Dc}(hc:ev st c=some (.bool true))(ht:WC P N x Q st w):WC P N (.cond c x y) Q st w:=
 fun a ha=>wp_cond_true (ha.ev hc) (ht a ha)
theorem Cr{c:oD}{x y:Dc}(hc:ev st c=some (.bool false))(hf:WC P N y Q st w):WC P N (.cond c x y) Q st w:=
 fun a ha=>wp_cond_false (ha.ev hc) (hf a ha)
theorem az{y:Dc}{Q':uw->A2->ln->Prop}(h:WC P N y Q st w):QF N (Exit.then (y.wp P Q) Q') .normal st w:=h
theorem cT{K:A2->ln->Prop}{id:Nat}(h:QF N Q (.exit id) st w):QF N (Exit.then K Q) (.exit id) st w:=h
theorem bT{K:A2->ln->Prop}(h:QF N Q .ret st w):QF N (Exit.then K Q) .ret st w:=h
theorem eh{id:Nat}(h:QF N Q .normal st w):QF N (yY id Q) .normal st w:=h
theorem cB{id:Nat}(h:QF N Q .ret st w):QF N (yY id Q) .ret st w:=h
theorem eY{id:Nat}(h:QF N Q .normal st w):QF N (yY id Q) (.exit id) st w:=fun a ha=>by
 show if id=id then _ else _
 rw[if_pos rfl];exact h a ha
theorem mJ{id a0:Nat}(a1:zf a0 id=false)(h:QF N Q (.exit a0) st w):QF N (yY id Q) (.exit a0) st w:=fun a ha=>by
 show if a0=id then _ else _
 rw[if_neg (fun e=>by rw[e]at a1;simp at a1)];exact h a ha
theorem ay{d:Nat}{b b':Bool}{l:List su}(hs:cC st d=some (.bool b))(hb:b=b')(h:WL P N ops Q l ((d,.bool b')::st) w):WL P N ops Q l st w:=by
 subst hb;refine fun a ha=>h a ⟨ha.size,ha.defers,fun t v hv=>?_⟩
 simp only[cC]at hv
 cases hb:zf d t with
 |true=>rw[hb]at hv;have:=qN hb;subst this;simp at hv;subst hv;exact ha.get _ _ hs
 |false=>rw[hb]at hv;exact ha.get _ _ hv
theorem aZ{c:oD}{x y:Dc}{b:Bool}(hc:ev st c=some (.bool b))(hb:b=true)(ht:WC P N x Q st w):WC P N (.cond c x y) Q st w:=by
 subst hb;exact Cq hc ht
theorem aS{c:oD}{x y:Dc}{b:Bool}(hc:ev st c=some (.bool b))(hb:b=false)(hf:WC P N y Q st w):WC P N (.cond c x y) Q st w:=by
 subst hb;exact Cr hc hf
theorem QF.weaken{e:uw}{a0:St}(hc:Cov st a0)(h:QF N Q e a0 w):QF N Q e st w:=fun a ha=>h a (ha.cov hc)
theorem WC.loop{α:Type}{c:Dc}(f:α->St)(g:α->ln)(I:α->Prop)(μ:α->Nat)(x0:α)(h0:I x0)(hc:Cov st (f x0))(hw:g x0=w)
  (a0:∀x,I x->WC P N c (Exit.then (fun a' w'=>∃y,I y/\μ y<μ x/\Fits N a' (f y)/\g y=w') Q) (f x) (g x)):WC P N (.loop c) Q st w:=by
 intro a ha;refine wp_loop_ghost (fun n a w=>∃y,I y/\μ y=n/\Fits N a (f y)/\g y=w) (μ x0) ⟨x0,h0,rfl,ha.cov hc,hw⟩ ?_;rintro n a w ⟨x,hI,rfl,hf,rfl⟩;refine wp_mono (a0 x hI a hf) ?_;intro e a' w' hq
 cases e with
 |normal=>obtain⟨y,h1,h2,h3,h4⟩:=hq;exact⟨μ y,h2,y,h1,rfl,h3,h4⟩
 |_=>exact hq
theorem QF.next{α:Type}{f:α->St}{g:α->ln}{I:α->Prop}{m:Nat}{μ:α->Nat}(y:α)(h1:I y)(h2:μ y<m)(h3:Cov st (f y))(h4:g y=w):
 QF N (Exit.then (fun a' w'=>∃y,I y/\μ y<m/\Fits N a' (f y)/\g y=w') Q) .normal st w:=fun _ ha=>⟨y,h1,h2,ha.cov h3,h4⟩
theorem cd{o:su}(h:o.guard=none)(y:Nat->Option Bool):rU o y=true:=by simp[rU,h]
theorem WL.step{o:su}(hg:o.guard=none)(h:∀a,Fits N a st->o.wp P a w (wpList P ops Q rest) Q):WL P N ops Q (o::rest) st w:=by
 intro a ha;unfold wpList;rw[if_pos (cd hg _)];exact .inl (h a ha)
theorem WL.val{op:Op}{t:ow}{p:String}{e:Array CR}{d:Nat}{v:ix}{w':ln}(hd:oz d N=true)
  (a0:∀a:A2,Fits N a st->(execOp a.eval ⟨some d,op,t,p,e,none⟩).run P w=.ok (.value v) w')
  (h:WL P N ops Q rest ((d,v)::st) w'):WL P N ops Q (⟨some d,op,t,p,e,none⟩::rest) st w:=by
 refine WL.step rfl fun a ha=>?_
 unfold Da;rw[a0 a ha];exact h _ (ha.put hd v)
theorem iI{op:Op}{t:ow}{p:String}{e:Array CR}{w':ln}
  (a0:∀a:A2,Fits N a st->(execOp a.eval ⟨none,op,t,p,e,none⟩).run P w=.ok .skip w')
  (h:WL P N ops Q rest st w'):WL P N ops Q (⟨none,op,t,p,e,none⟩::rest) st w:=by
 refine WL.step rfl fun a ha=>?_
 unfold Da;rw[a0 a ha];exact h _ ha
def said(ops:Array su)(st:St)(j:Nat):Option Bool:=
 match (ops[j]?).bind (·.dst)with
 |some d=>match cC st d with
  |some (.bool b)=>some b
  |_=>none
 |none=>none
theorem ck{a:A2}(ha:Fits N a st){j:Nat}{b:Bool}(h:said ops st j=some b):yielded ops a.tmps j=some b:=by
 unfold said at h;unfold yielded
 cases hd:(ops[j]?).bind (·.dst)with
 |none=>rw[hd]at h;simp at h
 |some d=>
  rw[hd]at h;simp only at h
  cases hs:cC st d with
  |none=>rw[hs]at h;simp at h
  |some v=>
   rw[hs]at h
   cases v<;>simp at h
   subst h;simp[ha.get _ _ hs]
theorem Cl{op:Op}{t:ow}{p:String}{e:Array CR}{d:Option Le}{j:Nat}{b:Bool}(hs:said ops st j=some b)
  (h:WL P N ops Q (⟨d,op,t,p,e,none⟩::rest) st w):WL P N ops Q (⟨d,op,t,p,e,some (j,b)⟩::rest) st w:=by
 intro a ha;have h1:=h a ha;unfold wpList at h1 ⊢;rw[if_pos (by simp[rU])]at h1;rw[if_pos (by simp[rU,ck ha hs])];exact h1
theorem WL.off{op:Op}{t:ow}{p:String}{e:Array CR}{d:Nat}{j:Nat}{b b':Bool}(hs:said ops st j=some b')(a0:(b'==b)=false)(hd:oz d N=true)
  (h:WL P N ops Q rest ((d,undef)::st) w):WL P N ops Q (⟨some d,op,t,p,e,some (j,b)⟩::rest) st w:=by
 intro a ha;unfold wpList;rw[if_neg (by simp[rU,ck ha hs];simpa using a0)];exact h _ (ha.put hd undef)
def jE(ops:Array su)(st:St)(j:Nat):Bool:=
 match (ops[j]?).bind (·.dst)with
 |some d=>match cC st d with
  |some (.tuple _)=>true
  |_=>false
 |none=>false
theorem Cm{op:Op}{t:ow}{p:String}{e:Array CR}{d:Nat}{j:Nat}{b:Bool}(hs:jE ops st j=true)(hd:oz d N=true)
  (h:WL P N ops Q rest ((d,undef)::st) w):WL P N ops Q (⟨some d,op,t,p,e,some (j,b)⟩::rest) st w:=by
 intro a ha;unfold wpList;rw[if_neg ?_]
 ·exact h _ (ha.put hd undef)
 unfold jE at hs;simp only[rU,yielded]
 cases hd:(ops[j]?).bind (·.dst)with
 |none=>rw[hd]at hs;simp at hs
 |some d=>
  rw[hd]at hs;simp only at hs
  cases hx:cC st d with
  |none=>rw[hx]at hs;simp at hs
  |some v=>
   rw[hx]at hs
   cases v<;>simp at hs
   simp[ha.get _ _ hx]
def RV(P:ps)(N:Nat)(op:Op)(t:ow)(st:St)(w:ln)(v:ix):Prop:=
 ∀a:A2,Fits N a st->∀(dst:Option Le) (p:String) (e:Array CR) (g:Option (Nat×Bool)),(execOp a.eval ⟨dst,op,t,p,e,g⟩).run P w=.ok (.value v) w
theorem mG{op:Op}{t:ow}{p:String}{e:Array CR}{d:Nat}{v:ix}(hv:RV P N op t st w v)(hd:oz d N=true)
 (h:WL P N ops Q rest ((d,v)::st) w):WL P N ops Q (⟨some d,op,t,p,e,none⟩::rest) st w:=WL.val hd (fun a ha=>hv a ha _ _ _ _) h
section
variable{t:ow}{p:String}{e:Array CR}{d:Nat}{x y z:oD}
theorem RV.move{v:ix}(hx:ev st x=some v):RV P N (.move x) t st w (v):=
 fun a ha a0 p e g=>by simp only[execOp,ha.ev hx];rfl
theorem RV.assign{v:ix}(hx:ev st x=some v):RV P N (.assign x) t st w (v):=
 fun a ha a0 p e g=>by simp only[execOp,ha.ev hx];rfl
theorem iS{a:A2}{b:Bool}{a0:Option Le}{g:Option (Nat×Bool)}(hx:a.eval x=.bool b):(execOp a.eval ⟨a0,.pick x y z,t,p,e,g⟩).run P w=.ok (.value (bif b then a.eval y else a.eval z)) w:=by
 simp only[execOp,hx];cases b<;>rfl
theorem aW{u:ix}(hc:ev st x=some (.bool false))(hz:ev st z=some u):RV P N (.pick x y z) t st w (u):=
 fun a ha a0 p e g=>by rw[iS (ha.ev hc),ha.ev hz];rfl
theorem aQ{v:ix}(hc:ev st x=some (.bool true))(hy:ev st y=some v):RV P N (.pick x y z) t st w (v):=
 fun a ha a0 p e g=>by rw[iS (ha.ev hc),ha.ev hy];rfl
theorem aq{q:vX}(hx:ev st x=some (.pointer (some q))):RV P N (.nilCheck x) t st w (.pointer (some q)):=
 fun a ha a0 p e g=>by simp only[execOp,ha.ev hx];rfl
section
variable{k:rk}{m n:Int}{xt yt:ow}
theorem vp{op:Lz}{k k':rk}{m n:Int}{a:A2}{a0:Option Le}{g:Option (Nat×Bool)}(hx:a.eval x=.int k m)(hy:a.eval y=.int k' n){v:ix}(h:(binOp op xt (.int k m) (.int k' n)).run P w=.ok v w):
  (execOp a.eval ⟨a0,.binOp op xt x y yt,t,p,e,g⟩).run P w=.ok (.value v) w:=by
 simp only[execOp,hx,hy];have hg:(eqGuard op xt x y (.int k m) (.int k' n))=pure ():=by
  unfold eqGuard;cases op<;>rfl
 rw[hg];simp[h]
theorem gg{op:Lz}{k':rk}{v:ix}(hx:ev st x=some (.int k m))(hy:ev st y=some (.int k' n))(hv:(binOp op xt (.int k m) (.int k' n)).run P w=.ok v w):RV P N (.binOp op xt x y yt) t st w (v):=
 fun _ ha _ _ _ _=>vp (ha.ev hx) (ha.ev hy) hv
theorem FH:(binOp .add xt (.int k m) (.int k n)).run P w=.ok (.int k (k.wrap (m+n))) w:=by simp[binOp,K9,pure]
theorem Fx:(binOp .sub xt (.int k m) (.int k n)).run P w=.ok (.int k (k.wrap (m-n))) w:=by simp[binOp,K9,pure]
theorem Fz:(binOp .mul xt (.int k m) (.int k n)).run P w=.ok (.int k (k.wrap (m*n))) w:=by simp[binOp,K9,pure]
theorem mj(hn:n≠0):(binOp .rem xt (.int k m) (.int k n)).run P w=.ok (.int k (m.tmod n)) w:=by simp[binOp,Op.intDiv,hn,pure]
theorem FB:(binOp .lss xt (.int k m) (.int k n)).run P w=.ok (.bool (decide (m<n))) w:=by simp[binOp,Ji,pure]
theorem FC:(binOp .leq xt (.int k m) (.int k n)).run P w=.ok (.bool (decide (m<=n))) w:=by simp[binOp,Ji,pure]
theorem FD:(binOp .gtr xt (.int k m) (.int k n)).run P w=.ok (.bool (decide (n<m))) w:=by simp[binOp,Ji,pure]
theorem FE:(binOp .geq xt (.int k m) (.int k n)).run P w=.ok (.bool (decide (n<=m))) w:=by simp[binOp,Ji,pure]
theorem FF:(binOp .eql xt (.int k m) (.int k n)).run P w=.ok (.bool (m==n)) w:=by simp[binOp,Ji,pure]
theorem Fy:(binOp .neq xt (.int k m) (.int k n)).run P w=.ok (.bool (m != n)) w:=by simp[binOp,Ji,pure]
def Fit(k:rk)(r:Int):Prop:=k.wrap r=r
theorem Fit.i64{r:Int}(h : -9223372036854775808<=r/\r<=9223372036854775807):Fit .i64 r:=LK r h
theorem Fit.u8{r:Int}(h:0<=r/\r<=255):Fit .u8 r:=LJ r h
theorem RV.add(hx:ev st x=some (.int k m))(hy:ev st y=some (.int k n))(hr:Fit k (m+n)):RV P N (.binOp .add xt x y yt) t st w (.int k (m+n)):=
 gg hx hy (by rw[FH,hr])
theorem RV.sub(hx:ev st x=some (.int k m))(hy:ev st y=some (.int k n))(hr:Fit k (m-n)):RV P N (.binOp .sub xt x y yt) t st w (.int k (m-n)):=
 gg hx hy (by rw[Fx,hr])
theorem RV.lss(hx:ev st x=some (.int k m))(hy:ev st y=some (.int k n)):RV P N (.binOp .lss xt x y yt) t st w (.bool (decide (m<n))):=
 gg hx hy FB
theorem RV.leq(hx:ev st x=some (.int k m))(hy:ev st y=some (.int k n)):RV P N (.binOp .leq xt x y yt) t st w (.bool (decide (m<=n))):=
 gg hx hy FC
theorem RV.gtr(hx:ev st x=some (.int k m))(hy:ev st y=some (.int k n)):RV P N (.binOp .gtr xt x y yt) t st w (.bool (decide (n<m))):=
 gg hx hy FD
theorem RV.geq(hx:ev st x=some (.int k m))(hy:ev st y=some (.int k n)):RV P N (.binOp .geq xt x y yt) t st w (.bool (decide (n<=m))):=
 gg hx hy FE
theorem RV.eql(hx:ev st x=some (.int k m))(hy:ev st y=some (.int k n)):RV P N (.binOp .eql xt x y yt) t st w (.bool (m==n)):=
 gg hx hy FF
theorem RV.neq(hx:ev st x=some (.int k m))(hy:ev st y=some (.int k n)):RV P N (.binOp .neq xt x y yt) t st w (.bool (m != n)):=
 gg hx hy Fy
theorem RV.not{b:Bool}(hx:ev st x=some (.bool b)):RV P N (.unOp .not xt x) t st w (.bool (!b)):=
 fun a ha a0 p e g=>by simp only[execOp,ha.ev hx];rfl
theorem Cx{k':rk}{a0:TypeDesc}(hs:P.underlying xt=some a0)(a2:P.underlying yt=some (.int k'))(hx:ev st x=some (.int k m))(hr:Fit k' m):RV P N (.convert xt yt x) t st w (.int k' m):=
 fun a ha a3 p e g=>by
  have a1:k'.wrap m=m:=hr;simp only[execOp,ha.ev hx];simp[convert,run_underlying hs,run_underlying a2,KS,a1]
theorem ns{k':rk}{a0:TypeDesc}(hs:P.underlying xt=some a0)(a1:P.underlying yt=some (.int k'))(hx:ev st x=some (.int k m)):RV P N (.convert xt yt x) t st w (.int k' (k'.wrap m)):=
 fun a ha a2 p e g=>by
  simp only[execOp,ha.ev hx];simp[convert,run_underlying hs,run_underlying a1,KS]
end
theorem RV.extract{vs:Array ix}{i:Nat}{v:ix}(hx:ev st x=some (.tuple vs))(hv:vs[i]? = some v):RV P N (.extract x i) t st w (v):=
 fun a ha a0 p e g=>by simp only[execOp,ha.ev hx];simp[Instr.extract,hv]
def evs(st:St):List oD->Option (List ix)
 |[]=>some []
 |x::r=>match ev st x,evs st r with
  |some v,some vs=>some (v::vs)
  |_,_=>none
theorem Fits.evs{a:A2}(ha:Fits N a st):∀ {l:List oD} {vs:List ix},evs st l=some vs->l.map a.eval=vs:=by
 intro l
 induction l with
 |nil=>intro vs h;simpa[VL.evs]using h.symm
 |cons x r ih=>
  intro vs h;simp only[VL.evs]at h
  cases h1:VL.ev st x with
  |none=>rw[h1]at h;simp at h
  |some v=>
   cases h2:VL.evs st r with
   |none=>rw[h1,h2]at h;simp at h
   |some vs'=>
    rw[h1,h2]at h;simp at h;subst h;rw[ri,ha.ev h1,ih h2]
theorem eA{fn:Fn}{f c:List oD}{fs cs:List ix}(hf:evs st f=some fs)(hc:evs st c=some cs):RV P N (.makeFunc fn f.toArray c.toArray) t st w (.func fn fs.toArray cs.toArray):=
 fun a ha a0 p e g=>by simp only[execOp,Instr.makeFunc,pZ,ha.evs hf,ha.evs hc];rfl
theorem WL.box{E:ow}{v:ix}(hx:ev st x=some v)(hd:oz d N=true)
  (h:WL P N ops Q rest ((d,.pointer (some ⟨w.heap.size,0,none⟩))::st) (w.alloc (.cells v.cells E))):WL P N ops Q (⟨some d,.box E x,t,p,e,none⟩::rest) st w:=
 WL.val hd (fun a ha=>by simp only[execOp,ha.ev hx];rfl) h
theorem WL.alloc{E:ow}{z:ix}(hz:(De E).run P w=.ok z w)(hd:oz d N=true)
  (h:WL P N ops Q rest ((d,.pointer (some ⟨w.heap.size,0,none⟩))::st) (w.alloc (.cells z.cells E))):WL P N ops Q (⟨some d,.alloc E,t,p,e,none⟩::rest) st w:=
 WL.val hd (fun a ha=>by
  simp only[execOp,Instr.alloc]
  simp[hz,newVar,newRow,newObj];rfl) h
def Ret(P:ps)(f:J6)(args:List ix)(w:ln)(R:ix->ln->Prop):Prop:=
 KZ P f args.toArray w fun | .returned v,w'=>R v w'|_,_=>False
theorem Ret.mono{f:J6}{args:List ix}{w:ln}{R R':ix->ln->Prop}(h:Ret P f args w R)(hr:∀v w',R v w'->R' v w'):Ret P f args w R':=
 tJ h fun e w' q=>by cases e<;>first|exact hr _ _ q|exact q.elim
theorem WL.call{f:J6}{args:List oD}{a2:Array ow}{vs:List ix}{R:ix->ln->Prop}
  (hf:∀(args:Array ix) (w:ln),(callFunc f args).run P w=.ok (.enter f args) w) (a0:evs st args=some vs) (hc:Ret P f vs w R) (hd:oz d N=true)
  (h:∀v w',R v w'->WL P N ops Q rest ((d,v)::st) w'):WL P N ops Q (⟨some d,.call ⟨.value (.func f),args.toArray,a2⟩,t,p,e,none⟩::rest) st w:=by
 refine WL.step rfl fun a ha=>?_
 unfold Da;have a1:(execOp a.eval ⟨some d,.call ⟨.value (.func f),args.toArray,a2⟩,t,p,e,none⟩).run P w=.ok (.enter f vs.toArray) w:=by
  simp only[execOp,resolve,B1,pZ];rw[ha.evs a0];simp[FX,invoke,hf]
 rw[a1];exact tJ hc fun e w' q=>by
  cases e with
  |returned v=>exact h v w' q _ (ha.put hd v)
  |panicked c=>exact q.elim
  |outgrown=>exact q.elim
theorem dN{f:J6}{args:List oD}{a2:Array ow}{vs:List ix}{cs:Array ix}{R:ix->ln->Prop}
  (hx:ev st x=some (.func (.func f) #[] cs))
  (hf:∀(args:Array ix) (w:ln),(callFunc f args).run P w=.ok (.enter f args) w) (a0:evs st args=some vs) (hc:Ret P f (vs++cs.toList) w R) (hd:oz d N=true)
  (h:∀v w',R v w'->WL P N ops Q rest ((d,v)::st) w'):WL P N ops Q (⟨some d,.call ⟨.value x,args.toArray,a2⟩,t,p,e,none⟩::rest) st w:=by
 refine WL.step rfl fun a ha=>?_
 unfold Da;have a1:(execOp a.eval ⟨some d,.call ⟨.value x,args.toArray,a2⟩,t,p,e,none⟩).run P w=.ok (.enter f (vs++cs.toList).toArray) w:=by
  simp only[execOp,resolve,pZ,ha.evs a0,ha.ev hx];simp[FX,invoke,hf]
 rw[a1];exact tJ hc fun e w' q=>by
  cases e with
  |returned v=>exact h v w' q _ (ha.put hd v)
  |panicked c=>exact q.elim
  |outgrown=>exact q.elim
end
end
def RP(P:ps)(fn:L3)(R:ix->ln->Prop):uw->A2->ln->Prop
 |.normal,a,w |.ret,a,w=>a.defers=[]/\∃v,(results fn a.tmps).run P w=.ok v w/\R v w
 |_,_,_=>False
theorem Ret.body{P:ps}{N:Nat}{f:J6}{fn:L3}{c:Dc}{args:List ix}{st:St}{w:ln}{R:ix->ln->Prop}
  (hf:P.funcs[f]? = some fn) (hb:fn.body=some c) (hN:fn.ntmps=N) (a0:Fits N { tmps:=args.toArray++Jz (N-args.length) undef,defers:=[] } st)
  (h:WC P N c (RP P fn R) st w):Ret P f args w R:=by
 refine calls_of_wp hf hb ?_;rw[hN];refine wp_mono (h _ (by simpa using a0)) ?_
 intro e a w' q
 cases e<;>first|exact q|exact q.elim
theorem qu{N:Nat}:∀ {args:List ix} (_:Kq args.length N=true) {st:St} (_:∀t v,cC st t=some v->args[t]? = some v),
  Fits N { tmps:=args.toArray++Jz (N-args.length) undef,defers:=[] } st:=by
 intro args hN st h;have a1:args.length<=N:=CX hN;refine⟨by simp;omega,rfl,fun t v hv=>?_⟩;have:=h t v hv;have a0:t<args.length:=(uV.1 this).1;rw[Array.getElem?_append_left (by simpa using a0)];simpa using this
def Fv:Nat->List ix->St
 |_,[]=>[]
 |k,v::r=>(k,v)::Fv (k+1) r
theorem nH:∀(args:List ix) (k t:Nat) (v:ix),cC (Fv k args) t=some v->k<=t/\args[t-k]? = some v
 |[],k,t,v,h=>by simp[Fv,cC]at h
 |u::r,k,t,v,h=>by
  simp only[Fv,cC]at h
  cases hb:zf k t with
  |true=>
   rw[hb]at h;have:k=t:=qN hb;subst this;simpa using h
  |false=>
   rw[hb]at h;obtain⟨h1,h2⟩:=nH r (k+1) t v h;refine⟨zo,?_⟩;rw[show t-k=(t-(k+1))+1 from by omega];simpa using h2
theorem Ret.enter{P:ps}{N:Nat}{f:J6}{fn:L3}{c:Dc}{args:List ix}{w:ln}{R:ix->ln->Prop}
  (hf:P.funcs[f]? = some fn) (hN:fn.ntmps=N) (hb:fn.body=some c) (a0:Kq args.length N=true)
  (h:WC P N c (RP P fn R) (Fv 0 args) w):Ret P f args w R:=
 Ret.body hf hb hN (qu a0 fun t v hv=>by simpa using(nH args 0 t v hv).2) h
section
variable{P:ps}{N:Nat}{st:St}{w:ln}{fn:L3}{R:ix→ln→Prop}
theorem ae{t:Le}{v:ix}(hr:fn.results = #[.tmp t])(hv:cC st t=some v)(h:R v w):QF N (RP P fn R) .ret st w:=fun a ha=>
 ⟨ha.defers,v,by have:=ha.get _ _ hv;simp[results,hr,oU,this],h⟩
theorem aH(hr:fn.results = #[])(h:R (.tuple #[]) w):QF N (RP P fn R) .normal st w:=fun a ha=>⟨ha.defers,_,by simp[results,hr],h⟩
theorem cA(hr:fn.results = #[])(h:R (.tuple #[]) w):QF N (RP P fn R) .ret st w:=fun a ha=>⟨ha.defers,_,by simp[results,hr],h⟩
theorem bQ{t u:Le}{v v':ix}(hr:fn.results = #[.tmp t,.tmp u])(hv:cC st t=some v)(a0:cC st u=some v')(h:R (.tuple #[v,v']) w):QF N (RP P fn R) .ret st w:=fun a ha=>
 ⟨ha.defers,_,by have:=ha.get _ _ hv;have h2:=ha.get _ _ a0;simp[results,hr,oU,this,h2],h⟩
end
open Go.RowKit (Below)
def Ext(w w':ln):Prop:=Below w.heap.size w w'
theorem Ext.refl(w:ln):Ext w w:=L4 _ _
theorem Ext.trans{a b c:ln}(h:Ext a b)(k:Ext b c):Ext a c:=Below.trans h (Below.mono k h.size)
theorem Ext.alloc(w:ln)(o:Obj):Ext w (w.alloc o):=(L4 _ _).alloc (th _) o
theorem Ext.drew{w w':ln}(h:Ext w w'):Ext w w'.drew:=⟨h.os,h.tape,h.output,h.size,h.block⟩
theorem Ext.cell{w w':ln}(h:Ext w w'){a:vX}{v:ix}(hc:w.cell? a=some v):w'.cell? a=some v:=
 (Below.cell h (Gb w a hc)).trans hc
def adr(v:ix)(sz i:Nat):vX:=
 match v with
 |.slice (some a) _ _=>⟨a.block,a.off+i*sz,none⟩
 |_=>default
def nth{α:Type}[Inhabited α](xs:List α)(i:Nat):α:=xs.getD i default
theorem aB{α:Type}[Inhabited α]{xs:List α}{i:Nat}(h:i<xs.length):nth xs i=xs[i]:=by
 simp[nth,ug,h]
theorem ar{α:Type}[Inhabited α](a:α)(l:List α):nth (a::l) 0=a:=rfl
theorem bd{α:Type}[Inhabited α](a:α)(l:List α)(i:Nat):nth (a::l) (i+1)=nth l i:=rfl
attribute [irreducible] nth
structure Sl{α:Type}(enc:α->List ix)(sz:Nat)(w:ln)(v:ix)(xs:List α):Prop where
 shape:∃a c,v=.slice a xs.length c/\xs.length<=c/\c<=9223372036854775807/\(xs.length≠0->∃b o,a=some ⟨b,o,none⟩)
 cells:∀i (h:i<xs.length) j u,(enc xs[i])[j]? = some u->w.cell? ((adr v sz i).add j)=some u
theorem Sl.of_cells{α:Type}{enc:α->List ix}{sz:Nat}{w w':ln}{v:ix}{xs:List α}(h:Sl enc sz w v xs)(hc:∀a u,w.cell? a=some u->w'.cell? a=some u):Sl enc sz w' v xs:=
 ⟨h.shape,fun i hi j u hu=>hc _ _ (h.cells i hi j u hu)⟩
theorem Sl.ext{α:Type}{enc:α->List ix}{sz:Nat}{w w':ln}{v:ix}{xs:List α}(h:Sl enc sz w v xs)(e:Ext w w'):Sl enc sz w' v xs:=h.of_cells fun _ _=>e.cell
theorem Sl.drew{α:Type}{enc:α->List ix}{sz:Nat}{w:ln}{v:ix}{xs:List α}(h:Sl enc sz w v xs):Sl enc sz w.drew v xs:=h.of_cells fun _ _ h=>h
theorem Sl.one{α:Type}{enc:α->List ix}{sz:Nat}{w:ln}{v:ix}{xs:List α}(h:Sl enc sz w v xs):v.oneCell'=true:=by
 obtain⟨_,_,rfl,_⟩:=h.shape;rfl
theorem Sl.len_le{α:Type}{enc:α->List ix}{sz:Nat}{w:ln}{v:ix}{xs:List α}(h:Sl enc sz w v xs):xs.length<=9223372036854775807:=by
 obtain⟨a,c,_,h1,h2,_⟩:=h.shape;omega
theorem Sl.cell{α:Type}[Inhabited α]{enc:α->List ix}{sz:Nat}{w:ln}{v:ix}{xs:List α}(h:Sl enc sz w v xs){i j:Nat}{u:ix}(hi:i<xs.length)(hu:(enc (nth xs i))[j]? = some u):w.cell? ((adr v sz i).add j)=some u:=
 h.cells i hi j u (by rw[<-aB hi];exact hu)
theorem ao(v:ix)(sz i:Nat):(adr v sz i).add 0=adr v sz i:=rfl
theorem Sl.ld{α:Type}[Inhabited α]{val:α->ix}{sz:Nat}{w:ln}{v:ix}{xs:List α}(h:Sl (fun x=>[val x]) sz w v xs){i:Nat}(hi:i<xs.length):w.cell? (adr v sz i)=some (val (nth xs i)):=
 h.cell (j:=0) hi rfl
abbrev Ints(w:ln)(v:ix)(xs:List Int):Prop:=Sl (fun(x:Int)=>[nI x]) 1 w v xs
abbrev Jm(w:ln)(v:ix)(xs:List Nat):Prop:=Sl (fun(x:Nat)=>[nI (x:Int)]) 1 w v xs
section
variable{P:ps}{N:Nat}{ops:Array su}{Q:uw→A2→ln→Prop}{rest:List su}{st:St}{w:ln}
variable{t:ow}{p:String}{e:Array CR}{d:Nat}{x y z:oD}
theorem RV.len{T E:ow}{α:Type}{enc:α->List ix}{sz:Nat}{v:ix}{xs:List α}(hs:Sl enc sz w v xs)(hu:P.underlying T=some (.slice E))(hx:ev st x=some v):RV P N (.call ⟨.builtin .len,#[x],#[T]⟩) t st w (nI (xs.length:Int)):=
 fun a ha a0 p e g=>by
  obtain⟨ad,c,hv,_⟩:=hs.shape;simp only[execOp,resolve,pZ,ri,tG,ha.ev hx];subst hv;simp[invoke,Go.builtin,LO,run_underlying hu,goInt]
theorem RV.indexAddr{T E:ow}{α:Type}{enc:α->List ix}{sz:Nat}{v:ix}{xs:List α}{k:rk}{i:Int}(hs:Sl enc sz w v xs)(hu:P.underlying T=some (.slice E))(hE:(uu E).run P w=.ok sz w)
  (hx:ev st x=some v) (hy:ev st y=some (.int k i)) (n:Nat) (hi:i=n) (hn:n<xs.length):RV P N (.indexAddr T x y) t st w (.pointer (some (adr v sz n))):=
 fun a ha a0 p e g=>by
  obtain⟨ad,c,hv,_,_,hb⟩:=hs.shape;obtain⟨b,o,rfl⟩:=hb zo;simp only[execOp,ha.ev hx,ha.ev hy];subst hv;subst hi;have:((n:Int)<(xs.length:Int)):=zo;simp only[adr];have he:(if n*sz=0 then(⟨b,o,none⟩:vX)else⟨b,o+n*sz,none⟩)=⟨b,o+n*sz,none⟩:=by split<;>simp_all
  simp[JJ,asIntOf,run_underlying hu,hE,zR,hn,he]
def Shape(v:ix)(n:Nat):Prop:=∃a c,v=.slice a n c/\(n≠0->∃b o,a=some ⟨b,o,none⟩)
theorem Sl.sh{α:Type}{enc:α->List ix}{sz:Nat}{w:ln}{v:ix}{xs:List α}(h:Sl enc sz w v xs):Shape v xs.length:=by
 obtain⟨a,c,h1,_,_,h2⟩:=h.shape;exact⟨a,c,h1,h2⟩
theorem ah{T E:ow}{sz m:Nat}{v:ix}{k:rk}{i:Int}(hs:Shape v m)(hu:P.underlying T=some (.slice E))(hE:(uu E).run P w=.ok sz w)
  (hx:ev st x=some v) (hy:ev st y=some (.int k i)) (n:Nat) (hi:i=n) (hn:n<m):RV P N (.indexAddr T x y) t st w (.pointer (some (adr v sz n))):=
 fun a ha a0 p e g=>by
  obtain⟨ad,c,hv,hb⟩:=hs;obtain⟨b,o,rfl⟩:=hb zo;simp only[execOp,ha.ev hx,ha.ev hy];subst hv;subst hi;simp only[adr];have he:(if n*sz=0 then(⟨b,o,none⟩:vX)else⟨b,o+n*sz,none⟩)=⟨b,o+n*sz,none⟩:=by split<;>simp_all
  simp[JJ,asIntOf,run_underlying hu,hE,zR,hn,he]
theorem RV.load{T:ow}{q:vX}{u:ix}(hc:w.cell? q=some u)(hT:(Ky T).run P w=.ok false w)(hx:ev st x=some (.pointer (some q))):RV P N (.load T x) t st w (u):=
 fun a ha a0 p e g=>by
  simp only[execOp,ha.ev hx];simp[KQ,xK,loadVar,hT,hc]
theorem run_loadCellsFrom{q:vX}:∀(us:List ix) (i:Nat) (a0:Array ix),(∀j u,us[j]? = some u->w.cell? (q.add (i+j))=some u)->(loadCellsFrom q i us.length a0).run P w=.ok (a0++us.toArray) w
 |[],i,a0,_=>by simp[loadCellsFrom]
 |u::r,i,a0,h=>by
  have h0:=h 0 u rfl;have ih:=run_loadCellsFrom r (i+1) (a0.push u) (fun j v hv=>by have:=h (j+1) v (by simpa using hv);rwa[show i+1+j=i+(j+1)from by omega]);simp only[JU]at h0;simp[loadCellsFrom,h0,ih]
theorem ai{T:ow}{q:vX}{us:List ix}(hc:∀j u,us[j]? = some u->w.cell? (q.add j)=some u)(hT:(Ky T).run P w=.ok true w)(hn:(uu T).run P w=.ok us.length w)(hx:ev st x=some (.pointer (some q))):RV P N (.load T x) t st w (.agg us.toArray):=
 fun a ha a0 p e g=>by
  simp only[execOp,ha.ev hx];have:=run_loadCellsFrom (P:=P) us 0 #[] (q:=q) (w:=w) (by simpa using hc);simp[KQ,xK,loadVar,hT,hn,loadCells,this]
theorem RV.fieldAddr{S:ow}{fs:Array Ly}{f m:Nat}{fd:Ly}{q:vX}(o:Nat)(hu:P.underlying S=some (.struct fs))(hf:fs[f]? = some fd)(ho:fd.offset=o)(hz:(uu fd.type).run P w=.ok m w)(hm:m≠0)
  (hx:ev st x=some (.pointer (some q))):RV P N (.fieldAddr S x f) t st w (.pointer (some (q.add o))):=
 fun a ha a0 p e g=>by
  subst ho;simp only[execOp,ha.ev hx];simp[Instr.fieldAt,xK,fieldPlace,run_underlying hu,hf,hz,hm]
end
end Go.VL
end
section
namespace Go.VL
open Go.RowKit (Below)
structure Upd(S:Nat->Prop)(O:Nat->Nat)(w:ln)(O':Nat->Nat)(w':ln):Prop where
 os:w'.os=w.os
 tape:w'.tape=w.tape
 output:w'.output=w.output
 size:w.heap.size<=w'.heap.size
 blk:∀b,b<w.heap.size->¬S (O b)->w'.heap[b]? = w.heap[b]?
 tag:∀b,O b≠0->O' b=O b
 new:∀b,O' b≠0->O b≠0\/(w.heap.size<=b/\b<w'.heap.size)
 z:¬S 0
structure Rng(B:Nat)(O:Nat->Nat)(w:ln):Prop where
 le:B<=w.heap.size
 rng:∀b,O b≠0->B<=b/\b<w.heap.size
theorem Upd.refl{S:Nat->Prop}(h:¬S 0)(O:Nat->Nat)(w:ln):Upd S O w O w:=⟨rfl,rfl,rfl,th _,fun _ _ _=>rfl,fun _ _=>rfl,fun _ h=>.inl h,h⟩
theorem Upd.mono{S S':Nat->Prop}{O O':Nat->Nat}{w w':ln}(h:Upd S O w O' w')(hs:∀i,S i->S' i)(hz:¬S' 0):Upd S' O w O' w':=
 ⟨h.os,h.tape,h.output,h.size,fun b hb hn=>h.blk b hb fun hS=>hn (hs _ hS),h.tag,h.new,hz⟩
theorem Upd.trans{S:Nat->Prop}{O O1 O2:Nat->Nat}{w w1 w2:ln}(h:Upd S O w O1 w1)(k:Upd S O1 w1 O2 w2):Upd S O w O2 w2:=by
 refine⟨k.os.trans h.os,k.tape.trans h.tape,k.output.trans h.output,ze h.size k.size,fun b hb hn=>?_,fun b hb=>?_,fun b hb=>?_,h.z⟩
 ·refine(k.blk b (sx hb h.size) ?_).trans (h.blk b hb hn)
  by_cases h0:O b=0
  ·have:O1 b=0:=by
    refine qy fun a0=>?_
    rcases h.new b a0 with h1|h1
    ·exact h1 h0
    omega
   rw[this];exact h.z
  rw[h.tag b h0];exact hn
 ·have h1:=h.tag b hb;rw[k.tag b (by rw[h1];exact hb),h1]
 rcases k.new b hb with h1|h1
 ·rcases h.new b h1 with h2|h2
  ·exact .inl h2
  exact .inr ⟨h2.1,sx h2.2 k.size⟩
 exact .inr ⟨ze h.size h1.1,h1.2⟩
theorem aa{S:Nat->Prop}(hz:¬S 0){w w':ln}(O:Nat->Nat)(h:Ext w w'):Upd S O w O w':=
 ⟨h.os,h.tape,h.output,h.size,fun b hb _=>h.block b hb,fun _ _=>rfl,fun _ h=>.inl h,hz⟩
theorem Rng.upd{B:Nat}{S:Nat->Prop}{O O':Nat->Nat}{w w':ln}(r:Rng B O w)(h:Upd S O w O' w'):Rng B O' w':=by
 refine⟨ze r.le h.size,fun b hb=>?_⟩
 rcases h.new b hb with h1|h1
 ·exact⟨(r.rng b h1).1,sx (r.rng b h1).2 h.size⟩
 exact⟨ze r.le h1.1,h1.2⟩
theorem au(w:ln):Rng w.heap.size (fun _=>0) w:=⟨th _,fun _ h=>absurd rfl h⟩
theorem Rng.ext{B:Nat}{O:Nat->Nat}{w w':ln}(r:Rng B O w)(h:Ext w w'):Rng B O w':=r.upd (aa (S:=fun _=>False) (fun h=>h) O h)
theorem Upd.below{B:Nat}{S:Nat->Prop}{O O':Nat->Nat}{w w':ln}(h:Upd S O w O' w')(r:Rng B O w):Below B w w':=by
 refine⟨h.os,h.tape,h.output,h.size,fun b hb=>h.blk b (sx hb r.le) ?_⟩;have:O b=0:=qy fun a0=>by have:=(r.rng b a0).1;omega
 rw[this];exact h.z
theorem Upd.ext{S:Nat->Prop}{O':Nat->Nat}{w w':ln}(h:Upd S (fun _=>0) w O' w'):Ext w w':=h.below (au w)
theorem Upd.drew{S:Nat->Prop}{O O':Nat->Nat}{w w':ln}(h:Upd S O w O' w'):Upd S O w O' w'.drew:=⟨h.os,h.tape,h.output,h.size,h.blk,h.tag,h.new,h.z⟩
theorem Upd.ofDrew{S:Nat->Prop}{O O':Nat->Nat}{w w':ln}(h:Upd S O w.drew O' w'):Upd S O w O' w':=⟨h.os,h.tape,h.output,h.size,h.blk,h.tag,h.new,h.z⟩
theorem Rng.drew{B:Nat}{O:Nat->Nat}{w:ln}(h:Rng B O w):Rng B O w.drew:=⟨h.le,h.rng⟩
def lJ(O:Nat->Nat)(b i:Nat):Nat->Nat:=fun k=>if k=b then i else O k
theorem eB(O:Nat->Nat)(b i:Nat):lJ O b i b=i:=if_pos rfl
theorem Upd.alloc{S:Nat->Prop}(hz:¬S 0){B:Nat}{O:Nat->Nat}{w:ln}(r:Rng B O w)(o:Obj)(i:Nat):Upd S O w (lJ O w.heap.size i) (w.alloc o):=by
 refine⟨rfl,rfl,rfl,by simp,fun b hb _=>L5 _ _ _ hb,fun b hb=>?_,fun b hb=>?_,hz⟩
 ·unfold lJ;rw[if_neg];have:=(r.rng b hb).2;omega
 unfold lJ at hb
 split at hb
 ·rename_i h;subst h;exact .inr ⟨th _,by simp⟩
 exact .inl hb
structure RowO(O:Nat->Nat)(w:ln)(i:Nat)(E:ow)(sz:Nat)(v:ix)(n:Nat)(xs:List ix):Prop where
 row:w.ownsRow 0 E sz v n xs
 tag:∀g,v.ownBlock=some g->O g=i
theorem bB{w:ln}{g:Nat}{o:Obj}(h:w.heap[g]? = some o):g<w.heap.size:=(Array.getElem?_eq_some_iff.1 h).1
theorem RowO.upd{S:Nat->Prop}{O O':Nat->Nat}{w w':ln}{i:Nat}{E:ow}{sz:Nat}{v:ix}{n:Nat}{xs:List ix}(h:RowO O w i E sz v n xs)(u:Upd S O w O' w')(hi:i≠0)(hS:¬S i):RowO O' w' i E sz v n xs:=by
 refine⟨⟨h.row.1,?_⟩,fun g hg=>?_⟩
 ·rcases h.row.2 with h1|⟨g,a2,a1,hv,hg,hh,a0⟩
  ·exact .inl h1
  refine .inr ⟨g,a2,a1,hv,hg,?_,a0⟩;rw[u.blk g (bB hh) (by rw[h.tag g (by rw[hv];rfl)];exact hS)];exact hh
 have:=h.tag g hg;rw[u.tag g (by rw[this];exact hi),this]
theorem RowO.drew{O:Nat->Nat}{w:ln}{i:Nat}{E:ow}{sz:Nat}{v:ix}{n:Nat}{xs:List ix}(h:RowO O w i E sz v n xs):RowO O w.drew i E sz v n xs:=⟨h.row,h.tag⟩
theorem RowO.nil(O:Nat->Nat)(w:ln)(i:Nat)(E:ow)(sz:Nat):RowO O w i E sz (nS) 0 []:=⟨World.ownsRow_nil _ _ _ _,fun g hg=>by simp[Fm]at hg⟩
structure BlkO(O:Nat->Nat)(w:ln)(i b:Nat)(cs:Array ix)(E:ow):Prop where
 blk:w.heap[b]? = some (.cells cs E (0,0))
 tag:O b=i
theorem BlkO.upd{S:Nat->Prop}{O O':Nat->Nat}{w w':ln}{i b:Nat}{cs:Array ix}{E:ow}(h:BlkO O w i b cs E)(u:Upd S O w O' w')(hi:i≠0)(hS:¬S i):BlkO O' w' i b cs E:=
 ⟨by rw[u.blk b (bB h.blk) (by rw[h.tag];exact hS)];exact h.blk,by rw[u.tag b (by rw[h.tag];exact hi),h.tag]⟩
theorem BlkO.drew{O:Nat->Nat}{w:ln}{i b:Nat}{cs:Array ix}{E:ow}(h:BlkO O w i b cs E):BlkO O w.drew i b cs E:=⟨h.blk,h.tag⟩
theorem BlkO.new(O:Nat->Nat)(w:ln)(i:Nat)(cs:Array ix)(E:ow):BlkO (lJ O w.heap.size i) (w.alloc (.cells cs E)) i w.heap.size cs E:=
 ⟨heap_alloc_new w _,eB _ _ _⟩
theorem BlkO.cell{O:Nat->Nat}{w:ln}{i b:Nat}{cs:Array ix}{E:ow}(h:BlkO O w i b cs E)(j:Nat){u:ix}(hu:cs[j]? = some u):w.cell? ⟨b,j,none⟩=some u:=by
 rw[cell_of_row w b j cs E (0,0) h.blk];exact hu
theorem BlkO.set{O:Nat->Nat}{w:ln}{i b:Nat}{cs:Array ix}{E:ow}(h:BlkO O w i b cs E)(j:Nat)(u:ix):BlkO O (w.setCell ⟨b,j,none⟩ u) i b (cs.setIfInBounds j u) E:=by
 refine⟨?_,h.tag⟩;simp only[J7,JQ,if_pos]
 rw[h.blk];simp
theorem Upd.set{S:Nat->Prop}(hz:¬S 0){O:Nat->Nat}{w:ln}{i b j:Nat}{u:ix}(ht:O b=i)(hS:S i):Upd S O w O (w.setCell ⟨b,j,none⟩ u):=
 ⟨rfl,rfl,rfl,by simp[J7],fun k _ hn=>Jq _ _ _ _ (fun e=>hn (by subst e;rw[ht];exact hS)),fun _ _=>rfl,fun _ h=>.inl h,hz⟩
def RowT{α:Type}(enc:α->List ix)(E:ow)(sz:Nat)(O:Nat->Nat)(w:ln)(i:Nat)(v:ix)(l:List α):Prop:=RowO O w i E sz v l.length (l.flatMap enc)/\∀x∈l,(enc x).length=sz
theorem eV{α:Type}{enc:α->List ix}{sz:Nat}:∀(l:List α),(∀x∈l,(enc x).length=sz)->∀i (h:i<l.length) j u,(enc l[i])[j]? = some u->(l.flatMap enc)[i*sz+j]? = some u
 |x::l,hz,0,_,j,u,hu=>by
  have hl:=hz x (by simp);have hj:j<(enc x).length:=(uV.1 (by simpa using hu)).1;simp only[As,Ju,vO];rw[List.getElem?_append_left hj];simpa using hu
 |x::l,hz,i+1,h,j,u,hu=>by
  have hl:=hz x (by simp);simp only[As];rw[show(i+1)*sz+j=(enc x).length+(i*sz+j)from by rw[hl,J5];omega,List.getElem?_append_right zo,show(enc x).length+(i*sz+j)-(enc x).length=i*sz+j from by omega];exact eV l (fun y hy=>hz y (by simp[hy])) i (by simpa using h) j u (by simpa using hu)
theorem RowT.sl{α:Type}{enc:α->List ix}{E:ow}{sz:Nat}{O:Nat->Nat}{w:ln}{i:Nat}{v:ix}{l:List α}(h:RowT enc E sz O w i v l):Sl enc sz w v l:=by
 obtain⟨⟨⟨hl,hr⟩,_⟩,hz⟩:=h
 rcases hr with⟨rfl,h0⟩|⟨g,a0,a3,rfl,_,hg,a1,a2,a4,ht⟩
 ·have:l=[]:=rf h0;subst this;exact⟨⟨none,0,rfl,th _,zo,fun h=>absurd rfl h⟩,fun i hi=>absurd hi (by simp)⟩
 refine⟨⟨_,a0,rfl,a1,by simpa[maxLen]using a2,fun _=>⟨g,0,rfl⟩⟩,fun i hi j u hu=>?_⟩;have:=eV l hz i hi j u hu;rw[<-ht,List.getElem?_take]at this
 split at this
 ·have ha:((adr (.slice (some ⟨g,0,none⟩) l.length a0) sz i).add j)=⟨g,i*sz+j,none⟩:=by
   simp only[adr,zR];split<;>simp_all
  rw[ha,cell_of_row w g _ a3 E (0,0) hg];simpa using this
 cases this
theorem RowT.upd{α:Type}{enc:α->List ix}{S:Nat->Prop}{O O':Nat->Nat}{w w':ln}{i:Nat}{E:ow}{sz:Nat}{v:ix}{l:List α}(h:RowT enc E sz O w i v l)(u:Upd S O w O' w')(hi:i≠0)(hS:¬S i):RowT enc E sz O' w' i v l:=
 ⟨h.1.upd u hi hS,h.2⟩
theorem RowT.drew{α:Type}{enc:α->List ix}{O:Nat->Nat}{w:ln}{i:Nat}{E:ow}{sz:Nat}{v:ix}{l:List α}(h:RowT enc E sz O w i v l):RowT enc E sz O w.drew i v l:=⟨h.1.drew,h.2⟩
theorem RowT.nil{α:Type}(enc:α->List ix)(E:ow)(sz:Nat)(O:Nat->Nat)(w:ln)(i:Nat):RowT enc E sz O w i (nS) []:=⟨RowO.nil _ _ _ _ _,by simp⟩
theorem RowO.one{O:Nat->Nat}{w:ln}{i:Nat}{E:ow}{sz:Nat}{v:ix}{n:Nat}{xs:List ix}(h:RowO O w i E sz v n xs):v.oneCell'=true:=by
 rcases h.row.2 with⟨rfl,_⟩|⟨g,a1,a0,rfl,_⟩<;>rfl
theorem RowT.one{α:Type}{enc:α->List ix}{O:Nat->Nat}{w:ln}{i:Nat}{E:ow}{sz:Nat}{v:ix}{l:List α}(h:RowT enc E sz O w i v l):v.oneCell'=true:=h.1.one
theorem RowT.put{α:Type}{val:α->ix}{O:Nat->Nat}{w:ln}{i:Nat}{E:ow}{v:ix}{l:List α}(h:RowT (fun x=>[val x]) E 1 O w i v l){n:Nat}(hn:n<l.length)(x:α):
  w.cell? (adr v 1 n)=some (val (l[n]))/\w.frozen? (adr v 1 n)=false/\RowT (fun x=>[val x]) E 1 O (w.setCell (adr v 1 n) (val x)) i v (l.set n x)/\O (adr v 1 n).block=i:=by
 have a0:=h.sl.cells n hn 0 (val l[n]) rfl;rw[ao]at a0;refine⟨a0,?_⟩;obtain⟨⟨⟨hl,hr⟩,a1⟩,hz⟩:=h
 rcases hr with⟨rfl,h0⟩|⟨g,a3,a8,rfl,a7,hg,a4,a6,a5,ht⟩
 ·omega
 have ha:adr (.slice (some ⟨g,0,none⟩) l.length a3) 1 n=⟨g,n,none⟩:=by simp[adr]
 rw[ha];have a2:∀l:List α,(l.flatMap fun x=>[val x])=l.map val:=fun l=>by induction l<;>simp_all
 refine⟨by simp[KF,hg],⟨⟨⟨by rw[a2];simp,.inr ⟨g,a3,a8.setIfInBounds n (val x),by simp,a7,?_,by simpa using a4,a6,by simpa using a5,?_⟩⟩,by simpa using a1⟩,by simp⟩,a1 g rfl⟩
 ·simp only[J7,JQ,if_pos];rw[hg];simp
 simp only[J4,List.length_set,JG]at ht ⊢;rw[a2]at ht ⊢;rw[List.take_set,ht,List.map_set]
structure Elem(P:ps)(T E:ow)(sz bytes:Nat):Prop where
 ht:P.underlying T=some (.slice E)
 info:(P.info? E).map (fun i=>(i.zero.map (·.cells.size),i.size,i.bytes))=some (some sz,sz,bytes)
 pos:0<sz
theorem Elem.parts{P:ps}{T E:ow}{sz bytes:Nat}(h:Elem P T E sz bytes):∃i z,P.info? E=some i/\i.zero=some z/\i.size=sz/\i.bytes=bytes/\z.cells.size=sz:=by
 have:=h.info
 cases hi:P.info? E with
 |none=>rw[hi]at this;simp at this
 |some i=>
  rw[hi]at this;simp only[uM,J2,Kp]at this;obtain⟨h1,h2,h3⟩:=this
  cases hz:i.zero with
  |none=>rw[hz]at h1;simp at h1
  |some z=>rw[hz]at h1;simp at h1;exact⟨i,z,rfl,hz,h2,h3,h1⟩
theorem ft{P:ps}{w:ln}{T ty E:ow}{sz a7:Nat}(he:Elem P T E sz a7){B:Nat}{O:Nat->Nat}(r:Rng B O w){i:Nat}
  {v:ix} {n:Nat} {xs:List ix} (a1:RowO O w i E sz v n xs)
  (a:vX) (m c:Nat) (a0:List ix) (hl:a0.length=m*sz) (a3:∀j u,a0[j]? = some u->w.cell? (a.add j)=some u) (h1:∀u∈a0,u.oneCell'=true)
  (a4:(n+m)*a7<=140737488355328) (c8:n+m<=9223372036854775807) (b9:i≠0) :
  ∃v' w' O',(Kc #[T,T] ty #[v,.slice (some a) m c]).run P w=.ok v' w'/\RowO O' w' i E sz v' (n+m) (xs++a0)/\Upd (fun k=>k=i) O w O' w':=by
 obtain⟨a8,z,hi,hz,b8,c7,b7⟩:=he.parts;have ht:=he.ht;subst b8;subst c7;have a5:(xs++a0).length=(n+m)*a8.size:=by rw[tR,a1.row.1,hl,J5]
 have b2:¬(0=i):=fun h=>b9 h.symm
 have a6:∀(old:Nat),old<n+m->
   RowO (lJ O w.heap.size i) (w.drew.alloc (.cells (xs.toArray++a0.toArray++Jp z.cells (grownCap w (n+m) old E-(n+m))) E)) i E a8.size
    (.slice (some ⟨w.heap.size,0,none⟩) (n+m) (grownCap w (n+m) old E)) (n+m) (xs++a0)/\
   Upd (fun k=>k=i) O w (lJ O w.heap.size i) (w.drew.alloc (.cells (xs.toArray++a0.toArray++Jp z.cells (grownCap w (n+m) old E-(n+m))) E)):=by
  intro old ho;have b':=grownCap_ge w (n+m) old E;have b5:grownCap w (n+m) old E<=maxLen:=grownCap_le_maxLen w (n+m) old E (by simpa[maxLen]using c8);refine⟨⟨⟨a5,.inr ⟨w.heap.size,_,_,rfl,vg _,heap_alloc_new w.drew _,b',b5,?_,?_⟩⟩,?_⟩,?_⟩
  ·simp only[Array.size_append,Js,size_zeroCells,b7,a1.row.1,hl,<-J5];congr 1;omega
  ·simp only[Array.toList_append,tp];rw[<-tp,<-a5];exact KH
  ·intro g hg;simp[Fm]at hg;subst hg;exact eB _ _ _
  have u:=Upd.alloc (S:=fun k=>k=i) (w:=w.drew) b2 (B:=B) ⟨r.le,r.rng⟩ (.cells (xs.toArray++a0.toArray++Jp z.cells (grownCap w (n+m) old E-(n+m))) E) i;exact⟨u.os,u.tape,u.output,u.size,u.blk,u.tag,u.new,u.z⟩
 rcases a1.row.2 with⟨rfl,rfl⟩|⟨g,b1,b6,rfl,hbg,hg,c9,b5,c6,a'⟩
 ·have hx:xs=[]:=rf (by simpa using a1.row.1);subst hx
  by_cases hm:m=0
  ·subst hm;have hn:a0=[]:=rf (by simpa using hl);subst hn;refine⟨nS,w,O,?_,RowO.nil _ _ _ _ _,Upd.refl b2 _ _⟩;simp[Kc,run_underlying ht,uu,typeInfo,hi,LP,LQ,loadCells,loadCellsFrom]
  have hr:=run_append_nil (P:=P) w T ty E a8 z ht hi hz a m c a0 hl a3 zo zo (by have hb:=a4;simp only[vO]at hb;omega);have a9:=a6 0 zo;simp only[vO,Dd,Array.empty_append]at a9 ⊢;exact⟨_,_,_,hr,a9.1,a9.2⟩
 have b3:O g=i:=a1.tag g rfl
 by_cases a2:n+m<=b1
 ·have b4:n*a8.size+a0.length<=b6.size:=by rw[hl,c6,<-J5];exact Nat.mul_le_mul_right _ a2
  have hr:=run_append_room (P:=P) w T ty E a8 ht hi g n b1 b6 hg a m c a0 hl a3 h1 a2 b4;refine⟨_,_,O,hr,⟨⟨a5,.inr ⟨g,b1,_,rfl,hbg,setRow_heap w g b6 _ E _ hg,a2,b5,?_,?_⟩⟩,fun g' c5=>a1.tag g' c5⟩,⟨rfl,rfl,rfl,by simp,fun k _ hk=>setRow_other w g k _ (fun e=>hk (by subst e;exact b3)),fun _ _=>rfl,fun _ h=>.inl h,b2⟩⟩
  ·simp only[Js,tR,List.length_take,List.length_drop,K1];omega
  rw[a',<-a5];exact KH
 have b0:∀j u,xs[j]? = some u->w.cell? (nA g j)=some u:=a1.row.cells (g:=g) rfl;have hr:=run_append_grow (P:=P) w T ty E a8 z ht hi hz ⟨g,0,none⟩ n b1 xs a1.row.1 b0 a m c a0 hl a3 zo zo (growslice_fits zo a4);have a9:=a6 b1 zo;exact⟨_,_,_,hr,a9.1,a9.2⟩
theorem foldl_set(f:Array ix->ix×Nat->Array ix)(hf:∀cs c j,f cs (c,j)=cs.setIfInBounds (0+j) c):∀(l:List ix) (k:Nat) (cs:Array ix),k+l.length<=cs.size->
  (l.zipIdx k).foldl f cs=(cs.toList.take k++l++cs.toList.drop (k+l.length)).toArray
 |[],k,cs,_=>by simp
 |u::l,k,cs,h=>by
  simp only[Bh]at h;simp only[List.zipIdx_cons,IJ];rw[foldl_set f hf l (k+1) _ (by rw[hf];simp;omega),hf];simp only[vO,JG];have hk:k<cs.toList.length:=by simp;omega
  congr 1;rw[show k+1+l.length=k+(u::l).length from by simp;omega];have h1:(cs.toList.set k u).take (k+1)=cs.toList.take k++[u]:=by
   rw[Jr (by simpa using hk)];simp[List.take_set_of_le]
  have h2:(cs.toList.set k u).drop (k+(u::l).length)=cs.toList.drop (k+(u::l).length):=by
   rw[List.drop_set_of_lt (by simp)]
  rw[h1,h2];simp
theorem kR{sz:Nat}{cells:Array ix}{v:ix}(h1:v.cells.size=sz)(h2:cells.size=sz):Fo (fun i=>some (i*sz,sz)) cells [(0,v)]=some v.cells:=by
 simp only[Fo,Ju,h1,h2];simp only[vO,ne_eq,not_true_eq_false,decide_false,gt_iff_lt,Nat.lt_irrefl,Bool.or_self,Kd,if_false];have:=foldl_set (fun cs (x:ix×Nat)=>cs.setIfInBounds (0+x.2) x.1) (fun _ _ _=>rfl) v.cells.toList 0 cells (by simp;omega);simp only[vO]at this;rw[<-Array.foldl_toList,Array.toList_zipIdx,this];simp only[KG,Dd];rw[JP (by simp;omega)];simp
section
variable{P:ps}{N:Nat}{ops:Array su}{Q:uw→A2→ln→Prop}{rest:List su}{st:St}{w:ln}
variable{t t':ow}{p p':String}{e e':Array CR}{d d':Nat}{x y z:oD}
theorem WL.push{T E:ow}{sz a0:Nat}(he:Elem P T E sz a0){α:Type}{enc:α->List ix}{B:Nat}{O:Nat->Nat}{i:Nat}{v:ix}{l:List α}(hr:RowT enc E sz O w i v l)(r:Rng B O w)(u:α){xv:ix}
  (hv:∀c,ev ((d,c)::st) y=some v) (hx:ev st x=some xv) (a6:xv.cells.toList=enc u) (a7:(enc u).length=sz) (a':∀c∈enc u,c.oneCell'=true)
  (hb:(l.length+1)*a0<=140737488355328) (b4:l.length+1<=9223372036854775807) (a5:i≠0) (hs:sz<=16777216) (hd:oz d N=true) (b2:oz d' N=true)
  (h:∀v' w' O',RowT enc E sz O' w' i v' (l++[u])->Upd (fun k=>k=i) O w O' w'->Rng B O' w'->WL P N ops Q rest ((d',v')::(d,.slice (some ⟨w.heap.size,0,none⟩) 1 1)::st) w') :
  WL P N ops Q (⟨some d,.buildSlice T 1 #[(0,x)],t,p,e,none⟩::⟨some d',.call ⟨.builtin .append,#[y,.tmp d],#[T,T]⟩,t',p',e',none⟩::rest) st w:=by
 obtain⟨a8,z,hi,hz,a2,b6,b5⟩:=he.parts;have b3:xv.cells.size=sz:=by rw[<-a7,<-a6];simp
 have b1:=he.pos;refine WL.val (v:=.slice (some ⟨w.heap.size,0,none⟩) 1 1) (w':=w.alloc (.cells xv.cells E)) hd (fun a ha=>?_) ?_
 ·have:=run_buildSlice (P:=P) w T E 1 #[(0,xv)] xv.cells a8 z he.ht hi hz (by rw[a2];omega) (by rw[a2];omega) (by
   rw[a2]
   exact kR b3 (by simp))
  simp only[execOp,pZ,ri,tG,ha.ev hx,pc,this,ox];rfl
 have a9:¬(fun k=>k=i) 0:=fun h=>a5 h.symm
 have hE:=Ext.alloc w (.cells xv.cells E);have r1:=r.ext hE;have b0:RowT enc E sz O (w.alloc (.cells xv.cells E)) i v l:=hr.upd (aa (S:=fun _=>False) (fun h=>h) O hE) a5 (fun h=>h)
 obtain⟨v',w',O',a3,a4,a1⟩:=ft (P:=P) (ty:=t') he r1 b0.1 ⟨w.heap.size,0,none⟩ 1 1 (enc u) zo (fun j c hc=>by
  rw[show((⟨w.heap.size,0,none⟩:vX).add j)=⟨w.heap.size,j,none⟩from by simp only[zR];split<;>simp_all,cell_of_row _ _ j xv.cells E (0,0) (heap_alloc_new w _)]
  rw[<-a6]at hc;simpa using hc) a' hb b4 a5
 refine WL.val (v:=v') (w':=w') b2 (fun a ha=>?_) ?_
 ·simp only[execOp,resolve,invoke,builtin,pc,sN,ox,pZ,ri,tG,ha.ev (hv _),ha.ev (x:=.tmp d) (v:=.slice (some ⟨w.heap.size,0,none⟩) 1 1) (by simp[ev,cC]),a3]
 have hU:Upd (fun k=>k=i) O w O' w':=Upd.trans (aa a9 O hE) a1;refine h v' w' O' ⟨by simpa using a4,?_⟩ hU (r.upd hU);intro c hc
 rcases sP.1 hc with hc|hc
 ·exact hr.2 c hc
 rw[pR.1 hc];exact a7
theorem ak{T:ow}{O:Nat->Nat}{i b j:Nat}{cs:Array ix}{E:ow}{u c:ix}(hb:BlkO O w i b cs E)(hj:cs[j]? = some c)(hT:(uu T).run P w=.ok 1 w)(h1:u.oneCell'=true)
  {q:vX} (hx:ev st x=some (.pointer (some q))) (hq:q=⟨b,j,none⟩) (hy:ev st y=some u)
  (h:WL P N ops Q rest st (w.setCell ⟨b,j,none⟩ u)):WL P N ops Q (⟨none,.store T x y,t,p,e,none⟩::rest) st w:=
 iI (fun a ha=>by
  subst hq;have hc:=hb.cell j hj;have hf:w.frozen? ⟨b,j,none⟩=false:=by simp[KF,hb.blk]
  simp only[execOp,ha.ev hx,ha.ev hy]
  cases u<;>simp[AK]at h1<;>simp[J8,xK,storeVar,hT,JS,storeCells,store,JH,hc,hf,zR]) h
theorem WL.storeAt{T:ow}{α:Type}{val:α->ix}{O:Nat->Nat}{i:Nat}{E:ow}{v:ix}{l:List α}(hr:RowT (fun x=>[val x]) E 1 O w i v l)(n:Nat)(hn:n<l.length)(u:α)(hT:(uu T).run P w=.ok 1 w)(h1:(val u).oneCell'=true)(a1:i≠0)
  {q:vX} {uv:ix} (hx:ev st x=some (.pointer (some q))) (hq:q=adr v 1 n) (hy:ev st y=some uv) (hu:uv=val u)
  (h:∀w',RowT (fun x=>[val x]) E 1 O w' i v (l.set n u)->Upd (fun j=>j=i) O w O w'->WL P N ops Q rest st w'):WL P N ops Q (⟨none,.store T x y,t,p,e,none⟩::rest) st w:=by
 subst hq;subst hu;obtain⟨hc,hf,a0,ht⟩:=hr.put hn u;refine iI (w':=w.setCell (adr v 1 n) (val u)) (fun a ha=>?_) (h _ a0 ?_)
 ·simp only[execOp,ha.ev hx,ha.ev hy];generalize val u=uv at *
  cases uv<;>simp[AK]at h1<;>simp[J8,xK,storeVar,hT,JS,storeCells,store,JH,hc,hf,zR]
 refine⟨rfl,rfl,rfl,by simp[J7],fun k _ hn=>Jq _ _ _ _ (fun e=>hn (by rw[e];exact ht)),fun _ _=>rfl,fun _ h=>.inl h,fun h=>a1 h.symm⟩
end
end Go.VL
end
section
namespace Go.VL
def Calm(Q:uw->A2->ln->Prop):uw->A2->ln->Prop
 |.panic _,_,_=>False
 |e,a,w=>Q e a w
theorem Calm.imp{Q:uw->A2->ln->Prop}:∀ {e:uw} {a:A2} {w:ln},Calm Q e a w->Q e a w:=by
 intro e a w h
 cases e<;>first|exact h|exact h.elim
section
variable(P:ps)(N:Nat)
def WH(ops:Array su)(S:ln->Prop)(Q:uw->A2->ln->Prop)(a1:Nat)(a0:Array Bool)(st:St)(w:ln):Prop:=
 ∀a,Fits N a st->wpAnyH P .any ops (Calm Q) S a1 a0 a w
end
section
variable{P:ps}{N:Nat}{ops:Array su}{S:ln→Prop}{Q:uw→A2→ln→Prop}{st:St}{w:ln}{fuel:Nat}{listed:Array Bool}
theorem aI{id:Nat}{l:List su}(S:ln->Prop)(n:Nat)(hn:l.length=n)(hm:P.follows .mixedOrders=true)
  (h:WH P N l.toArray S Q n (Jz n false) st w.drew):WC P N (Jy id l.toArray true) Q st w:=fun a ha=>by
 refine wp_mono (Q:=Calm Q) (wp_region_held (S:=S) hm ?_) fun e a w h=>h.imp
 have:=h a ha;simp only[Js,hn];exact this
theorem WH.take{op:Op}{t:ow}{p:String}{e:Array CR}{d:Nat}{v:ix}(i:Nat)(hi:ops[i]? = some ⟨some d,op,t,p,e,none⟩)
  (hs:rI ops=true) (hf:sQ .any ops listed i=true) (hr:(rm .any ops listed).contains i=true) (hS:S w)
  (hv:∀w',S w'->RV P N op t st w' v) (hd:oz d N=true) (h:WH P N ops S Q fuel (listed.setIfInBounds i true) ((d,v)::st) w):WH P N ops S Q (fuel+1) listed st w:=by
 intro a ha;refine wpAnyH_take (v:=v) hi hs hf hr (fun _ _ _ h=>h) (.inl ⟨by simp[rU],fun w' a0=>hv w' a0 a ha _ _ _ _⟩) hS ?_;exact h _ (ha.put hd v)
theorem uR{op:Op}{t:ow}{p:String}{e:Array CR}{d j:Nat}{b:Bool}{v:ix}(i:Nat)(hi:ops[i]? = some ⟨some d,op,t,p,e,some (j,b)⟩)(hg:said ops st j=some b)
  (hs:rI ops=true) (hf:sQ .any ops listed i=true) (hr:(rm .any ops listed).contains i=true) (hS:S w)
  (hv:∀w',S w'->RV P N op t st w' v) (hd:oz d N=true) (h:WH P N ops S Q fuel (listed.setIfInBounds i true) ((d,v)::st) w):WH P N ops S Q (fuel+1) listed st w:=by
 intro a ha;refine wpAnyH_take (v:=v) hi hs hf hr (fun _ _ _ h=>h) (.inl ⟨by simp[rU,ck ha hg],fun w' a0=>hv w' a0 a ha _ _ _ _⟩) hS ?_;exact h _ (ha.put hd v)
theorem Ac{op:Op}{t:ow}{p:String}{e:Array CR}{d j:Nat}{b b':Bool}(i:Nat)(hi:ops[i]? = some ⟨some d,op,t,p,e,some (j,b)⟩)(hg:said ops st j=some b')(a0:(b'==b)=false)
  (hs:rI ops=true) (hf:sQ .any ops listed i=true) (hr:(rm .any ops listed).contains i=true) (hS:S w)
  (hd:oz d N=true) (h:WH P N ops S Q fuel (listed.setIfInBounds i true) ((d,undef)::st) w):WH P N ops S Q (fuel+1) listed st w:=by
 intro a ha;refine wpAnyH_take (v:=undef) hi hs hf hr (fun _ _ _ h=>h) (.inr ⟨?_,rfl⟩) hS ?_
 ·have:(b'==b)=false:=a0;simp[rU,ck ha hg];simpa using this
 exact h _ (ha.put hd undef)
theorem xu{op:Op}{t:ow}{p:String}{e:Array CR}{d j:Nat}{b:Bool}(i:Nat)(hi:ops[i]? = some ⟨some d,op,t,p,e,some (j,b)⟩)(hg:jE ops st j=true)
  (hs:rI ops=true) (hf:sQ .any ops listed i=true) (hr:(rm .any ops listed).contains i=true) (hS:S w)
  (hd:oz d N=true) (h:WH P N ops S Q fuel (listed.setIfInBounds i true) ((d,undef)::st) w):WH P N ops S Q (fuel+1) listed st w:=by
 intro a ha;refine wpAnyH_take (v:=undef) hi hs hf hr (fun _ _ _ h=>h) (.inr ⟨?_,rfl⟩) hS ?_
 ·unfold jE at hg;simp only[rU,yielded]
  cases hd:(ops[j]?).bind (·.dst)with
  |none=>rw[hd]at hg;simp at hg
  |some d=>
   rw[hd]at hg;simp only at hg
   cases hx:cC st d with
   |none=>rw[hx]at hg;simp at hg
   |some v=>
    rw[hx]at hg
    cases v<;>simp at hg
    simp[ha.get _ _ hx]
 exact h _ (ha.put hd undef)
def sE(P:ps)(ops:Array su)(S:ln->Prop)(Q:uw->A2->ln->Prop)(a1:Nat)(a0:Array Bool):uw->A2->ln->Prop:=
 Exit.then (fun a' w'=>S w'/\wpAnyH P .any ops (Calm Q) S a1 a0 a' w') (Calm Q)
theorem af{i:Nat}(hS:S w)(h:WH P N ops S Q fuel (listed.setIfInBounds i true) st w):QF N (sE P ops S Q fuel (listed.setIfInBounds i true)) .normal st w:=fun a ha=>⟨hS,h a ha⟩
theorem WH.all(rs:List Nat)(hr:rm .any ops listed=rs)(a0:rs≠[])
  (h:∀i∈rs,∀o,ops[i]? = some o->WL P N ops (sE P ops S Q fuel (listed.setIfInBounds i true)) [o] st w):WH P N ops S Q (fuel+1) listed st w:=by
 intro a ha;refine wpAnyH_all hr a0 fun i hi=>?_
 have a1:∃o,ops[i]? = some o:=by
  rw[<-hr]at hi;simp only[rm,I4,FJ]at hi;exact⟨_,Array.getElem?_eq_getElem hi.1⟩
 obtain⟨o,ho⟩:=a1;have h1:=h i hi o ho a ha;unfold wpOp;simp only[ho];unfold wpList at h1
 split
 ·rename_i hw;rw[if_pos hw]at h1;refine h1.imp (fun h2=>?_) (fun⟨h2,h3⟩=>⟨h2,h3⟩);unfold Da at h2 ⊢;generalize (execOp a.eval o).run P w=r at *
  cases r with
  |ok n w'=>
   cases n<;>simp only[Gc]at h2 ⊢<;>first
    |exact h2
    |exact tJ h2 (fun e w'' he=>by cases e<;>exact he)
    |exact Ko h2 (fun _ _ he=>he)
  |halt x w'=>cases x<;>simp only[Gc]at h2 ⊢<;>exact h2
 rename_i hw;rw[if_neg hw]at h1;exact h1
theorem WH.one(i:Nat){o:su}(hr:rm .any ops listed=[i])(hi:ops[i]? = some o)
  (h:WL P N ops (sE P ops S Q fuel (listed.setIfInBounds i true)) [o] st w):WH P N ops S Q (fuel+1) listed st w:=
 WH.all [i] hr (by simp) fun j hj o' a0=>by
  simp only[pR]at hj;subst hj;rw[hi]at a0;cases a0;exact h
theorem bV(i j:Nat){o o':su}(hr:rm .any ops listed=[i,j])(hi:ops[i]? = some o)(hj:ops[j]? = some o')
  (h:WL P N ops (sE P ops S Q fuel (listed.setIfInBounds i true)) [o] st w) (h':WL P N ops (sE P ops S Q fuel (listed.setIfInBounds j true)) [o'] st w):WH P N ops S Q (fuel+1) listed st w:=
 WH.all [i,j] hr (by simp) fun k hk q hq=>by
  simp only[Db,List.not_mem_nil,or_false]at hk
  rcases hk with rfl|rfl
  ·rw[hi]at hq;cases hq;exact h
  rw[hj]at hq;cases hq;exact h'
theorem bL{d:Nat}{b b':Bool}(hs:cC st d=some (.bool b))(hb:b=b')(h:WH P N ops S Q fuel listed ((d,.bool b')::st) w):WH P N ops S Q fuel listed st w:=by
 subst hb;refine fun a ha=>h a ⟨ha.size,ha.defers,fun t v hv=>?_⟩
 simp only[cC]at hv
 cases hb:zf d t with
 |true=>rw[hb]at hv;have:=qN hb;subst this;simp at hv;subst hv;exact ha.get _ _ hs
 |false=>rw[hb]at hv;exact ha.get _ _ hv
theorem WH.done(hr:rm .any ops listed=[])(h:QF N Q .normal st w):WH P N ops S Q fuel listed st w:=fun a ha=>wpAnyH_done (Q:=Calm Q) hr (show Calm Q .normal a w from h a ha) fuel
end
section
variable(P:ps)(N:Nat)
def WS(ops:Array su)(w:ln)(K:A2->Prop)(l:List su)(st:St):Prop:=∀a,Fits N a st->wpStill P ops w K l a
end
section
variable{P:ps}{N:Nat}{ops:Array su}{Q:uw→A2→ln→Prop}{K:A2→Prop}{st:St}{w:ln}{rest:List su}
theorem WC.tail{id:Nat}{l hd tl:List su}(n:Nat)(ht:l.take n=hd)(a0:l.drop n=tl)(hm:P.follows .mixedOrders=true)(hB:Region.lexTailB .any l.toArray n=true)
  (h:WS P N l.toArray w.drew (fun a'=>wpList P l.toArray Q tl a' w.drew) hd st):WC P N (Jy id l.toArray true) Q st w:=fun a ha=>by
 subst ht;subst a0;exact wp_region_still_tail n hm hB (h a ha)
theorem WC.still{id:Nat}{l:List su}(hm:P.follows .mixedOrders=true)(hB:Region.lexB .any l.toArray=true)
  (h:WS P N l.toArray w.drew (fun a'=>Q .normal a' w.drew) l st):WC P N (Jy id l.toArray true) Q st w:=fun a ha=>by
 exact wp_region_still_lit hm hB (h a ha)
theorem WS.go{tl:List su}(h:WL P N ops Q tl st w):WS P N ops w (fun a'=>wpList P ops Q tl a' w) [] st:=fun a ha=>h a ha
theorem WS.nil(h:QF N Q .normal st w):WS P N ops w (fun a'=>Q .normal a' w) [] st:=fun a ha=>h a ha
theorem DO{op:Op}{t:ow}{p:String}{e:Array CR}{d:Nat}{v:ix}(hv:RV P N op t st w v)(hd:oz d N=true)
  (h:WS P N ops w K rest ((d,v)::st)):WS P N ops w K (⟨some d,op,t,p,e,none⟩::rest) st:=fun a ha=>by
 unfold wpStill;rw[if_pos (cd rfl _)];unfold L6;rw[hv a ha];exact⟨rfl,h _ (ha.put hd v)⟩
theorem IU{op:Op}{t:ow}{p:String}{e:Array CR}{d:Option Le}{j:Nat}{b:Bool}(hs:said ops st j=some b)
  (h:WS P N ops w K (⟨d,op,t,p,e,none⟩::rest) st):WS P N ops w K (⟨d,op,t,p,e,some (j,b)⟩::rest) st:=by
 intro a ha;have h1:=h a ha;unfold wpStill at h1 ⊢;rw[if_pos (by simp[rU])]at h1;rw[if_pos (by simp[rU,ck ha hs])];exact h1
theorem WS.off{op:Op}{t:ow}{p:String}{e:Array CR}{d:Nat}{j:Nat}{b b':Bool}(hs:said ops st j=some b')(a0:(b'==b)=false)(hd:oz d N=true)
  (h:WS P N ops w K rest ((d,undef)::st)):WS P N ops w K (⟨some d,op,t,p,e,some (j,b)⟩::rest) st:=by
 intro a ha;unfold wpStill;rw[if_neg (by simp[rU,ck ha hs];simpa using a0)];exact h _ (ha.put hd undef)
theorem Ci{op:Op}{t:ow}{p:String}{e:Array CR}{d:Nat}{j:Nat}{b:Bool}(hs:jE ops st j=true)(hd:oz d N=true)
  (h:WS P N ops w K rest ((d,undef)::st)):WS P N ops w K (⟨some d,op,t,p,e,some (j,b)⟩::rest) st:=by
 intro a ha;unfold wpStill;rw[if_neg ?_]
 ·exact h _ (ha.put hd undef)
 unfold jE at hs;simp only[rU,yielded]
 cases hd:(ops[j]?).bind (·.dst)with
 |none=>rw[hd]at hs;simp at hs
 |some d=>
  rw[hd]at hs;simp only at hs
  cases hx:cC st d with
  |none=>rw[hx]at hs;simp at hs
  |some v=>
   rw[hx]at hs
   cases v<;>simp at hs
   simp[ha.get _ _ hx]
theorem bP{d:Nat}{b b':Bool}{l:List su}(hs:cC st d=some (.bool b))(hb:b=b')(h:WS P N ops w K l ((d,.bool b')::st)):WS P N ops w K l st:=by
 subst hb;refine fun a ha=>h a ⟨ha.size,ha.defers,fun t v hv=>?_⟩
 simp only[cC]at hv
 cases hb:zf d t with
 |true=>rw[hb]at hv;have:=qN hb;subst this;simp at hv;subst hv;exact ha.get _ _ hs
 |false=>rw[hb]at hv;exact ha.get _ _ hv
theorem WS.call{t:ow}{p:String}{e:Array CR}{d:Nat}{f:J6}{args:List oD}{a2:Array ow}{vs:List ix}{v:ix}
  (hf:∀(args:Array ix) (w:ln),(callFunc f args).run P w=.ok (.enter f args) w) (a0:evs st args=some vs) (hc:Ret P f vs w fun u w'=>u=v/\w'=w) (hd:oz d N=true)
  (h:WS P N ops w K rest ((d,v)::st)):WS P N ops w K (⟨some d,.call ⟨.value (.func f),args.toArray,a2⟩,t,p,e,none⟩::rest) st:=by
 intro a ha;unfold wpStill;rw[if_pos (cd rfl _)];unfold L6;have a1:(execOp a.eval ⟨some d,.call ⟨.value (.func f),args.toArray,a2⟩,t,p,e,none⟩).run P w=.ok (.enter f vs.toArray) w:=by
  simp only[execOp,resolve,B1,pZ];rw[ha.evs a0];simp[FX,invoke,hf]
 rw[a1];refine⟨rfl,v,tJ hc fun e w' q=>?_,h _ (ha.put hd v)⟩
 cases e with
 |returned u=>exact⟨by rw[q.1],q.2⟩
 |panicked c=>exact q.elim
 |outgrown=>exact q.elim
end
end Go.VL
end
section
namespace Go.VL
section
variable{κ ν:Type}{kv:κ→ix}{vv:ν→ix}
structure MapO{κ ν:Type}(kv:κ->ix)(vv:ν->ix)(O:Nat->Nat)(w:ln)(i r:Nat)(l:List (κ×ν)):Prop where
 blk:∃es clock,w.heap[r]? = some (.map es clock)/\es.toList.map (fun e=>(e.key,e.val))=l.map fun p=>(kv p.1,vv p.2)
 tag:O r=i
 born:∀es clock,w.heap[r]? = some (.map es clock)->(es.toList.map (·.born)).Nodup/\∀e∈es.toList,e.born<clock
theorem MapO.upd{S:Nat->Prop}{O O':Nat->Nat}{w w':ln}{i r:Nat}{l:List (κ×ν)}(h:MapO kv vv O w i r l)(u:Upd S O w O' w')(hi:i≠0)(hS:¬S i):MapO kv vv O' w' i r l:=by
 obtain⟨es,c,h1,h2⟩:=h.blk;have e:=u.blk r (bB h1) (by rw[h.tag];exact hS);exact⟨⟨es,c,by rw[e];exact h1,h2⟩,by rw[u.tag r (by rw[h.tag];exact hi),h.tag],fun a0 c' h'=>h.born a0 c' (by rw[<-e];exact h')⟩
theorem MapO.new(O:Nat->Nat)(w:ln)(i:Nat):MapO kv vv (lJ O w.heap.size i) (w.alloc (.map #[] 0)) i w.heap.size []:=⟨⟨#[],0,heap_alloc_new w _,by simp⟩,eB _ _ _,fun es c h=>by rw[heap_alloc_new]at h;cases h;simp⟩
end
section
variable{κ ν:Type}[DecidableEq κ]
def bx:List (κ×ν)->κ->Option ν
 |[],_=>none
 |(a,x)::r,k=>if a=k then some x else bx r k
def cJ:List (κ×ν)->κ->ν->List (κ×ν)
 |[],k,x=>[(k,x)]
 |(a,y)::r,k,x=>if a=k then(k,x)::r else(a,y)::cJ r k x
def je:List (κ×ν)->κ->Option Nat
 |[],_=>none
 |(a,_)::r,k=>if a=k then some 0 else(je r k).map (· + 1)
theorem bf(l:List (κ×ν))(k k':κ)(x:ν):bx (cJ l k x) k'=if k=k' then some x else bx l k':=by
 induction l with
 |nil=>simp[cJ,bx]
 |cons p r ih=>
  obtain⟨a,y⟩:=p;simp only[cJ]
  by_cases h:a=k
  ·subst h;simp only[if_pos,bx]
   by_cases h2:a=k'<;>simp[h2]
  simp only[if_neg h,bx]
  by_cases h2:a=k'
  ·subst h2;simp only[if_true];rw[if_neg (fun e=>h e.symm)]
  simp[h2,ih]
structure KeyL(P:ps)(K:ow)(kv:κ->ix):Prop where
 check:∀b n k w,(JF b (n+2) K (kv k)).run P w=.ok () w
 find:∀k (es:List KB) (ks:List κ) w,es.map (·.key)=ks.map kv->(JK K (kv k) es).run P w=.ok ((ks.findIdx? (· = k)).bind fun i=>(es[i]?).map fun e=>(i,e.val)) w
 same:∀k,JE 10000 (kv k) (kv k)=true
theorem KeyL.int{P:ps}{K:ow}{q:rk}(hK:P.underlying K=some (.int q)):KeyL P K (fun n:Int=>C2 q n):=by
 refine⟨fun b n k w=>?_,fun k es ks w h=>?_,fun k=>?_⟩
 ·simp[JF,run_underlying hK]
 ·have key:∀(es:List KB) (ks:List Int) (j:Nat),es.map (·.key)=ks.map (fun n=>C2 q n)->
    CY (.int q) (.int q k) es j=some ((ks.findIdx? (· = k)).bind fun i=>(es[i]?).map fun e=>(j+i,e.val)):=by
   intro es
   induction es with
   |nil=>intro ks j h;cases ks with
    |nil=>simp[CY]
    |cons a r=>simp at h
   |cons e es ih=>
    intro ks j h
    cases ks with
    |nil=>simp at h
    |cons a r=>
     simp only[ri,C9]at h;simp only[CY,h.1,KI,if_true]
     by_cases hk:k=a
     ·subst hk;simp[BV]
     have:(k==a)=false:=by simpa using hk
     rw[this];simp only;rw[ih r (j+1) h.2];simp only[BV,decide_eq_true_eq];rw[if_neg (fun e=>hk e.symm)]
     cases hf:KM (fun x=>decide (x=k)) r with
     |none=>simp
     |some i=>simp[KW,L2 1]
  have:=key es ks 0 h;simp only[vO]at this;simp[JK,run_underlying hK,this]
 simp[JE]
theorem Fb(a b:ByteArray):(a==b)=decide (a=b):=by
 cases a with|mk a=>cases b with|mk b=>
 show(a==b)=_
 by_cases h:a=b
 ·subst h;simp
 have:(a==b)=false:=by simpa using h
 rw[this];symm;simpa using h
theorem DS{P:ps}{K:ow}(hK:P.underlying K=some .string):KeyL P K KK:=by
 refine⟨fun b n k w=>?_,fun k es ks w h=>?_,fun k=>?_⟩
 ·simp[JF,run_underlying hK]
 ·have key:∀(es:List KB) (ks:List ByteArray) (j:Nat),es.map (·.key)=ks.map KK->
    CY .string (.string k) es j=some ((ks.findIdx? (· = k)).bind fun i=>(es[i]?).map fun e=>(j+i,e.val)):=by
   intro es
   induction es with
   |nil=>intro ks j h;cases ks with
    |nil=>simp[CY]
    |cons a r=>simp at h
   |cons e es ih=>
    intro ks j h
    cases ks with
    |nil=>simp at h
    |cons a r=>
     simp only[ri,C9]at h;simp only[CY,h.1,KI,Fb]
     by_cases hk:k=a
     ·subst hk;simp[BV]
     have:decide (k=a)=false:=by simpa using hk
     rw[this];simp only;rw[ih r (j+1) h.2];simp only[BV,decide_eq_true_eq];rw[if_neg (fun e=>hk e.symm)]
     cases hf:KM (fun x=>decide (x=k)) r with
     |none=>simp
     |some i=>simp[KW,L2 1]
  have:=key es ks 0 h;simp only[vO]at this;simp[JK,run_underlying hK,this]
 simp[JE,Fb]
variable{kv:κ→ix}{vv:ν→ix}
theorem ey:∀(l:List (κ×ν)) (k:κ),(l.map (·.1)).findIdx? (· = k)=je l k
 |[],k=>rfl
 |(a,x)::r,k=>by
  simp only[ri,BV,je,decide_eq_true_eq]
  by_cases h:a=k
  ·simp[h]
  simp only[if_neg h];rw[ey r k]
theorem lh:∀(l:List (κ×ν)) (k:κ),bx l k=(je l k).bind fun i=>(l[i]?).map (·.2)
 |[],k=>rfl
 |(a,x)::r,k=>by
  simp only[bx,je]
  by_cases h:a=k
  ·simp[h]
  simp only[if_neg h];rw[lh r k]
  cases je r k<;>simp
theorem eK:∀(l:List (κ×ν)) (k:κ) (x:ν),cJ l k x=match je l k with
  |some i=>l.set i (k,x)
  |none=>l++[(k,x)]
 |[],k,x=>rfl
 |(a,y)::r,k,x=>by
  simp only[cJ,je]
  by_cases h:a=k
  ·simp[h]
  simp only[if_neg h];rw[eK r k x]
  cases je r k<;>simp
theorem iH:∀ {l:List (κ×ν)} {k:κ} {i:Nat},je l k=some i->∃x,l[i]? = some (k,x)
 |(a,x)::r,k,i,h=>by
  simp only[je]at h
  by_cases hk:a=k
  ·subst hk;simp at h;subst h;exact⟨x,rfl⟩
  rw[if_neg hk]at h
  cases hr:je r k with
  |none=>rw[hr]at h;simp at h
  |some j=>
   rw[hr]at h;simp at h;subst h;obtain⟨y,hy⟩:=iH hr;exact⟨y,by simpa using hy⟩
def Gk(vv:ν->ix)(z:ix):Option ν->ix
 |some x=>vv x
 |none=>z
def Fe(vv:ν->ix)(z:ix):Option ν->ix
 |some x=>.tuple #[vv x,.bool true]
 |none=>.tuple #[z,.bool false]
theorem jt{P:ps}{T K E:ow}(hT:P.underlying T=some (.map K E))(hK:KeyL P K kv){O:Nat->Nat}{w:ln}{i r:Nat}{l:List (κ×ν)}(h:MapO kv vv O w i r l){z:ix}(hz:(De E).run P w=.ok z w)(k:κ)(ok:Bool):
  (KP T (.map (some r)) (kv k) ok).run P w=.ok (match bx l k with
   |some x=>if ok then .tuple #[vv x,.bool true]else vv x
   |none=>if ok then .tuple #[z,.bool false]else z) w:=by
 obtain⟨es,c,h1,h2⟩:=h.blk;have a0:es.toList.map (·.key)=(l.map (·.1)).map kv:=by
  have:=congrArg (JI Lh) h2;simpa[JW]using this
 have hf:=hK.find k es.toList (l.map (·.1)) w a0;rw[ey]at hf;have hc:=hK.check es.isEmpty 9998 k w;simp only[KP,pc,run_underlying hT,ox];simp only[getObj,JH,h1,pc,ox,sN,hc,hf];rw[lh]
 cases hi:je l k with
 |none=>simp[hz]
 |some j=>
  obtain⟨x,hx⟩:=iH hi;have hj:es.toList[j]?.map (fun e=>(e.key,e.val))=some (kv k,vv x):=by
   have:=congrArg (fun l=>l[j]?) h2;simpa[hx]using this
  cases he:es.toList[j]? with
  |none=>rw[he]at hj;simp at hj
  |some e'=>
   rw[he]at hj;simp at hj;simp only[K8,he,hx,uM,hj.2]
   cases ok<;>simp
theorem dV{P:ps}{T K E:ow}(hT:P.underlying T=some (.map K E))(hK:KeyL P K kv){O:Nat->Nat}{w:ln}{i r:Nat}{l:List (κ×ν)}(h:MapO kv vv O w i r l)(a':i≠0)(k:κ)(x:ν):
  ∃w',(Jw T (.map (some r)) (kv k) (vv x)).run P w=.ok () w'/\MapO kv vv O w' i r (cJ l k x)/\Upd (fun j=>j=i) O w O w':=by
 obtain⟨es,c,h1,h2⟩:=h.blk;have a9:es.toList.map (·.key)=(l.map (·.1)).map kv:=by
  have:=congrArg (JI Lh) h2;simpa[JW]using this
 have hf:=hK.find k es.toList (l.map (·.1)) w a9;rw[ey]at hf;have hc:=hK.check false 9998 k w;have hr:=bB h1;have a8:es.size=l.length:=by have:=congrArg List.length h2;simpa using this
 have a1:=h.born es c h1;have a6:∀(a0:Array KB) (c':Nat),((a0.toList.map (·.born)).Nodup/\∀e∈a0.toList,e.born<c')->a0.toList.map (fun e=>(e.key,e.val))=(cJ l k x).map (fun p=>(kv p.1,vv p.2))->
   MapO kv vv O { w with heap:=w.heap.setIfInBounds r (.map a0 c') } i r (cJ l k x)/\Upd (fun j=>j=i) O w O { w with heap:=w.heap.setIfInBounds r (.map a0 c') }:=by
  intro a0 c' a4 he;refine⟨⟨⟨a0,c',by simp[hr],he⟩,h.tag,fun b0 c2 h2=>by simp[hr]at h2;obtain⟨rfl,rfl⟩:=h2;exact a4⟩,⟨rfl,rfl,rfl,by simp,fun b _ hn=>?_,fun _ _=>rfl,fun _ h=>.inl h,fun h=>a' h.symm⟩⟩;simp only[JA];rw[if_neg (fun e=>hn (by rw[<-e];exact h.tag))]
 have a2:(Jw T (.map (some r)) (kv k) (vv x)).run P w=((match ((je l k).bind fun i=>(es.toList[i]?).map fun e=>(i,e.val))with
   |some (i,_)=>do
    let key <-Jo (((es[i]?).map (·.key)).getD (kv k)) (kv k)
    setObj r (.map (es.modify i fun e=>{ e with key,val:=vv x }) c)
   |none=>setObj r (.map (es.push { key:=kv k,val:=vv x,born:=c }) (c+1)):Sem Unit)).run P w:=by
  simp only[Jw,pc,run_underlying hT,ox];simp only[getObj,JH,h1,pc,ox,hc,hf];generalize ((je l k).bind fun i=>Option.map (fun e=>(i,e.val)) es.toList[i]?)=q
  cases q with
  |none=>rfl
  |some p=>rfl
 rw[a2,eK]
 cases hi:je l k with
 |none=>
  refine⟨_,by simp only[Option.bind_none,setObj,JH,h1];rfl,?_⟩
  have:=a6 (es.push { key:=kv k,val:=vv x,born:=c }) (c+1) (by
   refine⟨?_,?_⟩
   ·simp only[Ke,JB,ri,tG];refine Kl.2 ⟨a1.1,by simp,?_⟩;intro a ha b hb;obtain⟨e,he,rfl⟩:=BW.1 ha;have:=a1.2 e he;simp at hb;omega
   intro e he;simp only[Ke,sP,pR]at he
   rcases he with he|rfl
   ·have:=a1.2 e he;omega
   simp) (by rw[eK,hi];simp[h2])
  rw[eK,hi]at this;exact this
 |some j=>
  obtain⟨y,hy⟩:=iH hi;have hj:es.toList[j]?.map (fun e=>(e.key,e.val))=some (kv k,vv y):=by
   have:=congrArg (fun l=>l[j]?) h2;simpa[hy]using this
  cases he:es.toList[j]? with
  |none=>rw[he]at hj;simp at hj
  |some e'=>
   rw[he]at hj;simp at hj;have a3:es[j]? = some e':=by simpa using he
   have a7:(Jo (kv k) (kv k))=pure (kv k):=by simp[Jo,hK.same k]
   refine⟨_,by simp only[K8,he,uM,a3,hj.1,Option.getD_some,a7,pc,sN,ox,setObj,JH,h1];rfl,?_⟩;have a5:((es.modify j fun e=>{ e with key:=kv k,val:=vv x }).toList.map (·.born))=es.toList.map (·.born):=by
    simp only[K0];apply Km;intro m;simp only[Jt,JZ]
    split
    ·cases es.toList[m]?<;>simp
    cases es.toList[m]?<;>simp
   have:=a6 (es.modify j fun e=>{ e with key:=kv k,val:=vv x }) c (by
    rw[a5];refine⟨a1.1,fun e he=>?_⟩;have:e.born∈es.toList.map (·.born):=by rw[<-a5];exact BW.2 ⟨e,he,rfl⟩
    obtain⟨e2,a3,q⟩:=BW.1 this;have:=a1.2 e2 a3;omega) (by
    rw[eK,hi];simp only[K0];apply Km;intro m;have h2m:=congrArg (fun l=>l[m]?) h2;simp only[Jt]at h2m;simp only[Jt,JZ,List.getElem?_set]
    by_cases hm:j=m
    ·subst hm;have hl:j<l.length:=(uV.1 hy).1;simp[he,hl]
    simp only[if_neg hm]
    simpa using h2m)
   rw[eK,hi]at this;exact this
section
variable{P:ps}{N:Nat}{ops:Array su}{Q:uw→A2→ln→Prop}{rest:List su}{st:St}{w:ln}
variable{t:ow}{p:String}{e:Array CR}{d:Nat}{x y z:oD}
theorem WL.makeMap{T:ow}(hd:oz d N=true)(h:WL P N ops Q rest ((d,.map (some w.heap.size))::st) (w.alloc (.map #[] 0))):WL P N ops Q (⟨some d,.makeMap T none,t,p,e,none⟩::rest) st w:=
 WL.val hd (fun a ha=>by simp only[execOp,yJ,pc];rfl) h
theorem RV.lookup{T K E:ow}{O:Nat->Nat}{i r:Nat}{l:List (κ×ν)}(hm:MapO kv vv O w i r l)(hT:P.underlying T=some (.map K E))(hK:KeyL P K kv){z:ix}(hz:(De E).run P w=.ok z w)
  (k:κ) {kx u:ix} (hx:ev st x=some (.map (some r))) (hy:ev st y=some kx) (hk:kx=kv k) (hu:Gk vv z (bx l k)=u):RV P N (.lookup T x y false) t st w u:=
 fun a ha a0 p e g=>by
  subst hk;subst hu;simp only[execOp,ha.ev hx,ha.ev hy,pc,jt hT hK hm hz]
  cases bx l k<;>simp[Gk]
theorem cS{T K E:ow}{O:Nat->Nat}{i r:Nat}{l:List (κ×ν)}(hm:MapO kv vv O w i r l)(hT:P.underlying T=some (.map K E))(hK:KeyL P K kv){z:ix}(hz:(De E).run P w=.ok z w)
  (k:κ) {kx u:ix} (hx:ev st x=some (.map (some r))) (hy:ev st y=some kx) (hk:kx=kv k) (hu:Fe vv z (bx l k)=u):RV P N (.lookup T x y true) t st w u:=
 fun a ha a0 p e g=>by
  subst hk;subst hu;simp only[execOp,ha.ev hx,ha.ev hy,pc,jt hT hK hm hz]
  cases bx l k<;>simp[Fe]
theorem WL.mapUpdate{T K E:ow}{O:Nat->Nat}{i r:Nat}{l:List (κ×ν)}(hm:MapO kv vv O w i r l)(hT:P.underlying T=some (.map K E))(hK:KeyL P K kv)(a0:i≠0)
  (k:κ) (u:ν) {kx ux:ix} (hx:ev st x=some (.map (some r))) (hy:ev st y=some kx) (hz:ev st z=some ux) (hk:kx=kv k) (hu:ux=vv u)
  (h:∀w',MapO kv vv O w' i r (cJ l k u)->Upd (fun j=>j=i) O w O w'->WL P N ops Q rest st w'):WL P N ops Q (⟨none,.mapUpdate T x y z,t,p,e,none⟩::rest) st w:=by
 subst hk;subst hu;obtain⟨w',h1,h2,h3⟩:=dV hT hK hm a0 k u;exact iI (fun a ha=>by simp only[execOp,ha.ev hx,ha.ev hy,ha.ev hz,pc,h1,ox,sN]) (h w' h2 h3)
end
end
end Go.VL
end
section
namespace Go.VL
theorem Gg{α:Type}[Inhabited α]{l:List α}{p:α->Bool}(h:∀j,j<l.length->p (nth l j)=true):l.all p=true:=by
 rw[Kv];intro x hx;obtain⟨i,hi,rfl⟩:=K6 hx;rw[<-aB hi];exact h i hi
theorem vG{α:Type}[Inhabited α]{l:List α}{p:α->Bool}{j:Nat}(hj:j<l.length)(h:p (nth l j)=false):l.all p=false:=by
 rw[List.all_eq_false];exact⟨l[j],Gh hj,by rw[<-aB hj,h];simp⟩
theorem aO{α:Type}[Inhabited α]{l:List α}{j:Nat}(hj:j<l.length):nth l j∈l:=by rw[aB hj];exact Gh hj
theorem aR{α:Type}[Inhabited α]{l:List α}{j:Nat}(hj:j<l.length):l.take (j+1)=l.take j++[nth l j]:=by
 rw[Jr hj,aB hj]
theorem cI{α:Type}[Inhabited α]{l:List α}{x:α}(hx:x∈l):∃j,j<l.length/\nth l j=x:=by
 obtain⟨i,hi,rfl⟩:=K6 hx;exact⟨i,hi,aB hi⟩
def anyN(q:Nat->Bool)(n:Nat):Bool:=(AW n).any q
theorem cQ{q:Nat->Bool}{n:Nat}:anyN q n=true↔∃i,i<n/\q i=true:=by simp[anyN]
theorem bz{q:Nat->Bool}{n:Nat}:anyN q n=false↔∀i,i<n->q i=false:=by simp[anyN]
theorem Aa{q r:Nat->Bool}{n:Nat}(h:∀i,i<n->q i=r i):anyN q n=anyN r n:=by
 cases hq:anyN r n with
 |true=>obtain⟨i,hi,hr⟩:=cQ.1 hq;exact cQ.2 ⟨i,hi,by rw[h i hi,hr]⟩
 |false=>exact bz.2 fun i hi=>by rw[h i hi];exact bz.1 hq i hi
theorem iG{α:Type}[Inhabited α]{l:List α}{p:α->Bool}:anyN (fun i=>p (nth l i)) l.length=l.any p:=by
 cases h:l.any p with
 |true=>
  obtain⟨x,hx,hp⟩:=Gi.1 h;obtain⟨i,hi,rfl⟩:=cI hx;exact cQ.2 ⟨i,hi,hp⟩
 |false=>exact bz.2 fun i hi=>by have:=List.any_eq_false.1 h _ (aO hi);simpa using this
def dQ(q:Nat->Bool)(n:Nat):Int:=match (AW n).find? q with
 |some i=>i
 |none=>-1
theorem cE{q:Nat->Bool}{n:Nat}(h:∀i,i<n->q i=false):dQ q n = -1:=by
 have:(AW n).find? q=none:=by rw[Kb];intro x hx;simp[h x (FJ.1 hx)]
 rw[dQ,this]
theorem cG{q:Nat->Bool}{n k:Nat}(hk:k<n)(hy:q k=true)(a0:∀i,i<k->q i=false):dQ q n=k:=by
 have:(AW n).find? q=some k:=by
  rw[List.find?_range_eq_some];exact⟨hy,FJ.2 hk,fun j hj=>by simp[a0 j hj]⟩
 rw[dQ,this]
theorem firstN_any{q:Nat->Bool}{n:Nat}:decide ((0:Int)<=dQ q n)=anyN q n:=by
 cases h:anyN q n with
 |false=>rw[cE (bz.1 h)];rfl
 |true=>
  obtain⟨i,hi,hq⟩:=cQ.1 h;have:∃j,(AW n).find? q=some j:=by
   cases hf:(AW n).find? q with
   |some j=>exact⟨j,rfl⟩
   |none=>rw[Kb]at hf;exact absurd hq (hf i (FJ.2 hi))
  obtain⟨j,hj⟩:=this;rw[dQ,hj];simp
theorem eS{α:Type}[Inhabited α]{l:List α}{j:Nat}(h:l.length<=j):nth l j=default:=by simp[nth,ug,J0 h]
theorem aT{α:Type}[Inhabited α]{l:List α}{i j:Nat}{x:α}(hi:i<l.length):nth (l.set i x) j=if j=i then x else nth l j:=by
 by_cases hj:j<l.length
 ·rw[aB (by simpa using hj),aB hj,List.getElem_set]
  by_cases h:i=j<;>simp[h,eq_comm]
 rw[if_neg zo];have:∀l:List α,l.length<=j->nth l j=default:=fun l h=>by simp[nth,ug,J0 h]
 rw[this _ (by simp;omega),this _ zo]
theorem aA{α:Type}[Inhabited α]{l r:List α}{j:Nat}:nth (l++r) j=if j<l.length then nth l j else nth r (j-l.length):=by
 split
 ·rename_i h;rw[aB (by simp;omega),aB h,List.getElem_append_left h]
 rename_i h
 by_cases hj:j-l.length<r.length
 ·rw[aB (by simp;omega),aB hj,List.getElem_append_right zo]
 have:∀(l:List α) (j:Nat),l.length<=j->nth l j=default:=fun l j h=>by simp[nth,ug,J0 h]
 rw[this _ _ (by simp;omega),this _ _ zo]
theorem dI{α β:Type}[Inhabited α][Inhabited β]{f:α->β}{l:List α}{i:Nat}(h:i<l.length):nth (l.map f) i=f (nth l i):=by
 rw[aB (by simpa using h),aB h];simp
end Go.VL
end
section
namespace Go.VL
open Go.ChangeShapes Go.WideShapes Go.ChangeAt Go.RowKit Go.Deep
variable{H:Type}{enc:ow×ix→H}{P:ps}{w:ln}{base:Nat}{held:Bool}
theorem Ct{f:J6}{args:List ix}(h:Ret P f args w fun v w'=>v=.bool true/\Ext w w'):KZ P f args.toArray w fun e w'=>e=.returned (.bool true)/\Below w.heap.size w w':=
 tJ h fun e w' q=>by
  cases e with
  |returned v=>exact⟨by rw[q.1],q.2⟩
  |panicked c=>exact q.elim
  |outgrown=>exact q.elim
end Go.VL
end
section
namespace Go.VL
def evp(st:St):List (Nat×oD)->Option (List (Nat×ix))
 |[]=>some []
 |(i,x)::r=>match ev st x,evp st r with
  |some v,some vs=>some ((i,v)::vs)
  |_,_=>none
section
variable{P:ps}{N:Nat}{ops:Array su}{Q:uw→A2→ln→Prop}{rest:List su}{st:St}{w:ln}
variable{t:ow}{p:String}{e:Array CR}{d:Nat}{x y z:oD}
theorem Fits.evp{a:A2}(ha:Fits N a st):∀ {l:List (Nat×oD)} {vs:List (Nat×ix)},evp st l=some vs->l.map (fun q=>(q.1,a.eval q.2))=vs:=by
 intro l
 induction l with
 |nil=>intro vs h;simpa[VL.evp]using h.symm
 |cons q r ih=>
  obtain⟨i,x⟩:=q;intro vs h;simp only[VL.evp]at h
  cases h1:VL.ev st x with
  |none=>rw[h1]at h;simp at h
  |some v=>
   cases h2:VL.evp st r with
   |none=>rw[h1,h2]at h;simp at h
   |some vs'=>
    rw[h1,h2]at h;simp at h;subst h;rw[ri,ha.ev h1,ih h2]
def cV(P:ps)(T:ow)(pl:Array (Nat×Nat)):Prop:=
 ∃fs,P.underlying T=some (.struct fs)/\∀w,(fs.mapM fun f=>do pure (f.offset,<-uu f.type):Sem (Array (Nat×Nat))).run P w=.ok pl w
theorem RV.build{T:ow}{pl:Array (Nat×Nat)}{parts:List (Nat×oD)}{vs:List (Nat×ix)}{z:ix}{cells:Array ix}(hp:cV P T pl)(hz:(De T).run P w=.ok z w)
  (hv:evp st parts=some vs) (hf:Fo (pl[·]?) z.cells vs=some cells):RV P N (.build T parts.toArray) t st w (.agg cells):=
 fun a ha a1 p e g=>by
  obtain⟨fs,hu,a0⟩:=hp;have h1:=ha.evp hv;have e1:(JI (fun x:Nat×oD=>match x with|(i,x)=>(i,a.eval x)) parts)=vs:=by rw[<-h1]
  simp only[execOp,KX,pZ,e1,pc,hz,ox,run_underlying hu,a0,hf,sN]
theorem fill_flat(pl:Array (Nat×Nat)):∀(vs:List (Nat×ix)) (cells:Array ix),(vs.all fun q=>q.2.oneCell')=true->
  (vs.all fun q=>match pl[q.1]? with|some (off,1)=>oz off cells.size|_=>false)=true->
  Fo (pl[·]?) cells vs=some (vs.foldl (fun cs q=>cs.setIfInBounds (pl.getD q.1 (0,0)).1 q.2) cells)
 |[],cells,_,_=>rfl
 |(i,v)::r,cells,h1,h2=>by
  simp only[KO,rj]at h1 h2;obtain⟨hv,h1⟩:=h1;obtain⟨hi,h2⟩:=h2
  cases hp:pl[i]? with
  |none=>rw[hp]at hi;simp at hi
  |some q=>
   obtain⟨off,s⟩:=q;rw[hp]at hi
   split at hi
   ·rename_i he;simp only[J2,Kp]at he;obtain⟨rfl,rfl⟩:=he;have a2:off<cells.size:=CX hi;have hc:v.cells = #[v]:=by cases v<;>first|rfl|simp[AK]at hv
    have hg:pl.getD i (0,0)=(off,1):=by simp[oU,hp]
    have a0:∀(f:Array ix->ix×Nat->Array ix),(∀cs c j,f cs (c,j)=cs.setIfInBounds (off+j) c)->(#[v].zipIdx).foldl f cells=cells.setIfInBounds off v:=fun f hf=>by
     rw[show(#[v].zipIdx) = #[(v,0)]from rfl];show f cells (v,0)=_;rw[hf];rfl
    have a1:¬(1≠1\/off+1>cells.size):=zo;simp only[Fo,hp,hc,IJ,hg];have e1:((#[v].size:Nat))=1:=rfl;simp only[e1];rw[if_neg (by simp;omega)];rw[a0 _ (fun _ _ _=>rfl)];exact fill_flat pl r _ h1 (by simpa using h2)
   cases hi
theorem aF{T:ow}{pl:Array (Nat×Nat)}{parts:List (Nat×oD)}{vs:List (Nat×ix)}{z:ix}{cells:Array ix}(hp:cV P T pl)(hz:(De T).run P w=.ok z w)
  (hv:evp st parts=some vs) (h1:(vs.all fun q=>q.2.oneCell')=true) (h2:(vs.all fun q=>match pl[q.1]? with|some (off,1)=>oz off z.cells.size|_=>false)=true)
  (hf:vs.foldl (fun cs q=>cs.setIfInBounds (pl.getD q.1 (0,0)).1 q.2) z.cells=cells):RV P N (.build T parts.toArray) t st w (.agg cells):=
 RV.build hp hz hv (by rw[fill_flat pl vs _ h1 h2,hf])
theorem ti{O:Nat->Nat}{i b:Nat}{cs us:Array ix}{E T:ow}(hb:BlkO O w i b cs E)(hs:us.size=cs.size)(hT:(uu T).run P w=.ok us.size w)(h1:∀u∈us.toList,u.oneCell'=true):
  (J8 T (nP b) (.agg us)).run P w=.ok () (w.setRow b us):=by
 have:=run_storeCells_at P b 0 E us.toList 0 cs w hb.blk (by simp[hs]) h1;simp only[vO,KG,Dd,K1]at this;rw[JP (by simp[hs]),zI]at this;simp only[J8,xK,storeVar,pc,sN,ox,JS,hT];simpa using this
theorem BlkO.setRow{O:Nat->Nat}{w:ln}{i b:Nat}{cs us:Array ix}{E:ow}(h:BlkO O w i b cs E):BlkO O (w.setRow b us) i b us E:=
 ⟨setRow_heap w b cs us E (0,0) h.blk,h.tag⟩
theorem Upd.setRow{S:Nat->Prop}(hz:¬S 0){O:Nat->Nat}{w:ln}{i b:Nat}{us:Array ix}(ht:O b=i)(hS:S i):Upd S O w O (w.setRow b us):=
 ⟨rfl,rfl,rfl,by simp,fun k _ hn=>setRow_other w b k _ (fun e=>hn (by subst e;rw[ht];exact hS)),fun _ _=>rfl,fun _ h=>.inl h,hz⟩
theorem bE{T:ow}{O:Nat->Nat}{i b:Nat}{cs us:Array ix}{E:ow}(hb:BlkO O w i b cs E)(hs:us.size=cs.size)(hT:(uu T).run P w=.ok us.size w)(h1:us.toList.all AK=true)
  {q:vX} (hx:ev st x=some (.pointer (some q))) (hq:q=⟨b,0,none⟩) (hy:ev st y=some (.agg us))
  (h:WL P N ops Q rest st (w.setRow b us)):WL P N ops Q (⟨none,.store T x y,t,p,e,none⟩::rest) st w:=
 iI (fun a ha=>by
  subst hq
  simp only[execOp,ha.ev hx,ha.ev hy,pc,ti hb hs hT (Kv.1 h1),ox,sN]) h
theorem aE{B:Nat}{O:Nat->Nat}(r:Rng B O w)(i:Nat)(a0:i≠0){E:ow}{v:ix}(hx:ev st x=some v)(hd:oz d N=true)
  (h:∀b w' O',BlkO O' w' i b v.cells E->Upd (fun j=>j=i) O w O' w'->Rng B O' w'->Ext w w'->WL P N ops Q rest ((d,nP b)::st) w'):WL P N ops Q (⟨some d,.box E x,t,p,e,none⟩::rest) st w:=by
 have u:=Upd.alloc (S:=fun j=>j=i) (fun h=>a0 h.symm) r (.cells v.cells E) i;exact WL.box hx hd (h _ _ _ (BlkO.new _ _ _ _ _) u (r.upd u) (Ext.alloc _ _))
theorem ax{B:Nat}{O:Nat->Nat}(r:Rng B O w)(i:Nat)(a0:i≠0){E:ow}{z:ix}(hz:(De E).run P w=.ok z w)(hd:oz d N=true)
  (h:∀b w' O',BlkO O' w' i b z.cells E->Upd (fun j=>j=i) O w O' w'->Rng B O' w'->Ext w w'->WL P N ops Q rest ((d,nP b)::st) w'):WL P N ops Q (⟨some d,.alloc E,t,p,e,none⟩::rest) st w:=by
 have u:=Upd.alloc (S:=fun j=>j=i) (fun h=>a0 h.symm) r (.cells z.cells E) i;exact WL.alloc hz hd (h _ _ _ (BlkO.new _ _ _ _ _) u (r.upd u) (Ext.alloc _ _))
theorem BlkO.cellsAdd{O:Nat->Nat}{i b:Nat}{cs:Array ix}{E:ow}(h:BlkO O w i b cs E):∀j u,cs.toList[j]? = some u->w.cell? (nA b j)=some u:=fun j u hu=>by
 rw[show(nA b j)=⟨b,j,none⟩from by simp only[zR];split<;>simp_all];exact h.cell j (by simpa using hu)
end
section
variable{P:ps}{N:Nat}{st:St}{w:ln}{fn:L3}{R:ix→ln→Prop}
theorem dB{T:ow}{q:vX}{us:List ix}(hc:∀j u,us[j]? = some u->w.cell? (q.add j)=some u)(hT:(Ky T).run P w=.ok true w)(hn:(uu T).run P w=.ok us.length w):
  (loadVar T q).run P w=.ok (.agg us.toArray) w:=by
 have:=run_loadCellsFrom (P:=P) us 0 #[] (q:=q) (w:=w) (by simpa using hc);simp[loadVar,hT,hn,loadCells,this]
theorem aN{t:Le}{T:ow}{q:vX}{us:List ix}(hr:fn.results = #[.cell t T])(hv:cC st t=some (.pointer (some q)))
  (hc:∀j u,us[j]? = some u->w.cell? (q.add j)=some u) (hT:(Ky T).run P w=.ok true w) (hn:(uu T).run P w=.ok us.length w) (h:R (.agg us.toArray) w):QF N (RP P fn R) .ret st w:=fun a ha=>
 ⟨ha.defers,_,by have h1:=ha.get _ _ hv;simp[results,hr,oU,h1,asAddr,dB hc hT hn],h⟩
theorem bA{t u:Le}{T:ow}{q:vX}{us:List ix}{v':ix}(hr:fn.results = #[.cell t T,.tmp u])(hv:cC st t=some (.pointer (some q)))(a0:cC st u=some v')
  (hc:∀j u,us[j]? = some u->w.cell? (q.add j)=some u) (hT:(Ky T).run P w=.ok true w) (hn:(uu T).run P w=.ok us.length w) (h:R (.tuple #[.agg us.toArray,v']) w):QF N (RP P fn R) .ret st w:=fun a ha=>
 ⟨ha.defers,_,by have h1:=ha.get _ _ hv;have h2:=ha.get _ _ a0;simp[results,hr,oU,h1,h2,asAddr,dB hc hT hn],h⟩
end
theorem xx{α:Type}{enc:α->List ix}{sz:Nat}{w:ln}{g:Nat}{cells:Array ix}{E:ow}{xs:List α}(hb:w.heap[g]? = some (.cells cells E (0,0)))(hc:cells.toList=xs.flatMap enc)(hz:∀x∈xs,(enc x).length=sz)(hm:xs.length<=9223372036854775807):
  Sl enc sz w (.slice (some ⟨g,0,none⟩) xs.length xs.length) xs:=by
 refine⟨⟨_,_,rfl,th _,hm,fun _=>⟨g,0,rfl⟩⟩,fun i hi j u hu=>?_⟩;have h:=eV xs hz i hi j u hu;have ha:((adr (.slice (some ⟨g,0,none⟩) xs.length xs.length) sz i).add j)=⟨g,i*sz+j,none⟩:=by
  simp only[adr,zR];split<;>simp_all
 rw[ha,cell_of_row w g _ cells E (0,0) hb];rw[<-hc]at h;simpa using h
section
variable{P:ps}{N:Nat}{ops:Array su}{Q:uw→A2→ln→Prop}{rest:List su}{st:St}{w:ln}
variable{t:ow}{p:String}{e:Array CR}{d:Nat}
theorem gb{T E:ow}{sz n:Nat}{z:ix}{parts:List (Nat×oD)}{vs:List (Nat×ix)}(hu:P.underlying T=some (.slice E))(hE:(uu E).run P w=.ok sz w)(hz:(De E).run P w=.ok z w)
  {α:Type} (enc:α->List ix) (xs:List α) (hn:xs.length=n) (hv:evp st parts=some vs) (a4:Kq (n*sz) 16777216=true) (a1:zf (n*sz) 0=false)
  (hf:Fo (fun i=>some (i*sz,sz)) ((Array.range (n*sz)).map (z.cells[· % z.cells.size]!)) vs=some (xs.flatMap enc).toArray) (a2:∀x∈xs,(enc x).length=sz) (hd:oz d N=true)
  (h:∀v w',Sl enc sz w' v xs->Ext w w'->WL P N ops Q rest ((d,v)::st) w'):WL P N ops Q (⟨some d,.buildSlice T n parts.toArray,t,p,e,none⟩::rest) st w:=by
 subst hn;have a3:=CX a4;have a0:¬xs.length*sz=0:=fun e=>by rw[e]at a1;simp at a1
 have a5:xs.length<=xs.length*sz:=Nat.le_mul_of_pos_right _ (Kk fun e=>a0 (by rw[e,Nat.mul_zero]));refine WL.val (v:=.slice (some ⟨w.heap.size,0,none⟩) xs.length xs.length) (w':=w.alloc (.cells (xs.flatMap enc).toArray E)) hd (fun a ha=>?_) (h _ _ (xx (heap_alloc_new w _) rfl a2 zo) (Ext.alloc _ _));have h1:=ha.evp hv;have e1:(JI (fun x:Nat×oD=>match x with|(i,x)=>(i,a.eval x)) parts)=vs:=by rw[<-h1]
 simp only[execOp,Instr.buildSlice,pZ,e1,pc,run_underlying hu,ox,hE];rw[if_neg zo,if_neg a0];simp[hz,hf,newRow,newObj];rfl
end
end Go.VL
end
section
namespace Go.VL
section
variable{P:ps}{N:Nat}{ops:Array su}{Q:uw→A2→ln→Prop}{rest:List su}{st:St}{w:ln}
theorem gh(K:uw->A2->ln->Prop):∀(l r:List su) (a:A2) (w:ln),(∀e a w,K e a w->e≠.normal->Q e a w)->(∀a w,K .normal a w->wpList P ops Q r a w)->wpList P ops K l a w->wpList P ops Q (l++r) a w
 |[],r,a,w,_,hn,h=>hn a w h
 |o::l,r,a,w,hx,hn,h=>by
  simp only[yr];unfold wpList at h ⊢;have ih:=fun a w=>gh K l r a w hx hn
  have a1:∀c a w,K (.panic c) a w->Q (.panic c) a w:=fun c a w h=>hx _ a w h (by intro h;cases h)
  split
  ·rename_i hw;rw[if_pos hw]at h
   rcases h with h|⟨h1,a0,w0,h2⟩
   ·left;unfold Da at h ⊢;generalize (execOp a.eval o).run P w=q at *
    cases q with
    |ok n w'=>
     cases n<;>simp only[Gc]at h ⊢<;>first
      |exact ih _ _ h
      |exact h.elim
      |exact Ko h (fun _ _ he=>ih _ _ he)
      |exact tJ h (fun e w'' he=>by
       cases e with
       |returned v=>exact ih _ _ he
       |panicked c=>exact a1 _ _ _ he
       |outgrown=>obtain⟨a0,w0,he⟩:=he;exact⟨a0,w0,hx _ a0 w0 he (by intro h;cases h)⟩)
    |halt x w'=>cases x<;>simp only[Gc]at h ⊢<;>first|exact a1 _ _ _ h|exact h.elim
   exact .inr ⟨h1,a0,w0,hx _ a0 w0 h2 (by intro h;cases h)⟩
  rename_i hw;rw[if_neg hw]at h;exact ih _ _ h
def Gy(N:Nat)(S:ln->Prop)(tB:Nat)(b:Bool)(st:St):uw->A2->ln->Prop:=fun e a w=>e=.normal/\S w/\Fits N a st/\a.tmps[tB]? = some (.bool b)
def tu(N:Nat)(ops:Array su)(st:St):List su->Bool
 |[]=>true
 |o::r=>(match o.guard with
  |some (i,c)=>(match (ops[i]?).bind (·.dst)with
   |some d=>(match cC st d with
    |some (.bool x)=>!(x==c)
    |some (.tuple _)=>true
    |_=>false)
   |none=>false)
  |none=>false)&&(match o.dst with|some d=>(match cC st d with|none=>true|_=>false)&&oz d N&&tu N ops ((d,undef)::st) r|none=>false)
theorem rq:∀(l:List su) (st0 st:St) (a:A2),tu N ops st l=true->(∀t v,cC st0 t=some v->cC st t=some v)->Fits N a st->(∀a',Fits N a' st0->wpList P ops Q rest a' w)->wpList P ops Q (l++rest) a w
 |[],st0,st,a,_,hc,ha,h=>h a ⟨ha.size,ha.defers,fun t v hv=>ha.get t v (hc t v hv)⟩
 |o::l,st0,st,a,hp,hc,ha,h=>by
  simp only[tu,rj]at hp;obtain⟨hg,hd⟩:=hp
  cases a2:o.dst with
  |none=>rw[a2]at hd;simp at hd
  |some d=>
   rw[a2]at hd;simp only[rj]at hd;obtain⟨⟨a4,a6⟩,a5⟩:=hd;have a0:cC st d=none:=by cases h:cC st d with|none=>rfl|some v=>rw[h]at a4;simp at a4
   simp only[yr];unfold wpList;rw[if_neg ?_]
   ·rw[a2];refine rq l st0 ((d,undef)::st) _ a5 (fun t v hv=>?_) (ha.put a6 undef) h;have h1:=hc t v hv;simp only[cC]
    cases hb:zf d t with
    |true=>have:=qN hb;subst this;rw[a0]at h1;simp at h1
    |false=>exact h1
   cases a3:o.guard with
   |none=>rw[a3]at hg;simp at hg
   |some ic=>
    obtain⟨i,c⟩:=ic;rw[a3]at hg;simp only at hg;simp only[rU,a3,yielded]
    cases a1:(ops[i]?).bind (·.dst)with
    |none=>rw[a1]at hg;simp at hg
    |some d'=>
     rw[a1]at hg;simp only at hg
     cases hs:cC st d' with
     |none=>rw[hs]at hg;simp at hg
     |some v=>
      rw[hs]at hg
      cases v<;>simp at hg
      ·rename_i x;simp[ha.get _ _ hs];exact fun e=>hg (by rw[e])
      simp[ha.get _ _ hs]
theorem rO{a:A2}{t:Nat}{b b':Bool}(hs:cC st t=some (.bool b))(hb:b=b')(ha:Fits N a st):Fits N a ((t,.bool b')::st):=by
 subst hb;refine⟨ha.size,ha.defers,fun u v hv=>?_⟩;simp only[cC]at hv
 cases hb:zf t u with
 |true=>rw[hb]at hv;have:=qN hb;subst this;simp at hv;subst hv;exact ha.get _ _ hs
 |false=>rw[hb]at hv;exact ha.get _ _ hv
theorem aP{l G:List su}{tA tB tP:Nat}{c:Bool}{t:ow}{p:String}{e:Array CR}(S:ln->Prop)(b:Bool)(n:Nat)(hS:S w)(hG:l.take n=G)(a0:l.drop n=⟨some tP,.pick (.tmp tA) (.tmp tB) (.const (.bool false)),t,p,e,none⟩::rest)
  (hc:cC st tA=some (.bool c)) (a1:tu N ops ((tA,.bool false)::st) G=true) (hd:oz tP N=true)
  (h1:c=true->WL P N ops (Gy N S tB b st) G ((tA,.bool true)::st) w) (h2:∀w',S w'->WL P N ops Q rest ((tP,.bool (c&&b))::st) w'):WL P N ops Q l st w:=by
 intro a ha;rw[<-Ae n l,hG,a0]
 cases c with
 |true=>
  refine gh (Gy N S tB b st) G _ a w (fun e a w h a3=>absurd h.1 a3) (fun a' w' h=>?_) (h1 rfl a (rO hc rfl ha));obtain⟨_,a4,hf,hb⟩:=h;unfold wpList;rw[if_pos (cd rfl _)];left;unfold Da;rw[iS (b:=true) (by simpa[B1,oU]using(by rw[hf.get _ _ hc]:(a'.tmps[tA]?).getD undef=(some (.bool true)).getD undef))];simp only[cond_true];rw[show a'.eval (.tmp tB)=.bool b from by simp[B1,oU,hb]];exact h2 w' a4 _ (hf.put hd _)
 |false=>
  refine rq G st ((tA,.bool false)::st) a a1 (fun t v hv=>?_) (rO hc rfl ha) (fun a' a2=>?_)
  ·simp only[cC]
   cases hb:zf tA t with
   |true=>have:=qN hb;subst this;rw[hc]at hv;exact hv
   |false=>exact hv
  unfold wpList;rw[if_pos (cd rfl _)];left;unfold Da;rw[iS (b:=false) (by simpa[B1,oU]using(by rw[a2.get _ _ hc]:(a'.tmps[tA]?).getD undef=(some (.bool false)).getD undef))];exact h2 w hS _ (a2.put hd _)
theorem bK{l G:List su}{tA tB tP:Nat}{c:Bool}{t:ow}{p:String}{e:Array CR}(S:ln->Prop)(b:Bool)(n:Nat)(hS:S w)(hG:l.take n=G)(a0:l.drop n=⟨some tP,.pick (.tmp tA) (.const (.bool true)) (.tmp tB),t,p,e,none⟩::rest)
  (hc:cC st tA=some (.bool c)) (a1:tu N ops ((tA,.bool true)::st) G=true) (hd:oz tP N=true)
  (h1:c=false->WL P N ops (Gy N S tB b st) G ((tA,.bool false)::st) w) (h2:∀w',S w'->WL P N ops Q rest ((tP,.bool (c||b))::st) w'):WL P N ops Q l st w:=by
 intro a ha;rw[<-Ae n l,hG,a0]
 cases c with
 |false=>
  refine gh (Gy N S tB b st) G _ a w (fun e a w h a3=>absurd h.1 a3) (fun a' w' h=>?_) (h1 rfl a (rO hc rfl ha));obtain⟨_,a4,hf,hb⟩:=h;unfold wpList;rw[if_pos (cd rfl _)];left;unfold Da;rw[iS (b:=false) (by simpa[B1,oU]using(by rw[hf.get _ _ hc]:(a'.tmps[tA]?).getD undef=(some (.bool false)).getD undef))];simp only[cond_false];rw[show a'.eval (.tmp tB)=.bool b from by simp[B1,oU,hb]];exact h2 w' a4 _ (hf.put hd _)
 |true=>
  refine rq G st ((tA,.bool true)::st) a a1 (fun t v hv=>?_) (rO hc rfl ha) (fun a' a2=>?_)
  ·simp only[cC]
   cases hb:zf tA t with
   |true=>have:=qN hb;subst this;rw[hc]at hv;exact hv
   |false=>exact hv
  unfold wpList;rw[if_pos (cd rfl _)];left;unfold Da;rw[iS (b:=true) (by simpa[B1,oU]using(by rw[a2.get _ _ hc]:(a'.tmps[tA]?).getD undef=(some (.bool true)).getD undef))];exact h2 w hS _ (a2.put hd _)
theorem Cy{S:ln->Prop}{tA tB:Nat}{b c:Bool}{st0:St}(n:Nat)(hS:S w)(a0:st.drop n=st0)(hf:((st.take n).all fun q=>zf q.1 tA||(match cC st0 q.1 with|none=>true|_=>false))=true)
  (hA:cC st tA=some (.bool c)) (a3:∀v,cC st0 tA=some v->v=.bool c) (hb:cC st tB=some (.bool b)):QF N (Gy N S tB b st0) .normal st w:=fun a ha=>by
 refine⟨rfl,hS,⟨ha.size,ha.defers,fun t v hv=>?_⟩,ha.get _ _ hb⟩;refine ha.get t v ?_
 by_cases ht:t=tA
 ·subst ht;rw[a3 v hv];exact hA
 have a2:∀(a1:St),(a1.all fun q=>zf q.1 tA||(match cC st0 q.1 with|none=>true|_=>false))=true->cC (a1++st0) t=some v:=by
  intro a1
  induction a1 with
  |nil=>intro _;exact hv
  |cons q r ih=>
   intro hq;simp only[KO,rj,Bool.or_eq_true]at hq;obtain⟨k,u⟩:=q;simp only[yr,cC]
   cases hb:zf k t with
   |false=>exact ih hq.2
   |true=>
    have:=qN hb;subst this
    rcases hq.1 with h|h
    ·exact absurd (qN h) ht
    simp only[hv]at h;cases h
 have:=a2 (st.take n) hf;rw[<-a0,Ae]at this;exact this
end
end Go.VL
end
section
namespace Go.VL
section
variable{P:ps}{N:Nat}{ops:Array su}{Q:uw→A2→ln→Prop}{rest:List su}{st:St}{w:ln}
variable{t xt yt:ow}{p:String}{e:Array CR}{d:Nat}{x y z:oD}
theorem mh{op:Lz}{a b v:ix}(hg:eqGuard op xt x y a b=pure ())(hx:ev st x=some a)(hy:ev st y=some b)(hr:(binOp op xt a b).run P w=.ok v w):RV P N (.binOp op xt x y yt) t st w v:=
 fun ac ha a0 p e g=>by
  simp only[execOp,ha.ev hx,ha.ev hy,hg,pc,sN,ox,hr]
theorem Cw{a b:Bool}(hu:P.underlying xt=some .bool)(hx:ev st x=some (.bool a))(hy:ev st y=some (.bool b)):RV P N (.binOp .eql xt x y yt) t st w (.bool (a==b)):=
 mh (eqGuard_at_bool ..) hx hy (run_eql_bool w xt a b hu)
theorem Gm{a b:Bool}(hu:P.underlying xt=some .bool)(hx:ev st x=some (.bool a))(hy:ev st y=some (.bool b)):RV P N (.binOp .neq xt x y yt) t st w (.bool (!(a==b))):=
 mh (eqGuard_at_bool ..) hx hy (run_neq_bool w xt a b hu)
theorem gH{k k':rk}{m n:Int}{a0:Array ow}(hx:ev st x=some (.int k m))(hy:ev st y=some (.int k' n)):RV P N (.call ⟨.builtin .max,#[x,y],a0⟩) t st w (.int k (max m n)):=
 fun a ha a1 p e g=>by
  simp only[execOp,resolve,invoke,builtin,pc,sN,ox,pZ,ri,tG,ha.ev hx,ha.ev hy,run_max_int2];congr 3;rw[Int.max_def];split<;>split<;>omega
theorem Gq{k k':rk}{m n:Int}{a0:Array ow}(hx:ev st x=some (.int k m))(hy:ev st y=some (.int k' n)):RV P N (.call ⟨.builtin .min,#[x,y],a0⟩) t st w (.int k (min m n)):=
 fun a ha a1 p e g=>by
  simp only[execOp,resolve,invoke,builtin,pc,sN,ox,pZ,ri,tG,ha.ev hx,ha.ev hy,run_min_int2];congr 3;rw[Int.min_def];split<;>split<;>omega
def bs(l:List UInt8):ByteArray:=⟨l.toArray⟩
theorem di(l:List UInt8):(bs l).size=l.length:=by simp[bs,Lo]
theorem kZ(l:List UInt8):(bs l).toList=l:=Lm l
theorem gX(a b:List UInt8):bs a++bs b=bs (a++b):=by
 apply Lr;simp[bs,Ls]
theorem lZ(l:List UInt8)(a b:Nat):(bs l).extract a b=bs ((l.take b).drop a):=by
 rw[bs,Lq,List.drop_take];rfl
theorem Fa{a b:List UInt8}(h:bs a=bs b):a=b:=by
 have:=congrArg Ln h;rwa[kZ,kZ]at this
theorem Ca{op:Lz}{s u:ByteArray}:binOp op xt (.string s) (.string u)=Op.stringOp op s u:=by cases op<;>rfl
theorem cX{a b:List UInt8}(hx:ev st x=some (.string (bs a)))(hy:ev st y=some (.string (bs b))):RV P N (.binOp .eql xt x y yt) t st w (.bool (a==b)):=
 mh (eqGuard_at_string ..) hx hy (by rw[Ca];show Result.ok (L0 ((bs a).toList==(bs b).toList)) w=_;rw[kZ,kZ])
theorem jv{a b:List UInt8}(hx:ev st x=some (.string (bs a)))(hy:ev st y=some (.string (bs b)))(hb:a.length+b.length<=9223372036854775807):RV P N (.binOp .add xt x y yt) t st w (.string (bs (a++b))):=
 mh (eqGuard_at_string ..) hx hy (by rw[Ca,run_string_add_sum w _ _ (by rw[di,di];exact hb),gX])
theorem cx{a:List UInt8}{T:ow}(hT:P.underlying T=some .string)(hx:ev st x=some (.string (bs a))):RV P N (.call ⟨.builtin .len,#[x],#[T]⟩) t st w (nI a.length):=
 fun c hc a0 p e g=>by
  simp only[execOp,resolve,invoke,builtin,pc,sN,ox,pZ,ri,tG,hc.ev hx,run_len_string w T t _ hT,di];rfl
theorem Cv{a:List UInt8}{k:rk}{m:Int}(hT:P.underlying xt=some .string)(hx:ev st x=some (.string (bs a)))(hy:ev st y=some (.int k m))(i:Nat)(hm:m=i)(hi:i<a.length):RV P N (.index xt x y) t st w (.int .u8 ((nth a i).toNat:Int)):=
 fun c hc a0 p e g=>by
  subst hm;have h2:0<=(i:Int)/\(i:Int)<(bs a).size:=by rw[di];omega
  simp only[execOp,hc.ev hx,hc.ev hy,pc,run_index_string w xt (bs a) k i hT,dif_pos h2,ox];have:(bs a)[(i:Int).toNat]'(by rw[di];omega)=nth a i:=by
   rw[aB hi];simp[bs,Lp]
  rw[this];rfl
theorem dc{a:List UInt8}{k k':rk}{m n:Int}(hT:P.underlying xt=some .string)(hx:ev st x=some (.string (bs a)))(hy:ev st y=some (.int k m))(hz:ev st z=some (.int k' n))(i j:Nat)(hm:m=i)(hn:n=j)(a0:i<=j)(hj:j<=a.length):
  RV P N (.slice xt x (some y) (some z) none) t st w (.string (bs ((a.take j).drop i))):=
 fun c hc a1 p e g=>by
  subst hm;subst hn;simp only[execOp,uM,yJ,hc.ev hx,hc.ev hy,hc.ev hz,run_sliceAt_string w xt _ _ _ _ hT,pc,run_slice_string w xt (bs a) k k' i j hT zo zo (by rw[di];omega),ox,tq,lZ];rfl
theorem jV{a:List UInt8}{k:rk}{m:Int}(hT:P.underlying xt=some .string)(hx:ev st x=some (.string (bs a)))(hy:ev st y=some (.int k m))(i:Nat)(hm:m=i)(hi:i<=a.length):
  RV P N (.slice xt x (some y) none none) t st w (.string (bs (a.drop i))):=
 fun c hc a0 p e g=>by
  subst hm;simp only[execOp,uM,yJ,hc.ev hx,hc.ev hy,run_sliceAt_string w xt _ _ _ _ hT,pc,run_slice_string_l w xt (bs a) hT k i zo (by rw[di];omega),ox,tq,lZ,di,List.take_length];rfl
theorem xz{a:List UInt8}{k:rk}{n:Int}(hT:P.underlying xt=some .string)(hx:ev st x=some (.string (bs a)))(hz:ev st z=some (.int k n))(j:Nat)(hn:n=j)(hj:j<=a.length):
  RV P N (.slice xt x none (some z) none) t st w (.string (bs (a.take j))):=
 fun c hc a0 p e g=>by
  subst hn;simp only[execOp,uM,yJ,hc.ev hx,hc.ev hz,run_sliceAt_string w xt _ _ _ _ hT,pc,run_slice_string_h w xt (bs a) hT k j zo (by rw[di];omega),ox,tq,lZ,List.drop_zero];rfl
theorem RV.rem{k:rk}{m n:Int}(hx:ev st x=some (.int k m))(hy:ev st y=some (.int k n))(h0:n≠0):RV P N (.binOp .rem xt x y yt) t st w (.int k (m.tmod n)):=
 gg hx hy (mj h0)
theorem jW{T:ow}{a:Option vX}{l c:Nat}(hT:P.underlying xt=some (.slice T))(hx:ev st x=some (.slice a l c))(hy:ev st y=some (nS)):RV P N (.binOp .eql xt x y yt) t st w (.bool a.isNone):=
 mh (eqGuard_at_slice ..) hx hy (by simp[binOp,run_equal_slice_nil w xt T a l c hT])
theorem ec{q:Option vX}(hT:P.underlying xt=some (.pointer (P.pointee xt)))(hx:ev st x=some (.pointer q))(hy:ev st y=some (.pointer none)):RV P N (.binOp .eql xt x y yt) t st w (.bool q.isNone):=
 mh (eqGuard_at_pointer ..) hx hy (run_eql_pointer_nil w xt q hT)
theorem Ag{q:Option vX}(hT:P.underlying xt=some (.pointer (P.pointee xt)))(hx:ev st x=some (.pointer q))(hy:ev st y=some (.pointer none)):RV P N (.binOp .neq xt x y yt) t st w (.bool (!q.isNone)):=
 mh (eqGuard_at_pointer ..) hx hy (run_neq_pointer_nil w xt q hT)
def ej(v:ix)(sz lo hi:Nat):ix:=
 match v with
 |.slice a _ cap=>.slice (if cap=lo then a else a.map (·.add (lo*sz))) (hi-lo) (cap-lo)
 |_=>v
theorem qL{α:Type}{enc:α->List ix}{sz:Nat}{v:ix}{xs:List α}{E:ow}{k:rk}{m:Int}(h:Sl enc sz w v xs)(hT:P.underlying xt=some (.slice E))(hs:(uu E).run P w=.ok sz w)
  (hx:ev st x=some v) (hy:ev st y=some (.int k m)) (i:Nat) (hm:m=i) (hi:i<=xs.length):RV P N (.slice xt x (some y) none none) t st w (ej v sz i xs.length):=
 fun a' ha a0 p e g=>by
  subst hm;obtain⟨a,c,rfl,hc,_,_⟩:=h.shape;have hE:P.elem xt=E:=by simp[Kz,hT]
  simp only[execOp,uM,yJ,ha.ev hx,ha.ev hy,run_sliceAt_slice w xt _ _ _ _ (by rw[hE];exact hT:P.underlying xt=some (.slice (P.elem xt))),pc,run_slice_l w xt a xs.length c (by rw[hE];exact hT) k i zo zo,hE,hs,ox,tq,sliced];rfl
theorem Af{α:Type}{enc:α->List ix}{sz:Nat}{v:ix}{xs:List α}{E:ow}{k:rk}{n:Int}(h:Sl enc sz w v xs)(hT:P.underlying xt=some (.slice E))(hs:(uu E).run P w=.ok sz w)
  (hx:ev st x=some v) (hz:ev st z=some (.int k n)) (j:Nat) (hn:n=j) (hj:j<=xs.length):RV P N (.slice xt x none (some z) none) t st w (ej v sz 0 j):=
 fun a' ha a0 p e g=>by
  subst hn;obtain⟨a,c,rfl,hc,_,_⟩:=h.shape;have hE:P.elem xt=E:=by simp[Kz,hT]
  simp only[execOp,uM,yJ,ha.ev hx,ha.ev hz,run_sliceAt_slice w xt _ _ _ _ (by rw[hE];exact hT:P.underlying xt=some (.slice (P.elem xt))),pc,run_slice_h w xt a xs.length c (by rw[hE];exact hT) k j zo zo,hE,hs,ox,tq,sliced];rfl
end
end Go.VL
end
section
namespace Go.VL
def Free(O:Nat->Nat)(w:ln)(v:ix):Prop:=∀a n c,v=.slice (some a) n c->n≠0->O a.block=0/\a.block<w.heap.size
theorem Free.upd{S:Nat->Prop}{O O':Nat->Nat}{w w':ln}{v:ix}(h:Free O w v)(u:Upd S O w O' w'):Free O' w' v:=fun a n c e hn=>by
 obtain⟨h1,h2⟩:=h a n c e hn;refine⟨qy fun a0=>?_,sx h2 u.size⟩
 rcases u.new _ a0 with h3|h3
 ·exact h3 h1
 omega
theorem iC{w w':ln}{a:vX}{u:ix}(hb:w'.heap[a.block]? = w.heap[a.block]?)(h:w.cell? a=some u):w'.cell? a=some u:=by
 simpa only[KU,hb]using h
theorem Sl.upd{α:Type}{enc:α->List ix}{sz:Nat}{S:Nat->Prop}{O O':Nat->Nat}{w w':ln}{v:ix}{xs:List α}(h:Sl enc sz w v xs)(f:Free O w v)(u:Upd S O w O' w'):Sl enc sz w' v xs:=by
 refine⟨h.shape,fun i hi j x hx=>?_⟩;have hc:=h.cells i hi j x hx;obtain⟨a,c,e,_,_,ha⟩:=h.shape;obtain⟨b,o,rfl⟩:=ha zo;obtain⟨h1,h2⟩:=f _ _ _ e zo;refine iC ?_ hc
 have hb:((adr v sz i).add j).block=b:=by subst e;simp only[adr,zR];split<;>rfl
 rw[hb];exact u.blk b h2 (by rw[h1];exact u.z)
theorem RowT.free{α:Type}{enc:α->List ix}{E:ow}{sz:Nat}{O O':Nat->Nat}{w w':ln}{i B:Nat}{v:ix}{l:List α}(h:RowT enc E sz O' w' i v l)(hi:i≠0)(r:Rng w.heap.size O' w')(k:Rng B O w):Free O w' v:=fun a n c e _=>by
 subst e;have h1:=h.1.tag a.block rfl;have h2:=r.rng a.block (by rw[h1];exact hi);exact⟨qy fun a0=>by have:=k.rng _ a0;omega,h2.2⟩
def NewV(B:Nat)(v:ix):Prop:=∀a n c,v=.slice (some a) n c->n≠0->B<=a.block
theorem NewV.mono{B B':Nat}{v:ix}(h:NewV B v)(hb:B'<=B):NewV B' v:=fun a n c e hn=>ze hb (h a n c e hn)
theorem RowT.newV{α:Type}{enc:α->List ix}{E:ow}{sz B:Nat}{O:Nat->Nat}{w:ln}{i:Nat}{v:ix}{l:List α}(h:RowT enc E sz O w i v l)(hi:i≠0)(r:Rng B O w):NewV B v:=fun a n c e _=>by
 subst e;have h1:=h.1.tag a.block rfl;exact(r.rng a.block (by rw[h1];exact hi)).1
theorem Sl.blk_lt{α:Type}{enc:α->List ix}{sz:Nat}{w:ln}{v:ix}{xs:List α}(h:Sl enc sz w v xs)(hf:∀x∈xs,enc x≠[]){a:vX}{n c:Nat}(e:v=.slice (some a) n c)(hn:n≠0):a.block<w.heap.size:=by
 obtain⟨a',c',e1,_,_,e2⟩:=h.shape;subst e
 cases e1
 obtain⟨b,o,e3⟩:=e2 hn
 cases e3
 have hl:0<xs.length:=Kk hn
 cases hx:enc xs[0]with
 |nil=>exact absurd hx (hf _ (Gh hl))
 |cons u r=>
  have hc:=h.cells 0 hl 0 u (by rw[hx];rfl);have:=Gb _ _ hc;have hb:((adr (.slice (some ⟨b,o,none⟩) xs.length c) sz 0).add 0).block=b:=by simp only[adr,zR];split<;>rfl
  rwa[hb]at this
theorem NewV.free{α:Type}{enc:α->List ix}{sz B:Nat}{O:Nat->Nat}{w w':ln}{v:ix}{xs:List α}(h:NewV w.heap.size v)(hs:Sl enc sz w' v xs)(hf:∀x∈xs,enc x≠[])(r:Rng B O w):Free O w' v:=fun a n c e hn=>
 ⟨qy fun a0=>by have h1:=(r.rng _ a0).2;have h2:=h a n c e hn;omega,hs.blk_lt hf e hn⟩
theorem rJ{w w':ln}{v:ix}(h:∀(B:Nat) (O:Nat->Nat),Rng B O w->Free O w' v):NewV w.heap.size v:=fun a n c e hn=>by
 have h1:=(h 0 (fun b=>if b<w.heap.size then 1 else 0) ⟨vg _,fun b hb=>⟨vg _,qy fun hn=>hb (if_neg hn)⟩⟩ a n c e hn).1;exact Nat.le_of_not_lt fun a0=>by
  have h2:(1:Nat)=0:=(if_pos a0).symm.trans h1
  cases h2
section
variable{P:ps}{N:Nat}{ops:Array su}{Q:uw→A2→ln→Prop}{rest:List su}{st:St}{w:ln}
variable{t xt yt:ow}{p:String}{e:Array CR}{d:Nat}{x y z:oD}
theorem bN{T E:ow}{bytes:Nat}(he:Elem P T E 1 bytes){α:Type}{val:α->ix}(z0:α)(a2:(P.info? E).bind (·.zero)=some (val z0))(h1:∀a,(val a).oneCell'=true){B:Nat}{O:Nat->Nat}(r:Rng B O w)(i:Nat)(a7:i≠0)(n:Nat){kl kc:rk}{m1 m2:Int}
  (hx:ev st x=some (.int kl m1)) (hy:ev st y=some (.int kc m2)) (a6:m1=n) (a5:m2=n) (hb:bytes*n<=281474976710656) (b0:n<=9223372036854775807) (hd:oz d N=true)
  (h:∀w' O' v,v=.slice (some ⟨w.heap.size,0,none⟩) n n->RowT (fun x=>[val x]) E 1 O' w' i v (Fu n z0)->Upd (fun k=>k=i) O w O' w'->Rng B O' w'->Ext w w'->WL P N ops Q rest ((d,v)::st) w') :
  WL P N ops Q (⟨some d,.makeSlice T x y,t,p,e,none⟩::rest) st w:=by
 obtain⟨a1,z,hi,hz,a4,a9,b1⟩:=he.parts;have a3:z=val z0:=by rw[hi]at a2;simpa[hz]using a2
 subst a3;subst a6;subst a5;have a8:(val z0).cells = #[val z0]:=by have:=h1 z0;generalize val z0=u at *;cases u<;>first|rfl|simp[AK]at this
 have a':(a1.bytes:Int)*(n:Int)<=281474976710656:=by
  have h:((a1.bytes*n:Nat):Int)<=281474976710656:=by rw[a9];omega
  rwa[Int.natCast_mul]at h
 have a0:=run_make (P:=P) w T E a1 _ he.ht hi hz kl kc n n zo (JC _) a' zo;simp only[tq,a4,J4,a8]at a0;have hz:¬(fun k=>k=i) 0:=fun h=>a7 h.symm
 have u:=Upd.alloc (S:=fun k=>k=i) hz r (.cells (madeCells #[val z0] n) E) i;refine WL.val (v:=.slice (some ⟨w.heap.size,0,none⟩) n n) hd (fun a ha=>by simp only[execOp,ha.ev hx,ha.ev hy,pc,a0,ox];rfl) (h _ _ _ rfl ⟨⟨?_,fun g hg=>?_⟩,fun a _=>rfl⟩ u (r.upd u) (Ext.alloc _ _))
 ·rw[List.length_replicate];have:=World.ownsRow_lit (base:=0) (size:=1) (e:=E) w (madeCells #[val z0] n) n (vg _) (by simpa[maxLen]using b0) (by rw[size_madeCells];omega);rw[toList_madeCells_one]at this;have e2:(Fu n z0).flatMap (fun x=>[val x])=Fu n (val z0):=by
   induction n with
   |zero=>rfl
   |succ n ih=>simp only[List.replicate_succ,As];congr 1;simp[List.flatMap_replicate]
  rw[e2];exact this
 simp only[Fm,J2]at hg;subst hg;exact eB _ _ _
theorem cg{T E:ow}{sz a0:Nat}(he:Elem P T E sz a0){α:Type}{enc:α->List ix}(u:α){xv:ix}(hx:ev st x=some xv)(a2:xv.cells.toList=enc u)(a4:(enc u).length=sz)(hs:sz<=16777216)(hd:oz d N=true)
  (h:∀v w',Sl enc sz w' v [u]->Ext w w'->WL P N ops Q rest ((d,v)::st) w'):WL P N ops Q (⟨some d,.buildSlice T 1 #[(0,x)],t,p,e,none⟩::rest) st w:=by
 obtain⟨a3,z,hi,hz,a1,a8,a7⟩:=he.parts;have a6:xv.cells.size=sz:=by rw[<-a4,<-a2];simp
 have a5:=he.pos;refine WL.val (v:=.slice (some ⟨w.heap.size,0,none⟩) 1 1) (w':=w.alloc (.cells xv.cells E)) hd (fun a ha=>?_) (h _ _ ⟨⟨_,1,rfl,th _,by simp,fun _=>⟨_,_,rfl⟩⟩,fun i hi j c hc=>?_⟩ (Ext.alloc _ _))
 ·have:=run_buildSlice (P:=P) w T E 1 #[(0,xv)] xv.cells a3 z he.ht hi hz (by rw[a1];omega) (by rw[a1];omega) (by
   rw[a1]
   exact kR a6 (by simp))
  simp only[execOp,pZ,ri,tG,ha.ev hx,pc,this,ox];rfl
 obtain rfl:i=0:=by simpa using hi
 simp only[JO]at hc;simp only[adr,Ju,JU];rw[show((⟨w.heap.size,0,none⟩:vX).add j)=⟨w.heap.size,j,none⟩from by simp only[zR];split<;>simp_all,cell_of_row _ _ j xv.cells E (0,0) (heap_alloc_new w _)];rw[<-a2]at hc;simpa using hc
theorem nq{α:Type}{enc:α->List ix}{sz:Nat}:∀(us:List α),(∀u∈us,(enc u).length=sz)->(us.flatMap enc).length=us.length*sz
 |[],_=>by simp
 |x::r,h=>by
  simp only[As,tR,Bh,h x (by simp),nq r (fun u hu=>h u (by simp[hu])),Nat.succ_mul];omega
theorem BS{α:Type}{enc:α->List ix}{sz:Nat}{us:List α}{v:ix}(hs:Sl enc sz w v us)(hz:∀u∈us,(enc u).length=sz)(hp:0<sz){a:vX}{n c:Nat}(hv:v=.slice (some a) n c):∀j u,(us.flatMap enc)[j]? = some u->w.cell? (a.add j)=some u:=by
 intro j u hu;have a0:=nq us hz;have hj:j<us.length*sz:=by rw[<-a0];exact(uV.1 hu).1
 have hq:j / sz<us.length:=Nat.div_lt_of_lt_mul (by rw[Nat.mul_comm];exact hj);have hr:j % sz<sz:=Nat.mod_lt _ hp;have a1:j / sz*sz+j % sz=j:=Nat.div_add_mod' j sz;have hl:=hz _ (Gh hq);have h1:=eV us hz (j / sz) hq (j % sz) _ (G6 zo);rw[a1,hu]at h1;have h2:=hs.cells (j / sz) hq (j % sz) u (by rw[G6 zo,<-h1]);obtain⟨a',c',e1,_,_,e2⟩:=hs.shape;obtain⟨b,o,e3⟩:=e2 (Nat.ne_of_gt (Nat.lt_of_le_of_lt (vg _) hq));rw[hv]at e1 h2
 cases e1;cases e3
 simp only[adr]at h2;rw[show((⟨b,o,none⟩:vX).add j)=((⟨b,o+j / sz*sz,none⟩:vX).add (j % sz))from by simp only[zR];split<;>split<;>simp_all<;>omega];exact h2
theorem aC{T E:ow}{sz a0:Nat}(he:Elem P T E sz a0){α:Type}{enc:α->List ix}{B:Nat}{O:Nat->Nat}{i:Nat}{v sv:ix}{l us:List α}(hr:RowT enc E sz O w i v l)(r:Rng B O w)(hs:Sl enc sz w sv us)(a7:us.length≠0)
  (hx:ev st x=some v) (hy:ev st y=some sv) (a2:∀u∈us,(enc u).length=sz) (a6:∀u∈us,∀c∈enc u,c.oneCell'=true)
  (hb:(l.length+us.length)*a0<=140737488355328) (a':l.length+us.length<=9223372036854775807) (a8:i≠0) (hd:oz d N=true)
  (h:∀v' w' O',RowT enc E sz O' w' i v' (l++us)->Upd (fun k=>k=i) O w O' w'->Rng B O' w'->WL P N ops Q rest ((d,v')::st) w') :
  WL P N ops Q (⟨some d,.call ⟨.builtin .append,#[x,y],#[T,T]⟩,t,p,e,none⟩::rest) st w:=by
 obtain⟨a,c,rfl,_,_,a9⟩:=hs.shape;obtain⟨b,o,rfl⟩:=a9 a7;have a5:=nq us a2
 obtain⟨v',w',O',a3,a4,a1⟩:=ft (P:=P) (ty:=t) he r hr.1 ⟨b,o,none⟩ us.length c (us.flatMap enc) a5 (BS hs a2 he.pos rfl) (fun u hu=>by
  obtain⟨q,hq,hc⟩:=Jv.1 hu
  exact a6 q hq u hc) hb a' a8
 refine WL.val (v:=v') (w':=w') hd (fun a ha=>?_) (h v' w' O' ⟨by simpa using a4,fun q hq=>?_⟩ a1 (r.upd a1))
 ·simp only[execOp,resolve,invoke,builtin,pc,sN,ox,pZ,ri,tG,ha.ev hx,ha.ev hy,a3]
 rcases sP.1 hq with hq|hq
 ·exact hr.2 q hq
 exact a2 q hq
end
end Go.VL
end
section
namespace Go.VL
class FA(P:ps)(S:ow)(f:Nat)(o:outParam Nat):Prop where
 fa:∃fs fd m,P.underlying S=some (.struct fs)∧fs[f]? = some fd∧fd.offset=o∧(∀w,(uu fd.type).run P w=.ok m w)∧m≠0
class AG(P:ps)(T:ow)(b:outParam Bool):Prop where
 ag:∀w,(Ky T).run P w=.ok b w
structure Hold(B:Prop):Prop where
 out:B
class SC(P:ps)(T:ow)(sz:outParam Nat):Prop where
 sc:∃E,P.underlying T=some (.slice E)∧∀w,(uu E).run P w=.ok sz w
section
variable{P:ps}{N:Nat}{ops:Array su}{S:ln→Prop}{Q:uw→A2→ln→Prop}{K:A2→Prop}{rest:List su}{st:St}{w:ln}{fuel:Nat}{listed:Array Bool}
variable{t:ow}{p:String}{e:Array CR}{d:Nat}{x:oD}{v:ix}{op:Op}
theorem RV.fa{T:ow}{f o:Nat}{q:vX}[h:FA P T f o](hx:ev st x=some (.pointer (some q))):RV P N (.fieldAddr T x f) t st w (.pointer (some (q.add o))):=by
 obtain⟨fs,fd,m,h1,h2,h3,h4,h5⟩:=h.fa
 exact RV.fieldAddr o h1 h2 h3 (h4 w) h5 hx
theorem RV.ld{T:ow}{q:vX}{u:ix}[h:AG P T false](hc:w.cell? q=some u)(hx:ev st x=some (.pointer (some q))):RV P N (.load T x) t st w u:=RV.load hc (h.ag w) hx
theorem IW{T:ow}{sz:Nat}[h:SC P T sz]{α:Type}{enc:α→List ix}{v:ix}{xs:List α}(hx:ev st x=some v)(hs:Sl enc sz w v xs):RV P N (.call ⟨.builtin .len,#[x],#[T]⟩) t st w (.int .i64 (xs.length:Int)):=by
 obtain⟨E,h1,_⟩:=h.sc
 exact RV.len hs h1 hx
theorem IX{y:oD}{T:ow}{sz:Nat}[h:SC P T sz]{α:Type}{enc:α→List ix}{v:ix}{xs:List α}{k:rk}{i:Int}{n:Nat}(hx:ev st x=some v)(hy:ev st y=some (.int k i))(hs:Sl enc sz w v xs)(hi:i=n)(hn:n<xs.length):RV P N (.indexAddr T x y) t st w (.pointer (some (adr v sz n))):=by
 obtain⟨E,h1,h2⟩:=h.sc
 exact RV.indexAddr hs h1 (h2 w) hx hy n hi hn
theorem Jd{T:ow}{q:vX}{u:ix}[h:AG P T false](hx:ev st x=some (.pointer (some q)))(hc:w.cell? q=some u)(hd:oz d N=true)(h:WL P N ops Q rest ((d,u)::st) w):WL P N ops Q (⟨some d,.load T x,t,p,e,none⟩::rest) st w:=mG (RV.ld hc hx) hd h
theorem Jf{T:ow}{q:vX}{u:ix}[h:AG P T false](hx:ev st x=some (.pointer (some q)))(hc:w.cell? q=some u)(hd:oz d N=true)(h:WS P N ops w K rest ((d,u)::st)):WS P N ops w K (⟨some d,.load T x,t,p,e,none⟩::rest) st:=DO (RV.ld hc hx) hd h
theorem Jc{T:ow}{sz:Nat}[h:SC P T sz]{α:Type}{enc:α→List ix}{v:ix}{xs:List α}(hx:ev st x=some v)(hs:Sl enc sz w v xs)(hd:oz d N=true)(h:WL P N ops Q rest ((d,.int .i64 (xs.length:Int))::st) w):WL P N ops Q (⟨some d,.call ⟨.builtin .len,#[x],#[T]⟩,t,p,e,none⟩::rest) st w:=mG (IW hx hs) hd h
theorem Je{y:oD}{T:ow}{sz:Nat}[h:SC P T sz]{α:Type}{enc:α→List ix}{v:ix}{xs:List α}{k:rk}{i:Int}{n:Nat}(hx:ev st x=some v)(hy:ev st y=some (.int k i))(hs:Sl enc sz w v xs)(hi:i=n)(hn:n<xs.length)(hd:oz d N=true)(h:WL P N ops Q rest ((d,.pointer (some (adr v sz n)))::st) w):WL P N ops Q (⟨some d,.indexAddr T x y,t,p,e,none⟩::rest) st w:=mG (IX hx hy hs hi hn) hd h
theorem Is{xt yt:ow}{y:oD}{m n:Int}(hx:ev st x=some (.int .i64 m))(hy:ev st y=some (.int .i64 n))(hr : -9223372036854775808≤m+n∧m+n≤9223372036854775807)(hd:oz d N=true)(h:WL P N ops Q rest ((d,.int .i64 (m+n))::st) w):WL P N ops Q (⟨some d,.binOp .add xt x y yt,t,p,e,none⟩::rest) st w:=mG (RV.add hx hy (Fit.i64 hr)) hd h
theorem Ir{xt yt:ow}{y:oD}{m n:Int}(hx:ev st x=some (.int .i64 m))(hy:ev st y=some (.int .i64 n))(hr : -9223372036854775808≤m-n∧m-n≤9223372036854775807)(hd:oz d N=true)(h:WL P N ops Q rest ((d,.int .i64 (m-n))::st) w):WL P N ops Q (⟨some d,.binOp .sub xt x y yt,t,p,e,none⟩::rest) st w:=mG (RV.sub hx hy (Fit.i64 hr)) hd h
theorem Ic{y z:oD}{b:Bool}{v:ix}(hc:ev st x=some (.bool b))(hb:b=true)(hy:ev st y=some v):RV P N (.pick x y z) t st w v:=aQ (hb▸hc) hy
theorem Ie{y z:oD}{b:Bool}{v:ix}(hc:ev st x=some (.bool b))(hb:b=false)(hz:ev st z=some v):RV P N (.pick x y z) t st w v:=aW (hb▸hc) hz
theorem Fj{d:Option Le}{j:Nat}{b b':Bool}(hs:said ops st j=some b')(hb:b'=b)(h:WL P N ops Q (⟨d,op,t,p,e,none⟩::rest) st w):WL P N ops Q (⟨d,op,t,p,e,some (j,b)⟩::rest) st w:=Cl (hb▸hs) h
theorem Cn{j:Nat}{b':Bool}(hs:said ops st j=some b')(hb:b'=false)(hd:oz d N=true)(h:WL P N ops Q rest ((d,undef)::st) w):WL P N ops Q (⟨some d,op,t,p,e,some (j,true)⟩::rest) st w:=WL.off hs (by rw[hb];rfl) hd h
theorem Co{j:Nat}{b':Bool}(hs:said ops st j=some b')(hb:b'=true)(hd:oz d N=true)(h:WL P N ops Q rest ((d,undef)::st) w):WL P N ops Q (⟨some d,op,t,p,e,some (j,false)⟩::rest) st w:=WL.off hs (by rw[hb];rfl) hd h
theorem Ff{d:Option Le}{j:Nat}{b b':Bool}(hs:said ops st j=some b')(hb:b'=b)(h:WS P N ops w K (⟨d,op,t,p,e,none⟩::rest) st):WS P N ops w K (⟨d,op,t,p,e,some (j,b)⟩::rest) st:=IU (hb▸hs) h
theorem Cj{j:Nat}{b':Bool}(hs:said ops st j=some b')(hb:b'=false)(hd:oz d N=true)(h:WS P N ops w K rest ((d,undef)::st)):WS P N ops w K (⟨some d,op,t,p,e,some (j,true)⟩::rest) st:=WS.off hs (by rw[hb];rfl) hd h
theorem Ck{j:Nat}{b':Bool}(hs:said ops st j=some b')(hb:b'=true)(hd:oz d N=true)(h:WS P N ops w K rest ((d,undef)::st)):WS P N ops w K (⟨some d,op,t,p,e,some (j,false)⟩::rest) st:=WS.off hs (by rw[hb];rfl) hd h
theorem Fh{o:su}{n:Nat}{l:List su}(h:WL P N ops Q (o::l.take n) st w):WL P N ops Q (Kr (n+1) (o::l)) st w:=h
theorem Fi{l:List su}(h:WL P N ops Q [] st w):WL P N ops Q (Kr 0 l) st w:=h
theorem DU{v:ix}(hx:ev st x=some v)(hd:oz d N=true)(h:WL P N ops Q rest ((d,v)::st) w):WL P N ops Q (⟨some d,.move x,t,p,e,none⟩::rest) st w:=mG (RV.move hx) hd h
theorem xH{v:ix}(hx:ev st x=some v)(hd:oz d N=true)(h:WL P N ops Q rest ((d,v)::st) w):WL P N ops Q (⟨some d,.assign x,t,p,e,none⟩::rest) st w:=mG (RV.assign hx) hd h
theorem I1{T:ow}{f o:Nat}{q:vX}[FA P T f o](hx:ev st x=some (.pointer (some q)))(hd:oz d N=true)(h:WL P N ops Q rest ((d,.pointer (some (q.add o)))::st) w):WL P N ops Q (⟨some d,.fieldAddr T x f,t,p,e,none⟩::rest) st w:=mG (RV.fa hx) hd h
theorem xG{q:vX}(hx:ev st x=some (.pointer (some q)))(hd:oz d N=true)(h:WL P N ops Q rest ((d,.pointer (some q))::st) w):WL P N ops Q (⟨some d,.nilCheck x,t,p,e,none⟩::rest) st w:=mG (aq hx) hd h
theorem sJ{vs:Array ix}{i:Nat}{v:ix}(hx:ev st x=some (.tuple vs))(hv:vs[i]? = some v)(hd:oz d N=true)(h:WL P N ops Q rest ((d,v)::st) w):WL P N ops Q (⟨some d,.extract x i,t,p,e,none⟩::rest) st w:=mG (RV.extract hx hv) hd h
theorem GB{xt:ow}{b:Bool}(hx:ev st x=some (.bool b))(hd:oz d N=true)(h:WL P N ops Q rest ((d,.bool (!b))::st) w):WL P N ops Q (⟨some d,.unOp .not xt x,t,p,e,none⟩::rest) st w:=mG (RV.not hx) hd h
theorem Gz{y z:oD}{b:Bool}{v:ix}(hc:ev st x=some (.bool b))(hb:b=true)(hy:ev st y=some v)(hd:oz d N=true)(h:WL P N ops Q rest ((d,v)::st) w):WL P N ops Q (⟨some d,.pick x y z,t,p,e,none⟩::rest) st w:=mG (Ic hc hb hy) hd h
theorem GA{y z:oD}{b:Bool}{v:ix}(hc:ev st x=some (.bool b))(hb:b=false)(hz:ev st z=some v)(hd:oz d N=true)(h:WL P N ops Q rest ((d,v)::st) w):WL P N ops Q (⟨some d,.pick x y z,t,p,e,none⟩::rest) st w:=mG (Ie hc hb hz) hd h
theorem GD{xt yt:ow}{y:oD}{k:rk}{m n:Int}(hx:ev st x=some (.int k m))(hy:ev st y=some (.int k n))(hd:oz d N=true)(h:WL P N ops Q rest ((d,.bool (decide (m<n)))::st) w):WL P N ops Q (⟨some d,.binOp .lss xt x y yt,t,p,e,none⟩::rest) st w:=mG (RV.lss hx hy) hd h
theorem GE{xt yt:ow}{y:oD}{k:rk}{m n:Int}(hx:ev st x=some (.int k m))(hy:ev st y=some (.int k n))(hd:oz d N=true)(h:WL P N ops Q rest ((d,.bool (decide (m≤n)))::st) w):WL P N ops Q (⟨some d,.binOp .leq xt x y yt,t,p,e,none⟩::rest) st w:=mG (RV.leq hx hy) hd h
theorem GF{xt yt:ow}{y:oD}{k:rk}{m n:Int}(hx:ev st x=some (.int k m))(hy:ev st y=some (.int k n))(hd:oz d N=true)(h:WL P N ops Q rest ((d,.bool (decide (n<m)))::st) w):WL P N ops Q (⟨some d,.binOp .gtr xt x y yt,t,p,e,none⟩::rest) st w:=mG (RV.gtr hx hy) hd h
theorem GG{xt yt:ow}{y:oD}{k:rk}{m n:Int}(hx:ev st x=some (.int k m))(hy:ev st y=some (.int k n))(hd:oz d N=true)(h:WL P N ops Q rest ((d,.bool (decide (n≤m)))::st) w):WL P N ops Q (⟨some d,.binOp .geq xt x y yt,t,p,e,none⟩::rest) st w:=mG (RV.geq hx hy) hd h
theorem GH{xt yt:ow}{y:oD}{k:rk}{m n:Int}(hx:ev st x=some (.int k m))(hy:ev st y=some (.int k n))(hd:oz d N=true)(h:WL P N ops Q rest ((d,.bool (m==n))::st) w):WL P N ops Q (⟨some d,.binOp .eql xt x y yt,t,p,e,none⟩::rest) st w:=mG (RV.eql hx hy) hd h
theorem GC{xt yt:ow}{y:oD}{k:rk}{m n:Int}(hx:ev st x=some (.int k m))(hy:ev st y=some (.int k n))(hd:oz d N=true)(h:WL P N ops Q rest ((d,.bool (m != n))::st) w):WL P N ops Q (⟨some d,.binOp .neq xt x y yt,t,p,e,none⟩::rest) st w:=mG (RV.neq hx hy) hd h
theorem DV{v:ix}(hx:ev st x=some v)(hd:oz d N=true)(h:WS P N ops w K rest ((d,v)::st)):WS P N ops w K (⟨some d,.move x,t,p,e,none⟩::rest) st:=DO (RV.move hx) hd h
theorem xJ{v:ix}(hx:ev st x=some v)(hd:oz d N=true)(h:WS P N ops w K rest ((d,v)::st)):WS P N ops w K (⟨some d,.assign x,t,p,e,none⟩::rest) st:=DO (RV.assign hx) hd h
theorem I2{T:ow}{f o:Nat}{q:vX}[FA P T f o](hx:ev st x=some (.pointer (some q)))(hd:oz d N=true)(h:WS P N ops w K rest ((d,.pointer (some (q.add o)))::st)):WS P N ops w K (⟨some d,.fieldAddr T x f,t,p,e,none⟩::rest) st:=DO (RV.fa hx) hd h
theorem xI{q:vX}(hx:ev st x=some (.pointer (some q)))(hd:oz d N=true)(h:WS P N ops w K rest ((d,.pointer (some q))::st)):WS P N ops w K (⟨some d,.nilCheck x,t,p,e,none⟩::rest) st:=DO (aq hx) hd h
theorem sK{vs:Array ix}{i:Nat}{v:ix}(hx:ev st x=some (.tuple vs))(hv:vs[i]? = some v)(hd:oz d N=true)(h:WS P N ops w K rest ((d,v)::st)):WS P N ops w K (⟨some d,.extract x i,t,p,e,none⟩::rest) st:=DO (RV.extract hx hv) hd h
theorem zv(hv:RV P N op t st w v)(h:WL P N ops Q rest ((d,v)::st) w)(hd:oz d N=true:=by exact rfl):WL P N ops Q (⟨some d,op,t,p,e,none⟩::rest) st w:=mG hv hd h
theorem zw(hv:RV P N op t st w v)(h:WS P N ops w K rest ((d,v)::st))(hd:oz d N=true:=by exact rfl):WS P N ops w K (⟨some d,op,t,p,e,none⟩::rest) st:=DO hv hd h
theorem zc{f:J6}{args:List oD}{ats:Array ow}{vs:List ix}{R:ix→ln→Prop}
 (hf:∀(args:Array ix) (w:ln),(callFunc f args).run P w=.ok (.enter f args) w) (hc:Ret P f vs w R)
 (h:∀v w',R v w'→WL P N ops Q rest ((d,v)::st) w') (hargs:evs st args=some vs:=by exact rfl) (hd:oz d N=true:=by exact rfl):WL P N ops Q (⟨some d,.call ⟨.value (.func f),args.toArray,ats⟩,t,p,e,none⟩::rest) st w:=WL.call hf hargs hc hd h
theorem zt(i:Nat)(hi:ops[i]? = some ⟨some d,op,t,p,e,none⟩)(hS:S w)(hv:∀w',S w'→RV P N op t st w' v)(h:WH P N ops S Q fuel (listed.setIfInBounds i true) ((d,v)::st) w)
  (hs:rI ops=true:=by kernel_rfl) (hf:sQ .any ops listed i=true:=by kernel_rfl) (hr:(rm .any ops listed).contains i=true:=by kernel_rfl) (hd:oz d N=true:=by exact rfl):WH P N ops S Q (fuel+1) listed st w:=
 WH.take i hi hs hf hr hS hv hd h
theorem zr(i:Nat)(hi:ops[i]? = some ⟨some d,op,t,p,e,none⟩)(hS:S w)(hv:∀w',RV P N op t st w' v)(h:WH P N ops S Q fuel (listed.setIfInBounds i true) ((d,v)::st) w)
  (hs:rI ops=true:=by kernel_rfl) (hf:sQ .any ops listed i=true:=by kernel_rfl) (hr:(rm .any ops listed).contains i=true:=by kernel_rfl) (hd:oz d N=true:=by exact rfl):WH P N ops S Q (fuel+1) listed st w:=
 WH.take i hi hs hf hr hS (fun w' _=>hv w') hd h
theorem zC{c:oD}{x y:Dc}{b:Bool}(ht:b=true→WC P N x Q st w)(hf:b=false→WC P N y Q st w)(hc:ev st c=some (.bool b):=by exact rfl):WC P N (.cond c x y) Q st w:=WC.cond hc ht hf
theorem zsa{y:oD}{T:ow}{O:Nat→Nat}{i b:Nat}{cs us:Array ix}{E:ow}{q:vX}(hb:BlkO O w i b cs E)(hT:(uu T).run P w=.ok us.size w)(h:WL P N ops Q rest st (w.setRow b us))(hs:us.size=cs.size:=by exact rfl)(h1:us.toList.all AK=true:=by exact rfl)(hx:ev st x=some (.pointer (some q)):=by exact rfl)(hq:q=⟨b,0,none⟩:=by exact rfl)(hy:ev st y=some (.agg us):=by exact rfl):WL P N ops Q (⟨none,.store T x y,t,p,e,none⟩::rest) st w:=bE hb hs hT h1 hx hq hy h
theorem zsb{y:oD}{T:ow}{O:Nat→Nat}{i b:Nat}{cs us:Array ix}{E:ow}{q:vX}(hb:BlkO O w i b cs E)(hT:(uu T).run P w=.ok us.size w)(h1:us.toList.all AK=true)(h:WL P N ops Q rest st (w.setRow b us))(hs:us.size=cs.size:=by exact rfl)(hx:ev st x=some (.pointer (some q)):=by exact rfl)(hq:q=⟨b,0,none⟩:=by exact rfl)(hy:ev st y=some (.agg us):=by exact rfl):WL P N ops Q (⟨none,.store T x y,t,p,e,none⟩::rest) st w:=bE hb hs hT h1 hx hq hy h
theorem fI{P:ps}{T:ow}{f o m:Nat}{fs:Array Ly}{fd:Ly}(h1:P.underlying T=some (.struct fs))(h2:fs[f]? = some fd)(h3:fd.offset=o)(h4:∀w,(uu fd.type).run P w=.ok m w)(h5:m≠0:=by decide):FA P T f o:=⟨fs,fd,m,h1,h2,h3,h4,h5⟩
theorem zaf{i:Nat}(hS:S w)(h:S w→WH P N ops S Q fuel (listed.setIfInBounds i true) st w):QF N (sE P ops S Q fuel (listed.setIfInBounds i true)) .normal st w:=af hS (h hS)
theorem zrm{x:oD}(i:Nat)(hi:ops[i]? = some ⟨some d,.move x,t,p,e,none⟩)(hS:S w)(hx:ev st x=some v)(h:WH P N ops S Q fuel (listed.setIfInBounds i true) ((d,v)::st) w)
  (hs:rI ops=true:=by kernel_rfl) (hf:sQ .any ops listed i=true:=by kernel_rfl) (hr:(rm .any ops listed).contains i=true:=by kernel_rfl) (hd:oz d N=true:=by exact rfl):WH P N ops S Q (fuel+1) listed st w:=
 WH.take i hi hs hf hr hS (fun _ _=>RV.move hx) hd h
theorem zra{x:oD}(i:Nat)(hi:ops[i]? = some ⟨some d,.assign x,t,p,e,none⟩)(hS:S w)(hx:ev st x=some v)(h:WH P N ops S Q fuel (listed.setIfInBounds i true) ((d,v)::st) w)
  (hs:rI ops=true:=by kernel_rfl) (hf:sQ .any ops listed i=true:=by kernel_rfl) (hr:(rm .any ops listed).contains i=true:=by kernel_rfl) (hd:oz d N=true:=by exact rfl):WH P N ops S Q (fuel+1) listed st w:=
 WH.take i hi hs hf hr hS (fun _ _=>RV.assign hx) hd h
theorem zrf{T:ow}{f o:Nat}{q:vX}[h':FA P T f o]{x:oD}(i:Nat)(hi:ops[i]? = some ⟨some d,.fieldAddr T x f,t,p,e,none⟩)(hS:S w)(hx:ev st x=some (.pointer (some q)))(h:WH P N ops S Q fuel (listed.setIfInBounds i true) ((d,.pointer (some (q.add o)))::st) w)
  (hs:rI ops=true:=by kernel_rfl) (hf:sQ .any ops listed i=true:=by kernel_rfl) (hr:(rm .any ops listed).contains i=true:=by kernel_rfl) (hd:oz d N=true:=by exact rfl):WH P N ops S Q (fuel+1) listed st w:=
 WH.take i hi hs hf hr hS (fun _ _=>RV.fa hx) hd h
theorem zto{j:Nat}{b:Bool}(i:Nat)(hi:ops[i]? = some ⟨some d,op,t,p,e,some (j,b)⟩)(hS:S w)(hv:∀w',S w'→RV P N op t st w' v)(h:WH P N ops S Q fuel (listed.setIfInBounds i true) ((d,v)::st) w)(hg:said ops st j=some b:=by exact rfl)
  (hs:rI ops=true:=by kernel_rfl) (hf:sQ .any ops listed i=true:=by kernel_rfl) (hr:(rm .any ops listed).contains i=true:=by kernel_rfl) (hd:oz d N=true:=by exact rfl):WH P N ops S Q (fuel+1) listed st w:=
 uR i hi hg hs hf hr hS hv hd h
theorem zro{j:Nat}{b:Bool}(i:Nat)(hi:ops[i]? = some ⟨some d,op,t,p,e,some (j,b)⟩)(hS:S w)(hv:∀w',RV P N op t st w' v)(h:WH P N ops S Q fuel (listed.setIfInBounds i true) ((d,v)::st) w)(hg:said ops st j=some b:=by exact rfl)
  (hs:rI ops=true:=by kernel_rfl) (hf:sQ .any ops listed i=true:=by kernel_rfl) (hr:(rm .any ops listed).contains i=true:=by kernel_rfl) (hd:oz d N=true:=by exact rfl):WH P N ops S Q (fuel+1) listed st w:=
 uR i hi hg hs hf hr hS (fun w' _=>hv w') hd h
theorem zte{j:Nat}{b b':Bool}(i:Nat)(hi:ops[i]? = some ⟨some d,op,t,p,e,some (j,b)⟩)(hg:said ops st j=some b')(hS:S w)(h:WH P N ops S Q fuel (listed.setIfInBounds i true) ((d,undef)::st) w)(hne:(b'==b)=false:=by exact rfl)
  (hs:rI ops=true:=by kernel_rfl) (hf:sQ .any ops listed i=true:=by kernel_rfl) (hr:(rm .any ops listed).contains i=true:=by kernel_rfl) (hd:oz d N=true:=by exact rfl):WH P N ops S Q (fuel+1) listed st w:=
 Ac i hi hg hne hs hf hr hS hd h
theorem ztu{j:Nat}{b:Bool}(i:Nat)(hi:ops[i]? = some ⟨some d,op,t,p,e,some (j,b)⟩)(hS:S w)(h:WH P N ops S Q fuel (listed.setIfInBounds i true) ((d,undef)::st) w)(hg:jE ops st j=true:=by exact rfl)
  (hs:rI ops=true:=by kernel_rfl) (hf:sQ .any ops listed i=true:=by kernel_rfl) (hr:(rm .any ops listed).contains i=true:=by kernel_rfl) (hd:oz d N=true:=by exact rfl):WH P N ops S Q (fuel+1) listed st w:=
 xu i hi hg hs hf hr hS hd h
theorem nE{tB:Nat}{b c X:Bool}{st0:St}(tA n:Nat)(hS:S w)(e:X=c)(hX:cC st0 tA=some (.bool X):=by exact rfl)(hdrop:st.drop n=st0:=by exact rfl)(hf:((st.take n).all fun q=>zf q.1 tA||(match cC st0 q.1 with|none=>true|_=>false))=true:=by exact rfl)
 (hA:cC st tA=some (.bool c):=by exact rfl) (hb:cC st tB=some (.bool b):=by exact rfl):QF N (Gy N S tB b st0) .normal st w:=Cy n hS hdrop hf hA (fun v hv=>by rw[hX]at hv;cases hv;rw[e]) hb
theorem zin(hS:S w)(h:S w→WH P N ops S Q fuel listed st w):WH P N ops S Q fuel listed st w:=h hS
theorem zlp{α:Type}{c:Dc}(f:α→St)(g:α→ln)(I:α→Prop)(μ:α→Nat)(x0:α)(h0:I x0)
 (round:∀x,I x→WC P N c (Exit.then (fun a' w'=>∃y,I y∧μ y<μ x∧Fits N a' (f y)∧g y=w') Q) (f x) (g x)) (hc:Cov st (f x0):=by repeat' first|exact trivial|exact rfl|constructor) (hw:g x0=w:=by exact rfl):WC P N (.loop c) Q st w:=WC.loop f g I μ x0 h0 hc hw round
theorem zx{α:Type}{f:α→St}{g:α→ln}{I:α→Prop}{m:Nat}{μ:α→Nat}(y:α)(h1:I y)(h2:μ y<m)(h3:Cov st (f y):=by repeat' first|exact trivial|exact rfl|constructor)(h4:g y=w:=by exact rfl):
 QF N (Exit.then (fun a' w'=>∃y,I y∧μ y<m∧Fits N a' (f y)∧g y=w') Q) .normal st w:=QF.next y h1 h2 h3 h4
theorem zxd{α:Type}{f:α→St}{g:α→ln}{I:α→Prop}{m:Nat}{μ:α→Nat}(y:α)(h1:I y)(h2:μ y<m:=by first|omega|(dsimp only;omega))(h3:Cov st (f y):=by repeat' first|exact trivial|exact rfl|constructor)(h4:g y=w:=by exact rfl):
 QF N (Exit.then (fun a' w'=>∃y,I y∧μ y<m∧Fits N a' (f y)∧g y=w') Q) .normal st w:=QF.next y h1 h2 h3 h4
end
theorem zg{A B:Prop}(k:B)(a:Hold B→A:=by
 intro k
 repeat first
  |((with_reducible refine' DU ?_ ?_ ?_);rotate_left 1;exact rfl;exact rfl)
  |((with_reducible refine' xH ?_ ?_ ?_);rotate_left 1;exact rfl;exact rfl)
  |((with_reducible refine' I1 ?_ ?_ ?_);rotate_left 1;exact rfl;exact rfl)
  |with_reducible refine WL.nil ?_
  |with_reducible refine Fh ?_
  |with_reducible refine Fi ?_
  |with_reducible refine az ?_
  |with_reducible refine WC.seq ?_
  |with_reducible refine WC.region ?_
  |with_reducible refine WC.skip ?_
  |with_reducible refine WC.block ?_
  |with_reducible refine WC.exit ?_
  |with_reducible refine WC.ret ?_
  |with_reducible refine cT ?_
  |with_reducible refine bT ?_
  |with_reducible refine eh ?_
  |with_reducible refine eY ?_
  |with_reducible refine cB ?_
  |((with_reducible refine mJ ?_ ?_);exact rfl)
  |((with_reducible refine' xG ?_ ?_ ?_);rotate_left 1;exact rfl;exact rfl)
  |((with_reducible refine' sJ ?_ ?_ ?_ ?_);rotate_left 2;exact rfl;exact rfl;exact rfl)
  |((with_reducible refine' GD ?_ ?_ ?_ ?_);rotate_left 3;exact rfl;exact rfl;exact rfl)
  |((with_reducible refine' GE ?_ ?_ ?_ ?_);rotate_left 3;exact rfl;exact rfl;exact rfl)
  |((with_reducible refine' GF ?_ ?_ ?_ ?_);rotate_left 3;exact rfl;exact rfl;exact rfl)
  |((with_reducible refine' GG ?_ ?_ ?_ ?_);rotate_left 3;exact rfl;exact rfl;exact rfl)
  |((with_reducible refine' GH ?_ ?_ ?_ ?_);rotate_left 3;exact rfl;exact rfl;exact rfl)
  |((with_reducible refine' GC ?_ ?_ ?_ ?_);rotate_left 3;exact rfl;exact rfl;exact rfl)
  |((with_reducible refine' GB ?_ ?_ ?_);rotate_left 1;exact rfl;exact rfl)
  |((with_reducible refine' Gz ?_ ?_ ?_ ?_ ?_);rotate_left 2;exact rfl;(with_reducible exact rfl);exact rfl;exact rfl)
  |((with_reducible refine' GA ?_ ?_ ?_ ?_ ?_);rotate_left 2;exact rfl;(with_reducible exact rfl);exact rfl;exact rfl)
  |((with_reducible refine' Cn ?_ ?_ ?_ ?_);rotate_left 1;exact rfl;(with_reducible exact rfl);exact rfl)
  |((with_reducible refine' Co ?_ ?_ ?_ ?_);rotate_left 1;exact rfl;(with_reducible exact rfl);exact rfl)
  |((with_reducible refine Cm ?_ ?_ ?_);exact rfl;exact rfl)
  |((with_reducible refine' Fj ?_ ?_ ?_);rotate_left 1;exact rfl;(with_reducible exact rfl))
  |((with_reducible refine' DV ?_ ?_ ?_);rotate_left 1;exact rfl;exact rfl)
  |((with_reducible refine' xJ ?_ ?_ ?_);rotate_left 1;exact rfl;exact rfl)
  |((with_reducible refine' I2 ?_ ?_ ?_);rotate_left 1;exact rfl;exact rfl)
  |((with_reducible refine' xI ?_ ?_ ?_);rotate_left 1;exact rfl;exact rfl)
  |((with_reducible refine' sK ?_ ?_ ?_ ?_);rotate_left 2;exact rfl;exact rfl;exact rfl)
  |((with_reducible refine' Cj ?_ ?_ ?_ ?_);rotate_left 1;exact rfl;(with_reducible exact rfl);exact rfl)
  |((with_reducible refine' Ck ?_ ?_ ?_ ?_);rotate_left 1;exact rfl;(with_reducible exact rfl);exact rfl)
  |((with_reducible refine Ci ?_ ?_ ?_);exact rfl;exact rfl)
  |((with_reducible refine' Ff ?_ ?_ ?_);rotate_left 1;exact rfl;(with_reducible exact rfl))
 exact k.out):A:=a ⟨k⟩
theorem zh{A B:Prop}(k:B)(a:Hold B→A:=by
 intro k
 repeat first
  |((with_reducible refine' DU ?_ ?_ ?_);rotate_left 1;exact rfl;exact rfl)
  |((with_reducible refine' xH ?_ ?_ ?_);rotate_left 1;exact rfl;exact rfl)
  |((with_reducible refine' I1 ?_ ?_ ?_);rotate_left 1;exact rfl;exact rfl)
  |with_reducible refine WL.nil ?_
  |with_reducible refine Fh ?_
  |with_reducible refine Fi ?_
  |with_reducible refine az ?_
  |with_reducible refine WC.seq ?_
  |with_reducible refine WC.region ?_
  |with_reducible refine WC.skip ?_
  |with_reducible refine WC.block ?_
  |with_reducible refine WC.exit ?_
  |with_reducible refine WC.ret ?_
  |with_reducible refine cT ?_
  |with_reducible refine bT ?_
  |with_reducible refine eh ?_
  |with_reducible refine eY ?_
  |with_reducible refine cB ?_
  |((with_reducible refine mJ ?_ ?_);exact rfl)
  |((with_reducible refine' xG ?_ ?_ ?_);rotate_left 1;exact rfl;exact rfl)
  |((with_reducible refine' sJ ?_ ?_ ?_ ?_);rotate_left 2;exact rfl;exact rfl;exact rfl)
  |((with_reducible refine' GD ?_ ?_ ?_ ?_);rotate_left 3;exact rfl;exact rfl;exact rfl)
  |((with_reducible refine' GE ?_ ?_ ?_ ?_);rotate_left 3;exact rfl;exact rfl;exact rfl)
  |((with_reducible refine' GF ?_ ?_ ?_ ?_);rotate_left 3;exact rfl;exact rfl;exact rfl)
  |((with_reducible refine' GG ?_ ?_ ?_ ?_);rotate_left 3;exact rfl;exact rfl;exact rfl)
  |((with_reducible refine' GH ?_ ?_ ?_ ?_);rotate_left 3;exact rfl;exact rfl;exact rfl)
  |((with_reducible refine' GC ?_ ?_ ?_ ?_);rotate_left 3;exact rfl;exact rfl;exact rfl)
  |((with_reducible refine' GB ?_ ?_ ?_);rotate_left 1;exact rfl;exact rfl)
  |((with_reducible refine' Gz ?_ ?_ ?_ ?_ ?_);rotate_left 2;exact rfl;(with_reducible exact rfl);exact rfl;exact rfl)
  |((with_reducible refine' GA ?_ ?_ ?_ ?_ ?_);rotate_left 2;exact rfl;(with_reducible exact rfl);exact rfl;exact rfl)
  |((with_reducible refine' Cn ?_ ?_ ?_ ?_);rotate_left 1;exact rfl;(with_reducible exact rfl);exact rfl)
  |((with_reducible refine' Co ?_ ?_ ?_ ?_);rotate_left 1;exact rfl;(with_reducible exact rfl);exact rfl)
  |((with_reducible refine Cm ?_ ?_ ?_);exact rfl;exact rfl)
  |((with_reducible refine' Fj ?_ ?_ ?_);rotate_left 1;exact rfl;(with_reducible exact rfl))
  |((with_reducible refine' DV ?_ ?_ ?_);rotate_left 1;exact rfl;exact rfl)
  |((with_reducible refine' xJ ?_ ?_ ?_);rotate_left 1;exact rfl;exact rfl)
  |((with_reducible refine' I2 ?_ ?_ ?_);rotate_left 1;exact rfl;exact rfl)
  |((with_reducible refine' xI ?_ ?_ ?_);rotate_left 1;exact rfl;exact rfl)
  |((with_reducible refine' sK ?_ ?_ ?_ ?_);rotate_left 2;exact rfl;exact rfl;exact rfl)
  |((with_reducible refine' Cj ?_ ?_ ?_ ?_);rotate_left 1;exact rfl;(with_reducible exact rfl);exact rfl)
  |((with_reducible refine' Ck ?_ ?_ ?_ ?_);rotate_left 1;exact rfl;(with_reducible exact rfl);exact rfl)
  |((with_reducible refine Ci ?_ ?_ ?_);exact rfl;exact rfl)
  |((with_reducible refine' Ff ?_ ?_ ?_);rotate_left 1;exact rfl;(with_reducible exact rfl))
  |((with_reducible refine' Jd ?_ ?_ ?_ ?_);rotate_left 2;exact rfl;(with_reducible assumption);exact rfl)
  |((with_reducible refine' Is ?_ ?_ ?_ ?_ ?_);rotate_left 2;exact rfl;exact rfl;omega;exact rfl)
  |((with_reducible refine' Jc ?_ ?_ ?_ ?_);rotate_left 4;exact rfl;(with_reducible assumption);exact rfl)
  |((with_reducible refine' Je ?_ ?_ ?_ ?_ ?_ ?_ ?_);rotate_left 7;exact rfl;exact rfl;(with_reducible assumption);exact rfl;omega;exact rfl)
  |((with_reducible refine' Ir ?_ ?_ ?_ ?_ ?_);rotate_left 2;exact rfl;exact rfl;omega;exact rfl)
  |((with_reducible refine' Jf ?_ ?_ ?_ ?_);rotate_left 2;exact rfl;(with_reducible assumption);exact rfl)
 exact k.out):A:=a ⟨k⟩
section
variable{P:ps}{N:Nat}{ops:Array su}{Q:uw→A2→ln→Prop}{K:A2→Prop}{rest:List su}{st:St}{w:ln}
variable{t:ow}{p:String}{e:Array CR}{d:Nat}{v:ix}{op:Op}{B:Prop}
theorem zvG(hv:RV P N op t st w v)(k:B)(hd:oz d N=true:=by exact rfl)(a:Hold B→WL P N ops Q rest ((d,v)::st) w:=by intro k;exact zg k.out):WL P N ops Q (⟨some d,op,t,p,e,none⟩::rest) st w:=mG hv hd (a ⟨k⟩)
theorem zwG(hv:RV P N op t st w v)(k:B)(hd:oz d N=true:=by exact rfl)(a:Hold B→WS P N ops w K rest ((d,v)::st):=by intro k;exact zg k.out):WS P N ops w K (⟨some d,op,t,p,e,none⟩::rest) st:=DO hv hd (a ⟨k⟩)
theorem zTG{c:oD}{x y:Dc}{b:Bool}(hc:ev st c=some (.bool b))(hb:b=true)(k:B)(a:Hold B→WC P N x Q st w:=by intro k;exact zg k.out):WC P N (.cond c x y) Q st w:=aZ hc hb (a ⟨k⟩)
theorem zFG{c:oD}{x y:Dc}{b:Bool}(hc:ev st c=some (.bool b))(hb:b=false)(k:B)(a:Hold B→WC P N y Q st w:=by intro k;exact zg k.out):WC P N (.cond c x y) Q st w:=aS hc hb (a ⟨k⟩)
theorem zvH(hv:RV P N op t st w v)(k:B)(hd:oz d N=true:=by exact rfl)(a:Hold B→WL P N ops Q rest ((d,v)::st) w:=by intro k;exact zh k.out):WL P N ops Q (⟨some d,op,t,p,e,none⟩::rest) st w:=mG hv hd (a ⟨k⟩)
theorem zwH(hv:RV P N op t st w v)(k:B)(hd:oz d N=true:=by exact rfl)(a:Hold B→WS P N ops w K rest ((d,v)::st):=by intro k;exact zh k.out):WS P N ops w K (⟨some d,op,t,p,e,none⟩::rest) st:=DO hv hd (a ⟨k⟩)
theorem zTH{c:oD}{x y:Dc}{b:Bool}(hc:ev st c=some (.bool b))(hb:b=true)(k:B)(a:Hold B→WC P N x Q st w:=by intro k;exact zh k.out):WC P N (.cond c x y) Q st w:=aZ hc hb (a ⟨k⟩)
theorem zFH{c:oD}{x y:Dc}{b:Bool}(hc:ev st c=some (.bool b))(hb:b=false)(k:B)(a:Hold B→WC P N y Q st w:=by intro k;exact zh k.out):WC P N (.cond c x y) Q st w:=aS hc hb (a ⟨k⟩)
end
end Go.VL
end
section
namespace Go.VL
open Go.Proofs.Tryz
open Go.Proofs Go.Proofs.YtlehnbkknlpkbaaGreatDoor
open Go.Proofs.Tryz
instance :FA pN 30 0 0:=fI J3 rfl rfl uh
instance :FA pN 30 1 1:=fI J3 rfl rfl BG
instance :FA pN 30 2 2:=fI J3 rfl rfl BG
instance :FA pN 30 3 3:=fI J3 rfl rfl BG
instance :FA pN 30 4 4:=fI J3 rfl rfl BG
instance :FA pN 33 0 0:=fI Lk rfl rfl sizeOf30
instance :FA pN 33 1 5:=fI Lk rfl rfl L8
instance :FA pN 35 0 0:=fI CZ rfl rfl JR
instance :FA pN 35 1 1:=fI CZ rfl rfl JR
instance :FA pN 35 2 2:=fI CZ rfl rfl JR
instance :FA pN 35 3 3:=fI CZ rfl rfl uh
instance :FA pN 35 4 4:=fI CZ rfl rfl BG
instance :FA pN 35 5 5:=fI CZ rfl rfl sizeOf33
instance :FA pN 35 6 11:=fI CZ rfl rfl sizeOf33
instance :FA pN 41 0 0:=fI Kh rfl rfl BG
instance :FA pN 41 1 1:=fI Kh rfl rfl BG
instance :FA pN 41 2 2:=fI Kh rfl rfl sizeOf39
instance :FA pN 83 0 0:=fI Kg rfl rfl uh
instance :FA pN 83 1 1:=fI Kg rfl rfl uh
instance :FA pN 83 2 2:=fI Kg rfl rfl sizeOf81
instance :FA pN 85 0 0:=fI Kf rfl rfl Kx
instance :FA pN 85 1 3:=fI Kf rfl rfl Kx
instance :FA pN 85 2 6:=fI Kf rfl rfl Gv
instance :FA pN 86 0 0:=fI Lj rfl rfl L7
instance :FA pN 86 1 1:=fI Lj rfl rfl L8
instance :FA pN 114 0 0:=fI Ld rfl rfl uh
instance :FA pN 114 1 1:=fI Ld rfl rfl Gv
instance :FA pN 116 0 0:=fI DZ rfl rfl sizeOf35
instance :FA pN 116 1 17:=fI DZ rfl rfl uh
instance :FA pN 116 2 18:=fI DZ rfl rfl sizeOf112
instance :FA pN 116 3 19:=fI DZ rfl rfl Gv
instance :FA pN 116 4 20:=fI DZ rfl rfl sizeOf114
instance :FA pN 116 5 22:=fI DZ rfl rfl Gv
instance :FA pN 139 1 1:=fI Lc rfl rfl L7
instance :FA pN 139 2 2:=fI Lc rfl rfl L8
instance :FA pN 167 0 0:=fI DN rfl rfl Kj
instance :FA pN 167 1 1:=fI DN rfl rfl uh
instance :FA pN 167 2 2:=fI DN rfl rfl uh
instance :FA pN 167 3 3:=fI DN rfl rfl uh
instance :FA pN 167 4 4:=fI DN rfl rfl uh
instance :FA pN 167 5 5:=fI DN rfl rfl sizeOf36
instance :FA pN 170 0 0:=fI GZ rfl rfl sizeOf167
instance :FA pN 170 1 6:=fI GZ rfl rfl sizeOf41
instance :FA pN 170 2 9:=fI GZ rfl rfl sizeOf168
instance :FA pN 170 3 10:=fI GZ rfl rfl Gv
instance :FA pN 170 4 11:=fI GZ rfl rfl Gv
instance :FA pN 185 0 0:=fI GY rfl rfl Gv
instance :FA pN 185 1 1:=fI GY rfl rfl sizeOf182
instance :FA pN 185 2 2:=fI GY rfl rfl sizeOf183
instance :FA pN 185 3 3:=fI GY rfl rfl sizeOf180
instance :FA pN 185 4 4:=fI GY rfl rfl sizeOf181
instance :FA pN 187 0 0:=fI K5 rfl rfl BG
instance :FA pN 187 1 1:=fI K5 rfl rfl BG
instance :FA pN 187 2 2:=fI K5 rfl rfl uh
instance :FA pN 190 0 0:=fI K4 rfl rfl uh
instance :FA pN 190 1 1:=fI K4 rfl rfl uh
instance :FA pN 190 2 2:=fI K4 rfl rfl uh
instance :FA pN 194 0 0:=fI K2 rfl rfl sizeOf127
instance :FA pN 194 1 1:=fI K2 rfl rfl sizeOf192
instance :FA pN 194 2 2:=fI K2 rfl rfl L7
instance :FA pN 228 0 0:=fI DH rfl rfl sizeOf86
instance :FA pN 228 1 2:=fI DH rfl rfl sizeOf226
instance :FA pN 228 2 3:=fI DH rfl rfl BG
instance :FA pN 228 3 4:=fI DH rfl rfl sizeOf180
instance :FA pN 228 4 5:=fI DH rfl rfl sizeOf225
instance :FA pN 228 5 6:=fI DH rfl rfl uh
instance :FA pN 243 0 0:=fI Lb rfl rfl Kj
instance :FA pN 243 1 1:=fI Lb rfl rfl Kx
instance :FA pN 260 0 0:=fI La rfl rfl Kj
instance :FA pN 260 1 1:=fI La rfl rfl uh
instance :FA pN 262 0 0:=fI GT rfl rfl sizeOf260
instance :FA pN 262 1 2:=fI GT rfl rfl sizeOf168
instance :FA pN 262 2 3:=fI GT rfl rfl uh
instance :FA pN 262 3 4:=fI GT rfl rfl uh
instance :FA pN 262 4 5:=fI GT rfl rfl sizeOf36
instance :SC pN 22 1:=⟨3,Ki,uh⟩
instance :SC pN 31 1:=⟨28,underlying31,JR⟩
instance :SC pN 39 7:=⟨85,underlying39,sizeOf85⟩
instance :SC pN 50 1:=⟨22,underlying50,BG⟩
instance :SC pN 69 1:=⟨4,underlying69,Gv⟩
instance :SC pN 81 3:=⟨83,underlying81,Kx⟩
instance :SC pN 112 2:=⟨114,underlying112,sizeOf114⟩
instance :SC pN 132 2:=⟨86,underlying132,sizeOf86⟩
instance :SC pN 136 1:=⟨9,underlying136,Kj⟩
instance :SC pN 168 4:=⟨243,underlying168,sizeOf243⟩
instance :SC pN 183 3:=⟨187,underlying183,sizeOf187⟩
instance :AG pN 3 false:=⟨LF⟩
instance :AG pN 4 false:=⟨LD⟩
instance :AG pN 5 false:=⟨isAgg5⟩
instance :AG pN 9 false:=⟨isAgg9⟩
instance :AG pN 22 false:=⟨Ll⟩
instance :AG pN 28 false:=⟨isAgg28⟩
instance :AG pN 31 false:=⟨isAgg31⟩
instance :AG pN 36 false:=⟨isAgg36⟩
instance :AG pN 39 false:=⟨isAgg39⟩
instance :AG pN 50 false:=⟨isAgg50⟩
instance :AG pN 81 false:=⟨isAgg81⟩
instance :AG pN 112 false:=⟨isAgg112⟩
instance :AG pN 127 false:=⟨isAgg127⟩
instance :AG pN 168 false:=⟨isAgg168⟩
instance :AG pN 180 false:=⟨isAgg180⟩
instance :AG pN 181 false:=⟨isAgg181⟩
instance :AG pN 182 false:=⟨isAgg182⟩
instance :AG pN 183 false:=⟨isAgg183⟩
instance :AG pN 192 false:=⟨isAgg192⟩
instance :AG pN 224 false:=⟨isAgg224⟩
instance :AG pN 225 false:=⟨isAgg225⟩
instance :AG pN 226 false:=⟨isAgg226⟩
end Go.VL
end
namespace Go.VL
open Go.Proofs.Tryz
theorem max_lt(k:rk){a:Nat}(h:(a:Int)<=k.max):a<2^k.bits:=by
 cases k<;>simp only[JN,Jn,IP]at h ⊢<;>simp at h ⊢<;>omega
theorem kE(n a:Nat)(h:a<2^n):(KJ n (a:Int)).toNat=a:=by
 rw[show KJ n (a:Int)=BitVec.ofNat n a from by simp,BitVec.toNat_ofNat,Nat.mod_eq_of_lt h]
theorem qM(k:rk){a:Nat}(h:(a:Int)<=k.max):k.wrap a=a:=by
 cases k<;>simp only[JN,Jn,IP]at h<;>simp[LL,Jn,IP]at h ⊢<;>(try split)<;>omega
def Ar(k:rk):Nat:=if k.signed then k.bits-1 else k.bits
theorem vN(k:rk)(a:Nat):(a:Int)<=k.max↔a<2^Ar k:=by
 cases k<;>simp[JN,Jn,IP,Ar]<;>omega
section
variable{P:ps}{N:Nat}{ops:Array su}{Q:uw→A2→ln→Prop}{rest:List su}{st:St}{w:ln}
variable{t xt yt:ow}{p:String}{e:Array CR}{d:Nat}{x y z:oD}
variable{k:rk}{m n:Int}{a b:Nat}
theorem FG(ha:(a:Int)<=k.max)(hb:(b:Int)<=k.max):(binOp .and xt (.int k a) (.int k b)).run P w=.ok (.int k ((a &&& b:Nat):Int)) w:=by
 rw[binOp_and];have h:((a &&& b:Nat):Int)<=k.max:=by have:=@Nat.and_le_left a b;omega
 simp only[Li,BitVec.toNat_and,kE _ _ (max_lt k ha),kE _ _ (max_lt k hb),qM k h];rfl
theorem GL(ha:(a:Int)<=k.max)(hb:(b:Int)<=k.max):(binOp .or xt (.int k a) (.int k b)).run P w=.ok (.int k ((a ||| b:Nat):Int)) w:=by
 rw[binOp_or];have h:((a ||| b:Nat):Int)<=k.max:=(vN k _).2 (Nat.or_lt_two_pow ((vN k a).1 ha) ((vN k b).1 hb));simp only[Li,BitVec.toNat_or,kE _ _ (max_lt k ha),kE _ _ (max_lt k hb),qM k h];rfl
theorem xD(hx:ev st x=some (.int k m))(hy:ev st y=some (.int k n))(hm:m=a)(hn:n=b)(ha:(a:Int)<=k.max)(hb:(b:Int)<=k.max):RV P N (.binOp .and xt x y yt) t st w (.int k ((a &&& b:Nat):Int)):=by
 subst hm;subst hn;exact gg hx hy (FG ha hb)
theorem uS(hx:ev st x=some (.int k m))(hy:ev st y=some (.int k n))(hm:m=a)(hn:n=b)(ha:(a:Int)<=k.max)(hb:(b:Int)<=k.max):RV P N (.binOp .or xt x y yt) t st w (.int k ((a ||| b:Nat):Int)):=by
 subst hm;subst hn;exact gg hx hy (GL ha hb)
theorem iM{k':rk}(hx:ev st x=some (.int k m))(hy:ev st y=some (.int k' n))(hm:m=a)(hn:n=b)(hb:b<=k.bits):RV P N (.binOp .shr xt x y yt) t st w (.int k ((a / 2^b:Nat):Int)):=by
 subst hm;subst hn;refine gg hx hy ?_;rw[binOp_shr];have h1:¬(b:Int)<0:=zo;simp only[Lx,if_neg h1,tq,JD hb];rw[Int.fdiv_eq_ediv_of_nonneg _ (by exact_mod_cast vg _)];simp
theorem xB{k':rk}(hx:ev st x=some (.int k m))(hy:ev st y=some (.int k' n))(hm:m=a)(hn:n=b)(hb:b<=k.bits)(hr:((a*2^b:Nat):Int)<=k.max):RV P N (.binOp .shl xt x y yt) t st w (.int k ((a*2^b:Nat):Int)):=by
 subst hm;subst hn;refine gg hx hy ?_;rw[binOp_shl];have h1:¬(b:Int)<0:=zo;have h2:=qM k hr;simp only[Lx,if_neg h1,tq,JD hb];have h3:(a:Int)*2^b=((a*2^b:Nat):Int):=by simp
 rw[h3,h2];rfl
theorem vj(l:List UInt8):strOfNums (l.map fun b=>(b.toNat:Int))=bs l:=by
 simp only[strOfNums,bs,List.map_map];congr 1;rw[show((fun n:Int=>JT n.toNat)∘fun b:UInt8=>(b.toNat:Int))=id from by funext b;simp];simp
theorem yL{l:List UInt8}{v:ix}{E:ow}(hl:Sl (fun b:UInt8=>[C2 .u8 (b.toNat:Int)]) 1 w v l)(hs:P.underlying xt=some (.slice E))(he:P.underlying E=some (.int .u8))(a0:P.underlying yt=some .string)(hx:ev st x=some v):
  RV P N (.convert xt yt x) t st w (.string (bs l)):=
 fun a' ha a2 p e g=>by
  obtain⟨a,c,rfl,hc,_,a1⟩:=hl.shape;simp only[execOp,ha.ev hx,pc]
  by_cases h0:l.length=0
  ·obtain rfl:l=[]:=rf h0
   cases a with
   |none=>
    rw[run_convert_bytes_nil w xt E hs he _ _ yt a0];rfl
   |some q=>
    obtain⟨b,o,sp⟩:=q;have hq:=run_convert_bytes_string (P:=P) w xt yt E (some ⟨b,o,sp⟩) 0 c hs he a0;simp only[Ib]at hq ⊢;rw[hq,run_bytesToString w ⟨b,o,sp⟩ 0 c [] (by simp[loadCells,loadCellsFrom])];rfl
  obtain⟨b,o,rfl⟩:=a1 h0
  have:=run_convert_bytes_arg (P:=P) w xt E hs he b o l.length c (l.map fun b=>(b.toNat:Int)) (by simp) (fun i hi=>by
   have h1:=hl.cells i hi 0 _ rfl;rw[ao]at h1;simp only[adr,J4]at h1;rw[h1,ug,G6 (by simpa using hi)]
   simp) yt a0
  rw[this,vj];rfl
end
section
open Go.RowKit
abbrev Fr(ro:Option Nat):Fence:={ BJ with round:=ro }
def fw(o:su):Bool:=match o.op with | .defer _=>false|_=>true
theorem zp{o:su}(h:fw o=true):∀c,o.op≠.defer c:=by
 intro c e;simp[fw,e]at h
def dn(ds:List zl)(Q:uw->A2->ln->Prop):uw->A2->ln->Prop:=fun e a w=>Q e { a with defers:=a.defers++ds } w
theorem jP(a:A2)(x:List zl):({ a with defers:=x }:A2).eval=a.eval:=by
 funext t;cases t<;>rfl
theorem Jj{ro:Option Nat}{P:ps}{o:su}{a:A2}{w:ln}{next:A2->ln->Prop}{Q Q1:uw->A2->ln->Prop}{ds:List zl} 
  (hn:ro=none\/fw o=true) (a1:∀a w,¬Q1 .outgrown a w) (hq:∀c a w,Q1 (.panic c) a w->Q (.panic c) { a with defers:=a.defers++ds } w)
  (h:o.wp P a w (fun a w=>next { a with defers:=a.defers++ds } w) Q1):o.wpIn (Fr ro) 0 P { a with defers:=a.defers++ds } w next Q:=by
 refine⟨fun _ _=>trivial,?_⟩;have hs:o.semAt (Fr ro).round ({ a with defers:=a.defers++ds }:A2).eval=execOp a.eval o:=by
  rw[jP]
  rcases hn with rfl|hn
  ·rfl
  exact Oper.semAt_eq _ _ _ (zp hn)
 rw[hs];unfold Da at h;generalize (execOp a.eval o).run P w=r at h ⊢
 cases r with
 |ok nx w'=>
  cases nx with
  |value v=>cases hd:o.dst<;>simpa[Gc,JX,J9,hd]using h
  |skip=>cases hd:o.dst<;>simpa[Gc,JX,J9,hd]using h
  |defer d=>cases hd:o.dst<;>simpa[Gc,JX,J9,hd]using h
  |enter f args=>
   refine⟨fun hh=>by simp[BJ]at hh,?_⟩;refine LN (callsIn_wide.2 h:CallsIn BJ _ P f args w' _) ?_
   intro e w'' q
   cases e with
   |returned v=>cases hd:o.dst<;>simpa[J9,hd]using q
   |panicked c=>exact hq _ _ _ q
   |outgrown=>obtain⟨a0,w0,q⟩:=q;exact absurd q (a1 _ _)
  |row row args=>
   refine⟨fun hh=>by simp[BJ]at hh,fun c cs _=>?_⟩;obtain⟨v,w'',q,s⟩:=h c cs;refine⟨v,w'',?_,stepsIn_wide.2 s⟩
   cases hd:o.dst<;>simpa[J9,hd]using q
  |_=>exact h.elim
 |halt hl w'=>
  cases hl with
  |panic v=>exact hq _ _ _ h
  |_=>exact h.elim
theorem fe{ro:Option Nat}{P:ps}{ops:Array su}{Q:uw->A2->ln->Prop}{ds:List zl}(l2:List su)(a2:∀a w,¬Q .outgrown a w):
  ∀(l:List su),(ro=none\/l.all fw=true)->∀a w,wpList P ops (dn ds (Exit.then (wpListIn (Fr ro) 0 P ops Q l2) Q)) l a w->wpListIn (Fr ro) 0 P ops Q (l++l2) { a with defers:=a.defers++ds } w
 |[],_,a,w,h=>h
 |o::rest,hn,a,w,h=>by
  have a4:ro=none\/fw o=true:=by rcases hn with h|h;exact .inl h;exact .inr (by simp at h;exact h.1)
  have a3:ro=none\/rest.all fw=true:=by rcases hn with h|h;exact .inl h;exact .inr (by simp at h ⊢;exact h.2)
  rw[yr];unfold wpListIn;unfold wpList at h;have a1:∀a w,¬dn ds (Exit.then (wpListIn (Fr ro) 0 P ops Q l2) Q) .outgrown a w:=fun a w q=>a2 _ _ q
  split at h
  ·rename_i hw;rw[if_pos hw]
   rcases h with h|⟨_,a0,w0,h⟩
   ·refine Jj (Q1:=dn ds (Exit.then (wpListIn (Fr ro) 0 P ops Q l2) Q)) a4 a1 (fun _ _ _ q=>q) ?_;have hm:∀a w,wpList P ops (dn ds (Exit.then (wpListIn (Fr ro) 0 P ops Q l2) Q)) rest a w->wpListIn (Fr ro) 0 P ops Q (rest++l2) { a with defers:=a.defers++ds } w:=fe l2 a2 rest a3;unfold Da at h ⊢;generalize (execOp a.eval o).run P w=r at h ⊢
    cases r with
    |ok nx w'=>
     cases nx with
     |value v=>exact hm _ _ h
     |skip=>exact hm _ _ h
     |defer d=>exact hm _ _ h
     |enter f args=>
      refine tJ h ?_;intro e w'' q
      cases e with
      |returned v=>exact hm _ _ q
      |_=>exact q
     |row row args=>exact Ko h fun v w'' q=>hm _ _ q
     |_=>exact h
    |halt hl w'=>cases hl<;>exact h
   exact absurd h (a1 _ _)
  rename_i hw;rw[if_neg hw];refine⟨fun _ _=>trivial,?_⟩;have:=fe l2 a2 rest a3 _ _ h
  cases hd:o.dst<;>simpa[J9,hd]using this
theorem then_self(Q:uw->A2->ln->Prop):Exit.then (fun a w=>Q .normal a w) Q=Q:=by
 funext e a w;cases e<;>rfl
theorem nu{ro:Option Nat}{P:ps}{ops:Array su}{Q:uw->A2->ln->Prop}{ds:List zl}(a0:∀a w,¬Q .outgrown a w) 
  (l:List su) (hn:ro=none\/l.all fw=true) (a:A2) (w:ln) (h:wpList P ops (dn ds Q) l a w):wpListIn (Fr ro) 0 P ops Q l { a with defers:=a.defers++ds } w:=by
 have:=fe (ro:=ro) (P:=P) (ops:=ops) (Q:=Q) (ds:=ds) [] a0 l hn a w (by
  rw[show Exit.then (wpListIn (Fr ro) 0 P ops Q []) Q=Q from then_self Q];exact h)
 rwa[zI]at this
def WI(ro:Option Nat)(P:ps)(N:Nat)(ds:List zl)(c:Dc)(Q:uw->A2->ln->Prop)(st:St)(w:ln):Prop:=
 ∀a,Fits N a st->c.wpIn (Fr ro) 0 P Q { a with defers:=ds } w
def QI(N:Nat)(ds:List zl)(Q:uw->A2->ln->Prop)(e:uw)(st:St)(w:ln):Prop:=
 ∀a,Fits N a st->Q e { a with defers:=ds } w
section
variable{P:ps}{N:Nat}{ro:Option Nat}{ds:List zl}{Q:uw→A2→ln→Prop}{st:St}{w:ln}
theorem sn{N:Nat}{a:A2}{st:St}(h:Fits N a st)(ds:List zl):({ a with defers:=a.defers++ds }:A2) = { a with defers:=ds }:=by rw[h.defers];rfl
theorem QF.dn{e:uw}(h:QI N ds Q e st w):QF N (dn ds Q) e st w:=fun a ha=>by
 show Q e _ w;rw[sn ha];exact h a ha
theorem WI.region{id:Nat}{l:List su}(hn:ro=none\/l.all fw=true)(a0:∀a w,¬Q .outgrown a w)(h:WL P N l.toArray (dn ds Q) l st w):WI ro P N ds (.region id l.toArray false) Q st w:=fun a ha=>by
 rw[<-sn ha];exact wpIn_region_lit (nu a0 l hn a w (h a ha))
theorem WI.seq{x y:Dc}(h:WI ro P N ds x (Exit.then (y.wpIn (Fr ro) 0 P Q) Q) st w):WI ro P N ds (.seq x y) Q st w:=fun a ha=>wpIn_seq (h a ha)
theorem WI.skip(h:QI N ds Q .normal st w):WI ro P N ds .skip Q st w:=fun a ha=>wpIn_skip (h a ha)
theorem WI.exit{id:Nat}(h:QI N ds Q (.exit id) st w):WI ro P N ds (.exit id) Q st w:=fun a ha=>wpIn_exit (h a ha)
theorem WI.ret(h:QI N ds Q .ret st w):WI ro P N ds .ret Q st w:=fun a ha=>wpIn_ret (h a ha)
theorem WI.block{id:Nat}{c:Dc}(h:WI ro P N ds c (yY id Q) st w):WI ro P N ds (.block id c) Q st w:=fun a ha=>wpIn_block (h a ha)
theorem Fits.evD{a:A2}(ha:Fits N a st){x:oD}{v:ix}(hx:VL.ev st x=some v)(ds:List zl):({ a with defers:=ds }:A2).eval x=v:=by rw[jP];exact ha.ev hx
theorem WI.cond{c:oD}{x y:Dc}{b:Bool}(hc:ev st c=some (.bool b))(ht:b=true->WI ro P N ds x Q st w)(hf:b=false->WI ro P N ds y Q st w):WI ro P N ds (.cond c x y) Q st w:=
 fun a ha=>wpIn_cond_split (ha.evD hc ds) (fun e=>ht e a ha) (fun e=>hf e a ha)
theorem sq{c:oD}{x y:Dc}{b:Bool}(hc:ev st c=some (.bool b))(hb:b=true)(ht:WI ro P N ds x Q st w):WI ro P N ds (.cond c x y) Q st w:=by
 subst hb;exact fun a ha=>wpIn_cond_true (ha.evD hc ds) (ht a ha)
theorem lr{c:oD}{x y:Dc}{b:Bool}(hc:ev st c=some (.bool b))(hb:b=false)(hf:WI ro P N ds y Q st w):WI ro P N ds (.cond c x y) Q st w:=by
 subst hb;exact fun a ha=>wpIn_cond_false (ha.evD hc ds) (hf a ha)
theorem bm{y:Dc}{Q':uw->A2->ln->Prop}(h:WI ro P N ds y Q st w):QI N ds (Exit.then (y.wpIn (Fr ro) 0 P Q) Q') .normal st w:=h
theorem oW{K:A2->ln->Prop}{id:Nat}(h:QI N ds Q (.exit id) st w):QI N ds (Exit.then K Q) (.exit id) st w:=h
theorem jh{K:A2->ln->Prop}(h:QI N ds Q .ret st w):QI N ds (Exit.then K Q) .ret st w:=h
theorem dd{id:Nat}(h:QI N ds Q .normal st w):QI N ds (yY id Q) .normal st w:=h
theorem gI{id:Nat}(h:QI N ds Q .ret st w):QI N ds (yY id Q) .ret st w:=h
theorem xF{id:Nat}(h:QI N ds Q .normal st w):QI N ds (yY id Q) (.exit id) st w:=fun a ha=>by
 show if id=id then _ else _
 rw[if_pos rfl];exact h a ha
end
theorem wpIn_loop_ghost{F:Fence}{n:Nat}{P:ps}{Q:uw->A2->ln->Prop}{a:A2}{w:ln}{c:Dc}(I:Nat->A2->ln->Prop)(n0:Nat)(h₀:I n0 a w) 
  (a1:∀j a w,I j a w->c.wpIn F n P (Exit.then (fun a' w'=>∃j',j'<j/\I j' a' w') Q) a w):(Code.loop c).wpIn F n P Q a w:=by
 intro b k cs a3 hb hr;have a2:∀j a w,I j a w->
   ∃e a' w',Q e a' w'/\ArrivesIn (LH P F) P (lone (b.atR a (.code c :: .inLoop c::k)) cs w) b k cs e a' w':=by
  intro j
  induction j using Nat.strongRecOn with
  |_ j ih=>
   intro a w hI;obtain⟨e,a₁,w₁,hq,a0⟩:=a1 j a w hI b (.inLoop c::k) cs a3 hb hr
   cases e with
   |normal=>
    obtain⟨j',a4,hI₁⟩:=hq;obtain⟨e₂,a₂,w₂,hq₂,harr₂⟩:=ih j' a4 a₁ w₁ hI₁;exact⟨e₂,a₂,w₂,hq₂,.of_steps (LG a0 (.one (fenced_calm hb hr rfl) stepR_inLoop)) harr₂⟩
   |exit id=>exact⟨_,a₁,w₁,hq,.pass (x:=.inLoop c) rfl (fun _ _=>.inl (by simp)) a0⟩
   |goto l=>exact⟨_,a₁,w₁,hq,.pass (x:=.inLoop c) rfl (fun _ _=>.inl (by simp)) a0⟩
   |ret=>exact⟨_,a₁,w₁,hq,.pass (x:=.inLoop c) rfl (fun _ _=>.inl (by simp)) a0⟩
   |panic ch=>exact⟨_,a₁,w₁,hq,.pass (x:=.inLoop c) rfl (fun _ _=>.inl (by simp)) a0⟩
   |outgrown=>exact⟨_,a₁,w₁,hq,.pass (x:=.inLoop c) rfl (fun _ _=>.inl (by simp)) a0⟩
 obtain⟨e,a',w',hq,a0⟩:=a2 _ a w h₀;exact⟨e,a',w',hq,.of_steps (.one (fenced_calm hb hr rfl) stepR_loop) a0⟩
section
variable{P:ps}{N:Nat}{ro:Option Nat}{ds:List zl}{Q:uw→A2→ln→Prop}{st:St}{w:ln}
theorem WI.loop{α:Type}{c:Dc}(f:α->St)(g:α->ln)(I:α->Prop)(μ:α->Nat)(x0:α)(h0:I x0)(hc:Cov st (f x0))(hw:g x0=w) 
  (a0:∀x,I x->WI ro P N ds c (Exit.then (fun a' w'=>∃y,I y/\μ y<μ x/\(∃a,a' = { a with defers:=ds }/\Fits N a (f y))/\g y=w') Q) (f x) (g x)):WI ro P N ds (.loop c) Q st w:=by
 intro a ha;refine wpIn_loop_ghost (fun n a' w=>∃y,I y/\μ y=n/\(∃a,a' = { a with defers:=ds }/\Fits N a (f y))/\g y=w) (μ x0) ⟨x0,h0,rfl,⟨a,rfl,ha.cov hc⟩,hw⟩ ?_;rintro n _ w ⟨x,hI,rfl,⟨a,rfl,hf⟩,rfl⟩;refine wpIn_mono (a0 x hI a hf) ?_;intro e a' w' hq
 cases e with
 |normal=>obtain⟨y,h1,h2,h3,h4⟩:=hq;exact⟨μ y,h2,y,h1,rfl,h3,h4⟩
 |_=>exact hq
theorem QI.next{α:Type}{f:α->St}{g:α->ln}{I:α->Prop}{m:Nat}{μ:α->Nat}(y:α)(h1:I y)(h2:μ y<m)(h3:Cov st (f y))(h4:g y=w):
 QI N ds (Exit.then (fun a' w'=>∃y,I y/\μ y<m/\(∃a,a' = { a with defers:=ds }/\Fits N a (f y))/\g y=w') Q) .normal st w:=fun a ha=>⟨y,h1,h2,⟨a,rfl,ha.cov h3⟩,h4⟩
end
def Il(R:ix->ln->Prop):Ending->ln->Prop
 |.returned v,w=>R v w
 |_,_=>False
def Leave(P:ps)(N:Nat)(fn:L3)(R:ix->ln->Prop)(ds:List zl)(st:St)(w:ln):Prop:=
 ∀a,Fits N a st->LeavesInM BJ 0 P fn a.tmps (Il R) ds .returning w
section
variable{P:ps}{N:Nat}{ds:List zl}{st:St}{w:ln}{fn:L3}{R:ix→ln→Prop}
theorem qK{f:J6}{c:Dc}{args:List ix}(hf:P.funcs[f]? = some fn)(hN:fn.ntmps=N)(hb:fn.body=some c)(a1:Kq args.length N=true) 
  (h:WI none P N [] c (bodyPostM BJ 0 P fn (Il R)) (Fv 0 args) w):Ret P f args w R:=by
 have a0:=qu (N:=N) (args:=args) a1 (st:=Fv 0 args) fun t v hv=>by simpa using(nH args 0 t v hv).2
 have hw:=h _ a0;have h2:=callsIn_of_wp_marks (F:=BJ) (n:=0) (P:=P) (f:=f) (fn:=fn) (c:=c) (args:=args.toArray) (w:=w) (R:=Il R) hf hb trivial (by rw[hN];have:Fr none=BJ:=rfl;rw[this]at hw;simpa using hw);refine tJ (callsIn_wide.1 h2) ?_;intro e w' q
 cases e<;>exact q
theorem ly(h:Leave P N fn R ds st w):QI N ds (bodyPostM BJ 0 P fn (Il R)) .ret st w:=fun a ha=>h a ha
theorem Leave.nil{v:ix}(hr:∀a:A2,Fits N a st->(results fn a.tmps).run P w=.ok v w)(h:R v w):Leave P N fn R [] st w:=fun a ha=>⟨v,hr a ha,h⟩
theorem oZ(hr:fn.results = #[])(h:R (.tuple #[]) w):Leave P N fn R [] st w:=Leave.nil (fun a ha=>by simp[results,hr]) h
theorem Leave.mark{D:Nat}(hD:w.heap[D]? = some (.deferred (some [])))(h:Leave P N fn R ds st (w.putObj D (.deferred none))):Leave P N fn R ({ target:=.collected D,args:=#[] }::ds) st w:=
 fun a ha=>⟨by simp,.inl ⟨D,_,rfl,run_takeDeferred hD,h a ha⟩⟩
end
def WLI(ro:Option Nat)(P:ps)(N:Nat)(ds:List zl)(ops:Array su)(Q:uw->A2->ln->Prop)(l:List su)(st:St)(w:ln):Prop:=
 ∀a,Fits N a st->wpListIn (Fr ro) 0 P ops Q l { a with defers:=ds } w
section
variable{P:ps}{N:Nat}{ro:Option Nat}{ds:List zl}{Q:uw→A2→ln→Prop}{st:St}{w:ln}
theorem xr(i:Nat){id:Nat}{l:List su}(hn:ro=none\/(l.take i).all fw=true)(a0:∀a w,¬Q .outgrown a w) 
  (h:WL P N l.toArray (VL.dn ds (Exit.then (wpListIn (Fr ro) 0 P l.toArray Q (l.drop i)) Q)) (l.take i) st w):WI ro P N ds (.region id l.toArray false) Q st w:=fun a ha=>by
 rw[<-sn ha];refine wpIn_region_lit ?_;have:=fe (l.drop i) a0 (l.take i) hn a w (h a ha)
 rwa[Ae]at this
theorem Gs{ops:Array su}{l:List su}{Q':uw->A2->ln->Prop}(h:WLI ro P N ds ops Q l st w):QI N ds (Exit.then (wpListIn (Fr ro) 0 P ops Q l) Q') .normal st w:=h
theorem Fg{ops:Array su}{l:List su}(hn:ro=none\/l.all fw=true)(a0:∀a w,¬Q .outgrown a w)(h:WL P N ops (VL.dn ds Q) l st w):WLI ro P N ds ops Q l st w:=fun a ha=>by
 rw[<-sn ha];exact nu a0 l hn a w (h a ha)
end
def AX(O:Nat->Nat)(w:ln)(L:Nat)(I:(Nat->Nat)->ln->Prop)(Ix:Dc->(Nat->Nat)->ln->Prop):uw->A2->ln->Prop
 |.normal,_,w'=>∃O',Upd (fun j=>j≠0/\j≠L) O w O' w'/\I O' w'
 |.ret,_,w'=>∃O',Upd (fun j=>j≠0/\j≠L) O w O' w'/\Ix .ret O' w'
 |.exit id,_,w'=>∃O',Upd (fun j=>j≠0/\j≠L) O w O' w'/\Ix (.exit id) O' w'
 |_,_,_=>False
theorem Upd.putObj{O:Nat->Nat}{w:ln}{L b:Nat}(hL:L≠0)(h:O b=L)(o:Obj):Upd (fun j=>j=L) O w O (w.putObj b o):=
 ⟨rfl,rfl,rfl,by simp,fun k _ hn=>World.putObj_heap_other (fun e=>hn (by rw[e];exact h)),fun _ _=>rfl,fun _ h=>.inl h,fun e=>hL e.symm⟩
theorem iN{N:Nat}{st:St}{O:Nat->Nat}{w w':ln}{L:Nat}{I:(Nat->Nat)->ln->Prop}{Ix:Dc->(Nat->Nat)->ln->Prop}(O':Nat->Nat)(h:Upd (fun j=>j≠0/\j≠L) O w O' w')(h2:I O' w'):
 QI N [] (AX O w L I Ix) .normal st w':=fun _ _=>⟨O',h,h2⟩
theorem xE{N:Nat}{st:St}{O:Nat->Nat}{w w':ln}{L:Nat}{I:(Nat->Nat)->ln->Prop}{Ix:Dc->(Nat->Nat)->ln->Prop}(O':Nat->Nat)(h:Upd (fun j=>j≠0/\j≠L) O w O' w')(h2:Ix .ret O' w'):
 QI N [] (AX O w L I Ix) .ret st w':=fun _ _=>⟨O',h,h2⟩
structure Fixed(O:Nat->Nat)(w:ln)(q:vX)(u:ix):Prop where
 cell:w.cell? q=some u
 free:O q.block=0
theorem Upd.zero{S:Nat->Prop}{O O':Nat->Nat}{w w':ln}(h:Upd S O w O' w'){b:Nat}(hb:b<w.heap.size)(h0:O b=0):O' b=0:=
 qy fun a0=>by
  rcases h.new b a0 with h1|h1
  ·exact h1 h0
  omega
theorem Fixed.upd{S:Nat->Prop}{O O':Nat->Nat}{w w':ln}{q:vX}{u:ix}(h:Fixed O w q u)(k:Upd S O w O' w'):Fixed O' w' q u:=by
 have a0:=Gb w q h.cell;have hb:=k.blk q.block a0 (by rw[h.free];exact k.z);refine⟨?_,k.zero a0 h.free⟩;have:=h.cell;unfold KU at this ⊢;rw[hb];exact this
end
end Go.VL
section
namespace Go.VL
open Go.Proofs.Tryz
open Go.RowKit
section
variable{P:ps}{N:Nat}{ops:Array su}{Q:uw→A2→ln→Prop}{rest:List su}{st:St}{w:ln}
variable{t:ow}{p:String}{e:Array CR}{d:Nat}{x y z:oD}
theorem RV.ext{f:J6}{args:List oD}{a1:Array ow}{vs:List ix}{v:ix}(hr:(callFunc f vs.toArray).run P w=.ok (.value v) w)(a0:evs st args=some vs):
 RV P N (.call ⟨.value (.func f),args.toArray,a1⟩) t st w v:=fun a ha a2 p e g=>by
 simp only[execOp,resolve,B1,pZ];rw[ha.evs a0];simp[FX,invoke,hr]
end
section
variable{P:ps}{N:Nat}{ops:Array su}{Q:uw→A2→ln→Prop}{rest:List su}{st:St}{w:ln}
variable{t:ow}{p:String}{e:Array CR}{d:Nat}{x y z:oD}
theorem sC{T E:ow}{len sz:Nat}{k:rk}{i:Int}{q:vX}(hu:P.underlying T=some (.array len E))(hE:(uu E).run P w=.ok sz w) 
  (hx:ev st x=some (.pointer (some q))) (hy:ev st y=some (.int k i)) (n:Nat) (hi:i=n) (hn:n<len):RV P N (.indexAddr T x y) t st w (.pointer (some (q.add (n*sz)))):=
 fun a ha a0 p e g=>by
  subst hi;have h2:((n:Int)<(len:Int)):=zo;simp only[execOp,ha.ev hx,ha.ev hy];simp[JJ,xK,asIntOf,run_underlying hu,hE];intro h3;omega
theorem fE{T E:ow}{len:Nat}{k:rk}{i:Int}{q:vX}(hu:P.underlying T=some (.array len E))(hE:(uu E).run P w=.ok 1 w) 
  (hx:ev st x=some (.pointer (some q))) (hy:ev st y=some (.int k i)) (n:Nat) (hi:i=n) (hn:n<len):RV P N (.indexAddr T x y) t st w (.pointer (some (q.add n))):=by
 have h:=sC (N:=N) (t:=t) hu hE hx hy n hi hn
 rwa[J4]at h
theorem bt{xt:ow}{a:List UInt8}{k:rk}{m:Int}{c:UInt8}(hT:P.underlying xt=some .string)(hx:ev st x=some (.string (bs a)))(hy:ev st y=some (.int k m))(i:Nat)(hm:m=i)(hi:a[i]? = some c):RV P N (.index xt x y) t st w (.int .u8 (c.toNat:Int)):=by
 obtain⟨h1,h2⟩:=uV.1 hi;have h:=Cv (P:=P) (N:=N) (t:=t) (w:=w) hT hx hy i hm h1;rw[aB h1,h2]at h;exact h
theorem eX{T E:ow}{n sz:Nat}{parts:List (Nat×oD)}{vs:List (Nat×ix)}{z:ix}{cells:Array ix}(hu:P.underlying T=some (.array n E))(hE:(uu E).run P w=.ok sz w)(hz:(De T).run P w=.ok z w) 
  (hv:evp st parts=some vs) (hf:Fo (fun i=>some (i*sz,sz)) z.cells vs=some cells):RV P N (.build T parts.toArray) t st w (.agg cells):=
 fun a ha a0 p e g=>by
  have h1:=ha.evp hv;have e1:(JI (fun x:Nat×oD=>match x with|(i,x)=>(i,a.eval x)) parts)=vs:=by rw[<-h1]
  simp only[execOp,KX,pZ,e1,pc,hz,ox,run_underlying hu,hE,hf,sN]
theorem xA{T E:ow}{n sz:Nat}{q:vX}(hu:P.underlying T=some (.array n E))(hE:(uu E).run P w=.ok sz w)(_:n≠0)(hx:ev st x=some (.pointer (some q))):RV P N (.slice T x none none none) t st w (.slice (some q) n n):=
 fun a ha a0 p e g=>by
  simp only[execOp,ha.ev hx,yJ];simp[Instr.sliceAt,Instr.sliceBounds,xK,run_underlying hu,hE,zR]
end
section
variable{P:ps}{N:Nat}{st:St}{w:ln}{fn:L3}{R:ix→ln→Prop}
theorem cF{t u o:Le}{T:ow}{q:vX}{us:List ix}{v' v2:ix}(hr:fn.results = #[.cell t T,.tmp u,.tmp o])(hv:cC st t=some (.pointer (some q)))(a1:cC st u=some v')(a0:cC st o=some v2) 
  (hc:∀j u,us[j]? = some u->w.cell? (q.add j)=some u) (hT:(Ky T).run P w=.ok true w) (hn:(uu T).run P w=.ok us.length w) (h:R (.tuple #[.agg us.toArray,v',v2]) w):QF N (RP P fn R) .ret st w:=fun a ha=>
 ⟨ha.defers,_,by have h1:=ha.get _ _ hv;have h2:=ha.get _ _ a1;have h3:=ha.get _ _ a0;simp[results,hr,oU,h1,h2,h3,asAddr,dB hc hT hn],h⟩
end
end Go.VL
namespace Go.VL
open Go.Proofs.Tryz
section
variable{P:ps}{N:Nat}{ops:Array su}{Q:uw→A2→ln→Prop}{rest:List su}{st:St}{w:ln}
variable{t:ow}{p:String}{e:Array CR}{d:Nat}{x y z:oD}
theorem aL{T E:ow}{sz a0:Nat}(he:Elem P T E sz a0){α:Type}{enc:α->List ix}(u:α){xv:ix}(hx:ev st x=some xv)(a2:xv.cells.toList=enc u)(a4:(enc u).length=sz)(hs:sz<=16777216)(hd:oz d N=true) 
  (h:∀w',Sl enc sz w' (.slice (some ⟨w.heap.size,0,none⟩) 1 1) [u]->Ext w w'->WL P N ops Q rest ((d,.slice (some ⟨w.heap.size,0,none⟩) 1 1)::st) w'):WL P N ops Q (⟨some d,.buildSlice T 1 #[(0,x)],t,p,e,none⟩::rest) st w:=by
 obtain⟨a3,z,hi,hz,a1,a8,a7⟩:=he.parts;have a6:xv.cells.size=sz:=by rw[<-a4,<-a2];simp
 have a5:=he.pos;refine WL.val (v:=.slice (some ⟨w.heap.size,0,none⟩) 1 1) (w':=w.alloc (.cells xv.cells E)) hd (fun a ha=>?_) (h _ ⟨⟨_,1,rfl,th _,by simp,fun _=>⟨_,_,rfl⟩⟩,fun i hi j c hc=>?_⟩ (Ext.alloc _ _))
 ·have:=run_buildSlice (P:=P) w T E 1 #[(0,xv)] xv.cells a3 z he.ht hi hz (by rw[a1];omega) (by rw[a1];omega) (by
   rw[a1]
   exact kR a6 (by simp))
  simp only[execOp,pZ,ri,tG,ha.ev hx,pc,this,ox];rfl
 obtain rfl:i=0:=by simpa using hi
 simp only[JO]at hc;simp only[adr,Ju,JU];rw[show((⟨w.heap.size,0,none⟩:vX).add j)=⟨w.heap.size,j,none⟩from by simp only[zR];split<;>simp_all,cell_of_row _ _ j xv.cells E (0,0) (heap_alloc_new w _)];rw[<-a2]at hc;simpa using hc
end
end Go.VL
end
section
namespace Go.VL
open Go.Proofs.Tryz
theorem Free.weak{O O':Nat->Nat}{w:ln}{v:ix}(h:Free O' w v)(k:∀b,O' b=0->O b=0):Free O w v:=fun a n c e hn=>⟨k _ (h a n c e hn).1,(h a n c e hn).2⟩
theorem Upd.z0{S:Nat->Prop}{O O':Nat->Nat}{w w':ln}(h:Upd S O w O' w')(b:Nat)(e:O' b=0):O b=0:=
 qy fun a0=>by have:=h.tag b a0;omega
theorem Rng.bound{B:Nat}{O:Nat->Nat}{w:ln}(r:Rng B O w):∃T,0<T/\∀b,O b<T:=by
 have h:∀n,∃T,0<T/\∀b,b<n->O b<T:=fun n=>by
  induction n with
  |zero=>exact⟨1,zo,fun b hb=>zo⟩
  |succ n ih=>
   obtain⟨T,h0,hT⟩:=ih;refine⟨T+O n+1,zo,fun b hb=>?_⟩
   by_cases e:b=n
   ·subst e;omega
   have:=hT b (zo);omega
 obtain⟨T,h0,hT⟩:=h w.heap.size;refine⟨T,h0,fun b=>?_⟩
 by_cases e:O b=0
 ·omega
 exact hT b (r.rng b e).2
theorem Upd.fgt{S S':Nat->Prop}{O O2:Nat->Nat}{w w':ln}(h:Upd S O w O2 w')(hS:∀b,S (O b)->S' (O b))(hz:¬S' 0):Upd S' O w O w':=
 ⟨h.os,h.tape,h.output,h.size,fun b hb hn=>h.blk b hb fun hs=>hn (hS b hs),fun _ _=>rfl,fun _ h=>.inl h,hz⟩
theorem BlkO.fgt{O O2:Nat->Nat}{w:ln}{i j b:Nat}{cs:Array ix}{E:ow}(h:BlkO O2 w j b cs E)(ho:O b=i):BlkO O w i b cs E:=⟨h.blk,ho⟩
theorem RowT.freeT{α:Type}{enc:α->List ix}{E:ow}{sz:Nat}{S:Nat->Prop}{O O':Nat->Nat}{w w':ln}{T:Nat}{v:ix}{l:List α}(h:RowT enc E sz O' w' T v l)(a1:0<T)(hT:∀b,O b<T){B:Nat}(r:Rng B O' w')(u:Upd S O w O' w'):Free O w' v:=fun a n c e _=>by
 have h1:=h.1.tag a.block (by subst e;rfl);have h2:=r.rng a.block (by rw[h1];omega);refine⟨qy fun a0=>?_,h2.2⟩;have:=u.tag _ a0;have:=hT a.block;omega
end Go.VL
namespace Go.Proofs.YtlehnbkknlpkbaaGreatDoor
open Go.Proofs.Tryz
open Go.VL Go.Proofs
inductive Nd where|mk(k c:Int)(kids:List Nd)
instance:Inhabited Nd:=⟨.mk 0 0 []⟩
def Nd.kind:Nd->Int | .mk k _ _=>k
def Nd.cls:Nd->Int | .mk _ c _=>c
def Nd.kids:Nd->List Nd | .mk _ _ l=>l
mutual
def nsz:Nd->Nat | .mk _ _ l=>dr l+1
def dr:List Nd->Nat | []=>0|t::r=>nsz t+dr r
end
theorem cN(t:Nd):0<nsz t:=by cases t;simp[nsz]
theorem bD:∀(l:List Nd) (i:Nat),i<l.length->nsz (nth l i)<=dr l
 |t::r,0,_=>by rw[ar];simp[dr]
 |t::r,i+1,h=>by rw[bd];have:=bD r i (by simpa using h);simp only[dr];omega
theorem jK:∀(a b:List Nd),dr (a++b)=dr a+dr b
 |[],b=>by simp[dr]
 |t::a,b=>by simp only[yr,dr];rw[jK a b];omega
theorem cp(l:List Nd)(i:Nat):dr (l.take i)<=dr l:=by
 conv=>rhs;rw[<-Ae i l]
 rw[jK];omega
theorem dJ(l:List Nd)(i:Nat)(h:i<l.length):dr (l.take (i+1))=dr (l.take i)+nsz (nth l i):=by
 rw[aR h,jK];simp[dr]
theorem ef:∀(l:List Nd),l.length<=dr l
 |[]=>by simp
 |t::r=>by have:=ef r;have:=cN t;simp only[dr,Bh];omega
abbrev N3:=Int×Int×ix
@[simp] def aY(x:N3):List ix:=[nI x.1,nI x.2.1,x.2.2]
inductive Nt(O:Nat->Nat)(w:ln):Nd->N3->Prop
 |mk {k c:Int} {kids:List Nd} {v:ix} {xs:List N3}:Sl aY 3 w v xs->Free O w v->kids.length=xs.length->(∀i,i<xs.length->Nt O w (nth kids i) (nth xs i))->Nt O w (.mk k c kids) (k,c,v)
theorem Nt.upd{S:Nat->Prop}{O O':Nat->Nat}{w w':ln}{t:Nd}{x:N3}(h:Nt O w t x)(u:Upd S O w O' w'):Nt O' w' t x:=by
 induction h with
 |mk hs hf hl _ ih=>exact .mk (hs.upd hf u) (hf.upd u) hl ih
theorem Nt.drew{O:Nat->Nat}{w:ln}{t:Nd}{x:N3}(h:Nt O w t x):Nt O w.drew t x:=h.upd (aa (S:=fun _=>False) (fun h=>h) O (Ext.refl w).drew)
theorem Nt.ext{O:Nat->Nat}{w w':ln}{t:Nd}{x:N3}(h:Nt O w t x)(e:Ext w w'):Nt O w' t x:=h.upd (aa (S:=fun _=>False) (fun h=>h) O e)
theorem Nt.weak{O O':Nat->Nat}{w:ln}{t:Nd}{x:N3}(h:Nt O' w t x)(k:∀b,O' b=0->O b=0):Nt O w t x:=by
 induction h with
 |mk hs hf hl _ ih=>exact .mk hs (hf.weak k) hl ih
theorem Nt.low{S:Nat->Prop}{O O':Nat->Nat}{w w0 w':ln}{t:Nd}{x:N3}(h:Nt O' w' t x)(u:Upd S O w O' w0):Nt O w' t x:=h.weak u.z0
theorem Nt.zero{O:Nat->Nat}{w:ln}{t:Nd}{x:N3}(h:Nt O w t x):Nt (fun _=>0) w t x:=h.weak fun _ _=>rfl
theorem Nt.one{O:Nat->Nat}{w:ln}{t:Nd}{x:N3}(h:Nt O w t x):x.2.2.oneCell'=true:=by cases h with|mk hs=>exact hs.one
theorem Nt.leaf(O:Nat->Nat)(w:ln)(k c:Int):Nt O w (.mk k c []) (k,c,nS):=
 .mk (xs:=[]) ⟨⟨none,0,rfl,th _,zo,fun h=>absurd rfl h⟩,fun i hi=>absurd hi (by simp)⟩ (fun a n c e=>by cases e) rfl (fun i hi=>absurd hi (by simp))
theorem Nt.kind{O:Nat->Nat}{w:ln}{t:Nd}{x:N3}(h:Nt O w t x):x.1=t.kind:=by cases h;rfl
theorem Nt.kids{O:Nat->Nat}{w:ln}{t:Nd}{x:N3}(h:Nt O w t x):∃xs:List N3,Sl aY 3 w x.2.2 xs/\Free O w x.2.2/\t.kids.length=xs.length/\∀i,i<xs.length->Nt O w (nth t.kids i) (nth xs i):=by
 cases h with|mk hs hf hl hk=>exact⟨_,hs,hf,hl,hk⟩
def aj(b:UInt8):Bool:=(decide (65<=b.toNat)&&decide (b.toNat<=90))||(decide (97<=b.toNat)&&decide (b.toNat<=122))
def aw(r:List UInt8):List UInt8:=r.dropWhile (· == 32)
def namesL:List (List UInt8):=[[79,116,104,101,114],[67,82],[76,70],[78,101,119,108,105,110,101],[67,111,110,116,114,111,108],[69,120,116,101,110,100],[90,87,74],[70,111,114,109,97,116],[82,101,103,105,111,110,97,108],[80,114,101,112,101,110,100],[83,112,97,99,105,110,103],[76],[86],[84],[76,86],[76,86,84],[80,105,99,116],[85,112,112,101,114],[76,111,119,101,114],[76,101,116,116,101,114],[75,97,116,97,107,97,110,97],[73,100,101,111,103,114,97,112,104],[68,105,103,105,116],[77,105,100,76,101,116,116,101,114],[77,105,100,78,117,109],[68,111,116],[65,112,111,115,116,114,111,112,104,101],[81,117,111,116,101],[74,111,105,110,101,114],[83,112,97,99,101],[84,101,114,109],[79,112,101,110],[67,108,111,115,101],[72,121,112,104,101,110],[71,108,117,101],[71,97,112]]
def A7(s:List UInt8):Option Nat:=namesL.findIdx? (· == s)
inductive PR where
 |ok (t:Nd) (r:List UInt8)
 |bad (p:Nat) (e:Int)
def dR(kind:Int)(r0:List UInt8):PR:=
 if aj ((aw r0).headD 0)=true then
  match A7 ((aw r0).takeWhile aj)with
  |none=>.bad (aw r0).length 5
  |some c=>.ok (.mk kind (c:Nat) []) ((aw r0).dropWhile aj)
 else .bad (aw r0).length 4
def GS(r:List UInt8):PR:=if r.takeWhile aj=[97,110,121]then .ok (.mk 1 0 []) (r.dropWhile aj)else dR 0 r
def cu(al:Option (List UInt8->PR))(r:List UInt8):PR:=
 match al with
 |none=>.bad r.length 6
 |some f=>
  match f r.tail with
  |.bad p e=>.bad p e
  |.ok t r2=>if(aw r2).headD 0=41 then .ok t (aw r2).tail else .bad (aw r2).length 4
def IQ(al:Option (List UInt8->PR))(r0:List UInt8):PR:=
 if aj ((aw r0).headD 0)=true then GS (aw r0)
 else if(aw r0).headD 0=126 then dR 2 (aw r0).tail
 else if(aw r0).headD 0=94 then .ok (.mk 3 0 []) (aw r0).tail
 else if(aw r0).headD 0=40 then cu al (aw r0)
 else .bad (aw r0).length 4
def opM(c:UInt8):Option Nat:=if c=42 then some 0 else if c=43 then some 1 else if c=63 then some 2 else none
def D4(al:Option (List UInt8->PR))(r0:List UInt8):PR:=
 match IQ al r0 with
 |.bad p e=>.bad p e
 |.ok t r1=>
  match opM ((aw r1).headD 0)with
  |some k=>.ok (.mk (6+(k:Nat)) 0 [t]) (aw r1).tail
  |none=>.ok t (aw r1)
def fD(c:UInt8):Bool:=aj c||decide (c=126)||decide (c=94)||decide (c=40)
def oneM(k:Int)(l:List Nd):Nd:=if l.length=1 then nth l 0 else .mk k 0 l
def AN(al:Option (List UInt8->PR)):Nat->List Nd->List UInt8->PR
 |0,acc,r=>.ok (oneM 4 acc) r
 |n+1,acc,r=>
  if fD ((aw r).headD 0)=true then
   match D4 al (aw r)with
   |.bad p e=>.bad p e
   |.ok t r2=>AN al n (acc++[t]) r2
  else .ok (oneM 4 acc) (aw r)
def I3(al:Option (List UInt8->PR))(r:List UInt8):PR:=
 match D4 al r with
 |.bad p e=>.bad p e
 |.ok t r1=>AN al (r1.length+1) [t] r1
def yF(al:Option (List UInt8->PR)):Nat->List Nd->List UInt8->PR
 |0,acc,r=>.ok (oneM 5 acc) r
 |n+1,acc,r=>
  if(aw r).headD 0=124 then
   match I3 al (aw r).tail with
   |.bad p e=>.bad p e
   |.ok t r2=>yF al n (acc++[t]) r2
  else .ok (oneM 5 acc) (aw r)
def G8(al:Option (List UInt8->PR))(r:List UInt8):PR:=
 match I3 al r with
 |.bad p e=>.bad p e
 |.ok t r1=>yF al (r1.length+1) [t] r1
def G7:Nat->List UInt8->PR
 |0=>G8 none
 |d+1=>G8 (some (G7 d))
inductive XR where
 |ok (t:Nd)
 |bad (p:Nat) (e:Int)
def IK(l:List UInt8):XR:=
 if 4096<l.length then .bad 0 3 else
 match G7 20 l with
 |.bad p e=>.bad (l.length-p) e
 |.ok t r=>if(aw r).length≠0 then .bad (l.length-(aw r).length) 4 else if 2000<nsz t then .bad 0 3 else .ok t
def Good(r:List UInt8):PR->Prop
 |.ok _ r'=>r' <:+ r/\r'.length<r.length
 |.bad p e=>p<=r.length/\e≠0
theorem bn(r:List UInt8):aw r <:+ r:=J1 _
theorem dy(r:List UInt8):(aw r).length<=r.length:=(bn r).length_le
theorem cm{r:List UInt8}(h:r.headD 0≠0):r.tail <:+ r/\r.tail.length+1=r.length:=by
 cases r with
 |nil=>simp at h
 |cons a r=>exact⟨Ku a r,rfl⟩
theorem Good.mono{r r':List UInt8}{x:PR}(h:Good r' x)(k:r' <:+ r):Good r x:=by
 have hl:=k.length_le
 cases x with
 |ok t q=>exact⟨h.1.trans k,by have:=h.2;omega⟩
 |bad p e=>exact⟨ze h.1 hl,h.2⟩
theorem jM{r:List UInt8}(h:aj (r.headD 0)=true):r.dropWhile aj <:+ r/\(r.dropWhile aj).length<r.length:=by
 cases r with
 |nil=>simp[aj]at h
 |cons a r=>
  simp only[List.headD_cons]at h;rw[List.dropWhile_cons_of_pos h];exact⟨(J1 _).trans (Ku a r),by have:=(J1 (l:=r) aj).length_le;simp;omega⟩
theorem oI(k:Int)(r:List UInt8):Good r (dR k r):=by
 refine Good.mono ?_ (bn r);unfold dR
 split
 ·rename_i h
  split
  ·exact⟨th _,zd⟩
  exact jM h
 exact⟨th _,zd⟩
def mW(al:Option (List UInt8->PR)):Prop:=∀f,al=some f->∀r,Good r (f r)
theorem pO{al:Option (List UInt8->PR)}(ha:mW al)(r:List UInt8)(h:r.headD 0≠0):Good r (cu al r):=by
 obtain⟨h1,h2⟩:=cm h;unfold cu
 cases al with
 |none=>exact⟨th _,zd⟩
 |some f=>
  have h3:=(ha f rfl r.tail).mono h1;have h4:=ha f rfl r.tail;dsimp only
  cases hf:f r.tail with
  |bad p e=>rw[hf]at h3;exact h3
  |ok t r2=>
   rw[hf]at h3 h4;dsimp only
   split
   ·rename_i hc;obtain⟨g1,g2⟩:=cm (r:=aw r2) (by rw[hc];decide);exact⟨(g1.trans (bn r2)).trans h3.1,by have:=dy r2;have:=h3.2;omega⟩
   exact⟨by have:=dy r2;have:=h3.2;omega,zd⟩
theorem D3{c:UInt8}{k:Nat}(h:opM c=some k):c≠0:=fun e=>by subst e;simp[opM]at h
def Ik(r:List UInt8):PR->Prop
 |.ok _ r'=>r' <:+ r
 |.bad p e=>p<=r.length/\e≠0
end Go.Proofs.YtlehnbkknlpkbaaGreatDoor
end
namespace Go.Proofs.YtlehnbkknlpkbaaGreatDoor
open Go.Proofs.Tryz
section
open Go.VL Go.Proofs
set_option maxRecDepth 10000
abbrev Lf:=Int×Int×Nat
abbrev Kt:=List Nat×List Nat×Nat
structure Gr where
 ls:List Lf
 ks:List Kt
def Gr.fr(g:Gr)(k:Nat):List Nat:=(nth g.ks k).1
def Gr.lv(g:Gr)(k:Nat):List Nat:=(nth g.ks k).2.1
def Gr.en(g:Gr)(k:Nat):Nat:=(nth g.ks k).2.2
def Gr.knot(g:Gr):Gr:=⟨g.ls,g.ks++[([],[],0)]⟩
def Gr.free(g:Gr)(a b:Nat):Gr:=⟨g.ls,g.ks.set a (g.fr a++[b],g.lv a,g.en a)⟩
def Gr.leaf(g:Gr)(k c:Int)(a b:Nat):Gr:=⟨g.ls++[(k,c,b)],g.ks.set a (g.fr a,g.lv a++[g.ls.length+1],g.en a)⟩
def cK(k c m:Int):Bool:=
 if k=0 then(decide (0<=m)&&decide (m<36))&&(m==c)else if k=1 then decide (0<=m)&&decide (m<36)else if k=2 then(decide (0<=m)&&decide (m<36))&&(m != c)else m==36
def layO(k:Int)(g:Gr)(i:Nat):Gr:=if k=8 then(if k=7 then g else g.free i (i+1))else(if k=7 then g else g.free i (i+1)).free (i+1) i
mutual
def fy:Nd->Nat->Nat->Gr->Gr
 |.mk k c l,a,b,g=>
  if k=4 then nh l a b g
  else if k=5 then nn l a b g
  else if k=6\/k=7\/k=8 then layO k (nj l g.ks.length (g.ks.length+1) ((g.knot.knot.free a g.ks.length).free (g.ks.length+1) b)) g.ks.length
  else if k=9 then g.free a b
  else g.leaf k c a b
def nh:List Nd->Nat->Nat->Gr->Gr
 |[],_,_,g=>g
 |t::r,a,b,g=>if r.isEmpty then fy t a b g else nh r g.ks.length b (fy t a g.ks.length g.knot)
def nn:List Nd->Nat->Nat->Gr->Gr
 |[],_,_,g=>g
 |t::r,a,b,g=>nn r a b (fy t a b g)
def nj:List Nd->Nat->Nat->Gr->Gr
 |[],_,_,g=>g
 |t::_,a,b,g=>fy t a b g
end
inductive StarP(L:List Int->Prop):List Int->Prop
 |nil:StarP L []
 |cons {u v:List Int}:L u->StarP L v->StarP L (u++v)
mutual
/-- Which words an expression matches. -/
def Lg:Nd->List Int->Prop
 |.mk k c l=>fun w=>
  if k=4 then LgS l w
  else if k=5 then LgA l w
  else if k=6 then StarP (LgH l) w
  else if k=7 then∃u v,w=u++v/\LgH l u/\StarP (LgH l) v
  else if k=8 then w=[]\/LgH l w
  else if k=9 then w=[]
  else∃m,w=[m]/\cK k c m=true
def LgS:List Nd->List Int->Prop
 |[]=>fun w=>w=[]
 |t::r=>fun w=>∃u v,w=u++v/\Lg t u/\LgS r v
def LgA:List Nd->List Int->Prop
 |[]=>fun _=>False
 |t::r=>fun w=>Lg t w\/LgA r w
def LgH:List Nd->List Int->Prop
 |[]=>fun _=>False
 |t::_=>Lg t
end
mutual
/-- Expressions whose parts are as many as they must. -/
def fG:Nd->Bool
 |.mk k _ l=>(if k=4 then !l.isEmpty else if k=6\/k=7\/k=8 then decide (l.length=1)else true)&&bR l
def bR:List Nd->Bool
 |[]=>true
 |t::r=>fG t&&bR r
end
inductive Pt(g:Gr):Nat->List Int->Nat->Prop
 |nil (k:Nat):Pt g k [] k
 |eps {k k' q:Nat} {w:List Int}:k<g.ks.length->k'∈g.fr k->Pt g k' w q->Pt g k w q
 |leaf {k j q:Nat} {m:Int} {w:List Int}:k<g.ks.length->j<g.ls.length->j+1∈g.lv k->cK (nth g.ls j).1 (nth g.ls j).2.1 m=true->Pt g (nth g.ls j).2.2 w q->Pt g k (m::w) q
theorem Pt.trans{g:Gr}{a b c:Nat}{u v:List Int}(h:Pt g a u b)(k:Pt g b v c):Pt g a (u++v) c:=by
 induction h with
 |nil=>exact k
 |eps h1 h2 _ ih=>exact .eps h1 h2 (ih k)
 |leaf h1 h2 h3 h4 _ ih=>exact .leaf h1 h2 h3 h4 (ih k)
structure Sub(g g':Gr):Prop where
 len:g.ks.length<=g'.ks.length
 ls:∃r,g'.ls=g.ls++r
 fr:∀k j,k<g.ks.length->j∈g.fr k->j∈g'.fr k
 lv:∀k j,k<g.ks.length->j∈g.lv k->j∈g'.lv k
theorem Sub.refl(g:Gr):Sub g g:=⟨th _,⟨[],by simp⟩,fun _ _ _ h=>h,fun _ _ _ h=>h⟩
theorem Sub.trans{a b c:Gr}(h:Sub a b)(k:Sub b c):Sub a c:=by
 obtain⟨r,hr⟩:=h.ls;obtain⟨s,hs⟩:=k.ls;exact⟨ze h.len k.len,⟨r++s,by rw[hs,hr,tp]⟩,fun q j hq hj=>k.fr q j (sx hq h.len) (h.fr q j hq hj),fun q j hq hj=>k.lv q j (sx hq h.len) (h.lv q j hq hj)⟩
theorem Sub.nthL{g g':Gr}(h:Sub g g'){j:Nat}(hj:j<g.ls.length):j<g'.ls.length/\nth g'.ls j=nth g.ls j:=by
 obtain⟨r,hr⟩:=h.ls;rw[hr,aA,if_pos hj];exact⟨by simp;omega,rfl⟩
theorem Pt.mono{g g':Gr}(h:Sub g g'){a b:Nat}{u:List Int}(p:Pt g a u b):Pt g' a u b:=by
 induction p with
 |nil=>exact .nil _
 |eps h1 h2 _ ih=>exact .eps (sx h1 h.len) (h.fr _ _ h1 h2) ih
 |leaf h1 h2 h3 h4 _ ih=>
  obtain⟨e1,e2⟩:=h.nthL h2;exact .leaf (sx h1 h.len) e1 (h.lv _ _ h1 h3) (by rw[e2];exact h4) (by rw[e2];exact ih)
theorem aG(g:Gr):g.knot.ks.length=g.ks.length+1:=by simp[Gr.knot]
theorem aV(g:Gr)(a b:Nat):(g.free a b).ks.length=g.ks.length:=by simp[Gr.free]
theorem gy(g:Gr)(k c:Int)(a b:Nat):(g.leaf k c a b).ks.length=g.ks.length:=by simp[Gr.leaf]
theorem rP(g:Gr)(k:Nat):nth g.knot.ks k=if k<g.ks.length then nth g.ks k else([],[],0):=by
 unfold Gr.knot;rw[aA]
 split
 ·rfl
 by_cases h:k-g.ks.length=0
 ·rw[h,ar]
 rw[eS (by simp;omega)];rfl
theorem oq(g:Gr)(k:Nat):g.knot.fr k=if k<g.ks.length then g.fr k else []:=by unfold Gr.fr;rw[rP];split<;>rfl
theorem oo(g:Gr)(k:Nat):g.knot.lv k=if k<g.ks.length then g.lv k else []:=by unfold Gr.lv;rw[rP];split<;>rfl
theorem dL{g:Gr}{a b:Nat}(ha:a<g.ks.length)(k:Nat):(g.free a b).fr k=if k=a then g.fr a++[b]else g.fr k:=by
 unfold Gr.free Gr.fr;rw[aT ha];split<;>rfl
theorem oy{g:Gr}{a b:Nat}(ha:a<g.ks.length)(k:Nat):(g.free a b).lv k=g.lv k:=by
 unfold Gr.free Gr.lv;rw[aT ha];split
 ·rename_i h;rw[h]
 rfl
theorem oe{g:Gr}{x c:Int}{a b:Nat}(ha:a<g.ks.length)(k:Nat):(g.leaf x c a b).fr k=g.fr k:=by
 unfold Gr.leaf Gr.fr;rw[aT ha];split
 ·rename_i h;rw[h]
 rfl
theorem lR{g:Gr}{x c:Int}{a b:Nat}(ha:a<g.ks.length)(k:Nat):(g.leaf x c a b).lv k=if k=a then g.lv a++[g.ls.length+1]else g.lv k:=by
 unfold Gr.leaf Gr.lv;rw[aT ha];split<;>rfl
theorem jN(g:Gr)(x c:Int)(a b:Nat):(g.leaf x c a b).ls=g.ls++[(x,c,b)]:=rfl
theorem kL(g:Gr):Sub g g.knot:=⟨by rw[aG];omega,⟨[],by simp[Gr.knot]⟩,fun k j hk h=>by rw[oq,if_pos hk];exact h,fun k j hk h=>by rw[oo,if_pos hk];exact h⟩
theorem fp{g:Gr}{a b:Nat}(ha:a<g.ks.length):Sub g (g.free a b):=⟨by rw[aV];omega,⟨[],by simp[Gr.free]⟩,fun k j _ h=>by
 rw[dL ha];split
 ·rename_i e;subst e;exact JY _ h
 exact h,fun k j _ h=>by rw[oy ha];exact h⟩
theorem Dp{g:Gr}{x c:Int}{a b:Nat}(ha:a<g.ks.length):Sub g (g.leaf x c a b):=⟨by rw[gy];omega,⟨_,rfl⟩,fun k j _ h=>by rw[oe ha];exact h,fun k j _ h=>by
 rw[lR ha];split
 ·rename_i e;subst e;exact JY _ h
 exact h⟩
structure WF(g:Gr):Prop where
 fr:∀k j,k<g.ks.length->j∈g.fr k->j<g.ks.length
 lv:∀k j,k<g.ks.length->j∈g.lv k->1<=j/\j<=g.ls.length
 ls:∀j,j<g.ls.length->(nth g.ls j).2.2<g.ks.length
theorem WF.knot{g:Gr}(h:WF g):WF g.knot:=by
 have hl:=aG g;refine⟨fun k j hk hj=>?_,fun k j hk hj=>?_,fun j hj=>?_⟩
 ·rw[oq]at hj
  split at hj
  ·rename_i e;have:=h.fr k j e hj;omega
  simp at hj
 ·rw[oo]at hj
  split at hj
  ·rename_i e;exact h.lv k j e hj
  simp at hj
 have:=h.ls j hj;show(nth g.ls j).2.2<_;omega
theorem WF.free{g:Gr}(h:WF g){a b:Nat}(ha:a<g.ks.length)(hb:b<g.ks.length):WF (g.free a b):=by
 have hl:=aV g a b;refine⟨fun k j hk hj=>?_,fun k j hk hj=>?_,fun j hj=>?_⟩
 ·rw[hl]at hk ⊢;rw[dL ha]at hj
  split at hj
  ·rcases sP.1 hj with hj|hj
   ·exact h.fr a j ha hj
   rw[pR.1 hj];exact hb
  exact h.fr k j hk hj
 ·rw[hl]at hk;rw[oy ha]at hj;exact h.lv k j hk hj
 rw[hl];exact h.ls j hj
theorem WF.leaf{g:Gr}(h:WF g){x c:Int}{a b:Nat}(ha:a<g.ks.length)(hb:b<g.ks.length):WF (g.leaf x c a b):=by
 have hl:=gy g x c a b;have h2:(g.leaf x c a b).ls.length=g.ls.length+1:=by simp[Gr.leaf]
 refine⟨fun k j hk hj=>?_,fun k j hk hj=>?_,fun j hj=>?_⟩
 ·rw[hl]at hk ⊢;rw[oe ha]at hj;exact h.fr k j hk hj
 ·rw[hl]at hk;rw[h2];rw[lR ha]at hj
  split at hj
  ·rcases sP.1 hj with hj|hj
   ·have:=h.lv a j ha hj;omega
   rw[pR.1 hj];omega
  have:=h.lv k j hk hj;omega
 rw[hl,jN,aA]
 split
 ·rename_i e;exact h.ls j e
 rw[h2]at hj;rw[show j-g.ls.length=0 from by omega,ar];exact hb
theorem yl(k:Int)(g:Gr)(i:Nat):(layO k g i).ks.length=g.ks.length:=by
 unfold layO;split<;>split<;>simp only[aV]
theorem F4{k:Int}{g:Gr}{i:Nat}(h:WF g)(hi:i+1<g.ks.length):WF (layO k g i):=by
 unfold layO;split<;>split
 ·exact h
 ·exact h.free zo hi
 ·exact h.free hi zo
 exact(h.free zo hi).free (by rw[aV];exact hi) (by rw[aV];omega)
theorem yk{k:Int}{g:Gr}{i:Nat}(hi:i+1<g.ks.length):Sub g (layO k g i):=by
 unfold layO;split<;>split
 ·exact Sub.refl _
 ·exact fp zo
 ·exact fp hi
 exact(fp zo).trans (fp (by rw[aV];exact hi))
def bF(g:Gr)(a b:Nat):Gr:=(g.knot.knot.free a g.ks.length).free (g.ks.length+1) b
theorem dY(g:Gr)(a b:Nat):(bF g a b).ks.length=g.ks.length+2:=by unfold bF;rw[aV,aV,aG,aG]
theorem eR{g:Gr}(h:WF g){a b:Nat}(ha:a<g.ks.length)(hb:b<g.ks.length):WF (bF g a b):=by
 have h2:g.knot.knot.ks.length=g.ks.length+2:=by rw[aG,aG]
 exact(h.knot.knot.free zo zo).free (by rw[aV];omega) (by rw[aV];omega)
theorem zm{g:Gr}{a b:Nat}(ha:a<g.ks.length):Sub g (bF g a b):=by
 have h2:g.knot.knot.ks.length=g.ks.length+2:=by rw[aG,aG]
 exact(((kL g).trans (kL _)).trans (fp zo)).trans (fp (by rw[aV];omega))
mutual
theorem ct:∀(t:Nd) (a b:Nat) (g:Gr),WF g->a<g.ks.length->b<g.ks.length->WF (fy t a b g)/\Sub g (fy t a b g)
 |.mk k c l,a,b,g,h,ha,hb=>by
  unfold fy
  split
  ·exact vU l a b g h ha hb
  split
  ·exact vW l a b g h ha hb
  split
  ·have hl:=dY g a b;obtain⟨h1,h2⟩:=lS l g.ks.length (g.ks.length+1) (bF g a b) (eR h ha hb) zo zo;have:=h2.len;show WF (layO k (nj l g.ks.length (g.ks.length+1) (bF g a b)) g.ks.length)/\Sub g (layO k (nj l g.ks.length (g.ks.length+1) (bF g a b)) g.ks.length);exact⟨F4 h1 zo,((zm ha).trans h2).trans (yk zo)⟩
  split
  ·exact⟨h.free ha hb,fp ha⟩
  exact⟨h.leaf ha hb,Dp ha⟩
theorem vU:∀(l:List Nd) (a b:Nat) (g:Gr),WF g->a<g.ks.length->b<g.ks.length->WF (nh l a b g)/\Sub g (nh l a b g)
 |[],_,_,g,h,_,_=>⟨h,Sub.refl g⟩
 |t::r,a,b,g,h,ha,hb=>by
  unfold nh
  split
  ·exact ct t a b g h ha hb
  have hl:=aG g;obtain⟨h1,h2⟩:=ct t a g.ks.length g.knot h.knot zo zo;have:=h2.len;obtain⟨h3,h4⟩:=vU r g.ks.length b _ h1 zo zo;exact⟨h3,((kL g).trans h2).trans h4⟩
theorem vW:∀(l:List Nd) (a b:Nat) (g:Gr),WF g->a<g.ks.length->b<g.ks.length->WF (nn l a b g)/\Sub g (nn l a b g)
 |[],_,_,g,h,_,_=>⟨h,Sub.refl g⟩
 |t::r,a,b,g,h,ha,hb=>by
  unfold nn;obtain⟨h1,h2⟩:=ct t a b g h ha hb;have:=h2.len;obtain⟨h3,h4⟩:=vW r a b _ h1 zo zo;exact⟨h3,h2.trans h4⟩
theorem lS:∀(l:List Nd) (a b:Nat) (g:Gr),WF g->a<g.ks.length->b<g.ks.length->WF (nj l a b g)/\Sub g (nj l a b g)
 |[],_,_,g,h,_,_=>⟨h,Sub.refl g⟩
 |t::_,a,b,g,h,ha,hb=>by
  unfold nj;exact ct t a b g h ha hb
end
theorem nG{g:Gr}{L:List Int->Prop}{i o:Nat}(hL:∀u,L u->Pt g i u o)(hb:Pt g o [] i):∀ {v:List Int},StarP L v->Pt g o v o
 |_,.nil=>.nil _
 |_,.cons h1 h2=>(hb.trans (hL _ h1)).trans (nG hL hb h2)
mutual
theorem kJ:∀(t:Nd) (a b:Nat) (g:Gr),WF g->a<g.ks.length->b<g.ks.length->fG t=true->∀w,Lg t w->Pt (fy t a b g) a w b
 |.mk k c l,a,b,g,h,ha,hb,hs,w,hw=>by
  unfold fG at hs;simp only[rj]at hs;obtain⟨hs1,hs2⟩:=hs;unfold Lg at hw;unfold fy
  by_cases h4:k=4
  ·rw[if_pos h4]at hw hs1 ⊢;exact tY l a b g h ha hb hs2 (by intro e;rw[e]at hs1;simp at hs1) w hw
  rw[if_neg h4]at hw hs1 ⊢
  by_cases h5:k=5
  ·rw[if_pos h5]at hw ⊢;exact uc l a b g h ha hb hs2 w hw
  rw[if_neg h5]at hw ⊢
  by_cases h678:k=6\/k=7\/k=8
  ·rw[if_pos h678]at hs1 ⊢;have hl:=dY g a b;have hwf:=eR h ha hb;obtain⟨h1,h2⟩:=lS l g.ks.length (g.ks.length+1) (bF g a b) hwf zo zo;have hlen:=h2.len;have hkid:=Bw l g.ks.length (g.ks.length+1) (bF g a b) hwf zo zo hs2;have hk2:g.knot.knot.ks.length=g.ks.length+2:=by rw[aG,aG]
   show Pt (layO k (nj l g.ks.length (g.ks.length+1) (bF g a b)) g.ks.length) a w b
   have ein:Pt (bF g a b) a [] g.ks.length:=.eps zo (by
    unfold bF;rw[dL (by rw[aV];omega)]
    rw[if_neg zo,dL zo,if_pos rfl];simp) (.nil _)
   have eout:Pt (bF g a b) (g.ks.length+1) [] b:=.eps zo (by
    unfold bF
    rw[dL (by rw[aV];omega),if_pos rfl];simp) (.nil _)
   generalize bF g a b=g1 at *;generalize nj l g.ks.length (g.ks.length+1) g1=g2 at *;generalize g.ks.length=i at *;have hsub:Sub g2 (layO k g2 i):=yk zo;have e1:=(ein.mono h2).mono hsub;have e2:=(eout.mono h2).mono hsub;have ek:∀u,LgH l u->Pt (layO k g2 i) i u (i+1):=fun u hu=>(hkid u hu).mono hsub
   have eskip:k≠7->Pt (layO k g2 i) i [] (i+1):=fun hk=>.eps (by rw[yl];omega) (by
    unfold layO;rw[if_neg hk]
    split
    ·rw[dL zo,if_pos rfl];simp
    rw[dL (by rw[aV];omega),if_neg zo,dL zo,if_pos rfl];simp) (.nil _)
   have eback:k≠8->Pt (layO k g2 i) (i+1) [] i:=fun hk=>.eps (by rw[yl];omega) (by
    unfold layO
    rw[if_neg hk,dL (by split;omega;rw[aV];omega),if_pos rfl];simp) (.nil _)
   by_cases h6:k=6
   ·rw[if_pos h6]at hw;have:=((e1.trans (eskip zo)).trans (nG ek (eback zo) hw)).trans e2;simpa using this
   rw[if_neg h6]at hw
   by_cases h7:k=7
   ·rw[if_pos h7]at hw;obtain⟨u,v,rfl,hu,hv⟩:=hw;have:=((e1.trans (ek u hu)).trans (nG ek (eback zo) hv)).trans e2;simpa using this
   rw[if_neg h7,if_pos (show k=8 from by omega)]at hw
   rcases hw with rfl|hw
   ·exact(e1.trans (eskip h7)).trans e2
   have:=(e1.trans (ek w hw)).trans e2;simpa using this
  rw[if_neg zo,if_neg zo,if_neg zo]at hw;rw[if_neg h678]
  by_cases h9:k=9
  ·rw[if_pos h9]at hw ⊢;subst hw;exact .eps (by rw[aV];exact ha) (by rw[dL ha,if_pos rfl];simp) (.nil _)
  rw[if_neg h9]at hw ⊢;obtain⟨m,rfl,hm⟩:=hw;have hn:nth (g.leaf k c a b).ls g.ls.length=(k,c,b):=by rw[jN,aA,if_neg zo,L1,ar]
  refine .leaf (j:=g.ls.length) (by rw[gy];exact ha) (by rw[jN];simp) (by rw[lR ha,if_pos rfl];simp) (by rw[hn];exact hm) (by rw[hn];exact .nil _)
theorem tY:∀(l:List Nd) (a b:Nat) (g:Gr),WF g->a<g.ks.length->b<g.ks.length->bR l=true->l≠[]->∀w,LgS l w->Pt (nh l a b g) a w b
 |[],_,_,_,_,_,_,_,hn,_,_=>absurd rfl hn
 |t::r,a,b,g,h,ha,hb,hs,_,w,hw=>by
  unfold bR at hs;simp only[rj]at hs;unfold LgS at hw;obtain⟨u,v,rfl,hu,hv⟩:=hw;unfold nh
  split
  ·rename_i hr;obtain rfl:r=[]:=by simpa using hr
   obtain rfl:v=[]:=by unfold LgS at hv;exact hv
   rw[zI];exact kJ t a b g h ha hb hs.1 u hu
  rename_i hr;have hl:=aG g;have p1:=kJ t a g.ks.length g.knot h.knot zo zo hs.1 u hu;obtain⟨h1,h2⟩:=ct t a g.ks.length g.knot h.knot zo zo;have:=h2.len;have p2:=tY r g.ks.length b _ h1 zo zo hs.2 (by intro e;rw[e]at hr;simp at hr) v hv;exact(p1.mono (vU r g.ks.length b _ h1 zo zo).2).trans p2
theorem uc:∀(l:List Nd) (a b:Nat) (g:Gr),WF g->a<g.ks.length->b<g.ks.length->bR l=true->∀w,LgA l w->Pt (nn l a b g) a w b
 |[],_,_,_,_,_,_,_,_,hw=>by unfold LgA at hw;exact hw.elim
 |t::r,a,b,g,h,ha,hb,hs,w,hw=>by
  unfold bR at hs;simp only[rj]at hs;unfold LgA at hw;unfold nn;obtain⟨h1,h2⟩:=ct t a b g h ha hb;have:=h2.len
  rcases hw with hw|hw
  ·exact(kJ t a b g h ha hb hs.1 w hw).mono (vW r a b _ h1 zo zo).2
  exact uc r a b _ h1 zo zo hs.2 w hw
theorem Bw:∀(l:List Nd) (a b:Nat) (g:Gr),WF g->a<g.ks.length->b<g.ks.length->bR l=true->∀w,LgH l w->Pt (nj l a b g) a w b
 |[],_,_,_,_,_,_,_,_,hw=>by unfold LgH at hw;exact hw.elim
 |t::_,a,b,g,h,ha,hb,hs,w,hw=>by
  unfold bR at hs;simp only[rj]at hs;unfold LgH at hw;unfold nj;exact kJ t a b g h ha hb hs.1 w hw
end
end
section
open Go.VL Go.Proofs
set_option maxRecDepth 10000
structure Lbl(g:Gr)(R:Nat->List Int->Prop):Prop where
 fr:∀k j,k<g.ks.length->j∈g.fr k->∀w,R j w->R k w
 lv:∀k j,k<g.ks.length->j<g.ls.length->j+1∈g.lv k->∀m w,cK (nth g.ls j).1 (nth g.ls j).2.1 m=true->R (nth g.ls j).2.2 w->R k (m::w)
theorem Lbl.path{g:Gr}{R:Nat->List Int->Prop}(h:Lbl g R){k q:Nat}{w:List Int}(p:Pt g k w q):∀v,R q v->R k (w++v):=by
 induction p with
 |nil=>exact fun v h=>h
 |eps h1 h2 _ ih=>exact fun v hv=>h.fr _ _ h1 h2 _ (ih v hv)
 |leaf h1 h2 h3 h4 _ ih=>exact fun v hv=>h.lv _ _ h1 h2 h3 _ _ h4 (ih v hv)
theorem Lbl.agree{g:Gr}{R R':Nat->List Int->Prop}(h:Lbl g R)(hw:WF g)(e:∀k,k<g.ks.length->R' k=R k):Lbl g R':=
 ⟨fun k j hk hj w=>by rw[e k hk,e j (hw.fr k j hk hj)];exact h.fr k j hk hj w,fun k j hk hj hl m w=>by rw[e k hk,e _ (hw.ls j hj)];exact h.lv k j hk hj hl m w⟩
theorem Lbl.knot{g:Gr}{R:Nat->List Int->Prop}(h:Lbl g R):Lbl g.knot R:=by
 refine⟨fun k j hk hj w=>?_,fun k j hk hj hl m w=>?_⟩
 ·rw[oq]at hj
  split at hj
  ·rename_i e;exact h.fr k j e hj w
  simp at hj
 rw[oo]at hl
 split at hl
 ·rename_i e;exact h.lv k j e hj hl m w
 simp at hl
theorem Lbl.free{g:Gr}{R:Nat->List Int->Prop}(h:Lbl g R){a b:Nat}(ha:a<g.ks.length)(a0:∀w,R b w->R a w):Lbl (g.free a b) R:=by
 refine⟨fun k j hk hj w=>?_,fun k j hk hj hl m w=>?_⟩
 ·rw[aV]at hk;rw[dL ha]at hj
  split at hj
  ·rename_i e;subst e
   rcases sP.1 hj with hj|hj
   ·exact h.fr k j ha hj w
   rw[pR.1 hj];exact a0 w
  exact h.fr k j hk hj w
 rw[aV]at hk;rw[oy ha]at hl;exact h.lv k j hk hj hl m w
theorem Lbl.leaf{g:Gr}{R:Nat->List Int->Prop}(h:Lbl g R)(hw:WF g){x c:Int}{a b:Nat}(ha:a<g.ks.length)(a1:∀m w,cK x c m=true->R b w->R a (m::w)):Lbl (g.leaf x c a b) R:=by
 refine⟨fun k j hk hj w=>?_,fun k j hk hj hl m w=>?_⟩
 ·rw[gy]at hk;rw[oe ha]at hj;exact h.fr k j hk hj w
 rw[gy]at hk;rw[lR ha]at hl;rw[jN,tR]at hj;simp only[Bh,Ib]at hj;rw[jN,aA]
 by_cases a0:j<g.ls.length
 ·rw[if_pos a0];refine h.lv k j hk a0 ?_ m w
  split at hl
  ·rename_i e;subst e
   rcases sP.1 hl with hl|hl
   ·exact hl
   have:=pR.1 hl;omega
  exact hl
 rw[if_neg a0,show j-g.ls.length=0 from by omega,ar]
 split at hl
 ·rename_i e;subst e;exact a1 m w
 have:=hw.lv k (j+1) hk hl;omega
def mM(R:Nat->List Int->Prop)(i:Nat)(X:List Int->Prop):Nat->List Int->Prop:=fun k=>if k=i then X else R k
theorem jC(R:Nat->List Int->Prop)(i:Nat)(X:List Int->Prop):mM R i X i=X:=if_pos rfl
theorem du{R:Nat->List Int->Prop}{i k:Nat}{X:List Int->Prop}(h:k≠i):mM R i X k=R k:=if_neg h
def Cat(L M:List Int->Prop):List Int->Prop:=fun w=>∃u v,w=u++v/\L u/\M v
def vE(k:Int)(L:List Int->Prop):List Int->Prop:=if k=8 then fun w=>w=[]else StarP L
def inL(k:Int)(L:List Int->Prop):List Int->Prop:=if k=6 then StarP L else if k=7 then Cat L (StarP L)else fun w=>w=[]\/L w
theorem C4(k:Int)(L:List Int->Prop):vE k L []:=by unfold vE;split;rfl;exact .nil
theorem GU{k:Int}(hk:k=6\/k=7\/k=8){L:List Int->Prop}{u v:List Int}(hu:L u)(hv:vE k L v):inL k L (u++v):=by
 unfold vE at hv;unfold inL
 rcases hk with rfl|rfl|rfl
 ·rw[if_neg zd]at hv;rw[if_pos rfl];exact .cons hu hv
 ·rw[if_neg zd]at hv;rw[if_neg zd,if_pos rfl];exact⟨u,v,rfl,hu,hv⟩
 rw[if_pos rfl]at hv;subst hv;rw[if_neg zd,if_neg zd,zI];exact .inr hu
theorem F6{k:Int}(hk:k=6\/k=7\/k=8)(h7:k≠7){L:List Int->Prop}{v:List Int}(hv:vE k L v):inL k L v:=by
 unfold vE at hv;unfold inL
 rcases hk with rfl|rfl|rfl
 ·rw[if_neg zd]at hv;rw[if_pos rfl];exact hv
 ·exact absurd rfl h7
 rw[if_pos rfl]at hv;rw[if_neg zd,if_neg zd];exact .inl hv
theorem C3{k:Int}(hk:k=6\/k=7\/k=8)(h8:k≠8){L:List Int->Prop}{v:List Int}(hv:inL k L v):vE k L v:=by
 unfold inL at hv;unfold vE;rw[if_neg h8]
 rcases hk with rfl|rfl|rfl
 ·rw[if_pos rfl]at hv;exact hv
 ·rw[if_neg zd,if_pos rfl]at hv;obtain⟨u,v,rfl,hu,hv⟩:=hv;exact .cons hu hv
 exact absurd rfl h8
theorem DR{k c:Int}{l:List Nd}(hk:k=6\/k=7\/k=8):Lg (.mk k c l)=inL k (LgH l):=by
 unfold Lg inL;funext w
 rcases hk with rfl|rfl|rfl
 ·rw[if_neg zd,if_neg zd,if_pos rfl,if_pos rfl]
 ·rw[if_neg zd,if_neg zd,if_neg zd,if_pos rfl,if_neg zd,if_pos rfl];rfl
 rw[if_neg zd,if_neg zd,if_neg zd,if_neg zd,if_pos rfl,if_neg zd,if_neg zd]
theorem Ds{k:Int}{g:Gr}{R:Nat->List Int->Prop}{i:Nat}(h:Lbl g R)(hi:i+1<g.ks.length)(h7:k≠7->∀w,R (i+1) w->R i w)(h8:k≠8->∀w,R i w->R (i+1) w):Lbl (layO k g i) R:=by
 unfold layO
 split
 ·split
  ·exact h
  rename_i q;exact h.free zo (h7 q)
 rename_i q8
 split
 ·exact h.free hi (h8 q8)
 rename_i q;exact(h.free zo (h7 q)).free (by rw[aV];exact hi) (h8 q8)
mutual
theorem iu:∀(t:Nd) (a b:Nat) (g:Gr) (R:Nat->List Int->Prop),WF g->a<g.ks.length->b<g.ks.length->Lbl g R->(∀u v,Lg t u->R b v->R a (u++v))->
  ∃R',(∀k,k<g.ks.length->R' k=R k)/\Lbl (fy t a b g) R'
 |.mk k c l,a,b,g,R,h,ha,hb,hL,hab=>by
  unfold fy
  by_cases h4:k=4
  ·rw[if_pos h4];refine qm l a b g R h ha hb hL fun u v hu hv=>hab u v ?_ hv
   unfold Lg;rw[if_pos h4];exact hu
  rw[if_neg h4]
  by_cases h5:k=5
  ·rw[if_pos h5];refine qn l a b g R h ha hb hL fun u v hu hv=>hab u v ?_ hv
   unfold Lg;rw[if_neg h4,if_pos h5];exact hu
  rw[if_neg h5]
  by_cases h678:k=6\/k=7\/k=8
  ·rw[if_pos h678];have hab':∀u v,inL k (LgH l) u->R b v->R a (u++v):=fun u v hu hv=>hab u v (by rw[DR h678];exact hu) hv
   have hl:=dY g a b;have hwf:=eR h ha hb;obtain⟨h1,h2⟩:=lS l g.ks.length (g.ks.length+1) (bF g a b) hwf zo zo;have hlen:=h2.len;show∃R',(∀q,q<g.ks.length->R' q=R q)/\Lbl (layO k (nj l g.ks.length (g.ks.length+1) (bF g a b)) g.ks.length) R';have hR1:Lbl (bF g a b) (mM (mM R g.ks.length (Cat (inL k (LgH l)) (R b))) (g.ks.length+1) (Cat (vE k (LgH l)) (R b))):=by
    have hk2:g.knot.knot.ks.length=g.ks.length+2:=by rw[aG,aG]
    have hg:=(hL.agree (R':=mM (mM R g.ks.length (Cat (inL k (LgH l)) (R b))) (g.ks.length+1) (Cat (vE k (LgH l)) (R b))) h fun q hq=>by rw[du zo,du zo]).knot.knot;refine(hg.free zo ?_).free (by rw[aV];omega) ?_
    ·intro w hw;rw[du zo,jC]at hw;rw[du zo,du zo];obtain⟨u,v,rfl,hu,hv⟩:=hw;exact hab' u v hu hv
    intro w hw;rw[du zo,du zo]at hw;rw[jC];exact⟨[],w,rfl,C4 _ _,hw⟩
   have hi1:(mM (mM R g.ks.length (Cat (inL k (LgH l)) (R b))) (g.ks.length+1) (Cat (vE k (LgH l)) (R b))) g.ks.length=Cat (inL k (LgH l)) (R b):=by rw[du zo,jC]
   have ho1:(mM (mM R g.ks.length (Cat (inL k (LgH l)) (R b))) (g.ks.length+1) (Cat (vE k (LgH l)) (R b))) (g.ks.length+1)=Cat (vE k (LgH l)) (R b):=jC _ _ _;have hold:∀q,q<g.ks.length->(mM (mM R g.ks.length (Cat (inL k (LgH l)) (R b))) (g.ks.length+1) (Cat (vE k (LgH l)) (R b))) q=R q:=fun q hq=>by rw[du zo,du zo]
   generalize mM (mM R g.ks.length (Cat (inL k (LgH l)) (R b))) (g.ks.length+1) (Cat (vE k (LgH l)) (R b))=R1 at *
   obtain⟨R2,e2,hR2⟩:=zz l g.ks.length (g.ks.length+1) (bF g a b) R1 hwf zo zo hR1 (fun u v hu hv=>by
    rw[ho1]at hv;rw[hi1];obtain⟨v1,v2,rfl,hv1,hv2⟩:=hv
    exact⟨u++v1,v2,by rw[tp],GU h678 hu hv1,hv2⟩)
   refine⟨R2,fun q hq=>by rw[e2 q zo,hold q hq],Ds hR2 zo ?_ ?_⟩
   ·intro h7 w;rw[e2 _ zo,e2 _ zo,hi1,ho1];rintro⟨u,v,rfl,hu,hv⟩;exact⟨u,v,rfl,F6 h678 h7 hu,hv⟩
   intro h8 w;rw[e2 _ zo,e2 _ zo,hi1,ho1];rintro⟨u,v,rfl,hu,hv⟩;exact⟨u,v,rfl,C3 h678 h8 hu,hv⟩
  rw[if_neg h678];have hg:Lg (.mk k c l)=fun w=>if k=9 then w=[]else∃m,w=[m]/\cK k c m=true:=by
   unfold Lg;funext w;rw[if_neg h4,if_neg h5,if_neg zo,if_neg zo,if_neg zo]
  rw[hg]at hab
  by_cases h9:k=9
  ·rw[if_pos h9];exact⟨R,fun _ _=>rfl,hL.free ha fun w hw=>hab [] w (by show(if k=9 then _ else _);rw[if_pos h9]) hw⟩
  rw[if_neg h9];exact⟨R,fun _ _=>rfl,hL.leaf h ha fun m w hm hw=>hab [m] w (by show(if k=9 then _ else _);rw[if_neg h9];exact⟨m,rfl,hm⟩) hw⟩
theorem qm:∀(l:List Nd) (a b:Nat) (g:Gr) (R:Nat->List Int->Prop),WF g->a<g.ks.length->b<g.ks.length->Lbl g R->(∀u v,LgS l u->R b v->R a (u++v))->
  ∃R',(∀k,k<g.ks.length->R' k=R k)/\Lbl (nh l a b g) R'
 |[],_,_,_,R,_,_,_,hL,_=>⟨R,fun _ _=>rfl,hL⟩
 |t::r,a,b,g,R,h,ha,hb,hL,hab=>by
  unfold LgS at hab;unfold nh
  split
  ·rename_i hr;obtain rfl:r=[]:=by simpa using hr
   exact iu t a b g R h ha hb hL fun u v hu hv=>hab u v ⟨u,[],by simp,hu,by unfold LgS;rfl⟩ hv
  have hl:=aG g;have hold:∀q,q<g.ks.length->mM R g.ks.length (Cat (LgS r) (R b)) q=R q:=fun q hq=>du zo
  have hmid:=jC R g.ks.length (Cat (LgS r) (R b));have hR1:=(hL.agree h hold).knot;generalize mM R g.ks.length (Cat (LgS r) (R b))=R1 at *
  obtain⟨R2,e2,hR2⟩:=iu t a g.ks.length g.knot R1 h.knot zo zo hR1 (fun u v hu hv=>by
   rw[hmid]at hv;rw[hold a ha];obtain⟨v1,v2,rfl,hv1,hv2⟩:=hv;rw[<-tp]
   exact hab (u++v1) v2 ⟨u,v1,rfl,hu,hv1⟩ hv2)
  obtain⟨h1,h2⟩:=ct t a g.ks.length g.knot h.knot zo zo;have hlen:=h2.len
  obtain⟨R3,e3,hR3⟩:=qm r g.ks.length b _ R2 h1 zo zo hR2 (fun u v hu hv=>by
   rw[e2 b zo,hold b hb]at hv;rw[e2 _ zo,hmid]
   exact⟨u,v,rfl,hu,hv⟩)
  exact⟨R3,fun q hq=>by rw[e3 q zo,e2 q zo,hold q hq],hR3⟩
theorem qn:∀(l:List Nd) (a b:Nat) (g:Gr) (R:Nat->List Int->Prop),WF g->a<g.ks.length->b<g.ks.length->Lbl g R->(∀u v,LgA l u->R b v->R a (u++v))->
  ∃R',(∀k,k<g.ks.length->R' k=R k)/\Lbl (nn l a b g) R'
 |[],_,_,_,R,_,_,_,hL,_=>⟨R,fun _ _=>rfl,hL⟩
 |t::r,a,b,g,R,h,ha,hb,hL,hab=>by
  unfold LgA at hab;unfold nn;obtain⟨R2,e2,hR2⟩:=iu t a b g R h ha hb hL fun u v hu hv=>hab u v (.inl hu) hv
  obtain⟨h1,h2⟩:=ct t a b g h ha hb;have hlen:=h2.len;obtain⟨R3,e3,hR3⟩:=qn r a b _ R2 h1 zo zo hR2 fun u v hu hv=>by
   rw[e2 b hb]at hv;rw[e2 a ha];exact hab u v (.inr hu) hv
  exact⟨R3,fun q hq=>by rw[e3 q zo,e2 q hq],hR3⟩
theorem zz:∀(l:List Nd) (a b:Nat) (g:Gr) (R:Nat->List Int->Prop),WF g->a<g.ks.length->b<g.ks.length->Lbl g R->(∀u v,LgH l u->R b v->R a (u++v))->
  ∃R',(∀k,k<g.ks.length->R' k=R k)/\Lbl (nj l a b g) R'
 |[],_,_,_,R,_,_,_,hL,_=>⟨R,fun _ _=>rfl,hL⟩
 |t::_,a,b,g,R,h,ha,hb,hL,hab=>by
  unfold LgH at hab;unfold nj;exact iu t a b g R h ha hb hL hab
end
theorem rQ(g:Gr)(k:Nat):g.knot.en k=if k<g.ks.length then g.en k else 0:=by unfold Gr.en;rw[rP];split<;>rfl
theorem xd{g:Gr}{a b:Nat}(ha:a<g.ks.length)(k:Nat):(g.free a b).en k=g.en k:=by
 unfold Gr.free Gr.en;rw[aT ha];split
 ·rename_i h;rw[h]
 rfl
theorem Bq{g:Gr}{x c:Int}{a b:Nat}(ha:a<g.ks.length)(k:Nat):(g.leaf x c a b).en k=g.en k:=by
 unfold Gr.leaf Gr.en;rw[aT ha];split
 ·rename_i h;rw[h]
 rfl
def SameEn(g g':Gr):Prop:=∀k,g'.en k=if k<g.ks.length then g.en k else 0
theorem G1{g:Gr}{k:Nat}(h:g.ks.length<=k):g.en k=0:=by unfold Gr.en;rw[eS h];rfl
theorem SameEn.refl(g:Gr):SameEn g g:=fun k=>by
 split
 ·rfl
 exact G1 zo
theorem SameEn.trans{a b c:Gr}(h:SameEn a b)(k:SameEn b c)(hl:a.ks.length<=b.ks.length):SameEn a c:=fun q=>by
 rw[k q]
 by_cases h1:q<a.ks.length
 ·rw[if_pos h1,if_pos zo,h q,if_pos h1]
 rw[if_neg h1]
 split
 ·rw[h q,if_neg h1]
 rfl
theorem om(g:Gr):SameEn g g.knot:=rQ g
theorem eU{g:Gr}{a b:Nat}(ha:a<g.ks.length):SameEn g (g.free a b):=fun k=>by
 rw[xd ha];exact SameEn.refl g k
theorem Bp{g:Gr}{x c:Int}{a b:Nat}(ha:a<g.ks.length):SameEn g (g.leaf x c a b):=fun k=>by
 rw[Bq ha];exact SameEn.refl g k
theorem Bu{k:Int}{g:Gr}{i:Nat}(hi:i+1<g.ks.length):SameEn g (layO k g i):=by
 unfold layO;split<;>split
 ·exact SameEn.refl _
 ·exact eU zo
 ·exact eU hi
 exact(eU zo).trans (eU (by rw[aV];exact hi)) (by rw[aV];omega)
theorem vF{g:Gr}{a b:Nat}(ha:a<g.ks.length):SameEn g (bF g a b):=by
 have h2:g.knot.knot.ks.length=g.ks.length+2:=by rw[aG,aG]
 unfold bF;exact(((om g).trans (om _) (by rw[aG];omega)).trans (eU zo) zo).trans (eU (by rw[aV];omega)) (by rw[aV];omega)
mutual
theorem iw:∀(t:Nd) (a b:Nat) (g:Gr),WF g->a<g.ks.length->b<g.ks.length->SameEn g (fy t a b g)
 |.mk k c l,a,b,g,h,ha,hb=>by
  unfold fy
  split
  ·exact tX l a b g h ha hb
  split
  ·exact tZ l a b g h ha hb
  split
  ·have hl:=dY g a b;have hwf:=eR h ha hb;obtain⟨h1,h2⟩:=lS l g.ks.length (g.ks.length+1) (bF g a b) hwf zo zo;have:=h2.len;exact((vF ha).trans (Bv l _ _ _ hwf zo zo) zo).trans (Bu zo) (by show g.ks.length<=(nj l g.ks.length (g.ks.length+1) (bF g a b)).ks.length;omega)
  split
  ·exact eU ha
  exact Bp ha
theorem tX:∀(l:List Nd) (a b:Nat) (g:Gr),WF g->a<g.ks.length->b<g.ks.length->SameEn g (nh l a b g)
 |[],_,_,g,_,_,_=>SameEn.refl g
 |t::r,a,b,g,h,ha,hb=>by
  unfold nh
  split
  ·exact iw t a b g h ha hb
  have hl:=aG g;obtain⟨h1,h2⟩:=ct t a g.ks.length g.knot h.knot zo zo;have:=h2.len;exact((om g).trans (iw t _ _ _ h.knot zo zo) zo).trans (tX r _ _ _ h1 zo zo) zo
theorem tZ:∀(l:List Nd) (a b:Nat) (g:Gr),WF g->a<g.ks.length->b<g.ks.length->SameEn g (nn l a b g)
 |[],_,_,g,_,_,_=>SameEn.refl g
 |t::r,a,b,g,h,ha,hb=>by
  unfold nn;obtain⟨h1,h2⟩:=ct t a b g h ha hb;have:=h2.len;exact(iw t a b g h ha hb).trans (tZ r _ _ _ h1 zo zo) zo
theorem Bv:∀(l:List Nd) (a b:Nat) (g:Gr),WF g->a<g.ks.length->b<g.ks.length->SameEn g (nj l a b g)
 |[],_,_,g,_,_,_=>SameEn.refl g
 |t::_,a,b,g,h,ha,hb=>by
  unfold nj;exact iw t a b g h ha hb
end
end
section
open Go.VL Go.Proofs
set_option maxRecDepth 10000
def Gr.mark(g:Gr)(a e:Nat):Gr:=⟨g.ls,g.ks.set a (g.fr a,g.lv a,e)⟩
theorem cz(g:Gr)(a e:Nat):(g.mark a e).ks.length=g.ks.length:=by simp[Gr.mark]
theorem nY{g:Gr}{a e:Nat}(ha:a<g.ks.length)(k:Nat):(g.mark a e).fr k=g.fr k:=by
 unfold Gr.mark Gr.fr;rw[aT ha];split
 ·rename_i h;rw[h]
 rfl
theorem nX{g:Gr}{a e:Nat}(ha:a<g.ks.length)(k:Nat):(g.mark a e).lv k=g.lv k:=by
 unfold Gr.mark Gr.lv;rw[aT ha];split
 ·rename_i h;rw[h]
 rfl
theorem Bk{g:Gr}{a e:Nat}(ha:a<g.ks.length)(k:Nat):(g.mark a e).en k=if k=a then e else g.en k:=by
 unfold Gr.mark Gr.en;rw[aT ha];split<;>rfl
theorem Dk{g:Gr}{a e:Nat}(ha:a<g.ks.length):Sub g (g.mark a e):=⟨by rw[cz];omega,⟨[],by simp[Gr.mark]⟩,fun k j _ h=>by rw[nY ha];exact h,fun k j _ h=>by rw[nX ha];exact h⟩
theorem WF.mark{g:Gr}(h:WF g){a e:Nat}(ha:a<g.ks.length):WF (g.mark a e):=
 ⟨fun k j hk hj=>by rw[cz]at hk ⊢;rw[nY ha]at hj;exact h.fr k j hk hj,fun k j hk hj=>by rw[cz]at hk;rw[nX ha]at hj;exact h.lv k j hk hj,fun j hj=>by rw[cz];exact h.ls j hj⟩
theorem Lbl.mark{g:Gr}{R:Nat->List Int->Prop}(h:Lbl g R){a e:Nat}(ha:a<g.ks.length):Lbl (g.mark a e) R:=
 ⟨fun k j hk hj=>by rw[cz]at hk;rw[nY ha]at hj;exact h.fr k j hk hj,fun k j hk hj hl=>by rw[cz]at hk;rw[nX ha]at hl;exact h.lv k j hk hj hl⟩
def dw(g:Gr)(i:Nat):Gr:=((g.knot.mark g.ks.length (i+1)).knot).free 0 (g.ks.length+1)
def mZ(x:Nd)(i:Nat)(g:Gr):Gr:=fy x (g.ks.length+1) g.ks.length (dw g i)
def bY:List Nd->Nat->Gr->Gr
 |[],_,g=>g
 |x::r,i,g=>bY r (i+1) (mZ x i g)
def g00:Gr:=⟨[],[([],[],0)]⟩
def jZ(xs:List Nd):Gr:=bY xs 0 g00
theorem dU(g:Gr)(i:Nat):(dw g i).ks.length=g.ks.length+2:=by unfold dw;rw[aV,aG,cz,aG]
theorem eO{g:Gr}(h:WF g)(h0:0<g.ks.length)(i:Nat):WF (dw g i)/\Sub g (dw g i):=by
 have h1:=aG g;have h2:=cz g.knot g.ks.length (i+1);have h3:=aG (g.knot.mark g.ks.length (i+1));refine⟨((h.knot.mark zo).knot).free zo zo,(((kL g).trans (Dk zo)).trans (kL _)).trans (fp zo)⟩
theorem AI{g:Gr}(h0:0<g.ks.length)(i k:Nat):(dw g i).en k=if k=g.ks.length then i+1 else if k<g.ks.length then g.en k else 0:=by
 have h1:=aG g;have h2:=cz g.knot g.ks.length (i+1);have h3:=aG (g.knot.mark g.ks.length (i+1));unfold dw;rw[xd zo,rQ,Bk zo,rQ]
 by_cases hk:k=g.ks.length
 ·simp only[if_pos hk];rw[if_pos zo]
 simp only[if_neg hk]
 by_cases a0:k<g.ks.length
 ·simp only[if_pos a0];rw[if_pos zo]
 simp only[if_neg a0];split<;>rfl
theorem lL{g:Gr}(h:WF g)(h0:0<g.ks.length)(x:Nd)(i:Nat):WF (mZ x i g)/\Sub g (mZ x i g)/\g.ks.length+2<=(mZ x i g).ks.length:=by
 obtain⟨h1,h2⟩:=eO h h0 i;have hl:=dU g i;obtain⟨h3,h4⟩:=ct x (g.ks.length+1) g.ks.length (dw g i) h1 zo zo;exact⟨h3,h2.trans h4,by have:=h4.len;unfold mZ;omega⟩
theorem rF{g:Gr}(h:WF g)(h0:0<g.ks.length)(x:Nd)(i k:Nat):(mZ x i g).en k=if k=g.ks.length then i+1 else if k<g.ks.length then g.en k else 0:=by
 obtain⟨h1,h2⟩:=eO h h0 i;have hl:=dU g i;have:=iw x (g.ks.length+1) g.ks.length (dw g i) h1 zo zo k;rw[AI h0,hl]at this;unfold mZ;rw[this]
 by_cases hk:k=g.ks.length
 ·rw[if_pos zo]
 rw[if_neg hk]
 by_cases a0:k<g.ks.length
 ·rw[if_pos zo]
 rw[if_neg a0];split<;>rfl
theorem si:∀(xs:List Nd) (i:Nat) (g:Gr),WF g->0<g.ks.length->WF (bY xs i g)/\Sub g (bY xs i g)/\∀k,k<g.ks.length->(bY xs i g).en k=g.en k
 |[],_,g,h,_=>⟨h,Sub.refl g,fun _ _=>rfl⟩
 |x::r,i,g,h,h0=>by
  obtain⟨h1,h2,h3⟩:=lL h h0 x i;obtain⟨h4,h5,h6⟩:=si r (i+1) (mZ x i g) h1 zo;refine⟨h4,h2.trans h5,fun k hk=>?_⟩;show(bY r (i+1) (mZ x i g)).en k=_;rw[h6 k zo,rF h h0,if_neg zo,if_pos hk]
theorem qs:WF g00:=by
 refine⟨fun k j hk hj=>?_,fun k j hk hj=>?_,fun j hj=>?_⟩
 ·have:k=0:=by simpa[g00]using hk
  subst this;simp[Gr.fr,g00,ar]at hj
 ·have:k=0:=by simpa[g00]using hk
  subst this;simp[Gr.lv,g00,ar]at hj
 simp[g00]at hj
theorem Ba(xs:List Nd):WF (jZ xs)/\0<(jZ xs).ks.length:=by
 obtain⟨h1,h2,_⟩:=si xs 0 g00 qs zd;exact⟨h1,sx zd h2.len⟩
theorem qD:∀(xs:List Nd) (i:Nat) (g:Gr),WF g->0<g.ks.length->bR xs=true->∀k w,k<xs.length->Lg (nth xs k) w->∃q,q<(bY xs i g).ks.length/\Pt (bY xs i g) 0 w q/\(bY xs i g).en q=i+k+1
 |[],_,_,_,_,_,k,w,hk,_=>absurd hk (uY _)
 |x::r,i,g,h,h0,hs,k,w,hk,hw=>by
  unfold bR at hs;simp only[rj]at hs;obtain⟨h1,h2,h3⟩:=lL h h0 x i;obtain⟨h4,h5,h6⟩:=si r (i+1) (mZ x i g) h1 zo;show∃q,q<(bY r (i+1) (mZ x i g)).ks.length/\_
  cases k with
  |zero=>
   rw[ar]at hw;have hl:=dU g i;obtain⟨g1,g2⟩:=eO h h0 i
   have p1:Pt (dw g i) 0 [] (g.ks.length+1):=.eps zo (by
    have e1:=aG g;have e2:=cz g.knot g.ks.length (i+1);have e3:=aG (g.knot.mark g.ks.length (i+1));unfold dw
    rw[dL zo,if_pos rfl];simp) (.nil _)
   have p2:=kJ x (g.ks.length+1) g.ks.length (dw g i) g1 zo zo hs.1 w hw;have p3:Pt (mZ x i g) 0 w g.ks.length:=by
    show Pt (fy x (g.ks.length+1) g.ks.length (dw g i)) 0 w g.ks.length;have:=(p1.mono (ct x (g.ks.length+1) g.ks.length (dw g i) g1 zo zo).2).trans p2;simpa using this
   have a0:=h5.len;exact⟨g.ks.length,zo,p3.mono h5,by show(bY r (i+1) (mZ x i g)).en _=_;rw[h6 _ zo,rF h h0,if_pos rfl]⟩
  |succ k=>
   rw[bd]at hw;obtain⟨q,q1,q2,q3⟩:=qD r (i+1) (mZ x i g) h1 zo hs.2 k w (by simpa using hk) hw;exact⟨q,q1,q2,by show(bY r (i+1) (mZ x i g)).en _=_;rw[q3];omega⟩
theorem oL(A:Nat->Prop):∀(xs:List Nd) (i:Nat) (g:Gr) (R:Nat->List Int->Prop),WF g->0<g.ks.length->Lbl g R->(∀k,k<g.ks.length->g.en k≠0->A (g.en k-1)->R k [])->(∀k w,k<xs.length->A (i+k)->Lg (nth xs k) w->R 0 w)->
  ∃R',(∀k,k<g.ks.length->R' k=R k)/\Lbl (bY xs i g) R'/\∀k,k<(bY xs i g).ks.length->(bY xs i g).en k≠0->A ((bY xs i g).en k-1)->R' k []
 |[],_,g,R,_,_,hL,hE,_=>⟨R,fun _ _=>rfl,hL,hE⟩
 |x::r,i,g,R,h,h0,hL,hE,hZ=>by
  obtain⟨h1,h2,h3⟩:=lL h h0 x i;obtain⟨g1,g2⟩:=eO h h0 i;have hl:=dU g i;have a0:∀q,q<g.ks.length->mM (mM R g.ks.length (fun w=>w=[]/\A i)) (g.ks.length+1) (fun w=>A i/\Lg x w) q=R q:=fun q hq=>by rw[du zo,du zo]
  have ho:mM (mM R g.ks.length (fun w=>w=[]/\A i)) (g.ks.length+1) (fun w=>A i/\Lg x w) g.ks.length=fun w=>w=[]/\A i:=by rw[du zo,jC]
  have hi:=jC (mM R g.ks.length (fun w=>w=[]/\A i)) (g.ks.length+1) (fun w=>A i/\Lg x w);have e1:=aG g;have e2:=cz g.knot g.ks.length (i+1);have e3:=aG (g.knot.mark g.ks.length (i+1));have a5:Lbl (dw g i) (mM (mM R g.ks.length (fun w=>w=[]/\A i)) (g.ks.length+1) (fun w=>A i/\Lg x w)):=by
   refine(((hL.agree h a0).knot.mark zo).knot).free zo fun w hw=>?_
   rw[hi]at hw;rw[a0 0 h0];exact hZ 0 w (by simp) hw.1 (by rw[ar];exact hw.2)
  generalize mM (mM R g.ks.length (fun w=>w=[]/\A i)) (g.ks.length+1) (fun w=>A i/\Lg x w)=R1 at *
  obtain⟨R2,f2,a4⟩:=iu x (g.ks.length+1) g.ks.length (dw g i) R1 g1 zo zo a5 (fun u v hu hv=>by
   rw[ho]at hv;rw[hi];obtain⟨rfl,hv⟩:=hv
   exact⟨hv,by rw[zI];exact hu⟩)
  obtain⟨R3,f3,a3,a6⟩:=oL A r (i+1) (mZ x i g) R2 h1 zo a4 (fun k hk hn ha=>by
   rw[rF h h0]at hn ha
   by_cases a2:k=g.ks.length
   ·rw[if_pos a2]at ha;rw[a2,f2 _ zo,ho];exact⟨rfl,ha⟩
   ·rw[if_neg a2]at hn ha
    by_cases a1:k<g.ks.length
    ·rw[if_pos a1]at hn ha;rw[f2 _ zo,a0 k a1];exact hE k a1 hn ha
    rw[if_neg a1]at hn;exact absurd rfl hn) (fun k w hk ha hw=>by
   rw[f2 _ zo,a0 0 h0]
   exact hZ (k+1) w (by simpa using hk) (by rw[show i+(k+1)=i+1+k from by omega];exact ha) (by rw[bd];exact hw))
  exact⟨R3,fun q hq=>by rw[f3 q zo,f2 q zo,a0 q hq],a3,a6⟩
theorem yc{xs:List Nd}(hs:bR xs=true)(i:Nat)(w:List Int):(∃q,q<(jZ xs).ks.length/\Pt (jZ xs) 0 w q/\(jZ xs).en q=i+1)↔i<xs.length/\Lg (nth xs i) w:=by
 constructor
 ·rintro⟨q,hq,hp,he⟩
  obtain⟨R,f,hL,hE⟩:=oL (fun k=>k=i) xs 0 g00 (fun _ w=>i<xs.length/\Lg (nth xs i) w) qs zd ⟨fun k j hk hj=>by
   have:k=0:=by simpa[g00]using hk
   subst this;simp[Gr.fr,g00,ar]at hj,fun k j hk hj=>by simp[g00]at hj⟩ (fun k hk hn=>by
   have:k=0:=by simpa[g00]using hk
   subst this;exact absurd (by simp[Gr.en,g00,ar]) hn) (fun k w hk ha hw=>by
   rw[vO]at ha;subst ha
   exact⟨hk,hw⟩)
  have h1:=hE q hq (by show(jZ xs).en q≠0;omega) (by show(jZ xs).en q-1=i;omega);have h2:=hL.path hp [] h1;rw[f 0 zd,zI]at h2;exact h2
 rintro⟨hi,hw⟩;obtain⟨q,q1,q2,q3⟩:=qD xs 0 g00 qs zd hs i w hi hw;exact⟨q,q1,q2,by show(bY xs 0 g00).en q=_;rw[q3];omega⟩
def dS:List Nat->List Nat->List Nat
 |l,[]=>l
 |l,x::r=>dS (if l.contains x then l else l++[x]) r
def ia(g:Gr):Nat->Nat->List Nat->List Nat
 |0,_,l=>l
 |n+1,i,l=>if i<l.length then ia g n (i+1) (dS l (g.fr (nth l i)))else l
def fj(g:Gr)(k:Nat):List Nat:=ia g g.ks.length 0 [k]
theorem jg:∀(r l:List Nat),∃s,dS l r=l++s
 |[],l=>⟨[],by simp[dS]⟩
 |x::r,l=>by
  unfold dS
  split
  ·exact jg r l
  obtain⟨s,hs⟩:=jg r (l++[x]);exact⟨x::s,by rw[hs];simp⟩
theorem ga:∀(r l:List Nat) (y:Nat),y∈dS l r↔y∈l\/y∈r
 |[],l,y=>by simp[dS]
 |x::r,l,y=>by
  unfold dS;rw[ga r]
  split
  ·rename_i h;have hx:x∈l:=by simpa using h
   constructor
   ·rintro(h1|h1)
    ·exact .inl h1
    exact .inr (by simp[h1])
   rintro(h1|h1)
   ·exact .inl h1
   rcases Db.1 h1 with rfl|h1
   ·exact .inl hx
   exact .inr h1
  simp[or_assoc]
theorem mF:∀(r l:List Nat),l.Nodup->(dS l r).Nodup
 |[],l,h=>h
 |x::r,l,h=>by
  unfold dS;refine mF r _ ?_
  split
  ·exact h
  rename_i hx;have hx:x∉l:=by simpa using hx
  exact Kl.2 ⟨h,by simp,fun a ha b hb=>by rw[pR.1 hb];intro e;exact hx (by rw[<-e];exact ha)⟩
theorem gu{n:Nat}{l:List Nat}(hn:l.Nodup)(h:∀x∈l,x<n):l.length<=n:=by
 have:=hn.length_le_of_subset (l₂:=AW n) fun x hx=>FJ.2 (h x hx)
 simpa using this
structure Rc(g:Gr)(k i:Nat)(l:List Nat):Prop where
 nd:l.Nodup
 lt:∀x∈l,x<g.ks.length
 fst:k∈l
 pt:∀x∈l,Pt g k [] x
 cl:∀j,j<i->j<l.length->∀y∈g.fr (nth l j),y∈l
theorem sy{g:Gr}{k:Nat}(hk:k<g.ks.length):Rc g k 0 [k]:=⟨by simp,by simpa using hk,by simp,fun x hx=>by rw[pR.1 hx];exact .nil _,fun j hj=>absurd hj (uY _)⟩
theorem Rc.step{g:Gr}(hw:WF g){k i:Nat}{l:List Nat}(h:Rc g k i l)(hi:i<l.length):Rc g k (i+1) (dS l (g.fr (nth l i))):=by
 have hm:=aO hi;obtain⟨s,hs⟩:=jg (g.fr (nth l i)) l;refine⟨mF _ _ h.nd,fun x hx=>?_,(ga _ _ _).2 (.inl h.fst),fun x hx=>?_,fun j hj a1 y hy=>?_⟩
 ·rcases(ga _ _ _).1 hx with hx|hx
  ·exact h.lt x hx
  exact hw.fr _ _ (h.lt _ hm) hx
 ·rcases(ga _ _ _).1 hx with hx|hx
  ·exact h.pt x hx
  have:=(h.pt _ hm).trans (.eps (h.lt _ hm) hx (.nil x));simpa using this
 have a0:j<l.length:=zo;rw[hs,aA,if_pos a0]at hy;refine(ga _ _ _).2 ?_
 by_cases e:j=i
 ·subst e;exact .inr hy
 exact .inl (h.cl j zo a0 y hy)
theorem Rc.done{g:Gr}{k i:Nat}{l:List Nat}(h:Rc g k i l)(hi:l.length<=i)(q:Nat):q∈l↔Pt g k [] q:=by
 refine⟨h.pt q,fun p=>?_⟩;have a0:∀ {a:Nat} {w:List Int} {b:Nat},Pt g a w b->w=[]->a∈l->b∈l:=fun p=>by
  induction p with
  |nil=>exact fun _ h=>h
  |eps h1 h2 _ ih=>
   intro e ha;obtain⟨j,hj,rfl⟩:=cI ha;exact ih e (h.cl j zo hj _ h2)
  |leaf=>intro e;cases e
 exact a0 p rfl h.fst
theorem nR{g:Gr}(hw:WF g){k:Nat}:∀(n i:Nat) (l:List Nat),Rc g k i l->g.ks.length<=i+n->∀q,q∈ia g n i l↔Pt g k [] q
 |0,i,l,h,hn,q=>h.done (ze (gu h.nd h.lt) zo) q
 |n+1,i,l,h,hn,q=>by
  unfold ia
  split
  ·rename_i hi;exact nR hw n (i+1) _ (h.step hw hi) zo q
  rename_i hi;exact h.done zo q
theorem gZ{g:Gr}(hw:WF g){k:Nat}(hk:k<g.ks.length)(q:Nat):q∈fj g k↔Pt g k [] q:=nR hw _ _ _ (sy hk) zo q
def Gr.pl(g:Gr)(p:Nat):Nat:=if p=0 then 0 else(nth g.ls (p-1)).2.2
def cO(g:Gr)(p:Nat):List Nat:=(fj g (g.pl p)).flatMap g.lv
def fq(g:Gr)(b k:Nat):Nat:=if g.en k=0 then b else b ||| 2^(g.en k-1)
def jD(g:Gr)(p:Nat):Nat:=(fj g (g.pl p)).foldl (fq g) 0
theorem pr{g:Gr}(hw:WF g)(h0:0<g.ks.length){p:Nat}(hp:p<=g.ls.length):g.pl p<g.ks.length:=by
 unfold Gr.pl
 split
 ·exact h0
 exact hw.ls _ zo
theorem nc{g:Gr}(hw:WF g)(h0:0<g.ks.length){p:Nat}(hp:p<=g.ls.length)(j:Nat):j∈cO g p↔∃k,Pt g (g.pl p) [] k/\j∈g.lv k:=by
 unfold cO;rw[Jv]
 constructor
 ·rintro⟨k,hk,hj⟩;exact⟨k,(gZ hw (pr hw h0 hp) k).1 hk,hj⟩
 rintro⟨k,hk,hj⟩;exact⟨k,(gZ hw (pr hw h0 hp) k).2 hk,hj⟩
theorem sS(g:Gr)(i:Nat):∀(l:List Nat) (b:Nat),(l.foldl (fq g) b).testBit i=(b.testBit i||l.any fun k=>decide (g.en k=i+1))
 |[],b=>by simp
 |k::l,b=>by
  rw[IJ,sS g i l,KN];unfold fq
  split
  ·rename_i h;rw[decide_eq_false zo,JM]
  rename_i h;rw[KL,Nat.testBit_two_pow,KT];congr 2;exact decide_eq_decide.2 zo
theorem xL{g:Gr}(hw:WF g)(h0:0<g.ks.length){p:Nat}(hp:p<=g.ls.length)(i:Nat):(jD g p).testBit i=true↔∃k,Pt g (g.pl p) [] k/\g.en k=i+1:=by
 unfold jD;rw[sS,KA,JM,Gi]
 constructor
 ·rintro⟨k,hk,hj⟩;exact⟨k,(gZ hw (pr hw h0 hp) k).1 hk,of_decide_eq_true hj⟩
 rintro⟨k,hk,hj⟩;exact⟨k,(gZ hw (pr hw h0 hp) k).2 hk,decide_eq_true hj⟩
theorem Cz{g:Gr}{a b:Nat}{w:List Int}{m:Int}:Pt g a (w++[m]) b↔∃k j,Pt g a w k/\k<g.ks.length/\j<g.ls.length/\j+1∈g.lv k/\cK (nth g.ls j).1 (nth g.ls j).2.1 m=true/\Pt g (nth g.ls j).2.2 [] b:=by
 constructor
 ·intro p;generalize hx:w++[m]=x at p
  induction p generalizing w with
  |nil=>simp at hx
  |eps h1 h2 _ ih=>
   obtain⟨k,j,q1,q⟩:=ih hx;exact⟨k,j,.eps h1 h2 q1,q⟩
  | @leaf k j q m' w' h1 h2 h3 h4 p ih=>
   cases w with
   |nil=>
    simp only[Dd,C9]at hx;obtain⟨rfl,rfl⟩:=hx;exact⟨k,j,.nil _,h1,h2,h3,h4,p⟩
   |cons c w=>
    simp only[yr,C9]at hx;obtain⟨rfl,hx⟩:=hx;obtain⟨k',j',q1,q⟩:=ih hx;exact⟨k',j',.leaf h1 h2 h3 h4 q1,q⟩
 rintro⟨k,j,p,h1,h2,h3,h4,q⟩;exact p.trans (.leaf h1 h2 h3 h4 q)
structure Stp(g:Gr)(se:Bool)(step:List Int->Int->List Int):Prop where
 mem:∀(s:List Int) (m x:Int),x∈step s m↔(se=true/\x=0)\/∃p∈s,∃j∈cO g p.toNat,x=(j:Int)/\cK (nth g.ls (j-1)).1 (nth g.ls (j-1)).2.1 m=true
def CE(step:List Int->Int->List Int)(w:List Int):List Int:=w.foldl step [0]
theorem AS(step:List Int->Int->List Int)(w:List Int)(m:Int):CE step (w++[m])=step (CE step w) m:=by unfold CE;rw[List.foldl_append];rfl
def inP(g:Gr)(s:List Int):Prop:=∀x∈s,0<=x/\x.toNat<=g.ls.length
theorem vk{g:Gr}(hw:WF g)(h0:0<g.ks.length){se:Bool}{step:List Int->Int->List Int}(h:Stp g se step){s:List Int}(hs:inP g s)(m:Int):inP g (step s m):=fun x hx=>by
 rcases(h.mem s m x).1 hx with⟨_,rfl⟩|⟨p,hp,j,hj,rfl,_⟩
 ·exact⟨JC _,vg _⟩
 obtain⟨k,hk,a2⟩:=(nc hw h0 (hs p hp).2 j).1 hj;have a1:k<g.ks.length:=(gZ hw (pr hw h0 (hs p hp).2) k).2 hk |> fun hm=>by
  have a0:∀ {a:Nat} {w:List Int} {b:Nat},Pt g a w b->a<g.ks.length->b<g.ks.length:=fun p=>by
   induction p with
   |nil=>exact fun h=>h
   |eps h1 h2 _ ih=>exact fun _=>ih (hw.fr _ _ h1 h2)
   |leaf h1 h2 h3 h4 _ ih=>exact fun _=>ih (hw.ls _ h2)
  exact a0 hk (pr hw h0 (hs p hp).2)
 have:=hw.lv k j a1 a2;exact⟨zo,by simp;omega⟩
theorem D0{g:Gr}(hw:WF g)(h0:0<g.ks.length){se:Bool}{step:List Int->Int->List Int}(h:Stp g se step)(w:List Int):inP g (CE step w):=by
 have a0:∀(w s:List Int),inP g s->inP g (w.foldl step s):=fun w=>by
  induction w with
  |nil=>exact fun s hs=>hs
  |cons m w ih=>exact fun s hs=>ih _ (vk hw h0 h hs m)
 exact a0 w [0] fun x hx=>by rw[pR.1 hx];exact⟨JC _,vg _⟩
theorem Pt.lt{g:Gr}(hw:WF g){a b:Nat}{w:List Int}(p:Pt g a w b):a<g.ks.length->b<g.ks.length:=by
 induction p with
 |nil=>exact fun h=>h
 |eps h1 h2 _ ih=>exact fun _=>ih (hw.fr _ _ h1 h2)
 |leaf h1 h2 h3 h4 _ ih=>exact fun _=>ih (hw.ls _ h2)
def QP(g:Gr)(se:Bool)(w:List Int)(k:Nat):Prop:=∃u v,w=u++v/\(se=true\/u=[])/\Pt g 0 v k
theorem tj{g:Gr}(hw:WF g)(h0:0<g.ks.length){se:Bool}{step:List Int->Int->List Int}(h:Stp g se step):∀(n:Nat) (w:List Int),w.length=n->∀k,(∃p∈CE step w,Pt g (g.pl p.toNat) [] k)↔QP g se w k
 |0,w,hn,k=>by
  obtain rfl:=rf hn
  constructor
  ·rintro⟨p,hp,q⟩;rw[show CE step []=[0]from rfl,pR]at hp;subst hp;exact⟨[],[],rfl,.inr rfl,q⟩
  rintro⟨u,v,e,_,q⟩;obtain⟨rfl,rfl⟩:=List.append_eq_nil_iff.1 e.symm;exact⟨0,by rw[show CE step []=[0]from rfl];simp,q⟩
 |n+1,w,hn,k=>by
  obtain⟨w,m,rfl⟩:∃w' m,w=w'++[m]:=⟨w.dropLast,w.getLast (by intro e;rw[e]at hn;simp at hn),(List.dropLast_concat_getLast _).symm⟩
  have ih:=tj hw h0 h n w (by simpa using hn);have a3:=D0 hw h0 h w;rw[AS]
  constructor
  ·rintro⟨p,hp,q⟩
   rcases(h.mem _ m p).1 hp with⟨a2,rfl⟩|⟨p',a0,j,hj,rfl,ht⟩
   ·exact⟨w++[m],[],by simp,.inl a2,q⟩
   obtain⟨k',a1,a5⟩:=(nc hw h0 (a3 p' a0).2 j).1 hj;have a4:=a1.lt hw (pr hw h0 (a3 p' a0).2);obtain⟨u,v,rfl,hu,hv⟩:=(ih k').1 ⟨p',a0,a1⟩;have a6:=hw.lv k' j a4 a5;refine⟨u,v++[m],by rw[tp],hu,Cz.2 ⟨k',j-1,hv,a4,zo,by rw[show j-1+1=j from by omega];exact a5,ht,?_⟩⟩;have e:g.pl ((j:Int)).toNat=(nth g.ls (j-1)).2.2:=by unfold Gr.pl;rw[if_neg (by simp;omega)];simp
   rw[<-e];exact q
  rintro⟨u,v,e,hu,hv⟩
  rcases List.eq_nil_or_concat v with rfl|⟨v,m',rfl⟩
  ·have a2:se=true:=by
    rcases hu with hu|hu
    ·exact hu
    subst hu;simp at e
   exact⟨0,(h.mem _ m 0).2 (.inl ⟨a2,rfl⟩),hv⟩
  rw[List.concat_eq_append]at e hv;rw[<-tp]at e;obtain⟨rfl,e2⟩:=List.append_inj' e rfl;obtain rfl:m=m':=by simpa using e2
  obtain⟨k',j,p1,p2,p3,p4,p5,p6⟩:=Cz.1 hv;obtain⟨p',a0,a1⟩:=(ih k').2 ⟨u,v,rfl,hu,p1⟩;refine⟨((j+1:Nat):Int),(h.mem _ m _).2 (.inr ⟨p',a0,j+1,(nc hw h0 (a3 p' a0).2 _).2 ⟨k',a1,p4⟩,rfl,by simpa using p5⟩),?_⟩;have e:g.pl (((j+1:Nat):Int)).toNat=(nth g.ls j).2.2:=by unfold Gr.pl;rw[if_neg (by simp)];simp
  rw[e];exact p6
def dp(g:Gr)(s:List Int):Nat:=s.foldl (fun b p=>b ||| jD g p.toNat) 0
theorem Au(g:Gr)(i:Nat)(s:List Int):(dp g s).testBit i=s.any fun p=>(jD g p.toNat).testBit i:=by
 have a0:∀(s:List Int) (b:Nat),(s.foldl (fun b p=>b ||| jD g p.toNat) b).testBit i=(b.testBit i||s.any fun p=>(jD g p.toNat).testBit i):=fun s=>by
  induction s with
  |nil=>intro b;simp
  |cons p s ih=>intro b;rw[IJ,ih,KL,KN,KT]
 unfold dp;rw[a0,KA,JM]
theorem yS{xs:List Nd}(hs:bR xs=true){se:Bool}{step:List Int->Int->List Int}(h:Stp (jZ xs) se step)(w:List Int)(i:Nat):
  (dp (jZ xs) (CE step w)).testBit i=true↔i<xs.length/\∃u v,w=u++v/\(se=true\/u=[])/\Lg (nth xs i) v:=by
 obtain⟨hw,h0⟩:=Ba xs;have a0:=D0 hw h0 h w;have hk:=tj hw h0 h w.length w rfl;rw[Au,Gi]
 constructor
 ·rintro⟨p,hp,hb⟩;obtain⟨k,a2,a1⟩:=(xL hw h0 (a0 p hp).2 i).1 hb;obtain⟨u,v,rfl,hu,hv⟩:=(hk k).1 ⟨p,hp,a2⟩;have:=(yc hs i v).1 ⟨k,hv.lt hw h0,hv,a1⟩;exact⟨this.1,u,v,rfl,hu,this.2⟩
 rintro⟨hi,u,v,rfl,hu,hv⟩;obtain⟨k,h1,h2,h3⟩:=(yc hs i v).2 ⟨hi,hv⟩;obtain⟨p,hp,hq⟩:=(hk k).2 ⟨u,v,rfl,hu,h2⟩;exact⟨p,hp,(xL hw h0 (a0 p hp).2 i).2 ⟨k,hq,h3⟩⟩
end
end Go.Proofs.YtlehnbkknlpkbaaGreatDoor
section
namespace Go.Proofs
open Go.Proofs.Tryz
open Go.Shelf
def mU:Kw:=⟨fun|189=>160|125=>185|257=>184|128=>204|129=>205|294=>195|295=>196|296=>197|297=>198|298=>199|299=>200|216=>201|300=>202|301=>203|328=>218|329=>219|330=>220|331=>221|332=>222|215=>223|343=>229|n=>n,fun|28=>22|3=>3|46=>95|0=>0|51=>285|53=>28|4=>4|183=>280|182=>279|131=>121|5=>5|9=>9|218=>294|222=>297|228=>301|229=>250|n=>n,fun|n=>n⟩
theorem mI:KY pN mU:={
 mixed:=by kernel_rfl
 f125:=func185.trans (congrArg some (by kernel_rfl))
 f128:=func204.trans (congrArg some (by kernel_rfl))
 f129:=func205.trans (congrArg some (by kernel_rfl))
 f189:=func160.trans (congrArg some (by kernel_rfl))
 f215:=func223.trans (congrArg some (by kernel_rfl))
 f216:=func201.trans (congrArg some (by kernel_rfl))
 f257:=func184.trans (congrArg some (by kernel_rfl))
 f294:=func195.trans (congrArg some (by kernel_rfl))
 f295:=func196.trans (congrArg some (by kernel_rfl))
 f296:=func197.trans (congrArg some (by kernel_rfl))
 f297:=func198.trans (congrArg some (by kernel_rfl))
 f298:=func199.trans (congrArg some (by kernel_rfl))
 f299:=func200.trans (congrArg some (by kernel_rfl))
 f300:=func202.trans (congrArg some (by kernel_rfl))
 f301:=func203.trans (congrArg some (by kernel_rfl))
 f328:=func218.trans (congrArg some (by kernel_rfl))
 f329:=func219.trans (congrArg some (by kernel_rfl))
 f330:=func220.trans (congrArg some (by kernel_rfl))
 f331:=func221.trans (congrArg some (by kernel_rfl))
 f332:=func222.trans (congrArg some (by kernel_rfl))
 f343:=func229.trans (congrArg some (by kernel_rfl))
 t0:=Lw
 a0:=isAgg0
 z0:=sizeOf0
 v0:=LC
 t3:=Lv
 a3:=LF
 z3:=uh
 v3:=LB
 t4:=Lu
 a4:=LD
 z4:=Gv
 v4:=LA
 t5:=underlying5
 a5:=isAgg5
 z5:=sizeOf5
 v5:=zeroValue5
 t9:=underlying9
 a9:=isAgg9
 z9:=Kj
 v9:=zeroValue9
 t28:=Ki
 a28:=Ll
 z28:=BG
 v28:=Lt
 t46:=underlying95
 a46:=isAgg95
 z46:=sizeOf95
 v46:=zeroValue95
 t51:=underlying285
 a51:=isAgg285
 z51:=sizeOf285
 v51:=zeroValue285
 t53:=underlying28
 a53:=isAgg28
 z53:=JR
 v53:=zeroValue28
 t131:=underlying121
 a131:=isAgg121
 z131:=sizeOf121
 v131:=zeroValue121
 t182:=underlying279
 a182:=isAgg279
 z182:=sizeOf279
 v182:=zeroValue279
 t183:=underlying280
 a183:=isAgg280
 z183:=sizeOf280
 v183:=zeroValue280
 t218:=underlying294
 a218:=isAgg294
 z218:=sizeOf294
 v218:=zeroValue294
 t222:=underlying297
 a222:=isAgg297
 z222:=sizeOf297
 v222:=zeroValue297
 t228:=underlying301
 a228:=isAgg301
 z228:=sizeOf301
 v228:=zeroValue301
 t229:=underlying250
 a229:=isAgg250
 z229:=sizeOf250
 v229:=zeroValue250 }
open Go.Sort Go.RowKit in
theorem Tryz.slices_Sort_int(blk off a1:Nat)(zs:List Int)(w:ln)(hH:Holds (C2 .i64) w blk off zs.toArray)(a0:blk<w.heap.size)(a2:zs.length<4611686018427387904):
 KZ pN 160 #[.slice (some ⟨blk,off,none⟩) zs.length a1] w fun e w'=>
  e=.returned (.tuple #[])/\∃n os,w'=grow (putRow (C2 .i64) (K7 w n) blk off (zs.mergeSort fun x y=>decide (x<=y)).toArray) os:=Any.slices_Sort_int mI blk off a1 zs w hH a0 a2
def lu:Kw:=⟨fun|20=>161|n=>n,fun|22=>22|3=>3|4=>4|0=>0|n=>n,fun|n=>n⟩
theorem jA:KR pN lu:={
 mixed:=by kernel_rfl
 f20:=func161.trans (congrArg some (by kernel_rfl))
 t0:=Lw
 a0:=isAgg0
 z0:=sizeOf0
 v0:=LC
 t3:=Lv
 a3:=LF
 z3:=uh
 v3:=LB
 t4:=Lu
 a4:=LD
 z4:=Gv
 v4:=LA
 t22:=Ki
 a22:=Ll
 z22:=BG
 v22:=Lt
 i3:=by kernel_rfl }
open Go.RowKit Go.Lib Go.Sort in
theorem Tryz.slices_Compact_int(blk off a0:Nat)(zs:List Int)(w:ln)(hH:Holds (C2 .i64) w blk off zs.toArray)(a2:zs.length<=9223372036854775807)(a1:zs.length<=a0):
 KZ pN 161 #[.slice (some ⟨blk,off,none⟩) zs.length a0] w fun e w'=>e=.returned (.slice (some ⟨blk,off,none⟩) (yP zs).length a0)/\∃q,w'=putRow (C2 .i64) (K7 w q) blk off (yP zs++Fu (zs.length-(yP zs).length) 0).toArray:=Any.slices_Compact_int jA blk off a0 zs w hH a2 a1
open Go.RowKit Go.Lib Go.Sort in
theorem Tryz.slices_Compact_int_empty(a:Option vX)(a0:Nat)(w:ln):
 KZ pN 161 #[.slice a 0 a0] w fun e w'=>e=.returned (.slice a 0 a0)/\w'=w:=Any.slices_Compact_int_empty jA a a0 w
open Go.RowKit Go.Sort in
theorem Tryz.slices_Sort_int_none(p:Option vX)(a0:Nat)(w:ln):
 KZ pN 160 #[.slice p 0 a0] w fun e w'=>e=.returned (.tuple #[])/\w'=w:=Any.slices_Sort_int_none mI p a0 w
end Go.Proofs
end
namespace Go.Proofs.YtlehnbkknlpkbaaGreatDoor
open Go.Proofs.Tryz
section
open Go.VL Go.Proofs
set_option maxRecDepth 10000
abbrev encI(c:Int):List ix:=[nI c]
abbrev aX(n:Nat):List ix:=[nI (n:Int)]
theorem Gl{w:ln}{v:ix}{l:List Nat}(h:Sl aX 1 w v l):Sl encI 1 w v (l.map fun(n:Nat)=>(n:Int)):=
 ⟨by simpa using h.shape,fun i hi j u hu=>h.cells i (by simpa using hi) j u (by simpa using hu)⟩
theorem zB(l:List Int)(c:Int)(sv:ix)(w:ln)(h:Sl encI 1 w sv l):Ret pN 190 [sv,nI c] w fun v w'=>v=nI (dQ (fun i=>c==nth l i) l.length)/\w'=w:=by
 have hl:=h.len_le;refine Ret.enter func190 ntmps190 rfl rfl ?_;refine zh ?_;refine zlp (fun x:Nat=>[(0,sv),(1,nI c),(7,nI l.length),(8,nI x)]) (fun x=>w) (fun x=>x<=l.length/\∀i,i<x->(c==nth l i)=false) (fun x=>l.length-x) 0 (⟨vg _,fun i hi=>absurd hi (uY i)⟩) ?_;rintro k ⟨hk,a1⟩;refine zh ?_;refine zC ?_ ?_
 ·intro a0;replace a0:k<l.length:=dT a0;have m1:=h.ld a0;refine zh ?_;refine zC ?_ ?_
  ·intro hy;refine zh ?_;refine ae rfl rfl (⟨by rw[cG (q:=fun i=>c==nth l i) a0 hy a1],rfl⟩)
  intro hy;refine zh ?_;refine zxd (k+1) (⟨a0,fun i hi=>(Nat.lt_succ_iff_lt_or_eq.1 hi).elim (a1 i) (fun e=>by rw[e];exact hy)⟩)
 intro a2;replace a2:l.length<=k:=dF a2;refine zh ?_;refine ae rfl rfl (⟨by rw[cE (q:=fun i=>c==nth l i) fun i hi=>a1 i zo],rfl⟩)
theorem sg(l:List Int)(c:Int)(sv:ix)(w:ln)(h:Sl encI 1 w sv l):Ret pN 170 [sv,nI c] w fun v w'=>v=.bool (decide (c∈l))/\w'=w:=by
 have he:anyN (fun i=>c==nth l i) l.length=decide (c∈l):=by
  rw[iG (p:=fun x=>c==x),KE];simp[Gi]
 refine Ret.enter func170 ntmps170 rfl rfl ?_;refine zh ?_
 refine zc call190 (zB l c sv w h) ?_;rintro v w9 ⟨rfl,a0⟩;rw[a0];clear a0 w9;refine zh ?_
 refine ae rfl rfl (⟨congrArg L0 (firstN_any.trans he),rfl⟩)
theorem sf(l:List Nat)(c:Nat)(sv:ix)(w:ln)(h:Sl aX 1 w sv l):Ret pN 170 [sv,nI (c:Nat)] w fun v w'=>v=.bool (l.contains c)/\w'=w:=by
 refine(sg _ c sv w (Gl h)).mono fun v w' ⟨h1,h2⟩=>⟨?_,h2⟩
 rw[h1];congr 1;rw[KE];simp only[decide_eq_true_eq,BW,List.contains_iff_mem]
 constructor
 ·rintro⟨a,ha,e⟩;have e:a=c:=zo;rw[<-e];exact ha
 exact fun hc=>⟨c,hc,rfl⟩
end
section
open Go.VL Go.Proofs Go.Sort
set_option maxRecDepth 10000
def gT(l:List Int):List Int:=l.mergeSort fun x y=>decide (x<=y)
theorem ei(l:List Int):(gT l).length=l.length:=List.length_mergeSort ..
theorem kP(l:List Int):(l.flatMap encI)=l.map (C2 .i64):=by induction l<;>simp_all[encI]
theorem Ao{O:Nat->Nat}{w:ln}{i g n:Nat}{os:Array Obj}(d:Array Int)(hi:i≠0)(ho:O g=i):Upd (fun k=>k=i) O w O (grow (putRow (C2 .i64) (K7 w n) g 0 d) os):=by
 obtain⟨h1,h2,h3,h4,h5⟩:=grownBy_sortedI (w:=w) (g:=g) (n:=n) (os:=os) d;exact⟨h1,h2,h3,h4,fun k hk hn=>h5 k hk (fun e=>hn (by rw[<-ho];congr 1;exact L9 e)),fun _ _=>rfl,fun _ h=>.inl h,fun e=>hi e.symm⟩
theorem kh{B:Nat}{O:Nat->Nat}{i:Nat}{v:ix}{l:List Int}{w:ln}(hR:Rng B O w)(hr:RowT encI 3 1 O w i v l)(hi:i≠0)(hl:l.length<=1000000):Ret pN 160 [v] w fun _ w'=>RowT encI 3 1 O w' i v (gT l)/\Upd (fun k=>k=i) O w O w'/\Rng B O w':=by
 rcases hr.1.row.2 with⟨rfl,h0⟩|⟨g,a6,a8,rfl,a7,hg,a2,a5,a4,ht⟩
 ·obtain rfl:l=[]:=rf h0;refine tJ (Tryz.slices_Sort_int_none none 0 w) fun e w' ⟨he,hw⟩=>?_
  subst he;subst hw;exact⟨by rw[rf (ei [])];exact hr,Upd.refl (fun e=>hi e.symm) _ _,hR⟩
 have a0:=hr.1.tag g rfl;rw[kP]at ht;have hH:=holds_of_blockI (ss:=l) hg (by simpa using ht);have a3:=bB hg;refine tJ (Tryz.slices_Sort_int g 0 a6 l w hH a3 zo) fun e w' ⟨he,n,os,hw⟩=>?_
 subst he;subst hw;have hU:=Ao (w:=w) (n:=n) (os:=os) (gT l).toArray hi a0;refine⟨⟨⟨?_,fun g' a1=>by simp[Fm]at a1;subst a1;exact a0⟩,fun _ _=>rfl⟩,hU,hR.upd hU⟩;have:=ownsRow_sortedI (w:=w) (n:=n) (os:=os) (base:=0) (ss:=l) (ts:=gT l) (ei l) (vg _) hg a2 a5 a4;rw[kP,ei];exact this
theorem zL(l:List Int):(yP l).length<=l.length:=by
 unfold yP DA;rw[KC];exact ze (JV _ _) (by simp)
theorem eW{B:Nat}{O:Nat->Nat}{i:Nat}{v:ix}{l:List Int}{w:ln}(hR:Rng B O w)(hr:RowT encI 3 1 O w i v l)(hi:i≠0)(hl:l.length<=1000000):Ret pN 161 [v] w fun u w'=>RowT encI 3 1 O w' i u (yP l)/\Upd (fun k=>k=i) O w O w'/\Rng B O w':=by
 rcases hr.1.row.2 with⟨rfl,h0⟩|⟨g,a4,a7,rfl,b0,hg,a5,a6,a',ht⟩
 ·obtain rfl:l=[]:=rf h0;refine tJ (Tryz.slices_Compact_int_empty none 0 w) fun e w' ⟨he,hw⟩=>?_
  subst he;subst hw;exact⟨hr,Upd.refl (fun e=>hi e.symm) _ _,hR⟩
 have a0:=hr.1.tag g rfl;rw[kP]at ht;have hH:=holds_of_blockI (ss:=l) hg (by simpa using ht);have a9:=zL l;refine tJ (Tryz.slices_Compact_int g 0 a4 l w hH zo a5) fun e w' ⟨he,n,hw⟩=>?_
 subst he;obtain⟨ts,a1⟩:∃ts,ts=yP l++Fu (l.length-(yP l).length) 0:=⟨_,rfl⟩
 rw[<-a1]at hw;have a8:ts.length=l.length:=by rw[a1];simp;omega
 have hU:=Ao (w:=w) (n:=n) (os:=#[]) ts.toArray hi a0;have a2:=heap_sortedI (n:=n) (os:=#[]) ts.toArray hg;rw[grow_empty,<-hw]at hU a2;refine⟨⟨⟨⟨by rw[kP];simp,.inr ⟨g,a4,_,rfl,vg _,a2,zo,a6,by simp[putCells];omega,?_⟩⟩,fun g' a3=>by simp[Fm]at a3;subst a3;exact a0⟩,fun _ _=>rfl⟩,hU,hR.upd hU⟩;have h1:=take_putCellsI a7 ts zo;have h2:=congrArg (Kr (yP l).length) h1;rw[List.take_take,JD zo]at h2;rw[kP,J4,h2,a1,JB,List.take_append_of_le_length (by simp),List.take_of_length_le (by simp)]
end
section
open Go.VL Go.Proofs
set_option maxRecDepth 10000
def qC(l:List Int):List Int:=yP (gT l)
structure Cmp(d:Array Int)(m:Nat)(r:List Int):Prop where
 mem:∀x,x∈r↔∃j,j<m/\d[j]! = x
 pw:r.Pairwise (· < ·)
theorem yA(d:Array Int)(hs:∀i j,i<=j->j<d.size->d[i]!<=d[j]!):∀m,m<=d.size->Cmp d m (DA d m)
 |0,_=>⟨fun x=>by simp[DA],by simp[DA]⟩
 |m+1,hm=>by
  have ih:=yA d hs m zo;rw[Lib.compactUpTo_succ]
  by_cases hk:KD d m=true
  ·rw[if_pos hk];refine⟨fun x=>?_,?_⟩
   ·rw[sP,ih.mem,pR]
    constructor
    ·rintro(⟨j,hj,e⟩|e)
     ·exact⟨j,zo,e⟩
     exact⟨m,zo,e.symm⟩
    rintro⟨j,hj,e⟩
    by_cases a0:j=m
    ·subst a0;exact .inr e.symm
    exact .inl ⟨j,zo,e⟩
   refine List.pairwise_append.2 ⟨ih.pw,by simp,fun a ha b hb=>?_⟩;rw[pR]at hb;subst hb;obtain⟨j,hj,rfl⟩:=(ih.mem a).1 ha;simp only[KD,decide_eq_true_eq]at hk;have h1:=hs j (m-1) zo zo;have h2:=hs (m-1) m zo zo
   rcases hk with hk|hk
   ·omega
   omega
  rw[if_neg hk,zI];refine⟨fun x=>?_,ih.pw⟩;rw[ih.mem]
  constructor
  ·rintro⟨j,hj,e⟩;exact⟨j,zo,e⟩
  rintro⟨j,hj,e⟩
  by_cases a0:j=m
  ·subst a0;simp only[KD,decide_eq_true_eq,not_or]at hk;obtain⟨h1,h2⟩:=hk;exact⟨j-1,zo,by rw[<-e];exact(qy fun a1=>h2 fun e2=>a1 e2.symm)⟩
  exact⟨j,zo,e⟩
theorem sY(l:List Int):(gT l).Pairwise (·<=·):=by
 have:=List.pairwise_mergeSort (le:=fun x y:Int=>decide (x<=y)) (fun a b c h1 h2=>by simp at h1 h2 ⊢;omega) (fun a b=>by simp;omega) l;exact this.imp fun h=>by simpa using h
theorem AJ(l:List Int)(x:Int):x∈gT l↔x∈l:=List.mem_mergeSort ..
theorem uD(l:List Int):(∀x,x∈qC l↔x∈l)/\(qC l).Pairwise (· < ·):=by
 have hp:=sY l;have a0:∀j,j<(gT l).length->(gT l).toArray[j]! = nth (gT l) j:=fun j hj=>by
  rw[aB hj,getElem!_pos _ j (by simpa using hj)];simp
 have h:=yA (gT l).toArray (fun i j a1 hj=>by
  have hj:j<(gT l).length:=by simpa using hj
  rw[a0 i zo,a0 j hj]
  by_cases e:i=j
  ·subst e;exact JC _
  have:=List.pairwise_iff_getElem.1 hp i j zo hj zo
  rw[aB zo,aB hj];exact this) (gT l).length (by simp)
 refine⟨fun x=>?_,h.pw⟩;show x∈DA _ _↔_;rw[h.mem,<-AJ l x]
 constructor
 ·rintro⟨j,hj,rfl⟩;rw[a0 j hj];exact aO hj
 intro hx;obtain⟨j,hj,rfl⟩:=cI hx;exact⟨j,hj,a0 j hj⟩
theorem uC(l:List Int)(x:Int):x∈qC l↔x∈l:=(uD l).1 x
theorem yB(l:List Int):(qC l).Pairwise (· < ·):=(uD l).2
theorem gW:∀ {a b:List Int},a.Pairwise (· < ·)->b.Pairwise (· < ·)->(∀x,x∈a↔x∈b)->a=b
 |[],[],_,_,_=>rfl
 |[],y::b,_,_,h=>absurd ((h y).2 (by simp)) (by simp)
 |x::a,[],_,_,h=>absurd ((h x).1 (by simp)) (by simp)
 |x::a,y::b,ha,hb,h=>by
  have a1:=Ka.1 ha;have a0:=Ka.1 hb;have e:x=y:=by
   have h1:=(h x).1 (by simp);have h2:=(h y).2 (by simp)
   rcases Db.1 h1 with h1|h1
   ·exact h1
   rcases Db.1 h2 with h2|h2
   ·exact h2.symm
   have:=a0.1 x h1;have:=a1.1 y h2;omega
  subst e;rw[gW a1.2 a0.2 fun z=>?_]
  constructor
  ·intro hz
   rcases Db.1 ((h z).1 (by simp[hz]))with e|e
   ·subst e;have:=a1.1 z hz;omega
   exact e
  intro hz
  rcases Db.1 ((h z).2 (by simp[hz]))with e|e
  ·subst e;have:=a0.1 z hz;omega
  exact e
theorem C0{a:List Int}(h:a.Pairwise (· < ·)){n:Nat}(hb:∀x∈a,0<=x/\x.toNat<n):a.length<=n:=by
 have hn:(a.map Int.toNat).Nodup:=by
  refine List.pairwise_map.2 (h.imp_of_mem fun {x y} hx hy a0=>?_);have:=hb x hx;have:=hb y hy;omega
 have:=gu hn (n:=n) fun x hx=>by
  obtain⟨y,hy,rfl⟩:=BW.1 hx;exact(hb y hy).2
 simpa using this
mutual
def dh:Nd->Nat
 |.mk k _ l=>if l.isEmpty=true/\k≠9 then 1 else bh l
def bh:List Nd->Nat
 |[]=>0
 |t::r=>dh t+bh r
end
mutual
/-- Parts stand where parts may stand. -/
def zA:Nd->Bool
 |.mk k _ l=>(if k=4\/k=5\/k=6\/k=7\/k=8 then !l.isEmpty else l.isEmpty)&&jO l
def jO:List Nd->Bool
 |[]=>true
 |t::r=>zA t&&jO r
end
mutual
theorem fT:∀(t:Nd) (a b:Nat) (g:Gr),zA t=true->fG t=true->(fy t a b g).ls.length=g.ls.length+dh t
 |.mk k c l,a,b,g,hk,hs=>by
  unfold zA at hk;unfold fG at hs;simp only[rj]at hk hs;obtain⟨hk1,hk2⟩:=hk;obtain⟨hs1,hs2⟩:=hs;unfold fy dh
  by_cases h4:k=4
  ·rw[if_pos zo]at hk1;rw[if_pos h4,oi l a b g hk2 hs2,if_neg (by rintro⟨e,_⟩;rw[e]at hk1;simp at hk1)]
  rw[if_neg h4]
  by_cases h5:k=5
  ·rw[if_pos zo]at hk1;rw[if_pos h5,oj l a b g hk2 hs2,if_neg (by rintro⟨e,_⟩;rw[e]at hk1;simp at hk1)]
  rw[if_neg h5]
  by_cases h678:k=6\/k=7\/k=8
  ·rw[if_pos zo]at hk1;rw[if_neg h4,if_pos h678]at hs1;have hO:∀(k:Int) (g:Gr) (i:Nat),(layO k g i).ls=g.ls:=fun k g i=>by unfold layO;split<;>split<;>rfl
   rw[if_pos h678,hO,vV l _ _ _ hk2 hs2 (of_decide_eq_true hs1),if_neg (by rintro⟨e,_⟩;rw[e]at hk1;simp at hk1)];rfl
  rw[if_neg h678];rw[if_neg zo]at hk1;have hl:l=[]:=by simpa using hk1
  subst hl
  by_cases h9:k=9
  ·rw[if_pos h9,if_neg (by rintro⟨_,e⟩;exact e h9)];rfl
  rw[if_neg h9,if_pos ⟨rfl,h9⟩];simp[Gr.leaf]
theorem oi:∀(l:List Nd) (a b:Nat) (g:Gr),jO l=true->bR l=true->(nh l a b g).ls.length=g.ls.length+bh l
 |[],_,_,g,_,_=>by simp[nh,bh]
 |t::r,a,b,g,hk,hs=>by
  unfold jO at hk;unfold bR at hs;simp only[rj]at hk hs;unfold nh bh
  split
  ·rename_i hr;have hr:r=[]:=by simpa using hr
   subst hr;rw[fT t a b g hk.1 hs.1];simp[bh]
  rw[oi r _ _ _ hk.2 hs.2,fT t _ _ _ hk.1 hs.1];show g.ls.length+_+_=_;omega
theorem oj:∀(l:List Nd) (a b:Nat) (g:Gr),jO l=true->bR l=true->(nn l a b g).ls.length=g.ls.length+bh l
 |[],_,_,g,_,_=>by simp[nn,bh]
 |t::r,a,b,g,hk,hs=>by
  unfold jO at hk;unfold bR at hs;simp only[rj]at hk hs;unfold nn bh;rw[oj r _ _ _ hk.2 hs.2,fT t _ _ _ hk.1 hs.1];omega
theorem vV:∀(l:List Nd) (a b:Nat) (g:Gr),jO l=true->bR l=true->l.length=1->(nj l a b g).ls.length=g.ls.length+bh l
 |[],_,_,g,_,_,h=>by simp at h
 |t::r,a,b,g,hk,hs,h=>by
  have hr:r=[]:=by simpa using h
  subst hr;unfold jO at hk;unfold bR at hs;simp only[rj]at hk hs;unfold nj;rw[fT t _ _ _ hk.1 hs.1];simp[bh]
end
theorem mC:∀(xs:List Nd) (i:Nat) (g:Gr),jO xs=true->bR xs=true->(bY xs i g).ls.length=g.ls.length+bh xs
 |[],_,g,_,_=>by simp[bY,bh]
 |x::r,i,g,hk,hs=>by
  unfold jO at hk;unfold bR at hs;simp only[rj]at hk hs;unfold bY bh;rw[mC r _ _ hk.2 hs.2,mZ,fT x _ _ _ hk.1 hs.1];show g.ls.length+_+_=_;omega
def vh(g:Gr):Nat:=(g.ks.map fun k=>k.2.1.length).sum
theorem qS(f:Kt->Nat):∀(l:List Kt) (a:Nat) (x:Kt),a<l.length->((l.set a x).map f).sum+f (nth l a)=(l.map f).sum+f x
 |[],a,_,h=>absurd h (uY a)
 |y::l,0,x,_=>by rw[ar];simp;omega
 |y::l,a+1,x,h=>by
  have:=qS f l a x (by simpa using h);rw[bd];simp only[List.set_cons_succ,ri,JL];omega
theorem Dv(g:Gr):vh g.knot=vh g:=by simp[vh,Gr.knot]
theorem Dy{g:Gr}{a b:Nat}(ha:a<g.ks.length):vh (g.free a b)=vh g:=by
 have:=qS (fun k=>k.2.1.length) g.ks a (g.fr a++[b],g.lv a,g.en a) ha;unfold vh Gr.free;simp only[Gr.lv]at this ⊢;omega
theorem Dj{g:Gr}{a b:Nat}(ha:a<g.ks.length):vh (g.mark a b)=vh g:=by
 have:=qS (fun k=>k.2.1.length) g.ks a (g.fr a,g.lv a,b) ha;unfold vh Gr.mark;simp only[Gr.lv]at this ⊢;omega
theorem Do{g:Gr}{x c:Int}{a b:Nat}(ha:a<g.ks.length):vh (g.leaf x c a b)=vh g+1:=by
 have:=qS (fun k=>k.2.1.length) g.ks a (g.fr a,g.lv a++[g.ls.length+1],g.en a) ha;unfold vh Gr.leaf;simp only[Gr.lv,tR,Bh,Ib]at this ⊢;omega
def Tot(g:Gr):Prop:=vh g=g.ls.length
theorem Tot.knot{g:Gr}(h:Tot g):Tot g.knot:=(Dv g).trans h
theorem Tot.free{g:Gr}(h:Tot g){a b:Nat}(ha:a<g.ks.length):Tot (g.free a b):=(Dy ha).trans h
theorem Tot.mark{g:Gr}(h:Tot g){a b:Nat}(ha:a<g.ks.length):Tot (g.mark a b):=(Dj ha).trans h
theorem Tot.leaf{g:Gr}(h:Tot g){x c:Int}{a b:Nat}(ha:a<g.ks.length):Tot (g.leaf x c a b):=by
 unfold Tot;rw[Do ha,jN];simp;exact h
theorem Tot.layO{g:Gr}(h:Tot g){k:Int}{i:Nat}(hi:i+1<g.ks.length):Tot (layO k g i):=by
 unfold Go.Proofs.YtlehnbkknlpkbaaGreatDoor.layO;split<;>split
 ·exact h
 ·exact h.free zo
 ·exact h.free hi
 exact(h.free zo).free (by rw[aV];exact hi)
mutual
theorem kK:∀(t:Nd) (a b:Nat) (g:Gr),WF g->a<g.ks.length->b<g.ks.length->Tot g->Tot (fy t a b g)
 |.mk k c l,a,b,g,h,ha,hb,hM=>by
  unfold fy
  split
  ·exact yj l a b g h ha hb hM
  split
  ·exact ym l a b g h ha hb hM
  split
  ·have hl:=dY g a b;have hwf:=eR h ha hb;obtain⟨h1,h2⟩:=lS l g.ks.length (g.ks.length+1) (bF g a b) hwf zo zo;have:=h2.len;have hk2:g.knot.knot.ks.length=g.ks.length+2:=by rw[aG,aG]
   have h3:=Dt l g.ks.length (g.ks.length+1) (bF g a b) hwf zo zo ((hM.knot.knot.free zo).free (by rw[aV];omega));exact h3.layO (by show _<(nj l g.ks.length (g.ks.length+1) (bF g a b)).ks.length;omega)
  split
  ·exact hM.free ha
  exact hM.leaf ha
theorem yj:∀(l:List Nd) (a b:Nat) (g:Gr),WF g->a<g.ks.length->b<g.ks.length->Tot g->Tot (nh l a b g)
 |[],_,_,g,_,_,_,hM=>hM
 |t::r,a,b,g,h,ha,hb,hM=>by
  unfold nh
  split
  ·exact kK t a b g h ha hb hM
  have hl:=aG g;obtain⟨h1,h2⟩:=ct t a g.ks.length g.knot h.knot zo zo;have:=h2.len;exact yj r _ _ _ h1 zo zo (kK t _ _ _ h.knot zo zo hM.knot)
theorem ym:∀(l:List Nd) (a b:Nat) (g:Gr),WF g->a<g.ks.length->b<g.ks.length->Tot g->Tot (nn l a b g)
 |[],_,_,g,_,_,_,hM=>hM
 |t::r,a,b,g,h,ha,hb,hM=>by
  unfold nn;obtain⟨h1,h2⟩:=ct t a b g h ha hb;have:=h2.len;exact ym r _ _ _ h1 zo zo (kK t a b g h ha hb hM)
theorem Dt:∀(l:List Nd) (a b:Nat) (g:Gr),WF g->a<g.ks.length->b<g.ks.length->Tot g->Tot (nj l a b g)
 |[],_,_,g,_,_,_,hM=>hM
 |t::_,a,b,g,h,ha,hb,hM=>by
  unfold nj;exact kK t a b g h ha hb hM
end
theorem C5{g:Gr}(h:WF g)(h0:0<g.ks.length)(x:Nd)(i:Nat)(ht:Tot g):Tot (mZ x i g):=by
 have e1:=aG g;have e2:=cz g.knot g.ks.length (i+1);have e3:=aG (g.knot.mark g.ks.length (i+1));have hl:=dU g i;exact kK x _ _ _ (eO h h0 i).1 zo zo (((ht.knot.mark zo).knot).free zo)
theorem uF:∀(xs:List Nd) (i:Nat) (g:Gr),WF g->0<g.ks.length->Tot g->Tot (bY xs i g)
 |[],_,_,_,_,ht=>ht
 |x::r,i,g,h,h0,ht=>by
  obtain⟨h1,h2,h3⟩:=lL h h0 x i;exact uF r (i+1) _ h1 zo (C5 h h0 x i ht)
theorem qT(f:Kt->Nat)(l:List Kt):(l.map f).sum=((AW l.length).map fun i=>f (nth l i)).sum:=by
 congr 1;apply List.ext_getElem
 ·simp
 intro i h1 h2;simp only[List.getElem_map,List.getElem_range];rw[aB (by simpa using h1)]
theorem AF(f:Nat->Nat)(n:Nat):∀(l:List Nat),l.Nodup->(l.map f).sum<=((l.filter fun x=>x != n).map f).sum+f n
 |[],_=>by simp
 |a::l,h=>by
  have h':=List.nodup_cons.1 h
  by_cases e:a=n
  ·subst e;have hf:(l.filter fun x=>x != a)=l:=List.filter_eq_self.2 fun x hx=>by
    simp only[bne_iff_ne,ne_eq];intro e;exact h'.1 (by rw[<-e];exact hx)
   rw[List.filter_cons_of_neg (by simp),hf];simp;omega
  have:=AF f n l h'.2;rw[List.filter_cons_of_pos (by simpa using e)];simp only[ri,JL];omega
theorem sV(f:Nat->Nat):∀(n:Nat) (l:List Nat),l.Nodup->(∀x∈l,x<n)->(l.map f).sum<=((AW n).map f).sum
 |0,l,_,h=>by
  have:l=[]:=by cases l with
   |nil=>rfl
   |cons a r=>exact absurd (h a (by simp)) (uY _)
  subst this;simp
 |n+1,l,hn,h=>by
  have h1:=AF f n l hn;have h2:=sV f n (l.filter fun x=>x != n) (hn.filter _) fun x hx=>by
   have hx:=I4.1 hx;have:=h x hx.1;have:x≠n:=by simpa using hx.2
   omega
  rw[List.range_succ,JB,List.sum_append];simp only[ri,tG,JL,List.sum_nil];omega
theorem vx{g:Gr}(hw:WF g){k:Nat}(hk:k<g.ks.length):(fj g k).Nodup/\∀x∈fj g k,x<g.ks.length:=by
 have a0:∀(n i:Nat) (l:List Nat),Rc g k i l->(ia g n i l).Nodup/\∀x∈ia g n i l,x<g.ks.length:=fun n=>by
  induction n with
  |zero=>exact fun i l h=>⟨h.nd,h.lt⟩
  |succ n ih=>
   intro i l h;unfold ia
   split
   ·rename_i hi;exact ih _ _ (h.step hw hi)
   exact⟨h.nd,h.lt⟩
 exact a0 _ _ _ (sy hk)
theorem uk(f:Nat->List Nat):∀(l:List Nat),(l.flatMap f).length=(l.map fun k=>(f k).length).sum
 |[]=>rfl
 |a::l=>by simp
theorem yd{g:Gr}(hw:WF g)(ht:Tot g){p:Nat}(hp:g.pl p<g.ks.length):(cO g p).length<=g.ls.length:=by
 obtain⟨h1,h2⟩:=vx hw hp;unfold cO;rw[uk];have:=sV (fun k=>(g.lv k).length) g.ks.length _ h1 h2;have e:((AW g.ks.length).map fun k=>(g.lv k).length).sum=vh g:=(qT (fun k=>k.2.1.length) g.ks).symm;rw[e,ht]at this;exact this
def GM(se:Bool)(g:Gr)(s:List Int)(m:Int):List Int:=
 (if se=true then [0]else [])++s.flatMap fun p=>((cO g p.toNat).filter fun j=>cK (nth g.ls (j-1)).1 (nth g.ls (j-1)).2.1 m).map fun(j:Nat)=>(j:Int)
def cM(se:Bool)(g:Gr)(s:List Int)(m:Int):List Int:=qC (GM se g s m)
theorem nF(se:Bool)(g:Gr):Stp g se (cM se g):=⟨fun s m x=>by
 unfold cM GM;rw[uC,sP,Jv]
 constructor
 ·rintro(h|⟨p,hp,h⟩)
  ·cases se with
   |true=>rw[if_pos rfl]at h;exact .inl ⟨rfl,pR.1 h⟩
   |false=>rw[if_neg zd]at h;simp at h
  obtain⟨j,hj,rfl⟩:=BW.1 h;obtain⟨h1,h2⟩:=I4.1 hj;exact .inr ⟨p,hp,j,h1,rfl,h2⟩
 rintro(⟨h,rfl⟩|⟨p,hp,j,h1,rfl,h2⟩)
 ·rw[if_pos h];exact .inl (by simp)
 exact .inr ⟨p,hp,BW.2 ⟨j,I4.2 ⟨h1,h2⟩,rfl⟩⟩⟩
theorem CS{se:Bool}{g:Gr}(hw:WF g)(h0:0<g.ks.length){s:List Int}(hs:inP g s)(m:Int):(cM se g s m).length<=g.ls.length+1:=
 C0 (yB _) fun x hx=>by have:=vk hw h0 (nF se g) hs m x hx;exact⟨this.1,zo⟩
theorem FL{se:Bool}{g:Gr}(hw:WF g)(h0:0<g.ks.length)(ht:Tot g){m:Int}:∀ {s:List Int},inP g s->(GM se g s m).length<=1+s.length*g.ls.length:=fun {s} hs=>by
 have a0:∀(s:List Int),inP g s->(s.flatMap fun p=>((cO g p.toNat).filter fun j=>cK (nth g.ls (j-1)).1 (nth g.ls (j-1)).2.1 m).map fun(j:Nat)=>(j:Int)).length<=s.length*g.ls.length:=fun s=>by
  induction s with
  |nil=>intro _;simp
  |cons p s ih=>
   intro h;have h1:=ih fun x hx=>h x (by simp[hx])
   have h2:=yd hw ht (pr hw h0 (h p (by simp)).2);have h3:=JV (fun j=>cK (nth g.ls (j-1)).1 (nth g.ls (j-1)).2.1 m) (cO g p.toNat);simp only[As,tR,KC,Bh,J5,Nat.one_mul];omega
 have:=a0 s hs;unfold GM;rw[tR]
 split
 ·rw[List.length_singleton];omega
 rw[Ib];omega
end
section
open Go.VL Go.Proofs
set_option maxRecDepth 10000
def CI(S:List (List Int))(s:List Int):Option Nat:=S.findIdx? (· == s)
def CG(S:List (List Int))(s:List Int):Nat:=(CI S s).getD S.length
def rH(S:List (List Int))(s:List Int):List (List Int):=if(CI S s).isSome=true then S else S++[s]
theorem BB{S:List (List Int)}{s:List Int}{k:Nat}(h:CI S s=some k):k<S.length/\nth S k=s:=by
 obtain⟨h1,h2,_⟩:=List.findIdx?_eq_some_iff_getElem.1 h;exact⟨h1,by rw[aB h1];simpa using h2⟩
theorem ya(S:List (List Int))(s:List Int):∃r,rH S s=S++r:=by
 unfold rH
 split
 ·exact⟨[],by simp⟩
 exact⟨_,rfl⟩
theorem FS(S:List (List Int))(s:List Int):CG S s<(rH S s).length/\nth (rH S s) (CG S s)=s:=by
 unfold CG rH
 cases h:CI S s with
 |some k=>exact BB h
 |none=>
  simp only[Option.getD_none,Option.isSome_none,Kd,if_false];exact⟨by simp,by rw[aA,if_neg zo,L1,ar]⟩
theorem C7(S:List (List Int))(s:List Int):S.length<=(rH S s).length/\(rH S s).length<=S.length+1:=by
 unfold rH
 split
 ·omega
 simp
theorem C6{S:List (List Int)}{s:List Int}{k:Nat}(h:k<S.length):nth (rH S s) k=nth S k:=by
 obtain⟨r,hr⟩:=ya S s;rw[hr,aA,if_pos h]
def dC(step:List Int->Int->List Int)(s:List Int)(S:List (List Int)):Nat->List (List Int)×List Nat
 |0=>(S,[])
 |m+1=>(rH (dC step s S m).1 (step s (m:Nat)),(dC step s S m).2++[CG (dC step s S m).1 (step s (m:Nat))])
structure RowI(step:List Int->Int->List Int)(s:List Int)(S S':List (List Int))(r:List Nat)(m:Nat):Prop where
 pre:∃q,S'=S++q
 top:S'.length<=S.length+m
 len:r.length=m
 lt:∀j,j<m->nth r j<S'.length/\nth S' (nth r j)=step s (j:Nat)
 mem:∀x∈S',x∈S\/∃j:Nat,j<m/\x=step s (j:Nat)
theorem kB(step:List Int->Int->List Int)(s:List Int)(S:List (List Int)):∀m,RowI step s S (dC step s S m).1 (dC step s S m).2 m
 |0=>⟨⟨[],by simp[dC]⟩,by simp[dC],rfl,fun j hj=>absurd hj (uY j),fun x hx=>.inl hx⟩
 |m+1=>by
  have ih:=kB step s S m;unfold dC;generalize dC step s S m=R at *;obtain⟨S1,r⟩:=R;dsimp only at ih ⊢;obtain⟨q,hq⟩:=ih.pre;obtain⟨q2,a4⟩:=ya S1 (step s (m:Nat));have a5:=FS S1 (step s (m:Nat));have hl:=C7 S1 (step s (m:Nat));have a0:=ih.top;have a3:=ih.len;refine⟨⟨q++q2,by rw[a4,hq,tp]⟩,zo,by simp[a3],fun j hj=>?_,fun x hx=>?_⟩
  ·rw[aA]
   by_cases e:j<r.length
   ·rw[if_pos e];obtain⟨a1,a2⟩:=ih.lt j zo;exact⟨zo,by rw[C6 a1];exact a2⟩
   rw[if_neg e,show j-r.length=0 from by omega,ar];obtain rfl:j=m:=zo;exact a5
  unfold rH at hx
  split at hx
  ·rcases ih.mem x hx with h|⟨j,hj,e⟩
   ·exact .inl h
   exact .inr ⟨j,zo,e⟩
  rcases sP.1 hx with hx|hx
  ·rcases ih.mem x hx with h|⟨j,hj,e⟩
   ·exact .inl h
   exact .inr ⟨j,zo,e⟩
  exact .inr ⟨m,zo,pR.1 hx⟩
def Ge(step:List Int->Int->List Int)(tells:List Int->Nat):Nat->Nat->List (List Int)->List (List Nat)->List Nat->Option (List (List Nat)×List Nat)
 |0,_,_,_,_=>none
 |n+1,i,S,rows,tls=>
  if i<S.length then
   if 1000<(dC step (nth S i) S 37).1.length then none
   else Ge step tells n (i+1) (dC step (nth S i) S 37).1 (rows++[(dC step (nth S i) S 37).2]) (tls++[tells (nth S i)])
  else some (rows,tls)
def DC(step:List Int->Int->List Int)(a0:List Int->Nat):Option (List (List Nat)×List Nat):=Ge step a0 1002 0 [[0]] [] []
structure DI(step:List Int->Int->List Int)(tells:List Int->Nat)(i:Nat)(S:List (List Int))(rows:List (List Nat))(tls:List Nat):Prop where
 le:i<=S.length
 rl:rows.length=i
 tl:tls.length=i
 p0:0<S.length
 fst:nth S 0=[0]
 len:S.length<=1000
 row:∀j,j<i->(nth rows j).length=37/\∀m:Nat,m<37->nth (nth rows j) m<S.length/\nth S (nth (nth rows j) m)=step (nth S j) (m:Nat)
 tel:∀j,j<i->nth tls j=tells (nth S j)
theorem yO(step:List Int->Int->List Int)(a0:List Int->Nat):DI step a0 0 [[0]] [] []:=⟨zd,rfl,rfl,zd,ar _ _,zd,fun j hj=>absurd hj (uY j),fun j hj=>absurd hj (uY j)⟩
theorem DI.next{step:List Int->Int->List Int}{a3:List Int->Nat}{i:Nat}{S:List (List Int)}{rows:List (List Nat)}{a4:List Nat}(h:DI step a3 i S rows a4)(hi:i<S.length)(hl:(dC step (nth S i) S 37).1.length<=1000):
  DI step a3 (i+1) (dC step (nth S i) S 37).1 (rows++[(dC step (nth S i) S 37).2]) (a4++[a3 (nth S i)]):=by
 have hr:=kB step (nth S i) S 37;generalize dC step (nth S i) S 37=R at *;obtain⟨S1,r⟩:=R;dsimp only at hr hl ⊢;obtain⟨q,hq⟩:=hr.pre;have a0:∀k,k<S.length->nth S1 k=nth S k:=fun k hk=>by rw[hq,aA,if_pos hk]
 have a5:S.length<=S1.length:=by rw[hq];simp
 have h1:=h.rl;have h2:=h.tl;have h3:=h.p0;refine⟨zo,by simp[h1],by simp[h2],zo,by rw[a0 0 h3];exact h.fst,hl,fun j hj=>?_,fun j hj=>?_⟩
 ·rw[aA]
  by_cases e:j<rows.length
  ·rw[if_pos e];obtain⟨a1,a2⟩:=h.row j zo;refine⟨a1,fun m hm=>?_⟩;obtain⟨b1,b2⟩:=a2 m hm;exact⟨zo,by rw[a0 _ b1,a0 j zo];exact b2⟩
  rw[if_neg e,show j-rows.length=0 from by omega,ar];obtain rfl:j=i:=zo;refine⟨hr.len,fun m hm=>?_⟩;obtain⟨b1,b2⟩:=hr.lt m hm;exact⟨b1,by rw[a0 j hi];exact b2⟩
 rw[aA]
 by_cases e:j<a4.length
 ·rw[if_pos e,a0 j zo];exact h.tel j zo
 rw[if_neg e,show j-a4.length=0 from by omega,ar];obtain rfl:j=i:=zo;rw[a0 j hi]
theorem uz{step:List Int->Int->List Int}{a0:List Int->Nat}:∀(n i:Nat) (S:List (List Int)) (rows:List (List Nat)) (a1:List Nat) (d:List (List Nat)×List Nat),DI step a0 i S rows a1->Ge step a0 n i S rows a1=some d->∃S',DI step a0 S'.length S' d.1 d.2
 |0,_,_,_,_,_,_,h=>by cases h
 |n+1,i,S,rows,a1,d,hd,h=>by
  unfold Ge at h
  split at h
  ·rename_i hi
   split at h
   ·cases h
   exact uz n _ _ _ _ d (hd.next hi zo) h
  rename_i hi
  cases h
  have:=hd.le;obtain rfl:i=S.length:=zo;exact⟨S,hd⟩
theorem oE{step:List Int->Int->List Int}{a0:List Int->Nat}{d:List (List Nat)×List Nat}(h:DC step a0=some d):∃S,DI step a0 S.length S d.1 d.2:=uz _ _ _ _ _ d (yO _ _) h
def jj(rows:List (List Nat))(w:List Nat)(q:Nat):Nat:=w.foldl (fun q m=>nth (nth rows q) m) q
theorem xT{step:List Int->Int->List Int}{a0:List Int->Nat}{S:List (List Int)}{rows:List (List Nat)}{a3:List Nat}(h:DI step a0 S.length S rows a3):∀(w:List Nat),(∀m∈w,m<37)->∀q,q<S.length->jj rows w q<S.length/\nth S (jj rows w q)=w.foldl (fun s (m:Nat)=>step s (m:Int)) (nth S q)
 |[],_,q,hq=>⟨hq,rfl⟩
 |m::w,hw,q,hq=>by
  obtain⟨a1,a2⟩:=(h.row q hq).2 m (hw m (by simp));have:=xT h w (fun x hx=>hw x (by simp[hx])) _ a1;rw[a2]at this;exact this
def uW(s:List Int):List UInt8:=s.flatMap fun p=>[JT (p.toNat / 256),JT (p.toNat % 256)]
def okS(s:List Int):Prop:=∀x∈s,0<=x/\x.toNat<=999
theorem yo:∀ {s t:List Int},okS s->okS t->uW s=uW t->s=t
 |[],[],_,_,_=>rfl
 |[],b::t,_,_,h=>by simp[uW]at h
 |a::s,[],_,_,h=>by simp[uW]at h
 |a::s,b::t,hs,ht,h=>by
  have h1:=hs a (by simp);have h2:=ht b (by simp);unfold uW at h;simp only[As,yr,Dd,C9]at h;obtain⟨e1,e2,e3⟩:=h;have e1:=congrArg KV e1;have e2:=congrArg KV e2;simp only[UInt8.toNat_ofNat']at e1 e2;have:a=b:=zo;subst this;rw[yo (fun x hx=>hs x (by simp[hx])) (fun x hx=>ht x (by simp[hx])) e3]
end
end Go.Proofs.YtlehnbkknlpkbaaGreatDoor
