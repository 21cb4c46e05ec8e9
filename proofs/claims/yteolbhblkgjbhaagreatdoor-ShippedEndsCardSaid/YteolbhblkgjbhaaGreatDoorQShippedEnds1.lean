/- Texts that the proof of this statement needs, merged and shortened. -/
import Derived.Test.YteolbhblkgjbhaaGreatDoorRows
import Derived.Test.YteolbhblkgjbhaaGreatDoorCards
import Derived.Test.YteolbhblkgjbhaaGreatDoorTie
import Derived.SevenTiedAt
import Derived.LaidMore
import Derived.LaidHandle
import Derived.LaidLaws
import Derived.Lay
import Derived.Lib.LaidTab
import Derived.Calls
import Derived.Tactics
import Derived.Deep.Quiet
import Derived.Below
import Derived.OwnWalk
import Derived.IntWalk
import Derived.Deep.LoopGhost
import Derived.Great.BuildSlice
import Derived.OrdersHeld
import Derived.StillTail
import Derived.WalkKit
import Derived.ProofKit
import Derived.OpenShut
import Derived.ShutString
import Derived.ChangeOld
import Derived.Deep.Matrix
import Derived.Deep.Slices
import Derived.Laws.Strings3
import Derived.Laws.Concat
import Derived.Laws.Slices
import Derived.Laws.Cover3
import Derived.Laws.Pointers
import Derived.Laws.OwnMore
import Derived.Laws.IdiomStrings
import Derived.Laws.BytesArg
import Derived.RangeFuncLeaves
import Derived.RangeFuncCalls
import Derived.RangeFuncSeq
import Derived.TacticsIn
import Derived.Laws.LoneSync
import Derived.Laws.CopyRow
import Derived.Lib.Builder
import Derived.Lib.AppendStr
import Derived.Lib.UnsafeStr
import Derived.Shelf.Sort.Plain
import Derived.Shelf.Slices.In.SortNone
import Derived.Ground.Names2Prog
import Derived.Shelf.Slices.CompactI
import Derived.Test.YteolbhblkgjbhaaGreatDoorProg
import Derived.Sort.OwnSortedInts
import Derived.Maps.RangeRun
import Derived.ChangeKeysEq
import Derived.Lib.SliceRun
import Derived.Test.YteolbhblkgjbhaaGreatDoorChecked
import Derived.Laws.RangeString
import Derived.Scope
import Derived.Shelf.Spec.TrailingZeros
import Derived.ArgAppend
import Derived.Deep.Upon
open Go renaming Value->ix,World->ln,TypeId->I0,Operand->I3,Program->I6,IntKind->I9,Oper->IL,sizeOf->J0,Exit->J1,Addr->J2,Deferred->Jg,Act->Ji,FuncId->Ju,Edge->Jv,Code->Jw,zeroValue->JB,isAgg->Lk,MapEntry->Ln,Func->LG,Calls->LP,Tmp->M7,Field->Mp,BinOp->Mq
open Nat renaming blt->I1,eq_of_beq_eq_true->IE,lt_of_lt_of_le->IN,le_refl->IQ,zero_le->J6,zero_add->J7,le_trans->Je,beq->Jf,le_of_ble_eq_true->Jy,mul_one->K4,zero_mul->Kf,add_mul->Kl,not_lt_zero->Km,min_eq_left->Ko,ble->KG,add_zero->KH,pos_of_ne_zero->L8,zero_testBit->Lm,testBit_or->Lx,add_assoc->LL,add_comm->LU
open Go.Result renaming andThen_ok->I2
open Go.Sem renaming run_bind->I4,run_pure->IP,run->Kv
open Array renaming getD_eq_getD_getElem?->I5,replicate->Kj,getElem?_setIfInBounds->Kk,toList_setIfInBounds->Ku,getElem?_modify->KD,toList_modify->KM,length_toList->KN,toList_push->L3
open List renaming map_toArray->I7,eq_nil_of_length_eq_zero->IF,mem_singleton->II,map_cons->IM,getElem?_eq_some_iff->IR,getD_eq_getElem?_getD->IX,map_nil->J4,append_assoc->J5,getElem?_eq_getElem->J8,mem_append->Jh,take_append_drop->Jj,cons_append->Jm,append_nil->Jp,range->Jr,findIdx?_cons->Js,mem_range->Jt,replicate->JH,length_append->JI,flatMap_cons->JJ,length_cons->JO,getElem_mem->JP,any_eq_true->JQ,mem_map->JS,nil_append->JW,foldl_cons->JX,getElem?_eq_none->JZ,dropWhile_suffix->K0,take_succ_eq_append_getElem->Kc,size_toArray->Kd,getElem?_map->Ke,take->Kg,map->Kw,getElem_cons_zero->KB,drop_eq_nil_of_le->KC,mem_append_left->KK,getElem?_modify->KL,getElem_of_mem->KT,find?_eq_none->L1,nodup_append->L9,ext_getElem?->La,suffix_cons->Le,mem_flatMap->Lh,all_eq_true->Li,map_append->Lo,length_nil->Lp,take_zero->Ls,take_left->Lt,mem_cons->Ly,findIdx?->Lz,any_cons->LA,all_cons->LB
open Go.Proofs.Tryz renaming prog->I8,sizeOf3->IZ,sizeOf22->Jn,underlying31->JA,underlying327->JC,underlying140->JD,underlying111->JE,sizeOf4->JR,underlying278->JT,underlying250->JU,underlying114->JV,underlying26->K2,sizeOf24->KE,underlying287->KO,underlying283->KP,underlying280->KQ,underlying122->KR,underlying120->KS,sizeOf130->KV,sizeOf120->KW,underlying56->L4,underlying22->L5,sizeOf9->L6,sizeOf27->LY,underlying248->M0,underlying225->M1,underlying197->M4,underlying170->M5,underlying138->M6,underlying77->Ma,underlying75->Mb,underlying29->Mc,isAgg22->Md,zeroValue22->Mj,underlying4->Mk,underlying3->Ml,underlying0->Mm,zeroValue4->Mr,zeroValue3->Ms,zeroValue0->Mt,isAgg4->Mu,isAgg3->Mv
open Classical renaming byContradiction->IG
open Go.Region renaming ready->IH,noSelect->IJ,wanted->IK,free->IT
open Bool renaming and_eq_true->IS,false_or->Kz,eq_iff_iff->Lq,or_assoc->LJ
open Go.Fence renaming wide->IU
open Go.Calls renaming mono->IV
open Int renaming toNat_natCast->IW,le_refl->KU
open Go.Addr renaming add->IY
open Option renaming map_some->J3,map_none->Jc,bind_some->KZ
open Go.Deferred renaming ofValue->J9
open Go.Instr renaming sureAddr->Ja,findNow->Jz,fill->JG,storeAt->K6,keyThatStays->K9,mapUpdate->Kh,sameBits->Kp,checkKey->Kq,indexAt->Kx,findKey->Ky,sameNow->Lu,lookup->LC,loadAt->LD,build->LN
open Go.Act renaming eval->Jb,put->JL
open Go.Exit renaming inBlock->Jd
open Go.Value renaming oneCell'->Jk,int->Jq,ownBlock->JF,cells->KF,string->Lw,bool->LQ
open Go.Lib renaming compact->Jl
open Go.Oper renaming wp->Jo,upon->JN,uponIn->KJ,still->LX
open List.cons renaming injEq->JK
open Go.World renaming block_lt_of_cell?->JM,setCell->K5,cells?_some->KX,cell?_spot->L7,frozen?->Lr,cell?->LK
open Go.IntKind renaming signed->JY,bits->K8,max->KA,wrap->MA
open Option.some renaming injEq->K1,inj->LZ
open Go.Op renaming intCmp->K7,intArith->L0,intBits->M9,shift->Mn
open Go.Builtin renaming zeroCells->Ka,append_->L2,len_->MC,lenOf->MD,firstCells->ME
open Go.RowKit.Below renaming heap_setCell->Kb,refl->LV,heap_alloc->LW
open Go.Code renaming region->Ki
open Go.DataW renaming trod->Kr
open Function renaming comp_def->KI
open Go.Sort renaming ahead->KY
open Go.CallsDIn renaming mono->Lb
open Go.Rows renaming mono->Lc
open Prod.mk renaming injEq->Ld
open Go.Shelf renaming Ren->Lj
open Go.Program renaming elem->Ll
open BitVec renaming ofInt->Lv
open Go.Proofs.Lays2 renaming n20->LF
open Go.Conv renaming intToInt->LH
open Go.Proofs.Lays renaming n189->LO
open Prod renaming fst->M8
open Go.ByteArray renaming toList_mk->Me,extract_mk->Mi
open ByteArray renaming toList->Mf,size->Mg,getElem_eq_getElem_data->Mh
open Go.Lit renaming int->Mo
open Go.StepsIn renaming trans->Mw
open Go.Machine renaming fenced->Mx
open Go.IntWalk renaming u8_in->My,i64_in->Mz
open Go.CallsIn renaming mono->MB
namespace Go.VL
theorem zo{A:Prop}(h:A:=by omega):A:=h
theorem zd{A:Prop}(h:A:=by decide):A:=h
theorem zk{A:Prop}(h:A:=by kernel_rfl):A:=h
theorem dT{p q:Prop}[Decidable p](h:decide p=true)(k:p→q:=by intro h;omega):q:=k (of_decide_eq_true h)
theorem dF{p q:Prop}[Decidable p](h:decide p=false)(k:¬p→q:=by intro h;omega):q:=k (of_decide_eq_false h)
abbrev nI(n:Int):ix:=.int .i64 n
abbrev nP(b:Nat):ix:=.pointer (some ⟨b,0,none⟩)
abbrev nA(b k:Nat):J2:=(⟨b,0,none⟩:J2).add k
abbrev nS:ix:=.slice none 0 0
end Go.VL
section
namespace Go.VL
abbrev St:=List (Nat×ix)
def cf:St->Nat->Option ix
 |[],_=>none
 |(k,v)::r,t=>bif Jf k t then some v else cf r t
structure Fits(N:Nat)(a:Ji)(st:St):Prop where
 size:a.tmps.size=N
 defers:a.defers=[]
 get:∀t v,cf st t=some v->a.tmps[t]? = some v
def ev(st:St):I3->Option ix
 |.tmp t=>cf st t
 |.const v=>some v
 |.global g=>some (nP g)
 |.func f=>some (.func (.func f) #[] #[])
def Cov(st:St):St->Prop
 |[]=>True
 |(t,v)::r=>cf st t=some v/\Cov st r
theorem Fits.ev{N:Nat}{a:Ji}{st:St}(h:Fits N a st){x:I3}{v:ix}(he:ev st x=some v):a.eval x=v:=by
 cases x with
 |tmp t=>
  have:=h.get t v he;simp[Jb,I5,this]
 |const u=>simpa[VL.ev,Jb]using he
 |global g=>simpa[VL.ev,Jb]using he
 |func f=>simpa[VL.ev,Jb]using he
theorem Fits.cov{N:Nat}{a:Ji}{st:St}(h:Fits N a st):∀ {a0:St},Cov st a0->Fits N a a0:=by
 intro a0 hc;refine⟨h.size,h.defers,?_⟩
 induction a0 with
 |nil=>intro t v hv;simp[cf]at hv
 |cons p r ih=>
  obtain⟨k,u⟩:=p;obtain⟨h1,h2⟩:=hc;intro t v hv;simp only[cf]at hv
  cases hb:Jf k t with
  |true=>
   rw[hb]at hv;have:k=t:=IE hb;simp at hv;subst this;subst hv;exact h.get _ _ h1
  |false=>rw[hb]at hv;exact ih h2 t v hv
theorem Fits.put{N:Nat}{a:Ji}{st:St}(h:Fits N a st){d:Nat}(hd:I1 d N=true)(v:ix):Fits N (a.put (some d) v) ((d,v)::st):=by
 have a0:d<a.tmps.size:=by rw[h.size];exact Jy hd
 refine⟨by simp[JL,h.size],h.defers,?_⟩;intro t u hu;simp only[cf]at hu;simp only[JL,Kk]
 cases hb:Jf d t with
 |true=>
  have:d=t:=IE hb;rw[hb]at hu;simp at hu;subst this;subst hu;simp[a0]
 |false=>
  have:d≠t:=fun e=>by rw[e]at hb;simp at hb
  rw[hb]at hu;rw[if_neg this];exact h.get t u hu
section
variable(P:I6)(N:Nat)
def WL(ops:Array IL)(Q:J1->Ji->ln->Prop)(l:List IL)(st:St)(w:ln):Prop:=∀a,Fits N a st->wpList P ops Q l a w
def WC(c:Jw)(Q:J1->Ji->ln->Prop)(st:St)(w:ln):Prop:=∀a,Fits N a st->c.wp P Q a w
def QF(Q:J1->Ji->ln->Prop)(e:J1)(st:St)(w:ln):Prop:=∀a,Fits N a st->Q e a w
end
section
variable{P:I6}{N:Nat}{ops:Array IL}{Q:J1→Ji→ln→Prop}{rest:List IL}{st:St}{w:ln}
theorem WC.region{id:Nat}{l:List IL}(h:WL P N l.toArray Q l st w):WC P N (Ki id l.toArray false) Q st w:=fun a ha=>wp_region_lit (h a ha)
theorem WL.nil(h:QF N Q .normal st w):WL P N ops Q [] st w:=h
theorem WC.seq{x y:Jw}(h:WC P N x (Exit.then (y.wp P Q) Q) st w):WC P N (.seq x y) Q st w:=fun a ha=>wp_seq (h a ha)
theorem WC.skip(h:QF N Q .normal st w):WC P N .skip Q st w:=fun a ha=>wp_skip (h a ha)
theorem WC.exit{id:Nat}(h:QF N Q (.exit id) st w):WC P N (.exit id) Q st w:=fun a ha=>wp_exit (h a ha)
theorem WC.ret(h:QF N Q .ret st w):WC P N .ret Q st w:=fun a ha=>wp_ret (h a ha)
theorem WC.block{id:Nat}{c:Jw}(h:WC P N c (Jd id Q) st w):WC P N (.block id c) Q st w:=fun a ha=>wp_block (h a ha)
theorem WC.cond{c:I3}{x y:Jw}{b:Bool}(hc:ev st c=some (.bool b))(ht:b=true->WC P N x Q st w)(hf:b=false->WC P N y Q st w):WC P N (.cond c x y) Q st w:=
 fun a ha=>wp_cond_split (ha.ev hc) (fun e=>ht e a ha) (fun e=>hf e a ha)
theorem Bv{c:I3}{x y:Jw}(hc:ev st c=some (.bool true))(ht:WC P N x Q st w):WC P N (.cond c x y) Q st w:=
 fun a ha=>wp_cond_true (ha.ev hc) (ht a ha)
theorem Bw{c:I3}{x y:Jw}(hc:ev st c=some (.bool false))(hf:WC P N y Q st w):WC P N (.cond c x y) Q st w:=
 fun a ha=>wp_cond_false (ha.ev hc) (hf a ha)
theorem aq{y:Jw}{Q':J1->Ji->ln->Prop}(h:WC P N y Q st w):QF N (Exit.then (y.wp P Q) Q') .normal st w:=h
theorem bP{K:Ji->ln->Prop}{id:Nat}(h:QF N Q (.exit id) st w):QF N (Exit.then K Q) (.exit id) st w:=h
theorem dJ{K:Ji->ln->Prop}(h:QF N Q .ret st w):QF N (Exit.then K Q) .ret st w:=h
theorem bQ{id:Nat}(h:QF N Q .normal st w):QF N (Jd id Q) .normal st w:=h
theorem nQ{id:Nat}(h:QF N Q .ret st w):QF N (Jd id Q) .ret st w:=h
theorem dK{id:Nat}(h:QF N Q .normal st w):QF N (Jd id Q) (.exit id) st w:=fun a ha=>by
 show if id=id then _ else _
 rw[if_pos rfl];exact h a ha
theorem lR{id a0:Nat}(a1:Jf a0 id=false)(h:QF N Q (.exit a0) st w):QF N (Jd id Q) (.exit a0) st w:=fun a ha=>by
 show if a0=id then _ else _
 rw[if_neg (fun e=>by rw[e]at a1;simp at a1)];exact h a ha
theorem aw{d:Nat}{b b':Bool}{l:List IL}(hs:cf st d=some (.bool b))(hb:b=b')(h:WL P N ops Q l ((d,.bool b')::st) w):WL P N ops Q l st w:=by
 subst hb;refine fun a ha=>h a ⟨ha.size,ha.defers,fun t v hv=>?_⟩
 simp only[cf]at hv
 cases hb:Jf d t with
 |true=>rw[hb]at hv;have:=IE hb;subst this;simp at hv;subst hv;exact ha.get _ _ hs
 |false=>rw[hb]at hv;exact ha.get _ _ hv
theorem aS{c:I3}{x y:Jw}{b:Bool}(hc:ev st c=some (.bool b))(hb:b=true)(ht:WC P N x Q st w):WC P N (.cond c x y) Q st w:=by
 subst hb;exact Bv hc ht
theorem aT{c:I3}{x y:Jw}{b:Bool}(hc:ev st c=some (.bool b))(hb:b=false)(hf:WC P N y Q st w):WC P N (.cond c x y) Q st w:=by
 subst hb;exact Bw hc hf
theorem QF.weaken{e:J1}{a0:St}(hc:Cov st a0)(h:QF N Q e a0 w):QF N Q e st w:=fun a ha=>h a (ha.cov hc)
theorem WC.loop{α:Type}{c:Jw}(f:α->St)(g:α->ln)(I:α->Prop)(μ:α->Nat)(x0:α)(h0:I x0)(hc:Cov st (f x0))(hw:g x0=w)
  (a0:∀x,I x->WC P N c (Exit.then (fun a' w'=>∃y,I y/\μ y<μ x/\Fits N a' (f y)/\g y=w') Q) (f x) (g x)):WC P N (.loop c) Q st w:=by
 intro a ha;refine wp_loop_ghost (fun n a w=>∃y,I y/\μ y=n/\Fits N a (f y)/\g y=w) (μ x0) ⟨x0,h0,rfl,ha.cov hc,hw⟩ ?_;rintro n a w ⟨x,hI,rfl,hf,rfl⟩;refine wp_mono (a0 x hI a hf) ?_;intro e a' w' hq
 cases e with
 |normal=>obtain⟨y,h1,h2,h3,h4⟩:=hq;exact⟨μ y,h2,y,h1,rfl,h3,h4⟩
 |_=>exact hq
theorem QF.next{α:Type}{f:α->St}{g:α->ln}{I:α->Prop}{m:Nat}{μ:α->Nat}(y:α)(h1:I y)(h2:μ y<m)(h3:Cov st (f y))(h4:g y=w):
 QF N (Exit.then (fun a' w'=>∃y,I y/\μ y<m/\Fits N a' (f y)/\g y=w') Q) .normal st w:=fun _ ha=>⟨y,h1,h2,ha.cov h3,h4⟩
theorem cz{o:IL}(h:o.guard=none)(y:Nat->Option Bool):IK o y=true:=by simp[IK,h]
theorem WL.step{o:IL}(hg:o.guard=none)(h:∀a,Fits N a st->o.wp P a w (wpList P ops Q rest) Q):WL P N ops Q (o::rest) st w:=by
 intro a ha;unfold wpList;rw[if_pos (cz hg _)];exact .inl (h a ha)
theorem WL.val{op:Op}{t:I0}{p:String}{e:Array Jv}{d:Nat}{v:ix}{w':ln}(hd:I1 d N=true)
  (a0:∀a:Ji,Fits N a st->(execOp a.eval ⟨some d,op,t,p,e,none⟩).run P w=.ok (.value v) w')
  (h:WL P N ops Q rest ((d,v)::st) w'):WL P N ops Q (⟨some d,op,t,p,e,none⟩::rest) st w:=by
 refine WL.step rfl fun a ha=>?_
 unfold Jo;rw[a0 a ha];exact h _ (ha.put hd v)
theorem gQ{op:Op}{t:I0}{p:String}{e:Array Jv}{w':ln}
  (a0:∀a:Ji,Fits N a st->(execOp a.eval ⟨none,op,t,p,e,none⟩).run P w=.ok .skip w')
  (h:WL P N ops Q rest st w'):WL P N ops Q (⟨none,op,t,p,e,none⟩::rest) st w:=by
 refine WL.step rfl fun a ha=>?_
 unfold Jo;rw[a0 a ha];exact h _ ha
def said(ops:Array IL)(st:St)(j:Nat):Option Bool:=
 match (ops[j]?).bind (·.dst)with
 |some d=>match cf st d with
  |some (.bool b)=>some b
  |_=>none
 |none=>none
theorem bS{a:Ji}(ha:Fits N a st){j:Nat}{b:Bool}(h:said ops st j=some b):yielded ops a.tmps j=some b:=by
 unfold said at h;unfold yielded
 cases hd:(ops[j]?).bind (·.dst)with
 |none=>rw[hd]at h;simp at h
 |some d=>
  rw[hd]at h;simp only at h
  cases hs:cf st d with
  |none=>rw[hs]at h;simp at h
  |some v=>
   rw[hs]at h
   cases v<;>simp at h
   subst h;simp[ha.get _ _ hs]
theorem gR{op:Op}{t:I0}{p:String}{e:Array Jv}{d:Option M7}{j:Nat}{b:Bool}(hs:said ops st j=some b)
  (h:WL P N ops Q (⟨d,op,t,p,e,none⟩::rest) st w):WL P N ops Q (⟨d,op,t,p,e,some (j,b)⟩::rest) st w:=by
 intro a ha;have h1:=h a ha;unfold wpList at h1 ⊢;rw[if_pos (by simp[IK])]at h1;rw[if_pos (by simp[IK,bS ha hs])];exact h1
theorem WL.off{op:Op}{t:I0}{p:String}{e:Array Jv}{d:Nat}{j:Nat}{b b':Bool}(hs:said ops st j=some b')(a0:(b'==b)=false)(hd:I1 d N=true)
  (h:WL P N ops Q rest ((d,undef)::st) w):WL P N ops Q (⟨some d,op,t,p,e,some (j,b)⟩::rest) st w:=by
 intro a ha;unfold wpList;rw[if_neg (by simp[IK,bS ha hs];simpa using a0)];exact h _ (ha.put hd undef)
def iW(ops:Array IL)(st:St)(j:Nat):Bool:=
 match (ops[j]?).bind (·.dst)with
 |some d=>match cf st d with
  |some (.tuple _)=>true
  |_=>false
 |none=>false
theorem fZ{op:Op}{t:I0}{p:String}{e:Array Jv}{d:Nat}{j:Nat}{b:Bool}(hs:iW ops st j=true)(hd:I1 d N=true)
  (h:WL P N ops Q rest ((d,undef)::st) w):WL P N ops Q (⟨some d,op,t,p,e,some (j,b)⟩::rest) st w:=by
 intro a ha;unfold wpList;rw[if_neg ?_]
 ·exact h _ (ha.put hd undef)
 unfold iW at hs;simp only[IK,yielded]
 cases hd:(ops[j]?).bind (·.dst)with
 |none=>rw[hd]at hs;simp at hs
 |some d=>
  rw[hd]at hs;simp only at hs
  cases hx:cf st d with
  |none=>rw[hx]at hs;simp at hs
  |some v=>
   rw[hx]at hs
   cases v<;>simp at hs
   simp[ha.get _ _ hx]
def RV(P:I6)(N:Nat)(op:Op)(t:I0)(st:St)(w:ln)(v:ix):Prop:=
 ∀a:Ji,Fits N a st->∀(dst:Option M7) (p:String) (e:Array Jv) (g:Option (Nat×Bool)),(execOp a.eval ⟨dst,op,t,p,e,g⟩).run P w=.ok (.value v) w
theorem lL{op:Op}{t:I0}{p:String}{e:Array Jv}{d:Nat}{v:ix}(hv:RV P N op t st w v)(hd:I1 d N=true)
 (h:WL P N ops Q rest ((d,v)::st) w):WL P N ops Q (⟨some d,op,t,p,e,none⟩::rest) st w:=WL.val hd (fun a ha=>hv a ha _ _ _ _) h
section
variable{t:I0}{p:String}{e:Array Jv}{d:Nat}{x y z:I3}
theorem RV.move{v:ix}(hx:ev st x=some v):RV P N (.move x) t st w (v):=
 fun a ha a0 p e g=>by simp only[execOp,ha.ev hx];rfl
theorem RV.assign{v:ix}(hx:ev st x=some v):RV P N (.assign x) t st w (v):=
 fun a ha a0 p e g=>by simp only[execOp,ha.ev hx];rfl
theorem gZ{a:Ji}{b:Bool}{a0:Option M7}{g:Option (Nat×Bool)}(hx:a.eval x=.bool b):(execOp a.eval ⟨a0,.pick x y z,t,p,e,g⟩).run P w=.ok (.value (bif b then a.eval y else a.eval z)) w:=by
 simp only[execOp,hx];cases b<;>rfl
theorem bL{u:ix}(hc:ev st x=some (.bool false))(hz:ev st z=some u):RV P N (.pick x y z) t st w (u):=
 fun a ha a0 p e g=>by rw[gZ (ha.ev hc),ha.ev hz];rfl
theorem bG{v:ix}(hc:ev st x=some (.bool true))(hy:ev st y=some v):RV P N (.pick x y z) t st w (v):=
 fun a ha a0 p e g=>by rw[gZ (ha.ev hc),ha.ev hy];rfl
theorem ak{q:J2}(hx:ev st x=some (.pointer (some q))):RV P N (.nilCheck x) t st w (.pointer (some q)):=
 fun a ha a0 p e g=>by simp only[execOp,ha.ev hx];rfl
section
variable{k:I9}{m n:Int}{xt yt:I0}
theorem tS{op:Mq}{k k':I9}{m n:Int}{a:Ji}{a0:Option M7}{g:Option (Nat×Bool)}(hx:a.eval x=.int k m)(hy:a.eval y=.int k' n){v:ix}(h:(binOp op xt (.int k m) (.int k' n)).run P w=.ok v w):
  (execOp a.eval ⟨a0,.binOp op xt x y yt,t,p,e,g⟩).run P w=.ok (.value v) w:=by
 simp only[execOp,hx,hy];have hg:(eqGuard op xt x y (.int k m) (.int k' n))=pure ():=by
  unfold eqGuard;cases op<;>rfl
 rw[hg];simp[h]
theorem fF{op:Mq}{k':I9}{v:ix}(hx:ev st x=some (.int k m))(hy:ev st y=some (.int k' n))(hv:(binOp op xt (.int k m) (.int k' n)).run P w=.ok v w):RV P N (.binOp op xt x y yt) t st w (v):=
 fun _ ha _ _ _ _=>tS (ha.ev hx) (ha.ev hy) hv
theorem DE:(binOp .add xt (.int k m) (.int k n)).run P w=.ok (.int k (k.wrap (m+n))) w:=by simp[binOp,L0,pure]
theorem Dv:(binOp .sub xt (.int k m) (.int k n)).run P w=.ok (.int k (k.wrap (m-n))) w:=by simp[binOp,L0,pure]
theorem Dx:(binOp .mul xt (.int k m) (.int k n)).run P w=.ok (.int k (k.wrap (m*n))) w:=by simp[binOp,L0,pure]
theorem Dy:(binOp .lss xt (.int k m) (.int k n)).run P w=.ok (.bool (decide (m<n))) w:=by simp[binOp,K7,pure]
theorem Dz:(binOp .leq xt (.int k m) (.int k n)).run P w=.ok (.bool (decide (m<=n))) w:=by simp[binOp,K7,pure]
theorem DA:(binOp .gtr xt (.int k m) (.int k n)).run P w=.ok (.bool (decide (n<m))) w:=by simp[binOp,K7,pure]
theorem DB:(binOp .geq xt (.int k m) (.int k n)).run P w=.ok (.bool (decide (n<=m))) w:=by simp[binOp,K7,pure]
theorem DC:(binOp .eql xt (.int k m) (.int k n)).run P w=.ok (.bool (m==n)) w:=by simp[binOp,K7,pure]
theorem Dw:(binOp .neq xt (.int k m) (.int k n)).run P w=.ok (.bool (m != n)) w:=by simp[binOp,K7,pure]
def Fit(k:I9)(r:Int):Prop:=k.wrap r=r
theorem Fit.i64{r:Int}(h : -9223372036854775808<=r/\r<=9223372036854775807):Fit .i64 r:=Mz r h
theorem Fit.u8{r:Int}(h:0<=r/\r<=255):Fit .u8 r:=My r h
theorem RV.add(hx:ev st x=some (.int k m))(hy:ev st y=some (.int k n))(hr:Fit k (m+n)):RV P N (.binOp .add xt x y yt) t st w (.int k (m+n)):=
 fF hx hy (by rw[DE,hr])
theorem RV.sub(hx:ev st x=some (.int k m))(hy:ev st y=some (.int k n))(hr:Fit k (m-n)):RV P N (.binOp .sub xt x y yt) t st w (.int k (m-n)):=
 fF hx hy (by rw[Dv,hr])
theorem RV.lss(hx:ev st x=some (.int k m))(hy:ev st y=some (.int k n)):RV P N (.binOp .lss xt x y yt) t st w (.bool (decide (m<n))):=
 fF hx hy Dy
theorem RV.leq(hx:ev st x=some (.int k m))(hy:ev st y=some (.int k n)):RV P N (.binOp .leq xt x y yt) t st w (.bool (decide (m<=n))):=
 fF hx hy Dz
theorem RV.gtr(hx:ev st x=some (.int k m))(hy:ev st y=some (.int k n)):RV P N (.binOp .gtr xt x y yt) t st w (.bool (decide (n<m))):=
 fF hx hy DA
theorem RV.geq(hx:ev st x=some (.int k m))(hy:ev st y=some (.int k n)):RV P N (.binOp .geq xt x y yt) t st w (.bool (decide (n<=m))):=
 fF hx hy DB
theorem RV.eql(hx:ev st x=some (.int k m))(hy:ev st y=some (.int k n)):RV P N (.binOp .eql xt x y yt) t st w (.bool (m==n)):=
 fF hx hy DC
theorem RV.neq(hx:ev st x=some (.int k m))(hy:ev st y=some (.int k n)):RV P N (.binOp .neq xt x y yt) t st w (.bool (m != n)):=
 fF hx hy Dw
theorem RV.not{b:Bool}(hx:ev st x=some (.bool b)):RV P N (.unOp .not xt x) t st w (.bool (!b)):=
 fun a ha a0 p e g=>by simp only[execOp,ha.ev hx];rfl
theorem BC{k':I9}{a0:TypeDesc}(hs:P.underlying xt=some a0)(a2:P.underlying yt=some (.int k'))(hx:ev st x=some (.int k m))(hr:Fit k' m):RV P N (.convert xt yt x) t st w (.int k' m):=
 fun a ha a3 p e g=>by
  have a1:k'.wrap m=m:=hr;simp only[execOp,ha.ev hx];simp[convert,run_underlying hs,run_underlying a2,LH,a1]
theorem mC{k':I9}{a0:TypeDesc}(hs:P.underlying xt=some a0)(a1:P.underlying yt=some (.int k'))(hx:ev st x=some (.int k m)):RV P N (.convert xt yt x) t st w (.int k' (k'.wrap m)):=
 fun a ha a2 p e g=>by
  simp only[execOp,ha.ev hx];simp[convert,run_underlying hs,run_underlying a1,LH]
end
theorem RV.extract{vs:Array ix}{i:Nat}{v:ix}(hx:ev st x=some (.tuple vs))(hv:vs[i]? = some v):RV P N (.extract x i) t st w (v):=
 fun a ha a0 p e g=>by simp only[execOp,ha.ev hx];simp[Instr.extract,hv]
def evs(st:St):List I3->Option (List ix)
 |[]=>some []
 |x::r=>match ev st x,evs st r with
  |some v,some vs=>some (v::vs)
  |_,_=>none
theorem Fits.evs{a:Ji}(ha:Fits N a st):∀ {l:List I3} {vs:List ix},evs st l=some vs->l.map a.eval=vs:=by
 intro l
 induction l with
 |nil=>intro vs h;simpa[VL.evs]using h.symm
 |cons x r ih=>
  intro vs h;simp only[VL.evs]at h
  cases h1:VL.ev st x with
  |none=>rw[h1]at h;simp at h
  |some v=>
   cases h2:VL.evs st r with
   |none=>rw[h1,h2]at h;simp at h
   |some vs'=>
    rw[h1,h2]at h;simp at h;subst h;rw[IM,ha.ev h1,ih h2]
theorem du{fn:Fn}{f c:List I3}{fs cs:List ix}(hf:evs st f=some fs)(hc:evs st c=some cs):RV P N (.makeFunc fn f.toArray c.toArray) t st w (.func fn fs.toArray cs.toArray):=
 fun a ha a0 p e g=>by simp only[execOp,Instr.makeFunc,I7,ha.evs hf,ha.evs hc];rfl
theorem WL.box{E:I0}{v:ix}(hx:ev st x=some v)(hd:I1 d N=true)
  (h:WL P N ops Q rest ((d,.pointer (some ⟨w.heap.size,0,none⟩))::st) (w.alloc (.cells v.cells E))):WL P N ops Q (⟨some d,.box E x,t,p,e,none⟩::rest) st w:=
 WL.val hd (fun a ha=>by simp only[execOp,ha.ev hx];rfl) h
theorem WL.alloc{E:I0}{z:ix}(hz:(JB E).run P w=.ok z w)(hd:I1 d N=true)
  (h:WL P N ops Q rest ((d,.pointer (some ⟨w.heap.size,0,none⟩))::st) (w.alloc (.cells z.cells E))):WL P N ops Q (⟨some d,.alloc E,t,p,e,none⟩::rest) st w:=
 WL.val hd (fun a ha=>by
  simp only[execOp,Instr.alloc]
  simp[hz,newVar,newRow,newObj];rfl) h
def Ret(P:I6)(f:Ju)(args:List ix)(w:ln)(R:ix->ln->Prop):Prop:=
 LP P f args.toArray w fun | .returned v,w'=>R v w'|_,_=>False
theorem Ret.mono{f:Ju}{args:List ix}{w:ln}{R R':ix->ln->Prop}(h:Ret P f args w R)(hr:∀v w',R v w'->R' v w'):Ret P f args w R':=
 IV h fun e w' q=>by cases e<;>first|exact hr _ _ q|exact q.elim
theorem WL.call{f:Ju}{args:List I3}{a2:Array I0}{vs:List ix}{R:ix->ln->Prop}
  (hf:∀(args:Array ix) (w:ln),(callFunc f args).run P w=.ok (.enter f args) w) (a0:evs st args=some vs) (hc:Ret P f vs w R) (hd:I1 d N=true)
  (h:∀v w',R v w'->WL P N ops Q rest ((d,v)::st) w'):WL P N ops Q (⟨some d,.call ⟨.value (.func f),args.toArray,a2⟩,t,p,e,none⟩::rest) st w:=by
 refine WL.step rfl fun a ha=>?_
 unfold Jo;have a1:(execOp a.eval ⟨some d,.call ⟨.value (.func f),args.toArray,a2⟩,t,p,e,none⟩).run P w=.ok (.enter f vs.toArray) w:=by
  simp only[execOp,resolve,Jb,I7];rw[ha.evs a0];simp[J9,invoke,hf]
 rw[a1];exact IV hc fun e w' q=>by
  cases e with
  |returned v=>exact h v w' q _ (ha.put hd v)
  |panicked c=>exact q.elim
  |outgrown=>exact q.elim
theorem dt{f:Ju}{args:List I3}{a2:Array I0}{vs:List ix}{cs:Array ix}{R:ix->ln->Prop}
  (hx:ev st x=some (.func (.func f) #[] cs))
  (hf:∀(args:Array ix) (w:ln),(callFunc f args).run P w=.ok (.enter f args) w) (a0:evs st args=some vs) (hc:Ret P f (vs++cs.toList) w R) (hd:I1 d N=true)
  (h:∀v w',R v w'->WL P N ops Q rest ((d,v)::st) w'):WL P N ops Q (⟨some d,.call ⟨.value x,args.toArray,a2⟩,t,p,e,none⟩::rest) st w:=by
 refine WL.step rfl fun a ha=>?_
 unfold Jo;have a1:(execOp a.eval ⟨some d,.call ⟨.value x,args.toArray,a2⟩,t,p,e,none⟩).run P w=.ok (.enter f (vs++cs.toList).toArray) w:=by
  simp only[execOp,resolve,I7,ha.evs a0,ha.ev hx];simp[J9,invoke,hf]
 rw[a1];exact IV hc fun e w' q=>by
  cases e with
  |returned v=>exact h v w' q _ (ha.put hd v)
  |panicked c=>exact q.elim
  |outgrown=>exact q.elim
end
end
def RP(P:I6)(fn:LG)(R:ix->ln->Prop):J1->Ji->ln->Prop
 |.normal,a,w |.ret,a,w=>a.defers=[]/\∃v,(results fn a.tmps).run P w=.ok v w/\R v w
 |_,_,_=>False
theorem Ret.body{P:I6}{N:Nat}{f:Ju}{fn:LG}{c:Jw}{args:List ix}{st:St}{w:ln}{R:ix->ln->Prop}
  (hf:P.funcs[f]? = some fn) (hb:fn.body=some c) (hN:fn.ntmps=N) (a0:Fits N { tmps:=args.toArray++Kj (N-args.length) undef,defers:=[] } st)
  (h:WC P N c (RP P fn R) st w):Ret P f args w R:=by
 refine calls_of_wp hf hb ?_;rw[hN];refine wp_mono (h _ (by simpa using a0)) ?_
 intro e a w' q
 cases e<;>first|exact q|exact q.elim
theorem kZ{N:Nat}:∀ {args:List ix} (_:KG args.length N=true) {st:St} (_:∀t v,cf st t=some v->args[t]? = some v),
  Fits N { tmps:=args.toArray++Kj (N-args.length) undef,defers:=[] } st:=by
 intro args hN st h;have a1:args.length<=N:=Jy hN;refine⟨by simp;omega,rfl,fun t v hv=>?_⟩;have:=h t v hv;have a0:t<args.length:=(IR.1 this).1;rw[Array.getElem?_append_left (by simpa using a0)];simpa using this
def BZ:Nat->List ix->St
 |_,[]=>[]
 |k,v::r=>(k,v)::BZ (k+1) r
theorem jA:∀(args:List ix) (k t:Nat) (v:ix),cf (BZ k args) t=some v->k<=t/\args[t-k]? = some v
 |[],k,t,v,h=>by simp[BZ,cf]at h
 |u::r,k,t,v,h=>by
  simp only[BZ,cf]at h
  cases hb:Jf k t with
  |true=>
   rw[hb]at h;have:k=t:=IE hb;subst this;simpa using h
  |false=>
   rw[hb]at h;obtain⟨h1,h2⟩:=jA r (k+1) t v h;refine⟨zo,?_⟩;rw[show t-k=(t-(k+1))+1 from by omega];simpa using h2
theorem Ret.enter{P:I6}{N:Nat}{f:Ju}{fn:LG}{c:Jw}{args:List ix}{w:ln}{R:ix->ln->Prop}
  (hf:P.funcs[f]? = some fn) (hN:fn.ntmps=N) (hb:fn.body=some c) (a0:KG args.length N=true)
  (h:WC P N c (RP P fn R) (BZ 0 args) w):Ret P f args w R:=
 Ret.body hf hb hN (kZ a0 fun t v hv=>by simpa using(jA args 0 t v hv).2) h
section
variable{P:I6}{N:Nat}{st:St}{w:ln}{fn:LG}{R:ix→ln→Prop}
theorem ae{t:M7}{v:ix}(hr:fn.results = #[.tmp t])(hv:cf st t=some v)(h:R v w):QF N (RP P fn R) .ret st w:=fun a ha=>
 ⟨ha.defers,v,by have:=ha.get _ _ hv;simp[results,hr,I5,this],h⟩
theorem aD(hr:fn.results = #[])(h:R (.tuple #[]) w):QF N (RP P fn R) .normal st w:=fun a ha=>⟨ha.defers,_,by simp[results,hr],h⟩
theorem bR(hr:fn.results = #[])(h:R (.tuple #[]) w):QF N (RP P fn R) .ret st w:=fun a ha=>⟨ha.defers,_,by simp[results,hr],h⟩
theorem bH{t u:M7}{v v':ix}(hr:fn.results = #[.tmp t,.tmp u])(hv:cf st t=some v)(a0:cf st u=some v')(h:R (.tuple #[v,v']) w):QF N (RP P fn R) .ret st w:=fun a ha=>
 ⟨ha.defers,_,by have:=ha.get _ _ hv;have h2:=ha.get _ _ a0;simp[results,hr,I5,this,h2],h⟩
end
open Go.RowKit (Below)
def Ext(w w':ln):Prop:=Below w.heap.size w w'
theorem Ext.refl(w:ln):Ext w w:=LV _ _
theorem Ext.trans{a b c:ln}(h:Ext a b)(k:Ext b c):Ext a c:=Below.trans h (Below.mono k h.size)
theorem Ext.alloc(w:ln)(o:Obj):Ext w (w.alloc o):=(LV _ _).alloc (IQ _) o
theorem Ext.drew{w w':ln}(h:Ext w w'):Ext w w'.drew:=⟨h.os,h.tape,h.output,h.size,h.block⟩
theorem Ext.cell{w w':ln}(h:Ext w w'){a:J2}{v:ix}(hc:w.cell? a=some v):w'.cell? a=some v:=
 (Below.cell h (JM w a hc)).trans hc
def adr(v:ix)(sz i:Nat):J2:=
 match v with
 |.slice (some a) _ _=>⟨a.block,a.off+i*sz,none⟩
 |_=>default
def nth{α:Type}[Inhabited α](xs:List α)(i:Nat):α:=xs.getD i default
theorem aC{α:Type}[Inhabited α]{xs:List α}{i:Nat}(h:i<xs.length):nth xs i=xs[i]:=by
 simp[nth,IX,h]
theorem ao{α:Type}[Inhabited α](a:α)(l:List α):nth (a::l) 0=a:=rfl
theorem aI{α:Type}[Inhabited α](a:α)(l:List α)(i:Nat):nth (a::l) (i+1)=nth l i:=rfl
attribute [irreducible] nth
structure Sl{α:Type}(enc:α->List ix)(sz:Nat)(w:ln)(v:ix)(xs:List α):Prop where
 shape:∃a c,v=.slice a xs.length c/\xs.length<=c/\c<=9223372036854775807/\(xs.length≠0->∃b o,a=some ⟨b,o,none⟩)
 cells:∀i (h:i<xs.length) j u,(enc xs[i])[j]? = some u->w.cell? ((adr v sz i).add j)=some u
theorem Sl.of_cells{α:Type}{enc:α->List ix}{sz:Nat}{w w':ln}{v:ix}{xs:List α}(h:Sl enc sz w v xs)(hc:∀a u,w.cell? a=some u->w'.cell? a=some u):Sl enc sz w' v xs:=
 ⟨h.shape,fun i hi j u hu=>hc _ _ (h.cells i hi j u hu)⟩
theorem Sl.ext{α:Type}{enc:α->List ix}{sz:Nat}{w w':ln}{v:ix}{xs:List α}(h:Sl enc sz w v xs)(e:Ext w w'):Sl enc sz w' v xs:=h.of_cells fun _ _=>e.cell
theorem Sl.drew{α:Type}{enc:α->List ix}{sz:Nat}{w:ln}{v:ix}{xs:List α}(h:Sl enc sz w v xs):Sl enc sz w.drew v xs:=h.of_cells fun _ _ h=>h
theorem Sl.one{α:Type}{enc:α->List ix}{sz:Nat}{w:ln}{v:ix}{xs:List α}(h:Sl enc sz w v xs):v.oneCell'=true:=by
 obtain⟨_,_,rfl,_⟩:=h.shape;rfl
theorem Sl.len_le{α:Type}{enc:α->List ix}{sz:Nat}{w:ln}{v:ix}{xs:List α}(h:Sl enc sz w v xs):xs.length<=9223372036854775807:=by
 obtain⟨a,c,_,h1,h2,_⟩:=h.shape;omega
theorem Sl.cell{α:Type}[Inhabited α]{enc:α->List ix}{sz:Nat}{w:ln}{v:ix}{xs:List α}(h:Sl enc sz w v xs){i j:Nat}{u:ix}(hi:i<xs.length)(hu:(enc (nth xs i))[j]? = some u):w.cell? ((adr v sz i).add j)=some u:=
 h.cells i hi j u (by rw[<-aC hi];exact hu)
theorem ax(v:ix)(sz i:Nat):(adr v sz i).add 0=adr v sz i:=rfl
theorem Sl.ld{α:Type}[Inhabited α]{val:α->ix}{sz:Nat}{w:ln}{v:ix}{xs:List α}(h:Sl (fun x=>[val x]) sz w v xs){i:Nat}(hi:i<xs.length):w.cell? (adr v sz i)=some (val (nth xs i)):=
 h.cell (j:=0) hi rfl
abbrev Ints(w:ln)(v:ix)(xs:List Int):Prop:=Sl (fun(x:Int)=>[nI x]) 1 w v xs
abbrev ID(w:ln)(v:ix)(xs:List Nat):Prop:=Sl (fun(x:Nat)=>[nI (x:Int)]) 1 w v xs
section
variable{P:I6}{N:Nat}{ops:Array IL}{Q:J1→Ji→ln→Prop}{rest:List IL}{st:St}{w:ln}
variable{t:I0}{p:String}{e:Array Jv}{d:Nat}{x y z:I3}
theorem RV.len{T E:I0}{α:Type}{enc:α->List ix}{sz:Nat}{v:ix}{xs:List α}(hs:Sl enc sz w v xs)(hu:P.underlying T=some (.slice E))(hx:ev st x=some v):RV P N (.call ⟨.builtin .len,#[x],#[T]⟩) t st w (nI (xs.length:Int)):=
 fun a ha a0 p e g=>by
  obtain⟨ad,c,hv,_⟩:=hs.shape;simp only[execOp,resolve,I7,IM,J4,ha.ev hx];subst hv;simp[invoke,Go.builtin,MC,run_underlying hu,goInt]
theorem RV.indexAddr{T E:I0}{α:Type}{enc:α->List ix}{sz:Nat}{v:ix}{xs:List α}{k:I9}{i:Int}(hs:Sl enc sz w v xs)(hu:P.underlying T=some (.slice E))(hE:(J0 E).run P w=.ok sz w)
  (hx:ev st x=some v) (hy:ev st y=some (.int k i)) (n:Nat) (hi:i=n) (hn:n<xs.length):RV P N (.indexAddr T x y) t st w (.pointer (some (adr v sz n))):=
 fun a ha a0 p e g=>by
  obtain⟨ad,c,hv,_,_,hb⟩:=hs.shape;obtain⟨b,o,rfl⟩:=hb zo;simp only[execOp,ha.ev hx,ha.ev hy];subst hv;subst hi;have:((n:Int)<(xs.length:Int)):=zo;simp only[adr];have he:(if n*sz=0 then(⟨b,o,none⟩:J2)else⟨b,o+n*sz,none⟩)=⟨b,o+n*sz,none⟩:=by split<;>simp_all
  simp[Kx,asIntOf,run_underlying hu,hE,IY,hn,he]
def Shape(v:ix)(n:Nat):Prop:=∃a c,v=.slice a n c/\(n≠0->∃b o,a=some ⟨b,o,none⟩)
theorem Sl.sh{α:Type}{enc:α->List ix}{sz:Nat}{w:ln}{v:ix}{xs:List α}(h:Sl enc sz w v xs):Shape v xs.length:=by
 obtain⟨a,c,h1,_,_,h2⟩:=h.shape;exact⟨a,c,h1,h2⟩
theorem az{T E:I0}{sz m:Nat}{v:ix}{k:I9}{i:Int}(hs:Shape v m)(hu:P.underlying T=some (.slice E))(hE:(J0 E).run P w=.ok sz w)
  (hx:ev st x=some v) (hy:ev st y=some (.int k i)) (n:Nat) (hi:i=n) (hn:n<m):RV P N (.indexAddr T x y) t st w (.pointer (some (adr v sz n))):=
 fun a ha a0 p e g=>by
  obtain⟨ad,c,hv,hb⟩:=hs;obtain⟨b,o,rfl⟩:=hb zo;simp only[execOp,ha.ev hx,ha.ev hy];subst hv;subst hi;simp only[adr];have he:(if n*sz=0 then(⟨b,o,none⟩:J2)else⟨b,o+n*sz,none⟩)=⟨b,o+n*sz,none⟩:=by split<;>simp_all
  simp[Kx,asIntOf,run_underlying hu,hE,IY,hn,he]
theorem RV.load{T:I0}{q:J2}{u:ix}(hc:w.cell? q=some u)(hT:(Lk T).run P w=.ok false w)(hx:ev st x=some (.pointer (some q))):RV P N (.load T x) t st w (u):=
 fun a ha a0 p e g=>by
  simp only[execOp,ha.ev hx];simp[LD,Ja,loadVar,hT,hc]
theorem run_loadCellsFrom{q:J2}:∀(us:List ix) (i:Nat) (a0:Array ix),(∀j u,us[j]? = some u->w.cell? (q.add (i+j))=some u)->(loadCellsFrom q i us.length a0).run P w=.ok (a0++us.toArray) w
 |[],i,a0,_=>by simp[loadCellsFrom]
 |u::r,i,a0,h=>by
  have h0:=h 0 u rfl;have ih:=run_loadCellsFrom r (i+1) (a0.push u) (fun j v hv=>by have:=h (j+1) v (by simpa using hv);rwa[show i+1+j=i+(j+1)from by omega]);simp only[KH]at h0;simp[loadCellsFrom,h0,ih]
theorem ah{T:I0}{q:J2}{us:List ix}(hc:∀j u,us[j]? = some u->w.cell? (q.add j)=some u)(hT:(Lk T).run P w=.ok true w)(hn:(J0 T).run P w=.ok us.length w)(hx:ev st x=some (.pointer (some q))):RV P N (.load T x) t st w (.agg us.toArray):=
 fun a ha a0 p e g=>by
  simp only[execOp,ha.ev hx];have:=run_loadCellsFrom (P:=P) us 0 #[] (q:=q) (w:=w) (by simpa using hc);simp[LD,Ja,loadVar,hT,hn,loadCells,this]
theorem RV.fieldAddr{S:I0}{fs:Array Mp}{f m:Nat}{fd:Mp}{q:J2}(o:Nat)(hu:P.underlying S=some (.struct fs))(hf:fs[f]? = some fd)(ho:fd.offset=o)(hz:(J0 fd.type).run P w=.ok m w)(hm:m≠0)
  (hx:ev st x=some (.pointer (some q))):RV P N (.fieldAddr S x f) t st w (.pointer (some (q.add o))):=
 fun a ha a0 p e g=>by
  subst ho;simp only[execOp,ha.ev hx];simp[Instr.fieldAt,Ja,fieldPlace,run_underlying hu,hf,hz,hm]
end
end Go.VL
end
section
namespace Go.VL
open Go.RowKit (Below)
structure Upd(S:Nat->Prop)(O:Nat->Nat)(w:ln)(O':Nat->Nat)(w':ln):Prop where
 os:w'.os=w.os
 tape:w'.tape=w.tape
 output:w'.output=w.output
 size:w.heap.size<=w'.heap.size
 blk:∀b,b<w.heap.size->¬S (O b)->w'.heap[b]? = w.heap[b]?
 tag:∀b,O b≠0->O' b=O b
 new:∀b,O' b≠0->O b≠0\/(w.heap.size<=b/\b<w'.heap.size)
 z:¬S 0
structure Rng(B:Nat)(O:Nat->Nat)(w:ln):Prop where
 le:B<=w.heap.size
 rng:∀b,O b≠0->B<=b/\b<w.heap.size
theorem Upd.refl{S:Nat->Prop}(h:¬S 0)(O:Nat->Nat)(w:ln):Upd S O w O w:=⟨rfl,rfl,rfl,IQ _,fun _ _ _=>rfl,fun _ _=>rfl,fun _ h=>.inl h,h⟩
theorem Upd.mono{S S':Nat->Prop}{O O':Nat->Nat}{w w':ln}(h:Upd S O w O' w')(hs:∀i,S i->S' i)(hz:¬S' 0):Upd S' O w O' w':=
 ⟨h.os,h.tape,h.output,h.size,fun b hb hn=>h.blk b hb fun hS=>hn (hs _ hS),h.tag,h.new,hz⟩
theorem Upd.trans{S:Nat->Prop}{O O1 O2:Nat->Nat}{w w1 w2:ln}(h:Upd S O w O1 w1)(k:Upd S O1 w1 O2 w2):Upd S O w O2 w2:=by
 refine⟨k.os.trans h.os,k.tape.trans h.tape,k.output.trans h.output,Je h.size k.size,fun b hb hn=>?_,fun b hb=>?_,fun b hb=>?_,h.z⟩
 ·refine(k.blk b (IN hb h.size) ?_).trans (h.blk b hb hn)
  by_cases h0:O b=0
  ·have:O1 b=0:=by
    refine IG fun a0=>?_
    rcases h.new b a0 with h1|h1
    ·exact h1 h0
    omega
   rw[this];exact h.z
  rw[h.tag b h0];exact hn
 ·have h1:=h.tag b hb;rw[k.tag b (by rw[h1];exact hb),h1]
 rcases k.new b hb with h1|h1
 ·rcases h.new b h1 with h2|h2
  ·exact .inl h2
  exact .inr ⟨h2.1,IN h2.2 k.size⟩
 exact .inr ⟨Je h.size h1.1,h1.2⟩
theorem aa{S:Nat->Prop}(hz:¬S 0){w w':ln}(O:Nat->Nat)(h:Ext w w'):Upd S O w O w':=
 ⟨h.os,h.tape,h.output,h.size,fun b hb _=>h.block b hb,fun _ _=>rfl,fun _ h=>.inl h,hz⟩
theorem Rng.upd{B:Nat}{S:Nat->Prop}{O O':Nat->Nat}{w w':ln}(r:Rng B O w)(h:Upd S O w O' w'):Rng B O' w':=by
 refine⟨Je r.le h.size,fun b hb=>?_⟩
 rcases h.new b hb with h1|h1
 ·exact⟨(r.rng b h1).1,IN (r.rng b h1).2 h.size⟩
 exact⟨Je r.le h1.1,h1.2⟩
theorem ay(w:ln):Rng w.heap.size (fun _=>0) w:=⟨IQ _,fun _ h=>absurd rfl h⟩
theorem Rng.ext{B:Nat}{O:Nat->Nat}{w w':ln}(r:Rng B O w)(h:Ext w w'):Rng B O w':=r.upd (aa (S:=fun _=>False) (fun h=>h) O h)
theorem Upd.below{B:Nat}{S:Nat->Prop}{O O':Nat->Nat}{w w':ln}(h:Upd S O w O' w')(r:Rng B O w):Below B w w':=by
 refine⟨h.os,h.tape,h.output,h.size,fun b hb=>h.blk b (IN hb r.le) ?_⟩;have:O b=0:=IG fun a0=>by have:=(r.rng b a0).1;omega
 rw[this];exact h.z
theorem Upd.ext{S:Nat->Prop}{O':Nat->Nat}{w w':ln}(h:Upd S (fun _=>0) w O' w'):Ext w w':=h.below (ay w)
theorem Upd.drew{S:Nat->Prop}{O O':Nat->Nat}{w w':ln}(h:Upd S O w O' w'):Upd S O w O' w'.drew:=⟨h.os,h.tape,h.output,h.size,h.blk,h.tag,h.new,h.z⟩
theorem Upd.ofDrew{S:Nat->Prop}{O O':Nat->Nat}{w w':ln}(h:Upd S O w.drew O' w'):Upd S O w O' w':=⟨h.os,h.tape,h.output,h.size,h.blk,h.tag,h.new,h.z⟩
theorem Rng.drew{B:Nat}{O:Nat->Nat}{w:ln}(h:Rng B O w):Rng B O w.drew:=⟨h.le,h.rng⟩
def kN(O:Nat->Nat)(b i:Nat):Nat->Nat:=fun k=>if k=b then i else O k
theorem dS(O:Nat->Nat)(b i:Nat):kN O b i b=i:=if_pos rfl
theorem Upd.alloc{S:Nat->Prop}(hz:¬S 0){B:Nat}{O:Nat->Nat}{w:ln}(r:Rng B O w)(o:Obj)(i:Nat):Upd S O w (kN O w.heap.size i) (w.alloc o):=by
 refine⟨rfl,rfl,rfl,by simp,fun b hb _=>LW _ _ _ hb,fun b hb=>?_,fun b hb=>?_,hz⟩
 ·unfold kN;rw[if_neg];have:=(r.rng b hb).2;omega
 unfold kN at hb
 split at hb
 ·rename_i h;subst h;exact .inr ⟨IQ _,by simp⟩
 exact .inl hb
structure RowO(O:Nat->Nat)(w:ln)(i:Nat)(E:I0)(sz:Nat)(v:ix)(n:Nat)(xs:List ix):Prop where
 row:w.ownsRow 0 E sz v n xs
 tag:∀g,v.ownBlock=some g->O g=i
theorem bq{w:ln}{g:Nat}{o:Obj}(h:w.heap[g]? = some o):g<w.heap.size:=(Array.getElem?_eq_some_iff.1 h).1
theorem RowO.upd{S:Nat->Prop}{O O':Nat->Nat}{w w':ln}{i:Nat}{E:I0}{sz:Nat}{v:ix}{n:Nat}{xs:List ix}(h:RowO O w i E sz v n xs)(u:Upd S O w O' w')(hi:i≠0)(hS:¬S i):RowO O' w' i E sz v n xs:=by
 refine⟨⟨h.row.1,?_⟩,fun g hg=>?_⟩
 ·rcases h.row.2 with h1|⟨g,a2,a1,hv,hg,hh,a0⟩
  ·exact .inl h1
  refine .inr ⟨g,a2,a1,hv,hg,?_,a0⟩;rw[u.blk g (bq hh) (by rw[h.tag g (by rw[hv];rfl)];exact hS)];exact hh
 have:=h.tag g hg;rw[u.tag g (by rw[this];exact hi),this]
theorem RowO.drew{O:Nat->Nat}{w:ln}{i:Nat}{E:I0}{sz:Nat}{v:ix}{n:Nat}{xs:List ix}(h:RowO O w i E sz v n xs):RowO O w.drew i E sz v n xs:=⟨h.row,h.tag⟩
theorem RowO.nil(O:Nat->Nat)(w:ln)(i:Nat)(E:I0)(sz:Nat):RowO O w i E sz (nS) 0 []:=⟨World.ownsRow_nil _ _ _ _,fun g hg=>by simp[JF]at hg⟩
structure BlkO(O:Nat->Nat)(w:ln)(i b:Nat)(cs:Array ix)(E:I0):Prop where
 blk:w.heap[b]? = some (.cells cs E (0,0))
 tag:O b=i
theorem BlkO.upd{S:Nat->Prop}{O O':Nat->Nat}{w w':ln}{i b:Nat}{cs:Array ix}{E:I0}(h:BlkO O w i b cs E)(u:Upd S O w O' w')(hi:i≠0)(hS:¬S i):BlkO O' w' i b cs E:=
 ⟨by rw[u.blk b (bq h.blk) (by rw[h.tag];exact hS)];exact h.blk,by rw[u.tag b (by rw[h.tag];exact hi),h.tag]⟩
theorem BlkO.drew{O:Nat->Nat}{w:ln}{i b:Nat}{cs:Array ix}{E:I0}(h:BlkO O w i b cs E):BlkO O w.drew i b cs E:=⟨h.blk,h.tag⟩
theorem BlkO.new(O:Nat->Nat)(w:ln)(i:Nat)(cs:Array ix)(E:I0):BlkO (kN O w.heap.size i) (w.alloc (.cells cs E)) i w.heap.size cs E:=
 ⟨heap_alloc_new w _,dS _ _ _⟩
theorem BlkO.cell{O:Nat->Nat}{w:ln}{i b:Nat}{cs:Array ix}{E:I0}(h:BlkO O w i b cs E)(j:Nat){u:ix}(hu:cs[j]? = some u):w.cell? ⟨b,j,none⟩=some u:=by
 rw[cell_of_row w b j cs E (0,0) h.blk];exact hu
theorem BlkO.set{O:Nat->Nat}{w:ln}{i b:Nat}{cs:Array ix}{E:I0}(h:BlkO O w i b cs E)(j:Nat)(u:ix):BlkO O (w.setCell ⟨b,j,none⟩ u) i b (cs.setIfInBounds j u) E:=by
 refine⟨?_,h.tag⟩;simp only[K5,KD,if_pos]
 rw[h.blk];simp
theorem Upd.set{S:Nat->Prop}(hz:¬S 0){O:Nat->Nat}{w:ln}{i b j:Nat}{u:ix}(ht:O b=i)(hS:S i):Upd S O w O (w.setCell ⟨b,j,none⟩ u):=
 ⟨rfl,rfl,rfl,by simp[K5],fun k _ hn=>Kb _ _ _ _ (fun e=>hn (by subst e;rw[ht];exact hS)),fun _ _=>rfl,fun _ h=>.inl h,hz⟩
def RowT{α:Type}(enc:α->List ix)(E:I0)(sz:Nat)(O:Nat->Nat)(w:ln)(i:Nat)(v:ix)(l:List α):Prop:=RowO O w i E sz v l.length (l.flatMap enc)/\∀x∈l,(enc x).length=sz
theorem eD{α:Type}{enc:α->List ix}{sz:Nat}:∀(l:List α),(∀x∈l,(enc x).length=sz)->∀i (h:i<l.length) j u,(enc l[i])[j]? = some u->(l.flatMap enc)[i*sz+j]? = some u
 |x::l,hz,0,_,j,u,hu=>by
  have hl:=hz x (by simp);have hj:j<(enc x).length:=(IR.1 (by simpa using hu)).1;simp only[JJ,Kf,J7];rw[List.getElem?_append_left hj];simpa using hu
 |x::l,hz,i+1,h,j,u,hu=>by
  have hl:=hz x (by simp);simp only[JJ];rw[show(i+1)*sz+j=(enc x).length+(i*sz+j)from by rw[hl,Kl];omega,List.getElem?_append_right zo,show(enc x).length+(i*sz+j)-(enc x).length=i*sz+j from by omega];exact eD l (fun y hy=>hz y (by simp[hy])) i (by simpa using h) j u (by simpa using hu)
theorem RowT.sl{α:Type}{enc:α->List ix}{E:I0}{sz:Nat}{O:Nat->Nat}{w:ln}{i:Nat}{v:ix}{l:List α}(h:RowT enc E sz O w i v l):Sl enc sz w v l:=by
 obtain⟨⟨⟨hl,hr⟩,_⟩,hz⟩:=h
 rcases hr with⟨rfl,h0⟩|⟨g,a0,a3,rfl,_,hg,a1,a2,a4,ht⟩
 ·have:l=[]:=IF h0;subst this;exact⟨⟨none,0,rfl,IQ _,zo,fun h=>absurd rfl h⟩,fun i hi=>absurd hi (by simp)⟩
 refine⟨⟨_,a0,rfl,a1,by simpa[maxLen]using a2,fun _=>⟨g,0,rfl⟩⟩,fun i hi j u hu=>?_⟩;have:=eD l hz i hi j u hu;rw[<-ht,List.getElem?_take]at this
 split at this
 ·have ha:((adr (.slice (some ⟨g,0,none⟩) l.length a0) sz i).add j)=⟨g,i*sz+j,none⟩:=by
   simp only[adr,IY];split<;>simp_all
  rw[ha,cell_of_row w g _ a3 E (0,0) hg];simpa using this
 cases this
theorem RowT.upd{α:Type}{enc:α->List ix}{S:Nat->Prop}{O O':Nat->Nat}{w w':ln}{i:Nat}{E:I0}{sz:Nat}{v:ix}{l:List α}(h:RowT enc E sz O w i v l)(u:Upd S O w O' w')(hi:i≠0)(hS:¬S i):RowT enc E sz O' w' i v l:=
 ⟨h.1.upd u hi hS,h.2⟩
theorem RowT.drew{α:Type}{enc:α->List ix}{O:Nat->Nat}{w:ln}{i:Nat}{E:I0}{sz:Nat}{v:ix}{l:List α}(h:RowT enc E sz O w i v l):RowT enc E sz O w.drew i v l:=⟨h.1.drew,h.2⟩
theorem RowT.nil{α:Type}(enc:α->List ix)(E:I0)(sz:Nat)(O:Nat->Nat)(w:ln)(i:Nat):RowT enc E sz O w i (nS) []:=⟨RowO.nil _ _ _ _ _,by simp⟩
theorem RowO.one{O:Nat->Nat}{w:ln}{i:Nat}{E:I0}{sz:Nat}{v:ix}{n:Nat}{xs:List ix}(h:RowO O w i E sz v n xs):v.oneCell'=true:=by
 rcases h.row.2 with⟨rfl,_⟩|⟨g,a1,a0,rfl,_⟩<;>rfl
theorem RowT.one{α:Type}{enc:α->List ix}{O:Nat->Nat}{w:ln}{i:Nat}{E:I0}{sz:Nat}{v:ix}{l:List α}(h:RowT enc E sz O w i v l):v.oneCell'=true:=h.1.one
theorem RowT.put{α:Type}{val:α->ix}{O:Nat->Nat}{w:ln}{i:Nat}{E:I0}{v:ix}{l:List α}(h:RowT (fun x=>[val x]) E 1 O w i v l){n:Nat}(hn:n<l.length)(x:α):
  w.cell? (adr v 1 n)=some (val (l[n]))/\w.frozen? (adr v 1 n)=false/\RowT (fun x=>[val x]) E 1 O (w.setCell (adr v 1 n) (val x)) i v (l.set n x)/\O (adr v 1 n).block=i:=by
 have a0:=h.sl.cells n hn 0 (val l[n]) rfl;rw[ax]at a0;refine⟨a0,?_⟩;obtain⟨⟨⟨hl,hr⟩,a1⟩,hz⟩:=h
 rcases hr with⟨rfl,h0⟩|⟨g,a3,a8,rfl,a7,hg,a4,a6,a5,ht⟩
 ·omega
 have ha:adr (.slice (some ⟨g,0,none⟩) l.length a3) 1 n=⟨g,n,none⟩:=by simp[adr]
 rw[ha];have a2:∀l:List α,(l.flatMap fun x=>[val x])=l.map val:=fun l=>by induction l<;>simp_all
 refine⟨by simp[Lr,hg],⟨⟨⟨by rw[a2];simp,.inr ⟨g,a3,a8.setIfInBounds n (val x),by simp,a7,?_,by simpa using a4,a6,by simpa using a5,?_⟩⟩,by simpa using a1⟩,by simp⟩,a1 g rfl⟩
 ·simp only[K5,KD,if_pos];rw[hg];simp
 simp only[K4,List.length_set,Ku]at ht ⊢;rw[a2]at ht ⊢;rw[List.take_set,ht,List.map_set]
structure Elem(P:I6)(T E:I0)(sz bytes:Nat):Prop where
 ht:P.underlying T=some (.slice E)
 info:(P.info? E).map (fun i=>(i.zero.map (·.cells.size),i.size,i.bytes))=some (some sz,sz,bytes)
 pos:0<sz
theorem Elem.parts{P:I6}{T E:I0}{sz bytes:Nat}(h:Elem P T E sz bytes):∃i z,P.info? E=some i/\i.zero=some z/\i.size=sz/\i.bytes=bytes/\z.cells.size=sz:=by
 have:=h.info
 cases hi:P.info? E with
 |none=>rw[hi]at this;simp at this
 |some i=>
  rw[hi]at this;simp only[J3,K1,Ld]at this;obtain⟨h1,h2,h3⟩:=this
  cases hz:i.zero with
  |none=>rw[hz]at h1;simp at h1
  |some z=>rw[hz]at h1;simp at h1;exact⟨i,z,rfl,hz,h2,h3,h1⟩
theorem eS{P:I6}{w:ln}{T ty E:I0}{sz a7:Nat}(he:Elem P T E sz a7){B:Nat}{O:Nat->Nat}(r:Rng B O w){i:Nat}
  {v:ix} {n:Nat} {xs:List ix} (a1:RowO O w i E sz v n xs)
  (a:J2) (m c:Nat) (a0:List ix) (hl:a0.length=m*sz) (a3:∀j u,a0[j]? = some u->w.cell? (a.add j)=some u) (h1:∀u∈a0,u.oneCell'=true)
  (a4:(n+m)*a7<=140737488355328) (c8:n+m<=9223372036854775807) (b9:i≠0) :
  ∃v' w' O',(L2 #[T,T] ty #[v,.slice (some a) m c]).run P w=.ok v' w'/\RowO O' w' i E sz v' (n+m) (xs++a0)/\Upd (fun k=>k=i) O w O' w':=by
 obtain⟨a8,z,hi,hz,b8,c7,b7⟩:=he.parts;have ht:=he.ht;subst b8;subst c7;have a5:(xs++a0).length=(n+m)*a8.size:=by rw[JI,a1.row.1,hl,Kl]
 have b2:¬(0=i):=fun h=>b9 h.symm
 have a6:∀(old:Nat),old<n+m->
   RowO (kN O w.heap.size i) (w.drew.alloc (.cells (xs.toArray++a0.toArray++Ka z.cells (grownCap w (n+m) old E-(n+m))) E)) i E a8.size
    (.slice (some ⟨w.heap.size,0,none⟩) (n+m) (grownCap w (n+m) old E)) (n+m) (xs++a0)/\
   Upd (fun k=>k=i) O w (kN O w.heap.size i) (w.drew.alloc (.cells (xs.toArray++a0.toArray++Ka z.cells (grownCap w (n+m) old E-(n+m))) E)):=by
  intro old ho;have b':=grownCap_ge w (n+m) old E;have b5:grownCap w (n+m) old E<=maxLen:=grownCap_le_maxLen w (n+m) old E (by simpa[maxLen]using c8);refine⟨⟨⟨a5,.inr ⟨w.heap.size,_,_,rfl,J6 _,heap_alloc_new w.drew _,b',b5,?_,?_⟩⟩,?_⟩,?_⟩
  ·simp only[Array.size_append,Kd,size_zeroCells,b7,a1.row.1,hl,<-Kl];congr 1;omega
  ·simp only[Array.toList_append,J5];rw[<-J5,<-a5];exact Lt
  ·intro g hg;simp[JF]at hg;subst hg;exact dS _ _ _
  have u:=Upd.alloc (S:=fun k=>k=i) (w:=w.drew) b2 (B:=B) ⟨r.le,r.rng⟩ (.cells (xs.toArray++a0.toArray++Ka z.cells (grownCap w (n+m) old E-(n+m))) E) i;exact⟨u.os,u.tape,u.output,u.size,u.blk,u.tag,u.new,u.z⟩
 rcases a1.row.2 with⟨rfl,rfl⟩|⟨g,b1,b6,rfl,hbg,hg,c9,b5,c6,a'⟩
 ·have hx:xs=[]:=IF (by simpa using a1.row.1);subst hx
  by_cases hm:m=0
  ·subst hm;have hn:a0=[]:=IF (by simpa using hl);subst hn;refine⟨nS,w,O,?_,RowO.nil _ _ _ _ _,Upd.refl b2 _ _⟩;simp[L2,run_underlying ht,J0,typeInfo,hi,MD,ME,loadCells,loadCellsFrom]
  have hr:=run_append_nil (P:=P) w T ty E a8 z ht hi hz a m c a0 hl a3 zo zo (by have hb:=a4;simp only[J7]at hb;omega);have a9:=a6 0 zo;simp only[J7,JW,Array.empty_append]at a9 ⊢;exact⟨_,_,_,hr,a9.1,a9.2⟩
 have b3:O g=i:=a1.tag g rfl
 by_cases a2:n+m<=b1
 ·have b4:n*a8.size+a0.length<=b6.size:=by rw[hl,c6,<-Kl];exact Nat.mul_le_mul_right _ a2
  have hr:=run_append_room (P:=P) w T ty E a8 ht hi g n b1 b6 hg a m c a0 hl a3 h1 a2 b4;refine⟨_,_,O,hr,⟨⟨a5,.inr ⟨g,b1,_,rfl,hbg,setRow_heap w g b6 _ E _ hg,a2,b5,?_,?_⟩⟩,fun g' c5=>a1.tag g' c5⟩,⟨rfl,rfl,rfl,by simp,fun k _ hk=>setRow_other w g k _ (fun e=>hk (by subst e;exact b3)),fun _ _=>rfl,fun _ h=>.inl h,b2⟩⟩
  ·simp only[Kd,JI,List.length_take,List.length_drop,KN];omega
  rw[a',<-a5];exact Lt
 have b0:∀j u,xs[j]? = some u->w.cell? (nA g j)=some u:=a1.row.cells (g:=g) rfl;have hr:=run_append_grow (P:=P) w T ty E a8 z ht hi hz ⟨g,0,none⟩ n b1 xs a1.row.1 b0 a m c a0 hl a3 zo zo (growslice_fits zo a4);have a9:=a6 b1 zo;exact⟨_,_,_,hr,a9.1,a9.2⟩
theorem foldl_set(f:Array ix->ix×Nat->Array ix)(hf:∀cs c j,f cs (c,j)=cs.setIfInBounds (0+j) c):∀(l:List ix) (k:Nat) (cs:Array ix),k+l.length<=cs.size->
  (l.zipIdx k).foldl f cs=(cs.toList.take k++l++cs.toList.drop (k+l.length)).toArray
 |[],k,cs,_=>by simp
 |u::l,k,cs,h=>by
  simp only[JO]at h;simp only[List.zipIdx_cons,JX];rw[foldl_set f hf l (k+1) _ (by rw[hf];simp;omega),hf];simp only[J7,Ku];have hk:k<cs.toList.length:=by simp;omega
  congr 1;rw[show k+1+l.length=k+(u::l).length from by simp;omega];have h1:(cs.toList.set k u).take (k+1)=cs.toList.take k++[u]:=by
   rw[Kc (by simpa using hk)];simp[List.take_set_of_le]
  have h2:(cs.toList.set k u).drop (k+(u::l).length)=cs.toList.drop (k+(u::l).length):=by
   rw[List.drop_set_of_lt (by simp)]
  rw[h1,h2];simp
theorem jZ{sz:Nat}{cells:Array ix}{v:ix}(h1:v.cells.size=sz)(h2:cells.size=sz):JG (fun i=>some (i*sz,sz)) cells [(0,v)]=some v.cells:=by
 simp only[JG,Kf,h1,h2];simp only[J7,ne_eq,not_true_eq_false,decide_false,gt_iff_lt,Nat.lt_irrefl,Bool.or_self,Bool.false_eq_true,if_false];have:=foldl_set (fun cs (x:ix×Nat)=>cs.setIfInBounds (0+x.2) x.1) (fun _ _ _=>rfl) v.cells.toList 0 cells (by simp;omega);simp only[J7]at this;rw[<-Array.foldl_toList,Array.toList_zipIdx,this];simp only[Ls,JW];rw[KC (by simp;omega)];simp
section
variable{P:I6}{N:Nat}{ops:Array IL}{Q:J1→Ji→ln→Prop}{rest:List IL}{st:St}{w:ln}
variable{t t':I0}{p p':String}{e e':Array Jv}{d d':Nat}{x y z:I3}
theorem WL.push{T E:I0}{sz a0:Nat}(he:Elem P T E sz a0){α:Type}{enc:α->List ix}{B:Nat}{O:Nat->Nat}{i:Nat}{v:ix}{l:List α}(hr:RowT enc E sz O w i v l)(r:Rng B O w)(u:α){xv:ix}
  (hv:∀c,ev ((d,c)::st) y=some v) (hx:ev st x=some xv) (a6:xv.cells.toList=enc u) (a7:(enc u).length=sz) (a':∀c∈enc u,c.oneCell'=true)
  (hb:(l.length+1)*a0<=140737488355328) (b4:l.length+1<=9223372036854775807) (a5:i≠0) (hs:sz<=16777216) (hd:I1 d N=true) (b2:I1 d' N=true)
  (h:∀v' w' O',RowT enc E sz O' w' i v' (l++[u])->Upd (fun k=>k=i) O w O' w'->Rng B O' w'->WL P N ops Q rest ((d',v')::(d,.slice (some ⟨w.heap.size,0,none⟩) 1 1)::st) w') :
  WL P N ops Q (⟨some d,.buildSlice T 1 #[(0,x)],t,p,e,none⟩::⟨some d',.call ⟨.builtin .append,#[y,.tmp d],#[T,T]⟩,t',p',e',none⟩::rest) st w:=by
 obtain⟨a8,z,hi,hz,a2,b6,b5⟩:=he.parts;have b3:xv.cells.size=sz:=by rw[<-a7,<-a6];simp
 have b1:=he.pos;refine WL.val (v:=.slice (some ⟨w.heap.size,0,none⟩) 1 1) (w':=w.alloc (.cells xv.cells E)) hd (fun a ha=>?_) ?_
 ·have:=run_buildSlice (P:=P) w T E 1 #[(0,xv)] xv.cells a8 z he.ht hi hz (by rw[a2];omega) (by rw[a2];omega) (by
   rw[a2]
   exact jZ b3 (by simp))
  simp only[execOp,I7,IM,J4,ha.ev hx,I4,this,I2];rfl
 have a9:¬(fun k=>k=i) 0:=fun h=>a5 h.symm
 have hE:=Ext.alloc w (.cells xv.cells E);have r1:=r.ext hE;have b0:RowT enc E sz O (w.alloc (.cells xv.cells E)) i v l:=hr.upd (aa (S:=fun _=>False) (fun h=>h) O hE) a5 (fun h=>h)
 obtain⟨v',w',O',a3,a4,a1⟩:=eS (P:=P) (ty:=t') he r1 b0.1 ⟨w.heap.size,0,none⟩ 1 1 (enc u) zo (fun j c hc=>by
  rw[show((⟨w.heap.size,0,none⟩:J2).add j)=⟨w.heap.size,j,none⟩from by simp only[IY];split<;>simp_all,cell_of_row _ _ j xv.cells E (0,0) (heap_alloc_new w _)]
  rw[<-a6]at hc;simpa using hc) a' hb b4 a5
 refine WL.val (v:=v') (w':=w') b2 (fun a ha=>?_) ?_
 ·simp only[execOp,resolve,invoke,builtin,I4,IP,I2,I7,IM,J4,ha.ev (hv _),ha.ev (x:=.tmp d) (v:=.slice (some ⟨w.heap.size,0,none⟩) 1 1) (by simp[ev,cf]),a3]
 have hU:Upd (fun k=>k=i) O w O' w':=Upd.trans (aa a9 O hE) a1;refine h v' w' O' ⟨by simpa using a4,?_⟩ hU (r.upd hU);intro c hc
 rcases Jh.1 hc with hc|hc
 ·exact hr.2 c hc
 rw[II.1 hc];exact a7
theorem aj{T:I0}{O:Nat->Nat}{i b j:Nat}{cs:Array ix}{E:I0}{u c:ix}(hb:BlkO O w i b cs E)(hj:cs[j]? = some c)(hT:(J0 T).run P w=.ok 1 w)(h1:u.oneCell'=true)
  {q:J2} (hx:ev st x=some (.pointer (some q))) (hq:q=⟨b,j,none⟩) (hy:ev st y=some u)
  (h:WL P N ops Q rest st (w.setCell ⟨b,j,none⟩ u)):WL P N ops Q (⟨none,.store T x y,t,p,e,none⟩::rest) st w:=
 gQ (fun a ha=>by
  subst hq;have hc:=hb.cell j hj;have hf:w.frozen? ⟨b,j,none⟩=false:=by simp[Lr,hb.blk]
  simp only[execOp,ha.ev hx,ha.ev hy]
  cases u<;>simp[Jk]at h1<;>simp[K6,Ja,storeVar,hT,KF,storeCells,store,Kv,hc,hf,IY]) h
theorem WL.storeAt{T:I0}{α:Type}{val:α->ix}{O:Nat->Nat}{i:Nat}{E:I0}{v:ix}{l:List α}(hr:RowT (fun x=>[val x]) E 1 O w i v l)(n:Nat)(hn:n<l.length)(u:α)(hT:(J0 T).run P w=.ok 1 w)(h1:(val u).oneCell'=true)(a1:i≠0)
  {q:J2} {uv:ix} (hx:ev st x=some (.pointer (some q))) (hq:q=adr v 1 n) (hy:ev st y=some uv) (hu:uv=val u)
  (h:∀w',RowT (fun x=>[val x]) E 1 O w' i v (l.set n u)->Upd (fun j=>j=i) O w O w'->WL P N ops Q rest st w'):WL P N ops Q (⟨none,.store T x y,t,p,e,none⟩::rest) st w:=by
 subst hq;subst hu;obtain⟨hc,hf,a0,ht⟩:=hr.put hn u;refine gQ (w':=w.setCell (adr v 1 n) (val u)) (fun a ha=>?_) (h _ a0 ?_)
 ·simp only[execOp,ha.ev hx,ha.ev hy];generalize val u=uv at *
  cases uv<;>simp[Jk]at h1<;>simp[K6,Ja,storeVar,hT,KF,storeCells,store,Kv,hc,hf,IY]
 refine⟨rfl,rfl,rfl,by simp[K5],fun k _ hn=>Kb _ _ _ _ (fun e=>hn (by rw[e];exact ht)),fun _ _=>rfl,fun _ h=>.inl h,fun h=>a1 h.symm⟩
end
end Go.VL
end
section
namespace Go.VL
def Calm(Q:J1->Ji->ln->Prop):J1->Ji->ln->Prop
 |.panic _,_,_=>False
 |e,a,w=>Q e a w
theorem Calm.imp{Q:J1->Ji->ln->Prop}:∀ {e:J1} {a:Ji} {w:ln},Calm Q e a w->Q e a w:=by
 intro e a w h
 cases e<;>first|exact h|exact h.elim
section
variable(P:I6)(N:Nat)
def WH(ops:Array IL)(S:ln->Prop)(Q:J1->Ji->ln->Prop)(a1:Nat)(a0:Array Bool)(st:St)(w:ln):Prop:=
 ∀a,Fits N a st->wpAnyH P .any ops (Calm Q) S a1 a0 a w
end
section
variable{P:I6}{N:Nat}{ops:Array IL}{S:ln→Prop}{Q:J1→Ji→ln→Prop}{st:St}{w:ln}{fuel:Nat}{listed:Array Bool}
theorem aK{id:Nat}{l:List IL}(S:ln->Prop)(n:Nat)(hn:l.length=n)(hm:P.follows .mixedOrders=true)
  (h:WH P N l.toArray S Q n (Kj n false) st w.drew):WC P N (Ki id l.toArray true) Q st w:=fun a ha=>by
 refine wp_mono (Q:=Calm Q) (wp_region_held (S:=S) hm ?_) fun e a w h=>h.imp
 have:=h a ha;simp only[Kd,hn];exact this
theorem WH.take{op:Op}{t:I0}{p:String}{e:Array Jv}{d:Nat}{v:ix}(i:Nat)(hi:ops[i]? = some ⟨some d,op,t,p,e,none⟩)
  (hs:IJ ops=true) (hf:IT .any ops listed i=true) (hr:(IH .any ops listed).contains i=true) (hS:S w)
  (hv:∀w',S w'->RV P N op t st w' v) (hd:I1 d N=true) (h:WH P N ops S Q fuel (listed.setIfInBounds i true) ((d,v)::st) w):WH P N ops S Q (fuel+1) listed st w:=by
 intro a ha;refine wpAnyH_take (v:=v) hi hs hf hr (fun _ _ _ h=>h) (.inl ⟨by simp[IK],fun w' a0=>hv w' a0 a ha _ _ _ _⟩) hS ?_;exact h _ (ha.put hd v)
theorem tn{op:Op}{t:I0}{p:String}{e:Array Jv}{d j:Nat}{b:Bool}{v:ix}(i:Nat)(hi:ops[i]? = some ⟨some d,op,t,p,e,some (j,b)⟩)(hg:said ops st j=some b)
  (hs:IJ ops=true) (hf:IT .any ops listed i=true) (hr:(IH .any ops listed).contains i=true) (hS:S w)
  (hv:∀w',S w'->RV P N op t st w' v) (hd:I1 d N=true) (h:WH P N ops S Q fuel (listed.setIfInBounds i true) ((d,v)::st) w):WH P N ops S Q (fuel+1) listed st w:=by
 intro a ha;refine wpAnyH_take (v:=v) hi hs hf hr (fun _ _ _ h=>h) (.inl ⟨by simp[IK,bS ha hg],fun w' a0=>hv w' a0 a ha _ _ _ _⟩) hS ?_;exact h _ (ha.put hd v)
theorem yK{op:Op}{t:I0}{p:String}{e:Array Jv}{d j:Nat}{b b':Bool}(i:Nat)(hi:ops[i]? = some ⟨some d,op,t,p,e,some (j,b)⟩)(hg:said ops st j=some b')(a0:(b'==b)=false)
  (hs:IJ ops=true) (hf:IT .any ops listed i=true) (hr:(IH .any ops listed).contains i=true) (hS:S w)
  (hd:I1 d N=true) (h:WH P N ops S Q fuel (listed.setIfInBounds i true) ((d,undef)::st) w):WH P N ops S Q (fuel+1) listed st w:=by
 intro a ha;refine wpAnyH_take (v:=undef) hi hs hf hr (fun _ _ _ h=>h) (.inr ⟨?_,rfl⟩) hS ?_
 ·have:(b'==b)=false:=a0;simp[IK,bS ha hg];simpa using this
 exact h _ (ha.put hd undef)
theorem vi{op:Op}{t:I0}{p:String}{e:Array Jv}{d j:Nat}{b:Bool}(i:Nat)(hi:ops[i]? = some ⟨some d,op,t,p,e,some (j,b)⟩)(hg:iW ops st j=true)
  (hs:IJ ops=true) (hf:IT .any ops listed i=true) (hr:(IH .any ops listed).contains i=true) (hS:S w)
  (hd:I1 d N=true) (h:WH P N ops S Q fuel (listed.setIfInBounds i true) ((d,undef)::st) w):WH P N ops S Q (fuel+1) listed st w:=by
 intro a ha;refine wpAnyH_take (v:=undef) hi hs hf hr (fun _ _ _ h=>h) (.inr ⟨?_,rfl⟩) hS ?_
 ·unfold iW at hg;simp only[IK,yielded]
  cases hd:(ops[j]?).bind (·.dst)with
  |none=>rw[hd]at hg;simp at hg
  |some d=>
   rw[hd]at hg;simp only at hg
   cases hx:cf st d with
   |none=>rw[hx]at hg;simp at hg
   |some v=>
    rw[hx]at hg
    cases v<;>simp at hg
    simp[ha.get _ _ hx]
 exact h _ (ha.put hd undef)
def qU(P:I6)(ops:Array IL)(S:ln->Prop)(Q:J1->Ji->ln->Prop)(a1:Nat)(a0:Array Bool):J1->Ji->ln->Prop:=
 Exit.then (fun a' w'=>S w'/\wpAnyH P .any ops (Calm Q) S a1 a0 a' w') (Calm Q)
theorem af{i:Nat}(hS:S w)(h:WH P N ops S Q fuel (listed.setIfInBounds i true) st w):QF N (qU P ops S Q fuel (listed.setIfInBounds i true)) .normal st w:=fun a ha=>⟨hS,h a ha⟩
theorem WH.all(rs:List Nat)(hr:IH .any ops listed=rs)(a0:rs≠[])
  (h:∀i∈rs,∀o,ops[i]? = some o->WL P N ops (qU P ops S Q fuel (listed.setIfInBounds i true)) [o] st w):WH P N ops S Q (fuel+1) listed st w:=by
 intro a ha;refine wpAnyH_all hr a0 fun i hi=>?_
 have a1:∃o,ops[i]? = some o:=by
  rw[<-hr]at hi;simp only[IH,List.mem_filter,Jt]at hi;exact⟨_,Array.getElem?_eq_getElem hi.1⟩
 obtain⟨o,ho⟩:=a1;have h1:=h i hi o ho a ha;unfold wpOp;simp only[ho];unfold wpList at h1
 split
 ·rename_i hw;rw[if_pos hw]at h1;refine h1.imp (fun h2=>?_) (fun⟨h2,h3⟩=>⟨h2,h3⟩);unfold Jo at h2 ⊢;generalize (execOp a.eval o).run P w=r at *
  cases r with
  |ok n w'=>
   cases n<;>simp only[JN]at h2 ⊢<;>first
    |exact h2
    |exact IV h2 (fun e w'' he=>by cases e<;>exact he)
    |exact Lc h2 (fun _ _ he=>he)
  |halt x w'=>cases x<;>simp only[JN]at h2 ⊢<;>exact h2
 rename_i hw;rw[if_neg hw]at h1;exact h1
theorem WH.one(i:Nat){o:IL}(hr:IH .any ops listed=[i])(hi:ops[i]? = some o)
  (h:WL P N ops (qU P ops S Q fuel (listed.setIfInBounds i true)) [o] st w):WH P N ops S Q (fuel+1) listed st w:=
 WH.all [i] hr (by simp) fun j hj o' a0=>by
  simp only[II]at hj;subst hj;rw[hi]at a0;cases a0;exact h
theorem bZ(i j:Nat){o o':IL}(hr:IH .any ops listed=[i,j])(hi:ops[i]? = some o)(hj:ops[j]? = some o')
  (h:WL P N ops (qU P ops S Q fuel (listed.setIfInBounds i true)) [o] st w) (h':WL P N ops (qU P ops S Q fuel (listed.setIfInBounds j true)) [o'] st w):WH P N ops S Q (fuel+1) listed st w:=
 WH.all [i,j] hr (by simp) fun k hk q hq=>by
  simp only[Ly,List.not_mem_nil,or_false]at hk
  rcases hk with rfl|rfl
  ·rw[hi]at hq;cases hq;exact h
  rw[hj]at hq;cases hq;exact h'
theorem lx{d:Nat}{b b':Bool}(hs:cf st d=some (.bool b))(hb:b=b')(h:WH P N ops S Q fuel listed ((d,.bool b')::st) w):WH P N ops S Q fuel listed st w:=by
 subst hb;refine fun a ha=>h a ⟨ha.size,ha.defers,fun t v hv=>?_⟩
 simp only[cf]at hv
 cases hb:Jf d t with
 |true=>rw[hb]at hv;have:=IE hb;subst this;simp at hv;subst hv;exact ha.get _ _ hs
 |false=>rw[hb]at hv;exact ha.get _ _ hv
theorem WH.done(hr:IH .any ops listed=[])(h:QF N Q .normal st w):WH P N ops S Q fuel listed st w:=fun a ha=>wpAnyH_done (Q:=Calm Q) hr (show Calm Q .normal a w from h a ha) fuel
end
section
variable(P:I6)(N:Nat)
def WS(ops:Array IL)(w:ln)(K:Ji->Prop)(l:List IL)(st:St):Prop:=∀a,Fits N a st->wpStill P ops w K l a
end
section
variable{P:I6}{N:Nat}{ops:Array IL}{Q:J1→Ji→ln→Prop}{K:Ji→Prop}{st:St}{w:ln}{rest:List IL}
theorem WC.tail{id:Nat}{l hd tl:List IL}(n:Nat)(ht:l.take n=hd)(a0:l.drop n=tl)(hm:P.follows .mixedOrders=true)(hB:Region.lexTailB .any l.toArray n=true)
  (h:WS P N l.toArray w.drew (fun a'=>wpList P l.toArray Q tl a' w.drew) hd st):WC P N (Ki id l.toArray true) Q st w:=fun a ha=>by
 subst ht;subst a0;exact wp_region_still_tail n hm hB (h a ha)
theorem WC.still{id:Nat}{l:List IL}(hm:P.follows .mixedOrders=true)(hB:Region.lexB .any l.toArray=true)
  (h:WS P N l.toArray w.drew (fun a'=>Q .normal a' w.drew) l st):WC P N (Ki id l.toArray true) Q st w:=fun a ha=>by
 exact wp_region_still_lit hm hB (h a ha)
theorem WS.go{tl:List IL}(h:WL P N ops Q tl st w):WS P N ops w (fun a'=>wpList P ops Q tl a' w) [] st:=fun a ha=>h a ha
theorem WS.nil(h:QF N Q .normal st w):WS P N ops w (fun a'=>Q .normal a' w) [] st:=fun a ha=>h a ha
theorem oF{op:Op}{t:I0}{p:String}{e:Array Jv}{d:Nat}{v:ix}(hv:RV P N op t st w v)(hd:I1 d N=true)
  (h:WS P N ops w K rest ((d,v)::st)):WS P N ops w K (⟨some d,op,t,p,e,none⟩::rest) st:=fun a ha=>by
 unfold wpStill;rw[if_pos (cz rfl _)];unfold LX;rw[hv a ha];exact⟨rfl,h _ (ha.put hd v)⟩
theorem G7{op:Op}{t:I0}{p:String}{e:Array Jv}{d:Option M7}{j:Nat}{b:Bool}(hs:said ops st j=some b)
  (h:WS P N ops w K (⟨d,op,t,p,e,none⟩::rest) st):WS P N ops w K (⟨d,op,t,p,e,some (j,b)⟩::rest) st:=by
 intro a ha;have h1:=h a ha;unfold wpStill at h1 ⊢;rw[if_pos (by simp[IK])]at h1;rw[if_pos (by simp[IK,bS ha hs])];exact h1
theorem WS.off{op:Op}{t:I0}{p:String}{e:Array Jv}{d:Nat}{j:Nat}{b b':Bool}(hs:said ops st j=some b')(a0:(b'==b)=false)(hd:I1 d N=true)
  (h:WS P N ops w K rest ((d,undef)::st)):WS P N ops w K (⟨some d,op,t,p,e,some (j,b)⟩::rest) st:=by
 intro a ha;unfold wpStill;rw[if_neg (by simp[IK,bS ha hs];simpa using a0)];exact h _ (ha.put hd undef)
theorem Bn{op:Op}{t:I0}{p:String}{e:Array Jv}{d:Nat}{j:Nat}{b:Bool}(hs:iW ops st j=true)(hd:I1 d N=true)
  (h:WS P N ops w K rest ((d,undef)::st)):WS P N ops w K (⟨some d,op,t,p,e,some (j,b)⟩::rest) st:=by
 intro a ha;unfold wpStill;rw[if_neg ?_]
 ·exact h _ (ha.put hd undef)
 unfold iW at hs;simp only[IK,yielded]
 cases hd:(ops[j]?).bind (·.dst)with
 |none=>rw[hd]at hs;simp at hs
 |some d=>
  rw[hd]at hs;simp only at hs
  cases hx:cf st d with
  |none=>rw[hx]at hs;simp at hs
  |some v=>
   rw[hx]at hs
   cases v<;>simp at hs
   simp[ha.get _ _ hx]
theorem ct{d:Nat}{b b':Bool}{l:List IL}(hs:cf st d=some (.bool b))(hb:b=b')(h:WS P N ops w K l ((d,.bool b')::st)):WS P N ops w K l st:=by
 subst hb;refine fun a ha=>h a ⟨ha.size,ha.defers,fun t v hv=>?_⟩
 simp only[cf]at hv
 cases hb:Jf d t with
 |true=>rw[hb]at hv;have:=IE hb;subst this;simp at hv;subst hv;exact ha.get _ _ hs
 |false=>rw[hb]at hv;exact ha.get _ _ hv
theorem WS.call{t:I0}{p:String}{e:Array Jv}{d:Nat}{f:Ju}{args:List I3}{a2:Array I0}{vs:List ix}{v:ix}
  (hf:∀(args:Array ix) (w:ln),(callFunc f args).run P w=.ok (.enter f args) w) (a0:evs st args=some vs) (hc:Ret P f vs w fun u w'=>u=v/\w'=w) (hd:I1 d N=true)
  (h:WS P N ops w K rest ((d,v)::st)):WS P N ops w K (⟨some d,.call ⟨.value (.func f),args.toArray,a2⟩,t,p,e,none⟩::rest) st:=by
 intro a ha;unfold wpStill;rw[if_pos (cz rfl _)];unfold LX;have a1:(execOp a.eval ⟨some d,.call ⟨.value (.func f),args.toArray,a2⟩,t,p,e,none⟩).run P w=.ok (.enter f vs.toArray) w:=by
  simp only[execOp,resolve,Jb,I7];rw[ha.evs a0];simp[J9,invoke,hf]
 rw[a1];refine⟨rfl,v,IV hc fun e w' q=>?_,h _ (ha.put hd v)⟩
 cases e with
 |returned u=>exact⟨by rw[q.1],q.2⟩
 |panicked c=>exact q.elim
 |outgrown=>exact q.elim
end
end Go.VL
end
section
namespace Go.VL
section
variable{κ ν:Type}{kv:κ→ix}{vv:ν→ix}
structure MapO{κ ν:Type}(kv:κ->ix)(vv:ν->ix)(O:Nat->Nat)(w:ln)(i r:Nat)(l:List (κ×ν)):Prop where
 blk:∃es clock,w.heap[r]? = some (.map es clock)/\es.toList.map (fun e=>(e.key,e.val))=l.map fun p=>(kv p.1,vv p.2)
 tag:O r=i
 born:∀es clock,w.heap[r]? = some (.map es clock)->(es.toList.map (·.born)).Nodup/\∀e∈es.toList,e.born<clock
theorem MapO.upd{S:Nat->Prop}{O O':Nat->Nat}{w w':ln}{i r:Nat}{l:List (κ×ν)}(h:MapO kv vv O w i r l)(u:Upd S O w O' w')(hi:i≠0)(hS:¬S i):MapO kv vv O' w' i r l:=by
 obtain⟨es,c,h1,h2⟩:=h.blk;have e:=u.blk r (bq h1) (by rw[h.tag];exact hS);exact⟨⟨es,c,by rw[e];exact h1,h2⟩,by rw[u.tag r (by rw[h.tag];exact hi),h.tag],fun a0 c' h'=>h.born a0 c' (by rw[<-e];exact h')⟩
theorem MapO.new(O:Nat->Nat)(w:ln)(i:Nat):MapO kv vv (kN O w.heap.size i) (w.alloc (.map #[] 0)) i w.heap.size []:=⟨⟨#[],0,heap_alloc_new w _,by simp⟩,dS _ _ _,fun es c h=>by rw[heap_alloc_new]at h;cases h;simp⟩
end
section
variable{κ ν:Type}[DecidableEq κ]
def bm:List (κ×ν)->κ->Option ν
 |[],_=>none
 |(a,x)::r,k=>if a=k then some x else bm r k
def cp:List (κ×ν)->κ->ν->List (κ×ν)
 |[],k,x=>[(k,x)]
 |(a,y)::r,k,x=>if a=k then(k,x)::r else(a,y)::cp r k x
def iz:List (κ×ν)->κ->Option Nat
 |[],_=>none
 |(a,_)::r,k=>if a=k then some 0 else(iz r k).map (· + 1)
theorem aU(l:List (κ×ν))(k k':κ)(x:ν):bm (cp l k x) k'=if k=k' then some x else bm l k':=by
 induction l with
 |nil=>simp[cp,bm]
 |cons p r ih=>
  obtain⟨a,y⟩:=p;simp only[cp]
  by_cases h:a=k
  ·subst h;simp only[if_pos,bm]
   by_cases h2:a=k'<;>simp[h2]
  simp only[if_neg h,bm]
  by_cases h2:a=k'
  ·subst h2;simp only[if_true];rw[if_neg (fun e=>h e.symm)]
  simp[h2,ih]
structure KeyL(P:I6)(K:I0)(kv:κ->ix):Prop where
 check:∀b n k w,(Kq b (n+2) K (kv k)).run P w=.ok () w
 find:∀k (es:List Ln) (ks:List κ) w,es.map (·.key)=ks.map kv->(Ky K (kv k) es).run P w=.ok ((ks.findIdx? (· = k)).bind fun i=>(es[i]?).map fun e=>(i,e.val)) w
 same:∀k,Kp 10000 (kv k) (kv k)=true
theorem KeyL.int{P:I6}{K:I0}{q:I9}(hK:P.underlying K=some (.int q)):KeyL P K (fun n:Int=>Jq q n):=by
 refine⟨fun b n k w=>?_,fun k es ks w h=>?_,fun k=>?_⟩
 ·simp[Kq,run_underlying hK]
 ·have key:∀(es:List Ln) (ks:List Int) (j:Nat),es.map (·.key)=ks.map (fun n=>Jq q n)->
    Jz (.int q) (.int q k) es j=some ((ks.findIdx? (· = k)).bind fun i=>(es[i]?).map fun e=>(j+i,e.val)):=by
   intro es
   induction es with
   |nil=>intro ks j h;cases ks with
    |nil=>simp[Jz]
    |cons a r=>simp at h
   |cons e es ih=>
    intro ks j h
    cases ks with
    |nil=>simp at h
    |cons a r=>
     simp only[IM,JK]at h;simp only[Jz,h.1,Lu,if_true]
     by_cases hk:k=a
     ·subst hk;simp[Js]
     have:(k==a)=false:=by simpa using hk
     rw[this];simp only;rw[ih r (j+1) h.2];simp only[Js,decide_eq_true_eq];rw[if_neg (fun e=>hk e.symm)]
     cases hf:Lz (fun x=>decide (x=k)) r with
     |none=>simp
     |some i=>simp[LL,LU 1]
  have:=key es ks 0 h;simp only[J7]at this;simp[Ky,run_underlying hK,this]
 simp[Kp]
theorem De(a b:ByteArray):(a==b)=decide (a=b):=by
 cases a with|mk a=>cases b with|mk b=>
 show(a==b)=_
 by_cases h:a=b
 ·subst h;simp
 have:(a==b)=false:=by simpa using h
 rw[this];symm;simpa using h
theorem CV{P:I6}{K:I0}(hK:P.underlying K=some .string):KeyL P K Lw:=by
 refine⟨fun b n k w=>?_,fun k es ks w h=>?_,fun k=>?_⟩
 ·simp[Kq,run_underlying hK]
 ·have key:∀(es:List Ln) (ks:List ByteArray) (j:Nat),es.map (·.key)=ks.map Lw->
    Jz .string (.string k) es j=some ((ks.findIdx? (· = k)).bind fun i=>(es[i]?).map fun e=>(j+i,e.val)):=by
   intro es
   induction es with
   |nil=>intro ks j h;cases ks with
    |nil=>simp[Jz]
    |cons a r=>simp at h
   |cons e es ih=>
    intro ks j h
    cases ks with
    |nil=>simp at h
    |cons a r=>
     simp only[IM,JK]at h;simp only[Jz,h.1,Lu,De]
     by_cases hk:k=a
     ·subst hk;simp[Js]
     have:decide (k=a)=false:=by simpa using hk
     rw[this];simp only;rw[ih r (j+1) h.2];simp only[Js,decide_eq_true_eq];rw[if_neg (fun e=>hk e.symm)]
     cases hf:Lz (fun x=>decide (x=k)) r with
     |none=>simp
     |some i=>simp[LL,LU 1]
  have:=key es ks 0 h;simp only[J7]at this;simp[Ky,run_underlying hK,this]
 simp[Kp,De]
variable{kv:κ→ix}{vv:ν→ix}
theorem dQ:∀(l:List (κ×ν)) (k:κ),(l.map (·.1)).findIdx? (· = k)=iz l k
 |[],k=>rfl
 |(a,x)::r,k=>by
  simp only[IM,Js,iz,decide_eq_true_eq]
  by_cases h:a=k
  ·simp[h]
  simp only[if_neg h];rw[dQ r k]
theorem ky:∀(l:List (κ×ν)) (k:κ),bm l k=(iz l k).bind fun i=>(l[i]?).map (·.2)
 |[],k=>rfl
 |(a,x)::r,k=>by
  simp only[bm,iz]
  by_cases h:a=k
  ·simp[h]
  simp only[if_neg h];rw[ky r k]
  cases iz r k<;>simp
theorem dZ:∀(l:List (κ×ν)) (k:κ) (x:ν),cp l k x=match iz l k with
  |some i=>l.set i (k,x)
  |none=>l++[(k,x)]
 |[],k,x=>rfl
 |(a,y)::r,k,x=>by
  simp only[cp,iz]
  by_cases h:a=k
  ·simp[h]
  simp only[if_neg h];rw[dZ r k x]
  cases iz r k<;>simp
theorem gO:∀ {l:List (κ×ν)} {k:κ} {i:Nat},iz l k=some i->∃x,l[i]? = some (k,x)
 |(a,x)::r,k,i,h=>by
  simp only[iz]at h
  by_cases hk:a=k
  ·subst hk;simp at h;subst h;exact⟨x,rfl⟩
  rw[if_neg hk]at h
  cases hr:iz r k with
  |none=>rw[hr]at h;simp at h
  |some j=>
   rw[hr]at h;simp at h;subst h;obtain⟨y,hy⟩:=gO hr;exact⟨y,by simpa using hy⟩
def Fe(vv:ν->ix)(z:ix):Option ν->ix
 |some x=>vv x
 |none=>z
def Dg(vv:ν->ix)(z:ix):Option ν->ix
 |some x=>.tuple #[vv x,.bool true]
 |none=>.tuple #[z,.bool false]
theorem iJ{P:I6}{T K E:I0}(hT:P.underlying T=some (.map K E))(hK:KeyL P K kv){O:Nat->Nat}{w:ln}{i r:Nat}{l:List (κ×ν)}(h:MapO kv vv O w i r l){z:ix}(hz:(JB E).run P w=.ok z w)(k:κ)(ok:Bool):
  (LC T (.map (some r)) (kv k) ok).run P w=.ok (match bm l k with
   |some x=>if ok then .tuple #[vv x,.bool true]else vv x
   |none=>if ok then .tuple #[z,.bool false]else z) w:=by
 obtain⟨es,c,h1,h2⟩:=h.blk;have a0:es.toList.map (·.key)=(l.map (·.1)).map kv:=by
  have:=congrArg (Kw M8) h2;simpa[KI]using this
 have hf:=hK.find k es.toList (l.map (·.1)) w a0;rw[dQ]at hf;have hc:=hK.check es.isEmpty 9998 k w;simp only[LC,I4,run_underlying hT,I2];simp only[getObj,Kv,h1,I4,I2,IP,hc,hf];rw[ky]
 cases hi:iz l k with
 |none=>simp[hz]
 |some j=>
  obtain⟨x,hx⟩:=gO hi;have hj:es.toList[j]?.map (fun e=>(e.key,e.val))=some (kv k,vv x):=by
   have:=congrArg (fun l=>l[j]?) h2;simpa[hx]using this
  cases he:es.toList[j]? with
  |none=>rw[he]at hj;simp at hj
  |some e'=>
   rw[he]at hj;simp at hj;simp only[KZ,he,hx,J3,hj.2]
   cases ok<;>simp
theorem dE{P:I6}{T K E:I0}(hT:P.underlying T=some (.map K E))(hK:KeyL P K kv){O:Nat->Nat}{w:ln}{i r:Nat}{l:List (κ×ν)}(h:MapO kv vv O w i r l)(a':i≠0)(k:κ)(x:ν):
  ∃w',(Kh T (.map (some r)) (kv k) (vv x)).run P w=.ok () w'/\MapO kv vv O w' i r (cp l k x)/\Upd (fun j=>j=i) O w O w':=by
 obtain⟨es,c,h1,h2⟩:=h.blk;have a9:es.toList.map (·.key)=(l.map (·.1)).map kv:=by
  have:=congrArg (Kw M8) h2;simpa[KI]using this
 have hf:=hK.find k es.toList (l.map (·.1)) w a9;rw[dQ]at hf;have hc:=hK.check false 9998 k w;have hr:=bq h1;have a8:es.size=l.length:=by have:=congrArg List.length h2;simpa using this
 have a1:=h.born es c h1;have a6:∀(a0:Array Ln) (c':Nat),((a0.toList.map (·.born)).Nodup/\∀e∈a0.toList,e.born<c')->a0.toList.map (fun e=>(e.key,e.val))=(cp l k x).map (fun p=>(kv p.1,vv p.2))->
   MapO kv vv O { w with heap:=w.heap.setIfInBounds r (.map a0 c') } i r (cp l k x)/\Upd (fun j=>j=i) O w O { w with heap:=w.heap.setIfInBounds r (.map a0 c') }:=by
  intro a0 c' a4 he;refine⟨⟨⟨a0,c',by simp[hr],he⟩,h.tag,fun b0 c2 h2=>by simp[hr]at h2;obtain⟨rfl,rfl⟩:=h2;exact a4⟩,⟨rfl,rfl,rfl,by simp,fun b _ hn=>?_,fun _ _=>rfl,fun _ h=>.inl h,fun h=>a' h.symm⟩⟩;simp only[Kk];rw[if_neg (fun e=>hn (by rw[<-e];exact h.tag))]
 have a2:(Kh T (.map (some r)) (kv k) (vv x)).run P w=((match ((iz l k).bind fun i=>(es.toList[i]?).map fun e=>(i,e.val))with
   |some (i,_)=>do
    let key <-K9 (((es[i]?).map (·.key)).getD (kv k)) (kv k)
    setObj r (.map (es.modify i fun e=>{ e with key,val:=vv x }) c)
   |none=>setObj r (.map (es.push { key:=kv k,val:=vv x,born:=c }) (c+1)):Sem Unit)).run P w:=by
  simp only[Kh,I4,run_underlying hT,I2];simp only[getObj,Kv,h1,I4,I2,hc,hf];generalize ((iz l k).bind fun i=>Option.map (fun e=>(i,e.val)) es.toList[i]?)=q
  cases q with
  |none=>rfl
  |some p=>rfl
 rw[a2,dZ]
 cases hi:iz l k with
 |none=>
  refine⟨_,by simp only[Option.bind_none,setObj,Kv,h1];rfl,?_⟩
  have:=a6 (es.push { key:=kv k,val:=vv x,born:=c }) (c+1) (by
   refine⟨?_,?_⟩
   ·simp only[L3,Lo,IM,J4];refine L9.2 ⟨a1.1,by simp,?_⟩;intro a ha b hb;obtain⟨e,he,rfl⟩:=JS.1 ha;have:=a1.2 e he;simp at hb;omega
   intro e he;simp only[L3,Jh,II]at he
   rcases he with he|rfl
   ·have:=a1.2 e he;omega
   simp) (by rw[dZ,hi];simp[h2])
  rw[dZ,hi]at this;exact this
 |some j=>
  obtain⟨y,hy⟩:=gO hi;have hj:es.toList[j]?.map (fun e=>(e.key,e.val))=some (kv k,vv y):=by
   have:=congrArg (fun l=>l[j]?) h2;simpa[hy]using this
  cases he:es.toList[j]? with
  |none=>rw[he]at hj;simp at hj
  |some e'=>
   rw[he]at hj;simp at hj;have a3:es[j]? = some e':=by simpa using he
   have a7:(K9 (kv k) (kv k))=pure (kv k):=by simp[K9,hK.same k]
   refine⟨_,by simp only[KZ,he,J3,a3,hj.1,Option.getD_some,a7,I4,IP,I2,setObj,Kv,h1];rfl,?_⟩;have a5:((es.modify j fun e=>{ e with key:=kv k,val:=vv x }).toList.map (·.born))=es.toList.map (·.born):=by
    simp only[KM];apply La;intro m;simp only[Ke,KL]
    split
    ·cases es.toList[m]?<;>simp
    cases es.toList[m]?<;>simp
   have:=a6 (es.modify j fun e=>{ e with key:=kv k,val:=vv x }) c (by
    rw[a5];refine⟨a1.1,fun e he=>?_⟩;have:e.born∈es.toList.map (·.born):=by rw[<-a5];exact JS.2 ⟨e,he,rfl⟩
    obtain⟨e2,a3,q⟩:=JS.1 this;have:=a1.2 e2 a3;omega) (by
    rw[dZ,hi];simp only[KM];apply La;intro m;have h2m:=congrArg (fun l=>l[m]?) h2;simp only[Ke]at h2m;simp only[Ke,KL,List.getElem?_set]
    by_cases hm:j=m
    ·subst hm;have hl:j<l.length:=(IR.1 hy).1;simp[he,hl]
    simp only[if_neg hm]
    simpa using h2m)
   rw[dZ,hi]at this;exact this
section
variable{P:I6}{N:Nat}{ops:Array IL}{Q:J1→Ji→ln→Prop}{rest:List IL}{st:St}{w:ln}
variable{t:I0}{p:String}{e:Array Jv}{d:Nat}{x y z:I3}
theorem WL.makeMap{T:I0}(hd:I1 d N=true)(h:WL P N ops Q rest ((d,.map (some w.heap.size))::st) (w.alloc (.map #[] 0))):WL P N ops Q (⟨some d,.makeMap T none,t,p,e,none⟩::rest) st w:=
 WL.val hd (fun a ha=>by simp only[execOp,Jc,I4];rfl) h
theorem RV.lookup{T K E:I0}{O:Nat->Nat}{i r:Nat}{l:List (κ×ν)}(hm:MapO kv vv O w i r l)(hT:P.underlying T=some (.map K E))(hK:KeyL P K kv){z:ix}(hz:(JB E).run P w=.ok z w)
  (k:κ) {kx u:ix} (hx:ev st x=some (.map (some r))) (hy:ev st y=some kx) (hk:kx=kv k) (hu:Fe vv z (bm l k)=u):RV P N (.lookup T x y false) t st w u:=
 fun a ha a0 p e g=>by
  subst hk;subst hu;simp only[execOp,ha.ev hx,ha.ev hy,I4,iJ hT hK hm hz]
  cases bm l k<;>simp[Fe]
theorem cE{T K E:I0}{O:Nat->Nat}{i r:Nat}{l:List (κ×ν)}(hm:MapO kv vv O w i r l)(hT:P.underlying T=some (.map K E))(hK:KeyL P K kv){z:ix}(hz:(JB E).run P w=.ok z w)
  (k:κ) {kx u:ix} (hx:ev st x=some (.map (some r))) (hy:ev st y=some kx) (hk:kx=kv k) (hu:Dg vv z (bm l k)=u):RV P N (.lookup T x y true) t st w u:=
 fun a ha a0 p e g=>by
  subst hk;subst hu;simp only[execOp,ha.ev hx,ha.ev hy,I4,iJ hT hK hm hz]
  cases bm l k<;>simp[Dg]
theorem WL.mapUpdate{T K E:I0}{O:Nat->Nat}{i r:Nat}{l:List (κ×ν)}(hm:MapO kv vv O w i r l)(hT:P.underlying T=some (.map K E))(hK:KeyL P K kv)(a0:i≠0)
  (k:κ) (u:ν) {kx ux:ix} (hx:ev st x=some (.map (some r))) (hy:ev st y=some kx) (hz:ev st z=some ux) (hk:kx=kv k) (hu:ux=vv u)
  (h:∀w',MapO kv vv O w' i r (cp l k u)->Upd (fun j=>j=i) O w O w'->WL P N ops Q rest st w'):WL P N ops Q (⟨none,.mapUpdate T x y z,t,p,e,none⟩::rest) st w:=by
 subst hk;subst hu;obtain⟨w',h1,h2,h3⟩:=dE hT hK hm a0 k u;exact gQ (fun a ha=>by simp only[execOp,ha.ev hx,ha.ev hy,ha.ev hz,I4,h1,I2,IP]) (h w' h2 h3)
end
end
end Go.VL
end
section
namespace Go.VL
theorem Fb{α:Type}[Inhabited α]{l:List α}{p:α->Bool}(h:∀j,j<l.length->p (nth l j)=true):l.all p=true:=by
 rw[Li];intro x hx;obtain⟨i,hi,rfl⟩:=KT hx;rw[<-aC hi];exact h i hi
theorem uh{α:Type}[Inhabited α]{l:List α}{p:α->Bool}{j:Nat}(hj:j<l.length)(h:p (nth l j)=false):l.all p=false:=by
 rw[List.all_eq_false];exact⟨l[j],JP hj,by rw[<-aC hj,h];simp⟩
theorem aJ{α:Type}[Inhabited α]{l:List α}{j:Nat}(hj:j<l.length):nth l j∈l:=by rw[aC hj];exact JP hj
theorem aM{α:Type}[Inhabited α]{l:List α}{j:Nat}(hj:j<l.length):l.take (j+1)=l.take j++[nth l j]:=by
 rw[Kc hj,aC hj]
theorem cn{α:Type}[Inhabited α]{l:List α}{x:α}(hx:x∈l):∃j,j<l.length/\nth l j=x:=by
 obtain⟨i,hi,rfl⟩:=KT hx;exact⟨i,hi,aC hi⟩
def iG(q:Nat->Bool)(n:Nat):Bool:=(Jr n).any q
theorem eF{q:Nat->Bool}{n:Nat}:iG q n=true↔∃i,i<n/\q i=true:=by simp[iG]
theorem cm{q:Nat->Bool}{n:Nat}:iG q n=false↔∀i,i<n->q i=false:=by simp[iG]
theorem yI{q r:Nat->Bool}{n:Nat}(h:∀i,i<n->q i=r i):iG q n=iG r n:=by
 cases hq:iG r n with
 |true=>obtain⟨i,hi,hr⟩:=eF.1 hq;exact eF.2 ⟨i,hi,by rw[h i hi,hr]⟩
 |false=>exact cm.2 fun i hi=>by rw[h i hi];exact cm.1 hq i hi
theorem gM{α:Type}[Inhabited α]{l:List α}{p:α->Bool}:iG (fun i=>p (nth l i)) l.length=l.any p:=by
 cases h:l.any p with
 |true=>
  obtain⟨x,hx,hp⟩:=JQ.1 h;obtain⟨i,hi,rfl⟩:=cn hx;exact eF.2 ⟨i,hi,hp⟩
 |false=>exact cm.2 fun i hi=>by have:=List.any_eq_false.1 h _ (aJ hi);simpa using this
def dA(q:Nat->Bool)(n:Nat):Int:=match (Jr n).find? q with
 |some i=>i
 |none=>-1
theorem cg{q:Nat->Bool}{n:Nat}(h:∀i,i<n->q i=false):dA q n = -1:=by
 have:(Jr n).find? q=none:=by rw[L1];intro x hx;simp[h x (Jt.1 hx)]
 rw[dA,this]
theorem ck{q:Nat->Bool}{n k:Nat}(hk:k<n)(hy:q k=true)(a0:∀i,i<k->q i=false):dA q n=k:=by
 have:(Jr n).find? q=some k:=by
  rw[List.find?_range_eq_some];exact⟨hy,Jt.2 hk,fun j hj=>by simp[a0 j hj]⟩
 rw[dA,this]
theorem firstN_any{q:Nat->Bool}{n:Nat}:decide ((0:Int)<=dA q n)=iG q n:=by
 cases h:iG q n with
 |false=>rw[cg (cm.1 h)];rfl
 |true=>
  obtain⟨i,hi,hq⟩:=eF.1 h;have:∃j,(Jr n).find? q=some j:=by
   cases hf:(Jr n).find? q with
   |some j=>exact⟨j,rfl⟩
   |none=>rw[L1]at hf;exact absurd hq (hf i (Jt.2 hi))
  obtain⟨j,hj⟩:=this;rw[dA,hj];simp
theorem eu{α:Type}[Inhabited α]{l:List α}{j:Nat}(h:l.length<=j):nth l j=default:=by simp[nth,IX,JZ h]
theorem aW{α:Type}[Inhabited α]{l:List α}{i j:Nat}{x:α}(hi:i<l.length):nth (l.set i x) j=if j=i then x else nth l j:=by
 by_cases hj:j<l.length
 ·rw[aC (by simpa using hj),aC hj,List.getElem_set]
  by_cases h:i=j<;>simp[h,eq_comm]
 rw[if_neg zo];have:∀l:List α,l.length<=j->nth l j=default:=fun l h=>by simp[nth,IX,JZ h]
 rw[this _ (by simp;omega),this _ zo]
theorem aA{α:Type}[Inhabited α]{l r:List α}{j:Nat}:nth (l++r) j=if j<l.length then nth l j else nth r (j-l.length):=by
 split
 ·rename_i h;rw[aC (by simp;omega),aC h,List.getElem_append_left h]
 rename_i h
 by_cases hj:j-l.length<r.length
 ·rw[aC (by simp;omega),aC hj,List.getElem_append_right zo]
 have:∀(l:List α) (j:Nat),l.length<=j->nth l j=default:=fun l j h=>by simp[nth,IX,JZ h]
 rw[this _ _ (by simp;omega),this _ _ zo]
theorem dj{α β:Type}[Inhabited α][Inhabited β]{f:α->β}{l:List α}{i:Nat}(h:i<l.length):nth (l.map f) i=f (nth l i):=by
 rw[aC (by simpa using h),aC h];simp
end Go.VL
end
section
namespace Go.VL
open Go.ChangeShapes Go.WideShapes Go.ChangeAt Go.RowKit Go.Deep
variable{H:Type}{enc:I0×ix→H}{P:I6}{w:ln}{base:Nat}{held:Bool}
theorem By{f:Ju}{args:List ix}(h:Ret P f args w fun v w'=>v=.bool true/\Ext w w'):LP P f args.toArray w fun e w'=>e=.returned (.bool true)/\Below w.heap.size w w':=
 IV h fun e w' q=>by
  cases e with
  |returned v=>exact⟨by rw[q.1],q.2⟩
  |panicked c=>exact q.elim
  |outgrown=>exact q.elim
end Go.VL
end
section
namespace Go.VL
open Go.ChangeShapes Go.WideShapes Go.ChangeAt Go.RowKit Go.Deep
section
variable{H:Type}{enc:I0×ix→H}{P:I6}{w:ln}{base:Nat}{held:Bool}
def Rd(enc:I0×ix->H)(P:I6)(w:ln)(base:Nat)(a0:Bool)(t:I0)(cs:List ix):Prop:=∃fuel x,Kr enc P w base (fun _=>true) a0 fuel t cs=some x
theorem Ia{t:I0}{v:ix}{d:DataW H}{ps:List MemPlace}(h:DataW.Trod enc P w base (fun _=>true) held t v d ps):Rd enc P w base held t v.cells.toList:=by
 obtain⟨a0,hf⟩:=h;exact⟨a0,_,hf⟩
theorem Rd.int{t:I0}{k:I9}{cs:List ix}(ht:P.underlying t=some (.int k))(h:Rd enc P w base held t cs):∃n,cs=[.int k n]/\(Mo k n).wf=true:=by
 obtain⟨a0,x,h⟩:=h
 cases a0 with
 |zero=>simp[Kr]at h
 |succ m=>
  unfold Kr at h;rw[ht]at h
  split at h<;>simp_all
theorem Rd.slice{t e:I0}{sz:Nat}{cs:List ix}(ht:P.underlying t=some (.slice e))(ce:P.cellsOf e=sz)(hz:0<sz)(h:Rd enc P w base held t cs):
  ∃v xs,cs=[v]/\Sl (fun c:List ix=>c) sz w v xs/\∀c∈xs,c.length=sz/\Rd enc P w base held e c:=by
 obtain⟨a5,x,h⟩:=h
 rcases open_slice ht h with⟨rfl,_⟩|⟨a,len,a6,m,n,D,Pl,rfl,hb,hl,hm,a3,rfl,hx⟩
 ·exact⟨_,[],rfl,⟨⟨none,0,rfl,IQ _,zo,fun h=>absurd rfl h⟩,fun i hi=>absurd hi (by simp)⟩,by simp⟩
 simp only[if_true]at a3;subst a3;obtain⟨V,hV⟩:=choose_lt (α:=List ix) (p:=fun i c=>w.cells? base (a.add (i*P.cellsOf e)) (P.cellsOf e)=some c/\Kr enc P w base (fun _=>true) held n e c=some (D i,Pl i)) hx;rw[ce]at hV;have hc:∀i,i<len->∀j u,(V i)[j]? = some u->w.cell? (a.add (i*sz+j))=some u:=fun i hi j u hu=>by
  obtain⟨_,a0,a1⟩:=KX (hV i zo).1;have hj:j<sz:=by have:=(IR.1 hu).1;omega
  have:=a1 j hj;rw[add_add]at this;rw[this,hu]
 have a0:∀i,i<len->(V i).length=sz:=fun i hi=>(KX (hV i zo).1).2.1
 have a2:((Jr len).map V).length=len:=by simp
 refine⟨_,(Jr len).map V,rfl,⟨⟨some a,m,by rw[a2],zo,by simpa[maxLen]using hm,fun h=>?_⟩,fun i hi j u hu=>?_⟩,fun c a4=>?_⟩
 ·rw[a2]at h;have h0:0<(V 0).length:=by rw[a0 0 zo];exact hz
  have:=hc 0 zo 0 _ (J8 h0);obtain⟨b,o,s⟩:=a;have hs:s=none:=by simpa[IY]using L7 this
  subst hs;exact⟨b,o,rfl⟩
 ·rw[a2]at hi;have h0:0<(V 0).length:=by rw[a0 0 zo];exact hz
  have h1:=hc 0 zo 0 _ (J8 h0);obtain⟨b,o,s⟩:=a;have hs:s=none:=by simpa[IY]using L7 h1
  subst hs;simp only[List.getElem_map,List.getElem_range]at hu;have h2:=hc i hi j u hu;simp only[adr];have e1:((⟨b,o,none⟩:J2).add (i*sz+j))=((⟨b,o+i*sz,none⟩:J2).add j):=by
   simp only[IY];split<;>split<;>simp_all<;>omega
  rw[e1]at h2;exact h2
 simp only[JS,Jt]at a4;obtain⟨i,hi,rfl⟩:=a4;exact⟨a0 i hi,n,_,(hV i zo).2⟩
theorem Au{α β:Type}{f:α->β}{R:α->Prop}:∀(xs:List β),(∀c∈xs,∃a,c=f a/\R a)->∃ys:List α,xs=ys.map f/\∀y∈ys,R y
 |[],_=>⟨[],rfl,by simp⟩
 |c::xs,h=>by
  obtain⟨a,ha,hR⟩:=h c (by simp);obtain⟨ys,hy,hr⟩:=Au xs (fun c hc=>h c (by simp[hc]));exact⟨a::ys,by simp[ha,hy],by simpa[hR]using hr⟩
theorem Sl.of_map{α β:Type}{enc:β->List ix}{f:α->β}{sz:Nat}{v:ix}{ys:List α}(h:Sl enc sz w v (ys.map f)):Sl (fun a=>enc (f a)) sz w v ys:=by
 refine⟨by simpa using h.shape,fun i hi j u hu=>h.cells i (by simpa using hi) j u (by simpa using hu)⟩
theorem Rd.sliceOf{α:Type}{f:α->List ix}{R:α->Prop}{t e:I0}{sz:Nat}{cs:List ix}(ht:P.underlying t=some (.slice e))(ce:P.cellsOf e=sz)(hz:0<sz)(a0:∀c,Rd enc P w base held e c->∃a,c=f a/\R a)(h:Rd enc P w base held t cs):
  ∃v xs,cs=[v]/\Sl f sz w v xs/\∀a∈xs,R a:=by
 obtain⟨v,xs,rfl,hs,hx⟩:=h.slice ht ce hz;obtain⟨ys,rfl,hy⟩:=Au (f:=f) (R:=R) xs fun c hc=>a0 c (hx c hc).2
 exact⟨v,ys,rfl,hs.of_map,hy⟩
theorem Rd.ints{k:I9}{t e:I0}{cs:List ix}(ht:P.underlying t=some (.slice e))(he:P.underlying e=some (.int k))(ce:P.cellsOf e=1)(h:Rd enc P w base held t cs):
 ∃v zs,cs=[v]/\Sl (fun n=>[Jq k n]) 1 w v zs/\∀n∈zs,(Mo k n).wf=true:=h.sliceOf ht ce zd (fun _ hc=>hc.int he)
end
end Go.VL
end
section
namespace Go.VL
def evp(st:St):List (Nat×I3)->Option (List (Nat×ix))
 |[]=>some []
 |(i,x)::r=>match ev st x,evp st r with
  |some v,some vs=>some ((i,v)::vs)
  |_,_=>none
section
variable{P:I6}{N:Nat}{ops:Array IL}{Q:J1→Ji→ln→Prop}{rest:List IL}{st:St}{w:ln}
variable{t:I0}{p:String}{e:Array Jv}{d:Nat}{x y z:I3}
theorem Fits.evp{a:Ji}(ha:Fits N a st):∀ {l:List (Nat×I3)} {vs:List (Nat×ix)},evp st l=some vs->l.map (fun q=>(q.1,a.eval q.2))=vs:=by
 intro l
 induction l with
 |nil=>intro vs h;simpa[VL.evp]using h.symm
 |cons q r ih=>
  obtain⟨i,x⟩:=q;intro vs h;simp only[VL.evp]at h
  cases h1:VL.ev st x with
  |none=>rw[h1]at h;simp at h
  |some v=>
   cases h2:VL.evp st r with
   |none=>rw[h1,h2]at h;simp at h
   |some vs'=>
    rw[h1,h2]at h;simp at h;subst h;rw[IM,ha.ev h1,ih h2]
def cF(P:I6)(T:I0)(pl:Array (Nat×Nat)):Prop:=
 ∃fs,P.underlying T=some (.struct fs)/\∀w,(fs.mapM fun f=>do pure (f.offset,<-J0 f.type):Sem (Array (Nat×Nat))).run P w=.ok pl w
theorem RV.build{T:I0}{pl:Array (Nat×Nat)}{parts:List (Nat×I3)}{vs:List (Nat×ix)}{z:ix}{cells:Array ix}(hp:cF P T pl)(hz:(JB T).run P w=.ok z w)
  (hv:evp st parts=some vs) (hf:JG (pl[·]?) z.cells vs=some cells):RV P N (.build T parts.toArray) t st w (.agg cells):=
 fun a ha a1 p e g=>by
  obtain⟨fs,hu,a0⟩:=hp;have h1:=ha.evp hv;have e1:(Kw (fun x:Nat×I3=>match x with|(i,x)=>(i,a.eval x)) parts)=vs:=by rw[<-h1]
  simp only[execOp,LN,I7,e1,I4,hz,I2,run_underlying hu,a0,hf,IP]
theorem fill_flat(pl:Array (Nat×Nat)):∀(vs:List (Nat×ix)) (cells:Array ix),(vs.all fun q=>q.2.oneCell')=true->
  (vs.all fun q=>match pl[q.1]? with|some (off,1)=>I1 off cells.size|_=>false)=true->
  JG (pl[·]?) cells vs=some (vs.foldl (fun cs q=>cs.setIfInBounds (pl.getD q.1 (0,0)).1 q.2) cells)
 |[],cells,_,_=>rfl
 |(i,v)::r,cells,h1,h2=>by
  simp only[LB,IS]at h1 h2;obtain⟨hv,h1⟩:=h1;obtain⟨hi,h2⟩:=h2
  cases hp:pl[i]? with
  |none=>rw[hp]at hi;simp at hi
  |some q=>
   obtain⟨off,s⟩:=q;rw[hp]at hi
   split at hi
   ·rename_i he;simp only[K1,Ld]at he;obtain⟨rfl,rfl⟩:=he;have a2:off<cells.size:=Jy hi;have hc:v.cells = #[v]:=by cases v<;>first|rfl|simp[Jk]at hv
    have hg:pl.getD i (0,0)=(off,1):=by simp[I5,hp]
    have a0:∀(f:Array ix->ix×Nat->Array ix),(∀cs c j,f cs (c,j)=cs.setIfInBounds (off+j) c)->(#[v].zipIdx).foldl f cells=cells.setIfInBounds off v:=fun f hf=>by
     rw[show(#[v].zipIdx) = #[(v,0)]from rfl];show f cells (v,0)=_;rw[hf];rfl
    have a1:¬(1≠1\/off+1>cells.size):=zo;simp only[JG,hp,hc,JX,hg];have e1:((#[v].size:Nat))=1:=rfl;simp only[e1];rw[if_neg (by simp;omega)];rw[a0 _ (fun _ _ _=>rfl)];exact fill_flat pl r _ h1 (by simpa using h2)
   cases hi
theorem aF{T:I0}{pl:Array (Nat×Nat)}{parts:List (Nat×I3)}{vs:List (Nat×ix)}{z:ix}{cells:Array ix}(hp:cF P T pl)(hz:(JB T).run P w=.ok z w)
  (hv:evp st parts=some vs) (h1:(vs.all fun q=>q.2.oneCell')=true) (h2:(vs.all fun q=>match pl[q.1]? with|some (off,1)=>I1 off z.cells.size|_=>false)=true)
  (hf:vs.foldl (fun cs q=>cs.setIfInBounds (pl.getD q.1 (0,0)).1 q.2) z.cells=cells):RV P N (.build T parts.toArray) t st w (.agg cells):=
 RV.build hp hz hv (by rw[fill_flat pl vs _ h1 h2,hf])
theorem rO{O:Nat->Nat}{i b:Nat}{cs us:Array ix}{E T:I0}(hb:BlkO O w i b cs E)(hs:us.size=cs.size)(hT:(J0 T).run P w=.ok us.size w)(h1:∀u∈us.toList,u.oneCell'=true):
  (K6 T (nP b) (.agg us)).run P w=.ok () (w.setRow b us):=by
 have:=run_storeCells_at P b 0 E us.toList 0 cs w hb.blk (by simp[hs]) h1;simp only[J7,Ls,JW,KN]at this;rw[KC (by simp[hs]),Jp]at this;simp only[K6,Ja,storeVar,I4,IP,I2,KF,hT];simpa using this
theorem BlkO.setRow{O:Nat->Nat}{w:ln}{i b:Nat}{cs us:Array ix}{E:I0}(h:BlkO O w i b cs E):BlkO O (w.setRow b us) i b us E:=
 ⟨setRow_heap w b cs us E (0,0) h.blk,h.tag⟩
theorem Upd.setRow{S:Nat->Prop}(hz:¬S 0){O:Nat->Nat}{w:ln}{i b:Nat}{us:Array ix}(ht:O b=i)(hS:S i):Upd S O w O (w.setRow b us):=
 ⟨rfl,rfl,rfl,by simp,fun k _ hn=>setRow_other w b k _ (fun e=>hn (by subst e;rw[ht];exact hS)),fun _ _=>rfl,fun _ h=>.inl h,hz⟩
theorem bp{T:I0}{O:Nat->Nat}{i b:Nat}{cs us:Array ix}{E:I0}(hb:BlkO O w i b cs E)(hs:us.size=cs.size)(hT:(J0 T).run P w=.ok us.size w)(h1:us.toList.all Jk=true)
  {q:J2} (hx:ev st x=some (.pointer (some q))) (hq:q=⟨b,0,none⟩) (hy:ev st y=some (.agg us))
  (h:WL P N ops Q rest st (w.setRow b us)):WL P N ops Q (⟨none,.store T x y,t,p,e,none⟩::rest) st w:=
 gQ (fun a ha=>by
  subst hq
  simp only[execOp,ha.ev hx,ha.ev hy,I4,rO hb hs hT (Li.1 h1),I2,IP]) h
theorem aH{B:Nat}{O:Nat->Nat}(r:Rng B O w)(i:Nat)(a0:i≠0){E:I0}{v:ix}(hx:ev st x=some v)(hd:I1 d N=true)
  (h:∀b w' O',BlkO O' w' i b v.cells E->Upd (fun j=>j=i) O w O' w'->Rng B O' w'->Ext w w'->WL P N ops Q rest ((d,nP b)::st) w'):WL P N ops Q (⟨some d,.box E x,t,p,e,none⟩::rest) st w:=by
 have u:=Upd.alloc (S:=fun j=>j=i) (fun h=>a0 h.symm) r (.cells v.cells E) i;exact WL.box hx hd (h _ _ _ (BlkO.new _ _ _ _ _) u (r.upd u) (Ext.alloc _ _))
theorem au{B:Nat}{O:Nat->Nat}(r:Rng B O w)(i:Nat)(a0:i≠0){E:I0}{z:ix}(hz:(JB E).run P w=.ok z w)(hd:I1 d N=true)
  (h:∀b w' O',BlkO O' w' i b z.cells E->Upd (fun j=>j=i) O w O' w'->Rng B O' w'->Ext w w'->WL P N ops Q rest ((d,nP b)::st) w'):WL P N ops Q (⟨some d,.alloc E,t,p,e,none⟩::rest) st w:=by
 have u:=Upd.alloc (S:=fun j=>j=i) (fun h=>a0 h.symm) r (.cells z.cells E) i;exact WL.alloc hz hd (h _ _ _ (BlkO.new _ _ _ _ _) u (r.upd u) (Ext.alloc _ _))
theorem BlkO.cellsAdd{O:Nat->Nat}{i b:Nat}{cs:Array ix}{E:I0}(h:BlkO O w i b cs E):∀j u,cs.toList[j]? = some u->w.cell? (nA b j)=some u:=fun j u hu=>by
 rw[show(nA b j)=⟨b,j,none⟩from by simp only[IY];split<;>simp_all];exact h.cell j (by simpa using hu)
end
section
variable{P:I6}{N:Nat}{st:St}{w:ln}{fn:LG}{R:ix→ln→Prop}
theorem de{T:I0}{q:J2}{us:List ix}(hc:∀j u,us[j]? = some u->w.cell? (q.add j)=some u)(hT:(Lk T).run P w=.ok true w)(hn:(J0 T).run P w=.ok us.length w):
  (loadVar T q).run P w=.ok (.agg us.toArray) w:=by
 have:=run_loadCellsFrom (P:=P) us 0 #[] (q:=q) (w:=w) (by simpa using hc);simp[loadVar,hT,hn,loadCells,this]
theorem aL{t:M7}{T:I0}{q:J2}{us:List ix}(hr:fn.results = #[.cell t T])(hv:cf st t=some (.pointer (some q)))
  (hc:∀j u,us[j]? = some u->w.cell? (q.add j)=some u) (hT:(Lk T).run P w=.ok true w) (hn:(J0 T).run P w=.ok us.length w) (h:R (.agg us.toArray) w):QF N (RP P fn R) .ret st w:=fun a ha=>
 ⟨ha.defers,_,by have h1:=ha.get _ _ hv;simp[results,hr,I5,h1,asAddr,de hc hT hn],h⟩
theorem bf{t u:M7}{T:I0}{q:J2}{us:List ix}{v':ix}(hr:fn.results = #[.cell t T,.tmp u])(hv:cf st t=some (.pointer (some q)))(a0:cf st u=some v')
  (hc:∀j u,us[j]? = some u->w.cell? (q.add j)=some u) (hT:(Lk T).run P w=.ok true w) (hn:(J0 T).run P w=.ok us.length w) (h:R (.tuple #[.agg us.toArray,v']) w):QF N (RP P fn R) .ret st w:=fun a ha=>
 ⟨ha.defers,_,by have h1:=ha.get _ _ hv;have h2:=ha.get _ _ a0;simp[results,hr,I5,h1,h2,asAddr,de hc hT hn],h⟩
end
theorem vk{α:Type}{enc:α->List ix}{sz:Nat}{w:ln}{g:Nat}{cells:Array ix}{E:I0}{xs:List α}(hb:w.heap[g]? = some (.cells cells E (0,0)))(hc:cells.toList=xs.flatMap enc)(hz:∀x∈xs,(enc x).length=sz)(hm:xs.length<=9223372036854775807):
  Sl enc sz w (.slice (some ⟨g,0,none⟩) xs.length xs.length) xs:=by
 refine⟨⟨_,_,rfl,IQ _,hm,fun _=>⟨g,0,rfl⟩⟩,fun i hi j u hu=>?_⟩;have h:=eD xs hz i hi j u hu;have ha:((adr (.slice (some ⟨g,0,none⟩) xs.length xs.length) sz i).add j)=⟨g,i*sz+j,none⟩:=by
  simp only[adr,IY];split<;>simp_all
 rw[ha,cell_of_row w g _ cells E (0,0) hb];rw[<-hc]at h;simpa using h
section
variable{P:I6}{N:Nat}{ops:Array IL}{Q:J1→Ji→ln→Prop}{rest:List IL}{st:St}{w:ln}
variable{t:I0}{p:String}{e:Array Jv}{d:Nat}
theorem ec{T E:I0}{sz n:Nat}{z:ix}{parts:List (Nat×I3)}{vs:List (Nat×ix)}(hu:P.underlying T=some (.slice E))(hE:(J0 E).run P w=.ok sz w)(hz:(JB E).run P w=.ok z w)
  {α:Type} (enc:α->List ix) (xs:List α) (hn:xs.length=n) (hv:evp st parts=some vs) (a4:KG (n*sz) 16777216=true) (a1:Jf (n*sz) 0=false)
  (hf:JG (fun i=>some (i*sz,sz)) ((Array.range (n*sz)).map (z.cells[· % z.cells.size]!)) vs=some (xs.flatMap enc).toArray) (a2:∀x∈xs,(enc x).length=sz) (hd:I1 d N=true)
  (h:∀v w',Sl enc sz w' v xs->Ext w w'->WL P N ops Q rest ((d,v)::st) w'):WL P N ops Q (⟨some d,.buildSlice T n parts.toArray,t,p,e,none⟩::rest) st w:=by
 subst hn;have a3:=Jy a4;have a0:¬xs.length*sz=0:=fun e=>by rw[e]at a1;simp at a1
 have a5:xs.length<=xs.length*sz:=Nat.le_mul_of_pos_right _ (L8 fun e=>a0 (by rw[e,Nat.mul_zero]));refine WL.val (v:=.slice (some ⟨w.heap.size,0,none⟩) xs.length xs.length) (w':=w.alloc (.cells (xs.flatMap enc).toArray E)) hd (fun a ha=>?_) (h _ _ (vk (heap_alloc_new w _) rfl a2 zo) (Ext.alloc _ _));have h1:=ha.evp hv;have e1:(Kw (fun x:Nat×I3=>match x with|(i,x)=>(i,a.eval x)) parts)=vs:=by rw[<-h1]
 simp only[execOp,Instr.buildSlice,I7,e1,I4,run_underlying hu,I2,hE];rw[if_neg zo,if_neg a0];simp[hz,hf,newRow,newObj];rfl
end
end Go.VL
end
section
namespace Go.VL
section
variable{P:I6}{N:Nat}{ops:Array IL}{Q:J1→Ji→ln→Prop}{rest:List IL}{st:St}{w:ln}
theorem fG(K:J1->Ji->ln->Prop):∀(l r:List IL) (a:Ji) (w:ln),(∀e a w,K e a w->e≠.normal->Q e a w)->(∀a w,K .normal a w->wpList P ops Q r a w)->wpList P ops K l a w->wpList P ops Q (l++r) a w
 |[],r,a,w,_,hn,h=>hn a w h
 |o::l,r,a,w,hx,hn,h=>by
  simp only[Jm];unfold wpList at h ⊢;have ih:=fun a w=>fG K l r a w hx hn
  have a1:∀c a w,K (.panic c) a w->Q (.panic c) a w:=fun c a w h=>hx _ a w h (by intro h;cases h)
  split
  ·rename_i hw;rw[if_pos hw]at h
   rcases h with h|⟨h1,a0,w0,h2⟩
   ·left;unfold Jo at h ⊢;generalize (execOp a.eval o).run P w=q at *
    cases q with
    |ok n w'=>
     cases n<;>simp only[JN]at h ⊢<;>first
      |exact ih _ _ h
      |exact h.elim
      |exact Lc h (fun _ _ he=>ih _ _ he)
      |exact IV h (fun e w'' he=>by
       cases e with
       |returned v=>exact ih _ _ he
       |panicked c=>exact a1 _ _ _ he
       |outgrown=>obtain⟨a0,w0,he⟩:=he;exact⟨a0,w0,hx _ a0 w0 he (by intro h;cases h)⟩)
    |halt x w'=>cases x<;>simp only[JN]at h ⊢<;>first|exact a1 _ _ _ h|exact h.elim
   exact .inr ⟨h1,a0,w0,hx _ a0 w0 h2 (by intro h;cases h)⟩
  rename_i hw;rw[if_neg hw]at h;exact ih _ _ h
def Fs(N:Nat)(S:ln->Prop)(tB:Nat)(b:Bool)(st:St):J1->Ji->ln->Prop:=fun e a w=>e=.normal/\S w/\Fits N a st/\a.tmps[tB]? = some (.bool b)
def rW(N:Nat)(ops:Array IL)(st:St):List IL->Bool
 |[]=>true
 |o::r=>(match o.guard with
  |some (i,c)=>(match (ops[i]?).bind (·.dst)with
   |some d=>(match cf st d with
    |some (.bool x)=>!(x==c)
    |some (.tuple _)=>true
    |_=>false)
   |none=>false)
  |none=>false)&&(match o.dst with|some d=>(match cf st d with|none=>true|_=>false)&&I1 d N&&rW N ops ((d,undef)::st) r|none=>false)
theorem qh:∀(l:List IL) (st0 st:St) (a:Ji),rW N ops st l=true->(∀t v,cf st0 t=some v->cf st t=some v)->Fits N a st->(∀a',Fits N a' st0->wpList P ops Q rest a' w)->wpList P ops Q (l++rest) a w
 |[],st0,st,a,_,hc,ha,h=>h a ⟨ha.size,ha.defers,fun t v hv=>ha.get t v (hc t v hv)⟩
 |o::l,st0,st,a,hp,hc,ha,h=>by
  simp only[rW,IS]at hp;obtain⟨hg,hd⟩:=hp
  cases a2:o.dst with
  |none=>rw[a2]at hd;simp at hd
  |some d=>
   rw[a2]at hd;simp only[IS]at hd;obtain⟨⟨a4,a6⟩,a5⟩:=hd;have a0:cf st d=none:=by cases h:cf st d with|none=>rfl|some v=>rw[h]at a4;simp at a4
   simp only[Jm];unfold wpList;rw[if_neg ?_]
   ·rw[a2];refine qh l st0 ((d,undef)::st) _ a5 (fun t v hv=>?_) (ha.put a6 undef) h;have h1:=hc t v hv;simp only[cf]
    cases hb:Jf d t with
    |true=>have:=IE hb;subst this;rw[a0]at h1;simp at h1
    |false=>exact h1
   cases a3:o.guard with
   |none=>rw[a3]at hg;simp at hg
   |some ic=>
    obtain⟨i,c⟩:=ic;rw[a3]at hg;simp only at hg;simp only[IK,a3,yielded]
    cases a1:(ops[i]?).bind (·.dst)with
    |none=>rw[a1]at hg;simp at hg
    |some d'=>
     rw[a1]at hg;simp only at hg
     cases hs:cf st d' with
     |none=>rw[hs]at hg;simp at hg
     |some v=>
      rw[hs]at hg
      cases v<;>simp at hg
      ·rename_i x;simp[ha.get _ _ hs];exact fun e=>hg (by rw[e])
      simp[ha.get _ _ hs]
theorem qu{a:Ji}{t:Nat}{b b':Bool}(hs:cf st t=some (.bool b))(hb:b=b')(ha:Fits N a st):Fits N a ((t,.bool b')::st):=by
 subst hb;refine⟨ha.size,ha.defers,fun u v hv=>?_⟩;simp only[cf]at hv
 cases hb:Jf t u with
 |true=>rw[hb]at hv;have:=IE hb;subst this;simp at hv;subst hv;exact ha.get _ _ hs
 |false=>rw[hb]at hv;exact ha.get _ _ hv
theorem bK{l G:List IL}{tA tB tP:Nat}{c:Bool}{t:I0}{p:String}{e:Array Jv}(S:ln->Prop)(b:Bool)(n:Nat)(hS:S w)(hG:l.take n=G)(a0:l.drop n=⟨some tP,.pick (.tmp tA) (.tmp tB) (.const (.bool false)),t,p,e,none⟩::rest)
  (hc:cf st tA=some (.bool c)) (a1:rW N ops ((tA,.bool false)::st) G=true) (hd:I1 tP N=true)
  (h1:c=true->WL P N ops (Fs N S tB b st) G ((tA,.bool true)::st) w) (h2:∀w',S w'->WL P N ops Q rest ((tP,.bool (c&&b))::st) w'):WL P N ops Q l st w:=by
 intro a ha;rw[<-Jj n l,hG,a0]
 cases c with
 |true=>
  refine fG (Fs N S tB b st) G _ a w (fun e a w h a3=>absurd h.1 a3) (fun a' w' h=>?_) (h1 rfl a (qu hc rfl ha));obtain⟨_,a4,hf,hb⟩:=h;unfold wpList;rw[if_pos (cz rfl _)];left;unfold Jo;rw[gZ (b:=true) (by simpa[Jb,I5]using(by rw[hf.get _ _ hc]:(a'.tmps[tA]?).getD undef=(some (.bool true)).getD undef))];simp only[cond_true];rw[show a'.eval (.tmp tB)=.bool b from by simp[Jb,I5,hb]];exact h2 w' a4 _ (hf.put hd _)
 |false=>
  refine qh G st ((tA,.bool false)::st) a a1 (fun t v hv=>?_) (qu hc rfl ha) (fun a' a2=>?_)
  ·simp only[cf]
   cases hb:Jf tA t with
   |true=>have:=IE hb;subst this;rw[hc]at hv;exact hv
   |false=>exact hv
  unfold wpList;rw[if_pos (cz rfl _)];left;unfold Jo;rw[gZ (b:=false) (by simpa[Jb,I5]using(by rw[a2.get _ _ hc]:(a'.tmps[tA]?).getD undef=(some (.bool false)).getD undef))];exact h2 w hS _ (a2.put hd _)
theorem cD{l G:List IL}{tA tB tP:Nat}{c:Bool}{t:I0}{p:String}{e:Array Jv}(S:ln->Prop)(b:Bool)(n:Nat)(hS:S w)(hG:l.take n=G)(a0:l.drop n=⟨some tP,.pick (.tmp tA) (.const (.bool true)) (.tmp tB),t,p,e,none⟩::rest)
  (hc:cf st tA=some (.bool c)) (a1:rW N ops ((tA,.bool true)::st) G=true) (hd:I1 tP N=true)
  (h1:c=false->WL P N ops (Fs N S tB b st) G ((tA,.bool false)::st) w) (h2:∀w',S w'->WL P N ops Q rest ((tP,.bool (c||b))::st) w'):WL P N ops Q l st w:=by
 intro a ha;rw[<-Jj n l,hG,a0]
 cases c with
 |false=>
  refine fG (Fs N S tB b st) G _ a w (fun e a w h a3=>absurd h.1 a3) (fun a' w' h=>?_) (h1 rfl a (qu hc rfl ha));obtain⟨_,a4,hf,hb⟩:=h;unfold wpList;rw[if_pos (cz rfl _)];left;unfold Jo;rw[gZ (b:=false) (by simpa[Jb,I5]using(by rw[hf.get _ _ hc]:(a'.tmps[tA]?).getD undef=(some (.bool false)).getD undef))];simp only[cond_false];rw[show a'.eval (.tmp tB)=.bool b from by simp[Jb,I5,hb]];exact h2 w' a4 _ (hf.put hd _)
 |true=>
  refine qh G st ((tA,.bool true)::st) a a1 (fun t v hv=>?_) (qu hc rfl ha) (fun a' a2=>?_)
  ·simp only[cf]
   cases hb:Jf tA t with
   |true=>have:=IE hb;subst this;rw[hc]at hv;exact hv
   |false=>exact hv
  unfold wpList;rw[if_pos (cz rfl _)];left;unfold Jo;rw[gZ (b:=true) (by simpa[Jb,I5]using(by rw[a2.get _ _ hc]:(a'.tmps[tA]?).getD undef=(some (.bool true)).getD undef))];exact h2 w hS _ (a2.put hd _)
theorem bE{S:ln->Prop}{tA tB:Nat}{b c:Bool}{st0:St}(n:Nat)(hS:S w)(a0:st.drop n=st0)(hf:((st.take n).all fun q=>Jf q.1 tA||(match cf st0 q.1 with|none=>true|_=>false))=true)
  (hA:cf st tA=some (.bool c)) (a3:∀v,cf st0 tA=some v->v=.bool c) (hb:cf st tB=some (.bool b)):QF N (Fs N S tB b st0) .normal st w:=fun a ha=>by
 refine⟨rfl,hS,⟨ha.size,ha.defers,fun t v hv=>?_⟩,ha.get _ _ hb⟩;refine ha.get t v ?_
 by_cases ht:t=tA
 ·subst ht;rw[a3 v hv];exact hA
 have a2:∀(a1:St),(a1.all fun q=>Jf q.1 tA||(match cf st0 q.1 with|none=>true|_=>false))=true->cf (a1++st0) t=some v:=by
  intro a1
  induction a1 with
  |nil=>intro _;exact hv
  |cons q r ih=>
   intro hq;simp only[LB,IS,Bool.or_eq_true]at hq;obtain⟨k,u⟩:=q;simp only[Jm,cf]
   cases hb:Jf k t with
   |false=>exact ih hq.2
   |true=>
    have:=IE hb;subst this
    rcases hq.1 with h|h
    ·exact absurd (IE h) ht
    simp only[hv]at h;cases h
 have:=a2 (st.take n) hf;rw[<-a0,Jj]at this;exact this
end
end Go.VL
end
section
namespace Go.VL
section
variable{P:I6}{N:Nat}{ops:Array IL}{Q:J1→Ji→ln→Prop}{rest:List IL}{st:St}{w:ln}
variable{t xt yt:I0}{p:String}{e:Array Jv}{d:Nat}{x y z:I3}
theorem lA{op:Mq}{a b v:ix}(hg:eqGuard op xt x y a b=pure ())(hx:ev st x=some a)(hy:ev st y=some b)(hr:(binOp op xt a b).run P w=.ok v w):RV P N (.binOp op xt x y yt) t st w v:=
 fun ac ha a0 p e g=>by
  simp only[execOp,ha.ev hx,ha.ev hy,hg,I4,IP,I2,hr]
theorem BB{a b:Bool}(hu:P.underlying xt=some .bool)(hx:ev st x=some (.bool a))(hy:ev st y=some (.bool b)):RV P N (.binOp .eql xt x y yt) t st w (.bool (a==b)):=
 lA (eqGuard_at_bool ..) hx hy (run_eql_bool w xt a b hu)
theorem Fg{a b:Bool}(hu:P.underlying xt=some .bool)(hx:ev st x=some (.bool a))(hy:ev st y=some (.bool b)):RV P N (.binOp .neq xt x y yt) t st w (.bool (!(a==b))):=
 lA (eqGuard_at_bool ..) hx hy (run_neq_bool w xt a b hu)
theorem jq{k k':I9}{m n:Int}{a0:Array I0}(hx:ev st x=some (.int k m))(hy:ev st y=some (.int k' n)):RV P N (.call ⟨.builtin .max,#[x,y],a0⟩) t st w (.int k (max m n)):=
 fun a ha a1 p e g=>by
  simp only[execOp,resolve,invoke,builtin,I4,IP,I2,I7,IM,J4,ha.ev hx,ha.ev hy,run_max_int2];congr 3;rw[Int.max_def];split<;>split<;>omega
theorem Fj{k k':I9}{m n:Int}{a0:Array I0}(hx:ev st x=some (.int k m))(hy:ev st y=some (.int k' n)):RV P N (.call ⟨.builtin .min,#[x,y],a0⟩) t st w (.int k (min m n)):=
 fun a ha a1 p e g=>by
  simp only[execOp,resolve,invoke,builtin,I4,IP,I2,I7,IM,J4,ha.ev hx,ha.ev hy,run_min_int2];congr 3;rw[Int.min_def];split<;>split<;>omega
def bs(l:List UInt8):ByteArray:=⟨l.toArray⟩
theorem cT(l:List UInt8):(bs l).size=l.length:=by simp[bs,Mg]
theorem ko(l:List UInt8):(bs l).toList=l:=Me l
theorem lq(l:List UInt8)(a b:Nat):(bs l).extract a b=bs ((l.take b).drop a):=by
 rw[bs,Mi,List.drop_take];rfl
theorem Dd{a b:List UInt8}(h:bs a=bs b):a=b:=by
 have:=congrArg Mf h;rwa[ko,ko]at this
theorem Bi{op:Mq}{s u:ByteArray}:binOp op xt (.string s) (.string u)=Op.stringOp op s u:=by cases op<;>rfl
theorem cI{a b:List UInt8}(hx:ev st x=some (.string (bs a)))(hy:ev st y=some (.string (bs b))):RV P N (.binOp .eql xt x y yt) t st w (.bool (a==b)):=
 lA (eqGuard_at_string ..) hx hy (by rw[Bi];show Result.ok (LQ ((bs a).toList==(bs b).toList)) w=_;rw[ko,ko])
theorem bW{a:List UInt8}{T:I0}(hT:P.underlying T=some .string)(hx:ev st x=some (.string (bs a))):RV P N (.call ⟨.builtin .len,#[x],#[T]⟩) t st w (nI a.length):=
 fun c hc a0 p e g=>by
  simp only[execOp,resolve,invoke,builtin,I4,IP,I2,I7,IM,J4,hc.ev hx,run_len_string w T t _ hT,cT];rfl
theorem BA{a:List UInt8}{k:I9}{m:Int}(hT:P.underlying xt=some .string)(hx:ev st x=some (.string (bs a)))(hy:ev st y=some (.int k m))(i:Nat)(hm:m=i)(hi:i<a.length):RV P N (.index xt x y) t st w (.int .u8 ((nth a i).toNat:Int)):=
 fun c hc a0 p e g=>by
  subst hm;have h2:0<=(i:Int)/\(i:Int)<(bs a).size:=by rw[cT];omega
  simp only[execOp,hc.ev hx,hc.ev hy,I4,run_index_string w xt (bs a) k i hT,dif_pos h2,I2];have:(bs a)[(i:Int).toNat]'(by rw[cT];omega)=nth a i:=by
   rw[aC hi];simp[bs,Mh]
  rw[this];rfl
theorem cM{a:List UInt8}{k k':I9}{m n:Int}(hT:P.underlying xt=some .string)(hx:ev st x=some (.string (bs a)))(hy:ev st y=some (.int k m))(hz:ev st z=some (.int k' n))(i j:Nat)(hm:m=i)(hn:n=j)(a0:i<=j)(hj:j<=a.length):
  RV P N (.slice xt x (some y) (some z) none) t st w (.string (bs ((a.take j).drop i))):=
 fun c hc a1 p e g=>by
  subst hm;subst hn;simp only[execOp,J3,Jc,hc.ev hx,hc.ev hy,hc.ev hz,run_sliceAt_string w xt _ _ _ _ hT,I4,run_slice_string w xt (bs a) k k' i j hT zo zo (by rw[cT];omega),I2,IW,lq];rfl
theorem jo{a:List UInt8}{k:I9}{m:Int}(hT:P.underlying xt=some .string)(hx:ev st x=some (.string (bs a)))(hy:ev st y=some (.int k m))(i:Nat)(hm:m=i)(hi:i<=a.length):
  RV P N (.slice xt x (some y) none none) t st w (.string (bs (a.drop i))):=
 fun c hc a0 p e g=>by
  subst hm;simp only[execOp,J3,Jc,hc.ev hx,hc.ev hy,run_sliceAt_string w xt _ _ _ _ hT,I4,run_slice_string_l w xt (bs a) hT k i zo (by rw[cT];omega),I2,IW,lq,cT,List.take_length];rfl
theorem vm{a:List UInt8}{k:I9}{n:Int}(hT:P.underlying xt=some .string)(hx:ev st x=some (.string (bs a)))(hz:ev st z=some (.int k n))(j:Nat)(hn:n=j)(hj:j<=a.length):
  RV P N (.slice xt x none (some z) none) t st w (.string (bs (a.take j))):=
 fun c hc a0 p e g=>by
  subst hn;simp only[execOp,J3,Jc,hc.ev hx,hc.ev hz,run_sliceAt_string w xt _ _ _ _ hT,I4,run_slice_string_h w xt (bs a) hT k j zo (by rw[cT];omega),I2,IW,lq,List.drop_zero];rfl
theorem js{T:I0}{a:Option J2}{l c:Nat}(hT:P.underlying xt=some (.slice T))(hx:ev st x=some (.slice a l c))(hy:ev st y=some (nS)):RV P N (.binOp .eql xt x y yt) t st w (.bool a.isNone):=
 lA (eqGuard_at_slice ..) hx hy (by simp[binOp,run_equal_slice_nil w xt T a l c hT])
theorem ed{q:Option J2}(hT:P.underlying xt=some (.pointer (P.pointee xt)))(hx:ev st x=some (.pointer q))(hy:ev st y=some (.pointer none)):RV P N (.binOp .eql xt x y yt) t st w (.bool q.isNone):=
 lA (eqGuard_at_pointer ..) hx hy (run_eql_pointer_nil w xt q hT)
theorem yN{q:Option J2}(hT:P.underlying xt=some (.pointer (P.pointee xt)))(hx:ev st x=some (.pointer q))(hy:ev st y=some (.pointer none)):RV P N (.binOp .neq xt x y yt) t st w (.bool (!q.isNone)):=
 lA (eqGuard_at_pointer ..) hx hy (run_neq_pointer_nil w xt q hT)
def dN(v:ix)(sz lo hi:Nat):ix:=
 match v with
 |.slice a _ cap=>.slice (if cap=lo then a else a.map (·.add (lo*sz))) (hi-lo) (cap-lo)
 |_=>v
theorem pN{α:Type}{enc:α->List ix}{sz:Nat}{v:ix}{xs:List α}{E:I0}{k:I9}{m:Int}(h:Sl enc sz w v xs)(hT:P.underlying xt=some (.slice E))(hs:(J0 E).run P w=.ok sz w)
  (hx:ev st x=some v) (hy:ev st y=some (.int k m)) (i:Nat) (hm:m=i) (hi:i<=xs.length):RV P N (.slice xt x (some y) none none) t st w (dN v sz i xs.length):=
 fun a' ha a0 p e g=>by
  subst hm;obtain⟨a,c,rfl,hc,_,_⟩:=h.shape;have hE:P.elem xt=E:=by simp[Ll,hT]
  simp only[execOp,J3,Jc,ha.ev hx,ha.ev hy,run_sliceAt_slice w xt _ _ _ _ (by rw[hE];exact hT:P.underlying xt=some (.slice (P.elem xt))),I4,run_slice_l w xt a xs.length c (by rw[hE];exact hT) k i zo zo,hE,hs,I2,IW,sliced];rfl
theorem yM{α:Type}{enc:α->List ix}{sz:Nat}{v:ix}{xs:List α}{E:I0}{k:I9}{n:Int}(h:Sl enc sz w v xs)(hT:P.underlying xt=some (.slice E))(hs:(J0 E).run P w=.ok sz w)
  (hx:ev st x=some v) (hz:ev st z=some (.int k n)) (j:Nat) (hn:n=j) (hj:j<=xs.length):RV P N (.slice xt x none (some z) none) t st w (dN v sz 0 j):=
 fun a' ha a0 p e g=>by
  subst hn;obtain⟨a,c,rfl,hc,_,_⟩:=h.shape;have hE:P.elem xt=E:=by simp[Ll,hT]
  simp only[execOp,J3,Jc,ha.ev hx,ha.ev hz,run_sliceAt_slice w xt _ _ _ _ (by rw[hE];exact hT:P.underlying xt=some (.slice (P.elem xt))),I4,run_slice_h w xt a xs.length c (by rw[hE];exact hT) k j zo zo,hE,hs,I2,IW,sliced];rfl
end
end Go.VL
end
section
namespace Go.VL
def Free(O:Nat->Nat)(w:ln)(v:ix):Prop:=∀a n c,v=.slice (some a) n c->n≠0->O a.block=0/\a.block<w.heap.size
theorem Free.upd{S:Nat->Prop}{O O':Nat->Nat}{w w':ln}{v:ix}(h:Free O w v)(u:Upd S O w O' w'):Free O' w' v:=fun a n c e hn=>by
 obtain⟨h1,h2⟩:=h a n c e hn;refine⟨IG fun a0=>?_,IN h2 u.size⟩
 rcases u.new _ a0 with h3|h3
 ·exact h3 h1
 omega
theorem gH{w w':ln}{a:J2}{u:ix}(hb:w'.heap[a.block]? = w.heap[a.block]?)(h:w.cell? a=some u):w'.cell? a=some u:=by
 simpa only[LK,hb]using h
theorem Sl.upd{α:Type}{enc:α->List ix}{sz:Nat}{S:Nat->Prop}{O O':Nat->Nat}{w w':ln}{v:ix}{xs:List α}(h:Sl enc sz w v xs)(f:Free O w v)(u:Upd S O w O' w'):Sl enc sz w' v xs:=by
 refine⟨h.shape,fun i hi j x hx=>?_⟩;have hc:=h.cells i hi j x hx;obtain⟨a,c,e,_,_,ha⟩:=h.shape;obtain⟨b,o,rfl⟩:=ha zo;obtain⟨h1,h2⟩:=f _ _ _ e zo;refine gH ?_ hc
 have hb:((adr v sz i).add j).block=b:=by subst e;simp only[adr,IY];split<;>rfl
 rw[hb];exact u.blk b h2 (by rw[h1];exact u.z)
theorem RowT.free{α:Type}{enc:α->List ix}{E:I0}{sz:Nat}{O O':Nat->Nat}{w w':ln}{i B:Nat}{v:ix}{l:List α}(h:RowT enc E sz O' w' i v l)(hi:i≠0)(r:Rng w.heap.size O' w')(k:Rng B O w):Free O w' v:=fun a n c e _=>by
 subst e;have h1:=h.1.tag a.block rfl;have h2:=r.rng a.block (by rw[h1];exact hi);exact⟨IG fun a0=>by have:=k.rng _ a0;omega,h2.2⟩
def NewV(B:Nat)(v:ix):Prop:=∀a n c,v=.slice (some a) n c->n≠0->B<=a.block
theorem NewV.mono{B B':Nat}{v:ix}(h:NewV B v)(hb:B'<=B):NewV B' v:=fun a n c e hn=>Je hb (h a n c e hn)
theorem RowT.newV{α:Type}{enc:α->List ix}{E:I0}{sz B:Nat}{O:Nat->Nat}{w:ln}{i:Nat}{v:ix}{l:List α}(h:RowT enc E sz O w i v l)(hi:i≠0)(r:Rng B O w):NewV B v:=fun a n c e _=>by
 subst e;have h1:=h.1.tag a.block rfl;exact(r.rng a.block (by rw[h1];exact hi)).1
theorem Sl.blk_lt{α:Type}{enc:α->List ix}{sz:Nat}{w:ln}{v:ix}{xs:List α}(h:Sl enc sz w v xs)(hf:∀x∈xs,enc x≠[]){a:J2}{n c:Nat}(e:v=.slice (some a) n c)(hn:n≠0):a.block<w.heap.size:=by
 obtain⟨a',c',e1,_,_,e2⟩:=h.shape;subst e
 cases e1
 obtain⟨b,o,e3⟩:=e2 hn
 cases e3
 have hl:0<xs.length:=L8 hn
 cases hx:enc xs[0]with
 |nil=>exact absurd hx (hf _ (JP hl))
 |cons u r=>
  have hc:=h.cells 0 hl 0 u (by rw[hx];rfl);have:=JM _ _ hc;have hb:((adr (.slice (some ⟨b,o,none⟩) xs.length c) sz 0).add 0).block=b:=by simp only[adr,IY];split<;>rfl
  rwa[hb]at this
theorem NewV.free{α:Type}{enc:α->List ix}{sz B:Nat}{O:Nat->Nat}{w w':ln}{v:ix}{xs:List α}(h:NewV w.heap.size v)(hs:Sl enc sz w' v xs)(hf:∀x∈xs,enc x≠[])(r:Rng B O w):Free O w' v:=fun a n c e hn=>
 ⟨IG fun a0=>by have h1:=(r.rng _ a0).2;have h2:=h a n c e hn;omega,hs.blk_lt hf e hn⟩
theorem qo{w w':ln}{v:ix}(h:∀(B:Nat) (O:Nat->Nat),Rng B O w->Free O w' v):NewV w.heap.size v:=fun a n c e hn=>by
 have h1:=(h 0 (fun b=>if b<w.heap.size then 1 else 0) ⟨J6 _,fun b hb=>⟨J6 _,IG fun hn=>hb (if_neg hn)⟩⟩ a n c e hn).1;exact Nat.le_of_not_lt fun a0=>by
  have h2:(1:Nat)=0:=(if_pos a0).symm.trans h1
  cases h2
section
variable{P:I6}{N:Nat}{ops:Array IL}{Q:J1→Ji→ln→Prop}{rest:List IL}{st:St}{w:ln}
variable{t xt yt:I0}{p:String}{e:Array Jv}{d:Nat}{x y z:I3}
theorem cW{T E:I0}{bytes:Nat}(he:Elem P T E 1 bytes){α:Type}{val:α->ix}(z0:α)(a2:(P.info? E).bind (·.zero)=some (val z0))(h1:∀a,(val a).oneCell'=true){B:Nat}{O:Nat->Nat}(r:Rng B O w)(i:Nat)(a7:i≠0)(n:Nat){kl kc:I9}{m1 m2:Int}
  (hx:ev st x=some (.int kl m1)) (hy:ev st y=some (.int kc m2)) (a6:m1=n) (a5:m2=n) (hb:bytes*n<=281474976710656) (b0:n<=9223372036854775807) (hd:I1 d N=true)
  (h:∀w' O' v,v=.slice (some ⟨w.heap.size,0,none⟩) n n->RowT (fun x=>[val x]) E 1 O' w' i v (JH n z0)->Upd (fun k=>k=i) O w O' w'->Rng B O' w'->Ext w w'->WL P N ops Q rest ((d,v)::st) w') :
  WL P N ops Q (⟨some d,.makeSlice T x y,t,p,e,none⟩::rest) st w:=by
 obtain⟨a1,z,hi,hz,a4,a9,b1⟩:=he.parts;have a3:z=val z0:=by rw[hi]at a2;simpa[hz]using a2
 subst a3;subst a6;subst a5;have a8:(val z0).cells = #[val z0]:=by have:=h1 z0;generalize val z0=u at *;cases u<;>first|rfl|simp[Jk]at this
 have a':(a1.bytes:Int)*(n:Int)<=281474976710656:=by
  have h:((a1.bytes*n:Nat):Int)<=281474976710656:=by rw[a9];omega
  rwa[Int.natCast_mul]at h
 have a0:=run_make (P:=P) w T E a1 _ he.ht hi hz kl kc n n zo (KU _) a' zo;simp only[IW,a4,K4,a8]at a0;have hz:¬(fun k=>k=i) 0:=fun h=>a7 h.symm
 have u:=Upd.alloc (S:=fun k=>k=i) hz r (.cells (madeCells #[val z0] n) E) i;refine WL.val (v:=.slice (some ⟨w.heap.size,0,none⟩) n n) hd (fun a ha=>by simp only[execOp,ha.ev hx,ha.ev hy,I4,a0,I2];rfl) (h _ _ _ rfl ⟨⟨?_,fun g hg=>?_⟩,fun a _=>rfl⟩ u (r.upd u) (Ext.alloc _ _))
 ·rw[List.length_replicate];have:=World.ownsRow_lit (base:=0) (size:=1) (e:=E) w (madeCells #[val z0] n) n (J6 _) (by simpa[maxLen]using b0) (by rw[size_madeCells];omega);rw[toList_madeCells_one]at this;have e2:(JH n z0).flatMap (fun x=>[val x])=JH n (val z0):=by
   induction n with
   |zero=>rfl
   |succ n ih=>simp only[List.replicate_succ,JJ];congr 1;simp[List.flatMap_replicate]
  rw[e2];exact this
 simp only[JF,K1]at hg;subst hg;exact dS _ _ _
theorem cU{T E:I0}{sz a0:Nat}(he:Elem P T E sz a0){α:Type}{enc:α->List ix}(u:α){xv:ix}(hx:ev st x=some xv)(a2:xv.cells.toList=enc u)(a4:(enc u).length=sz)(hs:sz<=16777216)(hd:I1 d N=true)
  (h:∀v w',Sl enc sz w' v [u]->Ext w w'->WL P N ops Q rest ((d,v)::st) w'):WL P N ops Q (⟨some d,.buildSlice T 1 #[(0,x)],t,p,e,none⟩::rest) st w:=by
 obtain⟨a3,z,hi,hz,a1,a8,a7⟩:=he.parts;have a6:xv.cells.size=sz:=by rw[<-a4,<-a2];simp
 have a5:=he.pos;refine WL.val (v:=.slice (some ⟨w.heap.size,0,none⟩) 1 1) (w':=w.alloc (.cells xv.cells E)) hd (fun a ha=>?_) (h _ _ ⟨⟨_,1,rfl,IQ _,by simp,fun _=>⟨_,_,rfl⟩⟩,fun i hi j c hc=>?_⟩ (Ext.alloc _ _))
 ·have:=run_buildSlice (P:=P) w T E 1 #[(0,xv)] xv.cells a3 z he.ht hi hz (by rw[a1];omega) (by rw[a1];omega) (by
   rw[a1]
   exact jZ a6 (by simp))
  simp only[execOp,I7,IM,J4,ha.ev hx,I4,this,I2];rfl
 obtain rfl:i=0:=by simpa using hi
 simp only[KB]at hc;simp only[adr,Kf,KH];rw[show((⟨w.heap.size,0,none⟩:J2).add j)=⟨w.heap.size,j,none⟩from by simp only[IY];split<;>simp_all,cell_of_row _ _ j xv.cells E (0,0) (heap_alloc_new w _)];rw[<-a2]at hc;simpa using hc
theorem mA{α:Type}{enc:α->List ix}{sz:Nat}:∀(us:List α),(∀u∈us,(enc u).length=sz)->(us.flatMap enc).length=us.length*sz
 |[],_=>by simp
 |x::r,h=>by
  simp only[JJ,JI,JO,h x (by simp),mA r (fun u hu=>h u (by simp[hu])),Nat.succ_mul];omega
theorem AY{α:Type}{enc:α->List ix}{sz:Nat}{us:List α}{v:ix}(hs:Sl enc sz w v us)(hz:∀u∈us,(enc u).length=sz)(hp:0<sz){a:J2}{n c:Nat}(hv:v=.slice (some a) n c):∀j u,(us.flatMap enc)[j]? = some u->w.cell? (a.add j)=some u:=by
 intro j u hu;have a0:=mA us hz;have hj:j<us.length*sz:=by rw[<-a0];exact(IR.1 hu).1
 have hq:j / sz<us.length:=Nat.div_lt_of_lt_mul (by rw[Nat.mul_comm];exact hj);have hr:j % sz<sz:=Nat.mod_lt _ hp;have a1:j / sz*sz+j % sz=j:=Nat.div_add_mod' j sz;have hl:=hz _ (JP hq);have h1:=eD us hz (j / sz) hq (j % sz) _ (J8 zo);rw[a1,hu]at h1;have h2:=hs.cells (j / sz) hq (j % sz) u (by rw[J8 zo,<-h1]);obtain⟨a',c',e1,_,_,e2⟩:=hs.shape;obtain⟨b,o,e3⟩:=e2 (Nat.ne_of_gt (Nat.lt_of_le_of_lt (J6 _) hq));rw[hv]at e1 h2
 cases e1;cases e3
 simp only[adr]at h2;rw[show((⟨b,o,none⟩:J2).add j)=((⟨b,o+j / sz*sz,none⟩:J2).add (j % sz))from by simp only[IY];split<;>split<;>simp_all<;>omega];exact h2
theorem aB{T E:I0}{sz a0:Nat}(he:Elem P T E sz a0){α:Type}{enc:α->List ix}{B:Nat}{O:Nat->Nat}{i:Nat}{v sv:ix}{l us:List α}(hr:RowT enc E sz O w i v l)(r:Rng B O w)(hs:Sl enc sz w sv us)(a7:us.length≠0)
  (hx:ev st x=some v) (hy:ev st y=some sv) (a2:∀u∈us,(enc u).length=sz) (a6:∀u∈us,∀c∈enc u,c.oneCell'=true)
  (hb:(l.length+us.length)*a0<=140737488355328) (a':l.length+us.length<=9223372036854775807) (a8:i≠0) (hd:I1 d N=true)
  (h:∀v' w' O',RowT enc E sz O' w' i v' (l++us)->Upd (fun k=>k=i) O w O' w'->Rng B O' w'->WL P N ops Q rest ((d,v')::st) w') :
  WL P N ops Q (⟨some d,.call ⟨.builtin .append,#[x,y],#[T,T]⟩,t,p,e,none⟩::rest) st w:=by
 obtain⟨a,c,rfl,_,_,a9⟩:=hs.shape;obtain⟨b,o,rfl⟩:=a9 a7;have a5:=mA us a2
 obtain⟨v',w',O',a3,a4,a1⟩:=eS (P:=P) (ty:=t) he r hr.1 ⟨b,o,none⟩ us.length c (us.flatMap enc) a5 (AY hs a2 he.pos rfl) (fun u hu=>by
  obtain⟨q,hq,hc⟩:=Lh.1 hu
  exact a6 q hq u hc) hb a' a8
 refine WL.val (v:=v') (w':=w') hd (fun a ha=>?_) (h v' w' O' ⟨by simpa using a4,fun q hq=>?_⟩ a1 (r.upd a1))
 ·simp only[execOp,resolve,invoke,builtin,I4,IP,I2,I7,IM,J4,ha.ev hx,ha.ev hy,a3]
 rcases Jh.1 hq with hq|hq
 ·exact hr.2 q hq
 exact a2 q hq
end
end Go.VL
end
section
namespace Go.VL
class FA(P:I6)(S:I0)(f:Nat)(o:outParam Nat):Prop where
 fa:∃fs fd m,P.underlying S=some (.struct fs)∧fs[f]? = some fd∧fd.offset=o∧(∀w,(J0 fd.type).run P w=.ok m w)∧m≠0
class AG(P:I6)(T:I0)(b:outParam Bool):Prop where
 ag:∀w,(Lk T).run P w=.ok b w
structure Hold(B:Prop):Prop where
 out:B
class SC(P:I6)(T:I0)(sz:outParam Nat):Prop where
 sc:∃E,P.underlying T=some (.slice E)∧∀w,(J0 E).run P w=.ok sz w
section
variable{P:I6}{N:Nat}{ops:Array IL}{S:ln→Prop}{Q:J1→Ji→ln→Prop}{K:Ji→Prop}{rest:List IL}{st:St}{w:ln}{fuel:Nat}{listed:Array Bool}
variable{t:I0}{p:String}{e:Array Jv}{d:Nat}{x:I3}{v:ix}{op:Op}
theorem RV.fa{T:I0}{f o:Nat}{q:J2}[h:FA P T f o](hx:ev st x=some (.pointer (some q))):RV P N (.fieldAddr T x f) t st w (.pointer (some (q.add o))):=by
 obtain⟨fs,fd,m,h1,h2,h3,h4,h5⟩:=h.fa
 exact RV.fieldAddr o h1 h2 h3 (h4 w) h5 hx
theorem RV.ld{T:I0}{q:J2}{u:ix}[h:AG P T false](hc:w.cell? q=some u)(hx:ev st x=some (.pointer (some q))):RV P N (.load T x) t st w u:=RV.load hc (h.ag w) hx
theorem Gh{T:I0}{sz:Nat}[h:SC P T sz]{α:Type}{enc:α→List ix}{v:ix}{xs:List α}(hx:ev st x=some v)(hs:Sl enc sz w v xs):RV P N (.call ⟨.builtin .len,#[x],#[T]⟩) t st w (.int .i64 (xs.length:Int)):=by
 obtain⟨E,h1,_⟩:=h.sc
 exact RV.len hs h1 hx
theorem Gi{y:I3}{T:I0}{sz:Nat}[h:SC P T sz]{α:Type}{enc:α→List ix}{v:ix}{xs:List α}{k:I9}{i:Int}{n:Nat}(hx:ev st x=some v)(hy:ev st y=some (.int k i))(hs:Sl enc sz w v xs)(hi:i=n)(hn:n<xs.length):RV P N (.indexAddr T x y) t st w (.pointer (some (adr v sz n))):=by
 obtain⟨E,h1,h2⟩:=h.sc
 exact RV.indexAddr hs h1 (h2 w) hx hy n hi hn
theorem Ir{T:I0}{q:J2}{u:ix}[h:AG P T false](hx:ev st x=some (.pointer (some q)))(hc:w.cell? q=some u)(hd:I1 d N=true)(h:WL P N ops Q rest ((d,u)::st) w):WL P N ops Q (⟨some d,.load T x,t,p,e,none⟩::rest) st w:=lL (RV.ld hc hx) hd h
theorem Iu{T:I0}{q:J2}{u:ix}[h:AG P T false](hx:ev st x=some (.pointer (some q)))(hc:w.cell? q=some u)(hd:I1 d N=true)(h:WS P N ops w K rest ((d,u)::st)):WS P N ops w K (⟨some d,.load T x,t,p,e,none⟩::rest) st:=oF (RV.ld hc hx) hd h
theorem Iq{T:I0}{sz:Nat}[h:SC P T sz]{α:Type}{enc:α→List ix}{v:ix}{xs:List α}(hx:ev st x=some v)(hs:Sl enc sz w v xs)(hd:I1 d N=true)(h:WL P N ops Q rest ((d,.int .i64 (xs.length:Int))::st) w):WL P N ops Q (⟨some d,.call ⟨.builtin .len,#[x],#[T]⟩,t,p,e,none⟩::rest) st w:=lL (Gh hx hs) hd h
theorem Is{y:I3}{T:I0}{sz:Nat}[h:SC P T sz]{α:Type}{enc:α→List ix}{v:ix}{xs:List α}{k:I9}{i:Int}{n:Nat}(hx:ev st x=some v)(hy:ev st y=some (.int k i))(hs:Sl enc sz w v xs)(hi:i=n)(hn:n<xs.length)(hd:I1 d N=true)(h:WL P N ops Q rest ((d,.pointer (some (adr v sz n)))::st) w):WL P N ops Q (⟨some d,.indexAddr T x y,t,p,e,none⟩::rest) st w:=lL (Gi hx hy hs hi hn) hd h
theorem Gz{xt yt:I0}{y:I3}{m n:Int}(hx:ev st x=some (.int .i64 m))(hy:ev st y=some (.int .i64 n))(hr : -9223372036854775808≤m+n∧m+n≤9223372036854775807)(hd:I1 d N=true)(h:WL P N ops Q rest ((d,.int .i64 (m+n))::st) w):WL P N ops Q (⟨some d,.binOp .add xt x y yt,t,p,e,none⟩::rest) st w:=lL (RV.add hx hy (Fit.i64 hr)) hd h
theorem Gy{xt yt:I0}{y:I3}{m n:Int}(hx:ev st x=some (.int .i64 m))(hy:ev st y=some (.int .i64 n))(hr : -9223372036854775808≤m-n∧m-n≤9223372036854775807)(hd:I1 d N=true)(h:WL P N ops Q rest ((d,.int .i64 (m-n))::st) w):WL P N ops Q (⟨some d,.binOp .sub xt x y yt,t,p,e,none⟩::rest) st w:=lL (RV.sub hx hy (Fit.i64 hr)) hd h
theorem Gf{y z:I3}{b:Bool}{v:ix}(hc:ev st x=some (.bool b))(hb:b=true)(hy:ev st y=some v):RV P N (.pick x y z) t st w v:=bG (hb▸hc) hy
theorem Gg{y z:I3}{b:Bool}{v:ix}(hc:ev st x=some (.bool b))(hb:b=false)(hz:ev st z=some v):RV P N (.pick x y z) t st w v:=bL (hb▸hc) hz
theorem Dn{d:Option M7}{j:Nat}{b b':Bool}(hs:said ops st j=some b')(hb:b'=b)(h:WL P N ops Q (⟨d,op,t,p,e,none⟩::rest) st w):WL P N ops Q (⟨d,op,t,p,e,some (j,b)⟩::rest) st w:=gR (hb▸hs) h
theorem Bq{j:Nat}{b':Bool}(hs:said ops st j=some b')(hb:b'=false)(hd:I1 d N=true)(h:WL P N ops Q rest ((d,undef)::st) w):WL P N ops Q (⟨some d,op,t,p,e,some (j,true)⟩::rest) st w:=WL.off hs (by rw[hb];rfl) hd h
theorem Br{j:Nat}{b':Bool}(hs:said ops st j=some b')(hb:b'=true)(hd:I1 d N=true)(h:WL P N ops Q rest ((d,undef)::st) w):WL P N ops Q (⟨some d,op,t,p,e,some (j,false)⟩::rest) st w:=WL.off hs (by rw[hb];rfl) hd h
theorem Dj{d:Option M7}{j:Nat}{b b':Bool}(hs:said ops st j=some b')(hb:b'=b)(h:WS P N ops w K (⟨d,op,t,p,e,none⟩::rest) st):WS P N ops w K (⟨d,op,t,p,e,some (j,b)⟩::rest) st:=G7 (hb▸hs) h
theorem Bo{j:Nat}{b':Bool}(hs:said ops st j=some b')(hb:b'=false)(hd:I1 d N=true)(h:WS P N ops w K rest ((d,undef)::st)):WS P N ops w K (⟨some d,op,t,p,e,some (j,true)⟩::rest) st:=WS.off hs (by rw[hb];rfl) hd h
theorem Bp{j:Nat}{b':Bool}(hs:said ops st j=some b')(hb:b'=true)(hd:I1 d N=true)(h:WS P N ops w K rest ((d,undef)::st)):WS P N ops w K (⟨some d,op,t,p,e,some (j,false)⟩::rest) st:=WS.off hs (by rw[hb];rfl) hd h
theorem Dl{o:IL}{n:Nat}{l:List IL}(h:WL P N ops Q (o::l.take n) st w):WL P N ops Q (Kg (n+1) (o::l)) st w:=h
theorem Dm{l:List IL}(h:WL P N ops Q [] st w):WL P N ops Q (Kg 0 l) st w:=h
theorem CX{v:ix}(hx:ev st x=some v)(hd:I1 d N=true)(h:WL P N ops Q rest ((d,v)::st) w):WL P N ops Q (⟨some d,.move x,t,p,e,none⟩::rest) st w:=lL (RV.move hx) hd h
theorem vy{v:ix}(hx:ev st x=some v)(hd:I1 d N=true)(h:WL P N ops Q rest ((d,v)::st) w):WL P N ops Q (⟨some d,.assign x,t,p,e,none⟩::rest) st w:=lL (RV.assign hx) hd h
theorem If{T:I0}{f o:Nat}{q:J2}[FA P T f o](hx:ev st x=some (.pointer (some q)))(hd:I1 d N=true)(h:WL P N ops Q rest ((d,.pointer (some (q.add o)))::st) w):WL P N ops Q (⟨some d,.fieldAddr T x f,t,p,e,none⟩::rest) st w:=lL (RV.fa hx) hd h
theorem vx{q:J2}(hx:ev st x=some (.pointer (some q)))(hd:I1 d N=true)(h:WL P N ops Q rest ((d,.pointer (some q))::st) w):WL P N ops Q (⟨some d,.nilCheck x,t,p,e,none⟩::rest) st w:=lL (ak hx) hd h
theorem qZ{vs:Array ix}{i:Nat}{v:ix}(hx:ev st x=some (.tuple vs))(hv:vs[i]? = some v)(hd:I1 d N=true)(h:WL P N ops Q rest ((d,v)::st) w):WL P N ops Q (⟨some d,.extract x i,t,p,e,none⟩::rest) st w:=lL (RV.extract hx hv) hd h
theorem Fv{xt:I0}{b:Bool}(hx:ev st x=some (.bool b))(hd:I1 d N=true)(h:WL P N ops Q rest ((d,.bool (!b))::st) w):WL P N ops Q (⟨some d,.unOp .not xt x,t,p,e,none⟩::rest) st w:=lL (RV.not hx) hd h
theorem Ft{y z:I3}{b:Bool}{v:ix}(hc:ev st x=some (.bool b))(hb:b=true)(hy:ev st y=some v)(hd:I1 d N=true)(h:WL P N ops Q rest ((d,v)::st) w):WL P N ops Q (⟨some d,.pick x y z,t,p,e,none⟩::rest) st w:=lL (Gf hc hb hy) hd h
theorem Fu{y z:I3}{b:Bool}{v:ix}(hc:ev st x=some (.bool b))(hb:b=false)(hz:ev st z=some v)(hd:I1 d N=true)(h:WL P N ops Q rest ((d,v)::st) w):WL P N ops Q (⟨some d,.pick x y z,t,p,e,none⟩::rest) st w:=lL (Gg hc hb hz) hd h
theorem Fx{xt yt:I0}{y:I3}{k:I9}{m n:Int}(hx:ev st x=some (.int k m))(hy:ev st y=some (.int k n))(hd:I1 d N=true)(h:WL P N ops Q rest ((d,.bool (decide (m<n)))::st) w):WL P N ops Q (⟨some d,.binOp .lss xt x y yt,t,p,e,none⟩::rest) st w:=lL (RV.lss hx hy) hd h
theorem Fy{xt yt:I0}{y:I3}{k:I9}{m n:Int}(hx:ev st x=some (.int k m))(hy:ev st y=some (.int k n))(hd:I1 d N=true)(h:WL P N ops Q rest ((d,.bool (decide (m≤n)))::st) w):WL P N ops Q (⟨some d,.binOp .leq xt x y yt,t,p,e,none⟩::rest) st w:=lL (RV.leq hx hy) hd h
theorem Fz{xt yt:I0}{y:I3}{k:I9}{m n:Int}(hx:ev st x=some (.int k m))(hy:ev st y=some (.int k n))(hd:I1 d N=true)(h:WL P N ops Q rest ((d,.bool (decide (n<m)))::st) w):WL P N ops Q (⟨some d,.binOp .gtr xt x y yt,t,p,e,none⟩::rest) st w:=lL (RV.gtr hx hy) hd h
theorem FB{xt yt:I0}{y:I3}{k:I9}{m n:Int}(hx:ev st x=some (.int k m))(hy:ev st y=some (.int k n))(hd:I1 d N=true)(h:WL P N ops Q rest ((d,.bool (decide (n≤m)))::st) w):WL P N ops Q (⟨some d,.binOp .geq xt x y yt,t,p,e,none⟩::rest) st w:=lL (RV.geq hx hy) hd h
theorem FC{xt yt:I0}{y:I3}{k:I9}{m n:Int}(hx:ev st x=some (.int k m))(hy:ev st y=some (.int k n))(hd:I1 d N=true)(h:WL P N ops Q rest ((d,.bool (m==n))::st) w):WL P N ops Q (⟨some d,.binOp .eql xt x y yt,t,p,e,none⟩::rest) st w:=lL (RV.eql hx hy) hd h
theorem Fw{xt yt:I0}{y:I3}{k:I9}{m n:Int}(hx:ev st x=some (.int k m))(hy:ev st y=some (.int k n))(hd:I1 d N=true)(h:WL P N ops Q rest ((d,.bool (m != n))::st) w):WL P N ops Q (⟨some d,.binOp .neq xt x y yt,t,p,e,none⟩::rest) st w:=lL (RV.neq hx hy) hd h
theorem CY{v:ix}(hx:ev st x=some v)(hd:I1 d N=true)(h:WS P N ops w K rest ((d,v)::st)):WS P N ops w K (⟨some d,.move x,t,p,e,none⟩::rest) st:=oF (RV.move hx) hd h
theorem vA{v:ix}(hx:ev st x=some v)(hd:I1 d N=true)(h:WS P N ops w K rest ((d,v)::st)):WS P N ops w K (⟨some d,.assign x,t,p,e,none⟩::rest) st:=oF (RV.assign hx) hd h
theorem Ig{T:I0}{f o:Nat}{q:J2}[FA P T f o](hx:ev st x=some (.pointer (some q)))(hd:I1 d N=true)(h:WS P N ops w K rest ((d,.pointer (some (q.add o)))::st)):WS P N ops w K (⟨some d,.fieldAddr T x f,t,p,e,none⟩::rest) st:=oF (RV.fa hx) hd h
theorem vz{q:J2}(hx:ev st x=some (.pointer (some q)))(hd:I1 d N=true)(h:WS P N ops w K rest ((d,.pointer (some q))::st)):WS P N ops w K (⟨some d,.nilCheck x,t,p,e,none⟩::rest) st:=oF (ak hx) hd h
theorem rf{vs:Array ix}{i:Nat}{v:ix}(hx:ev st x=some (.tuple vs))(hv:vs[i]? = some v)(hd:I1 d N=true)(h:WS P N ops w K rest ((d,v)::st)):WS P N ops w K (⟨some d,.extract x i,t,p,e,none⟩::rest) st:=oF (RV.extract hx hv) hd h
theorem Dh{o:IL}{n:Nat}{l:List IL}(h:WS P N ops w K (o::l.take n) st):WS P N ops w K (Kg (n+1) (o::l)) st:=h
theorem Di{l:List IL}(h:WS P N ops w K [] st):WS P N ops w K (Kg 0 l) st:=h
theorem FF{xt yt:I0}{y:I3}{k:I9}{m n:Int}(hx:ev st x=some (.int k m))(hy:ev st y=some (.int k n))(hd:I1 d N=true)(h:WS P N ops w K rest ((d,.bool (decide (m<n)))::st)):WS P N ops w K (⟨some d,.binOp .lss xt x y yt,t,p,e,none⟩::rest) st:=oF (RV.lss hx hy) hd h
theorem FG{xt yt:I0}{y:I3}{k:I9}{m n:Int}(hx:ev st x=some (.int k m))(hy:ev st y=some (.int k n))(hd:I1 d N=true)(h:WS P N ops w K rest ((d,.bool (decide (m≤n)))::st)):WS P N ops w K (⟨some d,.binOp .leq xt x y yt,t,p,e,none⟩::rest) st:=oF (RV.leq hx hy) hd h
theorem FH{xt yt:I0}{y:I3}{k:I9}{m n:Int}(hx:ev st x=some (.int k m))(hy:ev st y=some (.int k n))(hd:I1 d N=true)(h:WS P N ops w K rest ((d,.bool (decide (n<m)))::st)):WS P N ops w K (⟨some d,.binOp .gtr xt x y yt,t,p,e,none⟩::rest) st:=oF (RV.gtr hx hy) hd h
theorem FJ{xt yt:I0}{y:I3}{k:I9}{m n:Int}(hx:ev st x=some (.int k m))(hy:ev st y=some (.int k n))(hd:I1 d N=true)(h:WS P N ops w K rest ((d,.bool (decide (n≤m)))::st)):WS P N ops w K (⟨some d,.binOp .geq xt x y yt,t,p,e,none⟩::rest) st:=oF (RV.geq hx hy) hd h
theorem FK{xt yt:I0}{y:I3}{k:I9}{m n:Int}(hx:ev st x=some (.int k m))(hy:ev st y=some (.int k n))(hd:I1 d N=true)(h:WS P N ops w K rest ((d,.bool (m==n))::st)):WS P N ops w K (⟨some d,.binOp .eql xt x y yt,t,p,e,none⟩::rest) st:=oF (RV.eql hx hy) hd h
theorem FE{xt yt:I0}{y:I3}{k:I9}{m n:Int}(hx:ev st x=some (.int k m))(hy:ev st y=some (.int k n))(hd:I1 d N=true)(h:WS P N ops w K rest ((d,.bool (m != n))::st)):WS P N ops w K (⟨some d,.binOp .neq xt x y yt,t,p,e,none⟩::rest) st:=oF (RV.neq hx hy) hd h
theorem GC{xt yt:I0}{y:I3}{m n:Int}(hx:ev st x=some (.int .i64 m))(hy:ev st y=some (.int .i64 n))(hr : -9223372036854775808≤m+n∧m+n≤9223372036854775807)(hd:I1 d N=true)(h:WS P N ops w K rest ((d,.int .i64 (m+n))::st)):WS P N ops w K (⟨some d,.binOp .add xt x y yt,t,p,e,none⟩::rest) st:=oF (RV.add hx hy (Fit.i64 hr)) hd h
theorem GA{xt yt:I0}{y:I3}{m n:Int}(hx:ev st x=some (.int .i64 m))(hy:ev st y=some (.int .i64 n))(hr : -9223372036854775808≤m-n∧m-n≤9223372036854775807)(hd:I1 d N=true)(h:WS P N ops w K rest ((d,.int .i64 (m-n))::st)):WS P N ops w K (⟨some d,.binOp .sub xt x y yt,t,p,e,none⟩::rest) st:=oF (RV.sub hx hy (Fit.i64 hr)) hd h
theorem FD{xt:I0}{b:Bool}(hx:ev st x=some (.bool b))(hd:I1 d N=true)(h:WS P N ops w K rest ((d,.bool (!b))::st)):WS P N ops w K (⟨some d,.unOp .not xt x,t,p,e,none⟩::rest) st:=oF (RV.not hx) hd h
theorem GB{w0:ln}{T:I0}{q:J2}{u:ix}[h:AG P T false](hx:ev st x=some (.pointer (some q)))(hc:w0.cell? q=some u)(hd:I1 d N=true)(h:WS P N ops w0.drew K rest ((d,u)::st)):WS P N ops w0.drew K (⟨some d,.load T x,t,p,e,none⟩::rest) st:=oF (RV.ld (w:=w0.drew) hc hx) hd h
theorem It{w0:ln}{T:I0}{sz:Nat}[h:SC P T sz]{α:Type}{enc:α→List ix}{v:ix}{xs:List α}(hx:ev st x=some v)(hs:Sl enc sz w0 v xs)(hd:I1 d N=true)(h:WS P N ops w0.drew K rest ((d,.int .i64 (xs.length:Int))::st)):WS P N ops w0.drew K (⟨some d,.call ⟨.builtin .len,#[x],#[T]⟩,t,p,e,none⟩::rest) st:=oF (Gh hx (hs.ext (Ext.refl w0).drew)) hd h
theorem Iv{w0:ln}{y:I3}{T:I0}{sz:Nat}[h:SC P T sz]{α:Type}{enc:α→List ix}{v:ix}{xs:List α}{k:I9}{i:Int}{n:Nat}(hx:ev st x=some v)(hy:ev st y=some (.int k i))(hs:Sl enc sz w0 v xs)(hi:i=n)(hn:n<xs.length)(hd:I1 d N=true)(h:WS P N ops w0.drew K rest ((d,.pointer (some (adr v sz n)))::st)):WS P N ops w0.drew K (⟨some d,.indexAddr T x y,t,p,e,none⟩::rest) st:=oF (Gi hx hy (hs.ext (Ext.refl w0).drew) hi hn) hd h
theorem zv(hv:RV P N op t st w v)(h:WL P N ops Q rest ((d,v)::st) w)(hd:I1 d N=true:=by exact rfl):WL P N ops Q (⟨some d,op,t,p,e,none⟩::rest) st w:=lL hv hd h
theorem zw(hv:RV P N op t st w v)(h:WS P N ops w K rest ((d,v)::st))(hd:I1 d N=true:=by exact rfl):WS P N ops w K (⟨some d,op,t,p,e,none⟩::rest) st:=oF hv hd h
theorem zc{f:Ju}{args:List I3}{ats:Array I0}{vs:List ix}{R:ix→ln→Prop}
 (hf:∀(args:Array ix) (w:ln),(callFunc f args).run P w=.ok (.enter f args) w) (hc:Ret P f vs w R)
 (h:∀v w',R v w'→WL P N ops Q rest ((d,v)::st) w') (hargs:evs st args=some vs:=by exact rfl) (hd:I1 d N=true:=by exact rfl):WL P N ops Q (⟨some d,.call ⟨.value (.func f),args.toArray,ats⟩,t,p,e,none⟩::rest) st w:=WL.call hf hargs hc hd h
theorem zt(i:Nat)(hi:ops[i]? = some ⟨some d,op,t,p,e,none⟩)(hS:S w)(hv:∀w',S w'→RV P N op t st w' v)(h:WH P N ops S Q fuel (listed.setIfInBounds i true) ((d,v)::st) w)
  (hs:IJ ops=true:=by kernel_rfl) (hf:IT .any ops listed i=true:=by kernel_rfl) (hr:(IH .any ops listed).contains i=true:=by kernel_rfl) (hd:I1 d N=true:=by exact rfl):WH P N ops S Q (fuel+1) listed st w:=
 WH.take i hi hs hf hr hS hv hd h
theorem zr(i:Nat)(hi:ops[i]? = some ⟨some d,op,t,p,e,none⟩)(hS:S w)(hv:∀w',RV P N op t st w' v)(h:WH P N ops S Q fuel (listed.setIfInBounds i true) ((d,v)::st) w)
  (hs:IJ ops=true:=by kernel_rfl) (hf:IT .any ops listed i=true:=by kernel_rfl) (hr:(IH .any ops listed).contains i=true:=by kernel_rfl) (hd:I1 d N=true:=by exact rfl):WH P N ops S Q (fuel+1) listed st w:=
 WH.take i hi hs hf hr hS (fun w' _=>hv w') hd h
theorem zC{c:I3}{x y:Jw}{b:Bool}(ht:b=true→WC P N x Q st w)(hf:b=false→WC P N y Q st w)(hc:ev st c=some (.bool b):=by exact rfl):WC P N (.cond c x y) Q st w:=WC.cond hc ht hf
theorem zsa{y:I3}{T:I0}{O:Nat→Nat}{i b:Nat}{cs us:Array ix}{E:I0}{q:J2}(hb:BlkO O w i b cs E)(hT:(J0 T).run P w=.ok us.size w)(h:WL P N ops Q rest st (w.setRow b us))(hs:us.size=cs.size:=by exact rfl)(h1:us.toList.all Jk=true:=by exact rfl)(hx:ev st x=some (.pointer (some q)):=by exact rfl)(hq:q=⟨b,0,none⟩:=by exact rfl)(hy:ev st y=some (.agg us):=by exact rfl):WL P N ops Q (⟨none,.store T x y,t,p,e,none⟩::rest) st w:=bp hb hs hT h1 hx hq hy h
theorem zsb{y:I3}{T:I0}{O:Nat→Nat}{i b:Nat}{cs us:Array ix}{E:I0}{q:J2}(hb:BlkO O w i b cs E)(hT:(J0 T).run P w=.ok us.size w)(h1:us.toList.all Jk=true)(h:WL P N ops Q rest st (w.setRow b us))(hs:us.size=cs.size:=by exact rfl)(hx:ev st x=some (.pointer (some q)):=by exact rfl)(hq:q=⟨b,0,none⟩:=by exact rfl)(hy:ev st y=some (.agg us):=by exact rfl):WL P N ops Q (⟨none,.store T x y,t,p,e,none⟩::rest) st w:=bp hb hs hT h1 hx hq hy h
theorem fI{P:I6}{T:I0}{f o m:Nat}{fs:Array Mp}{fd:Mp}(h1:P.underlying T=some (.struct fs))(h2:fs[f]? = some fd)(h3:fd.offset=o)(h4:∀w,(J0 fd.type).run P w=.ok m w)(h5:m≠0:=by decide):FA P T f o:=⟨fs,fd,m,h1,h2,h3,h4,h5⟩
theorem zaf{i:Nat}(hS:S w)(h:S w→WH P N ops S Q fuel (listed.setIfInBounds i true) st w):QF N (qU P ops S Q fuel (listed.setIfInBounds i true)) .normal st w:=af hS (h hS)
theorem zrm{x:I3}(i:Nat)(hi:ops[i]? = some ⟨some d,.move x,t,p,e,none⟩)(hS:S w)(hx:ev st x=some v)(h:WH P N ops S Q fuel (listed.setIfInBounds i true) ((d,v)::st) w)
  (hs:IJ ops=true:=by kernel_rfl) (hf:IT .any ops listed i=true:=by kernel_rfl) (hr:(IH .any ops listed).contains i=true:=by kernel_rfl) (hd:I1 d N=true:=by exact rfl):WH P N ops S Q (fuel+1) listed st w:=
 WH.take i hi hs hf hr hS (fun _ _=>RV.move hx) hd h
theorem zra{x:I3}(i:Nat)(hi:ops[i]? = some ⟨some d,.assign x,t,p,e,none⟩)(hS:S w)(hx:ev st x=some v)(h:WH P N ops S Q fuel (listed.setIfInBounds i true) ((d,v)::st) w)
  (hs:IJ ops=true:=by kernel_rfl) (hf:IT .any ops listed i=true:=by kernel_rfl) (hr:(IH .any ops listed).contains i=true:=by kernel_rfl) (hd:I1 d N=true:=by exact rfl):WH P N ops S Q (fuel+1) listed st w:=
 WH.take i hi hs hf hr hS (fun _ _=>RV.assign hx) hd h
theorem zrf{T:I0}{f o:Nat}{q:J2}[h':FA P T f o]{x:I3}(i:Nat)(hi:ops[i]? = some ⟨some d,.fieldAddr T x f,t,p,e,none⟩)(hS:S w)(hx:ev st x=some (.pointer (some q)))(h:WH P N ops S Q fuel (listed.setIfInBounds i true) ((d,.pointer (some (q.add o)))::st) w)
  (hs:IJ ops=true:=by kernel_rfl) (hf:IT .any ops listed i=true:=by kernel_rfl) (hr:(IH .any ops listed).contains i=true:=by kernel_rfl) (hd:I1 d N=true:=by exact rfl):WH P N ops S Q (fuel+1) listed st w:=
 WH.take i hi hs hf hr hS (fun _ _=>RV.fa hx) hd h
theorem zto{j:Nat}{b:Bool}(i:Nat)(hi:ops[i]? = some ⟨some d,op,t,p,e,some (j,b)⟩)(hS:S w)(hv:∀w',S w'→RV P N op t st w' v)(h:WH P N ops S Q fuel (listed.setIfInBounds i true) ((d,v)::st) w)(hg:said ops st j=some b:=by exact rfl)
  (hs:IJ ops=true:=by kernel_rfl) (hf:IT .any ops listed i=true:=by kernel_rfl) (hr:(IH .any ops listed).contains i=true:=by kernel_rfl) (hd:I1 d N=true:=by exact rfl):WH P N ops S Q (fuel+1) listed st w:=
 tn i hi hg hs hf hr hS hv hd h
theorem zro{j:Nat}{b:Bool}(i:Nat)(hi:ops[i]? = some ⟨some d,op,t,p,e,some (j,b)⟩)(hS:S w)(hv:∀w',RV P N op t st w' v)(h:WH P N ops S Q fuel (listed.setIfInBounds i true) ((d,v)::st) w)(hg:said ops st j=some b:=by exact rfl)
  (hs:IJ ops=true:=by kernel_rfl) (hf:IT .any ops listed i=true:=by kernel_rfl) (hr:(IH .any ops listed).contains i=true:=by kernel_rfl) (hd:I1 d N=true:=by exact rfl):WH P N ops S Q (fuel+1) listed st w:=
 tn i hi hg hs hf hr hS (fun w' _=>hv w') hd h
theorem zte{j:Nat}{b b':Bool}(i:Nat)(hi:ops[i]? = some ⟨some d,op,t,p,e,some (j,b)⟩)(hg:said ops st j=some b')(hS:S w)(h:WH P N ops S Q fuel (listed.setIfInBounds i true) ((d,undef)::st) w)(hne:(b'==b)=false:=by exact rfl)
  (hs:IJ ops=true:=by kernel_rfl) (hf:IT .any ops listed i=true:=by kernel_rfl) (hr:(IH .any ops listed).contains i=true:=by kernel_rfl) (hd:I1 d N=true:=by exact rfl):WH P N ops S Q (fuel+1) listed st w:=
 yK i hi hg hne hs hf hr hS hd h
theorem ztu{j:Nat}{b:Bool}(i:Nat)(hi:ops[i]? = some ⟨some d,op,t,p,e,some (j,b)⟩)(hS:S w)(h:WH P N ops S Q fuel (listed.setIfInBounds i true) ((d,undef)::st) w)(hg:iW ops st j=true:=by exact rfl)
  (hs:IJ ops=true:=by kernel_rfl) (hf:IT .any ops listed i=true:=by kernel_rfl) (hr:(IH .any ops listed).contains i=true:=by kernel_rfl) (hd:I1 d N=true:=by exact rfl):WH P N ops S Q (fuel+1) listed st w:=
 vi i hi hg hs hf hr hS hd h
theorem nE{tB:Nat}{b c X:Bool}{st0:St}(tA n:Nat)(hS:S w)(e:X=c)(hX:cf st0 tA=some (.bool X):=by exact rfl)(hdrop:st.drop n=st0:=by exact rfl)(hf:((st.take n).all fun q=>Jf q.1 tA||(match cf st0 q.1 with|none=>true|_=>false))=true:=by exact rfl)
 (hA:cf st tA=some (.bool c):=by exact rfl) (hb:cf st tB=some (.bool b):=by exact rfl):QF N (Fs N S tB b st0) .normal st w:=bE n hS hdrop hf hA (fun v hv=>by rw[hX]at hv;cases hv;rw[e]) hb
theorem zin(hS:S w)(h:S w→WH P N ops S Q fuel listed st w):WH P N ops S Q fuel listed st w:=h hS
theorem zlp{α:Type}{c:Jw}(f:α→St)(g:α→ln)(I:α→Prop)(μ:α→Nat)(x0:α)(h0:I x0)
 (round:∀x,I x→WC P N c (Exit.then (fun a' w'=>∃y,I y∧μ y<μ x∧Fits N a' (f y)∧g y=w') Q) (f x) (g x)) (hc:Cov st (f x0):=by repeat' first|exact trivial|exact rfl|constructor) (hw:g x0=w:=by exact rfl):WC P N (.loop c) Q st w:=WC.loop f g I μ x0 h0 hc hw round
theorem zx{α:Type}{f:α→St}{g:α→ln}{I:α→Prop}{m:Nat}{μ:α→Nat}(y:α)(h1:I y)(h2:μ y<m)(h3:Cov st (f y):=by repeat' first|exact trivial|exact rfl|constructor)(h4:g y=w:=by exact rfl):
 QF N (Exit.then (fun a' w'=>∃y,I y∧μ y<m∧Fits N a' (f y)∧g y=w') Q) .normal st w:=QF.next y h1 h2 h3 h4
theorem zxd{α:Type}{f:α→St}{g:α→ln}{I:α→Prop}{m:Nat}{μ:α→Nat}(y:α)(h1:I y)(h2:μ y<m:=by first|omega|(dsimp only;omega))(h3:Cov st (f y):=by repeat' first|exact trivial|exact rfl|constructor)(h4:g y=w:=by exact rfl):
 QF N (Exit.then (fun a' w'=>∃y,I y∧μ y<m∧Fits N a' (f y)∧g y=w') Q) .normal st w:=QF.next y h1 h2 h3 h4
end
theorem zg{A B:Prop}(k:B)(a:Hold B→A:=by
 intro k
 repeat first
  |((with_reducible refine' CX ?_ ?_ ?_);rotate_left 1;exact rfl;exact rfl)
  |((with_reducible refine' vy ?_ ?_ ?_);rotate_left 1;exact rfl;exact rfl)
  |((with_reducible refine' If ?_ ?_ ?_);rotate_left 1;exact rfl;exact rfl)
  |with_reducible refine WL.nil ?_
  |with_reducible refine Dl ?_
  |with_reducible refine Dm ?_
  |with_reducible refine aq ?_
  |with_reducible refine WC.seq ?_
  |with_reducible refine WC.region ?_
  |with_reducible refine WC.skip ?_
  |with_reducible refine WC.block ?_
  |with_reducible refine WC.exit ?_
  |with_reducible refine WC.ret ?_
  |with_reducible refine bP ?_
  |with_reducible refine dJ ?_
  |with_reducible refine bQ ?_
  |with_reducible refine dK ?_
  |with_reducible refine nQ ?_
  |((with_reducible refine lR ?_ ?_);exact rfl)
  |((with_reducible refine' vx ?_ ?_ ?_);rotate_left 1;exact rfl;exact rfl)
  |((with_reducible refine' qZ ?_ ?_ ?_ ?_);rotate_left 2;exact rfl;exact rfl;exact rfl)
  |((with_reducible refine' Fx ?_ ?_ ?_ ?_);rotate_left 3;exact rfl;exact rfl;exact rfl)
  |((with_reducible refine' Fy ?_ ?_ ?_ ?_);rotate_left 3;exact rfl;exact rfl;exact rfl)
  |((with_reducible refine' Fz ?_ ?_ ?_ ?_);rotate_left 3;exact rfl;exact rfl;exact rfl)
  |((with_reducible refine' FB ?_ ?_ ?_ ?_);rotate_left 3;exact rfl;exact rfl;exact rfl)
  |((with_reducible refine' FC ?_ ?_ ?_ ?_);rotate_left 3;exact rfl;exact rfl;exact rfl)
  |((with_reducible refine' Fw ?_ ?_ ?_ ?_);rotate_left 3;exact rfl;exact rfl;exact rfl)
  |((with_reducible refine' Fv ?_ ?_ ?_);rotate_left 1;exact rfl;exact rfl)
  |((with_reducible refine' Ft ?_ ?_ ?_ ?_ ?_);rotate_left 2;exact rfl;(with_reducible exact rfl);exact rfl;exact rfl)
  |((with_reducible refine' Fu ?_ ?_ ?_ ?_ ?_);rotate_left 2;exact rfl;(with_reducible exact rfl);exact rfl;exact rfl)
  |((with_reducible refine' Bq ?_ ?_ ?_ ?_);rotate_left 1;exact rfl;(with_reducible exact rfl);exact rfl)
  |((with_reducible refine' Br ?_ ?_ ?_ ?_);rotate_left 1;exact rfl;(with_reducible exact rfl);exact rfl)
  |((with_reducible refine fZ ?_ ?_ ?_);exact rfl;exact rfl)
  |((with_reducible refine' Dn ?_ ?_ ?_);rotate_left 1;exact rfl;(with_reducible exact rfl))
  |((with_reducible refine' CY ?_ ?_ ?_);rotate_left 1;exact rfl;exact rfl)
  |((with_reducible refine' vA ?_ ?_ ?_);rotate_left 1;exact rfl;exact rfl)
  |((with_reducible refine' Ig ?_ ?_ ?_);rotate_left 1;exact rfl;exact rfl)
  |((with_reducible refine' vz ?_ ?_ ?_);rotate_left 1;exact rfl;exact rfl)
  |((with_reducible refine' rf ?_ ?_ ?_ ?_);rotate_left 2;exact rfl;exact rfl;exact rfl)
  |((with_reducible refine' Bo ?_ ?_ ?_ ?_);rotate_left 1;exact rfl;(with_reducible exact rfl);exact rfl)
  |((with_reducible refine' Bp ?_ ?_ ?_ ?_);rotate_left 1;exact rfl;(with_reducible exact rfl);exact rfl)
  |((with_reducible refine Bn ?_ ?_ ?_);exact rfl;exact rfl)
  |with_reducible refine Dh ?_
  |with_reducible refine Di ?_
  |((with_reducible refine' FD ?_ ?_ ?_);rotate_left 1;exact rfl;exact rfl)
  |((with_reducible refine' FF ?_ ?_ ?_ ?_);rotate_left 3;exact rfl;exact rfl;exact rfl)
  |((with_reducible refine' FG ?_ ?_ ?_ ?_);rotate_left 3;exact rfl;exact rfl;exact rfl)
  |((with_reducible refine' FH ?_ ?_ ?_ ?_);rotate_left 3;exact rfl;exact rfl;exact rfl)
  |((with_reducible refine' FJ ?_ ?_ ?_ ?_);rotate_left 3;exact rfl;exact rfl;exact rfl)
  |((with_reducible refine' FK ?_ ?_ ?_ ?_);rotate_left 3;exact rfl;exact rfl;exact rfl)
  |((with_reducible refine' FE ?_ ?_ ?_ ?_);rotate_left 3;exact rfl;exact rfl;exact rfl)
  |((with_reducible refine' Dj ?_ ?_ ?_);rotate_left 1;exact rfl;(with_reducible exact rfl))
 exact k.out):A:=a ⟨k⟩
theorem zh{A B:Prop}(k:B)(a:Hold B→A:=by
 intro k
 repeat first
  |((with_reducible refine' CX ?_ ?_ ?_);rotate_left 1;exact rfl;exact rfl)
  |((with_reducible refine' vy ?_ ?_ ?_);rotate_left 1;exact rfl;exact rfl)
  |((with_reducible refine' If ?_ ?_ ?_);rotate_left 1;exact rfl;exact rfl)
  |with_reducible refine WL.nil ?_
  |with_reducible refine Dl ?_
  |with_reducible refine Dm ?_
  |with_reducible refine aq ?_
  |with_reducible refine WC.seq ?_
  |with_reducible refine WC.region ?_
  |with_reducible refine WC.skip ?_
  |with_reducible refine WC.block ?_
  |with_reducible refine WC.exit ?_
  |with_reducible refine WC.ret ?_
  |with_reducible refine bP ?_
  |with_reducible refine dJ ?_
  |with_reducible refine bQ ?_
  |with_reducible refine dK ?_
  |with_reducible refine nQ ?_
  |((with_reducible refine lR ?_ ?_);exact rfl)
  |((with_reducible refine' vx ?_ ?_ ?_);rotate_left 1;exact rfl;exact rfl)
  |((with_reducible refine' qZ ?_ ?_ ?_ ?_);rotate_left 2;exact rfl;exact rfl;exact rfl)
  |((with_reducible refine' Fx ?_ ?_ ?_ ?_);rotate_left 3;exact rfl;exact rfl;exact rfl)
  |((with_reducible refine' Fy ?_ ?_ ?_ ?_);rotate_left 3;exact rfl;exact rfl;exact rfl)
  |((with_reducible refine' Fz ?_ ?_ ?_ ?_);rotate_left 3;exact rfl;exact rfl;exact rfl)
  |((with_reducible refine' FB ?_ ?_ ?_ ?_);rotate_left 3;exact rfl;exact rfl;exact rfl)
  |((with_reducible refine' FC ?_ ?_ ?_ ?_);rotate_left 3;exact rfl;exact rfl;exact rfl)
  |((with_reducible refine' Fw ?_ ?_ ?_ ?_);rotate_left 3;exact rfl;exact rfl;exact rfl)
  |((with_reducible refine' Fv ?_ ?_ ?_);rotate_left 1;exact rfl;exact rfl)
  |((with_reducible refine' Ft ?_ ?_ ?_ ?_ ?_);rotate_left 2;exact rfl;(with_reducible exact rfl);exact rfl;exact rfl)
  |((with_reducible refine' Fu ?_ ?_ ?_ ?_ ?_);rotate_left 2;exact rfl;(with_reducible exact rfl);exact rfl;exact rfl)
  |((with_reducible refine' Bq ?_ ?_ ?_ ?_);rotate_left 1;exact rfl;(with_reducible exact rfl);exact rfl)
  |((with_reducible refine' Br ?_ ?_ ?_ ?_);rotate_left 1;exact rfl;(with_reducible exact rfl);exact rfl)
  |((with_reducible refine fZ ?_ ?_ ?_);exact rfl;exact rfl)
  |((with_reducible refine' Dn ?_ ?_ ?_);rotate_left 1;exact rfl;(with_reducible exact rfl))
  |((with_reducible refine' CY ?_ ?_ ?_);rotate_left 1;exact rfl;exact rfl)
  |((with_reducible refine' vA ?_ ?_ ?_);rotate_left 1;exact rfl;exact rfl)
  |((with_reducible refine' Ig ?_ ?_ ?_);rotate_left 1;exact rfl;exact rfl)
  |((with_reducible refine' vz ?_ ?_ ?_);rotate_left 1;exact rfl;exact rfl)
  |((with_reducible refine' rf ?_ ?_ ?_ ?_);rotate_left 2;exact rfl;exact rfl;exact rfl)
  |((with_reducible refine' Bo ?_ ?_ ?_ ?_);rotate_left 1;exact rfl;(with_reducible exact rfl);exact rfl)
  |((with_reducible refine' Bp ?_ ?_ ?_ ?_);rotate_left 1;exact rfl;(with_reducible exact rfl);exact rfl)
  |((with_reducible refine Bn ?_ ?_ ?_);exact rfl;exact rfl)
  |with_reducible refine Dh ?_
  |with_reducible refine Di ?_
  |((with_reducible refine' FD ?_ ?_ ?_);rotate_left 1;exact rfl;exact rfl)
  |((with_reducible refine' FF ?_ ?_ ?_ ?_);rotate_left 3;exact rfl;exact rfl;exact rfl)
  |((with_reducible refine' FG ?_ ?_ ?_ ?_);rotate_left 3;exact rfl;exact rfl;exact rfl)
  |((with_reducible refine' FH ?_ ?_ ?_ ?_);rotate_left 3;exact rfl;exact rfl;exact rfl)
  |((with_reducible refine' FJ ?_ ?_ ?_ ?_);rotate_left 3;exact rfl;exact rfl;exact rfl)
  |((with_reducible refine' FK ?_ ?_ ?_ ?_);rotate_left 3;exact rfl;exact rfl;exact rfl)
  |((with_reducible refine' FE ?_ ?_ ?_ ?_);rotate_left 3;exact rfl;exact rfl;exact rfl)
  |((with_reducible refine' Dj ?_ ?_ ?_);rotate_left 1;exact rfl;(with_reducible exact rfl))
  |((with_reducible refine' Ir ?_ ?_ ?_ ?_);rotate_left 2;exact rfl;(with_reducible assumption);exact rfl)
  |((with_reducible refine' Gz ?_ ?_ ?_ ?_ ?_);rotate_left 2;exact rfl;exact rfl;omega;exact rfl)
  |((with_reducible refine' Iq ?_ ?_ ?_ ?_);rotate_left 4;exact rfl;(with_reducible assumption);exact rfl)
  |((with_reducible refine' Is ?_ ?_ ?_ ?_ ?_ ?_ ?_);rotate_left 7;exact rfl;exact rfl;(with_reducible assumption);exact rfl;omega;exact rfl)
  |((with_reducible refine' Gy ?_ ?_ ?_ ?_ ?_);rotate_left 2;exact rfl;exact rfl;omega;exact rfl)
  |((with_reducible refine' Iu ?_ ?_ ?_ ?_);rotate_left 2;exact rfl;(with_reducible assumption);exact rfl)
  |((with_reducible refine' GC ?_ ?_ ?_ ?_ ?_);rotate_left 2;exact rfl;exact rfl;omega;exact rfl)
  |((with_reducible refine' GA ?_ ?_ ?_ ?_ ?_);rotate_left 2;exact rfl;exact rfl;omega;exact rfl)
  |((with_reducible refine' GB ?_ ?_ ?_ ?_);rotate_left 2;exact rfl;(with_reducible assumption);exact rfl)
  |((with_reducible refine' It ?_ ?_ ?_ ?_);rotate_left 4;exact rfl;(with_reducible assumption);exact rfl)
  |((with_reducible refine' Iv ?_ ?_ ?_ ?_ ?_ ?_ ?_);rotate_left 7;exact rfl;exact rfl;(with_reducible assumption);exact rfl;omega;exact rfl)
 exact k.out):A:=a ⟨k⟩
section
variable{P:I6}{N:Nat}{ops:Array IL}{Q:J1→Ji→ln→Prop}{K:Ji→Prop}{rest:List IL}{st:St}{w:ln}
variable{t:I0}{p:String}{e:Array Jv}{d:Nat}{v:ix}{op:Op}{B:Prop}
theorem zvG(hv:RV P N op t st w v)(k:B)(hd:I1 d N=true:=by exact rfl)(a:Hold B→WL P N ops Q rest ((d,v)::st) w:=by intro k;exact zg k.out):WL P N ops Q (⟨some d,op,t,p,e,none⟩::rest) st w:=lL hv hd (a ⟨k⟩)
theorem zwG(hv:RV P N op t st w v)(k:B)(hd:I1 d N=true:=by exact rfl)(a:Hold B→WS P N ops w K rest ((d,v)::st):=by intro k;exact zg k.out):WS P N ops w K (⟨some d,op,t,p,e,none⟩::rest) st:=oF hv hd (a ⟨k⟩)
theorem zTG{c:I3}{x y:Jw}{b:Bool}(hc:ev st c=some (.bool b))(hb:b=true)(k:B)(a:Hold B→WC P N x Q st w:=by intro k;exact zg k.out):WC P N (.cond c x y) Q st w:=aS hc hb (a ⟨k⟩)
theorem zFG{c:I3}{x y:Jw}{b:Bool}(hc:ev st c=some (.bool b))(hb:b=false)(k:B)(a:Hold B→WC P N y Q st w:=by intro k;exact zg k.out):WC P N (.cond c x y) Q st w:=aT hc hb (a ⟨k⟩)
theorem zvH(hv:RV P N op t st w v)(k:B)(hd:I1 d N=true:=by exact rfl)(a:Hold B→WL P N ops Q rest ((d,v)::st) w:=by intro k;exact zh k.out):WL P N ops Q (⟨some d,op,t,p,e,none⟩::rest) st w:=lL hv hd (a ⟨k⟩)
theorem zwH(hv:RV P N op t st w v)(k:B)(hd:I1 d N=true:=by exact rfl)(a:Hold B→WS P N ops w K rest ((d,v)::st):=by intro k;exact zh k.out):WS P N ops w K (⟨some d,op,t,p,e,none⟩::rest) st:=oF hv hd (a ⟨k⟩)
theorem zTH{c:I3}{x y:Jw}{b:Bool}(hc:ev st c=some (.bool b))(hb:b=true)(k:B)(a:Hold B→WC P N x Q st w:=by intro k;exact zh k.out):WC P N (.cond c x y) Q st w:=aS hc hb (a ⟨k⟩)
theorem zFH{c:I3}{x y:Jw}{b:Bool}(hc:ev st c=some (.bool b))(hb:b=false)(k:B)(a:Hold B→WC P N y Q st w:=by intro k;exact zh k.out):WC P N (.cond c x y) Q st w:=aT hc hb (a ⟨k⟩)
end
end Go.VL
end
section
namespace Go.VL
open Go.Proofs.Tryz
open Go.Proofs Go.Proofs.YteolbhblkgjbhaaGreatDoor
open Go.Proofs.Tryz
instance :FA I8 26 0 0:=fI K2 rfl rfl IZ
instance :FA I8 26 1 1:=fI K2 rfl rfl Jn
instance :FA I8 26 2 2:=fI K2 rfl rfl Jn
instance :FA I8 26 3 3:=fI K2 rfl rfl Jn
instance :FA I8 26 4 4:=fI K2 rfl rfl Jn
instance :FA I8 29 0 0:=fI Mc rfl rfl sizeOf26
instance :FA I8 29 1 5:=fI Mc rfl rfl LY
instance :FA I8 31 0 0:=fI JA rfl rfl KE
instance :FA I8 31 1 1:=fI JA rfl rfl KE
instance :FA I8 31 2 2:=fI JA rfl rfl KE
instance :FA I8 31 3 3:=fI JA rfl rfl IZ
instance :FA I8 31 4 4:=fI JA rfl rfl Jn
instance :FA I8 31 5 5:=fI JA rfl rfl sizeOf29
instance :FA I8 31 6 11:=fI JA rfl rfl sizeOf29
instance :FA I8 56 0 0:=fI L4 rfl rfl Jn
instance :FA I8 56 1 1:=fI L4 rfl rfl Jn
instance :FA I8 56 2 2:=fI L4 rfl rfl sizeOf54
instance :FA I8 69 1 0:=fI underlying69 rfl rfl sizeOf67
instance :FA I8 71 0 0:=fI underlying71 rfl rfl sizeOf21
instance :FA I8 73 1 0:=fI underlying73 rfl rfl sizeOf71
instance :FA I8 75 1 0:=fI Mb rfl rfl sizeOf69
instance :FA I8 75 2 1:=fI Mb rfl rfl sizeOf73
instance :FA I8 77 0 0:=fI Ma rfl rfl sizeOf75
instance :FA I8 77 1 3:=fI Ma rfl rfl sizeOf31
instance :FA I8 80 0 0:=fI underlying80 rfl rfl sizeOf78
instance :FA I8 111 0 0:=fI JE rfl rfl L6
instance :FA I8 111 1 1:=fI JE rfl rfl IZ
instance :FA I8 111 2 2:=fI JE rfl rfl IZ
instance :FA I8 111 3 3:=fI JE rfl rfl IZ
instance :FA I8 111 4 4:=fI JE rfl rfl IZ
instance :FA I8 111 5 5:=fI JE rfl rfl sizeOf57
instance :FA I8 114 0 0:=fI JV rfl rfl sizeOf111
instance :FA I8 114 1 6:=fI JV rfl rfl sizeOf56
instance :FA I8 114 2 9:=fI JV rfl rfl sizeOf112
instance :FA I8 114 3 10:=fI JV rfl rfl JR
instance :FA I8 114 4 11:=fI JV rfl rfl JR
instance :FA I8 120 0 0:=fI KS rfl rfl IZ
instance :FA I8 120 1 1:=fI KS rfl rfl IZ
instance :FA I8 120 2 2:=fI KS rfl rfl sizeOf118
instance :FA I8 122 0 0:=fI KR rfl rfl KW
instance :FA I8 122 1 3:=fI KR rfl rfl KW
instance :FA I8 122 2 6:=fI KR rfl rfl JR
instance :FA I8 138 0 0:=fI M6 rfl rfl IZ
instance :FA I8 138 1 1:=fI M6 rfl rfl JR
instance :FA I8 140 0 0:=fI JD rfl rfl sizeOf31
instance :FA I8 140 1 17:=fI JD rfl rfl IZ
instance :FA I8 140 2 18:=fI JD rfl rfl sizeOf136
instance :FA I8 140 3 19:=fI JD rfl rfl JR
instance :FA I8 140 4 20:=fI JD rfl rfl sizeOf138
instance :FA I8 140 5 22:=fI JD rfl rfl JR
instance :FA I8 170 0 0:=fI M5 rfl rfl KV
instance :FA I8 170 1 1:=fI M5 rfl rfl LY
instance :FA I8 197 0 0:=fI M4 rfl rfl L6
instance :FA I8 197 1 1:=fI M4 rfl rfl KW
instance :FA I8 225 1 1:=fI M1 rfl rfl KV
instance :FA I8 225 2 2:=fI M1 rfl rfl LY
instance :FA I8 248 0 0:=fI M0 rfl rfl L6
instance :FA I8 248 1 1:=fI M0 rfl rfl IZ
instance :FA I8 250 0 0:=fI JU rfl rfl sizeOf248
instance :FA I8 250 1 2:=fI JU rfl rfl sizeOf112
instance :FA I8 250 2 3:=fI JU rfl rfl IZ
instance :FA I8 250 3 4:=fI JU rfl rfl IZ
instance :FA I8 250 4 5:=fI JU rfl rfl sizeOf57
instance :FA I8 278 0 0:=fI JT rfl rfl JR
instance :FA I8 278 1 1:=fI JT rfl rfl sizeOf275
instance :FA I8 278 2 2:=fI JT rfl rfl sizeOf276
instance :FA I8 278 3 3:=fI JT rfl rfl sizeOf273
instance :FA I8 278 4 4:=fI JT rfl rfl sizeOf274
instance :FA I8 280 0 0:=fI KQ rfl rfl Jn
instance :FA I8 280 1 1:=fI KQ rfl rfl Jn
instance :FA I8 280 2 2:=fI KQ rfl rfl IZ
instance :FA I8 283 0 0:=fI KP rfl rfl IZ
instance :FA I8 283 1 1:=fI KP rfl rfl IZ
instance :FA I8 283 2 2:=fI KP rfl rfl IZ
instance :FA I8 287 0 0:=fI KO rfl rfl sizeOf213
instance :FA I8 287 1 1:=fI KO rfl rfl sizeOf285
instance :FA I8 287 2 2:=fI KO rfl rfl KV
instance :FA I8 327 0 0:=fI JC rfl rfl sizeOf170
instance :FA I8 327 1 2:=fI JC rfl rfl sizeOf325
instance :FA I8 327 2 3:=fI JC rfl rfl Jn
instance :FA I8 327 3 4:=fI JC rfl rfl sizeOf273
instance :FA I8 327 4 5:=fI JC rfl rfl sizeOf324
instance :FA I8 327 5 6:=fI JC rfl rfl IZ
instance :SC I8 22 1:=⟨3,L5,IZ⟩
instance :SC I8 27 1:=⟨24,underlying27,KE⟩
instance :SC I8 39 1:=⟨4,underlying39,JR⟩
instance :SC I8 54 7:=⟨122,underlying54,sizeOf122⟩
instance :SC I8 107 1:=⟨9,underlying107,L6⟩
instance :SC I8 112 4:=⟨197,underlying112,sizeOf197⟩
instance :SC I8 118 3:=⟨120,underlying118,KW⟩
instance :SC I8 130 1:=⟨22,underlying130,Jn⟩
instance :SC I8 136 2:=⟨138,underlying136,sizeOf138⟩
instance :SC I8 218 2:=⟨170,underlying218,sizeOf170⟩
instance :SC I8 276 3:=⟨280,underlying276,sizeOf280⟩
instance :SC I8 325 1:=⟨130,underlying325,KV⟩
instance :AG I8 3 false:=⟨Mv⟩
instance :AG I8 4 false:=⟨Mu⟩
instance :AG I8 5 false:=⟨isAgg5⟩
instance :AG I8 9 false:=⟨isAgg9⟩
instance :AG I8 21 false:=⟨isAgg21⟩
instance :AG I8 22 false:=⟨Md⟩
instance :AG I8 24 false:=⟨isAgg24⟩
instance :AG I8 27 false:=⟨isAgg27⟩
instance :AG I8 36 false:=⟨isAgg36⟩
instance :AG I8 54 false:=⟨isAgg54⟩
instance :AG I8 57 false:=⟨isAgg57⟩
instance :AG I8 82 false:=⟨isAgg82⟩
instance :AG I8 112 false:=⟨isAgg112⟩
instance :AG I8 118 false:=⟨isAgg118⟩
instance :AG I8 130 false:=⟨isAgg130⟩
instance :AG I8 136 false:=⟨isAgg136⟩
instance :AG I8 213 false:=⟨isAgg213⟩
instance :AG I8 273 false:=⟨isAgg273⟩
instance :AG I8 274 false:=⟨isAgg274⟩
instance :AG I8 275 false:=⟨isAgg275⟩
instance :AG I8 276 false:=⟨isAgg276⟩
instance :AG I8 285 false:=⟨isAgg285⟩
instance :AG I8 323 false:=⟨isAgg323⟩
instance :AG I8 324 false:=⟨isAgg324⟩
instance :AG I8 325 false:=⟨isAgg325⟩
end Go.VL
end
namespace Go.VL
open Go.Proofs.Tryz
theorem max_lt(k:I9){a:Nat}(h:(a:Int)<=k.max):a<2^k.bits:=by
 cases k<;>simp only[KA,K8,JY]at h ⊢<;>simp at h ⊢<;>omega
theorem jM(n a:Nat)(h:a<2^n):(Lv n (a:Int)).toNat=a:=by
 rw[show Lv n (a:Int)=BitVec.ofNat n a from by simp,BitVec.toNat_ofNat,Nat.mod_eq_of_lt h]
theorem pO(k:I9){a:Nat}(h:(a:Int)<=k.max):k.wrap a=a:=by
 cases k<;>simp only[KA,K8,JY]at h<;>simp[MA,K8,JY]at h ⊢<;>(try split)<;>omega
def yZ(k:I9):Nat:=if k.signed then k.bits-1 else k.bits
theorem uu(k:I9)(a:Nat):(a:Int)<=k.max↔a<2^yZ k:=by
 cases k<;>simp[KA,K8,JY,yZ]<;>omega
section
variable{P:I6}{N:Nat}{ops:Array IL}{Q:J1→Ji→ln→Prop}{rest:List IL}{st:St}{w:ln}
variable{t xt yt:I0}{p:String}{e:Array Jv}{d:Nat}{x y z:I3}
variable{k:I9}{m n:Int}{a b:Nat}
theorem DD(ha:(a:Int)<=k.max)(hb:(b:Int)<=k.max):(binOp .and xt (.int k a) (.int k b)).run P w=.ok (.int k ((a &&& b:Nat):Int)) w:=by
 rw[binOp_and];have h:((a &&& b:Nat):Int)<=k.max:=by have:=@Nat.and_le_left a b;omega
 simp only[M9,BitVec.toNat_and,jM _ _ (max_lt k ha),jM _ _ (max_lt k hb),pO k h];rfl
theorem FQ(ha:(a:Int)<=k.max)(hb:(b:Int)<=k.max):(binOp .or xt (.int k a) (.int k b)).run P w=.ok (.int k ((a ||| b:Nat):Int)) w:=by
 rw[binOp_or];have h:((a ||| b:Nat):Int)<=k.max:=(uu k _).2 (Nat.or_lt_two_pow ((uu k a).1 ha) ((uu k b).1 hb));simp only[M9,BitVec.toNat_or,jM _ _ (max_lt k ha),jM _ _ (max_lt k hb),pO k h];rfl
theorem vt(hx:ev st x=some (.int k m))(hy:ev st y=some (.int k n))(hm:m=a)(hn:n=b)(ha:(a:Int)<=k.max)(hb:(b:Int)<=k.max):RV P N (.binOp .and xt x y yt) t st w (.int k ((a &&& b:Nat):Int)):=by
 subst hm;subst hn;exact fF hx hy (DD ha hb)
theorem tp(hx:ev st x=some (.int k m))(hy:ev st y=some (.int k n))(hm:m=a)(hn:n=b)(ha:(a:Int)<=k.max)(hb:(b:Int)<=k.max):RV P N (.binOp .or xt x y yt) t st w (.int k ((a ||| b:Nat):Int)):=by
 subst hm;subst hn;exact fF hx hy (FQ ha hb)
theorem gT{k':I9}(hx:ev st x=some (.int k m))(hy:ev st y=some (.int k' n))(hm:m=a)(hn:n=b)(hb:b<=k.bits):RV P N (.binOp .shr xt x y yt) t st w (.int k ((a / 2^b:Nat):Int)):=by
 subst hm;subst hn;refine fF hx hy ?_;rw[binOp_shr];have h1:¬(b:Int)<0:=zo;simp only[Mn,if_neg h1,IW,Ko hb];rw[Int.fdiv_eq_ediv_of_nonneg _ (by exact_mod_cast J6 _)];simp
theorem vp{k':I9}(hx:ev st x=some (.int k m))(hy:ev st y=some (.int k' n))(hm:m=a)(hn:n=b)(hb:b<=k.bits)(hr:((a*2^b:Nat):Int)<=k.max):RV P N (.binOp .shl xt x y yt) t st w (.int k ((a*2^b:Nat):Int)):=by
 subst hm;subst hn;refine fF hx hy ?_;rw[binOp_shl];have h1:¬(b:Int)<0:=zo;have h2:=pO k hr;simp only[Mn,if_neg h1,IW,Ko hb];have h3:(a:Int)*2^b=((a*2^b:Nat):Int):=by simp
 rw[h3,h2];rfl
theorem tK(l:List UInt8):strOfNums (l.map fun b=>(b.toNat:Int))=bs l:=by
 simp only[strOfNums,bs,List.map_map];congr 1;rw[show((fun n:Int=>UInt8.ofNat n.toNat)∘fun b:UInt8=>(b.toNat:Int))=id from by funext b;simp];simp
theorem xB{l:List UInt8}{v:ix}{E:I0}(hl:Sl (fun b:UInt8=>[Jq .u8 (b.toNat:Int)]) 1 w v l)(hs:P.underlying xt=some (.slice E))(he:P.underlying E=some (.int .u8))(a0:P.underlying yt=some .string)(hx:ev st x=some v):
  RV P N (.convert xt yt x) t st w (.string (bs l)):=
 fun a' ha a2 p e g=>by
  obtain⟨a,c,rfl,hc,_,a1⟩:=hl.shape;simp only[execOp,ha.ev hx,I4]
  by_cases h0:l.length=0
  ·obtain rfl:l=[]:=IF h0
   cases a with
   |none=>
    rw[run_convert_bytes_nil w xt E hs he _ _ yt a0];rfl
   |some q=>
    obtain⟨b,o,sp⟩:=q;have hq:=run_convert_bytes_string (P:=P) w xt yt E (some ⟨b,o,sp⟩) 0 c hs he a0;simp only[Lp]at hq ⊢;rw[hq,run_bytesToString w ⟨b,o,sp⟩ 0 c [] (by simp[loadCells,loadCellsFrom])];rfl
  obtain⟨b,o,rfl⟩:=a1 h0
  have:=run_convert_bytes_arg (P:=P) w xt E hs he b o l.length c (l.map fun b=>(b.toNat:Int)) (by simp) (fun i hi=>by
   have h1:=hl.cells i hi 0 _ rfl;rw[ax]at h1;simp only[adr,K4]at h1;rw[h1,IX,J8 (by simpa using hi)]
   simp) yt a0
  rw[this,tK];rfl
end
section
open Go.RowKit
abbrev Fr(ro:Option Nat):Fence:={ IU with round:=ro }
def eT(o:IL):Bool:=match o.op with | .defer _=>false|_=>true
theorem ya{o:IL}(h:eT o=true):∀c,o.op≠.defer c:=by
 intro c e;simp[eT,e]at h
def dn(ds:List Jg)(Q:J1->Ji->ln->Prop):J1->Ji->ln->Prop:=fun e a w=>Q e { a with defers:=a.defers++ds } w
theorem jj(a:Ji)(x:List Jg):({ a with defers:=x }:Ji).eval=a.eval:=by
 funext t;cases t<;>rfl
theorem IA{ro:Option Nat}{P:I6}{o:IL}{a:Ji}{w:ln}{next:Ji->ln->Prop}{Q Q1:J1->Ji->ln->Prop}{ds:List Jg} 
  (hn:ro=none\/eT o=true) (a1:∀a w,¬Q1 .outgrown a w) (hq:∀c a w,Q1 (.panic c) a w->Q (.panic c) { a with defers:=a.defers++ds } w)
  (h:o.wp P a w (fun a w=>next { a with defers:=a.defers++ds } w) Q1):o.wpIn (Fr ro) 0 P { a with defers:=a.defers++ds } w next Q:=by
 refine⟨fun _ _=>trivial,?_⟩;have hs:o.semAt (Fr ro).round ({ a with defers:=a.defers++ds }:Ji).eval=execOp a.eval o:=by
  rw[jj]
  rcases hn with rfl|hn
  ·rfl
  exact Oper.semAt_eq _ _ _ (ya hn)
 rw[hs];unfold Jo at h;generalize (execOp a.eval o).run P w=r at h ⊢
 cases r with
 |ok nx w'=>
  cases nx with
  |value v=>cases hd:o.dst<;>simpa[JN,KJ,JL,hd]using h
  |skip=>cases hd:o.dst<;>simpa[JN,KJ,JL,hd]using h
  |defer d=>cases hd:o.dst<;>simpa[JN,KJ,JL,hd]using h
  |enter f args=>
   refine⟨fun hh=>by simp[IU]at hh,?_⟩;refine MB (callsIn_wide.2 h:CallsIn IU _ P f args w' _) ?_
   intro e w'' q
   cases e with
   |returned v=>cases hd:o.dst<;>simpa[JL,hd]using q
   |panicked c=>exact hq _ _ _ q
   |outgrown=>obtain⟨a0,w0,q⟩:=q;exact absurd q (a1 _ _)
  |row row args=>
   refine⟨fun hh=>by simp[IU]at hh,fun c cs _=>?_⟩;obtain⟨v,w'',q,s⟩:=h c cs;refine⟨v,w'',?_,stepsIn_wide.2 s⟩
   cases hd:o.dst<;>simpa[JL,hd]using q
  |_=>exact h.elim
 |halt hl w'=>
  cases hl with
  |panic v=>exact hq _ _ _ h
  |_=>exact h.elim
theorem eL{ro:Option Nat}{P:I6}{ops:Array IL}{Q:J1->Ji->ln->Prop}{ds:List Jg}(l2:List IL)(a2:∀a w,¬Q .outgrown a w):
  ∀(l:List IL),(ro=none\/l.all eT=true)->∀a w,wpList P ops (dn ds (Exit.then (wpListIn (Fr ro) 0 P ops Q l2) Q)) l a w->wpListIn (Fr ro) 0 P ops Q (l++l2) { a with defers:=a.defers++ds } w
 |[],_,a,w,h=>h
 |o::rest,hn,a,w,h=>by
  have a4:ro=none\/eT o=true:=by rcases hn with h|h;exact .inl h;exact .inr (by simp at h;exact h.1)
  have a3:ro=none\/rest.all eT=true:=by rcases hn with h|h;exact .inl h;exact .inr (by simp at h ⊢;exact h.2)
  rw[Jm];unfold wpListIn;unfold wpList at h;have a1:∀a w,¬dn ds (Exit.then (wpListIn (Fr ro) 0 P ops Q l2) Q) .outgrown a w:=fun a w q=>a2 _ _ q
  split at h
  ·rename_i hw;rw[if_pos hw]
   rcases h with h|⟨_,a0,w0,h⟩
   ·refine IA (Q1:=dn ds (Exit.then (wpListIn (Fr ro) 0 P ops Q l2) Q)) a4 a1 (fun _ _ _ q=>q) ?_;have hm:∀a w,wpList P ops (dn ds (Exit.then (wpListIn (Fr ro) 0 P ops Q l2) Q)) rest a w->wpListIn (Fr ro) 0 P ops Q (rest++l2) { a with defers:=a.defers++ds } w:=eL l2 a2 rest a3;unfold Jo at h ⊢;generalize (execOp a.eval o).run P w=r at h ⊢
    cases r with
    |ok nx w'=>
     cases nx with
     |value v=>exact hm _ _ h
     |skip=>exact hm _ _ h
     |defer d=>exact hm _ _ h
     |enter f args=>
      refine IV h ?_;intro e w'' q
      cases e with
      |returned v=>exact hm _ _ q
      |_=>exact q
     |row row args=>exact Lc h fun v w'' q=>hm _ _ q
     |_=>exact h
    |halt hl w'=>cases hl<;>exact h
   exact absurd h (a1 _ _)
  rename_i hw;rw[if_neg hw];refine⟨fun _ _=>trivial,?_⟩;have:=eL l2 a2 rest a3 _ _ h
  cases hd:o.dst<;>simpa[JL,hd]using this
theorem then_self(Q:J1->Ji->ln->Prop):Exit.then (fun a w=>Q .normal a w) Q=Q:=by
 funext e a w;cases e<;>rfl
theorem mE{ro:Option Nat}{P:I6}{ops:Array IL}{Q:J1->Ji->ln->Prop}{ds:List Jg}(a0:∀a w,¬Q .outgrown a w) 
  (l:List IL) (hn:ro=none\/l.all eT=true) (a:Ji) (w:ln) (h:wpList P ops (dn ds Q) l a w):wpListIn (Fr ro) 0 P ops Q l { a with defers:=a.defers++ds } w:=by
 have:=eL (ro:=ro) (P:=P) (ops:=ops) (Q:=Q) (ds:=ds) [] a0 l hn a w (by
  rw[show Exit.then (wpListIn (Fr ro) 0 P ops Q []) Q=Q from then_self Q];exact h)
 rwa[Jp]at this
def WI(ro:Option Nat)(P:I6)(N:Nat)(ds:List Jg)(c:Jw)(Q:J1->Ji->ln->Prop)(st:St)(w:ln):Prop:=
 ∀a,Fits N a st->c.wpIn (Fr ro) 0 P Q { a with defers:=ds } w
def QI(N:Nat)(ds:List Jg)(Q:J1->Ji->ln->Prop)(e:J1)(st:St)(w:ln):Prop:=
 ∀a,Fits N a st->Q e { a with defers:=ds } w
section
variable{P:I6}{N:Nat}{ro:Option Nat}{ds:List Jg}{Q:J1→Ji→ln→Prop}{st:St}{w:ln}
theorem qQ{N:Nat}{a:Ji}{st:St}(h:Fits N a st)(ds:List Jg):({ a with defers:=a.defers++ds }:Ji) = { a with defers:=ds }:=by rw[h.defers];rfl
theorem QF.dn{e:J1}(h:QI N ds Q e st w):QF N (dn ds Q) e st w:=fun a ha=>by
 show Q e _ w;rw[qQ ha];exact h a ha
theorem WI.region{id:Nat}{l:List IL}(hn:ro=none\/l.all eT=true)(a0:∀a w,¬Q .outgrown a w)(h:WL P N l.toArray (dn ds Q) l st w):WI ro P N ds (.region id l.toArray false) Q st w:=fun a ha=>by
 rw[<-qQ ha];exact wpIn_region_lit (mE a0 l hn a w (h a ha))
theorem WI.seq{x y:Jw}(h:WI ro P N ds x (Exit.then (y.wpIn (Fr ro) 0 P Q) Q) st w):WI ro P N ds (.seq x y) Q st w:=fun a ha=>wpIn_seq (h a ha)
theorem WI.skip(h:QI N ds Q .normal st w):WI ro P N ds .skip Q st w:=fun a ha=>wpIn_skip (h a ha)
theorem WI.exit{id:Nat}(h:QI N ds Q (.exit id) st w):WI ro P N ds (.exit id) Q st w:=fun a ha=>wpIn_exit (h a ha)
theorem WI.ret(h:QI N ds Q .ret st w):WI ro P N ds .ret Q st w:=fun a ha=>wpIn_ret (h a ha)
theorem WI.block{id:Nat}{c:Jw}(h:WI ro P N ds c (Jd id Q) st w):WI ro P N ds (.block id c) Q st w:=fun a ha=>wpIn_block (h a ha)
theorem Fits.evD{a:Ji}(ha:Fits N a st){x:I3}{v:ix}(hx:VL.ev st x=some v)(ds:List Jg):({ a with defers:=ds }:Ji).eval x=v:=by rw[jj];exact ha.ev hx
theorem WI.cond{c:I3}{x y:Jw}{b:Bool}(hc:ev st c=some (.bool b))(ht:b=true->WI ro P N ds x Q st w)(hf:b=false->WI ro P N ds y Q st w):WI ro P N ds (.cond c x y) Q st w:=
 fun a ha=>wpIn_cond_split (ha.evD hc ds) (fun e=>ht e a ha) (fun e=>hf e a ha)
theorem mB{c:I3}{x y:Jw}{b:Bool}(hc:ev st c=some (.bool b))(hb:b=true)(ht:WI ro P N ds x Q st w):WI ro P N ds (.cond c x y) Q st w:=by
 subst hb;exact fun a ha=>wpIn_cond_true (ha.evD hc ds) (ht a ha)
theorem kA{c:I3}{x y:Jw}{b:Bool}(hc:ev st c=some (.bool b))(hb:b=false)(hf:WI ro P N ds y Q st w):WI ro P N ds (.cond c x y) Q st w:=by
 subst hb;exact fun a ha=>wpIn_cond_false (ha.evD hc ds) (hf a ha)
theorem aN{y:Jw}{Q':J1->Ji->ln->Prop}(h:WI ro P N ds y Q st w):QI N ds (Exit.then (y.wpIn (Fr ro) 0 P Q) Q') .normal st w:=h
theorem nO{K:Ji->ln->Prop}{id:Nat}(h:QI N ds Q (.exit id) st w):QI N ds (Exit.then K Q) (.exit id) st w:=h
theorem iD{K:Ji->ln->Prop}(h:QI N ds Q .ret st w):QI N ds (Exit.then K Q) .ret st w:=h
theorem cN{id:Nat}(h:QI N ds Q .normal st w):QI N ds (Jd id Q) .normal st w:=h
theorem ga{id:Nat}(h:QI N ds Q .ret st w):QI N ds (Jd id Q) .ret st w:=h
theorem vw{id:Nat}(h:QI N ds Q .normal st w):QI N ds (Jd id Q) (.exit id) st w:=fun a ha=>by
 show if id=id then _ else _
 rw[if_pos rfl];exact h a ha
theorem lO{ops:Array IL}{t:I0}{p:String}{e:Array Jv}{f:Ju}{args:List I3}{a2:Array I0}{vs:List ix}(a0:evs st args=some vs) 
  (h:QI N ({ target:=.fn (.func f) #[],args:=vs.toArray }::ds) Q .normal st w):WL P N ops (VL.dn ds Q) [⟨none,.defer ⟨.value (.func f),args.toArray,a2⟩,t,p,e,none⟩] st w:=by
 refine WL.step rfl fun a ha=>?_
 unfold Jo;have a1:(execOp a.eval ⟨none,.defer ⟨.value (.func f),args.toArray,a2⟩,t,p,e,none⟩).run P w=.ok (.defer { target:=.fn (.func f) #[],args:=vs.toArray }) w:=by
  simp only[execOp,resolve,Jb,I7];rw[ha.evs a0];simp[J9]
 rw[a1];show Q .normal { (JL _ none _)with defers:=_ } w;simp only[JL,ha.defers];exact h a ha
end
theorem wpIn_loop_ghost{F:Fence}{n:Nat}{P:I6}{Q:J1->Ji->ln->Prop}{a:Ji}{w:ln}{c:Jw}(I:Nat->Ji->ln->Prop)(n0:Nat)(h₀:I n0 a w) 
  (a1:∀j a w,I j a w->c.wpIn F n P (Exit.then (fun a' w'=>∃j',j'<j/\I j' a' w') Q) a w):(Code.loop c).wpIn F n P Q a w:=by
 intro b k cs a3 hb hr;have a2:∀j a w,I j a w->
   ∃e a' w',Q e a' w'/\ArrivesIn (Mx P F) P (lone (b.atR a (.code c :: .inLoop c::k)) cs w) b k cs e a' w':=by
  intro j
  induction j using Nat.strongRecOn with
  |_ j ih=>
   intro a w hI;obtain⟨e,a₁,w₁,hq,a0⟩:=a1 j a w hI b (.inLoop c::k) cs a3 hb hr
   cases e with
   |normal=>
    obtain⟨j',a4,hI₁⟩:=hq;obtain⟨e₂,a₂,w₂,hq₂,harr₂⟩:=ih j' a4 a₁ w₁ hI₁;exact⟨e₂,a₂,w₂,hq₂,.of_steps (Mw a0 (.one (fenced_calm hb hr rfl) stepR_inLoop)) harr₂⟩
   |exit id=>exact⟨_,a₁,w₁,hq,.pass (x:=.inLoop c) rfl (fun _ _=>.inl (by simp)) a0⟩
   |goto l=>exact⟨_,a₁,w₁,hq,.pass (x:=.inLoop c) rfl (fun _ _=>.inl (by simp)) a0⟩
   |ret=>exact⟨_,a₁,w₁,hq,.pass (x:=.inLoop c) rfl (fun _ _=>.inl (by simp)) a0⟩
   |panic ch=>exact⟨_,a₁,w₁,hq,.pass (x:=.inLoop c) rfl (fun _ _=>.inl (by simp)) a0⟩
   |outgrown=>exact⟨_,a₁,w₁,hq,.pass (x:=.inLoop c) rfl (fun _ _=>.inl (by simp)) a0⟩
 obtain⟨e,a',w',hq,a0⟩:=a2 _ a w h₀;exact⟨e,a',w',hq,.of_steps (.one (fenced_calm hb hr rfl) stepR_loop) a0⟩
section
variable{P:I6}{N:Nat}{ro:Option Nat}{ds:List Jg}{Q:J1→Ji→ln→Prop}{st:St}{w:ln}
theorem WI.loop{α:Type}{c:Jw}(f:α->St)(g:α->ln)(I:α->Prop)(μ:α->Nat)(x0:α)(h0:I x0)(hc:Cov st (f x0))(hw:g x0=w) 
  (a0:∀x,I x->WI ro P N ds c (Exit.then (fun a' w'=>∃y,I y/\μ y<μ x/\(∃a,a' = { a with defers:=ds }/\Fits N a (f y))/\g y=w') Q) (f x) (g x)):WI ro P N ds (.loop c) Q st w:=by
 intro a ha;refine wpIn_loop_ghost (fun n a' w=>∃y,I y/\μ y=n/\(∃a,a' = { a with defers:=ds }/\Fits N a (f y))/\g y=w) (μ x0) ⟨x0,h0,rfl,⟨a,rfl,ha.cov hc⟩,hw⟩ ?_;rintro n _ w ⟨x,hI,rfl,⟨a,rfl,hf⟩,rfl⟩;refine wpIn_mono (a0 x hI a hf) ?_;intro e a' w' hq
 cases e with
 |normal=>obtain⟨y,h1,h2,h3,h4⟩:=hq;exact⟨μ y,h2,y,h1,rfl,h3,h4⟩
 |_=>exact hq
theorem QI.next{α:Type}{f:α->St}{g:α->ln}{I:α->Prop}{m:Nat}{μ:α->Nat}(y:α)(h1:I y)(h2:μ y<m)(h3:Cov st (f y))(h4:g y=w):
 QI N ds (Exit.then (fun a' w'=>∃y,I y/\μ y<m/\(∃a,a' = { a with defers:=ds }/\Fits N a (f y))/\g y=w') Q) .normal st w:=fun a ha=>⟨y,h1,h2,⟨a,rfl,ha.cov h3⟩,h4⟩
end
def Fo(R:ix->ln->Prop):Ending->ln->Prop
 |.returned v,w=>R v w
 |_,_=>False
def Leave(P:I6)(N:Nat)(fn:LG)(R:ix->ln->Prop)(ds:List Jg)(st:St)(w:ln):Prop:=
 ∀a,Fits N a st->LeavesInM IU 0 P fn a.tmps (Fo R) ds .returning w
section
variable{P:I6}{N:Nat}{ds:List Jg}{st:St}{w:ln}{fn:LG}{R:ix→ln→Prop}
theorem lz{f:Ju}{c:Jw}{args:List ix}(hf:P.funcs[f]? = some fn)(hN:fn.ntmps=N)(hb:fn.body=some c)(a1:KG args.length N=true) 
  (h:WI none P N [] c (bodyPostM IU 0 P fn (Fo R)) (BZ 0 args) w):Ret P f args w R:=by
 have a0:=kZ (N:=N) (args:=args) a1 (st:=BZ 0 args) fun t v hv=>by simpa using(jA args 0 t v hv).2
 have hw:=h _ a0;have h2:=callsIn_of_wp_marks (F:=IU) (n:=0) (P:=P) (f:=f) (fn:=fn) (c:=c) (args:=args.toArray) (w:=w) (R:=Fo R) hf hb trivial (by rw[hN];have:Fr none=IU:=rfl;rw[this]at hw;simpa using hw);refine IV (callsIn_wide.1 h2) ?_;intro e w' q
 cases e<;>exact q
theorem kD(h:Leave P N fn R ds st w):QI N ds (bodyPostM IU 0 P fn (Fo R)) .ret st w:=fun a ha=>h a ha
theorem Fl(h:Leave P N fn R ds st w):QI N ds (bodyPostM IU 0 P fn (Fo R)) .normal st w:=fun a ha=>h a ha
theorem Leave.nil{v:ix}(hr:∀a:Ji,Fits N a st->(results fn a.tmps).run P w=.ok v w)(h:R v w):Leave P N fn R [] st w:=fun a ha=>⟨v,hr a ha,h⟩
theorem ju(hr:fn.results = #[])(h:R (.tuple #[]) w):Leave P N fn R [] st w:=Leave.nil (fun a ha=>by simp[results,hr]) h
theorem Leave.mark{D:Nat}(hD:w.heap[D]? = some (.deferred (some [])))(h:Leave P N fn R ds st (w.putObj D (.deferred none))):Leave P N fn R ({ target:=.collected D,args:=#[] }::ds) st w:=
 fun a ha=>⟨by simp,.inl ⟨D,_,rfl,run_takeDeferred hD,h a ha⟩⟩
theorem Leave.call{f:Ju}{vs:List ix}{R':ix->ln->Prop}(hf:∀(args:Array ix) (w:ln),(callFunc f args).run P w=.ok (.enter f args) w) 
  (hc:CallsDIn IU 0 P f vs.toArray .returning w fun | .returned v,u,w'=>u=.returning/\R' v w'|_,_,_=>False) (h:∀v w',R' v w'->Leave P N fn R ds st w') :
  Leave P N fn R ({ target:=.fn (.func f) #[],args:=vs.toArray }::ds) st w:=
 fun a ha=>⟨by simp,.inr ⟨fun hh=>by simp[IU]at hh,.func f,#[],f,vs.toArray,rfl,by simp[invoke,hf],fun _ _=>trivial,by
  refine Lb hc ?_;intro e u w' q
  cases e with
  |returned v=>obtain⟨rfl,q⟩:=q;exact h v w' q a ha
  |panicked c=>exact q.elim
  |outgrown=>exact q.elim⟩⟩
end
def WLI(ro:Option Nat)(P:I6)(N:Nat)(ds:List Jg)(ops:Array IL)(Q:J1->Ji->ln->Prop)(l:List IL)(st:St)(w:ln):Prop:=
 ∀a,Fits N a st->wpListIn (Fr ro) 0 P ops Q l { a with defers:=ds } w
section
variable{P:I6}{N:Nat}{ro:Option Nat}{ds:List Jg}{Q:J1→Ji→ln→Prop}{st:St}{w:ln}
theorem vh(i:Nat){id:Nat}{l:List IL}(hn:ro=none\/(l.take i).all eT=true)(a0:∀a w,¬Q .outgrown a w) 
  (h:WL P N l.toArray (VL.dn ds (Exit.then (wpListIn (Fr ro) 0 P l.toArray Q (l.drop i)) Q)) (l.take i) st w):WI ro P N ds (.region id l.toArray false) Q st w:=fun a ha=>by
 rw[<-qQ ha];refine wpIn_region_lit ?_;have:=eL (l.drop i) a0 (l.take i) hn a w (h a ha)
 rwa[Jj]at this
theorem Fk{ops:Array IL}{l:List IL}{Q':J1->Ji->ln->Prop}(h:WLI ro P N ds ops Q l st w):QI N ds (Exit.then (wpListIn (Fr ro) 0 P ops Q l) Q') .normal st w:=h
theorem Dk{ops:Array IL}{l:List IL}(hn:ro=none\/l.all eT=true)(a0:∀a w,¬Q .outgrown a w)(h:WL P N ops (VL.dn ds Q) l st w):WLI ro P N ds ops Q l st w:=fun a ha=>by
 rw[<-qQ ha];exact mE a0 l hn a w (h a ha)
end
def zU(O:Nat->Nat)(w:ln)(L:Nat)(I:(Nat->Nat)->ln->Prop)(Ix:Jw->(Nat->Nat)->ln->Prop):J1->Ji->ln->Prop
 |.normal,_,w'=>∃O',Upd (fun j=>j≠0/\j≠L) O w O' w'/\I O' w'
 |.ret,_,w'=>∃O',Upd (fun j=>j≠0/\j≠L) O w O' w'/\Ix .ret O' w'
 |.exit id,_,w'=>∃O',Upd (fun j=>j≠0/\j≠L) O w O' w'/\Ix (.exit id) O' w'
 |_,_,_=>False
theorem Upd.putObj{O:Nat->Nat}{w:ln}{L b:Nat}(hL:L≠0)(h:O b=L)(o:Obj):Upd (fun j=>j=L) O w O (w.putObj b o):=
 ⟨rfl,rfl,rfl,by simp,fun k _ hn=>World.putObj_heap_other (fun e=>hn (by rw[e];exact h)),fun _ _=>rfl,fun _ h=>.inl h,fun e=>hL e.symm⟩
theorem gU{N:Nat}{st:St}{O:Nat->Nat}{w w':ln}{L:Nat}{I:(Nat->Nat)->ln->Prop}{Ix:Jw->(Nat->Nat)->ln->Prop}(O':Nat->Nat)(h:Upd (fun j=>j≠0/\j≠L) O w O' w')(h2:I O' w'):
 QI N [] (zU O w L I Ix) .normal st w':=fun _ _=>⟨O',h,h2⟩
theorem vu{N:Nat}{st:St}{O:Nat->Nat}{w w':ln}{L:Nat}{I:(Nat->Nat)->ln->Prop}{Ix:Jw->(Nat->Nat)->ln->Prop}(O':Nat->Nat)(h:Upd (fun j=>j≠0/\j≠L) O w O' w')(h2:Ix .ret O' w'):
 QI N [] (zU O w L I Ix) .ret st w':=fun _ _=>⟨O',h,h2⟩
structure Fixed(O:Nat->Nat)(w:ln)(q:J2)(u:ix):Prop where
 cell:w.cell? q=some u
 free:O q.block=0
theorem Upd.zero{S:Nat->Prop}{O O':Nat->Nat}{w w':ln}(h:Upd S O w O' w'){b:Nat}(hb:b<w.heap.size)(h0:O b=0):O' b=0:=
 IG fun a0=>by
  rcases h.new b a0 with h1|h1
  ·exact h1 h0
  omega
theorem Fixed.upd{S:Nat->Prop}{O O':Nat->Nat}{w w':ln}{q:J2}{u:ix}(h:Fixed O w q u)(k:Upd S O w O' w'):Fixed O' w' q u:=by
 have a0:=JM w q h.cell;have hb:=k.blk q.block a0 (by rw[h.free];exact k.z);refine⟨?_,k.zero a0 h.free⟩;have:=h.cell;unfold LK at this ⊢;rw[hb];exact this
end
end Go.VL
section
namespace Go.VL
open Go.Proofs.Tryz
open Go.RowKit
section
variable{P:I6}{N:Nat}{ops:Array IL}{Q:J1→Ji→ln→Prop}{rest:List IL}{st:St}{w:ln}
variable{t:I0}{p:String}{e:Array Jv}{d:Nat}{x y z:I3}
theorem xC{xt yt:I0}{v u:ix}(h:(convert xt yt v).run P w=.ok u w)(hx:ev st x=some v):RV P N (.convert xt yt x) t st w u:=
 fun a ha a0 p e g=>by simp only[execOp,ha.ev hx,I4,h,I2];rfl
theorem WL.ext{f:Ju}{args:List I3}{a1:Array I0}{vs:List ix}{v:ix}{w':ln}(hr:(callFunc f vs.toArray).run P w=.ok (.value v) w')(a0:evs st args=some vs)(hd:I1 d N=true) 
  (h:WL P N ops Q rest ((d,v)::st) w'):WL P N ops Q (⟨some d,.call ⟨.value (.func f),args.toArray,a1⟩,t,p,e,none⟩::rest) st w:=
 WL.val hd (fun a ha=>by
  simp only[execOp,resolve,Jb,I7];rw[ha.evs a0]
  simp[J9,invoke,hr]) h
theorem RV.ext{f:Ju}{args:List I3}{a1:Array I0}{vs:List ix}{v:ix}(hr:(callFunc f vs.toArray).run P w=.ok (.value v) w)(a0:evs st args=some vs):
 RV P N (.call ⟨.value (.func f),args.toArray,a1⟩) t st w v:=fun a ha a2 p e g=>by
 simp only[execOp,resolve,Jb,I7];rw[ha.evs a0];simp[J9,invoke,hr]
end
section
variable{P:I6}{N:Nat}{ops:Array IL}{Q:J1→Ji→ln→Prop}{rest:List IL}{st:St}{w:ln}
variable{t:I0}{p:String}{e:Array Jv}{d:Nat}{x y z:I3}
theorem kC{T E:I0}{len sz:Nat}{k:I9}{i:Int}{q:J2}(hu:P.underlying T=some (.array len E))(hE:(J0 E).run P w=.ok sz w) 
  (hx:ev st x=some (.pointer (some q))) (hy:ev st y=some (.int k i)) (n:Nat) (hi:i=n) (hn:n<len):RV P N (.indexAddr T x y) t st w (.pointer (some (q.add (n*sz)))):=
 fun a ha a0 p e g=>by
  subst hi;have h2:((n:Int)<(len:Int)):=zo;simp only[execOp,ha.ev hx,ha.ev hy];simp[Kx,Ja,asIntOf,run_underlying hu,hE];intro h3;omega
theorem eY{T E:I0}{len:Nat}{k:I9}{i:Int}{q:J2}(hu:P.underlying T=some (.array len E))(hE:(J0 E).run P w=.ok 1 w) 
  (hx:ev st x=some (.pointer (some q))) (hy:ev st y=some (.int k i)) (n:Nat) (hi:i=n) (hn:n<len):RV P N (.indexAddr T x y) t st w (.pointer (some (q.add n))):=by
 have h:=kC (N:=N) (t:=t) hu hE hx hy n hi hn
 rwa[K4]at h
theorem bd{xt:I0}{a:List UInt8}{k:I9}{m:Int}{c:UInt8}(hT:P.underlying xt=some .string)(hx:ev st x=some (.string (bs a)))(hy:ev st y=some (.int k m))(i:Nat)(hm:m=i)(hi:a[i]? = some c):RV P N (.index xt x y) t st w (.int .u8 (c.toNat:Int)):=by
 obtain⟨h1,h2⟩:=IR.1 hi;have h:=BA (P:=P) (N:=N) (t:=t) (w:=w) hT hx hy i hm h1;rw[aC h1,h2]at h;exact h
theorem eG{T E:I0}{n sz:Nat}{parts:List (Nat×I3)}{vs:List (Nat×ix)}{z:ix}{cells:Array ix}(hu:P.underlying T=some (.array n E))(hE:(J0 E).run P w=.ok sz w)(hz:(JB T).run P w=.ok z w) 
  (hv:evp st parts=some vs) (hf:JG (fun i=>some (i*sz,sz)) z.cells vs=some cells):RV P N (.build T parts.toArray) t st w (.agg cells):=
 fun a ha a0 p e g=>by
  have h1:=ha.evp hv;have e1:(Kw (fun x:Nat×I3=>match x with|(i,x)=>(i,a.eval x)) parts)=vs:=by rw[<-h1]
  simp only[execOp,LN,I7,e1,I4,hz,I2,run_underlying hu,hE,hf,IP]
theorem vo{T E:I0}{n sz:Nat}{q:J2}(hu:P.underlying T=some (.array n E))(hE:(J0 E).run P w=.ok sz w)(_:n≠0)(hx:ev st x=some (.pointer (some q))):RV P N (.slice T x none none none) t st w (.slice (some q) n n):=
 fun a ha a0 p e g=>by
  simp only[execOp,ha.ev hx,Jc];simp[Instr.sliceAt,Instr.sliceBounds,Ja,run_underlying hu,hE,IY]
theorem Bs{f:Ju}{args:List I3}{a2:Array I0}{vs fs:List ix}{cs:Array ix}{R:ix->ln->Prop} 
  (hx:ev st x=some (.func (.func f) fs.toArray cs))
  (hf:∀(args:Array ix) (w:ln),(callFunc f args).run P w=.ok (.enter f args) w) (a0:evs st args=some vs) (hc:Ret P f (fs++vs++cs.toList) w R) (hd:I1 d N=true)
  (h:∀v w',R v w'->WL P N ops Q rest ((d,v)::st) w'):WL P N ops Q (⟨some d,.call ⟨.value x,args.toArray,a2⟩,t,p,e,none⟩::rest) st w:=by
 refine WL.step rfl fun a ha=>?_
 unfold Jo;have a1:(execOp a.eval ⟨some d,.call ⟨.value x,args.toArray,a2⟩,t,p,e,none⟩).run P w=.ok (.enter f (fs++vs++cs.toList).toArray) w:=by
  simp only[execOp,resolve,I7,ha.evs a0,ha.ev hx];simp[J9,Go.invoke,hf]
 rw[a1];exact IV hc fun e w' q=>by
  cases e with
  |returned v=>exact h v w' q _ (ha.put hd v)
  |panicked c=>exact q.elim
  |outgrown=>exact q.elim
end
section
variable{P:I6}{N:Nat}{st:St}{w:ln}{fn:LG}{R:ix→ln→Prop}
theorem cj{t u o:M7}{T:I0}{q:J2}{us:List ix}{v' v2:ix}(hr:fn.results = #[.cell t T,.tmp u,.tmp o])(hv:cf st t=some (.pointer (some q)))(a1:cf st u=some v')(a0:cf st o=some v2) 
  (hc:∀j u,us[j]? = some u->w.cell? (q.add j)=some u) (hT:(Lk T).run P w=.ok true w) (hn:(J0 T).run P w=.ok us.length w) (h:R (.tuple #[.agg us.toArray,v',v2]) w):QF N (RP P fn R) .ret st w:=fun a ha=>
 ⟨ha.defers,_,by have h1:=ha.get _ _ hv;have h2:=ha.get _ _ a1;have h3:=ha.get _ _ a0;simp[results,hr,I5,h1,h2,h3,asAddr,de hc hT hn],h⟩
end
def G9(P:I6)(f:Ju)(args:List ix)(w:ln)(R:ix->ln->Prop):Prop:=
 CallsDIn IU 0 P f args.toArray .returning w fun | .returned v,u,w'=>u=.returning/\R v w'|_,_,_=>False
theorem RetB.enter{P:I6}{N:Nat}{f:Ju}{fn:LG}{c:Jw}{args:List ix}{w:ln}{R:ix->ln->Prop} 
  (hf:P.funcs[f]? = some fn) (hN:fn.ntmps=N) (hb:fn.body=some c) (a0:KG args.length N=true)
  (h:WC P N c (RP P fn R) (BZ 0 args) w):Ret P f args w R/\G9 P f args w R:=by
 refine⟨Ret.enter hf hN hb a0 h,?_⟩;have a1:=kZ (N:=N) (args:=args) a0 (st:=BZ 0 args) fun t v hv=>by simpa using(jA args 0 t v hv).2
 have hw:=wpIn_wide (n:=0) |>.2 (h _ a1)
 have h2:=callsDIn_of_wp (F:=IU) (n:=0) (P:=P) (f:=f) (fn:=fn) (c:=c) (args:=args.toArray) (u:=.returning) (w:=w) (R:=Fo R) hf hb trivial (by
  rw[hN];refine wpIn_mono (by simpa using hw) ?_;intro e a w' q
  cases e<;>first|exact q|exact q.elim)
 refine Lb h2 ?_;rintro e u w' ⟨rfl,q⟩
 cases e<;>first|exact⟨rfl,q⟩|exact q.elim
end Go.VL
namespace Go.VL
open Go.Proofs.Tryz
section
variable{P:I6}{N:Nat}{ops:Array IL}{Q:J1→Ji→ln→Prop}{rest:List IL}{st:St}{w:ln}
variable{t:I0}{p:String}{e:Array Jv}{d:Nat}{x y z:I3}
theorem aV{T E:I0}{sz a0:Nat}(he:Elem P T E sz a0){α:Type}{enc:α->List ix}(u:α){xv:ix}(hx:ev st x=some xv)(a2:xv.cells.toList=enc u)(a4:(enc u).length=sz)(hs:sz<=16777216)(hd:I1 d N=true) 
  (h:∀w',Sl enc sz w' (.slice (some ⟨w.heap.size,0,none⟩) 1 1) [u]->Ext w w'->WL P N ops Q rest ((d,.slice (some ⟨w.heap.size,0,none⟩) 1 1)::st) w'):WL P N ops Q (⟨some d,.buildSlice T 1 #[(0,x)],t,p,e,none⟩::rest) st w:=by
 obtain⟨a3,z,hi,hz,a1,a8,a7⟩:=he.parts;have a6:xv.cells.size=sz:=by rw[<-a4,<-a2];simp
 have a5:=he.pos;refine WL.val (v:=.slice (some ⟨w.heap.size,0,none⟩) 1 1) (w':=w.alloc (.cells xv.cells E)) hd (fun a ha=>?_) (h _ ⟨⟨_,1,rfl,IQ _,by simp,fun _=>⟨_,_,rfl⟩⟩,fun i hi j c hc=>?_⟩ (Ext.alloc _ _))
 ·have:=run_buildSlice (P:=P) w T E 1 #[(0,xv)] xv.cells a3 z he.ht hi hz (by rw[a1];omega) (by rw[a1];omega) (by
   rw[a1]
   exact jZ a6 (by simp))
  simp only[execOp,I7,IM,J4,ha.ev hx,I4,this,I2];rfl
 obtain rfl:i=0:=by simpa using hi
 simp only[KB]at hc;simp only[adr,Kf,KH];rw[show((⟨w.heap.size,0,none⟩:J2).add j)=⟨w.heap.size,j,none⟩from by simp only[IY];split<;>simp_all,cell_of_row _ _ j xv.cells E (0,0) (heap_alloc_new w _)];rw[<-a2]at hc;simpa using hc
end
end Go.VL
end
section
namespace Go.VL
open Go.Proofs.Tryz
theorem Free.weak{O O':Nat->Nat}{w:ln}{v:ix}(h:Free O' w v)(k:∀b,O' b=0->O b=0):Free O w v:=fun a n c e hn=>⟨k _ (h a n c e hn).1,(h a n c e hn).2⟩
theorem Upd.z0{S:Nat->Prop}{O O':Nat->Nat}{w w':ln}(h:Upd S O w O' w')(b:Nat)(e:O' b=0):O b=0:=
 IG fun a0=>by have:=h.tag b a0;omega
theorem Rng.bound{B:Nat}{O:Nat->Nat}{w:ln}(r:Rng B O w):∃T,0<T/\∀b,O b<T:=by
 have h:∀n,∃T,0<T/\∀b,b<n->O b<T:=fun n=>by
  induction n with
  |zero=>exact⟨1,zo,fun b hb=>zo⟩
  |succ n ih=>
   obtain⟨T,h0,hT⟩:=ih;refine⟨T+O n+1,zo,fun b hb=>?_⟩
   by_cases e:b=n
   ·subst e;omega
   have:=hT b (zo);omega
 obtain⟨T,h0,hT⟩:=h w.heap.size;refine⟨T,h0,fun b=>?_⟩
 by_cases e:O b=0
 ·omega
 exact hT b (r.rng b e).2
theorem Upd.fgt{S S':Nat->Prop}{O O2:Nat->Nat}{w w':ln}(h:Upd S O w O2 w')(hS:∀b,S (O b)->S' (O b))(hz:¬S' 0):Upd S' O w O w':=
 ⟨h.os,h.tape,h.output,h.size,fun b hb hn=>h.blk b hb fun hs=>hn (hS b hs),fun _ _=>rfl,fun _ h=>.inl h,hz⟩
theorem BlkO.fgt{O O2:Nat->Nat}{w:ln}{i j b:Nat}{cs:Array ix}{E:I0}(h:BlkO O2 w j b cs E)(ho:O b=i):BlkO O w i b cs E:=⟨h.blk,ho⟩
theorem RowT.freeT{α:Type}{enc:α->List ix}{E:I0}{sz:Nat}{S:Nat->Prop}{O O':Nat->Nat}{w w':ln}{T:Nat}{v:ix}{l:List α}(h:RowT enc E sz O' w' T v l)(a1:0<T)(hT:∀b,O b<T){B:Nat}(r:Rng B O' w')(u:Upd S O w O' w'):Free O w' v:=fun a n c e _=>by
 have h1:=h.1.tag a.block (by subst e;rfl);have h2:=r.rng a.block (by rw[h1];omega);refine⟨IG fun a0=>?_,h2.2⟩;have:=u.tag _ a0;have:=hT a.block;omega
end Go.VL
namespace Go.Proofs.YteolbhblkgjbhaaGreatDoor
open Go.Proofs.Tryz
open Go.VL Go.Proofs
inductive Nd where|mk(k c:Int)(kids:List Nd)
instance:Inhabited Nd:=⟨.mk 0 0 []⟩
def Nd.kind:Nd->Int | .mk k _ _=>k
def Nd.cls:Nd->Int | .mk _ c _=>c
def Nd.kids:Nd->List Nd | .mk _ _ l=>l
mutual
def nsz:Nd->Nat | .mk _ _ l=>ez l+1
def ez:List Nd->Nat | []=>0|t::r=>nsz t+ez r
end
theorem ew(t:Nd):0<nsz t:=by cases t;simp[nsz]
theorem cG:∀(l:List Nd) (i:Nat),i<l.length->nsz (nth l i)<=ez l
 |t::r,0,_=>by rw[ao];simp[ez]
 |t::r,i+1,h=>by rw[aI];have:=cG r i (by simpa using h);simp only[ez];omega
theorem jb:∀(a b:List Nd),ez (a++b)=ez a+ez b
 |[],b=>by simp[ez]
 |t::a,b=>by simp only[Jm,ez];rw[jb a b];omega
theorem cJ(l:List Nd)(i:Nat):ez (l.take i)<=ez l:=by
 conv=>rhs;rw[<-Jj i l]
 rw[jb];omega
theorem ey(l:List Nd)(i:Nat)(h:i<l.length):ez (l.take (i+1))=ez (l.take i)+nsz (nth l i):=by
 rw[aM h,jb];simp[ez]
theorem ij:∀(l:List Nd),l.length<=ez l
 |[]=>by simp
 |t::r=>by have:=ij r;have:=ew t;simp only[ez,JO];omega
abbrev N3:=Int×Int×ix
@[simp] def bt(x:N3):List ix:=[nI x.1,nI x.2.1,x.2.2]
inductive Nt(O:Nat->Nat)(w:ln):Nd->N3->Prop
 |mk {k c:Int} {kids:List Nd} {v:ix} {xs:List N3}:Sl bt 3 w v xs->Free O w v->kids.length=xs.length->(∀i,i<xs.length->Nt O w (nth kids i) (nth xs i))->Nt O w (.mk k c kids) (k,c,v)
theorem Nt.upd{S:Nat->Prop}{O O':Nat->Nat}{w w':ln}{t:Nd}{x:N3}(h:Nt O w t x)(u:Upd S O w O' w'):Nt O' w' t x:=by
 induction h with
 |mk hs hf hl _ ih=>exact .mk (hs.upd hf u) (hf.upd u) hl ih
theorem Nt.drew{O:Nat->Nat}{w:ln}{t:Nd}{x:N3}(h:Nt O w t x):Nt O w.drew t x:=h.upd (aa (S:=fun _=>False) (fun h=>h) O (Ext.refl w).drew)
theorem Nt.ext{O:Nat->Nat}{w w':ln}{t:Nd}{x:N3}(h:Nt O w t x)(e:Ext w w'):Nt O w' t x:=h.upd (aa (S:=fun _=>False) (fun h=>h) O e)
theorem Nt.weak{O O':Nat->Nat}{w:ln}{t:Nd}{x:N3}(h:Nt O' w t x)(k:∀b,O' b=0->O b=0):Nt O w t x:=by
 induction h with
 |mk hs hf hl _ ih=>exact .mk hs (hf.weak k) hl ih
theorem Nt.low{S:Nat->Prop}{O O':Nat->Nat}{w w0 w':ln}{t:Nd}{x:N3}(h:Nt O' w' t x)(u:Upd S O w O' w0):Nt O w' t x:=h.weak u.z0
theorem Nt.zero{O:Nat->Nat}{w:ln}{t:Nd}{x:N3}(h:Nt O w t x):Nt (fun _=>0) w t x:=h.weak fun _ _=>rfl
theorem Nt.one{O:Nat->Nat}{w:ln}{t:Nd}{x:N3}(h:Nt O w t x):x.2.2.oneCell'=true:=by cases h with|mk hs=>exact hs.one
theorem Nt.leaf(O:Nat->Nat)(w:ln)(k c:Int):Nt O w (.mk k c []) (k,c,nS):=
 .mk (xs:=[]) ⟨⟨none,0,rfl,IQ _,zo,fun h=>absurd rfl h⟩,fun i hi=>absurd hi (by simp)⟩ (fun a n c e=>by cases e) rfl (fun i hi=>absurd hi (by simp))
theorem Nt.kind{O:Nat->Nat}{w:ln}{t:Nd}{x:N3}(h:Nt O w t x):x.1=t.kind:=by cases h;rfl
theorem Nt.kids{O:Nat->Nat}{w:ln}{t:Nd}{x:N3}(h:Nt O w t x):∃xs:List N3,Sl bt 3 w x.2.2 xs/\Free O w x.2.2/\t.kids.length=xs.length/\∀i,i<xs.length->Nt O w (nth t.kids i) (nth xs i):=by
 cases h with|mk hs hf hl hk=>exact⟨_,hs,hf,hl,hk⟩
def ai(b:UInt8):Bool:=(decide (65<=b.toNat)&&decide (b.toNat<=90))||(decide (97<=b.toNat)&&decide (b.toNat<=122))
def ar(r:List UInt8):List UInt8:=r.dropWhile (· == 32)
def namesL:List (List UInt8):=[[79,116,104,101,114],[67,82],[76,70],[78,101,119,108,105,110,101],[67,111,110,116,114,111,108],[69,120,116,101,110,100],[90,87,74],[70,111,114,109,97,116],[82,101,103,105,111,110,97,108],[80,114,101,112,101,110,100],[83,112,97,99,105,110,103],[76],[86],[84],[76,86],[76,86,84],[80,105,99,116],[85,112,112,101,114],[76,111,119,101,114],[76,101,116,116,101,114],[75,97,116,97,107,97,110,97],[73,100,101,111,103,114,97,112,104],[68,105,103,105,116],[77,105,100,76,101,116,116,101,114],[77,105,100,78,117,109],[68,111,116],[65,112,111,115,116,114,111,112,104,101],[81,117,111,116,101],[74,111,105,110,101,114],[83,112,97,99,101],[84,101,114,109],[79,112,101,110],[67,108,111,115,101],[72,121,112,104,101,110],[71,108,117,101],[71,97,112]]
def Af(s:List UInt8):Option Nat:=namesL.findIdx? (· == s)
inductive PR where
 |ok (t:Nd) (r:List UInt8)
 |bad (p:Nat) (e:Int)
def dB(kind:Int)(r0:List UInt8):PR:=
 if ai ((ar r0).headD 0)=true then
  match Af ((ar r0).takeWhile ai)with
  |none=>.bad (ar r0).length 5
  |some c=>.ok (.mk kind (c:Nat) []) ((ar r0).dropWhile ai)
 else .bad (ar r0).length 4
def FX(r:List UInt8):PR:=if r.takeWhile ai=[97,110,121]then .ok (.mk 1 0 []) (r.dropWhile ai)else dB 0 r
def bV(al:Option (List UInt8->PR))(r:List UInt8):PR:=
 match al with
 |none=>.bad r.length 6
 |some f=>
  match f r.tail with
  |.bad p e=>.bad p e
  |.ok t r2=>if(ar r2).headD 0=41 then .ok t (ar r2).tail else .bad (ar r2).length 4
def G6(al:Option (List UInt8->PR))(r0:List UInt8):PR:=
 if ai ((ar r0).headD 0)=true then FX (ar r0)
 else if(ar r0).headD 0=126 then dB 2 (ar r0).tail
 else if(ar r0).headD 0=94 then .ok (.mk 3 0 []) (ar r0).tail
 else if(ar r0).headD 0=40 then bV al (ar r0)
 else .bad (ar r0).length 4
def opM(c:UInt8):Option Nat:=if c=42 then some 0 else if c=43 then some 1 else if c=63 then some 2 else none
def C7(al:Option (List UInt8->PR))(r0:List UInt8):PR:=
 match G6 al r0 with
 |.bad p e=>.bad p e
 |.ok t r1=>
  match opM ((ar r1).headD 0)with
  |some k=>.ok (.mk (6+(k:Nat)) 0 [t]) (ar r1).tail
  |none=>.ok t (ar r1)
def eX(c:UInt8):Bool:=ai c||decide (c=126)||decide (c=94)||decide (c=40)
def oneM(k:Int)(l:List Nd):Nd:=if l.length=1 then nth l 0 else .mk k 0 l
def zK(al:Option (List UInt8->PR)):Nat->List Nd->List UInt8->PR
 |0,acc,r=>.ok (oneM 4 acc) r
 |n+1,acc,r=>
  if eX ((ar r).headD 0)=true then
   match C7 al (ar r)with
   |.bad p e=>.bad p e
   |.ok t r2=>zK al n (acc++[t]) r2
  else .ok (oneM 4 acc) (ar r)
def Ih(al:Option (List UInt8->PR))(r:List UInt8):PR:=
 match C7 al r with
 |.bad p e=>.bad p e
 |.ok t r1=>zK al (r1.length+1) [t] r1
def xw(al:Option (List UInt8->PR)):Nat->List Nd->List UInt8->PR
 |0,acc,r=>.ok (oneM 5 acc) r
 |n+1,acc,r=>
  if(ar r).headD 0=124 then
   match Ih al (ar r).tail with
   |.bad p e=>.bad p e
   |.ok t r2=>xw al n (acc++[t]) r2
  else .ok (oneM 5 acc) (ar r)
def Gb(al:Option (List UInt8->PR))(r:List UInt8):PR:=
 match Ih al r with
 |.bad p e=>.bad p e
 |.ok t r1=>xw al (r1.length+1) [t] r1
def Ga:Nat->List UInt8->PR
 |0=>Gb none
 |d+1=>Gb (some (Ga d))
inductive XR where
 |ok (t:Nd)
 |bad (p:Nat) (e:Int)
def GV(l:List UInt8):XR:=
 if 4096<l.length then .bad 0 3 else
 match Ga 20 l with
 |.bad p e=>.bad (l.length-p) e
 |.ok t r=>if(ar r).length≠0 then .bad (l.length-(ar r).length) 4 else if 2000<nsz t then .bad 0 3 else .ok t
def Good(r:List UInt8):PR->Prop
 |.ok _ r'=>r' <:+ r/\r'.length<r.length
 |.bad p e=>p<=r.length/\e≠0
theorem aY(r:List UInt8):ar r <:+ r:=K0 _
theorem da(r:List UInt8):(ar r).length<=r.length:=(aY r).length_le
theorem bT{r:List UInt8}(h:r.headD 0≠0):r.tail <:+ r/\r.tail.length+1=r.length:=by
 cases r with
 |nil=>simp at h
 |cons a r=>exact⟨Le a r,rfl⟩
theorem Good.mono{r r':List UInt8}{x:PR}(h:Good r' x)(k:r' <:+ r):Good r x:=by
 have hl:=k.length_le
 cases x with
 |ok t q=>exact⟨h.1.trans k,by have:=h.2;omega⟩
 |bad p e=>exact⟨Je h.1 hl,h.2⟩
theorem je{r:List UInt8}(h:ai (r.headD 0)=true):r.dropWhile ai <:+ r/\(r.dropWhile ai).length<r.length:=by
 cases r with
 |nil=>simp[ai]at h
 |cons a r=>
  simp only[List.headD_cons]at h;rw[List.dropWhile_cons_of_pos h];exact⟨(K0 _).trans (Le a r),by have:=(K0 (l:=r) ai).length_le;simp;omega⟩
theorem nz(k:Int)(r:List UInt8):Good r (dB k r):=by
 refine Good.mono ?_ (aY r);unfold dB
 split
 ·rename_i h
  split
  ·exact⟨IQ _,zd⟩
  exact je h
 exact⟨IQ _,zd⟩
def mj(al:Option (List UInt8->PR)):Prop:=∀f,al=some f->∀r,Good r (f r)
theorem oC{al:Option (List UInt8->PR)}(ha:mj al)(r:List UInt8)(h:r.headD 0≠0):Good r (bV al r):=by
 obtain⟨h1,h2⟩:=bT h;unfold bV
 cases al with
 |none=>exact⟨IQ _,zd⟩
 |some f=>
  have h3:=(ha f rfl r.tail).mono h1;have h4:=ha f rfl r.tail;dsimp only
  cases hf:f r.tail with
  |bad p e=>rw[hf]at h3;exact h3
  |ok t r2=>
   rw[hf]at h3 h4;dsimp only
   split
   ·rename_i hc;obtain⟨g1,g2⟩:=bT (r:=ar r2) (by rw[hc];decide);exact⟨(g1.trans (aY r2)).trans h3.1,by have:=da r2;have:=h3.2;omega⟩
   exact⟨by have:=da r2;have:=h3.2;omega,zd⟩
theorem C5{c:UInt8}{k:Nat}(h:opM c=some k):c≠0:=fun e=>by subst e;simp[opM]at h
def Gp(r:List UInt8):PR->Prop
 |.ok _ r'=>r' <:+ r
 |.bad p e=>p<=r.length/\e≠0
end Go.Proofs.YteolbhblkgjbhaaGreatDoor
end
namespace Go.Proofs.YteolbhblkgjbhaaGreatDoor
open Go.Proofs.Tryz
section
open Go.VL Go.Proofs
set_option maxRecDepth 10000
abbrev Lf:=Int×Int×Nat
abbrev Kt:=List Nat×List Nat×Nat
structure Gr where
 ls:List Lf
 ks:List Kt
def Gr.fr(g:Gr)(k:Nat):List Nat:=(nth g.ks k).1
def Gr.lv(g:Gr)(k:Nat):List Nat:=(nth g.ks k).2.1
def Gr.en(g:Gr)(k:Nat):Nat:=(nth g.ks k).2.2
def Gr.knot(g:Gr):Gr:=⟨g.ls,g.ks++[([],[],0)]⟩
def Gr.free(g:Gr)(a b:Nat):Gr:=⟨g.ls,g.ks.set a (g.fr a++[b],g.lv a,g.en a)⟩
def Gr.leaf(g:Gr)(k c:Int)(a b:Nat):Gr:=⟨g.ls++[(k,c,b)],g.ks.set a (g.fr a,g.lv a++[g.ls.length+1],g.en a)⟩
def bY(k c m:Int):Bool:=
 if k=0 then(decide (0<=m)&&decide (m<36))&&(m==c)else if k=1 then decide (0<=m)&&decide (m<36)else if k=2 then(decide (0<=m)&&decide (m<36))&&(m != c)else m==36
def layO(k:Int)(g:Gr)(i:Nat):Gr:=if k=8 then(if k=7 then g else g.free i (i+1))else(if k=7 then g else g.free i (i+1)).free (i+1) i
mutual
def eU:Nd->Nat->Nat->Gr->Gr
 |.mk k c l,a,b,g=>
  if k=4 then mw l a b g
  else if k=5 then mz l a b g
  else if k=6\/k=7\/k=8 then layO k (my l g.ks.length (g.ks.length+1) ((g.knot.knot.free a g.ks.length).free (g.ks.length+1) b)) g.ks.length
  else if k=9 then g.free a b
  else g.leaf k c a b
def mw:List Nd->Nat->Nat->Gr->Gr
 |[],_,_,g=>g
 |t::r,a,b,g=>if r.isEmpty then eU t a b g else mw r g.ks.length b (eU t a g.ks.length g.knot)
def mz:List Nd->Nat->Nat->Gr->Gr
 |[],_,_,g=>g
 |t::r,a,b,g=>mz r a b (eU t a b g)
def my:List Nd->Nat->Nat->Gr->Gr
 |[],_,_,g=>g
 |t::_,a,b,g=>eU t a b g
end
inductive StarP(L:List Int->Prop):List Int->Prop
 |nil:StarP L []
 |cons {u v:List Int}:L u->StarP L v->StarP L (u++v)
mutual
/-- Which words an expression matches. -/
def Lg:Nd->List Int->Prop
 |.mk k c l=>fun w=>
  if k=4 then LgS l w
  else if k=5 then LgA l w
  else if k=6 then StarP (LgH l) w
  else if k=7 then∃u v,w=u++v/\LgH l u/\StarP (LgH l) v
  else if k=8 then w=[]\/LgH l w
  else if k=9 then w=[]
  else∃m,w=[m]/\bY k c m=true
def LgS:List Nd->List Int->Prop
 |[]=>fun w=>w=[]
 |t::r=>fun w=>∃u v,w=u++v/\Lg t u/\LgS r v
def LgA:List Nd->List Int->Prop
 |[]=>fun _=>False
 |t::r=>fun w=>Lg t w\/LgA r w
def LgH:List Nd->List Int->Prop
 |[]=>fun _=>False
 |t::_=>Lg t
end
mutual
/-- Expressions whose parts are as many as they must. -/
def fe:Nd->Bool
 |.mk k _ l=>(if k=4 then !l.isEmpty else if k=6\/k=7\/k=8 then decide (l.length=1)else true)&&bI l
def bI:List Nd->Bool
 |[]=>true
 |t::r=>fe t&&bI r
end
inductive Pt(g:Gr):Nat->List Int->Nat->Prop
 |nil (k:Nat):Pt g k [] k
 |eps {k k' q:Nat} {w:List Int}:k<g.ks.length->k'∈g.fr k->Pt g k' w q->Pt g k w q
 |leaf {k j q:Nat} {m:Int} {w:List Int}:k<g.ks.length->j<g.ls.length->j+1∈g.lv k->bY (nth g.ls j).1 (nth g.ls j).2.1 m=true->Pt g (nth g.ls j).2.2 w q->Pt g k (m::w) q
theorem Pt.trans{g:Gr}{a b c:Nat}{u v:List Int}(h:Pt g a u b)(k:Pt g b v c):Pt g a (u++v) c:=by
 induction h with
 |nil=>exact k
 |eps h1 h2 _ ih=>exact .eps h1 h2 (ih k)
 |leaf h1 h2 h3 h4 _ ih=>exact .leaf h1 h2 h3 h4 (ih k)
structure Sub(g g':Gr):Prop where
 len:g.ks.length<=g'.ks.length
 ls:∃r,g'.ls=g.ls++r
 fr:∀k j,k<g.ks.length->j∈g.fr k->j∈g'.fr k
 lv:∀k j,k<g.ks.length->j∈g.lv k->j∈g'.lv k
theorem Sub.refl(g:Gr):Sub g g:=⟨IQ _,⟨[],by simp⟩,fun _ _ _ h=>h,fun _ _ _ h=>h⟩
theorem Sub.trans{a b c:Gr}(h:Sub a b)(k:Sub b c):Sub a c:=by
 obtain⟨r,hr⟩:=h.ls;obtain⟨s,hs⟩:=k.ls;exact⟨Je h.len k.len,⟨r++s,by rw[hs,hr,J5]⟩,fun q j hq hj=>k.fr q j (IN hq h.len) (h.fr q j hq hj),fun q j hq hj=>k.lv q j (IN hq h.len) (h.lv q j hq hj)⟩
theorem Sub.nthL{g g':Gr}(h:Sub g g'){j:Nat}(hj:j<g.ls.length):j<g'.ls.length/\nth g'.ls j=nth g.ls j:=by
 obtain⟨r,hr⟩:=h.ls;rw[hr,aA,if_pos hj];exact⟨by simp;omega,rfl⟩
theorem Pt.mono{g g':Gr}(h:Sub g g'){a b:Nat}{u:List Int}(p:Pt g a u b):Pt g' a u b:=by
 induction p with
 |nil=>exact .nil _
 |eps h1 h2 _ ih=>exact .eps (IN h1 h.len) (h.fr _ _ h1 h2) ih
 |leaf h1 h2 h3 h4 _ ih=>
  obtain⟨e1,e2⟩:=h.nthL h2;exact .leaf (IN h1 h.len) e1 (h.lv _ _ h1 h3) (by rw[e2];exact h4) (by rw[e2];exact ih)
theorem aE(g:Gr):g.knot.ks.length=g.ks.length+1:=by simp[Gr.knot]
theorem aO(g:Gr)(a b:Nat):(g.free a b).ks.length=g.ks.length:=by simp[Gr.free]
theorem fT(g:Gr)(k c:Int)(a b:Nat):(g.leaf k c a b).ks.length=g.ks.length:=by simp[Gr.leaf]
theorem qv(g:Gr)(k:Nat):nth g.knot.ks k=if k<g.ks.length then nth g.ks k else([],[],0):=by
 unfold Gr.knot;rw[aA]
 split
 ·rfl
 by_cases h:k-g.ks.length=0
 ·rw[h,ao]
 rw[eu (by simp;omega)];rfl
theorem np(g:Gr)(k:Nat):g.knot.fr k=if k<g.ks.length then g.fr k else []:=by unfold Gr.fr;rw[qv];split<;>rfl
theorem nn(g:Gr)(k:Nat):g.knot.lv k=if k<g.ks.length then g.lv k else []:=by unfold Gr.lv;rw[qv];split<;>rfl
theorem dq{g:Gr}{a b:Nat}(ha:a<g.ks.length)(k:Nat):(g.free a b).fr k=if k=a then g.fr a++[b]else g.fr k:=by
 unfold Gr.free Gr.fr;rw[aW ha];split<;>rfl
theorem ns{g:Gr}{a b:Nat}(ha:a<g.ks.length)(k:Nat):(g.free a b).lv k=g.lv k:=by
 unfold Gr.free Gr.lv;rw[aW ha];split
 ·rename_i h;rw[h]
 rfl
theorem mZ{g:Gr}{x c:Int}{a b:Nat}(ha:a<g.ks.length)(k:Nat):(g.leaf x c a b).fr k=g.fr k:=by
 unfold Gr.leaf Gr.fr;rw[aW ha];split
 ·rename_i h;rw[h]
 rfl
theorem kV{g:Gr}{x c:Int}{a b:Nat}(ha:a<g.ks.length)(k:Nat):(g.leaf x c a b).lv k=if k=a then g.lv a++[g.ls.length+1]else g.lv k:=by
 unfold Gr.leaf Gr.lv;rw[aW ha];split<;>rfl
theorem jf(g:Gr)(x c:Int)(a b:Nat):(g.leaf x c a b).ls=g.ls++[(x,c,b)]:=rfl
theorem jT(g:Gr):Sub g g.knot:=⟨by rw[aE];omega,⟨[],by simp[Gr.knot]⟩,fun k j hk h=>by rw[np,if_pos hk];exact h,fun k j hk h=>by rw[nn,if_pos hk];exact h⟩
theorem eQ{g:Gr}{a b:Nat}(ha:a<g.ks.length):Sub g (g.free a b):=⟨by rw[aO];omega,⟨[],by simp[Gr.free]⟩,fun k j _ h=>by
 rw[dq ha];split
 ·rename_i e;subst e;exact KK _ h
 exact h,fun k j _ h=>by rw[ns ha];exact h⟩
theorem Cv{g:Gr}{x c:Int}{a b:Nat}(ha:a<g.ks.length):Sub g (g.leaf x c a b):=⟨by rw[fT];omega,⟨_,rfl⟩,fun k j _ h=>by rw[mZ ha];exact h,fun k j _ h=>by
 rw[kV ha];split
 ·rename_i e;subst e;exact KK _ h
 exact h⟩
structure WF(g:Gr):Prop where
 fr:∀k j,k<g.ks.length->j∈g.fr k->j<g.ks.length
 lv:∀k j,k<g.ks.length->j∈g.lv k->1<=j/\j<=g.ls.length
 ls:∀j,j<g.ls.length->(nth g.ls j).2.2<g.ks.length
theorem WF.knot{g:Gr}(h:WF g):WF g.knot:=by
 have hl:=aE g;refine⟨fun k j hk hj=>?_,fun k j hk hj=>?_,fun j hj=>?_⟩
 ·rw[np]at hj
  split at hj
  ·rename_i e;have:=h.fr k j e hj;omega
  simp at hj
 ·rw[nn]at hj
  split at hj
  ·rename_i e;exact h.lv k j e hj
  simp at hj
 have:=h.ls j hj;show(nth g.ls j).2.2<_;omega
theorem WF.free{g:Gr}(h:WF g){a b:Nat}(ha:a<g.ks.length)(hb:b<g.ks.length):WF (g.free a b):=by
 have hl:=aO g a b;refine⟨fun k j hk hj=>?_,fun k j hk hj=>?_,fun j hj=>?_⟩
 ·rw[hl]at hk ⊢;rw[dq ha]at hj
  split at hj
  ·rcases Jh.1 hj with hj|hj
   ·exact h.fr a j ha hj
   rw[II.1 hj];exact hb
  exact h.fr k j hk hj
 ·rw[hl]at hk;rw[ns ha]at hj;exact h.lv k j hk hj
 rw[hl];exact h.ls j hj
theorem WF.leaf{g:Gr}(h:WF g){x c:Int}{a b:Nat}(ha:a<g.ks.length)(hb:b<g.ks.length):WF (g.leaf x c a b):=by
 have hl:=fT g x c a b;have h2:(g.leaf x c a b).ls.length=g.ls.length+1:=by simp[Gr.leaf]
 refine⟨fun k j hk hj=>?_,fun k j hk hj=>?_,fun j hj=>?_⟩
 ·rw[hl]at hk ⊢;rw[mZ ha]at hj;exact h.fr k j hk hj
 ·rw[hl]at hk;rw[h2];rw[kV ha]at hj
  split at hj
  ·rcases Jh.1 hj with hj|hj
   ·have:=h.lv a j ha hj;omega
   rw[II.1 hj];omega
  have:=h.lv k j hk hj;omega
 rw[hl,jf,aA]
 split
 ·rename_i e;exact h.ls j e
 rw[h2]at hj;rw[show j-g.ls.length=0 from by omega,ao];exact hb
theorem xa(k:Int)(g:Gr)(i:Nat):(layO k g i).ks.length=g.ks.length:=by
 unfold layO;split<;>split<;>simp only[aO]
theorem DZ{k:Int}{g:Gr}{i:Nat}(h:WF g)(hi:i+1<g.ks.length):WF (layO k g i):=by
 unfold layO;split<;>split
 ·exact h
 ·exact h.free zo hi
 ·exact h.free hi zo
 exact(h.free zo hi).free (by rw[aO];exact hi) (by rw[aO];omega)
theorem vZ{k:Int}{g:Gr}{i:Nat}(hi:i+1<g.ks.length):Sub g (layO k g i):=by
 unfold layO;split<;>split
 ·exact Sub.refl _
 ·exact eQ zo
 ·exact eQ hi
 exact(eQ zo).trans (eQ (by rw[aO];exact hi))
def bu(g:Gr)(a b:Nat):Gr:=(g.knot.knot.free a g.ks.length).free (g.ks.length+1) b
theorem dH(g:Gr)(a b:Nat):(bu g a b).ks.length=g.ks.length+2:=by unfold bu;rw[aO,aO,aE,aE]
theorem et{g:Gr}(h:WF g){a b:Nat}(ha:a<g.ks.length)(hb:b<g.ks.length):WF (bu g a b):=by
 have h2:g.knot.knot.ks.length=g.ks.length+2:=by rw[aE,aE]
 exact(h.knot.knot.free zo zo).free (by rw[aO];omega) (by rw[aO];omega)
theorem xY{g:Gr}{a b:Nat}(ha:a<g.ks.length):Sub g (bu g a b):=by
 have h2:g.knot.knot.ks.length=g.ks.length+2:=by rw[aE,aE]
 exact(((jT g).trans (jT _)).trans (eQ zo)).trans (eQ (by rw[aO];omega))
mutual
theorem bU:∀(t:Nd) (a b:Nat) (g:Gr),WF g->a<g.ks.length->b<g.ks.length->WF (eU t a b g)/\Sub g (eU t a b g)
 |.mk k c l,a,b,g,h,ha,hb=>by
  unfold eU
  split
  ·exact uE l a b g h ha hb
  split
  ·exact uG l a b g h ha hb
  split
  ·have hl:=dH g a b
   obtain⟨h1,h2⟩:=kW l g.ks.length (g.ks.length+1) (bu g a b) (et h ha hb) zo zo
   have:=h2.len
   show WF (layO k (my l g.ks.length (g.ks.length+1) (bu g a b)) g.ks.length)/\Sub g (layO k (my l g.ks.length (g.ks.length+1) (bu g a b)) g.ks.length)
   exact⟨DZ h1 zo,((xY ha).trans h2).trans (vZ zo)⟩
  split
  ·exact⟨h.free ha hb,eQ ha⟩
  exact⟨h.leaf ha hb,Cv ha⟩
theorem uE:∀(l:List Nd) (a b:Nat) (g:Gr),WF g->a<g.ks.length->b<g.ks.length->WF (mw l a b g)/\Sub g (mw l a b g)
 |[],_,_,g,h,_,_=>⟨h,Sub.refl g⟩
 |t::r,a,b,g,h,ha,hb=>by
  unfold mw
  split
  ·exact bU t a b g h ha hb
  have hl:=aE g
  obtain⟨h1,h2⟩:=bU t a g.ks.length g.knot h.knot zo zo
  have:=h2.len
  obtain⟨h3,h4⟩:=uE r g.ks.length b _ h1 zo zo
  exact⟨h3,((jT g).trans h2).trans h4⟩
theorem uG:∀(l:List Nd) (a b:Nat) (g:Gr),WF g->a<g.ks.length->b<g.ks.length->WF (mz l a b g)/\Sub g (mz l a b g)
 |[],_,_,g,h,_,_=>⟨h,Sub.refl g⟩
 |t::r,a,b,g,h,ha,hb=>by
  unfold mz
  obtain⟨h1,h2⟩:=bU t a b g h ha hb
  have:=h2.len
  obtain⟨h3,h4⟩:=uG r a b _ h1 zo zo
  exact⟨h3,h2.trans h4⟩
theorem kW:∀(l:List Nd) (a b:Nat) (g:Gr),WF g->a<g.ks.length->b<g.ks.length->WF (my l a b g)/\Sub g (my l a b g)
 |[],_,_,g,h,_,_=>⟨h,Sub.refl g⟩
 |t::_,a,b,g,h,ha,hb=>by
  unfold my
  exact bU t a b g h ha hb
end
theorem mI{g:Gr}{L:List Int->Prop}{i o:Nat}(hL:∀u,L u->Pt g i u o)(hb:Pt g o [] i):∀ {v:List Int},StarP L v->Pt g o v o
 |_,.nil=>.nil _
 |_,.cons h1 h2=>(hb.trans (hL _ h1)).trans (mI hL hb h2)
mutual
theorem jR:∀(t:Nd) (a b:Nat) (g:Gr),WF g->a<g.ks.length->b<g.ks.length->fe t=true->∀w,Lg t w->Pt (eU t a b g) a w b
 |.mk k c l,a,b,g,h,ha,hb,hs,w,hw=>by
  unfold fe at hs
  simp only[IS]at hs
  obtain⟨hs1,hs2⟩:=hs
  unfold Lg at hw
  unfold eU
  by_cases h4:k=4
  ·rw[if_pos h4]at hw hs1 ⊢
   exact sE l a b g h ha hb hs2 (by intro e;rw[e]at hs1;simp at hs1) w hw
  rw[if_neg h4]at hw hs1 ⊢
  by_cases h5:k=5
  ·rw[if_pos h5]at hw ⊢
   exact sG l a b g h ha hb hs2 w hw
  rw[if_neg h5]at hw ⊢
  by_cases h678:k=6\/k=7\/k=8
  ·rw[if_pos h678]at hs1 ⊢
   have hl:=dH g a b
   have hwf:=et h ha hb
   obtain⟨h1,h2⟩:=kW l g.ks.length (g.ks.length+1) (bu g a b) hwf zo zo
   have hlen:=h2.len
   have hkid:=AH l g.ks.length (g.ks.length+1) (bu g a b) hwf zo zo hs2
   have hk2:g.knot.knot.ks.length=g.ks.length+2:=by rw[aE,aE]
   show Pt (layO k (my l g.ks.length (g.ks.length+1) (bu g a b)) g.ks.length) a w b
   have ein:Pt (bu g a b) a [] g.ks.length:=.eps zo (by
    unfold bu
    rw[dq (by rw[aO];omega)]
    rw[if_neg zo,dq zo,if_pos rfl];simp) (.nil _)
   have eout:Pt (bu g a b) (g.ks.length+1) [] b:=.eps zo (by
    unfold bu
    rw[dq (by rw[aO];omega),if_pos rfl];simp) (.nil _)
   generalize bu g a b=g1 at *
   generalize my l g.ks.length (g.ks.length+1) g1=g2 at *
   generalize g.ks.length=i at *
   have hsub:Sub g2 (layO k g2 i):=vZ zo
   have e1:=(ein.mono h2).mono hsub
   have e2:=(eout.mono h2).mono hsub
   have ek:∀u,LgH l u->Pt (layO k g2 i) i u (i+1):=fun u hu=>(hkid u hu).mono hsub
   have eskip:k≠7->Pt (layO k g2 i) i [] (i+1):=fun hk=>.eps (by rw[xa];omega) (by
    unfold layO
    rw[if_neg hk]
    split
    ·rw[dq zo,if_pos rfl];simp
    rw[dq (by rw[aO];omega),if_neg zo,dq zo,if_pos rfl];simp) (.nil _)
   have eback:k≠8->Pt (layO k g2 i) (i+1) [] i:=fun hk=>.eps (by rw[xa];omega) (by
    unfold layO
    rw[if_neg hk,dq (by split;omega;rw[aO];omega),if_pos rfl];simp) (.nil _)
   by_cases h6:k=6
   ·rw[if_pos h6]at hw
    have:=((e1.trans (eskip zo)).trans (mI ek (eback zo) hw)).trans e2
    simpa using this
   rw[if_neg h6]at hw
   by_cases h7:k=7
   ·rw[if_pos h7]at hw
    obtain⟨u,v,rfl,hu,hv⟩:=hw
    have:=((e1.trans (ek u hu)).trans (mI ek (eback zo) hv)).trans e2
    simpa using this
   rw[if_neg h7,if_pos (show k=8 from by omega)]at hw
   rcases hw with rfl|hw
   ·exact(e1.trans (eskip h7)).trans e2
   have:=(e1.trans (ek w hw)).trans e2
   simpa using this
  rw[if_neg zo,if_neg zo,if_neg zo]at hw
  rw[if_neg h678]
  by_cases h9:k=9
  ·rw[if_pos h9]at hw ⊢
   subst hw
   exact .eps (by rw[aO];exact ha) (by rw[dq ha,if_pos rfl];simp) (.nil _)
  rw[if_neg h9]at hw ⊢
  obtain⟨m,rfl,hm⟩:=hw
  have hn:nth (g.leaf k c a b).ls g.ls.length=(k,c,b):=by rw[jf,aA,if_neg zo,Nat.sub_self,ao]
  refine .leaf (j:=g.ls.length) (by rw[fT];exact ha) (by rw[jf];simp) (by rw[kV ha,if_pos rfl];simp) (by rw[hn];exact hm) (by rw[hn];exact .nil _)
theorem sE:∀(l:List Nd) (a b:Nat) (g:Gr),WF g->a<g.ks.length->b<g.ks.length->bI l=true->l≠[]->∀w,LgS l w->Pt (mw l a b g) a w b
 |[],_,_,_,_,_,_,_,hn,_,_=>absurd rfl hn
 |t::r,a,b,g,h,ha,hb,hs,_,w,hw=>by
  unfold bI at hs
  simp only[IS]at hs
  unfold LgS at hw
  obtain⟨u,v,rfl,hu,hv⟩:=hw
  unfold mw
  split
  ·rename_i hr
   obtain rfl:r=[]:=by simpa using hr
   obtain rfl:v=[]:=by unfold LgS at hv;exact hv
   rw[Jp]
   exact jR t a b g h ha hb hs.1 u hu
  rename_i hr
  have hl:=aE g
  have p1:=jR t a g.ks.length g.knot h.knot zo zo hs.1 u hu
  obtain⟨h1,h2⟩:=bU t a g.ks.length g.knot h.knot zo zo
  have:=h2.len
  have p2:=sE r g.ks.length b _ h1 zo zo hs.2 (by intro e;rw[e]at hr;simp at hr) v hv
  exact(p1.mono (uE r g.ks.length b _ h1 zo zo).2).trans p2
theorem sG:∀(l:List Nd) (a b:Nat) (g:Gr),WF g->a<g.ks.length->b<g.ks.length->bI l=true->∀w,LgA l w->Pt (mz l a b g) a w b
 |[],_,_,_,_,_,_,_,_,hw=>by unfold LgA at hw;exact hw.elim
 |t::r,a,b,g,h,ha,hb,hs,w,hw=>by
  unfold bI at hs
  simp only[IS]at hs
  unfold LgA at hw
  unfold mz
  obtain⟨h1,h2⟩:=bU t a b g h ha hb
  have:=h2.len
  rcases hw with hw|hw
  ·exact(jR t a b g h ha hb hs.1 w hw).mono (uG r a b _ h1 zo zo).2
  exact sG r a b _ h1 zo zo hs.2 w hw
theorem AH:∀(l:List Nd) (a b:Nat) (g:Gr),WF g->a<g.ks.length->b<g.ks.length->bI l=true->∀w,LgH l w->Pt (my l a b g) a w b
 |[],_,_,_,_,_,_,_,_,hw=>by unfold LgH at hw;exact hw.elim
 |t::_,a,b,g,h,ha,hb,hs,w,hw=>by
  unfold bI at hs
  simp only[IS]at hs
  unfold LgH at hw
  unfold my
  exact jR t a b g h ha hb hs.1 w hw
end
end
section
open Go.VL Go.Proofs
set_option maxRecDepth 10000
structure Lbl(g:Gr)(R:Nat->List Int->Prop):Prop where
 fr:∀k j,k<g.ks.length->j∈g.fr k->∀w,R j w->R k w
 lv:∀k j,k<g.ks.length->j<g.ls.length->j+1∈g.lv k->∀m w,bY (nth g.ls j).1 (nth g.ls j).2.1 m=true->R (nth g.ls j).2.2 w->R k (m::w)
theorem Lbl.path{g:Gr}{R:Nat->List Int->Prop}(h:Lbl g R){k q:Nat}{w:List Int}(p:Pt g k w q):∀v,R q v->R k (w++v):=by
 induction p with
 |nil=>exact fun v h=>h
 |eps h1 h2 _ ih=>exact fun v hv=>h.fr _ _ h1 h2 _ (ih v hv)
 |leaf h1 h2 h3 h4 _ ih=>exact fun v hv=>h.lv _ _ h1 h2 h3 _ _ h4 (ih v hv)
theorem Lbl.agree{g:Gr}{R R':Nat->List Int->Prop}(h:Lbl g R)(hw:WF g)(e:∀k,k<g.ks.length->R' k=R k):Lbl g R':=
 ⟨fun k j hk hj w=>by rw[e k hk,e j (hw.fr k j hk hj)];exact h.fr k j hk hj w,fun k j hk hj hl m w=>by rw[e k hk,e _ (hw.ls j hj)];exact h.lv k j hk hj hl m w⟩
theorem Lbl.knot{g:Gr}{R:Nat->List Int->Prop}(h:Lbl g R):Lbl g.knot R:=by
 refine⟨fun k j hk hj w=>?_,fun k j hk hj hl m w=>?_⟩
 ·rw[np]at hj
  split at hj
  ·rename_i e;exact h.fr k j e hj w
  simp at hj
 rw[nn]at hl
 split at hl
 ·rename_i e;exact h.lv k j e hj hl m w
 simp at hl
theorem Lbl.free{g:Gr}{R:Nat->List Int->Prop}(h:Lbl g R){a b:Nat}(ha:a<g.ks.length)(a0:∀w,R b w->R a w):Lbl (g.free a b) R:=by
 refine⟨fun k j hk hj w=>?_,fun k j hk hj hl m w=>?_⟩
 ·rw[aO]at hk;rw[dq ha]at hj
  split at hj
  ·rename_i e;subst e
   rcases Jh.1 hj with hj|hj
   ·exact h.fr k j ha hj w
   rw[II.1 hj];exact a0 w
  exact h.fr k j hk hj w
 rw[aO]at hk;rw[ns ha]at hl;exact h.lv k j hk hj hl m w
theorem Lbl.leaf{g:Gr}{R:Nat->List Int->Prop}(h:Lbl g R)(hw:WF g){x c:Int}{a b:Nat}(ha:a<g.ks.length)(a1:∀m w,bY x c m=true->R b w->R a (m::w)):Lbl (g.leaf x c a b) R:=by
 refine⟨fun k j hk hj w=>?_,fun k j hk hj hl m w=>?_⟩
 ·rw[fT]at hk;rw[mZ ha]at hj;exact h.fr k j hk hj w
 rw[fT]at hk;rw[kV ha]at hl;rw[jf,JI]at hj;simp only[JO,Lp]at hj;rw[jf,aA]
 by_cases a0:j<g.ls.length
 ·rw[if_pos a0];refine h.lv k j hk a0 ?_ m w
  split at hl
  ·rename_i e;subst e
   rcases Jh.1 hl with hl|hl
   ·exact hl
   have:=II.1 hl;omega
  exact hl
 rw[if_neg a0,show j-g.ls.length=0 from by omega,ao]
 split at hl
 ·rename_i e;subst e;exact a1 m w
 have:=hw.lv k (j+1) hk hl;omega
def lU(R:Nat->List Int->Prop)(i:Nat)(X:List Int->Prop):Nat->List Int->Prop:=fun k=>if k=i then X else R k
theorem iU(R:Nat->List Int->Prop)(i:Nat)(X:List Int->Prop):lU R i X i=X:=if_pos rfl
theorem cY{R:Nat->List Int->Prop}{i k:Nat}{X:List Int->Prop}(h:k≠i):lU R i X k=R k:=if_neg h
def Cat(L M:List Int->Prop):List Int->Prop:=fun w=>∃u v,w=u++v/\L u/\M v
def ud(k:Int)(L:List Int->Prop):List Int->Prop:=if k=8 then fun w=>w=[]else StarP L
def inL(k:Int)(L:List Int->Prop):List Int->Prop:=if k=6 then StarP L else if k=7 then Cat L (StarP L)else fun w=>w=[]\/L w
theorem Ce(k:Int)(L:List Int->Prop):ud k L []:=by unfold ud;split;rfl;exact .nil
theorem F0{k:Int}(hk:k=6\/k=7\/k=8){L:List Int->Prop}{u v:List Int}(hu:L u)(hv:ud k L v):inL k L (u++v):=by
 unfold ud at hv;unfold inL
 rcases hk with rfl|rfl|rfl
 ·rw[if_neg zd]at hv;rw[if_pos rfl];exact .cons hu hv
 ·rw[if_neg zd]at hv;rw[if_neg zd,if_pos rfl];exact⟨u,v,rfl,hu,hv⟩
 rw[if_pos rfl]at hv;subst hv;rw[if_neg zd,if_neg zd,Jp];exact .inr hu
theorem D1{k:Int}(hk:k=6\/k=7\/k=8)(h7:k≠7){L:List Int->Prop}{v:List Int}(hv:ud k L v):inL k L v:=by
 unfold ud at hv;unfold inL
 rcases hk with rfl|rfl|rfl
 ·rw[if_neg zd]at hv;rw[if_pos rfl];exact hv
 ·exact absurd rfl h7
 rw[if_pos rfl]at hv;rw[if_neg zd,if_neg zd];exact .inl hv
theorem Cd{k:Int}(hk:k=6\/k=7\/k=8)(h8:k≠8){L:List Int->Prop}{v:List Int}(hv:inL k L v):ud k L v:=by
 unfold inL at hv;unfold ud;rw[if_neg h8]
 rcases hk with rfl|rfl|rfl
 ·rw[if_pos rfl]at hv;exact hv
 ·rw[if_neg zd,if_pos rfl]at hv;obtain⟨u,v,rfl,hu,hv⟩:=hv;exact .cons hu hv
 exact absurd rfl h8
theorem CU{k c:Int}{l:List Nd}(hk:k=6\/k=7\/k=8):Lg (.mk k c l)=inL k (LgH l):=by
 unfold Lg inL;funext w
 rcases hk with rfl|rfl|rfl
 ·rw[if_neg zd,if_neg zd,if_pos rfl,if_pos rfl]
 ·rw[if_neg zd,if_neg zd,if_neg zd,if_pos rfl,if_neg zd,if_pos rfl];rfl
 rw[if_neg zd,if_neg zd,if_neg zd,if_neg zd,if_pos rfl,if_neg zd,if_neg zd]
theorem Cy{k:Int}{g:Gr}{R:Nat->List Int->Prop}{i:Nat}(h:Lbl g R)(hi:i+1<g.ks.length)(h7:k≠7->∀w,R (i+1) w->R i w)(h8:k≠8->∀w,R i w->R (i+1) w):Lbl (layO k g i) R:=by
 unfold layO
 split
 ·split
  ·exact h
  rename_i q;exact h.free zo (h7 q)
 rename_i q8
 split
 ·exact h.free hi (h8 q8)
 rename_i q;exact(h.free zo (h7 q)).free (by rw[aO];exact hi) (h8 q8)
mutual
theorem gD:∀(t:Nd) (a b:Nat) (g:Gr) (R:Nat->List Int->Prop),WF g->a<g.ks.length->b<g.ks.length->Lbl g R->(∀u v,Lg t u->R b v->R a (u++v))->
  ∃R',(∀k,k<g.ks.length->R' k=R k)/\Lbl (eU t a b g) R'
 |.mk k c l,a,b,g,R,h,ha,hb,hL,hab=>by
  unfold eU
  by_cases h4:k=4
  ·rw[if_pos h4]
   refine oW l a b g R h ha hb hL fun u v hu hv=>hab u v ?_ hv
   unfold Lg;rw[if_pos h4];exact hu
  rw[if_neg h4]
  by_cases h5:k=5
  ·rw[if_pos h5]
   refine oX l a b g R h ha hb hL fun u v hu hv=>hab u v ?_ hv
   unfold Lg;rw[if_neg h4,if_pos h5];exact hu
  rw[if_neg h5]
  by_cases h678:k=6\/k=7\/k=8
  ·rw[if_pos h678]
   have hab':∀u v,inL k (LgH l) u->R b v->R a (u++v):=fun u v hu hv=>hab u v (by rw[CU h678];exact hu) hv
   have hl:=dH g a b
   have hwf:=et h ha hb
   obtain⟨h1,h2⟩:=kW l g.ks.length (g.ks.length+1) (bu g a b) hwf zo zo
   have hlen:=h2.len
   show∃R',(∀q,q<g.ks.length->R' q=R q)/\Lbl (layO k (my l g.ks.length (g.ks.length+1) (bu g a b)) g.ks.length) R'
   have hR1:Lbl (bu g a b) (lU (lU R g.ks.length (Cat (inL k (LgH l)) (R b))) (g.ks.length+1) (Cat (ud k (LgH l)) (R b))):=by
    have hk2:g.knot.knot.ks.length=g.ks.length+2:=by rw[aE,aE]
    have hg:=(hL.agree (R':=lU (lU R g.ks.length (Cat (inL k (LgH l)) (R b))) (g.ks.length+1) (Cat (ud k (LgH l)) (R b))) h fun q hq=>by rw[cY zo,cY zo]).knot.knot
    refine(hg.free zo ?_).free (by rw[aO];omega) ?_
    ·intro w hw
     rw[cY zo,iU]at hw
     rw[cY zo,cY zo]
     obtain⟨u,v,rfl,hu,hv⟩:=hw
     exact hab' u v hu hv
    intro w hw
    rw[cY zo,cY zo]at hw
    rw[iU]
    exact⟨[],w,rfl,Ce _ _,hw⟩
   have hi1:(lU (lU R g.ks.length (Cat (inL k (LgH l)) (R b))) (g.ks.length+1) (Cat (ud k (LgH l)) (R b))) g.ks.length=Cat (inL k (LgH l)) (R b):=by rw[cY zo,iU]
   have ho1:(lU (lU R g.ks.length (Cat (inL k (LgH l)) (R b))) (g.ks.length+1) (Cat (ud k (LgH l)) (R b))) (g.ks.length+1)=Cat (ud k (LgH l)) (R b):=iU _ _ _
   have hold:∀q,q<g.ks.length->(lU (lU R g.ks.length (Cat (inL k (LgH l)) (R b))) (g.ks.length+1) (Cat (ud k (LgH l)) (R b))) q=R q:=fun q hq=>by rw[cY zo,cY zo]
   generalize lU (lU R g.ks.length (Cat (inL k (LgH l)) (R b))) (g.ks.length+1) (Cat (ud k (LgH l)) (R b))=R1 at *
   obtain⟨R2,e2,hR2⟩:=yf l g.ks.length (g.ks.length+1) (bu g a b) R1 hwf zo zo hR1 (fun u v hu hv=>by
    rw[ho1]at hv
    rw[hi1]
    obtain⟨v1,v2,rfl,hv1,hv2⟩:=hv
    exact⟨u++v1,v2,by rw[J5],F0 h678 hu hv1,hv2⟩)
   refine⟨R2,fun q hq=>by rw[e2 q zo,hold q hq],Cy hR2 zo ?_ ?_⟩
   ·intro h7 w
    rw[e2 _ zo,e2 _ zo,hi1,ho1]
    rintro⟨u,v,rfl,hu,hv⟩
    exact⟨u,v,rfl,D1 h678 h7 hu,hv⟩
   intro h8 w
   rw[e2 _ zo,e2 _ zo,hi1,ho1]
   rintro⟨u,v,rfl,hu,hv⟩
   exact⟨u,v,rfl,Cd h678 h8 hu,hv⟩
  rw[if_neg h678]
  have hg:Lg (.mk k c l)=fun w=>if k=9 then w=[]else∃m,w=[m]/\bY k c m=true:=by
   unfold Lg;funext w;rw[if_neg h4,if_neg h5,if_neg zo,if_neg zo,if_neg zo]
  rw[hg]at hab
  by_cases h9:k=9
  ·rw[if_pos h9]
   exact⟨R,fun _ _=>rfl,hL.free ha fun w hw=>hab [] w (by show(if k=9 then _ else _);rw[if_pos h9]) hw⟩
  rw[if_neg h9]
  exact⟨R,fun _ _=>rfl,hL.leaf h ha fun m w hm hw=>hab [m] w (by show(if k=9 then _ else _);rw[if_neg h9];exact⟨m,rfl,hm⟩) hw⟩
theorem oW:∀(l:List Nd) (a b:Nat) (g:Gr) (R:Nat->List Int->Prop),WF g->a<g.ks.length->b<g.ks.length->Lbl g R->(∀u v,LgS l u->R b v->R a (u++v))->
  ∃R',(∀k,k<g.ks.length->R' k=R k)/\Lbl (mw l a b g) R'
 |[],_,_,_,R,_,_,_,hL,_=>⟨R,fun _ _=>rfl,hL⟩
 |t::r,a,b,g,R,h,ha,hb,hL,hab=>by
  unfold LgS at hab
  unfold mw
  split
  ·rename_i hr
   obtain rfl:r=[]:=by simpa using hr
   exact gD t a b g R h ha hb hL fun u v hu hv=>hab u v ⟨u,[],by simp,hu,by unfold LgS;rfl⟩ hv
  have hl:=aE g
  have hold:∀q,q<g.ks.length->lU R g.ks.length (Cat (LgS r) (R b)) q=R q:=fun q hq=>cY zo
  have hmid:=iU R g.ks.length (Cat (LgS r) (R b))
  have hR1:=(hL.agree h hold).knot
  generalize lU R g.ks.length (Cat (LgS r) (R b))=R1 at *
  obtain⟨R2,e2,hR2⟩:=gD t a g.ks.length g.knot R1 h.knot zo zo hR1 (fun u v hu hv=>by
   rw[hmid]at hv
   rw[hold a ha]
   obtain⟨v1,v2,rfl,hv1,hv2⟩:=hv
   rw[<-J5]
   exact hab (u++v1) v2 ⟨u,v1,rfl,hu,hv1⟩ hv2)
  obtain⟨h1,h2⟩:=bU t a g.ks.length g.knot h.knot zo zo
  have hlen:=h2.len
  obtain⟨R3,e3,hR3⟩:=oW r g.ks.length b _ R2 h1 zo zo hR2 (fun u v hu hv=>by
   rw[e2 b zo,hold b hb]at hv
   rw[e2 _ zo,hmid]
   exact⟨u,v,rfl,hu,hv⟩)
  exact⟨R3,fun q hq=>by rw[e3 q zo,e2 q zo,hold q hq],hR3⟩
theorem oX:∀(l:List Nd) (a b:Nat) (g:Gr) (R:Nat->List Int->Prop),WF g->a<g.ks.length->b<g.ks.length->Lbl g R->(∀u v,LgA l u->R b v->R a (u++v))->
  ∃R',(∀k,k<g.ks.length->R' k=R k)/\Lbl (mz l a b g) R'
 |[],_,_,_,R,_,_,_,hL,_=>⟨R,fun _ _=>rfl,hL⟩
 |t::r,a,b,g,R,h,ha,hb,hL,hab=>by
  unfold LgA at hab
  unfold mz
  obtain⟨R2,e2,hR2⟩:=gD t a b g R h ha hb hL fun u v hu hv=>hab u v (.inl hu) hv
  obtain⟨h1,h2⟩:=bU t a b g h ha hb
  have hlen:=h2.len
  obtain⟨R3,e3,hR3⟩:=oX r a b _ R2 h1 zo zo hR2 fun u v hu hv=>by
   rw[e2 b hb]at hv
   rw[e2 a ha]
   exact hab u v (.inr hu) hv
  exact⟨R3,fun q hq=>by rw[e3 q zo,e2 q hq],hR3⟩
theorem yf:∀(l:List Nd) (a b:Nat) (g:Gr) (R:Nat->List Int->Prop),WF g->a<g.ks.length->b<g.ks.length->Lbl g R->(∀u v,LgH l u->R b v->R a (u++v))->
  ∃R',(∀k,k<g.ks.length->R' k=R k)/\Lbl (my l a b g) R'
 |[],_,_,_,R,_,_,_,hL,_=>⟨R,fun _ _=>rfl,hL⟩
 |t::_,a,b,g,R,h,ha,hb,hL,hab=>by
  unfold LgH at hab
  unfold my
  exact gD t a b g R h ha hb hL hab
end
theorem qw(g:Gr)(k:Nat):g.knot.en k=if k<g.ks.length then g.en k else 0:=by unfold Gr.en;rw[qv];split<;>rfl
theorem uM{g:Gr}{a b:Nat}(ha:a<g.ks.length)(k:Nat):(g.free a b).en k=g.en k:=by
 unfold Gr.free Gr.en;rw[aW ha];split
 ·rename_i h;rw[h]
 rfl
theorem AA{g:Gr}{x c:Int}{a b:Nat}(ha:a<g.ks.length)(k:Nat):(g.leaf x c a b).en k=g.en k:=by
 unfold Gr.leaf Gr.en;rw[aW ha];split
 ·rename_i h;rw[h]
 rfl
def SameEn(g g':Gr):Prop:=∀k,g'.en k=if k<g.ks.length then g.en k else 0
theorem F7{g:Gr}{k:Nat}(h:g.ks.length<=k):g.en k=0:=by unfold Gr.en;rw[eu h];rfl
theorem SameEn.refl(g:Gr):SameEn g g:=fun k=>by
 split
 ·rfl
 exact F7 zo
theorem SameEn.trans{a b c:Gr}(h:SameEn a b)(k:SameEn b c)(hl:a.ks.length<=b.ks.length):SameEn a c:=fun q=>by
 rw[k q]
 by_cases h1:q<a.ks.length
 ·rw[if_pos h1,if_pos zo,h q,if_pos h1]
 rw[if_neg h1]
 split
 ·rw[h q,if_neg h1]
 rfl
theorem nj(g:Gr):SameEn g g.knot:=qw g
theorem eC{g:Gr}{a b:Nat}(ha:a<g.ks.length):SameEn g (g.free a b):=fun k=>by
 rw[uM ha];exact SameEn.refl g k
theorem Az{g:Gr}{x c:Int}{a b:Nat}(ha:a<g.ks.length):SameEn g (g.leaf x c a b):=fun k=>by
 rw[AA ha];exact SameEn.refl g k
theorem AE{k:Int}{g:Gr}{i:Nat}(hi:i+1<g.ks.length):SameEn g (layO k g i):=by
 unfold layO;split<;>split
 ·exact SameEn.refl _
 ·exact eC zo
 ·exact eC hi
 exact(eC zo).trans (eC (by rw[aO];exact hi)) (by rw[aO];omega)
theorem ug{g:Gr}{a b:Nat}(ha:a<g.ks.length):SameEn g (bu g a b):=by
 have h2:g.knot.knot.ks.length=g.ks.length+2:=by rw[aE,aE]
 unfold bu;exact(((nj g).trans (nj _) (by rw[aE];omega)).trans (eC zo) zo).trans (eC (by rw[aO];omega)) (by rw[aO];omega)
mutual
theorem gE:∀(t:Nd) (a b:Nat) (g:Gr),WF g->a<g.ks.length->b<g.ks.length->SameEn g (eU t a b g)
 |.mk k c l,a,b,g,h,ha,hb=>by
  unfold eU
  split
  ·exact sD l a b g h ha hb
  split
  ·exact sF l a b g h ha hb
  split
  ·have hl:=dH g a b
   have hwf:=et h ha hb
   obtain⟨h1,h2⟩:=kW l g.ks.length (g.ks.length+1) (bu g a b) hwf zo zo
   have:=h2.len
   exact((ug ha).trans (AF l _ _ _ hwf zo zo) zo).trans (AE zo) (by show g.ks.length<=(my l g.ks.length (g.ks.length+1) (bu g a b)).ks.length;omega)
  split
  ·exact eC ha
  exact Az ha
theorem sD:∀(l:List Nd) (a b:Nat) (g:Gr),WF g->a<g.ks.length->b<g.ks.length->SameEn g (mw l a b g)
 |[],_,_,g,_,_,_=>SameEn.refl g
 |t::r,a,b,g,h,ha,hb=>by
  unfold mw
  split
  ·exact gE t a b g h ha hb
  have hl:=aE g
  obtain⟨h1,h2⟩:=bU t a g.ks.length g.knot h.knot zo zo
  have:=h2.len
  exact((nj g).trans (gE t _ _ _ h.knot zo zo) zo).trans (sD r _ _ _ h1 zo zo) zo
theorem sF:∀(l:List Nd) (a b:Nat) (g:Gr),WF g->a<g.ks.length->b<g.ks.length->SameEn g (mz l a b g)
 |[],_,_,g,_,_,_=>SameEn.refl g
 |t::r,a,b,g,h,ha,hb=>by
  unfold mz
  obtain⟨h1,h2⟩:=bU t a b g h ha hb
  have:=h2.len
  exact(gE t a b g h ha hb).trans (sF r _ _ _ h1 zo zo) zo
theorem AF:∀(l:List Nd) (a b:Nat) (g:Gr),WF g->a<g.ks.length->b<g.ks.length->SameEn g (my l a b g)
 |[],_,_,g,_,_,_=>SameEn.refl g
 |t::_,a,b,g,h,ha,hb=>by
  unfold my
  exact gE t a b g h ha hb
end
end
section
open Go.VL Go.Proofs
set_option maxRecDepth 10000
def Gr.mark(g:Gr)(a e:Nat):Gr:=⟨g.ls,g.ks.set a (g.fr a,g.lv a,e)⟩
theorem cd(g:Gr)(a e:Nat):(g.mark a e).ks.length=g.ks.length:=by simp[Gr.mark]
theorem mX{g:Gr}{a e:Nat}(ha:a<g.ks.length)(k:Nat):(g.mark a e).fr k=g.fr k:=by
 unfold Gr.mark Gr.fr;rw[aW ha];split
 ·rename_i h;rw[h]
 rfl
theorem mW{g:Gr}{a e:Nat}(ha:a<g.ks.length)(k:Nat):(g.mark a e).lv k=g.lv k:=by
 unfold Gr.mark Gr.lv;rw[aW ha];split
 ·rename_i h;rw[h]
 rfl
theorem Ar{g:Gr}{a e:Nat}(ha:a<g.ks.length)(k:Nat):(g.mark a e).en k=if k=a then e else g.en k:=by
 unfold Gr.mark Gr.en;rw[aW ha];split<;>rfl
theorem Co{g:Gr}{a e:Nat}(ha:a<g.ks.length):Sub g (g.mark a e):=⟨by rw[cd];omega,⟨[],by simp[Gr.mark]⟩,fun k j _ h=>by rw[mX ha];exact h,fun k j _ h=>by rw[mW ha];exact h⟩
theorem WF.mark{g:Gr}(h:WF g){a e:Nat}(ha:a<g.ks.length):WF (g.mark a e):=
 ⟨fun k j hk hj=>by rw[cd]at hk ⊢;rw[mX ha]at hj;exact h.fr k j hk hj,fun k j hk hj=>by rw[cd]at hk;rw[mW ha]at hj;exact h.lv k j hk hj,fun j hj=>by rw[cd];exact h.ls j hj⟩
theorem Lbl.mark{g:Gr}{R:Nat->List Int->Prop}(h:Lbl g R){a e:Nat}(ha:a<g.ks.length):Lbl (g.mark a e) R:=
 ⟨fun k j hk hj=>by rw[cd]at hk;rw[mX ha]at hj;exact h.fr k j hk hj,fun k j hk hj hl=>by rw[cd]at hk;rw[mW ha]at hl;exact h.lv k j hk hj hl⟩
def cZ(g:Gr)(i:Nat):Gr:=((g.knot.mark g.ks.length (i+1)).knot).free 0 (g.ks.length+1)
def mn(x:Nd)(i:Nat)(g:Gr):Gr:=eU x (g.ks.length+1) g.ks.length (cZ g i)
def bM:List Nd->Nat->Gr->Gr
 |[],_,g=>g
 |x::r,i,g=>bM r (i+1) (mn x i g)
def g00:Gr:=⟨[],[([],[],0)]⟩
def jv(xs:List Nd):Gr:=bM xs 0 g00
theorem dD(g:Gr)(i:Nat):(cZ g i).ks.length=g.ks.length+2:=by unfold cZ;rw[aO,aE,cd,aE]
theorem eh{g:Gr}(h:WF g)(h0:0<g.ks.length)(i:Nat):WF (cZ g i)/\Sub g (cZ g i):=by
 have h1:=aE g;have h2:=cd g.knot g.ks.length (i+1);have h3:=aE (g.knot.mark g.ks.length (i+1));refine⟨((h.knot.mark zo).knot).free zo zo,(((jT g).trans (Co zo)).trans (jT _)).trans (eQ zo)⟩
theorem zA{g:Gr}(h0:0<g.ks.length)(i k:Nat):(cZ g i).en k=if k=g.ks.length then i+1 else if k<g.ks.length then g.en k else 0:=by
 have h1:=aE g;have h2:=cd g.knot g.ks.length (i+1);have h3:=aE (g.knot.mark g.ks.length (i+1));unfold cZ;rw[uM zo,qw,Ar zo,qw]
 by_cases hk:k=g.ks.length
 ·simp only[if_pos hk];rw[if_pos zo]
 simp only[if_neg hk]
 by_cases a0:k<g.ks.length
 ·simp only[if_pos a0];rw[if_pos zo]
 simp only[if_neg a0];split<;>rfl
theorem kP{g:Gr}(h:WF g)(h0:0<g.ks.length)(x:Nd)(i:Nat):WF (mn x i g)/\Sub g (mn x i g)/\g.ks.length+2<=(mn x i g).ks.length:=by
 obtain⟨h1,h2⟩:=eh h h0 i;have hl:=dD g i;obtain⟨h3,h4⟩:=bU x (g.ks.length+1) g.ks.length (cZ g i) h1 zo zo;exact⟨h3,h2.trans h4,by have:=h4.len;unfold mn;omega⟩
theorem ql{g:Gr}(h:WF g)(h0:0<g.ks.length)(x:Nd)(i k:Nat):(mn x i g).en k=if k=g.ks.length then i+1 else if k<g.ks.length then g.en k else 0:=by
 obtain⟨h1,h2⟩:=eh h h0 i;have hl:=dD g i;have:=gE x (g.ks.length+1) g.ks.length (cZ g i) h1 zo zo k;rw[zA h0,hl]at this;unfold mn;rw[this]
 by_cases hk:k=g.ks.length
 ·rw[if_pos zo]
 rw[if_neg hk]
 by_cases a0:k<g.ks.length
 ·rw[if_pos zo]
 rw[if_neg a0];split<;>rfl
theorem qJ:∀(xs:List Nd) (i:Nat) (g:Gr),WF g->0<g.ks.length->WF (bM xs i g)/\Sub g (bM xs i g)/\∀k,k<g.ks.length->(bM xs i g).en k=g.en k
 |[],_,g,h,_=>⟨h,Sub.refl g,fun _ _=>rfl⟩
 |x::r,i,g,h,h0=>by
  obtain⟨h1,h2,h3⟩:=kP h h0 x i;obtain⟨h4,h5,h6⟩:=qJ r (i+1) (mn x i g) h1 zo;refine⟨h4,h2.trans h5,fun k hk=>?_⟩;show(bM r (i+1) (mn x i g)).en k=_;rw[h6 k zo,ql h h0,if_neg zo,if_pos hk]
theorem pf:WF g00:=by
 refine⟨fun k j hk hj=>?_,fun k j hk hj=>?_,fun j hj=>?_⟩
 ·have:k=0:=by simpa[g00]using hk
  subst this;simp[Gr.fr,g00,ao]at hj
 ·have:k=0:=by simpa[g00]using hk
  subst this;simp[Gr.lv,g00,ao]at hj
 simp[g00]at hj
theorem Ai(xs:List Nd):WF (jv xs)/\0<(jv xs).ks.length:=by
 obtain⟨h1,h2,_⟩:=qJ xs 0 g00 pf zd;exact⟨h1,IN zd h2.len⟩
theorem pG:∀(xs:List Nd) (i:Nat) (g:Gr),WF g->0<g.ks.length->bI xs=true->∀k w,k<xs.length->Lg (nth xs k) w->∃q,q<(bM xs i g).ks.length/\Pt (bM xs i g) 0 w q/\(bM xs i g).en q=i+k+1
 |[],_,_,_,_,_,k,w,hk,_=>absurd hk (Km _)
 |x::r,i,g,h,h0,hs,k,w,hk,hw=>by
  unfold bI at hs;simp only[IS]at hs;obtain⟨h1,h2,h3⟩:=kP h h0 x i;obtain⟨h4,h5,h6⟩:=qJ r (i+1) (mn x i g) h1 zo;show∃q,q<(bM r (i+1) (mn x i g)).ks.length/\_
  cases k with
  |zero=>
   rw[ao]at hw;have hl:=dD g i;obtain⟨g1,g2⟩:=eh h h0 i
   have p1:Pt (cZ g i) 0 [] (g.ks.length+1):=.eps zo (by
    have e1:=aE g;have e2:=cd g.knot g.ks.length (i+1);have e3:=aE (g.knot.mark g.ks.length (i+1));unfold cZ
    rw[dq zo,if_pos rfl];simp) (.nil _)
   have p2:=jR x (g.ks.length+1) g.ks.length (cZ g i) g1 zo zo hs.1 w hw;have p3:Pt (mn x i g) 0 w g.ks.length:=by
    show Pt (eU x (g.ks.length+1) g.ks.length (cZ g i)) 0 w g.ks.length;have:=(p1.mono (bU x (g.ks.length+1) g.ks.length (cZ g i) g1 zo zo).2).trans p2;simpa using this
   have a0:=h5.len;exact⟨g.ks.length,zo,p3.mono h5,by show(bM r (i+1) (mn x i g)).en _=_;rw[h6 _ zo,ql h h0,if_pos rfl]⟩
  |succ k=>
   rw[aI]at hw;obtain⟨q,q1,q2,q3⟩:=pG r (i+1) (mn x i g) h1 zo hs.2 k w (by simpa using hk) hw;exact⟨q,q1,q2,by show(bM r (i+1) (mn x i g)).en _=_;rw[q3];omega⟩
theorem nF(A:Nat->Prop):∀(xs:List Nd) (i:Nat) (g:Gr) (R:Nat->List Int->Prop),WF g->0<g.ks.length->Lbl g R->(∀k,k<g.ks.length->g.en k≠0->A (g.en k-1)->R k [])->(∀k w,k<xs.length->A (i+k)->Lg (nth xs k) w->R 0 w)->
  ∃R',(∀k,k<g.ks.length->R' k=R k)/\Lbl (bM xs i g) R'/\∀k,k<(bM xs i g).ks.length->(bM xs i g).en k≠0->A ((bM xs i g).en k-1)->R' k []
 |[],_,g,R,_,_,hL,hE,_=>⟨R,fun _ _=>rfl,hL,hE⟩
 |x::r,i,g,R,h,h0,hL,hE,hZ=>by
  obtain⟨h1,h2,h3⟩:=kP h h0 x i;obtain⟨g1,g2⟩:=eh h h0 i;have hl:=dD g i;have a0:∀q,q<g.ks.length->lU (lU R g.ks.length (fun w=>w=[]/\A i)) (g.ks.length+1) (fun w=>A i/\Lg x w) q=R q:=fun q hq=>by rw[cY zo,cY zo]
  have ho:lU (lU R g.ks.length (fun w=>w=[]/\A i)) (g.ks.length+1) (fun w=>A i/\Lg x w) g.ks.length=fun w=>w=[]/\A i:=by rw[cY zo,iU]
  have hi:=iU (lU R g.ks.length (fun w=>w=[]/\A i)) (g.ks.length+1) (fun w=>A i/\Lg x w);have e1:=aE g;have e2:=cd g.knot g.ks.length (i+1);have e3:=aE (g.knot.mark g.ks.length (i+1));have a5:Lbl (cZ g i) (lU (lU R g.ks.length (fun w=>w=[]/\A i)) (g.ks.length+1) (fun w=>A i/\Lg x w)):=by
   refine(((hL.agree h a0).knot.mark zo).knot).free zo fun w hw=>?_
   rw[hi]at hw;rw[a0 0 h0];exact hZ 0 w (by simp) hw.1 (by rw[ao];exact hw.2)
  generalize lU (lU R g.ks.length (fun w=>w=[]/\A i)) (g.ks.length+1) (fun w=>A i/\Lg x w)=R1 at *
  obtain⟨R2,f2,a4⟩:=gD x (g.ks.length+1) g.ks.length (cZ g i) R1 g1 zo zo a5 (fun u v hu hv=>by
   rw[ho]at hv;rw[hi];obtain⟨rfl,hv⟩:=hv
   exact⟨hv,by rw[Jp];exact hu⟩)
  obtain⟨R3,f3,a3,a6⟩:=nF A r (i+1) (mn x i g) R2 h1 zo a4 (fun k hk hn ha=>by
   rw[ql h h0]at hn ha
   by_cases a2:k=g.ks.length
   ·rw[if_pos a2]at ha;rw[a2,f2 _ zo,ho];exact⟨rfl,ha⟩
   ·rw[if_neg a2]at hn ha
    by_cases a1:k<g.ks.length
    ·rw[if_pos a1]at hn ha;rw[f2 _ zo,a0 k a1];exact hE k a1 hn ha
    rw[if_neg a1]at hn;exact absurd rfl hn) (fun k w hk ha hw=>by
   rw[f2 _ zo,a0 0 h0]
   exact hZ (k+1) w (by simpa using hk) (by rw[show i+(k+1)=i+1+k from by omega];exact ha) (by rw[aI];exact hw))
  exact⟨R3,fun q hq=>by rw[f3 q zo,f2 q zo,a0 q hq],a3,a6⟩
theorem vR{xs:List Nd}(hs:bI xs=true)(i:Nat)(w:List Int):(∃q,q<(jv xs).ks.length/\Pt (jv xs) 0 w q/\(jv xs).en q=i+1)↔i<xs.length/\Lg (nth xs i) w:=by
 constructor
 ·rintro⟨q,hq,hp,he⟩
  obtain⟨R,f,hL,hE⟩:=nF (fun k=>k=i) xs 0 g00 (fun _ w=>i<xs.length/\Lg (nth xs i) w) pf zd ⟨fun k j hk hj=>by
   have:k=0:=by simpa[g00]using hk
   subst this;simp[Gr.fr,g00,ao]at hj,fun k j hk hj=>by simp[g00]at hj⟩ (fun k hk hn=>by
   have:k=0:=by simpa[g00]using hk
   subst this;exact absurd (by simp[Gr.en,g00,ao]) hn) (fun k w hk ha hw=>by
   rw[J7]at ha;subst ha
   exact⟨hk,hw⟩)
  have h1:=hE q hq (by show(jv xs).en q≠0;omega) (by show(jv xs).en q-1=i;omega);have h2:=hL.path hp [] h1;rw[f 0 zd,Jp]at h2;exact h2
 rintro⟨hi,hw⟩;obtain⟨q,q1,q2,q3⟩:=pG xs 0 g00 pf zd hs i w hi hw;exact⟨q,q1,q2,by show(bM xs 0 g00).en q=_;rw[q3];omega⟩
def dC:List Nat->List Nat->List Nat
 |l,[]=>l
 |l,x::r=>dC (if l.contains x then l else l++[x]) r
def gp(g:Gr):Nat->Nat->List Nat->List Nat
 |0,_,l=>l
 |n+1,i,l=>if i<l.length then gp g n (i+1) (dC l (g.fr (nth l i)))else l
def eO(g:Gr)(k:Nat):List Nat:=gp g g.ks.length 0 [k]
theorem iB:∀(r l:List Nat),∃s,dC l r=l++s
 |[],l=>⟨[],by simp[dC]⟩
 |x::r,l=>by
  unfold dC
  split
  ·exact iB r l
  obtain⟨s,hs⟩:=iB r (l++[x]);exact⟨x::s,by rw[hs];simp⟩
theorem fE:∀(r l:List Nat) (y:Nat),y∈dC l r↔y∈l\/y∈r
 |[],l,y=>by simp[dC]
 |x::r,l,y=>by
  unfold dC;rw[fE r]
  split
  ·rename_i h;have hx:x∈l:=by simpa using h
   constructor
   ·rintro(h1|h1)
    ·exact .inl h1
    exact .inr (by simp[h1])
   rintro(h1|h1)
   ·exact .inl h1
   rcases Ly.1 h1 with rfl|h1
   ·exact .inl hx
   exact .inr h1
  simp[or_assoc]
theorem lK:∀(r l:List Nat),l.Nodup->(dC l r).Nodup
 |[],l,h=>h
 |x::r,l,h=>by
  unfold dC;refine lK r _ ?_
  split
  ·exact h
  rename_i hx;have hx:x∉l:=by simpa using hx
  exact L9.2 ⟨h,by simp,fun a ha b hb=>by rw[II.1 hb];intro e;exact hx (by rw[<-e];exact ha)⟩
theorem fO{n:Nat}{l:List Nat}(hn:l.Nodup)(h:∀x∈l,x<n):l.length<=n:=by
 have:=hn.length_le_of_subset (l₂:=Jr n) fun x hx=>Jt.2 (h x hx)
 simpa using this
structure Rc(g:Gr)(k i:Nat)(l:List Nat):Prop where
 nd:l.Nodup
 lt:∀x∈l,x<g.ks.length
 fst:k∈l
 pt:∀x∈l,Pt g k [] x
 cl:∀j,j<i->j<l.length->∀y∈g.fr (nth l j),y∈l
theorem qS{g:Gr}{k:Nat}(hk:k<g.ks.length):Rc g k 0 [k]:=⟨by simp,by simpa using hk,by simp,fun x hx=>by rw[II.1 hx];exact .nil _,fun j hj=>absurd hj (Km _)⟩
theorem Rc.step{g:Gr}(hw:WF g){k i:Nat}{l:List Nat}(h:Rc g k i l)(hi:i<l.length):Rc g k (i+1) (dC l (g.fr (nth l i))):=by
 have hm:=aJ hi;obtain⟨s,hs⟩:=iB (g.fr (nth l i)) l;refine⟨lK _ _ h.nd,fun x hx=>?_,(fE _ _ _).2 (.inl h.fst),fun x hx=>?_,fun j hj a1 y hy=>?_⟩
 ·rcases(fE _ _ _).1 hx with hx|hx
  ·exact h.lt x hx
  exact hw.fr _ _ (h.lt _ hm) hx
 ·rcases(fE _ _ _).1 hx with hx|hx
  ·exact h.pt x hx
  have:=(h.pt _ hm).trans (.eps (h.lt _ hm) hx (.nil x));simpa using this
 have a0:j<l.length:=zo;rw[hs,aA,if_pos a0]at hy;refine(fE _ _ _).2 ?_
 by_cases e:j=i
 ·subst e;exact .inr hy
 exact .inl (h.cl j zo a0 y hy)
theorem Rc.done{g:Gr}{k i:Nat}{l:List Nat}(h:Rc g k i l)(hi:l.length<=i)(q:Nat):q∈l↔Pt g k [] q:=by
 refine⟨h.pt q,fun p=>?_⟩;have a0:∀ {a:Nat} {w:List Int} {b:Nat},Pt g a w b->w=[]->a∈l->b∈l:=fun p=>by
  induction p with
  |nil=>exact fun _ h=>h
  |eps h1 h2 _ ih=>
   intro e ha;obtain⟨j,hj,rfl⟩:=cn ha;exact ih e (h.cl j zo hj _ h2)
  |leaf=>intro e;cases e
 exact a0 p rfl h.fst
theorem mR{g:Gr}(hw:WF g){k:Nat}:∀(n i:Nat) (l:List Nat),Rc g k i l->g.ks.length<=i+n->∀q,q∈gp g n i l↔Pt g k [] q
 |0,i,l,h,hn,q=>h.done (Je (fO h.nd h.lt) zo) q
 |n+1,i,l,h,hn,q=>by
  unfold gp
  split
  ·rename_i hi;exact mR hw n (i+1) _ (h.step hw hi) zo q
  rename_i hi;exact h.done zo q
theorem gn{g:Gr}(hw:WF g){k:Nat}(hk:k<g.ks.length)(q:Nat):q∈eO g k↔Pt g k [] q:=mR hw _ _ _ (qS hk) zo q
def Gr.pl(g:Gr)(p:Nat):Nat:=if p=0 then 0 else(nth g.ls (p-1)).2.2
def cB(g:Gr)(p:Nat):List Nat:=(eO g (g.pl p)).flatMap g.lv
def eR(g:Gr)(b k:Nat):Nat:=if g.en k=0 then b else b ||| 2^(g.en k-1)
def iV(g:Gr)(p:Nat):Nat:=(eO g (g.pl p)).foldl (eR g) 0
theorem og{g:Gr}(hw:WF g)(h0:0<g.ks.length){p:Nat}(hp:p<=g.ls.length):g.pl p<g.ks.length:=by
 unfold Gr.pl
 split
 ·exact h0
 exact hw.ls _ zo
theorem mo{g:Gr}(hw:WF g)(h0:0<g.ks.length){p:Nat}(hp:p<=g.ls.length)(j:Nat):j∈cB g p↔∃k,Pt g (g.pl p) [] k/\j∈g.lv k:=by
 unfold cB;rw[Lh]
 constructor
 ·rintro⟨k,hk,hj⟩;exact⟨k,(gn hw (og hw h0 hp) k).1 hk,hj⟩
 rintro⟨k,hk,hj⟩;exact⟨k,(gn hw (og hw h0 hp) k).2 hk,hj⟩
theorem rn(g:Gr)(i:Nat):∀(l:List Nat) (b:Nat),(l.foldl (eR g) b).testBit i=(b.testBit i||l.any fun k=>decide (g.en k=i+1))
 |[],b=>by simp
 |k::l,b=>by
  rw[JX,rn g i l,LA];unfold eR
  split
  ·rename_i h;rw[decide_eq_false zo,Kz]
  rename_i h;rw[Lx,Nat.testBit_two_pow,LJ];congr 2;exact decide_eq_decide.2 zo
theorem vC{g:Gr}(hw:WF g)(h0:0<g.ks.length){p:Nat}(hp:p<=g.ls.length)(i:Nat):(iV g p).testBit i=true↔∃k,Pt g (g.pl p) [] k/\g.en k=i+1:=by
 unfold iV;rw[rn,Lm,Kz,JQ]
 constructor
 ·rintro⟨k,hk,hj⟩;exact⟨k,(gn hw (og hw h0 hp) k).1 hk,of_decide_eq_true hj⟩
 rintro⟨k,hk,hj⟩;exact⟨k,(gn hw (og hw h0 hp) k).2 hk,decide_eq_true hj⟩
theorem BD{g:Gr}{a b:Nat}{w:List Int}{m:Int}:Pt g a (w++[m]) b↔∃k j,Pt g a w k/\k<g.ks.length/\j<g.ls.length/\j+1∈g.lv k/\bY (nth g.ls j).1 (nth g.ls j).2.1 m=true/\Pt g (nth g.ls j).2.2 [] b:=by
 constructor
 ·intro p;generalize hx:w++[m]=x at p
  induction p generalizing w with
  |nil=>simp at hx
  |eps h1 h2 _ ih=>
   obtain⟨k,j,q1,q⟩:=ih hx;exact⟨k,j,.eps h1 h2 q1,q⟩
  | @leaf k j q m' w' h1 h2 h3 h4 p ih=>
   cases w with
   |nil=>
    simp only[JW,JK]at hx;obtain⟨rfl,rfl⟩:=hx;exact⟨k,j,.nil _,h1,h2,h3,h4,p⟩
   |cons c w=>
    simp only[Jm,JK]at hx;obtain⟨rfl,hx⟩:=hx;obtain⟨k',j',q1,q⟩:=ih hx;exact⟨k',j',.leaf h1 h2 h3 h4 q1,q⟩
 rintro⟨k,j,p,h1,h2,h3,h4,q⟩;exact p.trans (.leaf h1 h2 h3 h4 q)
structure Stp(g:Gr)(se:Bool)(step:List Int->Int->List Int):Prop where
 mem:∀(s:List Int) (m x:Int),x∈step s m↔(se=true/\x=0)\/∃p∈s,∃j∈cB g p.toNat,x=(j:Int)/\bY (nth g.ls (j-1)).1 (nth g.ls (j-1)).2.1 m=true
def BJ(step:List Int->Int->List Int)(w:List Int):List Int:=w.foldl step [0]
theorem zP(step:List Int->Int->List Int)(w:List Int)(m:Int):BJ step (w++[m])=step (BJ step w) m:=by unfold BJ;rw[List.foldl_append];rfl
def inP(g:Gr)(s:List Int):Prop:=∀x∈s,0<=x/\x.toNat<=g.ls.length
theorem tL{g:Gr}(hw:WF g)(h0:0<g.ks.length){se:Bool}{step:List Int->Int->List Int}(h:Stp g se step){s:List Int}(hs:inP g s)(m:Int):inP g (step s m):=fun x hx=>by
 rcases(h.mem s m x).1 hx with⟨_,rfl⟩|⟨p,hp,j,hj,rfl,_⟩
 ·exact⟨KU _,J6 _⟩
 obtain⟨k,hk,a2⟩:=(mo hw h0 (hs p hp).2 j).1 hj;have a1:k<g.ks.length:=(gn hw (og hw h0 (hs p hp).2) k).2 hk |> fun hm=>by
  have a0:∀ {a:Nat} {w:List Int} {b:Nat},Pt g a w b->a<g.ks.length->b<g.ks.length:=fun p=>by
   induction p with
   |nil=>exact fun h=>h
   |eps h1 h2 _ ih=>exact fun _=>ih (hw.fr _ _ h1 h2)
   |leaf h1 h2 h3 h4 _ ih=>exact fun _=>ih (hw.ls _ h2)
  exact a0 hk (og hw h0 (hs p hp).2)
 have:=hw.lv k j a1 a2;exact⟨zo,by simp;omega⟩
theorem C2{g:Gr}(hw:WF g)(h0:0<g.ks.length){se:Bool}{step:List Int->Int->List Int}(h:Stp g se step)(w:List Int):inP g (BJ step w):=by
 have a0:∀(w s:List Int),inP g s->inP g (w.foldl step s):=fun w=>by
  induction w with
  |nil=>exact fun s hs=>hs
  |cons m w ih=>exact fun s hs=>ih _ (tL hw h0 h hs m)
 exact a0 w [0] fun x hx=>by rw[II.1 hx];exact⟨KU _,J6 _⟩
theorem Pt.lt{g:Gr}(hw:WF g){a b:Nat}{w:List Int}(p:Pt g a w b):a<g.ks.length->b<g.ks.length:=by
 induction p with
 |nil=>exact fun h=>h
 |eps h1 h2 _ ih=>exact fun _=>ih (hw.fr _ _ h1 h2)
 |leaf h1 h2 h3 h4 _ ih=>exact fun _=>ih (hw.ls _ h2)
def QP(g:Gr)(se:Bool)(w:List Int)(k:Nat):Prop:=∃u v,w=u++v/\(se=true\/u=[])/\Pt g 0 v k
theorem rP{g:Gr}(hw:WF g)(h0:0<g.ks.length){se:Bool}{step:List Int->Int->List Int}(h:Stp g se step):∀(n:Nat) (w:List Int),w.length=n->∀k,(∃p∈BJ step w,Pt g (g.pl p.toNat) [] k)↔QP g se w k
 |0,w,hn,k=>by
  obtain rfl:=IF hn
  constructor
  ·rintro⟨p,hp,q⟩;rw[show BJ step []=[0]from rfl,II]at hp;subst hp;exact⟨[],[],rfl,.inr rfl,q⟩
  rintro⟨u,v,e,_,q⟩;obtain⟨rfl,rfl⟩:=List.append_eq_nil_iff.1 e.symm;exact⟨0,by rw[show BJ step []=[0]from rfl];simp,q⟩
 |n+1,w,hn,k=>by
  obtain⟨w,m,rfl⟩:∃w' m,w=w'++[m]:=⟨w.dropLast,w.getLast (by intro e;rw[e]at hn;simp at hn),(List.dropLast_concat_getLast _).symm⟩
  have ih:=rP hw h0 h n w (by simpa using hn);have a3:=C2 hw h0 h w;rw[zP]
  constructor
  ·rintro⟨p,hp,q⟩
   rcases(h.mem _ m p).1 hp with⟨a2,rfl⟩|⟨p',a0,j,hj,rfl,ht⟩
   ·exact⟨w++[m],[],by simp,.inl a2,q⟩
   obtain⟨k',a1,a5⟩:=(mo hw h0 (a3 p' a0).2 j).1 hj;have a4:=a1.lt hw (og hw h0 (a3 p' a0).2);obtain⟨u,v,rfl,hu,hv⟩:=(ih k').1 ⟨p',a0,a1⟩;have a6:=hw.lv k' j a4 a5;refine⟨u,v++[m],by rw[J5],hu,BD.2 ⟨k',j-1,hv,a4,zo,by rw[show j-1+1=j from by omega];exact a5,ht,?_⟩⟩;have e:g.pl ((j:Int)).toNat=(nth g.ls (j-1)).2.2:=by unfold Gr.pl;rw[if_neg (by simp;omega)];simp
   rw[<-e];exact q
  rintro⟨u,v,e,hu,hv⟩
  rcases List.eq_nil_or_concat v with rfl|⟨v,m',rfl⟩
  ·have a2:se=true:=by
    rcases hu with hu|hu
    ·exact hu
    subst hu;simp at e
   exact⟨0,(h.mem _ m 0).2 (.inl ⟨a2,rfl⟩),hv⟩
  rw[List.concat_eq_append]at e hv;rw[<-J5]at e;obtain⟨rfl,e2⟩:=List.append_inj' e rfl;obtain rfl:m=m':=by simpa using e2
  obtain⟨k',j,p1,p2,p3,p4,p5,p6⟩:=BD.1 hv;obtain⟨p',a0,a1⟩:=(ih k').2 ⟨u,v,rfl,hu,p1⟩;refine⟨((j+1:Nat):Int),(h.mem _ m _).2 (.inr ⟨p',a0,j+1,(mo hw h0 (a3 p' a0).2 _).2 ⟨k',a1,p4⟩,rfl,by simpa using p5⟩),?_⟩;have e:g.pl (((j+1:Nat):Int)).toNat=(nth g.ls j).2.2:=by unfold Gr.pl;rw[if_neg (by simp)];simp
  rw[e];exact p6
def cX(g:Gr)(s:List Int):Nat:=s.foldl (fun b p=>b ||| iV g p.toNat) 0
theorem za(g:Gr)(i:Nat)(s:List Int):(cX g s).testBit i=s.any fun p=>(iV g p.toNat).testBit i:=by
 have a0:∀(s:List Int) (b:Nat),(s.foldl (fun b p=>b ||| iV g p.toNat) b).testBit i=(b.testBit i||s.any fun p=>(iV g p.toNat).testBit i):=fun s=>by
  induction s with
  |nil=>intro b;simp
  |cons p s ih=>intro b;rw[JX,ih,Lx,LA,LJ]
 unfold cX;rw[a0,Lm,Kz]
theorem xI{xs:List Nd}(hs:bI xs=true){se:Bool}{step:List Int->Int->List Int}(h:Stp (jv xs) se step)(w:List Int)(i:Nat):
  (cX (jv xs) (BJ step w)).testBit i=true↔i<xs.length/\∃u v,w=u++v/\(se=true\/u=[])/\Lg (nth xs i) v:=by
 obtain⟨hw,h0⟩:=Ai xs;have a0:=C2 hw h0 h w;have hk:=rP hw h0 h w.length w rfl;rw[za,JQ]
 constructor
 ·rintro⟨p,hp,hb⟩;obtain⟨k,a2,a1⟩:=(vC hw h0 (a0 p hp).2 i).1 hb;obtain⟨u,v,rfl,hu,hv⟩:=(hk k).1 ⟨p,hp,a2⟩;have:=(vR hs i v).1 ⟨k,hv.lt hw h0,hv,a1⟩;exact⟨this.1,u,v,rfl,hu,this.2⟩
 rintro⟨hi,u,v,rfl,hu,hv⟩;obtain⟨k,h1,h2,h3⟩:=(vR hs i v).2 ⟨hi,hv⟩;obtain⟨p,hp,hq⟩:=(hk k).2 ⟨u,v,rfl,hu,h2⟩;exact⟨p,hp,(vC hw h0 (a0 p hp).2 i).2 ⟨k,hq,h3⟩⟩
end
end Go.Proofs.YteolbhblkgjbhaaGreatDoor
section
namespace Go.Proofs
open Go.Proofs.Tryz
open Go.Shelf
def ma:Lj:=⟨fun|189=>113|125=>158|257=>157|128=>209|129=>210|294=>200|295=>201|296=>202|297=>203|298=>204|299=>205|216=>206|300=>207|301=>208|328=>246|329=>247|330=>248|331=>249|332=>250|215=>251|343=>263|n=>n,fun|28=>22|3=>3|46=>87|0=>0|51=>67|53=>24|4=>4|183=>305|182=>304|131=>143|5=>5|9=>9|218=>335|222=>338|228=>345|229=>262|n=>n,fun|n=>n⟩
theorem lQ:LO I8 ma:={
 mixed:=by kernel_rfl
 f125:=func158.trans (congrArg some (by kernel_rfl))
 f128:=func209.trans (congrArg some (by kernel_rfl))
 f129:=func210.trans (congrArg some (by kernel_rfl))
 f189:=func113.trans (congrArg some (by kernel_rfl))
 f215:=func251.trans (congrArg some (by kernel_rfl))
 f216:=func206.trans (congrArg some (by kernel_rfl))
 f257:=func157.trans (congrArg some (by kernel_rfl))
 f294:=func200.trans (congrArg some (by kernel_rfl))
 f295:=func201.trans (congrArg some (by kernel_rfl))
 f296:=func202.trans (congrArg some (by kernel_rfl))
 f297:=func203.trans (congrArg some (by kernel_rfl))
 f298:=func204.trans (congrArg some (by kernel_rfl))
 f299:=func205.trans (congrArg some (by kernel_rfl))
 f300:=func207.trans (congrArg some (by kernel_rfl))
 f301:=func208.trans (congrArg some (by kernel_rfl))
 f328:=func246.trans (congrArg some (by kernel_rfl))
 f329:=func247.trans (congrArg some (by kernel_rfl))
 f330:=func248.trans (congrArg some (by kernel_rfl))
 f331:=func249.trans (congrArg some (by kernel_rfl))
 f332:=func250.trans (congrArg some (by kernel_rfl))
 f343:=func263.trans (congrArg some (by kernel_rfl))
 t0:=Mm
 a0:=isAgg0
 z0:=sizeOf0
 v0:=Mt
 t3:=Ml
 a3:=Mv
 z3:=IZ
 v3:=Ms
 t4:=Mk
 a4:=Mu
 z4:=JR
 v4:=Mr
 t5:=underlying5
 a5:=isAgg5
 z5:=sizeOf5
 v5:=zeroValue5
 t9:=underlying9
 a9:=isAgg9
 z9:=L6
 v9:=zeroValue9
 t28:=L5
 a28:=Md
 z28:=Jn
 v28:=Mj
 t46:=underlying87
 a46:=isAgg87
 z46:=sizeOf87
 v46:=zeroValue87
 t51:=underlying67
 a51:=isAgg67
 z51:=sizeOf67
 v51:=zeroValue67
 t53:=underlying24
 a53:=isAgg24
 z53:=KE
 v53:=zeroValue24
 t131:=underlying143
 a131:=isAgg143
 z131:=sizeOf143
 v131:=zeroValue143
 t182:=underlying304
 a182:=isAgg304
 z182:=sizeOf304
 v182:=zeroValue304
 t183:=underlying305
 a183:=isAgg305
 z183:=sizeOf305
 v183:=zeroValue305
 t218:=underlying335
 a218:=isAgg335
 z218:=sizeOf335
 v218:=zeroValue335
 t222:=underlying338
 a222:=isAgg338
 z222:=sizeOf338
 v222:=zeroValue338
 t228:=underlying345
 a228:=isAgg345
 z228:=sizeOf345
 v228:=zeroValue345
 t229:=underlying262
 a229:=isAgg262
 z229:=sizeOf262
 v229:=zeroValue262 }
open Go.Sort Go.RowKit in
theorem Tryz.slices_Sort_int(blk off a1:Nat)(zs:List Int)(w:ln)(hH:Holds (Jq .i64) w blk off zs.toArray)(a0:blk<w.heap.size)(a2:zs.length<4611686018427387904):
 LP I8 113 #[.slice (some ⟨blk,off,none⟩) zs.length a1] w fun e w'=>
  e=.returned (.tuple #[])/\∃n os,w'=grow (putRow (Jq .i64) (KY w n) blk off (zs.mergeSort fun x y=>decide (x<=y)).toArray) os:=Any.slices_Sort_int lQ blk off a1 zs w hH a0 a2
def kB:Lj:=⟨fun|20=>114|n=>n,fun|22=>22|3=>3|4=>4|0=>0|n=>n,fun|n=>n⟩
theorem iS:LF I8 kB:={
 mixed:=by kernel_rfl
 f20:=func114.trans (congrArg some (by kernel_rfl))
 t0:=Mm
 a0:=isAgg0
 z0:=sizeOf0
 v0:=Mt
 t3:=Ml
 a3:=Mv
 z3:=IZ
 v3:=Ms
 t4:=Mk
 a4:=Mu
 z4:=JR
 v4:=Mr
 t22:=L5
 a22:=Md
 z22:=Jn
 v22:=Mj
 i3:=by kernel_rfl }
open Go.RowKit Go.Lib Go.Sort in
theorem Tryz.slices_Compact_int(blk off a0:Nat)(zs:List Int)(w:ln)(hH:Holds (Jq .i64) w blk off zs.toArray)(a2:zs.length<=9223372036854775807)(a1:zs.length<=a0):
 LP I8 114 #[.slice (some ⟨blk,off,none⟩) zs.length a0] w fun e w'=>e=.returned (.slice (some ⟨blk,off,none⟩) (Jl zs).length a0)/\∃q,w'=putRow (Jq .i64) (KY w q) blk off (Jl zs++JH (zs.length-(Jl zs).length) 0).toArray:=Any.slices_Compact_int iS blk off a0 zs w hH a2 a1
open Go.RowKit Go.Lib Go.Sort in
theorem Tryz.slices_Compact_int_empty(a:Option J2)(a0:Nat)(w:ln):
 LP I8 114 #[.slice a 0 a0] w fun e w'=>e=.returned (.slice a 0 a0)/\w'=w:=Any.slices_Compact_int_empty iS a a0 w
open Go.RowKit Go.Sort in
theorem Tryz.slices_Sort_int_none(p:Option J2)(a0:Nat)(w:ln):
 LP I8 113 #[.slice p 0 a0] w fun e w'=>e=.returned (.tuple #[])/\w'=w:=Any.slices_Sort_int_none lQ p a0 w
end Go.Proofs
end
namespace Go.Proofs.YteolbhblkgjbhaaGreatDoor
open Go.Proofs.Tryz
section
open Go.VL Go.Proofs
set_option maxRecDepth 10000
abbrev encI(c:Int):List ix:=[nI c]
abbrev aR(n:Nat):List ix:=[nI (n:Int)]
theorem Ff{w:ln}{v:ix}{l:List Nat}(h:Sl aR 1 w v l):Sl encI 1 w v (l.map fun(n:Nat)=>(n:Int)):=
 ⟨by simpa using h.shape,fun i hi j u hu=>h.cells i (by simpa using hi) j u (by simpa using hu)⟩
theorem yi(l:List Int)(c:Int)(sv:ix)(w:ln)(h:Sl encI 1 w sv l):Ret I8 266 [sv,nI c] w fun v w'=>v=nI (dA (fun i=>c==nth l i) l.length)/\w'=w:=by
 have hl:=h.len_le;refine Ret.enter func266 ntmps266 rfl rfl ?_;refine zh ?_;refine zlp (fun x:Nat=>[(0,sv),(1,nI c),(7,nI l.length),(8,nI x)]) (fun x=>w) (fun x=>x<=l.length/\∀i,i<x->(c==nth l i)=false) (fun x=>l.length-x) 0 (⟨J6 _,fun i hi=>absurd hi (Km i)⟩) ?_;rintro k ⟨hk,a1⟩;refine zh ?_;refine zC ?_ ?_
 ·intro a0;replace a0:k<l.length:=dT a0;have m1:=h.ld a0;refine zh ?_;refine zC ?_ ?_
  ·intro hy;refine zh ?_;refine ae rfl rfl (⟨by rw[ck (q:=fun i=>c==nth l i) a0 hy a1],rfl⟩)
  intro hy;refine zh ?_;refine zxd (k+1) (⟨a0,fun i hi=>(Nat.lt_succ_iff_lt_or_eq.1 hi).elim (a1 i) (fun e=>by rw[e];exact hy)⟩)
 intro a2;replace a2:l.length<=k:=dF a2;refine zh ?_;refine ae rfl rfl (⟨by rw[cg (q:=fun i=>c==nth l i) fun i hi=>a1 i zo],rfl⟩)
theorem qH(l:List Int)(c:Int)(sv:ix)(w:ln)(h:Sl encI 1 w sv l):Ret I8 255 [sv,nI c] w fun v w'=>v=.bool (decide (c∈l))/\w'=w:=by
 have he:iG (fun i=>c==nth l i) l.length=decide (c∈l):=by
  rw[gM (p:=fun x=>c==x),Lq];simp[JQ]
 refine Ret.enter func255 ntmps255 rfl rfl ?_;refine zh ?_
 refine zc call266 (yi l c sv w h) ?_;rintro v w9 ⟨rfl,a0⟩;rw[a0];clear a0 w9;refine zh ?_
 refine ae rfl rfl (⟨congrArg LQ (firstN_any.trans he),rfl⟩)
theorem qG(l:List Nat)(c:Nat)(sv:ix)(w:ln)(h:Sl aR 1 w sv l):Ret I8 255 [sv,nI (c:Nat)] w fun v w'=>v=.bool (l.contains c)/\w'=w:=by
 refine(qH _ c sv w (Ff h)).mono fun v w' ⟨h1,h2⟩=>⟨?_,h2⟩
 rw[h1];congr 1;rw[Lq];simp only[decide_eq_true_eq,JS,List.contains_iff_mem]
 constructor
 ·rintro⟨a,ha,e⟩;have e:a=c:=zo;rw[<-e];exact ha
 exact fun hc=>⟨c,hc,rfl⟩
end
section
open Go.VL Go.Proofs Go.Sort
set_option maxRecDepth 10000
def gj(l:List Int):List Int:=l.mergeSort fun x y=>decide (x<=y)
theorem dM(l:List Int):(gj l).length=l.length:=List.length_mergeSort ..
theorem jX(l:List Int):(l.flatMap encI)=l.map (Jq .i64):=by induction l<;>simp_all[encI]
theorem yW{O:Nat->Nat}{w:ln}{i g n:Nat}{os:Array Obj}(d:Array Int)(hi:i≠0)(ho:O g=i):Upd (fun k=>k=i) O w O (grow (putRow (Jq .i64) (KY w n) g 0 d) os):=by
 obtain⟨h1,h2,h3,h4,h5⟩:=grownBy_sortedI (w:=w) (g:=g) (n:=n) (os:=os) d;exact⟨h1,h2,h3,h4,fun k hk hn=>h5 k hk (fun e=>hn (by rw[<-ho];congr 1;exact LZ e)),fun _ _=>rfl,fun _ h=>.inl h,fun e=>hi e.symm⟩
theorem jz{B:Nat}{O:Nat->Nat}{i:Nat}{v:ix}{l:List Int}{w:ln}(hR:Rng B O w)(hr:RowT encI 3 1 O w i v l)(hi:i≠0)(hl:l.length<=1000000):Ret I8 113 [v] w fun _ w'=>RowT encI 3 1 O w' i v (gj l)/\Upd (fun k=>k=i) O w O w'/\Rng B O w':=by
 rcases hr.1.row.2 with⟨rfl,h0⟩|⟨g,a6,a8,rfl,a7,hg,a2,a5,a4,ht⟩
 ·obtain rfl:l=[]:=IF h0;refine IV (Tryz.slices_Sort_int_none none 0 w) fun e w' ⟨he,hw⟩=>?_
  subst he;subst hw;exact⟨by rw[IF (dM [])];exact hr,Upd.refl (fun e=>hi e.symm) _ _,hR⟩
 have a0:=hr.1.tag g rfl;rw[jX]at ht;have hH:=holds_of_blockI (ss:=l) hg (by simpa using ht);have a3:=bq hg;refine IV (Tryz.slices_Sort_int g 0 a6 l w hH a3 zo) fun e w' ⟨he,n,os,hw⟩=>?_
 subst he;subst hw;have hU:=yW (w:=w) (n:=n) (os:=os) (gj l).toArray hi a0;refine⟨⟨⟨?_,fun g' a1=>by simp[JF]at a1;subst a1;exact a0⟩,fun _ _=>rfl⟩,hU,hR.upd hU⟩;have:=ownsRow_sortedI (w:=w) (n:=n) (os:=os) (base:=0) (ss:=l) (ts:=gj l) (dM l) (J6 _) hg a2 a5 a4;rw[jX,dM];exact this
theorem yu(l:List Int):(Jl l).length<=l.length:=by
 unfold Jl Lib.compactUpTo;rw[List.length_map];exact Je (List.length_filter_le _ _) (by simp)
theorem eE{B:Nat}{O:Nat->Nat}{i:Nat}{v:ix}{l:List Int}{w:ln}(hR:Rng B O w)(hr:RowT encI 3 1 O w i v l)(hi:i≠0)(hl:l.length<=1000000):Ret I8 114 [v] w fun u w'=>RowT encI 3 1 O w' i u (Jl l)/\Upd (fun k=>k=i) O w O w'/\Rng B O w':=by
 rcases hr.1.row.2 with⟨rfl,h0⟩|⟨g,a4,a7,rfl,b0,hg,a5,a6,a',ht⟩
 ·obtain rfl:l=[]:=IF h0;refine IV (Tryz.slices_Compact_int_empty none 0 w) fun e w' ⟨he,hw⟩=>?_
  subst he;subst hw;exact⟨hr,Upd.refl (fun e=>hi e.symm) _ _,hR⟩
 have a0:=hr.1.tag g rfl;rw[jX]at ht;have hH:=holds_of_blockI (ss:=l) hg (by simpa using ht);have a9:=yu l;refine IV (Tryz.slices_Compact_int g 0 a4 l w hH zo a5) fun e w' ⟨he,n,hw⟩=>?_
 subst he;obtain⟨ts,a1⟩:∃ts,ts=Jl l++JH (l.length-(Jl l).length) 0:=⟨_,rfl⟩
 rw[<-a1]at hw;have a8:ts.length=l.length:=by rw[a1];simp;omega
 have hU:=yW (w:=w) (n:=n) (os:=#[]) ts.toArray hi a0;have a2:=heap_sortedI (n:=n) (os:=#[]) ts.toArray hg;rw[grow_empty,<-hw]at hU a2;refine⟨⟨⟨⟨by rw[jX];simp,.inr ⟨g,a4,_,rfl,J6 _,a2,zo,a6,by simp[putCells];omega,?_⟩⟩,fun g' a3=>by simp[JF]at a3;subst a3;exact a0⟩,fun _ _=>rfl⟩,hU,hR.upd hU⟩;have h1:=take_putCellsI a7 ts zo;have h2:=congrArg (Kg (Jl l).length) h1;rw[List.take_take,Ko zo]at h2;rw[jX,K4,h2,a1,Lo,List.take_append_of_le_length (by simp),List.take_of_length_le (by simp)]
end
end Go.Proofs.YteolbhblkgjbhaaGreatDoor
