/- Texts that the proof of this statement needs, merged and shortened. -/
import Derived.Test.YtlehnbkknlpkbaaGreatDoorQTableStates1
open Go.Proofs.Tryz renaming sizeOf83->ix,isAgg83->oD,zeroValue83->pc,prog->tp,underlying9->tR,underlying183->vO,sizeOf3->yP,underlying81->CY,sizeOf187->G6,underlying22->Jq,call180->Jr,call179->Js,call105->JH,zeroValue267->K6,call228->KI,call193->KJ,call168->KK,call106->KL,sizeOf267->KN,sizeOf243->KO,sizeOf81->L2,underlying267->L5,underlying182->L6,underlying168->L7,sizeOf9->Le,call181->Lh,call141->Li,call136->Lj,call104->Lk,call99->Lt
open Go renaming World->ln,Value->ox,TypeId->qy,MapEntry->tq,Program->uM,Operand->CZ,Oper->Gv,zeroValue->Jy,Exit->JX,Edge->Kb,Act->KH,Addr->KU,sizeOf->L3
open Nat renaming le_refl->ow,zero_le->sN,le_succ->vX,le_of_eq->A2,blt->B1,not_lt_zero->FJ,eq_of_beq_eq_true->Gb,sub_self->IP,beq->Jw,lt_succ_iff_lt_or_eq->JG,zero_mul->JK,pow_lt_pow_right->JU,lt_of_lt_of_le->K8,add_assoc->KM,zero_add->KP,sub_zero->KQ,add_comm->KR,one_mul->L0,add_mul->L1
open Go.VL.Upd renaming setRow->oz,set->th,refl->Bh,putObj->Fm,alloc->J9
open Go.Result renaming andThen_ok->oU
open Go.VL.Ret renaming enter->ps
open Go.Sem renaming run_bind->pN,run_pure->su,run->Gh
open Go.World renaming setRow->pR,setCell->rk,putObj_heap_other->uw,drew->DA,block_lt_of_cell?->JB,putObj_heap_same->JF,alloc_heap_new->JJ,size_alloc->K7,setCells->Kp,frozen?->Ky
open List renaming all_cons->pZ,getElem_append_left->rm,map_cons->rI,all_nil->rU,length_set->sx,eq_nil_of_length_eq_zero->sQ,getElem_append_right->uh,length_cons->uV,drop_of_length_le->uY,map_toArray->xK,length_reverse->yJ,length_append->yY,findIdx?_eq_some_iff_getElem->zf,map_nil->zI,eraseIdx_eq_take_drop_succ->Ae,replicate->C2,mem_singleton->C9,getElem?_eq_some_iff->CR,findIdx?_eq_none_iff->CX,getElem_cons_zero->DZ,length_singleton->FX,takeWhile_append_dropWhile->J0,suffix_refl->J6,getElem_mem->J7,map_append->Jo,drop_eq_getElem_cons->JA,map_take->JD,getElem?_eq_getElem->JE,mem_map->JI,eraseIdx_sublist->JL,dropWhile_suffix->JM,getElem_of_mem->JV,filter_eq_self->JW,range->K2,findIdx?_cons->K4,find?_eq_none->K5,nodup_append->K9,flatMap_cons->Ka,take_length->Ki,suffix_cons->Kj,cons_append->Kk,length_nil->Kr,length_map->Ku,find?_cons->Kv,append_nil->Kw,take_take->KC,map_drop->KF,length->KS,take->L4,map->Lc
open Go.VL.BlkO renaming setRow->qN,upd->ri,tag->rj,drew->AK,fgt->Ld
open Go.VL renaming Upd->rf,BlkO->vg,RowT->BJ,Ext->BW,Ret->Gc,Rng->Gi,MapO->GT,Elem->KG,KeyL->Lm,Free->Ln,Fits->Lo
open Go.VL.Ext renaming refl->sP
open Go.Value renaming oneCell'->tG,string->KE
open Classical renaming byContradiction->tJ
open Go.VL.WH renaming one->ug,done->Da
open Go.VL.WI renaming region->uu,seq->ze,skip->Jz,block->JZ,ret->Ke
open Bool renaming and_eq_true->yr,not_eq_true'->IJ,eq_false_iff->Kd,eq_iff_iff->Kx
open Go.VL.WC renaming region->zl,seq->Dd,still->DN,block->Lp,skip->Lv
open List.IsSuffix renaming trans->zR,length_le->Ib
open Array renaming getElem?_modify->As,getElem?_setIfInBounds->Ji,ext_getElem?->JY
open Go.VL.WL renaming nil->AW,val->JQ,push->Kq,step->Lu
open Go.VL.QF renaming dn->BG
open Go.Instr renaming keyThatStays->BV,entryStore->Db,findAsking->J1,mapEntry->Jt,checkKey->Ju,mapUpdate->Kl,findNow->KD
open Go.VL.WS renaming nil->Dc
open Go.Addr renaming add->De
open Go.Fence renaming wide->DH
open Go.VL.RV renaming move->Fo,indexAddr->Fu,assign->Jn,lss->Kg,load->KX,extract->L8,eql->L9,add->La
open List.cons renaming injEq->GY
open Go.Proofs.YtlehnbkknlpkbaaGreatDoor renaming oneM->GZ,layO->I4
open Go.Builtin renaming delete_->J2,append_->J3,firstCells->JP,clear_->Kc,lenOf->Ko,len_->Lz
open UInt8 renaming ofNat->J4
open Option renaming map_some->J5,map->JS,bind_some->K0,bind_none->K1
open Go.Ending.returned renaming inj->J8
open Int renaming le_refl->Jp
open Go.VL.RowT renaming nil->Jv,upd->JR,freeT->KV
open Go.Region renaming ready->JC
open Function renaming comp_def->JN
open Go.Extern.BytealgIndexByte renaming indexByte->JO
open Go.Proofs.YtlehnbkknlpkbaaGreatDoor.Nd renaming kids->JT,kind->KZ,cls->Lb
open Go.VL.Rng renaming upd->Kf
open Go.Op renaming equalIn->Kh,equal->Lq
open Go.VL.Fit renaming i64->Km
open Std.Legacy.Range renaming size->Kz,forIn_eq_forIn_range'->KA
open Prod renaming fst->KB
open Go.VL.Leave renaming mark->KT
open Go.RowKit.Below renaming heap_setCell->KW
open Go.Proofs.YtlehnbkknlpkbaaGreatDoor.Nt renaming leaf->KY
open Go.Oper renaming wp->Ll
open Go.Deferred renaming ofValue->Lr
open Go.Act renaming put->Ls
open Go.RoundIn renaming mono->Lw
open Prod.mk renaming injEq->Lx
open Go.CallsIn renaming mono->Ly
set_option maxRecDepth 10000
open Go.VL Go.Proofs Go.Proofs.Tryz
namespace Go.VL
section
open Go.ChangeMaps (setBlock)
section
variable{κ ν:Type}[DecidableEq κ]{kv:κ→ox}{vv:ν→ox}
def pQ:List (κ×ν)->κ->List (κ×ν)
 |[],_=>[]
 |(a,y)::r,k=>if a=k then r else(a,y)::pQ r k
theorem jf:∀(l:List (κ×ν)) (k:κ),pQ l k=match je l k with
  |some i=>l.eraseIdx i
  |none=>l
 |[],k=>rfl
 |(a,y)::r,k=>by
  simp only[pQ,je]
  by_cases h:a=k
  ·simp[h]
  simp only[if_neg h];rw[jf r k]
  cases je r k<;>simp
theorem map_eraseIdx{α β:Type}(f:α->β)(l:List α)(j:Nat):(l.eraseIdx j).map f=(l.map f).eraseIdx j:=by
 simp[Ae,JD,KF]
theorem fh{O:Nat->Nat}{w:ln}{i r:Nat}(o:Obj)(ht:O r=i)(a0:i≠0):rf (fun j=>j=i) O w O (setBlock w r o):=by
 refine⟨rfl,rfl,rfl,by simp[setBlock],fun b _ hn=>?_,fun _ _=>rfl,fun _ h=>.inl h,fun h=>a0 h.symm⟩;simp only[setBlock,Ji]
 rw[if_neg (fun e=>hn (by rw[<-e];exact ht))]
theorem eP{w:ln}{r:Nat}{o o':Obj}(h:w.heap[r]? = some o):(setBlock w r o').heap[r]? = some o':=by
 have:=bB h;simp[setBlock,this]
theorem pg{P:uM}{T K E ty U:qy}(hT:P.underlying T=some (.map K E))(hK:Lm P K kv){O:Nat->Nat}{w:ln}{i r:Nat}{l:List (κ×ν)}(h:GT kv vv O w i r l)(a8:i≠0)(k:κ):
  ∃w',(J2 #[T,U] ty #[.map (some r),kv k]).run P w=.ok (.tuple #[]) w'/\GT kv vv O w' i r (pQ l k)/\rf (fun j=>j=i) O w O w':=by
 obtain⟨es,c,h1,h2⟩:=h.blk;have a3:=h.born es c h1;have a6:es.toList.map (·.key)=(l.map (·.1)).map kv:=by
  have:=congrArg (Lc KB) h2;simpa[JN]using this
 have hf:=hK.find k es.toList (l.map (·.1)) w a6;rw[ey]at hf;have hc:=hK.check es.isEmpty 9998 k w;have hr:=bB h1;have a5:∀(a1:Array tq) (c':Nat),((a1.toList.map (·.born)).Nodup/\∀e∈a1.toList,e.born<c')->a1.toList.map (fun e=>(e.key,e.val))=(pQ l k).map (fun p=>(kv p.1,vv p.2))->
   GT kv vv O (setBlock w r (.map a1 c')) i r (pQ l k)/\rf (fun j=>j=i) O w O (setBlock w r (.map a1 c')):=fun a1 c' hb he=>
  ⟨⟨⟨a1,c',eP h1,he⟩,h.tag,fun a9 c2 h2=>by rw[eP h1]at h2;cases h2;exact hb⟩,fh _ h.tag a8⟩
 have a2:(J2 #[T,U] ty #[.map (some r),kv k]).run P w=((match ((je l k).bind fun i=>(es.toList[i]?).map fun e=>(i,e.val))with
   |some (i,_)=>do setObj r (.map (es.eraseIdxIfInBounds i) c);pure (.tuple #[])
   |none=>do setObj r (.map es c);pure (.tuple #[]):Sem ox)).run P w:=by
  simp only[J2,List.getElem?_toArray,List.getElem?_cons_zero,List.getElem?_cons_succ,pN,run_underlying hT,oU];simp only[getObj,Gh,h1,pN,oU,hc,hf];generalize ((je l k).bind fun i=>JS (fun e=>(i,e.val)) es.toList[i]?)=q
  cases q with
  |none=>rfl
  |some p=>rfl
 rw[a2,jf];have a0:∀a1,(do setObj r (.map a1 c);pure (.tuple #[]):Sem ox).run P w=.ok (.tuple #[]) (setBlock w r (.map a1 c)):=fun a1=>by
  simp[setObj,Gh,h1,setBlock]
 cases hi:je l k with
 |none=>
  refine⟨_,by simp only[K1];exact a0 es,?_⟩;have:=a5 es c a3 (by rw[jf,hi];exact h2);rw[jf,hi]at this;exact this
 |some j=>
  obtain⟨y,hy⟩:=iH hi;have a4:j<es.toList.length:=by
   have hl:=congrArg KS h2;simp only[Ku]at hl;have:=(CR.1 hy).1;omega
  refine⟨_,by simp only[K0,JE a4,J5];exact a0 _,?_⟩
  have a7:j<es.size:=by simpa using a4
  have e1:(es.eraseIdxIfInBounds j).toList=es.toList.eraseIdx j:=by
   simp[Array.eraseIdxIfInBounds,a7]
  have:=a5 (es.eraseIdxIfInBounds j) c ⟨by
    rw[e1,Ae,Jo,JD,KF];have hs:(L4 j (es.toList.map (·.born))++List.drop (j+1) (es.toList.map (·.born))).Sublist (es.toList.map (·.born)):=by
     rw[<-Ae];exact JL _ _
    exact hs.nodup a3.1,fun e he=>a3.2 e (by rw[e1]at he;exact(JL _ _).mem he)⟩ (by
   rw[jf,hi,e1];have h3:=congrArg (fun l=>l.eraseIdx j) h2
   rw[map_eraseIdx,map_eraseIdx];exact h3)
  rw[jf,hi]at this;exact this
structure RangeO(kv:κ->ox)(vv:ν->ox)(O:Nat->Nat)(w:ln)(i j r q:Nat)(left:List (κ×ν))(cur:Option (κ×ν)):Prop where
 ex:∃es clock seen c0,w.heap[r]? = some (.map es clock)/\w.heap[q]? = some (.mapIter (some r) clock seen c0)/\clock<=c0/\(es.toList.map (·.born)).Nodup/\(∀e∈es.toList,e.born<clock)/\
  (leftOf es seen).toList.map (fun e=>(e.key,e.val))=left.map (fun p=>(kv p.1,vv p.2))/\∀p,cur=some p->∃(e:tq) (s0:Array Nat),e∈es.toList/\seen=s0.push e.born/\c0=clock/\e.key=kv p.1/\e.val=vv p.2
 tag:O r=i
 tagq:O q=j
end
section
variable{κ ν:Type}{kv:κ→ox}{vv:ν→ox}
theorem RangeO.upd{S:Nat->Prop}{O O':Nat->Nat}{w w':ln}{i j r q:Nat}{left:List (κ×ν)}{a1:Option (κ×ν)}(h:RangeO kv vv O w i j r q left a1)(u:rf S O w O' w')(hi:i≠0)(hj:j≠0)(hS:¬S i)(a2:¬S j):RangeO kv vv O' w' i j r q left a1:=by
 obtain⟨es,c,a0,c0,h1,h2,h3⟩:=h.ex;have e1:=u.blk r (bB h1) (by rw[h.tag];exact hS);have e2:=u.blk q (bB h2) (by rw[h.tagq];exact a2);exact⟨⟨es,c,a0,c0,by rw[e1];exact h1,by rw[e2];exact h2,h3⟩,by rw[u.tag r (by rw[h.tag];exact hi),h.tag],by rw[u.tag q (by rw[h.tagq];exact hj),h.tagq]⟩
end
section
variable{κ ν:Type}[DecidableEq κ]{kv:κ→ox}{vv:ν→ox}
theorem xf{es:List tq}{e:tq}{a1 a0:List tq}(hn:(es.map (·.born)).Nodup)(p:tq->Bool)(h:es.filter p=a1++e::a0):es.filter (fun x=>p x && !(x.born==e.born))=a1++a0:=by
 have h1:es.filter (fun x=>p x && !(x.born==e.born))=(es.filter p).filter (fun x=>!(x.born==e.born)):=by
  rw[List.filter_filter];congr 1;funext x;exact Bool.and_comm _ _
 have a2:((a1++e::a0).map (·.born)).Nodup:=by rw[<-h];exact((List.filter_sublist (p:=p) (l:=es)).map _).nodup hn
 rw[h1,h,List.filter_append,List.filter_cons_of_neg (by simp)];simp only[Jo,rI]at a2;have hd:=K9.1 a2;congr 1
 ·refine JW.2 fun x hx=>?_
  have:=hd.2.2 x.born (JI.2 ⟨x,hx,rfl⟩) e.born (by simp);simpa using this
 refine JW.2 fun x hx=>?_
 have:=(List.nodup_cons.1 hd.2.1).1;simp only[IJ,beq_eq_false_iff_ne,ne_eq];intro hc;exact this (by rw[<-hc];exact JI.2 ⟨x,hx,rfl⟩)
theorem Bl{α β γ:Type}{f:α->γ}{g:β->γ}:∀ {l:List α} {m:List β} {a0 a1:List α} {e:α},l.map f=m.map g->l=a0++e::a1->∃pre' x suf',m=pre'++x::suf'/\f e=g x/\(a0++a1).map f=(pre'++suf').map g:=by
 intro l m a0
 induction a0 generalizing l m with
 |nil=>
  intro a1 e h hl;subst hl
  cases m with
  |nil=>simp at h
  |cons x m=>
   simp only[List.nil_append,rI,GY]at h;exact⟨[],x,m,rfl,h.1,h.2⟩
 |cons a a0 ih=>
  intro a1 e h hl;subst hl
  cases m with
  |nil=>simp at h
  |cons x m=>
   simp only[Kk,rI,GY]at h;obtain⟨p,y,s,rfl,h1,h2⟩:=ih h.2 rfl;exact⟨x::p,y,s,rfl,h1,by simp only[Kk,rI,h.1,h2]⟩
end
section
variable{κ ν:Type}[DecidableEq κ]{kv:κ→ox}{vv:ν→ox}
variable{P:uM}{N:Nat}{ops:Array Gv}{Q:JX→KH→ln→Prop}{rest:List Gv}{st:St}{w:ln}
variable{t:qy}{p:String}{e:Array Kb}{d:Nat}{x y z:CZ}
theorem WL.delete{T K E U:qy}{O:Nat->Nat}{i r:Nat}{l:List (κ×ν)}(hm:GT kv vv O w i r l)(hT:P.underlying T=some (.map K E))(hK:Lm P K kv)(a1:i≠0) 
  (k:κ) {kx:ox} (hx:ev st x=some (.map (some r))) (hy:ev st y=some kx) (hk:kx=kv k)
  (h:∀w',GT kv vv O w' i r (pQ l k)->rf (fun j=>j=i) O w O w'->WL P N ops Q rest st w'):WL P N ops Q (⟨none,.call ⟨.builtin .delete,#[x,y],#[T,U]⟩,t,p,e,none⟩::rest) st w:=by
 subst hk;obtain⟨w',h1,h2,h3⟩:=pg (ty:=t) (U:=U) hT hK hm a1 k;refine Lu rfl fun a ha=>?_
 unfold Ll;have a0:(execOp a.eval ⟨none,.call ⟨.builtin .delete,#[x,y],#[T,U]⟩,t,p,e,none⟩).run P w=.ok (.value (.tuple #[])) w':=by
  simp only[execOp,resolve,invoke,builtin,pN,su,oU,xK,rI,zI,ha.ev hx,ha.ev hy,h1]
 rw[a0];exact h w' h2 h3 _ ha
end
section
variable{κ ν:Type}{kv:κ→ox}{vv:ν→ox}
variable{P:uM}{N:Nat}{ops:Array Gv}{Q:JX→KH→ln→Prop}{rest:List Gv}{st:St}{w:ln}
variable{t:qy}{p:String}{e:Array Kb}{d:Nat}{x y z:CZ}
theorem oT{T K E:qy}{B:Nat}{O:Nat->Nat}{i r:Nat}{l:List (κ×ν)}(hm:GT kv vv O w i r l)(hT:P.underlying T=some (.map K E))(hR:Gi B O w)(j:Nat)(hj:j≠0)(_:i≠0)(hx:ev st x=some (.map (some r)))(hd:B1 d N=true) 
  (h:∀q w' O',RangeO kv vv O' w' i j r q l none->GT kv vv O' w' i r l->rf (fun k=>k=j) O w O' w'->Gi B O' w'->WL P N ops Q rest ((d,nP q)::st) w'):WL P N ops Q (⟨some d,.range T x,t,p,e,none⟩::rest) st w:=by
 obtain⟨es,c,h1,h2⟩:=hm.blk;have a1:=hm.born es c h1;have a0:=bB h1;have hU:=J9 (S:=fun k=>k=j) (fun e=>hj e.symm) hR (.mapIter (some r) c #[] c) j;refine JQ hd (fun a ha=>by simp only[execOp,ha.ev hx,pN,run_range_map w _ _ _ _ _ _ hT h1,oU,su]) (h w.heap.size _ (lJ O w.heap.size j) ⟨⟨es,c,#[],c,?_,heap_alloc_new w _,ow _,a1.1,a1.2,?_,fun p hp=>by cases hp⟩,?_,eB _ _ _⟩ ⟨⟨es,c,?_,h2⟩,?_,fun a2 c' h'=>hm.born a2 c' (by rw[heap_alloc_old w _ a0]at h';exact h')⟩ hU (hR.upd hU))
 ·rw[heap_alloc_old w _ a0];exact h1
 ·unfold leftOf;have e1:es.filter (fun e=>!(#[]:Array Nat).contains e.born)=es:=Array.filter_eq_self.2 (by simp);rw[e1];exact h2
 ·unfold lJ;rw[if_neg zo];exact hm.tag
 ·rw[heap_alloc_old w _ a0];exact h1
 unfold lJ;rw[if_neg zo];exact hm.tag
theorem qJ{O:Nat->Nat}{i j r q:Nat}{left:List (κ×ν)}{b4:Option (κ×ν)}(hm:RangeO kv vv O w i j r q left b4)(b2:j≠0)(b3:i≠j)(hx:ev st x=some (nP q))(hd:B1 d N=true) 
  (h0:left=[]->WL P N ops Q rest ((d,.tuple #[.bool false])::st) w)
  (h1:∀a' a b a8 w',left=a'++(a,b)::a8->RangeO kv vv O w' i j r q (a'++a8) (some (a,b))->rf (fun k=>k=j) O w O w'->WL P N ops Q rest ((d,.tuple #[.bool true,kv a,vv b])::st) w'):WL P N ops Q (⟨some d,.next x false,t,p,e,none⟩::rest) st w:=by
 obtain⟨es,c,a0,c0,g1,g2,g3,g4,g5,g6,g7⟩:=hm.ex
 rcases Go.run_next_at (P:=P) w t q r c c0 a0 es c g2 g1 g5 g3 with⟨hs,a2⟩|⟨en,b0,w1,a5,a2⟩
 ·refine JQ hd (fun a ha=>by simp only[execOp,ha.ev hx,pN,a2,oU,su]) (h0 ?_);have h3:=congrArg KS g6;simp only[Ku,Array.length_toList,hs]at h3;exact sQ h3.symm
 obtain⟨a',a8,a6⟩:=List.append_of_mem b0;obtain⟨a9,⟨a,b⟩,a7,rfl,a4,a3⟩:=Bl g6 a6;simp only[Lx]at a4;have a1:∀(a:KH),Lo N a st->(execOp a.eval ⟨some d,.next x false,t,p,e,none⟩).run P w=.ok (.value (.tuple #[.bool true,en.key,en.val])) (setBlock w1 q (.mapIter (some r) c (a0.push en.born) c)):=fun a ha=>by
  simp only[execOp,ha.ev hx,pN,a2,oU,su]
 rw[a4.1,a4.2]at a1;have hw:w1.heap=w.heap:=by rcases a5 with rfl|rfl<;>rfl
 have b1:en∈es.toList:=by
  have:en∈(leftOf es a0):=by simpa using b0
  unfold leftOf at this;rw[Array.mem_filter]at this;simpa using this.1
 refine JQ hd a1 (h1 a9 a b a7 _ rfl ⟨⟨es,c,a0.push en.born,c,?_,eP (by rw[hw];exact g2),ow _,g4,g5,?_,fun p hp=>?_⟩,hm.tag,hm.tagq⟩ ?_)
 ·simp only[setBlock,Ji];rw[if_neg (fun e=>b3 (by rw[<-hm.tag,<-hm.tagq,e])),hw];exact g1
 ·rw[<-a3];unfold leftOf at a6 ⊢;rw[Array.toList_filter]at a6 ⊢;rw[<-xf g4 _ a6];congr 2;funext x;simp;rfl
 ·cases hp
  exact⟨en,a0,b1,rfl,rfl,a4.1,a4.2⟩
 have hU:=fh (w:=w1) (.mapIter (some r) c (a0.push en.born) c) hm.tagq b2;exact⟨by rw[hU.os];rcases a5 with rfl|rfl<;>rfl,by rw[hU.tape];rcases a5 with rfl|rfl<;>rfl,by rw[hU.output];rcases a5 with rfl|rfl<;>rfl,by have:=hU.size;rw[hw]at this;exact this,fun b hb hn=>by have:=hU.blk b (by rw[hw];exact hb) hn;rw[hw]at this;exact this,hU.tag,fun b hb=>.inl hb,hU.z⟩
theorem RV.entry{O:Nat->Nat}{i j r q:Nat}{left:List (κ×ν)}{a:κ}{b:ν}(hm:RangeO kv vv O w i j r q left (some (a,b)))(hx:ev st x=some (nP q)):RV P N (.entry x) t st w (.tuple #[kv a,vv b]):=
 fun ac ha a1 p e g=>by
  obtain⟨es,c,a0,c0,g1,g2,g3,g4,g5,g6,g7⟩:=hm.ex;obtain⟨en,s0,e1,rfl,rfl,e2,e3⟩:=g7 _ rfl;simp only[execOp,ha.ev hx,pN,run_entry_at w q r c0 s0 es c0 en g2 g1 e1 g4,oU,su,e2,e3]
end
abbrev et(p:Int×Int):ox:=.agg #[nI p.1,nI p.2]
theorem CA{P:uM}{K I:qy}(hK:P.underlying K=some (.array 2 I))(hI:P.underlying I=some (.int .i64))(a3:(P.info? I).isSome=true)(hc:P.cellsOf I=1):Lm P K et:=by
 obtain⟨i,hi⟩:=Option.isSome_iff_exists.1 a3;have hA:∀w,(isAgg I).run P w=.ok false w:=fun w=>by simp[isAgg,run_underlying hI]
 have a0:∀(a b:Int) (w:ln),(part I #[nI a,nI b] 0).run P w=.ok (nI a) w/\(part I #[nI a,nI b] 1).run P w=.ok (nI b) w:=fun a b w=>by
  constructor<;>simp[part,hA]
 have a5:∀b n k (w:ln),(Ju b (n+1) I (nI k)).run P w=.ok () w:=fun b n k w=>by simp[Ju,run_underlying hI]
 have a4:∀(a b:Int×Int) (w:ln),(Lq K (et a) (et b)).run P w=.ok (decide (a=b)) w:=fun a b w=>by
  have h1:∀d (x y:Int) (w:ln),(Kh (d+1) I (nI x) (nI y)).run P w=.ok (x==y) w:=fun d x y w=>by simp[Kh,run_underlying hI]
  obtain⟨a1,a2⟩:=a;obtain⟨b1,b2⟩:=b;have h2:∀(x y:Int) (w:ln),(Kh 9999 I (nI x) (nI y)).run P w=.ok (x==y) w:=fun x y w=>h1 9998 x y w
  unfold Lq Op.maxDepth;rw[run_equalIn_array w 9999 _ _ hK hi,hc];simp only[show K2 2=[0,1]from rfl,Op.eqItems,pN,JK,L0,(a0 a1 a2 w).1,(a0 b1 b2 w).1,h2,oU]
  by_cases e1:a1=b1
  ·by_cases e2:a2=b2
   ·subst e1;subst e2;simp[a0,h2]
   subst e1;simp[e2,a0,h2]
  simp[e1]
 refine⟨fun b n k w=>?_,fun k es ks w h=>?_,fun k=>?_⟩
 ·obtain⟨k1,k2⟩:=k;unfold Ju;simp only[pN,run_underlying hK,oU];simp only[KA,Kz,KQ,Nat.add_one_sub_one,Nat.div_one];simp[List.range',run_sizeOf w hi,hc,a0,a5]
 ·have key:∀(es:List tq) (ks:List (Int×Int)) (j:Nat) (w:ln),es.map (·.key)=ks.map et->
    (J1 K (et k) es j).run P w=.ok ((ks.findIdx? (· = k)).bind fun i=>(es[i]?).map fun e=>(j+i,e.val)) w:=by
   intro es
   induction es with
   |nil=>intro ks j w h;cases ks with
    |nil=>simp[J1]
    |cons a r=>simp at h
   |cons e es ih=>
    intro ks j w h
    cases ks with
    |nil=>simp at h
    |cons a r=>
     simp only[rI,GY]at h;simp only[J1,pN,h.1,a4,oU]
     by_cases hk:k=a
     ·subst hk;simp[K4]
     rw[decide_eq_false hk];simp only[Bool.false_eq_true,if_false];rw[ih r (j+1) w h.2];simp only[K4,decide_eq_true_eq];rw[if_neg (fun e=>hk e.symm)]
     cases hf:List.findIdx? (fun x=>decide (x=k)) r with
     |none=>simp
     |some i=>simp[KM,KR 1]
  have:=key es ks 0 w h;simp only[KP]at this;unfold Instr.findKey;simp only[pN,run_underlying hK,oU]
  cases es with
  |nil=>
   cases ks with
   |nil=>simp[KD]
   |cons a r=>simp at h
  |cons e es=>simpa[KD,Instr.sameNow]using this
 simp[Instr.sameBits]
section
variable{κ ν:Type}[DecidableEq κ]{kv:κ→ox}{vv:ν→ox}
theorem tH(es:Array tq)(i:Nat)(f g h:tq->tq)(hf:∀x,g (f x)=h x):(es.modify i f).modify i g=es.modify i h:=by
 apply JY;intro j;simp only[As]
 by_cases hj:i=j
 ·simp only[if_pos hj];cases es[j]?<;>simp[hf]
 simp only[if_neg hj]
theorem vA(es:Array tq)(a:tq)(f:tq->tq):(es.push a).modify es.size f=es.push (f a):=by
 apply JY;intro j;simp only[As,Array.getElem?_push]
 by_cases hj:j=es.size
 ·subst hj;simp
 rw[if_neg (fun e=>hj e.symm),if_neg hj,if_neg hj]
theorem mz{es:List tq}{j:Nat}{e:tq}(hn:(es.map (·.born)).Nodup)(he:es[j]? = some e):es.findIdx? (fun x=>(x.born:Int)==(e.born:Int))=some j:=by
 obtain⟨hj,rfl⟩:=CR.1 he;rw[zf];refine⟨hj,by simp,fun i hi=>?_⟩;have:=(List.pairwise_iff_getElem.1 hn) i j (by simp;omega) (by simpa using hj) hi;simp only[List.getElem_map]at this;simp;omega
theorem yW{P:uM}{T K E:qy}(hT:P.underlying T=some (.map K E))(hK:Lm P K kv){O:Nat->Nat}{w:ln}{i r:Nat}{l:List (κ×ν)}(h:GT kv vv O w i r l)(a7:i≠0){z:ox}(hz:(Jy E).run P w=.ok z w)(k:κ)(x:ν):
  ∃(w1 w':ln) (v:ox) (b:Int),(Jt T (.map (some r)) (kv k)).run P w=.ok (.tuple #[v,nI b]) w1/\(Db T (.map (some r)) (nI b) (vv x)).run P w1=.ok () w'/\GT kv vv O w' i r (cJ l k x)/\rf (fun j=>j=i) O w O w'/\rf (fun j=>j=i) O w O w1:=by
 obtain⟨es,c,h1,h2⟩:=h.blk;have a9:=h.born es c h1;have hr:=bB h1;have b4:es.toList.map (·.key)=(l.map (·.1)).map kv:=by
  have:=congrArg (Lc KB) h2;simpa[JN]using this
 have hf:=hK.find k es.toList (l.map (·.1)) w b4;rw[ey]at hf;have hc:=hK.check false 9998 k w;obtain⟨wm,a3,hm,hu⟩:=dV hT hK h a7 k x
 have a1:(Kl T (.map (some r)) (kv k) (vv x)).run P w=((match ((je l k).bind fun i=>(es.toList[i]?).map fun e=>(i,e.val))with
   |some (i,_)=>do
    let key <-BV (((es[i]?).map (·.key)).getD (kv k)) (kv k)
    setObj r (.map (es.modify i fun e=>{ e with key,val:=vv x }) c)
   |none=>setObj r (.map (es.push { key:=kv k,val:=vv x,born:=c }) (c+1)):Sem Unit)).run P w:=by
  simp only[Kl,pN,run_underlying hT,oU];simp only[getObj,Gh,h1,pN,oU,hc,hf];generalize ((je l k).bind fun i=>JS (fun e=>(i,e.val)) es.toList[i]?)=q
  cases q with
  |none=>rfl
  |some p=>rfl
 have a0:(Jt T (.map (some r)) (kv k)).run P w=((match ((je l k).bind fun i=>(es.toList[i]?).map fun e=>(i,e.val))with
   |some (i,v)=>do
    let key <-BV (((es[i]?).map (·.key)).getD (kv k)) (kv k)
    setObj r (.map (es.modify i fun e=>{ e with key }) c)
    pure (.tuple #[v,goInt (((es[i]?).map (·.born)).getD 0)])
   |none=>do
    let zero <-Jy E
    setObj r (.map (es.push { key:=kv k,val:=zero,born:=c }) (c+1))
    pure (.tuple #[zero,goInt c]):Sem ox)).run P w:=by
  simp only[Jt,pN,run_underlying hT,oU];simp only[getObj,Gh,h1,pN,oU,hc,hf];generalize ((je l k).bind fun i=>JS (fun e=>(i,e.val)) es.toList[i]?)=q
  cases q with
  |none=>rfl
  |some p=>rfl
 have a2:∀(a':Array tq) (c':Nat) (w0:ln),(∃e0 k0,w0.heap[r]? = some (.map e0 k0))->(setObj r (.map a' c')).run P w0=.ok () (setBlock w0 r (.map a' c')):=fun a' c' w0 h0=>by
  obtain⟨e0,k0,hq⟩:=h0;simp[setObj,Gh,hq,setBlock]
 have a6:∃e0 k0,w.heap[r]? = some (.map e0 k0):=⟨es,c,h1⟩
 have b0:∀(a:Array tq) (q:tq->Bool),a.findIdx? q=a.toList.findIdx? q:=fun a q=>by cases a;simp
 have a4:∀o o',setBlock (setBlock w r o) r o'=setBlock w r o':=fun o o'=>by simp[setBlock]
 cases hi:je l k with
 |none=>
  rw[hi]at a1 a0;simp only[K1]at a1 a0;rw[a2 _ _ _ a6]at a1;simp only[pN,hz,oU,a2 _ _ _ a6,su]at a0;have he:wm=setBlock w r (.map (es.push { key:=kv k,val:=vv x,born:=c }) (c+1)):=by rw[a1]at a3;cases a3;rfl
  refine⟨_,wm,z,c,a0,?_,hm,hu,fh _ h.tag a7⟩;have a5:(setBlock w r (.map (es.push { key:=kv k,val:=z,born:=c }) (c+1))).heap[r]? = some (.map (es.push { key:=kv k,val:=z,born:=c }) (c+1)):=eP h1;have a8:(es.push { key:=kv k,val:=z,born:=c }).findIdx? (fun e=>(e.born:Int)==(c:Int))=some es.size:=by
   have b5:((es.push { key:=kv k,val:=z,born:=c }).toList.map (·.born)).Nodup:=by
    simp only[Array.toList_push,Jo,rI,zI];refine K9.2 ⟨a9.1,by simp,fun a ha b hb=>?_⟩;obtain⟨e,he,rfl⟩:=JI.1 ha;have:=a9.2 e he;simp at hb;omega
   have:=mz (j:=es.size) (e:={ key:=kv k,val:=z,born:=c }) b5 (by simp);rw[b0,<-this]
  simp only[Db,getObj,Gh,pN,a5,oU,asInt,asIntOf,su,a8];rw[vA,he];have:=a2 (es.push { key:=kv k,val:=vv x,born:=c }) (c+1) (setBlock w r (.map (es.push { key:=kv k,val:=z,born:=c }) (c+1))) ⟨_,_,a5⟩;rw[a4]at this;exact this
 |some j=>
  obtain⟨y,hy⟩:=iH hi;have hj:es.toList[j]?.map (fun e=>(e.key,e.val))=some (kv k,vv y):=by
   have:=congrArg (fun l=>l[j]?) h2;simpa[hy]using this
  cases he:es.toList[j]? with
  |none=>rw[he]at hj;simp at hj
  |some e'=>
   rw[he]at hj;simp at hj;have b1:es[j]? = some e':=by simpa using he
   have b2:(BV (kv k) (kv k))=pure (kv k):=by simp[BV,hK.same k]
   rw[hi]at a1 a0;simp only[K0,he,J5,b1,hj.1,Option.getD_some,b2,pN,su,oU,a2 _ _ _ a6]at a1 a0;have hw:wm=setBlock w r (.map (es.modify j fun e=>{ e with key:=kv k,val:=vv x }) c):=by rw[a1]at a3;cases a3;rfl
   refine⟨_,wm,e'.val,e'.born,a0,?_,hm,hu,fh _ h.tag a7⟩;have a5:(setBlock w r (.map (es.modify j fun e=>{ e with key:=kv k }) c)).heap[r]? = some (.map (es.modify j fun e=>{ e with key:=kv k }) c):=eP h1;have b3:((es.modify j fun e=>{ e with key:=kv k }).toList.map (·.born))=es.toList.map (·.born):=by
    simp only[Array.toList_modify];apply List.ext_getElem?;intro m;simp only[List.getElem?_map,List.getElem?_modify]
    split
    ·cases es.toList[m]?<;>simp
    cases es.toList[m]?<;>simp
   have a8:(es.modify j fun e=>{ e with key:=kv k }).findIdx? (fun e=>(e.born:Int)==(e'.born:Int))=some j:=by
    have:=mz (es:=(es.modify j fun e=>{ e with key:=kv k }).toList) (j:=j) (e:={ e' with key:=kv k }) (by rw[b3];exact a9.1) (by
     have:(es.modify j fun e=>{ e with key:=kv k })[j]? = some { e' with key:=kv k }:=by
      rw[As,if_pos rfl,b1];rfl
     rw[Array.getElem?_toList];exact this)
    rw[b0,<-this]
   simp only[Db,getObj,Gh,pN,a5,oU,asInt,asIntOf,su,a8];rw[tH es j _ _ (fun e=>{ e with key:=kv k,val:=vv x }) (fun _=>rfl),hw];have:=a2 (es.modify j fun e=>{ e with key:=kv k,val:=vv x }) c (setBlock w r (.map (es.modify j fun e=>{ e with key:=kv k }) c)) ⟨_,_,a5⟩;rw[a4]at this;exact this
variable{P:uM}{N:Nat}{ops:Array Gv}{Q:JX→KH→ln→Prop}{rest:List Gv}{st:St}{w:ln}
variable{t t' t2:qy}{p p' p2:String}{e e' e2:Array Kb}{d d':Nat}{x y z:CZ}
end
def Ja{κ ν:Type}[DecidableEq κ](P:uM)(kv:κ->ox)(vv:ν->ox)(T:qy)(O:Nat->Nat)(w w1:ln)(i r:Nat)(l:List (κ×ν))(k:κ)(u:ν)(b:Int):Prop:=
 ∃w',(Db T (.map (some r)) (nI b) (vv u)).run P w1=.ok () w'/\GT kv vv O w' i r (cJ l k u)/\rf (fun j=>j=i) O w O w'
section
variable{κ ν:Type}[DecidableEq κ]{kv:κ→ox}{vv:ν→ox}
variable{P:uM}{N:Nat}{ops:Array Gv}{Q:JX→KH→ln→Prop}{rest:List Gv}{st:St}{w:ln}
variable{t:qy}{p:String}{e:Array Kb}{d:Nat}{x y z:CZ}
theorem mH{T K E:qy}{O:Nat->Nat}{i r:Nat}{l:List (κ×ν)}(hm:GT kv vv O w i r l)(hT:P.underlying T=some (.map K E))(hK:Lm P K kv)(a0:i≠0){zv:ox}(hz:(Jy E).run P w=.ok zv w) 
  (k:κ) (u:ν) {kx:ox} (hx:ev st x=some (.map (some r))) (hy:ev st y=some kx) (hk:kx=kv k) (hd:B1 d N=true)
  (h:∀w1 c b,Ja P kv vv T O w w1 i r l k u b->rf (fun j=>j=i) O w O w1->WL P N ops Q rest ((d,.tuple #[c,nI b])::st) w1):WL P N ops Q (⟨some d,.mapEntry T x y,t,p,e,none⟩::rest) st w:=by
 subst hk;obtain⟨w1,w',v,b,h1,h2,h3,h4,h5⟩:=yW hT hK hm a0 hz k u;exact JQ hd (fun a ha=>by simp only[execOp,ha.ev hx,ha.ev hy,pN,h1,oU,su]) (h w1 v b ⟨w',h2,h3,h4⟩ h5)
theorem jy{T:qy}{O:Nat->Nat}{i r:Nat}{l:List (κ×ν)}{w0:ln}{k:κ}{u:ν}{b:Int}(hE:Ja P kv vv T O w0 w i r l k u b){ux:ox}(hx:ev st x=some (.map (some r)))(hy:ev st y=some (nI b))(hz:ev st z=some ux)(hu:ux=vv u) 
  (h:∀w',GT kv vv O w' i r (cJ l k u)->rf (fun j=>j=i) O w0 O w'->WL P N ops Q rest st w'):WL P N ops Q (⟨none,.entryStore T x y z,t,p,e,none⟩::rest) st w:=by
 subst hu;obtain⟨w',h2,h3,h4⟩:=hE;exact iI (fun a ha=>by simp only[execOp,ha.ev hx,ha.ev hy,ha.ev hz,pN,h2,oU,su]) (h w' h3 h4)
end
theorem rY{α:Type}{enc:α->List ox}{sz:Nat}:∀(l:List α),(∀x∈l,(enc x).length=sz)->∀(n:Nat) (hn:n<l.length) (j:Nat),j<sz->∀(x':α) (u:ox),enc x'=(enc l[n]).set j u->(l.flatMap enc).set (n*sz+j) u=(l.set n x').flatMap enc
 |a::l,hz,0,_,j,hj,x',u,hx=>by
  have ha:=hz a (by simp);simp only[Ka,List.set_cons_zero,JK,KP];rw[List.set_append_left _ _ zo,hx];rfl
 |a::l,hz,n+1,hn,j,hj,x',u,hx=>by
  have ha:=hz a (by simp);simp only[Ka,List.set_cons_succ];rw[List.set_append_right _ _ (by rw[ha,L1];omega),show(n+1)*sz+j-(enc a).length=n*sz+j from by rw[ha,L1];omega];rw[rY l (fun y hy=>hz y (by simp[hy])) n (by simpa using hn) j hj x' u (by simpa using hx)]
theorem RowT.putJ{α:Type}[Inhabited α]{enc:α->List ox}{sz:Nat}{O:Nat->Nat}{w:ln}{i:Nat}{E:qy}{v:ox}{l:List α}(h:BJ enc E sz O w i v l){n:Nat}(hn:n<l.length){j:Nat}(hj:j<sz)(x':α)(u:ox)(hx:enc x'=(enc (nth l n)).set j u):
  ∃g c,(adr v sz n).add j=⟨g,n*sz+j,none⟩/\w.cell? ⟨g,n*sz+j,none⟩=some c/\w.frozen? ⟨g,n*sz+j,none⟩=false/\BJ enc E sz O (w.setCell ⟨g,n*sz+j,none⟩ u) i v (l.set n x')/\O g=i:=by
 rw[aB hn]at hx;have a2:=h.2 l[n] (J7 hn);have a5:(enc x').length=sz:=by rw[hx,sx,a2]
 have hs:=h.sl;have a3:∃c,(enc l[n])[j]? = some c:=⟨_,JE zo⟩
 obtain⟨c,a3⟩:=a3;have a0:=hs.cells n hn j c a3;obtain⟨⟨⟨hl,hr⟩,a1⟩,hz⟩:=h
 rcases hr with⟨rfl,h0⟩|⟨g,a4,a',rfl,a9,hg,a6,a8,a7,ht⟩
 ·omega
 have ha:(adr (.slice (some ⟨g,0,none⟩) l.length a4) sz n).add j=⟨g,n*sz+j,none⟩:=by simp only[adr,De];split<;>simp_all
 rw[ha]at a0;refine⟨g,c,ha,a0,by simp[Ky,hg],⟨⟨⟨?_,.inr ⟨g,a4,a'.setIfInBounds (n*sz+j) u,by simp,a9,?_,by simpa using a6,a8,by simpa using a7,?_⟩⟩,by simpa using a1⟩,?_⟩,a1 g rfl⟩
 ·rw[<-rY l hz n hn j hj x' u hx];simp[hl]
 ·simp only[rk,As,if_pos];rw[hg];simp
 ·simp only[sx,Array.toList_setIfInBounds];rw[List.take_set,ht,rY l hz n hn j hj x' u hx]
 intro y hy
 rcases List.mem_or_eq_of_mem_set hy with hy|rfl
 ·exact hz y hy
 exact a5
theorem oS{P:uM}{N:Nat}{ops:Array Gv}{Q:JX->KH->ln->Prop}{a0:List Gv}{st:St}{w:ln}{t:qy}{p:String}{e:Array Kb}{x y:CZ} 
  {T:qy} {α:Type} [Inhabited α] {enc:α->List ox} {sz:Nat} {O:Nat->Nat} {i:Nat} {E:qy} {v:ox} {l:List α} (hr:BJ enc E sz O w i v l) (n:Nat) (hn:n<l.length) (j:Nat) (hj:j<sz) (x':α) (hT:(L3 T).run P w=.ok 1 w) {u:ox} (h1:u.oneCell'=true) (a4:i≠0)
  {q:KU} (hx:ev st x=some (.pointer (some q))) (hq:q=(adr v sz n).add j) (hy:ev st y=some u) (a2:enc x'=(enc (nth l n)).set j u)
  (h:∀w',BJ enc E sz O w' i v (l.set n x')->rf (fun k=>k=i) O w O w'->WL P N ops Q a0 st w'):WL P N ops Q (⟨none,.store T x y,t,p,e,none⟩::a0) st w:=by
 obtain⟨g,c,ha,hc,hf,a3,ht⟩:=hr.putJ hn hj x' u a2;rw[ha]at hq;subst hq;refine iI (w':=w.setCell ⟨g,n*sz+j,none⟩ u) (fun a a1=>?_) (h _ a3 ⟨rfl,rfl,rfl,by simp[rk],fun k _ hk=>KW _ _ _ _ (fun e=>hk (by rw[e];exact ht)),fun _ _=>rfl,fun _ h=>.inl h,fun h=>a4 h.symm⟩);simp only[execOp,a1.ev hx,a1.ev hy]
 cases u<;>simp[tG]at h1<;>simp[Instr.storeAt,Instr.sureAddr,storeVar,hT,Value.cells,storeCells,store,Gh,hc,hf,De]
theorem Fits.fresh{N:Nat}{a:KH}{d:Nat}{v:ox}{st:St}(hn:(cC st d).isNone=true)(h:Lo N a ((d,v)::st)):Lo N a st:=by
 refine⟨h.size,h.defers,fun t u hu=>h.get t u ?_⟩;simp only[cC]
 cases hb:Jw d t with
 |true=>have:=Gb hb;subst this;rw[hu]at hn;cases hn
 |false=>exact hu
theorem Fits.swap{N:Nat}{a:KH}{d d':Nat}{v v':ox}{st:St}(a0:Jw d d'=false)(h:Lo N a ((d,v)::(d',v')::st)):Lo N a ((d',v')::(d,v)::st):=by
 refine⟨h.size,h.defers,fun t u hu=>h.get t u ?_⟩;simp only[cC]at hu ⊢
 cases h1:Jw d t with
 |true=>
  have:=Gb h1;subst this;have h2:Jw d' d=false:=by
   cases h3:Jw d' d with
   |false=>rfl
   |true=>have:=Gb h3;subst this;rw[a0]at h1;cases h1
  rw[h1,h2]at hu;exact hu
 |false=>
  rw[h1]at hu;exact hu
theorem bZ{P:uM}{N:Nat}{ops:Array Gv}{S:ln->Prop}{Q:JX->KH->ln->Prop}{a1:Nat}{a0:Array Bool}{st:St}{w:ln} 
  {T E T1:qy} {sz a2:Nat} {α:Type} {enc:α->List ox} {x y:CZ} {t t':qy} {p p':String} {e e':Array Kb} {d d':Nat} {v xv:ox}
  (i j:Nat) (he:KG P T E sz a2) (u:α) (hi:ops[i]? = some ⟨some d,.load T1 x,t,p,e,none⟩) (hj:ops[j]? = some ⟨some d',.buildSlice T 1 #[(0,y)],t',p',e',none⟩)
  (hr:JC .any ops a0=[i,j]) (a':JC .any ops (a0.setIfInBounds i true)=[j]) (a9:JC .any ops (a0.setIfInBounds j true)=[i])
  (a4:(a0.setIfInBounds j true).setIfInBounds i true=(a0.setIfInBounds i true).setIfInBounds j true)
  (hv:∀w',BW w w'->RV P N (.load T1 x) t st w' v) (hS:∀w',BW w w'->S w')
  (hy:ev st y=some xv) (a5:xv.cells.toList=enc u) (a6:(enc u).length=sz) (hs:sz<=16777216) (hd:B1 d N=true) (a7:B1 d' N=true) (b0:Jw d d'=false) (hf:(cC st d').isNone=true) (a8:ev ((d,v)::st) y=some xv)
  (h:∀sv w',Sl enc sz w' sv [u]->BW w w'->WH P N ops S Q a1 ((a0.setIfInBounds i true).setIfInBounds j true) ((d',sv)::(d,v)::st) w'):WH P N ops S Q (a1+2) a0 st w:=by
 refine bV i j hr hi hj ?_ ?_
 ·refine mG (hv w (sP w)) hd (AW (af (hS w (sP w)) (ug j a' hj ?_)));refine cg he u a8 a5 a6 hs a7 fun sv w' a3 hE=>AW (af (hS w' hE) (h sv w' a3 hE))
 refine cg he u hy a5 a6 hs a7 fun sv w' a3 hE=>AW (af (hS w' hE) (ug i a9 hi ?_))
 refine mG (fun a ha=>hv w' hE a (ha.fresh hf)) hd (AW (af (hS w' hE) ?_));rw[a4];exact fun a ha=>h sv w' a3 hE a (ha.swap b0)
theorem aM{P:uM}{N:Nat}{st:St}{w:ln}{t:qy}{x:CZ}{T E:qy}{m:Nat}{v:ox}(hs:Shape v m)(hu:P.underlying T=some (.slice E))(hx:ev st x=some v):RV P N (.call ⟨.builtin .len,#[x],#[T]⟩) t st w (nI (m:Int)):=
 fun a ha a0 p e g=>by
  obtain⟨ad,c,hv,_⟩:=hs;simp only[execOp,resolve,xK,rI,zI,ha.ev hx];subst hv;simp[invoke,Go.builtin,Lz,run_underlying hu,goInt]
theorem nO{P:uM}{w:ln}{T ty E:qy}{sz a0:Nat}(he:KG P T E sz a0){O:Nat->Nat}{i n:Nat}{v:ox}{xs:List ox}(a1:RowO O w i E sz v n xs)(a:Option KU)(c:Nat):
  (J3 #[T,T] ty #[v,.slice a 0 c]).run P w=.ok v w:=by
 obtain⟨a4,z,hi,hz,a6,a9,a5⟩:=he.parts;have ht:=he.ht
 rcases a1.row.2 with⟨rfl,rfl⟩|⟨g,b0,a',rfl,hbg,hg,a3,a8,a7,a2⟩
 ·cases a<;>simp[J3,run_underlying ht,L3,typeInfo,hi,Ko,JP,loadCells,loadCellsFrom]
 cases a<;>simp[J3,run_underlying ht,L3,typeInfo,hi,Ko,JP,loadCells,loadCellsFrom,a3,storeCells]
theorem ez{P:uM}{N:Nat}{ops:Array Gv}{Q:JX->KH->ln->Prop}{a1:List Gv}{st:St}{w:ln}{t:qy}{p:String}{e:Array Kb}{d:Nat}{x y:CZ} 
  {T E:qy} {sz a0:Nat} (he:KG P T E sz a0) {α:Type} {enc:α->List ox} {B:Nat} {O:Nat->Nat} {i:Nat} {v sv:ox} {l us:List α} (hr:BJ enc E sz O w i v l) (r:Gi B O w) (hs:Sl enc sz w sv us)
  (hx:ev st x=some v) (hy:ev st y=some sv) (a4:∀u∈us,(enc u).length=sz) (a5:∀u∈us,∀c∈enc u,c.oneCell'=true)
  (hb:(l.length+us.length)*a0<=140737488355328) (a6:l.length+us.length<=9223372036854775807) (a3:i≠0) (hd:B1 d N=true)
  (h:∀v' w' O',BJ enc E sz O' w' i v' (l++us)->rf (fun k=>k=i) O w O' w'->Gi B O' w'->WL P N ops Q a1 ((d,v')::st) w') :
  WL P N ops Q (⟨some d,.call ⟨.builtin .append,#[x,y],#[T,T]⟩,t,p,e,none⟩::a1) st w:=by
 by_cases a2:us.length=0
 ·obtain rfl:=sQ a2;obtain⟨a,c,rfl,_⟩:=hs.shape;refine JQ (v:=v) (w':=w) hd (fun ac ha=>?_) (h v w O (by rw[Kw];exact hr) (Bh (fun e=>a3 e.symm) _ _) r);simp only[execOp,resolve,invoke,builtin,pN,su,oU,xK,rI,zI,ha.ev hx,ha.ev hy,Kr,nO he hr.1]
 exact aC he hr r hs a2 hx hy a4 a5 hb a6 a3 hd h
theorem MapO.fgt{κ ν:Type}{kv:κ->ox}{vv:ν->ox}{O O2:Nat->Nat}{w:ln}{i i' r:Nat}{l:List (κ×ν)}(h:GT kv vv O2 w i r l)(ho:O r=i'):GT kv vv O w i' r l:=⟨h.blk,ho,h.born⟩
theorem bq{κ ν:Type}(kv:κ->ox)(vv:ν->ox){P:uM}{N:Nat}{ops:Array Gv}{Q:JX->KH->ln->Prop}{a0:List Gv}{st:St}{w:ln}{t:qy}{p:String}{e:Array Kb}{d:Nat}{T:qy} 
  {B:Nat} {O:Nat->Nat} (r:Gi B O w) (i:Nat) (a1:i≠0) (hd:B1 d N=true)
  (h:∀q w' O',GT kv vv O' w' i q []->rf (fun k=>k=i) O w O' w'->Gi B O' w'->WL P N ops Q a0 ((d,.map (some q))::st) w'):WL P N ops Q (⟨some d,.makeMap T none,t,p,e,none⟩::a0) st w:=by
 have hU:=J9 (S:=fun k=>k=i) (fun e=>a1 e.symm) r (.map #[] 0) i;exact WL.makeMap hd (h w.heap.size _ (lJ O w.heap.size i) (MapO.new O w i) hU (r.upd hU))
theorem yK{α:Type}{val:α->ox}{O:Nat->Nat}{i g a1:Nat}{E:qy}(z:α)(a0:i≠0):∀(k n:Nat) (l:List α) (w:ln) (m:Nat),BJ (fun x=>[val x]) E 1 O w i (.slice (some ⟨g,0,none⟩) m a1) l->n+k=l.length->
  BJ (fun x=>[val x]) E 1 O (w.setCells g n (C2 k (val z))) i (.slice (some ⟨g,0,none⟩) m a1) (l.take n++C2 k z)/\rf (fun j=>j=i) O w O (w.setCells g n (C2 k (val z)))
 |0,n,l,w,m,h,hn=>by
  simp only[List.replicate_zero,Kw,Kp];rw[List.take_of_length_le zo];exact⟨h,Bh (fun e=>a0 e.symm) _ _⟩
 |k+1,n,l,w,m,h,hn=>by
  have ha:adr (.slice (some ⟨g,0,none⟩) m a1) 1 n=⟨g,n,none⟩:=by simp[adr]
  obtain⟨hc,hf,hr,ht⟩:=h.put (n:=n) zo z;rw[ha]at hr ht;simp only[List.replicate_succ,Kp];obtain⟨h1,h2⟩:=yK z a0 k (n+1) (l.set n z) (w.setCell ⟨g,n,none⟩ (val z)) m hr (by simp;omega);have e:(l.set n z).take (n+1)++C2 k z=l.take n++z::C2 k z:=by
   have hl:n<(l.set n z).length:=by simp;omega
   rw[List.take_succ_eq_append_getElem hl,List.getElem_set_self,List.take_set_of_le (ow n)];simp
  rw[e]at h1;have u1:rf (fun j=>j=i) O w O (w.setCell ⟨g,n,none⟩ (val z)):=th (fun e=>a0 e.symm) ht rfl;exact⟨h1,u1.trans h2⟩
theorem RowT.short{α:Type}{val:α->ox}{O:Nat->Nat}{w:ln}{i:Nat}{E:qy}{v:ox}{l:List α}(h:BJ (fun x=>[val x]) E 1 O w i v l){n:Nat}(hn:n<=l.length):BJ (fun x=>[val x]) E 1 O w i (ej v 1 0 n) (l.take n):=by
 have a3:∀l:List α,(l.flatMap fun x=>[val x])=l.map val:=fun l=>by induction l<;>simp_all
 obtain⟨⟨⟨hl,hr⟩,a1⟩,hz⟩:=h
 rcases hr with⟨rfl,h0⟩|⟨g,a2,a8,rfl,a7,hg,a9,a6,a5,ht⟩
 ·obtain rfl:l=[]:=sQ h0;obtain rfl:n=0:=by simpa using hn
  exact Jv _ _ _ _ _ _
 have e:ej (.slice (some ⟨g,0,none⟩) l.length a2) 1 0 n=.slice (some ⟨g,0,none⟩) n a2:=by
  simp only[ej,JK,KQ]
  split<;>simp[De]
 have a0:(l.take n).length=n:=by simp;omega
 rw[e];refine⟨⟨⟨?_,.inr ⟨g,a2,a8,by rw[a0],a7,hg,by rw[a0];omega,a6,a5,?_⟩⟩,fun g' a4=>a1 g' a4⟩,fun x _=>rfl⟩
 ·rw[a3];simp
 rw[a3]at ht ⊢;rw[a0];have:=congrArg (L4 n) ht;rw[KC,<-JD]at this;simpa[Nat.min_eq_left hn]using this
theorem uP{P:uM}{N:Nat}{ops:Array Gv}{Q:JX->KH->ln->Prop}{a5:List Gv}{st:St}{w:ln}{t:qy}{p:String}{e:Array Kb}{x:CZ} 
  {T E:qy} {α:Type} {val:α->ox} {O:Nat->Nat} {i:Nat} {v:ox} {l:List α} (hr:BJ (fun x=>[val x]) E 1 O w i v l) (n:Nat) (hn:n<=l.length) (z:α) (a8:i≠0) (hT:P.underlying T=some (.slice E)) (hz:∀w,(Jy E).run P w=.ok (val z) w) (a9:(val z).cells = #[val z]) (h1:(val z).oneCell'=true)
  {sv:ox} (hx:ev st x=some sv) (b0:sv=ej v 1 n l.length)
  (h:∀w' l',BJ (fun x=>[val x]) E 1 O w' i v l'->l'.take n=l.take n->l'.length=l.length->rf (fun j=>j=i) O w O w'->WL P N ops Q a5 st w'):WL P N ops Q (⟨none,.call ⟨.builtin .clear,#[x],#[T]⟩,t,p,e,none⟩::a5) st w:=by
 subst b0;have a7:=hr;have a0:∃w' l',(Kc #[T] t #[ej v 1 n l.length]).run P w=.ok (.tuple #[]) w'/\BJ (fun x=>[val x]) E 1 O w' i v l'/\l'.take n=l.take n/\l'.length=l.length/\rf (fun j=>j=i) O w O w':=by
  by_cases he:n=l.length
  ·subst he;obtain⟨a,c,rfl,_⟩:=hr.sl.shape;refine⟨w,l,?_,hr,rfl,rfl,Bh (fun e=>a8 e.symm) _ _⟩;simp only[ej,IP];generalize (if c=l.length then a else a.map fun x=>x.add (l.length*1))=q
   cases q<;>simp[Kc,run_underlying hT]
  obtain⟨⟨⟨hl,b1⟩,a'⟩,b3⟩:=hr
  rcases b1 with⟨rfl,h0⟩|⟨g,a6,b8,rfl,b7,hg,b4,b6,b5,ht⟩
  ·omega
  obtain⟨k,hk⟩:∃k,n+k=l.length:=⟨l.length-n,zo⟩
  obtain⟨c1,c2⟩:=yK z a8 k n l w l.length a7 hk;refine⟨_,_,?_,c1,?_,by simp;omega,c2⟩
  ·have es:ej (.slice (some ⟨g,0,none⟩) l.length a6) 1 n l.length=.slice (some ⟨g,n,none⟩) k (a6-n):=by
    simp only[ej];rw[if_neg zo,show l.length-n=k from by omega];simp only[J5,De,Nat.mul_one]
    split
    ·rename_i h;simp[h]
    simp
   rw[es];refine Lib.run_clear_slice w T E t (val z) hT hz a9 h1 g n k (a6-n) zo (fun j hj=>?_) (fun j hj=>by simp[Ky,hg]);have:=a7.sl.cells (n+j) zo 0 (val l[n+j]) rfl;rw[ao]at this;have ha:adr (.slice (some ⟨g,0,none⟩) l.length a6) 1 (n+j)=⟨g,n+j,none⟩:=by simp[adr]
   rw[ha]at this;rw[this];rfl
  rw[List.take_append_of_le_length (by simp;omega),KC,Nat.min_self]
 obtain⟨w',l',a0,a1,a2,a3,a4⟩:=a0;refine Lu rfl fun a ha=>?_
 unfold Ll;have b2:(execOp a.eval ⟨none,.call ⟨.builtin .clear,#[x],#[T]⟩,t,p,e,none⟩).run P w=.ok (.value (.tuple #[])) w':=by
  simp only[execOp,resolve,invoke,builtin,pN,su,oU,xK,rI,zI,ha.ev hx,a0]
 rw[b2];exact h w' l' a1 a2 a3 a4 _ ha
end
end Go.VL
section
namespace Go.VL
theorem Upd.priv{j T:Nat}{O O':Nat->Nat}{w w':ln}(h:rf (fun k=>k=j\/T<=k) O w O' w')(hT:∀b,O b<T)(hj:j≠0):rf (fun k=>k=j) O w O w':=
 h.fgt (fun b hb=>hb.resolve_right (by have:=hT b;omega)) (fun e=>hj e.symm)
theorem Upd.pj{j T:Nat}{O O':Nat->Nat}{w w':ln}(h:rf (fun k=>k=j) O w O' w')(hT:0<T):rf (fun k=>k=j\/T<=k) O w O' w':=
 h.mono (fun _ h=>.inl h) (fun e=>by rcases e with e|e;exact h.z e;omega)
theorem Upd.pT{j T U:Nat}{O O':Nat->Nat}{w w':ln}(h:rf (fun k=>k=U) O w O' w')(hj:j≠0)(hT:0<T)(hU:T<=U):rf (fun k=>k=j\/T<=k) O w O' w':=
 h.mono (fun _ h=>.inr (by rw[h];exact hU)) (fun e=>by rcases e with e|e;exact hj e.symm;omega)
theorem jz{j T:Nat}{w w':ln}(O:Nat->Nat)(h:BW w w')(hj:j≠0)(hT:0<T):rf (fun k=>k=j\/T<=k) O w O w':=
 aa (fun e=>by rcases e with e|e;exact hj e.symm;omega) O h
def rdr(kv:ox)(l:List UInt8)(a op a0 e:Int):Array ox:=#[.string (bs l),nI a,kv,nI op,nI a0,nI e]
variable{kv:ox}
theorem BlkO.rAt{O:Nat->Nat}{w:ln}{j rb:Nat}{l:List UInt8}{a op a0 e:Int}{E:qy}(h:vg O w j rb (rdr kv l a op a0 e) E)(a':Int):vg O (w.setCell ⟨rb,1,none⟩ (nI a')) j rb (rdr kv l a' op a0 e) E:=h.set 1 _
theorem BlkO.rOp{O:Nat->Nat}{w:ln}{j rb:Nat}{l:List UInt8}{a op a0 e:Int}{E:qy}(h:vg O w j rb (rdr kv l a op a0 e) E)(a':Int):vg O (w.setCell ⟨rb,3,none⟩ (nI a')) j rb (rdr kv l a a' a0 e) E:=h.set 3 _
theorem BlkO.rBad{O:Nat->Nat}{w:ln}{j rb:Nat}{l:List UInt8}{a op a0 e:Int}{E:qy}(h:vg O w j rb (rdr kv l a op a0 e) E)(a':Int):vg O (w.setCell ⟨rb,4,none⟩ (nI a')) j rb (rdr kv l a op a' e) E:=h.set 4 _
theorem BlkO.rE{O:Nat->Nat}{w:ln}{j rb:Nat}{l:List UInt8}{a op a0 e:Int}{E:qy}(h:vg O w j rb (rdr kv l a op a0 e) E)(a':Int):vg O (w.setCell ⟨rb,5,none⟩ (nI a')) j rb (rdr kv l a op a0 a') E:=h.set 5 _
theorem BlkO.r0{O:Nat->Nat}{w:ln}{j rb:Nat}{l:List UInt8}{a op a0 e:Int}{E:qy}(h:vg O w j rb (rdr kv l a op a0 e) E):w.cell? ⟨rb,0,none⟩=some (.string (bs l)):=h.cell 0 rfl
theorem BlkO.r1{O:Nat->Nat}{w:ln}{j rb:Nat}{l:List UInt8}{a op a0 e:Int}{E:qy}(h:vg O w j rb (rdr kv l a op a0 e) E):w.cell? ⟨rb,1,none⟩=some (nI a):=h.cell 1 rfl
theorem BlkO.r2{O:Nat->Nat}{w:ln}{j rb:Nat}{l:List UInt8}{a op a0 e:Int}{E:qy}(h:vg O w j rb (rdr kv l a op a0 e) E):w.cell? ⟨rb,2,none⟩=some kv:=h.cell 2 rfl
theorem BlkO.r3{O:Nat->Nat}{w:ln}{j rb:Nat}{l:List UInt8}{a op a0 e:Int}{E:qy}(h:vg O w j rb (rdr kv l a op a0 e) E):w.cell? ⟨rb,3,none⟩=some (nI op):=h.cell 3 rfl
theorem BlkO.r4{O:Nat->Nat}{w:ln}{j rb:Nat}{l:List UInt8}{a op a0 e:Int}{E:qy}(h:vg O w j rb (rdr kv l a op a0 e) E):w.cell? ⟨rb,4,none⟩=some (nI a0):=h.cell 4 rfl
theorem BlkO.r5{O:Nat->Nat}{w:ln}{j rb:Nat}{l:List UInt8}{a op a0 e:Int}{E:qy}(h:vg O w j rb (rdr kv l a op a0 e) E):w.cell? ⟨rb,5,none⟩=some (nI e):=h.cell 5 rfl
end Go.VL
namespace Go.Proofs.YtlehnbkknlpkbaaGreatDoor
open Go.VL Go.Proofs
set_option maxRecDepth 10000
abbrev Rdr(kv:ox)(O:Nat->Nat)(w:ln)(j rb:Nat)(l:List UInt8)(a op a0 e:Int):Prop:=vg O w j rb (rdr kv l a op a0 e) 262
variable{kv:ox}
theorem nD{l r:List UInt8}{b:UInt8}(h:(b::r) <:+ l):l[l.length-(r.length+1)]? = some b:=by
 obtain⟨p,rfl⟩:=h;rw[List.getElem?_append_right (by simp)];simp
theorem AH{l a b:List UInt8}(h:(a++b) <:+ l):(l.take (l.length-b.length)).drop (l.length-(a++b).length)=a:=by
 obtain⟨p,rfl⟩:=h;rw[<-List.append_assoc,List.take_left' (by simp;omega),List.drop_left' (by simp)]
theorem oK(b:UInt8)(k:Nat)(hk:k<256):((b.toNat:Int)==(k:Int))=decide (b=J4 k):=by
 by_cases h:b=J4 k
 ·subst h;simp;omega
 have:b.toNat≠k:=fun e=>h (by rw[<-e];simp)
 simp[h];omega
theorem iX(c:UInt8)(w:ln):Gc tp 228 [.int .u8 (c.toNat:Int)] w fun v w'=>v=.bool (aj c)/\w'=w:=by
 refine ps func228 ntmps228 rfl rfl ?_;refine zh ?_
 by_cases h1:65<=c.toNat
 ·refine ay (d:=5) rfl (b':=true) (decide_eq_true zo) ?_;refine zh ?_
  by_cases h2:c.toNat<=90
  ·refine ay (d:=9) rfl (b':=true) (decide_eq_true zo) ?_;refine zh ?_
   refine ae rfl rfl (⟨by simp[aj,h1,h2],rfl⟩)
  refine ay (d:=9) rfl (b':=false) (decide_eq_false zo) ?_;refine zh ?_
  by_cases h3:97<=c.toNat
  ·refine ay (d:=12) rfl (b':=true) (decide_eq_true zo) ?_;refine zh ?_
   have e:decide ((c.toNat:Int)<=122)=decide (c.toNat<=122):=decide_eq_decide.2 zo;refine ae rfl rfl (⟨by rw[e];simp[aj,h1,h2,h3],rfl⟩)
  refine ay (d:=12) rfl (b':=false) (decide_eq_false zo) ?_;refine zh ?_
  refine ae rfl rfl (⟨by simp[aj,h1,h2,h3],rfl⟩)
 refine ay (d:=5) rfl (b':=false) (decide_eq_false zo) ?_;refine zh ?_
 refine ay (d:=12) rfl (b':=false) (decide_eq_false zo) ?_;refine zh ?_
 have h3:¬97<=c.toNat:=zo;refine ae rfl rfl (⟨by simp[aj,h1,h3],rfl⟩)
theorem zV(O:Nat->Nat)(w:ln)(j rb:Nat)(l r:List UInt8)(op a4 e:Int)(hj:j≠0)(hr:r <:+ l)(hl:l.length<=100000)(h:Rdr kv O w j rb l ((l.length:Int)-(r.length:Int)) op a4 e):
  Gc tp 194 [nP rb] w fun _ w'=>Rdr kv O w' j rb l ((l.length:Int)-((aw r).length:Int)) op a4 e/\rf (fun k=>k=j) O w O w':=by
 have hz:¬(fun k:Nat=>k=j) 0:=fun e=>hj e.symm
 refine ps func194 ntmps194 rfl rfl ?_;refine zh ?_
 refine zlp (fun x:List UInt8×ln=>[(0,nP rb)]) (fun x=>x.2) (fun x=>x.1 <:+ l/\aw x.1=aw r/\Rdr kv O x.2 j rb l ((l.length:Int)-(x.1.length:Int)) op a4 e/\rf (fun k=>k=j) O w O x.2) (fun x=>x.1.length) (r,w) (⟨hr,rfl,h,Bh hz _ _⟩) ?_;rintro⟨r1,w1⟩ ⟨a2,a1,a5,a3⟩;dsimp only at a2 a1 a5 a3 ⊢;have a0:=a5.drew;have a7:=a2.length_le;refine zh ?_
 refine DN zk zk ?_;refine zh ?_
 refine zwH (RV.ld a0.r1 rfl) ?_;refine zw (RV.ld a0.r0 rfl) ?_
 refine zw (cx tR rfl) ?_;refine zwH (Kg rfl rfl) ?_
 cases r1 with
 |nil=>
  refine bP (d:=12) rfl (b':=false) (decide_eq_false (by simp)) ?_;refine zh ?_
  refine zw (aW rfl rfl) ?_;refine Dc ?_
  refine zh ?_;refine zFH rfl rfl ?_
  refine aH rfl (⟨by rw[<-a1];exact a0,a3.drew⟩)
 |cons b r2=>
  simp only[uV]at a7 a0;refine bP (d:=12) rfl (b':=true) (decide_eq_true (by simp only[uV];omega)) ?_;refine zh ?_;refine zwH (RV.ld a0.r0 rfl) ?_;refine zwH (RV.ld a0.r1 rfl) ?_;refine zwH (bt (c:=b) tR rfl rfl (l.length-(r2.length+1)) zo (nD a2)) ?_;refine zw (L9 rfl rfl) ?_;refine zw (aQ rfl rfl) ?_;refine Dc ?_;refine zh ?_;refine zC ?_ ?_
  ·intro hb;replace hb:b=32:=by rw[show(32:Int)=((32:Nat):Int)from rfl,oK b 32 zd]at hb;simpa using hb
   subst hb;refine zh ?_;refine zvH (RV.ld a0.r1 rfl) ?_;refine ak (j:=1) a0 rfl (yP _) rfl rfl rfl rfl ?_;rw[show((l.length:Int)-((r2.length+1:Nat):Int))+1=(l.length:Int)-(r2.length:Int)from by omega];have a8:=a0.rAt ((l.length:Int)-(r2.length:Int));have a9:rf (fun k=>k=j) O w1.drew O (w1.drew.setCell ⟨rb,1,none⟩ (nI ((l.length:Int)-(r2.length:Int)))):=th hz a0.tag rfl;refine zh ?_;refine zx (r2,w1.drew.setCell ⟨rb,1,none⟩ (nI ((l.length:Int)-(r2.length:Int)))) (⟨(Kj _ _).trans a2,by rw[<-a1];simp[aw],a8,a3.drew.trans a9⟩) (by dsimp only;simp)
  intro hb;replace hb:b≠32:=by rw[show(32:Int)=((32:Nat):Int)from rfl,oK b 32 zd]at hb;simpa using hb
  have a6:aw (b::r2)=b::r2:=by simp[aw,hb]
  refine zh ?_;refine aH rfl (⟨by rw[<-a1,a6];exact a0,a3.drew⟩)
theorem yp{l r:List UInt8}(hr:r <:+ l)(h:r≠[]):l[l.length-r.length]? = some (r.headD 0):=by
 cases r with
 |nil=>exact absurd rfl h
 |cons b r=>exact nD hr
theorem gm(O:Nat → Nat)(w:ln)(j rb:Nat)(l r:List UInt8)(op bad e:Int)(hj:j ≠ 0)(hr:r <:+ l)(hl:l.length ≤ 100000)(h:Rdr kv O w j rb l ((l.length:Int) - (r.length:Int)) op bad e):
    Gc tp 179 [.pointer (some ⟨rb, 0, none⟩)] w fun v w' => v = .int .u8 (((aw r).headD 0).toNat:Int) ∧ Rdr kv O w' j rb l ((l.length:Int) - ((aw r).length:Int)) op bad e ∧ rf (fun k => k = j) O w O w' := by
  refine ps func179 ntmps179 rfl rfl ?_
  refine zh ?_
  refine zc call194 (zV O w j rb l r op bad e hj hr hl h) ?_
  rintro v w1 ⟨hb1, hU1⟩
  have hs := (bn r).trans hr
  have hsl := hs.length_le
  generalize aw r = q at *
  have hb2 := hb1.drew
  refine zh ?_
  refine DN (by kernel_rfl) (by kernel_rfl) ?_
  refine zh ?_
  refine zwH (RV.ld hb2.r1 rfl) ?_
  refine zw (RV.ld hb2.r0 rfl) ?_
  refine zw (cx tR rfl) ?_
  refine zw (L9 rfl rfl) ?_
  refine Dc ?_
  refine zh ?_
  refine zC ?_ ?_
  · intro he
    replace he : q = [] := List.eq_nil_of_length_eq_zero (by have : (l.length : Int) - (q.length : Int) = l.length := by simpa using he
                                                             omega)
    subst he
    refine zh ?_
    refine ae rfl rfl (⟨rfl, hb2, hU1.drew⟩)
  · intro he
    replace he:q ≠ [] := fun e => by subst e; simp at he
    have hb3 := hb2.drew
    refine zh ?_
    refine DN (by kernel_rfl) (by kernel_rfl) ?_
    refine zh ?_
    refine zwH (RV.ld hb3.r0 rfl) ?_
    refine zw (RV.ld hb3.r1 rfl) ?_
    refine zwH (bt (c := q.headD 0) tR rfl rfl (l.length - q.length) (by omega) (yp hs he)) ?_
    refine Dc ?_
    refine zh ?_
    refine ae rfl rfl (⟨rfl, hb3, hU1.drew.drew⟩)
theorem ye(O:Nat->Nat)(w:ln)(j rb:Nat)(l r:List UInt8)(op a6 e:Int)(hj:j≠0)(hr:r <:+ l)(hl:l.length<=100000)(h:Rdr kv O w j rb l ((l.length:Int)-(r.length:Int)) op a6 e):
  Gc tp 235 [nP rb] w fun v w'=>v=.string (bs (r.takeWhile aj))/\Rdr kv O w' j rb l ((l.length:Int)-((r.dropWhile aj).length:Int)) op a6 e/\rf (fun k=>k=j) O w O w':=by
 have hz:¬(fun k:Nat=>k=j) 0:=fun e=>hj e.symm
 refine ps func235 ntmps235 rfl rfl ?_;refine zh ?_
 refine zvH (RV.ld h.r1 rfl) ?_;refine zlp (fun x:List UInt8×ln=>[(0,nP rb),(3,nI ((l.length:Int)-(r.length:Int)))]) (fun x=>x.2) (fun x=>x.1 <:+ l/\x.1.dropWhile aj=r.dropWhile aj/\Rdr kv O x.2 j rb l ((l.length:Int)-(x.1.length:Int)) op a6 e/\rf (fun k=>k=j) O w O x.2) (fun x=>x.1.length) (r,w) (⟨hr,rfl,h,Bh hz _ _⟩) ?_
 rintro⟨r1,w1⟩ ⟨a4,a3,a7,a5⟩;dsimp only at a4 a3 a7 a5 ⊢;have a0:=a7.drew;have a':=a4.length_le;have a9:=hr.length_le;have a2:r1=r.dropWhile aj->(l.take (l.length-r1.length)).drop (l.length-r.length)=r.takeWhile aj:=fun e=>by
  have:=AH (l:=l) (a:=r.takeWhile aj) (b:=r.dropWhile aj) (by rw[J0];exact hr);rw[J0,<-e]at this;exact this
 have b0:r1.length<=r.length\/r1≠r.dropWhile aj:=by
  by_cases e:r1=r.dropWhile aj
  ·left;rw[e];exact(JM _).length_le
  right;exact e
 refine zh ?_;refine DN zk zk ?_
 refine zh ?_;refine zwH (RV.ld a0.r1 rfl) ?_
 refine zw (RV.ld a0.r0 rfl) ?_;refine zw (cx tR rfl) ?_
 refine zwH (Kg rfl rfl) ?_
 cases r1 with
 |nil=>
  have a1:=a0.drew;have hd:[]=r.dropWhile aj:=by rw[<-a3];rfl
  have h1:=a2 hd;refine bP (d:=18) rfl (b':=false) (decide_eq_false (by simp)) ?_;refine zh ?_;refine zw (aW rfl rfl) ?_;refine Dc ?_;refine zh ?_;refine zFH rfl rfl ?_;refine DN zk zk ?_;refine zh ?_;refine zwH (RV.ld a1.r0 rfl) ?_;refine zw (RV.ld a1.r1 rfl) ?_;refine zwH (dc tR rfl rfl rfl (l.length-r.length) (l.length-0) zo (by simp) zo zo) ?_;refine Dc ?_;refine zh ?_;simp only[Kr]at h1;refine ae rfl rfl (⟨by rw[h1],by rw[<-hd];exact a1,a5.drew.drew⟩)
 |cons b r2=>
  simp only[uV]at a' a0;refine bP (d:=18) rfl (b':=true) (decide_eq_true (by simp only[uV];omega)) ?_;refine zh ?_;refine zwH (RV.ld a0.r0 rfl) ?_;refine zwH (RV.ld a0.r1 rfl) ?_;refine zwH (bt (c:=b) tR rfl rfl (l.length-(r2.length+1)) zo (nD a4)) ?_;refine WS.call KI rfl (iX b w1.drew) rfl ?_;refine zw (aQ rfl rfl) ?_;refine Dc ?_;refine zh ?_;refine zC ?_ ?_
  ·intro hb;replace hb:aj b=true:=hb;refine zh ?_;refine zvH (RV.ld a0.r1 rfl) ?_;refine ak (j:=1) a0 rfl (yP _) rfl rfl rfl rfl ?_;rw[show((l.length:Int)-((r2.length+1:Nat):Int))+1=(l.length:Int)-(r2.length:Int)from by omega];have a1:=a0.rAt ((l.length:Int)-(r2.length:Int));have b1:rf (fun k=>k=j) O w1.drew O (w1.drew.setCell ⟨rb,1,none⟩ (nI ((l.length:Int)-(r2.length:Int)))):=th hz a0.tag rfl;refine zh ?_;refine zx (r2,w1.drew.setCell ⟨rb,1,none⟩ (nI ((l.length:Int)-(r2.length:Int)))) (⟨(Kj _ _).trans a4,by rw[<-a3,List.dropWhile_cons_of_pos hb],a1,a5.drew.trans b1⟩) (by dsimp only;simp)
  intro hb;replace hb:aj b=false:=hb;have a8:(b::r2).dropWhile aj=b::r2:=List.dropWhile_cons_of_neg (by rw[hb];decide);have hd:b::r2=r.dropWhile aj:=by rw[<-a3,a8]
  have h1:=a2 hd;have h2:=b0.resolve_right (fun e=>e hd);simp only[uV]at h1 h2;have a1:=a0.drew;refine zh ?_;refine DN zk zk ?_;refine zh ?_;refine zwH (RV.ld a1.r0 rfl) ?_;refine zw (RV.ld a1.r1 rfl) ?_;refine zwH (dc tR rfl rfl rfl (l.length-r.length) (l.length-(r2.length+1)) zo zo zo zo) ?_;refine Dc ?_;refine zh ?_;refine ae rfl rfl (⟨by rw[h1],by rw[<-hd];exact a1,a5.drew.drew⟩)
theorem xW:cV tp 83 #[(0,1),(1,1),(2,1)]:=⟨_,underlying83,fun w=>by kernel_rfl⟩
theorem gD(B:Nat)(O:Nat->Nat)(w:ln)(j rb:Nat)(l:List UInt8)(a op b3 p e:Int)(hj:j≠0)(hR:Gi B O w)(h:Rdr kv O w j rb l a op b3 0):
  Gc tp 180 [nP rb,nI p,nI e] w fun v w'=>v=.agg #[nI 0,nI 0,nS]/\Rdr kv O w' j rb l a op p e/\rf (fun k=>k=j) O w O w':=by
 obtain⟨T,a4,hT⟩:=hR.bound;have b4:j<T:=by rw[<-h.tag];exact hT rb
 refine ps func180 ntmps180 rfl rfl ?_;refine zh ?_
 refine ax hR T zo (pc _) rfl ?_;intro xb w1 O1 a8 a6 b5 b6;have a1:=h.upd a6 hj zo;refine zh ?_
 refine zvH (RV.ld a1.r5 rfl) ?_;refine zTH rfl rfl ?_
 refine ak (j:=4) a1 rfl (yP _) rfl rfl rfl rfl ?_;have a3:=a1.rBad p;have b2:rf (fun k=>k=j) O1 w1 O1 (w1.setCell ⟨rb,4,none⟩ (nI p)):=th (fun e=>hj e.symm) a1.tag rfl;refine zh ?_
 refine ak (j:=5) a3 rfl (sizeOf36 _) rfl rfl rfl rfl ?_;have a':=a3.rE e;have b1:rf (fun k=>k=j) O1 (w1.setCell ⟨rb,4,none⟩ (nI p)) O1 ((w1.setCell ⟨rb,4,none⟩ (nI p)).setCell ⟨rb,5,none⟩ (nI e)):=th (fun e=>hj e.symm) a3.tag rfl;have a0:=b2.trans b1;have a2:=a8.upd a0 zo zo;generalize (w1.setCell ⟨rb,4,none⟩ (nI p)).setCell ⟨rb,5,none⟩ (nI e)=w3 at *;refine zh ?_
 refine zv (aF xW (pc _) rfl (by first|rfl|(simp only[pZ,rU];rfl)) rfl rfl) ?_;refine zsa (us:=#[nI 0,nI 0,nS]) a2 (ix _) ?_
 have a7:=a2.setRow (us:=#[nI 0,nI 0,nS]);have a5:rf (fun k=>k=T) O1 w3 O1 (w3.setRow xb #[nI 0,nI 0,nS]):=oz zo a2.tag rfl;have a9:=a'.upd a5 hj zo;have b0:=((a6.pT hj a4 (ow _)).trans (a0.pj a4)).trans (a5.pT hj a4 (ow _));refine zh ?_;refine aN rfl rfl (a7.cellsAdd) (oD _) (ix _) (⟨rfl,a9.fgt h.tag,b0.priv hT hj⟩)
end Go.Proofs.YtlehnbkknlpkbaaGreatDoor
end
namespace Go.Proofs.YtlehnbkknlpkbaaGreatDoor
section
def sH(l:List UInt8)(c:UInt8):Int:=match l.findIdx? (· == c)with|some i=>(i:Nat)|none=>-1
theorem xe(l:List UInt8)(c:UInt8):firstIdx (bs l) c=sH l c:=by
 have a0:∀i,i<l.length->(bs l)[i]! = nth l i:=fun i hi=>by
  rw[aB hi,getElem!_pos (bs l) i (by rw[di];exact hi)];show l.toArray[i]=l[i];simp
 unfold firstIdx sH;rw[di]
 cases hf:l.findIdx? (· == c)with
 |none=>
  have h:=CX.1 hf;have:(K2 l.length).find? (fun i=>(bs l)[i]! == c)=none:=by
   rw[K5];intro i hi;have a1:i<l.length:=by simpa using hi
   rw[a0 i a1,aB a1,h _ (J7 a1)];decide
  rw[this]
 |some i=>
  obtain⟨hi,h1,h2⟩:=zf.1 hf;have:(K2 l.length).find? (fun i=>(bs l)[i]! == c)=some i:=by
   rw[List.find?_eq_some_iff_getElem];refine⟨by rw[a0 i hi,aB hi];exact h1,i,by simpa using hi,by simp,fun j hj=>?_⟩;have:=h2 j hj;simp only[List.getElem_range];rw[a0 j zo,aB zo];simpa using this
  rw[this]
theorem pI(l:List UInt8)(c:UInt8)(w:ln):(callFunc 155 #[.string (bs l),.int .u8 (c.toNat:Int)]).run tp w=.ok (.value (nI (sH l c))) w:=by
 rw[run_callFunc_extern func155 zk zk zk (e:=JO) zk,run_indexByte_string,xe];simp[Result.andThen]
theorem qU(l:List UInt8)(c:UInt8)(w:ln):Gc tp 128 [.string (bs l),.int .u8 (c.toNat:Int)] w fun v w'=>v=nI (sH l c)/\w'=w:=by
 refine ps func128 ntmps128 rfl rfl ?_;refine zh ?_
 refine zvH (RV.ext (vs:=[.string (bs l),.int .u8 (c.toNat:Int)]) (pI l c w) rfl) ?_;refine ae rfl rfl (⟨rfl,rfl⟩)
theorem dK(l:List UInt8)(c:UInt8)(w:ln):Gc tp 91 [.string (bs l),.int .u8 (c.toNat:Int)] w fun v w'=>v=nI (sH l c)/\w'=w:=by
 refine ps func91 ntmps91 rfl rfl ?_;refine zh ?_
 refine zc call128 (qU l c w) ?_;rintro v _ ⟨rfl,rfl⟩;refine zh ?_
 refine ae rfl rfl (⟨rfl,rfl⟩)
@[simp] def encS(x:List UInt8):List ox:=[.string (bs x)]
def GV(l:List (List UInt8))(s:List UInt8):Int:=match l.findIdx? (· == s)with|some i=>(i:Nat)|none=>-1
theorem my(l:List (List UInt8))(s:List UInt8)(sv:ox)(w:ln)(h:Sl encS 1 w sv l):Gc tp 183 [sv,.string (bs s)] w fun v w'=>v=nI (GV l s)/\w'=w:=by
 have hl:=h.len_le;refine ps func183 ntmps183 rfl rfl ?_;refine zh ?_;refine zlp (fun x:Nat=>[(0,sv),(1,.string (bs s)),(7,nI l.length),(8,nI x)]) (fun x=>w) (fun x=>x<=l.length/\∀i,i<x->(nth l i==s)=false) (fun x=>l.length-x) 0 (⟨sN _,fun i hi=>absurd hi (FJ i)⟩) ?_;rintro k ⟨hk,a1⟩;refine zh ?_;refine zC ?_ ?_
 ·intro a0;replace a0:k<l.length:=dT a0;refine zh ?_;refine zv (RV.ld (h.ld (val:=fun x=>.string (bs x)) a0) rfl) ?_;refine zvH (cX rfl rfl) ?_;refine zC ?_ ?_
  ·intro hy;replace hy:s=nth l k:=by simpa using hy
   have hf:l.findIdx? (· == s)=some k:=zf.2 ⟨a0,by rw[<-aB a0,hy];simp,fun j hj=>by rw[<-aB zo,a1 j hj];decide⟩;refine zh ?_;refine ae rfl rfl (⟨by unfold GV;rw[hf],rfl⟩)
  intro hy;replace hy:(nth l k==s)=false:=by
   rw[Kd];intro e;rw[eq_of_beq e]at hy;simp at hy
  refine zh ?_;refine zxd (k+1) (⟨a0,fun i hi=>(JG.1 hi).elim (a1 i) (fun e=>by rw[e];exact hy)⟩)
 intro a2;replace a2:l.length<=k:=dF a2;have hf:l.findIdx? (· == s)=none:=CX.2 fun x hx=>by
  obtain⟨j,hj,rfl⟩:=cI hx;exact a1 j zo
 refine zh ?_;refine ae rfl rfl (⟨by unfold GV;rw[hf],rfl⟩)
def ik:Array ox:=(namesL.map fun s=>KE (bs s)).toArray
theorem vJ{O:Nat->Nat}{w:ln}{j b:Nat}(h:vg O w j b ik 267):Sl encS 1 w (.slice (some ⟨b,0,none⟩) 36 36) namesL:=by
 refine⟨⟨_,36,rfl,ow _,zd,fun _=>⟨_,_,rfl⟩⟩,fun i hi j u hu=>?_⟩;obtain rfl:j=0:=by
  have:=(CR.1 hu).1;simpa using this
 have a0:KE (bs namesL[i])=u:=by simpa using hu
 have:=h.cell i (u:=u) (by rw[<-a0];unfold ik;simp[hi]);have e:((adr (.slice (some ⟨b,0,none⟩) 36 36) 1 i).add 0)=⟨b,i,none⟩:=by simp[adr,De]
 exact(congrArg w.cell? e).trans this
theorem Bf(w:ln):Gc tp 182 [] w fun v w'=>v=.agg ik/\BW w w':=by
 refine ps func182 ntmps182 rfl rfl ?_;refine zh ?_
 refine ax (au w) 1 zo (K6 _) rfl ?_;intro xb w1 O1 a0 a2 a4 a5;refine zh ?_
 refine zv (eX (cells:=ik) L5 (Le _) (K6 _) rfl zk) ?_;refine bE (us:=ik) a0 zk (KN _) zk rfl rfl rfl ?_
 have a1:=a0.setRow (us:=ik);have a3:BW w (w1.setRow xb ik):=(a2.trans (oz zd a0.tag rfl)).ext;refine zh ?_;refine aN rfl rfl (a1.cellsAdd) (isAgg267 _) (KN _) (⟨rfl,a3⟩)
def D5(s:List UInt8):Int:=match A7 s with|some c=>(c:Nat)|none=>0
theorem iW(s:List UInt8)(w:ln):Gc tp 159 [.string (bs s)] w fun v w'=>v=.tuple #[nI (D5 s),.bool (A7 s).isSome]/\BW w w':=by
 refine ps func159 ntmps159 rfl rfl ?_;refine zh ?_
 refine zc call182 (Bf w) ?_;rintro v w1 ⟨rfl,a5⟩;refine ax (au w1) 1 zo (K6 _) rfl ?_
 intro xb w2 O2 a0 a3 a6 a7;refine bE (us:=ik) a0 zk (KN _) zk rfl rfl rfl ?_;have a1:=a0.setRow (us:=ik);have a4:BW w1 (w2.setRow xb ik):=(a3.trans (oz zd a0.tag rfl)).ext;have a2:=vJ a1;generalize w2.setRow xb ik=w3 at *;refine zh ?_;refine zvH (xA L5 (Le _) zd rfl) ?_;refine zc call183 (my namesL s _ w3 a2) ?_;rintro v _ ⟨rfl,rfl⟩;refine zh ?_;refine zvH (gH rfl rfl) ?_;have h:GV namesL s=match A7 s with|some c=>(c:Nat)|none=>-1:=rfl
 refine bQ rfl rfl rfl (⟨?_,a5.trans a4⟩);rw[h];unfold D5
 cases A7 s with
 |none=>rfl
 |some c=>simp
def nv(x:N3):ox:=.agg #[nI x.1,nI x.2.1,x.2.2]
def PostE(kv:ox)(O:Nat->Nat)(w:ln)(j rb:Nat)(l:List UInt8)(op:Int)(x:N3):PR->Prop
 |.ok t r=>Rdr kv O w j rb l ((l.length:Int)-(r.length:Int)) op 0 0/\Nt O w t x
 |.bad p e=>x.2.2.oneCell'=true/\∃a op',Rdr kv O w j rb l a op' ((l.length:Int)-(p:Int)) e/\0<=a/\a<=l.length+20-op/\op<=op'/\op'<=20
abbrev M3:=List UInt8×N3
def lz(m:M3):List ox:=[.string (bs m.1),nI m.2.1,nI m.2.2.1,m.2.2.2]
abbrev Kn:=List (List UInt8×Nd)
def KnownM(O:Nat->Nat)(w:ln)(kv:ox)(kn:Kn)(ms:List M3):Prop:=
 Sl lz 4 w kv ms/\Ln O w kv/\kn.length=ms.length/\∀i,i<ms.length->(nth kn i).1=(nth ms i).1/\Nt O w (nth kn i).2 (nth ms i).2
def Known(O:Nat->Nat)(w:ln)(kv:ox)(kn:Kn):Prop:=∃ms:List M3,KnownM O w kv kn ms
theorem KnownM.upd{S:Nat->Prop}{O O':Nat->Nat}{w w':ln}{kv:ox}{kn:Kn}{ms:List M3}(h:KnownM O w kv kn ms)(u:rf S O w O' w'):KnownM O' w' kv kn ms:=by
 obtain⟨h1,h2,h3,h4⟩:=h;exact⟨h1.upd h2 u,h2.upd u,h3,fun i hi=>⟨(h4 i hi).1,(h4 i hi).2.upd u⟩⟩
theorem Known.upd{S:Nat->Prop}{O O':Nat->Nat}{w w':ln}{kv:ox}{kn:Kn}(h:Known O w kv kn)(u:rf S O w O' w'):Known O' w' kv kn:=by
 obtain⟨ms,h⟩:=h;exact⟨ms,h.upd u⟩
theorem sl0{α:Type}{enc:α->List ox}{sz:Nat}[Inhabited α](w:ln):Sl enc sz w (nS) ([]:List α):=⟨⟨none,0,rfl,ow _,zo,fun h=>absurd rfl h⟩,fun i hi=>absurd hi (by simp)⟩
variable{kv:ox}{kn:Kn}
theorem cn{x:N3}(h:x.2.2.oneCell'=true):(#[nI x.1,nI x.2.1,x.2.2]:Array ox).toList.all tG=true:=by
 simp only[pZ,h];rfl
theorem elN:KG tp 81 83 3 40:=⟨CY,by kernel_rfl,zd⟩
theorem iA{x:N3}(h:x.2.2.oneCell'=true):∀c∈aY x,c.oneCell'=true:=fun c hc=>by
 simp at hc
 rcases hc with rfl|rfl|rfl
 ·rfl
 ·rfl
 exact h
def Reads(kv:ox)(kn:Kn)(F:Nat)(ex:List ox)(op:Int)(M:List UInt8->PR)(Pre:List UInt8->Prop):Prop:=
 ∀(B:Nat) (O:Nat->Nat) (j rb:Nat) (l r:List UInt8) (w:ln),Gi B O w->j≠0->r <:+ l->l.length<=4096->Pre r->Rdr kv O w j rb l ((l.length:Int)-(r.length:Int)) op 0 0->Known O w kv kn->
  Gc tp F (nP rb::ex) w fun v w'=>∃x,v=nv x/\rf (fun k=>k=j) O w O w'/\PostE kv O w' j rb l op x (M r)
theorem uB(kind op:Int)(d1:0<=op/\op<=20):Reads kv kn 233 [nI kind] op (dR kind) (fun _=>True):=by
 intro B O j rb l r w hR hj hr hl _ h _;obtain⟨T,a0,hT⟩:=hR.bound;have d2:j<T:=by rw[<-h.tag];exact hT rb
 have hq:=(bn r).trans hr;have d0:=hq.length_le;refine ps func233 ntmps233 rfl rfl ?_;refine zh ?_;refine ax hR T zo (pc _) rfl ?_;intro xb w1 O1 b' b5 c' d3;have c7:=h.upd b5 hj zo;refine zh ?_;refine zc Js (gm O1 w1 j rb l r op 0 0 hj hr zo c7) ?_;rintro v w2 ⟨rfl,a6,b0⟩;have b1:=b'.upd b0 zo zo;have b6:=c'.upd b0;have b3:=(b5.pT hj a0 (ow _)).trans (b0.pj a0);refine zc KI (iX ((aw r).headD 0) w2) ?_;rintro v _ ⟨rfl,rfl⟩;refine zh ?_
 cases hc:aj ((aw r).headD 0)with
 |false=>
  have hM:dR kind r=.bad (aw r).length 4:=by unfold dR;rw[if_neg (by rw[hc];decide)]
  refine zTH rfl rfl ?_;refine zv (RV.ld a6.r1 rfl) ?_
  refine zc Jr (gD _ O1 _ j rb l _ _ 0 ((l.length:Int)-((aw r).length:Int)) 4 hj b6 a6) ?_;rintro v wf ⟨rfl,a8,a4⟩;have a1:=b1.upd a4 zo zo;refine zsa (us:=#[nI 0,nI 0,nS]) a1 (ix _) ?_
  have a7:=a1.setRow (us:=#[nI 0,nI 0,nS]);have a3:rf (fun k=>k=T) O1 wf O1 (wf.setRow xb #[nI 0,nI 0,nS]):=oz zo a1.tag rfl;have hbg:=a8.upd a3 hj zo;refine zh ?_;refine aN rfl rfl (a7.cellsAdd) (oD _) (ix _) (⟨(0,0,nS),rfl,((b3.trans (a4.pj a0)).trans (a3.pT hj a0 (ow _))).priv hT hj,?_⟩);rw[hM];exact⟨rfl,_,op,hbg.fgt h.tag,zo,zo,zo,zo⟩
 |true=>
  refine zFH rfl rfl ?_;refine zvH (RV.ld a6.r1 rfl) ?_
  refine zc call235 (ye O1 _ j rb l (aw r) op 0 0 hj hq zo a6) ?_;rintro v w3 ⟨rfl,c6,a'⟩;have b9:=b1.upd a' zo zo;have c9:=b6.upd a';refine zc call159 (iW ((aw r).takeWhile aj) w3) ?_
  rintro v w4 ⟨rfl,b7⟩;have a9:rf (fun _=>False) O1 w3 O1 w4:=aa (fun h=>h) O1 b7;have b2:=c6.upd a9 hj (fun h=>h);have a5:=b9.upd a9 zo (fun h=>h);have c8:=c9.upd a9;have a2:=(b3.trans (a'.pj a0)).trans (jz O1 b7 hj a0);refine zh ?_
  cases hn:A7 ((aw r).takeWhile aj)with
  |none=>
   have hM:dR kind r=.bad (aw r).length 5:=by unfold dR;rw[if_pos hc,hn]
   refine zTH rfl rfl ?_;refine zc Jr (gD _ O1 _ j rb l _ _ 0 ((l.length:Int)-((aw r).length:Int)) 5 hj c8 b2) ?_
   rintro v wf ⟨rfl,a8,a4⟩;have a1:=a5.upd a4 zo zo;refine zsa (us:=#[nI 0,nI 0,nS]) a1 (ix _) ?_;have a7:=a1.setRow (us:=#[nI 0,nI 0,nS]);have a3:rf (fun k=>k=T) O1 wf O1 (wf.setRow xb #[nI 0,nI 0,nS]):=oz zo a1.tag rfl;have hbg:=a8.upd a3 hj zo;refine zh ?_;refine aN rfl rfl (a7.cellsAdd) (oD _) (ix _) (⟨(0,0,nS),rfl,((a2.trans (a4.pj a0)).trans (a3.pT hj a0 (ow _))).priv hT hj,?_⟩);rw[hM];exact⟨rfl,_,op,hbg.fgt h.tag,by have:=(JM (l:=aw r) aj).length_le;omega,zo,zo,zo⟩
  |some c=>
   have hM:dR kind r=.ok (.mk kind (c:Nat) []) ((aw r).dropWhile aj):=by unfold dR;rw[if_pos hc,hn]
   have hv:D5 ((aw r).takeWhile aj)=(c:Nat):=by unfold D5;rw[hn]
   rw[hv];refine zFH rfl rfl ?_;refine zv (aF xW (pc _) rfl (by first|rfl|(simp only[pZ,rU];rfl)) rfl rfl) ?_;refine zsa (us:=#[nI kind,nI (c:Nat),nS]) a5 (ix _) ?_;have b8:=a5.setRow (us:=#[nI kind,nI (c:Nat),nS]);have b4:rf (fun k=>k=T) O1 w4 O1 (w4.setRow xb #[nI kind,nI (c:Nat),nS]):=oz zo a5.tag rfl;have c5:=b2.upd b4 hj zo;refine zh ?_;refine aN rfl rfl (b8.cellsAdd) (oD _) (ix _) (⟨(kind,(c:Nat),nS),rfl,(a2.trans (b4.pT hj a0 (ow _))).priv hT hj,?_⟩);rw[hM];exact⟨c5.fgt h.tag,KY _ _ _ _⟩
end
theorem qV: ∀(n:Nat) (t:Nd), nsz t ≤ n → ∀(x:N3) (w:ln) (fx:Nat), Nt (fun _ => 0) w t x → fx ≤ 1000000 → Gc tp 136 [nv x, nI (fx:Int)] w fun v w' => v = nI ((min (nsz t) (fx + 1):Nat):Int) ∧ BW w w'
 |0, t, hn => by have := cN t; omega
 |n + 1, .mk k c kids, hn => by
  intro x w fx h hm
  obtain⟨xs, hs, hf, hl, hk⟩ := h.kids
  simp only[JT]at hl hk
  have hkl := ef kids
  simp only[nsz]at hn ⊢
  have hlen := hs.len_le
  refine ps func136 ntmps136 rfl rfl ?_
  refine Dd ?_
  refine zl ?_
  refine aE (au w) 1 (by omega) rfl rfl ?_
  intro xb w1 O1 hx1 hU1 hR1 hE1
  have hs1 := hs.ext hE1
  refine zv (Jn rfl) ?_
  refine AW ?_
  refine az ?_
  refine Dd ?_
  refine zl ?_
  refine zv (Jn rfl) ?_
  refine AW ?_
  refine az ?_
  refine Dd ?_
  refine Dd ?_
  refine zl ?_
  refine zv (RV.fa rfl) ?_
  refine zv (RV.ld (hx1.cell 2 rfl) rfl) ?_
  refine zv (RV.len (by first | exact hs1) CY rfl) ?_
  refine zv (Fo rfl) ?_
  refine AW ?_
  refine az ?_
  refine Lp ?_
  refine zlp (fun y:Nat×ln => [(1, nI (fx:Int)), (5, nI ((min (dr (kids.take y.1) + 1) (fx + 1):Nat):Int)), (9, x.2.2), (10, nI xs.length), (11, nI y.1)]) (fun y => y.2) (fun y => y.1 ≤ xs.length ∧ BW w y.2) (fun y => xs.length - y.1) (0, w1) (⟨sN _, hE1⟩) ?_
  rintro⟨i, w2⟩ ⟨hi, hE2⟩
  dsimp only at hi hE2 ⊢
  have hs2 := hs.ext hE2
  refine Dd ?_
  refine zl ?_
  refine zv (Kg rfl rfl) ?_
  refine AW ?_
  refine az ?_
  refine Dd ?_
  refine zC ?_ ?_
  ·intro hlt
   replace hlt:i < xs.length := by have := of_decide_eq_true hlt; omega
   have hsu := dJ kids i (by omega)
   have htk := cp kids (i + 1)
   have hkn := (hk i hlt).ext hE2
   have hxo := hkn.one
   have hkz := bD kids i (by omega)
   refine Lv ?_
   refine az ?_
   refine Dd ?_
   refine Lp ?_
   refine Dd ?_
   refine zl ?_
   refine zv (Fu (by first | exact hs2) CY (ix _) rfl rfl _ rfl (by omega)) ?_
   refine zv (ai (us := aY (nth xs i)) (fun j u hu => hs2.cell hlt hu) (oD _) (ix _) rfl) ?_
   refine ax (au w2) 1 (by omega) (pc _) rfl ?_
   intro kb w3 O3 hk3 hU3 hR3 hE3
   refine zsb (us := #[nI (nth xs i).1, nI (nth xs i).2.1, (nth xs i).2.2]) hk3 (ix _) (cn hxo) ?_
   have hk4 := hk3.setRow (us := #[nI (nth xs i).1, nI (nth xs i).2.1, (nth xs i).2.2])
   have hE4:BW w2 (w3.setRow kb #[nI (nth xs i).1, nI (nth xs i).2.1, (nth xs i).2.2]) := (hU3.trans (oz (by decide) hk3.tag rfl)).ext
   generalize w3.setRow kb #[nI (nth xs i).1, nI (nth xs i).2.1, (nth xs i).2.2] = w4 at *
   refine AW ?_
   refine az ?_
   refine Dd ?_
   refine Dd ?_
   refine zl ?_
   refine zv (Fo rfl) ?_
   refine zv (Fo rfl) ?_
   refine zv (RV.gtr rfl rfl) ?_
   refine AW ?_
   refine az ?_
   refine zC ?_ ?_
   ·intro hgt
    replace hgt:fx < dr (kids.take i) + 1 := by have := of_decide_eq_true hgt; omega
    refine Dd ?_
    refine zl ?_
    refine zv (Fo rfl) ?_
    refine zv (Jn rfl) ?_
    refine AW ?_
    refine az ?_
    refine WC.ret ?_
    refine bT ?_
    refine cB ?_
    refine bT ?_
    refine bT ?_
    refine cB ?_
    refine bT ?_
    refine ae rfl rfl (⟨by congr 2; omega, hE2.trans hE4⟩)
   ·intro hle
    replace hle:dr (kids.take i) + 1 ≤ fx := by have := of_decide_eq_false hle; omega
    refine Lv ?_
    refine az ?_
    refine zl ?_
    refine zv (Fo rfl) ?_
    refine zv (ai (us := aY (nth xs i)) hk4.cellsAdd (oD _) (ix _) rfl) ?_
    refine zv (Fo rfl) ?_
    refine zv (Fo rfl) ?_
    refine zv (RV.sub rfl rfl (Km (by omega))) ?_
    rw[show(fx:Int) - ((min (dr (kids.take i) + 1) (fx + 1):Nat):Int) = ((fx - (dr (kids.take i) + 1):Nat):Int)from by omega]
    refine zc Lj (qV n (nth kids i) (by omega) (nth xs i) w4 (fx - (dr (kids.take i) + 1)) (hkn.ext hE4) (by omega)) ?_
    rintro v w5 ⟨rfl, hE5⟩
    refine zv (La rfl rfl (Km (by omega))) ?_
    refine zv (Jn rfl) ?_
    refine AW ?_
    refine eh ?_
    refine az ?_
    refine zl ?_
    refine zv (La rfl rfl (Km (by omega))) ?_
    refine zv (Fo rfl) ?_
    refine AW ?_
    rw[show((min (dr (kids.take i) + 1) (fx + 1):Nat):Int) + ((min (nsz (nth kids i)) (fx - (dr (kids.take i) + 1) + 1):Nat):Int) = ((min (dr (kids.take (i + 1)) + 1) (fx + 1):Nat):Int)from by omega]
    refine zxd (i + 1, w5) (⟨hlt, (hE2.trans hE4).trans hE5⟩)
  ·intro hge
   obtain rfl:i = xs.length := by have := of_decide_eq_false hge; omega
   refine WC.exit ?_
   refine cT ?_
   refine cT ?_
   refine eY ?_
   refine az ?_
   refine Dd ?_
   refine zl ?_
   refine zv (Fo rfl) ?_
   refine zv (Jn rfl) ?_
   refine AW ?_
   refine az ?_
   refine WC.ret ?_
   refine ae rfl rfl (⟨by rw[← hl, Ki], hE2⟩)
theorem aD{S:Nat->Prop}{O O':Nat->Nat}{w w':ln}(h:rf S O w O' w')(hS:∀b,¬S (O b)):BW w w':=⟨h.os,h.tape,h.output,h.size,fun b hb=>h.blk b hb (hS b)⟩
theorem Nt.ones{O:Nat->Nat}{w:ln}{t:Nd}{x:N3}(h:Nt O w t x):x=(t.kind,t.cls,x.2.2):=by cases h;rfl
theorem uA:∀(n:Nat),n<=1000000->∀(t:Nd),nsz t<=n->∀(B:Nat) (O:Nat->Nat) (x:N3) (w:ln),Gi B O w->Nt (fun _=>0) w t x->Gc tp 181 [nv x] w fun v w'=>∃y,v=nv y/\Nt O w' t y/\BW w w'
 |0,_,t,hn=>by have:=cN t;omega
 |n+1,hn6,.mk k c kids,hn=>by
  intro B O x w hR h;obtain⟨T,j5,hT⟩:=hR.bound;obtain⟨xs,hs,hf,hl,hk⟩:=h.kids;simp only[JT]at hl hk;obtain⟨x0,x1,sv⟩:=x;obtain rfl:k=x0:=(congrArg KB h.ones).symm;obtain rfl:c=x1:=(congrArg (fun q:N3=>q.2.1) h.ones).symm;dsimp only at hs hf;have j4:=ef kids;simp only[nsz]at hn;have a5:¬(fun q:Nat=>T<=q) 0:=fun e=>zo
  refine ps func181 ntmps181 rfl rfl ?_;refine zh ?_
  refine aE hR (T+1) zo rfl rfl ?_;intro nb w1 O1 h7 i5 i' j8;refine ax i' T zo (pc _) rfl ?_
  intro xb w2 O2 h1 g8 i9 j7;have f':=h7.upd g8 zo zo;have n0:w2.cell? (nA nb 0)=some (nI k):=f'.cell 0 rfl;have n1:w2.cell? (nA nb 1)=some (nI c):=f'.cell 1 rfl;refine zh ?_;refine zv (aF xW (pc _) rfl (by first|rfl|(simp only[pZ,rU];rfl)) rfl rfl) ?_;refine ax i9 (T+2) zo (pc _) rfl ?_;intro ob w3 O3 f9 i4 i7 j6;refine zsa (us:=#[nI k,nI c,nS]) f9 (ix _) ?_;have h4:=f9.setRow (us:=#[nI k,nI c,nS]);have g7:rf (fun q=>q=T+2) O3 w3 O3 (w3.setRow ob #[nI k,nI c,nS]):=oz zo f9.tag rfl;have d6:=i4.trans g7;have i6:=i7.upd g7;have h5:=f'.upd d6 zo zo;have h0:=h1.upd d6 zo zo;have e6:rf (fun q=>T<=q) O w O3 _:=((i5.mono (fun _ h=>by rw[h];omega) a5).trans (g8.mono (fun _ h=>by rw[h];omega) a5)).trans (d6.mono (fun _ h=>by rw[h];omega) a5);generalize w3.setRow ob #[nI k,nI c,nS]=w4 at *;have j0:=aD e6 (fun b=>by have:=hT b;omega);have j2:=hs.ext j0;have n2:w4.cell? (nA nb 2)=some sv:=h5.cell 2 rfl;refine zh ?_
  refine zlp (fun y:Nat×(Nat->Nat)×World×ox×List N3=>[(2,nP xb),(3,nP ob),(12,sv),(13,nI xs.length),(14,nI y.1)]) (fun y=>y.2.2.1) (fun y=>y.1<=xs.length/\vg y.2.1 y.2.2.1 T xb #[nI 0,nI 0,nS] 83/\vg y.2.1 y.2.2.1 (T+2) ob #[nI k,nI c,y.2.2.2.1] 83/\BJ aY 83 3 y.2.1 y.2.2.1 (T+3) y.2.2.2.1 y.2.2.2.2/\y.2.2.2.2.length=y.1/\(∀m,m<y.1->Nt y.2.1 y.2.2.1 (nth kids m) (nth y.2.2.2.2 m))/\rf (fun q=>T<=q) O w y.2.1 y.2.2.1/\Gi B y.2.1 y.2.2.1) (fun y=>xs.length-y.1) (0,O3,w4,nS,[]) (⟨sN _,h0,h4,Jv _ _ _ _ _ _,rfl,fun m hm=>absurd hm (FJ m),e6,i6⟩) ?_;rintro⟨i,O1',f7,lv,zs⟩ ⟨hi,b2,d2,a',d0,f8,b',c5⟩;dsimp only at hi b2 d2 a' d0 f8 b' c5 ⊢;have e':=aD b' (fun b=>by have:=hT b;omega);have h3:=hs.ext e';refine zh ?_
  refine zC ?_ ?_
  ·intro c9;replace c9:i<xs.length:=dT c9;have h9:=(hk i c9).ext e';have g9:=h9.one;have j3:=bD kids i zo;refine zh ?_;refine zv (ai (us:=aY (nth xs i)) (fun j u hu=>h3.cell c9 hu) (oD _) (ix _) rfl) ?_;refine ax c5 (T+4) zo (pc _) rfl ?_;intro kb d9 O2' g1 g3 i8 j1;refine zsb (us:=#[nI (nth xs i).1,nI (nth xs i).2.1,(nth xs i).2.2]) g1 (ix _) (cn g9) ?_;have h':=g1.setRow (us:=#[nI (nth xs i).1,nI (nth xs i).2.1,(nth xs i).2.2]);have g2:rf (fun q=>q=T+4) O2' d9 O2' (d9.setRow kb #[nI (nth xs i).1,nI (nth xs i).2.1,(nth xs i).2.2]):=oz zo g1.tag rfl;have b0:=g3.trans g2;have g6:=(b2.upd b0 zo zo).drew;have d1:=(d2.upd b0 zo zo).drew;have c8:=(a'.upd b0 zo zo).drew;have d7:=(c5.upd b0).drew;have d':∀m,m<i->Nt O2' (d9.setRow kb #[nI (nth xs i).1,nI (nth xs i).2.1,(nth xs i).2.2]).drew (nth kids m) (nth zs m):=fun m hm=>((f8 m hm).upd b0).drew
   have d5:=(b'.trans (b0.mono (fun _ h=>by rw[h];omega) a5)).drew;have g5:=aD d5 (fun b=>by have:=hT b;omega);have hk3d:=h'.drew;have g0:Nt (fun _=>0) (d9.setRow kb #[nI (nth xs i).1,nI (nth xs i).2.1,(nth xs i).2.2]).drew (nth kids i) (nth xs i):=(hk i c9).ext g5;refine zh ?_;refine aI (fun W=>∀(m:Nat) (u:ox),(aY (nth xs i))[m]? = some u->W.cell? (nA kb m)=some u) 8 rfl zk ?_;generalize (d9.setRow kb #[nI (nth xs i).1,nI (nth xs i).2.1,(nth xs i).2.2]).drew=w3' at *;have i3:w3'.cell? (nA ob 2)=some lv:=d1.cell 2 rfl;refine zin hk3d.cellsAdd fun zS=>?_
   refine zrf 0 rfl zS rfl ?_;refine zt 2 rfl zS (fun w1 h2=>ai (us:=aY (nth xs i)) h2 (oD _) (ix _) rfl) ?_
   have c':=uA n zo (nth kids i) zo B O2' (nth xs i) w3' d7 g0;refine bV 1 3 zk rfl rfl ?_ ?_
   ·refine zvH (RV.ld i3 rfl) ?_;refine af hk3d.cellsAdd ?_
    refine ug 3 zk rfl ?_;refine zc Lh c' ?_
    rintro v w5 ⟨z,rfl,f3,g4⟩;have a8:rf (fun _=>False) O2' w3' O2' w5:=aa (fun h=>h) O2' g4;have f4:=g6.upd a8 zo (fun h=>h);have e4:=d1.upd a8 zo (fun h=>h);have a9:=c8.upd a8 zo (fun h=>h);have f6:=d7.upd a8;have d3:=hk3d.upd a8 zo (fun h=>h);have b7:∀m,m<i->Nt O2' w5 (nth kids m) (nth zs m):=fun m hm=>(d' m hm).upd a8
    have b9:=d5.trans (a8.mono (fun _ h=>h.elim) a5);refine zh ?_;refine af d3.cellsAdd ?_;refine ug 4 zk rfl ?_;refine aL elN (enc:=aY) z rfl rfl rfl zd rfl ?_;intro w6 h6 e9;have a1:rf (fun _=>False) O2' w5 O2' w6:=aa (fun h=>h) O2' e9;have e1:=f4.upd a1 zo (fun h=>h);have d8:=e4.upd a1 zo (fun h=>h);have a6:=a9.upd a1 zo (fun h=>h);have e8:=f6.upd a1;have b8:=d3.upd a1 zo (fun h=>h);have b1:∀m,m<i->Nt O2' w6 (nth kids m) (nth zs m):=fun m hm=>(b7 m hm).upd a1
    have c6:=f3.upd a1;have b6:=b9.trans (a1.mono (fun _ h=>h.elim) a5);refine zh ?_;refine af b8.cellsAdd ?_;have a7:∀u∈[z],∀c∈aY u,c.oneCell'=true:=fun u hu=>by
     rw[C9.1 hu];exact iA c6.one
    refine ug 5 zk rfl ?_;refine aC elN a6 e8 h6 (by simp) rfl rfl (fun _ _=>rfl) a7 (by simp;omega) (by simp;omega) zo rfl ?_
    intro a3 w7 O7 a0 a4 e7;have e2:=a0.one;have b3:=ri d8 a4 zo zo;have e0:=ri e1 a4 zo zo;have b4:=ri b8 a4 zo zo;refine zh ?_;refine af b4.cellsAdd ?_;refine zrf 6 rfl b4.cellsAdd rfl ?_;refine ug 7 zk rfl ?_;refine ak (j:=2) b3 rfl (L2 _) e2 rfl rfl rfl ?_;have e3:vg O7 (w7.setCell ⟨ob,2,none⟩ a3) (T+2) ob #[nI k,nI c,a3] 83:=b3.set 2 a3;have a2:rf (fun q=>q=T+2) O7 w7 O7 (w7.setCell ⟨ob,2,none⟩ a3):=th zo b3.tag rfl;have e5:=b4.upd a2 zo zo;refine zh ?_;refine af e5.cellsAdd ?_;have a5:¬(fun q:Nat=>T<=q) 0:=fun e=>zo
    have b5:=(b6.trans (a4.mono (fun _ h=>by rw[h];omega) a5)).trans (a2.mono (fun _ h=>by rw[h];omega) a5);refine Da zk ?_;refine zh ?_;refine zxd (i+1,O7,(w7.setCell ⟨ob,2,none⟩ a3),a3,zs++[z]) (⟨c9,e0.upd a2 zo zo,e3,a0.upd a2 zo zo,by simp[d0],fun m hm=>?_,b5,e7.upd a2⟩);dsimp only at hm ⊢
    by_cases e:m<i
    ·rw[aB (xs:=zs++[z]) (by simp;omega),rm zo,<-aB zo];exact((b1 m e).upd a4).upd a2
    obtain rfl:m=zs.length:=zo;rw[aB (xs:=zs++[z]) (by simp),uh zo];simp only[IP,DZ];rw[d0];exact(c6.upd a4).upd a2
   refine zc Lh c' ?_;rintro v w5 ⟨z,rfl,f3,g4⟩;have a8:rf (fun _=>False) O2' w3' O2' w5:=aa (fun h=>h) O2' g4;have f4:=g6.upd a8 zo (fun h=>h);have e4:=d1.upd a8 zo (fun h=>h);have a9:=c8.upd a8 zo (fun h=>h);have f6:=d7.upd a8;have d3:=hk3d.upd a8 zo (fun h=>h);have b7:∀m,m<i->Nt O2' w5 (nth kids m) (nth zs m):=fun m hm=>(d' m hm).upd a8
   have b9:=d5.trans (a8.mono (fun _ h=>h.elim) a5);refine zh ?_;refine af d3.cellsAdd ?_;have i2:w5.cell? (nA ob 2)=some lv:=e4.cell 2 rfl;refine bV 1 4 zk rfl rfl ?_ ?_
   ·refine zvH (RV.ld i2 rfl) ?_;refine af d3.cellsAdd ?_
    refine ug 4 zk rfl ?_;refine aL elN (enc:=aY) z rfl rfl rfl zd rfl ?_
    intro w6 h6 e9;have a1:rf (fun _=>False) O2' w5 O2' w6:=aa (fun h=>h) O2' e9;have e1:=f4.upd a1 zo (fun h=>h);have d8:=e4.upd a1 zo (fun h=>h);have a6:=a9.upd a1 zo (fun h=>h);have e8:=f6.upd a1;have b8:=d3.upd a1 zo (fun h=>h);have b1:∀m,m<i->Nt O2' w6 (nth kids m) (nth zs m):=fun m hm=>(b7 m hm).upd a1
    have c6:=f3.upd a1;have b6:=b9.trans (a1.mono (fun _ h=>h.elim) a5);refine zh ?_;refine af b8.cellsAdd ?_;have a7:∀u∈[z],∀c∈aY u,c.oneCell'=true:=fun u hu=>by
     rw[C9.1 hu];exact iA c6.one
    refine ug 5 zk rfl ?_;refine aC elN a6 e8 h6 (by simp) rfl rfl (fun _ _=>rfl) a7 (by simp;omega) (by simp;omega) zo rfl ?_
    intro a3 w7 O7 a0 a4 e7;have e2:=a0.one;have b3:=ri d8 a4 zo zo;have e0:=ri e1 a4 zo zo;have b4:=ri b8 a4 zo zo;refine zh ?_;refine af b4.cellsAdd ?_;refine zrf 6 rfl b4.cellsAdd rfl ?_;refine ug 7 zk rfl ?_;refine ak (j:=2) b3 rfl (L2 _) e2 rfl rfl rfl ?_;have e3:vg O7 (w7.setCell ⟨ob,2,none⟩ a3) (T+2) ob #[nI k,nI c,a3] 83:=b3.set 2 a3;have a2:rf (fun q=>q=T+2) O7 w7 O7 (w7.setCell ⟨ob,2,none⟩ a3):=th zo b3.tag rfl;have e5:=b4.upd a2 zo zo;refine zh ?_;refine af e5.cellsAdd ?_;have a5:¬(fun q:Nat=>T<=q) 0:=fun e=>zo
    have b5:=(b6.trans (a4.mono (fun _ h=>by rw[h];omega) a5)).trans (a2.mono (fun _ h=>by rw[h];omega) a5);refine Da zk ?_;refine zh ?_;refine zxd (i+1,O7,(w7.setCell ⟨ob,2,none⟩ a3),a3,zs++[z]) (⟨c9,e0.upd a2 zo zo,e3,a0.upd a2 zo zo,by simp[d0],fun m hm=>?_,b5,e7.upd a2⟩);dsimp only at hm ⊢
    by_cases e:m<i
    ·rw[aB (xs:=zs++[z]) (by simp;omega),rm zo,<-aB zo];exact((b1 m e).upd a4).upd a2
    obtain rfl:m=zs.length:=zo;rw[aB (xs:=zs++[z]) (by simp),uh zo];simp only[IP,DZ];rw[d0];exact(c6.upd a4).upd a2
   refine aL elN (enc:=aY) z rfl rfl rfl zd rfl ?_;intro w6 h6 e9;have a1:rf (fun _=>False) O2' w5 O2' w6:=aa (fun h=>h) O2' e9;have e1:=f4.upd a1 zo (fun h=>h);have d8:=e4.upd a1 zo (fun h=>h);have a6:=a9.upd a1 zo (fun h=>h);have e8:=f6.upd a1;have b8:=d3.upd a1 zo (fun h=>h);have b1:∀m,m<i->Nt O2' w6 (nth kids m) (nth zs m):=fun m hm=>(b7 m hm).upd a1
   have c6:=f3.upd a1;have b6:=b9.trans (a1.mono (fun _ h=>h.elim) a5);refine zh ?_;refine af b8.cellsAdd ?_;have i1:w6.cell? (nA ob 2)=some lv:=d8.cell 2 rfl;refine ug 1 zk rfl ?_;refine zvH (RV.ld i1 rfl) ?_;refine af b8.cellsAdd ?_;have a7:∀u∈[z],∀c∈aY u,c.oneCell'=true:=fun u hu=>by
    rw[C9.1 hu];exact iA c6.one
   refine ug 5 zk rfl ?_;refine aC elN a6 e8 h6 (by simp) rfl rfl (fun _ _=>rfl) a7 (by simp;omega) (by simp;omega) zo rfl ?_
   intro a3 w7 O7 a0 a4 e7;have e2:=a0.one;have b3:=ri d8 a4 zo zo;have e0:=ri e1 a4 zo zo;have b4:=ri b8 a4 zo zo;refine zh ?_;refine af b4.cellsAdd ?_;refine zrf 6 rfl b4.cellsAdd rfl ?_;refine ug 7 zk rfl ?_;refine ak (j:=2) b3 rfl (L2 _) e2 rfl rfl rfl ?_;have e3:vg O7 (w7.setCell ⟨ob,2,none⟩ a3) (T+2) ob #[nI k,nI c,a3] 83:=b3.set 2 a3;have a2:rf (fun q=>q=T+2) O7 w7 O7 (w7.setCell ⟨ob,2,none⟩ a3):=th zo b3.tag rfl;have e5:=b4.upd a2 zo zo;refine zh ?_;refine af e5.cellsAdd ?_;have a5:¬(fun q:Nat=>T<=q) 0:=fun e=>zo
   have b5:=(b6.trans (a4.mono (fun _ h=>by rw[h];omega) a5)).trans (a2.mono (fun _ h=>by rw[h];omega) a5);refine Da zk ?_;refine zh ?_;refine zxd (i+1,O7,(w7.setCell ⟨ob,2,none⟩ a3),a3,zs++[z]) (⟨c9,e0.upd a2 zo zo,e3,a0.upd a2 zo zo,by simp[d0],fun m hm=>?_,b5,e7.upd a2⟩);dsimp only at hm ⊢
   by_cases e:m<i
   ·rw[aB (xs:=zs++[z]) (by simp;omega),rm zo,<-aB zo];exact((b1 m e).upd a4).upd a2
   obtain rfl:m=zs.length:=zo;rw[aB (xs:=zs++[z]) (by simp),uh zo];simp only[IP,DZ];rw[d0];exact(c6.upd a4).upd a2
  intro i0;obtain rfl:i=xs.length:=dF i0;have h8:=a'.one;refine zh ?_;refine zv (ai (us:=aY ((k,c,lv):N3)) d2.cellsAdd (oD _) (ix _) rfl) ?_;refine zsb (us:=#[nI k,nI c,lv]) b2 (ix _) (cn (x:=(k,c,lv)) h8) ?_;have g':=b2.setRow (us:=#[nI k,nI c,lv]);have f5:rf (fun q=>q=T) O1' f7 O1' (f7.setRow xb #[nI k,nI c,lv]):=oz zo b2.tag rfl;have c7:=a'.upd f5 zo zo;have d4:=b'.trans (f5.mono (fun _ h=>by rw[h];omega) a5);have hN:Nt O (f7.setRow xb #[nI k,nI c,lv]) (.mk k c kids) (k,c,lv):=
   .mk c7.sl (c7.freeT zo (fun b=>by have:=hT b;omega) (c5.upd f5) d4) zo (fun m hm=>((f8 m zo).upd f5).low d4)
  refine zh ?_;refine aN rfl rfl (g'.cellsAdd) (oD _) (ix _) (⟨(k,c,lv),rfl,hN,aD d4 (fun b=>by have:=hT b;omega)⟩)
theorem lU{F:FuncId}(hF:∀(args:Array ox) (w:ln),(callFunc F args).run tp w=.ok (.enter F args) w)(cs:Array ox)(l:List (N3))(sv:ox)(q:Nat->Bool)(w:ln)(h:Sl aY 3 w sv l) 
  (hq:∀i,i<l.length->∀w',BW w w'->Gc tp F ([nv (nth l i)]++cs.toList) w' fun v w''=>v=.bool (q i)/\BW w' w'') :
  Gc tp 140 [sv,.func (.func F) #[] cs] w fun v w'=>v=nI (dQ q l.length)/\BW w w':=by
 have hl:=h.len_le;refine ps func140 ntmps140 rfl rfl ?_;refine zh ?_;refine zlp (fun x:Nat×ln=>[(0,sv),(1,.func (.func F) #[] cs),(7,nI l.length),(8,nI x.1)]) (fun x=>x.2) (fun x=>x.1<=l.length/\BW w x.2/\∀i,i<x.1->q i=false) (fun x=>l.length-x.1) (0,w) (⟨sN _,sP _,fun i hi=>absurd hi (FJ i)⟩) ?_;rintro⟨k,w1⟩ ⟨hk,hE,a1⟩;dsimp only at hk hE a1 ⊢;have h1:=h.ext hE;refine zh ?_;refine zC ?_ ?_
 ·intro a0;replace a0:k<l.length:=dT a0;refine zh ?_;refine zv (ai (us:=aY (nth l k)) (fun j u hu=>h1.cell a0 hu) (oD _) (ix _) rfl) ?_;refine dN rfl hF rfl (hq k a0 w1 hE) rfl ?_;rintro v w2 ⟨rfl,a3⟩;refine zh ?_;refine zC ?_ ?_
  ·intro hy;refine zh ?_;refine ae rfl rfl (⟨by rw[cG a0 hy a1],hE.trans a3⟩)
  intro hy;refine zh ?_;refine zxd (k+1,w2) (⟨a0,hE.trans a3,fun i hi=>(JG.1 hi).elim (a1 i) (fun e=>by rw[e];exact hy)⟩)
 intro a2;replace a2:l.length<=k:=dF a2;refine zh ?_;refine ae rfl rfl (⟨by rw[cE fun i hi=>a1 i zo],hE⟩)
theorem cW{F:FuncId}(hF:∀(args:Array ox) (w:ln),(callFunc F args).run tp w=.ok (.enter F args) w)(cs:Array ox)(l:List (N3))(sv:ox)(q:Nat->Bool)(w:ln)(h:Sl aY 3 w sv l) 
  (hq:∀i,i<l.length->∀w',BW w w'->Gc tp F ([nv (nth l i)]++cs.toList) w' fun v w''=>v=.bool (q i)/\BW w' w'') :
  Gc tp 101 [sv,.func (.func F) #[] cs] w fun v w'=>v=.bool (anyN q l.length)/\BW w w':=by
 refine ps func101 ntmps101 rfl rfl ?_;refine zh ?_
 refine zc call140 (lU hF cs l sv q w h hq) ?_;rintro v w1 ⟨rfl,hE⟩;refine zh ?_
 refine ae rfl rfl (⟨by rw[firstN_any],hE⟩)
def named(k:Int):Bool:=(k==0)||(k==2)
def least(k:Int):Int:=if k=4\/k=5 then 2 else if k=6\/k=7\/k=8 then 1 else 0
def fx(k:Int):Int:=if k=4\/k=5 then 2000 else if k=6\/k=7\/k=8 then 1 else 0
def fo(k c:Int)(n:Nat)(a0:Bool):Bool:=
 !(decide (k<0)||decide (9<k)||((k==9)&&a0))&&(!(decide ((n:Int)<least k)||decide (fx k<(n:Int))) &&
 !((named k&&(decide (c<0)||decide (36<=c)))||(!named k&&(c != 0))))
mutual
def bH:Nd->Bool->Bool | .mk k c l,wi=>fo k c l.length wi&&eJ l
def eJ:List Nd->Bool | []=>true|t::r=>bH t true&&eJ r
end
def bj(t:Nd):Bool:=decide (nsz t<=2000)&&bH t false
theorem dm{k c:Int}{n:Nat}{wi:Bool}(h:fo k c n wi=true):
  (k=0/\n=0/\0<=c/\c<36)\/(k=1/\n=0/\c=0)\/(k=2/\n=0/\0<=c/\c<36)\/(k=3/\n=0/\c=0)\/(k=4/\2<=n/\c=0)\/(k=5/\2<=n/\c=0)\/(k=6/\n=1/\c=0)\/(k=7/\n=1/\c=0)\/(k=8/\n=1/\c=0)\/(k=9/\n=0/\c=0/\wi=false):=by
 have a0:k=0\/k=1\/k=2\/k=3\/k=4\/k=5\/k=6\/k=7\/k=8\/k=9:=by
  simp only[fo,yr,IJ,Bool.or_eq_false_iff,decide_eq_false_iff_not]at h;omega
 rcases a0 with rfl|rfl|rfl|rfl|rfl|rfl|rfl|rfl|rfl|rfl<;>simp[fo,least,fx,named]at h<;>(try simp)<;>(first|omega|(obtain⟨h1,h2⟩:=h;subst h1;simp;omega))
theorem fV:∀(l:List Nd),(!(anyN (fun i=>!(bH (nth l i) true)) l.length))=eJ l:=by
 intro l;rw[Kx];rw[IJ,Kd,Ne,cQ]
 induction l with
 |nil=>simp[eJ]
 |cons t r ih=>
  simp only[eJ,yr,<-ih,uV]
  constructor
  ·intro h;refine⟨?_,fun⟨i,hi,hq⟩=>h ⟨i+1,zo,by rw[bd];exact hq⟩⟩
   cases ht:bH t true with
   |true=>rfl
   |false=>exact absurd ⟨0,zo,by rw[ar,ht];rfl⟩ h
  rintro⟨h1,h2⟩ ⟨i,hi,hq⟩
  cases i with
  |zero=>rw[ar,h1]at hq;simp at hq
  |succ i=>rw[bd]at hq;exact h2 ⟨i,zo,hq⟩
theorem Dl(k:Int)(w:ln):Gc tp 166 [nI k] w fun v w'=>v=.tuple #[nI (least k),nI (fx k)]/\w'=w:=by
 refine ps func166 ntmps166 rfl rfl ?_;refine zh ?_
 by_cases h4:k=4
 ·subst h4;refine zTH rfl rfl ?_;refine zTH rfl rfl ?_;refine bQ rfl rfl rfl (⟨rfl,rfl⟩)
 refine zFH rfl ((beq_eq_false_iff_ne.2 h4)) ?_
 by_cases h5:k=5
 ·subst h5;refine zTH rfl rfl ?_;refine bQ rfl rfl rfl (⟨rfl,rfl⟩)
 refine zFH rfl ((beq_eq_false_iff_ne.2 h5)) ?_
 by_cases h6:k=6
 ·subst h6;refine zTH rfl rfl ?_;refine zTH rfl rfl ?_;refine bQ rfl rfl rfl (⟨rfl,rfl⟩)
 refine zFH rfl ((beq_eq_false_iff_ne.2 h6)) ?_
 by_cases h7:k=7
 ·subst h7;refine zTH rfl rfl ?_;refine zTH rfl rfl ?_;refine bQ rfl rfl rfl (⟨rfl,rfl⟩)
 refine zFH rfl ((beq_eq_false_iff_ne.2 h7)) ?_
 by_cases h8:k=8
 ·subst h8;refine zTH rfl rfl ?_;refine bQ rfl rfl rfl (⟨rfl,rfl⟩)
 refine zFH rfl ((beq_eq_false_iff_ne.2 h8)) ?_;refine bQ rfl rfl rfl (⟨by simp[least,fx,h4,h5,h6,h7,h8],rfl⟩)
theorem DB{b:Bool}{t:Nd}(ih:∀(y:N3) (W:ln),Nt (fun _=>0) W t y->Gc tp 137 [nv y,.bool true] W fun v w'=>v=.bool b/\BW W w')(x:N3)(w:ln)(h:Nt (fun _=>0) w t x):
  Gc tp 167 [nv x] w fun v w'=>v=.bool (!b)/\BW w w':=by
 refine ps func167 ntmps167 rfl rfl ?_;refine zh ?_
 refine aE (au w) 1 zo rfl rfl ?_;intro xb w1 O1 a1 a3 a4 a0;refine zh ?_
 refine zv (ai (us:=aY x) a1.cellsAdd (oD _) (ix _) rfl) ?_;refine zc call137 (ih x w1 (h.ext a0)) ?_
 rintro v w2 ⟨rfl,a2⟩;refine zh ?_;refine ae rfl rfl (⟨rfl,a0.trans a2⟩)
theorem yu:∀(n:Nat) (t:Nd),nsz t<=n->∀(x:N3) (w:ln) (a0:Bool),Nt (fun _=>0) w t x->Gc tp 137 [nv x,.bool a0] w fun v w'=>v=.bool (bH t a0)/\BW w w'
 |0,t,hn=>by have:=cN t;omega
 |n+1,.mk k c kids,hn=>by
  intro x w a0 h;have b1:=h.ones;obtain⟨xs,hs,hf,hl,hk⟩:=h.kids;simp only[JT]at hl hk;simp only[nsz]at hn;have hF:bH (.mk k c kids) a0=(fo k c kids.length a0&&eJ kids):=rfl;rw[hF];generalize x.2.2=sv at *;subst b1;simp only[KZ,Lb];refine ps func137 ntmps137 rfl rfl ?_;refine zh ?_;refine aE (au w) 1 zo rfl rfl ?_;intro xb w1 O1 a9 b4 b5 a4;have c0:w1.cell? (nA xb 0)=some (nI k):=a9.cell 0 rfl;have c1:w1.cell? (nA xb 1)=some (nI c):=a9.cell 1 rfl;have c2:w1.cell? (nA xb 2)=some sv:=a9.cell 2 rfl;have b2:=hs.ext a4;refine zh ?_;refine bK (fun w1=>_=w1) ((k==2)) 3 (rfl) rfl rfl rfl rfl rfl ?_ ?_
  ·intro a1;refine zh ?_;refine nE 11 4 (rfl) a1
  rintro _ rfl;refine zh ?_;refine zc call166 (Dl k w1) ?_;rintro v w9 ⟨rfl,a'⟩;rw[a'];clear a' w9;refine zh ?_;refine bK (fun w1=>_=w1) (decide (9<k)) 3 (rfl) rfl rfl rfl rfl rfl ?_ ?_
  ·intro a2;refine zh ?_;refine nE 26 4 (rfl) a2
  rintro _ rfl;refine zh ?_;refine bK (fun w1=>_=w1) (((k==9)&&a0)) 6 (rfl) rfl rfl rfl rfl rfl ?_ ?_
  ·intro a3;refine zh ?_
   cases a7:(k==9)with
   |true=>
    refine ay (d:=35) rfl (b':=true) (rfl) ?_;refine zh ?_
    refine nE 31 8 (rfl) a3
   |false=>
    refine ay (d:=35) rfl (b':=false) (rfl) ?_;refine zh ?_
    refine nE 31 8 (rfl) a3
  rintro _ rfl;refine zh ?_
  cases h1:(decide (k<0)||decide (9<k)||((k==9)&&a0))with
  |true=>
   refine zTH rfl rfl ?_;refine ae rfl rfl (⟨by simp only[fo,h1];rfl,a4⟩)
  |false=>
   refine zFH rfl rfl ?_;refine bK (fun w1=>_=w1) (decide (fx k<(xs.length:Int))) 5 (rfl) rfl rfl rfl rfl rfl ?_ ?_
   ·intro a5;refine zh ?_;refine nE 45 6 (rfl) a5
   rintro _ rfl;refine zh ?_
   cases h2:(decide ((xs.length:Int)<least k)||decide (fx k<(xs.length:Int)))with
   |true=>
    refine zTH rfl rfl ?_;refine ae rfl rfl (⟨by simp only[fo,h1,hl,h2];rfl,a4⟩)
   |false=>
    refine zFH rfl rfl ?_;refine aP (fun w1=>_=w1) ((decide (c<0)||decide (36<=c))) 8 (rfl) rfl rfl rfl rfl rfl ?_ ?_
    ·intro a6;refine zh ?_
     cases a7:decide (c<0)with
     |true=>
      refine ay (d:=58) rfl (b':=true) (rfl) ?_;refine zh ?_
      refine nE 54 10 (rfl) a6
     |false=>
      refine ay (d:=58) rfl (b':=false) (rfl) ?_;refine zh ?_
      refine nE 54 10 (rfl) a6
    rintro _ rfl;refine zh ?_;refine bK (fun w1=>_=w1) ((!((k==0)||(k==2))&&(c != 0))) 7 (rfl) rfl rfl rfl rfl rfl ?_ ?_
    ·intro a8;refine zh ?_
     cases a7:((k==0)||(k==2))with
     |true=>
      rw[a7]at a8;refine ay (d:=67) rfl (b':=false) (rfl) ?_;refine zh ?_;refine nE 64 9 (rfl) a8
     |false=>
      rw[a7]at a8;refine ay (d:=67) rfl (b':=true) (rfl) ?_;refine zh ?_;refine nE 64 9 (rfl) a8
    rintro _ rfl;refine zh ?_
    cases h3:(((((k==0)||(k==2))&&(decide (c<0)||decide (36<=c))))||(!((k==0)||(k==2))&&(c != 0)))with
    |true=>
     refine zTH rfl rfl ?_;refine ae rfl rfl (⟨by simp only[fo,h1,hl,h2,named,h3];rfl,a4⟩)
    |false=>
     refine zFH rfl rfl ?_;refine zc call101 (cW call167 #[] xs sv (fun i=>!(bH (nth kids i) true)) w1 b2 (fun i hi w' hE=>DB (fun y W hy=>yu n (nth kids i) (by have:=bD kids i (zo);omega) y W true hy) (nth xs i) w' ((hk i hi).ext (a4.trans hE)))) ?_
     rintro v w2 ⟨rfl,b3⟩;refine zh ?_;have b0:=fV kids;rw[hl]at b0;refine ae rfl rfl (⟨by rw[b0];simp only[fo,h1,hl,h2,named,h3];rfl,a4.trans b3⟩)
theorem fN(t:Nd)(x:N3)(w:ln)(h:Nt (fun _=>0) w t x):Gc tp 99 [nv x] w fun v w'=>v=.bool (bj t)/\BW w w':=by
 have hx:=h.ones;refine ps func99 ntmps99 rfl rfl ?_;refine zh ?_;refine aE (au w) 1 zo rfl rfl ?_;intro xb w1 O1 a5 a6 a7 a3;have a4:∀W,BW w1 W->∀(j:Nat) (u:ox),(aY x)[j]? = some u->W.cell? (nA xb j)=some u:=fun W hE j u hu=>hE.cell (a5.cellsAdd j u hu)
 refine zh ?_;refine zv (ai (us:=aY x) (a4 w1 (sP _)) (oD _) (ix _) rfl) ?_
 refine zc Lj (qV (nsz t) t (ow _) x w1 2000 (h.ext a3) zo) ?_;rintro v w2 ⟨rfl,a0⟩;have hd:decide (((min (nsz t) (2000+1):Nat):Int)<=2000)=decide (nsz t<=2000):=decide_eq_decide.2 zo;refine zh ?_
 rw[hd];refine aP (BW w1) (bH t false) 2 (a0) rfl rfl rfl rfl rfl ?_ ?_
 ·intro a1;refine zh ?_;refine zvH (ai (us:=aY x) (a4 _ a0) (oD _) (ix _) rfl) ?_;refine zc call137 (yu (nsz t) t (ow _) x _ false (h.ext (a3.trans a0))) ?_;rintro v w3 ⟨rfl,a2⟩;refine zh ?_;refine nE 6 3 (a0.trans a2) a1
 intro w3 a2;refine zh ?_;refine ae rfl rfl (⟨rfl,a3.trans a2⟩)
structure Cell0(O:Nat->Nat)(w:ln)(a:KU)(v:ox):Prop where
 z:O a.block=0
 c:w.cell? a=some v
theorem Cell0.upd{S:Nat->Prop}{O O':Nat->Nat}{w w':ln}{a:KU}{v:ox}(h:Cell0 O w a v)(u:rf S O w O' w'):Cell0 O' w' a v:=by
 have a1:=JB w a h.c;refine⟨tJ fun a0=>?_,iC (u.blk _ a1 (by rw[h.z];exact u.z)) h.c⟩
 rcases u.new _ a0 with h1|h1
 ·exact h1 h.z
 omega
theorem Cell0.ext{O:Nat->Nat}{w w':ln}{a:KU}{v:ox}(h:Cell0 O w a v)(e:BW w w'):Cell0 O w' a v:=⟨h.z,e.cell h.c⟩
theorem Gt{T xb:Nat}{O O1 O2:Nat->Nat}{w w1 w2:ln}{us:Array ox}{E:qy}(_:0<T)(hT:∀b,O b<T)(u1:rf (fun q=>q=T) O w O1 w1)(u2:rf (fun q=>q=T) O1 w1 O2 w2)(hx:vg O2 w2 T xb us E):
  BW w w2/\∀j u,us.toList[j]? = some u->Cell0 O w2 (nA xb j) u:=by
 have hO:O xb=0:=tJ fun a0=>by
  have h1:=u1.tag xb a0;have h2:=u2.tag xb (by rw[h1];exact a0);have:=hT xb;have:=hx.tag;omega
 refine⟨aD (u1.trans u2) fun b e=>?_,fun j u hu=>⟨?_,hx.cellsAdd j u hu⟩⟩
 ·have:=hT b;omega
 show O (nA xb j).block=0;have:(nA xb j).block=xb:=by simp only[De];split<;>rfl
 rw[this];exact hO
abbrev rZ(x:Lf):List ox:=[nI x.1,nI x.2.1,nI (x.2.2:Nat)]
abbrev K3:=ox×ox×Nat
abbrev G0(x:K3):List ox:=[x.1,x.2.1,nI (x.2.2:Nat)]
theorem I6:KG tp 182 190 3 24:=⟨L6,by kernel_rfl,zd⟩
theorem Jk:KG tp 183 187 3 56:=⟨vO,by kernel_rfl,zd⟩
theorem kU:KG tp 22 3 1 8:=⟨Jq,by kernel_rfl,zd⟩
theorem IA:cV tp 185 #[(0,1),(1,1),(2,1),(3,1),(4,1)]:=⟨_,underlying185,fun w=>by kernel_rfl⟩
theorem Iz:cV tp 187 #[(0,1),(1,1),(2,1)]:=⟨_,underlying187,fun w=>by kernel_rfl⟩
theorem Iy:cV tp 190 #[(0,1),(1,1),(2,1)]:=⟨_,underlying190,fun w=>by kernel_rfl⟩
structure Ks(O:Nat->Nat)(w:ln)(i:Nat)(kv:ox)(g:Gr)(xs:List K3):Prop where
 row:BJ G0 187 3 O w (i+2) kv xs
 len:xs.length=g.ks.length
 fr:∀k,k<xs.length->BJ aX 3 1 O w (i+6+2*k) (nth xs k).1 (g.fr k)
 lv:∀k,k<xs.length->BJ aX 3 1 O w (i+7+2*k) (nth xs k).2.1 (g.lv k)
 en:∀k,k<xs.length->(nth xs k).2.2=g.en k
theorem Ks.upd{S:Nat->Prop}{O O':Nat->Nat}{w w':ln}{i:Nat}{kv:ox}{g:Gr}{xs:List K3}(h:Ks O w i kv g xs)(u:rf S O w O' w')(hS:∀q,i<=q->q<i+8+2*g.ks.length->¬S q):Ks O' w' i kv g xs:=
 have hl:=h.len
 ⟨h.row.upd u zo (hS _ zo zo),h.len,fun k hk=>(h.fr k hk).upd u zo (hS _ zo zo),fun k hk=>(h.lv k hk).upd u zo (hS _ zo zo),h.en⟩
abbrev nfC(se:Bool)(lv kv nv tv:ox):Array ox:=#[.bool se,lv,kv,nv,tv]
structure NfO(O:Nat->Nat)(w:ln)(i nb:Nat)(se:Bool)(g:Gr)(nv tv lv kv:ox)(xs:List K3):Prop where
 blk:vg O w i nb (nfC se lv kv nv tv) 185
 ls:BJ rZ 190 3 O w (i+1) lv g.ls
 ks:Ks O w i kv g xs
theorem NfO.updT{S:Nat->Prop}{O O':Nat->Nat}{w w':ln}{i nb:Nat}{se:Bool}{g:Gr}{nv tv lv kv:ox}{xs:List K3}(h:NfO O w i nb se g nv tv lv kv xs)(u:rf S O w O' w')(hi:i≠0)(hS:∀q,i<=q->q<i+8+2*g.ks.length->¬S q):NfO O' w' i nb se g nv tv lv kv xs:=
 ⟨h.blk.upd u hi (hS _ (ow _) zo),h.ls.upd u zo (hS _ zo zo),h.ks.upd u hS⟩
theorem NfO.upd{S:Nat->Prop}{O O':Nat->Nat}{w w':ln}{i nb:Nat}{se:Bool}{g:Gr}{nv tv lv kv:ox}{xs:List K3}(h:NfO O w i nb se g nv tv lv kv xs)(u:rf S O w O' w')(hi:i≠0)(hS:∀q,i<=q->¬S q):NfO O' w' i nb se g nv tv lv kv xs:=h.updT u hi fun q h _=>hS q h
theorem NfO.ext{O:Nat->Nat}{w w':ln}{i nb:Nat}{se:Bool}{g:Gr}{nv tv lv kv:ox}{xs:List K3}(h:NfO O w i nb se g nv tv lv kv xs)(e:BW w w')(hi:i≠0):NfO O w' i nb se g nv tv lv kv xs:=
 h.upd (aa (S:=fun _=>False) (fun h=>h) O e) hi fun _ _ h=>h
def NfP(B:Nat)(O:Nat->Nat)(w w':ln)(i nb:Nat)(se:Bool)(g:Gr)(nv tv:ox):Prop:=
 ∃O' lv kv xs,rf (fun q=>i<=q) O w O' w'/\Gi B O' w'/\NfO O' w' i nb se g nv tv lv kv xs
section
variable{O:Nat→Nat}{w:ln}{i nb:Nat}{se:Bool}{g:Gr}{nv tv lv kv:ox}{xs:List K3}
theorem NfO.c0(h:NfO O w i nb se g nv tv lv kv xs):w.cell? (nA nb 0)=some (.bool se):=h.blk.cell 0 rfl
theorem NfO.c1(h:NfO O w i nb se g nv tv lv kv xs):w.cell? (nA nb 1)=some lv:=h.blk.cell 1 rfl
theorem NfO.c2(h:NfO O w i nb se g nv tv lv kv xs):w.cell? (nA nb 2)=some kv:=h.blk.cell 2 rfl
theorem NfO.c3(h:NfO O w i nb se g nv tv lv kv xs):w.cell? (nA nb 3)=some nv:=h.blk.cell 3 rfl
theorem NfO.c4(h:NfO O w i nb se g nv tv lv kv xs):w.cell? (nA nb 4)=some tv:=h.blk.cell 4 rfl
theorem Ks.f0(h:Ks O w i kv g xs){k:Nat}(hk:k<xs.length):w.cell? ((adr kv 3 k).add 0)=some (nth xs k).1:=h.row.sl.cell (j:=0) hk rfl
theorem Ks.f1(h:Ks O w i kv g xs){k:Nat}(hk:k<xs.length):w.cell? ((adr kv 3 k).add 1)=some (nth xs k).2.1:=h.row.sl.cell (j:=1) hk rfl
end
structure Bd(g:Gr)(M:Nat):Prop where
 ks:g.ks.length<=M
 ls:g.ls.length<=M
 fr:∀k,(g.fr k).length<=M
 lv:∀k,(g.lv k).length<=M
theorem Bd.mono{g:Gr}{M M':Nat}(h:Bd g M)(hm:M<=M'):Bd g M':=⟨by have:=h.ks;omega,by have:=h.ls;omega,fun k=>by have:=h.fr k;omega,fun k=>by have:=h.lv k;omega⟩
theorem Bd.knot{g:Gr}{M:Nat}(h:Bd g M):Bd g.knot (M+1):=⟨by rw[aG];have:=h.ks;omega,by have:=h.ls;show g.ls.length<=_;omega,fun k=>by
 rw[oq];split
 ·have:=h.fr k;omega
 ·simp,fun k=>by
 rw[oo];split
 ·have:=h.lv k;omega
 simp⟩
theorem Bd.free{g:Gr}{M:Nat}(h:Bd g M){a b:Nat}(ha:a<g.ks.length):Bd (g.free a b) (M+1):=⟨by rw[aV];have:=h.ks;omega,by have:=h.ls;show g.ls.length<=_;omega,fun k=>by
 rw[dL ha];split
 ·have:=h.fr a;simp;omega
 ·have:=h.fr k;omega,fun k=>by
 rw[oy ha];have:=h.lv k;omega⟩
theorem Bd.leaf{g:Gr}{M:Nat}(h:Bd g M){x c:Int}{a b:Nat}(ha:a<g.ks.length):Bd (g.leaf x c a b) (M+1):=⟨by rw[gy];have:=h.ks;omega,by have:=h.ls;rw[jN];simp;omega,fun k=>by
 rw[oe ha];have:=h.fr k;omega,fun k=>by
 rw[lR ha];split
 ·have:=h.lv a;simp;omega
 have:=h.lv k;omega⟩
theorem Bd.layO{g:Gr}{M:Nat}(h:Bd g M){k:Int}{i:Nat}(hi:i+1<g.ks.length):Bd (layO k g i) (M+2):=by
 unfold I4;split<;>split
 ·exact h.mono zo
 ·exact(h.free zo).mono zo
 ·exact(h.free hi).mono zo
 exact(h.free zo).free (by rw[aV];exact hi)
theorem Bd.often{g:Gr}{M:Nat}(h:Bd g M){a b:Nat}(ha:a<g.ks.length):Bd (bF g a b) (M+4):=by
 have h2:g.knot.knot.ks.length=g.ks.length+2:=by rw[aG,aG]
 unfold bF;exact(h.knot.knot.free zo).free (by rw[aV];omega)
mutual
theorem gz:∀(t:Nd) (a b:Nat) (g:Gr) (M:Nat),WF g->a<g.ks.length->b<g.ks.length->Bd g M->Bd (fy t a b g) (M+(9*nsz t-1))
 |.mk k c l,a,b,g,M,h,ha,hb,hM=>by
  unfold fy;simp only[nsz]
  split
  ·exact(Bt l a b g M h ha hb hM).mono zo
  split
  ·exact(By l a b g M h ha hb hM).mono zo
  split
  ·have hl:=dY g a b;have hwf:=eR h ha hb;obtain⟨h1,h2⟩:=lS l g.ks.length (g.ks.length+1) (bF g a b) hwf zo zo;have:=h2.len;have h3:=F5 l g.ks.length (g.ks.length+1) (bF g a b) (M+4) hwf zo zo (hM.often ha);exact(h3.layO zo).mono zo
  split
  ·exact(hM.free ha).mono zo
  exact(hM.leaf ha).mono zo
theorem Bt:∀(l:List Nd) (a b:Nat) (g:Gr) (M:Nat),WF g->a<g.ks.length->b<g.ks.length->Bd g M->Bd (nh l a b g) (M+9*dr l)
 |[],_,_,g,M,_,_,_,hM=>hM.mono zo
 |t::r,a,b,g,M,h,ha,hb,hM=>by
  unfold nh;simp only[dr];have hp:=cN t
  split
  ·exact(gz t a b g M h ha hb hM).mono zo
  have hl:=aG g;obtain⟨h1,h2⟩:=ct t a g.ks.length g.knot h.knot zo zo;have:=h2.len;exact(Bt r g.ks.length b _ _ h1 zo zo (gz t a g.ks.length g.knot (M+1) h.knot zo zo hM.knot)).mono zo
theorem By:∀(l:List Nd) (a b:Nat) (g:Gr) (M:Nat),WF g->a<g.ks.length->b<g.ks.length->Bd g M->Bd (nn l a b g) (M+9*dr l)
 |[],_,_,g,M,_,_,_,hM=>hM.mono zo
 |t::r,a,b,g,M,h,ha,hb,hM=>by
  unfold nn;simp only[dr];have hp:=cN t;obtain⟨h1,h2⟩:=ct t a b g h ha hb;have:=h2.len;exact(By r a b _ _ h1 zo zo (gz t a b g M h ha hb hM)).mono zo
theorem F5:∀(l:List Nd) (a b:Nat) (g:Gr) (M:Nat),WF g->a<g.ks.length->b<g.ks.length->Bd g M->Bd (nj l a b g) (M+9*dr l)
 |[],_,_,g,M,_,_,_,hM=>hM.mono zo
 |t::_,a,b,g,M,h,ha,hb,hM=>by
  unfold nj;simp only[dr];exact(gz t a b g M h ha hb hM).mono zo
end
theorem Upd.hi{U i:Nat}{O O':Nat->Nat}{w w':ln}(h:rf (fun q=>q=U) O w O' w')(hi:i≠0)(hU:i<=U):rf (fun q=>i<=q) O w O' w':=h.mono (fun q e=>by rw[e];exact hU) zo
theorem iZ(B:Nat)(O:Nat->Nat)(w:ln)(i nb:Nat)(se:Bool)(g:Gr)(nv tv lv kv:ox)(xs:List K3)(hi:i≠0)(hR:Gi B O w)(h:NfO O w i nb se g nv tv lv kv xs)(hM:g.ks.length<=100000000):
  Gc tp 104 [nP nb] w fun v w'=>v=nI ((g.ks.length:Nat):Int)/\NfP B O w w' i nb se g.knot nv tv:=by
 have a0:=h.ks.len;refine ps func104 ntmps104 rfl rfl ?_;refine zh ?_;refine zv (RV.ld h.c2 rfl) ?_;refine zv (aF Iz (zeroValue187 _) rfl (by first|rfl|(simp only[pZ,rU];rfl)) rfl rfl) ?_;refine Kq Jk h.ks.row hR (((nS,nS,0):K3)) (fun _=>rfl) rfl rfl rfl (by simp[tG]) zo zo zo zd rfl rfl ?_;intro a3 w1 O1 a4 a5 a';have a6:=h.blk.upd a5 hi zo;refine zh ?_;refine ak (j:=2) a6 rfl (sizeOf183 _) a4.one rfl rfl rfl ?_;have a8:=a6.set 2 a3;have a2:rf (fun q=>q=i) O1 w1 O1 (w1.setCell ⟨nb,2,none⟩ a3):=th (fun e=>hi e.symm) a6.tag rfl;have a1:=a4.upd a2 zo zo;have a9:=a'.upd a2;generalize w1.setCell ⟨nb,2,none⟩ a3=w2 at *;have c2:w2.cell? (nA nb 2)=some a3:=a8.cell 2 rfl;have b0:=a1.sl;have b1:∀k,i+6<=k->¬(k=i+2):=fun k hk=>zo
 have a7:(xs++[((nS,nS,0):K3)]).length=g.ks.length+1:=by simp[a0]
 refine zh ?_;refine ae rfl rfl (⟨by rw[a7];congr 1;omega,O1,lv,a3,xs++[(nS,nS,0)],(Upd.hi a5 hi zo).trans (Upd.hi a2 hi (ow _)),a9,⟨a8,(h.ls.upd a5 zo zo).upd a2 zo zo,⟨a1,by rw[a7,aG],fun k hk=>?_,fun k hk=>?_,fun k hk=>?_⟩⟩⟩)
 ·rw[aA,oq,a0]
  by_cases e:k<g.ks.length
  ·rw[if_pos e,if_pos e];exact((h.ks.fr k zo).upd a5 zo zo).upd a2 zo zo
  rw[if_neg e,if_neg e,show k-g.ks.length=0 from by omega,ar];exact Jv _ _ _ _ _ _
 ·rw[aA,oo,a0]
  by_cases e:k<g.ks.length
  ·rw[if_pos e,if_pos e];exact((h.ks.lv k zo).upd a5 zo zo).upd a2 zo zo
  rw[if_neg e,if_neg e,show k-g.ks.length=0 from by omega,ar];exact Jv _ _ _ _ _ _
 rw[aA,rQ,a0]
 by_cases e:k<g.ks.length
 ·rw[if_pos e,if_pos e];exact h.ks.en k zo
 rw[if_neg e,if_neg e,show k-g.ks.length=0 from by omega,ar]
theorem gA(B:Nat)(O:Nat->Nat)(w:ln)(i nb:Nat)(se:Bool)(g:Gr)(nv tv lv kv:ox)(xs:List K3)(a b:Nat)(hi:i≠0)(hR:Gi B O w)(h:NfO O w i nb se g nv tv lv kv xs)(ha:a<g.ks.length)(hM:(g.fr a).length<=100000000)(b8:g.ks.length<=100000000):
  Gc tp 105 [nP nb,nI (a:Nat),nI (b:Nat)] w fun _ w'=>NfP B O w w' i nb se (g.free a b) nv tv:=by
 have a8:=h.ks.len;have a2:a<xs.length:=zo;have hs:=h.ks.row.sl;have f0:=h.ks.f0 a2;refine ps func105 ntmps105 rfl rfl ?_;have a0:w.drew.cell? (nA nb 2)=some kv:=h.c2;have b6:w.drew.cell? ((adr kv 3 a).add 0)=some (nth xs a).1:=f0;refine aI (fun W=>W.cell? (nA nb 2)=some kv) 19 rfl zk ?_;refine zrm 0 rfl a0 rfl ?_;refine zr 1 rfl a0 (fun _=>aq rfl) ?_;refine zrf 2 rfl a0 rfl ?_;refine zt 3 rfl a0 (fun w1 a7=>RV.ld a7 rfl) ?_;refine zrm 4 rfl a0 rfl ?_;refine zrm 5 rfl a0 rfl ?_;refine zr 6 rfl a0 (fun _=>aq rfl) ?_;refine zrf 7 rfl a0 rfl ?_;refine zt 8 rfl a0 (fun w1 a7=>RV.ld a7 rfl) ?_;refine zrm 9 rfl a0 rfl ?_;refine zr 10 rfl a0 (fun _=>ah hs.sh vO (G6 _) rfl rfl a rfl a2) ?_;refine zrf 11 rfl a0 rfl ?_;refine zrm 13 rfl a0 rfl ?_;refine bZ 12 14 kU (enc:=aX) b rfl rfl zk zk zk zk (fun W hE=>KX (hE.cell b6) (isAgg22 _) rfl) (fun W hE=>hE.cell a0) rfl rfl rfl zd rfl rfl rfl rfl rfl ?_;intro sv w0 b1 b5;have b0:rf (fun _=>False) O w O w0:=aa (fun h=>h) O ((sP w).drew.trans b5);have h0:=h.upd b0 hi fun _ _ h=>h
 have b4:=hR.upd b0;refine ug 15 zk rfl ?_;refine aC kU (h0.ks.fr a a2) b4 b1 (by simp) rfl rfl (by simp) (by simp[tG]) (by simp;omega) (by simp;omega) zo rfl ?_;intro fv w1 O1 a6 a4 b3;have h1:=h0.blk.upd a4 hi zo;have a':=h0.ks.row.upd a4 zo zo;have d1:w1.cell? (nA nb 2)=some kv:=h1.cell 2 rfl;refine zh ?_;refine af (d1) ?_;refine zr 16 rfl (d1) (fun _=>ah hs.sh vO (G6 _) rfl rfl a rfl a2) ?_;refine zrf 17 rfl (d1) rfl ?_;refine ug 18 zk rfl ?_;refine oS a' a a2 0 zd ((fv,(nth xs a).2.1,(nth xs a).2.2):K3) (sizeOf22 _) a6.one zo rfl rfl rfl rfl ?_;intro w2 a9 a3;have h2:=h1.upd a3 hi zo;have d2:w2.cell? (nA nb 2)=some kv:=h2.cell 2 rfl;refine zh ?_;refine af (d2) ?_;have b2:rf (fun q=>i<=q) O w O1 w2:=((b0.mono (fun _ h=>h.elim) zo).trans (Upd.hi a4 hi zo)).trans (Upd.hi a3 hi zo);have a5:∀k,k<xs.length->k≠a->BJ aX 3 1 O1 w2 (i+6+2*k) (nth xs k).1 (g.fr k):=fun k hk b7=>((h0.ks.fr k hk).upd a4 zo zo).upd a3 zo zo
 have a1:∀k,k<xs.length->BJ aX 3 1 O1 w2 (i+7+2*k) (nth xs k).2.1 (g.lv k):=fun k hk=>((h0.ks.lv k hk).upd a4 zo zo).upd a3 zo zo
 refine Da zk ?_;refine aH rfl (⟨O1,lv,kv,xs.set a (fv,(nth xs a).2.1,(nth xs a).2.2),b2,b3.upd a3,⟨h2,(h0.ls.upd a4 zo zo).upd a3 zo zo,⟨a9,by rw[sx,aV];exact a8,fun k hk=>?_,fun k hk=>?_,fun k hk=>?_⟩⟩⟩)
 ·rw[sx]at hk;rw[aT a2,dL ha]
  by_cases e:k=a
  ·subst e;rw[if_pos rfl,if_pos rfl];exact a6.upd a3 zo zo
  rw[if_neg e,if_neg e];exact a5 k hk e
 ·rw[sx]at hk;rw[aT a2,oy ha]
  by_cases e:k=a
  ·subst e;rw[if_pos rfl];exact a1 k hk
  rw[if_neg e];exact a1 k hk
 rw[sx]at hk;rw[aT a2,xd ha]
 by_cases e:k=a
 ·subst e;rw[if_pos rfl];exact h.ks.en k hk
 rw[if_neg e];exact h.ks.en k hk
section
def Dg(s:List UInt8)(m:List UInt8×Nd):Bool:=(m.1==s&&bj m.2)&&(m.2.kind != 9)
def gK(kn:Kn)(r:List UInt8):PR:=
 if r.takeWhile aj=[97,110,121]then .ok (.mk 1 0 []) (r.dropWhile aj)
 else match kn.reverse.find? (Dg (r.takeWhile aj))with
  |some m=>.ok m.2 (r.dropWhile aj)
  |none=>dR 0 r
def jo(kn:Kn)(al:Option (List UInt8->PR))(r0:List UInt8):PR:=
 if aj ((aw r0).headD 0)=true then gK kn (aw r0)
 else if(aw r0).headD 0=126 then dR 2 (aw r0).tail
 else if(aw r0).headD 0=94 then .ok (.mk 3 0 []) (aw r0).tail
 else if(aw r0).headD 0=40 then cu al (aw r0)
 else .bad (aw r0).length 4
def fm(kn:Kn)(al:Option (List UInt8->PR))(r0:List UInt8):PR:=
 match jo kn al r0 with
 |.bad p e=>.bad p e
 |.ok t r1=>
  match opM ((aw r1).headD 0)with
  |some k=>.ok (.mk (6+(k:Nat)) 0 [t]) (aw r1).tail
  |none=>.ok t (aw r1)
def dA(kn:Kn)(al:Option (List UInt8->PR)):Nat->List Nd->List UInt8->PR
 |0,acc,r=>.ok (oneM 4 acc) r
 |n+1,acc,r=>
  if fD ((aw r).headD 0)=true then
   match fm kn al (aw r)with
   |.bad p e=>.bad p e
   |.ok t r2=>dA kn al n (acc++[t]) r2
  else .ok (oneM 4 acc) (aw r)
def CD(kn:Kn)(al:Option (List UInt8->PR))(r:List UInt8):PR:=
 match fm kn al r with
 |.bad p e=>.bad p e
 |.ok t r1=>dA kn al (r1.length+1) [t] r1
def cR(kn:Kn)(al:Option (List UInt8->PR)):Nat->List Nd->List UInt8->PR
 |0,acc,r=>.ok (oneM 5 acc) r
 |n+1,acc,r=>
  if(aw r).headD 0=124 then
   match CD kn al (aw r).tail with
   |.bad p e=>.bad p e
   |.ok t r2=>cR kn al n (acc++[t]) r2
  else .ok (oneM 5 acc) (aw r)
def oQ(kn:Kn)(al:Option (List UInt8->PR))(r:List UInt8):PR:=
 match CD kn al r with
 |.bad p e=>.bad p e
 |.ok t r1=>cR kn al (r1.length+1) [t] r1
def xn(kn:Kn):Nat->List UInt8->PR
 |0=>oQ kn none
 |d+1=>oQ kn (some (xn kn d))
def fz(kn:Kn)(l:List UInt8):XR:=
 if 4096<l.length then .bad 0 3 else
 match xn kn 20 l with
 |.bad p e=>.bad (l.length-p) e
 |.ok t r=>if(aw r).length≠0 then .bad (l.length-(aw r).length) 4 else if 2000<nsz t then .bad 0 3 else .ok t
variable{kn:Kn}
theorem vM(r:List UInt8)(h:aj (r.headD 0)=true):Good r (gK kn r):=by
 unfold gK
 split
 ·exact jM h
 split
 ·exact jM h
 exact oI _ _
theorem qE{al:Option (List UInt8->PR)}(ha:mW al)(r:List UInt8):Good r (jo kn al r):=by
 refine Good.mono ?_ (bn r);unfold jo
 split
 ·rename_i h;exact vM _ h
 split
 ·rename_i h;obtain⟨g1,g2⟩:=cm (r:=aw r) (by rw[h];decide);exact(oI _ _).mono g1
 split
 ·rename_i h;obtain⟨g1,g2⟩:=cm (r:=aw r) (by rw[h];decide);exact⟨g1,zo⟩
 split
 ·rename_i h;exact pO ha _ (by rw[h];decide)
 exact⟨ow _,zd⟩
theorem gn{al:Option (List UInt8->PR)}(ha:mW al)(r:List UInt8):Good r (fm kn al r):=by
 have h:=qE (kn:=kn) ha r;unfold fm
 cases hf:jo kn al r with
 |bad p e=>rw[hf]at h;exact h
 |ok t r1=>
  rw[hf]at h;have h2:=dy r1;dsimp only
  split
  ·rename_i k hk;obtain⟨g1,g2⟩:=cm (D3 hk);exact⟨(g1.trans (bn r1)).trans h.1,by have:=h.2;omega⟩
  exact⟨(bn r1).trans h.1,by have:=h.2;omega⟩
theorem kq{al:Option (List UInt8->PR)}(ha:mW al):∀(n:Nat) (a0:List Nd) (r:List UInt8),Ik r (dA kn al n a0 r)
 |0,a0,r=>J6 r
 |n+1,a0,r=>by
  unfold dA
  split
  ·have h:=(gn (kn:=kn) ha (aw r)).mono (bn r)
   cases hf:fm kn al (aw r)with
   |bad p e=>rw[hf]at h;exact h
   |ok t r2=>
    rw[hf]at h;have ih:=kq ha n (a0++[t]) r2;dsimp only
    cases hq:dA kn al n (a0++[t]) r2 with
    |bad p e=>rw[hq]at ih;exact⟨by have:=ih.1;have:=h.2;omega,ih.2⟩
    |ok t r3=>rw[hq]at ih;exact zR ih h.1
  exact bn r
theorem ku{al:Option (List UInt8->PR)}(ha:mW al)(r:List UInt8):Good r (CD kn al r):=by
 have h:=gn (kn:=kn) ha r;unfold CD
 cases hf:fm kn al r with
 |bad p e=>rw[hf]at h;exact h
 |ok t r1=>
  rw[hf]at h;have ih:=kq (kn:=kn) ha (r1.length+1) [t] r1;dsimp only
  cases hq:dA kn al (r1.length+1) [t] r1 with
  |bad p e=>rw[hq]at ih;exact⟨by have:=ih.1;have:=h.2;omega,ih.2⟩
  |ok t r3=>rw[hq]at ih;exact⟨zR ih h.1,by have:=Ib ih;have:=h.2;omega⟩
theorem jw{al:Option (List UInt8->PR)}(ha:mW al):∀(n:Nat) (a0:List Nd) (r:List UInt8),Ik r (cR kn al n a0 r)
 |0,a0,r=>J6 r
 |n+1,a0,r=>by
  unfold cR
  split
  ·rename_i hc;obtain⟨g1,g2⟩:=cm (r:=aw r) (by rw[hc];decide);have h:=((ku (kn:=kn) ha (aw r).tail).mono g1).mono (bn r)
   cases hf:CD kn al (aw r).tail with
   |bad p e=>rw[hf]at h;exact h
   |ok t r2=>
    rw[hf]at h;have ih:=jw ha n (a0++[t]) r2;dsimp only
    cases hq:cR kn al n (a0++[t]) r2 with
    |bad p e=>rw[hq]at ih;exact⟨by have:=ih.1;have:=h.2;omega,ih.2⟩
    |ok t r3=>rw[hq]at ih;exact zR ih h.1
  exact bn r
theorem oP{al:Option (List UInt8->PR)}(ha:mW al)(r:List UInt8):Good r (oQ kn al r):=by
 have h:=ku (kn:=kn) ha r;unfold oQ
 cases hf:CD kn al r with
 |bad p e=>rw[hf]at h;exact h
 |ok t r1=>
  rw[hf]at h;have ih:=jw (kn:=kn) ha (r1.length+1) [t] r1;dsimp only
  cases hq:cR kn al (r1.length+1) [t] r1 with
  |bad p e=>rw[hq]at ih;exact⟨by have:=ih.1;have:=h.2;omega,ih.2⟩
  |ok t r3=>rw[hq]at ih;exact⟨zR ih h.1,by have:=Ib ih;have:=h.2;omega⟩
theorem jd:∀(d:Nat) (r:List UInt8),Good r (xn kn d r)
 |0,r=>oP (fun f e=>by cases e) r
 |d+1,r=>oP (fun f e r=>by cases e;exact jd d r) r
theorem vK{r:List UInt8}{m:List UInt8×Nd}(ha:¬r.takeWhile aj=[97,110,121])(h:kn.reverse.find? (Dg (r.takeWhile aj))=some m):gK kn r=.ok m.2 (r.dropWhile aj):=by
 unfold gK;rw[if_neg ha,h]
theorem vL{r:List UInt8}(ha:¬r.takeWhile aj=[97,110,121])(h:kn.reverse.find? (Dg (r.takeWhile aj))=none):gK kn r=dR 0 r:=by
 unfold gK;rw[if_neg ha,h]
end
end Go.Proofs.YtlehnbkknlpkbaaGreatDoor
namespace Go.VL
section
open Go.RowKit
section
variable{P:uM}{N:Nat}{ro:Option Nat}{ds:List Deferred}{Q:JX→KH→ln→Prop}{st:St}{w:ln}
theorem Ab{ops:Array Gv}{a1:List Gv}{t:qy}{p:String}{e:Array Kb}{d:Nat}{x y z:CZ}{a3:Array qy}{l:Nat}{u u2:ox}{R:Ending->ln->Prop} 
  (hx:ev st x=some (.func (.yield l) #[] #[])) (hy:ev st y=some u) (hz:ev st z=some u2) (hc:YieldAt DH 0 P l #[u,u2] w R) (hd:B1 d N=true)
  (hR:∀e w',R e w'->∃v,e=.returned v)
  (h:∀v w',R (.returned v) w'->WLI none P N ds ops Q a1 ((d,v)::st) w'):WLI none P N ds ops Q (⟨some d,.call ⟨.value x,#[y,z],a3⟩,t,p,e,none⟩::a1) st w:=by
 intro a ha;unfold wpListIn;rw[if_pos (cd rfl _)];refine⟨fun _ _=>trivial,?_⟩;obtain⟨fn,a0,assign,body,a4,hr⟩:=hc;have a2:(Oper.semAt (Fr none).round ({ a with defers:=ds }:KH).eval ⟨some d,.call ⟨.value x,#[y,z],a3⟩,t,p,e,none⟩).run P w=.ok (.round l fn a0 assign body) w:=by
  rw[jP];rw[show(Fr none).round=none from rfl,Oper.semAt_none];simp only[execOp,resolve,xK,rI,zI,ha.ev hx,ha.ev hy,ha.ev hz];simp[Lr,invoke,a4]
 rw[a2];refine⟨fun hh=>by simp[DH]at hh,?_⟩;refine Lw (hr:RoundIn DH _ P l fn a0 assign body w _) ?_;intro e' w' q;obtain⟨v,rfl⟩:=hR _ _ q;have:=h v w' q _ (ha.put hd v);simpa[Ls]using this
end
def Ij{α:Type}(P:uM)(gf:Nat)(lb:List ox)(ex:Nat->ox)(enc:α->ox)(xs:List α)(Rd:ln->Prop):Prop:=
 ∀(l:Nat) (J:Nat->ln->Prop) (Jx:ln->Prop) (W:ln),(∀i W,J i W->Rd W)->(∀i W W',J i W->BW W W'->J i W')->
  (∀i (hi:i<xs.length) W W',J i W->BW W W'->YieldAt DH 0 P l #[ex i,enc xs[i]] W' fun e W2=>((e=.returned (.bool true)/\J (i+1) W2)\/(e=.returned (.bool false)/\Jx W2))/\∀b,W.heap.size<=b->b<W'.heap.size->W2.heap[b]? = W'.heap[b]?)->
  J 0 W->Gc P gf (.func (.yield l) #[] #[]::lb) W fun _ W'=>J xs.length W'\/Jx W'
theorem so{P:uM}{N:Nat}{ds:List Deferred}{Q:JX->KH->ln->Prop}{st:St}{w:ln}{α:Type}{g:CZ}{p0 p1 d0:Nat}{T:qy}{id:Nat}{e1 e2:Array Kb}{q1 q2:String}{t1 t2:qy}{body:Code} 
  {gf:Nat} {lb:List ox} {ex:Nat->ox} {enc:α->ox} {xs:List α} {Rd:ln->Prop}
  (hg:ev st g=some (.func (.func gf) #[] lb.toArray)) (eg:∀args w,(callFunc gf args).run P w=.ok (.enter gf args) w) (it:Ij P gf lb ex enc xs Rd)
  (e':B1 p0 N=true) (e9:B1 p1 N=true) (f7:B1 d0 N=true) {z:ox} (hz:∀W:ln,(Jy T).run P W=.ok z W) 
  {B:Nat} {O:Nat->Nat} (r:Gi B O w) (L K:Nat) (hL:L≠0) (hK:K≠0) (d3:L≠K)
  (b0:∀(W:ln) (O':Nat->Nat) (b:Nat) (y:ox) (x:α) (_:x∈xs) (ops:Array Gv) (Q':JX->KH->ln->Prop),vg O' W K b z.cells T->
   (∀w2,vg O' w2 K b (enc x).cells T->rf (fun j=>j=K) O' W O' w2->WL P N ops Q' [] ((d0,nP b)::(p1,enc x)::(p0,y)::st) w2)->
   WL P N ops Q' [⟨none,.store T (.tmp d0) (.tmp p1),t2,q2,e2,none⟩] ((d0,nP b)::(p1,enc x)::(p0,y)::st) W)
  (I:Nat->(Nat->Nat)->ln->Prop) (Ix:Code->(Nat->Nat)->ln->Prop)
  (hI:∀i O W O' W',I i O W->rf (fun j=>j=L\/j=K) O W O' W'->I i O' W') (d4:∀c O W O' W',Ix c O W->rf (fun j=>j=L) O W O' W'->Ix c O' W')
  (g1:∀i O W,I i O W->Rd W) (h0:I 0 O w)
  (b6:∀l i (hi:i<xs.length) b O' W,Gi B O' W->I i O' W->vg O' W K b (enc xs[i]).cells T->
   WI (some l) P N [] body (AX O' W L (I (i+1)) Ix) ((d0,nP b)::(p1,enc xs[i])::(p0,ex i)::st) W)
  (b5:∀D O' W,Gi B O' W->O' D=L->I xs.length O' W->W.heap[D]? = some (.deferred (some []))->QI N ({ target:=.collected D,args:=#[] }::ds) Q .normal st W)
  (hstop:∀D c O' W,Gi B O' W->O' D=L->Ix c O' W->W.heap[D]? = some (.deferred (some []))->WI none P N ({ target:=.collected D,args:=#[] }::ds) c Q st W) :
  WI none P N ds (.rangeFunc g #[p0,p1] (.region id #[⟨some d0,.alloc T,t1,q1,e1,none⟩,⟨none,.store T (.tmp d0) (.tmp p1),t2,q2,e2,none⟩] false) body) Q st w:=by
 intro a ha;refine wpIn_rangeFunc ?_;intro fn g7;rw[show(Fr none).round=none from rfl];obtain⟨D,hD⟩:∃D,D=w.heap.size:=⟨_,rfl⟩
 obtain⟨e8,b8⟩:∃c,c=Code.region id #[⟨some d0,.alloc T,t1,q1,e1,none⟩,⟨none,.store T (.tmp d0) (.tmp p1),t2,q2,e2,none⟩] false:=⟨_,rfl⟩
 rw[<-b8];obtain⟨a5,a2⟩:∃a5:LoopState->Option Code->Loop,a5=fun st pe=>{ state:=st,pending:=pe,fn,tmps:=a.tmps,params:=#[p0,p1],assign:=e8,body,defers:=D }:=⟨_,rfl⟩
 obtain⟨W1,b'⟩:∃W1,(w.alloc (.deferred (some []))).alloc (.loop (a5 .ready none))=W1:=⟨_,rfl⟩
 obtain⟨O1,d2⟩:∃O1,lJ (lJ O D L) (D+1) L=O1:=⟨_,rfl⟩
 have d6:¬(fun j=>j=L) 0:=fun e=>hL e.symm
 have e5:rf (fun j=>j=L) O w (lJ O D L) (w.alloc (.deferred (some []))):=by rw[hD];exact J9 d6 r _ L
 have e6:rf (fun j=>j=L) O w O1 W1:=by
  rw[<-b',<-d2];refine e5.trans ?_;have:=J9 (S:=fun j=>j=L) d6 (r.upd e5) (.loop (a5 .ready none)) L
  rwa[K7,<-hD]at this
 have g2:Gi B O1 W1:=r.upd e6;have g3:W1.heap[D+1]? = some (.loop (a5 .ready none)):=by
  rw[<-b',hD];have:=JJ (w.alloc (.deferred (some []))) (.loop (a5 .ready none));rwa[K7]at this
 have g4:W1.heap[D]? = some (.deferred (some [])):=by
  rw[<-b',hD];exact(Below.heap_alloc _ _ _ (by simp)).trans (JJ w _)
 have hO1D:O1 D=L:=by rw[<-d2];unfold lJ;rw[if_neg zo,if_pos rfl]
 have hO1L:O1 (D+1)=L:=by rw[<-d2];exact eB _ _ _
 have g5:I 0 O1 W1:=hI _ _ _ _ _ h0 (e6.mono (fun _ h=>.inl h) (by rintro(h|h);exact hL h.symm;exact hK h.symm))
 refine⟨D+1,[{ target:=.collected D,args:=#[] }],W1,{ target:=.fn (.func gf) lb.toArray,args:=#[.func (.yield (D+1)) #[] #[]] },W1,gf,
  #[.func (.yield (D+1)) #[] #[]]++lb.toArray,W1,?_,?_,fun _ _=>trivial,?_,fun hh=>by simp[DH]at hh,?_⟩
 ·rw[<-b',a2,hD];exact run_enterLoop_outer _ _ _ _ _
 ·simp only[resolve,ha.evD hg ds];simp[go_sem]
 ·simp[invoke,go_sem,eg]
 have hJ:=it (D+1)
  (fun i W=>∃O',Gi B O' W/\O' D=L/\O' (D+1)=L/\I i O' W/\W.heap[D+1]? = some (.loop (a5 .ready none))/\W.heap[D]? = some (.deferred (some [])))
  (fun W=>∃c O',Gi B O' W/\O' D=L/\O' (D+1)=L/\Ix c O' W/\W.heap[D+1]? = some (.loop (a5 .done (some c)))/\W.heap[D]? = some (.deferred (some [])))
  W1 (fun i W ⟨O',_,_,_,h,_⟩=>g1 i O' W h) (fun i W W' ⟨O',h1,h2,h3,h4,h5,h6⟩ hE=>⟨O',h1.ext hE,h2,h3,hI _ _ _ _ _ h4 (aa (by rintro(h|h);exact hL h.symm;exact hK h.symm) _ hE),(hE.block _ (bB h5)).trans h5,(hE.block _ (bB h6)).trans h6⟩) ?_ ⟨O1,g2,hO1D,hO1L,g5,g3,g4⟩
 ·unfold Gc at hJ;rw[show(Value.func (.yield (D+1)) #[] #[]::lb).toArray = #[.func (.yield (D+1)) #[] #[]]++lb.toArray from by simp]at hJ;refine Ly (callsIn_wide.2 hJ:CallsIn DH _ P gf _ W1 _) ?_;rintro e W2 q
  cases e with
  |returned v=>
   rcases q with⟨O',a7,b2,b1,hi,hl,hk⟩|⟨c,O',a7,b2,b1,hi,hl,hk⟩
   ·refine⟨none,_,by have:=run_endLoop (P:=P) hl (by rw[a2];simp);rw[a2]at this;exact this,?_⟩;have b3:=Fm hL b1 (w:=W2) (.loop { a5 .ready none with state:=.exhausted });rw[a2]at b3;have:=b5 D O' _ (a7.upd b3) b2 (hI _ _ _ _ _ hi (b3.mono (fun _ h=>.inl h) (by rintro(h|h);exact hL h.symm;exact hK h.symm))) ((uw zo).trans hk) a ha;exact this
   refine⟨some c,_,by have:=run_endLoop (P:=P) hl (by rw[a2];simp);rw[a2]at this;exact this,?_⟩;have b3:=Fm hL b1 (w:=W2) (.loop { a5 .done (some c)with state:=.exhausted });rw[a2]at b3;exact hstop D c O' _ (a7.upd b3) b2 (d4 _ _ _ _ _ hi b3) ((uw zo).trans hk) a ha
  |panicked c=>exact q.elim
  |outgrown=>exact q.elim
 rintro i hi W0 W ⟨O',e7,b2,b1,c8,c7,e0⟩ c5;have a7:=e7.ext c5;have f6:=hI _ _ _ _ _ c8 (aa (S:=fun j=>j=L\/j=K) (by rintro(h|h);exact hL h.symm;exact hK h.symm) O' c5);have hl:=(c5.block _ (bB c7)).trans c7;have hk:=(c5.block _ (bB e0)).trans e0;have g6:=bB c7;have hy:=run_yield (P:=P) (args:=#[ex i,enc xs[i]]) hl (by rw[a2];rfl);rw[a2]at hy;refine⟨fn,_,e8,body,hy,roundIn_of_wpIn trivial ?_⟩;have c9:Lo N ((a.put (some p0) (ex i)).put (some p1) (enc xs[i])) ((p1,enc xs[i])::(p0,ex i)::st):=(ha.put e' _).put e9 _;have d1:({ tmps:=(#[p0,p1].zip #[ex i,enc xs[i]]).foldl (fun tmps (t,a)=>tmps.setIfInBounds t a) a.tmps,defers:=[] }:KH) = { (a.put (some p0) (ex i)).put (some p1) (enc xs[i])with defers:=[] }:=by simp[Ls]
 rw[d1];rw[b8];refine(uu (ro:=some (D+1)) (ds:=[]) (P:=P) (N:=N) (.inr rfl) (fun _ _ h=>h) ?_:WI (some (D+1)) P N [] _ _ ((p1,enc xs[i])::(p0,ex i)::st) W) _ c9;refine ax a7 K hK (hz W) f7 ?_;intro b w1 O2 hb g0 g9 g';refine b0 w1 O2 b (ex i) xs[i] (J7 hi) _ _ hb ?_;intro w2 b7 f';refine AW (BG ?_);intro a3 f9;have c6:D+1<W.heap.size:=(Array.getElem?_eq_some_iff.1 hl).1;have b9:rf (fun j=>j=K) O' W O2 w2:=g0.trans f';have d9:w2.heap[D+1]? = some (.loop (a5 .ready none)):=(b9.blk (D+1) c6 (by rw[b1];exact d3)).trans hl;have f5:w2.heap[D]? = some (.deferred (some [])):=(b9.blk D zo (by rw[b2];exact d3)).trans hk;have ho2L:O2 (D+1)=L:=(b9.tag (D+1) (by rw[b1];exact hL)).trans b1;have ho2D:O2 D=L:=(b9.tag D (by rw[b2];exact hL)).trans b2;refine⟨_,run_beginRound d9 (by rw[a2]),?_⟩;have e4:=Fm hL ho2L (w:=w2) (.loop { a5 .ready none with state:=.busy });have a':¬(fun j=>j=L\/j=K) 0:=by rintro(h|h);exact hL h.symm;exact hK h.symm
 have a1:rf (fun j=>j=L\/j=K) O' W O2 (w2.putObj (D+1) (.loop { a5 .ready none with state:=.busy })):=(b9.mono (fun _ h=>.inr h) a').trans (e4.mono (fun _ h=>.inl h) a');have d8:(w2.putObj (D+1) (.loop { a5 .ready none with state:=.busy })).heap[D+1]? = some (.loop { a5 .ready none with state:=.busy }):=JF (bB d9);have d':(w2.putObj (D+1) (.loop { a5 .ready none with state:=.busy })).heap[D]? = some (.deferred (some [])):=(uw zo).trans f5;have c':=b6 (D+1) i hi b O2 _ (a7.upd a1) (hI _ _ _ _ _ f6 a1) (b7.upd e4 hK (fun e=>d3 e.symm)) a3 f9;generalize w2.putObj (D+1) (.loop { a5 .ready none with state:=.busy })=w3 at *;refine wpIn_mono c' ?_;have d5:∀(a0:Option Code) (O4:Nat->Nat) (w4:ln),rf (fun j=>j≠0/\j≠L) O2 w3 O4 w4->
   (Instr.endRound (D+1) a0).run P w4=.ok (.bool a0.isNone) (w4.putObj (D+1) (.loop (a5 (if a0.isNone then .ready else .done) a0)))/\
   rf (fun j=>j=L) O4 w4 O4 (w4.putObj (D+1) (.loop (a5 (if a0.isNone then .ready else .done) a0)))/\O4 D=L/\O4 (D+1)=L/\
   (w4.putObj (D+1) (.loop (a5 (if a0.isNone then .ready else .done) a0))).heap[D+1]? = some (.loop (a5 (if a0.isNone then .ready else .done) a0))/\
   (w4.putObj (D+1) (.loop (a5 (if a0.isNone then .ready else .done) a0))).heap[D]? = some (.deferred (some [])):=by
  intro a0 O4 w4 a6;have d7:=(a6.blk (D+1) (bB d8) (by rw[ho2L];exact fun h=>h.2 rfl)).trans d8;have f4:=(a6.blk D (bB d') (by rw[ho2D];exact fun h=>h.2 rfl)).trans d';have ho4D:O4 D=L:=(a6.tag D (by rw[ho2D];exact hL)).trans ho2D;have ho4L:O4 (D+1)=L:=(a6.tag (D+1) (by rw[ho2L];exact hL)).trans ho2L;have:=run_endRound (P:=P) a0 d7;rw[a2]at this ⊢;exact⟨this,Fm hL ho4L _,ho4D,ho4L,JF (bB d7),(uw zo).trans f4⟩
 have a9:∀(O4:Nat->Nat) (w4:ln) (o:Obj),rf (fun j=>j≠0/\j≠L) O2 w3 O4 w4->∀b,W0.heap.size<=b->b<W.heap.size->(w4.putObj (D+1) o).heap[b]? = W.heap[b]?:=by
  intro O4 w4 o a6 b g8 b7;have e3:O' b=0:=tJ fun f3=>by have:=(e7.rng b f3).2;omega
  have f8:=a1.zero b7 e3;have e1:=a1.blk b b7 (by rw[e3];rintro(h|h);exact hL h.symm;exact hK h.symm);have e2:=a6.blk b (K8 b7 a1.size) (by rw[f8];exact fun h=>h.1 rfl);rw[uw zo,e2,e1]
 rintro e a4 w4 q
 cases e with
 |normal=>
  obtain⟨O4,a6,b4⟩:=q;obtain⟨hr,a8,h1,h2,h3,h4⟩:=d5 none O4 w4 a6;exact⟨_,_,hr,.inl ⟨rfl,O4,((a7.upd a1).upd a6).upd a8,h1,h2,hI _ _ _ _ _ b4 (a8.mono (fun _ h=>.inl h) a'),h3,h4⟩,a9 O4 w4 _ a6⟩
 |ret=>
  obtain⟨O4,a6,b4⟩:=q;obtain⟨hr,a8,h1,h2,h3,h4⟩:=d5 (some .ret) O4 w4 a6;exact⟨_,_,hr,.inr ⟨rfl,.ret,O4,((a7.upd a1).upd a6).upd a8,h1,h2,d4 _ _ _ _ _ b4 a8,h3,h4⟩,a9 O4 w4 _ a6⟩
 |exit id'=>
  obtain⟨O4,a6,b4⟩:=q;obtain⟨hr,a8,h1,h2,h3,h4⟩:=d5 (some (.exit id')) O4 w4 a6;exact⟨_,_,hr,.inr ⟨rfl,.exit id',O4,((a7.upd a1).upd a6).upd a8,h1,h2,d4 _ _ _ _ _ b4 a8,h3,h4⟩,a9 O4 w4 _ a6⟩
 |_=>exact q.elim
end
end Go.VL
section
namespace Go.VL
section
variable{P:uM}{N:Nat}{ops:Array Gv}{Q:JX→KH→ln→Prop}{rest:List Gv}{st:St}{w:ln}
variable{t:qy}{p:String}{e:Array Kb}{d:Nat}{x y z:CZ}
theorem bS{T E:qy}{sz a0:Nat}(he:KG P T E sz a0){α:Type}{enc:α->List ox}{B:Nat}{O:Nat->Nat}(r:Gi B O w)(i:Nat)(a6:i≠0)(u:α){xv:ox}(hx:ev st x=some xv)(a2:xv.cells.toList=enc u)(a3:(enc u).length=sz)(hs:sz<=16777216)(hd:B1 d N=true) 
  (h:∀v w' O',BJ enc E sz O' w' i v [u]->rf (fun k=>k=i) O w O' w'->Gi B O' w'->WL P N ops Q rest ((d,v)::st) w'):WL P N ops Q (⟨some d,.buildSlice T 1 #[(0,x)],t,p,e,none⟩::rest) st w:=by
 obtain⟨a4,z,hi,hz,a1,a9,a8⟩:=he.parts;have a7:xv.cells.size=sz:=by rw[<-a3,<-a2];simp
 have a5:=he.pos;have u1:=J9 (S:=fun k=>k=i) (fun e=>a6 e.symm) r (.cells xv.cells E) i;refine JQ (v:=.slice (some ⟨w.heap.size,0,none⟩) 1 1) (w':=w.alloc (.cells xv.cells E)) hd (fun a ha=>?_) (h _ _ (lJ O w.heap.size i) ⟨⟨?_,fun g hg=>?_⟩,fun c hc=>by rw[C9.1 hc];exact a3⟩ u1 (r.upd u1))
 ·have:=run_buildSlice (P:=P) w T E 1 #[(0,xv)] xv.cells a4 z he.ht hi hz (by rw[a1];omega) (by rw[a1];omega) (by
   rw[a1]
   exact kR a7 (by simp))
  simp only[execOp,xK,rI,zI,ha.ev hx,pN,this,oU];rfl
 ·have:=World.ownsRow_lit (base:=0) (size:=sz) (e:=E) w xv.cells 1 (sN _) (by simp[maxLen]) zo;simpa[a2]using this
 simp[Value.ownBlock]at hg;subst hg;exact eB _ _ _
end
section
variable{P:uM}{N:Nat}{st:St}{w:ln}{fn:Func}{R:ox→ln→Prop}
theorem iP{t:Tmp}{T:qy}{q:KU}{us:List ox}(hr:fn.results = #[.cell t T])(hv:cC st t=some (.pointer (some q))) 
  (hc:∀j u,us[j]? = some u->w.cell? (q.add j)=some u) (hT:(isAgg T).run P w=.ok true w) (hn:(L3 T).run P w=.ok us.length w) (h:R (.agg us.toArray) w):Leave P N fn R [] st w:=
 Leave.nil (fun a ha=>by have h1:=ha.get _ _ hv;simp[results,hr,Array.getD_eq_getD_getElem?,h1,asAddr,dB hc hT hn]) h
end
end Go.VL
namespace Go.Proofs.YtlehnbkknlpkbaaGreatDoor
open Go.VL Go.Proofs
set_option maxRecDepth 10000
theorem elM:KG tp 168 243 4 56:=⟨L7,by kernel_rfl,zd⟩
theorem uJ(q:Option KU)(n c:Nat)(w:ln):Gc tp 236 [.slice q n c] w fun v w'=>∃b,v=.func (.func 237) #[] #[nP b]/\w'.cell? ⟨b,0,none⟩=some (.slice q n c)/\w.heap.size<=b/\BW w w':=by
 refine ps func236 ntmps236 rfl rfl ?_;refine zh ?_
 refine aE (au w) 1 zo rfl rfl ?_;intro b w1 O1 hb a2 a0 a1;refine zh ?_
 refine zvH (eA rfl rfl) ?_;refine ae rfl rfl (⟨b,rfl,hb.cell 0 rfl,(a0.rng b (by rw[hb.tag];decide)).1,a1⟩)
theorem AY{α:Type}[Inhabited α]{l:List α}{i:Nat}(h:i<l.reverse.length):l.reverse[i]=nth l (l.length-1-i):=by
 rw[yJ]at h;rw[List.getElem_reverse,aB zo]
theorem pP(kv:ox)(ms:List M3)(b:Nat):Ij tp 237 [nP b] (fun i=>nI ((ms.length:Int)-1-(i:Int))) (fun m:M3=>.agg (lz m).toArray) ms.reverse (fun W=>W.cell? ⟨b,0,none⟩=some kv/\Sl lz 4 W kv ms):=by
 intro lp J Jx W a3 a9 hY h0;obtain⟨a8,a4⟩:=a3 _ _ h0;have a6:=a4.len_le;have a5:ms.reverse.length=ms.length:=yJ;refine qK func237 ntmps237 rfl rfl ?_;refine ze ?_;refine uu (.inl rfl) (fun _ _ h=>h) ?_;refine zh ?_;refine BG ?_;refine bm ?_;refine JZ ?_;refine WI.loop (fun x:Nat×ln×Int=>[(0,.func (.yield lp) #[] #[]),(1,nP b),(3,nI x.2.2)]) (fun x:Nat×ln×Int=>x.2.1) (fun x:Nat×ln×Int=>x.1<=ms.length/\J x.1 x.2.1/\x.2.2=(ms.length:Int)-1-(x.1:Nat)) (fun x:Nat×ln×Int=>ms.length-x.1) (0,W,(ms.length:Int)-1) (⟨sN _,h0,by dsimp only;omega⟩) ⟨rfl,rfl,rfl,trivial⟩ rfl ?_;rintro⟨i,w1,z⟩ ⟨hi,hJ,hz⟩;dsimp only at hi hJ hz ⊢;subst hz;obtain⟨hb,hs⟩:=a3 _ _ hJ;refine ze ?_;refine ze ?_;refine uu (.inl rfl) (fun _ _ h=>h) ?_;refine zh ?_;refine BG ?_;refine bm ?_;refine WI.cond rfl ?_ ?_
 ·intro a0;replace a0:i<ms.length:=dT a0;have hy:=hY i zo w1 w1 hJ (sP _);rw[AY]at hy;dsimp only at hy;refine Jz ?_;refine bm ?_;refine ze ?_;refine JZ ?_;refine ze ?_;refine xr 6 (.inl rfl) (fun _ _ h=>h) ?_;refine zh ?_;refine zv (Fu hs L7 (KO _) rfl rfl (ms.length-1-i) zo zo) ?_;refine zvH (ai (us:=lz (nth ms (ms.length-1-i))) (fun j u hu=>hs.cell zo hu) (isAgg243 _) (KO _) rfl) ?_;refine BG (Gs ?_);refine Ab rfl rfl rfl (hy) rfl (by rintro e w' ⟨⟨rfl,_⟩|⟨rfl,_⟩,_⟩<;>exact⟨_,rfl⟩) ?_;rintro v w5 ⟨⟨e,a1⟩|⟨e,a1⟩,a7⟩
  ·obtain rfl:=J8 e;refine Fg (.inl rfl) (fun _ _ h=>h) ?_;refine zh ?_;refine BG ?_;refine bm ?_;refine lr rfl (rfl) ?_;refine Jz ?_;refine dd ?_;refine bm ?_;refine uu (.inl rfl) (fun _ _ h=>h) ?_;refine zh ?_;refine BG ?_;refine QI.next ((i+1,w5,(ms.length:Int)-1-(i:Int)-1)) (⟨a0,a1,by dsimp only;omega⟩) (by dsimp only;omega) ⟨rfl,rfl,rfl,trivial⟩ rfl
  obtain rfl:=J8 e;refine Fg (.inl rfl) (fun _ _ h=>h) ?_;refine zh ?_;refine BG ?_;refine bm ?_;refine sq rfl (rfl) ?_;refine Ke ?_;refine gI ?_;refine jh ?_;refine jh ?_;refine gI ?_;exact ly (oZ rfl (.inr a1))
 intro a2;replace a2:¬i<ms.length:=dF a2;obtain rfl:i=ms.length:=zo;refine WI.exit ?_;refine oW ?_;refine oW ?_;refine xF ?_;exact ly (oZ rfl (.inl (by rw[a5];exact hJ)))
end Go.Proofs.YtlehnbkknlpkbaaGreatDoor
end
namespace Go.Proofs.YtlehnbkknlpkbaaGreatDoor
section
variable{kv:ox}{kn:Kn}
theorem cells_from{w:ln}{b:Nat}{us vs:List ox}(k:Nat)(h:∀(j:Nat) (u:ox),us[j]? = some u->w.cell? (nA b j)=some u)(hv:∀(q:Nat) (u:ox),vs[q]? = some u->us[k+q]? = some u):∀(q:Nat) (u:ox),vs[q]? = some u->w.cell? ((nA b k).add q)=some u:=fun q u hu=>by
 have h1:=h (k+q) u (hv q u hu);have e:((nA b k).add q)=((⟨b,0,none⟩:KU).add (k+q)):=by
  simp only[De];(repeat' split)<;>simp_all[]
 rw[e];exact h1
theorem KnownM.ex{O:Nat->Nat}{w:ln}{ms:List M3}(h:KnownM O w kv kn ms):Known O w kv kn:=⟨ms,h⟩
theorem F3{O:Nat->Nat}{w:ln}{ms:List M3}(h:KnownM O w kv kn ms){x:M3}(hx:x∈ms.reverse):(lz x).toArray.toList.all tG=true:=by
 obtain⟨i,hi,e⟩:=JV (List.mem_reverse.1 hx);have h1:=(h.2.2.2 i hi).2.one;rw[aB hi,e]at h1;simp only[lz,pZ,h1];rfl
theorem BX{α:Type}[Inhabited α]{p:α->Bool}{l:List α}(h:∀q,q<l.length->p (nth l q)=false):l.find? p=none:=by
 rw[K5];intro x hx;obtain⟨i,hi,rfl⟩:=JV hx;have:=h i hi;rw[aB hi]at this;rw[this];decide
theorem BY{α:Type}[Inhabited α]{p:α->Bool}:∀ {l:List α} {k:Nat},k<l.length->(∀q,q<k->p (nth l q)=false)->p (nth l k)=true->l.find? p=some (nth l k)
 |[],k,hk,_,_=>absurd hk (by simp)
 |a::l,0,_,_,hp=>by rw[ar]at hp ⊢;rw[Kv,hp]
 |a::l,k+1,hk,h,hp=>by
  have h0:=h 0 zo;rw[ar]at h0;rw[bd]at hp ⊢;rw[Kv,h0];exact BY (by simpa using hk) (fun q hq=>by have:=h (q+1) (zo);rwa[bd]at this) hp
theorem FT{α:Type}[Inhabited α]{l:List α}{i:Nat}(h:i<l.length):nth l.reverse i=nth l (l.length-1-i):=by
 rw[aB (by rw[yJ];exact h),AY]
theorem Bg(op:Int)(h':0<=op/\op<=20):Reads kv kn 232 [] op (gK kn) (fun r=>aj (r.headD 0)=true):=by
 intro B O j rb l r w hR hj hr hl h9 h i3;obtain⟨T,a1,hT⟩:=hR.bound;have j5:j<T:=by rw[<-h.tag];exact hT rb
 have j4:=hr.length_le;refine qK func232 ntmps232 rfl rfl ?_;refine ze ?_;refine uu (.inl rfl) (fun _ _ h=>h) ?_;refine ax hR T zo (pc _) rfl ?_;intro xb w1 O1 h0 g0 j3 k0;have f9:=h.upd g0 hj zo;refine zh ?_;refine BG ?_;refine bm ?_;refine ze ?_;refine uu (.inl rfl) (fun _ _ h=>h) ?_;refine zh ?_;refine zvH (RV.ld f9.r1 rfl) ?_;refine BG ?_;refine bm ?_;refine ze ?_;refine uu (.inl rfl) (fun _ _ h=>h) ?_;refine zh ?_;refine zc call235 (ye O1 w1 j rb l r op 0 0 hj hr zo f9) ?_;rintro v w2 ⟨rfl,i9,e1⟩;have g':=h0.upd e1 zo zo;have g5:=j3.upd e1;have i':=(g0.pT hj a1 (ow _)).trans (e1.pj a1);refine ax g5 (T+1) zo (zeroValue9 _) rfl ?_;intro sb w3 O3 d5 j1 j9 j';refine ak (j:=0) d5 rfl (Le _) rfl rfl rfl rfl ?_;have e4:=d5.set 0 (.string (bs (r.takeWhile aj)));have j0:rf (fun k=>k=T+1) O3 w3 O3 (w3.setCell ⟨sb,0,none⟩ (.string (bs (r.takeWhile aj)))):=th zo d5.tag rfl;have a8:=j1.trans j0;have c6:=g'.upd a8 zo zo;have d9:=i9.upd a8 hj zo;have g4:=g5.upd a8;have b0:=i'.trans (a8.pT hj a1 (vX _));generalize w3.setCell ⟨sb,0,none⟩ (.string (bs (r.takeWhile aj)))=w4 at *;refine zh ?_;refine BG ?_;refine bm ?_;refine ze ?_;refine ze ?_;refine uu (.inl rfl) (fun _ _ h=>h) ?_;refine zv (RV.ld (e4.cell 0 rfl) rfl) ?_;refine zvH (cX rfl rfl) ?_;refine BG ?_;refine bm ?_
 by_cases ha:r.takeWhile aj=[97,110,121]
 ·have hM:gK kn r=.ok (.mk 1 0 []) (r.dropWhile aj):=by unfold gK;rw[if_pos ha]
  refine sq rfl ((by rw[ha];rfl)) ?_;refine ze ?_
  refine uu (.inl rfl) (fun _ _ h=>h) ?_;refine zv (aF xW (pc _) rfl (by first|rfl|(simp only[pZ,rU];rfl)) rfl rfl) ?_
  refine zsa (us:=(#[nI 1,nI 0,nS])) c6 (ix _) ?_;have d3:=qN (us:=(#[nI 1,nI 0,nS])) c6;have f':rf (fun k=>k=T) O3 w4 O3 (pR w4 xb (#[nI 1,nI 0,nS])):=oz zo (rj c6) rfl;have d8:=ri d9 f' hj zo;refine zh ?_
  refine BG ?_;refine bm ?_
  refine Ke ?_;refine jh ?_
  refine ly (iP rfl rfl d3.cellsAdd (oD _) (ix _) ⟨(1,0,nS),rfl,(b0.trans (f'.pT hj a1 (ow _))).priv hT hj,?_⟩);rw[hM];exact⟨d8.fgt h.tag,KY _ _ _ _⟩
 obtain⟨ms,c9⟩:=i3.upd b0;obtain⟨qa,qc,f3,_⟩:=c9.1.shape;have i2:=c9.1.len_le;have i4:kn.length=ms.length:=c9.2.2.1;refine lr rfl ((by simpa using ha)) ?_;subst f3;refine Jz ?_;refine bm ?_;refine ze ?_;refine ze ?_;refine uu (.inl rfl) (fun _ _ h=>h) ?_;refine zh ?_;refine zv (RV.ld d9.r2 rfl) ?_;refine zc call236 (uJ qa ms.length qc w4) ?_;rintro v w5 ⟨b,rfl,i8,j8,g7⟩;have b8:rf (fun _=>False) O3 w4 O3 w5:=aa (fun h=>h) O3 g7;have d3:=c6.upd b8 zo (fun h=>h);have h8:=e4.upd b8 zo (fun h=>h);have d8:=d9.upd b8 hj (fun h=>h);have j2:=g4.upd b8;have f7:=c9.upd b8;have e0:=b0.trans (jz O3 g7 hj a1);have i7:Fixed O3 w5 ⟨b,0,none⟩ (.slice qa ms.length qc):=⟨i8,tJ fun i0=>by have:=(g4.rng b i0).2;omega⟩
 generalize f3:Value.slice qa ms.length qc=kv at *;generalize c7:r.takeWhile aj=sw at *;have e5:∀ {S:Nat->Prop} {O' O2:Nat->Nat} {W W':ln},rf S O' W O2 W'->(∀k,S k->T<=k)->rf (fun k=>k=j\/T<=k) O' W O2 W':=fun h hS=>h.mono (fun k hk=>.inr (hS k hk)) (fun e=>by rcases e with e|e;exact hj e.symm;omega)
 refine zh ?_;refine BG ?_
 refine bm ?_;refine JZ ?_
 refine so (L:=T+2) (K:=T+3) rfl call237 (pP kv ms b) rfl rfl rfl (fun W=>zeroValue243 W) j2 zo zo zo (fun W O' pb y x hx ops Q' hb h=>bE (us:=(lz x).toArray) hb rfl (KO _) (F3 f7 hx) rfl rfl rfl (h _ hb.setRow (oz zo hb.tag rfl))) (fun k O' W=>rf (fun p=>p=j\/T<=p) O w O' W/\vg O' W T xb #[nI 0,nI 0,nS] 83/\vg O' W (T+1) sb #[.string (bs sw)] 9/\Rdr kv O' W j rb l ((l.length:Int)-((r.dropWhile aj).length:Int)) op 0 0/\Fixed O' W ⟨b,0,none⟩ kv/\KnownM O' W kv kn ms/\∀q,q<k->Dg sw (nth kn.reverse q)=false) (fun c O' W=>c=.ret/\rf (fun p=>p=j\/T<=p) O w O' W/\Rdr kv O' W j rb l ((l.length:Int)-((r.dropWhile aj).length:Int)) op 0 0/\∃m x,kn.reverse.find? (Dg sw)=some m/\Nt O' W m.2 x/\vg O' W T xb #[nI x.1,nI x.2.1,x.2.2] 83) (fun i O' W O2 W' ⟨h1,h2,h3,h4,h5,h6,h7⟩ hU=>⟨h1.trans (e5 hU (fun k hk=>zo)),h2.upd hU zo zo,h3.upd hU zo zo,h4.upd hU hj zo,h5.upd hU,h6.upd hU,h7⟩) (fun c O' W O2 W' ⟨h1,h2,h3,m,x,h4,h5,h6⟩ hU=>⟨h1,h2.trans (e5 hU (fun k hk=>zo)),h3.upd hU hj zo,m,x,h4,h5.upd hU,h6.upd hU zo zo⟩) (fun i O' W ⟨_,_,_,_,h5,h6,_⟩=>⟨h5.cell,h6.1⟩) ⟨e0,d3,h8,d8,i7,f7,fun q hq=>absurd hq zo⟩ ?_ ?_ ?_
 ·rintro lp i hi pb O6 w6 d0 ⟨b3,b1,c8,a',d6,b6,a3⟩ b2;rw[yJ]at hi;have i5:ms.length-1-i<ms.length:=zo;obtain⟨m,e8⟩:∃m,m=nth ms (ms.length-1-i):=⟨_,rfl⟩
  obtain⟨g1,g2⟩:=b6.2.2.2 _ i5;replace b2:vg O6 w6 (T+3) pb (lz m).toArray 243:=by have:=b2;rw[AY,<-e8]at this;exact this
  rw[<-e8]at g1 g2;have f4:nth kn.reverse i=nth kn (ms.length-1-i):=by rw[FT zo,i4]
  have b5:Dg sw (nth kn.reverse i)=false->∀q,q<i+1->Dg sw (nth kn.reverse q)=false:=fun h q hq=>by
   by_cases e:q=i
   ·rw[e];exact h
   exact a3 q zo
  have a0:Dg sw (nth kn.reverse i)=((m.1==sw&&bj (nth kn (ms.length-1-i)).2)&&((nth kn (ms.length-1-i)).2.kind != 9)):=by
   unfold Dg;rw[f4,g1]
  have f5:m.2.1=(nth kn (ms.length-1-i)).2.kind:=g2.kind;generalize nth kn (ms.length-1-i)=km at *;have j7:=b2.cell 0 rfl;have hz:rf (fun p=>p≠0/\p≠T+2) O6 w6 O6 w6:=Bh zo _ _;refine JZ ?_;refine ze ?_;refine uu (.inr rfl) (fun _ _ h=>h) ?_;refine zh ?_;refine zv (RV.ld (b2.cell 0 rfl) rfl) ?_;refine zv (RV.ld (c8.cell 0 rfl) rfl) ?_;refine zvH (cX rfl rfl) ?_
  cases h1:(m.1==sw)with
  |false=>
   rw[h1]at a0;refine ay (d:=30) rfl (b':=false) (rfl) ?_;refine zh ?_;refine BG ?_;refine bm ?_;refine lr rfl rfl ?_;refine Jz ?_;refine dd ?_;exact iN O6 hz ⟨b3,b1,c8,a',d6,b6,b5 (by rw[a0];rfl)⟩
  |true=>
   rw[h1]at a0;refine ay (d:=30) rfl (b':=true) (rfl) ?_;have d7:∀W:ln,(∀(j:Nat) (u:ox),(lz m)[j]? = some u->W.cell? (nA pb j)=some u)->∀(q:Nat) (u:ox),(aY m.2)[q]? = some u->W.cell? ((nA pb 1).add q)=some u:=fun W h=>cells_from (us:=lz m) 1 h (fun q u hu=>by rw[KR];exact hu)
   refine zh ?_;refine zvH (ai (us:=aY m.2) (d7 _ b2.cellsAdd) (oD _) (ix _) rfl) ?_
   refine zc Lt (fN km.2 m.2 w6 g2.zero) ?_;rintro v w7 ⟨rfl,g6⟩;have a4:rf (fun _=>False) O6 w6 O6 w7:=aa (fun h=>h) O6 g6;have a2:=b1.upd a4 zo (fun h=>h);have e3:=c8.upd a4 zo (fun h=>h);have b7:=a'.upd a4 hj (fun h=>h);have e6:=b2.upd a4 zo (fun h=>h);have g3:=d0.upd a4;have f6:=b6.upd a4;have f8:=d6.upd a4;have e7:=g2.upd a4;have a7:=b3.trans (jz O6 g6 hj a1);have d1:rf (fun p=>p≠0/\p≠T+2) O6 w6 O6 w7:=a4.mono (fun _ h=>h.elim) zo;refine zh ?_
   cases h2:bj km.2 with
   |false=>
    rw[h2]at a0;refine ay (d:=35) rfl (b':=false) (rfl) ?_;refine zh ?_;refine BG ?_;refine bm ?_;refine lr rfl rfl ?_;refine Jz ?_;refine dd ?_;exact iN O6 d1 ⟨a7,a2,e3,b7,f8,f6,b5 (by rw[a0];rfl)⟩
   |true=>
    rw[h2]at a0;refine ay (d:=35) rfl (b':=true) (rfl) ?_;have j6:w7.cell? ((nA pb 1).add 0)=some (nI m.2.1):=d7 _ e6.cellsAdd 0 _ rfl;refine zh ?_;refine BG ?_;refine bm ?_
    cases h3:(km.2.kind != 9)with
    |false=>
     rw[h3]at a0;refine lr rfl ((by rw[f5];exact h3)) ?_;refine Jz ?_;refine dd ?_;exact iN O6 d1 ⟨a7,a2,e3,b7,f8,f6,b5 (by rw[a0];rfl)⟩
    |true=>
     rw[h3]at a0;refine sq rfl ((by rw[f5];exact h3)) ?_;have d2:=e7.one;refine ze ?_;refine uu (.inr rfl) (fun _ _ h=>h) ?_;refine zh ?_;refine zv (ai (us:=aY m.2) (d7 _ e6.cellsAdd) (oD _) (ix _) rfl) ?_;refine zsb (us:=#[nI m.2.1,nI m.2.2.1,m.2.2.2]) a2 (ix _) (cn d2) ?_;have b4:=a2.setRow (us:=#[nI m.2.1,nI m.2.2.1,m.2.2.2]);have a6:rf (fun k=>k=T) O6 w7 O6 (w7.setRow xb #[nI m.2.1,nI m.2.2.1,m.2.2.2]):=oz zo a2.tag rfl;refine zh ?_;refine BG ?_;refine bm ?_;refine Ke ?_;refine gI ?_;exact xE O6 (d1.trans (a6.mono (fun _ h=>zo) zo)) ⟨rfl,a7.trans (a6.pT hj a1 (ow _)),b7.upd a6 hj zo,_,m.2,by rw[BY (by rw[yJ];omega) a3 (by rw[a0];rfl),f4],e7.upd a6,b4⟩
 ·rintro D O6 w6 d0 e2 ⟨b3,b1,c8,a',d6,b6,a3⟩ hm;have hM:gK kn r=dR 0 r:=by
   exact vL (by rw[c7];exact ha) (by rw[c7];exact BX (fun q hq=>a3 q (by simp at hq ⊢;omega)))
  have d':=b3;refine dd ?_;refine bm ?_;refine ze ?_;refine uu (.inl rfl) (fun _ _ h=>h) ?_;refine zh ?_;refine ak (j:=1) a' rfl (yP _) rfl rfl rfl rfl ?_;have b7:=a'.rAt ((l.length:Int)-(r.length:Int));have a7:rf (fun k=>k=j) O6 w6 O6 (w6.setCell ⟨rb,1,none⟩ (nI ((l.length:Int)-(r.length:Int)))):=th (fun e=>hj e.symm) a'.tag rfl;have a2:=b1.upd a7 zo zo;have g3:=d0.upd a7;have e':=(a7.blk D (bB hm) zo).trans hm;have b9:=d'.trans (a7.pj a1);generalize w6.setCell ⟨rb,1,none⟩ (nI ((l.length:Int)-(r.length:Int)))=w7 at *;refine zh ?_;refine BG ?_;refine bm ?_;refine ze ?_;refine uu (.inl rfl) (fun _ _ h=>h) ?_;refine zh ?_;refine zc call233 (uB 0 op h' B O6 j rb l r w7 g3 hj hr hl trivial b7 (b6.upd a7).ex) ?_;rintro v w8 ⟨x,rfl,a6,a9⟩;have b4:=a2.upd a6 zo zo;have e9:=(a6.blk D (bB e') zo).trans e';have d2:x.2.2.oneCell'=true:=by
   cases hc:dR 0 r with
   |ok t r'=>rw[hc]at a9;exact a9.2.one
   |bad p e=>rw[hc]at a9;exact a9.1
  refine zsb (us:=#[nI x.1,nI x.2.1,x.2.2]) b4 (ix _) (cn d2) ?_;have g9:=b4.setRow (us:=#[nI x.1,nI x.2.1,x.2.2]);have c':rf (fun k=>k=T) O6 w8 O6 (w8.setRow xb #[nI x.1,nI x.2.1,x.2.2]):=oz zo b4.tag rfl;have i1:=(c'.blk D (bB e9) zo).trans e9;have a5:rf (fun k=>k=T+2) O6 (w8.setRow xb #[nI x.1,nI x.2.1,x.2.2]) O6 ((w8.setRow xb #[nI x.1,nI x.2.1,x.2.2]).putObj D (.deferred none)):=Fm zo e2 _;have c5:=(c'.pT hj a1 (ow _)).trans (a5.pT hj a1 zo);have d4:=g9.upd a5 zo zo;refine zh ?_
  refine BG ?_;refine bm ?_
  refine Ke ?_;refine ly (KT i1 (iP rfl rfl d4.cellsAdd (oD _) (ix _) ⟨x,rfl,((b9.trans (a6.pj a1)).trans c5).priv hT hj,?_⟩))
  rw[hM]
  cases hc:dR 0 r with
  |ok t r'=>
   rw[hc]at a9;exact⟨((a9.1.upd c' hj zo).upd a5 hj zo).fgt h.tag,(a9.2.upd c5).low (b9.trans (a6.pj a1))⟩
  |bad p e=>
   rw[hc]at a9;obtain⟨h1,a,g8,h2,h3⟩:=a9;exact⟨h1,a,g8,((h2.upd c' hj zo).upd a5 hj zo).fgt h.tag,h3⟩
 rintro D c O6 w6 d0 e2 ⟨rfl,b3,a',m,x,i6,b5,b1⟩ hm;have a5:rf (fun k=>k=T+2) O6 w6 O6 (w6.putObj D (.deferred none)):=Fm zo e2 _;have c5:=b3.trans (a5.pT hj a1 zo);have a2:=b1.upd a5 zo zo;refine Ke ?_;refine gI ?_;refine jh ?_;refine ly (KT hm (iP rfl rfl a2.cellsAdd (oD _) (ix _) ⟨x,rfl,c5.priv hT hj,?_⟩));rw[vK (by rw[c7];exact ha) (by rw[c7];exact i6)];exact⟨(a'.upd a5 hj zo).fgt h.tag,(b5.upd a5).low c5⟩
end
section
variable{kv:ox}{kn:Kn}
theorem xj(b:UInt8)(k:Nat)(hk:k<256)(h:¬b=J4 k):((b.toNat:Int) != (k:Int))=true:=by rw[bne,oK b k hk,decide_eq_false h];rfl
theorem iD(b:UInt8)(k:Nat)(hk:k<256)(h:¬b=J4 k):((b.toNat:Int)==(k:Int))=false:=by rw[oK b k hk,decide_eq_false h]
theorem PostE.one{O:Nat->Nat}{w:ln}{j rb:Nat}{l:List UInt8}{op:Int}{x:N3}{M:PR}(h:PostE kv O w j rb l op x M):x.2.2.oneCell'=true:=by
 cases M with
 |ok t r=>exact h.2.one
 |bad p e=>exact h.1
theorem PostE.upd{S:Nat->Prop}{O O':Nat->Nat}{w w':ln}{j rb:Nat}{l:List UInt8}{op:Int}{x:N3}{M:PR}(h:PostE kv O w j rb l op x M)(u:rf S O w O' w')(hj:j≠0)(hS:¬S j):PostE kv O' w' j rb l op x M:=by
 cases M with
 |ok t r=>exact⟨ri h.1 u hj hS,h.2.upd u⟩
 |bad p e=>obtain⟨h1,a,o,h2,h3⟩:=h;exact⟨h1,a,o,ri h2 u hj hS,h3⟩
theorem PostE.low{S:Nat->Prop}{O O':Nat->Nat}{w w0 w':ln}{j rb:Nat}{l:List UInt8}{op:Int}{x:N3}{M:PR}(h:PostE kv O' w' j rb l op x M)(u:rf S O w O' w0)(a0:O rb=j):PostE kv O w' j rb l op x M:=by
 cases M with
 |ok t r=>exact⟨Ld h.1 a0,h.2.low u⟩
 |bad p e=>obtain⟨h1,a,o,h2,h3⟩:=h;exact⟨h1,a,o,Ld h2 a0,h3⟩
theorem rD(k:Int)(xs:List N3)(lv:ox)(w:ln)(h:Sl aY 3 w lv xs)(h1:∀i,i<xs.length->(nth xs i).2.2.oneCell'=true):
  Gc tp 193 [nI k,lv] w fun v w'=>v=nv (if xs.length=1 then nth xs 0 else(k,0,lv))/\BW w w':=by
 refine ps func193 ntmps193 rfl rfl ?_;refine zh ?_
 refine ax (au w) 1 zo (pc _) rfl ?_;intro xb w1 O1 a0 a3 a6 a5;have a2:=h.ext a5;refine zh ?_
 by_cases hl:xs.length=1
 ·have a4:=h1 0 zo;rw[if_pos hl];refine zTH rfl ((by rw[hl];rfl)) ?_;refine zv (Fu a2 CY (ix _) rfl rfl 0 rfl zo) ?_;refine zv (ai (us:=aY (nth xs 0)) (fun j u hu=>a2.cell zo hu) (oD _) (ix _) rfl) ?_;refine zsb (us:=#[nI (nth xs 0).1,nI (nth xs 0).2.1,(nth xs 0).2.2]) a0 (ix _) (cn a4) ?_;have a1:=a0.setRow (us:=#[nI (nth xs 0).1,nI (nth xs 0).2.1,(nth xs 0).2.2]);refine zh ?_;refine aN rfl rfl (a1.cellsAdd) (oD _) (ix _) (⟨rfl,(a3.trans (oz zd a0.tag rfl)).ext⟩)
 rw[if_neg hl];refine zFH rfl ((by simp;omega)) ?_;refine zv (aF xW (pc _) rfl (by first|rfl|(simp only[pZ,h.one];rfl)) rfl rfl) ?_;refine zsb (us:=#[nI k,nI 0,lv]) a0 (ix _) (cn (x:=(k,0,lv)) h.one) ?_;have a1:=a0.setRow (us:=#[nI k,nI 0,lv]);refine zh ?_;refine aN rfl rfl (a1.cellsAdd) (oD _) (ix _) (⟨rfl,(a3.trans (oz zd a0.tag rfl)).ext⟩)
def uT(kv:ox)(kn:Kn)(al:Option (List UInt8->PR))(op:Int):Prop:=
 match al with
 |none=>op=20
 |some f=>op<20/\Reads kv kn 178 [] (op+1) f (fun _=>True)
theorem uG(al:Option (List UInt8->PR))(op:Int)(h7:0<=op/\op<=20)(ha:uT kv kn al op)(hg:mW al):Reads kv kn 234 [] op (cu al) (fun r=>r.headD 0≠0):=by
 intro B O j rb l r w hR hj hr hl d1 h g7;obtain⟨T,a0,hT⟩:=hR.bound;have h8:j<T:=by rw[<-h.tag];exact hT rb
 have h6:=hr.length_le;refine ps func234 ntmps234 rfl rfl ?_;refine zh ?_;refine ax hR T zo (pc _) rfl ?_;intro xb w1 O1 e6 e' f5 i1;have a7:=h.upd e' hj zo;have b4:=e'.pT hj a0 (ow _);obtain⟨f',h5⟩:=cm d1;have e7:=f'.trans hr;refine zh ?_;refine zvH (RV.ld a7.r3 rfl) ?_
 cases al with
 |none=>
  have hM:cu none r=.bad r.length 6:=rfl;replace ha:op=20:=ha;refine zTH rfl ((by rw[ha];rfl)) ?_;refine zv (RV.ld a7.r1 rfl) ?_;refine zc Jr (gD _ O1 w1 j rb l _ _ 0 ((l.length:Int)-(r.length:Int)) 6 hj f5 a7) ?_;rintro v wf ⟨rfl,d8,b6⟩;have a6:=e6.upd b6 zo zo;refine zsa (us:=#[nI 0,nI 0,nS]) a6 (ix _) ?_;have c9:=a6.setRow (us:=#[nI 0,nI 0,nS]);have b5:rf (fun k=>k=T) O1 wf O1 (wf.setRow xb #[nI 0,nI 0,nS]):=oz zo a6.tag rfl;have hbg:=d8.upd b5 hj zo;refine zh ?_;refine aN rfl rfl (c9.cellsAdd) (oD _) (ix _) (⟨(0,0,nS),rfl,((b4.trans (b6.pj a0)).trans (b5.pT hj a0 (ow _))).priv hT hj,?_⟩);rw[hM];exact⟨rfl,_,op,hbg.fgt h.tag,zo,zo,zo,zo⟩
 |some f=>
  obtain⟨h9,g'⟩:=ha;have b9:=hg f rfl r.tail;refine zFH rfl ((by simp;omega)) ?_;refine zvH (RV.ld a7.r1 rfl) ?_;refine ak (j:=1) a7 rfl (yP _) rfl rfl rfl rfl ?_;rw[show((l.length:Int)-(r.length:Int))+1=(l.length:Int)-(r.tail.length:Int)from by omega];have c5:=BlkO.rAt a7 ((l.length:Int)-(r.tail.length:Int));have e4:rf (fun k=>k=j) O1 w1 O1 (rk w1 ⟨rb,1,none⟩ (nI ((l.length:Int)-(r.tail.length:Int)))):=th (fun e=>hj e.symm) (rj a7) rfl;have f9:=e6.upd e4 zo zo;have h4:=f5.upd e4;generalize rk w1 ⟨rb,1,none⟩ (nI ((l.length:Int)-(r.tail.length:Int)))=w2 at *;refine zh ?_;refine zvH (RV.ld c5.r3 rfl) ?_;refine ak (j:=3) c5 rfl (yP _) rfl rfl rfl rfl ?_;have g9:=c5.rOp (op+1);have e3:rf (fun k=>k=j) O1 w2 O1 (w2.setCell ⟨rb,3,none⟩ (nI (op+1))):=th (fun e=>hj e.symm) c5.tag rfl;have f8:=f9.upd e3 zo zo;have f4:=h4.upd e3;have b3:=(b4.trans (e4.pj a0)).trans (e3.pj a0);generalize w2.setCell ⟨rb,3,none⟩ (nI (op+1))=w3 at *;refine zh ?_;refine zc call178 (g' B O1 j rb l r.tail w3 f4 hj e7 hl trivial g9 (g7.upd b3)) ?_;rintro v w4 ⟨x,rfl,e2,f6⟩;have b7:=f6.one;have f7:=f8.upd e2 zo zo;have f3:=f4.upd e2;have e1:=b3.trans (e2.pj a0);refine ax f3 (T+1) zo (pc _) rfl ?_;intro nb w5 O5 d7 h1 h' i0;refine zsb (us:=#[nI x.1,nI x.2.1,x.2.2]) d7 (ix _) (cn b7) ?_;have e9:=d7.setRow (us:=#[nI x.1,nI x.2.1,x.2.2])
  have h0:rf (fun k=>k=T+1) O5 w5 O5 (w5.setRow nb #[nI x.1,nI x.2.1,x.2.2]):=oz zo d7.tag rfl;have a4:=h1.trans h0;have e5:=f7.upd a4 zo zo;have c8:=f6.upd a4 hj zo;have h3:=f3.upd a4;have b2:=e1.trans (a4.pT hj a0 (vX _));generalize w5.setRow nb #[nI x.1,nI x.2.1,x.2.2]=w6 at *
  cases hf:f r.tail with
  |bad p e=>
   rw[hf]at b9 c8;have hM:cu (some f) r=.bad p e:=by unfold cu;dsimp only;rw[hf]
   obtain⟨g1,a,a',a1,g2,g3,g4,g5⟩:=c8;replace a1:vg O5 w6 j rb (rdr kv l a a' ((l.length:Int)-(p:Int)) e) 262:=a1;refine zh ?_;refine zvH (RV.ld a1.r5 rfl) ?_;refine ay (d:=39) rfl (b':=false) ((by simpa using b9.2)) ?_;refine zh ?_;refine zFH rfl rfl ?_;refine zvH (RV.ld a1.r1 rfl) ?_;refine ak (j:=1) a1 rfl (yP _) rfl rfl rfl rfl ?_;have a2:=a1.rAt (a+1);have a3:rf (fun k=>k=j) O5 w6 O5 (w6.setCell ⟨rb,1,none⟩ (nI (a+1))):=th (fun e=>hj e.symm) a1.tag rfl;have b8:=e5.upd a3 zo zo;have d6:=e9.upd a3 zo zo;generalize w6.setCell ⟨rb,1,none⟩ (nI (a+1))=w7 at *;refine zh ?_;refine zvH (RV.ld a2.r3 rfl) ?_;refine ak (j:=3) a2 rfl (yP _) rfl rfl rfl rfl ?_;have a8:=a2.rOp (a'-1);have a5:rf (fun k=>k=j) O5 w7 O5 (w7.setCell ⟨rb,3,none⟩ (nI (a'-1))):=th (fun e=>hj e.symm) a2.tag rfl;have b0:=b8.upd a5 zo zo;have d5:=d6.upd a5 zo zo;generalize w7.setCell ⟨rb,3,none⟩ (nI (a'-1))=w8 at *;have e0:=(b2.trans (a3.pj a0)).trans (a5.pj a0);refine zh ?_;refine zv (ai (us:=aY x) d5.cellsAdd (oD _) (ix _) rfl) ?_;refine zsb (us:=#[nI x.1,nI x.2.1,x.2.2]) b0 (ix _) (cn b7) ?_;have c':=qN (us:=#[nI x.1,nI x.2.1,x.2.2]) b0;have a9:rf (fun k=>k=T) O5 w8 O5 (pR w8 xb #[nI x.1,nI x.2.1,x.2.2]):=oz zo (rj b0) rfl;have d9:=a8.upd a9 hj zo;have c6:=e0.trans (a9.pT hj a0 (ow _));refine zh ?_
   refine aN rfl rfl (c'.cellsAdd) (oD _) (ix _) (⟨x,rfl,c6.priv hT hj,?_⟩);rw[hM];exact⟨b7,a+1,a'-1,d9.fgt h.tag,zo,zo,zo,zo⟩
  |ok t r2=>
   rw[hf]at b9 c8;obtain⟨a1,hn⟩:=c8;replace a1:vg O5 w6 j rb (rdr kv l ((l.length:Int)-(r2.length:Int)) (op+1) 0 0) 262:=a1;have e8:=b9.1.trans e7;have g0:=(bn r2).trans e8;have hq2l:=g0.length_le;refine zh ?_;refine zvH (RV.ld a1.r5 rfl) ?_;refine ay (d:=39) rfl (b':=true) (rfl) ?_;refine zh ?_;refine zc Js (gm O5 w6 j rb l r2 (op+1) 0 0 hj e8 zo a1) ?_;rintro v w7 ⟨rfl,a2,a3⟩;have b8:=e5.upd a3 zo zo;have d6:=e9.upd a3 zo zo;have h2:=h3.upd a3;have b1:=b2.trans (a3.pj a0);have d4:=hn.upd a3;refine zh ?_
   by_cases hc:(aw r2).headD 0=41
   ·have hM:cu (some f) r=.ok t (aw r2).tail:=by unfold cu;dsimp only;rw[hf];dsimp only;rw[if_pos hc]
    obtain⟨g1,g2⟩:=cm (r:=aw r2) (by rw[hc];decide);refine zFH rfl ((by rw[hc];rfl)) ?_;refine zvH (RV.ld a2.r1 rfl) ?_;refine ak (j:=1) a2 rfl (yP _) rfl rfl rfl rfl ?_;rw[show((l.length:Int)-((aw r2).length:Int))+1=(l.length:Int)-((aw r2).tail.length:Int)from by omega];have a8:=BlkO.rAt a2 ((l.length:Int)-((aw r2).tail.length:Int));have a5:rf (fun k=>k=j) O5 w7 O5 (rk w7 ⟨rb,1,none⟩ (nI ((l.length:Int)-((aw r2).tail.length:Int)))):=th (fun e=>hj e.symm) (rj a2) rfl;have b0:=b8.upd a5 zo zo;have d5:=d6.upd a5 zo zo;have d3:=d4.upd a5;generalize rk w7 ⟨rb,1,none⟩ (nI ((l.length:Int)-((aw r2).tail.length:Int)))=w8 at *;refine zh ?_;refine zvH (RV.ld a8.r3 rfl) ?_;refine ak (j:=3) a8 rfl (yP _) rfl rfl rfl rfl ?_;rw[show op+1-1=op from by omega];have g8:=a8.rOp op;have c7:rf (fun k=>k=j) O5 w8 O5 (w8.setCell ⟨rb,3,none⟩ (nI op)):=th (fun e=>hj e.symm) a8.tag rfl;have d0:=b0.upd c7 zo zo;have g6:=d5.upd c7 zo zo;have d2:=d3.upd c7;generalize w8.setCell ⟨rb,3,none⟩ (nI op)=w9 at *;have d':=(b1.trans (a5.pj a0)).trans (c7.pj a0);refine zh ?_;refine zv (ai (us:=aY x) g6.cellsAdd (oD _) (ix _) rfl) ?_;refine zsb (us:=#[nI x.1,nI x.2.1,x.2.2]) d0 (ix _) (cn b7) ?_;have c':=qN (us:=#[nI x.1,nI x.2.1,x.2.2]) d0;have a9:rf (fun k=>k=T) O5 w9 O5 (pR w9 xb #[nI x.1,nI x.2.1,x.2.2]):=oz zo (rj d0) rfl
    have d9:=g8.upd a9 hj zo;have c6:=d'.trans (a9.pT hj a0 (ow _));refine zh ?_;refine aN rfl rfl (c'.cellsAdd) (oD _) (ix _) (⟨x,rfl,c6.priv hT hj,?_⟩);rw[hM];exact⟨d9.fgt h.tag,(d2.upd a9).low c6⟩
   have hM:cu (some f) r=.bad (aw r2).length 4:=by unfold cu;dsimp only;rw[hf];dsimp only;rw[if_neg hc]
   refine zTH rfl ((xj _ 41 zd hc)) ?_;refine zv (RV.ld a2.r1 rfl) ?_
   refine zc Jr (gD _ O5 w7 j rb l _ _ 0 ((l.length:Int)-((aw r2).length:Int)) 4 hj h2 a2) ?_;rintro v wf ⟨rfl,d8,b6⟩;have a6:=b8.upd b6 zo zo;refine zsa (us:=#[nI 0,nI 0,nS]) a6 (ix _) ?_
   have c9:=a6.setRow (us:=#[nI 0,nI 0,nS]);have b5:rf (fun k=>k=T) O5 wf O5 (wf.setRow xb #[nI 0,nI 0,nS]):=oz zo a6.tag rfl;have hbg:=d8.upd b5 hj zo;refine zh ?_;refine aN rfl rfl (c9.cellsAdd) (oD _) (ix _) (⟨(0,0,nS),rfl,((b1.trans (b6.pj a0)).trans (b5.pT hj a0 (ow _))).priv hT hj,?_⟩);rw[hM];exact⟨rfl,_,op+1,hbg.fgt h.tag,zo,zo,zo,zo⟩
theorem DJ(al:Option (List UInt8->PR))(op:Int)(b4:0<=op/\op<=20)(ha:uT kv kn al op)(hg:mW al):Reads kv kn 227 [] op (jo kn al) (fun _=>True):=by
 intro B O j rb l r w hR hj hr hl c9 h b5;obtain⟨T,a1,hT⟩:=hR.bound;have d6:j<T:=by rw[<-h.tag];exact hT rb
 have d4:=hr.length_le;refine ps func227 ntmps227 rfl rfl ?_;refine zh ?_;refine ax hR T zo (pc _) rfl ?_;intro xb w1 O1 c8 c6 d3 d7;have d1:=h.upd c6 hj zo;have b7:=c6.pT hj a1 (ow _);have hq:=(bn r).trans hr;have d5:=hq.length_le;refine zh ?_;refine zc Js (gm O1 w1 j rb l r op 0 0 hj hr zo d1) ?_;rintro v w2 ⟨rfl,a2,b8⟩;have b1:=c8.upd b8 zo zo;have b2:=d3.upd b8;have a0:=b7.trans (b8.pj a1);refine zh ?_;refine zc KI (iX ((aw r).headD 0) w2) ?_;rintro v w9 ⟨rfl,b9⟩;rw[b9];clear b9 w9;refine zh ?_
 by_cases h1:aj ((aw r).headD 0)=true
 ·have hM:jo kn al r=gK kn (aw r):=by unfold jo;rw[if_pos h1]
  rw[hM];refine zTH rfl (h1) ?_;refine zc call232 (Bg op b4 B O1 j rb l (aw r) w2 b2 hj hq hl h1 a2 (b5.upd a0)) ?_;rintro v wc ⟨x,rfl,a6,a7⟩;have a8:=a7.one;have a3:=ri b1 a6 zo zo;refine zsb (us:=#[nI x.1,nI x.2.1,x.2.2]) a3 (ix _) (cn a8) ?_;have a9:=qN (us:=#[nI x.1,nI x.2.1,x.2.2]) a3;have a4:rf (fun k=>k=T) O1 wc O1 (pR wc xb #[nI x.1,nI x.2.1,x.2.2]):=oz zo (rj a3) rfl;have a5:=(a0.trans (a6.pj a1)).trans (a4.pT hj a1 (ow _));refine zh ?_;refine aN rfl rfl (a9.cellsAdd) (oD _) (ix _) (⟨x,rfl,a5.priv hT hj,(a7.upd a4 hj zo).low a5 h.tag⟩)
 refine zFH rfl ((by simpa using h1)) ?_
 by_cases h2:(aw r).headD 0=126
 ·have hM:jo kn al r=dR 2 (aw r).tail:=by unfold jo;rw[if_neg h1,if_pos h2]
  obtain⟨k1,k2⟩:=cm (r:=aw r) (by rw[h2];decide);rw[hM];refine zTH rfl ((by rw[h2];rfl)) ?_;refine zvH (RV.ld a2.r1 rfl) ?_;refine ak (j:=1) a2 rfl (yP _) rfl rfl rfl rfl ?_;rw[show((l.length:Int)-((aw r).length:Int))+1=(l.length:Int)-((aw r).tail.length:Int)from by omega];have b6:=BlkO.rAt a2 ((l.length:Int)-((aw r).tail.length:Int));have a':rf (fun k=>k=j) O1 w2 O1 (rk w2 ⟨rb,1,none⟩ (nI ((l.length:Int)-((aw r).tail.length:Int)))):=th (fun e=>hj e.symm) (rj a2) rfl;have b0:=b1.upd a' zo zo;have d2:=b2.upd a';refine zh ?_;refine zc call233 (uB 2 op b4 B O1 j rb l (aw r).tail _ d2 hj (k1.trans hq) hl trivial b6 (b5.upd (a0.trans (a'.pj a1)))) ?_;rintro v wc ⟨x,rfl,a6,a7⟩;have a8:=a7.one;have a3:=ri b0 a6 zo zo;refine zsb (us:=#[nI x.1,nI x.2.1,x.2.2]) a3 (ix _) (cn a8) ?_;have a9:=qN (us:=#[nI x.1,nI x.2.1,x.2.2]) a3;have a4:rf (fun k=>k=T) O1 wc O1 (pR wc xb #[nI x.1,nI x.2.1,x.2.2]):=oz zo (rj a3) rfl;have a5:=((a0.trans (a'.pj a1)).trans (a6.pj a1)).trans (a4.pT hj a1 (ow _));refine zh ?_;refine aN rfl rfl (a9.cellsAdd) (oD _) (ix _) (⟨x,rfl,a5.priv hT hj,(a7.upd a4 hj zo).low a5 h.tag⟩)
 refine zFH rfl ((iD _ 126 zd h2)) ?_
 by_cases h3:(aw r).headD 0=94
 ·have hM:jo kn al r=.ok (.mk 3 0 []) (aw r).tail:=by unfold jo;rw[if_neg h1,if_neg h2,if_pos h3]
  obtain⟨k1,k2⟩:=cm (r:=aw r) (by rw[h3];decide);rw[hM];refine zTH rfl ((by rw[h3];rfl)) ?_;refine zvH (RV.ld a2.r1 rfl) ?_;refine ak (j:=1) a2 rfl (yP _) rfl rfl rfl rfl ?_;rw[show((l.length:Int)-((aw r).length:Int))+1=(l.length:Int)-((aw r).tail.length:Int)from by omega];have b6:=BlkO.rAt a2 ((l.length:Int)-((aw r).tail.length:Int));have a':rf (fun k=>k=j) O1 w2 O1 (rk w2 ⟨rb,1,none⟩ (nI ((l.length:Int)-((aw r).tail.length:Int)))):=th (fun e=>hj e.symm) (rj a2) rfl;have b0:=b1.upd a' zo zo;have a8:((3,0,nS):N3).2.2.oneCell'=true:=rfl;refine zh ?_;refine zv (aF xW (pc _) rfl (by first|rfl|(simp only[pZ,h.one];rfl)) rfl rfl) ?_;refine zsb (us:=#[nI ((3,0,nS):N3).1,nI ((3,0,nS):N3).2.1,((3,0,nS):N3).2.2]) b0 (ix _) (cn a8) ?_;have a9:=qN (us:=#[nI ((3,0,nS):N3).1,nI ((3,0,nS):N3).2.1,((3,0,nS):N3).2.2]) b0;have a4:rf (fun k=>k=T) O1 (rk w2 ⟨rb,1,none⟩ (nI ((l.length:Int)-((aw r).tail.length:Int)))) O1 (pR (rk w2 ⟨rb,1,none⟩ (nI ((l.length:Int)-((aw r).tail.length:Int)))) xb #[nI ((3,0,nS):N3).1,nI ((3,0,nS):N3).2.1,((3,0,nS):N3).2.2]):=oz zo (rj b0) rfl;have d0:=b6.upd a4 hj zo;have a5:=(a0.trans (a'.pj a1)).trans (a4.pT hj a1 (ow _));refine zh ?_;refine aN rfl rfl (a9.cellsAdd) (oD _) (ix _) (⟨(3,0,nS),rfl,a5.priv hT hj,d0.fgt h.tag,KY _ _ _ _⟩)
 refine zFH rfl ((iD _ 94 zd h3)) ?_
 by_cases h4:(aw r).headD 0=40
 ·have hM:jo kn al r=cu al (aw r):=by unfold jo;rw[if_neg h1,if_neg h2,if_neg h3,if_pos h4]
  rw[hM];refine zTH rfl ((by rw[h4];rfl)) ?_;refine zc call234 (uG al op b4 ha hg B O1 j rb l (aw r) w2 b2 hj hq hl (show(aw r).headD 0≠0 by rw[h4];decide) a2 (b5.upd a0)) ?_;rintro v wc ⟨x,rfl,a6,a7⟩;have a8:=a7.one;have a3:=ri b1 a6 zo zo;refine zsb (us:=#[nI x.1,nI x.2.1,x.2.2]) a3 (ix _) (cn a8) ?_;have a9:=qN (us:=#[nI x.1,nI x.2.1,x.2.2]) a3;have a4:rf (fun k=>k=T) O1 wc O1 (pR wc xb #[nI x.1,nI x.2.1,x.2.2]):=oz zo (rj a3) rfl;have a5:=(a0.trans (a6.pj a1)).trans (a4.pT hj a1 (ow _));refine zh ?_;refine aN rfl rfl (a9.cellsAdd) (oD _) (ix _) (⟨x,rfl,a5.priv hT hj,(a7.upd a4 hj zo).low a5 h.tag⟩)
 have hM:jo kn al r=.bad (aw r).length 4:=by unfold jo;rw[if_neg h1,if_neg h2,if_neg h3,if_neg h4]
 rw[hM];refine zFH rfl ((iD _ 40 zd h4)) ?_;refine zv (RV.ld a2.r1 rfl) ?_;refine zc Jr (gD _ O1 w2 j rb l _ _ 0 ((l.length:Int)-((aw r).length:Int)) 4 hj b2 a2) ?_;rintro v wf ⟨rfl,c',c5⟩;have b3:=b1.upd c5 zo zo;refine zsa (us:=#[nI 0,nI 0,nS]) b3 (ix _) ?_;have c7:=b3.setRow (us:=#[nI 0,nI 0,nS]);have b':rf (fun k=>k=T) O1 wf O1 (wf.setRow xb #[nI 0,nI 0,nS]):=oz zo b3.tag rfl;have hbg:=c'.upd b' hj zo;refine zh ?_;refine aN rfl rfl (c7.cellsAdd) (oD _) (ix _) (⟨(0,0,nS),rfl,((a0.trans (c5.pj a1)).trans (b'.pT hj a1 (ow _))).priv hT hj,?_⟩);exact⟨rfl,_,op,hbg.fgt h.tag,zo,zo,zo,zo⟩
end
section
variable{kv:ox}{kn:Kn}
theorem FO(c:UInt8):sH [42,43,63] c=match opM c with|some k=>(k:Nat)|none=>-1:=by
 unfold sH opM
 by_cases h1:c=42
 ·subst h1;rfl
 by_cases h2:c=43
 ·subst h2;rfl
 by_cases h3:c=63
 ·subst h3;rfl
 rw[if_neg h1,if_neg h2,if_neg h3];have:[(42:UInt8),43,63].findIdx? (· == c)=none:=by
  rw[CX];intro x hx;simp at hx
  rcases hx with rfl|rfl|rfl<;>simp<;>intro e<;>first|exact h1 e.symm|exact h2 e.symm|exact h3 e.symm
 rw[this]
theorem tD(al:Option (List UInt8 → PR))(op:Int)(hop:0 ≤ op ∧ op ≤ 20)(ha:uT kv kn al op)(hg:mW al): Reads kv kn 216 [] op (fm kn al) (fun _ => True) := by
  intro B O j rb l r w hR hj hr hl hpre h hkn
  obtain⟨T, hT0, hT⟩ := hR.bound
  have hjT:j < T := by rw[← h.tag]; exact hT rb
  have hrl := hr.length_le
  refine ps func216 ntmps216 rfl rfl ?_
  refine zh ?_
  refine ax hR T (by omega) (pc _) rfl ?_
  intro xb w1 O1 hx1 hU1 hR1 hE1
  have hb1 := h.upd hU1 hj (by omega)
  have hUt1 := hU1.pT hj hT0 (ow _)
  have hga := qE (kn := kn) hg r
  refine zh ?_
  refine zc call227 (DJ al op hop ha hg B O1 j rb l r w1 hR1 hj hr hl trivial hb1 (hkn.upd hUt1)) ?_
  rintro v w2 ⟨x, rfl, hU2, hP2⟩
  have hxo := hP2.one
  have hx2 := hx1.upd hU2 (by omega) (by omega)
  have hR2 := hR1.upd hU2
  have hUt2 := hUt1.trans (hU2.pj hT0)
  refine ax hR2 (T + 1) (by omega) (pc _) rfl ?_
  intro nb w3 O3 hn3 hU3 hR3 hE3
  refine zsb (us := #[.int .i64 x.1, .int .i64 x.2.1, x.2.2]) hn3 (ix _) (cn hxo) ?_
  have hn4 := hn3.setRow (us := #[.int .i64 x.1, .int .i64 x.2.1, x.2.2])
  have hU4:rf (fun k => k = T + 1) O3 w3 O3 (w3.setRow nb #[.int .i64 x.1, .int .i64 x.2.1, x.2.2]) := oz (by omega) hn3.tag rfl
  have hU34 := hU3.trans hU4
  have hx4 := hx2.upd hU34 (by omega) (by omega)
  have hP4 := hP2.upd hU34 hj (by omega)
  have hR4 := hR2.upd hU34
  have hUt4 := hUt2.trans (hU34.pT hj hT0 (vX _))
  generalize w3.setRow nb #[.int .i64 x.1, .int .i64 x.2.1, x.2.2] = w4 at *
  cases hf:jo kn al r with
  |bad p e =>
    rw[hf]at hga hP4
    have hM:fm kn al r = .bad p e := by unfold fm; rw[hf]
    have hP5 := hP4
    obtain⟨g1, a, op', hb4, g2, g3, g4, g5⟩ := hP4
    replace hb4:vg O3 w4 j rb (rdr kv l a op' ((l.length:Int) - (p:Int)) e) 262 := hb4
    refine zh ?_
    refine zvH (RV.ld hb4.r5 rfl) ?_
    refine zTH rfl ((by simpa using hga.2)) ?_
    refine zv (ai (us := aY x) hn4.cellsAdd (oD _) (ix _) rfl) ?_
    refine zsb (us := #[.int .i64 x.1, .int .i64 x.2.1, x.2.2]) hx4 (ix _) (cn hxo) ?_
    have hxd := qN (us := #[.int .i64 x.1, .int .i64 x.2.1, x.2.2]) hx4
    have hUd:rf (fun k => k = T) O3 w4 O3 (pR w4 xb #[.int .i64 x.1, .int .i64 x.2.1, x.2.2]) := oz (by omega) (rj hx4) rfl
    have hUz := hUt4.trans (hUd.pT hj hT0 (ow _))
    refine zh ?_
    refine aN rfl rfl (hxd.cellsAdd) (oD _) (ix _) (⟨x, rfl, hUz.priv hT hj, ?_⟩)
    rw[hM]
    exact(hP5.upd hUd hj (by omega)).low hUz h.tag
  |ok t r1 =>
    rw[hf]at hga hP4
    obtain⟨hb4, hnt4⟩ := hP4
    replace hb4:vg O3 w4 j rb (rdr kv l ((l.length:Int) - (r1.length:Int)) op 0 0) 262 := hb4
    have hr1 := hga.1.trans hr
    have hq1 := (bn r1).trans hr1
    have hql := hq1.length_le
    refine zh ?_
    refine zvH (RV.ld hb4.r5 rfl) ?_
    refine zFH rfl rfl ?_
    refine zc Js (gm O3 w4 j rb l r1 op 0 0 hj hr1 (by omega) hb4) ?_
    rintro v w5 ⟨rfl, hb5, hU5⟩
    have hx5 := hx4.upd hU5 (by omega) (by omega)
    have hn5 := hn4.upd hU5 (by omega) (by omega)
    have hR5 := hR4.upd hU5
    have hUt5 := hUt4.trans (hU5.pj hT0)
    have hnt5 := hnt4.upd hU5
    refine zc call91 (dK [42, 43, 63] ((aw r1).headD 0) w5) ?_
    rintro v w9 ⟨rfl, hw9⟩
    rw[hw9, FO]
    clear hw9 w9
    have hb6 := hb5.drew
    have hx6 := hx5.drew
    have hn6 := hn5.drew
    have hnt6 := hnt5.drew
    have hUt6 := hUt5.drew
    have hR6 := hR5.drew
    refine zh ?_
    refine DN (by kernel_rfl) (by kernel_rfl) ?_
    refine zh ?_
    refine zwH (RV.ld hb6.r1 rfl) ?_
    refine zw (RV.ld hb6.r0 rfl) ?_
    refine zw (cx tR rfl) ?_
    refine zwH (L9 rfl rfl) ?_
    cases hk:opM ((aw r1).headD 0)with
    |none =>
      have hM:fm kn al r = .ok t (aw r1) := by unfold fm; rw[hf]; dsimp only; rw[hk]
      by_cases hq0:(aw r1).length = 0
      · skip
        refine bP (d := 30) rfl (b' := true) ((beq_iff_eq.2 (by omega))) ?_
        generalize w5.drew = w6 at *
        refine zh ?_
        refine zw (aQ rfl rfl) ?_
        refine Dc ?_
        refine zh ?_
        refine zTH rfl rfl ?_
        refine zv (ai (us := aY x) hn6.cellsAdd (oD _) (ix _) rfl) ?_
        refine zsb (us := #[.int .i64 x.1, .int .i64 x.2.1, x.2.2]) hx6 (ix _) (cn hxo) ?_
        have hxd := qN (us := #[.int .i64 x.1, .int .i64 x.2.1, x.2.2]) hx6
        have hUd:rf (fun k => k = T) O3 w6 O3 (pR w6 xb #[.int .i64 x.1, .int .i64 x.2.1, x.2.2]) := oz (by omega) (rj hx6) rfl
        have hUz := hUt6.trans (hUd.pT hj hT0 (ow _))
        have hbd := hb6.upd hUd hj (by omega)
        refine zh ?_
        refine aN rfl rfl (hxd.cellsAdd) (oD _) (ix _) (⟨x, rfl, hUz.priv hT hj, ?_⟩)
        rw[hM]
        exact⟨hbd.fgt h.tag, (hnt6.upd hUd).low hUz⟩
      · skip
        refine bP (d := 30) rfl (b' := false) ((beq_eq_false_iff_ne.2 (by omega))) ?_
        refine zh ?_
        refine zw (Kg rfl rfl) ?_
        refine zw (aW rfl rfl) ?_
        refine Dc ?_
        refine zh ?_
        refine aZ rfl rfl ?_
        generalize w5.drew = w6 at *
        refine zh ?_
        refine zv (ai (us := aY x) hn6.cellsAdd (oD _) (ix _) rfl) ?_
        refine zsb (us := #[.int .i64 x.1, .int .i64 x.2.1, x.2.2]) hx6 (ix _) (cn hxo) ?_
        have hxd := qN (us := #[.int .i64 x.1, .int .i64 x.2.1, x.2.2]) hx6
        have hUd:rf (fun k => k = T) O3 w6 O3 (pR w6 xb #[.int .i64 x.1, .int .i64 x.2.1, x.2.2]) := oz (by omega) (rj hx6) rfl
        have hUz := hUt6.trans (hUd.pT hj hT0 (ow _))
        have hbd := hb6.upd hUd hj (by omega)
        refine zh ?_
        refine aN rfl rfl (hxd.cellsAdd) (oD _) (ix _) (⟨x, rfl, hUz.priv hT hj, ?_⟩)
        rw[hM]
        exact⟨hbd.fgt h.tag, (hnt6.upd hUd).low hUz⟩
    |some k =>
      have hM:fm kn al r = .ok (.mk (6 + (k:Nat)) 0 [t]) (aw r1).tail := by unfold fm; rw[hf]; dsimp only; rw[hk]
      obtain⟨k1, k2⟩ := cm (D3 hk)
      have hk3:k ≤ 2 := by
        unfold opM at hk
        (repeat' split at hk) <;> simp at hk <;> omega
      refine bP (d := 30) rfl (b' := false) ((beq_eq_false_iff_ne.2 (by omega))) ?_
      refine zh ?_
      refine zw (Kg rfl rfl) ?_
      refine zw (aW rfl rfl) ?_
      refine Dc ?_
      refine zh ?_
      refine aS rfl ((decide_eq_false (by simp))) ?_
      generalize w5.drew = w6 at *
      refine zh ?_
      refine zvH (RV.ld hb6.r1 rfl) ?_
      refine ak (j := 1) hb6 rfl (yP _) rfl rfl rfl rfl ?_
      rw[show((l.length:Int) - ((aw r1).length:Int)) + 1 = (l.length:Int) - ((aw r1).tail.length:Int)from by omega]
      have hb7 := BlkO.rAt hb6 ((l.length:Int) - ((aw r1).tail.length:Int))
      have hU7:rf (fun k => k = j) O3 w6 O3 (rk w6 ⟨rb, 1, none⟩ (.int .i64 ((l.length:Int) - ((aw r1).tail.length:Int)))) := th (fun e => hj e.symm) (rj hb6) rfl
      have hx7 := hx6.upd hU7 (by omega) (by omega)
      have hn7 := hn6.upd hU7 (by omega) (by omega)
      have hR7 := hR6.upd hU7
      have hUt7 := hUt6.trans (hU7.pj hT0)
      have hnt7 := hnt6.upd hU7
      generalize rk w6 ⟨rb, 1, none⟩ (.int .i64 ((l.length:Int) - ((aw r1).tail.length:Int))) = w7 at *
      refine zh ?_
      refine zv (La rfl rfl (Km (by dsimp only; omega))) ?_
      refine zv (ai (us := aY x) hn7.cellsAdd (oD _) (ix _) rfl) ?_
      refine aL elN (enc := aY) x rfl rfl rfl (by decide) rfl ?_
      intro w8 h8 hE8
      have hX8:rf (fun _ => False) O3 w7 O3 w8 := aa (fun h => h) O3 hE8
      have hx8 := hx7.upd hX8 (by omega) (fun h => h)
      have hb8 := hb7.upd hX8 hj (fun h => h)
      have hUt8 := hUt7.trans (jz O3 hE8 hj hT0)
      have hnt8 := hnt7.upd hX8
      have hfr:Ln O3 w8 (.slice (some ⟨w7.heap.size, 0, none⟩) 1 1) := fun a n c e _ => by
        cases e
        refine⟨tJ fun hne => by have := (hR7.rng _ hne).2; simp at this, ?_⟩
        obtain⟨_, _, e, _, _, hh⟩ := h8.shape
        have hc := JB _ _ (h8.cells 0 (by simp) 0 _ rfl)
        simpa[adr, De]using hc
      have hN:Nt O3 w8 (.mk (6 + (k:Nat)) 0 [t]) (6 + (k:Nat), 0, .slice (some ⟨w7.heap.size, 0, none⟩) 1 1) :=
        .mk (xs := [x]) h8 hfr rfl (fun i hi => by obtain rfl : i = 0 := by simpa using hi
                                                   rw[ar, ar]; exact hnt8)
      have hxo2:((6 + (k:Nat), 0, .slice (some ⟨w7.heap.size, 0, none⟩) 1 1):N3).2.2.oneCell' = true := rfl
      clear hxo
      have hxo := hxo2
      refine zv (aF xW (pc _) rfl (by first | rfl | (simp only[pZ, rU]; rfl)) rfl rfl) ?_
      refine zsb (us := #[.int .i64 ((6 + (k:Nat), 0, .slice (some ⟨w7.heap.size, 0, none⟩) 1 1):N3).1, .int .i64 ((6 + (k:Nat), 0, .slice (some ⟨w7.heap.size, 0, none⟩) 1 1):N3).2.1, ((6 + (k:Nat), 0, .slice (some ⟨w7.heap.size, 0, none⟩) 1 1):N3).2.2]) hx8 (ix _) (cn hxo) ?_
      have hxd := qN (us := #[.int .i64 ((6 + (k:Nat), 0, .slice (some ⟨w7.heap.size, 0, none⟩) 1 1):N3).1, .int .i64 ((6 + (k:Nat), 0, .slice (some ⟨w7.heap.size, 0, none⟩) 1 1):N3).2.1, ((6 + (k:Nat), 0, .slice (some ⟨w7.heap.size, 0, none⟩) 1 1):N3).2.2]) hx8
      have hUd:rf (fun k => k = T) O3 w8 O3 (pR w8 xb #[.int .i64 ((6 + (k:Nat), 0, .slice (some ⟨w7.heap.size, 0, none⟩) 1 1):N3).1, .int .i64 ((6 + (k:Nat), 0, .slice (some ⟨w7.heap.size, 0, none⟩) 1 1):N3).2.1, ((6 + (k:Nat), 0, .slice (some ⟨w7.heap.size, 0, none⟩) 1 1):N3).2.2]) := oz (by omega) (rj hx8) rfl
      have hUz := hUt8.trans (hUd.pT hj hT0 (ow _))
      have hbd := hb8.upd hUd hj (by omega)
      refine zh ?_
      refine aN rfl rfl (hxd.cellsAdd) (oD _) (ix _) (⟨_, rfl, hUz.priv hT hj, ?_⟩)
      rw[hM]
      exact⟨hbd.fgt h.tag, (hN.upd hUd).low hUz⟩
end
section
variable{kv:ox}{kn:Kn}
theorem zW(c:UInt8)(w:ln):Gc tp 217 [.int .u8 (c.toNat:Int)] w fun v w'=>v=.bool (fD c)/\w'=w:=by
 refine ps func217 ntmps217 rfl rfl ?_;refine zh ?_
 refine zc KI (iX c w) ?_;rintro v w9 ⟨rfl,a0⟩;rw[a0];clear a0 w9;refine zh ?_
 cases h1:aj c with
 |true=>
  refine ay (d:=5) rfl (b':=true) (rfl) ?_;refine zh ?_
  refine ae rfl rfl (⟨by simp[fD,h1],rfl⟩)
 |false=>
  refine ay (d:=5) rfl (b':=false) (rfl) ?_;refine zh ?_
  by_cases h2:c=126
  ·refine ay (d:=9) rfl (b':=true) ((by rw[h2];rfl)) ?_;refine zh ?_
   refine ae rfl rfl (⟨by simp[fD,h2],rfl⟩)
  refine ay (d:=9) rfl (b':=false) ((iD _ 126 zd h2)) ?_;refine zh ?_
  by_cases h3:c=94
  ·refine ay (d:=13) rfl (b':=true) ((by rw[h3];rfl)) ?_;refine zh ?_
   refine ae rfl rfl (⟨by simp[fD,h3],rfl⟩)
  refine ay (d:=13) rfl (b':=false) ((iD _ 94 zd h3)) ?_;refine zh ?_
  have e:=oK c 40 zd;refine ae rfl rfl (⟨?_,rfl⟩);have e2:fD c=decide (c=40):=by simp[fD,h1,h2,h3]
  rw[e2];exact congrArg Value.bool e
def PR.andThen(M:PR)(f:Nd->List UInt8->PR):PR:=match M with | .bad p e=>.bad p e | .ok t r=>f t r
def LoopS(kv:ox)(op:Int)(l:List UInt8)(j rb:Nat)(F:Nat->List Nd->List UInt8->PR)(M:PR)(O:Nat->Nat)(w:ln)(n:Nat)(r1:List UInt8)(ts:List Nd)(xs:List N3):Prop:=
 (Rdr kv O w j rb l ((l.length:Int)-(r1.length:Int)) op 0 0/\r1 <:+ l/\r1.length<n/\xs.length+n<=5000/\ts.length=xs.length/\(∀i,i<xs.length->Nt O w (nth ts i) (nth xs i))/\F n ts r1=M)\/
 (∃p e a op',M=.bad p e/\e≠0/\Rdr kv O w j rb l a op' ((l.length:Int)-(p:Int)) e/\0<=a/\a<=l.length+20-op/\op<=op'/\op'<=20)
theorem LoopS.upd{op:Int}{l:List UInt8}{j rb:Nat}{F:Nat->List Nd->List UInt8->PR}{M:PR}{O O':Nat->Nat}{w w':ln}{n:Nat}{r1:List UInt8}{ts:List Nd}{xs:List N3}{S:Nat->Prop}(h:LoopS kv op l j rb F M O w n r1 ts xs)(u:rf S O w O' w')(hj:j≠0)(hS:¬S j):LoopS kv op l j rb F M O' w' n r1 ts xs:=by
 rcases h with⟨h1,h2,h3,h4,h5,h6,h7⟩|⟨p,e,a,o,h1,h2,h3,h4⟩
 ·exact .inl ⟨ri h1 u hj hS,h2,h3,h4,h5,fun i hi=>(h6 i hi).upd u,h7⟩
 exact .inr ⟨p,e,a,o,h1,h2,ri h3 u hj hS,h4⟩
theorem LoopS.next{op:Int}{l:List UInt8}{j rb:Nat}{F:Nat->List Nd->List UInt8->PR}{M M':PR}{O:Nat->Nat}{w:ln}{n:Nat}{q r1:List UInt8}{ts:List Nd}{xs:List N3}{x:N3}(hP:PostE kv O w j rb l op x M')(hG:Good q M')(hq:q <:+ l)(a0:q.length<=r1.length)(h3:r1.length<n+1)(h4:xs.length+(n+1)<=5000)(h5:ts.length=xs.length) 
  (h6:∀i,i<xs.length->Nt O w (nth ts i) (nth xs i)) (h7:F (n+1) ts r1=M) (hF:F (n+1) ts r1=M'.andThen fun t r2=>F n (ts++[t]) r2):∃n' r' ts',n'<n+1/\LoopS kv op l j rb F M O w n' r' ts' (xs++[x]):=by
 cases M' with
 |bad p e=>
  obtain⟨g1,a,o,g2,g3⟩:=hP;exact⟨0,[],[],zo,.inr ⟨p,e,a,o,by rw[<-h7,hF];rfl,hG.2,g2,g3⟩⟩
 |ok t r2=>
  refine⟨n,r2,ts++[t],zo,.inl ⟨hP.1,hG.1.trans hq,by have:=hG.2;omega,by simp;omega,by simp[h5],fun i hi=>?_,by rw[<-h7,hF];rfl⟩⟩;simp only[yY,FX]at hi
  by_cases e:i<xs.length
  ·rw[aB (by simp;omega),aB (by simp;omega),rm zo,rm e,<-aB zo,<-aB e];exact h6 i e
  obtain rfl:i=xs.length:=zo;rw[aB (by simp;omega),aB (by simp),uh zo,uh zo];simp[h5];exact hP.2
theorem oY{op:Int}{l:List UInt8}{j rb:Nat}{F:Nat->List Nd->List UInt8->PR}{M M':PR}{O:Nat->Nat}{w:ln}{r:List UInt8}{x:N3}(hP:PostE kv O w j rb l op x M')(hG:Good r M')(hr:r <:+ l)(hl:l.length<=4096)(hF:M=M'.andThen fun t r2=>F (r2.length+1) [t] r2):∃n' r' ts',LoopS kv op l j rb F M O w n' r' ts' [x]:=by
 cases M' with
 |bad p e=>
  obtain⟨g1,a,o,g2,g3⟩:=hP;exact⟨0,[],[],.inr ⟨p,e,a,o,hF,hG.2,g2,g3⟩⟩
 |ok t r2=>
  have:=hr.length_le;refine⟨r2.length+1,r2,[t],.inl ⟨hP.1,hG.1.trans hr,zo,by have:=hG.2;simp;omega,rfl,fun i hi=>?_,hF.symm⟩⟩;obtain rfl:i=0:=by simpa using hi
  rw[ar,ar];exact hP.2
theorem Nt.oneM{O O':Nat->Nat}{w w':ln}{k:Int}{ts:List Nd}{xs:List N3}{lv:ox}{T U B:Nat}{S:Nat->Prop}(a0:BJ aY 83 3 O' w' U lv xs)(a1:T<=U)(a2:0<T)(hT:∀b,O b<T)(r:Gi B O' w')(u:rf S O w O' w')(h5:ts.length=xs.length)(h6:∀i,i<xs.length->Nt O' w' (nth ts i) (nth xs i))(_:1<=xs.length):
  Nt O w' (oneM k ts) (if xs.length=1 then nth xs 0 else(k,0,lv)):=by
 unfold GZ
 by_cases e:xs.length=1
 ·rw[if_pos zo,if_pos e];exact(h6 0 zo).low u
 rw[if_neg zo,if_neg e];exact .mk a0.sl (a0.freeT zo (fun b=>K8 (hT b) a1) r u) h5 (fun i hi=>(h6 i hi).low u)
theorem AM(al:Option (List UInt8->PR))(op:Int)(f3:0<=op/\op<=20)(ha:uT kv kn al op)(hg:mW al):Reads kv kn 192 [] op (CD kn al) (fun _=>True):=by
 intro B O j rb l r w hR hj hr hl h0 h f5;obtain⟨T,a6,hT⟩:=hR.bound;have i2:j<T:=by rw[<-h.tag];exact hT rb
 have i1:=hr.length_le;refine ps func192 ntmps192 rfl rfl ?_;refine zh ?_;refine ax hR T zo (pc _) rfl ?_;intro xb w1 O1 g9 f7 f' i3;have h4:=h.upd f7 hj zo;have b6:=f7.pT hj a6 (ow _);refine zh ?_;refine zc call216 (tD al op f3 ha hg B O1 j rb l r w1 f' hj hr hl trivial h4 (f5.upd b6)) ?_;rintro v w2 ⟨x,rfl,e2,g1⟩;have c8:=g1.one;have g8:=g9.upd e2 zo zo;have h':=f'.upd e2;have d9:=b6.trans (e2.pj a6);refine bS elN (enc:=aY) h' (T+1) zo x rfl rfl rfl zd rfl ?_;intro lv w3 O3 b4 e1 h9;have g7:=g8.upd e1 zo zo;have i0:=g1.upd e1 hj zo;have d8:=d9.trans (e1.pT hj a6 (vX _));have b5:∀i,i<[x].length->(nth [x] i).2.2.oneCell'=true:=fun i hi=>by
  obtain rfl:i=0:=by simpa using hi
  rw[ar];exact c8
 obtain⟨n0,r0,g3,h6⟩:=oY (F:=dA kn al) (M:=CD kn al r) i0 (gn (kn:=kn) hg r) hr hl rfl;refine zh ?_;refine zlp (fun y:Nat×List UInt8×List Nd×List N3×(Nat->Nat)×World×ox=>[(0,nP rb),(2,nP xb),(3,y.2.2.2.2.2.2)]) (fun y=>y.2.2.2.2.2.1) (fun y=>vg y.2.2.2.2.1 y.2.2.2.2.2.1 T xb #[nI 0,nI 0,nS] 83/\BJ aY 83 3 y.2.2.2.2.1 y.2.2.2.2.2.1 (T+1) y.2.2.2.2.2.2 y.2.2.2.1/\1<=y.2.2.2.1.length/\(∀i,i<y.2.2.2.1.length->(nth y.2.2.2.1 i).2.2.oneCell'=true)/\rf (fun k=>k=j\/T<=k) O w y.2.2.2.2.1 y.2.2.2.2.2.1/\Gi B y.2.2.2.2.1 y.2.2.2.2.2.1/\LoopS kv op l j rb (dA kn al) (CD kn al r) y.2.2.2.2.1 y.2.2.2.2.2.1 y.1 y.2.1 y.2.2.1 y.2.2.2.1) (fun y=>y.1) (n0,r0,g3,[x],O3,w3,lv) (⟨g7,b4,ow _,b5,d8,h9,h6⟩) ?_;rintro⟨n,r1,ts,xs,O4,w4,a0⟩ ⟨c',a4,a8,a1,e0,e4,f8⟩;dsimp only at c' a4 a8 a1 e0 e4 f8 ⊢
 rcases f8 with⟨a',e9,h1,h3,f4,g',g2⟩|⟨p,e,a,e5,hM,he,a',d5,d4,d3,d2⟩
 ·have e':=(bn r1).trans e9;have d0:=dy r1;obtain⟨m,rfl⟩:∃m,n=m+1:=⟨n-1,zo⟩
  have c7:dA kn al (m+1) ts r1=if fD ((aw r1).headD 0)=true then((fm kn al (aw r1)).andThen fun t r2=>dA kn al m (ts++[t]) r2)else .ok (oneM 4 ts) (aw r1):=rfl
  refine zh ?_;refine zvH (RV.ld a'.r5 rfl) ?_
  refine ay (d:=12) rfl (b':=true) (rfl) ?_;refine zh ?_
  refine zc Js (gm O4 w4 j rb l r1 op 0 0 hj e9 zo a') ?_;rintro v w5 ⟨rfl,f6,b8⟩;have e6:=c'.upd b8 zo zo;have a5:=a4.upd b8 zo zo;have e3:=e4.upd b8;have b0:=e0.trans (b8.pj a6);have e8:∀i,i<xs.length->Nt O4 w5 (nth ts i) (nth xs i):=fun i hi=>(g' i hi).upd b8
  refine zh ?_;refine zc call217 (zW ((aw r1).headD 0) w5) ?_
  rintro v w9 ⟨rfl,e7⟩;rw[e7];clear e7 w9;refine zh ?_
  by_cases hc:fD ((aw r1).headD 0)=true
  ·rw[if_pos hc]at c7;refine zTH rfl (hc) ?_;refine zc call216 (tD al op f3 ha hg B O4 j rb l (aw r1) w5 e3 hj e' hl trivial f6 (f5.upd b0)) ?_;rintro v w6 ⟨x6,rfl,b7,g0⟩;have b1:=g0.one;have g6:=e6.upd b7 zo zo;have b3:=a5.upd b7 zo zo;have h8:=e3.upd b7;have d7:=b0.trans (b7.pj a6);refine Kq elN b3 h8 (x6) (fun _=>rfl) rfl rfl rfl (iA b1) zo zo zo zd rfl rfl ?_;intro g5 w7 O7 b2 d' h7;obtain⟨n',r',g4,h2,h5⟩:=LoopS.next (F:=dA kn al) g0 (gn (kn:=kn) hg _) e' d0 h1 h3 f4 (fun i hi=>(e8 i hi).upd b7) g2 c7;refine zh ?_;refine zx (n',r',g4,xs++[x6],O7,w7,g5) (⟨g6.upd d' zo zo,b2,by simp,fun i hi=>?_,d7.trans (d'.pT hj a6 (vX _)),h7,h5.upd d' hj zo⟩) (h2);simp only[yY,FX]at hi
   by_cases e:i<xs.length
   ·rw[aB (by simp;omega),rm e,<-aB e];exact a1 i e
   obtain rfl:i=xs.length:=zo;rw[aB (by simp)];simpa using b1
  rw[if_neg hc]at c7;refine zFH rfl ((by simpa using hc)) ?_;refine zc KJ (rD 4 xs a0 w5 a5.sl a1) ?_;rintro v wo ⟨rfl,b9⟩;have a7:rf (fun _=>False) O4 w5 O4 wo:=aa (fun h=>h) O4 b9;have a2:=ri e6 a7 zo (fun h=>h);have a3:=JR a5 a7 zo (fun h=>h);have f9:=Kf e3 a7;have c5:(if xs.length=1 then nth xs 0 else(4,0,a0):N3).2.2.oneCell'=true:=by
   split
   ·exact a1 0 zo
   exact a3.one
  refine zsb (us:=#[nI (if xs.length=1 then nth xs 0 else(4,0,a0):N3).1,nI (if xs.length=1 then nth xs 0 else(4,0,a0):N3).2.1,(if xs.length=1 then nth xs 0 else(4,0,a0):N3).2.2]) a2 (ix _) (cn c5) ?_;have c9:=qN (us:=#[nI (if xs.length=1 then nth xs 0 else(4,0,a0):N3).1,nI (if xs.length=1 then nth xs 0 else(4,0,a0):N3).2.1,(if xs.length=1 then nth xs 0 else(4,0,a0):N3).2.2]) a2;have a9:rf (fun k=>k=T) O4 wo O4 (pR wo xb #[nI (if xs.length=1 then nth xs 0 else(4,0,a0):N3).1,nI (if xs.length=1 then nth xs 0 else(4,0,a0):N3).2.1,(if xs.length=1 then nth xs 0 else(4,0,a0):N3).2.2]):=oz zo (rj a2) rfl;have d6:=b0.trans (jz O4 b9 hj a6);have c6:=d6.trans (a9.pT hj a6 (ow _));refine zh ?_
  refine aN rfl rfl (c9.cellsAdd) (oD _) (ix _) (⟨(if xs.length=1 then nth xs 0 else(4,0,a0)),rfl,c6.priv hT hj,?_⟩);have d1:=(ri f6 a7 hj (fun h=>h)).upd a9 hj zo;rw[<-g2,c7];exact⟨d1.fgt h.tag,Nt.oneM (a3.upd a9 zo zo) (vX T) a6 hT (f9.upd a9) c6 f4 (fun i hi=>((e8 i hi).upd a7).upd a9) a8⟩
 replace a':vg O4 w4 j rb (rdr kv l a e5 ((l.length:Int)-(p:Int)) e) 262:=a';refine zh ?_;refine zvH (RV.ld a'.r5 rfl) ?_;refine ay (d:=12) rfl (b':=false) ((by simpa using he)) ?_;refine zh ?_;refine zFH rfl rfl ?_;refine zc KJ (rD 4 xs a0 w4 a4.sl a1) ?_;rintro v wo ⟨rfl,b9⟩;have a7:rf (fun _=>False) O4 w4 O4 wo:=aa (fun h=>h) O4 b9;have a2:=ri c' a7 zo (fun h=>h);have a3:=JR a4 a7 zo (fun h=>h);have f9:=Kf e4 a7;have c5:(if xs.length=1 then nth xs 0 else(4,0,a0):N3).2.2.oneCell'=true:=by
  split
  ·exact a1 0 zo
  exact a3.one
 refine zsb (us:=#[nI (if xs.length=1 then nth xs 0 else(4,0,a0):N3).1,nI (if xs.length=1 then nth xs 0 else(4,0,a0):N3).2.1,(if xs.length=1 then nth xs 0 else(4,0,a0):N3).2.2]) a2 (ix _) (cn c5) ?_;have c9:=qN (us:=#[nI (if xs.length=1 then nth xs 0 else(4,0,a0):N3).1,nI (if xs.length=1 then nth xs 0 else(4,0,a0):N3).2.1,(if xs.length=1 then nth xs 0 else(4,0,a0):N3).2.2]) a2;have a9:rf (fun k=>k=T) O4 wo O4 (pR wo xb #[nI (if xs.length=1 then nth xs 0 else(4,0,a0):N3).1,nI (if xs.length=1 then nth xs 0 else(4,0,a0):N3).2.1,(if xs.length=1 then nth xs 0 else(4,0,a0):N3).2.2]):=oz zo (rj a2) rfl;have d6:=e0.trans (jz O4 b9 hj a6);have c6:=d6.trans (a9.pT hj a6 (ow _));refine zh ?_
 refine aN rfl rfl (c9.cellsAdd) (oD _) (ix _) (⟨(if xs.length=1 then nth xs 0 else(4,0,a0)),rfl,c6.priv hT hj,?_⟩);have d1:=(ri a' a7 hj (fun h=>h)).upd a9 hj zo;rw[hM];exact⟨c5,a,e5,d1.fgt h.tag,d5,d4,d3,d2⟩
theorem yE(al:Option (List UInt8->PR))(op:Int)(e9:0<=op/\op<=20)(ha:uT kv kn al op)(hg:mW al):Reads kv kn 178 [] op (oQ kn al) (fun _=>True):=by
 intro B O j rb l r w hR hj hr hl g' h f3;obtain⟨T,a5,hT⟩:=hR.bound;have i1:j<T:=by rw[<-h.tag];exact hT rb
 have i0:=hr.length_le;refine ps func178 ntmps178 rfl rfl ?_;refine zh ?_;refine ax hR T zo (pc _) rfl ?_;intro xb w1 O1 g7 f4 f8 i2;have h3:=h.upd f4 hj zo;have b7:=f4.pT hj a5 (ow _);refine zh ?_;refine zc call192 (AM al op e9 ha hg B O1 j rb l r w1 f8 hj hr hl trivial h3 (f3.upd b7)) ?_;rintro v w2 ⟨x,rfl,e3,f'⟩;have c9:=f'.one;have g6:=g7.upd e3 zo zo;have h9:=f8.upd e3;have d':=b7.trans (e3.pj a5);refine bS elN (enc:=aY) h9 (T+1) zo x rfl rfl rfl zd rfl ?_;intro lv w3 O3 b3 e2 h8;have g5:=g6.upd e2 zo zo;have h':=f'.upd e2 hj zo;have d9:=d'.trans (e2.pT hj a5 (vX _));have b4:∀i,i<[x].length->(nth [x] i).2.2.oneCell'=true:=fun i hi=>by
  obtain rfl:i=0:=by simpa using hi
  rw[ar];exact c9
 obtain⟨n0,r0,g1,h5⟩:=oY (F:=cR kn al) (M:=oQ kn al r) h' (ku (kn:=kn) hg r) hr hl rfl;refine zh ?_;refine zlp (fun y:Nat×List UInt8×List Nd×List N3×(Nat->Nat)×World×ox=>[(0,nP rb),(2,nP xb),(3,y.2.2.2.2.2.2)]) (fun y=>y.2.2.2.2.2.1) (fun y=>vg y.2.2.2.2.1 y.2.2.2.2.2.1 T xb #[nI 0,nI 0,nS] 83/\BJ aY 83 3 y.2.2.2.2.1 y.2.2.2.2.2.1 (T+1) y.2.2.2.2.2.2 y.2.2.2.1/\1<=y.2.2.2.1.length/\(∀i,i<y.2.2.2.1.length->(nth y.2.2.2.1 i).2.2.oneCell'=true)/\rf (fun k=>k=j\/T<=k) O w y.2.2.2.2.1 y.2.2.2.2.2.1/\Gi B y.2.2.2.2.1 y.2.2.2.2.2.1/\LoopS kv op l j rb (cR kn al) (oQ kn al r) y.2.2.2.2.1 y.2.2.2.2.2.1 y.1 y.2.1 y.2.2.1 y.2.2.2.1) (fun y=>y.1) (n0,r0,g1,[x],O3,w3,lv) (⟨g5,b3,ow _,b4,d9,h8,h5⟩) ?_;rintro⟨n,r1,ts,xs,O4,w4,a0⟩ ⟨d0,a4,a8,a1,e1,e4,f5⟩;dsimp only at d0 a4 a8 a1 e1 e4 f5 ⊢
 rcases f5 with⟨a',e8,h0,h2,e',g8,g0⟩|⟨p,e,a,e5,hM,he,a',d6,d5,d4,d3⟩
 ·have d1:=(bn r1).trans e8;have g9:=dy r1;obtain⟨m,rfl⟩:∃m,n=m+1:=⟨n-1,zo⟩
  have c8:cR kn al (m+1) ts r1=if(aw r1).headD 0=124 then((CD kn al (aw r1).tail).andThen fun t r2=>cR kn al m (ts++[t]) r2)else .ok (oneM 5 ts) (aw r1):=rfl
  refine zh ?_;refine zvH (RV.ld a'.r5 rfl) ?_
  refine ay (d:=12) rfl (b':=true) (rfl) ?_;refine zh ?_
  refine zc Js (gm O4 w4 j rb l r1 op 0 0 hj e8 zo a') ?_;rintro v w5 ⟨rfl,b5,b9⟩;have e6:=d0.upd b9 zo zo;have a6:=a4.upd b9 zo zo;have f7:=e4.upd b9;have b6:=e1.trans (b9.pj a5);have e7:∀i,i<xs.length->Nt O4 w5 (nth ts i) (nth xs i):=fun i hi=>(g8 i hi).upd b9
  refine zh ?_
  by_cases hc:(aw r1).headD 0=124
  ·rw[if_pos hc]at c8;obtain⟨k1,k2⟩:=cm (r:=aw r1) (by rw[hc];decide);have hq4l:=d1.length_le;refine zTH rfl ((by rw[hc];rfl)) ?_;refine zvH (RV.ld b5.r1 rfl) ?_;refine ak (j:=1) b5 rfl (yP _) rfl rfl rfl rfl ?_;rw[show((l.length:Int)-((aw r1).length:Int))+1=(l.length:Int)-((aw r1).tail.length:Int)from by omega];have hb5a:=BlkO.rAt b5 ((l.length:Int)-((aw r1).tail.length:Int));have hU5a:rf (fun k=>k=j) O4 w5 O4 (rk w5 ⟨rb,1,none⟩ (nI ((l.length:Int)-((aw r1).tail.length:Int)))):=th (fun e=>hj e.symm) (rj b5) rfl;have hx5a:=e6.upd hU5a zo zo;have hrow5a:=a6.upd hU5a zo zo;have hR5a:=f7.upd hU5a;have hUt5a:=b6.trans (hU5a.pj a5);generalize rk w5 ⟨rb,1,none⟩ (nI ((l.length:Int)-((aw r1).tail.length:Int)))=w5a at *;refine zh ?_;refine zc call192 (AM al op e9 ha hg B O4 j rb l (aw r1).tail w5a hR5a hj (k1.trans d1) hl trivial hb5a (f3.upd hUt5a)) ?_;rintro v w6 ⟨x6,rfl,b8,f9⟩;have b0:=f9.one;have g4:=hx5a.upd b8 zo zo;have b2:=hrow5a.upd b8 zo zo;have h7:=hR5a.upd b8;have d8:=hUt5a.trans (b8.pj a5);refine Kq elN b2 h7 (x6) (fun _=>rfl) rfl rfl rfl (iA b0) zo zo zo zd rfl rfl ?_;intro g3 w7 O7 b1 e0 h6;obtain⟨n',r',g2,h1,h4⟩:=LoopS.next (F:=cR kn al) f9 (ku (kn:=kn) hg _) (k1.trans d1) zo h0 h2 e' (fun i hi=>((e7 i hi).upd hU5a).upd b8) g0 c8;refine zh ?_
   refine zx (n',r',g2,xs++[x6],O7,w7,g3) (⟨g4.upd e0 zo zo,b1,by simp,fun i hi=>?_,d8.trans (e0.pT hj a5 (vX _)),h6,h4.upd e0 hj zo⟩) (h1);simp only[yY,FX]at hi
   by_cases e:i<xs.length
   ·rw[aB (by simp;omega),rm e,<-aB e];exact a1 i e
   obtain rfl:i=xs.length:=zo;rw[aB (by simp)];simpa using b0
  rw[if_neg hc]at c8;refine zFH rfl ((iD _ 124 zd hc)) ?_;refine zc KJ (rD 5 xs a0 w5 a6.sl a1) ?_;rintro v wo ⟨rfl,c5⟩;have a7:rf (fun _=>False) O4 w5 O4 wo:=aa (fun h=>h) O4 c5;have a2:=ri e6 a7 zo (fun h=>h);have a3:=JR a6 a7 zo (fun h=>h);have f6:=Kf f7 a7;have c6:(if xs.length=1 then nth xs 0 else(5,0,a0):N3).2.2.oneCell'=true:=by
   split
   ·exact a1 0 zo
   exact a3.one
  refine zsb (us:=#[nI (if xs.length=1 then nth xs 0 else(5,0,a0):N3).1,nI (if xs.length=1 then nth xs 0 else(5,0,a0):N3).2.1,(if xs.length=1 then nth xs 0 else(5,0,a0):N3).2.2]) a2 (ix _) (cn c6) ?_;have c':=qN (us:=#[nI (if xs.length=1 then nth xs 0 else(5,0,a0):N3).1,nI (if xs.length=1 then nth xs 0 else(5,0,a0):N3).2.1,(if xs.length=1 then nth xs 0 else(5,0,a0):N3).2.2]) a2;have a9:rf (fun k=>k=T) O4 wo O4 (pR wo xb #[nI (if xs.length=1 then nth xs 0 else(5,0,a0):N3).1,nI (if xs.length=1 then nth xs 0 else(5,0,a0):N3).2.1,(if xs.length=1 then nth xs 0 else(5,0,a0):N3).2.2]):=oz zo (rj a2) rfl;have d7:=b6.trans (jz O4 c5 hj a5);have c7:=d7.trans (a9.pT hj a5 (ow _));refine zh ?_
  refine aN rfl rfl (c'.cellsAdd) (oD _) (ix _) (⟨(if xs.length=1 then nth xs 0 else(5,0,a0)),rfl,c7.priv hT hj,?_⟩);have d2:=(ri b5 a7 hj (fun h=>h)).upd a9 hj zo;rw[<-g0,c8];exact⟨d2.fgt h.tag,Nt.oneM (a3.upd a9 zo zo) (vX T) a5 hT (f6.upd a9) c7 e' (fun i hi=>((e7 i hi).upd a7).upd a9) a8⟩
 replace a':vg O4 w4 j rb (rdr kv l a e5 ((l.length:Int)-(p:Int)) e) 262:=a';refine zh ?_;refine zvH (RV.ld a'.r5 rfl) ?_;refine ay (d:=12) rfl (b':=false) ((by simpa using he)) ?_;refine zh ?_;refine zFH rfl rfl ?_;refine zc KJ (rD 5 xs a0 w4 a4.sl a1) ?_;rintro v wo ⟨rfl,c5⟩;have a7:rf (fun _=>False) O4 w4 O4 wo:=aa (fun h=>h) O4 c5;have a2:=ri d0 a7 zo (fun h=>h);have a3:=JR a4 a7 zo (fun h=>h);have f6:=Kf e4 a7;have c6:(if xs.length=1 then nth xs 0 else(5,0,a0):N3).2.2.oneCell'=true:=by
  split
  ·exact a1 0 zo
  exact a3.one
 refine zsb (us:=#[nI (if xs.length=1 then nth xs 0 else(5,0,a0):N3).1,nI (if xs.length=1 then nth xs 0 else(5,0,a0):N3).2.1,(if xs.length=1 then nth xs 0 else(5,0,a0):N3).2.2]) a2 (ix _) (cn c6) ?_;have c':=qN (us:=#[nI (if xs.length=1 then nth xs 0 else(5,0,a0):N3).1,nI (if xs.length=1 then nth xs 0 else(5,0,a0):N3).2.1,(if xs.length=1 then nth xs 0 else(5,0,a0):N3).2.2]) a2;have a9:rf (fun k=>k=T) O4 wo O4 (pR wo xb #[nI (if xs.length=1 then nth xs 0 else(5,0,a0):N3).1,nI (if xs.length=1 then nth xs 0 else(5,0,a0):N3).2.1,(if xs.length=1 then nth xs 0 else(5,0,a0):N3).2.2]):=oz zo (rj a2) rfl;have d7:=e1.trans (jz O4 c5 hj a5);have c7:=d7.trans (a9.pT hj a5 (ow _));refine zh ?_
 refine aN rfl rfl (c'.cellsAdd) (oD _) (ix _) (⟨(if xs.length=1 then nth xs 0 else(5,0,a0)),rfl,c7.priv hT hj,?_⟩);have d2:=(ri a' a7 hj (fun h=>h)).upd a9 hj zo;rw[hM];exact⟨c6,a,e5,d2.fgt h.tag,d6,d5,d4,d3⟩
theorem qG:∀(d:Nat),d<=20->Reads kv kn 178 [] (20-(d:Int)) (xn kn d) (fun _=>True)
 |0,h=>yE none _ zo (show(20:Int)-((0:Nat):Int)=20 by omega) (fun f e=>by cases e)
 |d+1,h=>by
  have ih:=qG d zo;rw[show(20:Int)-(d:Int)=(20-((d+1:Nat):Int))+1 from by omega]at ih;exact yE (some (xn kn d)) _ zo ⟨zo,ih⟩ (fun f e r=>by cases e;exact jd (kn:=kn) d r)
end
end Go.Proofs.YtlehnbkknlpkbaaGreatDoor
section
namespace Go.VL
def mix(A C:Nat->Nat)(b:Nat):Nat:=if A b=0 then C b else A b
theorem FW{A C:Nat->Nat}{b i:Nat}(h:A b=i)(hi:i≠0):mix A C b=i:=by unfold mix;rw[if_neg zo];exact h
theorem IF{A C:Nat->Nat}{b:Nat}(h:mix A C b=0):C b=0:=by
 unfold mix at h
 split at h
 ·exact h
 rename_i h1;exact absurd h h1
theorem Rng.mix{B:Nat}{A C:Nat->Nat}{w:ln}(h:Gi B A w)(k:Gi B C w):Gi B (mix A C) w:=⟨h.le,fun b hb=>by
 unfold VL.mix at hb
 split at hb
 ·exact k.rng b hb
 rename_i h1;exact h.rng b h1⟩
end Go.VL
namespace Go.Proofs.YtlehnbkknlpkbaaGreatDoor
open Go.VL Go.Proofs
set_option maxRecDepth 10000
variable{kn:Kn}
def PostX(O:Nat->Nat)(w:ln)(v:ox):XR->Prop
 |.ok t=>∃x,v=.tuple #[nv x,nI 0,nI 0]/\Nt O w t x
 |.bad p e=>v=.tuple #[nv (0,0,nS),nI (p:Int),nI e]/\e≠0
theorem Iu:cV tp 260 #[(0,1),(1,1)]:=⟨_,underlying260,fun w=>by kernel_rfl⟩
theorem It:cV tp 262 #[(0,2),(2,1),(3,1),(4,1),(5,1)]:=⟨_,underlying262,fun w=>by kernel_rfl⟩
theorem lH(kv:ox)(l:List UInt8)(B:Nat)(O O':Nat->Nat)(w:ln)(h4:Gi B O w)(hR:Gi B O' w)(d4:Known O' w kv kn):Gc tp 158 [.string (bs l),kv] w fun v w'=>BW w w'/\PostX O w' v (fz kn l):=by
 obtain⟨T,h8,hT⟩:=hR.bound;have a0:¬(fun q:Nat=>T<=q) 0:=fun e=>zo
 have hA:=qG (kv:=kv) (kn:=kn) 20 (ow _);rw[show(20:Int)-((20:Nat):Int)=0 from by omega]at hA;have b5:=jd (kn:=kn) 20 l;obtain⟨ms,e3⟩:=d4;obtain⟨qa,qc,g0,_⟩:=e3.1.shape;replace d4:Known O' w kv kn:=⟨ms,e3⟩
 subst g0;refine ps func158 ntmps158 rfl rfl ?_;refine zh ?_;refine ax hR T zo (pc _) rfl ?_;intro xb w1 O1 c9 h0 h3 i1;have b9:rf (fun q=>T<=q) O' w O1 w1:=h0.mono (fun _ h=>A2 h.symm) a0;refine zh ?_;refine zvH (cx tR rfl) ?_
 by_cases hl:4096<l.length
 ·have hM:fz kn l=.bad 0 3:=by unfold fz;rw[if_pos hl]
  rw[hM];refine zTH rfl ((decide_eq_true zo)) ?_;refine zv (aF xW (pc _) rfl (by first|rfl|(simp only[pZ,rU];rfl)) rfl rfl) ?_;refine zsa (us:=#[nI 0,nI 0,nS]) c9 (ix _) ?_;have a7:=qN (us:=#[nI 0,nI 0,nS]) c9;have a3:rf (fun k=>k=T) O1 w1 O1 (pR w1 xb #[nI 0,nI 0,nS]):=oz zo (rj c9) rfl;refine zh ?_;refine cF rfl rfl rfl rfl a7.cellsAdd (oD _) (ix _) ⟨aD (b9.trans (a3.mono (fun _ h=>A2 h.symm) a0)) (fun b=>by have:=hT b;omega),rfl,zd⟩
 refine zFH rfl ((decide_eq_false zo)) ?_;refine zvH (aF Iu (zeroValue260 _) rfl (by first|rfl|(simp only[pZ,rU];rfl)) rfl rfl) ?_
 refine zv (RV.build (cells:=rdr (.slice qa ms.length qc) l 0 0 0 0) It (zeroValue262 _) rfl rfl) ?_;refine aE h3 (T+1) zo rfl rfl ?_
 intro rb w2 O2 d5 e5 e7 i0;have g7:Rdr (.slice qa ms.length qc) O2 w2 (T+1) rb l ((l.length:Int)-(l.length:Int)) 0 0 0:=by
  rw[show(l.length:Int)-(l.length:Int)=0 from by omega];exact d5
 have f7:=c9.upd e5 zo zo;have b8:=b9.trans (e5.mono (fun _ h=>by rw[h];omega) a0);refine zh ?_;refine zc call178 (hA B O2 (T+1) rb l l w2 e7 zo (J6 l) zo trivial g7 (d4.upd b8)) ?_;rintro v w3 ⟨x,rfl,d',e8⟩;have f4:=e8.one;have f6:=f7.upd d' zo zo;have e6:=e7.upd d';have d8:=b8.trans (d'.mono (fun _ h=>by rw[h];omega) a0);refine ax e6 (T+2) zo (pc _) rfl ?_;intro nb w4 O4 d3 g' h9 h';refine zsb (us:=#[nI x.1,nI x.2.1,x.2.2]) d3 (ix _) (cn f4) ?_;have f':=d3.setRow (us:=#[nI x.1,nI x.2.1,x.2.2]);have g9:rf (fun k=>k=T+2) O4 w4 O4 (w4.setRow nb #[nI x.1,nI x.2.1,x.2.2]):=oz zo d3.tag rfl;have a':=g'.trans g9;have c8:=f6.upd a' zo zo;have c':=e8.upd a' zo zo;have h2:=e6.upd a';have b7:=d8.trans (a'.mono (fun _ h=>by rw[h];omega) a0);generalize w4.setRow nb #[nI x.1,nI x.2.1,x.2.2]=w5 at *
 cases hf:xn kn 20 l with
 |bad p e=>
  rw[hf]at b5 c';have hM:fz kn l=.bad (l.length-p) e:=by unfold fz;rw[if_neg hl,hf]
  have g6:=b5.1;have a8:=b5.2;obtain⟨g1,a,e',a6,g2,g3,g4,g5⟩:=c';replace a6:vg O4 w5 (T+1) rb (rdr (.slice qa ms.length qc) l a e' ((l.length:Int)-(p:Int)) e) 262:=a6;rw[hM];refine zh ?_;refine zvH (RV.ld a6.r5 rfl) ?_;refine ay (d:=25) rfl (b':=false) ((by simpa using a8)) ?_;refine zh ?_;refine zFH rfl rfl ?_;refine zvH (RV.ld a6.r5 rfl) ?_;refine ay (d:=44) rfl (b':=false) ((by simpa using a8)) ?_;refine zh ?_;refine zFH rfl rfl ?_;refine zvH (RV.ld a6.r5 rfl) ?_;refine aZ rfl ((by simpa using a8)) ?_;have a5:=AK a6;refine zh ?_;refine aI (fun W=>W.cell? ⟨rb,4,none⟩=some (nI ((l.length:Int)-(p:Int)))/\W.cell? ⟨rb,5,none⟩=some (nI e)) 12 rfl zk ?_;refine zin ⟨a5.r4,a5.r5⟩ fun zS=>?_
  refine zr 0 rfl zS (fun _=>aF xW (pc _) rfl (by first|rfl|(simp only[pZ,rU];rfl)) rfl rfl) ?_;refine zrm 1 rfl zS rfl ?_
  refine zr 2 rfl zS (fun _=>aq rfl) ?_;refine zrf 3 rfl zS rfl ?_
  refine zt 4 rfl zS (fun w1 a4=>RV.ld a4.1 rfl) ?_;refine zrm 5 rfl zS rfl ?_
  refine zr 6 rfl zS (fun _=>aq rfl) ?_;refine zrf 7 rfl zS rfl ?_
  refine zt 8 rfl zS (fun w1 a4=>RV.ld a4.2 rfl) ?_;refine ug 9 zk rfl ?_
  refine zsa (us:=#[nI 0,nI 0,nS]) (AK c8) (ix _) ?_;have a7:=qN (us:=#[nI 0,nI 0,nS]) (AK c8);have a3:rf (fun k=>k=T) O4 (DA w5) O4 (pR (DA w5) xb #[nI 0,nI 0,nS]):=oz zo (rj c8) rfl;have b0:=ri a5 a3 zo zo;refine zh ?_
  refine zaf (⟨b0.r4,b0.r5⟩) fun zS=>?_
  refine zra 10 rfl zS rfl ?_;refine zra 11 rfl zS rfl ?_
  refine Da zk ?_;refine zh ?_
  refine cF rfl rfl rfl rfl a7.cellsAdd (oD _) (ix _) ⟨aD ((b7.drew).trans (a3.mono (fun _ h=>A2 h.symm) a0)) (fun b=>by have:=hT b;omega),?_⟩;exact⟨by rw[show(l.length:Int)-(p:Int)=((l.length-p:Nat):Int)from by omega];rfl,a8⟩
 |ok t r=>
  rw[hf]at b5 c';obtain⟨a6,d2⟩:=c';replace a6:vg O4 w5 (T+1) rb (rdr (.slice qa ms.length qc) l ((l.length:Int)-(r.length:Int)) 0 0 0) 262:=a6;have hr:=b5.1;have hq:=(bn r).trans hr;have h7:=hq.length_le;refine zh ?_;refine zvH (RV.ld a6.r5 rfl) ?_;refine ay (d:=25) rfl (b':=true) (rfl) ?_;refine zh ?_;refine zc Js (gm O4 w5 (T+1) rb l r 0 0 0 zo hr zo a6) ?_;rintro v w6 ⟨rfl,a9,c6⟩;have d0:=c8.upd c6 zo zo;have e2:=f'.upd c6 zo zo;have e0:=h2.upd c6;have b4:=d2.upd c6;have b1:=b7.trans (c6.mono (fun _ h=>by rw[h];omega) a0);refine zh ?_
  by_cases e1:(aw r).length=0
  ·have f8:aw r=[]:=sQ e1;have e9:fz kn l=if 2000<nsz t then .bad 0 3 else .ok t:=by unfold fz;rw[if_neg hl,hf];dsimp only;rw[if_neg zo]
   refine zFH rfl ((by rw[f8];rfl)) ?_;refine zvH (RV.ld a9.r5 rfl) ?_
   refine ay (d:=44) rfl (b':=true) (rfl) ?_;refine zh ?_
   refine zvH (RV.ld a9.r1 rfl) ?_;refine zvH (cx tR rfl) ?_
   refine zFH rfl ((decide_eq_false zo)) ?_;refine zvH (RV.ld a9.r5 rfl) ?_
   refine zFH rfl rfl ?_;refine zv (ai (us:=aY x) e2.cellsAdd (oD _) (ix _) rfl) ?_
   refine zc Lj (qV (nsz t) t (ow _) x w6 2000 b4.zero zo) ?_;rintro v w7 ⟨rfl,h6⟩;have b6:rf (fun _=>False) O4 w6 O4 w7:=aa (fun h=>h) O4 h6;have a2:=d0.upd b6 zo (fun h=>h);have f9:=e2.upd b6 zo (fun h=>h);have a1:=b1.trans (b6.mono (fun _ h=>h.elim) a0);have d1:=b4.upd b6;have h1:=e0.upd b6;refine zh ?_
   by_cases hz:2000<nsz t
   ·have hM:fz kn l=.bad 0 3:=by rw[e9,if_pos hz]
    rw[hM];refine zTH rfl ((decide_eq_true zo)) ?_;refine zv (aF xW (pc _) rfl (by first|rfl|(simp only[pZ,rU];rfl)) rfl rfl) ?_;refine zsa (us:=#[nI 0,nI 0,nS]) a2 (ix _) ?_;have a7:=qN (us:=#[nI 0,nI 0,nS]) a2;have a3:rf (fun k=>k=T) O4 w7 O4 (pR w7 xb #[nI 0,nI 0,nS]):=oz zo (rj a2) rfl;refine zh ?_;refine cF rfl rfl rfl rfl a7.cellsAdd (oD _) (ix _) ⟨aD (a1.trans (a3.mono (fun _ h=>A2 h.symm) a0)) (fun b=>by have:=hT b;omega),rfl,zd⟩
   have hM:fz kn l=.ok t:=by rw[e9,if_neg hz]
   rw[hM];refine zFH rfl ((decide_eq_false zo)) ?_;refine zv (ai (us:=aY x) f9.cellsAdd (oD _) (ix _) rfl) ?_;refine zc Lh (uA (nsz t) zo t (ow _) B (mix O4 O) x w7 (h1.mix (h4.ext (aD a1 (fun b=>by have:=hT b;omega)))) d1.zero) ?_;rintro v w8 ⟨y,rfl,b3,h5⟩;have e4:rf (fun _=>False) O4 w7 O4 w8:=aa (fun h=>h) O4 h5;have c7:=a2.upd e4 zo (fun h=>h);have d7:=a1.trans (e4.mono (fun _ h=>h.elim) a0);have f3:=b3.one;refine zsb (us:=#[nI y.1,nI y.2.1,y.2.2]) c7 (ix _) (cn f3) ?_;have f5:=c7.setRow (us:=#[nI y.1,nI y.2.1,y.2.2]);have g8:rf (fun k=>k=T) O4 w8 O4 (w8.setRow xb #[nI y.1,nI y.2.1,y.2.2]):=oz zo c7.tag rfl;have d9:rf (fun k=>k=T) (mix O4 O) w8 (mix O4 O) (w8.setRow xb #[nI y.1,nI y.2.1,y.2.2]):=oz zo (FW c7.tag zo) rfl;have d6:=d7.trans (g8.mono (fun _ h=>A2 h.symm) a0);refine zh ?_;refine cF rfl rfl rfl rfl f5.cellsAdd (oD _) (ix _) ⟨aD d6 (fun b=>by have:=hT b;omega),y,rfl,(b3.upd d9).weak (fun b hb=>IF hb)⟩
  have hM:fz kn l=.bad (l.length-(aw r).length) 4:=by unfold fz;rw[if_neg hl,hf];dsimp only;rw[if_pos e1]
  rw[hM]
  by_cases hc:(aw r).headD 0=0
  ·refine zFH rfl ((by rw[hc];rfl)) ?_;refine zvH (RV.ld a9.r5 rfl) ?_
   refine ay (d:=44) rfl (b':=true) (rfl) ?_;refine zh ?_
   refine zvH (RV.ld a9.r1 rfl) ?_;refine zvH (cx tR rfl) ?_
   refine zTH rfl ((decide_eq_true zo)) ?_;refine zv (RV.ld a9.r1 rfl) ?_
   refine zc Jr (gD _ O4 w6 (T+1) rb l _ _ 0 ((l.length:Int)-((aw r).length:Int)) 4 zo e0 a9) ?_;rintro v w7 ⟨_,b2,c5⟩;have a2:=d0.upd c5 zo zo;have a1:=b1.trans (c5.mono (fun _ h=>by rw[h];omega) a0);refine zh ?_
   refine zvH (RV.ld b2.r5 rfl) ?_;refine aZ rfl rfl ?_
   have a5:=AK b2;refine zh ?_;refine aI (fun W=>W.cell? ⟨rb,4,none⟩=some (nI ((l.length:Int)-((aw r).length:Int)))/\W.cell? ⟨rb,5,none⟩=some (nI 4)) 12 rfl zk ?_;refine zin ⟨a5.r4,a5.r5⟩ fun zS=>?_
   refine zr 0 rfl zS (fun _=>aF xW (pc _) rfl (by first|rfl|(simp only[pZ,rU];rfl)) rfl rfl) ?_;refine zrm 1 rfl zS rfl ?_
   refine zr 2 rfl zS (fun _=>aq rfl) ?_;refine zrf 3 rfl zS rfl ?_
   refine zt 4 rfl zS (fun w1 a4=>RV.ld a4.1 rfl) ?_;refine zrm 5 rfl zS rfl ?_
   refine zr 6 rfl zS (fun _=>aq rfl) ?_;refine zrf 7 rfl zS rfl ?_
   refine zt 8 rfl zS (fun w1 a4=>RV.ld a4.2 rfl) ?_;refine ug 9 zk rfl ?_
   refine zsa (us:=#[nI 0,nI 0,nS]) (AK a2) (ix _) ?_;have a7:=qN (us:=#[nI 0,nI 0,nS]) (AK a2);have a3:rf (fun k=>k=T) O4 (DA w7) O4 (pR (DA w7) xb #[nI 0,nI 0,nS]):=oz zo (rj a2) rfl;have b0:=ri a5 a3 zo zo;refine zh ?_
   refine zaf (⟨b0.r4,b0.r5⟩) fun zS=>?_
   refine zra 10 rfl zS rfl ?_;refine zra 11 rfl zS rfl ?_
   refine Da zk ?_;refine zh ?_
   refine cF rfl rfl rfl rfl a7.cellsAdd (oD _) (ix _) ⟨aD ((a1.drew).trans (a3.mono (fun _ h=>A2 h.symm) a0)) (fun b=>by have:=hT b;omega),?_⟩;exact⟨by rw[show(l.length:Int)-((aw r).length:Int)=((l.length-(aw r).length:Nat):Int)from by omega];rfl,zd⟩
  refine zTH rfl ((xj _ 0 zd hc)) ?_;refine zv (RV.ld a9.r1 rfl) ?_
  refine zc Jr (gD _ O4 w6 (T+1) rb l _ _ 0 ((l.length:Int)-((aw r).length:Int)) 4 zo e0 a9) ?_;rintro v w7 ⟨_,b2,c5⟩;have a2:=d0.upd c5 zo zo;have a1:=b1.trans (c5.mono (fun _ h=>by rw[h];omega) a0);refine zh ?_
  refine zvH (RV.ld b2.r5 rfl) ?_;refine ay (d:=44) rfl (b':=false) (rfl) ?_
  refine zh ?_;refine zFH rfl rfl ?_
  refine zvH (RV.ld b2.r5 rfl) ?_;refine aZ rfl rfl ?_
  have a5:=AK b2;refine zh ?_;refine aI (fun W=>W.cell? ⟨rb,4,none⟩=some (nI ((l.length:Int)-((aw r).length:Int)))/\W.cell? ⟨rb,5,none⟩=some (nI 4)) 12 rfl zk ?_;refine zin ⟨a5.r4,a5.r5⟩ fun zS=>?_
  refine zr 0 rfl zS (fun _=>aF xW (pc _) rfl (by first|rfl|(simp only[pZ,rU];rfl)) rfl rfl) ?_;refine zrm 1 rfl zS rfl ?_
  refine zr 2 rfl zS (fun _=>aq rfl) ?_;refine zrf 3 rfl zS rfl ?_
  refine zt 4 rfl zS (fun w1 a4=>RV.ld a4.1 rfl) ?_;refine zrm 5 rfl zS rfl ?_
  refine zr 6 rfl zS (fun _=>aq rfl) ?_;refine zrf 7 rfl zS rfl ?_
  refine zt 8 rfl zS (fun w1 a4=>RV.ld a4.2 rfl) ?_;refine ug 9 zk rfl ?_
  refine zsa (us:=#[nI 0,nI 0,nS]) (AK a2) (ix _) ?_;have a7:=qN (us:=#[nI 0,nI 0,nS]) (AK a2);have a3:rf (fun k=>k=T) O4 (DA w7) O4 (pR (DA w7) xb #[nI 0,nI 0,nS]):=oz zo (rj a2) rfl;have b0:=ri a5 a3 zo zo;refine zh ?_
  refine zaf (⟨b0.r4,b0.r5⟩) fun zS=>?_
  refine zra 10 rfl zS rfl ?_;refine zra 11 rfl zS rfl ?_
  refine Da zk ?_;refine zh ?_
  refine cF rfl rfl rfl rfl a7.cellsAdd (oD _) (ix _) ⟨aD ((a1.drew).trans (a3.mono (fun _ h=>A2 h.symm) a0)) (fun b=>by have:=hT b;omega),?_⟩;exact⟨by rw[show(l.length:Int)-((aw r).length:Int)=((l.length-(aw r).length:Nat):Int)from by omega];rfl,zd⟩
end Go.Proofs.YtlehnbkknlpkbaaGreatDoor
end
namespace Go.Proofs.YtlehnbkknlpkbaaGreatDoor
mutual
def bX:Nd->Int | .mk k _ l=>if k=6\/k=7 then -1 else if k=9 then 0 else if k=4\/k=5\/k=8 then cD (k==4) 0 l else 1
def cD:Bool->Int->List Nd->Int
 |_,acc,[]=>acc
 |s,acc,t::r=>if bX t<0 then -1 else cD s (if s=true then acc+bX t else max acc (bX t)) r
end
mutual
def Aj(q:Int):Nd->Bool | .mk k _ l=>(k==q)||CK q l
def CK(q:Int):List Nd->Bool | []=>false|t::r=>Aj q t||CK q r
end
theorem rW(q:Int):∀(l:List Nd),anyN (fun i=>Aj q (nth l i)) l.length=CK q l:=by
 intro l;rw[Kx,cQ]
 induction l with
 |nil=>simp[CK]
 |cons t r ih=>
  simp only[CK,Bool.or_eq_true,<-ih,uV]
  constructor
  ·rintro⟨i,hi,hq⟩
   cases i with
   |zero=>rw[ar]at hq;exact .inl hq
   |succ i=>rw[bd]at hq;exact .inr ⟨i,zo,hq⟩
  rintro(h|⟨i,hi,hq⟩)
  ·exact⟨0,zo,by rw[ar];exact h⟩
  exact⟨i+1,zo,by rw[bd];exact hq⟩
mutual
theorem kI:∀(t:Nd),bX t<=nsz t
 |.mk k c l=>by
  have h:=rL l (k==4) 0 (Jp 0);unfold bX;simp only[nsz]
  (repeat' split)<;>omega
theorem rL:∀(l:List Nd) (s:Bool) (acc:Int),0<=acc->cD s acc l<=acc+dr l
 |[],s,acc,h=>by simp[cD,dr]
 |t::r,s,acc,h=>by
  have h1:=kI t;unfold cD;simp only[dr]
  split
  ·omega
  split
  ·have h2:=rL r s (acc+bX t) zo;omega
  have h2:=rL r s (max acc (bX t)) zo;omega
end
theorem jQ{l:List Nd}{i:Nat}(h:i<l.length):l.drop i=nth l i::l.drop (i+1):=by
 rw[JA h,aB h]
theorem gw:∀(n:Nat),n<=1000000->∀(t:Nd),nsz t<=n->∀(x:N3) (w:ln),Nt (fun _=>0) w t x->Gc tp 168 [nv x] w fun v w'=>v=nI (bX t)/\BW w w'
 |0,_,t,hn=>by have:=cN t;omega
 |n+1,hm,.mk k c kids,hn=>by
  intro x w h;have c9:=h.ones;obtain⟨xs,hs,hf,hl,hk⟩:=h.kids;simp only[JT]at hl hk;simp only[nsz]at hn;have c':=ef kids;generalize x.2.2=sv at *;subst c9;simp only[KZ,Lb];have hM:bX (.mk k c kids)=if k=6\/k=7 then -1 else if k=9 then 0 else if k=4\/k=5\/k=8 then cD (k==4) 0 kids else 1:=rfl
  rw[hM];refine ps func168 ntmps168 rfl rfl ?_;refine zh ?_;refine aE (au w) 1 zo rfl rfl ?_;intro xb w1 O1 b7 d0 d1 a4;have c0:w1.cell? (nA xb 0)=some (nI k):=b7.cell 0 rfl;have c2:w1.cell? (nA xb 2)=some sv:=b7.cell 2 rfl;have b6:=hs.ext a4;refine zh ?_
  by_cases h6:k=6
  ·subst h6;refine zTH rfl rfl ?_;refine zTH rfl rfl ?_;refine ae rfl rfl (⟨rfl,a4⟩)
  refine zFH rfl ((beq_eq_false_iff_ne.2 h6)) ?_
  by_cases h7:k=7
  ·subst h7;refine zTH rfl rfl ?_;refine ae rfl rfl (⟨rfl,a4⟩)
  rw[if_neg zo];refine zFH rfl ((beq_eq_false_iff_ne.2 h7)) ?_
  by_cases h9:k=9
  ·subst h9;refine zTH rfl rfl ?_;refine ae rfl rfl (⟨rfl,a4⟩)
  rw[if_neg h9];refine zFH rfl ((beq_eq_false_iff_ne.2 h9)) ?_
  by_cases h4:k=4
  ·subst h4;rw[if_pos zo];refine zTH rfl rfl ?_;refine zTH rfl rfl ?_;refine zlp (fun y:Nat×Int×ln=>[(2,nI 0),(3,nI y.2.1),(1,nP xb),(19,sv),(20,nI xs.length),(21,nI y.1)]) (fun y=>y.2.2) (fun y=>y.1<=xs.length/\0<=y.2.1/\y.2.1<=dr (kids.take y.1)/\cD ((4:Int)==4) y.2.1 (kids.drop y.1)=cD ((4:Int)==4) 0 kids/\BW w1 y.2.2) (fun y=>xs.length-y.1) (0,0,w1) (⟨sN _,Jp _,by simp[dr],rfl,sP _⟩) ?_;rintro⟨i,a7,w2⟩ ⟨hi,b2,ha,hL,a3⟩;dsimp only at hi b2 ha hL a3 ⊢;have b0:=b6.ext a3;refine zh ?_;refine zC ?_ ?_
   ·intro a2;replace a2:i<xs.length:=dT a2;have a8:=(hk i a2).ext (a4.trans a3);have a':=a8.one;have c5:=bD kids i zo;have b9:=dJ kids i zo;have b8:=cp kids (i+1);have b':=kI (nth kids i);rw[jQ zo]at hL;have b4:cD ((4:Int)==4) a7 (nth kids i::kids.drop (i+1))=if bX (nth kids i)<0 then -1 else cD ((4:Int)==4) (if((4:Int)==4)=true then a7+bX (nth kids i)else max a7 (bX (nth kids i))) (kids.drop (i+1)):=rfl
    rw[b4]at hL;refine zh ?_;refine zv (ai (us:=aY (nth xs i)) (fun j u hu=>b0.cell a2 hu) (oD _) (ix _) rfl) ?_;refine ax (au w2) 1 zo (pc _) rfl ?_;intro kb w3 O3 a6 b3 c6 c7;refine zsb (us:=#[nI (nth xs i).1,nI (nth xs i).2.1,(nth xs i).2.2]) a6 (ix _) (cn a') ?_;have a5:=a6.setRow (us:=#[nI (nth xs i).1,nI (nth xs i).2.1,(nth xs i).2.2]);have a9:BW w2 (w3.setRow kb #[nI (nth xs i).1,nI (nth xs i).2.1,(nth xs i).2.2]):=(b3.trans (oz zd a6.tag rfl)).ext;generalize w3.setRow kb #[nI (nth xs i).1,nI (nth xs i).2.1,(nth xs i).2.2]=w4 at *;refine zh ?_;refine zv (ai (us:=aY (nth xs i)) a5.cellsAdd (oD _) (ix _) rfl) ?_;refine zc KK (gw n zo (nth kids i) zo (nth xs i) w4 (a8.ext a9)) ?_;rintro v w5 ⟨rfl,b5⟩;have a1:=(a3.trans a9).trans b5;have c8:w5.cell? (nA xb 0)=some (nI 4):=a1.cell c0;refine zh ?_
    by_cases a0:bX (nth kids i)<0
    ·rw[if_pos a0]at hL;refine zTH rfl ((decide_eq_true a0)) ?_;refine ae rfl rfl (⟨by rw[<-hL],a4.trans a1⟩)
    rw[if_neg a0]at hL;refine zFH rfl ((decide_eq_false a0)) ?_;refine zTH rfl rfl ?_;refine zxd (i+1,_,w5) (⟨a2,by dsimp only;omega,by dsimp only;omega,hL,a1⟩)
   intro b1;obtain rfl:i=xs.length:=dF b1;rw[uY zo]at hL;refine zh ?_;refine ae rfl rfl (⟨by rw[<-hL];rfl,a4.trans a3⟩)
  refine aS rfl ((beq_eq_false_iff_ne.2 h4)) ?_;have hk4b:(k==4)=false:=beq_eq_false_iff_ne.2 h4;refine zh ?_
  by_cases h5:k=5
  ·subst h5;rw[if_pos zo];refine zTH rfl rfl ?_;refine zTH rfl rfl ?_;refine zlp (fun y:Nat×Int×ln=>[(2,nI 0),(3,nI y.2.1),(1,nP xb),(19,sv),(20,nI xs.length),(21,nI y.1)]) (fun y=>y.2.2) (fun y=>y.1<=xs.length/\0<=y.2.1/\y.2.1<=dr (kids.take y.1)/\cD ((5:Int)==4) y.2.1 (kids.drop y.1)=cD ((5:Int)==4) 0 kids/\BW w1 y.2.2) (fun y=>xs.length-y.1) (0,0,w1) (⟨sN _,Jp _,by simp[dr],rfl,sP _⟩) ?_;rintro⟨i,a7,w2⟩ ⟨hi,b2,ha,hL,a3⟩;dsimp only at hi b2 ha hL a3 ⊢;have b0:=b6.ext a3;refine zh ?_;refine zC ?_ ?_
   ·intro a2;replace a2:i<xs.length:=dT a2;have a8:=(hk i a2).ext (a4.trans a3);have a':=a8.one;have c5:=bD kids i zo;have b9:=dJ kids i zo;have b8:=cp kids (i+1);have b':=kI (nth kids i);rw[jQ zo]at hL;have b4:cD ((5:Int)==4) a7 (nth kids i::kids.drop (i+1))=if bX (nth kids i)<0 then -1 else cD ((5:Int)==4) (if((5:Int)==4)=true then a7+bX (nth kids i)else max a7 (bX (nth kids i))) (kids.drop (i+1)):=rfl
    rw[b4]at hL;refine zh ?_;refine zv (ai (us:=aY (nth xs i)) (fun j u hu=>b0.cell a2 hu) (oD _) (ix _) rfl) ?_;refine ax (au w2) 1 zo (pc _) rfl ?_;intro kb w3 O3 a6 b3 c6 c7;refine zsb (us:=#[nI (nth xs i).1,nI (nth xs i).2.1,(nth xs i).2.2]) a6 (ix _) (cn a') ?_;have a5:=a6.setRow (us:=#[nI (nth xs i).1,nI (nth xs i).2.1,(nth xs i).2.2]);have a9:BW w2 (w3.setRow kb #[nI (nth xs i).1,nI (nth xs i).2.1,(nth xs i).2.2]):=(b3.trans (oz zd a6.tag rfl)).ext;generalize w3.setRow kb #[nI (nth xs i).1,nI (nth xs i).2.1,(nth xs i).2.2]=w4 at *;refine zh ?_;refine zv (ai (us:=aY (nth xs i)) a5.cellsAdd (oD _) (ix _) rfl) ?_;refine zc KK (gw n zo (nth kids i) zo (nth xs i) w4 (a8.ext a9)) ?_;rintro v w5 ⟨rfl,b5⟩;have a1:=(a3.trans a9).trans b5;have c8:w5.cell? (nA xb 0)=some (nI 5):=a1.cell c0;refine zh ?_
    by_cases a0:bX (nth kids i)<0
    ·rw[if_pos a0]at hL;refine zTH rfl ((decide_eq_true a0)) ?_;refine ae rfl rfl (⟨by rw[<-hL],a4.trans a1⟩)
    rw[if_neg a0]at hL;refine zFH rfl ((decide_eq_false a0)) ?_;refine zFH rfl rfl ?_;refine zvH (gH rfl rfl) ?_;refine zxd (i+1,_,w5) (⟨a2,by dsimp only;omega,by dsimp only;omega,hL,a1⟩)
   intro b1;obtain rfl:i=xs.length:=dF b1;rw[uY zo]at hL;refine zh ?_;refine ae rfl rfl (⟨by rw[<-hL];rfl,a4.trans a3⟩)
  refine zFH rfl ((beq_eq_false_iff_ne.2 h5)) ?_
  by_cases h8:k=8
  ·subst h8;rw[if_pos zo];refine zTH rfl rfl ?_;refine zlp (fun y:Nat×Int×ln=>[(2,nI 0),(3,nI y.2.1),(1,nP xb),(19,sv),(20,nI xs.length),(21,nI y.1)]) (fun y=>y.2.2) (fun y=>y.1<=xs.length/\0<=y.2.1/\y.2.1<=dr (kids.take y.1)/\cD ((8:Int)==4) y.2.1 (kids.drop y.1)=cD ((8:Int)==4) 0 kids/\BW w1 y.2.2) (fun y=>xs.length-y.1) (0,0,w1) (⟨sN _,Jp _,by simp[dr],rfl,sP _⟩) ?_;rintro⟨i,a7,w2⟩ ⟨hi,b2,ha,hL,a3⟩;dsimp only at hi b2 ha hL a3 ⊢;have b0:=b6.ext a3;refine zh ?_;refine zC ?_ ?_
   ·intro a2;replace a2:i<xs.length:=dT a2;have a8:=(hk i a2).ext (a4.trans a3);have a':=a8.one;have c5:=bD kids i zo;have b9:=dJ kids i zo;have b8:=cp kids (i+1);have b':=kI (nth kids i);rw[jQ zo]at hL;have b4:cD ((8:Int)==4) a7 (nth kids i::kids.drop (i+1))=if bX (nth kids i)<0 then -1 else cD ((8:Int)==4) (if((8:Int)==4)=true then a7+bX (nth kids i)else max a7 (bX (nth kids i))) (kids.drop (i+1)):=rfl
    rw[b4]at hL;refine zh ?_;refine zv (ai (us:=aY (nth xs i)) (fun j u hu=>b0.cell a2 hu) (oD _) (ix _) rfl) ?_;refine ax (au w2) 1 zo (pc _) rfl ?_;intro kb w3 O3 a6 b3 c6 c7;refine zsb (us:=#[nI (nth xs i).1,nI (nth xs i).2.1,(nth xs i).2.2]) a6 (ix _) (cn a') ?_;have a5:=a6.setRow (us:=#[nI (nth xs i).1,nI (nth xs i).2.1,(nth xs i).2.2]);have a9:BW w2 (w3.setRow kb #[nI (nth xs i).1,nI (nth xs i).2.1,(nth xs i).2.2]):=(b3.trans (oz zd a6.tag rfl)).ext;generalize w3.setRow kb #[nI (nth xs i).1,nI (nth xs i).2.1,(nth xs i).2.2]=w4 at *;refine zh ?_;refine zv (ai (us:=aY (nth xs i)) a5.cellsAdd (oD _) (ix _) rfl) ?_;refine zc KK (gw n zo (nth kids i) zo (nth xs i) w4 (a8.ext a9)) ?_;rintro v w5 ⟨rfl,b5⟩;have a1:=(a3.trans a9).trans b5;have c8:w5.cell? (nA xb 0)=some (nI 8):=a1.cell c0;refine zh ?_
    by_cases a0:bX (nth kids i)<0
    ·rw[if_pos a0]at hL;refine zTH rfl ((decide_eq_true a0)) ?_;refine ae rfl rfl (⟨by rw[<-hL],a4.trans a1⟩)
    rw[if_neg a0]at hL;refine zFH rfl ((decide_eq_false a0)) ?_;refine zFH rfl rfl ?_;refine zvH (gH rfl rfl) ?_;refine zxd (i+1,_,w5) (⟨a2,by dsimp only;omega,by dsimp only;omega,hL,a1⟩)
   intro b1;obtain rfl:i=xs.length:=dF b1;rw[uY zo]at hL;refine zh ?_;refine ae rfl rfl (⟨by rw[<-hL];rfl,a4.trans a3⟩)
  rw[if_neg zo];refine zFH rfl ((beq_eq_false_iff_ne.2 h8)) ?_;refine ae rfl rfl (⟨rfl,a4⟩)
def tK(t:Nd):Int:=if bj t=true then max (bX t) 0 else 0
def tL(t:Nd):Bool:=bj t&&decide (0<=bX t)
theorem py(t:Nd)(x:N3)(w:ln)(h:Nt (fun _=>0) w t x):Gc tp 138 [nv x] w fun v w'=>v=.tuple #[nI (tK t),.bool (tL t)]/\BW w w':=by
 refine ps func138 ntmps138 rfl rfl ?_;refine zh ?_
 refine aE (au w) 1 zo rfl rfl ?_;intro xb w1 O1 a3 a5 a6 a1;have a2:∀W,BW w1 W->∀(j:Nat) (u:ox),(aY x)[j]? = some u->W.cell? (nA xb j)=some u:=fun W hE j u hu=>hE.cell (a3.cellsAdd j u hu)
 refine zh ?_;refine zv (ai (us:=aY x) (a2 w1 (sP _)) (oD _) (ix _) rfl) ?_
 refine zc Lt (fN t x w1 (h.ext a1)) ?_;rintro v w2 ⟨rfl,a0⟩;refine zh ?_
 cases hr:bj t with
 |false=>
  refine zTH rfl rfl ?_;refine bQ rfl rfl rfl (⟨by simp[tK,tL,hr],a1.trans a0⟩)
 |true=>
  have hz:nsz t<=2000:=by
   simp only[bj,yr,decide_eq_true_eq]at hr;exact hr.1
  refine zFH rfl rfl ?_;refine zv (ai (us:=aY x) (a2 w2 a0) (oD _) (ix _) rfl) ?_
  refine zc KK (gw (nsz t) zo t (ow _) x w2 (h.ext (a1.trans a0))) ?_;rintro v w3 ⟨rfl,a4⟩;refine zh ?_
  refine zvH (gH rfl rfl) ?_;refine bQ rfl rfl rfl (⟨by simp[tK,tL,hr],(a1.trans a0).trans a4⟩)
theorem F8{b:Bool}{q:Int}{t:Nd}{kb:Nat}(ih:∀(y:N3) (W:ln),Nt (fun _=>0) W t y->Gc tp 169 [nv y,nI q] W fun v w'=>v=.bool b/\BW W w')(x:N3)(w:ln)(h:Nt (fun _=>0) w t x)(hq:w.cell? ⟨kb,0,none⟩=some (nI q)):
  Gc tp 189 [nv x,nP kb] w fun v w'=>v=.bool b/\BW w w':=by
 refine ps func189 ntmps189 rfl rfl ?_;refine zh ?_
 refine aE (au w) 1 zo rfl rfl ?_;intro xb w1 O1 a1 a4 a5 a0;have a3:=a0.cell hq;refine zh ?_
 refine zvH (ai (us:=aY x) a1.cellsAdd (oD _) (ix _) rfl) ?_;refine zc call169 (ih x w1 (h.ext a0)) ?_
 rintro v w2 ⟨rfl,a2⟩;refine zh ?_;refine ae rfl rfl (⟨rfl,a0.trans a2⟩)
theorem BH:∀(n:Nat) (t:Nd),nsz t<=n->∀(x:N3) (w:ln) (q:Int),Nt (fun _=>0) w t x->Gc tp 169 [nv x,nI q] w fun v w'=>v=.bool (Aj q t)/\BW w w'
 |0,t,hn=>by have:=cN t;omega
 |n+1,.mk k c kids,hn=>by
  intro x w q h;have a6:=h.ones;obtain⟨xs,hs,hf,hl,hk⟩:=h.kids;simp only[JT]at hl hk;simp only[nsz]at hn;generalize x.2.2=sv at *;subst a6;simp only[KZ,Lb];have hM:Aj q (.mk k c kids)=((k==q)||CK q kids):=rfl;rw[hM];refine ps func169 ntmps169 rfl rfl ?_;refine zh ?_;refine aE (au w) 1 zo rfl rfl ?_;intro xb w1 O1 a5 b1 a9 b0;refine aE a9 2 zo rfl rfl ?_;intro kb w2 O2 a7 a8 b2 a';have a3:=a5.upd a8 zd zd;have a0:=b0.trans a';have c0:w2.cell? (nA xb 0)=some (nI k):=a3.cell 0 rfl;have c2:w2.cell? (nA xb 2)=some sv:=a3.cell 2 rfl;have cq:w2.cell? ⟨kb,0,none⟩=some (nI q):=a7.cell 0 rfl;refine zh ?_;refine bK (BW w2) (CK q kids) 4 (sP _) rfl rfl rfl rfl rfl ?_ ?_
  ·intro a1;refine zh ?_;refine zvH (eA rfl rfl) ?_;refine zc call101 (cW call189 #[nP kb] xs sv (fun i=>Aj q (nth kids i)) w2 (hs.ext a0) (fun i hi w' hE=>F8 (fun y W hy=>BH n (nth kids i) (by have:=bD kids i (zo);omega) y W q hy) (nth xs i) w' ((hk i hi).ext (a0.trans hE)) (hE.cell cq))) ?_;have a4:=rW q kids;rw[hl]at a4;rw[a4];rintro v w3 ⟨rfl,a2⟩;refine zh ?_;refine nE 9 5 (a2) a1
  intro w3 a2;refine zh ?_;refine ae rfl rfl (⟨rfl,a0.trans a2⟩)
theorem zD(t:Nd)(q:Int)(x:N3)(w:ln)(h:Nt (fun _=>0) w t x):Gc tp 139 [nv x,nI q] w fun v w'=>v=.bool (bj t&&Aj q t)/\BW w w':=by
 refine ps func139 ntmps139 rfl rfl ?_;refine zh ?_
 refine aE (au w) 1 zo rfl rfl ?_;intro xb w1 O1 a5 a6 a7 a3;have a4:∀W,BW w1 W->∀(j:Nat) (u:ox),(aY x)[j]? = some u->W.cell? (nA xb j)=some u:=fun W hE j u hu=>hE.cell (a5.cellsAdd j u hu)
 refine zh ?_;refine zv (ai (us:=aY x) (a4 w1 (sP _)) (oD _) (ix _) rfl) ?_
 refine zc Lt (fN t x w1 (h.ext a3)) ?_;rintro v w2 ⟨rfl,a0⟩;refine zh ?_
 refine aP (BW w1) (Aj q t) 3 (a0) rfl rfl rfl rfl rfl ?_ ?_
 ·intro a1;refine zh ?_;refine zvH (ai (us:=aY x) (a4 _ a0) (oD _) (ix _) rfl) ?_;refine zc call169 (BH (nsz t) t (ow _) x _ q (h.ext (a3.trans a0))) ?_;rintro v w3 ⟨rfl,a2⟩;refine zh ?_;refine nE 7 4 (a0.trans a2) a1
 intro w3 a2;refine zh ?_;refine ae rfl rfl (⟨rfl,a3.trans a2⟩)
theorem fH:∀(l:List Nd) (i:Nat),bR l=true->i<l.length->fG (nth l i)=true
 |[],i,_,h=>absurd h (FJ i)
 |t::r,i,hs,h=>by
  unfold bR at hs;simp only[yr]at hs
  cases i with
  |zero=>rw[ar];exact hs.1
  |succ i=>rw[bd];exact fH r i hs.2 (by simpa using h)
theorem Bs{l:List Nd}{q a b:Nat}{g:Gr}(h:q<l.length):nh (l.drop q) a b g=if q+1<l.length then nh (l.drop (q+1)) g.ks.length b (fy (nth l q) a g.ks.length g.knot)else fy (nth l q) a b g:=by
 rw[jQ h,nh]
 by_cases e:q+1<l.length
 ·rw[if_pos e,if_neg (by simp;omega)]
 rw[if_neg e,if_pos (by simp;omega)]
theorem Bx{l:List Nd}{q a b:Nat}{g:Gr}(h:q<l.length):nn (l.drop q) a b g=nn (l.drop (q+1)) a b (fy (nth l q) a b g):=by
 rw[jQ h];rfl
theorem Du{l:List Nd}{a b:Nat}{g:Gr}(h:l.length=1):nj l a b g=fy (nth l 0) a b g:=by
 obtain⟨t,rfl⟩:=List.length_eq_one_iff.1 h;rw[ar];rfl
def I9(t:Nd):Prop:=∀(B:Nat) (O:Nat->Nat) (w:ln) (i nb:Nat) (se:Bool) (g:Gr) (na ta lv kv:ox) (xs:List K3) (a b:Nat) (x:N3) (M:Nat),i≠0->Gi B O w->NfO O w i nb se g na ta lv kv xs->WF g->a<g.ks.length->b<g.ks.length->Bd g M->M+9*nsz t<=100000000->fG t=true->Nt O w t x->
 Gc tp 106 [nP nb,nv x,nI (a:Nat),nI (b:Nat)] w fun _ w'=>NfP B O w w' i nb se (fy t a b g) na ta
theorem vH{k c:Int}{l:List Nd}(a':k=6\/k=7\/k=8)(ih:I9 (nth l 0))(B:Nat)(O:Nat->Nat)(w:ln)(i nb:Nat)(se:Bool)(g:Gr)(na ta lv kv:ox)(xs:List K3)(a b:Nat)(x:N3)(M:Nat)(hi:i≠0)(hR:Gi B O w)(h:NfO O w i nb se g na ta lv kv xs)(hw:WF g)(ha:a<g.ks.length)(hb:b<g.ks.length)(hM:Bd g M)(e8:M+9*nsz (.mk k c l)<=100000000)(hs:fG (.mk k c l)=true)(hn:Nt O w (.mk k c l) x):
  Gc tp 141 [nP nb,nv x,nI (a:Nat),nI (b:Nat)] w fun _ w'=>NfP B O w w' i nb se (fy (.mk k c l) a b g) na ta:=by
 obtain⟨T,d9,hT⟩:=hR.bound;have g1:=hn.kind;obtain⟨ys,d4,a5,b4,a3⟩:=hn.kids;have hx:x=(k,c,x.2.2):=hn.ones;generalize x.2.2=kidv at *;subst hx;unfold fG at hs;simp only[yr]at hs;obtain⟨b9,d5⟩:=hs;rw[if_neg zo,if_pos a']at b9;have b':l.length=1:=of_decide_eq_true b9;have g0:ys.length=1:=by rw[<-b4];exact b'
 have b5:fy (.mk k c l) a b g=layO k (fy (nth l 0) g.ks.length (g.ks.length+1) (bF g a b)) g.ks.length:=by
  rw[fy,if_neg zo,if_neg zo,if_pos a',Du b'];rfl
 have g4:=bD l 0 zo;simp only[nsz]at e8;rw[b5];refine ps func141 ntmps141 rfl rfl ?_;refine zh ?_;refine aE hR T zo rfl rfl ?_;intro xb w1 O1 c8 b1 b6 b7;obtain⟨b8,c5⟩:=Gt d9 hT b1 (Bh zo _ _) c8;clear c8 b1 b6 b7;have h1:=h.ext b8 hi;have b6:=hR.ext b8;have k1:Cell0 O w1 (nA xb 0) (nI k):=c5 0 _ rfl;have v1:Cell0 O w1 (nA xb 2) kidv:=c5 2 _ rfl;have b1:rf (fun q=>i<=q) O w O w1:=aa zo O b8;refine zh ?_;refine zc Lk (iZ B O w1 i nb se g na ta _ _ _ hi b6 h1 (by have:=hM.ks;omega)) ?_;rintro _ w2 ⟨rfl,O2,f7,f',f4,d2,e6,h2⟩;refine zh ?_;have e1:=aG g;refine zc Lk (iZ B O2 w2 i nb se g.knot na ta _ _ _ hi e6 h2 (by have:=hM.ks;omega)) ?_;rintro _ w3 ⟨rfl,O3,f6,f9,f3,d1,e5,h3⟩;rw[e1];have e2:=aG g.knot;refine zh ?_;refine zc JH (gA B O3 w3 i nb se g.knot.knot na ta _ _ _ a g.ks.length hi e5 h3 zo (by have:=Bd.fr (hM.knot.knot) a;omega) (by have:=Bd.ks (hM.knot.knot);omega)) ?_;rintro _ w4 ⟨O4,_,_,_,d0,e4,h4⟩;have e3:=aV g.knot.knot a g.ks.length;refine zh ?_;refine zc JH (gA B O4 w4 i nb se (g.knot.knot.free a g.ks.length) na ta _ _ _ (g.ks.length+1) b hi e4 h4 zo (by have:=Bd.fr (hM.knot.knot.free (a:=a) (b:=g.ks.length) zo) (g.ks.length+1);omega) (by have:=Bd.ks (hM.knot.knot.free (a:=a) (b:=g.ks.length) zo);omega)) ?_;rintro _ w5 ⟨O5,_,_,_,c',e0,h5⟩;have a0:=(((b1.trans d2).trans d1).trans d0).trans c';have a7:=((d2.trans d1).trans d0).trans c'
 have e9:NfO O5 w5 i nb se (bF g a b) na ta _ _ _:=h5;have b3:=eR hw ha hb;have g3:=dY g a b;have c6:=hM.often (b:=b) ha;have k5:=k1.upd a7;have v5:=v1.upd a7;have a1:=d4.upd a5 a0;have a4:=(a3 0 zo).upd a0;refine zh ?_;refine zv (RV.ld v5.c rfl) ?_;refine zv (Fu a1 CY (ix _) rfl rfl 0 rfl zo) ?_;refine zvH (ai (us:=aY (nth ys 0)) (fun j u hu=>a1.cell zo hu) (oD _) (ix _) rfl) ?_;refine zc KL (ih B O5 w5 i nb se (bF g a b) na ta _ _ _ g.ks.length (g.ks.length+1) (nth ys 0) (M+4) hi e0 e9 b3 zo zo c6 zo (fH l 0 d5 zo) a4) ?_;rintro _ w6 ⟨O6,f5,f8,e',c9,d3,h6⟩;obtain⟨g2,a2⟩:=ct (nth l 0) g.ks.length (g.ks.length+1) (bF g a b) b3 zo zo;have a6:=gz (nth l 0) g.ks.length (g.ks.length+1) (bF g a b) (M+4) b3 zo zo c6;have d7:=a2.len;generalize fy (nth l 0) g.ks.length (g.ks.length+1) (bF g a b)=g6 at *;have a9:=a0.trans c9;have k6:=k5.upd c9;refine zh ?_;refine zvH (RV.ld k6.c rfl) ?_
 by_cases h7:k=7
 ·subst h7;refine zFH rfl rfl ?_;refine zvH (RV.ld k6.c rfl) ?_;refine zTH rfl rfl ?_;refine zc JH (gA B O6 w6 i nb se g6 na ta _ _ _ (g.ks.length+1) g.ks.length hi d3 h6 zo (by have:=Bd.fr a6 (g.ks.length+1);omega) (by have:=Bd.ks a6;omega)) ?_;rintro _ w7 ⟨O7,_,_,_,b0,b2,h7⟩;refine zh ?_;refine aH rfl (⟨O7,_,_,_,a9.trans b0,b2,h7⟩)
 refine zTH rfl ((by simpa using h7)) ?_;refine zc JH (gA B O6 w6 i nb se g6 na ta _ _ _ g.ks.length (g.ks.length+1) hi d3 h6 zo (by have:=Bd.fr a6 g.ks.length;omega) (by have:=Bd.ks a6;omega)) ?_
 rintro _ w7 ⟨O7,_,_,_,b0,b2,h7n⟩;have a8:=a9.trans b0;have k7:=k6.upd b0;refine zh ?_;refine zvH (RV.ld k7.c rfl) ?_
 by_cases h8:k=8
 ·subst h8;refine zFH rfl rfl ?_;refine aH rfl (⟨O7,_,_,_,a8,b2,h7n⟩)
 refine aZ rfl ((by simpa using h8)) ?_;have d6:layO k g6 g.ks.length=(g6.free g.ks.length (g.ks.length+1)).free (g.ks.length+1) g.ks.length:=by unfold layO;rw[if_neg h8,if_neg h7]
 rw[d6];have c7:=a6.free (a:=g.ks.length) (b:=g.ks.length+1) zo;have e7:=aV g6 g.ks.length (g.ks.length+1);refine zh ?_;refine zc JH (gA B O7 w7 i nb se (g6.free g.ks.length (g.ks.length+1)) na ta _ _ _ (g.ks.length+1) g.ks.length hi b2 h7n zo (by have:=Bd.fr c7 (g.ks.length+1);omega) (by have:=Bd.ks c7;omega)) ?_;rintro _ w8 ⟨O8,_,_,_,d8,d',h8n⟩;refine zh ?_;refine aH rfl (⟨O8,_,_,_,a8.trans d8,d',h8n⟩)
theorem Dr{k c:Int}{l:List Nd}(h4:k≠4)(h5:k≠5)(a0:¬(k=6\/k=7\/k=8))(h9:k≠9)(a b:Nat)(g:Gr):fy (.mk k c l) a b g=g.leaf k c a b:=by
 rw[fy,if_neg h4,if_neg h5,if_neg a0,if_neg h9]
theorem Br:∀(n:Nat) (t:Nd),nsz t<=n->I9 t
 |0,t,ht=>by have:=cN t;omega
 |n+1,.mk k c l,ht=>by
  intro B O w i nb se g na ta lv kv xs a b x M hi hR h hw ha hb hM l2 hs hn;have ih:=fun(t:Nd) (e:nsz t<=n)=>Br n t e
  have j':=hs;have k6:=hn;obtain⟨T,l1,hT⟩:=hR.bound;obtain⟨ys,j0,f',i0,d'⟩:=hn.kids;have hx:x=(k,c,x.2.2):=hn.ones;generalize x.2.2=kidv at *;subst hx;unfold fG at hs;simp only[yr]at hs;obtain⟨g5,g'⟩:=hs;simp only[nsz]at l2 ht
  change l.length=ys.length at i0
  change ∀i,i<ys.length->Nt O w (nth l i) (nth ys i)at d'
  have m4:=ef l;refine ps func106 ntmps106 rfl rfl ?_;refine zh ?_;refine aE hR T zo rfl rfl ?_;intro xb w1 O1 j2 b8 e4 i';obtain⟨e',e8⟩:=Gt l1 hT b8 (Bh zo _ _) j2;clear j2 b8 e4 i';have h1:=h.ext e' hi;have e4:=hR.ext e';have k1:Cell0 O w1 (nA xb 0) (nI k):=e8 0 _ rfl;have j4:Cell0 O w1 (nA xb 1) (nI c):=e8 1 _ rfl;have v1:Cell0 O w1 (nA xb 2) kidv:=e8 2 _ rfl;have b8:rf (fun q=>i<=q) O w O w1:=aa zo O e';have f4:=j0.ext e';have b7:=f'.upd b8;have k5:Nt O w1 (.mk k c l) (k,c,kidv):=k6.ext e';have b6:=fun q hq=>(d' q hq).ext e'
  refine zh ?_;refine zvH (RV.ld k1.c rfl) ?_
  by_cases h4:k=4
  ·subst h4;rw[if_pos rfl]at g5;have b4:fy (.mk 4 c l) a b g=nh l a b g:=by rw[fy,if_pos rfl]
   rw[b4];refine zTH rfl rfl ?_;refine zvH (RV.ld v1.c rfl) ?_;refine zlp (fun z:Nat×Nat×(Nat->Nat)×World×Gr×ox×ox×List K3=>[(0,nP nb),(2,nI z.2.1),(3,nI b),(5,nP xb),(55,kidv),(56,nI ys.length),(57,nI z.1)]) (fun z=>z.2.2.2.1) (fun z=>z.1<=l.length/\rf (fun q=>i<=q) O w1 z.2.2.1 z.2.2.2.1/\Gi B z.2.2.1 z.2.2.2.1/\NfO z.2.2.1 z.2.2.2.1 i nb se z.2.2.2.2.1 na ta z.2.2.2.2.2.1 z.2.2.2.2.2.2.1 z.2.2.2.2.2.2.2/\WF z.2.2.2.2.1/\z.2.1<z.2.2.2.2.1.ks.length/\b<z.2.2.2.2.1.ks.length/\Bd z.2.2.2.2.1 (M+9*dr (l.take z.1))/\nh l a b g=(if z.1<l.length then nh (l.drop z.1) z.2.1 b z.2.2.2.2.1 else z.2.2.2.2.1)) (fun z=>l.length-z.1) (0,a,O,w1,g,lv,kv,xs) (⟨sN _,Bh zo _ _,e4,h1,hw,ha,hb,by simpa[dr]using hM,by dsimp only;rw[if_pos (by cases l;simp at g5;simp),List.drop_zero]⟩) ?_;rintro⟨q,fr,O2,w2,g2,j6,j7,j5⟩ ⟨hq,b0,b1,h2,b2,d0,d2,c5,a7⟩;dsimp only at hq b0 b1 h2 b2 d0 d2 c5 a7 ⊢;have c6:=f4.upd b7 b0;have v2:=v1.upd b0;have k0:=cp l q;refine zh ?_;refine zC ?_ ?_
   ·intro a1;replace a1:q<l.length:=dT a1;rw[if_pos a1,Bs a1]at a7;have a3:=(b6 q zo).upd b0;have k2:=bD l q a1;have e1:=dJ l q a1;have h0:=cp l (q+1);have a5:=a3.one;obtain⟨T2,e3,i8⟩:=b1.bound;refine zh ?_;refine zv (ai (us:=aY (nth ys q)) (fun j u hu=>c6.cell zo hu) (oD _) (ix _) rfl) ?_;refine ax b1 T2 zo (pc _) rfl ?_;intro yb w3 O3 a8 a' g4 e6;refine zh ?_;refine zsb (us:=#[nI (nth ys q).1,nI (nth ys q).2.1,(nth ys q).2.2]) a8 (ix _) (cn a5) ?_;have g3:rf (fun j=>j=T2) O3 w3 O3 (w3.setRow yb #[nI (nth ys q).1,nI (nth ys q).2.1,(nth ys q).2.2]):=oz zo a8.tag rfl;obtain⟨b9,g6⟩:=Gt e3 i8 a' g3 (a8.setRow (us:=#[nI (nth ys q).1,nI (nth ys q).2.1,(nth ys q).2.2]));generalize w3.setRow yb #[nI (nth ys q).1,nI (nth ys q).2.1,(nth ys q).2.2]=w4 at *;clear a8 a' g4 e6 g3;have a9:rf (fun q=>i<=q) O2 w2 O2 w4:=aa zo O2 b9;have h4n:=h2.ext b9 hi;have e9:=b1.ext b9;have v4:=v2.ext b9;have a6:=a3.ext b9;refine zh ?_;refine zv (RV.ld v4.c rfl) ?_;refine zvH (RV.len (by first|exact c6.ext b9) CY rfl) ?_;refine zC ?_ ?_
    ·intro c8;replace c8:q+1<l.length:=dT c8;rw[if_pos c8]at a7;refine zh ?_;refine zc Lk (iZ B O2 w4 i nb se g2 na ta _ _ _ hi e9 h4n (by have:=c5.ks;omega)) ?_;rintro _ w5 ⟨rfl,O5,m0,m1,l9,i5,i9,h5⟩;have i6:=a9.trans i5;have e5:=aG g2;refine zh ?_;refine zvH (ai (us:=aY (nth ys q)) (fun j u hu=>((g6 j u hu).upd i5).c) (oD _) (ix _) rfl) ?_;refine zc KL (ih (nth l q) zo B O5 w5 i nb se g2.knot na ta _ _ _ fr g2.ks.length (nth ys q) _ hi i9 h5 b2.knot zo zo c5.knot zo (fH l q g' a1) (a6.upd i5)) ?_;rintro _ w6 ⟨O6,d4,d5,d3,a0,a4,h6⟩;obtain⟨f5,a2⟩:=ct (nth l q) fr g2.ks.length g2.knot b2.knot zo zo;have d1:=gz (nth l q) fr g2.ks.length g2.knot _ b2.knot zo zo c5.knot;have f8:=a2.len;have m3:=cN (nth l q);refine zh ?_;refine zxd (q+1,g2.ks.length,O6,w6,fy (nth l q) fr g2.ks.length g2.knot,d4,d5,d3) (⟨a1,(b0.trans i6).trans a0,a4,h6,f5,by dsimp only;omega,by dsimp only;omega,d1.mono (by dsimp only;omega),by dsimp only;rw[if_pos c8];exact a7⟩)
    intro c';replace c':¬q+1<l.length:=by have:=of_decide_eq_false c';omega
    rw[if_neg c']at a7;refine zh ?_;refine zvH (ai (us:=aY (nth ys q)) (fun j u hu=>(g6 j u hu).c) (oD _) (ix _) rfl) ?_;refine zc KL (ih (nth l q) zo B O2 w4 i nb se g2 na ta _ _ _ fr b (nth ys q) _ hi e9 h4n b2 d0 d2 c5 zo (fH l q g' a1) a6) ?_;rintro _ w6 ⟨O6,d4,d5,d3,a0,a4,h6⟩;obtain⟨f5,a2⟩:=ct (nth l q) fr b g2 b2 d0 d2;have d1:=gz (nth l q) fr b g2 _ b2 d0 d2 c5;have f8:=a2.len;refine zh ?_;refine zxd (q+1,b,O6,w6,fy (nth l q) fr b g2,d4,d5,d3) (⟨a1,(b0.trans a9).trans a0,a4,h6,f5,by dsimp only;omega,by dsimp only;omega,d1.mono (by dsimp only;omega),by dsimp only;rw[if_neg c'];exact a7⟩)
   intro e7;replace e7:¬q<l.length:=dF e7;rw[if_neg e7]at a7;rw[a7];refine zh ?_;refine aH rfl (⟨O2,_,_,_,b8.trans b0,b1,h2⟩)
  refine zFH rfl ((by simpa using h4)) ?_
  by_cases h5:k=5
  ·subst h5;have b4:fy (.mk 5 c l) a b g=nn l a b g:=by rw[fy,if_neg h4,if_pos rfl]
   rw[b4];refine zTH rfl rfl ?_;refine zvH (RV.ld v1.c rfl) ?_;refine zlp (fun z:Nat×(Nat->Nat)×World×Gr×ox×ox×List K3=>[(0,nP nb),(2,nI a),(3,nI b),(81,kidv),(82,nI ys.length),(83,nI z.1)]) (fun z=>z.2.2.1) (fun z=>z.1<=l.length/\rf (fun q=>i<=q) O w1 z.2.1 z.2.2.1/\Gi B z.2.1 z.2.2.1/\NfO z.2.1 z.2.2.1 i nb se z.2.2.2.1 na ta z.2.2.2.2.1 z.2.2.2.2.2.1 z.2.2.2.2.2.2/\WF z.2.2.2.1/\a<z.2.2.2.1.ks.length/\b<z.2.2.2.1.ks.length/\Bd z.2.2.2.1 (M+9*dr (l.take z.1))/\nn l a b g=nn (l.drop z.1) a b z.2.2.2.1) (fun z=>l.length-z.1) (0,O,w1,g,lv,kv,xs) (⟨sN _,Bh zo _ _,e4,h1,hw,ha,hb,by simpa[dr]using hM,rfl⟩) ?_;rintro⟨q,O2,w2,g2,j6,j7,j5⟩ ⟨hq,b0,b1,h2,b2,g7,d2,c5,a7⟩;dsimp only at hq b0 b1 h2 b2 g7 d2 c5 a7 ⊢;have c6:=f4.upd b7 b0;have k0:=cp l q;refine zh ?_;refine zC ?_ ?_
   ·intro a1;replace a1:q<l.length:=dT a1;rw[Bx a1]at a7;have a3:=(b6 q zo).upd b0;have k2:=bD l q a1;have e1:=dJ l q a1;have h0:=cp l (q+1);have a5:=a3.one;obtain⟨T2,e3,i8⟩:=b1.bound;refine zh ?_;refine zv (ai (us:=aY (nth ys q)) (fun j u hu=>c6.cell zo hu) (oD _) (ix _) rfl) ?_;refine ax b1 T2 zo (pc _) rfl ?_;intro yb w3 O3 a8 a' g4 e6;refine zsb (us:=#[nI (nth ys q).1,nI (nth ys q).2.1,(nth ys q).2.2]) a8 (ix _) (cn a5) ?_;have g3:rf (fun j=>j=T2) O3 w3 O3 (w3.setRow yb #[nI (nth ys q).1,nI (nth ys q).2.1,(nth ys q).2.2]):=oz zo a8.tag rfl;obtain⟨b9,g6⟩:=Gt e3 i8 a' g3 (a8.setRow (us:=#[nI (nth ys q).1,nI (nth ys q).2.1,(nth ys q).2.2]));generalize w3.setRow yb #[nI (nth ys q).1,nI (nth ys q).2.1,(nth ys q).2.2]=w4 at *;clear a8 a' g4 e6 g3;have a9:rf (fun q=>i<=q) O2 w2 O2 w4:=aa zo O2 b9;have h4n:=h2.ext b9 hi;have e9:=b1.ext b9;have a6:=a3.ext b9;refine zh ?_;refine zvH (ai (us:=aY (nth ys q)) (fun j u hu=>(g6 j u hu).c) (oD _) (ix _) rfl) ?_;refine zc KL (ih (nth l q) zo B O2 w4 i nb se g2 na ta _ _ _ a b (nth ys q) _ hi e9 h4n b2 g7 d2 c5 zo (fH l q g' a1) a6) ?_;rintro _ w6 ⟨O6,d4,d5,d3,a0,a4,h6⟩;obtain⟨f5,a2⟩:=ct (nth l q) a b g2 b2 g7 d2;have d1:=gz (nth l q) a b g2 _ b2 g7 d2 c5;have f8:=a2.len;refine zh ?_
    refine zxd (q+1,O6,w6,fy (nth l q) a b g2,d4,d5,d3) (⟨a1,(b0.trans a9).trans a0,a4,h6,f5,by dsimp only;omega,by dsimp only;omega,d1.mono (by dsimp only;omega),a7⟩)
   intro e7;replace e7:¬q<l.length:=dF e7;rw[uY zo]at a7;rw[a7,nn];refine zh ?_;refine aH rfl (⟨O2,_,_,_,b8.trans b0,b1,h2⟩)
  refine zFH rfl ((by simpa using h5)) ?_
  by_cases b':k=6\/k=7\/k=8
  ·rw[if_neg h4,if_pos b']at g5;have m6:l.length=1:=of_decide_eq_true g5;have m2:=bD l 0 zo;have a5:kidv.oneCell'=true:=j0.one;have g8:∀(w':ln),BW w1 w'->Gc tp 141 [nP nb,nv (k,c,kidv),nI (a:Nat),nI (b:Nat)] w' fun _ w''=>NfP B O w' w'' i nb se (fy (.mk k c l) a b g) na ta:=fun w' hE=>vH b' (ih (nth l 0) zo) B O w' i nb se g na ta _ _ _ a b (k,c,kidv) M hi (e4.ext hE) (h1.ext hE hi) hw ha hb hM (by simp only[nsz];omega) j' (k5.ext hE)
   rcases b' with h6|h7|h8
   ·subst h6;refine zTH rfl rfl ?_;refine zTH rfl rfl ?_;refine zvH (ai (us:=aY (6,c,kidv)) (fun j u hu=>(e8 j u hu).c) (oD _) (ix _) rfl) ?_;refine zc Li (g8 w1 (sP w1)) ?_;rintro _ w6 ⟨O6,d4,d5,d3,a0,a4,h6n⟩;refine zh ?_;refine aH rfl (⟨O6,_,_,_,b8.trans a0,a4,h6n⟩)
   ·subst h7;refine zFH rfl rfl ?_;refine zTH rfl rfl ?_;refine zTH rfl rfl ?_;refine zvH (ai (us:=aY (7,c,kidv)) (fun j u hu=>(e8 j u hu).c) (oD _) (ix _) rfl) ?_;refine zc Li (g8 w1 (sP w1)) ?_;rintro _ w6 ⟨O6,d4,d5,d3,a0,a4,h6n⟩;refine zh ?_;refine aH rfl (⟨O6,_,_,_,b8.trans a0,a4,h6n⟩)
   subst h8;refine zFH rfl rfl ?_;refine zFH rfl rfl ?_;refine zTH rfl rfl ?_;refine zvH (ai (us:=aY (8,c,kidv)) (fun j u hu=>(e8 j u hu).c) (oD _) (ix _) rfl) ?_;refine zc Li (g8 w1 (sP w1)) ?_;rintro _ w6 ⟨O6,d4,d5,d3,a0,a4,h6n⟩;refine zh ?_;refine aH rfl (⟨O6,_,_,_,b8.trans a0,a4,h6n⟩)
  refine zFH rfl ((by simp;omega)) ?_;refine zFH rfl ((by simp;omega)) ?_
  refine zFH rfl ((by simp;omega)) ?_
  by_cases h9:k=9
  ·subst h9;have b4:fy (.mk 9 c l) a b g=g.free a b:=by rw[fy,if_neg h4,if_neg h5,if_neg b',if_pos rfl]
   rw[b4];refine zTH rfl rfl ?_;refine zc JH (gA B O w1 i nb se g na ta _ _ _ a b hi e4 h1 zo (by have:=Bd.fr hM a;omega) (by have:=Bd.ks hM;omega)) ?_;rintro _ w6 ⟨O6,_,_,_,a0,a4,h6n⟩;refine zh ?_;refine aH rfl (⟨O6,_,_,_,b8.trans a0,a4,h6n⟩)
  refine aS rfl ((by simpa using h9)) ?_;rw[Dr h4 h5 b' h9];have e0:a<xs.length:=by have:=h.ks.len;omega
  have k':=hM.ls;have k9:=hM.lv a;have j1:=h1.ks.row.sl.sh;have k8:w1.drew.cell? (nA nb 1)=some lv:=h1.c1;have s0:∀W,BW w1.drew W->W.cell? (nA xb 0)=some (nI k)/\W.cell? (nA xb 1)=some (nI c):=fun W hE=>⟨hE.cell k1.c,hE.cell j4.c⟩
  refine zh ?_;refine aI (fun W=>W.cell? (nA xb 0)=some (nI k)/\W.cell? (nA xb 1)=some (nI c)) 16 rfl zk ?_
  refine zin (s0 _ (sP _)) fun zS=>?_
  refine zrm 0 rfl zS rfl ?_;refine zrm 1 rfl zS rfl ?_
  refine zr 2 rfl zS (fun _=>aq rfl) ?_;refine zrf 3 rfl zS rfl ?_
  refine zrf 5 rfl zS rfl ?_;refine zt 6 rfl zS (fun w1 c7=>RV.ld c7.1 rfl) ?_
  refine zrf 7 rfl zS rfl ?_;refine zt 8 rfl zS (fun w1 c7=>RV.ld c7.2 rfl) ?_
  refine zrm 9 rfl zS rfl ?_;refine zr 10 rfl zS (fun _=>aF Iy (zeroValue190 _) rfl (by first|rfl|(simp only[pZ,rU];rfl)) rfl rfl) ?_
  refine bZ 4 11 I6 (enc:=rZ) ((k,c,b):Lf) rfl rfl zk zk zk zk (fun W hE=>KX (hE.cell k8) (isAgg182 _) rfl) s0 rfl rfl rfl zd rfl rfl rfl rfl rfl ?_;intro sv w2 j9 l4;have g1:rf (fun _=>False) O w1 O w2:=aa (fun h=>h) O ((sP w1).drew.trans l4);have h2:=h1.upd g1 hi fun _ _ h=>h
  have b1:=e4.upd g1;refine ug 12 zk rfl ?_;refine aC I6 h2.ls b1 j9 (by simp) rfl rfl (by simp) (by simp[tG]) (by simp;omega) (by simp;omega) zo rfl ?_;intro b3 w3 O3 d9 a' g4;have k3:=(k1.upd g1).upd a';have j3:=(j4.upd g1).upd a';have a8:=h2.blk.upd a' hi zo;have b5:Ks O3 w3 i kv g xs:=⟨h2.ks.row.upd a' zo zo,h2.ks.len,fun q hq=>(h2.ks.fr q hq).upd a' zo zo,fun q hq=>(h2.ks.lv q hq).upd a' zo zo,h2.ks.en⟩
  refine zh ?_;refine zaf (⟨k3.c,j3.c⟩) fun zS=>?_
  refine zr 13 rfl zS (fun _=>aq rfl) ?_;refine zrf 14 rfl zS rfl ?_
  refine ug 15 zk rfl ?_;refine ak (j:=1) a8 rfl (sizeOf182 _) d9.one rfl rfl rfl ?_
  have a9:rf (fun q=>q=i) O3 w3 O3 (w3.setCell ⟨nb,1,none⟩ b3):=th (fun e=>hi e.symm) a8.tag rfl;have i4:vg O3 (w3.setCell ⟨nb,1,none⟩ b3) i nb (nfC se b3 kv na ta) 185:=a8.set 1 b3;have k4:=k3.upd a9;have l6:=j3.upd a9;have d8:=d9.upd a9 zo zo;have f9:Ks O3 (w3.setCell ⟨nb,1,none⟩ b3) i kv g xs:=⟨b5.row.upd a9 zo zo,b5.len,fun q hq=>(b5.fr q hq).upd a9 zo zo,fun q hq=>(b5.lv q hq).upd a9 zo zo,b5.en⟩
  have e9:=g4.upd a9;have i7:rf (fun q=>i<=q) O w1 O3 (w3.setCell ⟨nb,1,none⟩ b3):=((g1.mono (fun _ h=>h.elim) zo).trans (Upd.hi a' hi zo)).trans (Upd.hi a9 hi (ow _));refine zh ?_;refine af (⟨k4.c,l6.c⟩) ?_;generalize w3.setCell ⟨nb,1,none⟩ b3=w4 at *;have l8:w4.drew.cell? (nA nb 1)=some b3:=i4.cell 1 rfl;have l7:w4.drew.cell? (nA nb 2)=some kv:=i4.cell 2 rfl;have l5:w4.drew.cell? ((adr kv 3 a).add 1)=some (nth xs a).2.1:=f9.f1 e0;have k7:(g.ls++[((k,c,b):Lf)]).length=g.ls.length+1:=by simp
  have s4:∀W,BW w4.drew W->W.cell? (nA nb 1)=some b3/\W.cell? (nA nb 2)=some kv:=fun W hE=>⟨hE.cell l8,hE.cell l7⟩
  refine Da zk ?_;refine zh ?_
  refine aI (fun W=>W.cell? (nA nb 1)=some b3/\W.cell? (nA nb 2)=some kv) 23 rfl zk ?_;refine zin (s4 _ (sP _)) fun zS=>?_
  refine zrm 0 rfl zS rfl ?_;refine zr 1 rfl zS (fun _=>aq rfl) ?_
  refine zrf 2 rfl zS rfl ?_;refine zt 3 rfl zS (fun w1 c7=>RV.ld c7.2 rfl) ?_
  refine zrm 4 rfl zS rfl ?_;refine zrm 5 rfl zS rfl ?_
  refine zr 6 rfl zS (fun _=>aq rfl) ?_;refine zrf 7 rfl zS rfl ?_
  refine zt 8 rfl zS (fun w1 c7=>RV.ld c7.2 rfl) ?_;refine zrm 9 rfl zS rfl ?_
  refine zr 10 rfl zS (fun _=>ah j1 vO (G6 _) rfl rfl a rfl e0) ?_;refine zrf 11 rfl zS rfl ?_
  refine zrm 13 rfl zS rfl ?_;refine zr 14 rfl zS (fun _=>aq rfl) ?_
  refine zrf 15 rfl zS rfl ?_;refine zt 16 rfl zS (fun w1 c7=>RV.ld c7.1 rfl) ?_
  refine zr 17 rfl zS (fun _=>aM d8.sl.sh L6 rfl) ?_;rw[k7];refine bZ 12 18 kU (enc:=aX) (g.ls.length+1) rfl rfl zk zk zk zk (fun W hE=>KX (hE.cell l5) (isAgg22 _) rfl) s4 rfl rfl rfl zd rfl rfl rfl rfl rfl ?_
  intro l' w5 g9 l3;have g0:rf (fun _=>False) O3 w4 O3 w5:=aa (fun h=>h) O3 ((sP w4).drew.trans l3);have c9:=f9.upd g0 fun _ _ _ h=>h
  have l0:=i4.upd g0 hi fun h=>h
  have f7:=d8.upd g0 zo fun h=>h
  have i9:=e9.upd g0;refine ug 19 zk rfl ?_;refine aC kU (c9.lv a e0) i9 g9 (by simp) rfl rfl (by simp) (by simp[tG]) (by simp;omega) (by simp;omega) zo rfl ?_;intro av w6 O6 d7 a0 a4;have d1:=l0.upd a0 hi zo;have i2:=c9.row.upd a0 zo zo;have h':=f7.upd a0 zo zo;refine zh ?_;refine zaf (⟨d1.cell 1 rfl,d1.cell 2 rfl⟩) fun zS=>?_
  refine zr 20 rfl zS (fun _=>ah j1 vO (G6 _) rfl rfl a rfl e0) ?_;refine zrf 21 rfl zS rfl ?_
  refine ug 22 zk rfl ?_;refine oS i2 a e0 1 zd (((nth xs a).1,av,(nth xs a).2.2):K3) (sizeOf22 _) d7.one zo rfl rfl rfl rfl ?_
  intro w7 i1 e2;have i3:=d1.upd e2 hi zo;have h3:=h'.upd e2 zo zo;refine zh ?_;refine af (⟨i3.cell 1 rfl,i3.cell 2 rfl⟩) ?_;have d6:∀q,q<xs.length->BJ aX 3 1 O6 w7 (i+6+2*q) (nth xs q).1 (g.fr q):=fun q hq=>((c9.fr q hq).upd a0 zo zo).upd e2 zo zo
  have f3:∀q,q<xs.length->q≠a->BJ aX 3 1 O6 w7 (i+7+2*q) (nth xs q).2.1 (g.lv q):=fun q hq m5=>((c9.lv q hq).upd a0 zo zo).upd e2 zo zo
  have f6:=d7.upd e2 zo zo;have j8:=h.ks.len;refine Da zk ?_;refine zh ?_;refine aH rfl (⟨O6,b3,kv,xs.set a ((nth xs a).1,av,(nth xs a).2.2),b8.trans (i7.trans (((g0.mono (fun _ h=>h.elim) zo).trans (Upd.hi a0 hi zo)).trans (Upd.hi e2 hi zo))),a4.upd e2,⟨i3,h3,⟨i1,by rw[sx,gy];exact j8,fun q hq=>?_,fun q hq=>?_,fun q hq=>?_⟩⟩⟩)
  ·rw[sx]at hq;rw[aT e0,oe ha]
   by_cases e:q=a
   ·subst e;rw[if_pos rfl];exact d6 q hq
   rw[if_neg e];exact d6 q hq
  ·rw[sx]at hq;rw[aT e0,lR ha]
   by_cases e:q=a
   ·subst e;rw[if_pos rfl,if_pos rfl];exact f6
   rw[if_neg e,if_neg e];exact f3 q hq e
  rw[sx]at hq;rw[aT e0,Bq ha]
  by_cases e:q=a
  ·subst e;rw[if_pos rfl];exact h.ks.en q hq
  rw[if_neg e];exact h.ks.en q hq
structure NfR(w:ln)(nb:Nat)(se:Bool)(g:Gr)(na ta lv kv:ox)(xs:List K3):Prop where
 c0:w.cell? (nA nb 0)=some (.bool se)
 c1:w.cell? (nA nb 1)=some lv
 c2:w.cell? (nA nb 2)=some kv
 c3:w.cell? (nA nb 3)=some na
 c4:w.cell? (nA nb 4)=some ta
 ls:Sl rZ 3 w lv g.ls
 ks:Sl G0 3 w kv xs
 len:xs.length=g.ks.length
 fr:∀k,k<xs.length->Sl aX 1 w (nth xs k).1 (g.fr k)
 lv:∀k,k<xs.length->Sl aX 1 w (nth xs k).2.1 (g.lv k)
 en:∀k,k<xs.length->(nth xs k).2.2=g.en k
section
variable{O:Nat→Nat}{w w':ln}{i nb:Nat}{se:Bool}{g:Gr}{na ta lv kv:ox}{xs:List K3}
theorem NfO.r(h:NfO O w i nb se g na ta lv kv xs):NfR w nb se g na ta lv kv xs:=⟨h.c0,h.c1,h.c2,h.c3,h.c4,h.ls.sl,h.ks.row.sl,h.ks.len,fun k hk=>(h.ks.fr k hk).sl,fun k hk=>(h.ks.lv k hk).sl,h.ks.en⟩
theorem NfR.ext(h:NfR w nb se g na ta lv kv xs)(e:BW w w'):NfR w' nb se g na ta lv kv xs:=⟨e.cell h.c0,e.cell h.c1,e.cell h.c2,e.cell h.c3,e.cell h.c4,h.ls.ext e,h.ks.ext e,h.len,fun k hk=>(h.fr k hk).ext e,fun k hk=>(h.lv k hk).ext e,h.en⟩
theorem NfR.f0(h:NfR w nb se g na ta lv kv xs){k:Nat}(hk:k<xs.length):w.cell? ((adr kv 3 k).add 0)=some (nth xs k).1:=h.ks.cell (j:=0) hk rfl
theorem NfR.f1(h:NfR w nb se g na ta lv kv xs){k:Nat}(hk:k<xs.length):w.cell? ((adr kv 3 k).add 1)=some (nth xs k).2.1:=h.ks.cell (j:=1) hk rfl
theorem NfR.f2(h:NfR w nb se g na ta lv kv xs){k:Nat}(hk:k<xs.length):w.cell? ((adr kv 3 k).add 2)=some (nI ((g.en k:Nat):Int)):=by rw[<-h.en k hk];exact h.ks.cell (j:=2) hk rfl
end
theorem xp{l:List Nat}{f:List Nat}{j:Nat}(h:j<f.length):dS l (f.drop j)=dS (if l.contains (nth f j)then l else l++[nth f j]) (f.drop (j+1)):=by
 rw[show f.drop j=nth f j::f.drop (j+1)from by rw[aB h];exact JA h,dS]
theorem A1(w:ln)(nb:Nat)(se:Bool)(g:Gr)(na ta lv kv:ox)(xs:List K3)(k M:Nat)(h:NfR w nb se g na ta lv kv xs)(hw:WF g)(hk:k<g.ks.length)(hM:Bd g M)(d8:M<=100000000):
  Gc tp 142 [nP nb,nI (k:Nat)] w fun v w'=>Sl aX 1 w' v (fj g k)/\BW w w'/\(fj g k).length<=M/\(∀x∈fj g k,x<g.ks.length)/\∀(B:Nat) (O:Nat->Nat),Gi B O w->Ln O w' v:=by
 have d5:=h.len;have d9:=hM.ks;refine ps func142 ntmps142 rfl rfl ?_;refine zh ?_;refine bS kU (enc:=aX) (au w) 1 zd k rfl rfl rfl zd rfl ?_;intro v0 w0 O0 a8 d2 d4;refine zh ?_;refine zlp (fun z:Nat×List Nat×ox×(Nat->Nat)×World=>[(0,nP nb),(5,z.2.2.1),(6,nI z.1)]) (fun z=>z.2.2.2.2) (fun z=>z.1<=z.2.1.length/\Rc g k z.1 z.2.1/\BJ aX 3 1 z.2.2.2.1 z.2.2.2.2 1 z.2.2.1 z.2.1/\rf (fun q=>q=1) (fun _=>0) w z.2.2.2.1 z.2.2.2.2/\Gi w.heap.size z.2.2.2.1 z.2.2.2.2/\ia g (g.ks.length-z.1) z.1 z.2.1=fj g k) (fun z=>g.ks.length-z.1) (0,[k],v0,O0,w0) (⟨sN _,sy hk,a8,d2,d4,rfl⟩) ?_;rintro⟨i,l,b9,O1,w1⟩ ⟨hi,a5,a2,b3,b8,a'⟩;dsimp only at hi a5 a2 b3 b8 a' ⊢;have d6:=gu a5.nd a5.lt;have b6:=a2.sl;refine zh ?_;refine zC ?_ ?_
 ·intro a6;replace a6:i<l.length:=dT a6;have hm:=a5.lt _ (aO a6);have b2:nth l i<xs.length:=zo;have d7:=hM.fr (nth l i);obtain⟨d,hd⟩:∃d,g.ks.length-i=d+1:=⟨g.ks.length-i-1,zo⟩
  rw[hd,ia,if_pos a6]at a';have b1:=h.ext b3.ext;have c2:w1.drew.cell? (nA nb 2)=some kv:=b1.c2;have f0:w1.drew.cell? ((adr kv 3 (nth l i)).add 0)=some (nth xs (nth l i)).1:=b1.f0 b2;have m1:w1.drew.cell? (adr b9 1 i)=some (nI ((nth l i:Nat):Int)):=by have:=b6.cell (j:=0) a6 rfl;rwa[ao]at this
  have c':=(b1.fr _ b2).drew;refine zh ?_;refine DN zk zk ?_;refine zh ?_;refine zwH (Fu (by first|exact(b6).drew) Jq (yP _) rfl rfl _ rfl zo) ?_;refine zwH (ah b1.ks.sh vO (G6 _) rfl rfl (nth l i) rfl b2) ?_;refine zwH (aM c'.sh Jq rfl) ?_;refine Dc ?_;refine zh ?_;refine zlp (fun y:Nat×List Nat×ox×(Nat->Nat)×World=>[(0,nP nb),(5,y.2.2.1),(6,nI i),(27,(nth xs (nth l i)).1),(28,nI (g.fr (nth l i)).length),(29,nI y.1)]) (fun y=>y.2.2.2.2) (fun y=>y.1<=(g.fr (nth l i)).length/\y.2.1.length<=l.length+y.1/\BJ aX 3 1 y.2.2.2.1 y.2.2.2.2 1 y.2.2.1 y.2.1/\rf (fun q=>q=1) (fun _=>0) w y.2.2.2.1 y.2.2.2.2/\Gi w.heap.size y.2.2.2.1 y.2.2.2.2/\dS y.2.1 ((g.fr (nth l i)).drop y.1)=dS l (g.fr (nth l i))) (fun y=>(g.fr (nth l i)).length-y.1) (0,l,b9,O1,w1.drew) (⟨sN _,ow _,a2.drew,b3.drew,b8.drew,rfl⟩) ?_;rintro⟨j,l2,b5,O2,w2⟩ ⟨hj,c9,a0,b0,b4,a1⟩;dsimp only at hj c9 a0 b0 b4 a1 ⊢;have c7:=h.ext b0.ext;have c6:=a0.sl;have d0:=c7.fr _ b2;refine zh ?_;refine zC ?_ ?_
  ·intro a3;replace a3:j<(g.fr (nth l i)).length:=dT a3;rw[xp a3]at a1;have m2:w2.cell? (adr (nth xs (nth l i)).1 1 j)=some (nI ((nth (g.fr (nth l i)) j:Nat):Int)):=by have:=d0.cell (j:=0) a3 rfl;rwa[ao]at this
   refine zh ?_;refine zc call170 (sf l2 (nth (g.fr (nth l i)) j) b5 w2 c6) ?_
   rintro v w9 ⟨rfl,b'⟩;rw[b'];clear b' w9;refine zh ?_
   cases hc:l2.contains (nth (g.fr (nth l i)) j)with
   |true=>
    rw[hc,if_pos rfl]at a1;refine zFH rfl rfl ?_;refine zxd (j+1,l2,b5,O2,w2) (⟨a3,by dsimp only;omega,a0,b0,b4,a1⟩)
   |false=>
    rw[hc,if_neg zd]at a1;refine zTH rfl rfl ?_;refine Kq kU a0 b4 ((nth (g.fr (nth l i)) j)) (fun _=>rfl) rfl rfl rfl (by simp[tG]) zo zo zo zd rfl rfl ?_;intro c5 w3 O3 a7 d1 d3;refine zh ?_;refine zxd (j+1,l2++[nth (g.fr (nth l i)) j],c5,O3,w3) (⟨a3,by dsimp only;simp;omega,a7,b0.trans d1,d3,a1⟩)
  intro a9;replace a9:¬j<(g.fr (nth l i)).length:=dF a9;rw[uY zo,dS]at a1;subst a1;have a4:=a5.step hw a6;have c8:=gu a4.nd a4.lt;obtain⟨s,hs⟩:=jg (g.fr (nth l i)) l;refine zh ?_;refine zxd (i+1,dS l (g.fr (nth l i)),b5,O2,w2) (⟨by dsimp only;rw[hs];simp;omega,a4,a0,b0,b4,by dsimp only;rw[show g.ks.length-(i+1)=d from by omega];exact a'⟩)
 intro b7;replace b7:¬i<l.length:=dF b7;have e:ia g (g.ks.length-i) i l=l:=by
  cases hd:g.ks.length-i with
  |zero=>rfl
  |succ d=>rw[ia,if_neg b7]
 rw[e]at a';rw[<-a'];refine zh ?_;refine ae rfl rfl (⟨b6,b3.ext,zo,a5.lt,fun B O hR=>a2.free zd b8 hR⟩)
abbrev kvI(n:Int):ox:=nI n
abbrev tvU(n:Nat):ox:=.int .u64 (n:Int)
theorem qp:Lm tp 3 kvI:=KeyL.int underlying3
theorem CO{g:Gr}{n:Nat}(he:∀k,g.en k<=n){b:Nat}(hb:b<2^n)(k:Nat):fq g b k<2^n:=by
 unfold fq
 split
 ·exact hb
 rename_i h;have:=he k;exact Nat.or_lt_two_pow hb (JU zd zo)
theorem ke{g:Gr}{n:Nat}(he:∀k,g.en k<=n):∀(l:List Nat) (b:Nat),b<2^n->l.foldl (fq g) b<2^n
 |[],_,hb=>hb
 |k::l,_,hb=>ke he l _ (CO he hb k)
theorem yn(B:Nat)(O:Nat->Nat)(w:ln)(i nb:Nat)(se:Bool)(g:Gr)(nr tr:Nat)(lv kv:ox)(xs:List K3)(l1:List (Int×ox))(l2:List (Int×Nat))(p:Int)(k M:Nat)(hi:2<i)(hR:Gi B O w)(h:NfO O w i nb se g (.map (some nr)) (.map (some tr)) lv kv xs)(e7:GT kvI id O w 1 nr l1)(e6:GT kvI tvU O w 2 tr l2) 
  (hw:WF g) (hk:k<g.ks.length) (hM:Bd g M) (h5:M<=1000000) (he:∀q,g.en q<=40) :
  Gc tp 107 [nP nb,nI p,nI (k:Nat)] w fun _ w'=>∃v,rf (fun q=>q=1\/q=2) O w O w'/\GT kvI id O w' 1 nr (cJ l1 p v)/\GT kvI tvU O w' 2 tr (cJ l2 p ((fj g k).foldl (fq g) 0))/\Sl aX 1 w' v ((fj g k).flatMap g.lv)/\Ln O w' v:=by
 obtain⟨T0,h4,e1⟩:=hR.bound;obtain⟨T,h1⟩:∃T,T=T0+10+i+2*g.ks.length:=⟨_,rfl⟩
 have hT:∀b,O b<T:=fun b=>by have:=e1 b;omega
 have f6:=h.ks.len;have f':=e7.tag;have f9:=e6.tag;have f8:=h.r;refine ps func107 ntmps107 rfl rfl ?_;refine zh ?_;refine zc call142 (A1 w nb se g _ _ lv kv xs k M f8 hw hk hM zo) ?_;rintro rv w1 ⟨e5,f5,g7,c7,f7⟩;generalize fj g k=rl at *;have g3:rf (fun q=>q=T) O w O w1:=aa zo O f5;have g2:=f7 B O hR;have h6:=hM.ks;have b2:∀q,q<rl.length->nth rl q<xs.length:=fun q hq=>by rw[f6];exact c7 _ (aO hq)
 refine zvH (aM e5.sh Jq rfl) ?_;refine zlp (fun z:Nat×ox×(Nat->Nat)×World=>[(0,nP nb),(1,nI p),(6,z.2.1),(7,.int .u64 (((rl.take z.1).foldl (fq g) 0:Nat):Int)),(13,rv),(14,nI rl.length),(15,nI z.1)]) (fun z=>z.2.2.2) (fun z=>z.1<=rl.length/\BJ aX 3 1 z.2.2.1 z.2.2.2 T z.2.1 ((rl.take z.1).flatMap g.lv)/\((rl.take z.1).flatMap g.lv).length<=z.1*1000000/\rf (fun q=>q=T) O w z.2.2.1 z.2.2.2/\Gi B z.2.2.1 z.2.2.2/\Sl aX 1 z.2.2.2 rv rl/\Ln z.2.2.1 z.2.2.2 rv) (fun z=>rl.length-z.1) (0,nS,O,w1) (⟨sN _,Jv _ _ _ _ _ _,by simp,g3,hR.ext f5,e5,g2⟩) ?_
 rintro⟨q,v2,O2,w2⟩ ⟨hq,a0,g0,a9,b',a3,d8⟩;dsimp only at hq a0 g0 a9 b' a3 d8 ⊢;have h2:=h.updT a9 zo (fun r _ hr=>zo);have a':=h2.r;have c2:=a'.c2;have g6:=a0.sl;refine zh ?_;refine zC ?_ ?_
 ·intro a5;replace a5:q<rl.length:=dT a5;have b3:=b2 q a5;have m2:w2.cell? (adr rv 1 q)=some (nI ((nth rl q:Nat):Int)):=by have:=a3.cell (j:=0) a5 rfl;rwa[ao]at this
  have f1:=a'.f1 b3;have g9:=hM.lv (nth rl q);refine zh ?_;refine zvH (ah a'.ks.sh vO (G6 _) rfl rfl (nth rl q) rfl b3) ?_;refine ez kU a0 b' (a'.lv _ b3) rfl rfl (by simp) (by simp[tG]) zo zo zo rfl ?_;intro v3 w3 O3 a2 e0 f4;have a8:=a9.trans e0;have h3:=h.updT a8 zo (fun r _ hr=>zo);have c8:=h3.r;have b1:=a3.upd d8 e0;have e9:=d8.upd e0;have f2:=c8.f2 b3;have h7:=c8.c2;have g':=he (nth rl q);have e4:rl.take (q+1)=rl.take q++[nth rl q]:=aR a5;have e8:(rl.take (q+1)).foldl (fq g) 0=fq g ((rl.take q).foldl (fq g) 0) (nth rl q):=by rw[e4,List.foldl_append];rfl
  have b8:(rl.take (q+1)).flatMap g.lv=(rl.take q).flatMap g.lv++g.lv (nth rl q):=by rw[e4];simp
  have h0:=ke he (rl.take q) 0 zd;refine zh ?_;refine zvH (ah c8.ks.sh vO (G6 _) rfl rfl (nth rl q) rfl b3) ?_;refine zC ?_ ?_
  ·intro a4;have a4:g.en (nth rl q)≠0:=dT a4;have g8:2^(g.en (nth rl q)-1)<2^40:=JU zd zo;refine zh ?_;rw[show((g.en (nth rl q):Nat):Int)-1=((g.en (nth rl q)-1:Nat):Int)from by omega];refine zv (xB (a:=1) (b:=g.en (nth rl q)-1) rfl rfl rfl rfl (by show _<=64;omega) (by show _<=(18446744073709551615:Int);omega)) ?_;rw[L0];refine zvH (uS (a:=(rl.take q).foldl (fq g) 0) (b:=2^(g.en (nth rl q)-1)) rfl rfl rfl rfl (by show _<=(18446744073709551615:Int);omega) (by show _<=(18446744073709551615:Int);omega)) ?_;have a6:(rl.take (q+1)).foldl (fq g) 0=(rl.take q).foldl (fq g) 0 ||| 2^(g.en (nth rl q)-1):=by rw[e8,fq,if_neg a4]
   rw[<-a6];refine zxd (q+1,v3,O3,w3) (⟨a5,by dsimp only;rw[b8];exact a2,by dsimp only;rw[b8,yY];omega,a8,f4,b1,e9⟩)
  intro hz;have hz:g.en (nth rl q)=0:=dF hz;refine zh ?_;have a6:(rl.take (q+1)).foldl (fq g) 0=(rl.take q).foldl (fq g) 0:=by rw[e8,fq,if_pos hz]
  rw[<-a6];refine zxd (q+1,v3,O3,w3) (⟨a5,by dsimp only;rw[b8];exact a2,by dsimp only;rw[b8,yY];omega,a8,f4,b1,e9⟩)
 intro g1;obtain rfl:q=rl.length:=dF g1;rw[Ki]at a0 ⊢;have hf:Ln O w2 v2:=KV a0 zo hT b' a9;have d7:=e7.upd a9 zd zo;have d1:=e6.upd a9 zd zo;have d3:w2.drew.cell? (nA nb 3)=some (.map (some nr)):=a'.c3;have d4:w2.drew.cell? (nA nb 4)=some (.map (some tr)):=a'.c4;have d9:rf (fun _=>False) O2 w2 O2 w2.drew:=aa (fun h=>h) O2 (sP w2).drew;have d6:=d7.upd d9 zd fun h=>h
 have d0:=d1.upd d9 zd fun h=>h
 have b0:∀W (S:Nat->Prop),rf S O2 w2.drew O2 W->¬S i->W.cell? (nA nb 3)=some (.map (some nr))/\W.cell? (nA nb 4)=some (.map (some tr)):=fun W S u hS=>
  have hb:=h2.blk.drew.upd u zo hS
  ⟨hb.cell 3 rfl,hb.cell 4 rfl⟩
 refine zh ?_;refine aI (fun W=>W.cell? (nA nb 3)=some (.map (some nr))/\W.cell? (nA nb 4)=some (.map (some tr))) 18 rfl zk ?_
 refine zin ⟨d3,d4⟩ fun zS=>?_
 refine zrm 0 rfl zS rfl ?_;refine zr 1 rfl zS (fun _=>aq rfl) ?_
 refine zrf 2 rfl zS rfl ?_;refine zt 3 rfl zS (fun w1 c5=>RV.ld c5.1 rfl) ?_
 refine zrm 4 rfl zS rfl ?_;refine zrm 5 rfl zS rfl ?_
 refine zr 6 rfl zS (fun _=>aq rfl) ?_;refine zrf 7 rfl zS rfl ?_
 refine zt 8 rfl zS (fun w1 c5=>RV.ld c5.2 rfl) ?_;refine zrm 9 rfl zS rfl ?_
 refine zrm 10 rfl zS rfl ?_;refine zrm 11 rfl zS rfl ?_
 refine ug 12 zk rfl ?_;refine mH d6 underlying180 qp zd (zeroValue22 _) p v2 rfl rfl rfl rfl ?_
 intro w4 c4 b4 e3 b5;refine zh ?_;refine af (b0 _ _ b5 zo) ?_;refine zr 13 rfl (b0 _ _ b5 zo) (fun _=>L8 rfl rfl) ?_;refine ug 14 zk rfl ?_;refine jy e3 rfl rfl rfl rfl ?_;intro w5 d5 b9;have c':=d0.upd b9 zd zd;refine zh ?_;refine af (b0 _ _ b9 zo) ?_;refine ug 15 zk rfl ?_;refine mH c' underlying181 qp zd (zeroValue28 _) p (rl.foldl (fq g) 0) rfl rfl rfl rfl ?_;intro w6 c6 b6 e2 d';have hU6e:rf (fun q=>q=1\/q=2) O2 w2.drew O2 w6:=(b9.mono (fun _ h=>.inl h) zo).trans (d'.mono (fun _ h=>.inr h) zo);refine zh ?_;refine af (b0 _ _ hU6e zo) ?_;refine zr 16 rfl (b0 _ _ hU6e zo) (fun _=>L8 rfl rfl) ?_;refine ug 17 zk rfl ?_;refine jy e2 rfl rfl rfl rfl ?_;intro w7 c9 f3;have d2:=d5.upd f3 zd zd;have b7:rf (fun q=>q=1\/q=2) O2 w2.drew O2 w7:=(b9.mono (fun _ h=>.inl h) zo).trans (f3.mono (fun _ h=>.inr h) zo);refine zh ?_;refine af (b0 _ _ b7 zo) ?_;have a7:=(d9.mono (S':=fun q=>q=1\/q=2) (fun _ h=>h.elim) zo).trans b7;have e':=(a9.mono (S':=fun q=>q=T\/q=1\/q=2) (fun _ h=>.inl h) zo).trans (a7.mono (fun _ h=>.inr h) zo)
 have g4:rf (fun q=>q=1\/q=2) O w O w7:=Upd.fgt e' (fun b h=>by
  rcases h with h|h
  ·have:=hT b;omega
  exact h) zo
 have a1:=a0.upd a7 zo zo;have g5:=b'.upd a7;refine Da zk ?_;refine aH rfl (⟨v2,g4,d2.fgt f',c9.fgt f9,a1.sl,KV a1 zo hT g5 e'⟩)
end Go.Proofs.YtlehnbkknlpkbaaGreatDoor
