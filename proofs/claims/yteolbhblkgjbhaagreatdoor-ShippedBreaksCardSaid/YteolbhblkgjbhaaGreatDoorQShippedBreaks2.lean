/- Texts that the proof of this statement needs, merged and shortened. -/
import Derived.Test.YteolbhblkgjbhaaGreatDoorQShippedBreaks1
set_option linter.defProp false
open Go.Proofs.Tryz renaming sizeOf120->ix,isAgg120->L2,zeroValue120->L5,prog->Ma,underlying9->Mg,underlying276->Mv,sizeOf3->My,underlying22->MS,underlying118->MV,sizeOf280->N7,underlying275->Nh,call178->NM,call154->NN,call153->NO,sizeOf283->NU,call177->P8,underlying293->Po,underlying285->Pp,underlying213->Pq,underlying130->Pr,zeroValue255->PK,call179->PL,underlying5->Q4,underlying3->Q5,call262->Qn,call198->Qo,call165->Qp,sizeOf255->Qt,sizeOf197->Qu,sizeOf118->Qv,sizeOf22->QJ,call83->QK,underlying274->QN,underlying273->QO,underlying255->QQ,underlying112->QR,zeroValue283->QV,sizeOf9->QW,call230->QX,call163->QY,call155->QZ,call120->R0,zeroValue24->R7,zeroValue22->R8,zeroValue3->Re
open Go renaming World->ln,Value->L0,TypeId->L8,MapEntry->Mk,Program->Ml,Operand->MK,Oper->N4,Exit->NR,zeroValue->NT,Edge->P7,Act->Q3,sizeOf->Qi,Addr->Ql,Code->Rk
open Nat renaming le_refl->L1,zero_le->L9,not_lt_zero->Mr,le_succ->MA,blt->MD,le_of_eq->MO,sub_self->MW,eq_of_beq_eq_true->Nn,beq->NS,lt_succ_iff_lt_or_eq->P5,zero_mul->Pb,zero_add->Pc,pow_lt_pow_right->Ps,le_zero->Pu,lt_of_lt_of_le->PN,or_lt_two_pow->PX,add_assoc->Qs,sub_zero->Qw,le_trans->Qx,add_comm->Qy,one_mul->QG,add_mul->QH
open Go.Result renaming andThen_ok->L3
open Go.VL.Upd renaming setRow->L4,set->Mi,refl->MH,putObj->Ni,alloc->NH
open Go.VL.Ret renaming enter->L6
open Go.Sem renaming run_bind->L7,run_pure->M9,run->No
open Go.World renaming setRow->LX,setCell->M7,putObj_heap_other->Mt,drew->Nb,block_lt_of_cell?->NZ,putObj_heap_same->P4,alloc_heap_new->Pa,size_alloc->PM,setCells->Q6,frozen?->Qc
open Go.VL renaming Upd->LY,BlkO->Mu,RowT->MC,Ext->MG,Rng->N0,Ret->N1,MapO->N5,Free->P6,Elem->PA,KeyL->QM,Fits->R6
open List renaming all_cons->LZ,length_set->M1,getElem_append_left->Mb,all_nil->Mc,map_cons->Me,length_cons->Mh,eq_nil_of_length_eq_zero->Mj,take_length->Mm,replicate->Mo,length_append->Mp,getElem_append_right->Mq,mem_singleton->Mw,drop_of_length_le->Mx,map_toArray->MB,getElem?_eq_some_iff->ME,length_reverse->MF,findIdx?_eq_some_iff_getElem->MJ,map_nil->MM,eraseIdx_eq_take_drop_succ->MP,findIdx?_cons->MZ,findIdx?_eq_none_iff->N2,append_assoc->N6,getElem_cons_zero->Ng,map_append->Nj,append_nil->Nk,length_singleton->Nm,takeWhile_append_dropWhile->Nx,suffix_refl->ND,getElem_mem->NF,length_nil->NJ,length_map->NK,drop_eq_getElem_cons->NX,map_take->P2,getElem?_eq_getElem->P3,mem_map->P9,set_append_right->Pd,eraseIdx_sublist->Pe,dropWhile_suffix->Pf,replicate_zero->Pv,replicate_succ->Pw,getElem_of_mem->Px,flatMap_append->Py,filter_eq_self->Pz,set_cons_zero->PF,range->PH,find?_eq_none->PI,filter_append->PJ,nodup_append->PO,foldl_append->PP,flatMap_cons->PQ,suffix_cons->PY,cons_append->PZ,mem_append->Q8,find?_cons->Q9,take_take->Qg,map_drop->Qj,length->Qz,take->QL,map->QT
open Go.VL.BlkO renaming setRow->M0,U->M4,tag->M6,drew->MR,fgt->QU
open Go.Value renaming oneCell'->M5,string->Np,cells->Qq
open Go.VL.Ext renaming refl->M8
open Bool renaming and_eq_true->Md,not_eq_true'->Nw,eq_false_iff->PT,eq_iff_iff->Qb,and_true->Qk
open Go.VL.WH renaming one->Mf,done->MY
open Classical renaming byContradiction->Mn
open Go.VL.WI renaming region->Ms,seq->MI,skip->NV,block->PC,ret->PU
open UInt8 renaming ofNat->Mz
open List.IsSuffix renaming trans->MN,length_le->Nv
open Array renaming getElem?_modify->MQ,getElem?_setIfInBounds->NI,length_toList->Pn,ext_getElem?->PB
open Go.VL.RowT renaming nil->MT,U->Pk,freeT->QB
open Go.VL.QF renaming dn->MU
open Go.Instr renaming keyThatStays->MX,entryStore->N8,findAsking->Ny,mapEntry->NP,checkKey->NQ,storeAt->NY,mapUpdate->Q0,sureAddr->Qa,findNow->Qh
open Go.VL.WS renaming nil->N9
open Go.Addr renaming add->Na
open Go.Fence renaming wide->Nc
open Go.VL.WC renaming still->Nf
open Go.VL.RV renaming indexAddr->Nl,load->QD,extract->QS,lookup->R4
open List.cons renaming injEq->Nq
open Go.Proofs.YteolbhblkgjbhaaGreatDoor renaming oneM->Nr,layO->Ns
open Go.VL.WL renaming val->Nu,push->NB,nil->Pj,step->Rf
open Go.Builtin renaming delete_->Nz,append_->NA,firstCells->Pi,clear_->PS,lenOf->Q2,len_->Rm
open Option renaming map_some->NC,map->Pm,bind_some->PD,bind_none->PE
open Go.Ending.returned renaming inj->NG
open Int renaming le_refl->NL
open Go.Proofs.YteolbhblkgjbhaaGreatDoor.Nd renaming kids->NW,kind->Q7,cls->Qr
open Go.Region renaming ready->P1
open Function renaming comp_def->Pg
open Go.Extern.BytealgIndexByte renaming indexByte->Ph
open Go.VL.Rng renaming U->PV
open Go.Op renaming equalIn->PW,equal->R9
open Std.Legacy.Range renaming size->Qd,forIn_eq_forIn_range'->Qe
open Prod renaming fst->Qf
open Go.VL.Leave renaming mark->QA
open Go.RowKit.Below renaming heap_setCell->QC
open Go.Proofs.YteolbhblkgjbhaaGreatDoor.Nt renaming leaf->QE
open Go.Oper renaming wp->R5
open Go.Deferred renaming ofValue->Ra
open Go.Act renaming put->Rb
open Go.RoundIn renaming mono->Rg
open Prod.mk renaming injEq->Rh
open Go.IntKind renaming wrap_u8->Ri,u8->Rj
open Go.CallsIn renaming mono->Rl
set_option maxRecDepth 10000
open Go.VL Go.Proofs Go.Proofs.Tryz
variable {α κ ν:Type}{se:Bool}{a a0 c e op:Int}{v z:L0}{E K T t:L8}{s:List Int}{us:List L0}{es:List Mk}{a1:List N4}{l:List UInt8}{x y:MK}{P:Ml}{Q:NR->Q3->ln->Prop}{B M N b d i j k n nb q rb sz:Nat}{O O':Nat->Nat}{S:Nat->Prop}{w w' w0:ln}{val:α->L0}{enc:α->List L0}
variable {sv xv:L0}{d':Nat}{O2:Nat->Nat}
namespace Go.VL
section
open Go.ChangeMaps (setBlock)
section
variable{κ ν:Type}[DecidableEq κ]{kv:κ→L0}{vv:ν→L0}
def qq:List (κ×ν)->κ->List (κ×ν)
 |[],_=>[]
 |(a,y)::r,k=>if a=k then r else(a,y)::qq r k
def jB:∀(l:List (κ×ν)) (k:κ),qq l k=match jA l k with
  |some i=>l.eraseIdx i
  |none=>l
 |[],k=>rfl
 |(a,y)::r,k=>by
  simp only[qq,jA]
  by_cases h:a=k
  ·simp[h]
  simp only[am h];rw[jB r k]
  cases jA r k<;>simp
def map_eraseIdx{β:Type}(f:α->β)(l:List α)(j:Nat):(l.eraseIdx j).map f=(l.map f).eraseIdx j:=by
 simp[MP,P2,Qj]
def fy{r:Nat}(o:Obj)(ht:O r=i)(a0:i≠0):LY (λj=>j=i) O w O (setBlock w r o):=by
 refine⟨rfl,rfl,rfl,by simp[setBlock],λb _ hn=>?_,λ_ _=>rfl,λ_ h=>.inl h,λh=>a0 h.symm⟩;simp only[setBlock,NI]
 rw[am (λe=>hn (by rw[<-e];exact ht))]
def eY{r:Nat}{o o':Obj}(h:w.heap[r]? = some o):(setBlock w r o').heap[r]? = some o':=by
 have:=bN h;simp[setBlock,this]
def pU{ty U:L8}(hT:P.underlying T=some (.map K E))(hK:QM P K kv){r:Nat}{l:List (κ×ν)}(h:N5 kv vv O w i r l)(a8:i≠0)(k:κ):
  ∃w',(Nz #[T,U] ty #[.map (some r),kv k]).run P w=.ok (.tuple #[]) w'/\N5 kv vv O w' i r (qq l k)/\LY (λj=>j=i) O w O w':=by
 obtain⟨es,c,h1,h2⟩:=h.blk;have a3:=h.born es c h1;have a6:es.toList.map (·.key)=(l.map (·.1)).map kv:=by
  have:=congrArg (QT Qf) h2;simpa[Pg]using this
 have hf:=hK.find k es.toList (l.map (·.1)) w a6;rw[eL]at hf;have hr:=bN h1;have a5:∀(a1:Array Mk) (c':Nat),((a1.toList.map (·.born)).Nodup/\∀e∈a1.toList,e.born<c')->a1.toList.map (λe=>(e.key,e.val))=(qq l k).map (λp=>(kv p.1,vv p.2))->
   N5 kv vv O (setBlock w r (.map a1 c')) i r (qq l k)/\LY (λj=>j=i) O w O (setBlock w r (.map a1 c')):=λa1 c' hb he=>
  ⟨⟨⟨a1,c',eY h1,he⟩,h.tag,λa9 c2 h2=>by rw[eY h1]at h2;cases h2;exact hb⟩,fy _ h.tag a8⟩
 have a2:(Nz #[T,U] ty #[.map (some r),kv k]).run P w=((match ((jA l k).bind λi=>(es.toList[i]?).map λe=>(i,e.val))with
   |some (i,_)=>do setObj r (.map (es.eraseIdxIfInBounds i) c);pure (.tuple #[])
   |none=>do setObj r (.map es c);pure (.tuple #[]):Sem L0)).run P w:=by
  simp only[Nz,List.getElem?_toArray,List.getElem?_cons_zero,List.getElem?_cons_succ,L7,run_underlying hT,L3];simp only[getObj,No,h1,L7,L3,hK.check es.isEmpty 9997 k w,hf];generalize ((jA l k).bind λi=>Pm (λe=>(i,e.val)) es.toList[i]?)=q
  cases q with
  |none=>rfl
  |some p=>rfl
 rw[a2,jB];have a0:∀a1,(do setObj r (.map a1 c);pure (.tuple #[]):Sem L0).run P w=.ok (.tuple #[]) (setBlock w r (.map a1 c)):=λa1=>by
  simp[setObj,No,h1,setBlock]
 cases hi:jA l k with
 |none=>
  refine⟨_,by simp only[PE];exact a0 es,?_⟩;have:=a5 es c a3 (by rw[jB,hi];exact h2);rw[jB,hi]at this;exact this
 |some j=>
  obtain⟨y,hy⟩:=iY hi;have a4:j<es.toList.length:=by
   have hl:=congrArg Qz h2;simp only[NK]at hl;have:=(ME.1 hy).1;omega
  refine⟨_,by simp only[PD,P3 a4,NC];exact a0 _,?_⟩
  have a7:j<es.size:=by simpa using a4
  have e1:(es.eraseIdxIfInBounds j).toList=es.toList.eraseIdx j:=by
   simp[Array.eraseIdxIfInBounds,a7]
  have:=a5 (es.eraseIdxIfInBounds j) c ⟨by
    rw[e1,MP,Nj,P2,Qj];have hs:(QL j (es.toList.map (·.born))++List.drop (j+1) (es.toList.map (·.born))).Sublist (es.toList.map (·.born)):=by
     rw[<-MP];exact Pe _ _
    exact hs.nodup a3.1,λe he=>a3.2 e (by rw[e1]at he;exact(Pe _ _).mem he)⟩ (by
   rw[jB,hi,e1]
   rw[map_eraseIdx,map_eraseIdx];exact (congrArg (λl=>l.eraseIdx j) h2))
  rw[jB,hi]at this;exact this
structure RangeO(kv:κ->L0)(vv:ν->L0)(O:Nat->Nat)(w:ln)(i j r q:Nat)(left:List (κ×ν))(cur:Option (κ×ν)):Prop where
 ex:∃es clock seen c0,w.heap[r]? = some (.map es clock)/\w.heap[q]? = some (.mapIter (some r) clock seen c0)/\clock<=c0/\(es.toList.map (·.born)).Nodup/\(∀e∈es.toList,e.born<clock)/\
  (leftOf es seen).toList.map (λe=>(e.key,e.val))=left.map (λp=>(kv p.1,vv p.2))/\∀p,cur=some p->∃(e:Mk) (s0:Array Nat),e∈es.toList/\seen=s0.push e.born/\c0=clock/\e.key=kv p.1/\e.val=vv p.2
 tag:O r=i
 tagq:O q=j
end
section
variable{κ ν:Type}{kv:κ→L0}{vv:ν→L0}
def RangeO.U{r:Nat}{left:List (κ×ν)}{a1:Option (κ×ν)}(h:RangeO kv vv O w i j r q left a1)(u:LY S O w O' w')(hi:i≠0)(hj:j≠0)(hS:¬S i)(a2:¬S j):RangeO kv vv O' w' i j r q left a1:=by
 obtain⟨es,c,a0,c0,h1,h2,h3⟩:=h.ex;exact⟨⟨es,c,a0,c0,by rw[u.blk r (bN h1) (by rw[h.tag];exact hS)];exact h1,by rw[u.blk q (bN h2) (by rw[h.tagq];exact a2)];exact h2,h3⟩,by rw[u.tag r (by rw[h.tag];exact hi),h.tag],by rw[u.tag q (by rw[h.tagq];exact hj),h.tagq]⟩
end
section
variable{κ ν:Type}[DecidableEq κ]{kv:κ→L0}{vv:ν→L0}
def yn{e:Mk}{a1 a0:List Mk}(hn:(es.map (·.born)).Nodup)(p:Mk->Bool)(h:es.filter p=a1++e::a0):es.filter (λx=>p x && !(x.born==e.born))=a1++a0:=by
 have h1:es.filter (λx=>p x && !(x.born==e.born))=(es.filter p).filter (λx=>!(x.born==e.born)):=by
  rw[List.filter_filter];congr 1;funext x;exact Bool.and_comm _ _
 have a2:((a1++e::a0).map (·.born)).Nodup:=by rw[<-h];exact((List.filter_sublist (p:=p) (l:=es)).map _).nodup hn
 rw[h1,h,PJ,List.filter_cons_of_neg (by simp)];simp only[Nj,Me]at a2;have hd:=PO.1 a2;congr 1
 ·refine Pz.2 λx hx=>?_
  have:=hd.2.2 x.born (P9.2 ⟨x,hx,rfl⟩) e.born (by simp);simpa using this
 refine Pz.2 λx hx=>?_
 have:=(List.nodup_cons.1 hd.2.1).1;simp only[Nw,beq_eq_false_iff_ne,ne_eq];intro hc;exact this (by rw[<-hc];exact P9.2 ⟨x,hx,rfl⟩)
def CM{β γ:Type}{f:α->γ}{g:β->γ}:∀ {l:List α} {m:List β} {a0 a1:List α} {e:α},l.map f=m.map g->l=a0++e::a1->∃pre' x suf',m=pre'++x::suf'/\f e=g x/\(a0++a1).map f=(pre'++suf').map g:=by
 intro l m a0
 induction a0 generalizing l m with
 |nil=>
  intro a1 e h hl;subst hl
  cases m with
  |nil=>simp at h
  |cons x m=>
   simp only[List.nil_append,Me,Nq]at h;exact⟨[],x,m,rfl,h.1,h.2⟩
 |cons a a0 ih=>
  intro a1 e h hl;subst hl
  cases m with
  |nil=>simp at h
  |cons x m=>
   simp only[PZ,Me,Nq]at h;obtain⟨p,y,s,rfl,h1,h2⟩:=ih h.2 rfl;exact⟨x::p,y,s,rfl,h1,by simp only[PZ,Me,h.1,h2]⟩
end
section
variable{κ ν:Type}[DecidableEq κ]{kv:κ→L0}{vv:ν→L0}
variable{P:Ml}{N:Nat}{ops:Array N4}{Q:NR→Q3→ln→Prop}{rest:List N4}{st:St}{w:ln}
variable{t:L8}{p:String}{e:Array P7}{d:Nat}{x y z:MK}
def WL.delete{T K E U:L8}{O:Nat->Nat}{i r:Nat}{l:List (κ×ν)}(hm:N5 kv vv O w i r l)(hT:P.underlying T=some (.map K E))(hK:QM P K kv)(a1:i≠0) 
  (k:κ) {kx:L0} (hx:ev st x=some (.map (some r))) (hy:ev st y=some kx) (hk:kx=kv k)
  (h:∀w',N5 kv vv O w' i r (qq l k)->LY (λj=>j=i) O w O w'->WL P N ops Q rest st w'):WL P N ops Q (⟨none,.call ⟨.builtin .delete,#[x,y],#[T,U]⟩,t,p,e,none⟩::rest) st w:=by
 subst hk;obtain⟨w',h1,h2,h3⟩:=pU (ty:=t) (U:=U) hT hK hm a1 k;refine Rf rfl λa ha=>?_
 unfold R5;have a0:(execOp a.eval ⟨none,.call ⟨.builtin .delete,#[x,y],#[T,U]⟩,t,p,e,none⟩).run P w=.ok (.value (.tuple #[])) w':=by
  simp only[execOp,resolve,invoke,builtin,L7,M9,L3,MB,Me,MM,ha.ev hx,ha.ev hy,h1]
 rw[a0];exact h w' h2 h3 _ ha
end
section
variable{κ ν:Type}{kv:κ→L0}{vv:ν→L0}
variable{P:Ml}{N:Nat}{ops:Array N4}{Q:NR→Q3→ln→Prop}{rest:List N4}{st:St}{w:ln}
variable{t:L8}{p:String}{e:Array P7}{d:Nat}{x y z:MK}
def pK{r:Nat}{l:List (κ×ν)}(hm:N5 kv vv O w i r l)(hT:P.underlying T=some (.map K E))(hR:N0 B O w)(j:Nat)(hj:j≠0)(_:i≠0)(hx:ev st x=some (.map (some r)))(hd:MD d N=true) 
  (h:∀q w' O',RangeO kv vv O' w' i j r q l none->N5 kv vv O' w' i r l->LY (λk=>k=j) O w O' w'->N0 B O' w'->WL P N ops Q rest ((d,nP q)::st) w'):WL P N ops Q (⟨some d,.range T x,t,p,e,none⟩::rest) st w:=by
 obtain⟨es,c,h1,h2⟩:=hm.blk;have a1:=hm.born es c h1;have a0:=bN h1;have hU:=NH (S:=λk=>k=j) (λe=>hj e.symm) hR (.mapIter (some r) c #[] c) j;refine Nu hd (λa ha=>by simp only[execOp,ha.ev hx,L7,run_range_map w _ _ _ _ _ _ hT h1,L3,M9]) (h w.heap.size _ (mq O w.heap.size j) ⟨⟨es,c,#[],c,?_,heap_alloc_new w _,L1 _,a1.1,a1.2,?_,λp hp=>by cases hp⟩,?_,eM _ _ _⟩ ⟨⟨es,c,?_,h2⟩,?_,λa2 c' h'=>hm.born a2 c' (by rw[heap_alloc_old w _ a0]at h';exact h')⟩ hU (hR.U hU))
 ·rw[heap_alloc_old w _ a0];exact h1
 ·unfold leftOf;have e1:es.filter (λe=>!(#[]:Array Nat).contains e.born)=es:=Array.filter_eq_self.2 (by simp);rw[e1];exact h2
 ·unfold mq;rw[am zo];exact hm.tag
 ·rw[heap_alloc_old w _ a0];exact h1
 unfold mq;rw[am zo];exact hm.tag
def rI{r:Nat}{left:List (κ×ν)}{b4:Option (κ×ν)}(hm:RangeO kv vv O w i j r q left b4)(b2:j≠0)(b3:i≠j)(hx:ev st x=some (nP q))(hd:MD d N=true) 
  (h0:left=[]->WL P N ops Q rest ((d,.tuple #[.bool false])::st) w)
  (h1:∀a' a b a8 w',left=a'++(a,b)::a8->RangeO kv vv O w' i j r q (a'++a8) (some (a,b))->LY (λk=>k=j) O w O w'->WL P N ops Q rest ((d,.tuple #[.bool true,kv a,vv b])::st) w'):WL P N ops Q (⟨some d,.next x false,t,p,e,none⟩::rest) st w:=by
 obtain⟨es,c,a0,c0,g1,g2,g3,g4,g5,g6,g7⟩:=hm.ex
 rcases Go.run_next_at (P:=P) w t q r c c0 a0 es c g2 g1 g5 g3 with⟨hs,a2⟩|⟨en,b0,w1,a5,a2⟩
 ·refine Nu hd (λa ha=>by simp only[execOp,ha.ev hx,L7,a2,L3,M9]) (h0 ?_);have h3:=congrArg Qz g6;simp only[NK,Pn,hs]at h3;exact Mj h3.symm
 obtain⟨a',a8,a6⟩:=List.append_of_mem b0;obtain⟨a9,⟨a,b⟩,a7,rfl,a4,a3⟩:=CM g6 a6;simp only[Rh]at a4;have a1:∀(a:Q3),R6 N a st->(execOp a.eval ⟨some d,.next x false,t,p,e,none⟩).run P w=.ok (.value (.tuple #[.bool true,en.key,en.val])) (setBlock w1 q (.mapIter (some r) c (a0.push en.born) c)):=λa ha=>by
  simp only[execOp,ha.ev hx,L7,a2,L3,M9]
 rw[a4.1,a4.2]at a1;have hw:w1.heap=w.heap:=by rcases a5 with rfl|rfl<;>rfl
 have b1:en∈es.toList:=by
  have:en∈(leftOf es a0):=by simpa using b0
  unfold leftOf at this;rw[Array.mem_filter]at this;simpa using this.1
 refine Nu hd a1 (h1 a9 a b a7 _ rfl ⟨⟨es,c,a0.push en.born,c,?_,eY (by rw[hw];exact g2),L1 _,g4,g5,?_,λp hp=>?_⟩,hm.tag,hm.tagq⟩ ?_)
 ·simp only[setBlock,NI];rw[am (λe=>b3 (by rw[<-hm.tag,<-hm.tagq,e])),hw];exact g1
 ·rw[<-a3];unfold leftOf at a6 ⊢;rw[Array.toList_filter]at a6 ⊢;rw[<-yn g4 _ a6];congr 2;funext x;simp;rfl
 ·cases hp
  exact⟨en,a0,b1,rfl,rfl,a4.1,a4.2⟩
 have hU:=fy (w:=w1) (.mapIter (some r) c (a0.push en.born) c) hm.tagq b2;exact⟨by rw[hU.os];rcases a5 with rfl|rfl<;>rfl,by rw[hU.tape];rcases a5 with rfl|rfl<;>rfl,by rw[hU.output];rcases a5 with rfl|rfl<;>rfl,by have:=hU.size;rw[hw]at this;exact this,λb hb hn=>by have:=hU.blk b (by rw[hw];exact hb) hn;rw[hw]at this;exact this,hU.tag,λb hb=>.inl hb,hU.z⟩
def RV.entry{O:Nat->Nat}{i j r q:Nat}{left:List (κ×ν)}{a:κ}{b:ν}(hm:RangeO kv vv O w i j r q left (some (a,b)))(hx:ev st x=some (nP q)):RV P N (.entry x) t st w (.tuple #[kv a,vv b]):=
 λac ha a1 p e g=>by
  obtain⟨es,c,a0,c0,g1,g2,g3,g4,g5,g6,g7⟩:=hm.ex;obtain⟨en,s0,e1,rfl,rfl,e2,e3⟩:=g7 _ rfl;simp only[execOp,ha.ev hx,L7,run_entry_at w q r c0 s0 es c0 en g2 g1 e1 g4,L3,M9,e2,e3]
end
abbrev eJ(p:Int×Int):L0:=.agg #[nI p.1,nI p.2]
def D1{I:L8}(hK:P.underlying K=some (.array 2 I))(hI:P.underlying I=some (.int .i64))(a3:(P.info? I).isSome=true)(hc:P.cellsOf I=1):QM P K eJ:=by
 obtain⟨i,hi⟩:=Option.isSome_iff_exists.1 a3;have hA:∀w,(isAgg I).run P w=.ok false w:=λw=>by simp[isAgg,run_underlying hI]
 have a0:∀(a b:Int) (w:ln),(part I #[nI a,nI b] 0).run P w=.ok (nI a) w/\(part I #[nI a,nI b] 1).run P w=.ok (nI b) w:=λa b w=>by
  constructor<;>simp[part,hA]
 have a5:∀b n k (w:ln),(NQ b (n+1) I (nI k)).run P w=.ok () w:=λb n k w=>by simp[NQ,run_underlying hI]
 have a4:∀(a b:Int×Int) (w:ln),(R9 K (eJ a) (eJ b)).run P w=.ok (decide (a=b)) w:=λa b w=>by
  have h1:∀d (x y:Int) (w:ln),(PW (d+1) I (nI x) (nI y)).run P w=.ok (x==y) w:=λd x y w=>by simp[PW,run_underlying hI]
  obtain⟨a1,a2⟩:=a;obtain⟨b1,b2⟩:=b;have h2:∀(x y:Int) (w:ln),(PW 9999 I (nI x) (nI y)).run P w=.ok (x==y) w:=λx y w=>h1 9998 x y w
  unfold R9 Op.maxDepth;rw[run_equalIn_array w 9999 _ _ hK hi,hc];simp only[show PH 2=[0,1]from rfl,Op.eqItems,L7,Pb,QG,(a0 a1 a2 w).1,(a0 b1 b2 w).1,h2,L3]
  by_cases e1:a1=b1
  ·by_cases e2:a2=b2
   ·subst e1;subst e2;simp[a0,h2]
   subst e1;simp[e2,a0,h2]
  simp[e1]
 refine⟨λb n k w=>?_,λk es ks w h=>?_,λk=>?_⟩
 ·obtain⟨k1,k2⟩:=k;unfold NQ;simp only[L7,run_underlying hK,L3];simp only[Qe,Qd,Qw,Nat.add_one_sub_one,Nat.div_one];simp[List.range',run_sizeOf w hi,hc,a0,a5]
 ·have key:∀(es:List Mk) (ks:List (Int×Int)) (j:Nat) (w:ln),es.map (·.key)=ks.map eJ->
    (Ny K (eJ k) es j).run P w=.ok ((ks.findIdx? (· = k)).bind λi=>(es[i]?).map λe=>(j+i,e.val)) w:=by
   intro es
   induction es with
   |nil=>intro ks j w h;cases ks with
    |nil=>simp[Ny]
    |cons a r=>simp at h
   |cons e es ih=>
    intro ks j w h
    cases ks with
    |nil=>simp at h
    |cons a r=>
     simp only[Me,Nq]at h;simp only[Ny,L7,h.1,a4,L3]
     by_cases hk:k=a
     ·subst hk;simp[MZ]
     rw[decide_eq_false hk];simp only[Bool.false_eq_true,if_false];rw[ih r (j+1) w h.2];simp only[MZ,decide_eq_true_eq];rw[am (λe=>hk e.symm)]
     cases hf:List.findIdx? (λx=>decide (x=k)) r with
     |none=>simp
     |some i=>simp[Qs,Qy 1]
  have:=key es ks 0 w h;simp only[Pc]at this;unfold Instr.findKey;simp only[L7,run_underlying hK,L3]
  cases es with
  |nil=>
   cases ks with
   |nil=>simp[Qh]
   |cons a r=>simp at h
  |cons e es=>simpa[Qh,Instr.sameNow]using this
 simp[Instr.sameBits]
section
variable{κ ν:Type}[DecidableEq κ]{kv:κ→L0}{vv:ν→L0}
def uS(es:Array Mk)(i:Nat)(f g h:Mk->Mk)(hf:∀x,g (f x)=h x):(es.modify i f).modify i g=es.modify i h:=by
 apply PB;intro j;simp only[MQ]
 by_cases hj:i=j
 ·simp only[ap hj];cases es[j]?<;>simp[hf]
 simp only[am hj]
def xI(es:Array Mk)(a:Mk)(f:Mk->Mk):(es.push a).modify es.size f=es.push (f a):=by
 apply PB;intro j;simp only[MQ,Array.getElem?_push]
 by_cases hj:j=es.size
 ·subst hj;simp
 rw[am (λe=>hj e.symm),am hj,am hj]
def mY{e:Mk}(hn:(es.map (·.born)).Nodup)(he:es[j]? = some e):es.findIdx? (λx=>(x.born:Int)==(e.born:Int))=some j:=by
 obtain⟨hj,rfl⟩:=ME.1 he;rw[MJ];refine⟨hj,by simp,λi hi=>?_⟩;have:=(List.pairwise_iff_getElem.1 hn) i j (by simp;omega) (by simpa using hj) hi;simp only[List.getElem_map]at this;simp;omega
def Ax(hT:P.underlying T=some (.map K E))(hK:QM P K kv){r:Nat}{l:List (κ×ν)}(h:N5 kv vv O w i r l)(a7:i≠0)(hz:(NT E).run P w=.ok z w)(k:κ)(x:ν):
  ∃(w1 w':ln) (v:L0) (b:Int),(NP T (.map (some r)) (kv k)).run P w=.ok (.tuple #[v,nI b]) w1/\(N8 T (.map (some r)) (nI b) (vv x)).run P w1=.ok () w'/\N5 kv vv O w' i r (dc l k x)/\LY (λj=>j=i) O w O w'/\LY (λj=>j=i) O w O w1:=by
 obtain⟨es,c,h1,h2⟩:=h.blk;have a9:=h.born es c h1;have hr:=bN h1;have b4:es.toList.map (·.key)=(l.map (·.1)).map kv:=by
  have:=congrArg (QT Qf) h2;simpa[Pg]using this
 have hf:=hK.find k es.toList (l.map (·.1)) w b4;rw[eL]at hf;have hc:=hK.check false 9997 k w;obtain⟨wm,a3,hm,hu⟩:=eA hT hK h a7 k x
 have a1:(Q0 T (.map (some r)) (kv k) (vv x)).run P w=((match ((jA l k).bind λi=>(es.toList[i]?).map λe=>(i,e.val))with
   |some (i,_)=>do
    let key <-MX (((es[i]?).map (·.key)).getD (kv k)) (kv k)
    setObj r (.map (es.modify i λe=>{ e with key,val:=vv x }) c)
   |none=>setObj r (.map (es.push { key:=kv k,val:=vv x,born:=c }) (c+1)):Sem Unit)).run P w:=by
  simp only[Q0,L7,run_underlying hT,L3];simp only[getObj,No,h1,L7,L3,hc,hf];generalize ((jA l k).bind λi=>Pm (λe=>(i,e.val)) es.toList[i]?)=q
  cases q with
  |none=>rfl
  |some p=>rfl
 have a0:(NP T (.map (some r)) (kv k)).run P w=((match ((jA l k).bind λi=>(es.toList[i]?).map λe=>(i,e.val))with
   |some (i,v)=>do
    let key <-MX (((es[i]?).map (·.key)).getD (kv k)) (kv k)
    setObj r (.map (es.modify i λe=>{ e with key }) c)
    pure (.tuple #[v,goInt (((es[i]?).map (·.born)).getD 0)])
   |none=>do
    let zero <-NT E
    setObj r (.map (es.push { key:=kv k,val:=zero,born:=c }) (c+1))
    pure (.tuple #[zero,goInt c]):Sem L0)).run P w:=by
  simp only[NP,L7,run_underlying hT,L3];simp only[getObj,No,h1,L7,L3,hc,hf];generalize ((jA l k).bind λi=>Pm (λe=>(i,e.val)) es.toList[i]?)=q
  cases q with
  |none=>rfl
  |some p=>rfl
 have a2:∀(a':Array Mk) (c':Nat) (w0:ln),(∃e0 k0,w0.heap[r]? = some (.map e0 k0))->(setObj r (.map a' c')).run P w0=.ok () (setBlock w0 r (.map a' c')):=λa' c' w0 h0=>by
  obtain⟨e0,k0,hq⟩:=h0;simp[setObj,No,hq,setBlock]
 have a6:∃e0 k0,w.heap[r]? = some (.map e0 k0):=⟨es,c,h1⟩
 have b0:∀(a:Array Mk) (q:Mk->Bool),a.findIdx? q=a.toList.findIdx? q:=λa q=>by cases a;simp
 have a4:∀o o',setBlock (setBlock w r o) r o'=setBlock w r o':=λo o'=>by simp[setBlock]
 cases hi:jA l k with
 |none=>
  rw[hi]at a1 a0;simp only[PE]at a1 a0;rw[a2 _ _ _ a6]at a1;simp only[L7,hz,L3,a2 _ _ _ a6,M9]at a0;have he:wm=setBlock w r (.map (es.push { key:=kv k,val:=vv x,born:=c }) (c+1)):=by rw[a1]at a3;cases a3;rfl
  refine⟨_,wm,z,c,a0,?_,hm,hu,fy _ h.tag a7⟩;have a5:(setBlock w r (.map (es.push { key:=kv k,val:=z,born:=c }) (c+1))).heap[r]? = some (.map (es.push { key:=kv k,val:=z,born:=c }) (c+1)):=eY h1;have a8:(es.push { key:=kv k,val:=z,born:=c }).findIdx? (λe=>(e.born:Int)==(c:Int))=some es.size:=by
   have b5:((es.push { key:=kv k,val:=z,born:=c }).toList.map (·.born)).Nodup:=by
    simp only[Array.toList_push,Nj,Me,MM];refine PO.2 ⟨a9.1,by simp,λa ha b hb=>?_⟩;obtain⟨e,he,rfl⟩:=P9.1 ha;have:=a9.2 e he;simp at hb;omega
   have:=mY (j:=es.size) (e:={ key:=kv k,val:=z,born:=c }) b5 (by simp);rw[b0,<-this]
  simp only[N8,getObj,No,L7,a5,L3,asInt,asIntOf,M9,a8];rw[xI,he];have:=a2 (es.push { key:=kv k,val:=vv x,born:=c }) (c+1) (setBlock w r (.map (es.push { key:=kv k,val:=z,born:=c }) (c+1))) ⟨_,_,a5⟩;rw[a4]at this;exact this
 |some j=>
  obtain⟨y,hy⟩:=iY hi;have hj:es.toList[j]?.map (λe=>(e.key,e.val))=some (kv k,vv y):=by
   have:=congrArg (λl=>l[j]?) h2;simpa[hy]using this
  cases he:es.toList[j]? with
  |none=>rw[he]at hj;simp at hj
  |some e'=>
   rw[he]at hj;simp at hj;have b1:es[j]? = some e':=by simpa using he
   have b2:(MX (kv k) (kv k))=pure (kv k):=by simp[MX,hK.same k]
   rw[hi]at a1 a0;simp only[PD,he,NC,b1,hj.1,Option.getD_some,b2,L7,M9,L3,a2 _ _ _ a6]at a1 a0;have hw:wm=setBlock w r (.map (es.modify j λe=>{ e with key:=kv k,val:=vv x }) c):=by rw[a1]at a3;cases a3;rfl
   refine⟨_,wm,e'.val,e'.born,a0,?_,hm,hu,fy _ h.tag a7⟩;have a5:(setBlock w r (.map (es.modify j λe=>{ e with key:=kv k }) c)).heap[r]? = some (.map (es.modify j λe=>{ e with key:=kv k }) c):=eY h1;have b3:((es.modify j λe=>{ e with key:=kv k }).toList.map (·.born))=es.toList.map (·.born):=by
    simp only[Array.toList_modify];apply List.ext_getElem?;intro m;simp only[List.getElem?_map,List.getElem?_modify]
    split
    ·cases es.toList[m]?<;>simp
    cases es.toList[m]?<;>simp
   have a8:(es.modify j λe=>{ e with key:=kv k }).findIdx? (λe=>(e.born:Int)==(e'.born:Int))=some j:=by
    have:=mY (es:=(es.modify j λe=>{ e with key:=kv k }).toList) (j:=j) (e:={ e' with key:=kv k }) (by rw[b3];exact a9.1) (by
     have:(es.modify j λe=>{ e with key:=kv k })[j]? = some { e' with key:=kv k }:=by
      rw[MQ,ap rfl,b1];rfl
     rw[Array.getElem?_toList];exact this)
    rw[b0,<-this]
   simp only[N8,getObj,No,L7,a5,L3,asInt,asIntOf,M9,a8];rw[uS es j _ _ (λe=>{ e with key:=kv k,val:=vv x }) (λ_=>rfl),hw];have:=a2 (es.modify j λe=>{ e with key:=kv k,val:=vv x }) c (setBlock w r (.map (es.modify j λe=>{ e with key:=kv k }) c)) ⟨_,_,a5⟩;rw[a4]at this;exact this
variable{P:Ml}{N:Nat}{ops:Array N4}{Q:NR→Q3→ln→Prop}{rest:List N4}{st:St}{w:ln}
variable{t t' t2:L8}{p p' p2:String}{e e' e2:Array P7}{d d':Nat}{x y z:MK}
end
def Lw[DecidableEq κ](P:Ml)(kv:κ->L0)(vv:ν->L0)(T:L8)(O:Nat->Nat)(w w1:ln)(i r:Nat)(l:List (κ×ν))(k:κ)(u:ν)(b:Int):Prop:=
 ∃w',(N8 T (.map (some r)) (nI b) (vv u)).run P w1=.ok () w'/\N5 kv vv O w' i r (dc l k u)/\LY (λj=>j=i) O w O w'
section
variable{κ ν:Type}[DecidableEq κ]{kv:κ→L0}{vv:ν→L0}
variable{P:Ml}{N:Nat}{ops:Array N4}{Q:NR→Q3→ln→Prop}{rest:List N4}{st:St}{w:ln}
variable{t:L8}{p:String}{e:Array P7}{d:Nat}{x y z:MK}
def nj{r:Nat}{l:List (κ×ν)}(hm:N5 kv vv O w i r l)(hT:P.underlying T=some (.map K E))(hK:QM P K kv)(a0:i≠0){zv:L0}(hz:(NT E).run P w=.ok zv w) 
  (k:κ) (u:ν) {kx:L0} (hx:ev st x=some (.map (some r))) (hy:ev st y=some kx) (hk:kx=kv k) (hd:MD d N=true)
  (h:∀w1 c b,Lw P kv vv T O w w1 i r l k u b->LY (λj=>j=i) O w O w1->WL P N ops Q rest ((d,.tuple #[c,nI b])::st) w1):WL P N ops Q (⟨some d,.mapEntry T x y,t,p,e,none⟩::rest) st w:=by
 subst hk;obtain⟨w1,w',v,b,h1,h2,h3,h4,h5⟩:=Ax hT hK hm a0 hz k u;exact Nu hd (λa ha=>by simp only[execOp,ha.ev hx,ha.ev hy,L7,h1,L3,M9]) (h w1 v b ⟨w',h2,h3,h4⟩ h5)
def jS{r:Nat}{l:List (κ×ν)}{k:κ}{u:ν}{b:Int}(hE:Lw P kv vv T O w0 w i r l k u b){ux:L0}(hx:ev st x=some (.map (some r)))(hy:ev st y=some (nI b))(hz:ev st z=some ux)(hu:ux=vv u) 
  (h:∀w',N5 kv vv O w' i r (dc l k u)->LY (λj=>j=i) O w0 O w'->WL P N ops Q rest st w'):WL P N ops Q (⟨none,.entryStore T x y z,t,p,e,none⟩::rest) st w:=by
 subst hu;obtain⟨w',h2,h3,h4⟩:=hE;exact iZ (λa ha=>by simp only[execOp,ha.ev hx,ha.ev hy,ha.ev hz,L7,h2,L3,M9]) (h w' h3 h4)
end
def sX{α:Type}{enc:α->List L0}{sz:Nat}:∀(l:List α),(∀x∈l,(enc x).length=sz)->∀(n:Nat) (hn:n<l.length) (j:Nat),j<sz->∀(x':α) (u:L0),enc x'=(enc l[n]).set j u->(l.flatMap enc).set (n*sz+j) u=(l.set n x').flatMap enc
 |a::l,hz,0,_,j,hj,x',u,hx=>by
  have ha:=hz a (by simp);simp only[PQ,PF,Pb,Pc];rw[List.set_append_left _ _ zo,hx];rfl
 |a::l,hz,n+1,hn,j,hj,x',u,hx=>by
  have ha:=hz a (by simp);simp only[PQ,List.set_cons_succ];rw[Pd _ _ (by rw[ha,QH];omega),show(n+1)*sz+j-(enc a).length=n*sz+j from by rw[ha,QH];omega];rw[sX l (λy hy=>hz y (by simp[hy])) n (by simpa using hn) j hj x' u (by simpa using hx)]
def RowT.putJ[Inhabited α]{l:List α}(h:MC enc E sz O w i v l)(hn:n<l.length)(hj:j<sz)(x':α)(u:L0)(hx:enc x'=(enc (nth l n)).set j u):
  ∃g c,(adr v sz n).add j=⟨g,n*sz+j,none⟩/\w.cell? ⟨g,n*sz+j,none⟩=some c/\w.frozen? ⟨g,n*sz+j,none⟩=false/\MC enc E sz O (w.setCell ⟨g,n*sz+j,none⟩ u) i v (l.set n x')/\O g=i:=by
 rw[aD hn]at hx;have a2:=h.2 l[n] (NF hn);have a5:(enc x').length=sz:=by rw[hx,M1,a2]
 have a3:∃c,(enc l[n])[j]? = some c:=⟨_,P3 zo⟩
 obtain⟨c,a3⟩:=a3;have a0:=h.sl.cells n hn j c a3;obtain⟨⟨⟨hl,hr⟩,a1⟩,hz⟩:=h
 rcases hr with⟨rfl,h0⟩|⟨g,a4,a',rfl,a9,hg,a6,a8,a7,ht⟩
 ·omega
 have ha:(adr (.slice (some ⟨g,0,none⟩) l.length a4) sz n).add j=⟨g,n*sz+j,none⟩:=by simp only[adr,Na];split<;>simp_all
 rw[ha]at a0;refine⟨g,c,ha,a0,by simp[Qc,hg],⟨⟨⟨?_,.inr ⟨g,a4,a'.setIfInBounds (n*sz+j) u,by simp,a9,?_,by simpa using a6,a8,by simpa using a7,?_⟩⟩,by simpa using a1⟩,?_⟩,a1 g rfl⟩
 ·rw[<-sX l hz n hn j hj x' u hx];simp[hl]
 ·simp only[M7,MQ,ap];rw[hg];simp
 ·simp only[M1,Array.toList_setIfInBounds];rw[List.take_set,ht,sX l hz n hn j hj x' u hx]
 intro y hy
 rcases List.mem_or_eq_of_mem_set hy with hy|rfl
 ·exact hz y hy
 exact a5
def pJ{ops:Array N4}{a0:List N4}{st:St}{p:String}{e:Array P7} 
    [Inhabited α]       {l:List α} (hr:MC enc E sz O w i v l) (n:Nat) (hn:n<l.length) (j:Nat) (hj:j<sz) (x':α) (hT:(Qi T).run P w=.ok 1 w) {u:L0} (h1:u.oneCell'=true) (a4:i≠0)
  {q:Ql} (hx:ev st x=some (.pointer (some q))) (hq:q=(adr v sz n).add j) (hy:ev st y=some u) (a2:enc x'=(enc (nth l n)).set j u)
  (h:∀w',MC enc E sz O w' i v (l.set n x')->LY (λk=>k=i) O w O w'->WL P N ops Q a0 st w'):WL P N ops Q (⟨none,.store T x y,t,p,e,none⟩::a0) st w:=by
 obtain⟨g,c,ha,hc,hf,a3,ht⟩:=hr.putJ hn hj x' u a2;rw[ha]at hq;subst hq;refine iZ (w':=w.setCell ⟨g,n*sz+j,none⟩ u) (λa a1=>?_) (h _ a3 ⟨rfl,rfl,rfl,by simp[M7],λk _ hk=>QC _ _ _ _ (λe=>hk (by rw[e];exact ht)),λ_ _=>rfl,λ_ h=>.inl h,λh=>a4 h.symm⟩);simp only[execOp,a1.ev hx,a1.ev hy]
 cases u<;>simp[M5]at h1<;>simp[NY,Qa,storeVar,hT,Qq,storeCells,store,No,hc,hf,Na]
def Fits.fresh{a:Q3}{st:St}(hn:(cV st d).isNone=true)(h:R6 N a ((d,v)::st)):R6 N a st:=by
 refine⟨h.size,h.defers,λt u hu=>h.get t u ?_⟩;simp only[cV]
 cases hb:NS d t with
 |true=>have:=Nn hb;subst this;rw[hu]at hn;cases hn
 |false=>exact hu
def Fits.swap{a:Q3}{v':L0}{st:St}(a0:NS d d'=false)(h:R6 N a ((d,v)::(d',v')::st)):R6 N a ((d',v')::(d,v)::st):=by
 refine⟨h.size,h.defers,λt u hu=>h.get t u ?_⟩;simp only[cV]at hu ⊢
 cases h1:NS d t with
 |true=>
  have:=Nn h1;subst this;have h2:NS d' d=false:=by
   cases h3:NS d' d with
   |false=>rfl
   |true=>have:=Nn h3;subst this;rw[a0]at h1;cases h1
  rw[h1,h2]at hu;exact hu
 |false=>
  rw[h1]at hu;exact hu
def cG{ops:Array N4}{S:ln->Prop}{a1:Nat}{a0:Array Bool}{st:St} 
  {T1:L8} {a2:Nat}    {t':L8} {p p':String} {e e':Array P7}  
  (i j:Nat) (he:PA P T E sz a2) (u:α) (hi:ops[i]? = some ⟨some d,.load T1 x,t,p,e,none⟩) (hj:ops[j]? = some ⟨some d',.buildSlice T 1 #[(0,y)],t',p',e',none⟩)
  (hr:P1 .any ops a0=[i,j]) (a':P1 .any ops (a0.setIfInBounds i true)=[j]) (a9:P1 .any ops (a0.setIfInBounds j true)=[i])
  (a4:(a0.setIfInBounds j true).setIfInBounds i true=(a0.setIfInBounds i true).setIfInBounds j true)
  (hv:∀w',MG w w'->RV P N (.load T1 x) t st w' v) (hS:∀w',MG w w'->S w')
  (hy:ev st y=some xv) (a5:xv.cells.toList=enc u) (a6:(enc u).length=sz) (hs:sz<=16777216) (hd:MD d N=true) (a7:MD d' N=true) (b0:NS d d'=false) (hf:(cV st d').isNone=true) (a8:ev ((d,v)::st) y=some xv)
  (h:∀sv w',Sl enc sz w' sv [u]->MG w w'->WH P N ops S Q a1 ((a0.setIfInBounds i true).setIfInBounds j true) ((d',sv)::(d,v)::st) w'):WH P N ops S Q (a1+2) a0 st w:=by
 refine bK i j hr hi hj ?_ ?_
 ·refine aE (hv w (M8 w)) hd (Pj (af (hS w (M8 w)) (Mf j a' hj ?_)));refine cK he u a8 a5 a6 hs a7 λsv w' a3 hE=>Pj (af (hS w' hE) (h sv w' a3 hE))
 refine cK he u hy a5 a6 hs a7 λsv w' a3 hE=>Pj (af (hS w' hE) (Mf i a9 hi ?_))
 refine aE (λa ha=>hv w' hE a (ha.fresh hf)) hd (Pj (af (hS w' hE) ?_));rw[a4];exact λa ha=>h sv w' a3 hE a (ha.swap b0)
def bH{st:St}{m:Nat}(hs:Shape v m)(hu:P.underlying T=some (.slice E))(hx:ev st x=some v):RV P N (.call ⟨.builtin .len,#[x],#[T]⟩) t st w (nI (m:Int)):=
 λa ha a0 p e g=>by
  obtain⟨ad,c,hv,_⟩:=hs;simp only[execOp,resolve,MB,Me,MM,ha.ev hx];subst hv;simp[invoke,Go.builtin,Rm,run_underlying hu,goInt]
def ox{ty:L8}{a0:Nat}(he:PA P T E sz a0){xs:List L0}(a1:RowO O w i E sz v n xs)(a:Option Ql)(c:Nat):
  (NA #[T,T] ty #[v,.slice a 0 c]).run P w=.ok v w:=by
 obtain⟨a4,z,hi,hz,a6,a9,a5⟩:=he.parts;have ht:=he.ht
 rcases a1.row.2 with⟨rfl,rfl⟩|⟨g,b0,a',rfl,hbg,hg,a3,a8,a7,a2⟩
 ·cases a<;>simp[NA,run_underlying ht,Qi,typeInfo,hi,Q2,Pi,loadCells,loadCellsFrom]
 cases a<;>simp[NA,run_underlying ht,Qi,typeInfo,hi,Q2,Pi,loadCells,loadCellsFrom,a3,storeCells]
def aL{ops:Array N4}{st:St}{p:String}{e:Array P7} 
   {a0:Nat} (he:PA P T E sz a0)       {l us:List α} (hr:MC enc E sz O w i v l) (r:N0 B O w) (hs:Sl enc sz w sv us)
  (hx:ev st x=some v) (hy:ev st y=some sv) (a4:∀u∈us,(enc u).length=sz) (a5:∀u∈us,∀c∈enc u,c.oneCell'=true)
  (hb:(l.length+us.length)*a0<=140737488355328) (a6:l.length+us.length<=9223372036854775807) (a3:i≠0) (hd:MD d N=true)
  (h:∀v' w' O',MC enc E sz O' w' i v' (l++us)->LY (λk=>k=i) O w O' w'->N0 B O' w'->WL P N ops Q a1 ((d,v')::st) w') :
  WL P N ops Q (⟨some d,.call ⟨.builtin .append,#[x,y],#[T,T]⟩,t,p,e,none⟩::a1) st w:=by
 by_cases a2:us.length=0
 ·obtain rfl:=Mj a2;obtain⟨a,c,rfl,_⟩:=hs.shape;refine Nu (v:=v) (w':=w) hd (λac ha=>?_) (h v w O (by rw[Nk];exact hr) (MH (λe=>a3 e.symm) _ _) r);simp only[execOp,resolve,invoke,builtin,L7,M9,L3,MB,Me,MM,ha.ev hx,ha.ev hy,NJ,ox he hr.1]
 exact aF he hr r hs a2 hx hy a4 a5 hb a6 a3 hd h
def MapO.fgt{kv:κ->L0}{vv:ν->L0}{i' r:Nat}{l:List (κ×ν)}(h:N5 kv vv O2 w i r l)(ho:O r=i'):N5 kv vv O w i' r l:=⟨h.blk,ho,h.born⟩
def bD(kv:κ->L0)(vv:ν->L0){ops:Array N4}{a0:List N4}{st:St}{p:String}{e:Array P7} 
    (r:N0 B O w) (i:Nat) (a1:i≠0) (hd:MD d N=true)
  (h:∀q w' O',N5 kv vv O' w' i q []->LY (λk=>k=i) O w O' w'->N0 B O' w'->WL P N ops Q a0 ((d,.map (some q))::st) w'):WL P N ops Q (⟨some d,.makeMap T none,t,p,e,none⟩::a0) st w:=by
 have hU:=NH (S:=λk=>k=i) (λe=>a1 e.symm) r (.map #[] 0) i;exact WL.makeMap hd (h w.heap.size _ (mq O w.heap.size i) (MapO.new O w i) hU (r.U hU))
def Ag{α:Type}{val:α->L0}{O:Nat->Nat}{i g a1:Nat}{E:L8}(z:α)(a0:i≠0):∀(k n:Nat) (l:List α) (w:ln) (m:Nat),MC (λx=>[val x]) E 1 O w i (.slice (some ⟨g,0,none⟩) m a1) l->n+k=l.length->
  MC (λx=>[val x]) E 1 O (w.setCells g n (Mo k (val z))) i (.slice (some ⟨g,0,none⟩) m a1) (l.take n++Mo k z)/\LY (λj=>j=i) O w O (w.setCells g n (Mo k (val z)))
 |0,n,l,w,m,h,hn=>by
  simp only[Pv,Nk,Q6];rw[List.take_of_length_le zo];exact⟨h,MH (λe=>a0 e.symm) _ _⟩
 |k+1,n,l,w,m,h,hn=>by
  have ha:adr (.slice (some ⟨g,0,none⟩) m a1) 1 n=⟨g,n,none⟩:=by simp[adr]
  obtain⟨hc,hf,hr,ht⟩:=h.put (n:=n) zo z;rw[ha]at hr ht;simp only[Pw,Q6];obtain⟨h1,h2⟩:=Ag z a0 k (n+1) (l.set n z) (w.setCell ⟨g,n,none⟩ (val z)) m hr (by simp;omega);have e:(l.set n z).take (n+1)++Mo k z=l.take n++z::Mo k z:=by
   have hl:n<(l.set n z).length:=by simp;omega
   rw[List.take_succ_eq_append_getElem hl,List.getElem_set_self,List.take_set_of_le (L1 n)];simp
  rw[e]at h1;have u1:LY (λj=>j=i) O w O (w.setCell ⟨g,n,none⟩ (val z)):=Mi (λe=>a0 e.symm) ht rfl;exact⟨h1,u1.J h2⟩
def RowT.short{l:List α}(h:MC (λx=>[val x]) E 1 O w i v l)(hn:n<=l.length):MC (λx=>[val x]) E 1 O w i (dk v 1 0 n) (l.take n):=by
 have a3:∀l:List α,(l.flatMap λx=>[val x])=l.map val:=λl=>by induction l<;>simp_all
 obtain⟨⟨⟨hl,hr⟩,a1⟩,hz⟩:=h
 rcases hr with⟨rfl,h0⟩|⟨g,a2,a8,rfl,a7,hg,a9,a6,a5,ht⟩
 ·obtain rfl:l=[]:=Mj h0;obtain rfl:n=0:=by simpa using hn
  exact MT _ _ _ _ _ _
 have e:dk (.slice (some ⟨g,0,none⟩) l.length a2) 1 0 n=.slice (some ⟨g,0,none⟩) n a2:=by
  simp only[dk,Pb,Qw]
  split<;>simp[Na]
 have a0:(l.take n).length=n:=by simp;omega
 rw[e];refine⟨⟨⟨?_,.inr ⟨g,a2,a8,by rw[a0],a7,hg,by rw[a0];omega,a6,a5,?_⟩⟩,λg' a4=>a1 g' a4⟩,λx _=>rfl⟩
 ·rw[a3];simp
 rw[a3]at ht ⊢;rw[a0];have:=congrArg (QL n) ht;rw[Qg,<-P2]at this;simpa[Nat.min_eq_left hn]using this
def vU{ops:Array N4}{a5:List N4}{st:St}{p:String}{e:Array P7} 
        {l:List α} (hr:MC (λx=>[val x]) E 1 O w i v l) (n:Nat) (hn:n<=l.length) (z:α) (a8:i≠0) (hT:P.underlying T=some (.slice E)) (hz:∀w,(NT E).run P w=.ok (val z) w) (a9:(val z).cells = #[val z]) (h1:(val z).oneCell'=true)
   (hx:ev st x=some sv) (b0:sv=dk v 1 n l.length)
  (h:∀w' l',MC (λx=>[val x]) E 1 O w' i v l'->l'.take n=l.take n->l'.length=l.length->LY (λj=>j=i) O w O w'->WL P N ops Q a5 st w'):WL P N ops Q (⟨none,.call ⟨.builtin .clear,#[x],#[T]⟩,t,p,e,none⟩::a5) st w:=by
 subst b0;have a7:=hr;have a0:∃w' l',(PS #[T] t #[dk v 1 n l.length]).run P w=.ok (.tuple #[]) w'/\MC (λx=>[val x]) E 1 O w' i v l'/\l'.take n=l.take n/\l'.length=l.length/\LY (λj=>j=i) O w O w':=by
  by_cases he:n=l.length
  ·subst he;obtain⟨a,c,rfl,_⟩:=hr.sl.shape;refine⟨w,l,?_,hr,rfl,rfl,MH (λe=>a8 e.symm) _ _⟩;simp only[dk,MW];generalize (if c=l.length then a else a.map λx=>x.add (l.length*1))=q
   cases q<;>simp[PS,run_underlying hT]
  obtain⟨⟨⟨hl,b1⟩,a'⟩,b3⟩:=hr
  rcases b1 with⟨rfl,h0⟩|⟨g,a6,b8,rfl,b7,hg,b4,b6,b5,ht⟩
  ·omega
  obtain⟨k,hk⟩:∃k,n+k=l.length:=⟨l.length-n,zo⟩
  obtain⟨c1,c2⟩:=Ag z a8 k n l w l.length a7 hk;refine⟨_,_,?_,c1,?_,by simp;omega,c2⟩
  ·have es:dk (.slice (some ⟨g,0,none⟩) l.length a6) 1 n l.length=.slice (some ⟨g,n,none⟩) k (a6-n):=by
    simp only[dk];rw[am zo,show l.length-n=k from by omega];simp only[NC,Na,Nat.mul_one]
    split
    ·rename_i h;simp[h]
    simp
   rw[es];refine Lib.run_clear_slice w T E t (val z) hT hz a9 h1 g n k (a6-n) zo (λj hj=>?_) (λj hj=>by simp[Qc,hg]);have:=a7.sl.cells (n+j) zo 0 (val l[n+j]) rfl;rw[ax]at this;have ha:adr (.slice (some ⟨g,0,none⟩) l.length a6) 1 (n+j)=⟨g,n+j,none⟩:=by simp[adr]
   rw[ha]at this;rw[this];rfl
  rw[List.take_append_of_le_length (by simp;omega),Qg,Nat.min_self]
 obtain⟨w',l',a0,a1,a2,a3,a4⟩:=a0;refine Rf rfl λa ha=>?_
 unfold R5;have b2:(execOp a.eval ⟨none,.call ⟨.builtin .clear,#[x],#[T]⟩,t,p,e,none⟩).run P w=.ok (.value (.tuple #[])) w':=by
  simp only[execOp,resolve,invoke,builtin,L7,M9,L3,MB,Me,MM,ha.ev hx,a0]
 rw[b2];exact h w' l' a1 a2 a3 a4 _ ha
end
end Go.VL
section
namespace Go.VL
def Upd.priv{T:Nat}(h:LY (λk=>k=j\/T<=k) O w O' w')(hT:∀b,O b<T)(hj:j≠0):LY (λk=>k=j) O w O w':=
 h.fgt (λb hb=>hb.resolve_right (by have:=hT b;omega)) (λe=>hj e.symm)
def Upd.pj{T:Nat}(h:LY (λk=>k=j) O w O' w')(hT:0<T):LY (λk=>k=j\/T<=k) O w O' w':=
 h.mono (λ_ h=>.inl h) (λe=>by rcases e with e|e;exact h.z e;omega)
def Upd.pT{T U:Nat}(h:LY (λk=>k=U) O w O' w')(hj:j≠0)(hT:0<T)(hU:T<=U):LY (λk=>k=j\/T<=k) O w O' w':=
 h.mono (λ_ h=>.inr (by rw[h];exact hU)) (λe=>by rcases e with e|e;exact hj e.symm;omega)
def jT{T:Nat}(O:Nat->Nat)(h:MG w w')(hj:j≠0)(hT:0<T):LY (λk=>k=j\/T<=k) O w O w':=
 ae (λe=>by rcases e with e|e;exact hj e.symm;omega) O h
def rdr(kv:L0)(l:List UInt8)(a op a0 e:Int):Array L0:=#[.string (bs l),nI a,kv,nI op,nI a0,nI e]
variable{kv:L0}
def BlkO.rAt(h:Mu O w j rb (rdr kv l a op a0 e) E)(a':Int):Mu O (w.setCell ⟨rb,1,none⟩ (nI a')) j rb (rdr kv l a' op a0 e) E:=h.set 1 _
def BlkO.rOp(h:Mu O w j rb (rdr kv l a op a0 e) E)(a':Int):Mu O (w.setCell ⟨rb,3,none⟩ (nI a')) j rb (rdr kv l a a' a0 e) E:=h.set 3 _
def BlkO.rBad(h:Mu O w j rb (rdr kv l a op a0 e) E)(a':Int):Mu O (w.setCell ⟨rb,4,none⟩ (nI a')) j rb (rdr kv l a op a' e) E:=h.set 4 _
def BlkO.rE(h:Mu O w j rb (rdr kv l a op a0 e) E)(a':Int):Mu O (w.setCell ⟨rb,5,none⟩ (nI a')) j rb (rdr kv l a op a0 a') E:=h.set 5 _
def BlkO.r0(h:Mu O w j rb (rdr kv l a op a0 e) E):w.cell? ⟨rb,0,none⟩=some (.string (bs l)):=h.cell 0 rfl
def BlkO.r1(h:Mu O w j rb (rdr kv l a op a0 e) E):w.cell? ⟨rb,1,none⟩=some (nI a):=h.cell 1 rfl
def BlkO.r2(h:Mu O w j rb (rdr kv l a op a0 e) E):w.cell? ⟨rb,2,none⟩=some kv:=h.cell 2 rfl
def BlkO.r3(h:Mu O w j rb (rdr kv l a op a0 e) E):w.cell? ⟨rb,3,none⟩=some (nI op):=h.cell 3 rfl
def BlkO.r4(h:Mu O w j rb (rdr kv l a op a0 e) E):w.cell? ⟨rb,4,none⟩=some (nI a0):=h.cell 4 rfl
def BlkO.r5(h:Mu O w j rb (rdr kv l a op a0 e) E):w.cell? ⟨rb,5,none⟩=some (nI e):=h.cell 5 rfl
end Go.VL
namespace Go.Proofs.YteolbhblkgjbhaaGreatDoor
open Go.VL Go.Proofs
set_option maxRecDepth 10000
abbrev Rdr(kv:L0)(O:Nat->Nat)(w:ln)(j rb:Nat)(l:List UInt8)(a op a0 e:Int):Prop:=Mu O w j rb (rdr kv l a op a0 e) 250
variable{kv:L0}
def oh{r:List UInt8}{b:UInt8}(h:(b::r) <:+ l):l[l.length-(r.length+1)]? = some b:=by
 obtain⟨p,rfl⟩:=h;rw[List.getElem?_append_right (by simp)];simp
def BY{a b:List UInt8}(h:(a++b) <:+ l):(l.take (l.length-b.length)).drop (l.length-(a++b).length)=a:=by
 obtain⟨p,rfl⟩:=h;rw[<-N6,List.take_left' (by simp;omega),List.drop_left' (by simp)]
def fH(b:UInt8)(k:Nat)(hk:k<256):((b.toNat:Int)==(k:Int))=decide (b=Mz k):=by
 by_cases h:b=Mz k
 ·subst h;simp;omega
 have:b.toNat≠k:=λe=>h (by rw[<-e];simp)
 simp[h];omega
def jt(c:UInt8)(w:ln):N1 Ma 262 [.int .u8 (c.toNat:Int)] w λv w'=>v=.bool (ak c)/\w'=w:=by
 apply L6 func262 ntmps262 rfl rfl;refine zh ?_
 by_cases h1:65<=c.toNat
 ·apply ay (d:=5) rfl (b':=true) (decide_eq_true zo);refine zh ?_
  by_cases h2:c.toNat<=90
  ·apply ay (d:=9) rfl (b':=true) (decide_eq_true zo);refine zh ?_
   refine ah rfl rfl ⟨by simp[ak,h1,h2],rfl⟩
  apply ay (d:=9) rfl (b':=false) (decide_eq_false zo);refine zh ?_
  by_cases h3:97<=c.toNat
  ·apply ay (d:=12) rfl (b':=true) (decide_eq_true zo);refine zh ?_
   have e:decide ((c.toNat:Int)<=122)=decide (c.toNat<=122):=decide_eq_decide.2 zo;refine ah rfl rfl ⟨by rw[e];simp[ak,h1,h2,h3],rfl⟩
  apply ay (d:=12) rfl (b':=false) (decide_eq_false zo);refine zh ?_
  refine ah rfl rfl ⟨by simp[ak,h1,h2,h3],rfl⟩
 apply ay (d:=5) rfl (b':=false) (decide_eq_false zo);refine zh ?_
 apply ay (d:=12) rfl (b':=false) (decide_eq_false zo);refine zh ?_
 have h3:¬97<=c.toNat:=zo;refine ah rfl rfl ⟨by simp[ak,h1,h3],rfl⟩
def Bj(O:Nat->Nat)(w:ln)(j rb:Nat)(l r:List UInt8)(op a4 e:Int)(hj:j≠0)(hr:r <:+ l)(hl:l.length<=100000)(h:Rdr kv O w j rb l ((l.length:Int)-(r.length:Int)) op a4 e):
  N1 Ma 199 [nP rb] w λ_ w'=>Rdr kv O w' j rb l ((l.length:Int)-((az r).length:Int)) op a4 e/\LY (λk=>k=j) O w O w':=by
 have hz:¬(λk:Nat=>k=j) 0:=λe=>hj e.symm
 apply L6 func199 ntmps199 rfl rfl;refine zh ?_
 apply zlp (λx:List UInt8×ln=>[(0,nP rb)]) (λx=>x.2) (λx=>x.1 <:+ l/\az x.1=az r/\Rdr kv O x.2 j rb l ((l.length:Int)-(x.1.length:Int)) op a4 e/\LY (λk=>k=j) O w O x.2) (λx=>x.1.length) (r,w) ⟨hr,rfl,h,MH hz _ _⟩;rintro⟨r1,w1⟩ ⟨a2,a1,a5,a3⟩;dsimp only at a2 a1 a5 a3 ⊢;have a0:=a5.drew;have a7:=a2.length_le;refine zh ?_
 apply Nf zk zk;refine zh ?_
 refine zwH (RV.ld a0.r1 rfl) ?_;apply zw (RV.ld a0.r0 rfl)
 refine zwH (bS Mg rfl) ?_
 cases r1 with
 |nil=>
  apply dd (d:=12) rfl (b':=false) (decide_eq_false (by simp));refine zh ?_
  apply zw (aV rfl rfl);apply N9
  refine zh ?_;refine zFH rfl rfl ?_
  refine aK rfl ⟨by rw[<-a1];exact a0,a3.drew⟩
 |cons b r2=>
  simp only[Mh]at a7 a0;apply dd (d:=12) rfl (b':=true) (decide_eq_true (by simp only[Mh];omega));refine zh ?_;refine zwH (RV.ld a0.r0 rfl) ?_;refine zwH (RV.ld a0.r1 rfl) ?_;refine zwH (bF (c:=b) Mg rfl rfl (l.length-(r2.length+1)) zo (oh a2)) ?_;apply zw (aT rfl rfl);apply N9;refine zh ?_;refine zC ?_ ?_
  ·intro hb;replace hb:b=32:=by rw[show(32:Int)=((32:Nat):Int)from rfl,fH b 32 zd]at hb;simpa using hb
   subst hb;refine zh ?_;refine zvH (RV.ld a0.r1 rfl) ?_;apply ao (j:=1) a0 rfl (My _) rfl rfl rfl rfl;rw[show((l.length:Int)-((r2.length+1:Nat):Int))+1=(l.length:Int)-(r2.length:Int)from by omega];have a9:LY (λk=>k=j) O w1.drew O (w1.drew.setCell ⟨rb,1,none⟩ (nI ((l.length:Int)-(r2.length:Int)))):=Mi hz a0.tag rfl;refine zh ?_;refine zx (r2,w1.drew.setCell ⟨rb,1,none⟩ (nI ((l.length:Int)-(r2.length:Int)))) ⟨(PY _ _).J a2,by rw[<-a1];simp[az],a0.rAt ((l.length:Int)-(r2.length:Int)),a3.drew.J a9⟩ (by dsimp only;simp)
  intro hb;replace hb:b≠32:=by rw[show(32:Int)=((32:Nat):Int)from rfl,fH b 32 zd]at hb;simpa using hb
  have a6:az (b::r2)=b::r2:=by simp[az,hb]
  refine zh ?_;refine aK rfl ⟨by rw[<-a1,a6];exact a0,a3.drew⟩
def zN{r:List UInt8}(hr:r <:+ l)(h:r≠[]):l[l.length-r.length]? = some (r.headD 0):=by
 cases r with
 |nil=>exact absurd rfl h
 |cons b r=>exact oh hr
def gE(O:Nat → Nat)(w:ln)(j rb:Nat)(l r:List UInt8)(op bad e:Int)(hj:j ≠ 0)(hr:r <:+ l)(hl:l.length ≤ 100000)(h:Rdr kv O w j rb l ((l.length:Int) - (r.length:Int)) op bad e):
    N1 Ma 153 [.pointer (some ⟨rb, 0, none⟩)] w λv w' => v = .int .u8 (((az r).headD 0).toNat:Int) ∧ Rdr kv O w' j rb l ((l.length:Int) - ((az r).length:Int)) op bad e ∧ LY (λk => k = j) O w O w' := by
  apply L6 func153 ntmps153 rfl rfl
  refine zh ?_
  apply zc call199 (Bj O w j rb l r op bad e hj hr hl h)
  rintro v w1 ⟨hb1, hU1⟩
  have hs := (bC r).J hr
  have hsl := hs.length_le
  generalize az r = q at *
  have hb2 := hb1.drew
  refine zh ?_
  apply Nf (by kernel_rfl) (by kernel_rfl)
  refine zh ?_
  refine zwH (RV.ld hb2.r1 rfl) ?_
  apply zw (RV.ld hb2.r0 rfl)
  refine zwH (bS Mg rfl) ?_
  apply N9
  refine zh ?_
  refine zC ?_ ?_
  · intro he
    replace he : q = [] := List.eq_nil_of_length_eq_zero (by have : (l.length : Int) - (q.length : Int) = l.length := by simpa using he
                                                             omega)
    subst he
    refine zh ?_
    refine ah rfl rfl ⟨rfl, hb2, hU1.drew⟩
  · intro he
    replace he:q ≠ [] := λe => by subst e; simp at he
    have hb3 := hb2.drew
    refine zh ?_
    apply Nf (by kernel_rfl) (by kernel_rfl)
    refine zh ?_
    refine zwH (RV.ld hb3.r0 rfl) ?_
    apply zw (RV.ld hb3.r1 rfl)
    refine zwH (bF (c := q.headD 0) Mg rfl rfl (l.length - q.length) (by omega) (zN hs he)) ?_
    apply N9
    refine zh ?_
    refine ah rfl rfl ⟨rfl, hb3, hU1.drew.drew⟩
def zA(O:Nat->Nat)(w:ln)(j rb:Nat)(l r:List UInt8)(op a6 e:Int)(hj:j≠0)(hr:r <:+ l)(hl:l.length<=100000)(h:Rdr kv O w j rb l ((l.length:Int)-(r.length:Int)) op a6 e):
  N1 Ma 270 [nP rb] w λv w'=>v=.string (bs (r.takeWhile ak))/\Rdr kv O w' j rb l ((l.length:Int)-((r.dropWhile ak).length:Int)) op a6 e/\LY (λk=>k=j) O w O w':=by
 have hz:¬(λk:Nat=>k=j) 0:=λe=>hj e.symm
 apply L6 func270 ntmps270 rfl rfl;refine zh ?_
 refine zvH (RV.ld h.r1 rfl) ?_;apply zlp (λx:List UInt8×ln=>[(0,nP rb),(3,nI ((l.length:Int)-(r.length:Int)))]) (λx=>x.2) (λx=>x.1 <:+ l/\x.1.dropWhile ak=r.dropWhile ak/\Rdr kv O x.2 j rb l ((l.length:Int)-(x.1.length:Int)) op a6 e/\LY (λk=>k=j) O w O x.2) (λx=>x.1.length) (r,w) ⟨hr,rfl,h,MH hz _ _⟩
 rintro⟨r1,w1⟩ ⟨a4,a3,a7,a5⟩;dsimp only at a4 a3 a7 a5 ⊢;have a0:=a7.drew;have a':=a4.length_le;have a9:=hr.length_le;have a2:r1=r.dropWhile ak->(l.take (l.length-r1.length)).drop (l.length-r.length)=r.takeWhile ak:=λe=>by
  have:=BY (l:=l) (a:=r.takeWhile ak) (b:=r.dropWhile ak) (by rw[Nx];exact hr);rw[Nx,<-e]at this;exact this
 have b0:r1.length<=r.length\/r1≠r.dropWhile ak:=by
  by_cases e:r1=r.dropWhile ak
  ·left;rw[e];exact(Pf _).length_le
  right;exact e
 refine zh ?_;apply Nf zk zk
 refine zh ?_;refine zwH (RV.ld a0.r1 rfl) ?_
 apply zw (RV.ld a0.r0 rfl);refine zwH (bS Mg rfl) ?_
 cases r1 with
 |nil=>
  have a1:=a0.drew;have hd:[]=r.dropWhile ak:=by rw[<-a3];rfl
  have h1:=a2 hd;apply dd (d:=18) rfl (b':=false) (decide_eq_false (by simp));refine zh ?_;apply zw (aV rfl rfl);apply N9;refine zh ?_;refine zFH rfl rfl ?_;apply Nf zk zk;refine zh ?_;refine zwH (RV.ld a1.r0 rfl) ?_;apply zw (RV.ld a1.r1 rfl);refine zwH (cm Mg rfl rfl rfl (l.length-r.length) (l.length-0) zo (by simp) zo zo) ?_;apply N9;refine zh ?_;simp only[NJ]at h1;refine ah rfl rfl ⟨by rw[h1],by rw[<-hd];exact a1,a5.drew.drew⟩
 |cons b r2=>
  simp only[Mh]at a' a0;apply dd (d:=18) rfl (b':=true) (decide_eq_true (by simp only[Mh];omega));refine zh ?_;refine zwH (RV.ld a0.r0 rfl) ?_;refine zwH (RV.ld a0.r1 rfl) ?_;refine zwH (bF (c:=b) Mg rfl rfl (l.length-(r2.length+1)) zo (oh a4)) ?_;apply WS.call Qn rfl (jt b w1.drew) rfl;apply zw (aT rfl rfl);apply N9;refine zh ?_;refine zC ?_ ?_
  ·intro hb;replace hb:ak b=true:=hb;refine zh ?_;refine zvH (RV.ld a0.r1 rfl) ?_;apply ao (j:=1) a0 rfl (My _) rfl rfl rfl rfl;rw[show((l.length:Int)-((r2.length+1:Nat):Int))+1=(l.length:Int)-(r2.length:Int)from by omega];have a1:=a0.rAt ((l.length:Int)-(r2.length:Int));have b1:LY (λk=>k=j) O w1.drew O (w1.drew.setCell ⟨rb,1,none⟩ (nI ((l.length:Int)-(r2.length:Int)))):=Mi hz a0.tag rfl;refine zh ?_;refine zx (r2,w1.drew.setCell ⟨rb,1,none⟩ (nI ((l.length:Int)-(r2.length:Int)))) ⟨(PY _ _).J a4,by rw[<-a3,List.dropWhile_cons_of_pos hb],a1,a5.drew.J b1⟩ (by dsimp only;simp)
  intro hb;replace hb:ak b=false:=hb;have a8:(b::r2).dropWhile ak=b::r2:=List.dropWhile_cons_of_neg (by rw[hb];decide);have hd:b::r2=r.dropWhile ak:=by rw[<-a3,a8]
  have h1:=a2 hd;have h2:=b0.resolve_right (λe=>e hd);simp only[Mh]at h1 h2;have a1:=a0.drew;refine zh ?_;apply Nf zk zk;refine zh ?_;refine zwH (RV.ld a1.r0 rfl) ?_;apply zw (RV.ld a1.r1 rfl);refine zwH (cm Mg rfl rfl rfl (l.length-r.length) (l.length-(r2.length+1)) zo zo zo zo) ?_;apply N9;refine zh ?_;refine ah rfl rfl ⟨by rw[h1],by rw[<-hd];exact a1,a5.drew.drew⟩
def ml:cI Ma 120 #[(0,1),(1,1),(2,1)]:=⟨_,underlying120,λw=>by kernel_rfl⟩
def gR(B:Nat)(O:Nat->Nat)(w:ln)(j rb:Nat)(l:List UInt8)(a op b3 p e:Int)(hj:j≠0)(hR:N0 B O w)(h:Rdr kv O w j rb l a op b3 0):
  N1 Ma 154 [nP rb,nI p,nI e] w λv w'=>v=.agg #[nI 0,nI 0,nS]/\Rdr kv O w' j rb l a op p e/\LY (λk=>k=j) O w O w':=by
 obtain⟨T,a4,hT⟩:=hR.bound;have b4:j<T:=by rw[<-h.tag];exact hT rb
 apply L6 func154 ntmps154 rfl rfl;refine zh ?_
 apply aw hR T zo (L5 _) rfl;intro xb w1 O1 a8 a6 b5 b6;have a1:=h.U a6 hj zo;refine zh ?_
 refine zvH (RV.ld a1.r5 rfl) ?_;refine zTH rfl rfl ?_
 apply ao (j:=4) a1 rfl (My _) rfl rfl rfl rfl;have a3:=a1.rBad p;have b2:LY (λk=>k=j) O1 w1 O1 (w1.setCell ⟨rb,4,none⟩ (nI p)):=Mi (λe=>hj e.symm) a1.tag rfl;refine zh ?_
 apply ao (j:=5) a3 rfl (sizeOf57 _) rfl rfl rfl rfl;have a':=a3.rE e;have b1:LY (λk=>k=j) O1 (w1.setCell ⟨rb,4,none⟩ (nI p)) O1 ((w1.setCell ⟨rb,4,none⟩ (nI p)).setCell ⟨rb,5,none⟩ (nI e)):=Mi (λe=>hj e.symm) a3.tag rfl;have a0:=b2.J b1;have a2:=a8.U a0 zo zo;generalize (w1.setCell ⟨rb,4,none⟩ (nI p)).setCell ⟨rb,5,none⟩ (nI e)=w3 at *;refine zh ?_
 apply zv (aI ml (L5 _) rfl (by first|rfl|(simp only[LZ,Mc];rfl)) rfl rfl);apply zsa (us:=#[nI 0,nI 0,nS]) a2 (ix _)
 have a5:LY (λk=>k=T) O1 w3 O1 (w3.setRow xb #[nI 0,nI 0,nS]):=L4 zo a2.tag rfl;have a9:=a'.U a5 hj zo;refine zh ?_;refine aR rfl rfl (a2.setRow (us:=#[nI 0,nI 0,nS])).V (L2 _) (ix _) ⟨rfl,a9.fgt h.tag,(((a6.pT hj a4 (L1 _)).J (a0.pj a4)).J (a5.pT hj a4 (L1 _))).priv hT hj⟩
end Go.Proofs.YteolbhblkgjbhaaGreatDoor
end
namespace Go.Proofs.YteolbhblkgjbhaaGreatDoor
section
def tH(l:List UInt8)(c:UInt8):Int:=match l.findIdx? (· == c)with|some i=>(i:Nat)|none=>-1
def ym(l:List UInt8)(c:UInt8):firstIdx (bs l) c=tH l c:=by
 have a0:∀i,i<l.length->(bs l)[i]! = nth l i:=λi hi=>by
  rw[aD hi,getElem!_pos (bs l) i (by rw[dp];exact hi)];show l.toArray[i]=l[i];simp
 unfold firstIdx tH;rw[dp]
 cases hf:l.findIdx? (· == c)with
 |none=>
  have:(PH l.length).find? (λi=>(bs l)[i]! == c)=none:=by
   rw[PI];intro i hi;have a1:i<l.length:=by simpa using hi
   rw[a0 i a1,aD a1,(N2.1 hf) _ (NF a1)];decide
  rw[this]
 |some i=>
  obtain⟨hi,h1,h2⟩:=MJ.1 hf;have:(PH l.length).find? (λi=>(bs l)[i]! == c)=some i:=by
   rw[List.find?_eq_some_iff_getElem];refine⟨by rw[a0 i hi,aD hi];exact h1,i,by simpa using hi,by simp,λj hj=>?_⟩;have:=h2 j hj;simp only[List.getElem_range];rw[a0 j zo,aD zo];simpa using this
  rw[this]
def qi(l:List UInt8)(c:UInt8)(w:ln):(callFunc 108 #[.string (bs l),.int .u8 (c.toNat:Int)]).run Ma w=.ok (.value (nI (tH l c))) w:=by
 rw[run_callFunc_extern func108 zk zk zk (e:=Ph) zk,run_indexByte_string,ym];simp[Result.andThen]
def rU(l:List UInt8)(c:UInt8)(w:ln):N1 Ma 75 [.string (bs l),.int .u8 (c.toNat:Int)] w λv w'=>v=nI (tH l c)/\w'=w:=by
 apply L6 func75 ntmps75 rfl rfl;refine zh ?_
 refine zvH (RV.ext (vs:=[.string (bs l),.int .u8 (c.toNat:Int)]) (qi l c w) rfl) ?_;refine ah rfl rfl ⟨rfl,rfl⟩
def ef(l:List UInt8)(c:UInt8)(w:ln):N1 Ma 44 [.string (bs l),.int .u8 (c.toNat:Int)] w λv w'=>v=nI (tH l c)/\w'=w:=by
 apply L6 func44 ntmps44 rfl rfl;refine zh ?_
 apply zc call75 (rU l c w);rintro v _ ⟨rfl,rfl⟩;refine zh ?_
 refine ah rfl rfl ⟨rfl,rfl⟩
@[simp] def encS(x:List UInt8):List L0:=[.string (bs x)]
def qU(l:List (List UInt8))(s:List UInt8):Int:=match l.findIdx? (· == s)with|some i=>(i:Nat)|none=>-1
def mX(l:List (List UInt8))(s:List UInt8)(sv:L0)(w:ln)(h:Sl encS 1 w sv l):N1 Ma 43 [sv,.string (bs s)] w λv w'=>v=nI (qU l s)/\w'=w:=by
 have hl:=h.len_le;apply L6 func43 ntmps43 rfl rfl;refine zh ?_;apply zlp (λx:Nat=>[(0,sv),(1,.string (bs s)),(7,nI l.length),(8,nI x)]) (λx=>w) (λx=>x<=l.length/\∀i,i<x->(nth l i==s)=false) (λx=>l.length-x) 0 ⟨L9 _,λi hi=>absurd hi (Mr i)⟩;rintro k ⟨hk,a1⟩;refine zh ?_;refine zC ?_ ?_
 ·intro a0;replace a0:k<l.length:=dT a0;refine zh ?_;apply zv (RV.ld (h.ld (val:=λx=>.string (bs x)) a0) rfl);refine zvH (bP rfl rfl) ?_;refine zC ?_ ?_
  ·intro hy;replace hy:s=nth l k:=by simpa using hy
   have hf:l.findIdx? (· == s)=some k:=MJ.2 ⟨a0,by rw[<-aD a0,hy];simp,λj hj=>by rw[<-aD zo,a1 j hj];decide⟩;refine zh ?_;refine ah rfl rfl ⟨by unfold qU;rw[hf],rfl⟩
  intro hy;replace hy:(nth l k==s)=false:=by
   rw[PT];intro e;rw[eq_of_beq e]at hy;simp at hy
  refine zh ?_;refine zxd (k+1) ⟨a0,λi hi=>(P5.1 hi).elim (a1 i) (λe=>by rw[e];exact hy)⟩
 intro a2;replace a2:l.length<=k:=dF a2;have hf:l.findIdx? (· == s)=none:=N2.2 λx hx=>by
  obtain⟨j,hj,rfl⟩:=cu hx;exact a1 j zo
 refine zh ?_;refine ah rfl rfl ⟨by unfold qU;rw[hf],rfl⟩
def iG:Array L0:=(namesL.map λs=>Np (bs s)).toArray
def xR(h:Mu O w j b iG 255):Sl encS 1 w (.slice (some ⟨b,0,none⟩) 36 36) namesL:=by
 refine⟨⟨_,36,rfl,L1 _,zd,λ_=>⟨_,_,rfl⟩⟩,λi hi j u hu=>?_⟩;obtain rfl:j=0:=by
  have:=(ME.1 hu).1;simpa using this
 have a0:Np (bs namesL[i])=u:=by simpa using hu
 have:=h.cell i (u:=u) (by rw[<-a0];unfold iG;simp[hi]);have e:((adr (.slice (some ⟨b,0,none⟩) 36 36) 1 i).add 0)=⟨b,i,none⟩:=by simp[adr,Na]
 exact(congrArg w.cell? e).J this
def CF(w:ln):N1 Ma 156 [] w λv w'=>v=.agg iG/\MG w w':=by
 apply L6 func156 ntmps156 rfl rfl;refine zh ?_
 apply aw (aA w) 1 zo (PK _) rfl;intro xb w1 O1 a0 a2 a4 a5;refine zh ?_
 apply zv (fo (cells:=iG) QQ (QW _) (PK _) rfl zk);apply bL (us:=iG) a0 zk (Qt _) zk rfl rfl rfl
 have a3:MG w (w1.setRow xb iG):=(a2.J (L4 zd a0.tag rfl)).ext;refine zh ?_;refine aR rfl rfl (a0.setRow (us:=iG)).V (isAgg255 _) (Qt _) ⟨rfl,a3⟩
def GX(s:List UInt8):Int:=match my s with|some c=>(c:Nat)|none=>0
def js(s:List UInt8)(w:ln):N1 Ma 112 [.string (bs s)] w λv w'=>v=.tuple #[nI (GX s),.bool (my s).isSome]/\MG w w':=by
 apply L6 func112 ntmps112 rfl rfl;refine zh ?_
 apply zc call156 (CF w);rintro v w1 ⟨rfl,a5⟩;apply aw (aA w1) 1 zo (PK _) rfl
 intro xb w2 O2 a0 a3 a6 a7;apply bL (us:=iG) a0 zk (Qt _) zk rfl rfl rfl;have a4:MG w1 (w2.setRow xb iG):=(a3.J (L4 zd a0.tag rfl)).ext;have a2:=xR (a0.setRow (us:=iG));generalize w2.setRow xb iG=w3 at *;refine zh ?_;refine zvH (yH QQ (QW _) zd rfl) ?_;apply zc call43 (mX namesL s _ w3 a2);rintro v _ ⟨rfl,rfl⟩;refine zh ?_;refine zvH (jd rfl rfl) ?_;have h:qU namesL s=match my s with|some c=>(c:Nat)|none=>-1:=rfl
 refine cy rfl rfl rfl ⟨?_,a5.J a4⟩;rw[h];unfold GX
 cases my s with
 |none=>rfl
 |some c=>simp
def nv(x:N3):L0:=.agg #[nI x.1,nI x.2.1,x.2.2]
def PostE(kv:L0)(O:Nat->Nat)(w:ln)(j rb:Nat)(l:List UInt8)(op:Int)(x:N3):PR->Prop
 |.ok t r=>Rdr kv O w j rb l ((l.length:Int)-(r.length:Int)) op 0 0/\Nt O w t x
 |.bad p e=>x.2.2.oneCell'=true/\∃a op',Rdr kv O w j rb l a op' ((l.length:Int)-(p:Int)) e/\0<=a/\a<=l.length+20-op/\op<=op'/\op'<=20
abbrev M3:=List UInt8×N3
def eU(m:M3):List L0:=[.string (bs m.1),nI m.2.1,nI m.2.2.1,m.2.2.2]
abbrev Kn:=List (List UInt8×Nd)
def KnownM(O:Nat->Nat)(w:ln)(kv:L0)(kn:Kn)(ms:List M3):Prop:=
 Sl eU 4 w kv ms/\P6 O w kv/\kn.length=ms.length/\∀i,i<ms.length->(nth kn i).1=(nth ms i).1/\Nt O w (nth kn i).2 (nth ms i).2
def Known(O:Nat->Nat)(w:ln)(kv:L0)(kn:Kn):Prop:=∃ms:List M3,KnownM O w kv kn ms
def KnownM.U{S:Nat->Prop}{O O':Nat->Nat}{w w':ln}{kv:L0}{kn:Kn}{ms:List M3}(h:KnownM O w kv kn ms)(u:LY S O w O' w'):KnownM O' w' kv kn ms:=by
 obtain⟨h1,h2,h3,h4⟩:=h;exact⟨h1.U h2 u,h2.U u,h3,λi hi=>⟨(h4 i hi).1,(h4 i hi).2.U u⟩⟩
def Known.U{S:Nat->Prop}{O O':Nat->Nat}{w w':ln}{kv:L0}{kn:Kn}(h:Known O w kv kn)(u:LY S O w O' w'):Known O' w' kv kn:=by
 obtain⟨ms,h⟩:=h;exact⟨ms,h.U u⟩
def sl0[Inhabited α](w:ln):Sl enc sz w nS ([]:List α):=⟨⟨none,0,rfl,L1 _,zo,λh=>absurd rfl h⟩,λi hi=>absurd hi (by simp)⟩
def Known.nil(O:Nat->Nat)(w:ln):Known O w nS []:=⟨[],sl0 w,(λa n c e=>by cases e),rfl,λi hi=>absurd hi (by simp)⟩
variable{kv:L0}{kn:Kn}
def cj{x:N3}(h:x.2.2.oneCell'=true):(#[nI x.1,nI x.2.1,x.2.2]:Array L0).toList.all M5=true:=by
 simp only[LZ,h];rfl
def elN:PA Ma 118 120 3 40:=⟨MV,by kernel_rfl,zd⟩
def kz{x:N3}(h:x.2.2.oneCell'=true):∀c∈bu x,c.oneCell'=true:=λc hc=>by
 simp at hc
 rcases hc with rfl|rfl|rfl
 ·rfl
 ·rfl
 exact h
def Reads(kv:L0)(kn:Kn)(F:Nat)(ex:List L0)(op:Int)(M:List UInt8->PR)(Pre:List UInt8->Prop):Prop:=
 ∀(B:Nat) (O:Nat->Nat) (j rb:Nat) (l r:List UInt8) (w:ln),N0 B O w->j≠0->r <:+ l->l.length<=4096->Pre r->Rdr kv O w j rb l ((l.length:Int)-(r.length:Int)) op 0 0->Known O w kv kn->
  N1 Ma F (nP rb::ex) w λv w'=>∃x,v=nv x/\LY (λk=>k=j) O w O w'/\PostE kv O w' j rb l op x (M r)
def vI(kind op:Int)(d1:0<=op/\op<=20):Reads kv kn 268 [nI kind] op (ew kind) (λ_=>True):=by
 intro B O j rb l r w hR hj hr hl _ h _;obtain⟨T,a0,hT⟩:=hR.bound;have d2:j<T:=by rw[<-h.tag];exact hT rb
 have hq:=(bC r).J hr;have d0:=hq.length_le;apply L6 func268 ntmps268 rfl rfl;refine zh ?_;apply aw hR T zo (L5 _) rfl;intro xb w1 O1 b' b5 c' d3;refine zh ?_;apply zc NO (gE O1 w1 j rb l r op 0 0 hj hr zo (h.U b5 hj zo));rintro v w2 ⟨rfl,a6,b0⟩;have b1:=b'.U b0 zo zo;have b6:=c'.U b0;have b3:=(b5.pT hj a0 (L1 _)).J (b0.pj a0);apply zc Qn (jt ((az r).headD 0) w2);rintro v _ ⟨rfl,rfl⟩;refine zh ?_
 cases hc:ak ((az r).headD 0)with
 |false=>
  have hM:ew kind r=.bad (az r).length 4:=by unfold ew;rw[am (by rw[hc];decide)]
  refine zTH rfl rfl ?_;apply zv (RV.ld a6.r1 rfl)
  apply zc NN (gR _ O1 _ j rb l _ _ 0 ((l.length:Int)-((az r).length:Int)) 4 hj b6 a6);rintro v wf ⟨rfl,a8,a4⟩;have a1:=b1.U a4 zo zo;apply zsa (us:=#[nI 0,nI 0,nS]) a1 (ix _)
  have a7:=a1.setRow (us:=#[nI 0,nI 0,nS]);have a3:LY (λk=>k=T) O1 wf O1 (wf.setRow xb #[nI 0,nI 0,nS]):=L4 zo a1.tag rfl;have hbg:=a8.U a3 hj zo;refine zh ?_;refine aR rfl rfl a7.V (L2 _) (ix _) ⟨(0,0,nS),rfl,((b3.J (a4.pj a0)).J (a3.pT hj a0 (L1 _))).priv hT hj,?_⟩;rw[hM];exact⟨rfl,_,op,hbg.fgt h.tag,zo,zo,zo,zo⟩
 |true=>
  refine zFH rfl rfl ?_;refine zvH (RV.ld a6.r1 rfl) ?_
  apply zc call270 (zA O1 _ j rb l (az r) op 0 0 hj hq zo a6);rintro v w3 ⟨rfl,c6,a'⟩;apply zc call112 (js ((az r).takeWhile ak) w3)
  rintro v w4 ⟨rfl,b7⟩;have a9:LY (λ_=>False) O1 w3 O1 w4:=ae (λh=>h) O1 b7;have b2:=c6.U a9 hj (λh=>h);have a5:=(b1.U a' zo zo).U a9 zo (λh=>h);have a2:=(b3.J (a'.pj a0)).J (jT O1 b7 hj a0);refine zh ?_
  cases hn:my ((az r).takeWhile ak)with
  |none=>
   have hM:ew kind r=.bad (az r).length 5:=by unfold ew;rw[ap hc,hn]
   refine zTH rfl rfl ?_;apply zc NN (gR _ O1 _ j rb l _ _ 0 ((l.length:Int)-((az r).length:Int)) 5 hj ((b6.U a').U a9) b2)
   rintro v wf ⟨rfl,a8,a4⟩;have a1:=a5.U a4 zo zo;apply zsa (us:=#[nI 0,nI 0,nS]) a1 (ix _);have a7:=a1.setRow (us:=#[nI 0,nI 0,nS]);have a3:LY (λk=>k=T) O1 wf O1 (wf.setRow xb #[nI 0,nI 0,nS]):=L4 zo a1.tag rfl;have hbg:=a8.U a3 hj zo;refine zh ?_;refine aR rfl rfl a7.V (L2 _) (ix _) ⟨(0,0,nS),rfl,((a2.J (a4.pj a0)).J (a3.pT hj a0 (L1 _))).priv hT hj,?_⟩;rw[hM];exact⟨rfl,_,op,hbg.fgt h.tag,by have:=(Pf (l:=az r) ak).length_le;omega,zo,zo,zo⟩
  |some c=>
   have hM:ew kind r=.ok (.mk kind (c:Nat) []) ((az r).dropWhile ak):=by unfold ew;rw[ap hc,hn]
   have hv:GX ((az r).takeWhile ak)=(c:Nat):=by unfold GX;rw[hn]
   rw[hv];refine zFH rfl rfl ?_;apply zv (aI ml (L5 _) rfl (by first|rfl|(simp only[LZ,Mc];rfl)) rfl rfl);apply zsa (us:=#[nI kind,nI (c:Nat),nS]) a5 (ix _);have b4:LY (λk=>k=T) O1 w4 O1 (w4.setRow xb #[nI kind,nI (c:Nat),nS]):=L4 zo a5.tag rfl;refine zh ?_;refine aR rfl rfl (a5.setRow (us:=#[nI kind,nI (c:Nat),nS])).V (L2 _) (ix _) ⟨(kind,(c:Nat),nS),rfl,(a2.J (b4.pT hj a0 (L1 _))).priv hT hj,?_⟩;rw[hM];exact⟨(b2.U b4 hj zo).fgt h.tag,QE _ _ _ _⟩
end
def rV:∀(n:Nat) (t:Nd),nsz t<=n->∀(x:N3) (w:ln) (fN:Nat),Nt (λ_=>0) w t x->fN<=1000000->N1 Ma 120 [nv x,nI (fN:Int)] w λv w'=>v=nI ((min (nsz t) (fN+1):Nat):Int)/\MG w w'
 |0,t,hn=>by have:=dy t;omega
 |n+1,.mk k c kids,hn=>by
  intro x w fN h hm;obtain⟨xs,hs,hf,hl,hk⟩:=h.kids;simp only[NW]at hl hk;have b9:=eQ kids;simp only[nsz]at hn ⊢;have b1:=hs.len_le;apply L6 func120 ntmps120 rfl rfl;refine zh ?_;apply aQ (aA w) 1 zo rfl rfl;intro xb w1 O1 a9 b' c6 a7;refine zh ?_;apply zv (RV.ld (a9.cell 2 rfl) rfl);apply zv (RV.len (by first|exact (hs.ext a7)) MV rfl);apply zv (RV.move rfl);apply Pj;apply aa;apply WC.block;apply zlp (λy:Nat×ln=>[(1,nI (fN:Int)),(5,nI ((min (dP (kids.take y.1)+1) (fN+1):Nat):Int)),(9,x.2.2),(10,nI xs.length),(11,nI y.1)]) (λy=>y.2) (λy=>y.1<=xs.length/\MG w y.2) (λy=>xs.length-y.1) (0,w1) ⟨L9 _,a7⟩;rintro⟨i,w2⟩ ⟨hi,a0⟩;dsimp only at hi a0 ⊢;have a':=hs.ext a0;refine zh ?_;refine zC ?_ ?_
  ·intro a1;replace a1:i<xs.length:=dT a1;have b7:=ee kids i zo;have b6:=cP kids (i+1);have a5:=(hk i a1).ext a0;have b8:=bQ kids i zo;refine zh ?_;apply zv (ai (us:=bu (nth xs i)) (λj u hu=>a'.cell a1 hu) (L2 _) (ix _) rfl);apply aw (aA w2) 1 zo (L5 _) rfl;intro kb w3 O3 a2 b4 c5 c7;apply zsb (us:=#[nI (nth xs i).1,nI (nth xs i).2.1,(nth xs i).2.2]) a2 (ix _) (cj a5.one);have b2:=a2.setRow (us:=#[nI (nth xs i).1,nI (nth xs i).2.1,(nth xs i).2.2]);have a3:MG w2 (w3.setRow kb #[nI (nth xs i).1,nI (nth xs i).2.1,(nth xs i).2.2]):=(b4.J (L4 zd a2.tag rfl)).ext;generalize w3.setRow kb #[nI (nth xs i).1,nI (nth xs i).2.1,(nth xs i).2.2]=w4 at *;refine zh ?_;refine zC ?_ ?_
   ·intro a6;replace a6:fN<dP (kids.take i)+1:=dT a6;refine zh ?_;refine ah rfl rfl ⟨by congr 2;omega,a0.J a3⟩
   intro a4;replace a4:dP (kids.take i)+1<=fN:=dF a4;refine zh ?_;refine zvH (ai (us:=bu (nth xs i)) b2.V (L2 _) (ix _) rfl) ?_;rw[show(fN:Int)-((min (dP (kids.take i)+1) (fN+1):Nat):Int)=((fN-(dP (kids.take i)+1):Nat):Int)from by omega];apply zc R0 (rV n (nth kids i) zo (nth xs i) w4 (fN-(dP (kids.take i)+1)) (a5.ext a3) zo);rintro v w5 ⟨rfl,b5⟩;refine zh ?_;rw[show((min (dP (kids.take i)+1) (fN+1):Nat):Int)+((min (nsz (nth kids i)) (fN-(dP (kids.take i)+1)+1):Nat):Int)=((min (dP (kids.take (i+1))+1) (fN+1):Nat):Int)from by omega];refine zxd (i+1,w5) ⟨a1,(a0.J a3).J b5⟩
  intro b3;obtain rfl:i=xs.length:=dF b3;refine zh ?_;refine ah rfl rfl ⟨by rw[<-hl,Mm],a0⟩
def aP(h:LY S O w O' w')(hS:∀b,¬S (O b)):MG w w':=⟨h.os,h.tape,h.output,h.size,λb hb=>h.blk b hb (hS b)⟩
def Nt.ones{t:Nd}{x:N3}(h:Nt O w t x):x=(t.kind,t.cls,x.2.2):=by cases h;rfl
def vH:∀(n:Nat),n<=1000000->∀(t:Nd),nsz t<=n->∀(B:Nat) (O:Nat->Nat) (x:N3) (w:ln),N0 B O w->Nt (λ_=>0) w t x->N1 Ma 155 [nv x] w λv w'=>∃y,v=nv y/\Nt O w' t y/\MG w w'
 |0,_,t,hn=>by have:=dy t;omega
 |n+1,hn6,.mk k c kids,hn=>by
  intro B O x w hR h;obtain⟨T,j5,hT⟩:=hR.bound;obtain⟨xs,hs,hf,hl,hk⟩:=h.kids;simp only[NW]at hl hk;obtain⟨x0,x1,sv⟩:=x;obtain rfl:k=x0:=(congrArg Qf h.ones).symm;obtain rfl:c=x1:=(congrArg (λq:N3=>q.2.1) h.ones).symm;dsimp only at hs hf;have j4:=eQ kids;simp only[nsz]at hn;have a5:¬(λq:Nat=>T<=q) 0:=λe=>zo
  apply L6 func155 ntmps155 rfl rfl;refine zh ?_
  apply aQ hR (T+1) zo rfl rfl;intro nb w1 O1 h7 i5 i' j8;apply aw i' T zo (L5 _) rfl
  intro xb w2 O2 h1 g8 i9 j7;have f':=h7.U g8 zo zo;have n0:w2.cell? (nA nb 0)=some (nI k):=f'.cell 0 rfl;have n1:w2.cell? (nA nb 1)=some (nI c):=f'.cell 1 rfl;refine zh ?_;apply zv (aI ml (L5 _) rfl (by first|rfl|(simp only[LZ,Mc];rfl)) rfl rfl);apply aw i9 (T+2) zo (L5 _) rfl;intro ob w3 O3 f9 i4 i7 j6;apply zsa (us:=#[nI k,nI c,nS]) f9 (ix _);have h4:=f9.setRow (us:=#[nI k,nI c,nS]);have g7:LY (λq=>q=T+2) O3 w3 O3 (w3.setRow ob #[nI k,nI c,nS]):=L4 zo f9.tag rfl;have d6:=i4.J g7;have h0:=h1.U d6 zo zo;have e6:LY (λq=>T<=q) O w O3 _:=((i5.mono (λ_ h=>by rw[h];omega) a5).J (g8.mono (λ_ h=>by rw[h];omega) a5)).J (d6.mono (λ_ h=>by rw[h];omega) a5);generalize w3.setRow ob #[nI k,nI c,nS]=w4 at *;have j0:=aP e6 (λb=>by have:=hT b;omega);have j2:=hs.ext j0;have n2:w4.cell? (nA nb 2)=some sv:=(f'.U d6 zo zo).cell 2 rfl;refine zh ?_
  apply zlp (λy:Nat×(Nat->Nat)×World×L0×List N3=>[(2,nP xb),(3,nP ob),(12,sv),(13,nI xs.length),(14,nI y.1)]) (λy=>y.2.2.1) (λy=>y.1<=xs.length/\Mu y.2.1 y.2.2.1 T xb #[nI 0,nI 0,nS] 120/\Mu y.2.1 y.2.2.1 (T+2) ob #[nI k,nI c,y.2.2.2.1] 120/\MC bu 120 3 y.2.1 y.2.2.1 (T+3) y.2.2.2.1 y.2.2.2.2/\y.2.2.2.2.length=y.1/\(∀m,m<y.1->Nt y.2.1 y.2.2.1 (nth kids m) (nth y.2.2.2.2 m))/\LY (λq=>T<=q) O w y.2.1 y.2.2.1/\N0 B y.2.1 y.2.2.1) (λy=>xs.length-y.1) (0,O3,w4,nS,[]) ⟨L9 _,h0,h4,MT _ _ _ _ _ _,rfl,λm hm=>absurd hm (Mr m),e6,i7.U g7⟩;rintro⟨i,O1',f7,lv,zs⟩ ⟨hi,b2,d2,a',d0,f8,b',c5⟩;dsimp only at hi b2 d2 a' d0 f8 b' c5 ⊢;have e':=aP b' (λb=>by have:=hT b;omega);have h3:=hs.ext e';refine zh ?_
  refine zC ?_ ?_
  ·intro c9;replace c9:i<xs.length:=dT c9;have h9:=(hk i c9).ext e';have g9:=h9.one;have j3:=bQ kids i zo;refine zh ?_;apply zv (ai (us:=bu (nth xs i)) (λj u hu=>h3.cell c9 hu) (L2 _) (ix _) rfl);apply aw c5 (T+4) zo (L5 _) rfl;intro kb d9 O2' g1 g3 i8 j1;apply zsb (us:=#[nI (nth xs i).1,nI (nth xs i).2.1,(nth xs i).2.2]) g1 (ix _) (cj g9);have h':=g1.setRow (us:=#[nI (nth xs i).1,nI (nth xs i).2.1,(nth xs i).2.2]);have g2:LY (λq=>q=T+4) O2' d9 O2' (d9.setRow kb #[nI (nth xs i).1,nI (nth xs i).2.1,(nth xs i).2.2]):=L4 zo g1.tag rfl;have b0:=g3.J g2;have g6:=(b2.U b0 zo zo).drew;have d1:=(d2.U b0 zo zo).drew;have c8:=(a'.U b0 zo zo).drew;have d7:=(c5.U b0).drew;have d':∀m,m<i->Nt O2' (d9.setRow kb #[nI (nth xs i).1,nI (nth xs i).2.1,(nth xs i).2.2]).drew (nth kids m) (nth zs m):=λm hm=>((f8 m hm).U b0).drew
   have d5:=(b'.J (b0.mono (λ_ h=>by rw[h];omega) a5)).drew;have g5:=aP d5 (λb=>by have:=hT b;omega);have hk3d:=h'.drew;have g0:Nt (λ_=>0) (d9.setRow kb #[nI (nth xs i).1,nI (nth xs i).2.1,(nth xs i).2.2]).drew (nth kids i) (nth xs i):=(hk i c9).ext g5;refine zh ?_;apply aO (λW=>∀(m:Nat) (u:L0),(bu (nth xs i))[m]? = some u->W.cell? (nA kb m)=some u) 8 rfl zk;generalize (d9.setRow kb #[nI (nth xs i).1,nI (nth xs i).2.1,(nth xs i).2.2]).drew=w3' at *;have i3:w3'.cell? (nA ob 2)=some lv:=d1.cell 2 rfl;refine zin hk3d.V λzS=>?_
   apply zrf 0 rfl zS rfl;apply zt 2 rfl zS (λw1 h2=>ai (us:=bu (nth xs i)) h2 (L2 _) (ix _) rfl)
   have c':=vH n zo (nth kids i) zo B O2' (nth xs i) w3' d7 g0;refine bK 1 3 zk rfl rfl ?_ ?_
   ·refine zvH (RV.ld i3 rfl) ?_;apply af hk3d.V
    apply Mf 3 zk rfl;apply zc QZ c'
    rintro v w5 ⟨z,rfl,f3,g4⟩;have a8:LY (λ_=>False) O2' w3' O2' w5:=ae (λh=>h) O2' g4;have f4:=g6.U a8 zo (λh=>h);have e4:=d1.U a8 zo (λh=>h);have a9:=c8.U a8 zo (λh=>h);have f6:=d7.U a8;have d3:=hk3d.U a8 zo (λh=>h);have b7:∀m,m<i->Nt O2' w5 (nth kids m) (nth zs m):=λm hm=>(d' m hm).U a8
    have b9:=d5.J (a8.mono (λ_ h=>h.elim) a5);refine zh ?_;apply af d3.V;apply Mf 4 zk rfl;apply bq elN (enc:=bu) z rfl rfl rfl zd rfl;intro w6 h6 e9;have a1:LY (λ_=>False) O2' w5 O2' w6:=ae (λh=>h) O2' e9;have e1:=f4.U a1 zo (λh=>h);have d8:=e4.U a1 zo (λh=>h);have a6:=a9.U a1 zo (λh=>h);have e8:=f6.U a1;have b8:=d3.U a1 zo (λh=>h);have b1:∀m,m<i->Nt O2' w6 (nth kids m) (nth zs m):=λm hm=>(b7 m hm).U a1
    have c6:=f3.U a1;have b6:=b9.J (a1.mono (λ_ h=>h.elim) a5);refine zh ?_;apply af b8.V;have a7:∀u∈[z],∀c∈bu u,c.oneCell'=true:=λu hu=>by
     rw[Mw.1 hu];exact kz c6.one
    apply Mf 5 zk rfl;apply aF elN a6 e8 h6 (by simp) rfl rfl (λ_ _=>rfl) a7 (by simp;omega) (by simp;omega) zo rfl
    intro a3 w7 O7 a0 a4 e7;have e2:=a0.one;have b3:=M4 d8 a4 zo zo;have e0:=M4 e1 a4 zo zo;have b4:=M4 b8 a4 zo zo;refine zh ?_;apply af b4.V;apply zrf 6 rfl b4.V rfl;apply Mf 7 zk rfl;apply ao (j:=2) b3 rfl (Qv _) e2 rfl rfl rfl;have e3:Mu O7 (w7.setCell ⟨ob,2,none⟩ a3) (T+2) ob #[nI k,nI c,a3] 120:=b3.set 2 a3;have a2:LY (λq=>q=T+2) O7 w7 O7 (w7.setCell ⟨ob,2,none⟩ a3):=Mi zo b3.tag rfl;have e5:=b4.U a2 zo zo;refine zh ?_;apply af e5.V;have a5:¬(λq:Nat=>T<=q) 0:=λe=>zo
    have b5:=(b6.J (a4.mono (λ_ h=>by rw[h];omega) a5)).J (a2.mono (λ_ h=>by rw[h];omega) a5);apply MY zk;refine zh ?_;refine zxd (i+1,O7,(w7.setCell ⟨ob,2,none⟩ a3),a3,zs++[z]) ⟨c9,e0.U a2 zo zo,e3,a0.U a2 zo zo,by simp[d0],λm hm=>?_,b5,e7.U a2⟩;dsimp only at hm ⊢
    by_cases e:m<i
    ·rw[aD (xs:=zs++[z]) (by simp;omega),Mb zo,<-aD zo];exact((b1 m e).U a4).U a2
    obtain rfl:m=zs.length:=zo;rw[aD (xs:=zs++[z]) (by simp),Mq zo];simp only[MW,Ng];rw[d0];exact(c6.U a4).U a2
   apply zc QZ c';rintro v w5 ⟨z,rfl,f3,g4⟩;have a8:LY (λ_=>False) O2' w3' O2' w5:=ae (λh=>h) O2' g4;have f4:=g6.U a8 zo (λh=>h);have e4:=d1.U a8 zo (λh=>h);have a9:=c8.U a8 zo (λh=>h);have f6:=d7.U a8;have d3:=hk3d.U a8 zo (λh=>h);have b7:∀m,m<i->Nt O2' w5 (nth kids m) (nth zs m):=λm hm=>(d' m hm).U a8
   have b9:=d5.J (a8.mono (λ_ h=>h.elim) a5);refine zh ?_;apply af d3.V;have i2:w5.cell? (nA ob 2)=some lv:=e4.cell 2 rfl;refine bK 1 4 zk rfl rfl ?_ ?_
   ·refine zvH (RV.ld i2 rfl) ?_;apply af d3.V
    apply Mf 4 zk rfl;apply bq elN (enc:=bu) z rfl rfl rfl zd rfl
    intro w6 h6 e9;have a1:LY (λ_=>False) O2' w5 O2' w6:=ae (λh=>h) O2' e9;have e1:=f4.U a1 zo (λh=>h);have d8:=e4.U a1 zo (λh=>h);have a6:=a9.U a1 zo (λh=>h);have e8:=f6.U a1;have b8:=d3.U a1 zo (λh=>h);have b1:∀m,m<i->Nt O2' w6 (nth kids m) (nth zs m):=λm hm=>(b7 m hm).U a1
    have c6:=f3.U a1;have b6:=b9.J (a1.mono (λ_ h=>h.elim) a5);refine zh ?_;apply af b8.V;have a7:∀u∈[z],∀c∈bu u,c.oneCell'=true:=λu hu=>by
     rw[Mw.1 hu];exact kz c6.one
    apply Mf 5 zk rfl;apply aF elN a6 e8 h6 (by simp) rfl rfl (λ_ _=>rfl) a7 (by simp;omega) (by simp;omega) zo rfl
    intro a3 w7 O7 a0 a4 e7;have e2:=a0.one;have b3:=M4 d8 a4 zo zo;have e0:=M4 e1 a4 zo zo;have b4:=M4 b8 a4 zo zo;refine zh ?_;apply af b4.V;apply zrf 6 rfl b4.V rfl;apply Mf 7 zk rfl;apply ao (j:=2) b3 rfl (Qv _) e2 rfl rfl rfl;have e3:Mu O7 (w7.setCell ⟨ob,2,none⟩ a3) (T+2) ob #[nI k,nI c,a3] 120:=b3.set 2 a3;have a2:LY (λq=>q=T+2) O7 w7 O7 (w7.setCell ⟨ob,2,none⟩ a3):=Mi zo b3.tag rfl;have e5:=b4.U a2 zo zo;refine zh ?_;apply af e5.V;have a5:¬(λq:Nat=>T<=q) 0:=λe=>zo
    have b5:=(b6.J (a4.mono (λ_ h=>by rw[h];omega) a5)).J (a2.mono (λ_ h=>by rw[h];omega) a5);apply MY zk;refine zh ?_;refine zxd (i+1,O7,(w7.setCell ⟨ob,2,none⟩ a3),a3,zs++[z]) ⟨c9,e0.U a2 zo zo,e3,a0.U a2 zo zo,by simp[d0],λm hm=>?_,b5,e7.U a2⟩;dsimp only at hm ⊢
    by_cases e:m<i
    ·rw[aD (xs:=zs++[z]) (by simp;omega),Mb zo,<-aD zo];exact((b1 m e).U a4).U a2
    obtain rfl:m=zs.length:=zo;rw[aD (xs:=zs++[z]) (by simp),Mq zo];simp only[MW,Ng];rw[d0];exact(c6.U a4).U a2
   apply bq elN (enc:=bu) z rfl rfl rfl zd rfl;intro w6 h6 e9;have a1:LY (λ_=>False) O2' w5 O2' w6:=ae (λh=>h) O2' e9;have e1:=f4.U a1 zo (λh=>h);have d8:=e4.U a1 zo (λh=>h);have a6:=a9.U a1 zo (λh=>h);have e8:=f6.U a1;have b8:=d3.U a1 zo (λh=>h);have b1:∀m,m<i->Nt O2' w6 (nth kids m) (nth zs m):=λm hm=>(b7 m hm).U a1
   have c6:=f3.U a1;have b6:=b9.J (a1.mono (λ_ h=>h.elim) a5);refine zh ?_;apply af b8.V;have i1:w6.cell? (nA ob 2)=some lv:=d8.cell 2 rfl;apply Mf 1 zk rfl;refine zvH (RV.ld i1 rfl) ?_;apply af b8.V;have a7:∀u∈[z],∀c∈bu u,c.oneCell'=true:=λu hu=>by
    rw[Mw.1 hu];exact kz c6.one
   apply Mf 5 zk rfl;apply aF elN a6 e8 h6 (by simp) rfl rfl (λ_ _=>rfl) a7 (by simp;omega) (by simp;omega) zo rfl
   intro a3 w7 O7 a0 a4 e7;have e2:=a0.one;have b3:=M4 d8 a4 zo zo;have e0:=M4 e1 a4 zo zo;have b4:=M4 b8 a4 zo zo;refine zh ?_;apply af b4.V;apply zrf 6 rfl b4.V rfl;apply Mf 7 zk rfl;apply ao (j:=2) b3 rfl (Qv _) e2 rfl rfl rfl;have e3:Mu O7 (w7.setCell ⟨ob,2,none⟩ a3) (T+2) ob #[nI k,nI c,a3] 120:=b3.set 2 a3;have a2:LY (λq=>q=T+2) O7 w7 O7 (w7.setCell ⟨ob,2,none⟩ a3):=Mi zo b3.tag rfl;have e5:=b4.U a2 zo zo;refine zh ?_;apply af e5.V;have a5:¬(λq:Nat=>T<=q) 0:=λe=>zo
   have b5:=(b6.J (a4.mono (λ_ h=>by rw[h];omega) a5)).J (a2.mono (λ_ h=>by rw[h];omega) a5);apply MY zk;refine zh ?_;refine zxd (i+1,O7,(w7.setCell ⟨ob,2,none⟩ a3),a3,zs++[z]) ⟨c9,e0.U a2 zo zo,e3,a0.U a2 zo zo,by simp[d0],λm hm=>?_,b5,e7.U a2⟩;dsimp only at hm ⊢
   by_cases e:m<i
   ·rw[aD (xs:=zs++[z]) (by simp;omega),Mb zo,<-aD zo];exact((b1 m e).U a4).U a2
   obtain rfl:m=zs.length:=zo;rw[aD (xs:=zs++[z]) (by simp),Mq zo];simp only[MW,Ng];rw[d0];exact(c6.U a4).U a2
  intro i0;obtain rfl:i=xs.length:=dF i0;have h8:=a'.one;refine zh ?_;apply zv (ai (us:=bu ((k,c,lv):N3)) d2.V (L2 _) (ix _) rfl);apply zsb (us:=#[nI k,nI c,lv]) b2 (ix _) (cj (x:=(k,c,lv)) h8);have g':=b2.setRow (us:=#[nI k,nI c,lv]);have f5:LY (λq=>q=T) O1' f7 O1' (f7.setRow xb #[nI k,nI c,lv]):=L4 zo b2.tag rfl;have c7:=a'.U f5 zo zo;have d4:=b'.J (f5.mono (λ_ h=>by rw[h];omega) a5);have hN:Nt O (f7.setRow xb #[nI k,nI c,lv]) (.mk k c kids) (k,c,lv):=
   .mk c7.sl (c7.freeT zo (λb=>by have:=hT b;omega) (c5.U f5) d4) zo (λm hm=>((f8 m zo).U f5).low d4)
  refine zh ?_;refine aR rfl rfl g'.V (L2 _) (ix _) ⟨(k,c,lv),rfl,hN,aP d4 (λb=>by have:=hT b;omega)⟩
def mH{F:FuncId}(hF:∀(args:Array L0) (w:ln),(callFunc F args).run Ma w=.ok (.enter F args) w)(cs:Array L0)(l:List N3)(sv:L0)(q:Nat->Bool)(w:ln)(h:Sl bu 3 w sv l) 
  (hq:∀i,i<l.length->∀w',MG w w'->N1 Ma F ([nv (nth l i)]++cs.toList) w' λv w''=>v=.bool (q i)/\MG w' w'') :
  N1 Ma 221 [sv,.func (.func F) #[] cs] w λv w'=>v=nI (eu q l.length)/\MG w w':=by
 have hl:=h.len_le;apply L6 func221 ntmps221 rfl rfl;refine zh ?_;apply zlp (λx:Nat×ln=>[(0,sv),(1,.func (.func F) #[] cs),(7,nI l.length),(8,nI x.1)]) (λx=>x.2) (λx=>x.1<=l.length/\MG w x.2/\∀i,i<x.1->q i=false) (λx=>l.length-x.1) (0,w) ⟨L9 _,M8 _,λi hi=>absurd hi (Mr i)⟩;rintro⟨k,w1⟩ ⟨hk,hE,a1⟩;dsimp only at hk hE a1 ⊢;have h1:=h.ext hE;refine zh ?_;refine zC ?_ ?_
 ·intro a0;replace a0:k<l.length:=dT a0;refine zh ?_;apply zv (ai (us:=bu (nth l k)) (λj u hu=>h1.cell a0 hu) (L2 _) (ix _) rfl);apply ej rfl hF rfl (hq k a0 w1 hE) rfl;rintro v w2 ⟨rfl,a3⟩;refine zh ?_;refine zC ?_ ?_
  ·intro hy;refine zh ?_;refine ah rfl rfl ⟨by rw[cZ a0 hy a1],hE.J a3⟩
  intro hy;refine zh ?_;refine zxd (k+1,w2) ⟨a0,hE.J a3,λi hi=>(P5.1 hi).elim (a1 i) (λe=>by rw[e];exact hy)⟩
 intro a2;replace a2:l.length<=k:=dF a2;refine zh ?_;refine ah rfl rfl ⟨by rw[cX λi hi=>a1 i zo],hE⟩
def dz{F:FuncId}(hF:∀(args:Array L0) (w:ln),(callFunc F args).run Ma w=.ok (.enter F args) w)(cs:Array L0)(l:List N3)(sv:L0)(q:Nat->Bool)(w:ln)(h:Sl bu 3 w sv l) 
  (hq:∀i,i<l.length->∀w',MG w w'->N1 Ma F ([nv (nth l i)]++cs.toList) w' λv w''=>v=.bool (q i)/\MG w' w'') :
  N1 Ma 163 [sv,.func (.func F) #[] cs] w λv w'=>v=.bool (jy q l.length)/\MG w w':=by
 apply L6 func163 ntmps163 rfl rfl;refine zh ?_
 apply zc call221 (mH hF cs l sv q w h hq);rintro v w1 ⟨rfl,hE⟩;refine zh ?_
 refine ah rfl rfl ⟨by rw[firstN_any],hE⟩
def named(k:Int):Bool:=(k==0)||(k==2)
def least(k:Int):Int:=if k=4\/k=5 then 2 else if k=6\/k=7\/k=8 then 1 else 0
def fN(k:Int):Int:=if k=4\/k=5 then 2000 else if k=6\/k=7\/k=8 then 1 else 0
def fF(k c:Int)(n:Nat)(a0:Bool):Bool:=
 !(decide (k<0)||decide (9<k)||((k==9)&&a0))&&(!(decide ((n:Int)<least k)||decide (fN k<(n:Int))) &&
 !((named k&&(decide (c<0)||decide (36<=c)))||(!named k&&(c != 0))))
mutual
def bV:Nd->Bool->Bool | .mk k c l,wi=>fF k c l.length wi&&eS l
def eS:List Nd->Bool | []=>true|t::r=>bV t true&&eS r
end
def bz(t:Nd):Bool:=decide (nsz t<=2000)&&bV t false
def dM{k:Int}{wi:Bool}(h:fF k c n wi=true):
  (k=0/\n=0/\0<=c/\c<36)\/(k=1/\n=0/\c=0)\/(k=2/\n=0/\0<=c/\c<36)\/(k=3/\n=0/\c=0)\/(k=4/\2<=n/\c=0)\/(k=5/\2<=n/\c=0)\/(k=6/\n=1/\c=0)\/(k=7/\n=1/\c=0)\/(k=8/\n=1/\c=0)\/(k=9/\n=0/\c=0/\wi=false):=by
 have a0:k=0\/k=1\/k=2\/k=3\/k=4\/k=5\/k=6\/k=7\/k=8\/k=9:=by
  simp only[fF,Md,Nw,Bool.or_eq_false_iff,decide_eq_false_iff_not]at h;omega
 rcases a0 with rfl|rfl|rfl|rfl|rfl|rfl|rfl|rfl|rfl|rfl<;>simp[fF,least,fN,named]at h<;>(try simp)<;>(first|omega|(obtain⟨h1,h2⟩:=h;subst h1;simp;omega))
def pd:∀(l:List Nd),eS l=true->∀t∈l,bV t true=true
 |[],_,t,h=>absurd h (by simp)
 |a::r,hf,t,h=>by
  rw[eS,Md]at hf
  rcases List.mem_cons.1 h with rfl|h
  ·exact hf.1
  exact pd r hf.2 t h
def gk:∀(l:List Nd),(!(jy (λi=>!(bV (nth l i) true)) l.length))=eS l:=by
 intro l;rw[Qb];rw[Nw,PT,Ne,eK]
 induction l with
 |nil=>simp[eS]
 |cons t r ih=>
  simp only[eS,Md,<-ih,Mh]
  constructor
  ·intro h;refine⟨?_,fun⟨i,hi,hq⟩=>h ⟨i+1,zo,by rw[aX];exact hq⟩⟩
   cases ht:bV t true with
   |true=>rfl
   |false=>exact absurd ⟨0,zo,by rw[ar,ht];rfl⟩ h
  rintro⟨h1,h2⟩ ⟨i,hi,hq⟩
  cases i with
  |zero=>rw[ar,h1]at hq;simp at hq
  |succ i=>rw[aX]at hq;exact h2 ⟨i,zo,hq⟩
def F6(k:Int)(w:ln):N1 Ma 162 [nI k] w λv w'=>v=.tuple #[nI (least k),nI (fN k)]/\w'=w:=by
 apply L6 func162 ntmps162 rfl rfl;refine zh ?_
 by_cases h4:k=4
 ·subst h4;refine zTH rfl rfl ?_;refine zTH rfl rfl ?_;refine cy rfl rfl rfl ⟨rfl,rfl⟩
 refine zFH rfl ((beq_eq_false_iff_ne.2 h4)) ?_
 by_cases h5:k=5
 ·subst h5;refine zTH rfl rfl ?_;refine cy rfl rfl rfl ⟨rfl,rfl⟩
 refine zFH rfl ((beq_eq_false_iff_ne.2 h5)) ?_
 by_cases h6:k=6
 ·subst h6;refine zTH rfl rfl ?_;refine zTH rfl rfl ?_;refine cy rfl rfl rfl ⟨rfl,rfl⟩
 refine zFH rfl ((beq_eq_false_iff_ne.2 h6)) ?_
 by_cases h7:k=7
 ·subst h7;refine zTH rfl rfl ?_;refine zTH rfl rfl ?_;refine cy rfl rfl rfl ⟨rfl,rfl⟩
 refine zFH rfl ((beq_eq_false_iff_ne.2 h7)) ?_
 by_cases h8:k=8
 ·subst h8;refine zTH rfl rfl ?_;refine cy rfl rfl rfl ⟨rfl,rfl⟩
 refine zFH rfl ((beq_eq_false_iff_ne.2 h8)) ?_;refine cy rfl rfl rfl ⟨by simp[least,fN,h4,h5,h6,h7,h8],rfl⟩
def Gq{b:Bool}{t:Nd}(ih:∀(y:N3) (W:ln),Nt (λ_=>0) W t y->N1 Ma 121 [nv y,.bool true] W λv w'=>v=.bool b/\MG W w')(x:N3)(w:ln)(h:Nt (λ_=>0) w t x):
  N1 Ma 164 [nv x] w λv w'=>v=.bool (!b)/\MG w w':=by
 apply L6 func164 ntmps164 rfl rfl;refine zh ?_
 apply aQ (aA w) 1 zo rfl rfl;intro xb w1 O1 a1 a3 a4 a0;refine zh ?_
 apply zv (ai (us:=bu x) a1.V (L2 _) (ix _) rfl);apply zc call121 (ih x w1 (h.ext a0))
 rintro v w2 ⟨rfl,a2⟩;refine zh ?_;refine ah rfl rfl ⟨rfl,a0.J a2⟩
def zP:∀(n:Nat) (t:Nd),nsz t<=n->∀(x:N3) (w:ln) (a0:Bool),Nt (λ_=>0) w t x->N1 Ma 121 [nv x,.bool a0] w λv w'=>v=.bool (bV t a0)/\MG w w'
 |0,t,hn=>by have:=dy t;omega
 |n+1,.mk k c kids,hn=>by
  intro x w a0 h;have b1:=h.ones;obtain⟨xs,hs,hf,hl,hk⟩:=h.kids;simp only[NW]at hl hk;simp only[nsz]at hn;have hF:bV (.mk k c kids) a0=(fF k c kids.length a0&&eS kids):=rfl;rw[hF];generalize x.2.2=sv at *;subst b1;simp only[Q7,Qr];apply L6 func121 ntmps121 rfl rfl;refine zh ?_;apply aQ (aA w) 1 zo rfl rfl;intro xb w1 O1 a9 b4 b5 a4;have c0:w1.cell? (nA xb 0)=some (nI k):=a9.cell 0 rfl;have c1:w1.cell? (nA xb 1)=some (nI c):=a9.cell 1 rfl;have c2:w1.cell? (nA xb 2)=some sv:=a9.cell 2 rfl;have b2:=hs.ext a4;refine zh ?_;refine cx (λw1=>_=w1) ((k==2)) 3 rfl rfl rfl rfl rfl rfl ?_ ?_
  ·intro a1;refine zh ?_;refine nE 11 4 rfl a1
  rintro _ rfl;refine zh ?_;apply zc call162 (F6 k w1);rintro v w9 ⟨rfl,a'⟩;rw[a'];clear a' w9;refine zh ?_;refine cx (λw1=>_=w1) (decide (9<k)) 3 rfl rfl rfl rfl rfl rfl ?_ ?_
  ·intro a2;refine zh ?_;refine nE 26 4 rfl a2
  rintro _ rfl;refine zh ?_;refine cx (λw1=>_=w1) (((k==9)&&a0)) 6 rfl rfl rfl rfl rfl rfl ?_ ?_
  ·intro a3;refine zh ?_
   cases a7:(k==9)with
   |true=>
    apply ay (d:=35) rfl (b':=true) rfl;refine zh ?_
    refine nE 31 8 rfl a3
   |false=>
    apply ay (d:=35) rfl (b':=false) rfl;refine zh ?_
    refine nE 31 8 rfl a3
  rintro _ rfl;refine zh ?_
  cases h1:(decide (k<0)||decide (9<k)||((k==9)&&a0))with
  |true=>
   refine zTH rfl rfl ?_;refine ah rfl rfl ⟨by simp only[fF,h1];rfl,a4⟩
  |false=>
   refine zFH rfl rfl ?_;refine cx (λw1=>_=w1) (decide (fN k<(xs.length:Int))) 5 rfl rfl rfl rfl rfl rfl ?_ ?_
   ·intro a5;refine zh ?_;refine nE 45 6 rfl a5
   rintro _ rfl;refine zh ?_
   cases h2:(decide ((xs.length:Int)<least k)||decide (fN k<(xs.length:Int)))with
   |true=>
    refine zTH rfl rfl ?_;refine ah rfl rfl ⟨by simp only[fF,h1,hl,h2];rfl,a4⟩
   |false=>
    refine zFH rfl rfl ?_;refine aU (λw1=>_=w1) ((decide (c<0)||decide (36<=c))) 8 rfl rfl rfl rfl rfl rfl ?_ ?_
    ·intro a6;refine zh ?_
     cases a7:decide (c<0)with
     |true=>
      apply ay (d:=58) rfl (b':=true) rfl;refine zh ?_
      refine nE 54 10 rfl a6
     |false=>
      apply ay (d:=58) rfl (b':=false) rfl;refine zh ?_
      refine nE 54 10 rfl a6
    rintro _ rfl;refine zh ?_;refine cx (λw1=>_=w1) ((!((k==0)||(k==2))&&(c != 0))) 7 rfl rfl rfl rfl rfl rfl ?_ ?_
    ·intro a8;refine zh ?_
     cases a7:((k==0)||(k==2))with
     |true=>
      rw[a7]at a8;apply ay (d:=67) rfl (b':=false) rfl;refine zh ?_;refine nE 64 9 rfl a8
     |false=>
      rw[a7]at a8;apply ay (d:=67) rfl (b':=true) rfl;refine zh ?_;refine nE 64 9 rfl a8
    rintro _ rfl;refine zh ?_
    cases h3:(((((k==0)||(k==2))&&(decide (c<0)||decide (36<=c))))||(!((k==0)||(k==2))&&(c != 0)))with
    |true=>
     refine zTH rfl rfl ?_;refine ah rfl rfl ⟨by simp only[fF,h1,hl,h2,named,h3];rfl,a4⟩
    |false=>
     refine zFH rfl rfl ?_;apply zc QY (dz call164 #[] xs sv (λi=>!(bV (nth kids i) true)) w1 b2 (λi hi w' hE=>Gq (λy W hy=>zP n (nth kids i) (by have:=bQ kids i zo;omega) y W true hy) (nth xs i) w' ((hk i hi).ext (a4.J hE))))
     rintro v w2 ⟨rfl,b3⟩;refine zh ?_;have b0:=gk kids;rw[hl]at b0;refine ah rfl rfl ⟨by rw[b0];simp only[fF,h1,hl,h2,named,h3];rfl,a4.J b3⟩
def gd(t:Nd)(x:N3)(w:ln)(h:Nt (λ_=>0) w t x):N1 Ma 83 [nv x] w λv w'=>v=.bool (bz t)/\MG w w':=by
 have hx:=h.ones;apply L6 func83 ntmps83 rfl rfl;refine zh ?_;apply aQ (aA w) 1 zo rfl rfl;intro xb w1 O1 a5 a6 a7 a3;have a4:∀W,MG w1 W->∀(j:Nat) (u:L0),(bu x)[j]? = some u->W.cell? (nA xb j)=some u:=λW hE j u hu=>hE.cell (a5.V j u hu)
 refine zh ?_;apply zv (ai (us:=bu x) (a4 w1 (M8 _)) (L2 _) (ix _) rfl)
 apply zc R0 (rV (nsz t) t (L1 _) x w1 2000 (h.ext a3) zo);rintro v w2 ⟨rfl,a0⟩;have hd:decide (((min (nsz t) (2000+1):Nat):Int)<=2000)=decide (nsz t<=2000):=decide_eq_decide.2 zo;refine zh ?_
 rw[hd];refine aU (MG w1) (bV t false) 2 a0 rfl rfl rfl rfl rfl ?_ ?_
 ·intro a1;refine zh ?_;refine zvH (ai (us:=bu x) (a4 _ a0) (L2 _) (ix _) rfl) ?_;apply zc call121 (zP (nsz t) t (L1 _) x _ false (h.ext (a3.J a0)));rintro v w3 ⟨rfl,a2⟩;refine zh ?_;refine nE 6 3 (a0.J a2) a1
 intro w3 a2;refine zh ?_;refine ah rfl rfl ⟨rfl,a3.J a2⟩
structure Cell0(O:Nat->Nat)(w:ln)(a:Ql)(v:L0):Prop where
 z:O a.block=0
 c:w.cell? a=some v
def Cell0.U{a:Ql}(h:Cell0 O w a v)(u:LY S O w O' w'):Cell0 O' w' a v:=by
 have a1:=NZ w a h.c;refine⟨Mn λa0=>?_,iS (u.blk _ a1 (by rw[h.z];exact u.z)) h.c⟩
 rcases u.new _ a0 with h1|h1
 ·exact h1 h.z
 omega
def Cell0.ext{a:Ql}(h:Cell0 O w a v)(e:MG w w'):Cell0 O w' a v:=⟨h.z,e.cell h.c⟩
def Jo{T xb:Nat}{O1:Nat->Nat}{w1 w2:ln}{us:Array L0}(_:0<T)(hT:∀b,O b<T)(u1:LY (λq=>q=T) O w O1 w1)(u2:LY (λq=>q=T) O1 w1 O2 w2)(hx:Mu O2 w2 T xb us E):
  MG w w2/\∀j u,us.toList[j]? = some u->Cell0 O w2 (nA xb j) u:=by
 have hO:=Mn λa0=>by
  have h1:=u1.tag xb a0;have h2:=u2.tag xb (by rw[h1];exact a0);have:=hT xb;have:=hx.tag;omega
 refine⟨aP (u1.J u2) λb e=>?_,λj u hu=>⟨?_,hx.V j u hu⟩⟩
 ·have:=hT b;omega
 show O (nA xb j).block=0;have:(nA xb j).block=xb:=by simp only[Na];split<;>rfl
 rw[this];exact hO
abbrev sZ(x:Lf):List L0:=[nI x.1,nI x.2.1,nI (x.2.2:Nat)]
abbrev K3:=L0×L0×Nat
abbrev Kd(x:K3):List L0:=[x.1,x.2.1,nI (x.2.2:Nat)]
def Lt:PA Ma 275 283 3 24:=⟨Nh,by kernel_rfl,zd⟩
def LN:PA Ma 276 280 3 56:=⟨Mv,by kernel_rfl,zd⟩
def lK:PA Ma 22 3 1 8:=⟨MS,by kernel_rfl,zd⟩
def KR:cI Ma 278 #[(0,1),(1,1),(2,1),(3,1),(4,1)]:=⟨_,underlying278,λw=>by kernel_rfl⟩
def KQ:cI Ma 280 #[(0,1),(1,1),(2,1)]:=⟨_,underlying280,λw=>by kernel_rfl⟩
def KP:cI Ma 283 #[(0,1),(1,1),(2,1)]:=⟨_,underlying283,λw=>by kernel_rfl⟩
structure Ks(O:Nat->Nat)(w:ln)(i:Nat)(kv:L0)(g:Gr)(xs:List K3):Prop where
 row:MC Kd 280 3 O w (i+2) kv xs
 len:xs.length=g.ks.length
 fr:∀k,k<xs.length->MC bp 3 1 O w (i+6+2*k) (nth xs k).1 (g.fr k)
 lv:∀k,k<xs.length->MC bp 3 1 O w (i+7+2*k) (nth xs k).2.1 (g.lv k)
 en:∀k,k<xs.length->(nth xs k).2.2=g.en k
def Ks.U{S:Nat->Prop}{O O':Nat->Nat}{w w':ln}{i:Nat}{kv:L0}{g:Gr}{xs:List K3}(h:Ks O w i kv g xs)(u:LY S O w O' w')(hS:∀q,i<=q->q<i+8+2*g.ks.length->¬S q):Ks O' w' i kv g xs:=
 have hl:=h.len
 ⟨h.row.U u zo (hS _ zo zo),h.len,λk hk=>(h.fr k hk).U u zo (hS _ zo zo),λk hk=>(h.lv k hk).U u zo (hS _ zo zo),h.en⟩
abbrev nfC(se:Bool)(lv kv nv tv:L0):Array L0:=#[.bool se,lv,kv,nv,tv]
structure NfO(O:Nat->Nat)(w:ln)(i nb:Nat)(se:Bool)(g:Gr)(nv tv lv kv:L0)(xs:List K3):Prop where
 blk:Mu O w i nb (nfC se lv kv nv tv) 278
 ls:MC sZ 283 3 O w (i+1) lv g.ls
 ks:Ks O w i kv g xs
def NfO.updT{g:Gr}{nv tv lv kv:L0}{xs:List K3}(h:NfO O w i nb se g nv tv lv kv xs)(u:LY S O w O' w')(hi:i≠0)(hS:∀q,i<=q->q<i+8+2*g.ks.length->¬S q):NfO O' w' i nb se g nv tv lv kv xs:=
 ⟨h.blk.U u hi (hS _ (L1 _) zo),h.ls.U u zo (hS _ zo zo),h.ks.U u hS⟩
def NfO.U{g:Gr}{nv tv lv kv:L0}{xs:List K3}(h:NfO O w i nb se g nv tv lv kv xs)(u:LY S O w O' w')(hi:i≠0)(hS:∀q,i<=q->¬S q):NfO O' w' i nb se g nv tv lv kv xs:=h.updT u hi λq h _=>hS q h
def NfO.ext{g:Gr}{nv tv lv kv:L0}{xs:List K3}(h:NfO O w i nb se g nv tv lv kv xs)(e:MG w w')(hi:i≠0):NfO O w' i nb se g nv tv lv kv xs:=
 h.U (ae (S:=λ_=>False) (λh=>h) O e) hi λ_ _ h=>h
def NfP(B:Nat)(O:Nat->Nat)(w w':ln)(i nb:Nat)(se:Bool)(g:Gr)(nv tv:L0):Prop:=
 ∃O' lv kv xs,LY (λq=>i<=q) O w O' w'/\N0 B O' w'/\NfO O' w' i nb se g nv tv lv kv xs
section
variable{O:Nat→Nat}{w:ln}{i nb:Nat}{se:Bool}{g:Gr}{nv tv lv kv:L0}{xs:List K3}
def NfO.c0(h:NfO O w i nb se g nv tv lv kv xs):w.cell? (nA nb 0)=some (.bool se):=h.blk.cell 0 rfl
def NfO.c1(h:NfO O w i nb se g nv tv lv kv xs):w.cell? (nA nb 1)=some lv:=h.blk.cell 1 rfl
def NfO.c2(h:NfO O w i nb se g nv tv lv kv xs):w.cell? (nA nb 2)=some kv:=h.blk.cell 2 rfl
def NfO.c3(h:NfO O w i nb se g nv tv lv kv xs):w.cell? (nA nb 3)=some nv:=h.blk.cell 3 rfl
def NfO.c4(h:NfO O w i nb se g nv tv lv kv xs):w.cell? (nA nb 4)=some tv:=h.blk.cell 4 rfl
def Ks.f0(h:Ks O w i kv g xs)(hk:k<xs.length):w.cell? ((adr kv 3 k).add 0)=some (nth xs k).1:=h.row.sl.cell (j:=0) hk rfl
def Ks.f1(h:Ks O w i kv g xs)(hk:k<xs.length):w.cell? ((adr kv 3 k).add 1)=some (nth xs k).2.1:=h.row.sl.cell (j:=1) hk rfl
end
structure Bd(g:Gr)(M:Nat):Prop where
 ks:g.ks.length<=M
 ls:g.ls.length<=M
 fr:∀k,(g.fr k).length<=M
 lv:∀k,(g.lv k).length<=M
def Bd.mono{g:Gr}{M':Nat}(h:Bd g M)(hm:M<=M'):Bd g M':=⟨by have:=h.ks;omega,by have:=h.ls;omega,λk=>by have:=h.fr k;omega,λk=>by have:=h.lv k;omega⟩
def Bd.knot{g:Gr}{M:Nat}(h:Bd g M):Bd g.knot (M+1):=⟨by rw[aS];have:=h.ks;omega,by have:=h.ls;show g.ls.length<=_;omega,λk=>by
 rw[oW];split
 ·have:=h.fr k;omega
 ·simp,λk=>by
 rw[oU];split
 ·have:=h.lv k;omega
 simp⟩
def Bd.free{g:Gr}{M:Nat}(h:Bd g M){a b:Nat}(ha:a<g.ks.length):Bd (g.free a b) (M+1):=⟨by rw[bj];have:=h.ks;omega,by have:=h.ls;show g.ls.length<=_;omega,λk=>by
 rw[eh ha];split
 ·have:=h.fr a;simp;omega
 ·have:=h.fr k;omega,λk=>by
 rw[pc ha];have:=h.lv k;omega⟩
def Bd.leaf{g:Gr}{M:Nat}(h:Bd g M){x c:Int}{a b:Nat}(ha:a<g.ks.length):Bd (g.leaf x c a b) (M+1):=⟨by rw[gL];have:=h.ks;omega,by have:=h.ls;rw[ko];simp;omega,λk=>by
 rw[oO ha];have:=h.fr k;omega,λk=>by
 rw[mE ha];split
 ·have:=h.lv a;simp;omega
 have:=h.lv k;omega⟩
def Bd.layO{g:Gr}{M:Nat}(h:Bd g M){k:Int}{i:Nat}(hi:i+1<g.ks.length):Bd (layO k g i) (M+2):=by
 unfold Ns;split<;>split
 ·exact h.mono zo
 ·exact(h.free zo).mono zo
 ·exact(h.free hi).mono zo
 exact(h.free zo).free (by rw[bj];exact hi)
def Bd.often{g:Gr}(h:Bd g M){a:Nat}(ha:a<g.ks.length):Bd (bT g a b) (M+4):=by
 have h2:g.knot.knot.ks.length=g.ks.length+2:=by rw[aS,aS]
 unfold bT;exact(h.knot.knot.free zo).free (by rw[bj];omega)
mutual
def gM:∀(t:Nd) (a b:Nat) (g:Gr) (M:Nat),WF g->a<g.ks.length->b<g.ks.length->Bd g M->Bd (fO t a b g) (M+(9*nsz t-1))
 |.mk k c l,a,b,g,M,h,ha,hb,hM=>by
  unfold fO
  simp only[nsz]
  split
  ·exact(CW l a b g M h ha hb hM).mono zo
  split
  ·exact(C1 l a b g M h ha hb hM).mono zo
  split
  ·have hl:=eC g a b
   have hwf:=fe h ha hb
   obtain⟨h1,h2⟩:=mF l g.ks.length (g.ks.length+1) (bT g a b) hwf zo zo
   have:=h2.len
   have h3:=I0 l g.ks.length (g.ks.length+1) (bT g a b) (M+4) hwf zo zo (hM.often ha)
   exact(h3.layO zo).mono zo
  split
  ·exact(hM.free ha).mono zo
  exact(hM.leaf ha).mono zo
def CW:∀(l:List Nd) (a b:Nat) (g:Gr) (M:Nat),WF g->a<g.ks.length->b<g.ks.length->Bd g M->Bd (nT l a b g) (M+9*dP l)
 |[],_,_,g,M,_,_,_,hM=>hM.mono zo
 |t::r,a,b,g,M,h,ha,hb,hM=>by
  unfold nT
  simp only[dP]
  have hp:=dy t
  split
  ·exact(gM t a b g M h ha hb hM).mono zo
  have hl:=aS g
  obtain⟨h1,h2⟩:=cQ t a g.ks.length g.knot h.knot zo zo
  have:=h2.len
  exact(CW r g.ks.length b _ _ h1 zo zo (gM t a g.ks.length g.knot (M+1) h.knot zo zo hM.knot)).mono zo
def C1:∀(l:List Nd) (a b:Nat) (g:Gr) (M:Nat),WF g->a<g.ks.length->b<g.ks.length->Bd g M->Bd (nV l a b g) (M+9*dP l)
 |[],_,_,g,M,_,_,_,hM=>hM.mono zo
 |t::r,a,b,g,M,h,ha,hb,hM=>by
  unfold nV
  simp only[dP]
  have hp:=dy t
  obtain⟨h1,h2⟩:=cQ t a b g h ha hb
  have:=h2.len
  exact(C1 r a b _ _ h1 zo zo (gM t a b g M h ha hb hM)).mono zo
def I0:∀(l:List Nd) (a b:Nat) (g:Gr) (M:Nat),WF g->a<g.ks.length->b<g.ks.length->Bd g M->Bd (nU l a b g) (M+9*dP l)
 |[],_,_,g,M,_,_,_,hM=>hM.mono zo
 |t::_,a,b,g,M,h,ha,hb,hM=>by
  unfold nU
  simp only[dP]
  exact(gM t a b g M h ha hb hM).mono zo
end
def Upd.hi{U i:Nat}{O O':Nat->Nat}{w w':ln}(h:LY (λq=>q=U) O w O' w')(hi:i≠0)(hU:i<=U):LY (λq=>i<=q) O w O' w':=h.mono (λq e=>by rw[e];exact hU) zo
def jv(B:Nat)(O:Nat->Nat)(w:ln)(i nb:Nat)(se:Bool)(g:Gr)(nv tv lv kv:L0)(xs:List K3)(hi:i≠0)(hR:N0 B O w)(h:NfO O w i nb se g nv tv lv kv xs)(hM:g.ks.length<=100000000):
  N1 Ma 177 [nP nb] w λv w'=>v=nI ((g.ks.length:Nat):Int)/\NfP B O w w' i nb se g.knot nv tv:=by
 have a0:=h.ks.len;apply L6 func177 ntmps177 rfl rfl;refine zh ?_;apply zv (RV.ld h.c2 rfl);apply zv (aI KQ (zeroValue280 _) rfl (by first|rfl|(simp only[LZ,Mc];rfl)) rfl rfl);apply NB LN h.ks.row hR (((nS,nS,0):K3)) (λ_=>rfl) rfl rfl rfl (by simp[M5]) zo zo zo zd rfl rfl;intro a3 w1 O1 a4 a5 a';have a6:=h.blk.U a5 hi zo;refine zh ?_;apply ao (j:=2) a6 rfl (sizeOf276 _) a4.one rfl rfl rfl;have a8:=a6.set 2 a3;have a2:LY (λq=>q=i) O1 w1 O1 (w1.setCell ⟨nb,2,none⟩ a3):=Mi (λe=>hi e.symm) a6.tag rfl;have a1:=a4.U a2 zo zo;generalize w1.setCell ⟨nb,2,none⟩ a3=w2 at *;have c2:w2.cell? (nA nb 2)=some a3:=a8.cell 2 rfl;have b0:=a1.sl;have b1:∀k,i+6<=k->¬(k=i+2):=λk hk=>zo
 have a7:(xs++[((nS,nS,0):K3)]).length=g.ks.length+1:=by simp[a0]
 refine zh ?_;refine ah rfl rfl ⟨by rw[a7];congr 1;omega,O1,lv,a3,xs++[(nS,nS,0)],(Upd.hi a5 hi zo).J (Upd.hi a2 hi (L1 _)),a'.U a2,⟨a8,(h.ls.U a5 zo zo).U a2 zo zo,⟨a1,by rw[a7,aS],λk hk=>?_,λk hk=>?_,λk hk=>?_⟩⟩⟩
 ·rw[aC,oW,a0]
  by_cases e:k<g.ks.length
  ·rw[ap e,ap e];exact((h.ks.fr k zo).U a5 zo zo).U a2 zo zo
  rw[am e,am e,show k-g.ks.length=0 from by omega,ar];exact MT _ _ _ _ _ _
 ·rw[aC,oU,a0]
  by_cases e:k<g.ks.length
  ·rw[ap e,ap e];exact((h.ks.lv k zo).U a5 zo zo).U a2 zo zo
  rw[am e,am e,show k-g.ks.length=0 from by omega,ar];exact MT _ _ _ _ _ _
 rw[aC,sO,a0]
 by_cases e:k<g.ks.length
 ·rw[ap e,ap e];exact h.ks.en k zo
 rw[am e,am e,show k-g.ks.length=0 from by omega,ar]
def gO(B:Nat)(O:Nat->Nat)(w:ln)(i nb:Nat)(se:Bool)(g:Gr)(nv tv lv kv:L0)(xs:List K3)(a b:Nat)(hi:i≠0)(hR:N0 B O w)(h:NfO O w i nb se g nv tv lv kv xs)(ha:a<g.ks.length)(hM:(g.fr a).length<=100000000)(b8:g.ks.length<=100000000):
  N1 Ma 178 [nP nb,nI (a:Nat),nI (b:Nat)] w λ_ w'=>NfP B O w w' i nb se (g.free a b) nv tv:=by
 have a8:=h.ks.len;have a2:a<xs.length:=zo;have hs:=h.ks.row.sl;apply L6 func178 ntmps178 rfl rfl;have a0:w.drew.cell? (nA nb 2)=some kv:=h.c2;have b6:w.drew.cell? ((adr kv 3 a).add 0)=some (nth xs a).1:=(h.ks.f0 a2);apply aO (λW=>W.cell? (nA nb 2)=some kv) 19 rfl zk;apply zrm 0 rfl a0 rfl;apply zr 1 rfl a0 (λ_=>aq rfl);apply zrf 2 rfl a0 rfl;apply zt 3 rfl a0 (λw1 a7=>RV.ld a7 rfl);apply zrm 4 rfl a0 rfl;apply zrm 5 rfl a0 rfl;apply zr 6 rfl a0 (λ_=>aq rfl);apply zrf 7 rfl a0 rfl;apply zt 8 rfl a0 (λw1 a7=>RV.ld a7 rfl);apply zrm 9 rfl a0 rfl;apply zr 10 rfl a0 (λ_=>aj hs.sh Mv (N7 _) rfl rfl a rfl a2);apply zrf 11 rfl a0 rfl;apply zrm 13 rfl a0 rfl;apply cG 12 14 lK (enc:=bp) b rfl rfl zk zk zk zk (λW hE=>QD (hE.cell b6) (isAgg22 _) rfl) (λW hE=>hE.cell a0) rfl rfl rfl zd rfl rfl rfl rfl rfl;intro sv w0 b1 b5;have b0:LY (λ_=>False) O w O w0:=ae (λh=>h) O ((M8 w).drew.J b5);have h0:=h.U b0 hi λ_ _ h=>h
 apply Mf 15 zk rfl;apply aF lK (h0.ks.fr a a2) (hR.U b0) b1 (by simp) rfl rfl (by simp) (by simp[M5]) (by simp;omega) (by simp;omega) zo rfl;intro fv w1 O1 a6 a4 b3;have h1:=h0.blk.U a4 hi zo;have d1:w1.cell? (nA nb 2)=some kv:=h1.cell 2 rfl;refine zh ?_;apply af d1;apply zr 16 rfl d1 (λ_=>aj hs.sh Mv (N7 _) rfl rfl a rfl a2);apply zrf 17 rfl d1 rfl;apply Mf 18 zk rfl;apply pJ (h0.ks.row.U a4 zo zo) a a2 0 zd ((fv,(nth xs a).2.1,(nth xs a).2.2):K3) (QJ _) a6.one zo rfl rfl rfl rfl;intro w2 a9 a3;have h2:=h1.U a3 hi zo;have d2:w2.cell? (nA nb 2)=some kv:=h2.cell 2 rfl;refine zh ?_;apply af d2;have b2:LY (λq=>i<=q) O w O1 w2:=((b0.mono (λ_ h=>h.elim) zo).J (Upd.hi a4 hi zo)).J (Upd.hi a3 hi zo);have a5:∀k,k<xs.length->k≠a->MC bp 3 1 O1 w2 (i+6+2*k) (nth xs k).1 (g.fr k):=λk hk b7=>((h0.ks.fr k hk).U a4 zo zo).U a3 zo zo
 have a1:∀k,k<xs.length->MC bp 3 1 O1 w2 (i+7+2*k) (nth xs k).2.1 (g.lv k):=λk hk=>((h0.ks.lv k hk).U a4 zo zo).U a3 zo zo
 apply MY zk;refine aK rfl ⟨O1,lv,kv,xs.set a (fv,(nth xs a).2.1,(nth xs a).2.2),b2,b3.U a3,⟨h2,(h0.ls.U a4 zo zo).U a3 zo zo,⟨a9,by rw[M1,bj];exact a8,λk hk=>?_,λk hk=>?_,λk hk=>?_⟩⟩⟩
 ·rw[M1]at hk;rw[bf a2,eh ha]
  by_cases e:k=a
  ·subst e;rw[ap rfl,ap rfl];exact a6.U a3 zo zo
  rw[am e,am e];exact a5 k hk e
 ·rw[M1]at hk;rw[bf a2,pc ha]
  by_cases e:k=a
  ·subst e;rw[ap rfl];exact a1 k hk
  rw[am e];exact a1 k hk
 rw[M1]at hk;rw[bf a2,yl ha]
 by_cases e:k=a
 ·subst e;rw[ap rfl];exact h.ks.en k hk
 rw[am e];exact h.ks.en k hk
section
def Bv(s:List UInt8)(m:List UInt8×Nd):Bool:=(m.1==s&&bz m.2)&&(m.2.kind != 9)
def gZ(kn:Kn)(r:List UInt8):PR:=
 if r.takeWhile ak=[97,110,121]then .ok (.mk 1 0 []) (r.dropWhile ak)
 else match kn.reverse.find? (Bv (r.takeWhile ak))with
  |some m=>.ok m.2 (r.dropWhile ak)
  |none=>ew 0 r
def jH(kn:Kn)(al:Option (List UInt8->PR))(r0:List UInt8):PR:=
 if ak ((az r0).headD 0)=true then gZ kn (az r0)
 else if(az r0).headD 0=126 then ew 2 (az r0).tail
 else if(az r0).headD 0=94 then .ok (.mk 3 0 []) (az r0).tail
 else if(az r0).headD 0=40 then cS al (az r0)
 else .bad (az r0).length 4
def fE(kn:Kn)(al:Option (List UInt8->PR))(r0:List UInt8):PR:=
 match jH kn al r0 with
 |.bad p e=>.bad p e
 |.ok t r1=>
  match opM ((az r1).headD 0)with
  |some k=>.ok (.mk (6+(k:Nat)) 0 [t]) (az r1).tail
  |none=>.ok t (az r1)
def dV(kn:Kn)(al:Option (List UInt8->PR)):Nat->List Nd->List UInt8->PR
 |0,acc,r=>.ok (oneM 4 acc) r
 |n+1,acc,r=>
  if fS ((az r).headD 0)=true then
   match fE kn al (az r)with
   |.bad p e=>.bad p e
   |.ok t r2=>dV kn al n (acc++[t]) r2
  else .ok (oneM 4 acc) (az r)
def D5(kn:Kn)(al:Option (List UInt8->PR))(r:List UInt8):PR:=
 match fE kn al r with
 |.bad p e=>.bad p e
 |.ok t r1=>dV kn al (r1.length+1) [t] r1
def dq(kn:Kn)(al:Option (List UInt8->PR)):Nat->List Nd->List UInt8->PR
 |0,acc,r=>.ok (oneM 5 acc) r
 |n+1,acc,r=>
  if(az r).headD 0=124 then
   match D5 kn al (az r).tail with
   |.bad p e=>.bad p e
   |.ok t r2=>dq kn al n (acc++[t]) r2
  else .ok (oneM 5 acc) (az r)
def pG(kn:Kn)(al:Option (List UInt8->PR))(r:List UInt8):PR:=
 match D5 kn al r with
 |.bad p e=>.bad p e
 |.ok t r1=>dq kn al (r1.length+1) [t] r1
def yx(kn:Kn):Nat->List UInt8->PR
 |0=>pG kn none
 |d+1=>pG kn (some (yx kn d))
def fQ(kn:Kn)(l:List UInt8):XR:=
 if 4096<l.length then .bad 0 3 else
 match yx kn 20 l with
 |.bad p e=>.bad (l.length-p) e
 |.ok t r=>if(az r).length≠0 then .bad (l.length-(az r).length) 4 else if 2000<nsz t then .bad 0 3 else .ok t
variable{kn:Kn}
def xU(r:List UInt8)(h:ak (r.headD 0)=true):Good r (gZ kn r):=by
 unfold gZ
 split
 ·exact kj h
 split
 ·exact kj h
 exact px _ _
def rD{al:Option (List UInt8->PR)}(ha:nJ al)(r:List UInt8):Good r (jH kn al r):=by
 refine Good.mono ?_ (bC r);unfold jH
 split
 ·rename_i h;exact xU _ h
 split
 ·rename_i h;obtain⟨g1,g2⟩:=cO (r:=az r) (by rw[h];decide);exact(px _ _).mono g1
 split
 ·rename_i h;obtain⟨g1,g2⟩:=cO (r:=az r) (by rw[h];decide);exact⟨g1,zo⟩
 split
 ·rename_i h;exact qo ha _ (by rw[h];decide)
 exact⟨L1 _,zd⟩
def gF{al:Option (List UInt8->PR)}(ha:nJ al)(r:List UInt8):Good r (fE kn al r):=by
 have h:=rD (kn:=kn) ha r;unfold fE
 cases hf:jH kn al r with
 |bad p e=>rw[hf]at h;exact h
 |ok t r1=>
  rw[hf]at h;have h2:=dS r1;dsimp only
  split
  ·rename_i k hk;obtain⟨g1,g2⟩:=cO (GU hk);exact⟨(g1.J (bC r1)).J h.1,by have:=h.2;omega⟩
  exact⟨(bC r1).J h.1,by have:=h.2;omega⟩
def kU{al:Option (List UInt8->PR)}(ha:nJ al):∀(n:Nat) (a0:List Nd) (r:List UInt8),Ky r (dV kn al n a0 r)
 |0,a0,r=>ND r
 |n+1,a0,r=>by
  unfold dV
  split
  ·have h:=(gF (kn:=kn) ha (az r)).mono (bC r)
   cases hf:fE kn al (az r)with
   |bad p e=>rw[hf]at h;exact h
   |ok t r2=>
    rw[hf]at h;have ih:=kU ha n (a0++[t]) r2;dsimp only
    cases hq:dV kn al n (a0++[t]) r2 with
    |bad p e=>rw[hq]at ih;exact⟨by have:=ih.1;have:=h.2;omega,ih.2⟩
    |ok t r3=>rw[hq]at ih;exact MN ih h.1
  exact bC r
def kV{al:Option (List UInt8->PR)}(ha:nJ al)(r:List UInt8):Good r (D5 kn al r):=by
 have h:=gF (kn:=kn) ha r;unfold D5
 cases hf:fE kn al r with
 |bad p e=>rw[hf]at h;exact h
 |ok t r1=>
  rw[hf]at h;have ih:=kU (kn:=kn) ha (r1.length+1) [t] r1;dsimp only
  cases hq:dV kn al (r1.length+1) [t] r1 with
  |bad p e=>rw[hq]at ih;exact⟨by have:=ih.1;have:=h.2;omega,ih.2⟩
  |ok t r3=>rw[hq]at ih;exact⟨MN ih h.1,by have:=Nv ih;have:=h.2;omega⟩
def jR{al:Option (List UInt8->PR)}(ha:nJ al):∀(n:Nat) (a0:List Nd) (r:List UInt8),Ky r (dq kn al n a0 r)
 |0,a0,r=>ND r
 |n+1,a0,r=>by
  unfold dq
  split
  ·rename_i hc;obtain⟨g1,g2⟩:=cO (r:=az r) (by rw[hc];decide);have h:=((kV (kn:=kn) ha (az r).tail).mono g1).mono (bC r)
   cases hf:D5 kn al (az r).tail with
   |bad p e=>rw[hf]at h;exact h
   |ok t r2=>
    rw[hf]at h;have ih:=jR ha n (a0++[t]) r2;dsimp only
    cases hq:dq kn al n (a0++[t]) r2 with
    |bad p e=>rw[hq]at ih;exact⟨by have:=ih.1;have:=h.2;omega,ih.2⟩
    |ok t r3=>rw[hq]at ih;exact MN ih h.1
  exact bC r
def pF{al:Option (List UInt8->PR)}(ha:nJ al)(r:List UInt8):Good r (pG kn al r):=by
 have h:=kV (kn:=kn) ha r;unfold pG
 cases hf:D5 kn al r with
 |bad p e=>rw[hf]at h;exact h
 |ok t r1=>
  rw[hf]at h;have ih:=jR (kn:=kn) ha (r1.length+1) [t] r1;dsimp only
  cases hq:dq kn al (r1.length+1) [t] r1 with
  |bad p e=>rw[hq]at ih;exact⟨by have:=ih.1;have:=h.2;omega,ih.2⟩
  |ok t r3=>rw[hq]at ih;exact⟨MN ih h.1,by have:=Nv ih;have:=h.2;omega⟩
def jz:∀(d:Nat) (r:List UInt8),Good r (yx kn d r)
 |0,r=>pF (λf e=>by cases e) r
 |d+1,r=>pF (λf e r=>by cases e;exact jz d r) r
def xS{r:List UInt8}{m:List UInt8×Nd}(ha:¬r.takeWhile ak=[97,110,121])(h:kn.reverse.find? (Bv (r.takeWhile ak))=some m):gZ kn r=.ok m.2 (r.dropWhile ak):=by
 unfold gZ;rw[am ha,h]
def xT{r:List UInt8}(ha:¬r.takeWhile ak=[97,110,121])(h:kn.reverse.find? (Bv (r.takeWhile ak))=none):gZ kn r=ew 0 r:=by
 unfold gZ;rw[am ha,h]
end
end Go.Proofs.YteolbhblkgjbhaaGreatDoor
namespace Go.VL
section
open Go.RowKit
section
variable{P:Ml}{N:Nat}{ro:Option Nat}{ds:List Deferred}{Q:NR→Q3→ln→Prop}{st:St}{w:ln}
def Br{ops:Array N4}{p:String}{e:Array P7}{z:MK}{a3:Array L8}{l:Nat}{u u2:L0}{R:Ending->ln->Prop} 
  (hx:ev st x=some (.func (.yield l) #[] #[])) (hy:ev st y=some u) (hz:ev st z=some u2) (hc:YieldAt Nc 0 P l #[u,u2] w R) (hd:MD d N=true)
  (hR:∀e w',R e w'->∃v,e=.returned v)
  (h:∀v w',R (.returned v) w'->WLI none P N ds ops Q a1 ((d,v)::st) w'):WLI none P N ds ops Q (⟨some d,.call ⟨.value x,#[y,z],a3⟩,t,p,e,none⟩::a1) st w:=by
 intro a ha;unfold wpListIn;rw[ap (di rfl _)];refine⟨λ_ _=>trivial,?_⟩;obtain⟨fn,a0,assign,body,a4,hr⟩:=hc;have a2:(Oper.semAt (Fr none).round ({ a with defers:=ds }:Q3).eval ⟨some d,.call ⟨.value x,#[y,z],a3⟩,t,p,e,none⟩).run P w=.ok (.round l fn a0 assign body) w:=by
  rw[ku];rw[show(Fr none).round=none from rfl,Oper.semAt_none];simp only[execOp,resolve,MB,Me,MM,ha.ev hx,ha.ev hy,ha.ev hz];simp[Ra,invoke,a4]
 rw[a2];refine⟨λhh=>by simp[Nc]at hh,?_⟩;apply Rg (hr:RoundIn Nc _ P l fn a0 assign body w _);intro e' w' q;obtain⟨v,rfl⟩:=hR _ _ q;have:=h v w' q _ (ha.put hd v);simpa[Rb]using this
end
def Kx(P:Ml)(gf:Nat)(lb:List L0)(ex:Nat->L0)(enc:α->L0)(xs:List α)(Rd:ln->Prop):Prop:=
 ∀(l:Nat) (J:Nat->ln->Prop) (Jx:ln->Prop) (W:ln),(∀i W,J i W->Rd W)->(∀i W W',J i W->MG W W'->J i W')->
  (∀i (hi:i<xs.length) W W',J i W->MG W W'->YieldAt Nc 0 P l #[ex i,enc xs[i]] W' λe W2=>((e=.returned (.bool true)/\J (i+1) W2)\/(e=.returned (.bool false)/\Jx W2))/\∀b,W.heap.size<=b->b<W'.heap.size->W2.heap[b]? = W'.heap[b]?)->
  J 0 W->N1 P gf (.func (.yield l) #[] #[]::lb) W λ_ W'=>J xs.length W'\/Jx W'
def tz{ds:List Deferred}{st:St}{g:MK}{p0 p1 d0:Nat}{id:Nat}{e1 e2:Array P7}{q1 q2:String}{t1 t2:L8}{body:Rk} 
  {gf:Nat} {lb:List L0} {ex:Nat->L0} {enc:α->L0} {xs:List α} {Rd:ln->Prop}
  (hg:ev st g=some (.func (.func gf) #[] lb.toArray)) (eg:∀args w,(callFunc gf args).run P w=.ok (.enter gf args) w) (it:Kx P gf lb ex enc xs Rd)
  (e':MD p0 N=true) (e9:MD p1 N=true) (f7:MD d0 N=true)  (hz:∀W:ln,(NT T).run P W=.ok z W) 
    (r:N0 B O w) (L K:Nat) (hL:L≠0) (hK:K≠0) (d3:L≠K)
  (b0:∀(W:ln) (O':Nat->Nat) (b:Nat) (y:L0) (x:α) (_:x∈xs) (ops:Array N4) (Q':NR->Q3->ln->Prop),Mu O' W K b z.cells T->
   (∀w2,Mu O' w2 K b (enc x).cells T->LY (λj=>j=K) O' W O' w2->WL P N ops Q' [] ((d0,nP b)::(p1,enc x)::(p0,y)::st) w2)->
   WL P N ops Q' [⟨none,.store T (.tmp d0) (.tmp p1),t2,q2,e2,none⟩] ((d0,nP b)::(p1,enc x)::(p0,y)::st) W)
  (I:Nat->(Nat->Nat)->ln->Prop) (Ix:Rk->(Nat->Nat)->ln->Prop)
  (hI:∀i O W O' W',I i O W->LY (λj=>j=L\/j=K) O W O' W'->I i O' W') (d4:∀c O W O' W',Ix c O W->LY (λj=>j=L) O W O' W'->Ix c O' W')
  (g1:∀i O W,I i O W->Rd W) (h0:I 0 O w)
  (b6:∀l i (hi:i<xs.length) b O' W,N0 B O' W->I i O' W->Mu O' W K b (enc xs[i]).cells T->
   WI (some l) P N [] body (Cm O' W L (I (i+1)) Ix) ((d0,nP b)::(p1,enc xs[i])::(p0,ex i)::st) W)
  (b5:∀D O' W,N0 B O' W->O' D=L->I xs.length O' W->W.heap[D]? = some (.deferred (some []))->QI N ({ target:=.collected D,args:=#[] }::ds) Q .normal st W)
  (hstop:∀D c O' W,N0 B O' W->O' D=L->Ix c O' W->W.heap[D]? = some (.deferred (some []))->WI none P N ({ target:=.collected D,args:=#[] }::ds) c Q st W) :
  WI none P N ds (.rangeFunc g #[p0,p1] (.region id #[⟨some d0,.alloc T,t1,q1,e1,none⟩,⟨none,.store T (.tmp d0) (.tmp p1),t2,q2,e2,none⟩] false) body) Q st w:=by
 intro a ha;apply wpIn_rangeFunc;intro fn g7;rw[show(Fr none).round=none from rfl];obtain⟨D,hD⟩:∃D,D=w.heap.size:=⟨_,rfl⟩
 obtain⟨e8,b8⟩:∃c,c=Code.region id #[⟨some d0,.alloc T,t1,q1,e1,none⟩,⟨none,.store T (.tmp d0) (.tmp p1),t2,q2,e2,none⟩] false:=⟨_,rfl⟩
 rw[<-b8];obtain⟨a5,a2⟩:∃a5:LoopState->Option Rk->Loop,a5=λst pe=>{ state:=st,pending:=pe,fn,tmps:=a.tmps,params:=#[p0,p1],assign:=e8,body,defers:=D }:=⟨_,rfl⟩
 obtain⟨W1,b'⟩:∃W1,(w.alloc (.deferred (some []))).alloc (.loop (a5 .ready none))=W1:=⟨_,rfl⟩
 obtain⟨O1,d2⟩:∃O1,mq (mq O D L) (D+1) L=O1:=⟨_,rfl⟩
 have d6:¬(λj=>j=L) 0:=λe=>hL e.symm
 have e5:LY (λj=>j=L) O w (mq O D L) (w.alloc (.deferred (some []))):=by rw[hD];exact NH d6 r _ L
 have e6:LY (λj=>j=L) O w O1 W1:=by
  rw[<-b',<-d2];apply e5.J;have:=NH (S:=λj=>j=L) d6 (r.U e5) (.loop (a5 .ready none)) L
  rwa[PM,<-hD]at this
 have g3:W1.heap[D+1]? = some (.loop (a5 .ready none)):=by
  rw[<-b',hD];have:=Pa (w.alloc (.deferred (some []))) (.loop (a5 .ready none));rwa[PM]at this
 have g4:W1.heap[D]? = some (.deferred (some [])):=by
  rw[<-b',hD];exact(Below.heap_alloc _ _ _ (by simp)).J (Pa w _)
 have hO1D:O1 D=L:=by rw[<-d2];unfold mq;rw[am zo,ap rfl]
 have hO1L:O1 (D+1)=L:=by rw[<-d2];exact eM _ _ _
 have g5:=hI _ _ _ _ _ h0 (e6.mono (λ_ h=>.inl h) (by rintro(h|h);exact hL h.symm;exact hK h.symm))
 refine⟨D+1,[{ target:=.collected D,args:=#[] }],W1,{ target:=.fn (.func gf) lb.toArray,args:=#[.func (.yield (D+1)) #[] #[]] },W1,gf,
  #[.func (.yield (D+1)) #[] #[]]++lb.toArray,W1,?_,?_,λ_ _=>trivial,?_,λhh=>by simp[Nc]at hh,?_⟩
 ·rw[<-b',a2,hD];exact run_enterLoop_outer _ _ _ _ _
 ·simp only[resolve,ha.evD hg ds];simp[go_sem]
 ·simp[invoke,go_sem,eg]
 have hJ:=it (D+1)
  (λi W=>∃O',N0 B O' W/\O' D=L/\O' (D+1)=L/\I i O' W/\W.heap[D+1]? = some (.loop (a5 .ready none))/\W.heap[D]? = some (.deferred (some [])))
  (λW=>∃c O',N0 B O' W/\O' D=L/\O' (D+1)=L/\Ix c O' W/\W.heap[D+1]? = some (.loop (a5 .done (some c)))/\W.heap[D]? = some (.deferred (some [])))
  W1 (λi W ⟨O',_,_,_,h,_⟩=>g1 i O' W h) (λi W W' ⟨O',h1,h2,h3,h4,h5,h6⟩ hE=>⟨O',h1.ext hE,h2,h3,hI _ _ _ _ _ h4 (ae (by rintro(h|h);exact hL h.symm;exact hK h.symm) _ hE),(hE.block _ (bN h5)).J h5,(hE.block _ (bN h6)).J h6⟩) ?_ ⟨O1,r.U e6,hO1D,hO1L,g5,g3,g4⟩
 ·unfold N1 at hJ;rw[show(Value.func (.yield (D+1)) #[] #[]::lb).toArray = #[.func (.yield (D+1)) #[] #[]]++lb.toArray from by simp]at hJ;apply Rl (callsIn_wide.2 hJ:CallsIn Nc _ P gf _ W1 _);rintro e W2 q
  cases e with
  |returned v=>
   rcases q with⟨O',a7,b2,b1,hi,hl,hk⟩|⟨c,O',a7,b2,b1,hi,hl,hk⟩
   ·refine⟨none,_,by have:=run_endLoop (P:=P) hl (by rw[a2];simp);rw[a2]at this;exact this,?_⟩;have b3:=Ni hL b1 (w:=W2) (.loop { a5 .ready none with state:=.exhausted });rw[a2]at b3;have:=b5 D O' _ (a7.U b3) b2 (hI _ _ _ _ _ hi (b3.mono (λ_ h=>.inl h) (by rintro(h|h);exact hL h.symm;exact hK h.symm))) ((Mt zo).J hk) a ha;exact this
   refine⟨some c,_,by have:=run_endLoop (P:=P) hl (by rw[a2];simp);rw[a2]at this;exact this,?_⟩;have b3:=Ni hL b1 (w:=W2) (.loop { a5 .done (some c)with state:=.exhausted });rw[a2]at b3;exact hstop D c O' _ (a7.U b3) b2 (d4 _ _ _ _ _ hi b3) ((Mt zo).J hk) a ha
  |panicked c=>exact q.elim
  |outgrown=>exact q.elim
 rintro i hi W0 W ⟨O',e7,b2,b1,c8,c7,e0⟩ c5;have a7:=e7.ext c5;have hl:=(c5.block _ (bN c7)).J c7;have hk:=(c5.block _ (bN e0)).J e0;have g6:=bN c7;have hy:=run_yield (P:=P) (args:=#[ex i,enc xs[i]]) hl (by rw[a2];rfl);rw[a2]at hy;refine⟨fn,_,e8,body,hy,roundIn_of_wpIn trivial ?_⟩;have c9:R6 N ((a.put (some p0) (ex i)).put (some p1) (enc xs[i])) ((p1,enc xs[i])::(p0,ex i)::st):=(ha.put e' _).put e9 _;have d1:({ tmps:=(#[p0,p1].zip #[ex i,enc xs[i]]).foldl (λtmps (t,a)=>tmps.setIfInBounds t a) a.tmps,defers:=[] }:Q3) = { (a.put (some p0) (ex i)).put (some p1) (enc xs[i])with defers:=[] }:=by simp[Rb]
 rw[d1];rw[b8];refine(Ms (ro:=some (D+1)) (ds:=[]) (P:=P) (N:=N) (.inr rfl) (λ_ _ h=>h) ?_:WI (some (D+1)) P N [] _ _ ((p1,enc xs[i])::(p0,ex i)::st) W) _ c9;apply aw a7 K hK (hz W) f7;intro b w1 O2 hb g0 g9 g';apply b0 w1 O2 b (ex i) xs[i] (NF hi) _ _ hb;intro w2 b7 f';refine Pj (MU ?_);intro a3 f9;have c6:D+1<W.heap.size:=(Array.getElem?_eq_some_iff.1 hl).1;have b9:LY (λj=>j=K) O' W O2 w2:=g0.J f';have d9:w2.heap[D+1]? = some (.loop (a5 .ready none)):=(b9.blk (D+1) c6 (by rw[b1];exact d3)).J hl;have f5:w2.heap[D]? = some (.deferred (some [])):=(b9.blk D zo (by rw[b2];exact d3)).J hk;have ho2L:O2 (D+1)=L:=(b9.tag (D+1) (by rw[b1];exact hL)).J b1;have ho2D:O2 D=L:=(b9.tag D (by rw[b2];exact hL)).J b2;refine⟨_,run_beginRound d9 (by rw[a2]),?_⟩;have e4:=Ni hL ho2L (w:=w2) (.loop { a5 .ready none with state:=.busy });have a':¬(λj=>j=L\/j=K) 0:=by rintro(h|h);exact hL h.symm;exact hK h.symm
 have a1:LY (λj=>j=L\/j=K) O' W O2 (w2.putObj (D+1) (.loop { a5 .ready none with state:=.busy })):=(b9.mono (λ_ h=>.inr h) a').J (e4.mono (λ_ h=>.inl h) a');have d8:(w2.putObj (D+1) (.loop { a5 .ready none with state:=.busy })).heap[D+1]? = some (.loop { a5 .ready none with state:=.busy }):=P4 (bN d9);have d':(w2.putObj (D+1) (.loop { a5 .ready none with state:=.busy })).heap[D]? = some (.deferred (some [])):=(Mt zo).J f5;generalize w2.putObj (D+1) (.loop { a5 .ready none with state:=.busy })=w3 at *;apply wpIn_mono (b6 (D+1) i hi b O2 _ (a7.U a1) (hI _ _ _ _ _ (hI _ _ _ _ _ c8 (ae (S:=λj=>j=L\/j=K) (by rintro(h|h);exact hL h.symm;exact hK h.symm) O' c5)) a1) (b7.U e4 hK (λe=>d3 e.symm)) a3 f9);have d5:∀(a0:Option Rk) (O4:Nat->Nat) (w4:ln),LY (λj=>j≠0/\j≠L) O2 w3 O4 w4->
   (Instr.endRound (D+1) a0).run P w4=.ok (.bool a0.isNone) (w4.putObj (D+1) (.loop (a5 (if a0.isNone then .ready else .done) a0)))/\
   LY (λj=>j=L) O4 w4 O4 (w4.putObj (D+1) (.loop (a5 (if a0.isNone then .ready else .done) a0)))/\O4 D=L/\O4 (D+1)=L/\
   (w4.putObj (D+1) (.loop (a5 (if a0.isNone then .ready else .done) a0))).heap[D+1]? = some (.loop (a5 (if a0.isNone then .ready else .done) a0))/\
   (w4.putObj (D+1) (.loop (a5 (if a0.isNone then .ready else .done) a0))).heap[D]? = some (.deferred (some [])):=by
  intro a0 O4 w4 a6;have d7:=(a6.blk (D+1) (bN d8) (by rw[ho2L];exact λh=>h.2 rfl)).J d8;have ho4D:O4 D=L:=(a6.tag D (by rw[ho2D];exact hL)).J ho2D;have ho4L:O4 (D+1)=L:=(a6.tag (D+1) (by rw[ho2L];exact hL)).J ho2L;have:=run_endRound (P:=P) a0 d7;rw[a2]at this ⊢;exact⟨this,Ni hL ho4L _,ho4D,ho4L,P4 (bN d7),(Mt zo).J ((a6.blk D (bN d') (by rw[ho2D];exact λh=>h.2 rfl)).J d')⟩
 have a9:∀(O4:Nat->Nat) (w4:ln) (o:Obj),LY (λj=>j≠0/\j≠L) O2 w3 O4 w4->∀b,W0.heap.size<=b->b<W.heap.size->(w4.putObj (D+1) o).heap[b]? = W.heap[b]?:=by
  intro O4 w4 o a6 b g8 b7;have e3:O' b=0:=Mn λf3=>by have:=(e7.rng b f3).2;omega
  have e1:=a1.blk b b7 (by rw[e3];rintro(h|h);exact hL h.symm;exact hK h.symm);have e2:=a6.blk b (PN b7 a1.size) (by rw[a1.zero b7 e3];exact λh=>h.1 rfl);rw[Mt zo,e2,e1]
 rintro e a4 w4 q
 cases e with
 |normal=>
  obtain⟨O4,a6,b4⟩:=q;obtain⟨hr,a8,h1,h2,h3,h4⟩:=d5 none O4 w4 a6;exact⟨_,_,hr,.inl ⟨rfl,O4,((a7.U a1).U a6).U a8,h1,h2,hI _ _ _ _ _ b4 (a8.mono (λ_ h=>.inl h) a'),h3,h4⟩,a9 O4 w4 _ a6⟩
 |ret=>
  obtain⟨O4,a6,b4⟩:=q;obtain⟨hr,a8,h1,h2,h3,h4⟩:=d5 (some .ret) O4 w4 a6;exact⟨_,_,hr,.inr ⟨rfl,.ret,O4,((a7.U a1).U a6).U a8,h1,h2,d4 _ _ _ _ _ b4 a8,h3,h4⟩,a9 O4 w4 _ a6⟩
 |exit id'=>
  obtain⟨O4,a6,b4⟩:=q;obtain⟨hr,a8,h1,h2,h3,h4⟩:=d5 (some (.exit id')) O4 w4 a6;exact⟨_,_,hr,.inr ⟨rfl,.exit id',O4,((a7.U a1).U a6).U a8,h1,h2,d4 _ _ _ _ _ b4 a8,h3,h4⟩,a9 O4 w4 _ a6⟩
 |_=>exact q.elim
end
end Go.VL
section
namespace Go.VL
section
variable{P:Ml}{N:Nat}{ops:Array N4}{Q:NR→Q3→ln→Prop}{rest:List N4}{st:St}{w:ln}
variable{t:L8}{p:String}{e:Array P7}{d:Nat}{x y z:MK}
def aN{a0:Nat}(he:PA P T E sz a0)(r:N0 B O w)(i:Nat)(a6:i≠0)(u:α)(hx:ev st x=some xv)(a2:xv.cells.toList=enc u)(a3:(enc u).length=sz)(hs:sz<=16777216)(hd:MD d N=true) 
  (h:∀v w' O',MC enc E sz O' w' i v [u]->LY (λk=>k=i) O w O' w'->N0 B O' w'->WL P N ops Q rest ((d,v)::st) w'):WL P N ops Q (⟨some d,.buildSlice T 1 #[(0,x)],t,p,e,none⟩::rest) st w:=by
 obtain⟨a4,z,hi,hz,a1,a9,a8⟩:=he.parts;have a7:xv.cells.size=sz:=by rw[<-a3,<-a2];simp
 have a5:=he.pos;have u1:=NH (S:=λk=>k=i) (λe=>a6 e.symm) r (.cells xv.cells E) i;refine Nu (v:=.slice (some ⟨w.heap.size,0,none⟩) 1 1) (w':=w.alloc (.cells xv.cells E)) hd (λa ha=>?_) (h _ _ (mq O w.heap.size i) ⟨⟨?_,λg hg=>?_⟩,λc hc=>by rw[Mw.1 hc];exact a3⟩ u1 (r.U u1))
 ·have:=run_buildSlice (P:=P) w T E 1 #[(0,xv)] xv.cells a4 z he.ht hi hz (by rw[a1];omega) (by rw[a1];omega) (by
   rw[a1]
   exact lF a7 (by simp))
  simp only[execOp,MB,Me,MM,ha.ev hx,L7,this,L3];rfl
 ·have:=World.ownsRow_lit (base:=0) (size:=sz) (e:=E) w xv.cells 1 (L9 _) (by simp[maxLen]) zo;simpa[a2]using this
 simp[Value.ownBlock]at hg;subst hg;exact eM _ _ _
end
section
variable{P:Ml}{N:Nat}{st:St}{w:ln}{fn:Func}{R:L0→ln→Prop}
def jh{t:Tmp}{q:Ql}(hr:fn.results = #[.cell t T])(hv:cV st t=some (.pointer (some q))) 
  (hc:∀j u,us[j]? = some u->w.cell? (q.add j)=some u) (hT:(isAgg T).run P w=.ok true w) (hn:(Qi T).run P w=.ok us.length w) (h:R (.agg us.toArray) w):Leave P N fn R [] st w:=
 Leave.nil (λa ha=>by have h1:=ha.get _ _ hv;simp[results,hr,Array.getD_eq_getD_getElem?,h1,asAddr,dW hc hT hn]) h
end
end Go.VL
namespace Go.Proofs.YteolbhblkgjbhaaGreatDoor
open Go.VL Go.Proofs
set_option maxRecDepth 10000
def elM:PA Ma 112 197 4 56:=⟨QR,by kernel_rfl,zd⟩
def vP(q:Option Ql)(n c:Nat)(w:ln):N1 Ma 271 [.slice q n c] w λv w'=>∃b,v=.func (.func 272) #[] #[nP b]/\w'.cell? ⟨b,0,none⟩=some (.slice q n c)/\w.heap.size<=b/\MG w w':=by
 apply L6 func271 ntmps271 rfl rfl;refine zh ?_
 apply aQ (aA w) 1 zo rfl rfl;intro b w1 O1 hb a2 a0 a1;refine zh ?_
 refine zvH (eo rfl rfl) ?_;refine ah rfl rfl ⟨b,rfl,hb.cell 0 rfl,(a0.rng b (by rw[hb.tag];decide)).1,a1⟩
def Cn[Inhabited α]{l:List α}(h:i<l.reverse.length):l.reverse[i]=nth l (l.length-1-i):=by
 rw[MF]at h;rw[List.getElem_reverse,aD zo]
def qp(kv:L0)(ms:List M3)(b:Nat):Kx Ma 272 [nP b] (λi=>nI ((ms.length:Int)-1-(i:Int))) (λm:M3=>.agg (eU m).toArray) ms.reverse (λW=>W.cell? ⟨b,0,none⟩=some kv/\Sl eU 4 W kv ms):=by
 intro lp J Jx W a3 a9 hY h0;obtain⟨a8,a4⟩:=a3 _ _ h0;have a6:=a4.len_le;have a5:ms.reverse.length=ms.length:=MF;apply mR func272 ntmps272 rfl rfl;apply MI;apply Ms (.inl rfl) (λ_ _ h=>h);refine zh ?_;apply MU;apply bh;apply PC;apply WI.loop (λx:Nat×ln×Int=>[(0,.func (.yield lp) #[] #[]),(1,nP b),(3,nI x.2.2)]) (λx:Nat×ln×Int=>x.2.1) (λx:Nat×ln×Int=>x.1<=ms.length/\J x.1 x.2.1/\x.2.2=(ms.length:Int)-1-(x.1:Nat)) (λx:Nat×ln×Int=>ms.length-x.1) (0,W,(ms.length:Int)-1) ⟨L9 _,h0,by dsimp only;omega⟩ ⟨rfl,rfl,rfl,trivial⟩ rfl;rintro⟨i,w1,z⟩ ⟨hi,hJ,hz⟩;dsimp only at hi hJ hz ⊢;subst hz;obtain⟨hb,hs⟩:=a3 _ _ hJ;apply MI;apply MI;apply Ms (.inl rfl) (λ_ _ h=>h);refine zh ?_;apply MU;apply bh;refine WI.cond rfl ?_ ?_
 ·intro a0;replace a0:i<ms.length:=dT a0;have hy:=hY i zo w1 w1 hJ (M8 _);rw[Cn]at hy;dsimp only at hy;apply NV;apply bh;apply MI;apply PC;apply MI;apply yB 6 (.inl rfl) (λ_ _ h=>h);refine zh ?_;apply zv (Nl hs QR (Qu _) rfl rfl (ms.length-1-i) zo zo);refine zvH (ai (us:=eU (nth ms (ms.length-1-i))) (λj u hu=>hs.cell zo hu) (isAgg197 _) (Qu _) rfl) ?_;refine MU (Jl ?_);apply Br rfl rfl rfl hy rfl (by rintro e w' ⟨⟨rfl,_⟩|⟨rfl,_⟩,_⟩<;>exact⟨_,rfl⟩);rintro v w5 ⟨⟨e,a1⟩|⟨e,a1⟩,a7⟩
  ·obtain rfl:=NG e;apply Ib (.inl rfl) (λ_ _ h=>h);refine zh ?_;apply MU;apply bh;apply lU rfl rfl;apply NV;apply dE;apply bh;apply Ms (.inl rfl) (λ_ _ h=>h);refine zh ?_;apply MU;refine QI.next ((i+1,w5,(ms.length:Int)-1-(i:Int)-1)) ⟨a0,a1,by dsimp only;omega⟩ (by dsimp only;omega) ⟨rfl,rfl,rfl,trivial⟩ rfl
  obtain rfl:=NG e;apply Ib (.inl rfl) (λ_ _ h=>h);refine zh ?_;apply MU;apply bh;apply nY rfl rfl;apply PU;apply gW;apply jE;apply jE;apply gW;exact lX (kH rfl (.inr a1))
 intro a2;replace a2:¬i<ms.length:=dF a2;obtain rfl:i=ms.length:=zo;apply WI.exit;apply pN;apply pN;apply yM;exact lX (kH rfl (.inl (by rw[a5];exact hJ)))
end Go.Proofs.YteolbhblkgjbhaaGreatDoor
end
namespace Go.Proofs.YteolbhblkgjbhaaGreatDoor
section
variable{kv:L0}{kn:Kn}
def cells_from{vs:List L0}(k:Nat)(h:∀(j:Nat) (u:L0),us[j]? = some u->w.cell? (nA b j)=some u)(hv:∀(q:Nat) (u:L0),vs[q]? = some u->us[k+q]? = some u):∀(q:Nat) (u:L0),vs[q]? = some u->w.cell? ((nA b k).add q)=some u:=λq u hu=>by
 have e:((nA b k).add q)=((⟨b,0,none⟩:Ql).add (k+q)):=by
  simp only[Na];(repeat' split)<;>simp_all[]
 rw[e];exact (h (k+q) u (hv q u hu))
def KnownM.ex{ms:List M3}(h:KnownM O w kv kn ms):Known O w kv kn:=⟨ms,h⟩
def IY{ms:List M3}(h:KnownM O w kv kn ms){x:M3}(hx:x∈ms.reverse):(eU x).toArray.toList.all M5=true:=by
 obtain⟨i,hi,e⟩:=Px (List.mem_reverse.1 hx);have h1:=(h.2.2.2 i hi).2.one;rw[aD hi,e]at h1;simp only[eU,LZ,h1];rfl
def Dn[Inhabited α]{p:α->Bool}{l:List α}(h:∀q,q<l.length->p (nth l q)=false):l.find? p=none:=by
 rw[PI];intro x hx;obtain⟨i,hi,rfl⟩:=Px hx;have:=h i hi;rw[aD hi]at this;rw[this];decide
def Do{α:Type}[Inhabited α]{p:α->Bool}:∀ {l:List α} {k:Nat},k<l.length->(∀q,q<k->p (nth l q)=false)->p (nth l k)=true->l.find? p=some (nth l k)
 |[],k,hk,_,_=>absurd hk (by simp)
 |a::l,0,_,_,hp=>by rw[ar]at hp ⊢;rw[Q9,hp]
 |a::l,k+1,hk,h,hp=>by
  have h0:=h 0 zo;rw[ar]at h0;rw[aX]at hp ⊢;rw[Q9,h0];exact Do (by simpa using hk) (λq hq=>by have:=h (q+1) zo;rwa[aX]at this) hp
def IQ[Inhabited α]{l:List α}(h:i<l.length):nth l.reverse i=nth l (l.length-1-i):=by
 rw[aD (by rw[MF];exact h),Cn]
def CG(op:Int)(h':0<=op/\op<=20):Reads kv kn 267 [] op (gZ kn) (λr=>ak (r.headD 0)=true):=by
 intro B O j rb l r w hR hj hr hl h9 h i3;obtain⟨T,a1,hT⟩:=hR.bound;have j5:j<T:=by rw[<-h.tag];exact hT rb
 have j4:=hr.length_le;apply mR func267 ntmps267 rfl rfl;apply MI;apply Ms (.inl rfl) (λ_ _ h=>h);apply aw hR T zo (L5 _) rfl;intro xb w1 O1 h0 g0 j3 k0;have f9:=h.U g0 hj zo;refine zh ?_;apply MU;apply bh;apply MI;apply Ms (.inl rfl) (λ_ _ h=>h);refine zh ?_;refine zvH (RV.ld f9.r1 rfl) ?_;apply MU;apply bh;apply MI;apply Ms (.inl rfl) (λ_ _ h=>h);refine zh ?_;apply zc call270 (zA O1 w1 j rb l r op 0 0 hj hr zo f9);rintro v w2 ⟨rfl,i9,e1⟩;have g5:=j3.U e1;apply aw g5 (T+1) zo (zeroValue9 _) rfl;intro sb w3 O3 d5 j1 j9 j';apply ao (j:=0) d5 rfl (QW _) rfl rfl rfl rfl;have e4:=d5.set 0 (.string (bs (r.takeWhile ak)));have j0:LY (λk=>k=T+1) O3 w3 O3 (w3.setCell ⟨sb,0,none⟩ (.string (bs (r.takeWhile ak)))):=Mi zo d5.tag rfl;have a8:=j1.J j0;have c6:=(h0.U e1 zo zo).U a8 zo zo;have d9:=i9.U a8 hj zo;have g4:=g5.U a8;have b0:=((g0.pT hj a1 (L1 _)).J (e1.pj a1)).J (a8.pT hj a1 (MA _));generalize w3.setCell ⟨sb,0,none⟩ (.string (bs (r.takeWhile ak)))=w4 at *;refine zh ?_;apply MU;apply bh;apply MI;apply MI;apply Ms (.inl rfl) (λ_ _ h=>h);apply zv (RV.ld (e4.cell 0 rfl) rfl);refine zvH (bP rfl rfl) ?_;apply MU;apply bh
 by_cases ha:r.takeWhile ak=[97,110,121]
 ·have hM:gZ kn r=.ok (.mk 1 0 []) (r.dropWhile ak):=by unfold gZ;rw[ap ha]
  apply nY rfl ((by rw[ha];rfl));apply MI
  apply Ms (.inl rfl) (λ_ _ h=>h);apply zv (aI ml (L5 _) rfl (by first|rfl|(simp only[LZ,Mc];rfl)) rfl rfl)
  apply zsa (us:=(#[nI 1,nI 0,nS])) c6 (ix _);have d3:=M0 (us:=(#[nI 1,nI 0,nS])) c6;have f':LY (λk=>k=T) O3 w4 O3 (LX w4 xb (#[nI 1,nI 0,nS])):=L4 zo (M6 c6) rfl;have d8:=M4 d9 f' hj zo;refine zh ?_
  apply MU;apply bh
  apply PU;apply jE
  refine lX (jh rfl rfl d3.V (L2 _) (ix _) ⟨(1,0,nS),rfl,(b0.J (f'.pT hj a1 (L1 _))).priv hT hj,?_⟩);rw[hM];exact⟨d8.fgt h.tag,QE _ _ _ _⟩
 obtain⟨ms,c9⟩:=i3.U b0;obtain⟨qa,qc,f3,_⟩:=c9.1.shape;have i2:=c9.1.len_le;have i4:=c9.2.2.1;apply lU rfl ((by simpa using ha));subst f3;apply NV;apply bh;apply MI;apply MI;apply Ms (.inl rfl) (λ_ _ h=>h);refine zh ?_;apply zv (RV.ld d9.r2 rfl);apply zc call271 (vP qa ms.length qc w4);rintro v w5 ⟨b,rfl,i8,j8,g7⟩;have b8:LY (λ_=>False) O3 w4 O3 w5:=ae (λh=>h) O3 g7;have d3:=c6.U b8 zo (λh=>h);have d8:=d9.U b8 hj (λh=>h);have f7:=c9.U b8;have i7:Fixed O3 w5 ⟨b,0,none⟩ (.slice qa ms.length qc):=⟨i8,Mn λi0=>by have:=(g4.rng b i0).2;omega⟩
 generalize f3:Value.slice qa ms.length qc=kv at *;generalize c7:r.takeWhile ak=sw at *;have e5:∀ {S:Nat->Prop} {O' O2:Nat->Nat} {W W':ln},LY S O' W O2 W'->(∀k,S k->T<=k)->LY (λk=>k=j\/T<=k) O' W O2 W':=λh hS=>h.mono (λk hk=>.inr (hS k hk)) (λe=>by rcases e with e|e;exact hj e.symm;omega)
 refine zh ?_;apply MU
 apply bh;apply PC
 refine tz (L:=T+2) (K:=T+3) rfl call272 (qp kv ms b) rfl rfl rfl (λW=>zeroValue197 W) (g4.U b8) zo zo zo (λW O' pb y x hx ops Q' hb h=>bL (us:=(eU x).toArray) hb rfl (Qu _) (IY f7 hx) rfl rfl rfl (h _ hb.setRow (L4 zo hb.tag rfl))) (λk O' W=>LY (λp=>p=j\/T<=p) O w O' W/\Mu O' W T xb #[nI 0,nI 0,nS] 120/\Mu O' W (T+1) sb #[.string (bs sw)] 9/\Rdr kv O' W j rb l ((l.length:Int)-((r.dropWhile ak).length:Int)) op 0 0/\Fixed O' W ⟨b,0,none⟩ kv/\KnownM O' W kv kn ms/\∀q,q<k->Bv sw (nth kn.reverse q)=false) (λc O' W=>c=.ret/\LY (λp=>p=j\/T<=p) O w O' W/\Rdr kv O' W j rb l ((l.length:Int)-((r.dropWhile ak).length:Int)) op 0 0/\∃m x,kn.reverse.find? (Bv sw)=some m/\Nt O' W m.2 x/\Mu O' W T xb #[nI x.1,nI x.2.1,x.2.2] 120) (λi O' W O2 W' ⟨h1,h2,h3,h4,h5,h6,h7⟩ hU=>⟨h1.J (e5 hU (λk hk=>zo)),h2.U hU zo zo,h3.U hU zo zo,h4.U hU hj zo,h5.U hU,h6.U hU,h7⟩) (λc O' W O2 W' ⟨h1,h2,h3,m,x,h4,h5,h6⟩ hU=>⟨h1,h2.J (e5 hU (λk hk=>zo)),h3.U hU hj zo,m,x,h4,h5.U hU,h6.U hU zo zo⟩) (λi O' W ⟨_,_,_,_,h5,h6,_⟩=>⟨h5.cell,h6.1⟩) ⟨b0.J (jT O3 g7 hj a1),d3,e4.U b8 zo (λh=>h),d8,i7,f7,λq hq=>absurd hq zo⟩ ?_ ?_ ?_
 ·rintro lp i hi pb O6 w6 d0 ⟨b3,b1,c8,a',d6,b6,a3⟩ b2;rw[MF]at hi;have i5:ms.length-1-i<ms.length:=zo;obtain⟨m,e8⟩:∃m,m=nth ms (ms.length-1-i):=⟨_,rfl⟩
  obtain⟨g1,g2⟩:=b6.2.2.2 _ i5;replace b2:Mu O6 w6 (T+3) pb (eU m).toArray 197:=by have:=b2;rw[Cn,<-e8]at this;exact this
  rw[<-e8]at g1 g2;have f4:nth kn.reverse i=nth kn (ms.length-1-i):=by rw[IQ zo,i4]
  have b5:Bv sw (nth kn.reverse i)=false->∀q,q<i+1->Bv sw (nth kn.reverse q)=false:=λh q hq=>by
   by_cases e:q=i
   ·rw[e];exact h
   exact a3 q zo
  have a0:Bv sw (nth kn.reverse i)=((m.1==sw&&bz (nth kn (ms.length-1-i)).2)&&((nth kn (ms.length-1-i)).2.kind != 9)):=by
   unfold Bv;rw[f4,g1]
  have f5:m.2.1=(nth kn (ms.length-1-i)).2.kind:=g2.kind;generalize nth kn (ms.length-1-i)=km at *;have j7:=b2.cell 0 rfl;have hz:LY (λp=>p≠0/\p≠T+2) O6 w6 O6 w6:=MH zo _ _;apply PC;apply MI;apply Ms (.inr rfl) (λ_ _ h=>h);refine zh ?_;apply zv (RV.ld (b2.cell 0 rfl) rfl);apply zv (RV.ld (c8.cell 0 rfl) rfl);refine zvH (bP rfl rfl) ?_
  cases h1:(m.1==sw)with
  |false=>
   rw[h1]at a0;apply ay (d:=30) rfl (b':=false) rfl;refine zh ?_;apply MU;apply bh;apply lU rfl rfl;apply NV;apply dE;exact jf O6 hz ⟨b3,b1,c8,a',d6,b6,b5 (by rw[a0];rfl)⟩
  |true=>
   rw[h1]at a0;apply ay (d:=30) rfl (b':=true) rfl;have d7:∀W:ln,(∀(j:Nat) (u:L0),(eU m)[j]? = some u->W.cell? (nA pb j)=some u)->∀(q:Nat) (u:L0),(bu m.2)[q]? = some u->W.cell? ((nA pb 1).add q)=some u:=λW h=>cells_from (us:=eU m) 1 h (λq u hu=>by rw[Qy];exact hu)
   refine zh ?_;refine zvH (ai (us:=bu m.2) (d7 _ b2.V) (L2 _) (ix _) rfl) ?_
   apply zc QK (gd km.2 m.2 w6 g2.zero);rintro v w7 ⟨rfl,g6⟩;have a4:LY (λ_=>False) O6 w6 O6 w7:=ae (λh=>h) O6 g6;have a2:=b1.U a4 zo (λh=>h);have e3:=c8.U a4 zo (λh=>h);have b7:=a'.U a4 hj (λh=>h);have e6:=b2.U a4 zo (λh=>h);have g3:=d0.U a4;have f6:=b6.U a4;have f8:=d6.U a4;have e7:=g2.U a4;have a7:=b3.J (jT O6 g6 hj a1);have d1:LY (λp=>p≠0/\p≠T+2) O6 w6 O6 w7:=a4.mono (λ_ h=>h.elim) zo;refine zh ?_
   cases h2:bz km.2 with
   |false=>
    rw[h2]at a0;apply ay (d:=35) rfl (b':=false) rfl;refine zh ?_;apply MU;apply bh;apply lU rfl rfl;apply NV;apply dE;exact jf O6 d1 ⟨a7,a2,e3,b7,f8,f6,b5 (by rw[a0];rfl)⟩
   |true=>
    rw[h2]at a0;apply ay (d:=35) rfl (b':=true) rfl;have j6:w7.cell? ((nA pb 1).add 0)=some (nI m.2.1):=d7 _ e6.V 0 _ rfl;refine zh ?_;apply MU;apply bh
    cases h3:(km.2.kind != 9)with
    |false=>
     rw[h3]at a0;apply lU rfl ((by rw[f5];exact h3));apply NV;apply dE;exact jf O6 d1 ⟨a7,a2,e3,b7,f8,f6,b5 (by rw[a0];rfl)⟩
    |true=>
     rw[h3]at a0;apply nY rfl ((by rw[f5];exact h3));have d2:=e7.one;apply MI;apply Ms (.inr rfl) (λ_ _ h=>h);refine zh ?_;apply zv (ai (us:=bu m.2) (d7 _ e6.V) (L2 _) (ix _) rfl);apply zsb (us:=#[nI m.2.1,nI m.2.2.1,m.2.2.2]) a2 (ix _) (cj d2);have b4:=a2.setRow (us:=#[nI m.2.1,nI m.2.2.1,m.2.2.2]);have a6:LY (λk=>k=T) O6 w7 O6 (w7.setRow xb #[nI m.2.1,nI m.2.2.1,m.2.2.2]):=L4 zo a2.tag rfl;refine zh ?_;apply MU;apply bh;apply PU;apply gW;exact yL O6 (d1.J (a6.mono (λ_ h=>zo) zo)) ⟨rfl,a7.J (a6.pT hj a1 (L1 _)),b7.U a6 hj zo,_,m.2,by rw[Do (by rw[MF];omega) a3 (by rw[a0];rfl),f4],e7.U a6,b4⟩
 ·rintro D O6 w6 d0 e2 ⟨b3,b1,c8,a',d6,b6,a3⟩ hm;have hM:gZ kn r=ew 0 r:=by
   exact xT (by rw[c7];exact ha) (by rw[c7];exact Dn (λq hq=>a3 q (by simp at hq ⊢;omega)))
  apply dE;apply bh;apply MI;apply Ms (.inl rfl) (λ_ _ h=>h);refine zh ?_;apply ao (j:=1) a' rfl (My _) rfl rfl rfl rfl;have b7:=a'.rAt ((l.length:Int)-(r.length:Int));have a7:LY (λk=>k=j) O6 w6 O6 (w6.setCell ⟨rb,1,none⟩ (nI ((l.length:Int)-(r.length:Int)))):=Mi (λe=>hj e.symm) a'.tag rfl;have a2:=b1.U a7 zo zo;have g3:=d0.U a7;have e':=(a7.blk D (bN hm) zo).J hm;have b9:=b3.J (a7.pj a1);generalize w6.setCell ⟨rb,1,none⟩ (nI ((l.length:Int)-(r.length:Int)))=w7 at *;refine zh ?_;apply MU;apply bh;apply MI;apply Ms (.inl rfl) (λ_ _ h=>h);refine zh ?_;apply zc call268 (vI 0 op h' B O6 j rb l r w7 g3 hj hr hl trivial b7 (b6.U a7).ex);rintro v w8 ⟨x,rfl,a6,a9⟩;have b4:=a2.U a6 zo zo;have e9:=(a6.blk D (bN e') zo).J e';have d2:x.2.2.oneCell'=true:=by
   cases hc:ew 0 r with
   |ok t r'=>rw[hc]at a9;exact a9.2.one
   |bad p e=>rw[hc]at a9;exact a9.1
  apply zsb (us:=#[nI x.1,nI x.2.1,x.2.2]) b4 (ix _) (cj d2);have c':LY (λk=>k=T) O6 w8 O6 (w8.setRow xb #[nI x.1,nI x.2.1,x.2.2]):=L4 zo b4.tag rfl;have a5:LY (λk=>k=T+2) O6 (w8.setRow xb #[nI x.1,nI x.2.1,x.2.2]) O6 ((w8.setRow xb #[nI x.1,nI x.2.1,x.2.2]).putObj D (.deferred none)):=Ni zo e2 _;have c5:=(c'.pT hj a1 (L1 _)).J (a5.pT hj a1 zo);refine zh ?_
  apply MU;apply bh
  apply PU;refine lX (QA ((c'.blk D (bN e9) zo).J e9) (jh rfl rfl ((b4.setRow (us:=#[nI x.1,nI x.2.1,x.2.2])).U a5 zo zo).V (L2 _) (ix _) ⟨x,rfl,((b9.J (a6.pj a1)).J c5).priv hT hj,?_⟩))
  rw[hM]
  cases hc:ew 0 r with
  |ok t r'=>
   rw[hc]at a9;exact⟨((a9.1.U c' hj zo).U a5 hj zo).fgt h.tag,(a9.2.U c5).low (b9.J (a6.pj a1))⟩
  |bad p e=>
   rw[hc]at a9;obtain⟨h1,a,g8,h2,h3⟩:=a9;exact⟨h1,a,g8,((h2.U c' hj zo).U a5 hj zo).fgt h.tag,h3⟩
 rintro D c O6 w6 d0 e2 ⟨rfl,b3,a',m,x,i6,b5,b1⟩ hm;have a5:LY (λk=>k=T+2) O6 w6 O6 (w6.putObj D (.deferred none)):=Ni zo e2 _;have c5:=b3.J (a5.pT hj a1 zo);have a2:=b1.U a5 zo zo;apply PU;apply gW;apply jE;refine lX (QA hm (jh rfl rfl a2.V (L2 _) (ix _) ⟨x,rfl,c5.priv hT hj,?_⟩));rw[xS (by rw[c7];exact ha) (by rw[c7];exact i6)];exact⟨(a'.U a5 hj zo).fgt h.tag,(b5.U a5).low c5⟩
end
section
variable{kv:L0}{kn:Kn}
def ti(b:UInt8)(k:Nat)(hk:k<256)(h:¬b=Mz k):((b.toNat:Int) != (k:Int))=true:=by rw[bne,fH b k hk,decide_eq_false h];rfl
def eN(b:UInt8)(k:Nat)(hk:k<256)(h:¬b=Mz k):((b.toNat:Int)==(k:Int))=false:=by rw[fH b k hk,decide_eq_false h]
def PostE.one{O:Nat->Nat}{w:ln}{j rb:Nat}{l:List UInt8}{op:Int}{x:N3}{M:PR}(h:PostE kv O w j rb l op x M):x.2.2.oneCell'=true:=by
 cases M with
 |ok t r=>exact h.2.one
 |bad p e=>exact h.1
def PostE.U{S:Nat->Prop}{O O':Nat->Nat}{w w':ln}{j rb:Nat}{l:List UInt8}{op:Int}{x:N3}{M:PR}(h:PostE kv O w j rb l op x M)(u:LY S O w O' w')(hj:j≠0)(hS:¬S j):PostE kv O' w' j rb l op x M:=by
 cases M with
 |ok t r=>exact⟨M4 h.1 u hj hS,h.2.U u⟩
 |bad p e=>obtain⟨h1,a,o,h2,h3⟩:=h;exact⟨h1,a,o,M4 h2 u hj hS,h3⟩
def PostE.low{S:Nat->Prop}{O O':Nat->Nat}{w w0 w':ln}{j rb:Nat}{l:List UInt8}{op:Int}{x:N3}{M:PR}(h:PostE kv O' w' j rb l op x M)(u:LY S O w O' w0)(a0:O rb=j):PostE kv O w' j rb l op x M:=by
 cases M with
 |ok t r=>exact⟨QU h.1 a0,h.2.low u⟩
 |bad p e=>obtain⟨h1,a,o,h2,h3⟩:=h;exact⟨h1,a,o,QU h2 a0,h3⟩
def sD(k:Int)(xs:List N3)(lv:L0)(w:ln)(h:Sl bu 3 w lv xs)(h1:∀i,i<xs.length->(nth xs i).2.2.oneCell'=true):
  N1 Ma 198 [nI k,lv] w λv w'=>v=nv (if xs.length=1 then nth xs 0 else(k,0,lv))/\MG w w':=by
 apply L6 func198 ntmps198 rfl rfl;refine zh ?_
 apply aw (aA w) 1 zo (L5 _) rfl;intro xb w1 O1 a0 a3 a6 a5;have a2:=h.ext a5;refine zh ?_
 by_cases hl:xs.length=1
 ·rw[ap hl];refine zTH rfl ((by rw[hl];rfl)) ?_;apply zv (Nl a2 MV (ix _) rfl rfl 0 rfl zo);apply zv (ai (us:=bu (nth xs 0)) (λj u hu=>a2.cell zo hu) (L2 _) (ix _) rfl);apply zsb (us:=#[nI (nth xs 0).1,nI (nth xs 0).2.1,(nth xs 0).2.2]) a0 (ix _) (cj (h1 0 zo));have a1:=a0.setRow (us:=#[nI (nth xs 0).1,nI (nth xs 0).2.1,(nth xs 0).2.2]);refine zh ?_;refine aR rfl rfl a1.V (L2 _) (ix _) ⟨rfl,(a3.J (L4 zd a0.tag rfl)).ext⟩
 rw[am hl];refine zFH rfl ((by simp;omega)) ?_;apply zv (aI ml (L5 _) rfl (by first|rfl|(simp only[LZ,h.one];rfl)) rfl rfl);apply zsb (us:=#[nI k,nI 0,lv]) a0 (ix _) (cj (x:=(k,0,lv)) h.one);have a1:=a0.setRow (us:=#[nI k,nI 0,lv]);refine zh ?_;refine aR rfl rfl a1.V (L2 _) (ix _) ⟨rfl,(a3.J (L4 zd a0.tag rfl)).ext⟩
def vY(kv:L0)(kn:Kn)(al:Option (List UInt8->PR))(op:Int):Prop:=
 match al with
 |none=>op=20
 |some f=>op<20/\Reads kv kn 152 [] (op+1) f (λ_=>True)
def vM(al:Option (List UInt8->PR))(op:Int)(h7:0<=op/\op<=20)(ha:vY kv kn al op)(hg:nJ al):Reads kv kn 269 [] op (cS al) (λr=>r.headD 0≠0):=by
 intro B O j rb l r w hR hj hr hl d1 h g7;obtain⟨T,a0,hT⟩:=hR.bound;have h8:j<T:=by rw[<-h.tag];exact hT rb
 have h6:=hr.length_le;apply L6 func269 ntmps269 rfl rfl;refine zh ?_;apply aw hR T zo (L5 _) rfl;intro xb w1 O1 e6 e' f5 i1;have a7:=h.U e' hj zo;have b4:=e'.pT hj a0 (L1 _);obtain⟨f',h5⟩:=cO d1;have e7:=f'.J hr;refine zh ?_;refine zvH (RV.ld a7.r3 rfl) ?_
 cases al with
 |none=>
  have hM:cS none r=.bad r.length 6:=rfl;replace ha:op=20:=ha;refine zTH rfl ((by rw[ha];rfl)) ?_;apply zv (RV.ld a7.r1 rfl);apply zc NN (gR _ O1 w1 j rb l _ _ 0 ((l.length:Int)-(r.length:Int)) 6 hj f5 a7);rintro v wf ⟨rfl,d8,b6⟩;have a6:=e6.U b6 zo zo;apply zsa (us:=#[nI 0,nI 0,nS]) a6 (ix _);have c9:=a6.setRow (us:=#[nI 0,nI 0,nS]);have b5:LY (λk=>k=T) O1 wf O1 (wf.setRow xb #[nI 0,nI 0,nS]):=L4 zo a6.tag rfl;have hbg:=d8.U b5 hj zo;refine zh ?_;refine aR rfl rfl c9.V (L2 _) (ix _) ⟨(0,0,nS),rfl,((b4.J (b6.pj a0)).J (b5.pT hj a0 (L1 _))).priv hT hj,?_⟩;rw[hM];exact⟨rfl,_,op,hbg.fgt h.tag,zo,zo,zo,zo⟩
 |some f=>
  obtain⟨h9,g'⟩:=ha;have b9:=hg f rfl r.tail;refine zFH rfl ((by simp;omega)) ?_;refine zvH (RV.ld a7.r1 rfl) ?_;apply ao (j:=1) a7 rfl (My _) rfl rfl rfl rfl;rw[show((l.length:Int)-(r.length:Int))+1=(l.length:Int)-(r.tail.length:Int)from by omega];have c5:=BlkO.rAt a7 ((l.length:Int)-(r.tail.length:Int));have e4:LY (λk=>k=j) O1 w1 O1 (M7 w1 ⟨rb,1,none⟩ (nI ((l.length:Int)-(r.tail.length:Int)))):=Mi (λe=>hj e.symm) (M6 a7) rfl;generalize M7 w1 ⟨rb,1,none⟩ (nI ((l.length:Int)-(r.tail.length:Int)))=w2 at *;refine zh ?_;refine zvH (RV.ld c5.r3 rfl) ?_;apply ao (j:=3) c5 rfl (My _) rfl rfl rfl rfl;have g9:=c5.rOp (op+1);have e3:LY (λk=>k=j) O1 w2 O1 (w2.setCell ⟨rb,3,none⟩ (nI (op+1))):=Mi (λe=>hj e.symm) c5.tag rfl;have f8:=(e6.U e4 zo zo).U e3 zo zo;have f4:=(f5.U e4).U e3;have b3:=(b4.J (e4.pj a0)).J (e3.pj a0);generalize w2.setCell ⟨rb,3,none⟩ (nI (op+1))=w3 at *;refine zh ?_;apply zc call152 (g' B O1 j rb l r.tail w3 f4 hj e7 hl trivial g9 (g7.U b3));rintro v w4 ⟨x,rfl,e2,f6⟩;have b7:=f6.one;have f3:=f4.U e2;apply aw f3 (T+1) zo (L5 _) rfl;intro nb w5 O5 d7 h1 h' i0;apply zsb (us:=#[nI x.1,nI x.2.1,x.2.2]) d7 (ix _) (cj b7);have e9:=d7.setRow (us:=#[nI x.1,nI x.2.1,x.2.2])
  have h0:LY (λk=>k=T+1) O5 w5 O5 (w5.setRow nb #[nI x.1,nI x.2.1,x.2.2]):=L4 zo d7.tag rfl;have a4:=h1.J h0;have e5:=(f8.U e2 zo zo).U a4 zo zo;have c8:=f6.U a4 hj zo;have b2:=(b3.J (e2.pj a0)).J (a4.pT hj a0 (MA _));generalize w5.setRow nb #[nI x.1,nI x.2.1,x.2.2]=w6 at *
  cases hf:f r.tail with
  |bad p e=>
   rw[hf]at b9 c8;have hM:cS (some f) r=.bad p e:=by unfold cS;dsimp only;rw[hf]
   obtain⟨g1,a,a',a1,g2,g3,g4,g5⟩:=c8;replace a1:Mu O5 w6 j rb (rdr kv l a a' ((l.length:Int)-(p:Int)) e) 250:=a1;refine zh ?_;refine zvH (RV.ld a1.r5 rfl) ?_;apply ay (d:=39) rfl (b':=false) ((by simpa using b9.2));refine zh ?_;refine zFH rfl rfl ?_;refine zvH (RV.ld a1.r1 rfl) ?_;apply ao (j:=1) a1 rfl (My _) rfl rfl rfl rfl;have a2:=a1.rAt (a+1);have a3:LY (λk=>k=j) O5 w6 O5 (w6.setCell ⟨rb,1,none⟩ (nI (a+1))):=Mi (λe=>hj e.symm) a1.tag rfl;have b8:=e5.U a3 zo zo;have d6:=e9.U a3 zo zo;generalize w6.setCell ⟨rb,1,none⟩ (nI (a+1))=w7 at *;refine zh ?_;refine zvH (RV.ld a2.r3 rfl) ?_;apply ao (j:=3) a2 rfl (My _) rfl rfl rfl rfl;have a8:=a2.rOp (a'-1);have a5:LY (λk=>k=j) O5 w7 O5 (w7.setCell ⟨rb,3,none⟩ (nI (a'-1))):=Mi (λe=>hj e.symm) a2.tag rfl;have b0:=b8.U a5 zo zo;have d5:=d6.U a5 zo zo;generalize w7.setCell ⟨rb,3,none⟩ (nI (a'-1))=w8 at *;refine zh ?_;apply zv (ai (us:=bu x) d5.V (L2 _) (ix _) rfl);apply zsb (us:=#[nI x.1,nI x.2.1,x.2.2]) b0 (ix _) (cj b7);have c':=M0 (us:=#[nI x.1,nI x.2.1,x.2.2]) b0;have a9:LY (λk=>k=T) O5 w8 O5 (LX w8 xb #[nI x.1,nI x.2.1,x.2.2]):=L4 zo (M6 b0) rfl;have d9:=a8.U a9 hj zo;have c6:=((b2.J (a3.pj a0)).J (a5.pj a0)).J (a9.pT hj a0 (L1 _));refine zh ?_
   refine aR rfl rfl c'.V (L2 _) (ix _) ⟨x,rfl,c6.priv hT hj,?_⟩;rw[hM];exact⟨b7,a+1,a'-1,d9.fgt h.tag,zo,zo,zo,zo⟩
  |ok t r2=>
   rw[hf]at b9 c8;obtain⟨a1,hn⟩:=c8;replace a1:Mu O5 w6 j rb (rdr kv l ((l.length:Int)-(r2.length:Int)) (op+1) 0 0) 250:=a1;have e8:=b9.1.J e7;have g0:=(bC r2).J e8;have hq2l:=g0.length_le;refine zh ?_;refine zvH (RV.ld a1.r5 rfl) ?_;apply ay (d:=39) rfl (b':=true) rfl;refine zh ?_;apply zc NO (gE O5 w6 j rb l r2 (op+1) 0 0 hj e8 zo a1);rintro v w7 ⟨rfl,a2,a3⟩;have b8:=e5.U a3 zo zo;have d6:=e9.U a3 zo zo;have h2:=(f3.U a4).U a3;have b1:=b2.J (a3.pj a0);have d4:=hn.U a3;refine zh ?_
   by_cases hc:(az r2).headD 0=41
   ·have hM:cS (some f) r=.ok t (az r2).tail:=by unfold cS;dsimp only;rw[hf];dsimp only;rw[ap hc]
    obtain⟨g1,g2⟩:=cO (r:=az r2) (by rw[hc];decide);refine zFH rfl ((by rw[hc];rfl)) ?_;refine zvH (RV.ld a2.r1 rfl) ?_;apply ao (j:=1) a2 rfl (My _) rfl rfl rfl rfl;rw[show((l.length:Int)-((az r2).length:Int))+1=(l.length:Int)-((az r2).tail.length:Int)from by omega];have a8:=BlkO.rAt a2 ((l.length:Int)-((az r2).tail.length:Int));have a5:LY (λk=>k=j) O5 w7 O5 (M7 w7 ⟨rb,1,none⟩ (nI ((l.length:Int)-((az r2).tail.length:Int)))):=Mi (λe=>hj e.symm) (M6 a2) rfl;have b0:=b8.U a5 zo zo;have d5:=d6.U a5 zo zo;have d3:=d4.U a5;generalize M7 w7 ⟨rb,1,none⟩ (nI ((l.length:Int)-((az r2).tail.length:Int)))=w8 at *;refine zh ?_;refine zvH (RV.ld a8.r3 rfl) ?_;apply ao (j:=3) a8 rfl (My _) rfl rfl rfl rfl;rw[show op+1-1=op from by omega];have g8:=a8.rOp op;have c7:LY (λk=>k=j) O5 w8 O5 (w8.setCell ⟨rb,3,none⟩ (nI op)):=Mi (λe=>hj e.symm) a8.tag rfl;have d0:=b0.U c7 zo zo;have g6:=d5.U c7 zo zo;have d2:=d3.U c7;generalize w8.setCell ⟨rb,3,none⟩ (nI op)=w9 at *;have d':=(b1.J (a5.pj a0)).J (c7.pj a0);refine zh ?_;apply zv (ai (us:=bu x) g6.V (L2 _) (ix _) rfl);apply zsb (us:=#[nI x.1,nI x.2.1,x.2.2]) d0 (ix _) (cj b7);have c':=M0 (us:=#[nI x.1,nI x.2.1,x.2.2]) d0;have a9:LY (λk=>k=T) O5 w9 O5 (LX w9 xb #[nI x.1,nI x.2.1,x.2.2]):=L4 zo (M6 d0) rfl
    have d9:=g8.U a9 hj zo;have c6:=d'.J (a9.pT hj a0 (L1 _));refine zh ?_;refine aR rfl rfl c'.V (L2 _) (ix _) ⟨x,rfl,c6.priv hT hj,?_⟩;rw[hM];exact⟨d9.fgt h.tag,(d2.U a9).low c6⟩
   have hM:cS (some f) r=.bad (az r2).length 4:=by unfold cS;dsimp only;rw[hf];dsimp only;rw[am hc]
   refine zTH rfl ((ti _ 41 zd hc)) ?_;apply zv (RV.ld a2.r1 rfl)
   apply zc NN (gR _ O5 w7 j rb l _ _ 0 ((l.length:Int)-((az r2).length:Int)) 4 hj h2 a2);rintro v wf ⟨rfl,d8,b6⟩;have a6:=b8.U b6 zo zo;apply zsa (us:=#[nI 0,nI 0,nS]) a6 (ix _)
   have c9:=a6.setRow (us:=#[nI 0,nI 0,nS]);have b5:LY (λk=>k=T) O5 wf O5 (wf.setRow xb #[nI 0,nI 0,nS]):=L4 zo a6.tag rfl;have hbg:=d8.U b5 hj zo;refine zh ?_;refine aR rfl rfl c9.V (L2 _) (ix _) ⟨(0,0,nS),rfl,((b1.J (b6.pj a0)).J (b5.pT hj a0 (L1 _))).priv hT hj,?_⟩;rw[hM];exact⟨rfl,_,op+1,hbg.fgt h.tag,zo,zo,zo,zo⟩
def GA(al:Option (List UInt8->PR))(op:Int)(b4:0<=op/\op<=20)(ha:vY kv kn al op)(hg:nJ al):Reads kv kn 261 [] op (jH kn al) (λ_=>True):=by
 intro B O j rb l r w hR hj hr hl c9 h b5;obtain⟨T,a1,hT⟩:=hR.bound;have d6:j<T:=by rw[<-h.tag];exact hT rb
 have d4:=hr.length_le;apply L6 func261 ntmps261 rfl rfl;refine zh ?_;apply aw hR T zo (L5 _) rfl;intro xb w1 O1 c8 c6 d3 d7;have hq:=(bC r).J hr;have d5:=hq.length_le;refine zh ?_;apply zc NO (gE O1 w1 j rb l r op 0 0 hj hr zo (h.U c6 hj zo));rintro v w2 ⟨rfl,a2,b8⟩;have b1:=c8.U b8 zo zo;have b2:=d3.U b8;have a0:=(c6.pT hj a1 (L1 _)).J (b8.pj a1);refine zh ?_;apply zc Qn (jt ((az r).headD 0) w2);rintro v w9 ⟨rfl,b9⟩;rw[b9];clear b9 w9;refine zh ?_
 by_cases h1:ak ((az r).headD 0)=true
 ·have hM:jH kn al r=gZ kn (az r):=by unfold jH;rw[ap h1]
  rw[hM];refine zTH rfl h1 ?_;apply zc call267 (CG op b4 B O1 j rb l (az r) w2 b2 hj hq hl h1 a2 (b5.U a0));rintro v wc ⟨x,rfl,a6,a7⟩;have a8:=a7.one;have a3:=M4 b1 a6 zo zo;apply zsb (us:=#[nI x.1,nI x.2.1,x.2.2]) a3 (ix _) (cj a8);have a9:=M0 (us:=#[nI x.1,nI x.2.1,x.2.2]) a3;have a4:LY (λk=>k=T) O1 wc O1 (LX wc xb #[nI x.1,nI x.2.1,x.2.2]):=L4 zo (M6 a3) rfl;have a5:=(a0.J (a6.pj a1)).J (a4.pT hj a1 (L1 _));refine zh ?_;refine aR rfl rfl a9.V (L2 _) (ix _) ⟨x,rfl,a5.priv hT hj,(a7.U a4 hj zo).low a5 h.tag⟩
 refine zFH rfl ((by simpa using h1)) ?_
 by_cases h2:(az r).headD 0=126
 ·have hM:jH kn al r=ew 2 (az r).tail:=by unfold jH;rw[am h1,ap h2]
  obtain⟨k1,k2⟩:=cO (r:=az r) (by rw[h2];decide);rw[hM];refine zTH rfl ((by rw[h2];rfl)) ?_;refine zvH (RV.ld a2.r1 rfl) ?_;apply ao (j:=1) a2 rfl (My _) rfl rfl rfl rfl;rw[show((l.length:Int)-((az r).length:Int))+1=(l.length:Int)-((az r).tail.length:Int)from by omega];have b6:=BlkO.rAt a2 ((l.length:Int)-((az r).tail.length:Int));have a':LY (λk=>k=j) O1 w2 O1 (M7 w2 ⟨rb,1,none⟩ (nI ((l.length:Int)-((az r).tail.length:Int)))):=Mi (λe=>hj e.symm) (M6 a2) rfl;have b0:=b1.U a' zo zo;refine zh ?_;apply zc call268 (vI 2 op b4 B O1 j rb l (az r).tail _ (b2.U a') hj (k1.J hq) hl trivial b6 (b5.U (a0.J (a'.pj a1))));rintro v wc ⟨x,rfl,a6,a7⟩;have a8:=a7.one;have a3:=M4 b0 a6 zo zo;apply zsb (us:=#[nI x.1,nI x.2.1,x.2.2]) a3 (ix _) (cj a8);have a9:=M0 (us:=#[nI x.1,nI x.2.1,x.2.2]) a3;have a4:LY (λk=>k=T) O1 wc O1 (LX wc xb #[nI x.1,nI x.2.1,x.2.2]):=L4 zo (M6 a3) rfl;have a5:=((a0.J (a'.pj a1)).J (a6.pj a1)).J (a4.pT hj a1 (L1 _));refine zh ?_;refine aR rfl rfl a9.V (L2 _) (ix _) ⟨x,rfl,a5.priv hT hj,(a7.U a4 hj zo).low a5 h.tag⟩
 refine zFH rfl ((eN _ 126 zd h2)) ?_
 by_cases h3:(az r).headD 0=94
 ·have hM:jH kn al r=.ok (.mk 3 0 []) (az r).tail:=by unfold jH;rw[am h1,am h2,ap h3]
  obtain⟨k1,k2⟩:=cO (r:=az r) (by rw[h3];decide);rw[hM];refine zTH rfl ((by rw[h3];rfl)) ?_;refine zvH (RV.ld a2.r1 rfl) ?_;apply ao (j:=1) a2 rfl (My _) rfl rfl rfl rfl;rw[show((l.length:Int)-((az r).length:Int))+1=(l.length:Int)-((az r).tail.length:Int)from by omega];have b6:=BlkO.rAt a2 ((l.length:Int)-((az r).tail.length:Int));have a':LY (λk=>k=j) O1 w2 O1 (M7 w2 ⟨rb,1,none⟩ (nI ((l.length:Int)-((az r).tail.length:Int)))):=Mi (λe=>hj e.symm) (M6 a2) rfl;have b0:=b1.U a' zo zo;have a8:((3,0,nS):N3).2.2.oneCell'=true:=rfl;refine zh ?_;apply zv (aI ml (L5 _) rfl (by first|rfl|(simp only[LZ,h.one];rfl)) rfl rfl);apply zsb (us:=#[nI ((3,0,nS):N3).1,nI ((3,0,nS):N3).2.1,((3,0,nS):N3).2.2]) b0 (ix _) (cj a8);have a9:=M0 (us:=#[nI ((3,0,nS):N3).1,nI ((3,0,nS):N3).2.1,((3,0,nS):N3).2.2]) b0;have a4:LY (λk=>k=T) O1 (M7 w2 ⟨rb,1,none⟩ (nI ((l.length:Int)-((az r).tail.length:Int)))) O1 (LX (M7 w2 ⟨rb,1,none⟩ (nI ((l.length:Int)-((az r).tail.length:Int)))) xb #[nI ((3,0,nS):N3).1,nI ((3,0,nS):N3).2.1,((3,0,nS):N3).2.2]):=L4 zo (M6 b0) rfl;have a5:=(a0.J (a'.pj a1)).J (a4.pT hj a1 (L1 _));refine zh ?_;refine aR rfl rfl a9.V (L2 _) (ix _) ⟨(3,0,nS),rfl,a5.priv hT hj,(b6.U a4 hj zo).fgt h.tag,QE _ _ _ _⟩
 refine zFH rfl ((eN _ 94 zd h3)) ?_
 by_cases h4:(az r).headD 0=40
 ·have hM:jH kn al r=cS al (az r):=by unfold jH;rw[am h1,am h2,am h3,ap h4]
  rw[hM];refine zTH rfl ((by rw[h4];rfl)) ?_;apply zc call269 (vM al op b4 ha hg B O1 j rb l (az r) w2 b2 hj hq hl (show(az r).headD 0≠0 by rw[h4];decide) a2 (b5.U a0));rintro v wc ⟨x,rfl,a6,a7⟩;have a8:=a7.one;have a3:=M4 b1 a6 zo zo;apply zsb (us:=#[nI x.1,nI x.2.1,x.2.2]) a3 (ix _) (cj a8);have a9:=M0 (us:=#[nI x.1,nI x.2.1,x.2.2]) a3;have a4:LY (λk=>k=T) O1 wc O1 (LX wc xb #[nI x.1,nI x.2.1,x.2.2]):=L4 zo (M6 a3) rfl;have a5:=(a0.J (a6.pj a1)).J (a4.pT hj a1 (L1 _));refine zh ?_;refine aR rfl rfl a9.V (L2 _) (ix _) ⟨x,rfl,a5.priv hT hj,(a7.U a4 hj zo).low a5 h.tag⟩
 have hM:jH kn al r=.bad (az r).length 4:=by unfold jH;rw[am h1,am h2,am h3,am h4]
 rw[hM];refine zFH rfl ((eN _ 40 zd h4)) ?_;apply zv (RV.ld a2.r1 rfl);apply zc NN (gR _ O1 w2 j rb l _ _ 0 ((l.length:Int)-((az r).length:Int)) 4 hj b2 a2);rintro v wf ⟨rfl,c',c5⟩;have b3:=b1.U c5 zo zo;apply zsa (us:=#[nI 0,nI 0,nS]) b3 (ix _);have b':LY (λk=>k=T) O1 wf O1 (wf.setRow xb #[nI 0,nI 0,nS]):=L4 zo b3.tag rfl;refine zh ?_;refine aR rfl rfl (b3.setRow (us:=#[nI 0,nI 0,nS])).V (L2 _) (ix _) ⟨(0,0,nS),rfl,((a0.J (c5.pj a1)).J (b'.pT hj a1 (L1 _))).priv hT hj,?_⟩;exact⟨rfl,_,op,(c'.U b' hj zo).fgt h.tag,zo,zo,zo,zo⟩
end
section
variable{kv:L0}{kn:Kn}
def IK(c:UInt8):tH [42,43,63] c=match opM c with|some k=>(k:Nat)|none=>-1:=by
 unfold tH opM
 by_cases h1:c=42
 ·subst h1;rfl
 by_cases h2:c=43
 ·subst h2;rfl
 by_cases h3:c=63
 ·subst h3;rfl
 rw[am h1,am h2,am h3];have:[(42:UInt8),43,63].findIdx? (· == c)=none:=by
  rw[N2];intro x hx;simp at hx
  rcases hx with rfl|rfl|rfl<;>simp<;>intro e<;>first|exact h1 e.symm|exact h2 e.symm|exact h3 e.symm
 rw[this]
def uN(al:Option (List UInt8 → PR))(op:Int)(hop:0 ≤ op ∧ op ≤ 20)(ha:vY kv kn al op)(hg:nJ al): Reads kv kn 244 [] op (fE kn al) (fun _ => True) := by
  intro B O j rb l r w hR hj hr hl hpre h hkn
  obtain⟨T, hT0, hT⟩ := hR.bound
  have hjT:j < T := by rw[← h.tag]; exact hT rb
  have hrl := hr.length_le
  refine L6 func244 ntmps244 rfl rfl ?_
  refine zh ?_
  refine aw hR T (by omega) (L5 _) rfl ?_
  intro xb w1 O1 hx1 hU1 hR1 hE1
  have hb1 := h.U hU1 hj (by omega)
  have hUt1 := hU1.pT hj hT0 (L1 _)
  have hga := rD (kn := kn) hg r
  refine zh ?_
  refine zc call261 (GA al op hop ha hg B O1 j rb l r w1 hR1 hj hr hl trivial hb1 (hkn.U hUt1)) ?_
  rintro v w2 ⟨x, rfl, hU2, hP2⟩
  have hxo := hP2.one
  have hx2 := hx1.U hU2 (by omega) (by omega)
  have hR2 := hR1.U hU2
  have hUt2 := hUt1.J (hU2.pj hT0)
  refine aw hR2 (T + 1) (by omega) (L5 _) rfl ?_
  intro nb w3 O3 hn3 hU3 hR3 hE3
  refine zsb (us := #[.int .i64 x.1, .int .i64 x.2.1, x.2.2]) hn3 (ix _) (cj hxo) ?_
  have hn4 := hn3.setRow (us := #[.int .i64 x.1, .int .i64 x.2.1, x.2.2])
  have hU4:LY (fun k => k = T + 1) O3 w3 O3 (w3.setRow nb #[.int .i64 x.1, .int .i64 x.2.1, x.2.2]) := L4 (by omega) hn3.tag rfl
  have hU34 := hU3.J hU4
  have hx4 := hx2.U hU34 (by omega) (by omega)
  have hP4 := hP2.U hU34 hj (by omega)
  have hR4 := hR2.U hU34
  have hUt4 := hUt2.J (hU34.pT hj hT0 (MA _))
  generalize w3.setRow nb #[.int .i64 x.1, .int .i64 x.2.1, x.2.2] = w4 at *
  cases hf:jH kn al r with
  |bad p e =>
    rw[hf]at hga hP4
    have hM:fE kn al r = .bad p e := by unfold fE; rw[hf]
    have hP5 := hP4
    obtain⟨g1, a, op', hb4, g2, g3, g4, g5⟩ := hP4
    replace hb4:Mu O3 w4 j rb (rdr kv l a op' ((l.length:Int) - (p:Int)) e) 250 := hb4
    refine zh ?_
    refine zvH (RV.ld hb4.r5 rfl) ?_
    refine zTH rfl ((by simpa using hga.2)) ?_
    refine zv (ai (us := bu x) hn4.V (L2 _) (ix _) rfl) ?_
    refine zsb (us := #[.int .i64 x.1, .int .i64 x.2.1, x.2.2]) hx4 (ix _) (cj hxo) ?_
    have hxd := M0 (us := #[.int .i64 x.1, .int .i64 x.2.1, x.2.2]) hx4
    have hUd:LY (fun k => k = T) O3 w4 O3 (LX w4 xb #[.int .i64 x.1, .int .i64 x.2.1, x.2.2]) := L4 (by omega) (M6 hx4) rfl
    have hUz := hUt4.J (hUd.pT hj hT0 (L1 _))
    refine zh ?_
    refine aR rfl rfl (hxd.V) (L2 _) (ix _) (⟨x, rfl, hUz.priv hT hj, ?_⟩)
    rw[hM]
    exact(hP5.U hUd hj (by omega)).low hUz h.tag
  |ok t r1 =>
    rw[hf]at hga hP4
    obtain⟨hb4, hnt4⟩ := hP4
    replace hb4:Mu O3 w4 j rb (rdr kv l ((l.length:Int) - (r1.length:Int)) op 0 0) 250 := hb4
    have hr1 := hga.1.J hr
    have hq1 := (bC r1).J hr1
    have hql := hq1.length_le
    refine zh ?_
    refine zvH (RV.ld hb4.r5 rfl) ?_
    refine zFH rfl rfl ?_
    refine zc NO (gE O3 w4 j rb l r1 op 0 0 hj hr1 (by omega) hb4) ?_
    rintro v w5 ⟨rfl, hb5, hU5⟩
    have hx5 := hx4.U hU5 (by omega) (by omega)
    have hn5 := hn4.U hU5 (by omega) (by omega)
    have hR5 := hR4.U hU5
    have hUt5 := hUt4.J (hU5.pj hT0)
    have hnt5 := hnt4.U hU5
    refine zc call44 (ef [42, 43, 63] ((az r1).headD 0) w5) ?_
    rintro v w9 ⟨rfl, hw9⟩
    rw[hw9, IK]
    clear hw9 w9
    have hb6 := hb5.drew
    have hx6 := hx5.drew
    have hn6 := hn5.drew
    have hnt6 := hnt5.drew
    have hUt6 := hUt5.drew
    have hR6 := hR5.drew
    refine zh ?_
    refine Nf (by kernel_rfl) (by kernel_rfl) ?_
    refine zh ?_
    refine zwH (RV.ld hb6.r1 rfl) ?_
    refine zw (RV.ld hb6.r0 rfl) ?_
    refine zwH (bS Mg rfl) ?_
    cases hk:opM ((az r1).headD 0)with
    |none =>
      have hM:fE kn al r = .ok t (az r1) := by unfold fE; rw[hf]; dsimp only; rw[hk]
      by_cases hq0:(az r1).length = 0
      · skip
        refine dd (d := 30) rfl (b' := true) ((beq_iff_eq.2 (by omega))) ?_
        generalize w5.drew = w6 at *
        refine zh ?_
        refine zw (aT rfl rfl) ?_
        refine N9 ?_
        refine zh ?_
        refine zTH rfl rfl ?_
        refine zv (ai (us := bu x) hn6.V (L2 _) (ix _) rfl) ?_
        refine zsb (us := #[.int .i64 x.1, .int .i64 x.2.1, x.2.2]) hx6 (ix _) (cj hxo) ?_
        have hxd := M0 (us := #[.int .i64 x.1, .int .i64 x.2.1, x.2.2]) hx6
        have hUd:LY (fun k => k = T) O3 w6 O3 (LX w6 xb #[.int .i64 x.1, .int .i64 x.2.1, x.2.2]) := L4 (by omega) (M6 hx6) rfl
        have hUz := hUt6.J (hUd.pT hj hT0 (L1 _))
        have hbd := hb6.U hUd hj (by omega)
        refine zh ?_
        refine aR rfl rfl (hxd.V) (L2 _) (ix _) (⟨x, rfl, hUz.priv hT hj, ?_⟩)
        rw[hM]
        exact⟨hbd.fgt h.tag, (hnt6.U hUd).low hUz⟩
      · skip
        refine dd (d := 30) rfl (b' := false) ((beq_eq_false_iff_ne.2 (by omega))) ?_
        refine zh ?_
        refine zw (aV rfl rfl) ?_
        refine N9 ?_
        refine zh ?_
        refine aM rfl rfl ?_
        generalize w5.drew = w6 at *
        refine zh ?_
        refine zv (ai (us := bu x) hn6.V (L2 _) (ix _) rfl) ?_
        refine zsb (us := #[.int .i64 x.1, .int .i64 x.2.1, x.2.2]) hx6 (ix _) (cj hxo) ?_
        have hxd := M0 (us := #[.int .i64 x.1, .int .i64 x.2.1, x.2.2]) hx6
        have hUd:LY (fun k => k = T) O3 w6 O3 (LX w6 xb #[.int .i64 x.1, .int .i64 x.2.1, x.2.2]) := L4 (by omega) (M6 hx6) rfl
        have hUz := hUt6.J (hUd.pT hj hT0 (L1 _))
        have hbd := hb6.U hUd hj (by omega)
        refine zh ?_
        refine aR rfl rfl (hxd.V) (L2 _) (ix _) (⟨x, rfl, hUz.priv hT hj, ?_⟩)
        rw[hM]
        exact⟨hbd.fgt h.tag, (hnt6.U hUd).low hUz⟩
    |some k =>
      have hM:fE kn al r = .ok (.mk (6 + (k:Nat)) 0 [t]) (az r1).tail := by unfold fE; rw[hf]; dsimp only; rw[hk]
      obtain⟨k1, k2⟩ := cO (GU hk)
      have hk3:k ≤ 2 := by
        unfold opM at hk
        (repeat' split at hk) <;> simp at hk <;> omega
      refine dd (d := 30) rfl (b' := false) ((beq_eq_false_iff_ne.2 (by omega))) ?_
      refine zh ?_
      refine zw (aV rfl rfl) ?_
      refine N9 ?_
      refine zh ?_
      refine aH rfl ((decide_eq_false (by simp))) ?_
      generalize w5.drew = w6 at *
      refine zh ?_
      refine zvH (RV.ld hb6.r1 rfl) ?_
      refine ao (j := 1) hb6 rfl (My _) rfl rfl rfl rfl ?_
      rw[show((l.length:Int) - ((az r1).length:Int)) + 1 = (l.length:Int) - ((az r1).tail.length:Int)from by omega]
      have hb7 := BlkO.rAt hb6 ((l.length:Int) - ((az r1).tail.length:Int))
      have hU7:LY (fun k => k = j) O3 w6 O3 (M7 w6 ⟨rb, 1, none⟩ (.int .i64 ((l.length:Int) - ((az r1).tail.length:Int)))) := Mi (fun e => hj e.symm) (M6 hb6) rfl
      have hx7 := hx6.U hU7 (by omega) (by omega)
      have hn7 := hn6.U hU7 (by omega) (by omega)
      have hR7 := hR6.U hU7
      have hUt7 := hUt6.J (hU7.pj hT0)
      have hnt7 := hnt6.U hU7
      generalize M7 w6 ⟨rb, 1, none⟩ (.int .i64 ((l.length:Int) - ((az r1).tail.length:Int))) = w7 at *
      refine zh ?_
      refine zv (RV.add rfl rfl (Fit.i64 (by dsimp only; omega))) ?_
      refine zv (ai (us := bu x) hn7.V (L2 _) (ix _) rfl) ?_
      refine bq elN (enc := bu) x rfl rfl rfl (by decide) rfl ?_
      intro w8 h8 hE8
      have hX8:LY (fun _ => False) O3 w7 O3 w8 := ae (fun h => h) O3 hE8
      have hx8 := hx7.U hX8 (by omega) (fun h => h)
      have hb8 := hb7.U hX8 hj (fun h => h)
      have hUt8 := hUt7.J (jT O3 hE8 hj hT0)
      have hnt8 := hnt7.U hX8
      have hfr:P6 O3 w8 (.slice (some ⟨w7.heap.size, 0, none⟩) 1 1) := fun a n c e _ => by
        cases e
        refine⟨Mn fun hne => by have := (hR7.rng _ hne).2; simp at this, ?_⟩
        obtain⟨_, _, e, _, _, hh⟩ := h8.shape
        have hc := NZ _ _ (h8.cells 0 (by simp) 0 _ rfl)
        simpa[adr, Na]using hc
      have hN:Nt O3 w8 (.mk (6 + (k:Nat)) 0 [t]) (6 + (k:Nat), 0, .slice (some ⟨w7.heap.size, 0, none⟩) 1 1) :=
        .mk (xs := [x]) h8 hfr rfl (fun i hi => by obtain rfl : i = 0 := by simpa using hi
                                                   rw[ar, ar]; exact hnt8)
      have hxo2:((6 + (k:Nat), 0, .slice (some ⟨w7.heap.size, 0, none⟩) 1 1):N3).2.2.oneCell' = true := rfl
      clear hxo
      have hxo := hxo2
      refine zv (aI ml (L5 _) rfl (by first | rfl | (simp only[LZ, Mc]; rfl)) rfl rfl) ?_
      refine zsb (us := #[.int .i64 ((6 + (k:Nat), 0, .slice (some ⟨w7.heap.size, 0, none⟩) 1 1):N3).1, .int .i64 ((6 + (k:Nat), 0, .slice (some ⟨w7.heap.size, 0, none⟩) 1 1):N3).2.1, ((6 + (k:Nat), 0, .slice (some ⟨w7.heap.size, 0, none⟩) 1 1):N3).2.2]) hx8 (ix _) (cj hxo) ?_
      have hxd := M0 (us := #[.int .i64 ((6 + (k:Nat), 0, .slice (some ⟨w7.heap.size, 0, none⟩) 1 1):N3).1, .int .i64 ((6 + (k:Nat), 0, .slice (some ⟨w7.heap.size, 0, none⟩) 1 1):N3).2.1, ((6 + (k:Nat), 0, .slice (some ⟨w7.heap.size, 0, none⟩) 1 1):N3).2.2]) hx8
      have hUd:LY (fun k => k = T) O3 w8 O3 (LX w8 xb #[.int .i64 ((6 + (k:Nat), 0, .slice (some ⟨w7.heap.size, 0, none⟩) 1 1):N3).1, .int .i64 ((6 + (k:Nat), 0, .slice (some ⟨w7.heap.size, 0, none⟩) 1 1):N3).2.1, ((6 + (k:Nat), 0, .slice (some ⟨w7.heap.size, 0, none⟩) 1 1):N3).2.2]) := L4 (by omega) (M6 hx8) rfl
      have hUz := hUt8.J (hUd.pT hj hT0 (L1 _))
      have hbd := hb8.U hUd hj (by omega)
      refine zh ?_
      refine aR rfl rfl (hxd.V) (L2 _) (ix _) (⟨_, rfl, hUz.priv hT hj, ?_⟩)
      rw[hM]
      exact⟨hbd.fgt h.tag, (hN.U hUd).low hUz⟩
end
section
variable{kv:L0}{kn:Kn}
def Bk(c:UInt8)(w:ln):N1 Ma 245 [.int .u8 (c.toNat:Int)] w λv w'=>v=.bool (fS c)/\w'=w:=by
 apply L6 func245 ntmps245 rfl rfl;refine zh ?_
 apply zc Qn (jt c w);rintro v w9 ⟨rfl,a0⟩;rw[a0];clear a0 w9;refine zh ?_
 cases h1:ak c with
 |true=>
  apply ay (d:=5) rfl (b':=true) rfl;refine zh ?_
  refine ah rfl rfl ⟨by simp[fS,h1],rfl⟩
 |false=>
  apply ay (d:=5) rfl (b':=false) rfl;refine zh ?_
  by_cases h2:c=126
  ·apply ay (d:=9) rfl (b':=true) ((by rw[h2];rfl));refine zh ?_
   refine ah rfl rfl ⟨by simp[fS,h2],rfl⟩
  apply ay (d:=9) rfl (b':=false) ((eN _ 126 zd h2));refine zh ?_
  by_cases h3:c=94
  ·apply ay (d:=13) rfl (b':=true) ((by rw[h3];rfl));refine zh ?_
   refine ah rfl rfl ⟨by simp[fS,h3],rfl⟩
  apply ay (d:=13) rfl (b':=false) ((eN _ 94 zd h3));refine zh ?_
  refine ah rfl rfl ⟨?_,rfl⟩;have e2:fS c=decide (c=40):=by simp[fS,h1,h2,h3]
  rw[e2];exact congrArg Value.bool (fH c 40 zd)
def PR.andThen(M:PR)(f:Nd->List UInt8->PR):PR:=match M with | .bad p e=>.bad p e | .ok t r=>f t r
def LoopS(kv:L0)(op:Int)(l:List UInt8)(j rb:Nat)(F:Nat->List Nd->List UInt8->PR)(M:PR)(O:Nat->Nat)(w:ln)(n:Nat)(r1:List UInt8)(ts:List Nd)(xs:List N3):Prop:=
 (Rdr kv O w j rb l ((l.length:Int)-(r1.length:Int)) op 0 0/\r1 <:+ l/\r1.length<n/\xs.length+n<=5000/\ts.length=xs.length/\(∀i,i<xs.length->Nt O w (nth ts i) (nth xs i))/\F n ts r1=M)\/
 (∃p e a op',M=.bad p e/\e≠0/\Rdr kv O w j rb l a op' ((l.length:Int)-(p:Int)) e/\0<=a/\a<=l.length+20-op/\op<=op'/\op'<=20)
def LoopS.U{op:Int}{l:List UInt8}{j rb:Nat}{F:Nat->List Nd->List UInt8->PR}{M:PR}{O O':Nat->Nat}{w w':ln}{n:Nat}{r1:List UInt8}{ts:List Nd}{xs:List N3}{S:Nat->Prop}(h:LoopS kv op l j rb F M O w n r1 ts xs)(u:LY S O w O' w')(hj:j≠0)(hS:¬S j):LoopS kv op l j rb F M O' w' n r1 ts xs:=by
 rcases h with⟨h1,h2,h3,h4,h5,h6,h7⟩|⟨p,e,a,o,h1,h2,h3,h4⟩
 ·exact .inl ⟨M4 h1 u hj hS,h2,h3,h4,h5,λi hi=>(h6 i hi).U u,h7⟩
 exact .inr ⟨p,e,a,o,h1,h2,M4 h3 u hj hS,h4⟩
def LoopS.next{F:Nat->List Nd->List UInt8->PR}{M M':PR}{q r1:List UInt8}{ts:List Nd}{xs:List N3}{x:N3}(hP:PostE kv O w j rb l op x M')(hG:Good q M')(hq:q <:+ l)(a0:q.length<=r1.length)(h3:r1.length<n+1)(h4:xs.length+(n+1)<=5000)(h5:ts.length=xs.length) 
  (h6:∀i,i<xs.length->Nt O w (nth ts i) (nth xs i)) (h7:F (n+1) ts r1=M) (hF:F (n+1) ts r1=M'.andThen λt r2=>F n (ts++[t]) r2):∃n' r' ts',n'<n+1/\LoopS kv op l j rb F M O w n' r' ts' (xs++[x]):=by
 cases M' with
 |bad p e=>
  obtain⟨g1,a,o,g2,g3⟩:=hP;exact⟨0,[],[],zo,.inr ⟨p,e,a,o,by rw[<-h7,hF];rfl,hG.2,g2,g3⟩⟩
 |ok t r2=>
  refine⟨n,r2,ts++[t],zo,.inl ⟨hP.1,hG.1.J hq,by have:=hG.2;omega,by simp;omega,by simp[h5],λi hi=>?_,by rw[<-h7,hF];rfl⟩⟩;simp only[Mp,Nm]at hi
  by_cases e:i<xs.length
  ·rw[aD (by simp;omega),aD (by simp;omega),Mb zo,Mb e,<-aD zo,<-aD e];exact h6 i e
  obtain rfl:i=xs.length:=zo;rw[aD (by simp;omega),aD (by simp),Mq zo,Mq zo];simp[h5];exact hP.2
def pP{F:Nat->List Nd->List UInt8->PR}{M M':PR}{r:List UInt8}{x:N3}(hP:PostE kv O w j rb l op x M')(hG:Good r M')(hr:r <:+ l)(hl:l.length<=4096)(hF:M=M'.andThen λt r2=>F (r2.length+1) [t] r2):∃n' r' ts',LoopS kv op l j rb F M O w n' r' ts' [x]:=by
 cases M' with
 |bad p e=>
  obtain⟨g1,a,o,g2,g3⟩:=hP;exact⟨0,[],[],.inr ⟨p,e,a,o,hF,hG.2,g2,g3⟩⟩
 |ok t r2=>
  have:=hr.length_le;refine⟨r2.length+1,r2,[t],.inl ⟨hP.1,hG.1.J hr,zo,by have:=hG.2;simp;omega,rfl,λi hi=>?_,hF.symm⟩⟩;obtain rfl:i=0:=by simpa using hi
  rw[ar,ar];exact hP.2
def Nt.oneM{O O':Nat->Nat}{w w':ln}{k:Int}{ts:List Nd}{xs:List N3}{lv:L0}{T U B:Nat}{S:Nat->Prop}(a0:MC bu 120 3 O' w' U lv xs)(a1:T<=U)(a2:0<T)(hT:∀b,O b<T)(r:N0 B O' w')(u:LY S O w O' w')(h5:ts.length=xs.length)(h6:∀i,i<xs.length->Nt O' w' (nth ts i) (nth xs i))(_:1<=xs.length):
  Nt O w' (oneM k ts) (if xs.length=1 then nth xs 0 else(k,0,lv)):=by
 unfold Nr
 by_cases e:xs.length=1
 ·rw[ap zo,ap e];exact(h6 0 zo).low u
 rw[am zo,am e];exact .mk a0.sl (a0.freeT zo (λb=>PN (hT b) a1) r u) h5 (λi hi=>(h6 i hi).low u)
def B6(al:Option (List UInt8->PR))(op:Int)(f3:0<=op/\op<=20)(ha:vY kv kn al op)(hg:nJ al):Reads kv kn 197 [] op (D5 kn al) (λ_=>True):=by
 intro B O j rb l r w hR hj hr hl h0 h f5;obtain⟨T,a6,hT⟩:=hR.bound;have i2:j<T:=by rw[<-h.tag];exact hT rb
 have i1:=hr.length_le;apply L6 func197 ntmps197 rfl rfl;refine zh ?_;apply aw hR T zo (L5 _) rfl;intro xb w1 O1 g9 f7 f' i3;have b6:=f7.pT hj a6 (L1 _);refine zh ?_;apply zc call244 (uN al op f3 ha hg B O1 j rb l r w1 f' hj hr hl trivial (h.U f7 hj zo) (f5.U b6));rintro v w2 ⟨x,rfl,e2,g1⟩;apply aN elN (enc:=bu) (f'.U e2) (T+1) zo x rfl rfl rfl zd rfl;intro lv w3 O3 b4 e1 h9;have b5:∀i,i<[x].length->(nth [x] i).2.2.oneCell'=true:=λi hi=>by
  obtain rfl:i=0:=by simpa using hi
  rw[ar];exact g1.one
 obtain⟨n0,r0,g3,h6⟩:=pP (F:=dV kn al) (M:=D5 kn al r) (g1.U e1 hj zo) (gF (kn:=kn) hg r) hr hl rfl;refine zh ?_;apply zlp (λy:Nat×List UInt8×List Nd×List N3×(Nat->Nat)×World×L0=>[(0,nP rb),(2,nP xb),(3,y.2.2.2.2.2.2)]) (λy=>y.2.2.2.2.2.1) (λy=>Mu y.2.2.2.2.1 y.2.2.2.2.2.1 T xb #[nI 0,nI 0,nS] 120/\MC bu 120 3 y.2.2.2.2.1 y.2.2.2.2.2.1 (T+1) y.2.2.2.2.2.2 y.2.2.2.1/\1<=y.2.2.2.1.length/\(∀i,i<y.2.2.2.1.length->(nth y.2.2.2.1 i).2.2.oneCell'=true)/\LY (λk=>k=j\/T<=k) O w y.2.2.2.2.1 y.2.2.2.2.2.1/\N0 B y.2.2.2.2.1 y.2.2.2.2.2.1/\LoopS kv op l j rb (dV kn al) (D5 kn al r) y.2.2.2.2.1 y.2.2.2.2.2.1 y.1 y.2.1 y.2.2.1 y.2.2.2.1) (λy=>y.1) (n0,r0,g3,[x],O3,w3,lv) ⟨(g9.U e2 zo zo).U e1 zo zo,b4,L1 _,b5,(b6.J (e2.pj a6)).J (e1.pT hj a6 (MA _)),h9,h6⟩;rintro⟨n,r1,ts,xs,O4,w4,a0⟩ ⟨c',a4,a8,a1,e0,e4,f8⟩;dsimp only at c' a4 a8 a1 e0 e4 f8 ⊢
 rcases f8 with⟨a',e9,h1,h3,f4,g',g2⟩|⟨p,e,a,e5,hM,he,a',d5,d4,d3,d2⟩
 ·have e':=(bC r1).J e9;obtain⟨m,rfl⟩:∃m,n=m+1:=⟨n-1,zo⟩
  have c7:dV kn al (m+1) ts r1=if fS ((az r1).headD 0)=true then((fE kn al (az r1)).andThen λt r2=>dV kn al m (ts++[t]) r2)else .ok (oneM 4 ts) (az r1):=rfl
  refine zh ?_;refine zvH (RV.ld a'.r5 rfl) ?_
  apply ay (d:=12) rfl (b':=true) rfl;refine zh ?_
  apply zc NO (gE O4 w4 j rb l r1 op 0 0 hj e9 zo a');rintro v w5 ⟨rfl,f6,b8⟩;have e6:=c'.U b8 zo zo;have a5:=a4.U b8 zo zo;have e3:=e4.U b8;have b0:=e0.J (b8.pj a6);have e8:=λi hi=>(g' i hi).U b8
  refine zh ?_;apply zc call245 (Bk ((az r1).headD 0) w5)
  rintro v w9 ⟨rfl,e7⟩;rw[e7];clear e7 w9;refine zh ?_
  by_cases hc:fS ((az r1).headD 0)=true
  ·rw[ap hc]at c7;refine zTH rfl hc ?_;apply zc call244 (uN al op f3 ha hg B O4 j rb l (az r1) w5 e3 hj e' hl trivial f6 (f5.U b0));rintro v w6 ⟨x6,rfl,b7,g0⟩;have b1:=g0.one;apply NB elN (a5.U b7 zo zo) (e3.U b7) x6 (λ_=>rfl) rfl rfl rfl (kz b1) zo zo zo zd rfl rfl;intro g5 w7 O7 b2 d' h7;obtain⟨n',r',g4,h2,h5⟩:=LoopS.next (F:=dV kn al) g0 (gF (kn:=kn) hg _) e' (dS r1) h1 h3 f4 (λi hi=>(e8 i hi).U b7) g2 c7;refine zh ?_;refine zx (n',r',g4,xs++[x6],O7,w7,g5) ⟨(e6.U b7 zo zo).U d' zo zo,b2,by simp,λi hi=>?_,(b0.J (b7.pj a6)).J (d'.pT hj a6 (MA _)),h7,h5.U d' hj zo⟩ h2;simp only[Mp,Nm]at hi
   by_cases e:i<xs.length
   ·rw[aD (by simp;omega),Mb e,<-aD e];exact a1 i e
   obtain rfl:i=xs.length:=zo;rw[aD (by simp)];simpa using b1
  rw[am hc]at c7;refine zFH rfl ((by simpa using hc)) ?_;apply zc Qo (sD 4 xs a0 w5 a5.sl a1);rintro v wo ⟨rfl,b9⟩;have a7:LY (λ_=>False) O4 w5 O4 wo:=ae (λh=>h) O4 b9;have a2:=M4 e6 a7 zo (λh=>h);have a3:=Pk a5 a7 zo (λh=>h);have f9:=PV e3 a7;have c5:(if xs.length=1 then nth xs 0 else(4,0,a0):N3).2.2.oneCell'=true:=by
   split
   ·exact a1 0 zo
   exact a3.one
  apply zsb (us:=#[nI (if xs.length=1 then nth xs 0 else(4,0,a0):N3).1,nI (if xs.length=1 then nth xs 0 else(4,0,a0):N3).2.1,(if xs.length=1 then nth xs 0 else(4,0,a0):N3).2.2]) a2 (ix _) (cj c5);have c9:=M0 (us:=#[nI (if xs.length=1 then nth xs 0 else(4,0,a0):N3).1,nI (if xs.length=1 then nth xs 0 else(4,0,a0):N3).2.1,(if xs.length=1 then nth xs 0 else(4,0,a0):N3).2.2]) a2;have a9:LY (λk=>k=T) O4 wo O4 (LX wo xb #[nI (if xs.length=1 then nth xs 0 else(4,0,a0):N3).1,nI (if xs.length=1 then nth xs 0 else(4,0,a0):N3).2.1,(if xs.length=1 then nth xs 0 else(4,0,a0):N3).2.2]):=L4 zo (M6 a2) rfl;have d6:=b0.J (jT O4 b9 hj a6);have c6:=d6.J (a9.pT hj a6 (L1 _));refine zh ?_
  refine aR rfl rfl c9.V (L2 _) (ix _) ⟨(if xs.length=1 then nth xs 0 else(4,0,a0)),rfl,c6.priv hT hj,?_⟩;have d1:=(M4 f6 a7 hj (λh=>h)).U a9 hj zo;rw[<-g2,c7];exact⟨d1.fgt h.tag,Nt.oneM (a3.U a9 zo zo) (MA T) a6 hT (f9.U a9) c6 f4 (λi hi=>((e8 i hi).U a7).U a9) a8⟩
 replace a':Mu O4 w4 j rb (rdr kv l a e5 ((l.length:Int)-(p:Int)) e) 250:=a';refine zh ?_;refine zvH (RV.ld a'.r5 rfl) ?_;apply ay (d:=12) rfl (b':=false) ((by simpa using he));refine zh ?_;refine zFH rfl rfl ?_;apply zc Qo (sD 4 xs a0 w4 a4.sl a1);rintro v wo ⟨rfl,b9⟩;have a7:LY (λ_=>False) O4 w4 O4 wo:=ae (λh=>h) O4 b9;have a2:=M4 c' a7 zo (λh=>h);have a3:=Pk a4 a7 zo (λh=>h);have f9:=PV e4 a7;have c5:(if xs.length=1 then nth xs 0 else(4,0,a0):N3).2.2.oneCell'=true:=by
  split
  ·exact a1 0 zo
  exact a3.one
 apply zsb (us:=#[nI (if xs.length=1 then nth xs 0 else(4,0,a0):N3).1,nI (if xs.length=1 then nth xs 0 else(4,0,a0):N3).2.1,(if xs.length=1 then nth xs 0 else(4,0,a0):N3).2.2]) a2 (ix _) (cj c5);have c9:=M0 (us:=#[nI (if xs.length=1 then nth xs 0 else(4,0,a0):N3).1,nI (if xs.length=1 then nth xs 0 else(4,0,a0):N3).2.1,(if xs.length=1 then nth xs 0 else(4,0,a0):N3).2.2]) a2;have a9:LY (λk=>k=T) O4 wo O4 (LX wo xb #[nI (if xs.length=1 then nth xs 0 else(4,0,a0):N3).1,nI (if xs.length=1 then nth xs 0 else(4,0,a0):N3).2.1,(if xs.length=1 then nth xs 0 else(4,0,a0):N3).2.2]):=L4 zo (M6 a2) rfl;have d6:=e0.J (jT O4 b9 hj a6);have c6:=d6.J (a9.pT hj a6 (L1 _));refine zh ?_
 refine aR rfl rfl c9.V (L2 _) (ix _) ⟨(if xs.length=1 then nth xs 0 else(4,0,a0)),rfl,c6.priv hT hj,?_⟩;have d1:=(M4 a' a7 hj (λh=>h)).U a9 hj zo;rw[hM];exact⟨c5,a,e5,d1.fgt h.tag,d5,d4,d3,d2⟩
def Ac(al:Option (List UInt8->PR))(op:Int)(e9:0<=op/\op<=20)(ha:vY kv kn al op)(hg:nJ al):Reads kv kn 152 [] op (pG kn al) (λ_=>True):=by
 intro B O j rb l r w hR hj hr hl g' h f3;obtain⟨T,a5,hT⟩:=hR.bound;have i1:j<T:=by rw[<-h.tag];exact hT rb
 have i0:=hr.length_le;apply L6 func152 ntmps152 rfl rfl;refine zh ?_;apply aw hR T zo (L5 _) rfl;intro xb w1 O1 g7 f4 f8 i2;have b7:=f4.pT hj a5 (L1 _);refine zh ?_;apply zc call197 (B6 al op e9 ha hg B O1 j rb l r w1 f8 hj hr hl trivial (h.U f4 hj zo) (f3.U b7));rintro v w2 ⟨x,rfl,e3,f'⟩;apply aN elN (enc:=bu) (f8.U e3) (T+1) zo x rfl rfl rfl zd rfl;intro lv w3 O3 b3 e2 h8;have b4:∀i,i<[x].length->(nth [x] i).2.2.oneCell'=true:=λi hi=>by
  obtain rfl:i=0:=by simpa using hi
  rw[ar];exact f'.one
 obtain⟨n0,r0,g1,h5⟩:=pP (F:=dq kn al) (M:=pG kn al r) (f'.U e2 hj zo) (kV (kn:=kn) hg r) hr hl rfl;refine zh ?_;apply zlp (λy:Nat×List UInt8×List Nd×List N3×(Nat->Nat)×World×L0=>[(0,nP rb),(2,nP xb),(3,y.2.2.2.2.2.2)]) (λy=>y.2.2.2.2.2.1) (λy=>Mu y.2.2.2.2.1 y.2.2.2.2.2.1 T xb #[nI 0,nI 0,nS] 120/\MC bu 120 3 y.2.2.2.2.1 y.2.2.2.2.2.1 (T+1) y.2.2.2.2.2.2 y.2.2.2.1/\1<=y.2.2.2.1.length/\(∀i,i<y.2.2.2.1.length->(nth y.2.2.2.1 i).2.2.oneCell'=true)/\LY (λk=>k=j\/T<=k) O w y.2.2.2.2.1 y.2.2.2.2.2.1/\N0 B y.2.2.2.2.1 y.2.2.2.2.2.1/\LoopS kv op l j rb (dq kn al) (pG kn al r) y.2.2.2.2.1 y.2.2.2.2.2.1 y.1 y.2.1 y.2.2.1 y.2.2.2.1) (λy=>y.1) (n0,r0,g1,[x],O3,w3,lv) ⟨(g7.U e3 zo zo).U e2 zo zo,b3,L1 _,b4,(b7.J (e3.pj a5)).J (e2.pT hj a5 (MA _)),h8,h5⟩;rintro⟨n,r1,ts,xs,O4,w4,a0⟩ ⟨d0,a4,a8,a1,e1,e4,f5⟩;dsimp only at d0 a4 a8 a1 e1 e4 f5 ⊢
 rcases f5 with⟨a',e8,h0,h2,e',g8,g0⟩|⟨p,e,a,e5,hM,he,a',d6,d5,d4,d3⟩
 ·have d1:=(bC r1).J e8;have g9:=dS r1;obtain⟨m,rfl⟩:∃m,n=m+1:=⟨n-1,zo⟩
  have c8:dq kn al (m+1) ts r1=if(az r1).headD 0=124 then((D5 kn al (az r1).tail).andThen λt r2=>dq kn al m (ts++[t]) r2)else .ok (oneM 5 ts) (az r1):=rfl
  refine zh ?_;refine zvH (RV.ld a'.r5 rfl) ?_
  apply ay (d:=12) rfl (b':=true) rfl;refine zh ?_
  apply zc NO (gE O4 w4 j rb l r1 op 0 0 hj e8 zo a');rintro v w5 ⟨rfl,b5,b9⟩;have e6:=d0.U b9 zo zo;have a6:=a4.U b9 zo zo;have f7:=e4.U b9;have b6:=e1.J (b9.pj a5);have e7:=λi hi=>(g8 i hi).U b9
  refine zh ?_
  by_cases hc:(az r1).headD 0=124
  ·rw[ap hc]at c8;obtain⟨k1,k2⟩:=cO (r:=az r1) (by rw[hc];decide);have hq4l:=d1.length_le;refine zTH rfl ((by rw[hc];rfl)) ?_;refine zvH (RV.ld b5.r1 rfl) ?_;apply ao (j:=1) b5 rfl (My _) rfl rfl rfl rfl;rw[show((l.length:Int)-((az r1).length:Int))+1=(l.length:Int)-((az r1).tail.length:Int)from by omega];have hb5a:=BlkO.rAt b5 ((l.length:Int)-((az r1).tail.length:Int));have hU5a:LY (λk=>k=j) O4 w5 O4 (M7 w5 ⟨rb,1,none⟩ (nI ((l.length:Int)-((az r1).tail.length:Int)))):=Mi (λe=>hj e.symm) (M6 b5) rfl;have hR5a:=f7.U hU5a;have hUt5a:=b6.J (hU5a.pj a5);generalize M7 w5 ⟨rb,1,none⟩ (nI ((l.length:Int)-((az r1).tail.length:Int)))=w5a at *;refine zh ?_;apply zc call197 (B6 al op e9 ha hg B O4 j rb l (az r1).tail w5a hR5a hj (k1.J d1) hl trivial hb5a (f3.U hUt5a));rintro v w6 ⟨x6,rfl,b8,f9⟩;have b0:=f9.one;have g4:=(e6.U hU5a zo zo).U b8 zo zo;have b2:=(a6.U hU5a zo zo).U b8 zo zo;apply NB elN b2 (hR5a.U b8) x6 (λ_=>rfl) rfl rfl rfl (kz b0) zo zo zo zd rfl rfl;intro g3 w7 O7 b1 e0 h6;obtain⟨n',r',g2,h1,h4⟩:=LoopS.next (F:=dq kn al) f9 (kV (kn:=kn) hg _) (k1.J d1) zo h0 h2 e' (λi hi=>((e7 i hi).U hU5a).U b8) g0 c8;refine zh ?_
   refine zx (n',r',g2,xs++[x6],O7,w7,g3) ⟨g4.U e0 zo zo,b1,by simp,λi hi=>?_,(hUt5a.J (b8.pj a5)).J (e0.pT hj a5 (MA _)),h6,h4.U e0 hj zo⟩ h1;simp only[Mp,Nm]at hi
   by_cases e:i<xs.length
   ·rw[aD (by simp;omega),Mb e,<-aD e];exact a1 i e
   obtain rfl:i=xs.length:=zo;rw[aD (by simp)];simpa using b0
  rw[am hc]at c8;refine zFH rfl ((eN _ 124 zd hc)) ?_;apply zc Qo (sD 5 xs a0 w5 a6.sl a1);rintro v wo ⟨rfl,c5⟩;have a7:LY (λ_=>False) O4 w5 O4 wo:=ae (λh=>h) O4 c5;have a2:=M4 e6 a7 zo (λh=>h);have a3:=Pk a6 a7 zo (λh=>h);have f6:=PV f7 a7;have c6:(if xs.length=1 then nth xs 0 else(5,0,a0):N3).2.2.oneCell'=true:=by
   split
   ·exact a1 0 zo
   exact a3.one
  apply zsb (us:=#[nI (if xs.length=1 then nth xs 0 else(5,0,a0):N3).1,nI (if xs.length=1 then nth xs 0 else(5,0,a0):N3).2.1,(if xs.length=1 then nth xs 0 else(5,0,a0):N3).2.2]) a2 (ix _) (cj c6);have c':=M0 (us:=#[nI (if xs.length=1 then nth xs 0 else(5,0,a0):N3).1,nI (if xs.length=1 then nth xs 0 else(5,0,a0):N3).2.1,(if xs.length=1 then nth xs 0 else(5,0,a0):N3).2.2]) a2;have a9:LY (λk=>k=T) O4 wo O4 (LX wo xb #[nI (if xs.length=1 then nth xs 0 else(5,0,a0):N3).1,nI (if xs.length=1 then nth xs 0 else(5,0,a0):N3).2.1,(if xs.length=1 then nth xs 0 else(5,0,a0):N3).2.2]):=L4 zo (M6 a2) rfl;have d7:=b6.J (jT O4 c5 hj a5);have c7:=d7.J (a9.pT hj a5 (L1 _));refine zh ?_
  refine aR rfl rfl c'.V (L2 _) (ix _) ⟨(if xs.length=1 then nth xs 0 else(5,0,a0)),rfl,c7.priv hT hj,?_⟩;have d2:=(M4 b5 a7 hj (λh=>h)).U a9 hj zo;rw[<-g0,c8];exact⟨d2.fgt h.tag,Nt.oneM (a3.U a9 zo zo) (MA T) a5 hT (f6.U a9) c7 e' (λi hi=>((e7 i hi).U a7).U a9) a8⟩
 replace a':Mu O4 w4 j rb (rdr kv l a e5 ((l.length:Int)-(p:Int)) e) 250:=a';refine zh ?_;refine zvH (RV.ld a'.r5 rfl) ?_;apply ay (d:=12) rfl (b':=false) ((by simpa using he));refine zh ?_;refine zFH rfl rfl ?_;apply zc Qo (sD 5 xs a0 w4 a4.sl a1);rintro v wo ⟨rfl,c5⟩;have a7:LY (λ_=>False) O4 w4 O4 wo:=ae (λh=>h) O4 c5;have a2:=M4 d0 a7 zo (λh=>h);have a3:=Pk a4 a7 zo (λh=>h);have f6:=PV e4 a7;have c6:(if xs.length=1 then nth xs 0 else(5,0,a0):N3).2.2.oneCell'=true:=by
  split
  ·exact a1 0 zo
  exact a3.one
 apply zsb (us:=#[nI (if xs.length=1 then nth xs 0 else(5,0,a0):N3).1,nI (if xs.length=1 then nth xs 0 else(5,0,a0):N3).2.1,(if xs.length=1 then nth xs 0 else(5,0,a0):N3).2.2]) a2 (ix _) (cj c6);have c':=M0 (us:=#[nI (if xs.length=1 then nth xs 0 else(5,0,a0):N3).1,nI (if xs.length=1 then nth xs 0 else(5,0,a0):N3).2.1,(if xs.length=1 then nth xs 0 else(5,0,a0):N3).2.2]) a2;have a9:LY (λk=>k=T) O4 wo O4 (LX wo xb #[nI (if xs.length=1 then nth xs 0 else(5,0,a0):N3).1,nI (if xs.length=1 then nth xs 0 else(5,0,a0):N3).2.1,(if xs.length=1 then nth xs 0 else(5,0,a0):N3).2.2]):=L4 zo (M6 a2) rfl;have d7:=e1.J (jT O4 c5 hj a5);have c7:=d7.J (a9.pT hj a5 (L1 _));refine zh ?_
 refine aR rfl rfl c'.V (L2 _) (ix _) ⟨(if xs.length=1 then nth xs 0 else(5,0,a0)),rfl,c7.priv hT hj,?_⟩;have d2:=(M4 a' a7 hj (λh=>h)).U a9 hj zo;rw[hM];exact⟨c6,a,e5,d2.fgt h.tag,d6,d5,d4,d3⟩
def rF:∀(d:Nat),d<=20->Reads kv kn 152 [] (20-(d:Int)) (yx kn d) (λ_=>True)
 |0,h=>Ac none _ zo (show(20:Int)-((0:Nat):Int)=20 by omega) (λf e=>by cases e)
 |d+1,h=>by
  have ih:=rF d zo;rw[show(20:Int)-(d:Int)=(20-((d+1:Nat):Int))+1 from by omega]at ih;exact Ac (some (yx kn d)) _ zo ⟨zo,ih⟩ (λf e r=>by cases e;exact jz (kn:=kn) d r)
end
end Go.Proofs.YteolbhblkgjbhaaGreatDoor
section
namespace Go.VL
def mix(A C:Nat->Nat)(b:Nat):Nat:=if A b=0 then C b else A b
def IT{A C:Nat->Nat}(h:A b=i)(hi:i≠0):mix A C b=i:=by unfold mix;rw[am zo];exact h
def K0{A C:Nat->Nat}(h:mix A C b=0):C b=0:=by
 unfold mix at h
 split at h
 ·exact h
 rename_i h1;exact absurd h h1
def Rng.mix{B:Nat}{A C:Nat->Nat}{w:ln}(h:N0 B A w)(k:N0 B C w):N0 B (mix A C) w:=⟨h.le,λb hb=>by
 unfold VL.mix at hb
 split at hb
 ·exact k.rng b hb
 rename_i h1;exact h.rng b h1⟩
end Go.VL
namespace Go.Proofs.YteolbhblkgjbhaaGreatDoor
open Go.VL Go.Proofs
set_option maxRecDepth 10000
variable{kn:Kn}
def PostX(O:Nat->Nat)(w:ln)(v:L0):XR->Prop
 |.ok t=>∃x,v=.tuple #[nv x,nI 0,nI 0]/\Nt O w t x
 |.bad p e=>v=.tuple #[nv (0,0,nS),nI (p:Int),nI e]/\e≠0
def KT:cI Ma 248 #[(0,1),(1,1)]:=⟨_,underlying248,λw=>by kernel_rfl⟩
def KS:cI Ma 250 #[(0,2),(2,1),(3,1),(4,1),(5,1)]:=⟨_,underlying250,λw=>by kernel_rfl⟩
def mm(kv:L0)(l:List UInt8)(B:Nat)(O O':Nat->Nat)(w:ln)(h4:N0 B O w)(hR:N0 B O' w)(d4:Known O' w kv kn):N1 Ma 111 [.string (bs l),kv] w λv w'=>MG w w'/\PostX O w' v (fQ kn l):=by
 obtain⟨T,h8,hT⟩:=hR.bound;have a0:¬(λq:Nat=>T<=q) 0:=λe=>zo
 have hA:=rF (kv:=kv) (kn:=kn) 20 (L1 _);rw[show(20:Int)-((20:Nat):Int)=0 from by omega]at hA;have b5:=jz (kn:=kn) 20 l;obtain⟨ms,e3⟩:=d4;obtain⟨qa,qc,g0,_⟩:=e3.1.shape;replace d4:Known O' w kv kn:=⟨ms,e3⟩
 subst g0;apply L6 func111 ntmps111 rfl rfl;refine zh ?_;apply aw hR T zo (L5 _) rfl;intro xb w1 O1 c9 h0 h3 i1;have b9:=h0.mono (λ_ h=>MO h.symm) a0;refine zh ?_;refine zvH (bS Mg rfl) ?_
 by_cases hl:4096<l.length
 ·have hM:fQ kn l=.bad 0 3:=by unfold fQ;rw[ap hl]
  rw[hM];refine zTH rfl ((decide_eq_true zo)) ?_;apply zv (aI ml (L5 _) rfl (by first|rfl|(simp only[LZ,Mc];rfl)) rfl rfl);apply zsa (us:=#[nI 0,nI 0,nS]) c9 (ix _);have a7:=M0 (us:=#[nI 0,nI 0,nS]) c9;have a3:LY (λk=>k=T) O1 w1 O1 (LX w1 xb #[nI 0,nI 0,nS]):=L4 zo (M6 c9) rfl;refine zh ?_;refine cH rfl rfl rfl rfl a7.V (L2 _) (ix _) ⟨aP (b9.J (a3.mono (λ_ h=>MO h.symm) a0)) (λb=>by have:=hT b;omega),rfl,zd⟩
 refine zFH rfl ((decide_eq_false zo)) ?_;refine zvH (aI KT (zeroValue248 _) rfl (by first|rfl|(simp only[LZ,Mc];rfl)) rfl rfl) ?_
 apply zv (RV.build (cells:=rdr (.slice qa ms.length qc) l 0 0 0 0) KS (zeroValue250 _) rfl rfl);apply aQ h3 (T+1) zo rfl rfl
 intro rb w2 O2 d5 e5 e7 i0;have g7:Rdr (.slice qa ms.length qc) O2 w2 (T+1) rb l ((l.length:Int)-(l.length:Int)) 0 0 0:=by
  rw[show(l.length:Int)-(l.length:Int)=0 from by omega];exact d5
 have b8:=b9.J (e5.mono (λ_ h=>by rw[h];omega) a0);refine zh ?_;apply zc call152 (hA B O2 (T+1) rb l l w2 e7 zo (ND l) zo trivial g7 (d4.U b8));rintro v w3 ⟨x,rfl,d',e8⟩;have f6:=(c9.U e5 zo zo).U d' zo zo;have e6:=e7.U d';apply aw e6 (T+2) zo (L5 _) rfl;intro nb w4 O4 d3 g' h9 h';apply zsb (us:=#[nI x.1,nI x.2.1,x.2.2]) d3 (ix _) (cj e8.one);have f':=d3.setRow (us:=#[nI x.1,nI x.2.1,x.2.2]);have g9:LY (λk=>k=T+2) O4 w4 O4 (w4.setRow nb #[nI x.1,nI x.2.1,x.2.2]):=L4 zo d3.tag rfl;have a':=g'.J g9;have c8:=f6.U a' zo zo;have c':=e8.U a' zo zo;have b7:=(b8.J (d'.mono (λ_ h=>by rw[h];omega) a0)).J (a'.mono (λ_ h=>by rw[h];omega) a0);generalize w4.setRow nb #[nI x.1,nI x.2.1,x.2.2]=w5 at *
 cases hf:yx kn 20 l with
 |bad p e=>
  rw[hf]at b5 c';have hM:fQ kn l=.bad (l.length-p) e:=by unfold fQ;rw[am hl,hf]
  have g6:=b5.1;have a8:=b5.2;obtain⟨g1,a,e',a6,g2,g3,g4,g5⟩:=c';replace a6:Mu O4 w5 (T+1) rb (rdr (.slice qa ms.length qc) l a e' ((l.length:Int)-(p:Int)) e) 250:=a6;rw[hM];refine zh ?_;refine zvH (RV.ld a6.r5 rfl) ?_;apply ay (d:=25) rfl (b':=false) ((by simpa using a8));refine zh ?_;refine zFH rfl rfl ?_;refine zvH (RV.ld a6.r5 rfl) ?_;apply ay (d:=44) rfl (b':=false) ((by simpa using a8));refine zh ?_;refine zFH rfl rfl ?_;refine zvH (RV.ld a6.r5 rfl) ?_;apply aM rfl ((by simpa using a8));have a5:=MR a6;refine zh ?_;apply aO (λW=>W.cell? ⟨rb,4,none⟩=some (nI ((l.length:Int)-(p:Int)))/\W.cell? ⟨rb,5,none⟩=some (nI e)) 12 rfl zk;refine zin ⟨a5.r4,a5.r5⟩ λzS=>?_
  apply zr 0 rfl zS (λ_=>aI ml (L5 _) rfl (by first|rfl|(simp only[LZ,Mc];rfl)) rfl rfl);apply zrm 1 rfl zS rfl
  apply zr 2 rfl zS (λ_=>aq rfl);apply zrf 3 rfl zS rfl
  apply zt 4 rfl zS (λw1 a4=>RV.ld a4.1 rfl);apply zrm 5 rfl zS rfl
  apply zr 6 rfl zS (λ_=>aq rfl);apply zrf 7 rfl zS rfl
  apply zt 8 rfl zS (λw1 a4=>RV.ld a4.2 rfl);apply Mf 9 zk rfl
  apply zsa (us:=#[nI 0,nI 0,nS]) (MR c8) (ix _);have a7:=M0 (us:=#[nI 0,nI 0,nS]) (MR c8);have a3:LY (λk=>k=T) O4 (Nb w5) O4 (LX (Nb w5) xb #[nI 0,nI 0,nS]):=L4 zo (M6 c8) rfl;have b0:=M4 a5 a3 zo zo;refine zh ?_
  refine zaf ⟨b0.r4,b0.r5⟩ λzS=>?_
  apply zra 10 rfl zS rfl;apply zra 11 rfl zS rfl
  apply MY zk;refine zh ?_
  refine cH rfl rfl rfl rfl a7.V (L2 _) (ix _) ⟨aP ((b7.drew).J (a3.mono (λ_ h=>MO h.symm) a0)) (λb=>by have:=hT b;omega),?_⟩;exact⟨by rw[show(l.length:Int)-(p:Int)=((l.length-p:Nat):Int)from by omega];rfl,a8⟩
 |ok t r=>
  rw[hf]at b5 c';obtain⟨a6,d2⟩:=c';replace a6:Mu O4 w5 (T+1) rb (rdr (.slice qa ms.length qc) l ((l.length:Int)-(r.length:Int)) 0 0 0) 250:=a6;have hr:=b5.1;have h7:=((bC r).J hr).length_le;refine zh ?_;refine zvH (RV.ld a6.r5 rfl) ?_;apply ay (d:=25) rfl (b':=true) rfl;refine zh ?_;apply zc NO (gE O4 w5 (T+1) rb l r 0 0 0 zo hr zo a6);rintro v w6 ⟨rfl,a9,c6⟩;have d0:=c8.U c6 zo zo;have e2:=f'.U c6 zo zo;have e0:=(e6.U a').U c6;have b4:=d2.U c6;have b1:=b7.J (c6.mono (λ_ h=>by rw[h];omega) a0);refine zh ?_
  by_cases e1:(az r).length=0
  ·have f8:az r=[]:=Mj e1;have e9:fQ kn l=if 2000<nsz t then .bad 0 3 else .ok t:=by unfold fQ;rw[am hl,hf];dsimp only;rw[am zo]
   refine zFH rfl ((by rw[f8];rfl)) ?_;refine zvH (RV.ld a9.r5 rfl) ?_
   apply ay (d:=44) rfl (b':=true) rfl;refine zh ?_
   refine zvH (RV.ld a9.r1 rfl) ?_;refine zvH (bS Mg rfl) ?_
   refine zFH rfl ((decide_eq_false zo)) ?_;refine zvH (RV.ld a9.r5 rfl) ?_
   refine zFH rfl rfl ?_;apply zv (ai (us:=bu x) e2.V (L2 _) (ix _) rfl)
   apply zc R0 (rV (nsz t) t (L1 _) x w6 2000 b4.zero zo);rintro v w7 ⟨rfl,h6⟩;have b6:LY (λ_=>False) O4 w6 O4 w7:=ae (λh=>h) O4 h6;have a2:=d0.U b6 zo (λh=>h);have f9:=e2.U b6 zo (λh=>h);have a1:=b1.J (b6.mono (λ_ h=>h.elim) a0);have d1:=b4.U b6;have h1:=e0.U b6;refine zh ?_
   by_cases hz:2000<nsz t
   ·have hM:fQ kn l=.bad 0 3:=by rw[e9,ap hz]
    rw[hM];refine zTH rfl ((decide_eq_true zo)) ?_;apply zv (aI ml (L5 _) rfl (by first|rfl|(simp only[LZ,Mc];rfl)) rfl rfl);apply zsa (us:=#[nI 0,nI 0,nS]) a2 (ix _);have a7:=M0 (us:=#[nI 0,nI 0,nS]) a2;have a3:LY (λk=>k=T) O4 w7 O4 (LX w7 xb #[nI 0,nI 0,nS]):=L4 zo (M6 a2) rfl;refine zh ?_;refine cH rfl rfl rfl rfl a7.V (L2 _) (ix _) ⟨aP (a1.J (a3.mono (λ_ h=>MO h.symm) a0)) (λb=>by have:=hT b;omega),rfl,zd⟩
   have hM:fQ kn l=.ok t:=by rw[e9,am hz]
   rw[hM];refine zFH rfl ((decide_eq_false zo)) ?_;apply zv (ai (us:=bu x) f9.V (L2 _) (ix _) rfl);apply zc QZ (vH (nsz t) zo t (L1 _) B (mix O4 O) x w7 (h1.mix (h4.ext (aP a1 (λb=>by have:=hT b;omega)))) d1.zero);rintro v w8 ⟨y,rfl,b3,h5⟩;have e4:LY (λ_=>False) O4 w7 O4 w8:=ae (λh=>h) O4 h5;have c7:=a2.U e4 zo (λh=>h);have d7:=a1.J (e4.mono (λ_ h=>h.elim) a0);have f3:=b3.one;apply zsb (us:=#[nI y.1,nI y.2.1,y.2.2]) c7 (ix _) (cj f3);have f5:=c7.setRow (us:=#[nI y.1,nI y.2.1,y.2.2]);have g8:LY (λk=>k=T) O4 w8 O4 (w8.setRow xb #[nI y.1,nI y.2.1,y.2.2]):=L4 zo c7.tag rfl;have d9:LY (λk=>k=T) (mix O4 O) w8 (mix O4 O) (w8.setRow xb #[nI y.1,nI y.2.1,y.2.2]):=L4 zo (IT c7.tag zo) rfl;have d6:=d7.J (g8.mono (λ_ h=>MO h.symm) a0);refine zh ?_;refine cH rfl rfl rfl rfl f5.V (L2 _) (ix _) ⟨aP d6 (λb=>by have:=hT b;omega),y,rfl,(b3.U d9).weak (λb hb=>K0 hb)⟩
  have hM:fQ kn l=.bad (l.length-(az r).length) 4:=by unfold fQ;rw[am hl,hf];dsimp only;rw[ap e1]
  rw[hM]
  by_cases hc:(az r).headD 0=0
  ·refine zFH rfl ((by rw[hc];rfl)) ?_;refine zvH (RV.ld a9.r5 rfl) ?_
   apply ay (d:=44) rfl (b':=true) rfl;refine zh ?_
   refine zvH (RV.ld a9.r1 rfl) ?_;refine zvH (bS Mg rfl) ?_
   refine zTH rfl ((decide_eq_true zo)) ?_;apply zv (RV.ld a9.r1 rfl)
   apply zc NN (gR _ O4 w6 (T+1) rb l _ _ 0 ((l.length:Int)-((az r).length:Int)) 4 zo e0 a9);rintro v w7 ⟨_,b2,c5⟩;have a2:=d0.U c5 zo zo;have a1:=b1.J (c5.mono (λ_ h=>by rw[h];omega) a0);refine zh ?_
   refine zvH (RV.ld b2.r5 rfl) ?_;apply aM rfl rfl
   have a5:=MR b2;refine zh ?_;apply aO (λW=>W.cell? ⟨rb,4,none⟩=some (nI ((l.length:Int)-((az r).length:Int)))/\W.cell? ⟨rb,5,none⟩=some (nI 4)) 12 rfl zk;refine zin ⟨a5.r4,a5.r5⟩ λzS=>?_
   apply zr 0 rfl zS (λ_=>aI ml (L5 _) rfl (by first|rfl|(simp only[LZ,Mc];rfl)) rfl rfl);apply zrm 1 rfl zS rfl
   apply zr 2 rfl zS (λ_=>aq rfl);apply zrf 3 rfl zS rfl
   apply zt 4 rfl zS (λw1 a4=>RV.ld a4.1 rfl);apply zrm 5 rfl zS rfl
   apply zr 6 rfl zS (λ_=>aq rfl);apply zrf 7 rfl zS rfl
   apply zt 8 rfl zS (λw1 a4=>RV.ld a4.2 rfl);apply Mf 9 zk rfl
   apply zsa (us:=#[nI 0,nI 0,nS]) (MR a2) (ix _);have a7:=M0 (us:=#[nI 0,nI 0,nS]) (MR a2);have a3:LY (λk=>k=T) O4 (Nb w7) O4 (LX (Nb w7) xb #[nI 0,nI 0,nS]):=L4 zo (M6 a2) rfl;have b0:=M4 a5 a3 zo zo;refine zh ?_
   refine zaf ⟨b0.r4,b0.r5⟩ λzS=>?_
   apply zra 10 rfl zS rfl;apply zra 11 rfl zS rfl
   apply MY zk;refine zh ?_
   refine cH rfl rfl rfl rfl a7.V (L2 _) (ix _) ⟨aP ((a1.drew).J (a3.mono (λ_ h=>MO h.symm) a0)) (λb=>by have:=hT b;omega),?_⟩;exact⟨by rw[show(l.length:Int)-((az r).length:Int)=((l.length-(az r).length:Nat):Int)from by omega];rfl,zd⟩
  refine zTH rfl ((ti _ 0 zd hc)) ?_;apply zv (RV.ld a9.r1 rfl)
  apply zc NN (gR _ O4 w6 (T+1) rb l _ _ 0 ((l.length:Int)-((az r).length:Int)) 4 zo e0 a9);rintro v w7 ⟨_,b2,c5⟩;have a2:=d0.U c5 zo zo;have a1:=b1.J (c5.mono (λ_ h=>by rw[h];omega) a0);refine zh ?_
  refine zvH (RV.ld b2.r5 rfl) ?_;apply ay (d:=44) rfl (b':=false) rfl
  refine zh ?_;refine zFH rfl rfl ?_
  refine zvH (RV.ld b2.r5 rfl) ?_;apply aM rfl rfl
  have a5:=MR b2;refine zh ?_;apply aO (λW=>W.cell? ⟨rb,4,none⟩=some (nI ((l.length:Int)-((az r).length:Int)))/\W.cell? ⟨rb,5,none⟩=some (nI 4)) 12 rfl zk;refine zin ⟨a5.r4,a5.r5⟩ λzS=>?_
  apply zr 0 rfl zS (λ_=>aI ml (L5 _) rfl (by first|rfl|(simp only[LZ,Mc];rfl)) rfl rfl);apply zrm 1 rfl zS rfl
  apply zr 2 rfl zS (λ_=>aq rfl);apply zrf 3 rfl zS rfl
  apply zt 4 rfl zS (λw1 a4=>RV.ld a4.1 rfl);apply zrm 5 rfl zS rfl
  apply zr 6 rfl zS (λ_=>aq rfl);apply zrf 7 rfl zS rfl
  apply zt 8 rfl zS (λw1 a4=>RV.ld a4.2 rfl);apply Mf 9 zk rfl
  apply zsa (us:=#[nI 0,nI 0,nS]) (MR a2) (ix _);have a7:=M0 (us:=#[nI 0,nI 0,nS]) (MR a2);have a3:LY (λk=>k=T) O4 (Nb w7) O4 (LX (Nb w7) xb #[nI 0,nI 0,nS]):=L4 zo (M6 a2) rfl;have b0:=M4 a5 a3 zo zo;refine zh ?_
  refine zaf ⟨b0.r4,b0.r5⟩ λzS=>?_
  apply zra 10 rfl zS rfl;apply zra 11 rfl zS rfl
  apply MY zk;refine zh ?_
  refine cH rfl rfl rfl rfl a7.V (L2 _) (ix _) ⟨aP ((a1.drew).J (a3.mono (λ_ h=>MO h.symm) a0)) (λb=>by have:=hT b;omega),?_⟩;exact⟨by rw[show(l.length:Int)-((az r).length:Int)=((l.length-(az r).length:Nat):Int)from by omega];rfl,zd⟩
end Go.Proofs.YteolbhblkgjbhaaGreatDoor
end
namespace Go.Proofs.YteolbhblkgjbhaaGreatDoor
mutual
def cD:Nd->Int | .mk k _ l=>if k=6\/k=7 then -1 else if k=9 then 0 else if k=4\/k=5\/k=8 then cW (k==4) 0 l else 1
def cW:Bool->Int->List Nd->Int
 |_,acc,[]=>acc
 |s,acc,t::r=>if cD t<0 then -1 else cW s (if s=true then acc+cD t else max acc (cD t)) r
end
mutual
def Bx(q:Int):Nd->Bool | .mk k _ l=>(k==q)||Fc q l
def Fc(q:Int):List Nd->Bool | []=>false|t::r=>Bx q t||Fc q r
end
def sV(q:Int):∀(l:List Nd),jy (λi=>Bx q (nth l i)) l.length=Fc q l:=by
 intro l;rw[Qb,eK]
 induction l with
 |nil=>simp[Fc]
 |cons t r ih=>
  simp only[Fc,Bool.or_eq_true,<-ih,Mh]
  constructor
  ·rintro⟨i,hi,hq⟩
   cases i with
   |zero=>rw[ar]at hq;exact .inl hq
   |succ i=>rw[aX]at hq;exact .inr ⟨i,zo,hq⟩
  rintro(h|⟨i,hi,hq⟩)
  ·exact⟨0,zo,by rw[ar];exact h⟩
  exact⟨i+1,zo,by rw[aX];exact hq⟩
mutual
def lx:∀(t:Nd),cD t<=nsz t
 |.mk k c l=>by
  have h:=sJ l (k==4) 0 (NL 0)
  unfold cD
  simp only[nsz]
  (repeat' split)<;>omega
def sJ:∀(l:List Nd) (s:Bool) (acc:Int),0<=acc->cW s acc l<=acc+dP l
 |[],s,acc,h=>by simp[cW,dP]
 |t::r,s,acc,h=>by
  have h1:=lx t
  unfold cW
  simp only[dP]
  split
  ·omega
  split
  ·have h2:=sJ r s (acc+cD t) zo
   omega
  have h2:=sJ r s (max acc (cD t)) zo
  omega
end
def kA{l:List Nd}(h:i<l.length):l.drop i=nth l i::l.drop (i+1):=by
 rw[NX h,aD h]
def gJ:∀(n:Nat),n<=1000000->∀(t:Nd),nsz t<=n->∀(x:N3) (w:ln),Nt (λ_=>0) w t x->N1 Ma 165 [nv x] w λv w'=>v=nI (cD t)/\MG w w'
 |0,_,t,hn=>by have:=dy t;omega
 |n+1,hm,.mk k c kids,hn=>by
  intro x w h;have c9:=h.ones;obtain⟨xs,hs,hf,hl,hk⟩:=h.kids;simp only[NW]at hl hk;simp only[nsz]at hn;have c':=eQ kids;generalize x.2.2=sv at *;subst c9;simp only[Q7,Qr];have hM:cD (.mk k c kids)=if k=6\/k=7 then -1 else if k=9 then 0 else if k=4\/k=5\/k=8 then cW (k==4) 0 kids else 1:=rfl
  rw[hM];apply L6 func165 ntmps165 rfl rfl;refine zh ?_;apply aQ (aA w) 1 zo rfl rfl;intro xb w1 O1 b7 d0 d1 a4;have c0:w1.cell? (nA xb 0)=some (nI k):=b7.cell 0 rfl;have c2:w1.cell? (nA xb 2)=some sv:=b7.cell 2 rfl;have b6:=hs.ext a4;refine zh ?_
  by_cases h6:k=6
  ·subst h6;refine zTH rfl rfl ?_;refine zTH rfl rfl ?_;refine ah rfl rfl ⟨rfl,a4⟩
  refine zFH rfl ((beq_eq_false_iff_ne.2 h6)) ?_
  by_cases h7:k=7
  ·subst h7;refine zTH rfl rfl ?_;refine ah rfl rfl ⟨rfl,a4⟩
  rw[am zo];refine zFH rfl ((beq_eq_false_iff_ne.2 h7)) ?_
  by_cases h9:k=9
  ·subst h9;refine zTH rfl rfl ?_;refine ah rfl rfl ⟨rfl,a4⟩
  rw[am h9];refine zFH rfl ((beq_eq_false_iff_ne.2 h9)) ?_
  by_cases h4:k=4
  ·subst h4;rw[ap zo];refine zTH rfl rfl ?_;refine zTH rfl rfl ?_;apply zlp (λy:Nat×Int×ln=>[(2,nI 0),(3,nI y.2.1),(1,nP xb),(19,sv),(20,nI xs.length),(21,nI y.1)]) (λy=>y.2.2) (λy=>y.1<=xs.length/\0<=y.2.1/\y.2.1<=dP (kids.take y.1)/\cW ((4:Int)==4) y.2.1 (kids.drop y.1)=cW ((4:Int)==4) 0 kids/\MG w1 y.2.2) (λy=>xs.length-y.1) (0,0,w1) ⟨L9 _,NL _,by simp[dP],rfl,M8 _⟩;rintro⟨i,a7,w2⟩ ⟨hi,b2,ha,hL,a3⟩;dsimp only at hi b2 ha hL a3 ⊢;have b0:=b6.ext a3;refine zh ?_;refine zC ?_ ?_
   ·intro a2;replace a2:i<xs.length:=dT a2;have a8:=(hk i a2).ext (a4.J a3);have a':=a8.one;have c5:=bQ kids i zo;have b9:=ee kids i zo;have b8:=cP kids (i+1);have b':=lx (nth kids i);rw[kA zo]at hL;have b4:cW ((4:Int)==4) a7 (nth kids i::kids.drop (i+1))=if cD (nth kids i)<0 then -1 else cW ((4:Int)==4) (if((4:Int)==4)=true then a7+cD (nth kids i)else max a7 (cD (nth kids i))) (kids.drop (i+1)):=rfl
    rw[b4]at hL;refine zh ?_;apply zv (ai (us:=bu (nth xs i)) (λj u hu=>b0.cell a2 hu) (L2 _) (ix _) rfl);apply aw (aA w2) 1 zo (L5 _) rfl;intro kb w3 O3 a6 b3 c6 c7;apply zsb (us:=#[nI (nth xs i).1,nI (nth xs i).2.1,(nth xs i).2.2]) a6 (ix _) (cj a');have a5:=a6.setRow (us:=#[nI (nth xs i).1,nI (nth xs i).2.1,(nth xs i).2.2]);have a9:MG w2 (w3.setRow kb #[nI (nth xs i).1,nI (nth xs i).2.1,(nth xs i).2.2]):=(b3.J (L4 zd a6.tag rfl)).ext;generalize w3.setRow kb #[nI (nth xs i).1,nI (nth xs i).2.1,(nth xs i).2.2]=w4 at *;refine zh ?_;apply zv (ai (us:=bu (nth xs i)) a5.V (L2 _) (ix _) rfl);apply zc Qp (gJ n zo (nth kids i) zo (nth xs i) w4 (a8.ext a9));rintro v w5 ⟨rfl,b5⟩;have a1:=(a3.J a9).J b5;have c8:w5.cell? (nA xb 0)=some (nI 4):=a1.cell c0;refine zh ?_
    by_cases a0:cD (nth kids i)<0
    ·rw[ap a0]at hL;refine zTH rfl ((decide_eq_true a0)) ?_;refine ah rfl rfl ⟨by rw[<-hL],a4.J a1⟩
    rw[am a0]at hL;refine zFH rfl ((decide_eq_false a0)) ?_;refine zTH rfl rfl ?_;refine zxd (i+1,_,w5) ⟨a2,by dsimp only;omega,by dsimp only;omega,hL,a1⟩
   intro b1;obtain rfl:i=xs.length:=dF b1;rw[Mx zo]at hL;refine zh ?_;refine ah rfl rfl ⟨by rw[<-hL];rfl,a4.J a3⟩
  apply aH rfl ((beq_eq_false_iff_ne.2 h4));have hk4b:(k==4)=false:=beq_eq_false_iff_ne.2 h4;refine zh ?_
  by_cases h5:k=5
  ·subst h5;rw[ap zo];refine zTH rfl rfl ?_;refine zTH rfl rfl ?_;apply zlp (λy:Nat×Int×ln=>[(2,nI 0),(3,nI y.2.1),(1,nP xb),(19,sv),(20,nI xs.length),(21,nI y.1)]) (λy=>y.2.2) (λy=>y.1<=xs.length/\0<=y.2.1/\y.2.1<=dP (kids.take y.1)/\cW ((5:Int)==4) y.2.1 (kids.drop y.1)=cW ((5:Int)==4) 0 kids/\MG w1 y.2.2) (λy=>xs.length-y.1) (0,0,w1) ⟨L9 _,NL _,by simp[dP],rfl,M8 _⟩;rintro⟨i,a7,w2⟩ ⟨hi,b2,ha,hL,a3⟩;dsimp only at hi b2 ha hL a3 ⊢;have b0:=b6.ext a3;refine zh ?_;refine zC ?_ ?_
   ·intro a2;replace a2:i<xs.length:=dT a2;have a8:=(hk i a2).ext (a4.J a3);have a':=a8.one;have c5:=bQ kids i zo;have b9:=ee kids i zo;have b8:=cP kids (i+1);have b':=lx (nth kids i);rw[kA zo]at hL;have b4:cW ((5:Int)==4) a7 (nth kids i::kids.drop (i+1))=if cD (nth kids i)<0 then -1 else cW ((5:Int)==4) (if((5:Int)==4)=true then a7+cD (nth kids i)else max a7 (cD (nth kids i))) (kids.drop (i+1)):=rfl
    rw[b4]at hL;refine zh ?_;apply zv (ai (us:=bu (nth xs i)) (λj u hu=>b0.cell a2 hu) (L2 _) (ix _) rfl);apply aw (aA w2) 1 zo (L5 _) rfl;intro kb w3 O3 a6 b3 c6 c7;apply zsb (us:=#[nI (nth xs i).1,nI (nth xs i).2.1,(nth xs i).2.2]) a6 (ix _) (cj a');have a5:=a6.setRow (us:=#[nI (nth xs i).1,nI (nth xs i).2.1,(nth xs i).2.2]);have a9:MG w2 (w3.setRow kb #[nI (nth xs i).1,nI (nth xs i).2.1,(nth xs i).2.2]):=(b3.J (L4 zd a6.tag rfl)).ext;generalize w3.setRow kb #[nI (nth xs i).1,nI (nth xs i).2.1,(nth xs i).2.2]=w4 at *;refine zh ?_;apply zv (ai (us:=bu (nth xs i)) a5.V (L2 _) (ix _) rfl);apply zc Qp (gJ n zo (nth kids i) zo (nth xs i) w4 (a8.ext a9));rintro v w5 ⟨rfl,b5⟩;have a1:=(a3.J a9).J b5;have c8:w5.cell? (nA xb 0)=some (nI 5):=a1.cell c0;refine zh ?_
    by_cases a0:cD (nth kids i)<0
    ·rw[ap a0]at hL;refine zTH rfl ((decide_eq_true a0)) ?_;refine ah rfl rfl ⟨by rw[<-hL],a4.J a1⟩
    rw[am a0]at hL;refine zFH rfl ((decide_eq_false a0)) ?_;refine zFH rfl rfl ?_;refine zvH (jd rfl rfl) ?_;refine zxd (i+1,_,w5) ⟨a2,by dsimp only;omega,by dsimp only;omega,hL,a1⟩
   intro b1;obtain rfl:i=xs.length:=dF b1;rw[Mx zo]at hL;refine zh ?_;refine ah rfl rfl ⟨by rw[<-hL];rfl,a4.J a3⟩
  refine zFH rfl ((beq_eq_false_iff_ne.2 h5)) ?_
  by_cases h8:k=8
  ·subst h8;rw[ap zo];refine zTH rfl rfl ?_;apply zlp (λy:Nat×Int×ln=>[(2,nI 0),(3,nI y.2.1),(1,nP xb),(19,sv),(20,nI xs.length),(21,nI y.1)]) (λy=>y.2.2) (λy=>y.1<=xs.length/\0<=y.2.1/\y.2.1<=dP (kids.take y.1)/\cW ((8:Int)==4) y.2.1 (kids.drop y.1)=cW ((8:Int)==4) 0 kids/\MG w1 y.2.2) (λy=>xs.length-y.1) (0,0,w1) ⟨L9 _,NL _,by simp[dP],rfl,M8 _⟩;rintro⟨i,a7,w2⟩ ⟨hi,b2,ha,hL,a3⟩;dsimp only at hi b2 ha hL a3 ⊢;have b0:=b6.ext a3;refine zh ?_;refine zC ?_ ?_
   ·intro a2;replace a2:i<xs.length:=dT a2;have a8:=(hk i a2).ext (a4.J a3);have a':=a8.one;have c5:=bQ kids i zo;have b9:=ee kids i zo;have b8:=cP kids (i+1);have b':=lx (nth kids i);rw[kA zo]at hL;have b4:cW ((8:Int)==4) a7 (nth kids i::kids.drop (i+1))=if cD (nth kids i)<0 then -1 else cW ((8:Int)==4) (if((8:Int)==4)=true then a7+cD (nth kids i)else max a7 (cD (nth kids i))) (kids.drop (i+1)):=rfl
    rw[b4]at hL;refine zh ?_;apply zv (ai (us:=bu (nth xs i)) (λj u hu=>b0.cell a2 hu) (L2 _) (ix _) rfl);apply aw (aA w2) 1 zo (L5 _) rfl;intro kb w3 O3 a6 b3 c6 c7;apply zsb (us:=#[nI (nth xs i).1,nI (nth xs i).2.1,(nth xs i).2.2]) a6 (ix _) (cj a');have a5:=a6.setRow (us:=#[nI (nth xs i).1,nI (nth xs i).2.1,(nth xs i).2.2]);have a9:MG w2 (w3.setRow kb #[nI (nth xs i).1,nI (nth xs i).2.1,(nth xs i).2.2]):=(b3.J (L4 zd a6.tag rfl)).ext;generalize w3.setRow kb #[nI (nth xs i).1,nI (nth xs i).2.1,(nth xs i).2.2]=w4 at *;refine zh ?_;apply zv (ai (us:=bu (nth xs i)) a5.V (L2 _) (ix _) rfl);apply zc Qp (gJ n zo (nth kids i) zo (nth xs i) w4 (a8.ext a9));rintro v w5 ⟨rfl,b5⟩;have a1:=(a3.J a9).J b5;have c8:w5.cell? (nA xb 0)=some (nI 8):=a1.cell c0;refine zh ?_
    by_cases a0:cD (nth kids i)<0
    ·rw[ap a0]at hL;refine zTH rfl ((decide_eq_true a0)) ?_;refine ah rfl rfl ⟨by rw[<-hL],a4.J a1⟩
    rw[am a0]at hL;refine zFH rfl ((decide_eq_false a0)) ?_;refine zFH rfl rfl ?_;refine zvH (jd rfl rfl) ?_;refine zxd (i+1,_,w5) ⟨a2,by dsimp only;omega,by dsimp only;omega,hL,a1⟩
   intro b1;obtain rfl:i=xs.length:=dF b1;rw[Mx zo]at hL;refine zh ?_;refine ah rfl rfl ⟨by rw[<-hL];rfl,a4.J a3⟩
  rw[am zo];refine zFH rfl ((beq_eq_false_iff_ne.2 h8)) ?_;refine ah rfl rfl ⟨rfl,a4⟩
def uW(t:Nd):Int:=if bz t=true then max (cD t) 0 else 0
def uX(t:Nd):Bool:=bz t&&decide (0<=cD t)
def qb(t:Nd)(x:N3)(w:ln)(h:Nt (λ_=>0) w t x):N1 Ma 122 [nv x] w λv w'=>v=.tuple #[nI (uW t),.bool (uX t)]/\MG w w':=by
 apply L6 func122 ntmps122 rfl rfl;refine zh ?_
 apply aQ (aA w) 1 zo rfl rfl;intro xb w1 O1 a3 a5 a6 a1;have a2:∀W,MG w1 W->∀(j:Nat) (u:L0),(bu x)[j]? = some u->W.cell? (nA xb j)=some u:=λW hE j u hu=>hE.cell (a3.V j u hu)
 refine zh ?_;apply zv (ai (us:=bu x) (a2 w1 (M8 _)) (L2 _) (ix _) rfl)
 apply zc QK (gd t x w1 (h.ext a1));rintro v w2 ⟨rfl,a0⟩;refine zh ?_
 cases hr:bz t with
 |false=>
  refine zTH rfl rfl ?_;refine cy rfl rfl rfl ⟨by simp[uW,uX,hr],a1.J a0⟩
 |true=>
  have hz:nsz t<=2000:=by
   simp only[bz,Md,decide_eq_true_eq]at hr;exact hr.1
  refine zFH rfl rfl ?_;apply zv (ai (us:=bu x) (a2 w2 a0) (L2 _) (ix _) rfl)
  apply zc Qp (gJ (nsz t) zo t (L1 _) x w2 (h.ext (a1.J a0)));rintro v w3 ⟨rfl,a4⟩;refine zh ?_
  refine zvH (jd rfl rfl) ?_;refine cy rfl rfl rfl ⟨by simp[uW,uX,hr],(a1.J a0).J a4⟩
def I3{b:Bool}{q:Int}{t:Nd}{kb:Nat}(ih:∀(y:N3) (W:ln),Nt (λ_=>0) W t y->N1 Ma 166 [nv y,nI q] W λv w'=>v=.bool b/\MG W w')(x:N3)(w:ln)(h:Nt (λ_=>0) w t x)(hq:w.cell? ⟨kb,0,none⟩=some (nI q)):
  N1 Ma 222 [nv x,nP kb] w λv w'=>v=.bool b/\MG w w':=by
 apply L6 func222 ntmps222 rfl rfl;refine zh ?_
 apply aQ (aA w) 1 zo rfl rfl;intro xb w1 O1 a1 a4 a5 a0;have a3:=a0.cell hq;refine zh ?_
 refine zvH (ai (us:=bu x) a1.V (L2 _) (ix _) rfl) ?_;apply zc call166 (ih x w1 (h.ext a0))
 rintro v w2 ⟨rfl,a2⟩;refine zh ?_;refine ah rfl rfl ⟨rfl,a0.J a2⟩
def Da:∀(n:Nat) (t:Nd),nsz t<=n->∀(x:N3) (w:ln) (q:Int),Nt (λ_=>0) w t x->N1 Ma 166 [nv x,nI q] w λv w'=>v=.bool (Bx q t)/\MG w w'
 |0,t,hn=>by have:=dy t;omega
 |n+1,.mk k c kids,hn=>by
  intro x w q h;have a6:=h.ones;obtain⟨xs,hs,hf,hl,hk⟩:=h.kids;simp only[NW]at hl hk;simp only[nsz]at hn;generalize x.2.2=sv at *;subst a6;simp only[Q7,Qr];have hM:Bx q (.mk k c kids)=((k==q)||Fc q kids):=rfl;rw[hM];apply L6 func166 ntmps166 rfl rfl;refine zh ?_;apply aQ (aA w) 1 zo rfl rfl;intro xb w1 O1 a5 b1 a9 b0;apply aQ a9 2 zo rfl rfl;intro kb w2 O2 a7 a8 b2 a';have a3:=a5.U a8 zd zd;have a0:=b0.J a';have c0:w2.cell? (nA xb 0)=some (nI k):=a3.cell 0 rfl;have c2:w2.cell? (nA xb 2)=some sv:=a3.cell 2 rfl;have cq:=a7.cell 0 rfl;refine zh ?_;refine cx (MG w2) (Fc q kids) 4 (M8 _) rfl rfl rfl rfl rfl ?_ ?_
  ·intro a1;refine zh ?_;refine zvH (eo rfl rfl) ?_;apply zc QY (dz call222 #[nP kb] xs sv (λi=>Bx q (nth kids i)) w2 (hs.ext a0) (λi hi w' hE=>I3 (λy W hy=>Da n (nth kids i) (by have:=bQ kids i zo;omega) y W q hy) (nth xs i) w' ((hk i hi).ext (a0.J hE)) (hE.cell cq)));have a4:=sV q kids;rw[hl]at a4;rw[a4];rintro v w3 ⟨rfl,a2⟩;refine zh ?_;refine nE 9 5 a2 a1
  intro w3 a2;refine zh ?_;refine ah rfl rfl ⟨rfl,a0.J a2⟩
def A2(t:Nd)(q:Int)(x:N3)(w:ln)(h:Nt (λ_=>0) w t x):N1 Ma 123 [nv x,nI q] w λv w'=>v=.bool (bz t&&Bx q t)/\MG w w':=by
 apply L6 func123 ntmps123 rfl rfl;refine zh ?_
 apply aQ (aA w) 1 zo rfl rfl;intro xb w1 O1 a5 a6 a7 a3;have a4:∀W,MG w1 W->∀(j:Nat) (u:L0),(bu x)[j]? = some u->W.cell? (nA xb j)=some u:=λW hE j u hu=>hE.cell (a5.V j u hu)
 refine zh ?_;apply zv (ai (us:=bu x) (a4 w1 (M8 _)) (L2 _) (ix _) rfl)
 apply zc QK (gd t x w1 (h.ext a3));rintro v w2 ⟨rfl,a0⟩;refine zh ?_
 refine aU (MG w1) (Bx q t) 3 a0 rfl rfl rfl rfl rfl ?_ ?_
 ·intro a1;refine zh ?_;refine zvH (ai (us:=bu x) (a4 _ a0) (L2 _) (ix _) rfl) ?_;apply zc call166 (Da (nsz t) t (L1 _) x _ q (h.ext (a3.J a0)));rintro v w3 ⟨rfl,a2⟩;refine zh ?_;refine nE 7 4 (a0.J a2) a1
 intro w3 a2;refine zh ?_;refine ah rfl rfl ⟨rfl,a3.J a2⟩
def ga:∀(l:List Nd) (i:Nat),cz l=true->i<l.length->fZ (nth l i)=true
 |[],i,_,h=>absurd h (Mr i)
 |t::r,i,hs,h=>by
  unfold cz at hs;simp only[Md]at hs
  cases i with
  |zero=>rw[ar];exact hs.1
  |succ i=>rw[aX];exact ga r i hs.2 (by simpa using h)
def CV{l:List Nd}{a:Nat}{g:Gr}(h:q<l.length):nT (l.drop q) a b g=if q+1<l.length then nT (l.drop (q+1)) g.ks.length b (fO (nth l q) a g.ks.length g.knot)else fO (nth l q) a b g:=by
 rw[kA h,nT]
 by_cases e:q+1<l.length
 ·rw[ap e,am (by simp;omega)]
 rw[am e,ap (by simp;omega)]
def C0{l:List Nd}{a:Nat}{g:Gr}(h:q<l.length):nV (l.drop q) a b g=nV (l.drop (q+1)) a b (fO (nth l q) a b g):=by
 rw[kA h];rfl
def Gj{l:List Nd}{a:Nat}{g:Gr}(h:l.length=1):nU l a b g=fO (nth l 0) a b g:=by
 obtain⟨t,rfl⟩:=List.length_eq_one_iff.1 h;rw[ar];rfl
def Lv(t:Nd):Prop:=∀(B:Nat) (O:Nat->Nat) (w:ln) (i nb:Nat) (se:Bool) (g:Gr) (na ta lv kv:L0) (xs:List K3) (a b:Nat) (x:N3) (M:Nat),i≠0->N0 B O w->NfO O w i nb se g na ta lv kv xs->WF g->a<g.ks.length->b<g.ks.length->Bd g M->M+9*nsz t<=100000000->fZ t=true->Nt O w t x->
 N1 Ma 179 [nP nb,nv x,nI (a:Nat),nI (b:Nat)] w λ_ w'=>NfP B O w w' i nb se (fO t a b g) na ta
def xP{k:Int}{l:List Nd}(a':k=6\/k=7\/k=8)(ih:Lv (nth l 0))(B:Nat)(O:Nat->Nat)(w:ln)(i nb:Nat)(se:Bool)(g:Gr)(na ta lv kv:L0)(xs:List K3)(a b:Nat)(x:N3)(M:Nat)(hi:i≠0)(hR:N0 B O w)(h:NfO O w i nb se g na ta lv kv xs)(hw:WF g)(ha:a<g.ks.length)(hb:b<g.ks.length)(hM:Bd g M)(e8:M+9*nsz (.mk k c l)<=100000000)(hs:fZ (.mk k c l)=true)(hn:Nt O w (.mk k c l) x):
  N1 Ma 230 [nP nb,nv x,nI (a:Nat),nI (b:Nat)] w λ_ w'=>NfP B O w w' i nb se (fO (.mk k c l) a b g) na ta:=by
 obtain⟨T,d9,hT⟩:=hR.bound;have g1:=hn.kind;obtain⟨ys,d4,a5,b4,a3⟩:=hn.kids;have hx:=hn.ones;generalize x.2.2=kidv at *;subst hx;unfold fZ at hs;simp only[Md]at hs;obtain⟨b9,d5⟩:=hs;rw[am zo,ap a']at b9;have b':=of_decide_eq_true b9;have g0:ys.length=1:=by rw[<-b4];exact b'
 have b5:fO (.mk k c l) a b g=layO k (fO (nth l 0) g.ks.length (g.ks.length+1) (bT g a b)) g.ks.length:=by
  rw[fO,am zo,am zo,ap a',Gj b'];rfl
 have g4:=bQ l 0 zo;simp only[nsz]at e8;rw[b5];apply L6 func230 ntmps230 rfl rfl;refine zh ?_;apply aQ hR T zo rfl rfl;intro xb w1 O1 c8 b1 b6 b7;obtain⟨b8,c5⟩:=Jo d9 hT b1 (MH zo _ _) c8;clear c8 b1 b6 b7;have b6:=hR.ext b8;have k1:Cell0 O w1 (nA xb 0) (nI k):=c5 0 _ rfl;have b1:LY (λq=>i<=q) O w O w1:=ae zo O b8;refine zh ?_;apply zc P8 (jv B O w1 i nb se g na ta _ _ _ hi b6 (h.ext b8 hi) (by have:=hM.ks;omega));rintro _ w2 ⟨rfl,O2,f7,f',f4,d2,e6,h2⟩;refine zh ?_;have e1:=aS g;apply zc P8 (jv B O2 w2 i nb se g.knot na ta _ _ _ hi e6 h2 (by have:=hM.ks;omega));rintro _ w3 ⟨rfl,O3,f6,f9,f3,d1,e5,h3⟩;rw[e1];have e2:=aS g.knot;refine zh ?_;apply zc NM (gO B O3 w3 i nb se g.knot.knot na ta _ _ _ a g.ks.length hi e5 h3 zo (by have:=Bd.fr hM.knot.knot a;omega) (by have:=Bd.ks hM.knot.knot;omega));rintro _ w4 ⟨O4,_,_,_,d0,e4,h4⟩;have e3:=bj g.knot.knot a g.ks.length;refine zh ?_;apply zc NM (gO B O4 w4 i nb se (g.knot.knot.free a g.ks.length) na ta _ _ _ (g.ks.length+1) b hi e4 h4 zo (by have:=Bd.fr (hM.knot.knot.free (a:=a) (b:=g.ks.length) zo) (g.ks.length+1);omega) (by have:=Bd.ks (hM.knot.knot.free (a:=a) (b:=g.ks.length) zo);omega));rintro _ w5 ⟨O5,_,_,_,c',e0,h5⟩;have a0:=(((b1.J d2).J d1).J d0).J c';have a7:=((d2.J d1).J d0).J c'
 have e9:NfO O5 w5 i nb se (bT g a b) na ta _ _ _:=h5;have b3:=fe hw ha hb;have g3:=eC g a b;have c6:=hM.often (b:=b) ha;have k5:=k1.U a7;have v5:=(c5 2 _ rfl).U a7;have a1:=d4.U a5 a0;have a4:=(a3 0 zo).U a0;refine zh ?_;apply zv (RV.ld v5.c rfl);apply zv (Nl a1 MV (ix _) rfl rfl 0 rfl zo);refine zvH (ai (us:=bu (nth ys 0)) (λj u hu=>a1.cell zo hu) (L2 _) (ix _) rfl) ?_;apply zc PL (ih B O5 w5 i nb se (bT g a b) na ta _ _ _ g.ks.length (g.ks.length+1) (nth ys 0) (M+4) hi e0 e9 b3 zo zo c6 zo (ga l 0 d5 zo) a4);rintro _ w6 ⟨O6,f5,f8,e',c9,d3,h6⟩;obtain⟨g2,a2⟩:=cQ (nth l 0) g.ks.length (g.ks.length+1) (bT g a b) b3 zo zo;have a6:=gM (nth l 0) g.ks.length (g.ks.length+1) (bT g a b) (M+4) b3 zo zo c6;have d7:=a2.len;generalize fO (nth l 0) g.ks.length (g.ks.length+1) (bT g a b)=g6 at *;have a9:=a0.J c9;have k6:=k5.U c9;refine zh ?_;refine zvH (RV.ld k6.c rfl) ?_
 by_cases h7:k=7
 ·subst h7;refine zFH rfl rfl ?_;refine zvH (RV.ld k6.c rfl) ?_;refine zTH rfl rfl ?_;apply zc NM (gO B O6 w6 i nb se g6 na ta _ _ _ (g.ks.length+1) g.ks.length hi d3 h6 zo (by have:=Bd.fr a6 (g.ks.length+1);omega) (by have:=Bd.ks a6;omega));rintro _ w7 ⟨O7,_,_,_,b0,b2,h7⟩;refine zh ?_;refine aK rfl ⟨O7,_,_,_,a9.J b0,b2,h7⟩
 refine zTH rfl ((by simpa using h7)) ?_;apply zc NM (gO B O6 w6 i nb se g6 na ta _ _ _ g.ks.length (g.ks.length+1) hi d3 h6 zo (by have:=Bd.fr a6 g.ks.length;omega) (by have:=Bd.ks a6;omega))
 rintro _ w7 ⟨O7,_,_,_,b0,b2,h7n⟩;have a8:=a9.J b0;have k7:=k6.U b0;refine zh ?_;refine zvH (RV.ld k7.c rfl) ?_
 by_cases h8:k=8
 ·subst h8;refine zFH rfl rfl ?_;refine aK rfl ⟨O7,_,_,_,a8,b2,h7n⟩
 apply aM rfl ((by simpa using h8));have d6:layO k g6 g.ks.length=(g6.free g.ks.length (g.ks.length+1)).free (g.ks.length+1) g.ks.length:=by unfold layO;rw[am h8,am h7]
 rw[d6];have c7:=a6.free (a:=g.ks.length) (b:=g.ks.length+1) zo;have e7:=bj g6 g.ks.length (g.ks.length+1);refine zh ?_;apply zc NM (gO B O7 w7 i nb se (g6.free g.ks.length (g.ks.length+1)) na ta _ _ _ (g.ks.length+1) g.ks.length hi b2 h7n zo (by have:=Bd.fr c7 (g.ks.length+1);omega) (by have:=Bd.ks c7;omega));rintro _ w8 ⟨O8,_,_,_,d8,d',h8n⟩;refine zh ?_;refine aK rfl ⟨O8,_,_,_,a8.J d8,d',h8n⟩
def Gg{k:Int}{l:List Nd}(h4:k≠4)(h5:k≠5)(a0:¬(k=6\/k=7\/k=8))(h9:k≠9)(a b:Nat)(g:Gr):fO (.mk k c l) a b g=g.leaf k c a b:=by
 rw[fO,am h4,am h5,am a0,am h9]
def CU:∀(n:Nat) (t:Nd),nsz t<=n->Lv t
 |0,t,ht=>by have:=dy t;omega
 |n+1,.mk k c l,ht=>by
  intro B O w i nb se g na ta lv kv xs a b x M hi hR h hw ha hb hM l2 hs hn;have ih:=fun(t:Nd) (e:nsz t<=n)=>CU n t e
  have j':=hs;obtain⟨T,l1,hT⟩:=hR.bound;obtain⟨ys,j0,f',i0,d'⟩:=hn.kids;have hx:=hn.ones;generalize x.2.2=kidv at *;subst hx;unfold fZ at hs;simp only[Md]at hs;obtain⟨g5,g'⟩:=hs;simp only[nsz]at l2 ht
  change l.length=ys.length at i0
  change ∀i,i<ys.length->Nt O w (nth l i) (nth ys i)at d'
  have m4:=eQ l;apply L6 func179 ntmps179 rfl rfl;refine zh ?_;apply aQ hR T zo rfl rfl;intro xb w1 O1 j2 b8 e4 i';obtain⟨e',e8⟩:=Jo l1 hT b8 (MH zo _ _) j2;clear j2 b8 e4 i';have h1:=h.ext e' hi;have e4:=hR.ext e';have k1:Cell0 O w1 (nA xb 0) (nI k):=e8 0 _ rfl;have j4:=e8 1 _ rfl;have v1:=e8 2 _ rfl;have b8:LY (λq=>i<=q) O w O w1:=ae zo O e';have f4:=j0.ext e';have b7:=f'.U b8;have k5:Nt O w1 (.mk k c l) (k,c,kidv):=hn.ext e';have b6:=λq hq=>(d' q hq).ext e'
  refine zh ?_;refine zvH (RV.ld k1.c rfl) ?_
  by_cases h4:k=4
  ·subst h4;rw[ap rfl]at g5;have b4:fO (.mk 4 c l) a b g=nT l a b g:=by rw[fO,ap rfl]
   rw[b4];refine zTH rfl rfl ?_;refine zvH (RV.ld v1.c rfl) ?_;apply zlp (λz:Nat×Nat×(Nat->Nat)×World×Gr×L0×L0×List K3=>[(0,nP nb),(2,nI z.2.1),(3,nI b),(5,nP xb),(55,kidv),(56,nI ys.length),(57,nI z.1)]) (λz=>z.2.2.2.1) (λz=>z.1<=l.length/\LY (λq=>i<=q) O w1 z.2.2.1 z.2.2.2.1/\N0 B z.2.2.1 z.2.2.2.1/\NfO z.2.2.1 z.2.2.2.1 i nb se z.2.2.2.2.1 na ta z.2.2.2.2.2.1 z.2.2.2.2.2.2.1 z.2.2.2.2.2.2.2/\WF z.2.2.2.2.1/\z.2.1<z.2.2.2.2.1.ks.length/\b<z.2.2.2.2.1.ks.length/\Bd z.2.2.2.2.1 (M+9*dP (l.take z.1))/\nT l a b g=(if z.1<l.length then nT (l.drop z.1) z.2.1 b z.2.2.2.2.1 else z.2.2.2.2.1)) (λz=>l.length-z.1) (0,a,O,w1,g,lv,kv,xs) ⟨L9 _,MH zo _ _,e4,h1,hw,ha,hb,by simpa[dP]using hM,by dsimp only;rw[ap (by cases l;simp at g5;simp),List.drop_zero]⟩;rintro⟨q,fr,O2,w2,g2,j6,j7,j5⟩ ⟨hq,b0,b1,h2,b2,d0,d2,c5,a7⟩;dsimp only at hq b0 b1 h2 b2 d0 d2 c5 a7 ⊢;have c6:=f4.U b7 b0;have v2:=v1.U b0;have k0:=cP l q;refine zh ?_;refine zC ?_ ?_
   ·intro a1;replace a1:q<l.length:=dT a1;rw[ap a1,CV a1]at a7;have a3:=(b6 q zo).U b0;have k2:=bQ l q a1;have e1:=ee l q a1;have h0:=cP l (q+1);have a5:=a3.one;obtain⟨T2,e3,i8⟩:=b1.bound;refine zh ?_;apply zv (ai (us:=bu (nth ys q)) (λj u hu=>c6.cell zo hu) (L2 _) (ix _) rfl);apply aw b1 T2 zo (L5 _) rfl;intro yb w3 O3 a8 a' g4 e6;refine zh ?_;apply zsb (us:=#[nI (nth ys q).1,nI (nth ys q).2.1,(nth ys q).2.2]) a8 (ix _) (cj a5);have g3:LY (λj=>j=T2) O3 w3 O3 (w3.setRow yb #[nI (nth ys q).1,nI (nth ys q).2.1,(nth ys q).2.2]):=L4 zo a8.tag rfl;obtain⟨b9,g6⟩:=Jo e3 i8 a' g3 (a8.setRow (us:=#[nI (nth ys q).1,nI (nth ys q).2.1,(nth ys q).2.2]));generalize w3.setRow yb #[nI (nth ys q).1,nI (nth ys q).2.1,(nth ys q).2.2]=w4 at *;clear a8 a' g4 e6 g3;have a9:LY (λq=>i<=q) O2 w2 O2 w4:=ae zo O2 b9;have h4n:=h2.ext b9 hi;have e9:=b1.ext b9;have v4:=v2.ext b9;have a6:=a3.ext b9;refine zh ?_;apply zv (RV.ld v4.c rfl);refine zvH (RV.len (by first|exact c6.ext b9) MV rfl) ?_;refine zC ?_ ?_
    ·intro c8;replace c8:q+1<l.length:=dT c8;rw[ap c8]at a7;refine zh ?_;apply zc P8 (jv B O2 w4 i nb se g2 na ta _ _ _ hi e9 h4n (by have:=c5.ks;omega));rintro _ w5 ⟨rfl,O5,m0,m1,l9,i5,i9,h5⟩;have i6:=a9.J i5;have e5:=aS g2;refine zh ?_;refine zvH (ai (us:=bu (nth ys q)) (λj u hu=>((g6 j u hu).U i5).c) (L2 _) (ix _) rfl) ?_;apply zc PL (ih (nth l q) zo B O5 w5 i nb se g2.knot na ta _ _ _ fr g2.ks.length (nth ys q) _ hi i9 h5 b2.knot zo zo c5.knot zo (ga l q g' a1) (a6.U i5));rintro _ w6 ⟨O6,d4,d5,d3,a0,a4,h6⟩;obtain⟨f5,a2⟩:=cQ (nth l q) fr g2.ks.length g2.knot b2.knot zo zo;have d1:=gM (nth l q) fr g2.ks.length g2.knot _ b2.knot zo zo c5.knot;have f8:=a2.len;have m3:=dy (nth l q);refine zh ?_;refine zxd (q+1,g2.ks.length,O6,w6,fO (nth l q) fr g2.ks.length g2.knot,d4,d5,d3) ⟨a1,(b0.J i6).J a0,a4,h6,f5,by dsimp only;omega,by dsimp only;omega,d1.mono (by dsimp only;omega),by dsimp only;rw[ap c8];exact a7⟩
    intro c';replace c':¬q+1<l.length:=by have:=of_decide_eq_false c';omega
    rw[am c']at a7;refine zh ?_;refine zvH (ai (us:=bu (nth ys q)) (λj u hu=>(g6 j u hu).c) (L2 _) (ix _) rfl) ?_;apply zc PL (ih (nth l q) zo B O2 w4 i nb se g2 na ta _ _ _ fr b (nth ys q) _ hi e9 h4n b2 d0 d2 c5 zo (ga l q g' a1) a6);rintro _ w6 ⟨O6,d4,d5,d3,a0,a4,h6⟩;obtain⟨f5,a2⟩:=cQ (nth l q) fr b g2 b2 d0 d2;have d1:=gM (nth l q) fr b g2 _ b2 d0 d2 c5;have f8:=a2.len;refine zh ?_;refine zxd (q+1,b,O6,w6,fO (nth l q) fr b g2,d4,d5,d3) ⟨a1,(b0.J a9).J a0,a4,h6,f5,by dsimp only;omega,by dsimp only;omega,d1.mono (by dsimp only;omega),by dsimp only;rw[am c'];exact a7⟩
   intro e7;replace e7:¬q<l.length:=dF e7;rw[am e7]at a7;rw[a7];refine zh ?_;refine aK rfl ⟨O2,_,_,_,b8.J b0,b1,h2⟩
  refine zFH rfl ((by simpa using h4)) ?_
  by_cases h5:k=5
  ·subst h5;have b4:fO (.mk 5 c l) a b g=nV l a b g:=by rw[fO,am h4,ap rfl]
   rw[b4];refine zTH rfl rfl ?_;refine zvH (RV.ld v1.c rfl) ?_;apply zlp (λz:Nat×(Nat->Nat)×World×Gr×L0×L0×List K3=>[(0,nP nb),(2,nI a),(3,nI b),(81,kidv),(82,nI ys.length),(83,nI z.1)]) (λz=>z.2.2.1) (λz=>z.1<=l.length/\LY (λq=>i<=q) O w1 z.2.1 z.2.2.1/\N0 B z.2.1 z.2.2.1/\NfO z.2.1 z.2.2.1 i nb se z.2.2.2.1 na ta z.2.2.2.2.1 z.2.2.2.2.2.1 z.2.2.2.2.2.2/\WF z.2.2.2.1/\a<z.2.2.2.1.ks.length/\b<z.2.2.2.1.ks.length/\Bd z.2.2.2.1 (M+9*dP (l.take z.1))/\nV l a b g=nV (l.drop z.1) a b z.2.2.2.1) (λz=>l.length-z.1) (0,O,w1,g,lv,kv,xs) ⟨L9 _,MH zo _ _,e4,h1,hw,ha,hb,by simpa[dP]using hM,rfl⟩;rintro⟨q,O2,w2,g2,j6,j7,j5⟩ ⟨hq,b0,b1,h2,b2,g7,d2,c5,a7⟩;dsimp only at hq b0 b1 h2 b2 g7 d2 c5 a7 ⊢;have c6:=f4.U b7 b0;have k0:=cP l q;refine zh ?_;refine zC ?_ ?_
   ·intro a1;replace a1:q<l.length:=dT a1;rw[C0 a1]at a7;have a3:=(b6 q zo).U b0;have k2:=bQ l q a1;have e1:=ee l q a1;have h0:=cP l (q+1);have a5:=a3.one;obtain⟨T2,e3,i8⟩:=b1.bound;refine zh ?_;apply zv (ai (us:=bu (nth ys q)) (λj u hu=>c6.cell zo hu) (L2 _) (ix _) rfl);apply aw b1 T2 zo (L5 _) rfl;intro yb w3 O3 a8 a' g4 e6;apply zsb (us:=#[nI (nth ys q).1,nI (nth ys q).2.1,(nth ys q).2.2]) a8 (ix _) (cj a5);have g3:LY (λj=>j=T2) O3 w3 O3 (w3.setRow yb #[nI (nth ys q).1,nI (nth ys q).2.1,(nth ys q).2.2]):=L4 zo a8.tag rfl;obtain⟨b9,g6⟩:=Jo e3 i8 a' g3 (a8.setRow (us:=#[nI (nth ys q).1,nI (nth ys q).2.1,(nth ys q).2.2]));generalize w3.setRow yb #[nI (nth ys q).1,nI (nth ys q).2.1,(nth ys q).2.2]=w4 at *;clear a8 a' g4 e6 g3;have a9:LY (λq=>i<=q) O2 w2 O2 w4:=ae zo O2 b9;have h4n:=h2.ext b9 hi;have e9:=b1.ext b9;have a6:=a3.ext b9;refine zh ?_;refine zvH (ai (us:=bu (nth ys q)) (λj u hu=>(g6 j u hu).c) (L2 _) (ix _) rfl) ?_;apply zc PL (ih (nth l q) zo B O2 w4 i nb se g2 na ta _ _ _ a b (nth ys q) _ hi e9 h4n b2 g7 d2 c5 zo (ga l q g' a1) a6);rintro _ w6 ⟨O6,d4,d5,d3,a0,a4,h6⟩;obtain⟨f5,a2⟩:=cQ (nth l q) a b g2 b2 g7 d2;have d1:=gM (nth l q) a b g2 _ b2 g7 d2 c5;have f8:=a2.len;refine zh ?_
    refine zxd (q+1,O6,w6,fO (nth l q) a b g2,d4,d5,d3) ⟨a1,(b0.J a9).J a0,a4,h6,f5,by dsimp only;omega,by dsimp only;omega,d1.mono (by dsimp only;omega),a7⟩
   intro e7;replace e7:¬q<l.length:=dF e7;rw[Mx zo]at a7;rw[a7,nV];refine zh ?_;refine aK rfl ⟨O2,_,_,_,b8.J b0,b1,h2⟩
  refine zFH rfl ((by simpa using h5)) ?_
  by_cases b':k=6\/k=7\/k=8
  ·rw[am h4,ap b']at g5;have m6:l.length=1:=of_decide_eq_true g5;have m2:=bQ l 0 zo;have a5:kidv.oneCell'=true:=j0.one;have g8:∀(w':ln),MG w1 w'->N1 Ma 230 [nP nb,nv (k,c,kidv),nI (a:Nat),nI (b:Nat)] w' λ_ w''=>NfP B O w' w'' i nb se (fO (.mk k c l) a b g) na ta:=λw' hE=>xP b' (ih (nth l 0) zo) B O w' i nb se g na ta _ _ _ a b (k,c,kidv) M hi (e4.ext hE) (h1.ext hE hi) hw ha hb hM (by simp only[nsz];omega) j' (k5.ext hE)
   rcases b' with h6|h7|h8
   ·subst h6;refine zTH rfl rfl ?_;refine zTH rfl rfl ?_;refine zvH (ai (us:=bu (6,c,kidv)) (λj u hu=>(e8 j u hu).c) (L2 _) (ix _) rfl) ?_;apply zc QX (g8 w1 (M8 w1));rintro _ w6 ⟨O6,d4,d5,d3,a0,a4,h6n⟩;refine zh ?_;refine aK rfl ⟨O6,_,_,_,b8.J a0,a4,h6n⟩
   ·subst h7;refine zFH rfl rfl ?_;refine zTH rfl rfl ?_;refine zTH rfl rfl ?_;refine zvH (ai (us:=bu (7,c,kidv)) (λj u hu=>(e8 j u hu).c) (L2 _) (ix _) rfl) ?_;apply zc QX (g8 w1 (M8 w1));rintro _ w6 ⟨O6,d4,d5,d3,a0,a4,h6n⟩;refine zh ?_;refine aK rfl ⟨O6,_,_,_,b8.J a0,a4,h6n⟩
   subst h8;refine zFH rfl rfl ?_;refine zFH rfl rfl ?_;refine zTH rfl rfl ?_;refine zvH (ai (us:=bu (8,c,kidv)) (λj u hu=>(e8 j u hu).c) (L2 _) (ix _) rfl) ?_;apply zc QX (g8 w1 (M8 w1));rintro _ w6 ⟨O6,d4,d5,d3,a0,a4,h6n⟩;refine zh ?_;refine aK rfl ⟨O6,_,_,_,b8.J a0,a4,h6n⟩
  refine zFH rfl ((by simp;omega)) ?_;refine zFH rfl ((by simp;omega)) ?_
  refine zFH rfl ((by simp;omega)) ?_
  by_cases h9:k=9
  ·subst h9;have b4:fO (.mk 9 c l) a b g=g.free a b:=by rw[fO,am h4,am h5,am b',ap rfl]
   rw[b4];refine zTH rfl rfl ?_;apply zc NM (gO B O w1 i nb se g na ta _ _ _ a b hi e4 h1 zo (by have:=Bd.fr hM a;omega) (by have:=Bd.ks hM;omega));rintro _ w6 ⟨O6,_,_,_,a0,a4,h6n⟩;refine zh ?_;refine aK rfl ⟨O6,_,_,_,b8.J a0,a4,h6n⟩
  apply aH rfl ((by simpa using h9));rw[Gg h4 h5 b' h9];have e0:a<xs.length:=by have:=h.ks.len;omega
  have k':=hM.ls;have k9:=hM.lv a;have j1:=h1.ks.row.sl.sh;have k8:w1.drew.cell? (nA nb 1)=some lv:=h1.c1;have s0:∀W,MG w1.drew W->W.cell? (nA xb 0)=some (nI k)/\W.cell? (nA xb 1)=some (nI c):=λW hE=>⟨hE.cell k1.c,hE.cell j4.c⟩
  refine zh ?_;apply aO (λW=>W.cell? (nA xb 0)=some (nI k)/\W.cell? (nA xb 1)=some (nI c)) 16 rfl zk
  refine zin (s0 _ (M8 _)) λzS=>?_
  apply zrm 0 rfl zS rfl;apply zrm 1 rfl zS rfl
  apply zr 2 rfl zS (λ_=>aq rfl);apply zrf 3 rfl zS rfl
  apply zrf 5 rfl zS rfl;apply zt 6 rfl zS (λw1 c7=>RV.ld c7.1 rfl)
  apply zrf 7 rfl zS rfl;apply zt 8 rfl zS (λw1 c7=>RV.ld c7.2 rfl)
  apply zrm 9 rfl zS rfl;apply zr 10 rfl zS (λ_=>aI KP (QV _) rfl (by first|rfl|(simp only[LZ,Mc];rfl)) rfl rfl)
  apply cG 4 11 Lt (enc:=sZ) ((k,c,b):Lf) rfl rfl zk zk zk zk (λW hE=>QD (hE.cell k8) (isAgg275 _) rfl) s0 rfl rfl rfl zd rfl rfl rfl rfl rfl;intro sv w2 j9 l4;have g1:LY (λ_=>False) O w1 O w2:=ae (λh=>h) O ((M8 w1).drew.J l4);have h2:=h1.U g1 hi λ_ _ h=>h
  have b1:=e4.U g1;apply Mf 12 zk rfl;apply aF Lt h2.ls b1 j9 (by simp) rfl rfl (by simp) (by simp[M5]) (by simp;omega) (by simp;omega) zo rfl;intro b3 w3 O3 d9 a' g4;have k3:=(k1.U g1).U a';have j3:=(j4.U g1).U a';have a8:=h2.blk.U a' hi zo;have b5:Ks O3 w3 i kv g xs:=⟨h2.ks.row.U a' zo zo,h2.ks.len,λq hq=>(h2.ks.fr q hq).U a' zo zo,λq hq=>(h2.ks.lv q hq).U a' zo zo,h2.ks.en⟩
  refine zh ?_;refine zaf ⟨k3.c,j3.c⟩ λzS=>?_
  apply zr 13 rfl zS (λ_=>aq rfl);apply zrf 14 rfl zS rfl
  apply Mf 15 zk rfl;apply ao (j:=1) a8 rfl (sizeOf275 _) d9.one rfl rfl rfl
  have a9:LY (λq=>q=i) O3 w3 O3 (w3.setCell ⟨nb,1,none⟩ b3):=Mi (λe=>hi e.symm) a8.tag rfl;have i4:Mu O3 (w3.setCell ⟨nb,1,none⟩ b3) i nb (nfC se b3 kv na ta) 278:=a8.set 1 b3;have k4:=k3.U a9;have l6:=j3.U a9;have d8:=d9.U a9 zo zo;have f9:Ks O3 (w3.setCell ⟨nb,1,none⟩ b3) i kv g xs:=⟨b5.row.U a9 zo zo,b5.len,λq hq=>(b5.fr q hq).U a9 zo zo,λq hq=>(b5.lv q hq).U a9 zo zo,b5.en⟩
  have e9:=g4.U a9;have i7:LY (λq=>i<=q) O w1 O3 (w3.setCell ⟨nb,1,none⟩ b3):=((g1.mono (λ_ h=>h.elim) zo).J (Upd.hi a' hi zo)).J (Upd.hi a9 hi (L1 _));refine zh ?_;apply af ⟨k4.c,l6.c⟩;generalize w3.setCell ⟨nb,1,none⟩ b3=w4 at *;have l8:w4.drew.cell? (nA nb 1)=some b3:=i4.cell 1 rfl;have l7:w4.drew.cell? (nA nb 2)=some kv:=i4.cell 2 rfl;have l5:w4.drew.cell? ((adr kv 3 a).add 1)=some (nth xs a).2.1:=f9.f1 e0;have k7:(g.ls++[((k,c,b):Lf)]).length=g.ls.length+1:=by simp
  have s4:∀W,MG w4.drew W->W.cell? (nA nb 1)=some b3/\W.cell? (nA nb 2)=some kv:=λW hE=>⟨hE.cell l8,hE.cell l7⟩
  apply MY zk;refine zh ?_
  apply aO (λW=>W.cell? (nA nb 1)=some b3/\W.cell? (nA nb 2)=some kv) 23 rfl zk;refine zin (s4 _ (M8 _)) λzS=>?_
  apply zrm 0 rfl zS rfl;apply zr 1 rfl zS (λ_=>aq rfl)
  apply zrf 2 rfl zS rfl;apply zt 3 rfl zS (λw1 c7=>RV.ld c7.2 rfl)
  apply zrm 4 rfl zS rfl;apply zrm 5 rfl zS rfl
  apply zr 6 rfl zS (λ_=>aq rfl);apply zrf 7 rfl zS rfl
  apply zt 8 rfl zS (λw1 c7=>RV.ld c7.2 rfl);apply zrm 9 rfl zS rfl
  apply zr 10 rfl zS (λ_=>aj j1 Mv (N7 _) rfl rfl a rfl e0);apply zrf 11 rfl zS rfl
  apply zrm 13 rfl zS rfl;apply zr 14 rfl zS (λ_=>aq rfl)
  apply zrf 15 rfl zS rfl;apply zt 16 rfl zS (λw1 c7=>RV.ld c7.1 rfl)
  apply zr 17 rfl zS (λ_=>bH d8.sl.sh Nh rfl);rw[k7];apply cG 12 18 lK (enc:=bp) (g.ls.length+1) rfl rfl zk zk zk zk (λW hE=>QD (hE.cell l5) (isAgg22 _) rfl) s4 rfl rfl rfl zd rfl rfl rfl rfl rfl
  intro l' w5 g9 l3;have g0:LY (λ_=>False) O3 w4 O3 w5:=ae (λh=>h) O3 ((M8 w4).drew.J l3);have c9:=f9.U g0 λ_ _ _ h=>h
  have l0:=i4.U g0 hi λh=>h
  have f7:=d8.U g0 zo λh=>h
  have i9:=e9.U g0;apply Mf 19 zk rfl;apply aF lK (c9.lv a e0) i9 g9 (by simp) rfl rfl (by simp) (by simp[M5]) (by simp;omega) (by simp;omega) zo rfl;intro av w6 O6 d7 a0 a4;have d1:=l0.U a0 hi zo;have i2:=c9.row.U a0 zo zo;have h':=f7.U a0 zo zo;refine zh ?_;refine zaf ⟨d1.cell 1 rfl,d1.cell 2 rfl⟩ λzS=>?_
  apply zr 20 rfl zS (λ_=>aj j1 Mv (N7 _) rfl rfl a rfl e0);apply zrf 21 rfl zS rfl
  apply Mf 22 zk rfl;apply pJ i2 a e0 1 zd (((nth xs a).1,av,(nth xs a).2.2):K3) (QJ _) d7.one zo rfl rfl rfl rfl
  intro w7 i1 e2;have i3:=d1.U e2 hi zo;have h3:=h'.U e2 zo zo;refine zh ?_;apply af ⟨i3.cell 1 rfl,i3.cell 2 rfl⟩;have d6:∀q,q<xs.length->MC bp 3 1 O6 w7 (i+6+2*q) (nth xs q).1 (g.fr q):=λq hq=>((c9.fr q hq).U a0 zo zo).U e2 zo zo
  have f3:∀q,q<xs.length->q≠a->MC bp 3 1 O6 w7 (i+7+2*q) (nth xs q).2.1 (g.lv q):=λq hq m5=>((c9.lv q hq).U a0 zo zo).U e2 zo zo
  have f6:=d7.U e2 zo zo;have j8:=h.ks.len;apply MY zk;refine zh ?_;refine aK rfl ⟨O6,b3,kv,xs.set a ((nth xs a).1,av,(nth xs a).2.2),b8.J (i7.J (((g0.mono (λ_ h=>h.elim) zo).J (Upd.hi a0 hi zo)).J (Upd.hi e2 hi zo))),a4.U e2,⟨i3,h3,⟨i1,by rw[M1,gL];exact j8,λq hq=>?_,λq hq=>?_,λq hq=>?_⟩⟩⟩
  ·rw[M1]at hq;rw[bf e0,oO ha]
   by_cases e:q=a
   ·subst e;rw[ap rfl];exact d6 q hq
   rw[am e];exact d6 q hq
  ·rw[M1]at hq;rw[bf e0,mE ha]
   by_cases e:q=a
   ·subst e;rw[ap rfl,ap rfl];exact f6
   rw[am e,am e];exact f3 q hq e
  rw[M1]at hq;rw[bf e0,CT ha]
  by_cases e:q=a
  ·subst e;rw[ap rfl];exact h.ks.en q hq
  rw[am e];exact h.ks.en q hq
structure NfR(w:ln)(nb:Nat)(se:Bool)(g:Gr)(na ta lv kv:L0)(xs:List K3):Prop where
 c0:w.cell? (nA nb 0)=some (.bool se)
 c1:w.cell? (nA nb 1)=some lv
 c2:w.cell? (nA nb 2)=some kv
 c3:w.cell? (nA nb 3)=some na
 c4:w.cell? (nA nb 4)=some ta
 ls:Sl sZ 3 w lv g.ls
 ks:Sl Kd 3 w kv xs
 len:xs.length=g.ks.length
 fr:∀k,k<xs.length->Sl bp 1 w (nth xs k).1 (g.fr k)
 lv:∀k,k<xs.length->Sl bp 1 w (nth xs k).2.1 (g.lv k)
 en:∀k,k<xs.length->(nth xs k).2.2=g.en k
section
variable{O:Nat→Nat}{w w':ln}{i nb:Nat}{se:Bool}{g:Gr}{na ta lv kv:L0}{xs:List K3}
def NfO.r(h:NfO O w i nb se g na ta lv kv xs):NfR w nb se g na ta lv kv xs:=⟨h.c0,h.c1,h.c2,h.c3,h.c4,h.ls.sl,h.ks.row.sl,h.ks.len,λk hk=>(h.ks.fr k hk).sl,λk hk=>(h.ks.lv k hk).sl,h.ks.en⟩
def NfR.ext(h:NfR w nb se g na ta lv kv xs)(e:MG w w'):NfR w' nb se g na ta lv kv xs:=⟨e.cell h.c0,e.cell h.c1,e.cell h.c2,e.cell h.c3,e.cell h.c4,h.ls.ext e,h.ks.ext e,h.len,λk hk=>(h.fr k hk).ext e,λk hk=>(h.lv k hk).ext e,h.en⟩
def NfR.f0(h:NfR w nb se g na ta lv kv xs)(hk:k<xs.length):w.cell? ((adr kv 3 k).add 0)=some (nth xs k).1:=h.ks.cell (j:=0) hk rfl
def NfR.f1(h:NfR w nb se g na ta lv kv xs)(hk:k<xs.length):w.cell? ((adr kv 3 k).add 1)=some (nth xs k).2.1:=h.ks.cell (j:=1) hk rfl
def NfR.f2(h:NfR w nb se g na ta lv kv xs)(hk:k<xs.length):w.cell? ((adr kv 3 k).add 2)=some (nI ((g.en k:Nat):Int)):=by rw[<-h.en k hk];exact h.ks.cell (j:=2) hk rfl
end
def yz{l:List Nat}{f:List Nat}(h:j<f.length):ey l (f.drop j)=ey (if l.contains (nth f j)then l else l++[nth f j]) (f.drop (j+1)):=by
 rw[show f.drop j=nth f j::f.drop (j+1)from by rw[aD h];exact NX h,ey]
def Cr(w:ln)(nb:Nat)(se:Bool)(g:Gr)(na ta lv kv:L0)(xs:List K3)(k M:Nat)(h:NfR w nb se g na ta lv kv xs)(hw:WF g)(hk:k<g.ks.length)(hM:Bd g M)(d8:M<=100000000):
  N1 Ma 231 [nP nb,nI (k:Nat)] w λv w'=>Sl bp 1 w' v (fD g k)/\MG w w'/\(fD g k).length<=M/\(∀x∈fD g k,x<g.ks.length)/\∀(B:Nat) (O:Nat->Nat),N0 B O w->P6 O w' v:=by
 have d5:=h.len;have d9:=hM.ks;apply L6 func231 ntmps231 rfl rfl;refine zh ?_;apply aN lK (enc:=bp) (aA w) 1 zd k rfl rfl rfl zd rfl;intro v0 w0 O0 a8 d2 d4;refine zh ?_;apply zlp (λz:Nat×List Nat×L0×(Nat->Nat)×World=>[(0,nP nb),(5,z.2.2.1),(6,nI z.1)]) (λz=>z.2.2.2.2) (λz=>z.1<=z.2.1.length/\Rc g k z.1 z.2.1/\MC bp 3 1 z.2.2.2.1 z.2.2.2.2 1 z.2.2.1 z.2.1/\LY (λq=>q=1) (λ_=>0) w z.2.2.2.1 z.2.2.2.2/\N0 w.heap.size z.2.2.2.1 z.2.2.2.2/\iD g (g.ks.length-z.1) z.1 z.2.1=fD g k) (λz=>g.ks.length-z.1) (0,[k],v0,O0,w0) ⟨L9 _,tC hk,a8,d2,d4,rfl⟩;rintro⟨i,l,b8,O1,w1⟩ ⟨hi,a5,a2,b3,b7,a'⟩;dsimp only at hi a5 a2 b3 b7 a' ⊢;have d6:=gI a5.nd a5.lt;have b':=a2.sl;refine zh ?_;refine zC ?_ ?_
 ·intro a6;replace a6:i<l.length:=dT a6;have hm:=a5.lt _ (aZ a6);have b2:nth l i<xs.length:=zo;have d7:=hM.fr (nth l i);obtain⟨d,hd⟩:∃d,g.ks.length-i=d+1:=⟨g.ks.length-i-1,zo⟩
  rw[hd,iD,ap a6]at a';have b1:=h.ext b3.ext;have c2:=b1.c2;have f0:=b1.f0 b2;have m1:w1.drew.cell? (adr b8 1 i)=some (nI ((nth l i:Nat):Int)):=by have:=b'.cell (j:=0) a6 rfl;rwa[ax]at this
  refine zh ?_;apply Nf zk zk;refine zh ?_;refine zwH (aj b1.ks.sh Mv (N7 _) rfl rfl (nth l i) rfl b2) ?_;refine zwH (bH ((b1.fr _ b2).drew).sh MS rfl) ?_;apply N9;refine zh ?_;apply zlp (λy:Nat×List Nat×L0×(Nat->Nat)×World=>[(0,nP nb),(5,y.2.2.1),(6,nI i),(27,(nth xs (nth l i)).1),(28,nI (g.fr (nth l i)).length),(29,nI y.1)]) (λy=>y.2.2.2.2) (λy=>y.1<=(g.fr (nth l i)).length/\y.2.1.length<=l.length+y.1/\MC bp 3 1 y.2.2.2.1 y.2.2.2.2 1 y.2.2.1 y.2.1/\LY (λq=>q=1) (λ_=>0) w y.2.2.2.1 y.2.2.2.2/\N0 w.heap.size y.2.2.2.1 y.2.2.2.2/\ey y.2.1 ((g.fr (nth l i)).drop y.1)=ey l (g.fr (nth l i))) (λy=>(g.fr (nth l i)).length-y.1) (0,l,b8,O1,w1.drew) ⟨L9 _,L1 _,a2.drew,b3.drew,b7.drew,rfl⟩;rintro⟨j,l2,b5,O2,w2⟩ ⟨hj,c9,a0,b0,b4,a1⟩;dsimp only at hj c9 a0 b0 b4 a1 ⊢;have d0:=(h.ext b0.ext).fr _ b2;refine zh ?_;refine zC ?_ ?_
  ·intro a3;replace a3:j<(g.fr (nth l i)).length:=dT a3;rw[yz a3]at a1;have m2:w2.cell? (adr (nth xs (nth l i)).1 1 j)=some (nI ((nth (g.fr (nth l i)) j:Nat):Int)):=by have:=d0.cell (j:=0) a3 rfl;rwa[ax]at this
   refine zh ?_;apply zc call255 (te l2 (nth (g.fr (nth l i)) j) b5 w2 a0.sl)
   rintro v w9 ⟨rfl,b9⟩;rw[b9];clear b9 w9;refine zh ?_
   cases hc:l2.contains (nth (g.fr (nth l i)) j)with
   |true=>
    rw[hc,ap rfl]at a1;refine zFH rfl rfl ?_;refine zxd (j+1,l2,b5,O2,w2) ⟨a3,by dsimp only;omega,a0,b0,b4,a1⟩
   |false=>
    rw[hc,am zd]at a1;refine zTH rfl rfl ?_;apply NB lK a0 b4 ((nth (g.fr (nth l i)) j)) (λ_=>rfl) rfl rfl rfl (by simp[M5]) zo zo zo zd rfl rfl;intro c5 w3 O3 a7 d1 d3;refine zh ?_;refine zxd (j+1,l2++[nth (g.fr (nth l i)) j],c5,O3,w3) ⟨a3,by dsimp only;simp;omega,a7,b0.J d1,d3,a1⟩
  intro a9;replace a9:¬j<(g.fr (nth l i)).length:=dF a9;rw[Mx zo,ey]at a1;subst a1;have a4:=a5.step hw a6;have c8:=gI a4.nd a4.lt;obtain⟨s,hs⟩:=jC (g.fr (nth l i)) l;refine zh ?_;refine zxd (i+1,ey l (g.fr (nth l i)),b5,O2,w2) ⟨by dsimp only;rw[hs];simp;omega,a4,a0,b0,b4,by dsimp only;rw[show g.ks.length-(i+1)=d from by omega];exact a'⟩
 intro b6;replace b6:¬i<l.length:=dF b6;have e:iD g (g.ks.length-i) i l=l:=by
  cases hd:g.ks.length-i with
  |zero=>rfl
  |succ d=>rw[iD,am b6]
 rw[e]at a';rw[<-a'];refine zh ?_;refine ah rfl rfl ⟨b',b3.ext,zo,a5.lt,λB O hR=>a2.free zd b7 hR⟩
abbrev kvI(n:Int):L0:=nI n
abbrev tvU(n:Nat):L0:=.int .u64 (n:Int)
def qT:QM Ma 3 kvI:=KeyL.int Q5
def Fk{g:Gr}(he:∀k,g.en k<=n)(hb:b<2^n)(k:Nat):fJ g b k<2^n:=by
 unfold fJ
 split
 ·exact hb
 rename_i h;have:=he k;exact PX hb (Ps zd zo)
def kL{g:Gr}{n:Nat}(he:∀k,g.en k<=n):∀(l:List Nat) (b:Nat),b<2^n->l.foldl (fJ g) b<2^n
 |[],_,hb=>hb
 |k::l,_,hb=>kL he l _ (Fk he hb k)
def zL(B:Nat)(O:Nat->Nat)(w:ln)(i nb:Nat)(se:Bool)(g:Gr)(nr tr:Nat)(lv kv:L0)(xs:List K3)(l1:List (Int×L0))(l2:List (Int×Nat))(p:Int)(k M:Nat)(hi:2<i)(hR:N0 B O w)(h:NfO O w i nb se g (.map (some nr)) (.map (some tr)) lv kv xs)(e7:N5 kvI id O w 1 nr l1)(e6:N5 kvI tvU O w 2 tr l2) 
  (hw:WF g) (hk:k<g.ks.length) (hM:Bd g M) (h5:M<=1000000) (he:∀q,g.en q<=40) :
  N1 Ma 180 [nP nb,nI p,nI (k:Nat)] w λ_ w'=>∃v,LY (λq=>q=1\/q=2) O w O w'/\N5 kvI id O w' 1 nr (dc l1 p v)/\N5 kvI tvU O w' 2 tr (dc l2 p ((fD g k).foldl (fJ g) 0))/\Sl bp 1 w' v ((fD g k).flatMap g.lv)/\P6 O w' v:=by
 obtain⟨T0,h4,e1⟩:=hR.bound;obtain⟨T,h1⟩:∃T,T=T0+10+i+2*g.ks.length:=⟨_,rfl⟩
 have hT:∀b,O b<T:=λb=>by have:=e1 b;omega
 apply L6 func180 ntmps180 rfl rfl;refine zh ?_;apply zc call231 (Cr w nb se g _ _ lv kv xs k M h.r hw hk hM zo);rintro rv w1 ⟨e5,f5,g7,c7,f7⟩;generalize fD g k=rl at *;have g3:LY (λq=>q=T) O w O w1:=ae zo O f5;have h6:=hM.ks;have b2:∀q,q<rl.length->nth rl q<xs.length:=λq hq=>by rw[h.ks.len];exact c7 _ (aZ hq)
 refine zvH (bH e5.sh MS rfl) ?_;apply zlp (λz:Nat×L0×(Nat->Nat)×World=>[(0,nP nb),(1,nI p),(6,z.2.1),(7,.int .u64 (((rl.take z.1).foldl (fJ g) 0:Nat):Int)),(13,rv),(14,nI rl.length),(15,nI z.1)]) (λz=>z.2.2.2) (λz=>z.1<=rl.length/\MC bp 3 1 z.2.2.1 z.2.2.2 T z.2.1 ((rl.take z.1).flatMap g.lv)/\((rl.take z.1).flatMap g.lv).length<=z.1*1000000/\LY (λq=>q=T) O w z.2.2.1 z.2.2.2/\N0 B z.2.2.1 z.2.2.2/\Sl bp 1 z.2.2.2 rv rl/\P6 z.2.2.1 z.2.2.2 rv) (λz=>rl.length-z.1) (0,nS,O,w1) ⟨L9 _,MT _ _ _ _ _ _,by simp,g3,hR.ext f5,e5,f7 B O hR⟩
 rintro⟨q,v2,O2,w2⟩ ⟨hq,a0,g0,a9,b',a3,d8⟩;dsimp only at hq a0 g0 a9 b' a3 d8 ⊢;have h2:=h.updT a9 zo (λr _ hr=>zo);have a':=h2.r;have c2:=a'.c2;have g6:=a0.sl;refine zh ?_;refine zC ?_ ?_
 ·intro a5;replace a5:q<rl.length:=dT a5;have b3:=b2 q a5;have m2:w2.cell? (adr rv 1 q)=some (nI ((nth rl q:Nat):Int)):=by have:=a3.cell (j:=0) a5 rfl;rwa[ax]at this
  have f1:=a'.f1 b3;have g9:=hM.lv (nth rl q);refine zh ?_;refine zvH (aj a'.ks.sh Mv (N7 _) rfl rfl (nth rl q) rfl b3) ?_;apply aL lK a0 b' (a'.lv _ b3) rfl rfl (by simp) (by simp[M5]) zo zo zo rfl;intro v3 w3 O3 a2 e0 f4;have a8:=a9.J e0;have c8:=(h.updT a8 zo (λr _ hr=>zo)).r;have b1:=a3.U d8 e0;have e9:=d8.U e0;have f2:=c8.f2 b3;have h7:=c8.c2;have g':=he (nth rl q);have e4:rl.take (q+1)=rl.take q++[nth rl q]:=bd a5;have e8:(rl.take (q+1)).foldl (fJ g) 0=fJ g ((rl.take q).foldl (fJ g) 0) (nth rl q):=by rw[e4,PP];rfl
  have b8:(rl.take (q+1)).flatMap g.lv=(rl.take q).flatMap g.lv++g.lv (nth rl q):=by rw[e4];simp
  have h0:=kL he (rl.take q) 0 zd;refine zh ?_;refine zvH (aj c8.ks.sh Mv (N7 _) rfl rfl (nth rl q) rfl b3) ?_;refine zC ?_ ?_
  ·intro a4;have a4:g.en (nth rl q)≠0:=dT a4;have g8:2^(g.en (nth rl q)-1)<2^40:=Ps zd zo;refine zh ?_;rw[show((g.en (nth rl q):Nat):Int)-1=((g.en (nth rl q)-1:Nat):Int)from by omega];apply zv (yI (a:=1) (b:=g.en (nth rl q)-1) rfl rfl rfl rfl (by show _<=64;omega) (by show _<=(18446744073709551615:Int);omega));rw[QG];refine zvH (vX (a:=(rl.take q).foldl (fJ g) 0) (b:=2^(g.en (nth rl q)-1)) rfl rfl rfl rfl (by show _<=(18446744073709551615:Int);omega) (by show _<=(18446744073709551615:Int);omega)) ?_;have a6:(rl.take (q+1)).foldl (fJ g) 0=(rl.take q).foldl (fJ g) 0 ||| 2^(g.en (nth rl q)-1):=by rw[e8,fJ,am a4]
   rw[<-a6];refine zxd (q+1,v3,O3,w3) ⟨a5,by dsimp only;rw[b8];exact a2,by dsimp only;rw[b8,Mp];omega,a8,f4,b1,e9⟩
  intro hz;have hz:g.en (nth rl q)=0:=dF hz;refine zh ?_;have a6:(rl.take (q+1)).foldl (fJ g) 0=(rl.take q).foldl (fJ g) 0:=by rw[e8,fJ,ap hz]
  rw[<-a6];refine zxd (q+1,v3,O3,w3) ⟨a5,by dsimp only;rw[b8];exact a2,by dsimp only;rw[b8,Mp];omega,a8,f4,b1,e9⟩
 intro g1;obtain rfl:q=rl.length:=dF g1;rw[Mm]at a0 ⊢;have hf:P6 O w2 v2:=QB a0 zo hT b' a9;have d3:w2.drew.cell? (nA nb 3)=some (.map (some nr)):=a'.c3;have d4:w2.drew.cell? (nA nb 4)=some (.map (some tr)):=a'.c4;have d9:LY (λ_=>False) O2 w2 O2 w2.drew:=ae (λh=>h) O2 (M8 w2).drew
 have d0:=(e6.U a9 zd zo).U d9 zd λh=>h
 have b0:∀W (S:Nat->Prop),LY S O2 w2.drew O2 W->¬S i->W.cell? (nA nb 3)=some (.map (some nr))/\W.cell? (nA nb 4)=some (.map (some tr)):=λW S u hS=>
  have hb:=h2.blk.drew.U u zo hS
  ⟨hb.cell 3 rfl,hb.cell 4 rfl⟩
 refine zh ?_;apply aO (λW=>W.cell? (nA nb 3)=some (.map (some nr))/\W.cell? (nA nb 4)=some (.map (some tr))) 18 rfl zk
 refine zin ⟨d3,d4⟩ λzS=>?_
 apply zrm 0 rfl zS rfl;apply zr 1 rfl zS (λ_=>aq rfl)
 apply zrf 2 rfl zS rfl;apply zt 3 rfl zS (λw1 c5=>RV.ld c5.1 rfl)
 apply zrm 4 rfl zS rfl;apply zrm 5 rfl zS rfl
 apply zr 6 rfl zS (λ_=>aq rfl);apply zrf 7 rfl zS rfl
 apply zt 8 rfl zS (λw1 c5=>RV.ld c5.2 rfl);apply zrm 9 rfl zS rfl
 apply zrm 10 rfl zS rfl;apply zrm 11 rfl zS rfl
 apply Mf 12 zk rfl;apply nj ((e7.U a9 zd zo).U d9 zd λh=>h) QO qT zd (R8 _) p v2 rfl rfl rfl rfl
 intro w4 c4 b4 e3 b5;refine zh ?_;apply af (b0 _ _ b5 zo);apply zr 13 rfl (b0 _ _ b5 zo) (λ_=>QS rfl rfl);apply Mf 14 zk rfl;apply jS e3 rfl rfl rfl rfl;intro w5 d5 b9;refine zh ?_;apply af (b0 _ _ b9 zo);apply Mf 15 zk rfl;apply nj (d0.U b9 zd zd) QN qT zd (R7 _) p (rl.foldl (fJ g) 0) rfl rfl rfl rfl;intro w6 c6 b6 e2 d';have hU6e:LY (λq=>q=1\/q=2) O2 w2.drew O2 w6:=(b9.mono (λ_ h=>.inl h) zo).J (d'.mono (λ_ h=>.inr h) zo);refine zh ?_;apply af (b0 _ _ hU6e zo);apply zr 16 rfl (b0 _ _ hU6e zo) (λ_=>QS rfl rfl);apply Mf 17 zk rfl;apply jS e2 rfl rfl rfl rfl;intro w7 c9 f3;have b7:LY (λq=>q=1\/q=2) O2 w2.drew O2 w7:=(b9.mono (λ_ h=>.inl h) zo).J (f3.mono (λ_ h=>.inr h) zo);refine zh ?_;apply af (b0 _ _ b7 zo);have a7:=(d9.mono (S':=λq=>q=1\/q=2) (λ_ h=>h.elim) zo).J b7;have e':=(a9.mono (S':=λq=>q=T\/q=1\/q=2) (λ_ h=>.inl h) zo).J (a7.mono (λ_ h=>.inr h) zo)
 have g4:LY (λq=>q=1\/q=2) O w O w7:=Upd.fgt e' (λb h=>by
  rcases h with h|h
  ·have:=hT b;omega
  exact h) zo
 have a1:=a0.U a7 zo zo;apply MY zk;refine aK rfl ⟨v2,g4,(d5.U f3 zd zd).fgt e7.tag,c9.fgt e6.tag,a1.sl,QB a1 zo hT (b'.U a7) e'⟩
end Go.Proofs.YteolbhblkgjbhaaGreatDoor
namespace Go.VL
section
variable{P:Ml}{N:Nat}{ops:Array N4}{Q:NR→Q3→ln→Prop}{rest:List N4}{st:St}{w:ln}
variable{t:L8}{p:String}{e:Array P7}{d:Nat}{x y z:MK}
def Ext.iter(w:ln)(s:ByteArray)(a0:Nat):MG w (w.iter s a0):=Ext.alloc w _
def vS{xt:L8}(hT:P.underlying xt=some .string)(hx:ev st x=some (.string (bs l)))(hd:MD d N=true) 
  (h:WL P N ops Q rest ((d,.pointer (some ⟨w.heap.size,0,none⟩))::st) (w.iter (bs l) 0)):WL P N ops Q (⟨some d,.range xt x,t,p,e,none⟩::rest) st w:=
 Nu hd (λa ha=>by
  simp only[execOp,ha.ev hx,L7,run_range_string w xt (bs l) hT,L3]
  rfl) h
def GF{a0:Nat}{c:UInt8}(hx:ev st x=some (.pointer (some ⟨w0.heap.size,0,none⟩)))(hc:l[a0]? = some c)(ha:c.toNat<128)(hd:MD d N=true) 
  (h:WL P N ops Q rest ((d,.tuple #[.bool true,nI (a0:Nat),.int .i32 (c.toNat:Int)])::st) (w0.iter (bs l) (a0+1))):WL P N ops Q (⟨some d,.next x true,t,p,e,none⟩::rest) st (w0.iter (bs l) a0):=by
 obtain⟨a2,hv⟩:=ME.1 hc;have hs:a0<(bs l).size:=by rw[dp];exact a2
 have he:(bs l)[a0]'hs=c:=by rw[<-hv];exact List.getElem_toArray (xs:=l) (i:=a0) a2
 have a1:=run_next_ascii (P:=P) w0 (bs l) a0 t hs (by rw[he];exact ha);rw[he]at a1
 exact Nu hd (λa ha=>by
  simp only[execOp,ha.ev hx,L7,a1,L3]
  rfl) h
def GE{a0:Nat}(hx:ev st x=some (.pointer (some ⟨w0.heap.size,0,none⟩)))(hp:l.length<=a0)(hd:MD d N=true) 
  (h:WL P N ops Q rest ((d,.tuple #[.bool false])::st) (w0.iter (bs l) a0)):WL P N ops Q (⟨some d,.next x true,t,p,e,none⟩::rest) st (w0.iter (bs l) a0):=by
 have hs:¬a0<(bs l).size:=by rw[dp];omega
 have a1:=run_next_end (P:=P) w0 (bs l) a0 t hs
 exact Nu hd (λa ha=>by
  simp only[execOp,ha.ev hx,L7,a1,L3]
  rfl) h
end
section
variable{P:Ml}{N:Nat}{ops:Array N4}{Q:NR→Q3→ln→Prop}{rest:List N4}{st:St}{w:ln}
variable{t:L8}{p:String}{e:Array P7}{d:Nat}{x y z:MK}
def ia{c:Rk}(f:α->St)(g:α->ln)(I:α->Prop)(h1:∀Q',(∀z,I z->QF N Q' .normal (f z) (g z))->WC P N c Q' st w)(h2:∀z,I z->QF N Q .normal (f z) (g z)):WC P N c Q st w:=h1 Q h2
def dA{e:NR}{a0:St}(h:QF N Q e a0 w')(hc:Cov st a0)(hw:w'=w):QF N Q e st w:=by subst hw;exact h.weaken hc
def lT{cs us:Array L0}(off:Nat)(hb:Mu O w i b cs E)(hs:off+us.size<=cs.size)(hT:(Qi T).run P w=.ok us.size w)(h1:us.toList.all M5=true) 
  {q:Ql} (hx:ev st x=some (.pointer (some q))) (hq:q=⟨b,off,none⟩) (hy:ev st y=some (.agg us))
  (h:WL P N ops Q rest st (w.setRow b (cs.toList.take off++us.toList++cs.toList.drop (off+us.size)).toArray)):WL P N ops Q (⟨none,.store T x y,t,p,e,none⟩::rest) st w:=
 iZ (λa ha=>by
  subst hq;have a0:(NY T (.pointer (some ⟨b,off,none⟩)) (.agg us)).run P w=.ok () (w.setRow b (cs.toList.take off++us.toList++cs.toList.drop (off+us.size)).toArray):=by
   have:=run_storeCells_at P b off E us.toList 0 cs w hb.blk (by simpa using hs) (List.all_eq_true.1 h1);simp only[Nat.add_zero,Pn]at this;simp only[NY,Qa,storeVar,L7,M9,L3,Qq,hT];simpa using this
  simp only[execOp,ha.ev hx,ha.ev hy,L7,a0,L3,M9]) h
end
def lowT(O:Nat->Nat)(T:Nat):Nat->Nat:=λb=>if T<=O b then 0 else O b
def Upd.lowT{S:Nat->Prop}{T:Nat}{O O2:Nat->Nat}{w w':ln}(h:LY S O w O2 w')(hT:∀b,O b<T){S':Nat->Prop}(hS:∀b,S (O b)->S' (O b))(hz:¬S' 0):LY S' O w (lowT O2 T) w':=
 ⟨h.os,h.tape,h.output,h.size,λb hb hn=>h.blk b hb λhs=>hn (hS b hs),λb hb=>by
  have h1:=h.tag b hb;have:=hT b;unfold Go.VL.lowT;rw[am zo];exact h1,λb hb=>by
  unfold Go.VL.lowT at hb
  split at hb
  ·exact absurd rfl hb
  exact h.new b hb,hz⟩
def Rng.lowT{B:Nat}{O:Nat->Nat}{w:ln}(h:N0 B O w)(T:Nat):N0 B (lowT O T) w:=⟨h.le,λb hb=>by
 unfold Go.VL.lowT at hb
 split at hb
 ·exact absurd rfl hb
 exact h.rng b hb⟩
def BlkO.lowT{O:Nat->Nat}{w:ln}{i b:Nat}{cs:Array L0}{E:L8}(h:Mu O w i b cs E){T:Nat}(hi:i<T):Mu (lowT O T) w i b cs E:=⟨h.blk,by unfold Go.VL.lowT;rw[h.tag,am zo]⟩
def RowT.lowT{α:Type}{enc:α->List L0}{O:Nat->Nat}{w:ln}{i:Nat}{E:L8}{sz:Nat}{v:L0}{l:List α}(h:MC enc E sz O w i v l){T:Nat}(hi:i<T):MC enc E sz (lowT O T) w i v l:=
 ⟨⟨h.1.row,λg hg=>by unfold Go.VL.lowT;rw[h.1.tag g hg,am zo]⟩,h.2⟩
def lr{T:Nat}(h:O b=0):lowT O T b=0:=by unfold lowT;split<;>simp[h]
end Go.VL
namespace Go.Proofs.YteolbhblkgjbhaaGreatDoor
def iK:∀(l:List Nd) (i:Nat),i<l.length->bB (l.take (i+1))=bB (l.take i)+dJ (nth l i)
 |[],i,h=>absurd h (Mr i)
 |t::r,0,_=>by rw[ar];simp[bB]
 |t::r,i+1,h=>by
  have:=iK r i (by simpa using h);rw[aX];simp only[List.take_succ_cons,bB];omega
mutual
def mD:∀(t:Nd),dJ t<=nsz t
 |.mk k c l=>by
  have:=ju l
  simp only[dJ,nsz]
  split<;>omega
def ju:∀(l:List Nd),bB l<=dP l
 |[]=>by simp[bB]
 |t::r=>by
  have h1:=mD t
  have h2:=ju r
  simp only[bB,dP]
  omega
end
def qN:∀(n:Nat),n<=1000000->∀(t:Nd),nsz t<=n->∀(x:N3) (w:ln),Nt (λ_=>0) w t x->N1 Ma 176 [nv x] w λv w'=>v=nI ((dJ t:Nat):Int)/\MG w w'
 |0,_,t,hn=>by have:=dy t;omega
 |n+1,hn6,.mk k c l,hn=>by
  intro x w h;have b5:=h.ones;obtain⟨ys,b3,hf,a7,a4⟩:=h.kids;simp only[NW]at a7 a4;simp only[nsz]at hn;generalize x.2.2=sv at *;subst b5;simp only[Q7,Qr];have d1:=eQ l;have d2:=ju l;apply L6 func176 ntmps176 rfl rfl;refine zh ?_;apply aQ (aA w) 1 zo rfl rfl;intro xb w1 O1 b0 d4 d6 a';have c0:w1.cell? (nA xb 0)=some (nI k):=b0.cell 0 rfl;have c2:w1.cell? (nA xb 2)=some sv:=b0.cell 2 rfl;have a6:=b3.ext a';have a2:=a';clear a';refine zh ?_
  by_cases hl:l=[]
  ·subst hl;have b4:ys.length=0:=a7.symm;apply ay (d:=10) rfl (b':=true) ((by rw[b4];rfl));refine zh ?_
   by_cases h9:k=9
   ·subst h9;have a0:dJ (.mk 9 c [])=bB []:=by rw[dJ,am (by rintro⟨_,e⟩;exact e rfl)]
    refine zFH rfl rfl ?_;apply zlp (λz:Nat×ln=>[(3,nI ((bB (([]:List Nd).take z.1):Nat):Int)),(16,sv),(17,nI ys.length),(18,nI z.1)]) (λz=>z.2) (λz=>z.1<=([]:List Nd).length/\MG w1 z.2) (λz=>([]:List Nd).length-z.1) (0,w1) ⟨L9 _,M8 _⟩
    rintro⟨q,w2⟩ ⟨hq,a1⟩;dsimp only at hq a1 ⊢;have a5:=a6.ext a1;have b6:q=0:=by simpa using hq
    refine zh ?_;refine zC ?_ ?_
    ·intro a3;exact absurd (of_decide_eq_true a3) zo
    intro b1;subst b6;refine zh ?_;refine ah rfl rfl ⟨by rw[a0,List.take_nil],a2.J a1⟩
   have a0:dJ (.mk k c [])=1:=by rw[dJ,ap ⟨rfl,h9⟩]
   rw[a0];refine zTH rfl ((by simpa using h9)) ?_;refine ah rfl rfl ⟨rfl,a2⟩
  have a0:dJ (.mk k c l)=bB l:=by rw[dJ,am (by rintro⟨e,_⟩;exact hl (by simpa using e))]
  have b7:=List.length_pos_iff.2 hl;apply ay (d:=10) rfl (b':=false) ((by rw[beq_eq_false_iff_ne];omega));refine zh ?_;refine zFH rfl rfl ?_;apply zlp (λz:Nat×ln=>[(3,nI ((bB (l.take z.1):Nat):Int)),(16,sv),(17,nI ys.length),(18,nI z.1)]) (λz=>z.2) (λz=>z.1<=l.length/\MG w1 z.2) (λz=>l.length-z.1) (0,w1) ⟨L9 _,M8 _⟩;rintro⟨q,w2⟩ ⟨hq,a1⟩;dsimp only at hq a1 ⊢;have a5:=a6.ext a1;have c9:=cP l q;refine zh ?_;refine zC ?_ ?_
  ·intro a3;replace a3:q<l.length:=dT a3;have a8:=(a4 q zo).ext (a2.J a1);have d0:=bQ l q a3;have d3:=mD (nth l q);have b9:=ju (l.take q);have c':=ee l q a3;have b8:=cP l (q+1);refine zh ?_;apply zv (ai (us:=bu (nth ys q)) (λj u hu=>a5.cell zo hu) (L2 _) (ix _) rfl);apply aw (aA w2) 1 zo (L5 _) rfl;intro yb w3 O3 a9 c7 d5 d7;apply zsb (us:=#[nI (nth ys q).1,nI (nth ys q).2.1,(nth ys q).2.2]) a9 (ix _) (cj a8.one);have b2:MG w2 (w3.setRow yb #[nI (nth ys q).1,nI (nth ys q).2.1,(nth ys q).2.2]):=(c7.J (L4 zd a9.tag rfl)).ext;have c6:=a9.setRow (us:=#[nI (nth ys q).1,nI (nth ys q).2.1,(nth ys q).2.2]);generalize w3.setRow yb #[nI (nth ys q).1,nI (nth ys q).2.1,(nth ys q).2.2]=w4 at *;refine zh ?_;apply zv (ai (us:=bu (nth ys q)) c6.V (L2 _) (ix _) rfl);apply zc call176 ((qN n zo) (nth l q) zo (nth ys q) w4 (a8.ext b2));rintro v w5 ⟨rfl,c8⟩;refine zh ?_;rw[show((bB (l.take q):Nat):Int)+((dJ (nth l q):Nat):Int)=((bB (l.take (q+1)):Nat):Int)from by rw[iK l q a3];simp];refine zxd (q+1,w5) ⟨a3,(a1.J b2).J c8⟩
  intro b1;obtain rfl:q=l.length:=dF b1;rw[Mm];refine zh ?_;refine ah rfl rfl ⟨by rw[a0],a2.J a1⟩
def BP(k c m:Int)(b:Nat)(w:ln):N1 Ma 256 [.agg #[nI k,nI c,nI (b:Nat)],nI m] w λv w'=>v=.bool (de k c m)/\MG w w':=by
 apply L6 func256 ntmps256 rfl rfl;refine zh ?_
 apply aQ (aA w) 1 zo rfl rfl;intro xb w1 O1 a4 a5 a6 a3;have c0:w1.cell? (nA xb 0)=some (nI k):=a4.cell 0 rfl;have c1:w1.cell? (nA xb 1)=some (nI c):=a4.cell 1 rfl;obtain⟨cl,a0⟩:∃cl,cl=(decide (0<=m)&&decide (m<36)):=⟨_,rfl⟩
 refine zh ?_;refine aU (λW=>W=w1) (decide (m<36)) 2 rfl rfl rfl rfl rfl rfl ?_ ?_
 ·intro a1;refine zh ?_;refine nE 8 3 rfl a1
 rintro w9 rfl;rw[<-a0];refine zh ?_
 by_cases h0:k=0
 ·have hM:de k c m=(cl&&(m==c)):=by unfold de;rw[ap h0,a0]
  rw[hM];refine zTH rfl ((by simpa using h0)) ?_;refine aU (λW=>W=w9) ((m==c)) 4 rfl rfl rfl rfl rfl rfl ?_ ?_
  ·intro a2;refine zh ?_;refine nE 17 5 rfl a2
  rintro w8 rfl;refine zh ?_;refine ah rfl rfl ⟨rfl,a3⟩
 refine zFH rfl ((by simpa using h0)) ?_
 by_cases h1:k=1
 ·have hM:de k c m=cl:=by unfold de;rw[am h0,ap h1,a0]
  rw[hM];refine zTH rfl ((by simpa using h1)) ?_;refine ah rfl rfl ⟨rfl,a3⟩
 refine zFH rfl ((by simpa using h1)) ?_
 by_cases h2:k=2
 ·have hM:de k c m=(cl&&(m != c)):=by unfold de;rw[am h0,am h1,ap h2,a0]
  rw[hM];refine zTH rfl ((by simpa using h2)) ?_;refine aU (λW=>W=w9) ((m != c)) 4 rfl rfl rfl rfl rfl rfl ?_ ?_
  ·intro a2;refine zh ?_;refine nE 29 5 rfl a2
  rintro w8 rfl;refine zh ?_;refine ah rfl rfl ⟨rfl,a3⟩
 have hM:de k c m=(m==36):=by unfold de;rw[am h0,am h1,am h2]
 rw[hM];refine zFH rfl ((by simpa using h2)) ?_;refine ah rfl rfl ⟨rfl,a3⟩
structure NfD(w:ln)(nb:Nat)(se:Bool)(g:Gr):Prop where
 ex:∃nr tr lv kv xs l1 l2,NfR w nb se g (.map (some nr)) (.map (some tr)) lv kv xs/\N5 kvI id (λ_=>0) w 0 nr l1/\N5 kvI tvU (λ_=>0) w 0 tr l2/\
  (∀p:Nat,p<=g.ls.length->∃v,bI l1 (p:Int)=some v/\Sl bp 1 w v (dm g p))/\∀p:Nat,p<=g.ls.length->bI l2 (p:Int)=some (jX g p)
def pO{kv:κ->L0}{vv:ν->L0}{r:Nat}{l:List (κ×ν)}(h:N5 kv vv (λ_=>0) w 0 r l)(e:MG w w'):N5 kv vv (λ_=>0) w' 0 r l:=by
 obtain⟨es,c,h1,h2⟩:=h.blk;have e1:=e.block r (bN h1);exact⟨⟨es,c,by rw[e1];exact h1,h2⟩,rfl,λa0 c' h'=>h.born a0 c' (by rw[<-e1];exact h')⟩
def NfD.ext{w w':ln}{nb:Nat}{se:Bool}{g:Gr}(h:NfD w nb se g)(e:MG w w'):NfD w' nb se g:=by
 obtain⟨nr,tr,lv,kv,xs,l1,l2,h1,h2,h3,h4,h5⟩:=h.ex;exact⟨nr,tr,lv,kv,xs,l1,l2,h1.ext e,pO h2 e,pO h3 e,λp hp=>by obtain⟨v,a,b⟩:=h4 p hp;exact⟨v,a,b.ext e⟩,h5⟩
def DE(w:ln)(nb:Nat):N1 Ma 182 [nP nb] w λv w'=>Sl encI 1 w' v [0]/\MG w w'/\∀(B:Nat) (O:Nat->Nat),N0 B O w->P6 O w' v:=by
 apply L6 func182 ntmps182 rfl rfl;refine zh ?_
 refine zvH (eE (q:=some ⟨nb,0,none⟩) Pq rfl rfl) ?_;refine zFH rfl rfl ?_
 apply aN lK (enc:=encI) (aA w) 1 zd (0:Int) rfl rfl rfl zd rfl;intro v0 w0 O0 a0 a1 a2;refine zh ?_
 refine ah rfl rfl ⟨a0.sl,a1.ext,λB O hR=>a0.free zd a2 hR⟩
def tI(g:Gr)(m:Int)(l:List Nat):List Int:=(l.filter λj=>de (nth g.ls (j-1)).1 (nth g.ls (j-1)).2.1 m).map fun(j:Nat)=>(j:Int)
def Dh{g:Gr}{m:Int}{l:List Nat}(h:j<l.length):tI g m (l.take (j+1))=tI g m (l.take j)++if de (nth g.ls (nth l j-1)).1 (nth g.ls (nth l j-1)).2.1 m=true then [((nth l j:Nat):Int)]else []:=by
 unfold tI;rw[bd h,PJ,Nj,List.filter_cons]
 split<;>rfl
def Gp(g:Gr)(m:Int)(l:List Nat):(tI g m l).length<=l.length:=by unfold tI;rw[NK];exact List.length_filter_le _ _
def step_ret(w:ln)(nb:Nat)(se:Bool)(g:Gr)(s:List Int)(sv:L0)(m:Int)(h:NfD w nb se g)(hs:Sl encI 1 w sv s)(hw:WF g)(h0:0<g.ks.length)(ht:Tot g)(hp:inP g s)(f3:s.length<=1000)(e4:g.ls.length<=999):
  N1 Ma 233 [nP nb,sv,nI m] w λv w'=>Sl encI 1 w' v (dj se g s m)/\MG w w'/\∀(B:Nat) (O:Nat->Nat),N0 B O w->P6 O w' v:=by
 have e7:=h;obtain⟨nr,tr,lv,kv,xs,l1,l2,hr,e3,f6,e1,f5⟩:=h.ex;have a9:∀q,q<=s.length->((if se=true then [(0:Int)]else [])++(s.take q).flatMap λp=>tI g m (dm g p.toNat)).length<=1+q*999:=λq hq=>by
  have h1:=IC (se:=se) hw h0 ht (m:=m) (s:=s.take q) λx hx=>hp x (List.mem_of_mem_take hx)
  have h2:(s.take q).length*g.ls.length<=q*999:=Nat.mul_le_mul (by simp;omega) e4;exact Qx h1 zo
 apply L6 func233 ntmps233 rfl rfl;refine zh ?_
 refine zvH (eE (q:=some ⟨nb,0,none⟩) Pq rfl rfl) ?_;refine zFH rfl rfl ?_
 refine zvH (RV.ld hr.c0 rfl) ?_;refine ia (λz:L0×(Nat->Nat)×World=>[(0,nP nb),(1,sv),(2,nI m),(7,z.1)]) (λz:L0×(Nat->Nat)×World=>z.2.2) (λz:L0×(Nat->Nat)×World=>MC encI 3 1 z.2.1 z.2.2 1 z.1 (if se=true then [0]else [])/\LY (λq=>q=1) (λ_=>0) w z.2.1 z.2.2/\N0 w.heap.size z.2.1 z.2.2) ?_ ?_
 ·intro Qm hN;refine zC ?_ ?_
  ·intro c6;have e0:([]:List Int).length=0:=rfl;refine zh ?_;apply NB lK (MT encI 3 1 (λ_=>0) w 1) (aA w) ((0:Int)) (λ_=>rfl) rfl rfl rfl (by simp[M5]) zo zo zo zd rfl rfl;intro v1 w1 O1 a2 b5 b7;refine zh ?_;exact dA (hN ((v1,O1,w1)) ⟨by rw[ap c6];exact a2,b5,b7⟩) ⟨rfl,rfl,rfl,rfl,trivial⟩ rfl
  intro c6;refine zh ?_;exact dA (hN ((nS,λ_=>0,w)) ⟨by rw[am (by rw[c6];decide)];exact MT _ _ _ _ _ _,MH zd _ _,aA w⟩) ⟨rfl,rfl,rfl,rfl,trivial⟩ rfl
 rintro⟨v1,O1,w1⟩ ⟨a2,b5,b7⟩;dsimp only at a2 b5 b7 ⊢;obtain⟨hd,d4⟩:∃hd,hd=(if se=true then [(0:Int)]else []):=⟨_,rfl⟩
 rw[<-d4]at a2 a9;refine zh ?_;refine zvH (bH hs.sh MS rfl) ?_;apply zlp (λz:Nat×L0×(Nat->Nat)×World=>[(0,nP nb),(2,nI m),(7,z.2.1),(21,sv),(22,nI s.length),(23,nI z.1)]) (λz=>z.2.2.2) (λz=>z.1<=s.length/\MC encI 3 1 z.2.2.1 z.2.2.2 1 z.2.1 (hd++(s.take z.1).flatMap λp=>tI g m (dm g p.toNat))/\LY (λq=>q=1) (λ_=>0) w z.2.2.1 z.2.2.2/\N0 w.heap.size z.2.2.1 z.2.2.2) (λz=>s.length-z.1) (0,v1,O1,w1) ⟨L9 _,by simpa using a2,b5,b7⟩;rintro⟨q,v2,O2,w2⟩ ⟨hq,a4,a6,d0⟩;dsimp only at hq a4 a6 d0 ⊢;have b0:=a9 q hq;refine zh ?_;refine zC ?_ ?_
 ·intro a7;replace a7:q<s.length:=dT a7;have d9:=hp _ (aZ a7);obtain⟨pn,c7⟩:∃pn:Nat,nth s q=(pn:Int):=⟨(nth s q).toNat,zo⟩
  have b2:pn<=g.ls.length:=by have:=d9.2;rw[c7]at this;simpa using this
  obtain⟨b8,c8,c5⟩:=e1 pn b2;have f4:=zz hw ht (pX hw h0 b2);have d7:=hs.ext a6.ext;have m2:w2.cell? (adr sv 1 q)=some (nI (nth s q)):=by have:=d7.cell (j:=0) a7 rfl;rwa[ax]at this
  rw[c7]at m2;have d6:=c5.ext a6.ext;have c3:=(hr.ext a6.ext).c3;refine zh ?_;apply zv (R4 (u:=b8) (pO e3 a6.ext) QO qT (R8 _) (pn:Int) rfl rfl rfl (by rw[c8];rfl));refine zvH (bH c5.sh MS rfl) ?_;apply zlp (λy:Nat×L0×(Nat->Nat)×World=>[(0,nP nb),(2,nI m),(7,y.2.1),(21,sv),(22,nI s.length),(23,nI q),(32,b8),(33,nI (dm g pn).length),(34,nI y.1)]) (λy=>y.2.2.2) (λy=>y.1<=(dm g pn).length/\MC encI 3 1 y.2.2.1 y.2.2.2 1 y.2.1 ((hd++(s.take q).flatMap λp=>tI g m (dm g p.toNat))++tI g m ((dm g pn).take y.1))/\LY (λq=>q=1) (λ_=>0) w y.2.2.1 y.2.2.2/\N0 w.heap.size y.2.2.1 y.2.2.2) (λy=>(dm g pn).length-y.1) (0,v2,O2,w2) ⟨L9 _,by simpa[tI]using a4,a6,d0⟩;rintro⟨j,v3,O3,w3⟩ ⟨hj,a1,a5,b1⟩;dsimp only at hj a1 a5 b1 ⊢;have b':=c5.ext a5.ext;have d2:=hr.ext a5.ext;have f8:=Gp g m ((dm g pn).take j);have d3:((hd++(s.take q).flatMap λp=>tI g m (dm g p.toNat))++tI g m ((dm g pn).take j)).length=(hd++(s.take q).flatMap λp=>tI g m (dm g p.toNat)).length+(tI g m ((dm g pn).take j)).length:=Mp;have e':((dm g pn).take j).length<=j:=by simp;omega
  refine zh ?_;refine zC ?_ ?_
  ·intro a3;replace a3:j<(dm g pn).length:=dT a3;have f7:1<=nth (dm g pn) j/\nth (dm g pn) j<=g.ls.length:=by
    obtain⟨k,hk,e5⟩:=(nO hw h0 b2 (nth (dm g pn) j)).1 (aZ a3);exact hw.lv k _ (hk.lt hw (pX hw h0 b2)) e5
   have b3:=Dh (g:=g) (m:=m) a3;have m3:w3.cell? (adr b8 1 j)=some (nI ((nth (dm g pn) j:Nat):Int)):=by have:=b'.cell (j:=0) a3 rfl;rwa[ax]at this
   generalize nth (dm g pn) j=to at *;have c1:=d2.c1;have a':=d2.ls;refine zh ?_;rw[show((to:Nat):Int)-1=((to-1:Nat):Int)from by omega];apply zv (Nl a' Nh (NU _) rfl rfl (to-1) rfl zo);refine zvH (ai (us:=sZ (nth g.ls (to-1))) (λj u hu=>a'.cell zo hu) (isAgg283 _) (NU _) rfl) ?_;apply zc call256 (BP (nth g.ls (to-1)).1 (nth g.ls (to-1)).2.1 m (nth g.ls (to-1)).2.2 w3);rintro v w4 ⟨rfl,d1⟩;have b4:=a5.J (ae zd O3 d1);have b6:=b1.ext d1;have a0:MC encI 3 1 O3 w4 1 v3 _:=a1.U (ae (S:=λ_=>False) (λh=>h) O3 d1) zd λh=>h
   refine zh ?_;refine zC ?_ ?_
   ·intro b9;rw[ap b9]at b3;refine zh ?_;apply NB lK a0 b6 (((to:Nat):Int)) (λ_=>rfl) rfl rfl rfl (by simp[M5]) zo zo zo zd rfl rfl;intro v5 w5 O5 a8 e8 e9;refine zh ?_;refine zxd (j+1,v5,O5,w5) ⟨a3,by dsimp only;rw[b3,<-N6];exact a8,b4.J e8,e9⟩
   intro d';rw[am (by rw[d'];decide),Nk]at b3;refine zh ?_;refine zxd (j+1,v3,O3,w4) ⟨a3,by dsimp only;rw[b3];exact a0,b4,b6⟩
  intro c';obtain rfl:j=(dm g pn).length:=by have:=of_decide_eq_false c';omega
  rw[Mm]at a1;have d5:(s.take (q+1)).flatMap (λp=>tI g m (dm g p.toNat))=(s.take q).flatMap (λp=>tI g m (dm g p.toNat))++tI g m (dm g pn):=by rw[bd a7,Py,c7];simp
  refine zh ?_;refine zxd (q+1,v3,O3,w3) ⟨a7,by dsimp only;rw[d5,<-N6];exact a1,a5,b1⟩
 intro e6;obtain rfl:q=s.length:=dF e6;rw[Mm]at a4 b0;have e2:s.length*999<=999000:=zo;refine zh ?_;apply zc call113 (kN d0 a4 zd zo);rintro _ w3 ⟨a1,a5,b1⟩;refine zh ?_;apply zc call114 (fm b1 a1 zd (by rw[eG];omega));rintro v4 w4 ⟨a0,b4,b6⟩;have e:Lib.compact (ir (hd++s.flatMap λp=>tI g m (dm g p.toNat)))=dj se g s m:=by rw[d4];rfl
 rw[e]at a0;refine zh ?_;refine ah rfl rfl ⟨a0.sl,((a6.J a5).J b4).ext,λB O hR=>a0.free zd b6 hR⟩
def kK(w:ln)(nb:Nat)(se:Bool)(g:Gr)(s:List Int)(sv:L0)(h:NfD w nb se g)(hs:Sl encI 1 w sv s)(hp:inP g s)(he:∀q,g.en q<=40):
  N1 Ma 184 [nP nb,sv] w λv w'=>v=.int .u64 ((dN g s:Nat):Int)/\w'=w:=by
 obtain⟨nr,tr,lv,kv,xs,l1,l2,hr,b3,a9,b2,a8⟩:=h.ex;have a4:∀p,jX g p<2^40:=λp=>kL he _ 0 zd
 have b1:=hs.len_le;apply L6 func184 ntmps184 rfl rfl;refine zh ?_;refine zvH (Bt (q:=some ⟨nb,0,none⟩) Pq rfl rfl) ?_;refine zTH rfl rfl ?_;apply zlp (λz:Nat=>[(0,nP nb),(5,.int .u64 ((dN g (s.take z):Nat):Int)),(10,sv),(11,nI s.length),(12,nI z)]) (λz=>w) (λz=>z<=s.length/\dN g (s.take z)<2^40) (λz=>s.length-z) 0 ⟨L9 _,by rw[List.take_zero];show(0:Nat)<2^40;decide⟩;rintro q ⟨hq,a1⟩;refine zh ?_;refine zC ?_ ?_
 ·intro a0;replace a0:q<s.length:=dT a0;have a6:=hp _ (aZ a0);obtain⟨pn,a2⟩:∃pn:Nat,nth s q=(pn:Int):=⟨(nth s q).toNat,zo⟩
  have a7:pn<=g.ls.length:=by have:=a6.2;rw[a2]at this;simpa using this
  have m2:w.cell? (adr sv 1 q)=some (nI (nth s q)):=by have:=hs.cell (j:=0) a0 rfl;rwa[ax]at this
  rw[a2]at m2;have c4:=hr.c4;have a5:=a4 pn;have a3:dN g (s.take (q+1))=dN g (s.take q) ||| jX g pn:=by
   unfold dN;rw[bd a0,PP,a2];rfl
  refine zh ?_;apply zv (R4 (u:=.int .u64 ((jX g pn:Nat):Int)) a9 QN qT (R7 _) (pn:Int) rfl rfl rfl (by rw[a8 pn a7];rfl))
  refine zvH (vX (a:=dN g (s.take q)) (b:=jX g pn) rfl rfl rfl rfl (by show _<=(18446744073709551615:Int);omega) (by show _<=(18446744073709551615:Int);omega)) ?_;rw[<-a3];refine zxd (q+1) ⟨a0,by rw[a3];exact PX a1 a5⟩
 intro b0;obtain rfl:q=s.length:=dF b0;rw[Mm];refine zh ?_;refine ah rfl rfl ⟨rfl,rfl⟩
mutual
def vC:∀(t:Nd) (wi:Bool),bV t wi=true->AZ t=true/\fZ t=true
 |.mk k c l,wi,h=>by
  unfold bV at h
  simp only[Md]at h
  obtain⟨h1,h2⟩:=h
  obtain⟨i1,i2⟩:=rh l h2
  unfold AZ fZ
  rw[i1,i2,Qk,Qk]
  have hl:l.isEmpty=true↔l.length=0:=by cases l<;>simp
  rcases dM h1 with⟨rfl,hn,_⟩|⟨rfl,hn,_⟩|⟨rfl,hn,_⟩|⟨rfl,hn,_⟩|⟨rfl,hn,_⟩|⟨rfl,hn,_⟩|⟨rfl,hn,_⟩|⟨rfl,hn,_⟩|⟨rfl,hn,_⟩|⟨rfl,hn,_⟩
  ·exact⟨by rw[am zd];exact hl.2 hn,by rw[am zd,am zd]⟩
  ·exact⟨by rw[am zd];exact hl.2 hn,by rw[am zd,am zd]⟩
  ·exact⟨by rw[am zd];exact hl.2 hn,by rw[am zd,am zd]⟩
  ·exact⟨by rw[am zd];exact hl.2 hn,by rw[am zd,am zd]⟩
  ·have:l.isEmpty=false:=by cases l;simp at hn;rfl
   exact⟨by rw[ap zd,this];rfl,by rw[ap rfl,this];rfl⟩
  ·have:l.isEmpty=false:=by cases l;simp at hn;rfl
   exact⟨by rw[ap zd,this];rfl,by rw[am zd,am zd]⟩
  ·have:l.isEmpty=false:=by cases l;simp at hn;rfl
   exact⟨by rw[ap zd,this];rfl,by rw[am zd,ap zd,hn];rfl⟩
  ·have:l.isEmpty=false:=by cases l;simp at hn;rfl
   exact⟨by rw[ap zd,this];rfl,by rw[am zd,ap zd,hn];rfl⟩
  ·have:l.isEmpty=false:=by cases l;simp at hn;rfl
   exact⟨by rw[ap zd,this];rfl,by rw[am zd,ap zd,hn];rfl⟩
  exact⟨by rw[am zd];exact hl.2 hn,by rw[am zd,am zd]⟩
def rh:∀(l:List Nd),eS l=true->kq l=true/\cz l=true
 |[],_=>⟨rfl,rfl⟩
 |t::r,h=>by
  rw[eS,Md]at h
  obtain⟨a1,a2⟩:=vC t true h.1
  obtain⟨b1,b2⟩:=rh r h.2
  unfold kq cz
  rw[a1,a2,b1,b2]
  exact⟨rfl,rfl⟩
end
def gg{t:Nd}(h:bz t=true):AZ t=true/\fZ t=true/\nsz t<=2000:=by
 unfold bz at h;simp only[Md,decide_eq_true_eq]at h;obtain⟨h1,h2⟩:=vC t false h.2;exact⟨h1,h2,h.1⟩
def kd:∀ {l:List Nd},(∀t∈l,bz t=true)->kq l=true/\cz l=true
 |[],_=>⟨rfl,rfl⟩
 |t::r,h=>by
  obtain⟨a1,a2,_⟩:=gg (h t (by simp));obtain⟨b1,b2⟩:=kd (l:=r) λx hx=>h x (by simp[hx])
  unfold kq cz;rw[a1,a2,b1,b2];exact⟨rfl,rfl⟩
def Aa:∀(xs:List Nd) (i:Nat) (g:Gr),WF g->0<g.ks.length->(∀k,g.en k<=i)->∀k,(cF xs i g).en k<=i+xs.length
 |[],i,g,_,_,h,k=>by have:=h k;show g.en k<=_;omega
 |x::r,i,g,hw,h0,h,k=>by
  obtain⟨h1,h2,h3⟩:=mu hw h0 x i
  have:=Aa r (i+1) (nN x i g) h1 zo (λq=>by
   rw[sE hw h0]
   split
   ·omega
   split
   ·have:=h q;omega
   omega) k
  simp only[Mh];show(cF r (i+1) (nN x i g)).en k<=_;omega
def CA(xs:List Nd)(k:Nat):(kJ xs).en k<=xs.length:=by
 have:=Aa xs 0 g00 qX zd (λq=>by
  unfold Gr.en g00
  by_cases e:q=0
  ·subst e;rw[ar];exact L1 _
  rw[ff (by simp;omega)];exact L1 _) k
 rw[Pc]at this;exact this
def IR(xs:List Nd):Tot (kJ xs):=vL xs 0 g00 qX zd (by simp[Tot,xm,g00])
def qH{xs:List Nd}(h1:kq xs=true)(h2:cz xs=true):(kJ xs).ls.length=bB xs:=by
 have:=nf xs 0 g00 h1 h2;unfold kJ;rw[this];simp[g00]
def Bd.mark{g:Gr}{M:Nat}(h:Bd g M){a e:Nat}(ha:a<g.ks.length):Bd (g.mark a e) M:=⟨by rw[cU];exact h.ks,h.ls,λk=>by rw[oM ha];exact h.fr k,λk=>by rw[oL ha];exact h.lv k⟩
def IM{g:Gr}(h:WF g)(h0:0<g.ks.length)(x:Nd)(i:Nat)(hM:Bd g M):Bd (nN x i g) (M+3+(9*nsz x-1)):=by
 have e1:=aS g;have e2:=cU g.knot g.ks.length (i+1);have e3:=aS (g.knot.mark g.ks.length (i+1));have hl:=ez g i;exact gM x _ _ _ _ (eW h h0 i).1 zo zo (((hM.knot.mark zo).knot).free zo)
def Bh{xs:List Nd}{g:Gr}(h:q<xs.length):cF (xs.drop q) q g=cF (xs.drop (q+1)) (q+1) (nN (nth xs q) q g):=by
 rw[kA h,cF]
def J8:Bd g00 1:=by
 refine⟨zd,zd,λk=>?_,λk=>?_⟩
 ·unfold Gr.fr g00
  by_cases e:k=0
  ·subst e;rw[ar];decide
  rw[ff (by simp;omega)];decide
 unfold Gr.lv g00
 by_cases e:k=0
 ·subst e;rw[ar];decide
 rw[ff (by simp;omega)];decide
def et(ts:List Nd):Int:=if 40<ts.length then 3 else if ts.any (λt=>!bz t)=true then 1 else if 1000<1+bB ts then 7 else 0
def FS(t:Nd)(x:N3)(w:ln)(h:Nt (λ_=>0) w t x):N1 Ma 175 [nv x] w λv w'=>v=.bool (!bz t)/\MG w w':=by
 have hx:=h.ones;have a3:=h.one;apply L6 func175 ntmps175 rfl rfl;refine zh ?_;apply aQ (aA w) 1 zo rfl rfl;intro xb w1 O1 a1 a4 a5 a0;refine zh ?_;apply zv (ai (us:=bu x) a1.V (L2 _) (ix _) rfl);apply zc QK (gd t x w1 (h.ext a0));rintro v w2 ⟨rfl,a2⟩;refine zh ?_;refine ah rfl rfl ⟨rfl,a0.J a2⟩
def CC(nb:Nat)(e:Int):L0:=.pointer (if e=0 then some ⟨nb,0,none⟩else none)
def IS(se:Bool)(ts:List Nd)(xs:List N3)(sv:L0)(w:ln)(hs:Sl bu 3 w sv xs)(hl:ts.length=xs.length)(hk:∀i,i<xs.length->Nt (λ_=>0) w (nth ts i) (nth xs i)):
  N1 Ma 128 [.bool se,sv] w λv w'=>∃nb,v=.tuple #[CC nb (et ts),nI (et ts)]/\MG w w'/\(et ts=0->NfD w' nb se (kJ ts)):=by
 apply L6 func128 ntmps128 rfl rfl;refine zh ?_
 by_cases g4:40<ts.length
 ·have hM:et ts=3:=by unfold et;rw[ap g4]
  rw[hM];refine zTH rfl ((decide_eq_true zo)) ?_;refine cy rfl rfl rfl ⟨0,rfl,M8 _,λh=>by cases h⟩
 have hq:=λi hi w' hE=>FS _ _ w' ((hk i hi).ext hE)
 have j2:jy (λi=>!bz (nth ts i)) xs.length=ts.any (λt=>!bz t):=by rw[<-hl];exact iX (p:=λt=>!bz t)
 refine zFH rfl ((decide_eq_false zo)) ?_;apply zc QY (dz call175 #[] xs sv (λi=>!bz (nth ts i)) w hs hq)
 rw[j2];rintro v w1 ⟨rfl,k1⟩;refine zh ?_
 cases b0:ts.any (λt=>!bz t)with
 |true=>
  have hM:et ts=1:=by unfold et;rw[am g4,ap b0]
  rw[hM];refine zTH rfl rfl ?_;refine cy rfl rfl rfl ⟨0,rfl,k1,λh=>by cases h⟩
 |false=>
  have a6:=λt ht=>by
   have:=List.any_eq_false.1 b0 t ht;simpa using this
  obtain⟨e6,b7⟩:=kd a6;have hR:∀q,q<ts.length->bz (nth ts q)=true:=λq hq=>a6 _ (aZ hq)
  have p0:=hs.ext k1;refine zFH rfl rfl ?_;apply zlp (λz:Nat×ln=>[(0,.bool se),(1,sv),(6,nI ((1+bB (ts.take z.1):Nat):Int)),(23,sv),(24,nI xs.length),(25,nI z.1)]) (λz=>z.2) (λz=>z.1<=ts.length/\MG w z.2/\bB (ts.take z.1)<=z.1*2000) (λz=>ts.length-z.1) (0,w1) ⟨L9 _,k1,by simp[bB]⟩;rintro⟨q,w2⟩ ⟨m',b5,l0⟩;dsimp only at m' b5 l0 ⊢;have k9:=hs.ext b5;refine zh ?_;refine zC ?_ ?_
  ·intro a0;replace a0:q<ts.length:=dT a0;have a7:=(hk q zo).ext b5;have i6:=a7.one;have p3:=mD (nth ts q);have m7:=(gg (hR q a0)).2.2;have m6:=iK ts q a0;refine zh ?_;apply zv (ai (us:=bu (nth xs q)) (λj u hu=>k9.cell zo hu) (L2 _) (ix _) rfl);apply aw (aA w2) 1 zo (L5 _) rfl;intro yb w3 O3 j1 j4 l6 p4;apply zsb (us:=#[nI (nth xs q).1,nI (nth xs q).2.1,(nth xs q).2.2]) j1 (ix _) (cj i6);have l8:MG w2 (w3.setRow yb #[nI (nth xs q).1,nI (nth xs q).2.1,(nth xs q).2.2]):=(j4.J (L4 zd j1.tag rfl)).ext;have o0:=j1.setRow (us:=#[nI (nth xs q).1,nI (nth xs q).2.1,(nth xs q).2.2]);generalize w3.setRow yb #[nI (nth xs q).1,nI (nth xs q).2.1,(nth xs q).2.2]=w4 at *;refine zh ?_;apply zv (ai (us:=bu (nth xs q)) o0.V (L2 _) (ix _) rfl);apply zc call176 (qN (nsz (nth ts q)) zo (nth ts q) (L1 _) (nth xs q) w4 (a7.ext l8));rintro v w5 ⟨rfl,l7⟩;refine zh ?_;rw[show((1+bB (ts.take q):Nat):Int)+((dJ (nth ts q):Nat):Int)=((1+bB (ts.take (q+1)):Nat):Int)from by rw[m6];omega];refine zxd (q+1,w5) ⟨a0,(b5.J l8).J l7,by dsimp only;omega⟩
  intro i8;obtain rfl:q=ts.length:=dF i8;rw[Mm]at l0 ⊢;refine zh ?_
  by_cases e9:1000<1+bB ts
  ·have hM:et ts=7:=by unfold et;rw[am g4,am (by rw[b0];decide),ap e9]
   rw[hM];refine zTH rfl ((decide_eq_true zo)) ?_;refine cy rfl rfl rfl ⟨0,rfl,b5,λh=>by cases h⟩
  have hM:et ts=0:=by unfold et;rw[am g4,am (by rw[b0];decide),am e9]
  rw[hM];refine zFH rfl ((decide_eq_false zo)) ?_;apply bD kvI id (aA w2) 1 zd rfl;intro nr w3 O3 n4 j4 l6;apply bD kvI tvU l6 2 zd rfl;intro tr w4 O4 n3 l4 o4;have h':=n4.U l4 zd zd;apply zv (aI KR (zeroValue278 _) rfl (by first|rfl|(simp only[LZ,Mc];rfl)) rfl rfl);apply aQ o4 3 zo rfl rfl;intro nb w5 O5 n' j3 o3 l7;have i5:=h'.U j3 zd zd;have i2:=n3.U j3 zd zd;have f6:LY (λq=>1<=q) (λ_=>0) w2 O5 w5:=((j4.mono (λ_ h=>zo) zo).J (l4.mono (λ_ h=>zo) zo)).J (j3.mono (λ_ h=>zo) zo);have h5:NfO O5 w5 3 nb se ⟨[],[]⟩ (.map (some nr)) (.map (some tr)) nS nS []:=⟨n',MT _ _ _ _ _ _,⟨MT _ _ _ _ _ _,rfl,λk hk=>absurd hk (Mr k),λk hk=>absurd hk (Mr k),λk hk=>absurd hk (Mr k)⟩⟩
  refine zh ?_;apply zc P8 (jv w2.heap.size O5 w5 3 nb se ⟨[],[]⟩ _ _ _ _ _ zd o3 h5 zd)
  rintro _ w6 ⟨rfl,O6,m0,m2,l9,o1,o2,h6⟩;have o':=k9.ext f6.ext;refine zh ?_;refine zvH (bH hs.sh MV rfl) ?_;apply zlp (λz:Nat×(Nat->Nat)×World×Gr×L0×L0×List K3=>[(9,nP nb),(43,sv),(44,nI xs.length),(45,nI z.1)]) (λz=>z.2.2.1) (λz=>z.1<=ts.length/\LY (λq=>3<=q) O5 w5 z.2.1 z.2.2.1/\N0 w2.heap.size z.2.1 z.2.2.1/\NfO z.2.1 z.2.2.1 3 nb se z.2.2.2.1 (.map (some nr)) (.map (some tr)) z.2.2.2.2.1 z.2.2.2.2.2.1 z.2.2.2.2.2.2/\WF z.2.2.2.1/\0<z.2.2.2.1.ks.length/\Bd z.2.2.2.1 (1+z.1*18010)/\cF ts 0 g00=cF (ts.drop z.1) z.1 z.2.2.2.1) (λz=>ts.length-z.1) (0,O6,w6,g00,m0,m2,l9) ⟨L9 _,o1,o2,h6,qX,(show 0<g00.ks.length by decide),(show Bd g00 (1+0*18010)from J8),rfl⟩;rintro⟨q,O7,w7,g,g1,g9,g5⟩ ⟨m9,f5,c9,h7,b6,f9,f3,b3⟩;dsimp only at m9 f5 c9 h7 b6 f9 f3 b3 ⊢;have c7:=f6.J (f5.mono (S':=λq=>1<=q) (λq h=>zo) zo);have k2:=b5.J c7.ext;refine zh ?_;refine zC ?_ ?_
  ·intro a0;replace a0:q<ts.length:=dT a0;rw[Bh a0]at b3;have m8:=hs.ext k2;have a7:Nt O7 w7 (nth ts q) (nth xs q):=((hk q zo).ext b5).U c7;have i6:=a7.one;have m7:=(gg (hR q a0)).2.2;have h3:=(gg (hR q a0)).2.1;obtain⟨T,j7,hT⟩:=c9.bound;refine zh ?_;apply zv (ai (us:=bu (nth xs q)) (λj u hu=>m8.cell zo hu) (L2 _) (ix _) rfl);apply aw c9 T zo (L5 _) rfl;intro yb w8 O8 g2 d2 l5 o5;refine zh ?_;apply zsb (us:=#[nI (nth xs q).1,nI (nth xs q).2.1,(nth xs q).2.2]) g2 (ix _) (cj i6);have f4:LY (λj=>j=T) O8 w8 O8 (w8.setRow yb #[nI (nth xs q).1,nI (nth xs q).2.1,(nth xs q).2.2]):=L4 zo g2.tag rfl;obtain⟨g3,n7⟩:=Jo j7 hT d2 f4 (g2.setRow (us:=#[nI (nth xs q).1,nI (nth xs q).2.1,(nth xs q).2.2]));generalize w8.setRow yb #[nI (nth xs q).1,nI (nth xs q).2.1,(nth xs q).2.2]=w9 at *;clear g2 d2 l5 o5 f4;have h9:=h7.ext g3 zd;have f8:=c9.ext g3;have c6:LY (λq=>3<=q) O7 w7 O7 w9:=ae zo O7 g3;have e7:=a7.ext g3;have n6:=f3.ks;have e1:=aS g;refine zh ?_;apply zc P8 (jv w2.heap.size O7 w9 3 nb se g _ _ _ _ _ zd f8 h9 zo);rintro _ g0 ⟨rfl,O10,g8,h0,a5,b2,d0,a'⟩;have m4:=a'.ks.len;have d7:g.ks.length<a5.length:=zo;have c2:=a'.c2;refine zh ?_;rw[show((q:Nat):Int)+1=((q+1:Nat):Int)from by omega];refine zvH (aj a'.ks.row.sl.sh Mv (N7 _) rfl rfl g.ks.length rfl d7) ?_
   apply pJ a'.ks.row g.ks.length d7 2 zd (((nth a5 g.ks.length).1,(nth a5 g.ks.length).2.1,q+1):K3) (My _) rfl zo rfl rfl rfl rfl;intro d4 b8 a4;have e2:=cU g.knot g.ks.length (q+1);have k5:NfO O10 d4 3 nb se (g.knot.mark g.ks.length (q+1)) (.map (some nr)) (.map (some tr)) g8 h0 (a5.set g.ks.length ((nth a5 g.ks.length).1,(nth a5 g.ks.length).2.1,q+1)):=by
    refine⟨a'.blk.U a4 zd zd,a'.ls.U a4 zd zd,⟨b8,by rw[M1];omega,λk hk=>?_,λk hk=>?_,λk hk=>?_⟩⟩
    ·rw[M1]at hk;rw[bf d7,oM zo]
     split
     ·rename_i e;subst e;exact(a'.ks.fr _ hk).U a4 zo zo
     exact(a'.ks.fr k hk).U a4 zo zo
    ·rw[M1]at hk;rw[bf d7,oL zo]
     split
     ·rename_i e;subst e;exact(a'.ks.lv _ hk).U a4 zo zo
     exact(a'.ks.lv k hk).U a4 zo zo
    rw[M1]at hk;rw[bf d7,CL zo]
    split
    ·rfl
    exact a'.ks.en k hk
   have c':=d0.U a4;have f7:=Upd.hi a4 (i:=3) zd zd;refine zh ?_;apply zc P8 (jv w2.heap.size O10 d4 3 nb se (g.knot.mark g.ks.length (q+1)) _ _ _ _ _ zd c' k5 zo);rintro _ f' ⟨rfl,O12,m1,m3,l',c8,j',o8⟩;have e3:=aS (g.knot.mark g.ks.length (q+1));rw[show((g.knot.mark g.ks.length (q+1)).ks.length:Nat)=g.ks.length+1 from by omega];have b4:=(f3.knot.mark (a:=g.ks.length) (e:=q+1) zo).knot;refine zh ?_;apply zc NM (gO w2.heap.size O12 f' 3 nb se (g.knot.mark g.ks.length (q+1)).knot _ _ _ _ _ 0 (g.ks.length+1) zd j' o8 zo (by have:=b4.fr 0;omega) zo);rintro _ k7 ⟨O13,g7,g',g6,j6,j9,o7⟩;have k4:NfO O13 k7 3 nb se (dR g q) (.map (some nr)) (.map (some tr)) g7 g' g6:=o7;obtain⟨m5,k8⟩:=eW b6 f9 q;have o9:=ez g q;have n8:Bd (dR g q) (1+q*18010+3):=b4.free zo;have a8:=((b2.J f7).J c8).J j6;refine zh ?_;refine zvH (ai (us:=bu (nth xs q)) (λj u hu=>((n7 j u hu).U a8).c) (L2 _) (ix _) rfl) ?_;apply zc PL (CU (nsz (nth ts q)) (nth ts q) (L1 _) w2.heap.size O13 k7 3 nb se (dR g q) _ _ _ _ _ (g.ks.length+1) g.ks.length (nth xs q) (1+q*18010+3) zd j9 k4 m5 zo zo n8 zo h3 (e7.U a8));rintro _ k6 ⟨O14,d5,d6,d3,j5,j8,o6⟩;have k3:NfO O14 k6 3 nb se (nN (nth ts q) q g) (.map (some nr)) (.map (some tr)) d5 d6 d3:=o6;obtain⟨n2,p2,p1⟩:=mu b6 f9 (nth ts q) q;have n1:=IM b6 f9 (nth ts q) q f3;refine zh ?_
   refine zxd (q+1,O14,k6,nN (nth ts q) q g,d5,d6,d3) ⟨a0,((f5.J c6).J a8).J j5,j8,k3,n2,by dsimp only;omega,n1.mono (by dsimp only;omega),b3⟩
  intro i8;obtain rfl:q=ts.length:=dF i8;rw[List.drop_length,cF]at b3;have b3:kJ ts=g:=b3;have i4:=i5.U f5 zd zd;have i1:=i2.U f5 zd zd;have l3:∀k,g.en k<=40:=λk=>by rw[<-b3];have:=CA ts k;omega
  have n5:=qH e6 b7;rw[b3]at n5 ⊢;have e':Bd g 1000000:=f3.mono zo;refine zh ?_;apply zc call180 (zL w2.heap.size O7 w7 3 nb se g nr tr g1 g9 g5 [] [] 0 0 1000000 zd c9 h7 i4 i1 b6 f9 e' zd l3);rintro _ w8 ⟨v0,d2,i3,i0,h2,i9⟩;have h8:=h7.U d2 zd zo;have l5:=c9.U d2;have c1:=h8.c1;have n0:g.pl 0=0:=rfl;refine zh ?_;refine zvH (bH h8.ls.sl.sh Nh rfl) ?_;apply zlp (λz:Nat×ln×List (Int×L0)×List (Int×Nat)=>[(9,nP nb),(77,g1),(78,nI g.ls.length),(79,nI z.1)]) (λz=>z.2.1) (λz=>z.1<=g.ls.length/\LY (λq=>q=1\/q=2) O7 w7 O7 z.2.1/\N5 kvI id O7 z.2.1 1 nr z.2.2.1/\N5 kvI tvU O7 z.2.1 2 tr z.2.2.2/\(∀p:Nat,p<=z.1->∃v,bI z.2.2.1 (p:Int)=some v/\Sl bp 1 z.2.1 v (dm g p)/\P6 O7 z.2.1 v)/\(∀p:Nat,p<=z.1->bI z.2.2.2 (p:Int)=some (jX g p))) (λz=>g.ls.length-z.1) (0,w8,dc [] 0 v0,dc [] 0 ((fD g 0).foldl (fJ g) 0)) ⟨L9 _,d2,i3,i0,λp hp=>⟨v0,by obtain rfl:p=0:=Pu.1 hp;rfl,by obtain rfl:p=0:=Pu.1 hp;exact h2,i9⟩,λp hp=>by obtain rfl:p=0:=Pu.1 hp;rfl⟩;rintro⟨j,w9,l1,l2⟩ ⟨hj,c6,b',b9,h4,h1⟩;dsimp only at hj c6 b' b9 h4 h1 ⊢;have h9:=h7.U c6 zd zo;have f8:=c9.U c6;have e5:=h9.ls.sl;refine zh ?_;refine zC ?_ ?_
  ·intro a0;replace a0:j<g.ls.length:=dT a0;have n9:=b6.ls j a0;obtain⟨T,j7,hT⟩:=f8.bound;refine zh ?_;apply zv (Nl e5 Nh (NU _) rfl rfl j rfl a0);apply zv (ai (us:=sZ (nth g.ls j)) (λq u hu=>e5.cell a0 hu) (isAgg283 _) (NU _) rfl);apply aw f8 T zo (QV _) rfl;intro yb g0 O10 b1 b2 d0 k0;refine zh ?_;apply zsa (us:=(sZ (nth g.ls j)).toArray) b1 (NU _);have f4:LY (λj=>j=T) O10 g0 O10 (g0.setRow yb (sZ (nth g.ls j)).toArray):=L4 zo b1.tag rfl;obtain⟨d1,j0⟩:=Jo j7 hT b2 f4 (b1.setRow (us:=(sZ (nth g.ls j)).toArray));generalize g0.setRow yb (sZ (nth g.ls j)).toArray=d4 at *;clear b1 b2 d0 k0 f4;have c5:LY (λ_=>False) O7 w9 O7 d4:=ae (λh=>h) O7 d1;have k5:=h9.ext d1 zd;have c':=f8.ext d1;have e4:=b'.U c5 zd λh=>h
   have d':=b9.U c5 zd λh=>h
   have p5:=(j0 2 _ rfl).c;refine zh ?_;apply zc call180 (zL w2.heap.size O7 d4 3 nb se g nr tr g1 g9 g5 l1 l2 ((j:Nat)+1) (nth g.ls j).2.2 1000000 zd c' k5 e4 d' b6 n9 e' zd l3);rintro _ f' ⟨v1,c8,e0,d9,d8,e8⟩;have a9:LY (λq=>q=1\/q=2) O7 w9 O7 f':=(c5.mono (λ_ h=>h.elim) zo).J c8;have k':g.pl (j+1)=(nth g.ls j).2.2:=by unfold Gr.pl;rw[am zo];rfl
   refine zh ?_;refine zxd (j+1,f',dc l1 ((j:Nat)+1) v1,dc l2 ((j:Nat)+1) ((fD g (nth g.ls j).2.2).foldl (fJ g) 0)) ⟨a0,c6.J a9,e0,d9,λp hp=>?_,λp hp=>?_⟩
   ·dsimp only at hp ⊢;rw[bx]
    by_cases e:p=j+1
    ·subst e;exact⟨v1,by rw[ap zo],by unfold dm;rw[k'];exact d8,e8⟩
    obtain⟨v,a1,a2,a3⟩:=h4 p zo;exact⟨v,by rw[am zo];exact a1,a2.U a3 a9,a3.U a9⟩
   dsimp only at hp ⊢;rw[bx]
   by_cases e:p=j+1
   ·subst e;rw[ap zo];unfold jX;rw[k']
   rw[am zo];exact h1 p zo
  intro i7;obtain rfl:j=g.ls.length:=dF i7;refine zh ?_;refine cy rfl rfl rfl ⟨nb,rfl,b5.J (c7.J (c6.mono (S':=λq=>1<=q) (λq h=>zo) zo)).ext,λ_=>⟨nr,tr,g1,g9,g5,l1,l2,h9.r,b'.fgt (i':=0) rfl,b9.fgt (i':=0) rfl,λp hp=>by obtain⟨v,a1,a2,_⟩:=h4 p hp;exact⟨v,a1,a2⟩,h1⟩⟩
abbrev Ds(b:UInt8):List L0:=[.int .u8 (b.toNat:Int)]
def Lu:PA Ma 293 5 1 1:=⟨Po,by kernel_rfl,zd⟩
def G2:PA Ma 130 22 1 24:=⟨Pr,by kernel_rfl,zd⟩
def nD:PA Ma 27 24 1 8:=⟨underlying27,by kernel_rfl,zd⟩
def rR(n:Nat):Rj.wrap (n:Int)=((Mz (n % 256)).toNat:Int):=by
 rw[Ri];simp only[UInt8.toNat_ofNat'];omega
def A9(s:List Int)(sv:L0)(w:ln)(h:Sl encI 1 w sv s)(ho:okS s)(hl:s.length<=100000):N1 Ma 232 [sv] w λv w'=>v=.string (bs (xd s))/\MG w w':=by
 apply L6 func232 ntmps232 rfl rfl;refine zh ?_
 apply zlp (λz:Nat×L0×(Nat->Nat)×World=>[(3,z.2.1),(6,sv),(7,nI s.length),(8,nI z.1)]) (λz=>z.2.2.2) (λz=>z.1<=s.length/\MC Ds 5 1 z.2.2.1 z.2.2.2 1 z.2.1 (xd (s.take z.1))/\(xd (s.take z.1)).length=2*z.1/\LY (λq=>q=1) (λ_=>0) w z.2.2.1 z.2.2.2/\N0 w.heap.size z.2.2.1 z.2.2.2) (λz=>s.length-z.1) (0,nS,λ_=>0,w) ⟨L9 _,MT _ _ _ _ _ _,rfl,MH zd _ _,aA w⟩;rintro⟨q,v1,O1,w1⟩ ⟨hq,a0,a4,hU,hR⟩;dsimp only at hq a0 a4 hU hR ⊢;have h1:=h.ext hU.ext;refine zh ?_
 refine zC ?_ ?_
 ·intro a1;replace a1:q<s.length:=dT a1;have a7:=ho _ (aZ a1);obtain⟨p,hp⟩:∃p:Nat,nth s q=(p:Int):=⟨(nth s q).toNat,zo⟩
  have b1:p<=999:=by have:=a7.2;rw[hp]at this;simpa using this
  have m1:w1.cell? (adr sv 1 q)=some (nI (nth s q)):=by have:=h1.cell (j:=0) a1 rfl;rwa[ax]at this
  rw[hp]at m1;have a3:xd (s.take (q+1))=xd (s.take q)++[Mz (p / 256),Mz (p % 256)]:=by
   unfold xd;rw[bd a1,Py,hp];simp
  refine zh ?_;apply zv (jc (a:=p) (b:=8) rfl rfl rfl rfl zd)
  refine zvH (nZ Q5 Q4 rfl) ?_;apply zv (nZ Q5 Q4 rfl)
  rw[rR p,rR (p / 2^8),show p / 2^8 % 256=p / 256 from by omega];apply cE Po (sizeOf5 _) (zeroValue5 _) Ds [Mz (p / 256),Mz (p % 256)] rfl rfl rfl rfl zk (by simp) rfl;intro bv w2 a9 a6;have a5:LY (λ_=>False) O1 w1 O1 w2:=ae (λh=>h) O1 a6;apply aF Lu (a0.U a5 zd λh=>h) (hR.ext a6) a9 (by simp) rfl rfl (by simp) (by simp[M5]) (by simp;omega) (by simp;omega) zd rfl;intro v3 w3 O3 a2 a' b0;refine zh ?_;refine zxd (q+1,v3,O3,w3) ⟨a1,by dsimp only;rw[a3];exact a2,by dsimp only;rw[a3];simp[a4];omega,(hU.J (a5.mono (λ_ h=>h.elim) zd)).J a',b0⟩
 intro a8;obtain rfl:q=s.length:=dF a8;rw[Mm]at a0;refine zh ?_;refine zvH (Ah a0.sl Po Q4 Mg rfl) ?_;refine ah rfl rfl ⟨rfl,hU.ext⟩
def KO:cI Ma 287 #[(0,1),(1,1),(2,1)]:=⟨_,underlying287,λw=>by kernel_rfl⟩
def AH:cI Ma 170 #[(0,1),(1,1)]:=⟨_,underlying170,λw=>by kernel_rfl⟩
def vt:QM Ma 9 Np:=GH Mg
abbrev yo(v:L0):List L0:=[v]
structure MkO(O:Nat->Nat)(w:ln)(i mb nb kr:Nat)(sv:L0)(vs:List L0)(S:List (List Int))(l:List (ByteArray×Int)):Prop where
 blk:Mu O w i mb #[nP nb,.map (some kr),sv] 287
 map:N5 Np kvI O w (i+1) kr l
 row:MC yo 22 1 O w (i+2) sv vs
 len:vs.length=S.length
 at_:∀k,k<S.length->Sl encI 1 w (nth vs k) (nth S k)/\P6 O w (nth vs k)
 ok:∀s∈S,okS s
 key:∀s,okS s->bI l (bs (xd s))=(Fa S s).map fun(k:Nat)=>(k:Int)
def MkO.U{T:Nat->Prop}{O O':Nat->Nat}{w w':ln}{i mb nb kr:Nat}{sv:L0}{vs:List L0}{S:List (List Int)}{l:List (ByteArray×Int)}(h:MkO O w i mb nb kr sv vs S l)(u:LY T O w O' w')(hi:i≠0)(h1:¬T i)(h2:¬T (i+1))(h3:¬T (i+2)):MkO O' w' i mb nb kr sv vs S l:=
 ⟨h.blk.U u hi h1,h.map.U u zo h2,h.row.U u zo h3,h.len,λk hk=>⟨(h.at_ k hk).1.U (h.at_ k hk).2 u,(h.at_ k hk).2.U u⟩,h.ok,h.key⟩
def C4{S:List (List Int)}{t:List Int}(h:Fa S s=none):Fa (S++[s]) t=if s=t then some S.length else Fa S t:=by
 unfold Fa at h ⊢;rw[List.findIdx?_append]
 by_cases e:s=t
 ·subst e;rw[h,ap rfl];simp[MZ]
 rw[am e]
 cases hq:S.findIdx? (· == t)with
 |some k=>simp
 |none=>simp[MZ,e]
def mZ(B:Nat)(O:Nat->Nat)(w:ln)(i mb nb kr:Nat)(mv:L0)(vs:List L0)(S:List (List Int))(l:List (ByteArray×Int))(s:List Int)(sv:L0)(hi:i≠0)(hR:N0 B O w)(h:MkO O w i mb nb kr mv vs S l)(hs:Sl encI 1 w sv s)(hf:P6 O w sv)(ho:okS s)(b8:s.length<=100000)(d1:S.length<=100000):
  N1 Ma 181 [nP mb,sv] w λv w'=>∃O' mv' vs' l',v=nI ((D8 S s:Nat):Int)/\LY (λq=>i<=q/\q<=i+2) O w O' w'/\N0 B O' w'/\MkO O' w' i mb nb kr mv' vs' (sG S s) l':=by
 have hz:¬(λq=>i<=q/\q<=i+2) 0:=zo;obtain⟨sa,sc,rfl,_⟩:=hs.shape;apply L6 func181 ntmps181 rfl rfl;refine zh ?_;apply zc call232 (A9 s _ w hs ho b8);rintro _ w1 ⟨rfl,b7⟩;have a':LY (λ_=>False) O w O w1:=ae (λh=>h) O b7;have h1:=h.U a' hi (λh=>h) (λh=>h) λh=>h
 have b6:=hR.U a';have b3:=hs.ext b7;have a9:=hf.U a';have a4:=h.key s ho;have a7:LY (λq=>i<=q/\q<=i+2) O w O w1:=a'.mono (λ_ h=>h.elim) hz;have c1:w1.cell? (nA mb 1)=some (.map (some kr)):=h1.blk.cell 1 rfl;have c2:w1.cell? (nA mb 2)=some mv:=h1.blk.cell 2 rfl;refine zh ?_
 cases a0:Fa S s with
 |some k=>
  rw[a0]at a4;have hn:D8 S s=k:=by unfold D8;rw[a0];rfl
  have hS:sG S s=S:=by unfold sG;rw[a0];rfl
  rw[hn,hS];refine zvH (dr (u:=.tuple #[kvI (k:Int),.bool true]) h1.map Pp vt (Re _) (bs (xd s)) rfl rfl rfl (by rw[a4];rfl)) ?_;refine zFH rfl rfl ?_;refine ah rfl rfl ⟨O,mv,vs,l,rfl,a7,b6,h1⟩
 |none=>
  rw[a0]at a4;have hn:D8 S s=S.length:=by unfold D8;rw[a0];rfl
  have hS:sG S s=S++[s]:=by unfold sG;rw[a0];rfl
  rw[hn,hS];have a8:=h.len;refine zvH (dr (u:=.tuple #[kvI 0,.bool false]) h1.map Pp vt (Re _) (bs (xd s)) rfl rfl rfl (by rw[a4];rfl)) ?_;refine zTH rfl rfl ?_;refine zvH (bH h1.row.sl.sh Pr rfl) ?_;apply WL.mapUpdate h1.map Pp vt zo (bs (xd s)) (vs.length:Int) rfl rfl rfl rfl rfl;intro w2 c6 a6;have b5:=h1.blk.U a6 hi zo;have c':=b3.U a9 a6;have d0:=a9.U a6;have d2:w2.cell? (nA mb 2)=some mv:=b5.cell 2 rfl;refine zh ?_;apply NB G2 (h1.row.U a6 zo zo) (b6.U a6) ((.slice sa s.length sc:L0)) (λ_=>rfl) rfl rfl rfl (by simp[M5]) zo zo zo zd rfl rfl;intro a5 w3 O3 b4 b2 c8;have b1:=b5.U b2 hi zo;refine zh ?_;apply ao (j:=2) b1 rfl (sizeOf130 _) b4.one rfl rfl rfl;have b0:LY (λq=>q=i) O3 w3 O3 (w3.setCell ⟨mb,2,none⟩ a5):=Mi (λe=>hi e.symm) b1.tag rfl;have c7:Mu O3 (w3.setCell ⟨mb,2,none⟩ a5) i mb #[nP nb,.map (some kr),a5] 287:=b1.set 2 a5;have a3:LY (λq=>i<=q/\q<=i+2) O w1 O3 (w3.setCell ⟨mb,2,none⟩ a5):=((a6.mono (λq h=>zo) hz).J (b2.mono (λq h=>zo) hz)).J (b0.mono (λq h=>zo) hz);refine zh ?_;refine ah rfl rfl ⟨O3,a5,vs++[.slice sa s.length sc],dc l (bs (xd s)) (vs.length:Int),by rw[a8],a7.J a3,(c8.U b0),⟨c7,(c6.U b2 zo zo).U b0 zo zo,b4.U b0 zo zo,by simp[a8],λk hk=>?_,λt ht=>?_,λt ht=>?_⟩⟩
  ·rw[aC,aC,a8]
   by_cases e:k<S.length
   ·rw[ap e,ap e];obtain⟨a1,a2⟩:=h1.at_ k e;exact⟨a1.U a2 a3,a2.U a3⟩
   rw[am e,am e];simp only[Mp,Mh,NJ]at hk;rw[show k-S.length=0 from by omega,ar,ar];exact⟨b3.U a9 a3,a9.U a3⟩
  ·rcases Q8.1 ht with ht|ht
   ·exact h.ok t ht
   rw[Mw.1 ht];exact ho
  rw[bx,C4 a0]
  by_cases e:s=t
  ·subst e;rw[ap rfl,ap rfl,a8];rfl
  rw[am (λe2=>e (zM ho ht (G4 e2))),am e];exact h.key t ht
def Fw{r:List Nat}{m x:Nat}(hr:r.length=m)(hm:m<N):(r++Mo (N-m) 0).set m x=(r++[x])++Mo (N-(m+1)) 0:=by
 obtain⟨k,hk⟩:∃k,N-m=k+1:=⟨N-m-1,zo⟩
 rw[show N-(m+1)=k from by omega,hk,Pd _ _ zo,hr,MW,Pw,PF,N6];rfl
def Free.lowT{O:Nat->Nat}{w:ln}{v:L0}(h:P6 O w v)(T:Nat):P6 (Go.VL.lowT O T) w v:=λa n c e hn=>⟨lr (h a n c e hn).1,(h a n c e hn).2⟩
def MkO.lowT{O:Nat->Nat}{w:ln}{i mb nb kr:Nat}{sv:L0}{vs:List L0}{S:List (List Int)}{l:List (ByteArray×Int)}(h:MkO O w i mb nb kr sv vs S l){T:Nat}(hT:i+2<T):MkO (Go.VL.lowT O T) w i mb nb kr sv vs S l:=
 ⟨h.blk.lowT zo,h.map.fgt (by unfold Go.VL.lowT;rw[h.map.tag,am zo]),h.row.lowT zo,h.len,λk hk=>⟨(h.at_ k hk).1,Free.lowT (h.at_ k hk).2 T⟩,h.ok,h.key⟩
def G0{g:Gr}(hl:g.ls.length<=999)(h:inP g s):okS s:=λx hx=>⟨(h x hx).1,Qx (h x hx).2 hl⟩
def Dt(B:Nat)(O:Nat->Nat)(w w0:ln)(i mb nb kr:Nat)(se:Bool)(g:Gr)(mv:L0)(vs:List L0)(S:List (List Int))(l:List (ByteArray×Int))(q:Nat)(hi:i≠0)(hR:N0 B O w)(h:MkO O w i mb nb kr mv vs S l)(hD:NfD w0 nb se g)(f5:LY (λq=>1<=q) (λ_=>0) w0 O w) 
  (hw:WF g) (h0:0<g.ks.length) (ht:Tot g) (d4:g.ls.length<=999) (d5:∀s∈S,inP g s) (c9:∀s∈S,s.length<=1000) (hq:q<S.length) (hS:S.length<=1000) :
  N1 Ma 183 [nP mb,nI (q:Nat)] w λv w'=>∃O' mv' vs' l',LY (λq=>i<=q/\q<=i+2) O w O' w'/\N0 B O' w'/\MkO O' w' i mb nb kr mv' vs' (dX (dj se g) (nth S q) S 37).1 l'/\Sl bp 1 w' v (dX (dj se g) (nth S q) S 37).2/\P6 O' w' v/\(∀s∈(dX (dj se g) (nth S q) S 37).1,inP g s/\s.length<=1000):=by
 obtain⟨T0,g3,c6⟩:=hR.bound;obtain⟨T,g2⟩:∃T,T=T0+i+3:=⟨_,rfl⟩
 have hT:∀b,O b<T:=λb=>by have:=c6 b;omega
 have a5:=la (dj se g) (nth S q) S;have b5:=d5 _ (aZ hq);apply L6 func183 ntmps183 rfl rfl;refine zh ?_;obtain⟨N,hN⟩:∃N:Nat,N=37:=⟨_,rfl⟩
 apply cg lK (val:=λn:Nat=>nI (n:Int)) (0:Nat) zk (λ_=>rfl) hR T zo 37 rfl rfl zd zd zd zd rfl;intro w1 O1 ov e5 a4 d7 f8 g4;clear e5;refine zh ?_
 refine zvH (bH a4.sl.sh MS rfl) ?_;rw[List.length_replicate];apply zlp (λz:Nat×(Nat->Nat)×World×L0×List L0×List (ByteArray×Int)=>[(0,nP mb),(1,nI (q:Nat)),(5,ov),(8,ov),(9,nI ((37:Nat):Int)),(10,nI z.1)]) (λz=>z.2.2.1) (λz=>z.1<=37/\LY (λj=>j=T\/i<=j/\j<=i+2) O w z.2.1 z.2.2.1/\N0 B z.2.1 z.2.2.1/\MkO z.2.1 z.2.2.1 i mb nb kr z.2.2.2.1 z.2.2.2.2.1 (dX (dj se g) (nth S q) S z.1).1 z.2.2.2.2.2/\MC bp 3 1 z.2.1 z.2.2.1 T ov ((dX (dj se g) (nth S q) S z.1).2++Mo (37-z.1) 0)/\∀s∈(dX (dj se g) (nth S q) S z.1).1,inP g s/\s.length<=1000) (λz=>37-z.1) (0,O1,w1,mv,vs,l) ⟨L9 _,d7.mono (λ_ h=>.inl h) zo,f8,h.U d7 hi zo zo zo,a4,λs hs=>⟨d5 s hs,c9 s hs⟩⟩
 rintro⟨m,O2,w2,a',a9,l2⟩ ⟨b7,b4,a8,b0,a0,a1⟩;dsimp only at b7 b4 a8 b0 a0 a1 ⊢;have c':=(a5 m).len;have c8:=(a5 m).top;have b2:((dX (dj se g) (nth S q) S m).2++Mo (37-m) 0).length=37:=by simp[c'];omega
 refine zh ?_;refine zC ?_ ?_
 ·intro b1;replace b1:m<37:=dT b1;obtain⟨pq,d0⟩:=(a5 m).pre;have e4:q<(dX (dj se g) (nth S q) S m).1.length:=by rw[d0];simp;omega
  have e6:nth (dX (dj se g) (nth S q) S m).1 q=nth S q:=by rw[d0,aC,ap hq]
  have hm2d:=b0.U (ae (S:=λ_=>False) (λh=>h) O2 (M8 w2).drew) hi (λh=>h) (λh=>h) λh=>h
  have c0:=hm2d.blk.cell 0 rfl;have c7:=hm2d.row.sl;have g0:=hm2d.len;have cq:w2.drew.cell? (adr a' 1 q)=some (nth a9 q):=by have:=c7.cell (i:=q) (j:=0) zo rfl;rwa[ax]at this
  obtain⟨a6,f3⟩:=hm2d.at_ q e4;rw[e6]at a6;refine zh ?_;apply aO (λW=>W.cell? (nA mb 0)=some (nP nb)) 19 rfl zk;apply zrm 0 rfl c0 rfl;apply zrm 1 rfl c0 rfl;apply zrm 2 rfl c0 rfl;apply zrm 3 rfl c0 rfl;apply zr 4 rfl c0 (λ_=>aq rfl);apply zrf 5 rfl c0 rfl;apply zt 6 rfl c0 (λw1 e1=>RV.ld e1 rfl);apply zrm 7 rfl c0 rfl;apply zr 8 rfl c0 (λ_=>aq rfl);apply zrf 9 rfl c0 rfl;apply zrm 11 rfl c0 rfl;apply zrm 14 rfl c0 rfl;apply Mf 10 zk rfl;refine zvH (RV.ld (hm2d.blk.cell 2 rfl) rfl) ?_;apply af c0;apply zr 12 rfl c0 (λ_=>aj c7.sh Pr (QJ _) rfl rfl q rfl zo);apply Mf 13 zk rfl;refine zvH (RV.ld cq rfl) ?_;apply af c0;apply Mf 15 zk rfl;apply zc call233 (step_ret w2.drew nb se g (nth S q) (nth a9 q) (m:Nat) (hD.ext ((f5.J (b4.mono (S':=λq=>1<=q) (λj h=>zo) zo)).drew).ext) a6 hw h0 ht b5 (c9 _ (aZ hq)) d4);rintro tv w3 ⟨e2,d8,e'⟩;refine zh ?_;apply af (d8.cell c0);have b3:LY (λ_=>False) O2 w2 O2 w3:=ae (λh=>h) O2 ((M8 w2).drew.J d8)
  have a7:=a0.U b3 zo λh=>h
  have d1:=xr hw h0 (oi se g) b5 (m:Nat);have g1:=Fo (se:=se) hw h0 b5 (m:Nat);apply Mf 16 zk rfl;apply zc call181 (mZ B O2 w3 i mb nb kr a' a9 (dX (dj se g) (nth S q) S m).1 l2 (dj se g (nth S q) (m:Nat)) tv hi (a8.U b3) (b0.U b3 hi (λh=>h) (λh=>h) λh=>h) e2 (e' B O2 a8.drew) (G0 d4 d1) zo zo);rintro _ w4 ⟨O4,e0,d',l4,rfl,d6,f6,d3⟩;have d9:w4.cell? (nA mb 0)=some (nP nb):=d3.blk.cell 0 rfl;refine zh ?_;apply af d9;have a3:=a7.U d6 zo zo;apply zr 17 rfl d9 (λ_=>aj a3.sl.sh MS (My _) rfl rfl m rfl zo);apply Mf 18 zk rfl;apply WL.storeAt a3 m zo (D8 (dX (dj se g) (nth S q) S m).1 (dj se g (nth S q) (m:Nat))) (My _) rfl zo rfl rfl rfl rfl;intro w5 a2 b9;rw[Fw c' b1]at a2;have d2:=d3.U b9 hi zo zo zo;have f':w5.cell? (nA mb 0)=some (nP nb):=d2.blk.cell 0 rfl;refine zh ?_;apply af f';have b':LY (λj=>j=T\/i<=j/\j<=i+2) O w O4 w5:=((b4.J (b3.mono (λ_ h=>h.elim) zo)).J (d6.mono (λ_ h=>.inr h) zo)).J (b9.mono (λ_ h=>.inl h) zo);apply MY zk;refine zh ?_;refine zxd (m+1,O4,w5,e0,d',l4) ⟨b1,b',f6.U b9,d2,a2,λs hs=>?_⟩
  ·have hs:s∈sG (dX (dj se g) (nth S q) S m).1 (dj se g (nth S q) (m:Nat)):=hs;unfold sG at hs
   split at hs
   ·exact a1 s hs
   rcases Q8.1 hs with hs|hs
   ·exact a1 s hs
   rw[Mw.1 hs];exact⟨d1,zo⟩
 intro e9;obtain rfl:m=37:=dF e9;rw[MW,Pv,Nk]at a0
 have f4:=b4.lowT (S':=λq=>i<=q/\q<=i+2) hT (λb hb=>by
  rcases hb with hb|hb
  ·have:=hT b;omega
  exact hb) zo
 refine zh ?_;refine ah rfl rfl ⟨lowT O2 T,a',a9,l2,f4,a8.lowT T,MkO.lowT b0 zo,a0.sl,λa n c e hn=>?_,a1⟩
 have hb:=a0.1.tag a.block (by subst e;rfl);refine⟨by unfold lowT;rw[hb,ap (L1 _)],(a8.rng a.block (by rw[hb];omega)).2⟩
end Go.Proofs.YteolbhblkgjbhaaGreatDoor
