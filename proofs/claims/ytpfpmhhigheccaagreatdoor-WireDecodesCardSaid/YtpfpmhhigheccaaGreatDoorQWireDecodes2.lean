/- Texts that the proof of this statement needs, merged and shortened. -/
import Derived.Test.YtpfpmhhigheccaaGreatDoorQWireDecodes1
open Go.Proofs.Tryz renaming sizeOf86->ix,isAgg86->G5,zeroValue86->G6,prog->GG,underlying9->GK,underlying163->GS,sizeOf3->I2,underlying84->Ij,sizeOf167->Iy,call154->J0,call153->J1,zeroValue241->JF,underlying25->JG,call85->JI,call202->Kj,call167->Kk,call142->Kl,sizeOf241->Kp,sizeOf218->Kq,sizeOf84->KF,call86->KG,underlying241->KI,underlying162->KJ,underlying146->KK,sizeOf9->KQ,call155->KR,call113->KS,call108->KT,call84->L2,call79->L3
open Go renaming World->ln,Value->G0,TypeId->G9,MapEntry->GH,Program->GI,Operand->I3,Oper->Ik,Exit->J4,zeroValue->J7,Edge->Jh,sizeOf->JH,Act->JZ,Addr->Ki,isAgg->KY,Code->L7
open Nat renaming le_refl->G1,zero_le->GB,le_succ->GT,blt->GW,le_of_eq->I6,not_lt_zero->Iv,eq_of_beq_eq_true->Iz,sub_self->IK,beq->J6,lt_succ_iff_lt_or_eq->Jg,zero_mul->Jk,pow_lt_pow_right->Ju,lt_of_lt_of_le->JK,add_assoc->Ko,zero_add->Kr,sub_zero->Ku,add_comm->Kv,one_mul->KD,add_mul->KE
open Go.Result renaming andThen_ok->G2
open Go.VL.Upd renaming setRow->G4,set->GF,refl->Ib,putObj->Iu,alloc->IW
open Go.Sem renaming run_bind->G7,run_pure->Gw,run->IC
open Go.VL.Ret renaming enter->G8
open Go.World renaming setRow->Gn,setCell->Gv,putObj_heap_other->GO,drew->Iq,block_lt_of_cell?->Jb,putObj_heap_same->Jf,alloc_heap_new->Jj,size_alloc->JJ,setCells->K0,frozen?->K9
open List renaming all_cons->Gp,getElem_append_left->Gx,map_cons->Gy,all_nil->Gz,length_set->GA,eq_nil_of_length_eq_zero->GE,getElem_append_right->GM,length_cons->GP,drop_of_length_le->GR,map_toArray->GU,getElem?_eq_some_iff->GX,length_reverse->GY,length_append->GZ,findIdx?_eq_some_iff_getElem->I1,map_nil->I4,eraseIdx_eq_take_drop_succ->I7,replicate->Ig,mem_singleton->Ih,findIdx?_eq_none_iff->Ii,getElem_cons_zero->It,length_singleton->Iw,takeWhile_append_dropWhile->IL,suffix_refl->IT,getElem_mem->IU,map_append->IY,drop_eq_getElem_cons->J9,map_take->Jd,getElem?_eq_getElem->Je,mem_map->Ji,eraseIdx_sublist->Jl,dropWhile_suffix->Jm,getElem_of_mem->Jv,filter_eq_self->Jw,range->JC,findIdx?_cons->JD,find?_eq_none->JE,nodup_append->JL,flatMap_cons->JM,take_length->JT,suffix_cons->JU,cons_append->JV,length_nil->K2,length_map->K4,find?_cons->K5,append_nil->K6,take_take->Kd,map_drop->Kg,length->Kw,take->KH,map->KO
open Go.VL.BlkO renaming setRow->Gq,upd->Gt,tag->Gu,drew->I9,fgt->KP
open Go.VL renaming Upd->Gs,BlkO->GQ,RowT->Ia,Ext->Ie,Rng->IA,Ret->IB,MapO->ID,Elem->Kh,KeyL->KV,Free->KW,Fits->KX
open Go.VL.Ext renaming refl->GC
open Go.Value renaming oneCell'->GD,string->Kf,cells->Km
open Classical renaming byContradiction->GJ
open Go.VL.WH renaming one->GL,done->Il
open Go.VL.WI renaming region->GN,seq->I0,skip->J8,block->Jz,ret->JQ
open Bool renaming and_eq_true->GV,not_eq_true'->IJ,eq_false_iff->JO,eq_iff_iff->K8
open List.IsSuffix renaming trans->I5,length_le->II
open Array renaming getElem?_modify->I8,getElem?_setIfInBounds->IX,length_toList->Jt,ext_getElem?->Jy
open Go.VL.QF renaming dn->Ic
open Go.Instr renaming keyThatStays->If,entryStore->Im,findAsking->IM,mapEntry->J2,checkKey->J3,storeAt->Ja,mapUpdate->JW,sureAddr->K7,findNow->Ke
open Go.VL.WS renaming nil->Io
open Go.Addr renaming add->Ip
open Go.Fence renaming wide->Ir
open Go.VL.WC renaming still->Is
open List.cons renaming injEq->IE
open Go.Proofs.YtpfpmhhigheccaaGreatDoor renaming oneM->IF,layO->IG
open Go.VL.WL renaming val->IH,nil->JP,push->K1,step->L4
open Go.Builtin renaming delete_->IN,append_->IP,firstCells->Jp,clear_->JN,lenOf->JY,len_->L9
open UInt8 renaming ofNat->IQ
open Go.VL.RV renaming indexAddr->IR,load->KA,extract->KL,add->KM
open Option renaming map_some->IS,map->Jr,bind_some->JA,bind_none->JB
open Go.Ending.returned renaming inj->IV
open Int renaming le_refl->IZ
open Go.VL.RowT renaming nil->J5,upd->Jq,freeT->Ky
open Go.Region renaming ready->Jc
open Function renaming comp_def->Jn
open Go.Extern.BytealgIndexByte renaming indexByte->Jo
open Go.Proofs.YtpfpmhhigheccaaGreatDoor.Nd renaming kids->Js,kind->KC,cls->KN
open Go.VL.Rng renaming upd->JR
open Go.Op renaming equalIn->JS,equal->KZ
open Go.VL.Fit renaming i64->JX
open Std.Legacy.Range renaming size->Ka,forIn_eq_forIn_range'->Kb
open Prod renaming fst->Kc
open Go.VL.Leave renaming mark->Kx
open Go.RowKit.Below renaming heap_setCell->Kz
open Go.Proofs.YtpfpmhhigheccaaGreatDoor.Nt renaming leaf->KB
open Go.Oper renaming wp->KU
open Go.Deferred renaming ofValue->L0
open Go.Act renaming put->L1
open Go.RoundIn renaming mono->L5
open Prod.mk renaming injEq->L6
open Go.CallsIn renaming mono->L8
set_option maxRecDepth 10000
open Go.VL Go.Proofs Go.Proofs.Tryz
namespace Go.VL
section
open Go.ChangeMaps (setBlock)
section
variable{κ ν:Type}[DecidableEq κ]{kv:κ→G0}{vv:ν→G0}
def nN:List (κ×ν)->κ->List (κ×ν)
 |[],_=>[]
 |(a,y)::r,k=>if a=k then r else(a,y)::nN r k
theorem iz:∀(l:List (κ×ν)) (k:κ),nN l k=match iy l k with
  |some i=>l.eraseIdx i
  |none=>l
 |[],k=>rfl
 |(a,y)::r,k=>by
  simp only[nN,iy]
  by_cases h:a=k
  ·simp[h]
  simp only[if_neg h];rw[iz r k]
  cases iy r k<;>simp
theorem map_eraseIdx{α β:Type}(f:α->β)(l:List α)(j:Nat):(l.eraseIdx j).map f=(l.map f).eraseIdx j:=by
 simp[I7,Jd,Kg]
theorem eo{O:Nat->Nat}{w:ln}{i r:Nat}(o:Obj)(ht:O r=i)(a0:i≠0):Gs (fun j=>j=i) O w O (setBlock w r o):=by
 refine⟨rfl,rfl,rfl,by simp[setBlock],fun b _ hn=>?_,fun _ _=>rfl,fun _ h=>.inl h,fun h=>a0 h.symm⟩;simp only[setBlock,IX]
 rw[if_neg (fun e=>hn (by rw[<-e];exact ht))]
theorem dS{w:ln}{r:Nat}{o o':Obj}(h:w.heap[r]? = some o):(setBlock w r o').heap[r]? = some o':=by
 have:=bm h;simp[setBlock,this]
theorem np{P:GI}{T K E ty U:G9}(hT:P.underlying T=some (.map K E))(hK:KV P K kv){O:Nat->Nat}{w:ln}{i r:Nat}{l:List (κ×ν)}(h:ID kv vv O w i r l)(a7:i≠0)(k:κ):
  ∃w',(IN #[T,U] ty #[.map (some r),kv k]).run P w=.ok (.tuple #[]) w'/\ID kv vv O w' i r (nN l k)/\Gs (fun j=>j=i) O w O w':=by
 obtain⟨es,c,h1,h2⟩:=h.blk;have a3:=h.born es c h1;have a5:es.toList.map (·.key)=(l.map (·.1)).map kv:=by
  have:=congrArg (KO Kc) h2;simpa[Jn]using this
 have hf:=hK.find k es.toList (l.map (·.1)) w a5;rw[dG]at hf;have hc:=hK.check es.isEmpty 9998 k w;have hr:=bm h1;have fin:∀(a1:Array GH) (c':Nat),((a1.toList.map (·.born)).Nodup/\∀e∈a1.toList,e.born<c')->a1.toList.map (fun e=>(e.key,e.val))=(nN l k).map (fun p=>(kv p.1,vv p.2))->
   ID kv vv O (setBlock w r (.map a1 c')) i r (nN l k)/\Gs (fun j=>j=i) O w O (setBlock w r (.map a1 c')):=fun a1 c' hb he=>
  ⟨⟨⟨a1,c',dS h1,he⟩,h.tag,fun a8 c2 h2=>by rw[dS h1]at h2;cases h2;exact hb⟩,eo _ h.tag a7⟩
 have a2:(IN #[T,U] ty #[.map (some r),kv k]).run P w=((match ((iy l k).bind fun i=>(es.toList[i]?).map fun e=>(i,e.val))with
   |some (i,_)=>do setObj r (.map (es.eraseIdxIfInBounds i) c);pure (.tuple #[])
   |none=>do setObj r (.map es c);pure (.tuple #[]):Sem G0)).run P w:=by
  simp only[IN,List.getElem?_toArray,List.getElem?_cons_zero,List.getElem?_cons_succ,G7,run_underlying hT,G2];simp only[getObj,IC,h1,G7,G2,hc,hf];generalize ((iy l k).bind fun i=>Jr (fun e=>(i,e.val)) es.toList[i]?)=q
  cases q with
  |none=>rfl
  |some p=>rfl
 rw[a2,iz];have a0:∀a1,(do setObj r (.map a1 c);pure (.tuple #[]):Sem G0).run P w=.ok (.tuple #[]) (setBlock w r (.map a1 c)):=fun a1=>by
  simp[setObj,IC,h1,setBlock]
 cases hi:iy l k with
 |none=>
  refine⟨_,by simp only[JB];exact a0 es,?_⟩;have:=fin es c a3 (by rw[iz,hi];exact h2);rw[iz,hi]at this;exact this
 |some j=>
  obtain⟨y,hy⟩:=gM hi;have a4:j<es.toList.length:=by
   have hl:=congrArg Kw h2;simp only[K4]at hl;have:=(GX.1 hy).1;omega
  refine⟨_,by simp only[JA,Je a4,IS];exact a0 _,?_⟩
  have a6:j<es.size:=by simpa using a4
  have e1:(es.eraseIdxIfInBounds j).toList=es.toList.eraseIdx j:=by
   simp[Array.eraseIdxIfInBounds,a6]
  have:=fin (es.eraseIdxIfInBounds j) c ⟨by
    rw[e1,I7,IY,Jd,Kg];have hs:(KH j (es.toList.map (·.born))++List.drop (j+1) (es.toList.map (·.born))).Sublist (es.toList.map (·.born)):=by
     rw[<-I7];exact Jl _ _
    exact hs.nodup a3.1,fun e he=>a3.2 e (by rw[e1]at he;exact(Jl _ _).mem he)⟩ (by
   rw[iz,hi,e1];have h3:=congrArg (fun l=>l.eraseIdx j) h2
   rw[map_eraseIdx,map_eraseIdx];exact h3)
  rw[iz,hi]at this;exact this
structure RangeO(kv:κ->G0)(vv:ν->G0)(O:Nat->Nat)(w:ln)(i j r q:Nat)(left:List (κ×ν))(cur:Option (κ×ν)):Prop where
 ex:∃es clock seen c0,w.heap[r]? = some (.map es clock)/\w.heap[q]? = some (.mapIter (some r) clock seen c0)/\clock<=c0/\(es.toList.map (·.born)).Nodup/\(∀e∈es.toList,e.born<clock)/\
  (leftOf es seen).toList.map (fun e=>(e.key,e.val))=left.map (fun p=>(kv p.1,vv p.2))/\∀p,cur=some p->∃(e:GH) (s0:Array Nat),e∈es.toList/\seen=s0.push e.born/\c0=clock/\e.key=kv p.1/\e.val=vv p.2
 tag:O r=i
 tagq:O q=j
end
section
variable{κ ν:Type}{kv:κ→G0}{vv:ν→G0}
theorem RangeO.upd{S:Nat->Prop}{O O':Nat->Nat}{w w':ln}{i j r q:Nat}{a0:List (κ×ν)}{a2:Option (κ×ν)}(h:RangeO kv vv O w i j r q a0 a2)(u:Gs S O w O' w')(hi:i≠0)(hj:j≠0)(hS:¬S i)(a3:¬S j):RangeO kv vv O' w' i j r q a0 a2:=by
 obtain⟨es,c,a1,c0,h1,h2,h3⟩:=h.ex;have e1:=u.blk r (bm h1) (by rw[h.tag];exact hS);have e2:=u.blk q (bm h2) (by rw[h.tagq];exact a3);exact⟨⟨es,c,a1,c0,by rw[e1];exact h1,by rw[e2];exact h2,h3⟩,by rw[u.tag r (by rw[h.tag];exact hi),h.tag],by rw[u.tag q (by rw[h.tagq];exact hj),h.tagq]⟩
end
section
variable{κ ν:Type}[DecidableEq κ]{kv:κ→G0}{vv:ν→G0}
theorem tK{es:List GH}{e:GH}{a1 a0:List GH}(hn:(es.map (·.born)).Nodup)(p:GH->Bool)(h:es.filter p=a1++e::a0):es.filter (fun x=>p x && !(x.born==e.born))=a1++a0:=by
 have h1:es.filter (fun x=>p x && !(x.born==e.born))=(es.filter p).filter (fun x=>!(x.born==e.born)):=by
  rw[List.filter_filter];congr 1;funext x;exact Bool.and_comm _ _
 have a2:((a1++e::a0).map (·.born)).Nodup:=by rw[<-h];exact((List.filter_sublist (p:=p) (l:=es)).map _).nodup hn
 rw[h1,h,List.filter_append,List.filter_cons_of_neg (by simp)];simp only[IY,Gy]at a2;have hd:=JL.1 a2;congr 1
 ·refine Jw.2 fun x hx=>?_
  have:=hd.2.2 x.born (Ji.2 ⟨x,hx,rfl⟩) e.born (by simp);simpa using this
 refine Jw.2 fun x hx=>?_
 have:=(List.nodup_cons.1 hd.2.1).1;simp only[IJ,beq_eq_false_iff_ne,ne_eq];intro hc;exact this (by rw[<-hc];exact Ji.2 ⟨x,hx,rfl⟩)
theorem yT{α β γ:Type}{f:α->γ}{g:β->γ}:∀ {l:List α} {m:List β} {a0 a1:List α} {e:α},l.map f=m.map g->l=a0++e::a1->∃pre' x suf',m=pre'++x::suf'/\f e=g x/\(a0++a1).map f=(pre'++suf').map g:=by
 intro l m a0
 induction a0 generalizing l m with
 |nil=>
  intro a1 e h hl;subst hl
  cases m with
  |nil=>simp at h
  |cons x m=>
   simp only[List.nil_append,Gy,IE]at h;exact⟨[],x,m,rfl,h.1,h.2⟩
 |cons a a0 ih=>
  intro a1 e h hl;subst hl
  cases m with
  |nil=>simp at h
  |cons x m=>
   simp only[JV,Gy,IE]at h;obtain⟨p,y,s,rfl,h1,h2⟩:=ih h.2 rfl;exact⟨x::p,y,s,rfl,h1,by simp only[JV,Gy,h.1,h2]⟩
end
section
variable{κ ν:Type}[DecidableEq κ]{kv:κ→G0}{vv:ν→G0}
variable{P:GI}{N:Nat}{ops:Array Ik}{Q:J4→JZ→ln→Prop}{rest:List Ik}{st:St}{w:ln}
variable{t:G9}{p:String}{e:Array Jh}{d:Nat}{x y z:I3}
theorem WL.delete{T K E U:G9}{O:Nat->Nat}{i r:Nat}{l:List (κ×ν)}(hm:ID kv vv O w i r l)(hT:P.underlying T=some (.map K E))(hK:KV P K kv)(a1:i≠0) 
  (k:κ) {kx:G0} (hx:ev st x=some (.map (some r))) (hy:ev st y=some kx) (hk:kx=kv k)
  (h:∀w',ID kv vv O w' i r (nN l k)->Gs (fun j=>j=i) O w O w'->WL P N ops Q rest st w'):WL P N ops Q (⟨none,.call ⟨.builtin .delete,#[x,y],#[T,U]⟩,t,p,e,none⟩::rest) st w:=by
 subst hk;obtain⟨w',h1,h2,h3⟩:=np (ty:=t) (U:=U) hT hK hm a1 k;refine L4 rfl fun a ha=>?_
 unfold KU;have a0:(execOp a.eval ⟨none,.call ⟨.builtin .delete,#[x,y],#[T,U]⟩,t,p,e,none⟩).run P w=.ok (.value (.tuple #[])) w':=by
  simp only[execOp,resolve,invoke,builtin,G7,Gw,G2,GU,Gy,I4,ha.ev hx,ha.ev hy,h1]
 rw[a0];exact h w' h2 h3 _ ha
end
section
variable{κ ν:Type}{kv:κ→G0}{vv:ν→G0}
variable{P:GI}{N:Nat}{ops:Array Ik}{Q:J4→JZ→ln→Prop}{rest:List Ik}{st:St}{w:ln}
variable{t:G9}{p:String}{e:Array Jh}{d:Nat}{x y z:I3}
theorem mR{T K E:G9}{B:Nat}{O:Nat->Nat}{i r:Nat}{l:List (κ×ν)}(hm:ID kv vv O w i r l)(hT:P.underlying T=some (.map K E))(hR:IA B O w)(j:Nat)(hj:j≠0)(_:i≠0)(hx:ev st x=some (.map (some r)))(hd:GW d N=true) 
  (h:∀q w' O',RangeO kv vv O' w' i j r q l none->ID kv vv O' w' i r l->Gs (fun k=>k=j) O w O' w'->IA B O' w'->WL P N ops Q rest ((d,nP q)::st) w'):WL P N ops Q (⟨some d,.range T x,t,p,e,none⟩::rest) st w:=by
 obtain⟨es,c,h1,h2⟩:=hm.blk;have a1:=hm.born es c h1;have a0:=bm h1;have hU:=IW (S:=fun k=>k=j) (fun e=>hj e.symm) hR (.mapIter (some r) c #[] c) j;refine IH hd (fun a ha=>by simp only[execOp,ha.ev hx,G7,run_range_map w _ _ _ _ _ _ hT h1,G2,Gw]) (h w.heap.size _ (kW O w.heap.size j) ⟨⟨es,c,#[],c,?_,heap_alloc_new w _,G1 _,a1.1,a1.2,?_,fun p hp=>by cases hp⟩,?_,dr _ _ _⟩ ⟨⟨es,c,?_,h2⟩,?_,fun a2 c' h'=>hm.born a2 c' (by rw[heap_alloc_old w _ a0]at h';exact h')⟩ hU (hR.upd hU))
 ·rw[heap_alloc_old w _ a0];exact h1
 ·unfold leftOf;have e1:es.filter (fun e=>!(#[]:Array Nat).contains e.born)=es:=Array.filter_eq_self.2 (by simp);rw[e1];exact h2
 ·unfold kW;rw[if_neg zo];exact hm.tag
 ·rw[heap_alloc_old w _ a0];exact h1
 unfold kW;rw[if_neg zo];exact hm.tag
theorem oR{O:Nat->Nat}{i j r q:Nat}{a2:List (κ×ν)}{b5:Option (κ×ν)}(hm:RangeO kv vv O w i j r q a2 b5)(b3:j≠0)(b4:i≠j)(hx:ev st x=some (nP q))(hd:GW d N=true) 
  (h0:a2=[]->WL P N ops Q rest ((d,.tuple #[.bool false])::st) w)
  (h1:∀b0 a b a9 w',a2=b0++(a,b)::a9->RangeO kv vv O w' i j r q (b0++a9) (some (a,b))->Gs (fun k=>k=j) O w O w'->WL P N ops Q rest ((d,.tuple #[.bool true,kv a,vv b])::st) w'):WL P N ops Q (⟨some d,.next x false,t,p,e,none⟩::rest) st w:=by
 obtain⟨es,c,a0,c0,g1,g2,g3,g4,g5,g6,g7⟩:=hm.ex
 rcases Go.run_next_at (P:=P) w t q r c c0 a0 es c g2 g1 g5 g3 with⟨hs,a3⟩|⟨en,b1,w1,a6,a3⟩
 ·refine IH hd (fun a ha=>by simp only[execOp,ha.ev hx,G7,a3,G2,Gw]) (h0 ?_);have h3:=congrArg Kw g6;simp only[K4,Jt,hs]at h3;exact GE h3.symm
 obtain⟨b0,a9,a7⟩:=List.append_of_mem b1;obtain⟨a',⟨a,b⟩,a8,rfl,a5,a4⟩:=yT g6 a7;simp only[L6]at a5;have a1:∀(a:JZ),KX N a st->(execOp a.eval ⟨some d,.next x false,t,p,e,none⟩).run P w=.ok (.value (.tuple #[.bool true,en.key,en.val])) (setBlock w1 q (.mapIter (some r) c (a0.push en.born) c)):=fun a ha=>by
  simp only[execOp,ha.ev hx,G7,a3,G2,Gw]
 rw[a5.1,a5.2]at a1;have hw:w1.heap=w.heap:=by rcases a6 with rfl|rfl<;>rfl
 have b2:en∈es.toList:=by
  have:en∈(leftOf es a0):=by simpa using b1
  unfold leftOf at this;rw[Array.mem_filter]at this;simpa using this.1
 refine IH hd a1 (h1 a' a b a8 _ rfl ⟨⟨es,c,a0.push en.born,c,?_,dS (by rw[hw];exact g2),G1 _,g4,g5,?_,fun p hp=>?_⟩,hm.tag,hm.tagq⟩ ?_)
 ·simp only[setBlock,IX];rw[if_neg (fun e=>b4 (by rw[<-hm.tag,<-hm.tagq,e])),hw];exact g1
 ·rw[<-a4];unfold leftOf at a7 ⊢;rw[Array.toList_filter]at a7 ⊢;rw[<-tK g4 _ a7];congr 2;funext x;simp;rfl
 ·cases hp
  exact⟨en,a0,b2,rfl,rfl,a5.1,a5.2⟩
 have hU:=eo (w:=w1) (.mapIter (some r) c (a0.push en.born) c) hm.tagq b3;exact⟨by rw[hU.os];rcases a6 with rfl|rfl<;>rfl,by rw[hU.tape];rcases a6 with rfl|rfl<;>rfl,by rw[hU.output];rcases a6 with rfl|rfl<;>rfl,by have:=hU.size;rw[hw]at this;exact this,fun b hb hn=>by have:=hU.blk b (by rw[hw];exact hb) hn;rw[hw]at this;exact this,hU.tag,fun b hb=>.inl hb,hU.z⟩
theorem RV.entry{O:Nat->Nat}{i j r q:Nat}{a0:List (κ×ν)}{a:κ}{b:ν}(hm:RangeO kv vv O w i j r q a0 (some (a,b)))(hx:ev st x=some (nP q)):RV P N (.entry x) t st w (.tuple #[kv a,vv b]):=
 fun ac ha a2 p e g=>by
  obtain⟨es,c,a1,c0,g1,g2,g3,g4,g5,g6,g7⟩:=hm.ex;obtain⟨en,s0,e1,rfl,rfl,e2,e3⟩:=g7 _ rfl;simp only[execOp,ha.ev hx,G7,run_entry_at w q r c0 s0 es c0 en g2 g1 e1 g4,G2,Gw,e2,e3]
end
abbrev dC(p:Int×Int):G0:=.agg #[nI p.1,nI p.2]
theorem Ax{P:GI}{K I:G9}(hK:P.underlying K=some (.array 2 I))(hI:P.underlying I=some (.int .i64))(a3:(P.info? I).isSome=true)(hc:P.cellsOf I=1):KV P K dC:=by
 obtain⟨i,hi⟩:=Option.isSome_iff_exists.1 a3;have hA:∀w,(KY I).run P w=.ok false w:=fun w=>by simp[KY,run_underlying hI]
 have a0:∀(a b:Int) (w:ln),(part I #[nI a,nI b] 0).run P w=.ok (nI a) w/\(part I #[nI a,nI b] 1).run P w=.ok (nI b) w:=fun a b w=>by
  constructor<;>simp[part,hA]
 have a5:∀b n k (w:ln),(J3 b (n+1) I (nI k)).run P w=.ok () w:=fun b n k w=>by simp[J3,run_underlying hI]
 have a4:∀(a b:Int×Int) (w:ln),(KZ K (dC a) (dC b)).run P w=.ok (decide (a=b)) w:=fun a b w=>by
  have h1:∀d (x y:Int) (w:ln),(JS (d+1) I (nI x) (nI y)).run P w=.ok (x==y) w:=fun d x y w=>by simp[JS,run_underlying hI]
  obtain⟨a1,a2⟩:=a;obtain⟨b1,b2⟩:=b;have h2:∀(x y:Int) (w:ln),(JS 9999 I (nI x) (nI y)).run P w=.ok (x==y) w:=fun x y w=>h1 9998 x y w
  unfold KZ Op.maxDepth;rw[run_equalIn_array w 9999 _ _ hK hi,hc];simp only[show JC 2=[0,1]from rfl,Op.eqItems,G7,Jk,KD,(a0 a1 a2 w).1,(a0 b1 b2 w).1,h2,G2]
  by_cases e1:a1=b1
  ·by_cases e2:a2=b2
   ·subst e1;subst e2;simp[a0,h2]
   subst e1;simp[e2,a0,h2]
  simp[e1]
 refine⟨fun b n k w=>?_,fun k es ks w h=>?_,fun k=>?_⟩
 ·obtain⟨k1,k2⟩:=k;unfold J3;simp only[G7,run_underlying hK,G2];simp only[Kb,Ka,Ku,Nat.add_one_sub_one,Nat.div_one];simp[List.range',run_sizeOf w hi,hc,a0,a5]
 ·have key:∀(es:List GH) (ks:List (Int×Int)) (j:Nat) (w:ln),es.map (·.key)=ks.map dC->
    (IM K (dC k) es j).run P w=.ok ((ks.findIdx? (· = k)).bind fun i=>(es[i]?).map fun e=>(j+i,e.val)) w:=by
   intro es
   induction es with
   |nil=>intro ks j w h;cases ks with
    |nil=>simp[IM]
    |cons a r=>simp at h
   |cons e es ih=>
    intro ks j w h
    cases ks with
    |nil=>simp at h
    |cons a r=>
     simp only[Gy,IE]at h;simp only[IM,G7,h.1,a4,G2]
     by_cases hk:k=a
     ·subst hk;simp[JD]
     rw[decide_eq_false hk];simp only[Bool.false_eq_true,if_false];rw[ih r (j+1) w h.2];simp only[JD,decide_eq_true_eq];rw[if_neg (fun e=>hk e.symm)]
     cases hf:List.findIdx? (fun x=>decide (x=k)) r with
     |none=>simp
     |some i=>simp[Ko,Kv 1]
  have:=key es ks 0 w h;simp only[Kr]at this;unfold Instr.findKey;simp only[G7,run_underlying hK,G2]
  cases es with
  |nil=>
   cases ks with
   |nil=>simp[Ke]
   |cons a r=>simp at h
  |cons e es=>simpa[Ke,Instr.sameNow]using this
 simp[Instr.sameBits]
section
variable{κ ν:Type}[DecidableEq κ]{kv:κ→G0}{vv:ν→G0}
theorem ri(es:Array GH)(i:Nat)(f g h:GH->GH)(hf:∀x,g (f x)=h x):(es.modify i f).modify i g=es.modify i h:=by
 apply Jy;intro j;simp only[I8]
 by_cases hj:i=j
 ·simp only[if_pos hj];cases es[j]?<;>simp[hf]
 simp only[if_neg hj]
theorem te(es:Array GH)(a:GH)(f:GH->GH):(es.push a).modify es.size f=es.push (f a):=by
 apply Jy;intro j;simp only[I8,Array.getElem?_push]
 by_cases hj:j=es.size
 ·subst hj;simp
 rw[if_neg (fun e=>hj e.symm),if_neg hj,if_neg hj]
theorem kY{es:List GH}{j:Nat}{e:GH}(hn:(es.map (·.born)).Nodup)(he:es[j]? = some e):es.findIdx? (fun x=>(x.born:Int)==(e.born:Int))=some j:=by
 obtain⟨hj,rfl⟩:=GX.1 he;rw[I1];refine⟨hj,by simp,fun i hi=>?_⟩;have:=(List.pairwise_iff_getElem.1 hn) i j (by simp;omega) (by simpa using hj) hi;simp only[List.getElem_map]at this;simp;omega
theorem vD{P:GI}{T K E:G9}(hT:P.underlying T=some (.map K E))(hK:KV P K kv){O:Nat->Nat}{w:ln}{i r:Nat}{l:List (κ×ν)}(h:ID kv vv O w i r l)(a7:i≠0){z:G0}(hz:(J7 E).run P w=.ok z w)(k:κ)(x:ν):
  ∃(w1 w':ln) (v:G0) (b:Int),(J2 T (.map (some r)) (kv k)).run P w=.ok (.tuple #[v,nI b]) w1/\(Im T (.map (some r)) (nI b) (vv x)).run P w1=.ok () w'/\ID kv vv O w' i r (bZ l k x)/\Gs (fun j=>j=i) O w O w'/\Gs (fun j=>j=i) O w O w1:=by
 obtain⟨es,c,h1,h2⟩:=h.blk;have a9:=h.born es c h1;have hr:=bm h1;have b4:es.toList.map (·.key)=(l.map (·.1)).map kv:=by
  have:=congrArg (KO Kc) h2;simpa[Jn]using this
 have hf:=hK.find k es.toList (l.map (·.1)) w b4;rw[dG]at hf;have hc:=hK.check false 9998 k w;obtain⟨wm,a3,hm,hu⟩:=dp hT hK h a7 k x
 have a1:(JW T (.map (some r)) (kv k) (vv x)).run P w=((match ((iy l k).bind fun i=>(es.toList[i]?).map fun e=>(i,e.val))with
   |some (i,_)=>do
    let key <-If (((es[i]?).map (·.key)).getD (kv k)) (kv k)
    setObj r (.map (es.modify i fun e=>{ e with key,val:=vv x }) c)
   |none=>setObj r (.map (es.push { key:=kv k,val:=vv x,born:=c }) (c+1)):Sem Unit)).run P w:=by
  simp only[JW,G7,run_underlying hT,G2];simp only[getObj,IC,h1,G7,G2,hc,hf];generalize ((iy l k).bind fun i=>Jr (fun e=>(i,e.val)) es.toList[i]?)=q
  cases q with
  |none=>rfl
  |some p=>rfl
 have a0:(J2 T (.map (some r)) (kv k)).run P w=((match ((iy l k).bind fun i=>(es.toList[i]?).map fun e=>(i,e.val))with
   |some (i,v)=>do
    let key <-If (((es[i]?).map (·.key)).getD (kv k)) (kv k)
    setObj r (.map (es.modify i fun e=>{ e with key }) c)
    pure (.tuple #[v,goInt (((es[i]?).map (·.born)).getD 0)])
   |none=>do
    let zero <-J7 E
    setObj r (.map (es.push { key:=kv k,val:=zero,born:=c }) (c+1))
    pure (.tuple #[zero,goInt c]):Sem G0)).run P w:=by
  simp only[J2,G7,run_underlying hT,G2];simp only[getObj,IC,h1,G7,G2,hc,hf];generalize ((iy l k).bind fun i=>Jr (fun e=>(i,e.val)) es.toList[i]?)=q
  cases q with
  |none=>rfl
  |some p=>rfl
 have a2:∀(a':Array GH) (c':Nat) (w0:ln),(∃e0 k0,w0.heap[r]? = some (.map e0 k0))->(setObj r (.map a' c')).run P w0=.ok () (setBlock w0 r (.map a' c')):=fun a' c' w0 h0=>by
  obtain⟨e0,k0,hq⟩:=h0;simp[setObj,IC,hq,setBlock]
 have a6:∃e0 k0,w.heap[r]? = some (.map e0 k0):=⟨es,c,h1⟩
 have b0:∀(a:Array GH) (q:GH->Bool),a.findIdx? q=a.toList.findIdx? q:=fun a q=>by cases a;simp
 have a4:∀o o',setBlock (setBlock w r o) r o'=setBlock w r o':=fun o o'=>by simp[setBlock]
 cases hi:iy l k with
 |none=>
  rw[hi]at a1 a0;simp only[JB]at a1 a0;rw[a2 _ _ _ a6]at a1;simp only[G7,hz,G2,a2 _ _ _ a6,Gw]at a0;have he:wm=setBlock w r (.map (es.push { key:=kv k,val:=vv x,born:=c }) (c+1)):=by rw[a1]at a3;cases a3;rfl
  refine⟨_,wm,z,c,a0,?_,hm,hu,eo _ h.tag a7⟩;have a5:(setBlock w r (.map (es.push { key:=kv k,val:=z,born:=c }) (c+1))).heap[r]? = some (.map (es.push { key:=kv k,val:=z,born:=c }) (c+1)):=dS h1;have a8:(es.push { key:=kv k,val:=z,born:=c }).findIdx? (fun e=>(e.born:Int)==(c:Int))=some es.size:=by
   have b5:((es.push { key:=kv k,val:=z,born:=c }).toList.map (·.born)).Nodup:=by
    simp only[Array.toList_push,IY,Gy,I4];refine JL.2 ⟨a9.1,by simp,fun a ha b hb=>?_⟩;obtain⟨e,he,rfl⟩:=Ji.1 ha;have:=a9.2 e he;simp at hb;omega
   have:=kY (j:=es.size) (e:={ key:=kv k,val:=z,born:=c }) b5 (by simp);rw[b0,<-this]
  simp only[Im,getObj,IC,G7,a5,G2,asInt,asIntOf,Gw,a8];rw[te,he];have:=a2 (es.push { key:=kv k,val:=vv x,born:=c }) (c+1) (setBlock w r (.map (es.push { key:=kv k,val:=z,born:=c }) (c+1))) ⟨_,_,a5⟩;rw[a4]at this;exact this
 |some j=>
  obtain⟨y,hy⟩:=gM hi;have hj:es.toList[j]?.map (fun e=>(e.key,e.val))=some (kv k,vv y):=by
   have:=congrArg (fun l=>l[j]?) h2;simpa[hy]using this
  cases he:es.toList[j]? with
  |none=>rw[he]at hj;simp at hj
  |some e'=>
   rw[he]at hj;simp at hj;have b1:es[j]? = some e':=by simpa using he
   have b2:(If (kv k) (kv k))=pure (kv k):=by simp[If,hK.same k]
   rw[hi]at a1 a0;simp only[JA,he,IS,b1,hj.1,Option.getD_some,b2,G7,Gw,G2,a2 _ _ _ a6]at a1 a0;have hw:wm=setBlock w r (.map (es.modify j fun e=>{ e with key:=kv k,val:=vv x }) c):=by rw[a1]at a3;cases a3;rfl
   refine⟨_,wm,e'.val,e'.born,a0,?_,hm,hu,eo _ h.tag a7⟩;have a5:(setBlock w r (.map (es.modify j fun e=>{ e with key:=kv k }) c)).heap[r]? = some (.map (es.modify j fun e=>{ e with key:=kv k }) c):=dS h1;have b3:((es.modify j fun e=>{ e with key:=kv k }).toList.map (·.born))=es.toList.map (·.born):=by
    simp only[Array.toList_modify];apply List.ext_getElem?;intro m;simp only[List.getElem?_map,List.getElem?_modify]
    split
    ·cases es.toList[m]?<;>simp
    cases es.toList[m]?<;>simp
   have a8:(es.modify j fun e=>{ e with key:=kv k }).findIdx? (fun e=>(e.born:Int)==(e'.born:Int))=some j:=by
    have:=kY (es:=(es.modify j fun e=>{ e with key:=kv k }).toList) (j:=j) (e:={ e' with key:=kv k }) (by rw[b3];exact a9.1) (by
     have:(es.modify j fun e=>{ e with key:=kv k })[j]? = some { e' with key:=kv k }:=by
      rw[I8,if_pos rfl,b1];rfl
     rw[Array.getElem?_toList];exact this)
    rw[b0,<-this]
   simp only[Im,getObj,IC,G7,a5,G2,asInt,asIntOf,Gw,a8];rw[ri es j _ _ (fun e=>{ e with key:=kv k,val:=vv x }) (fun _=>rfl),hw];have:=a2 (es.modify j fun e=>{ e with key:=kv k,val:=vv x }) c (setBlock w r (.map (es.modify j fun e=>{ e with key:=kv k }) c)) ⟨_,_,a5⟩;rw[a4]at this;exact this
variable{P:GI}{N:Nat}{ops:Array Ik}{Q:J4→JZ→ln→Prop}{rest:List Ik}{st:St}{w:ln}
variable{t t' t2:G9}{p p' p2:String}{e e' e2:Array Jh}{d d':Nat}{x y z:I3}
end
def F6{κ ν:Type}[DecidableEq κ](P:GI)(kv:κ->G0)(vv:ν->G0)(T:G9)(O:Nat->Nat)(w w1:ln)(i r:Nat)(l:List (κ×ν))(k:κ)(u:ν)(b:Int):Prop:=
 ∃w',(Im T (.map (some r)) (nI b) (vv u)).run P w1=.ok () w'/\ID kv vv O w' i r (bZ l k u)/\Gs (fun j=>j=i) O w O w'
section
variable{κ ν:Type}[DecidableEq κ]{kv:κ→G0}{vv:ν→G0}
variable{P:GI}{N:Nat}{ops:Array Ik}{Q:J4→JZ→ln→Prop}{rest:List Ik}{st:St}{w:ln}
variable{t:G9}{p:String}{e:Array Jh}{d:Nat}{x y z:I3}
theorem lr{T K E:G9}{O:Nat->Nat}{i r:Nat}{l:List (κ×ν)}(hm:ID kv vv O w i r l)(hT:P.underlying T=some (.map K E))(hK:KV P K kv)(a0:i≠0){zv:G0}(hz:(J7 E).run P w=.ok zv w) 
  (k:κ) (u:ν) {kx:G0} (hx:ev st x=some (.map (some r))) (hy:ev st y=some kx) (hk:kx=kv k) (hd:GW d N=true)
  (h:∀w1 c b,F6 P kv vv T O w w1 i r l k u b->Gs (fun j=>j=i) O w O w1->WL P N ops Q rest ((d,.tuple #[c,nI b])::st) w1):WL P N ops Q (⟨some d,.mapEntry T x y,t,p,e,none⟩::rest) st w:=by
 subst hk;obtain⟨w1,w',v,b,h1,h2,h3,h4,h5⟩:=vD hT hK hm a0 hz k u;exact IH hd (fun a ha=>by simp only[execOp,ha.ev hx,ha.ev hy,G7,h1,G2,Gw]) (h w1 v b ⟨w',h2,h3,h4⟩ h5)
theorem iM{T:G9}{O:Nat->Nat}{i r:Nat}{l:List (κ×ν)}{w0:ln}{k:κ}{u:ν}{b:Int}(hE:F6 P kv vv T O w0 w i r l k u b){ux:G0}(hx:ev st x=some (.map (some r)))(hy:ev st y=some (nI b))(hz:ev st z=some ux)(hu:ux=vv u) 
  (h:∀w',ID kv vv O w' i r (bZ l k u)->Gs (fun j=>j=i) O w0 O w'->WL P N ops Q rest st w'):WL P N ops Q (⟨none,.entryStore T x y z,t,p,e,none⟩::rest) st w:=by
 subst hu;obtain⟨w',h2,h3,h4⟩:=hE;exact gO (fun a ha=>by simp only[execOp,ha.ev hx,ha.ev hy,ha.ev hz,G7,h2,G2,Gw]) (h w' h3 h4)
end
theorem pU{α:Type}{enc:α->List G0}{sz:Nat}:∀(l:List α),(∀x∈l,(enc x).length=sz)->∀(n:Nat) (hn:n<l.length) (j:Nat),j<sz->∀(x':α) (u:G0),enc x'=(enc l[n]).set j u->(l.flatMap enc).set (n*sz+j) u=(l.set n x').flatMap enc
 |a::l,hz,0,_,j,hj,x',u,hx=>by
  have ha:=hz a (by simp);simp only[JM,List.set_cons_zero,Jk,Kr];rw[List.set_append_left _ _ zo,hx];rfl
 |a::l,hz,n+1,hn,j,hj,x',u,hx=>by
  have ha:=hz a (by simp);simp only[JM,List.set_cons_succ];rw[List.set_append_right _ _ (by rw[ha,KE];omega),show(n+1)*sz+j-(enc a).length=n*sz+j from by rw[ha,KE];omega];rw[pU l (fun y hy=>hz y (by simp[hy])) n (by simpa using hn) j hj x' u (by simpa using hx)]
theorem RowT.putJ{α:Type}[Inhabited α]{enc:α->List G0}{sz:Nat}{O:Nat->Nat}{w:ln}{i:Nat}{E:G9}{v:G0}{l:List α}(h:Ia enc E sz O w i v l){n:Nat}(hn:n<l.length){j:Nat}(hj:j<sz)(x':α)(u:G0)(hx:enc x'=(enc (nth l n)).set j u):
  ∃g c,(adr v sz n).add j=⟨g,n*sz+j,none⟩/\w.cell? ⟨g,n*sz+j,none⟩=some c/\w.frozen? ⟨g,n*sz+j,none⟩=false/\Ia enc E sz O (w.setCell ⟨g,n*sz+j,none⟩ u) i v (l.set n x')/\O g=i:=by
 rw[aB hn]at hx;have a2:=h.2 l[n] (IU hn);have a5:(enc x').length=sz:=by rw[hx,GA,a2]
 have hs:=h.sl;have a3:∃c,(enc l[n])[j]? = some c:=⟨_,Je zo⟩
 obtain⟨c,a3⟩:=a3;have a0:=hs.cells n hn j c a3;obtain⟨⟨⟨hl,hr⟩,a1⟩,hz⟩:=h
 rcases hr with⟨rfl,h0⟩|⟨g,a4,a',rfl,a9,hg,a6,a8,a7,ht⟩
 ·omega
 have ha:(adr (.slice (some ⟨g,0,none⟩) l.length a4) sz n).add j=⟨g,n*sz+j,none⟩:=by simp only[adr,Ip];split<;>simp_all
 rw[ha]at a0;refine⟨g,c,ha,a0,by simp[K9,hg],⟨⟨⟨?_,.inr ⟨g,a4,a'.setIfInBounds (n*sz+j) u,by simp,a9,?_,by simpa using a6,a8,by simpa using a7,?_⟩⟩,by simpa using a1⟩,?_⟩,a1 g rfl⟩
 ·rw[<-pU l hz n hn j hj x' u hx];simp[hl]
 ·simp only[Gv,I8,if_pos];rw[hg];simp
 ·simp only[GA,Array.toList_setIfInBounds];rw[List.take_set,ht,pU l hz n hn j hj x' u hx]
 intro y hy
 rcases List.mem_or_eq_of_mem_set hy with hy|rfl
 ·exact hz y hy
 exact a5
theorem mQ{P:GI}{N:Nat}{ops:Array Ik}{Q:J4->JZ->ln->Prop}{a0:List Ik}{st:St}{w:ln}{t:G9}{p:String}{e:Array Jh}{x y:I3} 
  {T:G9} {α:Type} [Inhabited α] {enc:α->List G0} {sz:Nat} {O:Nat->Nat} {i:Nat} {E:G9} {v:G0} {l:List α} (hr:Ia enc E sz O w i v l) (n:Nat) (hn:n<l.length) (j:Nat) (hj:j<sz) (x':α) (hT:(JH T).run P w=.ok 1 w) {u:G0} (h1:u.oneCell'=true) (a4:i≠0)
  {q:Ki} (hx:ev st x=some (.pointer (some q))) (hq:q=(adr v sz n).add j) (hy:ev st y=some u) (a2:enc x'=(enc (nth l n)).set j u)
  (h:∀w',Ia enc E sz O w' i v (l.set n x')->Gs (fun k=>k=i) O w O w'->WL P N ops Q a0 st w'):WL P N ops Q (⟨none,.store T x y,t,p,e,none⟩::a0) st w:=by
 obtain⟨g,c,ha,hc,hf,a3,ht⟩:=hr.putJ hn hj x' u a2;rw[ha]at hq;subst hq;refine gO (w':=w.setCell ⟨g,n*sz+j,none⟩ u) (fun a a1=>?_) (h _ a3 ⟨rfl,rfl,rfl,by simp[Gv],fun k _ hk=>Kz _ _ _ _ (fun e=>hk (by rw[e];exact ht)),fun _ _=>rfl,fun _ h=>.inl h,fun h=>a4 h.symm⟩);simp only[execOp,a1.ev hx,a1.ev hy]
 cases u<;>simp[GD]at h1<;>simp[Ja,K7,storeVar,hT,Km,storeCells,store,IC,hc,hf,Ip]
theorem Fits.fresh{N:Nat}{a:JZ}{d:Nat}{v:G0}{st:St}(hn:(bV st d).isNone=true)(h:KX N a ((d,v)::st)):KX N a st:=by
 refine⟨h.size,h.defers,fun t u hu=>h.get t u ?_⟩;simp only[bV]
 cases hb:J6 d t with
 |true=>have:=Iz hb;subst this;rw[hu]at hn;cases hn
 |false=>exact hu
theorem Fits.swap{N:Nat}{a:JZ}{d d':Nat}{v v':G0}{st:St}(a0:J6 d d'=false)(h:KX N a ((d,v)::(d',v')::st)):KX N a ((d',v')::(d,v)::st):=by
 refine⟨h.size,h.defers,fun t u hu=>h.get t u ?_⟩;simp only[bV]at hu ⊢
 cases h1:J6 d t with
 |true=>
  have:=Iz h1;subst this;have h2:J6 d' d=false:=by
   cases h3:J6 d' d with
   |false=>rfl
   |true=>have:=Iz h3;subst this;rw[a0]at h1;cases h1
  rw[h1,h2]at hu;exact hu
 |false=>
  rw[h1]at hu;exact hu
theorem bS{P:GI}{N:Nat}{ops:Array Ik}{S:ln->Prop}{Q:J4->JZ->ln->Prop}{a1:Nat}{a0:Array Bool}{st:St}{w:ln} 
  {T E T1:G9} {sz a2:Nat} {α:Type} {enc:α->List G0} {x y:I3} {t t':G9} {p p':String} {e e':Array Jh} {d d':Nat} {v xv:G0}
  (i j:Nat) (he:Kh P T E sz a2) (u:α) (hi:ops[i]? = some ⟨some d,.load T1 x,t,p,e,none⟩) (hj:ops[j]? = some ⟨some d',.buildSlice T 1 #[(0,y)],t',p',e',none⟩)
  (hr:Jc .any ops a0=[i,j]) (a':Jc .any ops (a0.setIfInBounds i true)=[j]) (a9:Jc .any ops (a0.setIfInBounds j true)=[i])
  (a4:(a0.setIfInBounds j true).setIfInBounds i true=(a0.setIfInBounds i true).setIfInBounds j true)
  (hv:∀w',Ie w w'->RV P N (.load T1 x) t st w' v) (hS:∀w',Ie w w'->S w')
  (hy:ev st y=some xv) (a5:xv.cells.toList=enc u) (a6:(enc u).length=sz) (hs:sz<=16777216) (hd:GW d N=true) (a7:GW d' N=true) (b0:J6 d d'=false) (hf:(bV st d').isNone=true) (a8:ev ((d,v)::st) y=some xv)
  (h:∀sv w',Sl enc sz w' sv [u]->Ie w w'->WH P N ops S Q a1 ((a0.setIfInBounds i true).setIfInBounds j true) ((d',sv)::(d,v)::st) w'):WH P N ops S Q (a1+2) a0 st w:=by
 refine bL i j hr hi hj ?_ ?_
 ·refine lq (hv w (GC w)) hd (JP (af (hS w (GC w)) (GL j a' hj ?_)));refine bH he u a8 a5 a6 hs a7 fun sv w' a3 hE=>JP (af (hS w' hE) (h sv w' a3 hE))
 refine bH he u hy a5 a6 hs a7 fun sv w' a3 hE=>JP (af (hS w' hE) (GL i a9 hi ?_))
 refine lq (fun a ha=>hv w' hE a (ha.fresh hf)) hd (JP (af (hS w' hE) ?_));rw[a4];exact fun a ha=>h sv w' a3 hE a (ha.swap b0)
theorem bd{P:GI}{N:Nat}{st:St}{w:ln}{t:G9}{x:I3}{T E:G9}{m:Nat}{v:G0}(hs:Shape v m)(hu:P.underlying T=some (.slice E))(hx:ev st x=some v):RV P N (.call ⟨.builtin .len,#[x],#[T]⟩) t st w (nI (m:Int)):=
 fun a ha a0 p e g=>by
  obtain⟨ad,c,hv,_⟩:=hs;simp only[execOp,resolve,GU,Gy,I4,ha.ev hx];subst hv;simp[invoke,Go.builtin,L9,run_underlying hu,goInt]
theorem lW{P:GI}{w:ln}{T ty E:G9}{sz a0:Nat}(he:Kh P T E sz a0){O:Nat->Nat}{i n:Nat}{v:G0}{xs:List G0}(a1:RowO O w i E sz v n xs)(a:Option Ki)(c:Nat):
  (IP #[T,T] ty #[v,.slice a 0 c]).run P w=.ok v w:=by
 obtain⟨a4,z,hi,hz,a6,a9,a5⟩:=he.parts;have ht:=he.ht
 rcases a1.row.2 with⟨rfl,rfl⟩|⟨g,b0,a',rfl,hbg,hg,a3,a8,a7,a2⟩
 ·cases a<;>simp[IP,run_underlying ht,JH,typeInfo,hi,JY,Jp,loadCells,loadCellsFrom]
 cases a<;>simp[IP,run_underlying ht,JH,typeInfo,hi,JY,Jp,loadCells,loadCellsFrom,a3,storeCells]
theorem cx{P:GI}{N:Nat}{ops:Array Ik}{Q:J4->JZ->ln->Prop}{a1:List Ik}{st:St}{w:ln}{t:G9}{p:String}{e:Array Jh}{d:Nat}{x y:I3} 
  {T E:G9} {sz a0:Nat} (he:Kh P T E sz a0) {α:Type} {enc:α->List G0} {B:Nat} {O:Nat->Nat} {i:Nat} {v sv:G0} {l us:List α} (hr:Ia enc E sz O w i v l) (r:IA B O w) (hs:Sl enc sz w sv us)
  (hx:ev st x=some v) (hy:ev st y=some sv) (a4:∀u∈us,(enc u).length=sz) (a5:∀u∈us,∀c∈enc u,c.oneCell'=true)
  (hb:(l.length+us.length)*a0<=140737488355328) (a6:l.length+us.length<=9223372036854775807) (a3:i≠0) (hd:GW d N=true)
  (h:∀v' w' O',Ia enc E sz O' w' i v' (l++us)->Gs (fun k=>k=i) O w O' w'->IA B O' w'->WL P N ops Q a1 ((d,v')::st) w') :
  WL P N ops Q (⟨some d,.call ⟨.builtin .append,#[x,y],#[T,T]⟩,t,p,e,none⟩::a1) st w:=by
 by_cases a2:us.length=0
 ·obtain rfl:=GE a2;obtain⟨a,c,rfl,_⟩:=hs.shape;refine IH (v:=v) (w':=w) hd (fun ac ha=>?_) (h v w O (by rw[K6];exact hr) (Ib (fun e=>a3 e.symm) _ _) r);simp only[execOp,resolve,invoke,builtin,G7,Gw,G2,GU,Gy,I4,ha.ev hx,ha.ev hy,K2,lW he hr.1]
 exact aC he hr r hs a2 hx hy a4 a5 hb a6 a3 hd h
theorem MapO.fgt{κ ν:Type}{kv:κ->G0}{vv:ν->G0}{O O2:Nat->Nat}{w:ln}{i i' r:Nat}{l:List (κ×ν)}(h:ID kv vv O2 w i r l)(ho:O r=i'):ID kv vv O w i' r l:=⟨h.blk,ho,h.born⟩
theorem aV{κ ν:Type}(kv:κ->G0)(vv:ν->G0){P:GI}{N:Nat}{ops:Array Ik}{Q:J4->JZ->ln->Prop}{a0:List Ik}{st:St}{w:ln}{t:G9}{p:String}{e:Array Jh}{d:Nat}{T:G9} 
  {B:Nat} {O:Nat->Nat} (r:IA B O w) (i:Nat) (a1:i≠0) (hd:GW d N=true)
  (h:∀q w' O',ID kv vv O' w' i q []->Gs (fun k=>k=i) O w O' w'->IA B O' w'->WL P N ops Q a0 ((d,.map (some q))::st) w'):WL P N ops Q (⟨some d,.makeMap T none,t,p,e,none⟩::a0) st w:=by
 have hU:=IW (S:=fun k=>k=i) (fun e=>a1 e.symm) r (.map #[] 0) i;exact WL.makeMap hd (h w.heap.size _ (kW O w.heap.size i) (MapO.new O w i) hU (r.upd hU))
theorem vo{α:Type}{val:α->G0}{O:Nat->Nat}{i g a1:Nat}{E:G9}(z:α)(a0:i≠0):∀(k n:Nat) (l:List α) (w:ln) (m:Nat),Ia (fun x=>[val x]) E 1 O w i (.slice (some ⟨g,0,none⟩) m a1) l->n+k=l.length->
  Ia (fun x=>[val x]) E 1 O (w.setCells g n (Ig k (val z))) i (.slice (some ⟨g,0,none⟩) m a1) (l.take n++Ig k z)/\Gs (fun j=>j=i) O w O (w.setCells g n (Ig k (val z)))
 |0,n,l,w,m,h,hn=>by
  simp only[List.replicate_zero,K6,K0];rw[List.take_of_length_le zo];exact⟨h,Ib (fun e=>a0 e.symm) _ _⟩
 |k+1,n,l,w,m,h,hn=>by
  have ha:adr (.slice (some ⟨g,0,none⟩) m a1) 1 n=⟨g,n,none⟩:=by simp[adr]
  obtain⟨hc,hf,hr,ht⟩:=h.put (n:=n) zo z;rw[ha]at hr ht;simp only[List.replicate_succ,K0];obtain⟨h1,h2⟩:=vo z a0 k (n+1) (l.set n z) (w.setCell ⟨g,n,none⟩ (val z)) m hr (by simp;omega);have e:(l.set n z).take (n+1)++Ig k z=l.take n++z::Ig k z:=by
   have hl:n<(l.set n z).length:=by simp;omega
   rw[List.take_succ_eq_append_getElem hl,List.getElem_set_self,List.take_set_of_le (G1 n)];simp
  rw[e]at h1;have u1:Gs (fun j=>j=i) O w O (w.setCell ⟨g,n,none⟩ (val z)):=GF (fun e=>a0 e.symm) ht rfl;exact⟨h1,u1.trans h2⟩
theorem RowT.short{α:Type}{val:α->G0}{O:Nat->Nat}{w:ln}{i:Nat}{E:G9}{v:G0}{l:List α}(h:Ia (fun x=>[val x]) E 1 O w i v l){n:Nat}(hn:n<=l.length):Ia (fun x=>[val x]) E 1 O w i (cf v 1 0 n) (l.take n):=by
 have a3:∀l:List α,(l.flatMap fun x=>[val x])=l.map val:=fun l=>by induction l<;>simp_all
 obtain⟨⟨⟨hl,hr⟩,a1⟩,hz⟩:=h
 rcases hr with⟨rfl,h0⟩|⟨g,a2,a8,rfl,a7,hg,a9,a6,a5,ht⟩
 ·obtain rfl:l=[]:=GE h0;obtain rfl:n=0:=by simpa using hn
  exact J5 _ _ _ _ _ _
 have e:cf (.slice (some ⟨g,0,none⟩) l.length a2) 1 0 n=.slice (some ⟨g,0,none⟩) n a2:=by
  simp only[cf,Jk,Ku]
  split<;>simp[Ip]
 have a0:(l.take n).length=n:=by simp;omega
 rw[e];refine⟨⟨⟨?_,.inr ⟨g,a2,a8,by rw[a0],a7,hg,by rw[a0];omega,a6,a5,?_⟩⟩,fun g' a4=>a1 g' a4⟩,fun x _=>rfl⟩
 ·rw[a3];simp
 rw[a3]at ht ⊢;rw[a0];have:=congrArg (KH n) ht;rw[Kd,<-Jd]at this;simpa[Nat.min_eq_left hn]using this
theorem so{P:GI}{N:Nat}{ops:Array Ik}{Q:J4->JZ->ln->Prop}{a5:List Ik}{st:St}{w:ln}{t:G9}{p:String}{e:Array Jh}{x:I3} 
  {T E:G9} {α:Type} {val:α->G0} {O:Nat->Nat} {i:Nat} {v:G0} {l:List α} (hr:Ia (fun x=>[val x]) E 1 O w i v l) (n:Nat) (hn:n<=l.length) (z:α) (a8:i≠0) (hT:P.underlying T=some (.slice E)) (hz:∀w,(J7 E).run P w=.ok (val z) w) (a9:(val z).cells = #[val z]) (h1:(val z).oneCell'=true)
  {sv:G0} (hx:ev st x=some sv) (b0:sv=cf v 1 n l.length)
  (h:∀w' l',Ia (fun x=>[val x]) E 1 O w' i v l'->l'.take n=l.take n->l'.length=l.length->Gs (fun j=>j=i) O w O w'->WL P N ops Q a5 st w'):WL P N ops Q (⟨none,.call ⟨.builtin .clear,#[x],#[T]⟩,t,p,e,none⟩::a5) st w:=by
 subst b0;have a7:=hr;have a0:∃w' l',(JN #[T] t #[cf v 1 n l.length]).run P w=.ok (.tuple #[]) w'/\Ia (fun x=>[val x]) E 1 O w' i v l'/\l'.take n=l.take n/\l'.length=l.length/\Gs (fun j=>j=i) O w O w':=by
  by_cases he:n=l.length
  ·subst he;obtain⟨a,c,rfl,_⟩:=hr.sl.shape;refine⟨w,l,?_,hr,rfl,rfl,Ib (fun e=>a8 e.symm) _ _⟩;simp only[cf,IK];generalize (if c=l.length then a else a.map fun x=>x.add (l.length*1))=q
   cases q<;>simp[JN,run_underlying hT]
  obtain⟨⟨⟨hl,b1⟩,a'⟩,b3⟩:=hr
  rcases b1 with⟨rfl,h0⟩|⟨g,a6,b8,rfl,b7,hg,b4,b6,b5,ht⟩
  ·omega
  obtain⟨k,hk⟩:∃k,n+k=l.length:=⟨l.length-n,zo⟩
  obtain⟨c1,c2⟩:=vo z a8 k n l w l.length a7 hk;refine⟨_,_,?_,c1,?_,by simp;omega,c2⟩
  ·have es:cf (.slice (some ⟨g,0,none⟩) l.length a6) 1 n l.length=.slice (some ⟨g,n,none⟩) k (a6-n):=by
    simp only[cf];rw[if_neg zo,show l.length-n=k from by omega];simp only[IS,Ip,Nat.mul_one]
    split
    ·rename_i h;simp[h]
    simp
   rw[es];refine Lib.run_clear_slice w T E t (val z) hT hz a9 h1 g n k (a6-n) zo (fun j hj=>?_) (fun j hj=>by simp[K9,hg]);have:=a7.sl.cells (n+j) zo 0 (val l[n+j]) rfl;rw[az]at this;have ha:adr (.slice (some ⟨g,0,none⟩) l.length a6) 1 (n+j)=⟨g,n+j,none⟩:=by simp[adr]
   rw[ha]at this;rw[this];rfl
  rw[List.take_append_of_le_length (by simp;omega),Kd,Nat.min_self]
 obtain⟨w',l',a0,a1,a2,a3,a4⟩:=a0;refine L4 rfl fun a ha=>?_
 unfold KU;have b2:(execOp a.eval ⟨none,.call ⟨.builtin .clear,#[x],#[T]⟩,t,p,e,none⟩).run P w=.ok (.value (.tuple #[])) w':=by
  simp only[execOp,resolve,invoke,builtin,G7,Gw,G2,GU,Gy,I4,ha.ev hx,a0]
 rw[b2];exact h w' l' a1 a2 a3 a4 _ ha
end
end Go.VL
section
namespace Go.VL
theorem Upd.priv{j T:Nat}{O O':Nat->Nat}{w w':ln}(h:Gs (fun k=>k=j\/T<=k) O w O' w')(hT:∀b,O b<T)(hj:j≠0):Gs (fun k=>k=j) O w O w':=
 h.fgt (fun b hb=>hb.resolve_right (by have:=hT b;omega)) (fun e=>hj e.symm)
theorem Upd.pj{j T:Nat}{O O':Nat->Nat}{w w':ln}(h:Gs (fun k=>k=j) O w O' w')(hT:0<T):Gs (fun k=>k=j\/T<=k) O w O' w':=
 h.mono (fun _ h=>.inl h) (fun e=>by rcases e with e|e;exact h.z e;omega)
theorem Upd.pT{j T U:Nat}{O O':Nat->Nat}{w w':ln}(h:Gs (fun k=>k=U) O w O' w')(hj:j≠0)(hT:0<T)(hU:T<=U):Gs (fun k=>k=j\/T<=k) O w O' w':=
 h.mono (fun _ h=>.inr (by rw[h];exact hU)) (fun e=>by rcases e with e|e;exact hj e.symm;omega)
theorem iN{j T:Nat}{w w':ln}(O:Nat->Nat)(h:Ie w w')(hj:j≠0)(hT:0<T):Gs (fun k=>k=j\/T<=k) O w O w':=
 aa (fun e=>by rcases e with e|e;exact hj e.symm;omega) O h
def rdr(kv:G0)(l:List UInt8)(a op bad e:Int):Array G0:=#[.string (bs l),nI a,kv,nI op,nI bad,nI e]
variable{kv:G0}
theorem BlkO.rAt{O:Nat->Nat}{w:ln}{j rb:Nat}{l:List UInt8}{a op bad e:Int}{E:G9}(h:GQ O w j rb (rdr kv l a op bad e) E)(a':Int):GQ O (w.setCell ⟨rb,1,none⟩ (nI a')) j rb (rdr kv l a' op bad e) E:=h.set 1 _
theorem BlkO.rOp{O:Nat->Nat}{w:ln}{j rb:Nat}{l:List UInt8}{a op bad e:Int}{E:G9}(h:GQ O w j rb (rdr kv l a op bad e) E)(a':Int):GQ O (w.setCell ⟨rb,3,none⟩ (nI a')) j rb (rdr kv l a a' bad e) E:=h.set 3 _
theorem BlkO.rBad{O:Nat->Nat}{w:ln}{j rb:Nat}{l:List UInt8}{a op bad e:Int}{E:G9}(h:GQ O w j rb (rdr kv l a op bad e) E)(a':Int):GQ O (w.setCell ⟨rb,4,none⟩ (nI a')) j rb (rdr kv l a op a' e) E:=h.set 4 _
theorem BlkO.rE{O:Nat->Nat}{w:ln}{j rb:Nat}{l:List UInt8}{a op bad e:Int}{E:G9}(h:GQ O w j rb (rdr kv l a op bad e) E)(a':Int):GQ O (w.setCell ⟨rb,5,none⟩ (nI a')) j rb (rdr kv l a op bad a') E:=h.set 5 _
theorem BlkO.r0{O:Nat->Nat}{w:ln}{j rb:Nat}{l:List UInt8}{a op bad e:Int}{E:G9}(h:GQ O w j rb (rdr kv l a op bad e) E):w.cell? ⟨rb,0,none⟩=some (.string (bs l)):=h.cell 0 rfl
theorem BlkO.r1{O:Nat->Nat}{w:ln}{j rb:Nat}{l:List UInt8}{a op bad e:Int}{E:G9}(h:GQ O w j rb (rdr kv l a op bad e) E):w.cell? ⟨rb,1,none⟩=some (nI a):=h.cell 1 rfl
theorem BlkO.r2{O:Nat->Nat}{w:ln}{j rb:Nat}{l:List UInt8}{a op bad e:Int}{E:G9}(h:GQ O w j rb (rdr kv l a op bad e) E):w.cell? ⟨rb,2,none⟩=some kv:=h.cell 2 rfl
theorem BlkO.r3{O:Nat->Nat}{w:ln}{j rb:Nat}{l:List UInt8}{a op bad e:Int}{E:G9}(h:GQ O w j rb (rdr kv l a op bad e) E):w.cell? ⟨rb,3,none⟩=some (nI op):=h.cell 3 rfl
theorem BlkO.r4{O:Nat->Nat}{w:ln}{j rb:Nat}{l:List UInt8}{a op bad e:Int}{E:G9}(h:GQ O w j rb (rdr kv l a op bad e) E):w.cell? ⟨rb,4,none⟩=some (nI bad):=h.cell 4 rfl
theorem BlkO.r5{O:Nat->Nat}{w:ln}{j rb:Nat}{l:List UInt8}{a op bad e:Int}{E:G9}(h:GQ O w j rb (rdr kv l a op bad e) E):w.cell? ⟨rb,5,none⟩=some (nI e):=h.cell 5 rfl
end Go.VL
namespace Go.Proofs.YtpfpmhhigheccaaGreatDoor
open Go.VL Go.Proofs
set_option maxRecDepth 10000
abbrev Rdr(kv:G0)(O:Nat->Nat)(w:ln)(j rb:Nat)(l:List UInt8)(a op bad e:Int):Prop:=GQ O w j rb (rdr kv l a op bad e) 237
variable{kv:G0}
theorem lQ{l r:List UInt8}{b:UInt8}(h:(b::r) <:+ l):l[l.length-(r.length+1)]? = some b:=by
 obtain⟨p,rfl⟩:=h;rw[List.getElem?_append_right (by simp)];simp
theorem yd{l a b:List UInt8}(h:(a++b) <:+ l):(l.take (l.length-b.length)).drop (l.length-(a++b).length)=a:=by
 obtain⟨p,rfl⟩:=h;rw[<-List.append_assoc,List.take_left' (by simp;omega),List.drop_left' (by simp)]
theorem mM(b:UInt8)(k:Nat)(hk:k<256):((b.toNat:Int)==(k:Int))=decide (b=IQ k):=by
 by_cases h:b=IQ k
 ·subst h;simp;omega
 have:b.toNat≠k:=fun e=>h (by rw[<-e];simp)
 simp[h];omega
theorem ik(c:UInt8)(w:ln):IB GG 202 [.int .u8 (c.toNat:Int)] w fun v w'=>v=.bool (ai c)/\w'=w:=by
 refine G8 func202 ntmps202 rfl rfl ?_;refine zh ?_
 by_cases h1:65<=c.toNat
 ·refine ao (d:=5) rfl (b':=true) (decide_eq_true zo) ?_;refine zh ?_
  by_cases h2:c.toNat<=90
  ·refine ao (d:=9) rfl (b':=true) (decide_eq_true zo) ?_;refine zh ?_
   refine ae rfl rfl (⟨by simp[ai,h1,h2],rfl⟩)
  refine ao (d:=9) rfl (b':=false) (decide_eq_false zo) ?_;refine zh ?_
  by_cases h3:97<=c.toNat
  ·refine ao (d:=12) rfl (b':=true) (decide_eq_true zo) ?_;refine zh ?_
   have e:decide ((c.toNat:Int)<=122)=decide (c.toNat<=122):=decide_eq_decide.2 zo;refine ae rfl rfl (⟨by rw[e];simp[ai,h1,h2,h3],rfl⟩)
  refine ao (d:=12) rfl (b':=false) (decide_eq_false zo) ?_;refine zh ?_
  refine ae rfl rfl (⟨by simp[ai,h1,h2,h3],rfl⟩)
 refine ao (d:=5) rfl (b':=false) (decide_eq_false zo) ?_;refine zh ?_
 refine ao (d:=12) rfl (b':=false) (decide_eq_false zo) ?_;refine zh ?_
 have h3:¬97<=c.toNat:=zo;refine ae rfl rfl (⟨by simp[ai,h1,h3],rfl⟩)
theorem xo(O:Nat->Nat)(w:ln)(j rb:Nat)(l r:List UInt8)(op bad e:Int)(hj:j≠0)(hr:r <:+ l)(hl:l.length<=100000)(h:Rdr kv O w j rb l ((l.length:Int)-(r.length:Int)) op bad e):
  IB GG 168 [nP rb] w fun _ w'=>Rdr kv O w' j rb l ((l.length:Int)-((ak r).length:Int)) op bad e/\Gs (fun k=>k=j) O w O w':=by
 have hz:¬(fun k:Nat=>k=j) 0:=fun e=>hj e.symm
 refine G8 func168 ntmps168 rfl rfl ?_;refine zh ?_
 refine zlp (fun x:List UInt8×ln=>[(0,nP rb)]) (fun x=>x.2) (fun x=>x.1 <:+ l/\ak x.1=ak r/\Rdr kv O x.2 j rb l ((l.length:Int)-(x.1.length:Int)) op bad e/\Gs (fun k=>k=j) O w O x.2) (fun x=>x.1.length) (r,w) (⟨hr,rfl,h,Ib hz _ _⟩) ?_;rintro⟨r1,w1⟩ ⟨a2,a1,a4,a3⟩;dsimp only at a2 a1 a4 a3 ⊢;have a0:=a4.drew;have a6:=a2.length_le;refine zh ?_
 refine Is zk zk ?_;refine zh ?_
 refine zwH (RV.ld a0.r1 rfl) ?_;refine zw (RV.ld a0.r0 rfl) ?_
 refine zwH (bQ GK rfl) ?_
 cases r1 with
 |nil=>
  refine cd (d:=12) rfl (b':=false) (decide_eq_false (by simp)) ?_;refine zh ?_
  refine zw (bF rfl rfl) ?_;refine Io ?_
  refine zh ?_;refine zFH rfl rfl ?_
  refine aE rfl (⟨by rw[<-a1];exact a0,a3.drew⟩)
 |cons b r2=>
  simp only[GP]at a6 a0;refine cd (d:=12) rfl (b':=true) (decide_eq_true (by simp only[GP];omega)) ?_;refine zh ?_;refine zwH (RV.ld a0.r0 rfl) ?_;refine zwH (RV.ld a0.r1 rfl) ?_;refine zwH (aY (c:=b) GK rfl rfl (l.length-(r2.length+1)) zo (lQ a2)) ?_;refine zw (bT rfl rfl) ?_;refine Io ?_;refine zh ?_;refine zC ?_ ?_
  ·intro hb;replace hb:b=32:=by rw[show(32:Int)=((32:Nat):Int)from rfl,mM b 32 zd]at hb;simpa using hb
   subst hb;refine zh ?_;refine zvH (RV.ld a0.r1 rfl) ?_;refine aj (j:=1) a0 rfl (I2 _) rfl rfl rfl rfl ?_;rw[show((l.length:Int)-((r2.length+1:Nat):Int))+1=(l.length:Int)-(r2.length:Int)from by omega];have a7:=a0.rAt ((l.length:Int)-(r2.length:Int));have a8:Gs (fun k=>k=j) O w1.drew O (w1.drew.setCell ⟨rb,1,none⟩ (nI ((l.length:Int)-(r2.length:Int)))):=GF hz a0.tag rfl;refine zh ?_;refine zx (r2,w1.drew.setCell ⟨rb,1,none⟩ (nI ((l.length:Int)-(r2.length:Int)))) (⟨(JU _ _).trans a2,by rw[<-a1];simp[ak],a7,a3.drew.trans a8⟩) (by dsimp only;simp)
  intro hb;replace hb:b≠32:=by rw[show(32:Int)=((32:Nat):Int)from rfl,mM b 32 zd]at hb;simpa using hb
  have a5:ak (b::r2)=b::r2:=by simp[ak,hb]
  refine zh ?_;refine aE rfl (⟨by rw[<-a1,a5];exact a0,a3.drew⟩)
theorem uR{l r:List UInt8}(hr:r <:+ l)(h:r≠[]):l[l.length-r.length]? = some (r.headD 0):=by
 cases r with
 |nil=>exact absurd rfl h
 |cons b r=>exact lQ hr
theorem fp(O:Nat → Nat)(w:ln)(j rb:Nat)(l r:List UInt8)(op bad e:Int)(hj:j ≠ 0)(hr:r <:+ l)(hl:l.length ≤ 100000)(h:Rdr kv O w j rb l ((l.length:Int) - (r.length:Int)) op bad e):
    IB GG 153 [.pointer (some ⟨rb, 0, none⟩)] w fun v w' => v = .int .u8 (((ak r).headD 0).toNat:Int) ∧ Rdr kv O w' j rb l ((l.length:Int) - ((ak r).length:Int)) op bad e ∧ Gs (fun k => k = j) O w O w' := by
  refine G8 func153 ntmps153 rfl rfl ?_
  refine zh ?_
  refine zc call168 (xo O w j rb l r op bad e hj hr hl h) ?_
  rintro v w1 ⟨hb1, hU1⟩
  have hs := (aT r).trans hr
  have hsl := hs.length_le
  generalize ak r = q at *
  have hb2 := hb1.drew
  refine zh ?_
  refine Is (by kernel_rfl) (by kernel_rfl) ?_
  refine zh ?_
  refine zwH (RV.ld hb2.r1 rfl) ?_
  refine zw (RV.ld hb2.r0 rfl) ?_
  refine zwH (bQ GK rfl) ?_
  refine Io ?_
  refine zh ?_
  refine zC ?_ ?_
  · intro he
    replace he : q = [] := List.eq_nil_of_length_eq_zero (by have : (l.length : Int) - (q.length : Int) = l.length := by simpa using he
                                                             omega)
    subst he
    refine zh ?_
    refine ae rfl rfl (⟨rfl, hb2, hU1.drew⟩)
  · intro he
    replace he:q ≠ [] := fun e => by subst e; simp at he
    have hb3 := hb2.drew
    refine zh ?_
    refine Is (by kernel_rfl) (by kernel_rfl) ?_
    refine zh ?_
    refine zwH (RV.ld hb3.r0 rfl) ?_
    refine zw (RV.ld hb3.r1 rfl) ?_
    refine zwH (aY (c := q.headD 0) GK rfl rfl (l.length - q.length) (by omega) (uR hs he)) ?_
    refine Io ?_
    refine zh ?_
    refine ae rfl rfl (⟨rfl, hb3, hU1.drew.drew⟩)
theorem uJ(O:Nat->Nat)(w:ln)(j rb:Nat)(l r:List UInt8)(op bad e:Int)(hj:j≠0)(hr:r <:+ l)(hl:l.length<=100000)(h:Rdr kv O w j rb l ((l.length:Int)-(r.length:Int)) op bad e):
  IB GG 209 [nP rb] w fun v w'=>v=.string (bs (r.takeWhile ai))/\Rdr kv O w' j rb l ((l.length:Int)-((r.dropWhile ai).length:Int)) op bad e/\Gs (fun k=>k=j) O w O w':=by
 have hz:¬(fun k:Nat=>k=j) 0:=fun e=>hj e.symm
 refine G8 func209 ntmps209 rfl rfl ?_;refine zh ?_
 refine zvH (RV.ld h.r1 rfl) ?_;refine zlp (fun x:List UInt8×ln=>[(0,nP rb),(3,nI ((l.length:Int)-(r.length:Int)))]) (fun x=>x.2) (fun x=>x.1 <:+ l/\x.1.dropWhile ai=r.dropWhile ai/\Rdr kv O x.2 j rb l ((l.length:Int)-(x.1.length:Int)) op bad e/\Gs (fun k=>k=j) O w O x.2) (fun x=>x.1.length) (r,w) (⟨hr,rfl,h,Ib hz _ _⟩) ?_
 rintro⟨r1,w1⟩ ⟨a4,a3,a6,a5⟩;dsimp only at a4 a3 a6 a5 ⊢;have a0:=a6.drew;have a9:=a4.length_le;have a8:=hr.length_le;have a2:r1=r.dropWhile ai->(l.take (l.length-r1.length)).drop (l.length-r.length)=r.takeWhile ai:=fun e=>by
  have:=yd (l:=l) (a:=r.takeWhile ai) (b:=r.dropWhile ai) (by rw[IL];exact hr);rw[IL,<-e]at this;exact this
 have a':r1.length<=r.length\/r1≠r.dropWhile ai:=by
  by_cases e:r1=r.dropWhile ai
  ·left;rw[e];exact(Jm _).length_le
  right;exact e
 refine zh ?_;refine Is zk zk ?_
 refine zh ?_;refine zwH (RV.ld a0.r1 rfl) ?_
 refine zw (RV.ld a0.r0 rfl) ?_;refine zwH (bQ GK rfl) ?_
 cases r1 with
 |nil=>
  have a1:=a0.drew;have hd:[]=r.dropWhile ai:=by rw[<-a3];rfl
  have h1:=a2 hd;refine cd (d:=18) rfl (b':=false) (decide_eq_false (by simp)) ?_;refine zh ?_;refine zw (bF rfl rfl) ?_;refine Io ?_;refine zh ?_;refine zFH rfl rfl ?_;refine Is zk zk ?_;refine zh ?_;refine zwH (RV.ld a1.r0 rfl) ?_;refine zw (RV.ld a1.r1 rfl) ?_;refine zwH (cJ GK rfl rfl rfl (l.length-r.length) (l.length-0) zo (by simp) zo zo) ?_;refine Io ?_;refine zh ?_;simp only[K2]at h1;refine ae rfl rfl (⟨by rw[h1],by rw[<-hd];exact a1,a5.drew.drew⟩)
 |cons b r2=>
  simp only[GP]at a9 a0;refine cd (d:=18) rfl (b':=true) (decide_eq_true (by simp only[GP];omega)) ?_;refine zh ?_;refine zwH (RV.ld a0.r0 rfl) ?_;refine zwH (RV.ld a0.r1 rfl) ?_;refine zwH (aY (c:=b) GK rfl rfl (l.length-(r2.length+1)) zo (lQ a4)) ?_;refine WS.call Kj rfl (ik b w1.drew) rfl ?_;refine zw (bT rfl rfl) ?_;refine Io ?_;refine zh ?_;refine zC ?_ ?_
  ·intro hb;replace hb:ai b=true:=hb;refine zh ?_;refine zvH (RV.ld a0.r1 rfl) ?_;refine aj (j:=1) a0 rfl (I2 _) rfl rfl rfl rfl ?_;rw[show((l.length:Int)-((r2.length+1:Nat):Int))+1=(l.length:Int)-(r2.length:Int)from by omega];have a1:=a0.rAt ((l.length:Int)-(r2.length:Int));have b0:Gs (fun k=>k=j) O w1.drew O (w1.drew.setCell ⟨rb,1,none⟩ (nI ((l.length:Int)-(r2.length:Int)))):=GF hz a0.tag rfl;refine zh ?_;refine zx (r2,w1.drew.setCell ⟨rb,1,none⟩ (nI ((l.length:Int)-(r2.length:Int)))) (⟨(JU _ _).trans a4,by rw[<-a3,List.dropWhile_cons_of_pos hb],a1,a5.drew.trans b0⟩) (by dsimp only;simp)
  intro hb;replace hb:ai b=false:=hb;have a7:(b::r2).dropWhile ai=b::r2:=List.dropWhile_cons_of_neg (by rw[hb];decide);have hd:b::r2=r.dropWhile ai:=by rw[<-a3,a7]
  have h1:=a2 hd;have h2:=a'.resolve_right (fun e=>e hd);simp only[GP]at h1 h2;have a1:=a0.drew;refine zh ?_;refine Is zk zk ?_;refine zh ?_;refine zwH (RV.ld a1.r0 rfl) ?_;refine zw (RV.ld a1.r1 rfl) ?_;refine zwH (cJ GK rfl rfl rfl (l.length-r.length) (l.length-(r2.length+1)) zo zo zo zo) ?_;refine Io ?_;refine zh ?_;refine ae rfl rfl (⟨by rw[h1],by rw[<-hd];exact a1,a5.drew.drew⟩)
theorem vH:cD GG 86 #[(0,1),(1,1),(2,1)]:=⟨_,underlying86,fun w=>by kernel_rfl⟩
theorem fN(B:Nat)(O:Nat->Nat)(w:ln)(j rb:Nat)(l:List UInt8)(a op bad p e:Int)(hj:j≠0)(hR:IA B O w)(h:Rdr kv O w j rb l a op bad 0):
  IB GG 154 [nP rb,nI p,nI e] w fun v w'=>v=.agg #[nI 0,nI 0,nS]/\Rdr kv O w' j rb l a op p e/\Gs (fun k=>k=j) O w O w':=by
 obtain⟨T,a4,hT⟩:=hR.bound;have b3:j<T:=by rw[<-h.tag];exact hT rb
 refine G8 func154 ntmps154 rfl rfl ?_;refine zh ?_
 refine ar hR T zo (G6 _) rfl ?_;intro xb w1 O1 a8 a6 b4 b5;have a1:=h.upd a6 hj zo;refine zh ?_
 refine zvH (RV.ld a1.r5 rfl) ?_;refine zTH rfl rfl ?_
 refine aj (j:=4) a1 rfl (I2 _) rfl rfl rfl rfl ?_;have a3:=a1.rBad p;have b2:Gs (fun k=>k=j) O1 w1 O1 (w1.setCell ⟨rb,4,none⟩ (nI p)):=GF (fun e=>hj e.symm) a1.tag rfl;refine zh ?_
 refine aj (j:=5) a3 rfl (sizeOf33 _) rfl rfl rfl rfl ?_;have a':=a3.rE e;have b1:Gs (fun k=>k=j) O1 (w1.setCell ⟨rb,4,none⟩ (nI p)) O1 ((w1.setCell ⟨rb,4,none⟩ (nI p)).setCell ⟨rb,5,none⟩ (nI e)):=GF (fun e=>hj e.symm) a3.tag rfl;have a0:=b2.trans b1;have a2:=a8.upd a0 zo zo;generalize (w1.setCell ⟨rb,4,none⟩ (nI p)).setCell ⟨rb,5,none⟩ (nI e)=w3 at *;refine zh ?_
 refine zv (aD vH (G6 _) rfl (by first|rfl|(simp only[Gp,Gz];rfl)) rfl rfl) ?_;refine zsa (us:=#[nI 0,nI 0,nS]) a2 (ix _) ?_
 have a7:=a2.setRow (us:=#[nI 0,nI 0,nS]);have a5:Gs (fun k=>k=T) O1 w3 O1 (w3.setRow xb #[nI 0,nI 0,nS]):=G4 zo a2.tag rfl;have a9:=a'.upd a5 hj zo;have b0:=((a6.pT hj a4 (G1 _)).trans (a0.pj a4)).trans (a5.pT hj a4 (G1 _));refine zh ?_;refine aI rfl rfl (a7.cellsAdd) (G5 _) (ix _) (⟨rfl,a9.fgt h.tag,b0.priv hT hj⟩)
end Go.Proofs.YtpfpmhhigheccaaGreatDoor
end
namespace Go.Proofs.YtpfpmhhigheccaaGreatDoor
section
def qt(l:List UInt8)(c:UInt8):Int:=match l.findIdx? (· == c)with|some i=>(i:Nat)|none=>-1
theorem tJ(l:List UInt8)(c:UInt8):firstIdx (bs l) c=qt l c:=by
 have a0:∀i,i<l.length->(bs l)[i]! = nth l i:=fun i hi=>by
  rw[aB hi,getElem!_pos (bs l) i (by rw[cP];exact hi)];show l.toArray[i]=l[i];simp
 unfold firstIdx qt;rw[cP]
 cases hf:l.findIdx? (· == c)with
 |none=>
  have h:=Ii.1 hf;have:(JC l.length).find? (fun i=>(bs l)[i]! == c)=none:=by
   rw[JE];intro i hi;have a1:i<l.length:=by simpa using hi
   rw[a0 i a1,aB a1,h _ (IU a1)];decide
  rw[this]
 |some i=>
  obtain⟨hi,h1,h2⟩:=I1.1 hf;have:(JC l.length).find? (fun i=>(bs l)[i]! == c)=some i:=by
   rw[List.find?_eq_some_iff_getElem];refine⟨by rw[a0 i hi,aB hi];exact h1,i,by simpa using hi,by simp,fun j hj=>?_⟩;have:=h2 j hj;simp only[List.getElem_range];rw[a0 j zo,aB zo];simpa using this
  rw[this]
theorem nG(l:List UInt8)(c:UInt8)(w:ln):(callFunc 129 #[.string (bs l),.int .u8 (c.toNat:Int)]).run GG w=.ok (.value (nI (qt l c))) w:=by
 rw[run_callFunc_extern func129 zk zk zk (e:=Jo) zk,run_indexByte_string,tJ];simp[Result.andThen]
theorem pc(l:List UInt8)(c:UInt8)(w:ln):IB GG 102 [.string (bs l),.int .u8 (c.toNat:Int)] w fun v w'=>v=nI (qt l c)/\w'=w:=by
 refine G8 func102 ntmps102 rfl rfl ?_;refine zh ?_
 refine zvH (RV.ext (vs:=[.string (bs l),.int .u8 (c.toNat:Int)]) (nG l c w) rfl) ?_;refine ae rfl rfl (⟨rfl,rfl⟩)
theorem de(l:List UInt8)(c:UInt8)(w:ln):IB GG 72 [.string (bs l),.int .u8 (c.toNat:Int)] w fun v w'=>v=nI (qt l c)/\w'=w:=by
 refine G8 func72 ntmps72 rfl rfl ?_;refine zh ?_
 refine zc call102 (pc l c w) ?_;rintro v _ ⟨rfl,rfl⟩;refine zh ?_
 refine ae rfl rfl (⟨rfl,rfl⟩)
@[simp] def encS(x:List UInt8):List G0:=[.string (bs x)]
def DL(l:List (List UInt8))(s:List UInt8):Int:=match l.findIdx? (· == s)with|some i=>(i:Nat)|none=>-1
theorem kX(l:List (List UInt8))(s:List UInt8)(sv:G0)(w:ln)(h:Sl encS 1 w sv l):IB GG 157 [sv,.string (bs s)] w fun v w'=>v=nI (DL l s)/\w'=w:=by
 have hl:=h.len_le;refine G8 func157 ntmps157 rfl rfl ?_;refine zh ?_;refine zlp (fun x:Nat=>[(0,sv),(1,.string (bs s)),(7,nI l.length),(8,nI x)]) (fun x=>w) (fun x=>x<=l.length/\∀i,i<x->(nth l i==s)=false) (fun x=>l.length-x) 0 (⟨GB _,fun i hi=>absurd hi (Iv i)⟩) ?_;rintro k ⟨hk,a1⟩;refine zh ?_;refine zC ?_ ?_
 ·intro a0;replace a0:k<l.length:=dT a0;refine zh ?_;refine zv (RV.ld (h.ld (val:=fun x=>.string (bs x)) a0) rfl) ?_;refine zvH (bU rfl rfl) ?_;refine zC ?_ ?_
  ·intro hy;replace hy:s=nth l k:=by simpa using hy
   have hf:l.findIdx? (· == s)=some k:=I1.2 ⟨a0,by rw[<-aB a0,hy];simp,fun j hj=>by rw[<-aB zo,a1 j hj];decide⟩;refine zh ?_;refine ae rfl rfl (⟨by unfold DL;rw[hf],rfl⟩)
  intro hy;replace hy:(nth l k==s)=false:=by
   rw[JO];intro e;rw[eq_of_beq e]at hy;simp at hy
  refine zh ?_;refine zxd (k+1) (⟨a0,fun i hi=>(Jg.1 hi).elim (a1 i) (fun e=>by rw[e];exact hy)⟩)
 intro a2;replace a2:l.length<=k:=dF a2;have hf:l.findIdx? (· == s)=none:=Ii.2 fun x hx=>by
  obtain⟨j,hj,rfl⟩:=Gm hx;exact a1 j zo
 refine zh ?_;refine ae rfl rfl (⟨by unfold DL;rw[hf],rfl⟩)
def gA:Array G0:=(namesL.map fun s=>Kf (bs s)).toArray
theorem tp{O:Nat->Nat}{w:ln}{j b:Nat}(h:GQ O w j b gA 241):Sl encS 1 w (.slice (some ⟨b,0,none⟩) 36 36) namesL:=by
 refine⟨⟨_,36,rfl,G1 _,zd,fun _=>⟨_,_,rfl⟩⟩,fun i hi j u hu=>?_⟩;obtain rfl:j=0:=by
  have:=(GX.1 hu).1;simpa using this
 have a0:Kf (bs namesL[i])=u:=by simpa using hu
 have:=h.cell i (u:=u) (by rw[<-a0];unfold gA;simp[hi]);have e:((adr (.slice (some ⟨b,0,none⟩) 36 36) 1 i).add 0)=⟨b,i,none⟩:=by simp[adr,Ip]
 exact(congrArg w.cell? e).trans this
theorem yO(w:ln):IB GG 156 [] w fun v w'=>v=.agg gA/\Ie w w':=by
 refine G8 func156 ntmps156 rfl rfl ?_;refine zh ?_
 refine ar (aw w) 1 zo (JF _) rfl ?_;intro xb w1 O1 a0 a2 a4 a5;refine zh ?_
 refine zv (du (cells:=gA) KI (KQ _) (JF _) rfl zk) ?_;refine aZ (us:=gA) a0 zk (Kp _) zk rfl rfl rfl ?_
 have a1:=a0.setRow (us:=gA);have a3:Ie w (w1.setRow xb gA):=(a2.trans (G4 zd a0.tag rfl)).ext;refine zh ?_;refine aI rfl rfl (a1.cellsAdd) (isAgg241 _) (Kp _) (⟨rfl,a3⟩)
def BU(s:List UInt8):Int:=match yI s with|some c=>(c:Nat)|none=>0
theorem ie(s:List UInt8)(w:ln):IB GG 133 [.string (bs s)] w fun v w'=>v=.tuple #[nI (BU s),.bool (yI s).isSome]/\Ie w w':=by
 refine G8 func133 ntmps133 rfl rfl ?_;refine zh ?_
 refine zc call156 (yO w) ?_;rintro v w1 ⟨rfl,a5⟩;refine ar (aw w1) 1 zo (JF _) rfl ?_
 intro xb w2 O2 a0 a3 a6 a7;refine aZ (us:=gA) a0 zk (Kp _) zk rfl rfl rfl ?_;have a1:=a0.setRow (us:=gA);have a4:Ie w1 (w2.setRow xb gA):=(a3.trans (G4 zd a0.tag rfl)).ext;have a2:=tp a1;generalize w2.setRow xb gA=w3 at *;refine zh ?_;refine zvH (ud KI (KQ _) zd rfl) ?_;refine zc call157 (kX namesL s _ w3 a2) ?_;rintro v _ ⟨rfl,rfl⟩;refine zh ?_;refine zvH (jg rfl rfl) ?_;have h:DL namesL s=match yI s with|some c=>(c:Nat)|none=>-1:=rfl
 refine bC rfl rfl rfl (⟨?_,a5.trans a4⟩);rw[h];unfold BU
 cases yI s with
 |none=>rfl
 |some c=>simp
def nv(x:N3):G0:=.agg #[nI x.1,nI x.2.1,x.2.2]
def PostE(kv:G0)(O:Nat->Nat)(w:ln)(j rb:Nat)(l:List UInt8)(op:Int)(x:N3):PR->Prop
 |.ok t r=>Rdr kv O w j rb l ((l.length:Int)-(r.length:Int)) op 0 0/\Nt O w t x
 |.bad p e=>x.2.2.oneCell'=true/\∃a op',Rdr kv O w j rb l a op' ((l.length:Int)-(p:Int)) e/\0<=a/\a<=l.length+20-op/\op<=op'/\op'<=20
abbrev M3:=List UInt8×N3
def ke(m:M3):List G0:=[.string (bs m.1),nI m.2.1,nI m.2.2.1,m.2.2.2]
abbrev Kn:=List (List UInt8×Nd)
def KnownM(O:Nat->Nat)(w:ln)(kv:G0)(kn:Kn)(ms:List M3):Prop:=
 Sl ke 4 w kv ms/\KW O w kv/\kn.length=ms.length/\∀i,i<ms.length->(nth kn i).1=(nth ms i).1/\Nt O w (nth kn i).2 (nth ms i).2
def Known(O:Nat->Nat)(w:ln)(kv:G0)(kn:Kn):Prop:=∃ms:List M3,KnownM O w kv kn ms
theorem KnownM.upd{S:Nat->Prop}{O O':Nat->Nat}{w w':ln}{kv:G0}{kn:Kn}{ms:List M3}(h:KnownM O w kv kn ms)(u:Gs S O w O' w'):KnownM O' w' kv kn ms:=by
 obtain⟨h1,h2,h3,h4⟩:=h;exact⟨h1.upd h2 u,h2.upd u,h3,fun i hi=>⟨(h4 i hi).1,(h4 i hi).2.upd u⟩⟩
theorem Known.upd{S:Nat->Prop}{O O':Nat->Nat}{w w':ln}{kv:G0}{kn:Kn}(h:Known O w kv kn)(u:Gs S O w O' w'):Known O' w' kv kn:=by
 obtain⟨ms,h⟩:=h;exact⟨ms,h.upd u⟩
variable{kv:G0}{kn:Kn}
theorem bR{x:N3}(h:x.2.2.oneCell'=true):(#[nI x.1,nI x.2.1,x.2.2]:Array G0).toList.all GD=true:=by
 simp only[Gp,h];rfl
theorem elN:Kh GG 84 86 3 40:=⟨Ij,by kernel_rfl,zd⟩
theorem mF{x:N3}(h:x.2.2.oneCell'=true):∀c∈bn x,c.oneCell'=true:=fun c hc=>by
 simp at hc
 rcases hc with rfl|rfl|rfl
 ·rfl
 ·rfl
 exact h
def Reads(kv:G0)(kn:Kn)(F:Nat)(ex:List G0)(op:Int)(M:List UInt8->PR)(Pre:List UInt8->Prop):Prop:=
 ∀(B:Nat) (O:Nat->Nat) (j rb:Nat) (l r:List UInt8) (w:ln),IA B O w->j≠0->r <:+ l->l.length<=4096->Pre r->Rdr kv O w j rb l ((l.length:Int)-(r.length:Int)) op 0 0->Known O w kv kn->
  IB GG F (nP rb::ex) w fun v w'=>∃x,v=nv x/\Gs (fun k=>k=j) O w O w'/\PostE kv O w' j rb l op x (M r)
theorem rU(kind op:Int)(d1:0<=op/\op<=20):Reads kv kn 207 [nI kind] op (di kind) (fun _=>True):=by
 intro B O j rb l r w hR hj hr hl _ h _;obtain⟨T,a0,hT⟩:=hR.bound;have d2:j<T:=by rw[<-h.tag];exact hT rb
 have hq:=(aT r).trans hr;have d0:=hq.length_le;refine G8 func207 ntmps207 rfl rfl ?_;refine zh ?_;refine ar hR T zo (G6 _) rfl ?_;intro xb w1 O1 b' b5 c' d3;have c7:=h.upd b5 hj zo;refine zh ?_;refine zc J1 (fp O1 w1 j rb l r op 0 0 hj hr zo c7) ?_;rintro v w2 ⟨rfl,a6,b0⟩;have b1:=b'.upd b0 zo zo;have b6:=c'.upd b0;have b3:=(b5.pT hj a0 (G1 _)).trans (b0.pj a0);refine zc Kj (ik ((ak r).headD 0) w2) ?_;rintro v _ ⟨rfl,rfl⟩;refine zh ?_
 cases hc:ai ((ak r).headD 0)with
 |false=>
  have hM:di kind r=.bad (ak r).length 4:=by unfold di;rw[if_neg (by rw[hc];decide)]
  refine zTH rfl rfl ?_;refine zv (RV.ld a6.r1 rfl) ?_
  refine zc J0 (fN _ O1 _ j rb l _ _ 0 ((l.length:Int)-((ak r).length:Int)) 4 hj b6 a6) ?_;rintro v wf ⟨rfl,a8,a4⟩;have a1:=b1.upd a4 zo zo;refine zsa (us:=#[nI 0,nI 0,nS]) a1 (ix _) ?_
  have a7:=a1.setRow (us:=#[nI 0,nI 0,nS]);have a3:Gs (fun k=>k=T) O1 wf O1 (wf.setRow xb #[nI 0,nI 0,nS]):=G4 zo a1.tag rfl;have hbg:=a8.upd a3 hj zo;refine zh ?_;refine aI rfl rfl (a7.cellsAdd) (G5 _) (ix _) (⟨(0,0,nS),rfl,((b3.trans (a4.pj a0)).trans (a3.pT hj a0 (G1 _))).priv hT hj,?_⟩);rw[hM];exact⟨rfl,_,op,hbg.fgt h.tag,zo,zo,zo,zo⟩
 |true=>
  refine zFH rfl rfl ?_;refine zvH (RV.ld a6.r1 rfl) ?_
  refine zc call209 (uJ O1 _ j rb l (ak r) op 0 0 hj hq zo a6) ?_;rintro v w3 ⟨rfl,c6,a'⟩;have b9:=b1.upd a' zo zo;have c9:=b6.upd a';refine zc call133 (ie ((ak r).takeWhile ai) w3) ?_
  rintro v w4 ⟨rfl,b7⟩;have a9:Gs (fun _=>False) O1 w3 O1 w4:=aa (fun h=>h) O1 b7;have b2:=c6.upd a9 hj (fun h=>h);have a5:=b9.upd a9 zo (fun h=>h);have c8:=c9.upd a9;have a2:=(b3.trans (a'.pj a0)).trans (iN O1 b7 hj a0);refine zh ?_
  cases hn:yI ((ak r).takeWhile ai)with
  |none=>
   have hM:di kind r=.bad (ak r).length 5:=by unfold di;rw[if_pos hc,hn]
   refine zTH rfl rfl ?_;refine zc J0 (fN _ O1 _ j rb l _ _ 0 ((l.length:Int)-((ak r).length:Int)) 5 hj c8 b2) ?_
   rintro v wf ⟨rfl,a8,a4⟩;have a1:=a5.upd a4 zo zo;refine zsa (us:=#[nI 0,nI 0,nS]) a1 (ix _) ?_;have a7:=a1.setRow (us:=#[nI 0,nI 0,nS]);have a3:Gs (fun k=>k=T) O1 wf O1 (wf.setRow xb #[nI 0,nI 0,nS]):=G4 zo a1.tag rfl;have hbg:=a8.upd a3 hj zo;refine zh ?_;refine aI rfl rfl (a7.cellsAdd) (G5 _) (ix _) (⟨(0,0,nS),rfl,((a2.trans (a4.pj a0)).trans (a3.pT hj a0 (G1 _))).priv hT hj,?_⟩);rw[hM];exact⟨rfl,_,op,hbg.fgt h.tag,by have:=(Jm (l:=ak r) ai).length_le;omega,zo,zo,zo⟩
  |some c=>
   have hM:di kind r=.ok (.mk kind (c:Nat) []) ((ak r).dropWhile ai):=by unfold di;rw[if_pos hc,hn]
   have hv:BU ((ak r).takeWhile ai)=(c:Nat):=by unfold BU;rw[hn]
   rw[hv];refine zFH rfl rfl ?_;refine zv (aD vH (G6 _) rfl (by first|rfl|(simp only[Gp,Gz];rfl)) rfl rfl) ?_;refine zsa (us:=#[nI kind,nI (c:Nat),nS]) a5 (ix _) ?_;have b8:=a5.setRow (us:=#[nI kind,nI (c:Nat),nS]);have b4:Gs (fun k=>k=T) O1 w4 O1 (w4.setRow xb #[nI kind,nI (c:Nat),nS]):=G4 zo a5.tag rfl;have c5:=b2.upd b4 hj zo;refine zh ?_;refine aI rfl rfl (b8.cellsAdd) (G5 _) (ix _) (⟨(kind,(c:Nat),nS),rfl,(a2.trans (b4.pT hj a0 (G1 _))).priv hT hj,?_⟩);rw[hM];exact⟨c5.fgt h.tag,KB _ _ _ _⟩
end
theorem pd:∀(n:Nat) (t:Nd),nsz t<=n->∀(x:N3) (w:ln) (mZ:Nat),Nt (fun _=>0) w t x->mZ<=1000000->IB GG 108 [nv x,nI (mZ:Int)] w fun v w'=>v=nI ((min (nsz t) (mZ+1):Nat):Int)/\Ie w w'
 |0,t,hn=>by have:=dX t;omega
 |n+1,.mk k c kids,hn=>by
  intro x w mZ h hm;obtain⟨xs,hs,hf,hl,hk⟩:=h.kids;simp only[Js]at hl hk;have b9:=ij kids;simp only[nsz]at hn ⊢;have b1:=hs.len_le;refine G8 func108 ntmps108 rfl rfl ?_;refine zg ?_;refine aG (aw w) 1 zo rfl rfl ?_;intro xb w1 O1 a' b' c6 a8;have b0:=hs.ext a8;refine zg ?_;refine zv (RV.ld (a'.cell 2 rfl) rfl) ?_;refine zvG (RV.len (by first|exact b0) Ij rfl) ?_;refine zlp (fun y:Nat×ln=>[(1,nI (mZ:Int)),(5,nI ((min (dZ (kids.take y.1)+1) (mZ+1):Nat):Int)),(9,x.2.2),(10,nI xs.length),(11,nI y.1)]) (fun y=>y.2) (fun y=>y.1<=xs.length/\Ie w y.2) (fun y=>xs.length-y.1) (0,w1) (⟨GB _,a8⟩) ?_;rintro⟨i,w2⟩ ⟨hi,a0⟩;dsimp only at hi a0 ⊢;have a4:=hs.ext a0;refine zg ?_;refine zC ?_ ?_
  ·intro a1;replace a1:i<xs.length:=by have:=of_decide_eq_true a1;omega
   have b7:=dY kids i zo;have b6:=cH kids (i+1);have a6:=(hk i a1).ext a0;have a9:=a6.one;have b8:=cB kids i zo;refine zg ?_;refine zv (IR (by first|exact a4) Ij (ix _) rfl rfl _ rfl zo) ?_;refine zv (ah (us:=bn (nth xs i)) (fun j u hu=>a4.cell a1 hu) (G5 _) (ix _) rfl) ?_;refine ar (aw w2) 1 zo (G6 _) rfl ?_;intro kb w3 O3 a2 b4 c5 c7;refine zsb (us:=#[nI (nth xs i).1,nI (nth xs i).2.1,(nth xs i).2.2]) a2 (ix _) (bR a9) ?_;have b2:=a2.setRow (us:=#[nI (nth xs i).1,nI (nth xs i).2.1,(nth xs i).2.2]);have a3:Ie w2 (w3.setRow kb #[nI (nth xs i).1,nI (nth xs i).2.1,(nth xs i).2.2]):=(b4.trans (G4 zd a2.tag rfl)).ext;generalize w3.setRow kb #[nI (nth xs i).1,nI (nth xs i).2.1,(nth xs i).2.2]=w4 at *;refine zg ?_;refine zC ?_ ?_
   ·intro a7;replace a7:mZ<dZ (kids.take i)+1:=by have:=of_decide_eq_true a7;omega
    refine zg ?_;refine ae rfl rfl (⟨by congr 2;omega,a0.trans a3⟩)
   intro a5;replace a5:dZ (kids.take i)+1<=mZ:=by have:=of_decide_eq_false a5;omega
   refine zg ?_;refine zvG (ah (us:=bn (nth xs i)) b2.cellsAdd (G5 _) (ix _) rfl) ?_
   refine zv (RV.sub rfl rfl (JX zo)) ?_;rw[show(mZ:Int)-((min (dZ (kids.take i)+1) (mZ+1):Nat):Int)=((mZ-(dZ (kids.take i)+1):Nat):Int)from by omega];refine zc KT (pd n (nth kids i) zo (nth xs i) w4 (mZ-(dZ (kids.take i)+1)) (a6.ext a3) zo) ?_
   rintro v w5 ⟨rfl,b5⟩;refine zvG (KM rfl rfl (JX zo)) ?_;refine zvG (KM rfl rfl (JX zo)) ?_;rw[show((min (dZ (kids.take i)+1) (mZ+1):Nat):Int)+((min (nsz (nth kids i)) (mZ-(dZ (kids.take i)+1)+1):Nat):Int)=((min (dZ (kids.take (i+1))+1) (mZ+1):Nat):Int)from by omega];refine zxd (i+1,w5) (⟨a1,(a0.trans a3).trans b5⟩)
  intro b3;obtain rfl:i=xs.length:=by have:=of_decide_eq_false b3;omega
  refine zg ?_;refine ae rfl rfl (⟨by rw[<-hl,JT],a0⟩)
theorem bA{S:Nat->Prop}{O O':Nat->Nat}{w w':ln}(h:Gs S O w O' w')(hS:∀b,¬S (O b)):Ie w w':=⟨h.os,h.tape,h.output,h.size,fun b hb=>h.blk b hb (hS b)⟩
theorem Nt.ones{O:Nat->Nat}{w:ln}{t:Nd}{x:N3}(h:Nt O w t x):x=(t.kind,t.cls,x.2.2):=by cases h;rfl
theorem rT:∀(n:Nat),n<=1000000->∀(t:Nd),nsz t<=n->∀(B:Nat) (O:Nat->Nat) (x:N3) (w:ln),IA B O w->Nt (fun _=>0) w t x->IB GG 155 [nv x] w fun v w'=>∃y,v=nv y/\Nt O w' t y/\Ie w w'
 |0,_,t,hn=>by have:=dX t;omega
 |n+1,hn6,.mk k c kids,hn=>by
  intro B O x w hR h;obtain⟨T,j5,hT⟩:=hR.bound;obtain⟨xs,hs,hf,hl,hk⟩:=h.kids;simp only[Js]at hl hk;obtain⟨x0,x1,sv⟩:=x;obtain rfl:k=x0:=(congrArg Kc h.ones).symm;obtain rfl:c=x1:=(congrArg (fun q:N3=>q.2.1) h.ones).symm;dsimp only at hs hf;have j4:=ij kids;simp only[nsz]at hn;have a5:¬(fun q:Nat=>T<=q) 0:=fun e=>zo
  refine G8 func155 ntmps155 rfl rfl ?_;refine zh ?_
  refine aG hR (T+1) zo rfl rfl ?_;intro nb w1 O1 h7 i5 i' j8;refine ar i' T zo (G6 _) rfl ?_
  intro xb w2 O2 h1 g8 i9 j7;have f':=h7.upd g8 zo zo;have n0:w2.cell? (nA nb 0)=some (nI k):=f'.cell 0 rfl;have n1:w2.cell? (nA nb 1)=some (nI c):=f'.cell 1 rfl;refine zh ?_;refine zv (aD vH (G6 _) rfl (by first|rfl|(simp only[Gp,Gz];rfl)) rfl rfl) ?_;refine ar i9 (T+2) zo (G6 _) rfl ?_;intro ob w3 O3 f9 i4 i7 j6;refine zsa (us:=#[nI k,nI c,nS]) f9 (ix _) ?_;have h4:=f9.setRow (us:=#[nI k,nI c,nS]);have g7:Gs (fun q=>q=T+2) O3 w3 O3 (w3.setRow ob #[nI k,nI c,nS]):=G4 zo f9.tag rfl;have d6:=i4.trans g7;have i6:=i7.upd g7;have h5:=f'.upd d6 zo zo;have h0:=h1.upd d6 zo zo;have e6:Gs (fun q=>T<=q) O w O3 _:=((i5.mono (fun _ h=>by rw[h];omega) a5).trans (g8.mono (fun _ h=>by rw[h];omega) a5)).trans (d6.mono (fun _ h=>by rw[h];omega) a5);generalize w3.setRow ob #[nI k,nI c,nS]=w4 at *;have j0:=bA e6 (fun b=>by have:=hT b;omega);have j2:=hs.ext j0;have n2:w4.cell? (nA nb 2)=some sv:=h5.cell 2 rfl;refine zh ?_
  refine zlp (fun y:Nat×(Nat->Nat)×World×G0×List N3=>[(2,nP xb),(3,nP ob),(12,sv),(13,nI xs.length),(14,nI y.1)]) (fun y=>y.2.2.1) (fun y=>y.1<=xs.length/\GQ y.2.1 y.2.2.1 T xb #[nI 0,nI 0,nS] 86/\GQ y.2.1 y.2.2.1 (T+2) ob #[nI k,nI c,y.2.2.2.1] 86/\Ia bn 86 3 y.2.1 y.2.2.1 (T+3) y.2.2.2.1 y.2.2.2.2/\y.2.2.2.2.length=y.1/\(∀m,m<y.1->Nt y.2.1 y.2.2.1 (nth kids m) (nth y.2.2.2.2 m))/\Gs (fun q=>T<=q) O w y.2.1 y.2.2.1/\IA B y.2.1 y.2.2.1) (fun y=>xs.length-y.1) (0,O3,w4,nS,[]) (⟨GB _,h0,h4,J5 _ _ _ _ _ _,rfl,fun m hm=>absurd hm (Iv m),e6,i6⟩) ?_;rintro⟨i,O1',f7,lv,zs⟩ ⟨hi,b2,d2,a',d0,f8,b',c5⟩;dsimp only at hi b2 d2 a' d0 f8 b' c5 ⊢;have e':=bA b' (fun b=>by have:=hT b;omega);have h3:=hs.ext e';refine zh ?_
  refine zC ?_ ?_
  ·intro c9;replace c9:i<xs.length:=dT c9;have h9:=(hk i c9).ext e';have g9:=h9.one;have j3:=cB kids i zo;refine zh ?_;refine zv (ah (us:=bn (nth xs i)) (fun j u hu=>h3.cell c9 hu) (G5 _) (ix _) rfl) ?_;refine ar c5 (T+4) zo (G6 _) rfl ?_;intro kb d9 O2' g1 g3 i8 j1;refine zsb (us:=#[nI (nth xs i).1,nI (nth xs i).2.1,(nth xs i).2.2]) g1 (ix _) (bR g9) ?_;have h':=g1.setRow (us:=#[nI (nth xs i).1,nI (nth xs i).2.1,(nth xs i).2.2]);have g2:Gs (fun q=>q=T+4) O2' d9 O2' (d9.setRow kb #[nI (nth xs i).1,nI (nth xs i).2.1,(nth xs i).2.2]):=G4 zo g1.tag rfl;have b0:=g3.trans g2;have g6:=(b2.upd b0 zo zo).drew;have d1:=(d2.upd b0 zo zo).drew;have c8:=(a'.upd b0 zo zo).drew;have d7:=(c5.upd b0).drew;have d':∀m,m<i->Nt O2' (d9.setRow kb #[nI (nth xs i).1,nI (nth xs i).2.1,(nth xs i).2.2]).drew (nth kids m) (nth zs m):=fun m hm=>((f8 m hm).upd b0).drew
   have d5:=(b'.trans (b0.mono (fun _ h=>by rw[h];omega) a5)).drew;have g5:=bA d5 (fun b=>by have:=hT b;omega);have hk3d:=h'.drew;have g0:Nt (fun _=>0) (d9.setRow kb #[nI (nth xs i).1,nI (nth xs i).2.1,(nth xs i).2.2]).drew (nth kids i) (nth xs i):=(hk i c9).ext g5;refine zh ?_;refine aK (fun W=>∀(m:Nat) (u:G0),(bn (nth xs i))[m]? = some u->W.cell? (nA kb m)=some u) 8 rfl zk ?_;generalize (d9.setRow kb #[nI (nth xs i).1,nI (nth xs i).2.1,(nth xs i).2.2]).drew=w3' at *;have i3:w3'.cell? (nA ob 2)=some lv:=d1.cell 2 rfl;refine zin hk3d.cellsAdd fun zS=>?_
   refine zrf 0 rfl zS rfl ?_;refine zt 2 rfl zS (fun w1 h2=>ah (us:=bn (nth xs i)) h2 (G5 _) (ix _) rfl) ?_
   have c':=rT n zo (nth kids i) zo B O2' (nth xs i) w3' d7 g0;refine bL 1 3 zk rfl rfl ?_ ?_
   ·refine zvH (RV.ld i3 rfl) ?_;refine af hk3d.cellsAdd ?_
    refine GL 3 zk rfl ?_;refine zc KR c' ?_
    rintro v w5 ⟨z,rfl,f3,g4⟩;have a8:Gs (fun _=>False) O2' w3' O2' w5:=aa (fun h=>h) O2' g4;have f4:=g6.upd a8 zo (fun h=>h);have e4:=d1.upd a8 zo (fun h=>h);have a9:=c8.upd a8 zo (fun h=>h);have f6:=d7.upd a8;have d3:=hk3d.upd a8 zo (fun h=>h);have b7:∀m,m<i->Nt O2' w5 (nth kids m) (nth zs m):=fun m hm=>(d' m hm).upd a8
    have b9:=d5.trans (a8.mono (fun _ h=>h.elim) a5);refine zh ?_;refine af d3.cellsAdd ?_;refine GL 4 zk rfl ?_;refine aM elN (enc:=bn) z rfl rfl rfl zd rfl ?_;intro w6 h6 e9;have a1:Gs (fun _=>False) O2' w5 O2' w6:=aa (fun h=>h) O2' e9;have e1:=f4.upd a1 zo (fun h=>h);have d8:=e4.upd a1 zo (fun h=>h);have a6:=a9.upd a1 zo (fun h=>h);have e8:=f6.upd a1;have b8:=d3.upd a1 zo (fun h=>h);have b1:∀m,m<i->Nt O2' w6 (nth kids m) (nth zs m):=fun m hm=>(b7 m hm).upd a1
    have c6:=f3.upd a1;have b6:=b9.trans (a1.mono (fun _ h=>h.elim) a5);refine zh ?_;refine af b8.cellsAdd ?_;have a7:∀u∈[z],∀c∈bn u,c.oneCell'=true:=fun u hu=>by
     rw[Ih.1 hu];exact mF c6.one
    refine GL 5 zk rfl ?_;refine aC elN a6 e8 h6 (by simp) rfl rfl (fun _ _=>rfl) a7 (by simp;omega) (by simp;omega) zo rfl ?_
    intro a3 w7 O7 a0 a4 e7;have e2:=a0.one;have b3:=Gt d8 a4 zo zo;have e0:=Gt e1 a4 zo zo;have b4:=Gt b8 a4 zo zo;refine zh ?_;refine af b4.cellsAdd ?_;refine zrf 6 rfl b4.cellsAdd rfl ?_;refine GL 7 zk rfl ?_;refine aj (j:=2) b3 rfl (KF _) e2 rfl rfl rfl ?_;have e3:GQ O7 (w7.setCell ⟨ob,2,none⟩ a3) (T+2) ob #[nI k,nI c,a3] 86:=b3.set 2 a3;have a2:Gs (fun q=>q=T+2) O7 w7 O7 (w7.setCell ⟨ob,2,none⟩ a3):=GF zo b3.tag rfl;have e5:=b4.upd a2 zo zo;refine zh ?_;refine af e5.cellsAdd ?_;have a5:¬(fun q:Nat=>T<=q) 0:=fun e=>zo
    have b5:=(b6.trans (a4.mono (fun _ h=>by rw[h];omega) a5)).trans (a2.mono (fun _ h=>by rw[h];omega) a5);refine Il zk ?_;refine zh ?_;refine zxd (i+1,O7,(w7.setCell ⟨ob,2,none⟩ a3),a3,zs++[z]) (⟨c9,e0.upd a2 zo zo,e3,a0.upd a2 zo zo,by simp[d0],fun m hm=>?_,b5,e7.upd a2⟩);dsimp only at hm ⊢
    by_cases e:m<i
    ·rw[aB (xs:=zs++[z]) (by simp;omega),Gx zo,<-aB zo];exact((b1 m e).upd a4).upd a2
    obtain rfl:m=zs.length:=zo;rw[aB (xs:=zs++[z]) (by simp),GM zo];simp only[IK,It];rw[d0];exact(c6.upd a4).upd a2
   refine zc KR c' ?_;rintro v w5 ⟨z,rfl,f3,g4⟩;have a8:Gs (fun _=>False) O2' w3' O2' w5:=aa (fun h=>h) O2' g4;have f4:=g6.upd a8 zo (fun h=>h);have e4:=d1.upd a8 zo (fun h=>h);have a9:=c8.upd a8 zo (fun h=>h);have f6:=d7.upd a8;have d3:=hk3d.upd a8 zo (fun h=>h);have b7:∀m,m<i->Nt O2' w5 (nth kids m) (nth zs m):=fun m hm=>(d' m hm).upd a8
   have b9:=d5.trans (a8.mono (fun _ h=>h.elim) a5);refine zh ?_;refine af d3.cellsAdd ?_;have i2:w5.cell? (nA ob 2)=some lv:=e4.cell 2 rfl;refine bL 1 4 zk rfl rfl ?_ ?_
   ·refine zvH (RV.ld i2 rfl) ?_;refine af d3.cellsAdd ?_
    refine GL 4 zk rfl ?_;refine aM elN (enc:=bn) z rfl rfl rfl zd rfl ?_
    intro w6 h6 e9;have a1:Gs (fun _=>False) O2' w5 O2' w6:=aa (fun h=>h) O2' e9;have e1:=f4.upd a1 zo (fun h=>h);have d8:=e4.upd a1 zo (fun h=>h);have a6:=a9.upd a1 zo (fun h=>h);have e8:=f6.upd a1;have b8:=d3.upd a1 zo (fun h=>h);have b1:∀m,m<i->Nt O2' w6 (nth kids m) (nth zs m):=fun m hm=>(b7 m hm).upd a1
    have c6:=f3.upd a1;have b6:=b9.trans (a1.mono (fun _ h=>h.elim) a5);refine zh ?_;refine af b8.cellsAdd ?_;have a7:∀u∈[z],∀c∈bn u,c.oneCell'=true:=fun u hu=>by
     rw[Ih.1 hu];exact mF c6.one
    refine GL 5 zk rfl ?_;refine aC elN a6 e8 h6 (by simp) rfl rfl (fun _ _=>rfl) a7 (by simp;omega) (by simp;omega) zo rfl ?_
    intro a3 w7 O7 a0 a4 e7;have e2:=a0.one;have b3:=Gt d8 a4 zo zo;have e0:=Gt e1 a4 zo zo;have b4:=Gt b8 a4 zo zo;refine zh ?_;refine af b4.cellsAdd ?_;refine zrf 6 rfl b4.cellsAdd rfl ?_;refine GL 7 zk rfl ?_;refine aj (j:=2) b3 rfl (KF _) e2 rfl rfl rfl ?_;have e3:GQ O7 (w7.setCell ⟨ob,2,none⟩ a3) (T+2) ob #[nI k,nI c,a3] 86:=b3.set 2 a3;have a2:Gs (fun q=>q=T+2) O7 w7 O7 (w7.setCell ⟨ob,2,none⟩ a3):=GF zo b3.tag rfl;have e5:=b4.upd a2 zo zo;refine zh ?_;refine af e5.cellsAdd ?_;have a5:¬(fun q:Nat=>T<=q) 0:=fun e=>zo
    have b5:=(b6.trans (a4.mono (fun _ h=>by rw[h];omega) a5)).trans (a2.mono (fun _ h=>by rw[h];omega) a5);refine Il zk ?_;refine zh ?_;refine zxd (i+1,O7,(w7.setCell ⟨ob,2,none⟩ a3),a3,zs++[z]) (⟨c9,e0.upd a2 zo zo,e3,a0.upd a2 zo zo,by simp[d0],fun m hm=>?_,b5,e7.upd a2⟩);dsimp only at hm ⊢
    by_cases e:m<i
    ·rw[aB (xs:=zs++[z]) (by simp;omega),Gx zo,<-aB zo];exact((b1 m e).upd a4).upd a2
    obtain rfl:m=zs.length:=zo;rw[aB (xs:=zs++[z]) (by simp),GM zo];simp only[IK,It];rw[d0];exact(c6.upd a4).upd a2
   refine aM elN (enc:=bn) z rfl rfl rfl zd rfl ?_;intro w6 h6 e9;have a1:Gs (fun _=>False) O2' w5 O2' w6:=aa (fun h=>h) O2' e9;have e1:=f4.upd a1 zo (fun h=>h);have d8:=e4.upd a1 zo (fun h=>h);have a6:=a9.upd a1 zo (fun h=>h);have e8:=f6.upd a1;have b8:=d3.upd a1 zo (fun h=>h);have b1:∀m,m<i->Nt O2' w6 (nth kids m) (nth zs m):=fun m hm=>(b7 m hm).upd a1
   have c6:=f3.upd a1;have b6:=b9.trans (a1.mono (fun _ h=>h.elim) a5);refine zh ?_;refine af b8.cellsAdd ?_;have i1:w6.cell? (nA ob 2)=some lv:=d8.cell 2 rfl;refine GL 1 zk rfl ?_;refine zvH (RV.ld i1 rfl) ?_;refine af b8.cellsAdd ?_;have a7:∀u∈[z],∀c∈bn u,c.oneCell'=true:=fun u hu=>by
    rw[Ih.1 hu];exact mF c6.one
   refine GL 5 zk rfl ?_;refine aC elN a6 e8 h6 (by simp) rfl rfl (fun _ _=>rfl) a7 (by simp;omega) (by simp;omega) zo rfl ?_
   intro a3 w7 O7 a0 a4 e7;have e2:=a0.one;have b3:=Gt d8 a4 zo zo;have e0:=Gt e1 a4 zo zo;have b4:=Gt b8 a4 zo zo;refine zh ?_;refine af b4.cellsAdd ?_;refine zrf 6 rfl b4.cellsAdd rfl ?_;refine GL 7 zk rfl ?_;refine aj (j:=2) b3 rfl (KF _) e2 rfl rfl rfl ?_;have e3:GQ O7 (w7.setCell ⟨ob,2,none⟩ a3) (T+2) ob #[nI k,nI c,a3] 86:=b3.set 2 a3;have a2:Gs (fun q=>q=T+2) O7 w7 O7 (w7.setCell ⟨ob,2,none⟩ a3):=GF zo b3.tag rfl;have e5:=b4.upd a2 zo zo;refine zh ?_;refine af e5.cellsAdd ?_;have a5:¬(fun q:Nat=>T<=q) 0:=fun e=>zo
   have b5:=(b6.trans (a4.mono (fun _ h=>by rw[h];omega) a5)).trans (a2.mono (fun _ h=>by rw[h];omega) a5);refine Il zk ?_;refine zh ?_;refine zxd (i+1,O7,(w7.setCell ⟨ob,2,none⟩ a3),a3,zs++[z]) (⟨c9,e0.upd a2 zo zo,e3,a0.upd a2 zo zo,by simp[d0],fun m hm=>?_,b5,e7.upd a2⟩);dsimp only at hm ⊢
   by_cases e:m<i
   ·rw[aB (xs:=zs++[z]) (by simp;omega),Gx zo,<-aB zo];exact((b1 m e).upd a4).upd a2
   obtain rfl:m=zs.length:=zo;rw[aB (xs:=zs++[z]) (by simp),GM zo];simp only[IK,It];rw[d0];exact(c6.upd a4).upd a2
  intro i0;obtain rfl:i=xs.length:=dF i0;have h8:=a'.one;refine zh ?_;refine zv (ah (us:=bn ((k,c,lv):N3)) d2.cellsAdd (G5 _) (ix _) rfl) ?_;refine zsb (us:=#[nI k,nI c,lv]) b2 (ix _) (bR (x:=(k,c,lv)) h8) ?_;have g':=b2.setRow (us:=#[nI k,nI c,lv]);have f5:Gs (fun q=>q=T) O1' f7 O1' (f7.setRow xb #[nI k,nI c,lv]):=G4 zo b2.tag rfl;have c7:=a'.upd f5 zo zo;have d4:=b'.trans (f5.mono (fun _ h=>by rw[h];omega) a5);have hN:Nt O (f7.setRow xb #[nI k,nI c,lv]) (.mk k c kids) (k,c,lv):=
   .mk c7.sl (c7.freeT zo (fun b=>by have:=hT b;omega) (c5.upd f5) d4) zo (fun m hm=>((f8 m zo).upd f5).low d4)
  refine zh ?_;refine aI rfl rfl (g'.cellsAdd) (G5 _) (ix _) (⟨(k,c,lv),rfl,hN,bA d4 (fun b=>by have:=hT b;omega)⟩)
theorem kG{F:FuncId}(hF:∀(args:Array G0) (w:ln),(callFunc F args).run GG w=.ok (.enter F args) w)(cs:Array G0)(l:List (N3))(sv:G0)(q:Nat->Bool)(w:ln)(h:Sl bn 3 w sv l) 
  (hq:∀i,i<l.length->∀w',Ie w w'->IB GG F ([nv (nth l i)]++cs.toList) w' fun v w''=>v=.bool (q i)/\Ie w' w'') :
  IB GG 112 [sv,.func (.func F) #[] cs] w fun v w'=>v=nI (dh q l.length)/\Ie w w':=by
 have hl:=h.len_le;refine G8 func112 ntmps112 rfl rfl ?_;refine zh ?_;refine zlp (fun x:Nat×ln=>[(0,sv),(1,.func (.func F) #[] cs),(7,nI l.length),(8,nI x.1)]) (fun x=>x.2) (fun x=>x.1<=l.length/\Ie w x.2/\∀i,i<x.1->q i=false) (fun x=>l.length-x.1) (0,w) (⟨GB _,GC _,fun i hi=>absurd hi (Iv i)⟩) ?_;rintro⟨k,w1⟩ ⟨hk,hE,a1⟩;dsimp only at hk hE a1 ⊢;have h1:=h.ext hE;refine zh ?_;refine zC ?_ ?_
 ·intro a0;replace a0:k<l.length:=dT a0;refine zh ?_;refine zv (ah (us:=bn (nth l k)) (fun j u hu=>h1.cell a0 hu) (G5 _) (ix _) rfl) ?_;refine df rfl hF rfl (hq k a0 w1 hE) rfl ?_;rintro v w2 ⟨rfl,a3⟩;refine zh ?_;refine zC ?_ ?_
  ·intro hy;refine zh ?_;refine ae rfl rfl (⟨by rw[bY a0 hy a1],hE.trans a3⟩)
  intro hy;refine zh ?_;refine zxd (k+1,w2) (⟨a0,hE.trans a3,fun i hi=>(Jg.1 hi).elim (a1 i) (fun e=>by rw[e];exact hy)⟩)
 intro a2;replace a2:l.length<=k:=dF a2;refine zh ?_;refine ae rfl rfl (⟨by rw[bW fun i hi=>a1 i zo],hE⟩)
theorem cF{F:FuncId}(hF:∀(args:Array G0) (w:ln),(callFunc F args).run GG w=.ok (.enter F args) w)(cs:Array G0)(l:List (N3))(sv:G0)(q:Nat->Bool)(w:ln)(h:Sl bn 3 w sv l) 
  (hq:∀i,i<l.length->∀w',Ie w w'->IB GG F ([nv (nth l i)]++cs.toList) w' fun v w''=>v=.bool (q i)/\Ie w' w'') :
  IB GG 81 [sv,.func (.func F) #[] cs] w fun v w'=>v=.bool (iH q l.length)/\Ie w w':=by
 refine G8 func81 ntmps81 rfl rfl ?_;refine zh ?_
 refine zc call112 (kG hF cs l sv q w h hq) ?_;rintro v w1 ⟨rfl,hE⟩;refine zh ?_
 refine ae rfl rfl (⟨by rw[firstN_any],hE⟩)
def named(k:Int):Bool:=(k==0)||(k==2)
def least(k:Int):Int:=if k=4\/k=5 then 2 else if k=6\/k=7\/k=8 then 1 else 0
def mZ(k:Int):Int:=if k=4\/k=5 then 2000 else if k=6\/k=7\/k=8 then 1 else 0
def jK(k c:Int)(n:Nat)(a0:Bool):Bool:=
 !(decide (k<0)||decide (9<k)||((k==9)&&a0))&&(!(decide ((n:Int)<least k)||decide (mZ k<(n:Int))) &&
 !((named k&&(decide (c<0)||decide (36<=c)))||(!named k&&(c != 0))))
mutual
def nJ:Nd->Bool->Bool | .mk k c l,wi=>jK k c l.length wi&&rQ l
def rQ:List Nd->Bool | []=>true|t::r=>nJ t true&&rQ r
end
def bE(t:Nd):Bool:=decide (nsz t<=2000)&&nJ t false
theorem vU{k c:Int}{n:Nat}{wi:Bool}(h:jK k c n wi=true):
  (k=0/\n=0/\0<=c/\c<36)\/(k=1/\n=0/\c=0)\/(k=2/\n=0/\0<=c/\c<36)\/(k=3/\n=0/\c=0)\/(k=4/\2<=n/\c=0)\/(k=5/\2<=n/\c=0)\/(k=6/\n=1/\c=0)\/(k=7/\n=1/\c=0)\/(k=8/\n=1/\c=0)\/(k=9/\n=0/\c=0/\wi=false):=by
 have a0:k=0\/k=1\/k=2\/k=3\/k=4\/k=5\/k=6\/k=7\/k=8\/k=9:=by
  simp only[jK,GV,IJ,Bool.or_eq_false_iff,decide_eq_false_iff_not]at h;omega
 rcases a0 with rfl|rfl|rfl|rfl|rfl|rfl|rfl|rfl|rfl|rfl<;>simp[jK,least,mZ,named]at h<;>(try simp)<;>(first|omega|(obtain⟨h1,h2⟩:=h;subst h1;simp;omega))
theorem zK:∀(l:List Nd),(!(iH (fun i=>!(nJ (nth l i) true)) l.length))=rQ l:=by
 intro l;rw[K8];rw[IJ,JO,Ne,eh]
 induction l with
 |nil=>simp[rQ]
 |cons t r ih=>
  simp only[rQ,GV,<-ih,GP]
  constructor
  ·intro h;refine⟨?_,fun⟨i,hi,hq⟩=>h ⟨i+1,zo,by rw[bp];exact hq⟩⟩
   cases ht:nJ t true with
   |true=>rfl
   |false=>exact absurd ⟨0,zo,by rw[au,ht];rfl⟩ h
  rintro⟨h1,h2⟩ ⟨i,hi,hq⟩
  cases i with
  |zero=>rw[au,h1]at hq;simp at hq
  |succ i=>rw[bp]at hq;exact h2 ⟨i,zo,hq⟩
theorem A8(k:Int)(w:ln):IB GG 140 [nI k] w fun v w'=>v=.tuple #[nI (least k),nI (mZ k)]/\w'=w:=by
 refine G8 func140 ntmps140 rfl rfl ?_;refine zh ?_
 by_cases h4:k=4
 ·subst h4;refine zTH rfl rfl ?_;refine zTH rfl rfl ?_;refine bC rfl rfl rfl (⟨rfl,rfl⟩)
 refine zFH rfl ((beq_eq_false_iff_ne.2 h4)) ?_
 by_cases h5:k=5
 ·subst h5;refine zTH rfl rfl ?_;refine bC rfl rfl rfl (⟨rfl,rfl⟩)
 refine zFH rfl ((beq_eq_false_iff_ne.2 h5)) ?_
 by_cases h6:k=6
 ·subst h6;refine zTH rfl rfl ?_;refine zTH rfl rfl ?_;refine bC rfl rfl rfl (⟨rfl,rfl⟩)
 refine zFH rfl ((beq_eq_false_iff_ne.2 h6)) ?_
 by_cases h7:k=7
 ·subst h7;refine zTH rfl rfl ?_;refine zTH rfl rfl ?_;refine bC rfl rfl rfl (⟨rfl,rfl⟩)
 refine zFH rfl ((beq_eq_false_iff_ne.2 h7)) ?_
 by_cases h8:k=8
 ·subst h8;refine zTH rfl rfl ?_;refine bC rfl rfl rfl (⟨rfl,rfl⟩)
 refine zFH rfl ((beq_eq_false_iff_ne.2 h8)) ?_;refine bC rfl rfl rfl (⟨by simp[least,mZ,h4,h5,h6,h7,h8],rfl⟩)
theorem Bq{b:Bool}{t:Nd}(ih:∀(y:N3) (W:ln),Nt (fun _=>0) W t y->IB GG 109 [nv y,.bool true] W fun v w'=>v=.bool b/\Ie W w')(x:N3)(w:ln)(h:Nt (fun _=>0) w t x):
  IB GG 141 [nv x] w fun v w'=>v=.bool (!b)/\Ie w w':=by
 refine G8 func141 ntmps141 rfl rfl ?_;refine zh ?_
 refine aG (aw w) 1 zo rfl rfl ?_;intro xb w1 O1 a1 a3 a4 a0;refine zh ?_
 refine zv (ah (us:=bn x) a1.cellsAdd (G5 _) (ix _) rfl) ?_;refine zc call109 (ih x w1 (h.ext a0)) ?_
 rintro v w2 ⟨rfl,a2⟩;refine zh ?_;refine ae rfl rfl (⟨rfl,a0.trans a2⟩)
theorem uU:∀(n:Nat) (t:Nd),nsz t<=n->∀(x:N3) (w:ln) (a0:Bool),Nt (fun _=>0) w t x->IB GG 109 [nv x,.bool a0] w fun v w'=>v=.bool (nJ t a0)/\Ie w w'
 |0,t,hn=>by have:=dX t;omega
 |n+1,.mk k c kids,hn=>by
  intro x w a0 h;have b1:=h.ones;obtain⟨xs,hs,hf,hl,hk⟩:=h.kids;simp only[Js]at hl hk;simp only[nsz]at hn;have hF:nJ (.mk k c kids) a0=(jK k c kids.length a0&&rQ kids):=rfl;rw[hF];generalize x.2.2=sv at *;subst b1;simp only[KC,KN];refine G8 func109 ntmps109 rfl rfl ?_;refine zh ?_;refine aG (aw w) 1 zo rfl rfl ?_;intro xb w1 O1 a9 b4 b5 a4;have c0:w1.cell? (nA xb 0)=some (nI k):=a9.cell 0 rfl;have c1:w1.cell? (nA xb 1)=some (nI c):=a9.cell 1 rfl;have c2:w1.cell? (nA xb 2)=some sv:=a9.cell 2 rfl;have b2:=hs.ext a4;refine zh ?_;refine cu (fun w1=>_=w1) ((k==2)) 3 (rfl) rfl rfl rfl rfl rfl ?_ ?_
  ·intro a1;refine zh ?_;refine nE 11 4 (rfl) a1
  rintro _ rfl;refine zh ?_;refine zc call140 (A8 k w1) ?_;rintro v w9 ⟨rfl,a'⟩;rw[a'];clear a' w9;refine zh ?_;refine cu (fun w1=>_=w1) (decide (9<k)) 3 (rfl) rfl rfl rfl rfl rfl ?_ ?_
  ·intro a2;refine zh ?_;refine nE 26 4 (rfl) a2
  rintro _ rfl;refine zh ?_;refine cu (fun w1=>_=w1) (((k==9)&&a0)) 6 (rfl) rfl rfl rfl rfl rfl ?_ ?_
  ·intro a3;refine zh ?_
   cases a7:(k==9)with
   |true=>
    refine ao (d:=35) rfl (b':=true) (rfl) ?_;refine zh ?_
    refine nE 31 8 (rfl) a3
   |false=>
    refine ao (d:=35) rfl (b':=false) (rfl) ?_;refine zh ?_
    refine nE 31 8 (rfl) a3
  rintro _ rfl;refine zh ?_
  cases h1:(decide (k<0)||decide (9<k)||((k==9)&&a0))with
  |true=>
   refine zTH rfl rfl ?_;refine ae rfl rfl (⟨by simp only[jK,h1];rfl,a4⟩)
  |false=>
   refine zFH rfl rfl ?_;refine cu (fun w1=>_=w1) (decide (mZ k<(xs.length:Int))) 5 (rfl) rfl rfl rfl rfl rfl ?_ ?_
   ·intro a5;refine zh ?_;refine nE 45 6 (rfl) a5
   rintro _ rfl;refine zh ?_
   cases h2:(decide ((xs.length:Int)<least k)||decide (mZ k<(xs.length:Int)))with
   |true=>
    refine zTH rfl rfl ?_;refine ae rfl rfl (⟨by simp only[jK,h1,hl,h2];rfl,a4⟩)
   |false=>
    refine zFH rfl rfl ?_;refine bx (fun w1=>_=w1) ((decide (c<0)||decide (36<=c))) 8 (rfl) rfl rfl rfl rfl rfl ?_ ?_
    ·intro a6;refine zh ?_
     cases a7:decide (c<0)with
     |true=>
      refine ao (d:=58) rfl (b':=true) (rfl) ?_;refine zh ?_
      refine nE 54 10 (rfl) a6
     |false=>
      refine ao (d:=58) rfl (b':=false) (rfl) ?_;refine zh ?_
      refine nE 54 10 (rfl) a6
    rintro _ rfl;refine zh ?_;refine cu (fun w1=>_=w1) ((!((k==0)||(k==2))&&(c != 0))) 7 (rfl) rfl rfl rfl rfl rfl ?_ ?_
    ·intro a8;refine zh ?_
     cases a7:((k==0)||(k==2))with
     |true=>
      rw[a7]at a8;refine ao (d:=67) rfl (b':=false) (rfl) ?_;refine zh ?_;refine nE 64 9 (rfl) a8
     |false=>
      rw[a7]at a8;refine ao (d:=67) rfl (b':=true) (rfl) ?_;refine zh ?_;refine nE 64 9 (rfl) a8
    rintro _ rfl;refine zh ?_
    cases h3:(((((k==0)||(k==2))&&(decide (c<0)||decide (36<=c))))||(!((k==0)||(k==2))&&(c != 0)))with
    |true=>
     refine zTH rfl rfl ?_;refine ae rfl rfl (⟨by simp only[jK,h1,hl,h2,named,h3];rfl,a4⟩)
    |false=>
     refine zFH rfl rfl ?_;refine zc call81 (cF call141 #[] xs sv (fun i=>!(nJ (nth kids i) true)) w1 b2 (fun i hi w' hE=>Bq (fun y W hy=>uU n (nth kids i) (by have:=cB kids i (zo);omega) y W true hy) (nth xs i) w' ((hk i hi).ext (a4.trans hE)))) ?_
     rintro v w2 ⟨rfl,b3⟩;refine zh ?_;have b0:=zK kids;rw[hl]at b0;refine ae rfl rfl (⟨by rw[b0];simp only[jK,h1,hl,h2,named,h3];rfl,a4.trans b3⟩)
theorem eJ(t:Nd)(x:N3)(w:ln)(h:Nt (fun _=>0) w t x):IB GG 79 [nv x] w fun v w'=>v=.bool (bE t)/\Ie w w':=by
 have hx:=h.ones;refine G8 func79 ntmps79 rfl rfl ?_;refine zh ?_;refine aG (aw w) 1 zo rfl rfl ?_;intro xb w1 O1 a5 a6 a7 a3;have a4:∀W,Ie w1 W->∀(j:Nat) (u:G0),(bn x)[j]? = some u->W.cell? (nA xb j)=some u:=fun W hE j u hu=>hE.cell (a5.cellsAdd j u hu)
 refine zh ?_;refine zv (ah (us:=bn x) (a4 w1 (GC _)) (G5 _) (ix _) rfl) ?_
 refine zc KT (pd (nsz t) t (G1 _) x w1 2000 (h.ext a3) zo) ?_;rintro v w2 ⟨rfl,a0⟩;have hd:decide (((min (nsz t) (2000+1):Nat):Int)<=2000)=decide (nsz t<=2000):=decide_eq_decide.2 zo;refine zh ?_
 rw[hd];refine bx (Ie w1) (nJ t false) 2 (a0) rfl rfl rfl rfl rfl ?_ ?_
 ·intro a1;refine zh ?_;refine zvH (ah (us:=bn x) (a4 _ a0) (G5 _) (ix _) rfl) ?_;refine zc call109 (uU (nsz t) t (G1 _) x _ false (h.ext (a3.trans a0))) ?_;rintro v w3 ⟨rfl,a2⟩;refine zh ?_;refine nE 6 3 (a0.trans a2) a1
 intro w3 a2;refine zh ?_;refine ae rfl rfl (⟨rfl,a3.trans a2⟩)
structure Cell0(O:Nat->Nat)(w:ln)(a:Ki)(v:G0):Prop where
 z:O a.block=0
 c:w.cell? a=some v
theorem Cell0.upd{S:Nat->Prop}{O O':Nat->Nat}{w w':ln}{a:Ki}{v:G0}(h:Cell0 O w a v)(u:Gs S O w O' w'):Cell0 O' w' a v:=by
 have a1:=Jb w a h.c;refine⟨GJ fun a0=>?_,mK (u.blk _ a1 (by rw[h.z];exact u.z)) h.c⟩
 rcases u.new _ a0 with h1|h1
 ·exact h1 h.z
 omega
theorem Cell0.ext{O:Nat->Nat}{w w':ln}{a:Ki}{v:G0}(h:Cell0 O w a v)(e:Ie w w'):Cell0 O w' a v:=⟨h.z,e.cell h.c⟩
theorem Dd{T xb:Nat}{O O1 O2:Nat->Nat}{w w1 w2:ln}{us:Array G0}{E:G9}(_:0<T)(hT:∀b,O b<T)(u1:Gs (fun q=>q=T) O w O1 w1)(u2:Gs (fun q=>q=T) O1 w1 O2 w2)(hx:GQ O2 w2 T xb us E):
  Ie w w2/\∀j u,us.toList[j]? = some u->Cell0 O w2 (nA xb j) u:=by
 have hO:O xb=0:=GJ fun a0=>by
  have h1:=u1.tag xb a0;have h2:=u2.tag xb (by rw[h1];exact a0);have:=hT xb;have:=hx.tag;omega
 refine⟨bA (u1.trans u2) fun b e=>?_,fun j u hu=>⟨?_,hx.cellsAdd j u hu⟩⟩
 ·have:=hT b;omega
 show O (nA xb j).block=0;have:(nA xb j).block=xb:=by simp only[Ip];split<;>rfl
 rw[this];exact hO
abbrev pW(x:Lf):List G0:=[nI x.1,nI x.2.1,nI (x.2.2:Nat)]
abbrev K3:=G0×G0×Nat
abbrev DO(x:K3):List G0:=[x.1,x.2.1,nI (x.2.2:Nat)]
theorem F0:Kh GG 162 170 3 24:=⟨KJ,by kernel_rfl,zd⟩
theorem Gi:Kh GG 163 167 3 56:=⟨GS,by kernel_rfl,zd⟩
theorem jj:Kh GG 25 3 1 8:=⟨JG,by kernel_rfl,zd⟩
theorem Ft:cD GG 165 #[(0,1),(1,1),(2,1),(3,1),(4,1)]:=⟨_,underlying165,fun w=>by kernel_rfl⟩
theorem Fs:cD GG 167 #[(0,1),(1,1),(2,1)]:=⟨_,underlying167,fun w=>by kernel_rfl⟩
theorem Fq:cD GG 170 #[(0,1),(1,1),(2,1)]:=⟨_,underlying170,fun w=>by kernel_rfl⟩
structure Ks(O:Nat->Nat)(w:ln)(i:Nat)(kv:G0)(g:Gr)(xs:List K3):Prop where
 row:Ia DO 167 3 O w (i+2) kv xs
 len:xs.length=g.ks.length
 fr:∀k,k<xs.length->Ia aJ 3 1 O w (i+6+2*k) (nth xs k).1 (g.fr k)
 lv:∀k,k<xs.length->Ia aJ 3 1 O w (i+7+2*k) (nth xs k).2.1 (g.lv k)
 en:∀k,k<xs.length->(nth xs k).2.2=g.en k
theorem Ks.upd{S:Nat->Prop}{O O':Nat->Nat}{w w':ln}{i:Nat}{kv:G0}{g:Gr}{xs:List K3}(h:Ks O w i kv g xs)(u:Gs S O w O' w')(hS:∀q,i<=q->q<i+8+2*g.ks.length->¬S q):Ks O' w' i kv g xs:=
 have hl:=h.len
 ⟨h.row.upd u zo (hS _ zo zo),h.len,fun k hk=>(h.fr k hk).upd u zo (hS _ zo zo),fun k hk=>(h.lv k hk).upd u zo (hS _ zo zo),h.en⟩
abbrev nfC(se:Bool)(lv kv nv tv:G0):Array G0:=#[.bool se,lv,kv,nv,tv]
structure NfO(O:Nat->Nat)(w:ln)(i nb:Nat)(se:Bool)(g:Gr)(nv tv lv kv:G0)(xs:List K3):Prop where
 blk:GQ O w i nb (nfC se lv kv nv tv) 165
 ls:Ia pW 170 3 O w (i+1) lv g.ls
 ks:Ks O w i kv g xs
theorem NfO.updT{S:Nat->Prop}{O O':Nat->Nat}{w w':ln}{i nb:Nat}{se:Bool}{g:Gr}{nv tv lv kv:G0}{xs:List K3}(h:NfO O w i nb se g nv tv lv kv xs)(u:Gs S O w O' w')(hi:i≠0)(hS:∀q,i<=q->q<i+8+2*g.ks.length->¬S q):NfO O' w' i nb se g nv tv lv kv xs:=
 ⟨h.blk.upd u hi (hS _ (G1 _) zo),h.ls.upd u zo (hS _ zo zo),h.ks.upd u hS⟩
theorem NfO.upd{S:Nat->Prop}{O O':Nat->Nat}{w w':ln}{i nb:Nat}{se:Bool}{g:Gr}{nv tv lv kv:G0}{xs:List K3}(h:NfO O w i nb se g nv tv lv kv xs)(u:Gs S O w O' w')(hi:i≠0)(hS:∀q,i<=q->¬S q):NfO O' w' i nb se g nv tv lv kv xs:=h.updT u hi fun q h _=>hS q h
theorem NfO.ext{O:Nat->Nat}{w w':ln}{i nb:Nat}{se:Bool}{g:Gr}{nv tv lv kv:G0}{xs:List K3}(h:NfO O w i nb se g nv tv lv kv xs)(e:Ie w w')(hi:i≠0):NfO O w' i nb se g nv tv lv kv xs:=
 h.upd (aa (S:=fun _=>False) (fun h=>h) O e) hi fun _ _ h=>h
def NfP(B:Nat)(O:Nat->Nat)(w w':ln)(i nb:Nat)(se:Bool)(g:Gr)(nv tv:G0):Prop:=
 ∃O' lv kv xs,Gs (fun q=>i<=q) O w O' w'/\IA B O' w'/\NfO O' w' i nb se g nv tv lv kv xs
section
variable{O:Nat→Nat}{w:ln}{i nb:Nat}{se:Bool}{g:Gr}{nv tv lv kv:G0}{xs:List K3}
theorem NfO.c0(h:NfO O w i nb se g nv tv lv kv xs):w.cell? (nA nb 0)=some (.bool se):=h.blk.cell 0 rfl
theorem NfO.c1(h:NfO O w i nb se g nv tv lv kv xs):w.cell? (nA nb 1)=some lv:=h.blk.cell 1 rfl
theorem NfO.c2(h:NfO O w i nb se g nv tv lv kv xs):w.cell? (nA nb 2)=some kv:=h.blk.cell 2 rfl
theorem NfO.c3(h:NfO O w i nb se g nv tv lv kv xs):w.cell? (nA nb 3)=some nv:=h.blk.cell 3 rfl
theorem NfO.c4(h:NfO O w i nb se g nv tv lv kv xs):w.cell? (nA nb 4)=some tv:=h.blk.cell 4 rfl
theorem Ks.f0(h:Ks O w i kv g xs){k:Nat}(hk:k<xs.length):w.cell? ((adr kv 3 k).add 0)=some (nth xs k).1:=h.row.sl.cell (j:=0) hk rfl
theorem Ks.f1(h:Ks O w i kv g xs){k:Nat}(hk:k<xs.length):w.cell? ((adr kv 3 k).add 1)=some (nth xs k).2.1:=h.row.sl.cell (j:=1) hk rfl
end
structure Bd(g:Gr)(M:Nat):Prop where
 ks:g.ks.length<=M
 ls:g.ls.length<=M
 fr:∀k,(g.fr k).length<=M
 lv:∀k,(g.lv k).length<=M
theorem Bd.mono{g:Gr}{M M':Nat}(h:Bd g M)(hm:M<=M'):Bd g M':=⟨by have:=h.ks;omega,by have:=h.ls;omega,fun k=>by have:=h.fr k;omega,fun k=>by have:=h.lv k;omega⟩
theorem Bd.knot{g:Gr}{M:Nat}(h:Bd g M):Bd g.knot (M+1):=⟨by rw[aH];have:=h.ks;omega,by have:=h.ls;show g.ls.length<=_;omega,fun k=>by
 rw[mB];split
 ·have:=h.fr k;omega
 ·simp,fun k=>by
 rw[mA];split
 ·have:=h.lv k;omega
 simp⟩
theorem Bd.free{g:Gr}{M:Nat}(h:Bd g M){a b:Nat}(ha:a<g.ks.length):Bd (g.free a b) (M+1):=⟨by rw[aW];have:=h.ks;omega,by have:=h.ls;show g.ls.length<=_;omega,fun k=>by
 rw[mE ha];split
 ·have:=h.fr a;simp;omega
 ·have:=h.fr k;omega,fun k=>by
 rw[mD ha];have:=h.lv k;omega⟩
theorem Bd.leaf{g:Gr}{M:Nat}(h:Bd g M){x c:Int}{a b:Nat}(ha:a<g.ks.length):Bd (g.leaf x c a b) (M+1):=⟨by rw[im];have:=h.ks;omega,by have:=h.ls;rw[mq];simp;omega,fun k=>by
 rw[mr ha];have:=h.fr k;omega,fun k=>by
 rw[mo ha];split
 ·have:=h.lv a;simp;omega
 have:=h.lv k;omega⟩
theorem Bd.layO{g:Gr}{M:Nat}(h:Bd g M){k:Int}{i:Nat}(hi:i+1<g.ks.length):Bd (layO k g i) (M+2):=by
 unfold IG;split<;>split
 ·exact h.mono zo
 ·exact(h.free zo).mono zo
 ·exact(h.free hi).mono zo
 exact(h.free zo).free (by rw[aW];exact hi)
theorem Bd.often{g:Gr}{M:Nat}(h:Bd g M){a b:Nat}(ha:a<g.ks.length):Bd (bK g a b) (M+4):=by
 have h2:g.knot.knot.ks.length=g.ks.length+2:=by rw[aH,aH]
 unfold bK;exact(h.knot.knot.free zo).free (by rw[aW];omega)
mutual
theorem fH:∀(t:Nd) (a b:Nat) (g:Gr) (M:Nat),WF g->a<g.ks.length->b<g.ks.length->Bd g M->Bd (fe t a b g) (M+(9*nsz t-1))
 |.mk k c l,a,b,g,M,h,ha,hb,hM=>by
  unfold fe
  simp only[nsz]
  split
  ·exact(zf l a b g M h ha hb hM).mono zo
  split
  ·exact(zn l a b g M h ha hb hM).mono zo
  split
  ·have hl:=dO g a b
   have hwf:=eL h ha hb
   obtain⟨h1,h2⟩:=mx l g.ks.length (g.ks.length+1) (bK g a b) hwf zo zo
   have:=h2.len
   have h3:=CQ l g.ks.length (g.ks.length+1) (bK g a b) (M+4) hwf zo zo (hM.often ha)
   exact(h3.layO zo).mono zo
  split
  ·exact(hM.free ha).mono zo
  exact(hM.leaf ha).mono zo
theorem zf:∀(l:List Nd) (a b:Nat) (g:Gr) (M:Nat),WF g->a<g.ks.length->b<g.ks.length->Bd g M->Bd (nc l a b g) (M+9*dZ l)
 |[],_,_,g,M,_,_,_,hM=>hM.mono zo
 |t::r,a,b,g,M,h,ha,hb,hM=>by
  unfold nc
  simp only[dZ]
  have hp:=dX t
  split
  ·exact(fH t a b g M h ha hb hM).mono zo
  have hl:=aH g
  obtain⟨h1,h2⟩:=cp t a g.ks.length g.knot h.knot zo zo
  have:=h2.len
  exact(zf r g.ks.length b _ _ h1 zo zo (fH t a g.ks.length g.knot (M+1) h.knot zo zo hM.knot)).mono zo
theorem zn:∀(l:List Nd) (a b:Nat) (g:Gr) (M:Nat),WF g->a<g.ks.length->b<g.ks.length->Bd g M->Bd (nf l a b g) (M+9*dZ l)
 |[],_,_,g,M,_,_,_,hM=>hM.mono zo
 |t::r,a,b,g,M,h,ha,hb,hM=>by
  unfold nf
  simp only[dZ]
  have hp:=dX t
  obtain⟨h1,h2⟩:=cp t a b g h ha hb
  have:=h2.len
  exact(zn r a b _ _ h1 zo zo (fH t a b g M h ha hb hM)).mono zo
theorem CQ:∀(l:List Nd) (a b:Nat) (g:Gr) (M:Nat),WF g->a<g.ks.length->b<g.ks.length->Bd g M->Bd (ou l a b g) (M+9*dZ l)
 |[],_,_,g,M,_,_,_,hM=>hM.mono zo
 |t::_,a,b,g,M,h,ha,hb,hM=>by
  unfold ou
  simp only[dZ]
  exact(fH t a b g M h ha hb hM).mono zo
end
theorem Upd.hi{U i:Nat}{O O':Nat->Nat}{w w':ln}(h:Gs (fun q=>q=U) O w O' w')(hi:i≠0)(hU:i<=U):Gs (fun q=>i<=q) O w O' w':=h.mono (fun q e=>by rw[e];exact hU) zo
theorem iq(B:Nat)(O:Nat->Nat)(w:ln)(i nb:Nat)(se:Bool)(g:Gr)(nv tv lv kv:G0)(xs:List K3)(hi:i≠0)(hR:IA B O w)(h:NfO O w i nb se g nv tv lv kv xs)(hM:g.ks.length<=100000000):
  IB GG 84 [nP nb] w fun v w'=>v=nI ((g.ks.length:Nat):Int)/\NfP B O w w' i nb se g.knot nv tv:=by
 have a0:=h.ks.len;refine G8 func84 ntmps84 rfl rfl ?_;refine zh ?_;refine zv (RV.ld h.c2 rfl) ?_;refine zv (aD Fs (zeroValue167 _) rfl (by first|rfl|(simp only[Gp,Gz];rfl)) rfl rfl) ?_;refine K1 Gi h.ks.row hR (((nS,nS,0):K3)) (fun _=>rfl) rfl rfl rfl (by simp[GD]) zo zo zo zd rfl rfl ?_;intro a3 w1 O1 a4 a5 a';have a6:=h.blk.upd a5 hi zo;refine zh ?_;refine aj (j:=2) a6 rfl (sizeOf163 _) a4.one rfl rfl rfl ?_;have a8:=a6.set 2 a3;have a2:Gs (fun q=>q=i) O1 w1 O1 (w1.setCell ⟨nb,2,none⟩ a3):=GF (fun e=>hi e.symm) a6.tag rfl;have a1:=a4.upd a2 zo zo;have a9:=a'.upd a2;generalize w1.setCell ⟨nb,2,none⟩ a3=w2 at *;have c2:w2.cell? (nA nb 2)=some a3:=a8.cell 2 rfl;have b0:=a1.sl;have b1:∀k,i+6<=k->¬(k=i+2):=fun k hk=>zo
 have a7:(xs++[((nS,nS,0):K3)]).length=g.ks.length+1:=by simp[a0]
 refine zh ?_;refine ae rfl rfl (⟨by rw[a7];congr 1;omega,O1,lv,a3,xs++[(nS,nS,0)],(Upd.hi a5 hi zo).trans (Upd.hi a2 hi (G1 _)),a9,⟨a8,(h.ls.upd a5 zo zo).upd a2 zo zo,⟨a1,by rw[a7,aH],fun k hk=>?_,fun k hk=>?_,fun k hk=>?_⟩⟩⟩)
 ·rw[ay,mB,a0]
  by_cases e:k<g.ks.length
  ·rw[if_pos e,if_pos e];exact((h.ks.fr k zo).upd a5 zo zo).upd a2 zo zo
  rw[if_neg e,if_neg e,show k-g.ks.length=0 from by omega,au];exact J5 _ _ _ _ _ _
 ·rw[ay,mA,a0]
  by_cases e:k<g.ks.length
  ·rw[if_pos e,if_pos e];exact((h.ks.lv k zo).upd a5 zo zo).upd a2 zo zo
  rw[if_neg e,if_neg e,show k-g.ks.length=0 from by omega,au];exact J5 _ _ _ _ _ _
 rw[ay,pO,a0]
 by_cases e:k<g.ks.length
 ·rw[if_pos e,if_pos e];exact h.ks.en k zo
 rw[if_neg e,if_neg e,show k-g.ks.length=0 from by omega,au]
theorem fJ(B:Nat)(O:Nat->Nat)(w:ln)(i nb:Nat)(se:Bool)(g:Gr)(nv tv lv kv:G0)(xs:List K3)(a b:Nat)(hi:i≠0)(hR:IA B O w)(h:NfO O w i nb se g nv tv lv kv xs)(ha:a<g.ks.length)(hM:(g.fr a).length<=100000000)(b8:g.ks.length<=100000000):
  IB GG 85 [nP nb,nI (a:Nat),nI (b:Nat)] w fun _ w'=>NfP B O w w' i nb se (g.free a b) nv tv:=by
 have a8:=h.ks.len;have a2:a<xs.length:=zo;have hs:=h.ks.row.sl;have f0:=h.ks.f0 a2;refine G8 func85 ntmps85 rfl rfl ?_;have a0:w.drew.cell? (nA nb 2)=some kv:=h.c2;have b6:w.drew.cell? ((adr kv 3 a).add 0)=some (nth xs a).1:=f0;refine aK (fun W=>W.cell? (nA nb 2)=some kv) 19 rfl zk ?_;refine zrm 0 rfl a0 rfl ?_;refine zr 1 rfl a0 (fun _=>aq rfl) ?_;refine zrf 2 rfl a0 rfl ?_;refine zt 3 rfl a0 (fun w1 a7=>RV.ld a7 rfl) ?_;refine zrm 4 rfl a0 rfl ?_;refine zrm 5 rfl a0 rfl ?_;refine zr 6 rfl a0 (fun _=>aq rfl) ?_;refine zrf 7 rfl a0 rfl ?_;refine zt 8 rfl a0 (fun w1 a7=>RV.ld a7 rfl) ?_;refine zrm 9 rfl a0 rfl ?_;refine zr 10 rfl a0 (fun _=>aA hs.sh GS (Iy _) rfl rfl a rfl a2) ?_;refine zrf 11 rfl a0 rfl ?_;refine zrm 13 rfl a0 rfl ?_;refine bS 12 14 jj (enc:=aJ) b rfl rfl zk zk zk zk (fun W hE=>KA (hE.cell b6) (isAgg25 _) rfl) (fun W hE=>hE.cell a0) rfl rfl rfl zd rfl rfl rfl rfl rfl ?_;intro sv w0 b1 b5;have b0:Gs (fun _=>False) O w O w0:=aa (fun h=>h) O ((GC w).drew.trans b5);have h0:=h.upd b0 hi fun _ _ h=>h
 have b4:=hR.upd b0;refine GL 15 zk rfl ?_;refine aC jj (h0.ks.fr a a2) b4 b1 (by simp) rfl rfl (by simp) (by simp[GD]) (by simp;omega) (by simp;omega) zo rfl ?_;intro fv w1 O1 a6 a4 b3;have h1:=h0.blk.upd a4 hi zo;have a':=h0.ks.row.upd a4 zo zo;have d1:w1.cell? (nA nb 2)=some kv:=h1.cell 2 rfl;refine zh ?_;refine af (d1) ?_;refine zr 16 rfl (d1) (fun _=>aA hs.sh GS (Iy _) rfl rfl a rfl a2) ?_;refine zrf 17 rfl (d1) rfl ?_;refine GL 18 zk rfl ?_;refine mQ a' a a2 0 zd ((fv,(nth xs a).2.1,(nth xs a).2.2):K3) (sizeOf25 _) a6.one zo rfl rfl rfl rfl ?_;intro w2 a9 a3;have h2:=h1.upd a3 hi zo;have d2:w2.cell? (nA nb 2)=some kv:=h2.cell 2 rfl;refine zh ?_;refine af (d2) ?_;have b2:Gs (fun q=>i<=q) O w O1 w2:=((b0.mono (fun _ h=>h.elim) zo).trans (Upd.hi a4 hi zo)).trans (Upd.hi a3 hi zo);have a5:∀k,k<xs.length->k≠a->Ia aJ 3 1 O1 w2 (i+6+2*k) (nth xs k).1 (g.fr k):=fun k hk b7=>((h0.ks.fr k hk).upd a4 zo zo).upd a3 zo zo
 have a1:∀k,k<xs.length->Ia aJ 3 1 O1 w2 (i+7+2*k) (nth xs k).2.1 (g.lv k):=fun k hk=>((h0.ks.lv k hk).upd a4 zo zo).upd a3 zo zo
 refine Il zk ?_;refine aE rfl (⟨O1,lv,kv,xs.set a (fv,(nth xs a).2.1,(nth xs a).2.2),b2,b3.upd a3,⟨h2,(h0.ls.upd a4 zo zo).upd a3 zo zo,⟨a9,by rw[GA,aW];exact a8,fun k hk=>?_,fun k hk=>?_,fun k hk=>?_⟩⟩⟩)
 ·rw[GA]at hk;rw[aP a2,mE ha]
  by_cases e:k=a
  ·subst e;rw[if_pos rfl,if_pos rfl];exact a6.upd a3 zo zo
  rw[if_neg e,if_neg e];exact a5 k hk e
 ·rw[GA]at hk;rw[aP a2,mD ha]
  by_cases e:k=a
  ·subst e;rw[if_pos rfl];exact a1 k hk
  rw[if_neg e];exact a1 k hk
 rw[GA]at hk;rw[aP a2,tH ha]
 by_cases e:k=a
 ·subst e;rw[if_pos rfl];exact h.ks.en k hk
 rw[if_neg e];exact h.ks.en k hk
section
def A3(s:List UInt8)(m:List UInt8×Nd):Bool:=(m.1==s&&bE m.2)&&(m.2.kind != 9)
def ga(kn:Kn)(r:List UInt8):PR:=
 if r.takeWhile ai=[97,110,121]then .ok (.mk 1 0 []) (r.dropWhile ai)
 else match kn.reverse.find? (A3 (r.takeWhile ai))with
  |some m=>.ok m.2 (r.dropWhile ai)
  |none=>di 0 r
def iG(kn:Kn)(al:Option (List UInt8->PR))(r0:List UInt8):PR:=
 if ai ((ak r0).headD 0)=true then ga kn (ak r0)
 else if(ak r0).headD 0=126 then di 2 (ak r0).tail
 else if(ak r0).headD 0=94 then .ok (.mk 3 0 []) (ak r0).tail
 else if(ak r0).headD 0=40 then bO al (ak r0)
 else .bad (ak r0).length 4
def ew(kn:Kn)(al:Option (List UInt8->PR))(r0:List UInt8):PR:=
 match iG kn al r0 with
 |.bad p e=>.bad p e
 |.ok t r1=>
  match opM ((ak r1).headD 0)with
  |some k=>.ok (.mk (6+(k:Nat)) 0 [t]) (ak r1).tail
  |none=>.ok t (ak r1)
def cX(kn:Kn)(al:Option (List UInt8->PR)):Nat->List Nd->List UInt8->PR
 |0,acc,r=>.ok (oneM 4 acc) r
 |n+1,acc,r=>
  if eC ((ak r).headD 0)=true then
   match ew kn al (ak r)with
   |.bad p e=>.bad p e
   |.ok t r2=>cX kn al n (acc++[t]) r2
  else .ok (oneM 4 acc) (ak r)
def AA(kn:Kn)(al:Option (List UInt8->PR))(r:List UInt8):PR:=
 match ew kn al r with
 |.bad p e=>.bad p e
 |.ok t r1=>cX kn al (r1.length+1) [t] r1
def ct(kn:Kn)(al:Option (List UInt8->PR)):Nat->List Nd->List UInt8->PR
 |0,acc,r=>.ok (oneM 5 acc) r
 |n+1,acc,r=>
  if(ak r).headD 0=124 then
   match AA kn al (ak r).tail with
   |.bad p e=>.bad p e
   |.ok t r2=>ct kn al n (acc++[t]) r2
  else .ok (oneM 5 acc) (ak r)
def mP(kn:Kn)(al:Option (List UInt8->PR))(r:List UInt8):PR:=
 match AA kn al r with
 |.bad p e=>.bad p e
 |.ok t r1=>ct kn al (r1.length+1) [t] r1
def tT(kn:Kn):Nat->List UInt8->PR
 |0=>mP kn none
 |d+1=>mP kn (some (tT kn d))
def eB(kn:Kn)(l:List UInt8):XR:=
 if 4096<l.length then .bad 0 3 else
 match tT kn 20 l with
 |.bad p e=>.bad (l.length-p) e
 |.ok t r=>if(ak r).length≠0 then .bad (l.length-(ak r).length) 4 else if 2000<nsz t then .bad 0 3 else .ok t
variable{kn:Kn}
theorem tu(r:List UInt8)(h:ai (r.headD 0)=true):Good r (ga kn r):=by
 unfold ga
 split
 ·exact iX h
 split
 ·exact iX h
 exact mJ _ _
theorem oO{al:Option (List UInt8->PR)}(ha:lE al)(r:List UInt8):Good r (iG kn al r):=by
 refine Good.mono ?_ (aT r);unfold iG
 split
 ·rename_i h;exact tu _ h
 split
 ·rename_i h;obtain⟨g1,g2⟩:=bN (r:=ak r) (by rw[h];decide);exact(mJ _ _).mono g1
 split
 ·rename_i h;obtain⟨g1,g2⟩:=bN (r:=ak r) (by rw[h];decide);exact⟨g1,zo⟩
 split
 ·rename_i h;exact nL ha _ (by rw[h];decide)
 exact⟨G1 _,zd⟩
theorem fq{al:Option (List UInt8->PR)}(ha:lE al)(r:List UInt8):Good r (ew kn al r):=by
 have h:=oO (kn:=kn) ha r;unfold ew
 cases hf:iG kn al r with
 |bad p e=>rw[hf]at h;exact h
 |ok t r1=>
  rw[hf]at h;have h2:=cU r1;dsimp only
  split
  ·rename_i k hk;obtain⟨g1,g2⟩:=bN (BR hk);exact⟨(g1.trans (aT r1)).trans h.1,by have:=h.2;omega⟩
  exact⟨(aT r1).trans h.1,by have:=h.2;omega⟩
theorem js{al:Option (List UInt8->PR)}(ha:lE al):∀(n:Nat) (a0:List Nd) (r:List UInt8),D5 r (cX kn al n a0 r)
 |0,a0,r=>IT r
 |n+1,a0,r=>by
  unfold cX
  split
  ·have h:=(fq (kn:=kn) ha (ak r)).mono (aT r)
   cases hf:ew kn al (ak r)with
   |bad p e=>rw[hf]at h;exact h
   |ok t r2=>
    rw[hf]at h;have ih:=js ha n (a0++[t]) r2;dsimp only
    cases hq:cX kn al n (a0++[t]) r2 with
    |bad p e=>rw[hq]at ih;exact⟨by have:=ih.1;have:=h.2;omega,ih.2⟩
    |ok t r3=>rw[hq]at ih;exact I5 ih h.1
  exact aT r
theorem jt{al:Option (List UInt8->PR)}(ha:lE al)(r:List UInt8):Good r (AA kn al r):=by
 have h:=fq (kn:=kn) ha r;unfold AA
 cases hf:ew kn al r with
 |bad p e=>rw[hf]at h;exact h
 |ok t r1=>
  rw[hf]at h;have ih:=js (kn:=kn) ha (r1.length+1) [t] r1;dsimp only
  cases hq:cX kn al (r1.length+1) [t] r1 with
  |bad p e=>rw[hq]at ih;exact⟨by have:=ih.1;have:=h.2;omega,ih.2⟩
  |ok t r3=>rw[hq]at ih;exact⟨I5 ih h.1,by have:=II ih;have:=h.2;omega⟩
theorem iK{al:Option (List UInt8->PR)}(ha:lE al):∀(n:Nat) (a0:List Nd) (r:List UInt8),D5 r (ct kn al n a0 r)
 |0,a0,r=>IT r
 |n+1,a0,r=>by
  unfold ct
  split
  ·rename_i hc;obtain⟨g1,g2⟩:=bN (r:=ak r) (by rw[hc];decide);have h:=((jt (kn:=kn) ha (ak r).tail).mono g1).mono (aT r)
   cases hf:AA kn al (ak r).tail with
   |bad p e=>rw[hf]at h;exact h
   |ok t r2=>
    rw[hf]at h;have ih:=iK ha n (a0++[t]) r2;dsimp only
    cases hq:ct kn al n (a0++[t]) r2 with
    |bad p e=>rw[hq]at ih;exact⟨by have:=ih.1;have:=h.2;omega,ih.2⟩
    |ok t r3=>rw[hq]at ih;exact I5 ih h.1
  exact aT r
theorem mO{al:Option (List UInt8->PR)}(ha:lE al)(r:List UInt8):Good r (mP kn al r):=by
 have h:=jt (kn:=kn) ha r;unfold mP
 cases hf:AA kn al r with
 |bad p e=>rw[hf]at h;exact h
 |ok t r1=>
  rw[hf]at h;have ih:=iK (kn:=kn) ha (r1.length+1) [t] r1;dsimp only
  cases hq:ct kn al (r1.length+1) [t] r1 with
  |bad p e=>rw[hq]at ih;exact⟨by have:=ih.1;have:=h.2;omega,ih.2⟩
  |ok t r3=>rw[hq]at ih;exact⟨I5 ih h.1,by have:=II ih;have:=h.2;omega⟩
theorem iw:∀(d:Nat) (r:List UInt8),Good r (tT kn d r)
 |0,r=>mO (fun f e=>by cases e) r
 |d+1,r=>mO (fun f e r=>by cases e;exact iw d r) r
theorem tq{r:List UInt8}{m:List UInt8×Nd}(ha:¬r.takeWhile ai=[97,110,121])(h:kn.reverse.find? (A3 (r.takeWhile ai))=some m):ga kn r=.ok m.2 (r.dropWhile ai):=by
 unfold ga;rw[if_neg ha,h]
theorem tt{r:List UInt8}(ha:¬r.takeWhile ai=[97,110,121])(h:kn.reverse.find? (A3 (r.takeWhile ai))=none):ga kn r=di 0 r:=by
 unfold ga;rw[if_neg ha,h]
end
end Go.Proofs.YtpfpmhhigheccaaGreatDoor
namespace Go.VL
section
open Go.RowKit
section
variable{P:GI}{N:Nat}{ro:Option Nat}{ds:List Deferred}{Q:J4→JZ→ln→Prop}{st:St}{w:ln}
theorem xA{ops:Array Ik}{a1:List Ik}{t:G9}{p:String}{e:Array Jh}{d:Nat}{x y z:I3}{a3:Array G9}{l:Nat}{u u2:G0}{R:Ending->ln->Prop} 
  (hx:ev st x=some (.func (.yield l) #[] #[])) (hy:ev st y=some u) (hz:ev st z=some u2) (hc:YieldAt Ir 0 P l #[u,u2] w R) (hd:GW d N=true)
  (hR:∀e w',R e w'->∃v,e=.returned v)
  (h:∀v w',R (.returned v) w'->WLI none P N ds ops Q a1 ((d,v)::st) w'):WLI none P N ds ops Q (⟨some d,.call ⟨.value x,#[y,z],a3⟩,t,p,e,none⟩::a1) st w:=by
 intro a ha;unfold wpListIn;rw[if_pos (cm rfl _)];refine⟨fun _ _=>trivial,?_⟩;obtain⟨fn,a0,assign,body,a4,hr⟩:=hc;have a2:(Oper.semAt (Fr none).round ({ a with defers:=ds }:JZ).eval ⟨some d,.call ⟨.value x,#[y,z],a3⟩,t,p,e,none⟩).run P w=.ok (.round l fn a0 assign body) w:=by
  rw[jb];rw[show(Fr none).round=none from rfl,Oper.semAt_none];simp only[execOp,resolve,GU,Gy,I4,ha.ev hx,ha.ev hy,ha.ev hz];simp[L0,invoke,a4]
 rw[a2];refine⟨fun hh=>by simp[Ir]at hh,?_⟩;refine L5 (hr:RoundIn Ir _ P l fn a0 assign body w _) ?_;intro e' w' q;obtain⟨v,rfl⟩:=hR _ _ q;have:=h v w' q _ (ha.put hd v);simpa[L1]using this
end
def D4{α:Type}(P:GI)(gf:Nat)(lb:List G0)(ex:Nat->G0)(enc:α->G0)(xs:List α)(Rd:ln->Prop):Prop:=
 ∀(l:Nat) (J:Nat->ln->Prop) (Jx:ln->Prop) (W:ln),(∀i W,J i W->Rd W)->(∀i W W',J i W->Ie W W'->J i W')->
  (∀i (hi:i<xs.length) W W',J i W->Ie W W'->YieldAt Ir 0 P l #[ex i,enc xs[i]] W' fun e W2=>((e=.returned (.bool true)/\J (i+1) W2)\/(e=.returned (.bool false)/\Jx W2))/\∀b,W.heap.size<=b->b<W'.heap.size->W2.heap[b]? = W'.heap[b]?)->
  J 0 W->IB P gf (.func (.yield l) #[] #[]::lb) W fun _ W'=>J xs.length W'\/Jx W'
theorem qh{P:GI}{N:Nat}{ds:List Deferred}{Q:J4->JZ->ln->Prop}{st:St}{w:ln}{α:Type}{g:I3}{p0 p1 d0:Nat}{T:G9}{id:Nat}{e1 e2:Array Jh}{q1 q2:String}{t1 t2:G9}{body:L7} 
  {gf:Nat} {lb:List G0} {ex:Nat->G0} {enc:α->G0} {xs:List α} {Rd:ln->Prop}
  (hg:ev st g=some (.func (.func gf) #[] lb.toArray)) (eg:∀args w,(callFunc gf args).run P w=.ok (.enter gf args) w) (it:D4 P gf lb ex enc xs Rd)
  (e9:GW p0 N=true) (e8:GW p1 N=true) (f6:GW d0 N=true) {z:G0} (hz:∀W:ln,(J7 T).run P W=.ok z W) 
  {B:Nat} {O:Nat->Nat} (r:IA B O w) (L K:Nat) (hL:L≠0) (hK:K≠0) (d3:L≠K)
  (b0:∀(W:ln) (O':Nat->Nat) (b:Nat) (y:G0) (x:α) (_:x∈xs) (ops:Array Ik) (Q':J4->JZ->ln->Prop),GQ O' W K b z.cells T->
   (∀w2,GQ O' w2 K b (enc x).cells T->Gs (fun j=>j=K) O' W O' w2->WL P N ops Q' [] ((d0,nP b)::(p1,enc x)::(p0,y)::st) w2)->
   WL P N ops Q' [⟨none,.store T (.tmp d0) (.tmp p1),t2,q2,e2,none⟩] ((d0,nP b)::(p1,enc x)::(p0,y)::st) W)
  (I:Nat->(Nat->Nat)->ln->Prop) (Ix:L7->(Nat->Nat)->ln->Prop)
  (hI:∀i O W O' W',I i O W->Gs (fun j=>j=L\/j=K) O W O' W'->I i O' W') (d4:∀c O W O' W',Ix c O W->Gs (fun j=>j=L) O W O' W'->Ix c O' W')
  (g0:∀i O W,I i O W->Rd W) (h0:I 0 O w)
  (b6:∀l i (hi:i<xs.length) b O' W,IA B O' W->I i O' W->GQ O' W K b (enc xs[i]).cells T->
   WI (some l) P N [] body (yr O' W L (I (i+1)) Ix) ((d0,nP b)::(p1,enc xs[i])::(p0,ex i)::st) W)
  (b5:∀D O' W,IA B O' W->O' D=L->I xs.length O' W->W.heap[D]? = some (.deferred (some []))->QI N ({ target:=.collected D,args:=#[] }::ds) Q .normal st W)
  (hstop:∀D c O' W,IA B O' W->O' D=L->Ix c O' W->W.heap[D]? = some (.deferred (some []))->WI none P N ({ target:=.collected D,args:=#[] }::ds) c Q st W) :
  WI none P N ds (.rangeFunc g #[p0,p1] (.region id #[⟨some d0,.alloc T,t1,q1,e1,none⟩,⟨none,.store T (.tmp d0) (.tmp p1),t2,q2,e2,none⟩] false) body) Q st w:=by
 intro a ha;refine wpIn_rangeFunc ?_;intro fn g6;rw[show(Fr none).round=none from rfl];obtain⟨D,hD⟩:∃D,D=w.heap.size:=⟨_,rfl⟩
 obtain⟨e7,b8⟩:∃c,c=Code.region id #[⟨some d0,.alloc T,t1,q1,e1,none⟩,⟨none,.store T (.tmp d0) (.tmp p1),t2,q2,e2,none⟩] false:=⟨_,rfl⟩
 rw[<-b8];obtain⟨a5,a2⟩:∃a5:LoopState->Option L7->Loop,a5=fun st pe=>{ state:=st,pending:=pe,fn,tmps:=a.tmps,params:=#[p0,p1],assign:=e7,body,defers:=D }:=⟨_,rfl⟩
 obtain⟨W1,b'⟩:∃W1,(w.alloc (.deferred (some []))).alloc (.loop (a5 .ready none))=W1:=⟨_,rfl⟩
 obtain⟨O1,d2⟩:∃O1,kW (kW O D L) (D+1) L=O1:=⟨_,rfl⟩
 have d5:¬(fun j=>j=L) 0:=fun e=>hL e.symm
 have e4:Gs (fun j=>j=L) O w (kW O D L) (w.alloc (.deferred (some []))):=by rw[hD];exact IW d5 r _ L
 have e5:Gs (fun j=>j=L) O w O1 W1:=by
  rw[<-b',<-d2];refine e4.trans ?_;have:=IW (S:=fun j=>j=L) d5 (r.upd e4) (.loop (a5 .ready none)) L
  rwa[JJ,<-hD]at this
 have g1:IA B O1 W1:=r.upd e5;have g2:W1.heap[D+1]? = some (.loop (a5 .ready none)):=by
  rw[<-b',hD];have:=Jj (w.alloc (.deferred (some []))) (.loop (a5 .ready none));rwa[JJ]at this
 have g3:W1.heap[D]? = some (.deferred (some [])):=by
  rw[<-b',hD];exact(Below.heap_alloc _ _ _ (by simp)).trans (Jj w _)
 have hO1D:O1 D=L:=by rw[<-d2];unfold kW;rw[if_neg zo,if_pos rfl]
 have hO1L:O1 (D+1)=L:=by rw[<-d2];exact dr _ _ _
 have g4:I 0 O1 W1:=hI _ _ _ _ _ h0 (e5.mono (fun _ h=>.inl h) (by rintro(h|h);exact hL h.symm;exact hK h.symm))
 refine⟨D+1,[{ target:=.collected D,args:=#[] }],W1,{ target:=.fn (.func gf) lb.toArray,args:=#[.func (.yield (D+1)) #[] #[]] },W1,gf,
  #[.func (.yield (D+1)) #[] #[]]++lb.toArray,W1,?_,?_,fun _ _=>trivial,?_,fun hh=>by simp[Ir]at hh,?_⟩
 ·rw[<-b',a2,hD];exact run_enterLoop_outer _ _ _ _ _
 ·simp only[resolve,ha.evD hg ds];simp[go_sem]
 ·simp[invoke,go_sem,eg]
 have hJ:=it (D+1)
  (fun i W=>∃O',IA B O' W/\O' D=L/\O' (D+1)=L/\I i O' W/\W.heap[D+1]? = some (.loop (a5 .ready none))/\W.heap[D]? = some (.deferred (some [])))
  (fun W=>∃c O',IA B O' W/\O' D=L/\O' (D+1)=L/\Ix c O' W/\W.heap[D+1]? = some (.loop (a5 .done (some c)))/\W.heap[D]? = some (.deferred (some [])))
  W1 (fun i W ⟨O',_,_,_,h,_⟩=>g0 i O' W h) (fun i W W' ⟨O',h1,h2,h3,h4,h5,h6⟩ hE=>⟨O',h1.ext hE,h2,h3,hI _ _ _ _ _ h4 (aa (by rintro(h|h);exact hL h.symm;exact hK h.symm) _ hE),(hE.block _ (bm h5)).trans h5,(hE.block _ (bm h6)).trans h6⟩) ?_ ⟨O1,g1,hO1D,hO1L,g4,g2,g3⟩
 ·unfold IB at hJ;rw[show(Value.func (.yield (D+1)) #[] #[]::lb).toArray = #[.func (.yield (D+1)) #[] #[]]++lb.toArray from by simp]at hJ;refine L8 (callsIn_wide.2 hJ:CallsIn Ir _ P gf _ W1 _) ?_;rintro e W2 q
  cases e with
  |returned v=>
   rcases q with⟨O',a7,b2,b1,hi,hl,hk⟩|⟨c,O',a7,b2,b1,hi,hl,hk⟩
   ·refine⟨none,_,by have:=run_endLoop (P:=P) hl (by rw[a2];simp);rw[a2]at this;exact this,?_⟩;have b3:=Iu hL b1 (w:=W2) (.loop { a5 .ready none with state:=.exhausted });rw[a2]at b3;have:=b5 D O' _ (a7.upd b3) b2 (hI _ _ _ _ _ hi (b3.mono (fun _ h=>.inl h) (by rintro(h|h);exact hL h.symm;exact hK h.symm))) ((GO zo).trans hk) a ha;exact this
   refine⟨some c,_,by have:=run_endLoop (P:=P) hl (by rw[a2];simp);rw[a2]at this;exact this,?_⟩;have b3:=Iu hL b1 (w:=W2) (.loop { a5 .done (some c)with state:=.exhausted });rw[a2]at b3;exact hstop D c O' _ (a7.upd b3) b2 (d4 _ _ _ _ _ hi b3) ((GO zo).trans hk) a ha
  |panicked c=>exact q.elim
  |outgrown=>exact q.elim
 rintro i hi W0 W ⟨O',e6,b2,b1,c8,c7,d'⟩ c5;have a7:=e6.ext c5;have f5:=hI _ _ _ _ _ c8 (aa (S:=fun j=>j=L\/j=K) (by rintro(h|h);exact hL h.symm;exact hK h.symm) O' c5);have hl:=(c5.block _ (bm c7)).trans c7;have hk:=(c5.block _ (bm d')).trans d';have g5:=bm c7;have hy:=run_yield (P:=P) (args:=#[ex i,enc xs[i]]) hl (by rw[a2];rfl);rw[a2]at hy;refine⟨fn,_,e7,body,hy,roundIn_of_wpIn trivial ?_⟩;have c9:KX N ((a.put (some p0) (ex i)).put (some p1) (enc xs[i])) ((p1,enc xs[i])::(p0,ex i)::st):=(ha.put e9 _).put e8 _;have d1:({ tmps:=(#[p0,p1].zip #[ex i,enc xs[i]]).foldl (fun tmps (t,a)=>tmps.setIfInBounds t a) a.tmps,defers:=[] }:JZ) = { (a.put (some p0) (ex i)).put (some p1) (enc xs[i])with defers:=[] }:=by simp[L1]
 rw[d1];rw[b8];refine(GN (ro:=some (D+1)) (ds:=[]) (P:=P) (N:=N) (.inr rfl) (fun _ _ h=>h) ?_:WI (some (D+1)) P N [] _ _ ((p1,enc xs[i])::(p0,ex i)::st) W) _ c9;refine ar a7 K hK (hz W) f6 ?_;intro b w1 O2 hb f' g8 g9;refine b0 w1 O2 b (ex i) xs[i] (IU hi) _ _ hb ?_;intro w2 b7 f9;refine JP (Ic ?_);intro a3 f8;have c6:D+1<W.heap.size:=(Array.getElem?_eq_some_iff.1 hl).1;have b9:Gs (fun j=>j=K) O' W O2 w2:=f'.trans f9;have d8:w2.heap[D+1]? = some (.loop (a5 .ready none)):=(b9.blk (D+1) c6 (by rw[b1];exact d3)).trans hl;have f4:w2.heap[D]? = some (.deferred (some [])):=(b9.blk D zo (by rw[b2];exact d3)).trans hk;have ho2L:O2 (D+1)=L:=(b9.tag (D+1) (by rw[b1];exact hL)).trans b1;have ho2D:O2 D=L:=(b9.tag D (by rw[b2];exact hL)).trans b2;refine⟨_,run_beginRound d8 (by rw[a2]),?_⟩;have e3:=Iu hL ho2L (w:=w2) (.loop { a5 .ready none with state:=.busy });have a':¬(fun j=>j=L\/j=K) 0:=by rintro(h|h);exact hL h.symm;exact hK h.symm
 have a1:Gs (fun j=>j=L\/j=K) O' W O2 (w2.putObj (D+1) (.loop { a5 .ready none with state:=.busy })):=(b9.mono (fun _ h=>.inr h) a').trans (e3.mono (fun _ h=>.inl h) a');have d7:(w2.putObj (D+1) (.loop { a5 .ready none with state:=.busy })).heap[D+1]? = some (.loop { a5 .ready none with state:=.busy }):=Jf (bm d8);have d9:(w2.putObj (D+1) (.loop { a5 .ready none with state:=.busy })).heap[D]? = some (.deferred (some [])):=(GO zo).trans f4;have c':=b6 (D+1) i hi b O2 _ (a7.upd a1) (hI _ _ _ _ _ f5 a1) (b7.upd e3 hK (fun e=>d3 e.symm)) a3 f8;generalize w2.putObj (D+1) (.loop { a5 .ready none with state:=.busy })=w3 at *;refine wpIn_mono c' ?_;have fin:∀(a0:Option L7) (O4:Nat->Nat) (w4:ln),Gs (fun j=>j≠0/\j≠L) O2 w3 O4 w4->
   (Instr.endRound (D+1) a0).run P w4=.ok (.bool a0.isNone) (w4.putObj (D+1) (.loop (a5 (if a0.isNone then .ready else .done) a0)))/\
   Gs (fun j=>j=L) O4 w4 O4 (w4.putObj (D+1) (.loop (a5 (if a0.isNone then .ready else .done) a0)))/\O4 D=L/\O4 (D+1)=L/\
   (w4.putObj (D+1) (.loop (a5 (if a0.isNone then .ready else .done) a0))).heap[D+1]? = some (.loop (a5 (if a0.isNone then .ready else .done) a0))/\
   (w4.putObj (D+1) (.loop (a5 (if a0.isNone then .ready else .done) a0))).heap[D]? = some (.deferred (some [])):=by
  intro a0 O4 w4 a6;have d6:=(a6.blk (D+1) (bm d7) (by rw[ho2L];exact fun h=>h.2 rfl)).trans d7;have f3:=(a6.blk D (bm d9) (by rw[ho2D];exact fun h=>h.2 rfl)).trans d9;have ho4D:O4 D=L:=(a6.tag D (by rw[ho2D];exact hL)).trans ho2D;have ho4L:O4 (D+1)=L:=(a6.tag (D+1) (by rw[ho2L];exact hL)).trans ho2L;have:=run_endRound (P:=P) a0 d6;rw[a2]at this ⊢;exact⟨this,Iu hL ho4L _,ho4D,ho4L,Jf (bm d6),(GO zo).trans f3⟩
 have a9:∀(O4:Nat->Nat) (w4:ln) (o:Obj),Gs (fun j=>j≠0/\j≠L) O2 w3 O4 w4->∀b,W0.heap.size<=b->b<W.heap.size->(w4.putObj (D+1) o).heap[b]? = W.heap[b]?:=by
  intro O4 w4 o a6 b g7 b7;have e0:O' b=0:=GJ fun e'=>by have:=(e6.rng b e').2;omega
  have f7:=a1.zero b7 e0;have e1:=a1.blk b b7 (by rw[e0];rintro(h|h);exact hL h.symm;exact hK h.symm);have e2:=a6.blk b (JK b7 a1.size) (by rw[f7];exact fun h=>h.1 rfl);rw[GO zo,e2,e1]
 rintro e a4 w4 q
 cases e with
 |normal=>
  obtain⟨O4,a6,b4⟩:=q;obtain⟨hr,a8,h1,h2,h3,h4⟩:=fin none O4 w4 a6;exact⟨_,_,hr,.inl ⟨rfl,O4,((a7.upd a1).upd a6).upd a8,h1,h2,hI _ _ _ _ _ b4 (a8.mono (fun _ h=>.inl h) a'),h3,h4⟩,a9 O4 w4 _ a6⟩
 |ret=>
  obtain⟨O4,a6,b4⟩:=q;obtain⟨hr,a8,h1,h2,h3,h4⟩:=fin (some .ret) O4 w4 a6;exact⟨_,_,hr,.inr ⟨rfl,.ret,O4,((a7.upd a1).upd a6).upd a8,h1,h2,d4 _ _ _ _ _ b4 a8,h3,h4⟩,a9 O4 w4 _ a6⟩
 |exit id'=>
  obtain⟨O4,a6,b4⟩:=q;obtain⟨hr,a8,h1,h2,h3,h4⟩:=fin (some (.exit id')) O4 w4 a6;exact⟨_,_,hr,.inr ⟨rfl,.exit id',O4,((a7.upd a1).upd a6).upd a8,h1,h2,d4 _ _ _ _ _ b4 a8,h3,h4⟩,a9 O4 w4 _ a6⟩
 |_=>exact q.elim
end
end Go.VL
section
namespace Go.VL
section
variable{P:GI}{N:Nat}{ops:Array Ik}{Q:J4→JZ→ln→Prop}{rest:List Ik}{st:St}{w:ln}
variable{t:G9}{p:String}{e:Array Jh}{d:Nat}{x y z:I3}
theorem bB{T E:G9}{sz a0:Nat}(he:Kh P T E sz a0){α:Type}{enc:α->List G0}{B:Nat}{O:Nat->Nat}(r:IA B O w)(i:Nat)(a6:i≠0)(u:α){xv:G0}(hx:ev st x=some xv)(a2:xv.cells.toList=enc u)(a3:(enc u).length=sz)(hs:sz<=16777216)(hd:GW d N=true) 
  (h:∀v w' O',Ia enc E sz O' w' i v [u]->Gs (fun k=>k=i) O w O' w'->IA B O' w'->WL P N ops Q rest ((d,v)::st) w'):WL P N ops Q (⟨some d,.buildSlice T 1 #[(0,x)],t,p,e,none⟩::rest) st w:=by
 obtain⟨a4,z,hi,hz,a1,a9,a8⟩:=he.parts;have a7:xv.cells.size=sz:=by rw[<-a3,<-a2];simp
 have a5:=he.pos;have u1:=IW (S:=fun k=>k=i) (fun e=>a6 e.symm) r (.cells xv.cells E) i;refine IH (v:=.slice (some ⟨w.heap.size,0,none⟩) 1 1) (w':=w.alloc (.cells xv.cells E)) hd (fun a ha=>?_) (h _ _ (kW O w.heap.size i) ⟨⟨?_,fun g hg=>?_⟩,fun c hc=>by rw[Ih.1 hc];exact a3⟩ u1 (r.upd u1))
 ·have:=run_buildSlice (P:=P) w T E 1 #[(0,xv)] xv.cells a4 z he.ht hi hz (by rw[a1];omega) (by rw[a1];omega) (by
   rw[a1]
   exact jN a7 (by simp))
  simp only[execOp,GU,Gy,I4,ha.ev hx,G7,this,G2];rfl
 ·have:=World.ownsRow_lit (base:=0) (size:=sz) (e:=E) w xv.cells 1 (GB _) (by simp[maxLen]) zo;simpa[a2]using this
 simp[Value.ownBlock]at hg;subst hg;exact dr _ _ _
end
section
variable{P:GI}{N:Nat}{st:St}{w:ln}{fn:Func}{R:G0→ln→Prop}
theorem gV{t:Tmp}{T:G9}{q:Ki}{us:List G0}(hr:fn.results = #[.cell t T])(hv:bV st t=some (.pointer (some q))) 
  (hc:∀j u,us[j]? = some u->w.cell? (q.add j)=some u) (hT:(KY T).run P w=.ok true w) (hn:(JH T).run P w=.ok us.length w) (h:R (.agg us.toArray) w):Leave P N fn R [] st w:=
 Leave.nil (fun a ha=>by have h1:=ha.get _ _ hv;simp[results,hr,Array.getD_eq_getD_getElem?,h1,asAddr,cY hc hT hn]) h
end
end Go.VL
namespace Go.Proofs.YtpfpmhhigheccaaGreatDoor
open Go.VL Go.Proofs
set_option maxRecDepth 10000
theorem elM:Kh GG 146 218 4 56:=⟨KK,by kernel_rfl,zd⟩
theorem sj(q:Option Ki)(n c:Nat)(w:ln):IB GG 210 [.slice q n c] w fun v w'=>∃b,v=.func (.func 211) #[] #[nP b]/\w'.cell? ⟨b,0,none⟩=some (.slice q n c)/\w.heap.size<=b/\Ie w w':=by
 refine G8 func210 ntmps210 rfl rfl ?_;refine zh ?_
 refine aG (aw w) 1 zo rfl rfl ?_;intro b w1 O1 hb a2 a0 a1;refine zh ?_
 refine zvH (dH rfl rfl) ?_;refine ae rfl rfl (⟨b,rfl,hb.cell 0 rfl,(a0.rng b (by rw[hb.tag];decide)).1,a1⟩)
theorem yu{α:Type}[Inhabited α]{l:List α}{i:Nat}(h:i<l.reverse.length):l.reverse[i]=nth l (l.length-1-i):=by
 rw[GY]at h;rw[List.getElem_reverse,aB zo]
theorem nM(kv:G0)(ms:List M3)(b:Nat):D4 GG 211 [nP b] (fun i=>nI ((ms.length:Int)-1-(i:Int))) (fun m:M3=>.agg (ke m).toArray) ms.reverse (fun W=>W.cell? ⟨b,0,none⟩=some kv/\Sl ke 4 W kv ms):=by
 intro lp J Jx W a3 a9 hY h0;obtain⟨a8,a4⟩:=a3 _ _ h0;have a6:=a4.len_le;have a5:ms.reverse.length=ms.length:=GY;refine oS func211 ntmps211 rfl rfl ?_;refine I0 ?_;refine GN (.inl rfl) (fun _ _ h=>h) ?_;refine zh ?_;refine Ic ?_;refine aR ?_;refine Jz ?_;refine WI.loop (fun x:Nat×ln×Int=>[(0,.func (.yield lp) #[] #[]),(1,nP b),(3,nI x.2.2)]) (fun x:Nat×ln×Int=>x.2.1) (fun x:Nat×ln×Int=>x.1<=ms.length/\J x.1 x.2.1/\x.2.2=(ms.length:Int)-1-(x.1:Nat)) (fun x:Nat×ln×Int=>ms.length-x.1) (0,W,(ms.length:Int)-1) (⟨GB _,h0,by dsimp only;omega⟩) ⟨rfl,rfl,rfl,trivial⟩ rfl ?_;rintro⟨i,w1,z⟩ ⟨hi,hJ,hz⟩;dsimp only at hi hJ hz ⊢;subst hz;obtain⟨hb,hs⟩:=a3 _ _ hJ;refine I0 ?_;refine I0 ?_;refine GN (.inl rfl) (fun _ _ h=>h) ?_;refine zh ?_;refine Ic ?_;refine aR ?_;refine WI.cond rfl ?_ ?_
 ·intro a0;replace a0:i<ms.length:=dT a0;have hy:=hY i zo w1 w1 hJ (GC _);rw[yu]at hy;dsimp only at hy;refine J8 ?_;refine aR ?_;refine I0 ?_;refine Jz ?_;refine I0 ?_;refine tX 6 (.inl rfl) (fun _ _ h=>h) ?_;refine zh ?_;refine zv (IR hs KK (Kq _) rfl rfl (ms.length-1-i) zo zo) ?_;refine zvH (ah (us:=ke (nth ms (ms.length-1-i))) (fun j u hu=>hs.cell zo hu) (isAgg218 _) (Kq _) rfl) ?_;refine Ic (Dc ?_);refine xA rfl rfl rfl (hy) rfl (by rintro e w' ⟨⟨rfl,_⟩|⟨rfl,_⟩,_⟩<;>exact⟨_,rfl⟩) ?_;rintro v w5 ⟨⟨e,a1⟩|⟨e,a1⟩,a7⟩
  ·obtain rfl:=IV e;refine B7 (.inl rfl) (fun _ _ h=>h) ?_;refine zh ?_;refine Ic ?_;refine aR ?_;refine jX rfl (rfl) ?_;refine J8 ?_;refine cK ?_;refine aR ?_;refine GN (.inl rfl) (fun _ _ h=>h) ?_;refine zh ?_;refine Ic ?_;refine QI.next ((i+1,w5,(ms.length:Int)-1-(i:Int)-1)) (⟨a0,a1,by dsimp only;omega⟩) (by dsimp only;omega) ⟨rfl,rfl,rfl,trivial⟩ rfl
  obtain rfl:=IV e;refine B7 (.inl rfl) (fun _ _ h=>h) ?_;refine zh ?_;refine Ic ?_;refine aR ?_;refine qi rfl (rfl) ?_;refine JQ ?_;refine fX ?_;refine iC ?_;refine iC ?_;refine fX ?_;exact ka (mX rfl (.inr a1))
 intro a2;replace a2:¬i<ms.length:=dF a2;obtain rfl:i=ms.length:=zo;refine WI.exit ?_;refine mT ?_;refine mT ?_;refine uj ?_;exact ka (mX rfl (.inl (by rw[a5];exact hJ)))
end Go.Proofs.YtpfpmhhigheccaaGreatDoor
end
namespace Go.Proofs.YtpfpmhhigheccaaGreatDoor
section
variable{kv:G0}{kn:Kn}
theorem cells_from{w:ln}{b:Nat}{us vs:List G0}(k:Nat)(h:∀(j:Nat) (u:G0),us[j]? = some u->w.cell? (nA b j)=some u)(hv:∀(q:Nat) (u:G0),vs[q]? = some u->us[k+q]? = some u):∀(q:Nat) (u:G0),vs[q]? = some u->w.cell? ((nA b k).add q)=some u:=fun q u hu=>by
 have h1:=h (k+q) u (hv q u hu);have e:((nA b k).add q)=((⟨b,0,none⟩:Ki).add (k+q)):=by
  simp only[Ip];(repeat' split)<;>simp_all[]
 rw[e];exact h1
theorem KnownM.ex{O:Nat->Nat}{w:ln}{ms:List M3}(h:KnownM O w kv kn ms):Known O w kv kn:=⟨ms,h⟩
theorem CO{O:Nat->Nat}{w:ln}{ms:List M3}(h:KnownM O w kv kn ms){x:M3}(hx:x∈ms.reverse):(ke x).toArray.toList.all GD=true:=by
 obtain⟨i,hi,e⟩:=Jv (List.mem_reverse.1 hx);have h1:=(h.2.2.2 i hi).2.one;rw[aB hi,e]at h1;simp only[ke,Gp,h1];rfl
theorem zN{α:Type}[Inhabited α]{p:α->Bool}{l:List α}(h:∀q,q<l.length->p (nth l q)=false):l.find? p=none:=by
 rw[JE];intro x hx;obtain⟨i,hi,rfl⟩:=Jv hx;have:=h i hi;rw[aB hi]at this;rw[this];decide
theorem zO{α:Type}[Inhabited α]{p:α->Bool}:∀ {l:List α} {k:Nat},k<l.length->(∀q,q<k->p (nth l q)=false)->p (nth l k)=true->l.find? p=some (nth l k)
 |[],k,hk,_,_=>absurd hk (by simp)
 |a::l,0,_,_,hp=>by rw[au]at hp ⊢;rw[K5,hp]
 |a::l,k+1,hk,h,hp=>by
  have h0:=h 0 zo;rw[au]at h0;rw[bp]at hp ⊢;rw[K5,h0];exact zO (by simpa using hk) (fun q hq=>by have:=h (q+1) (zo);rwa[bp]at this) hp
theorem CG{α:Type}[Inhabited α]{l:List α}{i:Nat}(h:i<l.length):nth l.reverse i=nth l (l.length-1-i):=by
 rw[aB (by rw[GY];exact h),yu]
theorem yP(op:Int)(h':0<=op/\op<=20):Reads kv kn 206 [] op (ga kn) (fun r=>ai (r.headD 0)=true):=by
 intro B O j rb l r w hR hj hr hl h9 h i3;obtain⟨T,a1,hT⟩:=hR.bound;have j5:j<T:=by rw[<-h.tag];exact hT rb
 have j4:=hr.length_le;refine oS func206 ntmps206 rfl rfl ?_;refine I0 ?_;refine GN (.inl rfl) (fun _ _ h=>h) ?_;refine ar hR T zo (G6 _) rfl ?_;intro xb w1 O1 h0 g0 j3 k0;have f9:=h.upd g0 hj zo;refine zh ?_;refine Ic ?_;refine aR ?_;refine I0 ?_;refine GN (.inl rfl) (fun _ _ h=>h) ?_;refine zh ?_;refine zvH (RV.ld f9.r1 rfl) ?_;refine Ic ?_;refine aR ?_;refine I0 ?_;refine GN (.inl rfl) (fun _ _ h=>h) ?_;refine zh ?_;refine zc call209 (uJ O1 w1 j rb l r op 0 0 hj hr zo f9) ?_;rintro v w2 ⟨rfl,i9,e1⟩;have g':=h0.upd e1 zo zo;have g5:=j3.upd e1;have i':=(g0.pT hj a1 (G1 _)).trans (e1.pj a1);refine ar g5 (T+1) zo (zeroValue9 _) rfl ?_;intro sb w3 O3 d5 j1 j9 j';refine aj (j:=0) d5 rfl (KQ _) rfl rfl rfl rfl ?_;have e4:=d5.set 0 (.string (bs (r.takeWhile ai)));have j0:Gs (fun k=>k=T+1) O3 w3 O3 (w3.setCell ⟨sb,0,none⟩ (.string (bs (r.takeWhile ai)))):=GF zo d5.tag rfl;have a8:=j1.trans j0;have c6:=g'.upd a8 zo zo;have d9:=i9.upd a8 hj zo;have g4:=g5.upd a8;have b0:=i'.trans (a8.pT hj a1 (GT _));generalize w3.setCell ⟨sb,0,none⟩ (.string (bs (r.takeWhile ai)))=w4 at *;refine zh ?_;refine Ic ?_;refine aR ?_;refine I0 ?_;refine I0 ?_;refine GN (.inl rfl) (fun _ _ h=>h) ?_;refine zv (RV.ld (e4.cell 0 rfl) rfl) ?_;refine zvH (bU rfl rfl) ?_;refine Ic ?_;refine aR ?_
 by_cases ha:r.takeWhile ai=[97,110,121]
 ·have hM:ga kn r=.ok (.mk 1 0 []) (r.dropWhile ai):=by unfold ga;rw[if_pos ha]
  refine qi rfl ((by rw[ha];rfl)) ?_;refine I0 ?_
  refine GN (.inl rfl) (fun _ _ h=>h) ?_;refine zv (aD vH (G6 _) rfl (by first|rfl|(simp only[Gp,Gz];rfl)) rfl rfl) ?_
  refine zsa (us:=(#[nI 1,nI 0,nS])) c6 (ix _) ?_;have d3:=Gq (us:=(#[nI 1,nI 0,nS])) c6;have f':Gs (fun k=>k=T) O3 w4 O3 (Gn w4 xb (#[nI 1,nI 0,nS])):=G4 zo (Gu c6) rfl;have d8:=Gt d9 f' hj zo;refine zh ?_
  refine Ic ?_;refine aR ?_
  refine JQ ?_;refine iC ?_
  refine ka (gV rfl rfl d3.cellsAdd (G5 _) (ix _) ⟨(1,0,nS),rfl,(b0.trans (f'.pT hj a1 (G1 _))).priv hT hj,?_⟩);rw[hM];exact⟨d8.fgt h.tag,KB _ _ _ _⟩
 obtain⟨ms,c9⟩:=i3.upd b0;obtain⟨qa,qc,f3,_⟩:=c9.1.shape;have i2:=c9.1.len_le;have i4:kn.length=ms.length:=c9.2.2.1;refine jX rfl ((by simpa using ha)) ?_;subst f3;refine J8 ?_;refine aR ?_;refine I0 ?_;refine I0 ?_;refine GN (.inl rfl) (fun _ _ h=>h) ?_;refine zh ?_;refine zv (RV.ld d9.r2 rfl) ?_;refine zc call210 (sj qa ms.length qc w4) ?_;rintro v w5 ⟨b,rfl,i8,j8,g7⟩;have b8:Gs (fun _=>False) O3 w4 O3 w5:=aa (fun h=>h) O3 g7;have d3:=c6.upd b8 zo (fun h=>h);have h8:=e4.upd b8 zo (fun h=>h);have d8:=d9.upd b8 hj (fun h=>h);have j2:=g4.upd b8;have f7:=c9.upd b8;have e0:=b0.trans (iN O3 g7 hj a1);have i7:Fixed O3 w5 ⟨b,0,none⟩ (.slice qa ms.length qc):=⟨i8,GJ fun i0=>by have:=(g4.rng b i0).2;omega⟩
 generalize f3:Value.slice qa ms.length qc=kv at *;generalize c7:r.takeWhile ai=sw at *;have e5:∀ {S:Nat->Prop} {O' O2:Nat->Nat} {W W':ln},Gs S O' W O2 W'->(∀k,S k->T<=k)->Gs (fun k=>k=j\/T<=k) O' W O2 W':=fun h hS=>h.mono (fun k hk=>.inr (hS k hk)) (fun e=>by rcases e with e|e;exact hj e.symm;omega)
 refine zh ?_;refine Ic ?_
 refine aR ?_;refine Jz ?_
 refine qh (L:=T+2) (K:=T+3) rfl call211 (nM kv ms b) rfl rfl rfl (fun W=>zeroValue218 W) j2 zo zo zo (fun W O' pb y x hx ops Q' hb h=>aZ (us:=(ke x).toArray) hb rfl (Kq _) (CO f7 hx) rfl rfl rfl (h _ hb.setRow (G4 zo hb.tag rfl))) (fun k O' W=>Gs (fun p=>p=j\/T<=p) O w O' W/\GQ O' W T xb #[nI 0,nI 0,nS] 86/\GQ O' W (T+1) sb #[.string (bs sw)] 9/\Rdr kv O' W j rb l ((l.length:Int)-((r.dropWhile ai).length:Int)) op 0 0/\Fixed O' W ⟨b,0,none⟩ kv/\KnownM O' W kv kn ms/\∀q,q<k->A3 sw (nth kn.reverse q)=false) (fun c O' W=>c=.ret/\Gs (fun p=>p=j\/T<=p) O w O' W/\Rdr kv O' W j rb l ((l.length:Int)-((r.dropWhile ai).length:Int)) op 0 0/\∃m x,kn.reverse.find? (A3 sw)=some m/\Nt O' W m.2 x/\GQ O' W T xb #[nI x.1,nI x.2.1,x.2.2] 86) (fun i O' W O2 W' ⟨h1,h2,h3,h4,h5,h6,h7⟩ hU=>⟨h1.trans (e5 hU (fun k hk=>zo)),h2.upd hU zo zo,h3.upd hU zo zo,h4.upd hU hj zo,h5.upd hU,h6.upd hU,h7⟩) (fun c O' W O2 W' ⟨h1,h2,h3,m,x,h4,h5,h6⟩ hU=>⟨h1,h2.trans (e5 hU (fun k hk=>zo)),h3.upd hU hj zo,m,x,h4,h5.upd hU,h6.upd hU zo zo⟩) (fun i O' W ⟨_,_,_,_,h5,h6,_⟩=>⟨h5.cell,h6.1⟩) ⟨e0,d3,h8,d8,i7,f7,fun q hq=>absurd hq zo⟩ ?_ ?_ ?_
 ·rintro lp i hi pb O6 w6 d0 ⟨b3,b1,c8,a',d6,b6,a3⟩ b2;rw[GY]at hi;have i5:ms.length-1-i<ms.length:=zo;obtain⟨m,e8⟩:∃m,m=nth ms (ms.length-1-i):=⟨_,rfl⟩
  obtain⟨g1,g2⟩:=b6.2.2.2 _ i5;replace b2:GQ O6 w6 (T+3) pb (ke m).toArray 218:=by have:=b2;rw[yu,<-e8]at this;exact this
  rw[<-e8]at g1 g2;have f4:nth kn.reverse i=nth kn (ms.length-1-i):=by rw[CG zo,i4]
  have b5:A3 sw (nth kn.reverse i)=false->∀q,q<i+1->A3 sw (nth kn.reverse q)=false:=fun h q hq=>by
   by_cases e:q=i
   ·rw[e];exact h
   exact a3 q zo
  have a0:A3 sw (nth kn.reverse i)=((m.1==sw&&bE (nth kn (ms.length-1-i)).2)&&((nth kn (ms.length-1-i)).2.kind != 9)):=by
   unfold A3;rw[f4,g1]
  have f5:m.2.1=(nth kn (ms.length-1-i)).2.kind:=g2.kind;generalize nth kn (ms.length-1-i)=km at *;have j7:=b2.cell 0 rfl;have hz:Gs (fun p=>p≠0/\p≠T+2) O6 w6 O6 w6:=Ib zo _ _;refine Jz ?_;refine I0 ?_;refine GN (.inr rfl) (fun _ _ h=>h) ?_;refine zh ?_;refine zv (RV.ld (b2.cell 0 rfl) rfl) ?_;refine zv (RV.ld (c8.cell 0 rfl) rfl) ?_;refine zvH (bU rfl rfl) ?_
  cases h1:(m.1==sw)with
  |false=>
   rw[h1]at a0;refine ao (d:=30) rfl (b':=false) (rfl) ?_;refine zh ?_;refine Ic ?_;refine aR ?_;refine jX rfl rfl ?_;refine J8 ?_;refine cK ?_;exact gT O6 hz ⟨b3,b1,c8,a',d6,b6,b5 (by rw[a0];rfl)⟩
  |true=>
   rw[h1]at a0;refine ao (d:=30) rfl (b':=true) (rfl) ?_;have d7:∀W:ln,(∀(j:Nat) (u:G0),(ke m)[j]? = some u->W.cell? (nA pb j)=some u)->∀(q:Nat) (u:G0),(bn m.2)[q]? = some u->W.cell? ((nA pb 1).add q)=some u:=fun W h=>cells_from (us:=ke m) 1 h (fun q u hu=>by rw[Kv];exact hu)
   refine zh ?_;refine zvH (ah (us:=bn m.2) (d7 _ b2.cellsAdd) (G5 _) (ix _) rfl) ?_
   refine zc L3 (eJ km.2 m.2 w6 g2.zero) ?_;rintro v w7 ⟨rfl,g6⟩;have a4:Gs (fun _=>False) O6 w6 O6 w7:=aa (fun h=>h) O6 g6;have a2:=b1.upd a4 zo (fun h=>h);have e3:=c8.upd a4 zo (fun h=>h);have b7:=a'.upd a4 hj (fun h=>h);have e6:=b2.upd a4 zo (fun h=>h);have g3:=d0.upd a4;have f6:=b6.upd a4;have f8:=d6.upd a4;have e7:=g2.upd a4;have a7:=b3.trans (iN O6 g6 hj a1);have d1:Gs (fun p=>p≠0/\p≠T+2) O6 w6 O6 w7:=a4.mono (fun _ h=>h.elim) zo;refine zh ?_
   cases h2:bE km.2 with
   |false=>
    rw[h2]at a0;refine ao (d:=35) rfl (b':=false) (rfl) ?_;refine zh ?_;refine Ic ?_;refine aR ?_;refine jX rfl rfl ?_;refine J8 ?_;refine cK ?_;exact gT O6 d1 ⟨a7,a2,e3,b7,f8,f6,b5 (by rw[a0];rfl)⟩
   |true=>
    rw[h2]at a0;refine ao (d:=35) rfl (b':=true) (rfl) ?_;have j6:w7.cell? ((nA pb 1).add 0)=some (nI m.2.1):=d7 _ e6.cellsAdd 0 _ rfl;refine zh ?_;refine Ic ?_;refine aR ?_
    cases h3:(km.2.kind != 9)with
    |false=>
     rw[h3]at a0;refine jX rfl ((by rw[f5];exact h3)) ?_;refine J8 ?_;refine cK ?_;exact gT O6 d1 ⟨a7,a2,e3,b7,f8,f6,b5 (by rw[a0];rfl)⟩
    |true=>
     rw[h3]at a0;refine qi rfl ((by rw[f5];exact h3)) ?_;have d2:=e7.one;refine I0 ?_;refine GN (.inr rfl) (fun _ _ h=>h) ?_;refine zh ?_;refine zv (ah (us:=bn m.2) (d7 _ e6.cellsAdd) (G5 _) (ix _) rfl) ?_;refine zsb (us:=#[nI m.2.1,nI m.2.2.1,m.2.2.2]) a2 (ix _) (bR d2) ?_;have b4:=a2.setRow (us:=#[nI m.2.1,nI m.2.2.1,m.2.2.2]);have a6:Gs (fun k=>k=T) O6 w7 O6 (w7.setRow xb #[nI m.2.1,nI m.2.2.1,m.2.2.2]):=G4 zo a2.tag rfl;refine zh ?_;refine Ic ?_;refine aR ?_;refine JQ ?_;refine fX ?_;exact ui O6 (d1.trans (a6.mono (fun _ h=>zo) zo)) ⟨rfl,a7.trans (a6.pT hj a1 (G1 _)),b7.upd a6 hj zo,_,m.2,by rw[zO (by rw[GY];omega) a3 (by rw[a0];rfl),f4],e7.upd a6,b4⟩
 ·rintro D O6 w6 d0 e2 ⟨b3,b1,c8,a',d6,b6,a3⟩ hm;have hM:ga kn r=di 0 r:=by
   exact tt (by rw[c7];exact ha) (by rw[c7];exact zN (fun q hq=>a3 q (by simp at hq ⊢;omega)))
  have d':=b3;refine cK ?_;refine aR ?_;refine I0 ?_;refine GN (.inl rfl) (fun _ _ h=>h) ?_;refine zh ?_;refine aj (j:=1) a' rfl (I2 _) rfl rfl rfl rfl ?_;have b7:=a'.rAt ((l.length:Int)-(r.length:Int));have a7:Gs (fun k=>k=j) O6 w6 O6 (w6.setCell ⟨rb,1,none⟩ (nI ((l.length:Int)-(r.length:Int)))):=GF (fun e=>hj e.symm) a'.tag rfl;have a2:=b1.upd a7 zo zo;have g3:=d0.upd a7;have e':=(a7.blk D (bm hm) zo).trans hm;have b9:=d'.trans (a7.pj a1);generalize w6.setCell ⟨rb,1,none⟩ (nI ((l.length:Int)-(r.length:Int)))=w7 at *;refine zh ?_;refine Ic ?_;refine aR ?_;refine I0 ?_;refine GN (.inl rfl) (fun _ _ h=>h) ?_;refine zh ?_;refine zc call207 (rU 0 op h' B O6 j rb l r w7 g3 hj hr hl trivial b7 (b6.upd a7).ex) ?_;rintro v w8 ⟨x,rfl,a6,a9⟩;have b4:=a2.upd a6 zo zo;have e9:=(a6.blk D (bm e') zo).trans e';have d2:x.2.2.oneCell'=true:=by
   cases hc:di 0 r with
   |ok t r'=>rw[hc]at a9;exact a9.2.one
   |bad p e=>rw[hc]at a9;exact a9.1
  refine zsb (us:=#[nI x.1,nI x.2.1,x.2.2]) b4 (ix _) (bR d2) ?_;have g9:=b4.setRow (us:=#[nI x.1,nI x.2.1,x.2.2]);have c':Gs (fun k=>k=T) O6 w8 O6 (w8.setRow xb #[nI x.1,nI x.2.1,x.2.2]):=G4 zo b4.tag rfl;have i1:=(c'.blk D (bm e9) zo).trans e9;have a5:Gs (fun k=>k=T+2) O6 (w8.setRow xb #[nI x.1,nI x.2.1,x.2.2]) O6 ((w8.setRow xb #[nI x.1,nI x.2.1,x.2.2]).putObj D (.deferred none)):=Iu zo e2 _;have c5:=(c'.pT hj a1 (G1 _)).trans (a5.pT hj a1 zo);have d4:=g9.upd a5 zo zo;refine zh ?_
  refine Ic ?_;refine aR ?_
  refine JQ ?_;refine ka (Kx i1 (gV rfl rfl d4.cellsAdd (G5 _) (ix _) ⟨x,rfl,((b9.trans (a6.pj a1)).trans c5).priv hT hj,?_⟩))
  rw[hM]
  cases hc:di 0 r with
  |ok t r'=>
   rw[hc]at a9;exact⟨((a9.1.upd c' hj zo).upd a5 hj zo).fgt h.tag,(a9.2.upd c5).low (b9.trans (a6.pj a1))⟩
  |bad p e=>
   rw[hc]at a9;obtain⟨h1,a,g8,h2,h3⟩:=a9;exact⟨h1,a,g8,((h2.upd c' hj zo).upd a5 hj zo).fgt h.tag,h3⟩
 rintro D c O6 w6 d0 e2 ⟨rfl,b3,a',m,x,i6,b5,b1⟩ hm;have a5:Gs (fun k=>k=T+2) O6 w6 O6 (w6.putObj D (.deferred none)):=Iu zo e2 _;have c5:=b3.trans (a5.pT hj a1 zo);have a2:=b1.upd a5 zo zo;refine JQ ?_;refine fX ?_;refine iC ?_;refine ka (Kx hm (gV rfl rfl a2.cellsAdd (G5 _) (ix _) ⟨x,rfl,c5.priv hT hj,?_⟩));rw[tq (by rw[c7];exact ha) (by rw[c7];exact i6)];exact⟨(a'.upd a5 hj zo).fgt h.tag,(b5.upd a5).low c5⟩
end
section
variable{kv:G0}{kn:Kn}
theorem tO(b:UInt8)(k:Nat)(hk:k<256)(h:¬b=IQ k):((b.toNat:Int) != (k:Int))=true:=by rw[bne,mM b k hk,decide_eq_false h];rfl
theorem gJ(b:UInt8)(k:Nat)(hk:k<256)(h:¬b=IQ k):((b.toNat:Int)==(k:Int))=false:=by rw[mM b k hk,decide_eq_false h]
theorem PostE.one{O:Nat->Nat}{w:ln}{j rb:Nat}{l:List UInt8}{op:Int}{x:N3}{M:PR}(h:PostE kv O w j rb l op x M):x.2.2.oneCell'=true:=by
 cases M with
 |ok t r=>exact h.2.one
 |bad p e=>exact h.1
theorem PostE.upd{S:Nat->Prop}{O O':Nat->Nat}{w w':ln}{j rb:Nat}{l:List UInt8}{op:Int}{x:N3}{M:PR}(h:PostE kv O w j rb l op x M)(u:Gs S O w O' w')(hj:j≠0)(hS:¬S j):PostE kv O' w' j rb l op x M:=by
 cases M with
 |ok t r=>exact⟨Gt h.1 u hj hS,h.2.upd u⟩
 |bad p e=>obtain⟨h1,a,o,h2,h3⟩:=h;exact⟨h1,a,o,Gt h2 u hj hS,h3⟩
theorem PostE.low{S:Nat->Prop}{O O':Nat->Nat}{w w0 w':ln}{j rb:Nat}{l:List UInt8}{op:Int}{x:N3}{M:PR}(h:PostE kv O' w' j rb l op x M)(u:Gs S O w O' w0)(a0:O rb=j):PostE kv O w' j rb l op x M:=by
 cases M with
 |ok t r=>exact⟨KP h.1 a0,h.2.low u⟩
 |bad p e=>obtain⟨h1,a,o,h2,h3⟩:=h;exact⟨h1,a,o,KP h2 a0,h3⟩
theorem pz(k:Int)(xs:List N3)(lv:G0)(w:ln)(h:Sl bn 3 w lv xs)(h1:∀i,i<xs.length->(nth xs i).2.2.oneCell'=true):
  IB GG 167 [nI k,lv] w fun v w'=>v=nv (if xs.length=1 then nth xs 0 else(k,0,lv))/\Ie w w':=by
 refine G8 func167 ntmps167 rfl rfl ?_;refine zh ?_
 refine ar (aw w) 1 zo (G6 _) rfl ?_;intro xb w1 O1 a0 a3 a6 a5;have a2:=h.ext a5;refine zh ?_
 by_cases hl:xs.length=1
 ·have a4:=h1 0 zo;rw[if_pos hl];refine zTH rfl ((by rw[hl];rfl)) ?_;refine zv (IR a2 Ij (ix _) rfl rfl 0 rfl zo) ?_;refine zv (ah (us:=bn (nth xs 0)) (fun j u hu=>a2.cell zo hu) (G5 _) (ix _) rfl) ?_;refine zsb (us:=#[nI (nth xs 0).1,nI (nth xs 0).2.1,(nth xs 0).2.2]) a0 (ix _) (bR a4) ?_;have a1:=a0.setRow (us:=#[nI (nth xs 0).1,nI (nth xs 0).2.1,(nth xs 0).2.2]);refine zh ?_;refine aI rfl rfl (a1.cellsAdd) (G5 _) (ix _) (⟨rfl,(a3.trans (G4 zd a0.tag rfl)).ext⟩)
 rw[if_neg hl];refine zFH rfl ((by simp;omega)) ?_;refine zv (aD vH (G6 _) rfl (by first|rfl|(simp only[Gp,h.one];rfl)) rfl rfl) ?_;refine zsb (us:=#[nI k,nI 0,lv]) a0 (ix _) (bR (x:=(k,0,lv)) h.one) ?_;have a1:=a0.setRow (us:=#[nI k,nI 0,lv]);refine zh ?_;refine aI rfl rfl (a1.cellsAdd) (G5 _) (ix _) (⟨rfl,(a3.trans (G4 zd a0.tag rfl)).ext⟩)
def sx(kv:G0)(kn:Kn)(al:Option (List UInt8->PR))(op:Int):Prop:=
 match al with
 |none=>op=20
 |some f=>op<20/\Reads kv kn 152 [] (op+1) f (fun _=>True)
theorem sf(al:Option (List UInt8->PR))(op:Int)(h7:0<=op/\op<=20)(ha:sx kv kn al op)(hg:lE al):Reads kv kn 208 [] op (bO al) (fun r=>r.headD 0≠0):=by
 intro B O j rb l r w hR hj hr hl d1 h g7;obtain⟨T,a0,hT⟩:=hR.bound;have h8:j<T:=by rw[<-h.tag];exact hT rb
 have h6:=hr.length_le;refine G8 func208 ntmps208 rfl rfl ?_;refine zh ?_;refine ar hR T zo (G6 _) rfl ?_;intro xb w1 O1 e6 e' f5 i1;have a7:=h.upd e' hj zo;have b4:=e'.pT hj a0 (G1 _);obtain⟨f',h5⟩:=bN d1;have e7:=f'.trans hr;refine zh ?_;refine zvH (RV.ld a7.r3 rfl) ?_
 cases al with
 |none=>
  have hM:bO none r=.bad r.length 6:=rfl;replace ha:op=20:=ha;refine zTH rfl ((by rw[ha];rfl)) ?_;refine zv (RV.ld a7.r1 rfl) ?_;refine zc J0 (fN _ O1 w1 j rb l _ _ 0 ((l.length:Int)-(r.length:Int)) 6 hj f5 a7) ?_;rintro v wf ⟨rfl,d8,b6⟩;have a6:=e6.upd b6 zo zo;refine zsa (us:=#[nI 0,nI 0,nS]) a6 (ix _) ?_;have c9:=a6.setRow (us:=#[nI 0,nI 0,nS]);have b5:Gs (fun k=>k=T) O1 wf O1 (wf.setRow xb #[nI 0,nI 0,nS]):=G4 zo a6.tag rfl;have hbg:=d8.upd b5 hj zo;refine zh ?_;refine aI rfl rfl (c9.cellsAdd) (G5 _) (ix _) (⟨(0,0,nS),rfl,((b4.trans (b6.pj a0)).trans (b5.pT hj a0 (G1 _))).priv hT hj,?_⟩);rw[hM];exact⟨rfl,_,op,hbg.fgt h.tag,zo,zo,zo,zo⟩
 |some f=>
  obtain⟨h9,g'⟩:=ha;have b9:=hg f rfl r.tail;refine zFH rfl ((by simp;omega)) ?_;refine zvH (RV.ld a7.r1 rfl) ?_;refine aj (j:=1) a7 rfl (I2 _) rfl rfl rfl rfl ?_;rw[show((l.length:Int)-(r.length:Int))+1=(l.length:Int)-(r.tail.length:Int)from by omega];have c5:=BlkO.rAt a7 ((l.length:Int)-(r.tail.length:Int));have e4:Gs (fun k=>k=j) O1 w1 O1 (Gv w1 ⟨rb,1,none⟩ (nI ((l.length:Int)-(r.tail.length:Int)))):=GF (fun e=>hj e.symm) (Gu a7) rfl;have f9:=e6.upd e4 zo zo;have h4:=f5.upd e4;generalize Gv w1 ⟨rb,1,none⟩ (nI ((l.length:Int)-(r.tail.length:Int)))=w2 at *;refine zh ?_;refine zvH (RV.ld c5.r3 rfl) ?_;refine aj (j:=3) c5 rfl (I2 _) rfl rfl rfl rfl ?_;have g9:=c5.rOp (op+1);have e3:Gs (fun k=>k=j) O1 w2 O1 (w2.setCell ⟨rb,3,none⟩ (nI (op+1))):=GF (fun e=>hj e.symm) c5.tag rfl;have f8:=f9.upd e3 zo zo;have f4:=h4.upd e3;have b3:=(b4.trans (e4.pj a0)).trans (e3.pj a0);generalize w2.setCell ⟨rb,3,none⟩ (nI (op+1))=w3 at *;refine zh ?_;refine zc call152 (g' B O1 j rb l r.tail w3 f4 hj e7 hl trivial g9 (g7.upd b3)) ?_;rintro v w4 ⟨x,rfl,e2,f6⟩;have b7:=f6.one;have f7:=f8.upd e2 zo zo;have f3:=f4.upd e2;have e1:=b3.trans (e2.pj a0);refine ar f3 (T+1) zo (G6 _) rfl ?_;intro nb w5 O5 d7 h1 h' i0;refine zsb (us:=#[nI x.1,nI x.2.1,x.2.2]) d7 (ix _) (bR b7) ?_;have e9:=d7.setRow (us:=#[nI x.1,nI x.2.1,x.2.2])
  have h0:Gs (fun k=>k=T+1) O5 w5 O5 (w5.setRow nb #[nI x.1,nI x.2.1,x.2.2]):=G4 zo d7.tag rfl;have a4:=h1.trans h0;have e5:=f7.upd a4 zo zo;have c8:=f6.upd a4 hj zo;have h3:=f3.upd a4;have b2:=e1.trans (a4.pT hj a0 (GT _));generalize w5.setRow nb #[nI x.1,nI x.2.1,x.2.2]=w6 at *
  cases hf:f r.tail with
  |bad p e=>
   rw[hf]at b9 c8;have hM:bO (some f) r=.bad p e:=by unfold bO;dsimp only;rw[hf]
   obtain⟨g1,a,a',a1,g2,g3,g4,g5⟩:=c8;replace a1:GQ O5 w6 j rb (rdr kv l a a' ((l.length:Int)-(p:Int)) e) 237:=a1;refine zh ?_;refine zvH (RV.ld a1.r5 rfl) ?_;refine ao (d:=39) rfl (b':=false) ((by simpa using b9.2)) ?_;refine zh ?_;refine zFH rfl rfl ?_;refine zvH (RV.ld a1.r1 rfl) ?_;refine aj (j:=1) a1 rfl (I2 _) rfl rfl rfl rfl ?_;have a2:=a1.rAt (a+1);have a3:Gs (fun k=>k=j) O5 w6 O5 (w6.setCell ⟨rb,1,none⟩ (nI (a+1))):=GF (fun e=>hj e.symm) a1.tag rfl;have b8:=e5.upd a3 zo zo;have d6:=e9.upd a3 zo zo;generalize w6.setCell ⟨rb,1,none⟩ (nI (a+1))=w7 at *;refine zh ?_;refine zvH (RV.ld a2.r3 rfl) ?_;refine aj (j:=3) a2 rfl (I2 _) rfl rfl rfl rfl ?_;have a8:=a2.rOp (a'-1);have a5:Gs (fun k=>k=j) O5 w7 O5 (w7.setCell ⟨rb,3,none⟩ (nI (a'-1))):=GF (fun e=>hj e.symm) a2.tag rfl;have b0:=b8.upd a5 zo zo;have d5:=d6.upd a5 zo zo;generalize w7.setCell ⟨rb,3,none⟩ (nI (a'-1))=w8 at *;have e0:=(b2.trans (a3.pj a0)).trans (a5.pj a0);refine zh ?_;refine zv (ah (us:=bn x) d5.cellsAdd (G5 _) (ix _) rfl) ?_;refine zsb (us:=#[nI x.1,nI x.2.1,x.2.2]) b0 (ix _) (bR b7) ?_;have c':=Gq (us:=#[nI x.1,nI x.2.1,x.2.2]) b0;have a9:Gs (fun k=>k=T) O5 w8 O5 (Gn w8 xb #[nI x.1,nI x.2.1,x.2.2]):=G4 zo (Gu b0) rfl;have d9:=a8.upd a9 hj zo;have c6:=e0.trans (a9.pT hj a0 (G1 _));refine zh ?_
   refine aI rfl rfl (c'.cellsAdd) (G5 _) (ix _) (⟨x,rfl,c6.priv hT hj,?_⟩);rw[hM];exact⟨b7,a+1,a'-1,d9.fgt h.tag,zo,zo,zo,zo⟩
  |ok t r2=>
   rw[hf]at b9 c8;obtain⟨a1,hn⟩:=c8;replace a1:GQ O5 w6 j rb (rdr kv l ((l.length:Int)-(r2.length:Int)) (op+1) 0 0) 237:=a1;have e8:=b9.1.trans e7;have g0:=(aT r2).trans e8;have hq2l:=g0.length_le;refine zh ?_;refine zvH (RV.ld a1.r5 rfl) ?_;refine ao (d:=39) rfl (b':=true) (rfl) ?_;refine zh ?_;refine zc J1 (fp O5 w6 j rb l r2 (op+1) 0 0 hj e8 zo a1) ?_;rintro v w7 ⟨rfl,a2,a3⟩;have b8:=e5.upd a3 zo zo;have d6:=e9.upd a3 zo zo;have h2:=h3.upd a3;have b1:=b2.trans (a3.pj a0);have d4:=hn.upd a3;refine zh ?_
   by_cases hc:(ak r2).headD 0=41
   ·have hM:bO (some f) r=.ok t (ak r2).tail:=by unfold bO;dsimp only;rw[hf];dsimp only;rw[if_pos hc]
    obtain⟨g1,g2⟩:=bN (r:=ak r2) (by rw[hc];decide);refine zFH rfl ((by rw[hc];rfl)) ?_;refine zvH (RV.ld a2.r1 rfl) ?_;refine aj (j:=1) a2 rfl (I2 _) rfl rfl rfl rfl ?_;rw[show((l.length:Int)-((ak r2).length:Int))+1=(l.length:Int)-((ak r2).tail.length:Int)from by omega];have a8:=BlkO.rAt a2 ((l.length:Int)-((ak r2).tail.length:Int));have a5:Gs (fun k=>k=j) O5 w7 O5 (Gv w7 ⟨rb,1,none⟩ (nI ((l.length:Int)-((ak r2).tail.length:Int)))):=GF (fun e=>hj e.symm) (Gu a2) rfl;have b0:=b8.upd a5 zo zo;have d5:=d6.upd a5 zo zo;have d3:=d4.upd a5;generalize Gv w7 ⟨rb,1,none⟩ (nI ((l.length:Int)-((ak r2).tail.length:Int)))=w8 at *;refine zh ?_;refine zvH (RV.ld a8.r3 rfl) ?_;refine aj (j:=3) a8 rfl (I2 _) rfl rfl rfl rfl ?_;rw[show op+1-1=op from by omega];have g8:=a8.rOp op;have c7:Gs (fun k=>k=j) O5 w8 O5 (w8.setCell ⟨rb,3,none⟩ (nI op)):=GF (fun e=>hj e.symm) a8.tag rfl;have d0:=b0.upd c7 zo zo;have g6:=d5.upd c7 zo zo;have d2:=d3.upd c7;generalize w8.setCell ⟨rb,3,none⟩ (nI op)=w9 at *;have d':=(b1.trans (a5.pj a0)).trans (c7.pj a0);refine zh ?_;refine zv (ah (us:=bn x) g6.cellsAdd (G5 _) (ix _) rfl) ?_;refine zsb (us:=#[nI x.1,nI x.2.1,x.2.2]) d0 (ix _) (bR b7) ?_;have c':=Gq (us:=#[nI x.1,nI x.2.1,x.2.2]) d0;have a9:Gs (fun k=>k=T) O5 w9 O5 (Gn w9 xb #[nI x.1,nI x.2.1,x.2.2]):=G4 zo (Gu d0) rfl
    have d9:=g8.upd a9 hj zo;have c6:=d'.trans (a9.pT hj a0 (G1 _));refine zh ?_;refine aI rfl rfl (c'.cellsAdd) (G5 _) (ix _) (⟨x,rfl,c6.priv hT hj,?_⟩);rw[hM];exact⟨d9.fgt h.tag,(d2.upd a9).low c6⟩
   have hM:bO (some f) r=.bad (ak r2).length 4:=by unfold bO;dsimp only;rw[hf];dsimp only;rw[if_neg hc]
   refine zTH rfl ((tO _ 41 zd hc)) ?_;refine zv (RV.ld a2.r1 rfl) ?_
   refine zc J0 (fN _ O5 w7 j rb l _ _ 0 ((l.length:Int)-((ak r2).length:Int)) 4 hj h2 a2) ?_;rintro v wf ⟨rfl,d8,b6⟩;have a6:=b8.upd b6 zo zo;refine zsa (us:=#[nI 0,nI 0,nS]) a6 (ix _) ?_
   have c9:=a6.setRow (us:=#[nI 0,nI 0,nS]);have b5:Gs (fun k=>k=T) O5 wf O5 (wf.setRow xb #[nI 0,nI 0,nS]):=G4 zo a6.tag rfl;have hbg:=d8.upd b5 hj zo;refine zh ?_;refine aI rfl rfl (c9.cellsAdd) (G5 _) (ix _) (⟨(0,0,nS),rfl,((b1.trans (b6.pj a0)).trans (b5.pT hj a0 (G1 _))).priv hT hj,?_⟩);rw[hM];exact⟨rfl,_,op+1,hbg.fgt h.tag,zo,zo,zo,zo⟩
theorem BB(al:Option (List UInt8->PR))(op:Int)(b4:0<=op/\op<=20)(ha:sx kv kn al op)(hg:lE al):Reads kv kn 201 [] op (iG kn al) (fun _=>True):=by
 intro B O j rb l r w hR hj hr hl c9 h b5;obtain⟨T,a1,hT⟩:=hR.bound;have d6:j<T:=by rw[<-h.tag];exact hT rb
 have d4:=hr.length_le;refine G8 func201 ntmps201 rfl rfl ?_;refine zh ?_;refine ar hR T zo (G6 _) rfl ?_;intro xb w1 O1 c8 c6 d3 d7;have d1:=h.upd c6 hj zo;have b7:=c6.pT hj a1 (G1 _);have hq:=(aT r).trans hr;have d5:=hq.length_le;refine zh ?_;refine zc J1 (fp O1 w1 j rb l r op 0 0 hj hr zo d1) ?_;rintro v w2 ⟨rfl,a2,b8⟩;have b1:=c8.upd b8 zo zo;have b2:=d3.upd b8;have a0:=b7.trans (b8.pj a1);refine zh ?_;refine zc Kj (ik ((ak r).headD 0) w2) ?_;rintro v w9 ⟨rfl,b9⟩;rw[b9];clear b9 w9;refine zh ?_
 by_cases h1:ai ((ak r).headD 0)=true
 ·have hM:iG kn al r=ga kn (ak r):=by unfold iG;rw[if_pos h1]
  rw[hM];refine zTH rfl (h1) ?_;refine zc call206 (yP op b4 B O1 j rb l (ak r) w2 b2 hj hq hl h1 a2 (b5.upd a0)) ?_;rintro v wc ⟨x,rfl,a6,a7⟩;have a8:=a7.one;have a3:=Gt b1 a6 zo zo;refine zsb (us:=#[nI x.1,nI x.2.1,x.2.2]) a3 (ix _) (bR a8) ?_;have a9:=Gq (us:=#[nI x.1,nI x.2.1,x.2.2]) a3;have a4:Gs (fun k=>k=T) O1 wc O1 (Gn wc xb #[nI x.1,nI x.2.1,x.2.2]):=G4 zo (Gu a3) rfl;have a5:=(a0.trans (a6.pj a1)).trans (a4.pT hj a1 (G1 _));refine zh ?_;refine aI rfl rfl (a9.cellsAdd) (G5 _) (ix _) (⟨x,rfl,a5.priv hT hj,(a7.upd a4 hj zo).low a5 h.tag⟩)
 refine zFH rfl ((by simpa using h1)) ?_
 by_cases h2:(ak r).headD 0=126
 ·have hM:iG kn al r=di 2 (ak r).tail:=by unfold iG;rw[if_neg h1,if_pos h2]
  obtain⟨k1,k2⟩:=bN (r:=ak r) (by rw[h2];decide);rw[hM];refine zTH rfl ((by rw[h2];rfl)) ?_;refine zvH (RV.ld a2.r1 rfl) ?_;refine aj (j:=1) a2 rfl (I2 _) rfl rfl rfl rfl ?_;rw[show((l.length:Int)-((ak r).length:Int))+1=(l.length:Int)-((ak r).tail.length:Int)from by omega];have b6:=BlkO.rAt a2 ((l.length:Int)-((ak r).tail.length:Int));have a':Gs (fun k=>k=j) O1 w2 O1 (Gv w2 ⟨rb,1,none⟩ (nI ((l.length:Int)-((ak r).tail.length:Int)))):=GF (fun e=>hj e.symm) (Gu a2) rfl;have b0:=b1.upd a' zo zo;have d2:=b2.upd a';refine zh ?_;refine zc call207 (rU 2 op b4 B O1 j rb l (ak r).tail _ d2 hj (k1.trans hq) hl trivial b6 (b5.upd (a0.trans (a'.pj a1)))) ?_;rintro v wc ⟨x,rfl,a6,a7⟩;have a8:=a7.one;have a3:=Gt b0 a6 zo zo;refine zsb (us:=#[nI x.1,nI x.2.1,x.2.2]) a3 (ix _) (bR a8) ?_;have a9:=Gq (us:=#[nI x.1,nI x.2.1,x.2.2]) a3;have a4:Gs (fun k=>k=T) O1 wc O1 (Gn wc xb #[nI x.1,nI x.2.1,x.2.2]):=G4 zo (Gu a3) rfl;have a5:=((a0.trans (a'.pj a1)).trans (a6.pj a1)).trans (a4.pT hj a1 (G1 _));refine zh ?_;refine aI rfl rfl (a9.cellsAdd) (G5 _) (ix _) (⟨x,rfl,a5.priv hT hj,(a7.upd a4 hj zo).low a5 h.tag⟩)
 refine zFH rfl ((gJ _ 126 zd h2)) ?_
 by_cases h3:(ak r).headD 0=94
 ·have hM:iG kn al r=.ok (.mk 3 0 []) (ak r).tail:=by unfold iG;rw[if_neg h1,if_neg h2,if_pos h3]
  obtain⟨k1,k2⟩:=bN (r:=ak r) (by rw[h3];decide);rw[hM];refine zTH rfl ((by rw[h3];rfl)) ?_;refine zvH (RV.ld a2.r1 rfl) ?_;refine aj (j:=1) a2 rfl (I2 _) rfl rfl rfl rfl ?_;rw[show((l.length:Int)-((ak r).length:Int))+1=(l.length:Int)-((ak r).tail.length:Int)from by omega];have b6:=BlkO.rAt a2 ((l.length:Int)-((ak r).tail.length:Int));have a':Gs (fun k=>k=j) O1 w2 O1 (Gv w2 ⟨rb,1,none⟩ (nI ((l.length:Int)-((ak r).tail.length:Int)))):=GF (fun e=>hj e.symm) (Gu a2) rfl;have b0:=b1.upd a' zo zo;have a8:((3,0,nS):N3).2.2.oneCell'=true:=rfl;refine zh ?_;refine zv (aD vH (G6 _) rfl (by first|rfl|(simp only[Gp,h.one];rfl)) rfl rfl) ?_;refine zsb (us:=#[nI ((3,0,nS):N3).1,nI ((3,0,nS):N3).2.1,((3,0,nS):N3).2.2]) b0 (ix _) (bR a8) ?_;have a9:=Gq (us:=#[nI ((3,0,nS):N3).1,nI ((3,0,nS):N3).2.1,((3,0,nS):N3).2.2]) b0;have a4:Gs (fun k=>k=T) O1 (Gv w2 ⟨rb,1,none⟩ (nI ((l.length:Int)-((ak r).tail.length:Int)))) O1 (Gn (Gv w2 ⟨rb,1,none⟩ (nI ((l.length:Int)-((ak r).tail.length:Int)))) xb #[nI ((3,0,nS):N3).1,nI ((3,0,nS):N3).2.1,((3,0,nS):N3).2.2]):=G4 zo (Gu b0) rfl;have d0:=b6.upd a4 hj zo;have a5:=(a0.trans (a'.pj a1)).trans (a4.pT hj a1 (G1 _));refine zh ?_;refine aI rfl rfl (a9.cellsAdd) (G5 _) (ix _) (⟨(3,0,nS),rfl,a5.priv hT hj,d0.fgt h.tag,KB _ _ _ _⟩)
 refine zFH rfl ((gJ _ 94 zd h3)) ?_
 by_cases h4:(ak r).headD 0=40
 ·have hM:iG kn al r=bO al (ak r):=by unfold iG;rw[if_neg h1,if_neg h2,if_neg h3,if_pos h4]
  rw[hM];refine zTH rfl ((by rw[h4];rfl)) ?_;refine zc call208 (sf al op b4 ha hg B O1 j rb l (ak r) w2 b2 hj hq hl (show(ak r).headD 0≠0 by rw[h4];decide) a2 (b5.upd a0)) ?_;rintro v wc ⟨x,rfl,a6,a7⟩;have a8:=a7.one;have a3:=Gt b1 a6 zo zo;refine zsb (us:=#[nI x.1,nI x.2.1,x.2.2]) a3 (ix _) (bR a8) ?_;have a9:=Gq (us:=#[nI x.1,nI x.2.1,x.2.2]) a3;have a4:Gs (fun k=>k=T) O1 wc O1 (Gn wc xb #[nI x.1,nI x.2.1,x.2.2]):=G4 zo (Gu a3) rfl;have a5:=(a0.trans (a6.pj a1)).trans (a4.pT hj a1 (G1 _));refine zh ?_;refine aI rfl rfl (a9.cellsAdd) (G5 _) (ix _) (⟨x,rfl,a5.priv hT hj,(a7.upd a4 hj zo).low a5 h.tag⟩)
 have hM:iG kn al r=.bad (ak r).length 4:=by unfold iG;rw[if_neg h1,if_neg h2,if_neg h3,if_neg h4]
 rw[hM];refine zFH rfl ((gJ _ 40 zd h4)) ?_;refine zv (RV.ld a2.r1 rfl) ?_;refine zc J0 (fN _ O1 w2 j rb l _ _ 0 ((l.length:Int)-((ak r).length:Int)) 4 hj b2 a2) ?_;rintro v wf ⟨rfl,c',c5⟩;have b3:=b1.upd c5 zo zo;refine zsa (us:=#[nI 0,nI 0,nS]) b3 (ix _) ?_;have c7:=b3.setRow (us:=#[nI 0,nI 0,nS]);have b':Gs (fun k=>k=T) O1 wf O1 (wf.setRow xb #[nI 0,nI 0,nS]):=G4 zo b3.tag rfl;have hbg:=c'.upd b' hj zo;refine zh ?_;refine aI rfl rfl (c7.cellsAdd) (G5 _) (ix _) (⟨(0,0,nS),rfl,((a0.trans (c5.pj a1)).trans (b'.pT hj a1 (G1 _))).priv hT hj,?_⟩);exact⟨rfl,_,op,hbg.fgt h.tag,zo,zo,zo,zo⟩
end
section
variable{kv:G0}{kn:Kn}
theorem CA(c:UInt8):qt [42,43,63] c=match opM c with|some k=>(k:Nat)|none=>-1:=by
 unfold qt opM
 by_cases h1:c=42
 ·subst h1;rfl
 by_cases h2:c=43
 ·subst h2;rfl
 by_cases h3:c=63
 ·subst h3;rfl
 rw[if_neg h1,if_neg h2,if_neg h3];have:[(42:UInt8),43,63].findIdx? (· == c)=none:=by
  rw[Ii];intro x hx;simp at hx
  rcases hx with rfl|rfl|rfl<;>simp<;>intro e<;>first|exact h1 e.symm|exact h2 e.symm|exact h3 e.symm
 rw[this]
theorem qX(al:Option (List UInt8 → PR))(op:Int)(hop:0 ≤ op ∧ op ≤ 20)(ha:sx kv kn al op)(hg:lE al): Reads kv kn 190 [] op (ew kn al) (fun _ => True) := by
  intro B O j rb l r w hR hj hr hl hpre h hkn
  obtain⟨T, hT0, hT⟩ := hR.bound
  have hjT:j < T := by rw[← h.tag]; exact hT rb
  have hrl := hr.length_le
  refine G8 func190 ntmps190 rfl rfl ?_
  refine zh ?_
  refine ar hR T (by omega) (G6 _) rfl ?_
  intro xb w1 O1 hx1 hU1 hR1 hE1
  have hb1 := h.upd hU1 hj (by omega)
  have hUt1 := hU1.pT hj hT0 (G1 _)
  have hga := oO (kn := kn) hg r
  refine zh ?_
  refine zc call201 (BB al op hop ha hg B O1 j rb l r w1 hR1 hj hr hl trivial hb1 (hkn.upd hUt1)) ?_
  rintro v w2 ⟨x, rfl, hU2, hP2⟩
  have hxo := hP2.one
  have hx2 := hx1.upd hU2 (by omega) (by omega)
  have hR2 := hR1.upd hU2
  have hUt2 := hUt1.trans (hU2.pj hT0)
  refine ar hR2 (T + 1) (by omega) (G6 _) rfl ?_
  intro nb w3 O3 hn3 hU3 hR3 hE3
  refine zsb (us := #[.int .i64 x.1, .int .i64 x.2.1, x.2.2]) hn3 (ix _) (bR hxo) ?_
  have hn4 := hn3.setRow (us := #[.int .i64 x.1, .int .i64 x.2.1, x.2.2])
  have hU4:Gs (fun k => k = T + 1) O3 w3 O3 (w3.setRow nb #[.int .i64 x.1, .int .i64 x.2.1, x.2.2]) := G4 (by omega) hn3.tag rfl
  have hU34 := hU3.trans hU4
  have hx4 := hx2.upd hU34 (by omega) (by omega)
  have hP4 := hP2.upd hU34 hj (by omega)
  have hR4 := hR2.upd hU34
  have hUt4 := hUt2.trans (hU34.pT hj hT0 (GT _))
  generalize w3.setRow nb #[.int .i64 x.1, .int .i64 x.2.1, x.2.2] = w4 at *
  cases hf:iG kn al r with
  |bad p e =>
    rw[hf]at hga hP4
    have hM:ew kn al r = .bad p e := by unfold ew; rw[hf]
    have hP5 := hP4
    obtain⟨g1, a, op', hb4, g2, g3, g4, g5⟩ := hP4
    replace hb4:GQ O3 w4 j rb (rdr kv l a op' ((l.length:Int) - (p:Int)) e) 237 := hb4
    refine zh ?_
    refine zvH (RV.ld hb4.r5 rfl) ?_
    refine zTH rfl ((by simpa using hga.2)) ?_
    refine zv (ah (us := bn x) hn4.cellsAdd (G5 _) (ix _) rfl) ?_
    refine zsb (us := #[.int .i64 x.1, .int .i64 x.2.1, x.2.2]) hx4 (ix _) (bR hxo) ?_
    have hxd := Gq (us := #[.int .i64 x.1, .int .i64 x.2.1, x.2.2]) hx4
    have hUd:Gs (fun k => k = T) O3 w4 O3 (Gn w4 xb #[.int .i64 x.1, .int .i64 x.2.1, x.2.2]) := G4 (by omega) (Gu hx4) rfl
    have hUz := hUt4.trans (hUd.pT hj hT0 (G1 _))
    refine zh ?_
    refine aI rfl rfl (hxd.cellsAdd) (G5 _) (ix _) (⟨x, rfl, hUz.priv hT hj, ?_⟩)
    rw[hM]
    exact(hP5.upd hUd hj (by omega)).low hUz h.tag
  |ok t r1 =>
    rw[hf]at hga hP4
    obtain⟨hb4, hnt4⟩ := hP4
    replace hb4:GQ O3 w4 j rb (rdr kv l ((l.length:Int) - (r1.length:Int)) op 0 0) 237 := hb4
    have hr1 := hga.1.trans hr
    have hq1 := (aT r1).trans hr1
    have hql := hq1.length_le
    refine zh ?_
    refine zvH (RV.ld hb4.r5 rfl) ?_
    refine zFH rfl rfl ?_
    refine zc J1 (fp O3 w4 j rb l r1 op 0 0 hj hr1 (by omega) hb4) ?_
    rintro v w5 ⟨rfl, hb5, hU5⟩
    have hx5 := hx4.upd hU5 (by omega) (by omega)
    have hn5 := hn4.upd hU5 (by omega) (by omega)
    have hR5 := hR4.upd hU5
    have hUt5 := hUt4.trans (hU5.pj hT0)
    have hnt5 := hnt4.upd hU5
    refine zc call72 (de [42, 43, 63] ((ak r1).headD 0) w5) ?_
    rintro v w9 ⟨rfl, hw9⟩
    rw[hw9, CA]
    clear hw9 w9
    have hb6 := hb5.drew
    have hx6 := hx5.drew
    have hn6 := hn5.drew
    have hnt6 := hnt5.drew
    have hUt6 := hUt5.drew
    have hR6 := hR5.drew
    refine zh ?_
    refine Is (by kernel_rfl) (by kernel_rfl) ?_
    refine zh ?_
    refine zwH (RV.ld hb6.r1 rfl) ?_
    refine zw (RV.ld hb6.r0 rfl) ?_
    refine zwH (bQ GK rfl) ?_
    cases hk:opM ((ak r1).headD 0)with
    |none =>
      have hM:ew kn al r = .ok t (ak r1) := by unfold ew; rw[hf]; dsimp only; rw[hk]
      by_cases hq0:(ak r1).length = 0
      · skip
        refine cd (d := 30) rfl (b' := true) ((beq_iff_eq.2 (by omega))) ?_
        generalize w5.drew = w6 at *
        refine zh ?_
        refine zw (bT rfl rfl) ?_
        refine Io ?_
        refine zh ?_
        refine zTH rfl rfl ?_
        refine zv (ah (us := bn x) hn6.cellsAdd (G5 _) (ix _) rfl) ?_
        refine zsb (us := #[.int .i64 x.1, .int .i64 x.2.1, x.2.2]) hx6 (ix _) (bR hxo) ?_
        have hxd := Gq (us := #[.int .i64 x.1, .int .i64 x.2.1, x.2.2]) hx6
        have hUd:Gs (fun k => k = T) O3 w6 O3 (Gn w6 xb #[.int .i64 x.1, .int .i64 x.2.1, x.2.2]) := G4 (by omega) (Gu hx6) rfl
        have hUz := hUt6.trans (hUd.pT hj hT0 (G1 _))
        have hbd := hb6.upd hUd hj (by omega)
        refine zh ?_
        refine aI rfl rfl (hxd.cellsAdd) (G5 _) (ix _) (⟨x, rfl, hUz.priv hT hj, ?_⟩)
        rw[hM]
        exact⟨hbd.fgt h.tag, (hnt6.upd hUd).low hUz⟩
      · skip
        refine cd (d := 30) rfl (b' := false) ((beq_eq_false_iff_ne.2 (by omega))) ?_
        refine zh ?_
        refine zw (bF rfl rfl) ?_
        refine Io ?_
        refine zh ?_
        refine aS rfl rfl ?_
        generalize w5.drew = w6 at *
        refine zh ?_
        refine zv (ah (us := bn x) hn6.cellsAdd (G5 _) (ix _) rfl) ?_
        refine zsb (us := #[.int .i64 x.1, .int .i64 x.2.1, x.2.2]) hx6 (ix _) (bR hxo) ?_
        have hxd := Gq (us := #[.int .i64 x.1, .int .i64 x.2.1, x.2.2]) hx6
        have hUd:Gs (fun k => k = T) O3 w6 O3 (Gn w6 xb #[.int .i64 x.1, .int .i64 x.2.1, x.2.2]) := G4 (by omega) (Gu hx6) rfl
        have hUz := hUt6.trans (hUd.pT hj hT0 (G1 _))
        have hbd := hb6.upd hUd hj (by omega)
        refine zh ?_
        refine aI rfl rfl (hxd.cellsAdd) (G5 _) (ix _) (⟨x, rfl, hUz.priv hT hj, ?_⟩)
        rw[hM]
        exact⟨hbd.fgt h.tag, (hnt6.upd hUd).low hUz⟩
    |some k =>
      have hM:ew kn al r = .ok (.mk (6 + (k:Nat)) 0 [t]) (ak r1).tail := by unfold ew; rw[hf]; dsimp only; rw[hk]
      obtain⟨k1, k2⟩ := bN (BR hk)
      have hk3:k ≤ 2 := by
        unfold opM at hk
        (repeat' split at hk) <;> simp at hk <;> omega
      refine cd (d := 30) rfl (b' := false) ((beq_eq_false_iff_ne.2 (by omega))) ?_
      refine zh ?_
      refine zw (bF rfl rfl) ?_
      refine Io ?_
      refine zh ?_
      refine aX rfl ((decide_eq_false (by simp))) ?_
      generalize w5.drew = w6 at *
      refine zh ?_
      refine zvH (RV.ld hb6.r1 rfl) ?_
      refine aj (j := 1) hb6 rfl (I2 _) rfl rfl rfl rfl ?_
      rw[show((l.length:Int) - ((ak r1).length:Int)) + 1 = (l.length:Int) - ((ak r1).tail.length:Int)from by omega]
      have hb7 := BlkO.rAt hb6 ((l.length:Int) - ((ak r1).tail.length:Int))
      have hU7:Gs (fun k => k = j) O3 w6 O3 (Gv w6 ⟨rb, 1, none⟩ (.int .i64 ((l.length:Int) - ((ak r1).tail.length:Int)))) := GF (fun e => hj e.symm) (Gu hb6) rfl
      have hx7 := hx6.upd hU7 (by omega) (by omega)
      have hn7 := hn6.upd hU7 (by omega) (by omega)
      have hR7 := hR6.upd hU7
      have hUt7 := hUt6.trans (hU7.pj hT0)
      have hnt7 := hnt6.upd hU7
      generalize Gv w6 ⟨rb, 1, none⟩ (.int .i64 ((l.length:Int) - ((ak r1).tail.length:Int))) = w7 at *
      refine zh ?_
      refine zv (KM rfl rfl (JX (by dsimp only; omega))) ?_
      refine zv (ah (us := bn x) hn7.cellsAdd (G5 _) (ix _) rfl) ?_
      refine aM elN (enc := bn) x rfl rfl rfl (by decide) rfl ?_
      intro w8 h8 hE8
      have hX8:Gs (fun _ => False) O3 w7 O3 w8 := aa (fun h => h) O3 hE8
      have hx8 := hx7.upd hX8 (by omega) (fun h => h)
      have hb8 := hb7.upd hX8 hj (fun h => h)
      have hUt8 := hUt7.trans (iN O3 hE8 hj hT0)
      have hnt8 := hnt7.upd hX8
      have hfr:KW O3 w8 (.slice (some ⟨w7.heap.size, 0, none⟩) 1 1) := fun a n c e _ => by
        cases e
        refine⟨GJ fun hne => by have := (hR7.rng _ hne).2; simp at this, ?_⟩
        obtain⟨_, _, e, _, _, hh⟩ := h8.shape
        have hc := Jb _ _ (h8.cells 0 (by simp) 0 _ rfl)
        simpa[adr, Ip]using hc
      have hN:Nt O3 w8 (.mk (6 + (k:Nat)) 0 [t]) (6 + (k:Nat), 0, .slice (some ⟨w7.heap.size, 0, none⟩) 1 1) :=
        .mk (xs := [x]) h8 hfr rfl (fun i hi => by obtain rfl : i = 0 := by simpa using hi
                                                   rw[au, au]; exact hnt8)
      have hxo2:((6 + (k:Nat), 0, .slice (some ⟨w7.heap.size, 0, none⟩) 1 1):N3).2.2.oneCell' = true := rfl
      clear hxo
      have hxo := hxo2
      refine zv (aD vH (G6 _) rfl (by first | rfl | (simp only[Gp, Gz]; rfl)) rfl rfl) ?_
      refine zsb (us := #[.int .i64 ((6 + (k:Nat), 0, .slice (some ⟨w7.heap.size, 0, none⟩) 1 1):N3).1, .int .i64 ((6 + (k:Nat), 0, .slice (some ⟨w7.heap.size, 0, none⟩) 1 1):N3).2.1, ((6 + (k:Nat), 0, .slice (some ⟨w7.heap.size, 0, none⟩) 1 1):N3).2.2]) hx8 (ix _) (bR hxo) ?_
      have hxd := Gq (us := #[.int .i64 ((6 + (k:Nat), 0, .slice (some ⟨w7.heap.size, 0, none⟩) 1 1):N3).1, .int .i64 ((6 + (k:Nat), 0, .slice (some ⟨w7.heap.size, 0, none⟩) 1 1):N3).2.1, ((6 + (k:Nat), 0, .slice (some ⟨w7.heap.size, 0, none⟩) 1 1):N3).2.2]) hx8
      have hUd:Gs (fun k => k = T) O3 w8 O3 (Gn w8 xb #[.int .i64 ((6 + (k:Nat), 0, .slice (some ⟨w7.heap.size, 0, none⟩) 1 1):N3).1, .int .i64 ((6 + (k:Nat), 0, .slice (some ⟨w7.heap.size, 0, none⟩) 1 1):N3).2.1, ((6 + (k:Nat), 0, .slice (some ⟨w7.heap.size, 0, none⟩) 1 1):N3).2.2]) := G4 (by omega) (Gu hx8) rfl
      have hUz := hUt8.trans (hUd.pT hj hT0 (G1 _))
      have hbd := hb8.upd hUd hj (by omega)
      refine zh ?_
      refine aI rfl rfl (hxd.cellsAdd) (G5 _) (ix _) (⟨_, rfl, hUz.priv hT hj, ?_⟩)
      rw[hM]
      exact⟨hbd.fgt h.tag, (hN.upd hUd).low hUz⟩
end
section
variable{kv:G0}{kn:Kn}
theorem xq(c:UInt8)(w:ln):IB GG 191 [.int .u8 (c.toNat:Int)] w fun v w'=>v=.bool (eC c)/\w'=w:=by
 refine G8 func191 ntmps191 rfl rfl ?_;refine zh ?_
 refine zc Kj (ik c w) ?_;rintro v w9 ⟨rfl,a0⟩;rw[a0];clear a0 w9;refine zh ?_
 cases h1:ai c with
 |true=>
  refine ao (d:=5) rfl (b':=true) (rfl) ?_;refine zh ?_
  refine ae rfl rfl (⟨by simp[eC,h1],rfl⟩)
 |false=>
  refine ao (d:=5) rfl (b':=false) (rfl) ?_;refine zh ?_
  by_cases h2:c=126
  ·refine ao (d:=9) rfl (b':=true) ((by rw[h2];rfl)) ?_;refine zh ?_
   refine ae rfl rfl (⟨by simp[eC,h2],rfl⟩)
  refine ao (d:=9) rfl (b':=false) ((gJ _ 126 zd h2)) ?_;refine zh ?_
  by_cases h3:c=94
  ·refine ao (d:=13) rfl (b':=true) ((by rw[h3];rfl)) ?_;refine zh ?_
   refine ae rfl rfl (⟨by simp[eC,h3],rfl⟩)
  refine ao (d:=13) rfl (b':=false) ((gJ _ 94 zd h3)) ?_;refine zh ?_
  have e:=mM c 40 zd;refine ae rfl rfl (⟨?_,rfl⟩);have e2:eC c=decide (c=40):=by simp[eC,h1,h2,h3]
  rw[e2];exact congrArg Value.bool e
def PR.andThen(M:PR)(f:Nd->List UInt8->PR):PR:=match M with | .bad p e=>.bad p e | .ok t r=>f t r
def LoopS(kv:G0)(op:Int)(l:List UInt8)(j rb:Nat)(F:Nat->List Nd->List UInt8->PR)(M:PR)(O:Nat->Nat)(w:ln)(n:Nat)(r1:List UInt8)(ts:List Nd)(xs:List N3):Prop:=
 (Rdr kv O w j rb l ((l.length:Int)-(r1.length:Int)) op 0 0/\r1 <:+ l/\r1.length<n/\xs.length+n<=5000/\ts.length=xs.length/\(∀i,i<xs.length->Nt O w (nth ts i) (nth xs i))/\F n ts r1=M)\/
 (∃p e a op',M=.bad p e/\e≠0/\Rdr kv O w j rb l a op' ((l.length:Int)-(p:Int)) e/\0<=a/\a<=l.length+20-op/\op<=op'/\op'<=20)
theorem LoopS.upd{op:Int}{l:List UInt8}{j rb:Nat}{F:Nat->List Nd->List UInt8->PR}{M:PR}{O O':Nat->Nat}{w w':ln}{n:Nat}{r1:List UInt8}{ts:List Nd}{xs:List N3}{S:Nat->Prop}(h:LoopS kv op l j rb F M O w n r1 ts xs)(u:Gs S O w O' w')(hj:j≠0)(hS:¬S j):LoopS kv op l j rb F M O' w' n r1 ts xs:=by
 rcases h with⟨h1,h2,h3,h4,h5,h6,h7⟩|⟨p,e,a,o,h1,h2,h3,h4⟩
 ·exact .inl ⟨Gt h1 u hj hS,h2,h3,h4,h5,fun i hi=>(h6 i hi).upd u,h7⟩
 exact .inr ⟨p,e,a,o,h1,h2,Gt h3 u hj hS,h4⟩
theorem LoopS.next{op:Int}{l:List UInt8}{j rb:Nat}{F:Nat->List Nd->List UInt8->PR}{M M':PR}{O:Nat->Nat}{w:ln}{n:Nat}{q r1:List UInt8}{ts:List Nd}{xs:List N3}{x:N3}(hP:PostE kv O w j rb l op x M')(hG:Good q M')(hq:q <:+ l)(a0:q.length<=r1.length)(h3:r1.length<n+1)(h4:xs.length+(n+1)<=5000)(h5:ts.length=xs.length) 
  (h6:∀i,i<xs.length->Nt O w (nth ts i) (nth xs i)) (h7:F (n+1) ts r1=M) (hF:F (n+1) ts r1=M'.andThen fun t r2=>F n (ts++[t]) r2):∃n' r' ts',n'<n+1/\LoopS kv op l j rb F M O w n' r' ts' (xs++[x]):=by
 cases M' with
 |bad p e=>
  obtain⟨g1,a,o,g2,g3⟩:=hP;exact⟨0,[],[],zo,.inr ⟨p,e,a,o,by rw[<-h7,hF];rfl,hG.2,g2,g3⟩⟩
 |ok t r2=>
  refine⟨n,r2,ts++[t],zo,.inl ⟨hP.1,hG.1.trans hq,by have:=hG.2;omega,by simp;omega,by simp[h5],fun i hi=>?_,by rw[<-h7,hF];rfl⟩⟩;simp only[GZ,Iw]at hi
  by_cases e:i<xs.length
  ·rw[aB (by simp;omega),aB (by simp;omega),Gx zo,Gx e,<-aB zo,<-aB e];exact h6 i e
  obtain rfl:i=xs.length:=zo;rw[aB (by simp;omega),aB (by simp),GM zo,GM zo];simp[h5];exact hP.2
theorem mW{op:Int}{l:List UInt8}{j rb:Nat}{F:Nat->List Nd->List UInt8->PR}{M M':PR}{O:Nat->Nat}{w:ln}{r:List UInt8}{x:N3}(hP:PostE kv O w j rb l op x M')(hG:Good r M')(hr:r <:+ l)(hl:l.length<=4096)(hF:M=M'.andThen fun t r2=>F (r2.length+1) [t] r2):∃n' r' ts',LoopS kv op l j rb F M O w n' r' ts' [x]:=by
 cases M' with
 |bad p e=>
  obtain⟨g1,a,o,g2,g3⟩:=hP;exact⟨0,[],[],.inr ⟨p,e,a,o,hF,hG.2,g2,g3⟩⟩
 |ok t r2=>
  have:=hr.length_le;refine⟨r2.length+1,r2,[t],.inl ⟨hP.1,hG.1.trans hr,zo,by have:=hG.2;simp;omega,rfl,fun i hi=>?_,hF.symm⟩⟩;obtain rfl:i=0:=by simpa using hi
  rw[au,au];exact hP.2
theorem Nt.oneM{O O':Nat->Nat}{w w':ln}{k:Int}{ts:List Nd}{xs:List N3}{lv:G0}{T U B:Nat}{S:Nat->Prop}(a0:Ia bn 86 3 O' w' U lv xs)(a1:T<=U)(a2:0<T)(hT:∀b,O b<T)(r:IA B O' w')(u:Gs S O w O' w')(h5:ts.length=xs.length)(h6:∀i,i<xs.length->Nt O' w' (nth ts i) (nth xs i))(_:1<=xs.length):
  Nt O w' (oneM k ts) (if xs.length=1 then nth xs 0 else(k,0,lv)):=by
 unfold IF
 by_cases e:xs.length=1
 ·rw[if_pos zo,if_pos e];exact(h6 0 zo).low u
 rw[if_neg zo,if_neg e];exact .mk a0.sl (a0.freeT zo (fun b=>JK (hT b) a1) r u) h5 (fun i hi=>(h6 i hi).low u)
theorem yi(al:Option (List UInt8->PR))(op:Int)(f3:0<=op/\op<=20)(ha:sx kv kn al op)(hg:lE al):Reads kv kn 166 [] op (AA kn al) (fun _=>True):=by
 intro B O j rb l r w hR hj hr hl h0 h f5;obtain⟨T,a6,hT⟩:=hR.bound;have i2:j<T:=by rw[<-h.tag];exact hT rb
 have i1:=hr.length_le;refine G8 func166 ntmps166 rfl rfl ?_;refine zh ?_;refine ar hR T zo (G6 _) rfl ?_;intro xb w1 O1 g9 f7 f' i3;have h4:=h.upd f7 hj zo;have b6:=f7.pT hj a6 (G1 _);refine zh ?_;refine zc call190 (qX al op f3 ha hg B O1 j rb l r w1 f' hj hr hl trivial h4 (f5.upd b6)) ?_;rintro v w2 ⟨x,rfl,e2,g1⟩;have c8:=g1.one;have g8:=g9.upd e2 zo zo;have h':=f'.upd e2;have d9:=b6.trans (e2.pj a6);refine bB elN (enc:=bn) h' (T+1) zo x rfl rfl rfl zd rfl ?_;intro lv w3 O3 b4 e1 h9;have g7:=g8.upd e1 zo zo;have i0:=g1.upd e1 hj zo;have d8:=d9.trans (e1.pT hj a6 (GT _));have b5:∀i,i<[x].length->(nth [x] i).2.2.oneCell'=true:=fun i hi=>by
  obtain rfl:i=0:=by simpa using hi
  rw[au];exact c8
 obtain⟨n0,r0,g3,h6⟩:=mW (F:=cX kn al) (M:=AA kn al r) i0 (fq (kn:=kn) hg r) hr hl rfl;refine zh ?_;refine zlp (fun y:Nat×List UInt8×List Nd×List N3×(Nat->Nat)×World×G0=>[(0,nP rb),(2,nP xb),(3,y.2.2.2.2.2.2)]) (fun y=>y.2.2.2.2.2.1) (fun y=>GQ y.2.2.2.2.1 y.2.2.2.2.2.1 T xb #[nI 0,nI 0,nS] 86/\Ia bn 86 3 y.2.2.2.2.1 y.2.2.2.2.2.1 (T+1) y.2.2.2.2.2.2 y.2.2.2.1/\1<=y.2.2.2.1.length/\(∀i,i<y.2.2.2.1.length->(nth y.2.2.2.1 i).2.2.oneCell'=true)/\Gs (fun k=>k=j\/T<=k) O w y.2.2.2.2.1 y.2.2.2.2.2.1/\IA B y.2.2.2.2.1 y.2.2.2.2.2.1/\LoopS kv op l j rb (cX kn al) (AA kn al r) y.2.2.2.2.1 y.2.2.2.2.2.1 y.1 y.2.1 y.2.2.1 y.2.2.2.1) (fun y=>y.1) (n0,r0,g3,[x],O3,w3,lv) (⟨g7,b4,G1 _,b5,d8,h9,h6⟩) ?_;rintro⟨n,r1,ts,xs,O4,w4,a0⟩ ⟨c',a4,a8,a1,e0,e4,f8⟩;dsimp only at c' a4 a8 a1 e0 e4 f8 ⊢
 rcases f8 with⟨a',e9,h1,h3,f4,g',g2⟩|⟨p,e,a,e5,hM,he,a',d5,d4,d3,d2⟩
 ·have e':=(aT r1).trans e9;have d0:=cU r1;obtain⟨m,rfl⟩:∃m,n=m+1:=⟨n-1,zo⟩
  have c7:cX kn al (m+1) ts r1=if eC ((ak r1).headD 0)=true then((ew kn al (ak r1)).andThen fun t r2=>cX kn al m (ts++[t]) r2)else .ok (oneM 4 ts) (ak r1):=rfl
  refine zh ?_;refine zvH (RV.ld a'.r5 rfl) ?_
  refine ao (d:=12) rfl (b':=true) (rfl) ?_;refine zh ?_
  refine zc J1 (fp O4 w4 j rb l r1 op 0 0 hj e9 zo a') ?_;rintro v w5 ⟨rfl,f6,b8⟩;have e6:=c'.upd b8 zo zo;have a5:=a4.upd b8 zo zo;have e3:=e4.upd b8;have b0:=e0.trans (b8.pj a6);have e8:∀i,i<xs.length->Nt O4 w5 (nth ts i) (nth xs i):=fun i hi=>(g' i hi).upd b8
  refine zh ?_;refine zc call191 (xq ((ak r1).headD 0) w5) ?_
  rintro v w9 ⟨rfl,e7⟩;rw[e7];clear e7 w9;refine zh ?_
  by_cases hc:eC ((ak r1).headD 0)=true
  ·rw[if_pos hc]at c7;refine zTH rfl (hc) ?_;refine zc call190 (qX al op f3 ha hg B O4 j rb l (ak r1) w5 e3 hj e' hl trivial f6 (f5.upd b0)) ?_;rintro v w6 ⟨x6,rfl,b7,g0⟩;have b1:=g0.one;have g6:=e6.upd b7 zo zo;have b3:=a5.upd b7 zo zo;have h8:=e3.upd b7;have d7:=b0.trans (b7.pj a6);refine K1 elN b3 h8 (x6) (fun _=>rfl) rfl rfl rfl (mF b1) zo zo zo zd rfl rfl ?_;intro g5 w7 O7 b2 d' h7;obtain⟨n',r',g4,h2,h5⟩:=LoopS.next (F:=cX kn al) g0 (fq (kn:=kn) hg _) e' d0 h1 h3 f4 (fun i hi=>(e8 i hi).upd b7) g2 c7;refine zh ?_;refine zx (n',r',g4,xs++[x6],O7,w7,g5) (⟨g6.upd d' zo zo,b2,by simp,fun i hi=>?_,d7.trans (d'.pT hj a6 (GT _)),h7,h5.upd d' hj zo⟩) (h2);simp only[GZ,Iw]at hi
   by_cases e:i<xs.length
   ·rw[aB (by simp;omega),Gx e,<-aB e];exact a1 i e
   obtain rfl:i=xs.length:=zo;rw[aB (by simp)];simpa using b1
  rw[if_neg hc]at c7;refine zFH rfl ((by simpa using hc)) ?_;refine zc Kk (pz 4 xs a0 w5 a5.sl a1) ?_;rintro v wo ⟨rfl,b9⟩;have a7:Gs (fun _=>False) O4 w5 O4 wo:=aa (fun h=>h) O4 b9;have a2:=Gt e6 a7 zo (fun h=>h);have a3:=Jq a5 a7 zo (fun h=>h);have f9:=JR e3 a7;have c5:(if xs.length=1 then nth xs 0 else(4,0,a0):N3).2.2.oneCell'=true:=by
   split
   ·exact a1 0 zo
   exact a3.one
  refine zsb (us:=#[nI (if xs.length=1 then nth xs 0 else(4,0,a0):N3).1,nI (if xs.length=1 then nth xs 0 else(4,0,a0):N3).2.1,(if xs.length=1 then nth xs 0 else(4,0,a0):N3).2.2]) a2 (ix _) (bR c5) ?_;have c9:=Gq (us:=#[nI (if xs.length=1 then nth xs 0 else(4,0,a0):N3).1,nI (if xs.length=1 then nth xs 0 else(4,0,a0):N3).2.1,(if xs.length=1 then nth xs 0 else(4,0,a0):N3).2.2]) a2;have a9:Gs (fun k=>k=T) O4 wo O4 (Gn wo xb #[nI (if xs.length=1 then nth xs 0 else(4,0,a0):N3).1,nI (if xs.length=1 then nth xs 0 else(4,0,a0):N3).2.1,(if xs.length=1 then nth xs 0 else(4,0,a0):N3).2.2]):=G4 zo (Gu a2) rfl;have d6:=b0.trans (iN O4 b9 hj a6);have c6:=d6.trans (a9.pT hj a6 (G1 _));refine zh ?_
  refine aI rfl rfl (c9.cellsAdd) (G5 _) (ix _) (⟨(if xs.length=1 then nth xs 0 else(4,0,a0)),rfl,c6.priv hT hj,?_⟩);have d1:=(Gt f6 a7 hj (fun h=>h)).upd a9 hj zo;rw[<-g2,c7];exact⟨d1.fgt h.tag,Nt.oneM (a3.upd a9 zo zo) (GT T) a6 hT (f9.upd a9) c6 f4 (fun i hi=>((e8 i hi).upd a7).upd a9) a8⟩
 replace a':GQ O4 w4 j rb (rdr kv l a e5 ((l.length:Int)-(p:Int)) e) 237:=a';refine zh ?_;refine zvH (RV.ld a'.r5 rfl) ?_;refine ao (d:=12) rfl (b':=false) ((by simpa using he)) ?_;refine zh ?_;refine zFH rfl rfl ?_;refine zc Kk (pz 4 xs a0 w4 a4.sl a1) ?_;rintro v wo ⟨rfl,b9⟩;have a7:Gs (fun _=>False) O4 w4 O4 wo:=aa (fun h=>h) O4 b9;have a2:=Gt c' a7 zo (fun h=>h);have a3:=Jq a4 a7 zo (fun h=>h);have f9:=JR e4 a7;have c5:(if xs.length=1 then nth xs 0 else(4,0,a0):N3).2.2.oneCell'=true:=by
  split
  ·exact a1 0 zo
  exact a3.one
 refine zsb (us:=#[nI (if xs.length=1 then nth xs 0 else(4,0,a0):N3).1,nI (if xs.length=1 then nth xs 0 else(4,0,a0):N3).2.1,(if xs.length=1 then nth xs 0 else(4,0,a0):N3).2.2]) a2 (ix _) (bR c5) ?_;have c9:=Gq (us:=#[nI (if xs.length=1 then nth xs 0 else(4,0,a0):N3).1,nI (if xs.length=1 then nth xs 0 else(4,0,a0):N3).2.1,(if xs.length=1 then nth xs 0 else(4,0,a0):N3).2.2]) a2;have a9:Gs (fun k=>k=T) O4 wo O4 (Gn wo xb #[nI (if xs.length=1 then nth xs 0 else(4,0,a0):N3).1,nI (if xs.length=1 then nth xs 0 else(4,0,a0):N3).2.1,(if xs.length=1 then nth xs 0 else(4,0,a0):N3).2.2]):=G4 zo (Gu a2) rfl;have d6:=e0.trans (iN O4 b9 hj a6);have c6:=d6.trans (a9.pT hj a6 (G1 _));refine zh ?_
 refine aI rfl rfl (c9.cellsAdd) (G5 _) (ix _) (⟨(if xs.length=1 then nth xs 0 else(4,0,a0)),rfl,c6.priv hT hj,?_⟩);have d1:=(Gt a' a7 hj (fun h=>h)).upd a9 hj zo;rw[hM];exact⟨c5,a,e5,d1.fgt h.tag,d5,d4,d3,d2⟩
theorem vi(al:Option (List UInt8->PR))(op:Int)(e9:0<=op/\op<=20)(ha:sx kv kn al op)(hg:lE al):Reads kv kn 152 [] op (mP kn al) (fun _=>True):=by
 intro B O j rb l r w hR hj hr hl g' h f3;obtain⟨T,a5,hT⟩:=hR.bound;have i1:j<T:=by rw[<-h.tag];exact hT rb
 have i0:=hr.length_le;refine G8 func152 ntmps152 rfl rfl ?_;refine zh ?_;refine ar hR T zo (G6 _) rfl ?_;intro xb w1 O1 g7 f4 f8 i2;have h3:=h.upd f4 hj zo;have b7:=f4.pT hj a5 (G1 _);refine zh ?_;refine zc call166 (yi al op e9 ha hg B O1 j rb l r w1 f8 hj hr hl trivial h3 (f3.upd b7)) ?_;rintro v w2 ⟨x,rfl,e3,f'⟩;have c9:=f'.one;have g6:=g7.upd e3 zo zo;have h9:=f8.upd e3;have d':=b7.trans (e3.pj a5);refine bB elN (enc:=bn) h9 (T+1) zo x rfl rfl rfl zd rfl ?_;intro lv w3 O3 b3 e2 h8;have g5:=g6.upd e2 zo zo;have h':=f'.upd e2 hj zo;have d9:=d'.trans (e2.pT hj a5 (GT _));have b4:∀i,i<[x].length->(nth [x] i).2.2.oneCell'=true:=fun i hi=>by
  obtain rfl:i=0:=by simpa using hi
  rw[au];exact c9
 obtain⟨n0,r0,g1,h5⟩:=mW (F:=ct kn al) (M:=mP kn al r) h' (jt (kn:=kn) hg r) hr hl rfl;refine zh ?_;refine zlp (fun y:Nat×List UInt8×List Nd×List N3×(Nat->Nat)×World×G0=>[(0,nP rb),(2,nP xb),(3,y.2.2.2.2.2.2)]) (fun y=>y.2.2.2.2.2.1) (fun y=>GQ y.2.2.2.2.1 y.2.2.2.2.2.1 T xb #[nI 0,nI 0,nS] 86/\Ia bn 86 3 y.2.2.2.2.1 y.2.2.2.2.2.1 (T+1) y.2.2.2.2.2.2 y.2.2.2.1/\1<=y.2.2.2.1.length/\(∀i,i<y.2.2.2.1.length->(nth y.2.2.2.1 i).2.2.oneCell'=true)/\Gs (fun k=>k=j\/T<=k) O w y.2.2.2.2.1 y.2.2.2.2.2.1/\IA B y.2.2.2.2.1 y.2.2.2.2.2.1/\LoopS kv op l j rb (ct kn al) (mP kn al r) y.2.2.2.2.1 y.2.2.2.2.2.1 y.1 y.2.1 y.2.2.1 y.2.2.2.1) (fun y=>y.1) (n0,r0,g1,[x],O3,w3,lv) (⟨g5,b3,G1 _,b4,d9,h8,h5⟩) ?_;rintro⟨n,r1,ts,xs,O4,w4,a0⟩ ⟨d0,a4,a8,a1,e1,e4,f5⟩;dsimp only at d0 a4 a8 a1 e1 e4 f5 ⊢
 rcases f5 with⟨a',e8,h0,h2,e',g8,g0⟩|⟨p,e,a,e5,hM,he,a',d6,d5,d4,d3⟩
 ·have d1:=(aT r1).trans e8;have g9:=cU r1;obtain⟨m,rfl⟩:∃m,n=m+1:=⟨n-1,zo⟩
  have c8:ct kn al (m+1) ts r1=if(ak r1).headD 0=124 then((AA kn al (ak r1).tail).andThen fun t r2=>ct kn al m (ts++[t]) r2)else .ok (oneM 5 ts) (ak r1):=rfl
  refine zh ?_;refine zvH (RV.ld a'.r5 rfl) ?_
  refine ao (d:=12) rfl (b':=true) (rfl) ?_;refine zh ?_
  refine zc J1 (fp O4 w4 j rb l r1 op 0 0 hj e8 zo a') ?_;rintro v w5 ⟨rfl,b5,b9⟩;have e6:=d0.upd b9 zo zo;have a6:=a4.upd b9 zo zo;have f7:=e4.upd b9;have b6:=e1.trans (b9.pj a5);have e7:∀i,i<xs.length->Nt O4 w5 (nth ts i) (nth xs i):=fun i hi=>(g8 i hi).upd b9
  refine zh ?_
  by_cases hc:(ak r1).headD 0=124
  ·rw[if_pos hc]at c8;obtain⟨k1,k2⟩:=bN (r:=ak r1) (by rw[hc];decide);have hq4l:=d1.length_le;refine zTH rfl ((by rw[hc];rfl)) ?_;refine zvH (RV.ld b5.r1 rfl) ?_;refine aj (j:=1) b5 rfl (I2 _) rfl rfl rfl rfl ?_;rw[show((l.length:Int)-((ak r1).length:Int))+1=(l.length:Int)-((ak r1).tail.length:Int)from by omega];have hb5a:=BlkO.rAt b5 ((l.length:Int)-((ak r1).tail.length:Int));have hU5a:Gs (fun k=>k=j) O4 w5 O4 (Gv w5 ⟨rb,1,none⟩ (nI ((l.length:Int)-((ak r1).tail.length:Int)))):=GF (fun e=>hj e.symm) (Gu b5) rfl;have hx5a:=e6.upd hU5a zo zo;have hrow5a:=a6.upd hU5a zo zo;have hR5a:=f7.upd hU5a;have hUt5a:=b6.trans (hU5a.pj a5);generalize Gv w5 ⟨rb,1,none⟩ (nI ((l.length:Int)-((ak r1).tail.length:Int)))=w5a at *;refine zh ?_;refine zc call166 (yi al op e9 ha hg B O4 j rb l (ak r1).tail w5a hR5a hj (k1.trans d1) hl trivial hb5a (f3.upd hUt5a)) ?_;rintro v w6 ⟨x6,rfl,b8,f9⟩;have b0:=f9.one;have g4:=hx5a.upd b8 zo zo;have b2:=hrow5a.upd b8 zo zo;have h7:=hR5a.upd b8;have d8:=hUt5a.trans (b8.pj a5);refine K1 elN b2 h7 (x6) (fun _=>rfl) rfl rfl rfl (mF b0) zo zo zo zd rfl rfl ?_;intro g3 w7 O7 b1 e0 h6;obtain⟨n',r',g2,h1,h4⟩:=LoopS.next (F:=ct kn al) f9 (jt (kn:=kn) hg _) (k1.trans d1) zo h0 h2 e' (fun i hi=>((e7 i hi).upd hU5a).upd b8) g0 c8;refine zh ?_
   refine zx (n',r',g2,xs++[x6],O7,w7,g3) (⟨g4.upd e0 zo zo,b1,by simp,fun i hi=>?_,d8.trans (e0.pT hj a5 (GT _)),h6,h4.upd e0 hj zo⟩) (h1);simp only[GZ,Iw]at hi
   by_cases e:i<xs.length
   ·rw[aB (by simp;omega),Gx e,<-aB e];exact a1 i e
   obtain rfl:i=xs.length:=zo;rw[aB (by simp)];simpa using b0
  rw[if_neg hc]at c8;refine zFH rfl ((gJ _ 124 zd hc)) ?_;refine zc Kk (pz 5 xs a0 w5 a6.sl a1) ?_;rintro v wo ⟨rfl,c5⟩;have a7:Gs (fun _=>False) O4 w5 O4 wo:=aa (fun h=>h) O4 c5;have a2:=Gt e6 a7 zo (fun h=>h);have a3:=Jq a6 a7 zo (fun h=>h);have f6:=JR f7 a7;have c6:(if xs.length=1 then nth xs 0 else(5,0,a0):N3).2.2.oneCell'=true:=by
   split
   ·exact a1 0 zo
   exact a3.one
  refine zsb (us:=#[nI (if xs.length=1 then nth xs 0 else(5,0,a0):N3).1,nI (if xs.length=1 then nth xs 0 else(5,0,a0):N3).2.1,(if xs.length=1 then nth xs 0 else(5,0,a0):N3).2.2]) a2 (ix _) (bR c6) ?_;have c':=Gq (us:=#[nI (if xs.length=1 then nth xs 0 else(5,0,a0):N3).1,nI (if xs.length=1 then nth xs 0 else(5,0,a0):N3).2.1,(if xs.length=1 then nth xs 0 else(5,0,a0):N3).2.2]) a2;have a9:Gs (fun k=>k=T) O4 wo O4 (Gn wo xb #[nI (if xs.length=1 then nth xs 0 else(5,0,a0):N3).1,nI (if xs.length=1 then nth xs 0 else(5,0,a0):N3).2.1,(if xs.length=1 then nth xs 0 else(5,0,a0):N3).2.2]):=G4 zo (Gu a2) rfl;have d7:=b6.trans (iN O4 c5 hj a5);have c7:=d7.trans (a9.pT hj a5 (G1 _));refine zh ?_
  refine aI rfl rfl (c'.cellsAdd) (G5 _) (ix _) (⟨(if xs.length=1 then nth xs 0 else(5,0,a0)),rfl,c7.priv hT hj,?_⟩);have d2:=(Gt b5 a7 hj (fun h=>h)).upd a9 hj zo;rw[<-g0,c8];exact⟨d2.fgt h.tag,Nt.oneM (a3.upd a9 zo zo) (GT T) a5 hT (f6.upd a9) c7 e' (fun i hi=>((e7 i hi).upd a7).upd a9) a8⟩
 replace a':GQ O4 w4 j rb (rdr kv l a e5 ((l.length:Int)-(p:Int)) e) 237:=a';refine zh ?_;refine zvH (RV.ld a'.r5 rfl) ?_;refine ao (d:=12) rfl (b':=false) ((by simpa using he)) ?_;refine zh ?_;refine zFH rfl rfl ?_;refine zc Kk (pz 5 xs a0 w4 a4.sl a1) ?_;rintro v wo ⟨rfl,c5⟩;have a7:Gs (fun _=>False) O4 w4 O4 wo:=aa (fun h=>h) O4 c5;have a2:=Gt d0 a7 zo (fun h=>h);have a3:=Jq a4 a7 zo (fun h=>h);have f6:=JR e4 a7;have c6:(if xs.length=1 then nth xs 0 else(5,0,a0):N3).2.2.oneCell'=true:=by
  split
  ·exact a1 0 zo
  exact a3.one
 refine zsb (us:=#[nI (if xs.length=1 then nth xs 0 else(5,0,a0):N3).1,nI (if xs.length=1 then nth xs 0 else(5,0,a0):N3).2.1,(if xs.length=1 then nth xs 0 else(5,0,a0):N3).2.2]) a2 (ix _) (bR c6) ?_;have c':=Gq (us:=#[nI (if xs.length=1 then nth xs 0 else(5,0,a0):N3).1,nI (if xs.length=1 then nth xs 0 else(5,0,a0):N3).2.1,(if xs.length=1 then nth xs 0 else(5,0,a0):N3).2.2]) a2;have a9:Gs (fun k=>k=T) O4 wo O4 (Gn wo xb #[nI (if xs.length=1 then nth xs 0 else(5,0,a0):N3).1,nI (if xs.length=1 then nth xs 0 else(5,0,a0):N3).2.1,(if xs.length=1 then nth xs 0 else(5,0,a0):N3).2.2]):=G4 zo (Gu a2) rfl;have d7:=e1.trans (iN O4 c5 hj a5);have c7:=d7.trans (a9.pT hj a5 (G1 _));refine zh ?_
 refine aI rfl rfl (c'.cellsAdd) (G5 _) (ix _) (⟨(if xs.length=1 then nth xs 0 else(5,0,a0)),rfl,c7.priv hT hj,?_⟩);have d2:=(Gt a' a7 hj (fun h=>h)).upd a9 hj zo;rw[hM];exact⟨c6,a,e5,d2.fgt h.tag,d6,d5,d4,d3⟩
theorem oP:∀(d:Nat),d<=20->Reads kv kn 152 [] (20-(d:Int)) (tT kn d) (fun _=>True)
 |0,h=>vi none _ zo (show(20:Int)-((0:Nat):Int)=20 by omega) (fun f e=>by cases e)
 |d+1,h=>by
  have ih:=oP d zo;rw[show(20:Int)-(d:Int)=(20-((d+1:Nat):Int))+1 from by omega]at ih;exact vi (some (tT kn d)) _ zo ⟨zo,ih⟩ (fun f e r=>by cases e;exact iw (kn:=kn) d r)
end
end Go.Proofs.YtpfpmhhigheccaaGreatDoor
section
namespace Go.VL
def mix(A C:Nat->Nat)(b:Nat):Nat:=if A b=0 then C b else A b
theorem CK{A C:Nat->Nat}{b i:Nat}(h:A b=i)(hi:i≠0):mix A C b=i:=by unfold mix;rw[if_neg zo];exact h
theorem Fx{A C:Nat->Nat}{b:Nat}(h:mix A C b=0):C b=0:=by
 unfold mix at h
 split at h
 ·exact h
 rename_i h1;exact absurd h h1
theorem Rng.mix{B:Nat}{A C:Nat->Nat}{w:ln}(h:IA B A w)(k:IA B C w):IA B (mix A C) w:=⟨h.le,fun b hb=>by
 unfold VL.mix at hb
 split at hb
 ·exact k.rng b hb
 rename_i h1;exact h.rng b h1⟩
end Go.VL
namespace Go.Proofs.YtpfpmhhigheccaaGreatDoor
open Go.VL Go.Proofs
set_option maxRecDepth 10000
variable{kn:Kn}
def PostX(O:Nat->Nat)(w:ln)(v:G0):XR->Prop
 |.ok t=>∃x,v=.tuple #[nv x,nI 0,nI 0]/\Nt O w t x
 |.bad p e=>v=.tuple #[nv (0,0,nS),nI (p:Int),nI e]/\e≠0
theorem Fm:cD GG 235 #[(0,1),(1,1)]:=⟨_,underlying235,fun w=>by kernel_rfl⟩
theorem Fl:cD GG 237 #[(0,2),(2,1),(3,1),(4,1),(5,1)]:=⟨_,underlying237,fun w=>by kernel_rfl⟩
theorem ku(kv:G0)(l:List UInt8)(B:Nat)(O O':Nat->Nat)(w:ln)(h4:IA B O w)(hR:IA B O' w)(d4:Known O' w kv kn):IB GG 132 [.string (bs l),kv] w fun v w'=>Ie w w'/\PostX O w' v (eB kn l):=by
 obtain⟨T,h8,hT⟩:=hR.bound;have a0:¬(fun q:Nat=>T<=q) 0:=fun e=>zo
 have hA:=oP (kv:=kv) (kn:=kn) 20 (G1 _);rw[show(20:Int)-((20:Nat):Int)=0 from by omega]at hA;have b5:=iw (kn:=kn) 20 l;obtain⟨ms,e3⟩:=d4;obtain⟨qa,qc,g0,_⟩:=e3.1.shape;replace d4:Known O' w kv kn:=⟨ms,e3⟩
 subst g0;refine G8 func132 ntmps132 rfl rfl ?_;refine zh ?_;refine ar hR T zo (G6 _) rfl ?_;intro xb w1 O1 c9 h0 h3 i1;have b9:Gs (fun q=>T<=q) O' w O1 w1:=h0.mono (fun _ h=>I6 h.symm) a0;refine zh ?_;refine zvH (bQ GK rfl) ?_
 by_cases hl:4096<l.length
 ·have hM:eB kn l=.bad 0 3:=by unfold eB;rw[if_pos hl]
  rw[hM];refine zTH rfl ((decide_eq_true zo)) ?_;refine zv (aD vH (G6 _) rfl (by first|rfl|(simp only[Gp,Gz];rfl)) rfl rfl) ?_;refine zsa (us:=#[nI 0,nI 0,nS]) c9 (ix _) ?_;have a7:=Gq (us:=#[nI 0,nI 0,nS]) c9;have a3:Gs (fun k=>k=T) O1 w1 O1 (Gn w1 xb #[nI 0,nI 0,nS]):=G4 zo (Gu c9) rfl;refine zh ?_;refine bX rfl rfl rfl rfl a7.cellsAdd (G5 _) (ix _) ⟨bA (b9.trans (a3.mono (fun _ h=>I6 h.symm) a0)) (fun b=>by have:=hT b;omega),rfl,zd⟩
 refine zFH rfl ((decide_eq_false zo)) ?_;refine zvH (aD Fm (zeroValue235 _) rfl (by first|rfl|(simp only[Gp,Gz];rfl)) rfl rfl) ?_
 refine zv (RV.build (cells:=rdr (.slice qa ms.length qc) l 0 0 0 0) Fl (zeroValue237 _) rfl rfl) ?_;refine aG h3 (T+1) zo rfl rfl ?_
 intro rb w2 O2 d5 e5 e7 i0;have g7:Rdr (.slice qa ms.length qc) O2 w2 (T+1) rb l ((l.length:Int)-(l.length:Int)) 0 0 0:=by
  rw[show(l.length:Int)-(l.length:Int)=0 from by omega];exact d5
 have f7:=c9.upd e5 zo zo;have b8:=b9.trans (e5.mono (fun _ h=>by rw[h];omega) a0);refine zh ?_;refine zc call152 (hA B O2 (T+1) rb l l w2 e7 zo (IT l) zo trivial g7 (d4.upd b8)) ?_;rintro v w3 ⟨x,rfl,d',e8⟩;have f4:=e8.one;have f6:=f7.upd d' zo zo;have e6:=e7.upd d';have d8:=b8.trans (d'.mono (fun _ h=>by rw[h];omega) a0);refine ar e6 (T+2) zo (G6 _) rfl ?_;intro nb w4 O4 d3 g' h9 h';refine zsb (us:=#[nI x.1,nI x.2.1,x.2.2]) d3 (ix _) (bR f4) ?_;have f':=d3.setRow (us:=#[nI x.1,nI x.2.1,x.2.2]);have g9:Gs (fun k=>k=T+2) O4 w4 O4 (w4.setRow nb #[nI x.1,nI x.2.1,x.2.2]):=G4 zo d3.tag rfl;have a':=g'.trans g9;have c8:=f6.upd a' zo zo;have c':=e8.upd a' zo zo;have h2:=e6.upd a';have b7:=d8.trans (a'.mono (fun _ h=>by rw[h];omega) a0);generalize w4.setRow nb #[nI x.1,nI x.2.1,x.2.2]=w5 at *
 cases hf:tT kn 20 l with
 |bad p e=>
  rw[hf]at b5 c';have hM:eB kn l=.bad (l.length-p) e:=by unfold eB;rw[if_neg hl,hf]
  have g6:=b5.1;have a8:=b5.2;obtain⟨g1,a,e',a6,g2,g3,g4,g5⟩:=c';replace a6:GQ O4 w5 (T+1) rb (rdr (.slice qa ms.length qc) l a e' ((l.length:Int)-(p:Int)) e) 237:=a6;rw[hM];refine zh ?_;refine zvH (RV.ld a6.r5 rfl) ?_;refine ao (d:=25) rfl (b':=false) ((by simpa using a8)) ?_;refine zh ?_;refine zFH rfl rfl ?_;refine zvH (RV.ld a6.r5 rfl) ?_;refine ao (d:=44) rfl (b':=false) ((by simpa using a8)) ?_;refine zh ?_;refine zFH rfl rfl ?_;refine zvH (RV.ld a6.r5 rfl) ?_;refine aS rfl ((by simpa using a8)) ?_;have a5:=I9 a6;refine zh ?_;refine aK (fun W=>W.cell? ⟨rb,4,none⟩=some (nI ((l.length:Int)-(p:Int)))/\W.cell? ⟨rb,5,none⟩=some (nI e)) 12 rfl zk ?_;refine zin ⟨a5.r4,a5.r5⟩ fun zS=>?_
  refine zr 0 rfl zS (fun _=>aD vH (G6 _) rfl (by first|rfl|(simp only[Gp,Gz];rfl)) rfl rfl) ?_;refine zrm 1 rfl zS rfl ?_
  refine zr 2 rfl zS (fun _=>aq rfl) ?_;refine zrf 3 rfl zS rfl ?_
  refine zt 4 rfl zS (fun w1 a4=>RV.ld a4.1 rfl) ?_;refine zrm 5 rfl zS rfl ?_
  refine zr 6 rfl zS (fun _=>aq rfl) ?_;refine zrf 7 rfl zS rfl ?_
  refine zt 8 rfl zS (fun w1 a4=>RV.ld a4.2 rfl) ?_;refine GL 9 zk rfl ?_
  refine zsa (us:=#[nI 0,nI 0,nS]) (I9 c8) (ix _) ?_;have a7:=Gq (us:=#[nI 0,nI 0,nS]) (I9 c8);have a3:Gs (fun k=>k=T) O4 (Iq w5) O4 (Gn (Iq w5) xb #[nI 0,nI 0,nS]):=G4 zo (Gu c8) rfl;have b0:=Gt a5 a3 zo zo;refine zh ?_
  refine zaf (⟨b0.r4,b0.r5⟩) fun zS=>?_
  refine zra 10 rfl zS rfl ?_;refine zra 11 rfl zS rfl ?_
  refine Il zk ?_;refine zh ?_
  refine bX rfl rfl rfl rfl a7.cellsAdd (G5 _) (ix _) ⟨bA ((b7.drew).trans (a3.mono (fun _ h=>I6 h.symm) a0)) (fun b=>by have:=hT b;omega),?_⟩;exact⟨by rw[show(l.length:Int)-(p:Int)=((l.length-p:Nat):Int)from by omega];rfl,a8⟩
 |ok t r=>
  rw[hf]at b5 c';obtain⟨a6,d2⟩:=c';replace a6:GQ O4 w5 (T+1) rb (rdr (.slice qa ms.length qc) l ((l.length:Int)-(r.length:Int)) 0 0 0) 237:=a6;have hr:=b5.1;have hq:=(aT r).trans hr;have h7:=hq.length_le;refine zh ?_;refine zvH (RV.ld a6.r5 rfl) ?_;refine ao (d:=25) rfl (b':=true) (rfl) ?_;refine zh ?_;refine zc J1 (fp O4 w5 (T+1) rb l r 0 0 0 zo hr zo a6) ?_;rintro v w6 ⟨rfl,a9,c6⟩;have d0:=c8.upd c6 zo zo;have e2:=f'.upd c6 zo zo;have e0:=h2.upd c6;have b4:=d2.upd c6;have b1:=b7.trans (c6.mono (fun _ h=>by rw[h];omega) a0);refine zh ?_
  by_cases e1:(ak r).length=0
  ·have f8:ak r=[]:=GE e1;have e9:eB kn l=if 2000<nsz t then .bad 0 3 else .ok t:=by unfold eB;rw[if_neg hl,hf];dsimp only;rw[if_neg zo]
   refine zFH rfl ((by rw[f8];rfl)) ?_;refine zvH (RV.ld a9.r5 rfl) ?_
   refine ao (d:=44) rfl (b':=true) (rfl) ?_;refine zh ?_
   refine zvH (RV.ld a9.r1 rfl) ?_;refine zvH (bQ GK rfl) ?_
   refine zFH rfl ((decide_eq_false zo)) ?_;refine zvH (RV.ld a9.r5 rfl) ?_
   refine zFH rfl rfl ?_;refine zv (ah (us:=bn x) e2.cellsAdd (G5 _) (ix _) rfl) ?_
   refine zc KT (pd (nsz t) t (G1 _) x w6 2000 b4.zero zo) ?_;rintro v w7 ⟨rfl,h6⟩;have b6:Gs (fun _=>False) O4 w6 O4 w7:=aa (fun h=>h) O4 h6;have a2:=d0.upd b6 zo (fun h=>h);have f9:=e2.upd b6 zo (fun h=>h);have a1:=b1.trans (b6.mono (fun _ h=>h.elim) a0);have d1:=b4.upd b6;have h1:=e0.upd b6;refine zh ?_
   by_cases hz:2000<nsz t
   ·have hM:eB kn l=.bad 0 3:=by rw[e9,if_pos hz]
    rw[hM];refine zTH rfl ((decide_eq_true zo)) ?_;refine zv (aD vH (G6 _) rfl (by first|rfl|(simp only[Gp,Gz];rfl)) rfl rfl) ?_;refine zsa (us:=#[nI 0,nI 0,nS]) a2 (ix _) ?_;have a7:=Gq (us:=#[nI 0,nI 0,nS]) a2;have a3:Gs (fun k=>k=T) O4 w7 O4 (Gn w7 xb #[nI 0,nI 0,nS]):=G4 zo (Gu a2) rfl;refine zh ?_;refine bX rfl rfl rfl rfl a7.cellsAdd (G5 _) (ix _) ⟨bA (a1.trans (a3.mono (fun _ h=>I6 h.symm) a0)) (fun b=>by have:=hT b;omega),rfl,zd⟩
   have hM:eB kn l=.ok t:=by rw[e9,if_neg hz]
   rw[hM];refine zFH rfl ((decide_eq_false zo)) ?_;refine zv (ah (us:=bn x) f9.cellsAdd (G5 _) (ix _) rfl) ?_;refine zc KR (rT (nsz t) zo t (G1 _) B (mix O4 O) x w7 (h1.mix (h4.ext (bA a1 (fun b=>by have:=hT b;omega)))) d1.zero) ?_;rintro v w8 ⟨y,rfl,b3,h5⟩;have e4:Gs (fun _=>False) O4 w7 O4 w8:=aa (fun h=>h) O4 h5;have c7:=a2.upd e4 zo (fun h=>h);have d7:=a1.trans (e4.mono (fun _ h=>h.elim) a0);have f3:=b3.one;refine zsb (us:=#[nI y.1,nI y.2.1,y.2.2]) c7 (ix _) (bR f3) ?_;have f5:=c7.setRow (us:=#[nI y.1,nI y.2.1,y.2.2]);have g8:Gs (fun k=>k=T) O4 w8 O4 (w8.setRow xb #[nI y.1,nI y.2.1,y.2.2]):=G4 zo c7.tag rfl;have d9:Gs (fun k=>k=T) (mix O4 O) w8 (mix O4 O) (w8.setRow xb #[nI y.1,nI y.2.1,y.2.2]):=G4 zo (CK c7.tag zo) rfl;have d6:=d7.trans (g8.mono (fun _ h=>I6 h.symm) a0);refine zh ?_;refine bX rfl rfl rfl rfl f5.cellsAdd (G5 _) (ix _) ⟨bA d6 (fun b=>by have:=hT b;omega),y,rfl,(b3.upd d9).weak (fun b hb=>Fx hb)⟩
  have hM:eB kn l=.bad (l.length-(ak r).length) 4:=by unfold eB;rw[if_neg hl,hf];dsimp only;rw[if_pos e1]
  rw[hM]
  by_cases hc:(ak r).headD 0=0
  ·refine zFH rfl ((by rw[hc];rfl)) ?_;refine zvH (RV.ld a9.r5 rfl) ?_
   refine ao (d:=44) rfl (b':=true) (rfl) ?_;refine zh ?_
   refine zvH (RV.ld a9.r1 rfl) ?_;refine zvH (bQ GK rfl) ?_
   refine zTH rfl ((decide_eq_true zo)) ?_;refine zv (RV.ld a9.r1 rfl) ?_
   refine zc J0 (fN _ O4 w6 (T+1) rb l _ _ 0 ((l.length:Int)-((ak r).length:Int)) 4 zo e0 a9) ?_;rintro v w7 ⟨_,b2,c5⟩;have a2:=d0.upd c5 zo zo;have a1:=b1.trans (c5.mono (fun _ h=>by rw[h];omega) a0);refine zh ?_
   refine zvH (RV.ld b2.r5 rfl) ?_;refine aS rfl rfl ?_
   have a5:=I9 b2;refine zh ?_;refine aK (fun W=>W.cell? ⟨rb,4,none⟩=some (nI ((l.length:Int)-((ak r).length:Int)))/\W.cell? ⟨rb,5,none⟩=some (nI 4)) 12 rfl zk ?_;refine zin ⟨a5.r4,a5.r5⟩ fun zS=>?_
   refine zr 0 rfl zS (fun _=>aD vH (G6 _) rfl (by first|rfl|(simp only[Gp,Gz];rfl)) rfl rfl) ?_;refine zrm 1 rfl zS rfl ?_
   refine zr 2 rfl zS (fun _=>aq rfl) ?_;refine zrf 3 rfl zS rfl ?_
   refine zt 4 rfl zS (fun w1 a4=>RV.ld a4.1 rfl) ?_;refine zrm 5 rfl zS rfl ?_
   refine zr 6 rfl zS (fun _=>aq rfl) ?_;refine zrf 7 rfl zS rfl ?_
   refine zt 8 rfl zS (fun w1 a4=>RV.ld a4.2 rfl) ?_;refine GL 9 zk rfl ?_
   refine zsa (us:=#[nI 0,nI 0,nS]) (I9 a2) (ix _) ?_;have a7:=Gq (us:=#[nI 0,nI 0,nS]) (I9 a2);have a3:Gs (fun k=>k=T) O4 (Iq w7) O4 (Gn (Iq w7) xb #[nI 0,nI 0,nS]):=G4 zo (Gu a2) rfl;have b0:=Gt a5 a3 zo zo;refine zh ?_
   refine zaf (⟨b0.r4,b0.r5⟩) fun zS=>?_
   refine zra 10 rfl zS rfl ?_;refine zra 11 rfl zS rfl ?_
   refine Il zk ?_;refine zh ?_
   refine bX rfl rfl rfl rfl a7.cellsAdd (G5 _) (ix _) ⟨bA ((a1.drew).trans (a3.mono (fun _ h=>I6 h.symm) a0)) (fun b=>by have:=hT b;omega),?_⟩;exact⟨by rw[show(l.length:Int)-((ak r).length:Int)=((l.length-(ak r).length:Nat):Int)from by omega];rfl,zd⟩
  refine zTH rfl ((tO _ 0 zd hc)) ?_;refine zv (RV.ld a9.r1 rfl) ?_
  refine zc J0 (fN _ O4 w6 (T+1) rb l _ _ 0 ((l.length:Int)-((ak r).length:Int)) 4 zo e0 a9) ?_;rintro v w7 ⟨_,b2,c5⟩;have a2:=d0.upd c5 zo zo;have a1:=b1.trans (c5.mono (fun _ h=>by rw[h];omega) a0);refine zh ?_
  refine zvH (RV.ld b2.r5 rfl) ?_;refine ao (d:=44) rfl (b':=false) (rfl) ?_
  refine zh ?_;refine zFH rfl rfl ?_
  refine zvH (RV.ld b2.r5 rfl) ?_;refine aS rfl rfl ?_
  have a5:=I9 b2;refine zh ?_;refine aK (fun W=>W.cell? ⟨rb,4,none⟩=some (nI ((l.length:Int)-((ak r).length:Int)))/\W.cell? ⟨rb,5,none⟩=some (nI 4)) 12 rfl zk ?_;refine zin ⟨a5.r4,a5.r5⟩ fun zS=>?_
  refine zr 0 rfl zS (fun _=>aD vH (G6 _) rfl (by first|rfl|(simp only[Gp,Gz];rfl)) rfl rfl) ?_;refine zrm 1 rfl zS rfl ?_
  refine zr 2 rfl zS (fun _=>aq rfl) ?_;refine zrf 3 rfl zS rfl ?_
  refine zt 4 rfl zS (fun w1 a4=>RV.ld a4.1 rfl) ?_;refine zrm 5 rfl zS rfl ?_
  refine zr 6 rfl zS (fun _=>aq rfl) ?_;refine zrf 7 rfl zS rfl ?_
  refine zt 8 rfl zS (fun w1 a4=>RV.ld a4.2 rfl) ?_;refine GL 9 zk rfl ?_
  refine zsa (us:=#[nI 0,nI 0,nS]) (I9 a2) (ix _) ?_;have a7:=Gq (us:=#[nI 0,nI 0,nS]) (I9 a2);have a3:Gs (fun k=>k=T) O4 (Iq w7) O4 (Gn (Iq w7) xb #[nI 0,nI 0,nS]):=G4 zo (Gu a2) rfl;have b0:=Gt a5 a3 zo zo;refine zh ?_
  refine zaf (⟨b0.r4,b0.r5⟩) fun zS=>?_
  refine zra 10 rfl zS rfl ?_;refine zra 11 rfl zS rfl ?_
  refine Il zk ?_;refine zh ?_
  refine bX rfl rfl rfl rfl a7.cellsAdd (G5 _) (ix _) ⟨bA ((a1.drew).trans (a3.mono (fun _ h=>I6 h.symm) a0)) (fun b=>by have:=hT b;omega),?_⟩;exact⟨by rw[show(l.length:Int)-((ak r).length:Int)=((l.length-(ak r).length:Nat):Int)from by omega];rfl,zd⟩
end Go.Proofs.YtpfpmhhigheccaaGreatDoor
end
namespace Go.Proofs.YtpfpmhhigheccaaGreatDoor
mutual
def ed:Nd->Int | .mk k _ l=>if k=6\/k=7 then -1 else if k=9 then 0 else if k=4\/k=5\/k=8 then gb (k==4) 0 l else 1
def gb:Bool->Int->List Nd->Int
 |_,acc,[]=>acc
 |s,acc,t::r=>if ed t<0 then -1 else gb s (if s=true then acc+ed t else max acc (ed t)) r
end
mutual
def Bl(q:Int):Nd->Bool | .mk k _ l=>(k==q)||CU q l
def CU(q:Int):List Nd->Bool | []=>false|t::r=>Bl q t||CU q r
end
theorem Bm(q:Int):∀(l:List Nd),iH (fun i=>Bl q (nth l i)) l.length=CU q l:=by
 intro l;rw[K8,eh]
 induction l with
 |nil=>simp[CU]
 |cons t r ih=>
  simp only[CU,Bool.or_eq_true,<-ih,GP]
  constructor
  ·rintro⟨i,hi,hq⟩
   cases i with
   |zero=>rw[au]at hq;exact .inl hq
   |succ i=>rw[bp]at hq;exact .inr ⟨i,zo,hq⟩
  rintro(h|⟨i,hi,hq⟩)
  ·exact⟨0,zo,by rw[au];exact h⟩
  exact⟨i+1,zo,by rw[bp];exact hq⟩
mutual
theorem lI:∀(t:Nd),ed t<=nsz t
 |.mk k c l=>by
  have h:=pL l (k==4) 0 (IZ 0)
  unfold ed
  simp only[nsz]
  (repeat' split)<;>omega
theorem pL:∀(l:List Nd) (s:Bool) (acc:Int),0<=acc->gb s acc l<=acc+dZ l
 |[],s,acc,h=>by simp[gb,dZ]
 |t::r,s,acc,h=>by
  have h1:=lI t
  unfold gb
  simp only[dZ]
  split
  ·omega
  split
  ·have h2:=pL r s (acc+ed t) zo
   omega
  have h2:=pL r s (max acc (ed t)) zo
  omega
end
theorem kI{l:List Nd}{i:Nat}(h:i<l.length):l.drop i=nth l i::l.drop (i+1):=by
 rw[J9 h,aB h]
theorem fE:∀(n:Nat),n<=1000000->∀(t:Nd),nsz t<=n->∀(x:N3) (w:ln),Nt (fun _=>0) w t x->IB GG 142 [nv x] w fun v w'=>v=nI (ed t)/\Ie w w'
 |0,_,t,hn=>by have:=dX t;omega
 |n+1,hm,.mk k c kids,hn=>by
  intro x w h;have c9:=h.ones;obtain⟨xs,hs,hf,hl,hk⟩:=h.kids;simp only[Js]at hl hk;simp only[nsz]at hn;have c':=ij kids;generalize x.2.2=sv at *;subst c9;simp only[KC,KN];have hM:ed (.mk k c kids)=if k=6\/k=7 then -1 else if k=9 then 0 else if k=4\/k=5\/k=8 then gb (k==4) 0 kids else 1:=rfl
  rw[hM];refine G8 func142 ntmps142 rfl rfl ?_;refine zh ?_;refine aG (aw w) 1 zo rfl rfl ?_;intro xb w1 O1 b7 d0 d1 a4;have c0:w1.cell? (nA xb 0)=some (nI k):=b7.cell 0 rfl;have c2:w1.cell? (nA xb 2)=some sv:=b7.cell 2 rfl;have b6:=hs.ext a4;refine zh ?_
  by_cases h6:k=6
  ·subst h6;refine zTH rfl rfl ?_;refine zTH rfl rfl ?_;refine ae rfl rfl (⟨rfl,a4⟩)
  refine zFH rfl ((beq_eq_false_iff_ne.2 h6)) ?_
  by_cases h7:k=7
  ·subst h7;refine zTH rfl rfl ?_;refine ae rfl rfl (⟨rfl,a4⟩)
  rw[if_neg zo];refine zFH rfl ((beq_eq_false_iff_ne.2 h7)) ?_
  by_cases h9:k=9
  ·subst h9;refine zTH rfl rfl ?_;refine ae rfl rfl (⟨rfl,a4⟩)
  rw[if_neg h9];refine zFH rfl ((beq_eq_false_iff_ne.2 h9)) ?_
  by_cases h4:k=4
  ·subst h4;rw[if_pos zo];refine zTH rfl rfl ?_;refine zTH rfl rfl ?_;refine zlp (fun y:Nat×Int×ln=>[(2,nI 0),(3,nI y.2.1),(1,nP xb),(19,sv),(20,nI xs.length),(21,nI y.1)]) (fun y=>y.2.2) (fun y=>y.1<=xs.length/\0<=y.2.1/\y.2.1<=dZ (kids.take y.1)/\gb ((4:Int)==4) y.2.1 (kids.drop y.1)=gb ((4:Int)==4) 0 kids/\Ie w1 y.2.2) (fun y=>xs.length-y.1) (0,0,w1) (⟨GB _,IZ _,by simp[dZ],rfl,GC _⟩) ?_;rintro⟨i,a7,w2⟩ ⟨hi,b2,ha,hL,a3⟩;dsimp only at hi b2 ha hL a3 ⊢;have b0:=b6.ext a3;refine zh ?_;refine zC ?_ ?_
   ·intro a2;replace a2:i<xs.length:=dT a2;have a8:=(hk i a2).ext (a4.trans a3);have a':=a8.one;have c5:=cB kids i zo;have b9:=dY kids i zo;have b8:=cH kids (i+1);have b':=lI (nth kids i);rw[kI zo]at hL;have b4:gb ((4:Int)==4) a7 (nth kids i::kids.drop (i+1))=if ed (nth kids i)<0 then -1 else gb ((4:Int)==4) (if((4:Int)==4)=true then a7+ed (nth kids i)else max a7 (ed (nth kids i))) (kids.drop (i+1)):=rfl
    rw[b4]at hL;refine zh ?_;refine zv (ah (us:=bn (nth xs i)) (fun j u hu=>b0.cell a2 hu) (G5 _) (ix _) rfl) ?_;refine ar (aw w2) 1 zo (G6 _) rfl ?_;intro kb w3 O3 a6 b3 c6 c7;refine zsb (us:=#[nI (nth xs i).1,nI (nth xs i).2.1,(nth xs i).2.2]) a6 (ix _) (bR a') ?_;have a5:=a6.setRow (us:=#[nI (nth xs i).1,nI (nth xs i).2.1,(nth xs i).2.2]);have a9:Ie w2 (w3.setRow kb #[nI (nth xs i).1,nI (nth xs i).2.1,(nth xs i).2.2]):=(b3.trans (G4 zd a6.tag rfl)).ext;generalize w3.setRow kb #[nI (nth xs i).1,nI (nth xs i).2.1,(nth xs i).2.2]=w4 at *;refine zh ?_;refine zv (ah (us:=bn (nth xs i)) a5.cellsAdd (G5 _) (ix _) rfl) ?_;refine zc Kl (fE n zo (nth kids i) zo (nth xs i) w4 (a8.ext a9)) ?_;rintro v w5 ⟨rfl,b5⟩;have a1:=(a3.trans a9).trans b5;have c8:w5.cell? (nA xb 0)=some (nI 4):=a1.cell c0;refine zh ?_
    by_cases a0:ed (nth kids i)<0
    ·rw[if_pos a0]at hL;refine zTH rfl ((decide_eq_true a0)) ?_;refine ae rfl rfl (⟨by rw[<-hL],a4.trans a1⟩)
    rw[if_neg a0]at hL;refine zFH rfl ((decide_eq_false a0)) ?_;refine zTH rfl rfl ?_;refine zxd (i+1,_,w5) (⟨a2,by dsimp only;omega,by dsimp only;omega,hL,a1⟩)
   intro b1;obtain rfl:i=xs.length:=dF b1;rw[GR zo]at hL;refine zh ?_;refine ae rfl rfl (⟨by rw[<-hL];rfl,a4.trans a3⟩)
  refine aX rfl ((beq_eq_false_iff_ne.2 h4)) ?_;have hk4b:(k==4)=false:=beq_eq_false_iff_ne.2 h4;refine zh ?_
  by_cases h5:k=5
  ·subst h5;rw[if_pos zo];refine zTH rfl rfl ?_;refine zTH rfl rfl ?_;refine zlp (fun y:Nat×Int×ln=>[(2,nI 0),(3,nI y.2.1),(1,nP xb),(19,sv),(20,nI xs.length),(21,nI y.1)]) (fun y=>y.2.2) (fun y=>y.1<=xs.length/\0<=y.2.1/\y.2.1<=dZ (kids.take y.1)/\gb ((5:Int)==4) y.2.1 (kids.drop y.1)=gb ((5:Int)==4) 0 kids/\Ie w1 y.2.2) (fun y=>xs.length-y.1) (0,0,w1) (⟨GB _,IZ _,by simp[dZ],rfl,GC _⟩) ?_;rintro⟨i,a7,w2⟩ ⟨hi,b2,ha,hL,a3⟩;dsimp only at hi b2 ha hL a3 ⊢;have b0:=b6.ext a3;refine zh ?_;refine zC ?_ ?_
   ·intro a2;replace a2:i<xs.length:=dT a2;have a8:=(hk i a2).ext (a4.trans a3);have a':=a8.one;have c5:=cB kids i zo;have b9:=dY kids i zo;have b8:=cH kids (i+1);have b':=lI (nth kids i);rw[kI zo]at hL;have b4:gb ((5:Int)==4) a7 (nth kids i::kids.drop (i+1))=if ed (nth kids i)<0 then -1 else gb ((5:Int)==4) (if((5:Int)==4)=true then a7+ed (nth kids i)else max a7 (ed (nth kids i))) (kids.drop (i+1)):=rfl
    rw[b4]at hL;refine zh ?_;refine zv (ah (us:=bn (nth xs i)) (fun j u hu=>b0.cell a2 hu) (G5 _) (ix _) rfl) ?_;refine ar (aw w2) 1 zo (G6 _) rfl ?_;intro kb w3 O3 a6 b3 c6 c7;refine zsb (us:=#[nI (nth xs i).1,nI (nth xs i).2.1,(nth xs i).2.2]) a6 (ix _) (bR a') ?_;have a5:=a6.setRow (us:=#[nI (nth xs i).1,nI (nth xs i).2.1,(nth xs i).2.2]);have a9:Ie w2 (w3.setRow kb #[nI (nth xs i).1,nI (nth xs i).2.1,(nth xs i).2.2]):=(b3.trans (G4 zd a6.tag rfl)).ext;generalize w3.setRow kb #[nI (nth xs i).1,nI (nth xs i).2.1,(nth xs i).2.2]=w4 at *;refine zh ?_;refine zv (ah (us:=bn (nth xs i)) a5.cellsAdd (G5 _) (ix _) rfl) ?_;refine zc Kl (fE n zo (nth kids i) zo (nth xs i) w4 (a8.ext a9)) ?_;rintro v w5 ⟨rfl,b5⟩;have a1:=(a3.trans a9).trans b5;have c8:w5.cell? (nA xb 0)=some (nI 5):=a1.cell c0;refine zh ?_
    by_cases a0:ed (nth kids i)<0
    ·rw[if_pos a0]at hL;refine zTH rfl ((decide_eq_true a0)) ?_;refine ae rfl rfl (⟨by rw[<-hL],a4.trans a1⟩)
    rw[if_neg a0]at hL;refine zFH rfl ((decide_eq_false a0)) ?_;refine zFH rfl rfl ?_;refine zvH (jg rfl rfl) ?_;refine zxd (i+1,_,w5) (⟨a2,by dsimp only;omega,by dsimp only;omega,hL,a1⟩)
   intro b1;obtain rfl:i=xs.length:=dF b1;rw[GR zo]at hL;refine zh ?_;refine ae rfl rfl (⟨by rw[<-hL];rfl,a4.trans a3⟩)
  refine zFH rfl ((beq_eq_false_iff_ne.2 h5)) ?_
  by_cases h8:k=8
  ·subst h8;rw[if_pos zo];refine zTH rfl rfl ?_;refine zlp (fun y:Nat×Int×ln=>[(2,nI 0),(3,nI y.2.1),(1,nP xb),(19,sv),(20,nI xs.length),(21,nI y.1)]) (fun y=>y.2.2) (fun y=>y.1<=xs.length/\0<=y.2.1/\y.2.1<=dZ (kids.take y.1)/\gb ((8:Int)==4) y.2.1 (kids.drop y.1)=gb ((8:Int)==4) 0 kids/\Ie w1 y.2.2) (fun y=>xs.length-y.1) (0,0,w1) (⟨GB _,IZ _,by simp[dZ],rfl,GC _⟩) ?_;rintro⟨i,a7,w2⟩ ⟨hi,b2,ha,hL,a3⟩;dsimp only at hi b2 ha hL a3 ⊢;have b0:=b6.ext a3;refine zh ?_;refine zC ?_ ?_
   ·intro a2;replace a2:i<xs.length:=dT a2;have a8:=(hk i a2).ext (a4.trans a3);have a':=a8.one;have c5:=cB kids i zo;have b9:=dY kids i zo;have b8:=cH kids (i+1);have b':=lI (nth kids i);rw[kI zo]at hL;have b4:gb ((8:Int)==4) a7 (nth kids i::kids.drop (i+1))=if ed (nth kids i)<0 then -1 else gb ((8:Int)==4) (if((8:Int)==4)=true then a7+ed (nth kids i)else max a7 (ed (nth kids i))) (kids.drop (i+1)):=rfl
    rw[b4]at hL;refine zh ?_;refine zv (ah (us:=bn (nth xs i)) (fun j u hu=>b0.cell a2 hu) (G5 _) (ix _) rfl) ?_;refine ar (aw w2) 1 zo (G6 _) rfl ?_;intro kb w3 O3 a6 b3 c6 c7;refine zsb (us:=#[nI (nth xs i).1,nI (nth xs i).2.1,(nth xs i).2.2]) a6 (ix _) (bR a') ?_;have a5:=a6.setRow (us:=#[nI (nth xs i).1,nI (nth xs i).2.1,(nth xs i).2.2]);have a9:Ie w2 (w3.setRow kb #[nI (nth xs i).1,nI (nth xs i).2.1,(nth xs i).2.2]):=(b3.trans (G4 zd a6.tag rfl)).ext;generalize w3.setRow kb #[nI (nth xs i).1,nI (nth xs i).2.1,(nth xs i).2.2]=w4 at *;refine zh ?_;refine zv (ah (us:=bn (nth xs i)) a5.cellsAdd (G5 _) (ix _) rfl) ?_;refine zc Kl (fE n zo (nth kids i) zo (nth xs i) w4 (a8.ext a9)) ?_;rintro v w5 ⟨rfl,b5⟩;have a1:=(a3.trans a9).trans b5;have c8:w5.cell? (nA xb 0)=some (nI 8):=a1.cell c0;refine zh ?_
    by_cases a0:ed (nth kids i)<0
    ·rw[if_pos a0]at hL;refine zTH rfl ((decide_eq_true a0)) ?_;refine ae rfl rfl (⟨by rw[<-hL],a4.trans a1⟩)
    rw[if_neg a0]at hL;refine zFH rfl ((decide_eq_false a0)) ?_;refine zFH rfl rfl ?_;refine zvH (jg rfl rfl) ?_;refine zxd (i+1,_,w5) (⟨a2,by dsimp only;omega,by dsimp only;omega,hL,a1⟩)
   intro b1;obtain rfl:i=xs.length:=dF b1;rw[GR zo]at hL;refine zh ?_;refine ae rfl rfl (⟨by rw[<-hL];rfl,a4.trans a3⟩)
  rw[if_neg zo];refine zFH rfl ((beq_eq_false_iff_ne.2 h8)) ?_;refine ae rfl rfl (⟨rfl,a4⟩)
def vO(t:Nd):Int:=if bE t=true then max (ed t) 0 else 0
def yU(t:Nd):Bool:=bE t&&decide (0<=ed t)
theorem nu(t:Nd)(x:N3)(w:ln)(h:Nt (fun _=>0) w t x):IB GG 110 [nv x] w fun v w'=>v=.tuple #[nI (vO t),.bool (yU t)]/\Ie w w':=by
 refine G8 func110 ntmps110 rfl rfl ?_;refine zh ?_
 refine aG (aw w) 1 zo rfl rfl ?_;intro xb w1 O1 a3 a5 a6 a1;have a2:∀W,Ie w1 W->∀(j:Nat) (u:G0),(bn x)[j]? = some u->W.cell? (nA xb j)=some u:=fun W hE j u hu=>hE.cell (a3.cellsAdd j u hu)
 refine zh ?_;refine zv (ah (us:=bn x) (a2 w1 (GC _)) (G5 _) (ix _) rfl) ?_
 refine zc L3 (eJ t x w1 (h.ext a1)) ?_;rintro v w2 ⟨rfl,a0⟩;refine zh ?_
 cases hr:bE t with
 |false=>
  refine zTH rfl rfl ?_;refine bC rfl rfl rfl (⟨by simp[vO,yU,hr],a1.trans a0⟩)
 |true=>
  have hz:nsz t<=2000:=by
   simp only[bE,GV,decide_eq_true_eq]at hr;exact hr.1
  refine zFH rfl rfl ?_;refine zv (ah (us:=bn x) (a2 w2 a0) (G5 _) (ix _) rfl) ?_
  refine zc Kl (fE (nsz t) zo t (G1 _) x w2 (h.ext (a1.trans a0))) ?_;rintro v w3 ⟨rfl,a4⟩;refine zh ?_
  refine zvH (jg rfl rfl) ?_;refine bC rfl rfl rfl (⟨by simp[vO,yU,hr],(a1.trans a0).trans a4⟩)
theorem CV{b:Bool}{q:Int}{t:Nd}{kb:Nat}(ih:∀(y:N3) (W:ln),Nt (fun _=>0) W t y->IB GG 143 [nv y,nI q] W fun v w'=>v=.bool b/\Ie W w')(x:N3)(w:ln)(h:Nt (fun _=>0) w t x)(hq:w.cell? ⟨kb,0,none⟩=some (nI q)):
  IB GG 163 [nv x,nP kb] w fun v w'=>v=.bool b/\Ie w w':=by
 refine G8 func163 ntmps163 rfl rfl ?_;refine zh ?_
 refine aG (aw w) 1 zo rfl rfl ?_;intro xb w1 O1 a1 a4 a5 a0;have a3:=a0.cell hq;refine zh ?_
 refine zvH (ah (us:=bn x) a1.cellsAdd (G5 _) (ix _) rfl) ?_;refine zc call143 (ih x w1 (h.ext a0)) ?_
 rintro v w2 ⟨rfl,a2⟩;refine zh ?_;refine ae rfl rfl (⟨rfl,a0.trans a2⟩)
theorem zB:∀(n:Nat) (t:Nd),nsz t<=n->∀(x:N3) (w:ln) (q:Int),Nt (fun _=>0) w t x->IB GG 143 [nv x,nI q] w fun v w'=>v=.bool (Bl q t)/\Ie w w'
 |0,t,hn=>by have:=dX t;omega
 |n+1,.mk k c kids,hn=>by
  intro x w q h;have a6:=h.ones;obtain⟨xs,hs,hf,hl,hk⟩:=h.kids;simp only[Js]at hl hk;simp only[nsz]at hn;generalize x.2.2=sv at *;subst a6;simp only[KC,KN];have hM:Bl q (.mk k c kids)=((k==q)||CU q kids):=rfl;rw[hM];refine G8 func143 ntmps143 rfl rfl ?_;refine zh ?_;refine aG (aw w) 1 zo rfl rfl ?_;intro xb w1 O1 a5 b1 a9 b0;refine aG a9 2 zo rfl rfl ?_;intro kb w2 O2 a7 a8 b2 a';have a3:=a5.upd a8 zd zd;have a0:=b0.trans a';have c0:w2.cell? (nA xb 0)=some (nI k):=a3.cell 0 rfl;have c2:w2.cell? (nA xb 2)=some sv:=a3.cell 2 rfl;have cq:w2.cell? ⟨kb,0,none⟩=some (nI q):=a7.cell 0 rfl;refine zh ?_;refine cu (Ie w2) (CU q kids) 4 (GC _) rfl rfl rfl rfl rfl ?_ ?_
  ·intro a1;refine zh ?_;refine zvH (dH rfl rfl) ?_;refine zc call81 (cF call163 #[nP kb] xs sv (fun i=>Bl q (nth kids i)) w2 (hs.ext a0) (fun i hi w' hE=>CV (fun y W hy=>zB n (nth kids i) (by have:=cB kids i (zo);omega) y W q hy) (nth xs i) w' ((hk i hi).ext (a0.trans hE)) (hE.cell cq))) ?_;have a4:=Bm q kids;rw[hl]at a4;rw[a4];rintro v w3 ⟨rfl,a2⟩;refine zh ?_;refine nE 9 5 (a2) a1
  intro w3 a2;refine zh ?_;refine ae rfl rfl (⟨rfl,a0.trans a2⟩)
theorem vV(t:Nd)(q:Int)(x:N3)(w:ln)(h:Nt (fun _=>0) w t x):IB GG 111 [nv x,nI q] w fun v w'=>v=.bool (bE t&&Bl q t)/\Ie w w':=by
 refine G8 func111 ntmps111 rfl rfl ?_;refine zh ?_
 refine aG (aw w) 1 zo rfl rfl ?_;intro xb w1 O1 a5 a6 a7 a3;have a4:∀W,Ie w1 W->∀(j:Nat) (u:G0),(bn x)[j]? = some u->W.cell? (nA xb j)=some u:=fun W hE j u hu=>hE.cell (a5.cellsAdd j u hu)
 refine zh ?_;refine zv (ah (us:=bn x) (a4 w1 (GC _)) (G5 _) (ix _) rfl) ?_
 refine zc L3 (eJ t x w1 (h.ext a3)) ?_;rintro v w2 ⟨rfl,a0⟩;refine zh ?_
 refine bx (Ie w1) (Bl q t) 3 (a0) rfl rfl rfl rfl rfl ?_ ?_
 ·intro a1;refine zh ?_;refine zvH (ah (us:=bn x) (a4 _ a0) (G5 _) (ix _) rfl) ?_;refine zc call143 (zB (nsz t) t (G1 _) x _ q (h.ext (a3.trans a0))) ?_;rintro v w3 ⟨rfl,a2⟩;refine zh ?_;refine nE 7 4 (a0.trans a2) a1
 intro w3 a2;refine zh ?_;refine ae rfl rfl (⟨rfl,a3.trans a2⟩)
theorem eF:∀(l:List Nd) (i:Nat),dB l=true->i<l.length->gp (nth l i)=true
 |[],i,_,h=>absurd h (Iv i)
 |t::r,i,hs,h=>by
  unfold dB at hs;simp only[GV]at hs
  cases i with
  |zero=>rw[au];exact hs.1
  |succ i=>rw[bp];exact eF r i hs.2 (by simpa using h)
theorem ze{l:List Nd}{q a b:Nat}{g:Gr}(h:q<l.length):nc (l.drop q) a b g=if q+1<l.length then nc (l.drop (q+1)) g.ks.length b (fe (nth l q) a g.ks.length g.knot)else fe (nth l q) a b g:=by
 rw[kI h,nc]
 by_cases e:q+1<l.length
 ·rw[if_pos e,if_neg (by simp;omega)]
 rw[if_neg e,if_pos (by simp;omega)]
theorem zm{l:List Nd}{q a b:Nat}{g:Gr}(h:q<l.length):nf (l.drop q) a b g=nf (l.drop (q+1)) a b (fe (nth l q) a b g):=by
 rw[kI h];rfl
theorem Bi{l:List Nd}{a b:Nat}{g:Gr}(h:l.length=1):ou l a b g=fe (nth l 0) a b g:=by
 obtain⟨t,rfl⟩:=List.length_eq_one_iff.1 h;rw[au];rfl
def F5(t:Nd):Prop:=∀(B:Nat) (O:Nat->Nat) (w:ln) (i nb:Nat) (se:Bool) (g:Gr) (na ta lv kv:G0) (xs:List K3) (a b:Nat) (x:N3) (M:Nat),i≠0->IA B O w->NfO O w i nb se g na ta lv kv xs->WF g->a<g.ks.length->b<g.ks.length->Bd g M->M+9*nsz t<=100000000->gp t=true->Nt O w t x->
 IB GG 86 [nP nb,nv x,nI (a:Nat),nI (b:Nat)] w fun _ w'=>NfP B O w w' i nb se (fe t a b g) na ta
theorem tm{k c:Int}{l:List Nd}(a':k=6\/k=7\/k=8)(ih:F5 (nth l 0))(B:Nat)(O:Nat->Nat)(w:ln)(i nb:Nat)(se:Bool)(g:Gr)(na ta lv kv:G0)(xs:List K3)(a b:Nat)(x:N3)(M:Nat)(hi:i≠0)(hR:IA B O w)(h:NfO O w i nb se g na ta lv kv xs)(hw:WF g)(ha:a<g.ks.length)(hb:b<g.ks.length)(hM:Bd g M)(e8:M+9*nsz (.mk k c l)<=100000000)(hs:gp (.mk k c l)=true)(hn:Nt O w (.mk k c l) x):
  IB GG 113 [nP nb,nv x,nI (a:Nat),nI (b:Nat)] w fun _ w'=>NfP B O w w' i nb se (fe (.mk k c l) a b g) na ta:=by
 obtain⟨T,d9,hT⟩:=hR.bound;have g1:=hn.kind;obtain⟨ys,d4,a5,b4,a3⟩:=hn.kids;have hx:x=(k,c,x.2.2):=hn.ones;generalize x.2.2=kidv at *;subst hx;unfold gp at hs;simp only[GV]at hs;obtain⟨b9,d5⟩:=hs;rw[if_neg zo,if_pos a']at b9;have b':l.length=1:=of_decide_eq_true b9;have g0:ys.length=1:=by rw[<-b4];exact b'
 have b5:fe (.mk k c l) a b g=layO k (fe (nth l 0) g.ks.length (g.ks.length+1) (bK g a b)) g.ks.length:=by
  rw[fe,if_neg zo,if_neg zo,if_pos a',Bi b'];rfl
 have g4:=cB l 0 zo;simp only[nsz]at e8;rw[b5];refine G8 func113 ntmps113 rfl rfl ?_;refine zh ?_;refine aG hR T zo rfl rfl ?_;intro xb w1 O1 c8 b1 b6 b7;obtain⟨b8,c5⟩:=Dd d9 hT b1 (Ib zo _ _) c8;clear c8 b1 b6 b7;have h1:=h.ext b8 hi;have b6:=hR.ext b8;have k1:Cell0 O w1 (nA xb 0) (nI k):=c5 0 _ rfl;have v1:Cell0 O w1 (nA xb 2) kidv:=c5 2 _ rfl;have b1:Gs (fun q=>i<=q) O w O w1:=aa zo O b8;refine zh ?_;refine zc L2 (iq B O w1 i nb se g na ta _ _ _ hi b6 h1 (by have:=hM.ks;omega)) ?_;rintro _ w2 ⟨rfl,O2,f7,f',f4,d2,e6,h2⟩;refine zh ?_;have e1:=aH g;refine zc L2 (iq B O2 w2 i nb se g.knot na ta _ _ _ hi e6 h2 (by have:=hM.ks;omega)) ?_;rintro _ w3 ⟨rfl,O3,f6,f9,f3,d1,e5,h3⟩;rw[e1];have e2:=aH g.knot;refine zh ?_;refine zc JI (fJ B O3 w3 i nb se g.knot.knot na ta _ _ _ a g.ks.length hi e5 h3 zo (by have:=Bd.fr (hM.knot.knot) a;omega) (by have:=Bd.ks (hM.knot.knot);omega)) ?_;rintro _ w4 ⟨O4,_,_,_,d0,e4,h4⟩;have e3:=aW g.knot.knot a g.ks.length;refine zh ?_;refine zc JI (fJ B O4 w4 i nb se (g.knot.knot.free a g.ks.length) na ta _ _ _ (g.ks.length+1) b hi e4 h4 zo (by have:=Bd.fr (hM.knot.knot.free (a:=a) (b:=g.ks.length) zo) (g.ks.length+1);omega) (by have:=Bd.ks (hM.knot.knot.free (a:=a) (b:=g.ks.length) zo);omega)) ?_;rintro _ w5 ⟨O5,_,_,_,c',e0,h5⟩;have a0:=(((b1.trans d2).trans d1).trans d0).trans c';have a7:=((d2.trans d1).trans d0).trans c'
 have e9:NfO O5 w5 i nb se (bK g a b) na ta _ _ _:=h5;have b3:=eL hw ha hb;have g3:=dO g a b;have c6:=hM.often (b:=b) ha;have k5:=k1.upd a7;have v5:=v1.upd a7;have a1:=d4.upd a5 a0;have a4:=(a3 0 zo).upd a0;refine zh ?_;refine zv (RV.ld v5.c rfl) ?_;refine zv (IR a1 Ij (ix _) rfl rfl 0 rfl zo) ?_;refine zvH (ah (us:=bn (nth ys 0)) (fun j u hu=>a1.cell zo hu) (G5 _) (ix _) rfl) ?_;refine zc KG (ih B O5 w5 i nb se (bK g a b) na ta _ _ _ g.ks.length (g.ks.length+1) (nth ys 0) (M+4) hi e0 e9 b3 zo zo c6 zo (eF l 0 d5 zo) a4) ?_;rintro _ w6 ⟨O6,f5,f8,e',c9,d3,h6⟩;obtain⟨g2,a2⟩:=cp (nth l 0) g.ks.length (g.ks.length+1) (bK g a b) b3 zo zo;have a6:=fH (nth l 0) g.ks.length (g.ks.length+1) (bK g a b) (M+4) b3 zo zo c6;have d7:=a2.len;generalize fe (nth l 0) g.ks.length (g.ks.length+1) (bK g a b)=g6 at *;have a9:=a0.trans c9;have k6:=k5.upd c9;refine zh ?_;refine zvH (RV.ld k6.c rfl) ?_
 by_cases h7:k=7
 ·subst h7;refine zFH rfl rfl ?_;refine zvH (RV.ld k6.c rfl) ?_;refine zTH rfl rfl ?_;refine zc JI (fJ B O6 w6 i nb se g6 na ta _ _ _ (g.ks.length+1) g.ks.length hi d3 h6 zo (by have:=Bd.fr a6 (g.ks.length+1);omega) (by have:=Bd.ks a6;omega)) ?_;rintro _ w7 ⟨O7,_,_,_,b0,b2,h7⟩;refine zh ?_;refine aE rfl (⟨O7,_,_,_,a9.trans b0,b2,h7⟩)
 refine zTH rfl ((by simpa using h7)) ?_;refine zc JI (fJ B O6 w6 i nb se g6 na ta _ _ _ g.ks.length (g.ks.length+1) hi d3 h6 zo (by have:=Bd.fr a6 g.ks.length;omega) (by have:=Bd.ks a6;omega)) ?_
 rintro _ w7 ⟨O7,_,_,_,b0,b2,h7n⟩;have a8:=a9.trans b0;have k7:=k6.upd b0;refine zh ?_;refine zvH (RV.ld k7.c rfl) ?_
 by_cases h8:k=8
 ·subst h8;refine zFH rfl rfl ?_;refine aE rfl (⟨O7,_,_,_,a8,b2,h7n⟩)
 refine aS rfl ((by simpa using h8)) ?_;have d6:layO k g6 g.ks.length=(g6.free g.ks.length (g.ks.length+1)).free (g.ks.length+1) g.ks.length:=by unfold layO;rw[if_neg h8,if_neg h7]
 rw[d6];have c7:=a6.free (a:=g.ks.length) (b:=g.ks.length+1) zo;have e7:=aW g6 g.ks.length (g.ks.length+1);refine zh ?_;refine zc JI (fJ B O7 w7 i nb se (g6.free g.ks.length (g.ks.length+1)) na ta _ _ _ (g.ks.length+1) g.ks.length hi b2 h7n zo (by have:=Bd.fr c7 (g.ks.length+1);omega) (by have:=Bd.ks c7;omega)) ?_;rintro _ w8 ⟨O8,_,_,_,d8,d',h8n⟩;refine zh ?_;refine aE rfl (⟨O8,_,_,_,a8.trans d8,d',h8n⟩)
theorem Be{k c:Int}{l:List Nd}(h4:k≠4)(h5:k≠5)(a0:¬(k=6\/k=7\/k=8))(h9:k≠9)(a b:Nat)(g:Gr):fe (.mk k c l) a b g=g.leaf k c a b:=by
 rw[fe,if_neg h4,if_neg h5,if_neg a0,if_neg h9]
theorem za:∀(n:Nat) (t:Nd),nsz t<=n->F5 t
 |0,t,ht=>by have:=dX t;omega
 |n+1,.mk k c l,ht=>by
  intro B O w i nb se g na ta lv kv xs a b x M hi hR h hw ha hb hM l2 hs hn;have ih:=fun(t:Nd) (e:nsz t<=n)=>za n t e
  have j':=hs;have k6:=hn;obtain⟨T,l1,hT⟩:=hR.bound;obtain⟨ys,j0,f',i0,d'⟩:=hn.kids;have hx:x=(k,c,x.2.2):=hn.ones;generalize x.2.2=kidv at *;subst hx;unfold gp at hs;simp only[GV]at hs;obtain⟨g5,g'⟩:=hs;simp only[nsz]at l2 ht
  change l.length=ys.length at i0
  change ∀i,i<ys.length->Nt O w (nth l i) (nth ys i)at d'
  have m4:=ij l;refine G8 func86 ntmps86 rfl rfl ?_;refine zh ?_;refine aG hR T zo rfl rfl ?_;intro xb w1 O1 j2 b8 e4 i';obtain⟨e',e8⟩:=Dd l1 hT b8 (Ib zo _ _) j2;clear j2 b8 e4 i';have h1:=h.ext e' hi;have e4:=hR.ext e';have k1:Cell0 O w1 (nA xb 0) (nI k):=e8 0 _ rfl;have j4:Cell0 O w1 (nA xb 1) (nI c):=e8 1 _ rfl;have v1:Cell0 O w1 (nA xb 2) kidv:=e8 2 _ rfl;have b8:Gs (fun q=>i<=q) O w O w1:=aa zo O e';have f4:=j0.ext e';have b7:=f'.upd b8;have k5:Nt O w1 (.mk k c l) (k,c,kidv):=k6.ext e';have b6:=fun q hq=>(d' q hq).ext e'
  refine zh ?_;refine zvH (RV.ld k1.c rfl) ?_
  by_cases h4:k=4
  ·subst h4;rw[if_pos rfl]at g5;have b4:fe (.mk 4 c l) a b g=nc l a b g:=by rw[fe,if_pos rfl]
   rw[b4];refine zTH rfl rfl ?_;refine zvH (RV.ld v1.c rfl) ?_;refine zlp (fun z:Nat×Nat×(Nat->Nat)×World×Gr×G0×G0×List K3=>[(0,nP nb),(2,nI z.2.1),(3,nI b),(5,nP xb),(55,kidv),(56,nI ys.length),(57,nI z.1)]) (fun z=>z.2.2.2.1) (fun z=>z.1<=l.length/\Gs (fun q=>i<=q) O w1 z.2.2.1 z.2.2.2.1/\IA B z.2.2.1 z.2.2.2.1/\NfO z.2.2.1 z.2.2.2.1 i nb se z.2.2.2.2.1 na ta z.2.2.2.2.2.1 z.2.2.2.2.2.2.1 z.2.2.2.2.2.2.2/\WF z.2.2.2.2.1/\z.2.1<z.2.2.2.2.1.ks.length/\b<z.2.2.2.2.1.ks.length/\Bd z.2.2.2.2.1 (M+9*dZ (l.take z.1))/\nc l a b g=(if z.1<l.length then nc (l.drop z.1) z.2.1 b z.2.2.2.2.1 else z.2.2.2.2.1)) (fun z=>l.length-z.1) (0,a,O,w1,g,lv,kv,xs) (⟨GB _,Ib zo _ _,e4,h1,hw,ha,hb,by simpa[dZ]using hM,by dsimp only;rw[if_pos (by cases l;simp at g5;simp),List.drop_zero]⟩) ?_;rintro⟨q,fr,O2,w2,g2,j6,j7,j5⟩ ⟨hq,b0,b1,h2,b2,d0,d2,c5,a7⟩;dsimp only at hq b0 b1 h2 b2 d0 d2 c5 a7 ⊢;have c6:=f4.upd b7 b0;have v2:=v1.upd b0;have k0:=cH l q;refine zh ?_;refine zC ?_ ?_
   ·intro a1;replace a1:q<l.length:=dT a1;rw[if_pos a1,ze a1]at a7;have a3:=(b6 q zo).upd b0;have k2:=cB l q a1;have e1:=dY l q a1;have h0:=cH l (q+1);have a5:=a3.one;obtain⟨T2,e3,i8⟩:=b1.bound;refine zh ?_;refine zv (ah (us:=bn (nth ys q)) (fun j u hu=>c6.cell zo hu) (G5 _) (ix _) rfl) ?_;refine ar b1 T2 zo (G6 _) rfl ?_;intro yb w3 O3 a8 a' g4 e6;refine zh ?_;refine zsb (us:=#[nI (nth ys q).1,nI (nth ys q).2.1,(nth ys q).2.2]) a8 (ix _) (bR a5) ?_;have g3:Gs (fun j=>j=T2) O3 w3 O3 (w3.setRow yb #[nI (nth ys q).1,nI (nth ys q).2.1,(nth ys q).2.2]):=G4 zo a8.tag rfl;obtain⟨b9,g6⟩:=Dd e3 i8 a' g3 (a8.setRow (us:=#[nI (nth ys q).1,nI (nth ys q).2.1,(nth ys q).2.2]));generalize w3.setRow yb #[nI (nth ys q).1,nI (nth ys q).2.1,(nth ys q).2.2]=w4 at *;clear a8 a' g4 e6 g3;have a9:Gs (fun q=>i<=q) O2 w2 O2 w4:=aa zo O2 b9;have h4n:=h2.ext b9 hi;have e9:=b1.ext b9;have v4:=v2.ext b9;have a6:=a3.ext b9;refine zh ?_;refine zv (RV.ld v4.c rfl) ?_;refine zvH (RV.len (by first|exact c6.ext b9) Ij rfl) ?_;refine zC ?_ ?_
    ·intro c8;replace c8:q+1<l.length:=dT c8;rw[if_pos c8]at a7;refine zh ?_;refine zc L2 (iq B O2 w4 i nb se g2 na ta _ _ _ hi e9 h4n (by have:=c5.ks;omega)) ?_;rintro _ w5 ⟨rfl,O5,m0,m1,l9,i5,i9,h5⟩;have i6:=a9.trans i5;have e5:=aH g2;refine zh ?_;refine zvH (ah (us:=bn (nth ys q)) (fun j u hu=>((g6 j u hu).upd i5).c) (G5 _) (ix _) rfl) ?_;refine zc KG (ih (nth l q) zo B O5 w5 i nb se g2.knot na ta _ _ _ fr g2.ks.length (nth ys q) _ hi i9 h5 b2.knot zo zo c5.knot zo (eF l q g' a1) (a6.upd i5)) ?_;rintro _ w6 ⟨O6,d4,d5,d3,a0,a4,h6⟩;obtain⟨f5,a2⟩:=cp (nth l q) fr g2.ks.length g2.knot b2.knot zo zo;have d1:=fH (nth l q) fr g2.ks.length g2.knot _ b2.knot zo zo c5.knot;have f8:=a2.len;have m3:=dX (nth l q);refine zh ?_;refine zxd (q+1,g2.ks.length,O6,w6,fe (nth l q) fr g2.ks.length g2.knot,d4,d5,d3) (⟨a1,(b0.trans i6).trans a0,a4,h6,f5,by dsimp only;omega,by dsimp only;omega,d1.mono (by dsimp only;omega),by dsimp only;rw[if_pos c8];exact a7⟩)
    intro c';replace c':¬q+1<l.length:=by have:=of_decide_eq_false c';omega
    rw[if_neg c']at a7;refine zh ?_;refine zvH (ah (us:=bn (nth ys q)) (fun j u hu=>(g6 j u hu).c) (G5 _) (ix _) rfl) ?_;refine zc KG (ih (nth l q) zo B O2 w4 i nb se g2 na ta _ _ _ fr b (nth ys q) _ hi e9 h4n b2 d0 d2 c5 zo (eF l q g' a1) a6) ?_;rintro _ w6 ⟨O6,d4,d5,d3,a0,a4,h6⟩;obtain⟨f5,a2⟩:=cp (nth l q) fr b g2 b2 d0 d2;have d1:=fH (nth l q) fr b g2 _ b2 d0 d2 c5;have f8:=a2.len;refine zh ?_;refine zxd (q+1,b,O6,w6,fe (nth l q) fr b g2,d4,d5,d3) (⟨a1,(b0.trans a9).trans a0,a4,h6,f5,by dsimp only;omega,by dsimp only;omega,d1.mono (by dsimp only;omega),by dsimp only;rw[if_neg c'];exact a7⟩)
   intro e7;replace e7:¬q<l.length:=dF e7;rw[if_neg e7]at a7;rw[a7];refine zh ?_;refine aE rfl (⟨O2,_,_,_,b8.trans b0,b1,h2⟩)
  refine zFH rfl ((by simpa using h4)) ?_
  by_cases h5:k=5
  ·subst h5;have b4:fe (.mk 5 c l) a b g=nf l a b g:=by rw[fe,if_neg h4,if_pos rfl]
   rw[b4];refine zTH rfl rfl ?_;refine zvH (RV.ld v1.c rfl) ?_;refine zlp (fun z:Nat×(Nat->Nat)×World×Gr×G0×G0×List K3=>[(0,nP nb),(2,nI a),(3,nI b),(81,kidv),(82,nI ys.length),(83,nI z.1)]) (fun z=>z.2.2.1) (fun z=>z.1<=l.length/\Gs (fun q=>i<=q) O w1 z.2.1 z.2.2.1/\IA B z.2.1 z.2.2.1/\NfO z.2.1 z.2.2.1 i nb se z.2.2.2.1 na ta z.2.2.2.2.1 z.2.2.2.2.2.1 z.2.2.2.2.2.2/\WF z.2.2.2.1/\a<z.2.2.2.1.ks.length/\b<z.2.2.2.1.ks.length/\Bd z.2.2.2.1 (M+9*dZ (l.take z.1))/\nf l a b g=nf (l.drop z.1) a b z.2.2.2.1) (fun z=>l.length-z.1) (0,O,w1,g,lv,kv,xs) (⟨GB _,Ib zo _ _,e4,h1,hw,ha,hb,by simpa[dZ]using hM,rfl⟩) ?_;rintro⟨q,O2,w2,g2,j6,j7,j5⟩ ⟨hq,b0,b1,h2,b2,g7,d2,c5,a7⟩;dsimp only at hq b0 b1 h2 b2 g7 d2 c5 a7 ⊢;have c6:=f4.upd b7 b0;have k0:=cH l q;refine zh ?_;refine zC ?_ ?_
   ·intro a1;replace a1:q<l.length:=dT a1;rw[zm a1]at a7;have a3:=(b6 q zo).upd b0;have k2:=cB l q a1;have e1:=dY l q a1;have h0:=cH l (q+1);have a5:=a3.one;obtain⟨T2,e3,i8⟩:=b1.bound;refine zh ?_;refine zv (ah (us:=bn (nth ys q)) (fun j u hu=>c6.cell zo hu) (G5 _) (ix _) rfl) ?_;refine ar b1 T2 zo (G6 _) rfl ?_;intro yb w3 O3 a8 a' g4 e6;refine zsb (us:=#[nI (nth ys q).1,nI (nth ys q).2.1,(nth ys q).2.2]) a8 (ix _) (bR a5) ?_;have g3:Gs (fun j=>j=T2) O3 w3 O3 (w3.setRow yb #[nI (nth ys q).1,nI (nth ys q).2.1,(nth ys q).2.2]):=G4 zo a8.tag rfl;obtain⟨b9,g6⟩:=Dd e3 i8 a' g3 (a8.setRow (us:=#[nI (nth ys q).1,nI (nth ys q).2.1,(nth ys q).2.2]));generalize w3.setRow yb #[nI (nth ys q).1,nI (nth ys q).2.1,(nth ys q).2.2]=w4 at *;clear a8 a' g4 e6 g3;have a9:Gs (fun q=>i<=q) O2 w2 O2 w4:=aa zo O2 b9;have h4n:=h2.ext b9 hi;have e9:=b1.ext b9;have a6:=a3.ext b9;refine zh ?_;refine zvH (ah (us:=bn (nth ys q)) (fun j u hu=>(g6 j u hu).c) (G5 _) (ix _) rfl) ?_;refine zc KG (ih (nth l q) zo B O2 w4 i nb se g2 na ta _ _ _ a b (nth ys q) _ hi e9 h4n b2 g7 d2 c5 zo (eF l q g' a1) a6) ?_;rintro _ w6 ⟨O6,d4,d5,d3,a0,a4,h6⟩;obtain⟨f5,a2⟩:=cp (nth l q) a b g2 b2 g7 d2;have d1:=fH (nth l q) a b g2 _ b2 g7 d2 c5;have f8:=a2.len;refine zh ?_
    refine zxd (q+1,O6,w6,fe (nth l q) a b g2,d4,d5,d3) (⟨a1,(b0.trans a9).trans a0,a4,h6,f5,by dsimp only;omega,by dsimp only;omega,d1.mono (by dsimp only;omega),a7⟩)
   intro e7;replace e7:¬q<l.length:=dF e7;rw[GR zo]at a7;rw[a7,nf];refine zh ?_;refine aE rfl (⟨O2,_,_,_,b8.trans b0,b1,h2⟩)
  refine zFH rfl ((by simpa using h5)) ?_
  by_cases b':k=6\/k=7\/k=8
  ·rw[if_neg h4,if_pos b']at g5;have m6:l.length=1:=of_decide_eq_true g5;have m2:=cB l 0 zo;have a5:kidv.oneCell'=true:=j0.one;have g8:∀(w':ln),Ie w1 w'->IB GG 113 [nP nb,nv (k,c,kidv),nI (a:Nat),nI (b:Nat)] w' fun _ w''=>NfP B O w' w'' i nb se (fe (.mk k c l) a b g) na ta:=fun w' hE=>tm b' (ih (nth l 0) zo) B O w' i nb se g na ta _ _ _ a b (k,c,kidv) M hi (e4.ext hE) (h1.ext hE hi) hw ha hb hM (by simp only[nsz];omega) j' (k5.ext hE)
   rcases b' with h6|h7|h8
   ·subst h6;refine zTH rfl rfl ?_;refine zTH rfl rfl ?_;refine zvH (ah (us:=bn (6,c,kidv)) (fun j u hu=>(e8 j u hu).c) (G5 _) (ix _) rfl) ?_;refine zc KS (g8 w1 (GC w1)) ?_;rintro _ w6 ⟨O6,d4,d5,d3,a0,a4,h6n⟩;refine zh ?_;refine aE rfl (⟨O6,_,_,_,b8.trans a0,a4,h6n⟩)
   ·subst h7;refine zFH rfl rfl ?_;refine zTH rfl rfl ?_;refine zTH rfl rfl ?_;refine zvH (ah (us:=bn (7,c,kidv)) (fun j u hu=>(e8 j u hu).c) (G5 _) (ix _) rfl) ?_;refine zc KS (g8 w1 (GC w1)) ?_;rintro _ w6 ⟨O6,d4,d5,d3,a0,a4,h6n⟩;refine zh ?_;refine aE rfl (⟨O6,_,_,_,b8.trans a0,a4,h6n⟩)
   subst h8;refine zFH rfl rfl ?_;refine zFH rfl rfl ?_;refine zTH rfl rfl ?_;refine zvH (ah (us:=bn (8,c,kidv)) (fun j u hu=>(e8 j u hu).c) (G5 _) (ix _) rfl) ?_;refine zc KS (g8 w1 (GC w1)) ?_;rintro _ w6 ⟨O6,d4,d5,d3,a0,a4,h6n⟩;refine zh ?_;refine aE rfl (⟨O6,_,_,_,b8.trans a0,a4,h6n⟩)
  refine zFH rfl ((by simp;omega)) ?_;refine zFH rfl ((by simp;omega)) ?_
  refine zFH rfl ((by simp;omega)) ?_
  by_cases h9:k=9
  ·subst h9;have b4:fe (.mk 9 c l) a b g=g.free a b:=by rw[fe,if_neg h4,if_neg h5,if_neg b',if_pos rfl]
   rw[b4];refine zTH rfl rfl ?_;refine zc JI (fJ B O w1 i nb se g na ta _ _ _ a b hi e4 h1 zo (by have:=Bd.fr hM a;omega) (by have:=Bd.ks hM;omega)) ?_;rintro _ w6 ⟨O6,_,_,_,a0,a4,h6n⟩;refine zh ?_;refine aE rfl (⟨O6,_,_,_,b8.trans a0,a4,h6n⟩)
  refine aX rfl ((by simpa using h9)) ?_;rw[Be h4 h5 b' h9];have e0:a<xs.length:=by have:=h.ks.len;omega
  have k':=hM.ls;have k9:=hM.lv a;have j1:=h1.ks.row.sl.sh;have k8:w1.drew.cell? (nA nb 1)=some lv:=h1.c1;have s0:∀W,Ie w1.drew W->W.cell? (nA xb 0)=some (nI k)/\W.cell? (nA xb 1)=some (nI c):=fun W hE=>⟨hE.cell k1.c,hE.cell j4.c⟩
  refine zh ?_;refine aK (fun W=>W.cell? (nA xb 0)=some (nI k)/\W.cell? (nA xb 1)=some (nI c)) 16 rfl zk ?_
  refine zin (s0 _ (GC _)) fun zS=>?_
  refine zrm 0 rfl zS rfl ?_;refine zrm 1 rfl zS rfl ?_
  refine zr 2 rfl zS (fun _=>aq rfl) ?_;refine zrf 3 rfl zS rfl ?_
  refine zrf 5 rfl zS rfl ?_;refine zt 6 rfl zS (fun w1 c7=>RV.ld c7.1 rfl) ?_
  refine zrf 7 rfl zS rfl ?_;refine zt 8 rfl zS (fun w1 c7=>RV.ld c7.2 rfl) ?_
  refine zrm 9 rfl zS rfl ?_;refine zr 10 rfl zS (fun _=>aD Fq (zeroValue170 _) rfl (by first|rfl|(simp only[Gp,Gz];rfl)) rfl rfl) ?_
  refine bS 4 11 F0 (enc:=pW) ((k,c,b):Lf) rfl rfl zk zk zk zk (fun W hE=>KA (hE.cell k8) (isAgg162 _) rfl) s0 rfl rfl rfl zd rfl rfl rfl rfl rfl ?_;intro sv w2 j9 l4;have g1:Gs (fun _=>False) O w1 O w2:=aa (fun h=>h) O ((GC w1).drew.trans l4);have h2:=h1.upd g1 hi fun _ _ h=>h
  have b1:=e4.upd g1;refine GL 12 zk rfl ?_;refine aC F0 h2.ls b1 j9 (by simp) rfl rfl (by simp) (by simp[GD]) (by simp;omega) (by simp;omega) zo rfl ?_;intro b3 w3 O3 d9 a' g4;have k3:=(k1.upd g1).upd a';have j3:=(j4.upd g1).upd a';have a8:=h2.blk.upd a' hi zo;have b5:Ks O3 w3 i kv g xs:=⟨h2.ks.row.upd a' zo zo,h2.ks.len,fun q hq=>(h2.ks.fr q hq).upd a' zo zo,fun q hq=>(h2.ks.lv q hq).upd a' zo zo,h2.ks.en⟩
  refine zh ?_;refine zaf (⟨k3.c,j3.c⟩) fun zS=>?_
  refine zr 13 rfl zS (fun _=>aq rfl) ?_;refine zrf 14 rfl zS rfl ?_
  refine GL 15 zk rfl ?_;refine aj (j:=1) a8 rfl (sizeOf162 _) d9.one rfl rfl rfl ?_
  have a9:Gs (fun q=>q=i) O3 w3 O3 (w3.setCell ⟨nb,1,none⟩ b3):=GF (fun e=>hi e.symm) a8.tag rfl;have i4:GQ O3 (w3.setCell ⟨nb,1,none⟩ b3) i nb (nfC se b3 kv na ta) 165:=a8.set 1 b3;have k4:=k3.upd a9;have l6:=j3.upd a9;have d8:=d9.upd a9 zo zo;have f9:Ks O3 (w3.setCell ⟨nb,1,none⟩ b3) i kv g xs:=⟨b5.row.upd a9 zo zo,b5.len,fun q hq=>(b5.fr q hq).upd a9 zo zo,fun q hq=>(b5.lv q hq).upd a9 zo zo,b5.en⟩
  have e9:=g4.upd a9;have i7:Gs (fun q=>i<=q) O w1 O3 (w3.setCell ⟨nb,1,none⟩ b3):=((g1.mono (fun _ h=>h.elim) zo).trans (Upd.hi a' hi zo)).trans (Upd.hi a9 hi (G1 _));refine zh ?_;refine af (⟨k4.c,l6.c⟩) ?_;generalize w3.setCell ⟨nb,1,none⟩ b3=w4 at *;have l8:w4.drew.cell? (nA nb 1)=some b3:=i4.cell 1 rfl;have l7:w4.drew.cell? (nA nb 2)=some kv:=i4.cell 2 rfl;have l5:w4.drew.cell? ((adr kv 3 a).add 1)=some (nth xs a).2.1:=f9.f1 e0;have k7:(g.ls++[((k,c,b):Lf)]).length=g.ls.length+1:=by simp
  have s4:∀W,Ie w4.drew W->W.cell? (nA nb 1)=some b3/\W.cell? (nA nb 2)=some kv:=fun W hE=>⟨hE.cell l8,hE.cell l7⟩
  refine Il zk ?_;refine zh ?_
  refine aK (fun W=>W.cell? (nA nb 1)=some b3/\W.cell? (nA nb 2)=some kv) 23 rfl zk ?_;refine zin (s4 _ (GC _)) fun zS=>?_
  refine zrm 0 rfl zS rfl ?_;refine zr 1 rfl zS (fun _=>aq rfl) ?_
  refine zrf 2 rfl zS rfl ?_;refine zt 3 rfl zS (fun w1 c7=>RV.ld c7.2 rfl) ?_
  refine zrm 4 rfl zS rfl ?_;refine zrm 5 rfl zS rfl ?_
  refine zr 6 rfl zS (fun _=>aq rfl) ?_;refine zrf 7 rfl zS rfl ?_
  refine zt 8 rfl zS (fun w1 c7=>RV.ld c7.2 rfl) ?_;refine zrm 9 rfl zS rfl ?_
  refine zr 10 rfl zS (fun _=>aA j1 GS (Iy _) rfl rfl a rfl e0) ?_;refine zrf 11 rfl zS rfl ?_
  refine zrm 13 rfl zS rfl ?_;refine zr 14 rfl zS (fun _=>aq rfl) ?_
  refine zrf 15 rfl zS rfl ?_;refine zt 16 rfl zS (fun w1 c7=>RV.ld c7.1 rfl) ?_
  refine zr 17 rfl zS (fun _=>bd d8.sl.sh KJ rfl) ?_;rw[k7];refine bS 12 18 jj (enc:=aJ) (g.ls.length+1) rfl rfl zk zk zk zk (fun W hE=>KA (hE.cell l5) (isAgg25 _) rfl) s4 rfl rfl rfl zd rfl rfl rfl rfl rfl ?_
  intro l' w5 g9 l3;have g0:Gs (fun _=>False) O3 w4 O3 w5:=aa (fun h=>h) O3 ((GC w4).drew.trans l3);have c9:=f9.upd g0 fun _ _ _ h=>h
  have l0:=i4.upd g0 hi fun h=>h
  have f7:=d8.upd g0 zo fun h=>h
  have i9:=e9.upd g0;refine GL 19 zk rfl ?_;refine aC jj (c9.lv a e0) i9 g9 (by simp) rfl rfl (by simp) (by simp[GD]) (by simp;omega) (by simp;omega) zo rfl ?_;intro av w6 O6 d7 a0 a4;have d1:=l0.upd a0 hi zo;have i2:=c9.row.upd a0 zo zo;have h':=f7.upd a0 zo zo;refine zh ?_;refine zaf (⟨d1.cell 1 rfl,d1.cell 2 rfl⟩) fun zS=>?_
  refine zr 20 rfl zS (fun _=>aA j1 GS (Iy _) rfl rfl a rfl e0) ?_;refine zrf 21 rfl zS rfl ?_
  refine GL 22 zk rfl ?_;refine mQ i2 a e0 1 zd (((nth xs a).1,av,(nth xs a).2.2):K3) (sizeOf25 _) d7.one zo rfl rfl rfl rfl ?_
  intro w7 i1 e2;have i3:=d1.upd e2 hi zo;have h3:=h'.upd e2 zo zo;refine zh ?_;refine af (⟨i3.cell 1 rfl,i3.cell 2 rfl⟩) ?_;have d6:∀q,q<xs.length->Ia aJ 3 1 O6 w7 (i+6+2*q) (nth xs q).1 (g.fr q):=fun q hq=>((c9.fr q hq).upd a0 zo zo).upd e2 zo zo
  have f3:∀q,q<xs.length->q≠a->Ia aJ 3 1 O6 w7 (i+7+2*q) (nth xs q).2.1 (g.lv q):=fun q hq m5=>((c9.lv q hq).upd a0 zo zo).upd e2 zo zo
  have f6:=d7.upd e2 zo zo;have j8:=h.ks.len;refine Il zk ?_;refine zh ?_;refine aE rfl (⟨O6,b3,kv,xs.set a ((nth xs a).1,av,(nth xs a).2.2),b8.trans (i7.trans (((g0.mono (fun _ h=>h.elim) zo).trans (Upd.hi a0 hi zo)).trans (Upd.hi e2 hi zo))),a4.upd e2,⟨i3,h3,⟨i1,by rw[GA,im];exact j8,fun q hq=>?_,fun q hq=>?_,fun q hq=>?_⟩⟩⟩)
  ·rw[GA]at hq;rw[aP e0,mr ha]
   by_cases e:q=a
   ·subst e;rw[if_pos rfl];exact d6 q hq
   rw[if_neg e];exact d6 q hq
  ·rw[GA]at hq;rw[aP e0,mo ha]
   by_cases e:q=a
   ·subst e;rw[if_pos rfl,if_pos rfl];exact f6
   rw[if_neg e,if_neg e];exact f3 q hq e
  rw[GA]at hq;rw[aP e0,yZ ha]
  by_cases e:q=a
  ·subst e;rw[if_pos rfl];exact h.ks.en q hq
  rw[if_neg e];exact h.ks.en q hq
structure NfR(w:ln)(nb:Nat)(se:Bool)(g:Gr)(na ta lv kv:G0)(xs:List K3):Prop where
 c0:w.cell? (nA nb 0)=some (.bool se)
 c1:w.cell? (nA nb 1)=some lv
 c2:w.cell? (nA nb 2)=some kv
 c3:w.cell? (nA nb 3)=some na
 c4:w.cell? (nA nb 4)=some ta
 ls:Sl pW 3 w lv g.ls
 ks:Sl DO 3 w kv xs
 len:xs.length=g.ks.length
 fr:∀k,k<xs.length->Sl aJ 1 w (nth xs k).1 (g.fr k)
 lv:∀k,k<xs.length->Sl aJ 1 w (nth xs k).2.1 (g.lv k)
 en:∀k,k<xs.length->(nth xs k).2.2=g.en k
section
variable{O:Nat→Nat}{w w':ln}{i nb:Nat}{se:Bool}{g:Gr}{na ta lv kv:G0}{xs:List K3}
theorem NfO.r(h:NfO O w i nb se g na ta lv kv xs):NfR w nb se g na ta lv kv xs:=⟨h.c0,h.c1,h.c2,h.c3,h.c4,h.ls.sl,h.ks.row.sl,h.ks.len,fun k hk=>(h.ks.fr k hk).sl,fun k hk=>(h.ks.lv k hk).sl,h.ks.en⟩
theorem NfR.ext(h:NfR w nb se g na ta lv kv xs)(e:Ie w w'):NfR w' nb se g na ta lv kv xs:=⟨e.cell h.c0,e.cell h.c1,e.cell h.c2,e.cell h.c3,e.cell h.c4,h.ls.ext e,h.ks.ext e,h.len,fun k hk=>(h.fr k hk).ext e,fun k hk=>(h.lv k hk).ext e,h.en⟩
theorem NfR.f0(h:NfR w nb se g na ta lv kv xs){k:Nat}(hk:k<xs.length):w.cell? ((adr kv 3 k).add 0)=some (nth xs k).1:=h.ks.cell (j:=0) hk rfl
theorem NfR.f1(h:NfR w nb se g na ta lv kv xs){k:Nat}(hk:k<xs.length):w.cell? ((adr kv 3 k).add 1)=some (nth xs k).2.1:=h.ks.cell (j:=1) hk rfl
theorem NfR.f2(h:NfR w nb se g na ta lv kv xs){k:Nat}(hk:k<xs.length):w.cell? ((adr kv 3 k).add 2)=some (nI ((g.en k:Nat):Int)):=by rw[<-h.en k hk];exact h.ks.cell (j:=2) hk rfl
end
theorem tU{l:List Nat}{f:List Nat}{j:Nat}(h:j<f.length):dk l (f.drop j)=dk (if l.contains (nth f j)then l else l++[nth f j]) (f.drop (j+1)):=by
 rw[show f.drop j=nth f j::f.drop (j+1)from by rw[aB h];exact J9 h,dk]
theorem yx(w:ln)(nb:Nat)(se:Bool)(g:Gr)(na ta lv kv:G0)(xs:List K3)(k M:Nat)(h:NfR w nb se g na ta lv kv xs)(hw:WF g)(hk:k<g.ks.length)(hM:Bd g M)(d8:M<=100000000):
  IB GG 114 [nP nb,nI (k:Nat)] w fun v w'=>Sl aJ 1 w' v (eu g k)/\Ie w w'/\(eu g k).length<=M/\(∀x∈eu g k,x<g.ks.length)/\∀(B:Nat) (O:Nat->Nat),IA B O w->KW O w' v:=by
 have d5:=h.len;have d9:=hM.ks;refine G8 func114 ntmps114 rfl rfl ?_;refine zh ?_;refine bB jj (enc:=aJ) (aw w) 1 zd k rfl rfl rfl zd rfl ?_;intro v0 w0 O0 a8 d2 d4;refine zh ?_;refine zlp (fun z:Nat×List Nat×G0×(Nat->Nat)×World=>[(0,nP nb),(5,z.2.2.1),(6,nI z.1)]) (fun z=>z.2.2.2.2) (fun z=>z.1<=z.2.1.length/\Rc g k z.1 z.2.1/\Ia aJ 3 1 z.2.2.2.1 z.2.2.2.2 1 z.2.2.1 z.2.1/\Gs (fun q=>q=1) (fun _=>0) w z.2.2.2.1 z.2.2.2.2/\IA w.heap.size z.2.2.2.1 z.2.2.2.2/\gx g (g.ks.length-z.1) z.1 z.2.1=eu g k) (fun z=>g.ks.length-z.1) (0,[k],v0,O0,w0) (⟨GB _,qk hk,a8,d2,d4,rfl⟩) ?_;rintro⟨i,l,b8,O1,w1⟩ ⟨hi,a5,a2,b3,b7,a'⟩;dsimp only at hi a5 a2 b3 b7 a' ⊢;have d6:=fx a5.nd a5.lt;have b':=a2.sl;refine zh ?_;refine zC ?_ ?_
 ·intro a6;replace a6:i<l.length:=dT a6;have hm:=a5.lt _ (aN a6);have b2:nth l i<xs.length:=zo;have d7:=hM.fr (nth l i);obtain⟨d,hd⟩:∃d,g.ks.length-i=d+1:=⟨g.ks.length-i-1,zo⟩
  rw[hd,gx,if_pos a6]at a';have b1:=h.ext b3.ext;have c2:w1.drew.cell? (nA nb 2)=some kv:=b1.c2;have f0:w1.drew.cell? ((adr kv 3 (nth l i)).add 0)=some (nth xs (nth l i)).1:=b1.f0 b2;have m1:w1.drew.cell? (adr b8 1 i)=some (nI ((nth l i:Nat):Int)):=by have:=b'.cell (j:=0) a6 rfl;rwa[az]at this
  have c':=(b1.fr _ b2).drew;refine zh ?_;refine Is zk zk ?_;refine zh ?_;refine zwH (aA b1.ks.sh GS (Iy _) rfl rfl (nth l i) rfl b2) ?_;refine zwH (bd c'.sh JG rfl) ?_;refine Io ?_;refine zh ?_;refine zlp (fun y:Nat×List Nat×G0×(Nat->Nat)×World=>[(0,nP nb),(5,y.2.2.1),(6,nI i),(27,(nth xs (nth l i)).1),(28,nI (g.fr (nth l i)).length),(29,nI y.1)]) (fun y=>y.2.2.2.2) (fun y=>y.1<=(g.fr (nth l i)).length/\y.2.1.length<=l.length+y.1/\Ia aJ 3 1 y.2.2.2.1 y.2.2.2.2 1 y.2.2.1 y.2.1/\Gs (fun q=>q=1) (fun _=>0) w y.2.2.2.1 y.2.2.2.2/\IA w.heap.size y.2.2.2.1 y.2.2.2.2/\dk y.2.1 ((g.fr (nth l i)).drop y.1)=dk l (g.fr (nth l i))) (fun y=>(g.fr (nth l i)).length-y.1) (0,l,b8,O1,w1.drew) (⟨GB _,G1 _,a2.drew,b3.drew,b7.drew,rfl⟩) ?_;rintro⟨j,l2,b5,O2,w2⟩ ⟨hj,c9,a0,b0,b4,a1⟩;dsimp only at hj c9 a0 b0 b4 a1 ⊢;have c7:=h.ext b0.ext;have c6:=a0.sl;have d0:=c7.fr _ b2;refine zh ?_;refine zC ?_ ?_
  ·intro a3;replace a3:j<(g.fr (nth l i)).length:=dT a3;rw[tU a3]at a1;have m2:w2.cell? (adr (nth xs (nth l i)).1 1 j)=some (nI ((nth (g.fr (nth l i)) j:Nat):Int)):=by have:=d0.cell (j:=0) a3 rfl;rwa[az]at this
   refine zh ?_;refine zc call144 (pX l2 (nth (g.fr (nth l i)) j) b5 w2 c6) ?_
   rintro v w9 ⟨rfl,b9⟩;rw[b9];clear b9 w9;refine zh ?_
   cases hc:l2.contains (nth (g.fr (nth l i)) j)with
   |true=>
    rw[hc,if_pos rfl]at a1;refine zFH rfl rfl ?_;refine zxd (j+1,l2,b5,O2,w2) (⟨a3,by dsimp only;omega,a0,b0,b4,a1⟩)
   |false=>
    rw[hc,if_neg zd]at a1;refine zTH rfl rfl ?_;refine K1 jj a0 b4 ((nth (g.fr (nth l i)) j)) (fun _=>rfl) rfl rfl rfl (by simp[GD]) zo zo zo zd rfl rfl ?_;intro c5 w3 O3 a7 d1 d3;refine zh ?_;refine zxd (j+1,l2++[nth (g.fr (nth l i)) j],c5,O3,w3) (⟨a3,by dsimp only;simp;omega,a7,b0.trans d1,d3,a1⟩)
  intro a9;replace a9:¬j<(g.fr (nth l i)).length:=dF a9;rw[GR zo,dk]at a1;subst a1;have a4:=a5.step hw a6;have c8:=fx a4.nd a4.lt;obtain⟨s,hs⟩:=iA (g.fr (nth l i)) l;refine zh ?_;refine zxd (i+1,dk l (g.fr (nth l i)),b5,O2,w2) (⟨by dsimp only;rw[hs];simp;omega,a4,a0,b0,b4,by dsimp only;rw[show g.ks.length-(i+1)=d from by omega];exact a'⟩)
 intro b6;replace b6:¬i<l.length:=dF b6;have e:gx g (g.ks.length-i) i l=l:=by
  cases hd:g.ks.length-i with
  |zero=>rfl
  |succ d=>rw[gx,if_neg b6]
 rw[e]at a';rw[<-a'];refine zh ?_;refine ae rfl rfl (⟨b',b3.ext,zo,a5.lt,fun B O hR=>a2.free zd b7 hR⟩)
abbrev kvI(n:Int):G0:=nI n
abbrev tvU(n:Nat):G0:=.int .u64 (n:Int)
theorem oy:KV GG 3 kvI:=KeyL.int underlying3
theorem AJ{g:Gr}{n:Nat}(he:∀k,g.en k<=n){b:Nat}(hb:b<2^n)(k:Nat):fj g b k<2^n:=by
 unfold fj
 split
 ·exact hb
 rename_i h;have:=he k;exact Nat.or_lt_two_pow hb (Ju zd zo)
theorem jn{g:Gr}{n:Nat}(he:∀k,g.en k<=n):∀(l:List Nat) (b:Nat),b<2^n->l.foldl (fj g) b<2^n
 |[],_,hb=>hb
 |k::l,_,hb=>jn he l _ (AJ he hb k)
theorem uP(B:Nat)(O:Nat->Nat)(w:ln)(i nb:Nat)(se:Bool)(g:Gr)(nr tr:Nat)(lv kv:G0)(xs:List K3)(l1:List (Int×G0))(l2:List (Int×Nat))(p:Int)(k M:Nat)(hi:2<i)(hR:IA B O w)(h:NfO O w i nb se g (.map (some nr)) (.map (some tr)) lv kv xs)(e7:ID kvI id O w 1 nr l1)(e6:ID kvI tvU O w 2 tr l2) 
  (hw:WF g) (hk:k<g.ks.length) (hM:Bd g M) (h5:M<=1000000) (he:∀q,g.en q<=40) :
  IB GG 87 [nP nb,nI p,nI (k:Nat)] w fun _ w'=>∃v,Gs (fun q=>q=1\/q=2) O w O w'/\ID kvI id O w' 1 nr (bZ l1 p v)/\ID kvI tvU O w' 2 tr (bZ l2 p ((eu g k).foldl (fj g) 0))/\Sl aJ 1 w' v ((eu g k).flatMap g.lv)/\KW O w' v:=by
 obtain⟨T0,h4,e1⟩:=hR.bound;obtain⟨T,h1⟩:∃T,T=T0+10+i+2*g.ks.length:=⟨_,rfl⟩
 have hT:∀b,O b<T:=fun b=>by have:=e1 b;omega
 have f6:=h.ks.len;have f':=e7.tag;have f9:=e6.tag;have f8:=h.r;refine G8 func87 ntmps87 rfl rfl ?_;refine zh ?_;refine zc call114 (yx w nb se g _ _ lv kv xs k M f8 hw hk hM zo) ?_;rintro rv w1 ⟨e5,f5,g7,c7,f7⟩;generalize eu g k=rl at *;have g3:Gs (fun q=>q=T) O w O w1:=aa zo O f5;have g2:=f7 B O hR;have h6:=hM.ks;have b2:∀q,q<rl.length->nth rl q<xs.length:=fun q hq=>by rw[f6];exact c7 _ (aN hq)
 refine zvH (bd e5.sh JG rfl) ?_;refine zlp (fun z:Nat×G0×(Nat->Nat)×World=>[(0,nP nb),(1,nI p),(6,z.2.1),(7,.int .u64 (((rl.take z.1).foldl (fj g) 0:Nat):Int)),(13,rv),(14,nI rl.length),(15,nI z.1)]) (fun z=>z.2.2.2) (fun z=>z.1<=rl.length/\Ia aJ 3 1 z.2.2.1 z.2.2.2 T z.2.1 ((rl.take z.1).flatMap g.lv)/\((rl.take z.1).flatMap g.lv).length<=z.1*1000000/\Gs (fun q=>q=T) O w z.2.2.1 z.2.2.2/\IA B z.2.2.1 z.2.2.2/\Sl aJ 1 z.2.2.2 rv rl/\KW z.2.2.1 z.2.2.2 rv) (fun z=>rl.length-z.1) (0,nS,O,w1) (⟨GB _,J5 _ _ _ _ _ _,by simp,g3,hR.ext f5,e5,g2⟩) ?_
 rintro⟨q,v2,O2,w2⟩ ⟨hq,a0,g0,a9,b',a3,d8⟩;dsimp only at hq a0 g0 a9 b' a3 d8 ⊢;have h2:=h.updT a9 zo (fun r _ hr=>zo);have a':=h2.r;have c2:=a'.c2;have g6:=a0.sl;refine zh ?_;refine zC ?_ ?_
 ·intro a5;replace a5:q<rl.length:=dT a5;have b3:=b2 q a5;have m2:w2.cell? (adr rv 1 q)=some (nI ((nth rl q:Nat):Int)):=by have:=a3.cell (j:=0) a5 rfl;rwa[az]at this
  have f1:=a'.f1 b3;have g9:=hM.lv (nth rl q);refine zh ?_;refine zvH (aA a'.ks.sh GS (Iy _) rfl rfl (nth rl q) rfl b3) ?_;refine cx jj a0 b' (a'.lv _ b3) rfl rfl (by simp) (by simp[GD]) zo zo zo rfl ?_;intro v3 w3 O3 a2 e0 f4;have a8:=a9.trans e0;have h3:=h.updT a8 zo (fun r _ hr=>zo);have c8:=h3.r;have b1:=a3.upd d8 e0;have e9:=d8.upd e0;have f2:=c8.f2 b3;have h7:=c8.c2;have g':=he (nth rl q);have e4:rl.take (q+1)=rl.take q++[nth rl q]:=aF a5;have e8:(rl.take (q+1)).foldl (fj g) 0=fj g ((rl.take q).foldl (fj g) 0) (nth rl q):=by rw[e4,List.foldl_append];rfl
  have b8:(rl.take (q+1)).flatMap g.lv=(rl.take q).flatMap g.lv++g.lv (nth rl q):=by rw[e4];simp
  have h0:=jn he (rl.take q) 0 zd;refine zh ?_;refine zvH (aA c8.ks.sh GS (Iy _) rfl rfl (nth rl q) rfl b3) ?_;refine zC ?_ ?_
  ·intro a4;have a4:g.en (nth rl q)≠0:=dT a4;have g8:2^(g.en (nth rl q)-1)<2^40:=Ju zd zo;refine zh ?_;rw[show((g.en (nth rl q):Nat):Int)-1=((g.en (nth rl q)-1:Nat):Int)from by omega];refine zv (ue (a:=1) (b:=g.en (nth rl q)-1) rfl rfl rfl rfl (by show _<=64;omega) (by show _<=(18446744073709551615:Int);omega)) ?_;rw[KD];refine zvH (oT (a:=(rl.take q).foldl (fj g) 0) (b:=2^(g.en (nth rl q)-1)) rfl rfl rfl rfl (by show _<=(18446744073709551615:Int);omega) (by show _<=(18446744073709551615:Int);omega)) ?_;have a6:(rl.take (q+1)).foldl (fj g) 0=(rl.take q).foldl (fj g) 0 ||| 2^(g.en (nth rl q)-1):=by rw[e8,fj,if_neg a4]
   rw[<-a6];refine zxd (q+1,v3,O3,w3) (⟨a5,by dsimp only;rw[b8];exact a2,by dsimp only;rw[b8,GZ];omega,a8,f4,b1,e9⟩)
  intro hz;have hz:g.en (nth rl q)=0:=dF hz;refine zh ?_;have a6:(rl.take (q+1)).foldl (fj g) 0=(rl.take q).foldl (fj g) 0:=by rw[e8,fj,if_pos hz]
  rw[<-a6];refine zxd (q+1,v3,O3,w3) (⟨a5,by dsimp only;rw[b8];exact a2,by dsimp only;rw[b8,GZ];omega,a8,f4,b1,e9⟩)
 intro g1;obtain rfl:q=rl.length:=dF g1;rw[JT]at a0 ⊢;have hf:KW O w2 v2:=Ky a0 zo hT b' a9;have d7:=e7.upd a9 zd zo;have d1:=e6.upd a9 zd zo;have d3:w2.drew.cell? (nA nb 3)=some (.map (some nr)):=a'.c3;have d4:w2.drew.cell? (nA nb 4)=some (.map (some tr)):=a'.c4;have d9:Gs (fun _=>False) O2 w2 O2 w2.drew:=aa (fun h=>h) O2 (GC w2).drew;have d6:=d7.upd d9 zd fun h=>h
 have d0:=d1.upd d9 zd fun h=>h
 have b0:∀W (S:Nat->Prop),Gs S O2 w2.drew O2 W->¬S i->W.cell? (nA nb 3)=some (.map (some nr))/\W.cell? (nA nb 4)=some (.map (some tr)):=fun W S u hS=>
  have hb:=h2.blk.drew.upd u zo hS
  ⟨hb.cell 3 rfl,hb.cell 4 rfl⟩
 refine zh ?_;refine aK (fun W=>W.cell? (nA nb 3)=some (.map (some nr))/\W.cell? (nA nb 4)=some (.map (some tr))) 18 rfl zk ?_
 refine zin ⟨d3,d4⟩ fun zS=>?_
 refine zrm 0 rfl zS rfl ?_;refine zr 1 rfl zS (fun _=>aq rfl) ?_
 refine zrf 2 rfl zS rfl ?_;refine zt 3 rfl zS (fun w1 c5=>RV.ld c5.1 rfl) ?_
 refine zrm 4 rfl zS rfl ?_;refine zrm 5 rfl zS rfl ?_
 refine zr 6 rfl zS (fun _=>aq rfl) ?_;refine zrf 7 rfl zS rfl ?_
 refine zt 8 rfl zS (fun w1 c5=>RV.ld c5.2 rfl) ?_;refine zrm 9 rfl zS rfl ?_
 refine zrm 10 rfl zS rfl ?_;refine zrm 11 rfl zS rfl ?_
 refine GL 12 zk rfl ?_;refine lr d6 underlying160 oy zd (zeroValue25 _) p v2 rfl rfl rfl rfl ?_
 intro w4 c4 b4 e3 b5;refine zh ?_;refine af (b0 _ _ b5 zo) ?_;refine zr 13 rfl (b0 _ _ b5 zo) (fun _=>KL rfl rfl) ?_;refine GL 14 zk rfl ?_;refine iM e3 rfl rfl rfl rfl ?_;intro w5 d5 b9;have c':=d0.upd b9 zd zd;refine zh ?_;refine af (b0 _ _ b9 zo) ?_;refine GL 15 zk rfl ?_;refine lr c' underlying161 oy zd (zeroValue24 _) p (rl.foldl (fj g) 0) rfl rfl rfl rfl ?_;intro w6 c6 b6 e2 d';have hU6e:Gs (fun q=>q=1\/q=2) O2 w2.drew O2 w6:=(b9.mono (fun _ h=>.inl h) zo).trans (d'.mono (fun _ h=>.inr h) zo);refine zh ?_;refine af (b0 _ _ hU6e zo) ?_;refine zr 16 rfl (b0 _ _ hU6e zo) (fun _=>KL rfl rfl) ?_;refine GL 17 zk rfl ?_;refine iM e2 rfl rfl rfl rfl ?_;intro w7 c9 f3;have d2:=d5.upd f3 zd zd;have b7:Gs (fun q=>q=1\/q=2) O2 w2.drew O2 w7:=(b9.mono (fun _ h=>.inl h) zo).trans (f3.mono (fun _ h=>.inr h) zo);refine zh ?_;refine af (b0 _ _ b7 zo) ?_;have a7:=(d9.mono (S':=fun q=>q=1\/q=2) (fun _ h=>h.elim) zo).trans b7;have e':=(a9.mono (S':=fun q=>q=T\/q=1\/q=2) (fun _ h=>.inl h) zo).trans (a7.mono (fun _ h=>.inr h) zo)
 have g4:Gs (fun q=>q=1\/q=2) O w O w7:=Upd.fgt e' (fun b h=>by
  rcases h with h|h
  ·have:=hT b;omega
  exact h) zo
 have a1:=a0.upd a7 zo zo;have g5:=b'.upd a7;refine Il zk ?_;refine aE rfl (⟨v2,g4,d2.fgt f',c9.fgt f9,a1.sl,Ky a1 zo hT g5 e'⟩)
end Go.Proofs.YtpfpmhhigheccaaGreatDoor
namespace Go.VL
section
variable{P:GI}{N:Nat}{ops:Array Ik}{Q:J4→JZ→ln→Prop}{rest:List Ik}{st:St}{w:ln}
variable{t:G9}{p:String}{e:Array Jh}{d:Nat}{x y z:I3}
theorem Ext.iter(w:ln)(s:ByteArray)(a0:Nat):Ie w (w.iter s a0):=Ext.alloc w _
theorem sm{xt:G9}{l:List UInt8}(hT:P.underlying xt=some .string)(hx:ev st x=some (.string (bs l)))(hd:GW d N=true) 
  (h:WL P N ops Q rest ((d,.pointer (some ⟨w.heap.size,0,none⟩))::st) (w.iter (bs l) 0)):WL P N ops Q (⟨some d,.range xt x,t,p,e,none⟩::rest) st w:=
 IH hd (fun a ha=>by
  simp only[execOp,ha.ev hx,G7,run_range_string w xt (bs l) hT,G2]
  rfl) h
theorem BF{l:List UInt8}{a0:Nat}{c:UInt8}{w0:ln}(hx:ev st x=some (.pointer (some ⟨w0.heap.size,0,none⟩)))(hc:l[a0]? = some c)(ha:c.toNat<128)(hd:GW d N=true) 
  (h:WL P N ops Q rest ((d,.tuple #[.bool true,nI (a0:Nat),.int .i32 (c.toNat:Int)])::st) (w0.iter (bs l) (a0+1))):WL P N ops Q (⟨some d,.next x true,t,p,e,none⟩::rest) st (w0.iter (bs l) a0):=by
 obtain⟨a2,hv⟩:=GX.1 hc;have hs:a0<(bs l).size:=by rw[cP];exact a2
 have he:(bs l)[a0]'hs=c:=by rw[<-hv];exact List.getElem_toArray (xs:=l) (i:=a0) a2
 have a1:=run_next_ascii (P:=P) w0 (bs l) a0 t hs (by rw[he];exact ha);rw[he]at a1
 exact IH hd (fun a ha=>by
  simp only[execOp,ha.ev hx,G7,a1,G2]
  rfl) h
theorem BE{l:List UInt8}{a0:Nat}{w0:ln}(hx:ev st x=some (.pointer (some ⟨w0.heap.size,0,none⟩)))(hp:l.length<=a0)(hd:GW d N=true) 
  (h:WL P N ops Q rest ((d,.tuple #[.bool false])::st) (w0.iter (bs l) a0)):WL P N ops Q (⟨some d,.next x true,t,p,e,none⟩::rest) st (w0.iter (bs l) a0):=by
 have hs:¬a0<(bs l).size:=by rw[cP];omega
 have a1:=run_next_end (P:=P) w0 (bs l) a0 t hs
 exact IH hd (fun a ha=>by
  simp only[execOp,ha.ev hx,G7,a1,G2]
  rfl) h
end
section
variable{P:GI}{N:Nat}{ops:Array Ik}{Q:J4→JZ→ln→Prop}{rest:List Ik}{st:St}{w:ln}
variable{t:G9}{p:String}{e:Array Jh}{d:Nat}{x y z:I3}
theorem uf{xt E:G9}{n:Nat}{cs:Array G0}{k:IntKind}{m:Int}{v:G0}(hu:P.underlying xt=some (.array n E))(hE:(JH E).run P w=.ok 1 w)(hA:(KY E).run P w=.ok false w)(hx:ev st x=some (.agg cs))(hy:ev st y=some (.int k m))(i:Nat)(hm:m=i)(hi:i<n)(hc:cs[i]? = some v):
  RV P N (.index xt x y) t st w v:=fun a ha a0 p e g=>by
 subst hm;have h2:0<=(i:Int)/\(i:Int)<(n:Int):=zo;simp only[execOp,ha.ev hx,ha.ev hy];simp[Instr.index,asIntOf,run_underlying hu,hE,h2,part,hA,hc];omega
theorem mS{α:Type}{c:L7}(f:α->St)(g:α->ln)(I:α->Prop)(h1:(∀z,I z->QF N Q .normal (f z) (g z))->WC P N c Q st w)(h2:∀z,I z->QF N Q .normal (f z) (g z)):WC P N c Q st w:=h1 h2
theorem gh{e:J4}{a0:St}{w':ln}(h:QF N Q e a0 w')(hc:Cov st a0)(hw:w'=w):QF N Q e st w:=by subst hw;exact h.weaken hc
theorem jW{T:G9}{O:Nat->Nat}{i b:Nat}{cs us:Array G0}{E:G9}(off:Nat)(hb:GQ O w i b cs E)(hs:off+us.size<=cs.size)(hT:(JH T).run P w=.ok us.size w)(h1:us.toList.all GD=true) 
  {q:Ki} (hx:ev st x=some (.pointer (some q))) (hq:q=⟨b,off,none⟩) (hy:ev st y=some (.agg us))
  (h:WL P N ops Q rest st (w.setRow b (cs.toList.take off++us.toList++cs.toList.drop (off+us.size)).toArray)):WL P N ops Q (⟨none,.store T x y,t,p,e,none⟩::rest) st w:=
 gO (fun a ha=>by
  subst hq;have a0:(Ja T (.pointer (some ⟨b,off,none⟩)) (.agg us)).run P w=.ok () (w.setRow b (cs.toList.take off++us.toList++cs.toList.drop (off+us.size)).toArray):=by
   have:=run_storeCells_at P b off E us.toList 0 cs w hb.blk (by simpa using hs) (List.all_eq_true.1 h1);simp only[Nat.add_zero,Jt]at this;simp only[Ja,K7,storeVar,G7,Gw,G2,Km,hT];simpa using this
  simp only[execOp,ha.ev hx,ha.ev hy,G7,a0,G2,Gw]) h
end
def lowT(O:Nat->Nat)(T:Nat):Nat->Nat:=fun b=>if T<=O b then 0 else O b
theorem Upd.lowT{S:Nat->Prop}{T:Nat}{O O2:Nat->Nat}{w w':ln}(h:Gs S O w O2 w')(hT:∀b,O b<T){S':Nat->Prop}(hS:∀b,S (O b)->S' (O b))(hz:¬S' 0):Gs S' O w (lowT O2 T) w':=
 ⟨h.os,h.tape,h.output,h.size,fun b hb hn=>h.blk b hb fun hs=>hn (hS b hs),fun b hb=>by
  have h1:=h.tag b hb;have:=hT b;unfold Go.VL.lowT;rw[if_neg zo];exact h1,fun b hb=>by
  unfold Go.VL.lowT at hb
  split at hb
  ·exact absurd rfl hb
  exact h.new b hb,hz⟩
theorem Rng.lowT{B:Nat}{O:Nat->Nat}{w:ln}(h:IA B O w)(T:Nat):IA B (lowT O T) w:=⟨h.le,fun b hb=>by
 unfold Go.VL.lowT at hb
 split at hb
 ·exact absurd rfl hb
 exact h.rng b hb⟩
theorem BlkO.lowT{O:Nat->Nat}{w:ln}{i b:Nat}{cs:Array G0}{E:G9}(h:GQ O w i b cs E){T:Nat}(hi:i<T):GQ (lowT O T) w i b cs E:=⟨h.blk,by unfold Go.VL.lowT;rw[h.tag,if_neg zo]⟩
theorem RowT.lowT{α:Type}{enc:α->List G0}{O:Nat->Nat}{w:ln}{i:Nat}{E:G9}{sz:Nat}{v:G0}{l:List α}(h:Ia enc E sz O w i v l){T:Nat}(hi:i<T):Ia enc E sz (lowT O T) w i v l:=
 ⟨⟨h.1.row,fun g hg=>by unfold Go.VL.lowT;rw[h.1.tag g hg,if_neg zo]⟩,h.2⟩
theorem jD{O:Nat->Nat}{T b:Nat}(h:O b=0):lowT O T b=0:=by unfold lowT;split<;>simp[h]
end Go.VL
