/- Texts that the proof of this statement needs, merged and shortened. -/
import Derived.Test.YtpfpmhhigheccaaGreatDoorQWireMeans3
open Go renaming Value->ix,World->I0,TypeId->JL,Program->K6,Oper->KQ,FuncId->KU,Operand->Ld,Exit->Lq
open Go.Proofs.Tryz renaming underlying25->ka,sizeOf3->I8,prog->IU,zeroValue3->IY,underlying177->J0,underlying160->J1,sizeOf27->Ji,zeroValue127->Jq,sizeOf91->Jr,underlying172->Jy,zeroValue27->Jz,underlying202->JO,zeroValue202->JV,underlying89->JW,isAgg91->JX,zeroValue25->K4,sizeOf25->K5,isAgg27->Ki,underlying226->KF,underlying198->KG,sizeOf202->KL,sizeOf127->KM,zeroValue91->KY,underlying5->KZ,underlying3->L0,call99->L7,call39->Ln,underlying119->Ls,underlying28->Lz,underlying22->LA,call96->LH,call62->LJ
open List renaming replicate->ln,foldl_cons->I5,range->I6,mem_cons->I7,length_singleton->IE,mem_singleton->IG,take_length->II,all_cons->IJ,map_append->IK,foldl_append->IM,mem_append->IN,mem_range->IS,mem_cons_of_mem->IT,mem_map->IX,findIdx?_eq_some_iff_getElem->J3,length_set->J4,map_cons->J7,all_eq_true->J8,range_succ->Jb,all_nil->Je,mem_cons_self->Jk,findIdx?_cons->Jl,take_of_length_le->Jn,mem_append_right->Jp,eq_nil_of_length_eq_zero->Ju,nil_append->Jw,length_append->JE,pairwise_iff_getElem->JG,findIdx?_eq_none_iff->JH,flatMap_cons->JI,eq_of_mem_replicate->JK,length_cons->JN,nodup_cons->JQ,length_filter_le->JT,findIdx?->K0,filter_append->K1,map_map->K8,any_eq_false->K9,cons_append->Kc,length_map->Kg,append_nil->Kh,foldl_nil->Kk,find?_range_eq_some->Kp,map_nil->Kq,mem_append_left->KD,findIdx?_append->KE,replicate_succ->KI,flatMap_append->KJ,filter_sublist->KK,countP_append->KP,nodup_append->KR,length_range->KS,filter_congr->KT,nodup_range->KV,getElem_map->KW,filter_cons->KX,mem_filter->L5,length->Lh
open Nat renaming zero_le->I1,not_lt_zero->I4,le_refl->ID,lt_succ_iff_lt_or_eq->IR,eq_of_beq_eq_true->J2,sub_self->JB,beq->JP,le_trans->Kz,blt->KA,beq_refl->KB
open Go.Value renaming oneCell'->I2,bool->IF,int->Ko,ownBlock->L3,string->L8,slice->Lc,agg->Ll
open Go.VL.Ret renaming enter->I3
open Go.VL.Ext renaming refl->I9,alloc->Kd
open Go.VL.WL renaming nil->IH,mapUpdate->J5,push->Jg,storeAt->Jt
open Go.VL.RowT renaming nil->IL,sl->LB
open Go.VL renaming Upd->IP,RowT->Jm,Ext->Js,MapO->JC,BlkO->JM,Rng->JY,Ret->JZ,Free->Kb,Ints->Kj,NewV->Ky,lowT->Li,Elem->Lj,RangeO->LL
open Go.VL.WC renaming region->IQ,seq->Ja,block->KO,tail->L1,skip->L2,still->Lb,exit->LK
open Go.VL.Upd renaming setRow->IV,refl->Jo,set->JA,trans->JD,alloc->L4
open Go.VL.WH renaming one->IW,done->JR
open Option.some renaming inj->IZ,injEq->Lp
open Go.VL.RV renaming indexAddr->J6,lookup->J9,move->Jh,len->JF,add->JS,assign->Kf,lss->Lv,load->LN
open Classical renaming byContradiction->Jc
open Go.Region renaming ready->Jd
open Bool renaming and_eq_true->Jf,not_eq_true'->JJ,false_and->L6,true_and->L9,not_or->Lk
open UInt8 renaming ofNat->Jj
open Go.VL.Fit renaming i64->Jv
open Go.VL.BlkO renaming upd->JU,cell->Lr
open Go.Proofs.YtpfpmhhigheccaaGreatDoor renaming KVR->K2,RowsN->Kw,RightD->Kx,SpO->LD
open Prod.mk renaming inj->K7
open Go.VL.Rng renaming upd->Ka
open Go.VL.Sl renaming ext->Ke,one->KC,upd->Lu
open Go.VL.Free renaming upd->Kl
open Go.RowKit.Below renaming refl->Km,trans->Lm
open Int renaming eq_ofNat_of_zero_le->Kr
open Decidable renaming not_not->Ku
open Go.World renaming cell?_alloc_at->Kv,ownsRow_lit->KN,cell?->La
open Go.Result renaming andThen_ok->KH
open Go.Sem renaming run_bind->Le
open Go.VL.WS renaming go->Lo,nil->Lt
open Go.VL.MapO renaming upd->Lw
open List.Nodup renaming sublist->Lx
open Go.VL.KeyL renaming int->Ly
open List.cons renaming injEq->LC
open Go.Proofs.YtpfpmhhigheccaaGreatDoor.MpR renaming upd->LF
open Function renaming comp_apply->LG
open Go.Builtin renaming len_->LO
set_option maxRecDepth 10000
open Go.VL Go.Proofs Go.Proofs.Tryz
namespace Go.Proofs.YtpfpmhhigheccaaGreatDoor
theorem Cy(c k:Nat):((c:Int)==(k:Int))=(c==k):=by
 by_cases h:c=k
 ·subst h;simp
 rw[beq_eq_false_iff_ne.2 h,beq_eq_false_iff_ne.2 zo]
theorem sD(w:I0)(xb yb sb i c k len:Nat)(bv:ix)(a0:Shape bv len)(hi:i<len)(c1:w.cell? ⟨xb,0,none⟩=some (nP sb))(c2:w.cell? (nA sb 3)=some bv)(c3:w.cell? (adr bv 1 i)=some (nI (c:Nat)))(c4:w.cell? ⟨yb,0,none⟩=some (nI (k:Nat))):
  JZ IU 147 [nI (i:Nat),nP xb,nP yb] w fun v w'=>v=.bool (c==k)/\Js w w':=by
 refine I3 func147 ntmps147 rfl rfl ?_;refine zh ?_
 refine Lb zk zk ?_;refine zh ?_
 refine zwH (az a0 ka (I8 _) rfl rfl i rfl zo) ?_;refine Lt ?_
 refine zh ?_;refine af rfl rfl (⟨by rw[Cy c k],(I9 w).drew⟩)
def tdL(td:List ((Int×Int)×Bool))(b many:Nat)(lt:Bool):Nat->List ((Int×Int)×Bool)
 |0=>td
 |m+1=>cx (tdL td b many lt m) (((if(bm (tdL td b many lt m) ((b:Int),(m:Int))).getD false=true then(many:Int)else if lt=true then(b:Int)else(many:Int)),(m:Int))) true
theorem A8(td:List ((Int×Int)×Bool))(k:Int×Int):D7 IF (.bool false) (bm td k)=.bool ((bm td k).getD false):=by
 cases bm td k<;>rfl
def cA(bl:List Nat)(k:Nat)(L:List Nat):List Nat:=L.foldl (fun bl x=>bl.set x k) bl
theorem iC(k:Nat):∀(L bl:List Nat),(cA bl k L).length=bl.length
 |[],_=>rfl
 |x::L,bl=>by rw[cA,I5];exact(iC k L (bl.set x k)).trans J4
theorem tW{bl:List Nat}{k:Nat}{L:List Nat}{j:Nat}(h:j<L.length):cA bl k (L.take (j+1))=(cA bl k (L.take j)).set (nth L j) k:=by
 unfold cA;rw[aI h,IM];rfl
theorem lj(k:Nat):∀(L bl:List Nat) (x:Nat),x<bl.length->nth (cA bl k L) x=if x∈L then k else nth bl x
 |[],_,_,_=>by simp[cA]
 |y::L,bl,x,hx=>by
  rw[cA,I5];have:=lj k L (bl.set y k) x (by rw[J4];exact hx);rw[cA]at this;rw[this]
  by_cases h1:x∈L
  ·rw[if_pos h1,if_pos (IT _ h1)]
  rw[if_neg h1]
  by_cases h2:x=y
  ·subst h2;rw[if_pos (Jk ..),aT hx,if_pos rfl]
  rw[if_neg (fun h=>(I7.1 h).elim h2 h1)]
  by_cases hy:y<bl.length
  ·rw[aT hy,if_neg h2]
  rw[List.set_eq_of_length_le zo]
def tdP(td:List ((Int×Int)×Bool))(b m:Nat):Prop:=bm td ((b:Int),(m:Int))=some true
theorem qg{a b c d:Int}(h:b≠d):¬((a,b)=(c,d)):=fun e=>h (K7 e).2
theorem yJ(td:List ((Int×Int)×Bool))(b many:Nat)(lt:Bool)(c j:Nat):∀m,m<=j->bm (tdL td b many lt m) ((c:Int),(j:Int))=bm td ((c:Int),(j:Int))
 |0,_=>rfl
 |m+1,h=>by
  unfold tdL;rw[aP,if_neg (qg zo)];exact yJ td b many lt c j m zo
theorem BD{td:List ((Int×Int)×Bool)}{c j:Nat}(q:Int×Int)(h:tdP td c j):tdP (cx td q true) c j:=by
 unfold tdP;rw[aP]
 split
 ·rfl
 exact h
theorem vm{td:List ((Int×Int)×Bool)}{b many:Nat}{lt:Bool}{c j:Nat}(h:tdP td c j):∀m,tdP (tdL td b many lt m) c j
 |0=>h
 |m+1=>BD _ (vm h m)
theorem vl{td:List ((Int×Int)×Bool)}{b many:Nat}{lt:Bool}{j:Nat}(h:tdP td b j):∀m,j<m->tdP (tdL td b many lt m) many j
 |0,hj=>absurd hj (I4 j)
 |m+1,hj=>by
  unfold tdP tdL;rw[aP]
  by_cases e:j=m
  ·subst e;rw[yJ td b many lt b j j (ID _),show bm td ((b:Int),(j:Int))=some true from h];simp
  rw[if_neg (qg zo)];exact vl h m zo
theorem CM{td:List ((Int×Int)×Bool)}{b many:Nat}{lt:Bool}{j:Nat}:∀m,j<m->tdP (tdL td b many lt m) many j\/tdP (tdL td b many lt m) b j
 |0,hj=>absurd hj (I4 j)
 |m+1,hj=>by
  by_cases e:j=m
  ·subst e;unfold tdP;rw[show tdL td b many lt (j+1)=cx (tdL td b many lt j) (((if(bm (tdL td b many lt j) ((b:Int),(j:Int))).getD false=true then(many:Int)else if lt=true then(b:Int)else(many:Int)),(j:Int))) true from rfl];rw[aP,aP]
   split
   ·exact .inl (if_pos rfl)
   split
   ·exact .inr (if_pos rfl)
   exact .inl (if_pos rfl)
  have:=CM (td:=td) (b:=b) (many:=many) (lt:=lt) (j:=j) m zo;unfold tdP at this ⊢;rw[show tdL td b many lt (m+1)=cx (tdL td b many lt m) (((if(bm (tdL td b many lt m) ((b:Int),(m:Int))).getD false=true then(many:Int)else if lt=true then(b:Int)else(many:Int)),(m:Int))) true from rfl];rw[aP,aP,if_neg (qg zo),if_neg (qg zo)];exact this
section
variable{κ ν:Type}[DecidableEq κ]
theorem qM(k:κ)(x:ν):∀(l:List (κ×ν)),(cx l k x).length<=l.length+1
 |[]=>ID _
 |(a,y)::r=>by
  unfold cx
  split
  ·simp
  simp only[JN];exact Nat.succ_le_succ (qM k x r)
theorem qL(k:κ)(x:ν):∀(l:List (κ×ν)) (e:κ×ν),e∈cx l k x->e∈l\/e=(k,x)
 |[],e,h=>.inr (IG.1 h)
 |(a,y)::r,e,h=>by
  unfold cx at h
  split at h
  ·rcases I7.1 h with h|h
   ·exact .inr h
   exact .inl (IT _ h)
  rcases I7.1 h with h|h
  ·exact .inl (by rw[h];exact Jk ..)
  rcases qL k x r e h with h|h
  ·exact .inl (IT _ h)
  exact .inr h
theorem xc(k:κ):∀(l:List (κ×ν)) (e:κ×ν),e∈oD l k->e∈l
 |[],e,h=>h
 |(a,y)::r,e,h=>by
  unfold oD at h
  split at h
  ·exact IT _ h
  rcases I7.1 h with h|h
  ·rw[h];exact Jk ..
  exact IT _ (xc k r e h)
theorem xd(k:κ)(x:ν):∀(l:List (κ×ν)),(k,x)∈l->(oD l k).length+1=l.length
 |(a,y)::r,h=>by
  unfold oD
  split
  ·rfl
  rename_i hn
  rcases I7.1 h with h|h
  ·exact absurd (K7 h).1.symm hn
  simp only[JN];rw[xd k x r h]
theorem pK{k k':κ}(hne:k'≠k):∀(l:List (κ×ν)),bm (oD l k) k'=bm l k'
 |[]=>rfl
 |(a,y)::r=>by
  unfold oD
  split
  ·rename_i e;subst e;rw[show bm ((a,y)::r) k'=if a=k' then some y else bm r k' from rfl,if_neg (fun e=>hne e.symm)]
  rw[show bm ((a,y)::r) k'=if a=k' then some y else bm r k' from rfl,show bm ((a,y)::oD r k) k'=if a=k' then some y else bm (oD r k) k' from rfl,pK hne r]
end
theorem yK(td:List ((Int×Int)×Bool))(b many:Nat)(lt:Bool):∀m,(tdL td b many lt m).length<=td.length+m
 |0=>ID _
 |m+1=>by
  have:=qM (((if(bm (tdL td b many lt m) ((b:Int),(m:Int))).getD false=true then(many:Int)else if lt=true then(b:Int)else(many:Int)),(m:Int))) true (tdL td b many lt m);have h2:=yK td b many lt m;unfold tdL;omega
def tdR(td:List ((Int×Int)×Bool))(many:Nat):Prop:=∀e∈td,∃c j:Nat,c<many/\j<37/\e.1=((c:Int),(j:Int))
theorem yI{td:List ((Int×Int)×Bool)}{b many:Nat}{lt:Bool}(h:tdR td many)(hb:b<many):∀m,m<=37->tdR (tdL td b many lt m) (many+1)
 |0,_=>fun e he=>by
  obtain⟨c,j,h1,h2,h3⟩:=h e he;exact⟨c,j,zo,h2,h3⟩
 |m+1,hm=>fun e he=>by
  unfold tdL at he
  rcases qL _ _ _ _ he with he|he
  ·exact yI h hb m zo e he
  rw[he]
  split
  ·exact⟨many,m,zo,zo,rfl⟩
  split
  ·exact⟨b,m,zo,zo,rfl⟩
  exact⟨many,m,zo,zo,rfl⟩
theorem tdR.del{td:List ((Int×Int)×Bool)}{many:Nat}(h:tdR td many)(k:Int×Int):tdR (oD td k) many:=fun e he=>h e (xc k td e he)
def KeysE(E:List K2)(many:Nat):Prop:=E.map (·.1)=(I6 many).map fun(k:Nat)=>(k:Int)
theorem KeysE.len{E:List K2}{many:Nat}(h:KeysE E many):E.length=many:=by
 have:=congrArg Lh h;simpa using this
theorem KeysE.mem{E:List K2}{many:Nat}(h:KeysE E many){k:Nat}:(k:Int)∈E.map (·.1)↔k<many:=by
 rw[h,IX]
 constructor
 ·rintro⟨a,ha,e⟩;have:=IS.1 ha;omega
 intro hk;exact⟨k,IS.2 hk,rfl⟩
theorem KeysE.idx{E:List K2}{many:Nat}(h:KeysE E many){k:Nat}(hk:k<many):iN E (k:Int)=some k:=by
 rw[<-dQ,h];refine J3.2 ⟨by simpa using hk,by simp,fun j hj=>?_⟩;simp;omega
theorem KeysE.idxN{E:List K2}{many:Nat}(h:KeysE E many){k:Nat}(hk:many<=k):iN E (k:Int)=none:=by
 rw[<-dQ,h];refine JH.2 fun x hx=>?_
 obtain⟨a,ha,rfl⟩:=IX.1 hx;have:=IS.1 ha;simp;omega
theorem KeysE.slot{E:List K2}{many:Nat}(h:KeysE E many){k:Nat}(hk:k<many):kV E (k:Int)=k:=by
 unfold kV;rw[h.idx hk];rfl
theorem KeysE.add{E:List K2}{many:Nat}(h:KeysE E many)(x:ix×List Nat):cx E (many:Int) x=E++[((many:Int),x)]:=by
 rw[dY,h.idxN (ID _)]
theorem KeysE.put{E:List K2}{many:Nat}(h:KeysE E many){k:Nat}(hk:k<many)(x:ix×List Nat):cx E (k:Int) x=E.set k ((k:Int),x):=by
 rw[dY,h.idx hk]
theorem KeysE.more{E:List K2}{many:Nat}(h:KeysE E many)(x:ix×List Nat):KeysE (cx E (many:Int) x) (many+1):=by
 unfold KeysE;rw[kH,if_neg (fun hm=>by have:=h.mem.1 hm;omega),h,Jb,IK];rfl
theorem KeysE.same{E:List K2}{many:Nat}(h:KeysE E many){k:Nat}(hk:k<many)(x:ix×List Nat):KeysE (cx E (k:Int) x) many:=by
 unfold KeysE;rw[kH,if_pos (h.mem.2 hk)];exact h
theorem vo(E:List K2)(k:Int):kV E k<=E.length:=by
 unfold kV
 cases h:iN E k with
 |none=>exact ID _
 |some j=>
  obtain⟨x,hx⟩:=ij h;exact Nat.le_of_lt (List.getElem?_eq_some_iff.1 hx).1
theorem F5{n many b:Nat}{bl:List Nat}{E:List K2}{L:List Nat}{ov v':ix}(hb:b<many)(a0:bl.length=n)(a1:∀x,x∈dj E (b:Int)↔x<n/\nth bl x=b):
  Cut n bl (cA bl many L) (fun k=>dj E (k:Int)) (fun k=>dj (cx (cx E (many:Int) (ov,L)) (b:Int) (v',gw (fun x=>nth (cA bl many L) x==many) (dj E (b:Int)))) (k:Int)) many b L:=by
 have a2:=iC many L bl;refine⟨by rw[a2,a0],fun x hx=>lj many L bl x zo,?_,?_,fun c h1 h2=>?_⟩
 ·rw[dI,if_neg zo,dI,if_pos rfl]
 ·rw[dI,if_pos rfl];unfold gw;refine KT fun x hx=>?_
  obtain⟨h1,h2⟩:=(a1 x).1 hx;show(!(nth (cA bl many L) x==many)) = !(L.contains x);rw[lj many L bl x zo]
  by_cases hL:x∈L
  ·rw[if_pos hL];simp[hL]
  rw[if_neg hL,h2];simp[hL];omega
 rw[dI,if_neg zo,dI,if_neg zo]
end Go.Proofs.YtpfpmhhigheccaaGreatDoor
section
namespace Go.VL
open Go.Proofs
def reF(f:Nat->Nat)(O:Nat->Nat):Nat->Nat:=fun b=>f (O b)
theorem Upd.re{S:Nat->Prop}{O O':Nat->Nat}{w w':I0}(h:IP S O w O' w')(f:Nat->Nat)(f0:f 0=0)(hf:∀b,O b≠0->f (O b)=O b):IP S O w (reF f O') w':=
 ⟨h.os,h.tape,h.output,h.size,h.blk,fun b hb=>by unfold reF;rw[h.tag b hb];exact hf b hb,fun b hb=>h.new b fun e=>hb (by unfold reF;rw[e];exact f0),h.z⟩
theorem Rng.re{B:Nat}{O:Nat->Nat}{w:I0}(h:JY B O w)(f:Nat->Nat)(f0:f 0=0):JY B (reF f O) w:=⟨h.le,fun b hb=>h.rng b fun e=>hb (by unfold reF;rw[e];exact f0)⟩
theorem RowT.re{α:Type}{enc:α->List ix}{E:JL}{sz:Nat}{O:Nat->Nat}{w:I0}{i:Nat}{v:ix}{l:List α}(h:Jm enc E sz O w i v l)(f:Nat->Nat){j:Nat}(hj:f i=j):Jm enc E sz (reF f O) w j v l:=
 ⟨⟨h.1.row,fun g hg=>by unfold reF;rw[h.1.tag g hg];exact hj⟩,h.2⟩
theorem BlkO.re{O:Nat->Nat}{w:I0}{i b:Nat}{cs:Array ix}{E:JL}(h:JM O w i b cs E)(f:Nat->Nat){j:Nat}(hj:f i=j):JM (reF f O) w j b cs E:=⟨h.blk,by unfold reF;rw[h.tag];exact hj⟩
theorem MapO.re{κ ν:Type}{kv:κ->ix}{vv:ν->ix}{O:Nat->Nat}{w:I0}{i r:Nat}{l:List (κ×ν)}(h:JC kv vv O w i r l)(f:Nat->Nat){j:Nat}(hj:f i=j):JC kv vv (reF f O) w j r l:=⟨h.blk,by unfold reF;rw[h.tag];exact hj,h.born⟩
theorem RangeO.re{κ ν:Type}{kv:κ->ix}{vv:ν->ix}{O:Nat->Nat}{w:I0}{i j r q:Nat}{a0:List (κ×ν)}{a1:Option (κ×ν)}(h:LL kv vv O w i j r q a0 a1)(f:Nat->Nat){i' j':Nat}(hi:f i=i')(hj:f j=j'):LL kv vv (reF f O) w i' j' r q a0 a1:=
 ⟨h.ex,by unfold reF;rw[h.tag];exact hi,by unfold reF;rw[h.tagq];exact hj⟩
theorem MapO.lowT{κ ν:Type}{kv:κ->ix}{vv:ν->ix}{O:Nat->Nat}{w:I0}{i r:Nat}{l:List (κ×ν)}(h:JC kv vv O w i r l){T:Nat}(hi:i<T):JC kv vv (Li O T) w i r l:=⟨h.blk,by unfold Li;rw[h.tag,if_neg zo],h.born⟩
def DE(a b:Nat):Nat->Nat:=fun t=>if t=a then b else t
theorem zM(a b:Nat):DE a b a=b:=if_pos rfl
theorem ql{a b t:Nat}(h:t≠a):DE a b t=t:=if_neg h
end Go.VL
namespace Go.Proofs.YtpfpmhhigheccaaGreatDoor
open Go.VL Go.Proofs
set_option maxRecDepth 10000
theorem FromO.re{O:Nat->Nat}{w:I0}{i:Nat}{fv:ix}{n:Nat}{nx:Nat->Nat->Nat}(h:FromO O w i fv n nx)(f:Nat->Nat){j:Nat}(hj:f i=j):FromO (reF f O) w j fv n nx:=by
 obtain⟨ms,a0,h1,h2,h3⟩:=h.ex;exact⟨ms,a0,h1.re f hj,h2,fun m hm=>⟨(h3 m hm).1.re f hj,(h3 m hm).2.1,fun t ht=>((h3 m hm).2.2 t ht).re f hj⟩⟩
theorem SpO.cut{S:Nat->Prop}{O O':Nat->Nat}{w w':I0}{sb:Nat}{nv tv fv bv:ix}{sr tr n:Nat}{nx:Nat->Nat->Nat}{bl a4:List Nat}{E:List K2}{td a0:List ((Int×Int)×Bool)}{many b tg:Nat}{ov v':ix}{L L':List Nat} 
  (h:LD O w sb nv tv fv bv sr tr n nx bl E td many) (hk:KeysE E many) (hb:b<many) (a7:10+many<=tg) (a5:Jm aN 3 1 O w tg ov L)
  (u:IP S O w O' w') (hS:∀q,S q->1<=q/\q<=4\/q=10+b)
  (h1:JM O' w' 1 sb #[nv,tv,fv,bv,.map (some sr),.map (some tr),nI ((many+1:Nat):Int)] 201) (h2:Jm aN 3 1 O' w' 2 bv a4)
  (h3:JC (fun k:Int=>nI k) (fun v:ix=>v) O' w' 3 sr (cx (cx (E.map sH) (many:Nat) ov) (b:Nat) v')) (h4:Jm aN 3 1 O' w' (10+b) v' L') (h5:JC dM IF O' w' 4 tr a0) :
  LD (reF (DE tg (10+many)) O') w' sb nv tv fv bv sr tr n nx a4 (cx (cx E (many:Int) (ov,L)) (b:Int) (v',L')) a0 (many+1):=by
 have n1:∀ {t:Nat},t<10+many->DE tg (10+many) t=t:=fun h=>ql zo
 have a6:=hk.len;have a2:=hk.more (ov,L);have a1:=a2.len;refine⟨h1.re _ (n1 zo),h2.re _ (n1 zo),⟨?_,fun k a3=>?_⟩,h5.re _ (n1 zo),(h.frm.upd u zd (fun hs=>by rcases hS _ hs with h|h<;>omega)).re _ (n1 zo)⟩
 ·rw[uN,uN];exact h3.re _ (n1 zo)
 rw[a2.put zo]at a3 ⊢;rw[J4]at a3;rw[aT zo]
 by_cases e1:k=b
 ·rw[if_pos e1];subst e1;exact h4.re _ (n1 zo)
 rw[if_neg e1,hk.add,aA]
 by_cases e2:k<E.length
 ·rw[if_pos e2];exact((h.st.row k e2).upd u zo (fun hs=>by rcases hS _ hs with h|h<;>omega)).re _ (n1 zo)
 rw[if_neg e2,show k-E.length=0 from by omega,ax];obtain rfl:k=many:=zo;exact(a5.upd u zo (fun hs=>by rcases hS _ hs with h|h<;>omega)).re _ (zM _ _)
end Go.Proofs.YtpfpmhhigheccaaGreatDoor
end
namespace Go.Proofs.YtpfpmhhigheccaaGreatDoor
theorem uu(B:Nat)(O:Nat → Nat)(w:I0)(sb:Nat)(nv tv fv bv:ix)(sr tr n:Nat)(nx:Nat → Nat → Nat)(bl:List Nat)(E:List K2)(td:List ((Int×Int)×Bool))(many b tg:Nat)(ov:ix)(L:List Nat)(hR:JY B O w)(hS:LD O w sb nv tv fv bv sr tr n nx bl E td many)
  (hov:Jm aN 3 1 O w tg ov L) (hk:KeysE E many) (htg:10 + many ≤ tg) (hL:∀x ∈ L, x < bl.length) (hmany:many ≤ 1000) (hbm:b < many) (hbs:∀x ∈ dj E (b:Nat), x < bl.length) :
  JZ IU 121 [nP sb, nI (b:Nat), ov] w fun _ w' =>
   ∃v' O', IP (fun q => 1 ≤ q ∧ q ≤ 4 ∨ q = 10 + b) O w O' w' ∧ JY B O' w' ∧ JM O' w' 1 sb #[nv, tv, fv, bv, .map (some sr), .map (some tr), nI ((many + 1:Nat):Int)] 201 ∧
    Jm aN 3 1 O' w' 2 bv (cA bl many L) ∧ JC (fun k:Int => nI k) (fun v:ix => v) O' w' 3 sr (cx (cx (E.map sH) (many:Nat) ov) (b:Nat) v') ∧
    Jm aN 3 1 O' w' (10 + b) v' (gw (fun x => nth (cA bl many L) x == many) (dj E (b:Nat))) ∧ JC dM IF O' w' 4 tr (tdL td b many (decide ((gw (fun x => nth (cA bl many L) x == many) (dj E (b:Nat))).length < L.length)) 37) := by
 have hElen := hk.len
 obtain⟨T0, hT00, hT0'⟩ := hR.bound
 obtain⟨T, hTd⟩:∃T, T = T0 + 10 + tg := ⟨_, rfl⟩
 have hT:∀b, O b < T := fun b => by have := hT0' b; omega
 have hSl := hk.slot hbm
 have hrb0 := hS.st.at (b:Int)
 rw[hSl]at hrb0
 refine I3 func121 ntmps121 rfl rfl ?_
 refine Ja ?_
 refine IQ ?_
 refine aF hR T (by omega) rfl rfl ?_
 intro xb w1 O1 hx1 hU1 hR1 hE1
 have hS1 := hS.upd hU1 (by omega)
 have x1:w1.cell? ⟨xb, 0, none⟩ = some (nP sb) := hx1.cell 0 rfl
 have c1:w1.cell? (nA sb 6) = some (nI (many:Nat)) := hS1.blk.cell 6 rfl
 refine IH ?_
 refine ai ?_
 refine Ja ?_
 refine IQ ?_
 refine zv (RV.ld x1 rfl) ?_
 refine zv (ao rfl) ?_
 refine zv (RV.fa rfl) ?_
 refine zv (RV.ld c1 rfl) ?_
 refine ar hR1 (T + 1) (by omega) (IY _) rfl ?_
 intro yb w2 O2 hy2 hU2 hR2 hE2
 have x2:w2.cell? ⟨xb, 0, none⟩ = some (nP sb) := (hx1.upd hU2 (by omega) (by omega)).cell 0 rfl
 have hS2 := hS1.upd hU2 (by omega)
 refine aj (j := 0) hy2 rfl (I8 _) rfl rfl rfl rfl ?_
 have hU3:IP (fun j => j = T + 1) O2 w2 O2 (w2.setCell ⟨yb, 0, none⟩ (nI (many:Nat))) := JA (by omega) hy2.tag rfl
 have hy3:JM O2 (w2.setCell ⟨yb, 0, none⟩ (nI (many:Nat))) (T + 1) yb #[nI (many:Nat)] 3 := hy2.set 0 _
 have hx3 := (hx1.upd hU2 (by omega) (by omega)).upd hU3 (by omega) (by omega)
 have hR3 := hR2.upd hU3
 have hS3 := hS2.upd hU3 (by omega)
 have hov3 := ((hov.upd hU1 (by omega) (by omega)).upd hU2 (by omega) (by omega)).upd hU3 (by omega) (by omega)
 have hU03:IP (fun q => (1 ≤ q ∧ q ≤ 4 ∨ q = 10 + b) ∨ T ≤ q) O w O2 (w2.setCell ⟨yb, 0, none⟩ (nI (many:Nat))) := ((hU1.mono (fun _ h => .inr (by omega)) (by omega)).trans (hU2.mono (fun _ h => .inr (by omega)) (by omega))).trans (hU3.mono (fun _ h => .inr (by omega)) (by omega))
 generalize w2.setCell ⟨yb, 0, none⟩ (nI (many:Nat)) = w3 at *
 have x3:w3.cell? ⟨xb, 0, none⟩ = some (nP sb) := hx3.cell 0 rfl
 have c3:w3.cell? (nA sb 6) = some (nI (many:Nat)) := hS3.blk.cell 6 rfl
 refine IH ?_
 refine ai ?_
 refine Ja ?_
 refine IQ ?_
 refine zv (RV.ld x3 rfl) ?_
 refine zv (ao rfl) ?_
 refine zv (RV.fa rfl) ?_
 refine zv (RV.ld c3 rfl) ?_
 refine zv (JS rfl rfl (Jv (by omega))) ?_
 refine zv (ao rfl) ?_
 refine zv (RV.fa rfl) ?_
 refine aj (j := 6) hS3.blk rfl (I8 _) rfl rfl rfl rfl ?_
 have hU4:IP (fun j => j = 1) O2 w3 O2 (w3.setCell ⟨sb, 6, none⟩ (nI ((many:Int) + 1))) := JA (by decide) hS3.blk.tag rfl
 have hb4:JM O2 (w3.setCell ⟨sb, 6, none⟩ (nI ((many:Int) + 1))) 1 sb #[nv, tv, fv, bv, .map (some sr), .map (some tr), nI ((many:Int) + 1)] 201 := hS3.blk.set 6 _
 have hx4 := hx3.upd hU4 (by omega) (by omega)
 have hy4 := hy3.upd hU4 (by omega) (by omega)
 have hR4 := hR3.upd hU4
 have hrow4 := hS3.row.upd hU4 (by decide) (by omega)
 have hst4 := hS3.st.map.upd hU4 (by decide) (by omega)
 have htd4 := hS3.todo.upd hU4 (by decide) (by omega)
 have hov4 := hov3.upd hU4 (by omega) (by omega)
 have hrb4 := (((hrb0.upd hU1 (by omega) (by omega)).upd hU2 (by omega) (by omega)).upd hU3 (by omega) (by omega)).upd hU4 (by omega) (by omega)
 have hU04 := hU03.trans (hU4.mono (fun _ h => .inl (.inl (by omega))) (by omega))
 generalize w3.setCell ⟨sb, 6, none⟩ (nI ((many:Int) + 1)) = w4 at *
 have hLl := hov4.sl.len_le
 have hsh := hov4.sl
 refine IH ?_
 refine ai ?_
 refine Ja ?_
 refine Ja ?_
 refine IQ ?_
 refine zv (Jh rfl) ?_
 refine zv (bj hsh.sh ka rfl) ?_
 refine zv (Jh rfl) ?_
 refine IH ?_
 refine ai ?_
 refine KO ?_
 refine zlp (fun z:Nat×I0 => [(1, nI (b:Nat)), (2, ov), (3, nP xb), (6, nP yb), (22, ov), (23, nI L.length), (24, nI z.1)]) (fun z => z.2) (fun z => z.1 ≤ L.length ∧ IP (fun q => q = 2) O2 w4 O2 z.2 ∧ Jm aN 3 1 O2 z.2 2 bv (cA bl many (L.take z.1))) (fun z => L.length - z.1) (0, w4) (⟨I1 _, Jo (by decide) _ _, hrow4⟩) ?_
 rintro⟨j, w5⟩ ⟨hj, hU5, hrow5⟩
 dsimp only at hj hU5 hrow5 ⊢
 have hov5 := hov4.upd hU5 (by omega) (by omega)
 have hx5 := hx4.upd hU5 (by omega) (by omega)
 have hy5 := hy4.upd hU5 (by omega) (by omega)
 have hb5 := hb4.upd hU5 (by omega) (by omega)
 have x5:w5.cell? ⟨xb, 0, none⟩ = some (nP sb) := hx5.cell 0 rfl
 have y5:w5.cell? ⟨yb, 0, none⟩ = some (nI (many:Nat)) := hy5.cell 0 rfl
 refine Ja ?_
 refine IQ ?_
 refine zv (Lv rfl rfl) ?_
 refine IH ?_
 refine ai ?_
 refine Ja ?_
 refine zC ?_ ?_
 ·intro hlt
  replace hlt:j < L.length := by have := of_decide_eq_true hlt; omega
  have hs5 := hov5.sl
  have m1:w5.cell? (adr ov 1 j) = some (nI ((nth L j:Nat):Int)) := by have := hs5.cell (i := j) (j := 0) hlt rfl; rwa[ay]at this
  have c5:w5.cell? (nA sb 3) = some bv := hb5.cell 3 rfl
  obtain⟨i, hi⟩:∃i, i = nth L j := ⟨_, rfl⟩
  have hil:i < (cA bl many (L.take j)).length := by rw[iC, hi]; exact hL _ (aM hlt)
  rw[← hi]at m1
  refine L2 ?_
  refine ai ?_
  refine Ja ?_
  refine KO ?_
  refine Ja ?_
  refine IQ ?_
  refine zv (J6 (by first | exact hs5) ka (I8 _) rfl rfl _ rfl (by omega)) ?_
  refine zv (RV.ld m1 rfl) ?_
  refine zv (Kf rfl) ?_
  refine IH ?_
  refine ai ?_
  refine L1 7 rfl rfl (by kernel_rfl) (by kernel_rfl) ?_
  refine zw (RV.ld x5 rfl) ?_
  refine zw (ao rfl) ?_
  refine zw (RV.fa rfl) ?_
  refine zw (RV.ld c5 rfl) ?_
  refine zw (Jh rfl) ?_
  refine zw (RV.ld y5 rfl) ?_
  refine zw (az hrow5.sl.sh ka (I8 _) rfl rfl i rfl hil) ?_
  refine Lo ?_
  refine Jt hrow5.drew i hil many (I8 _) rfl (by decide) rfl rfl rfl rfl ?_
  intro w6 hrow6 hU6
  refine IH ?_
  refine bn ?_
  refine ai ?_
  refine IQ ?_
  refine zv (JS rfl rfl (Jv (by omega))) ?_
  refine zv (Jh rfl) ?_
  refine IH ?_
  refine zxd (j + 1, w6) (⟨hlt, hU5.drew.trans hU6, by dsimp only; rw[tW hlt, ← hi]; exact hrow6⟩)
 ·intro hge
  obtain rfl:j = L.length := by have := of_decide_eq_false hge; omega
  rw[II]at hrow5
  have c5:w5.cell? (nA sb 4) = some (.map (some sr)) := hb5.cell 4 rfl
  have hst5 := hst4.upd hU5 (by decide) (by decide)
  refine LK ?_
  refine aQ ?_
  refine aQ ?_
  refine bS ?_
  refine ai ?_
  refine Ja ?_
  refine L1 6 rfl rfl (by kernel_rfl) (by kernel_rfl) ?_
  refine zw (RV.ld x5 rfl) ?_
  refine zw (ao rfl) ?_
  refine zw (RV.fa rfl) ?_
  refine zw (RV.ld c5 rfl) ?_
  refine zw (RV.ld y5 rfl) ?_
  refine zw (Jh rfl) ?_
  refine Lo ?_
  refine J5 (O := O2) (i := 3) (⟨hst5.blk, hst5.tag, hst5.born⟩:JC (fun k:Int => nI k) (fun v:ix => v) O2 w5.drew 3 sr (E.map sH)) J1 oZ (by decide) (many:Int) ov rfl rfl rfl rfl rfl ?_
  intro w6 hst6 hU6'
  have hU6:IP (fun q => q = 3) O2 w5 O2 w6 := hU6'.ofDrew
  have hU46:IP (fun q => q = 2 ∨ q = 3) O2 w4 O2 w6 := (hU5.mono (fun _ h => .inl h) (by decide)).trans (hU6.mono (fun _ h => .inr h) (by decide))
  have hov6 := hov4.upd hU46 (by omega) (by omega)
  have hx6 := hx4.upd hU46 (by omega) (by omega)
  have hy6 := hy4.upd hU46 (by omega) (by omega)
  have hb6 := hb4.upd hU46 (by omega) (by omega)
  have hrow6 := hrow5.upd hU6 (by decide) (by decide)
  have hrb6 := hrb4.upd hU46 (by omega) (by omega)
  have htd6 := htd4.upd hU46 (by decide) (by decide)
  have hR6 := hR4.upd hU46
  have x6:w6.cell? ⟨xb, 0, none⟩ = some (nP sb) := hx6.cell 0 rfl
  have y6:w6.cell? ⟨yb, 0, none⟩ = some (nI (many:Nat)) := hy6.cell 0 rfl
  have c6:w6.cell? (nA sb 4) = some (.map (some sr)) := hb6.cell 4 rfl
  have hbl' := iC many L bl
  obtain⟨bl', hbe⟩:∃bl', bl' = cA bl many L := ⟨_, rfl⟩
  rw[← hbe]at hrow6 hbl' ⊢
  refine IH ?_
  refine ai ?_
  refine Ja ?_
  refine aL (fun W => W.cell? ⟨xb, 0, none⟩ = some (nP sb) ∧ W.cell? (nA sb 4) = some (.map (some sr))) 14 rfl (by kernel_rfl) ?_
  refine zin ⟨x6, c6⟩ fun zS => ?_
  refine zt 0 rfl zS (fun w1 hw1 => RV.ld hw1.1 rfl) ?_
  refine zr 1 rfl zS (fun _ => ao rfl) ?_
  refine zrf 2 rfl zS rfl ?_
  refine zt 3 rfl zS (fun w1 hw1 => RV.ld hw1.2 rfl) ?_
  refine zrm 4 rfl zS rfl ?_
  refine zt 5 rfl zS (fun w1 hw1 => RV.ld hw1.1 rfl) ?_
  refine zr 6 rfl zS (fun _ => ao rfl) ?_
  refine zrf 7 rfl zS rfl ?_
  refine zt 8 rfl zS (fun w1 hw1 => RV.ld hw1.2 rfl) ?_
  refine zrm 9 rfl zS rfl ?_
  refine zr 11 rfl zS (fun _ => dR rfl rfl) ?_
  refine IW 10 (by kernel_rfl) rfl ?_
  refine zv (J9 (O := O2) (i := 3) (⟨hst6.blk, hst6.tag, hst6.born⟩:JC (fun k:Int => nI k) (fun v:ix => v) O2 w6.drew 3 sr (cx (E.map sH) (many:Int) ov)) J1 oZ (K4 _) (b:Int) rfl rfl rfl ((congrArg (D7 (fun v:ix => v) (nS)) ((aP (E.map sH) (many:Int) (b:Int) ov).trans (if_neg (by omega)))).trans (lF E _))) ?_
  refine IH ?_
  refine ae (⟨x6, c6⟩) ?_
  refine IW 12 (by kernel_rfl) rfl ?_
  refine zc call146 (oy call147 #[nP xb, nP yb] B O2 w6.drew (10 + b) (Br E (b:Nat)) (dj E (b:Nat)) (fun x => nth bl' x == many) (by omega) hR6.drew hrb6.drew (fun x hx O' W u => sD W xb yb sb x (nth bl' x) many bl'.length bv hrow6.sl.sh (by rw[hbl']; exact hbs x hx) ((hx6.drew.upd u (by omega) (by omega)).cell 0 rfl) ((hb6.drew.upd u (by omega) (by omega)).cell 3 rfl) (by have := (hrow6.drew.upd u (by decide) (by omega)).sl.cell (i := x) (j := 0) (by rw[hbl']; exact hbs x hx) rfl; rwa[ay]at this) ((hy6.drew.upd u (by omega) (by omega)).cell 0 rfl))) ?_
  rintro v7 w7 ⟨hkeep7, hU7'⟩
  have hU7:IP (fun q => q = 10 + b) O2 w6 O2 w7 := hU7'.ofDrew
  have hst7 := hst6.upd hU7 (by decide) (by omega)
  have x7:w7.cell? ⟨xb, 0, none⟩ = some (nP sb) := (hx6.upd hU7 (by omega) (by omega)).cell 0 rfl
  have c7:w7.cell? (nA sb 4) = some (.map (some sr)) := (hb6.upd hU7 (by omega) (by omega)).cell 4 rfl
  refine IH ?_
  refine ae (⟨x7, c7⟩) ?_
  refine IW 13 (by kernel_rfl) rfl ?_
  refine J5 hst7 J1 oZ (by decide) (b:Int) v7 rfl rfl rfl rfl rfl ?_
  intro w8 hst8 hU8
  have hU68:IP (fun q => q = 10 + b ∨ q = 3) O2 w6 O2 w8 := (hU7.mono (fun _ h => .inl h) (by omega)).trans (hU8.mono (fun _ h => .inr h) (by omega))
  have hov8 := hov6.upd hU68 (by omega) (by omega)
  have hx8 := hx6.upd hU68 (by omega) (by omega)
  have hy8 := hy6.upd hU68 (by omega) (by omega)
  have hb8 := hb6.upd hU68 (by omega) (by omega)
  have hrow8 := hrow6.upd hU68 (by decide) (by omega)
  have htd8 := htd6.upd hU68 (by decide) (by omega)
  have hkeep8 := hkeep7.upd hU8 (by omega) (by omega)
  refine IH ?_
  refine ae (⟨hx8.cell 0 rfl, hb8.cell 4 rfl⟩) ?_
  have hU08 := (hU04.trans (hU46.mono (S' := fun q => (1 ≤ q ∧ q ≤ 4 ∨ q = 10 + b) ∨ T ≤ q) (fun _ h => .inl (by omega)) (by omega))).trans (hU68.mono (fun _ h => .inl (by omega)) (by omega))
  obtain⟨lt, hlt⟩:∃lt, lt = decide ((gw (fun x => nth bl' x == many) (dj E (b:Nat))).length < L.length) := ⟨_, rfl⟩
  rw[← hlt]
  obtain⟨kp, hkp⟩:∃kp, kp = gw (fun x => nth bl' x == many) (dj E (b:Nat)) := ⟨_, rfl⟩
  rw[← hkp]at hkeep8 hlt ⊢
  refine JR (by kernel_rfl) ?_
  refine ai ?_
  refine Ja ?_
  refine IQ ?_
  refine zv (Jh rfl) ?_
  refine IH ?_
  refine ai ?_
  refine KO ?_
  refine zlp (fun z:Nat×I0 => [(1, nI (b:Nat)), (2, ov), (3, nP xb), (6, nP yb), (55, nI z.1)]) (fun z => z.2) (fun z => z.1 ≤ 37 ∧ IP (fun q => q = 4) O2 w8 O2 z.2 ∧ JC dM IF O2 z.2 4 tr (tdL td b many lt z.1)) (fun z => 37 - z.1) (0, w8) (⟨I1 _, Jo (by decide) _ _, htd8⟩) ?_
  rintro⟨m, w9⟩ ⟨hm, hU9, htd9⟩
  dsimp only at hm hU9 htd9 ⊢
  have hov9 := (hov8.upd hU9 (by omega) (by omega)).sl
  have hx9 := hx8.upd hU9 (by omega) (by omega)
  have hy9 := hy8.upd hU9 (by omega) (by omega)
  have hb9 := hb8.upd hU9 (by omega) (by omega)
  have hst9 := hst8.upd hU9 (by decide) (by omega)
  have hkeep9 := (hkeep8.upd hU9 (by omega) (by omega)).sl
  refine Ja ?_
  refine IQ ?_
  refine zv (Lv rfl rfl) ?_
  refine IH ?_
  refine ai ?_
  refine Ja ?_
  refine zC ?_ ?_
  ·intro hlm
   replace hlm:m < 37 := by have := of_decide_eq_true hlm; omega
   have x9:w9.cell? ⟨xb, 0, none⟩ = some (nP sb) := hx9.cell 0 rfl
   have y9:w9.cell? ⟨yb, 0, none⟩ = some (nI (many:Nat)) := hy9.cell 0 rfl
   have c9:w9.cell? (nA sb 4) = some (.map (some sr)) := hb9.cell 4 rfl
   have d9:w9.cell? (nA sb 5) = some (.map (some tr)) := hb9.cell 5 rfl
   refine L2 ?_
   refine ai ?_
   refine Ja ?_
   refine KO ?_
   refine Ja ?_
   refine IQ ?_
   refine zv (Jh rfl) ?_
   refine zv (Kf rfl) ?_
   refine IH ?_
   refine ai ?_
   refine Ja ?_
   refine IQ ?_
   refine zv (RV.ld y9 rfl) ?_
   refine zv (Kf rfl) ?_
   refine IH ?_
   refine ai ?_
   refine Ja ?_
   refine Ja ?_
   refine IQ ?_
   refine zv (RV.ld x9 rfl) ?_
   refine zv (ao rfl) ?_
   refine zv (RV.fa rfl) ?_
   refine zv (RV.ld c9 rfl) ?_
   refine zv (Jh rfl) ?_
   refine zv (J9 hst9 J1 oZ (K4 _) (b:Int) rfl rfl rfl (congrArg (D7 (fun v:ix => v) (nS)) ((aP _ (b:Int) (b:Int) v7).trans (if_pos rfl)))) ?_
   refine zv (bj hkeep9.sh ka rfl) ?_
   refine zv (Jh rfl) ?_
   refine zv (bj hov9.sh ka rfl) ?_
   refine zv (Lv rfl rfl) ?_
   refine IH ?_
   refine ai ?_
   refine kM (fun z:Int => [(1, nI (b:Nat)), (2, ov), (3, nP xb), (6, nP yb), (55, nI (m:Nat)), (9, nI (m:Nat)), (10, nI z)]) (fun z:Int => w9) (fun z:Int => z = if lt = true then(b:Int)else(many:Int)) ?_ ?_
   ·intro hN
    refine zC ?_ ?_
    ·intro h1
     refine IQ ?_
     refine zv (Jh rfl) ?_
     refine zv (Kf rfl) ?_
     refine IH ?_
     exact eA (hN ((b:Int)) (by rw[if_pos (by rw[hlt]; have := of_decide_eq_true h1; exact decide_eq_true (by omega))])) ⟨rfl, rfl, rfl, rfl, rfl, rfl, rfl, trivial⟩ rfl
    ·intro h1
     refine L2 ?_
     exact eA (hN ((many:Int)) (by rw[if_neg (by rw[hlt]; have := of_decide_eq_false h1; simp; omega)])) ⟨rfl, rfl, rfl, rfl, rfl, rfl, rfl, trivial⟩ rfl
   rintro z hz
   refine ai ?_
   refine Ja ?_
   refine Ja ?_
   refine IQ ?_
   refine zv (RV.ld x9 rfl) ?_
   refine zv (ao rfl) ?_
   refine zv (RV.fa rfl) ?_
   refine zv (RV.ld d9 rfl) ?_
   refine zv (Jh rfl) ?_
   refine zv (Jh rfl) ?_
   refine zv (dG JO (I8 _) (JV _) rfl rfl) ?_
   refine zv (J9 htd9 KG Gq (zeroValue4 _) ((b:Int), (m:Int)) rfl rfl rfl (A8 _ _)) ?_
   refine IH ?_
   refine ai ?_
   refine kM (fun y:Int => [(1, nI (b:Nat)), (2, ov), (3, nP xb), (6, nP yb), (55, nI (m:Nat)), (9, nI (m:Nat)), (10, nI y)]) (fun y:Int => w9) (fun y:Int => y = if(bm (tdL td b many lt m) ((b:Int), (m:Int))).getD false = true then(many:Int)else z) ?_ ?_
   ·intro hN
    refine zC ?_ ?_
    ·intro h1
     refine IQ ?_
     refine zv (RV.ld y9 rfl) ?_
     refine zv (Kf rfl) ?_
     refine IH ?_
     exact eA (hN ((many:Int)) (by rw[if_pos h1])) ⟨rfl, rfl, rfl, rfl, rfl, rfl, rfl, trivial⟩ rfl
    ·intro h1
     refine L2 ?_
     exact eA (hN (z) (by rw[if_neg (by rw[h1]; decide)])) ⟨rfl, rfl, rfl, rfl, rfl, rfl, rfl, trivial⟩ rfl
   rintro y hy
   refine ai ?_
   refine IQ ?_
   refine zv (RV.ld x9 rfl) ?_
   refine zv (ao rfl) ?_
   refine zv (RV.fa rfl) ?_
   refine zv (RV.ld d9 rfl) ?_
   refine zv (Jh rfl) ?_
   refine zv (Jh rfl) ?_
   refine zv (dG JO (I8 _) (JV _) rfl rfl) ?_
   refine J5 htd9 KG Gq (by decide) (y, (m:Int)) true rfl rfl rfl rfl rfl ?_
   intro w10 htd10 hU10
   refine IH ?_
   refine bn ?_
   refine ai ?_
   refine IQ ?_
   refine zv (JS rfl rfl (Jv (by omega))) ?_
   refine zv (Jh rfl) ?_
   refine IH ?_
   refine zxd (m + 1, w10) (⟨hlm, hU9.trans hU10, by dsimp only; unfold tdL; rw[← hz, ← hy]; exact htd10⟩)
  ·intro hgm
   obtain rfl:m = 37 := by have := of_decide_eq_false hgm; omega
   refine LK ?_
   refine aQ ?_
   refine aQ ?_
   refine bS ?_
   have hR9 := ((hR6.upd hU68).upd hU9).lowT T
   refine aG rfl (⟨v7, lowT O2 T, (hU08.trans (hU9.mono (fun _ h => .inl (by omega)) (by omega))).lowT hT (fun b h => by have := hT b; omega) (by omega), hR9, hb9.lowT (by omega), (hrow8.upd hU9 (by decide) (by decide)).lowT (by omega), hst9.lowT (by omega), (hkeep8.upd hU9 (by omega) (by omega)).lowT (by omega), htd9.lowT (by omega)⟩)
structure FI(tl:Nat->Nat)(n i:Nat)(D:List (Int×Int))(bl:List Nat)(E:List K2)(many:Nat):Prop where
 blen:bl.length=n
 val:∀j,j<i->bm D ((tl j:Nat):Int)=some ((nth bl j:Nat):Int)
 inj:∀u u' b,bm D u=some b->bm D u'=some b->u=u'
 rng:∀u b,bm D u=some b->∃k:Nat,b=(k:Int)/\k<many
 keys:KeysE E many
 row:∀k:Nat,dj E (k:Int)=(I6 i).filter fun x=>nth bl x==k
 ne:∀k,k<many->dj E (k:Int)≠[]
 mi:many<=i
theorem CI(tl:Nat->Nat)(n:Nat):FI tl n 0 [] (ln n 0) [] 0:=
 ⟨by simp,fun j hj=>absurd hj (I4 j),fun u u' b h=>absurd h (by simp[bm]),fun u b h=>absurd h (by simp[bm]),rfl,fun k=>rfl,fun k hk=>absurd hk (I4 k),ID _⟩
theorem FI.rowsN{tl:Nat->Nat}{n i:Nat}{D:List (Int×Int)}{bl:List Nat}{E:List K2}{many:Nat}(h:FI tl n i D bl E many)(k:Nat):(dj E (k:Int)).length<=i:=by
 rw[h.row];exact Kz (JT _ _) (by simp)
theorem po{bl:List Nat}{i b k:Nat}(hi:i<bl.length):(I6 (i+1)).filter (fun x=>nth (bl.set i b) x==k)=(I6 i).filter (fun x=>nth bl x==k)++if b=k then [i]else []:=by
 rw[Jb,K1];have h1:(I6 i).filter (fun x=>nth (bl.set i b) x==k)=(I6 i).filter (fun x=>nth bl x==k):=KT fun x hx=>by
  have:=IS.1 hx;rw[aT hi,if_neg zo]
 rw[h1];congr 1;rw[KX,aT hi,if_pos rfl]
 by_cases e:b=k
 ·subst e;simp
 rw[if_neg e,if_neg (by simpa using e)];rfl
theorem FI.old{tl:Nat->Nat}{n i:Nat}{D:List (Int×Int)}{bl:List Nat}{E:List K2}{many:Nat}(h:FI tl n i D bl E many)(hi:i<n){b:Int}(hb:bm D ((tl i:Nat):Int)=some b)(v:ix):
  ∃k:Nat,b=(k:Int)/\k<many/\FI tl n (i+1) D (bl.set i k) (cx E (k:Int) (v,dj E (k:Int)++[i])) many:=by
 obtain⟨k,rfl,hk⟩:=h.rng _ _ hb;have a0:=h.blen;refine⟨k,rfl,hk,by rw[J4];exact a0,fun j hj=>?_,h.inj,h.rng,h.keys.same hk _,fun c=>?_,fun c hc=>?_,by have:=h.mi;omega⟩
 ·rw[aT zo]
  by_cases e:j=i
  ·rw[if_pos e,e];exact hb
  rw[if_neg e];exact h.val j zo
 ·rw[dI,po zo]
  by_cases e:k=c
  ·subst e;rw[if_pos rfl,if_pos rfl,h.row]
  rw[if_neg zo,if_neg e,Kh,h.row]
 rw[dI]
 split
 ·simp
 exact h.ne c hc
theorem FI.new{tl:Nat->Nat}{n i:Nat}{D:List (Int×Int)}{bl:List Nat}{E:List K2}{many:Nat}(h:FI tl n i D bl E many)(hi:i<n)(hb:bm D ((tl i:Nat):Int)=none)(v:ix):
  FI tl n (i+1) (cx D ((tl i:Nat):Int) (many:Int)) (bl.set i many) (cx E (many:Int) (v,dj E (many:Int)++[i])) (many+1):=by
 have a1:=h.blen;have a0:∀u b,bm D u=some b->b<many:=fun u b hu=>by
  obtain⟨k,rfl,hk⟩:=h.rng u b hu;omega
 refine⟨by rw[J4];exact a1,fun j hj=>?_,fun u u' b h1 h2=>?_,fun u b h1=>?_,h.keys.more _,fun c=>?_,fun c hc=>?_,by have:=h.mi;omega⟩
 ·rw[aP,aT zo]
  by_cases e:j=i
  ·rw[if_pos (by rw[e]),if_pos e]
  rw[if_neg e];have:=h.val j zo;rw[if_neg (fun e2=>by rw[<-e2,hb]at this;cases this)];exact this
 ·rw[aP]at h1 h2
  split at h1
  ·split at h2
   ·rename_i e1 e2;rw[<-e1,<-e2]
   cases h1
   have:=a0 _ _ h2;omega
  split at h2
  ·cases h2
   have:=a0 _ _ h1;omega
  exact h.inj u u' b h1 h2
 ·rw[aP]at h1
  split at h1
  ·cases h1;exact⟨many,rfl,zo⟩
  obtain⟨k,e,hk⟩:=h.rng u b h1;exact⟨k,e,zo⟩
 ·rw[dI,po zo]
  by_cases e:many=c
  ·subst e;rw[if_pos rfl,if_pos rfl,h.row]
  rw[if_neg zo,if_neg e,Kh,h.row]
 rw[dI]
 split
 ·simp
 exact h.ne c zo
theorem FI.blk{tl:Nat->Nat}{n:Nat}{D:List (Int×Int)}{bl:List Nat}{E:List K2}{many:Nat}(h:FI tl n n D bl E many)(nx:Nat->Nat->Nat):Blk nx tl n bl (fun k=>dj E (k:Int)) many:=by
 refine⟨h.blen,fun i hi=>?_,fun b _ x=>?_,fun b _=>?_,fun b hb=>h.ne b hb,fun p q hp hq e=>?_,fun p q hp hq ha=>?_⟩
 ·obtain⟨k,e,hk⟩:=h.rng _ _ (h.val i hi);omega
 ·rw[h.row,L5,IS];simp
 ·rw[h.row];exact KV.sublist KK
 ·have:=h.inj _ _ _ (h.val p hp) (by rw[e];exact h.val q hq);omega
 have e:tl p=tl q:=ha [] fun m hm=>absurd hm (by simp)
 have h1:=h.val p hp;rw[e,h.val q hq]at h1;have:=IZ h1;omega
structure TdI(td:List ((Int×Int)×Bool))(many b m:Nat):Prop where
 rng:tdR td many
 all:∀c j,c<b\/c=b/\j<m->j<37->tdP td c j
 len:td.length<=b*37+m
theorem Bk(many:Nat):TdI [] many 0 0:=⟨fun e he=>absurd he (by simp),fun c j h _=>zo,ID _⟩
theorem TdI.put{td:List ((Int×Int)×Bool)}{many b m:Nat}(h:TdI td many b m)(hb:b<many)(hm:m<37):TdI (cx td ((b:Int),(m:Int)) true) many b (m+1):=by
 refine⟨fun e he=>?_,fun c j hc hj=>?_,?_⟩
 ·rcases qL _ _ _ _ he with he|he
  ·exact h.rng e he
  exact⟨b,m,hb,hm,by rw[he]⟩
 ·unfold tdP;rw[aP]
  split
  ·rfl
  rename_i hne;refine h.all c j ?_ hj
  rcases hc with hc|⟨rfl,hc⟩
  ·exact .inl hc
  exact .inr ⟨rfl,by
   have:¬j=m:=fun e=>hne (by rw[e])
   omega⟩
 have:=qM ((b:Int),(m:Int)) true td;have:=h.len;omega
theorem TdI.next{td:List ((Int×Int)×Bool)}{many b:Nat}(h:TdI td many b 37):TdI td many (b+1) 0:=⟨h.rng,fun c j hc hj=>h.all c j zo hj,by have:=h.len;omega⟩
structure BO(nx:Nat->Nat->Nat)(tl:Nat->Nat)(n:Nat)(bl:List Nat)(E:List K2)(td:List ((Int×Int)×Bool))(many:Nat):Prop where
 blk:Blk nx tl n bl (fun k=>dj E (k:Int)) many
 keys:KeysE E many
 tdr:tdR td many
 todo:Todo nx n bl (tdP td)
structure BI(nx:Nat->Nat->Nat)(tl:Nat->Nat)(n:Nat)(bl0:List Nat)(m0 b0 many0:Nat)(left:List (Int×ix))(bl:List Nat)(E:List K2)(td:List ((Int×Int)×Bool))(many:Nat):Prop where
 blk:Blk nx tl n bl (fun k=>dj E (k:Int)) many
 keys:KeysE E many
 tdr:tdR td many
 le:many0<=many
 pend:Pend nx n bl (tdP td) m0 (fun p=>nth bl0 (nx p m0)=b0) (fun b=>(b:Int)∈left.map (·.1))
 same:∀k:Nat,(k:Int)∈left.map (·.1)->k<many0/\∀x,x<n->(nth bl x=k↔nth bl0 x=k)
 nd:(left.map (·.1)).Nodup
theorem BO.take{nx:Nat->Nat->Nat}{tl:Nat->Nat}{n:Nat}{bl:List Nat}{E:List K2}{td:List ((Int×Int)×Bool)}{many:Nat}(h:BO nx tl n bl E td many)(b0 m0:Nat)(_:m0<37)(_:∀p m,p<n->m<37->nx p m<n)(a0:List (Int×ix)) 
  (hl:∀k,k∈a0.map (·.1)↔∃i,i<n/\nth bl (nx i m0)=b0/\((nth bl i:Nat):Int)=k) (hn:(a0.map (·.1)).Nodup):BI nx tl n bl m0 b0 many a0 bl E (oD td ((b0:Int),(m0:Int))) many:=by
 refine⟨h.blk,h.keys,h.tdr.del _,ID _,?_,fun k hk=>?_,hn⟩
 ·refine h.todo.take b0 m0 (fun b m hb=>?_) _ fun p hp e=>(hl _).2 ⟨p,hp,e,rfl⟩
  by_cases e:b=b0/\m=m0
  ·exact .inr e
  refine .inl ?_;unfold tdP;rw[pK (fun e2=>e ?_)]
  ·exact hb
  have:=K7 e2;omega
 obtain⟨i,hi,_,e⟩:=(hl _).1 hk;have:=h.blk.lt i hi;exact⟨zo,fun x _=>Iff.rfl⟩
theorem qo{a1 a0:List (Int×ix)}{k:Int}{v:ix}(hn:((a1++(k,v)::a0).map (·.1)).Nodup):((a1++a0).map (·.1)).Nodup/\k∉(a1++a0).map (·.1)/\∀b,b∈(a1++(k,v)::a0).map (·.1)->b=k\/b∈(a1++a0).map (·.1):=by
 simp only[IK,J7]at hn ⊢;have hp:=(List.perm_middle (a:=k) (l₁:=a1.map (·.1)) (l₂:=a0.map (·.1)))
 have h2:=hp.nodup_iff.1 hn;obtain⟨h3,h4⟩:=JQ.1 h2;exact⟨h4,h3,fun b hb=>I7.1 (hp.mem_iff.1 hb)⟩
section
variable{nx:Nat→Nat→Nat}{tl:Nat→Nat}{n:Nat}{bl0:List Nat}{m0 b0 many0:Nat}{pre suf:List (Int×ix)}{k:Nat}{v:ix}{bl:List Nat}{E:List K2}{td:List ((Int×Int)×Bool)}{many:Nat}{L:List Nat}
theorem BI.here(h:BI nx tl n bl0 m0 b0 many0 (pre++((k:Int),v)::suf) bl E td many)(hL:∀x,x∈L↔x<n/\nth bl0 x=k/\nth bl0 (nx x m0)=b0):k<many/\∀x,x∈L↔x<n/\nth bl x=k/\nth bl0 (nx x m0)=b0:=by
 obtain⟨h1,h2⟩:=h.same k (by simp);refine⟨by have:=h.le;omega,fun x=>?_⟩;rw[hL]
 constructor
 ·rintro⟨a,b,c⟩;exact⟨a,(h2 x a).2 b,c⟩
 rintro⟨a,b,c⟩;exact⟨a,(h2 x a).1 b,c⟩
theorem BI.skip(h:BI nx tl n bl0 m0 b0 many0 (pre++((k:Int),v)::suf) bl E td many)(hL:∀x,x∈L↔x<n/\nth bl0 x=k/\nth bl0 (nx x m0)=b0)(a4:L.Nodup)(a5:(dj E (k:Int)).length<=L.length):BI nx tl n bl0 m0 b0 many0 (pre++suf) bl E td many:=by
 obtain⟨hk,a1⟩:=h.here hL;obtain⟨r1,r2,r3⟩:=qo h.nd;refine⟨h.blk,h.keys,h.tdr,h.le,?_,fun c hc=>h.same c ?_,r1⟩
 ·refine h.pend.whole (k:=k) (fun p hp e=>?_) fun b hb=>?_
  ·refine Jc fun hn=>?_
   have a2:p∉L:=fun hx=>hn ((a1 p).1 hx).2.2
   have a3:(p::L).Nodup:=JQ.2 ⟨a2,a4⟩;have a0:(p::L) ⊆ dj E (k:Int):=fun x hx=>by
    rcases I7.1 hx with rfl|hx
    ·exact(h.blk.mem k hk _).2 ⟨hp,e⟩
    exact(h.blk.mem k hk x).2 ⟨((a1 x).1 hx).1,((a1 x).1 hx).2.1⟩
   have:=a3.length_le_of_subset a0;simp only[JN]at this;omega
  rcases r3 _ hb with h1|h1
  ·exact .inl zo
  exact .inr h1
 simp only[IK,J7,IN,I7]at hc ⊢
 rcases hc with hc|hc
 ·exact .inl hc
 exact .inr (.inr hc)
theorem BI.cut(h:BI nx tl n bl0 m0 b0 many0 (pre++((k:Int),v)::suf) bl E td many)(a3:∀p m,p<n->m<37->nx p m<n)(h0:∀p q,p<n->q<n->Alike nx tl p q->nth bl0 p=nth bl0 q)(a4:m0<37) 
  (hL:∀x,x∈L↔x<n/\nth bl0 x=k/\nth bl0 (nx x m0)=b0) (a8:L.Nodup) (a6:L≠[]) (a7:L.length<(dj E (k:Int)).length) (ov v':ix) (lt:Bool) :
  BI nx tl n bl0 m0 b0 many0 (pre++suf) (cA bl many L) (cx (cx E (many:Int) (ov,L)) (k:Int) (v',gw (fun x=>nth (cA bl many L) x==many) (dj E (k:Int)))) (tdL td k many lt 37) (many+1):=by
 obtain⟨hk,a1⟩:=h.here hL;obtain⟨r1,r2,r3⟩:=qo h.nd;have hc:=F5 (L:=L) (ov:=ov) (v':=v') hk h.blk.len (h.blk.mem k hk);refine⟨?_,?_,yI h.tdr hk 37 (ID _),by have:=h.le;omega,?_,fun c a0=>?_,r1⟩
 ·refine h.blk.cut hc hk (fun x hx=>⟨((a1 x).1 hx).1,((a1 x).1 hx).2.1⟩) a8 a6 a7 fun p q hp hq ha a5=>?_
  obtain⟨_,e1,e2⟩:=(hL p).1 a5;refine(hL q).2 ⟨hq,by rw[<-h0 p q hp hq ha];exact e1,?_⟩;rw[<-h0 (nx p m0) (nx q m0) (a3 p m0 hp a4) (a3 q m0 hq a4) (ha.step a4)];exact e2
 ·exact(h.keys.more _).same zo _
 ·refine Pend.cut h.blk h.pend hc hk a3 a1 (fun b m hb=>vm hb 37) (fun m hm hb=>vl hb 37 hm) (fun m hm=>CM 37 hm) fun b hb=>?_
  rcases r3 _ hb with h1|h1
  ·exact .inl zo
  exact .inr h1
 have a9:c≠k:=fun e=>r2 (by rw[<-e];exact a0)
 obtain⟨h1,h2⟩:=h.same c (by
  simp only[IK,J7,IN,I7]at a0 ⊢
  rcases a0 with a0|a0
  ·exact .inl a0
  exact .inr (.inr a0))
 refine⟨h1,fun x hx=>?_⟩;rw[<-h2 x hx,hc.bl x hx];have:=h.le
 by_cases a2:x∈L
 ·rw[if_pos a2];have:=((a1 x).1 a2).2.1
  constructor<;>omega
 rw[if_neg a2]
end
theorem BI.done{nx:Nat->Nat->Nat}{tl:Nat->Nat}{n:Nat}{a1:List Nat}{m0 b0 a0:Nat}{bl:List Nat}{E:List K2}{td:List ((Int×Int)×Bool)}{many:Nat}(h:BI nx tl n a1 m0 b0 a0 [] bl E td many):BO nx tl n bl E td many:=
 ⟨h.blk,h.keys,h.tdr,h.pend.done fun b hb=>absurd hb (by simp)⟩
theorem BO.final{nx:Nat->Nat->Nat}{tl:Nat->Nat}{n:Nat}{bl:List Nat}{E:List K2}{many:Nat}(h:BO nx tl n bl E [] many)(a0:∀p m,p<n->m<37->nx p m<n)(p q:Nat)(hp:p<n)(hq:q<n):nth bl p=nth bl q↔Alike nx tl p q:=by
 refine h.blk.final (fun p q m a b c d e=>?_) a0 p q hp hq
 rcases h.todo p q m a b c d e with h1|h1<;>cases h1
theorem FI.bo{nx:Nat->Nat->Nat}{tl:Nat->Nat}{n:Nat}{D:List (Int×Int)}{bl:List Nat}{E:List K2}{many:Nat}{td:List ((Int×Int)×Bool)}(h:FI tl n n D bl E many)(ht:TdI td many many 0)(a0:∀p m,p<n->m<37->nx p m<n):BO nx tl n bl E td many:=by
 have hb:=h.blk nx;exact⟨hb,h.keys,ht.rng,fun p q m hp hq hm e a1=>.inl (ht.all _ m (.inl (hb.lt _ (a0 p m hp hm))) hm)⟩
theorem GR:KeyL IU 24 (fun n:Int=>Ko .u64 n):=Ly underlying24
theorem uz(B:Nat)(O:Nat->Nat)(w:I0)(sb:Nat)(nv tv bv:ix)(sr tr:Nat)(a0:List Nat)(hR:JY B O w)(hB:JM O w 1 sb #[nv,tv,nS,bv,.map (some sr),.map (some tr),nI 0] 201) 
  (e6:Jm aN 3 1 O w 2 bv (ln a0.length 0)) (g':MpR 10 3 O w sr []) (g9:JC dM IF O w 4 tr []) (g2:Sl fj 1 w tv a0) (e':Kb O w tv) (hn:a0.length<=1000) (_:∀q,O q<2000) :
  JZ IU 117 [nP sb] w fun _ w'=>
   ∃O' D bl E many td,IP (fun q=>1<=q/\q<=4\/10<=q) O w O' w'/\JY B O' w'/\JM O' w' 1 sb #[nv,tv,nS,bv,.map (some sr),.map (some tr),nI ((many:Nat):Int)] 201/\
    Jm aN 3 1 O' w' 2 bv bl/\MpR 10 3 O' w' sr E/\JC dM IF O' w' 4 tr td/\FI (nth a0) a0.length a0.length D bl E many/\TdI td many many 0:=by
 refine I3 func117 ntmps117 rfl rfl ?_;refine zh ?_
 refine bd (fun k:Int=>.int .u64 k) (fun v:Int=>nI v) hR 2000 zd rfl ?_;intro r w1 O1 i2 c9 h';have g6:=hB.upd c9 zd zd;have c1:w1.cell? ((nA sb 0).add 1)=some tv:=g6.cell 1 rfl;have g8:=g2.upd e' c9;have h5:=e'.upd c9;refine zh ?_
 refine zlp (fun z:Nat×(Nat->Nat)×World×List (Int×Int)×List Nat×List K2×Nat=>[(0,nP sb),(2,.map (some r)),(14,tv),(15,nI a0.length),(16,nI z.1)]) (fun z=>z.2.2.1) (fun z=>z.1<=a0.length/\IP (fun q=>1<=q/\q<=3\/10<=q) O w z.2.1 z.2.2.1/\JY B z.2.1 z.2.2.1/\JM z.2.1 z.2.2.1 1 sb #[nv,tv,nS,bv,.map (some sr),.map (some tr),nI ((z.2.2.2.2.2.2:Nat):Int)] 201/\Jm aN 3 1 z.2.1 z.2.2.1 2 bv z.2.2.2.2.1/\MpR 10 3 z.2.1 z.2.2.1 sr z.2.2.2.2.2.1/\JC (fun k:Int=>.int .u64 k) (fun v:Int=>nI v) z.2.1 z.2.2.1 2000 r z.2.2.2.1/\FI (nth a0) a0.length z.1 z.2.2.2.1 z.2.2.2.2.1 z.2.2.2.2.2.1 z.2.2.2.2.2.2) (fun z=>a0.length-z.1) (0,O1,w1,[],ln a0.length 0,[],0) (⟨I1 _,c9.mono (fun _ h=>zo) zd,h',g6,e6.upd c9 zd zd,⟨g'.map.upd c9 zd zd,fun k hk=>absurd hk (I4 k)⟩,i2,CI _ _⟩) ?_;rintro⟨i,O2,w2,D,bl,E,many⟩ ⟨hi,c8,d9,b3,a1,a8,d3,hF⟩;dsimp only at hi c8 d9 b3 a1 a8 d3 hF ⊢;have e1:=g2.upd e' c8;have i4:=hF.blen;have g4:many<=i:=hF.mi;refine zh ?_
 refine zC ?_ ?_
 ·intro a3;replace a3:i<a0.length:=dT a3;have m1:w2.cell? (adr tv 1 i)=some (.int .u64 ((nth a0 i:Nat):Int)):=by have:=e1.cell (i:=i) (j:=0) a3 rfl;rwa[ay]at this
  have g3:=hF.rowsN;refine zh ?_
  cases d0:bm D ((nth a0 i:Nat):Int)with
  |some b=>
   have e8:=hF.old a3 d0;obtain⟨k,rfl,hk,_⟩:=hF.old a3 d0 (nS);have f9:∀v,FI (nth a0) a0.length (i+1) D (bl.set i k) (cx E (k:Int) (v,dj E (k:Int)++[i])) many:=fun v=>by
    obtain⟨k',e,_,h⟩:=e8 v;obtain rfl:k=k':=zo;exact h
   have h1:=g3 k;have h0:=vo E (k:Int);have h6:=hF.keys.len;refine zvH (cG (u:=.tuple #[nI (k:Int),.bool true]) d3 KF GR (IY _) ((nth a0 i:Nat):Int) rfl rfl rfl (by rw[d0];rfl)) ?_;refine aR rfl rfl ?_;have e0:=LB a1;have i3:La w2 (nA sb 3)=some bv:=Lr b3 3 rfl;refine zh ?_;refine Jt a1 i zo (k:Nat) (I8 _) rfl zd rfl rfl rfl rfl ?_;intro wa a' b0;have d7:=JU b3 b0 zd zd;have b8:=LF a8 b0 zd zd zd (fun _=>zo);have f6:=Ka d9 b0;have c7:=Lw d3 b0 zd zd;refine zh ?_;have d1:wa.drew.cell? (nA sb 4)=some (.map (some sr)):=d7.cell 4 rfl;have a5:IP (fun _=>False) O2 wa O2 wa.drew:=aa (fun h=>h) O2 (I9 wa).drew;have d2:=b8.upd a5 zd zd (fun h=>h) (fun _ h=>h);refine aL (fun W=>W.cell? (nA sb 4)=some (.map (some sr))) 15 rfl zk ?_;refine zrm 0 rfl d1 rfl ?_;refine zr 1 rfl d1 (fun _=>ao rfl) ?_;refine zrf 2 rfl d1 rfl ?_;refine zt 3 rfl d1 (fun w1 b4=>RV.ld b4 rfl) ?_;refine zrm 4 rfl d1 rfl ?_;refine zrm 5 rfl d1 rfl ?_;refine zr 6 rfl d1 (fun _=>ao rfl) ?_;refine zrf 7 rfl d1 rfl ?_;refine zt 8 rfl d1 (fun w1 b4=>RV.ld b4 rfl) ?_;refine zrm 9 rfl d1 rfl ?_;refine zrm 11 rfl d1 rfl ?_
   refine il 10 12 jJ (enc:=aN) i rfl rfl zk zk zk zk (fun W hE=>J9 (d2.upd (aa (S:=fun _=>False) (fun h=>h) O2 hE) zd zd (fun h=>h) (fun _ h=>h)).map J1 oZ (K4 _) ((k:Nat):Int) rfl rfl rfl (lF E _)) (fun W hE=>hE.cell d1) rfl rfl rfl zd rfl rfl rfl rfl rfl ?_;intro g7 wb b7 f';have a4:IP (fun _=>False) O2 wa.drew O2 wb:=aa (fun h=>h) O2 f';have b':=d2.upd a4 zd zd (fun h=>h) (fun _ h=>h);refine IW 13 zk rfl ?_
   refine aC jJ (b'.at ((k:Nat):Int)) ((f6.upd a5).upd a4) b7 (by simp) rfl rfl (by simp) (by simp[I2]) (by rw[IE];omega) (by rw[IE];omega) zo rfl ?_;intro vc wc Oc e7 a7 f5;have d6:=((d7.upd a5 zd (fun h=>h)).upd a4 zd (fun h=>h)).upd a7 zd zo;refine zh ?_
   refine ae (d6.cell 4 rfl) ?_;refine IW 14 zk rfl ?_
   refine J5 (b'.map.upd a7 zd zo) J1 oZ zd ((k:Nat):Int) vc rfl rfl rfl rfl rfl ?_;intro wd e9 a6;have d5:=d6.upd a6 zd zd;have b9:=b'.put ((k:Nat):Int) zd zd a7 e7 e9 a6;refine zh ?_
   refine ae (d5.cell 4 rfl) ?_;have f3:IP (fun q=>1<=q/\q<=3\/10<=q) O2 w2 Oc wd:=((((b0.mono (fun _ h=>zo) zd).trans (a5.mono (fun _ h=>h.elim) zd)).trans (a4.mono (fun _ h=>h.elim) zd)).trans (a7.mono (fun _ h=>zo) zd)).trans (a6.mono (fun _ h=>zo) zd);have a9:=(((a'.upd a5 zd (fun h=>h)).upd a4 zd (fun h=>h)).upd a7 zd zo).upd a6 zd zd;have c5:=(((c7.upd a5 zd (fun h=>h)).upd a4 zd (fun h=>h)).upd a7 zd zo).upd a6 zd zd;refine JR zk ?_
   refine zh ?_;refine zxd (i+1,Oc,wd,D,bl.set i k,cx E ((k:Nat):Int) (vc,dj E ((k:Nat):Int)++[i]),many) (⟨a3,c8.trans f3,f5.upd a6,d5,a9,b9,c5,f9 vc⟩)
  |none=>
   have f9:=hF.new a3 d0;have h1:=g3 many;have h0:=vo E (many:Int);have h6:=hF.keys.len;refine zvH (cG (u:=.tuple #[nI 0,.bool false]) d3 KF GR (IY _) ((nth a0 i:Nat):Int) rfl rfl rfl (by rw[d0];rfl)) ?_;refine aO rfl rfl ?_;have c6:w2.cell? (nA sb 6)=some (nI (many:Nat)):=b3.cell 6 rfl;refine zh ?_;refine J5 d3 KF GR zd ((nth a0 i:Nat):Int) (many:Int) rfl rfl rfl rfl rfl ?_;intro w3 i1 a2;have d':=b3.upd a2 zd zd;have c':=a1.upd a2 zd zd;have e5:MpR 10 3 O2 w3 sr E:=⟨a8.map.upd a2 zd zd,fun k hk=>(a8.row k hk).upd a2 zo (by have:=hF.keys.len;omega)⟩
   have h9:=d9.upd a2;have i5:w3.cell? (nA sb 6)=some (nI (many:Nat)):=d'.cell 6 rfl;refine zh ?_;refine aj (j:=6) d' rfl (I8 _) rfl rfl rfl rfl ?_;have b1:IP (fun j=>j=1) O2 w3 O2 (w3.setCell ⟨sb,6,none⟩ (nI ((many:Int)+1))):=JA zd d'.tag rfl;have g5:JM O2 (w3.setCell ⟨sb,6,none⟩ (nI ((many:Int)+1))) 1 sb #[nv,tv,nS,bv,.map (some sr),.map (some tr),nI ((many+1:Nat):Int)] 201:=d'.set 6 _;have b2:=c'.upd b1 zd zd;have e4:=e5.upd b1 zd zd zd (fun _=>zo);have h8:=h9.upd b1;have i0:=i1.upd b1 zd zd;have f4:=(c8.trans (a2.mono (fun _ h=>zo) zd)).trans (b1.mono (fun _ h=>zo) zd);generalize w3.setCell ⟨sb,6,none⟩ (nI ((many:Int)+1))=w4 at *;have e0:=LB b2;have i3:La w4 (nA sb 3)=some bv:=Lr g5 3 rfl;refine zh ?_;refine Jt b2 i zo (many:Nat) (I8 _) rfl zd rfl rfl rfl rfl ?_;intro wa a' b0;have d7:=JU g5 b0 zd zd;have b8:=LF e4 b0 zd zd zd (fun _=>zo);have f6:=Ka h8 b0;have c7:=Lw i0 b0 zd zd;refine zh ?_;have d1:wa.drew.cell? (nA sb 4)=some (.map (some sr)):=d7.cell 4 rfl;have a5:IP (fun _=>False) O2 wa O2 wa.drew:=aa (fun h=>h) O2 (I9 wa).drew;have d2:=b8.upd a5 zd zd (fun h=>h) (fun _ h=>h);refine aL (fun W=>W.cell? (nA sb 4)=some (.map (some sr))) 15 rfl zk ?_;refine zrm 0 rfl d1 rfl ?_;refine zr 1 rfl d1 (fun _=>ao rfl) ?_;refine zrf 2 rfl d1 rfl ?_;refine zt 3 rfl d1 (fun w1 b4=>RV.ld b4 rfl) ?_;refine zrm 4 rfl d1 rfl ?_;refine zrm 5 rfl d1 rfl ?_
   refine zr 6 rfl d1 (fun _=>ao rfl) ?_;refine zrf 7 rfl d1 rfl ?_
   refine zt 8 rfl d1 (fun w1 b4=>RV.ld b4 rfl) ?_;refine zrm 9 rfl d1 rfl ?_
   refine zrm 11 rfl d1 rfl ?_;refine il 10 12 jJ (enc:=aN) i rfl rfl zk zk zk zk (fun W hE=>J9 (d2.upd (aa (S:=fun _=>False) (fun h=>h) O2 hE) zd zd (fun h=>h) (fun _ h=>h)).map J1 oZ (K4 _) ((many:Nat):Int) rfl rfl rfl (lF E _)) (fun W hE=>hE.cell d1) rfl rfl rfl zd rfl rfl rfl rfl rfl ?_
   intro g7 wb b7 f';have a4:IP (fun _=>False) O2 wa.drew O2 wb:=aa (fun h=>h) O2 f';have b':=d2.upd a4 zd zd (fun h=>h) (fun _ h=>h);refine IW 13 zk rfl ?_;refine aC jJ (b'.at ((many:Nat):Int)) ((f6.upd a5).upd a4) b7 (by simp) rfl rfl (by simp) (by simp[I2]) (by rw[IE];omega) (by rw[IE];omega) zo rfl ?_;intro vc wc Oc e7 a7 f5;have d6:=((d7.upd a5 zd (fun h=>h)).upd a4 zd (fun h=>h)).upd a7 zd zo;refine zh ?_;refine ae (d6.cell 4 rfl) ?_;refine IW 14 zk rfl ?_;refine J5 (b'.map.upd a7 zd zo) J1 oZ zd ((many:Nat):Int) vc rfl rfl rfl rfl rfl ?_;intro wd e9 a6;have d5:=d6.upd a6 zd zd;have b9:=b'.put ((many:Nat):Int) zd zd a7 e7 e9 a6;refine zh ?_;refine ae (d5.cell 4 rfl) ?_;have f3:IP (fun q=>1<=q/\q<=3\/10<=q) O2 w4 Oc wd:=((((b0.mono (fun _ h=>zo) zd).trans (a5.mono (fun _ h=>h.elim) zd)).trans (a4.mono (fun _ h=>h.elim) zd)).trans (a7.mono (fun _ h=>zo) zd)).trans (a6.mono (fun _ h=>zo) zd);have a9:=(((a'.upd a5 zd (fun h=>h)).upd a4 zd (fun h=>h)).upd a7 zd zo).upd a6 zd zd;have c5:=(((c7.upd a5 zd (fun h=>h)).upd a4 zd (fun h=>h)).upd a7 zd zo).upd a6 zd zd;refine JR zk ?_;refine zh ?_;refine zxd (i+1,Oc,wd,(cx D ((nth a0 i:Nat):Int) (many:Int)),bl.set i many,cx E ((many:Nat):Int) (vc,dj E ((many:Nat):Int)++[i]),(many+1)) (⟨a3,f4.trans f3,f5.upd a6,d5,a9,b9,c5,f9 vc⟩)
 intro h3;obtain rfl:i=a0.length:=dF h3;have c6:w2.cell? (nA sb 6)=some (nI (many:Nat)):=b3.cell 6 rfl;have e3:=g9.upd c8 zd zo;refine zh ?_;refine zlp (fun z:Nat×I0×List ((Int×Int)×Bool)=>[(0,nP sb),(68,nI (many:Nat)),(69,nI z.1)]) (fun z=>z.2.1) (fun z=>z.1<=many/\IP (fun q=>q=4) O2 w2 O2 z.2.1/\JC dM IF O2 z.2.1 4 tr z.2.2/\TdI z.2.2 many z.1 0) (fun z=>many-z.1) (0,w2,[]) (⟨I1 _,Jo zd _ _,e3,Bk _⟩) ?_;rintro⟨b,w3,g1⟩ ⟨hb,a2,b6,f8⟩;dsimp only at hb a2 b6 f8 ⊢;refine zh ?_;refine zC ?_ ?_
 ·intro a3;replace a3:b<many:=dT a3;refine zh ?_;refine zlp (fun y:Nat×I0×List ((Int×Int)×Bool)=>[(0,nP sb),(68,nI (many:Nat)),(69,nI (b:Nat)),(7,nI (b:Nat)),(72,nI y.1)]) (fun y=>y.2.1) (fun y=>y.1<=37/\IP (fun q=>q=4) O2 w2 O2 y.2.1/\JC dM IF O2 y.2.1 4 tr y.2.2/\TdI y.2.2 many b y.1) (fun y=>37-y.1) (0,w3,g1) (⟨I1 _,a2,b6,f8⟩) ?_;rintro⟨m,w4,g0⟩ ⟨hm,b1,b5,f7⟩;dsimp only at hm b1 b5 f7 ⊢;refine zh ?_;refine zC ?_ ?_
  ·intro d8;replace d8:m<37:=dT d8;have d4:w4.cell? (nA sb 5)=some (.map (some tr)):=(b3.upd b1 zd zd).cell 5 rfl;refine zh ?_;refine zv (dG JO (I8 _) (JV _) rfl rfl) ?_;refine J5 b5 KG Gq zd ((b:Int),(m:Int)) true rfl rfl rfl rfl rfl ?_;intro w5 e2 h7;refine zh ?_;refine zxd (m+1,w5,cx g0 ((b:Int),(m:Int)) true) (⟨d8,b1.trans h7,e2,f7.put a3 d8⟩)
  intro h2;obtain rfl:m=37:=dF h2;refine zh ?_;refine zxd (b+1,w4,g0) (⟨a3,b1,b5,f7.next⟩)
 intro h4;obtain rfl:b=many:=dF h4;refine zh ?_;refine aG rfl (⟨O2,D,bl,E,b,g1,(c8.mono (fun _ h=>zo) zd).trans (a2.mono (fun _ h=>zo) zd),d9.upd a2,b3.upd a2 zd zd,a1.upd a2 zd zd,a8.upd a2 zd zd zd (fun _=>zo),b6,hF,f8⟩)
end Go.Proofs.YtpfpmhhigheccaaGreatDoor
section
namespace Go.VL
open Go.Proofs
theorem uR{P:K6}{N:Nat}{ops:Array KQ}{Q:Lq->Act->I0->Prop}{a0:List KQ}{st:St}{w:I0}{t:JL}{p:String}{e:Array Edge}{d:Nat}{x y:Ld} 
  {T E:JL} {bytes:Nat} (he:Lj P T E 1 bytes) (z0:ix) (a3:(P.info? E).bind (·.zero)=some z0) (h1:z0.oneCell'=true) {B:Nat} {O:Nat->Nat} (r:JY B O w) (i:Nat) (a8:i≠0) (n:Nat) {kl kc:IntKind} {m1 m2:Int}
  (hx:ev st x=some (.int kl m1)) (hy:ev st y=some (.int kc m2)) (a7:m1=n) (a6:m2=n) (hb:bytes*n<=281474976710656) (b1:n<=9223372036854775807) (hd:KA d N=true)
  (h:∀w' O' v,Jm (fun x:ix=>[x]) E 1 O' w' i v (ln n z0)->IP (fun k=>k=i) O w O' w'->JY B O' w'->Js w w'->WL P N ops Q a0 ((d,v)::st) w') :
  WL P N ops Q (⟨some d,.makeSlice T x y,t,p,e,none⟩::a0) st w:=by
 obtain⟨a2,z,hi,hz,a5,a',b2⟩:=he.parts;have a4:z=z0:=by rw[hi]at a3;simpa[hz]using a3
 subst a4;subst a7;subst a6;have a9:z.cells = #[z]:=by cases z<;>first|rfl|simp[I2]at h1
 have b0:(a2.bytes:Int)*(n:Int)<=281474976710656:=by
  have h:((a2.bytes*n:Nat):Int)<=281474976710656:=by rw[a'];omega
  rwa[Int.natCast_mul]at h
 have a1:=run_make (P:=P) w T E a2 _ he.ht hi hz kl kc n n zo (Int.le_refl _) b0 zo;simp only[Int.toNat_natCast,a5,Nat.mul_one,a9]at a1;have hz:¬(fun k=>k=i) 0:=fun h=>a8 h.symm
 have u:=L4 (S:=fun k=>k=i) hz r (.cells (madeCells #[z] n) E) i;refine WL.val (v:=.slice (some ⟨w.heap.size,0,none⟩) n n) hd (fun a ha=>by simp only[execOp,ha.ev hx,ha.ev hy,Le,a1,KH];rfl) (h _ _ _ ⟨⟨?_,fun g hg=>?_⟩,fun a _=>rfl⟩ u (r.upd u) (Kd _ _))
 ·rw[List.length_replicate];have:=KN (base:=0) (size:=1) (e:=E) w (madeCells #[z] n) n (I1 _) (by simpa[maxLen]using b1) (by rw[size_madeCells];omega);rw[toList_madeCells_one]at this;have e2:(ln n z).flatMap (fun x=>[x])=ln n z:=by
   induction n with
   |zero=>rfl
   |succ n ih=>simp only[KI,JI];congr 1;simp[List.flatMap_replicate]
  rw[e2];exact this
 simp only[L3,Lp]at hg;subst hg;exact cT _ _ _
theorem Sl.free0{α:Type}[Inhabited α]{f:α->List ix}{sz:Nat}{w:I0}{v:ix}{xs:List α}(h:Sl f sz w v xs)(hf:∀a,f a≠[]):Kb (fun _=>0) w v:=fun a n c e hn=>by
 obtain⟨a',c',e1,_,_,e2⟩:=h.shape;subst e
 cases e1
 obtain⟨b,o,e3⟩:=e2 hn
 cases e3
 refine⟨rfl,?_⟩;have hl:0<xs.length:=Nat.pos_of_ne_zero hn
 cases hx:f xs[0]with
 |nil=>exact absurd hx (hf _)
 |cons u r=>
  have hc:=h.cells 0 hl 0 u (by rw[hx];rfl);have:=World.block_lt_of_cell? _ _ hc;have hb:((adr (.slice (some ⟨b,o,none⟩) xs.length c) sz 0).add 0).block=b:=by simp only[adr,Addr.add];split<;>rfl
  rwa[hb]at this
end Go.VL
namespace Go.Proofs.YtpfpmhhigheccaaGreatDoor
open Go.VL Go.Proofs
set_option maxRecDepth 10000
def RowsF(O:Nat->Nat)(w:I0)(v:ix)(rows:List (List Nat)):Prop:=∃vs,Sl yx 1 w v vs/\Kb O w v/\vs.length=rows.length/\∀i,i<rows.length->Sl aN 1 w (nth vs i) (nth rows i)/\Kb O w (nth vs i)
theorem RowsF.upd{S:Nat->Prop}{O O':Nat->Nat}{w w':I0}{v:ix}{rows:List (List Nat)}(h:RowsF O w v rows)(u:IP S O w O' w'):RowsF O' w' v rows:=by
 obtain⟨vs,h1,h2,h3,h4⟩:=h;exact⟨vs,h1.upd h2 u,h2.upd u,h3,fun i hi=>⟨(h4 i hi).1.upd (h4 i hi).2 u,(h4 i hi).2.upd u⟩⟩
theorem RowsN.free{w:I0}{v:ix}{rows:List (List Nat)}(h:Kw w v rows):RowsF (fun _=>0) w v rows:=by
 obtain⟨vs,h1,h2,h3⟩:=h;exact⟨vs,h1,h1.free0 (fun a=>by simp),h2,fun i hi=>⟨h3 i hi,(h3 i hi).free0 (fun a=>by simp)⟩⟩
def RowsG(B:Nat)(w:I0)(v:ix)(rows:List (List Nat)):Prop:=∃vs,Sl yx 1 w v vs/\Ky B v/\vs.length=rows.length/\∀i,i<rows.length->Sl aN 1 w (nth vs i) (nth rows i)/\Ky B (nth vs i)
theorem RowsG.rows{B:Nat}{w:I0}{v:ix}{rows:List (List Nat)}(h:RowsG B w v rows):Kw w v rows:=by
 obtain⟨vs,h1,h2,h3,h4⟩:=h;exact⟨vs,h1,h3,fun i hi=>(h4 i hi).1⟩
theorem RowsG.mono{B B':Nat}{w:I0}{v:ix}{rows:List (List Nat)}(h:RowsG B w v rows)(hb:B'<=B):RowsG B' w v rows:=by
 obtain⟨vs,h1,h2,h3,h4⟩:=h;exact⟨vs,h1,h2.mono hb,h3,fun i hi=>⟨(h4 i hi).1,(h4 i hi).2.mono hb⟩⟩
theorem RowsG.ext{B:Nat}{w w':I0}{v:ix}{rows:List (List Nat)}(h:RowsG B w v rows)(e:Js w w'):RowsG B w' v rows:=by
 obtain⟨vs,h1,h2,h3,h4⟩:=h;exact⟨vs,h1.ext e,h2,h3,fun i hi=>⟨(h4 i hi).1.ext e,(h4 i hi).2⟩⟩
theorem xN{n i:Nat}{nx:Nat->Nat}{to:Nat}(_:i<n):dE (i+1) nx to=dE i nx to++if nx i=to then [i]else []:=by
 unfold dE;rw[Jb,K1,KX]
 by_cases e:nx i=to
 ·rw[if_pos (by simpa using e),if_pos e];rfl
 rw[if_neg (by simpa using e),if_neg e];rfl
theorem AA(i:Nat)(nx:Nat->Nat)(to:Nat):(dE i nx to).length<=i:=by
 unfold dE;exact Kz (JT _ _) (by simp)
structure TuI(O:Nat->Nat)(W:I0)(sb:Nat)(nv tv fv bv:ix)(sr tr many n m:Nat)(nx:Nat->Nat->Nat)(ms:List ix)(vss:List (List ix)):Prop where
 blk:JM O W 1 sb #[nv,tv,fv,bv,.map (some sr),.map (some tr),nI ((many:Nat):Int)] 201
 row:Jm yx 89 1 O W 6 fv ms
 len:ms.length=m
 lenv:vss.length=m
 at_:∀j,j<m->Jm yx 25 1 O W 5 (nth ms j) (nth vss j)/\(nth vss j).length=n/\∀t,t<n->Jm aN 3 1 O W 5 (nth (nth vss j) t) (dE n (fun x=>nx x j) t)
theorem TuI.upd{S:Nat->Prop}{O O':Nat->Nat}{w w':I0}{sb:Nat}{nv tv fv bv:ix}{sr tr many n m:Nat}{nx:Nat->Nat->Nat}{ms:List ix}{a0:List (List ix)}(h:TuI O w sb nv tv fv bv sr tr many n m nx ms a0) 
  (u:IP S O w O' w') (h1:¬S 1) (h5:¬S 5) (h6:¬S 6):TuI O' w' sb nv tv fv bv sr tr many n m nx ms a0:=
 ⟨h.blk.upd u zd h1,h.row.upd u zd h6,h.len,h.lenv,fun j hj=>⟨(h.at_ j hj).1.upd u zd h5,(h.at_ j hj).2.1,fun t ht=>((h.at_ j hj).2.2 t ht).upd u zd h5⟩⟩
theorem F4:Lj IU 199 89 1 24:=⟨underlying199,by kernel_rfl,zd⟩
theorem sC(B:Nat)(O:Nat->Nat)(w:I0)(sb:Nat)(nv tv bv:ix)(sr tr many:Nat)(rows:List (List Nat))(e2:List Nat)(hR:JY B O w)(hB:JM O w 1 sb #[nv,tv,nS,bv,.map (some sr),.map (some tr),nI ((many:Nat):Int)] 201) 
  (hn:RowsF O w nv rows) (hr:Kx rows e2) (hT:∀q,O q<2000) (f8:∀q,O q≠6) :
  JZ IU 118 [nP sb] w fun _ w'=>
   ∃O' fv,IP (fun q=>q=1\/q=5\/q=6\/2000<=q) O w O' w'/\JY B O' w'/\JM O' w' 1 sb #[nv,tv,fv,bv,.map (some sr),.map (some tr),nI ((many:Nat):Int)] 201/\FromO O' w' 5 fv rows.length (nxD rows):=by
 have g5:=hr.le;obtain⟨vs,b4,a',g4,c9⟩:=hn;refine I3 func118 ntmps118 rfl rfl ?_;refine zh ?_;refine zlp (fun z:Nat×(Nat->Nat)×World×ix×List ix×List (List ix)=>[(0,nP sb),(6,nI z.1)]) (fun z=>z.2.2.1) (fun z=>z.1<=37/\IP (fun q=>q=1\/q=5\/q=6\/2000<=q) O w z.2.1 z.2.2.1/\JY B z.2.1 z.2.2.1/\TuI z.2.1 z.2.2.1 sb nv tv z.2.2.2.1 bv sr tr many rows.length z.1 (nxD rows) z.2.2.2.2.1 z.2.2.2.2.2) (fun z=>37-z.1) (0,O,w,nS,[],[]) (⟨I1 _,Jo zd _ _,hR,hB,IL _ _ _ _ _ _,rfl,rfl,fun j hj=>absurd hj (I4 j)⟩) ?_;rintro⟨m,O2,w2,fv,ms,c5⟩ ⟨hm,b8,d9,hI⟩;dsimp only at hm b8 d9 hI ⊢;refine zh ?_;refine zC ?_ ?_
 ·intro c6;replace c6:m<37:=dT c6;have e4:=b4.upd a' b8;have e6:=a'.upd b8;have c1:w2.cell? ((nA sb 0).add 0)=some nv:=hI.blk.cell 0 rfl;refine zh ?_;refine uR yy (nS) zk rfl d9 2000 zd rows.length rfl rfl zo zo zo zo rfl ?_;intro w3 O3 d' d5 d7 g0 g7;have e1:=hI.upd d7 zd zd zd;have e3:=e4.upd e6 d7;have c3:w3.cell? ((nA sb 0).add 0)=some nv:=e1.blk.cell 0 rfl;refine zh ?_;refine zlp (fun y:Nat×(Nat->Nat)×World×List ix=>[(0,nP sb),(2,nI (m:Nat)),(3,d'),(6,nI (m:Nat)),(20,nv),(21,nI vs.length),(22,nI y.1)]) (fun y=>y.2.2.1) (fun y=>y.1<=rows.length/\IP (fun q=>q=1\/q=5\/q=6\/2000<=q) O w y.2.1 y.2.2.1/\JY B y.2.1 y.2.2.1/\TuI y.2.1 y.2.2.1 sb nv tv fv bv sr tr many rows.length m (nxD rows) ms c5/\Jm yx 25 1 y.2.1 y.2.2.1 2000 d' y.2.2.2/\y.2.2.2.length=rows.length/\∀t,t<rows.length->Jm aN 3 1 y.2.1 y.2.2.1 (3000+t) (nth y.2.2.2 t) (dE y.1 (fun x=>nxD rows x m) t)) (fun y=>rows.length-y.1) (0,O3,w3,ln rows.length (nS)) (⟨I1 _,b8.trans (d7.mono (fun _ h=>zo) zd),g0,e1,d5,by simp,fun t ht=>by rw[aB (by simpa using ht)];simp only[List.getElem_replicate];exact IL _ _ _ _ _ _⟩) ?_;rintro⟨i,O4,w4,bs⟩ ⟨hi,b7,d8,a8,a0,b1,a6⟩;dsimp only at hi b7 d8 a8 a0 b1 a6 ⊢;have c8:=b4.upd a' b7;refine zh ?_;refine zC ?_ ?_
  ·intro b2;replace b2:i<rows.length:=dT b2;obtain⟨d2,b0⟩:=c9 i b2;have d1:=d2.upd b0 b7;obtain⟨r1,r2⟩:=hr.row i b2;obtain⟨to,b5⟩:∃to,to=nxD rows i m:=⟨_,rfl⟩
   have c':to<rows.length:=by rw[b5];exact r2 m c6
   have m1:w4.cell? (adr nv 1 i)=some (nth vs i):=by have:=c8.cell (i:=i) (j:=0) zo rfl;rwa[ay]at this
   refine zh ?_;have k1:w4.drew.cell? (adr (nth vs i) 1 m)=some (nI (to:Int)):=by have:=d1.cell (i:=m) (j:=0) zo rfl;rw[ay]at this;rw[b5];exact this
   have g1:w4.drew.cell? (adr d' 1 to)=some (nth bs to):=by have:=a0.sl.cell (i:=to) (j:=0) zo rfl;rwa[ay]at this
   have f7:IP (fun _=>False) O4 w4 O4 w4.drew:=aa (fun h=>h) O4 (I9 w4).drew;refine aL (fun W=>W.cell? (adr (nth vs i) 1 m)=some (nI (to:Int))) 17 rfl zk ?_;refine zrm 0 rfl k1 rfl ?_;refine zrm 1 rfl k1 rfl ?_;refine zrm 2 rfl k1 rfl ?_;refine zr 3 rfl k1 (fun _=>az d1.sh ka (I8 _) rfl rfl m rfl zo) ?_;refine zt 4 rfl k1 (fun w1 c7=>RV.ld c7 rfl) ?_;refine zrm 5 rfl k1 rfl ?_;refine zrm 6 rfl k1 rfl ?_;refine zrm 7 rfl k1 rfl ?_;refine zr 8 rfl k1 (fun _=>az d1.sh ka (I8 _) rfl rfl m rfl zo) ?_;refine zt 9 rfl k1 (fun w1 c7=>RV.ld c7 rfl) ?_;refine zr 10 rfl k1 (fun _=>az a0.sl.sh JW (K5 _) rfl rfl to rfl zo) ?_;refine zrm 12 rfl k1 rfl ?_;refine bO 11 13 jJ (enc:=aN) i rfl rfl zk zk zk zk (fun W hE=>LN (hE.cell g1) (isAgg25 _) rfl) (fun W hE=>hE.cell k1) rfl rfl rfl zd rfl rfl rfl rfl rfl ?_;intro g3 w5 d0 g2;have f6:IP (fun _=>False) O4 w4.drew O4 w5:=aa (fun h=>h) O4 g2;have a4:=f7.trans f6;have g6:=AA i (fun x=>nxD rows x m) to;refine IW 14 zk rfl ?_;refine aC jJ ((a6 to c').upd a4 zo (fun h=>h)) (d8.upd a4) d0 (by simp) rfl rfl (by simp) (by simp[I2]) (by rw[IE];omega) (by rw[IE];omega) zo rfl ?_;intro v6 w6 O6 e0 a5 f9
   have a7:IP (fun q=>q=1\/q=5\/q=6\/2000<=q) O w O6 w6:=(b7.trans (a4.mono (fun _ h=>h.elim) zd)).trans (a5.mono (fun _ h=>zo) zd);have k6:w6.cell? (adr (nth vs i) 1 m)=some (nI (to:Int)):=by have:=(d2.upd b0 a7).cell (i:=m) (j:=0) zo rfl;rw[ay]at this;rw[b5];exact this
   have d4:=(a0.upd a4 zd (fun h=>h)).upd a5 zd zo;refine zh ?_;refine ae (k6) ?_;refine zr 15 rfl (k6) (fun _=>az a0.sl.sh JW (K5 _) rfl rfl to rfl zo) ?_;refine IW 16 zk rfl ?_;refine Jt d4 to zo v6 (K5 _) e0.one zd rfl rfl rfl rfl ?_;intro w7 d3 b6;have b9:IP (fun q=>q=1\/q=5\/q=6\/2000<=q) O w O6 w7:=a7.trans (b6.mono (fun _ h=>zo) zd);have k7:w7.cell? (adr (nth vs i) 1 m)=some (nI (to:Int)):=by have:=(d2.upd b0 b9).cell (i:=m) (j:=0) zo rfl;rw[ay]at this;rw[b5];exact this
   refine zh ?_;refine ae (k7) ?_
   refine JR zk ?_;refine zh ?_
   refine zxd (i+1,O6,w7,bs.set to v6) (⟨b2,b9,f9.upd b6,((a8.upd a4 (fun h=>h) (fun h=>h) (fun h=>h)).upd a5 zo zo zo).upd b6 zd zd zd,d3,by dsimp only;rw[J4];exact b1,fun t ht=>?_⟩)
   ·dsimp only;rw[xN b2,aT zo,<-b5]
    by_cases e:t=to
    ·subst e;rw[if_pos rfl,if_pos rfl];exact e0.upd b6 zo zo
    rw[if_neg e,if_neg (fun h=>e h.symm),Kh];exact(((a6 t ht).upd a4 zo (fun h=>h)).upd a5 zo zo).upd b6 zo zo
  intro e9;obtain rfl:i=rows.length:=dF e9;obtain⟨ba,bc,e',_⟩:=a0.sl.shape;subst e';have e7:=a8.len;have f4:w4.cell? (nA sb 2)=some fv:=a8.blk.cell 2 rfl;refine zh ?_;refine Jg F4 a8.row d8 ((.slice ba bs.length bc:ix)) (fun _=>rfl) rfl rfl rfl (by simp[I2]) zo zo zo zd rfl rfl ?_;intro b' w5 O5 a9 b3 f';have d6:=a8.blk.upd b3 zd zd;refine zh ?_;refine aj (j:=2) d6 rfl (sizeOf199 _) a9.one rfl rfl rfl ?_;have a5:IP (fun j=>j=1) O5 w5 O5 (w5.setCell ⟨sb,2,none⟩ b'):=JA zd d6.tag rfl;have f3:JM O5 (w5.setCell ⟨sb,2,none⟩ b') 1 sb #[nv,tv,b',bv,.map (some sr),.map (some tr),nI ((many:Nat):Int)] 201:=d6.set 2 _;generalize w5.setCell ⟨sb,2,none⟩ b'=w6 at *;have a7:IP (fun q=>q=1\/q=5\/q=6\/2000<=q) O w O5 w6:=(b7.trans (b3.mono (fun _ h=>zo) zd)).trans (a5.mono (fun _ h=>zo) zd);obtain⟨f,hf⟩:∃f:Nat->Nat,f=fun t=>if 2000<=t then 5 else t:=⟨_,rfl⟩
  have f2:∀t,t<2000->f t=t:=fun t ht=>by rw[hf];exact if_neg zo
  have f5:∀t,2000<=t->f t=5:=fun t ht=>by rw[hf];exact if_pos ht
  refine zh ?_;refine zxd (m+1,reF f O5,w6,b',ms++[.slice ba bs.length bc],c5++[bs]) (⟨c6,a7.re f (f2 0 zd) (fun b _=>f2 _ (hT b)),(f'.upd a5).re f (f2 0 zd),⟨f3.re f (f2 1 zd),(a9.upd a5 zd zd).re f (f2 6 zd),by simp[e7],by simp[a8.lenv],fun j hj=>?_⟩⟩)
  ·have e5:=a8.lenv;rw[aA,aA]
   by_cases e:j<m
   ·rw[if_pos zo,if_pos zo];obtain⟨a1,a2,a3⟩:=a8.at_ j e;exact⟨((a1.upd b3 zd zd).upd a5 zd zd).re f (f2 5 zd),a2,fun t ht=>(((a3 t ht).upd b3 zd zd).upd a5 zd zd).re f (f2 5 zd)⟩
   obtain rfl:j=m:=zo;rw[if_neg zo,if_neg zo,show j-ms.length=0 from by omega,show j-c5.length=0 from by omega,ax,ax];exact⟨((a0.upd b3 zd zd).upd a5 zd zd).re f (f5 _ zd),b1,fun t ht=>(((a6 t ht).upd b3 zo zo).upd a5 zo zo).re f (f5 _ zo)⟩
 intro e8;obtain rfl:m=37:=dF e8;refine zh ?_;refine aG rfl (⟨reF (DE 6 5) O2,fv,b8.re _ rfl (fun b _=>ql (f8 b)),d9.re _ rfl,hI.blk.re _ rfl,⟨ms,c5,hI.row.re _ rfl,hI.len,fun m hm=>⟨(hI.at_ m hm).1.re _ rfl,(hI.at_ m hm).2.1,fun t ht=>((hI.at_ m hm).2.2 t ht).re _ rfl⟩⟩⟩)
end Go.Proofs.YtpfpmhhigheccaaGreatDoor
end
namespace Go.VL
theorem Fits.look{N:Nat}{a:Act}{st a0:St}(h:Fits N a st)(hs:∀t,cf a0 t=cf st t):Fits N a a0:=⟨h.size,h.defers,fun t v hv=>h.get t v ((hs t).symm.trans hv)⟩
theorem eS{d1 d2 d3:Nat}(v1 v2 v3:ix)(st:St)(a2:JP d1 d2=false)(a1:JP d1 d3=false)(a0:JP d2 d3=false)(t:Nat):
  (cf ((d3,v3)::(d2,v2)::(d1,v1)::st) t=cf ((d2,v2)::(d3,v3)::(d1,v1)::st) t)/\(cf ((d3,v3)::(d2,v2)::(d1,v1)::st) t=cf ((d3,v3)::(d1,v1)::(d2,v2)::st) t)/\
  (cf ((d3,v3)::(d2,v2)::(d1,v1)::st) t=cf ((d1,v1)::(d3,v3)::(d2,v2)::st) t)/\(cf ((d3,v3)::(d2,v2)::(d1,v1)::st) t=cf ((d2,v2)::(d1,v1)::(d3,v3)::st) t)/\(cf ((d3,v3)::(d2,v2)::(d1,v1)::st) t=cf ((d1,v1)::(d2,v2)::(d3,v3)::st) t):=by
 simp only[cf]
 cases h1:JP d1 t<;>cases h2:JP d2 t<;>cases h3:JP d3 t<;>simp only[cond_true,cond_false,and_self] <;>
  first
  |(have e1:=J2 h1;have e2:=J2 h2;subst e1;subst e2;rw[KB]at a2;cases a2)
  |(have e1:=J2 h1;have e2:=J2 h3;subst e1;subst e2;rw[KB]at a1;cases a1)
  |(have e1:=J2 h2;have e2:=J2 h3;subst e1;subst e2;rw[KB]at a0;cases a0)
theorem Bh{P:K6}{N:Nat}{ops:Array KQ}{S:I0->Prop}{Q:Lq->Act->I0->Prop}{st:St}{w:I0}{a1:Nat}{a0:Array Bool}(i j k:Nat){o o' o2:KQ}(hr:Jd .any ops a0=[i,j,k])(hi:ops[i]? = some o)(hj:ops[j]? = some o')(hk:ops[k]? = some o2) 
  (h:WL P N ops (qX P ops S Q a1 (a0.setIfInBounds i true)) [o] st w) (h':WL P N ops (qX P ops S Q a1 (a0.setIfInBounds j true)) [o'] st w) (h2:WL P N ops (qX P ops S Q a1 (a0.setIfInBounds k true)) [o2] st w):WH P N ops S Q (a1+1) a0 st w:=
 WH.all [i,j,k] hr (by simp) fun m hm q hq=>by
  simp only[I7,List.not_mem_nil,or_false]at hm
  rcases hm with rfl|rfl|rfl
  ·rw[hi]at hq;cases hq;exact h
  ·rw[hj]at hq;cases hq;exact h'
  rw[hk]at hq;cases hq;exact h2
theorem yp{P:K6}{N:Nat}{ops:Array KQ}{S:I0->Prop}{Q:Lq->Act->I0->Prop}{st:St}{w:I0}{b9:Nat}{a0:Array Bool}{T E T2 T3:JL}{a5:Nat}{x y:Ld} 
  {t t2 t3:JL} {p p2 p3:String} {e e2 e3:Array Edge} {d1 d2 d3:Nat} (i j k:Nat) (he:Lj P T E 1 a5) {α:Type} {val:α->ix} (z0:α) (b1:(P.info? E).bind (·.zero)=some (val z0)) (h1:∀a,(val a).oneCell'=true)
  {κ ν κ' ν':Type} (kv:κ->ix) (vv:ν->ix) (a8:κ'->ix) (a6:ν'->ix) {B:Nat} {O:Nat->Nat} (r:JY B O w) (g1 g2 g3:Nat) (a3:g1≠0) (a2:g2≠0) (a1:g3≠0) (b0:g1≠g2) (a':g1≠g3) (a9:g2≠g3) (n:Nat)
  (hi:ops[i]? = some ⟨some d1,.makeSlice T x y,t,p,e,none⟩) (hj:ops[j]? = some ⟨some d2,.makeMap T2 none,t2,p2,e2,none⟩) (hk:ops[k]? = some ⟨some d3,.makeMap T3 none,t3,p3,e3,none⟩)
  (hr:Jd .any ops a0=[i,j,k]) (d5:Jd .any ops (a0.setIfInBounds i true)=[j,k]) (d4:Jd .any ops (a0.setIfInBounds j true)=[i,k]) (d0:Jd .any ops (a0.setIfInBounds k true)=[i,j])
  (b4:Jd .any ops ((a0.setIfInBounds i true).setIfInBounds j true)=[k]) (b3:Jd .any ops ((a0.setIfInBounds i true).setIfInBounds k true)=[j]) (b2:Jd .any ops ((a0.setIfInBounds j true).setIfInBounds k true)=[i])
  (c':(a0.setIfInBounds j true).setIfInBounds i true=(a0.setIfInBounds i true).setIfInBounds j true) (c9:(a0.setIfInBounds k true).setIfInBounds i true=(a0.setIfInBounds i true).setIfInBounds k true) (c8:(a0.setIfInBounds k true).setIfInBounds j true=(a0.setIfInBounds j true).setIfInBounds k true)
  (q1:((a0.setIfInBounds i true).setIfInBounds k true).setIfInBounds j true=((a0.setIfInBounds i true).setIfInBounds j true).setIfInBounds k true) (q2:((a0.setIfInBounds j true).setIfInBounds k true).setIfInBounds i true=((a0.setIfInBounds i true).setIfInBounds j true).setIfInBounds k true)
  (hS:∀O' W,IP (fun q=>q=g1\/q=g2\/q=g3) O w O' W->S W) {m:Int} (hx:∀l,evs ((d2,l)::st) [x,y]=some [nI m,nI m]/\evs ((d3,l)::st) [x,y]=some [nI m,nI m]/\evs st [x,y]=some [nI m,nI m]/\(∀l',evs ((d3,l')::(d2,l)::st) [x,y]=some [nI m,nI m])/\∀l',evs ((d2,l')::(d3,l)::st) [x,y]=some [nI m,nI m])
  (hm:m=n) (hb:a5*n<=281474976710656) (b8:n<=9223372036854775807) (b7:KA d1 N=true) (b6:KA d2 N=true) (b5:KA d3 N=true) (c6:JP d1 d2=false) (c5:JP d1 d3=false) (b':JP d2 d3=false)
  (h:∀bv sr tr W O',Jm (fun x=>[val x]) E 1 O' W g1 bv (ln n z0)->JC kv vv O' W g2 sr []->JC a8 a6 O' W g3 tr []->IP (fun q=>q=g1\/q=g2\/q=g3) O w O' W->JY B O' W->
   WH P N ops S Q b9 (((a0.setIfInBounds i true).setIfInBounds j true).setIfInBounds k true) ((d3,.map (some tr))::(d2,.map (some sr))::(d1,bv)::st) W):WH P N ops S Q (b9+3) a0 st w:=by
 have two:∀ {a7:St} {m:Int},evs a7 [x,y]=some [nI m,nI m]->ev a7 x=some (nI m)/\ev a7 y=some (nI m):=fun {a7 m} h=>by
  simp only[evs]at h
  cases h1:ev a7 x<;>cases h2:ev a7 y<;>rw[h1,h2]at h<;>simp at h ⊢
  exact h
 have c7:¬(fun q=>q=g1\/q=g2\/q=g3) 0:=by rintro(h|h|h)<;>omega
 have o1:∀ {O O':Nat->Nat} {w w':I0},IP (fun q=>q=g1) O w O' w'->IP (fun q=>q=g1\/q=g2\/q=g3) O w O' w':=fun h=>h.mono (fun _ h=>.inl h) c7
 have o2:∀ {O O':Nat->Nat} {w w':I0},IP (fun q=>q=g2) O w O' w'->IP (fun q=>q=g1\/q=g2\/q=g3) O w O' w':=fun h=>h.mono (fun _ h=>.inr (.inl h)) c7
 have o3:∀ {O O':Nat->Nat} {w w':I0},IP (fun q=>q=g3) O w O' w'->IP (fun q=>q=g1\/q=g2\/q=g3) O w O' w':=fun h=>h.mono (fun _ h=>.inr (.inr h)) c7
 refine Bh i j k hr hi hj hk ?_ ?_ ?_
 ·refine cZ he z0 b1 h1 r g1 a3 n (two ((hx default).2.2.1)).1 (two ((hx default).2.2.1)).2 hm hm hb b8 b7 fun wr Or vr _ fr ur rr _=>IH (ae (hS Or wr (o1 ur)) ?_)
  refine bI j k d5 hj hk ?_ ?_
  ·refine bd kv vv rr g2 a2 b6 fun va wa Oa fa ua ra=>IH (ae (hS Oa wa ((o1 ur).trans (o2 ua))) ?_)
   refine IW k b4 hk ?_;refine bd a8 a6 ra g3 a1 b5 fun vb wb Ob fb ub rb=>IH (ae (hS Ob wb (((o1 ur).trans (o2 ua)).trans (o3 ub))) ?_)
   exact h vr va vb wb Ob ((fr.upd ua a3 b0).upd ub a3 a') (fa.upd ub a2 a9) fb (((o1 ur).trans (o2 ua)).trans (o3 ub)) rb
  refine bd a8 a6 rr g3 a1 b5 fun vb wb Ob fb ub rb=>IH (ae (hS Ob wb ((o1 ur).trans (o3 ub))) ?_)
  refine IW j b3 hj ?_;refine bd kv vv rb g2 a2 b6 fun va wa Oa fa ua ra=>IH (ae (hS Oa wa (((o1 ur).trans (o3 ub)).trans (o2 ua))) ?_)
  exact by rw[q1];exact fun ac a4=>h vr va vb wa Oa ((fr.upd ub a3 a').upd ua a3 b0) fa (fb.upd ua a1 (fun h=>a9 h.symm)) (((o1 ur).trans (o3 ub)).trans (o2 ua)) ra ac (a4.look fun t=>(eS vr (.map (some va)) (.map (some vb)) st c6 c5 b' t).1)
 ·refine bd kv vv r g2 a2 b6 fun va wa Oa fa ua ra=>IH (ae (hS Oa wa (o2 ua)) ?_)
  refine bI i k d4 hi hk ?_ ?_
  ·refine cZ he z0 b1 h1 ra g1 a3 n (two ((hx _).1)).1 (two ((hx _).1)).2 hm hm hb b8 b7 fun wr Or vr _ fr ur rr _=>IH (ae (hS Or wr ((o2 ua).trans (o1 ur))) ?_)
   refine IW k (by rw[c'];exact b4) hk ?_;refine bd a8 a6 rr g3 a1 b5 fun vb wb Ob fb ub rb=>IH (ae (hS Ob wb (((o2 ua).trans (o1 ur)).trans (o3 ub))) ?_)
   exact by rw[c'];exact fun ac a4=>h vr va vb wb Ob (fr.upd ub a3 a') ((fa.upd ur a2 (fun h=>b0 h.symm)).upd ub a2 a9) fb (((o2 ua).trans (o1 ur)).trans (o3 ub)) rb ac (a4.look fun t=>(eS vr (.map (some va)) (.map (some vb)) st c6 c5 b' t).2.1)
  refine bd a8 a6 ra g3 a1 b5 fun vb wb Ob fb ub rb=>IH (ae (hS Ob wb ((o2 ua).trans (o3 ub))) ?_)
  refine IW i b2 hi ?_;refine cZ he z0 b1 h1 rb g1 a3 n (two ((hx _).2.2.2.1 _)).1 (two ((hx _).2.2.2.1 _)).2 hm hm hb b8 b7 fun wr Or vr _ fr ur rr _=>IH (ae (hS Or wr (((o2 ua).trans (o3 ub)).trans (o1 ur))) ?_)
  exact by rw[q2];exact fun ac a4=>h vr va vb wr Or fr ((fa.upd ub a2 a9).upd ur a2 (fun h=>b0 h.symm)) (fb.upd ur a1 (fun h=>a' h.symm)) (((o2 ua).trans (o3 ub)).trans (o1 ur)) rr ac (a4.look fun t=>(eS vr (.map (some va)) (.map (some vb)) st c6 c5 b' t).2.2.1)
 refine bd a8 a6 r g3 a1 b5 fun vb wb Ob fb ub rb=>IH (ae (hS Ob wb (o3 ub)) ?_)
 refine bI i j d0 hi hj ?_ ?_
 ·refine cZ he z0 b1 h1 rb g1 a3 n (two ((hx _).2.1)).1 (two ((hx _).2.1)).2 hm hm hb b8 b7 fun wr Or vr _ fr ur rr _=>IH (ae (hS Or wr ((o3 ub).trans (o1 ur))) ?_)
  refine IW j (by rw[c9];exact b3) hj ?_;refine bd kv vv rr g2 a2 b6 fun va wa Oa fa ua ra=>IH (ae (hS Oa wa (((o3 ub).trans (o1 ur)).trans (o2 ua))) ?_)
  exact by rw[c9,q1];exact fun ac a4=>h vr va vb wa Oa (fr.upd ua a3 b0) fa ((fb.upd ur a1 (fun h=>a' h.symm)).upd ua a1 (fun h=>a9 h.symm)) (((o3 ub).trans (o1 ur)).trans (o2 ua)) ra ac (a4.look fun t=>(eS vr (.map (some va)) (.map (some vb)) st c6 c5 b' t).2.2.2.1)
 refine bd kv vv rb g2 a2 b6 fun va wa Oa fa ua ra=>IH (ae (hS Oa wa ((o3 ub).trans (o2 ua))) ?_)
 refine IW i (by rw[c8];exact b2) hi ?_;refine cZ he z0 b1 h1 ra g1 a3 n (two ((hx _).2.2.2.2 _)).1 (two ((hx _).2.2.2.2 _)).2 hm hm hb b8 b7 fun wr Or vr _ fr ur rr _=>IH (ae (hS Or wr (((o3 ub).trans (o2 ua)).trans (o1 ur))) ?_)
 exact by rw[c8,q2];exact fun ac a4=>h vr va vb wr Or fr (fa.upd ur a2 (fun h=>b0 h.symm)) ((fb.upd ua a1 (fun h=>a9 h.symm)).upd ur a1 (fun h=>a' h.symm)) (((o3 ub).trans (o2 ua)).trans (o1 ur)) rr ac (a4.look fun t=>(eS vr (.map (some va)) (.map (some vb)) st c6 c5 b' t).2.2.2.2)
theorem tp{P:K6}{N:Nat}{ops:Array KQ}{S:I0->Prop}{Q:Lq->Act->I0->Prop}{st:St}{w:I0}{a3:Nat}{a1:Array Bool}{α:Type}(f:α->St)(g:α->I0)(I:α->Prop)(a0:Array Bool)(a2:Nat) 
 (h1:(∀x,I x->WH P N ops S Q a2 a0 (f x) (g x))->WH P N ops S Q a3 a1 st w) (h2:∀x,I x->WH P N ops S Q a2 a0 (f x) (g x)):WH P N ops S Q a3 a1 st w:=h1 h2
theorem WH.leaf{P:K6}{N:Nat}{ops:Array KQ}{S:I0->Prop}{Q:Lq->Act->I0->Prop}{st a3:St}{w w':I0}{a2:Nat}{a1 a0:Array Bool}(h:WH P N ops S Q a2 a0 a3 w')(hl:a1=a0)(hc:Cov st a3)(hw:w'=w):WH P N ops S Q a2 a1 st w:=by
 subst hl;subst hw;exact fun a ha=>h a (ha.cov hc)
end Go.VL
namespace Go.Proofs.YtpfpmhhigheccaaGreatDoor
theorem D6{E:List K2}(h:(E.map (·.1)).Nodup){j:Nat}(hj:j<E.length):iN E (nth E j).1=some j:=by
 rw[<-dQ];refine J3.2 ⟨by simpa using hj,by simp[aB hj],fun i hi=>?_⟩;have:=JG.1 h i j (by simp;omega) (by simpa using hj) hi;simp only[KW]at this ⊢;rw[aB hj];simpa using this
theorem Dw{E:List K2}(h:(E.map (·.1)).Nodup){j:Nat}(hj:j<E.length):dj E (nth E j).1=(nth E j).2.2/\Br E (nth E j).1=(nth E j).2.1:=by
 unfold dj Br;rw[kI,D6 h hj];simp only[Option.bind_some,List.getElem?_eq_getElem hj,Option.map_some,Option.getD_some,aB hj,and_self]
structure BlI(w0:I0)(nv tv:ix)(rows:List (List Nat))(tls:List Nat)(sb:Nat)(fv bv:ix)(sr tr tb b0 m0:Nat)(O:Nat->Nat)(W:I0)(bl:List Nat)(E:List K2)(td:List ((Int×Int)×Bool))(many:Nat):Prop where
 upd:IP (fun q=>1<=q) (fun _=>0) w0 O W
 rng:JY w0.heap.size O W
 sp:LD O W sb nv tv fv bv sr tr rows.length (nxD rows) bl E td many
 tb:JM O W 8 tb #[nI (b0:Nat),nI (m0:Nat)] 202
 low:∀q,O q<2000
def BlT(rows:List (List Nat))(a0:List Nat)(b0 m0:Nat)(fl:Bool)(bl:List Nat)(E:List K2)(td:List ((Int×Int)×Bool))(many:Nat):Prop:=
 (fl=true->∃td0,BO (nxD rows) (nth a0) rows.length bl E td0 many/\td=oD td0 ((b0:Int),(m0:Int))/\b0<many/\m0<37)/\(fl=false->BO (nxD rows) (nth a0) rows.length bl E [] many)
structure BiI(w0:I0)(nv tv:ix)(rows:List (List Nat))(tls:List Nat)(sb:Nat)(fv bv:ix)(sr tr tb b0 m0 r q many0 M:Nat)(bl0:List Nat)(G:List K2)(O:Nat->Nat)(W:I0)(left:List (Int×ix))(cur:Option (Int×ix))(bl:List Nat)(E:List K2)(td:List ((Int×Int)×Bool))(many:Nat):Prop where
 upd:IP (fun q=>1<=q) (fun _=>0) w0 O W
 rng:JY w0.heap.size O W
 sp:LD O W sb nv tv fv bv sr tr rows.length (nxD rows) bl E td many
 tb:JM O W 8 tb #[nI (b0:Nat),nI (m0:Nat)] 202
 rg:LL (fun k:Int=>nI k) (fun v:ix=>v) O W 2000 2001 r q left cur
 gr:∀k,k<G.length->(nth G k).1∈left.map (·.1)->Jm aN 3 1 O W (3000+k) (nth G k).2.1 (nth G k).2.2
 bi:BI (nxD rows) (nth tls) rows.length bl0 m0 b0 many0 left bl E td many
 ms:(rows.length-many)*37+td.length<=M
 sub:∀e∈left,e∈G.map sH
theorem Bq{rows:List (List Nat)}{a0:List Nat}{bl:List Nat}{E:List K2}{td:List ((Int×Int)×Bool)}{many:Nat}(h:BO (nxD rows) (nth a0) rows.length bl E td many){a2 a1:List ((Int×Int)×Bool)}{k:Int×Int}{x:Bool}(e:td=a2++(k,x)::a1):
  ∃b0 m0:Nat,k=((b0:Int),(m0:Int))/\BlT rows a0 b0 m0 true bl E (oD td k) many/\(oD td k).length+1=td.length:=by
 have hm:(k,x)∈td:=by rw[e];simp
 obtain⟨c,j,h1,h2,h3⟩:=h.tdr _ hm;dsimp only at h3;exact⟨c,j,h3,⟨fun _=>⟨td,h,by rw[h3],h1,h2⟩,fun e=>absurd e zd⟩,xd k x td hm⟩
theorem RightD.nx{rows:List (List Nat)}{a0:List Nat}(h:Kx rows a0):∀p m,p<rows.length->m<37->nxD rows p m<rows.length:=fun p m hp hm=>(h.row p hp).2 m hm
theorem SpO.todoN{S:Nat->Prop}{O O':Nat->Nat}{w w':I0}{sb:Nat}{nv tv fv bv:ix}{sr tr n:Nat}{nx:Nat->Nat->Nat}{bl:List Nat}{E:List K2}{td a0:List ((Int×Int)×Bool)}{many:Nat}(h:LD O w sb nv tv fv bv sr tr n nx bl E td many) 
  (u:IP S O w O' w') (hS:∀k,0<k->k<10+E.length->k≠4->k≠8->k≠9->¬S k) (ht:JC dM IF O' w' 4 tr a0):LD O' w' sb nv tv fv bv sr tr n nx bl E a0 many:=
 ⟨h.blk.upd u zd (hS 1 zo zo zo zo zo),h.row.upd u zd (hS 2 zo zo zo zo zo),⟨h.st.map.upd u zd (hS 3 zo zo zo zo zo),fun k hk=>(h.st.row k hk).upd u zo (hS _ zo zo zo zo zo)⟩,ht,h.frm.upd u zd (hS 5 zo zo zo zo zo)⟩
theorem SpO.reN{O:Nat->Nat}{w:I0}{sb:Nat}{nv tv fv bv:ix}{sr tr n:Nat}{nx:Nat->Nat->Nat}{bl:List Nat}{E:List K2}{td:List ((Int×Int)×Bool)}{many:Nat}(h:LD O w sb nv tv fv bv sr tr n nx bl E td many) 
  (f:Nat->Nat) (hf:∀t,t<10+E.length->t≠8->t≠9->f t=t):LD (reF f O) w sb nv tv fv bv sr tr n nx bl E td many:=
 ⟨h.blk.re f (hf 1 zo zo zo),h.row.re f (hf 2 zo zo zo),⟨h.st.map.re f (hf 3 zo zo zo),fun k hk=>(h.st.row k hk).re f (hf _ zo zo zo)⟩,h.todo.re f (hf 4 zo zo zo),h.frm.re f (hf 5 zo zo zo)⟩
def nxF:Nat->Nat:=fun t=>if t=9 then 8 else if t=8 then 0 else if t<2000 then t else 0
theorem FU{t:Nat}(h:t<2000)(h8:t≠8)(h9:t≠9):nxF t=t:=by unfold nxF;rw[if_neg h9,if_neg h8,if_pos h]
theorem FT(t:Nat):nxF t<2000:=by unfold nxF;split;omega;split;omega;split<;>omega
theorem sE(nv tv:ix)(rows:List (List Nat))(b5:List Nat)(w:I0)(hn:Kw w nv rows)(m4:Sl fj 1 w tv b5)(hr:Kx rows b5):
  JZ IU 92 [.agg #[nv,tv]] w fun v w'=>
   ∃bl,Sl aN 1 w' v bl/\Js w w'/\bl.length=rows.length/\(∀p q,p<rows.length->q<rows.length->(nth bl p=nth bl q↔Alike (nxD rows) (nth b5) p q))/\∀(B:Nat) (O:Nat->Nat),JY B O w->Kb O w' v:=by
 have t':=hr.le;have o7:=hr.pos;have e6:=hr.tl;have d9:=hr.nx;have o8:=hn.free;have g2:Kb (fun _=>0) w tv:=m4.free0 fun a=>by simp
 obtain⟨vs,i6,i7,t6,o2⟩:=o8;refine I3 func92 ntmps92 rfl rfl ?_;refine zg ?_;refine aF (aw w) 7 zo rfl rfl ?_;intro db w1 O1 i1 n3 s3 u6;have c0:w1.cell? (nA db 0)=some nv:=i1.cell 0 rfl;have i5:=i6.upd i7 n3;refine zg ?_;refine aL (fun W=>∀j u,[nv,tv][j]? = some u->W.cell? (nA db j)=some u) 10 rfl zk ?_;refine zin i1.drew.cellsAdd fun zS=>?_
 refine zt 0 rfl zS (fun w1 i4=>ah (us:=[nv,tv]) i4 (JX _) (Jr _) rfl) ?_;refine zrf 1 rfl zS rfl ?_
 refine zt 2 rfl zS (fun w1 i4=>RV.ld (i4 0 _ rfl) rfl) ?_;refine zr 3 rfl zS (fun _=>bj i5.sh JW rfl) ?_
 refine yp 4 5 6 jJ (val:=fun n:Nat=>nI (n:Int)) (0:Nat) zk (fun _=>rfl) (fun k:Int=>nI k) (fun v:ix=>v) dM IF s3.drew 2 3 4 zd zd zd zd zd zd rows.length rfl rfl rfl zk zk zk zk zk zk zk zk zk zk zk zk (fun O' W u=>(i1.drew.upd u zd zd).cellsAdd) (fun l=>⟨rfl,rfl,rfl,fun _=>rfl,fun _=>rfl⟩) zo zo zo rfl rfl rfl rfl rfl rfl ?_;intro bv sr tr w4 O4 c5 j7 j1 n2 s2;have d3:=i1.drew.upd n2 zd zd;obtain⟨ba,bc,p9,_⟩:=c5.sl.shape;refine zr 7 rfl (d3.cellsAdd) (fun _=>RV.build (cells:=#[nv,tv,nS,bv,.map (some sr),.map (some tr),nI 0]) GE (zeroValue201 _) rfl (by rw[p9];rfl)) ?_
 refine IW 8 zk rfl ?_;refine aF s2 1 zd rfl rfl ?_
 intro sb w5 O5 r6 d' s1 u5;refine zg ?_;refine ae ((d3.upd d' zd zd).cellsAdd) ?_;have f9:=c5.upd d' zd zd;have j6:=j7.upd d' zd zd;have j0:=j1.upd d' zd zd;have l5:IP (fun q=>1<=q) (fun _=>0) w O5 w5:=((n3.mono (fun _ h=>by omega) zd).trans (Upd.ofDrew (n2.mono (fun _ h=>by omega) zd))).trans (d'.mono (fun _ h=>by omega) zd);obtain⟨f,hf⟩:∃f:Nat->Nat,f=fun t=>if t<=7 then t else 0:=⟨_,rfl⟩
 have f7:∀t,t<=7->f t=t:=fun t ht=>by rw[hf];exact if_pos ht
 have s7:∀t,f t<=7:=fun t=>by rw[hf];dsimp only;split<;>omega
 have l2:=l5.re f (f7 0 zd) (fun b hb=>absurd rfl hb);refine zra 9 rfl ((d3.upd d' zd zd).cellsAdd) rfl ?_;refine JR zk ?_;refine zg ?_;refine zc call117 (uz w.heap.size (reF f O5) w5 sb nv tv bv sr tr b5 (s1.re f (f7 0 zd)) (r6.re f (f7 1 zd)) (by rw[e6];exact f9.re f (f7 2 zd)) ⟨j6.re f (f7 3 zd),fun k hk=>absurd hk (I4 k)⟩ (j0.re f (f7 4 zd)) (m4.upd g2 l2) (g2.upd l2) zo (fun q=>by have:=s7 (O5 q);show f (O5 q)<2000;omega)) ?_;rintro _ w6 ⟨O6,D,bl,E,many,td,r8,s0,q',f8,e',i',hF,hI⟩;have m8:=hF.mi;obtain⟨g,hg⟩:∃g:Nat->Nat,g=fun t=>if t<=4\/10<=t/\t<2000 then t else 0:=⟨_,rfl⟩
 have g1:∀t,(t<=4\/10<=t/\t<2000)->g t=t:=fun t ht=>by rw[hg];exact if_pos ht
 have n8:∀t,g t<2000/\g t≠6/\g t≠5:=fun t=>by rw[hg];dsimp only;split<;>omega
 have g9:=(l2.trans (r8.mono (fun _ h=>by omega) zd)).re g (g1 0 zd) (fun b hb=>absurd rfl hb);have m6:RowsF (reF g O6) w6 nv rows:=hn.free.upd g9;refine zg ?_;refine zc call118 (sC w.heap.size (reF g O6) w6 sb nv tv bv sr tr many rows b5 (s0.re g (g1 0 zd)) (q'.re g (g1 1 zd)) m6 hr (fun q=>(n8 _).1) (fun q=>(n8 _).2.1)) ?_;rintro _ w7 ⟨O7,fv,g5,r',p',k9⟩;obtain⟨f3,m'⟩:∃f:Nat->Nat,f=fun t=>if t<2000 then t else 0:=⟨_,rfl⟩
 have b4:∀t,t<2000->f3 t=t:=fun t ht=>by rw[m'];exact if_pos ht
 have f3lt:∀t,f3 t<2000:=fun t=>by rw[m'];dsimp only;split<;>omega
 have l4:=(g9.trans (g5.mono (fun _ h=>by omega) zd)).re f3 (b4 0 zd) (fun b hb=>absurd rfl hb);have u3:=hF.keys.len;have b8:LD (reF f3 O7) w7 sb nv tv fv bv sr tr rows.length (nxD rows) bl E td many:=⟨p'.re f3 (b4 1 zd),((f8.re g (g1 2 zd)).upd g5 zd zd).re f3 (b4 2 zd),⟨((e'.map.re g (g1 3 zd)).upd g5 zd zd).re f3 (b4 3 zd),fun k hk=>(((e'.row k hk).re g (g1 _ zo)).upd g5 zo zo).re f3 (b4 _ zo)⟩,((i'.re g (g1 4 zd)).upd g5 zd zd).re f3 (b4 4 zd),k9.re f3 (b4 5 zd)⟩
 rw[e6]at hF;have h6:BO (nxD rows) (nth b5) rows.length bl E td many:=hF.bo hI d9;have g':=r'.re f3 (b4 0 zd);have u0:∀q,reF f3 O7 q<2000:=fun q=>f3lt _
 generalize reF f3 O7=O8 at *;refine zg ?_;refine zc call119 (oU w.heap.size O8 w7 sb tr td g' (.inr ⟨b8.blk.tag,b8.blk.cell 5 rfl⟩) b8.todo) ?_;intro vn w8 j8;have hq:∃b0 m0 fl b',vn=.tuple #[dM ((b0:Nat),(m0:Nat)),.bool fl]/\IP (fun q=>q=4) O8 w7 O8 w8/\JC dM IF O8 w8 4 tr b'/\BlT rows b5 b0 m0 fl bl E b' many:=by
  rcases j8 with⟨h0,rfl,h1,h2⟩|⟨d8,k,x,d7,e,rfl,h1,h2⟩
  ·rw[h0]at h2 h6;exact⟨0,0,false,[],rfl,h1,h2,⟨fun e=>absurd e zd,fun _=>h6⟩⟩
  obtain⟨b0,m0,rfl,h3,_⟩:=Bq h6 e;exact⟨b0,m0,true,_,rfl,h1,h2,h3⟩
 obtain⟨b0,m0,fl,b',rfl,n1,i9,s6⟩:=hq;refine zg ?_;refine ar (g'.upd n1) 8 zo (JV _) rfl ?_;intro tb w9 O9 d0 n0 r9 u4;refine zsa (us:=#[nI (b0:Nat),nI (m0:Nat)]) d0 (KL _) ?_;have e9:=d0.setRow (us:=#[nI (b0:Nat),nI (m0:Nat)]);have d5:IP (fun k=>k=8) O9 w9 O9 (w9.setRow tb #[nI (b0:Nat),nI (m0:Nat)]):=IV zd d0.tag rfl;generalize w9.setRow tb #[nI (b0:Nat),nI (m0:Nat)]=w10 at *;have c7:IP (fun q=>q=4\/q=8) O8 w7 O9 w10:=((n1.mono (fun _ h=>.inl h) zd).trans (n0.mono (fun _ h=>.inr h) zd)).trans (d5.mono (fun _ h=>.inr h) zd);have f6:=b8.todoN c7 zo ((i9.upd n0 zd zd).upd d5 zd zd);have n7:=h6.keys.len;have t9:=h6.blk.many_le;have f3i:∀t,t<10+E.length->t≠8->t≠9->f3 t=t:=fun t h _ _=>b4 t zo
 clear m6 hF hI;refine zg ?_;refine zlp (fun z:(Nat->Nat)×World×List Nat×List K2×List ((Int×Int)×Bool)×Nat×Nat×Nat×Nat×Bool=>[(3,nP sb),(4,.pointer (some ⟨z.2.2.2.2.2.2.1,0,none⟩)),(5,.bool z.2.2.2.2.2.2.2.2.2)]) (fun z=>z.2.1) (fun z=>BlI w nv tv rows b5 sb fv bv sr tr z.2.2.2.2.2.2.1 z.2.2.2.2.2.2.2.1 z.2.2.2.2.2.2.2.2.1 z.1 z.2.1 z.2.2.1 z.2.2.2.1 z.2.2.2.2.1 z.2.2.2.2.2.1/\BlT rows b5 z.2.2.2.2.2.2.2.1 z.2.2.2.2.2.2.2.2.1 z.2.2.2.2.2.2.2.2.2 z.2.2.1 z.2.2.2.1 z.2.2.2.2.1 z.2.2.2.2.2.1) (fun z=>(rows.length-z.2.2.2.2.2.1)*37+z.2.2.2.2.1.length+z.2.2.2.2.2.2.2.2.2.toNat) (reF f3 O9,w10,bl,E,b',many,tb,b0,m0,fl) (⟨⟨(l4.trans (c7.mono (fun _ h=>by omega) zd)).re f3 (b4 0 zd) (fun b hb=>absurd rfl hb),(r9.upd d5).re f3 (b4 0 zd),f6.reN f3 f3i,e9.re f3 (b4 8 zd),fun q=>f3lt _⟩,s6⟩) ?_;rintro⟨O11,e4,e2,E1,i3,a9,h7,b1,m1,s9⟩ ⟨hI,hT⟩;dsimp only at hI hT ⊢;refine zg ?_
 cases s9 with
 |false=>
  have g3:=hT.2 rfl;have cb:e4.cell? (nA sb 3)=some bv:=hI.sp.blk.cell 3 rfl;refine zFG rfl rfl ?_;refine zvG (RV.ld cb rfl) ?_;refine af rfl rfl (⟨e2,hI.sp.row.sl,hI.upd.ext,g3.blk.len,fun p q hp hq=>g3.final d9 p q hp hq,fun B O hO=>hI.sp.row.free zd hI.rng hO⟩)
 |true=>
  obtain⟨t3,a5,j2,l1,g0⟩:=hT.1 rfl;have p5:=a5.keys;have p3:=p5.len;have p0:=a5.blk.many_le;have b7:=a5.blk.mem b1 l1;have t0:e4.cell? ⟨h7,0,none⟩=some (nI (b1:Nat)):=hI.tb.cell 0 rfl;have s':e4.cell? ⟨h7,1,none⟩=some (nI (m1:Nat)):=hI.tb.cell 1 rfl;refine zTG rfl rfl ?_;refine zv (eN JO (I8 _) rfl rfl 0 rfl zd) ?_;refine zv (RV.ld t0 rfl) ?_;refine zv (eN JO (I8 _) rfl rfl 1 rfl zd) ?_;refine zv (RV.ld s' rfl) ?_;refine zc call120 (uy w.heap.size O11 e4 sb nv tv fv bv sr tr rows.length (nxD rows) e2 E1 i3 a9 b1 m1 hI.rng hI.sp zo g0 (fun x hx=>((b7 x).1 hx).1) zo a5.blk.len (a5.blk.nd b1 l1) hI.low) ?_;rintro _ t2 ⟨r,O12,G,rfl,l3,l8,hG,hL⟩;refine nH hG.map J1 l8 2001 zd zd rfl rfl ?_;intro q m2 O13 o6 p1 g8 l7;have a8:IP (fun q=>2000<=q) O11 e4 O13 m2:=l3.trans (g8.mono (fun _ h=>by omega) zd);have n6:∀k,k∈(G.map sH).map (·.1)↔k∈G.map (·.1):=fun k=>by rw[K8];rfl
  have s4:((G.map sH).map (·.1)).Nodup:=by rw[K8];exact hL.nd
  obtain⟨M,hM⟩:∃M,M=(rows.length-a9)*37+i3.length:=⟨_,rfl⟩
  refine zg ?_;refine zlp (fun y:(Nat->Nat)×World×List (Int×ix)×Option (Int×ix)×List Nat×List K2×List ((Int×Int)×Bool)×Nat=>[(3,nP sb),(4,nP h7),(38,nP q)]) (fun y=>y.2.1) (fun y=>BiI w nv tv rows b5 sb fv bv sr tr h7 b1 m1 r q a9 M e2 G y.1 y.2.1 y.2.2.1 y.2.2.2.1 y.2.2.2.2.1 y.2.2.2.2.2.1 y.2.2.2.2.2.2.1 y.2.2.2.2.2.2.2) (fun y=>y.2.2.1.length) (O13,m2,G.map sH,none,e2,E1,i3,a9) (⟨hI.upd.trans (a8.mono (fun _ h=>by omega) zd),l7,hI.sp.upd a8 zo,hI.tb.upd a8 zd zd,o6,fun k hk _=>(hG.row k hk).upd g8 zo zo,?_,Nat.le_of_eq hM.symm,fun e h=>h⟩) ?_
  ·dsimp only;rw[j2];refine a5.take b1 m1 g0 d9 _ (fun k=>?_) s4;rw[n6,hL.key]
   constructor
   ·rintro⟨i,hi,e⟩;obtain⟨h1,h2⟩:=gQ.1 hi;exact⟨i,h1,((b7 _).1 h2).2,e⟩
   rintro⟨i,h1,h2,e⟩;exact⟨i,gQ.2 ⟨h1,(b7 _).2 ⟨d9 i m1 h1 g0,h2⟩⟩,e⟩
  rintro⟨O14,t1,o1,u7,c8,E2,e5,a0⟩ hJ;dsimp only at hJ ⊢;refine zg ?_;refine pM hJ.rg zd zd rfl rfl ?_ ?_
  ·intro h0;subst h0;have b9:=hJ.bi.done;have k3:=b9.keys.len;have j9:=b9.blk.many_le;refine zg ?_;refine zFG rfl rfl ?_;refine zvG (ah (us:=[nI (b1:Nat),nI (m1:Nat)]) hJ.tb.cellsAdd (isAgg202 _) (KL _) rfl) ?_;refine ar hJ.rng 9 zo (JV _) rfl ?_;intro tc c9 O15 j5 a2 h5 s5;refine zsa (us:=#[nI (b1:Nat),nI (m1:Nat)]) j5 (KL _) ?_;have j4:=j5.setRow (us:=#[nI (b1:Nat),nI (m1:Nat)]);have a4:IP (fun k=>k=9) O15 c9 O15 (c9.setRow tc #[nI (b1:Nat),nI (m1:Nat)]):=IV zd j5.tag rfl;generalize c9.setRow tc #[nI (b1:Nat),nI (m1:Nat)]=d6 at *;have a7:=a2.trans a4;have a1:=hJ.sp.todoN a7 zo ((hJ.sp.todo.upd a7 zd zd));refine zg ?_;refine zc call119 (oU w.heap.size O15 d6 sb tr e5 (h5.upd a4) (.inr ⟨a1.blk.tag,a1.blk.cell 5 rfl⟩) a1.todo) ?_;intro n9 e3 f';have m7:=hJ.ms;have hq:∃b0 m0 fl b',n9=.tuple #[dM ((b0:Nat),(m0:Nat)),.bool fl]/\IP (fun q=>q=4) O15 d6 O15 e3/\JC dM IF O15 e3 4 tr b'/\BlT rows b5 b0 m0 fl c8 E2 b' a0/\(rows.length-a0)*37+b'.length+fl.toNat<=M:=by
    rcases f' with⟨h0,rfl,h1,h2⟩|⟨d8,k,x,d7,e,rfl,h1,h2⟩
    ·subst h0;exact⟨0,0,false,[],rfl,h1,h2,⟨fun e=>absurd e zd,fun _=>b9⟩,m7⟩
    obtain⟨b0,m0,rfl,h3,h4⟩:=Bq b9 e;exact⟨b0,m0,true,_,rfl,h1,h2,h3,by show _+_+1<=M;omega⟩
   obtain⟨b3,m3,s8,n',rfl,g7,e7,l',o9⟩:=hq;have c':=j4.upd g7 zd zd;refine zg ?_;refine zsa (us:=#[nI (b3:Nat),nI (m3:Nat)]) c' (KL _) ?_;have j3:=c'.setRow (us:=#[nI (b3:Nat),nI (m3:Nat)]);have g6:IP (fun k=>k=9) O15 e3 O15 (e3.setRow tc #[nI (b3:Nat),nI (m3:Nat)]):=IV zd c'.tag rfl;generalize e3.setRow tc #[nI (b3:Nat),nI (m3:Nat)]=w18 at *;have a6:IP (fun q=>q=4\/q=9) O15 d6 O15 w18:=(g7.mono (fun _ h=>.inl h) zd).trans (g6.mono (fun _ h=>.inr h) zd);have f5:=a1.todoN a6 zo (e7.upd g6 zd zd);have r7:=(hJ.upd.trans (a7.mono (fun _ h=>by omega) zd)).trans (a6.mono (fun _ h=>by omega) zd);refine zg ?_;refine zx (reF nxF O15,w18,c8,E2,n',a0,tc,b3,m3,s8) (⟨⟨r7.re nxF rfl (fun b hb=>absurd rfl hb),((h5.upd a4).upd a6).re nxF rfl,f5.reN nxF (fun t h h8 h9=>FU zo h8 h9),j3.re nxF rfl,fun q=>FT _⟩,l'⟩) (by dsimp only;show _<_+1;omega)
  intro d8 k v d7 c9 k0 b6 a2;subst k0;have m9:k∈G.map (·.1):=(n6 k).1 (IX.2 ⟨_,hJ.sub _ (Jp _ (Jk ..)),rfl⟩);obtain⟨i0,u1,p4⟩:=(hL.key k).1 m9;obtain⟨kn,p2⟩:∃kn:Nat,k=(kn:Int):=⟨_,p4.symm⟩
  subst p2;obtain⟨e0,p8,p7⟩:=IX.1 (hJ.sub _ (Jp _ (Jk ..)));obtain⟨j,hj,p6⟩:=IC p8;subst p6;obtain⟨k4,o3⟩:=K7 p7;have m5:=hJ.gr j hj (by rw[k4];simp);obtain⟨h',t7⟩:=Dw hL.nd hj;obtain⟨L,n5⟩:∃L,L=(nth G j).2.2:=⟨_,rfl⟩
  rw[o3,<-n5]at m5;rw[k4,<-n5]at h';have i2:∀x,x∈L↔x<rows.length/\nth e2 x=kn/\nth e2 (nxD rows x m1)=b1:=fun x=>by rw[<-h'];exact hL.mem (fun x hx=>d9 x m1 hx g0) b7 kn x
  have n4:L.Nodup:=by rw[<-h'];exact hL.rnd (a5.blk.nd b1 l1) _
  have l9:L≠[]:=by rw[<-h'];exact hL.ne m9
  obtain⟨k1,u2⟩:=hJ.bi.here i2;have k5:=hJ.bi.keys;have k3:=k5.len;have j9:=hJ.bi.blk.many_le;have g4:=hJ.bi.blk.len;have a3:=hJ.sp.upd a2 zo;have a':=m5.upd a2 zo zo;have c6:=a3.st.at (kn:Int);have o5:=a'.sl.len_le;have o4:=c6.sl.len_le;have cs:c9.cell? (nA sb 4)=some (.map (some sr)):=a3.blk.cell 4 rfl;obtain⟨t5,o0,t4⟩:=qo hJ.bi.nd;refine zg ?_;refine zTG rfl rfl ?_;refine zvG (RV.entry b6 rfl) ?_;refine zvG (bj a'.sl.sh ka rfl) ?_;refine zvG (RV.ld cs rfl) ?_;refine zv (J9 a3.st.map J1 oZ (K4 _) (kn:Int) rfl rfl rfl (lF E2 _)) ?_;refine zvG (bj c6.sl.sh ka rfl) ?_;refine zC ?_ ?_
  ·intro j';replace j':L.length<(dj E2 (kn:Int)).length:=by have:=of_decide_eq_true j';omega
   have k':=hJ.bi.cut d9 a5.blk.alike g0 i2 n4 l9 j' v;refine zg ?_;refine zc call121 (uu w.heap.size O14 c9 sb nv tv fv bv sr tr rows.length (nxD rows) c8 E2 e5 a0 kn (3000+j) v L (hJ.rng.upd a2) a3 a' k5 zo (fun x hx=>by rw[g4];exact((i2 x).1 hx).1) zo k1 (fun x hx=>by rw[g4];exact((hJ.bi.blk.mem kn k1 x).1 hx).1)) ?_;rintro _ d6 ⟨v',O16,a4,l6,l0,d1,f4,k6,e8⟩;have a1:=a3.cut k5 k1 zo a' a4 (fun q h=>h) l0 d1 f4 k6 e8;obtain⟨f,hf⟩:∃f,f=DE (3000+j) (10+a0):=⟨_,rfl⟩
   have e1:∀t,t≠3000+j->f t=t:=fun t ht=>by rw[hf];exact ql ht
   rw[<-hf]at a1;have b2:=k' v' (decide ((gw (fun x=>nth (cA c8 a0 L) x==a0) (dj E2 (kn:Nat))).length<L.length));have o':=b2.blk.many_le;generalize decide ((gw (fun x=>nth (cA c8 a0 L) x==a0) (dj E2 (kn:Nat))).length<L.length)=lt at a1 b2;have i8:=yK e5 kn a0 lt 37;generalize tdL e5 kn a0 lt 37=td5 at a1 b2 i8;generalize cx (cx E2 (a0:Int) (v,L)) (kn:Int) (v',gw (fun x=>nth (cA c8 a0 L) x==a0) (dj E2 (kn:Nat)))=E3 at a1 b2;generalize cA c8 a0 L=bl3 at a1 b2;have m7:=hJ.ms;have d4:IP (fun q=>1<=q) (fun _=>0) w O16 d6:=(hJ.upd.trans (a2.mono (fun _ h=>by omega) zd)).trans (a4.mono (fun _ h=>by omega) zo);refine zg ?_;refine zx (reF f O16,d6,d8++d7,some ((kn:Int),v),bl3,E3,td5,a0+1) (⟨d4.re f (e1 0 zo) (fun b hb=>absurd rfl hb),l6.re f (e1 0 zo),a1,((hJ.tb.upd a2 zd zd).upd a4 zd zo).re f (e1 8 zo),(b6.upd a4 zd zd zo zo).re f (e1 _ zo) (e1 _ zo),fun k2 d2 hm=>?_,b2,?_,fun e he=>hJ.sub e ?_⟩) (by dsimp only;simp)
   ·have t8:k2≠j:=fun e=>by
     subst e;exact o0 (by rw[<-k4];exact hm)
    have k7:(nth G k2).1∈(d8++((kn:Int),v)::d7).map (·.1):=by
     simp only[IK,J7,IN,I7]at hm ⊢
     rcases hm with hm|hm
     ·exact .inl hm
     exact .inr (.inr hm)
    exact(((hJ.gr k2 d2 k7).upd a2 zo zo).upd a4 zo zo).re f (e1 _ zo)
   ·dsimp only;omega
   rcases IN.1 he with he|he
   ·exact KD _ he
   exact Jp _ (IT _ he)
  intro k8;replace k8:(dj E2 (kn:Int)).length<=L.length:=by have:=of_decide_eq_false k8;omega
  have k':=hJ.bi.skip i2 n4 k8;refine zg ?_;refine zx (O14,c9,d8++d7,some ((kn:Int),v),c8,E2,e5,a0) (⟨hJ.upd.trans (a2.mono (fun _ h=>by omega) zd),hJ.rng.upd a2,a3,hJ.tb.upd a2 zd zd,b6,fun k2 d2 hm=>?_,k',hJ.ms,fun e he=>hJ.sub e ?_⟩) (by dsimp only;simp)
  ·have k7:(nth G k2).1∈(d8++((kn:Int),v)::d7).map (·.1):=by
    simp only[IK,J7,IN,I7]at hm ⊢
    rcases hm with hm|hm
    ·exact .inl hm
    exact .inr (.inr hm)
   exact(hJ.gr k2 d2 k7).upd a2 zo zo
  rcases IN.1 he with he|he
  ·exact KD _ he
  exact Jp _ (IT _ he)
end Go.Proofs.YtpfpmhhigheccaaGreatDoor
section
namespace Go.VL
section
variable{κ ν:Type}[DecidableEq κ]{kv:κ→ix}{vv:ν→ix}{P:K6}{N:Nat}{ops:Array KQ}{Q:Lq→Act→I0→Prop}{rest:List KQ}{st:St}{w:I0}{t:JL}{p:String}{e:Array Edge}{x y z:Ld}
theorem WL.insert{T K E:JL}{O:Nat->Nat}{i r:Nat}{l:List (κ×ν)}(hm:JC kv vv O w i r l)(hT:P.underlying T=some (.map K E))(hK:KeyL P K kv)(a0:i≠0) 
  (k:κ) (u:ν) {kx ux:ix} (hx:ev st x=some (.map (some r))) (hy:ev st y=some kx) (hz:ev st z=some ux) (hk:kx=kv k) (hu:ux=vv u)
  (h:∀w',JC kv vv O w' i r (cx l k u)->IP (fun j=>j=i) O w O w'->WL P N ops Q rest st w'):WL P N ops Q (⟨none,.insert T x y z,t,p,e,none⟩::rest) st w:=by
 subst hk;subst hu;obtain⟨w',h1,h2,h3⟩:=dB hT hK hm a0 k u;exact ik (fun a ha=>by simp only[execOp,ha.ev hx,ha.ev hy,ha.ev hz,Le,h1,KH,Sem.run_pure]) (h w' h2 h3)
end
end Go.VL
namespace Go.VL
open Go.Proofs
theorem RowT.freeRe{α:Type}{enc:α->List ix}{E:JL}{sz B:Nat}{O:Nat->Nat}{w:I0}{i:Nat}{v:ix}{l:List α}(h:Jm enc E sz O w i v l)(hi:i≠0)(r:JY B O w)(f:Nat->Nat)(hf:f i=0):Kb (reF f O) w v:=fun a n c e _=>by
 have h1:=h.1.tag a.block (by subst e;rfl);exact⟨by unfold reF;rw[h1];exact hf,(r.rng a.block (by rw[h1];exact hi)).2⟩
theorem Free.re{O:Nat->Nat}{w:I0}{v:ix}(h:Kb O w v)(f:Nat->Nat)(hf:f 0=0):Kb (reF f O) w v:=fun a n c e hn=>⟨by unfold reF;rw[(h a n c e hn).1];exact hf,(h a n c e hn).2⟩
end Go.VL
namespace Go.Proofs.YtpfpmhhigheccaaGreatDoor
open Go.VL Go.Proofs
set_option maxRecDepth 10000
theorem RwO.re{O:Nat->Nat}{w:I0}{i:Nat}{v:ix}{vs:List ix}{rows:List (List Nat)}(h:RwO O w i v vs rows)(f:Nat->Nat)(h0:f 0=0)(hi:f i=i):RwO (reF f O) w i v vs rows:=
 ⟨h.row.re f hi,h.len,fun k hk=>⟨(h.at_ k hk).1,(h.at_ k hk).2.re f h0⟩⟩
theorem AD{cl:Nat->Nat}{F:List Nat}{s t:Nat}(h:vL cl F s=none):vL cl (F++[s]) t=if cl s=cl t then some F.length else vL cl F t:=by
 unfold vL at h ⊢;rw[KE]
 by_cases e:cl s=cl t
 ·rw[if_pos e];have:K0 (fun o=>cl o==cl t) F=none:=by rw[<-e];exact h
  rw[this];simp[Jl,e]
 rw[if_neg e]
 cases K0 (fun o=>cl o==cl t) F with
 |some k=>simp
 |none=>simp[Jl,e]
def NumI(cl:Nat->Nat)(D:List (Int×Int))(F:List Nat):Prop:=∀t,bm D ((cl t:Nat):Int)=(vL cl F t).map fun k:Nat=>(k:Int)
theorem yr(cl:Nat->Nat):NumI cl (cx [] ((cl 0:Nat):Int) 0) [0]:=fun t=>by
 simp only[cx,bm,vL,Jl,List.findIdx?_nil]
 by_cases e:cl 0=cl t
 ·rw[if_pos (by rw[e]),if_pos (by simpa using e)];rfl
 rw[if_neg zo,if_neg (by simpa using e)];rfl
theorem NumI.add{cl:Nat->Nat}{D:List (Int×Int)}{F:List Nat}(h:NumI cl D F){s:Nat}(hs:vL cl F s=none):NumI cl (cx D ((cl s:Nat):Int) (F.length:Int)) (F++[s]):=fun t=>by
 rw[aP,AD hs]
 by_cases e:cl s=cl t
 ·rw[if_pos (by rw[e]),if_pos e];rfl
 rw[if_neg zo,if_neg e];exact h t
theorem uw(nv tv:ix)(rows:List (List Nat))(a':List Nat)(w:I0)(hn:Kw w nv rows)(i8:Sl fj 1 w tv a')(hr:Kx rows a'):
  JZ IU 58 [.agg #[nv,tv]] w fun v w'=>
   ∃cl nv' tv',v=.agg #[nv',tv']/\nv'.oneCell'=true/\tv'.oneCell'=true/\Js w w'/\(∀p q,p<rows.length->q<rows.length->(cl p=cl q↔Alike (nxD rows) (nth a') p q))/\RowsG w.heap.size w' nv' (cL cl rows a').1/\Sl fj 1 w' tv' (cL cl rows a').2/\Ky w.heap.size tv':=by
 have v1:=hr.le;have n3:=hr.pos;have s7:=hr.tl;have n5:=hr.nx;obtain⟨vs,m9,n0,u',m'⟩:=hn.free;have f6:Kb (fun _=>0) w tv:=i8.free0 fun a=>by simp
 refine I3 func58 ntmps58 rfl rfl ?_;refine zh ?_
 refine aF (aw w) 1 zo rfl rfl ?_;intro db w1 O1 k7 t9 u3 v7;refine ar u3 2 zo (KY _) rfl ?_
 intro cb w2 O2 k9 r9 r' v6;have g8:=k7.upd r9 zd zd;have i1:IP (fun q=>1<=q) (fun _=>0) w O2 w2:=(t9.mono (fun _ h=>zo) zd).trans (r9.mono (fun _ h=>zo) zd);refine zh ?_;refine zv (ah (us:=[nv,tv]) g8.cellsAdd (JX _) (Jr _) rfl) ?_;refine zc LJ (jB nv tv rows a' w2 (hn.ext i1.ext) (i8.ext i1.ext) hr) ?_;rintro _ w3 ⟨rfl,u7⟩;have l0:IP (fun _=>False) O2 w2 O2 w3:=aa (fun h=>h) O2 u7;have g7:=g8.upd l0 zd (fun h=>h);have k8:=k9.upd l0 zd (fun h=>h);have i0:=i1.trans (l0.mono (fun _ h=>h.elim) zd);refine zh ?_;refine zFH rfl rfl ?_;refine zv (ah (us:=[nv,tv]) g7.cellsAdd (JX _) (Jr _) rfl) ?_;refine zc call92 (sE nv tv rows a' w3 (hn.ext i0.ext) (i8.ext i0.ext) hr) ?_;rintro bv w4 ⟨bl,e0,u6,t8,h5,o7⟩;have l9:IP (fun _=>False) O2 w3 O2 w4:=aa (fun h=>h) O2 u6;have u2:=(r'.upd l0).upd l9;have g6:=g7.upd l9 zd (fun h=>h);have h0:=k8.upd l9 zd (fun h=>h);have p3:=i0.trans (l9.mono (fun _ h=>h.elim) zd);have o8:Kb O2 w4 bv:=o7 _ _ (r'.upd l0);have t7:∀p q,p<rows.length->q<rows.length->(nth bl p=nth bl q↔Alike (nxD rows) (nth a') p q):=h5;obtain⟨cl,d'⟩:∃cl,cl=nth bl:=⟨_,rfl⟩
 have b0:w4.cell? (adr bv 1 0)=some (nI ((cl 0:Nat):Int)):=by have:=e0.cell (i:=0) (j:=0) zo rfl;rw[ay]at this;rw[d'];exact this
 refine zh ?_;refine bd (fun k:Int=>nI k) (fun v:Int=>nI v) u2 3 zd rfl ?_
 intro r w5 O5 s1 p1 u1;have h3:=e0.upd o8 p1;have v8:w5.cell? (adr bv 1 0)=some (nI ((cl 0:Nat):Int)):=by have:=h3.cell (i:=0) (j:=0) zo rfl;rw[ay]at this;rw[d'];exact this
 refine zh ?_;refine zvH (az h3.sh ka (I8 _) rfl rfl 0 rfl zo) ?_
 refine WL.insert s1 J0 oZ zd ((cl 0:Nat):Int) (0:Int) rfl rfl rfl rfl rfl ?_;intro w6 s0 p0;have e4:=p1.trans p0;have o4:=g6.upd e4 zd zd;have o5:=h0.upd e4 zd zd;have u0:=u1.upd p0;refine zh ?_
 refine bJ jJ (enc:=aN) u0 4 zd (0:Nat) rfl rfl rfl zd rfl ?_;intro s5 w7 O7 j' o' t';refine zh ?_
 refine ar t' 5 zo (KY _) rfl ?_;intro ob w8 O8 g0 l' p5 v5;have b9:IP (fun q=>3<=q) O2 w4 O8 w8:=((e4.mono (fun _ h=>zo) zd).trans (o'.mono (fun _ h=>zo) zd)).trans (l'.mono (fun _ h=>zo) zd);have l3:=(o'.mono (S':=fun q=>q=4\/q=5) (fun _ h=>.inl h) zd).trans (l'.mono (fun _ h=>.inr h) zd);have p9:=s0.upd l3 zd zd;have f9:=j'.upd l' zd zd;have b4:=p3.trans (b9.mono (fun _ h=>zo) zd);have o6:=e0.upd o8 b9;have h4:=o8.upd b9;have d9:=g6.upd b9 zd zd;have g':=h0.upd b9 zd zd;obtain⟨f7,r8⟩:∃f:Nat->Nat,f=fun t=>if t<=7 then t else 0:=⟨_,rfl⟩
 have f7i:∀t,t<=7->f7 t=t:=fun t ht=>by rw[r8];exact if_pos ht
 have f7l:∀t,f7 t<=7:=fun t=>by rw[r8];dsimp only;split<;>omega
 replace p9:=p9.re f7 (f7i 3 zd);replace f9:=f9.re f7 (f7i 4 zd);replace g0:=g0.re f7 (f7i 5 zd);replace d9:=d9.re f7 (f7i 1 zd);replace g':=g'.re f7 (f7i 2 zd);replace p5:=p5.re f7 (f7i 0 zd);replace b4:=b4.re f7 (f7i 0 zd) (fun b hb=>absurd rfl hb);replace h4:=h4.re f7 (f7i 0 zd);have u4:∀b,reF f7 O8 b<=7:=fun b=>f7l _
 generalize reF f7 O8=O8' at *;clear e0 h3 g8 g7 k9 k8 k7 h0 g6 s1 s0 j' l3 o' l' e4 p1 p0 b9 o4 o5;refine zh ?_;refine zlp (fun z:Nat×(Nat->Nat)×World×List (Int×Int)×List Nat×ix×ix×ix×List ix×List (List Nat)×List Nat=>[(1,nP db),(2,nP cb),(3,bv),(4,.map (some r)),(5,z.2.2.2.2.2.1),(6,nP ob),(7,nI z.1)]) (fun z=>z.2.2.1) (fun z=>IP (fun q=>3<=q) O8' w8 z.2.1 z.2.2.1/\JY w.heap.size z.2.1 z.2.2.1/\JC (fun k:Int=>nI k) (fun v:Int=>nI v) z.2.1 z.2.2.1 3 r z.2.2.2.1/\NumI cl z.2.2.2.1 z.2.2.2.2.1/\Jm aN 3 1 z.2.1 z.2.2.1 4 z.2.2.2.2.2.1 z.2.2.2.2.1/\JM z.2.1 z.2.2.1 5 ob #[z.2.2.2.2.2.2.1,z.2.2.2.2.2.2.2.1] 91/\RwO z.2.1 z.2.2.1 6 z.2.2.2.2.2.2.1 z.2.2.2.2.2.2.2.2.1 z.2.2.2.2.2.2.2.2.2.1/\Jm fj 24 1 z.2.1 z.2.2.1 7 z.2.2.2.2.2.2.2.1 z.2.2.2.2.2.2.2.2.2.2/\LI cl (nxD rows) (nth a') rows.length z.1 z.2.2.2.2.1 z.2.2.2.2.2.2.2.2.2.1 z.2.2.2.2.2.2.2.2.2.2/\fe cl (nxD rows) (nth a') (rows.length+1-z.1) z.1 z.2.2.2.2.1 z.2.2.2.2.2.2.2.2.2.1 z.2.2.2.2.2.2.2.2.2.2=cL cl rows a'/\(∀k,k<z.2.2.2.2.2.2.2.2.2.1.length->Ky w.heap.size (nth z.2.2.2.2.2.2.2.2.1 k))) (fun z=>rows.length-z.1) (0,O8',w8,cx [] ((cl 0:Nat):Int) (0:Int),[0],s5,nS,nS,[],[],[]) (⟨Jo zd _ _,p5,p9,yr cl,f9,g0,⟨IL _ _ _ _ _ _,rfl,fun k hk=>absurd hk (I4 k)⟩,IL _ _ _ _ _ _,qW n3,rfl,fun k hk=>absurd hk (I4 k)⟩) ?_;rintro⟨i,O9,w9,D,F,j0,i7,f5,i6,a7,i'⟩ ⟨h9,m0,m4,l5,b7,f',c7,d7,f4,i9,g4⟩
 dsimp only at h9 m0 m4 l5 b7 f' c7 d7 f4 i9 g4 ⊢;have v4:=f4.reps.len;have t1:=b7.sl.len_le;have v0:=f4.rl;have s8:=f4.tln;have n2:=c7.len;refine zh ?_;refine zvH (bj b7.sl.sh ka rfl) ?_;refine zC ?_ ?_
 ·intro g5;replace g5:i<F.length:=dT g5;obtain⟨fu,o3⟩:∃fu,rows.length+1-i=fu+1:=⟨rows.length-i,zo⟩
  rw[o3,fe,if_pos g5]at i9;have n':rows.length+1-(i+1)=fu:=zo;have p7:=f4.next g5 n5;obtain⟨p,hp⟩:∃p,p=nth F i:=⟨_,rfl⟩
  have l6:p<rows.length:=by rw[hp];exact f4.reps.lt _ (aM g5)
  rw[<-hp]at i9 p7;have h8:=b4.trans (h9.mono (fun _ h=>zo) zd);have m8:=m9.upd n0 h8;obtain⟨r7,k5⟩:=m' p l6;have v2:=r7.upd k5 h8;obtain⟨s4,u9⟩:=hr.row p l6;have m1:w9.cell? (adr j0 1 i)=some (nI (p:Int)):=by have:=b7.sl.cell (i:=i) (j:=0) g5 rfl;rw[ay]at this;rw[hp];exact this
  have m2:w9.cell? (nA db 0)=some nv:=(d9.upd h9 zd zd).cell 0 rfl;have m3:w9.cell? (adr nv 1 p)=some (nth vs p):=by have:=m8.cell (i:=p) (j:=0) zo rfl;rwa[ay]at this
  refine zh ?_;refine Lb zk zk ?_
  refine zh ?_;refine zwH (az b7.sl.sh ka (I8 _) rfl rfl i rfl zo) ?_
  refine Lt ?_;refine zh ?_
  rw[s4];have n9:=fun m=>qb (p:=p) f4.reps (fun m hm=>n5 p m l6 hm) m
  refine zlp (fun y:Nat×(Nat->Nat)×World×List (Int×Int)×Value×ix=>[(1,nP db),(2,nP cb),(3,bv),(4,.map (some r)),(5,y.2.2.2.2.1),(6,nP ob),(7,nI (i:Nat)),(8,y.2.2.2.2.2),(38,nth vs p),(39,nI (37:Nat)),(40,nI y.1)]) (fun y=>y.2.2.1) (fun y=>y.1<=37/\IP (fun q=>q=3\/q=4\/q=8) O9 w9 y.2.1 y.2.2.1/\JY w.heap.size y.2.1 y.2.2.1/\JC (fun k:Int=>nI k) (fun v:Int=>nI v) y.2.1 y.2.2.1 3 r y.2.2.2.1/\NumI cl y.2.2.2.1 (jb cl (nxD rows) p F y.1).1/\Jm aN 3 1 y.2.1 y.2.2.1 4 y.2.2.2.2.1 (jb cl (nxD rows) p F y.1).1/\Jm aN 3 1 y.2.1 y.2.2.1 8 y.2.2.2.2.2 (jb cl (nxD rows) p F y.1).2) (fun y=>37-y.1) (0,O9,w9.drew,D,j0,nS) (⟨I1 _,aa zd O9 (I9 w9).drew,m0.drew,⟨m4.blk,m4.tag,m4.born⟩,l5,b7.drew,IL _ _ _ _ _ _⟩) ?_;rintro⟨j,O10,m5,D10,b6,rv⟩ ⟨hj,a9,b',b1,c5,a2,a0⟩;dsimp only at hj a9 b' b1 c5 a2 a0 ⊢;have l7:=n9 j hj;have n8:=l7.len;have n7:=l7.reps.len;have l1:=h8.trans (a9.mono (fun _ h=>zo) zd);refine zh ?_
  refine zC ?_ ?_
  ·intro k4;replace k4:j<37:=dT k4;have n6:=r7.upd k5 l1;obtain⟨to,n1⟩:∃to,to=nxD rows p j:=⟨_,rfl⟩
   have s6:to<rows.length:=by rw[n1];exact n5 p j l6 k4
   have k':=o6.upd h4 ((h9.trans (a9.mono (fun _ h=>zo) zd)));have k1:m5.cell? (adr (nth vs p) 1 j)=some (nI (to:Int)):=by have:=n6.cell (i:=j) (j:=0) zo rfl;rw[ay]at this;rw[n1];exact this
   have k2:m5.cell? (adr bv 1 to)=some (nI ((cl to:Nat):Int)):=by have:=k'.cell (i:=to) (j:=0) zo rfl;rw[ay]at this;rw[d'];exact this
   have l8:=c5 to;have e1:jb cl (nxD rows) p F (j+1)=(fnF cl (jb cl (nxD rows) p F j).1 to,(jb cl (nxD rows) p F j).2++[fnI cl (jb cl (nxD rows) p F j).1 to]):=by rw[n1];rfl
   refine zh ?_
   cases h6:vL cl (jb cl (nxD rows) p F j).1 to with
   |some k=>
    rw[h6]at l8;have h1:fnF cl (jb cl (nxD rows) p F j).1 to=(jb cl (nxD rows) p F j).1:=by unfold fnF;rw[h6];rfl
    have h2:fnI cl (jb cl (nxD rows) p F j).1 to=k:=by unfold fnI;rw[h6];rfl
    rw[h1,h2]at e1;refine zvH (cG (u:=.tuple #[nI (k:Int),.bool true]) b1 J0 oZ (IY _) ((cl to:Nat):Int) rfl rfl rfl (by rw[l8];rfl)) ?_;refine zFH rfl rfl ?_;refine Jg jJ a0 b' ((k:Nat)) (fun _=>rfl) rfl rfl rfl (by simp[I2]) zo zo zo zd rfl rfl ?_;intro m6 wz Oz c8 b8 p4;refine zh ?_;refine zxd (j+1,Oz,wz,D10,b6,m6) (⟨k4,a9.trans (b8.mono (fun _ h=>zo) zd),p4,b1.upd b8 zd zd,by dsimp only;rw[e1];exact c5,by dsimp only;rw[e1];exact a2.upd b8 zd zd,by dsimp only;rw[e1];exact c8⟩)
   |none=>
    rw[h6]at l8;have h1:fnF cl (jb cl (nxD rows) p F j).1 to=(jb cl (nxD rows) p F j).1++[to]:=by unfold fnF;rw[h6];rfl
    have h2:fnI cl (jb cl (nxD rows) p F j).1 to=(jb cl (nxD rows) p F j).1.length:=by unfold fnI;rw[h6];rfl
    rw[h1,h2]at e1;have u5:=c5.add h6;refine zvH (cG (u:=.tuple #[nI 0,.bool false]) b1 J0 oZ (IY _) ((cl to:Nat):Int) rfl rfl rfl (by rw[l8];rfl)) ?_;refine zTH rfl rfl ?_;refine zvH (bj a2.sl.sh ka rfl) ?_;refine J5 b1 J0 oZ zd ((cl to:Nat):Int) (((jb cl (nxD rows) p F j).1.length:Nat):Int) rfl rfl rfl rfl rfl ?_;intro i5 p' a5;have i3:=b'.upd a5;have k0:=a2.upd a5 zd zd;have a8:=a0.upd a5 zd zd;refine zh ?_;refine Jg jJ k0 i3 ((to:Nat)) (fun _=>rfl) rfl rfl rfl (by simp[I2]) zo zo zo zd rfl rfl ?_;intro m7 d6 O12 a3 b3 i2;have f8:=a8.upd b3 zd zd;have i4:=p'.upd b3 zd zd;refine zh ?_;refine Jg jJ f8 i2 (((jb cl (nxD rows) p F j).1.length:Nat)) (fun _=>rfl) rfl rfl rfl (by simp[I2]) zo zo zo zd rfl rfl ?_;intro m6 wz Oz c8 b8 p4;refine zh ?_;refine zxd (j+1,Oz,wz,cx D10 ((cl to:Nat):Int) (((jb cl (nxD rows) p F j).1.length:Nat):Int),m7,m6) (⟨k4,((a9.trans (a5.mono (fun _ h=>.inl h) zd)).trans (b3.mono (fun _ h=>.inr (.inl h)) zd)).trans (b8.mono (fun _ h=>.inr (.inr h)) zd),p4,i4.upd b8 zd zd,by dsimp only;rw[e1];exact u5,by dsimp only;rw[e1];exact a3.upd b8 zd zd,by dsimp only;rw[e1];exact c8⟩)
  intro t4;obtain rfl:j=37:=dF t4;generalize v3:jb cl (nxD rows) p F 37=RQ at *;obtain⟨F2,r2⟩:=RQ;dsimp only at l7 n8 n7 c5 a2 a0 i9 p7;obtain⟨ra,rc,t0,_⟩:=a0.sl.shape;subst t0
  -- the row is nobody's now
  obtain⟨f,hf⟩:∃f:Nat->Nat,f=DE 8 0:=⟨_,rfl⟩
  have e5:∀t,t≠8->f t=t:=fun t ht=>by rw[hf];exact ql ht
  have f3:=(h9.trans (a9.mono (S':=fun q=>3<=q) (fun _ h=>zo) zd)).re f (e5 0 zd) (fun b _=>e5 _ (by have:=u4 b;omega));have l4:=b'.re f (e5 0 zd);have s9:=a0.sl;have q':=a0.freeRe zd b' f (by rw[hf];exact zM _ _);replace a2:=a2.re f (e5 4 zd);replace b1:=b1.re f (e5 3 zd);have e9:=(f'.upd a9 zd zd).re f (e5 5 zd);have b5:=(c7.upd a9 zd zd).re f (e5 0 zd) (e5 6 zd);have j5:=(d7.upd a9 zd zd).re f (e5 7 zd);have s':=a0.newV zd b';clear a0;generalize reF f O10=O11 at *;have k6:=d9.upd f3 zd zd;obtain⟨qF,r6⟩:=l7.pre;have n4:nth F2 i=p:=by rw[r6,aA,if_pos g5,hp]
  have hF2l:F.length<=F2.length:=by rw[r6];simp
  have o0:m5.cell? (nA ob 0)=some i7:=e9.cell 0 rfl;refine zh ?_;refine Jg yy b5.row l4 ((.slice ra r2.length rc:ix)) (fun _=>rfl) rfl rfl rfl (by simp[I2]) zo zo zo zd rfl rfl ?_;intro b2 i5 O12 a8 a5 i3;have c':=e9.upd a5 zd zd
  have j8:RwO O12 i5 6 b2 (i6++[.slice ra r2.length rc]) (a7++[r2]):=⟨a8,by simp[n2],fun k hk=>by
   rw[aA,aA]
   by_cases e:k<a7.length
   ·rw[if_pos zo,if_pos e];exact⟨(b5.at_ k e).1.upd (b5.at_ k e).2 a5,(b5.at_ k e).2.upd a5⟩
   have t3:k=a7.length:=by simp at hk;omega
   subst t3;rw[if_neg zo,if_neg e,show a7.length-i6.length=0 from by omega,JB,ax,ax]
   exact⟨s9.upd q' a5,q'.upd a5⟩⟩
  refine zh ?_;refine aj (j:=0) c' rfl (sizeOf89 _) a8.one rfl rfl rfl ?_
  have b3:IP (fun j=>j=5) O12 i5 O12 (i5.setCell ⟨ob,0,none⟩ b2):=JA zd c'.tag rfl;have e8:JM O12 (i5.setCell ⟨ob,0,none⟩ b2) 5 ob #[b2,f5] 91:=c'.set 0 _;have j7:=j8.upd b3 zd zd;have i2:=i3.upd b3;generalize i5.setCell ⟨ob,0,none⟩ b2=d6 at *;have a6:=(a5.mono (S':=fun q=>q=5\/q=6) (fun _ h=>.inr h) zd).trans (b3.mono (fun _ h=>.inl h) zd);have j4:=j5.upd a6 zd zd;have a3:=a2.upd a6 zd zd;have i4:=b1.upd a6 zd zd;have d0:=k6.upd a6 zd zd;have d5:=f3.trans (a6.mono (fun _ h=>zo) zd);have j3:=i8.upd f6 (b4.trans (d5.mono (fun _ h=>zo) zd));refine zh ?_;have d1:d6.drew.cell? (nA db 1)=some tv:=d0.cell 1 rfl;have d2:d6.drew.cell? (adr b6 1 i)=some (nI (p:Int)):=by have:=a3.sl.cell (i:=i) (j:=0) zo rfl;rw[ay,n4]at this;exact this
  have d3:d6.drew.cell? (adr tv 1 p)=some (.int .u64 ((nth a' p:Nat):Int)):=by have:=j3.cell (i:=p) (j:=0) zo rfl;rwa[ay]at this
  have d4:d6.drew.cell? (nA ob 1)=some f5:=e8.cell 1 rfl;have o9:IP (fun _=>False) O12 d6 O12 d6.drew:=aa (fun h=>h) O12 (I9 d6).drew;refine aL (fun W=>W.cell? (nA db 1)=some tv/\W.cell? (adr b6 1 i)=some (nI (p:Int))/\W.cell? (adr tv 1 p)=some (.int .u64 ((nth a' p:Nat):Int))) 14 rfl zk ?_;refine zin ⟨d1,d2,d3⟩ fun zS=>?_
  refine zrf 0 rfl zS rfl ?_;refine zrf 2 rfl zS rfl ?_
  refine zt 3 rfl zS (fun w1 j1=>RV.ld j1.1 rfl) ?_;refine zrm 4 rfl zS rfl ?_
  refine zrm 5 rfl zS rfl ?_;refine zr 6 rfl zS (fun _=>az a3.sl.sh ka (I8 _) rfl rfl i rfl zo) ?_
  refine zt 7 rfl zS (fun w1 j1=>RV.ld j1.2.1 rfl) ?_;refine zr 8 rfl zS (fun _=>az j3.sh Lz (sizeOf24 _) rfl rfl p rfl zo) ?_
  refine zt 9 rfl zS (fun w1 j1=>RV.ld j1.2.2 rfl) ?_;refine bO 1 10 iV (enc:=fj) (nth a' p) rfl rfl zk zk zk zk (fun W hE=>LN (hE.cell d4) (isAgg28 _) rfl) (fun W hE=>⟨hE.cell d1,hE.cell d2,hE.cell d3⟩) rfl rfl rfl zd rfl rfl rfl rfl rfl ?_
  intro s3 s2 j6 p8;have h7:IP (fun _=>False) O12 d6 O12 s2:=o9.trans (aa (fun h=>h) O12 p8);refine IW 11 zk rfl ?_;refine aC iV (j4.upd h7 zd (fun h=>h)) (i2.upd h7) j6 (by simp) rfl rfl (by simp) (by simp[I2]) (by rw[IE];omega) (by rw[IE];omega) zd rfl ?_;intro c6 e6 O15 e7 p2 p6;have a4:IP (fun q=>q=7) O12 d6 O15 e6:=(h7.mono (fun _ h=>h.elim) zd).trans p2;have c9:=e8.upd a4 zd zd;have l2:=d5.trans (a4.mono (fun _ h=>zo) zd);have e1:e6.cell? (nA db 1)=some tv:=(d0.upd a4 zd zd).cell 1 rfl;have e2:e6.cell? (adr b6 1 i)=some (nI (p:Int)):=by have:=(a3.upd a4 zd zd).sl.cell (i:=i) (j:=0) zo rfl;rw[ay,n4]at this;exact this
  have e3:e6.cell? (adr tv 1 p)=some (.int .u64 ((nth a' p:Nat):Int)):=by have:=(i8.upd f6 (b4.trans (l2.mono (fun _ h=>zo) zd))).cell (i:=p) (j:=0) zo rfl;rwa[ay]at this
  refine zh ?_;refine ae (⟨e1,e2,e3⟩) ?_
  refine zrf 12 rfl (⟨e1,e2,e3⟩) rfl ?_;refine IW 13 zk rfl ?_
  refine aj (j:=1) c9 rfl (sizeOf28 _) e7.one rfl rfl rfl ?_;have h':IP (fun j=>j=5) O15 e6 O15 (e6.setCell ⟨ob,1,none⟩ c6):=JA zd c9.tag rfl;have k3:JM O15 (e6.setCell ⟨ob,1,none⟩ c6) 5 ob #[b2,c6] 91:=c9.set 1 _;generalize e6.setCell ⟨ob,1,none⟩ c6=w16 at *;have a1:=(a4.mono (S':=fun q=>q=5\/q=7) (fun _ h=>.inr h) zd).trans (h'.mono (fun _ h=>.inl h) zd);have e':=d5.trans (a1.mono (fun _ h=>zo) zd);have g1:w16.cell? (nA db 1)=some tv:=(d0.upd a1 zd zd).cell 1 rfl;have g2:w16.cell? (adr b6 1 i)=some (nI (p:Int)):=by have:=(a3.upd a1 zd zd).sl.cell (i:=i) (j:=0) zo rfl;rw[ay,n4]at this;exact this
  have g3:w16.cell? (adr tv 1 p)=some (.int .u64 ((nth a' p:Nat):Int)):=by have:=(i8.upd f6 (b4.trans (e'.mono (fun _ h=>zo) zd))).cell (i:=p) (j:=0) zo rfl;rwa[ay]at this
  refine zh ?_;refine ae (⟨g1,g2,g3⟩) ?_
  refine JR zk ?_;refine zh ?_
  refine zxd (i+1,O15,w16,D10,F2,b6,b2,c6,i6++[.slice ra r2.length rc],a7++[r2],i'++[nth a' p]) (⟨e',p6.upd h',i4.upd a1 zd zd,c5,a3.upd a1 zd zd,k3,j7.upd a1 zd zd,e7.upd h' zd zd,p7,by dsimp only;rw[n'];exact i9,fun k hk=>?_⟩);dsimp only at hk ⊢;rw[aA]
  by_cases e:k<i6.length
  ·rw[if_pos e];exact g4 k zo
  rw[if_neg e,show k-i6.length=0 from by simp at hk;omega,ax];exact s'
 intro t5;have t2:=f4.le;obtain rfl:i=F.length:=dF t5;have j9:cL cl rows a'=(a7,i'):=by
  rw[<-i9];obtain⟨fu,o3⟩:∃fu,rows.length+1-F.length=fu+1:=⟨rows.length-F.length,zo⟩
  rw[o3,fe,if_neg zo]
 have o1:=c7.row.one;have o2:=d7.one;have g9:=g'.upd h9 zd zd;refine zh ?_;refine zv (ah (us:=[i7,f5]) f'.cellsAdd (JX _) (Jr _) rfl) ?_;refine zsb (us:=#[i7,f5]) g9 (Jr _) (by simp only[IJ,o1,o2];rfl) ?_;have t6:=g9.setRow (us:=#[i7,f5]);have b8:IP (fun j=>j=2) O9 w9 O9 (w9.setRow cb #[i7,f5]):=IV zd g9.tag rfl;have d8:=c7.upd b8 zd zd;have j2:=d7.upd b8 zd zd;refine zh ?_;refine aJ rfl rfl (t6.cellsAdd) (JX _) (Jr _) (⟨cl,i7,f5,rfl,o1,o2,((b4.trans (h9.mono (fun _ h=>zo) zd)).trans (b8.mono (fun _ h=>zo) zd)).ext,by rw[d'];exact t7,by rw[j9];exact⟨i6,d8.row.sl,d8.row.newV zd (m0.upd b8),d8.len,fun k hk=>⟨(d8.at_ k hk).1,g4 k hk⟩⟩,by rw[j9];exact j2.sl,j2.newV zd (m0.upd b8)⟩)
end Go.Proofs.YtpfpmhhigheccaaGreatDoor
end
section
namespace Go.VL
section
variable{P:K6}{N:Nat}{st:St}{w:I0}{t:JL}{x:Ld}
theorem Bm{κ ν:Type}{kv:κ->ix}{vv:ν->ix}{T K E:JL}{O:Nat->Nat}{i r:Nat}{l:List (κ×ν)}(hm:JC kv vv O w i r l)(hu:P.underlying T=some (.map K E))(hx:ev st x=some (.map (some r))):RV P N (.call ⟨.builtin .len,#[x],#[T]⟩) t st w (nI (l.length:Int)):=
 fun a ha a0 p e g=>by
  obtain⟨es,c,h1,h2⟩:=hm.blk;have h3:es.size=l.length:=by have:=congrArg Lh h2;simpa using this
  simp only[execOp,resolve,List.map_toArray,J7,Kq,ha.ev hx];simp[invoke,Go.builtin,LO,run_underlying hu,goInt,getObj,Sem.run,h1,h3]
end
section
variable{P:K6}{N:Nat}{ops:Array KQ}{Q:Lq→Act→I0→Prop}{rest:List KQ}{st:St}{w:I0}
variable{t:JL}{p:String}{e:Array Edge}{d:Nat}
theorem kK{T E:JL}{sz a0:Nat}(he:Lj P T E sz a0){α:Type}(enc:α->List ix){B:Nat}{O:Nat->Nat}(r:JY B O w)(i:Nat)(a1:i≠0)(hd:KA d N=true) 
  (h:∀v w' O',Jm enc E sz O' w' i v []->IP (fun k=>k=i) O w O' w'->JY B O' w'->WL P N ops Q rest ((d,v)::st) w'):WL P N ops Q (⟨some d,.buildSlice T 0 #[],t,p,e,none⟩::rest) st w:=by
 obtain⟨a2,z,hi,hz,a4,a5,a3⟩:=he.parts;have u1:=L4 (S:=fun k=>k=i) (fun e=>a1 e.symm) r (.cells #[] E) i;refine WL.val (v:=.slice (some ⟨w.heap.size,0,none⟩) 0 0) (w':=w.alloc (.cells #[] E)) hd (fun a ha=>?_) (h _ _ (jI O w.heap.size i) ⟨⟨?_,fun g hg=>?_⟩,fun c hc=>absurd hc (by simp)⟩ u1 (r.upd u1))
 ·simp[execOp,Instr.buildSlice,run_underlying he.ht,sizeOf,typeInfo,hi,Instr.fill,newRow,newObj,show Array.range 0 = #[]from rfl];rfl
 ·have:=KN (base:=0) (size:=sz) (e:=E) w #[] 0 (I1 _) (by simp[maxLen]) (by simp);simpa using this
 simp[L3]at hg;subst hg;exact cT _ _ _
end
end Go.VL
namespace Go.Proofs.YtpfpmhhigheccaaGreatDoor
open Go.VL Go.Proofs
set_option maxRecDepth 10000
def ek:List Int->Nat->Nat
 |[],n=>n
 |g::r,n=>if g<0\/(n:Int)<g then 0 else ek r (max n (g.toNat+1))
def fX(l:List Int):Nat:=if l.length=37 then ek l 0 else 0
theorem iy(l:List Int)(sv:ix)(w:I0)(h:Sl encI 1 w sv l): JZ IU 29 [sv] w fun v w' => v = .int .i64 ((fX l:Nat):Int) ∧ w' = w := by
  have hl := h.len_le
  refine I3 func29 ntmps29 rfl rfl ?_
  refine zh ?_
  refine zC ?_ ?_
  · intro hne
    refine zh ?_
    refine af rfl rfl (⟨by unfold fX; rw[if_neg (fun e => by rw[e]at hne; simp at hne)]; rfl, rfl⟩)
  · intro he
    replace he : l.length = 37 := by have : (l.length : Int) = 37 := by simpa using he
                                     omega
    have hm:fX l = ek l 0 := by unfold fX; rw[if_pos he]
    rw[hm]
    refine zh ?_
    refine zlp (fun z:Nat×Nat => [(3, .int .i64 z.2), (9, sv), (10, .int .i64 l.length), (11, .int .i64 z.1)]) (fun z => w) (fun z => z.1 ≤ l.length ∧ z.2 ≤ z.1 ∧ ek (l.drop z.1) z.2 = ek l 0) (fun z => l.length - z.1) (0, 0) (⟨I1 _, ID _, rfl⟩) ?_
    rintro⟨i, n⟩ ⟨hi, hn, heq⟩
    dsimp only at hi hn heq ⊢
    refine zh ?_
    refine zC ?_ ?_
    · intro hlt
      replace hlt:i < l.length := by have := of_decide_eq_true hlt; omega
      have m1:w.cell? (adr sv 1 i) = some (.int .i64 (nth l i)) := by have := h.cell (i := i) (j := 0) hlt rfl; rwa[ay]at this
      rw[List.drop_eq_getElem_cons hlt, ← aB hlt, ek]at heq
      refine zh ?_
      by_cases h0:nth l i < 0
      · rw[if_pos (.inl h0)]at heq
        rw[← heq]
        refine au (d := 17) rfl (b' := true) ((decide_eq_true h0)) ?_
        refine zh ?_
        refine zTH rfl rfl ?_
        refine af rfl rfl (⟨rfl, rfl⟩)
      · skip
        refine au (d := 17) rfl (b' := false) ((decide_eq_false h0)) ?_
        refine zh ?_
        refine zC ?_ ?_
        · intro h1
          replace h1:(n:Int) < nth l i := of_decide_eq_true h1
          rw[if_pos (.inr h1)]at heq
          rw[← heq]
          refine zh ?_
          refine af rfl rfl (⟨rfl, rfl⟩)
        · intro h1
          replace h1:¬(n:Int) < nth l i := of_decide_eq_false h1
          rw[if_neg (fun h => h.elim h0 h1)]at heq
          refine zh ?_
          refine zvH (jF rfl rfl) ?_
          rw[show max (n:Int) (nth l i + 1) = ((max n ((nth l i).toNat + 1):Nat):Int)from by omega]
          refine zxd (i + 1, max n ((nth l i).toNat + 1)) (⟨hlt, by dsimp only; omega, heq⟩)
    · intro hge
      obtain rfl:i = l.length := by have := of_decide_eq_false hge; omega
      rw[List.drop_length, ek]at heq
      rw[← heq]
      refine zh ?_
      refine af rfl rfl (⟨rfl, rfl⟩)
abbrev xS(d:ix×ix):List ix:=[d.1,d.2]
def pC(rows:List (List Nat))(m:Nat):List UInt8:=rows.flatMap fun r=>[Jj (nth r m / 256),Jj (nth r m % 256)]
def nu(tabs:List (List (List Nat)))(m:Nat):List UInt8:=tabs.flatMap fun rows=>pC rows m
theorem kG(rows:List (List Nat))(m:Nat):(pC rows m).length=2*rows.length:=by
 unfold pC
 induction rows with
 |nil=>rfl
 |cons r l ih=>rw[JI,JE,ih];simp;omega
structure TabsD(w:I0)(sv:ix)(ds:List (ix×ix))(tabs:List (List (List Nat)))(tlss:List (List Nat)):Prop where
 sl:Sl xS 2 w sv ds
 l1:tabs.length=ds.length
 l2:tlss.length=ds.length
 at_:∀i,i<ds.length->Kw w (nth ds i).1 (nth tabs i)/\Sl fj 1 w (nth ds i).2 (nth tlss i)/\Kx (nth tabs i) (nth tlss i)
theorem TabsD.ext{w w':I0}{sv:ix}{ds:List (ix×ix)}{tabs:List (List (List Nat))}{a0:List (List Nat)}(h:TabsD w sv ds tabs a0)(e:Js w w'):TabsD w' sv ds tabs a0:=
 ⟨h.sl.ext e,h.l1,h.l2,fun i hi=>⟨(h.at_ i hi).1.ext e,(h.at_ i hi).2.1.ext e,(h.at_ i hi).2.2⟩⟩
theorem RowsN.one{w:I0}{v:ix}{rows:List (List Nat)}(h:Kw w v rows):v.oneCell'=true:=by
 obtain⟨vs,h1,_⟩:=h;exact h1.one
theorem xX(ds:List (ix×ix))(tabs:List (List (List Nat)))(b3:List (List Nat))(sv:ix)(m:Nat)(w:I0)(h:TabsD w sv ds tabs b3)(hm:m<37)(e7:ds.length<=1000):
  JZ IU 63 [sv,nI (m:Nat)] w fun v w'=>v=.string (bs (nu tabs m))/\Js w w':=by
 have d2:=h.l1;have e4:=h.sl;refine I3 func63 ntmps63 rfl rfl ?_;refine zh ?_;refine zlp (fun z:Nat×ix×(Nat->Nat)×World=>[(1,nI (m:Nat)),(5,z.2.1),(10,sv),(11,nI ds.length),(12,nI z.1)]) (fun z=>z.2.2.2) (fun z=>z.1<=ds.length/\Jm AT 5 1 z.2.2.1 z.2.2.2 1 z.2.1 (nu (tabs.take z.1) m)/\(nu (tabs.take z.1) m).length<=2000*z.1/\IP (fun q=>1<=q) (fun _=>0) w z.2.2.1 z.2.2.2/\JY w.heap.size z.2.2.1 z.2.2.2) (fun z=>ds.length-z.1) (0,nS,fun _=>0,w) (⟨I1 _,IL _ _ _ _ _ _,I1 _,Jo zd _ _,aw w⟩) ?_;rintro⟨i,v1,O1,w1⟩ ⟨hi,a2,d3,hU,hR⟩;dsimp only at hi a2 d3 hU hR ⊢;have h1:=h.ext hU.ext;have d1:=h1.sl;refine zh ?_;refine zC ?_ ?_
 ·intro a5;replace a5:i<ds.length:=dT a5;obtain⟨c9,c7,b8⟩:=h1.at_ i a5;have o1:=c9.one;have o2:=c7.one;obtain⟨rows,a1⟩:∃rows,rows=nth tabs i:=⟨_,rfl⟩
  rw[<-a1]at c9 b8;have e5:=b8.le;have c8:nu (tabs.take (i+1)) m=nu (tabs.take i) m++pC rows m:=by
   unfold nu;rw[aI zo,KJ,<-a1];simp
  refine zh ?_;refine zv (ah (us:=xS (nth ds i)) (fun j u hu=>d1.cell a5 hu) (JX _) (Jr _) rfl) ?_
  refine ar hR 2 zo (KY _) rfl ?_;intro db w2 O2 a4 d9 e1 e8;refine zsb (us:=#[(nth ds i).1,(nth ds i).2]) a4 (Jr _) (by simp only[IJ,o1,o2];rfl) ?_
  have b':=a4.setRow (us:=#[(nth ds i).1,(nth ds i).2]);have c':IP (fun j=>j=2) O2 w2 O2 (w2.setRow db #[(nth ds i).1,(nth ds i).2]):=IV zd a4.tag rfl;have b0:=d9.trans c';have a9:=a2.upd b0 zd zd;have e0:=e1.upd c';have b2:=hU.trans (b0.mono (fun _ h=>zo) zd);generalize w2.setRow db #[(nth ds i).1,(nth ds i).2]=w3 at *;have c0:w3.cell? (nA db 0)=some (nth ds i).1:=b'.cell 0 rfl;have b7:Kw w (nth ds i).1 rows:=by rw[a1];exact(h.at_ i a5).1
  obtain⟨vs,a6,e3,a7⟩:=b7;have e2:=a6.ext b2.ext;refine zh ?_;refine zlp (fun y:Nat×ix×(Nat->Nat)×World=>[(1,nI (m:Nat)),(5,y.2.1),(10,sv),(11,nI ds.length),(12,nI i),(17,(nth ds i).1),(18,nI vs.length),(19,nI y.1)]) (fun y=>y.2.2.2) (fun y=>y.1<=rows.length/\Jm AT 5 1 y.2.2.1 y.2.2.2 1 y.2.1 (nu (tabs.take i) m++pC (rows.take y.1) m)/\IP (fun q=>1<=q) (fun _=>0) w y.2.2.1 y.2.2.2/\JY w.heap.size y.2.2.1 y.2.2.2) (fun y=>rows.length-y.1) (0,v1,O2,w3) (⟨I1 _,by dsimp only;rw[List.take_zero];exact(by simpa[pC]using a9),b2,e0⟩) ?_;rintro⟨j,v4,O4,w4⟩ ⟨hj,a0,a',c6⟩;dsimp only at hj a0 a' c6 ⊢;have b5:=a6.ext a'.ext;have d6:=kG (rows.take j) m;have c7:(rows.take j).length<=j:=by simp;omega
  refine zh ?_;refine zC ?_ ?_
  ·intro a3;replace a3:j<rows.length:=dT a3;have b9:=(a7 j a3).ext a'.ext;obtain⟨r1,r2⟩:=b8.row j a3;obtain⟨p,hp⟩:∃p,p=nth (nth rows j) m:=⟨_,rfl⟩
   have e6:p<=999:=by have:=r2 m hm;rw[<-hp]at this;omega
   have m1:w4.cell? (adr (nth ds i).1 1 j)=some (nth vs j):=by have:=b5.cell (i:=j) (j:=0) zo rfl;rwa[ay]at this
   have b6:pC (rows.take (j+1)) m=pC (rows.take j) m++[Jj (p / 256),Jj (p % 256)]:=by
    unfold pC;rw[aI a3,KJ,hp];simp
   refine zh ?_;have k1:w4.drew.cell? (adr (nth vs j) 1 m)=some (nI (p:Int)):=by have:=b9.cell (i:=m) (j:=0) zo rfl;rw[ay]at this;rw[hp];exact this
   refine aL (fun W=>W.cell? (adr (nth vs j) 1 m)=some (nI (p:Int))) 15 rfl zk ?_;refine zrm 0 rfl k1 rfl ?_
   refine zrm 1 rfl k1 rfl ?_;refine zrm 2 rfl k1 rfl ?_
   refine zr 3 rfl k1 (fun _=>az b9.sh ka (I8 _) rfl rfl m rfl zo) ?_;refine zt 4 rfl k1 (fun w1 b4=>RV.ld b4 rfl) ?_
   refine zr 5 rfl k1 (fun _=>eM (a:=p) (b:=8) rfl rfl rfl rfl zd) ?_;refine zr 6 rfl k1 (fun _=>kP L0 KZ rfl) ?_
   refine zrm 7 rfl k1 rfl ?_;refine zrm 8 rfl k1 rfl ?_
   refine zr 9 rfl k1 (fun _=>az b9.sh ka (I8 _) rfl rfl m rfl zo) ?_;refine zt 10 rfl k1 (fun w1 b4=>RV.ld b4 rfl) ?_
   refine zr 11 rfl k1 (fun _=>kP L0 KZ rfl) ?_;rw[pS p,pS (p / 2^8),show p / 2^8 % 256=p / 256 from by omega];refine IW 12 zk rfl ?_
   refine iQ LA (sizeOf5 _) (zeroValue5 _) AT [Jj (p / 256),Jj (p % 256)] rfl rfl rfl rfl zk (by simp) rfl ?_;intro bv w5 d7 d0;have c5:IP (fun _=>False) O4 w4 O4 w5:=(aa (fun h=>h) O4 (I9 w4).drew).trans (aa (fun h=>h) O4 d0);refine zh ?_
   refine ae (d0.cell k1) ?_;refine IW 13 zk rfl ?_
   refine aC Ii (a0.upd c5 zd fun h=>h) (c6.upd c5) d7 (by simp) rfl rfl (by simp) (by simp[I2]) (by simp;omega) (by simp;omega) zd rfl ?_;intro v6 w6 O6 a8 d8 d';have b1:IP (fun q=>1<=q) (fun _=>0) w O6 w6:=(a'.trans (c5.mono (fun _ h=>h.elim) zd)).trans (d8.mono (fun _ h=>zo) zd);have k6:w6.cell? (adr (nth vs j) 1 m)=some (nI (p:Int)):=by have:=((a7 j a3).ext b1.ext).cell (i:=m) (j:=0) zo rfl;rw[ay]at this;rw[hp];exact this
   refine zh ?_;refine ae (k6) ?_
   refine zra 14 rfl (k6) rfl ?_;refine JR zk ?_
   refine zh ?_;refine zxd (j+1,v6,O6,w6) (⟨a3,by dsimp only;rw[b6,<-List.append_assoc];exact a8,b1,d'⟩)
  intro d4;obtain rfl:j=rows.length:=dF d4;rw[II]at a0 d6;refine zh ?_;refine zxd (i+1,v4,O4,w4) (⟨a5,by dsimp only;rw[c8];exact a0,by dsimp only;rw[c8,JE];omega,a',c6⟩)
 intro d5;obtain rfl:i=ds.length:=dF d5;rw[<-d2,II]at a2;refine zh ?_;refine zvH (kO a2.sl LA KZ underlying9 rfl) ?_;refine af rfl rfl (⟨rfl,hU.ext⟩)
end Go.Proofs.YtpfpmhhigheccaaGreatDoor
end
namespace Go.Proofs.YtpfpmhhigheccaaGreatDoor
def yw(S:List (List UInt8))(k:List UInt8):Option Nat:=S.findIdx? (· == k)
def A9(S:List (List UInt8))(k:List UInt8):List (List UInt8):=if(yw S k).isSome=true then S else S++[k]
def Bw(S:List (List UInt8))(k:List UInt8):Nat:=(yw S k).getD S.length
def cU(ks:List (List UInt8)):Nat->List (List UInt8)×List Nat
 |0=>([],[])
 |i+1=>(A9 (cU ks i).1 (nth ks i),(cU ks i).2++[Bw (cU ks i).1 (nth ks i)])
theorem Av{S:List (List UInt8)}{s t:List UInt8}(h:yw S s=none):yw (S++[s]) t=if s=t then some S.length else yw S t:=by
 unfold yw at h ⊢;rw[KE]
 by_cases e:s=t
 ·rw[if_pos e];have:K0 (fun o=>o==t) S=none:=by rw[<-e];exact h
  rw[this];simp[Jl,e]
 rw[if_neg e]
 cases K0 (fun o=>o==t) S with
 |some k=>simp
 |none=>simp[Jl,e]
theorem mS(ks:List (List UInt8)):∀i,(cU ks i).2.length=i/\(cU ks i).1.length<=i
 |0=>⟨rfl,ID _⟩
 |i+1=>by
  obtain⟨h1,h2⟩:=mS ks i;unfold cU;refine⟨by simp[h1],?_⟩;dsimp only;unfold A9
  split
  ·omega
  simp;omega
structure NumK(D:List (ByteArray×Int))(S:List (List UInt8)):Prop where
 at_:∀k,bm D (bs k)=(yw S k).map fun n:Nat=>(n:Int)
 len:D.length=S.length
theorem CB{κ ν:Type}[DecidableEq κ]{l:List (κ×ν)}{k:κ}(h:bm l k=none)(x:ν):cx l k x=l++[(k,x)]:=by
 induction l with
 |nil=>rfl
 |cons p r ih=>
  obtain⟨a,y⟩:=p;simp only[bm]at h
  split at h
  ·cases h
  rename_i hn;simp only[cx,if_neg hn,ih h,Kc]
theorem NumK.add{D:List (ByteArray×Int)}{S:List (List UInt8)}(h:NumK D S){s:List UInt8}(hs:yw S s=none):NumK (cx D (bs s) (D.length:Int)) (S++[s]):=by
 refine⟨fun k=>?_,?_⟩
 ·rw[aP,Av hs]
  by_cases e:s=k
  ·rw[if_pos (by rw[e]),if_pos e,h.len];rfl
  rw[if_neg (fun e2=>e (CZ e2)),if_neg e];exact h.at_ k
 rw[CB (by rw[h.at_,hs];rfl)];simp[h.len]
theorem sf(ks:List (List UInt8))(sv:ix)(w:I0)(h:Sl encS 1 w sv ks)(c5:ks.length<=1000):JZ IU 64 [sv] w fun v w'=>Sl aN 1 w' v (cU ks ks.length).2/\Js w w'/\Ky w.heap.size v:=by
 refine I3 func64 ntmps64 rfl rfl ?_;refine zh ?_
 refine bd L8 (fun v:Int=>nI v) (aw w) 2 zd rfl ?_;intro r w1 O1 b8 b1 b5;have h1:=h.ext b1.ext;refine zh ?_
 refine zlp (fun z:Nat×ix×(Nat->Nat)×World×List (ByteArray×Int)=>[(3,.map (some r)),(4,z.2.1),(10,sv),(11,nI ks.length),(12,nI z.1)]) (fun z=>z.2.2.2.1) (fun z=>z.1<=ks.length/\Jm aN 3 1 z.2.2.1 z.2.2.2.1 1 z.2.1 (cU ks z.1).2/\JC L8 (fun v:Int=>nI v) z.2.2.1 z.2.2.2.1 2 r z.2.2.2.2/\NumK z.2.2.2.2 (cU ks z.1).1/\IP (fun q=>1<=q) (fun _=>0) w z.2.2.1 z.2.2.2.1/\JY w.heap.size z.2.2.1 z.2.2.2.1) (fun z=>ks.length-z.1) (0,nS,O1,w1,[]) (⟨I1 _,IL _ _ _ _ _ _,b8,⟨fun k=>rfl,rfl⟩,b1.mono (fun _ h=>zo) zd,b5⟩) ?_;rintro⟨i,v2,O2,w2,D⟩ ⟨hi,a0,a3,hN,a8,a9⟩;dsimp only at hi a0 a3 hN a8 a9 ⊢;have h2:=h.ext a8.ext;obtain⟨b',b9⟩:=mS ks i;refine zh ?_
 refine zC ?_ ?_
 ·intro a6;replace a6:i<ks.length:=dT a6;obtain⟨k,hk⟩:∃k,k=nth ks i:=⟨_,rfl⟩
  have m1:w2.cell? (adr sv 1 i)=some (.string (bs k)):=by have:=h2.cell (i:=i) (j:=0) a6 rfl;rw[ay]at this;rw[hk];exact this
  have a7:=hN.at_ k;have e1:cU ks (i+1)=(A9 (cU ks i).1 k,(cU ks i).2++[Bw (cU ks i).1 k]):=by rw[hk];rfl
  refine zh ?_
  cases a2:yw (cU ks i).1 k with
  |some q=>
   rw[a2]at a7;have f1:A9 (cU ks i).1 k=(cU ks i).1:=by unfold A9;rw[a2];rfl
   have f2:Bw (cU ks i).1 k=q:=by unfold Bw;rw[a2];rfl
   rw[f1,f2]at e1;refine zvH (cG (u:=.tuple #[nI (q:Int),.bool true]) a3 Jy sI (IY _) (bs k) rfl rfl rfl (by rw[a7];rfl)) ?_;refine zFH rfl rfl ?_;refine zv (J9 (u:=nI (q:Int)) a3 Jy sI (IY _) (bs k) rfl rfl rfl (by rw[a7];rfl)) ?_;refine Jg jJ a0 a9 ((q:Nat)) (fun _=>rfl) rfl rfl rfl (by simp[I2]) zo zo zo zd rfl rfl ?_;intro v3 w3 O3 a1 a4 a';refine zh ?_;refine zxd (i+1,v3,O3,w3,D) (⟨a6,by dsimp only;rw[e1];exact a1,a3.upd a4 zd zd,by dsimp only;rw[e1];exact hN,a8.trans (a4.mono (fun _ h=>zo) zd),a'⟩)
  |none=>
   rw[a2]at a7;have f1:A9 (cU ks i).1 k=(cU ks i).1++[k]:=by unfold A9;rw[a2];rfl
   have f2:Bw (cU ks i).1 k=(cU ks i).1.length:=by unfold Bw;rw[a2];rfl
   rw[f1,f2]at e1;have b6:=hN.add a2;have b7:=hN.len;refine zvH (cG (u:=.tuple #[nI 0,.bool false]) a3 Jy sI (IY _) (bs k) rfl rfl rfl (by rw[a7];rfl)) ?_;refine zTH rfl rfl ?_;refine zv (Bm a3 Jy rfl) ?_;refine J5 a3 Jy sI zd (bs k) (D.length:Int) rfl rfl rfl rfl rfl ?_;intro w3 b2 a4;have a1:=a0.upd a4 zd zd;have a':=a9.upd a4;refine zh ?_;refine zv (J9 (u:=nI (((cU ks i).1.length:Nat):Int)) b2 Jy sI (IY _) (bs k) rfl rfl rfl (by rw[aP,if_pos rfl,b7];rfl)) ?_;refine Jg jJ a1 a' (((cU ks i).1.length:Nat)) (fun _=>rfl) rfl rfl rfl (by simp[I2]) zo zo zo zd rfl rfl ?_;intro v4 w4 O4 a5 b0 b4;refine zh ?_;refine zxd (i+1,v4,O4,w4,cx D (bs k) (D.length:Int)) (⟨a6,by dsimp only;rw[e1];exact a5,b2.upd b0 zd zd,by dsimp only;rw[e1];exact b6,(a8.trans (a4.mono (fun _ h=>zo) zd)).trans (b0.mono (fun _ h=>zo) zd),b4⟩)
 intro b3;obtain rfl:i=ks.length:=dF b3;refine zh ?_;refine af rfl rfl (⟨a0.sl,a8.ext,a0.newV zd a9⟩)
theorem elD:Lj IU 119 91 2 48:=⟨Ls,by kernel_rfl,zd⟩
theorem ya(l:List (ix×ix))(sv:ix)(w:I0)(h:Sl xS 2 w sv l)(hz:∀u∈l,(xS u).length=2)(h1:∀u∈l,∀c∈xS u,c.oneCell'=true)(hl:l.length<=100000):
  JZ IU 60 [sv] w fun v w'=>Sl xS 2 w' v l/\Js w w'/\∀(B:Nat) (O:Nat->Nat),JY B O w->Kb O w' v:=by
 obtain⟨a,c,rfl,_,_,ha⟩:=h.shape;refine I3 func60 ntmps60 rfl rfl ?_;refine zh ?_;refine zvH (gi Ls rfl rfl) ?_
 cases a with
 |none=>
  have a4:l=[]:=Ju (Jc fun a3=>by obtain⟨b,o,e⟩:=ha a3;cases e);subst a4;refine zTH rfl rfl ?_;refine af rfl rfl (⟨(IL xS 0 2 (fun _=>0) w 0).sl,I9 _,fun B O _ a n c e hn=>by cases e⟩)
 |some a=>
  refine zFH rfl rfl ?_;refine kK elD xS (aw w) 1 zd rfl ?_
  intro v1 w1 O1 a1 a2 a7;have h2:=h.ext a2.ext;refine zh ?_;refine cF elD a1 a7 h2 rfl rfl hz h1 (by simp;omega) (by simp;omega) zd rfl ?_;intro v2 w2 O2 a0 a5 a6;refine zh ?_;refine af rfl rfl (⟨by have:=a0.sl;rwa[Jw]at this,(a2.trans a5).ext,fun B O hO=>a0.free zd a6 hO⟩)
theorem pF(l:List (Nat))(sv:ix)(w:I0)(h:Sl aN 1 w sv l)(hz:∀u∈l,(aN u).length=1)(h1:∀u∈l,∀c∈aN u,c.oneCell'=true)(hl:l.length<=100000):
  JZ IU 95 [sv] w fun v w'=>Sl aN 1 w' v l/\Js w w'/\∀(B:Nat) (O:Nat->Nat),JY B O w->Kb O w' v:=by
 obtain⟨a,c,rfl,_,_,ha⟩:=h.shape;refine I3 func95 ntmps95 rfl rfl ?_;refine zh ?_;refine zvH (gi ka rfl rfl) ?_
 cases a with
 |none=>
  have a4:l=[]:=Ju (Jc fun a3=>by obtain⟨b,o,e⟩:=ha a3;cases e);subst a4;refine zTH rfl rfl ?_;refine af rfl rfl (⟨(IL aN 0 1 (fun _=>0) w 0).sl,I9 _,fun B O _ a n c e hn=>by cases e⟩)
 |some a=>
  refine zFH rfl rfl ?_;refine kK jJ aN (aw w) 1 zd rfl ?_
  intro v1 w1 O1 a1 a2 a7;have h2:=h.ext a2.ext;refine zh ?_;refine cF jJ a1 a7 h2 rfl rfl hz h1 (by simp;omega) (by simp;omega) zd rfl ?_;intro v2 w2 O2 a0 a5 a6;refine zh ?_;refine af rfl rfl (⟨by have:=a0.sl;rwa[Jw]at this,(a2.trans a5).ext,fun B O hO=>a0.free zd a6 hO⟩)
theorem lD(l:List (Nat))(sv:ix)(w:I0)(h:Sl fj 1 w sv l)(hz:∀u∈l,(fj u).length=1)(h1:∀u∈l,∀c∈fj u,c.oneCell'=true)(hl:l.length<=100000):
  JZ IU 96 [sv] w fun v w'=>Sl fj 1 w' v l/\Js w w'/\∀(B:Nat) (O:Nat->Nat),JY B O w->Kb O w' v:=by
 obtain⟨a,c,rfl,_,_,ha⟩:=h.shape;refine I3 func96 ntmps96 rfl rfl ?_;refine zh ?_;refine zvH (gi Lz rfl rfl) ?_
 cases a with
 |none=>
  have a4:l=[]:=Ju (Jc fun a3=>by obtain⟨b,o,e⟩:=ha a3;cases e);subst a4;refine zTH rfl rfl ?_;refine af rfl rfl (⟨(IL fj 0 1 (fun _=>0) w 0).sl,I9 _,fun B O _ a n c e hn=>by cases e⟩)
 |some a=>
  refine zFH rfl rfl ?_;refine kK iV fj (aw w) 1 zd rfl ?_
  intro v1 w1 O1 a1 a2 a7;have h2:=h.ext a2.ext;refine zh ?_;refine cF iV a1 a7 h2 rfl rfl hz h1 (by simp;omega) (by simp;omega) zd rfl ?_;intro v2 w2 O2 a0 a5 a6;refine zh ?_;refine af rfl rfl (⟨by have:=a0.sl;rwa[Jw]at this,(a2.trans a5).ext,fun B O hO=>a0.free zd a6 hO⟩)
theorem ot{F:KU}(hF:∀(args:Array ix) (w:I0),(callFunc F args).run IU w=.ok (.enter F args) w)(cs:Array ix)(l:List (ix×ix))(sv:ix)(q:Nat->Bool)(w:I0)(h:Sl xS 2 w sv l) 
  (hq:∀i,i<l.length->∀w',Js w w'->JZ IU F ([(fun d:ix×ix=>Ll #[d.1,d.2]) (nth l i)]++cs.toList) w' fun v w''=>v=.bool (q i)/\Js w' w'') :
  JZ IU 93 [sv,.func (.func F) #[] cs] w fun v w'=>v=nI (dw q l.length)/\Js w w':=by
 have hl:=h.len_le;refine I3 func93 ntmps93 rfl rfl ?_;refine zh ?_;refine zlp (fun x:Nat×I0=>[(0,sv),(1,.func (.func F) #[] cs),(7,nI l.length),(8,nI x.1)]) (fun x=>x.2) (fun x=>x.1<=l.length/\Js w x.2/\∀i,i<x.1->q i=false) (fun x=>l.length-x.1) (0,w) (⟨I1 _,I9 _,fun i hi=>absurd hi (I4 i)⟩) ?_;rintro⟨k,w1⟩ ⟨hk,hE,a1⟩;dsimp only at hk hE a1 ⊢;have h1:=h.ext hE;refine zh ?_;refine zC ?_ ?_
 ·intro a0;replace a0:k<l.length:=dT a0;refine zh ?_;refine zv (ah (us:=xS (nth l k)) (fun j u hu=>h1.cell a0 hu) (JX _) (Jr _) rfl) ?_;refine dq rfl hF rfl (hq k a0 w1 hE) rfl ?_;rintro v w2 ⟨rfl,a3⟩;refine zh ?_;refine zC ?_ ?_
  ·intro hy;refine zh ?_;refine af rfl rfl (⟨by rw[ct a0 hy a1],hE.trans a3⟩)
  intro hy;refine zh ?_;refine zxd (k+1,w2) (⟨a0,hE.trans a3,fun i hi=>(IR.1 hi).elim (a1 i) (fun e=>by rw[e];exact hy)⟩)
 intro a2;replace a2:l.length<=k:=dF a2;refine zh ?_;refine af rfl rfl (⟨by rw[cn fun i hi=>a1 i zo],hE⟩)
theorem uC(nv tv:ix)(rows:List (List Nat))(a0:List Nat)(w:I0)(hn:Kw w nv rows)(a2:Sl fj 1 w tv a0)(hr:Kx rows a0):JZ IU 61 [.agg #[nv,tv]] w fun v w'=>v=.bool false/\Js w w':=by
 refine I3 func61 ntmps61 rfl rfl ?_;refine zh ?_
 refine aF (aw w) 1 zo rfl rfl ?_;intro db w1 O1 a3 a5 a6 a1;refine zh ?_
 refine zv (ah (us:=[nv,tv]) a3.cellsAdd (JX _) (Jr _) rfl) ?_;refine zc LJ (jB nv tv rows a0 w1 (hn.ext a1) (a2.ext a1) hr) ?_
 rintro _ w2 ⟨rfl,a4⟩;refine zh ?_;refine af rfl rfl (⟨rfl,a1.trans a4⟩)
theorem uH{F:KU}(hF:∀(args:Array ix) (w:I0),(callFunc F args).run IU w=.ok (.enter F args) w)(cs:Array ix)(l:List (ix×ix))(sv:ix)(w:I0)(h:Sl xS 2 w sv l) 
  (hq:∀i,i<l.length->∀w',Js w w'->JZ IU F ([(fun d:ix×ix=>Ll #[d.1,d.2]) (nth l i)]++cs.toList) w' fun v w''=>v=.bool false/\Js w' w'') :
  JZ IU 59 [sv,.func (.func F) #[] cs] w fun v w'=>v=sv/\Js w w':=by
 refine I3 func59 ntmps59 rfl rfl ?_;refine zh ?_
 refine zc call93 (ot hF cs l sv (fun _=>false) w h hq) ?_;rintro _ w1 ⟨rfl,a0⟩;rw[cn (q:=fun _=>false) fun i hi=>rfl];refine zh ?_
 refine zTH rfl rfl ?_;refine af rfl rfl (⟨rfl,a0⟩)
def bD(tabs:List (List (List Nat))):List Nat:=(cU ((I6 37).map (nu tabs)) 37).2
theorem GU:Lj IU 123 9 1 16:=⟨underlying123,by kernel_rfl,zd⟩
theorem xM(ds:List (ix×ix))(tabs:List (List (List Nat)))(a2:List (List Nat))(sv:ix)(w:I0)(h:TabsD w sv ds tabs a2)(b8:ds.length<=1000):
  JZ IU 36 [sv] w fun v w'=>Sl aN 1 w' v (bD tabs)/\Js w w'/\Ky w.heap.size v:=by
 have b5:=h.sl;have a8:∀u∈ds,∀c∈xS u,c.oneCell'=true:=fun u hu c hc=>by
  obtain⟨j,hj,rfl⟩:=IC hu
  rcases I7.1 hc with rfl|hc
  ·exact(h.at_ j hj).1.one
  rw[IG.1 hc];exact(h.at_ j hj).2.1.one
 refine I3 func36 ntmps36 rfl rfl ?_;refine zh ?_
 refine zc call60 (ya ds sv w b5 (fun _ _=>rfl) a8 zo) ?_;rintro a6 w1 ⟨b2,a',_⟩;refine zc call59 (uH call61 #[] ds a6 w1 b2 (fun i hi w' b0=>uC _ _ _ _ w' ((h.at_ i hi).1.ext (a'.trans b0)) ((h.at_ i hi).2.1.ext (a'.trans b0)) (h.at_ i hi).2.2)) ?_
 rintro v2 w2 ⟨b1,b4⟩;rw[b1];clear b1 v2;have a1:=a'.trans b4;have c5:TabsD w2 a6 ds tabs a2:=⟨b2.ext b4,h.l1,h.l2,fun i hi=>⟨(h.at_ i hi).1.ext a1,(h.at_ i hi).2.1.ext a1,(h.at_ i hi).2.2⟩⟩
 refine zh ?_;refine zlp (fun z:Nat×ix×(Nat->Nat)×World=>[(0,a6),(3,z.2.1),(8,nI z.1)]) (fun z=>z.2.2.2) (fun z=>z.1<=37/\Jm encS 9 1 z.2.2.1 z.2.2.2 1 z.2.1 ((I6 z.1).map (nu tabs))/\IP (fun q=>q=1) (fun _=>0) w2 z.2.2.1 z.2.2.2/\JY w2.heap.size z.2.2.1 z.2.2.2) (fun z=>37-z.1) (0,nS,fun _=>0,w2) (⟨I1 _,IL _ _ _ _ _ _,Jo zd _ _,aw w2⟩) ?_
 rintro⟨m,v3,O3,w3⟩ ⟨hm,a0,a5,b3⟩;dsimp only at hm a0 a5 b3 ⊢;have b':=c5.ext a5.ext;refine zh ?_;refine zC ?_ ?_
 ·intro a7;replace a7:m<37:=dT a7;refine zh ?_;refine zc call63 (xX ds tabs a2 a6 m w3 b' a7 b8) ?_;rintro _ w4 ⟨rfl,c8⟩;have a9:IP (fun _=>False) O3 w3 O3 w4:=aa (fun h=>h) O3 c8;have a4:=a0.upd a9 zd (fun h=>h);have c9:((I6 m).map (nu tabs)).length=m:=by simp
  refine Jg GU a4 (b3.upd a9) ((nu tabs m)) (fun _=>rfl) rfl rfl rfl (by simp[I2]) zo zo zo zd rfl rfl ?_;intro v5 w5 O5 a3 b9 c6;refine zh ?_
  refine zxd (m+1,v5,O5,w5) (⟨a7,by dsimp only;rw[Jb,IK];exact a3,(a5.trans (a9.mono (fun _ h=>h.elim) zd)).trans b9,c6⟩)
 intro b7;obtain rfl:m=37:=dF b7;refine zh ?_;refine zc call64 (sf _ v3 w3 a0.sl (by simp)) ?_;rintro v6 w6 ⟨h6,c7,b6⟩;refine zh ?_;refine af rfl rfl (⟨by rw[Kg,KS]at h6;exact h6,(a1.trans a5.ext).trans c7,b6.mono (Kz a1.size a5.size)⟩)
attribute [irreducible] bD
def jX:List Int->Nat->Prop
 |[],_=>True
 |g::r,n=>0<=g/\g<=n/\jX r (max n (g.toNat+1))
theorem lr{g:Int}:∀(l:List Int) (n:Nat),jX l n->0<=g->g<=(ek l n:Nat)->jX (l++[g]) n/\ek (l++[g]) n=max (ek l n) (g.toNat+1)
 |[],n,_,h0,h1=>by
  simp only[ek]at h1;simp only[Jw,jX,ek];rw[if_neg zo];exact⟨⟨h0,h1,trivial⟩,rfl⟩
 |a::l,n,h,h0,h1=>by
  obtain⟨a1,a2,a3⟩:=h;simp only[ek]at h1;rw[if_neg zo]at h1;have ih:=lr l _ a3 h0 h1;simp only[Kc,jX,ek];rw[if_neg zo,if_neg zo];exact⟨⟨a1,a2,ih.1⟩,ih.2⟩
theorem vC:∀(l:List Int) (n:Nat),jX l n->n<=ek l n/\∀g∈l,0<=g/\g.toNat<ek l n
 |[],n,_=>⟨ID _,fun g hg=>absurd hg (by simp)⟩
 |a::l,n,h=>by
  obtain⟨a1,a2,a3⟩:=h;have ih:=vC l _ a3;simp only[ek];rw[if_neg zo];refine⟨zo,fun g hg=>?_⟩
  rcases I7.1 hg with rfl|hg
  ·exact⟨a1,zo⟩
  exact ih.2 g hg
abbrev ints(l:List Nat):List Int:=l.map fun n:Nat=>(n:Int)
structure NuI(ks:List (List UInt8))(i:Nat)(S:List (List UInt8))(r:List Nat):Prop where
 len:r.length=i
 lt:∀j,j<i->nth r j<S.length/\nth S (nth r j)=nth ks j
 nd:S.Nodup
 hit:∀k,k<S.length->∃j,j<i/\nth r j=k
 right:jX (ints r) 0
 many:ek (ints r) 0=S.length
theorem Au{S:List (List UInt8)}{s:List UInt8}{k:Nat}(h:yw S s=some k):k<S.length/\nth S k=s:=by
 obtain⟨h1,h2,_⟩:=J3.1 h;exact⟨h1,by rw[aB h1];simpa using h2⟩
theorem Aw{S:List (List UInt8)}{s:List UInt8}(h:yw S s=none):s∉S:=fun hs=>by
 have:=JH.1 h s hs;simp at this
theorem si(ks:List (List UInt8)):∀i,NuI ks i (cU ks i).1 (cU ks i).2
 |0=>⟨rfl,fun j hj=>absurd hj (I4 j),List.nodup_nil,fun k hk=>absurd hk (I4 k),trivial,rfl⟩
 |i+1=>by
  have ih:=si ks i;unfold cU;generalize cU ks i=R at *;obtain⟨S,r⟩:=R;dsimp only at ih ⊢;have hl:=ih.len;have a0:∀(g:Nat),ints (r++[g])=ints r++[(g:Int)]:=fun g=>by simp[ints]
  cases h:yw S (nth ks i)with
  |some k=>
   obtain⟨h1,h2⟩:=Au h;have e1:A9 S (nth ks i)=S:=by unfold A9;rw[h];rfl
   have e2:Bw S (nth ks i)=k:=by unfold Bw;rw[h];rfl
   rw[e1,e2];have hs:=lr (g:=(k:Int)) (ints r) 0 ih.right zo (by rw[ih.many];omega);refine⟨by simp[hl],fun j hj=>?_,ih.nd,fun q hq=>?_,by rw[a0];exact hs.1,by rw[a0,hs.2,ih.many];simp;omega⟩
   ·rw[aA]
    by_cases e:j<r.length
    ·rw[if_pos e];exact ih.lt j zo
    rw[if_neg e,show j-r.length=0 from by omega,ax];obtain rfl:j=i:=zo;exact⟨h1,h2⟩
   obtain⟨j,hj,e⟩:=ih.hit q hq;exact⟨j,zo,by rw[aA,if_pos zo];exact e⟩
  |none=>
   have hn:=Aw h;have e1:A9 S (nth ks i)=S++[nth ks i]:=by unfold A9;rw[h];rfl
   have e2:Bw S (nth ks i)=S.length:=by unfold Bw;rw[h];rfl
   rw[e1,e2];have hs:=lr (g:=(S.length:Int)) (ints r) 0 ih.right zo (by rw[ih.many];omega);refine⟨by simp[hl],fun j hj=>?_,KR.2 ⟨ih.nd,by simp,fun a ha b hb e=>?_⟩,fun q hq=>?_,by rw[a0];exact hs.1,by rw[a0,hs.2,ih.many];simp⟩
   ·rw[aA]
    by_cases e:j<r.length
    ·obtain⟨a1,a2⟩:=ih.lt j zo;rw[if_pos e];exact⟨by simp;omega,by rw[aA,if_pos a1];exact a2⟩
    rw[if_neg e,show j-r.length=0 from by omega,ax];obtain rfl:j=i:=zo;exact⟨by simp,by rw[aA,if_neg zo,JB,ax]⟩
   ·rw[IG]at hb;subst hb;subst e;exact hn ha
   rw[JE,IE]at hq
   by_cases e:q<S.length
   ·obtain⟨j,hj,e⟩:=ih.hit q e;exact⟨j,zo,by rw[aA,if_pos zo];exact e⟩
   exact⟨i,zo,by rw[aA,if_neg zo,show i-r.length=0 from by omega,ax];omega⟩
theorem CL{a b:Nat}(ha:a<256)(hb:b<256)(h:Jj a=Jj b):a=b:=by
 have:=congrArg UInt8.toNat h;simp at this;omega
theorem vT:∀ {rows:List (List Nat)} {i j:Nat},(∀r∈rows,nth r i<=999/\nth r j<=999)->pC rows i=pC rows j->∀r∈rows,nth r i=nth r j
 |[],_,_,_,_=>fun r hr=>absurd hr (by simp)
 |r::rows,i,j,h,e=>by
  obtain⟨h1,h2⟩:=h r (by simp);unfold pC at e;simp only[JI,Kc,Jw,LC]at e;obtain⟨e1,e2,e3⟩:=e;have a1:=CL zo zo e1;have a2:=CL zo zo e2;intro q hq
  rcases I7.1 hq with rfl|hq
  ·omega
  exact vT (fun q hq=>h q (by simp[hq])) e3 q hq
theorem vU:∀ {tabs:List (List (List Nat))} {i j:Nat},(∀rows∈tabs,∀r∈rows,nth r i<=999/\nth r j<=999)->nu tabs i=nu tabs j->∀rows∈tabs,∀r∈rows,nth r i=nth r j
 |[],_,_,_,_=>fun r hr=>absurd hr (by simp)
 |t::tabs,i,j,h,e=>by
  unfold nu at e;simp only[JI]at e;obtain⟨e1,e2⟩:=List.append_inj e (by rw[kG,kG]);intro q hq
  rcases I7.1 hq with rfl|hq
  ·exact vT (h q (by simp)) e1
  exact vU (fun q hq=>h q (by simp[hq])) e2 q hq
structure GrpI(g:List Nat)(many:Nat):Prop where
 len:g.length=37
 lt:∀i,i<37->nth g i<many
 hit:∀k,k<many->∃i,i<37/\nth g i=k
 cnt:fX (ints g)=many
 pos:1<=many
 le:many<=37
theorem zQ{α:Type}{l:List α}(h:l.Nodup){i j:Nat}(hi:i<l.length)(hj:j<l.length)(e:l[i]=l[j]):i=j:=by
 rcases Nat.lt_trichotomy i j with h1|h1|h1
 ·exact absurd e (JG.1 h i j hi hj h1)
 ·exact h1
 exact absurd e.symm (JG.1 h j i hj hi h1)
theorem pc(tabs:List (List (List Nat))):∃many,GrpI (bD tabs) many/\∀i j,i<37->j<37->(nth (bD tabs) i=nth (bD tabs) j↔nu tabs i=nu tabs j):=by
 have h:=si ((I6 37).map (nu tabs)) 37;have a4:=(mS ((I6 37).map (nu tabs)) 37).2;have hk:∀j,j<37->nth ((I6 37).map (nu tabs)) j=nu tabs j:=fun j hj=>by rw[ei (by simpa using hj),aB (by simpa using hj)];simp
 unfold bD;have a0:=h.len;refine⟨(cU ((I6 37).map (nu tabs)) 37).1.length,⟨a0,fun i hi=>(h.lt i hi).1,h.hit,?_,?_,a4⟩,fun i j hi hj=>⟨fun e=>?_,fun e=>?_⟩⟩
 ·unfold fX;rw[if_pos (by rw[Kg];exact a0)];exact h.many
 ·have:=(h.lt 0 zd).1;omega
 ·have h1:=(h.lt i hi).2;have h2:=(h.lt j hj).2;rw[hk i hi]at h1;rw[hk j hj]at h2;rw[<-h1,<-h2,e]
 obtain⟨a1,a2⟩:=h.lt i hi;obtain⟨b1,b2⟩:=h.lt j hj;rw[hk i hi]at a2;rw[hk j hj]at b2;have a3:=h.nd;show nth (cU _ 37).2 i=nth (cU _ 37).2 j;rw[aB a1]at a2;rw[aB b1]at b2;exact zQ a3 a1 b1 (by rw[a2,b2,e])
def oe(g:List Nat)(many:Nat)(a0:List Nat):List Nat:=(I6 many).map fun k=>nth a0 ((g.findIdx? (· == k)).getD 0)
theorem mA(g:List Nat)(many:Nat)(a0:List Nat):(oe g many a0).length=many:=by simp[oe]
theorem ui{g:List Nat}{many:Nat}(hg:GrpI g many){a0:List Nat}(hc:∀i j,i<37->j<37->nth g i=nth g j->nth a0 i=nth a0 j){i:Nat}(hi:i<37):nth (oe g many a0) (nth g i)=nth a0 i:=by
 have a1:=hg.len;have hk:=hg.lt i hi;unfold oe;rw[aB (xs:=List.map _ (I6 many)) (by simpa using hk),KW,List.getElem_range]
 cases hf:g.findIdx? (· == nth g i)with
 |none=>
  have:=JH.1 hf (nth g i) (aM zo);simp at this
 |some q=>
  obtain⟨h1,h2,_⟩:=J3.1 hf;rw[<-aB h1]at h2;exact hc q i zo hi (by simpa using h2)
theorem zV{g:List Nat}{many:Nat}(hg:GrpI g many){a0 a1:List Nat}(hc:∀i j,i<37->j<37->nth g i=nth g j->nth a0 i=nth a0 j)(ho:a1.length=many)(h:∀i,i<37->nth a1 (nth g i)=nth a0 i):a1=oe g many a0:=by
 refine List.ext_getElem (by rw[ho,mA]) fun k h1 h2=>?_
 obtain⟨i,hi,e⟩:=hg.hit k zo;rw[<-aB h1,<-aB h2,<-e,h i hi,ui hg hc hi]
theorem xD(g a1:List Nat)(many:Nat)(gv rv:ix)(w:I0)(hg:GrpI g many)(b1:Sl aN 1 w gv g)(a':Sl aN 1 w rv a1)(b6:a1.length=37)(hc:∀i j,i<37->j<37->nth g i=nth g j->nth a1 i=nth a1 j):
  JZ IU 97 [gv,rv,nI (many:Nat)] w fun v w'=>∃ov,v=.tuple #[ov,.bool true]/\Sl aN 1 w' ov (oe g many a1)/\Js w w'/\∀(B:Nat) (O:Nat->Nat),JY B O w->Kb O w' ov:=by
 have c':=hg.len;have c8:=hg.le;refine I3 func97 ntmps97 rfl rfl ?_;refine zh ?_;refine cZ jJ (val:=fun n:Nat=>nI (n:Int)) (0:Nat) zk (fun _=>rfl) (aw w) 1 zd many rfl rfl rfl rfl zo zo rfl ?_;intro w1 O1 ov b7 a6 c5 c6 b4;clear b7;have d1:=b1.ext b4;have c7:=a'.ext b4;refine zh ?_;rw[show((a1.length:Int)-1)=((37:Nat):Int)-1 from by rw[b6]];refine zlp (fun z:Nat×I0×List Nat=>[(0,gv),(1,rv),(8,ov),(9,nI ((z.1:Int)-1))]) (fun z=>z.2.1) (fun z=>z.1<=37/\Jm aN 3 1 O1 z.2.1 1 ov z.2.2/\IP (fun q=>q=1) O1 w1 O1 z.2.1/\z.2.2.length=many/\∀i,z.1<=i->i<37->nth z.2.2 (nth g i)=nth a1 i) (fun z=>z.1) (37,w1,ln many 0) (⟨ID _,a6,Jo zd _ _,by simp,fun i h1 h2=>by dsimp only at h1;omega⟩) ?_;rintro⟨j,w2,b5⟩ ⟨hj,a0,a7,a8,a2⟩;dsimp only at hj a0 a7 a8 a2 ⊢;have a4:Js w w2:=(c5.trans a7).ext;have b3:=b1.ext a4;have b0:=a'.ext a4;refine zh ?_;refine zC ?_ ?_
 ·intro b2;replace b2:1<=j:=dT b2;obtain⟨m,rfl⟩:∃m,j=m+1:=⟨j-1,zo⟩
  rw[show(((m+1:Nat):Int)-1)=(m:Int)from by omega];have c9:=hg.lt m zo;have k1:w2.cell? (adr gv 1 m)=some (nI ((nth g m:Nat):Int)):=by have:=b3.cell (i:=m) (j:=0) zo rfl;rwa[ay]at this
  have k2:w2.cell? (adr rv 1 m)=some (nI ((nth a1 m:Nat):Int)):=by have:=b0.cell (i:=m) (j:=0) zo rfl;rwa[ay]at this
  refine zh ?_;refine L1 10 rfl rfl zk zk ?_
  refine zh ?_;refine zw (az a0.sl.sh ka (I8 _) rfl rfl (nth g m) rfl zo) ?_
  refine Lo ?_;refine Jt a0.drew (nth g m) zo (nth a1 m) (I8 _) rfl zd rfl rfl rfl rfl ?_
  intro w3 a5 b';refine zh ?_;refine zxd (m,w3,b5.set (nth g m) (nth a1 m)) (⟨by dsimp only;omega,a5,a7.drew.trans b',by dsimp only;rw[J4];exact a8,fun i h1 h2=>?_⟩);dsimp only at h1 ⊢;rw[aT zo]
  split
  ·rename_i e;exact hc m i zo h2 e.symm
  rename_i e;refine a2 i ?_ h2;have:i≠m:=fun e2=>e (by rw[e2])
  omega
 intro b8;obtain rfl:j=0:=dF b8;have a9:=zV hg hc a8 fun i hi=>a2 i (I1 _) hi
 refine zh ?_;refine zlp (fun z:Nat=>[(0,gv),(8,ov),(31,rv),(32,nI a1.length),(33,nI z)]) (fun z=>w2) (fun z=>z<=a1.length) (fun z=>a1.length-z) 0 (I1 _) ?_
 intro i hi;refine zh ?_;refine zC ?_ ?_
 ·intro a3;replace a3:i<a1.length:=dT a3;have d0:=hg.lt i zo;have k1:w2.cell? (adr gv 1 i)=some (nI ((nth g i:Nat):Int)):=by have:=b3.cell (i:=i) (j:=0) zo rfl;rwa[ay]at this
  have k2:w2.cell? (adr rv 1 i)=some (nI ((nth a1 i:Nat):Int)):=by have:=b0.cell (i:=i) (j:=0) zo rfl;rwa[ay]at this
  have k3:w2.cell? (adr ov 1 (nth g i))=some (nI ((nth a1 i:Nat):Int)):=by have:=a0.sl.cell (i:=nth g i) (j:=0) zo rfl;rw[ay,a2 i (I1 _) zo]at this;exact this
  refine zh ?_;refine zvH (az a0.sl.sh ka (I8 _) rfl rfl (nth g i) rfl zo) ?_
  refine zFH rfl ((by simp)) ?_;refine zxd (i+1) (a3)
 intro b9;refine zh ?_;refine bB rfl rfl rfl (⟨ov,rfl,by rw[<-a9];exact a0.sl,a4,fun B O hO=>a0.free zd (c6.upd a7) hO⟩)
theorem _root_.Go.VL.Sl.natIv{w:I0}{v:ix}{l:List Nat}(h:Sl aN 1 w v l):Sl encI 1 w v (l.map fun(n:Nat)=>(n:Int)):=
 ⟨by simpa using h.shape,fun i hi j u hu=>h.cells i (by simpa using hi) j u (by simpa using hu)⟩
theorem DA:cB IU 127 #[(0,1),(1,1),(2,1)]:=⟨_,underlying127,fun w=>by kernel_rfl⟩
theorem Ca(g:List Nat)(many:Nat)(gv nv tv:ix)(rows:List (List Nat))(a':List Nat)(w:I0)(hg:GrpI g many)(g1:Sl aN 1 w gv g)(hn:Kw w nv rows)(h5:Sl fj 1 w tv a')(hr:Kx rows a') 
  (hc:∀p,p<rows.length->∀i j,i<37->j<37->nth g i=nth g j->nth (nth rows p) i=nth (nth rows p) j) :
  JZ IU 65 [gv,.agg #[nv,tv]] w fun v w'=>∃gv' nv' tv',v=.tuple #[.agg #[gv',nv',tv'],nI 0]/\gv'.oneCell'=true/\nv'.oneCell'=true/\tv'.oneCell'=true/\RowsG w.heap.size w' nv' (rows.map (oe g many))/\Sl fj 1 w' tv' a'/\Ky w.heap.size tv'/\Js w w':=by
 have j6:=hr.le;have i1:=hr.tl;have j7:=hg.len;have j4:=hg.pos;have j5:=hg.le;refine I3 func65 ntmps65 rfl rfl ?_;refine zh ?_;refine aF (aw w) 1 zo rfl rfl ?_;intro db w1 O1 g4 i8 j1 j9;refine ar j1 2 zo (Jq _) rfl ?_;intro cb w2 O2 g8 h8 j0 j8;have e7:=g4.upd h8 zd zd;have e9:IP (fun q=>1<=q) (fun _=>0) w O2 w2:=(i8.mono (fun _ h=>zo) zd).trans (h8.mono (fun _ h=>zo) zd);have d4:=e9.ext;refine zh ?_;refine zc call29 (iy (ints g) gv w2 (g1.ext d4).natIv) ?_;rintro _ w3 ⟨rfl,h4⟩;rw[h4,hg.cnt];clear h4 w3;refine zh ?_;refine au (d:=16) rfl (b':=false) ((by rw[beq_eq_false_iff_ne];omega)) ?_;refine zh ?_;refine zvH (ah (us:=[nv,tv]) e7.cellsAdd (JX _) (Jr _) rfl) ?_;refine zc LJ (jB nv tv rows a' w2 (hn.ext d4) (h5.ext d4) hr) ?_;rintro _ w3 ⟨rfl,j2⟩;have f5:IP (fun _=>False) O2 w2 O2 w3:=aa (fun h=>h) O2 j2;have c':=e7.upd f5 zd (fun h=>h);have g7:=g8.upd f5 zd (fun h=>h);have b6:=e9.trans (f5.mono (fun _ h=>h.elim) zd);have i':=j0.upd f5;refine zh ?_;refine zFH rfl rfl ?_;have d1:w3.drew.cell? (nA db 1)=some tv:=c'.cell 1 rfl;refine aL (fun W=>W.cell? (nA db 1)=some tv) 8 rfl zk ?_;refine zrm 0 rfl d1 rfl ?_;refine zrf 2 rfl d1 rfl ?_;refine zt 3 rfl d1 (fun w1 h'=>RV.ld h' rfl) ?_
 refine tp (fun x:ix×ix×Nat×(Nat->Nat)×World=>[(0,gv),(3,nP db),(4,nP cb),(6,nI (many:Nat)),(23,x.1),(26,x.2.1),(7,.pointer (some ⟨x.2.2.1,0,none⟩)),(27,.agg #[x.1,nS,x.2.1])]) (fun x=>x.2.2.2.2) (fun x=>Sl aN 1 x.2.2.2.2 x.1 g/\Sl fj 1 x.2.2.2.2 x.2.1 a'/\Kb x.2.2.2.1 x.2.2.2.2 x.2.1/\JM x.2.2.2.1 x.2.2.2.2 3 x.2.2.1 #[nS,nS,nS] 127/\IP (fun q=>q=3) O2 w3 x.2.2.2.1 x.2.2.2.2/\JY w.heap.size x.2.2.2.1 x.2.2.2.2/\Ky w3.heap.size x.2.1) #[true,true,true,true,true,true,true,false] 1 ?_ ?_
 ·intro hN;have hR:=i'.drew;have hU:IP (fun q=>q=3) O2 w3 O2 w3.drew:=aa zd O2 (I9 w3).drew;have k0:∀O W,IP (fun q=>q=3) O2 w3 O W->W.cell? (nA db 1)=some tv:=fun O W u=>(c'.upd u zd zd).cell 1 rfl
  have kg:∀O W,IP (fun q=>q=3) O2 w3 O W->Sl aN 1 W gv g:=fun O W u=>g1.ext (b6.trans (u.mono (fun _ h=>zo) zd)).ext
  have kt:∀O W,IP (fun q=>q=3) O2 w3 O W->Sl fj 1 W tv a':=fun O W u=>h5.ext (b6.trans (u.mono (fun _ h=>zo) zd)).ext
  refine bI 1 6 zk rfl rfl ?_ ?_ 
  ·refine zc call95 (pF g gv _ (kg _ _ hU) (fun _ _=>rfl) (fun u hu c hc=>by rw[IG.1 hc];rfl) zo) ?_;rintro a1 wa ⟨fA,f4,_⟩;have b2:=fun O=>aa (S:=fun _=>False) (fun h=>h) O f4
   have hU:=JD hU ((b2 _).mono (fun _ h=>h.elim) zd);have hR:=Ka hR (b2 _)
   try have fB:=Ke fB f4
   try have gB:=Kl gB (b2 _)
   try have fC:=JU fC (b2 _) zd (fun h=>h)
   refine zh ?_;refine ae (k0 _ _ hU) ?_
   refine bI 4 6 zk rfl rfl ?_ ?_ 
   ·refine zc LH (lD a' tv _ (kt _ _ hU) (fun _ _=>rfl) (fun u hu c hc=>by rw[IG.1 hc];rfl) zo) ?_;rintro a0 wb ⟨fB,b8,b9⟩;have nB:=(qn b9).mono hU.size;have gB:=b9 _ _ hR;have a9:=fun O=>aa (S:=fun _=>False) (fun h=>h) O b8
    have hU:=JD hU ((a9 _).mono (fun _ h=>h.elim) zd);have hR:=Ka hR (a9 _)
    try have fA:=Ke fA b8
    try have fC:=JU fC (a9 _) zd (fun h=>h)
    refine zh ?_;refine ae (k0 _ _ hU) ?_
    have oA:=KC fA;have oB:=KC fB;refine zr 5 rfl (k0 _ _ hU) (fun _=>aE DA (Jq _) rfl (by simp only[IJ,oA,oB,Je];rfl) rfl rfl) ?_;refine IW 6 zk rfl ?_;refine ar hR 3 zd (Jq _) rfl ?_;intro ob wc Oc fC a8 e' f3;have hU:=JD hU a8;have hR:=e'
    try have fA:=Ke fA f3
    try have fB:=Lu fB gB a8
    try have gB:=Kl gB a8
    refine zh ?_;refine ae (k0 _ _ hU) ?_
    exact WH.leaf (hN (a1,a0,ob,_,_) ⟨fA,fB,gB,fC,hU,hR,nB⟩) zk ⟨rfl,rfl,rfl,rfl,rfl,rfl,rfl,rfl,trivial⟩ rfl
   refine ar hR 3 zd (Jq _) rfl ?_;intro ob wc Oc fC a8 e' f3;have hU:=JD hU a8;have hR:=e'
   try have fA:=Ke fA f3
   try have fB:=Lu fB gB a8
   try have gB:=Kl gB a8
   refine zh ?_;refine ae (k0 _ _ hU) ?_
   refine IW 4 zk rfl ?_;refine zc LH (lD a' tv _ (kt _ _ hU) (fun _ _=>rfl) (fun u hu c hc=>by rw[IG.1 hc];rfl) zo) ?_
   rintro a0 wb ⟨fB,b8,b9⟩;have nB:=(qn b9).mono hU.size;have gB:=b9 _ _ hR;have a9:=fun O=>aa (S:=fun _=>False) (fun h=>h) O b8
   have hU:=JD hU ((a9 _).mono (fun _ h=>h.elim) zd);have hR:=Ka hR (a9 _)
   try have fA:=Ke fA b8
   try have fC:=JU fC (a9 _) zd (fun h=>h)
   refine zh ?_;refine ae (k0 _ _ hU) ?_
   have oA:=KC fA;have oB:=KC fB;refine zr 5 rfl (k0 _ _ hU) (fun _=>aE DA (Jq _) rfl (by simp only[IJ,oA,oB,Je];rfl) rfl rfl) ?_;exact WH.leaf (hN (a1,a0,ob,_,_) ⟨fA,fB,gB,fC,hU,hR,nB⟩) zk ⟨rfl,rfl,rfl,rfl,rfl,rfl,rfl,rfl,trivial⟩ rfl
  refine ar hR 3 zd (Jq _) rfl ?_;intro ob wc Oc fC a8 e' f3;have hU:=JD hU a8;have hR:=e'
  try have fA:=Ke fA f3
  try have fB:=Lu fB gB a8
  try have gB:=Kl gB a8
  refine zh ?_;refine ae (k0 _ _ hU) ?_
  refine IW 1 zk rfl ?_;refine zc call95 (pF g gv _ (kg _ _ hU) (fun _ _=>rfl) (fun u hu c hc=>by rw[IG.1 hc];rfl) zo) ?_
  rintro a1 wa ⟨fA,f4,_⟩;have b2:=fun O=>aa (S:=fun _=>False) (fun h=>h) O f4
  have hU:=JD hU ((b2 _).mono (fun _ h=>h.elim) zd);have hR:=Ka hR (b2 _)
  try have fB:=Ke fB f4
  try have gB:=Kl gB (b2 _)
  try have fC:=JU fC (b2 _) zd (fun h=>h)
  refine zh ?_;refine ae (k0 _ _ hU) ?_
  refine IW 4 zk rfl ?_;refine zc LH (lD a' tv _ (kt _ _ hU) (fun _ _=>rfl) (fun u hu c hc=>by rw[IG.1 hc];rfl) zo) ?_
  rintro a0 wb ⟨fB,b8,b9⟩;have nB:=(qn b9).mono hU.size;have gB:=b9 _ _ hR;have a9:=fun O=>aa (S:=fun _=>False) (fun h=>h) O b8
  have hU:=JD hU ((a9 _).mono (fun _ h=>h.elim) zd);have hR:=Ka hR (a9 _)
  try have fA:=Ke fA b8
  try have fC:=JU fC (a9 _) zd (fun h=>h)
  refine zh ?_;refine ae (k0 _ _ hU) ?_
  have oA:=KC fA;have oB:=KC fB;refine zr 5 rfl (k0 _ _ hU) (fun _=>aE DA (Jq _) rfl (by simp only[IJ,oA,oB,Je];rfl) rfl rfl) ?_;exact WH.leaf (hN (a1,a0,ob,_,_) ⟨fA,fB,gB,fC,hU,hR,nB⟩) zk ⟨rfl,rfl,rfl,rfl,rfl,rfl,rfl,rfl,trivial⟩ rfl
 rintro⟨a1,a0,ob,O7,w7⟩ ⟨e5,c5,c9,b1,b4,h9,e4⟩;dsimp only at e5 c5 c9 b1 b4 h9 e4 ⊢;have o1:=e5.one;have o2:=c5.one;have g3:=c'.upd b4 zd zd;have g6:=g7.upd b4 zd zd;refine IW 7 zk rfl ?_;refine zsb (us:=#[a1,nS,a0]) b1 (KM _) (by simp only[IJ,o1,o2];rfl) ?_;have g0:=b1.setRow (us:=#[a1,nS,a0]);have d7:IP (fun j=>j=3) O7 w7 O7 (w7.setRow ob #[a1,nS,a0]):=IV zd b1.tag rfl;have f9:=c5.upd c9 d7;have g2:=c9.upd d7;have e6:=g3.upd d7 zd zd;have g5:=g6.upd d7 zd zd;have d3:=(b6.trans (b4.mono (fun _ h=>zo) zd)).trans (d7.mono (fun _ h=>zo) zd);have i9:=h9.upd d7;generalize w7.setRow ob #[a1,nS,a0]=w8 at *;refine zh ?_;refine ae (e6.cell 1 rfl) ?_;have e0:w8.cell? (nA db 0)=some nv:=e6.cell 0 rfl;obtain⟨vs,d9,j3,f8⟩:=hn;have i0:=d9.ext d3.ext;refine JR zk ?_;refine zh ?_;refine zlp (fun z:Nat×(Nat->Nat)×World×ix×List ix=>[(0,gv),(3,nP db),(4,nP cb),(6,nI (many:Nat)),(7,nP ob),(29,nv),(30,nI vs.length),(31,nI z.1)]) (fun z=>z.2.2.1) (fun z=>z.1<=rows.length/\IP (fun q=>3<=q) O7 w8 z.2.1 z.2.2.1/\JY w.heap.size z.2.1 z.2.2.1/\JM z.2.1 z.2.2.1 3 ob #[a1,z.2.2.2.1,a0] 127/\RwO z.2.1 z.2.2.1 4 z.2.2.2.1 z.2.2.2.2 ((rows.take z.1).map (oe g many))/\∀k,k<z.1->Ky w.heap.size (nth z.2.2.2.2 k)) (fun z=>rows.length-z.1) (0,O7,w8,nS,[]) (⟨I1 _,Jo zd _ _,i9,g0,⟨IL _ _ _ _ _ _,rfl,fun k hk=>absurd hk (I4 k)⟩,fun k hk=>absurd hk (I4 k)⟩) ?_
 rintro⟨i,O9,w9,d6,d5⟩ ⟨hi,e8,f6,c6,a4,c7⟩;dsimp only at hi e8 f6 c6 a4 c7 ⊢;have b5:=d3.trans (e8.mono (fun _ h=>zo) zd);have f7:=d9.ext b5.ext;have i2:=a4.len;have f':((rows.take i).map (oe g many)).length=i:=by simp;omega
 refine zh ?_;refine zC ?_ ?_
 ·intro c8;replace c8:i<rows.length:=dT c8;have m1:w9.cell? (adr nv 1 i)=some (nth vs i):=by have:=f7.cell (i:=i) (j:=0) zo rfl;rwa[ay]at this
  obtain⟨r1,r2⟩:=hr.row i c8;refine zh ?_;refine zc call97 (xD g (nth rows i) many gv (nth vs i) w9 hg (g1.ext b5.ext) ((f8 i c8).ext b5.ext) r1 (hc i c8)) ?_;rintro _ h3 ⟨ov,rfl,h6,h2,h7⟩;have b3:IP (fun _=>False) O9 w9 O9 h3:=aa (fun h=>h) O9 h2;have e2:=h7 _ _ f6;have i3:=(qn h7).mono b5.size;have h1:=f6.upd b3;have b7:=c6.upd b3 zd (fun h=>h);have a2:=a4.upd b3 zd (fun h=>h);obtain⟨oa,oc,i4,_⟩:=h6.shape;subst i4;refine zh ?_;refine aR rfl rfl ?_;have f0:h3.cell? (nA ob 1)=some d6:=b7.cell 1 rfl;refine zh ?_;refine Jg yy a2.row h1 ((.slice oa (oe g many (nth rows i)).length oc:ix)) (fun _=>rfl) rfl rfl rfl (by simp[I2]) zo zo zo zd rfl rfl ?_;intro a3 d8 O11 a6 a5 h0;have a7:=b7.upd a5 zd zd;have e1:RwO O11 d8 4 a3 (d5++[.slice oa (oe g many (nth rows i)).length oc]) ((rows.take (i+1)).map (oe g many)):=by
   rw[aI c8,IK];refine⟨a6,by simp;omega,fun k hk=>?_⟩;rw[aA,aA]
   by_cases e:k<((rows.take i).map (oe g many)).length
   ·rw[if_pos zo,if_pos e];exact⟨(a2.at_ k e).1.upd (a2.at_ k e).2 a5,(a2.at_ k e).2.upd a5⟩
   have i5:k=i:=by simp at hk;omega
   subst i5;rw[if_neg zo,if_neg e,f',show k-d5.length=0 from by omega,JB,ax,J7,Kq,ax];exact⟨h6.upd e2 a5,e2.upd a5⟩
  refine zh ?_;refine aj (j:=1) a7 rfl (sizeOf89 _) a6.one rfl rfl rfl ?_
  have d2:IP (fun j=>j=3) O11 d8 O11 (d8.setCell ⟨ob,1,none⟩ a3):=JA zd a7.tag rfl;have e3:JM O11 (d8.setCell ⟨ob,1,none⟩ a3) 3 ob #[a1,a3,a0] 127:=a7.set 1 _;have d':=e1.upd d2 zd zd;have g':=h0.upd d2;generalize d8.setCell ⟨ob,1,none⟩ a3=w12 at *;refine zh ?_;refine zxd (i+1,O11,w12,a3,d5++[.slice oa (oe g many (nth rows i)).length oc]) (⟨c8,((e8.trans (b3.mono (fun _ h=>h.elim) zd)).trans (a5.mono (fun _ h=>zo) zd)).trans (d2.mono (fun _ h=>zo) zd),g',e3,d',fun k hk=>?_⟩);dsimp only at hk ⊢;rw[aA]
  by_cases e:k<d5.length
  ·rw[if_pos e];exact c7 k zo
  rw[if_neg e,show k-d5.length=0 from by omega,ax];exact i3
 intro i6;obtain rfl:i=rows.length:=dF i6;rw[II]at a4;have o3:=a4.row.one;have d0:=g5.upd e8 zd zd;refine zh ?_;refine zv (ah (us:=[a1,d6,a0]) c6.cellsAdd (isAgg127 _) (KM _) rfl) ?_;refine zsb (us:=#[a1,d6,a0]) d0 (KM _) (by simp only[IJ,o1,o2,o3];rfl) ?_;have i7:=d0.setRow (us:=#[a1,d6,a0]);have g9:IP (fun j=>j=2) O9 w9 O9 (w9.setRow cb #[a1,d6,a0]):=IV zd d0.tag rfl;have b0:=a4.upd g9 zd zd;have hU9z:=(e8.mono (S':=fun q=>2<=q) (fun _ h=>zo) zd).trans (g9.mono (fun _ h=>zo) zd);refine zh ?_;refine aS rfl rfl rfl (i7.cellsAdd) (isAgg127 _) (KM _) (⟨a1,d6,a0,rfl,o1,o3,o2,⟨d5,b0.row.sl,b0.row.newV zd (f6.upd g9),b0.len,fun k hk=>⟨(b0.at_ k hk).1,c7 k (by simpa using hk)⟩⟩,f9.upd g2 hU9z,e4.mono b6.size,(d3.trans (hU9z.mono (fun _ h=>zo) zd)).ext⟩)
def ow(a0:List Int)(base c:Nat):Bool:=!(decide (base+c<a0.length)&&nth a0 (base+c) != -1)
theorem xy(pb:Nat)(cv kv:ix)(a0:List Nat)(a2:List Int)(base:Nat)(w:I0) 
  (hp:w.cell? ⟨pb,3,none⟩=some kv) (hk:Kj w kv a2) (hc:IA w cv a0) (a6:∀c∈a0,c<=64) (hb:base<=200000) :
  JZ IU 125 [nP pb,cv,nI base] w fun v w'=>v=.bool (a0.all (ow a2 base))/\w=w':=by
 have a8:=hk.len_le;have a':=hc.len_le;refine I3 func125 ntmps125 rfl rfl ?_;refine zh ?_;refine zlp (fun k:Nat=>[(0,nP pb),(1,cv),(2,nI base),(9,cv),(10,nI a0.length),(11,nI k)]) (fun k=>w) (fun k=>k<=a0.length/\∀j,j<k->ow a2 base (nth a0 j)=true) (fun k=>a0.length-k) 0 (⟨I1 _,fun j hj=>absurd hj (I4 j)⟩) ?_;intro k ⟨a9,a4⟩;refine zh ?_;refine zC ?_ ?_
 ·intro a1;replace a1:k<a0.length:=by simpa using a1
  have b0:=a6 _ (aM a1);refine zh ?_;refine zvH (RV.ld (hc.ld zo) rfl) ?_;refine zvH (RV.ld hp rfl) ?_
  by_cases a5:base+nth a0 k<a2.length
  ·refine au (d:=24) rfl (b':=true) (by simpa using(by omega:(base:Int)+((nth a0 k:Nat):Int)<(a2.length:Int))) ?_;refine zh ?_
   refine zvH (RV.ld hp rfl) ?_;refine zvH (RV.ld (hk.ld zo) rfl) ?_
   refine zC ?_ ?_
   ·intro a3;refine zh ?_;refine af rfl rfl (⟨?_,rfl⟩);rw[ug a1];simp only[ow,a5,a3];rfl
   intro a3;refine zh ?_;refine zxd (k+1) (⟨a1,fun j hj=>?_⟩)
   rcases IR.1 hj with h|rfl
   ·exact a4 j h
   simp only[ow,a5,a3];rfl
  refine au (d:=24) rfl (b':=false) (by simpa using(by omega:¬(base:Int)+((nth a0 k:Nat):Int)<(a2.length:Int))) ?_;refine zh ?_
  refine zFH rfl rfl ?_;refine zxd (k+1) (⟨a1,fun j hj=>?_⟩)
  rcases IR.1 hj with h|rfl
  ·exact a4 j h
  simp only[ow,a5];rfl
 intro a7;replace a7:a0.length<=k:=by simpa using a7
 refine zh ?_;refine af rfl rfl (⟨?_,rfl⟩)
 rw[D5 fun j hj=>a4 j zo]
def cnt(a0:List Int)(n:Int):Int:=(a0.count n:Int)
def mj(a0:List Int)(b n:Int):Int:=if cnt a0 b<cnt a0 n\/(cnt a0 n=cnt a0 b/\n<b)then n else b
def bH(a0:List Int):Int:=a0.foldl (mj a0) (nth a0 0)
abbrev iv:Int->ix:=Ko .i64
theorem oY:KeyL IU 3 iv:=Ly L0
theorem yC(a0:List Int)(rv:ix)(w:I0)(h:Kj w rv a0)(a':0<a0.length):
  JZ IU 124 [rv] w fun u w'=>u=nI (bH a0)/\Js w w':=by
 have hl:=h.len_le;have a7:∀r z,0<=cnt r z:=fun r z=>by simp only[cnt];omega
 have a6:∀k z,cnt (a0.take k) z<=k:=fun k z=>by
  have h1:=List.count_le_length (a:=z) (l:=a0.take k);have h2:=List.length_take_le k a0;simp only[cnt];omega
 refine I3 func124 ntmps124 rfl rfl ?_;refine zh ?_
 refine WL.makeMap rfl ?_;refine zh ?_
 refine zvH (JF (by first|exact h.ext (Kd _ _)) ka rfl) ?_;refine zlp (fun x:Nat×I0×List (Int×Int)=>[(0,rv),(3,.map (some w.heap.size)),(10,rv),(11,nI a0.length),(12,nI x.1)]) (fun x=>x.2.1) (fun x=>x.1<=a0.length/\JC iv iv (jI (fun _=>0) w.heap.size 1) x.2.1 1 w.heap.size x.2.2/\IP (fun j=>j=1) (fun _=>0) w (jI (fun _=>0) w.heap.size 1) x.2.1/\∀z,(bm x.2.2 z).getD 0=cnt (a0.take x.1) z) (fun x=>a0.length-x.1) (0,_,[]) (⟨I1 _,MapO.new _ _ _,L4 zd (aw _) _ _,fun z=>by simp[bm,cnt]⟩) ?_
 rintro⟨k,w1,m⟩ ⟨hk,hm,hU,a3⟩;dsimp only at hk hm hU a3 ⊢;have h1:=h.ext hU.ext;refine zh ?_;refine zC ?_ ?_
 ·intro a2;replace a2:k<a0.length:=by simpa using a2
  have hc:=a6 k (nth a0 k);have b0:=a7 (a0.take k) (nth a0 k);refine zh ?_;refine zvH (RV.ld (h1.ld zo) rfl) ?_;refine zvH (J9 hm J0 oY (IY _) (nth a0 k) rfl rfl rfl (u:=iv (cnt (a0.take k) (nth a0 k))) (by rw[<-a3];cases bm m (nth a0 k)<;>rfl)) ?_;refine J5 hm J0 oY zd (nth a0 k) (cnt (a0.take k) (nth a0 k)+1) rfl rfl rfl rfl rfl ?_;intro w2 a8 a9;refine zh ?_;refine zxd (k+1,w2,_) (⟨a2,a8,hU.trans a9,fun z=>?_⟩);dsimp only;rw[aP,aI a2]
  by_cases hz:nth a0 k=z
  ·subst hz;simp[cnt]
  rw[if_neg hz,a3];simp[cnt,List.count_append,hz]
 intro a4;replace a4:a0.length<=k:=by simpa using a4
 have a5:∀z,(bm m z).getD 0=cnt a0 z:=fun z=>by rw[a3,Jn a4]
 refine zh ?_;refine zvH (RV.ld (h1.ld zo) rfl) ?_
 refine zlp (fun x:Nat×Int=>[(3,.map (some w.heap.size)),(24,rv),(25,nI a0.length),(26,nI x.1),(6,nI x.2)]) (fun x=>w1) (fun x=>x.1<=a0.length/\(a0.take x.1).foldl (mj a0) (nth a0 0)=x.2) (fun x=>a0.length-x.1) (0,nth a0 0) (⟨I1 _,rfl⟩) ?_;rintro⟨k,b⟩ ⟨hk,hb⟩;dsimp only at hk hb ⊢;refine zh ?_
 refine zC ?_ ?_
 ·intro a2;replace a2:k<a0.length:=by simpa using a2
  have a1:(a0.take (k+1)).foldl (mj a0) (nth a0 0)=mj a0 b (nth a0 k):=by rw[aI a2,IM,hb];rfl
  have L:∀z,D7 iv (nI 0) (bm m z)=iv (cnt a0 z):=fun z=>by rw[<-a5];cases bm m z<;>rfl
  refine zh ?_;refine zvH (RV.ld (h1.ld zo) rfl) ?_
  refine zvH (J9 hm J0 oY (IY _) (nth a0 k) rfl rfl rfl (L _)) ?_;refine zvH (J9 hm J0 oY (IY _) b rfl rfl rfl (L _)) ?_
  by_cases h1:cnt a0 b<cnt a0 (nth a0 k)
  ·refine au (d:=37) rfl (b':=true) (decide_eq_true h1) ?_;refine zh ?_
   refine zTH rfl rfl ?_;refine zxd (k+1,_) (⟨a2,by rw[a1,mj,if_pos (.inl h1)]⟩)
  refine au (d:=37) rfl (b':=false) (decide_eq_false h1) ?_;refine zh ?_
  refine zvH (J9 hm J0 oY (IY _) (nth a0 k) rfl rfl rfl (L _)) ?_;refine zvH (J9 hm J0 oY (IY _) b rfl rfl rfl (L _)) ?_
  by_cases h2:cnt a0 (nth a0 k)=cnt a0 b
  ·refine au (d:=45) rfl (b':=true) (by simpa using h2) ?_;refine zh ?_
   refine zC ?_ ?_
   ·intro h3;replace h3:nth a0 k<b:=by simpa using h3
    refine zh ?_;refine zxd (k+1,_) (⟨a2,by rw[a1,mj,if_pos (.inr ⟨h2,h3⟩)]⟩)
   intro h3;replace h3:¬nth a0 k<b:=by simpa using h3
   refine zh ?_;refine zxd (k+1,_) (⟨a2,by rw[a1,mj,if_neg (fun h=>h.elim h1 fun h=>h3 h.2)]⟩)
  refine au (d:=45) rfl (b':=false) (by simpa using h2) ?_;refine zh ?_
  refine zFH rfl rfl ?_;refine zxd (k+1,_) (⟨a2,by rw[a1,mj,if_neg (fun h=>h.elim h1 fun h=>h2 h.1)]⟩)
 intro a4;replace a4:a0.length<=k:=by simpa using a4
 refine zh ?_;refine af rfl rfl (⟨?_,hU.ext⟩)
 rw[bH,<-hb,Jn a4]
theorem xT:Lj IU 25 3 1 8:=⟨ka,by kernel_rfl,zd⟩
abbrev mu(O:Nat->Nat)(w:I0)(i:Nat)(v:ix)(l:List Int):Prop:=Jm (fun x=>[nI x]) 3 1 O w i v l
structure PSt where
 width:Int
 usual:List Int
 base:List Int
 check:List Int
 next:List Int
structure PkR(T:Nat)(O:Nat->Nat)(w:I0)(pb:Nat)(p:PSt)(uv bv kv nv:ix):Prop where
 blk:JM O w (T+1) pb #[nI p.width,uv,bv,kv,nv] 27
 u:mu O w (T+2) uv p.usual
 b:mu O w (T+3) bv p.base
 k:mu O w (T+4) kv p.check
 n:mu O w (T+5) nv p.next
def PkO(T:Nat)(O:Nat->Nat)(w:I0)(pb:Nat)(p:PSt):Prop:=∃uv bv kv nv,PkR T O w pb p uv bv kv nv
def jn(T:Nat)(i:Nat):Prop:=T+1<=i/\i<=T+5
theorem gL(T:Nat):¬jn T 0:=by unfold jn;omega
theorem PkR.upd{T:Nat}{S:Nat->Prop}{O O':Nat->Nat}{w w':I0}{pb:Nat}{p:PSt}{uv bv kv nv:ix}(h:PkR T O w pb p uv bv kv nv)(u:IP S O w O' w')(hS:∀i,jn T i->¬S i):PkR T O' w' pb p uv bv kv nv:=
 ⟨h.blk.upd u zo (hS _ (by unfold jn;omega)),h.u.upd u zo (hS _ (by unfold jn;omega)),h.b.upd u zo (hS _ (by unfold jn;omega)),h.k.upd u zo (hS _ (by unfold jn;omega)),h.n.upd u zo (hS _ (by unfold jn;omega))⟩
theorem PkO.upd{T:Nat}{S:Nat->Prop}{O O':Nat->Nat}{w w':I0}{pb:Nat}{p:PSt}(h:PkO T O w pb p)(u:IP S O w O' w')(hS:∀i,jn T i->¬S i):PkO T O' w' pb p:=by
 obtain⟨uv,bv,kv,nv,h⟩:=h;exact⟨uv,bv,kv,nv,h.upd u hS⟩
section
variable{T:Nat}{O O':Nat→Nat}{w w':I0}{pb:Nat}{p:PSt}{uv bv kv nv v:ix}{l:List Int}
theorem PkR.setK(h:PkR T O w pb p uv bv kv nv)(u:IP (fun j=>j=T+4) O w O' w')(r:mu O' w' (T+4) v l):
  PkR T O' (w'.setCell ⟨pb,3,none⟩ v) pb { p with check:=l } uv bv v nv/\IP (jn T) O w O' (w'.setCell ⟨pb,3,none⟩ v):=by
 have hb:=h.blk.upd u zo zo;have us:IP (fun j=>j=T+1) O' w' O' (w'.setCell ⟨pb,3,none⟩ v):=JA zo hb.tag rfl
 exact⟨⟨hb.set 3 v,(h.u.upd u zo zo).upd us zo zo,(h.b.upd u zo zo).upd us zo zo,r.upd us zo zo,(h.n.upd u zo zo).upd us zo zo⟩,
  (u.mono (by unfold jn;omega) (gL T)).trans (us.mono (by unfold jn;omega) (gL T))⟩
theorem PkR.setN(h:PkR T O w pb p uv bv kv nv)(u:IP (fun j=>j=T+5) O w O' w')(r:mu O' w' (T+5) v l):
  PkR T O' (w'.setCell ⟨pb,4,none⟩ v) pb { p with next:=l } uv bv kv v/\IP (jn T) O w O' (w'.setCell ⟨pb,4,none⟩ v):=by
 have hb:=h.blk.upd u zo zo;have us:IP (fun j=>j=T+1) O' w' O' (w'.setCell ⟨pb,4,none⟩ v):=JA zo hb.tag rfl
 exact⟨⟨hb.set 4 v,(h.u.upd u zo zo).upd us zo zo,(h.b.upd u zo zo).upd us zo zo,(h.k.upd u zo zo).upd us zo zo,r.upd us zo zo⟩,
  (u.mono (by unfold jn;omega) (gL T)).trans (us.mono (by unfold jn;omega) (gL T))⟩
theorem PkR.setU(h:PkR T O w pb p uv bv kv nv)(u:IP (fun j=>j=T+2) O w O' w')(r:mu O' w' (T+2) v l):
  PkR T O' (w'.setCell ⟨pb,1,none⟩ v) pb { p with usual:=l } v bv kv nv/\IP (jn T) O w O' (w'.setCell ⟨pb,1,none⟩ v):=by
 have hb:=h.blk.upd u zo zo;have us:IP (fun j=>j=T+1) O' w' O' (w'.setCell ⟨pb,1,none⟩ v):=JA zo hb.tag rfl
 exact⟨⟨hb.set 1 v,r.upd us zo zo,(h.b.upd u zo zo).upd us zo zo,(h.k.upd u zo zo).upd us zo zo,(h.n.upd u zo zo).upd us zo zo⟩,
  (u.mono (by unfold jn;omega) (gL T)).trans (us.mono (by unfold jn;omega) (gL T))⟩
theorem PkR.setB(h:PkR T O w pb p uv bv kv nv)(u:IP (fun j=>j=T+3) O w O' w')(r:mu O' w' (T+3) v l):
  PkR T O' (w'.setCell ⟨pb,2,none⟩ v) pb { p with base:=l } uv v kv nv/\IP (jn T) O w O' (w'.setCell ⟨pb,2,none⟩ v):=by
 have hb:=h.blk.upd u zo zo;have us:IP (fun j=>j=T+1) O' w' O' (w'.setCell ⟨pb,2,none⟩ v):=JA zo hb.tag rfl
 exact⟨⟨hb.set 2 v,(h.u.upd u zo zo).upd us zo zo,r.upd us zo zo,(h.k.upd u zo zo).upd us zo zo,(h.n.upd u zo zo).upd us zo zo⟩,
  (u.mono (by unfold jn;omega) (gL T)).trans (us.mono (by unfold jn;omega) (gL T))⟩
theorem PkR.c1(h:PkR T O w pb p uv bv kv nv):w.cell? ⟨pb,1,none⟩=some uv:=h.blk.cell 1 rfl
theorem PkR.c2(h:PkR T O w pb p uv bv kv nv):w.cell? ⟨pb,2,none⟩=some bv:=h.blk.cell 2 rfl
theorem PkR.c3(h:PkR T O w pb p uv bv kv nv):w.cell? ⟨pb,3,none⟩=some kv:=h.blk.cell 3 rfl
theorem PkR.c4(h:PkR T O w pb p uv bv kv nv):w.cell? ⟨pb,4,none⟩=some nv:=h.blk.cell 4 rfl
end
def PSt.long(p:PSt)(j:Nat):PSt:={ p with check:=p.check++ln j (-1),next:=p.next++ln j 0 }
def PSt.take(p:PSt)(slot:Nat)(a0 entry:Int):PSt:=
 let q:=p.long (slot+1-p.check.length)
 { q with check:=q.check.set slot a0,next:=q.next.set slot entry }
theorem BF(T:Nat)(pb:Nat)(p:PSt)(slot:Nat)(a4 entry:Int)(B:Nat)(O:Nat->Nat)(w:I0)(hp:PkO T O w pb p)(hR:JY B O w)(hs:slot<=1000000)(hl:p.next.length=p.check.length):
  JZ IU 126 [nP pb,nI slot,nI a4,nI entry] w fun _ w'=>∃O',PkO T O' w' pb (p.take slot a4 entry)/\IP (jn T) O w O' w'/\JY B O' w':=by
 refine I3 func126 ntmps126 rfl rfl ?_;refine zh ?_
 refine zlp (fun x:Nat×(Nat->Nat)×World=>[(0,nP pb),(1,nI slot),(2,nI a4),(3,nI entry)]) (fun x=>x.2.2) (fun x=>PkO T x.2.1 x.2.2 pb (p.long x.1)/\IP (jn T) O w x.2.1 x.2.2/\JY B x.2.1 x.2.2/\x.1<=slot+1-p.check.length) (fun x=>slot+1-p.check.length-x.1) (0,O,w) (⟨by simpa[PSt.long]using hp,Jo (gL T) _ _,hR,I1 _⟩) ?_;rintro⟨j,O1,w1⟩ ⟨⟨uv,bv,kv,nv,h⟩,hU,a6,hj⟩;dsimp only at h hU a6 hj ⊢;have hk:=h.k.sl;have b9:(p.long j).check.length=p.check.length+j:=by simp[PSt.long]
 have b7:(p.long j).next.length=p.check.length+j:=by simp[PSt.long,hl]
 have b8:=hk.len_le;refine zh ?_;refine zvH (RV.ld h.c3 rfl) ?_;refine zC ?_ ?_
 ·intro b1;replace b1:p.check.length+j<=slot:=dT b1;refine zh ?_;refine zv (RV.ld h.c3 rfl) ?_;refine Jg xT h.k a6 (-1) (fun _=>rfl) rfl rfl rfl (by simp[I2]) zo zo zo zd rfl rfl ?_;intro a' w2 O2 a5 a1 c5;obtain⟨h3,a0⟩:=h.setK a1 a5;have a2:=h.blk.upd a1 zo zo;have b4:JY B O2 (w2.setCell ⟨pb,3,none⟩ a'):=a6.upd a0;refine zh ?_;refine aj (j:=3) a2 rfl (K5 _) a5.one rfl rfl rfl ?_;refine zh ?_;refine zv (RV.ld h3.c4 rfl) ?_;have h3n:mu O2 (w2.setCell ⟨pb,3,none⟩ a') (T+5) nv (p.long j).next:=h3.n;refine Jg xT h3n b4 (0) (fun _=>rfl) rfl rfl rfl (by simp[I2]) zo zo zo zd rfl rfl ?_;intro a9 w4 O4 b0 a3 b';obtain⟨h5,b3⟩:=h3.setN a3 b0;have b6:=h3.blk.upd a3 zo zo;refine zh ?_;refine aj (j:=4) b6 rfl (K5 _) b0.one rfl rfl rfl ?_;refine zh ?_;have e:(p.long (j+1)) = { p.long j with check:=(p.long j).check++[-1],next:=(p.long j).next++[0] }:=by
   simp[PSt.long,List.replicate_succ']
  have hP:PkO T O4 (w4.setCell ⟨pb,4,none⟩ a9) pb (p.long (j+1)):=by rw[e];exact⟨_,_,_,_,h5⟩
  refine zxd (j+1,O4,w4.setCell ⟨pb,4,none⟩ a9) (⟨hP,(hU.trans a0).trans b3,b4.upd b3,zo⟩)
 intro b2;replace b2:¬p.check.length+j<=slot:=dF b2;obtain rfl:j=slot+1-p.check.length:=zo;have hN:=h.n.sl;refine zh ?_;refine aL (fun w1=>w1.cell? ⟨pb,3,none⟩=some kv/\w1.cell? ⟨pb,4,none⟩=some nv) 16 rfl zk ?_;refine zin ⟨h.c3,h.c4⟩ fun zS=>?_
 refine zrm 0 rfl zS rfl ?_;refine zr 1 rfl zS (fun _=>ao rfl) ?_
 refine zrf 2 rfl zS rfl ?_;refine zt 3 rfl zS (fun w1 a7=>RV.ld a7.1 rfl) ?_
 refine zrm 4 rfl zS rfl ?_;refine zrm 5 rfl zS rfl ?_
 refine zr 6 rfl zS (fun _=>ao rfl) ?_;refine zrf 7 rfl zS rfl ?_
 refine zt 8 rfl zS (fun w1 a7=>RV.ld a7.2 rfl) ?_;refine zrm 9 rfl zS rfl ?_
 refine zrm 10 rfl zS rfl ?_;refine zrm 11 rfl zS rfl ?_
 refine zr 12 rfl zS (fun _=>az hk.sh ka (I8 _) rfl rfl slot rfl zo) ?_;have h2:PkR T O1 w1.drew pb (p.long (slot+1-p.check.length)) uv bv kv nv:=⟨h.blk.drew,h.u.drew,h.b.drew,h.k.drew,h.n.drew⟩
 refine IW 13 zk rfl ?_;refine Jt h2.k slot zo a4 (I8 _) rfl zo rfl rfl rfl rfl ?_
 intro w2 a5 a1;have a2:=h2.blk.upd a1 zo zo;refine zh ?_;refine ae (⟨a2.cell 3 rfl,a2.cell 4 rfl⟩) ?_;refine zr 14 rfl (⟨a2.cell 3 rfl,a2.cell 4 rfl⟩) (fun _=>az hN.sh ka (I8 _) rfl rfl slot rfl zo) ?_;refine IW 15 zk rfl ?_;refine Jt (h2.n.upd a1 zo zo) slot zo entry (I8 _) rfl zo rfl rfl rfl rfl ?_;intro w3 b5 a0;have a8:=a2.upd a0 zo zo;refine zh ?_;refine ae (⟨a8.cell 3 rfl,a8.cell 4 rfl⟩) ?_;refine JR zk ?_;have a3:IP (jn T) O1 w1 O1 w3:=((a1.mono (by unfold jn;omega) (gL T)).trans (a0.mono (by unfold jn;omega) (gL T))).ofDrew;refine aG rfl (⟨O1,⟨uv,bv,kv,nv,⟨a8,(h2.u.upd a1 zo zo).upd a0 zo zo,(h2.b.upd a1 zo zo).upd a0 zo zo,a5.upd a0 zo zo,b5⟩⟩,hU.trans a3,a6.upd a3⟩)
theorem oq{F:KU}(hF:∀(args:Array ix) (w:I0),(callFunc F args).run IU w=.ok (.enter F args) w)(cs:Array ix)(l:List (Int))(sv:ix)(q:Nat->Bool)(w:I0)(h:Sl (fun x=>[nI x]) 1 w sv l) 
  (hq:∀i,i<l.length->∀w',Js w w'->JZ IU F ([nI (nth l i)]++cs.toList) w' fun v w''=>v=.bool (q i)/\Js w' w'') :
  JZ IU 148 [sv,.func (.func F) #[] cs] w fun v w'=>v=nI (dw q l.length)/\Js w w':=by
 have hl:=h.len_le;refine I3 func148 ntmps148 rfl rfl ?_;refine zh ?_;refine zlp (fun x:Nat×I0=>[(0,sv),(1,.func (.func F) #[] cs),(7,nI l.length),(8,nI x.1)]) (fun x=>x.2) (fun x=>x.1<=l.length/\Js w x.2/\∀i,i<x.1->q i=false) (fun x=>l.length-x.1) (0,w) (⟨I1 _,I9 _,fun i hi=>absurd hi (I4 i)⟩) ?_;rintro⟨k,w1⟩ ⟨hk,hE,a1⟩;dsimp only at hk hE a1 ⊢;have h1:=h.ext hE;refine zh ?_;refine zC ?_ ?_
 ·intro a0;replace a0:k<l.length:=dT a0;refine zh ?_;refine zv (RV.ld (h1.ld a0) rfl) ?_;refine dq rfl hF rfl (hq k a0 w1 hE) rfl ?_;rintro v w2 ⟨rfl,a3⟩;refine zh ?_;refine zC ?_ ?_
  ·intro hy;refine zh ?_;refine af rfl rfl (⟨by rw[ct a0 hy a1],hE.trans a3⟩)
  intro hy;refine zh ?_;refine zxd (k+1,w2) (⟨a0,hE.trans a3,fun i hi=>(IR.1 hi).elim (a1 i) (fun e=>by rw[e];exact hy)⟩)
 intro a2;replace a2:l.length<=k:=dF a2;refine zh ?_;refine af rfl rfl (⟨by rw[cn fun i hi=>a1 i zo],hE⟩)
theorem lC{F:KU}(hF:∀(args:Array ix) (w:I0),(callFunc F args).run IU w=.ok (.enter F args) w)(cs:Array ix)(l:List (Int))(sv:ix)(q:Nat->Bool)(w:I0)(h:Sl (fun x=>[nI x]) 1 w sv l) 
  (hq:∀i,i<l.length->∀w',Js w w'->JZ IU F ([nI (nth l i)]++cs.toList) w' fun v w''=>v=.bool (q i)/\Js w' w'') :
  JZ IU 122 [sv,.func (.func F) #[] cs] w fun v w'=>v=.bool (iY q l.length)/\Js w w':=by
 refine I3 func122 ntmps122 rfl rfl ?_;refine zh ?_
 refine zc call148 (oq hF cs l sv q w h hq) ?_;rintro v w1 ⟨rfl,hE⟩;refine zh ?_
 refine af rfl rfl (⟨by rw[firstN_any],hE⟩)
theorem om{F:KU}(hF:∀(args:Array ix) (w:I0),(callFunc F args).run IU w=.ok (.enter F args) w)(cs:Array ix)(l:List (ix))(sv:ix)(q:Nat->Bool)(w:I0)(h:Sl (fun x=>[x]) 1 w sv l) 
  (hq:∀i,i<l.length->∀w',Js w w'->JZ IU F ([id (nth l i)]++cs.toList) w' fun v w''=>v=.bool (q i)/\Js w' w'') :
  JZ IU 77 [sv,.func (.func F) #[] cs] w fun v w'=>v=nI (dw q l.length)/\Js w w':=by
 have hl:=h.len_le;refine I3 func77 ntmps77 rfl rfl ?_;refine zh ?_;refine zlp (fun x:Nat×I0=>[(0,sv),(1,.func (.func F) #[] cs),(7,nI l.length),(8,nI x.1)]) (fun x=>x.2) (fun x=>x.1<=l.length/\Js w x.2/\∀i,i<x.1->q i=false) (fun x=>l.length-x.1) (0,w) (⟨I1 _,I9 _,fun i hi=>absurd hi (I4 i)⟩) ?_;rintro⟨k,w1⟩ ⟨hk,hE,a1⟩;dsimp only at hk hE a1 ⊢;have h1:=h.ext hE;refine zh ?_;refine zC ?_ ?_
 ·intro a0;replace a0:k<l.length:=dT a0;refine zh ?_;refine zv (RV.ld (h1.ld a0) rfl) ?_;refine dq rfl hF rfl (hq k a0 w1 hE) rfl ?_;rintro v w2 ⟨rfl,a3⟩;refine zh ?_;refine zC ?_ ?_
  ·intro hy;refine zh ?_;refine af rfl rfl (⟨by rw[ct a0 hy a1],hE.trans a3⟩)
  intro hy;refine zh ?_;refine zxd (k+1,w2) (⟨a0,hE.trans a3,fun i hi=>(IR.1 hi).elim (a1 i) (fun e=>by rw[e];exact hy)⟩)
 intro a2;replace a2:l.length<=k:=dF a2;refine zh ?_;refine af rfl rfl (⟨by rw[cn fun i hi=>a1 i zo],hE⟩)
theorem fm{F:KU}(hF:∀(args:Array ix) (w:I0),(callFunc F args).run IU w=.ok (.enter F args) w)(cs:Array ix)(l:List (ix))(sv:ix)(q:Nat->Bool)(w:I0)(h:Sl (fun x=>[x]) 1 w sv l) 
  (hq:∀i,i<l.length->∀w',Js w w'->JZ IU F ([id (nth l i)]++cs.toList) w' fun v w''=>v=.bool (q i)/\Js w' w'') :
  JZ IU 49 [sv,.func (.func F) #[] cs] w fun v w'=>v=.bool (iY q l.length)/\Js w w':=by
 refine I3 func49 ntmps49 rfl rfl ?_;refine zh ?_
 refine zc call77 (om hF cs l sv q w h hq) ?_;rintro v w1 ⟨rfl,hE⟩;refine zh ?_
 refine af rfl rfl (⟨by rw[firstN_any],hE⟩)
theorem tC(a:Int)(b1 b2:Addr)(lo hi:Int)(w:I0)(h1:w.cell? b1=some (nI lo))(h2:w.cell? b2=some (nI hi)):
  JZ IU 123 [nI a,.pointer (some b1),.pointer (some b2)] w fun v w'=>v=.bool (decide (a<lo)||decide (hi<a))/\w=w':=by
 refine I3 func123 ntmps123 rfl rfl ?_;refine zh ?_
 by_cases a0:a<lo
 ·refine au (d:=8) rfl (b':=true) (decide_eq_true a0) ?_;refine zh ?_
  refine af rfl rfl (⟨by simp[a0],rfl⟩)
 refine au (d:=8) rfl (b':=false) (decide_eq_false a0) ?_;refine zh ?_
 refine af rfl rfl (⟨by simp[a0],rfl⟩)
def inB(lo hi:Int)(l:List Int):Bool:=l.all fun n=>decide (lo<=n)&&decide (n<=hi)
theorem eO(lo hi:Int)(l:List Int)(lv:ix)(w:I0)(h:Kj w lv l):
  JZ IU 99 [lv,nI lo,nI hi] w fun v w'=>v=.bool (inB lo hi l)/\Js w w':=by
 refine I3 func99 ntmps99 rfl rfl ?_;refine zh ?_
 refine WL.box rfl rfl ?_;refine WL.box rfl rfl ?_
 refine zh ?_;refine zv (dR rfl rfl) ?_
 have hE:Js w ((w.alloc (.cells #[nI lo] 3)).alloc (.cells #[nI hi] 3)):=(Kd _ _).trans (Kd _ _);have c2:((w.alloc (.cells #[nI lo] 3)).alloc (.cells #[nI hi] 3)).cell? ⟨w.heap.size,0,none⟩=some (nI lo):=(Kd _ _).cell (by rw[Kv _ _ _ _ rfl];rfl);have c3:((w.alloc (.cells #[nI lo] 3)).alloc (.cells #[nI hi] 3)).cell? ⟨(w.alloc (.cells #[nI lo] 3)).heap.size,0,none⟩=some (nI hi):=by rw[Kv _ _ _ _ rfl];rfl
 refine zc call122 (lC call123 _ l lv (fun i=>decide (nth l i<lo)||decide (hi<nth l i)) _ (h.ext hE) (fun i hi w' a0=>(tC _ _ _ _ _ w' (a0.cell c2) (a0.cell c3)).mono fun v w'' ⟨e1,e2⟩=>⟨e1,e2▸I9 _⟩)) ?_;rintro v w1 ⟨rfl,a1⟩;refine zh ?_
 refine af rfl rfl (⟨?_,hE.trans a1⟩);rw[ie (l:=l) (p:=fun n=>decide (n<lo)||decide (hi<n)),inB,List.all_eq_not_any_not];congr 3;funext n;rw[Bool.eq_iff_iff];simp
def fo(a0:List Int)(u:Int)(k:Nat):List Nat:=(I6 k).filter fun c=>nth a0 c != u
def bF(a0:List Int)(u:Int):List Nat:=fo a0 u a0.length
theorem jC(a0:List Int)(u:Int)(k:Nat):fo a0 u (k+1)=if nth a0 k=u then fo a0 u k else fo a0 u k++[k]:=by
 unfold fo;rw[Jb,K1]
 by_cases h:nth a0 k=u<;>simp[h]
theorem kF{a0:List Int}{u:Int}{k c:Nat}(h:c∈fo a0 u k):c<k:=by
 simp only[fo,L5,IS]at h;exact h.1
theorem xY(a0:List Int)(u:Int)(k:Nat):(fo a0 u k).length<=k:=by
 have:=JT (fun c=>nth a0 c != u) (I6 k);simpa[fo]using this
def eh(a1:List Int)(a0:List Nat)(b:Nat):Bool:=a0.all (ow a1 b)
def fw(a1:List Int)(a0:List Nat):Nat:=((I6 (a1.length+1)).find? (eh a1 a0)).getD 0
theorem lh(a1:List Int)(a0:List Nat):eh a1 a0 a1.length=true:=by
 rw[eh,J8];intro c _;simp[ow]
theorem A5{a1:List Int}{a0:List Nat}{b:Nat}(hb:eh a1 a0 b=true)(a2:∀j,j<b->eh a1 a0 j=false):fw a1 a0=b:=by
 have a3:b<=a1.length:=by
  refine Nat.le_of_not_lt fun h=>?_
  have:=a2 _ h;rw[lh]at this;cases this
 have:(I6 (a1.length+1)).find? (eh a1 a0)=some b:=by
  rw[Kp];exact⟨hb,IS.2 zo,fun j hj=>by simp[a2 j hj]⟩
 rw[fw,this];rfl
theorem gg(a1:List Int)(a0:List Nat):eh a1 a0 (fw a1 a0)=true/\fw a1 a0<=a1.length/\∀j,j<fw a1 a0->eh a1 a0 j=false:=by
 have:∃b,(I6 (a1.length+1)).find? (eh a1 a0)=some b:=by
  cases hf:(I6 (a1.length+1)).find? (eh a1 a0)with
  |some j=>exact⟨j,rfl⟩
  |none=>rw[List.find?_eq_none]at hf;exact absurd (lh a1 a0) (hf _ (IS.2 zo))
 obtain⟨b,hb⟩:=this;have h2:=hb;rw[Kp]at h2;have h3:=IS.1 h2.2.1;rw[fw,hb];exact⟨h2.1,by simpa using(by omega:b<=a1.length),fun j hj=>by simpa using h2.2.2 j hj⟩
def PSt.lay(p:PSt)(a1:List Int):PSt:=
 let u:=bH a1
 let a0:=bF a1 u
 let b:=fw p.check a0
 let q:=a0.foldl (fun q c=>q.take (b+c) p.base.length (nth a1 c)) p
 { q with usual:=q.usual++[u],base:=q.base++[(b:Int)] }
theorem mh{p:PSt}{s:Nat}{r e:Int}(h:p.next.length=p.check.length):(p.take s r e).next.length=(p.take s r e).check.length:=by simp[PSt.take,PSt.long,h]
def xh(T:Nat)(i:Nat):Prop:=T+1<=i/\i<=T+6
theorem rV(T:Nat):¬xh T 0:=by unfold xh;omega
abbrev G2(O:Nat->Nat)(w:I0)(i:Nat)(v:ix)(l:List Nat):Prop:=Jm (fun(x:Nat)=>[nI (x:Int)]) 3 1 O w i v l
theorem ud(T pb:Nat)(p:PSt)(a0:List Int)(rv:ix)(B:Nat)(O:Nat->Nat)(w:I0)(hp:PkO T O w pb p)(hR:JY B O w)
  (a4:∀w',RowKit.Below B w w'->Kj w' rv a0) (e4:0<a0.length) (hw:a0.length<=64) (hl:p.next.length=p.check.length) (g3:p.check.length<=100000)
  (e0:p.usual.length<=100000) (e8:p.base.length<=100000) :
  JZ IU 100 [nP pb,rv] w fun _ w'=>∃O',PkO T O' w' pb (p.lay a0)/\IP (xh T) O w O' w'/\JY B O' w':=by
 have g0:=(a4 w (Km _ _)).len_le;refine I3 func100 ntmps100 rfl rfl ?_;refine zg ?_;refine zc call124 (yC a0 rv w (a4 w (Km _ _)) e4) ?_;rintro v w1 ⟨rfl,d6⟩;have b9:IP (xh T) O w O w1:=aa (rV T) O d6;have g7:=hR.upd b9;have e3:PkO T O w1 pb p:=hp.upd (aa (S:=fun _=>False) (fun h=>h) O d6) (fun _ _ h=>h);generalize hu:bH a0=u;refine zg ?_;refine zvG (JF (by first|exact a4 _ (b9.below hR)) ka rfl) ?_;refine zlp (fun x:Nat×(Nat->Nat)×World×ix=>[(0,nP pb),(1,rv),(4,nI u),(5,x.2.2.2),(13,rv),(14,nI a0.length),(15,nI x.1)]) (fun x=>x.2.2.1) (fun x=>x.1<=a0.length/\PkO T x.2.1 x.2.2.1 pb p/\G2 x.2.1 x.2.2.1 (T+6) x.2.2.2 (fo a0 u x.1)/\IP (xh T) O w x.2.1 x.2.2.1) (fun x=>a0.length-x.1) (0,O,w1,nS) (⟨I1 _,e3,IL _ _ _ _ _ _,b9⟩) ?_;rintro⟨k,O2,w2,cv⟩ ⟨hk,b3,a5,a'⟩;dsimp only at hk b3 a5 a' ⊢;have f7:=hR.upd a';have c8:=a4 w2 (a'.below hR);refine zg ?_;refine zC ?_ ?_
 ·intro a2;replace a2:k<a0.length:=by have:=of_decide_eq_true a2;omega
  have g2:=xY a0 u k;refine zg ?_;refine zv (J6 (by first|exact c8) ka (I8 _) rfl rfl _ rfl zo) ?_;refine zvG (RV.ld (c8.ld zo) rfl) ?_;refine zC ?_ ?_
  ·intro a7;replace a7:nth a0 k≠u:=by simpa using a7
   refine zg ?_;refine Jg xT a5 f7 (k) (fun _=>rfl) rfl rfl rfl (by simp[I2]) zo zo zo zd rfl rfl ?_
   intro f8 w3 O3 b8 d5 g6;refine zg ?_;refine zvG (JS rfl rfl (Jv zo)) ?_;refine zxd (k+1,O3,w3,f8) (⟨a2,b3.upd d5 (by unfold jn;omega),by dsimp only;rw[jC,if_neg a7];exact b8,a'.trans (d5.mono (by unfold xh;omega) (rV T))⟩)
  intro b7;replace b7:nth a0 k=u:=by simpa using b7
  refine zg ?_;refine zvG (JS rfl rfl (Jv zo)) ?_
  refine zxd (k+1,O2,w2,cv) (⟨a2,b3,by dsimp only;rw[jC,if_pos b7];exact a5,a'⟩)
 intro b6;obtain rfl:k=a0.length:=by have:=of_decide_eq_false b6;omega
 obtain⟨uv,bv,kv,nv,h⟩:=b3;have a6:∀c∈bF a0 u,c<=64:=fun c hc=>by have:=kF hc;omega
 replace a5:G2 O2 w2 (T+6) cv (bF a0 u):=a5;refine zg ?_;refine zlp (fun b:Nat=>[(0,nP pb),(1,rv),(4,nI u),(5,cv),(8,nI b)]) (fun b=>w2) (fun b=>b<=p.check.length/\∀j,j<b->eh p.check (bF a0 u) j=false) (fun b=>p.check.length-b) 0 (⟨I1 _,fun j hj=>absurd hj (I4 j)⟩) ?_;intro b ⟨hb,d0⟩;refine zg ?_;refine zc call125 (xy pb cv kv (bF a0 u) p.check b w2 h.c3 h.k.sl a5.sl a6 zo) ?_;rintro v _ ⟨rfl,rfl⟩;refine zg ?_;refine zC ?_ ?_
 ·intro a3;replace a3:eh p.check (bF a0 u) b=false:=by rw[JJ]at a3;exact a3
  have a2:b<p.check.length:=by
   refine Nat.lt_of_le_of_ne hb fun e=>?_
   rw[e,lh]at a3;cases a3
  refine zg ?_;refine zvG (JS rfl rfl (Jv zo)) ?_
  refine zxd (b+1) (⟨a2,fun j hj=>(IR.1 hj).elim (d0 j) (fun e=>by rw[e];exact a3)⟩)
 intro a1;replace a1:eh p.check (bF a0 u) b=true:=by rw[Bool.not_eq_false']at a1;exact a1
 have b0:=A5 a1 d0;have e6:=a5.sl;refine zg ?_;refine zvG (JF (by first|exact e6) ka rfl) ?_;refine zlp (fun x:Nat×(Nat->Nat)×World=>[(0,nP pb),(1,rv),(4,nI u),(5,cv),(8,nI b),(35,cv),(36,nI (bF a0 u).length),(37,nI x.1)]) (fun x=>x.2.2) (fun x=>x.1<=(bF a0 u).length/\G2 x.2.1 x.2.2 (T+6) cv (bF a0 u)/\IP (xh T) O w x.2.1 x.2.2/\(∃q:PSt,q=((bF a0 u).take x.1).foldl (fun q c=>q.take (b+c) p.base.length (nth a0 c)) p/\PkO T x.2.1 x.2.2 pb q/\q.base=p.base/\q.usual=p.usual/\q.next.length=q.check.length)) (fun x=>(bF a0 u).length-x.1) (0,O2,w2) (⟨I1 _,a5,a',p,rfl,⟨uv,bv,kv,nv,h⟩,rfl,rfl,hl⟩) ?_;rintro⟨k,O4,w4⟩ ⟨e5,a8,b2,q,hq,⟨d8,d7,d',d9,h4⟩,b5,c9,c'⟩;dsimp only at e5 a8 b2 hq h4 ⊢;have b':=hR.upd b2;have c7:=a4 w4 (b2.below hR);have a9:=a8.sl;have f3:=h4.b.sl;have g1:=a9.len_le;refine zg ?_;refine zC ?_ ?_
 ·intro a2;replace a2:k<(bF a0 u).length:=by have:=of_decide_eq_true a2;omega
  have e7:=a6 _ (aM a2);have d1:=kF (aM a2);refine zg ?_;refine zv (J6 (by first|exact a9) ka (I8 _) rfl rfl _ rfl zo) ?_;refine zvG (RV.ld (a9.ld zo) rfl) ?_;refine L1 13 rfl rfl zk zk ?_;refine zg ?_;refine zwG (JS rfl rfl (Jv zo)) ?_;refine zw (RV.ld h4.c2 rfl) ?_;refine zwG (JF ((f3).drew) ka rfl) ?_;refine zw (J6 c7.drew ka (I8 _) rfl rfl (nth (bF a0 u) k) rfl d1) ?_;refine zw (RV.ld (c7.ld d1) rfl) ?_;refine Lo ?_;have e2:PkO T O4 w4.drew pb q:=⟨d8,d7,d',d9,h4.blk.drew,h4.u.drew,h4.b.drew,h4.k.drew,h4.n.drew⟩
  rw[show(q.base.length:Int)=(p.base.length:Int)from by rw[b5]];refine zc call126 (BF T pb q (b+nth (bF a0 u) k) p.base.length (nth a0 (nth (bF a0 u) k)) B O4 w4.drew e2 b'.drew zo c') ?_;rintro v w5 ⟨O5,e1,b1,f6⟩;have b4:IP (xh T) O4 w4 O5 w5:=(b1.mono (fun i hi=>by unfold jn at hi;unfold xh;omega) (rV T)).ofDrew;refine zg ?_;refine zvG (JS rfl rfl (Jv zo)) ?_;refine zxd (k+1,O5,w5) (⟨a2,a8.drew.upd b1 zo (by unfold jn;omega),b2.trans b4,_,?_,e1,b5,c9,mh c'⟩);rw[aI a2,IM,<-hq];rfl
 intro b6;obtain rfl:k=(bF a0 u).length:=by have:=of_decide_eq_false b6;omega
 rw[II]at hq;refine zg ?_;refine zvG (RV.ld h4.c1 rfl) ?_;have f':q.usual.length<=100000:=by rw[c9];exact e0
 refine Jg xT h4.u b' (u) (fun _=>rfl) rfl rfl rfl (by simp[I2]) zo zo zo zd rfl rfl ?_;intro c5 w5 O5 c6 b1 f6;obtain⟨h5,b4⟩:=h4.setU b1 c6;have e':=h4.blk.upd b1 zo zo;have f5:JY B O5 (w5.setCell ⟨pb,1,none⟩ c5):=b'.upd b4;refine zg ?_
 refine aj (j:=1) e' rfl (K5 _) c6.one rfl rfl rfl ?_;refine zg ?_
 refine zvG (RV.ld h5.c2 rfl) ?_;have h5b:mu O5 (w5.setCell ⟨pb,1,none⟩ c5) (T+3) d7 q.base:=h5.b;have g4:q.base.length<=100000:=by rw[b5];exact e8
 refine Jg xT h5b f5 (b) (fun _=>rfl) rfl rfl rfl (by simp[I2]) zo zo zo zd rfl rfl ?_;intro f9 w6 O6 d2 d4 g5;obtain⟨h6,f4⟩:=h5.setB d4 d2;have e9:=h5.blk.upd d4 zo zo;refine zg ?_
 refine aj (j:=2) e9 rfl (K5 _) d2.one rfl rfl rfl ?_;refine zg ?_
 have d3:IP (xh T) O w O6 (w6.setCell ⟨pb,2,none⟩ f9):=(b2.trans (b4.mono (fun i hi=>by unfold jn at hi;unfold xh;omega) (rV T))).trans (f4.mono (fun i hi=>by unfold jn at hi;unfold xh;omega) (rV T));refine aG rfl (⟨O6,?_,d3,hR.upd d3⟩);have e:p.lay a0 = { q with usual:=q.usual++[u],base:=q.base++[(b:Int)] }:=by simp only[PSt.lay,hu];rw[b0,<-hq]
 rw[e];exact⟨_,_,_,_,h6⟩
theorem Fm:cB IU 27 #[(0,1),(1,1),(2,1),(3,1),(4,1)]:=⟨_,underlying27,fun w=>by kernel_rfl⟩
def Rows(w:I0)(v:ix)(L:List (List Int)):Prop:=
 ∃rvs:List ix,Sl (fun x=>[x]) 1 w v rvs/\rvs.length=L.length/\∀i,i<L.length->Kj w (nth rvs i) (nth L i)
theorem Rows.ext{w w':I0}{v:ix}{L:List (List Int)}(h:Rows w v L)(e:Js w w'):Rows w' v L:=by
 obtain⟨a0,h1,h2,h3⟩:=h;exact⟨a0,h1.ext e,h2,fun i hi=>(h3 i hi).ext e⟩
def ib(a0:Int)(a1:List Int):Bool:=(a1.length:Int) != a0 || !(inB 0 65535 a1)
theorem D4(a0:Int)(a1:List Int)(rv:ix)(b:Addr)(w:I0)(h:Kj w rv a1)(hb:w.cell? b=some (nI a0)):
  JZ IU 98 [rv,.pointer (some b)] w fun v w'=>v=.bool (ib a0 a1)/\Js w w':=by
 refine I3 func98 ntmps98 rfl rfl ?_;refine zh ?_
 by_cases hl:(a1.length:Int)=a0
 ·refine au (d:=8) rfl (b':=false) (by simpa using hl) ?_;refine zh ?_
  refine zc L7 (eO 0 65535 a1 rv w h) ?_;rintro v w1 ⟨rfl,hE⟩;refine zh ?_
  refine af rfl rfl (⟨by simp[ib,hl],hE⟩)
 refine au (d:=8) rfl (b':=true) (by simpa using hl) ?_;refine zh ?_
 refine af rfl rfl (⟨by simp[ib,hl],I9 _⟩)
def bQ(a0:Int)(L:List (List Int)):Bool:=decide (a0<1)||decide (64<a0)||decide (1000<L.length)||L.any (ib a0)
def kZ(a0:Int)(L:List (List Int)):PSt:=L.foldl PSt.lay ⟨a0,[],[],[],[]⟩
def PkV(w:I0)(v:ix)(p:PSt):Prop:=
 ∃uv bv kv nv,v=.agg #[nI p.width,uv,bv,kv,nv]/\Kj w uv p.usual/\Kj w bv p.base/\Kj w kv p.check/\Kj w nv p.next
theorem PkV.ext{w w':I0}{v:ix}{p:PSt}(h:PkV w v p)(e:Js w w'):PkV w' v p:=by
 obtain⟨uv,bv,kv,nv,h0,h1,h2,h3,h4⟩:=h;exact⟨uv,bv,kv,nv,h0,h1.ext e,h2.ext e,h3.ext e,h4.ext e⟩
theorem qU(p:PSt)(s:Nat)(r e:Int):(p.take s r e).check.length=max p.check.length (s+1)/\(p.take s r e).usual=p.usual/\(p.take s r e).base=p.base/\(p.take s r e).width=p.width:=by
 simp[PSt.take,PSt.long];omega
theorem kz(f:Nat->Int)(b:Nat)(r:Int):∀(a0:List Nat) (p:PSt),(∀c∈a0,c<64)->p.next.length=p.check.length->
  let q:=a0.foldl (fun q c=>q.take (b+c) r (f c)) p
  q.check.length<=max p.check.length (b+64)/\q.usual=p.usual/\q.base=p.base/\q.width=p.width/\q.next.length=q.check.length
 |[],p,_,hl=>⟨by simp;omega,rfl,rfl,rfl,hl⟩
 |c::a0,p,hc,hl=>by
  have h:=kz f b r a0 (p.take (b+c) r (f c)) (fun x hx=>hc x (by simp[hx])) (mh hl);obtain⟨t1,t2,t3,t4⟩:=qU p (b+c) r (f c);have:=hc c (by simp);simp only[I5]at h ⊢;rw[t1,t2,t3,t4]at h;exact⟨zo,h.2⟩
theorem iq(p:PSt)(a0:List Int)(hw:a0.length<=64)(hl:p.next.length=p.check.length):
  (p.lay a0).check.length<=p.check.length+64/\(p.lay a0).usual=p.usual++[bH a0]/\(p.lay a0).base.length=p.base.length+1/\(p.lay a0).width=p.width/\(p.lay a0).next.length=(p.lay a0).check.length:=by
 have hb:=(gg p.check (bF a0 (bH a0))).2.1;obtain⟨h1,h2,h3,h4,h5⟩:=kz (fun c=>nth a0 c) (fw p.check (bF a0 (bH a0))) p.base.length (bF a0 (bH a0)) p (fun c hc=>by have:=kF hc;omega) hl;refine⟨?_,?_,?_,h4,h5⟩
 ·simp only[PSt.lay];omega
 ·simp only[PSt.lay];rw[h2]
 simp only[PSt.lay];rw[h3];simp
def PkF(B:Nat)(v:ix):Prop:=∃wd uv bv kv nv,v=.agg #[wd,uv,bv,kv,nv]/\Ky B uv/\Ky B bv/\Ky B kv/\Ky B nv
theorem mO(width:Int)(L:List (List Int))(rv:ix)(w:I0)(h:Rows w rv L):
  JZ IU 66 [nI width,rv] w fun v w'=>∃pv e,v=.tuple #[pv,nI e]/\PkV w' pv (if bQ width L then⟨0,[],[],[],[]⟩else kZ width L)/\e=(if bQ width L then 1 else 0)/\Js w w'/\(bQ width L=false->PkF w.heap.size pv):=by
 obtain⟨a4,hr,b1,c5⟩:=h;have f4:=hr.len_le;refine I3 func66 ntmps66 rfl rfl ?_;refine zh ?_;refine aF (aw w) 1 zo rfl rfl ?_;intro bw w1 O1 d' e0 e6 e';refine ar e6 2 zo (Jz _) rfl ?_;intro br w2 O2 a1 d2 e5 e9;have a':=d'.upd d2 zd zd;have cw:∀w',Js w2 w'->w'.cell? ⟨bw,0,none⟩=some (nI width):=fun w' e=>e.cell (a'.cell 0 rfl)
 have hE:=e'.trans e9;have hU:=(e0.mono (S':=fun j=>1<=j/\j<=16) zo zo).trans (d2.mono zo zo);have d4:=hr.ext hE;refine zh ?_;refine zvH (dR rfl rfl) ?_;refine zvH (RV.ld (cw _ (I9 _)) rfl) ?_;have fin:∀(w3:I0),Js w w3->bQ width L=true->
   ∃pv e,Value.tuple #[.agg #[nI 0,nS,nS,nS,nS],nI 1]=.tuple #[pv,nI e]/\PkV w3 pv (if bQ width L then⟨0,[],[],[],[]⟩else kZ width L)/\e=(if bQ width L then 1 else 0)/\Js w w3/\(bQ width L=false->PkF w.heap.size pv):=by
  intro w3 he hb;rw[hb];exact⟨_,_,rfl,⟨_,_,_,_,rfl,(IL _ 3 _ (fun _=>0) w3 1).sl,(IL _ 3 _ (fun _=>0) w3 1).sl,(IL _ 3 _ (fun _=>0) w3 1).sl,(IL _ 3 _ (fun _=>0) w3 1).sl⟩,rfl,he,fun h=>absurd h zd⟩
 by_cases h1:width<1
 ·refine au (d:=13) rfl (b':=true) (decide_eq_true h1) ?_;refine zh ?_
  refine zTH rfl rfl ?_;refine zv (aE Fm (Jz _) rfl (by first|rfl|(simp only[IJ,Je];rfl)) rfl rfl) ?_
  refine aZ a1 rfl (Ji _) rfl rfl rfl rfl ?_;refine zh ?_
  refine aS rfl rfl rfl ((a1.setRow).cellsAdd) (Ki _) (Ji _) (fin _ (hU.trans (IV zo a1.tag zo)).ext (by simp[bQ,h1]))
 refine au (d:=13) rfl (b':=false) (decide_eq_false h1) ?_;refine zh ?_
 refine zvH (RV.ld (cw _ (I9 _)) rfl) ?_
 by_cases h2:64<width
 ·refine au (d:=17) rfl (b':=true) (decide_eq_true h2) ?_;refine zh ?_
  refine zTH rfl rfl ?_;refine zv (aE Fm (Jz _) rfl (by first|rfl|(simp only[IJ,Je];rfl)) rfl rfl) ?_
  refine aZ a1 rfl (Ji _) rfl rfl rfl rfl ?_;refine zh ?_
  refine aS rfl rfl rfl ((a1.setRow).cellsAdd) (Ki _) (Ji _) (fin _ (hU.trans (IV zo a1.tag zo)).ext (by simp[bQ,h2]))
 refine au (d:=17) rfl (b':=false) (decide_eq_false h2) ?_;refine zh ?_
 by_cases h3:1000<L.length
 ·refine au (d:=22) rfl (b':=true) (by rw[b1];exact decide_eq_true zo) ?_;refine zh ?_
  refine zTH rfl rfl ?_;refine zv (aE Fm (Jz _) rfl (by first|rfl|(simp only[IJ,Je];rfl)) rfl rfl) ?_
  refine aZ a1 rfl (Ji _) rfl rfl rfl rfl ?_;refine zh ?_
  refine aS rfl rfl rfl ((a1.setRow).cellsAdd) (Ki _) (Ji _) (fin _ (hU.trans (IV zo a1.tag zo)).ext (by simp[bQ,h3]))
 refine au (d:=22) rfl (b':=false) (by rw[b1];exact decide_eq_false zo) ?_;refine zh ?_
 refine zc call49 (fm call98 _ a4 rv (fun i=>ib width (nth L i)) _ d4 (fun i hi w' b9=>D4 width (nth L i) (nth a4 i) _ w' (((c5 i zo).ext hE).ext b9) (cw w' b9))) ?_;rintro v w3 ⟨rfl,b3⟩;rw[b1,ie (p:=ib width)];have a2:=a1.upd (aa (S:=fun _=>False) (fun h=>h) O2 b3) zd (fun h=>h);have b5:=a'.upd (aa (S:=fun _=>False) (fun h=>h) O2 b3) zd (fun h=>h);have d1:=hU.trans (aa zo O2 b3);refine zh ?_
 refine zC ?_ ?_
 ·intro a3;refine zh ?_;refine zv (aE Fm (Jz _) rfl (by first|rfl|(simp only[IJ,Je];rfl)) rfl rfl) ?_;refine aZ a2 rfl (Ji _) rfl rfl rfl rfl ?_;refine zh ?_;refine aS rfl rfl rfl ((a2.setRow).cellsAdd) (Ki _) (Ji _) (fin _ (d1.trans (IV zo a2.tag zo)).ext (by simp only[bQ,a3];simp))
 intro a5;have a3:bQ width L=false:=by simp only[bQ,a5];simp[h1,h2,h3]
 have e4:=e5.ext b3;refine zh ?_;refine zv (RV.ld (b5.cell 0 rfl) rfl) ?_;refine zv (aE Fm (Jz _) rfl (by first|rfl|(simp only[IJ,Je];rfl)) rfl rfl) ?_;refine ar e4 11 zo (Jz _) rfl ?_;intro pb w4 O4 b2 d0 e3 f5;refine zsa (us:=#[nI width,nS,nS,nS,nS]) b2 (Ji _) ?_;have c':IP (fun j=>1<=j/\j<=16) O4 w4 O4 (w4.setRow pb #[nI width,nS,nS,nS,nS]):=IV zo b2.tag zo;have b7:JM O4 (w4.setRow pb #[nI width,nS,nS,nS,nS]) 2 br _ 27:=(a2.upd d0 zd zd).upd (IV (S:=fun j=>j=11) zd b2.tag rfl) zd zd;have e8:PkO 10 O4 (w4.setRow pb #[nI width,nS,nS,nS,nS]) pb ⟨width,[],[],[],[]⟩:=⟨_,_,_,_,b2.setRow,IL _ _ _ _ _ _,IL _ _ _ _ _ _,IL _ _ _ _ _ _,IL _ _ _ _ _ _⟩
 have c9:=(d1.trans (d0.mono (S':=fun j=>1<=j/\j<=16) zo zo)).trans c';have e2:=e3.upd c';generalize w4.setRow pb #[nI width,nS,nS,nS,nS]=w5 at *;have f3:1<=width/\width<=64/\L.length<=1000:=zo;have a9:∀i,i<L.length->((nth L i).length:Int)=width:=fun i hi=>by
  have:=K9.1 a5 _ (aM hi);simp only[ib,Bool.or_eq_true,not_or,bne_iff_ne,ne_eq,Ku]at this;exact this.1
 refine zh ?_;refine zvH (JF (by first|exact hr.ext c9.ext) JW rfl) ?_
 refine zlp (fun x:Nat×(Nat->Nat)×World=>[(1,rv),(4,nP br),(7,nP pb),(30,rv),(31,nI a4.length),(32,nI x.1)]) (fun x=>x.2.2) (fun x=>x.1<=a4.length/\JM x.2.1 x.2.2 2 br #[nI 0,nS,nS,nS,nS] 27/\JY w.heap.size x.2.1 x.2.2/\IP (fun j=>1<=j/\j<=16) (fun _=>0) w x.2.1 x.2.2/\(∃q,q=(L.take x.1).foldl PSt.lay ⟨width,[],[],[],[]⟩/\PkO 10 x.2.1 x.2.2 pb q/\q.check.length<=64*x.1/\q.usual.length=x.1/\q.base.length=x.1/\q.next.length=q.check.length)) (fun x=>a4.length-x.1) (0,O4,w5) (⟨I1 _,b7,e2,c9,_,rfl,e8,by simp,rfl,rfl,rfl⟩) ?_;rintro⟨k,O7,w7⟩ ⟨hk,a0,a8,b0,q,hq,b8,d6,c6,d7,c7⟩;dsimp only at hk a0 a8 b0 hq b8 d6 c6 d7 ⊢;have d3:=hr.ext b0.ext;refine zh ?_
 refine zC ?_ ?_
 ·intro b4;replace b4:k<a4.length:=dT b4;have a6:k<L.length:=zo;have d8:=a9 k a6;refine zh ?_;refine zvH (RV.ld (d3.ld zo) rfl) ?_;refine zc call100 (ud 10 pb q (nth L k) (nth a4 k) w.heap.size O7 w7 b8 a8 (fun w' hB=>(c5 k a6).ext (Lm b0.ext hB)) zo zo c7 zo zo zo) ?_;rintro v w8 ⟨O8,e7,c8,e1⟩;have b6:=a0.upd c8 zd (by unfold xh;omega);obtain⟨l1,l2,l3,l4,l5⟩:=iq q (nth L k) zo c7;refine zh ?_;refine zxd (k+1,O8,w8) (⟨b4,b6,e1,b0.trans (c8.mono (by unfold xh;omega) zo),_,?_,e7,zo,by rw[l2];simp[c6],zo,l5⟩);rw[aI a6,IM,<-hq];rfl
 intro d9;obtain rfl:k=a4.length:=dF d9;rw[b1,II]at hq;obtain⟨uv,bv,kv,nv,h7⟩:=b8;refine zh ?_;refine zv (ah h7.blk.cellsAdd (Ki _) (Ji _) rfl) ?_;refine zsb (us:=#[nI q.width,uv,bv,kv,nv]) a0 (Ji _) (by simp only[IJ,h7.u.one,h7.b.one,h7.k.one,h7.n.one];rfl) ?_;have a7:IP (fun j=>j=2) O7 w7 O7 (w7.setRow br #[nI q.width,uv,bv,kv,nv]):=IV zd a0.tag rfl;have h9:=h7.upd a7 (by unfold jn;omega);have d5:kZ width L=q:=hq.symm;refine zh ?_;refine aS rfl rfl rfl ((a0.setRow).cellsAdd) (Ki _) (Ji _) (⟨_,_,rfl,⟨uv,bv,kv,nv,?_,?_,?_,?_,?_⟩,by rw[a3];rfl,(b0.trans (a7.mono zo zo)).ext,fun _=>⟨_,uv,bv,kv,nv,rfl,h9.u.newV zd (a8.upd a7),h9.b.newV zd (a8.upd a7),h9.k.newV zd (a8.upd a7),h9.n.newV zd (a8.upd a7)⟩⟩)
 all_goals rw[a3,if_neg Bool.false_ne_true,d5]
 ·exact h9.u.sl
 ·exact h9.b.sl
 ·exact h9.k.sl
 exact h9.n.sl
def uB(n:Int):Bool:=decide (0<=n)
def ed(l:List Int):Nat:=l.countP uB
def vS(a0:List Int)(u:Int):Nat:=a0.countP fun n=>n != u
def lg(L:List (List Int))(us:List Int)(i:Nat):Nat:=((I6 i).map fun j=>vS (nth L j) (nth us j)).sum
theorem rW(L:List (List Int))(us:List Int)(i:Nat):lg L us (i+1)=lg L us i+vS (nth L i) (nth us i):=by
 simp[lg,Jb]
theorem xZ(a0:List Int)(u:Int):(bF a0 u).length=vS a0 u:=by
 have a1:∀k,k<=a0.length->(fo a0 u k).length=(a0.take k).countP (fun n=>n != u):=by
  intro k
  induction k with
  |zero=>intro _;rfl
  |succ k ih=>
   intro hk;rw[jC,aI zo,KP];have:=ih zo
   by_cases h:nth a0 k=u
   ·rw[if_pos h,this];simp[h]
   rw[if_neg h,JE,this];simp[h]
 have:=a1 a0.length (ID _)
 rwa[II]at this
def pd(a0:List Int)(s:Nat):Prop:=a0.length<=s\/nth a0 s = -1
theorem AB{a0:List Int}{b c:Nat}:ow a0 b c=true↔pd a0 (b+c):=by
 simp only[ow,pd,JJ,Bool.and_eq_false_iff,decide_eq_false_iff_not]
 constructor
 ·rintro(h|h)
  ·exact .inl zo
  exact .inr (by simpa using h)
 rintro(h|h)
 ·exact .inl zo
 exact .inr (by simpa using h)
theorem xl{l:List Int}{s:Nat}{r:Int}(hs:s<l.length)(hf:nth l s = -1)(hr:0<=r):ed (l.set s r)=ed l+1:=by
 induction l generalizing s with
 |nil=>simp at hs
 |cons a l ih=>
  cases s with
  |zero=>rw[ax]at hf;subst hf;simp[ed,uB,hr]
  |succ s=>
   rw[bA]at hf;have:=ih (by simpa using hs) hf;simp only[ed,List.set_cons_succ,List.countP_cons]at this ⊢;omega
theorem tD(l:List Int)(j:Nat):ed (l++ln j (-1))=ed l:=by
 simp only[ed,KP];have:(ln j (-1:Int)).countP uB=0:=by rw[List.countP_eq_zero];intro a ha;rw[JK ha];decide
 omega
theorem yO(p:PSt)(s:Nat)(r e:Int)(hf:pd p.check s)(hr:0<=r):
  ed (p.take s r e).check=ed p.check+1/\(∀t,t≠s->pd p.check t->pd (p.take s r e).check t)/\
  ((p.check=[]\/0<=nth p.check (p.check.length-1))->(0<=nth (p.take s r e).check ((p.take s r e).check.length-1))):=by
 have a2:(p.check++ln (s+1-p.check.length) (-1:Int)).length=max p.check.length (s+1):=by simp;omega
 have a0:s<(p.check++ln (s+1-p.check.length) (-1:Int)).length:=zo;have a1:∀j i,nth (ln j (-1:Int)) i = -1\/j<=i:=fun j i=>by
  by_cases h:i<j
  ·left;rw[aB (by simpa using h)];simp
  right;omega
 have hs:nth (p.check++ln (s+1-p.check.length) (-1:Int)) s = -1:=by
  rw[aA]
  split
  ·rename_i h;rcases hf with h2|h2
   ·omega
   exact h2
  rename_i h;exact(a1 _ _).resolve_right zo
 have hc:(p.take s r e).check=(p.check++ln (s+1-p.check.length) (-1)).set s r:=rfl;refine⟨?_,fun t ht a3=>?_,fun hl=>?_⟩
 ·rw[hc,xl a0 hs hr,tD]
 ·rw[hc]
  rcases a3 with h|h
  ·by_cases h2:(p.check++ln (s+1-p.check.length) (-1:Int)).length<=t
   ·exact .inl (by simpa using h2)
   refine .inr ?_;rw[aT a0,if_neg ht,aA,if_neg zo];exact(a1 _ _).resolve_right zo
  by_cases h2:t<p.check.length
  ·refine .inr ?_;rw[aT a0,if_neg ht,aA,if_pos h2,h]
  by_cases h3:(p.check++ln (s+1-p.check.length) (-1:Int)).length<=t
  ·exact .inl (by simpa using h3)
  refine .inr ?_;rw[aT a0,if_neg ht,aA,if_neg zo];exact(a1 _ _).resolve_right zo
 rw[hc,aT a0,J4,a2]
 split
 ·exact hr
 rename_i hne;have h3:s+1<=p.check.length:=zo;rw[aA,if_pos zo,show max p.check.length (s+1)-1=p.check.length-1 from by omega]
 rcases hl with h|h
 ·rw[h]at h3;simp at h3
 exact h
theorem sK(f:Nat->Int)(b:Nat)(r:Int)(hr:0<=r):∀(a0:List Nat) (p:PSt),a0.Nodup->(∀c∈a0,pd p.check (b+c))->
  let q:=a0.foldl (fun q c=>q.take (b+c) r (f c)) p
  ed q.check=ed p.check+a0.length/\((p.check=[]\/0<=nth p.check (p.check.length-1))->(q.check=[]\/0<=nth q.check (q.check.length-1)))
 |[],p,_,_=>⟨by simp,fun h=>h⟩
 |c::a0,p,hnd,hf=>by
  obtain⟨hc,a1⟩:=JQ.1 hnd;obtain⟨h1,h2,h3⟩:=yO p (b+c) r (f c) (hf c (by simp)) hr;obtain⟨g1,g2⟩:=sK f b r hr a0 (p.take (b+c) r (f c)) a1 (fun x hx=>h2 (b+x) (fun e=>hc ((by omega:x=c)▸hx)) (hf x (by simp[hx])));refine⟨?_,fun h=>?_⟩
  ·simp only[I5,JN];rw[g1,h1];omega
  simp only[I5];exact g2 (.inr (h3 h))
theorem lU(a0:List Int)(u:Int):(bF a0 u).Nodup:=Lx KK KV
theorem Cd(p:PSt)(a0:List Int):ed (p.lay a0).check=ed p.check+vS a0 (bH a0)/\
  ((p.check=[]\/0<=nth p.check (p.check.length-1))->((p.lay a0).check=[]\/0<=nth (p.lay a0).check ((p.lay a0).check.length-1))):=by
 have a1:=(gg p.check (bF a0 (bH a0))).1;rw[eh,J8]at a1;have:=sK (fun c=>nth a0 c) (fw p.check (bF a0 (bH a0))) p.base.length zo (bF a0 (bH a0)) p (lU _ _) (fun c hc=>AB.1 (a1 c hc));rw[xZ]at this;exact this
theorem oM(width:Int)(L:List (List Int))(hw:∀r∈L,r.length<=64):
  let q:=kZ width L
  q.usual=L.map bH/\q.base.length=L.length/\q.next.length=q.check.length/\q.check.length<=64*L.length/\q.width=width/\ed q.check=lg L q.usual L.length/\(q.check=[]\/0<=nth q.check (q.check.length-1)):=by
 have a1:∀k,k<=L.length->let q:=(L.take k).foldl PSt.lay ⟨width,[],[],[],[]⟩
   q.usual=(L.take k).map bH/\q.base.length=k/\q.next.length=q.check.length/\q.check.length<=64*k/\q.width=width/\ed q.check=lg L ((L.take k).map bH) k/\(q.check=[]\/0<=nth q.check (q.check.length-1)):=by
  intro k
  induction k with
  |zero=>intro _;exact⟨rfl,rfl,rfl,by simp,rfl,rfl,.inl rfl⟩
  |succ k ih=>
   intro hk;obtain⟨h1,h2,h3,h4,h5,h6,h7⟩:=ih zo;generalize hq:(L.take k).foldl PSt.lay ⟨width,[],[],[],[]⟩=q at *;obtain⟨l1,l2,l3,l4,l5⟩:=iq q (nth L k) (hw _ (aM zo)) h3;obtain⟨u1,u2⟩:=Cd q (nth L k);rw[aI zo,IM,hq,IK];simp only[I5,Kk,J7,Kq];refine⟨by rw[l2,h1],zo,l5,zo,by rw[l4,h5],?_,u2 h7⟩;rw[u1,h6,rW];have a0:((L.take k).map bH).length=k:=by simp;omega
   congr 1
   ·simp only[lg];congr 1;refine List.map_congr_left fun j hj=>?_
    have:=IS.1 hj;rw[aA,if_pos zo]
   rw[aA,if_neg zo,a0,JB,ax]
 have:=a1 L.length (ID _);rw[II]at this;obtain⟨h1,h2,h3,h4,h5,h6,h7⟩:=this;exact⟨h1,h2,h3,h4,h5,by rw[kZ,h1];exact h6,h7⟩
abbrev Ent:=Nat×Nat×Int
def gV(A:List Ent):Nat:=A.foldl (fun m x=>max m (x.1+1)) 0
def dd(f:Ent->Int)(A:List Ent)(l:List Int):List Int:=A.foldl (fun l x=>l.set x.1 (f x)) l
def kC(x:Ent):Int:=x.2.1
def If(x:Ent):Int:=x.2.2
def ez(A:List Ent):List Int:=dd kC A (ln (gV A) (-1))
def jZ(A:List Ent):List Int:=dd If A (ln (gV A) 0)
theorem px(A:List Ent)(x:Ent):gV (A++[x])=max (gV A) (x.1+1):=by simp[gV,IM]
theorem xP(A:List Ent):∀m,m<=A.foldl (fun m x=>max m (x.1+1)) m:=by
 induction A with
 |nil=>intro m;exact ID m
 |cons y A ih=>intro m;simp only[I5];have:=ih (max m (y.1+1));omega
theorem dX{A:List Ent}{x:Ent}(h:x∈A):x.1<gV A:=by
 have:∀(A:List Ent) m,x∈A->x.1<A.foldl (fun m x=>max m (x.1+1)) m:=by
  intro A
  induction A with
  |nil=>intro m h;simp at h
  |cons y A ih=>
   intro m h;simp only[I5]
   rcases I7.1 h with rfl|h
   ·have:=xP A (max m (x.1+1));omega
   exact ih _ h
 exact this A 0 h
theorem kX(f:Ent->Int):∀(A:List Ent) (l:List Int),(dd f A l).length=l.length
 |[],_=>rfl
 |x::A,l=>by simp only[dd,I5];exact(kX f A _).trans (by simp)
theorem fp(A:List Ent):(ez A).length=gV A:=by rw[ez,kX];simp
theorem mQ(A:List Ent):(jZ A).length=gV A:=by rw[jZ,kX];simp
theorem fJ(f:Ent->Int):∀(A:List Ent) (l r:List Int),(∀x∈A,x.1<l.length)->dd f A (l++r)=dd f A l++r
 |[],_,_,_=>rfl
 |x::A,l,r,h=>by
  simp only[dd,I5];rw[List.set_append_left _ _ (h x (by simp))];exact fJ f A _ r (fun y hy=>by simpa using h y (by simp[hy]))
theorem mK(f:Ent->Int)(A:List Ent)(x:Ent)(l:List Int):dd f (A++[x]) l=(dd f A l).set x.1 (f x):=by simp[dd,IM]
theorem zB(n s:Nat)(z:Int):ln (max n (s+1)) z=ln n z++ln (s+1-n) z:=by
 rw[List.replicate_append_replicate];congr 1;omega
theorem yc(A:List Ent)(x:Ent):ez (A++[x])=(ez A++ln (x.1+1-(ez A).length) (-1)).set x.1 x.2.1:=by
 rw[ez,px,mK,zB,fJ _ _ _ _ (fun y hy=>by simpa using dX hy),fp];rfl
theorem xB(A:List Ent)(x:Ent):jZ (A++[x])=(jZ A++ln (x.1+1-(jZ A).length) 0).set x.1 x.2.2:=by
 rw[jZ,px,mK,zB,fJ _ _ _ _ (fun y hy=>by simpa using dX hy),mQ];rfl
theorem yP(p:PSt)(A:List Ent)(x:Ent)(h1:p.check=ez A)(h2:p.next=jZ A):(p.take x.1 x.2.1 x.2.2).check=ez (A++[x])/\(p.take x.1 x.2.1 x.2.2).next=jZ (A++[x]):=by
 refine⟨?_,?_⟩
 ·rw[yc,<-h1];rfl
 rw[xB,<-h2,h2,mQ,<-fp,<-h2,<-h1];rfl
def jq(a0:List Int)(u:Int)(b i k:Nat):List Ent:=(fo a0 u k).map fun c=>(b+c,i,nth a0 c)
theorem sL(a1:List Int)(b i:Nat):∀(a0:List Nat) (p:PSt) (A:List Ent),p.check=ez A->p.next=jZ A->
  let q:=a0.foldl (fun q c=>q.take (b+c) i (nth a1 c)) p
  q.check=ez (A++a0.map fun c=>(b+c,i,nth a1 c))/\q.next=jZ (A++a0.map fun c=>(b+c,i,nth a1 c))
 |[],p,A,h1,h2=>by simpa using⟨h1,h2⟩
 |c::a0,p,A,h1,h2=>by
  obtain⟨g1,g2⟩:=yP p A (b+c,i,nth a1 c) h1 h2;have:=sL a1 b i a0 _ _ g1 g2;simpa using this
theorem vD(p:PSt)(A:List Ent)(a0:List Int)(h1:p.check=ez A)(h2:p.next=jZ A):
  let b:=fw p.check (bF a0 (bH a0))
  (p.lay a0).check=ez (A++jq a0 (bH a0) b p.base.length a0.length)/\(p.lay a0).next=jZ (A++jq a0 (bH a0) b p.base.length a0.length):=
 sL a0 _ _ _ p A h1 h2
theorem vE(p:PSt)(a0:List Int):(p.lay a0).base=p.base++[(fw p.check (bF a0 (bH a0)):Int)]/\(p.lay a0).usual=p.usual++[bH a0]/\(p.lay a0).width=p.width:=by
 have a2:∀(a1:List Nat) (f:Nat->Int) (b:Nat) (r:Int) (p:PSt),let q:=a1.foldl (fun q c=>q.take (b+c) r (f c)) p;q.base=p.base/\q.usual=p.usual/\q.width=p.width:=by
  intro a1 f b r
  induction a1 with
  |nil=>intro p;exact⟨rfl,rfl,rfl⟩
  |cons c a1 ih=>intro p;exact ih (p.take (b+c) r (f c))
 obtain⟨h1,h2,h3⟩:=a2 (bF a0 (bH a0)) (fun c=>nth a0 c) (fw p.check (bF a0 (bH a0))) p.base.length p;refine⟨?_,?_,h3⟩
 ·simp only[PSt.lay];rw[h1]
 simp only[PSt.lay];rw[h2]
theorem oI(A:List Ent)(s:Nat):∀(l:List Int),s<l.length->(∀x∈A,x.1<l.length)->(nth (dd kC A l) s≠-1↔(A.any (fun x=>x.1==s)=true\/nth l s≠-1)):=by
 induction A with
 |nil=>intro l _ _;simp[dd]
 |cons x A ih=>
  intro l hs h;have h1:=ih (l.set x.1 (kC x)) (by simpa using hs) (fun y hy=>by simpa using h y (by simp[hy]));simp only[dd,I5]at h1 ⊢;rw[h1,aT (h x (by simp)),List.any_cons]
  by_cases e:x.1=s
  ·have:kC x≠-1:=by unfold kC;omega
   simp[e,this]
  have e2:¬s=x.1:=fun h=>e h.symm
  simp[e,e2]
theorem yN(A:List Ent)(s:Nat):(A.any fun x=>x.1==s)=(decide (s<(ez A).length)&&nth (ez A) s != -1):=by
 by_cases hs:s<gV A
 ·have h1:=oI A s (ln (gV A) (-1)) (by simpa using hs) (fun y hy=>by simpa using dX hy);have h2:nth (ln (gV A) (-1:Int)) s = -1:=by rw[aB (by simpa using hs)];simp
  rw[fp];simp only[h2,ne_eq,not_true,or_false]at h1;rw[decide_eq_true hs,L9]
  cases ha:A.any (fun x=>x.1==s)with
  |true=>have:=h1.2 ha;exact(bne_iff_ne.2 this).symm
  |false=>
   rw[ha]at h1;have:nth (ez A) s = -1:=Ku.1 (fun h=>by cases h1.1 h);rw[this];rfl
 rw[fp,decide_eq_false hs,L6,K9];intro x hx h;have:=dX hx;have:x.1=s:=by simpa using h
 omega
theorem xO(A:List Ent)(b c:Nat):ow (ez A) b c = !(A.any fun x=>x.1==b+c):=by rw[yN];rfl
def PSt.same(p q:PSt):Bool:=p.width==q.width&&p.usual==q.usual&&p.base==q.base&&p.check==q.check&&p.next==q.next
def wOk(a0:Int)(n:Nat):Bool:=decide (1<=a0)&&decide (a0<=64)&&decide ((n:Int)<=1000)
def inR(n:Int):Bool:=decide (0<=n)&&decide (n<=65535)
theorem tf(a0:Int)(a1:List Int):(!ib a0 a1)=((a1.length:Int)==a0&&a1.all inR):=by
 simp only[ib,bne,Lk,Bool.not_not];rfl
theorem oN(a0:Int)(L:List (List Int)):(!bQ a0 L)=(wOk a0 L.length&&L.all (fun r=>!ib a0 r)):=by
 simp only[bQ,wOk,Lk,List.not_any_eq_all_not];congr 2
 ·congr 1<;>rw[<-decide_not]<;>exact decide_eq_decide.2 zo
 rw[<-decide_not];exact decide_eq_decide.2 zo
theorem qh{a0:Int}{L:List (List Int)}(h:bQ a0 L=false):1<=a0/\a0<=64/\L.length<=1000/\(∀r∈L,(r.length:Int)=a0)/\∀r∈L,r.length<=64:=by
 have h2:(!bQ a0 L)=true:=by rw[h];rfl
 rw[oN,Jf]at h2;simp only[wOk,Jf,decide_eq_true_eq]at h2;have h3:∀r∈L,(r.length:Int)=a0:=fun r hr=>by
  have:=J8.1 h2.2 r hr;rw[tf,Jf]at this;simpa using this.1
 exact⟨zo,zo,zo,h3,fun r hr=>by have:=h3 r hr;omega⟩
def cN(p:PSt):Bool:=
 !(decide (p.width<1)||decide (64<p.width)||decide ((1000:Int)<p.usual.length)||((p.base.length:Int) != p.usual.length)) &&
 !((p.check.length:Int) != p.next.length||decide ((65599:Int)<p.check.length)) &&
 (inB 0 65535 p.usual&&inB 0 65535 p.base&&inB 0 65535 p.next&&inB (-1) ((p.usual.length:Int)-1) p.check)
theorem xz(p:PSt)(pv:ix)(w:I0)(hp:PkV w pv p):
  JZ IU 74 [pv] w fun v w'=>v=.bool (cN p)/\Js w w':=by
 obtain⟨u1,b1,k1,n1,rfl,a4,a7,a5,a6⟩:=hp;have b0:=a4.len_le;refine I3 func74 ntmps74 rfl rfl ?_;refine zg ?_;refine aF (aw w) 1 zo rfl rfl ?_;intro x1 w1 O1 a0 b2 b3 a1;replace a4:=a4.ext a1;replace a7:=a7.ext a1;replace a5:=a5.ext a1;replace a6:=a6.ext a1;refine zg ?_;refine zv (RV.ld (a0.cell 1 rfl) rfl) ?_;refine zvG (JF a4 ka rfl) ?_;refine zvG (RV.ld (a0.cell 0 rfl) rfl) ?_;refine bK (fun w1=>_=w1) (decide ((64:Int)<p.width)) 3 (rfl) rfl rfl rfl rfl rfl ?_ ?_
 ·intro h1;refine zg ?_;refine zvG (RV.ld (a0.cell 0 rfl) rfl) ?_;refine cI (tA:=11) 4 (rfl) rfl rfl rfl (fun v hv=>(IZ hv).symm.trans (congrArg IF h1)) rfl
 rintro _ rfl;refine zg ?_;refine bK (fun w1=>_=w1) (decide ((1000:Int)<p.usual.length)) 2 (rfl) rfl rfl rfl rfl rfl ?_ ?_
 ·intro h2;refine zg ?_;refine cI (tA:=16) 3 (rfl) rfl rfl rfl (fun v hv=>(IZ hv).symm.trans (congrArg IF h2)) rfl
 rintro _ rfl;refine zg ?_;refine bK (fun w1=>_=w1) ((p.base.length:Int) != p.usual.length) 5 (rfl) rfl rfl rfl rfl rfl ?_ ?_
 ·intro h3;refine zg ?_;refine zvG (RV.ld (a0.cell 2 rfl) rfl) ?_;refine zvG (JF a7 ka rfl) ?_;refine cI (tA:=20) 6 (rfl) rfl rfl rfl (fun v hv=>(IZ hv).symm.trans (congrArg IF h3)) rfl
 rintro _ rfl;refine zg ?_;refine zC ?_ ?_
 ·intro hg;refine zg ?_;refine af rfl rfl (⟨by simp only[cN,hg];rfl,a1⟩)
 intro hg;refine zg ?_;refine zv (RV.ld (a0.cell 3 rfl) rfl) ?_;refine zvG (JF a5 ka rfl) ?_;refine zv (RV.ld (a0.cell 4 rfl) rfl) ?_;refine zvG (JF a6 ka rfl) ?_;refine bK (fun w1=>_=w1) (decide ((65599:Int)<p.check.length)) 4 (rfl) rfl rfl rfl rfl rfl ?_ ?_
 ·intro h4;refine zg ?_;refine zvG (RV.ld (a0.cell 3 rfl) rfl) ?_;refine zvG (JF a5 ka rfl) ?_;refine cI (tA:=35) 5 (rfl) rfl rfl rfl (fun v hv=>(IZ hv).symm.trans (congrArg IF h4)) rfl
 rintro _ rfl;refine zg ?_;refine zC ?_ ?_
 ·intro a9;refine zg ?_;refine af rfl rfl (⟨by simp only[cN,a9,Bool.not_true,Bool.and_false,L6],a1⟩)
 intro a9;refine zg ?_;refine zv (RV.ld (a0.cell 1 rfl) rfl) ?_;refine zc L7 (eO 0 65535 p.usual u1 w1 a4) ?_;rintro v w2 ⟨rfl,a8⟩;refine zg ?_;refine bz (Js w1) (inB 0 65535 p.base) 3 (a8) rfl rfl rfl rfl rfl ?_ ?_
 ·intro h5;refine zg ?_;refine zvG (RV.ld (a8.cell (a0.cell 2 rfl)) rfl) ?_;refine zc L7 (eO 0 65535 p.base b1 w2 (a7.ext a8)) ?_;rintro v w3 ⟨rfl,a3⟩;refine zg ?_;refine cI (tA:=44) 4 (a8.trans a3) rfl rfl rfl (fun v hv=>(IZ hv).symm.trans (congrArg IF h5)) rfl
 intro w3 a3;refine zg ?_;refine bz (Js w1) (inB 0 65535 p.next) 3 (a3) rfl rfl rfl rfl rfl ?_ ?_
 ·intro h6;refine zg ?_;refine zvG (RV.ld (a3.cell (a0.cell 4 rfl)) rfl) ?_;refine zc L7 (eO 0 65535 p.next n1 w3 (a6.ext a3)) ?_;rintro v w4 ⟨rfl,a2⟩;refine zg ?_;refine cI (tA:=49) 4 (a3.trans a2) rfl rfl rfl (fun v hv=>(IZ hv).symm.trans (congrArg IF h6)) rfl
 intro w4 a2;refine zg ?_;refine bz (Js w1) (inB (-1) ((p.usual.length:Int)-1) p.check) 5 (a2) rfl rfl rfl rfl rfl ?_ ?_
 ·intro h7;refine zg ?_;refine zvG (RV.ld (a2.cell (a0.cell 3 rfl)) rfl) ?_;refine zvG (RV.sub rfl rfl (Jv zo)) ?_;refine zc L7 (eO (-1) ((p.usual.length:Int)-1) p.check k1 w4 (a5.ext a2)) ?_;rintro v w5 ⟨rfl,a'⟩;refine zg ?_;refine cI (tA:=54) 6 (a2.trans a') rfl rfl rfl (fun v hv=>(IZ hv).symm.trans (congrArg IF h7)) rfl
 intro w5 a';refine zg ?_;refine af rfl rfl (⟨by simp only[cN,hg,a9,Bool.not_false,L9],a1.trans a'⟩)
theorem rq(row:List Int):∀(l:List Int) (b:Int),(l.foldl (mj row) b=b)\/l.foldl (mj row) b∈l
 |[],b=>.inl rfl
 |n::l,b=>by
  simp only[I5]
  rcases rq row l (mj row b n)with h|h
  ·rw[h];unfold mj;split
   ·right;simp
   left;rfl
  right;simp[h]
theorem xk(a0:List Int)(h:0<a0.length):bH a0∈a0:=by
 rcases rq a0 a0 (nth a0 0)with e|e
 ·rw[bH,e];exact aM h
 exact e
theorem kW(f:Ent->Int):∀(A:List Ent) (l:List Int) (n:Int),n∈dd f A l->n∈l\/∃x∈A,n=f x
 |[],l,n,h=>.inl h
 |x::A,l,n,h=>by
  rcases kW f A (l.set x.1 (f x)) n h with h|⟨y,hy,he⟩
  ·rcases List.mem_or_eq_of_mem_set h with h|h
   ·exact .inl h
   exact .inr ⟨x,by simp,h⟩
  exact .inr ⟨y,by simp[hy],he⟩
theorem sJ{lo hi:Int}{l:List Int}(h:∀n∈l,lo<=n/\n<=hi):inB lo hi l=true:=by
 rw[inB,J8];intro n hn;have:=h n hn;simp[this]
theorem mP{lo hi:Int}{l:List Int}(h:inB lo hi l=true){n:Int}(hn:n∈l):lo<=n/\n<=hi:=by
 rw[inB,J8]at h;simpa using h n hn
theorem zK(a0:Int)(L:List (List Int))(hw:∀r∈L,r.length<=64)(a2:∀r∈L,inB 0 65535 r=true):∀k,k<=L.length->
  let q:=(L.take k).foldl PSt.lay ⟨a0,[],[],[],[]⟩
  ∃A:List Ent,q.check=ez A/\q.next=jZ A/\q.base.length=k/\q.check.length<=64*k/\(∀b∈q.base,0<=b/\b<=64*(k:Int))/\∀x∈A,x.2.1<k/\0<=x.2.2/\x.2.2<=65535:=by
 intro k
 induction k with
 |zero=>intro _;exact⟨[],rfl,rfl,rfl,I1 _,by simp,by simp⟩
 |succ k ih=>
  intro hk;obtain⟨A,h1,h2,h3,h4,h5,h6⟩:=ih zo;have hm:=aM (l:=L) (j:=k) zo;have hr:=a2 _ hm;rw[aI zo,IM];generalize (L.take k).foldl PSt.lay ⟨a0,[],[],[],[]⟩=q at *;simp only[I5,Kk];generalize nth L k=row at *;obtain⟨e1,e2⟩:=vD q A row h1 h2;obtain⟨l1,l2,l3,l4,l5⟩:=iq q row (hw _ hm) (by rw[h1,h2,mQ,fp]);obtain⟨m1,m2,m3⟩:=vE q row;have hb:=(gg q.check (bF row (bH row))).2.1;refine⟨_,e1,e2,zo,zo,fun b a1=>?_,fun x hx=>?_⟩
  ·rw[m1]at a1
   rcases IN.1 a1 with h|h
   ·have:=h5 b h;omega
   simp only[IG]at h;subst h;omega
  rcases IN.1 hx with h|h
  ·have:=h6 x h;omega
  simp only[jq,IX]at h;obtain⟨c,hc,rfl⟩:=h;have:=mP hr (aM (kF hc));exact⟨by dsimp only;omega,this⟩
theorem tT(width:Int)(L:List (List Int))(a1:bQ width L=false):cN (kZ width L)=true:=by
 obtain⟨a5,a4,hL,a0,a2⟩:=qh a1;have a3:∀r∈L,inB 0 65535 r=true:=fun r hr=>by
  have h2:(!bQ width L)=true:=by rw[a1];rfl
  rw[oN,Jf]at h2;have:=J8.1 h2.2 r hr;rw[tf,Jf]at this;exact this.2
 obtain⟨A,h1,h2,h3,h4,h5,h6⟩:=zK width L a2 a3 L.length (ID _);rw[II]at h1 h2 h3 h4 h5;obtain⟨s1,s2,s3,s4,s5,_,_⟩:=oM width L a2;have hq:L.foldl PSt.lay ⟨width,[],[],[],[]⟩=kZ width L:=rfl;rw[hq]at h1 h2 h3 h4 h5;generalize kZ width L=q at *;have a6:q.usual.length=L.length:=by rw[s1];simp
 have b1:inB 0 65535 q.usual=true:=sJ fun n hn=>by
  rw[s1]at hn;obtain⟨r,hr,rfl⟩:=IX.1 hn;exact mP (a3 r hr) (xk r (by have:=a0 r hr;omega))
 have b2:inB 0 65535 q.base=true:=sJ fun n hn=>by have:=h5 n hn;omega
 have b3:inB 0 65535 q.next=true:=sJ fun n hn=>by
  rw[h2]at hn
  rcases kW _ _ _ _ hn with h|⟨x,hx,rfl⟩
  ·have:=JK h;omega
  exact(h6 x hx).2
 have b4:inB (-1) ((q.usual.length:Int)-1) q.check=true:=sJ fun n hn=>by
  rw[h1]at hn
  rcases kW _ _ _ _ hn with h|⟨x,hx,rfl⟩
  ·have:=JK h;omega
  have:=(h6 x hx).1;unfold kC;omega
 simp only[cN,b1,b2,b3,b4,Bool.and_true];have c1:¬q.width<1:=zo;have c2:¬64<q.width:=zo;have c3:¬(1000:Int)<q.usual.length:=zo;have c4:¬(65599:Int)<q.check.length:=zo;have c5:(q.base.length:Int)=q.usual.length:=zo;have c6:(q.check.length:Int)=q.next.length:=zo;simp[c1,c2,c3,c5,c6];omega
theorem fh(la lb:List Int)(av bv:ix)(w:I0)(ha:Sl (fun x:Int => [Ko .i64 x]) 1 w av la)(hb:Sl (fun x:Int => [Ko .i64 x]) 1 w bv lb):
    JZ IU 39 [av, bv] w fun v w' => v = .bool (la == lb) ∧ Js w w' := by
  have hal := ha.len_le
  refine I3 func39 ntmps39 rfl rfl ?_
  refine zh ?_
  refine zC ?_ ?_
  · intro hne
    refine zh ?_
    refine af rfl rfl (⟨?_, I9 _⟩)
    have:la ≠ lb := fun e => by subst e; simp at hne
    simpa using this.symm ∘ Eq.symm
  · intro heq
    replace heq : la.length = lb.length := by have : (la.length : Int) = lb.length := by simpa using heq
                                              omega
    refine zh ?_
    refine zlp (fun x:Nat×I0 => [(0, av), (1, bv), (12, .int .i64 la.length), (13, .int .i64 x.1)]) (fun x => x.2) (fun x => x.1 ≤ la.length ∧ Js w x.2 ∧ la.take x.1 = lb.take x.1) (fun x => la.length - x.1) (0, w) (⟨I1 _, I9 _, rfl⟩) ?_
    rintro⟨k, w1⟩ ⟨hk, hE, htk⟩
    dsimp only at hk hE htk ⊢
    have ha1 := ha.ext hE
    have hb1 := hb.ext hE
    refine zh ?_
    refine zC ?_ ?_
    · intro hlt
      replace hlt:k < la.length := by have := of_decide_eq_true hlt; omega
      refine zh ?_
      refine Lb (by kernel_rfl) (by kernel_rfl) ?_
      refine zh ?_
      refine zwH (RV.ld (by first | exact ha1.ld (by omega) | exact hb1.ld (by omega)) rfl) ?_
      refine zwH (RV.ld (by first | exact ha1.ld (by omega) | exact hb1.ld (by omega)) rfl) ?_
      refine Lt ?_
      refine zh ?_
      refine zC ?_ ?_
      · intro hne
        refine zh ?_
        refine af rfl rfl (⟨?_, hE.drew⟩)
        have:la ≠ lb := fun e => by subst e; simp at hne
        simpa using this
      · intro hee
        refine zh ?_
        refine zxd (k + 1, w1.drew) (⟨hlt, hE.drew, by rw[aI hlt, aI (by omega:k < lb.length), htk]; first | simpa using hee | (simp at hee; simp; omega)⟩)
    · intro hge
      replace hge:la.length ≤ k := by have := of_decide_eq_false hge; omega
      refine zh ?_
      refine af rfl rfl (⟨?_, hE⟩)
      rw[Jn hge, Jn (by omega)]at htk
      simp[htk]
theorem zG(p q:PSt)(pv qv:ix)(w:I0)(hp:PkV w pv p)(hq:PkV w qv q):
  JZ IU 67 [pv,qv] w fun v w'=>v=.bool (p.same q)/\Js w w':=by
 obtain⟨u1,b1,k1,n1,rfl,a8,b5,b3,a'⟩:=hp;obtain⟨u2,b2,k2,n2,rfl,a7,b4,b0,a9⟩:=hq;refine I3 func67 ntmps67 rfl rfl ?_;refine zh ?_;refine aF (aw w) 1 zo rfl rfl ?_;intro x1 w1 O1 a6 b' b7 b9;refine aF b7 2 zo rfl rfl ?_;intro x2 w2 O2 a5 b6 c5 b8;have a3:=a6.upd b6 zd zd;have hE:=b9.trans b8;have c:∀w',Js w2 w'->(∀j u,(#[nI p.width,u1,b1,k1,n1]:Array ix)[j]? = some u->w'.cell? ⟨x1,j,none⟩=some u)/\(∀j u,(#[nI q.width,u2,b2,k2,n2]:Array ix)[j]? = some u->w'.cell? ⟨x2,j,none⟩=some u):=
  fun w' e=>⟨fun j u hu=>e.cell (a3.cell j hu),fun j u hu=>e.cell (a5.cell j hu)⟩
 refine zh ?_;refine zvH (RV.ld (by first|exact(c _ (I9 _)).1 0 _ rfl|exact(c _ (I9 _)).2 0 _ rfl) rfl) ?_
 refine zvH (RV.ld (by first|exact(c _ (I9 _)).1 0 _ rfl|exact(c _ (I9 _)).2 0 _ rfl) rfl) ?_;refine bz (Js w2) (p.usual==q.usual) 5 (I9 _) rfl rfl rfl rfl rfl ?_ ?_
 ·intro h1;refine zh ?_;refine zvH (RV.ld (by first|exact(c _ (I9 _)).1 1 _ rfl|exact(c _ (I9 _)).2 1 _ rfl) rfl) ?_;refine zvH (RV.ld (by first|exact(c _ (I9 _)).1 1 _ rfl|exact(c _ (I9 _)).2 1 _ rfl) rfl) ?_;refine zc Ln (fh p.usual q.usual u1 u2 _ (a8.ext hE) (a7.ext hE)) ?_;rintro v w3 ⟨rfl,a2⟩;refine zh ?_;refine nE 10 6 (a2) h1
 intro w3 a2;refine zh ?_;refine bz (Js w2) (p.base==q.base) 5 (a2) rfl rfl rfl rfl rfl ?_ ?_
 ·intro h2;refine zh ?_;refine zvH (RV.ld (by first|exact(c _ a2).1 2 _ rfl|exact(c _ a2).2 2 _ rfl) rfl) ?_;refine zvH (RV.ld (by first|exact(c _ a2).1 2 _ rfl|exact(c _ a2).2 2 _ rfl) rfl) ?_;refine zc Ln (fh p.base q.base b1 b2 _ ((b5.ext hE).ext a2) ((b4.ext hE).ext a2)) ?_;rintro v w4 ⟨rfl,a1⟩;refine zh ?_;refine nE 17 6 (a2.trans a1) h2
 intro w4 a1;refine zh ?_;refine bz (Js w2) (p.check==q.check) 5 (a1) rfl rfl rfl rfl rfl ?_ ?_
 ·intro h3;refine zh ?_;refine zvH (RV.ld (by first|exact(c _ a1).1 3 _ rfl|exact(c _ a1).2 3 _ rfl) rfl) ?_;refine zvH (RV.ld (by first|exact(c _ a1).1 3 _ rfl|exact(c _ a1).2 3 _ rfl) rfl) ?_;refine zc Ln (fh p.check q.check k1 k2 _ ((b3.ext hE).ext a1) ((b0.ext hE).ext a1)) ?_;rintro v w5 ⟨rfl,a0⟩;refine zh ?_;refine nE 24 6 (a1.trans a0) h3
 intro w5 a0;refine zh ?_;refine bz (Js w2) (p.next==q.next) 5 (a0) rfl rfl rfl rfl rfl ?_ ?_
 ·intro h4;refine zh ?_;refine zvH (RV.ld (by first|exact(c _ a0).1 4 _ rfl|exact(c _ a0).2 4 _ rfl) rfl) ?_;refine zvH (RV.ld (by first|exact(c _ a0).1 4 _ rfl|exact(c _ a0).2 4 _ rfl) rfl) ?_;refine zc Ln (fh p.next q.next n1 n2 _ ((a'.ext hE).ext a0) ((a9.ext hE).ext a0)) ?_;rintro v w6 ⟨rfl,a4⟩;refine zh ?_;refine nE 31 6 (a0.trans a4) h4
 intro w6 a4;refine zh ?_;refine af rfl rfl (⟨rfl,hE.trans a4⟩)
def getM(p:PSt)(r c:Nat):Int:=
 let k:=(nth p.base r).toNat+c
 if k<p.check.length/\nth p.check k=r then nth p.next k else nth p.usual r
structure OkP(p:PSt):Prop where
 w1:1<=p.width
 w2:p.width<=64
 rows:p.usual.length<=1000
 bl:p.base.length=p.usual.length
 cl:p.check.length=p.next.length
 c2:p.check.length<=65599
 base:∀r,r<p.base.length->0<=nth p.base r/\nth p.base r<=65535
theorem okP(p:PSt)(h:cN p=true):OkP p:=by
 simp only[cN,Jf,JJ,Bool.or_eq_false_iff,decide_eq_false_iff_not,bne_eq_false_iff_eq]at h;obtain⟨⟨⟨⟨⟨h1,h2⟩,h3⟩,h4⟩,h5,h6⟩,⟨⟨h7,h8⟩,h9⟩,a0⟩:=h;exact⟨zo,zo,zo,zo,zo,zo,fun r hr=>mP h8 (aM hr)⟩
theorem DZ(p:PSt)(ok:OkP p)(u1 b1 k1 n1:ix)(pb r c:Nat)(w:I0)(hu:Kj w u1 p.usual)(hb:Kj w b1 p.base)(hk:Kj w k1 p.check)(hn:Kj w n1 p.next)
  (hc:∀j u,(#[nI p.width,u1,b1,k1,n1]:Array ix)[j]? = some u->w.cell? ⟨pb,j,none⟩=some u) (hr:r<p.base.length) (a3:c<64) :
  JZ IU 75 [nP pb,nI r,nI c] w fun v w'=>v=nI (getM p r c)/\w=w':=by
 obtain⟨o1,o2,o3,o4,o5,o6,o7⟩:=ok;have a1:=o7 r hr;obtain⟨b,a0⟩:=Kr a1.1;have hg:getM p r c=if b+c<p.check.length/\nth p.check (b+c)=r then nth p.next (b+c)else nth p.usual r:=by simp only[getM,a0];rfl
 refine I3 func75 ntmps75 rfl rfl ?_;refine zg ?_
 refine zvG (RV.ld (hc 2 _ rfl) rfl) ?_;refine zv (J6 hb ka (I8 _) rfl rfl _ rfl zo) ?_
 refine zv (RV.ld (hb.ld hr) rfl) ?_;have a2:nI (nth p.base r)=nI (b:Int):=by rw[a0]
 rw[a2];refine zg ?_;refine zvG (JS rfl rfl (Jv zo)) ?_;refine zv (RV.ld (hc 3 _ rfl) rfl) ?_;refine zvG (JF hk ka rfl) ?_
 by_cases h1:b+c<p.check.length
 ·refine au (d:=24) rfl (b':=true) (decide_eq_true zo) ?_;refine zg ?_
  refine zvG (RV.ld (hc 3 _ rfl) rfl) ?_;refine zvG (J6 hk ka (I8 _) rfl rfl _ rfl zo) ?_
  refine zvG (RV.ld (hk.ld h1) rfl) ?_;refine zC ?_ ?_
  ·intro he;replace he:nth p.check (b+c)=r:=by simpa using he
   rw[if_pos ⟨h1,he⟩]at hg;refine zg ?_;refine zvG (RV.ld (hc 4 _ rfl) rfl) ?_;refine zv (J6 hn ka (I8 _) rfl rfl (b+c) rfl zo) ?_;refine zvG (RV.ld (hn.ld (i:=b+c) zo) rfl) ?_;refine af rfl rfl (⟨by rw[hg],rfl⟩)
  intro he;replace he:¬nth p.check (b+c)=r:=by simpa using he
  rw[if_neg (fun h=>he h.2)]at hg;refine zg ?_;refine zvG (RV.ld (hc 1 _ rfl) rfl) ?_;refine zv (J6 hu ka (I8 _) rfl rfl _ rfl zo) ?_;refine zvG (RV.ld (hu.ld (i:=r) zo) rfl) ?_;refine af rfl rfl (⟨by rw[hg],rfl⟩)
 rw[if_neg (fun h=>h1 h.1)]at hg;refine au (d:=24) rfl (b':=false) (decide_eq_false zo) ?_;refine zg ?_;refine zFG rfl rfl ?_;refine zvG (RV.ld (hc 1 _ rfl) rfl) ?_;refine zv (J6 hu ka (I8 _) rfl rfl _ rfl zo) ?_;refine zvG (RV.ld (hu.ld (i:=r) zo) rfl) ?_;refine af rfl rfl (⟨by rw[hg],rfl⟩)
def Bu(p:PSt)(r:Nat):List Int:=(I6 p.width.toNat).map (getM p r)
def fM(p:PSt):List (List Int):=(I6 p.usual.length).map (Bu p)
def eV(p:PSt)(r c:Nat):List Int:=(I6 c).map (getM p r)++ln (p.width.toNat-c) 0
theorem zu(p:PSt)(r c:Nat)(h:c<p.width.toNat):(eV p r c).set c (getM p r c)=eV p r (c+1):=by
 simp only[eV];rw[List.set_append_right _ _ (by simp),Jb,IK];obtain⟨d,hd⟩:∃d,p.width.toNat-c=d+1:=⟨p.width.toNat-c-1,zo⟩
 rw[hd,show p.width.toNat-(c+1)=d from by omega];simp[KI]
theorem rL(p:PSt)(r c:Nat)(h:c<=p.width.toNat):(eV p r c).length=p.width.toNat:=by simp[eV];omega
theorem zy(p:PSt)(r:Nat):eV p r p.width.toNat=Bu p r:=by simp[eV,Bu]
theorem fQ(f:Nat->List Int)(n i:Nat)(h:i<n):nth ((I6 n).map f) i=f i:=by
 rw[aB (by simpa using h)];simp
theorem GV:Lj IU 89 25 1 24:=⟨JW,by kernel_rfl,zd⟩
theorem rU(p:PSt)(pv:ix)(w:I0)(hp:PkV w pv p):
  JZ IU 46 [pv] w fun v w'=>∃rv,v=.tuple #[rv,.bool (cN p)]/\(if cN p then Rows w' rv (fM p)else rv=nS)/\Js w w':=by
 have d2:=hp;obtain⟨u1,b1,k1,n1,rfl,hu,hb,hk,hn⟩:=hp;refine I3 func46 ntmps46 rfl rfl ?_;refine zg ?_;refine aF (aw w) 1 zo rfl rfl ?_;intro x1 w1 O1 c5 e2 e5 d0;refine zg ?_;refine zv (ah c5.cellsAdd (Ki _) (Ji _) rfl) ?_;refine zc call74 (xz p _ w1 (d2.ext d0)) ?_;rintro v w2 ⟨rfl,c'⟩;have hE:=d0.trans c';have hc:∀w',Js w2 w'->∀j u,(#[nI p.width,u1,b1,k1,n1]:Array ix)[j]? = some u->w'.cell? ⟨x1,j,none⟩=some u:=fun w' e j u hu=>e.cell (c'.cell (c5.cell j hu))
 replace hu:=hu.ext hE;replace hb:=hb.ext hE;replace hk:=hk.ext hE;replace hn:=hn.ext hE;refine zg ?_;refine zC ?_ ?_
 ·intro hg;replace hg:cN p=false:=by simpa using hg
  refine zg ?_;refine bB rfl rfl rfl (⟨_,by rw[hg],by rw[hg];rfl,hE⟩)
 intro hg;replace hg:cN p=true:=by simpa using hg
 have ok:=okP p hg;obtain⟨o1,o2,o3,o4,o5,o6,o7⟩:=ok;have ok:=okP p hg;obtain⟨n,c6⟩:∃n:Nat,p.width=n:=Kr zo;have a':p.width.toNat=n:=by omega
 refine zg ?_;refine zv (RV.ld (hc _ (I9 _) 1 _ rfl) rfl) ?_
 refine zvG (JF (by first|exact hu) ka rfl) ?_;refine zlp (fun x:Nat×(Nat->Nat)×World×ix×List ix=>[(1,nP x1),(4,x.2.2.2.1),(13,nI p.usual.length),(14,nI x.1)]) (fun x=>x.2.2.1) (fun x=>x.1<=p.usual.length/\Jm (fun v=>[v]) 25 1 x.2.1 x.2.2.1 16 x.2.2.2.1 x.2.2.2.2/\x.2.2.2.2.length=x.1/\(∀i,i<x.1->Kj x.2.2.1 (nth x.2.2.2.2 i) (Bu p i)/\Kb x.2.1 x.2.2.1 (nth x.2.2.2.2 i))/\IP (fun j=>j=16) (fun _=>0) w2 x.2.1 x.2.2.1) (fun x=>p.usual.length-x.1) (0,(fun _=>0),w2,nS,[]) (⟨I1 _,IL _ _ _ _ _ _,rfl,fun i hi=>absurd hi (I4 i),Jo zd _ _⟩) ?_
 rintro⟨k,O3,w3,ov,vs⟩ ⟨d7,b3,a9,a0,b2⟩;dsimp only at d7 b3 a9 a0 b2 ⊢;have b9:=b2.ext;have c9:=(aw w2).upd b2;refine zg ?_;refine zC ?_ ?_
 ·intro b4;replace b4:k<p.usual.length:=by have:=of_decide_eq_true b4;omega
  refine zg ?_;refine zv (RV.ld (hc _ b9 0 _ rfl) rfl) ?_
  refine cZ xT (val:=fun n:Int=>nI n) (0:Int) zk (fun _=>rfl) (aw w3) 15 zd n rfl rfl c6 c6 zo zo rfl ?_;intro w4 O4 lv d5 d6 e0 e4 e6;have a4:mu O4 w4 15 lv (eV p k 0):=by simpa[eV,a']using d6
  have b6:=a4.sl;have a2:(eV p k 0).length=n:=by rw[rL _ _ _ (I1 _),a']
  refine zg ?_;refine zvG (JF (by first|exact b6) ka rfl) ?_
  have b':nI ((eV p k 0).length:Int)=nI (n:Int):=by rw[a2]
  rw[b'];refine zlp (fun y:Nat×I0=>[(1,nP x1),(4,ov),(5,nI k),(6,lv),(13,nI p.usual.length),(14,nI k),(21,nI n),(22,nI y.1)]) (fun y=>y.2) (fun y=>y.1<=n/\mu O4 y.2 15 lv (eV p k y.1)/\IP (fun j=>j=15) (fun _=>0) w3 O4 y.2) (fun y=>n-y.1) (0,w4) (⟨I1 _,a4,e0⟩) ?_;rintro⟨c,w5⟩ ⟨d9,a3,a6⟩;dsimp only at d9 a3 a6 ⊢;have a7:=b9.trans a6.ext;have b5:=a3.sl;have c7:(eV p k c).length=n:=by rw[rL _ _ _ zo,a']
  refine zg ?_;refine zC ?_ ?_
  ·intro a1;replace a1:c<n:=by have:=of_decide_eq_true a1;omega
   refine zg ?_;refine zc call75 (DZ p ok u1 b1 k1 n1 x1 k c w5 (hu.ext a7) (hb.ext a7) (hk.ext a7) (hn.ext a7) (hc _ a7) zo zo) ?_
   rintro v _ ⟨rfl,rfl⟩;refine zv (J6 (by first|exact b5) ka (I8 _) rfl rfl _ rfl zo) ?_;refine Jt a3 c zo (getM p k c) (I8 _) rfl zo rfl rfl rfl rfl ?_;intro w6 b0 d';rw[zu _ _ _ zo]at b0;refine zg ?_;refine zvG (JS rfl rfl (Jv zo)) ?_;refine zxd (c+1,w6) (⟨a1,b0,a6.trans d'⟩)
  intro b7;obtain rfl:c=n:=by have:=of_decide_eq_false b7;omega
  have b0:Kj w5 lv (Bu p k):=by have:=a3.sl;rw[<-a',zy]at this;exact this
  have c8:Kb O3 w5 lv:=a3.free zd ((aw w3).upd a6) c9;have a8:=a6.ext;have b8:IP (fun _=>False) O3 w3 O3 w5:=aa (fun h=>h) O3 a8;have d4:=b3.upd b8 zd (fun h=>h);have e1:=c9.ext a8;subst d5;refine zg ?_;refine Jg GV d4 e1 ((Lc (some ⟨w3.heap.size,0,none⟩) c c)) (fun _=>rfl) rfl rfl rfl (by simp[I2]) zo zo zo zd rfl rfl ?_;intro d1 w7 O7 d3 a5 e3;refine zg ?_;refine zvG (JS rfl rfl (Jv zo)) ?_;refine zxd (k+1,O7,w7,d1,vs++[Lc (some ⟨w3.heap.size,0,none⟩) c c]) (⟨b4,d3,by simp[a9],?_,(b2.trans (aa zd O3 a8)).trans a5⟩);intro i hi;dsimp only at hi ⊢;rw[aA,a9]
  split
  ·rename_i h;obtain⟨g1,g2⟩:=a0 i h;exact⟨(g1.ext a8).upd (g2.upd b8) a5,(g2.upd b8).upd a5⟩
  rename_i h;obtain rfl:i=k:=by omega
  rw[JB,ax];exact⟨b0.upd c8 a5,c8.upd a5⟩
 intro d8;obtain rfl:k=p.usual.length:=by have:=of_decide_eq_false d8;omega
 refine zg ?_;refine bB rfl rfl rfl (⟨_,by rw[hg],by rw[hg,if_pos rfl];exact⟨vs,b3.sl,by simp[a9,fM],fun i hi=>by simp only[fM,Kg,KS]at hi;rw[fM,fQ _ _ _ hi];exact(a0 i hi).1⟩,hE.trans b9⟩)
theorem qV(p:PSt):p.same p=true:=by simp[PSt.same]
theorem oH(f:Ent->Int)(s:Nat):∀(A:List Ent) (l:List Int),(∀x∈A,x.1<l.length)->(∀x∈A,x.1≠s)->nth (dd f A l) s=nth l s
 |[],_,_,_=>rfl
 |x::A,l,h,hs=>by
  have:=oH f s A (l.set x.1 (f x)) (fun y hy=>by simpa using h y (by simp[hy])) (fun y hy=>hs y (by simp[hy]));simp only[dd,I5]at this ⊢;rw[this,aT (h x (by simp)),if_neg (fun e=>hs x (by simp) e.symm)]
theorem jP(f:Ent->Int):∀(A:List Ent) (l:List Int),(A.map (·.1)).Nodup->(∀x∈A,x.1<l.length)->∀x∈A,nth (dd f A l) x.1=f x
 |[],_,_,_,x,hx=>by simp at hx
 |y::A,l,hn,h,x,hx=>by
  simp only[J7,JQ,IX]at hn;have hl:∀z∈A,z.1<(l.set y.1 (f y)).length:=fun z hz=>by simpa using h z (by simp[hz])
  rcases I7.1 hx with rfl|hx
  ·have:=oH f x.1 A (l.set x.1 (f x)) hl (fun z hz e=>hn.1 ⟨z,hz,e⟩);simp only[dd,I5]at this ⊢;rw[this,aT (h x (by simp)),if_pos rfl]
  have:=jP f A (l.set y.1 (f y)) hn.2 hl x hx;simpa only[dd,I5]using this
theorem A0{A:List Ent}(hn:(A.map (·.1)).Nodup){s r:Nat}(h:nth (ez A) s=r)(hs:s<gV A):∃x∈A,x.1=s/\x.2.1=r:=by
 have h1:=oI A s (ln (gV A) (-1)) (by simpa using hs) (fun y hy=>by simpa using dX hy);have h2:nth (ln (gV A) (-1:Int)) s = -1:=by rw[aB (by simpa using hs)];simp
 rw[h2]at h1;have h3:=h1.1 (by rw[ez]at h;rw[h];omega);simp only[ne_eq,not_true,or_false,List.any_eq_true]at h3;obtain⟨x,hx,he⟩:=h3;have he:x.1=s:=by simpa using he
 refine⟨x,hx,he,?_⟩;have h4:=jP kC A (ln (gV A) (-1)) hn (fun y hy=>by simpa using dX hy) x hx;rw[he]at h4;rw[ez,h4]at h;unfold kC at h;omega
structure BInv(width:Int)(L:List (List Int))(k:Nat)(A:List Ent)(q:PSt):Prop where
 chk:q.check=ez A
 nxt:q.next=jZ A
 bl:q.base.length=k
 b0:∀b∈q.base,0<=b
 us:q.usual=(L.take k).map bH
 nd:(A.map (·.1)).Nodup
 mem:∀x:Ent,x∈A↔x.2.1<k/\∃c,c<(nth L x.2.1).length/\nth (nth L x.2.1) c≠bH (nth L x.2.1)/\x.1=(nth q.base x.2.1).toNat+c/\x.2.2=nth (nth L x.2.1) c
theorem oP{a0:List Int}{u:Int}{c:Nat}:c∈bF a0 u↔c<a0.length/\nth a0 c≠u:=by simp[bF,fo]
theorem Iz(a0:Int)(L:List (List Int)):∀k,k<=L.length->∃A,BInv a0 L k A ((L.take k).foldl PSt.lay ⟨a0,[],[],[],[]⟩):=by
 intro k
 induction k with
 |zero=>intro _;exact⟨[],⟨rfl,rfl,rfl,by simp,rfl,by simp,fun x=>by simp⟩⟩
 |succ k ih=>
  intro hk;obtain⟨A,h⟩:=ih zo;rw[aI zo,IM];generalize (L.take k).foldl PSt.lay ⟨a0,[],[],[],[]⟩=q at *;simp only[I5,Kk];obtain⟨e1,e2⟩:=vD q A (nth L k) h.chk h.nxt;obtain⟨m1,m2,m3⟩:=vE q (nth L k);have a3:=(gg q.check (bF (nth L k) (bH (nth L k)))).1;rw[eh,J8,h.chk]at a3;rw[h.chk]at e1 e2 m1;generalize hb:fw (ez A) (bF (nth L k) (bH (nth L k)))=b at *;rw[h.bl]at e1 e2;have a1:∀r,r<k->nth (q.base++[(b:Int)]) r=nth q.base r:=fun r hr=>by rw[aA,if_pos (by rw[h.bl];exact hr)]
  have a4:nth (q.base++[(b:Int)]) k=b:=by rw[aA,h.bl,if_neg (Nat.lt_irrefl _),JB,ax]
  refine⟨_,⟨e1,e2,by rw[m1];simp[h.bl],fun n hn=>?_,by rw[m2,h.us,aI zo];simp,?_,fun x=>?_⟩⟩
  ·rw[m1]at hn
   rcases IN.1 hn with h1|h1
   ·exact h.b0 n h1
   simp only[IG]at h1;subst h1;omega
  ·rw[IK,KR];refine⟨h.nd,?_,fun s hs s' a2 e=>?_⟩
   ·simp only[jq,K8];rw[List.nodup_iff_pairwise_ne,List.pairwise_map];exact(lU (nth L k) (bH (nth L k))).imp (fun {a c} a6 e=>a6 (by simpa using e))
   subst e;simp only[jq,K8,IX,LG]at a2;obtain⟨c,hc,rfl⟩:=a2;obtain⟨y,hy,a5⟩:=IX.1 hs;have h2:=a3 c hc;rw[xO,JJ]at h2;have h3:=K9.1 h2 y hy;exact h3 (by simp[a5])
  rw[IN,h.mem,m1]
  constructor
  ·rintro(⟨h1,c,h2,h3,h4,h5⟩|h1)
   ·exact⟨zo,c,h2,h3,by rw[a1 _ h1];exact h4,h5⟩
   simp only[jq,IX]at h1;obtain⟨c,hc,rfl⟩:=h1;obtain⟨c1,c2⟩:=oP.1 hc;exact⟨by dsimp only;omega,c,c1,c2,by dsimp only;rw[a4];simp,rfl⟩
  rintro⟨h1,c,h2,h3,h4,h5⟩
  by_cases hr:x.2.1<k
  ·exact .inl ⟨hr,c,h2,h3,by rw[a1 _ hr]at h4;exact h4,h5⟩
  obtain⟨x1,x2,x3⟩:=x;dsimp only at h1 h2 h3 h4 h5 hr;obtain rfl:x2=k:=zo;right;rw[a4]at h4;simp only[jq,IX];exact⟨c,oP.2 ⟨h2,h3⟩,by rw[h4,h5];simp⟩
theorem Az(a0:Int)(L:List (List Int))(r c:Nat)(hr:r<L.length)(hc:c<(nth L r).length):getM (kZ a0 L) r c=nth (nth L r) c:=by
 obtain⟨A,h⟩:=Iz a0 L L.length (ID _);rw[II]at h;have hq:L.foldl PSt.lay ⟨a0,[],[],[],[]⟩=kZ a0 L:=rfl;rw[hq]at h;generalize kZ a0 L=q at *;have a1:nth q.usual r=bH (nth L r):=by rw[h.us,II,ei hr]
 unfold getM;rw[h.chk,h.nxt,fp,a1]
 by_cases hu:nth (nth L r) c=bH (nth L r)
 ·rw[if_neg,hu];rintro⟨h1,h2⟩;obtain⟨x,hx,e1,e2⟩:=A0 h.nd h2 h1;obtain⟨g1,c',g2,g3,g4,g5⟩:=(h.mem x).1 hx;rw[e2]at g2 g3 g4;have:c'=c:=zo;subst this;exact g3 hu
 have hx:(((nth q.base r).toNat+c,r,nth (nth L r) c):Ent)∈A:=(h.mem _).2 ⟨by simpa using hr,c,hc,hu,rfl,rfl⟩;have h1:=dX hx;have h2:=jP kC A (ln (gV A) (-1)) h.nd (fun y hy=>by simpa using dX hy) _ hx;have h3:=jP If A (ln (gV A) 0) h.nd (fun y hy=>by simpa using dX hy) _ hx;dsimp only at h1;rw[if_pos ⟨h1,h2⟩];exact h3
end Go.Proofs.YtpfpmhhigheccaaGreatDoor
