/- Texts that the proof of this statement needs, merged and shortened. -/
import Derived.Test.YtpfpmhhigheccaaGreatDoorQWireMeans2
open Go renaming Value->ix,World->ka,TypeId->IP,MapEntry->IU,Program->J9,Operand->JR,Oper->Kc,zeroValue->Li,Exit->LX,Edge->LZ,Addr->Mt,Act->Mu,Calls->MM,sizeOf->MQ,FuncId->MX
open Go.Result renaming andThen_ok->ln
open List renaming mem_singleton->I0,length_set->I3,map_cons->I4,length_append->IE,take_length->IG,eq_nil_of_length_eq_zero->II,append_nil->IK,replicate->IM,mem_append->IT,mem_filter->IY,flatMap_cons->IZ,all_cons->J1,append_assoc->J5,length_cons->Ja,all_nil->Jb,getElem?_eq_some_iff->Jc,map_append->Je,length_nil->Jf,findIdx?_eq_some_iff_getElem->Jg,nodup_append->Jh,mem_range->Ji,mem_map->Jj,eraseIdx_eq_take_drop_succ->Jm,length_singleton->Jo,range->Jp,length_map->Jv,flatMap_append->Jw,filter_sublist->Jy,filter_eq_self->Jz,map_nil->JB,findIdx?_cons->JE,filter_append->JF,map_toArray->JK,filter_cons_of_neg->JL,length_filter_le->JW,mem_append_left->K1,take_succ_eq_append_getElem->Ka,foldl_append->Kb,mem_flatMap->Kk,cons_append->Kl,take_append_of_le_length->Ko,nodup_cons->Kq,take_take->Kw,pairwise_iff_getElem->KB,sum_cons->KE,mem_cons->KF,map_take->KG,getElem?_eq_getElem->KH,filter_cons_of_pos->KJ,take_of_length_le->KM,drop_of_length_le->KN,set_append_right->KS,getElem_set_self->KT,eraseIdx_sublist->KU,pairwise_append->L2,mem_of_mem_take->L3,take_set_of_le->La,replicate_zero->Lb,replicate_succ->Lc,set_cons_zero->Lo,set_cons_succ->Lp,take_sublist->Lu,pairwise_map->Lv,take->Lz,nodup_range->LA,getElem_map->LB,flatMap_nil->LC,filter_cons->LD,nil_append->LU,take_zero->M7,nodup_nil->M8,map_drop->Mb,length->Mi,map->MD
open Nat renaming not_lt_zero->I1,zero_le->I5,le_refl->I7,sub_self->JC,blt->JU,eq_of_beq_eq_true->JY,or_lt_two_pow->Kd,le_trans->Ke,beq->Kf,zero_mul->KQ,zero_add->KR,pow_lt_pow_right->L6,one_mul->L7,le_zero->L8,add_mul->L9,min_eq_left->M6,sub_zero->Mh,mul_one->Mo
open Go.Sem renaming run_bind->I2,run_pure->IQ,run->K2
open Go.Value renaming oneCell'->I6,int->JZ,bool->K4,string->KI,ownBlock->LQ
open Go.Proofs.Tryz renaming underlying25->I8,sizeOf86->IL,prog->IW,underlying89->J2,underlying163->J3,isAgg86->J8,sizeOf91->Jq,sizeOf3->Jr,sizeOf167->JG,zeroValue91->JN,zeroValue25->JO,underlying3->JP,underlying162->JS,underlying160->JT,sizeOf202->JX,zeroValue86->K7,sizeOf25->K8,underlying114->Kj,zeroValue3->Km,sizeOf170->Ky,underlying5->KC,isAgg91->KL,call85->KO,underlying172->L4,zeroValue202->Lq,underlying84->Lr,underlying22->Ls,call84->Lt,zeroValue24->LK,underlying9->LL,sizeOf28->LN,isAgg202->LO,call86->Ma,isAgg25->Me,sizeOf89->Mq,call91->Mr,underlying202->Mv,underlying198->Mw,underlying161->Mx,zeroValue170->ME,call113->MF,underlying4->MH,underlying0->MI,zeroValue5->MN,zeroValue4->MO,zeroValue0->MP
open Go.VL.Ext renaming refl->I9
open Go.VL.Ret renaming enter->ID
open Go.VL.WH renaming one->IF,done->Jt
open Bool renaming and_eq_true->IH,false_eq_true->K6,and_true->Md
open Go.VL renaming Upd->IJ,RowT->IX,MapO->Jl,Rng->K0,Ext->K5,Ret->Kz,BlkO->KK,Free->KW,lowT->Le,Elem->LY,KeyL->Mk,Fits->MY
open Classical renaming byContradiction->IN
open Go.VL.WC renaming region->IR,seq->J6,skip->KZ,block->Lj,exit->MS
open Go.VL.Upd renaming setRow->IS,refl->Jk,set->JH,alloc->Mz
open Go.VL.WL renaming nil->IV,push->KY,val->Lx,mapUpdate->Ml,storeAt->My,step->MR
open Go.Lib renaming compact->J0,compactUpTo->JA,keeps->LV
open Go.VL.RV renaming move->J4,assign->JQ,indexAddr->JV,load->KA,lookup->KP,extract->MA,add->MB
open Go.VL.RowT renaming nil->J7,freeT->Mm
open Go.Proofs.YtpfpmhhigheccaaGreatDoor renaming layO->Jd
open Array renaming getElem?_modify->Jn,getElem?_setIfInBounds->Kp,ext_getElem?->Lh
open UInt8 renaming ofNat->Js,toNat_ofNat'->L5,toNat->Mf
open Go.Region renaming ready->Ju
open Go.Instr renaming keyThatStays->JD,entryStore->JJ,findAsking->Kg,mapEntry->Kr,checkKey->Ku,mapUpdate->LF,findNow->M9
open List.cons renaming injEq->JI
open Option renaming map_some->JM,bind_some->K9,map->L0,isSome_none->L1,getD_some->Ll,getD_none->Lm,bind_none->Ln
open Go.Builtin renaming delete_->Kh,append_->Ki,firstCells->KX,clear_->Lw,lenOf->LJ,len_->MZ
open Go.Calls renaming mono->Kv
open Go.Addr renaming add->Kx
open Go.World renaming block_lt_of_cell?->KD,setCells->LP,setCell->M0,frozen?->M1
open Function renaming comp_def->KV
open Int renaming le_refl->Ld
open Go.Sort renaming ahead->Lk
open Go.Op renaming equalIn->Ly,equal->MJ
open Go.Shelf renaming Ren->LG
open Go.VL.Fit renaming i64->LH
open Go.Proofs.YtpfpmhhigheccaaGreatDoor.Gr renaming lv->LW,fr->MK,leaf->MW
open Std.Legacy.Range renaming size->M4,forIn_eq_forIn_range'->M5
open Go.Proofs.Lays2 renaming n20->Mc
open Go.Proofs.Lays renaming n189->Mg
open List.Pairwise renaming imp_of_mem->Mj
open Go.RowKit.Below renaming heap_setCell->Mn
open List.Sublist renaming append_left->Mp
open Option.some renaming inj->Ms
open Prod renaming fst->MC
open Go.Oper renaming wp->MG
open Prod.mk renaming injEq->MT
open Go.IntKind renaming wrap_u8->MU,u8->MV
set_option maxRecDepth 10000
open Go.VL Go.Proofs Go.Proofs.Tryz
namespace Go.Proofs.YtpfpmhhigheccaaGreatDoor
def Gr.mark(g:Gr)(a e:Nat):Gr:=⟨g.ls,g.ks.set a (g.fr a,g.lv a,e)⟩
theorem dm(g:Gr)(a e:Nat):(g.mark a e).ks.length=g.ks.length:=by simp[Gr.mark]
theorem qq{g:Gr}{a e:Nat}(ha:a<g.ks.length)(k:Nat):(g.mark a e).fr k=g.fr k:=by
 unfold Gr.mark MK;rw[aT ha];split
 ·rename_i h;rw[h]
 rfl
theorem qp{g:Gr}{a e:Nat}(ha:a<g.ks.length)(k:Nat):(g.mark a e).lv k=g.lv k:=by
 unfold Gr.mark LW;rw[aT ha];split
 ·rename_i h;rw[h]
 rfl
theorem Aa{g:Gr}{a e:Nat}(ha:a<g.ks.length)(k:Nat):(g.mark a e).en k=if k=a then e else g.en k:=by
 unfold Gr.mark Gr.en;rw[aT ha];split<;>rfl
theorem B8{g:Gr}{a e:Nat}(ha:a<g.ks.length):Sub g (g.mark a e):=⟨by rw[dm];omega,⟨[],by simp[Gr.mark]⟩,fun k j _ h=>by rw[qq ha];exact h,fun k j _ h=>by rw[qp ha];exact h⟩
theorem WF.mark{g:Gr}(h:WF g){a e:Nat}(ha:a<g.ks.length):WF (g.mark a e):=
 ⟨fun k j hk hj=>by rw[dm]at hk ⊢;rw[qq ha]at hj;exact h.fr k j hk hj,fun k j hk hj=>by rw[dm]at hk;rw[qp ha]at hj;exact h.lv k j hk hj,fun j hj=>by rw[dm];exact h.ls j hj⟩
def gn(g:Gr)(i:Nat):Gr:=((g.knot.mark g.ks.length (i+1)).knot).free 0 (g.ks.length+1)
def rX(x:Nd)(i:Nat)(g:Gr):Gr:=fF x (g.ks.length+1) g.ks.length (gn g i)
def dz:List Nd->Nat->Gr->Gr
 |[],_,g=>g
 |x::r,i,g=>dz r (i+1) (rX x i g)
def g00:Gr:=⟨[],[([],[],0)]⟩
def qZ(xs:List Nd):Gr:=dz xs 0 g00
theorem eQ(g:Gr)(i:Nat):(gn g i).ks.length=g.ks.length+2:=by unfold gn;rw[bf,aK,dm,aK]
theorem gC{g:Gr}(h:WF g)(h0:0<g.ks.length)(i:Nat):WF (gn g i)/\Sub g (gn g i):=by
 have h1:=aK g;have h2:=dm g.knot g.ks.length (i+1);have h3:=aK (g.knot.mark g.ks.length (i+1));refine⟨((h.knot.mark zo).knot).free zo zo,(((kq g).trans (B8 zo)).trans (kq _)).trans (eI zo)⟩
theorem za{g:Gr}(h0:0<g.ks.length)(i k:Nat):(gn g i).en k=if k=g.ks.length then i+1 else if k<g.ks.length then g.en k else 0:=by
 have h1:=aK g;have h2:=dm g.knot g.ks.length (i+1);have h3:=aK (g.knot.mark g.ks.length (i+1));unfold gn;rw[uD zo,qx,Aa zo,qx]
 by_cases hk:k=g.ks.length
 ·simp only[if_pos hk];rw[if_pos zo]
 simp only[if_neg hk]
 by_cases a0:k<g.ks.length
 ·simp only[if_pos a0];rw[if_pos zo]
 simp only[if_neg a0];split<;>rfl
theorem qj{g:Gr}(h:WF g)(h0:0<g.ks.length)(x:Nd)(i:Nat):WF (rX x i g)/\Sub g (rX x i g)/\g.ks.length+2<=(rX x i g).ks.length:=by
 obtain⟨h1,h2⟩:=gC h h0 i;have hl:=eQ g i;obtain⟨h3,h4⟩:=cD x (g.ks.length+1) g.ks.length (gn g i) h1 zo zo;exact⟨h3,h2.trans h4,by have:=h4.len;unfold rX;omega⟩
theorem zL{g:Gr}(h:WF g)(h0:0<g.ks.length)(x:Nd)(i k:Nat):(rX x i g).en k=if k=g.ks.length then i+1 else if k<g.ks.length then g.en k else 0:=by
 obtain⟨h1,h2⟩:=gC h h0 i;have hl:=eQ g i;have:=gU x (g.ks.length+1) g.ks.length (gn g i) h1 zo zo k;rw[za h0,hl]at this;unfold rX;rw[this]
 by_cases hk:k=g.ks.length
 ·rw[if_pos zo]
 rw[if_neg hk]
 by_cases a0:k<g.ks.length
 ·rw[if_pos zo]
 rw[if_neg a0];split<;>rfl
theorem vX:∀(xs:List Nd) (i:Nat) (g:Gr),WF g->0<g.ks.length->WF (dz xs i g)/\Sub g (dz xs i g)/\∀k,k<g.ks.length->(dz xs i g).en k=g.en k
 |[],_,g,h,_=>⟨h,Sub.refl g,fun _ _=>rfl⟩
 |x::r,i,g,h,h0=>by
  obtain⟨h1,h2,h3⟩:=qj h h0 x i;obtain⟨h4,h5,h6⟩:=vX r (i+1) (rX x i g) h1 zo;refine⟨h4,h2.trans h5,fun k hk=>?_⟩;show(dz r (i+1) (rX x i g)).en k=_;rw[h6 k zo,zL h h0,if_neg zo,if_pos hk]
theorem vK:WF g00:=by
 refine⟨fun k j hk hj=>?_,fun k j hk hj=>?_,fun j hj=>?_⟩
 ·have:k=0:=by simpa[g00]using hk
  subst this;simp[MK,g00,ax]at hj
 ·have:k=0:=by simpa[g00]using hk
  subst this;simp[LW,g00,ax]at hj
 simp[g00]at hj
theorem DL(xs:List Nd):WF (qZ xs)/\0<(qZ xs).ks.length:=by
 obtain⟨h1,h2,_⟩:=vX xs 0 g00 vK zd;exact⟨h1,Nat.lt_of_lt_of_le zd h2.len⟩
def dA:List Nat->List Nat->List Nat
 |l,[]=>l
 |l,x::r=>dA (if l.contains x then l else l++[x]) r
def gK(g:Gr):Nat->Nat->List Nat->List Nat
 |0,_,l=>l
 |n+1,i,l=>if i<l.length then gK g n (i+1) (dA l (g.fr (nth l i)))else l
def eF(g:Gr)(k:Nat):List Nat:=gK g g.ks.length 0 [k]
theorem iP:∀(r l:List Nat),∃s,dA l r=l++s
 |[],l=>⟨[],by simp[dA]⟩
 |x::r,l=>by
  unfold dA
  split
  ·exact iP r l
  obtain⟨s,hs⟩:=iP r (l++[x]);exact⟨x::s,by rw[hs];simp⟩
theorem fx:∀(r l:List Nat) (y:Nat),y∈dA l r↔y∈l\/y∈r
 |[],l,y=>by simp[dA]
 |x::r,l,y=>by
  unfold dA;rw[fx r]
  split
  ·rename_i h;have hx:x∈l:=by simpa using h
   constructor
   ·rintro(h1|h1)
    ·exact .inl h1
    exact .inr (by simp[h1])
   rintro(h1|h1)
   ·exact .inl h1
   rcases KF.1 h1 with rfl|h1
   ·exact .inl hx
   exact .inr h1
  simp[or_assoc]
theorem lX:∀(r l:List Nat),l.Nodup->(dA l r).Nodup
 |[],l,h=>h
 |x::r,l,h=>by
  unfold dA;refine lX r _ ?_
  split
  ·exact h
  rename_i hx;have hx:x∉l:=by simpa using hx
  exact Jh.2 ⟨h,by simp,fun a ha b hb=>by rw[I0.1 hb];intro e;exact hx (by rw[<-e];exact ha)⟩
theorem fW{n:Nat}{l:List Nat}(hn:l.Nodup)(h:∀x∈l,x<n):l.length<=n:=by
 have:=hn.length_le_of_subset (l₂:=Jp n) fun x hx=>Ji.2 (h x hx)
 simpa using this
structure Rc(g:Gr)(k i:Nat)(l:List Nat):Prop where
 nd:l.Nodup
 lt:∀x∈l,x<g.ks.length
 fst:k∈l
 pt:∀x∈l,Pt g k [] x
 cl:∀j,j<i->j<l.length->∀y∈g.fr (nth l j),y∈l
theorem qS{g:Gr}{k:Nat}(hk:k<g.ks.length):Rc g k 0 [k]:=⟨by simp,by simpa using hk,by simp,fun x hx=>by rw[I0.1 hx];exact .nil _,fun j hj=>absurd hj (I1 _)⟩
theorem Rc.step{g:Gr}(hw:WF g){k i:Nat}{l:List Nat}(h:Rc g k i l)(hi:i<l.length):Rc g k (i+1) (dA l (g.fr (nth l i))):=by
 have hm:=aM hi;obtain⟨s,hs⟩:=iP (g.fr (nth l i)) l;refine⟨lX _ _ h.nd,fun x hx=>?_,(fx _ _ _).2 (.inl h.fst),fun x hx=>?_,fun j hj a1 y hy=>?_⟩
 ·rcases(fx _ _ _).1 hx with hx|hx
  ·exact h.lt x hx
  exact hw.fr _ _ (h.lt _ hm) hx
 ·rcases(fx _ _ _).1 hx with hx|hx
  ·exact h.pt x hx
  have:=(h.pt _ hm).trans (.eps (h.lt _ hm) hx (.nil x));simpa using this
 have a0:j<l.length:=zo;rw[hs,aA,if_pos a0]at hy;refine(fx _ _ _).2 ?_
 by_cases e:j=i
 ·subst e;exact .inr hy
 exact .inl (h.cl j zo a0 y hy)
theorem Rc.done{g:Gr}{k i:Nat}{l:List Nat}(h:Rc g k i l)(hi:l.length<=i)(q:Nat):q∈l↔Pt g k [] q:=by
 refine⟨h.pt q,fun p=>?_⟩;have a0:∀ {a:Nat} {w:List Int} {b:Nat},Pt g a w b->w=[]->a∈l->b∈l:=fun p=>by
  induction p with
  |nil=>exact fun _ h=>h
  |eps h1 h2 _ ih=>
   intro e ha;obtain⟨j,hj,rfl⟩:=IC ha;exact ih e (h.cl j zo hj _ h2)
  |leaf=>intro e;cases e
 exact a0 p rfl h.fst
theorem mN{g:Gr}(hw:WF g){k:Nat}:∀(n i:Nat) (l:List Nat),Rc g k i l->g.ks.length<=i+n->∀q,q∈gK g n i l↔Pt g k [] q
 |0,i,l,h,hn,q=>h.done (Ke (fW h.nd h.lt) zo) q
 |n+1,i,l,h,hn,q=>by
  unfold gK
  split
  ·rename_i hi;exact mN hw n (i+1) _ (h.step hw hi) zo q
  rename_i hi;exact h.done zo q
theorem mM{g:Gr}(hw:WF g){k:Nat}(hk:k<g.ks.length)(q:Nat):q∈eF g k↔Pt g k [] q:=mN hw _ _ _ (qS hk) zo q
def Gr.pl(g:Gr)(p:Nat):Nat:=if p=0 then 0 else(nth g.ls (p-1)).2.2
def cC(g:Gr)(p:Nat):List Nat:=(eF g (g.pl p)).flatMap g.lv
def fH(g:Gr)(b k:Nat):Nat:=if g.en k=0 then b else b ||| 2^(g.en k-1)
def nU(g:Gr)(p:Nat):Nat:=(eF g (g.pl p)).foldl (fH g) 0
theorem tY{g:Gr}(hw:WF g)(h0:0<g.ks.length){p:Nat}(hp:p<=g.ls.length):g.pl p<g.ks.length:=by
 unfold Gr.pl
 split
 ·exact h0
 exact hw.ls _ zo
theorem vz{g:Gr}(hw:WF g)(h0:0<g.ks.length){p:Nat}(hp:p<=g.ls.length)(j:Nat):j∈cC g p↔∃k,Pt g (g.pl p) [] k/\j∈g.lv k:=by
 unfold cC;rw[Kk]
 constructor
 ·rintro⟨k,hk,hj⟩;exact⟨k,(mM hw (tY hw h0 hp) k).1 hk,hj⟩
 rintro⟨k,hk,hj⟩;exact⟨k,(mM hw (tY hw h0 hp) k).2 hk,hj⟩
structure Stp(g:Gr)(se:Bool)(step:List Int->Int->List Int):Prop where
 mem:∀(s:List Int) (m x:Int),x∈step s m↔(se=true/\x=0)\/∃p∈s,∃j∈cC g p.toNat,x=(j:Int)/\cY (nth g.ls (j-1)).1 (nth g.ls (j-1)).2.1 m=true
def inP(g:Gr)(s:List Int):Prop:=∀x∈s,0<=x/\x.toNat<=g.ls.length
theorem yZ{g:Gr}(hw:WF g)(h0:0<g.ks.length){se:Bool}{step:List Int->Int->List Int}(h:Stp g se step){s:List Int}(hs:inP g s)(m:Int):inP g (step s m):=fun x hx=>by
 rcases(h.mem s m x).1 hx with⟨_,rfl⟩|⟨p,hp,j,hj,rfl,_⟩
 ·exact⟨Ld _,I5 _⟩
 obtain⟨k,hk,a2⟩:=(vz hw h0 (hs p hp).2 j).1 hj;have a1:k<g.ks.length:=(mM hw (tY hw h0 (hs p hp).2) k).2 hk |> fun hm=>by
  have a0:∀ {a:Nat} {w:List Int} {b:Nat},Pt g a w b->a<g.ks.length->b<g.ks.length:=fun p=>by
   induction p with
   |nil=>exact fun h=>h
   |eps h1 h2 _ ih=>exact fun _=>ih (hw.fr _ _ h1 h2)
   |leaf h1 h2 h3 h4 _ ih=>exact fun _=>ih (hw.ls _ h2)
  exact a0 hk (tY hw h0 (hs p hp).2)
 have:=hw.lv k j a1 a2;exact⟨zo,by simp;omega⟩
theorem Pt.lt{g:Gr}(hw:WF g){a b:Nat}{w:List Int}(p:Pt g a w b):a<g.ks.length->b<g.ks.length:=by
 induction p with
 |nil=>exact fun h=>h
 |eps h1 h2 _ ih=>exact fun _=>ih (hw.fr _ _ h1 h2)
 |leaf h1 h2 h3 h4 _ ih=>exact fun _=>ih (hw.ls _ h2)
def dJ(g:Gr)(s:List Int):Nat:=s.foldl (fun b p=>b ||| nU g p.toNat) 0
end Go.Proofs.YtpfpmhhigheccaaGreatDoor
section
namespace Go.Proofs
open Go.Shelf
def mr:LG:=⟨fun|189=>134|125=>159|257=>158|128=>178|129=>179|294=>169|295=>170|296=>171|297=>172|298=>173|299=>174|216=>175|300=>176|301=>177|328=>192|329=>193|330=>194|331=>195|332=>196|215=>197|343=>203|n=>n,fun|28=>25|3=>3|46=>73|0=>0|51=>260|53=>24|4=>4|183=>255|182=>254|131=>141|5=>5|9=>9|218=>271|222=>274|228=>278|229=>224|n=>n,fun|n=>n⟩
theorem lZ:Mg IW mr:={
 mixed:=by kernel_rfl
 f125:=func159.trans (congrArg some (by kernel_rfl))
 f128:=func178.trans (congrArg some (by kernel_rfl))
 f129:=func179.trans (congrArg some (by kernel_rfl))
 f189:=func134.trans (congrArg some (by kernel_rfl))
 f215:=func197.trans (congrArg some (by kernel_rfl))
 f216:=func175.trans (congrArg some (by kernel_rfl))
 f257:=func158.trans (congrArg some (by kernel_rfl))
 f294:=func169.trans (congrArg some (by kernel_rfl))
 f295:=func170.trans (congrArg some (by kernel_rfl))
 f296:=func171.trans (congrArg some (by kernel_rfl))
 f297:=func172.trans (congrArg some (by kernel_rfl))
 f298:=func173.trans (congrArg some (by kernel_rfl))
 f299:=func174.trans (congrArg some (by kernel_rfl))
 f300:=func176.trans (congrArg some (by kernel_rfl))
 f301:=func177.trans (congrArg some (by kernel_rfl))
 f328:=func192.trans (congrArg some (by kernel_rfl))
 f329:=func193.trans (congrArg some (by kernel_rfl))
 f330:=func194.trans (congrArg some (by kernel_rfl))
 f331:=func195.trans (congrArg some (by kernel_rfl))
 f332:=func196.trans (congrArg some (by kernel_rfl))
 f343:=func203.trans (congrArg some (by kernel_rfl))
 t0:=MI
 a0:=isAgg0
 z0:=sizeOf0
 v0:=MP
 t3:=JP
 a3:=isAgg3
 z3:=Jr
 v3:=Km
 t4:=MH
 a4:=isAgg4
 z4:=sizeOf4
 v4:=MO
 t5:=KC
 a5:=isAgg5
 z5:=sizeOf5
 v5:=MN
 t9:=LL
 a9:=isAgg9
 z9:=sizeOf9
 v9:=zeroValue9
 t28:=I8
 a28:=Me
 z28:=K8
 v28:=JO
 t46:=underlying73
 a46:=isAgg73
 z46:=sizeOf73
 v46:=zeroValue73
 t51:=underlying260
 a51:=isAgg260
 z51:=sizeOf260
 v51:=zeroValue260
 t53:=underlying24
 a53:=isAgg24
 z53:=sizeOf24
 v53:=LK
 t131:=underlying141
 a131:=isAgg141
 z131:=sizeOf141
 v131:=zeroValue141
 t182:=underlying254
 a182:=isAgg254
 z182:=sizeOf254
 v182:=zeroValue254
 t183:=underlying255
 a183:=isAgg255
 z183:=sizeOf255
 v183:=zeroValue255
 t218:=underlying271
 a218:=isAgg271
 z218:=sizeOf271
 v218:=zeroValue271
 t222:=underlying274
 a222:=isAgg274
 z222:=sizeOf274
 v222:=zeroValue274
 t228:=underlying278
 a228:=isAgg278
 z228:=sizeOf278
 v228:=zeroValue278
 t229:=underlying224
 a229:=isAgg224
 z229:=sizeOf224
 v229:=zeroValue224 }
open Go.Sort Go.RowKit in
theorem Tryz.slices_Sort_int(blk off a1:Nat)(zs:List Int)(w:ka)(hH:Holds (JZ .i64) w blk off zs.toArray)(a0:blk<w.heap.size)(a2:zs.length<4611686018427387904):
 MM IW 134 #[.slice (some ⟨blk,off,none⟩) zs.length a1] w fun e w'=>
  e=.returned (.tuple #[])/\∃n os,w'=grow (putRow (JZ .i64) (Lk w n) blk off (zs.mergeSort fun x y=>decide (x<=y)).toArray) os:=Any.slices_Sort_int lZ blk off a1 zs w hH a0 a2
def kN:LG:=⟨fun|20=>135|n=>n,fun|22=>25|3=>3|4=>4|0=>0|n=>n,fun|n=>n⟩
theorem jj:Mc IW kN:={
 mixed:=by kernel_rfl
 f20:=func135.trans (congrArg some (by kernel_rfl))
 t0:=MI
 a0:=isAgg0
 z0:=sizeOf0
 v0:=MP
 t3:=JP
 a3:=isAgg3
 z3:=Jr
 v3:=Km
 t4:=MH
 a4:=isAgg4
 z4:=sizeOf4
 v4:=MO
 t22:=I8
 a22:=Me
 z22:=K8
 v22:=JO
 i3:=by kernel_rfl }
open Go.RowKit Go.Lib Go.Sort in
theorem Tryz.slices_Compact_int(blk off a0:Nat)(zs:List Int)(w:ka)(hH:Holds (JZ .i64) w blk off zs.toArray)(a2:zs.length<=9223372036854775807)(a1:zs.length<=a0):
 MM IW 135 #[.slice (some ⟨blk,off,none⟩) zs.length a0] w fun e w'=>e=.returned (.slice (some ⟨blk,off,none⟩) (J0 zs).length a0)/\∃q,w'=putRow (JZ .i64) (Lk w q) blk off (J0 zs++IM (zs.length-(J0 zs).length) 0).toArray:=Any.slices_Compact_int jj blk off a0 zs w hH a2 a1
open Go.RowKit Go.Lib Go.Sort in
theorem Tryz.slices_Compact_int_empty(a:Option Mt)(a0:Nat)(w:ka):
 MM IW 135 #[.slice a 0 a0] w fun e w'=>e=.returned (.slice a 0 a0)/\w'=w:=Any.slices_Compact_int_empty jj a a0 w
open Go.RowKit Go.Sort in
theorem Tryz.slices_Sort_int_none(p:Option Mt)(a0:Nat)(w:ka):
 MM IW 134 #[.slice p 0 a0] w fun e w'=>e=.returned (.tuple #[])/\w'=w:=Any.slices_Sort_int_none lZ p a0 w
end Go.Proofs
end
namespace Go.Proofs.YtpfpmhhigheccaaGreatDoor
section
open Go.VL Go.Proofs Go.Sort
def gD(l:List Int):List Int:=l.mergeSort fun x y=>decide (x<=y)
theorem dK(l:List Int):(gD l).length=l.length:=List.length_mergeSort ..
theorem kB(l:List Int):(l.flatMap encI)=l.map (JZ .i64):=by induction l<;>simp_all[encI]
theorem yD{O:Nat->Nat}{w:ka}{i g n:Nat}{os:Array Obj}(d:Array Int)(hi:i≠0)(ho:O g=i):IJ (fun k=>k=i) O w O (grow (putRow (JZ .i64) (Lk w n) g 0 d) os):=by
 obtain⟨h1,h2,h3,h4,h5⟩:=grownBy_sortedI (w:=w) (g:=g) (n:=n) (os:=os) d;exact⟨h1,h2,h3,h4,fun k hk hn=>h5 k hk (fun e=>hn (by rw[<-ho];congr 1;exact Ms e)),fun _ _=>rfl,fun _ h=>.inl h,fun e=>hi e.symm⟩
theorem jN{B:Nat}{O:Nat->Nat}{i:Nat}{v:ix}{l:List Int}{w:ka}(hR:K0 B O w)(hr:IX encI 3 1 O w i v l)(hi:i≠0)(hl:l.length<=1000000):Kz IW 134 [v] w fun _ w'=>IX encI 3 1 O w' i v (gD l)/\IJ (fun k=>k=i) O w O w'/\K0 B O w':=by
 rcases hr.1.row.2 with⟨rfl,h0⟩|⟨g,a6,a8,rfl,a7,hg,a2,a5,a4,ht⟩
 ·obtain rfl:l=[]:=II h0;refine Kv (Tryz.slices_Sort_int_none none 0 w) fun e w' ⟨he,hw⟩=>?_
  subst he;subst hw;exact⟨by rw[II (dK [])];exact hr,Jk (fun e=>hi e.symm) _ _,hR⟩
 have a0:=hr.1.tag g rfl;rw[kB]at ht;have hH:=holds_of_blockI (ss:=l) hg (by simpa using ht);have a3:=bt hg;refine Kv (Tryz.slices_Sort_int g 0 a6 l w hH a3 zo) fun e w' ⟨he,n,os,hw⟩=>?_
 subst he;subst hw;have hU:=yD (w:=w) (n:=n) (os:=os) (gD l).toArray hi a0;refine⟨⟨⟨?_,fun g' a1=>by simp[LQ]at a1;subst a1;exact a0⟩,fun _ _=>rfl⟩,hU,hR.upd hU⟩;have:=ownsRow_sortedI (w:=w) (n:=n) (os:=os) (base:=0) (ss:=l) (ts:=gD l) (dK l) (I5 _) hg a2 a5 a4;rw[kB,dK];exact this
theorem xW(l:List Int):(J0 l).length<=l.length:=by
 unfold J0 JA;rw[Jv];exact Ke (JW _ _) (by simp)
theorem ew{B:Nat}{O:Nat->Nat}{i:Nat}{v:ix}{l:List Int}{w:ka}(hR:K0 B O w)(hr:IX encI 3 1 O w i v l)(hi:i≠0)(hl:l.length<=1000000):Kz IW 135 [v] w fun u w'=>IX encI 3 1 O w' i u (J0 l)/\IJ (fun k=>k=i) O w O w'/\K0 B O w':=by
 rcases hr.1.row.2 with⟨rfl,h0⟩|⟨g,a4,a7,rfl,b0,hg,a5,a6,a',ht⟩
 ·obtain rfl:l=[]:=II h0;refine Kv (Tryz.slices_Compact_int_empty none 0 w) fun e w' ⟨he,hw⟩=>?_
  subst he;subst hw;exact⟨hr,Jk (fun e=>hi e.symm) _ _,hR⟩
 have a0:=hr.1.tag g rfl;rw[kB]at ht;have hH:=holds_of_blockI (ss:=l) hg (by simpa using ht);have a9:=xW l;refine Kv (Tryz.slices_Compact_int g 0 a4 l w hH zo a5) fun e w' ⟨he,n,hw⟩=>?_
 subst he;obtain⟨ts,a1⟩:∃ts,ts=J0 l++IM (l.length-(J0 l).length) 0:=⟨_,rfl⟩
 rw[<-a1]at hw;have a8:ts.length=l.length:=by rw[a1];simp;omega
 have hU:=yD (w:=w) (n:=n) (os:=#[]) ts.toArray hi a0;have a2:=heap_sortedI (n:=n) (os:=#[]) ts.toArray hg;rw[grow_empty,<-hw]at hU a2;refine⟨⟨⟨⟨by rw[kB];simp,.inr ⟨g,a4,_,rfl,I5 _,a2,zo,a6,by simp[putCells];omega,?_⟩⟩,fun g' a3=>by simp[LQ]at a3;subst a3;exact a0⟩,fun _ _=>rfl⟩,hU,hR.upd hU⟩;have h1:=take_putCellsI a7 ts zo;have h2:=congrArg (Lz (J0 l).length) h1;rw[Kw,M6 zo]at h2;rw[kB,Mo,h2,a1,Je,Ko (by simp),KM (by simp)]
end
def pG(l:List Int):List Int:=J0 (gD l)
structure Cmp(d:Array Int)(m:Nat)(r:List Int):Prop where
 mem:∀x,x∈r↔∃j,j<m/\d[j]! = x
 pw:r.Pairwise (· < ·)
theorem vV(d:Array Int)(hs:∀i j,i<=j->j<d.size->d[i]!<=d[j]!):∀m,m<=d.size->Cmp d m (JA d m)
 |0,_=>⟨fun x=>by simp[JA],by simp[JA]⟩
 |m+1,hm=>by
  have ih:=vV d hs m zo;rw[Lib.compactUpTo_succ]
  by_cases hk:LV d m=true
  ·rw[if_pos hk];refine⟨fun x=>?_,?_⟩
   ·rw[IT,ih.mem,I0]
    constructor
    ·rintro(⟨j,hj,e⟩|e)
     ·exact⟨j,zo,e⟩
     exact⟨m,zo,e.symm⟩
    rintro⟨j,hj,e⟩
    by_cases a0:j=m
    ·subst a0;exact .inr e.symm
    exact .inl ⟨j,zo,e⟩
   refine L2.2 ⟨ih.pw,by simp,fun a ha b hb=>?_⟩;rw[I0]at hb;subst hb;obtain⟨j,hj,rfl⟩:=(ih.mem a).1 ha;simp only[LV,decide_eq_true_eq]at hk;have h1:=hs j (m-1) zo zo;have h2:=hs (m-1) m zo zo
   rcases hk with hk|hk
   ·omega
   omega
  rw[if_neg hk,IK];refine⟨fun x=>?_,ih.pw⟩;rw[ih.mem]
  constructor
  ·rintro⟨j,hj,e⟩;exact⟨j,zo,e⟩
  rintro⟨j,hj,e⟩
  by_cases a0:j=m
  ·subst a0;simp only[LV,decide_eq_true_eq,not_or]at hk;obtain⟨h1,h2⟩:=hk;exact⟨j-1,zo,by rw[<-e];exact(IN fun a1=>h2 fun e2=>a1 e2.symm)⟩
  exact⟨j,zo,e⟩
theorem rF(l:List Int):(gD l).Pairwise (·<=·):=by
 have:=List.pairwise_mergeSort (le:=fun x y:Int=>decide (x<=y)) (fun a b c h1 h2=>by simp at h1 h2 ⊢;omega) (fun a b=>by simp;omega) l;exact this.imp fun h=>by simpa using h
theorem zb(l:List Int)(x:Int):x∈gD l↔x∈l:=List.mem_mergeSort ..
theorem sW(l:List Int):(∀x,x∈pG l↔x∈l)/\(pG l).Pairwise (· < ·):=by
 have hp:=rF l;have a0:∀j,j<(gD l).length->(gD l).toArray[j]! = nth (gD l) j:=fun j hj=>by
  rw[aB hj,getElem!_pos _ j (by simpa using hj)];simp
 have h:=vV (gD l).toArray (fun i j a1 hj=>by
  have hj:j<(gD l).length:=by simpa using hj
  rw[a0 i zo,a0 j hj]
  by_cases e:i=j
  ·subst e;exact Ld _
  have:=KB.1 hp i j zo hj zo
  rw[aB zo,aB hj];exact this) (gD l).length (by simp)
 refine⟨fun x=>?_,h.pw⟩;show x∈JA _ _↔_;rw[h.mem,<-zb l x]
 constructor
 ·rintro⟨j,hj,rfl⟩;rw[a0 j hj];exact aM hj
 intro hx;obtain⟨j,hj,rfl⟩:=IC hx;exact⟨j,hj,a0 j hj⟩
theorem sV(l:List Int)(x:Int):x∈pG l↔x∈l:=(sW l).1 x
theorem vW(l:List Int):(pG l).Pairwise (· < ·):=(sW l).2
theorem BN{a:List Int}(h:a.Pairwise (· < ·)){n:Nat}(hb:∀x∈a,0<=x/\x.toNat<n):a.length<=n:=by
 have hn:(a.map Int.toNat).Nodup:=by
  refine Lv.2 (h.imp_of_mem fun {x y} hx hy a0=>?_);have:=hb x hx;have:=hb y hy;omega
 have:=fW hn (n:=n) fun x hx=>by
  obtain⟨y,hy,rfl⟩:=Jj.1 hx;exact(hb y hy).2
 simpa using this
mutual
def cV:Nd->Nat
 |.mk k _ l=>if l.isEmpty=true/\k≠9 then 1 else aU l
def aU:List Nd->Nat
 |[]=>0
 |t::r=>cV t+aU r
end
mutual
/-- Parts stand where parts may stand. -/
def xI:Nd->Bool
 |.mk k _ l=>(if k=4\/k=5\/k=6\/k=7\/k=8 then !l.isEmpty else l.isEmpty)&&jy l
def jy:List Nd->Bool
 |[]=>true
 |t::r=>xI t&&jy r
end
mutual
theorem ff:∀(t:Nd) (a b:Nat) (g:Gr),xI t=true->gF t=true->(fF t a b g).ls.length=g.ls.length+cV t
 |.mk k c l,a,b,g,hk,hs=>by
  unfold xI at hk
  unfold gF at hs
  simp only[IH]at hk hs
  obtain⟨hk1,hk2⟩:=hk
  obtain⟨hs1,hs2⟩:=hs
  unfold fF cV
  by_cases h4:k=4
  ·rw[if_pos zo]at hk1
   rw[if_pos h4,mY l a b g hk2 hs2,if_neg (by rintro⟨e,_⟩;rw[e]at hk1;simp at hk1)]
  rw[if_neg h4]
  by_cases h5:k=5
  ·rw[if_pos zo]at hk1
   rw[if_pos h5,nc l a b g hk2 hs2,if_neg (by rintro⟨e,_⟩;rw[e]at hk1;simp at hk1)]
  rw[if_neg h5]
  by_cases h678:k=6\/k=7\/k=8
  ·rw[if_pos zo]at hk1
   rw[if_neg h4,if_pos h678]at hs1
   have hO:∀(k:Int) (g:Gr) (i:Nat),(layO k g i).ls=g.ls:=fun k g i=>by unfold layO;split<;>split<;>rfl
   rw[if_pos h678,hO,uA l _ _ _ hk2 hs2 (of_decide_eq_true hs1),if_neg (by rintro⟨e,_⟩;rw[e]at hk1;simp at hk1)]
   rfl
  rw[if_neg h678]
  rw[if_neg zo]at hk1
  have hl:l=[]:=by simpa using hk1
  subst hl
  by_cases h9:k=9
  ·rw[if_pos h9,if_neg (by rintro⟨_,e⟩;exact e h9)]
   rfl
  rw[if_neg h9,if_pos ⟨rfl,h9⟩]
  simp[MW]
theorem mY:∀(l:List Nd) (a b:Nat) (g:Gr),jy l=true->dL l=true->(nQ l a b g).ls.length=g.ls.length+aU l
 |[],_,_,g,_,_=>by simp[nQ,aU]
 |t::r,a,b,g,hk,hs=>by
  unfold jy at hk
  unfold dL at hs
  simp only[IH]at hk hs
  unfold nQ aU
  split
  ·rename_i hr
   have hr:r=[]:=by simpa using hr
   subst hr
   rw[ff t a b g hk.1 hs.1];simp[aU]
  rw[mY r _ _ _ hk.2 hs.2,ff t _ _ _ hk.1 hs.1]
  show g.ls.length+_+_=_
  omega
theorem nc:∀(l:List Nd) (a b:Nat) (g:Gr),jy l=true->dL l=true->(nR l a b g).ls.length=g.ls.length+aU l
 |[],_,_,g,_,_=>by simp[nR,aU]
 |t::r,a,b,g,hk,hs=>by
  unfold jy at hk
  unfold dL at hs
  simp only[IH]at hk hs
  unfold nR aU
  rw[nc r _ _ _ hk.2 hs.2,ff t _ _ _ hk.1 hs.1]
  omega
theorem uA:∀(l:List Nd) (a b:Nat) (g:Gr),jy l=true->dL l=true->l.length=1->(oW l a b g).ls.length=g.ls.length+aU l
 |[],_,_,g,_,_,h=>by simp at h
 |t::r,a,b,g,hk,hs,h=>by
  have hr:r=[]:=by simpa using h
  subst hr
  unfold jy at hk
  unfold dL at hs
  simp only[IH]at hk hs
  unfold oW
  rw[ff t _ _ _ hk.1 hs.1];simp[aU]
end
theorem lV:∀(xs:List Nd) (i:Nat) (g:Gr),jy xs=true->dL xs=true->(dz xs i g).ls.length=g.ls.length+aU xs
 |[],_,g,_,_=>by simp[dz,aU]
 |x::r,i,g,hk,hs=>by
  unfold jy at hk;unfold dL at hs;simp only[IH]at hk hs;unfold dz aU;rw[lV r _ _ hk.2 hs.2,rX,ff x _ _ _ hk.1 hs.1];show g.ls.length+_+_=_;omega
def tH(g:Gr):Nat:=(g.ks.map fun k=>k.2.1.length).sum
theorem pU(f:Kt->Nat):∀(l:List Kt) (a:Nat) (x:Kt),a<l.length->((l.set a x).map f).sum+f (nth l a)=(l.map f).sum+f x
 |[],a,_,h=>absurd h (I1 a)
 |y::l,0,x,_=>by rw[ax];simp;omega
 |y::l,a+1,x,h=>by
  have:=pU f l a x (by simpa using h);rw[bA];simp only[Lp,I4,KE];omega
theorem Cj(g:Gr):tH g.knot=tH g:=by simp[tH,Gr.knot]
theorem Co{g:Gr}{a b:Nat}(ha:a<g.ks.length):tH (g.free a b)=tH g:=by
 have:=pU (fun k=>k.2.1.length) g.ks a (g.fr a++[b],g.lv a,g.en a) ha;unfold tH Gr.free;simp only[LW]at this ⊢;omega
theorem B7{g:Gr}{a b:Nat}(ha:a<g.ks.length):tH (g.mark a b)=tH g:=by
 have:=pU (fun k=>k.2.1.length) g.ks a (g.fr a,g.lv a,b) ha;unfold tH Gr.mark;simp only[LW]at this ⊢;omega
theorem Cb{g:Gr}{x c:Int}{a b:Nat}(ha:a<g.ks.length):tH (g.leaf x c a b)=tH g+1:=by
 have:=pU (fun k=>k.2.1.length) g.ks a (g.fr a,g.lv a++[g.ls.length+1],g.en a) ha;unfold tH MW;simp only[LW,IE,Ja,Jf]at this ⊢;omega
def Tot(g:Gr):Prop:=tH g=g.ls.length
theorem Tot.knot{g:Gr}(h:Tot g):Tot g.knot:=(Cj g).trans h
theorem Tot.free{g:Gr}(h:Tot g){a b:Nat}(ha:a<g.ks.length):Tot (g.free a b):=(Co ha).trans h
theorem Tot.mark{g:Gr}(h:Tot g){a b:Nat}(ha:a<g.ks.length):Tot (g.mark a b):=(B7 ha).trans h
theorem Tot.leaf{g:Gr}(h:Tot g){x c:Int}{a b:Nat}(ha:a<g.ks.length):Tot (g.leaf x c a b):=by
 unfold Tot;rw[Cb ha,mV];simp;exact h
theorem Tot.layO{g:Gr}(h:Tot g){k:Int}{i:Nat}(hi:i+1<g.ks.length):Tot (layO k g i):=by
 unfold Jd;split<;>split
 ·exact h
 ·exact h.free zo
 ·exact h.free hi
 exact(h.free zo).free (by rw[bf];exact hi)
mutual
theorem ko:∀(t:Nd) (a b:Nat) (g:Gr),WF g->a<g.ks.length->b<g.ks.length->Tot g->Tot (fF t a b g)
 |.mk k c l,a,b,g,h,ha,hb,hM=>by
  unfold fF
  split
  ·exact vF l a b g h ha hb hM
  split
  ·exact vG l a b g h ha hb hM
  split
  ·have hl:=ec g a b
   have hwf:=eW h ha hb
   obtain⟨h1,h2⟩:=mZ l g.ks.length (g.ks.length+1) (bT g a b) hwf zo zo
   have:=h2.len
   have hk2:g.knot.knot.ks.length=g.ks.length+2:=by rw[aK,aK]
   have h3:=Ch l g.ks.length (g.ks.length+1) (bT g a b) hwf zo zo ((hM.knot.knot.free zo).free (by rw[bf];omega))
   exact h3.layO (by show _<(oW l g.ks.length (g.ks.length+1) (bT g a b)).ks.length;omega)
  split
  ·exact hM.free ha
  exact hM.leaf ha
theorem vF:∀(l:List Nd) (a b:Nat) (g:Gr),WF g->a<g.ks.length->b<g.ks.length->Tot g->Tot (nQ l a b g)
 |[],_,_,g,_,_,_,hM=>hM
 |t::r,a,b,g,h,ha,hb,hM=>by
  unfold nQ
  split
  ·exact ko t a b g h ha hb hM
  have hl:=aK g
  obtain⟨h1,h2⟩:=cD t a g.ks.length g.knot h.knot zo zo
  have:=h2.len
  exact vF r _ _ _ h1 zo zo (ko t _ _ _ h.knot zo zo hM.knot)
theorem vG:∀(l:List Nd) (a b:Nat) (g:Gr),WF g->a<g.ks.length->b<g.ks.length->Tot g->Tot (nR l a b g)
 |[],_,_,g,_,_,_,hM=>hM
 |t::r,a,b,g,h,ha,hb,hM=>by
  unfold nR
  obtain⟨h1,h2⟩:=cD t a b g h ha hb
  have:=h2.len
  exact vG r _ _ _ h1 zo zo (ko t a b g h ha hb hM)
theorem Ch:∀(l:List Nd) (a b:Nat) (g:Gr),WF g->a<g.ks.length->b<g.ks.length->Tot g->Tot (oW l a b g)
 |[],_,_,g,_,_,_,hM=>hM
 |t::_,a,b,g,h,ha,hb,hM=>by
  unfold oW
  exact ko t a b g h ha hb hM
end
theorem BW{g:Gr}(h:WF g)(h0:0<g.ks.length)(x:Nd)(i:Nat)(ht:Tot g):Tot (rX x i g):=by
 have e1:=aK g;have e2:=dm g.knot g.ks.length (i+1);have e3:=aK (g.knot.mark g.ks.length (i+1));have hl:=eQ g i;exact ko x _ _ _ (gC h h0 i).1 zo zo (((ht.knot.mark zo).knot).free zo)
theorem sY:∀(xs:List Nd) (i:Nat) (g:Gr),WF g->0<g.ks.length->Tot g->Tot (dz xs i g)
 |[],_,_,_,_,ht=>ht
 |x::r,i,g,h,h0,ht=>by
  obtain⟨h1,h2,h3⟩:=qj h h0 x i;exact sY r (i+1) _ h1 zo (BW h h0 x i ht)
theorem pV(f:Kt->Nat)(l:List Kt):(l.map f).sum=((Jp l.length).map fun i=>f (nth l i)).sum:=by
 congr 1;apply List.ext_getElem
 ·simp
 intro i h1 h2;simp only[LB,List.getElem_range];rw[aB (by simpa using h1)]
theorem yU(f:Nat->Nat)(n:Nat):∀(l:List Nat),l.Nodup->(l.map f).sum<=((l.filter fun x=>x != n).map f).sum+f n
 |[],_=>by simp
 |a::l,h=>by
  have h':=Kq.1 h
  by_cases e:a=n
  ·subst e;have hf:(l.filter fun x=>x != a)=l:=Jz.2 fun x hx=>by
    simp only[bne_iff_ne,ne_eq];intro e;exact h'.1 (by rw[<-e];exact hx)
   rw[JL (by simp),hf];simp;omega
  have:=yU f n l h'.2;rw[KJ (by simpa using e)];simp only[I4,KE];omega
theorem rz(f:Nat->Nat):∀(n:Nat) (l:List Nat),l.Nodup->(∀x∈l,x<n)->(l.map f).sum<=((Jp n).map f).sum
 |0,l,_,h=>by
  have:l=[]:=by cases l with
   |nil=>rfl
   |cons a r=>exact absurd (h a (by simp)) (I1 _)
  subst this;simp
 |n+1,l,hn,h=>by
  have h1:=yU f n l hn;have h2:=rz f n (l.filter fun x=>x != n) (hn.filter _) fun x hx=>by
   have hx:=IY.1 hx;have:=h x hx.1;have:x≠n:=by simpa using hx.2
   omega
  rw[List.range_succ,Je,List.sum_append];simp only[I4,JB,KE,List.sum_nil];omega
theorem tU{g:Gr}(hw:WF g){k:Nat}(hk:k<g.ks.length):(eF g k).Nodup/\∀x∈eF g k,x<g.ks.length:=by
 have a0:∀(n i:Nat) (l:List Nat),Rc g k i l->(gK g n i l).Nodup/\∀x∈gK g n i l,x<g.ks.length:=fun n=>by
  induction n with
  |zero=>exact fun i l h=>⟨h.nd,h.lt⟩
  |succ n ih=>
   intro i l h;unfold gK
   split
   ·rename_i hi;exact ih _ _ (h.step hw hi)
   exact⟨h.nd,h.lt⟩
 exact a0 _ _ _ (qS hk)
theorem sM(f:Nat->List Nat):∀(l:List Nat),(l.flatMap f).length=(l.map fun k=>(f k).length).sum
 |[]=>rfl
 |a::l=>by simp
theorem vA{g:Gr}(hw:WF g)(ht:Tot g){p:Nat}(hp:g.pl p<g.ks.length):(cC g p).length<=g.ls.length:=by
 obtain⟨h1,h2⟩:=tU hw hp;unfold cC;rw[sM];have:=rz (fun k=>(g.lv k).length) g.ks.length _ h1 h2;have e:((Jp g.ks.length).map fun k=>(g.lv k).length).sum=tH g:=(pV (fun k=>k.2.1.length) g.ks).symm;rw[e,ht]at this;exact this
def FQ(se:Bool)(g:Gr)(s:List Int)(m:Int):List Int:=
 (if se=true then [0]else [])++s.flatMap fun p=>((cC g p.toNat).filter fun j=>cY (nth g.ls (j-1)).1 (nth g.ls (j-1)).2.1 m).map fun(j:Nat)=>(j:Int)
def cP(se:Bool)(g:Gr)(s:List Int)(m:Int):List Int:=pG (FQ se g s m)
theorem rC(se:Bool)(g:Gr):Stp g se (cP se g):=⟨fun s m x=>by
 unfold cP FQ;rw[sV,IT,Kk]
 constructor
 ·rintro(h|⟨p,hp,h⟩)
  ·cases se with
   |true=>rw[if_pos rfl]at h;exact .inl ⟨rfl,I0.1 h⟩
   |false=>rw[if_neg zd]at h;simp at h
  obtain⟨j,hj,rfl⟩:=Jj.1 h;obtain⟨h1,h2⟩:=IY.1 hj;exact .inr ⟨p,hp,j,h1,rfl,h2⟩
 rintro(⟨h,rfl⟩|⟨p,hp,j,h1,rfl,h2⟩)
 ·rw[if_pos h];exact .inl (by simp)
 exact .inr ⟨p,hp,Jj.2 ⟨j,IY.2 ⟨h1,h2⟩,rfl⟩⟩⟩
theorem BK{se:Bool}{g:Gr}(hw:WF g)(h0:0<g.ks.length){s:List Int}(hs:inP g s)(m:Int):(cP se g s m).length<=g.ls.length+1:=
 BN (vW _) fun x hx=>by have:=yZ hw h0 (rC se g) hs m x hx;exact⟨this.1,zo⟩
theorem Dx{se:Bool}{g:Gr}(hw:WF g)(h0:0<g.ks.length)(ht:Tot g){m:Int}:∀ {s:List Int},inP g s->(FQ se g s m).length<=1+s.length*g.ls.length:=fun {s} hs=>by
 have a0:∀(s:List Int),inP g s->(s.flatMap fun p=>((cC g p.toNat).filter fun j=>cY (nth g.ls (j-1)).1 (nth g.ls (j-1)).2.1 m).map fun(j:Nat)=>(j:Int)).length<=s.length*g.ls.length:=fun s=>by
  induction s with
  |nil=>intro _;simp
  |cons p s ih=>
   intro h;have h1:=ih fun x hx=>h x (by simp[hx])
   have h2:=vA hw ht (tY hw h0 (h p (by simp)).2);have h3:=JW (fun j=>cY (nth g.ls (j-1)).1 (nth g.ls (j-1)).2.1 m) (cC g p.toNat);simp only[IZ,IE,Jv,Ja,L9,L7];omega
 have:=a0 s hs;unfold FQ;rw[IE]
 split
 ·rw[Jo];omega
 rw[Jf];omega
def Bx(S:List (List Int))(s:List Int):Option Nat:=S.findIdx? (· == s)
def Bv(S:List (List Int))(s:List Int):Nat:=(Bx S s).getD S.length
def qm(S:List (List Int))(s:List Int):List (List Int):=if(Bx S s).isSome=true then S else S++[s]
theorem Ar{S:List (List Int)}{s:List Int}{k:Nat}(h:Bx S s=some k):k<S.length/\nth S k=s:=by
 obtain⟨h1,h2,_⟩:=Jg.1 h;exact⟨h1,by rw[aB h1];simpa using h2⟩
theorem vw(S:List (List Int))(s:List Int):∃r,qm S s=S++r:=by
 unfold qm
 split
 ·exact⟨[],by simp⟩
 exact⟨_,rfl⟩
theorem DG(S:List (List Int))(s:List Int):Bv S s<(qm S s).length/\nth (qm S s) (Bv S s)=s:=by
 unfold Bv qm
 cases h:Bx S s with
 |some k=>exact Ar h
 |none=>
  simp only[Lm,L1,K6,if_false];exact⟨by simp,by rw[aA,if_neg zo,JC,ax]⟩
theorem BY(S:List (List Int))(s:List Int):S.length<=(qm S s).length/\(qm S s).length<=S.length+1:=by
 unfold qm
 split
 ·omega
 simp
theorem BX{S:List (List Int)}{s:List Int}{k:Nat}(h:k<S.length):nth (qm S s) k=nth S k:=by
 obtain⟨r,hr⟩:=vw S s;rw[hr,aA,if_pos h]
def di(step:List Int->Int->List Int)(s:List Int)(S:List (List Int)):Nat->List (List Int)×List Nat
 |0=>(S,[])
 |m+1=>(qm (di step s S m).1 (step s (m:Nat)),(di step s S m).2++[Bv (di step s S m).1 (step s (m:Nat))])
structure RowI(step:List Int->Int->List Int)(s:List Int)(S S':List (List Int))(r:List Nat)(m:Nat):Prop where
 pre:∃q,S'=S++q
 top:S'.length<=S.length+m
 len:r.length=m
 lt:∀j,j<m->nth r j<S'.length/\nth S' (nth r j)=step s (j:Nat)
 mem:∀x∈S',x∈S\/∃j:Nat,j<m/\x=step s (j:Nat)
theorem jV(step:List Int->Int->List Int)(s:List Int)(S:List (List Int)):∀m,RowI step s S (di step s S m).1 (di step s S m).2 m
 |0=>⟨⟨[],by simp[di]⟩,by simp[di],rfl,fun j hj=>absurd hj (I1 j),fun x hx=>.inl hx⟩
 |m+1=>by
  have ih:=jV step s S m;unfold di;generalize di step s S m=R at *;obtain⟨S1,r⟩:=R;dsimp only at ih ⊢;obtain⟨q,hq⟩:=ih.pre;obtain⟨q2,a4⟩:=vw S1 (step s (m:Nat));have a5:=DG S1 (step s (m:Nat));have hl:=BY S1 (step s (m:Nat));have a0:=ih.top;have a3:=ih.len;refine⟨⟨q++q2,by rw[a4,hq,J5]⟩,zo,by simp[a3],fun j hj=>?_,fun x hx=>?_⟩
  ·rw[aA]
   by_cases e:j<r.length
   ·rw[if_pos e];obtain⟨a1,a2⟩:=ih.lt j zo;exact⟨zo,by rw[BX a1];exact a2⟩
   rw[if_neg e,show j-r.length=0 from by omega,ax];obtain rfl:j=m:=zo;exact a5
  unfold qm at hx
  split at hx
  ·rcases ih.mem x hx with h|⟨j,hj,e⟩
   ·exact .inl h
   exact .inr ⟨j,zo,e⟩
  rcases IT.1 hx with hx|hx
  ·rcases ih.mem x hx with h|⟨j,hj,e⟩
   ·exact .inl h
   exact .inr ⟨j,zo,e⟩
  exact .inr ⟨m,zo,I0.1 hx⟩
def D3(step:List Int->Int->List Int)(tells:List Int->Nat):Nat->Nat->List (List Int)->List (List Nat)->List Nat->Option (List (List Nat)×List Nat)
 |0,_,_,_,_=>none
 |n+1,i,S,rows,tls=>
  if i<S.length then
   if 1000<(di step (nth S i) S 37).1.length then none
   else D3 step tells n (i+1) (di step (nth S i) S 37).1 (rows++[(di step (nth S i) S 37).2]) (tls++[tells (nth S i)])
  else some (rows,tls)
def CY(step:List Int->Int->List Int)(a0:List Int->Nat):Option (List (List Nat)×List Nat):=D3 step a0 1002 0 [[0]] [] []
structure DI(step:List Int->Int->List Int)(tells:List Int->Nat)(i:Nat)(S:List (List Int))(rows:List (List Nat))(tls:List Nat):Prop where
 le:i<=S.length
 rl:rows.length=i
 tl:tls.length=i
 p0:0<S.length
 fst:nth S 0=[0]
 len:S.length<=1000
 row:∀j,j<i->(nth rows j).length=37/\∀m:Nat,m<37->nth (nth rows j) m<S.length/\nth S (nth (nth rows j) m)=step (nth S j) (m:Nat)
 tel:∀j,j<i->nth tls j=tells (nth S j)
theorem xj(step:List Int->Int->List Int)(a0:List Int->Nat):DI step a0 0 [[0]] [] []:=⟨zd,rfl,rfl,zd,ax _ _,zd,fun j hj=>absurd hj (I1 j),fun j hj=>absurd hj (I1 j)⟩
theorem DI.next{step:List Int->Int->List Int}{a3:List Int->Nat}{i:Nat}{S:List (List Int)}{rows:List (List Nat)}{a4:List Nat}(h:DI step a3 i S rows a4)(hi:i<S.length)(hl:(di step (nth S i) S 37).1.length<=1000):
  DI step a3 (i+1) (di step (nth S i) S 37).1 (rows++[(di step (nth S i) S 37).2]) (a4++[a3 (nth S i)]):=by
 have hr:=jV step (nth S i) S 37;generalize di step (nth S i) S 37=R at *;obtain⟨S1,r⟩:=R;dsimp only at hr hl ⊢;obtain⟨q,hq⟩:=hr.pre;have a0:∀k,k<S.length->nth S1 k=nth S k:=fun k hk=>by rw[hq,aA,if_pos hk]
 have a5:S.length<=S1.length:=by rw[hq];simp
 have h1:=h.rl;have h2:=h.tl;have h3:=h.p0;refine⟨zo,by simp[h1],by simp[h2],zo,by rw[a0 0 h3];exact h.fst,hl,fun j hj=>?_,fun j hj=>?_⟩
 ·rw[aA]
  by_cases e:j<rows.length
  ·rw[if_pos e];obtain⟨a1,a2⟩:=h.row j zo;refine⟨a1,fun m hm=>?_⟩;obtain⟨b1,b2⟩:=a2 m hm;exact⟨zo,by rw[a0 _ b1,a0 j zo];exact b2⟩
  rw[if_neg e,show j-rows.length=0 from by omega,ax];obtain rfl:j=i:=zo;refine⟨hr.len,fun m hm=>?_⟩;obtain⟨b1,b2⟩:=hr.lt m hm;exact⟨b1,by rw[a0 j hi];exact b2⟩
 rw[aA]
 by_cases e:j<a4.length
 ·rw[if_pos e,a0 j zo];exact h.tel j zo
 rw[if_neg e,show j-a4.length=0 from by omega,ax];obtain rfl:j=i:=zo;rw[a0 j hi]
theorem sR{step:List Int->Int->List Int}{a0:List Int->Nat}:∀(n i:Nat) (S:List (List Int)) (rows:List (List Nat)) (a1:List Nat) (d:List (List Nat)×List Nat),DI step a0 i S rows a1->D3 step a0 n i S rows a1=some d->∃S',DI step a0 S'.length S' d.1 d.2
 |0,_,_,_,_,_,_,h=>by cases h
 |n+1,i,S,rows,a1,d,hd,h=>by
  unfold D3 at h
  split at h
  ·rename_i hi
   split at h
   ·cases h
   exact sR n _ _ _ _ d (hd.next hi zo) h
  rename_i hi
  cases h
  have:=hd.le;obtain rfl:i=S.length:=zo;exact⟨S,hd⟩
theorem sQ{step:List Int->Int->List Int}{a0:List Int->Nat}{d:List (List Nat)×List Nat}(h:CY step a0=some d):∃S,DI step a0 S.length S d.1 d.2:=sR _ _ _ _ _ d (xj _ _) h
def tz(s:List Int):List UInt8:=s.flatMap fun p=>[Js (p.toNat / 256),Js (p.toNat % 256)]
def okS(s:List Int):Prop:=∀x∈s,0<=x/\x.toNat<=999
theorem vI:∀ {s t:List Int},okS s->okS t->tz s=tz t->s=t
 |[],[],_,_,_=>rfl
 |[],b::t,_,_,h=>by simp[tz]at h
 |a::s,[],_,_,h=>by simp[tz]at h
 |a::s,b::t,hs,ht,h=>by
  have h1:=hs a (by simp);have h2:=ht b (by simp);unfold tz at h;simp only[IZ,Kl,LU,JI]at h;obtain⟨e1,e2,e3⟩:=h;have e1:=congrArg Mf e1;have e2:=congrArg Mf e2;simp only[L5]at e1 e2;have:a=b:=zo;subst this;rw[vI (fun x hx=>hs x (by simp[hx])) (fun x hx=>ht x (by simp[hx])) e3]
end Go.Proofs.YtpfpmhhigheccaaGreatDoor
namespace Go.VL
section
open Go.ChangeMaps (setBlock)
section
variable{κ ν:Type}[DecidableEq κ]{kv:κ→ix}{vv:ν→ix}
def oD:List (κ×ν)->κ->List (κ×ν)
 |[],_=>[]
 |(a,y)::r,k=>if a=k then r else(a,y)::oD r k
theorem iO:∀(l:List (κ×ν)) (k:κ),oD l k=match iN l k with
  |some i=>l.eraseIdx i
  |none=>l
 |[],k=>rfl
 |(a,y)::r,k=>by
  simp only[oD,iN]
  by_cases h:a=k
  ·simp[h]
  simp only[if_neg h];rw[iO r k]
  cases iN r k<;>simp
theorem map_eraseIdx{α β:Type}(f:α->β)(l:List α)(j:Nat):(l.eraseIdx j).map f=(l.map f).eraseIdx j:=by
 simp[Jm,KG,Mb]
theorem eD{O:Nat->Nat}{w:ka}{i r:Nat}(o:Obj)(ht:O r=i)(a0:i≠0):IJ (fun j=>j=i) O w O (setBlock w r o):=by
 refine⟨rfl,rfl,rfl,by simp[setBlock],fun b _ hn=>?_,fun _ _=>rfl,fun _ h=>.inl h,fun h=>a0 h.symm⟩;simp only[setBlock,Kp]
 rw[if_neg (fun e=>hn (by rw[<-e];exact ht))]
theorem ef{w:ka}{r:Nat}{o o':Obj}(h:w.heap[r]? = some o):(setBlock w r o').heap[r]? = some o':=by
 have:=bt h;simp[setBlock,this]
theorem nX{P:J9}{T K E ty U:IP}(hT:P.underlying T=some (.map K E))(hK:Mk P K kv){O:Nat->Nat}{w:ka}{i r:Nat}{l:List (κ×ν)}(h:Jl kv vv O w i r l)(a7:i≠0)(k:κ):
  ∃w',(Kh #[T,U] ty #[.map (some r),kv k]).run P w=.ok (.tuple #[]) w'/\Jl kv vv O w' i r (oD l k)/\IJ (fun j=>j=i) O w O w':=by
 obtain⟨es,c,h1,h2⟩:=h.blk;have a3:=h.born es c h1;have a5:es.toList.map (·.key)=(l.map (·.1)).map kv:=by
  have:=congrArg (MD MC) h2;simpa[KV]using this
 have hf:=hK.find k es.toList (l.map (·.1)) w a5;rw[dQ]at hf;have hc:=hK.check es.isEmpty 9998 k w;have hr:=bt h1;have fin:∀(a1:Array IU) (c':Nat),((a1.toList.map (·.born)).Nodup/\∀e∈a1.toList,e.born<c')->a1.toList.map (fun e=>(e.key,e.val))=(oD l k).map (fun p=>(kv p.1,vv p.2))->
   Jl kv vv O (setBlock w r (.map a1 c')) i r (oD l k)/\IJ (fun j=>j=i) O w O (setBlock w r (.map a1 c')):=fun a1 c' hb he=>
  ⟨⟨⟨a1,c',ef h1,he⟩,h.tag,fun a8 c2 h2=>by rw[ef h1]at h2;cases h2;exact hb⟩,eD _ h.tag a7⟩
 have a2:(Kh #[T,U] ty #[.map (some r),kv k]).run P w=((match ((iN l k).bind fun i=>(es.toList[i]?).map fun e=>(i,e.val))with
   |some (i,_)=>do setObj r (.map (es.eraseIdxIfInBounds i) c);pure (.tuple #[])
   |none=>do setObj r (.map es c);pure (.tuple #[]):Sem ix)).run P w:=by
  simp only[Kh,List.getElem?_toArray,List.getElem?_cons_zero,List.getElem?_cons_succ,I2,run_underlying hT,ln];simp only[getObj,K2,h1,I2,ln,hc,hf];generalize ((iN l k).bind fun i=>L0 (fun e=>(i,e.val)) es.toList[i]?)=q
  cases q with
  |none=>rfl
  |some p=>rfl
 rw[a2,iO];have a0:∀a1,(do setObj r (.map a1 c);pure (.tuple #[]):Sem ix).run P w=.ok (.tuple #[]) (setBlock w r (.map a1 c)):=fun a1=>by
  simp[setObj,K2,h1,setBlock]
 cases hi:iN l k with
 |none=>
  refine⟨_,by simp only[Ln];exact a0 es,?_⟩;have:=fin es c a3 (by rw[iO,hi];exact h2);rw[iO,hi]at this;exact this
 |some j=>
  obtain⟨y,hy⟩:=ij hi;have a4:j<es.toList.length:=by
   have hl:=congrArg Mi h2;simp only[Jv]at hl;have:=(Jc.1 hy).1;omega
  refine⟨_,by simp only[K9,KH a4,JM];exact a0 _,?_⟩
  have a6:j<es.size:=by simpa using a4
  have e1:(es.eraseIdxIfInBounds j).toList=es.toList.eraseIdx j:=by
   simp[Array.eraseIdxIfInBounds,a6]
  have:=fin (es.eraseIdxIfInBounds j) c ⟨by
    rw[e1,Jm,Je,KG,Mb];have hs:(Lz j (es.toList.map (·.born))++List.drop (j+1) (es.toList.map (·.born))).Sublist (es.toList.map (·.born)):=by
     rw[<-Jm];exact KU _ _
    exact hs.nodup a3.1,fun e he=>a3.2 e (by rw[e1]at he;exact(KU _ _).mem he)⟩ (by
   rw[iO,hi,e1];have h3:=congrArg (fun l=>l.eraseIdx j) h2
   rw[map_eraseIdx,map_eraseIdx];exact h3)
  rw[iO,hi]at this;exact this
structure RangeO(kv:κ->ix)(vv:ν->ix)(O:Nat->Nat)(w:ka)(i j r q:Nat)(left:List (κ×ν))(cur:Option (κ×ν)):Prop where
 ex:∃es clock seen c0,w.heap[r]? = some (.map es clock)/\w.heap[q]? = some (.mapIter (some r) clock seen c0)/\clock<=c0/\(es.toList.map (·.born)).Nodup/\(∀e∈es.toList,e.born<clock)/\
  (leftOf es seen).toList.map (fun e=>(e.key,e.val))=left.map (fun p=>(kv p.1,vv p.2))/\∀p,cur=some p->∃(e:IU) (s0:Array Nat),e∈es.toList/\seen=s0.push e.born/\c0=clock/\e.key=kv p.1/\e.val=vv p.2
 tag:O r=i
 tagq:O q=j
end
section
variable{κ ν:Type}{kv:κ→ix}{vv:ν→ix}
theorem RangeO.upd{S:Nat->Prop}{O O':Nat->Nat}{w w':ka}{i j r q:Nat}{a0:List (κ×ν)}{a2:Option (κ×ν)}(h:RangeO kv vv O w i j r q a0 a2)(u:IJ S O w O' w')(hi:i≠0)(hj:j≠0)(hS:¬S i)(a3:¬S j):RangeO kv vv O' w' i j r q a0 a2:=by
 obtain⟨es,c,a1,c0,h1,h2,h3⟩:=h.ex;have e1:=u.blk r (bt h1) (by rw[h.tag];exact hS);have e2:=u.blk q (bt h2) (by rw[h.tagq];exact a3);exact⟨⟨es,c,a1,c0,by rw[e1];exact h1,by rw[e2];exact h2,h3⟩,by rw[u.tag r (by rw[h.tag];exact hi),h.tag],by rw[u.tag q (by rw[h.tagq];exact hj),h.tagq]⟩
end
section
variable{κ ν:Type}[DecidableEq κ]{kv:κ→ix}{vv:ν→ix}
theorem uG{es:List IU}{e:IU}{a1 a0:List IU}(hn:(es.map (·.born)).Nodup)(p:IU->Bool)(h:es.filter p=a1++e::a0):es.filter (fun x=>p x && !(x.born==e.born))=a1++a0:=by
 have h1:es.filter (fun x=>p x && !(x.born==e.born))=(es.filter p).filter (fun x=>!(x.born==e.born)):=by
  rw[List.filter_filter];congr 1;funext x;exact Bool.and_comm _ _
 have a2:((a1++e::a0).map (·.born)).Nodup:=by rw[<-h];exact((Jy (p:=p) (l:=es)).map _).nodup hn
 rw[h1,h,JF,JL (by simp)];simp only[Je,I4]at a2;have hd:=Jh.1 a2;congr 1
 ·refine Jz.2 fun x hx=>?_
  have:=hd.2.2 x.born (Jj.2 ⟨x,hx,rfl⟩) e.born (by simp);simpa using this
 refine Jz.2 fun x hx=>?_
 have:=(Kq.1 hd.2.1).1;simp only[Bool.not_eq_true',beq_eq_false_iff_ne,ne_eq];intro hc;exact this (by rw[<-hc];exact Jj.2 ⟨x,hx,rfl⟩)
theorem Ab{α β γ:Type}{f:α->γ}{g:β->γ}:∀ {l:List α} {m:List β} {a0 a1:List α} {e:α},l.map f=m.map g->l=a0++e::a1->∃pre' x suf',m=pre'++x::suf'/\f e=g x/\(a0++a1).map f=(pre'++suf').map g:=by
 intro l m a0
 induction a0 generalizing l m with
 |nil=>
  intro a1 e h hl;subst hl
  cases m with
  |nil=>simp at h
  |cons x m=>
   simp only[LU,I4,JI]at h;exact⟨[],x,m,rfl,h.1,h.2⟩
 |cons a a0 ih=>
  intro a1 e h hl;subst hl
  cases m with
  |nil=>simp at h
  |cons x m=>
   simp only[Kl,I4,JI]at h;obtain⟨p,y,s,rfl,h1,h2⟩:=ih h.2 rfl;exact⟨x::p,y,s,rfl,h1,by simp only[Kl,I4,h.1,h2]⟩
end
section
variable{κ ν:Type}[DecidableEq κ]{kv:κ→ix}{vv:ν→ix}
variable{P:J9}{N:Nat}{ops:Array Kc}{Q:LX→Mu→ka→Prop}{rest:List Kc}{st:St}{w:ka}
variable{t:IP}{p:String}{e:Array LZ}{d:Nat}{x y z:JR}
theorem WL.delete{T K E U:IP}{O:Nat->Nat}{i r:Nat}{l:List (κ×ν)}(hm:Jl kv vv O w i r l)(hT:P.underlying T=some (.map K E))(hK:Mk P K kv)(a1:i≠0) 
  (k:κ) {kx:ix} (hx:ev st x=some (.map (some r))) (hy:ev st y=some kx) (hk:kx=kv k)
  (h:∀w',Jl kv vv O w' i r (oD l k)->IJ (fun j=>j=i) O w O w'->WL P N ops Q rest st w'):WL P N ops Q (⟨none,.call ⟨.builtin .delete,#[x,y],#[T,U]⟩,t,p,e,none⟩::rest) st w:=by
 subst hk;obtain⟨w',h1,h2,h3⟩:=nX (ty:=t) (U:=U) hT hK hm a1 k;refine MR rfl fun a ha=>?_
 unfold MG;have a0:(execOp a.eval ⟨none,.call ⟨.builtin .delete,#[x,y],#[T,U]⟩,t,p,e,none⟩).run P w=.ok (.value (.tuple #[])) w':=by
  simp only[execOp,resolve,invoke,builtin,I2,IQ,ln,JK,I4,JB,ha.ev hx,ha.ev hy,h1]
 rw[a0];exact h w' h2 h3 _ ha
end
section
variable{κ ν:Type}{kv:κ→ix}{vv:ν→ix}
variable{P:J9}{N:Nat}{ops:Array Kc}{Q:LX→Mu→ka→Prop}{rest:List Kc}{st:St}{w:ka}
variable{t:IP}{p:String}{e:Array LZ}{d:Nat}{x y z:JR}
theorem nH{T K E:IP}{B:Nat}{O:Nat->Nat}{i r:Nat}{l:List (κ×ν)}(hm:Jl kv vv O w i r l)(hT:P.underlying T=some (.map K E))(hR:K0 B O w)(j:Nat)(hj:j≠0)(_:i≠0)(hx:ev st x=some (.map (some r)))(hd:JU d N=true) 
  (h:∀q w' O',RangeO kv vv O' w' i j r q l none->Jl kv vv O' w' i r l->IJ (fun k=>k=j) O w O' w'->K0 B O' w'->WL P N ops Q rest ((d,nP q)::st) w'):WL P N ops Q (⟨some d,.range T x,t,p,e,none⟩::rest) st w:=by
 obtain⟨es,c,h1,h2⟩:=hm.blk;have a1:=hm.born es c h1;have a0:=bt h1;have hU:=Mz (S:=fun k=>k=j) (fun e=>hj e.symm) hR (.mapIter (some r) c #[] c) j;refine Lx hd (fun a ha=>by simp only[execOp,ha.ev hx,I2,run_range_map w _ _ _ _ _ _ hT h1,ln,IQ]) (h w.heap.size _ (jI O w.heap.size j) ⟨⟨es,c,#[],c,?_,heap_alloc_new w _,I7 _,a1.1,a1.2,?_,fun p hp=>by cases hp⟩,?_,cT _ _ _⟩ ⟨⟨es,c,?_,h2⟩,?_,fun a2 c' h'=>hm.born a2 c' (by rw[heap_alloc_old w _ a0]at h';exact h')⟩ hU (hR.upd hU))
 ·rw[heap_alloc_old w _ a0];exact h1
 ·unfold leftOf;have e1:es.filter (fun e=>!(#[]:Array Nat).contains e.born)=es:=Array.filter_eq_self.2 (by simp);rw[e1];exact h2
 ·unfold jI;rw[if_neg zo];exact hm.tag
 ·rw[heap_alloc_old w _ a0];exact h1
 unfold jI;rw[if_neg zo];exact hm.tag
theorem pM{O:Nat->Nat}{i j r q:Nat}{a2:List (κ×ν)}{b5:Option (κ×ν)}(hm:RangeO kv vv O w i j r q a2 b5)(b3:j≠0)(b4:i≠j)(hx:ev st x=some (nP q))(hd:JU d N=true) 
  (h0:a2=[]->WL P N ops Q rest ((d,.tuple #[.bool false])::st) w)
  (h1:∀b0 a b a9 w',a2=b0++(a,b)::a9->RangeO kv vv O w' i j r q (b0++a9) (some (a,b))->IJ (fun k=>k=j) O w O w'->WL P N ops Q rest ((d,.tuple #[.bool true,kv a,vv b])::st) w'):WL P N ops Q (⟨some d,.next x false,t,p,e,none⟩::rest) st w:=by
 obtain⟨es,c,a0,c0,g1,g2,g3,g4,g5,g6,g7⟩:=hm.ex
 rcases Go.run_next_at (P:=P) w t q r c c0 a0 es c g2 g1 g5 g3 with⟨hs,a3⟩|⟨en,b1,w1,a6,a3⟩
 ·refine Lx hd (fun a ha=>by simp only[execOp,ha.ev hx,I2,a3,ln,IQ]) (h0 ?_);have h3:=congrArg Mi g6;simp only[Jv,Array.length_toList,hs]at h3;exact II h3.symm
 obtain⟨b0,a9,a7⟩:=List.append_of_mem b1;obtain⟨a',⟨a,b⟩,a8,rfl,a5,a4⟩:=Ab g6 a7;simp only[MT]at a5;have a1:∀(a:Mu),MY N a st->(execOp a.eval ⟨some d,.next x false,t,p,e,none⟩).run P w=.ok (.value (.tuple #[.bool true,en.key,en.val])) (setBlock w1 q (.mapIter (some r) c (a0.push en.born) c)):=fun a ha=>by
  simp only[execOp,ha.ev hx,I2,a3,ln,IQ]
 rw[a5.1,a5.2]at a1;have hw:w1.heap=w.heap:=by rcases a6 with rfl|rfl<;>rfl
 have b2:en∈es.toList:=by
  have:en∈(leftOf es a0):=by simpa using b1
  unfold leftOf at this;rw[Array.mem_filter]at this;simpa using this.1
 refine Lx hd a1 (h1 a' a b a8 _ rfl ⟨⟨es,c,a0.push en.born,c,?_,ef (by rw[hw];exact g2),I7 _,g4,g5,?_,fun p hp=>?_⟩,hm.tag,hm.tagq⟩ ?_)
 ·simp only[setBlock,Kp];rw[if_neg (fun e=>b4 (by rw[<-hm.tag,<-hm.tagq,e])),hw];exact g1
 ·rw[<-a4];unfold leftOf at a7 ⊢;rw[Array.toList_filter]at a7 ⊢;rw[<-uG g4 _ a7];congr 2;funext x;simp;rfl
 ·cases hp
  exact⟨en,a0,b2,rfl,rfl,a5.1,a5.2⟩
 have hU:=eD (w:=w1) (.mapIter (some r) c (a0.push en.born) c) hm.tagq b3;exact⟨by rw[hU.os];rcases a6 with rfl|rfl<;>rfl,by rw[hU.tape];rcases a6 with rfl|rfl<;>rfl,by rw[hU.output];rcases a6 with rfl|rfl<;>rfl,by have:=hU.size;rw[hw]at this;exact this,fun b hb hn=>by have:=hU.blk b (by rw[hw];exact hb) hn;rw[hw]at this;exact this,hU.tag,fun b hb=>.inl hb,hU.z⟩
theorem RV.entry{O:Nat->Nat}{i j r q:Nat}{a0:List (κ×ν)}{a:κ}{b:ν}(hm:RangeO kv vv O w i j r q a0 (some (a,b)))(hx:ev st x=some (nP q)):RV P N (.entry x) t st w (.tuple #[kv a,vv b]):=
 fun ac ha a2 p e g=>by
  obtain⟨es,c,a1,c0,g1,g2,g3,g4,g5,g6,g7⟩:=hm.ex;obtain⟨en,s0,e1,rfl,rfl,e2,e3⟩:=g7 _ rfl;simp only[execOp,ha.ev hx,I2,run_entry_at w q r c0 s0 es c0 en g2 g1 e1 g4,ln,IQ,e2,e3]
end
abbrev dM(p:Int×Int):ix:=.agg #[nI p.1,nI p.2]
theorem Bp{P:J9}{K I:IP}(hK:P.underlying K=some (.array 2 I))(hI:P.underlying I=some (.int .i64))(a3:(P.info? I).isSome=true)(hc:P.cellsOf I=1):Mk P K dM:=by
 obtain⟨i,hi⟩:=Option.isSome_iff_exists.1 a3;have hA:∀w,(isAgg I).run P w=.ok false w:=fun w=>by simp[isAgg,run_underlying hI]
 have a0:∀(a b:Int) (w:ka),(part I #[nI a,nI b] 0).run P w=.ok (nI a) w/\(part I #[nI a,nI b] 1).run P w=.ok (nI b) w:=fun a b w=>by
  constructor<;>simp[part,hA]
 have a5:∀b n k (w:ka),(Ku b (n+1) I (nI k)).run P w=.ok () w:=fun b n k w=>by simp[Ku,run_underlying hI]
 have a4:∀(a b:Int×Int) (w:ka),(MJ K (dM a) (dM b)).run P w=.ok (decide (a=b)) w:=fun a b w=>by
  have h1:∀d (x y:Int) (w:ka),(Ly (d+1) I (nI x) (nI y)).run P w=.ok (x==y) w:=fun d x y w=>by simp[Ly,run_underlying hI]
  obtain⟨a1,a2⟩:=a;obtain⟨b1,b2⟩:=b;have h2:∀(x y:Int) (w:ka),(Ly 9999 I (nI x) (nI y)).run P w=.ok (x==y) w:=fun x y w=>h1 9998 x y w
  unfold MJ Op.maxDepth;rw[run_equalIn_array w 9999 _ _ hK hi,hc];simp only[show Jp 2=[0,1]from rfl,Op.eqItems,I2,KQ,L7,(a0 a1 a2 w).1,(a0 b1 b2 w).1,h2,ln]
  by_cases e1:a1=b1
  ·by_cases e2:a2=b2
   ·subst e1;subst e2;simp[a0,h2]
   subst e1;simp[e2,a0,h2]
  simp[e1]
 refine⟨fun b n k w=>?_,fun k es ks w h=>?_,fun k=>?_⟩
 ·obtain⟨k1,k2⟩:=k;unfold Ku;simp only[I2,run_underlying hK,ln];simp only[M5,M4,Mh,Nat.add_one_sub_one,Nat.div_one];simp[List.range',run_sizeOf w hi,hc,a0,a5]
 ·have key:∀(es:List IU) (ks:List (Int×Int)) (j:Nat) (w:ka),es.map (·.key)=ks.map dM->
    (Kg K (dM k) es j).run P w=.ok ((ks.findIdx? (· = k)).bind fun i=>(es[i]?).map fun e=>(j+i,e.val)) w:=by
   intro es
   induction es with
   |nil=>intro ks j w h;cases ks with
    |nil=>simp[Kg]
    |cons a r=>simp at h
   |cons e es ih=>
    intro ks j w h
    cases ks with
    |nil=>simp at h
    |cons a r=>
     simp only[I4,JI]at h;simp only[Kg,I2,h.1,a4,ln]
     by_cases hk:k=a
     ·subst hk;simp[JE]
     rw[decide_eq_false hk];simp only[K6,if_false];rw[ih r (j+1) w h.2];simp only[JE,decide_eq_true_eq];rw[if_neg (fun e=>hk e.symm)]
     cases hf:List.findIdx? (fun x=>decide (x=k)) r with
     |none=>simp
     |some i=>simp[Nat.add_assoc,Nat.add_comm 1]
  have:=key es ks 0 w h;simp only[KR]at this;unfold Instr.findKey;simp only[I2,run_underlying hK,ln]
  cases es with
  |nil=>
   cases ks with
   |nil=>simp[M9]
   |cons a r=>simp at h
  |cons e es=>simpa[M9,Instr.sameNow]using this
 simp[Instr.sameBits]
section
variable{κ ν:Type}[DecidableEq κ]{kv:κ→ix}{vv:ν→ix}
theorem sk(es:Array IU)(i:Nat)(f g h:IU->IU)(hf:∀x,g (f x)=h x):(es.modify i f).modify i g=es.modify i h:=by
 apply Lh;intro j;simp only[Jn]
 by_cases hj:i=j
 ·simp only[if_pos hj];cases es[j]?<;>simp[hf]
 simp only[if_neg hj]
theorem tX(es:Array IU)(a:IU)(f:IU->IU):(es.push a).modify es.size f=es.push (f a):=by
 apply Lh;intro j;simp only[Jn,Array.getElem?_push]
 by_cases hj:j=es.size
 ·subst hj;simp
 rw[if_neg (fun e=>hj e.symm),if_neg hj,if_neg hj]
theorem lS{es:List IU}{j:Nat}{e:IU}(hn:(es.map (·.born)).Nodup)(he:es[j]? = some e):es.findIdx? (fun x=>(x.born:Int)==(e.born:Int))=some j:=by
 obtain⟨hj,rfl⟩:=Jc.1 he;rw[Jg];refine⟨hj,by simp,fun i hi=>?_⟩;have:=(KB.1 hn) i j (by simp;omega) (by simpa using hj) hi;simp only[LB]at this;simp;omega
theorem xq{P:J9}{T K E:IP}(hT:P.underlying T=some (.map K E))(hK:Mk P K kv){O:Nat->Nat}{w:ka}{i r:Nat}{l:List (κ×ν)}(h:Jl kv vv O w i r l)(a7:i≠0){z:ix}(hz:(Li E).run P w=.ok z w)(k:κ)(x:ν):
  ∃(w1 w':ka) (v:ix) (b:Int),(Kr T (.map (some r)) (kv k)).run P w=.ok (.tuple #[v,nI b]) w1/\(JJ T (.map (some r)) (nI b) (vv x)).run P w1=.ok () w'/\Jl kv vv O w' i r (cx l k x)/\IJ (fun j=>j=i) O w O w'/\IJ (fun j=>j=i) O w O w1:=by
 obtain⟨es,c,h1,h2⟩:=h.blk;have a9:=h.born es c h1;have hr:=bt h1;have b4:es.toList.map (·.key)=(l.map (·.1)).map kv:=by
  have:=congrArg (MD MC) h2;simpa[KV]using this
 have hf:=hK.find k es.toList (l.map (·.1)) w b4;rw[dQ]at hf;have hc:=hK.check false 9998 k w;obtain⟨wm,a3,hm,hu⟩:=dB hT hK h a7 k x
 have a1:(LF T (.map (some r)) (kv k) (vv x)).run P w=((match ((iN l k).bind fun i=>(es.toList[i]?).map fun e=>(i,e.val))with
   |some (i,_)=>do
    let key <-JD (((es[i]?).map (·.key)).getD (kv k)) (kv k)
    setObj r (.map (es.modify i fun e=>{ e with key,val:=vv x }) c)
   |none=>setObj r (.map (es.push { key:=kv k,val:=vv x,born:=c }) (c+1)):Sem Unit)).run P w:=by
  simp only[LF,I2,run_underlying hT,ln];simp only[getObj,K2,h1,I2,ln,hc,hf];generalize ((iN l k).bind fun i=>L0 (fun e=>(i,e.val)) es.toList[i]?)=q
  cases q with
  |none=>rfl
  |some p=>rfl
 have a0:(Kr T (.map (some r)) (kv k)).run P w=((match ((iN l k).bind fun i=>(es.toList[i]?).map fun e=>(i,e.val))with
   |some (i,v)=>do
    let key <-JD (((es[i]?).map (·.key)).getD (kv k)) (kv k)
    setObj r (.map (es.modify i fun e=>{ e with key }) c)
    pure (.tuple #[v,goInt (((es[i]?).map (·.born)).getD 0)])
   |none=>do
    let zero <-Li E
    setObj r (.map (es.push { key:=kv k,val:=zero,born:=c }) (c+1))
    pure (.tuple #[zero,goInt c]):Sem ix)).run P w:=by
  simp only[Kr,I2,run_underlying hT,ln];simp only[getObj,K2,h1,I2,ln,hc,hf];generalize ((iN l k).bind fun i=>L0 (fun e=>(i,e.val)) es.toList[i]?)=q
  cases q with
  |none=>rfl
  |some p=>rfl
 have a2:∀(a':Array IU) (c':Nat) (w0:ka),(∃e0 k0,w0.heap[r]? = some (.map e0 k0))->(setObj r (.map a' c')).run P w0=.ok () (setBlock w0 r (.map a' c')):=fun a' c' w0 h0=>by
  obtain⟨e0,k0,hq⟩:=h0;simp[setObj,K2,hq,setBlock]
 have a6:∃e0 k0,w.heap[r]? = some (.map e0 k0):=⟨es,c,h1⟩
 have b0:∀(a:Array IU) (q:IU->Bool),a.findIdx? q=a.toList.findIdx? q:=fun a q=>by cases a;simp
 have a4:∀o o',setBlock (setBlock w r o) r o'=setBlock w r o':=fun o o'=>by simp[setBlock]
 cases hi:iN l k with
 |none=>
  rw[hi]at a1 a0;simp only[Ln]at a1 a0;rw[a2 _ _ _ a6]at a1;simp only[I2,hz,ln,a2 _ _ _ a6,IQ]at a0;have he:wm=setBlock w r (.map (es.push { key:=kv k,val:=vv x,born:=c }) (c+1)):=by rw[a1]at a3;cases a3;rfl
  refine⟨_,wm,z,c,a0,?_,hm,hu,eD _ h.tag a7⟩;have a5:(setBlock w r (.map (es.push { key:=kv k,val:=z,born:=c }) (c+1))).heap[r]? = some (.map (es.push { key:=kv k,val:=z,born:=c }) (c+1)):=ef h1;have a8:(es.push { key:=kv k,val:=z,born:=c }).findIdx? (fun e=>(e.born:Int)==(c:Int))=some es.size:=by
   have b5:((es.push { key:=kv k,val:=z,born:=c }).toList.map (·.born)).Nodup:=by
    simp only[Array.toList_push,Je,I4,JB];refine Jh.2 ⟨a9.1,by simp,fun a ha b hb=>?_⟩;obtain⟨e,he,rfl⟩:=Jj.1 ha;have:=a9.2 e he;simp at hb;omega
   have:=lS (j:=es.size) (e:={ key:=kv k,val:=z,born:=c }) b5 (by simp);rw[b0,<-this]
  simp only[JJ,getObj,K2,I2,a5,ln,asInt,asIntOf,IQ,a8];rw[tX,he];have:=a2 (es.push { key:=kv k,val:=vv x,born:=c }) (c+1) (setBlock w r (.map (es.push { key:=kv k,val:=z,born:=c }) (c+1))) ⟨_,_,a5⟩;rw[a4]at this;exact this
 |some j=>
  obtain⟨y,hy⟩:=ij hi;have hj:es.toList[j]?.map (fun e=>(e.key,e.val))=some (kv k,vv y):=by
   have:=congrArg (fun l=>l[j]?) h2;simpa[hy]using this
  cases he:es.toList[j]? with
  |none=>rw[he]at hj;simp at hj
  |some e'=>
   rw[he]at hj;simp at hj;have b1:es[j]? = some e':=by simpa using he
   have b2:(JD (kv k) (kv k))=pure (kv k):=by simp[JD,hK.same k]
   rw[hi]at a1 a0;simp only[K9,he,JM,b1,hj.1,Ll,b2,I2,IQ,ln,a2 _ _ _ a6]at a1 a0;have hw:wm=setBlock w r (.map (es.modify j fun e=>{ e with key:=kv k,val:=vv x }) c):=by rw[a1]at a3;cases a3;rfl
   refine⟨_,wm,e'.val,e'.born,a0,?_,hm,hu,eD _ h.tag a7⟩;have a5:(setBlock w r (.map (es.modify j fun e=>{ e with key:=kv k }) c)).heap[r]? = some (.map (es.modify j fun e=>{ e with key:=kv k }) c):=ef h1;have b3:((es.modify j fun e=>{ e with key:=kv k }).toList.map (·.born))=es.toList.map (·.born):=by
    simp only[Array.toList_modify];apply List.ext_getElem?;intro m;simp only[List.getElem?_map,List.getElem?_modify]
    split
    ·cases es.toList[m]?<;>simp
    cases es.toList[m]?<;>simp
   have a8:(es.modify j fun e=>{ e with key:=kv k }).findIdx? (fun e=>(e.born:Int)==(e'.born:Int))=some j:=by
    have:=lS (es:=(es.modify j fun e=>{ e with key:=kv k }).toList) (j:=j) (e:={ e' with key:=kv k }) (by rw[b3];exact a9.1) (by
     have:(es.modify j fun e=>{ e with key:=kv k })[j]? = some { e' with key:=kv k }:=by
      rw[Jn,if_pos rfl,b1];rfl
     rw[Array.getElem?_toList];exact this)
    rw[b0,<-this]
   simp only[JJ,getObj,K2,I2,a5,ln,asInt,asIntOf,IQ,a8];rw[sk es j _ _ (fun e=>{ e with key:=kv k,val:=vv x }) (fun _=>rfl),hw];have:=a2 (es.modify j fun e=>{ e with key:=kv k,val:=vv x }) c (setBlock w r (.map (es.modify j fun e=>{ e with key:=kv k }) c)) ⟨_,_,a5⟩;rw[a4]at this;exact this
variable{P:J9}{N:Nat}{ops:Array Kc}{Q:LX→Mu→ka→Prop}{rest:List Kc}{st:St}{w:ka}
variable{t t' t2:IP}{p p' p2:String}{e e' e2:Array LZ}{d d':Nat}{x y z:JR}
end
def Ik{κ ν:Type}[DecidableEq κ](P:J9)(kv:κ->ix)(vv:ν->ix)(T:IP)(O:Nat->Nat)(w w1:ka)(i r:Nat)(l:List (κ×ν))(k:κ)(u:ν)(b:Int):Prop:=
 ∃w',(JJ T (.map (some r)) (nI b) (vv u)).run P w1=.ok () w'/\Jl kv vv O w' i r (cx l k u)/\IJ (fun j=>j=i) O w O w'
section
variable{κ ν:Type}[DecidableEq κ]{kv:κ→ix}{vv:ν→ix}
variable{P:J9}{N:Nat}{ops:Array Kc}{Q:LX→Mu→ka→Prop}{rest:List Kc}{st:St}{w:ka}
variable{t:IP}{p:String}{e:Array LZ}{d:Nat}{x y z:JR}
theorem lY{T K E:IP}{O:Nat->Nat}{i r:Nat}{l:List (κ×ν)}(hm:Jl kv vv O w i r l)(hT:P.underlying T=some (.map K E))(hK:Mk P K kv)(a0:i≠0){zv:ix}(hz:(Li E).run P w=.ok zv w) 
  (k:κ) (u:ν) {kx:ix} (hx:ev st x=some (.map (some r))) (hy:ev st y=some kx) (hk:kx=kv k) (hd:JU d N=true)
  (h:∀w1 c b,Ik P kv vv T O w w1 i r l k u b->IJ (fun j=>j=i) O w O w1->WL P N ops Q rest ((d,.tuple #[c,nI b])::st) w1):WL P N ops Q (⟨some d,.mapEntry T x y,t,p,e,none⟩::rest) st w:=by
 subst hk;obtain⟨w1,w',v,b,h1,h2,h3,h4,h5⟩:=xq hT hK hm a0 hz k u;exact Lx hd (fun a ha=>by simp only[execOp,ha.ev hx,ha.ev hy,I2,h1,ln,IQ]) (h w1 v b ⟨w',h2,h3,h4⟩ h5)
theorem jg{T:IP}{O:Nat->Nat}{i r:Nat}{l:List (κ×ν)}{w0:ka}{k:κ}{u:ν}{b:Int}(hE:Ik P kv vv T O w0 w i r l k u b){ux:ix}(hx:ev st x=some (.map (some r)))(hy:ev st y=some (nI b))(hz:ev st z=some ux)(hu:ux=vv u) 
  (h:∀w',Jl kv vv O w' i r (cx l k u)->IJ (fun j=>j=i) O w0 O w'->WL P N ops Q rest st w'):WL P N ops Q (⟨none,.entryStore T x y z,t,p,e,none⟩::rest) st w:=by
 subst hu;obtain⟨w',h2,h3,h4⟩:=hE;exact ik (fun a ha=>by simp only[execOp,ha.ev hx,ha.ev hy,ha.ev hz,I2,h2,ln,IQ]) (h w' h3 h4)
end
theorem qD{α:Type}{enc:α->List ix}{sz:Nat}:∀(l:List α),(∀x∈l,(enc x).length=sz)->∀(n:Nat) (hn:n<l.length) (j:Nat),j<sz->∀(x':α) (u:ix),enc x'=(enc l[n]).set j u->(l.flatMap enc).set (n*sz+j) u=(l.set n x').flatMap enc
 |a::l,hz,0,_,j,hj,x',u,hx=>by
  have ha:=hz a (by simp);simp only[IZ,Lo,KQ,KR];rw[List.set_append_left _ _ zo,hx];rfl
 |a::l,hz,n+1,hn,j,hj,x',u,hx=>by
  have ha:=hz a (by simp);simp only[IZ,Lp];rw[KS _ _ (by rw[ha,L9];omega),show(n+1)*sz+j-(enc a).length=n*sz+j from by rw[ha,L9];omega];rw[qD l (fun y hy=>hz y (by simp[hy])) n (by simpa using hn) j hj x' u (by simpa using hx)]
theorem RowT.putJ{α:Type}[Inhabited α]{enc:α->List ix}{sz:Nat}{O:Nat->Nat}{w:ka}{i:Nat}{E:IP}{v:ix}{l:List α}(h:IX enc E sz O w i v l){n:Nat}(hn:n<l.length){j:Nat}(hj:j<sz)(x':α)(u:ix)(hx:enc x'=(enc (nth l n)).set j u):
  ∃g c,(adr v sz n).add j=⟨g,n*sz+j,none⟩/\w.cell? ⟨g,n*sz+j,none⟩=some c/\w.frozen? ⟨g,n*sz+j,none⟩=false/\IX enc E sz O (w.setCell ⟨g,n*sz+j,none⟩ u) i v (l.set n x')/\O g=i:=by
 rw[aB hn]at hx;have a2:=h.2 l[n] (List.getElem_mem hn);have a5:(enc x').length=sz:=by rw[hx,I3,a2]
 have hs:=h.sl;have a3:∃c,(enc l[n])[j]? = some c:=⟨_,KH zo⟩
 obtain⟨c,a3⟩:=a3;have a0:=hs.cells n hn j c a3;obtain⟨⟨⟨hl,hr⟩,a1⟩,hz⟩:=h
 rcases hr with⟨rfl,h0⟩|⟨g,a4,a',rfl,a9,hg,a6,a8,a7,ht⟩
 ·omega
 have ha:(adr (.slice (some ⟨g,0,none⟩) l.length a4) sz n).add j=⟨g,n*sz+j,none⟩:=by simp only[adr,Kx];split<;>simp_all
 rw[ha]at a0;refine⟨g,c,ha,a0,by simp[M1,hg],⟨⟨⟨?_,.inr ⟨g,a4,a'.setIfInBounds (n*sz+j) u,by simp,a9,?_,by simpa using a6,a8,by simpa using a7,?_⟩⟩,by simpa using a1⟩,?_⟩,a1 g rfl⟩
 ·rw[<-qD l hz n hn j hj x' u hx];simp[hl]
 ·simp only[M0,Jn,if_pos];rw[hg];simp
 ·simp only[I3,Array.toList_setIfInBounds];rw[List.take_set,ht,qD l hz n hn j hj x' u hx]
 intro y hy
 rcases List.mem_or_eq_of_mem_set hy with hy|rfl
 ·exact hz y hy
 exact a5
theorem nG{P:J9}{N:Nat}{ops:Array Kc}{Q:LX->Mu->ka->Prop}{a0:List Kc}{st:St}{w:ka}{t:IP}{p:String}{e:Array LZ}{x y:JR} 
  {T:IP} {α:Type} [Inhabited α] {enc:α->List ix} {sz:Nat} {O:Nat->Nat} {i:Nat} {E:IP} {v:ix} {l:List α} (hr:IX enc E sz O w i v l) (n:Nat) (hn:n<l.length) (j:Nat) (hj:j<sz) (x':α) (hT:(MQ T).run P w=.ok 1 w) {u:ix} (h1:u.oneCell'=true) (a4:i≠0)
  {q:Mt} (hx:ev st x=some (.pointer (some q))) (hq:q=(adr v sz n).add j) (hy:ev st y=some u) (a2:enc x'=(enc (nth l n)).set j u)
  (h:∀w',IX enc E sz O w' i v (l.set n x')->IJ (fun k=>k=i) O w O w'->WL P N ops Q a0 st w'):WL P N ops Q (⟨none,.store T x y,t,p,e,none⟩::a0) st w:=by
 obtain⟨g,c,ha,hc,hf,a3,ht⟩:=hr.putJ hn hj x' u a2;rw[ha]at hq;subst hq;refine ik (w':=w.setCell ⟨g,n*sz+j,none⟩ u) (fun a a1=>?_) (h _ a3 ⟨rfl,rfl,rfl,by simp[M0],fun k _ hk=>Mn _ _ _ _ (fun e=>hk (by rw[e];exact ht)),fun _ _=>rfl,fun _ h=>.inl h,fun h=>a4 h.symm⟩);simp only[execOp,a1.ev hx,a1.ev hy]
 cases u<;>simp[I6]at h1<;>simp[Instr.storeAt,Instr.sureAddr,storeVar,hT,Value.cells,storeCells,store,K2,hc,hf,Kx]
theorem Fits.fresh{N:Nat}{a:Mu}{d:Nat}{v:ix}{st:St}(hn:(cf st d).isNone=true)(h:MY N a ((d,v)::st)):MY N a st:=by
 refine⟨h.size,h.defers,fun t u hu=>h.get t u ?_⟩;simp only[cf]
 cases hb:Kf d t with
 |true=>have:=JY hb;subst this;rw[hu]at hn;cases hn
 |false=>exact hu
theorem Fits.swap{N:Nat}{a:Mu}{d d':Nat}{v v':ix}{st:St}(a0:Kf d d'=false)(h:MY N a ((d,v)::(d',v')::st)):MY N a ((d',v')::(d,v)::st):=by
 refine⟨h.size,h.defers,fun t u hu=>h.get t u ?_⟩;simp only[cf]at hu ⊢
 cases h1:Kf d t with
 |true=>
  have:=JY h1;subst this;have h2:Kf d' d=false:=by
   cases h3:Kf d' d with
   |false=>rfl
   |true=>have:=JY h3;subst this;rw[a0]at h1;cases h1
  rw[h1,h2]at hu;exact hu
 |false=>
  rw[h1]at hu;exact hu
theorem bO{P:J9}{N:Nat}{ops:Array Kc}{S:ka->Prop}{Q:LX->Mu->ka->Prop}{a1:Nat}{a0:Array Bool}{st:St}{w:ka} 
  {T E T1:IP} {sz a2:Nat} {α:Type} {enc:α->List ix} {x y:JR} {t t':IP} {p p':String} {e e':Array LZ} {d d':Nat} {v xv:ix}
  (i j:Nat) (he:LY P T E sz a2) (u:α) (hi:ops[i]? = some ⟨some d,.load T1 x,t,p,e,none⟩) (hj:ops[j]? = some ⟨some d',.buildSlice T 1 #[(0,y)],t',p',e',none⟩)
  (hr:Ju .any ops a0=[i,j]) (a':Ju .any ops (a0.setIfInBounds i true)=[j]) (a9:Ju .any ops (a0.setIfInBounds j true)=[i])
  (a4:(a0.setIfInBounds j true).setIfInBounds i true=(a0.setIfInBounds i true).setIfInBounds j true)
  (hv:∀w',K5 w w'->RV P N (.load T1 x) t st w' v) (hS:∀w',K5 w w'->S w')
  (hy:ev st y=some xv) (a5:xv.cells.toList=enc u) (a6:(enc u).length=sz) (hs:sz<=16777216) (hd:JU d N=true) (a7:JU d' N=true) (b0:Kf d d'=false) (hf:(cf st d').isNone=true) (a8:ev ((d,v)::st) y=some xv)
  (h:∀sv w',Sl enc sz w' sv [u]->K5 w w'->WH P N ops S Q a1 ((a0.setIfInBounds i true).setIfInBounds j true) ((d',sv)::(d,v)::st) w'):WH P N ops S Q (a1+2) a0 st w:=by
 refine bI i j hr hi hj ?_ ?_
 ·refine bG (hv w (I9 w)) hd (IV (ae (hS w (I9 w)) (IF j a' hj ?_)));refine bR he u a8 a5 a6 hs a7 fun sv w' a3 hE=>IV (ae (hS w' hE) (h sv w' a3 hE))
 refine bR he u hy a5 a6 hs a7 fun sv w' a3 hE=>IV (ae (hS w' hE) (IF i a9 hi ?_))
 refine bG (fun a ha=>hv w' hE a (ha.fresh hf)) hd (IV (ae (hS w' hE) ?_));rw[a4];exact fun a ha=>h sv w' a3 hE a (ha.swap b0)
theorem bj{P:J9}{N:Nat}{st:St}{w:ka}{t:IP}{x:JR}{T E:IP}{m:Nat}{v:ix}(hs:Shape v m)(hu:P.underlying T=some (.slice E))(hx:ev st x=some v):RV P N (.call ⟨.builtin .len,#[x],#[T]⟩) t st w (nI (m:Int)):=
 fun a ha a0 p e g=>by
  obtain⟨ad,c,hv,_⟩:=hs;simp only[execOp,resolve,JK,I4,JB,ha.ev hx];subst hv;simp[invoke,Go.builtin,MZ,run_underlying hu,goInt]
theorem mL{P:J9}{w:ka}{T ty E:IP}{sz a0:Nat}(he:LY P T E sz a0){O:Nat->Nat}{i n:Nat}{v:ix}{xs:List ix}(a1:RowO O w i E sz v n xs)(a:Option Mt)(c:Nat):
  (Ki #[T,T] ty #[v,.slice a 0 c]).run P w=.ok v w:=by
 obtain⟨a4,z,hi,hz,a6,a9,a5⟩:=he.parts;have ht:=he.ht
 rcases a1.row.2 with⟨rfl,rfl⟩|⟨g,b0,a',rfl,hbg,hg,a3,a8,a7,a2⟩
 ·cases a<;>simp[Ki,run_underlying ht,MQ,typeInfo,hi,LJ,KX,loadCells,loadCellsFrom]
 cases a<;>simp[Ki,run_underlying ht,MQ,typeInfo,hi,LJ,KX,loadCells,loadCellsFrom,a3,storeCells]
theorem cF{P:J9}{N:Nat}{ops:Array Kc}{Q:LX->Mu->ka->Prop}{a1:List Kc}{st:St}{w:ka}{t:IP}{p:String}{e:Array LZ}{d:Nat}{x y:JR} 
  {T E:IP} {sz a0:Nat} (he:LY P T E sz a0) {α:Type} {enc:α->List ix} {B:Nat} {O:Nat->Nat} {i:Nat} {v sv:ix} {l us:List α} (hr:IX enc E sz O w i v l) (r:K0 B O w) (hs:Sl enc sz w sv us)
  (hx:ev st x=some v) (hy:ev st y=some sv) (a4:∀u∈us,(enc u).length=sz) (a5:∀u∈us,∀c∈enc u,c.oneCell'=true)
  (hb:(l.length+us.length)*a0<=140737488355328) (a6:l.length+us.length<=9223372036854775807) (a3:i≠0) (hd:JU d N=true)
  (h:∀v' w' O',IX enc E sz O' w' i v' (l++us)->IJ (fun k=>k=i) O w O' w'->K0 B O' w'->WL P N ops Q a1 ((d,v')::st) w') :
  WL P N ops Q (⟨some d,.call ⟨.builtin .append,#[x,y],#[T,T]⟩,t,p,e,none⟩::a1) st w:=by
 by_cases a2:us.length=0
 ·obtain rfl:=II a2;obtain⟨a,c,rfl,_⟩:=hs.shape;refine Lx (v:=v) (w':=w) hd (fun ac ha=>?_) (h v w O (by rw[IK];exact hr) (Jk (fun e=>a3 e.symm) _ _) r);simp only[execOp,resolve,invoke,builtin,I2,IQ,ln,JK,I4,JB,ha.ev hx,ha.ev hy,Jf,mL he hr.1]
 exact aC he hr r hs a2 hx hy a4 a5 hb a6 a3 hd h
theorem MapO.fgt{κ ν:Type}{kv:κ->ix}{vv:ν->ix}{O O2:Nat->Nat}{w:ka}{i i' r:Nat}{l:List (κ×ν)}(h:Jl kv vv O2 w i r l)(ho:O r=i'):Jl kv vv O w i' r l:=⟨h.blk,ho,h.born⟩
theorem bd{κ ν:Type}(kv:κ->ix)(vv:ν->ix){P:J9}{N:Nat}{ops:Array Kc}{Q:LX->Mu->ka->Prop}{a0:List Kc}{st:St}{w:ka}{t:IP}{p:String}{e:Array LZ}{d:Nat}{T:IP} 
  {B:Nat} {O:Nat->Nat} (r:K0 B O w) (i:Nat) (a1:i≠0) (hd:JU d N=true)
  (h:∀q w' O',Jl kv vv O' w' i q []->IJ (fun k=>k=i) O w O' w'->K0 B O' w'->WL P N ops Q a0 ((d,.map (some q))::st) w'):WL P N ops Q (⟨some d,.makeMap T none,t,p,e,none⟩::a0) st w:=by
 have hU:=Mz (S:=fun k=>k=i) (fun e=>a1 e.symm) r (.map #[] 0) i;exact WL.makeMap hd (h w.heap.size _ (jI O w.heap.size i) (MapO.new O w i) hU (r.upd hU))
theorem xf{α:Type}{val:α->ix}{O:Nat->Nat}{i g a1:Nat}{E:IP}(z:α)(a0:i≠0):∀(k n:Nat) (l:List α) (w:ka) (m:Nat),IX (fun x=>[val x]) E 1 O w i (.slice (some ⟨g,0,none⟩) m a1) l->n+k=l.length->
  IX (fun x=>[val x]) E 1 O (w.setCells g n (IM k (val z))) i (.slice (some ⟨g,0,none⟩) m a1) (l.take n++IM k z)/\IJ (fun j=>j=i) O w O (w.setCells g n (IM k (val z)))
 |0,n,l,w,m,h,hn=>by
  simp only[Lb,IK,LP];rw[KM zo];exact⟨h,Jk (fun e=>a0 e.symm) _ _⟩
 |k+1,n,l,w,m,h,hn=>by
  have ha:adr (.slice (some ⟨g,0,none⟩) m a1) 1 n=⟨g,n,none⟩:=by simp[adr]
  obtain⟨hc,hf,hr,ht⟩:=h.put (n:=n) zo z;rw[ha]at hr ht;simp only[Lc,LP];obtain⟨h1,h2⟩:=xf z a0 k (n+1) (l.set n z) (w.setCell ⟨g,n,none⟩ (val z)) m hr (by simp;omega);have e:(l.set n z).take (n+1)++IM k z=l.take n++z::IM k z:=by
   have hl:n<(l.set n z).length:=by simp;omega
   rw[Ka hl,KT,La (I7 n)];simp
  rw[e]at h1;have u1:IJ (fun j=>j=i) O w O (w.setCell ⟨g,n,none⟩ (val z)):=JH (fun e=>a0 e.symm) ht rfl;exact⟨h1,u1.trans h2⟩
theorem RowT.short{α:Type}{val:α->ix}{O:Nat->Nat}{w:ka}{i:Nat}{E:IP}{v:ix}{l:List α}(h:IX (fun x=>[val x]) E 1 O w i v l){n:Nat}(hn:n<=l.length):IX (fun x=>[val x]) E 1 O w i (bL v 1 0 n) (l.take n):=by
 have a3:∀l:List α,(l.flatMap fun x=>[val x])=l.map val:=fun l=>by induction l<;>simp_all
 obtain⟨⟨⟨hl,hr⟩,a1⟩,hz⟩:=h
 rcases hr with⟨rfl,h0⟩|⟨g,a2,a8,rfl,a7,hg,a9,a6,a5,ht⟩
 ·obtain rfl:l=[]:=II h0;obtain rfl:n=0:=by simpa using hn
  exact J7 _ _ _ _ _ _
 have e:bL (.slice (some ⟨g,0,none⟩) l.length a2) 1 0 n=.slice (some ⟨g,0,none⟩) n a2:=by
  simp only[bL,KQ,Mh]
  split<;>simp[Kx]
 have a0:(l.take n).length=n:=by simp;omega
 rw[e];refine⟨⟨⟨?_,.inr ⟨g,a2,a8,by rw[a0],a7,hg,by rw[a0];omega,a6,a5,?_⟩⟩,fun g' a4=>a1 g' a4⟩,fun x _=>rfl⟩
 ·rw[a3];simp
 rw[a3]at ht ⊢;rw[a0];have:=congrArg (Lz n) ht;rw[Kw,<-KG]at this;simpa[M6 hn]using this
theorem tm{P:J9}{N:Nat}{ops:Array Kc}{Q:LX->Mu->ka->Prop}{a5:List Kc}{st:St}{w:ka}{t:IP}{p:String}{e:Array LZ}{x:JR} 
  {T E:IP} {α:Type} {val:α->ix} {O:Nat->Nat} {i:Nat} {v:ix} {l:List α} (hr:IX (fun x=>[val x]) E 1 O w i v l) (n:Nat) (hn:n<=l.length) (z:α) (a8:i≠0) (hT:P.underlying T=some (.slice E)) (hz:∀w,(Li E).run P w=.ok (val z) w) (a9:(val z).cells = #[val z]) (h1:(val z).oneCell'=true)
  {sv:ix} (hx:ev st x=some sv) (b0:sv=bL v 1 n l.length)
  (h:∀w' l',IX (fun x=>[val x]) E 1 O w' i v l'->l'.take n=l.take n->l'.length=l.length->IJ (fun j=>j=i) O w O w'->WL P N ops Q a5 st w'):WL P N ops Q (⟨none,.call ⟨.builtin .clear,#[x],#[T]⟩,t,p,e,none⟩::a5) st w:=by
 subst b0;have a7:=hr;have a0:∃w' l',(Lw #[T] t #[bL v 1 n l.length]).run P w=.ok (.tuple #[]) w'/\IX (fun x=>[val x]) E 1 O w' i v l'/\l'.take n=l.take n/\l'.length=l.length/\IJ (fun j=>j=i) O w O w':=by
  by_cases he:n=l.length
  ·subst he;obtain⟨a,c,rfl,_⟩:=hr.sl.shape;refine⟨w,l,?_,hr,rfl,rfl,Jk (fun e=>a8 e.symm) _ _⟩;simp only[bL,JC];generalize (if c=l.length then a else a.map fun x=>x.add (l.length*1))=q
   cases q<;>simp[Lw,run_underlying hT]
  obtain⟨⟨⟨hl,b1⟩,a'⟩,b3⟩:=hr
  rcases b1 with⟨rfl,h0⟩|⟨g,a6,b8,rfl,b7,hg,b4,b6,b5,ht⟩
  ·omega
  obtain⟨k,hk⟩:∃k,n+k=l.length:=⟨l.length-n,zo⟩
  obtain⟨c1,c2⟩:=xf z a8 k n l w l.length a7 hk;refine⟨_,_,?_,c1,?_,by simp;omega,c2⟩
  ·have es:bL (.slice (some ⟨g,0,none⟩) l.length a6) 1 n l.length=.slice (some ⟨g,n,none⟩) k (a6-n):=by
    simp only[bL];rw[if_neg zo,show l.length-n=k from by omega];simp only[JM,Kx,Mo]
    split
    ·rename_i h;simp[h]
    simp
   rw[es];refine Lib.run_clear_slice w T E t (val z) hT hz a9 h1 g n k (a6-n) zo (fun j hj=>?_) (fun j hj=>by simp[M1,hg]);have:=a7.sl.cells (n+j) zo 0 (val l[n+j]) rfl;rw[ay]at this;have ha:adr (.slice (some ⟨g,0,none⟩) l.length a6) 1 (n+j)=⟨g,n+j,none⟩:=by simp[adr]
   rw[ha]at this;rw[this];rfl
  rw[Ko (by simp;omega),Kw,Nat.min_self]
 obtain⟨w',l',a0,a1,a2,a3,a4⟩:=a0;refine MR rfl fun a ha=>?_
 unfold MG;have b2:(execOp a.eval ⟨none,.call ⟨.builtin .clear,#[x],#[T]⟩,t,p,e,none⟩).run P w=.ok (.value (.tuple #[])) w':=by
  simp only[execOp,resolve,invoke,builtin,I2,IQ,ln,JK,I4,JB,ha.ev hx,a0]
 rw[b2];exact h w' l' a1 a2 a3 a4 _ ha
end
end Go.VL
namespace Go.Proofs.YtpfpmhhigheccaaGreatDoor
structure Cell0(O:Nat->Nat)(w:ka)(a:Mt)(v:ix):Prop where
 z:O a.block=0
 c:w.cell? a=some v
theorem Cell0.upd{S:Nat->Prop}{O O':Nat->Nat}{w w':ka}{a:Mt}{v:ix}(h:Cell0 O w a v)(u:IJ S O w O' w'):Cell0 O' w' a v:=by
 have a1:=KD w a h.c;refine⟨IN fun a0=>?_,gZ (u.blk _ a1 (by rw[h.z];exact u.z)) h.c⟩
 rcases u.new _ a0 with h1|h1
 ·exact h1 h.z
 omega
theorem Cell0.ext{O:Nat->Nat}{w w':ka}{a:Mt}{v:ix}(h:Cell0 O w a v)(e:K5 w w'):Cell0 O w' a v:=⟨h.z,e.cell h.c⟩
theorem Fj{T xb:Nat}{O O1 O2:Nat->Nat}{w w1 w2:ka}{us:Array ix}{E:IP}(_:0<T)(hT:∀b,O b<T)(u1:IJ (fun q=>q=T) O w O1 w1)(u2:IJ (fun q=>q=T) O1 w1 O2 w2)(hx:KK O2 w2 T xb us E):
  K5 w w2/\∀j u,us.toList[j]? = some u->Cell0 O w2 (nA xb j) u:=by
 have hO:O xb=0:=IN fun a0=>by
  have h1:=u1.tag xb a0;have h2:=u2.tag xb (by rw[h1];exact a0);have:=hT xb;have:=hx.tag;omega
 refine⟨aD (u1.trans u2) fun b e=>?_,fun j u hu=>⟨?_,hx.cellsAdd j u hu⟩⟩
 ·have:=hT b;omega
 show O (nA xb j).block=0;have:(nA xb j).block=xb:=by simp only[Kx];split<;>rfl
 rw[this];exact hO
abbrev qG(x:Lf):List ix:=[nI x.1,nI x.2.1,nI (x.2.2:Nat)]
abbrev K3:=ix×ix×Nat
abbrev F0(x:K3):List ix:=[x.1,x.2.1,nI (x.2.2:Nat)]
theorem Ig:LY IW 162 170 3 24:=⟨JS,by kernel_rfl,zd⟩
theorem Iy:LY IW 163 167 3 56:=⟨J3,by kernel_rfl,zd⟩
theorem jJ:LY IW 25 3 1 8:=⟨I8,by kernel_rfl,zd⟩
theorem GI:cB IW 165 #[(0,1),(1,1),(2,1),(3,1),(4,1)]:=⟨_,underlying165,fun w=>by kernel_rfl⟩
theorem GH:cB IW 167 #[(0,1),(1,1),(2,1)]:=⟨_,underlying167,fun w=>by kernel_rfl⟩
theorem GG:cB IW 170 #[(0,1),(1,1),(2,1)]:=⟨_,underlying170,fun w=>by kernel_rfl⟩
structure Ks(O:Nat->Nat)(w:ka)(i:Nat)(kv:ix)(g:Gr)(xs:List K3):Prop where
 row:IX F0 167 3 O w (i+2) kv xs
 len:xs.length=g.ks.length
 fr:∀k,k<xs.length->IX aN 3 1 O w (i+6+2*k) (nth xs k).1 (g.fr k)
 lv:∀k,k<xs.length->IX aN 3 1 O w (i+7+2*k) (nth xs k).2.1 (g.lv k)
 en:∀k,k<xs.length->(nth xs k).2.2=g.en k
theorem Ks.upd{S:Nat->Prop}{O O':Nat->Nat}{w w':ka}{i:Nat}{kv:ix}{g:Gr}{xs:List K3}(h:Ks O w i kv g xs)(u:IJ S O w O' w')(hS:∀q,i<=q->q<i+8+2*g.ks.length->¬S q):Ks O' w' i kv g xs:=
 have hl:=h.len
 ⟨h.row.upd u zo (hS _ zo zo),h.len,fun k hk=>(h.fr k hk).upd u zo (hS _ zo zo),fun k hk=>(h.lv k hk).upd u zo (hS _ zo zo),h.en⟩
abbrev nfC(se:Bool)(lv kv nv tv:ix):Array ix:=#[.bool se,lv,kv,nv,tv]
structure NfO(O:Nat->Nat)(w:ka)(i nb:Nat)(se:Bool)(g:Gr)(nv tv lv kv:ix)(xs:List K3):Prop where
 blk:KK O w i nb (nfC se lv kv nv tv) 165
 ls:IX qG 170 3 O w (i+1) lv g.ls
 ks:Ks O w i kv g xs
theorem NfO.updT{S:Nat->Prop}{O O':Nat->Nat}{w w':ka}{i nb:Nat}{se:Bool}{g:Gr}{nv tv lv kv:ix}{xs:List K3}(h:NfO O w i nb se g nv tv lv kv xs)(u:IJ S O w O' w')(hi:i≠0)(hS:∀q,i<=q->q<i+8+2*g.ks.length->¬S q):NfO O' w' i nb se g nv tv lv kv xs:=
 ⟨h.blk.upd u hi (hS _ (I7 _) zo),h.ls.upd u zo (hS _ zo zo),h.ks.upd u hS⟩
theorem NfO.upd{S:Nat->Prop}{O O':Nat->Nat}{w w':ka}{i nb:Nat}{se:Bool}{g:Gr}{nv tv lv kv:ix}{xs:List K3}(h:NfO O w i nb se g nv tv lv kv xs)(u:IJ S O w O' w')(hi:i≠0)(hS:∀q,i<=q->¬S q):NfO O' w' i nb se g nv tv lv kv xs:=h.updT u hi fun q h _=>hS q h
theorem NfO.ext{O:Nat->Nat}{w w':ka}{i nb:Nat}{se:Bool}{g:Gr}{nv tv lv kv:ix}{xs:List K3}(h:NfO O w i nb se g nv tv lv kv xs)(e:K5 w w')(hi:i≠0):NfO O w' i nb se g nv tv lv kv xs:=
 h.upd (aa (S:=fun _=>False) (fun h=>h) O e) hi fun _ _ h=>h
def NfP(B:Nat)(O:Nat->Nat)(w w':ka)(i nb:Nat)(se:Bool)(g:Gr)(nv tv:ix):Prop:=
 ∃O' lv kv xs,IJ (fun q=>i<=q) O w O' w'/\K0 B O' w'/\NfO O' w' i nb se g nv tv lv kv xs
section
variable{O:Nat→Nat}{w:ka}{i nb:Nat}{se:Bool}{g:Gr}{nv tv lv kv:ix}{xs:List K3}
theorem NfO.c0(h:NfO O w i nb se g nv tv lv kv xs):w.cell? (nA nb 0)=some (.bool se):=h.blk.cell 0 rfl
theorem NfO.c1(h:NfO O w i nb se g nv tv lv kv xs):w.cell? (nA nb 1)=some lv:=h.blk.cell 1 rfl
theorem NfO.c2(h:NfO O w i nb se g nv tv lv kv xs):w.cell? (nA nb 2)=some kv:=h.blk.cell 2 rfl
theorem NfO.c3(h:NfO O w i nb se g nv tv lv kv xs):w.cell? (nA nb 3)=some nv:=h.blk.cell 3 rfl
theorem NfO.c4(h:NfO O w i nb se g nv tv lv kv xs):w.cell? (nA nb 4)=some tv:=h.blk.cell 4 rfl
theorem Ks.f0(h:Ks O w i kv g xs){k:Nat}(hk:k<xs.length):w.cell? ((adr kv 3 k).add 0)=some (nth xs k).1:=h.row.sl.cell (j:=0) hk rfl
theorem Ks.f1(h:Ks O w i kv g xs){k:Nat}(hk:k<xs.length):w.cell? ((adr kv 3 k).add 1)=some (nth xs k).2.1:=h.row.sl.cell (j:=1) hk rfl
end
structure Bd(g:Gr)(M:Nat):Prop where
 ks:g.ks.length<=M
 ls:g.ls.length<=M
 fr:∀k,(g.fr k).length<=M
 lv:∀k,(g.lv k).length<=M
theorem Bd.mono{g:Gr}{M M':Nat}(h:Bd g M)(hm:M<=M'):Bd g M':=⟨by have:=h.ks;omega,by have:=h.ls;omega,fun k=>by have:=h.fr k;omega,fun k=>by have:=h.lv k;omega⟩
theorem Bd.knot{g:Gr}{M:Nat}(h:Bd g M):Bd g.knot (M+1):=⟨by rw[aK];have:=h.ks;omega,by have:=h.ls;show g.ls.length<=_;omega,fun k=>by
 rw[nh];split
 ·have:=h.fr k;omega
 ·simp,fun k=>by
 rw[ng];split
 ·have:=h.lv k;omega
 simp⟩
theorem Bd.free{g:Gr}{M:Nat}(h:Bd g M){a b:Nat}(ha:a<g.ks.length):Bd (g.free a b) (M+1):=⟨by rw[bf];have:=h.ks;omega,by have:=h.ls;show g.ls.length<=_;omega,fun k=>by
 rw[np ha];split
 ·have:=h.fr a;simp;omega
 ·have:=h.fr k;omega,fun k=>by
 rw[nn ha];have:=h.lv k;omega⟩
theorem Bd.leaf{g:Gr}{M:Nat}(h:Bd g M){x c:Int}{a b:Nat}(ha:a<g.ks.length):Bd (g.leaf x c a b) (M+1):=⟨by rw[iG];have:=h.ks;omega,by have:=h.ls;rw[mV];simp;omega,fun k=>by
 rw[mW ha];have:=h.fr k;omega,fun k=>by
 rw[mU ha];split
 ·have:=h.lv a;simp;omega
 have:=h.lv k;omega⟩
theorem Bd.layO{g:Gr}{M:Nat}(h:Bd g M){k:Int}{i:Nat}(hi:i+1<g.ks.length):Bd (layO k g i) (M+2):=by
 unfold Jd;split<;>split
 ·exact h.mono zo
 ·exact(h.free zo).mono zo
 ·exact(h.free hi).mono zo
 exact(h.free zo).free (by rw[bf];exact hi)
theorem Bd.often{g:Gr}{M:Nat}(h:Bd g M){a b:Nat}(ha:a<g.ks.length):Bd (bT g a b) (M+4):=by
 have h2:g.knot.knot.ks.length=g.ks.length+2:=by rw[aK,aK]
 unfold bT;exact(h.knot.knot.free zo).free (by rw[bf];omega)
mutual
theorem ga:∀(t:Nd) (a b:Nat) (g:Gr) (M:Nat),WF g->a<g.ks.length->b<g.ks.length->Bd g M->Bd (fF t a b g) (M+(9*nsz t-1))
 |.mk k c l,a,b,g,M,h,ha,hb,hM=>by
  unfold fF
  simp only[nsz]
  split
  ·exact(Ak l a b g M h ha hb hM).mono zo
  split
  ·exact(Ap l a b g M h ha hb hM).mono zo
  split
  ·have hl:=ec g a b
   have hwf:=eW h ha hb
   obtain⟨h1,h2⟩:=mZ l g.ks.length (g.ks.length+1) (bT g a b) hwf zo zo
   have:=h2.len
   have h3:=DT l g.ks.length (g.ks.length+1) (bT g a b) (M+4) hwf zo zo (hM.often ha)
   exact(h3.layO zo).mono zo
  split
  ·exact(hM.free ha).mono zo
  exact(hM.leaf ha).mono zo
theorem Ak:∀(l:List Nd) (a b:Nat) (g:Gr) (M:Nat),WF g->a<g.ks.length->b<g.ks.length->Bd g M->Bd (nQ l a b g) (M+9*dt l)
 |[],_,_,g,M,_,_,_,hM=>hM.mono zo
 |t::r,a,b,g,M,h,ha,hb,hM=>by
  unfold nQ
  simp only[dt]
  have hp:=dD t
  split
  ·exact(ga t a b g M h ha hb hM).mono zo
  have hl:=aK g
  obtain⟨h1,h2⟩:=cD t a g.ks.length g.knot h.knot zo zo
  have:=h2.len
  exact(Ak r g.ks.length b _ _ h1 zo zo (ga t a g.ks.length g.knot (M+1) h.knot zo zo hM.knot)).mono zo
theorem Ap:∀(l:List Nd) (a b:Nat) (g:Gr) (M:Nat),WF g->a<g.ks.length->b<g.ks.length->Bd g M->Bd (nR l a b g) (M+9*dt l)
 |[],_,_,g,M,_,_,_,hM=>hM.mono zo
 |t::r,a,b,g,M,h,ha,hb,hM=>by
  unfold nR
  simp only[dt]
  have hp:=dD t
  obtain⟨h1,h2⟩:=cD t a b g h ha hb
  have:=h2.len
  exact(Ap r a b _ _ h1 zo zo (ga t a b g M h ha hb hM)).mono zo
theorem DT:∀(l:List Nd) (a b:Nat) (g:Gr) (M:Nat),WF g->a<g.ks.length->b<g.ks.length->Bd g M->Bd (oW l a b g) (M+9*dt l)
 |[],_,_,g,M,_,_,_,hM=>hM.mono zo
 |t::_,a,b,g,M,h,ha,hb,hM=>by
  unfold oW
  simp only[dt]
  exact(ga t a b g M h ha hb hM).mono zo
end
theorem Upd.hi{U i:Nat}{O O':Nat->Nat}{w w':ka}(h:IJ (fun q=>q=U) O w O' w')(hi:i≠0)(hU:i<=U):IJ (fun q=>i<=q) O w O' w':=h.mono (fun q e=>by rw[e];exact hU) zo
theorem iH(B:Nat)(O:Nat->Nat)(w:ka)(i nb:Nat)(se:Bool)(g:Gr)(nv tv lv kv:ix)(xs:List K3)(hi:i≠0)(hR:K0 B O w)(h:NfO O w i nb se g nv tv lv kv xs)(hM:g.ks.length<=100000000):
  Kz IW 84 [nP nb] w fun v w'=>v=nI ((g.ks.length:Nat):Int)/\NfP B O w w' i nb se g.knot nv tv:=by
 have a0:=h.ks.len;refine ID func84 ntmps84 rfl rfl ?_;refine zh ?_;refine zv (RV.ld h.c2 rfl) ?_;refine zv (aE GH (zeroValue167 _) rfl (by first|rfl|(simp only[J1,Jb];rfl)) rfl rfl) ?_;refine KY Iy h.ks.row hR (((nS,nS,0):K3)) (fun _=>rfl) rfl rfl rfl (by simp[I6]) zo zo zo zd rfl rfl ?_;intro a3 w1 O1 a4 a5 a';have a6:=h.blk.upd a5 hi zo;refine zh ?_;refine aj (j:=2) a6 rfl (sizeOf163 _) a4.one rfl rfl rfl ?_;have a8:=a6.set 2 a3;have a2:IJ (fun q=>q=i) O1 w1 O1 (w1.setCell ⟨nb,2,none⟩ a3):=JH (fun e=>hi e.symm) a6.tag rfl;have a1:=a4.upd a2 zo zo;have a9:=a'.upd a2;generalize w1.setCell ⟨nb,2,none⟩ a3=w2 at *;have c2:w2.cell? (nA nb 2)=some a3:=a8.cell 2 rfl;have b0:=a1.sl;have b1:∀k,i+6<=k->¬(k=i+2):=fun k hk=>zo
 have a7:(xs++[((nS,nS,0):K3)]).length=g.ks.length+1:=by simp[a0]
 refine zh ?_;refine af rfl rfl (⟨by rw[a7];congr 1;omega,O1,lv,a3,xs++[(nS,nS,0)],(Upd.hi a5 hi zo).trans (Upd.hi a2 hi (I7 _)),a9,⟨a8,(h.ls.upd a5 zo zo).upd a2 zo zo,⟨a1,by rw[a7,aK],fun k hk=>?_,fun k hk=>?_,fun k hk=>?_⟩⟩⟩)
 ·rw[aA,nh,a0]
  by_cases e:k<g.ks.length
  ·rw[if_pos e,if_pos e];exact((h.ks.fr k zo).upd a5 zo zo).upd a2 zo zo
  rw[if_neg e,if_neg e,show k-g.ks.length=0 from by omega,ax];exact J7 _ _ _ _ _ _
 ·rw[aA,ng,a0]
  by_cases e:k<g.ks.length
  ·rw[if_pos e,if_pos e];exact((h.ks.lv k zo).upd a5 zo zo).upd a2 zo zo
  rw[if_neg e,if_neg e,show k-g.ks.length=0 from by omega,ax];exact J7 _ _ _ _ _ _
 rw[aA,qx,a0]
 by_cases e:k<g.ks.length
 ·rw[if_pos e,if_pos e];exact h.ks.en k zo
 rw[if_neg e,if_neg e,show k-g.ks.length=0 from by omega,ax]
theorem gb(B:Nat)(O:Nat->Nat)(w:ka)(i nb:Nat)(se:Bool)(g:Gr)(nv tv lv kv:ix)(xs:List K3)(a b:Nat)(hi:i≠0)(hR:K0 B O w)(h:NfO O w i nb se g nv tv lv kv xs)(ha:a<g.ks.length)(hM:(g.fr a).length<=100000000)(b8:g.ks.length<=100000000):
  Kz IW 85 [nP nb,nI (a:Nat),nI (b:Nat)] w fun _ w'=>NfP B O w w' i nb se (g.free a b) nv tv:=by
 have a8:=h.ks.len;have a2:a<xs.length:=zo;have hs:=h.ks.row.sl;have f0:=h.ks.f0 a2;refine ID func85 ntmps85 rfl rfl ?_;have a0:w.drew.cell? (nA nb 2)=some kv:=h.c2;have b6:w.drew.cell? ((adr kv 3 a).add 0)=some (nth xs a).1:=f0;refine aL (fun W=>W.cell? (nA nb 2)=some kv) 19 rfl zk ?_;refine zrm 0 rfl a0 rfl ?_;refine zr 1 rfl a0 (fun _=>ao rfl) ?_;refine zrf 2 rfl a0 rfl ?_;refine zt 3 rfl a0 (fun w1 a7=>RV.ld a7 rfl) ?_;refine zrm 4 rfl a0 rfl ?_;refine zrm 5 rfl a0 rfl ?_;refine zr 6 rfl a0 (fun _=>ao rfl) ?_;refine zrf 7 rfl a0 rfl ?_;refine zt 8 rfl a0 (fun w1 a7=>RV.ld a7 rfl) ?_;refine zrm 9 rfl a0 rfl ?_;refine zr 10 rfl a0 (fun _=>az hs.sh J3 (JG _) rfl rfl a rfl a2) ?_;refine zrf 11 rfl a0 rfl ?_;refine zrm 13 rfl a0 rfl ?_;refine bO 12 14 jJ (enc:=aN) b rfl rfl zk zk zk zk (fun W hE=>KA (hE.cell b6) (Me _) rfl) (fun W hE=>hE.cell a0) rfl rfl rfl zd rfl rfl rfl rfl rfl ?_;intro sv w0 b1 b5;have b0:IJ (fun _=>False) O w O w0:=aa (fun h=>h) O ((I9 w).drew.trans b5);have h0:=h.upd b0 hi fun _ _ h=>h
 have b4:=hR.upd b0;refine IF 15 zk rfl ?_;refine aC jJ (h0.ks.fr a a2) b4 b1 (by simp) rfl rfl (by simp) (by simp[I6]) (by simp;omega) (by simp;omega) zo rfl ?_;intro fv w1 O1 a6 a4 b3;have h1:=h0.blk.upd a4 hi zo;have a':=h0.ks.row.upd a4 zo zo;have d1:w1.cell? (nA nb 2)=some kv:=h1.cell 2 rfl;refine zh ?_;refine ae (d1) ?_;refine zr 16 rfl (d1) (fun _=>az hs.sh J3 (JG _) rfl rfl a rfl a2) ?_;refine zrf 17 rfl (d1) rfl ?_;refine IF 18 zk rfl ?_;refine nG a' a a2 0 zd ((fv,(nth xs a).2.1,(nth xs a).2.2):K3) (K8 _) a6.one zo rfl rfl rfl rfl ?_;intro w2 a9 a3;have h2:=h1.upd a3 hi zo;have d2:w2.cell? (nA nb 2)=some kv:=h2.cell 2 rfl;refine zh ?_;refine ae (d2) ?_;have b2:IJ (fun q=>i<=q) O w O1 w2:=((b0.mono (fun _ h=>h.elim) zo).trans (Upd.hi a4 hi zo)).trans (Upd.hi a3 hi zo);have a5:∀k,k<xs.length->k≠a->IX aN 3 1 O1 w2 (i+6+2*k) (nth xs k).1 (g.fr k):=fun k hk b7=>((h0.ks.fr k hk).upd a4 zo zo).upd a3 zo zo
 have a1:∀k,k<xs.length->IX aN 3 1 O1 w2 (i+7+2*k) (nth xs k).2.1 (g.lv k):=fun k hk=>((h0.ks.lv k hk).upd a4 zo zo).upd a3 zo zo
 refine Jt zk ?_;refine aG rfl (⟨O1,lv,kv,xs.set a (fv,(nth xs a).2.1,(nth xs a).2.2),b2,b3.upd a3,⟨h2,(h0.ls.upd a4 zo zo).upd a3 zo zo,⟨a9,by rw[I3,bf];exact a8,fun k hk=>?_,fun k hk=>?_,fun k hk=>?_⟩⟩⟩)
 ·rw[I3]at hk;rw[aT a2,np ha]
  by_cases e:k=a
  ·subst e;rw[if_pos rfl,if_pos rfl];exact a6.upd a3 zo zo
  rw[if_neg e,if_neg e];exact a5 k hk e
 ·rw[I3]at hk;rw[aT a2,nn ha]
  by_cases e:k=a
  ·subst e;rw[if_pos rfl];exact a1 k hk
  rw[if_neg e];exact a1 k hk
 rw[I3]at hk;rw[aT a2,uD ha]
 by_cases e:k=a
 ·subst e;rw[if_pos rfl];exact h.ks.en k hk
 rw[if_neg e];exact h.ks.en k hk
theorem eR:∀(l:List Nd) (i:Nat),dL l=true->i<l.length->gF (nth l i)=true
 |[],i,_,h=>absurd h (I1 i)
 |t::r,i,hs,h=>by
  unfold dL at hs;simp only[IH]at hs
  cases i with
  |zero=>rw[ax];exact hs.1
  |succ i=>rw[bA];exact eR r i hs.2 (by simpa using h)
theorem Aj{l:List Nd}{q a b:Nat}{g:Gr}(h:q<l.length):nQ (l.drop q) a b g=if q+1<l.length then nQ (l.drop (q+1)) g.ks.length b (fF (nth l q) a g.ks.length g.knot)else fF (nth l q) a b g:=by
 rw[lA h,nQ]
 by_cases e:q+1<l.length
 ·rw[if_pos e,if_neg (by simp;omega)]
 rw[if_neg e,if_pos (by simp;omega)]
theorem Ao{l:List Nd}{q a b:Nat}{g:Gr}(h:q<l.length):nR (l.drop q) a b g=nR (l.drop (q+1)) a b (fF (nth l q) a b g):=by
 rw[lA h];rfl
theorem Ci{l:List Nd}{a b:Nat}{g:Gr}(h:l.length=1):oW l a b g=fF (nth l 0) a b g:=by
 obtain⟨t,rfl⟩:=List.length_eq_one_iff.1 h;rw[ax];rfl
def Ij(t:Nd):Prop:=∀(B:Nat) (O:Nat->Nat) (w:ka) (i nb:Nat) (se:Bool) (g:Gr) (na ta lv kv:ix) (xs:List K3) (a b:Nat) (x:N3) (M:Nat),i≠0->K0 B O w->NfO O w i nb se g na ta lv kv xs->WF g->a<g.ks.length->b<g.ks.length->Bd g M->M+9*nsz t<=100000000->gF t=true->Nt O w t x->
 Kz IW 86 [nP nb,nv x,nI (a:Nat),nI (b:Nat)] w fun _ w'=>NfP B O w w' i nb se (fF t a b g) na ta
theorem uh{k c:Int}{l:List Nd}(a':k=6\/k=7\/k=8)(ih:Ij (nth l 0))(B:Nat)(O:Nat->Nat)(w:ka)(i nb:Nat)(se:Bool)(g:Gr)(na ta lv kv:ix)(xs:List K3)(a b:Nat)(x:N3)(M:Nat)(hi:i≠0)(hR:K0 B O w)(h:NfO O w i nb se g na ta lv kv xs)(hw:WF g)(ha:a<g.ks.length)(hb:b<g.ks.length)(hM:Bd g M)(e8:M+9*nsz (.mk k c l)<=100000000)(hs:gF (.mk k c l)=true)(hn:Nt O w (.mk k c l) x):
  Kz IW 113 [nP nb,nv x,nI (a:Nat),nI (b:Nat)] w fun _ w'=>NfP B O w w' i nb se (fF (.mk k c l) a b g) na ta:=by
 obtain⟨T,d9,hT⟩:=hR.bound;have g1:=hn.kind;obtain⟨ys,d4,a5,b4,a3⟩:=hn.kids;have hx:x=(k,c,x.2.2):=hn.ones;generalize x.2.2=kidv at *;subst hx;unfold gF at hs;simp only[IH]at hs;obtain⟨b9,d5⟩:=hs;rw[if_neg zo,if_pos a']at b9;have b':l.length=1:=of_decide_eq_true b9;have g0:ys.length=1:=by rw[<-b4];exact b'
 have b5:fF (.mk k c l) a b g=layO k (fF (nth l 0) g.ks.length (g.ks.length+1) (bT g a b)) g.ks.length:=by
  rw[fF,if_neg zo,if_neg zo,if_pos a',Ci b'];rfl
 have g4:=cg l 0 zo;simp only[nsz]at e8;rw[b5];refine ID func113 ntmps113 rfl rfl ?_;refine zh ?_;refine aF hR T zo rfl rfl ?_;intro xb w1 O1 c8 b1 b6 b7;obtain⟨b8,c5⟩:=Fj d9 hT b1 (Jk zo _ _) c8;clear c8 b1 b6 b7;have h1:=h.ext b8 hi;have b6:=hR.ext b8;have k1:Cell0 O w1 (nA xb 0) (nI k):=c5 0 _ rfl;have v1:Cell0 O w1 (nA xb 2) kidv:=c5 2 _ rfl;have b1:IJ (fun q=>i<=q) O w O w1:=aa zo O b8;refine zh ?_;refine zc Lt (iH B O w1 i nb se g na ta _ _ _ hi b6 h1 (by have:=hM.ks;omega)) ?_;rintro _ w2 ⟨rfl,O2,f7,f',f4,d2,e6,h2⟩;refine zh ?_;have e1:=aK g;refine zc Lt (iH B O2 w2 i nb se g.knot na ta _ _ _ hi e6 h2 (by have:=hM.ks;omega)) ?_;rintro _ w3 ⟨rfl,O3,f6,f9,f3,d1,e5,h3⟩;rw[e1];have e2:=aK g.knot;refine zh ?_;refine zc KO (gb B O3 w3 i nb se g.knot.knot na ta _ _ _ a g.ks.length hi e5 h3 zo (by have:=Bd.fr (hM.knot.knot) a;omega) (by have:=Bd.ks (hM.knot.knot);omega)) ?_;rintro _ w4 ⟨O4,_,_,_,d0,e4,h4⟩;have e3:=bf g.knot.knot a g.ks.length;refine zh ?_;refine zc KO (gb B O4 w4 i nb se (g.knot.knot.free a g.ks.length) na ta _ _ _ (g.ks.length+1) b hi e4 h4 zo (by have:=Bd.fr (hM.knot.knot.free (a:=a) (b:=g.ks.length) zo) (g.ks.length+1);omega) (by have:=Bd.ks (hM.knot.knot.free (a:=a) (b:=g.ks.length) zo);omega)) ?_;rintro _ w5 ⟨O5,_,_,_,c',e0,h5⟩;have a0:=(((b1.trans d2).trans d1).trans d0).trans c';have a7:=((d2.trans d1).trans d0).trans c'
 have e9:NfO O5 w5 i nb se (bT g a b) na ta _ _ _:=h5;have b3:=eW hw ha hb;have g3:=ec g a b;have c6:=hM.often (b:=b) ha;have k5:=k1.upd a7;have v5:=v1.upd a7;have a1:=d4.upd a5 a0;have a4:=(a3 0 zo).upd a0;refine zh ?_;refine zv (RV.ld v5.c rfl) ?_;refine zv (JV a1 Lr (IL _) rfl rfl 0 rfl zo) ?_;refine zvH (ah (us:=aW (nth ys 0)) (fun j u hu=>a1.cell zo hu) (J8 _) (IL _) rfl) ?_;refine zc Ma (ih B O5 w5 i nb se (bT g a b) na ta _ _ _ g.ks.length (g.ks.length+1) (nth ys 0) (M+4) hi e0 e9 b3 zo zo c6 zo (eR l 0 d5 zo) a4) ?_;rintro _ w6 ⟨O6,f5,f8,e',c9,d3,h6⟩;obtain⟨g2,a2⟩:=cD (nth l 0) g.ks.length (g.ks.length+1) (bT g a b) b3 zo zo;have a6:=ga (nth l 0) g.ks.length (g.ks.length+1) (bT g a b) (M+4) b3 zo zo c6;have d7:=a2.len;generalize fF (nth l 0) g.ks.length (g.ks.length+1) (bT g a b)=g6 at *;have a9:=a0.trans c9;have k6:=k5.upd c9;refine zh ?_;refine zvH (RV.ld k6.c rfl) ?_
 by_cases h7:k=7
 ·subst h7;refine zFH rfl rfl ?_;refine zvH (RV.ld k6.c rfl) ?_;refine zTH rfl rfl ?_;refine zc KO (gb B O6 w6 i nb se g6 na ta _ _ _ (g.ks.length+1) g.ks.length hi d3 h6 zo (by have:=Bd.fr a6 (g.ks.length+1);omega) (by have:=Bd.ks a6;omega)) ?_;rintro _ w7 ⟨O7,_,_,_,b0,b2,h7⟩;refine zh ?_;refine aG rfl (⟨O7,_,_,_,a9.trans b0,b2,h7⟩)
 refine zTH rfl ((by simpa using h7)) ?_;refine zc KO (gb B O6 w6 i nb se g6 na ta _ _ _ g.ks.length (g.ks.length+1) hi d3 h6 zo (by have:=Bd.fr a6 g.ks.length;omega) (by have:=Bd.ks a6;omega)) ?_
 rintro _ w7 ⟨O7,_,_,_,b0,b2,h7n⟩;have a8:=a9.trans b0;have k7:=k6.upd b0;refine zh ?_;refine zvH (RV.ld k7.c rfl) ?_
 by_cases h8:k=8
 ·subst h8;refine zFH rfl rfl ?_;refine aG rfl (⟨O7,_,_,_,a8,b2,h7n⟩)
 refine aO rfl ((by simpa using h8)) ?_;have d6:layO k g6 g.ks.length=(g6.free g.ks.length (g.ks.length+1)).free (g.ks.length+1) g.ks.length:=by unfold layO;rw[if_neg h8,if_neg h7]
 rw[d6];have c7:=a6.free (a:=g.ks.length) (b:=g.ks.length+1) zo;have e7:=bf g6 g.ks.length (g.ks.length+1);refine zh ?_;refine zc KO (gb B O7 w7 i nb se (g6.free g.ks.length (g.ks.length+1)) na ta _ _ _ (g.ks.length+1) g.ks.length hi b2 h7n zo (by have:=Bd.fr c7 (g.ks.length+1);omega) (by have:=Bd.ks c7;omega)) ?_;rintro _ w8 ⟨O8,_,_,_,d8,d',h8n⟩;refine zh ?_;refine aG rfl (⟨O8,_,_,_,a8.trans d8,d',h8n⟩)
theorem Ce{k c:Int}{l:List Nd}(h4:k≠4)(h5:k≠5)(a0:¬(k=6\/k=7\/k=8))(h9:k≠9)(a b:Nat)(g:Gr):fF (.mk k c l) a b g=g.leaf k c a b:=by
 rw[fF,if_neg h4,if_neg h5,if_neg a0,if_neg h9]
theorem Ah:∀(n:Nat) (t:Nd),nsz t<=n->Ij t
 |0,t,ht=>by have:=dD t;omega
 |n+1,.mk k c l,ht=>by
  intro B O w i nb se g na ta lv kv xs a b x M hi hR h hw ha hb hM l2 hs hn;have ih:=fun(t:Nd) (e:nsz t<=n)=>Ah n t e
  have j':=hs;have k6:=hn;obtain⟨T,l1,hT⟩:=hR.bound;obtain⟨ys,j0,f',i0,d'⟩:=hn.kids;have hx:x=(k,c,x.2.2):=hn.ones;generalize x.2.2=kidv at *;subst hx;unfold gF at hs;simp only[IH]at hs;obtain⟨g5,g'⟩:=hs;simp only[nsz]at l2 ht
  change l.length=ys.length at i0
  change ∀i,i<ys.length->Nt O w (nth l i) (nth ys i)at d'
  have m4:=eH l;refine ID func86 ntmps86 rfl rfl ?_;refine zh ?_;refine aF hR T zo rfl rfl ?_;intro xb w1 O1 j2 b8 e4 i';obtain⟨e',e8⟩:=Fj l1 hT b8 (Jk zo _ _) j2;clear j2 b8 e4 i';have h1:=h.ext e' hi;have e4:=hR.ext e';have k1:Cell0 O w1 (nA xb 0) (nI k):=e8 0 _ rfl;have j4:Cell0 O w1 (nA xb 1) (nI c):=e8 1 _ rfl;have v1:Cell0 O w1 (nA xb 2) kidv:=e8 2 _ rfl;have b8:IJ (fun q=>i<=q) O w O w1:=aa zo O e';have f4:=j0.ext e';have b7:=f'.upd b8;have k5:Nt O w1 (.mk k c l) (k,c,kidv):=k6.ext e';have b6:=fun q hq=>(d' q hq).ext e'
  refine zh ?_;refine zvH (RV.ld k1.c rfl) ?_
  by_cases h4:k=4
  ·subst h4;rw[if_pos rfl]at g5;have b4:fF (.mk 4 c l) a b g=nQ l a b g:=by rw[fF,if_pos rfl]
   rw[b4];refine zTH rfl rfl ?_;refine zvH (RV.ld v1.c rfl) ?_;refine zlp (fun z:Nat×Nat×(Nat->Nat)×World×Gr×ix×ix×List K3=>[(0,nP nb),(2,nI z.2.1),(3,nI b),(5,nP xb),(55,kidv),(56,nI ys.length),(57,nI z.1)]) (fun z=>z.2.2.2.1) (fun z=>z.1<=l.length/\IJ (fun q=>i<=q) O w1 z.2.2.1 z.2.2.2.1/\K0 B z.2.2.1 z.2.2.2.1/\NfO z.2.2.1 z.2.2.2.1 i nb se z.2.2.2.2.1 na ta z.2.2.2.2.2.1 z.2.2.2.2.2.2.1 z.2.2.2.2.2.2.2/\WF z.2.2.2.2.1/\z.2.1<z.2.2.2.2.1.ks.length/\b<z.2.2.2.2.1.ks.length/\Bd z.2.2.2.2.1 (M+9*dt (l.take z.1))/\nQ l a b g=(if z.1<l.length then nQ (l.drop z.1) z.2.1 b z.2.2.2.2.1 else z.2.2.2.2.1)) (fun z=>l.length-z.1) (0,a,O,w1,g,lv,kv,xs) (⟨I5 _,Jk zo _ _,e4,h1,hw,ha,hb,by simpa[dt]using hM,by dsimp only;rw[if_pos (by cases l;simp at g5;simp),List.drop_zero]⟩) ?_;rintro⟨q,fr,O2,w2,g2,j6,j7,j5⟩ ⟨hq,b0,b1,h2,b2,d0,d2,c5,a7⟩;dsimp only at hq b0 b1 h2 b2 d0 d2 c5 a7 ⊢;have c6:=f4.upd b7 b0;have v2:=v1.upd b0;have k0:=cm l q;refine zh ?_;refine zC ?_ ?_
   ·intro a1;replace a1:q<l.length:=dT a1;rw[if_pos a1,Aj a1]at a7;have a3:=(b6 q zo).upd b0;have k2:=cg l q a1;have e1:=dO l q a1;have h0:=cm l (q+1);have a5:=a3.one;obtain⟨T2,e3,i8⟩:=b1.bound;refine zh ?_;refine zv (ah (us:=aW (nth ys q)) (fun j u hu=>c6.cell zo hu) (J8 _) (IL _) rfl) ?_;refine ar b1 T2 zo (K7 _) rfl ?_;intro yb w3 O3 a8 a' g4 e6;refine zh ?_;refine zsb (us:=#[nI (nth ys q).1,nI (nth ys q).2.1,(nth ys q).2.2]) a8 (IL _) (bW a5) ?_;have g3:IJ (fun j=>j=T2) O3 w3 O3 (w3.setRow yb #[nI (nth ys q).1,nI (nth ys q).2.1,(nth ys q).2.2]):=IS zo a8.tag rfl;obtain⟨b9,g6⟩:=Fj e3 i8 a' g3 (a8.setRow (us:=#[nI (nth ys q).1,nI (nth ys q).2.1,(nth ys q).2.2]));generalize w3.setRow yb #[nI (nth ys q).1,nI (nth ys q).2.1,(nth ys q).2.2]=w4 at *;clear a8 a' g4 e6 g3;have a9:IJ (fun q=>i<=q) O2 w2 O2 w4:=aa zo O2 b9;have h4n:=h2.ext b9 hi;have e9:=b1.ext b9;have v4:=v2.ext b9;have a6:=a3.ext b9;refine zh ?_;refine zv (RV.ld v4.c rfl) ?_;refine zvH (RV.len (by first|exact c6.ext b9) Lr rfl) ?_;refine zC ?_ ?_
    ·intro c8;replace c8:q+1<l.length:=dT c8;rw[if_pos c8]at a7;refine zh ?_;refine zc Lt (iH B O2 w4 i nb se g2 na ta _ _ _ hi e9 h4n (by have:=c5.ks;omega)) ?_;rintro _ w5 ⟨rfl,O5,m0,m1,l9,i5,i9,h5⟩;have i6:=a9.trans i5;have e5:=aK g2;refine zh ?_;refine zvH (ah (us:=aW (nth ys q)) (fun j u hu=>((g6 j u hu).upd i5).c) (J8 _) (IL _) rfl) ?_;refine zc Ma (ih (nth l q) zo B O5 w5 i nb se g2.knot na ta _ _ _ fr g2.ks.length (nth ys q) _ hi i9 h5 b2.knot zo zo c5.knot zo (eR l q g' a1) (a6.upd i5)) ?_;rintro _ w6 ⟨O6,d4,d5,d3,a0,a4,h6⟩;obtain⟨f5,a2⟩:=cD (nth l q) fr g2.ks.length g2.knot b2.knot zo zo;have d1:=ga (nth l q) fr g2.ks.length g2.knot _ b2.knot zo zo c5.knot;have f8:=a2.len;have m3:=dD (nth l q);refine zh ?_;refine zxd (q+1,g2.ks.length,O6,w6,fF (nth l q) fr g2.ks.length g2.knot,d4,d5,d3) (⟨a1,(b0.trans i6).trans a0,a4,h6,f5,by dsimp only;omega,by dsimp only;omega,d1.mono (by dsimp only;omega),by dsimp only;rw[if_pos c8];exact a7⟩)
    intro c';replace c':¬q+1<l.length:=by have:=of_decide_eq_false c';omega
    rw[if_neg c']at a7;refine zh ?_;refine zvH (ah (us:=aW (nth ys q)) (fun j u hu=>(g6 j u hu).c) (J8 _) (IL _) rfl) ?_;refine zc Ma (ih (nth l q) zo B O2 w4 i nb se g2 na ta _ _ _ fr b (nth ys q) _ hi e9 h4n b2 d0 d2 c5 zo (eR l q g' a1) a6) ?_;rintro _ w6 ⟨O6,d4,d5,d3,a0,a4,h6⟩;obtain⟨f5,a2⟩:=cD (nth l q) fr b g2 b2 d0 d2;have d1:=ga (nth l q) fr b g2 _ b2 d0 d2 c5;have f8:=a2.len;refine zh ?_;refine zxd (q+1,b,O6,w6,fF (nth l q) fr b g2,d4,d5,d3) (⟨a1,(b0.trans a9).trans a0,a4,h6,f5,by dsimp only;omega,by dsimp only;omega,d1.mono (by dsimp only;omega),by dsimp only;rw[if_neg c'];exact a7⟩)
   intro e7;replace e7:¬q<l.length:=dF e7;rw[if_neg e7]at a7;rw[a7];refine zh ?_;refine aG rfl (⟨O2,_,_,_,b8.trans b0,b1,h2⟩)
  refine zFH rfl ((by simpa using h4)) ?_
  by_cases h5:k=5
  ·subst h5;have b4:fF (.mk 5 c l) a b g=nR l a b g:=by rw[fF,if_neg h4,if_pos rfl]
   rw[b4];refine zTH rfl rfl ?_;refine zvH (RV.ld v1.c rfl) ?_;refine zlp (fun z:Nat×(Nat->Nat)×World×Gr×ix×ix×List K3=>[(0,nP nb),(2,nI a),(3,nI b),(81,kidv),(82,nI ys.length),(83,nI z.1)]) (fun z=>z.2.2.1) (fun z=>z.1<=l.length/\IJ (fun q=>i<=q) O w1 z.2.1 z.2.2.1/\K0 B z.2.1 z.2.2.1/\NfO z.2.1 z.2.2.1 i nb se z.2.2.2.1 na ta z.2.2.2.2.1 z.2.2.2.2.2.1 z.2.2.2.2.2.2/\WF z.2.2.2.1/\a<z.2.2.2.1.ks.length/\b<z.2.2.2.1.ks.length/\Bd z.2.2.2.1 (M+9*dt (l.take z.1))/\nR l a b g=nR (l.drop z.1) a b z.2.2.2.1) (fun z=>l.length-z.1) (0,O,w1,g,lv,kv,xs) (⟨I5 _,Jk zo _ _,e4,h1,hw,ha,hb,by simpa[dt]using hM,rfl⟩) ?_;rintro⟨q,O2,w2,g2,j6,j7,j5⟩ ⟨hq,b0,b1,h2,b2,g7,d2,c5,a7⟩;dsimp only at hq b0 b1 h2 b2 g7 d2 c5 a7 ⊢;have c6:=f4.upd b7 b0;have k0:=cm l q;refine zh ?_;refine zC ?_ ?_
   ·intro a1;replace a1:q<l.length:=dT a1;rw[Ao a1]at a7;have a3:=(b6 q zo).upd b0;have k2:=cg l q a1;have e1:=dO l q a1;have h0:=cm l (q+1);have a5:=a3.one;obtain⟨T2,e3,i8⟩:=b1.bound;refine zh ?_;refine zv (ah (us:=aW (nth ys q)) (fun j u hu=>c6.cell zo hu) (J8 _) (IL _) rfl) ?_;refine ar b1 T2 zo (K7 _) rfl ?_;intro yb w3 O3 a8 a' g4 e6;refine zsb (us:=#[nI (nth ys q).1,nI (nth ys q).2.1,(nth ys q).2.2]) a8 (IL _) (bW a5) ?_;have g3:IJ (fun j=>j=T2) O3 w3 O3 (w3.setRow yb #[nI (nth ys q).1,nI (nth ys q).2.1,(nth ys q).2.2]):=IS zo a8.tag rfl;obtain⟨b9,g6⟩:=Fj e3 i8 a' g3 (a8.setRow (us:=#[nI (nth ys q).1,nI (nth ys q).2.1,(nth ys q).2.2]));generalize w3.setRow yb #[nI (nth ys q).1,nI (nth ys q).2.1,(nth ys q).2.2]=w4 at *;clear a8 a' g4 e6 g3;have a9:IJ (fun q=>i<=q) O2 w2 O2 w4:=aa zo O2 b9;have h4n:=h2.ext b9 hi;have e9:=b1.ext b9;have a6:=a3.ext b9;refine zh ?_;refine zvH (ah (us:=aW (nth ys q)) (fun j u hu=>(g6 j u hu).c) (J8 _) (IL _) rfl) ?_;refine zc Ma (ih (nth l q) zo B O2 w4 i nb se g2 na ta _ _ _ a b (nth ys q) _ hi e9 h4n b2 g7 d2 c5 zo (eR l q g' a1) a6) ?_;rintro _ w6 ⟨O6,d4,d5,d3,a0,a4,h6⟩;obtain⟨f5,a2⟩:=cD (nth l q) a b g2 b2 g7 d2;have d1:=ga (nth l q) a b g2 _ b2 g7 d2 c5;have f8:=a2.len;refine zh ?_
    refine zxd (q+1,O6,w6,fF (nth l q) a b g2,d4,d5,d3) (⟨a1,(b0.trans a9).trans a0,a4,h6,f5,by dsimp only;omega,by dsimp only;omega,d1.mono (by dsimp only;omega),a7⟩)
   intro e7;replace e7:¬q<l.length:=dF e7;rw[KN zo]at a7;rw[a7,nR];refine zh ?_;refine aG rfl (⟨O2,_,_,_,b8.trans b0,b1,h2⟩)
  refine zFH rfl ((by simpa using h5)) ?_
  by_cases b':k=6\/k=7\/k=8
  ·rw[if_neg h4,if_pos b']at g5;have m6:l.length=1:=of_decide_eq_true g5;have m2:=cg l 0 zo;have a5:kidv.oneCell'=true:=j0.one;have g8:∀(w':ka),K5 w1 w'->Kz IW 113 [nP nb,nv (k,c,kidv),nI (a:Nat),nI (b:Nat)] w' fun _ w''=>NfP B O w' w'' i nb se (fF (.mk k c l) a b g) na ta:=fun w' hE=>uh b' (ih (nth l 0) zo) B O w' i nb se g na ta _ _ _ a b (k,c,kidv) M hi (e4.ext hE) (h1.ext hE hi) hw ha hb hM (by simp only[nsz];omega) j' (k5.ext hE)
   rcases b' with h6|h7|h8
   ·subst h6;refine zTH rfl rfl ?_;refine zTH rfl rfl ?_;refine zvH (ah (us:=aW (6,c,kidv)) (fun j u hu=>(e8 j u hu).c) (J8 _) (IL _) rfl) ?_;refine zc MF (g8 w1 (I9 w1)) ?_;rintro _ w6 ⟨O6,d4,d5,d3,a0,a4,h6n⟩;refine zh ?_;refine aG rfl (⟨O6,_,_,_,b8.trans a0,a4,h6n⟩)
   ·subst h7;refine zFH rfl rfl ?_;refine zTH rfl rfl ?_;refine zTH rfl rfl ?_;refine zvH (ah (us:=aW (7,c,kidv)) (fun j u hu=>(e8 j u hu).c) (J8 _) (IL _) rfl) ?_;refine zc MF (g8 w1 (I9 w1)) ?_;rintro _ w6 ⟨O6,d4,d5,d3,a0,a4,h6n⟩;refine zh ?_;refine aG rfl (⟨O6,_,_,_,b8.trans a0,a4,h6n⟩)
   subst h8;refine zFH rfl rfl ?_;refine zFH rfl rfl ?_;refine zTH rfl rfl ?_;refine zvH (ah (us:=aW (8,c,kidv)) (fun j u hu=>(e8 j u hu).c) (J8 _) (IL _) rfl) ?_;refine zc MF (g8 w1 (I9 w1)) ?_;rintro _ w6 ⟨O6,d4,d5,d3,a0,a4,h6n⟩;refine zh ?_;refine aG rfl (⟨O6,_,_,_,b8.trans a0,a4,h6n⟩)
  refine zFH rfl ((by simp;omega)) ?_;refine zFH rfl ((by simp;omega)) ?_
  refine zFH rfl ((by simp;omega)) ?_
  by_cases h9:k=9
  ·subst h9;have b4:fF (.mk 9 c l) a b g=g.free a b:=by rw[fF,if_neg h4,if_neg h5,if_neg b',if_pos rfl]
   rw[b4];refine zTH rfl rfl ?_;refine zc KO (gb B O w1 i nb se g na ta _ _ _ a b hi e4 h1 zo (by have:=Bd.fr hM a;omega) (by have:=Bd.ks hM;omega)) ?_;rintro _ w6 ⟨O6,_,_,_,a0,a4,h6n⟩;refine zh ?_;refine aG rfl (⟨O6,_,_,_,b8.trans a0,a4,h6n⟩)
  refine aR rfl ((by simpa using h9)) ?_;rw[Ce h4 h5 b' h9];have e0:a<xs.length:=by have:=h.ks.len;omega
  have k':=hM.ls;have k9:=hM.lv a;have j1:=h1.ks.row.sl.sh;have k8:w1.drew.cell? (nA nb 1)=some lv:=h1.c1;have s0:∀W,K5 w1.drew W->W.cell? (nA xb 0)=some (nI k)/\W.cell? (nA xb 1)=some (nI c):=fun W hE=>⟨hE.cell k1.c,hE.cell j4.c⟩
  refine zh ?_;refine aL (fun W=>W.cell? (nA xb 0)=some (nI k)/\W.cell? (nA xb 1)=some (nI c)) 16 rfl zk ?_
  refine zin (s0 _ (I9 _)) fun zS=>?_
  refine zrm 0 rfl zS rfl ?_;refine zrm 1 rfl zS rfl ?_
  refine zr 2 rfl zS (fun _=>ao rfl) ?_;refine zrf 3 rfl zS rfl ?_
  refine zrf 5 rfl zS rfl ?_;refine zt 6 rfl zS (fun w1 c7=>RV.ld c7.1 rfl) ?_
  refine zrf 7 rfl zS rfl ?_;refine zt 8 rfl zS (fun w1 c7=>RV.ld c7.2 rfl) ?_
  refine zrm 9 rfl zS rfl ?_;refine zr 10 rfl zS (fun _=>aE GG (ME _) rfl (by first|rfl|(simp only[J1,Jb];rfl)) rfl rfl) ?_
  refine bO 4 11 Ig (enc:=qG) ((k,c,b):Lf) rfl rfl zk zk zk zk (fun W hE=>KA (hE.cell k8) (isAgg162 _) rfl) s0 rfl rfl rfl zd rfl rfl rfl rfl rfl ?_;intro sv w2 j9 l4;have g1:IJ (fun _=>False) O w1 O w2:=aa (fun h=>h) O ((I9 w1).drew.trans l4);have h2:=h1.upd g1 hi fun _ _ h=>h
  have b1:=e4.upd g1;refine IF 12 zk rfl ?_;refine aC Ig h2.ls b1 j9 (by simp) rfl rfl (by simp) (by simp[I6]) (by simp;omega) (by simp;omega) zo rfl ?_;intro b3 w3 O3 d9 a' g4;have k3:=(k1.upd g1).upd a';have j3:=(j4.upd g1).upd a';have a8:=h2.blk.upd a' hi zo;have b5:Ks O3 w3 i kv g xs:=⟨h2.ks.row.upd a' zo zo,h2.ks.len,fun q hq=>(h2.ks.fr q hq).upd a' zo zo,fun q hq=>(h2.ks.lv q hq).upd a' zo zo,h2.ks.en⟩
  refine zh ?_;refine zaf (⟨k3.c,j3.c⟩) fun zS=>?_
  refine zr 13 rfl zS (fun _=>ao rfl) ?_;refine zrf 14 rfl zS rfl ?_
  refine IF 15 zk rfl ?_;refine aj (j:=1) a8 rfl (sizeOf162 _) d9.one rfl rfl rfl ?_
  have a9:IJ (fun q=>q=i) O3 w3 O3 (w3.setCell ⟨nb,1,none⟩ b3):=JH (fun e=>hi e.symm) a8.tag rfl;have i4:KK O3 (w3.setCell ⟨nb,1,none⟩ b3) i nb (nfC se b3 kv na ta) 165:=a8.set 1 b3;have k4:=k3.upd a9;have l6:=j3.upd a9;have d8:=d9.upd a9 zo zo;have f9:Ks O3 (w3.setCell ⟨nb,1,none⟩ b3) i kv g xs:=⟨b5.row.upd a9 zo zo,b5.len,fun q hq=>(b5.fr q hq).upd a9 zo zo,fun q hq=>(b5.lv q hq).upd a9 zo zo,b5.en⟩
  have e9:=g4.upd a9;have i7:IJ (fun q=>i<=q) O w1 O3 (w3.setCell ⟨nb,1,none⟩ b3):=((g1.mono (fun _ h=>h.elim) zo).trans (Upd.hi a' hi zo)).trans (Upd.hi a9 hi (I7 _));refine zh ?_;refine ae (⟨k4.c,l6.c⟩) ?_;generalize w3.setCell ⟨nb,1,none⟩ b3=w4 at *;have l8:w4.drew.cell? (nA nb 1)=some b3:=i4.cell 1 rfl;have l7:w4.drew.cell? (nA nb 2)=some kv:=i4.cell 2 rfl;have l5:w4.drew.cell? ((adr kv 3 a).add 1)=some (nth xs a).2.1:=f9.f1 e0;have k7:(g.ls++[((k,c,b):Lf)]).length=g.ls.length+1:=by simp
  have s4:∀W,K5 w4.drew W->W.cell? (nA nb 1)=some b3/\W.cell? (nA nb 2)=some kv:=fun W hE=>⟨hE.cell l8,hE.cell l7⟩
  refine Jt zk ?_;refine zh ?_
  refine aL (fun W=>W.cell? (nA nb 1)=some b3/\W.cell? (nA nb 2)=some kv) 23 rfl zk ?_;refine zin (s4 _ (I9 _)) fun zS=>?_
  refine zrm 0 rfl zS rfl ?_;refine zr 1 rfl zS (fun _=>ao rfl) ?_
  refine zrf 2 rfl zS rfl ?_;refine zt 3 rfl zS (fun w1 c7=>RV.ld c7.2 rfl) ?_
  refine zrm 4 rfl zS rfl ?_;refine zrm 5 rfl zS rfl ?_
  refine zr 6 rfl zS (fun _=>ao rfl) ?_;refine zrf 7 rfl zS rfl ?_
  refine zt 8 rfl zS (fun w1 c7=>RV.ld c7.2 rfl) ?_;refine zrm 9 rfl zS rfl ?_
  refine zr 10 rfl zS (fun _=>az j1 J3 (JG _) rfl rfl a rfl e0) ?_;refine zrf 11 rfl zS rfl ?_
  refine zrm 13 rfl zS rfl ?_;refine zr 14 rfl zS (fun _=>ao rfl) ?_
  refine zrf 15 rfl zS rfl ?_;refine zt 16 rfl zS (fun w1 c7=>RV.ld c7.1 rfl) ?_
  refine zr 17 rfl zS (fun _=>bj d8.sl.sh JS rfl) ?_;rw[k7];refine bO 12 18 jJ (enc:=aN) (g.ls.length+1) rfl rfl zk zk zk zk (fun W hE=>KA (hE.cell l5) (Me _) rfl) s4 rfl rfl rfl zd rfl rfl rfl rfl rfl ?_
  intro l' w5 g9 l3;have g0:IJ (fun _=>False) O3 w4 O3 w5:=aa (fun h=>h) O3 ((I9 w4).drew.trans l3);have c9:=f9.upd g0 fun _ _ _ h=>h
  have l0:=i4.upd g0 hi fun h=>h
  have f7:=d8.upd g0 zo fun h=>h
  have i9:=e9.upd g0;refine IF 19 zk rfl ?_;refine aC jJ (c9.lv a e0) i9 g9 (by simp) rfl rfl (by simp) (by simp[I6]) (by simp;omega) (by simp;omega) zo rfl ?_;intro av w6 O6 d7 a0 a4;have d1:=l0.upd a0 hi zo;have i2:=c9.row.upd a0 zo zo;have h':=f7.upd a0 zo zo;refine zh ?_;refine zaf (⟨d1.cell 1 rfl,d1.cell 2 rfl⟩) fun zS=>?_
  refine zr 20 rfl zS (fun _=>az j1 J3 (JG _) rfl rfl a rfl e0) ?_;refine zrf 21 rfl zS rfl ?_
  refine IF 22 zk rfl ?_;refine nG i2 a e0 1 zd (((nth xs a).1,av,(nth xs a).2.2):K3) (K8 _) d7.one zo rfl rfl rfl rfl ?_
  intro w7 i1 e2;have i3:=d1.upd e2 hi zo;have h3:=h'.upd e2 zo zo;refine zh ?_;refine ae (⟨i3.cell 1 rfl,i3.cell 2 rfl⟩) ?_;have d6:∀q,q<xs.length->IX aN 3 1 O6 w7 (i+6+2*q) (nth xs q).1 (g.fr q):=fun q hq=>((c9.fr q hq).upd a0 zo zo).upd e2 zo zo
  have f3:∀q,q<xs.length->q≠a->IX aN 3 1 O6 w7 (i+7+2*q) (nth xs q).2.1 (g.lv q):=fun q hq m5=>((c9.lv q hq).upd a0 zo zo).upd e2 zo zo
  have f6:=d7.upd e2 zo zo;have j8:=h.ks.len;refine Jt zk ?_;refine zh ?_;refine aG rfl (⟨O6,b3,kv,xs.set a ((nth xs a).1,av,(nth xs a).2.2),b8.trans (i7.trans (((g0.mono (fun _ h=>h.elim) zo).trans (Upd.hi a0 hi zo)).trans (Upd.hi e2 hi zo))),a4.upd e2,⟨i3,h3,⟨i1,by rw[I3,iG];exact j8,fun q hq=>?_,fun q hq=>?_,fun q hq=>?_⟩⟩⟩)
  ·rw[I3]at hq;rw[aT e0,mW ha]
   by_cases e:q=a
   ·subst e;rw[if_pos rfl];exact d6 q hq
   rw[if_neg e];exact d6 q hq
  ·rw[I3]at hq;rw[aT e0,mU ha]
   by_cases e:q=a
   ·subst e;rw[if_pos rfl,if_pos rfl];exact f6
   rw[if_neg e,if_neg e];exact f3 q hq e
  rw[I3]at hq;rw[aT e0,Ag ha]
  by_cases e:q=a
  ·subst e;rw[if_pos rfl];exact h.ks.en q hq
  rw[if_neg e];exact h.ks.en q hq
structure NfR(w:ka)(nb:Nat)(se:Bool)(g:Gr)(na ta lv kv:ix)(xs:List K3):Prop where
 c0:w.cell? (nA nb 0)=some (.bool se)
 c1:w.cell? (nA nb 1)=some lv
 c2:w.cell? (nA nb 2)=some kv
 c3:w.cell? (nA nb 3)=some na
 c4:w.cell? (nA nb 4)=some ta
 ls:Sl qG 3 w lv g.ls
 ks:Sl F0 3 w kv xs
 len:xs.length=g.ks.length
 fr:∀k,k<xs.length->Sl aN 1 w (nth xs k).1 (g.fr k)
 lv:∀k,k<xs.length->Sl aN 1 w (nth xs k).2.1 (g.lv k)
 en:∀k,k<xs.length->(nth xs k).2.2=g.en k
section
variable{O:Nat→Nat}{w w':ka}{i nb:Nat}{se:Bool}{g:Gr}{na ta lv kv:ix}{xs:List K3}
theorem NfO.r(h:NfO O w i nb se g na ta lv kv xs):NfR w nb se g na ta lv kv xs:=⟨h.c0,h.c1,h.c2,h.c3,h.c4,h.ls.sl,h.ks.row.sl,h.ks.len,fun k hk=>(h.ks.fr k hk).sl,fun k hk=>(h.ks.lv k hk).sl,h.ks.en⟩
theorem NfR.ext(h:NfR w nb se g na ta lv kv xs)(e:K5 w w'):NfR w' nb se g na ta lv kv xs:=⟨e.cell h.c0,e.cell h.c1,e.cell h.c2,e.cell h.c3,e.cell h.c4,h.ls.ext e,h.ks.ext e,h.len,fun k hk=>(h.fr k hk).ext e,fun k hk=>(h.lv k hk).ext e,h.en⟩
theorem NfR.f0(h:NfR w nb se g na ta lv kv xs){k:Nat}(hk:k<xs.length):w.cell? ((adr kv 3 k).add 0)=some (nth xs k).1:=h.ks.cell (j:=0) hk rfl
theorem NfR.f1(h:NfR w nb se g na ta lv kv xs){k:Nat}(hk:k<xs.length):w.cell? ((adr kv 3 k).add 1)=some (nth xs k).2.1:=h.ks.cell (j:=1) hk rfl
theorem NfR.f2(h:NfR w nb se g na ta lv kv xs){k:Nat}(hk:k<xs.length):w.cell? ((adr kv 3 k).add 2)=some (nI ((g.en k:Nat):Int)):=by rw[<-h.en k hk];exact h.ks.cell (j:=2) hk rfl
end
theorem uP{l:List Nat}{f:List Nat}{j:Nat}(h:j<f.length):dA l (f.drop j)=dA (if l.contains (nth f j)then l else l++[nth f j]) (f.drop (j+1)):=by
 rw[show f.drop j=nth f j::f.drop (j+1)from by rw[aB h];exact List.drop_eq_getElem_cons h,dA]
theorem zE(w:ka)(nb:Nat)(se:Bool)(g:Gr)(na ta lv kv:ix)(xs:List K3)(k M:Nat)(h:NfR w nb se g na ta lv kv xs)(hw:WF g)(hk:k<g.ks.length)(hM:Bd g M)(d8:M<=100000000):
  Kz IW 114 [nP nb,nI (k:Nat)] w fun v w'=>Sl aN 1 w' v (eF g k)/\K5 w w'/\(eF g k).length<=M/\(∀x∈eF g k,x<g.ks.length)/\∀(B:Nat) (O:Nat->Nat),K0 B O w->KW O w' v:=by
 have d5:=h.len;have d9:=hM.ks;refine ID func114 ntmps114 rfl rfl ?_;refine zh ?_;refine bJ jJ (enc:=aN) (aw w) 1 zd k rfl rfl rfl zd rfl ?_;intro v0 w0 O0 a8 d2 d4;refine zh ?_;refine zlp (fun z:Nat×List Nat×ix×(Nat->Nat)×World=>[(0,nP nb),(5,z.2.2.1),(6,nI z.1)]) (fun z=>z.2.2.2.2) (fun z=>z.1<=z.2.1.length/\Rc g k z.1 z.2.1/\IX aN 3 1 z.2.2.2.1 z.2.2.2.2 1 z.2.2.1 z.2.1/\IJ (fun q=>q=1) (fun _=>0) w z.2.2.2.1 z.2.2.2.2/\K0 w.heap.size z.2.2.2.1 z.2.2.2.2/\gK g (g.ks.length-z.1) z.1 z.2.1=eF g k) (fun z=>g.ks.length-z.1) (0,[k],v0,O0,w0) (⟨I5 _,qS hk,a8,d2,d4,rfl⟩) ?_;rintro⟨i,l,b8,O1,w1⟩ ⟨hi,a5,a2,b3,b7,a'⟩;dsimp only at hi a5 a2 b3 b7 a' ⊢;have d6:=fW a5.nd a5.lt;have b':=a2.sl;refine zh ?_;refine zC ?_ ?_
 ·intro a6;replace a6:i<l.length:=dT a6;have hm:=a5.lt _ (aM a6);have b2:nth l i<xs.length:=zo;have d7:=hM.fr (nth l i);obtain⟨d,hd⟩:∃d,g.ks.length-i=d+1:=⟨g.ks.length-i-1,zo⟩
  rw[hd,gK,if_pos a6]at a';have b1:=h.ext b3.ext;have c2:w1.drew.cell? (nA nb 2)=some kv:=b1.c2;have f0:w1.drew.cell? ((adr kv 3 (nth l i)).add 0)=some (nth xs (nth l i)).1:=b1.f0 b2;have m1:w1.drew.cell? (adr b8 1 i)=some (nI ((nth l i:Nat):Int)):=by have:=b'.cell (j:=0) a6 rfl;rwa[ay]at this
  have c':=(b1.fr _ b2).drew;refine zh ?_;refine WC.still zk zk ?_;refine zh ?_;refine zwH (az b1.ks.sh J3 (JG _) rfl rfl (nth l i) rfl b2) ?_;refine zwH (bj c'.sh I8 rfl) ?_;refine WS.nil ?_;refine zh ?_;refine zlp (fun y:Nat×List Nat×ix×(Nat->Nat)×World=>[(0,nP nb),(5,y.2.2.1),(6,nI i),(27,(nth xs (nth l i)).1),(28,nI (g.fr (nth l i)).length),(29,nI y.1)]) (fun y=>y.2.2.2.2) (fun y=>y.1<=(g.fr (nth l i)).length/\y.2.1.length<=l.length+y.1/\IX aN 3 1 y.2.2.2.1 y.2.2.2.2 1 y.2.2.1 y.2.1/\IJ (fun q=>q=1) (fun _=>0) w y.2.2.2.1 y.2.2.2.2/\K0 w.heap.size y.2.2.2.1 y.2.2.2.2/\dA y.2.1 ((g.fr (nth l i)).drop y.1)=dA l (g.fr (nth l i))) (fun y=>(g.fr (nth l i)).length-y.1) (0,l,b8,O1,w1.drew) (⟨I5 _,I7 _,a2.drew,b3.drew,b7.drew,rfl⟩) ?_;rintro⟨j,l2,b5,O2,w2⟩ ⟨hj,c9,a0,b0,b4,a1⟩;dsimp only at hj c9 a0 b0 b4 a1 ⊢;have c7:=h.ext b0.ext;have c6:=a0.sl;have d0:=c7.fr _ b2;refine zh ?_;refine zC ?_ ?_
  ·intro a3;replace a3:j<(g.fr (nth l i)).length:=dT a3;rw[uP a3]at a1;have m2:w2.cell? (adr (nth xs (nth l i)).1 1 j)=some (nI ((nth (g.fr (nth l i)) j:Nat):Int)):=by have:=d0.cell (j:=0) a3 rfl;rwa[ay]at this
   refine zh ?_;refine zc call144 (qH l2 (nth (g.fr (nth l i)) j) b5 w2 c6) ?_
   rintro v w9 ⟨rfl,b9⟩;rw[b9];clear b9 w9;refine zh ?_
   cases hc:l2.contains (nth (g.fr (nth l i)) j)with
   |true=>
    rw[hc,if_pos rfl]at a1;refine zFH rfl rfl ?_;refine zxd (j+1,l2,b5,O2,w2) (⟨a3,by dsimp only;omega,a0,b0,b4,a1⟩)
   |false=>
    rw[hc,if_neg zd]at a1;refine zTH rfl rfl ?_;refine KY jJ a0 b4 ((nth (g.fr (nth l i)) j)) (fun _=>rfl) rfl rfl rfl (by simp[I6]) zo zo zo zd rfl rfl ?_;intro c5 w3 O3 a7 d1 d3;refine zh ?_;refine zxd (j+1,l2++[nth (g.fr (nth l i)) j],c5,O3,w3) (⟨a3,by dsimp only;simp;omega,a7,b0.trans d1,d3,a1⟩)
  intro a9;replace a9:¬j<(g.fr (nth l i)).length:=dF a9;rw[KN zo,dA]at a1;subst a1;have a4:=a5.step hw a6;have c8:=fW a4.nd a4.lt;obtain⟨s,hs⟩:=iP (g.fr (nth l i)) l;refine zh ?_;refine zxd (i+1,dA l (g.fr (nth l i)),b5,O2,w2) (⟨by dsimp only;rw[hs];simp;omega,a4,a0,b0,b4,by dsimp only;rw[show g.ks.length-(i+1)=d from by omega];exact a'⟩)
 intro b6;replace b6:¬i<l.length:=dF b6;have e:gK g (g.ks.length-i) i l=l:=by
  cases hd:g.ks.length-i with
  |zero=>rfl
  |succ d=>rw[gK,if_neg b6]
 rw[e]at a';rw[<-a'];refine zh ?_;refine af rfl rfl (⟨b',b3.ext,zo,a5.lt,fun B O hR=>a2.free zd b7 hR⟩)
abbrev kvI(n:Int):ix:=nI n
abbrev tvU(n:Nat):ix:=.int .u64 (n:Int)
theorem oZ:Mk IW 3 kvI:=KeyL.int JP
theorem BB{g:Gr}{n:Nat}(he:∀k,g.en k<=n){b:Nat}(hb:b<2^n)(k:Nat):fH g b k<2^n:=by
 unfold fH
 split
 ·exact hb
 rename_i h;have:=he k;exact Kd hb (L6 zd zo)
theorem jL{g:Gr}{n:Nat}(he:∀k,g.en k<=n):∀(l:List Nat) (b:Nat),b<2^n->l.foldl (fH g) b<2^n
 |[],_,hb=>hb
 |k::l,_,hb=>jL he l _ (BB he hb k)
theorem vH(B:Nat)(O:Nat->Nat)(w:ka)(i nb:Nat)(se:Bool)(g:Gr)(nr tr:Nat)(lv kv:ix)(xs:List K3)(l1:List (Int×ix))(l2:List (Int×Nat))(p:Int)(k M:Nat)(hi:2<i)(hR:K0 B O w)(h:NfO O w i nb se g (.map (some nr)) (.map (some tr)) lv kv xs)(e7:Jl kvI id O w 1 nr l1)(e6:Jl kvI tvU O w 2 tr l2) 
  (hw:WF g) (hk:k<g.ks.length) (hM:Bd g M) (h5:M<=1000000) (he:∀q,g.en q<=40) :
  Kz IW 87 [nP nb,nI p,nI (k:Nat)] w fun _ w'=>∃v,IJ (fun q=>q=1\/q=2) O w O w'/\Jl kvI id O w' 1 nr (cx l1 p v)/\Jl kvI tvU O w' 2 tr (cx l2 p ((eF g k).foldl (fH g) 0))/\Sl aN 1 w' v ((eF g k).flatMap g.lv)/\KW O w' v:=by
 obtain⟨T0,h4,e1⟩:=hR.bound;obtain⟨T,h1⟩:∃T,T=T0+10+i+2*g.ks.length:=⟨_,rfl⟩
 have hT:∀b,O b<T:=fun b=>by have:=e1 b;omega
 have f6:=h.ks.len;have f':=e7.tag;have f9:=e6.tag;have f8:=h.r;refine ID func87 ntmps87 rfl rfl ?_;refine zh ?_;refine zc call114 (zE w nb se g _ _ lv kv xs k M f8 hw hk hM zo) ?_;rintro rv w1 ⟨e5,f5,g7,c7,f7⟩;generalize eF g k=rl at *;have g3:IJ (fun q=>q=T) O w O w1:=aa zo O f5;have g2:=f7 B O hR;have h6:=hM.ks;have b2:∀q,q<rl.length->nth rl q<xs.length:=fun q hq=>by rw[f6];exact c7 _ (aM hq)
 refine zvH (bj e5.sh I8 rfl) ?_;refine zlp (fun z:Nat×ix×(Nat->Nat)×World=>[(0,nP nb),(1,nI p),(6,z.2.1),(7,.int .u64 (((rl.take z.1).foldl (fH g) 0:Nat):Int)),(13,rv),(14,nI rl.length),(15,nI z.1)]) (fun z=>z.2.2.2) (fun z=>z.1<=rl.length/\IX aN 3 1 z.2.2.1 z.2.2.2 T z.2.1 ((rl.take z.1).flatMap g.lv)/\((rl.take z.1).flatMap g.lv).length<=z.1*1000000/\IJ (fun q=>q=T) O w z.2.2.1 z.2.2.2/\K0 B z.2.2.1 z.2.2.2/\Sl aN 1 z.2.2.2 rv rl/\KW z.2.2.1 z.2.2.2 rv) (fun z=>rl.length-z.1) (0,nS,O,w1) (⟨I5 _,J7 _ _ _ _ _ _,by simp,g3,hR.ext f5,e5,g2⟩) ?_
 rintro⟨q,v2,O2,w2⟩ ⟨hq,a0,g0,a9,b',a3,d8⟩;dsimp only at hq a0 g0 a9 b' a3 d8 ⊢;have h2:=h.updT a9 zo (fun r _ hr=>zo);have a':=h2.r;have c2:=a'.c2;have g6:=a0.sl;refine zh ?_;refine zC ?_ ?_
 ·intro a5;replace a5:q<rl.length:=dT a5;have b3:=b2 q a5;have m2:w2.cell? (adr rv 1 q)=some (nI ((nth rl q:Nat):Int)):=by have:=a3.cell (j:=0) a5 rfl;rwa[ay]at this
  have f1:=a'.f1 b3;have g9:=hM.lv (nth rl q);refine zh ?_;refine zvH (az a'.ks.sh J3 (JG _) rfl rfl (nth rl q) rfl b3) ?_;refine cF jJ a0 b' (a'.lv _ b3) rfl rfl (by simp) (by simp[I6]) zo zo zo rfl ?_;intro v3 w3 O3 a2 e0 f4;have a8:=a9.trans e0;have h3:=h.updT a8 zo (fun r _ hr=>zo);have c8:=h3.r;have b1:=a3.upd d8 e0;have e9:=d8.upd e0;have f2:=c8.f2 b3;have h7:=c8.c2;have g':=he (nth rl q);have e4:rl.take (q+1)=rl.take q++[nth rl q]:=aI a5;have e8:(rl.take (q+1)).foldl (fH g) 0=fH g ((rl.take q).foldl (fH g) 0) (nth rl q):=by rw[e4,Kb];rfl
  have b8:(rl.take (q+1)).flatMap g.lv=(rl.take q).flatMap g.lv++g.lv (nth rl q):=by rw[e4];simp
  have h0:=jL he (rl.take q) 0 zd;refine zh ?_;refine zvH (az c8.ks.sh J3 (JG _) rfl rfl (nth rl q) rfl b3) ?_;refine zC ?_ ?_
  ·intro a4;have a4:g.en (nth rl q)≠0:=dT a4;have g8:2^(g.en (nth rl q)-1)<2^40:=L6 zd zo;refine zh ?_;rw[show((g.en (nth rl q):Nat):Int)-1=((g.en (nth rl q)-1:Nat):Int)from by omega];refine zv (uY (a:=1) (b:=g.en (nth rl q)-1) rfl rfl rfl rfl (by show _<=64;omega) (by show _<=(18446744073709551615:Int);omega)) ?_;rw[L7];refine zvH (nJ (a:=(rl.take q).foldl (fH g) 0) (b:=2^(g.en (nth rl q)-1)) rfl rfl rfl rfl (by show _<=(18446744073709551615:Int);omega) (by show _<=(18446744073709551615:Int);omega)) ?_;have a6:(rl.take (q+1)).foldl (fH g) 0=(rl.take q).foldl (fH g) 0 ||| 2^(g.en (nth rl q)-1):=by rw[e8,fH,if_neg a4]
   rw[<-a6];refine zxd (q+1,v3,O3,w3) (⟨a5,by dsimp only;rw[b8];exact a2,by dsimp only;rw[b8,IE];omega,a8,f4,b1,e9⟩)
  intro hz;have hz:g.en (nth rl q)=0:=dF hz;refine zh ?_;have a6:(rl.take (q+1)).foldl (fH g) 0=(rl.take q).foldl (fH g) 0:=by rw[e8,fH,if_pos hz]
  rw[<-a6];refine zxd (q+1,v3,O3,w3) (⟨a5,by dsimp only;rw[b8];exact a2,by dsimp only;rw[b8,IE];omega,a8,f4,b1,e9⟩)
 intro g1;obtain rfl:q=rl.length:=dF g1;rw[IG]at a0 ⊢;have hf:KW O w2 v2:=Mm a0 zo hT b' a9;have d7:=e7.upd a9 zd zo;have d1:=e6.upd a9 zd zo;have d3:w2.drew.cell? (nA nb 3)=some (.map (some nr)):=a'.c3;have d4:w2.drew.cell? (nA nb 4)=some (.map (some tr)):=a'.c4;have d9:IJ (fun _=>False) O2 w2 O2 w2.drew:=aa (fun h=>h) O2 (I9 w2).drew;have d6:=d7.upd d9 zd fun h=>h
 have d0:=d1.upd d9 zd fun h=>h
 have b0:∀W (S:Nat->Prop),IJ S O2 w2.drew O2 W->¬S i->W.cell? (nA nb 3)=some (.map (some nr))/\W.cell? (nA nb 4)=some (.map (some tr)):=fun W S u hS=>
  have hb:=h2.blk.drew.upd u zo hS
  ⟨hb.cell 3 rfl,hb.cell 4 rfl⟩
 refine zh ?_;refine aL (fun W=>W.cell? (nA nb 3)=some (.map (some nr))/\W.cell? (nA nb 4)=some (.map (some tr))) 18 rfl zk ?_
 refine zin ⟨d3,d4⟩ fun zS=>?_
 refine zrm 0 rfl zS rfl ?_;refine zr 1 rfl zS (fun _=>ao rfl) ?_
 refine zrf 2 rfl zS rfl ?_;refine zt 3 rfl zS (fun w1 c5=>RV.ld c5.1 rfl) ?_
 refine zrm 4 rfl zS rfl ?_;refine zrm 5 rfl zS rfl ?_
 refine zr 6 rfl zS (fun _=>ao rfl) ?_;refine zrf 7 rfl zS rfl ?_
 refine zt 8 rfl zS (fun w1 c5=>RV.ld c5.2 rfl) ?_;refine zrm 9 rfl zS rfl ?_
 refine zrm 10 rfl zS rfl ?_;refine zrm 11 rfl zS rfl ?_
 refine IF 12 zk rfl ?_;refine lY d6 JT oZ zd (JO _) p v2 rfl rfl rfl rfl ?_
 intro w4 c4 b4 e3 b5;refine zh ?_;refine ae (b0 _ _ b5 zo) ?_;refine zr 13 rfl (b0 _ _ b5 zo) (fun _=>MA rfl rfl) ?_;refine IF 14 zk rfl ?_;refine jg e3 rfl rfl rfl rfl ?_;intro w5 d5 b9;have c':=d0.upd b9 zd zd;refine zh ?_;refine ae (b0 _ _ b9 zo) ?_;refine IF 15 zk rfl ?_;refine lY c' Mx oZ zd (LK _) p (rl.foldl (fH g) 0) rfl rfl rfl rfl ?_;intro w6 c6 b6 e2 d';have hU6e:IJ (fun q=>q=1\/q=2) O2 w2.drew O2 w6:=(b9.mono (fun _ h=>.inl h) zo).trans (d'.mono (fun _ h=>.inr h) zo);refine zh ?_;refine ae (b0 _ _ hU6e zo) ?_;refine zr 16 rfl (b0 _ _ hU6e zo) (fun _=>MA rfl rfl) ?_;refine IF 17 zk rfl ?_;refine jg e2 rfl rfl rfl rfl ?_;intro w7 c9 f3;have d2:=d5.upd f3 zd zd;have b7:IJ (fun q=>q=1\/q=2) O2 w2.drew O2 w7:=(b9.mono (fun _ h=>.inl h) zo).trans (f3.mono (fun _ h=>.inr h) zo);refine zh ?_;refine ae (b0 _ _ b7 zo) ?_;have a7:=(d9.mono (S':=fun q=>q=1\/q=2) (fun _ h=>h.elim) zo).trans b7;have e':=(a9.mono (S':=fun q=>q=T\/q=1\/q=2) (fun _ h=>.inl h) zo).trans (a7.mono (fun _ h=>.inr h) zo)
 have g4:IJ (fun q=>q=1\/q=2) O w O w7:=Upd.fgt e' (fun b h=>by
  rcases h with h|h
  ·have:=hT b;omega
  exact h) zo
 have a1:=a0.upd a7 zo zo;have g5:=b'.upd a7;refine Jt zk ?_;refine aG rfl (⟨v2,g4,d2.fgt f',c9.fgt f9,a1.sl,Mm a1 zo hT g5 e'⟩)
theorem gT:∀(l:List Nd) (i:Nat),i<l.length->aU (l.take (i+1))=aU (l.take i)+cV (nth l i)
 |[],i,h=>absurd h (I1 i)
 |t::r,0,_=>by rw[ax];simp[aU]
 |t::r,i+1,h=>by
  have:=gT r i (by simpa using h);rw[bA];simp only[List.take_succ_cons,aU];omega
mutual
theorem lu:∀(t:Nd),cV t<=nsz t
 |.mk k c l=>by
  have:=iF l
  simp only[cV,nsz]
  split<;>omega
theorem iF:∀(l:List Nd),aU l<=dt l
 |[]=>by simp[aU]
 |t::r=>by
  have h1:=lu t
  have h2:=iF r
  simp only[aU,dt]
  omega
end
theorem oT:∀(n:Nat),n<=1000000->∀(t:Nd),nsz t<=n->∀(x:N3) (w:ka),Nt (fun _=>0) w t x->Kz IW 83 [nv x] w fun v w'=>v=nI ((cV t:Nat):Int)/\K5 w w'
 |0,_,t,hn=>by have:=dD t;omega
 |n+1,hn6,.mk k c l,hn=>by
  intro x w h;have ih:=oT n zo;have b5:=h.ones;obtain⟨ys,b3,hf,a7,a4⟩:=h.kids;simp only[Nd.kids]at a7 a4;simp only[nsz]at hn;generalize x.2.2=sv at *;subst b5;simp only[Nd.kind,Nd.cls];have d1:=eH l;have d2:=iF l;refine ID func83 ntmps83 rfl rfl ?_;refine zh ?_;refine aF (aw w) 1 zo rfl rfl ?_;intro xb w1 O1 b0 d4 d6 a';have c0:w1.cell? (nA xb 0)=some (nI k):=b0.cell 0 rfl;have c2:w1.cell? (nA xb 2)=some sv:=b0.cell 2 rfl;have a6:=b3.ext a';have a2:=a';clear a';refine zh ?_
  by_cases hl:l=[]
  ·subst hl;have b4:ys.length=0:=a7.symm;refine au (d:=10) rfl (b':=true) ((by rw[b4];rfl)) ?_;refine zh ?_
   by_cases h9:k=9
   ·subst h9;have a0:cV (.mk 9 c [])=aU []:=by rw[cV,if_neg (by rintro⟨_,e⟩;exact e rfl)]
    refine zFH rfl rfl ?_;refine zlp (fun z:Nat×ka=>[(3,nI ((aU (([]:List Nd).take z.1):Nat):Int)),(16,sv),(17,nI ys.length),(18,nI z.1)]) (fun z=>z.2) (fun z=>z.1<=([]:List Nd).length/\K5 w1 z.2) (fun z=>([]:List Nd).length-z.1) (0,w1) (⟨I5 _,I9 _⟩) ?_
    rintro⟨q,w2⟩ ⟨hq,a1⟩;dsimp only at hq a1 ⊢;have a5:=a6.ext a1;have b6:q=0:=by simpa using hq
    refine zh ?_;refine zC ?_ ?_
    ·intro a3;exact absurd (of_decide_eq_true a3) zo
    intro b1;subst b6;refine zh ?_;refine af rfl rfl (⟨by rw[a0,List.take_nil],a2.trans a1⟩)
   have a0:cV (.mk k c [])=1:=by rw[cV,if_pos ⟨rfl,h9⟩]
   rw[a0];refine zTH rfl ((by simpa using h9)) ?_;refine af rfl rfl (⟨rfl,a2⟩)
  have a0:cV (.mk k c l)=aU l:=by rw[cV,if_neg (by rintro⟨e,_⟩;exact hl (by simpa using e))]
  have b7:=List.length_pos_iff.2 hl;refine au (d:=10) rfl (b':=false) ((by rw[beq_eq_false_iff_ne];omega)) ?_;refine zh ?_;refine zFH rfl rfl ?_;refine zlp (fun z:Nat×ka=>[(3,nI ((aU (l.take z.1):Nat):Int)),(16,sv),(17,nI ys.length),(18,nI z.1)]) (fun z=>z.2) (fun z=>z.1<=l.length/\K5 w1 z.2) (fun z=>l.length-z.1) (0,w1) (⟨I5 _,I9 _⟩) ?_;rintro⟨q,w2⟩ ⟨hq,a1⟩;dsimp only at hq a1 ⊢;have a5:=a6.ext a1;have c9:=cm l q;refine zh ?_;refine zC ?_ ?_
  ·intro a3;replace a3:q<l.length:=dT a3;have a8:=(a4 q zo).ext (a2.trans a1);have c5:=a8.one;have d0:=cg l q a3;have d3:=lu (nth l q);have b9:=iF (l.take q);have c':=dO l q a3;have b8:=cm l (q+1);refine zh ?_;refine zv (ah (us:=aW (nth ys q)) (fun j u hu=>a5.cell zo hu) (J8 _) (IL _) rfl) ?_;refine ar (aw w2) 1 zo (K7 _) rfl ?_;intro yb w3 O3 a9 c7 d5 d7;refine zsb (us:=#[nI (nth ys q).1,nI (nth ys q).2.1,(nth ys q).2.2]) a9 (IL _) (bW c5) ?_;have b2:K5 w2 (w3.setRow yb #[nI (nth ys q).1,nI (nth ys q).2.1,(nth ys q).2.2]):=(c7.trans (IS zd a9.tag rfl)).ext;have c6:=a9.setRow (us:=#[nI (nth ys q).1,nI (nth ys q).2.1,(nth ys q).2.2]);generalize w3.setRow yb #[nI (nth ys q).1,nI (nth ys q).2.1,(nth ys q).2.2]=w4 at *;refine zh ?_;refine zv (ah (us:=aW (nth ys q)) c6.cellsAdd (J8 _) (IL _) rfl) ?_;refine zc call83 (ih (nth l q) zo (nth ys q) w4 (a8.ext b2)) ?_;rintro v w5 ⟨rfl,c8⟩;refine zh ?_;rw[show((aU (l.take q):Nat):Int)+((cV (nth l q):Nat):Int)=((aU (l.take (q+1)):Nat):Int)from by rw[gT l q a3];simp];refine zxd (q+1,w5) (⟨a3,(a1.trans b2).trans c8⟩)
  intro b1;obtain rfl:q=l.length:=dF b1;rw[IG];refine zh ?_;refine af rfl rfl (⟨by rw[a0],a2.trans a1⟩)
theorem yL(k c m:Int)(b:Nat)(w:ka):Kz IW 145 [.agg #[nI k,nI c,nI (b:Nat)],nI m] w fun v w'=>v=.bool (cY k c m)/\K5 w w':=by
 refine ID func145 ntmps145 rfl rfl ?_;refine zh ?_
 refine aF (aw w) 1 zo rfl rfl ?_;intro xb w1 O1 a4 a5 a6 a3;have c0:w1.cell? (nA xb 0)=some (nI k):=a4.cell 0 rfl;have c1:w1.cell? (nA xb 1)=some (nI c):=a4.cell 1 rfl;obtain⟨cl,a0⟩:∃cl,cl=(decide (0<=m)&&decide (m<36)):=⟨_,rfl⟩
 refine zh ?_;refine bz (fun W=>W=w1) (decide (m<36)) 2 (rfl) rfl rfl rfl rfl rfl ?_ ?_
 ·intro a1;refine zh ?_;refine nE 8 3 (rfl) a1
 rintro w9 rfl;rw[<-a0];refine zh ?_
 by_cases h0:k=0
 ·have hM:cY k c m=(cl&&(m==c)):=by unfold cY;rw[if_pos h0,a0]
  rw[hM];refine zTH rfl ((by simpa using h0)) ?_;refine bz (fun W=>W=w9) ((m==c)) 4 (rfl) rfl rfl rfl rfl rfl ?_ ?_
  ·intro a2;refine zh ?_;refine nE 17 5 (rfl) a2
  rintro w8 rfl;refine zh ?_;refine af rfl rfl (⟨rfl,a3⟩)
 refine zFH rfl ((by simpa using h0)) ?_
 by_cases h1:k=1
 ·have hM:cY k c m=cl:=by unfold cY;rw[if_neg h0,if_pos h1,a0]
  rw[hM];refine zTH rfl ((by simpa using h1)) ?_;refine af rfl rfl (⟨rfl,a3⟩)
 refine zFH rfl ((by simpa using h1)) ?_
 by_cases h2:k=2
 ·have hM:cY k c m=(cl&&(m != c)):=by unfold cY;rw[if_neg h0,if_neg h1,if_pos h2,a0]
  rw[hM];refine zTH rfl ((by simpa using h2)) ?_;refine bz (fun W=>W=w9) ((m != c)) 4 (rfl) rfl rfl rfl rfl rfl ?_ ?_
  ·intro a2;refine zh ?_;refine nE 29 5 (rfl) a2
  rintro w8 rfl;refine zh ?_;refine af rfl rfl (⟨rfl,a3⟩)
 have hM:cY k c m=(m==36):=by unfold cY;rw[if_neg h0,if_neg h1,if_neg h2]
 rw[hM];refine zFH rfl ((by simpa using h2)) ?_;refine af rfl rfl (⟨rfl,a3⟩)
structure NfD(w:ka)(nb:Nat)(se:Bool)(g:Gr):Prop where
 ex:∃nr tr lv kv xs l1 l2,NfR w nb se g (.map (some nr)) (.map (some tr)) lv kv xs/\Jl kvI id (fun _=>0) w 0 nr l1/\Jl kvI tvU (fun _=>0) w 0 tr l2/\
  (∀p:Nat,p<=g.ls.length->∃v,bm l1 (p:Int)=some v/\Sl aN 1 w v (cC g p))/\∀p:Nat,p<=g.ls.length->bm l2 (p:Int)=some (nU g p)
theorem nL{κ ν:Type}{kv:κ->ix}{vv:ν->ix}{w w':ka}{r:Nat}{l:List (κ×ν)}(h:Jl kv vv (fun _=>0) w 0 r l)(e:K5 w w'):Jl kv vv (fun _=>0) w' 0 r l:=by
 obtain⟨es,c,h1,h2⟩:=h.blk;have e1:=e.block r (bt h1);exact⟨⟨es,c,by rw[e1];exact h1,h2⟩,rfl,fun a0 c' h'=>h.born a0 c' (by rw[<-e1];exact h')⟩
theorem NfD.ext{w w':ka}{nb:Nat}{se:Bool}{g:Gr}(h:NfD w nb se g)(e:K5 w w'):NfD w' nb se g:=by
 obtain⟨nr,tr,lv,kv,xs,l1,l2,h1,h2,h3,h4,h5⟩:=h.ex;exact⟨nr,tr,lv,kv,xs,l1,l2,h1.ext e,nL h2 e,nL h3 e,fun p hp=>by obtain⟨v,a,b⟩:=h4 p hp;exact⟨v,a,b.ext e⟩,h5⟩
theorem A4(w:ka)(nb:Nat):Kz IW 89 [nP nb] w fun v w'=>Sl encI 1 w' v [0]/\K5 w w'/\∀(B:Nat) (O:Nat->Nat),K0 B O w->KW O w' v:=by
 refine ID func89 ntmps89 rfl rfl ?_;refine zh ?_
 refine zvH (fy (q:=some ⟨nb,0,none⟩) Kj rfl rfl) ?_;refine zFH rfl rfl ?_
 refine bJ jJ (enc:=encI) (aw w) 1 zd (0:Int) rfl rfl rfl zd rfl ?_;intro v0 w0 O0 a0 a1 a2;refine zh ?_
 refine af rfl rfl (⟨a0.sl,a1.ext,fun B O hR=>a0.free zd a2 hR⟩)
def rh(g:Gr)(m:Int)(l:List Nat):List Int:=(l.filter fun j=>cY (nth g.ls (j-1)).1 (nth g.ls (j-1)).2.1 m).map fun(j:Nat)=>(j:Int)
theorem AF{g:Gr}{m:Int}{l:List Nat}{j:Nat}(h:j<l.length):rh g m (l.take (j+1))=rh g m (l.take j)++if cY (nth g.ls (nth l j-1)).1 (nth g.ls (nth l j-1)).2.1 m=true then [((nth l j:Nat):Int)]else []:=by
 unfold rh;rw[aI h,JF,Je,LD]
 split<;>rfl
theorem Cp(g:Gr)(m:Int)(l:List Nat):(rh g m l).length<=l.length:=by unfold rh;rw[Jv];exact JW _ _
theorem step_ret(w:ka)(nb:Nat)(se:Bool)(g:Gr)(s:List Int)(sv:ix)(m:Int)(h:NfD w nb se g)(hs:Sl encI 1 w sv s)(hw:WF g)(h0:0 < g.ks.length)(ht:Tot g)(hp:inP g s)(hsl:s.length ≤ 1000)(hll:g.ls.length ≤ 999):
  Kz IW 116 [nP nb, sv, nI m] w fun v w' => Sl encI 1 w' v (cP se g s m) ∧ K5 w w' ∧ ∀(B:Nat) (O:Nat → Nat), K0 B O w → KW O w' v := by
 have hbnd := h
 obtain⟨nr, tr, lv, kv, xs, l1, l2, hr, hm1, hm2, hn1, hn2⟩ := h.ex
 have hraw:∀q, q ≤ s.length → ((if se = true then [(0:Int)]else []) ++ (s.take q).flatMap fun p => rh g m (cC g p.toNat)).length ≤ 1 + q * 999 := fun q hq => by
  have h1 := Dx (se := se) hw h0 ht (m := m) (s := s.take q) fun x hx => hp x (L3 hx)
  have h2:(s.take q).length * g.ls.length ≤ q * 999 := Nat.mul_le_mul (by simp; omega) hll
  exact Ke h1 (by omega)
 refine ID func116 ntmps116 rfl rfl ?_
 refine J6 ?_
 refine IR ?_
 refine zv (JQ rfl) ?_
 refine IV ?_
 refine ai ?_
 refine J6 ?_
 refine J6 ?_
 refine IR ?_
 refine zv (J4 rfl) ?_
 refine zv (fy (q := some ⟨nb, 0, none⟩) Kj rfl rfl) ?_
 refine IV ?_
 refine ai ?_
 refine aR rfl rfl ?_
 refine KZ ?_
 refine ai ?_
 refine J6 ?_
 refine IR ?_
 refine zv (JQ rfl) ?_
 refine IV ?_
 refine ai ?_
 refine J6 ?_
 refine J6 ?_
 refine IR ?_
 refine zv (J4 rfl) ?_
 refine zv (ao rfl) ?_
 refine zv (RV.fa rfl) ?_
 refine zv (RV.ld hr.c0 rfl) ?_
 refine IV ?_
 refine ai ?_
 refine kM (fun z:ix×(Nat → Nat)×World => [(0, nP nb), (1, sv), (2, nI m), (7, z.1)]) (fun z:ix×(Nat → Nat)×World => z.2.2) (fun z:ix×(Nat → Nat)×World => IX encI 3 1 z.2.1 z.2.2 1 z.1 (if se = true then [0]else []) ∧ IJ (fun q => q = 1) (fun _ => 0) w z.2.1 z.2.2 ∧ K0 w.heap.size z.2.1 z.2.2) ?_ ?_
 ·intro hN
  refine zC ?_ ?_
  ·intro hse
   have e0:([]:List Int).length = 0 := rfl
   refine IR ?_
   refine zv (J4 rfl) ?_
   refine KY jJ (J7 encI 3 1 (fun _ => 0) w 1) (aw w) ((0:Int)) (fun _ => rfl) rfl rfl rfl (by simp[I6]) (by omega) (by omega) (by omega) (by decide) rfl rfl ?_
   intro v1 w1 O1 hrow1 hU1 hR1
   refine zv (JQ rfl) ?_
   refine IV ?_
   exact eA (hN ((v1, O1, w1)) (⟨by rw[if_pos hse]; exact hrow1, hU1, hR1⟩)) ⟨rfl, rfl, rfl, rfl, trivial⟩ rfl
  ·intro hse
   refine KZ ?_
   exact eA (hN ((nS, fun _ => 0, w)) (⟨by rw[if_neg (by rw[hse]; decide)]; exact J7 _ _ _ _ _ _, Jk (by decide) _ _, aw w⟩)) ⟨rfl, rfl, rfl, rfl, trivial⟩ rfl
 rintro⟨v1, O1, w1⟩ ⟨hrow1, hU1, hR1⟩
 dsimp only at hrow1 hU1 hR1 ⊢
 obtain⟨hd, hhd⟩:∃hd, hd = (if se = true then [(0:Int)]else []) := ⟨_, rfl⟩
 rw[← hhd]at hrow1 hraw
 refine ai ?_
 refine J6 ?_
 refine J6 ?_
 refine IR ?_
 refine zv (J4 rfl) ?_
 refine zv (bj hs.sh I8 rfl) ?_
 refine zv (J4 rfl) ?_
 refine IV ?_
 refine ai ?_
 refine Lj ?_
 refine zlp (fun z:Nat×ix×(Nat → Nat)×World => [(0, nP nb), (2, nI m), (7, z.2.1), (21, sv), (22, nI s.length), (23, nI z.1)]) (fun z => z.2.2.2) (fun z => z.1 ≤ s.length ∧ IX encI 3 1 z.2.2.1 z.2.2.2 1 z.2.1 (hd ++ (s.take z.1).flatMap fun p => rh g m (cC g p.toNat)) ∧ IJ (fun q => q = 1) (fun _ => 0) w z.2.2.1 z.2.2.2 ∧ K0 w.heap.size z.2.2.1 z.2.2.2) (fun z => s.length - z.1) (0, v1, O1, w1) (⟨I5 _, by simpa using hrow1, hU1, hR1⟩) ?_
 rintro⟨q, v2, O2, w2⟩ ⟨hq, hrow2, hU2, hR2⟩
 dsimp only at hq hrow2 hU2 hR2 ⊢
 have hlen2 := hraw q hq
 refine J6 ?_
 refine IR ?_
 refine zv (RV.lss rfl rfl) ?_
 refine IV ?_
 refine ai ?_
 refine J6 ?_
 refine zC ?_ ?_
 ·intro hlt
  replace hlt:q < s.length := by have := of_decide_eq_true hlt; omega
  have hpq := hp _ (aM hlt)
  obtain⟨pn, hpn⟩:∃pn:Nat, nth s q = (pn:Int) := ⟨(nth s q).toNat, by omega⟩
  have hpl:pn ≤ g.ls.length := by have := hpq.2; rw[hpn]at this; simpa using this
  obtain⟨nv1, hnv1, hsn⟩ := hn1 pn hpl
  have hnl := vA hw ht (tY hw h0 hpl)
  have hs2 := hs.ext hU2.ext
  have hm12 := nL hm1 hU2.ext
  have m2:w2.cell? (adr sv 1 q) = some (nI (nth s q)) := by have := hs2.cell (j := 0) hlt rfl; rwa[ay]at this
  rw[hpn]at m2
  have hr2 := hr.ext hU2.ext
  have hsn2 := hsn.ext hU2.ext
  have c3 := hr2.c3
  refine KZ ?_
  refine ai ?_
  refine J6 ?_
  refine Lj ?_
  refine J6 ?_
  refine IR ?_
  refine zv (JV (by first | exact hs2) I8 (Jr _) rfl rfl _ rfl (by omega)) ?_
  refine zv (RV.ld m2 rfl) ?_
  refine zv (JQ rfl) ?_
  refine IV ?_
  refine ai ?_
  refine J6 ?_
  refine IR ?_
  refine zv (J4 rfl) ?_
  refine zv (ao rfl) ?_
  refine zv (RV.fa rfl) ?_
  refine zv (RV.ld c3 rfl) ?_
  refine zv (J4 rfl) ?_
  refine zv (KP (u := nv1) hm12 JT oZ (JO _) (pn:Int) rfl rfl rfl (by rw[hnv1]; rfl)) ?_
  refine zv (bj hsn.sh I8 rfl) ?_
  refine zv (J4 rfl) ?_
  refine IV ?_
  refine ai ?_
  refine Lj ?_
  refine zlp (fun y:Nat×ix×(Nat → Nat)×World => [(0, nP nb), (2, nI m), (7, y.2.1), (21, sv), (22, nI s.length), (23, nI q), (32, nv1), (33, nI (cC g pn).length), (34, nI y.1)]) (fun y => y.2.2.2) (fun y => y.1 ≤ (cC g pn).length ∧ IX encI 3 1 y.2.2.1 y.2.2.2 1 y.2.1 ((hd ++ (s.take q).flatMap fun p => rh g m (cC g p.toNat)) ++ rh g m ((cC g pn).take y.1)) ∧ IJ (fun q => q = 1) (fun _ => 0) w y.2.2.1 y.2.2.2 ∧ K0 w.heap.size y.2.2.1 y.2.2.2) (fun y => (cC g pn).length - y.1) (0, v2, O2, w2) (⟨I5 _, by simpa[rh]using hrow2, hU2, hR2⟩) ?_
  rintro⟨j, v3, O3, w3⟩ ⟨hj, hrow3, hU3, hR3⟩
  dsimp only at hj hrow3 hU3 hR3 ⊢
  have hsn3 := hsn.ext hU3.ext
  have hr3 := hr.ext hU3.ext
  have hfl := Cp g m ((cC g pn).take j)
  have hlapp:((hd ++ (s.take q).flatMap fun p => rh g m (cC g p.toNat)) ++ rh g m ((cC g pn).take j)).length = (hd ++ (s.take q).flatMap fun p => rh g m (cC g p.toNat)).length + (rh g m ((cC g pn).take j)).length := IE
  have htl:((cC g pn).take j).length ≤ j := by simp; omega
  refine J6 ?_
  refine IR ?_
  refine zv (RV.lss rfl rfl) ?_
  refine IV ?_
  refine ai ?_
  refine J6 ?_
  refine zC ?_ ?_
  ·intro hlt2
   replace hlt2:j < (cC g pn).length := by have := of_decide_eq_true hlt2; omega
   have hjn:1 ≤ nth (cC g pn) j ∧ nth (cC g pn) j ≤ g.ls.length := by
    obtain⟨k, hk, hjk⟩ := (vz hw h0 hpl (nth (cC g pn) j)).1 (aM hlt2)
    exact hw.lv k _ (hk.lt hw (tY hw h0 hpl)) hjk
   have hft := AF (g := g) (m := m) hlt2
   have m3:w3.cell? (adr nv1 1 j) = some (nI ((nth (cC g pn) j:Nat):Int)) := by have := hsn3.cell (j := 0) hlt2 rfl; rwa[ay]at this
   generalize nth (cC g pn) j = to at *
   have c1 := hr3.c1
   have hls3 := hr3.ls
   refine KZ ?_
   refine ai ?_
   refine J6 ?_
   refine Lj ?_
   refine J6 ?_
   refine IR ?_
   refine zv (JV (by first | exact hsn3) I8 (Jr _) rfl rfl _ rfl (by omega)) ?_
   refine zv (RV.ld m3 rfl) ?_
   refine zv (JQ rfl) ?_
   refine IV ?_
   refine ai ?_
   refine J6 ?_
   refine IR ?_
   refine zv (J4 rfl) ?_
   refine zv (ao rfl) ?_
   refine zv (RV.fa rfl) ?_
   refine zv (RV.ld c1 rfl) ?_
   refine zv (J4 rfl) ?_
   refine zv (RV.sub rfl rfl (LH (by omega))) ?_
   rw[show((to:Nat):Int) - 1 = ((to - 1:Nat):Int)from by omega]
   refine zv (JV hls3 JS (Ky _) rfl rfl (to - 1) rfl (by omega)) ?_
   refine zv (ah (us := qG (nth g.ls (to - 1))) (fun j u hu => hls3.cell (by omega) hu) (isAgg170 _) (Ky _) rfl) ?_
   refine zv (J4 rfl) ?_
   refine zc call145 (yL (nth g.ls (to - 1)).1 (nth g.ls (to - 1)).2.1 m (nth g.ls (to - 1)).2.2 w3) ?_
   rintro v w4 ⟨rfl, hE4⟩
   have hU4 := hU3.trans (aa (by decide) O3 hE4)
   have hR4 := hR3.ext hE4
   have hrow4:IX encI 3 1 O3 w4 1 v3 _ := hrow3.upd (aa (S := fun _ => False) (fun h => h) O3 hE4) (by decide) fun h => h
   refine IV ?_
   refine ai ?_
   refine zC ?_ ?_
   ·intro hyes
    rw[if_pos hyes]at hft
    refine IR ?_
    refine zv (J4 rfl) ?_
    refine zv (J4 rfl) ?_
    refine KY jJ hrow4 hR4 (((to:Nat):Int)) (fun _ => rfl) rfl rfl rfl (by simp[I6]) (by omega) (by omega) (by omega) (by decide) rfl rfl ?_
    intro v5 w5 O5 hrow5 hU5 hR5
    refine zv (JQ rfl) ?_
    refine IV ?_
    refine bn ?_
    refine ai ?_
    refine IR ?_
    refine zv (MB rfl rfl (LH (by omega))) ?_
    refine zv (J4 rfl) ?_
    refine IV ?_
    refine zxd (j + 1, v5, O5, w5) (⟨hlt2, by dsimp only; rw[hft, ← J5]; exact hrow5, hU4.trans hU5, hR5⟩)
   ·intro hno
    rw[if_neg (by rw[hno]; decide), IK]at hft
    refine KZ ?_
    refine bn ?_
    refine ai ?_
    refine IR ?_
    refine zv (MB rfl rfl (LH (by omega))) ?_
    refine zv (J4 rfl) ?_
    refine IV ?_
    refine zxd (j + 1, v3, O3, w4) (⟨hlt2, by dsimp only; rw[hft]; exact hrow4, hU4, hR4⟩)
  ·intro hge2
   obtain rfl:j = (cC g pn).length := by have := of_decide_eq_false hge2; omega
   rw[IG]at hrow3
   have htk:(s.take (q + 1)).flatMap (fun p => rh g m (cC g p.toNat)) = (s.take q).flatMap (fun p => rh g m (cC g p.toNat)) ++ rh g m (cC g pn) := by rw[aI hlt, Jw, hpn]; simp
   refine MS ?_
   refine aQ ?_
   refine aQ ?_
   refine bS ?_
   refine bn ?_
   refine ai ?_
   refine IR ?_
   refine zv (MB rfl rfl (LH (by omega))) ?_
   refine zv (J4 rfl) ?_
   refine IV ?_
   refine zxd (q + 1, v3, O3, w3) (⟨hlt, by dsimp only; rw[htk, ← J5]; exact hrow3, hU3, hR3⟩)
 ·intro hge
  obtain rfl:q = s.length := by have := of_decide_eq_false hge; omega
  rw[IG]at hrow2 hlen2
  have hmul:s.length * 999 ≤ 999000 := by omega
  refine MS ?_
  refine aQ ?_
  refine aQ ?_
  refine bS ?_
  refine ai ?_
  refine J6 ?_
  refine IR ?_
  refine zv (J4 rfl) ?_
  refine zc call134 (jN hR2 hrow2 (by decide) (by omega)) ?_
  rintro _ w3 ⟨hrow3, hU3, hR3⟩
  refine IV ?_
  refine ai ?_
  refine J6 ?_
  refine IR ?_
  refine zv (J4 rfl) ?_
  refine zc call135 (ew hR3 hrow3 (by decide) (by rw[dK]; omega)) ?_
  rintro v4 w4 ⟨hrow4, hU4, hR4⟩
  have e:J0 (gD (hd ++ s.flatMap fun p => rh g m (cC g p.toNat))) = cP se g s m := by rw[hhd]; rfl
  rw[e]at hrow4
  refine zv (JQ rfl) ?_
  refine IV ?_
  refine ai ?_
  refine WC.ret ?_
  refine af rfl rfl (⟨hrow4.sl, ((hU2.trans hU3).trans hU4).ext, fun B O hR => hrow4.free (by decide) hR4 hR⟩)
theorem jK(w:ka)(nb:Nat)(se:Bool)(g:Gr)(s:List Int)(sv:ix)(h:NfD w nb se g)(hs:Sl encI 1 w sv s)(hp:inP g s)(he:∀q,g.en q<=40):
  Kz IW 91 [nP nb,sv] w fun v w'=>v=.int .u64 ((dJ g s:Nat):Int)/\w'=w:=by
 obtain⟨nr,tr,lv,kv,xs,l1,l2,hr,b3,a9,b2,a8⟩:=h.ex;have a4:∀p,nU g p<2^40:=fun p=>jL he _ 0 zd
 have b1:=hs.len_le;refine ID func91 ntmps91 rfl rfl ?_;refine zh ?_;refine zvH (yq (q:=some ⟨nb,0,none⟩) Kj rfl rfl) ?_;refine zTH rfl rfl ?_;refine zlp (fun z:Nat=>[(0,nP nb),(5,.int .u64 ((dJ g (s.take z):Nat):Int)),(10,sv),(11,nI s.length),(12,nI z)]) (fun z=>w) (fun z=>z<=s.length/\dJ g (s.take z)<2^40) (fun z=>s.length-z) 0 (⟨I5 _,by rw[M7];show(0:Nat)<2^40;decide⟩) ?_;rintro q ⟨hq,a1⟩;refine zh ?_;refine zC ?_ ?_
 ·intro a0;replace a0:q<s.length:=dT a0;have a6:=hp _ (aM a0);obtain⟨pn,a2⟩:∃pn:Nat,nth s q=(pn:Int):=⟨(nth s q).toNat,zo⟩
  have a7:pn<=g.ls.length:=by have:=a6.2;rw[a2]at this;simpa using this
  have a':=a8 pn a7;have m2:w.cell? (adr sv 1 q)=some (nI (nth s q)):=by have:=hs.cell (j:=0) a0 rfl;rwa[ay]at this
  rw[a2]at m2;have c4:=hr.c4;have a5:=a4 pn;have a3:dJ g (s.take (q+1))=dJ g (s.take q) ||| nU g pn:=by
   unfold dJ;rw[aI a0,Kb,a2];rfl
  refine zh ?_;refine zv (KP (u:=.int .u64 ((nU g pn:Nat):Int)) a9 Mx oZ (LK _) (pn:Int) rfl rfl rfl (by rw[a'];rfl)) ?_
  refine zvH (nJ (a:=dJ g (s.take q)) (b:=nU g pn) rfl rfl rfl rfl (by show _<=(18446744073709551615:Int);omega) (by show _<=(18446744073709551615:Int);omega)) ?_;rw[<-a3];refine zxd (q+1) (⟨a0,by rw[a3];exact Kd a1 a5⟩)
 intro b0;obtain rfl:q=s.length:=dF b0;rw[IG];refine zh ?_;refine af rfl rfl (⟨rfl,rfl⟩)
mutual
theorem sN:∀(t:Nd) (wi:Bool),ox t wi=true->xI t=true/\gF t=true
 |.mk k c l,wi,h=>by
  unfold ox at h
  simp only[IH]at h
  obtain⟨h1,h2⟩:=h
  obtain⟨i1,i2⟩:=ph l h2
  unfold xI gF
  rw[i1,i2,Md,Md]
  have hl:l.isEmpty=true↔l.length=0:=by cases l<;>simp
  rcases xK h1 with⟨rfl,hn,_⟩|⟨rfl,hn,_⟩|⟨rfl,hn,_⟩|⟨rfl,hn,_⟩|⟨rfl,hn,_⟩|⟨rfl,hn,_⟩|⟨rfl,hn,_⟩|⟨rfl,hn,_⟩|⟨rfl,hn,_⟩|⟨rfl,hn,_⟩
  ·exact⟨by rw[if_neg zd];exact hl.2 hn,by rw[if_neg zd,if_neg zd]⟩
  ·exact⟨by rw[if_neg zd];exact hl.2 hn,by rw[if_neg zd,if_neg zd]⟩
  ·exact⟨by rw[if_neg zd];exact hl.2 hn,by rw[if_neg zd,if_neg zd]⟩
  ·exact⟨by rw[if_neg zd];exact hl.2 hn,by rw[if_neg zd,if_neg zd]⟩
  ·have:l.isEmpty=false:=by cases l;simp at hn;rfl
   exact⟨by rw[if_pos zd,this];rfl,by rw[if_pos rfl,this];rfl⟩
  ·have:l.isEmpty=false:=by cases l;simp at hn;rfl
   exact⟨by rw[if_pos zd,this];rfl,by rw[if_neg zd,if_neg zd]⟩
  ·have:l.isEmpty=false:=by cases l;simp at hn;rfl
   exact⟨by rw[if_pos zd,this];rfl,by rw[if_neg zd,if_pos zd,hn];rfl⟩
  ·have:l.isEmpty=false:=by cases l;simp at hn;rfl
   exact⟨by rw[if_pos zd,this];rfl,by rw[if_neg zd,if_pos zd,hn];rfl⟩
  ·have:l.isEmpty=false:=by cases l;simp at hn;rfl
   exact⟨by rw[if_pos zd,this];rfl,by rw[if_neg zd,if_pos zd,hn];rfl⟩
  exact⟨by rw[if_neg zd];exact hl.2 hn,by rw[if_neg zd,if_neg zd]⟩
theorem ph:∀(l:List Nd),sP l=true->jy l=true/\dL l=true
 |[],_=>⟨rfl,rfl⟩
 |t::r,h=>by
  rw[sP,IH]at h
  obtain⟨a1,a2⟩:=sN t true h.1
  obtain⟨b1,b2⟩:=ph r h.2
  unfold jy dL
  rw[a1,a2,b1,b2]
  exact⟨rfl,rfl⟩
end
theorem iB{t:Nd}(h:bM t=true):xI t=true/\gF t=true/\nsz t<=2000:=by
 unfold bM at h;simp only[IH,decide_eq_true_eq]at h;obtain⟨h1,h2⟩:=sN t false h.2;exact⟨h1,h2,h.1⟩
theorem js:∀ {l:List Nd},(∀t∈l,bM t=true)->jy l=true/\dL l=true
 |[],_=>⟨rfl,rfl⟩
 |t::r,h=>by
  obtain⟨a1,a2,_⟩:=iB (h t (by simp));obtain⟨b1,b2⟩:=js (l:=r) fun x hx=>h x (by simp[hx])
  unfold jy dL;rw[a1,a2,b1,b2];exact⟨rfl,rfl⟩
theorem vY:∀(xs:List Nd) (i:Nat) (g:Gr),WF g->0<g.ks.length->(∀k,g.en k<=i)->∀k,(dz xs i g).en k<=i+xs.length
 |[],i,g,_,_,h,k=>by have:=h k;show g.en k<=_;omega
 |x::r,i,g,hw,h0,h,k=>by
  obtain⟨h1,h2,h3⟩:=qj hw h0 x i
  have:=vY r (i+1) (rX x i g) h1 zo (fun q=>by
   rw[zL hw h0]
   split
   ·omega
   split
   ·have:=h q;omega
   omega) k
  simp only[Ja];show(dz r (i+1) (rX x i g)).en k<=_;omega
theorem zR(xs:List Nd)(k:Nat):(qZ xs).en k<=xs.length:=by
 have:=vY xs 0 g00 vK zd (fun q=>by
  unfold Gr.en g00
  by_cases e:q=0
  ·subst e;rw[ax];exact I7 _
  rw[ej (by simp;omega)];exact I7 _) k
 rw[KR]at this;exact this
theorem DK(xs:List Nd):Tot (qZ xs):=sY xs 0 g00 vK zd (by simp[Tot,tH,g00])
theorem oO{xs:List Nd}(h1:jy xs=true)(h2:dL xs=true):(qZ xs).ls.length=aU xs:=by
 have:=lV xs 0 g00 h1 h2;unfold qZ;rw[this];simp[g00]
theorem Bd.mark{g:Gr}{M:Nat}(h:Bd g M){a e:Nat}(ha:a<g.ks.length):Bd (g.mark a e) M:=⟨by rw[dm];exact h.ks,h.ls,fun k=>by rw[qq ha];exact h.fr k,fun k=>by rw[qp ha];exact h.lv k⟩
theorem DD{g:Gr}(h:WF g)(h0:0<g.ks.length)(x:Nd)(i:Nat){M:Nat}(hM:Bd g M):Bd (rX x i g) (M+3+(9*nsz x-1)):=by
 have e1:=aK g;have e2:=dm g.knot g.ks.length (i+1);have e3:=aK (g.knot.mark g.ks.length (i+1));have hl:=eQ g i;exact ga x _ _ _ _ (gC h h0 i).1 zo zo (((hM.knot.mark zo).knot).free zo)
theorem yd{xs:List Nd}{q:Nat}{g:Gr}(h:q<xs.length):dz (xs.drop q) q g=dz (xs.drop (q+1)) (q+1) (rX (nth xs q) q g):=by
 rw[lA h,dz]
theorem FY:Bd g00 1:=by
 refine⟨zd,zd,fun k=>?_,fun k=>?_⟩
 ·unfold MK g00
  by_cases e:k=0
  ·subst e;rw[ax];decide
  rw[ej (by simp;omega)];decide
 unfold LW g00
 by_cases e:k=0
 ·subst e;rw[ax];decide
 rw[ej (by simp;omega)];decide
def du(ts:List Nd):Int:=if 40<ts.length then 3 else if ts.any (fun t=>!bM t)=true then 1 else if 1000<1+aU ts then 7 else 0
theorem B2(t:Nd)(x:N3)(w:ka)(h:Nt (fun _=>0) w t x):Kz IW 82 [nv x] w fun v w'=>v=.bool (!bM t)/\K5 w w':=by
 have hx:=h.ones;have a3:=h.one;refine ID func82 ntmps82 rfl rfl ?_;refine zh ?_;refine aF (aw w) 1 zo rfl rfl ?_;intro xb w1 O1 a1 a4 a5 a0;refine zh ?_;refine zv (ah (us:=aW x) a1.cellsAdd (J8 _) (IL _) rfl) ?_;refine zc call79 (eU t x w1 (h.ext a0)) ?_;rintro v w2 ⟨rfl,a2⟩;refine zh ?_;refine af rfl rfl (⟨rfl,a0.trans a2⟩)
def zT(nb:Nat)(e:Int):ix:=.pointer (if e=0 then some ⟨nb,0,none⟩else none)
theorem DM(se:Bool)(ts:List Nd)(xs:List N3)(sv:ix)(w:ka)(hs:Sl aW 3 w sv xs)(hl:ts.length=xs.length)(hk:∀i,i<xs.length->Nt (fun _=>0) w (nth ts i) (nth xs i)):
  Kz IW 56 [.bool se,sv] w fun v w'=>∃nb,v=.tuple #[zT nb (du ts),nI (du ts)]/\K5 w w'/\(du ts=0->NfD w' nb se (qZ ts)):=by
 refine ID func56 ntmps56 rfl rfl ?_;refine zh ?_
 by_cases g4:40<ts.length
 ·have hM:du ts=3:=by unfold du;rw[if_pos g4]
  rw[hM];refine zTH rfl ((decide_eq_true zo)) ?_;refine bB rfl rfl rfl (⟨0,rfl,I9 _,fun h=>by cases h⟩)
 have hq:∀i,i<xs.length->∀w',K5 w w'->Kz IW 82 ([nv (nth xs i)]++(#[]:Array ix).toList) w' fun v w''=>v=.bool (!bM (nth ts i))/\K5 w' w'':=fun i hi w' hE=>B2 _ _ w' ((hk i hi).ext hE)
 have j2:iY (fun i=>!bM (nth ts i)) xs.length=ts.any (fun t=>!bM t):=by rw[<-hl];exact ie (p:=fun t=>!bM t)
 refine zFH rfl ((decide_eq_false zo)) ?_;refine zc call81 (cO call82 #[] xs sv (fun i=>!bM (nth ts i)) w hs hq) ?_
 rw[j2];rintro v w1 ⟨rfl,k1⟩;refine zh ?_
 cases b0:ts.any (fun t=>!bM t)with
 |true=>
  have hM:du ts=1:=by unfold du;rw[if_neg g4,if_pos b0]
  rw[hM];refine zTH rfl rfl ?_;refine bB rfl rfl rfl (⟨0,rfl,k1,fun h=>by cases h⟩)
 |false=>
  have a6:∀t∈ts,bM t=true:=fun t ht=>by
   have:=List.any_eq_false.1 b0 t ht;simpa using this
  obtain⟨e6,b7⟩:=js a6;have hR:∀q,q<ts.length->bM (nth ts q)=true:=fun q hq=>a6 _ (aM hq)
  have p0:=hs.ext k1;refine zFH rfl rfl ?_;refine zlp (fun z:Nat×ka=>[(0,.bool se),(1,sv),(6,nI ((1+aU (ts.take z.1):Nat):Int)),(23,sv),(24,nI xs.length),(25,nI z.1)]) (fun z=>z.2) (fun z=>z.1<=ts.length/\K5 w z.2/\aU (ts.take z.1)<=z.1*2000) (fun z=>ts.length-z.1) (0,w1) (⟨I5 _,k1,by simp[aU]⟩) ?_;rintro⟨q,w2⟩ ⟨m',b5,l0⟩;dsimp only at m' b5 l0 ⊢;have k9:=hs.ext b5;refine zh ?_;refine zC ?_ ?_
  ·intro a0;replace a0:q<ts.length:=dT a0;have a7:=(hk q zo).ext b5;have i6:=a7.one;have p3:=lu (nth ts q);have m7:=(iB (hR q a0)).2.2;have m6:=gT ts q a0;refine zh ?_;refine zv (ah (us:=aW (nth xs q)) (fun j u hu=>k9.cell zo hu) (J8 _) (IL _) rfl) ?_;refine ar (aw w2) 1 zo (K7 _) rfl ?_;intro yb w3 O3 j1 j4 l6 p4;refine zsb (us:=#[nI (nth xs q).1,nI (nth xs q).2.1,(nth xs q).2.2]) j1 (IL _) (bW i6) ?_;have l8:K5 w2 (w3.setRow yb #[nI (nth xs q).1,nI (nth xs q).2.1,(nth xs q).2.2]):=(j4.trans (IS zd j1.tag rfl)).ext;have o0:=j1.setRow (us:=#[nI (nth xs q).1,nI (nth xs q).2.1,(nth xs q).2.2]);generalize w3.setRow yb #[nI (nth xs q).1,nI (nth xs q).2.1,(nth xs q).2.2]=w4 at *;refine zh ?_;refine zv (ah (us:=aW (nth xs q)) o0.cellsAdd (J8 _) (IL _) rfl) ?_;refine zc call83 (oT (nsz (nth ts q)) zo (nth ts q) (I7 _) (nth xs q) w4 (a7.ext l8)) ?_;rintro v w5 ⟨rfl,l7⟩;refine zh ?_;rw[show((1+aU (ts.take q):Nat):Int)+((cV (nth ts q):Nat):Int)=((1+aU (ts.take (q+1)):Nat):Int)from by rw[m6];omega];refine zxd (q+1,w5) (⟨a0,(b5.trans l8).trans l7,by dsimp only;omega⟩)
  intro i8;obtain rfl:q=ts.length:=dF i8;rw[IG]at l0 ⊢;refine zh ?_
  by_cases e9:1000<1+aU ts
  ·have hM:du ts=7:=by unfold du;rw[if_neg g4,if_neg (by rw[b0];decide),if_pos e9]
   rw[hM];refine zTH rfl ((decide_eq_true zo)) ?_;refine bB rfl rfl rfl (⟨0,rfl,b5,fun h=>by cases h⟩)
  have hM:du ts=0:=by unfold du;rw[if_neg g4,if_neg (by rw[b0];decide),if_neg e9]
  rw[hM];refine zFH rfl ((decide_eq_false zo)) ?_;refine bd kvI id (aw w2) 1 zd rfl ?_;intro nr w3 O3 n4 j4 l6;refine bd kvI tvU l6 2 zd rfl ?_;intro tr w4 O4 n3 l4 o4;have h':=n4.upd l4 zd zd;refine zv (aE GI (zeroValue165 _) rfl (by first|rfl|(simp only[J1,Jb];rfl)) rfl rfl) ?_;refine aF o4 3 zo rfl rfl ?_;intro nb w5 O5 n' j3 o3 l7;have i5:=h'.upd j3 zd zd;have i2:=n3.upd j3 zd zd;have f6:IJ (fun q=>1<=q) (fun _=>0) w2 O5 w5:=((j4.mono (fun _ h=>zo) zo).trans (l4.mono (fun _ h=>zo) zo)).trans (j3.mono (fun _ h=>zo) zo);have h5:NfO O5 w5 3 nb se ⟨[],[]⟩ (.map (some nr)) (.map (some tr)) (nS) (nS) []:=⟨n',J7 _ _ _ _ _ _,⟨J7 _ _ _ _ _ _,rfl,fun k hk=>absurd hk (I1 k),fun k hk=>absurd hk (I1 k),fun k hk=>absurd hk (I1 k)⟩⟩
  refine zh ?_;refine zc Lt (iH w2.heap.size O5 w5 3 nb se ⟨[],[]⟩ _ _ _ _ _ zd o3 h5 zd) ?_
  rintro _ w6 ⟨rfl,O6,m0,m2,l9,o1,o2,h6⟩;have o':=k9.ext f6.ext;refine zh ?_;refine zvH (bj hs.sh Lr rfl) ?_;refine zlp (fun z:Nat×(Nat->Nat)×World×Gr×ix×ix×List K3=>[(9,nP nb),(43,sv),(44,nI xs.length),(45,nI z.1)]) (fun z=>z.2.2.1) (fun z=>z.1<=ts.length/\IJ (fun q=>3<=q) O5 w5 z.2.1 z.2.2.1/\K0 w2.heap.size z.2.1 z.2.2.1/\NfO z.2.1 z.2.2.1 3 nb se z.2.2.2.1 (.map (some nr)) (.map (some tr)) z.2.2.2.2.1 z.2.2.2.2.2.1 z.2.2.2.2.2.2/\WF z.2.2.2.1/\0<z.2.2.2.1.ks.length/\Bd z.2.2.2.1 (1+z.1*18010)/\dz ts 0 g00=dz (ts.drop z.1) z.1 z.2.2.2.1) (fun z=>ts.length-z.1) (0,O6,w6,g00,m0,m2,l9) (⟨I5 _,o1,o2,h6,vK,(show 0<g00.ks.length by decide),(show Bd g00 (1+0*18010)from FY),rfl⟩) ?_;rintro⟨q,O7,w7,g,g1,g9,g5⟩ ⟨m9,f5,c9,h7,b6,f9,f3,b3⟩;dsimp only at m9 f5 c9 h7 b6 f9 f3 b3 ⊢;have c7:=f6.trans (f5.mono (S':=fun q=>1<=q) (fun q h=>zo) zo);have k2:=b5.trans c7.ext;refine zh ?_;refine zC ?_ ?_
  ·intro a0;replace a0:q<ts.length:=dT a0;rw[yd a0]at b3;have m8:=hs.ext k2;have a7:Nt O7 w7 (nth ts q) (nth xs q):=((hk q zo).ext b5).upd c7;have i6:=a7.one;have m7:=(iB (hR q a0)).2.2;have h3:=(iB (hR q a0)).2.1;obtain⟨T,j7,hT⟩:=c9.bound;refine zh ?_;refine zv (ah (us:=aW (nth xs q)) (fun j u hu=>m8.cell zo hu) (J8 _) (IL _) rfl) ?_;refine ar c9 T zo (K7 _) rfl ?_;intro yb w8 O8 g2 d2 l5 o5;refine zh ?_;refine zsb (us:=#[nI (nth xs q).1,nI (nth xs q).2.1,(nth xs q).2.2]) g2 (IL _) (bW i6) ?_;have f4:IJ (fun j=>j=T) O8 w8 O8 (w8.setRow yb #[nI (nth xs q).1,nI (nth xs q).2.1,(nth xs q).2.2]):=IS zo g2.tag rfl;obtain⟨g3,n7⟩:=Fj j7 hT d2 f4 (g2.setRow (us:=#[nI (nth xs q).1,nI (nth xs q).2.1,(nth xs q).2.2]));generalize w8.setRow yb #[nI (nth xs q).1,nI (nth xs q).2.1,(nth xs q).2.2]=w9 at *;clear g2 d2 l5 o5 f4;have h9:=h7.ext g3 zd;have f8:=c9.ext g3;have c6:IJ (fun q=>3<=q) O7 w7 O7 w9:=aa zo O7 g3;have e7:=a7.ext g3;have n6:=f3.ks;have e1:=aK g;refine zh ?_;refine zc Lt (iH w2.heap.size O7 w9 3 nb se g _ _ _ _ _ zd f8 h9 zo) ?_;rintro _ g0 ⟨rfl,O10,g8,h0,a5,b2,d0,a'⟩;have m4:=a'.ks.len;have d7:g.ks.length<a5.length:=zo;have c2:=a'.c2;refine zh ?_;rw[show((q:Nat):Int)+1=((q+1:Nat):Int)from by omega];refine zvH (az a'.ks.row.sl.sh J3 (JG _) rfl rfl g.ks.length rfl d7) ?_
   refine nG a'.ks.row g.ks.length d7 2 zd (((nth a5 g.ks.length).1,(nth a5 g.ks.length).2.1,q+1):K3) (Jr _) rfl zo rfl rfl rfl rfl ?_;intro d4 b8 a4;have e2:=dm g.knot g.ks.length (q+1);have k5:NfO O10 d4 3 nb se (g.knot.mark g.ks.length (q+1)) (.map (some nr)) (.map (some tr)) g8 h0 (a5.set g.ks.length ((nth a5 g.ks.length).1,(nth a5 g.ks.length).2.1,q+1)):=by
    refine⟨a'.blk.upd a4 zd zd,a'.ls.upd a4 zd zd,⟨b8,by rw[I3];omega,fun k hk=>?_,fun k hk=>?_,fun k hk=>?_⟩⟩
    ·rw[I3]at hk;rw[aT d7,qq zo]
     split
     ·rename_i e;subst e;exact(a'.ks.fr _ hk).upd a4 zo zo
     exact(a'.ks.fr k hk).upd a4 zo zo
    ·rw[I3]at hk;rw[aT d7,qp zo]
     split
     ·rename_i e;subst e;exact(a'.ks.lv _ hk).upd a4 zo zo
     exact(a'.ks.lv k hk).upd a4 zo zo
    rw[I3]at hk;rw[aT d7,Aa zo]
    split
    ·rfl
    exact a'.ks.en k hk
   have c':=d0.upd a4;have f7:=Upd.hi a4 (i:=3) zd zd;refine zh ?_;refine zc Lt (iH w2.heap.size O10 d4 3 nb se (g.knot.mark g.ks.length (q+1)) _ _ _ _ _ zd c' k5 zo) ?_;rintro _ f' ⟨rfl,O12,m1,m3,l',c8,j',o8⟩;have e3:=aK (g.knot.mark g.ks.length (q+1));rw[show((g.knot.mark g.ks.length (q+1)).ks.length:Nat)=g.ks.length+1 from by omega];have b4:=(f3.knot.mark (a:=g.ks.length) (e:=q+1) zo).knot;refine zh ?_;refine zc KO (gb w2.heap.size O12 f' 3 nb se (g.knot.mark g.ks.length (q+1)).knot _ _ _ _ _ 0 (g.ks.length+1) zd j' o8 zo (by have:=b4.fr 0;omega) zo) ?_;rintro _ k7 ⟨O13,g7,g',g6,j6,j9,o7⟩;have k4:NfO O13 k7 3 nb se (gn g q) (.map (some nr)) (.map (some tr)) g7 g' g6:=o7;obtain⟨m5,k8⟩:=gC b6 f9 q;have o9:=eQ g q;have n8:Bd (gn g q) (1+q*18010+3):=b4.free zo;have a8:=((b2.trans f7).trans c8).trans j6;refine zh ?_;refine zvH (ah (us:=aW (nth xs q)) (fun j u hu=>((n7 j u hu).upd a8).c) (J8 _) (IL _) rfl) ?_;refine zc Ma (Ah (nsz (nth ts q)) (nth ts q) (I7 _) w2.heap.size O13 k7 3 nb se (gn g q) _ _ _ _ _ (g.ks.length+1) g.ks.length (nth xs q) (1+q*18010+3) zd j9 k4 m5 zo zo n8 zo h3 (e7.upd a8)) ?_;rintro _ k6 ⟨O14,d5,d6,d3,j5,j8,o6⟩;have k3:NfO O14 k6 3 nb se (rX (nth ts q) q g) (.map (some nr)) (.map (some tr)) d5 d6 d3:=o6;obtain⟨n2,p2,p1⟩:=qj b6 f9 (nth ts q) q;have n1:=DD b6 f9 (nth ts q) q f3;refine zh ?_
   refine zxd (q+1,O14,k6,rX (nth ts q) q g,d5,d6,d3) (⟨a0,((f5.trans c6).trans a8).trans j5,j8,k3,n2,by dsimp only;omega,n1.mono (by dsimp only;omega),b3⟩)
  intro i8;obtain rfl:q=ts.length:=dF i8;rw[List.drop_length,dz]at b3;have b3:qZ ts=g:=b3;have i4:=i5.upd f5 zd zd;have i1:=i2.upd f5 zd zd;have l3:∀k,g.en k<=40:=fun k=>by rw[<-b3];have:=zR ts k;omega
  have n5:=oO e6 b7;rw[b3]at n5 ⊢;have e':Bd g 1000000:=f3.mono zo;refine zh ?_;refine zc call87 (vH w2.heap.size O7 w7 3 nb se g nr tr g1 g9 g5 [] [] 0 0 1000000 zd c9 h7 i4 i1 b6 f9 e' zd l3) ?_;rintro _ w8 ⟨v0,d2,i3,i0,h2,i9⟩;have h8:=h7.upd d2 zd zo;have l5:=c9.upd d2;have c1:=h8.c1;have n0:g.pl 0=0:=rfl;refine zh ?_;refine zvH (bj h8.ls.sl.sh JS rfl) ?_;refine zlp (fun z:Nat×ka×List (Int×ix)×List (Int×Nat)=>[(9,nP nb),(77,g1),(78,nI g.ls.length),(79,nI z.1)]) (fun z=>z.2.1) (fun z=>z.1<=g.ls.length/\IJ (fun q=>q=1\/q=2) O7 w7 O7 z.2.1/\Jl kvI id O7 z.2.1 1 nr z.2.2.1/\Jl kvI tvU O7 z.2.1 2 tr z.2.2.2/\(∀p:Nat,p<=z.1->∃v,bm z.2.2.1 (p:Int)=some v/\Sl aN 1 z.2.1 v (cC g p)/\KW O7 z.2.1 v)/\(∀p:Nat,p<=z.1->bm z.2.2.2 (p:Int)=some (nU g p))) (fun z=>g.ls.length-z.1) (0,w8,cx [] 0 v0,cx [] 0 ((eF g 0).foldl (fH g) 0)) (⟨I5 _,d2,i3,i0,fun p hp=>⟨v0,by obtain rfl:p=0:=L8.1 hp;rfl,by obtain rfl:p=0:=L8.1 hp;exact h2,i9⟩,fun p hp=>by obtain rfl:p=0:=L8.1 hp;rfl⟩) ?_;rintro⟨j,w9,l1,l2⟩ ⟨hj,c6,b',b9,h4,h1⟩;dsimp only at hj c6 b' b9 h4 h1 ⊢;have h9:=h7.upd c6 zd zo;have f8:=c9.upd c6;have e5:=h9.ls.sl;refine zh ?_;refine zC ?_ ?_
  ·intro a0;replace a0:j<g.ls.length:=dT a0;have n9:=b6.ls j a0;obtain⟨T,j7,hT⟩:=f8.bound;refine zh ?_;refine zv (JV e5 JS (Ky _) rfl rfl j rfl a0) ?_;refine zv (ah (us:=qG (nth g.ls j)) (fun q u hu=>e5.cell a0 hu) (isAgg170 _) (Ky _) rfl) ?_;refine ar f8 T zo (ME _) rfl ?_;intro yb g0 O10 b1 b2 d0 k0;refine zh ?_;refine zsa (us:=(qG (nth g.ls j)).toArray) b1 (Ky _) ?_;have f4:IJ (fun j=>j=T) O10 g0 O10 (g0.setRow yb (qG (nth g.ls j)).toArray):=IS zo b1.tag rfl;obtain⟨d1,j0⟩:=Fj j7 hT b2 f4 (b1.setRow (us:=(qG (nth g.ls j)).toArray));generalize g0.setRow yb (qG (nth g.ls j)).toArray=d4 at *;clear b1 b2 d0 k0 f4;have c5:IJ (fun _=>False) O7 w9 O7 d4:=aa (fun h=>h) O7 d1;have k5:=h9.ext d1 zd;have c':=f8.ext d1;have e4:=b'.upd c5 zd fun h=>h
   have d':=b9.upd c5 zd fun h=>h
   have p5:=(j0 2 _ rfl).c;refine zh ?_;refine zc call87 (vH w2.heap.size O7 d4 3 nb se g nr tr g1 g9 g5 l1 l2 ((j:Nat)+1) (nth g.ls j).2.2 1000000 zd c' k5 e4 d' b6 n9 e' zd l3) ?_;rintro _ f' ⟨v1,c8,e0,d9,d8,e8⟩;have a9:IJ (fun q=>q=1\/q=2) O7 w9 O7 f':=(c5.mono (fun _ h=>h.elim) zo).trans c8;have k':g.pl (j+1)=(nth g.ls j).2.2:=by unfold Gr.pl;rw[if_neg zo];rfl
   refine zh ?_;refine zxd (j+1,f',cx l1 ((j:Nat)+1) v1,cx l2 ((j:Nat)+1) ((eF g (nth g.ls j).2.2).foldl (fH g) 0)) (⟨a0,c6.trans a9,e0,d9,fun p hp=>?_,fun p hp=>?_⟩)
   ·dsimp only at hp ⊢;rw[aP]
    by_cases e:p=j+1
    ·subst e;exact⟨v1,by rw[if_pos zo],by unfold cC;rw[k'];exact d8,e8⟩
    obtain⟨v,a1,a2,a3⟩:=h4 p zo;exact⟨v,by rw[if_neg zo];exact a1,a2.upd a3 a9,a3.upd a9⟩
   dsimp only at hp ⊢;rw[aP]
   by_cases e:p=j+1
   ·subst e;rw[if_pos zo];unfold nU;rw[k']
   rw[if_neg zo];exact h1 p zo
  intro i7;obtain rfl:j=g.ls.length:=dF i7;refine zh ?_;refine bB rfl rfl rfl (⟨nb,rfl,b5.trans (c7.trans (c6.mono (S':=fun q=>1<=q) (fun q h=>zo) zo)).ext,fun _=>⟨nr,tr,g1,g9,g5,l1,l2,h9.r,b'.fgt (i':=0) rfl,b9.fgt (i':=0) rfl,fun p hp=>by obtain⟨v,a1,a2,_⟩:=h4 p hp;exact⟨v,a1,a2⟩,h1⟩⟩)
abbrev AT(b:UInt8):List ix:=[.int .u8 (b.toNat:Int)]
theorem Ii:LY IW 22 5 1 1:=⟨Ls,by kernel_rfl,zd⟩
theorem yy:LY IW 89 25 1 24:=⟨J2,by kernel_rfl,zd⟩
theorem iV:LY IW 28 24 1 8:=⟨underlying28,by kernel_rfl,zd⟩
theorem pS(n:Nat):MV.wrap (n:Int)=((Js (n % 256)).toNat:Int):=by
 rw[MU];simp only[L5];omega
theorem xV(s:List Int)(sv:ix)(w:ka)(h:Sl encI 1 w sv s)(ho:okS s)(hl:s.length<=100000):Kz IW 115 [sv] w fun v w'=>v=.string (bs (tz s))/\K5 w w':=by
 refine ID func115 ntmps115 rfl rfl ?_;refine zh ?_
 refine zlp (fun z:Nat×ix×(Nat->Nat)×World=>[(3,z.2.1),(6,sv),(7,nI s.length),(8,nI z.1)]) (fun z=>z.2.2.2) (fun z=>z.1<=s.length/\IX AT 5 1 z.2.2.1 z.2.2.2 1 z.2.1 (tz (s.take z.1))/\(tz (s.take z.1)).length=2*z.1/\IJ (fun q=>q=1) (fun _=>0) w z.2.2.1 z.2.2.2/\K0 w.heap.size z.2.2.1 z.2.2.2) (fun z=>s.length-z.1) (0,nS,fun _=>0,w) (⟨I5 _,J7 _ _ _ _ _ _,rfl,Jk zd _ _,aw w⟩) ?_;rintro⟨q,v1,O1,w1⟩ ⟨hq,a0,a4,hU,hR⟩;dsimp only at hq a0 a4 hU hR ⊢;have h1:=h.ext hU.ext;refine zh ?_
 refine zC ?_ ?_
 ·intro a1;replace a1:q<s.length:=dT a1;have a7:=ho _ (aM a1);obtain⟨p,hp⟩:∃p:Nat,nth s q=(p:Int):=⟨(nth s q).toNat,zo⟩
  have b1:p<=999:=by have:=a7.2;rw[hp]at this;simpa using this
  have m1:w1.cell? (adr sv 1 q)=some (nI (nth s q)):=by have:=h1.cell (j:=0) a1 rfl;rwa[ay]at this
  rw[hp]at m1;have a3:tz (s.take (q+1))=tz (s.take q)++[Js (p / 256),Js (p % 256)]:=by
   unfold tz;rw[aI a1,Jw,hp];simp
  refine zh ?_;refine zv (eM (a:=p) (b:=8) rfl rfl rfl rfl zd) ?_
  refine zvH (kP JP KC rfl) ?_;refine zv (kP JP KC rfl) ?_
  rw[pS p,pS (p / 2^8),show p / 2^8 % 256=p / 256 from by omega];refine iQ Ls (sizeOf5 _) (MN _) AT [Js (p / 256),Js (p % 256)] rfl rfl rfl rfl zk (by simp) rfl ?_;intro bv w2 a9 a6;have a5:IJ (fun _=>False) O1 w1 O1 w2:=aa (fun h=>h) O1 a6;refine aC Ii (a0.upd a5 zd fun h=>h) (hR.ext a6) a9 (by simp) rfl rfl (by simp) (by simp[I6]) (by simp;omega) (by simp;omega) zd rfl ?_;intro v3 w3 O3 a2 a' b0;refine zh ?_;refine zxd (q+1,v3,O3,w3) (⟨a1,by dsimp only;rw[a3];exact a2,by dsimp only;rw[a3];simp[a4];omega,(hU.trans (a5.mono (fun _ h=>h.elim) zd)).trans a',b0⟩)
 intro a8;obtain rfl:q=s.length:=dF a8;rw[IG]at a0;refine zh ?_;refine zvH (kO a0.sl Ls KC LL rfl) ?_;refine af rfl rfl (⟨rfl,hU.ext⟩)
theorem GF:cB IW 174 #[(0,1),(1,1),(2,1)]:=⟨_,underlying174,fun w=>by kernel_rfl⟩
theorem Fl:cB IW 91 #[(0,1),(1,1)]:=⟨_,underlying91,fun w=>by kernel_rfl⟩
theorem sI:Mk IW 9 KI:=CH LL
abbrev yx(v:ix):List ix:=[v]
structure MkO(O:Nat->Nat)(w:ka)(i mb nb kr:Nat)(sv:ix)(vs:List ix)(S:List (List Int))(l:List (ByteArray×Int)):Prop where
 blk:KK O w i mb #[nP nb,.map (some kr),sv] 174
 map:Jl KI kvI O w (i+1) kr l
 row:IX yx 25 1 O w (i+2) sv vs
 len:vs.length=S.length
 at_:∀k,k<S.length->Sl encI 1 w (nth vs k) (nth S k)/\KW O w (nth vs k)
 ok:∀s∈S,okS s
 key:∀s,okS s->bm l (bs (tz s))=(Bx S s).map fun(k:Nat)=>(k:Int)
theorem MkO.upd{T:Nat->Prop}{O O':Nat->Nat}{w w':ka}{i mb nb kr:Nat}{sv:ix}{vs:List ix}{S:List (List Int)}{l:List (ByteArray×Int)}(h:MkO O w i mb nb kr sv vs S l)(u:IJ T O w O' w')(hi:i≠0)(h1:¬T i)(h2:¬T (i+1))(h3:¬T (i+2)):MkO O' w' i mb nb kr sv vs S l:=
 ⟨h.blk.upd u hi h1,h.map.upd u zo h2,h.row.upd u zo h3,h.len,fun k hk=>⟨(h.at_ k hk).1.upd (h.at_ k hk).2 u,(h.at_ k hk).2.upd u⟩,h.ok,h.key⟩
theorem As{S:List (List Int)}{s t:List Int}(h:Bx S s=none):Bx (S++[s]) t=if s=t then some S.length else Bx S t:=by
 unfold Bx at h ⊢;rw[List.findIdx?_append]
 by_cases e:s=t
 ·subst e;rw[h,if_pos rfl];simp[JE]
 rw[if_neg e]
 cases hq:S.findIdx? (· == t)with
 |some k=>simp
 |none=>simp[JE,e]
theorem lT(B:Nat)(O:Nat->Nat)(w:ka)(i mb nb kr:Nat)(mv:ix)(vs:List ix)(S:List (List Int))(l:List (ByteArray×Int))(s:List Int)(sv:ix)(hi:i≠0)(hR:K0 B O w)(h:MkO O w i mb nb kr mv vs S l)(hs:Sl encI 1 w sv s)(hf:KW O w sv)(ho:okS s)(b8:s.length<=100000)(d1:S.length<=100000):
  Kz IW 88 [nP mb,sv] w fun v w'=>∃O' mv' vs' l',v=nI ((Bv S s:Nat):Int)/\IJ (fun q=>i<=q/\q<=i+2) O w O' w'/\K0 B O' w'/\MkO O' w' i mb nb kr mv' vs' (qm S s) l':=by
 have hz:¬(fun q=>i<=q/\q<=i+2) 0:=zo;have b9:=hs.shape;obtain⟨sa,sc,rfl,_⟩:=b9;refine ID func88 ntmps88 rfl rfl ?_;refine zh ?_;refine zc call115 (xV s _ w hs ho b8) ?_;rintro _ w1 ⟨rfl,b7⟩;have a':IJ (fun _=>False) O w O w1:=aa (fun h=>h) O b7;have h1:=h.upd a' hi (fun h=>h) (fun h=>h) fun h=>h
 have b6:=hR.upd a';have b3:=hs.ext b7;have a9:=hf.upd a';have a4:=h.key s ho;have a7:IJ (fun q=>i<=q/\q<=i+2) O w O w1:=a'.mono (fun _ h=>h.elim) hz;have c1:w1.cell? (nA mb 1)=some (.map (some kr)):=h1.blk.cell 1 rfl;have c2:w1.cell? (nA mb 2)=some mv:=h1.blk.cell 2 rfl;refine zh ?_
 cases a0:Bx S s with
 |some k=>
  rw[a0]at a4;have hn:Bv S s=k:=by unfold Bv;rw[a0];rfl
  have hS:qm S s=S:=by unfold qm;rw[a0];rfl
  rw[hn,hS];refine zvH (cG (u:=.tuple #[kvI (k:Int),.bool true]) h1.map L4 sI (Km _) (bs (tz s)) rfl rfl rfl (by rw[a4];rfl)) ?_;refine zFH rfl rfl ?_;refine af rfl rfl (⟨O,mv,vs,l,rfl,a7,b6,h1⟩)
 |none=>
  rw[a0]at a4;have hn:Bv S s=S.length:=by unfold Bv;rw[a0];rfl
  have hS:qm S s=S++[s]:=by unfold qm;rw[a0];rfl
  rw[hn,hS];have a8:=h.len;refine zvH (cG (u:=.tuple #[kvI 0,.bool false]) h1.map L4 sI (Km _) (bs (tz s)) rfl rfl rfl (by rw[a4];rfl)) ?_;refine zTH rfl rfl ?_;refine zvH (bj h1.row.sl.sh J2 rfl) ?_;refine Ml h1.map L4 sI zo (bs (tz s)) (vs.length:Int) rfl rfl rfl rfl rfl ?_;intro w2 c6 a6;have b5:=h1.blk.upd a6 hi zo;have b':=h1.row.upd a6 zo zo;have c9:=b6.upd a6;have c':=b3.upd a9 a6;have d0:=a9.upd a6;have d2:w2.cell? (nA mb 2)=some mv:=b5.cell 2 rfl;refine zh ?_;refine KY yy b' c9 ((.slice sa s.length sc:ix)) (fun _=>rfl) rfl rfl rfl (by simp[I6]) zo zo zo zd rfl rfl ?_;intro a5 w3 O3 b4 b2 c8;have b1:=b5.upd b2 hi zo;have c5:=c6.upd b2 zo zo;refine zh ?_;refine aj (j:=2) b1 rfl (Mq _) b4.one rfl rfl rfl ?_;have b0:IJ (fun q=>q=i) O3 w3 O3 (w3.setCell ⟨mb,2,none⟩ a5):=JH (fun e=>hi e.symm) b1.tag rfl;have c7:KK O3 (w3.setCell ⟨mb,2,none⟩ a5) i mb #[nP nb,.map (some kr),a5] 174:=b1.set 2 a5;have a3:IJ (fun q=>i<=q/\q<=i+2) O w1 O3 (w3.setCell ⟨mb,2,none⟩ a5):=((a6.mono (fun q h=>zo) hz).trans (b2.mono (fun q h=>zo) hz)).trans (b0.mono (fun q h=>zo) hz);refine zh ?_;refine af rfl rfl (⟨O3,a5,vs++[.slice sa s.length sc],cx l (bs (tz s)) (vs.length:Int),by rw[a8],a7.trans a3,(c8.upd b0),⟨c7,c5.upd b0 zo zo,b4.upd b0 zo zo,by simp[a8],fun k hk=>?_,fun t ht=>?_,fun t ht=>?_⟩⟩)
  ·rw[aA,aA,a8]
   by_cases e:k<S.length
   ·rw[if_pos e,if_pos e];obtain⟨a1,a2⟩:=h1.at_ k e;exact⟨a1.upd a2 a3,a2.upd a3⟩
   rw[if_neg e,if_neg e];simp only[IE,Ja,Jf]at hk;rw[show k-S.length=0 from by omega,ax,ax];exact⟨b3.upd a9 a3,a9.upd a3⟩
  ·rcases IT.1 ht with ht|ht
   ·exact h.ok t ht
   rw[I0.1 ht];exact ho
  rw[aP,As a0]
  by_cases e:s=t
  ·subst e;rw[if_pos rfl,if_pos rfl,a8];rfl
  rw[if_neg (fun e2=>e (vI ho ht (CZ e2))),if_neg e];exact h.key t ht
theorem BL{r:List Nat}{m N x:Nat}(hr:r.length=m)(hm:m<N):(r++IM (N-m) 0).set m x=(r++[x])++IM (N-(m+1)) 0:=by
 obtain⟨k,hk⟩:∃k,N-m=k+1:=⟨N-m-1,zo⟩
 rw[show N-(m+1)=k from by omega,hk,KS _ _ zo,hr,JC,Lc,Lo,J5];rfl
theorem Free.lowT{O:Nat->Nat}{w:ka}{v:ix}(h:KW O w v)(T:Nat):KW (Le O T) w v:=fun a n c e hn=>⟨ke (h a n c e hn).1,(h a n c e hn).2⟩
theorem MkO.lowT{O:Nat->Nat}{w:ka}{i mb nb kr:Nat}{sv:ix}{vs:List ix}{S:List (List Int)}{l:List (ByteArray×Int)}(h:MkO O w i mb nb kr sv vs S l){T:Nat}(hT:i+2<T):MkO (Le O T) w i mb nb kr sv vs S l:=
 ⟨h.blk.lowT zo,h.map.fgt (by unfold Le;rw[h.map.tag,if_neg zo]),h.row.lowT zo,h.len,fun k hk=>⟨(h.at_ k hk).1,Free.lowT (h.at_ k hk).2 T⟩,h.ok,h.key⟩
theorem CV{g:Gr}(hl:g.ls.length<=999){s:List Int}(h:inP g s):okS s:=fun x hx=>⟨(h x hx).1,Ke (h x hx).2 hl⟩
theorem AU(B:Nat)(O:Nat->Nat)(w w0:ka)(i mb nb kr:Nat)(se:Bool)(g:Gr)(mv:ix)(vs:List ix)(S:List (List Int))(l:List (ByteArray×Int))(q:Nat)(hi:i≠0)(hR:K0 B O w)(h:MkO O w i mb nb kr mv vs S l)(hD:NfD w0 nb se g)(f5:IJ (fun q=>1<=q) (fun _=>0) w0 O w) 
  (hw:WF g) (h0:0<g.ks.length) (ht:Tot g) (d4:g.ls.length<=999) (d5:∀s∈S,inP g s) (c9:∀s∈S,s.length<=1000) (hq:q<S.length) (hS:S.length<=1000) :
  Kz IW 90 [nP mb,nI (q:Nat)] w fun v w'=>∃O' mv' vs' l',IJ (fun q=>i<=q/\q<=i+2) O w O' w'/\K0 B O' w'/\MkO O' w' i mb nb kr mv' vs' (di (cP se g) (nth S q) S 37).1 l'/\Sl aN 1 w' v (di (cP se g) (nth S q) S 37).2/\KW O' w' v/\(∀s∈(di (cP se g) (nth S q) S 37).1,inP g s/\s.length<=1000):=by
 obtain⟨T0,g3,c6⟩:=hR.bound;obtain⟨T,g2⟩:∃T,T=T0+i+3:=⟨_,rfl⟩
 have hT:∀b,O b<T:=fun b=>by have:=c6 b;omega
 have a5:=jV (cP se g) (nth S q) S;have b5:=d5 _ (aM hq);have e3:=c9 _ (aM hq);refine ID func90 ntmps90 rfl rfl ?_;refine zh ?_;obtain⟨N,hN⟩:∃N:Nat,N=37:=⟨_,rfl⟩
 refine cZ jJ (val:=fun n:Nat=>nI (n:Int)) (0:Nat) zk (fun _=>rfl) hR T zo 37 rfl rfl zd zd zd zd rfl ?_;intro w1 O1 ov e5 a4 d7 f8 g4;clear e5;have e8:=h.upd d7 hi zo zo zo;refine zh ?_
 refine zvH (bj a4.sl.sh I8 rfl) ?_;rw[List.length_replicate];refine zlp (fun z:Nat×(Nat->Nat)×World×ix×List ix×List (ByteArray×Int)=>[(0,nP mb),(1,nI (q:Nat)),(5,ov),(8,ov),(9,nI ((37:Nat):Int)),(10,nI z.1)]) (fun z=>z.2.2.1) (fun z=>z.1<=37/\IJ (fun j=>j=T\/i<=j/\j<=i+2) O w z.2.1 z.2.2.1/\K0 B z.2.1 z.2.2.1/\MkO z.2.1 z.2.2.1 i mb nb kr z.2.2.2.1 z.2.2.2.2.1 (di (cP se g) (nth S q) S z.1).1 z.2.2.2.2.2/\IX aN 3 1 z.2.1 z.2.2.1 T ov ((di (cP se g) (nth S q) S z.1).2++IM (37-z.1) 0)/\∀s∈(di (cP se g) (nth S q) S z.1).1,inP g s/\s.length<=1000) (fun z=>37-z.1) (0,O1,w1,mv,vs,l) (⟨I5 _,d7.mono (fun _ h=>.inl h) zo,f8,e8,a4,fun s hs=>⟨d5 s hs,c9 s hs⟩⟩) ?_
 rintro⟨m,O2,w2,a',a9,l2⟩ ⟨b7,b4,a8,b0,a0,a1⟩;dsimp only at b7 b4 a8 b0 a0 a1 ⊢;have c':=(a5 m).len;have c8:=(a5 m).top;have b2:((di (cP se g) (nth S q) S m).2++IM (37-m) 0).length=37:=by simp[c'];omega
 refine zh ?_;refine zC ?_ ?_
 ·intro b1;replace b1:m<37:=dT b1;obtain⟨pq,d0⟩:=(a5 m).pre;have e4:q<(di (cP se g) (nth S q) S m).1.length:=by rw[d0];simp;omega
  have e6:nth (di (cP se g) (nth S q) S m).1 q=nth S q:=by rw[d0,aA,if_pos hq]
  have c5:=f5.trans (b4.mono (S':=fun q=>1<=q) (fun j h=>zo) zo);have hU02d:=c5.drew;have f9:=hD.ext hU02d.ext;have hm2d:=b0.upd (aa (S:=fun _=>False) (fun h=>h) O2 (I9 w2).drew) hi (fun h=>h) (fun h=>h) fun h=>h
  have c0:w2.drew.cell? (nA mb 0)=some (nP nb):=hm2d.blk.cell 0 rfl;have c2:w2.drew.cell? (nA mb 2)=some a':=hm2d.blk.cell 2 rfl;have c7:=hm2d.row.sl;have g0:=hm2d.len;have cq:w2.drew.cell? (adr a' 1 q)=some (nth a9 q):=by have:=c7.cell (i:=q) (j:=0) zo rfl;rwa[ay]at this
  obtain⟨a6,f3⟩:=hm2d.at_ q e4;rw[e6]at a6;refine zh ?_;refine aL (fun W=>W.cell? (nA mb 0)=some (nP nb)) 19 rfl zk ?_;refine zrm 0 rfl c0 rfl ?_;refine zrm 1 rfl c0 rfl ?_;refine zrm 2 rfl c0 rfl ?_;refine zrm 3 rfl c0 rfl ?_;refine zr 4 rfl c0 (fun _=>ao rfl) ?_;refine zrf 5 rfl c0 rfl ?_;refine zt 6 rfl c0 (fun w1 e1=>RV.ld e1 rfl) ?_;refine zrm 7 rfl c0 rfl ?_;refine zr 8 rfl c0 (fun _=>ao rfl) ?_;refine zrf 9 rfl c0 rfl ?_;refine zrm 11 rfl c0 rfl ?_;refine zrm 14 rfl c0 rfl ?_;refine IF 10 zk rfl ?_;refine zvH (RV.ld c2 rfl) ?_;refine ae (c0) ?_;refine zr 12 rfl (c0) (fun _=>az c7.sh J2 (K8 _) rfl rfl q rfl zo) ?_;refine IF 13 zk rfl ?_;refine zvH (RV.ld cq rfl) ?_;refine ae (c0) ?_;refine IF 15 zk rfl ?_;refine zc call116 (step_ret w2.drew nb se g (nth S q) (nth a9 q) (m:Nat) f9 a6 hw h0 ht b5 e3 d4) ?_;rintro tv w3 ⟨e2,d8,e'⟩;refine zh ?_;refine ae (d8.cell c0) ?_;have b8:=e' B O2 a8.drew;have b3:IJ (fun _=>False) O2 w2 O2 w3:=aa (fun h=>h) O2 ((I9 w2).drew.trans d8);have e7:=b0.upd b3 hi (fun h=>h) (fun h=>h) fun h=>h
  have f7:=a8.upd b3;have a7:=a0.upd b3 zo fun h=>h
  have d1:=yZ hw h0 (rC se g) b5 (m:Nat);have g1:=BK (se:=se) hw h0 b5 (m:Nat);refine IF 16 zk rfl ?_;refine zc call88 (lT B O2 w3 i mb nb kr a' a9 (di (cP se g) (nth S q) S m).1 l2 (cP se g (nth S q) (m:Nat)) tv hi f7 e7 e2 b8 (CV d4 d1) zo zo) ?_;rintro _ w4 ⟨O4,e0,d',l4,rfl,d6,f6,d3⟩;have d9:w4.cell? (nA mb 0)=some (nP nb):=d3.blk.cell 0 rfl;refine zh ?_;refine ae (d9) ?_;have a3:=a7.upd d6 zo zo;have b6:=a3.sl;refine zr 17 rfl (d9) (fun _=>az b6.sh I8 (Jr _) rfl rfl m rfl zo) ?_;refine IF 18 zk rfl ?_;refine My a3 m zo (Bv (di (cP se g) (nth S q) S m).1 (cP se g (nth S q) (m:Nat))) (Jr _) rfl zo rfl rfl rfl rfl ?_;intro w5 a2 b9;rw[BL c' b1]at a2;have d2:=d3.upd b9 hi zo zo zo;have f':w5.cell? (nA mb 0)=some (nP nb):=d2.blk.cell 0 rfl;refine zh ?_;refine ae (f') ?_;have b':IJ (fun j=>j=T\/i<=j/\j<=i+2) O w O4 w5:=((b4.trans (b3.mono (fun _ h=>h.elim) zo)).trans (d6.mono (fun _ h=>.inr h) zo)).trans (b9.mono (fun _ h=>.inl h) zo);refine Jt zk ?_;refine zh ?_;refine zxd (m+1,O4,w5,e0,d',l4) (⟨b1,b',f6.upd b9,d2,a2,fun s hs=>?_⟩)
  ·have hs:s∈qm (di (cP se g) (nth S q) S m).1 (cP se g (nth S q) (m:Nat)):=hs;unfold qm at hs
   split at hs
   ·exact a1 s hs
   rcases IT.1 hs with hs|hs
   ·exact a1 s hs
   rw[I0.1 hs];exact⟨d1,zo⟩
 intro e9;obtain rfl:m=37:=dF e9;rw[JC,Lb,IK]at a0
 have f4:=b4.lowT (S':=fun q=>i<=q/\q<=i+2) hT (fun b hb=>by
  rcases hb with hb|hb
  ·have:=hT b;omega
  exact hb) zo
 refine zh ?_;refine af rfl rfl (⟨lowT O2 T,a',a9,l2,f4,a8.lowT T,MkO.lowT b0 zo,a0.sl,fun a n c e hn=>?_,a1⟩)
 have hb:=a0.1.tag a.block (by subst e;rfl);refine⟨by unfold lowT;rw[hb,if_pos (I7 _)],(a8.rng a.block (by rw[hb];omega)).2⟩
abbrev fj(n:Nat):List ix:=[.int .u64 (n:Int)]
def RowsN(w:ka)(v:ix)(rows:List (List Nat)):Prop:=∃vs,Sl yx 1 w v vs/\vs.length=rows.length/\∀i,i<rows.length->Sl aN 1 w (nth vs i) (nth rows i)
theorem RowsN.ext{w w':ka}{v:ix}{rows:List (List Nat)}(h:RowsN w v rows)(e:K5 w w'):RowsN w' v rows:=by
 obtain⟨vs,h1,h2,h3⟩:=h;exact⟨vs,h1.ext e,h2,fun i hi=>(h3 i hi).ext e⟩
structure RwO(O:Nat->Nat)(w:ka)(i:Nat)(v:ix)(vs:List ix)(rows:List (List Nat)):Prop where
 row:IX yx 25 1 O w i v vs
 len:vs.length=rows.length
 at_:∀k,k<rows.length->Sl aN 1 w (nth vs k) (nth rows k)/\KW O w (nth vs k)
theorem RwO.upd{S:Nat->Prop}{O O':Nat->Nat}{w w':ka}{i:Nat}{v:ix}{vs:List ix}{rows:List (List Nat)}(h:RwO O w i v vs rows)(u:IJ S O w O' w')(hi:i≠0)(hS:¬S i):RwO O' w' i v vs rows:=
 ⟨h.row.upd u hi hS,h.len,fun k hk=>⟨(h.at_ k hk).1.upd (h.at_ k hk).2 u,(h.at_ k hk).2.upd u⟩⟩
theorem RwO.drew{O:Nat->Nat}{w:ka}{i:Nat}{v:ix}{vs:List ix}{rows:List (List Nat)}(h:RwO O w i v vs rows):RwO O w.drew i v vs rows:=⟨h.row.drew,h.len,fun k hk=>⟨(h.at_ k hk).1.drew,(h.at_ k hk).2.upd (aa (S:=fun _=>False) (fun h=>h) O (I9 w).drew)⟩⟩
theorem RwO.rows{O:Nat->Nat}{w:ka}{i:Nat}{v:ix}{vs:List ix}{rows:List (List Nat)}(h:RwO O w i v vs rows):RowsN w v rows:=⟨vs,h.row.sl,h.len,fun k hk=>(h.at_ k hk).1⟩
def G6(w:ka)(v:ix):Option (List (List Nat)×List Nat)->Prop
 |some d=>∃nv tv,v=.tuple #[.agg #[nv,tv],nI 0]/\nv.oneCell'=true/\tv.oneCell'=true/\RowsN w nv d.1/\Sl fj 1 w tv d.2
 |none=>v=.tuple #[.agg #[nS,nS],nI 7]
set_option maxHeartbeats 1000000 in
theorem AV(nb:Nat)(se:Bool)(g:Gr)(w:ka)(hD:NfD w nb se g)(hw:WF g)(h0:0<g.ks.length)(ht:Tot g)(m0:g.ls.length<=999)(j0:∀q,g.en q<=40):
  Kz IW 57 [nP nb] w fun v w'=>K5 w w'/\G6 w' v (CY (cP se g) (dJ g)):=by
 have e4:∀s,dJ g s<2^40:=fun s=>by
  have m8:∀(s:List Int) (b:Nat),b<2^40->s.foldl (fun b p=>b ||| nU g p.toNat) b<2^40:=fun s=>by
   induction s with
   |nil=>exact fun b hb=>hb
   |cons p s ih=>exact fun b hb=>ih _ (Kd hb (jL j0 _ 0 zd))
  exact m8 s 0 zd
 refine ID func57 ntmps57 rfl rfl ?_;refine zh ?_
 refine ar (aw w) 7 zo (JN _) rfl ?_;intro cb wa Oa k8 n6 o0 o9;refine zh ?_
 refine zvH (fy (q:=some ⟨nb,0,none⟩) Kj rfl rfl) ?_;refine zFH rfl rfl ?_
 refine bd KI kvI o0 2 zd rfl ?_;intro kr wb Ob n1 m2 n';refine zv (aE GF (zeroValue174 _) rfl (by first|rfl|(simp only[J1,Jb];rfl)) rfl rfl) ?_
 refine aF n' 1 zo rfl rfl ?_;intro mb wc Oc n0 l3 m3 o8;have k2:MkO Oc wc 1 mb nb kr (nS) [] [] []:=⟨n0,n1.upd l3 zd zd,J7 _ _ _ _ _ _,rfl,fun k hk=>absurd hk (I1 k),fun s hs=>absurd hs (by simp),fun s _=>rfl⟩
 have l5:=((n6.mono (S':=fun j=>1<=j) (fun j h=>zo) zd).trans (m2.mono (fun j h=>zo) zd)).trans (l3.mono (fun j h=>zo) zd);refine zh ?_;refine zc call89 (A4 wc nb) ?_;rintro bv wd ⟨n4,o3,n5⟩;have k9:=n5 w.heap.size Oc m3;have j7:IJ (fun _=>False) Oc wc Oc wd:=aa (fun h=>h) Oc o3;have i':inP g [0]:=fun x hx=>by rw[I0.1 hx];exact⟨Ld _,I5 _⟩
 refine zc call88 (lT w.heap.size Oc wd 1 mb nb kr _ _ _ _ [0] bv zd (m3.upd j7) (k2.upd j7 zd (fun h=>h) (fun h=>h) fun h=>h) n4 k9 (CV m0 i') zd zd) ?_;rintro _ we ⟨Oe,m7,m5,le,rfl,m1,n9,i9⟩;have n7:qm [] [0]=[[0]]:=rfl;rw[n7]at i9;have l1:IJ (fun j=>1<=j) Oc wd Oe we:=m1.mono (fun j h=>zo) zd;refine zh ?_
 refine ar n9 4 zo (JN _) rfl ?_;intro db wf Of k4 l0 n8 o7;have k7:=(((k8.upd m2 zd zd).upd l3 zd zd).upd j7 zd fun h=>h)
 have k6:=(k7.upd m1 zd zd).upd l0 zd zd;have l4:=((l5.trans (j7.mono (fun _ h=>h.elim) zd)).trans l1).trans (l0.mono (fun j h=>zo) zd);refine zh ?_;refine zlp (fun z:Nat×(Nat->Nat)×World×ix×List ix×List (List Int)×List (ByteArray×Int)×List (List Nat)×List Nat×List ix×ix×ix=>[(0,nP nb),(2,nP cb),(3,nI 0),(4,nP mb),(5,nP db),(6,nI z.1)]) (fun z=>z.2.2.1) (fun z=>IJ (fun j=>1<=j) (fun _=>0) w z.2.1 z.2.2.1/\K0 w.heap.size z.2.1 z.2.2.1/\MkO z.2.1 z.2.2.1 1 mb nb kr z.2.2.2.1 z.2.2.2.2.1 z.2.2.2.2.2.1 z.2.2.2.2.2.2.1/\KK z.2.1 z.2.2.1 4 db #[z.2.2.2.2.2.2.2.2.2.2.1,z.2.2.2.2.2.2.2.2.2.2.2] 91/\RwO z.2.1 z.2.2.1 5 z.2.2.2.2.2.2.2.2.2.2.1 z.2.2.2.2.2.2.2.2.2.1 z.2.2.2.2.2.2.2.1/\IX fj 24 1 z.2.1 z.2.2.1 6 z.2.2.2.2.2.2.2.2.2.2.2 z.2.2.2.2.2.2.2.2.1/\KK z.2.1 z.2.2.1 7 cb #[nS,nS] 91/\DI (cP se g) (dJ g) z.1 z.2.2.2.2.2.1 z.2.2.2.2.2.2.2.1 z.2.2.2.2.2.2.2.2.1/\(∀s∈z.2.2.2.2.2.1,inP g s/\s.length<=1000)/\D3 (cP se g) (dJ g) (1002-z.1) z.1 z.2.2.2.2.2.1 z.2.2.2.2.2.2.2.1 z.2.2.2.2.2.2.2.2.1=CY (cP se g) (dJ g)) (fun z=>1002-z.1) (0,Of,wf,m7,m5,[[0]],le,[],[],[],nS,nS) (⟨l4,n8,i9.upd l0 zd zd zd zd,k4,⟨J7 _ _ _ _ _ _,rfl,fun k hk=>absurd hk (I1 k)⟩,J7 _ _ _ _ _ _,k6,xj _ _,fun s hs=>by rw[I0.1 hs];exact⟨i',zd⟩,rfl⟩) ?_;rintro⟨q,O1,w1,mv,vs,S,l,rows,i7,i4,nv,tv⟩ ⟨b2,m4,e9,f4,d',e3,e0,i6,f7,c6⟩;dsimp only at b2 m4 e9 f4 d' e3 e0 i6 f7 c6 ⊢;have o6:=i6.le
 have o5:=i6.rl;have o4:=i6.tl;have j3:=i6.len;have m':=d'.len;have c2:w1.cell? (nA mb 2)=some mv:=e9.blk.cell 2 rfl;have i5:=e9.len;refine zh ?_;refine zvH (bj e9.row.sl.sh J2 rfl) ?_;refine zC ?_ ?_
 ·intro g0;replace g0:q<S.length:=dT g0;obtain⟨n,hn⟩:∃n,1002-q=n+1:=⟨1001-q,zo⟩
  rw[hn,D3,if_pos g0]at c6;have e':=jV (cP se g) (nth S q) S 37;have j2:=i6.next g0;have j6:=(f7 _ (aM g0)).1;have n3:w1.drew.cell? (nA db 0)=some nv:=f4.cell 0 rfl;have hmk1d:=e9.upd (aa (S:=fun _=>False) (fun h=>h) O1 (I9 w1).drew) zd (fun h=>h) (fun h=>h) fun h=>h
  have h1:=AU w.heap.size O1 w1.drew w 1 mb nb kr se g mv vs S l q zd m4.drew hmk1d hD b2.drew hw h0 ht m0 (fun s hs=>(f7 s hs).1) (fun s hs=>(f7 s hs).2) g0 j3;generalize di (cP se g) (nth S q) S 37=RT at *;obtain⟨S1,r1⟩:=RT;dsimp only at c6 e' j2 h1;refine zh ?_;refine aL (fun _=>True) 9 rfl zk ?_;refine zin trivial fun zS=>?_
  refine zrf 0 rfl zS rfl ?_;refine zrm 2 rfl zS rfl ?_
  refine zrm 3 rfl zS rfl ?_;refine bI 1 4 zk rfl rfl ?_ ?_
  ·refine zvH (RV.ld n3 rfl) ?_;refine ae trivial ?_
   refine IF 4 zk rfl ?_;refine zc call90 h1 ?_
   rintro rv w2 ⟨O2,a7,b',l2,k',l8,h6,e6,e8,f3⟩;have g9:=e6.shape;obtain⟨ra,rc,rfl,_⟩:=g9;have b6:IJ (fun j=>1<=j/\j<=3) O1 w1.drew O2 w2:=k';have g8:=d'.drew.upd b6 zd zd;have f8:=f4.drew.upd b6 zd zd;have h9:=e0.drew.upd b6 zd zd;have g6:=e3.drew.upd b6 zd zd;have h':IJ (fun j=>1<=j/\j<=3) O1 w1 O2 w2:=(aa zd O1 (I9 w1).drew).trans b6;refine zh ?_;refine ae trivial ?_;refine IF 5 zk rfl ?_;refine bR yy (enc:=yx) (.slice ra r1.length rc:ix) rfl rfl rfl zd rfl ?_;intro m6 w3 g7 l9;have c7:IJ (fun _=>False) O2 w2 O2 w3:=aa (fun h=>h) O2 l9;have i0:IJ (fun q=>1<=q) O1 w1 O2 w3:=(h'.mono (fun j h=>zo) zd).trans (c7.mono (fun _ h=>h.elim) zd);have l7:=l8.upd c7;have d2:=g8.upd c7 zd fun h=>h
   have h7:=f8.upd c7 zd fun h=>h
   have h8:=h9.upd c7 zd fun h=>h
   have g5:=g6.upd c7 zd fun h=>h
   have h5:=h6.upd c7 zd (fun h=>h) (fun h=>h) fun h=>h
   have g':=e6.upd e8 c7;have d3:=e8.upd c7;refine zh ?_;refine ae trivial ?_;refine IF 6 zk rfl ?_;refine aC yy (d2.row) l7 g7 (by simp) rfl rfl (by simp) (fun u hu c hc=>by rw[I0.1 hu]at hc;rw[I0.1 hc];rfl) (by simp;omega) (by simp;omega) zd rfl ?_;intro b3 w4 O4 c8 b8 l6;have d8:=h7.upd b8 zd zd;refine zh ?_;refine ae (trivial) ?_;refine zrf 7 rfl (trivial) rfl ?_;refine IF 8 zk rfl ?_;refine aj (j:=0) d8 rfl (Mq _) c8.one rfl rfl rfl ?_;have c5:IJ (fun j=>j=4) O4 w4 O4 (w4.setCell ⟨db,0,none⟩ b3):=JH zd d8.tag rfl;have d7:KK O4 (w4.setCell ⟨db,0,none⟩ b3) 4 db #[b3,tv] 91:=d8.set 0 b3;refine zh ?_;refine ae (trivial) ?_;have j1:=l6.upd c5;have e7:=c8.upd c5 zd zd;have a8:=(h5.upd b8 zd zd zd zd).upd c5 zd zd zd zd;have e2:=(g5.upd b8 zd zd).upd c5 zd zd;have f5:=(h8.upd b8 zd zd).upd c5 zd zd;have e5:RwO O4 (w4.setCell ⟨db,0,none⟩ b3) 5 b3 (i4++[.slice ra r1.length rc]) (rows++[r1]):=by
    have i5:=d2.len;refine⟨e7,by simp[i5],fun k hk=>?_⟩;rw[aA,aA,i5]
    by_cases e:k<rows.length
    ·rw[if_pos e,if_pos e];obtain⟨a1,a2⟩:=d2.at_ k e;exact⟨(a1.upd a2 b8).upd (a2.upd b8) c5,(a2.upd b8).upd c5⟩
    rw[if_neg e,if_neg e];simp only[IE,Ja,Jf]at hk;rw[show k-rows.length=0 from by omega,ax,ax];exact⟨(g'.upd d3 b8).upd (d3.upd b8) c5,(d3.upd b8).upd c5⟩
   have d9:IJ (fun q=>1<=q) O1 w1 O4 (w4.setCell ⟨db,0,none⟩ b3):=(i0.trans (b8.mono (fun j h=>zo) zd)).trans (c5.mono (fun j h=>zo) zd);generalize w4.setCell ⟨db,0,none⟩ b3=w5 at *;refine Jt zk ?_;refine zh ?_;have g4:=a8.len;have i8:q<b'.length:=by obtain⟨pq,h3⟩:=e'.pre;rw[g4,h3];simp;omega
   have h2:q<S1.length:=zo;have h4:nth S1 q=nth S q:=by obtain⟨pq,h3⟩:=e'.pre;rw[h3,aA,if_pos g0]
   have b0:w5.drew.cell? (nA mb 2)=some a7/\w5.drew.cell? (adr a7 1 q)=some (nth b' q):=⟨a8.blk.cell 2 rfl,by have:=a8.row.sl.cell (i:=q) (j:=0) i8 rfl;rwa[ay]at this⟩
   have sd:∀W,K5 w5.drew W->W.cell? (nA mb 2)=some a7/\W.cell? (adr a7 1 q)=some (nth b' q):=fun W hE=>⟨hE.cell b0.1,hE.cell b0.2⟩
   have j5:w5.drew.cell? (nA db 1)=some tv:=d7.cell 1 rfl;have j4:=hD.ext (b2.trans d9).drew.ext;obtain⟨d0,k0⟩:=a8.at_ q h2;rw[h4]at d0;have m9:=e4 (nth S q);refine aL (fun W=>W.cell? (nA mb 2)=some a7/\W.cell? (adr a7 1 q)=some (nth b' q)) 15 rfl zk ?_;refine zrf 0 rfl b0 rfl ?_;refine zrm 2 rfl b0 rfl ?_;refine zrm 3 rfl b0 rfl ?_;refine zr 4 rfl b0 (fun _=>ao rfl) ?_;refine zrf 5 rfl b0 rfl ?_;refine zt 6 rfl b0 (fun w1 g1=>RV.ld g1.1 rfl) ?_;refine zrm 7 rfl b0 rfl ?_;refine zr 8 rfl b0 (fun _=>az a8.row.sl.sh J2 (K8 _) rfl rfl q rfl i8) ?_;refine zt 9 rfl b0 (fun w1 g1=>RV.ld g1.2 rfl) ?_;refine bI 1 10 zk rfl rfl ?_ ?_
   ·refine zvH (RV.ld j5 rfl) ?_;refine ae b0 ?_
    refine IF 10 zk rfl ?_;refine zc Mr (jK w5.drew nb se g (nth S q) _ j4 d0.drew j6 j0) ?_
    rintro j8 w9 ⟨rfl,e1⟩;rw[e1];clear e1 w9;refine zh ?_;refine ae b0 ?_;refine IF 11 zk rfl ?_;refine bR iV (enc:=fj) (dJ g (nth S q)) rfl rfl rfl zd rfl ?_;intro j9 w6 c' f';refine zh ?_;refine ae (sd _ f') ?_;have a':IJ (fun _=>False) O4 w5 O4 w6:=aa (fun h=>h) O4 ((I9 w5).drew.trans f');have c9:=e2.upd a' zd fun h=>h
    have d6:=d7.upd a' zd fun h=>h
    have d4:=a8.upd a' zd (fun h=>h) (fun h=>h) fun h=>h
    have i3:=j1.upd a';refine IF 12 zk rfl ?_;refine aC iV c9 i3 c' (by simp) rfl rfl (by simp) (by simp[I6]) (by simp;omega) (by simp;omega) zd rfl ?_;intro a3 w7 O7 a6 b7 i2;have a9:=d6.upd b7 zd zd;have a4:=d4.upd b7 zd zd zd zd;have g3:=a4.len;have s7:w7.cell? (nA mb 2)=some a7/\w7.cell? (adr a7 1 q)=some (nth b' q):=⟨a4.blk.cell 2 rfl,by have:=a4.row.sl.cell (i:=q) (j:=0) zo rfl;rwa[ay]at this⟩
    refine zh ?_;refine ae (s7) ?_
    refine zrf 13 rfl (s7) rfl ?_;refine IF 14 zk rfl ?_
    refine aj (j:=1) a9 rfl (LN _) a6.one rfl rfl rfl ?_;have b1:IJ (fun j=>j=4) O7 w7 O7 (w7.setCell ⟨db,1,none⟩ a3):=JH zd a9.tag rfl;have d5:KK O7 (w7.setCell ⟨db,1,none⟩ a3) 4 db #[b3,a3] 91:=a9.set 1 a3;have a0:=a4.upd b1 zd zd zd zd;have g2:=a0.len;have s8:(w7.setCell ⟨db,1,none⟩ a3).cell? (nA mb 2)=some a7/\(w7.setCell ⟨db,1,none⟩ a3).cell? (adr a7 1 q)=some (nth b' q):=⟨a0.blk.cell 2 rfl,by have:=a0.row.sl.cell (i:=q) (j:=0) zo rfl;rwa[ay]at this⟩
    refine zh ?_;refine ae (s8) ?_
    have b4:=a6.upd b1 zd zd;have i1:=i2.upd b1;have d1:=((e5.upd a' zd fun h=>h).upd b7 zd zd).upd b1 zd zd;have a5:=((f5.upd a' zd fun h=>h).upd b7 zd zd).upd b1 zd zd;have b9:IJ (fun q=>1<=q) O1 w1 O7 (w7.setCell ⟨db,1,none⟩ a3):=((d9.trans (a'.mono (fun _ h=>h.elim) zd)).trans (b7.mono (fun j h=>zo) zd)).trans (b1.mono (fun j h=>zo) zd);generalize w7.setCell ⟨db,1,none⟩ a3=w8 at *;have l':=s8.1;refine Jt zk ?_;refine zh ?_;refine zvH (bj a0.row.sl.sh J2 rfl) ?_
    by_cases b5:1000<S1.length
    ·rw[if_pos b5]at c6;rw[<-c6];refine zTH rfl ((decide_eq_true zo)) ?_;refine zv (aE Fl (JN _) rfl (by first|rfl|(simp only[J1,Jb];rfl)) rfl rfl) ?_;refine zsa (us:=#[nS,nS]) a5 (Jq _) ?_;have f9:=a5.setRow (us:=#[nS,nS]);have f6:IJ (fun j=>j=7) O7 w8 O7 (w8.setRow cb #[nS,nS]):=IS zd a5.tag rfl;refine zh ?_;refine aS rfl rfl rfl (f9.cellsAdd) (KL _) (Jq _) (⟨((b2.trans b9).trans (f6.mono (fun j h=>zo) zd)).ext,rfl⟩)
    rw[if_neg b5]at c6;refine zFH rfl ((decide_eq_false zo)) ?_;refine zxd (q+1,O7,w8,a7,b',S1,l2,rows++[r1],i7++[dJ g (nth S q)],i4++[.slice ra r1.length rc],b3,a3) (⟨b2.trans b9,i1,a0,d5,d1,b4,a5,j2 zo,f3,by dsimp only;rw[show 1002-(q+1)=n from by omega];exact c6⟩)
   refine zc Mr (jK w5.drew nb se g (nth S q) _ j4 d0.drew j6 j0) ?_;rintro j8 w9 ⟨rfl,e1⟩;rw[e1];clear e1 w9;refine zh ?_
   refine ae b0 ?_;refine bO 1 11 iV (enc:=fj) (dJ g (nth S q)) rfl rfl zk zk zk zk (fun W hE=>KA (hE.cell j5) (isAgg28 _) rfl) sd rfl rfl rfl zd rfl rfl rfl rfl rfl ?_
   intro j9 w6 c' f';have a':IJ (fun _=>False) O4 w5 O4 w6:=aa (fun h=>h) O4 ((I9 w5).drew.trans f');have c9:=e2.upd a' zd fun h=>h
   have d6:=d7.upd a' zd fun h=>h
   have d4:=a8.upd a' zd (fun h=>h) (fun h=>h) fun h=>h
   have i3:=j1.upd a';refine IF 12 zk rfl ?_;refine aC iV c9 i3 c' (by simp) rfl rfl (by simp) (by simp[I6]) (by simp;omega) (by simp;omega) zd rfl ?_;intro a3 w7 O7 a6 b7 i2;have a9:=d6.upd b7 zd zd;have a4:=d4.upd b7 zd zd zd zd;have g3:=a4.len;have s7:w7.cell? (nA mb 2)=some a7/\w7.cell? (adr a7 1 q)=some (nth b' q):=⟨a4.blk.cell 2 rfl,by have:=a4.row.sl.cell (i:=q) (j:=0) zo rfl;rwa[ay]at this⟩
   refine zh ?_;refine ae (s7) ?_
   refine zrf 13 rfl (s7) rfl ?_;refine IF 14 zk rfl ?_
   refine aj (j:=1) a9 rfl (LN _) a6.one rfl rfl rfl ?_;have b1:IJ (fun j=>j=4) O7 w7 O7 (w7.setCell ⟨db,1,none⟩ a3):=JH zd a9.tag rfl;have d5:KK O7 (w7.setCell ⟨db,1,none⟩ a3) 4 db #[b3,a3] 91:=a9.set 1 a3;have a0:=a4.upd b1 zd zd zd zd;have g2:=a0.len;have s8:(w7.setCell ⟨db,1,none⟩ a3).cell? (nA mb 2)=some a7/\(w7.setCell ⟨db,1,none⟩ a3).cell? (adr a7 1 q)=some (nth b' q):=⟨a0.blk.cell 2 rfl,by have:=a0.row.sl.cell (i:=q) (j:=0) zo rfl;rwa[ay]at this⟩
   refine zh ?_;refine ae (s8) ?_
   have b4:=a6.upd b1 zd zd;have i1:=i2.upd b1;have d1:=((e5.upd a' zd fun h=>h).upd b7 zd zd).upd b1 zd zd;have a5:=((f5.upd a' zd fun h=>h).upd b7 zd zd).upd b1 zd zd;have b9:IJ (fun q=>1<=q) O1 w1 O7 (w7.setCell ⟨db,1,none⟩ a3):=((d9.trans (a'.mono (fun _ h=>h.elim) zd)).trans (b7.mono (fun j h=>zo) zd)).trans (b1.mono (fun j h=>zo) zd);generalize w7.setCell ⟨db,1,none⟩ a3=w8 at *;have l':=s8.1;refine Jt zk ?_;refine zh ?_;refine zvH (bj a0.row.sl.sh J2 rfl) ?_
   by_cases b5:1000<S1.length
   ·rw[if_pos b5]at c6;rw[<-c6];refine zTH rfl ((decide_eq_true zo)) ?_;refine zv (aE Fl (JN _) rfl (by first|rfl|(simp only[J1,Jb];rfl)) rfl rfl) ?_;refine zsa (us:=#[nS,nS]) a5 (Jq _) ?_;have f9:=a5.setRow (us:=#[nS,nS]);have f6:IJ (fun j=>j=7) O7 w8 O7 (w8.setRow cb #[nS,nS]):=IS zd a5.tag rfl;refine zh ?_;refine aS rfl rfl rfl (f9.cellsAdd) (KL _) (Jq _) (⟨((b2.trans b9).trans (f6.mono (fun j h=>zo) zd)).ext,rfl⟩)
   rw[if_neg b5]at c6;refine zFH rfl ((decide_eq_false zo)) ?_;refine zxd (q+1,O7,w8,a7,b',S1,l2,rows++[r1],i7++[dJ g (nth S q)],i4++[.slice ra r1.length rc],b3,a3) (⟨b2.trans b9,i1,a0,d5,d1,b4,a5,j2 zo,f3,by dsimp only;rw[show 1002-(q+1)=n from by omega];exact c6⟩)
  refine zc call90 h1 ?_;rintro rv w2 ⟨O2,a7,b',l2,k',l8,h6,e6,e8,f3⟩;have g9:=e6.shape;obtain⟨ra,rc,rfl,_⟩:=g9;have b6:IJ (fun j=>1<=j/\j<=3) O1 w1.drew O2 w2:=k';have g8:=d'.drew.upd b6 zd zd;have f8:=f4.drew.upd b6 zd zd;have h9:=e0.drew.upd b6 zd zd;have g6:=e3.drew.upd b6 zd zd;have h':IJ (fun j=>1<=j/\j<=3) O1 w1 O2 w2:=(aa zd O1 (I9 w1).drew).trans b6;refine zh ?_
  refine ae trivial ?_;have k5:w2.cell? (nA db 0)=some nv:=f8.cell 0 rfl;refine bO 1 5 yy (enc:=yx) (.slice ra r1.length rc:ix) rfl rfl zk zk zk zk (fun W hE=>KA (hE.cell k5) (isAgg89 _) rfl) (fun _ _=>trivial) rfl rfl rfl zd rfl rfl rfl rfl rfl ?_
  intro m6 w3 g7 l9;have c7:IJ (fun _=>False) O2 w2 O2 w3:=aa (fun h=>h) O2 l9;have i0:IJ (fun q=>1<=q) O1 w1 O2 w3:=(h'.mono (fun j h=>zo) zd).trans (c7.mono (fun _ h=>h.elim) zd);have l7:=l8.upd c7;have d2:=g8.upd c7 zd fun h=>h
  have h7:=f8.upd c7 zd fun h=>h
  have h8:=h9.upd c7 zd fun h=>h
  have g5:=g6.upd c7 zd fun h=>h
  have h5:=h6.upd c7 zd (fun h=>h) (fun h=>h) fun h=>h
  have g':=e6.upd e8 c7;have d3:=e8.upd c7;refine IF 6 zk rfl ?_;refine aC yy (d2.row) l7 g7 (by simp) rfl rfl (by simp) (fun u hu c hc=>by rw[I0.1 hu]at hc;rw[I0.1 hc];rfl) (by simp;omega) (by simp;omega) zd rfl ?_;intro b3 w4 O4 c8 b8 l6;have d8:=h7.upd b8 zd zd;refine zh ?_;refine ae (trivial) ?_;refine zrf 7 rfl (trivial) rfl ?_;refine IF 8 zk rfl ?_;refine aj (j:=0) d8 rfl (Mq _) c8.one rfl rfl rfl ?_;have c5:IJ (fun j=>j=4) O4 w4 O4 (w4.setCell ⟨db,0,none⟩ b3):=JH zd d8.tag rfl;have d7:KK O4 (w4.setCell ⟨db,0,none⟩ b3) 4 db #[b3,tv] 91:=d8.set 0 b3;refine zh ?_;refine ae (trivial) ?_;have j1:=l6.upd c5;have e7:=c8.upd c5 zd zd;have a8:=(h5.upd b8 zd zd zd zd).upd c5 zd zd zd zd;have e2:=(g5.upd b8 zd zd).upd c5 zd zd;have f5:=(h8.upd b8 zd zd).upd c5 zd zd;have e5:RwO O4 (w4.setCell ⟨db,0,none⟩ b3) 5 b3 (i4++[.slice ra r1.length rc]) (rows++[r1]):=by
   have i5:=d2.len;refine⟨e7,by simp[i5],fun k hk=>?_⟩;rw[aA,aA,i5]
   by_cases e:k<rows.length
   ·rw[if_pos e,if_pos e];obtain⟨a1,a2⟩:=d2.at_ k e;exact⟨(a1.upd a2 b8).upd (a2.upd b8) c5,(a2.upd b8).upd c5⟩
   rw[if_neg e,if_neg e];simp only[IE,Ja,Jf]at hk;rw[show k-rows.length=0 from by omega,ax,ax];exact⟨(g'.upd d3 b8).upd (d3.upd b8) c5,(d3.upd b8).upd c5⟩
  have d9:IJ (fun q=>1<=q) O1 w1 O4 (w4.setCell ⟨db,0,none⟩ b3):=(i0.trans (b8.mono (fun j h=>zo) zd)).trans (c5.mono (fun j h=>zo) zd);generalize w4.setCell ⟨db,0,none⟩ b3=w5 at *;refine Jt zk ?_;refine zh ?_;have g4:=a8.len;have i8:q<b'.length:=by obtain⟨pq,h3⟩:=e'.pre;rw[g4,h3];simp;omega
  have h2:q<S1.length:=zo;have h4:nth S1 q=nth S q:=by obtain⟨pq,h3⟩:=e'.pre;rw[h3,aA,if_pos g0]
  have b0:w5.drew.cell? (nA mb 2)=some a7/\w5.drew.cell? (adr a7 1 q)=some (nth b' q):=⟨a8.blk.cell 2 rfl,by have:=a8.row.sl.cell (i:=q) (j:=0) i8 rfl;rwa[ay]at this⟩
  have sd:∀W,K5 w5.drew W->W.cell? (nA mb 2)=some a7/\W.cell? (adr a7 1 q)=some (nth b' q):=fun W hE=>⟨hE.cell b0.1,hE.cell b0.2⟩
  have j5:w5.drew.cell? (nA db 1)=some tv:=d7.cell 1 rfl;have j4:=hD.ext (b2.trans d9).drew.ext;obtain⟨d0,k0⟩:=a8.at_ q h2;rw[h4]at d0;have m9:=e4 (nth S q);refine aL (fun W=>W.cell? (nA mb 2)=some a7/\W.cell? (adr a7 1 q)=some (nth b' q)) 15 rfl zk ?_;refine zrf 0 rfl b0 rfl ?_;refine zrm 2 rfl b0 rfl ?_;refine zrm 3 rfl b0 rfl ?_;refine zr 4 rfl b0 (fun _=>ao rfl) ?_;refine zrf 5 rfl b0 rfl ?_;refine zt 6 rfl b0 (fun w1 g1=>RV.ld g1.1 rfl) ?_;refine zrm 7 rfl b0 rfl ?_;refine zr 8 rfl b0 (fun _=>az a8.row.sl.sh J2 (K8 _) rfl rfl q rfl i8) ?_;refine zt 9 rfl b0 (fun w1 g1=>RV.ld g1.2 rfl) ?_;refine bI 1 10 zk rfl rfl ?_ ?_
  ·refine zvH (RV.ld j5 rfl) ?_;refine ae b0 ?_
   refine IF 10 zk rfl ?_;refine zc Mr (jK w5.drew nb se g (nth S q) _ j4 d0.drew j6 j0) ?_
   rintro j8 w9 ⟨rfl,e1⟩;rw[e1];clear e1 w9;refine zh ?_;refine ae b0 ?_;refine IF 11 zk rfl ?_;refine bR iV (enc:=fj) (dJ g (nth S q)) rfl rfl rfl zd rfl ?_;intro j9 w6 c' f';refine zh ?_;refine ae (sd _ f') ?_;have a':IJ (fun _=>False) O4 w5 O4 w6:=aa (fun h=>h) O4 ((I9 w5).drew.trans f');have c9:=e2.upd a' zd fun h=>h
   have d6:=d7.upd a' zd fun h=>h
   have d4:=a8.upd a' zd (fun h=>h) (fun h=>h) fun h=>h
   have i3:=j1.upd a';refine IF 12 zk rfl ?_;refine aC iV c9 i3 c' (by simp) rfl rfl (by simp) (by simp[I6]) (by simp;omega) (by simp;omega) zd rfl ?_;intro a3 w7 O7 a6 b7 i2;have a9:=d6.upd b7 zd zd;have a4:=d4.upd b7 zd zd zd zd;have g3:=a4.len;have s7:w7.cell? (nA mb 2)=some a7/\w7.cell? (adr a7 1 q)=some (nth b' q):=⟨a4.blk.cell 2 rfl,by have:=a4.row.sl.cell (i:=q) (j:=0) zo rfl;rwa[ay]at this⟩
   refine zh ?_;refine ae (s7) ?_
   refine zrf 13 rfl (s7) rfl ?_;refine IF 14 zk rfl ?_
   refine aj (j:=1) a9 rfl (LN _) a6.one rfl rfl rfl ?_;have b1:IJ (fun j=>j=4) O7 w7 O7 (w7.setCell ⟨db,1,none⟩ a3):=JH zd a9.tag rfl;have d5:KK O7 (w7.setCell ⟨db,1,none⟩ a3) 4 db #[b3,a3] 91:=a9.set 1 a3;have a0:=a4.upd b1 zd zd zd zd;have g2:=a0.len;have s8:(w7.setCell ⟨db,1,none⟩ a3).cell? (nA mb 2)=some a7/\(w7.setCell ⟨db,1,none⟩ a3).cell? (adr a7 1 q)=some (nth b' q):=⟨a0.blk.cell 2 rfl,by have:=a0.row.sl.cell (i:=q) (j:=0) zo rfl;rwa[ay]at this⟩
   refine zh ?_;refine ae (s8) ?_
   have b4:=a6.upd b1 zd zd;have i1:=i2.upd b1;have d1:=((e5.upd a' zd fun h=>h).upd b7 zd zd).upd b1 zd zd;have a5:=((f5.upd a' zd fun h=>h).upd b7 zd zd).upd b1 zd zd;have b9:IJ (fun q=>1<=q) O1 w1 O7 (w7.setCell ⟨db,1,none⟩ a3):=((d9.trans (a'.mono (fun _ h=>h.elim) zd)).trans (b7.mono (fun j h=>zo) zd)).trans (b1.mono (fun j h=>zo) zd);generalize w7.setCell ⟨db,1,none⟩ a3=w8 at *;have l':=s8.1;refine Jt zk ?_;refine zh ?_;refine zvH (bj a0.row.sl.sh J2 rfl) ?_
   by_cases b5:1000<S1.length
   ·rw[if_pos b5]at c6;rw[<-c6];refine zTH rfl ((decide_eq_true zo)) ?_;refine zv (aE Fl (JN _) rfl (by first|rfl|(simp only[J1,Jb];rfl)) rfl rfl) ?_;refine zsa (us:=#[nS,nS]) a5 (Jq _) ?_;have f9:=a5.setRow (us:=#[nS,nS]);have f6:IJ (fun j=>j=7) O7 w8 O7 (w8.setRow cb #[nS,nS]):=IS zd a5.tag rfl;refine zh ?_;refine aS rfl rfl rfl (f9.cellsAdd) (KL _) (Jq _) (⟨((b2.trans b9).trans (f6.mono (fun j h=>zo) zd)).ext,rfl⟩)
   rw[if_neg b5]at c6;refine zFH rfl ((decide_eq_false zo)) ?_;refine zxd (q+1,O7,w8,a7,b',S1,l2,rows++[r1],i7++[dJ g (nth S q)],i4++[.slice ra r1.length rc],b3,a3) (⟨b2.trans b9,i1,a0,d5,d1,b4,a5,j2 zo,f3,by dsimp only;rw[show 1002-(q+1)=n from by omega];exact c6⟩)
  refine zc Mr (jK w5.drew nb se g (nth S q) _ j4 d0.drew j6 j0) ?_;rintro j8 w9 ⟨rfl,e1⟩;rw[e1];clear e1 w9;refine zh ?_
  refine ae b0 ?_;refine bO 1 11 iV (enc:=fj) (dJ g (nth S q)) rfl rfl zk zk zk zk (fun W hE=>KA (hE.cell j5) (isAgg28 _) rfl) sd rfl rfl rfl zd rfl rfl rfl rfl rfl ?_
  intro j9 w6 c' f';have a':IJ (fun _=>False) O4 w5 O4 w6:=aa (fun h=>h) O4 ((I9 w5).drew.trans f');have c9:=e2.upd a' zd fun h=>h
  have d6:=d7.upd a' zd fun h=>h
  have d4:=a8.upd a' zd (fun h=>h) (fun h=>h) fun h=>h
  have i3:=j1.upd a';refine IF 12 zk rfl ?_;refine aC iV c9 i3 c' (by simp) rfl rfl (by simp) (by simp[I6]) (by simp;omega) (by simp;omega) zd rfl ?_;intro a3 w7 O7 a6 b7 i2;have a9:=d6.upd b7 zd zd;have a4:=d4.upd b7 zd zd zd zd;have g3:=a4.len;have s7:w7.cell? (nA mb 2)=some a7/\w7.cell? (adr a7 1 q)=some (nth b' q):=⟨a4.blk.cell 2 rfl,by have:=a4.row.sl.cell (i:=q) (j:=0) zo rfl;rwa[ay]at this⟩
  refine zh ?_;refine ae (s7) ?_
  refine zrf 13 rfl (s7) rfl ?_;refine IF 14 zk rfl ?_
  refine aj (j:=1) a9 rfl (LN _) a6.one rfl rfl rfl ?_;have b1:IJ (fun j=>j=4) O7 w7 O7 (w7.setCell ⟨db,1,none⟩ a3):=JH zd a9.tag rfl;have d5:KK O7 (w7.setCell ⟨db,1,none⟩ a3) 4 db #[b3,a3] 91:=a9.set 1 a3;have a0:=a4.upd b1 zd zd zd zd;have g2:=a0.len;have s8:(w7.setCell ⟨db,1,none⟩ a3).cell? (nA mb 2)=some a7/\(w7.setCell ⟨db,1,none⟩ a3).cell? (adr a7 1 q)=some (nth b' q):=⟨a0.blk.cell 2 rfl,by have:=a0.row.sl.cell (i:=q) (j:=0) zo rfl;rwa[ay]at this⟩
  refine zh ?_;refine ae (s8) ?_
  have b4:=a6.upd b1 zd zd;have i1:=i2.upd b1;have d1:=((e5.upd a' zd fun h=>h).upd b7 zd zd).upd b1 zd zd;have a5:=((f5.upd a' zd fun h=>h).upd b7 zd zd).upd b1 zd zd;have b9:IJ (fun q=>1<=q) O1 w1 O7 (w7.setCell ⟨db,1,none⟩ a3):=((d9.trans (a'.mono (fun _ h=>h.elim) zd)).trans (b7.mono (fun j h=>zo) zd)).trans (b1.mono (fun j h=>zo) zd);generalize w7.setCell ⟨db,1,none⟩ a3=w8 at *;have l':=s8.1;refine Jt zk ?_;refine zh ?_;refine zvH (bj a0.row.sl.sh J2 rfl) ?_
  by_cases b5:1000<S1.length
  ·rw[if_pos b5]at c6;rw[<-c6];refine zTH rfl ((decide_eq_true zo)) ?_;refine zv (aE Fl (JN _) rfl (by first|rfl|(simp only[J1,Jb];rfl)) rfl rfl) ?_;refine zsa (us:=#[nS,nS]) a5 (Jq _) ?_;have f9:=a5.setRow (us:=#[nS,nS]);have f6:IJ (fun j=>j=7) O7 w8 O7 (w8.setRow cb #[nS,nS]):=IS zd a5.tag rfl;refine zh ?_;refine aS rfl rfl rfl (f9.cellsAdd) (KL _) (Jq _) (⟨((b2.trans b9).trans (f6.mono (fun j h=>zo) zd)).ext,rfl⟩)
  rw[if_neg b5]at c6;refine zFH rfl ((decide_eq_false zo)) ?_;refine zxd (q+1,O7,w8,a7,b',S1,l2,rows++[r1],i7++[dJ g (nth S q)],i4++[.slice ra r1.length rc],b3,a3) (⟨b2.trans b9,i1,a0,d5,d1,b4,a5,j2 zo,f3,by dsimp only;rw[show 1002-(q+1)=n from by omega];exact c6⟩)
 intro n2;obtain rfl:q=S.length:=dF n2;have k3:CY (cP se g) (dJ g)=some (rows,i7):=by
  rw[<-c6];obtain⟨n,hn⟩:∃n,1002-S.length=n+1:=⟨1001-S.length,zo⟩
  rw[hn,D3,if_neg zo]
 rw[k3];have o1:=d'.row.one;have o2:=e3.one;refine zh ?_;refine zv (ah (us:=[nv,tv]) f4.cellsAdd (KL _) (Jq _) rfl) ?_;refine zsb (us:=#[nv,tv]) e0 (Jq _) (by simp only[J1,o1,o2];rfl) ?_;have f9:=e0.setRow (us:=#[nv,tv]);have f6:IJ (fun j=>j=7) O1 w1 O1 (w1.setRow cb #[nv,tv]):=IS zd e0.tag rfl;have k1:=d'.upd f6 zd zd;have j':=e3.upd f6 zd zd;refine zh ?_;refine aS rfl rfl rfl (f9.cellsAdd) (KL _) (Jq _) (⟨(b2.trans (f6.mono (fun j h=>zo) zd)).ext,nv,tv,rfl,o1,o2,k1.rows,j'.sl⟩)
def zZ(l:List Nat):Nat:=l.foldl max 0
theorem zY(l:List Nat)(x:Nat):zZ (l++[x])=max (zZ l) x:=by unfold zZ;rw[Kb];rfl
theorem DQ{n:Nat}(h0:0<n):∀(l:List Nat),(∀x∈l,x<n)->zZ l<n:=by
 have a0:∀(l:List Nat) (a:Nat),a<n->(∀x∈l,x<n)->l.foldl max a<n:=fun l=>by
  induction l with
  |nil=>exact fun a ha _=>ha
  |cons x l ih=>exact fun a ha h=>ih _ (by have:=h x (by simp);exact Nat.max_lt.2 ⟨ha,this⟩) fun y hy=>h y (by simp[hy])
 exact fun l h=>a0 l 0 h0 h
theorem B6(l:List Nat)(sv:ix)(w:ka)(h:Sl aN 1 w sv l)(a1:0<l.length):Kz IW 51 [sv] w fun v w'=>v=nI ((zZ l:Nat):Int)/\w'=w:=by
 have hl:=h.len_le;have m0:w.cell? (adr sv 1 0)=some (nI ((nth l 0:Nat):Int)):=by have:=h.cell (j:=0) a1 rfl;rwa[ay]at this
 have e1:nth l 0=zZ (l.take 1):=by
  have h1:=aI a1;rw[h1];simp[zZ]
 refine ID func51 ntmps51 rfl rfl ?_;refine zh ?_
 refine zFH rfl ((decide_eq_false zo)) ?_;rw[e1];refine zh ?_
 refine zlp (fun z:Nat=>[(0,sv),(3,nI ((zZ (l.take z):Nat):Int)),(4,nI z)]) (fun z=>w) (fun z=>1<=z/\z<=l.length) (fun z=>l.length-z) 1 (⟨I7 _,a1⟩) ?_;rintro q ⟨a3,hq⟩;refine zh ?_
 refine zC ?_ ?_
 ·intro a0;replace a0:q<l.length:=dT a0;have m1:w.cell? (adr sv 1 q)=some (nI ((nth l q:Nat):Int)):=by have:=h.cell (j:=0) a0 rfl;rwa[ay]at this
  refine zh ?_;refine zvH (jF rfl rfl) ?_
  rw[show max ((zZ (l.take q):Nat):Int) ((nth l q:Nat):Int)=((zZ (l.take (q+1)):Nat):Int)from by rw[aI a0,zY];omega];refine zxd (q+1) (⟨zo,a0⟩)
 intro a2;obtain rfl:q=l.length:=dF a2;rw[IG];refine zh ?_;refine af rfl rfl (⟨rfl,rfl⟩)
theorem B3(l:List Nat)(sv:ix)(w:ka)(h:Sl aN 1 w sv l)(a1:0<l.length):Kz IW 94 [sv] w fun v w'=>(∃k:Nat,v=nI (k:Int))/\w'=w:=by
 have hl:=h.len_le;have m0:w.cell? (adr sv 1 0)=some (nI ((nth l 0:Nat):Int)):=by have:=h.cell (j:=0) a1 rfl;rwa[ay]at this
 refine ID func94 ntmps94 rfl rfl ?_;refine zh ?_
 refine zFH rfl ((decide_eq_false zo)) ?_;refine zlp (fun z:Nat×Nat=>[(0,sv),(3,nI ((z.2:Nat):Int)),(4,nI z.1)]) (fun z=>w) (fun z=>1<=z.1/\z.1<=l.length) (fun z=>l.length-z.1) (1,nth l 0) (⟨I7 _,a1⟩) ?_
 rintro⟨q,k⟩ ⟨a2,hq⟩;dsimp only at a2 hq ⊢;refine zh ?_;refine zC ?_ ?_
 ·intro a0;replace a0:q<l.length:=dT a0;have m1:w.cell? (adr sv 1 q)=some (nI ((nth l q:Nat):Int)):=by have:=h.cell (j:=0) a0 rfl;rwa[ay]at this
  refine zh ?_;refine zvH (Fh rfl rfl) ?_
  rw[show min ((k:Nat):Int) ((nth l q:Nat):Int)=((min k (nth l q):Nat):Int)from by omega];refine zxd (q+1,min k (nth l q)) (⟨by dsimp only;omega,a0⟩)
 intro a3;refine zh ?_;refine af rfl rfl (⟨⟨k,rfl⟩,rfl⟩)
structure RightD(rows:List (List Nat))(tls:List Nat):Prop where
 pos:0<rows.length
 le:rows.length<=1000
 tl:tls.length=rows.length
 row:∀j,j<rows.length->(nth rows j).length=37/\∀m,m<37->nth (nth rows j) m<rows.length
theorem DI.right{step:List Int->Int->List Int}{a0:List Int->Nat}{S:List (List Int)}{rows:List (List Nat)}{a1:List Nat}(h:DI step a0 S.length S rows a1):RightD rows a1:=by
 have h1:=h.rl;have h2:=h.p0;have h3:=h.len;exact⟨zo,zo,by rw[h.tl,h1],fun j hj=>⟨(h.row j zo).1,fun m hm=>by have:=((h.row j zo).2 m hm).1;omega⟩⟩
theorem jB(nv tv:ix)(rows:List (List Nat))(a5:List Nat)(w:ka)(hn:RowsN w nv rows)(b0:Sl fj 1 w tv a5)(hr:RightD rows a5):Kz IW 62 [.agg #[nv,tv]] w fun v w'=>v=.bool true/\K5 w w':=by
 obtain⟨vs,a7,b1,a8⟩:=hn;have a4:=hr.pos;have b3:=hr.le;have a9:=hr.tl;refine ID func62 ntmps62 rfl rfl ?_;refine zh ?_;refine aF (aw w) 1 zo rfl rfl ?_;intro db w1 O1 a6 b5 b6 a2;have c0:w1.cell? (nA db 0)=some nv:=a6.cell 0 rfl;have c1:w1.cell? (nA db 1)=some tv:=a6.cell 1 rfl;have a3:=a7.ext a2;have a':=b0.ext a2;refine zh ?_;refine au (d:=11) rfl (b':=false) ((by rw[beq_eq_false_iff_ne];omega)) ?_;refine zh ?_;refine au (d:=15) rfl (b':=false) ((decide_eq_false zo)) ?_;refine zh ?_;refine zFH rfl ((by rw[bne_eq_false_iff_eq];omega)) ?_;refine zlp (fun z:Nat×ka=>[(3,nI vs.length),(23,nv),(24,nI vs.length),(25,nI z.1)]) (fun z=>z.2) (fun z=>z.1<=vs.length/\z.2=w1) (fun z=>vs.length-z.1) (0,w1) (⟨I5 _,rfl⟩) ?_;rintro⟨q,w2⟩ ⟨hq,rfl⟩;dsimp only at hq ⊢;refine zh ?_;refine zC ?_ ?_
 ·intro a1;replace a1:q<vs.length:=dT a1;have m1:w2.cell? (adr nv 1 q)=some (nth vs q):=by have:=a3.cell (j:=0) a1 rfl;rwa[ay]at this
  obtain⟨r1,r2⟩:=hr.row q zo;have hk:=(a8 q zo).ext a2;have b2:zZ (nth rows q)<rows.length:=DQ a4 _ fun x hx=>by
   obtain⟨j,hj,rfl⟩:=IC hx;exact r2 j zo
  refine zh ?_;refine au (d:=32) rfl (b':=false) ((by rw[r1];rfl)) ?_
  refine zh ?_;refine zc call94 (B3 (nth rows q) _ w2 hk zo) ?_
  rintro v w9 ⟨⟨k,rfl⟩,a0⟩;rw[a0];clear a0 w9;refine zh ?_;refine au (d:=37) rfl (b':=false) ((decide_eq_false zo)) ?_;refine zh ?_;refine zc call51 (B6 (nth rows q) _ w2 hk zo) ?_;rintro v w9 ⟨rfl,a0⟩;rw[a0];clear a0 w9;refine zh ?_;refine zFH rfl ((decide_eq_false zo)) ?_;refine zxd (q+1,w2) (⟨a1,rfl⟩)
 intro b4;refine zh ?_;refine af rfl rfl (⟨rfl,a2⟩)
def runN(nx:Nat->Nat->Nat)(w:List Nat)(q:Nat):Nat:=w.foldl nx q
def Alike(nx:Nat->Nat->Nat)(tl:Nat->Nat)(p q:Nat):Prop:=∀w:List Nat,(∀m∈w,m<37)->tl (runN nx w p)=tl (runN nx w q)
theorem Alike.step{nx:Nat->Nat->Nat}{tl:Nat->Nat}{p q:Nat}(h:Alike nx tl p q){m:Nat}(hm:m<37):Alike nx tl (nx p m) (nx q m):=fun w hw=>h (m::w) fun x hx=>by
 rcases KF.1 hx with rfl|hx
 ·exact hm
 exact hw x hx
theorem Alike.symm{nx:Nat->Nat->Nat}{tl:Nat->Nat}{p q:Nat}(h:Alike nx tl p q):Alike nx tl q p:=fun w hw=>(h w hw).symm
structure Blk(nx:Nat->Nat->Nat)(tl:Nat->Nat)(n:Nat)(bl:List Nat)(st:Nat->List Nat)(many:Nat):Prop where
 len:bl.length=n
 lt:∀i,i<n->nth bl i<many
 mem:∀b,b<many->∀x,x∈st b↔x<n/\nth bl x=b
 nd:∀b,b<many->(st b).Nodup
 ne:∀b,b<many->st b≠[]
 told:∀p q,p<n->q<n->nth bl p=nth bl q->tl p=tl q
 alike:∀p q,p<n->q<n->Alike nx tl p q->nth bl p=nth bl q
theorem Blk.many_le{nx:Nat->Nat->Nat}{tl:Nat->Nat}{n:Nat}{bl:List Nat}{st:Nat->List Nat}{many:Nat}(h:Blk nx tl n bl st many):many<=n:=by
 have a0:∀b,b<many->(st b).headD 0∈st b:=fun b hb=>by
  have:=h.ne b hb
  cases hs:st b with
  |nil=>exact absurd hs this
  |cons a r=>simp
 have a1:((Jp many).map fun b=>(st b).headD 0).Nodup:=by
  refine Lv.2 (Mj ?_ LA);intro a b ha hb a2 e;have ha:=Ji.1 ha;have hb:=Ji.1 hb;have h1:=((h.mem a ha _).1 (a0 a ha)).2;have h2:=((h.mem b hb _).1 (a0 b hb)).2;exact a2 (by rw[<-h1,<-h2,e])
 have:=fW a1 (n:=n) fun x hx=>by
  obtain⟨b,hb,rfl⟩:=Jj.1 hx;have hb:=Ji.1 hb;exact((h.mem b hb _).1 (a0 b hb)).1
 simpa using this
def Pend(nx:Nat->Nat->Nat)(n:Nat)(bl:List Nat)(td:Nat->Nat->Prop)(m0:Nat)(P0:Nat->Prop)(a0:Nat->Prop):Prop:=
 ∀p q m,p<n->q<n->m<37->nth bl p=nth bl q->nth bl (nx p m)≠nth bl (nx q m)->(td (nth bl (nx p m)) m\/td (nth bl (nx q m)) m)\/(m=m0/\¬(P0 p↔P0 q)/\a0 (nth bl p))
def Todo(nx:Nat->Nat->Nat)(n:Nat)(bl:List Nat)(td:Nat->Nat->Prop):Prop:=
 ∀p q m,p<n->q<n->m<37->nth bl p=nth bl q->nth bl (nx p m)≠nth bl (nx q m)->td (nth bl (nx p m)) m\/td (nth bl (nx q m)) m
theorem Todo.take{nx:Nat->Nat->Nat}{n:Nat}{bl:List Nat}{td a1:Nat->Nat->Prop}(h:Todo nx n bl td)(b0 m0:Nat)(ht:∀b m,td b m->a1 b m\/(b=b0/\m=m0))(a2:Nat->Prop)(hr:∀p,p<n->nth bl (nx p m0)=b0->a2 (nth bl p)):
  Pend nx n bl a1 m0 (fun p=>nth bl (nx p m0)=b0) a2:=fun p q m hp hq hm e a0=>by
 rcases h p q m hp hq hm e a0 with h1|h1
 ·rcases ht _ _ h1 with h2|⟨h2,rfl⟩
  ·exact .inl (.inl h2)
  exact .inr ⟨rfl,fun hi=>a0 (by rw[h2,hi.1 h2]),hr p hp h2⟩
 rcases ht _ _ h1 with h2|⟨h2,rfl⟩
 ·exact .inl (.inr h2)
 exact .inr ⟨rfl,fun hi=>a0 (by rw[h2,hi.2 h2]),by rw[e];exact hr q hq h2⟩
theorem Pend.done{nx:Nat->Nat->Nat}{n:Nat}{bl:List Nat}{td:Nat->Nat->Prop}{m0:Nat}{P0 a0:Nat->Prop}(h:Pend nx n bl td m0 P0 a0)(hr:∀b,¬a0 b):Todo nx n bl td:=fun p q m hp hq hm e a1=>by
 rcases h p q m hp hq hm e a1 with h1|⟨_,_,h1⟩
 ·exact h1
 exact absurd h1 (hr _)
theorem Pend.whole{nx:Nat->Nat->Nat}{n:Nat}{bl:List Nat}{td:Nat->Nat->Prop}{m0:Nat}{P0 a1 a0:Nat->Prop}(h:Pend nx n bl td m0 P0 a1){k:Nat}(hk:∀p,p<n->nth bl p=k->P0 p)(hr:∀b,a1 b->b=k\/a0 b):Pend nx n bl td m0 P0 a0:=fun p q m hp hq hm e a2=>by
 rcases h p q m hp hq hm e a2 with h1|⟨h1,h2,h3⟩
 ·exact .inl h1
 rcases hr _ h3 with h4|h4
 ·exact absurd ⟨fun _=>hk q hq (e.symm.trans h4),fun _=>hk p hp h4⟩ h2
 exact .inr ⟨h1,h2,h4⟩
structure Cut(n:Nat)(bl bl':List Nat)(st st':Nat->List Nat)(many k:Nat)(L:List Nat):Prop where
 len:bl'.length=n
 bl:∀x,x<n->nth bl' x=if x∈L then many else nth bl x
 new:st' many=L
 old:st' k=(st k).filter fun x=>!(L.contains x)
 oth:∀b,b≠many->b≠k->st' b=st b
theorem Blk.cut{nx:Nat->Nat->Nat}{tl:Nat->Nat}{n:Nat}{bl a4:List Nat}{st a6:Nat->List Nat}{many k:Nat}{L:List Nat}(h:Blk nx tl n bl st many)(c:Cut n bl a4 st a6 many k L)(hk:k<many)(hL:∀x∈L,x<n/\nth bl x=k)(a':L.Nodup)(b0:L≠[])(b1:L.length<(st k).length) 
  (a9:∀p q,p<n->q<n->Alike nx tl p q->p∈L->q∈L):Blk nx tl n a4 a6 (many+1):=by
 have a0:∀x,x<n->x∉L->nth a4 x=nth bl x:=fun x hx hn=>by rw[c.bl x hx,if_neg hn]
 have a3:∀x,x<n->x∈L->nth a4 x=many:=fun x hx hn=>by rw[c.bl x hx,if_pos hn]
 refine⟨c.len,fun i hi=>?_,fun b hb x=>?_,fun b hb=>?_,fun b hb=>?_,fun p q hp hq e=>?_,fun p q hp hq ha=>?_⟩
 ·have:=h.lt i hi
  by_cases a7:i∈L
  ·rw[a3 i hi a7];omega
  rw[a0 i hi a7];omega
 ·by_cases a1:b=many
  ·subst a1;rw[c.new]
   constructor
   ·intro hx;exact⟨(hL x hx).1,a3 x (hL x hx).1 hx⟩
   rintro⟨hx,e⟩;refine IN fun hn=>?_
   rw[a0 x hx hn]at e;have:=h.lt x hx;omega
  have a8:b<many:=zo
  by_cases a2:b=k
  ·subst a2;rw[c.old,IY,h.mem b a8 x]
   constructor
   ·rintro⟨⟨h1,h2⟩,h3⟩;have hn:x∉L:=by simpa using h3
    exact⟨h1,by rw[a0 x h1 hn];exact h2⟩
   rintro⟨h1,h2⟩;have hn:x∉L:=fun hx=>by rw[a3 x h1 hx]at h2;omega
   exact⟨⟨h1,by rw[<-a0 x h1 hn];exact h2⟩,by simpa using hn⟩
  rw[c.oth b a1 a2,h.mem b a8 x]
  constructor
  ·rintro⟨h1,h2⟩;have hn:x∉L:=fun hx=>a2 (by rw[<-h2];exact(hL x hx).2)
   exact⟨h1,by rw[a0 x h1 hn];exact h2⟩
  rintro⟨h1,h2⟩;have hn:x∉L:=fun hx=>a1 (by rw[<-h2];exact a3 x h1 hx)
  exact⟨h1,by rw[<-a0 x h1 hn];exact h2⟩
 ·by_cases a1:b=many
  ·subst a1;rw[c.new];exact a'
  by_cases a2:b=k
  ·subst a2;rw[c.old];exact(h.nd b zo).filter _
  rw[c.oth b a1 a2];exact h.nd b zo
 ·by_cases a1:b=many
  ·subst a1;rw[c.new];exact b0
  by_cases a2:b=k
  ·subst a2;rw[c.old];intro e;have a5:st b ⊆ L:=fun x hx=>by
    refine IN fun hn=>?_
    have:x∈(st b).filter fun x=>!(L.contains x):=IY.2 ⟨hx,by simpa using hn⟩
    rw[e]at this;simp at this
   have:=(h.nd b zo).length_le_of_subset a5;omega
  rw[c.oth b a1 a2];exact h.ne b zo
 ·refine h.told p q hp hq ?_
  by_cases h1:p∈L
  ·by_cases h2:q∈L
   ·rw[(hL p h1).2,(hL q h2).2]
   rw[a3 p hp h1,a0 q hq h2]at e;have:=h.lt q hq;omega
  by_cases h2:q∈L
  ·rw[a0 p hp h1,a3 q hq h2]at e;have:=h.lt p hp;omega
  rw[a0 p hp h1,a0 q hq h2]at e;exact e
 by_cases h1:p∈L
 ·rw[a3 p hp h1,a3 q hq (a9 p q hp hq ha h1)]
 have h2:q∉L:=fun hx=>h1 (a9 q p hq hp ha.symm hx)
 rw[a0 p hp h1,a0 q hq h2];exact h.alike p q hp hq ha
theorem Pend.cut{nx:Nat->Nat->Nat}{tl:Nat->Nat}{n:Nat}{bl a6:List Nat}{st b4:Nat->List Nat}{many k m0:Nat}{L:List Nat}{td a3:Nat->Nat->Prop}{P0 a' a5:Nat->Prop}(hB:Blk nx tl n bl st many)(h:Pend nx n bl td m0 P0 a')(c:Cut n bl a6 st b4 many k L)(_:k<many) 
  (b2:∀p m,p<n->m<37->nx p m<n) (hL:∀x,x∈L↔x<n/\nth bl x=k/\P0 x)
  (ht:∀b m,td b m->a3 b m) (b5:∀m,m<37->td k m->a3 many m) (b1:∀m,m<37->a3 many m\/a3 k m) (hr:∀b,a' b->b=k\/a5 b):Pend nx n a6 a3 m0 P0 a5:=fun p q m hp hq hm e b3=>by
 have a0:∀x,x<n->x∉L->nth a6 x=nth bl x:=fun x hx hn=>by rw[c.bl x hx,if_neg hn]
 have a2:∀x,x<n->x∈L->nth a6 x=many:=fun x hx hn=>by rw[c.bl x hx,if_pos hn]
 have a4:∀x,x∈L->nth bl x=k:=fun x hx=>((hL x).1 hx).2.1
 have a1:nth bl p=nth bl q/\(p∈L↔q∈L):=by
  by_cases h1:p∈L
  ·by_cases h2:q∈L
   ·exact⟨by rw[a4 p h1,a4 q h2],by simp[h1,h2]⟩
   rw[a2 p hp h1,a0 q hq h2]at e;have:=hB.lt q hq;omega
  by_cases h2:q∈L
  ·rw[a0 p hp h1,a2 q hq h2]at e;have:=hB.lt p hp;omega
  rw[a0 p hp h1,a0 q hq h2]at e;exact⟨e,by simp[h1,h2]⟩
 have hx:=b2 p m hp hm;have hy:=b2 q m hq hm;have hh:=h p q m hp hq hm a1.1;generalize nx p m=x at *;generalize nx q m=y at *;have b0:∀z,z<n->td (nth bl z) m->a3 (nth a6 z) m:=fun z hz a9=>by
  by_cases h1:z∈L
  ·rw[a2 z hz h1];rw[a4 z h1]at a9;exact b5 m hm a9
  rw[a0 z hz h1];exact ht _ _ a9
 by_cases a7:nth bl x=nth bl y
 ·by_cases h1:x∈L
  ·by_cases h2:y∈L
   ·exact absurd (by rw[a2 x hx h1,a2 y hy h2]) b3
   have e1:=a4 x h1;rw[a2 x hx h1,a0 y hy h2,<-a7,e1];exact .inl (b1 m hm)
  by_cases h2:y∈L
  ·have e1:=a4 y h2;rw[a2 y hy h2,a0 x hx h1,a7,e1];exact .inl ((b1 m hm).symm)
  exact absurd (by rw[a0 x hx h1,a0 y hy h2,a7]) b3
 rcases hh a7 with(h1|h1)|⟨h1,h2,h3⟩
 ·exact .inl (.inl (b0 x hx h1))
 ·exact .inl (.inr (b0 y hy h1))
 by_cases a8:nth bl p=k
 ·exact absurd ⟨fun a=>((hL q).1 (a1.2.1 ((hL p).2 ⟨hp,a8,a⟩))).2.2,fun a=>((hL p).1 (a1.2.2 ((hL q).2 ⟨hq,by rw[<-a1.1];exact a8,a⟩))).2.2⟩ h2
 have b6:p∉L:=fun a=>a8 (a4 p a)
 rcases hr _ h3 with h4|h4
 ·exact absurd h4 a8
 exact .inr ⟨h1,h2,by rw[a0 p hp b6];exact h4⟩
theorem Blk.final{nx:Nat->Nat->Nat}{tl:Nat->Nat}{n:Nat}{bl:List Nat}{st:Nat->List Nat}{many:Nat}(h:Blk nx tl n bl st many)(ht:Todo nx n bl fun _ _=>False)(a0:∀p m,p<n->m<37->nx p m<n)(p q:Nat)(hp:p<n)(hq:q<n):nth bl p=nth bl q↔Alike nx tl p q:=by
 refine⟨fun e w=>?_,h.alike p q hp hq⟩
 induction w generalizing p q with
 |nil=>exact fun _=>h.told p q hp hq e
 |cons m w ih=>
  intro hw;have hm:=hw m (by simp);refine ih (nx p m) (nx q m) (a0 p m hp hm) (a0 q m hq hm) (IN fun a1=>?_) fun x hx=>hw x (by simp[hx])
  rcases ht p q m hp hq hm e a1 with h1|h1<;>exact h1
section
variable(cl:Nat→Nat)(nx:Nat→Nat→Nat)
def vL(F:List Nat)(t:Nat):Option Nat:=F.findIdx? fun o=>cl o==cl t
def fnI(F:List Nat)(t:Nat):Nat:=(vL cl F t).getD F.length
def fnF(F:List Nat)(t:Nat):List Nat:=if(vL cl F t).isSome=true then F else F++[t]
def jb(p:Nat)(F:List Nat):Nat->List Nat×List Nat
 |0=>(F,[])
 |m+1=>(fnF cl (jb p F m).1 (nx p m),(jb p F m).2++[fnI cl (jb p F m).1 (nx p m)])
end
theorem AC{cl:Nat->Nat}{F:List Nat}{t k:Nat}(h:vL cl F t=some k):k<F.length/\cl (nth F k)=cl t:=by
 obtain⟨h1,h2,_⟩:=Jg.1 h;exact⟨h1,by rw[aB h1];simpa using h2⟩
theorem AE{cl:Nat->Nat}{F:List Nat}{t:Nat}(h:vL cl F t=none):∀o∈F,cl o≠cl t:=by
 intro o ho e;have:=List.findIdx?_eq_none_iff.1 h o ho;simp[e]at this
theorem D0(cl:Nat->Nat)(F:List Nat)(t:Nat):∃r,fnF cl F t=F++r:=by
 unfold fnF
 split
 ·exact⟨[],by simp⟩
 exact⟨_,rfl⟩
theorem FZ(cl:Nat->Nat)(F:List Nat)(t:Nat):fnI cl F t<(fnF cl F t).length/\cl (nth (fnF cl F t) (fnI cl F t))=cl t:=by
 unfold fnI fnF
 cases h:vL cl F t with
 |some k=>exact AC h
 |none=>
  simp only[Lm,L1,K6,if_false];exact⟨by simp,by rw[aA,if_neg zo,JC,ax]⟩
structure Reps(cl:Nat->Nat)(n:Nat)(F:List Nat):Prop where
 lt:∀o∈F,o<n
 nd:F.Pairwise fun a b=>cl a≠cl b
theorem Reps.add{cl:Nat->Nat}{n:Nat}{F:List Nat}(h:Reps cl n F){t:Nat}(ht:t<n):Reps cl n (fnF cl F t):=by
 unfold fnF
 cases hf:vL cl F t with
 |some k=>exact h
 |none=>
  have a0:=AE hf
  exact⟨fun o ho=>by
   rcases IT.1 ho with ho|ho
   ·exact h.lt o ho
   rw[I0.1 ho];exact ht,L2.2 ⟨h.nd,by simp,fun a ha b hb=>by rw[I0.1 hb];exact a0 a ha⟩⟩
theorem Reps.len{cl:Nat->Nat}{n:Nat}{F:List Nat}(h:Reps cl n F):F.length<=n:=
 fW (h.nd.imp fun {a b} a0 e=>a0 (by rw[e])) h.lt
structure RowR(cl:Nat->Nat)(nx:Nat->Nat->Nat)(n p:Nat)(F F' r:List Nat)(m:Nat):Prop where
 pre:∃q,F'=F++q
 len:r.length=m
 lt:∀j,j<m->nth r j<F'.length/\cl (nth F' (nth r j))=cl (nx p j)
 reps:Reps cl n F'
theorem qb{cl:Nat->Nat}{nx:Nat->Nat->Nat}{n p:Nat}{F:List Nat}(hF:Reps cl n F)(a3:∀m,m<37->nx p m<n):∀m,m<=37->RowR cl nx n p F (jb cl nx p F m).1 (jb cl nx p F m).2 m
 |0,_=>⟨⟨[],by simp[jb]⟩,rfl,fun j hj=>absurd hj (I1 j),hF⟩
 |m+1,hm=>by
  have ih:=qb hF a3 m zo;unfold jb;generalize jb cl nx p F m=R at *;obtain⟨F1,r⟩:=R;dsimp only at ih ⊢;obtain⟨q,hq⟩:=ih.pre;obtain⟨q2,a0⟩:=D0 cl F1 (nx p m);have a5:=FZ cl F1 (nx p m);have a4:=ih.len;have a6:F1.length<=(fnF cl F1 (nx p m)).length:=by rw[a0];simp
  refine⟨⟨q++q2,by rw[a0,hq,J5]⟩,by simp[a4],fun j hj=>?_,ih.reps.add (a3 m zo)⟩;rw[aA]
  by_cases e:j<r.length
  ·rw[if_pos e];obtain⟨a1,a2⟩:=ih.lt j zo;exact⟨zo,by rw[a0,aA,if_pos a1];exact a2⟩
  rw[if_neg e,show j-r.length=0 from by omega,ax];obtain rfl:j=m:=zo;exact a5
def fe(cl:Nat->Nat)(nx:Nat->Nat->Nat)(tl:Nat->Nat):Nat->Nat->List Nat->List (List Nat)->List Nat->List (List Nat)×List Nat
 |0,_,_,rows,tls=>(rows,tls)
 |n+1,i,F,rows,tls=>
  if i<F.length then fe cl nx tl n (i+1) (jb cl nx (nth F i) F 37).1 (rows++[(jb cl nx (nth F i) F 37).2]) (tls++[tl (nth F i)])
  else(rows,tls)
def nxD(rows:List (List Nat))(q m:Nat):Nat:=nth (nth rows q) m
def cL(cl:Nat->Nat)(rows:List (List Nat))(a0:List Nat):List (List Nat)×List Nat:=fe cl (nxD rows) (nth a0) (rows.length+1) 0 [0] [] []
structure LI(cl:Nat->Nat)(nx:Nat->Nat->Nat)(tl:Nat->Nat)(n i:Nat)(F:List Nat)(rows:List (List Nat))(tls:List Nat):Prop where
 le:i<=F.length
 rl:rows.length=i
 tln:tls.length=i
 p0:0<F.length
 fst:nth F 0=0
 reps:Reps cl n F
 row:∀j,j<i->(nth rows j).length=37/\∀m,m<37->nth (nth rows j) m<F.length/\cl (nth F (nth (nth rows j) m))=cl (nx (nth F j) m)
 tel:∀j,j<i->nth tls j=tl (nth F j)
theorem qW{cl:Nat->Nat}{nx:Nat->Nat->Nat}{tl:Nat->Nat}{n:Nat}(h0:0<n):LI cl nx tl n 0 [0] [] []:=⟨zd,rfl,rfl,zd,ax _ _,⟨fun o ho=>by rw[I0.1 ho];exact h0,by simp⟩,fun j hj=>absurd hj (I1 j),fun j hj=>absurd hj (I1 j)⟩
theorem LI.next{cl:Nat->Nat}{nx:Nat->Nat->Nat}{tl:Nat->Nat}{n i:Nat}{F:List Nat}{rows:List (List Nat)}{a3:List Nat}(h:LI cl nx tl n i F rows a3)(hi:i<F.length)(a4:∀p m,p<n->m<37->nx p m<n):
  LI cl nx tl n (i+1) (jb cl nx (nth F i) F 37).1 (rows++[(jb cl nx (nth F i) F 37).2]) (a3++[tl (nth F i)]):=by
 have hr:=qb (p:=nth F i) h.reps (fun m hm=>a4 (nth F i) m (h.reps.lt _ (aM hi)) hm) 37 (I7 _);generalize jb cl nx (nth F i) F 37=R at *;obtain⟨F1,r⟩:=R;dsimp only at hr ⊢;obtain⟨q,hq⟩:=hr.pre;have a0:∀k,k<F.length->nth F1 k=nth F k:=fun k hk=>by rw[hq,aA,if_pos hk]
 have a5:F.length<=F1.length:=by rw[hq];simp
 have h1:=h.rl;have h2:=h.tln;have h3:=h.p0;refine⟨zo,by simp[h1],by simp[h2],zo,by rw[a0 0 h3];exact h.fst,hr.reps,fun j hj=>?_,fun j hj=>?_⟩
 ·rw[aA]
  by_cases e:j<rows.length
  ·rw[if_pos e];obtain⟨a1,a2⟩:=h.row j zo;refine⟨a1,fun m hm=>?_⟩;obtain⟨b1,b2⟩:=a2 m hm;exact⟨zo,by rw[a0 _ b1,a0 j zo];exact b2⟩
  rw[if_neg e,show j-rows.length=0 from by omega,ax];obtain rfl:j=i:=zo;refine⟨hr.len,fun m hm=>?_⟩;obtain⟨b1,b2⟩:=hr.lt m hm;exact⟨b1,by rw[a0 j hi];exact b2⟩
 rw[aA]
 by_cases e:j<a3.length
 ·rw[if_pos e,a0 j zo];exact h.tel j zo
 rw[if_neg e,show j-a3.length=0 from by omega,ax];obtain rfl:j=i:=zo;rw[a0 j hi]
theorem jx{cl:Nat->Nat}{nx:Nat->Nat->Nat}{tl:Nat->Nat}{n:Nat}(a1:∀p m,p<n->m<37->nx p m<n):∀(f i:Nat) (F:List Nat) (rows:List (List Nat)) (a0:List Nat),LI cl nx tl n i F rows a0->n+1<=i+f->∃F',LI cl nx tl n F'.length F' (fe cl nx tl f i F rows a0).1 (fe cl nx tl f i F rows a0).2
 |0,i,F,rows,a0,h,hf=>by have:=h.le;have:=h.reps.len;omega
 |f+1,i,F,rows,a0,h,hf=>by
  unfold fe
  split
  ·rename_i hi;exact jx a1 f (i+1) _ _ _ (h.next hi a1) zo
  rename_i hi;have:=h.le;obtain rfl:i=F.length:=zo;exact⟨F,h⟩
def Il(F:MX)(cs:Array ix)(i:Nat)(_:Nat)(O:Nat->Nat)(w:ka)(l:List Nat)(q:Nat->Bool):Prop:=
 ∀x∈l,∀(O':Nat->Nat) (W:ka),IJ (fun k=>k=i) O w O' W->Kz IW F ([nI (x:Nat)]++cs.toList) W fun v W'=>v=.bool (q x)/\K5 W W'
theorem oo{F:MX}(hF:∀(args:Array ix) (w:ka),(callFunc F args).run IW w=.ok (.enter F args) w)(cs:Array ix)(B:Nat)(O:Nat->Nat)(w:ka)(i:Nat)(sv:ix)(l:List Nat)(q:Nat->Bool)(hi:i≠0)(_:K0 B O w)(hr:IX aN 3 1 O w i sv l)(hq:Il F cs i B O w l q):
  Kz IW 148 [sv,.func (.func F) #[] cs] w fun v w'=>v=nI (dw (fun j=>q (nth l j)) l.length)/\K5 w w':=by
 have hl:=hr.sl.len_le;refine ID func148 ntmps148 rfl rfl ?_;refine zh ?_;refine zvH (bj hr.sl.sh I8 rfl) ?_;refine zlp (fun x:Nat×ka=>[(0,sv),(1,.func (.func F) #[] cs),(7,nI l.length),(8,nI x.1)]) (fun x=>x.2) (fun x=>x.1<=l.length/\K5 w x.2/\∀j,j<x.1->q (nth l j)=false) (fun x=>l.length-x.1) (0,w) (⟨I5 _,I9 _,fun i hi=>absurd hi (I1 i)⟩) ?_;rintro⟨k,w1⟩ ⟨hk,hE,a1⟩;dsimp only at hk hE a1 ⊢;have h1:=hr.sl.ext hE;refine zh ?_;refine zC ?_ ?_
 ·intro a0;replace a0:k<l.length:=dT a0;have m1:w1.cell? (adr sv 1 k)=some (nI ((nth l k:Nat):Int)):=by have:=h1.cell (j:=0) a0 rfl;rwa[ay]at this
  refine zh ?_;refine dq rfl hF rfl (hq _ (aM a0) O w1 (aa (fun e=>hi e.symm) O hE)) rfl ?_
  rintro v w2 ⟨rfl,a3⟩;refine zh ?_;refine zC ?_ ?_
  ·intro hy;refine zh ?_;refine af rfl rfl (⟨by rw[ct (q:=fun j=>q (nth l j)) a0 hy a1],hE.trans a3⟩)
  intro hy;refine zh ?_;refine zxd (k+1,w2) (⟨a0,hE.trans a3,fun i hi=>(Nat.lt_succ_iff_lt_or_eq.1 hi).elim (a1 i) (fun e=>by rw[e];exact hy)⟩)
 intro a2;replace a2:l.length<=k:=dF a2;refine zh ?_;refine af rfl rfl (⟨by rw[cn (q:=fun j=>q (nth l j)) fun i hi=>a1 i zo],hE⟩)
def gw(q:Nat->Bool)(l:List Nat):List Nat:=l.filter fun x=>!q x
theorem iI{q:Nat->Bool}{l:List Nat}{j:Nat}(h:j<l.length):gw q (l.take (j+1))=gw q (l.take j)++if q (nth l j)=true then []else [nth l j]:=by
 unfold gw;rw[aI h,JF,LD]
 cases q (nth l j)<;>rfl
theorem oy{F:MX}(hF:∀(args:Array ix) (w:ka),(callFunc F args).run IW w=.ok (.enter F args) w)(cs:Array ix)(B:Nat)(O:Nat->Nat)(w:ka)(i:Nat)(sv:ix)(l:List Nat)(q:Nat->Bool)(hi:i≠0)(hR:K0 B O w)(hr:IX aN 3 1 O w i sv l)(hq:Il F cs i B O w l q):
  Kz IW 146 [sv,.func (.func F) #[] cs] w fun v w'=>IX aN 3 1 O w' i v (gw q l)/\IJ (fun k=>k=i) O w O w':=by
 have hl:=hr.sl.len_le;have hz:¬(fun k=>k=i) 0:=fun e=>hi e.symm
 refine ID func146 ntmps146 rfl rfl ?_;refine zh ?_
 refine zc call148 (oo hF cs B O w i sv l q hi hR hr hq) ?_;rintro _ w1 ⟨rfl,d1⟩;have d0:IJ (fun k=>k=i) O w O w1:=aa hz O d1;have c5:IX aN 3 1 O w1 i sv l:=hr.upd (aa (S:=fun _=>False) (fun h=>h) O d1) hi fun h=>h
 refine zh ?_
 by_cases a':iY (fun j=>q (nth l j)) l.length=true
 ·obtain⟨j0,b1,b5,a9⟩:∃j0,j0<l.length/\q (nth l j0)=true/\∀j,j<j0->q (nth l j)=false:=by
   have hf:=(firstN_any (q:=fun j=>q (nth l j)) (n:=l.length)).trans a'
   cases c9:(Jp l.length).find? (fun j=>q (nth l j))with
   |none=>rw[dw,c9]at hf;exact absurd hf zd
   |some k=>
    obtain⟨a1,a2,a3⟩:=List.find?_range_eq_some.1 c9;exact⟨k,Ji.1 a2,a1,fun j hj=>by simpa using a3 j hj⟩
  have b7:dw (fun j=>q (nth l j)) l.length=(j0:Int):=ct b1 b5 a9;rw[b7];have c8:∀j,j<=j0->gw q (l.take j)=l.take j:=fun j=>by
   induction j with
   |zero=>intro _;rfl
   |succ j ih=>
    intro hj;rw[iI zo,ih zo,a9 j zo,aI zo];rfl
  refine zFH rfl ((by rw[beq_eq_false_iff_ne];omega)) ?_;refine zlp (fun z:Nat×Nat×ka×List Nat=>[(0,sv),(1,.func (.func F) #[] cs),(5,nI z.1),(6,nI z.2.1)]) (fun z=>z.2.2.1) (fun z=>z.2.1<=l.length/\z.1<z.2.1/\z.1=(gw q (l.take z.2.1)).length/\z.2.2.2.length=l.length/\z.2.2.2.take z.1=gw q (l.take z.2.1)/\(∀j,z.2.1<=j->j<l.length->nth z.2.2.2 j=nth l j)/\IX aN 3 1 O z.2.2.1 i sv z.2.2.2/\IJ (fun k=>k=i) O w O z.2.2.1) (fun z=>l.length-z.2.1) (j0,j0+1,w1,l) (⟨b1,Nat.lt_succ_self _,by dsimp only;rw[iI b1,b5,if_pos rfl,IK,c8 j0 (I7 _)];simp;omega,rfl,by dsimp only;rw[iI b1,b5,if_pos rfl,IK,c8 j0 (I7 _)],fun _ _ _=>rfl,c5,d0⟩) ?_
  rintro⟨a,j,w2,l2⟩ ⟨hj,d6,ha,b6,a7,a0,b0,b3⟩;dsimp only at hj d6 ha b6 a7 a0 b0 b3 ⊢;have b':=b0.sl;refine zh ?_;refine zC ?_ ?_
  ·intro a4;replace a4:j<l.length:=dT a4;have d3:=a0 j (I7 _) a4;have m1:w2.cell? (adr sv 1 j)=some (nI ((nth l j:Nat):Int)):=by have:=b'.cell (i:=j) (j:=0) zo rfl;rw[ay,d3]at this;exact this
   have a6:=iI (q:=q) a4;refine zh ?_;refine dq rfl hF rfl (hq _ (aM a4) O w2 b3) rfl ?_;rintro v w3 ⟨rfl,d8⟩;have c':IJ (fun _=>False) O w2 O w3:=aa (fun h=>h) O d8;have a5:=b0.upd c' hi fun h=>h
   have b2:=b3.trans (c'.mono (fun _ h=>h.elim) hz);refine zh ?_
   cases c6:q (nth l j)with
   |true=>
    rw[c6,if_pos rfl,IK]at a6;refine zFH rfl rfl ?_;refine zxd (a,j+1,w3,l2) (⟨a4,by dsimp only;omega,by dsimp only;rw[a6];exact ha,b6,by dsimp only;rw[a6];exact a7,fun x h1 h2=>a0 x (by dsimp only at h1;omega) h2,a5,b2⟩)
   |false=>
    rw[c6,if_neg zd]at a6;have b9:=a5.sl;refine zTH rfl rfl ?_;refine My a5 a zo (nth l j) (Jr _) rfl hi rfl rfl rfl rfl ?_;intro w4 d2 d7;refine zh ?_;refine zxd (a+1,j+1,w4,l2.set a (nth l j)) (⟨a4,by dsimp only;omega,by dsimp only;rw[a6,IE,<-ha];rfl,by dsimp only;rw[I3];exact b6,?_,fun x h1 h2=>?_,d2,b2.trans d7⟩)
    ·dsimp only;have d5:a<(l2.set a (nth l j)).length:=by rw[I3];omega
     rw[a6,Ka d5,KT,La (I7 _),a7]
    dsimp only at h1 ⊢;rw[aT zo,if_neg zo];exact a0 x zo h2
  intro d4;obtain rfl:j=l.length:=dF d4;rw[IG]at ha a7;refine zh ?_;refine zv (iS b' I8 (Jr _) rfl rfl a rfl zo) ?_;refine tm b0 a zo (0:Nat) hi I8 (Km) rfl rfl rfl rfl ?_;intro w3 l3 a5 b4 d9 b2;have b8:=a5.short (n:=a) zo;rw[b4,a7]at b8;have b9:=a5.sl;refine zh ?_;refine zvH (lK b9 I8 (Jr _) rfl rfl a rfl zo) ?_;refine af rfl rfl (⟨b8,b3.trans b2⟩)
 have c7:=bY.1 (by simpa using a');have b7:dw (fun j=>q (nth l j)) l.length = -1:=cn c7;rw[b7];have a8:gw q l=l:=Jz.2 fun x hx=>by
  obtain⟨j,hj,rfl⟩:=IC hx;rw[c7 j hj];rfl
 rw[a8];refine zTH rfl rfl ?_;refine af rfl rfl (⟨c5,d0⟩)
theorem Gq:Mk IW 202 dM:=Bp Mv JP zk zk
theorem GE:cB IW 201 #[(0,2),(2,1),(3,1),(4,1),(5,1),(6,1)]:=⟨_,underlying201,fun w=>by kernel_rfl⟩
theorem oU(B:Nat)(O:Nat->Nat)(w:ka)(sb tr:Nat)(td:List ((Int×Int)×Bool))(hR:K0 B O w)(hc:Cell0 O w (nA sb 5) (.map (some tr))\/(O (nA sb 5).block=1/\w.cell? (nA sb 5)=some (.map (some tr))))(hm:Jl dM K4 O w 4 tr td):
  Kz IW 119 [nP sb] w fun v w'=>
   (td=[]/\v=.tuple #[dM (0,0),.bool false]/\IJ (fun q=>q=4) O w O w'/\Jl dM K4 O w' 4 tr td)\/
   ∃b4 k x b3,td=b4++(k,x)::b3/\v=.tuple #[dM k,.bool true]/\IJ (fun q=>q=4) O w O w'/\Jl dM K4 O w' 4 tr (oD td k):=by
 obtain⟨T0,d',c'⟩:=hR.bound;obtain⟨T,e3⟩:∃T,T=T0+10:=⟨_,rfl⟩
 have hT:∀b,O b<T:=fun b=>by have:=c' b;omega
 have d4:=hm.tag;have a2:w.cell? (nA sb 5)=some (.map (some tr)):=by
  rcases hc with h|h
  ·exact h.c
  exact h.2
 have d5:O (nA sb 5).block=0\/O (nA sb 5).block=1:=by
  rcases hc with h|h
  ·exact .inl h.z
  exact .inr h.1
 have a3:∀ {S:Nat->Prop} {O':Nat->Nat} {W:ka},IJ S O w O' W->¬S 1->W.cell? (nA sb 5)=some (.map (some tr)):=fun {S O' W} u hS=>by
  refine gZ (u.blk _ (KD w _ a2) ?_) a2
  rcases d5 with h|h
  ·rw[h];exact u.z
  rw[h];exact hS
 refine ID func119 ntmps119 rfl rfl ?_;refine zh ?_
 refine ar hR T zo (Lq _) rfl ?_;intro cb w1 O1 a1 c9 e2 e6;have d9:=hm.upd c9 zd zo;have c1:=a3 c9 zo;refine zh ?_
 refine nH d9 Mw e2 (T+1) zo zd rfl rfl ?_;intro q w2 O2 d3 d0 b0 e1;have a5:IJ (fun k=>T<=k) O w O2 w2:=(c9.mono (fun _ h=>zo) zo).trans (b0.mono (fun _ h=>zo) zo);have c2:=a3 a5 zo;refine zh ?_
 refine zlp (fun x:Unit=>[(0,nP sb),(2,nP cb),(9,nP q)]) (fun x=>w2) (fun x=>True) (fun x=>0) () (trivial) ?_;rintro⟨⟩ -;refine zh ?_
 refine pM d3 zo zo rfl rfl ?_ ?_
 ·intro h0;refine zh ?_;refine zFH rfl rfl ?_;refine zv (dG Mv (Jr _) (Lq _) rfl rfl) ?_;refine zsa (us:=#[nI 0,nI 0]) (a1.upd b0 zo zo) (JX _) ?_;have a8:=a1.upd b0 zo zo;have b8:=a8.setRow (us:=#[nI 0,nI 0]);have a9:IJ (fun k=>T<=k) O2 w2 O2 (w2.setRow cb #[nI 0,nI 0]):=IS zo a8.tag (I7 _);have b9:=a5.trans a9;refine zh ?_;refine aS rfl rfl rfl (b8.cellsAdd) (LO _) (JX _) (.inl ⟨h0,rfl,b9.fgt (fun b h=>by have:=hT b;omega) zd,(d0.upd a9 zd zo).fgt hm.tag⟩)
 intro b4 k x b3 w3 d2 b5 a';obtain⟨k1,k2⟩:=k;refine zh ?_;refine zTH rfl rfl ?_;refine zvH (RV.entry b5 rfl) ?_;have c8:IJ (fun k=>T<=k) O w O2 w3:=a5.trans (a'.mono (fun _ h=>zo) zo);have e0:=e1.upd a';have d8:=d0.upd a' zo zo;refine ar e0 (T+2) zo (Lq _) rfl ?_;intro eb w4 O4 a0 b2 e4 e5;have d7:=d8.upd b2 zo zo;refine zsa (us:=#[nI k1,nI k2]) a0 (JX _) ?_;have a6:=a0.setRow (us:=#[nI k1,nI k2]);have d1:IJ (fun k=>T<=k) O4 w4 O4 (w4.setRow eb #[nI k1,nI k2]):=IS zo a0.tag zo;have b6:=d7.upd d1 zd zo;have a7:=(((a1.upd b0 zo zo).upd a' zo zo).upd b2 zo zo)
 have c6:IJ (fun k=>T+1<=k) O2 w3 O4 (w4.setRow eb #[nI k1,nI k2]):=(b2.mono (fun _ h=>zo) zo).trans (IS zo a0.tag zo);have a7:=((a1.upd b0 zo zo).upd a' zo zo).upd c6 zo zo;have b1:=(c8.trans (b2.mono (fun _ h=>zo) zo)).trans d1;generalize w4.setRow eb #[nI k1,nI k2]=w5 at *;have c5:=a3 b1 zo;refine zh ?_;refine WC.tail 5 rfl rfl zk zk ?_;refine zh ?_;refine zw (ah (us:=[nI k1,nI k2]) a6.drew.cellsAdd (LO _) (JX _) rfl) ?_;refine WS.go ?_;have hm5d:Jl dM K4 O4 w5.drew 4 tr td:=⟨b6.blk,b6.tag,b6.born⟩
 refine WL.delete hm5d Mw Gq zd (k1,k2) rfl rfl rfl ?_;intro w6 d6 b';have b7:=a6.drew.upd b' zo zo;have a4:=a7.drew.upd b' zo zo;have c7:IJ (fun k=>k=4\/T<=k) O w O4 w6:=(b1.drew.mono (fun _ h=>.inr h) zo).trans (b'.mono (fun _ h=>.inl h) zo);refine zh ?_
 refine zv (ah (us:=[nI k1,nI k2]) b7.cellsAdd (LO _) (JX _) rfl) ?_;refine zsa (us:=#[nI k1,nI k2]) a4 (JX _) ?_
 have b8:=a4.setRow (us:=#[nI k1,nI k2]);have a9:IJ (fun k=>k=T) O4 w6 O4 (w6.setRow cb #[nI k1,nI k2]):=IS zo a4.tag rfl;have b9:=c7.trans (a9.mono (fun _ h=>.inr zo) zo);refine zh ?_;refine aS rfl rfl rfl (b8.cellsAdd) (LO _) (JX _) (.inr ⟨b4,(k1,k2),x,b3,d2,rfl,b9.priv hT zd,(d6.upd a9 zd zo).fgt hm.tag⟩)
end Go.Proofs.YtpfpmhhigheccaaGreatDoor
section
namespace Go.Proofs.YtpfpmhhigheccaaGreatDoor
open Go.VL Go.Proofs
set_option maxRecDepth 10000
abbrev KVR:=Int×ix×List Nat
abbrev sH(e:KVR):Int×ix:=(e.1,e.2.1)
theorem uN(E:List KVR)(k:Int)(v:ix)(l:List Nat):(cx E k (v,l)).map sH=cx (E.map sH) k v:=by
 induction E with
 |nil=>rfl
 |cons e r ih=>
  simp only[cx,I4,sH]
  by_cases h:e.1=k
  ·rw[if_pos h,if_pos h];rfl
  rw[if_neg h,if_neg h,I4,ih]
theorem CC(E:List KVR)(k:Int):bm (E.map sH) k=(bm E k).map (·.1):=by
 induction E with
 |nil=>rfl
 |cons e r ih=>
  simp only[bm,I4,sH]
  by_cases h:e.1=k
  ·rw[if_pos h,if_pos h];rfl
  rw[if_neg h,if_neg h];exact ih
structure MpR(base i:Nat)(O:Nat->Nat)(w:ka)(r:Nat)(E:List KVR):Prop where
 map:Jl (fun k:Int=>nI k) (fun v:ix=>v) O w i r (E.map sH)
 row:∀k,k<E.length->IX aN 3 1 O w (base+k) (nth E k).2.1 (nth E k).2.2
theorem MpR.upd{base i:Nat}{S:Nat->Prop}{O O':Nat->Nat}{w w':ka}{r:Nat}{E:List KVR}(h:MpR base i O w r E)(u:IJ S O w O' w')(hi:i≠0)(hb:0<base)(hS:¬S i)(a0:∀k,¬S (base+k)):MpR base i O' w' r E:=
 ⟨h.map.upd u hi hS,fun k hk=>(h.row k hk).upd u zo (a0 k)⟩
def kV(E:List KVR)(k:Int):Nat:=(iN E k).getD E.length
def dj(E:List KVR)(k:Int):List Nat:=((bm E k).map (·.2)).getD []
def Br(E:List KVR)(k:Int):ix:=((bm E k).map (·.1)).getD (nS)
theorem MpR.at{base i:Nat}{O:Nat->Nat}{w:ka}{r:Nat}{E:List KVR}(h:MpR base i O w r E)(k:Int):IX aN 3 1 O w (base+kV E k) (Br E k) (dj E k):=by
 unfold kV Br dj;rw[kI]
 cases ha:iN E k with
 |none=>exact J7 _ _ _ _ _ _
 |some j=>
  obtain⟨x,hx⟩:=ij ha;obtain⟨hj,a0⟩:=Jc.1 hx;have h1:=h.row j hj;rw[aB hj,a0]at h1;simp only[K9,hx,JM,Ll];exact h1
theorem MpR.put{base i:Nat}{O O' O2:Nat->Nat}{w w' w2:ka}{r:Nat}{E:List KVR}(h:MpR base i O w r E)(k:Int){v:ix}{l:List Nat}(_:i≠0)(hb:i<base)(u:IJ (fun q=>q=base+kV E k) O w O' w')(hr:IX aN 3 1 O' w' (base+kV E k) v l) 
  (hm:Jl (fun k:Int=>nI k) (fun v:ix=>v) O2 w2 i r (cx (E.map sH) k v)) (u2:IJ (fun q=>q=i) O' w' O2 w2):MpR base i O2 w2 r (cx E k (v,l)):=by
 refine⟨by rw[uN];exact hm,fun n hn=>?_⟩;have a0:=hr.upd u2 zo zo;have old:∀n,n<E.length->n≠kV E k->IX aN 3 1 O2 w2 (base+n) (nth E n).2.1 (nth E n).2.2:=fun n hn a1=>((h.row n hn).upd u zo zo).upd u2 zo zo
 rw[dY]at hn ⊢
 cases ha:iN E k with
 |none=>
  rw[ha]at hn;dsimp only at hn ⊢;have hs:kV E k=E.length:=by unfold kV;rw[ha];rfl
  rw[hs]at a0 old;rw[IE,Jo]at hn
  by_cases he:n=E.length
  ·subst he;rw[aA,if_neg zo,JC,show nth [((k,v,l):KVR)] 0=(k,v,l)from by rw[aB (Nat.zero_lt_one)];rfl];exact a0
  rw[aA,if_pos zo];exact old n zo he
 |some j=>
  rw[ha]at hn;dsimp only at hn ⊢;have hs:kV E k=j:=by unfold kV;rw[ha];rfl
  rw[hs]at a0 old;rw[I3]at hn;obtain⟨x,hx⟩:=ij ha;obtain⟨hj,_⟩:=Jc.1 hx;rw[aT hj]
  by_cases he:n=j
  ·rw[if_pos he];subst he;exact a0
  rw[if_neg he];exact old n hn he
theorem dI(E:List KVR)(k k':Int)(v:ix)(l:List Nat):dj (cx E k (v,l)) k'=if k=k' then l else dj E k':=by
 unfold dj;rw[aP]
 split<;>rfl
theorem kH(E:List KVR)(k:Int)(x:ix×List Nat):(cx E k x).map (·.1)=if k∈E.map (·.1)then E.map (·.1)else E.map (·.1)++[k]:=by
 induction E with
 |nil=>rfl
 |cons e r ih=>
  simp only[cx]
  by_cases h:e.1=k
  ·rw[if_pos h,if_pos (by simp[h])];simp[h]
  rw[if_neg h,I4,ih];have h':¬k=e.1:=fun e=>h e.symm
  by_cases hm:k∈r.map (·.1)
  ·rw[if_pos hm,if_pos (by rw[I4];exact List.mem_cons_of_mem _ hm)];rfl
  rw[if_neg hm,if_neg (by rw[I4,KF];exact fun h=>h.elim h' hm)];rfl
theorem yk{E:List KVR}(h:(E.map (·.1)).Nodup)(k:Int)(x:ix×List Nat):((cx E k x).map (·.1)).Nodup:=by
 rw[kH]
 split
 ·exact h
 rename_i hk;refine Jh.2 ⟨h,by simp,fun a ha b hb e=>?_⟩;rw[I0]at hb;subst hb;subst e;exact hk ha
end Go.Proofs.YtpfpmhhigheccaaGreatDoor
namespace Go.VL
open Go.Proofs
theorem il{P:J9}{N:Nat}{ops:Array Kc}{S:ka->Prop}{Q:LX->Mu->ka->Prop}{a1:Nat}{a0:Array Bool}{st:St}{w:ka} 
  {T E:IP} {o:Op} {sz a2:Nat} {α:Type} {enc:α->List ix} {y:JR} {t t':IP} {p p':String} {e e':Array LZ} {d d':Nat} {v xv:ix}
  (i j:Nat) (he:LY P T E sz a2) (u:α) (hi:ops[i]? = some ⟨some d,o,t,p,e,none⟩) (hj:ops[j]? = some ⟨some d',.buildSlice T 1 #[(0,y)],t',p',e',none⟩)
  (hr:Ju .any ops a0=[i,j]) (a':Ju .any ops (a0.setIfInBounds i true)=[j]) (a9:Ju .any ops (a0.setIfInBounds j true)=[i])
  (a4:(a0.setIfInBounds j true).setIfInBounds i true=(a0.setIfInBounds i true).setIfInBounds j true)
  (hv:∀w',K5 w w'->RV P N o t st w' v) (hS:∀w',K5 w w'->S w')
  (hy:ev st y=some xv) (a5:xv.cells.toList=enc u) (a6:(enc u).length=sz) (hs:sz<=16777216) (hd:JU d N=true) (a7:JU d' N=true) (b0:Kf d d'=false) (hf:(cf st d').isNone=true) (a8:ev ((d,v)::st) y=some xv)
  (h:∀sv w',Sl enc sz w' sv [u]->K5 w w'->WH P N ops S Q a1 ((a0.setIfInBounds i true).setIfInBounds j true) ((d',sv)::(d,v)::st) w'):WH P N ops S Q (a1+2) a0 st w:=by
 refine bI i j hr hi hj ?_ ?_
 ·refine bG (hv w (I9 w)) hd (IV (ae (hS w (I9 w)) (IF j a' hj ?_)));refine bR he u a8 a5 a6 hs a7 fun sv w' a3 hE=>IV (ae (hS w' hE) (h sv w' a3 hE))
 refine bR he u hy a5 a6 hs a7 fun sv w' a3 hE=>IV (ae (hS w' hE) (IF i a9 hi ?_))
 refine bG (fun a ha=>hv w' hE a (ha.fresh hf)) hd (IV (ae (hS w' hE) ?_));rw[a4];exact fun a ha=>h sv w' a3 hE a (ha.swap b0)
end Go.VL
end
namespace Go.Proofs.YtpfpmhhigheccaaGreatDoor
structure LeadsI(bl xs:List Nat)(E:List KVR):Prop where
 nd:(E.map (·.1)).Nodup
 row:∀k,dj E k=xs.filter fun i=>decide (((nth bl i:Nat):Int)=k)
 key:∀k,k∈E.map (·.1)↔∃i∈xs,((nth bl i:Nat):Int)=k
theorem LeadsI.nil(bl:List Nat):LeadsI bl [] []:=⟨M8,fun _=>rfl,fun k=>by simp⟩
theorem LeadsI.push{bl xs:List Nat}{E:List KVR}(h:LeadsI bl xs E)(i:Nat)(v:ix):LeadsI bl (xs++[i]) (cx E ((nth bl i:Nat):Int) (v,dj E ((nth bl i:Nat):Int)++[i])):=by
 refine⟨yk h.nd _ _,fun k=>?_,fun k=>?_⟩
 ·rw[dI,JF,h.row,h.row]
  by_cases hk:((nth bl i:Nat):Int)=k
  ·rw[if_pos hk,hk,KJ (by simpa using hk)];rfl
  rw[if_neg hk,JL (by simpa using hk)];simp
 rw[kH]
 constructor
 ·intro hm
  split at hm
  ·obtain⟨x,hx,e⟩:=(h.key k).1 hm;exact⟨x,K1 _ hx,e⟩
  rcases IT.1 hm with hm|hm
  ·obtain⟨x,hx,e⟩:=(h.key k).1 hm;exact⟨x,K1 _ hx,e⟩
  exact⟨i,by simp,(I0.1 hm).symm⟩
 rintro⟨x,hx,e⟩
 rcases IT.1 hx with hx|hx
 ·have:=(h.key k).2 ⟨x,hx,e⟩
  split
  ·exact this
  exact K1 _ this
 obtain rfl:=I0.1 hx;subst e
 split
 ·assumption
 exact List.mem_append_right _ (I0.2 rfl)
def dE(n:Nat)(nx:Nat->Nat)(to:Nat):List Nat:=(Jp n).filter fun x=>decide (nx x=to)
theorem gR{n:Nat}{nx:Nat->Nat}{to x:Nat}:x∈dE n nx to↔x<n/\nx x=to:=by
 simp[dE,Ji]
theorem Cn(n:Nat)(nx:Nat->Nat)(to:Nat):(dE n nx to).Nodup:=LA.sublist Jy
theorem gQ{n:Nat}{nx:Nat->Nat}{l:List Nat}{x:Nat}:x∈l.flatMap (dE n nx)↔x<n/\nx x∈l:=by
 rw[Kk]
 constructor
 ·rintro⟨a,ha,hx⟩;obtain⟨h1,rfl⟩:=gR.1 hx;exact⟨h1,ha⟩
 rintro⟨h1,h2⟩;exact⟨_,h2,gR.2 ⟨h1,rfl⟩⟩
theorem qC{n:Nat}{nx:Nat->Nat}:∀ {l:List Nat},l.Nodup->(l.flatMap (dE n nx)).Nodup
 |[],_=>M8
 |a::r,h=>by
  obtain⟨h1,h2⟩:=Kq.1 h;rw[IZ];refine Jh.2 ⟨Cn n nx a,qC h2,fun x hx y hy e=>?_⟩;subst e;have a1:=(gR.1 hx).2;have a0:=(gQ.1 hy).2;rw[a1]at a0;exact h1 a0
theorem LeadsI.mem{n b:Nat}{nx:Nat->Nat}{bl st:List Nat}{E:List KVR}(h:LeadsI bl (st.flatMap (dE n nx)) E)(a1:∀x,x<n->nx x<n)(a0:∀x,x∈st↔x<n/\nth bl x=b)(k x:Nat):x∈dj E (k:Int)↔x<n/\nth bl x=k/\nth bl (nx x)=b:=by
 rw[h.row,IY,gQ,a0,decide_eq_true_eq]
 constructor
 ·rintro⟨⟨h1,_,h2⟩,h3⟩;exact⟨h1,zo,h2⟩
 rintro⟨h1,h2,h3⟩;exact⟨⟨h1,a1 x h1,h3⟩,zo⟩
theorem LeadsI.rnd{n:Nat}{nx:Nat->Nat}{bl st:List Nat}{E:List KVR}(h:LeadsI bl (st.flatMap (dE n nx)) E)(a0:st.Nodup)(k:Int):(dj E k).Nodup:=by
 rw[h.row];exact(qC a0).sublist Jy
theorem LeadsI.ne{bl xs:List Nat}{E:List KVR}(h:LeadsI bl xs E){k:Int}(hk:k∈E.map (·.1)):dj E k≠[]:=fun e=>by
 obtain⟨i,hi,hb⟩:=(h.key k).1 hk;have:i∈dj E k:=by rw[h.row];exact IY.2 ⟨hi,decide_eq_true hb⟩
 rw[e]at this;exact absurd this (by simp)
structure FromO(O:Nat->Nat)(w:ka)(i:Nat)(fv:ix)(n:Nat)(nx:Nat->Nat->Nat):Prop where
 ex:∃(ms:List ix) (vss:List (List ix)),IX yx 89 1 O w i fv ms/\ms.length=37/\∀m,m<37->IX yx 25 1 O w i (nth ms m) (nth vss m)/\(nth vss m).length=n/\
  ∀t,t<n->IX aN 3 1 O w i (nth (nth vss m) t) (dE n (fun x=>nx x m) t)
theorem FromO.upd{S:Nat->Prop}{O O':Nat->Nat}{w w':ka}{i:Nat}{fv:ix}{n:Nat}{nx:Nat->Nat->Nat}(h:FromO O w i fv n nx)(u:IJ S O w O' w')(hi:i≠0)(hS:¬S i):FromO O' w' i fv n nx:=by
 obtain⟨ms,a0,h1,h2,h3⟩:=h.ex;exact⟨ms,a0,h1.upd u hi hS,h2,fun m hm=>⟨(h3 m hm).1.upd u hi hS,(h3 m hm).2.1,fun t ht=>((h3 m hm).2.2 t ht).upd u hi hS⟩⟩
structure SpO(O:Nat->Nat)(w:ka)(sb:Nat)(nv tv fv bv:ix)(sr tr n:Nat)(nx:Nat->Nat->Nat)(bl:List Nat)(E:List KVR)(td:List ((Int×Int)×Bool))(many:Nat):Prop where
 blk:KK O w 1 sb #[nv,tv,fv,bv,.map (some sr),.map (some tr),nI (many:Nat)] 201
 row:IX aN 3 1 O w 2 bv bl
 st:MpR 10 3 O w sr E
 todo:Jl dM K4 O w 4 tr td
 frm:FromO O w 5 fv n nx
theorem SpO.upd{S:Nat->Prop}{O O':Nat->Nat}{w w':ka}{sb:Nat}{nv tv fv bv:ix}{sr tr n:Nat}{nx:Nat->Nat->Nat}{bl:List Nat}{E:List KVR}{td:List ((Int×Int)×Bool)}{many:Nat}(h:SpO O w sb nv tv fv bv sr tr n nx bl E td many) 
  (u:IJ S O w O' w') (hS:∀k,0<k->k<10+E.length->¬S k):SpO O' w' sb nv tv fv bv sr tr n nx bl E td many:=
 ⟨h.blk.upd u zd (hS 1 zo zo),h.row.upd u zd (hS 2 zo zo),⟨h.st.map.upd u zd (hS 3 zo zo),fun k hk=>(h.st.row k hk).upd u zo (hS _ zo zo)⟩,h.todo.upd u zd (hS 4 zo zo),h.frm.upd u zd (hS 5 zo zo)⟩
theorem lF(E:List KVR)(k:Int):D7 (fun v:ix=>v) (nS) (bm (E.map sH) k)=Br E k:=by
 unfold Br;rw[CC]
 cases bm E k<;>rfl
theorem uy(B:Nat)(O:Nat->Nat)(w:ka)(sb:Nat)(nv tv fv bv:ix)(sr tr n:Nat)(nx:Nat->Nat->Nat)(bl:List Nat)(E:List KVR)(td:List ((Int×Int)×Bool))(many b m:Nat)(hR:K0 B O w)(hS:SpO O w sb nv tv fv bv sr tr n nx bl E td many) 
  (hE:E.length<=1000) (hm:m<37) (d4:∀x∈dj E (b:Nat),x<n) (hn:n<=1000) (g0:bl.length=n) (d5:(dj E (b:Nat)).Nodup) (_:∀q,O q<2000) :
  Kz IW 120 [nP sb,nI (b:Nat),nI (m:Nat)] w fun v w'=>
   ∃r O' G,v=.map (some r)/\IJ (fun q=>2000<=q) O w O' w'/\K0 B O' w'/\MpR 3000 2000 O' w' r G/\LeadsI bl ((dj E (b:Nat)).flatMap (dE n fun x=>nx x m)) G:=by
 obtain⟨ms,b2,e5,f6,a8⟩:=hS.frm.ex;refine ID func120 ntmps120 rfl rfl ?_;refine zh ?_;refine bd (fun k:Int=>nI k) (fun v:ix=>v) hR 2000 zd rfl ?_;intro r w1 O1 e0 c8 e9;have b6:=hS.upd c8 zo;have c3:w1.cell? (nA sb 4)=some (.map (some sr)):=b6.blk.cell 4 rfl;have d7:=b6.st.at (b:Int);have d6:=hS.st.at (b:Int);refine zh ?_;refine zv (KP b6.st.map JT oZ (JO _) (b:Int) rfl rfl rfl (lF E _)) ?_;refine zvH (bj d7.sl.sh I8 rfl) ?_;refine zlp (fun z:Nat×(Nat->Nat)×World×List KVR=>[(0,nP sb),(2,nI (m:Nat)),(7,.map (some r)),(18,Br E (b:Nat)),(19,nI (dj E (b:Nat)).length),(20,nI z.1)]) (fun z=>z.2.2.1) (fun z=>z.1<=(dj E (b:Nat)).length/\IJ (fun q=>2000<=q) O w z.2.1 z.2.2.1/\K0 B z.2.1 z.2.2.1/\MpR 3000 2000 z.2.1 z.2.2.1 r z.2.2.2/\LeadsI bl (((dj E (b:Nat)).take z.1).flatMap (dE n fun x=>nx x m)) z.2.2.2) (fun z=>(dj E (b:Nat)).length-z.1) (0,O1,w1,[]) (⟨I5 _,c8.mono (fun _ h=>zo) zd,e9,⟨e0,fun k hk=>absurd hk (I1 k)⟩,LeadsI.nil _⟩) ?_;rintro⟨q,O2,w2,G⟩ ⟨hq,a3,b8,hG,hL⟩;dsimp only at hq a3 b8 hG hL ⊢;have c':=hS.upd a3 zo;have c6:=(c'.st.at (b:Int)).sl;have f8:=c6.len_le;refine zh ?_;refine zC ?_ ?_
 ·intro a2;replace a2:q<(dj E (b:Nat)).length:=dT a2;have m1:w2.cell? (adr (Br E (b:Nat)) 1 q)=some (nI ((nth (dj E (b:Nat)) q:Nat):Int)):=by have:=c6.cell (i:=q) (j:=0) a2 rfl;rwa[ay]at this
  obtain⟨to,a7⟩:∃to,to=nth (dj E (b:Nat)) q:=⟨_,rfl⟩
  have c5:to<n:=by rw[a7];exact d4 _ (aM a2)
  rw[<-a7]at m1;have e7:=(e5.upd a3 zd zo).sl;have e6:=((a8 m hm).1.upd a3 zd zo).sl;have f':=(((a8 m hm).2.2 to c5).upd a3 zd zo).sl;have f5:=(a8 m hm).2.1;have c1:w2.cell? (nA sb 2)=some fv:=c'.blk.cell 2 rfl;have m2:w2.cell? (adr fv 1 m)=some (nth ms m):=by have:=e7.cell (i:=m) (j:=0) zo rfl;rwa[ay]at this
  have m3:w2.cell? (adr (nth ms m) 1 to)=some (nth (nth b2 m) to):=by have:=e6.cell (i:=to) (j:=0) zo rfl;rwa[ay]at this
  refine zh ?_;refine zlp (fun y:Nat×(Nat->Nat)×World×List KVR=>[(0,nP sb),(2,nI (m:Nat)),(7,.map (some r)),(18,Br E (b:Nat)),(19,nI (dj E (b:Nat)).length),(20,nI q),(33,nth (nth b2 m) to),(34,nI (dE n (fun x=>nx x m) to).length),(35,nI y.1)]) (fun y=>y.2.2.1) (fun y=>y.1<=(dE n (fun x=>nx x m) to).length/\IJ (fun q=>2000<=q) O w y.2.1 y.2.2.1/\K0 B y.2.1 y.2.2.1/\MpR 3000 2000 y.2.1 y.2.2.1 r y.2.2.2/\LeadsI bl (((dj E (b:Nat)).take q).flatMap (dE n fun x=>nx x m)++(dE n (fun x=>nx x m) to).take y.1) y.2.2.2) (fun y=>(dE n (fun x=>nx x m) to).length-y.1) (0,O2,w2,G) (⟨I5 _,a3,b8,hG,by dsimp only;rw[M7,IK];exact hL⟩) ?_
  rintro⟨j,O3,w3,G3⟩ ⟨hj,a5,b7,b',a6⟩;dsimp only at hj a5 b7 b' a6 ⊢;have b5:=hS.upd a5 zo;have c7:=(((a8 m hm).2.2 to c5).upd a5 zd zo).sl;have f7:=c7.len_le;refine zh ?_;refine zC ?_ ?_
  ·intro a4;replace a4:j<(dE n (fun x=>nx x m) to).length:=dT a4;obtain⟨i,hi⟩:∃i,i=nth (dE n (fun x=>nx x m) to) j:=⟨_,rfl⟩
   have f9:i<n:=by rw[hi];exact(gR.1 (aM a4)).1
   have k1:w3.cell? (adr (nth (nth b2 m) to) 1 j)=some (nI (i:Int)):=by have:=c7.cell (i:=j) (j:=0) a4 rfl;rw[ay]at this;rw[hi];exact this
   refine zh ?_;have a0:=b5.row.sl;have d1:w3.drew.cell? (nA sb 3)=some bv:=b5.blk.cell 3 rfl;have d2:w3.drew.cell? (adr bv 1 i)=some (nI ((nth bl i:Nat):Int)):=by have:=a0.cell (i:=i) (j:=0) zo rfl;rwa[ay]at this
   have a':IJ (fun _=>False) O3 w3 O3 w3.drew:=aa (fun h=>h) O3 (I9 w3).drew;have d3:=b'.upd a' zd zd (fun h=>h) (fun _ h=>h);refine aL (fun W=>W.cell? (nA sb 3)=some bv/\W.cell? (adr bv 1 i)=some (nI ((nth bl i:Nat):Int))) 21 rfl zk ?_;refine zin ⟨d1,d2⟩ fun zS=>?_
   refine zrm 0 rfl zS rfl ?_;refine zrm 1 rfl zS rfl ?_
   refine zr 2 rfl zS (fun _=>ao rfl) ?_;refine zrf 3 rfl zS rfl ?_
   refine zt 4 rfl zS (fun w1 a1=>RV.ld a1.1 rfl) ?_;refine zrm 5 rfl zS rfl ?_
   refine zr 6 rfl zS (fun _=>az a0.sh I8 (Jr _) rfl rfl i rfl zo) ?_;refine zt 7 rfl zS (fun w1 a1=>RV.ld a1.2 rfl) ?_
   refine zrm 8 rfl zS rfl ?_;refine zrm 9 rfl zS rfl ?_
   refine zr 10 rfl zS (fun _=>ao rfl) ?_;refine zrf 11 rfl zS rfl ?_
   refine zt 12 rfl zS (fun w1 a1=>RV.ld a1.1 rfl) ?_;refine zrm 13 rfl zS rfl ?_
   refine zr 14 rfl zS (fun _=>az a0.sh I8 (Jr _) rfl rfl i rfl zo) ?_;refine zt 15 rfl zS (fun w1 a1=>RV.ld a1.2 rfl) ?_
   refine zrm 17 rfl zS rfl ?_;refine il 16 18 jJ (enc:=aN) i rfl rfl zk zk zk zk (fun W hE=>KP (d3.upd (aa (S:=fun _=>False) (fun h=>h) O3 hE) zd zd (fun h=>h) (fun _ h=>h)).map JT oZ (JO _) ((nth bl i:Nat):Int) rfl rfl rfl (lF G3 _)) (fun W hE=>⟨hE.cell d1,hE.cell d2⟩) rfl rfl rfl zd rfl rfl rfl rfl rfl ?_
   intro f4 w4 b3 f3;have a9:IJ (fun _=>False) O3 w3.drew O3 w4:=aa (fun h=>h) O3 f3;have b9:=d3.upd a9 zd zd (fun h=>h) (fun _ h=>h);have g1:(dj G3 ((nth bl i:Nat):Int)).length<=n:=by
    have d9:(((dj E (b:Nat)).take q).flatMap (dE n fun x=>nx x m)++(dE n (fun x=>nx x m) to)).Nodup:=by
     have:=qC (n:=n) (nx:=fun x=>nx x m) (d5.sublist (Lu (q+1) _))
     rwa[aI a2,Jw,<-a7,IZ,LC,IK]at this
    rw[a6.row];refine fW ((d9.sublist (Mp (Lu j _) _)).sublist Jy) fun x hx=>?_
    rcases IT.1 (IY.1 hx).1 with h1|h1
    ·exact(gQ.1 h1).1
    exact(gR.1 (L3 h1)).1
   refine IF 19 zk rfl ?_;refine aC jJ (b9.at ((nth bl i:Nat):Int)) ((b7.upd a').upd a9) b3 (by simp) rfl rfl (by simp) (by simp[I6]) (by rw[Jo];omega) (by rw[Jo];omega) zo rfl ?_
   intro v5 w5 O5 d8 b1 e8;have b4:=((b5.upd a' (fun _ _ _ h=>h)).upd a9 (fun _ _ _ h=>h)).upd b1 zo;have e2:w5.cell? (adr bv 1 i)=some (nI ((nth bl i:Nat):Int)):=by have:=b4.row.sl.cell (i:=i) (j:=0) zo rfl;rwa[ay]at this
   refine zh ?_;refine ae (⟨b4.blk.cell 3 rfl,e2⟩) ?_
   refine IF 20 zk rfl ?_;refine Ml (b9.map.upd b1 zd zo) JT oZ zd ((nth bl i:Nat):Int) v5 rfl rfl rfl rfl rfl ?_
   intro w6 d' b0;have c9:=b4.upd b0 zo;have e3:w6.cell? (adr bv 1 i)=some (nI ((nth bl i:Nat):Int)):=by have:=c9.row.sl.cell (i:=i) (j:=0) zo rfl;rwa[ay]at this
   have e':=b9.put ((nth bl i:Nat):Int) zd zd b1 d8 d' b0;have d0:=a6.push i v5;rw[J5,hi,<-aI a4,<-hi]at d0;refine zh ?_;refine ae (⟨c9.blk.cell 3 rfl,e3⟩) ?_;refine Jt zk ?_;refine zh ?_;refine zxd (j+1,O5,w6,cx G3 ((nth bl i:Nat):Int) (v5,dj G3 ((nth bl i:Nat):Int)++[i])) (⟨a4,(((a5.trans (a'.mono (fun _ h=>h.elim) zd)).trans (a9.mono (fun _ h=>h.elim) zd)).trans (b1.mono (fun _ h=>zo) zd)).trans (b0.mono (fun _ h=>zo) zd),e8.upd b0,e',d0⟩)
  intro e1;obtain rfl:j=(dE n (fun x=>nx x m) to).length:=dF e1;rw[IG]at a6;refine zh ?_;refine zxd (q+1,O3,w3,G3) (⟨a2,a5,b7,b',by dsimp only;rw[aI a2,Jw,<-a7,IZ,LC,IK];exact a6⟩)
 intro e4;obtain rfl:q=(dj E (b:Nat)).length:=dF e4;rw[IG]at hL;refine zh ?_;refine af rfl rfl (⟨r,O2,G,rfl,a3,b8,hG,hL⟩)
end Go.Proofs.YtpfpmhhigheccaaGreatDoor
