/- Texts that the proof of this statement needs, merged and shortened. -/
import Derived.Test.YtlehnbkknlpkbaaGreatDoorQTableRuns2
open Go renaming Value->ix,World->ka,TypeId->J8,MapEntry->Jq,Program->JE,Operand->Kl,Oper->KF,zeroValue->LP,Exit->Mt,Edge->Mv,Addr->MX,Act->MY,Calls->Nk,sizeOf->No,FuncId->Nw
open Go.Result renaming andThen_ok->la
open List renaming mem_singleton->ln,length_set->Gh,map_cons->Gi,eq_nil_of_length_eq_zero->GZ,length_append->I4,replicate->J6,append_nil->Jn,take_length->Jo,append_assoc->Jt,all_cons->Jv,length_cons->JF,all_nil->JH,getElem?_eq_some_iff->JI,mem_append->JK,map_append->JL,length_nil->JM,findIdx?_eq_some_iff_getElem->JN,mem_map->JO,eraseIdx_eq_take_drop_succ->JQ,mem_filter->JW,length_map->JX,filter_eq_self->JY,map_nil->K0,range->K5,mem_range->K6,findIdx?_cons->K7,nodup_append->K9,foldl_append->Ka,flatMap_cons->Kb,map_toArray->Kf,cons_append->Kg,length_filter_le->Kq,filter_append->Ky,take_succ_eq_append_getElem->KE,take_append_of_le_length->KP,nil_append->KR,take_take->KY,pairwise_iff_getElem->L2,sum_cons->L7,mem_cons->L8,map_take->L9,getElem?_eq_getElem->La,filter_cons_of_neg->Ld,take_of_length_le->Li,drop_of_length_le->Lj,set_append_right->Ll,length_singleton->Lm,getElem_set_self->Ln,eraseIdx_sublist->Lo,pairwise_append->Lx,take_set_of_le->LH,replicate_zero->LJ,replicate_succ->LK,flatMap_append->LL,set_cons_zero->LY,set_cons_succ->LZ,pairwise_map->M5,take->M9,mem_flatMap->Ma,getElem_map->Mb,filter_cons->Mc,any_eq_true->Md,nodup_cons->Mp,foldl_cons->Mq,map_drop->MD,any_cons->ME,length->MO,map->N9
open Nat renaming not_lt_zero->Gb,zero_le->Gv,le_refl->GT,sub_self->K1,blt->Ko,eq_of_beq_eq_true->Ku,zero_add->KG,or_lt_two_pow->KH,le_trans->KI,beq->KJ,zero_mul->Lk,pow_lt_pow_right->LC,one_mul->LD,le_zero->LF,add_mul->LG,zero_testBit->Mo,min_eq_left->MA,testBit_or->MC,sub_zero->MN,mul_one->MT
open Go.Sem renaming run_bind->Gc,run_pure->J9,run->Kw
open Go.Value renaming oneCell'->GY,int->Kv,bool->KU,string->Lc,ownBlock->Mn
open Go.VL.Ext renaming refl->IJ
open Bool renaming and_eq_true->J0,false_eq_true->KA,false_or->Lb,or_assoc->MG,and_true->MH
open Go.VL.Ret renaming enter->J1
open Go.VL.WH renaming one->J2,done->K4
open Go.Proofs.Tryz renaming underlying22->J3,sizeOf83->J5,prog->Js,underlying50->Jw,underlying183->Jz,isAgg83->JD,sizeOf86->JT,sizeOf3->K8,sizeOf187->Kc,zeroValue86->Ki,underlying3->Kj,underlying182->Km,sizeOf210->Kr,zeroValue83->KB,sizeOf22->KC,underlying127->KN,zeroValue3->KO,call105->KT,sizeOf190->L0,zeroValue22->L3,underlying5->L4,isAgg86->Le,call104->Lh,underlying200->Ly,underlying192->Lz,zeroValue210->M0,underlying81->M1,call106->M4,zeroValue28->Mi,underlying9->Mj,sizeOf31->Mk,isAgg210->Ml,isAgg22->MI,call111->MJ,sizeOf50->MU,underlying225->MZ,underlying210->N0,underlying181->N1,underlying180->N2,zeroValue190->Na,call141->Nb,underlying4->Ng,underlying0->Nh,zeroValue5->Nl,zeroValue4->Nm,zeroValue0->Nn
open Go.VL renaming Upd->J4,RowT->Jy,MapO->JS,Rng->Kx,Ext->Kz,Ret->L6,Free->Lq,BlkO->Ls,lowT->LN,Elem->Mu,KeyL->MQ,Fits->Nx
open Classical renaming byContradiction->J7
open Go.VL.WC renaming region->Ji,seq->JB,skip->Lu,block->LQ,exit->Nq
open Go.VL.Upd renaming setRow->Jp,refl->JP,set->Kd,alloc->N5
open Go.VL.WL renaming nil->Jr,push->Lt,val->M7,storeAt->N4,step->Np
open Go.Lib renaming compact->Ju,compactUpTo->JZ,keeps->Mr
open Go.VL.RV renaming move->JA,assign->Kk,indexAddr->Kp,load->L1,extract->N6,add->N7,lookup->Nc
open Go.VL.RowT renaming nil->JC,freeT->MR
open List.cons renaming injEq->JG
open Go.Proofs.YtlehnbkknlpkbaaGreatDoor renaming layO->JJ
open Array renaming getElem?_modify->JR,getElem?_setIfInBounds->KQ,ext_getElem?->LO
open UInt8 renaming ofNat->JU,toNat_ofNat'->LB,toNat->MK
open Go.Region renaming ready->JV
open Go.Instr renaming keyThatStays->K2,entryStore->Ke,findAsking->KK,mapEntry->KV,checkKey->KW,mapUpdate->Me,findNow->MB
open Option renaming map_some->Kh,bind_some->KD,map->Lv,isSome_none->Lw,getD_some->LV,getD_none->LW,bind_none->LX
open Go.Builtin renaming delete_->KL,append_->KM,firstCells->Lr,clear_->M6,lenOf->Mh,len_->Ny
open Int renaming le_refl->KS
open Go.Calls renaming mono->KX
open Go.Addr renaming add->KZ
open Go.World renaming block_lt_of_cell?->L5,setCells->Mm,setCell->Mw,frozen?->Mx
open Function renaming comp_def->Lp
open Go.Sort renaming ahead->LU
open Go.Op renaming equalIn->M8,equal->Ni
open Go.Shelf renaming Ren->Mf
open Go.VL.Fit renaming i64->Mg
open Go.Proofs.YtlehnbkknlpkbaaGreatDoor.Gr renaming lv->Ms,fr->MW,en->Nj,leaf->Nv
open Std.Legacy.Range renaming size->My,forIn_eq_forIn_range'->Mz
open Go.Proofs.Lays2 renaming n20->MF
open Go.Proofs.Lays renaming n189->MM
open List.Pairwise renaming imp_of_mem->MP
open Go.RowKit.Below renaming heap_setCell->MS
open Option.some renaming inj->MV
open Prod renaming fst->N8
open Go.Oper renaming wp->Nf
open Prod.mk renaming injEq->Nr
open Go.IntKind renaming wrap_u8->Ns,u8->Nu
set_option maxRecDepth 10000
open Go.VL Go.Proofs Go.Proofs.Tryz
namespace Go.Proofs.YtlehnbkknlpkbaaGreatDoor
def Gr.mark(g:Gr)(a e:Nat):Gr:=⟨g.ls,g.ks.set a (g.fr a,g.lv a,e)⟩
theorem cz(g:Gr)(a e:Nat):(g.mark a e).ks.length=g.ks.length:=by simp[Gr.mark]
theorem nY{g:Gr}{a e:Nat}(ha:a<g.ks.length)(k:Nat):(g.mark a e).fr k=g.fr k:=by
 unfold Gr.mark MW;rw[aT ha];split
 ·rename_i h;rw[h]
 rfl
theorem nX{g:Gr}{a e:Nat}(ha:a<g.ks.length)(k:Nat):(g.mark a e).lv k=g.lv k:=by
 unfold Gr.mark Ms;rw[aT ha];split
 ·rename_i h;rw[h]
 rfl
theorem Bk{g:Gr}{a e:Nat}(ha:a<g.ks.length)(k:Nat):(g.mark a e).en k=if k=a then e else g.en k:=by
 unfold Gr.mark Nj;rw[aT ha];split<;>rfl
theorem Dk{g:Gr}{a e:Nat}(ha:a<g.ks.length):Sub g (g.mark a e):=⟨by rw[cz];omega,⟨[],by simp[Gr.mark]⟩,fun k j _ h=>by rw[nY ha];exact h,fun k j _ h=>by rw[nX ha];exact h⟩
theorem WF.mark{g:Gr}(h:WF g){a e:Nat}(ha:a<g.ks.length):WF (g.mark a e):=
 ⟨fun k j hk hj=>by rw[cz]at hk ⊢;rw[nY ha]at hj;exact h.fr k j hk hj,fun k j hk hj=>by rw[cz]at hk;rw[nX ha]at hj;exact h.lv k j hk hj,fun j hj=>by rw[cz];exact h.ls j hj⟩
theorem Lbl.mark{g:Gr}{R:Nat->List Int->Prop}(h:Lbl g R){a e:Nat}(ha:a<g.ks.length):Lbl (g.mark a e) R:=
 ⟨fun k j hk hj=>by rw[cz]at hk;rw[nY ha]at hj;exact h.fr k j hk hj,fun k j hk hj hl=>by rw[cz]at hk;rw[nX ha]at hl;exact h.lv k j hk hj hl⟩
def dw(g:Gr)(i:Nat):Gr:=((g.knot.mark g.ks.length (i+1)).knot).free 0 (g.ks.length+1)
def mZ(x:Nd)(i:Nat)(g:Gr):Gr:=fy x (g.ks.length+1) g.ks.length (dw g i)
def bY:List Nd->Nat->Gr->Gr
 |[],_,g=>g
 |x::r,i,g=>bY r (i+1) (mZ x i g)
def g00:Gr:=⟨[],[([],[],0)]⟩
def jZ(xs:List Nd):Gr:=bY xs 0 g00
theorem dU(g:Gr)(i:Nat):(dw g i).ks.length=g.ks.length+2:=by unfold dw;rw[aV,aG,cz,aG]
theorem eO{g:Gr}(h:WF g)(h0:0<g.ks.length)(i:Nat):WF (dw g i)/\Sub g (dw g i):=by
 have h1:=aG g;have h2:=cz g.knot g.ks.length (i+1);have h3:=aG (g.knot.mark g.ks.length (i+1));refine⟨((h.knot.mark zo).knot).free zo zo,(((kL g).trans (Dk zo)).trans (kL _)).trans (fp zo)⟩
theorem AI{g:Gr}(h0:0<g.ks.length)(i k:Nat):(dw g i).en k=if k=g.ks.length then i+1 else if k<g.ks.length then g.en k else 0:=by
 have h1:=aG g;have h2:=cz g.knot g.ks.length (i+1);have h3:=aG (g.knot.mark g.ks.length (i+1));unfold dw;rw[xd zo,rQ,Bk zo,rQ]
 by_cases hk:k=g.ks.length
 ·simp only[if_pos hk];rw[if_pos zo]
 simp only[if_neg hk]
 by_cases a0:k<g.ks.length
 ·simp only[if_pos a0];rw[if_pos zo]
 simp only[if_neg a0];split<;>rfl
theorem lL{g:Gr}(h:WF g)(h0:0<g.ks.length)(x:Nd)(i:Nat):WF (mZ x i g)/\Sub g (mZ x i g)/\g.ks.length+2<=(mZ x i g).ks.length:=by
 obtain⟨h1,h2⟩:=eO h h0 i;have hl:=dU g i;obtain⟨h3,h4⟩:=ct x (g.ks.length+1) g.ks.length (dw g i) h1 zo zo;exact⟨h3,h2.trans h4,by have:=h4.len;unfold mZ;omega⟩
theorem rF{g:Gr}(h:WF g)(h0:0<g.ks.length)(x:Nd)(i k:Nat):(mZ x i g).en k=if k=g.ks.length then i+1 else if k<g.ks.length then g.en k else 0:=by
 obtain⟨h1,h2⟩:=eO h h0 i;have hl:=dU g i;have:=iw x (g.ks.length+1) g.ks.length (dw g i) h1 zo zo k;rw[AI h0,hl]at this;unfold mZ;rw[this]
 by_cases hk:k=g.ks.length
 ·rw[if_pos zo]
 rw[if_neg hk]
 by_cases a0:k<g.ks.length
 ·rw[if_pos zo]
 rw[if_neg a0];split<;>rfl
theorem si:∀(xs:List Nd) (i:Nat) (g:Gr),WF g->0<g.ks.length->WF (bY xs i g)/\Sub g (bY xs i g)/\∀k,k<g.ks.length->(bY xs i g).en k=g.en k
 |[],_,g,h,_=>⟨h,Sub.refl g,fun _ _=>rfl⟩
 |x::r,i,g,h,h0=>by
  obtain⟨h1,h2,h3⟩:=lL h h0 x i;obtain⟨h4,h5,h6⟩:=si r (i+1) (mZ x i g) h1 zo;refine⟨h4,h2.trans h5,fun k hk=>?_⟩;show(bY r (i+1) (mZ x i g)).en k=_;rw[h6 k zo,rF h h0,if_neg zo,if_pos hk]
theorem qs:WF g00:=by
 refine⟨fun k j hk hj=>?_,fun k j hk hj=>?_,fun j hj=>?_⟩
 ·have:k=0:=by simpa[g00]using hk
  subst this;simp[MW,g00,ar]at hj
 ·have:k=0:=by simpa[g00]using hk
  subst this;simp[Ms,g00,ar]at hj
 simp[g00]at hj
theorem Ba(xs:List Nd):WF (jZ xs)/\0<(jZ xs).ks.length:=by
 obtain⟨h1,h2,_⟩:=si xs 0 g00 qs zd;exact⟨h1,Nat.lt_of_lt_of_le zd h2.len⟩
theorem qD:∀(xs:List Nd) (i:Nat) (g:Gr),WF g->0<g.ks.length->bR xs=true->∀k w,k<xs.length->Lg (nth xs k) w->∃q,q<(bY xs i g).ks.length/\Pt (bY xs i g) 0 w q/\(bY xs i g).en q=i+k+1
 |[],_,_,_,_,_,k,w,hk,_=>absurd hk (Gb _)
 |x::r,i,g,h,h0,hs,k,w,hk,hw=>by
  unfold bR at hs;simp only[J0]at hs;obtain⟨h1,h2,h3⟩:=lL h h0 x i;obtain⟨h4,h5,h6⟩:=si r (i+1) (mZ x i g) h1 zo;show∃q,q<(bY r (i+1) (mZ x i g)).ks.length/\_
  cases k with
  |zero=>
   rw[ar]at hw;have hl:=dU g i;obtain⟨g1,g2⟩:=eO h h0 i
   have p1:Pt (dw g i) 0 [] (g.ks.length+1):=.eps zo (by
    have e1:=aG g;have e2:=cz g.knot g.ks.length (i+1);have e3:=aG (g.knot.mark g.ks.length (i+1));unfold dw
    rw[dL zo,if_pos rfl];simp) (.nil _)
   have p2:=kJ x (g.ks.length+1) g.ks.length (dw g i) g1 zo zo hs.1 w hw;have p3:Pt (mZ x i g) 0 w g.ks.length:=by
    show Pt (fy x (g.ks.length+1) g.ks.length (dw g i)) 0 w g.ks.length;have:=(p1.mono (ct x (g.ks.length+1) g.ks.length (dw g i) g1 zo zo).2).trans p2;simpa using this
   have a0:=h5.len;exact⟨g.ks.length,zo,p3.mono h5,by show(bY r (i+1) (mZ x i g)).en _=_;rw[h6 _ zo,rF h h0,if_pos rfl]⟩
  |succ k=>
   rw[bd]at hw;obtain⟨q,q1,q2,q3⟩:=qD r (i+1) (mZ x i g) h1 zo hs.2 k w (by simpa using hk) hw;exact⟨q,q1,q2,by show(bY r (i+1) (mZ x i g)).en _=_;rw[q3];omega⟩
theorem oL(A:Nat->Prop):∀(xs:List Nd) (i:Nat) (g:Gr) (R:Nat->List Int->Prop),WF g->0<g.ks.length->Lbl g R->(∀k,k<g.ks.length->g.en k≠0->A (g.en k-1)->R k [])->(∀k w,k<xs.length->A (i+k)->Lg (nth xs k) w->R 0 w)->
  ∃R',(∀k,k<g.ks.length->R' k=R k)/\Lbl (bY xs i g) R'/\∀k,k<(bY xs i g).ks.length->(bY xs i g).en k≠0->A ((bY xs i g).en k-1)->R' k []
 |[],_,g,R,_,_,hL,hE,_=>⟨R,fun _ _=>rfl,hL,hE⟩
 |x::r,i,g,R,h,h0,hL,hE,hZ=>by
  obtain⟨h1,h2,h3⟩:=lL h h0 x i;obtain⟨g1,g2⟩:=eO h h0 i;have hl:=dU g i;have a0:∀q,q<g.ks.length->mM (mM R g.ks.length (fun w=>w=[]/\A i)) (g.ks.length+1) (fun w=>A i/\Lg x w) q=R q:=fun q hq=>by rw[du zo,du zo]
  have ho:mM (mM R g.ks.length (fun w=>w=[]/\A i)) (g.ks.length+1) (fun w=>A i/\Lg x w) g.ks.length=fun w=>w=[]/\A i:=by rw[du zo,jC]
  have hi:=jC (mM R g.ks.length (fun w=>w=[]/\A i)) (g.ks.length+1) (fun w=>A i/\Lg x w);have e1:=aG g;have e2:=cz g.knot g.ks.length (i+1);have e3:=aG (g.knot.mark g.ks.length (i+1));have a5:Lbl (dw g i) (mM (mM R g.ks.length (fun w=>w=[]/\A i)) (g.ks.length+1) (fun w=>A i/\Lg x w)):=by
   refine(((hL.agree h a0).knot.mark zo).knot).free zo fun w hw=>?_
   rw[hi]at hw;rw[a0 0 h0];exact hZ 0 w (by simp) hw.1 (by rw[ar];exact hw.2)
  generalize mM (mM R g.ks.length (fun w=>w=[]/\A i)) (g.ks.length+1) (fun w=>A i/\Lg x w)=R1 at *
  obtain⟨R2,f2,a4⟩:=iu x (g.ks.length+1) g.ks.length (dw g i) R1 g1 zo zo a5 (fun u v hu hv=>by
   rw[ho]at hv;rw[hi];obtain⟨rfl,hv⟩:=hv
   exact⟨hv,by rw[Jn];exact hu⟩)
  obtain⟨R3,f3,a3,a6⟩:=oL A r (i+1) (mZ x i g) R2 h1 zo a4 (fun k hk hn ha=>by
   rw[rF h h0]at hn ha
   by_cases a2:k=g.ks.length
   ·rw[if_pos a2]at ha;rw[a2,f2 _ zo,ho];exact⟨rfl,ha⟩
   ·rw[if_neg a2]at hn ha
    by_cases a1:k<g.ks.length
    ·rw[if_pos a1]at hn ha;rw[f2 _ zo,a0 k a1];exact hE k a1 hn ha
    rw[if_neg a1]at hn;exact absurd rfl hn) (fun k w hk ha hw=>by
   rw[f2 _ zo,a0 0 h0]
   exact hZ (k+1) w (by simpa using hk) (by rw[show i+(k+1)=i+1+k from by omega];exact ha) (by rw[bd];exact hw))
  exact⟨R3,fun q hq=>by rw[f3 q zo,f2 q zo,a0 q hq],a3,a6⟩
theorem yc{xs:List Nd}(hs:bR xs=true)(i:Nat)(w:List Int):(∃q,q<(jZ xs).ks.length/\Pt (jZ xs) 0 w q/\(jZ xs).en q=i+1)↔i<xs.length/\Lg (nth xs i) w:=by
 constructor
 ·rintro⟨q,hq,hp,he⟩
  obtain⟨R,f,hL,hE⟩:=oL (fun k=>k=i) xs 0 g00 (fun _ w=>i<xs.length/\Lg (nth xs i) w) qs zd ⟨fun k j hk hj=>by
   have:k=0:=by simpa[g00]using hk
   subst this;simp[MW,g00,ar]at hj,fun k j hk hj=>by simp[g00]at hj⟩ (fun k hk hn=>by
   have:k=0:=by simpa[g00]using hk
   subst this;exact absurd (by simp[Nj,g00,ar]) hn) (fun k w hk ha hw=>by
   rw[KG]at ha;subst ha
   exact⟨hk,hw⟩)
  have h1:=hE q hq (by show(jZ xs).en q≠0;omega) (by show(jZ xs).en q-1=i;omega);have h2:=hL.path hp [] h1;rw[f 0 zd,Jn]at h2;exact h2
 rintro⟨hi,hw⟩;obtain⟨q,q1,q2,q3⟩:=qD xs 0 g00 qs zd hs i w hi hw;exact⟨q,q1,q2,by show(bY xs 0 g00).en q=_;rw[q3];omega⟩
def dS:List Nat->List Nat->List Nat
 |l,[]=>l
 |l,x::r=>dS (if l.contains x then l else l++[x]) r
def ia(g:Gr):Nat->Nat->List Nat->List Nat
 |0,_,l=>l
 |n+1,i,l=>if i<l.length then ia g n (i+1) (dS l (g.fr (nth l i)))else l
def fj(g:Gr)(k:Nat):List Nat:=ia g g.ks.length 0 [k]
theorem jg:∀(r l:List Nat),∃s,dS l r=l++s
 |[],l=>⟨[],by simp[dS]⟩
 |x::r,l=>by
  unfold dS
  split
  ·exact jg r l
  obtain⟨s,hs⟩:=jg r (l++[x]);exact⟨x::s,by rw[hs];simp⟩
theorem ga:∀(r l:List Nat) (y:Nat),y∈dS l r↔y∈l\/y∈r
 |[],l,y=>by simp[dS]
 |x::r,l,y=>by
  unfold dS;rw[ga r]
  split
  ·rename_i h;have hx:x∈l:=by simpa using h
   constructor
   ·rintro(h1|h1)
    ·exact .inl h1
    exact .inr (by simp[h1])
   rintro(h1|h1)
   ·exact .inl h1
   rcases L8.1 h1 with rfl|h1
   ·exact .inl hx
   exact .inr h1
  simp[or_assoc]
theorem mF:∀(r l:List Nat),l.Nodup->(dS l r).Nodup
 |[],l,h=>h
 |x::r,l,h=>by
  unfold dS;refine mF r _ ?_
  split
  ·exact h
  rename_i hx;have hx:x∉l:=by simpa using hx
  exact K9.2 ⟨h,by simp,fun a ha b hb=>by rw[ln.1 hb];intro e;exact hx (by rw[<-e];exact ha)⟩
theorem gu{n:Nat}{l:List Nat}(hn:l.Nodup)(h:∀x∈l,x<n):l.length<=n:=by
 have:=hn.length_le_of_subset (l₂:=K5 n) fun x hx=>K6.2 (h x hx)
 simpa using this
structure Rc(g:Gr)(k i:Nat)(l:List Nat):Prop where
 nd:l.Nodup
 lt:∀x∈l,x<g.ks.length
 fst:k∈l
 pt:∀x∈l,Pt g k [] x
 cl:∀j,j<i->j<l.length->∀y∈g.fr (nth l j),y∈l
theorem sy{g:Gr}{k:Nat}(hk:k<g.ks.length):Rc g k 0 [k]:=⟨by simp,by simpa using hk,by simp,fun x hx=>by rw[ln.1 hx];exact .nil _,fun j hj=>absurd hj (Gb _)⟩
theorem Rc.step{g:Gr}(hw:WF g){k i:Nat}{l:List Nat}(h:Rc g k i l)(hi:i<l.length):Rc g k (i+1) (dS l (g.fr (nth l i))):=by
 have hm:=aO hi;obtain⟨s,hs⟩:=jg (g.fr (nth l i)) l;refine⟨mF _ _ h.nd,fun x hx=>?_,(ga _ _ _).2 (.inl h.fst),fun x hx=>?_,fun j hj a1 y hy=>?_⟩
 ·rcases(ga _ _ _).1 hx with hx|hx
  ·exact h.lt x hx
  exact hw.fr _ _ (h.lt _ hm) hx
 ·rcases(ga _ _ _).1 hx with hx|hx
  ·exact h.pt x hx
  have:=(h.pt _ hm).trans (.eps (h.lt _ hm) hx (.nil x));simpa using this
 have a0:j<l.length:=zo;rw[hs,aA,if_pos a0]at hy;refine(ga _ _ _).2 ?_
 by_cases e:j=i
 ·subst e;exact .inr hy
 exact .inl (h.cl j zo a0 y hy)
theorem Rc.done{g:Gr}{k i:Nat}{l:List Nat}(h:Rc g k i l)(hi:l.length<=i)(q:Nat):q∈l↔Pt g k [] q:=by
 refine⟨h.pt q,fun p=>?_⟩;have a0:∀ {a:Nat} {w:List Int} {b:Nat},Pt g a w b->w=[]->a∈l->b∈l:=fun p=>by
  induction p with
  |nil=>exact fun _ h=>h
  |eps h1 h2 _ ih=>
   intro e ha;obtain⟨j,hj,rfl⟩:=cI ha;exact ih e (h.cl j zo hj _ h2)
  |leaf=>intro e;cases e
 exact a0 p rfl h.fst
theorem nR{g:Gr}(hw:WF g){k:Nat}:∀(n i:Nat) (l:List Nat),Rc g k i l->g.ks.length<=i+n->∀q,q∈ia g n i l↔Pt g k [] q
 |0,i,l,h,hn,q=>h.done (KI (gu h.nd h.lt) zo) q
 |n+1,i,l,h,hn,q=>by
  unfold ia
  split
  ·rename_i hi;exact nR hw n (i+1) _ (h.step hw hi) zo q
  rename_i hi;exact h.done zo q
theorem gZ{g:Gr}(hw:WF g){k:Nat}(hk:k<g.ks.length)(q:Nat):q∈fj g k↔Pt g k [] q:=nR hw _ _ _ (sy hk) zo q
def Gr.pl(g:Gr)(p:Nat):Nat:=if p=0 then 0 else(nth g.ls (p-1)).2.2
def cO(g:Gr)(p:Nat):List Nat:=(fj g (g.pl p)).flatMap g.lv
def fq(g:Gr)(b k:Nat):Nat:=if g.en k=0 then b else b ||| 2^(g.en k-1)
def jD(g:Gr)(p:Nat):Nat:=(fj g (g.pl p)).foldl (fq g) 0
theorem pr{g:Gr}(hw:WF g)(h0:0<g.ks.length){p:Nat}(hp:p<=g.ls.length):g.pl p<g.ks.length:=by
 unfold Gr.pl
 split
 ·exact h0
 exact hw.ls _ zo
theorem nc{g:Gr}(hw:WF g)(h0:0<g.ks.length){p:Nat}(hp:p<=g.ls.length)(j:Nat):j∈cO g p↔∃k,Pt g (g.pl p) [] k/\j∈g.lv k:=by
 unfold cO;rw[Ma]
 constructor
 ·rintro⟨k,hk,hj⟩;exact⟨k,(gZ hw (pr hw h0 hp) k).1 hk,hj⟩
 rintro⟨k,hk,hj⟩;exact⟨k,(gZ hw (pr hw h0 hp) k).2 hk,hj⟩
theorem sS(g:Gr)(i:Nat):∀(l:List Nat) (b:Nat),(l.foldl (fq g) b).testBit i=(b.testBit i||l.any fun k=>decide (g.en k=i+1))
 |[],b=>by simp
 |k::l,b=>by
  rw[Mq,sS g i l,ME];unfold fq
  split
  ·rename_i h;rw[decide_eq_false zo,Lb]
  rename_i h;rw[MC,Nat.testBit_two_pow,MG];congr 2;exact decide_eq_decide.2 zo
theorem xL{g:Gr}(hw:WF g)(h0:0<g.ks.length){p:Nat}(hp:p<=g.ls.length)(i:Nat):(jD g p).testBit i=true↔∃k,Pt g (g.pl p) [] k/\g.en k=i+1:=by
 unfold jD;rw[sS,Mo,Lb,Md]
 constructor
 ·rintro⟨k,hk,hj⟩;exact⟨k,(gZ hw (pr hw h0 hp) k).1 hk,of_decide_eq_true hj⟩
 rintro⟨k,hk,hj⟩;exact⟨k,(gZ hw (pr hw h0 hp) k).2 hk,decide_eq_true hj⟩
theorem Cz{g:Gr}{a b:Nat}{w:List Int}{m:Int}:Pt g a (w++[m]) b↔∃k j,Pt g a w k/\k<g.ks.length/\j<g.ls.length/\j+1∈g.lv k/\cK (nth g.ls j).1 (nth g.ls j).2.1 m=true/\Pt g (nth g.ls j).2.2 [] b:=by
 constructor
 ·intro p;generalize hx:w++[m]=x at p
  induction p generalizing w with
  |nil=>simp at hx
  |eps h1 h2 _ ih=>
   obtain⟨k,j,q1,q⟩:=ih hx;exact⟨k,j,.eps h1 h2 q1,q⟩
  | @leaf k j q m' w' h1 h2 h3 h4 p ih=>
   cases w with
   |nil=>
    simp only[KR,JG]at hx;obtain⟨rfl,rfl⟩:=hx;exact⟨k,j,.nil _,h1,h2,h3,h4,p⟩
   |cons c w=>
    simp only[Kg,JG]at hx;obtain⟨rfl,hx⟩:=hx;obtain⟨k',j',q1,q⟩:=ih hx;exact⟨k',j',.leaf h1 h2 h3 h4 q1,q⟩
 rintro⟨k,j,p,h1,h2,h3,h4,q⟩;exact p.trans (.leaf h1 h2 h3 h4 q)
structure Stp(g:Gr)(se:Bool)(step:List Int->Int->List Int):Prop where
 mem:∀(s:List Int) (m x:Int),x∈step s m↔(se=true/\x=0)\/∃p∈s,∃j∈cO g p.toNat,x=(j:Int)/\cK (nth g.ls (j-1)).1 (nth g.ls (j-1)).2.1 m=true
def CE(step:List Int->Int->List Int)(w:List Int):List Int:=w.foldl step [0]
theorem AS(step:List Int->Int->List Int)(w:List Int)(m:Int):CE step (w++[m])=step (CE step w) m:=by unfold CE;rw[Ka];rfl
def inP(g:Gr)(s:List Int):Prop:=∀x∈s,0<=x/\x.toNat<=g.ls.length
theorem vk{g:Gr}(hw:WF g)(h0:0<g.ks.length){se:Bool}{step:List Int->Int->List Int}(h:Stp g se step){s:List Int}(hs:inP g s)(m:Int):inP g (step s m):=fun x hx=>by
 rcases(h.mem s m x).1 hx with⟨_,rfl⟩|⟨p,hp,j,hj,rfl,_⟩
 ·exact⟨KS _,Gv _⟩
 obtain⟨k,hk,a2⟩:=(nc hw h0 (hs p hp).2 j).1 hj;have a1:k<g.ks.length:=(gZ hw (pr hw h0 (hs p hp).2) k).2 hk |> fun hm=>by
  have a0:∀ {a:Nat} {w:List Int} {b:Nat},Pt g a w b->a<g.ks.length->b<g.ks.length:=fun p=>by
   induction p with
   |nil=>exact fun h=>h
   |eps h1 h2 _ ih=>exact fun _=>ih (hw.fr _ _ h1 h2)
   |leaf h1 h2 h3 h4 _ ih=>exact fun _=>ih (hw.ls _ h2)
  exact a0 hk (pr hw h0 (hs p hp).2)
 have:=hw.lv k j a1 a2;exact⟨zo,by simp;omega⟩
theorem D0{g:Gr}(hw:WF g)(h0:0<g.ks.length){se:Bool}{step:List Int->Int->List Int}(h:Stp g se step)(w:List Int):inP g (CE step w):=by
 have a0:∀(w s:List Int),inP g s->inP g (w.foldl step s):=fun w=>by
  induction w with
  |nil=>exact fun s hs=>hs
  |cons m w ih=>exact fun s hs=>ih _ (vk hw h0 h hs m)
 exact a0 w [0] fun x hx=>by rw[ln.1 hx];exact⟨KS _,Gv _⟩
theorem Pt.lt{g:Gr}(hw:WF g){a b:Nat}{w:List Int}(p:Pt g a w b):a<g.ks.length->b<g.ks.length:=by
 induction p with
 |nil=>exact fun h=>h
 |eps h1 h2 _ ih=>exact fun _=>ih (hw.fr _ _ h1 h2)
 |leaf h1 h2 h3 h4 _ ih=>exact fun _=>ih (hw.ls _ h2)
def QP(g:Gr)(se:Bool)(w:List Int)(k:Nat):Prop:=∃u v,w=u++v/\(se=true\/u=[])/\Pt g 0 v k
theorem tj{g:Gr}(hw:WF g)(h0:0<g.ks.length){se:Bool}{step:List Int->Int->List Int}(h:Stp g se step):∀(n:Nat) (w:List Int),w.length=n->∀k,(∃p∈CE step w,Pt g (g.pl p.toNat) [] k)↔QP g se w k
 |0,w,hn,k=>by
  obtain rfl:=GZ hn
  constructor
  ·rintro⟨p,hp,q⟩;rw[show CE step []=[0]from rfl,ln]at hp;subst hp;exact⟨[],[],rfl,.inr rfl,q⟩
  rintro⟨u,v,e,_,q⟩;obtain⟨rfl,rfl⟩:=List.append_eq_nil_iff.1 e.symm;exact⟨0,by rw[show CE step []=[0]from rfl];simp,q⟩
 |n+1,w,hn,k=>by
  obtain⟨w,m,rfl⟩:∃w' m,w=w'++[m]:=⟨w.dropLast,w.getLast (by intro e;rw[e]at hn;simp at hn),(List.dropLast_concat_getLast _).symm⟩
  have ih:=tj hw h0 h n w (by simpa using hn);have a3:=D0 hw h0 h w;rw[AS]
  constructor
  ·rintro⟨p,hp,q⟩
   rcases(h.mem _ m p).1 hp with⟨a2,rfl⟩|⟨p',a0,j,hj,rfl,ht⟩
   ·exact⟨w++[m],[],by simp,.inl a2,q⟩
   obtain⟨k',a1,a5⟩:=(nc hw h0 (a3 p' a0).2 j).1 hj;have a4:=a1.lt hw (pr hw h0 (a3 p' a0).2);obtain⟨u,v,rfl,hu,hv⟩:=(ih k').1 ⟨p',a0,a1⟩;have a6:=hw.lv k' j a4 a5;refine⟨u,v++[m],by rw[Jt],hu,Cz.2 ⟨k',j-1,hv,a4,zo,by rw[show j-1+1=j from by omega];exact a5,ht,?_⟩⟩;have e:g.pl ((j:Int)).toNat=(nth g.ls (j-1)).2.2:=by unfold Gr.pl;rw[if_neg (by simp;omega)];simp
   rw[<-e];exact q
  rintro⟨u,v,e,hu,hv⟩
  rcases List.eq_nil_or_concat v with rfl|⟨v,m',rfl⟩
  ·have a2:se=true:=by
    rcases hu with hu|hu
    ·exact hu
    subst hu;simp at e
   exact⟨0,(h.mem _ m 0).2 (.inl ⟨a2,rfl⟩),hv⟩
  rw[List.concat_eq_append]at e hv;rw[<-Jt]at e;obtain⟨rfl,e2⟩:=List.append_inj' e rfl;obtain rfl:m=m':=by simpa using e2
  obtain⟨k',j,p1,p2,p3,p4,p5,p6⟩:=Cz.1 hv;obtain⟨p',a0,a1⟩:=(ih k').2 ⟨u,v,rfl,hu,p1⟩;refine⟨((j+1:Nat):Int),(h.mem _ m _).2 (.inr ⟨p',a0,j+1,(nc hw h0 (a3 p' a0).2 _).2 ⟨k',a1,p4⟩,rfl,by simpa using p5⟩),?_⟩;have e:g.pl (((j+1:Nat):Int)).toNat=(nth g.ls j).2.2:=by unfold Gr.pl;rw[if_neg (by simp)];simp
  rw[e];exact p6
def dp(g:Gr)(s:List Int):Nat:=s.foldl (fun b p=>b ||| jD g p.toNat) 0
theorem Au(g:Gr)(i:Nat)(s:List Int):(dp g s).testBit i=s.any fun p=>(jD g p.toNat).testBit i:=by
 have a0:∀(s:List Int) (b:Nat),(s.foldl (fun b p=>b ||| jD g p.toNat) b).testBit i=(b.testBit i||s.any fun p=>(jD g p.toNat).testBit i):=fun s=>by
  induction s with
  |nil=>intro b;simp
  |cons p s ih=>intro b;rw[Mq,ih,MC,ME,MG]
 unfold dp;rw[a0,Mo,Lb]
theorem yS{xs:List Nd}(hs:bR xs=true){se:Bool}{step:List Int->Int->List Int}(h:Stp (jZ xs) se step)(w:List Int)(i:Nat):
  (dp (jZ xs) (CE step w)).testBit i=true↔i<xs.length/\∃u v,w=u++v/\(se=true\/u=[])/\Lg (nth xs i) v:=by
 obtain⟨hw,h0⟩:=Ba xs;have a0:=D0 hw h0 h w;have hk:=tj hw h0 h w.length w rfl;rw[Au,Md]
 constructor
 ·rintro⟨p,hp,hb⟩;obtain⟨k,a2,a1⟩:=(xL hw h0 (a0 p hp).2 i).1 hb;obtain⟨u,v,rfl,hu,hv⟩:=(hk k).1 ⟨p,hp,a2⟩;have:=(yc hs i v).1 ⟨k,hv.lt hw h0,hv,a1⟩;exact⟨this.1,u,v,rfl,hu,this.2⟩
 rintro⟨hi,u,v,rfl,hu,hv⟩;obtain⟨k,h1,h2,h3⟩:=(yc hs i v).2 ⟨hi,hv⟩;obtain⟨p,hp,hq⟩:=(hk k).2 ⟨u,v,rfl,hu,h2⟩;exact⟨p,hp,(xL hw h0 (a0 p hp).2 i).2 ⟨k,hq,h3⟩⟩
end Go.Proofs.YtlehnbkknlpkbaaGreatDoor
section
namespace Go.Proofs
open Go.Shelf
def mU:Mf:=⟨fun|189=>160|125=>185|257=>184|128=>204|129=>205|294=>195|295=>196|296=>197|297=>198|298=>199|299=>200|216=>201|300=>202|301=>203|328=>218|329=>219|330=>220|331=>221|332=>222|215=>223|343=>229|n=>n,fun|28=>22|3=>3|46=>95|0=>0|51=>285|53=>28|4=>4|183=>280|182=>279|131=>121|5=>5|9=>9|218=>294|222=>297|228=>301|229=>250|n=>n,fun|n=>n⟩
theorem mI:MM Js mU:={
 mixed:=by kernel_rfl
 f125:=func185.trans (congrArg some (by kernel_rfl))
 f128:=func204.trans (congrArg some (by kernel_rfl))
 f129:=func205.trans (congrArg some (by kernel_rfl))
 f189:=func160.trans (congrArg some (by kernel_rfl))
 f215:=func223.trans (congrArg some (by kernel_rfl))
 f216:=func201.trans (congrArg some (by kernel_rfl))
 f257:=func184.trans (congrArg some (by kernel_rfl))
 f294:=func195.trans (congrArg some (by kernel_rfl))
 f295:=func196.trans (congrArg some (by kernel_rfl))
 f296:=func197.trans (congrArg some (by kernel_rfl))
 f297:=func198.trans (congrArg some (by kernel_rfl))
 f298:=func199.trans (congrArg some (by kernel_rfl))
 f299:=func200.trans (congrArg some (by kernel_rfl))
 f300:=func202.trans (congrArg some (by kernel_rfl))
 f301:=func203.trans (congrArg some (by kernel_rfl))
 f328:=func218.trans (congrArg some (by kernel_rfl))
 f329:=func219.trans (congrArg some (by kernel_rfl))
 f330:=func220.trans (congrArg some (by kernel_rfl))
 f331:=func221.trans (congrArg some (by kernel_rfl))
 f332:=func222.trans (congrArg some (by kernel_rfl))
 f343:=func229.trans (congrArg some (by kernel_rfl))
 t0:=Nh
 a0:=isAgg0
 z0:=sizeOf0
 v0:=Nn
 t3:=Kj
 a3:=isAgg3
 z3:=K8
 v3:=KO
 t4:=Ng
 a4:=isAgg4
 z4:=sizeOf4
 v4:=Nm
 t5:=L4
 a5:=isAgg5
 z5:=sizeOf5
 v5:=Nl
 t9:=Mj
 a9:=isAgg9
 z9:=sizeOf9
 v9:=zeroValue9
 t28:=J3
 a28:=MI
 z28:=KC
 v28:=L3
 t46:=underlying95
 a46:=isAgg95
 z46:=sizeOf95
 v46:=zeroValue95
 t51:=underlying285
 a51:=isAgg285
 z51:=sizeOf285
 v51:=zeroValue285
 t53:=underlying28
 a53:=isAgg28
 z53:=sizeOf28
 v53:=Mi
 t131:=underlying121
 a131:=isAgg121
 z131:=sizeOf121
 v131:=zeroValue121
 t182:=underlying279
 a182:=isAgg279
 z182:=sizeOf279
 v182:=zeroValue279
 t183:=underlying280
 a183:=isAgg280
 z183:=sizeOf280
 v183:=zeroValue280
 t218:=underlying294
 a218:=isAgg294
 z218:=sizeOf294
 v218:=zeroValue294
 t222:=underlying297
 a222:=isAgg297
 z222:=sizeOf297
 v222:=zeroValue297
 t228:=underlying301
 a228:=isAgg301
 z228:=sizeOf301
 v228:=zeroValue301
 t229:=underlying250
 a229:=isAgg250
 z229:=sizeOf250
 v229:=zeroValue250 }
open Go.Sort Go.RowKit in
theorem Tryz.slices_Sort_int(blk off a1:Nat)(zs:List Int)(w:ka)(hH:Holds (Kv .i64) w blk off zs.toArray)(a0:blk<w.heap.size)(a2:zs.length<4611686018427387904):
 Nk Js 160 #[.slice (some ⟨blk,off,none⟩) zs.length a1] w fun e w'=>
  e=.returned (.tuple #[])/\∃n os,w'=grow (putRow (Kv .i64) (LU w n) blk off (zs.mergeSort fun x y=>decide (x<=y)).toArray) os:=Any.slices_Sort_int mI blk off a1 zs w hH a0 a2
def lu:Mf:=⟨fun|20=>161|n=>n,fun|22=>22|3=>3|4=>4|0=>0|n=>n,fun|n=>n⟩
theorem jA:MF Js lu:={
 mixed:=by kernel_rfl
 f20:=func161.trans (congrArg some (by kernel_rfl))
 t0:=Nh
 a0:=isAgg0
 z0:=sizeOf0
 v0:=Nn
 t3:=Kj
 a3:=isAgg3
 z3:=K8
 v3:=KO
 t4:=Ng
 a4:=isAgg4
 z4:=sizeOf4
 v4:=Nm
 t22:=J3
 a22:=MI
 z22:=KC
 v22:=L3
 i3:=by kernel_rfl }
open Go.RowKit Go.Lib Go.Sort in
theorem Tryz.slices_Compact_int(blk off a0:Nat)(zs:List Int)(w:ka)(hH:Holds (Kv .i64) w blk off zs.toArray)(a2:zs.length<=9223372036854775807)(a1:zs.length<=a0):
 Nk Js 161 #[.slice (some ⟨blk,off,none⟩) zs.length a0] w fun e w'=>e=.returned (.slice (some ⟨blk,off,none⟩) (Ju zs).length a0)/\∃q,w'=putRow (Kv .i64) (LU w q) blk off (Ju zs++J6 (zs.length-(Ju zs).length) 0).toArray:=Any.slices_Compact_int jA blk off a0 zs w hH a2 a1
open Go.RowKit Go.Lib Go.Sort in
theorem Tryz.slices_Compact_int_empty(a:Option MX)(a0:Nat)(w:ka):
 Nk Js 161 #[.slice a 0 a0] w fun e w'=>e=.returned (.slice a 0 a0)/\w'=w:=Any.slices_Compact_int_empty jA a a0 w
open Go.RowKit Go.Sort in
theorem Tryz.slices_Sort_int_none(p:Option MX)(a0:Nat)(w:ka):
 Nk Js 160 #[.slice p 0 a0] w fun e w'=>e=.returned (.tuple #[])/\w'=w:=Any.slices_Sort_int_none mI p a0 w
end Go.Proofs
end
namespace Go.Proofs.YtlehnbkknlpkbaaGreatDoor
section
open Go.VL Go.Proofs Go.Sort
def gT(l:List Int):List Int:=l.mergeSort fun x y=>decide (x<=y)
theorem ei(l:List Int):(gT l).length=l.length:=List.length_mergeSort ..
theorem kP(l:List Int):(l.flatMap encI)=l.map (Kv .i64):=by induction l<;>simp_all[encI]
theorem Ao{O:Nat->Nat}{w:ka}{i g n:Nat}{os:Array Obj}(d:Array Int)(hi:i≠0)(ho:O g=i):J4 (fun k=>k=i) O w O (grow (putRow (Kv .i64) (LU w n) g 0 d) os):=by
 obtain⟨h1,h2,h3,h4,h5⟩:=grownBy_sortedI (w:=w) (g:=g) (n:=n) (os:=os) d;exact⟨h1,h2,h3,h4,fun k hk hn=>h5 k hk (fun e=>hn (by rw[<-ho];congr 1;exact MV e)),fun _ _=>rfl,fun _ h=>.inl h,fun e=>hi e.symm⟩
theorem kh{B:Nat}{O:Nat->Nat}{i:Nat}{v:ix}{l:List Int}{w:ka}(hR:Kx B O w)(hr:Jy encI 3 1 O w i v l)(hi:i≠0)(hl:l.length<=1000000):L6 Js 160 [v] w fun _ w'=>Jy encI 3 1 O w' i v (gT l)/\J4 (fun k=>k=i) O w O w'/\Kx B O w':=by
 rcases hr.1.row.2 with⟨rfl,h0⟩|⟨g,a6,a8,rfl,a7,hg,a2,a5,a4,ht⟩
 ·obtain rfl:l=[]:=GZ h0;refine KX (Tryz.slices_Sort_int_none none 0 w) fun e w' ⟨he,hw⟩=>?_
  subst he;subst hw;exact⟨by rw[GZ (ei [])];exact hr,JP (fun e=>hi e.symm) _ _,hR⟩
 have a0:=hr.1.tag g rfl;rw[kP]at ht;have hH:=holds_of_blockI (ss:=l) hg (by simpa using ht);have a3:=bB hg;refine KX (Tryz.slices_Sort_int g 0 a6 l w hH a3 zo) fun e w' ⟨he,n,os,hw⟩=>?_
 subst he;subst hw;have hU:=Ao (w:=w) (n:=n) (os:=os) (gT l).toArray hi a0;refine⟨⟨⟨?_,fun g' a1=>by simp[Mn]at a1;subst a1;exact a0⟩,fun _ _=>rfl⟩,hU,hR.upd hU⟩;have:=ownsRow_sortedI (w:=w) (n:=n) (os:=os) (base:=0) (ss:=l) (ts:=gT l) (ei l) (Gv _) hg a2 a5 a4;rw[kP,ei];exact this
theorem zL(l:List Int):(Ju l).length<=l.length:=by
 unfold Ju JZ;rw[JX];exact KI (Kq _ _) (by simp)
theorem eW{B:Nat}{O:Nat->Nat}{i:Nat}{v:ix}{l:List Int}{w:ka}(hR:Kx B O w)(hr:Jy encI 3 1 O w i v l)(hi:i≠0)(hl:l.length<=1000000):L6 Js 161 [v] w fun u w'=>Jy encI 3 1 O w' i u (Ju l)/\J4 (fun k=>k=i) O w O w'/\Kx B O w':=by
 rcases hr.1.row.2 with⟨rfl,h0⟩|⟨g,a4,a7,rfl,b0,hg,a5,a6,a',ht⟩
 ·obtain rfl:l=[]:=GZ h0;refine KX (Tryz.slices_Compact_int_empty none 0 w) fun e w' ⟨he,hw⟩=>?_
  subst he;subst hw;exact⟨hr,JP (fun e=>hi e.symm) _ _,hR⟩
 have a0:=hr.1.tag g rfl;rw[kP]at ht;have hH:=holds_of_blockI (ss:=l) hg (by simpa using ht);have a9:=zL l;refine KX (Tryz.slices_Compact_int g 0 a4 l w hH zo a5) fun e w' ⟨he,n,hw⟩=>?_
 subst he;obtain⟨ts,a1⟩:∃ts,ts=Ju l++J6 (l.length-(Ju l).length) 0:=⟨_,rfl⟩
 rw[<-a1]at hw;have a8:ts.length=l.length:=by rw[a1];simp;omega
 have hU:=Ao (w:=w) (n:=n) (os:=#[]) ts.toArray hi a0;have a2:=heap_sortedI (n:=n) (os:=#[]) ts.toArray hg;rw[grow_empty,<-hw]at hU a2;refine⟨⟨⟨⟨by rw[kP];simp,.inr ⟨g,a4,_,rfl,Gv _,a2,zo,a6,by simp[putCells];omega,?_⟩⟩,fun g' a3=>by simp[Mn]at a3;subst a3;exact a0⟩,fun _ _=>rfl⟩,hU,hR.upd hU⟩;have h1:=take_putCellsI a7 ts zo;have h2:=congrArg (M9 (Ju l).length) h1;rw[KY,MA zo]at h2;rw[kP,MT,h2,a1,JL,KP (by simp),Li (by simp)]
end
def qC(l:List Int):List Int:=Ju (gT l)
structure Cmp(d:Array Int)(m:Nat)(r:List Int):Prop where
 mem:∀x,x∈r↔∃j,j<m/\d[j]! = x
 pw:r.Pairwise (· < ·)
theorem yA(d:Array Int)(hs:∀i j,i<=j->j<d.size->d[i]!<=d[j]!):∀m,m<=d.size->Cmp d m (JZ d m)
 |0,_=>⟨fun x=>by simp[JZ],by simp[JZ]⟩
 |m+1,hm=>by
  have ih:=yA d hs m zo;rw[Lib.compactUpTo_succ]
  by_cases hk:Mr d m=true
  ·rw[if_pos hk];refine⟨fun x=>?_,?_⟩
   ·rw[JK,ih.mem,ln]
    constructor
    ·rintro(⟨j,hj,e⟩|e)
     ·exact⟨j,zo,e⟩
     exact⟨m,zo,e.symm⟩
    rintro⟨j,hj,e⟩
    by_cases a0:j=m
    ·subst a0;exact .inr e.symm
    exact .inl ⟨j,zo,e⟩
   refine Lx.2 ⟨ih.pw,by simp,fun a ha b hb=>?_⟩;rw[ln]at hb;subst hb;obtain⟨j,hj,rfl⟩:=(ih.mem a).1 ha;simp only[Mr,decide_eq_true_eq]at hk;have h1:=hs j (m-1) zo zo;have h2:=hs (m-1) m zo zo
   rcases hk with hk|hk
   ·omega
   omega
  rw[if_neg hk,Jn];refine⟨fun x=>?_,ih.pw⟩;rw[ih.mem]
  constructor
  ·rintro⟨j,hj,e⟩;exact⟨j,zo,e⟩
  rintro⟨j,hj,e⟩
  by_cases a0:j=m
  ·subst a0;simp only[Mr,decide_eq_true_eq,not_or]at hk;obtain⟨h1,h2⟩:=hk;exact⟨j-1,zo,by rw[<-e];exact(J7 fun a1=>h2 fun e2=>a1 e2.symm)⟩
  exact⟨j,zo,e⟩
theorem sY(l:List Int):(gT l).Pairwise (·<=·):=by
 have:=List.pairwise_mergeSort (le:=fun x y:Int=>decide (x<=y)) (fun a b c h1 h2=>by simp at h1 h2 ⊢;omega) (fun a b=>by simp;omega) l;exact this.imp fun h=>by simpa using h
theorem AJ(l:List Int)(x:Int):x∈gT l↔x∈l:=List.mem_mergeSort ..
theorem uD(l:List Int):(∀x,x∈qC l↔x∈l)/\(qC l).Pairwise (· < ·):=by
 have hp:=sY l;have a0:∀j,j<(gT l).length->(gT l).toArray[j]! = nth (gT l) j:=fun j hj=>by
  rw[aB hj,getElem!_pos _ j (by simpa using hj)];simp
 have h:=yA (gT l).toArray (fun i j a1 hj=>by
  have hj:j<(gT l).length:=by simpa using hj
  rw[a0 i zo,a0 j hj]
  by_cases e:i=j
  ·subst e;exact KS _
  have:=L2.1 hp i j zo hj zo
  rw[aB zo,aB hj];exact this) (gT l).length (by simp)
 refine⟨fun x=>?_,h.pw⟩;show x∈JZ _ _↔_;rw[h.mem,<-AJ l x]
 constructor
 ·rintro⟨j,hj,rfl⟩;rw[a0 j hj];exact aO hj
 intro hx;obtain⟨j,hj,rfl⟩:=cI hx;exact⟨j,hj,a0 j hj⟩
theorem uC(l:List Int)(x:Int):x∈qC l↔x∈l:=(uD l).1 x
theorem yB(l:List Int):(qC l).Pairwise (· < ·):=(uD l).2
theorem C0{a:List Int}(h:a.Pairwise (· < ·)){n:Nat}(hb:∀x∈a,0<=x/\x.toNat<n):a.length<=n:=by
 have hn:(a.map Int.toNat).Nodup:=by
  refine M5.2 (h.imp_of_mem fun {x y} hx hy a0=>?_);have:=hb x hx;have:=hb y hy;omega
 have:=gu hn (n:=n) fun x hx=>by
  obtain⟨y,hy,rfl⟩:=JO.1 hx;exact(hb y hy).2
 simpa using this
mutual
def dh:Nd->Nat
 |.mk k _ l=>if l.isEmpty=true/\k≠9 then 1 else bh l
def bh:List Nd->Nat
 |[]=>0
 |t::r=>dh t+bh r
end
mutual
/-- Parts stand where parts may stand. -/
def zA:Nd->Bool
 |.mk k _ l=>(if k=4\/k=5\/k=6\/k=7\/k=8 then !l.isEmpty else l.isEmpty)&&jO l
def jO:List Nd->Bool
 |[]=>true
 |t::r=>zA t&&jO r
end
mutual
theorem fT:∀(t:Nd) (a b:Nat) (g:Gr),zA t=true->fG t=true->(fy t a b g).ls.length=g.ls.length+dh t
 |.mk k c l,a,b,g,hk,hs=>by
  unfold zA at hk
  unfold fG at hs
  simp only[J0]at hk hs
  obtain⟨hk1,hk2⟩:=hk
  obtain⟨hs1,hs2⟩:=hs
  unfold fy dh
  by_cases h4:k=4
  ·rw[if_pos zo]at hk1
   rw[if_pos h4,oi l a b g hk2 hs2,if_neg (by rintro⟨e,_⟩;rw[e]at hk1;simp at hk1)]
  rw[if_neg h4]
  by_cases h5:k=5
  ·rw[if_pos zo]at hk1
   rw[if_pos h5,oj l a b g hk2 hs2,if_neg (by rintro⟨e,_⟩;rw[e]at hk1;simp at hk1)]
  rw[if_neg h5]
  by_cases h678:k=6\/k=7\/k=8
  ·rw[if_pos zo]at hk1
   rw[if_neg h4,if_pos h678]at hs1
   have hO:∀(k:Int) (g:Gr) (i:Nat),(layO k g i).ls=g.ls:=fun k g i=>by unfold layO;split<;>split<;>rfl
   rw[if_pos h678,hO,vV l _ _ _ hk2 hs2 (of_decide_eq_true hs1),if_neg (by rintro⟨e,_⟩;rw[e]at hk1;simp at hk1)]
   rfl
  rw[if_neg h678]
  rw[if_neg zo]at hk1
  have hl:l=[]:=by simpa using hk1
  subst hl
  by_cases h9:k=9
  ·rw[if_pos h9,if_neg (by rintro⟨_,e⟩;exact e h9)]
   rfl
  rw[if_neg h9,if_pos ⟨rfl,h9⟩]
  simp[Nv]
theorem oi:∀(l:List Nd) (a b:Nat) (g:Gr),jO l=true->bR l=true->(nh l a b g).ls.length=g.ls.length+bh l
 |[],_,_,g,_,_=>by simp[nh,bh]
 |t::r,a,b,g,hk,hs=>by
  unfold jO at hk
  unfold bR at hs
  simp only[J0]at hk hs
  unfold nh bh
  split
  ·rename_i hr
   have hr:r=[]:=by simpa using hr
   subst hr
   rw[fT t a b g hk.1 hs.1];simp[bh]
  rw[oi r _ _ _ hk.2 hs.2,fT t _ _ _ hk.1 hs.1]
  show g.ls.length+_+_=_
  omega
theorem oj:∀(l:List Nd) (a b:Nat) (g:Gr),jO l=true->bR l=true->(nn l a b g).ls.length=g.ls.length+bh l
 |[],_,_,g,_,_=>by simp[nn,bh]
 |t::r,a,b,g,hk,hs=>by
  unfold jO at hk
  unfold bR at hs
  simp only[J0]at hk hs
  unfold nn bh
  rw[oj r _ _ _ hk.2 hs.2,fT t _ _ _ hk.1 hs.1]
  omega
theorem vV:∀(l:List Nd) (a b:Nat) (g:Gr),jO l=true->bR l=true->l.length=1->(nj l a b g).ls.length=g.ls.length+bh l
 |[],_,_,g,_,_,h=>by simp at h
 |t::r,a,b,g,hk,hs,h=>by
  have hr:r=[]:=by simpa using h
  subst hr
  unfold jO at hk
  unfold bR at hs
  simp only[J0]at hk hs
  unfold nj
  rw[fT t _ _ _ hk.1 hs.1];simp[bh]
end
theorem mC:∀(xs:List Nd) (i:Nat) (g:Gr),jO xs=true->bR xs=true->(bY xs i g).ls.length=g.ls.length+bh xs
 |[],_,g,_,_=>by simp[bY,bh]
 |x::r,i,g,hk,hs=>by
  unfold jO at hk;unfold bR at hs;simp only[J0]at hk hs;unfold bY bh;rw[mC r _ _ hk.2 hs.2,mZ,fT x _ _ _ hk.1 hs.1];show g.ls.length+_+_=_;omega
def vh(g:Gr):Nat:=(g.ks.map fun k=>k.2.1.length).sum
theorem qS(f:Kt->Nat):∀(l:List Kt) (a:Nat) (x:Kt),a<l.length->((l.set a x).map f).sum+f (nth l a)=(l.map f).sum+f x
 |[],a,_,h=>absurd h (Gb a)
 |y::l,0,x,_=>by rw[ar];simp;omega
 |y::l,a+1,x,h=>by
  have:=qS f l a x (by simpa using h);rw[bd];simp only[LZ,Gi,L7];omega
theorem Dv(g:Gr):vh g.knot=vh g:=by simp[vh,Gr.knot]
theorem Dy{g:Gr}{a b:Nat}(ha:a<g.ks.length):vh (g.free a b)=vh g:=by
 have:=qS (fun k=>k.2.1.length) g.ks a (g.fr a++[b],g.lv a,g.en a) ha;unfold vh Gr.free;simp only[Ms]at this ⊢;omega
theorem Dj{g:Gr}{a b:Nat}(ha:a<g.ks.length):vh (g.mark a b)=vh g:=by
 have:=qS (fun k=>k.2.1.length) g.ks a (g.fr a,g.lv a,b) ha;unfold vh Gr.mark;simp only[Ms]at this ⊢;omega
theorem Do{g:Gr}{x c:Int}{a b:Nat}(ha:a<g.ks.length):vh (g.leaf x c a b)=vh g+1:=by
 have:=qS (fun k=>k.2.1.length) g.ks a (g.fr a,g.lv a++[g.ls.length+1],g.en a) ha;unfold vh Nv;simp only[Ms,I4,JF,JM]at this ⊢;omega
def Tot(g:Gr):Prop:=vh g=g.ls.length
theorem Tot.knot{g:Gr}(h:Tot g):Tot g.knot:=(Dv g).trans h
theorem Tot.free{g:Gr}(h:Tot g){a b:Nat}(ha:a<g.ks.length):Tot (g.free a b):=(Dy ha).trans h
theorem Tot.mark{g:Gr}(h:Tot g){a b:Nat}(ha:a<g.ks.length):Tot (g.mark a b):=(Dj ha).trans h
theorem Tot.leaf{g:Gr}(h:Tot g){x c:Int}{a b:Nat}(ha:a<g.ks.length):Tot (g.leaf x c a b):=by
 unfold Tot;rw[Do ha,jN];simp;exact h
theorem Tot.layO{g:Gr}(h:Tot g){k:Int}{i:Nat}(hi:i+1<g.ks.length):Tot (layO k g i):=by
 unfold JJ;split<;>split
 ·exact h
 ·exact h.free zo
 ·exact h.free hi
 exact(h.free zo).free (by rw[aV];exact hi)
mutual
theorem kK:∀(t:Nd) (a b:Nat) (g:Gr),WF g->a<g.ks.length->b<g.ks.length->Tot g->Tot (fy t a b g)
 |.mk k c l,a,b,g,h,ha,hb,hM=>by
  unfold fy
  split
  ·exact yj l a b g h ha hb hM
  split
  ·exact ym l a b g h ha hb hM
  split
  ·have hl:=dY g a b
   have hwf:=eR h ha hb
   obtain⟨h1,h2⟩:=lS l g.ks.length (g.ks.length+1) (bF g a b) hwf zo zo
   have:=h2.len
   have hk2:g.knot.knot.ks.length=g.ks.length+2:=by rw[aG,aG]
   have h3:=Dt l g.ks.length (g.ks.length+1) (bF g a b) hwf zo zo ((hM.knot.knot.free zo).free (by rw[aV];omega))
   exact h3.layO (by show _<(nj l g.ks.length (g.ks.length+1) (bF g a b)).ks.length;omega)
  split
  ·exact hM.free ha
  exact hM.leaf ha
theorem yj:∀(l:List Nd) (a b:Nat) (g:Gr),WF g->a<g.ks.length->b<g.ks.length->Tot g->Tot (nh l a b g)
 |[],_,_,g,_,_,_,hM=>hM
 |t::r,a,b,g,h,ha,hb,hM=>by
  unfold nh
  split
  ·exact kK t a b g h ha hb hM
  have hl:=aG g
  obtain⟨h1,h2⟩:=ct t a g.ks.length g.knot h.knot zo zo
  have:=h2.len
  exact yj r _ _ _ h1 zo zo (kK t _ _ _ h.knot zo zo hM.knot)
theorem ym:∀(l:List Nd) (a b:Nat) (g:Gr),WF g->a<g.ks.length->b<g.ks.length->Tot g->Tot (nn l a b g)
 |[],_,_,g,_,_,_,hM=>hM
 |t::r,a,b,g,h,ha,hb,hM=>by
  unfold nn
  obtain⟨h1,h2⟩:=ct t a b g h ha hb
  have:=h2.len
  exact ym r _ _ _ h1 zo zo (kK t a b g h ha hb hM)
theorem Dt:∀(l:List Nd) (a b:Nat) (g:Gr),WF g->a<g.ks.length->b<g.ks.length->Tot g->Tot (nj l a b g)
 |[],_,_,g,_,_,_,hM=>hM
 |t::_,a,b,g,h,ha,hb,hM=>by
  unfold nj
  exact kK t a b g h ha hb hM
end
theorem C5{g:Gr}(h:WF g)(h0:0<g.ks.length)(x:Nd)(i:Nat)(ht:Tot g):Tot (mZ x i g):=by
 have e1:=aG g;have e2:=cz g.knot g.ks.length (i+1);have e3:=aG (g.knot.mark g.ks.length (i+1));have hl:=dU g i;exact kK x _ _ _ (eO h h0 i).1 zo zo (((ht.knot.mark zo).knot).free zo)
theorem uF:∀(xs:List Nd) (i:Nat) (g:Gr),WF g->0<g.ks.length->Tot g->Tot (bY xs i g)
 |[],_,_,_,_,ht=>ht
 |x::r,i,g,h,h0,ht=>by
  obtain⟨h1,h2,h3⟩:=lL h h0 x i;exact uF r (i+1) _ h1 zo (C5 h h0 x i ht)
theorem qT(f:Kt->Nat)(l:List Kt):(l.map f).sum=((K5 l.length).map fun i=>f (nth l i)).sum:=by
 congr 1;apply List.ext_getElem
 ·simp
 intro i h1 h2;simp only[Mb,List.getElem_range];rw[aB (by simpa using h1)]
theorem AF(f:Nat->Nat)(n:Nat):∀(l:List Nat),l.Nodup->(l.map f).sum<=((l.filter fun x=>x != n).map f).sum+f n
 |[],_=>by simp
 |a::l,h=>by
  have h':=Mp.1 h
  by_cases e:a=n
  ·subst e;have hf:(l.filter fun x=>x != a)=l:=JY.2 fun x hx=>by
    simp only[bne_iff_ne,ne_eq];intro e;exact h'.1 (by rw[<-e];exact hx)
   rw[Ld (by simp),hf];simp;omega
  have:=AF f n l h'.2;rw[List.filter_cons_of_pos (by simpa using e)];simp only[Gi,L7];omega
theorem sV(f:Nat->Nat):∀(n:Nat) (l:List Nat),l.Nodup->(∀x∈l,x<n)->(l.map f).sum<=((K5 n).map f).sum
 |0,l,_,h=>by
  have:l=[]:=by cases l with
   |nil=>rfl
   |cons a r=>exact absurd (h a (by simp)) (Gb _)
  subst this;simp
 |n+1,l,hn,h=>by
  have h1:=AF f n l hn;have h2:=sV f n (l.filter fun x=>x != n) (hn.filter _) fun x hx=>by
   have hx:=JW.1 hx;have:=h x hx.1;have:x≠n:=by simpa using hx.2
   omega
  rw[List.range_succ,JL,List.sum_append];simp only[Gi,K0,L7,List.sum_nil];omega
theorem vx{g:Gr}(hw:WF g){k:Nat}(hk:k<g.ks.length):(fj g k).Nodup/\∀x∈fj g k,x<g.ks.length:=by
 have a0:∀(n i:Nat) (l:List Nat),Rc g k i l->(ia g n i l).Nodup/\∀x∈ia g n i l,x<g.ks.length:=fun n=>by
  induction n with
  |zero=>exact fun i l h=>⟨h.nd,h.lt⟩
  |succ n ih=>
   intro i l h;unfold ia
   split
   ·rename_i hi;exact ih _ _ (h.step hw hi)
   exact⟨h.nd,h.lt⟩
 exact a0 _ _ _ (sy hk)
theorem uk(f:Nat->List Nat):∀(l:List Nat),(l.flatMap f).length=(l.map fun k=>(f k).length).sum
 |[]=>rfl
 |a::l=>by simp
theorem yd{g:Gr}(hw:WF g)(ht:Tot g){p:Nat}(hp:g.pl p<g.ks.length):(cO g p).length<=g.ls.length:=by
 obtain⟨h1,h2⟩:=vx hw hp;unfold cO;rw[uk];have:=sV (fun k=>(g.lv k).length) g.ks.length _ h1 h2;have e:((K5 g.ks.length).map fun k=>(g.lv k).length).sum=vh g:=(qT (fun k=>k.2.1.length) g.ks).symm;rw[e,ht]at this;exact this
def GM(se:Bool)(g:Gr)(s:List Int)(m:Int):List Int:=
 (if se=true then [0]else [])++s.flatMap fun p=>((cO g p.toNat).filter fun j=>cK (nth g.ls (j-1)).1 (nth g.ls (j-1)).2.1 m).map fun(j:Nat)=>(j:Int)
def cM(se:Bool)(g:Gr)(s:List Int)(m:Int):List Int:=qC (GM se g s m)
theorem nF(se:Bool)(g:Gr):Stp g se (cM se g):=⟨fun s m x=>by
 unfold cM GM;rw[uC,JK,Ma]
 constructor
 ·rintro(h|⟨p,hp,h⟩)
  ·cases se with
   |true=>rw[if_pos rfl]at h;exact .inl ⟨rfl,ln.1 h⟩
   |false=>rw[if_neg zd]at h;simp at h
  obtain⟨j,hj,rfl⟩:=JO.1 h;obtain⟨h1,h2⟩:=JW.1 hj;exact .inr ⟨p,hp,j,h1,rfl,h2⟩
 rintro(⟨h,rfl⟩|⟨p,hp,j,h1,rfl,h2⟩)
 ·rw[if_pos h];exact .inl (by simp)
 exact .inr ⟨p,hp,JO.2 ⟨j,JW.2 ⟨h1,h2⟩,rfl⟩⟩⟩
theorem CS{se:Bool}{g:Gr}(hw:WF g)(h0:0<g.ks.length){s:List Int}(hs:inP g s)(m:Int):(cM se g s m).length<=g.ls.length+1:=
 C0 (yB _) fun x hx=>by have:=vk hw h0 (nF se g) hs m x hx;exact⟨this.1,zo⟩
theorem FL{se:Bool}{g:Gr}(hw:WF g)(h0:0<g.ks.length)(ht:Tot g){m:Int}:∀ {s:List Int},inP g s->(GM se g s m).length<=1+s.length*g.ls.length:=fun {s} hs=>by
 have a0:∀(s:List Int),inP g s->(s.flatMap fun p=>((cO g p.toNat).filter fun j=>cK (nth g.ls (j-1)).1 (nth g.ls (j-1)).2.1 m).map fun(j:Nat)=>(j:Int)).length<=s.length*g.ls.length:=fun s=>by
  induction s with
  |nil=>intro _;simp
  |cons p s ih=>
   intro h;have h1:=ih fun x hx=>h x (by simp[hx])
   have h2:=yd hw ht (pr hw h0 (h p (by simp)).2);have h3:=Kq (fun j=>cK (nth g.ls (j-1)).1 (nth g.ls (j-1)).2.1 m) (cO g p.toNat);simp only[Kb,I4,JX,JF,LG,LD];omega
 have:=a0 s hs;unfold GM;rw[I4]
 split
 ·rw[Lm];omega
 rw[JM];omega
def CI(S:List (List Int))(s:List Int):Option Nat:=S.findIdx? (· == s)
def CG(S:List (List Int))(s:List Int):Nat:=(CI S s).getD S.length
def rH(S:List (List Int))(s:List Int):List (List Int):=if(CI S s).isSome=true then S else S++[s]
theorem BB{S:List (List Int)}{s:List Int}{k:Nat}(h:CI S s=some k):k<S.length/\nth S k=s:=by
 obtain⟨h1,h2,_⟩:=JN.1 h;exact⟨h1,by rw[aB h1];simpa using h2⟩
theorem ya(S:List (List Int))(s:List Int):∃r,rH S s=S++r:=by
 unfold rH
 split
 ·exact⟨[],by simp⟩
 exact⟨_,rfl⟩
theorem FS(S:List (List Int))(s:List Int):CG S s<(rH S s).length/\nth (rH S s) (CG S s)=s:=by
 unfold CG rH
 cases h:CI S s with
 |some k=>exact BB h
 |none=>
  simp only[LW,Lw,KA,if_false];exact⟨by simp,by rw[aA,if_neg zo,K1,ar]⟩
theorem C7(S:List (List Int))(s:List Int):S.length<=(rH S s).length/\(rH S s).length<=S.length+1:=by
 unfold rH
 split
 ·omega
 simp
theorem C6{S:List (List Int)}{s:List Int}{k:Nat}(h:k<S.length):nth (rH S s) k=nth S k:=by
 obtain⟨r,hr⟩:=ya S s;rw[hr,aA,if_pos h]
def dC(step:List Int->Int->List Int)(s:List Int)(S:List (List Int)):Nat->List (List Int)×List Nat
 |0=>(S,[])
 |m+1=>(rH (dC step s S m).1 (step s (m:Nat)),(dC step s S m).2++[CG (dC step s S m).1 (step s (m:Nat))])
structure RowI(step:List Int->Int->List Int)(s:List Int)(S S':List (List Int))(r:List Nat)(m:Nat):Prop where
 pre:∃q,S'=S++q
 top:S'.length<=S.length+m
 len:r.length=m
 lt:∀j,j<m->nth r j<S'.length/\nth S' (nth r j)=step s (j:Nat)
 mem:∀x∈S',x∈S\/∃j:Nat,j<m/\x=step s (j:Nat)
theorem kB(step:List Int->Int->List Int)(s:List Int)(S:List (List Int)):∀m,RowI step s S (dC step s S m).1 (dC step s S m).2 m
 |0=>⟨⟨[],by simp[dC]⟩,by simp[dC],rfl,fun j hj=>absurd hj (Gb j),fun x hx=>.inl hx⟩
 |m+1=>by
  have ih:=kB step s S m;unfold dC;generalize dC step s S m=R at *;obtain⟨S1,r⟩:=R;dsimp only at ih ⊢;obtain⟨q,hq⟩:=ih.pre;obtain⟨q2,a4⟩:=ya S1 (step s (m:Nat));have a5:=FS S1 (step s (m:Nat));have hl:=C7 S1 (step s (m:Nat));have a0:=ih.top;have a3:=ih.len;refine⟨⟨q++q2,by rw[a4,hq,Jt]⟩,zo,by simp[a3],fun j hj=>?_,fun x hx=>?_⟩
  ·rw[aA]
   by_cases e:j<r.length
   ·rw[if_pos e];obtain⟨a1,a2⟩:=ih.lt j zo;exact⟨zo,by rw[C6 a1];exact a2⟩
   rw[if_neg e,show j-r.length=0 from by omega,ar];obtain rfl:j=m:=zo;exact a5
  unfold rH at hx
  split at hx
  ·rcases ih.mem x hx with h|⟨j,hj,e⟩
   ·exact .inl h
   exact .inr ⟨j,zo,e⟩
  rcases JK.1 hx with hx|hx
  ·rcases ih.mem x hx with h|⟨j,hj,e⟩
   ·exact .inl h
   exact .inr ⟨j,zo,e⟩
  exact .inr ⟨m,zo,ln.1 hx⟩
def Ge(step:List Int->Int->List Int)(tells:List Int->Nat):Nat->Nat->List (List Int)->List (List Nat)->List Nat->Option (List (List Nat)×List Nat)
 |0,_,_,_,_=>none
 |n+1,i,S,rows,tls=>
  if i<S.length then
   if 1000<(dC step (nth S i) S 37).1.length then none
   else Ge step tells n (i+1) (dC step (nth S i) S 37).1 (rows++[(dC step (nth S i) S 37).2]) (tls++[tells (nth S i)])
  else some (rows,tls)
def DC(step:List Int->Int->List Int)(a0:List Int->Nat):Option (List (List Nat)×List Nat):=Ge step a0 1002 0 [[0]] [] []
structure DI(step:List Int->Int->List Int)(tells:List Int->Nat)(i:Nat)(S:List (List Int))(rows:List (List Nat))(tls:List Nat):Prop where
 le:i<=S.length
 rl:rows.length=i
 tl:tls.length=i
 p0:0<S.length
 fst:nth S 0=[0]
 len:S.length<=1000
 row:∀j,j<i->(nth rows j).length=37/\∀m:Nat,m<37->nth (nth rows j) m<S.length/\nth S (nth (nth rows j) m)=step (nth S j) (m:Nat)
 tel:∀j,j<i->nth tls j=tells (nth S j)
theorem yO(step:List Int->Int->List Int)(a0:List Int->Nat):DI step a0 0 [[0]] [] []:=⟨zd,rfl,rfl,zd,ar _ _,zd,fun j hj=>absurd hj (Gb j),fun j hj=>absurd hj (Gb j)⟩
theorem DI.next{step:List Int->Int->List Int}{a3:List Int->Nat}{i:Nat}{S:List (List Int)}{rows:List (List Nat)}{a4:List Nat}(h:DI step a3 i S rows a4)(hi:i<S.length)(hl:(dC step (nth S i) S 37).1.length<=1000):
  DI step a3 (i+1) (dC step (nth S i) S 37).1 (rows++[(dC step (nth S i) S 37).2]) (a4++[a3 (nth S i)]):=by
 have hr:=kB step (nth S i) S 37;generalize dC step (nth S i) S 37=R at *;obtain⟨S1,r⟩:=R;dsimp only at hr hl ⊢;obtain⟨q,hq⟩:=hr.pre;have a0:∀k,k<S.length->nth S1 k=nth S k:=fun k hk=>by rw[hq,aA,if_pos hk]
 have a5:S.length<=S1.length:=by rw[hq];simp
 have h1:=h.rl;have h2:=h.tl;have h3:=h.p0;refine⟨zo,by simp[h1],by simp[h2],zo,by rw[a0 0 h3];exact h.fst,hl,fun j hj=>?_,fun j hj=>?_⟩
 ·rw[aA]
  by_cases e:j<rows.length
  ·rw[if_pos e];obtain⟨a1,a2⟩:=h.row j zo;refine⟨a1,fun m hm=>?_⟩;obtain⟨b1,b2⟩:=a2 m hm;exact⟨zo,by rw[a0 _ b1,a0 j zo];exact b2⟩
  rw[if_neg e,show j-rows.length=0 from by omega,ar];obtain rfl:j=i:=zo;refine⟨hr.len,fun m hm=>?_⟩;obtain⟨b1,b2⟩:=hr.lt m hm;exact⟨b1,by rw[a0 j hi];exact b2⟩
 rw[aA]
 by_cases e:j<a4.length
 ·rw[if_pos e,a0 j zo];exact h.tel j zo
 rw[if_neg e,show j-a4.length=0 from by omega,ar];obtain rfl:j=i:=zo;rw[a0 j hi]
theorem uz{step:List Int->Int->List Int}{a0:List Int->Nat}:∀(n i:Nat) (S:List (List Int)) (rows:List (List Nat)) (a1:List Nat) (d:List (List Nat)×List Nat),DI step a0 i S rows a1->Ge step a0 n i S rows a1=some d->∃S',DI step a0 S'.length S' d.1 d.2
 |0,_,_,_,_,_,_,h=>by cases h
 |n+1,i,S,rows,a1,d,hd,h=>by
  unfold Ge at h
  split at h
  ·rename_i hi
   split at h
   ·cases h
   exact uz n _ _ _ _ d (hd.next hi zo) h
  rename_i hi
  cases h
  have:=hd.le;obtain rfl:i=S.length:=zo;exact⟨S,hd⟩
theorem oE{step:List Int->Int->List Int}{a0:List Int->Nat}{d:List (List Nat)×List Nat}(h:DC step a0=some d):∃S,DI step a0 S.length S d.1 d.2:=uz _ _ _ _ _ d (yO _ _) h
def jj(rows:List (List Nat))(w:List Nat)(q:Nat):Nat:=w.foldl (fun q m=>nth (nth rows q) m) q
theorem xT{step:List Int->Int->List Int}{a0:List Int->Nat}{S:List (List Int)}{rows:List (List Nat)}{a3:List Nat}(h:DI step a0 S.length S rows a3):∀(w:List Nat),(∀m∈w,m<37)->∀q,q<S.length->jj rows w q<S.length/\nth S (jj rows w q)=w.foldl (fun s (m:Nat)=>step s (m:Int)) (nth S q)
 |[],_,q,hq=>⟨hq,rfl⟩
 |m::w,hw,q,hq=>by
  obtain⟨a1,a2⟩:=(h.row q hq).2 m (hw m (by simp));have:=xT h w (fun x hx=>hw x (by simp[hx])) _ a1;rw[a2]at this;exact this
def uW(s:List Int):List UInt8:=s.flatMap fun p=>[JU (p.toNat / 256),JU (p.toNat % 256)]
def okS(s:List Int):Prop:=∀x∈s,0<=x/\x.toNat<=999
theorem yo:∀ {s t:List Int},okS s->okS t->uW s=uW t->s=t
 |[],[],_,_,_=>rfl
 |[],b::t,_,_,h=>by simp[uW]at h
 |a::s,[],_,_,h=>by simp[uW]at h
 |a::s,b::t,hs,ht,h=>by
  have h1:=hs a (by simp);have h2:=ht b (by simp);unfold uW at h;simp only[Kb,Kg,KR,JG]at h;obtain⟨e1,e2,e3⟩:=h;have e1:=congrArg MK e1;have e2:=congrArg MK e2;simp only[LB]at e1 e2;have:a=b:=zo;subst this;rw[yo (fun x hx=>hs x (by simp[hx])) (fun x hx=>ht x (by simp[hx])) e3]
end Go.Proofs.YtlehnbkknlpkbaaGreatDoor
namespace Go.VL
section
open Go.ChangeMaps (setBlock)
section
variable{κ ν:Type}[DecidableEq κ]{kv:κ→ix}{vv:ν→ix}
def pQ:List (κ×ν)->κ->List (κ×ν)
 |[],_=>[]
 |(a,y)::r,k=>if a=k then r else(a,y)::pQ r k
theorem jf:∀(l:List (κ×ν)) (k:κ),pQ l k=match je l k with
  |some i=>l.eraseIdx i
  |none=>l
 |[],k=>rfl
 |(a,y)::r,k=>by
  simp only[pQ,je]
  by_cases h:a=k
  ·simp[h]
  simp only[if_neg h];rw[jf r k]
  cases je r k<;>simp
theorem map_eraseIdx{α β:Type}(f:α->β)(l:List α)(j:Nat):(l.eraseIdx j).map f=(l.map f).eraseIdx j:=by
 simp[JQ,L9,MD]
theorem fh{O:Nat->Nat}{w:ka}{i r:Nat}(o:Obj)(ht:O r=i)(a0:i≠0):J4 (fun j=>j=i) O w O (setBlock w r o):=by
 refine⟨rfl,rfl,rfl,by simp[setBlock],fun b _ hn=>?_,fun _ _=>rfl,fun _ h=>.inl h,fun h=>a0 h.symm⟩;simp only[setBlock,KQ]
 rw[if_neg (fun e=>hn (by rw[<-e];exact ht))]
theorem eP{w:ka}{r:Nat}{o o':Obj}(h:w.heap[r]? = some o):(setBlock w r o').heap[r]? = some o':=by
 have:=bB h;simp[setBlock,this]
theorem pg{P:JE}{T K E ty U:J8}(hT:P.underlying T=some (.map K E))(hK:MQ P K kv){O:Nat->Nat}{w:ka}{i r:Nat}{l:List (κ×ν)}(h:JS kv vv O w i r l)(a8:i≠0)(k:κ):
  ∃w',(KL #[T,U] ty #[.map (some r),kv k]).run P w=.ok (.tuple #[]) w'/\JS kv vv O w' i r (pQ l k)/\J4 (fun j=>j=i) O w O w':=by
 obtain⟨es,c,h1,h2⟩:=h.blk;have a3:=h.born es c h1;have a6:es.toList.map (·.key)=(l.map (·.1)).map kv:=by
  have:=congrArg (N9 N8) h2;simpa[Lp]using this
 have hf:=hK.find k es.toList (l.map (·.1)) w a6;rw[ey]at hf;have hc:=hK.check es.isEmpty 9998 k w;have hr:=bB h1;have a5:∀(a1:Array Jq) (c':Nat),((a1.toList.map (·.born)).Nodup/\∀e∈a1.toList,e.born<c')->a1.toList.map (fun e=>(e.key,e.val))=(pQ l k).map (fun p=>(kv p.1,vv p.2))->
   JS kv vv O (setBlock w r (.map a1 c')) i r (pQ l k)/\J4 (fun j=>j=i) O w O (setBlock w r (.map a1 c')):=fun a1 c' hb he=>
  ⟨⟨⟨a1,c',eP h1,he⟩,h.tag,fun a9 c2 h2=>by rw[eP h1]at h2;cases h2;exact hb⟩,fh _ h.tag a8⟩
 have a2:(KL #[T,U] ty #[.map (some r),kv k]).run P w=((match ((je l k).bind fun i=>(es.toList[i]?).map fun e=>(i,e.val))with
   |some (i,_)=>do setObj r (.map (es.eraseIdxIfInBounds i) c);pure (.tuple #[])
   |none=>do setObj r (.map es c);pure (.tuple #[]):Sem ix)).run P w:=by
  simp only[KL,List.getElem?_toArray,List.getElem?_cons_zero,List.getElem?_cons_succ,Gc,run_underlying hT,la];simp only[getObj,Kw,h1,Gc,la,hc,hf];generalize ((je l k).bind fun i=>Lv (fun e=>(i,e.val)) es.toList[i]?)=q
  cases q with
  |none=>rfl
  |some p=>rfl
 rw[a2,jf];have a0:∀a1,(do setObj r (.map a1 c);pure (.tuple #[]):Sem ix).run P w=.ok (.tuple #[]) (setBlock w r (.map a1 c)):=fun a1=>by
  simp[setObj,Kw,h1,setBlock]
 cases hi:je l k with
 |none=>
  refine⟨_,by simp only[LX];exact a0 es,?_⟩;have:=a5 es c a3 (by rw[jf,hi];exact h2);rw[jf,hi]at this;exact this
 |some j=>
  obtain⟨y,hy⟩:=iH hi;have a4:j<es.toList.length:=by
   have hl:=congrArg MO h2;simp only[JX]at hl;have:=(JI.1 hy).1;omega
  refine⟨_,by simp only[KD,La a4,Kh];exact a0 _,?_⟩
  have a7:j<es.size:=by simpa using a4
  have e1:(es.eraseIdxIfInBounds j).toList=es.toList.eraseIdx j:=by
   simp[Array.eraseIdxIfInBounds,a7]
  have:=a5 (es.eraseIdxIfInBounds j) c ⟨by
    rw[e1,JQ,JL,L9,MD];have hs:(M9 j (es.toList.map (·.born))++List.drop (j+1) (es.toList.map (·.born))).Sublist (es.toList.map (·.born)):=by
     rw[<-JQ];exact Lo _ _
    exact hs.nodup a3.1,fun e he=>a3.2 e (by rw[e1]at he;exact(Lo _ _).mem he)⟩ (by
   rw[jf,hi,e1];have h3:=congrArg (fun l=>l.eraseIdx j) h2
   rw[map_eraseIdx,map_eraseIdx];exact h3)
  rw[jf,hi]at this;exact this
structure RangeO(kv:κ->ix)(vv:ν->ix)(O:Nat->Nat)(w:ka)(i j r q:Nat)(left:List (κ×ν))(cur:Option (κ×ν)):Prop where
 ex:∃es clock seen c0,w.heap[r]? = some (.map es clock)/\w.heap[q]? = some (.mapIter (some r) clock seen c0)/\clock<=c0/\(es.toList.map (·.born)).Nodup/\(∀e∈es.toList,e.born<clock)/\
  (leftOf es seen).toList.map (fun e=>(e.key,e.val))=left.map (fun p=>(kv p.1,vv p.2))/\∀p,cur=some p->∃(e:Jq) (s0:Array Nat),e∈es.toList/\seen=s0.push e.born/\c0=clock/\e.key=kv p.1/\e.val=vv p.2
 tag:O r=i
 tagq:O q=j
end
section
variable{κ ν:Type}{kv:κ→ix}{vv:ν→ix}
theorem RangeO.upd{S:Nat->Prop}{O O':Nat->Nat}{w w':ka}{i j r q:Nat}{left:List (κ×ν)}{a1:Option (κ×ν)}(h:RangeO kv vv O w i j r q left a1)(u:J4 S O w O' w')(hi:i≠0)(hj:j≠0)(hS:¬S i)(a2:¬S j):RangeO kv vv O' w' i j r q left a1:=by
 obtain⟨es,c,a0,c0,h1,h2,h3⟩:=h.ex;have e1:=u.blk r (bB h1) (by rw[h.tag];exact hS);have e2:=u.blk q (bB h2) (by rw[h.tagq];exact a2);exact⟨⟨es,c,a0,c0,by rw[e1];exact h1,by rw[e2];exact h2,h3⟩,by rw[u.tag r (by rw[h.tag];exact hi),h.tag],by rw[u.tag q (by rw[h.tagq];exact hj),h.tagq]⟩
end
section
variable{κ ν:Type}[DecidableEq κ]{kv:κ→ix}{vv:ν→ix}
theorem xf{es:List Jq}{e:Jq}{a1 a0:List Jq}(hn:(es.map (·.born)).Nodup)(p:Jq->Bool)(h:es.filter p=a1++e::a0):es.filter (fun x=>p x && !(x.born==e.born))=a1++a0:=by
 have h1:es.filter (fun x=>p x && !(x.born==e.born))=(es.filter p).filter (fun x=>!(x.born==e.born)):=by
  rw[List.filter_filter];congr 1;funext x;exact Bool.and_comm _ _
 have a2:((a1++e::a0).map (·.born)).Nodup:=by rw[<-h];exact((List.filter_sublist (p:=p) (l:=es)).map _).nodup hn
 rw[h1,h,Ky,Ld (by simp)];simp only[JL,Gi]at a2;have hd:=K9.1 a2;congr 1
 ·refine JY.2 fun x hx=>?_
  have:=hd.2.2 x.born (JO.2 ⟨x,hx,rfl⟩) e.born (by simp);simpa using this
 refine JY.2 fun x hx=>?_
 have:=(Mp.1 hd.2.1).1;simp only[Bool.not_eq_true',beq_eq_false_iff_ne,ne_eq];intro hc;exact this (by rw[<-hc];exact JO.2 ⟨x,hx,rfl⟩)
theorem Bl{α β γ:Type}{f:α->γ}{g:β->γ}:∀ {l:List α} {m:List β} {a0 a1:List α} {e:α},l.map f=m.map g->l=a0++e::a1->∃pre' x suf',m=pre'++x::suf'/\f e=g x/\(a0++a1).map f=(pre'++suf').map g:=by
 intro l m a0
 induction a0 generalizing l m with
 |nil=>
  intro a1 e h hl;subst hl
  cases m with
  |nil=>simp at h
  |cons x m=>
   simp only[KR,Gi,JG]at h;exact⟨[],x,m,rfl,h.1,h.2⟩
 |cons a a0 ih=>
  intro a1 e h hl;subst hl
  cases m with
  |nil=>simp at h
  |cons x m=>
   simp only[Kg,Gi,JG]at h;obtain⟨p,y,s,rfl,h1,h2⟩:=ih h.2 rfl;exact⟨x::p,y,s,rfl,h1,by simp only[Kg,Gi,h.1,h2]⟩
end
section
variable{κ ν:Type}[DecidableEq κ]{kv:κ→ix}{vv:ν→ix}
variable{P:JE}{N:Nat}{ops:Array KF}{Q:Mt→MY→ka→Prop}{rest:List KF}{st:St}{w:ka}
variable{t:J8}{p:String}{e:Array Mv}{d:Nat}{x y z:Kl}
theorem WL.delete{T K E U:J8}{O:Nat->Nat}{i r:Nat}{l:List (κ×ν)}(hm:JS kv vv O w i r l)(hT:P.underlying T=some (.map K E))(hK:MQ P K kv)(a1:i≠0) 
  (k:κ) {kx:ix} (hx:ev st x=some (.map (some r))) (hy:ev st y=some kx) (hk:kx=kv k)
  (h:∀w',JS kv vv O w' i r (pQ l k)->J4 (fun j=>j=i) O w O w'->WL P N ops Q rest st w'):WL P N ops Q (⟨none,.call ⟨.builtin .delete,#[x,y],#[T,U]⟩,t,p,e,none⟩::rest) st w:=by
 subst hk;obtain⟨w',h1,h2,h3⟩:=pg (ty:=t) (U:=U) hT hK hm a1 k;refine Np rfl fun a ha=>?_
 unfold Nf;have a0:(execOp a.eval ⟨none,.call ⟨.builtin .delete,#[x,y],#[T,U]⟩,t,p,e,none⟩).run P w=.ok (.value (.tuple #[])) w':=by
  simp only[execOp,resolve,invoke,builtin,Gc,J9,la,Kf,Gi,K0,ha.ev hx,ha.ev hy,h1]
 rw[a0];exact h w' h2 h3 _ ha
end
section
variable{κ ν:Type}{kv:κ→ix}{vv:ν→ix}
variable{P:JE}{N:Nat}{ops:Array KF}{Q:Mt→MY→ka→Prop}{rest:List KF}{st:St}{w:ka}
variable{t:J8}{p:String}{e:Array Mv}{d:Nat}{x y z:Kl}
theorem oT{T K E:J8}{B:Nat}{O:Nat->Nat}{i r:Nat}{l:List (κ×ν)}(hm:JS kv vv O w i r l)(hT:P.underlying T=some (.map K E))(hR:Kx B O w)(j:Nat)(hj:j≠0)(_:i≠0)(hx:ev st x=some (.map (some r)))(hd:Ko d N=true) 
  (h:∀q w' O',RangeO kv vv O' w' i j r q l none->JS kv vv O' w' i r l->J4 (fun k=>k=j) O w O' w'->Kx B O' w'->WL P N ops Q rest ((d,nP q)::st) w'):WL P N ops Q (⟨some d,.range T x,t,p,e,none⟩::rest) st w:=by
 obtain⟨es,c,h1,h2⟩:=hm.blk;have a1:=hm.born es c h1;have a0:=bB h1;have hU:=N5 (S:=fun k=>k=j) (fun e=>hj e.symm) hR (.mapIter (some r) c #[] c) j;refine M7 hd (fun a ha=>by simp only[execOp,ha.ev hx,Gc,run_range_map w _ _ _ _ _ _ hT h1,la,J9]) (h w.heap.size _ (lJ O w.heap.size j) ⟨⟨es,c,#[],c,?_,heap_alloc_new w _,GT _,a1.1,a1.2,?_,fun p hp=>by cases hp⟩,?_,eB _ _ _⟩ ⟨⟨es,c,?_,h2⟩,?_,fun a2 c' h'=>hm.born a2 c' (by rw[heap_alloc_old w _ a0]at h';exact h')⟩ hU (hR.upd hU))
 ·rw[heap_alloc_old w _ a0];exact h1
 ·unfold leftOf;have e1:es.filter (fun e=>!(#[]:Array Nat).contains e.born)=es:=Array.filter_eq_self.2 (by simp);rw[e1];exact h2
 ·unfold lJ;rw[if_neg zo];exact hm.tag
 ·rw[heap_alloc_old w _ a0];exact h1
 unfold lJ;rw[if_neg zo];exact hm.tag
theorem qJ{O:Nat->Nat}{i j r q:Nat}{left:List (κ×ν)}{b4:Option (κ×ν)}(hm:RangeO kv vv O w i j r q left b4)(b2:j≠0)(b3:i≠j)(hx:ev st x=some (nP q))(hd:Ko d N=true) 
  (h0:left=[]->WL P N ops Q rest ((d,.tuple #[.bool false])::st) w)
  (h1:∀a' a b a8 w',left=a'++(a,b)::a8->RangeO kv vv O w' i j r q (a'++a8) (some (a,b))->J4 (fun k=>k=j) O w O w'->WL P N ops Q rest ((d,.tuple #[.bool true,kv a,vv b])::st) w'):WL P N ops Q (⟨some d,.next x false,t,p,e,none⟩::rest) st w:=by
 obtain⟨es,c,a0,c0,g1,g2,g3,g4,g5,g6,g7⟩:=hm.ex
 rcases Go.run_next_at (P:=P) w t q r c c0 a0 es c g2 g1 g5 g3 with⟨hs,a2⟩|⟨en,b0,w1,a5,a2⟩
 ·refine M7 hd (fun a ha=>by simp only[execOp,ha.ev hx,Gc,a2,la,J9]) (h0 ?_);have h3:=congrArg MO g6;simp only[JX,Array.length_toList,hs]at h3;exact GZ h3.symm
 obtain⟨a',a8,a6⟩:=List.append_of_mem b0;obtain⟨a9,⟨a,b⟩,a7,rfl,a4,a3⟩:=Bl g6 a6;simp only[Nr]at a4;have a1:∀(a:MY),Nx N a st->(execOp a.eval ⟨some d,.next x false,t,p,e,none⟩).run P w=.ok (.value (.tuple #[.bool true,en.key,en.val])) (setBlock w1 q (.mapIter (some r) c (a0.push en.born) c)):=fun a ha=>by
  simp only[execOp,ha.ev hx,Gc,a2,la,J9]
 rw[a4.1,a4.2]at a1;have hw:w1.heap=w.heap:=by rcases a5 with rfl|rfl<;>rfl
 have b1:en∈es.toList:=by
  have:en∈(leftOf es a0):=by simpa using b0
  unfold leftOf at this;rw[Array.mem_filter]at this;simpa using this.1
 refine M7 hd a1 (h1 a9 a b a7 _ rfl ⟨⟨es,c,a0.push en.born,c,?_,eP (by rw[hw];exact g2),GT _,g4,g5,?_,fun p hp=>?_⟩,hm.tag,hm.tagq⟩ ?_)
 ·simp only[setBlock,KQ];rw[if_neg (fun e=>b3 (by rw[<-hm.tag,<-hm.tagq,e])),hw];exact g1
 ·rw[<-a3];unfold leftOf at a6 ⊢;rw[Array.toList_filter]at a6 ⊢;rw[<-xf g4 _ a6];congr 2;funext x;simp;rfl
 ·cases hp
  exact⟨en,a0,b1,rfl,rfl,a4.1,a4.2⟩
 have hU:=fh (w:=w1) (.mapIter (some r) c (a0.push en.born) c) hm.tagq b2;exact⟨by rw[hU.os];rcases a5 with rfl|rfl<;>rfl,by rw[hU.tape];rcases a5 with rfl|rfl<;>rfl,by rw[hU.output];rcases a5 with rfl|rfl<;>rfl,by have:=hU.size;rw[hw]at this;exact this,fun b hb hn=>by have:=hU.blk b (by rw[hw];exact hb) hn;rw[hw]at this;exact this,hU.tag,fun b hb=>.inl hb,hU.z⟩
theorem RV.entry{O:Nat->Nat}{i j r q:Nat}{left:List (κ×ν)}{a:κ}{b:ν}(hm:RangeO kv vv O w i j r q left (some (a,b)))(hx:ev st x=some (nP q)):RV P N (.entry x) t st w (.tuple #[kv a,vv b]):=
 fun ac ha a1 p e g=>by
  obtain⟨es,c,a0,c0,g1,g2,g3,g4,g5,g6,g7⟩:=hm.ex;obtain⟨en,s0,e1,rfl,rfl,e2,e3⟩:=g7 _ rfl;simp only[execOp,ha.ev hx,Gc,run_entry_at w q r c0 s0 es c0 en g2 g1 e1 g4,la,J9,e2,e3]
end
abbrev et(p:Int×Int):ix:=.agg #[nI p.1,nI p.2]
theorem CA{P:JE}{K I:J8}(hK:P.underlying K=some (.array 2 I))(hI:P.underlying I=some (.int .i64))(a3:(P.info? I).isSome=true)(hc:P.cellsOf I=1):MQ P K et:=by
 obtain⟨i,hi⟩:=Option.isSome_iff_exists.1 a3;have hA:∀w,(isAgg I).run P w=.ok false w:=fun w=>by simp[isAgg,run_underlying hI]
 have a0:∀(a b:Int) (w:ka),(part I #[nI a,nI b] 0).run P w=.ok (nI a) w/\(part I #[nI a,nI b] 1).run P w=.ok (nI b) w:=fun a b w=>by
  constructor<;>simp[part,hA]
 have a5:∀b n k (w:ka),(KW b (n+1) I (nI k)).run P w=.ok () w:=fun b n k w=>by simp[KW,run_underlying hI]
 have a4:∀(a b:Int×Int) (w:ka),(Ni K (et a) (et b)).run P w=.ok (decide (a=b)) w:=fun a b w=>by
  have h1:∀d (x y:Int) (w:ka),(M8 (d+1) I (nI x) (nI y)).run P w=.ok (x==y) w:=fun d x y w=>by simp[M8,run_underlying hI]
  obtain⟨a1,a2⟩:=a;obtain⟨b1,b2⟩:=b;have h2:∀(x y:Int) (w:ka),(M8 9999 I (nI x) (nI y)).run P w=.ok (x==y) w:=fun x y w=>h1 9998 x y w
  unfold Ni Op.maxDepth;rw[run_equalIn_array w 9999 _ _ hK hi,hc];simp only[show K5 2=[0,1]from rfl,Op.eqItems,Gc,Lk,LD,(a0 a1 a2 w).1,(a0 b1 b2 w).1,h2,la]
  by_cases e1:a1=b1
  ·by_cases e2:a2=b2
   ·subst e1;subst e2;simp[a0,h2]
   subst e1;simp[e2,a0,h2]
  simp[e1]
 refine⟨fun b n k w=>?_,fun k es ks w h=>?_,fun k=>?_⟩
 ·obtain⟨k1,k2⟩:=k;unfold KW;simp only[Gc,run_underlying hK,la];simp only[Mz,My,MN,Nat.add_one_sub_one,Nat.div_one];simp[List.range',run_sizeOf w hi,hc,a0,a5]
 ·have key:∀(es:List Jq) (ks:List (Int×Int)) (j:Nat) (w:ka),es.map (·.key)=ks.map et->
    (KK K (et k) es j).run P w=.ok ((ks.findIdx? (· = k)).bind fun i=>(es[i]?).map fun e=>(j+i,e.val)) w:=by
   intro es
   induction es with
   |nil=>intro ks j w h;cases ks with
    |nil=>simp[KK]
    |cons a r=>simp at h
   |cons e es ih=>
    intro ks j w h
    cases ks with
    |nil=>simp at h
    |cons a r=>
     simp only[Gi,JG]at h;simp only[KK,Gc,h.1,a4,la]
     by_cases hk:k=a
     ·subst hk;simp[K7]
     rw[decide_eq_false hk];simp only[KA,if_false];rw[ih r (j+1) w h.2];simp only[K7,decide_eq_true_eq];rw[if_neg (fun e=>hk e.symm)]
     cases hf:List.findIdx? (fun x=>decide (x=k)) r with
     |none=>simp
     |some i=>simp[Nat.add_assoc,Nat.add_comm 1]
  have:=key es ks 0 w h;simp only[KG]at this;unfold Instr.findKey;simp only[Gc,run_underlying hK,la]
  cases es with
  |nil=>
   cases ks with
   |nil=>simp[MB]
   |cons a r=>simp at h
  |cons e es=>simpa[MB,Instr.sameNow]using this
 simp[Instr.sameBits]
section
variable{κ ν:Type}[DecidableEq κ]{kv:κ→ix}{vv:ν→ix}
theorem tH(es:Array Jq)(i:Nat)(f g h:Jq->Jq)(hf:∀x,g (f x)=h x):(es.modify i f).modify i g=es.modify i h:=by
 apply LO;intro j;simp only[JR]
 by_cases hj:i=j
 ·simp only[if_pos hj];cases es[j]?<;>simp[hf]
 simp only[if_neg hj]
theorem vA(es:Array Jq)(a:Jq)(f:Jq->Jq):(es.push a).modify es.size f=es.push (f a):=by
 apply LO;intro j;simp only[JR,Array.getElem?_push]
 by_cases hj:j=es.size
 ·subst hj;simp
 rw[if_neg (fun e=>hj e.symm),if_neg hj,if_neg hj]
theorem mz{es:List Jq}{j:Nat}{e:Jq}(hn:(es.map (·.born)).Nodup)(he:es[j]? = some e):es.findIdx? (fun x=>(x.born:Int)==(e.born:Int))=some j:=by
 obtain⟨hj,rfl⟩:=JI.1 he;rw[JN];refine⟨hj,by simp,fun i hi=>?_⟩;have:=(L2.1 hn) i j (by simp;omega) (by simpa using hj) hi;simp only[Mb]at this;simp;omega
theorem yW{P:JE}{T K E:J8}(hT:P.underlying T=some (.map K E))(hK:MQ P K kv){O:Nat->Nat}{w:ka}{i r:Nat}{l:List (κ×ν)}(h:JS kv vv O w i r l)(a7:i≠0){z:ix}(hz:(LP E).run P w=.ok z w)(k:κ)(x:ν):
  ∃(w1 w':ka) (v:ix) (b:Int),(KV T (.map (some r)) (kv k)).run P w=.ok (.tuple #[v,nI b]) w1/\(Ke T (.map (some r)) (nI b) (vv x)).run P w1=.ok () w'/\JS kv vv O w' i r (cJ l k x)/\J4 (fun j=>j=i) O w O w'/\J4 (fun j=>j=i) O w O w1:=by
 obtain⟨es,c,h1,h2⟩:=h.blk;have a9:=h.born es c h1;have hr:=bB h1;have b4:es.toList.map (·.key)=(l.map (·.1)).map kv:=by
  have:=congrArg (N9 N8) h2;simpa[Lp]using this
 have hf:=hK.find k es.toList (l.map (·.1)) w b4;rw[ey]at hf;have hc:=hK.check false 9998 k w;obtain⟨wm,a3,hm,hu⟩:=dV hT hK h a7 k x
 have a1:(Me T (.map (some r)) (kv k) (vv x)).run P w=((match ((je l k).bind fun i=>(es.toList[i]?).map fun e=>(i,e.val))with
   |some (i,_)=>do
    let key <-K2 (((es[i]?).map (·.key)).getD (kv k)) (kv k)
    setObj r (.map (es.modify i fun e=>{ e with key,val:=vv x }) c)
   |none=>setObj r (.map (es.push { key:=kv k,val:=vv x,born:=c }) (c+1)):Sem Unit)).run P w:=by
  simp only[Me,Gc,run_underlying hT,la];simp only[getObj,Kw,h1,Gc,la,hc,hf];generalize ((je l k).bind fun i=>Lv (fun e=>(i,e.val)) es.toList[i]?)=q
  cases q with
  |none=>rfl
  |some p=>rfl
 have a0:(KV T (.map (some r)) (kv k)).run P w=((match ((je l k).bind fun i=>(es.toList[i]?).map fun e=>(i,e.val))with
   |some (i,v)=>do
    let key <-K2 (((es[i]?).map (·.key)).getD (kv k)) (kv k)
    setObj r (.map (es.modify i fun e=>{ e with key }) c)
    pure (.tuple #[v,goInt (((es[i]?).map (·.born)).getD 0)])
   |none=>do
    let zero <-LP E
    setObj r (.map (es.push { key:=kv k,val:=zero,born:=c }) (c+1))
    pure (.tuple #[zero,goInt c]):Sem ix)).run P w:=by
  simp only[KV,Gc,run_underlying hT,la];simp only[getObj,Kw,h1,Gc,la,hc,hf];generalize ((je l k).bind fun i=>Lv (fun e=>(i,e.val)) es.toList[i]?)=q
  cases q with
  |none=>rfl
  |some p=>rfl
 have a2:∀(a':Array Jq) (c':Nat) (w0:ka),(∃e0 k0,w0.heap[r]? = some (.map e0 k0))->(setObj r (.map a' c')).run P w0=.ok () (setBlock w0 r (.map a' c')):=fun a' c' w0 h0=>by
  obtain⟨e0,k0,hq⟩:=h0;simp[setObj,Kw,hq,setBlock]
 have a6:∃e0 k0,w.heap[r]? = some (.map e0 k0):=⟨es,c,h1⟩
 have b0:∀(a:Array Jq) (q:Jq->Bool),a.findIdx? q=a.toList.findIdx? q:=fun a q=>by cases a;simp
 have a4:∀o o',setBlock (setBlock w r o) r o'=setBlock w r o':=fun o o'=>by simp[setBlock]
 cases hi:je l k with
 |none=>
  rw[hi]at a1 a0;simp only[LX]at a1 a0;rw[a2 _ _ _ a6]at a1;simp only[Gc,hz,la,a2 _ _ _ a6,J9]at a0;have he:wm=setBlock w r (.map (es.push { key:=kv k,val:=vv x,born:=c }) (c+1)):=by rw[a1]at a3;cases a3;rfl
  refine⟨_,wm,z,c,a0,?_,hm,hu,fh _ h.tag a7⟩;have a5:(setBlock w r (.map (es.push { key:=kv k,val:=z,born:=c }) (c+1))).heap[r]? = some (.map (es.push { key:=kv k,val:=z,born:=c }) (c+1)):=eP h1;have a8:(es.push { key:=kv k,val:=z,born:=c }).findIdx? (fun e=>(e.born:Int)==(c:Int))=some es.size:=by
   have b5:((es.push { key:=kv k,val:=z,born:=c }).toList.map (·.born)).Nodup:=by
    simp only[Array.toList_push,JL,Gi,K0];refine K9.2 ⟨a9.1,by simp,fun a ha b hb=>?_⟩;obtain⟨e,he,rfl⟩:=JO.1 ha;have:=a9.2 e he;simp at hb;omega
   have:=mz (j:=es.size) (e:={ key:=kv k,val:=z,born:=c }) b5 (by simp);rw[b0,<-this]
  simp only[Ke,getObj,Kw,Gc,a5,la,asInt,asIntOf,J9,a8];rw[vA,he];have:=a2 (es.push { key:=kv k,val:=vv x,born:=c }) (c+1) (setBlock w r (.map (es.push { key:=kv k,val:=z,born:=c }) (c+1))) ⟨_,_,a5⟩;rw[a4]at this;exact this
 |some j=>
  obtain⟨y,hy⟩:=iH hi;have hj:es.toList[j]?.map (fun e=>(e.key,e.val))=some (kv k,vv y):=by
   have:=congrArg (fun l=>l[j]?) h2;simpa[hy]using this
  cases he:es.toList[j]? with
  |none=>rw[he]at hj;simp at hj
  |some e'=>
   rw[he]at hj;simp at hj;have b1:es[j]? = some e':=by simpa using he
   have b2:(K2 (kv k) (kv k))=pure (kv k):=by simp[K2,hK.same k]
   rw[hi]at a1 a0;simp only[KD,he,Kh,b1,hj.1,LV,b2,Gc,J9,la,a2 _ _ _ a6]at a1 a0;have hw:wm=setBlock w r (.map (es.modify j fun e=>{ e with key:=kv k,val:=vv x }) c):=by rw[a1]at a3;cases a3;rfl
   refine⟨_,wm,e'.val,e'.born,a0,?_,hm,hu,fh _ h.tag a7⟩;have a5:(setBlock w r (.map (es.modify j fun e=>{ e with key:=kv k }) c)).heap[r]? = some (.map (es.modify j fun e=>{ e with key:=kv k }) c):=eP h1;have b3:((es.modify j fun e=>{ e with key:=kv k }).toList.map (·.born))=es.toList.map (·.born):=by
    simp only[Array.toList_modify];apply List.ext_getElem?;intro m;simp only[List.getElem?_map,List.getElem?_modify]
    split
    ·cases es.toList[m]?<;>simp
    cases es.toList[m]?<;>simp
   have a8:(es.modify j fun e=>{ e with key:=kv k }).findIdx? (fun e=>(e.born:Int)==(e'.born:Int))=some j:=by
    have:=mz (es:=(es.modify j fun e=>{ e with key:=kv k }).toList) (j:=j) (e:={ e' with key:=kv k }) (by rw[b3];exact a9.1) (by
     have:(es.modify j fun e=>{ e with key:=kv k })[j]? = some { e' with key:=kv k }:=by
      rw[JR,if_pos rfl,b1];rfl
     rw[Array.getElem?_toList];exact this)
    rw[b0,<-this]
   simp only[Ke,getObj,Kw,Gc,a5,la,asInt,asIntOf,J9,a8];rw[tH es j _ _ (fun e=>{ e with key:=kv k,val:=vv x }) (fun _=>rfl),hw];have:=a2 (es.modify j fun e=>{ e with key:=kv k,val:=vv x }) c (setBlock w r (.map (es.modify j fun e=>{ e with key:=kv k }) c)) ⟨_,_,a5⟩;rw[a4]at this;exact this
variable{P:JE}{N:Nat}{ops:Array KF}{Q:Mt→MY→ka→Prop}{rest:List KF}{st:St}{w:ka}
variable{t t' t2:J8}{p p' p2:String}{e e' e2:Array Mv}{d d':Nat}{x y z:Kl}
end
def Ja{κ ν:Type}[DecidableEq κ](P:JE)(kv:κ->ix)(vv:ν->ix)(T:J8)(O:Nat->Nat)(w w1:ka)(i r:Nat)(l:List (κ×ν))(k:κ)(u:ν)(b:Int):Prop:=
 ∃w',(Ke T (.map (some r)) (nI b) (vv u)).run P w1=.ok () w'/\JS kv vv O w' i r (cJ l k u)/\J4 (fun j=>j=i) O w O w'
section
variable{κ ν:Type}[DecidableEq κ]{kv:κ→ix}{vv:ν→ix}
variable{P:JE}{N:Nat}{ops:Array KF}{Q:Mt→MY→ka→Prop}{rest:List KF}{st:St}{w:ka}
variable{t:J8}{p:String}{e:Array Mv}{d:Nat}{x y z:Kl}
theorem mH{T K E:J8}{O:Nat->Nat}{i r:Nat}{l:List (κ×ν)}(hm:JS kv vv O w i r l)(hT:P.underlying T=some (.map K E))(hK:MQ P K kv)(a0:i≠0){zv:ix}(hz:(LP E).run P w=.ok zv w) 
  (k:κ) (u:ν) {kx:ix} (hx:ev st x=some (.map (some r))) (hy:ev st y=some kx) (hk:kx=kv k) (hd:Ko d N=true)
  (h:∀w1 c b,Ja P kv vv T O w w1 i r l k u b->J4 (fun j=>j=i) O w O w1->WL P N ops Q rest ((d,.tuple #[c,nI b])::st) w1):WL P N ops Q (⟨some d,.mapEntry T x y,t,p,e,none⟩::rest) st w:=by
 subst hk;obtain⟨w1,w',v,b,h1,h2,h3,h4,h5⟩:=yW hT hK hm a0 hz k u;exact M7 hd (fun a ha=>by simp only[execOp,ha.ev hx,ha.ev hy,Gc,h1,la,J9]) (h w1 v b ⟨w',h2,h3,h4⟩ h5)
theorem jy{T:J8}{O:Nat->Nat}{i r:Nat}{l:List (κ×ν)}{w0:ka}{k:κ}{u:ν}{b:Int}(hE:Ja P kv vv T O w0 w i r l k u b){ux:ix}(hx:ev st x=some (.map (some r)))(hy:ev st y=some (nI b))(hz:ev st z=some ux)(hu:ux=vv u) 
  (h:∀w',JS kv vv O w' i r (cJ l k u)->J4 (fun j=>j=i) O w0 O w'->WL P N ops Q rest st w'):WL P N ops Q (⟨none,.entryStore T x y z,t,p,e,none⟩::rest) st w:=by
 subst hu;obtain⟨w',h2,h3,h4⟩:=hE;exact iI (fun a ha=>by simp only[execOp,ha.ev hx,ha.ev hy,ha.ev hz,Gc,h2,la,J9]) (h w' h3 h4)
end
theorem rY{α:Type}{enc:α->List ix}{sz:Nat}:∀(l:List α),(∀x∈l,(enc x).length=sz)->∀(n:Nat) (hn:n<l.length) (j:Nat),j<sz->∀(x':α) (u:ix),enc x'=(enc l[n]).set j u->(l.flatMap enc).set (n*sz+j) u=(l.set n x').flatMap enc
 |a::l,hz,0,_,j,hj,x',u,hx=>by
  have ha:=hz a (by simp);simp only[Kb,LY,Lk,KG];rw[List.set_append_left _ _ zo,hx];rfl
 |a::l,hz,n+1,hn,j,hj,x',u,hx=>by
  have ha:=hz a (by simp);simp only[Kb,LZ];rw[Ll _ _ (by rw[ha,LG];omega),show(n+1)*sz+j-(enc a).length=n*sz+j from by rw[ha,LG];omega];rw[rY l (fun y hy=>hz y (by simp[hy])) n (by simpa using hn) j hj x' u (by simpa using hx)]
theorem RowT.putJ{α:Type}[Inhabited α]{enc:α->List ix}{sz:Nat}{O:Nat->Nat}{w:ka}{i:Nat}{E:J8}{v:ix}{l:List α}(h:Jy enc E sz O w i v l){n:Nat}(hn:n<l.length){j:Nat}(hj:j<sz)(x':α)(u:ix)(hx:enc x'=(enc (nth l n)).set j u):
  ∃g c,(adr v sz n).add j=⟨g,n*sz+j,none⟩/\w.cell? ⟨g,n*sz+j,none⟩=some c/\w.frozen? ⟨g,n*sz+j,none⟩=false/\Jy enc E sz O (w.setCell ⟨g,n*sz+j,none⟩ u) i v (l.set n x')/\O g=i:=by
 rw[aB hn]at hx;have a2:=h.2 l[n] (List.getElem_mem hn);have a5:(enc x').length=sz:=by rw[hx,Gh,a2]
 have hs:=h.sl;have a3:∃c,(enc l[n])[j]? = some c:=⟨_,La zo⟩
 obtain⟨c,a3⟩:=a3;have a0:=hs.cells n hn j c a3;obtain⟨⟨⟨hl,hr⟩,a1⟩,hz⟩:=h
 rcases hr with⟨rfl,h0⟩|⟨g,a4,a',rfl,a9,hg,a6,a8,a7,ht⟩
 ·omega
 have ha:(adr (.slice (some ⟨g,0,none⟩) l.length a4) sz n).add j=⟨g,n*sz+j,none⟩:=by simp only[adr,KZ];split<;>simp_all
 rw[ha]at a0;refine⟨g,c,ha,a0,by simp[Mx,hg],⟨⟨⟨?_,.inr ⟨g,a4,a'.setIfInBounds (n*sz+j) u,by simp,a9,?_,by simpa using a6,a8,by simpa using a7,?_⟩⟩,by simpa using a1⟩,?_⟩,a1 g rfl⟩
 ·rw[<-rY l hz n hn j hj x' u hx];simp[hl]
 ·simp only[Mw,JR,if_pos];rw[hg];simp
 ·simp only[Gh,Array.toList_setIfInBounds];rw[List.take_set,ht,rY l hz n hn j hj x' u hx]
 intro y hy
 rcases List.mem_or_eq_of_mem_set hy with hy|rfl
 ·exact hz y hy
 exact a5
theorem oS{P:JE}{N:Nat}{ops:Array KF}{Q:Mt->MY->ka->Prop}{a0:List KF}{st:St}{w:ka}{t:J8}{p:String}{e:Array Mv}{x y:Kl} 
  {T:J8} {α:Type} [Inhabited α] {enc:α->List ix} {sz:Nat} {O:Nat->Nat} {i:Nat} {E:J8} {v:ix} {l:List α} (hr:Jy enc E sz O w i v l) (n:Nat) (hn:n<l.length) (j:Nat) (hj:j<sz) (x':α) (hT:(No T).run P w=.ok 1 w) {u:ix} (h1:u.oneCell'=true) (a4:i≠0)
  {q:MX} (hx:ev st x=some (.pointer (some q))) (hq:q=(adr v sz n).add j) (hy:ev st y=some u) (a2:enc x'=(enc (nth l n)).set j u)
  (h:∀w',Jy enc E sz O w' i v (l.set n x')->J4 (fun k=>k=i) O w O w'->WL P N ops Q a0 st w'):WL P N ops Q (⟨none,.store T x y,t,p,e,none⟩::a0) st w:=by
 obtain⟨g,c,ha,hc,hf,a3,ht⟩:=hr.putJ hn hj x' u a2;rw[ha]at hq;subst hq;refine iI (w':=w.setCell ⟨g,n*sz+j,none⟩ u) (fun a a1=>?_) (h _ a3 ⟨rfl,rfl,rfl,by simp[Mw],fun k _ hk=>MS _ _ _ _ (fun e=>hk (by rw[e];exact ht)),fun _ _=>rfl,fun _ h=>.inl h,fun h=>a4 h.symm⟩);simp only[execOp,a1.ev hx,a1.ev hy]
 cases u<;>simp[GY]at h1<;>simp[Instr.storeAt,Instr.sureAddr,storeVar,hT,Value.cells,storeCells,store,Kw,hc,hf,KZ]
theorem Fits.fresh{N:Nat}{a:MY}{d:Nat}{v:ix}{st:St}(hn:(cC st d).isNone=true)(h:Nx N a ((d,v)::st)):Nx N a st:=by
 refine⟨h.size,h.defers,fun t u hu=>h.get t u ?_⟩;simp only[cC]
 cases hb:KJ d t with
 |true=>have:=Ku hb;subst this;rw[hu]at hn;cases hn
 |false=>exact hu
theorem Fits.swap{N:Nat}{a:MY}{d d':Nat}{v v':ix}{st:St}(a0:KJ d d'=false)(h:Nx N a ((d,v)::(d',v')::st)):Nx N a ((d',v')::(d,v)::st):=by
 refine⟨h.size,h.defers,fun t u hu=>h.get t u ?_⟩;simp only[cC]at hu ⊢
 cases h1:KJ d t with
 |true=>
  have:=Ku h1;subst this;have h2:KJ d' d=false:=by
   cases h3:KJ d' d with
   |false=>rfl
   |true=>have:=Ku h3;subst this;rw[a0]at h1;cases h1
  rw[h1,h2]at hu;exact hu
 |false=>
  rw[h1]at hu;exact hu
theorem bZ{P:JE}{N:Nat}{ops:Array KF}{S:ka->Prop}{Q:Mt->MY->ka->Prop}{a1:Nat}{a0:Array Bool}{st:St}{w:ka} 
  {T E T1:J8} {sz a2:Nat} {α:Type} {enc:α->List ix} {x y:Kl} {t t':J8} {p p':String} {e e':Array Mv} {d d':Nat} {v xv:ix}
  (i j:Nat) (he:Mu P T E sz a2) (u:α) (hi:ops[i]? = some ⟨some d,.load T1 x,t,p,e,none⟩) (hj:ops[j]? = some ⟨some d',.buildSlice T 1 #[(0,y)],t',p',e',none⟩)
  (hr:JV .any ops a0=[i,j]) (a':JV .any ops (a0.setIfInBounds i true)=[j]) (a9:JV .any ops (a0.setIfInBounds j true)=[i])
  (a4:(a0.setIfInBounds j true).setIfInBounds i true=(a0.setIfInBounds i true).setIfInBounds j true)
  (hv:∀w',Kz w w'->RV P N (.load T1 x) t st w' v) (hS:∀w',Kz w w'->S w')
  (hy:ev st y=some xv) (a5:xv.cells.toList=enc u) (a6:(enc u).length=sz) (hs:sz<=16777216) (hd:Ko d N=true) (a7:Ko d' N=true) (b0:KJ d d'=false) (hf:(cC st d').isNone=true) (a8:ev ((d,v)::st) y=some xv)
  (h:∀sv w',Sl enc sz w' sv [u]->Kz w w'->WH P N ops S Q a1 ((a0.setIfInBounds i true).setIfInBounds j true) ((d',sv)::(d,v)::st) w'):WH P N ops S Q (a1+2) a0 st w:=by
 refine bV i j hr hi hj ?_ ?_
 ·refine mG (hv w (IJ w)) hd (Jr (af (hS w (IJ w)) (J2 j a' hj ?_)));refine cg he u a8 a5 a6 hs a7 fun sv w' a3 hE=>Jr (af (hS w' hE) (h sv w' a3 hE))
 refine cg he u hy a5 a6 hs a7 fun sv w' a3 hE=>Jr (af (hS w' hE) (J2 i a9 hi ?_))
 refine mG (fun a ha=>hv w' hE a (ha.fresh hf)) hd (Jr (af (hS w' hE) ?_));rw[a4];exact fun a ha=>h sv w' a3 hE a (ha.swap b0)
theorem aM{P:JE}{N:Nat}{st:St}{w:ka}{t:J8}{x:Kl}{T E:J8}{m:Nat}{v:ix}(hs:Shape v m)(hu:P.underlying T=some (.slice E))(hx:ev st x=some v):RV P N (.call ⟨.builtin .len,#[x],#[T]⟩) t st w (nI (m:Int)):=
 fun a ha a0 p e g=>by
  obtain⟨ad,c,hv,_⟩:=hs;simp only[execOp,resolve,Kf,Gi,K0,ha.ev hx];subst hv;simp[invoke,Go.builtin,Ny,run_underlying hu,goInt]
theorem nO{P:JE}{w:ka}{T ty E:J8}{sz a0:Nat}(he:Mu P T E sz a0){O:Nat->Nat}{i n:Nat}{v:ix}{xs:List ix}(a1:RowO O w i E sz v n xs)(a:Option MX)(c:Nat):
  (KM #[T,T] ty #[v,.slice a 0 c]).run P w=.ok v w:=by
 obtain⟨a4,z,hi,hz,a6,a9,a5⟩:=he.parts;have ht:=he.ht
 rcases a1.row.2 with⟨rfl,rfl⟩|⟨g,b0,a',rfl,hbg,hg,a3,a8,a7,a2⟩
 ·cases a<;>simp[KM,run_underlying ht,No,typeInfo,hi,Mh,Lr,loadCells,loadCellsFrom]
 cases a<;>simp[KM,run_underlying ht,No,typeInfo,hi,Mh,Lr,loadCells,loadCellsFrom,a3,storeCells]
theorem ez{P:JE}{N:Nat}{ops:Array KF}{Q:Mt->MY->ka->Prop}{a1:List KF}{st:St}{w:ka}{t:J8}{p:String}{e:Array Mv}{d:Nat}{x y:Kl} 
  {T E:J8} {sz a0:Nat} (he:Mu P T E sz a0) {α:Type} {enc:α->List ix} {B:Nat} {O:Nat->Nat} {i:Nat} {v sv:ix} {l us:List α} (hr:Jy enc E sz O w i v l) (r:Kx B O w) (hs:Sl enc sz w sv us)
  (hx:ev st x=some v) (hy:ev st y=some sv) (a4:∀u∈us,(enc u).length=sz) (a5:∀u∈us,∀c∈enc u,c.oneCell'=true)
  (hb:(l.length+us.length)*a0<=140737488355328) (a6:l.length+us.length<=9223372036854775807) (a3:i≠0) (hd:Ko d N=true)
  (h:∀v' w' O',Jy enc E sz O' w' i v' (l++us)->J4 (fun k=>k=i) O w O' w'->Kx B O' w'->WL P N ops Q a1 ((d,v')::st) w') :
  WL P N ops Q (⟨some d,.call ⟨.builtin .append,#[x,y],#[T,T]⟩,t,p,e,none⟩::a1) st w:=by
 by_cases a2:us.length=0
 ·obtain rfl:=GZ a2;obtain⟨a,c,rfl,_⟩:=hs.shape;refine M7 (v:=v) (w':=w) hd (fun ac ha=>?_) (h v w O (by rw[Jn];exact hr) (JP (fun e=>a3 e.symm) _ _) r);simp only[execOp,resolve,invoke,builtin,Gc,J9,la,Kf,Gi,K0,ha.ev hx,ha.ev hy,JM,nO he hr.1]
 exact aC he hr r hs a2 hx hy a4 a5 hb a6 a3 hd h
theorem MapO.fgt{κ ν:Type}{kv:κ->ix}{vv:ν->ix}{O O2:Nat->Nat}{w:ka}{i i' r:Nat}{l:List (κ×ν)}(h:JS kv vv O2 w i r l)(ho:O r=i'):JS kv vv O w i' r l:=⟨h.blk,ho,h.born⟩
theorem bq{κ ν:Type}(kv:κ->ix)(vv:ν->ix){P:JE}{N:Nat}{ops:Array KF}{Q:Mt->MY->ka->Prop}{a0:List KF}{st:St}{w:ka}{t:J8}{p:String}{e:Array Mv}{d:Nat}{T:J8} 
  {B:Nat} {O:Nat->Nat} (r:Kx B O w) (i:Nat) (a1:i≠0) (hd:Ko d N=true)
  (h:∀q w' O',JS kv vv O' w' i q []->J4 (fun k=>k=i) O w O' w'->Kx B O' w'->WL P N ops Q a0 ((d,.map (some q))::st) w'):WL P N ops Q (⟨some d,.makeMap T none,t,p,e,none⟩::a0) st w:=by
 have hU:=N5 (S:=fun k=>k=i) (fun e=>a1 e.symm) r (.map #[] 0) i;exact WL.makeMap hd (h w.heap.size _ (lJ O w.heap.size i) (MapO.new O w i) hU (r.upd hU))
theorem yK{α:Type}{val:α->ix}{O:Nat->Nat}{i g a1:Nat}{E:J8}(z:α)(a0:i≠0):∀(k n:Nat) (l:List α) (w:ka) (m:Nat),Jy (fun x=>[val x]) E 1 O w i (.slice (some ⟨g,0,none⟩) m a1) l->n+k=l.length->
  Jy (fun x=>[val x]) E 1 O (w.setCells g n (J6 k (val z))) i (.slice (some ⟨g,0,none⟩) m a1) (l.take n++J6 k z)/\J4 (fun j=>j=i) O w O (w.setCells g n (J6 k (val z)))
 |0,n,l,w,m,h,hn=>by
  simp only[LJ,Jn,Mm];rw[Li zo];exact⟨h,JP (fun e=>a0 e.symm) _ _⟩
 |k+1,n,l,w,m,h,hn=>by
  have ha:adr (.slice (some ⟨g,0,none⟩) m a1) 1 n=⟨g,n,none⟩:=by simp[adr]
  obtain⟨hc,hf,hr,ht⟩:=h.put (n:=n) zo z;rw[ha]at hr ht;simp only[LK,Mm];obtain⟨h1,h2⟩:=yK z a0 k (n+1) (l.set n z) (w.setCell ⟨g,n,none⟩ (val z)) m hr (by simp;omega);have e:(l.set n z).take (n+1)++J6 k z=l.take n++z::J6 k z:=by
   have hl:n<(l.set n z).length:=by simp;omega
   rw[KE hl,Ln,LH (GT n)];simp
  rw[e]at h1;have u1:J4 (fun j=>j=i) O w O (w.setCell ⟨g,n,none⟩ (val z)):=Kd (fun e=>a0 e.symm) ht rfl;exact⟨h1,u1.trans h2⟩
theorem RowT.short{α:Type}{val:α->ix}{O:Nat->Nat}{w:ka}{i:Nat}{E:J8}{v:ix}{l:List α}(h:Jy (fun x=>[val x]) E 1 O w i v l){n:Nat}(hn:n<=l.length):Jy (fun x=>[val x]) E 1 O w i (ej v 1 0 n) (l.take n):=by
 have a3:∀l:List α,(l.flatMap fun x=>[val x])=l.map val:=fun l=>by induction l<;>simp_all
 obtain⟨⟨⟨hl,hr⟩,a1⟩,hz⟩:=h
 rcases hr with⟨rfl,h0⟩|⟨g,a2,a8,rfl,a7,hg,a9,a6,a5,ht⟩
 ·obtain rfl:l=[]:=GZ h0;obtain rfl:n=0:=by simpa using hn
  exact JC _ _ _ _ _ _
 have e:ej (.slice (some ⟨g,0,none⟩) l.length a2) 1 0 n=.slice (some ⟨g,0,none⟩) n a2:=by
  simp only[ej,Lk,MN]
  split<;>simp[KZ]
 have a0:(l.take n).length=n:=by simp;omega
 rw[e];refine⟨⟨⟨?_,.inr ⟨g,a2,a8,by rw[a0],a7,hg,by rw[a0];omega,a6,a5,?_⟩⟩,fun g' a4=>a1 g' a4⟩,fun x _=>rfl⟩
 ·rw[a3];simp
 rw[a3]at ht ⊢;rw[a0];have:=congrArg (M9 n) ht;rw[KY,<-L9]at this;simpa[MA hn]using this
theorem uP{P:JE}{N:Nat}{ops:Array KF}{Q:Mt->MY->ka->Prop}{a5:List KF}{st:St}{w:ka}{t:J8}{p:String}{e:Array Mv}{x:Kl} 
  {T E:J8} {α:Type} {val:α->ix} {O:Nat->Nat} {i:Nat} {v:ix} {l:List α} (hr:Jy (fun x=>[val x]) E 1 O w i v l) (n:Nat) (hn:n<=l.length) (z:α) (a8:i≠0) (hT:P.underlying T=some (.slice E)) (hz:∀w,(LP E).run P w=.ok (val z) w) (a9:(val z).cells = #[val z]) (h1:(val z).oneCell'=true)
  {sv:ix} (hx:ev st x=some sv) (b0:sv=ej v 1 n l.length)
  (h:∀w' l',Jy (fun x=>[val x]) E 1 O w' i v l'->l'.take n=l.take n->l'.length=l.length->J4 (fun j=>j=i) O w O w'->WL P N ops Q a5 st w'):WL P N ops Q (⟨none,.call ⟨.builtin .clear,#[x],#[T]⟩,t,p,e,none⟩::a5) st w:=by
 subst b0;have a7:=hr;have a0:∃w' l',(M6 #[T] t #[ej v 1 n l.length]).run P w=.ok (.tuple #[]) w'/\Jy (fun x=>[val x]) E 1 O w' i v l'/\l'.take n=l.take n/\l'.length=l.length/\J4 (fun j=>j=i) O w O w':=by
  by_cases he:n=l.length
  ·subst he;obtain⟨a,c,rfl,_⟩:=hr.sl.shape;refine⟨w,l,?_,hr,rfl,rfl,JP (fun e=>a8 e.symm) _ _⟩;simp only[ej,K1];generalize (if c=l.length then a else a.map fun x=>x.add (l.length*1))=q
   cases q<;>simp[M6,run_underlying hT]
  obtain⟨⟨⟨hl,b1⟩,a'⟩,b3⟩:=hr
  rcases b1 with⟨rfl,h0⟩|⟨g,a6,b8,rfl,b7,hg,b4,b6,b5,ht⟩
  ·omega
  obtain⟨k,hk⟩:∃k,n+k=l.length:=⟨l.length-n,zo⟩
  obtain⟨c1,c2⟩:=yK z a8 k n l w l.length a7 hk;refine⟨_,_,?_,c1,?_,by simp;omega,c2⟩
  ·have es:ej (.slice (some ⟨g,0,none⟩) l.length a6) 1 n l.length=.slice (some ⟨g,n,none⟩) k (a6-n):=by
    simp only[ej];rw[if_neg zo,show l.length-n=k from by omega];simp only[Kh,KZ,MT]
    split
    ·rename_i h;simp[h]
    simp
   rw[es];refine Lib.run_clear_slice w T E t (val z) hT hz a9 h1 g n k (a6-n) zo (fun j hj=>?_) (fun j hj=>by simp[Mx,hg]);have:=a7.sl.cells (n+j) zo 0 (val l[n+j]) rfl;rw[ao]at this;have ha:adr (.slice (some ⟨g,0,none⟩) l.length a6) 1 (n+j)=⟨g,n+j,none⟩:=by simp[adr]
   rw[ha]at this;rw[this];rfl
  rw[KP (by simp;omega),KY,Nat.min_self]
 obtain⟨w',l',a0,a1,a2,a3,a4⟩:=a0;refine Np rfl fun a ha=>?_
 unfold Nf;have b2:(execOp a.eval ⟨none,.call ⟨.builtin .clear,#[x],#[T]⟩,t,p,e,none⟩).run P w=.ok (.value (.tuple #[])) w':=by
  simp only[execOp,resolve,invoke,builtin,Gc,J9,la,Kf,Gi,K0,ha.ev hx,a0]
 rw[b2];exact h w' l' a1 a2 a3 a4 _ ha
end
end Go.VL
namespace Go.Proofs.YtlehnbkknlpkbaaGreatDoor
structure Cell0(O:Nat->Nat)(w:ka)(a:MX)(v:ix):Prop where
 z:O a.block=0
 c:w.cell? a=some v
theorem Cell0.upd{S:Nat->Prop}{O O':Nat->Nat}{w w':ka}{a:MX}{v:ix}(h:Cell0 O w a v)(u:J4 S O w O' w'):Cell0 O' w' a v:=by
 have a1:=L5 w a h.c;refine⟨J7 fun a0=>?_,iC (u.blk _ a1 (by rw[h.z];exact u.z)) h.c⟩
 rcases u.new _ a0 with h1|h1
 ·exact h1 h.z
 omega
theorem Cell0.ext{O:Nat->Nat}{w w':ka}{a:MX}{v:ix}(h:Cell0 O w a v)(e:Kz w w'):Cell0 O w' a v:=⟨h.z,e.cell h.c⟩
theorem Gt{T xb:Nat}{O O1 O2:Nat->Nat}{w w1 w2:ka}{us:Array ix}{E:J8}(_:0<T)(hT:∀b,O b<T)(u1:J4 (fun q=>q=T) O w O1 w1)(u2:J4 (fun q=>q=T) O1 w1 O2 w2)(hx:Ls O2 w2 T xb us E):
  Kz w w2/\∀j u,us.toList[j]? = some u->Cell0 O w2 (nA xb j) u:=by
 have hO:O xb=0:=J7 fun a0=>by
  have h1:=u1.tag xb a0;have h2:=u2.tag xb (by rw[h1];exact a0);have:=hT xb;have:=hx.tag;omega
 refine⟨aD (u1.trans u2) fun b e=>?_,fun j u hu=>⟨?_,hx.cellsAdd j u hu⟩⟩
 ·have:=hT b;omega
 show O (nA xb j).block=0;have:(nA xb j).block=xb:=by simp only[KZ];split<;>rfl
 rw[this];exact hO
abbrev rZ(x:Lf):List ix:=[nI x.1,nI x.2.1,nI (x.2.2:Nat)]
abbrev K3:=ix×ix×Nat
abbrev G0(x:K3):List ix:=[x.1,x.2.1,nI (x.2.2:Nat)]
theorem I6:Mu Js 182 190 3 24:=⟨Km,by kernel_rfl,zd⟩
theorem Jk:Mu Js 183 187 3 56:=⟨Jz,by kernel_rfl,zd⟩
theorem kU:Mu Js 22 3 1 8:=⟨J3,by kernel_rfl,zd⟩
theorem IA:cV Js 185 #[(0,1),(1,1),(2,1),(3,1),(4,1)]:=⟨_,underlying185,fun w=>by kernel_rfl⟩
theorem Iz:cV Js 187 #[(0,1),(1,1),(2,1)]:=⟨_,underlying187,fun w=>by kernel_rfl⟩
theorem Iy:cV Js 190 #[(0,1),(1,1),(2,1)]:=⟨_,underlying190,fun w=>by kernel_rfl⟩
structure Ks(O:Nat->Nat)(w:ka)(i:Nat)(kv:ix)(g:Gr)(xs:List K3):Prop where
 row:Jy G0 187 3 O w (i+2) kv xs
 len:xs.length=g.ks.length
 fr:∀k,k<xs.length->Jy aX 3 1 O w (i+6+2*k) (nth xs k).1 (g.fr k)
 lv:∀k,k<xs.length->Jy aX 3 1 O w (i+7+2*k) (nth xs k).2.1 (g.lv k)
 en:∀k,k<xs.length->(nth xs k).2.2=g.en k
theorem Ks.upd{S:Nat->Prop}{O O':Nat->Nat}{w w':ka}{i:Nat}{kv:ix}{g:Gr}{xs:List K3}(h:Ks O w i kv g xs)(u:J4 S O w O' w')(hS:∀q,i<=q->q<i+8+2*g.ks.length->¬S q):Ks O' w' i kv g xs:=
 have hl:=h.len
 ⟨h.row.upd u zo (hS _ zo zo),h.len,fun k hk=>(h.fr k hk).upd u zo (hS _ zo zo),fun k hk=>(h.lv k hk).upd u zo (hS _ zo zo),h.en⟩
abbrev nfC(se:Bool)(lv kv nv tv:ix):Array ix:=#[.bool se,lv,kv,nv,tv]
structure NfO(O:Nat->Nat)(w:ka)(i nb:Nat)(se:Bool)(g:Gr)(nv tv lv kv:ix)(xs:List K3):Prop where
 blk:Ls O w i nb (nfC se lv kv nv tv) 185
 ls:Jy rZ 190 3 O w (i+1) lv g.ls
 ks:Ks O w i kv g xs
theorem NfO.updT{S:Nat->Prop}{O O':Nat->Nat}{w w':ka}{i nb:Nat}{se:Bool}{g:Gr}{nv tv lv kv:ix}{xs:List K3}(h:NfO O w i nb se g nv tv lv kv xs)(u:J4 S O w O' w')(hi:i≠0)(hS:∀q,i<=q->q<i+8+2*g.ks.length->¬S q):NfO O' w' i nb se g nv tv lv kv xs:=
 ⟨h.blk.upd u hi (hS _ (GT _) zo),h.ls.upd u zo (hS _ zo zo),h.ks.upd u hS⟩
theorem NfO.upd{S:Nat->Prop}{O O':Nat->Nat}{w w':ka}{i nb:Nat}{se:Bool}{g:Gr}{nv tv lv kv:ix}{xs:List K3}(h:NfO O w i nb se g nv tv lv kv xs)(u:J4 S O w O' w')(hi:i≠0)(hS:∀q,i<=q->¬S q):NfO O' w' i nb se g nv tv lv kv xs:=h.updT u hi fun q h _=>hS q h
theorem NfO.ext{O:Nat->Nat}{w w':ka}{i nb:Nat}{se:Bool}{g:Gr}{nv tv lv kv:ix}{xs:List K3}(h:NfO O w i nb se g nv tv lv kv xs)(e:Kz w w')(hi:i≠0):NfO O w' i nb se g nv tv lv kv xs:=
 h.upd (aa (S:=fun _=>False) (fun h=>h) O e) hi fun _ _ h=>h
def NfP(B:Nat)(O:Nat->Nat)(w w':ka)(i nb:Nat)(se:Bool)(g:Gr)(nv tv:ix):Prop:=
 ∃O' lv kv xs,J4 (fun q=>i<=q) O w O' w'/\Kx B O' w'/\NfO O' w' i nb se g nv tv lv kv xs
section
variable{O:Nat→Nat}{w:ka}{i nb:Nat}{se:Bool}{g:Gr}{nv tv lv kv:ix}{xs:List K3}
theorem NfO.c0(h:NfO O w i nb se g nv tv lv kv xs):w.cell? (nA nb 0)=some (.bool se):=h.blk.cell 0 rfl
theorem NfO.c1(h:NfO O w i nb se g nv tv lv kv xs):w.cell? (nA nb 1)=some lv:=h.blk.cell 1 rfl
theorem NfO.c2(h:NfO O w i nb se g nv tv lv kv xs):w.cell? (nA nb 2)=some kv:=h.blk.cell 2 rfl
theorem NfO.c3(h:NfO O w i nb se g nv tv lv kv xs):w.cell? (nA nb 3)=some nv:=h.blk.cell 3 rfl
theorem NfO.c4(h:NfO O w i nb se g nv tv lv kv xs):w.cell? (nA nb 4)=some tv:=h.blk.cell 4 rfl
theorem Ks.f0(h:Ks O w i kv g xs){k:Nat}(hk:k<xs.length):w.cell? ((adr kv 3 k).add 0)=some (nth xs k).1:=h.row.sl.cell (j:=0) hk rfl
theorem Ks.f1(h:Ks O w i kv g xs){k:Nat}(hk:k<xs.length):w.cell? ((adr kv 3 k).add 1)=some (nth xs k).2.1:=h.row.sl.cell (j:=1) hk rfl
end
structure Bd(g:Gr)(M:Nat):Prop where
 ks:g.ks.length<=M
 ls:g.ls.length<=M
 fr:∀k,(g.fr k).length<=M
 lv:∀k,(g.lv k).length<=M
theorem Bd.mono{g:Gr}{M M':Nat}(h:Bd g M)(hm:M<=M'):Bd g M':=⟨by have:=h.ks;omega,by have:=h.ls;omega,fun k=>by have:=h.fr k;omega,fun k=>by have:=h.lv k;omega⟩
theorem Bd.knot{g:Gr}{M:Nat}(h:Bd g M):Bd g.knot (M+1):=⟨by rw[aG];have:=h.ks;omega,by have:=h.ls;show g.ls.length<=_;omega,fun k=>by
 rw[oq];split
 ·have:=h.fr k;omega
 ·simp,fun k=>by
 rw[oo];split
 ·have:=h.lv k;omega
 simp⟩
theorem Bd.free{g:Gr}{M:Nat}(h:Bd g M){a b:Nat}(ha:a<g.ks.length):Bd (g.free a b) (M+1):=⟨by rw[aV];have:=h.ks;omega,by have:=h.ls;show g.ls.length<=_;omega,fun k=>by
 rw[dL ha];split
 ·have:=h.fr a;simp;omega
 ·have:=h.fr k;omega,fun k=>by
 rw[oy ha];have:=h.lv k;omega⟩
theorem Bd.leaf{g:Gr}{M:Nat}(h:Bd g M){x c:Int}{a b:Nat}(ha:a<g.ks.length):Bd (g.leaf x c a b) (M+1):=⟨by rw[gy];have:=h.ks;omega,by have:=h.ls;rw[jN];simp;omega,fun k=>by
 rw[oe ha];have:=h.fr k;omega,fun k=>by
 rw[lR ha];split
 ·have:=h.lv a;simp;omega
 have:=h.lv k;omega⟩
theorem Bd.layO{g:Gr}{M:Nat}(h:Bd g M){k:Int}{i:Nat}(hi:i+1<g.ks.length):Bd (layO k g i) (M+2):=by
 unfold JJ;split<;>split
 ·exact h.mono zo
 ·exact(h.free zo).mono zo
 ·exact(h.free hi).mono zo
 exact(h.free zo).free (by rw[aV];exact hi)
theorem Bd.often{g:Gr}{M:Nat}(h:Bd g M){a b:Nat}(ha:a<g.ks.length):Bd (bF g a b) (M+4):=by
 have h2:g.knot.knot.ks.length=g.ks.length+2:=by rw[aG,aG]
 unfold bF;exact(h.knot.knot.free zo).free (by rw[aV];omega)
mutual
theorem gz:∀(t:Nd) (a b:Nat) (g:Gr) (M:Nat),WF g->a<g.ks.length->b<g.ks.length->Bd g M->Bd (fy t a b g) (M+(9*nsz t-1))
 |.mk k c l,a,b,g,M,h,ha,hb,hM=>by
  unfold fy
  simp only[nsz]
  split
  ·exact(Bt l a b g M h ha hb hM).mono zo
  split
  ·exact(By l a b g M h ha hb hM).mono zo
  split
  ·have hl:=dY g a b
   have hwf:=eR h ha hb
   obtain⟨h1,h2⟩:=lS l g.ks.length (g.ks.length+1) (bF g a b) hwf zo zo
   have:=h2.len
   have h3:=F5 l g.ks.length (g.ks.length+1) (bF g a b) (M+4) hwf zo zo (hM.often ha)
   exact(h3.layO zo).mono zo
  split
  ·exact(hM.free ha).mono zo
  exact(hM.leaf ha).mono zo
theorem Bt:∀(l:List Nd) (a b:Nat) (g:Gr) (M:Nat),WF g->a<g.ks.length->b<g.ks.length->Bd g M->Bd (nh l a b g) (M+9*dr l)
 |[],_,_,g,M,_,_,_,hM=>hM.mono zo
 |t::r,a,b,g,M,h,ha,hb,hM=>by
  unfold nh
  simp only[dr]
  have hp:=cN t
  split
  ·exact(gz t a b g M h ha hb hM).mono zo
  have hl:=aG g
  obtain⟨h1,h2⟩:=ct t a g.ks.length g.knot h.knot zo zo
  have:=h2.len
  exact(Bt r g.ks.length b _ _ h1 zo zo (gz t a g.ks.length g.knot (M+1) h.knot zo zo hM.knot)).mono zo
theorem By:∀(l:List Nd) (a b:Nat) (g:Gr) (M:Nat),WF g->a<g.ks.length->b<g.ks.length->Bd g M->Bd (nn l a b g) (M+9*dr l)
 |[],_,_,g,M,_,_,_,hM=>hM.mono zo
 |t::r,a,b,g,M,h,ha,hb,hM=>by
  unfold nn
  simp only[dr]
  have hp:=cN t
  obtain⟨h1,h2⟩:=ct t a b g h ha hb
  have:=h2.len
  exact(By r a b _ _ h1 zo zo (gz t a b g M h ha hb hM)).mono zo
theorem F5:∀(l:List Nd) (a b:Nat) (g:Gr) (M:Nat),WF g->a<g.ks.length->b<g.ks.length->Bd g M->Bd (nj l a b g) (M+9*dr l)
 |[],_,_,g,M,_,_,_,hM=>hM.mono zo
 |t::_,a,b,g,M,h,ha,hb,hM=>by
  unfold nj
  simp only[dr]
  exact(gz t a b g M h ha hb hM).mono zo
end
theorem Upd.hi{U i:Nat}{O O':Nat->Nat}{w w':ka}(h:J4 (fun q=>q=U) O w O' w')(hi:i≠0)(hU:i<=U):J4 (fun q=>i<=q) O w O' w':=h.mono (fun q e=>by rw[e];exact hU) zo
theorem iZ(B:Nat)(O:Nat->Nat)(w:ka)(i nb:Nat)(se:Bool)(g:Gr)(nv tv lv kv:ix)(xs:List K3)(hi:i≠0)(hR:Kx B O w)(h:NfO O w i nb se g nv tv lv kv xs)(hM:g.ks.length<=100000000):
  L6 Js 104 [nP nb] w fun v w'=>v=nI ((g.ks.length:Nat):Int)/\NfP B O w w' i nb se g.knot nv tv:=by
 have a0:=h.ks.len;refine J1 func104 ntmps104 rfl rfl ?_;refine zh ?_;refine zv (RV.ld h.c2 rfl) ?_;refine zv (aF Iz (zeroValue187 _) rfl (by first|rfl|(simp only[Jv,JH];rfl)) rfl rfl) ?_;refine Lt Jk h.ks.row hR (((nS,nS,0):K3)) (fun _=>rfl) rfl rfl rfl (by simp[GY]) zo zo zo zd rfl rfl ?_;intro a3 w1 O1 a4 a5 a';have a6:=h.blk.upd a5 hi zo;refine zh ?_;refine ak (j:=2) a6 rfl (sizeOf183 _) a4.one rfl rfl rfl ?_;have a8:=a6.set 2 a3;have a2:J4 (fun q=>q=i) O1 w1 O1 (w1.setCell ⟨nb,2,none⟩ a3):=Kd (fun e=>hi e.symm) a6.tag rfl;have a1:=a4.upd a2 zo zo;have a9:=a'.upd a2;generalize w1.setCell ⟨nb,2,none⟩ a3=w2 at *;have c2:w2.cell? (nA nb 2)=some a3:=a8.cell 2 rfl;have b0:=a1.sl;have b1:∀k,i+6<=k->¬(k=i+2):=fun k hk=>zo
 have a7:(xs++[((nS,nS,0):K3)]).length=g.ks.length+1:=by simp[a0]
 refine zh ?_;refine ae rfl rfl (⟨by rw[a7];congr 1;omega,O1,lv,a3,xs++[(nS,nS,0)],(Upd.hi a5 hi zo).trans (Upd.hi a2 hi (GT _)),a9,⟨a8,(h.ls.upd a5 zo zo).upd a2 zo zo,⟨a1,by rw[a7,aG],fun k hk=>?_,fun k hk=>?_,fun k hk=>?_⟩⟩⟩)
 ·rw[aA,oq,a0]
  by_cases e:k<g.ks.length
  ·rw[if_pos e,if_pos e];exact((h.ks.fr k zo).upd a5 zo zo).upd a2 zo zo
  rw[if_neg e,if_neg e,show k-g.ks.length=0 from by omega,ar];exact JC _ _ _ _ _ _
 ·rw[aA,oo,a0]
  by_cases e:k<g.ks.length
  ·rw[if_pos e,if_pos e];exact((h.ks.lv k zo).upd a5 zo zo).upd a2 zo zo
  rw[if_neg e,if_neg e,show k-g.ks.length=0 from by omega,ar];exact JC _ _ _ _ _ _
 rw[aA,rQ,a0]
 by_cases e:k<g.ks.length
 ·rw[if_pos e,if_pos e];exact h.ks.en k zo
 rw[if_neg e,if_neg e,show k-g.ks.length=0 from by omega,ar]
theorem gA(B:Nat)(O:Nat->Nat)(w:ka)(i nb:Nat)(se:Bool)(g:Gr)(nv tv lv kv:ix)(xs:List K3)(a b:Nat)(hi:i≠0)(hR:Kx B O w)(h:NfO O w i nb se g nv tv lv kv xs)(ha:a<g.ks.length)(hM:(g.fr a).length<=100000000)(b8:g.ks.length<=100000000):
  L6 Js 105 [nP nb,nI (a:Nat),nI (b:Nat)] w fun _ w'=>NfP B O w w' i nb se (g.free a b) nv tv:=by
 have a8:=h.ks.len;have a2:a<xs.length:=zo;have hs:=h.ks.row.sl;have f0:=h.ks.f0 a2;refine J1 func105 ntmps105 rfl rfl ?_;have a0:w.drew.cell? (nA nb 2)=some kv:=h.c2;have b6:w.drew.cell? ((adr kv 3 a).add 0)=some (nth xs a).1:=f0;refine aI (fun W=>W.cell? (nA nb 2)=some kv) 19 rfl zk ?_;refine zrm 0 rfl a0 rfl ?_;refine zr 1 rfl a0 (fun _=>aq rfl) ?_;refine zrf 2 rfl a0 rfl ?_;refine zt 3 rfl a0 (fun w1 a7=>RV.ld a7 rfl) ?_;refine zrm 4 rfl a0 rfl ?_;refine zrm 5 rfl a0 rfl ?_;refine zr 6 rfl a0 (fun _=>aq rfl) ?_;refine zrf 7 rfl a0 rfl ?_;refine zt 8 rfl a0 (fun w1 a7=>RV.ld a7 rfl) ?_;refine zrm 9 rfl a0 rfl ?_;refine zr 10 rfl a0 (fun _=>ah hs.sh Jz (Kc _) rfl rfl a rfl a2) ?_;refine zrf 11 rfl a0 rfl ?_;refine zrm 13 rfl a0 rfl ?_;refine bZ 12 14 kU (enc:=aX) b rfl rfl zk zk zk zk (fun W hE=>L1 (hE.cell b6) (MI _) rfl) (fun W hE=>hE.cell a0) rfl rfl rfl zd rfl rfl rfl rfl rfl ?_;intro sv w0 b1 b5;have b0:J4 (fun _=>False) O w O w0:=aa (fun h=>h) O ((IJ w).drew.trans b5);have h0:=h.upd b0 hi fun _ _ h=>h
 have b4:=hR.upd b0;refine J2 15 zk rfl ?_;refine aC kU (h0.ks.fr a a2) b4 b1 (by simp) rfl rfl (by simp) (by simp[GY]) (by simp;omega) (by simp;omega) zo rfl ?_;intro fv w1 O1 a6 a4 b3;have h1:=h0.blk.upd a4 hi zo;have a':=h0.ks.row.upd a4 zo zo;have d1:w1.cell? (nA nb 2)=some kv:=h1.cell 2 rfl;refine zh ?_;refine af (d1) ?_;refine zr 16 rfl (d1) (fun _=>ah hs.sh Jz (Kc _) rfl rfl a rfl a2) ?_;refine zrf 17 rfl (d1) rfl ?_;refine J2 18 zk rfl ?_;refine oS a' a a2 0 zd ((fv,(nth xs a).2.1,(nth xs a).2.2):K3) (KC _) a6.one zo rfl rfl rfl rfl ?_;intro w2 a9 a3;have h2:=h1.upd a3 hi zo;have d2:w2.cell? (nA nb 2)=some kv:=h2.cell 2 rfl;refine zh ?_;refine af (d2) ?_;have b2:J4 (fun q=>i<=q) O w O1 w2:=((b0.mono (fun _ h=>h.elim) zo).trans (Upd.hi a4 hi zo)).trans (Upd.hi a3 hi zo);have a5:∀k,k<xs.length->k≠a->Jy aX 3 1 O1 w2 (i+6+2*k) (nth xs k).1 (g.fr k):=fun k hk b7=>((h0.ks.fr k hk).upd a4 zo zo).upd a3 zo zo
 have a1:∀k,k<xs.length->Jy aX 3 1 O1 w2 (i+7+2*k) (nth xs k).2.1 (g.lv k):=fun k hk=>((h0.ks.lv k hk).upd a4 zo zo).upd a3 zo zo
 refine K4 zk ?_;refine aH rfl (⟨O1,lv,kv,xs.set a (fv,(nth xs a).2.1,(nth xs a).2.2),b2,b3.upd a3,⟨h2,(h0.ls.upd a4 zo zo).upd a3 zo zo,⟨a9,by rw[Gh,aV];exact a8,fun k hk=>?_,fun k hk=>?_,fun k hk=>?_⟩⟩⟩)
 ·rw[Gh]at hk;rw[aT a2,dL ha]
  by_cases e:k=a
  ·subst e;rw[if_pos rfl,if_pos rfl];exact a6.upd a3 zo zo
  rw[if_neg e,if_neg e];exact a5 k hk e
 ·rw[Gh]at hk;rw[aT a2,oy ha]
  by_cases e:k=a
  ·subst e;rw[if_pos rfl];exact a1 k hk
  rw[if_neg e];exact a1 k hk
 rw[Gh]at hk;rw[aT a2,xd ha]
 by_cases e:k=a
 ·subst e;rw[if_pos rfl];exact h.ks.en k hk
 rw[if_neg e];exact h.ks.en k hk
theorem fH:∀(l:List Nd) (i:Nat),bR l=true->i<l.length->fG (nth l i)=true
 |[],i,_,h=>absurd h (Gb i)
 |t::r,i,hs,h=>by
  unfold bR at hs;simp only[J0]at hs
  cases i with
  |zero=>rw[ar];exact hs.1
  |succ i=>rw[bd];exact fH r i hs.2 (by simpa using h)
theorem Bs{l:List Nd}{q a b:Nat}{g:Gr}(h:q<l.length):nh (l.drop q) a b g=if q+1<l.length then nh (l.drop (q+1)) g.ks.length b (fy (nth l q) a g.ks.length g.knot)else fy (nth l q) a b g:=by
 rw[jQ h,nh]
 by_cases e:q+1<l.length
 ·rw[if_pos e,if_neg (by simp;omega)]
 rw[if_neg e,if_pos (by simp;omega)]
theorem Bx{l:List Nd}{q a b:Nat}{g:Gr}(h:q<l.length):nn (l.drop q) a b g=nn (l.drop (q+1)) a b (fy (nth l q) a b g):=by
 rw[jQ h];rfl
theorem Du{l:List Nd}{a b:Nat}{g:Gr}(h:l.length=1):nj l a b g=fy (nth l 0) a b g:=by
 obtain⟨t,rfl⟩:=List.length_eq_one_iff.1 h;rw[ar];rfl
def I9(t:Nd):Prop:=∀(B:Nat) (O:Nat->Nat) (w:ka) (i nb:Nat) (se:Bool) (g:Gr) (na ta lv kv:ix) (xs:List K3) (a b:Nat) (x:N3) (M:Nat),i≠0->Kx B O w->NfO O w i nb se g na ta lv kv xs->WF g->a<g.ks.length->b<g.ks.length->Bd g M->M+9*nsz t<=100000000->fG t=true->Nt O w t x->
 L6 Js 106 [nP nb,nv x,nI (a:Nat),nI (b:Nat)] w fun _ w'=>NfP B O w w' i nb se (fy t a b g) na ta
theorem vH{k c:Int}{l:List Nd}(a':k=6\/k=7\/k=8)(ih:I9 (nth l 0))(B:Nat)(O:Nat->Nat)(w:ka)(i nb:Nat)(se:Bool)(g:Gr)(na ta lv kv:ix)(xs:List K3)(a b:Nat)(x:N3)(M:Nat)(hi:i≠0)(hR:Kx B O w)(h:NfO O w i nb se g na ta lv kv xs)(hw:WF g)(ha:a<g.ks.length)(hb:b<g.ks.length)(hM:Bd g M)(e8:M+9*nsz (.mk k c l)<=100000000)(hs:fG (.mk k c l)=true)(hn:Nt O w (.mk k c l) x):
  L6 Js 141 [nP nb,nv x,nI (a:Nat),nI (b:Nat)] w fun _ w'=>NfP B O w w' i nb se (fy (.mk k c l) a b g) na ta:=by
 obtain⟨T,d9,hT⟩:=hR.bound;have g1:=hn.kind;obtain⟨ys,d4,a5,b4,a3⟩:=hn.kids;have hx:x=(k,c,x.2.2):=hn.ones;generalize x.2.2=kidv at *;subst hx;unfold fG at hs;simp only[J0]at hs;obtain⟨b9,d5⟩:=hs;rw[if_neg zo,if_pos a']at b9;have b':l.length=1:=of_decide_eq_true b9;have g0:ys.length=1:=by rw[<-b4];exact b'
 have b5:fy (.mk k c l) a b g=layO k (fy (nth l 0) g.ks.length (g.ks.length+1) (bF g a b)) g.ks.length:=by
  rw[fy,if_neg zo,if_neg zo,if_pos a',Du b'];rfl
 have g4:=bD l 0 zo;simp only[nsz]at e8;rw[b5];refine J1 func141 ntmps141 rfl rfl ?_;refine zh ?_;refine aE hR T zo rfl rfl ?_;intro xb w1 O1 c8 b1 b6 b7;obtain⟨b8,c5⟩:=Gt d9 hT b1 (JP zo _ _) c8;clear c8 b1 b6 b7;have h1:=h.ext b8 hi;have b6:=hR.ext b8;have k1:Cell0 O w1 (nA xb 0) (nI k):=c5 0 _ rfl;have v1:Cell0 O w1 (nA xb 2) kidv:=c5 2 _ rfl;have b1:J4 (fun q=>i<=q) O w O w1:=aa zo O b8;refine zh ?_;refine zc Lh (iZ B O w1 i nb se g na ta _ _ _ hi b6 h1 (by have:=hM.ks;omega)) ?_;rintro _ w2 ⟨rfl,O2,f7,f',f4,d2,e6,h2⟩;refine zh ?_;have e1:=aG g;refine zc Lh (iZ B O2 w2 i nb se g.knot na ta _ _ _ hi e6 h2 (by have:=hM.ks;omega)) ?_;rintro _ w3 ⟨rfl,O3,f6,f9,f3,d1,e5,h3⟩;rw[e1];have e2:=aG g.knot;refine zh ?_;refine zc KT (gA B O3 w3 i nb se g.knot.knot na ta _ _ _ a g.ks.length hi e5 h3 zo (by have:=Bd.fr (hM.knot.knot) a;omega) (by have:=Bd.ks (hM.knot.knot);omega)) ?_;rintro _ w4 ⟨O4,_,_,_,d0,e4,h4⟩;have e3:=aV g.knot.knot a g.ks.length;refine zh ?_;refine zc KT (gA B O4 w4 i nb se (g.knot.knot.free a g.ks.length) na ta _ _ _ (g.ks.length+1) b hi e4 h4 zo (by have:=Bd.fr (hM.knot.knot.free (a:=a) (b:=g.ks.length) zo) (g.ks.length+1);omega) (by have:=Bd.ks (hM.knot.knot.free (a:=a) (b:=g.ks.length) zo);omega)) ?_;rintro _ w5 ⟨O5,_,_,_,c',e0,h5⟩;have a0:=(((b1.trans d2).trans d1).trans d0).trans c';have a7:=((d2.trans d1).trans d0).trans c'
 have e9:NfO O5 w5 i nb se (bF g a b) na ta _ _ _:=h5;have b3:=eR hw ha hb;have g3:=dY g a b;have c6:=hM.often (b:=b) ha;have k5:=k1.upd a7;have v5:=v1.upd a7;have a1:=d4.upd a5 a0;have a4:=(a3 0 zo).upd a0;refine zh ?_;refine zv (RV.ld v5.c rfl) ?_;refine zv (Kp a1 M1 (J5 _) rfl rfl 0 rfl zo) ?_;refine zvH (ai (us:=aY (nth ys 0)) (fun j u hu=>a1.cell zo hu) (JD _) (J5 _) rfl) ?_;refine zc M4 (ih B O5 w5 i nb se (bF g a b) na ta _ _ _ g.ks.length (g.ks.length+1) (nth ys 0) (M+4) hi e0 e9 b3 zo zo c6 zo (fH l 0 d5 zo) a4) ?_;rintro _ w6 ⟨O6,f5,f8,e',c9,d3,h6⟩;obtain⟨g2,a2⟩:=ct (nth l 0) g.ks.length (g.ks.length+1) (bF g a b) b3 zo zo;have a6:=gz (nth l 0) g.ks.length (g.ks.length+1) (bF g a b) (M+4) b3 zo zo c6;have d7:=a2.len;generalize fy (nth l 0) g.ks.length (g.ks.length+1) (bF g a b)=g6 at *;have a9:=a0.trans c9;have k6:=k5.upd c9;refine zh ?_;refine zvH (RV.ld k6.c rfl) ?_
 by_cases h7:k=7
 ·subst h7;refine zFH rfl rfl ?_;refine zvH (RV.ld k6.c rfl) ?_;refine zTH rfl rfl ?_;refine zc KT (gA B O6 w6 i nb se g6 na ta _ _ _ (g.ks.length+1) g.ks.length hi d3 h6 zo (by have:=Bd.fr a6 (g.ks.length+1);omega) (by have:=Bd.ks a6;omega)) ?_;rintro _ w7 ⟨O7,_,_,_,b0,b2,h7⟩;refine zh ?_;refine aH rfl (⟨O7,_,_,_,a9.trans b0,b2,h7⟩)
 refine zTH rfl ((by simpa using h7)) ?_;refine zc KT (gA B O6 w6 i nb se g6 na ta _ _ _ g.ks.length (g.ks.length+1) hi d3 h6 zo (by have:=Bd.fr a6 g.ks.length;omega) (by have:=Bd.ks a6;omega)) ?_
 rintro _ w7 ⟨O7,_,_,_,b0,b2,h7n⟩;have a8:=a9.trans b0;have k7:=k6.upd b0;refine zh ?_;refine zvH (RV.ld k7.c rfl) ?_
 by_cases h8:k=8
 ·subst h8;refine zFH rfl rfl ?_;refine aH rfl (⟨O7,_,_,_,a8,b2,h7n⟩)
 refine aZ rfl ((by simpa using h8)) ?_;have d6:layO k g6 g.ks.length=(g6.free g.ks.length (g.ks.length+1)).free (g.ks.length+1) g.ks.length:=by unfold layO;rw[if_neg h8,if_neg h7]
 rw[d6];have c7:=a6.free (a:=g.ks.length) (b:=g.ks.length+1) zo;have e7:=aV g6 g.ks.length (g.ks.length+1);refine zh ?_;refine zc KT (gA B O7 w7 i nb se (g6.free g.ks.length (g.ks.length+1)) na ta _ _ _ (g.ks.length+1) g.ks.length hi b2 h7n zo (by have:=Bd.fr c7 (g.ks.length+1);omega) (by have:=Bd.ks c7;omega)) ?_;rintro _ w8 ⟨O8,_,_,_,d8,d',h8n⟩;refine zh ?_;refine aH rfl (⟨O8,_,_,_,a8.trans d8,d',h8n⟩)
theorem Dr{k c:Int}{l:List Nd}(h4:k≠4)(h5:k≠5)(a0:¬(k=6\/k=7\/k=8))(h9:k≠9)(a b:Nat)(g:Gr):fy (.mk k c l) a b g=g.leaf k c a b:=by
 rw[fy,if_neg h4,if_neg h5,if_neg a0,if_neg h9]
theorem Br:∀(n:Nat) (t:Nd),nsz t<=n->I9 t
 |0,t,ht=>by have:=cN t;omega
 |n+1,.mk k c l,ht=>by
  intro B O w i nb se g na ta lv kv xs a b x M hi hR h hw ha hb hM l2 hs hn;have ih:=fun(t:Nd) (e:nsz t<=n)=>Br n t e
  have j':=hs;have k6:=hn;obtain⟨T,l1,hT⟩:=hR.bound;obtain⟨ys,j0,f',i0,d'⟩:=hn.kids;have hx:x=(k,c,x.2.2):=hn.ones;generalize x.2.2=kidv at *;subst hx;unfold fG at hs;simp only[J0]at hs;obtain⟨g5,g'⟩:=hs;simp only[nsz]at l2 ht
  change l.length=ys.length at i0
  change ∀i,i<ys.length->Nt O w (nth l i) (nth ys i)at d'
  have m4:=ef l;refine J1 func106 ntmps106 rfl rfl ?_;refine zh ?_;refine aE hR T zo rfl rfl ?_;intro xb w1 O1 j2 b8 e4 i';obtain⟨e',e8⟩:=Gt l1 hT b8 (JP zo _ _) j2;clear j2 b8 e4 i';have h1:=h.ext e' hi;have e4:=hR.ext e';have k1:Cell0 O w1 (nA xb 0) (nI k):=e8 0 _ rfl;have j4:Cell0 O w1 (nA xb 1) (nI c):=e8 1 _ rfl;have v1:Cell0 O w1 (nA xb 2) kidv:=e8 2 _ rfl;have b8:J4 (fun q=>i<=q) O w O w1:=aa zo O e';have f4:=j0.ext e';have b7:=f'.upd b8;have k5:Nt O w1 (.mk k c l) (k,c,kidv):=k6.ext e';have b6:=fun q hq=>(d' q hq).ext e'
  refine zh ?_;refine zvH (RV.ld k1.c rfl) ?_
  by_cases h4:k=4
  ·subst h4;rw[if_pos rfl]at g5;have b4:fy (.mk 4 c l) a b g=nh l a b g:=by rw[fy,if_pos rfl]
   rw[b4];refine zTH rfl rfl ?_;refine zvH (RV.ld v1.c rfl) ?_;refine zlp (fun z:Nat×Nat×(Nat->Nat)×World×Gr×ix×ix×List K3=>[(0,nP nb),(2,nI z.2.1),(3,nI b),(5,nP xb),(55,kidv),(56,nI ys.length),(57,nI z.1)]) (fun z=>z.2.2.2.1) (fun z=>z.1<=l.length/\J4 (fun q=>i<=q) O w1 z.2.2.1 z.2.2.2.1/\Kx B z.2.2.1 z.2.2.2.1/\NfO z.2.2.1 z.2.2.2.1 i nb se z.2.2.2.2.1 na ta z.2.2.2.2.2.1 z.2.2.2.2.2.2.1 z.2.2.2.2.2.2.2/\WF z.2.2.2.2.1/\z.2.1<z.2.2.2.2.1.ks.length/\b<z.2.2.2.2.1.ks.length/\Bd z.2.2.2.2.1 (M+9*dr (l.take z.1))/\nh l a b g=(if z.1<l.length then nh (l.drop z.1) z.2.1 b z.2.2.2.2.1 else z.2.2.2.2.1)) (fun z=>l.length-z.1) (0,a,O,w1,g,lv,kv,xs) (⟨Gv _,JP zo _ _,e4,h1,hw,ha,hb,by simpa[dr]using hM,by dsimp only;rw[if_pos (by cases l;simp at g5;simp),List.drop_zero]⟩) ?_;rintro⟨q,fr,O2,w2,g2,j6,j7,j5⟩ ⟨hq,b0,b1,h2,b2,d0,d2,c5,a7⟩;dsimp only at hq b0 b1 h2 b2 d0 d2 c5 a7 ⊢;have c6:=f4.upd b7 b0;have v2:=v1.upd b0;have k0:=cp l q;refine zh ?_;refine zC ?_ ?_
   ·intro a1;replace a1:q<l.length:=dT a1;rw[if_pos a1,Bs a1]at a7;have a3:=(b6 q zo).upd b0;have k2:=bD l q a1;have e1:=dJ l q a1;have h0:=cp l (q+1);have a5:=a3.one;obtain⟨T2,e3,i8⟩:=b1.bound;refine zh ?_;refine zv (ai (us:=aY (nth ys q)) (fun j u hu=>c6.cell zo hu) (JD _) (J5 _) rfl) ?_;refine ax b1 T2 zo (KB _) rfl ?_;intro yb w3 O3 a8 a' g4 e6;refine zh ?_;refine zsb (us:=#[nI (nth ys q).1,nI (nth ys q).2.1,(nth ys q).2.2]) a8 (J5 _) (cn a5) ?_;have g3:J4 (fun j=>j=T2) O3 w3 O3 (w3.setRow yb #[nI (nth ys q).1,nI (nth ys q).2.1,(nth ys q).2.2]):=Jp zo a8.tag rfl;obtain⟨b9,g6⟩:=Gt e3 i8 a' g3 (a8.setRow (us:=#[nI (nth ys q).1,nI (nth ys q).2.1,(nth ys q).2.2]));generalize w3.setRow yb #[nI (nth ys q).1,nI (nth ys q).2.1,(nth ys q).2.2]=w4 at *;clear a8 a' g4 e6 g3;have a9:J4 (fun q=>i<=q) O2 w2 O2 w4:=aa zo O2 b9;have h4n:=h2.ext b9 hi;have e9:=b1.ext b9;have v4:=v2.ext b9;have a6:=a3.ext b9;refine zh ?_;refine zv (RV.ld v4.c rfl) ?_;refine zvH (RV.len (by first|exact c6.ext b9) M1 rfl) ?_;refine zC ?_ ?_
    ·intro c8;replace c8:q+1<l.length:=dT c8;rw[if_pos c8]at a7;refine zh ?_;refine zc Lh (iZ B O2 w4 i nb se g2 na ta _ _ _ hi e9 h4n (by have:=c5.ks;omega)) ?_;rintro _ w5 ⟨rfl,O5,m0,m1,l9,i5,i9,h5⟩;have i6:=a9.trans i5;have e5:=aG g2;refine zh ?_;refine zvH (ai (us:=aY (nth ys q)) (fun j u hu=>((g6 j u hu).upd i5).c) (JD _) (J5 _) rfl) ?_;refine zc M4 (ih (nth l q) zo B O5 w5 i nb se g2.knot na ta _ _ _ fr g2.ks.length (nth ys q) _ hi i9 h5 b2.knot zo zo c5.knot zo (fH l q g' a1) (a6.upd i5)) ?_;rintro _ w6 ⟨O6,d4,d5,d3,a0,a4,h6⟩;obtain⟨f5,a2⟩:=ct (nth l q) fr g2.ks.length g2.knot b2.knot zo zo;have d1:=gz (nth l q) fr g2.ks.length g2.knot _ b2.knot zo zo c5.knot;have f8:=a2.len;have m3:=cN (nth l q);refine zh ?_;refine zxd (q+1,g2.ks.length,O6,w6,fy (nth l q) fr g2.ks.length g2.knot,d4,d5,d3) (⟨a1,(b0.trans i6).trans a0,a4,h6,f5,by dsimp only;omega,by dsimp only;omega,d1.mono (by dsimp only;omega),by dsimp only;rw[if_pos c8];exact a7⟩)
    intro c';replace c':¬q+1<l.length:=by have:=of_decide_eq_false c';omega
    rw[if_neg c']at a7;refine zh ?_;refine zvH (ai (us:=aY (nth ys q)) (fun j u hu=>(g6 j u hu).c) (JD _) (J5 _) rfl) ?_;refine zc M4 (ih (nth l q) zo B O2 w4 i nb se g2 na ta _ _ _ fr b (nth ys q) _ hi e9 h4n b2 d0 d2 c5 zo (fH l q g' a1) a6) ?_;rintro _ w6 ⟨O6,d4,d5,d3,a0,a4,h6⟩;obtain⟨f5,a2⟩:=ct (nth l q) fr b g2 b2 d0 d2;have d1:=gz (nth l q) fr b g2 _ b2 d0 d2 c5;have f8:=a2.len;refine zh ?_;refine zxd (q+1,b,O6,w6,fy (nth l q) fr b g2,d4,d5,d3) (⟨a1,(b0.trans a9).trans a0,a4,h6,f5,by dsimp only;omega,by dsimp only;omega,d1.mono (by dsimp only;omega),by dsimp only;rw[if_neg c'];exact a7⟩)
   intro e7;replace e7:¬q<l.length:=dF e7;rw[if_neg e7]at a7;rw[a7];refine zh ?_;refine aH rfl (⟨O2,_,_,_,b8.trans b0,b1,h2⟩)
  refine zFH rfl ((by simpa using h4)) ?_
  by_cases h5:k=5
  ·subst h5;have b4:fy (.mk 5 c l) a b g=nn l a b g:=by rw[fy,if_neg h4,if_pos rfl]
   rw[b4];refine zTH rfl rfl ?_;refine zvH (RV.ld v1.c rfl) ?_;refine zlp (fun z:Nat×(Nat->Nat)×World×Gr×ix×ix×List K3=>[(0,nP nb),(2,nI a),(3,nI b),(81,kidv),(82,nI ys.length),(83,nI z.1)]) (fun z=>z.2.2.1) (fun z=>z.1<=l.length/\J4 (fun q=>i<=q) O w1 z.2.1 z.2.2.1/\Kx B z.2.1 z.2.2.1/\NfO z.2.1 z.2.2.1 i nb se z.2.2.2.1 na ta z.2.2.2.2.1 z.2.2.2.2.2.1 z.2.2.2.2.2.2/\WF z.2.2.2.1/\a<z.2.2.2.1.ks.length/\b<z.2.2.2.1.ks.length/\Bd z.2.2.2.1 (M+9*dr (l.take z.1))/\nn l a b g=nn (l.drop z.1) a b z.2.2.2.1) (fun z=>l.length-z.1) (0,O,w1,g,lv,kv,xs) (⟨Gv _,JP zo _ _,e4,h1,hw,ha,hb,by simpa[dr]using hM,rfl⟩) ?_;rintro⟨q,O2,w2,g2,j6,j7,j5⟩ ⟨hq,b0,b1,h2,b2,g7,d2,c5,a7⟩;dsimp only at hq b0 b1 h2 b2 g7 d2 c5 a7 ⊢;have c6:=f4.upd b7 b0;have k0:=cp l q;refine zh ?_;refine zC ?_ ?_
   ·intro a1;replace a1:q<l.length:=dT a1;rw[Bx a1]at a7;have a3:=(b6 q zo).upd b0;have k2:=bD l q a1;have e1:=dJ l q a1;have h0:=cp l (q+1);have a5:=a3.one;obtain⟨T2,e3,i8⟩:=b1.bound;refine zh ?_;refine zv (ai (us:=aY (nth ys q)) (fun j u hu=>c6.cell zo hu) (JD _) (J5 _) rfl) ?_;refine ax b1 T2 zo (KB _) rfl ?_;intro yb w3 O3 a8 a' g4 e6;refine zsb (us:=#[nI (nth ys q).1,nI (nth ys q).2.1,(nth ys q).2.2]) a8 (J5 _) (cn a5) ?_;have g3:J4 (fun j=>j=T2) O3 w3 O3 (w3.setRow yb #[nI (nth ys q).1,nI (nth ys q).2.1,(nth ys q).2.2]):=Jp zo a8.tag rfl;obtain⟨b9,g6⟩:=Gt e3 i8 a' g3 (a8.setRow (us:=#[nI (nth ys q).1,nI (nth ys q).2.1,(nth ys q).2.2]));generalize w3.setRow yb #[nI (nth ys q).1,nI (nth ys q).2.1,(nth ys q).2.2]=w4 at *;clear a8 a' g4 e6 g3;have a9:J4 (fun q=>i<=q) O2 w2 O2 w4:=aa zo O2 b9;have h4n:=h2.ext b9 hi;have e9:=b1.ext b9;have a6:=a3.ext b9;refine zh ?_;refine zvH (ai (us:=aY (nth ys q)) (fun j u hu=>(g6 j u hu).c) (JD _) (J5 _) rfl) ?_;refine zc M4 (ih (nth l q) zo B O2 w4 i nb se g2 na ta _ _ _ a b (nth ys q) _ hi e9 h4n b2 g7 d2 c5 zo (fH l q g' a1) a6) ?_;rintro _ w6 ⟨O6,d4,d5,d3,a0,a4,h6⟩;obtain⟨f5,a2⟩:=ct (nth l q) a b g2 b2 g7 d2;have d1:=gz (nth l q) a b g2 _ b2 g7 d2 c5;have f8:=a2.len;refine zh ?_
    refine zxd (q+1,O6,w6,fy (nth l q) a b g2,d4,d5,d3) (⟨a1,(b0.trans a9).trans a0,a4,h6,f5,by dsimp only;omega,by dsimp only;omega,d1.mono (by dsimp only;omega),a7⟩)
   intro e7;replace e7:¬q<l.length:=dF e7;rw[Lj zo]at a7;rw[a7,nn];refine zh ?_;refine aH rfl (⟨O2,_,_,_,b8.trans b0,b1,h2⟩)
  refine zFH rfl ((by simpa using h5)) ?_
  by_cases b':k=6\/k=7\/k=8
  ·rw[if_neg h4,if_pos b']at g5;have m6:l.length=1:=of_decide_eq_true g5;have m2:=bD l 0 zo;have a5:kidv.oneCell'=true:=j0.one;have g8:∀(w':ka),Kz w1 w'->L6 Js 141 [nP nb,nv (k,c,kidv),nI (a:Nat),nI (b:Nat)] w' fun _ w''=>NfP B O w' w'' i nb se (fy (.mk k c l) a b g) na ta:=fun w' hE=>vH b' (ih (nth l 0) zo) B O w' i nb se g na ta _ _ _ a b (k,c,kidv) M hi (e4.ext hE) (h1.ext hE hi) hw ha hb hM (by simp only[nsz];omega) j' (k5.ext hE)
   rcases b' with h6|h7|h8
   ·subst h6;refine zTH rfl rfl ?_;refine zTH rfl rfl ?_;refine zvH (ai (us:=aY (6,c,kidv)) (fun j u hu=>(e8 j u hu).c) (JD _) (J5 _) rfl) ?_;refine zc Nb (g8 w1 (IJ w1)) ?_;rintro _ w6 ⟨O6,d4,d5,d3,a0,a4,h6n⟩;refine zh ?_;refine aH rfl (⟨O6,_,_,_,b8.trans a0,a4,h6n⟩)
   ·subst h7;refine zFH rfl rfl ?_;refine zTH rfl rfl ?_;refine zTH rfl rfl ?_;refine zvH (ai (us:=aY (7,c,kidv)) (fun j u hu=>(e8 j u hu).c) (JD _) (J5 _) rfl) ?_;refine zc Nb (g8 w1 (IJ w1)) ?_;rintro _ w6 ⟨O6,d4,d5,d3,a0,a4,h6n⟩;refine zh ?_;refine aH rfl (⟨O6,_,_,_,b8.trans a0,a4,h6n⟩)
   subst h8;refine zFH rfl rfl ?_;refine zFH rfl rfl ?_;refine zTH rfl rfl ?_;refine zvH (ai (us:=aY (8,c,kidv)) (fun j u hu=>(e8 j u hu).c) (JD _) (J5 _) rfl) ?_;refine zc Nb (g8 w1 (IJ w1)) ?_;rintro _ w6 ⟨O6,d4,d5,d3,a0,a4,h6n⟩;refine zh ?_;refine aH rfl (⟨O6,_,_,_,b8.trans a0,a4,h6n⟩)
  refine zFH rfl ((by simp;omega)) ?_;refine zFH rfl ((by simp;omega)) ?_
  refine zFH rfl ((by simp;omega)) ?_
  by_cases h9:k=9
  ·subst h9;have b4:fy (.mk 9 c l) a b g=g.free a b:=by rw[fy,if_neg h4,if_neg h5,if_neg b',if_pos rfl]
   rw[b4];refine zTH rfl rfl ?_;refine zc KT (gA B O w1 i nb se g na ta _ _ _ a b hi e4 h1 zo (by have:=Bd.fr hM a;omega) (by have:=Bd.ks hM;omega)) ?_;rintro _ w6 ⟨O6,_,_,_,a0,a4,h6n⟩;refine zh ?_;refine aH rfl (⟨O6,_,_,_,b8.trans a0,a4,h6n⟩)
  refine aS rfl ((by simpa using h9)) ?_;rw[Dr h4 h5 b' h9];have e0:a<xs.length:=by have:=h.ks.len;omega
  have k':=hM.ls;have k9:=hM.lv a;have j1:=h1.ks.row.sl.sh;have k8:w1.drew.cell? (nA nb 1)=some lv:=h1.c1;have s0:∀W,Kz w1.drew W->W.cell? (nA xb 0)=some (nI k)/\W.cell? (nA xb 1)=some (nI c):=fun W hE=>⟨hE.cell k1.c,hE.cell j4.c⟩
  refine zh ?_;refine aI (fun W=>W.cell? (nA xb 0)=some (nI k)/\W.cell? (nA xb 1)=some (nI c)) 16 rfl zk ?_
  refine zin (s0 _ (IJ _)) fun zS=>?_
  refine zrm 0 rfl zS rfl ?_;refine zrm 1 rfl zS rfl ?_
  refine zr 2 rfl zS (fun _=>aq rfl) ?_;refine zrf 3 rfl zS rfl ?_
  refine zrf 5 rfl zS rfl ?_;refine zt 6 rfl zS (fun w1 c7=>RV.ld c7.1 rfl) ?_
  refine zrf 7 rfl zS rfl ?_;refine zt 8 rfl zS (fun w1 c7=>RV.ld c7.2 rfl) ?_
  refine zrm 9 rfl zS rfl ?_;refine zr 10 rfl zS (fun _=>aF Iy (Na _) rfl (by first|rfl|(simp only[Jv,JH];rfl)) rfl rfl) ?_
  refine bZ 4 11 I6 (enc:=rZ) ((k,c,b):Lf) rfl rfl zk zk zk zk (fun W hE=>L1 (hE.cell k8) (isAgg182 _) rfl) s0 rfl rfl rfl zd rfl rfl rfl rfl rfl ?_;intro sv w2 j9 l4;have g1:J4 (fun _=>False) O w1 O w2:=aa (fun h=>h) O ((IJ w1).drew.trans l4);have h2:=h1.upd g1 hi fun _ _ h=>h
  have b1:=e4.upd g1;refine J2 12 zk rfl ?_;refine aC I6 h2.ls b1 j9 (by simp) rfl rfl (by simp) (by simp[GY]) (by simp;omega) (by simp;omega) zo rfl ?_;intro b3 w3 O3 d9 a' g4;have k3:=(k1.upd g1).upd a';have j3:=(j4.upd g1).upd a';have a8:=h2.blk.upd a' hi zo;have b5:Ks O3 w3 i kv g xs:=⟨h2.ks.row.upd a' zo zo,h2.ks.len,fun q hq=>(h2.ks.fr q hq).upd a' zo zo,fun q hq=>(h2.ks.lv q hq).upd a' zo zo,h2.ks.en⟩
  refine zh ?_;refine zaf (⟨k3.c,j3.c⟩) fun zS=>?_
  refine zr 13 rfl zS (fun _=>aq rfl) ?_;refine zrf 14 rfl zS rfl ?_
  refine J2 15 zk rfl ?_;refine ak (j:=1) a8 rfl (sizeOf182 _) d9.one rfl rfl rfl ?_
  have a9:J4 (fun q=>q=i) O3 w3 O3 (w3.setCell ⟨nb,1,none⟩ b3):=Kd (fun e=>hi e.symm) a8.tag rfl;have i4:Ls O3 (w3.setCell ⟨nb,1,none⟩ b3) i nb (nfC se b3 kv na ta) 185:=a8.set 1 b3;have k4:=k3.upd a9;have l6:=j3.upd a9;have d8:=d9.upd a9 zo zo;have f9:Ks O3 (w3.setCell ⟨nb,1,none⟩ b3) i kv g xs:=⟨b5.row.upd a9 zo zo,b5.len,fun q hq=>(b5.fr q hq).upd a9 zo zo,fun q hq=>(b5.lv q hq).upd a9 zo zo,b5.en⟩
  have e9:=g4.upd a9;have i7:J4 (fun q=>i<=q) O w1 O3 (w3.setCell ⟨nb,1,none⟩ b3):=((g1.mono (fun _ h=>h.elim) zo).trans (Upd.hi a' hi zo)).trans (Upd.hi a9 hi (GT _));refine zh ?_;refine af (⟨k4.c,l6.c⟩) ?_;generalize w3.setCell ⟨nb,1,none⟩ b3=w4 at *;have l8:w4.drew.cell? (nA nb 1)=some b3:=i4.cell 1 rfl;have l7:w4.drew.cell? (nA nb 2)=some kv:=i4.cell 2 rfl;have l5:w4.drew.cell? ((adr kv 3 a).add 1)=some (nth xs a).2.1:=f9.f1 e0;have k7:(g.ls++[((k,c,b):Lf)]).length=g.ls.length+1:=by simp
  have s4:∀W,Kz w4.drew W->W.cell? (nA nb 1)=some b3/\W.cell? (nA nb 2)=some kv:=fun W hE=>⟨hE.cell l8,hE.cell l7⟩
  refine K4 zk ?_;refine zh ?_
  refine aI (fun W=>W.cell? (nA nb 1)=some b3/\W.cell? (nA nb 2)=some kv) 23 rfl zk ?_;refine zin (s4 _ (IJ _)) fun zS=>?_
  refine zrm 0 rfl zS rfl ?_;refine zr 1 rfl zS (fun _=>aq rfl) ?_
  refine zrf 2 rfl zS rfl ?_;refine zt 3 rfl zS (fun w1 c7=>RV.ld c7.2 rfl) ?_
  refine zrm 4 rfl zS rfl ?_;refine zrm 5 rfl zS rfl ?_
  refine zr 6 rfl zS (fun _=>aq rfl) ?_;refine zrf 7 rfl zS rfl ?_
  refine zt 8 rfl zS (fun w1 c7=>RV.ld c7.2 rfl) ?_;refine zrm 9 rfl zS rfl ?_
  refine zr 10 rfl zS (fun _=>ah j1 Jz (Kc _) rfl rfl a rfl e0) ?_;refine zrf 11 rfl zS rfl ?_
  refine zrm 13 rfl zS rfl ?_;refine zr 14 rfl zS (fun _=>aq rfl) ?_
  refine zrf 15 rfl zS rfl ?_;refine zt 16 rfl zS (fun w1 c7=>RV.ld c7.1 rfl) ?_
  refine zr 17 rfl zS (fun _=>aM d8.sl.sh Km rfl) ?_;rw[k7];refine bZ 12 18 kU (enc:=aX) (g.ls.length+1) rfl rfl zk zk zk zk (fun W hE=>L1 (hE.cell l5) (MI _) rfl) s4 rfl rfl rfl zd rfl rfl rfl rfl rfl ?_
  intro l' w5 g9 l3;have g0:J4 (fun _=>False) O3 w4 O3 w5:=aa (fun h=>h) O3 ((IJ w4).drew.trans l3);have c9:=f9.upd g0 fun _ _ _ h=>h
  have l0:=i4.upd g0 hi fun h=>h
  have f7:=d8.upd g0 zo fun h=>h
  have i9:=e9.upd g0;refine J2 19 zk rfl ?_;refine aC kU (c9.lv a e0) i9 g9 (by simp) rfl rfl (by simp) (by simp[GY]) (by simp;omega) (by simp;omega) zo rfl ?_;intro av w6 O6 d7 a0 a4;have d1:=l0.upd a0 hi zo;have i2:=c9.row.upd a0 zo zo;have h':=f7.upd a0 zo zo;refine zh ?_;refine zaf (⟨d1.cell 1 rfl,d1.cell 2 rfl⟩) fun zS=>?_
  refine zr 20 rfl zS (fun _=>ah j1 Jz (Kc _) rfl rfl a rfl e0) ?_;refine zrf 21 rfl zS rfl ?_
  refine J2 22 zk rfl ?_;refine oS i2 a e0 1 zd (((nth xs a).1,av,(nth xs a).2.2):K3) (KC _) d7.one zo rfl rfl rfl rfl ?_
  intro w7 i1 e2;have i3:=d1.upd e2 hi zo;have h3:=h'.upd e2 zo zo;refine zh ?_;refine af (⟨i3.cell 1 rfl,i3.cell 2 rfl⟩) ?_;have d6:∀q,q<xs.length->Jy aX 3 1 O6 w7 (i+6+2*q) (nth xs q).1 (g.fr q):=fun q hq=>((c9.fr q hq).upd a0 zo zo).upd e2 zo zo
  have f3:∀q,q<xs.length->q≠a->Jy aX 3 1 O6 w7 (i+7+2*q) (nth xs q).2.1 (g.lv q):=fun q hq m5=>((c9.lv q hq).upd a0 zo zo).upd e2 zo zo
  have f6:=d7.upd e2 zo zo;have j8:=h.ks.len;refine K4 zk ?_;refine zh ?_;refine aH rfl (⟨O6,b3,kv,xs.set a ((nth xs a).1,av,(nth xs a).2.2),b8.trans (i7.trans (((g0.mono (fun _ h=>h.elim) zo).trans (Upd.hi a0 hi zo)).trans (Upd.hi e2 hi zo))),a4.upd e2,⟨i3,h3,⟨i1,by rw[Gh,gy];exact j8,fun q hq=>?_,fun q hq=>?_,fun q hq=>?_⟩⟩⟩)
  ·rw[Gh]at hq;rw[aT e0,oe ha]
   by_cases e:q=a
   ·subst e;rw[if_pos rfl];exact d6 q hq
   rw[if_neg e];exact d6 q hq
  ·rw[Gh]at hq;rw[aT e0,lR ha]
   by_cases e:q=a
   ·subst e;rw[if_pos rfl,if_pos rfl];exact f6
   rw[if_neg e,if_neg e];exact f3 q hq e
  rw[Gh]at hq;rw[aT e0,Bq ha]
  by_cases e:q=a
  ·subst e;rw[if_pos rfl];exact h.ks.en q hq
  rw[if_neg e];exact h.ks.en q hq
structure NfR(w:ka)(nb:Nat)(se:Bool)(g:Gr)(na ta lv kv:ix)(xs:List K3):Prop where
 c0:w.cell? (nA nb 0)=some (.bool se)
 c1:w.cell? (nA nb 1)=some lv
 c2:w.cell? (nA nb 2)=some kv
 c3:w.cell? (nA nb 3)=some na
 c4:w.cell? (nA nb 4)=some ta
 ls:Sl rZ 3 w lv g.ls
 ks:Sl G0 3 w kv xs
 len:xs.length=g.ks.length
 fr:∀k,k<xs.length->Sl aX 1 w (nth xs k).1 (g.fr k)
 lv:∀k,k<xs.length->Sl aX 1 w (nth xs k).2.1 (g.lv k)
 en:∀k,k<xs.length->(nth xs k).2.2=g.en k
section
variable{O:Nat→Nat}{w w':ka}{i nb:Nat}{se:Bool}{g:Gr}{na ta lv kv:ix}{xs:List K3}
theorem NfO.r(h:NfO O w i nb se g na ta lv kv xs):NfR w nb se g na ta lv kv xs:=⟨h.c0,h.c1,h.c2,h.c3,h.c4,h.ls.sl,h.ks.row.sl,h.ks.len,fun k hk=>(h.ks.fr k hk).sl,fun k hk=>(h.ks.lv k hk).sl,h.ks.en⟩
theorem NfR.ext(h:NfR w nb se g na ta lv kv xs)(e:Kz w w'):NfR w' nb se g na ta lv kv xs:=⟨e.cell h.c0,e.cell h.c1,e.cell h.c2,e.cell h.c3,e.cell h.c4,h.ls.ext e,h.ks.ext e,h.len,fun k hk=>(h.fr k hk).ext e,fun k hk=>(h.lv k hk).ext e,h.en⟩
theorem NfR.f0(h:NfR w nb se g na ta lv kv xs){k:Nat}(hk:k<xs.length):w.cell? ((adr kv 3 k).add 0)=some (nth xs k).1:=h.ks.cell (j:=0) hk rfl
theorem NfR.f1(h:NfR w nb se g na ta lv kv xs){k:Nat}(hk:k<xs.length):w.cell? ((adr kv 3 k).add 1)=some (nth xs k).2.1:=h.ks.cell (j:=1) hk rfl
theorem NfR.f2(h:NfR w nb se g na ta lv kv xs){k:Nat}(hk:k<xs.length):w.cell? ((adr kv 3 k).add 2)=some (nI ((g.en k:Nat):Int)):=by rw[<-h.en k hk];exact h.ks.cell (j:=2) hk rfl
end
theorem xp{l:List Nat}{f:List Nat}{j:Nat}(h:j<f.length):dS l (f.drop j)=dS (if l.contains (nth f j)then l else l++[nth f j]) (f.drop (j+1)):=by
 rw[show f.drop j=nth f j::f.drop (j+1)from by rw[aB h];exact List.drop_eq_getElem_cons h,dS]
theorem A1(w:ka)(nb:Nat)(se:Bool)(g:Gr)(na ta lv kv:ix)(xs:List K3)(k M:Nat)(h:NfR w nb se g na ta lv kv xs)(hw:WF g)(hk:k<g.ks.length)(hM:Bd g M)(d8:M<=100000000):
  L6 Js 142 [nP nb,nI (k:Nat)] w fun v w'=>Sl aX 1 w' v (fj g k)/\Kz w w'/\(fj g k).length<=M/\(∀x∈fj g k,x<g.ks.length)/\∀(B:Nat) (O:Nat->Nat),Kx B O w->Lq O w' v:=by
 have d5:=h.len;have d9:=hM.ks;refine J1 func142 ntmps142 rfl rfl ?_;refine zh ?_;refine bS kU (enc:=aX) (au w) 1 zd k rfl rfl rfl zd rfl ?_;intro v0 w0 O0 a8 d2 d4;refine zh ?_;refine zlp (fun z:Nat×List Nat×ix×(Nat->Nat)×World=>[(0,nP nb),(5,z.2.2.1),(6,nI z.1)]) (fun z=>z.2.2.2.2) (fun z=>z.1<=z.2.1.length/\Rc g k z.1 z.2.1/\Jy aX 3 1 z.2.2.2.1 z.2.2.2.2 1 z.2.2.1 z.2.1/\J4 (fun q=>q=1) (fun _=>0) w z.2.2.2.1 z.2.2.2.2/\Kx w.heap.size z.2.2.2.1 z.2.2.2.2/\ia g (g.ks.length-z.1) z.1 z.2.1=fj g k) (fun z=>g.ks.length-z.1) (0,[k],v0,O0,w0) (⟨Gv _,sy hk,a8,d2,d4,rfl⟩) ?_;rintro⟨i,l,b8,O1,w1⟩ ⟨hi,a5,a2,b3,b7,a'⟩;dsimp only at hi a5 a2 b3 b7 a' ⊢;have d6:=gu a5.nd a5.lt;have b':=a2.sl;refine zh ?_;refine zC ?_ ?_
 ·intro a6;replace a6:i<l.length:=dT a6;have hm:=a5.lt _ (aO a6);have b2:nth l i<xs.length:=zo;have d7:=hM.fr (nth l i);obtain⟨d,hd⟩:∃d,g.ks.length-i=d+1:=⟨g.ks.length-i-1,zo⟩
  rw[hd,ia,if_pos a6]at a';have b1:=h.ext b3.ext;have c2:w1.drew.cell? (nA nb 2)=some kv:=b1.c2;have f0:w1.drew.cell? ((adr kv 3 (nth l i)).add 0)=some (nth xs (nth l i)).1:=b1.f0 b2;have m1:w1.drew.cell? (adr b8 1 i)=some (nI ((nth l i:Nat):Int)):=by have:=b'.cell (j:=0) a6 rfl;rwa[ao]at this
  have c':=(b1.fr _ b2).drew;refine zh ?_;refine WC.still zk zk ?_;refine zh ?_;refine zwH (ah b1.ks.sh Jz (Kc _) rfl rfl (nth l i) rfl b2) ?_;refine zwH (aM c'.sh J3 rfl) ?_;refine WS.nil ?_;refine zh ?_;refine zlp (fun y:Nat×List Nat×ix×(Nat->Nat)×World=>[(0,nP nb),(5,y.2.2.1),(6,nI i),(27,(nth xs (nth l i)).1),(28,nI (g.fr (nth l i)).length),(29,nI y.1)]) (fun y=>y.2.2.2.2) (fun y=>y.1<=(g.fr (nth l i)).length/\y.2.1.length<=l.length+y.1/\Jy aX 3 1 y.2.2.2.1 y.2.2.2.2 1 y.2.2.1 y.2.1/\J4 (fun q=>q=1) (fun _=>0) w y.2.2.2.1 y.2.2.2.2/\Kx w.heap.size y.2.2.2.1 y.2.2.2.2/\dS y.2.1 ((g.fr (nth l i)).drop y.1)=dS l (g.fr (nth l i))) (fun y=>(g.fr (nth l i)).length-y.1) (0,l,b8,O1,w1.drew) (⟨Gv _,GT _,a2.drew,b3.drew,b7.drew,rfl⟩) ?_;rintro⟨j,l2,b5,O2,w2⟩ ⟨hj,c9,a0,b0,b4,a1⟩;dsimp only at hj c9 a0 b0 b4 a1 ⊢;have c7:=h.ext b0.ext;have c6:=a0.sl;have d0:=c7.fr _ b2;refine zh ?_;refine zC ?_ ?_
  ·intro a3;replace a3:j<(g.fr (nth l i)).length:=dT a3;rw[xp a3]at a1;have m2:w2.cell? (adr (nth xs (nth l i)).1 1 j)=some (nI ((nth (g.fr (nth l i)) j:Nat):Int)):=by have:=d0.cell (j:=0) a3 rfl;rwa[ao]at this
   refine zh ?_;refine zc call170 (sf l2 (nth (g.fr (nth l i)) j) b5 w2 c6) ?_
   rintro v w9 ⟨rfl,b9⟩;rw[b9];clear b9 w9;refine zh ?_
   cases hc:l2.contains (nth (g.fr (nth l i)) j)with
   |true=>
    rw[hc,if_pos rfl]at a1;refine zFH rfl rfl ?_;refine zxd (j+1,l2,b5,O2,w2) (⟨a3,by dsimp only;omega,a0,b0,b4,a1⟩)
   |false=>
    rw[hc,if_neg zd]at a1;refine zTH rfl rfl ?_;refine Lt kU a0 b4 ((nth (g.fr (nth l i)) j)) (fun _=>rfl) rfl rfl rfl (by simp[GY]) zo zo zo zd rfl rfl ?_;intro c5 w3 O3 a7 d1 d3;refine zh ?_;refine zxd (j+1,l2++[nth (g.fr (nth l i)) j],c5,O3,w3) (⟨a3,by dsimp only;simp;omega,a7,b0.trans d1,d3,a1⟩)
  intro a9;replace a9:¬j<(g.fr (nth l i)).length:=dF a9;rw[Lj zo,dS]at a1;subst a1;have a4:=a5.step hw a6;have c8:=gu a4.nd a4.lt;obtain⟨s,hs⟩:=jg (g.fr (nth l i)) l;refine zh ?_;refine zxd (i+1,dS l (g.fr (nth l i)),b5,O2,w2) (⟨by dsimp only;rw[hs];simp;omega,a4,a0,b0,b4,by dsimp only;rw[show g.ks.length-(i+1)=d from by omega];exact a'⟩)
 intro b6;replace b6:¬i<l.length:=dF b6;have e:ia g (g.ks.length-i) i l=l:=by
  cases hd:g.ks.length-i with
  |zero=>rfl
  |succ d=>rw[ia,if_neg b6]
 rw[e]at a';rw[<-a'];refine zh ?_;refine ae rfl rfl (⟨b',b3.ext,zo,a5.lt,fun B O hR=>a2.free zd b7 hR⟩)
abbrev kvI(n:Int):ix:=nI n
abbrev tvU(n:Nat):ix:=.int .u64 (n:Int)
theorem qp:MQ Js 3 kvI:=KeyL.int Kj
theorem CO{g:Gr}{n:Nat}(he:∀k,g.en k<=n){b:Nat}(hb:b<2^n)(k:Nat):fq g b k<2^n:=by
 unfold fq
 split
 ·exact hb
 rename_i h;have:=he k;exact KH hb (LC zd zo)
theorem ke{g:Gr}{n:Nat}(he:∀k,g.en k<=n):∀(l:List Nat) (b:Nat),b<2^n->l.foldl (fq g) b<2^n
 |[],_,hb=>hb
 |k::l,_,hb=>ke he l _ (CO he hb k)
theorem yn(B:Nat)(O:Nat->Nat)(w:ka)(i nb:Nat)(se:Bool)(g:Gr)(nr tr:Nat)(lv kv:ix)(xs:List K3)(l1:List (Int×ix))(l2:List (Int×Nat))(p:Int)(k M:Nat)(hi:2<i)(hR:Kx B O w)(h:NfO O w i nb se g (.map (some nr)) (.map (some tr)) lv kv xs)(e7:JS kvI id O w 1 nr l1)(e6:JS kvI tvU O w 2 tr l2) 
  (hw:WF g) (hk:k<g.ks.length) (hM:Bd g M) (h5:M<=1000000) (he:∀q,g.en q<=40) :
  L6 Js 107 [nP nb,nI p,nI (k:Nat)] w fun _ w'=>∃v,J4 (fun q=>q=1\/q=2) O w O w'/\JS kvI id O w' 1 nr (cJ l1 p v)/\JS kvI tvU O w' 2 tr (cJ l2 p ((fj g k).foldl (fq g) 0))/\Sl aX 1 w' v ((fj g k).flatMap g.lv)/\Lq O w' v:=by
 obtain⟨T0,h4,e1⟩:=hR.bound;obtain⟨T,h1⟩:∃T,T=T0+10+i+2*g.ks.length:=⟨_,rfl⟩
 have hT:∀b,O b<T:=fun b=>by have:=e1 b;omega
 have f6:=h.ks.len;have f':=e7.tag;have f9:=e6.tag;have f8:=h.r;refine J1 func107 ntmps107 rfl rfl ?_;refine zh ?_;refine zc call142 (A1 w nb se g _ _ lv kv xs k M f8 hw hk hM zo) ?_;rintro rv w1 ⟨e5,f5,g7,c7,f7⟩;generalize fj g k=rl at *;have g3:J4 (fun q=>q=T) O w O w1:=aa zo O f5;have g2:=f7 B O hR;have h6:=hM.ks;have b2:∀q,q<rl.length->nth rl q<xs.length:=fun q hq=>by rw[f6];exact c7 _ (aO hq)
 refine zvH (aM e5.sh J3 rfl) ?_;refine zlp (fun z:Nat×ix×(Nat->Nat)×World=>[(0,nP nb),(1,nI p),(6,z.2.1),(7,.int .u64 (((rl.take z.1).foldl (fq g) 0:Nat):Int)),(13,rv),(14,nI rl.length),(15,nI z.1)]) (fun z=>z.2.2.2) (fun z=>z.1<=rl.length/\Jy aX 3 1 z.2.2.1 z.2.2.2 T z.2.1 ((rl.take z.1).flatMap g.lv)/\((rl.take z.1).flatMap g.lv).length<=z.1*1000000/\J4 (fun q=>q=T) O w z.2.2.1 z.2.2.2/\Kx B z.2.2.1 z.2.2.2/\Sl aX 1 z.2.2.2 rv rl/\Lq z.2.2.1 z.2.2.2 rv) (fun z=>rl.length-z.1) (0,nS,O,w1) (⟨Gv _,JC _ _ _ _ _ _,by simp,g3,hR.ext f5,e5,g2⟩) ?_
 rintro⟨q,v2,O2,w2⟩ ⟨hq,a0,g0,a9,b',a3,d8⟩;dsimp only at hq a0 g0 a9 b' a3 d8 ⊢;have h2:=h.updT a9 zo (fun r _ hr=>zo);have a':=h2.r;have c2:=a'.c2;have g6:=a0.sl;refine zh ?_;refine zC ?_ ?_
 ·intro a5;replace a5:q<rl.length:=dT a5;have b3:=b2 q a5;have m2:w2.cell? (adr rv 1 q)=some (nI ((nth rl q:Nat):Int)):=by have:=a3.cell (j:=0) a5 rfl;rwa[ao]at this
  have f1:=a'.f1 b3;have g9:=hM.lv (nth rl q);refine zh ?_;refine zvH (ah a'.ks.sh Jz (Kc _) rfl rfl (nth rl q) rfl b3) ?_;refine ez kU a0 b' (a'.lv _ b3) rfl rfl (by simp) (by simp[GY]) zo zo zo rfl ?_;intro v3 w3 O3 a2 e0 f4;have a8:=a9.trans e0;have h3:=h.updT a8 zo (fun r _ hr=>zo);have c8:=h3.r;have b1:=a3.upd d8 e0;have e9:=d8.upd e0;have f2:=c8.f2 b3;have h7:=c8.c2;have g':=he (nth rl q);have e4:rl.take (q+1)=rl.take q++[nth rl q]:=aR a5;have e8:(rl.take (q+1)).foldl (fq g) 0=fq g ((rl.take q).foldl (fq g) 0) (nth rl q):=by rw[e4,Ka];rfl
  have b8:(rl.take (q+1)).flatMap g.lv=(rl.take q).flatMap g.lv++g.lv (nth rl q):=by rw[e4];simp
  have h0:=ke he (rl.take q) 0 zd;refine zh ?_;refine zvH (ah c8.ks.sh Jz (Kc _) rfl rfl (nth rl q) rfl b3) ?_;refine zC ?_ ?_
  ·intro a4;have a4:g.en (nth rl q)≠0:=dT a4;have g8:2^(g.en (nth rl q)-1)<2^40:=LC zd zo;refine zh ?_;rw[show((g.en (nth rl q):Nat):Int)-1=((g.en (nth rl q)-1:Nat):Int)from by omega];refine zv (xB (a:=1) (b:=g.en (nth rl q)-1) rfl rfl rfl rfl (by show _<=64;omega) (by show _<=(18446744073709551615:Int);omega)) ?_;rw[LD];refine zvH (uS (a:=(rl.take q).foldl (fq g) 0) (b:=2^(g.en (nth rl q)-1)) rfl rfl rfl rfl (by show _<=(18446744073709551615:Int);omega) (by show _<=(18446744073709551615:Int);omega)) ?_;have a6:(rl.take (q+1)).foldl (fq g) 0=(rl.take q).foldl (fq g) 0 ||| 2^(g.en (nth rl q)-1):=by rw[e8,fq,if_neg a4]
   rw[<-a6];refine zxd (q+1,v3,O3,w3) (⟨a5,by dsimp only;rw[b8];exact a2,by dsimp only;rw[b8,I4];omega,a8,f4,b1,e9⟩)
  intro hz;have hz:g.en (nth rl q)=0:=dF hz;refine zh ?_;have a6:(rl.take (q+1)).foldl (fq g) 0=(rl.take q).foldl (fq g) 0:=by rw[e8,fq,if_pos hz]
  rw[<-a6];refine zxd (q+1,v3,O3,w3) (⟨a5,by dsimp only;rw[b8];exact a2,by dsimp only;rw[b8,I4];omega,a8,f4,b1,e9⟩)
 intro g1;obtain rfl:q=rl.length:=dF g1;rw[Jo]at a0 ⊢;have hf:Lq O w2 v2:=MR a0 zo hT b' a9;have d7:=e7.upd a9 zd zo;have d1:=e6.upd a9 zd zo;have d3:w2.drew.cell? (nA nb 3)=some (.map (some nr)):=a'.c3;have d4:w2.drew.cell? (nA nb 4)=some (.map (some tr)):=a'.c4;have d9:J4 (fun _=>False) O2 w2 O2 w2.drew:=aa (fun h=>h) O2 (IJ w2).drew;have d6:=d7.upd d9 zd fun h=>h
 have d0:=d1.upd d9 zd fun h=>h
 have b0:∀W (S:Nat->Prop),J4 S O2 w2.drew O2 W->¬S i->W.cell? (nA nb 3)=some (.map (some nr))/\W.cell? (nA nb 4)=some (.map (some tr)):=fun W S u hS=>
  have hb:=h2.blk.drew.upd u zo hS
  ⟨hb.cell 3 rfl,hb.cell 4 rfl⟩
 refine zh ?_;refine aI (fun W=>W.cell? (nA nb 3)=some (.map (some nr))/\W.cell? (nA nb 4)=some (.map (some tr))) 18 rfl zk ?_
 refine zin ⟨d3,d4⟩ fun zS=>?_
 refine zrm 0 rfl zS rfl ?_;refine zr 1 rfl zS (fun _=>aq rfl) ?_
 refine zrf 2 rfl zS rfl ?_;refine zt 3 rfl zS (fun w1 c5=>RV.ld c5.1 rfl) ?_
 refine zrm 4 rfl zS rfl ?_;refine zrm 5 rfl zS rfl ?_
 refine zr 6 rfl zS (fun _=>aq rfl) ?_;refine zrf 7 rfl zS rfl ?_
 refine zt 8 rfl zS (fun w1 c5=>RV.ld c5.2 rfl) ?_;refine zrm 9 rfl zS rfl ?_
 refine zrm 10 rfl zS rfl ?_;refine zrm 11 rfl zS rfl ?_
 refine J2 12 zk rfl ?_;refine mH d6 N2 qp zd (L3 _) p v2 rfl rfl rfl rfl ?_
 intro w4 c4 b4 e3 b5;refine zh ?_;refine af (b0 _ _ b5 zo) ?_;refine zr 13 rfl (b0 _ _ b5 zo) (fun _=>N6 rfl rfl) ?_;refine J2 14 zk rfl ?_;refine jy e3 rfl rfl rfl rfl ?_;intro w5 d5 b9;have c':=d0.upd b9 zd zd;refine zh ?_;refine af (b0 _ _ b9 zo) ?_;refine J2 15 zk rfl ?_;refine mH c' N1 qp zd (Mi _) p (rl.foldl (fq g) 0) rfl rfl rfl rfl ?_;intro w6 c6 b6 e2 d';have hU6e:J4 (fun q=>q=1\/q=2) O2 w2.drew O2 w6:=(b9.mono (fun _ h=>.inl h) zo).trans (d'.mono (fun _ h=>.inr h) zo);refine zh ?_;refine af (b0 _ _ hU6e zo) ?_;refine zr 16 rfl (b0 _ _ hU6e zo) (fun _=>N6 rfl rfl) ?_;refine J2 17 zk rfl ?_;refine jy e2 rfl rfl rfl rfl ?_;intro w7 c9 f3;have d2:=d5.upd f3 zd zd;have b7:J4 (fun q=>q=1\/q=2) O2 w2.drew O2 w7:=(b9.mono (fun _ h=>.inl h) zo).trans (f3.mono (fun _ h=>.inr h) zo);refine zh ?_;refine af (b0 _ _ b7 zo) ?_;have a7:=(d9.mono (S':=fun q=>q=1\/q=2) (fun _ h=>h.elim) zo).trans b7;have e':=(a9.mono (S':=fun q=>q=T\/q=1\/q=2) (fun _ h=>.inl h) zo).trans (a7.mono (fun _ h=>.inr h) zo)
 have g4:J4 (fun q=>q=1\/q=2) O w O w7:=Upd.fgt e' (fun b h=>by
  rcases h with h|h
  ·have:=hT b;omega
  exact h) zo
 have a1:=a0.upd a7 zo zo;have g5:=b'.upd a7;refine K4 zk ?_;refine aH rfl (⟨v2,g4,d2.fgt f',c9.fgt f9,a1.sl,MR a1 zo hT g5 e'⟩)
theorem ir:∀(l:List Nd) (i:Nat),i<l.length->bh (l.take (i+1))=bh (l.take i)+dh (nth l i)
 |[],i,h=>absurd h (Gb i)
 |t::r,0,_=>by rw[ar];simp[bh]
 |t::r,i+1,h=>by
  have:=ir r i (by simpa using h);rw[bd];simp only[List.take_succ_cons,bh];omega
mutual
theorem lQ:∀(t:Nd),dh t<=nsz t
 |.mk k c l=>by
  have:=iY l
  simp only[dh,nsz]
  split<;>omega
theorem iY:∀(l:List Nd),bh l<=dr l
 |[]=>by simp[bh]
 |t::r=>by
  have h1:=lQ t
  have h2:=iY r
  simp only[bh,dr]
  omega
end
theorem qj:∀(n:Nat),n<=1000000->∀(t:Nd),nsz t<=n->∀(x:N3) (w:ka),Nt (fun _=>0) w t x->L6 Js 103 [nv x] w fun v w'=>v=nI ((dh t:Nat):Int)/\Kz w w'
 |0,_,t,hn=>by have:=cN t;omega
 |n+1,hn6,.mk k c l,hn=>by
  intro x w h;have ih:=qj n zo;have b5:=h.ones;obtain⟨ys,b3,hf,a7,a4⟩:=h.kids;simp only[Nd.kids]at a7 a4;simp only[nsz]at hn;generalize x.2.2=sv at *;subst b5;simp only[Nd.kind,Nd.cls];have d1:=ef l;have d2:=iY l;refine J1 func103 ntmps103 rfl rfl ?_;refine zh ?_;refine aE (au w) 1 zo rfl rfl ?_;intro xb w1 O1 b0 d4 d6 a';have c0:w1.cell? (nA xb 0)=some (nI k):=b0.cell 0 rfl;have c2:w1.cell? (nA xb 2)=some sv:=b0.cell 2 rfl;have a6:=b3.ext a';have a2:=a';clear a';refine zh ?_
  by_cases hl:l=[]
  ·subst hl;have b4:ys.length=0:=a7.symm;refine ay (d:=10) rfl (b':=true) ((by rw[b4];rfl)) ?_;refine zh ?_
   by_cases h9:k=9
   ·subst h9;have a0:dh (.mk 9 c [])=bh []:=by rw[dh,if_neg (by rintro⟨_,e⟩;exact e rfl)]
    refine zFH rfl rfl ?_;refine zlp (fun z:Nat×ka=>[(3,nI ((bh (([]:List Nd).take z.1):Nat):Int)),(16,sv),(17,nI ys.length),(18,nI z.1)]) (fun z=>z.2) (fun z=>z.1<=([]:List Nd).length/\Kz w1 z.2) (fun z=>([]:List Nd).length-z.1) (0,w1) (⟨Gv _,IJ _⟩) ?_
    rintro⟨q,w2⟩ ⟨hq,a1⟩;dsimp only at hq a1 ⊢;have a5:=a6.ext a1;have b6:q=0:=by simpa using hq
    refine zh ?_;refine zC ?_ ?_
    ·intro a3;exact absurd (of_decide_eq_true a3) zo
    intro b1;subst b6;refine zh ?_;refine ae rfl rfl (⟨by rw[a0,List.take_nil],a2.trans a1⟩)
   have a0:dh (.mk k c [])=1:=by rw[dh,if_pos ⟨rfl,h9⟩]
   rw[a0];refine zTH rfl ((by simpa using h9)) ?_;refine ae rfl rfl (⟨rfl,a2⟩)
  have a0:dh (.mk k c l)=bh l:=by rw[dh,if_neg (by rintro⟨e,_⟩;exact hl (by simpa using e))]
  have b7:=List.length_pos_iff.2 hl;refine ay (d:=10) rfl (b':=false) ((by rw[beq_eq_false_iff_ne];omega)) ?_;refine zh ?_;refine zFH rfl rfl ?_;refine zlp (fun z:Nat×ka=>[(3,nI ((bh (l.take z.1):Nat):Int)),(16,sv),(17,nI ys.length),(18,nI z.1)]) (fun z=>z.2) (fun z=>z.1<=l.length/\Kz w1 z.2) (fun z=>l.length-z.1) (0,w1) (⟨Gv _,IJ _⟩) ?_;rintro⟨q,w2⟩ ⟨hq,a1⟩;dsimp only at hq a1 ⊢;have a5:=a6.ext a1;have c9:=cp l q;refine zh ?_;refine zC ?_ ?_
  ·intro a3;replace a3:q<l.length:=dT a3;have a8:=(a4 q zo).ext (a2.trans a1);have c5:=a8.one;have d0:=bD l q a3;have d3:=lQ (nth l q);have b9:=iY (l.take q);have c':=dJ l q a3;have b8:=cp l (q+1);refine zh ?_;refine zv (ai (us:=aY (nth ys q)) (fun j u hu=>a5.cell zo hu) (JD _) (J5 _) rfl) ?_;refine ax (au w2) 1 zo (KB _) rfl ?_;intro yb w3 O3 a9 c7 d5 d7;refine zsb (us:=#[nI (nth ys q).1,nI (nth ys q).2.1,(nth ys q).2.2]) a9 (J5 _) (cn c5) ?_;have b2:Kz w2 (w3.setRow yb #[nI (nth ys q).1,nI (nth ys q).2.1,(nth ys q).2.2]):=(c7.trans (Jp zd a9.tag rfl)).ext;have c6:=a9.setRow (us:=#[nI (nth ys q).1,nI (nth ys q).2.1,(nth ys q).2.2]);generalize w3.setRow yb #[nI (nth ys q).1,nI (nth ys q).2.1,(nth ys q).2.2]=w4 at *;refine zh ?_;refine zv (ai (us:=aY (nth ys q)) c6.cellsAdd (JD _) (J5 _) rfl) ?_;refine zc call103 (ih (nth l q) zo (nth ys q) w4 (a8.ext b2)) ?_;rintro v w5 ⟨rfl,c8⟩;refine zh ?_;rw[show((bh (l.take q):Nat):Int)+((dh (nth l q):Nat):Int)=((bh (l.take (q+1)):Nat):Int)from by rw[ir l q a3];simp];refine zxd (q+1,w5) (⟨a3,(a1.trans b2).trans c8⟩)
  intro b1;obtain rfl:q=l.length:=dF b1;rw[Jo];refine zh ?_;refine ae rfl rfl (⟨by rw[a0],a2.trans a1⟩)
theorem Ay(k c m:Int)(b:Nat)(w:ka):L6 Js 171 [.agg #[nI k,nI c,nI (b:Nat)],nI m] w fun v w'=>v=.bool (cK k c m)/\Kz w w':=by
 refine J1 func171 ntmps171 rfl rfl ?_;refine zh ?_
 refine aE (au w) 1 zo rfl rfl ?_;intro xb w1 O1 a4 a5 a6 a3;have c0:w1.cell? (nA xb 0)=some (nI k):=a4.cell 0 rfl;have c1:w1.cell? (nA xb 1)=some (nI c):=a4.cell 1 rfl;obtain⟨cl,a0⟩:∃cl,cl=(decide (0<=m)&&decide (m<36)):=⟨_,rfl⟩
 refine zh ?_;refine aP (fun W=>W=w1) (decide (m<36)) 2 (rfl) rfl rfl rfl rfl rfl ?_ ?_
 ·intro a1;refine zh ?_;refine nE 8 3 (rfl) a1
 rintro w9 rfl;rw[<-a0];refine zh ?_
 by_cases h0:k=0
 ·have hM:cK k c m=(cl&&(m==c)):=by unfold cK;rw[if_pos h0,a0]
  rw[hM];refine zTH rfl ((by simpa using h0)) ?_;refine aP (fun W=>W=w9) ((m==c)) 4 (rfl) rfl rfl rfl rfl rfl ?_ ?_
  ·intro a2;refine zh ?_;refine nE 17 5 (rfl) a2
  rintro w8 rfl;refine zh ?_;refine ae rfl rfl (⟨rfl,a3⟩)
 refine zFH rfl ((by simpa using h0)) ?_
 by_cases h1:k=1
 ·have hM:cK k c m=cl:=by unfold cK;rw[if_neg h0,if_pos h1,a0]
  rw[hM];refine zTH rfl ((by simpa using h1)) ?_;refine ae rfl rfl (⟨rfl,a3⟩)
 refine zFH rfl ((by simpa using h1)) ?_
 by_cases h2:k=2
 ·have hM:cK k c m=(cl&&(m != c)):=by unfold cK;rw[if_neg h0,if_neg h1,if_pos h2,a0]
  rw[hM];refine zTH rfl ((by simpa using h2)) ?_;refine aP (fun W=>W=w9) ((m != c)) 4 (rfl) rfl rfl rfl rfl rfl ?_ ?_
  ·intro a2;refine zh ?_;refine nE 29 5 (rfl) a2
  rintro w8 rfl;refine zh ?_;refine ae rfl rfl (⟨rfl,a3⟩)
 have hM:cK k c m=(m==36):=by unfold cK;rw[if_neg h0,if_neg h1,if_neg h2]
 rw[hM];refine zFH rfl ((by simpa using h2)) ?_;refine ae rfl rfl (⟨rfl,a3⟩)
structure NfD(w:ka)(nb:Nat)(se:Bool)(g:Gr):Prop where
 ex:∃nr tr lv kv xs l1 l2,NfR w nb se g (.map (some nr)) (.map (some tr)) lv kv xs/\JS kvI id (fun _=>0) w 0 nr l1/\JS kvI tvU (fun _=>0) w 0 tr l2/\
  (∀p:Nat,p<=g.ls.length->∃v,bx l1 (p:Int)=some v/\Sl aX 1 w v (cO g p))/\∀p:Nat,p<=g.ls.length->bx l2 (p:Int)=some (jD g p)
theorem oX{κ ν:Type}{kv:κ->ix}{vv:ν->ix}{w w':ka}{r:Nat}{l:List (κ×ν)}(h:JS kv vv (fun _=>0) w 0 r l)(e:Kz w w'):JS kv vv (fun _=>0) w' 0 r l:=by
 obtain⟨es,c,h1,h2⟩:=h.blk;have e1:=e.block r (bB h1);exact⟨⟨es,c,by rw[e1];exact h1,h2⟩,rfl,fun a0 c' h'=>h.born a0 c' (by rw[<-e1];exact h')⟩
theorem NfD.ext{w w':ka}{nb:Nat}{se:Bool}{g:Gr}(h:NfD w nb se g)(e:Kz w w'):NfD w' nb se g:=by
 obtain⟨nr,tr,lv,kv,xs,l1,l2,h1,h2,h3,h4,h5⟩:=h.ex;exact⟨nr,tr,lv,kv,xs,l1,l2,h1.ext e,oX h2 e,oX h3 e,fun p hp=>by obtain⟨v,a,b⟩:=h4 p hp;exact⟨v,a,b.ext e⟩,h5⟩
theorem Cb(w:ka)(nb:Nat):L6 Js 109 [nP nb] w fun v w'=>Sl encI 1 w' v [0]/\Kz w w'/\∀(B:Nat) (O:Nat->Nat),Kx B O w->Lq O w' v:=by
 refine J1 func109 ntmps109 rfl rfl ?_;refine zh ?_
 refine zvH (ec (q:=some ⟨nb,0,none⟩) KN rfl rfl) ?_;refine zFH rfl rfl ?_
 refine bS kU (enc:=encI) (au w) 1 zd (0:Int) rfl rfl rfl zd rfl ?_;intro v0 w0 O0 a0 a1 a2;refine zh ?_
 refine ae rfl rfl (⟨a0.sl,a1.ext,fun B O hR=>a0.free zd a2 hR⟩)
def sI(g:Gr)(m:Int)(l:List Nat):List Int:=(l.filter fun j=>cK (nth g.ls (j-1)).1 (nth g.ls (j-1)).2.1 m).map fun(j:Nat)=>(j:Int)
theorem BR{g:Gr}{m:Int}{l:List Nat}{j:Nat}(h:j<l.length):sI g m (l.take (j+1))=sI g m (l.take j)++if cK (nth g.ls (nth l j-1)).1 (nth g.ls (nth l j-1)).2.1 m=true then [((nth l j:Nat):Int)]else []:=by
 unfold sI;rw[aR h,Ky,JL,Mc]
 split<;>rfl
theorem Dz(g:Gr)(m:Int)(l:List Nat):(sI g m l).length<=l.length:=by unfold sI;rw[JX];exact Kq _ _
theorem step_ret(w:ka)(nb:Nat)(se:Bool)(g:Gr)(s:List Int)(sv:ix)(m:Int)(h:NfD w nb se g)(hs:Sl encI 1 w sv s)(hw:WF g)(h0:0 < g.ks.length)(ht:Tot g)(hp:inP g s)(hsl:s.length ≤ 1000)(hll:g.ls.length ≤ 999):
  L6 Js 144 [nP nb, sv, nI m] w fun v w' => Sl encI 1 w' v (cM se g s m) ∧ Kz w w' ∧ ∀(B:Nat) (O:Nat → Nat), Kx B O w → Lq O w' v := by
 have hbnd := h
 obtain⟨nr, tr, lv, kv, xs, l1, l2, hr, hm1, hm2, hn1, hn2⟩ := h.ex
 have hraw:∀q, q ≤ s.length → ((if se = true then [(0:Int)]else []) ++ (s.take q).flatMap fun p => sI g m (cO g p.toNat)).length ≤ 1 + q * 999 := fun q hq => by
  have h1 := FL (se := se) hw h0 ht (m := m) (s := s.take q) fun x hx => hp x (List.mem_of_mem_take hx)
  have h2:(s.take q).length * g.ls.length ≤ q * 999 := Nat.mul_le_mul (by simp; omega) hll
  exact KI h1 (by omega)
 refine J1 func144 ntmps144 rfl rfl ?_
 refine JB ?_
 refine Ji ?_
 refine zv (Kk rfl) ?_
 refine Jr ?_
 refine az ?_
 refine JB ?_
 refine JB ?_
 refine Ji ?_
 refine zv (JA rfl) ?_
 refine zv (ec (q := some ⟨nb, 0, none⟩) KN rfl rfl) ?_
 refine Jr ?_
 refine az ?_
 refine aS rfl rfl ?_
 refine Lu ?_
 refine az ?_
 refine JB ?_
 refine Ji ?_
 refine zv (Kk rfl) ?_
 refine Jr ?_
 refine az ?_
 refine JB ?_
 refine JB ?_
 refine Ji ?_
 refine zv (JA rfl) ?_
 refine zv (aq rfl) ?_
 refine zv (RV.fa rfl) ?_
 refine zv (RV.ld hr.c0 rfl) ?_
 refine Jr ?_
 refine az ?_
 refine iK (fun z:ix×(Nat → Nat)×World => [(0, nP nb), (1, sv), (2, nI m), (7, z.1)]) (fun z:ix×(Nat → Nat)×World => z.2.2) (fun z:ix×(Nat → Nat)×World => Jy encI 3 1 z.2.1 z.2.2 1 z.1 (if se = true then [0]else []) ∧ J4 (fun q => q = 1) (fun _ => 0) w z.2.1 z.2.2 ∧ Kx w.heap.size z.2.1 z.2.2) ?_ ?_
 ·intro hN
  refine zC ?_ ?_
  ·intro hse
   have e0:([]:List Int).length = 0 := rfl
   refine Ji ?_
   refine zv (JA rfl) ?_
   refine Lt kU (JC encI 3 1 (fun _ => 0) w 1) (au w) ((0:Int)) (fun _ => rfl) rfl rfl rfl (by simp[GY]) (by omega) (by omega) (by omega) (by decide) rfl rfl ?_
   intro v1 w1 O1 hrow1 hU1 hR1
   refine zv (Kk rfl) ?_
   refine Jr ?_
   exact eD (hN ((v1, O1, w1)) (⟨by rw[if_pos hse]; exact hrow1, hU1, hR1⟩)) ⟨rfl, rfl, rfl, rfl, trivial⟩ rfl
  ·intro hse
   refine Lu ?_
   exact eD (hN ((nS, fun _ => 0, w)) (⟨by rw[if_neg (by rw[hse]; decide)]; exact JC _ _ _ _ _ _, JP (by decide) _ _, au w⟩)) ⟨rfl, rfl, rfl, rfl, trivial⟩ rfl
 rintro⟨v1, O1, w1⟩ ⟨hrow1, hU1, hR1⟩
 dsimp only at hrow1 hU1 hR1 ⊢
 obtain⟨hd, hhd⟩:∃hd, hd = (if se = true then [(0:Int)]else []) := ⟨_, rfl⟩
 rw[← hhd]at hrow1 hraw
 refine az ?_
 refine JB ?_
 refine JB ?_
 refine Ji ?_
 refine zv (JA rfl) ?_
 refine zv (aM hs.sh J3 rfl) ?_
 refine zv (JA rfl) ?_
 refine Jr ?_
 refine az ?_
 refine LQ ?_
 refine zlp (fun z:Nat×ix×(Nat → Nat)×World => [(0, nP nb), (2, nI m), (7, z.2.1), (21, sv), (22, nI s.length), (23, nI z.1)]) (fun z => z.2.2.2) (fun z => z.1 ≤ s.length ∧ Jy encI 3 1 z.2.2.1 z.2.2.2 1 z.2.1 (hd ++ (s.take z.1).flatMap fun p => sI g m (cO g p.toNat)) ∧ J4 (fun q => q = 1) (fun _ => 0) w z.2.2.1 z.2.2.2 ∧ Kx w.heap.size z.2.2.1 z.2.2.2) (fun z => s.length - z.1) (0, v1, O1, w1) (⟨Gv _, by simpa using hrow1, hU1, hR1⟩) ?_
 rintro⟨q, v2, O2, w2⟩ ⟨hq, hrow2, hU2, hR2⟩
 dsimp only at hq hrow2 hU2 hR2 ⊢
 have hlen2 := hraw q hq
 refine JB ?_
 refine Ji ?_
 refine zv (RV.lss rfl rfl) ?_
 refine Jr ?_
 refine az ?_
 refine JB ?_
 refine zC ?_ ?_
 ·intro hlt
  replace hlt:q < s.length := by have := of_decide_eq_true hlt; omega
  have hpq := hp _ (aO hlt)
  obtain⟨pn, hpn⟩:∃pn:Nat, nth s q = (pn:Int) := ⟨(nth s q).toNat, by omega⟩
  have hpl:pn ≤ g.ls.length := by have := hpq.2; rw[hpn]at this; simpa using this
  obtain⟨nv1, hnv1, hsn⟩ := hn1 pn hpl
  have hnl := yd hw ht (pr hw h0 hpl)
  have hs2 := hs.ext hU2.ext
  have hm12 := oX hm1 hU2.ext
  have m2:w2.cell? (adr sv 1 q) = some (nI (nth s q)) := by have := hs2.cell (j := 0) hlt rfl; rwa[ao]at this
  rw[hpn]at m2
  have hr2 := hr.ext hU2.ext
  have hsn2 := hsn.ext hU2.ext
  have c3 := hr2.c3
  refine Lu ?_
  refine az ?_
  refine JB ?_
  refine LQ ?_
  refine JB ?_
  refine Ji ?_
  refine zv (Kp (by first | exact hs2) J3 (K8 _) rfl rfl _ rfl (by omega)) ?_
  refine zv (RV.ld m2 rfl) ?_
  refine zv (Kk rfl) ?_
  refine Jr ?_
  refine az ?_
  refine JB ?_
  refine Ji ?_
  refine zv (JA rfl) ?_
  refine zv (aq rfl) ?_
  refine zv (RV.fa rfl) ?_
  refine zv (RV.ld c3 rfl) ?_
  refine zv (JA rfl) ?_
  refine zv (Nc (u := nv1) hm12 N2 qp (L3 _) (pn:Int) rfl rfl rfl (by rw[hnv1]; rfl)) ?_
  refine zv (aM hsn.sh J3 rfl) ?_
  refine zv (JA rfl) ?_
  refine Jr ?_
  refine az ?_
  refine LQ ?_
  refine zlp (fun y:Nat×ix×(Nat → Nat)×World => [(0, nP nb), (2, nI m), (7, y.2.1), (21, sv), (22, nI s.length), (23, nI q), (32, nv1), (33, nI (cO g pn).length), (34, nI y.1)]) (fun y => y.2.2.2) (fun y => y.1 ≤ (cO g pn).length ∧ Jy encI 3 1 y.2.2.1 y.2.2.2 1 y.2.1 ((hd ++ (s.take q).flatMap fun p => sI g m (cO g p.toNat)) ++ sI g m ((cO g pn).take y.1)) ∧ J4 (fun q => q = 1) (fun _ => 0) w y.2.2.1 y.2.2.2 ∧ Kx w.heap.size y.2.2.1 y.2.2.2) (fun y => (cO g pn).length - y.1) (0, v2, O2, w2) (⟨Gv _, by simpa[sI]using hrow2, hU2, hR2⟩) ?_
  rintro⟨j, v3, O3, w3⟩ ⟨hj, hrow3, hU3, hR3⟩
  dsimp only at hj hrow3 hU3 hR3 ⊢
  have hsn3 := hsn.ext hU3.ext
  have hr3 := hr.ext hU3.ext
  have hfl := Dz g m ((cO g pn).take j)
  have hlapp:((hd ++ (s.take q).flatMap fun p => sI g m (cO g p.toNat)) ++ sI g m ((cO g pn).take j)).length = (hd ++ (s.take q).flatMap fun p => sI g m (cO g p.toNat)).length + (sI g m ((cO g pn).take j)).length := I4
  have htl:((cO g pn).take j).length ≤ j := by simp; omega
  refine JB ?_
  refine Ji ?_
  refine zv (RV.lss rfl rfl) ?_
  refine Jr ?_
  refine az ?_
  refine JB ?_
  refine zC ?_ ?_
  ·intro hlt2
   replace hlt2:j < (cO g pn).length := by have := of_decide_eq_true hlt2; omega
   have hjn:1 ≤ nth (cO g pn) j ∧ nth (cO g pn) j ≤ g.ls.length := by
    obtain⟨k, hk, hjk⟩ := (nc hw h0 hpl (nth (cO g pn) j)).1 (aO hlt2)
    exact hw.lv k _ (hk.lt hw (pr hw h0 hpl)) hjk
   have hft := BR (g := g) (m := m) hlt2
   have m3:w3.cell? (adr nv1 1 j) = some (nI ((nth (cO g pn) j:Nat):Int)) := by have := hsn3.cell (j := 0) hlt2 rfl; rwa[ao]at this
   generalize nth (cO g pn) j = to at *
   have c1 := hr3.c1
   have hls3 := hr3.ls
   refine Lu ?_
   refine az ?_
   refine JB ?_
   refine LQ ?_
   refine JB ?_
   refine Ji ?_
   refine zv (Kp (by first | exact hsn3) J3 (K8 _) rfl rfl _ rfl (by omega)) ?_
   refine zv (RV.ld m3 rfl) ?_
   refine zv (Kk rfl) ?_
   refine Jr ?_
   refine az ?_
   refine JB ?_
   refine Ji ?_
   refine zv (JA rfl) ?_
   refine zv (aq rfl) ?_
   refine zv (RV.fa rfl) ?_
   refine zv (RV.ld c1 rfl) ?_
   refine zv (JA rfl) ?_
   refine zv (RV.sub rfl rfl (Mg (by omega))) ?_
   rw[show((to:Nat):Int) - 1 = ((to - 1:Nat):Int)from by omega]
   refine zv (Kp hls3 Km (L0 _) rfl rfl (to - 1) rfl (by omega)) ?_
   refine zv (ai (us := rZ (nth g.ls (to - 1))) (fun j u hu => hls3.cell (by omega) hu) (isAgg190 _) (L0 _) rfl) ?_
   refine zv (JA rfl) ?_
   refine zc call171 (Ay (nth g.ls (to - 1)).1 (nth g.ls (to - 1)).2.1 m (nth g.ls (to - 1)).2.2 w3) ?_
   rintro v w4 ⟨rfl, hE4⟩
   have hU4 := hU3.trans (aa (by decide) O3 hE4)
   have hR4 := hR3.ext hE4
   have hrow4:Jy encI 3 1 O3 w4 1 v3 _ := hrow3.upd (aa (S := fun _ => False) (fun h => h) O3 hE4) (by decide) fun h => h
   refine Jr ?_
   refine az ?_
   refine zC ?_ ?_
   ·intro hyes
    rw[if_pos hyes]at hft
    refine Ji ?_
    refine zv (JA rfl) ?_
    refine zv (JA rfl) ?_
    refine Lt kU hrow4 hR4 (((to:Nat):Int)) (fun _ => rfl) rfl rfl rfl (by simp[GY]) (by omega) (by omega) (by omega) (by decide) rfl rfl ?_
    intro v5 w5 O5 hrow5 hU5 hR5
    refine zv (Kk rfl) ?_
    refine Jr ?_
    refine eh ?_
    refine az ?_
    refine Ji ?_
    refine zv (N7 rfl rfl (Mg (by omega))) ?_
    refine zv (JA rfl) ?_
    refine Jr ?_
    refine zxd (j + 1, v5, O5, w5) (⟨hlt2, by dsimp only; rw[hft, ← Jt]; exact hrow5, hU4.trans hU5, hR5⟩)
   ·intro hno
    rw[if_neg (by rw[hno]; decide), Jn]at hft
    refine Lu ?_
    refine eh ?_
    refine az ?_
    refine Ji ?_
    refine zv (N7 rfl rfl (Mg (by omega))) ?_
    refine zv (JA rfl) ?_
    refine Jr ?_
    refine zxd (j + 1, v3, O3, w4) (⟨hlt2, by dsimp only; rw[hft]; exact hrow4, hU4, hR4⟩)
  ·intro hge2
   obtain rfl:j = (cO g pn).length := by have := of_decide_eq_false hge2; omega
   rw[Jo]at hrow3
   have htk:(s.take (q + 1)).flatMap (fun p => sI g m (cO g p.toNat)) = (s.take q).flatMap (fun p => sI g m (cO g p.toNat)) ++ sI g m (cO g pn) := by rw[aR hlt, LL, hpn]; simp
   refine Nq ?_
   refine cT ?_
   refine cT ?_
   refine eY ?_
   refine eh ?_
   refine az ?_
   refine Ji ?_
   refine zv (N7 rfl rfl (Mg (by omega))) ?_
   refine zv (JA rfl) ?_
   refine Jr ?_
   refine zxd (q + 1, v3, O3, w3) (⟨hlt, by dsimp only; rw[htk, ← Jt]; exact hrow3, hU3, hR3⟩)
 ·intro hge
  obtain rfl:q = s.length := by have := of_decide_eq_false hge; omega
  rw[Jo]at hrow2 hlen2
  have hmul:s.length * 999 ≤ 999000 := by omega
  refine Nq ?_
  refine cT ?_
  refine cT ?_
  refine eY ?_
  refine az ?_
  refine JB ?_
  refine Ji ?_
  refine zv (JA rfl) ?_
  refine zc call160 (kh hR2 hrow2 (by decide) (by omega)) ?_
  rintro _ w3 ⟨hrow3, hU3, hR3⟩
  refine Jr ?_
  refine az ?_
  refine JB ?_
  refine Ji ?_
  refine zv (JA rfl) ?_
  refine zc call161 (eW hR3 hrow3 (by decide) (by rw[ei]; omega)) ?_
  rintro v4 w4 ⟨hrow4, hU4, hR4⟩
  have e:Ju (gT (hd ++ s.flatMap fun p => sI g m (cO g p.toNat))) = cM se g s m := by rw[hhd]; rfl
  rw[e]at hrow4
  refine zv (Kk rfl) ?_
  refine Jr ?_
  refine az ?_
  refine WC.ret ?_
  refine ae rfl rfl (⟨hrow4.sl, ((hU2.trans hU3).trans hU4).ext, fun B O hR => hrow4.free (by decide) hR4 hR⟩)
theorem kd(w:ka)(nb:Nat)(se:Bool)(g:Gr)(s:List Int)(sv:ix)(h:NfD w nb se g)(hs:Sl encI 1 w sv s)(hp:inP g s)(he:∀q,g.en q<=40):
  L6 Js 111 [nP nb,sv] w fun v w'=>v=.int .u64 ((dp g s:Nat):Int)/\w'=w:=by
 obtain⟨nr,tr,lv,kv,xs,l1,l2,hr,b3,a9,b2,a8⟩:=h.ex;have a4:∀p,jD g p<2^40:=fun p=>ke he _ 0 zd
 have b1:=hs.len_le;refine J1 func111 ntmps111 rfl rfl ?_;refine zh ?_;refine zvH (Ag (q:=some ⟨nb,0,none⟩) KN rfl rfl) ?_;refine zTH rfl rfl ?_;refine zlp (fun z:Nat=>[(0,nP nb),(5,.int .u64 ((dp g (s.take z):Nat):Int)),(10,sv),(11,nI s.length),(12,nI z)]) (fun z=>w) (fun z=>z<=s.length/\dp g (s.take z)<2^40) (fun z=>s.length-z) 0 (⟨Gv _,by rw[List.take_zero];show(0:Nat)<2^40;decide⟩) ?_;rintro q ⟨hq,a1⟩;refine zh ?_;refine zC ?_ ?_
 ·intro a0;replace a0:q<s.length:=dT a0;have a6:=hp _ (aO a0);obtain⟨pn,a2⟩:∃pn:Nat,nth s q=(pn:Int):=⟨(nth s q).toNat,zo⟩
  have a7:pn<=g.ls.length:=by have:=a6.2;rw[a2]at this;simpa using this
  have a':=a8 pn a7;have m2:w.cell? (adr sv 1 q)=some (nI (nth s q)):=by have:=hs.cell (j:=0) a0 rfl;rwa[ao]at this
  rw[a2]at m2;have c4:=hr.c4;have a5:=a4 pn;have a3:dp g (s.take (q+1))=dp g (s.take q) ||| jD g pn:=by
   unfold dp;rw[aR a0,Ka,a2];rfl
  refine zh ?_;refine zv (Nc (u:=.int .u64 ((jD g pn:Nat):Int)) a9 N1 qp (Mi _) (pn:Int) rfl rfl rfl (by rw[a'];rfl)) ?_
  refine zvH (uS (a:=dp g (s.take q)) (b:=jD g pn) rfl rfl rfl rfl (by show _<=(18446744073709551615:Int);omega) (by show _<=(18446744073709551615:Int);omega)) ?_;rw[<-a3];refine zxd (q+1) (⟨a0,by rw[a3];exact KH a1 a5⟩)
 intro b0;obtain rfl:q=s.length:=dF b0;rw[Jo];refine zh ?_;refine ae rfl rfl (⟨rfl,rfl⟩)
mutual
theorem um:∀(t:Nd) (wi:Bool),bH t wi=true->zA t=true/\fG t=true
 |.mk k c l,wi,h=>by
  unfold bH at h
  simp only[J0]at h
  obtain⟨h1,h2⟩:=h
  obtain⟨i1,i2⟩:=qw l h2
  unfold zA fG
  rw[i1,i2,MH,MH]
  have hl:l.isEmpty=true↔l.length=0:=by cases l<;>simp
  rcases dm h1 with⟨rfl,hn,_⟩|⟨rfl,hn,_⟩|⟨rfl,hn,_⟩|⟨rfl,hn,_⟩|⟨rfl,hn,_⟩|⟨rfl,hn,_⟩|⟨rfl,hn,_⟩|⟨rfl,hn,_⟩|⟨rfl,hn,_⟩|⟨rfl,hn,_⟩
  ·exact⟨by rw[if_neg zd];exact hl.2 hn,by rw[if_neg zd,if_neg zd]⟩
  ·exact⟨by rw[if_neg zd];exact hl.2 hn,by rw[if_neg zd,if_neg zd]⟩
  ·exact⟨by rw[if_neg zd];exact hl.2 hn,by rw[if_neg zd,if_neg zd]⟩
  ·exact⟨by rw[if_neg zd];exact hl.2 hn,by rw[if_neg zd,if_neg zd]⟩
  ·have:l.isEmpty=false:=by cases l;simp at hn;rfl
   exact⟨by rw[if_pos zd,this];rfl,by rw[if_pos rfl,this];rfl⟩
  ·have:l.isEmpty=false:=by cases l;simp at hn;rfl
   exact⟨by rw[if_pos zd,this];rfl,by rw[if_neg zd,if_neg zd]⟩
  ·have:l.isEmpty=false:=by cases l;simp at hn;rfl
   exact⟨by rw[if_pos zd,this];rfl,by rw[if_neg zd,if_pos zd,hn];rfl⟩
  ·have:l.isEmpty=false:=by cases l;simp at hn;rfl
   exact⟨by rw[if_pos zd,this];rfl,by rw[if_neg zd,if_pos zd,hn];rfl⟩
  ·have:l.isEmpty=false:=by cases l;simp at hn;rfl
   exact⟨by rw[if_pos zd,this];rfl,by rw[if_neg zd,if_pos zd,hn];rfl⟩
  exact⟨by rw[if_neg zd];exact hl.2 hn,by rw[if_neg zd,if_neg zd]⟩
theorem qw:∀(l:List Nd),eJ l=true->jO l=true/\bR l=true
 |[],_=>⟨rfl,rfl⟩
 |t::r,h=>by
  rw[eJ,J0]at h
  obtain⟨a1,a2⟩:=um t true h.1
  obtain⟨b1,b2⟩:=qw r h.2
  unfold jO bR
  rw[a1,a2,b1,b2]
  exact⟨rfl,rfl⟩
end
theorem fO{t:Nd}(h:bj t=true):zA t=true/\fG t=true/\nsz t<=2000:=by
 unfold bj at h;simp only[J0,decide_eq_true_eq]at h;obtain⟨h1,h2⟩:=um t false h.2;exact⟨h1,h2,h.1⟩
theorem jH:∀ {l:List Nd},(∀t∈l,bj t=true)->jO l=true/\bR l=true
 |[],_=>⟨rfl,rfl⟩
 |t::r,h=>by
  obtain⟨a1,a2,_⟩:=fO (h t (by simp));obtain⟨b1,b2⟩:=jH (l:=r) fun x hx=>h x (by simp[hx])
  unfold jO bR;rw[a1,a2,b1,b2];exact⟨rfl,rfl⟩
theorem yC:∀(xs:List Nd) (i:Nat) (g:Gr),WF g->0<g.ks.length->(∀k,g.en k<=i)->∀k,(bY xs i g).en k<=i+xs.length
 |[],i,g,_,_,h,k=>by have:=h k;show g.en k<=_;omega
 |x::r,i,g,hw,h0,h,k=>by
  obtain⟨h1,h2,h3⟩:=lL hw h0 x i
  have:=yC r (i+1) (mZ x i g) h1 zo (fun q=>by
   rw[rF hw h0]
   split
   ·omega
   split
   ·have:=h q;omega
   omega) k
  simp only[JF];show(bY r (i+1) (mZ x i g)).en k<=_;omega
theorem A9(xs:List Nd)(k:Nat):(jZ xs).en k<=xs.length:=by
 have:=yC xs 0 g00 qs zd (fun q=>by
  unfold Nj g00
  by_cases e:q=0
  ·subst e;rw[ar];exact GT _
  rw[eS (by simp;omega)];exact GT _) k
 rw[KG]at this;exact this
theorem FU(xs:List Nd):Tot (jZ xs):=uF xs 0 g00 qs zd (by simp[Tot,vh,g00])
theorem qe{xs:List Nd}(h1:jO xs=true)(h2:bR xs=true):(jZ xs).ls.length=bh xs:=by
 have:=mC xs 0 g00 h1 h2;unfold jZ;rw[this];simp[g00]
theorem Bd.mark{g:Gr}{M:Nat}(h:Bd g M){a e:Nat}(ha:a<g.ks.length):Bd (g.mark a e) M:=⟨by rw[cz];exact h.ks,h.ls,fun k=>by rw[nY ha];exact h.fr k,fun k=>by rw[nX ha];exact h.lv k⟩
theorem FQ{g:Gr}(h:WF g)(h0:0<g.ks.length)(x:Nd)(i:Nat){M:Nat}(hM:Bd g M):Bd (mZ x i g) (M+3+(9*nsz x-1)):=by
 have e1:=aG g;have e2:=cz g.knot g.ks.length (i+1);have e3:=aG (g.knot.mark g.ks.length (i+1));have hl:=dU g i;exact gz x _ _ _ _ (eO h h0 i).1 zo zo (((hM.knot.mark zo).knot).free zo)
theorem zT{xs:List Nd}{q:Nat}{g:Gr}(h:q<xs.length):bY (xs.drop q) q g=bY (xs.drop (q+1)) (q+1) (mZ (nth xs q) q g):=by
 rw[jQ h,bY]
theorem GW:Bd g00 1:=by
 refine⟨zd,zd,fun k=>?_,fun k=>?_⟩
 ·unfold MW g00
  by_cases e:k=0
  ·subst e;rw[ar];decide
  rw[eS (by simp;omega)];decide
 unfold Ms g00
 by_cases e:k=0
 ·subst e;rw[ar];decide
 rw[eS (by simp;omega)];decide
def dP(ts:List Nd):Int:=if 40<ts.length then 3 else if ts.any (fun t=>!bj t)=true then 1 else if 1000<1+bh ts then 7 else 0
theorem C8(t:Nd)(x:N3)(w:ka)(h:Nt (fun _=>0) w t x):L6 Js 102 [nv x] w fun v w'=>v=.bool (!bj t)/\Kz w w':=by
 have hx:=h.ones;have a3:=h.one;refine J1 func102 ntmps102 rfl rfl ?_;refine zh ?_;refine aE (au w) 1 zo rfl rfl ?_;intro xb w1 O1 a1 a4 a5 a0;refine zh ?_;refine zv (ai (us:=aY x) a1.cellsAdd (JD _) (J5 _) rfl) ?_;refine zc call99 (fN t x w1 (h.ext a0)) ?_;rintro v w2 ⟨rfl,a2⟩;refine zh ?_;refine ae rfl rfl (⟨rfl,a0.trans a2⟩)
def Bb(nb:Nat)(e:Int):ix:=.pointer (if e=0 then some ⟨nb,0,none⟩else none)
theorem FV(se:Bool)(ts:List Nd)(xs:List N3)(sv:ix)(w:ka)(hs:Sl aY 3 w sv xs)(hl:ts.length=xs.length)(hk:∀i,i<xs.length->Nt (fun _=>0) w (nth ts i) (nth xs i)):
  L6 Js 62 [.bool se,sv] w fun v w'=>∃nb,v=.tuple #[Bb nb (dP ts),nI (dP ts)]/\Kz w w'/\(dP ts=0->NfD w' nb se (jZ ts)):=by
 refine J1 func62 ntmps62 rfl rfl ?_;refine zh ?_
 by_cases g4:40<ts.length
 ·have hM:dP ts=3:=by unfold dP;rw[if_pos g4]
  rw[hM];refine zTH rfl ((decide_eq_true zo)) ?_;refine bQ rfl rfl rfl (⟨0,rfl,IJ _,fun h=>by cases h⟩)
 have hq:∀i,i<xs.length->∀w',Kz w w'->L6 Js 102 ([nv (nth xs i)]++(#[]:Array ix).toList) w' fun v w''=>v=.bool (!bj (nth ts i))/\Kz w' w'':=fun i hi w' hE=>C8 _ _ w' ((hk i hi).ext hE)
 have j2:jc (fun i=>!bj (nth ts i)) xs.length=ts.any (fun t=>!bj t):=by rw[<-hl];exact iG (p:=fun t=>!bj t)
 refine zFH rfl ((decide_eq_false zo)) ?_;refine zc call101 (cW call102 #[] xs sv (fun i=>!bj (nth ts i)) w hs hq) ?_
 rw[j2];rintro v w1 ⟨rfl,k1⟩;refine zh ?_
 cases b0:ts.any (fun t=>!bj t)with
 |true=>
  have hM:dP ts=1:=by unfold dP;rw[if_neg g4,if_pos b0]
  rw[hM];refine zTH rfl rfl ?_;refine bQ rfl rfl rfl (⟨0,rfl,k1,fun h=>by cases h⟩)
 |false=>
  have a6:∀t∈ts,bj t=true:=fun t ht=>by
   have:=List.any_eq_false.1 b0 t ht;simpa using this
  obtain⟨e6,b7⟩:=jH a6;have hR:∀q,q<ts.length->bj (nth ts q)=true:=fun q hq=>a6 _ (aO hq)
  have p0:=hs.ext k1;refine zFH rfl rfl ?_;refine zlp (fun z:Nat×ka=>[(0,.bool se),(1,sv),(6,nI ((1+bh (ts.take z.1):Nat):Int)),(23,sv),(24,nI xs.length),(25,nI z.1)]) (fun z=>z.2) (fun z=>z.1<=ts.length/\Kz w z.2/\bh (ts.take z.1)<=z.1*2000) (fun z=>ts.length-z.1) (0,w1) (⟨Gv _,k1,by simp[bh]⟩) ?_;rintro⟨q,w2⟩ ⟨m',b5,l0⟩;dsimp only at m' b5 l0 ⊢;have k9:=hs.ext b5;refine zh ?_;refine zC ?_ ?_
  ·intro a0;replace a0:q<ts.length:=dT a0;have a7:=(hk q zo).ext b5;have i6:=a7.one;have p3:=lQ (nth ts q);have m7:=(fO (hR q a0)).2.2;have m6:=ir ts q a0;refine zh ?_;refine zv (ai (us:=aY (nth xs q)) (fun j u hu=>k9.cell zo hu) (JD _) (J5 _) rfl) ?_;refine ax (au w2) 1 zo (KB _) rfl ?_;intro yb w3 O3 j1 j4 l6 p4;refine zsb (us:=#[nI (nth xs q).1,nI (nth xs q).2.1,(nth xs q).2.2]) j1 (J5 _) (cn i6) ?_;have l8:Kz w2 (w3.setRow yb #[nI (nth xs q).1,nI (nth xs q).2.1,(nth xs q).2.2]):=(j4.trans (Jp zd j1.tag rfl)).ext;have o0:=j1.setRow (us:=#[nI (nth xs q).1,nI (nth xs q).2.1,(nth xs q).2.2]);generalize w3.setRow yb #[nI (nth xs q).1,nI (nth xs q).2.1,(nth xs q).2.2]=w4 at *;refine zh ?_;refine zv (ai (us:=aY (nth xs q)) o0.cellsAdd (JD _) (J5 _) rfl) ?_;refine zc call103 (qj (nsz (nth ts q)) zo (nth ts q) (GT _) (nth xs q) w4 (a7.ext l8)) ?_;rintro v w5 ⟨rfl,l7⟩;refine zh ?_;rw[show((1+bh (ts.take q):Nat):Int)+((dh (nth ts q):Nat):Int)=((1+bh (ts.take (q+1)):Nat):Int)from by rw[m6];omega];refine zxd (q+1,w5) (⟨a0,(b5.trans l8).trans l7,by dsimp only;omega⟩)
  intro i8;obtain rfl:q=ts.length:=dF i8;rw[Jo]at l0 ⊢;refine zh ?_
  by_cases e9:1000<1+bh ts
  ·have hM:dP ts=7:=by unfold dP;rw[if_neg g4,if_neg (by rw[b0];decide),if_pos e9]
   rw[hM];refine zTH rfl ((decide_eq_true zo)) ?_;refine bQ rfl rfl rfl (⟨0,rfl,b5,fun h=>by cases h⟩)
  have hM:dP ts=0:=by unfold dP;rw[if_neg g4,if_neg (by rw[b0];decide),if_neg e9]
  rw[hM];refine zFH rfl ((decide_eq_false zo)) ?_;refine bq kvI id (au w2) 1 zd rfl ?_;intro nr w3 O3 n4 j4 l6;refine bq kvI tvU l6 2 zd rfl ?_;intro tr w4 O4 n3 l4 o4;have h':=n4.upd l4 zd zd;refine zv (aF IA (zeroValue185 _) rfl (by first|rfl|(simp only[Jv,JH];rfl)) rfl rfl) ?_;refine aE o4 3 zo rfl rfl ?_;intro nb w5 O5 n' j3 o3 l7;have i5:=h'.upd j3 zd zd;have i2:=n3.upd j3 zd zd;have f6:J4 (fun q=>1<=q) (fun _=>0) w2 O5 w5:=((j4.mono (fun _ h=>zo) zo).trans (l4.mono (fun _ h=>zo) zo)).trans (j3.mono (fun _ h=>zo) zo);have h5:NfO O5 w5 3 nb se ⟨[],[]⟩ (.map (some nr)) (.map (some tr)) (nS) (nS) []:=⟨n',JC _ _ _ _ _ _,⟨JC _ _ _ _ _ _,rfl,fun k hk=>absurd hk (Gb k),fun k hk=>absurd hk (Gb k),fun k hk=>absurd hk (Gb k)⟩⟩
  refine zh ?_;refine zc Lh (iZ w2.heap.size O5 w5 3 nb se ⟨[],[]⟩ _ _ _ _ _ zd o3 h5 zd) ?_
  rintro _ w6 ⟨rfl,O6,m0,m2,l9,o1,o2,h6⟩;have o':=k9.ext f6.ext;refine zh ?_;refine zvH (aM hs.sh M1 rfl) ?_;refine zlp (fun z:Nat×(Nat->Nat)×World×Gr×ix×ix×List K3=>[(9,nP nb),(43,sv),(44,nI xs.length),(45,nI z.1)]) (fun z=>z.2.2.1) (fun z=>z.1<=ts.length/\J4 (fun q=>3<=q) O5 w5 z.2.1 z.2.2.1/\Kx w2.heap.size z.2.1 z.2.2.1/\NfO z.2.1 z.2.2.1 3 nb se z.2.2.2.1 (.map (some nr)) (.map (some tr)) z.2.2.2.2.1 z.2.2.2.2.2.1 z.2.2.2.2.2.2/\WF z.2.2.2.1/\0<z.2.2.2.1.ks.length/\Bd z.2.2.2.1 (1+z.1*18010)/\bY ts 0 g00=bY (ts.drop z.1) z.1 z.2.2.2.1) (fun z=>ts.length-z.1) (0,O6,w6,g00,m0,m2,l9) (⟨Gv _,o1,o2,h6,qs,(show 0<g00.ks.length by decide),(show Bd g00 (1+0*18010)from GW),rfl⟩) ?_;rintro⟨q,O7,w7,g,g1,g9,g5⟩ ⟨m9,f5,c9,h7,b6,f9,f3,b3⟩;dsimp only at m9 f5 c9 h7 b6 f9 f3 b3 ⊢;have c7:=f6.trans (f5.mono (S':=fun q=>1<=q) (fun q h=>zo) zo);have k2:=b5.trans c7.ext;refine zh ?_;refine zC ?_ ?_
  ·intro a0;replace a0:q<ts.length:=dT a0;rw[zT a0]at b3;have m8:=hs.ext k2;have a7:Nt O7 w7 (nth ts q) (nth xs q):=((hk q zo).ext b5).upd c7;have i6:=a7.one;have m7:=(fO (hR q a0)).2.2;have h3:=(fO (hR q a0)).2.1;obtain⟨T,j7,hT⟩:=c9.bound;refine zh ?_;refine zv (ai (us:=aY (nth xs q)) (fun j u hu=>m8.cell zo hu) (JD _) (J5 _) rfl) ?_;refine ax c9 T zo (KB _) rfl ?_;intro yb w8 O8 g2 d2 l5 o5;refine zh ?_;refine zsb (us:=#[nI (nth xs q).1,nI (nth xs q).2.1,(nth xs q).2.2]) g2 (J5 _) (cn i6) ?_;have f4:J4 (fun j=>j=T) O8 w8 O8 (w8.setRow yb #[nI (nth xs q).1,nI (nth xs q).2.1,(nth xs q).2.2]):=Jp zo g2.tag rfl;obtain⟨g3,n7⟩:=Gt j7 hT d2 f4 (g2.setRow (us:=#[nI (nth xs q).1,nI (nth xs q).2.1,(nth xs q).2.2]));generalize w8.setRow yb #[nI (nth xs q).1,nI (nth xs q).2.1,(nth xs q).2.2]=w9 at *;clear g2 d2 l5 o5 f4;have h9:=h7.ext g3 zd;have f8:=c9.ext g3;have c6:J4 (fun q=>3<=q) O7 w7 O7 w9:=aa zo O7 g3;have e7:=a7.ext g3;have n6:=f3.ks;have e1:=aG g;refine zh ?_;refine zc Lh (iZ w2.heap.size O7 w9 3 nb se g _ _ _ _ _ zd f8 h9 zo) ?_;rintro _ g0 ⟨rfl,O10,g8,h0,a5,b2,d0,a'⟩;have m4:=a'.ks.len;have d7:g.ks.length<a5.length:=zo;have c2:=a'.c2;refine zh ?_;rw[show((q:Nat):Int)+1=((q+1:Nat):Int)from by omega];refine zvH (ah a'.ks.row.sl.sh Jz (Kc _) rfl rfl g.ks.length rfl d7) ?_
   refine oS a'.ks.row g.ks.length d7 2 zd (((nth a5 g.ks.length).1,(nth a5 g.ks.length).2.1,q+1):K3) (K8 _) rfl zo rfl rfl rfl rfl ?_;intro d4 b8 a4;have e2:=cz g.knot g.ks.length (q+1);have k5:NfO O10 d4 3 nb se (g.knot.mark g.ks.length (q+1)) (.map (some nr)) (.map (some tr)) g8 h0 (a5.set g.ks.length ((nth a5 g.ks.length).1,(nth a5 g.ks.length).2.1,q+1)):=by
    refine⟨a'.blk.upd a4 zd zd,a'.ls.upd a4 zd zd,⟨b8,by rw[Gh];omega,fun k hk=>?_,fun k hk=>?_,fun k hk=>?_⟩⟩
    ·rw[Gh]at hk;rw[aT d7,nY zo]
     split
     ·rename_i e;subst e;exact(a'.ks.fr _ hk).upd a4 zo zo
     exact(a'.ks.fr k hk).upd a4 zo zo
    ·rw[Gh]at hk;rw[aT d7,nX zo]
     split
     ·rename_i e;subst e;exact(a'.ks.lv _ hk).upd a4 zo zo
     exact(a'.ks.lv k hk).upd a4 zo zo
    rw[Gh]at hk;rw[aT d7,Bk zo]
    split
    ·rfl
    exact a'.ks.en k hk
   have c':=d0.upd a4;have f7:=Upd.hi a4 (i:=3) zd zd;refine zh ?_;refine zc Lh (iZ w2.heap.size O10 d4 3 nb se (g.knot.mark g.ks.length (q+1)) _ _ _ _ _ zd c' k5 zo) ?_;rintro _ f' ⟨rfl,O12,m1,m3,l',c8,j',o8⟩;have e3:=aG (g.knot.mark g.ks.length (q+1));rw[show((g.knot.mark g.ks.length (q+1)).ks.length:Nat)=g.ks.length+1 from by omega];have b4:=(f3.knot.mark (a:=g.ks.length) (e:=q+1) zo).knot;refine zh ?_;refine zc KT (gA w2.heap.size O12 f' 3 nb se (g.knot.mark g.ks.length (q+1)).knot _ _ _ _ _ 0 (g.ks.length+1) zd j' o8 zo (by have:=b4.fr 0;omega) zo) ?_;rintro _ k7 ⟨O13,g7,g',g6,j6,j9,o7⟩;have k4:NfO O13 k7 3 nb se (dw g q) (.map (some nr)) (.map (some tr)) g7 g' g6:=o7;obtain⟨m5,k8⟩:=eO b6 f9 q;have o9:=dU g q;have n8:Bd (dw g q) (1+q*18010+3):=b4.free zo;have a8:=((b2.trans f7).trans c8).trans j6;refine zh ?_;refine zvH (ai (us:=aY (nth xs q)) (fun j u hu=>((n7 j u hu).upd a8).c) (JD _) (J5 _) rfl) ?_;refine zc M4 (Br (nsz (nth ts q)) (nth ts q) (GT _) w2.heap.size O13 k7 3 nb se (dw g q) _ _ _ _ _ (g.ks.length+1) g.ks.length (nth xs q) (1+q*18010+3) zd j9 k4 m5 zo zo n8 zo h3 (e7.upd a8)) ?_;rintro _ k6 ⟨O14,d5,d6,d3,j5,j8,o6⟩;have k3:NfO O14 k6 3 nb se (mZ (nth ts q) q g) (.map (some nr)) (.map (some tr)) d5 d6 d3:=o6;obtain⟨n2,p2,p1⟩:=lL b6 f9 (nth ts q) q;have n1:=FQ b6 f9 (nth ts q) q f3;refine zh ?_
   refine zxd (q+1,O14,k6,mZ (nth ts q) q g,d5,d6,d3) (⟨a0,((f5.trans c6).trans a8).trans j5,j8,k3,n2,by dsimp only;omega,n1.mono (by dsimp only;omega),b3⟩)
  intro i8;obtain rfl:q=ts.length:=dF i8;rw[List.drop_length,bY]at b3;have b3:jZ ts=g:=b3;have i4:=i5.upd f5 zd zd;have i1:=i2.upd f5 zd zd;have l3:∀k,g.en k<=40:=fun k=>by rw[<-b3];have:=A9 ts k;omega
  have n5:=qe e6 b7;rw[b3]at n5 ⊢;have e':Bd g 1000000:=f3.mono zo;refine zh ?_;refine zc call107 (yn w2.heap.size O7 w7 3 nb se g nr tr g1 g9 g5 [] [] 0 0 1000000 zd c9 h7 i4 i1 b6 f9 e' zd l3) ?_;rintro _ w8 ⟨v0,d2,i3,i0,h2,i9⟩;have h8:=h7.upd d2 zd zo;have l5:=c9.upd d2;have c1:=h8.c1;have n0:g.pl 0=0:=rfl;refine zh ?_;refine zvH (aM h8.ls.sl.sh Km rfl) ?_;refine zlp (fun z:Nat×ka×List (Int×ix)×List (Int×Nat)=>[(9,nP nb),(77,g1),(78,nI g.ls.length),(79,nI z.1)]) (fun z=>z.2.1) (fun z=>z.1<=g.ls.length/\J4 (fun q=>q=1\/q=2) O7 w7 O7 z.2.1/\JS kvI id O7 z.2.1 1 nr z.2.2.1/\JS kvI tvU O7 z.2.1 2 tr z.2.2.2/\(∀p:Nat,p<=z.1->∃v,bx z.2.2.1 (p:Int)=some v/\Sl aX 1 z.2.1 v (cO g p)/\Lq O7 z.2.1 v)/\(∀p:Nat,p<=z.1->bx z.2.2.2 (p:Int)=some (jD g p))) (fun z=>g.ls.length-z.1) (0,w8,cJ [] 0 v0,cJ [] 0 ((fj g 0).foldl (fq g) 0)) (⟨Gv _,d2,i3,i0,fun p hp=>⟨v0,by obtain rfl:p=0:=LF.1 hp;rfl,by obtain rfl:p=0:=LF.1 hp;exact h2,i9⟩,fun p hp=>by obtain rfl:p=0:=LF.1 hp;rfl⟩) ?_;rintro⟨j,w9,l1,l2⟩ ⟨hj,c6,b',b9,h4,h1⟩;dsimp only at hj c6 b' b9 h4 h1 ⊢;have h9:=h7.upd c6 zd zo;have f8:=c9.upd c6;have e5:=h9.ls.sl;refine zh ?_;refine zC ?_ ?_
  ·intro a0;replace a0:j<g.ls.length:=dT a0;have n9:=b6.ls j a0;obtain⟨T,j7,hT⟩:=f8.bound;refine zh ?_;refine zv (Kp e5 Km (L0 _) rfl rfl j rfl a0) ?_;refine zv (ai (us:=rZ (nth g.ls j)) (fun q u hu=>e5.cell a0 hu) (isAgg190 _) (L0 _) rfl) ?_;refine ax f8 T zo (Na _) rfl ?_;intro yb g0 O10 b1 b2 d0 k0;refine zh ?_;refine zsa (us:=(rZ (nth g.ls j)).toArray) b1 (L0 _) ?_;have f4:J4 (fun j=>j=T) O10 g0 O10 (g0.setRow yb (rZ (nth g.ls j)).toArray):=Jp zo b1.tag rfl;obtain⟨d1,j0⟩:=Gt j7 hT b2 f4 (b1.setRow (us:=(rZ (nth g.ls j)).toArray));generalize g0.setRow yb (rZ (nth g.ls j)).toArray=d4 at *;clear b1 b2 d0 k0 f4;have c5:J4 (fun _=>False) O7 w9 O7 d4:=aa (fun h=>h) O7 d1;have k5:=h9.ext d1 zd;have c':=f8.ext d1;have e4:=b'.upd c5 zd fun h=>h
   have d':=b9.upd c5 zd fun h=>h
   have p5:=(j0 2 _ rfl).c;refine zh ?_;refine zc call107 (yn w2.heap.size O7 d4 3 nb se g nr tr g1 g9 g5 l1 l2 ((j:Nat)+1) (nth g.ls j).2.2 1000000 zd c' k5 e4 d' b6 n9 e' zd l3) ?_;rintro _ f' ⟨v1,c8,e0,d9,d8,e8⟩;have a9:J4 (fun q=>q=1\/q=2) O7 w9 O7 f':=(c5.mono (fun _ h=>h.elim) zo).trans c8;have k':g.pl (j+1)=(nth g.ls j).2.2:=by unfold Gr.pl;rw[if_neg zo];rfl
   refine zh ?_;refine zxd (j+1,f',cJ l1 ((j:Nat)+1) v1,cJ l2 ((j:Nat)+1) ((fj g (nth g.ls j).2.2).foldl (fq g) 0)) (⟨a0,c6.trans a9,e0,d9,fun p hp=>?_,fun p hp=>?_⟩)
   ·dsimp only at hp ⊢;rw[bf]
    by_cases e:p=j+1
    ·subst e;exact⟨v1,by rw[if_pos zo],by unfold cO;rw[k'];exact d8,e8⟩
    obtain⟨v,a1,a2,a3⟩:=h4 p zo;exact⟨v,by rw[if_neg zo];exact a1,a2.upd a3 a9,a3.upd a9⟩
   dsimp only at hp ⊢;rw[bf]
   by_cases e:p=j+1
   ·subst e;rw[if_pos zo];unfold jD;rw[k']
   rw[if_neg zo];exact h1 p zo
  intro i7;obtain rfl:j=g.ls.length:=dF i7;refine zh ?_;refine bQ rfl rfl rfl (⟨nb,rfl,b5.trans (c7.trans (c6.mono (S':=fun q=>1<=q) (fun q h=>zo) zo)).ext,fun _=>⟨nr,tr,g1,g9,g5,l1,l2,h9.r,b'.fgt (i':=0) rfl,b9.fgt (i':=0) rfl,fun p hp=>by obtain⟨v,a1,a2,_⟩:=h4 p hp;exact⟨v,a1,a2⟩,h1⟩⟩)
abbrev B3(b:UInt8):List ix:=[.int .u8 (b.toNat:Int)]
theorem I8:Mu Js 200 5 1 1:=⟨Ly,by kernel_rfl,zd⟩
theorem D9:Mu Js 50 22 1 24:=⟨Jw,by kernel_rfl,zd⟩
theorem mS:Mu Js 31 28 1 8:=⟨underlying31,by kernel_rfl,zd⟩
theorem qR(n:Nat):Nu.wrap (n:Int)=((JU (n % 256)).toNat:Int):=by
 rw[Ns];simp only[LB];omega
theorem zK(s:List Int)(sv:ix)(w:ka)(h:Sl encI 1 w sv s)(ho:okS s)(hl:s.length<=100000):L6 Js 143 [sv] w fun v w'=>v=.string (bs (uW s))/\Kz w w':=by
 refine J1 func143 ntmps143 rfl rfl ?_;refine zh ?_
 refine zlp (fun z:Nat×ix×(Nat->Nat)×World=>[(3,z.2.1),(6,sv),(7,nI s.length),(8,nI z.1)]) (fun z=>z.2.2.2) (fun z=>z.1<=s.length/\Jy B3 5 1 z.2.2.1 z.2.2.2 1 z.2.1 (uW (s.take z.1))/\(uW (s.take z.1)).length=2*z.1/\J4 (fun q=>q=1) (fun _=>0) w z.2.2.1 z.2.2.2/\Kx w.heap.size z.2.2.1 z.2.2.2) (fun z=>s.length-z.1) (0,nS,fun _=>0,w) (⟨Gv _,JC _ _ _ _ _ _,rfl,JP zd _ _,au w⟩) ?_;rintro⟨q,v1,O1,w1⟩ ⟨hq,a0,a4,hU,hR⟩;dsimp only at hq a0 a4 hU hR ⊢;have h1:=h.ext hU.ext;refine zh ?_
 refine zC ?_ ?_
 ·intro a1;replace a1:q<s.length:=dT a1;have a7:=ho _ (aO a1);obtain⟨p,hp⟩:∃p:Nat,nth s q=(p:Int):=⟨(nth s q).toNat,zo⟩
  have b1:p<=999:=by have:=a7.2;rw[hp]at this;simpa using this
  have m1:w1.cell? (adr sv 1 q)=some (nI (nth s q)):=by have:=h1.cell (j:=0) a1 rfl;rwa[ao]at this
  rw[hp]at m1;have a3:uW (s.take (q+1))=uW (s.take q)++[JU (p / 256),JU (p % 256)]:=by
   unfold uW;rw[aR a1,LL,hp];simp
  refine zh ?_;refine zv (iM (a:=p) (b:=8) rfl rfl rfl rfl zd) ?_
  refine zvH (ns Kj L4 rfl) ?_;refine zv (ns Kj L4 rfl) ?_
  rw[qR p,qR (p / 2^8),show p / 2^8 % 256=p / 256 from by omega];refine gb Ly (sizeOf5 _) (Nl _) B3 [JU (p / 256),JU (p % 256)] rfl rfl rfl rfl zk (by simp) rfl ?_;intro bv w2 a9 a6;have a5:J4 (fun _=>False) O1 w1 O1 w2:=aa (fun h=>h) O1 a6;refine aC I8 (a0.upd a5 zd fun h=>h) (hR.ext a6) a9 (by simp) rfl rfl (by simp) (by simp[GY]) (by simp;omega) (by simp;omega) zd rfl ?_;intro v3 w3 O3 a2 a' b0;refine zh ?_;refine zxd (q+1,v3,O3,w3) (⟨a1,by dsimp only;rw[a3];exact a2,by dsimp only;rw[a3];simp[a4];omega,(hU.trans (a5.mono (fun _ h=>h.elim) zd)).trans a',b0⟩)
 intro a8;obtain rfl:q=s.length:=dF a8;rw[Jo]at a0;refine zh ?_;refine zvH (yL a0.sl Ly L4 Mj rfl) ?_;refine ae rfl rfl (⟨rfl,hU.ext⟩)
theorem Iw:cV Js 194 #[(0,1),(1,1),(2,1)]:=⟨_,underlying194,fun w=>by kernel_rfl⟩
theorem Gu:cV Js 86 #[(0,1),(1,1)]:=⟨_,underlying86,fun w=>by kernel_rfl⟩
theorem ue:MQ Js 9 Lc:=DS Mj
abbrev xg(v:ix):List ix:=[v]
structure MkO(O:Nat->Nat)(w:ka)(i mb nb kr:Nat)(sv:ix)(vs:List ix)(S:List (List Int))(l:List (ByteArray×Int)):Prop where
 blk:Ls O w i mb #[nP nb,.map (some kr),sv] 194
 map:JS Lc kvI O w (i+1) kr l
 row:Jy xg 22 1 O w (i+2) sv vs
 len:vs.length=S.length
 at_:∀k,k<S.length->Sl encI 1 w (nth vs k) (nth S k)/\Lq O w (nth vs k)
 ok:∀s∈S,okS s
 key:∀s,okS s->bx l (bs (uW s))=(CI S s).map fun(k:Nat)=>(k:Int)
theorem MkO.upd{T:Nat->Prop}{O O':Nat->Nat}{w w':ka}{i mb nb kr:Nat}{sv:ix}{vs:List ix}{S:List (List Int)}{l:List (ByteArray×Int)}(h:MkO O w i mb nb kr sv vs S l)(u:J4 T O w O' w')(hi:i≠0)(h1:¬T i)(h2:¬T (i+1))(h3:¬T (i+2)):MkO O' w' i mb nb kr sv vs S l:=
 ⟨h.blk.upd u hi h1,h.map.upd u zo h2,h.row.upd u zo h3,h.len,fun k hk=>⟨(h.at_ k hk).1.upd (h.at_ k hk).2 u,(h.at_ k hk).2.upd u⟩,h.ok,h.key⟩
theorem BC{S:List (List Int)}{s t:List Int}(h:CI S s=none):CI (S++[s]) t=if s=t then some S.length else CI S t:=by
 unfold CI at h ⊢;rw[List.findIdx?_append]
 by_cases e:s=t
 ·subst e;rw[h,if_pos rfl];simp[K7]
 rw[if_neg e]
 cases hq:S.findIdx? (· == t)with
 |some k=>simp
 |none=>simp[K7,e]
theorem mA(B:Nat)(O:Nat->Nat)(w:ka)(i mb nb kr:Nat)(mv:ix)(vs:List ix)(S:List (List Int))(l:List (ByteArray×Int))(s:List Int)(sv:ix)(hi:i≠0)(hR:Kx B O w)(h:MkO O w i mb nb kr mv vs S l)(hs:Sl encI 1 w sv s)(hf:Lq O w sv)(ho:okS s)(b8:s.length<=100000)(d1:S.length<=100000):
  L6 Js 108 [nP mb,sv] w fun v w'=>∃O' mv' vs' l',v=nI ((CG S s:Nat):Int)/\J4 (fun q=>i<=q/\q<=i+2) O w O' w'/\Kx B O' w'/\MkO O' w' i mb nb kr mv' vs' (rH S s) l':=by
 have hz:¬(fun q=>i<=q/\q<=i+2) 0:=zo;have b9:=hs.shape;obtain⟨sa,sc,rfl,_⟩:=b9;refine J1 func108 ntmps108 rfl rfl ?_;refine zh ?_;refine zc call143 (zK s _ w hs ho b8) ?_;rintro _ w1 ⟨rfl,b7⟩;have a':J4 (fun _=>False) O w O w1:=aa (fun h=>h) O b7;have h1:=h.upd a' hi (fun h=>h) (fun h=>h) fun h=>h
 have b6:=hR.upd a';have b3:=hs.ext b7;have a9:=hf.upd a';have a4:=h.key s ho;have a7:J4 (fun q=>i<=q/\q<=i+2) O w O w1:=a'.mono (fun _ h=>h.elim) hz;have c1:w1.cell? (nA mb 1)=some (.map (some kr)):=h1.blk.cell 1 rfl;have c2:w1.cell? (nA mb 2)=some mv:=h1.blk.cell 2 rfl;refine zh ?_
 cases a0:CI S s with
 |some k=>
  rw[a0]at a4;have hn:CG S s=k:=by unfold CG;rw[a0];rfl
  have hS:rH S s=S:=by unfold rH;rw[a0];rfl
  rw[hn,hS];refine zvH (cS (u:=.tuple #[kvI (k:Int),.bool true]) h1.map Lz ue (KO _) (bs (uW s)) rfl rfl rfl (by rw[a4];rfl)) ?_;refine zFH rfl rfl ?_;refine ae rfl rfl (⟨O,mv,vs,l,rfl,a7,b6,h1⟩)
 |none=>
  rw[a0]at a4;have hn:CG S s=S.length:=by unfold CG;rw[a0];rfl
  have hS:rH S s=S++[s]:=by unfold rH;rw[a0];rfl
  rw[hn,hS];have a8:=h.len;refine zvH (cS (u:=.tuple #[kvI 0,.bool false]) h1.map Lz ue (KO _) (bs (uW s)) rfl rfl rfl (by rw[a4];rfl)) ?_;refine zTH rfl rfl ?_;refine zvH (aM h1.row.sl.sh Jw rfl) ?_;refine WL.mapUpdate h1.map Lz ue zo (bs (uW s)) (vs.length:Int) rfl rfl rfl rfl rfl ?_;intro w2 c6 a6;have b5:=h1.blk.upd a6 hi zo;have b':=h1.row.upd a6 zo zo;have c9:=b6.upd a6;have c':=b3.upd a9 a6;have d0:=a9.upd a6;have d2:w2.cell? (nA mb 2)=some mv:=b5.cell 2 rfl;refine zh ?_;refine Lt D9 b' c9 ((.slice sa s.length sc:ix)) (fun _=>rfl) rfl rfl rfl (by simp[GY]) zo zo zo zd rfl rfl ?_;intro a5 w3 O3 b4 b2 c8;have b1:=b5.upd b2 hi zo;have c5:=c6.upd b2 zo zo;refine zh ?_;refine ak (j:=2) b1 rfl (MU _) b4.one rfl rfl rfl ?_;have b0:J4 (fun q=>q=i) O3 w3 O3 (w3.setCell ⟨mb,2,none⟩ a5):=Kd (fun e=>hi e.symm) b1.tag rfl;have c7:Ls O3 (w3.setCell ⟨mb,2,none⟩ a5) i mb #[nP nb,.map (some kr),a5] 194:=b1.set 2 a5;have a3:J4 (fun q=>i<=q/\q<=i+2) O w1 O3 (w3.setCell ⟨mb,2,none⟩ a5):=((a6.mono (fun q h=>zo) hz).trans (b2.mono (fun q h=>zo) hz)).trans (b0.mono (fun q h=>zo) hz);refine zh ?_;refine ae rfl rfl (⟨O3,a5,vs++[.slice sa s.length sc],cJ l (bs (uW s)) (vs.length:Int),by rw[a8],a7.trans a3,(c8.upd b0),⟨c7,c5.upd b0 zo zo,b4.upd b0 zo zo,by simp[a8],fun k hk=>?_,fun t ht=>?_,fun t ht=>?_⟩⟩)
  ·rw[aA,aA,a8]
   by_cases e:k<S.length
   ·rw[if_pos e,if_pos e];obtain⟨a1,a2⟩:=h1.at_ k e;exact⟨a1.upd a2 a3,a2.upd a3⟩
   rw[if_neg e,if_neg e];simp only[I4,JF,JM]at hk;rw[show k-S.length=0 from by omega,ar,ar];exact⟨b3.upd a9 a3,a9.upd a3⟩
  ·rcases JK.1 ht with ht|ht
   ·exact h.ok t ht
   rw[ln.1 ht];exact ho
  rw[bf,BC a0]
  by_cases e:s=t
  ·subst e;rw[if_pos rfl,if_pos rfl,a8];rfl
  rw[if_neg (fun e2=>e (yo ho ht (Fa e2))),if_neg e];exact h.key t ht
theorem CU{r:List Nat}{m N x:Nat}(hr:r.length=m)(hm:m<N):(r++J6 (N-m) 0).set m x=(r++[x])++J6 (N-(m+1)) 0:=by
 obtain⟨k,hk⟩:∃k,N-m=k+1:=⟨N-m-1,zo⟩
 rw[show N-(m+1)=k from by omega,hk,Ll _ _ zo,hr,K1,LK,LY,Jt];rfl
theorem Free.lowT{O:Nat->Nat}{w:ka}{v:ix}(h:Lq O w v)(T:Nat):Lq (LN O T) w v:=fun a n c e hn=>⟨kG (h a n c e hn).1,(h a n c e hn).2⟩
theorem MkO.lowT{O:Nat->Nat}{w:ka}{i mb nb kr:Nat}{sv:ix}{vs:List ix}{S:List (List Int)}{l:List (ByteArray×Int)}(h:MkO O w i mb nb kr sv vs S l){T:Nat}(hT:i+2<T):MkO (LN O T) w i mb nb kr sv vs S l:=
 ⟨h.blk.lowT zo,h.map.fgt (by unfold LN;rw[h.map.tag,if_neg zo]),h.row.lowT zo,h.len,fun k hk=>⟨(h.at_ k hk).1,Free.lowT (h.at_ k hk).2 T⟩,h.ok,h.key⟩
theorem D7{g:Gr}(hl:g.ls.length<=999){s:List Int}(h:inP g s):okS s:=fun x hx=>⟨(h x hx).1,KI (h x hx).2 hl⟩
theorem B4(B:Nat)(O:Nat->Nat)(w w0:ka)(i mb nb kr:Nat)(se:Bool)(g:Gr)(mv:ix)(vs:List ix)(S:List (List Int))(l:List (ByteArray×Int))(q:Nat)(hi:i≠0)(hR:Kx B O w)(h:MkO O w i mb nb kr mv vs S l)(hD:NfD w0 nb se g)(f5:J4 (fun q=>1<=q) (fun _=>0) w0 O w) 
  (hw:WF g) (h0:0<g.ks.length) (ht:Tot g) (d4:g.ls.length<=999) (d5:∀s∈S,inP g s) (c9:∀s∈S,s.length<=1000) (hq:q<S.length) (hS:S.length<=1000) :
  L6 Js 110 [nP mb,nI (q:Nat)] w fun v w'=>∃O' mv' vs' l',J4 (fun q=>i<=q/\q<=i+2) O w O' w'/\Kx B O' w'/\MkO O' w' i mb nb kr mv' vs' (dC (cM se g) (nth S q) S 37).1 l'/\Sl aX 1 w' v (dC (cM se g) (nth S q) S 37).2/\Lq O' w' v/\(∀s∈(dC (cM se g) (nth S q) S 37).1,inP g s/\s.length<=1000):=by
 obtain⟨T0,g3,c6⟩:=hR.bound;obtain⟨T,g2⟩:∃T,T=T0+i+3:=⟨_,rfl⟩
 have hT:∀b,O b<T:=fun b=>by have:=c6 b;omega
 have a5:=kB (cM se g) (nth S q) S;have b5:=d5 _ (aO hq);have e3:=c9 _ (aO hq);refine J1 func110 ntmps110 rfl rfl ?_;refine zh ?_;obtain⟨N,hN⟩:∃N:Nat,N=37:=⟨_,rfl⟩
 refine bN kU (val:=fun n:Nat=>nI (n:Int)) (0:Nat) zk (fun _=>rfl) hR T zo 37 rfl rfl zd zd zd zd rfl ?_;intro w1 O1 ov e5 a4 d7 f8 g4;clear e5;have e8:=h.upd d7 hi zo zo zo;refine zh ?_
 refine zvH (aM a4.sl.sh J3 rfl) ?_;rw[List.length_replicate];refine zlp (fun z:Nat×(Nat->Nat)×World×ix×List ix×List (ByteArray×Int)=>[(0,nP mb),(1,nI (q:Nat)),(5,ov),(8,ov),(9,nI ((37:Nat):Int)),(10,nI z.1)]) (fun z=>z.2.2.1) (fun z=>z.1<=37/\J4 (fun j=>j=T\/i<=j/\j<=i+2) O w z.2.1 z.2.2.1/\Kx B z.2.1 z.2.2.1/\MkO z.2.1 z.2.2.1 i mb nb kr z.2.2.2.1 z.2.2.2.2.1 (dC (cM se g) (nth S q) S z.1).1 z.2.2.2.2.2/\Jy aX 3 1 z.2.1 z.2.2.1 T ov ((dC (cM se g) (nth S q) S z.1).2++J6 (37-z.1) 0)/\∀s∈(dC (cM se g) (nth S q) S z.1).1,inP g s/\s.length<=1000) (fun z=>37-z.1) (0,O1,w1,mv,vs,l) (⟨Gv _,d7.mono (fun _ h=>.inl h) zo,f8,e8,a4,fun s hs=>⟨d5 s hs,c9 s hs⟩⟩) ?_
 rintro⟨m,O2,w2,a',a9,l2⟩ ⟨b7,b4,a8,b0,a0,a1⟩;dsimp only at b7 b4 a8 b0 a0 a1 ⊢;have c':=(a5 m).len;have c8:=(a5 m).top;have b2:((dC (cM se g) (nth S q) S m).2++J6 (37-m) 0).length=37:=by simp[c'];omega
 refine zh ?_;refine zC ?_ ?_
 ·intro b1;replace b1:m<37:=dT b1;obtain⟨pq,d0⟩:=(a5 m).pre;have e4:q<(dC (cM se g) (nth S q) S m).1.length:=by rw[d0];simp;omega
  have e6:nth (dC (cM se g) (nth S q) S m).1 q=nth S q:=by rw[d0,aA,if_pos hq]
  have c5:=f5.trans (b4.mono (S':=fun q=>1<=q) (fun j h=>zo) zo);have hU02d:=c5.drew;have f9:=hD.ext hU02d.ext;have hm2d:=b0.upd (aa (S:=fun _=>False) (fun h=>h) O2 (IJ w2).drew) hi (fun h=>h) (fun h=>h) fun h=>h
  have c0:w2.drew.cell? (nA mb 0)=some (nP nb):=hm2d.blk.cell 0 rfl;have c2:w2.drew.cell? (nA mb 2)=some a':=hm2d.blk.cell 2 rfl;have c7:=hm2d.row.sl;have g0:=hm2d.len;have cq:w2.drew.cell? (adr a' 1 q)=some (nth a9 q):=by have:=c7.cell (i:=q) (j:=0) zo rfl;rwa[ao]at this
  obtain⟨a6,f3⟩:=hm2d.at_ q e4;rw[e6]at a6;refine zh ?_;refine aI (fun W=>W.cell? (nA mb 0)=some (nP nb)) 19 rfl zk ?_;refine zrm 0 rfl c0 rfl ?_;refine zrm 1 rfl c0 rfl ?_;refine zrm 2 rfl c0 rfl ?_;refine zrm 3 rfl c0 rfl ?_;refine zr 4 rfl c0 (fun _=>aq rfl) ?_;refine zrf 5 rfl c0 rfl ?_;refine zt 6 rfl c0 (fun w1 e1=>RV.ld e1 rfl) ?_;refine zrm 7 rfl c0 rfl ?_;refine zr 8 rfl c0 (fun _=>aq rfl) ?_;refine zrf 9 rfl c0 rfl ?_;refine zrm 11 rfl c0 rfl ?_;refine zrm 14 rfl c0 rfl ?_;refine J2 10 zk rfl ?_;refine zvH (RV.ld c2 rfl) ?_;refine af (c0) ?_;refine zr 12 rfl (c0) (fun _=>ah c7.sh Jw (KC _) rfl rfl q rfl zo) ?_;refine J2 13 zk rfl ?_;refine zvH (RV.ld cq rfl) ?_;refine af (c0) ?_;refine J2 15 zk rfl ?_;refine zc call144 (step_ret w2.drew nb se g (nth S q) (nth a9 q) (m:Nat) f9 a6 hw h0 ht b5 e3 d4) ?_;rintro tv w3 ⟨e2,d8,e'⟩;refine zh ?_;refine af (d8.cell c0) ?_;have b8:=e' B O2 a8.drew;have b3:J4 (fun _=>False) O2 w2 O2 w3:=aa (fun h=>h) O2 ((IJ w2).drew.trans d8);have e7:=b0.upd b3 hi (fun h=>h) (fun h=>h) fun h=>h
  have f7:=a8.upd b3;have a7:=a0.upd b3 zo fun h=>h
  have d1:=vk hw h0 (nF se g) b5 (m:Nat);have g1:=CS (se:=se) hw h0 b5 (m:Nat);refine J2 16 zk rfl ?_;refine zc call108 (mA B O2 w3 i mb nb kr a' a9 (dC (cM se g) (nth S q) S m).1 l2 (cM se g (nth S q) (m:Nat)) tv hi f7 e7 e2 b8 (D7 d4 d1) zo zo) ?_;rintro _ w4 ⟨O4,e0,d',l4,rfl,d6,f6,d3⟩;have d9:w4.cell? (nA mb 0)=some (nP nb):=d3.blk.cell 0 rfl;refine zh ?_;refine af (d9) ?_;have a3:=a7.upd d6 zo zo;have b6:=a3.sl;refine zr 17 rfl (d9) (fun _=>ah b6.sh J3 (K8 _) rfl rfl m rfl zo) ?_;refine J2 18 zk rfl ?_;refine N4 a3 m zo (CG (dC (cM se g) (nth S q) S m).1 (cM se g (nth S q) (m:Nat))) (K8 _) rfl zo rfl rfl rfl rfl ?_;intro w5 a2 b9;rw[CU c' b1]at a2;have d2:=d3.upd b9 hi zo zo zo;have f':w5.cell? (nA mb 0)=some (nP nb):=d2.blk.cell 0 rfl;refine zh ?_;refine af (f') ?_;have b':J4 (fun j=>j=T\/i<=j/\j<=i+2) O w O4 w5:=((b4.trans (b3.mono (fun _ h=>h.elim) zo)).trans (d6.mono (fun _ h=>.inr h) zo)).trans (b9.mono (fun _ h=>.inl h) zo);refine K4 zk ?_;refine zh ?_;refine zxd (m+1,O4,w5,e0,d',l4) (⟨b1,b',f6.upd b9,d2,a2,fun s hs=>?_⟩)
  ·have hs:s∈rH (dC (cM se g) (nth S q) S m).1 (cM se g (nth S q) (m:Nat)):=hs;unfold rH at hs
   split at hs
   ·exact a1 s hs
   rcases JK.1 hs with hs|hs
   ·exact a1 s hs
   rw[ln.1 hs];exact⟨d1,zo⟩
 intro e9;obtain rfl:m=37:=dF e9;rw[K1,LJ,Jn]at a0
 have f4:=b4.lowT (S':=fun q=>i<=q/\q<=i+2) hT (fun b hb=>by
  rcases hb with hb|hb
  ·have:=hT b;omega
  exact hb) zo
 refine zh ?_;refine ae rfl rfl (⟨lowT O2 T,a',a9,l2,f4,a8.lowT T,MkO.lowT b0 zo,a0.sl,fun a n c e hn=>?_,a1⟩)
 have hb:=a0.1.tag a.block (by subst e;rfl);refine⟨by unfold lowT;rw[hb,if_pos (GT _)],(a8.rng a.block (by rw[hb];omega)).2⟩
abbrev jb(n:Nat):List ix:=[.int .u64 (n:Int)]
def RowsN(w:ka)(v:ix)(rows:List (List Nat)):Prop:=∃vs,Sl xg 1 w v vs/\vs.length=rows.length/\∀i,i<rows.length->Sl aX 1 w (nth vs i) (nth rows i)
theorem RowsN.ext{w w':ka}{v:ix}{rows:List (List Nat)}(h:RowsN w v rows)(e:Kz w w'):RowsN w' v rows:=by
 obtain⟨vs,h1,h2,h3⟩:=h;exact⟨vs,h1.ext e,h2,fun i hi=>(h3 i hi).ext e⟩
structure RwO(O:Nat->Nat)(w:ka)(i:Nat)(v:ix)(vs:List ix)(rows:List (List Nat)):Prop where
 row:Jy xg 22 1 O w i v vs
 len:vs.length=rows.length
 at_:∀k,k<rows.length->Sl aX 1 w (nth vs k) (nth rows k)/\Lq O w (nth vs k)
theorem RwO.upd{S:Nat->Prop}{O O':Nat->Nat}{w w':ka}{i:Nat}{v:ix}{vs:List ix}{rows:List (List Nat)}(h:RwO O w i v vs rows)(u:J4 S O w O' w')(hi:i≠0)(hS:¬S i):RwO O' w' i v vs rows:=
 ⟨h.row.upd u hi hS,h.len,fun k hk=>⟨(h.at_ k hk).1.upd (h.at_ k hk).2 u,(h.at_ k hk).2.upd u⟩⟩
theorem RwO.drew{O:Nat->Nat}{w:ka}{i:Nat}{v:ix}{vs:List ix}{rows:List (List Nat)}(h:RwO O w i v vs rows):RwO O w.drew i v vs rows:=⟨h.row.drew,h.len,fun k hk=>⟨(h.at_ k hk).1.drew,(h.at_ k hk).2.upd (aa (S:=fun _=>False) (fun h=>h) O (IJ w).drew)⟩⟩
theorem RwO.rows{O:Nat->Nat}{w:ka}{i:Nat}{v:ix}{vs:List ix}{rows:List (List Nat)}(h:RwO O w i v vs rows):RowsN w v rows:=⟨vs,h.row.sl,h.len,fun k hk=>(h.at_ k hk).1⟩
def I0(w:ka)(v:ix):Option (List (List Nat)×List Nat)->Prop
 |some d=>∃nv tv,v=.tuple #[.agg #[nv,tv],nI 0]/\nv.oneCell'=true/\tv.oneCell'=true/\RowsN w nv d.1/\Sl jb 1 w tv d.2
 |none=>v=.tuple #[.agg #[nS,nS],nI 7]
set_option maxHeartbeats 1000000 in
theorem B5(nb:Nat)(se:Bool)(g:Gr)(w:ka)(hD:NfD w nb se g)(hw:WF g)(h0:0<g.ks.length)(ht:Tot g)(m0:g.ls.length<=999)(j0:∀q,g.en q<=40):
  L6 Js 63 [nP nb] w fun v w'=>Kz w w'/\I0 w' v (DC (cM se g) (dp g)):=by
 have e4:∀s,dp g s<2^40:=fun s=>by
  have m8:∀(s:List Int) (b:Nat),b<2^40->s.foldl (fun b p=>b ||| jD g p.toNat) b<2^40:=fun s=>by
   induction s with
   |nil=>exact fun b hb=>hb
   |cons p s ih=>exact fun b hb=>ih _ (KH hb (ke j0 _ 0 zd))
  exact m8 s 0 zd
 refine J1 func63 ntmps63 rfl rfl ?_;refine zh ?_
 refine ax (au w) 7 zo (Ki _) rfl ?_;intro cb wa Oa k8 n6 o0 o9;refine zh ?_
 refine zvH (ec (q:=some ⟨nb,0,none⟩) KN rfl rfl) ?_;refine zFH rfl rfl ?_
 refine bq Lc kvI o0 2 zd rfl ?_;intro kr wb Ob n1 m2 n';refine zv (aF Iw (zeroValue194 _) rfl (by first|rfl|(simp only[Jv,JH];rfl)) rfl rfl) ?_
 refine aE n' 1 zo rfl rfl ?_;intro mb wc Oc n0 l3 m3 o8;have k2:MkO Oc wc 1 mb nb kr (nS) [] [] []:=⟨n0,n1.upd l3 zd zd,JC _ _ _ _ _ _,rfl,fun k hk=>absurd hk (Gb k),fun s hs=>absurd hs (by simp),fun s _=>rfl⟩
 have l5:=((n6.mono (S':=fun j=>1<=j) (fun j h=>zo) zd).trans (m2.mono (fun j h=>zo) zd)).trans (l3.mono (fun j h=>zo) zd);refine zh ?_;refine zc call109 (Cb wc nb) ?_;rintro bv wd ⟨n4,o3,n5⟩;have k9:=n5 w.heap.size Oc m3;have j7:J4 (fun _=>False) Oc wc Oc wd:=aa (fun h=>h) Oc o3;have i':inP g [0]:=fun x hx=>by rw[ln.1 hx];exact⟨KS _,Gv _⟩
 refine zc call108 (mA w.heap.size Oc wd 1 mb nb kr _ _ _ _ [0] bv zd (m3.upd j7) (k2.upd j7 zd (fun h=>h) (fun h=>h) fun h=>h) n4 k9 (D7 m0 i') zd zd) ?_;rintro _ we ⟨Oe,m7,m5,le,rfl,m1,n9,i9⟩;have n7:rH [] [0]=[[0]]:=rfl;rw[n7]at i9;have l1:J4 (fun j=>1<=j) Oc wd Oe we:=m1.mono (fun j h=>zo) zd;refine zh ?_
 refine ax n9 4 zo (Ki _) rfl ?_;intro db wf Of k4 l0 n8 o7;have k7:=(((k8.upd m2 zd zd).upd l3 zd zd).upd j7 zd fun h=>h)
 have k6:=(k7.upd m1 zd zd).upd l0 zd zd;have l4:=((l5.trans (j7.mono (fun _ h=>h.elim) zd)).trans l1).trans (l0.mono (fun j h=>zo) zd);refine zh ?_;refine zlp (fun z:Nat×(Nat->Nat)×World×ix×List ix×List (List Int)×List (ByteArray×Int)×List (List Nat)×List Nat×List ix×ix×ix=>[(0,nP nb),(2,nP cb),(3,nI 0),(4,nP mb),(5,nP db),(6,nI z.1)]) (fun z=>z.2.2.1) (fun z=>J4 (fun j=>1<=j) (fun _=>0) w z.2.1 z.2.2.1/\Kx w.heap.size z.2.1 z.2.2.1/\MkO z.2.1 z.2.2.1 1 mb nb kr z.2.2.2.1 z.2.2.2.2.1 z.2.2.2.2.2.1 z.2.2.2.2.2.2.1/\Ls z.2.1 z.2.2.1 4 db #[z.2.2.2.2.2.2.2.2.2.2.1,z.2.2.2.2.2.2.2.2.2.2.2] 86/\RwO z.2.1 z.2.2.1 5 z.2.2.2.2.2.2.2.2.2.2.1 z.2.2.2.2.2.2.2.2.2.1 z.2.2.2.2.2.2.2.1/\Jy jb 28 1 z.2.1 z.2.2.1 6 z.2.2.2.2.2.2.2.2.2.2.2 z.2.2.2.2.2.2.2.2.1/\Ls z.2.1 z.2.2.1 7 cb #[nS,nS] 86/\DI (cM se g) (dp g) z.1 z.2.2.2.2.2.1 z.2.2.2.2.2.2.2.1 z.2.2.2.2.2.2.2.2.1/\(∀s∈z.2.2.2.2.2.1,inP g s/\s.length<=1000)/\Ge (cM se g) (dp g) (1002-z.1) z.1 z.2.2.2.2.2.1 z.2.2.2.2.2.2.2.1 z.2.2.2.2.2.2.2.2.1=DC (cM se g) (dp g)) (fun z=>1002-z.1) (0,Of,wf,m7,m5,[[0]],le,[],[],[],nS,nS) (⟨l4,n8,i9.upd l0 zd zd zd zd,k4,⟨JC _ _ _ _ _ _,rfl,fun k hk=>absurd hk (Gb k)⟩,JC _ _ _ _ _ _,k6,yO _ _,fun s hs=>by rw[ln.1 hs];exact⟨i',zd⟩,rfl⟩) ?_;rintro⟨q,O1,w1,mv,vs,S,l,rows,i7,i4,nv,tv⟩ ⟨b2,m4,e9,f4,d',e3,e0,i6,f7,c6⟩;dsimp only at b2 m4 e9 f4 d' e3 e0 i6 f7 c6 ⊢;have o6:=i6.le
 have o5:=i6.rl;have o4:=i6.tl;have j3:=i6.len;have m':=d'.len;have c2:w1.cell? (nA mb 2)=some mv:=e9.blk.cell 2 rfl;have i5:=e9.len;refine zh ?_;refine zvH (aM e9.row.sl.sh Jw rfl) ?_;refine zC ?_ ?_
 ·intro g0;replace g0:q<S.length:=dT g0;obtain⟨n,hn⟩:∃n,1002-q=n+1:=⟨1001-q,zo⟩
  rw[hn,Ge,if_pos g0]at c6;have e':=kB (cM se g) (nth S q) S 37;have j2:=i6.next g0;have j6:=(f7 _ (aO g0)).1;have n3:w1.drew.cell? (nA db 0)=some nv:=f4.cell 0 rfl;have hmk1d:=e9.upd (aa (S:=fun _=>False) (fun h=>h) O1 (IJ w1).drew) zd (fun h=>h) (fun h=>h) fun h=>h
  have h1:=B4 w.heap.size O1 w1.drew w 1 mb nb kr se g mv vs S l q zd m4.drew hmk1d hD b2.drew hw h0 ht m0 (fun s hs=>(f7 s hs).1) (fun s hs=>(f7 s hs).2) g0 j3;generalize dC (cM se g) (nth S q) S 37=RT at *;obtain⟨S1,r1⟩:=RT;dsimp only at c6 e' j2 h1;refine zh ?_;refine aI (fun _=>True) 9 rfl zk ?_;refine zin trivial fun zS=>?_
  refine zrf 0 rfl zS rfl ?_;refine zrm 2 rfl zS rfl ?_
  refine zrm 3 rfl zS rfl ?_;refine bV 1 4 zk rfl rfl ?_ ?_
  ·refine zvH (RV.ld n3 rfl) ?_;refine af trivial ?_
   refine J2 4 zk rfl ?_;refine zc call110 h1 ?_
   rintro rv w2 ⟨O2,a7,b',l2,k',l8,h6,e6,e8,f3⟩;have g9:=e6.shape;obtain⟨ra,rc,rfl,_⟩:=g9;have b6:J4 (fun j=>1<=j/\j<=3) O1 w1.drew O2 w2:=k';have g8:=d'.drew.upd b6 zd zd;have f8:=f4.drew.upd b6 zd zd;have h9:=e0.drew.upd b6 zd zd;have g6:=e3.drew.upd b6 zd zd;have h':J4 (fun j=>1<=j/\j<=3) O1 w1 O2 w2:=(aa zd O1 (IJ w1).drew).trans b6;refine zh ?_;refine af trivial ?_;refine J2 5 zk rfl ?_;refine cg D9 (enc:=xg) (.slice ra r1.length rc:ix) rfl rfl rfl zd rfl ?_;intro m6 w3 g7 l9;have c7:J4 (fun _=>False) O2 w2 O2 w3:=aa (fun h=>h) O2 l9;have i0:J4 (fun q=>1<=q) O1 w1 O2 w3:=(h'.mono (fun j h=>zo) zd).trans (c7.mono (fun _ h=>h.elim) zd);have l7:=l8.upd c7;have d2:=g8.upd c7 zd fun h=>h
   have h7:=f8.upd c7 zd fun h=>h
   have h8:=h9.upd c7 zd fun h=>h
   have g5:=g6.upd c7 zd fun h=>h
   have h5:=h6.upd c7 zd (fun h=>h) (fun h=>h) fun h=>h
   have g':=e6.upd e8 c7;have d3:=e8.upd c7;refine zh ?_;refine af trivial ?_;refine J2 6 zk rfl ?_;refine aC D9 (d2.row) l7 g7 (by simp) rfl rfl (by simp) (fun u hu c hc=>by rw[ln.1 hu]at hc;rw[ln.1 hc];rfl) (by simp;omega) (by simp;omega) zd rfl ?_;intro b3 w4 O4 c8 b8 l6;have d8:=h7.upd b8 zd zd;refine zh ?_;refine af (trivial) ?_;refine zrf 7 rfl (trivial) rfl ?_;refine J2 8 zk rfl ?_;refine ak (j:=0) d8 rfl (MU _) c8.one rfl rfl rfl ?_;have c5:J4 (fun j=>j=4) O4 w4 O4 (w4.setCell ⟨db,0,none⟩ b3):=Kd zd d8.tag rfl;have d7:Ls O4 (w4.setCell ⟨db,0,none⟩ b3) 4 db #[b3,tv] 86:=d8.set 0 b3;refine zh ?_;refine af (trivial) ?_;have j1:=l6.upd c5;have e7:=c8.upd c5 zd zd;have a8:=(h5.upd b8 zd zd zd zd).upd c5 zd zd zd zd;have e2:=(g5.upd b8 zd zd).upd c5 zd zd;have f5:=(h8.upd b8 zd zd).upd c5 zd zd;have e5:RwO O4 (w4.setCell ⟨db,0,none⟩ b3) 5 b3 (i4++[.slice ra r1.length rc]) (rows++[r1]):=by
    have i5:=d2.len;refine⟨e7,by simp[i5],fun k hk=>?_⟩;rw[aA,aA,i5]
    by_cases e:k<rows.length
    ·rw[if_pos e,if_pos e];obtain⟨a1,a2⟩:=d2.at_ k e;exact⟨(a1.upd a2 b8).upd (a2.upd b8) c5,(a2.upd b8).upd c5⟩
    rw[if_neg e,if_neg e];simp only[I4,JF,JM]at hk;rw[show k-rows.length=0 from by omega,ar,ar];exact⟨(g'.upd d3 b8).upd (d3.upd b8) c5,(d3.upd b8).upd c5⟩
   have d9:J4 (fun q=>1<=q) O1 w1 O4 (w4.setCell ⟨db,0,none⟩ b3):=(i0.trans (b8.mono (fun j h=>zo) zd)).trans (c5.mono (fun j h=>zo) zd);generalize w4.setCell ⟨db,0,none⟩ b3=w5 at *;refine K4 zk ?_;refine zh ?_;have g4:=a8.len;have i8:q<b'.length:=by obtain⟨pq,h3⟩:=e'.pre;rw[g4,h3];simp;omega
   have h2:q<S1.length:=zo;have h4:nth S1 q=nth S q:=by obtain⟨pq,h3⟩:=e'.pre;rw[h3,aA,if_pos g0]
   have b0:w5.drew.cell? (nA mb 2)=some a7/\w5.drew.cell? (adr a7 1 q)=some (nth b' q):=⟨a8.blk.cell 2 rfl,by have:=a8.row.sl.cell (i:=q) (j:=0) i8 rfl;rwa[ao]at this⟩
   have sd:∀W,Kz w5.drew W->W.cell? (nA mb 2)=some a7/\W.cell? (adr a7 1 q)=some (nth b' q):=fun W hE=>⟨hE.cell b0.1,hE.cell b0.2⟩
   have j5:w5.drew.cell? (nA db 1)=some tv:=d7.cell 1 rfl;have j4:=hD.ext (b2.trans d9).drew.ext;obtain⟨d0,k0⟩:=a8.at_ q h2;rw[h4]at d0;have m9:=e4 (nth S q);refine aI (fun W=>W.cell? (nA mb 2)=some a7/\W.cell? (adr a7 1 q)=some (nth b' q)) 15 rfl zk ?_;refine zrf 0 rfl b0 rfl ?_;refine zrm 2 rfl b0 rfl ?_;refine zrm 3 rfl b0 rfl ?_;refine zr 4 rfl b0 (fun _=>aq rfl) ?_;refine zrf 5 rfl b0 rfl ?_;refine zt 6 rfl b0 (fun w1 g1=>RV.ld g1.1 rfl) ?_;refine zrm 7 rfl b0 rfl ?_;refine zr 8 rfl b0 (fun _=>ah a8.row.sl.sh Jw (KC _) rfl rfl q rfl i8) ?_;refine zt 9 rfl b0 (fun w1 g1=>RV.ld g1.2 rfl) ?_;refine bV 1 10 zk rfl rfl ?_ ?_
   ·refine zvH (RV.ld j5 rfl) ?_;refine af b0 ?_
    refine J2 10 zk rfl ?_;refine zc MJ (kd w5.drew nb se g (nth S q) _ j4 d0.drew j6 j0) ?_
    rintro j8 w9 ⟨rfl,e1⟩;rw[e1];clear e1 w9;refine zh ?_;refine af b0 ?_;refine J2 11 zk rfl ?_;refine cg mS (enc:=jb) (dp g (nth S q)) rfl rfl rfl zd rfl ?_;intro j9 w6 c' f';refine zh ?_;refine af (sd _ f') ?_;have a':J4 (fun _=>False) O4 w5 O4 w6:=aa (fun h=>h) O4 ((IJ w5).drew.trans f');have c9:=e2.upd a' zd fun h=>h
    have d6:=d7.upd a' zd fun h=>h
    have d4:=a8.upd a' zd (fun h=>h) (fun h=>h) fun h=>h
    have i3:=j1.upd a';refine J2 12 zk rfl ?_;refine aC mS c9 i3 c' (by simp) rfl rfl (by simp) (by simp[GY]) (by simp;omega) (by simp;omega) zd rfl ?_;intro a3 w7 O7 a6 b7 i2;have a9:=d6.upd b7 zd zd;have a4:=d4.upd b7 zd zd zd zd;have g3:=a4.len;have s7:w7.cell? (nA mb 2)=some a7/\w7.cell? (adr a7 1 q)=some (nth b' q):=⟨a4.blk.cell 2 rfl,by have:=a4.row.sl.cell (i:=q) (j:=0) zo rfl;rwa[ao]at this⟩
    refine zh ?_;refine af (s7) ?_
    refine zrf 13 rfl (s7) rfl ?_;refine J2 14 zk rfl ?_
    refine ak (j:=1) a9 rfl (Mk _) a6.one rfl rfl rfl ?_;have b1:J4 (fun j=>j=4) O7 w7 O7 (w7.setCell ⟨db,1,none⟩ a3):=Kd zd a9.tag rfl;have d5:Ls O7 (w7.setCell ⟨db,1,none⟩ a3) 4 db #[b3,a3] 86:=a9.set 1 a3;have a0:=a4.upd b1 zd zd zd zd;have g2:=a0.len;have s8:(w7.setCell ⟨db,1,none⟩ a3).cell? (nA mb 2)=some a7/\(w7.setCell ⟨db,1,none⟩ a3).cell? (adr a7 1 q)=some (nth b' q):=⟨a0.blk.cell 2 rfl,by have:=a0.row.sl.cell (i:=q) (j:=0) zo rfl;rwa[ao]at this⟩
    refine zh ?_;refine af (s8) ?_
    have b4:=a6.upd b1 zd zd;have i1:=i2.upd b1;have d1:=((e5.upd a' zd fun h=>h).upd b7 zd zd).upd b1 zd zd;have a5:=((f5.upd a' zd fun h=>h).upd b7 zd zd).upd b1 zd zd;have b9:J4 (fun q=>1<=q) O1 w1 O7 (w7.setCell ⟨db,1,none⟩ a3):=((d9.trans (a'.mono (fun _ h=>h.elim) zd)).trans (b7.mono (fun j h=>zo) zd)).trans (b1.mono (fun j h=>zo) zd);generalize w7.setCell ⟨db,1,none⟩ a3=w8 at *;have l':=s8.1;refine K4 zk ?_;refine zh ?_;refine zvH (aM a0.row.sl.sh Jw rfl) ?_
    by_cases b5:1000<S1.length
    ·rw[if_pos b5]at c6;rw[<-c6];refine zTH rfl ((decide_eq_true zo)) ?_;refine zv (aF Gu (Ki _) rfl (by first|rfl|(simp only[Jv,JH];rfl)) rfl rfl) ?_;refine zsa (us:=#[nS,nS]) a5 (JT _) ?_;have f9:=a5.setRow (us:=#[nS,nS]);have f6:J4 (fun j=>j=7) O7 w8 O7 (w8.setRow cb #[nS,nS]):=Jp zd a5.tag rfl;refine zh ?_;refine bA rfl rfl rfl (f9.cellsAdd) (Le _) (JT _) (⟨((b2.trans b9).trans (f6.mono (fun j h=>zo) zd)).ext,rfl⟩)
    rw[if_neg b5]at c6;refine zFH rfl ((decide_eq_false zo)) ?_;refine zxd (q+1,O7,w8,a7,b',S1,l2,rows++[r1],i7++[dp g (nth S q)],i4++[.slice ra r1.length rc],b3,a3) (⟨b2.trans b9,i1,a0,d5,d1,b4,a5,j2 zo,f3,by dsimp only;rw[show 1002-(q+1)=n from by omega];exact c6⟩)
   refine zc MJ (kd w5.drew nb se g (nth S q) _ j4 d0.drew j6 j0) ?_;rintro j8 w9 ⟨rfl,e1⟩;rw[e1];clear e1 w9;refine zh ?_
   refine af b0 ?_;refine bZ 1 11 mS (enc:=jb) (dp g (nth S q)) rfl rfl zk zk zk zk (fun W hE=>L1 (hE.cell j5) (isAgg31 _) rfl) sd rfl rfl rfl zd rfl rfl rfl rfl rfl ?_
   intro j9 w6 c' f';have a':J4 (fun _=>False) O4 w5 O4 w6:=aa (fun h=>h) O4 ((IJ w5).drew.trans f');have c9:=e2.upd a' zd fun h=>h
   have d6:=d7.upd a' zd fun h=>h
   have d4:=a8.upd a' zd (fun h=>h) (fun h=>h) fun h=>h
   have i3:=j1.upd a';refine J2 12 zk rfl ?_;refine aC mS c9 i3 c' (by simp) rfl rfl (by simp) (by simp[GY]) (by simp;omega) (by simp;omega) zd rfl ?_;intro a3 w7 O7 a6 b7 i2;have a9:=d6.upd b7 zd zd;have a4:=d4.upd b7 zd zd zd zd;have g3:=a4.len;have s7:w7.cell? (nA mb 2)=some a7/\w7.cell? (adr a7 1 q)=some (nth b' q):=⟨a4.blk.cell 2 rfl,by have:=a4.row.sl.cell (i:=q) (j:=0) zo rfl;rwa[ao]at this⟩
   refine zh ?_;refine af (s7) ?_
   refine zrf 13 rfl (s7) rfl ?_;refine J2 14 zk rfl ?_
   refine ak (j:=1) a9 rfl (Mk _) a6.one rfl rfl rfl ?_;have b1:J4 (fun j=>j=4) O7 w7 O7 (w7.setCell ⟨db,1,none⟩ a3):=Kd zd a9.tag rfl;have d5:Ls O7 (w7.setCell ⟨db,1,none⟩ a3) 4 db #[b3,a3] 86:=a9.set 1 a3;have a0:=a4.upd b1 zd zd zd zd;have g2:=a0.len;have s8:(w7.setCell ⟨db,1,none⟩ a3).cell? (nA mb 2)=some a7/\(w7.setCell ⟨db,1,none⟩ a3).cell? (adr a7 1 q)=some (nth b' q):=⟨a0.blk.cell 2 rfl,by have:=a0.row.sl.cell (i:=q) (j:=0) zo rfl;rwa[ao]at this⟩
   refine zh ?_;refine af (s8) ?_
   have b4:=a6.upd b1 zd zd;have i1:=i2.upd b1;have d1:=((e5.upd a' zd fun h=>h).upd b7 zd zd).upd b1 zd zd;have a5:=((f5.upd a' zd fun h=>h).upd b7 zd zd).upd b1 zd zd;have b9:J4 (fun q=>1<=q) O1 w1 O7 (w7.setCell ⟨db,1,none⟩ a3):=((d9.trans (a'.mono (fun _ h=>h.elim) zd)).trans (b7.mono (fun j h=>zo) zd)).trans (b1.mono (fun j h=>zo) zd);generalize w7.setCell ⟨db,1,none⟩ a3=w8 at *;have l':=s8.1;refine K4 zk ?_;refine zh ?_;refine zvH (aM a0.row.sl.sh Jw rfl) ?_
   by_cases b5:1000<S1.length
   ·rw[if_pos b5]at c6;rw[<-c6];refine zTH rfl ((decide_eq_true zo)) ?_;refine zv (aF Gu (Ki _) rfl (by first|rfl|(simp only[Jv,JH];rfl)) rfl rfl) ?_;refine zsa (us:=#[nS,nS]) a5 (JT _) ?_;have f9:=a5.setRow (us:=#[nS,nS]);have f6:J4 (fun j=>j=7) O7 w8 O7 (w8.setRow cb #[nS,nS]):=Jp zd a5.tag rfl;refine zh ?_;refine bA rfl rfl rfl (f9.cellsAdd) (Le _) (JT _) (⟨((b2.trans b9).trans (f6.mono (fun j h=>zo) zd)).ext,rfl⟩)
   rw[if_neg b5]at c6;refine zFH rfl ((decide_eq_false zo)) ?_;refine zxd (q+1,O7,w8,a7,b',S1,l2,rows++[r1],i7++[dp g (nth S q)],i4++[.slice ra r1.length rc],b3,a3) (⟨b2.trans b9,i1,a0,d5,d1,b4,a5,j2 zo,f3,by dsimp only;rw[show 1002-(q+1)=n from by omega];exact c6⟩)
  refine zc call110 h1 ?_;rintro rv w2 ⟨O2,a7,b',l2,k',l8,h6,e6,e8,f3⟩;have g9:=e6.shape;obtain⟨ra,rc,rfl,_⟩:=g9;have b6:J4 (fun j=>1<=j/\j<=3) O1 w1.drew O2 w2:=k';have g8:=d'.drew.upd b6 zd zd;have f8:=f4.drew.upd b6 zd zd;have h9:=e0.drew.upd b6 zd zd;have g6:=e3.drew.upd b6 zd zd;have h':J4 (fun j=>1<=j/\j<=3) O1 w1 O2 w2:=(aa zd O1 (IJ w1).drew).trans b6;refine zh ?_
  refine af trivial ?_;have k5:w2.cell? (nA db 0)=some nv:=f8.cell 0 rfl;refine bZ 1 5 D9 (enc:=xg) (.slice ra r1.length rc:ix) rfl rfl zk zk zk zk (fun W hE=>L1 (hE.cell k5) (isAgg50 _) rfl) (fun _ _=>trivial) rfl rfl rfl zd rfl rfl rfl rfl rfl ?_
  intro m6 w3 g7 l9;have c7:J4 (fun _=>False) O2 w2 O2 w3:=aa (fun h=>h) O2 l9;have i0:J4 (fun q=>1<=q) O1 w1 O2 w3:=(h'.mono (fun j h=>zo) zd).trans (c7.mono (fun _ h=>h.elim) zd);have l7:=l8.upd c7;have d2:=g8.upd c7 zd fun h=>h
  have h7:=f8.upd c7 zd fun h=>h
  have h8:=h9.upd c7 zd fun h=>h
  have g5:=g6.upd c7 zd fun h=>h
  have h5:=h6.upd c7 zd (fun h=>h) (fun h=>h) fun h=>h
  have g':=e6.upd e8 c7;have d3:=e8.upd c7;refine J2 6 zk rfl ?_;refine aC D9 (d2.row) l7 g7 (by simp) rfl rfl (by simp) (fun u hu c hc=>by rw[ln.1 hu]at hc;rw[ln.1 hc];rfl) (by simp;omega) (by simp;omega) zd rfl ?_;intro b3 w4 O4 c8 b8 l6;have d8:=h7.upd b8 zd zd;refine zh ?_;refine af (trivial) ?_;refine zrf 7 rfl (trivial) rfl ?_;refine J2 8 zk rfl ?_;refine ak (j:=0) d8 rfl (MU _) c8.one rfl rfl rfl ?_;have c5:J4 (fun j=>j=4) O4 w4 O4 (w4.setCell ⟨db,0,none⟩ b3):=Kd zd d8.tag rfl;have d7:Ls O4 (w4.setCell ⟨db,0,none⟩ b3) 4 db #[b3,tv] 86:=d8.set 0 b3;refine zh ?_;refine af (trivial) ?_;have j1:=l6.upd c5;have e7:=c8.upd c5 zd zd;have a8:=(h5.upd b8 zd zd zd zd).upd c5 zd zd zd zd;have e2:=(g5.upd b8 zd zd).upd c5 zd zd;have f5:=(h8.upd b8 zd zd).upd c5 zd zd;have e5:RwO O4 (w4.setCell ⟨db,0,none⟩ b3) 5 b3 (i4++[.slice ra r1.length rc]) (rows++[r1]):=by
   have i5:=d2.len;refine⟨e7,by simp[i5],fun k hk=>?_⟩;rw[aA,aA,i5]
   by_cases e:k<rows.length
   ·rw[if_pos e,if_pos e];obtain⟨a1,a2⟩:=d2.at_ k e;exact⟨(a1.upd a2 b8).upd (a2.upd b8) c5,(a2.upd b8).upd c5⟩
   rw[if_neg e,if_neg e];simp only[I4,JF,JM]at hk;rw[show k-rows.length=0 from by omega,ar,ar];exact⟨(g'.upd d3 b8).upd (d3.upd b8) c5,(d3.upd b8).upd c5⟩
  have d9:J4 (fun q=>1<=q) O1 w1 O4 (w4.setCell ⟨db,0,none⟩ b3):=(i0.trans (b8.mono (fun j h=>zo) zd)).trans (c5.mono (fun j h=>zo) zd);generalize w4.setCell ⟨db,0,none⟩ b3=w5 at *;refine K4 zk ?_;refine zh ?_;have g4:=a8.len;have i8:q<b'.length:=by obtain⟨pq,h3⟩:=e'.pre;rw[g4,h3];simp;omega
  have h2:q<S1.length:=zo;have h4:nth S1 q=nth S q:=by obtain⟨pq,h3⟩:=e'.pre;rw[h3,aA,if_pos g0]
  have b0:w5.drew.cell? (nA mb 2)=some a7/\w5.drew.cell? (adr a7 1 q)=some (nth b' q):=⟨a8.blk.cell 2 rfl,by have:=a8.row.sl.cell (i:=q) (j:=0) i8 rfl;rwa[ao]at this⟩
  have sd:∀W,Kz w5.drew W->W.cell? (nA mb 2)=some a7/\W.cell? (adr a7 1 q)=some (nth b' q):=fun W hE=>⟨hE.cell b0.1,hE.cell b0.2⟩
  have j5:w5.drew.cell? (nA db 1)=some tv:=d7.cell 1 rfl;have j4:=hD.ext (b2.trans d9).drew.ext;obtain⟨d0,k0⟩:=a8.at_ q h2;rw[h4]at d0;have m9:=e4 (nth S q);refine aI (fun W=>W.cell? (nA mb 2)=some a7/\W.cell? (adr a7 1 q)=some (nth b' q)) 15 rfl zk ?_;refine zrf 0 rfl b0 rfl ?_;refine zrm 2 rfl b0 rfl ?_;refine zrm 3 rfl b0 rfl ?_;refine zr 4 rfl b0 (fun _=>aq rfl) ?_;refine zrf 5 rfl b0 rfl ?_;refine zt 6 rfl b0 (fun w1 g1=>RV.ld g1.1 rfl) ?_;refine zrm 7 rfl b0 rfl ?_;refine zr 8 rfl b0 (fun _=>ah a8.row.sl.sh Jw (KC _) rfl rfl q rfl i8) ?_;refine zt 9 rfl b0 (fun w1 g1=>RV.ld g1.2 rfl) ?_;refine bV 1 10 zk rfl rfl ?_ ?_
  ·refine zvH (RV.ld j5 rfl) ?_;refine af b0 ?_
   refine J2 10 zk rfl ?_;refine zc MJ (kd w5.drew nb se g (nth S q) _ j4 d0.drew j6 j0) ?_
   rintro j8 w9 ⟨rfl,e1⟩;rw[e1];clear e1 w9;refine zh ?_;refine af b0 ?_;refine J2 11 zk rfl ?_;refine cg mS (enc:=jb) (dp g (nth S q)) rfl rfl rfl zd rfl ?_;intro j9 w6 c' f';refine zh ?_;refine af (sd _ f') ?_;have a':J4 (fun _=>False) O4 w5 O4 w6:=aa (fun h=>h) O4 ((IJ w5).drew.trans f');have c9:=e2.upd a' zd fun h=>h
   have d6:=d7.upd a' zd fun h=>h
   have d4:=a8.upd a' zd (fun h=>h) (fun h=>h) fun h=>h
   have i3:=j1.upd a';refine J2 12 zk rfl ?_;refine aC mS c9 i3 c' (by simp) rfl rfl (by simp) (by simp[GY]) (by simp;omega) (by simp;omega) zd rfl ?_;intro a3 w7 O7 a6 b7 i2;have a9:=d6.upd b7 zd zd;have a4:=d4.upd b7 zd zd zd zd;have g3:=a4.len;have s7:w7.cell? (nA mb 2)=some a7/\w7.cell? (adr a7 1 q)=some (nth b' q):=⟨a4.blk.cell 2 rfl,by have:=a4.row.sl.cell (i:=q) (j:=0) zo rfl;rwa[ao]at this⟩
   refine zh ?_;refine af (s7) ?_
   refine zrf 13 rfl (s7) rfl ?_;refine J2 14 zk rfl ?_
   refine ak (j:=1) a9 rfl (Mk _) a6.one rfl rfl rfl ?_;have b1:J4 (fun j=>j=4) O7 w7 O7 (w7.setCell ⟨db,1,none⟩ a3):=Kd zd a9.tag rfl;have d5:Ls O7 (w7.setCell ⟨db,1,none⟩ a3) 4 db #[b3,a3] 86:=a9.set 1 a3;have a0:=a4.upd b1 zd zd zd zd;have g2:=a0.len;have s8:(w7.setCell ⟨db,1,none⟩ a3).cell? (nA mb 2)=some a7/\(w7.setCell ⟨db,1,none⟩ a3).cell? (adr a7 1 q)=some (nth b' q):=⟨a0.blk.cell 2 rfl,by have:=a0.row.sl.cell (i:=q) (j:=0) zo rfl;rwa[ao]at this⟩
   refine zh ?_;refine af (s8) ?_
   have b4:=a6.upd b1 zd zd;have i1:=i2.upd b1;have d1:=((e5.upd a' zd fun h=>h).upd b7 zd zd).upd b1 zd zd;have a5:=((f5.upd a' zd fun h=>h).upd b7 zd zd).upd b1 zd zd;have b9:J4 (fun q=>1<=q) O1 w1 O7 (w7.setCell ⟨db,1,none⟩ a3):=((d9.trans (a'.mono (fun _ h=>h.elim) zd)).trans (b7.mono (fun j h=>zo) zd)).trans (b1.mono (fun j h=>zo) zd);generalize w7.setCell ⟨db,1,none⟩ a3=w8 at *;have l':=s8.1;refine K4 zk ?_;refine zh ?_;refine zvH (aM a0.row.sl.sh Jw rfl) ?_
   by_cases b5:1000<S1.length
   ·rw[if_pos b5]at c6;rw[<-c6];refine zTH rfl ((decide_eq_true zo)) ?_;refine zv (aF Gu (Ki _) rfl (by first|rfl|(simp only[Jv,JH];rfl)) rfl rfl) ?_;refine zsa (us:=#[nS,nS]) a5 (JT _) ?_;have f9:=a5.setRow (us:=#[nS,nS]);have f6:J4 (fun j=>j=7) O7 w8 O7 (w8.setRow cb #[nS,nS]):=Jp zd a5.tag rfl;refine zh ?_;refine bA rfl rfl rfl (f9.cellsAdd) (Le _) (JT _) (⟨((b2.trans b9).trans (f6.mono (fun j h=>zo) zd)).ext,rfl⟩)
   rw[if_neg b5]at c6;refine zFH rfl ((decide_eq_false zo)) ?_;refine zxd (q+1,O7,w8,a7,b',S1,l2,rows++[r1],i7++[dp g (nth S q)],i4++[.slice ra r1.length rc],b3,a3) (⟨b2.trans b9,i1,a0,d5,d1,b4,a5,j2 zo,f3,by dsimp only;rw[show 1002-(q+1)=n from by omega];exact c6⟩)
  refine zc MJ (kd w5.drew nb se g (nth S q) _ j4 d0.drew j6 j0) ?_;rintro j8 w9 ⟨rfl,e1⟩;rw[e1];clear e1 w9;refine zh ?_
  refine af b0 ?_;refine bZ 1 11 mS (enc:=jb) (dp g (nth S q)) rfl rfl zk zk zk zk (fun W hE=>L1 (hE.cell j5) (isAgg31 _) rfl) sd rfl rfl rfl zd rfl rfl rfl rfl rfl ?_
  intro j9 w6 c' f';have a':J4 (fun _=>False) O4 w5 O4 w6:=aa (fun h=>h) O4 ((IJ w5).drew.trans f');have c9:=e2.upd a' zd fun h=>h
  have d6:=d7.upd a' zd fun h=>h
  have d4:=a8.upd a' zd (fun h=>h) (fun h=>h) fun h=>h
  have i3:=j1.upd a';refine J2 12 zk rfl ?_;refine aC mS c9 i3 c' (by simp) rfl rfl (by simp) (by simp[GY]) (by simp;omega) (by simp;omega) zd rfl ?_;intro a3 w7 O7 a6 b7 i2;have a9:=d6.upd b7 zd zd;have a4:=d4.upd b7 zd zd zd zd;have g3:=a4.len;have s7:w7.cell? (nA mb 2)=some a7/\w7.cell? (adr a7 1 q)=some (nth b' q):=⟨a4.blk.cell 2 rfl,by have:=a4.row.sl.cell (i:=q) (j:=0) zo rfl;rwa[ao]at this⟩
  refine zh ?_;refine af (s7) ?_
  refine zrf 13 rfl (s7) rfl ?_;refine J2 14 zk rfl ?_
  refine ak (j:=1) a9 rfl (Mk _) a6.one rfl rfl rfl ?_;have b1:J4 (fun j=>j=4) O7 w7 O7 (w7.setCell ⟨db,1,none⟩ a3):=Kd zd a9.tag rfl;have d5:Ls O7 (w7.setCell ⟨db,1,none⟩ a3) 4 db #[b3,a3] 86:=a9.set 1 a3;have a0:=a4.upd b1 zd zd zd zd;have g2:=a0.len;have s8:(w7.setCell ⟨db,1,none⟩ a3).cell? (nA mb 2)=some a7/\(w7.setCell ⟨db,1,none⟩ a3).cell? (adr a7 1 q)=some (nth b' q):=⟨a0.blk.cell 2 rfl,by have:=a0.row.sl.cell (i:=q) (j:=0) zo rfl;rwa[ao]at this⟩
  refine zh ?_;refine af (s8) ?_
  have b4:=a6.upd b1 zd zd;have i1:=i2.upd b1;have d1:=((e5.upd a' zd fun h=>h).upd b7 zd zd).upd b1 zd zd;have a5:=((f5.upd a' zd fun h=>h).upd b7 zd zd).upd b1 zd zd;have b9:J4 (fun q=>1<=q) O1 w1 O7 (w7.setCell ⟨db,1,none⟩ a3):=((d9.trans (a'.mono (fun _ h=>h.elim) zd)).trans (b7.mono (fun j h=>zo) zd)).trans (b1.mono (fun j h=>zo) zd);generalize w7.setCell ⟨db,1,none⟩ a3=w8 at *;have l':=s8.1;refine K4 zk ?_;refine zh ?_;refine zvH (aM a0.row.sl.sh Jw rfl) ?_
  by_cases b5:1000<S1.length
  ·rw[if_pos b5]at c6;rw[<-c6];refine zTH rfl ((decide_eq_true zo)) ?_;refine zv (aF Gu (Ki _) rfl (by first|rfl|(simp only[Jv,JH];rfl)) rfl rfl) ?_;refine zsa (us:=#[nS,nS]) a5 (JT _) ?_;have f9:=a5.setRow (us:=#[nS,nS]);have f6:J4 (fun j=>j=7) O7 w8 O7 (w8.setRow cb #[nS,nS]):=Jp zd a5.tag rfl;refine zh ?_;refine bA rfl rfl rfl (f9.cellsAdd) (Le _) (JT _) (⟨((b2.trans b9).trans (f6.mono (fun j h=>zo) zd)).ext,rfl⟩)
  rw[if_neg b5]at c6;refine zFH rfl ((decide_eq_false zo)) ?_;refine zxd (q+1,O7,w8,a7,b',S1,l2,rows++[r1],i7++[dp g (nth S q)],i4++[.slice ra r1.length rc],b3,a3) (⟨b2.trans b9,i1,a0,d5,d1,b4,a5,j2 zo,f3,by dsimp only;rw[show 1002-(q+1)=n from by omega];exact c6⟩)
 intro n2;obtain rfl:q=S.length:=dF n2;have k3:DC (cM se g) (dp g)=some (rows,i7):=by
  rw[<-c6];obtain⟨n,hn⟩:∃n,1002-S.length=n+1:=⟨1001-S.length,zo⟩
  rw[hn,Ge,if_neg zo]
 rw[k3];have o1:=d'.row.one;have o2:=e3.one;refine zh ?_;refine zv (ai (us:=[nv,tv]) f4.cellsAdd (Le _) (JT _) rfl) ?_;refine zsb (us:=#[nv,tv]) e0 (JT _) (by simp only[Jv,o1,o2];rfl) ?_;have f9:=e0.setRow (us:=#[nv,tv]);have f6:J4 (fun j=>j=7) O1 w1 O1 (w1.setRow cb #[nv,tv]):=Jp zd e0.tag rfl;have k1:=d'.upd f6 zd zd;have j':=e3.upd f6 zd zd;refine zh ?_;refine bA rfl rfl rfl (f9.cellsAdd) (Le _) (JT _) (⟨(b2.trans (f6.mono (fun j h=>zo) zd)).ext,nv,tv,rfl,o1,o2,k1.rows,j'.sl⟩)
def Bj(l:List Nat):Nat:=l.foldl max 0
theorem Bi(l:List Nat)(x:Nat):Bj (l++[x])=max (Bj l) x:=by unfold Bj;rw[Ka];rfl
theorem F0{n:Nat}(h0:0<n):∀(l:List Nat),(∀x∈l,x<n)->Bj l<n:=by
 have a0:∀(l:List Nat) (a:Nat),a<n->(∀x∈l,x<n)->l.foldl max a<n:=fun l=>by
  induction l with
  |nil=>exact fun a ha _=>ha
  |cons x l ih=>exact fun a ha h=>ih _ (by have:=h x (by simp);exact Nat.max_lt.2 ⟨ha,this⟩) fun y hy=>h y (by simp[hy])
 exact fun l h=>a0 l 0 h0 h
theorem Di(l:List Nat)(sv:ix)(w:ka)(h:Sl aX 1 w sv l)(a1:0<l.length):L6 Js 80 [sv] w fun v w'=>v=nI ((Bj l:Nat):Int)/\w'=w:=by
 have hl:=h.len_le;have m0:w.cell? (adr sv 1 0)=some (nI ((nth l 0:Nat):Int)):=by have:=h.cell (j:=0) a1 rfl;rwa[ao]at this
 have e1:nth l 0=Bj (l.take 1):=by
  have h1:=aR a1;rw[h1];simp[Bj]
 refine J1 func80 ntmps80 rfl rfl ?_;refine zh ?_
 refine zFH rfl ((decide_eq_false zo)) ?_;rw[e1];refine zh ?_
 refine zlp (fun z:Nat=>[(0,sv),(3,nI ((Bj (l.take z):Nat):Int)),(4,nI z)]) (fun z=>w) (fun z=>1<=z/\z<=l.length) (fun z=>l.length-z) 1 (⟨GT _,a1⟩) ?_;rintro q ⟨a3,hq⟩;refine zh ?_
 refine zC ?_ ?_
 ·intro a0;replace a0:q<l.length:=dT a0;have m1:w.cell? (adr sv 1 q)=some (nI ((nth l q:Nat):Int)):=by have:=h.cell (j:=0) a0 rfl;rwa[ao]at this
  refine zh ?_;refine zvH (gH rfl rfl) ?_
  rw[show max ((Bj (l.take q):Nat):Int) ((nth l q:Nat):Int)=((Bj (l.take (q+1)):Nat):Int)from by rw[aR a0,Bi];omega];refine zxd (q+1) (⟨zo,a0⟩)
 intro a2;obtain rfl:q=l.length:=dF a2;rw[Jo];refine zh ?_;refine ae rfl rfl (⟨rfl,rfl⟩)
theorem Df(l:List Nat)(sv:ix)(w:ka)(h:Sl aX 1 w sv l)(a1:0<l.length):L6 Js 114 [sv] w fun v w'=>(∃k:Nat,v=nI (k:Int))/\w'=w:=by
 have hl:=h.len_le;have m0:w.cell? (adr sv 1 0)=some (nI ((nth l 0:Nat):Int)):=by have:=h.cell (j:=0) a1 rfl;rwa[ao]at this
 refine J1 func114 ntmps114 rfl rfl ?_;refine zh ?_
 refine zFH rfl ((decide_eq_false zo)) ?_;refine zlp (fun z:Nat×Nat=>[(0,sv),(3,nI ((z.2:Nat):Int)),(4,nI z.1)]) (fun z=>w) (fun z=>1<=z.1/\z.1<=l.length) (fun z=>l.length-z.1) (1,nth l 0) (⟨GT _,a1⟩) ?_
 rintro⟨q,k⟩ ⟨a2,hq⟩;dsimp only at a2 hq ⊢;refine zh ?_;refine zC ?_ ?_
 ·intro a0;replace a0:q<l.length:=dT a0;have m1:w.cell? (adr sv 1 q)=some (nI ((nth l q:Nat):Int)):=by have:=h.cell (j:=0) a0 rfl;rwa[ao]at this
  refine zh ?_;refine zvH (Gq rfl rfl) ?_
  rw[show min ((k:Nat):Int) ((nth l q:Nat):Int)=((min k (nth l q):Nat):Int)from by omega];refine zxd (q+1,min k (nth l q)) (⟨by dsimp only;omega,a0⟩)
 intro a3;refine zh ?_;refine ae rfl rfl (⟨⟨k,rfl⟩,rfl⟩)
structure RightD(rows:List (List Nat))(tls:List Nat):Prop where
 pos:0<rows.length
 le:rows.length<=1000
 tl:tls.length=rows.length
 row:∀j,j<rows.length->(nth rows j).length=37/\∀m,m<37->nth (nth rows j) m<rows.length
theorem DI.right{step:List Int->Int->List Int}{a0:List Int->Nat}{S:List (List Int)}{rows:List (List Nat)}{a1:List Nat}(h:DI step a0 S.length S rows a1):RightD rows a1:=by
 have h1:=h.rl;have h2:=h.p0;have h3:=h.len;exact⟨zo,zo,by rw[h.tl,h1],fun j hj=>⟨(h.row j zo).1,fun m hm=>by have:=((h.row j zo).2 m hm).1;omega⟩⟩
theorem jR(nv tv:ix)(rows:List (List Nat))(a5:List Nat)(w:ka)(hn:RowsN w nv rows)(b0:Sl jb 1 w tv a5)(hr:RightD rows a5):L6 Js 68 [.agg #[nv,tv]] w fun v w'=>v=.bool true/\Kz w w':=by
 obtain⟨vs,a7,b1,a8⟩:=hn;have a4:=hr.pos;have b3:=hr.le;have a9:=hr.tl;refine J1 func68 ntmps68 rfl rfl ?_;refine zh ?_;refine aE (au w) 1 zo rfl rfl ?_;intro db w1 O1 a6 b5 b6 a2;have c0:w1.cell? (nA db 0)=some nv:=a6.cell 0 rfl;have c1:w1.cell? (nA db 1)=some tv:=a6.cell 1 rfl;have a3:=a7.ext a2;have a':=b0.ext a2;refine zh ?_;refine ay (d:=11) rfl (b':=false) ((by rw[beq_eq_false_iff_ne];omega)) ?_;refine zh ?_;refine ay (d:=15) rfl (b':=false) ((decide_eq_false zo)) ?_;refine zh ?_;refine zFH rfl ((by rw[bne_eq_false_iff_eq];omega)) ?_;refine zlp (fun z:Nat×ka=>[(3,nI vs.length),(23,nv),(24,nI vs.length),(25,nI z.1)]) (fun z=>z.2) (fun z=>z.1<=vs.length/\z.2=w1) (fun z=>vs.length-z.1) (0,w1) (⟨Gv _,rfl⟩) ?_;rintro⟨q,w2⟩ ⟨hq,rfl⟩;dsimp only at hq ⊢;refine zh ?_;refine zC ?_ ?_
 ·intro a1;replace a1:q<vs.length:=dT a1;have m1:w2.cell? (adr nv 1 q)=some (nth vs q):=by have:=a3.cell (j:=0) a1 rfl;rwa[ao]at this
  obtain⟨r1,r2⟩:=hr.row q zo;have hk:=(a8 q zo).ext a2;have b2:Bj (nth rows q)<rows.length:=F0 a4 _ fun x hx=>by
   obtain⟨j,hj,rfl⟩:=cI hx;exact r2 j zo
  refine zh ?_;refine ay (d:=32) rfl (b':=false) ((by rw[r1];rfl)) ?_
  refine zh ?_;refine zc call114 (Df (nth rows q) _ w2 hk zo) ?_
  rintro v w9 ⟨⟨k,rfl⟩,a0⟩;rw[a0];clear a0 w9;refine zh ?_;refine ay (d:=37) rfl (b':=false) ((decide_eq_false zo)) ?_;refine zh ?_;refine zc call80 (Di (nth rows q) _ w2 hk zo) ?_;rintro v w9 ⟨rfl,a0⟩;rw[a0];clear a0 w9;refine zh ?_;refine zFH rfl ((decide_eq_false zo)) ?_;refine zxd (q+1,w2) (⟨a1,rfl⟩)
 intro b4;refine zh ?_;refine ae rfl rfl (⟨rfl,a2⟩)
def runN(nx:Nat->Nat->Nat)(w:List Nat)(q:Nat):Nat:=w.foldl nx q
def Alike(nx:Nat->Nat->Nat)(tl:Nat->Nat)(p q:Nat):Prop:=∀w:List Nat,(∀m∈w,m<37)->tl (runN nx w p)=tl (runN nx w q)
theorem Alike.step{nx:Nat->Nat->Nat}{tl:Nat->Nat}{p q:Nat}(h:Alike nx tl p q){m:Nat}(hm:m<37):Alike nx tl (nx p m) (nx q m):=fun w hw=>h (m::w) fun x hx=>by
 rcases L8.1 hx with rfl|hx
 ·exact hm
 exact hw x hx
theorem Alike.symm{nx:Nat->Nat->Nat}{tl:Nat->Nat}{p q:Nat}(h:Alike nx tl p q):Alike nx tl q p:=fun w hw=>(h w hw).symm
structure Blk(nx:Nat->Nat->Nat)(tl:Nat->Nat)(n:Nat)(bl:List Nat)(st:Nat->List Nat)(many:Nat):Prop where
 len:bl.length=n
 lt:∀i,i<n->nth bl i<many
 mem:∀b,b<many->∀x,x∈st b↔x<n/\nth bl x=b
 nd:∀b,b<many->(st b).Nodup
 ne:∀b,b<many->st b≠[]
 told:∀p q,p<n->q<n->nth bl p=nth bl q->tl p=tl q
 alike:∀p q,p<n->q<n->Alike nx tl p q->nth bl p=nth bl q
theorem Blk.many_le{nx:Nat->Nat->Nat}{tl:Nat->Nat}{n:Nat}{bl:List Nat}{st:Nat->List Nat}{many:Nat}(h:Blk nx tl n bl st many):many<=n:=by
 have a0:∀b,b<many->(st b).headD 0∈st b:=fun b hb=>by
  have:=h.ne b hb
  cases hs:st b with
  |nil=>exact absurd hs this
  |cons a r=>simp
 have a1:((K5 many).map fun b=>(st b).headD 0).Nodup:=by
  refine M5.2 (MP ?_ List.nodup_range);intro a b ha hb a2 e;have ha:=K6.1 ha;have hb:=K6.1 hb;have h1:=((h.mem a ha _).1 (a0 a ha)).2;have h2:=((h.mem b hb _).1 (a0 b hb)).2;exact a2 (by rw[<-h1,<-h2,e])
 have:=gu a1 (n:=n) fun x hx=>by
  obtain⟨b,hb,rfl⟩:=JO.1 hx;have hb:=K6.1 hb;exact((h.mem b hb _).1 (a0 b hb)).1
 simpa using this
def Pend(nx:Nat->Nat->Nat)(n:Nat)(bl:List Nat)(td:Nat->Nat->Prop)(m0:Nat)(P0:Nat->Prop)(a0:Nat->Prop):Prop:=
 ∀p q m,p<n->q<n->m<37->nth bl p=nth bl q->nth bl (nx p m)≠nth bl (nx q m)->(td (nth bl (nx p m)) m\/td (nth bl (nx q m)) m)\/(m=m0/\¬(P0 p↔P0 q)/\a0 (nth bl p))
def Todo(nx:Nat->Nat->Nat)(n:Nat)(bl:List Nat)(td:Nat->Nat->Prop):Prop:=
 ∀p q m,p<n->q<n->m<37->nth bl p=nth bl q->nth bl (nx p m)≠nth bl (nx q m)->td (nth bl (nx p m)) m\/td (nth bl (nx q m)) m
theorem Todo.take{nx:Nat->Nat->Nat}{n:Nat}{bl:List Nat}{td a1:Nat->Nat->Prop}(h:Todo nx n bl td)(b0 m0:Nat)(ht:∀b m,td b m->a1 b m\/(b=b0/\m=m0))(a2:Nat->Prop)(hr:∀p,p<n->nth bl (nx p m0)=b0->a2 (nth bl p)):
  Pend nx n bl a1 m0 (fun p=>nth bl (nx p m0)=b0) a2:=fun p q m hp hq hm e a0=>by
 rcases h p q m hp hq hm e a0 with h1|h1
 ·rcases ht _ _ h1 with h2|⟨h2,rfl⟩
  ·exact .inl (.inl h2)
  exact .inr ⟨rfl,fun hi=>a0 (by rw[h2,hi.1 h2]),hr p hp h2⟩
 rcases ht _ _ h1 with h2|⟨h2,rfl⟩
 ·exact .inl (.inr h2)
 exact .inr ⟨rfl,fun hi=>a0 (by rw[h2,hi.2 h2]),by rw[e];exact hr q hq h2⟩
theorem Pend.done{nx:Nat->Nat->Nat}{n:Nat}{bl:List Nat}{td:Nat->Nat->Prop}{m0:Nat}{P0 a0:Nat->Prop}(h:Pend nx n bl td m0 P0 a0)(hr:∀b,¬a0 b):Todo nx n bl td:=fun p q m hp hq hm e a1=>by
 rcases h p q m hp hq hm e a1 with h1|⟨_,_,h1⟩
 ·exact h1
 exact absurd h1 (hr _)
theorem Pend.whole{nx:Nat->Nat->Nat}{n:Nat}{bl:List Nat}{td:Nat->Nat->Prop}{m0:Nat}{P0 a1 a0:Nat->Prop}(h:Pend nx n bl td m0 P0 a1){k:Nat}(hk:∀p,p<n->nth bl p=k->P0 p)(hr:∀b,a1 b->b=k\/a0 b):Pend nx n bl td m0 P0 a0:=fun p q m hp hq hm e a2=>by
 rcases h p q m hp hq hm e a2 with h1|⟨h1,h2,h3⟩
 ·exact .inl h1
 rcases hr _ h3 with h4|h4
 ·exact absurd ⟨fun _=>hk q hq (e.symm.trans h4),fun _=>hk p hp h4⟩ h2
 exact .inr ⟨h1,h2,h4⟩
structure Cut(n:Nat)(bl bl':List Nat)(st st':Nat->List Nat)(many k:Nat)(L:List Nat):Prop where
 len:bl'.length=n
 bl:∀x,x<n->nth bl' x=if x∈L then many else nth bl x
 new:st' many=L
 old:st' k=(st k).filter fun x=>!(L.contains x)
 oth:∀b,b≠many->b≠k->st' b=st b
theorem Blk.cut{nx:Nat->Nat->Nat}{tl:Nat->Nat}{n:Nat}{bl a4:List Nat}{st a6:Nat->List Nat}{many k:Nat}{L:List Nat}(h:Blk nx tl n bl st many)(c:Cut n bl a4 st a6 many k L)(hk:k<many)(hL:∀x∈L,x<n/\nth bl x=k)(a':L.Nodup)(b0:L≠[])(b1:L.length<(st k).length) 
  (a9:∀p q,p<n->q<n->Alike nx tl p q->p∈L->q∈L):Blk nx tl n a4 a6 (many+1):=by
 have a0:∀x,x<n->x∉L->nth a4 x=nth bl x:=fun x hx hn=>by rw[c.bl x hx,if_neg hn]
 have a3:∀x,x<n->x∈L->nth a4 x=many:=fun x hx hn=>by rw[c.bl x hx,if_pos hn]
 refine⟨c.len,fun i hi=>?_,fun b hb x=>?_,fun b hb=>?_,fun b hb=>?_,fun p q hp hq e=>?_,fun p q hp hq ha=>?_⟩
 ·have:=h.lt i hi
  by_cases a7:i∈L
  ·rw[a3 i hi a7];omega
  rw[a0 i hi a7];omega
 ·by_cases a1:b=many
  ·subst a1;rw[c.new]
   constructor
   ·intro hx;exact⟨(hL x hx).1,a3 x (hL x hx).1 hx⟩
   rintro⟨hx,e⟩;refine J7 fun hn=>?_
   rw[a0 x hx hn]at e;have:=h.lt x hx;omega
  have a8:b<many:=zo
  by_cases a2:b=k
  ·subst a2;rw[c.old,JW,h.mem b a8 x]
   constructor
   ·rintro⟨⟨h1,h2⟩,h3⟩;have hn:x∉L:=by simpa using h3
    exact⟨h1,by rw[a0 x h1 hn];exact h2⟩
   rintro⟨h1,h2⟩;have hn:x∉L:=fun hx=>by rw[a3 x h1 hx]at h2;omega
   exact⟨⟨h1,by rw[<-a0 x h1 hn];exact h2⟩,by simpa using hn⟩
  rw[c.oth b a1 a2,h.mem b a8 x]
  constructor
  ·rintro⟨h1,h2⟩;have hn:x∉L:=fun hx=>a2 (by rw[<-h2];exact(hL x hx).2)
   exact⟨h1,by rw[a0 x h1 hn];exact h2⟩
  rintro⟨h1,h2⟩;have hn:x∉L:=fun hx=>a1 (by rw[<-h2];exact a3 x h1 hx)
  exact⟨h1,by rw[<-a0 x h1 hn];exact h2⟩
 ·by_cases a1:b=many
  ·subst a1;rw[c.new];exact a'
  by_cases a2:b=k
  ·subst a2;rw[c.old];exact(h.nd b zo).filter _
  rw[c.oth b a1 a2];exact h.nd b zo
 ·by_cases a1:b=many
  ·subst a1;rw[c.new];exact b0
  by_cases a2:b=k
  ·subst a2;rw[c.old];intro e;have a5:st b ⊆ L:=fun x hx=>by
    refine J7 fun hn=>?_
    have:x∈(st b).filter fun x=>!(L.contains x):=JW.2 ⟨hx,by simpa using hn⟩
    rw[e]at this;simp at this
   have:=(h.nd b zo).length_le_of_subset a5;omega
  rw[c.oth b a1 a2];exact h.ne b zo
 ·refine h.told p q hp hq ?_
  by_cases h1:p∈L
  ·by_cases h2:q∈L
   ·rw[(hL p h1).2,(hL q h2).2]
   rw[a3 p hp h1,a0 q hq h2]at e;have:=h.lt q hq;omega
  by_cases h2:q∈L
  ·rw[a0 p hp h1,a3 q hq h2]at e;have:=h.lt p hp;omega
  rw[a0 p hp h1,a0 q hq h2]at e;exact e
 by_cases h1:p∈L
 ·rw[a3 p hp h1,a3 q hq (a9 p q hp hq ha h1)]
 have h2:q∉L:=fun hx=>h1 (a9 q p hq hp ha.symm hx)
 rw[a0 p hp h1,a0 q hq h2];exact h.alike p q hp hq ha
theorem Pend.cut{nx:Nat->Nat->Nat}{tl:Nat->Nat}{n:Nat}{bl a6:List Nat}{st b4:Nat->List Nat}{many k m0:Nat}{L:List Nat}{td a3:Nat->Nat->Prop}{P0 a' a5:Nat->Prop}(hB:Blk nx tl n bl st many)(h:Pend nx n bl td m0 P0 a')(c:Cut n bl a6 st b4 many k L)(_:k<many) 
  (b2:∀p m,p<n->m<37->nx p m<n) (hL:∀x,x∈L↔x<n/\nth bl x=k/\P0 x)
  (ht:∀b m,td b m->a3 b m) (b5:∀m,m<37->td k m->a3 many m) (b1:∀m,m<37->a3 many m\/a3 k m) (hr:∀b,a' b->b=k\/a5 b):Pend nx n a6 a3 m0 P0 a5:=fun p q m hp hq hm e b3=>by
 have a0:∀x,x<n->x∉L->nth a6 x=nth bl x:=fun x hx hn=>by rw[c.bl x hx,if_neg hn]
 have a2:∀x,x<n->x∈L->nth a6 x=many:=fun x hx hn=>by rw[c.bl x hx,if_pos hn]
 have a4:∀x,x∈L->nth bl x=k:=fun x hx=>((hL x).1 hx).2.1
 have a1:nth bl p=nth bl q/\(p∈L↔q∈L):=by
  by_cases h1:p∈L
  ·by_cases h2:q∈L
   ·exact⟨by rw[a4 p h1,a4 q h2],by simp[h1,h2]⟩
   rw[a2 p hp h1,a0 q hq h2]at e;have:=hB.lt q hq;omega
  by_cases h2:q∈L
  ·rw[a0 p hp h1,a2 q hq h2]at e;have:=hB.lt p hp;omega
  rw[a0 p hp h1,a0 q hq h2]at e;exact⟨e,by simp[h1,h2]⟩
 have hx:=b2 p m hp hm;have hy:=b2 q m hq hm;have hh:=h p q m hp hq hm a1.1;generalize nx p m=x at *;generalize nx q m=y at *;have b0:∀z,z<n->td (nth bl z) m->a3 (nth a6 z) m:=fun z hz a9=>by
  by_cases h1:z∈L
  ·rw[a2 z hz h1];rw[a4 z h1]at a9;exact b5 m hm a9
  rw[a0 z hz h1];exact ht _ _ a9
 by_cases a7:nth bl x=nth bl y
 ·by_cases h1:x∈L
  ·by_cases h2:y∈L
   ·exact absurd (by rw[a2 x hx h1,a2 y hy h2]) b3
   have e1:=a4 x h1;rw[a2 x hx h1,a0 y hy h2,<-a7,e1];exact .inl (b1 m hm)
  by_cases h2:y∈L
  ·have e1:=a4 y h2;rw[a2 y hy h2,a0 x hx h1,a7,e1];exact .inl ((b1 m hm).symm)
  exact absurd (by rw[a0 x hx h1,a0 y hy h2,a7]) b3
 rcases hh a7 with(h1|h1)|⟨h1,h2,h3⟩
 ·exact .inl (.inl (b0 x hx h1))
 ·exact .inl (.inr (b0 y hy h1))
 by_cases a8:nth bl p=k
 ·exact absurd ⟨fun a=>((hL q).1 (a1.2.1 ((hL p).2 ⟨hp,a8,a⟩))).2.2,fun a=>((hL p).1 (a1.2.2 ((hL q).2 ⟨hq,by rw[<-a1.1];exact a8,a⟩))).2.2⟩ h2
 have b6:p∉L:=fun a=>a8 (a4 p a)
 rcases hr _ h3 with h4|h4
 ·exact absurd h4 a8
 exact .inr ⟨h1,h2,by rw[a0 p hp b6];exact h4⟩
theorem Blk.final{nx:Nat->Nat->Nat}{tl:Nat->Nat}{n:Nat}{bl:List Nat}{st:Nat->List Nat}{many:Nat}(h:Blk nx tl n bl st many)(ht:Todo nx n bl fun _ _=>False)(a0:∀p m,p<n->m<37->nx p m<n)(p q:Nat)(hp:p<n)(hq:q<n):nth bl p=nth bl q↔Alike nx tl p q:=by
 refine⟨fun e w=>?_,h.alike p q hp hq⟩
 induction w generalizing p q with
 |nil=>exact fun _=>h.told p q hp hq e
 |cons m w ih=>
  intro hw;have hm:=hw m (by simp);refine ih (nx p m) (nx q m) (a0 p m hp hm) (a0 q m hq hm) (J7 fun a1=>?_) fun x hx=>hw x (by simp[hx])
  rcases ht p q m hp hq hm e a1 with h1|h1<;>exact h1
section
variable(cl:Nat→Nat)(nx:Nat→Nat→Nat)
def yq(F:List Nat)(t:Nat):Option Nat:=F.findIdx? fun o=>cl o==cl t
def fnI(F:List Nat)(t:Nat):Nat:=(yq cl F t).getD F.length
def fnF(F:List Nat)(t:Nat):List Nat:=if(yq cl F t).isSome=true then F else F++[t]
def ju(p:Nat)(F:List Nat):Nat->List Nat×List Nat
 |0=>(F,[])
 |m+1=>(fnF cl (ju p F m).1 (nx p m),(ju p F m).2++[fnI cl (ju p F m).1 (nx p m)])
end
theorem BN{cl:Nat->Nat}{F:List Nat}{t k:Nat}(h:yq cl F t=some k):k<F.length/\cl (nth F k)=cl t:=by
 obtain⟨h1,h2,_⟩:=JN.1 h;exact⟨h1,by rw[aB h1];simpa using h2⟩
theorem BQ{cl:Nat->Nat}{F:List Nat}{t:Nat}(h:yq cl F t=none):∀o∈F,cl o≠cl t:=by
 intro o ho e;have:=List.findIdx?_eq_none_iff.1 h o ho;simp[e]at this
theorem Ga(cl:Nat->Nat)(F:List Nat)(t:Nat):∃r,fnF cl F t=F++r:=by
 unfold fnF
 split
 ·exact⟨[],by simp⟩
 exact⟨_,rfl⟩
theorem GX(cl:Nat->Nat)(F:List Nat)(t:Nat):fnI cl F t<(fnF cl F t).length/\cl (nth (fnF cl F t) (fnI cl F t))=cl t:=by
 unfold fnI fnF
 cases h:yq cl F t with
 |some k=>exact BN h
 |none=>
  simp only[LW,Lw,KA,if_false];exact⟨by simp,by rw[aA,if_neg zo,K1,ar]⟩
structure Reps(cl:Nat->Nat)(n:Nat)(F:List Nat):Prop where
 lt:∀o∈F,o<n
 nd:F.Pairwise fun a b=>cl a≠cl b
theorem Reps.add{cl:Nat->Nat}{n:Nat}{F:List Nat}(h:Reps cl n F){t:Nat}(ht:t<n):Reps cl n (fnF cl F t):=by
 unfold fnF
 cases hf:yq cl F t with
 |some k=>exact h
 |none=>
  have a0:=BQ hf
  exact⟨fun o ho=>by
   rcases JK.1 ho with ho|ho
   ·exact h.lt o ho
   rw[ln.1 ho];exact ht,Lx.2 ⟨h.nd,by simp,fun a ha b hb=>by rw[ln.1 hb];exact a0 a ha⟩⟩
theorem Reps.len{cl:Nat->Nat}{n:Nat}{F:List Nat}(h:Reps cl n F):F.length<=n:=
 gu (h.nd.imp fun {a b} a0 e=>a0 (by rw[e])) h.lt
structure RowR(cl:Nat->Nat)(nx:Nat->Nat->Nat)(n p:Nat)(F F' r:List Nat)(m:Nat):Prop where
 pre:∃q,F'=F++q
 len:r.length=m
 lt:∀j,j<m->nth r j<F'.length/\cl (nth F' (nth r j))=cl (nx p j)
 reps:Reps cl n F'
theorem qZ{cl:Nat->Nat}{nx:Nat->Nat->Nat}{n p:Nat}{F:List Nat}(hF:Reps cl n F)(a3:∀m,m<37->nx p m<n):∀m,m<=37->RowR cl nx n p F (ju cl nx p F m).1 (ju cl nx p F m).2 m
 |0,_=>⟨⟨[],by simp[ju]⟩,rfl,fun j hj=>absurd hj (Gb j),hF⟩
 |m+1,hm=>by
  have ih:=qZ hF a3 m zo;unfold ju;generalize ju cl nx p F m=R at *;obtain⟨F1,r⟩:=R;dsimp only at ih ⊢;obtain⟨q,hq⟩:=ih.pre;obtain⟨q2,a0⟩:=Ga cl F1 (nx p m);have a5:=GX cl F1 (nx p m);have a4:=ih.len;have a6:F1.length<=(fnF cl F1 (nx p m)).length:=by rw[a0];simp
  refine⟨⟨q++q2,by rw[a0,hq,Jt]⟩,by simp[a4],fun j hj=>?_,ih.reps.add (a3 m zo)⟩;rw[aA]
  by_cases e:j<r.length
  ·rw[if_pos e];obtain⟨a1,a2⟩:=ih.lt j zo;exact⟨zo,by rw[a0,aA,if_pos a1];exact a2⟩
  rw[if_neg e,show j-r.length=0 from by omega,ar];obtain rfl:j=m:=zo;exact a5
def fS(cl:Nat->Nat)(nx:Nat->Nat->Nat)(tl:Nat->Nat):Nat->Nat->List Nat->List (List Nat)->List Nat->List (List Nat)×List Nat
 |0,_,_,rows,tls=>(rows,tls)
 |n+1,i,F,rows,tls=>
  if i<F.length then fS cl nx tl n (i+1) (ju cl nx (nth F i) F 37).1 (rows++[(ju cl nx (nth F i) F 37).2]) (tls++[tl (nth F i)])
  else(rows,tls)
def nxD(rows:List (List Nat))(q m:Nat):Nat:=nth (nth rows q) m
def aU(cl:Nat->Nat)(rows:List (List Nat))(a0:List Nat):List (List Nat)×List Nat:=fS cl (nxD rows) (nth a0) (rows.length+1) 0 [0] [] []
structure LI(cl:Nat->Nat)(nx:Nat->Nat->Nat)(tl:Nat->Nat)(n i:Nat)(F:List Nat)(rows:List (List Nat))(tls:List Nat):Prop where
 le:i<=F.length
 rl:rows.length=i
 tln:tls.length=i
 p0:0<F.length
 fst:nth F 0=0
 reps:Reps cl n F
 row:∀j,j<i->(nth rows j).length=37/\∀m,m<37->nth (nth rows j) m<F.length/\cl (nth F (nth (nth rows j) m))=cl (nx (nth F j) m)
 tel:∀j,j<i->nth tls j=tl (nth F j)
theorem nt{cl:Nat->Nat}{nx:Nat->Nat->Nat}{tl:Nat->Nat}{n:Nat}(h0:0<n):LI cl nx tl n 0 [0] [] []:=⟨zd,rfl,rfl,zd,ar _ _,⟨fun o ho=>by rw[ln.1 ho];exact h0,by simp⟩,fun j hj=>absurd hj (Gb j),fun j hj=>absurd hj (Gb j)⟩
theorem LI.next{cl:Nat->Nat}{nx:Nat->Nat->Nat}{tl:Nat->Nat}{n i:Nat}{F:List Nat}{rows:List (List Nat)}{a3:List Nat}(h:LI cl nx tl n i F rows a3)(hi:i<F.length)(a4:∀p m,p<n->m<37->nx p m<n):
  LI cl nx tl n (i+1) (ju cl nx (nth F i) F 37).1 (rows++[(ju cl nx (nth F i) F 37).2]) (a3++[tl (nth F i)]):=by
 have hr:=qZ (p:=nth F i) h.reps (fun m hm=>a4 (nth F i) m (h.reps.lt _ (aO hi)) hm) 37 (GT _);generalize ju cl nx (nth F i) F 37=R at *;obtain⟨F1,r⟩:=R;dsimp only at hr ⊢;obtain⟨q,hq⟩:=hr.pre;have a0:∀k,k<F.length->nth F1 k=nth F k:=fun k hk=>by rw[hq,aA,if_pos hk]
 have a5:F.length<=F1.length:=by rw[hq];simp
 have h1:=h.rl;have h2:=h.tln;have h3:=h.p0;refine⟨zo,by simp[h1],by simp[h2],zo,by rw[a0 0 h3];exact h.fst,hr.reps,fun j hj=>?_,fun j hj=>?_⟩
 ·rw[aA]
  by_cases e:j<rows.length
  ·rw[if_pos e];obtain⟨a1,a2⟩:=h.row j zo;refine⟨a1,fun m hm=>?_⟩;obtain⟨b1,b2⟩:=a2 m hm;exact⟨zo,by rw[a0 _ b1,a0 j zo];exact b2⟩
  rw[if_neg e,show j-rows.length=0 from by omega,ar];obtain rfl:j=i:=zo;refine⟨hr.len,fun m hm=>?_⟩;obtain⟨b1,b2⟩:=hr.lt m hm;exact⟨b1,by rw[a0 j hi];exact b2⟩
 rw[aA]
 by_cases e:j<a3.length
 ·rw[if_pos e,a0 j zo];exact h.tel j zo
 rw[if_neg e,show j-a3.length=0 from by omega,ar];obtain rfl:j=i:=zo;rw[a0 j hi]
theorem gx{cl:Nat->Nat}{nx:Nat->Nat->Nat}{tl:Nat->Nat}{n:Nat}(a1:∀p m,p<n->m<37->nx p m<n):∀(f i:Nat) (F:List Nat) (rows:List (List Nat)) (a0:List Nat),LI cl nx tl n i F rows a0->n+1<=i+f->∃F',LI cl nx tl n F'.length F' (fS cl nx tl f i F rows a0).1 (fS cl nx tl f i F rows a0).2
 |0,i,F,rows,a0,h,hf=>by have:=h.le;have:=h.reps.len;omega
 |f+1,i,F,rows,a0,h,hf=>by
  unfold fS
  split
  ·rename_i hi;exact gx a1 f (i+1) _ _ _ (h.next hi a1) zo
  rename_i hi;have:=h.le;obtain rfl:i=F.length:=zo;exact⟨F,h⟩
def Jb(F:Nw)(cs:Array ix)(i:Nat)(_:Nat)(O:Nat->Nat)(w:ka)(l:List Nat)(q:Nat->Bool):Prop:=
 ∀x∈l,∀(O':Nat->Nat) (W:ka),J4 (fun k=>k=i) O w O' W->L6 Js F ([nI (x:Nat)]++cs.toList) W fun v W'=>v=.bool (q x)/\Kz W W'
theorem pF{F:Nw}(hF:∀(args:Array ix) (w:ka),(callFunc F args).run Js w=.ok (.enter F args) w)(cs:Array ix)(B:Nat)(O:Nat->Nat)(w:ka)(i:Nat)(sv:ix)(l:List Nat)(q:Nat->Bool)(hi:i≠0)(_:Kx B O w)(hr:Jy aX 3 1 O w i sv l)(hq:Jb F cs i B O w l q):
  L6 Js 174 [sv,.func (.func F) #[] cs] w fun v w'=>v=nI (firstN (fun j=>q (nth l j)) l.length)/\Kz w w':=by
 have hl:=hr.sl.len_le;refine J1 func174 ntmps174 rfl rfl ?_;refine zh ?_;refine zvH (aM hr.sl.sh J3 rfl) ?_;refine zlp (fun x:Nat×ka=>[(0,sv),(1,.func (.func F) #[] cs),(7,nI l.length),(8,nI x.1)]) (fun x=>x.2) (fun x=>x.1<=l.length/\Kz w x.2/\∀j,j<x.1->q (nth l j)=false) (fun x=>l.length-x.1) (0,w) (⟨Gv _,IJ _,fun i hi=>absurd hi (Gb i)⟩) ?_;rintro⟨k,w1⟩ ⟨hk,hE,a1⟩;dsimp only at hk hE a1 ⊢;have h1:=hr.sl.ext hE;refine zh ?_;refine zC ?_ ?_
 ·intro a0;replace a0:k<l.length:=dT a0;have m1:w1.cell? (adr sv 1 k)=some (nI ((nth l k:Nat):Int)):=by have:=h1.cell (j:=0) a0 rfl;rwa[ao]at this
  refine zh ?_;refine dN rfl hF rfl (hq _ (aO a0) O w1 (aa (fun e=>hi e.symm) O hE)) rfl ?_
  rintro v w2 ⟨rfl,a3⟩;refine zh ?_;refine zC ?_ ?_
  ·intro hy;refine zh ?_;refine ae rfl rfl (⟨by rw[cG (q:=fun j=>q (nth l j)) a0 hy a1],hE.trans a3⟩)
  intro hy;refine zh ?_;refine zxd (k+1,w2) (⟨a0,hE.trans a3,fun i hi=>(Nat.lt_succ_iff_lt_or_eq.1 hi).elim (a1 i) (fun e=>by rw[e];exact hy)⟩)
 intro a2;replace a2:l.length<=k:=dF a2;refine zh ?_;refine ae rfl rfl (⟨by rw[cE (q:=fun j=>q (nth l j)) fun i hi=>a1 i zo],hE⟩)
def gO(q:Nat->Bool)(l:List Nat):List Nat:=l.filter fun x=>!q x
theorem ja{q:Nat->Bool}{l:List Nat}{j:Nat}(h:j<l.length):gO q (l.take (j+1))=gO q (l.take j)++if q (nth l j)=true then []else [nth l j]:=by
 unfold gO;rw[aR h,Ky,Mc]
 cases q (nth l j)<;>rfl
theorem pM{F:Nw}(hF:∀(args:Array ix) (w:ka),(callFunc F args).run Js w=.ok (.enter F args) w)(cs:Array ix)(B:Nat)(O:Nat->Nat)(w:ka)(i:Nat)(sv:ix)(l:List Nat)(q:Nat->Bool)(hi:i≠0)(hR:Kx B O w)(hr:Jy aX 3 1 O w i sv l)(hq:Jb F cs i B O w l q):
  L6 Js 172 [sv,.func (.func F) #[] cs] w fun v w'=>Jy aX 3 1 O w' i v (gO q l)/\J4 (fun k=>k=i) O w O w':=by
 have hl:=hr.sl.len_le;have hz:¬(fun k=>k=i) 0:=fun e=>hi e.symm
 refine J1 func172 ntmps172 rfl rfl ?_;refine zh ?_
 refine zc call174 (pF hF cs B O w i sv l q hi hR hr hq) ?_;rintro _ w1 ⟨rfl,d1⟩;have d0:J4 (fun k=>k=i) O w O w1:=aa hz O d1;have c5:Jy aX 3 1 O w1 i sv l:=hr.upd (aa (S:=fun _=>False) (fun h=>h) O d1) hi fun h=>h
 refine zh ?_
 by_cases a':jc (fun j=>q (nth l j)) l.length=true
 ·obtain⟨j0,b1,b5,a9⟩:∃j0,j0<l.length/\q (nth l j0)=true/\∀j,j<j0->q (nth l j)=false:=by
   have hf:=(firstN_any (q:=fun j=>q (nth l j)) (n:=l.length)).trans a'
   cases c9:(K5 l.length).find? (fun j=>q (nth l j))with
   |none=>rw[firstN,c9]at hf;exact absurd hf zd
   |some k=>
    obtain⟨a1,a2,a3⟩:=List.find?_range_eq_some.1 c9;exact⟨k,K6.1 a2,a1,fun j hj=>by simpa using a3 j hj⟩
  have b7:firstN (fun j=>q (nth l j)) l.length=(j0:Int):=cG b1 b5 a9;rw[b7];have c8:∀j,j<=j0->gO q (l.take j)=l.take j:=fun j=>by
   induction j with
   |zero=>intro _;rfl
   |succ j ih=>
    intro hj;rw[ja zo,ih zo,a9 j zo,aR zo];rfl
  refine zFH rfl ((by rw[beq_eq_false_iff_ne];omega)) ?_;refine zlp (fun z:Nat×Nat×ka×List Nat=>[(0,sv),(1,.func (.func F) #[] cs),(5,nI z.1),(6,nI z.2.1)]) (fun z=>z.2.2.1) (fun z=>z.2.1<=l.length/\z.1<z.2.1/\z.1=(gO q (l.take z.2.1)).length/\z.2.2.2.length=l.length/\z.2.2.2.take z.1=gO q (l.take z.2.1)/\(∀j,z.2.1<=j->j<l.length->nth z.2.2.2 j=nth l j)/\Jy aX 3 1 O z.2.2.1 i sv z.2.2.2/\J4 (fun k=>k=i) O w O z.2.2.1) (fun z=>l.length-z.2.1) (j0,j0+1,w1,l) (⟨b1,Nat.lt_succ_self _,by dsimp only;rw[ja b1,b5,if_pos rfl,Jn,c8 j0 (GT _)];simp;omega,rfl,by dsimp only;rw[ja b1,b5,if_pos rfl,Jn,c8 j0 (GT _)],fun _ _ _=>rfl,c5,d0⟩) ?_
  rintro⟨a,j,w2,l2⟩ ⟨hj,d6,ha,b6,a7,a0,b0,b3⟩;dsimp only at hj d6 ha b6 a7 a0 b0 b3 ⊢;have b':=b0.sl;refine zh ?_;refine zC ?_ ?_
  ·intro a4;replace a4:j<l.length:=dT a4;have d3:=a0 j (GT _) a4;have m1:w2.cell? (adr sv 1 j)=some (nI ((nth l j:Nat):Int)):=by have:=b'.cell (i:=j) (j:=0) zo rfl;rw[ao,d3]at this;exact this
   have a6:=ja (q:=q) a4;refine zh ?_;refine dN rfl hF rfl (hq _ (aO a4) O w2 b3) rfl ?_;rintro v w3 ⟨rfl,d8⟩;have c':J4 (fun _=>False) O w2 O w3:=aa (fun h=>h) O d8;have a5:=b0.upd c' hi fun h=>h
   have b2:=b3.trans (c'.mono (fun _ h=>h.elim) hz);refine zh ?_
   cases c6:q (nth l j)with
   |true=>
    rw[c6,if_pos rfl,Jn]at a6;refine zFH rfl rfl ?_;refine zxd (a,j+1,w3,l2) (⟨a4,by dsimp only;omega,by dsimp only;rw[a6];exact ha,b6,by dsimp only;rw[a6];exact a7,fun x h1 h2=>a0 x (by dsimp only at h1;omega) h2,a5,b2⟩)
   |false=>
    rw[c6,if_neg zd]at a6;have b9:=a5.sl;refine zTH rfl rfl ?_;refine N4 a5 a zo (nth l j) (K8 _) rfl hi rfl rfl rfl rfl ?_;intro w4 d2 d7;refine zh ?_;refine zxd (a+1,j+1,w4,l2.set a (nth l j)) (⟨a4,by dsimp only;omega,by dsimp only;rw[a6,I4,<-ha];rfl,by dsimp only;rw[Gh];exact b6,?_,fun x h1 h2=>?_,d2,b2.trans d7⟩)
    ·dsimp only;have d5:a<(l2.set a (nth l j)).length:=by rw[Gh];omega
     rw[a6,KE d5,Ln,LH (GT _),a7]
    dsimp only at h1 ⊢;rw[aT zo,if_neg zo];exact a0 x zo h2
  intro d4;obtain rfl:j=l.length:=dF d4;rw[Jo]at ha a7;refine zh ?_;refine zv (qL b' J3 (K8 _) rfl rfl a rfl zo) ?_;refine uP b0 a zo (0:Nat) hi J3 (KO) rfl rfl rfl rfl ?_;intro w3 l3 a5 b4 d9 b2;have b8:=a5.short (n:=a) zo;rw[b4,a7]at b8;have b9:=a5.sl;refine zh ?_;refine zvH (Af b9 J3 (K8 _) rfl rfl a rfl zo) ?_;refine ae rfl rfl (⟨b8,b3.trans b2⟩)
 have c7:=bz.1 (by simpa using a');have b7:firstN (fun j=>q (nth l j)) l.length = -1:=cE c7;rw[b7];have a8:gO q l=l:=JY.2 fun x hx=>by
  obtain⟨j,hj,rfl⟩:=cI hx;rw[c7 j hj];rfl
 rw[a8];refine zTH rfl rfl ?_;refine ae rfl rfl (⟨c5,d0⟩)
theorem Io:MQ Js 210 et:=CA N0 Kj zk zk
theorem Iv:cV Js 228 #[(0,2),(2,1),(3,1),(4,1),(5,1),(6,1)]:=⟨_,underlying228,fun w=>by kernel_rfl⟩
theorem ql(B:Nat)(O:Nat->Nat)(w:ka)(sb tr:Nat)(td:List ((Int×Int)×Bool))(hR:Kx B O w)(hc:Cell0 O w (nA sb 5) (.map (some tr))\/(O (nA sb 5).block=1/\w.cell? (nA sb 5)=some (.map (some tr))))(hm:JS et KU O w 4 tr td):
  L6 Js 147 [nP sb] w fun v w'=>
   (td=[]/\v=.tuple #[et (0,0),.bool false]/\J4 (fun q=>q=4) O w O w'/\JS et KU O w' 4 tr td)\/
   ∃b4 k x b3,td=b4++(k,x)::b3/\v=.tuple #[et k,.bool true]/\J4 (fun q=>q=4) O w O w'/\JS et KU O w' 4 tr (pQ td k):=by
 obtain⟨T0,d',c'⟩:=hR.bound;obtain⟨T,e3⟩:∃T,T=T0+10:=⟨_,rfl⟩
 have hT:∀b,O b<T:=fun b=>by have:=c' b;omega
 have d4:=hm.tag;have a2:w.cell? (nA sb 5)=some (.map (some tr)):=by
  rcases hc with h|h
  ·exact h.c
  exact h.2
 have d5:O (nA sb 5).block=0\/O (nA sb 5).block=1:=by
  rcases hc with h|h
  ·exact .inl h.z
  exact .inr h.1
 have a3:∀ {S:Nat->Prop} {O':Nat->Nat} {W:ka},J4 S O w O' W->¬S 1->W.cell? (nA sb 5)=some (.map (some tr)):=fun {S O' W} u hS=>by
  refine iC (u.blk _ (L5 w _ a2) ?_) a2
  rcases d5 with h|h
  ·rw[h];exact u.z
  rw[h];exact hS
 refine J1 func147 ntmps147 rfl rfl ?_;refine zh ?_
 refine ax hR T zo (M0 _) rfl ?_;intro cb w1 O1 a1 c9 e2 e6;have d9:=hm.upd c9 zd zo;have c1:=a3 c9 zo;refine zh ?_
 refine oT d9 MZ e2 (T+1) zo zd rfl rfl ?_;intro q w2 O2 d3 d0 b0 e1;have a5:J4 (fun k=>T<=k) O w O2 w2:=(c9.mono (fun _ h=>zo) zo).trans (b0.mono (fun _ h=>zo) zo);have c2:=a3 a5 zo;refine zh ?_
 refine zlp (fun x:Unit=>[(0,nP sb),(2,nP cb),(9,nP q)]) (fun x=>w2) (fun x=>True) (fun x=>0) () (trivial) ?_;rintro⟨⟩ -;refine zh ?_
 refine qJ d3 zo zo rfl rfl ?_ ?_
 ·intro h0;refine zh ?_;refine zFH rfl rfl ?_;refine zv (eX N0 (K8 _) (M0 _) rfl rfl) ?_;refine zsa (us:=#[nI 0,nI 0]) (a1.upd b0 zo zo) (Kr _) ?_;have a8:=a1.upd b0 zo zo;have b8:=a8.setRow (us:=#[nI 0,nI 0]);have a9:J4 (fun k=>T<=k) O2 w2 O2 (w2.setRow cb #[nI 0,nI 0]):=Jp zo a8.tag (GT _);have b9:=a5.trans a9;refine zh ?_;refine bA rfl rfl rfl (b8.cellsAdd) (Ml _) (Kr _) (.inl ⟨h0,rfl,b9.fgt (fun b h=>by have:=hT b;omega) zd,(d0.upd a9 zd zo).fgt hm.tag⟩)
 intro b4 k x b3 w3 d2 b5 a';obtain⟨k1,k2⟩:=k;refine zh ?_;refine zTH rfl rfl ?_;refine zvH (RV.entry b5 rfl) ?_;have c8:J4 (fun k=>T<=k) O w O2 w3:=a5.trans (a'.mono (fun _ h=>zo) zo);have e0:=e1.upd a';have d8:=d0.upd a' zo zo;refine ax e0 (T+2) zo (M0 _) rfl ?_;intro eb w4 O4 a0 b2 e4 e5;have d7:=d8.upd b2 zo zo;refine zsa (us:=#[nI k1,nI k2]) a0 (Kr _) ?_;have a6:=a0.setRow (us:=#[nI k1,nI k2]);have d1:J4 (fun k=>T<=k) O4 w4 O4 (w4.setRow eb #[nI k1,nI k2]):=Jp zo a0.tag zo;have b6:=d7.upd d1 zd zo;have a7:=(((a1.upd b0 zo zo).upd a' zo zo).upd b2 zo zo)
 have c6:J4 (fun k=>T+1<=k) O2 w3 O4 (w4.setRow eb #[nI k1,nI k2]):=(b2.mono (fun _ h=>zo) zo).trans (Jp zo a0.tag zo);have a7:=((a1.upd b0 zo zo).upd a' zo zo).upd c6 zo zo;have b1:=(c8.trans (b2.mono (fun _ h=>zo) zo)).trans d1;generalize w4.setRow eb #[nI k1,nI k2]=w5 at *;have c5:=a3 b1 zo;refine zh ?_;refine WC.tail 5 rfl rfl zk zk ?_;refine zh ?_;refine zw (ai (us:=[nI k1,nI k2]) a6.drew.cellsAdd (Ml _) (Kr _) rfl) ?_;refine WS.go ?_;have hm5d:JS et KU O4 w5.drew 4 tr td:=⟨b6.blk,b6.tag,b6.born⟩
 refine WL.delete hm5d MZ Io zd (k1,k2) rfl rfl rfl ?_;intro w6 d6 b';have b7:=a6.drew.upd b' zo zo;have a4:=a7.drew.upd b' zo zo;have c7:J4 (fun k=>k=4\/T<=k) O w O4 w6:=(b1.drew.mono (fun _ h=>.inr h) zo).trans (b'.mono (fun _ h=>.inl h) zo);refine zh ?_
 refine zv (ai (us:=[nI k1,nI k2]) b7.cellsAdd (Ml _) (Kr _) rfl) ?_;refine zsa (us:=#[nI k1,nI k2]) a4 (Kr _) ?_
 have b8:=a4.setRow (us:=#[nI k1,nI k2]);have a9:J4 (fun k=>k=T) O4 w6 O4 (w6.setRow cb #[nI k1,nI k2]):=Jp zo a4.tag rfl;have b9:=c7.trans (a9.mono (fun _ h=>.inr zo) zo);refine zh ?_;refine bA rfl rfl rfl (b8.cellsAdd) (Ml _) (Kr _) (.inr ⟨b4,(k1,k2),x,b3,d2,rfl,b9.priv hT zd,(d6.upd a9 zd zo).fgt hm.tag⟩)
end Go.Proofs.YtlehnbkknlpkbaaGreatDoor
section
namespace Go.Proofs.YtlehnbkknlpkbaaGreatDoor
open Go.VL Go.Proofs
set_option maxRecDepth 10000
abbrev KVR:=Int×ix×List Nat
abbrev ud(e:KVR):Int×ix:=(e.1,e.2.1)
theorem xm(E:List KVR)(k:Int)(v:ix)(l:List Nat):(cJ E k (v,l)).map ud=cJ (E.map ud) k v:=by
 induction E with
 |nil=>rfl
 |cons e r ih=>
  simp only[cJ,Gi,ud]
  by_cases h:e.1=k
  ·rw[if_pos h,if_pos h];rfl
  rw[if_neg h,if_neg h,Gi,ih]
theorem DL(E:List KVR)(k:Int):bx (E.map ud) k=(bx E k).map (·.1):=by
 induction E with
 |nil=>rfl
 |cons e r ih=>
  simp only[bx,Gi,ud]
  by_cases h:e.1=k
  ·rw[if_pos h,if_pos h];rfl
  rw[if_neg h,if_neg h];exact ih
structure MpR(base i:Nat)(O:Nat->Nat)(w:ka)(r:Nat)(E:List KVR):Prop where
 map:JS (fun k:Int=>nI k) (fun v:ix=>v) O w i r (E.map ud)
 row:∀k,k<E.length->Jy aX 3 1 O w (base+k) (nth E k).2.1 (nth E k).2.2
theorem MpR.upd{base i:Nat}{S:Nat->Prop}{O O':Nat->Nat}{w w':ka}{r:Nat}{E:List KVR}(h:MpR base i O w r E)(u:J4 S O w O' w')(hi:i≠0)(hb:0<base)(hS:¬S i)(a0:∀k,¬S (base+k)):MpR base i O' w' r E:=
 ⟨h.map.upd u hi hS,fun k hk=>(h.row k hk).upd u zo (a0 k)⟩
def lC(E:List KVR)(k:Int):Nat:=(je E k).getD E.length
def dD(E:List KVR)(k:Int):List Nat:=((bx E k).map (·.2)).getD []
def CC(E:List KVR)(k:Int):ix:=((bx E k).map (·.1)).getD (nS)
theorem MpR.at{base i:Nat}{O:Nat->Nat}{w:ka}{r:Nat}{E:List KVR}(h:MpR base i O w r E)(k:Int):Jy aX 3 1 O w (base+lC E k) (CC E k) (dD E k):=by
 unfold lC CC dD;rw[lh]
 cases ha:je E k with
 |none=>exact JC _ _ _ _ _ _
 |some j=>
  obtain⟨x,hx⟩:=iH ha;obtain⟨hj,a0⟩:=JI.1 hx;have h1:=h.row j hj;rw[aB hj,a0]at h1;simp only[KD,hx,Kh,LV];exact h1
theorem MpR.put{base i:Nat}{O O' O2:Nat->Nat}{w w' w2:ka}{r:Nat}{E:List KVR}(h:MpR base i O w r E)(k:Int){v:ix}{l:List Nat}(_:i≠0)(hb:i<base)(u:J4 (fun q=>q=base+lC E k) O w O' w')(hr:Jy aX 3 1 O' w' (base+lC E k) v l) 
  (hm:JS (fun k:Int=>nI k) (fun v:ix=>v) O2 w2 i r (cJ (E.map ud) k v)) (u2:J4 (fun q=>q=i) O' w' O2 w2):MpR base i O2 w2 r (cJ E k (v,l)):=by
 refine⟨by rw[xm];exact hm,fun n hn=>?_⟩;have a0:=hr.upd u2 zo zo;have old:∀n,n<E.length->n≠lC E k->Jy aX 3 1 O2 w2 (base+n) (nth E n).2.1 (nth E n).2.2:=fun n hn a1=>((h.row n hn).upd u zo zo).upd u2 zo zo
 rw[eK]at hn ⊢
 cases ha:je E k with
 |none=>
  rw[ha]at hn;dsimp only at hn ⊢;have hs:lC E k=E.length:=by unfold lC;rw[ha];rfl
  rw[hs]at a0 old;rw[I4,Lm]at hn
  by_cases he:n=E.length
  ·subst he;rw[aA,if_neg zo,K1,show nth [((k,v,l):KVR)] 0=(k,v,l)from by rw[aB (Nat.zero_lt_one)];rfl];exact a0
  rw[aA,if_pos zo];exact old n zo he
 |some j=>
  rw[ha]at hn;dsimp only at hn ⊢;have hs:lC E k=j:=by unfold lC;rw[ha];rfl
  rw[hs]at a0 old;rw[Gh]at hn;obtain⟨x,hx⟩:=iH ha;obtain⟨hj,_⟩:=JI.1 hx;rw[aT hj]
  by_cases he:n=j
  ·rw[if_pos he];subst he;exact a0
  rw[if_neg he];exact old n hn he
theorem ee(E:List KVR)(k k':Int)(v:ix)(l:List Nat):dD (cJ E k (v,l)) k'=if k=k' then l else dD E k':=by
 unfold dD;rw[bf]
 split<;>rfl
theorem lg(E:List KVR)(k:Int)(x:ix×List Nat):(cJ E k x).map (·.1)=if k∈E.map (·.1)then E.map (·.1)else E.map (·.1)++[k]:=by
 induction E with
 |nil=>rfl
 |cons e r ih=>
  simp only[cJ]
  by_cases h:e.1=k
  ·rw[if_pos h,if_pos (by simp[h])];simp[h]
  rw[if_neg h,Gi,ih];have h':¬k=e.1:=fun e=>h e.symm
  by_cases hm:k∈r.map (·.1)
  ·rw[if_pos hm,if_pos (by rw[Gi];exact List.mem_cons_of_mem _ hm)];rfl
  rw[if_neg hm,if_neg (by rw[Gi,L8];exact fun h=>h.elim h' hm)];rfl
theorem zZ{E:List KVR}(h:(E.map (·.1)).Nodup)(k:Int)(x:ix×List Nat):((cJ E k x).map (·.1)).Nodup:=by
 rw[lg]
 split
 ·exact h
 rename_i hk;refine K9.2 ⟨h,by simp,fun a ha b hb e=>?_⟩;rw[ln]at hb;subst hb;subst e;exact hk ha
end Go.Proofs.YtlehnbkknlpkbaaGreatDoor
namespace Go.VL
open Go.Proofs
theorem iJ{P:JE}{N:Nat}{ops:Array KF}{S:ka->Prop}{Q:Mt->MY->ka->Prop}{a1:Nat}{a0:Array Bool}{st:St}{w:ka} 
  {T E:J8} {o:Op} {sz a2:Nat} {α:Type} {enc:α->List ix} {y:Kl} {t t':J8} {p p':String} {e e':Array Mv} {d d':Nat} {v xv:ix}
  (i j:Nat) (he:Mu P T E sz a2) (u:α) (hi:ops[i]? = some ⟨some d,o,t,p,e,none⟩) (hj:ops[j]? = some ⟨some d',.buildSlice T 1 #[(0,y)],t',p',e',none⟩)
  (hr:JV .any ops a0=[i,j]) (a':JV .any ops (a0.setIfInBounds i true)=[j]) (a9:JV .any ops (a0.setIfInBounds j true)=[i])
  (a4:(a0.setIfInBounds j true).setIfInBounds i true=(a0.setIfInBounds i true).setIfInBounds j true)
  (hv:∀w',Kz w w'->RV P N o t st w' v) (hS:∀w',Kz w w'->S w')
  (hy:ev st y=some xv) (a5:xv.cells.toList=enc u) (a6:(enc u).length=sz) (hs:sz<=16777216) (hd:Ko d N=true) (a7:Ko d' N=true) (b0:KJ d d'=false) (hf:(cC st d').isNone=true) (a8:ev ((d,v)::st) y=some xv)
  (h:∀sv w',Sl enc sz w' sv [u]->Kz w w'->WH P N ops S Q a1 ((a0.setIfInBounds i true).setIfInBounds j true) ((d',sv)::(d,v)::st) w'):WH P N ops S Q (a1+2) a0 st w:=by
 refine bV i j hr hi hj ?_ ?_
 ·refine mG (hv w (IJ w)) hd (Jr (af (hS w (IJ w)) (J2 j a' hj ?_)));refine cg he u a8 a5 a6 hs a7 fun sv w' a3 hE=>Jr (af (hS w' hE) (h sv w' a3 hE))
 refine cg he u hy a5 a6 hs a7 fun sv w' a3 hE=>Jr (af (hS w' hE) (J2 i a9 hi ?_))
 refine mG (fun a ha=>hv w' hE a (ha.fresh hf)) hd (Jr (af (hS w' hE) ?_));rw[a4];exact fun a ha=>h sv w' a3 hE a (ha.swap b0)
end Go.VL
end
