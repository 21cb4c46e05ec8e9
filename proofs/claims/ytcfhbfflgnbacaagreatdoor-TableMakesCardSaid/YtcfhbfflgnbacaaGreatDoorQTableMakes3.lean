/- Texts that the proof of this statement needs, merged and shortened. -/
import Derived.Test.YtcfhbfflgnbacaaGreatDoorQTableMakes2
set_option linter.defProp false
open Bool renaming and_eq_true->ix,or_eq_true->MT,or_assoc->N4,false_or->N5,false_eq_true->N6
open Go.Result renaming andThen_ok->ka
open Go renaming Value->ln,World->Lj,TypeId->Lu,MapEntry->LK,Program->Mq,Operand->MY,Oper->Nl,zeroValue->P2,Exit->PL,Edge->PM,Addr->Q6,Act->Qd,Calls->Qq,sizeOf->Qu
open List renaming mem_append->L3,length_append->Li,mem_singleton->Lk,append_assoc->Lm,eq_nil_of_length_eq_zero->Lo,contains_iff_mem->Lp,map_cons->Lq,length_set->Ls,replicate->Ly,append_nil->Lz,mem_map->M0,map_append->M4,length_nil->M5,cons_append->M8,length_map->Mr,flatMap_cons->Mt,eraseIdx_eq_take_drop_succ->Mu,take_length->My,any_eq_true->Mz,mem_filter->MD,map_nil->MG,mem_cons->MK,map_toArray->MO,length_cons->MP,range->MQ,length_filter_le->MU,filter_eq_self->N1,findIdx?_eq_some_iff_getElem->N7,nodup_append->N9,foldl_append->Na,mem_flatMap->Nk,take_append_of_le_length->Nm,nil_append->No,foldl_cons->Np,take_take->Nv,mem_range->Nw,pairwise_iff_getElem->Nz,getElem?_eq_some_iff->NA,sum_cons->ND,map_take->NF,getElem?_eq_getElem->NG,any_cons->NH,filter_cons_of_neg->NJ,take_of_length_le->NK,getElem_replicate->NL,drop_of_length_le->NM,eraseIdx_sublist->NO,pairwise_append->NS,mem_append_left->NT,set_cons_succ->P6,pairwise_cons->P7,findIdx?_cons->P8,filter_append->P9,pairwise_map->Pc,take->Pi,getElem_map->Pj,nodup_cons->Pz,map_drop->PI,all_cons->PJ,all_nil->PS,length->PW,map->Qc
open Go.Sem renaming run_bind->Ll,run_pure->Lr,run->N0
open Nat renaming zero_le->Ln,not_lt_zero->LD,le_refl->LN,lt_of_lt_of_le->Ms,sub_self->MR,eq_of_beq_eq_true->MW,testBit_or->MZ,testBit_two_pow->N2,zero_add->Nb,le_trans->Nc,blt->Nf,beq->Nu,not_lt->Ny,zero_mul->NN,pow_lt_pow_right->NW,one_mul->NX,add_mul->NY,or_lt_two_pow->Ph,zero_testBit->Py,min_eq_left->PF,mul_le_mul->PH,sub_zero->PV,mul_one->Q3
open Go.Value renaming oneCell'->LL,int->MX,ownBlock->Px
open Go.Lib renaming compact->LU,compactUpTo->ME,keeps->PA
open Go.Proofs.Tryz renaming sizeOf75->M1,underlying171->M6,underlying22->MA,prog->MI,isAgg75->MJ,sizeOf175->MV,zeroValue22->NB,underlying170->NU,underlying115->NV,call90->Pa,zeroValue75->Pp,zeroValue28->Pq,underlying3->Pr,sizeOf22->Ps,isAgg22->PN,call91->Q4,underlying169->Q7,underlying168->Q8,underlying73->Qe,call126->Qf,underlying4->Ql,underlying0->Qn,zeroValue4->Qr,zeroValue3->Qs,zeroValue0->Qt,call89->Qv
open Go.VL.Ext renaming refl->M7
open List.cons renaming injEq->M9
open Go.VL.Ret renaming enter->Mp
open Array renaming getElem?_modify->Mv,getElem?_setIfInBounds->Nn,ext_getElem?->P1
open Go.VL renaming RowT->Mw,Upd->MC,MapO->MS,Rng->NI,Ext->Pn,Ret->PZ,KeyL->Qi,Free->Qj,Elem->Qk,Fits->Qx
open Go.VL.Upd renaming refl->MB,setRow->Pb,set->PU,alloc->Q9
open Classical renaming byContradiction->MF
open Go.Instr renaming keyThatStays->MH,entryStore->MM,findAsking->Ng,mapEntry->Nq,checkKey->Nr,mapUpdate->Pk,findNow->PG
open Go.VL.WH renaming one->MN,done->Pw
open Go.VL.RowT renaming nil->N8,freeT->PX
open Go.Builtin renaming delete_->Nh,append_->Ni,firstCells->NQ,clear_->Pd,lenOf->Po,len_->Qy
open Option renaming map_some->Nj,map->NR,bind_some->P4,bind_none->P5
open Go.Calls renaming mono->Ns
open Go.Addr renaming add->Nx
open Go.Region renaming ready->NC
open Function renaming comp_def->NP
open Int renaming le_refl->NZ
open Go.Sort renaming ahead->P3
open Go.VL.WL renaming val->Pe,push->Pv,nil->PO,step->Qw
open Prod.mk renaming injEq->Pf
open Go.Op renaming equalIn->Pg,equal->Qo
open Go.Shelf renaming Ren->Pm
open Go.World renaming setCells->Pu,setCell->PB,frozen?->PC
open Std.Legacy.Range renaming size->PD,forIn_eq_forIn_range'->PE
open Go.Proofs.Lays2 renaming n20->PK
open UInt8 renaming toNat->PP,ofNat->PQ
open Go.Proofs.Lays renaming n189->PT
open Go.RowKit.Below renaming heap_setCell->PY
open Go.VL.RV renaming load->Q0,indexAddr->Q2,extract->Qa,lookup->Qg
open Option.some renaming inj->Q5
open Prod renaming fst->Qb
open Go.Oper renaming wp->Qh
open Iff renaming rfl->Qp
set_option maxRecDepth 10000
open Go.VL Go.Proofs Go.Proofs.Tryz
variable {α κ ν:Type}{se:Bool}{c m x:Int}{S:List (List Int)}{s u:List Int}{L:List Int->Prop}{es:List LK}{l:List Nat}{a0:List Nl}{w w':Lj}{E K T t:Lu}{y:MY}{P:Mq}{B N a b d e i j k n nb p q sz:Nat}{R:Nat->List Int->Prop}{O O':Nat->Nat}{Q:PL->Qd->Lj->Prop}{v:ln}{enc:α->List ln}{val:α->ln}
namespace Go.Proofs.YtcfhbfflgnbacaaGreatDoor
abbrev Lf:=Int×Int×Nat
abbrev Kt:=List Nat×List Nat×Nat
structure Gr where
 ls:List Lf
 ks:List Kt
def Gr.fr(g:Gr)(k:Nat):List Nat:=(nth g.ks k).1
def Gr.lv(g:Gr)(k:Nat):List Nat:=(nth g.ks k).2.1
def Gr.en(g:Gr)(k:Nat):Nat:=(nth g.ks k).2.2
def Gr.knot(g:Gr):Gr:=⟨g.ls,g.ks++[([],[],0)]⟩
def Gr.free(g:Gr)(a b:Nat):Gr:=⟨g.ls,g.ks.set a (g.fr a++[b],g.lv a,g.en a)⟩
def Gr.leaf(g:Gr)(k c:Int)(a b:Nat):Gr:=⟨g.ls++[(k,c,b)],g.ks.set a (g.fr a,g.lv a++[g.ls.length+1],g.en a)⟩
def ck(k c m:Int):Bool:=
 if k=0 then(decide (0<=m)&&decide (m<36))&&(m==c)else if k=1 then decide (0<=m)&&decide (m<36)else if k=2 then(decide (0<=m)&&decide (m<36))&&(m != c)else m==36
def layO(k:Int)(g:Gr)(i:Nat):Gr:=if k=8 then(if k=7 then g else g.free i (i+1))else(if k=7 then g else g.free i (i+1)).free (i+1) i
mutual
def eS:Nd->Nat->Nat->Gr->Gr
 |.mk k c l,a,b,g=>
  if k=4 then kS l a b g
  else if k=5 then kT l a b g
  else if k=6\/k=7\/k=8 then layO k (js l g.ks.length (g.ks.length+1) ((g.knot.knot.free a g.ks.length).free (g.ks.length+1) b)) g.ks.length
  else if k=9 then g.free a b
  else g.leaf k c a b
def kS:List Nd->Nat->Nat->Gr->Gr
 |[],_,_,g=>g
 |t::r,a,b,g=>if r.isEmpty then eS t a b g else kS r g.ks.length b (eS t a g.ks.length g.knot)
def kT:List Nd->Nat->Nat->Gr->Gr
 |[],_,_,g=>g
 |t::r,a,b,g=>kT r a b (eS t a b g)
def js:List Nd->Nat->Nat->Gr->Gr
 |[],_,_,g=>g
 |t::_,a,b,g=>eS t a b g
end
inductive StarP(L:List Int->Prop):List Int->Prop
 |nil:StarP L []
 |cons {u v:List Int}:L u->StarP L v->StarP L (u++v)
mutual
/-- Which words an expression matches. -/
def Lg:Nd->List Int->Prop
 |.mk k c l=>λw=>
  if k=4 then LgS l w
  else if k=5 then LgA l w
  else if k=6 then StarP (LgH l) w
  else if k=7 then∃u v,w=u++v/\LgH l u/\StarP (LgH l) v
  else if k=8 then w=[]\/LgH l w
  else if k=9 then w=[]
  else∃m,w=[m]/\ck k c m=true
def LgS:List Nd->List Int->Prop
 |[]=>λw=>w=[]
 |t::r=>λw=>∃u v,w=u++v/\Lg t u/\LgS r v
def LgA:List Nd->List Int->Prop
 |[]=>λ_=>False
 |t::r=>λw=>Lg t w\/LgA r w
def LgH:List Nd->List Int->Prop
 |[]=>λ_=>False
 |t::_=>Lg t
end
mutual
/-- Expressions whose parts are as many as they must. -/
def dw:Nd->Bool
 |.mk k _ l=>(if k=4 then !l.isEmpty else if k=6\/k=7\/k=8 then decide (l.length=1)else true)&&aU l
def aU:List Nd->Bool
 |[]=>true
 |t::r=>dw t&&aU r
end
inductive Pt(g:Gr):Nat->List Int->Nat->Prop
 |nil (k:Nat):Pt g k [] k
 |eps {k k' q:Nat} {w:List Int}:k<g.ks.length->k'∈g.fr k->Pt g k' w q->Pt g k w q
 |leaf {k j q:Nat} {m:Int} {w:List Int}:k<g.ks.length->j<g.ls.length->j+1∈g.lv k->ck (nth g.ls j).1 (nth g.ls j).2.1 m=true->Pt g (nth g.ls j).2.2 w q->Pt g k (m::w) q
def Pt.J{g:Gr}{c:Nat}{v:List Int}(h:Pt g a u b)(k:Pt g b v c):Pt g a (u++v) c:=by
 induction h with
 |nil=>exact k
 |eps h1 h2 _ ih=>exact .eps h1 h2 (ih k)
 |leaf h1 h2 h3 h4 _ ih=>exact .leaf h1 h2 h3 h4 (ih k)
structure Sub(g g':Gr):Prop where
 len:g.ks.length<=g'.ks.length
 ls:∃r,g'.ls=g.ls++r
 fr:∀k j,k<g.ks.length->j∈g.fr k->j∈g'.fr k
 lv:∀k j,k<g.ks.length->j∈g.lv k->j∈g'.lv k
def Sub.refl(g:Gr):Sub g g:=⟨LN _,⟨[],by simp⟩,λ_ _ _ h=>h,λ_ _ _ h=>h⟩
def Sub.J{a b c:Gr}(h:Sub a b)(k:Sub b c):Sub a c:=by
 obtain⟨r,hr⟩:=h.ls;obtain⟨s,hs⟩:=k.ls;exact⟨Nc h.len k.len,⟨r++s,by rw[hs,hr,Lm]⟩,λq j hq hj=>k.fr q j (Ms hq h.len) (h.fr q j hq hj),λq j hq hj=>k.lv q j (Ms hq h.len) (h.lv q j hq hj)⟩
def Sub.nthL{g g':Gr}(h:Sub g g')(hj:j<g.ls.length):j<g'.ls.length/\nth g'.ls j=nth g.ls j:=by
 obtain⟨r,hr⟩:=h.ls;rw[hr,az,ap hj];exact⟨by simp;omega,rfl⟩
def Pt.mono{g g':Gr}(h:Sub g g')(p:Pt g a u b):Pt g' a u b:=by
 induction p with
 |nil=>exact .nil _
 |eps h1 h2 _ ih=>exact .eps (Ms h1 h.len) (h.fr _ _ h1 h2) ih
 |leaf h1 h2 h3 h4 _ ih=>
  obtain⟨e1,e2⟩:=h.nthL h2;exact .leaf (Ms h1 h.len) e1 (h.lv _ _ h1 h3) (by rw[e2];exact h4) (by rw[e2];exact ih)
def aE(g:Gr):g.knot.ks.length=g.ks.length+1:=by simp[Gr.knot]
def aS(g:Gr)(a b:Nat):(g.free a b).ks.length=g.ks.length:=by simp[Gr.free]
def fp(g:Gr)(k c:Int)(a b:Nat):(g.leaf k c a b).ks.length=g.ks.length:=by simp[Gr.leaf]
def tK(g:Gr)(k:Nat):nth g.knot.ks k=if k<g.ks.length then nth g.ks k else([],[],0):=by
 unfold Gr.knot;rw[az]
 split
 ·rfl
 by_cases h:k-g.ks.length=0
 ·rw[h,ao]
 rw[eF (by simp;omega)];rfl
def nF(g:Gr)(k:Nat):g.knot.fr k=if k<g.ks.length then g.fr k else []:=by unfold Gr.fr;rw[tK];split<;>rfl
def nD(g:Gr)(k:Nat):g.knot.lv k=if k<g.ks.length then g.lv k else []:=by unfold Gr.lv;rw[tK];split<;>rfl
def cf{g:Gr}(ha:a<g.ks.length)(k:Nat):(g.free a b).fr k=if k=a then g.fr a++[b]else g.fr k:=by
 unfold Gr.free Gr.fr;rw[bm ha];split<;>rfl
def nL{g:Gr}(ha:a<g.ks.length)(k:Nat):(g.free a b).lv k=g.lv k:=by
 unfold Gr.free Gr.lv;rw[bm ha];split
 ·rename_i h;rw[h]
 rfl
def nC{g:Gr}(ha:a<g.ks.length)(k:Nat):(g.leaf x c a b).fr k=g.fr k:=by
 unfold Gr.leaf Gr.fr;rw[bm ha];split
 ·rename_i h;rw[h]
 rfl
def jl{g:Gr}(ha:a<g.ks.length)(k:Nat):(g.leaf x c a b).lv k=if k=a then g.lv a++[g.ls.length+1]else g.lv k:=by
 unfold Gr.leaf Gr.lv;rw[bm ha];split<;>rfl
def gA(g:Gr)(x c:Int)(a b:Nat):(g.leaf x c a b).ls=g.ls++[(x,c,b)]:=rfl
def mu(g:Gr):Sub g g.knot:=⟨by rw[aE];omega,⟨[],by simp[Gr.knot]⟩,λk j hk h=>by rw[nF,ap hk];exact h,λk j hk h=>by rw[nD,ap hk];exact h⟩
def gn{g:Gr}(ha:a<g.ks.length):Sub g (g.free a b):=⟨by rw[aS];omega,⟨[],by simp[Gr.free]⟩,λk j _ h=>by
 rw[cf ha];split
 ·rename_i e;subst e;exact NT _ h
 exact h,λk j _ h=>by rw[nL ha];exact h⟩
def Gv{g:Gr}(ha:a<g.ks.length):Sub g (g.leaf x c a b):=⟨by rw[fp];omega,⟨_,rfl⟩,λk j _ h=>by rw[nC ha];exact h,λk j _ h=>by
 rw[jl ha];split
 ·rename_i e;subst e;exact NT _ h
 exact h⟩
structure WF(g:Gr):Prop where
 fr:∀k j,k<g.ks.length->j∈g.fr k->j<g.ks.length
 lv:∀k j,k<g.ks.length->j∈g.lv k->1<=j/\j<=g.ls.length
 ls:∀j,j<g.ls.length->(nth g.ls j).2.2<g.ks.length
def WF.knot{g:Gr}(h:WF g):WF g.knot:=by
 have hl:=aE g;refine⟨λk j hk hj=>?_,λk j hk hj=>?_,λj hj=>?_⟩
 ·rw[nF]at hj
  split at hj
  ·rename_i e;have:=h.fr k j e hj;omega
  simp at hj
 ·rw[nD]at hj
  split at hj
  ·rename_i e;exact h.lv k j e hj
  simp at hj
 have:=h.ls j hj;show(nth g.ls j).2.2<_;omega
def WF.free{g:Gr}(h:WF g){a b:Nat}(ha:a<g.ks.length)(hb:b<g.ks.length):WF (g.free a b):=by
 have hl:=aS g a b;refine⟨λk j hk hj=>?_,λk j hk hj=>?_,λj hj=>?_⟩
 ·rw[hl]at hk ⊢;rw[cf ha]at hj
  split at hj
  ·rcases L3.1 hj with hj|hj
   ·exact h.fr a j ha hj
   rw[Lk.1 hj];exact hb
  exact h.fr k j hk hj
 ·rw[hl]at hk;rw[nL ha]at hj;exact h.lv k j hk hj
 rw[hl];exact h.ls j hj
def WF.leaf{g:Gr}(h:WF g){x c:Int}{a b:Nat}(ha:a<g.ks.length)(hb:b<g.ks.length):WF (g.leaf x c a b):=by
 have hl:=fp g x c a b;have h2:(g.leaf x c a b).ls.length=g.ls.length+1:=by simp[Gr.leaf]
 refine⟨λk j hk hj=>?_,λk j hk hj=>?_,λj hj=>?_⟩
 ·rw[hl]at hk ⊢;rw[nC ha]at hj;exact h.fr k j hk hj
 ·rw[hl]at hk;rw[h2];rw[jl ha]at hj
  split at hj
  ·rcases L3.1 hj with hj|hj
   ·have:=h.lv a j ha hj;omega
   rw[Lk.1 hj];omega
  have:=h.lv k j hk hj;omega
 rw[hl,gA,az]
 split
 ·rename_i e;exact h.ls j e
 rw[h2]at hj;rw[show j-g.ls.length=0 from by omega,ao];exact hb
def oS(k:Int)(g:Gr)(i:Nat):(layO k g i).ks.length=g.ks.length:=by
 unfold layO;split<;>split<;>simp only[aS]
def Jp{k:Int}{g:Gr}(h:WF g)(hi:i+1<g.ks.length):WF (layO k g i):=by
 unfold layO;split<;>split
 ·exact h
 ·exact h.free zo hi
 ·exact h.free hi zo
 exact(h.free zo hi).free (by rw[aS];exact hi) (by rw[aS];omega)
def tI{k:Int}{g:Gr}(hi:i+1<g.ks.length):Sub g (layO k g i):=by
 unfold layO;split<;>split
 ·exact Sub.refl _
 ·exact gn zo
 ·exact gn hi
 exact(gn zo).J (gn (by rw[aS];exact hi))
def bj(g:Gr)(a b:Nat):Gr:=(g.knot.knot.free a g.ks.length).free (g.ks.length+1) b
def dr(g:Gr)(a b:Nat):(bj g a b).ks.length=g.ks.length+2:=by unfold bj;rw[aS,aS,aE,aE]
def ei{g:Gr}(h:WF g)(ha:a<g.ks.length)(hb:b<g.ks.length):WF (bj g a b):=by
 have h2:g.knot.knot.ks.length=g.ks.length+2:=by rw[aE,aE]
 exact(h.knot.knot.free zo zo).free (by rw[aS];omega) (by rw[aS];omega)
def Bo{g:Gr}(ha:a<g.ks.length):Sub g (bj g a b):=by
 have h2:g.knot.knot.ks.length=g.ks.length+2:=by rw[aE,aE]
 exact(((mu g).J (mu _)).J (gn zo)).J (gn (by rw[aS];omega))
mutual
def bV:∀(t:Nd) (a b:Nat) (g:Gr),WF g->a<g.ks.length->b<g.ks.length->WF (eS t a b g)/\Sub g (eS t a b g)
 |.mk k c l,a,b,g,h,ha,hb=>by
  unfold eS
  split
  ·exact pS l a b g h ha hb
  split
  ·exact pW l a b g h ha hb
  split
  ·have hl:=dr g a b
   obtain⟨h1,h2⟩:=jq l g.ks.length (g.ks.length+1) (bj g a b) (ei h ha hb) zo zo
   have:=h2.len
   show WF (layO k (js l g.ks.length (g.ks.length+1) (bj g a b)) g.ks.length)/\Sub g (layO k (js l g.ks.length (g.ks.length+1) (bj g a b)) g.ks.length)
   exact⟨Jp h1 zo,((Bo ha).J h2).J (tI zo)⟩
  split
  ·exact⟨h.free ha hb,gn ha⟩
  exact⟨h.leaf ha hb,Gv ha⟩
def pS:∀(l:List Nd) (a b:Nat) (g:Gr),WF g->a<g.ks.length->b<g.ks.length->WF (kS l a b g)/\Sub g (kS l a b g)
 |[],_,_,g,h,_,_=>⟨h,Sub.refl g⟩
 |t::r,a,b,g,h,ha,hb=>by
  unfold kS
  split
  ·exact bV t a b g h ha hb
  have hl:=aE g
  obtain⟨h1,h2⟩:=bV t a g.ks.length g.knot h.knot zo zo
  have:=h2.len
  obtain⟨h3,h4⟩:=pS r g.ks.length b _ h1 zo zo
  exact⟨h3,((mu g).J h2).J h4⟩
def pW:∀(l:List Nd) (a b:Nat) (g:Gr),WF g->a<g.ks.length->b<g.ks.length->WF (kT l a b g)/\Sub g (kT l a b g)
 |[],_,_,g,h,_,_=>⟨h,Sub.refl g⟩
 |t::r,a,b,g,h,ha,hb=>by
  unfold kT
  obtain⟨h1,h2⟩:=bV t a b g h ha hb
  have:=h2.len
  obtain⟨h3,h4⟩:=pW r a b _ h1 zo zo
  exact⟨h3,h2.J h4⟩
def jq:∀(l:List Nd) (a b:Nat) (g:Gr),WF g->a<g.ks.length->b<g.ks.length->WF (js l a b g)/\Sub g (js l a b g)
 |[],_,_,g,h,_,_=>⟨h,Sub.refl g⟩
 |t::_,a,b,g,h,ha,hb=>by
  unfold js
  exact bV t a b g h ha hb
end
def po{g:Gr}{L:List Int->Prop}{i o:Nat}(hL:∀u,L u->Pt g i u o)(hb:Pt g o [] i):∀ {v:List Int},StarP L v->Pt g o v o
 |_,.nil=>.nil _
 |_,.cons h1 h2=>(hb.J (hL _ h1)).J (po hL hb h2)
mutual
def ml:∀(t:Nd) (a b:Nat) (g:Gr),WF g->a<g.ks.length->b<g.ks.length->dw t=true->∀w,Lg t w->Pt (eS t a b g) a w b
 |.mk k c l,a,b,g,h,ha,hb,hs,w,hw=>by
  unfold dw at hs
  simp only[ix]at hs
  obtain⟨hs1,hs2⟩:=hs
  unfold Lg at hw
  unfold eS
  by_cases h4:k=4
  ·rw[ap h4]at hw hs1 ⊢
   exact vN l a b g h ha hb hs2 (by intro e;rw[e]at hs1;simp at hs1) w hw
  rw[am h4]at hw hs1 ⊢
  by_cases h5:k=5
  ·rw[ap h5]at hw ⊢
   exact vP l a b g h ha hb hs2 w hw
  rw[am h5]at hw ⊢
  by_cases h678:k=6\/k=7\/k=8
  ·rw[ap h678]at hs1 ⊢
   have hl:=dr g a b
   have hwf:=ei h ha hb
   obtain⟨h1,h2⟩:=jq l g.ks.length (g.ks.length+1) (bj g a b) hwf zo zo
   have hlen:=h2.len
   have hkid:=Dt l g.ks.length (g.ks.length+1) (bj g a b) hwf zo zo hs2
   have hk2:g.knot.knot.ks.length=g.ks.length+2:=by rw[aE,aE]
   show Pt (layO k (js l g.ks.length (g.ks.length+1) (bj g a b)) g.ks.length) a w b
   have ein:Pt (bj g a b) a [] g.ks.length:=.eps zo (by
    unfold bj
    rw[cf (by rw[aS];omega)]
    rw[am zo,cf zo,ap rfl];simp) (.nil _)
   have eout:Pt (bj g a b) (g.ks.length+1) [] b:=.eps zo (by
    unfold bj
    rw[cf (by rw[aS];omega),ap rfl];simp) (.nil _)
   generalize bj g a b=g1 at *
   generalize js l g.ks.length (g.ks.length+1) g1=g2 at *
   generalize g.ks.length=i at *
   have hsub:Sub g2 (layO k g2 i):=tI zo
   have e1:=(ein.mono h2).mono hsub
   have e2:=(eout.mono h2).mono hsub
   have ek:∀u,LgH l u->Pt (layO k g2 i) i u (i+1):=λu hu=>(hkid u hu).mono hsub
   have eskip:k≠7->Pt (layO k g2 i) i [] (i+1):=λhk=>.eps (by rw[oS];omega) (by
    unfold layO
    rw[am hk]
    split
    ·rw[cf zo,ap rfl];simp
    rw[cf (by rw[aS];omega),am zo,cf zo,ap rfl];simp) (.nil _)
   have eback:k≠8->Pt (layO k g2 i) (i+1) [] i:=λhk=>.eps (by rw[oS];omega) (by
    unfold layO
    rw[am hk,cf (by split;omega;rw[aS];omega),ap rfl];simp) (.nil _)
   by_cases h6:k=6
   ·rw[ap h6]at hw
    have:=((e1.J (eskip zo)).J (po ek (eback zo) hw)).J e2
    simpa using this
   rw[am h6]at hw
   by_cases h7:k=7
   ·rw[ap h7]at hw
    obtain⟨u,v,rfl,hu,hv⟩:=hw
    have:=((e1.J (ek u hu)).J (po ek (eback zo) hv)).J e2
    simpa using this
   rw[am h7,ap (show k=8 from by omega)]at hw
   rcases hw with rfl|hw
   ·exact(e1.J (eskip h7)).J e2
   have:=(e1.J (ek w hw)).J e2
   simpa using this
  rw[am zo,am zo,am zo]at hw
  rw[am h678]
  by_cases h9:k=9
  ·rw[ap h9]at hw ⊢
   subst hw
   exact .eps (by rw[aS];exact ha) (by rw[cf ha,ap rfl];simp) (.nil _)
  rw[am h9]at hw ⊢
  obtain⟨m,rfl,hm⟩:=hw
  have hn:nth (g.leaf k c a b).ls g.ls.length=(k,c,b):=by rw[gA,az,am zo,MR,ao]
  refine .leaf (j:=g.ls.length) (by rw[fp];exact ha) (by rw[gA];simp) (by rw[jl ha,ap rfl];simp) (by rw[hn];exact hm) (by rw[hn];exact .nil _)
def vN:∀(l:List Nd) (a b:Nat) (g:Gr),WF g->a<g.ks.length->b<g.ks.length->aU l=true->l≠[]->∀w,LgS l w->Pt (kS l a b g) a w b
 |[],_,_,_,_,_,_,_,hn,_,_=>absurd rfl hn
 |t::r,a,b,g,h,ha,hb,hs,_,w,hw=>by
  unfold aU at hs
  simp only[ix]at hs
  unfold LgS at hw
  obtain⟨u,v,rfl,hu,hv⟩:=hw
  unfold kS
  split
  ·rename_i hr
   obtain rfl:r=[]:=by simpa using hr
   obtain rfl:v=[]:=by unfold LgS at hv;exact hv
   rw[Lz]
   exact ml t a b g h ha hb hs.1 u hu
  rename_i hr
  have hl:=aE g
  have p1:=ml t a g.ks.length g.knot h.knot zo zo hs.1 u hu
  obtain⟨h1,h2⟩:=bV t a g.ks.length g.knot h.knot zo zo
  have:=h2.len
  have p2:=vN r g.ks.length b _ h1 zo zo hs.2 (by intro e;rw[e]at hr;simp at hr) v hv
  exact(p1.mono (pS r g.ks.length b _ h1 zo zo).2).J p2
def vP:∀(l:List Nd) (a b:Nat) (g:Gr),WF g->a<g.ks.length->b<g.ks.length->aU l=true->∀w,LgA l w->Pt (kT l a b g) a w b
 |[],_,_,_,_,_,_,_,_,hw=>by unfold LgA at hw;exact hw.elim
 |t::r,a,b,g,h,ha,hb,hs,w,hw=>by
  unfold aU at hs
  simp only[ix]at hs
  unfold LgA at hw
  unfold kT
  obtain⟨h1,h2⟩:=bV t a b g h ha hb
  have:=h2.len
  rcases hw with hw|hw
  ·exact(ml t a b g h ha hb hs.1 w hw).mono (pW r a b _ h1 zo zo).2
  exact vP r a b _ h1 zo zo hs.2 w hw
def Dt:∀(l:List Nd) (a b:Nat) (g:Gr),WF g->a<g.ks.length->b<g.ks.length->aU l=true->∀w,LgH l w->Pt (js l a b g) a w b
 |[],_,_,_,_,_,_,_,_,hw=>by unfold LgH at hw;exact hw.elim
 |t::_,a,b,g,h,ha,hb,hs,w,hw=>by
  unfold aU at hs
  simp only[ix]at hs
  unfold LgH at hw
  unfold js
  exact ml t a b g h ha hb hs.1 w hw
end
structure Lbl(g:Gr)(R:Nat->List Int->Prop):Prop where
 fr:∀k j,k<g.ks.length->j∈g.fr k->∀w,R j w->R k w
 lv:∀k j,k<g.ks.length->j<g.ls.length->j+1∈g.lv k->∀m w,ck (nth g.ls j).1 (nth g.ls j).2.1 m=true->R (nth g.ls j).2.2 w->R k (m::w)
def Lbl.path{g:Gr}(h:Lbl g R){w:List Int}(p:Pt g k w q):∀v,R q v->R k (w++v):=by
 induction p with
 |nil=>exact λv h=>h
 |eps h1 h2 _ ih=>exact λv hv=>h.fr _ _ h1 h2 _ (ih v hv)
 |leaf h1 h2 h3 h4 _ ih=>exact λv hv=>h.lv _ _ h1 h2 h3 _ _ h4 (ih v hv)
def Lbl.agree{g:Gr}{R':Nat->List Int->Prop}(h:Lbl g R)(hw:WF g)(e:∀k,k<g.ks.length->R' k=R k):Lbl g R':=
 ⟨λk j hk hj w=>by rw[e k hk,e j (hw.fr k j hk hj)];exact h.fr k j hk hj w,λk j hk hj hl m w=>by rw[e k hk,e _ (hw.ls j hj)];exact h.lv k j hk hj hl m w⟩
def Lbl.knot{g:Gr}{R:Nat->List Int->Prop}(h:Lbl g R):Lbl g.knot R:=by
 refine⟨λk j hk hj w=>?_,λk j hk hj hl m w=>?_⟩
 ·rw[nF]at hj
  split at hj
  ·rename_i e;exact h.fr k j e hj w
  simp at hj
 rw[nD]at hl
 split at hl
 ·rename_i e;exact h.lv k j e hj hl m w
 simp at hl
def Lbl.free{g:Gr}{R:Nat->List Int->Prop}(h:Lbl g R){a b:Nat}(ha:a<g.ks.length)(a0:∀w,R b w->R a w):Lbl (g.free a b) R:=by
 refine⟨λk j hk hj w=>?_,λk j hk hj hl m w=>?_⟩
 ·rw[aS]at hk;rw[cf ha]at hj
  split at hj
  ·rename_i e;subst e
   rcases L3.1 hj with hj|hj
   ·exact h.fr k j ha hj w
   rw[Lk.1 hj];exact a0 w
  exact h.fr k j hk hj w
 rw[aS]at hk;rw[nL ha]at hl;exact h.lv k j hk hj hl m w
def Lbl.leaf{g:Gr}{R:Nat->List Int->Prop}(h:Lbl g R)(hw:WF g){x c:Int}{a b:Nat}(ha:a<g.ks.length)(a1:∀m w,ck x c m=true->R b w->R a (m::w)):Lbl (g.leaf x c a b) R:=by
 refine⟨λk j hk hj w=>?_,λk j hk hj hl m w=>?_⟩
 ·rw[fp]at hk;rw[nC ha]at hj;exact h.fr k j hk hj w
 rw[fp]at hk;rw[jl ha]at hl;rw[gA,Li]at hj;simp only[MP,M5]at hj;rw[gA,az]
 by_cases a0:j<g.ls.length
 ·rw[ap a0];refine h.lv k j hk a0 ?_ m w
  split at hl
  ·rename_i e;subst e
   rcases L3.1 hl with hl|hl
   ·exact hl
   have:=Lk.1 hl;omega
  exact hl
 rw[am a0,show j-g.ls.length=0 from by omega,ao]
 split at hl
 ·rename_i e;subst e;exact a1 m w
 have:=hw.lv k (j+1) hk hl;omega
def oF(R:Nat->List Int->Prop)(i:Nat)(X:List Int->Prop):Nat->List Int->Prop:=λk=>if k=i then X else R k
def kL(R:Nat->List Int->Prop)(i:Nat)(X:List Int->Prop):oF R i X i=X:=ap rfl
def dZ{X:List Int->Prop}(h:k≠i):oF R i X k=R k:=am h
def Cat(L M:List Int->Prop):List Int->Prop:=λw=>∃u v,w=u++v/\L u/\M v
def yu(k:Int)(L:List Int->Prop):List Int->Prop:=if k=8 then λw=>w=[]else StarP L
def inL(k:Int)(L:List Int->Prop):List Int->Prop:=if k=6 then StarP L else if k=7 then Cat L (StarP L)else λw=>w=[]\/L w
def Ge(k:Int)(L:List Int->Prop):yu k L []:=by unfold yu;split;rfl;exact .nil
def Ky{k:Int}(hk:k=6\/k=7\/k=8){v:List Int}(hu:L u)(hv:yu k L v):inL k L (u++v):=by
 unfold yu at hv;unfold inL
 rcases hk with rfl|rfl|rfl
 ·rw[am zd]at hv;rw[ap rfl];exact .cons hu hv
 ·rw[am zd]at hv;rw[am zd,ap rfl];exact⟨u,v,rfl,hu,hv⟩
 rw[ap rfl]at hv;subst hv;rw[am zd,am zd,Lz];exact .inr hu
def Jr{k:Int}(hk:k=6\/k=7\/k=8)(h7:k≠7){v:List Int}(hv:yu k L v):inL k L v:=by
 unfold yu at hv;unfold inL
 rcases hk with rfl|rfl|rfl
 ·rw[am zd]at hv;rw[ap rfl];exact hv
 ·exact absurd rfl h7
 rw[ap rfl]at hv;rw[am zd,am zd];exact .inl hv
def Gd{k:Int}(hk:k=6\/k=7\/k=8)(h8:k≠8){v:List Int}(hv:inL k L v):yu k L v:=by
 unfold inL at hv;unfold yu;rw[am h8]
 rcases hk with rfl|rfl|rfl
 ·rw[ap rfl]at hv;exact hv
 ·rw[am zd,ap rfl]at hv;obtain⟨u,v,rfl,hu,hv⟩:=hv;exact .cons hu hv
 exact absurd rfl h8
def G2{k:Int}{l:List Nd}(hk:k=6\/k=7\/k=8):Lg (.mk k c l)=inL k (LgH l):=by
 unfold Lg inL;funext w
 rcases hk with rfl|rfl|rfl
 ·rw[am zd,am zd,ap rfl,ap rfl]
 ·rw[am zd,am zd,am zd,ap rfl,am zd,ap rfl];rfl
 rw[am zd,am zd,am zd,am zd,ap rfl,am zd,am zd]
def GA{k:Int}{g:Gr}(h:Lbl g R)(hi:i+1<g.ks.length)(h7:k≠7->∀w,R (i+1) w->R i w)(h8:k≠8->∀w,R i w->R (i+1) w):Lbl (layO k g i) R:=by
 unfold layO
 split
 ·split
  ·exact h
  rename_i q;exact h.free zo (h7 q)
 rename_i q8
 split
 ·exact h.free hi (h8 q8)
 rename_i q;exact(h.free zo (h7 q)).free (by rw[aS];exact hi) (h8 q8)
mutual
def jn:∀(t:Nd) (a b:Nat) (g:Gr) (R:Nat->List Int->Prop),WF g->a<g.ks.length->b<g.ks.length->Lbl g R->(∀u v,Lg t u->R b v->R a (u++v))->
  ∃R',(∀k,k<g.ks.length->R' k=R k)/\Lbl (eS t a b g) R'
 |.mk k c l,a,b,g,R,h,ha,hb,hL,hab=>by
  unfold eS
  by_cases h4:k=4
  ·rw[ap h4]
   refine rU l a b g R h ha hb hL λu v hu hv=>hab u v ?_ hv
   unfold Lg;rw[ap h4];exact hu
  rw[am h4]
  by_cases h5:k=5
  ·rw[ap h5]
   refine rV l a b g R h ha hb hL λu v hu hv=>hab u v ?_ hv
   unfold Lg;rw[am h4,ap h5];exact hu
  rw[am h5]
  by_cases h678:k=6\/k=7\/k=8
  ·rw[ap h678]
   have hab':∀u v,inL k (LgH l) u->R b v->R a (u++v):=λu v hu hv=>hab u v (by rw[G2 h678];exact hu) hv
   have hl:=dr g a b
   have hwf:=ei h ha hb
   obtain⟨h1,h2⟩:=jq l g.ks.length (g.ks.length+1) (bj g a b) hwf zo zo
   have hlen:=h2.len
   show∃R',(∀q,q<g.ks.length->R' q=R q)/\Lbl (layO k (js l g.ks.length (g.ks.length+1) (bj g a b)) g.ks.length) R'
   have hR1:Lbl (bj g a b) (oF (oF R g.ks.length (Cat (inL k (LgH l)) (R b))) (g.ks.length+1) (Cat (yu k (LgH l)) (R b))):=by
    have hk2:g.knot.knot.ks.length=g.ks.length+2:=by rw[aE,aE]
    have hg:=(hL.agree (R':=oF (oF R g.ks.length (Cat (inL k (LgH l)) (R b))) (g.ks.length+1) (Cat (yu k (LgH l)) (R b))) h λq hq=>by rw[dZ zo,dZ zo]).knot.knot
    refine(hg.free zo ?_).free (by rw[aS];omega) ?_
    ·intro w hw
     rw[dZ zo,kL]at hw
     rw[dZ zo,dZ zo]
     obtain⟨u,v,rfl,hu,hv⟩:=hw
     exact hab' u v hu hv
    intro w hw
    rw[dZ zo,dZ zo]at hw
    rw[kL]
    exact⟨[],w,rfl,Ge _ _,hw⟩
   have hi1:(oF (oF R g.ks.length (Cat (inL k (LgH l)) (R b))) (g.ks.length+1) (Cat (yu k (LgH l)) (R b))) g.ks.length=Cat (inL k (LgH l)) (R b):=by rw[dZ zo,kL]
   have ho1:(oF (oF R g.ks.length (Cat (inL k (LgH l)) (R b))) (g.ks.length+1) (Cat (yu k (LgH l)) (R b))) (g.ks.length+1)=Cat (yu k (LgH l)) (R b):=kL _ _ _
   have hold:∀q,q<g.ks.length->(oF (oF R g.ks.length (Cat (inL k (LgH l)) (R b))) (g.ks.length+1) (Cat (yu k (LgH l)) (R b))) q=R q:=λq hq=>by rw[dZ zo,dZ zo]
   generalize oF (oF R g.ks.length (Cat (inL k (LgH l)) (R b))) (g.ks.length+1) (Cat (yu k (LgH l)) (R b))=R1 at *
   obtain⟨R2,e2,hR2⟩:=BA l g.ks.length (g.ks.length+1) (bj g a b) R1 hwf zo zo hR1 (λu v hu hv=>by
    rw[ho1]at hv
    rw[hi1]
    obtain⟨v1,v2,rfl,hv1,hv2⟩:=hv
    exact⟨u++v1,v2,by rw[Lm],Ky h678 hu hv1,hv2⟩)
   refine⟨R2,λq hq=>by rw[e2 q zo,hold q hq],GA hR2 zo ?_ ?_⟩
   ·intro h7 w
    rw[e2 _ zo,e2 _ zo,hi1,ho1]
    rintro⟨u,v,rfl,hu,hv⟩
    exact⟨u,v,rfl,Jr h678 h7 hu,hv⟩
   intro h8 w
   rw[e2 _ zo,e2 _ zo,hi1,ho1]
   rintro⟨u,v,rfl,hu,hv⟩
   exact⟨u,v,rfl,Gd h678 h8 hu,hv⟩
  rw[am h678]
  have hg:Lg (.mk k c l)=λw=>if k=9 then w=[]else∃m,w=[m]/\ck k c m=true:=by
   unfold Lg;funext w;rw[am h4,am h5,am zo,am zo,am zo]
  rw[hg]at hab
  by_cases h9:k=9
  ·rw[ap h9]
   exact⟨R,λ_ _=>rfl,hL.free ha λw hw=>hab [] w (by show(if k=9 then _ else _);rw[ap h9]) hw⟩
  rw[am h9]
  exact⟨R,λ_ _=>rfl,hL.leaf h ha λm w hm hw=>hab [m] w (by show(if k=9 then _ else _);rw[am h9];exact⟨m,rfl,hm⟩) hw⟩
def rU:∀(l:List Nd) (a b:Nat) (g:Gr) (R:Nat->List Int->Prop),WF g->a<g.ks.length->b<g.ks.length->Lbl g R->(∀u v,LgS l u->R b v->R a (u++v))->
  ∃R',(∀k,k<g.ks.length->R' k=R k)/\Lbl (kS l a b g) R'
 |[],_,_,_,R,_,_,_,hL,_=>⟨R,λ_ _=>rfl,hL⟩
 |t::r,a,b,g,R,h,ha,hb,hL,hab=>by
  unfold LgS at hab
  unfold kS
  split
  ·rename_i hr
   obtain rfl:r=[]:=by simpa using hr
   exact jn t a b g R h ha hb hL λu v hu hv=>hab u v ⟨u,[],by simp,hu,by unfold LgS;rfl⟩ hv
  have hl:=aE g
  have hold:∀q,q<g.ks.length->oF R g.ks.length (Cat (LgS r) (R b)) q=R q:=λq hq=>dZ zo
  have hmid:=kL R g.ks.length (Cat (LgS r) (R b))
  have hR1:=(hL.agree h hold).knot
  generalize oF R g.ks.length (Cat (LgS r) (R b))=R1 at *
  obtain⟨R2,e2,hR2⟩:=jn t a g.ks.length g.knot R1 h.knot zo zo hR1 (λu v hu hv=>by
   rw[hmid]at hv
   rw[hold a ha]
   obtain⟨v1,v2,rfl,hv1,hv2⟩:=hv
   rw[<-Lm]
   exact hab (u++v1) v2 ⟨u,v1,rfl,hu,hv1⟩ hv2)
  obtain⟨h1,h2⟩:=bV t a g.ks.length g.knot h.knot zo zo
  have hlen:=h2.len
  obtain⟨R3,e3,hR3⟩:=rU r g.ks.length b _ R2 h1 zo zo hR2 (λu v hu hv=>by
   rw[e2 b zo,hold b hb]at hv
   rw[e2 _ zo,hmid]
   exact⟨u,v,rfl,hu,hv⟩)
  exact⟨R3,λq hq=>by rw[e3 q zo,e2 q zo,hold q hq],hR3⟩
def rV:∀(l:List Nd) (a b:Nat) (g:Gr) (R:Nat->List Int->Prop),WF g->a<g.ks.length->b<g.ks.length->Lbl g R->(∀u v,LgA l u->R b v->R a (u++v))->
  ∃R',(∀k,k<g.ks.length->R' k=R k)/\Lbl (kT l a b g) R'
 |[],_,_,_,R,_,_,_,hL,_=>⟨R,λ_ _=>rfl,hL⟩
 |t::r,a,b,g,R,h,ha,hb,hL,hab=>by
  unfold LgA at hab
  unfold kT
  obtain⟨R2,e2,hR2⟩:=jn t a b g R h ha hb hL λu v hu hv=>hab u v (.inl hu) hv
  obtain⟨h1,h2⟩:=bV t a b g h ha hb
  have hlen:=h2.len
  obtain⟨R3,e3,hR3⟩:=rV r a b _ R2 h1 zo zo hR2 λu v hu hv=>by
   rw[e2 b hb]at hv
   rw[e2 a ha]
   exact hab u v (.inr hu) hv
  exact⟨R3,λq hq=>by rw[e3 q zo,e2 q hq],hR3⟩
def BA:∀(l:List Nd) (a b:Nat) (g:Gr) (R:Nat->List Int->Prop),WF g->a<g.ks.length->b<g.ks.length->Lbl g R->(∀u v,LgH l u->R b v->R a (u++v))->
  ∃R',(∀k,k<g.ks.length->R' k=R k)/\Lbl (js l a b g) R'
 |[],_,_,_,R,_,_,_,hL,_=>⟨R,λ_ _=>rfl,hL⟩
 |t::_,a,b,g,R,h,ha,hb,hL,hab=>by
  unfold LgH at hab
  unfold js
  exact jn t a b g R h ha hb hL hab
end
def qd(g:Gr)(k:Nat):g.knot.en k=if k<g.ks.length then g.en k else 0:=by unfold Gr.en;rw[tK];split<;>rfl
def tT{g:Gr}(ha:a<g.ks.length)(k:Nat):(g.free a b).en k=g.en k:=by
 unfold Gr.free Gr.en;rw[bm ha];split
 ·rename_i h;rw[h]
 rfl
def yJ{g:Gr}(ha:a<g.ks.length)(k:Nat):(g.leaf x c a b).en k=g.en k:=by
 unfold Gr.leaf Gr.en;rw[bm ha];split
 ·rename_i h;rw[h]
 rfl
def SameEn(g g':Gr):Prop:=∀k,g'.en k=if k<g.ks.length then g.en k else 0
def KH{g:Gr}(h:g.ks.length<=k):g.en k=0:=by unfold Gr.en;rw[eF h];rfl
def SameEn.refl(g:Gr):SameEn g g:=λk=>by
 split
 ·rfl
 exact KH zo
def SameEn.J{a b c:Gr}(h:SameEn a b)(k:SameEn b c)(hl:a.ks.length<=b.ks.length):SameEn a c:=λq=>by
 rw[k q]
 by_cases h1:q<a.ks.length
 ·rw[ap h1,ap zo,h q,ap h1]
 rw[am h1]
 split
 ·rw[h q,am h1]
 rfl
def qb(g:Gr):SameEn g g.knot:=qd g
def fQ{g:Gr}(ha:a<g.ks.length):SameEn g (g.free a b):=λk=>by
 rw[tT ha];exact SameEn.refl g k
def Dm{g:Gr}(ha:a<g.ks.length):SameEn g (g.leaf x c a b):=λk=>by
 rw[yJ ha];exact SameEn.refl g k
def Dq{k:Int}{g:Gr}(hi:i+1<g.ks.length):SameEn g (layO k g i):=by
 unfold layO;split<;>split
 ·exact SameEn.refl _
 ·exact fQ zo
 ·exact fQ hi
 exact(fQ zo).J (fQ (by rw[aS];exact hi)) (by rw[aS];omega)
def yi{g:Gr}(ha:a<g.ks.length):SameEn g (bj g a b):=by
 have h2:g.knot.knot.ks.length=g.ks.length+2:=by rw[aE,aE]
 unfold bj;exact(((qb g).J (qb _) (by rw[aE];omega)).J (fQ zo) zo).J (fQ (by rw[aS];omega)) (by rw[aS];omega)
mutual
def jo:∀(t:Nd) (a b:Nat) (g:Gr),WF g->a<g.ks.length->b<g.ks.length->SameEn g (eS t a b g)
 |.mk k c l,a,b,g,h,ha,hb=>by
  unfold eS
  split
  ·exact vM l a b g h ha hb
  split
  ·exact vO l a b g h ha hb
  split
  ·have hl:=dr g a b
   have hwf:=ei h ha hb
   obtain⟨h1,h2⟩:=jq l g.ks.length (g.ks.length+1) (bj g a b) hwf zo zo
   have:=h2.len
   exact((yi ha).J (Ds l _ _ _ hwf zo zo) zo).J (Dq zo) (by show g.ks.length<=(js l g.ks.length (g.ks.length+1) (bj g a b)).ks.length;omega)
  split
  ·exact fQ ha
  exact Dm ha
def vM:∀(l:List Nd) (a b:Nat) (g:Gr),WF g->a<g.ks.length->b<g.ks.length->SameEn g (kS l a b g)
 |[],_,_,g,_,_,_=>SameEn.refl g
 |t::r,a,b,g,h,ha,hb=>by
  unfold kS
  split
  ·exact jo t a b g h ha hb
  have hl:=aE g
  obtain⟨h1,h2⟩:=bV t a g.ks.length g.knot h.knot zo zo
  have:=h2.len
  exact((qb g).J (jo t _ _ _ h.knot zo zo) zo).J (vM r _ _ _ h1 zo zo) zo
def vO:∀(l:List Nd) (a b:Nat) (g:Gr),WF g->a<g.ks.length->b<g.ks.length->SameEn g (kT l a b g)
 |[],_,_,g,_,_,_=>SameEn.refl g
 |t::r,a,b,g,h,ha,hb=>by
  unfold kT
  obtain⟨h1,h2⟩:=bV t a b g h ha hb
  have:=h2.len
  exact(jo t a b g h ha hb).J (vO r _ _ _ h1 zo zo) zo
def Ds:∀(l:List Nd) (a b:Nat) (g:Gr),WF g->a<g.ks.length->b<g.ks.length->SameEn g (js l a b g)
 |[],_,_,g,_,_,_=>SameEn.refl g
 |t::_,a,b,g,h,ha,hb=>by
  unfold js
  exact jo t a b g h ha hb
end
def Gr.mark(g:Gr)(a e:Nat):Gr:=⟨g.ls,g.ks.set a (g.fr a,g.lv a,e)⟩
def cn(g:Gr)(a e:Nat):(g.mark a e).ks.length=g.ks.length:=by simp[Gr.mark]
def nt{g:Gr}(ha:a<g.ks.length)(k:Nat):(g.mark a e).fr k=g.fr k:=by
 unfold Gr.mark Gr.fr;rw[bm ha];split
 ·rename_i h;rw[h]
 rfl
def ns{g:Gr}(ha:a<g.ks.length)(k:Nat):(g.mark a e).lv k=g.lv k:=by
 unfold Gr.mark Gr.lv;rw[bm ha];split
 ·rename_i h;rw[h]
 rfl
def yF{g:Gr}(ha:a<g.ks.length)(k:Nat):(g.mark a e).en k=if k=a then e else g.en k:=by
 unfold Gr.mark Gr.en;rw[bm ha];split<;>rfl
def Gp{g:Gr}(ha:a<g.ks.length):Sub g (g.mark a e):=⟨by rw[cn];omega,⟨[],by simp[Gr.mark]⟩,λk j _ h=>by rw[nt ha];exact h,λk j _ h=>by rw[ns ha];exact h⟩
def WF.mark{g:Gr}(h:WF g){a e:Nat}(ha:a<g.ks.length):WF (g.mark a e):=
 ⟨λk j hk hj=>by rw[cn]at hk ⊢;rw[nt ha]at hj;exact h.fr k j hk hj,λk j hk hj=>by rw[cn]at hk;rw[ns ha]at hj;exact h.lv k j hk hj,λj hj=>by rw[cn];exact h.ls j hj⟩
def Lbl.mark{g:Gr}{R:Nat->List Int->Prop}(h:Lbl g R){a e:Nat}(ha:a<g.ks.length):Lbl (g.mark a e) R:=
 ⟨λk j hk hj=>by rw[cn]at hk;rw[nt ha]at hj;exact h.fr k j hk hj,λk j hk hj hl=>by rw[cn]at hk;rw[ns ha]at hl;exact h.lv k j hk hj hl⟩
def cG(g:Gr)(i:Nat):Gr:=((g.knot.mark g.ks.length (i+1)).knot).free 0 (g.ks.length+1)
def iu(x:Nd)(i:Nat)(g:Gr):Gr:=eS x (g.ks.length+1) g.ks.length (cG g i)
def bG:List Nd->Nat->Gr->Gr
 |[],_,g=>g
 |x::r,i,g=>bG r (i+1) (iu x i g)
def g00:Gr:=⟨[],[([],[],0)]⟩
def dy(xs:List Nd):Gr:=bG xs 0 g00
def dp(g:Gr)(i:Nat):(cG g i).ks.length=g.ks.length+2:=by unfold cG;rw[aS,aE,cn,aE]
def ec{g:Gr}(h:WF g)(h0:0<g.ks.length)(i:Nat):WF (cG g i)/\Sub g (cG g i):=by
 have h1:=aE g;have h2:=cn g.knot g.ks.length (i+1);have h3:=aE (g.knot.mark g.ks.length (i+1));refine⟨((h.knot.mark zo).knot).free zo zo,(((mu g).J (Gp zo)).J (mu _)).J (gn zo)⟩
def CA{g:Gr}(h0:0<g.ks.length)(i k:Nat):(cG g i).en k=if k=g.ks.length then i+1 else if k<g.ks.length then g.en k else 0:=by
 have h1:=aE g;have h2:=cn g.knot g.ks.length (i+1);have h3:=aE (g.knot.mark g.ks.length (i+1));unfold cG;rw[tT zo,qd,yF zo,qd]
 by_cases hk:k=g.ks.length
 ·simp only[ap hk];rw[ap zo]
 simp only[am hk]
 by_cases a0:k<g.ks.length
 ·simp only[ap a0];rw[ap zo]
 simp only[am a0];split<;>rfl
def je{g:Gr}(h:WF g)(h0:0<g.ks.length)(x:Nd)(i:Nat):WF (iu x i g)/\Sub g (iu x i g)/\g.ks.length+2<=(iu x i g).ks.length:=by
 obtain⟨h1,h2⟩:=ec h h0 i;have hl:=dp g i;obtain⟨h3,h4⟩:=bV x (g.ks.length+1) g.ks.length (cG g i) h1 zo zo;exact⟨h3,h2.J h4,by have:=h4.len;unfold iu;omega⟩
def pI{g:Gr}(h:WF g)(h0:0<g.ks.length)(x:Nd)(i k:Nat):(iu x i g).en k=if k=g.ks.length then i+1 else if k<g.ks.length then g.en k else 0:=by
 obtain⟨h1,h2⟩:=ec h h0 i;have hl:=dp g i;have:=jo x (g.ks.length+1) g.ks.length (cG g i) h1 zo zo k;rw[CA h0,hl]at this;unfold iu;rw[this]
 by_cases hk:k=g.ks.length
 ·rw[ap zo]
 rw[am hk]
 by_cases a0:k<g.ks.length
 ·rw[ap zo]
 rw[am a0];split<;>rfl
def mI:∀(xs:List Nd) (i:Nat) (g:Gr),WF g->0<g.ks.length->WF (bG xs i g)/\Sub g (bG xs i g)/\∀k,k<g.ks.length->(bG xs i g).en k=g.en k
 |[],_,g,h,_=>⟨h,Sub.refl g,λ_ _=>rfl⟩
 |x::r,i,g,h,h0=>by
  obtain⟨h1,h2,h3⟩:=je h h0 x i;obtain⟨h4,h5,h6⟩:=mI r (i+1) (iu x i g) h1 zo;refine⟨h4,h2.J h5,λk hk=>?_⟩;show(bG r (i+1) (iu x i g)).en k=_;rw[h6 k zo,pI h h0,am zo,ap hk]
def mz:WF g00:=by
 refine⟨λk j hk hj=>?_,λk j hk hj=>?_,λj hj=>?_⟩
 ·have:k=0:=by simpa[g00]using hk
  subst this;simp[Gr.fr,g00,ao]at hj
 ·have:k=0:=by simpa[g00]using hk
  subst this;simp[Gr.lv,g00,ao]at hj
 simp[g00]at hj
def pL(xs:List Nd):WF (dy xs)/\0<(dy xs).ks.length:=by
 obtain⟨h1,h2,_⟩:=mI xs 0 g00 mz zd;exact⟨h1,Ms zd h2.len⟩
def sD:∀(xs:List Nd) (i:Nat) (g:Gr),WF g->0<g.ks.length->aU xs=true->∀k w,k<xs.length->Lg (nth xs k) w->∃q,q<(bG xs i g).ks.length/\Pt (bG xs i g) 0 w q/\(bG xs i g).en q=i+k+1
 |[],_,_,_,_,_,k,w,hk,_=>absurd hk (LD _)
 |x::r,i,g,h,h0,hs,k,w,hk,hw=>by
  unfold aU at hs;simp only[ix]at hs;obtain⟨h1,h2,h3⟩:=je h h0 x i;obtain⟨h4,h5,h6⟩:=mI r (i+1) (iu x i g) h1 zo;show∃q,q<(bG r (i+1) (iu x i g)).ks.length/\_
  cases k with
  |zero=>
   rw[ao]at hw;have hl:=dp g i;obtain⟨g1,g2⟩:=ec h h0 i
   have p1:Pt (cG g i) 0 [] (g.ks.length+1):=.eps zo (by
    have e1:=aE g;have e2:=cn g.knot g.ks.length (i+1);have e3:=aE (g.knot.mark g.ks.length (i+1));unfold cG
    rw[cf zo,ap rfl];simp) (.nil _)
   have p2:=ml x (g.ks.length+1) g.ks.length (cG g i) g1 zo zo hs.1 w hw;have p3:Pt (iu x i g) 0 w g.ks.length:=by
    show Pt (eS x (g.ks.length+1) g.ks.length (cG g i)) 0 w g.ks.length;have:=(p1.mono (bV x (g.ks.length+1) g.ks.length (cG g i) g1 zo zo).2).J p2;simpa using this
   have a0:=h5.len;exact⟨g.ks.length,zo,p3.mono h5,by show(bG r (i+1) (iu x i g)).en _=_;rw[h6 _ zo,pI h h0,ap rfl]⟩
  |succ k=>
   rw[aW]at hw;obtain⟨q,q1,q2,q3⟩:=sD r (i+1) (iu x i g) h1 zo hs.2 k w (by simpa using hk) hw;exact⟨q,q1,q2,by show(bG r (i+1) (iu x i g)).en _=_;rw[q3];omega⟩
def qp(A:Nat->Prop):∀(xs:List Nd) (i:Nat) (g:Gr) (R:Nat->List Int->Prop),WF g->0<g.ks.length->Lbl g R->(∀k,k<g.ks.length->g.en k≠0->A (g.en k-1)->R k [])->(∀k w,k<xs.length->A (i+k)->Lg (nth xs k) w->R 0 w)->
  ∃R',(∀k,k<g.ks.length->R' k=R k)/\Lbl (bG xs i g) R'/\∀k,k<(bG xs i g).ks.length->(bG xs i g).en k≠0->A ((bG xs i g).en k-1)->R' k []
 |[],_,g,R,_,_,hL,hE,_=>⟨R,λ_ _=>rfl,hL,hE⟩
 |x::r,i,g,R,h,h0,hL,hE,hZ=>by
  obtain⟨h1,h2,h3⟩:=je h h0 x i;obtain⟨g1,g2⟩:=ec h h0 i;have hl:=dp g i;have a0:∀q,q<g.ks.length->oF (oF R g.ks.length (λw=>w=[]/\A i)) (g.ks.length+1) (λw=>A i/\Lg x w) q=R q:=λq hq=>by rw[dZ zo,dZ zo]
  have ho:oF (oF R g.ks.length (λw=>w=[]/\A i)) (g.ks.length+1) (λw=>A i/\Lg x w) g.ks.length=λw=>w=[]/\A i:=by rw[dZ zo,kL]
  have hi:=kL (oF R g.ks.length (λw=>w=[]/\A i)) (g.ks.length+1) (λw=>A i/\Lg x w);have e1:=aE g;have e2:=cn g.knot g.ks.length (i+1);have e3:=aE (g.knot.mark g.ks.length (i+1));have a5:Lbl (cG g i) (oF (oF R g.ks.length (λw=>w=[]/\A i)) (g.ks.length+1) (λw=>A i/\Lg x w)):=by
   refine(((hL.agree h a0).knot.mark zo).knot).free zo λw hw=>?_
   rw[hi]at hw;rw[a0 0 h0];exact hZ 0 w (by simp) hw.1 (by rw[ao];exact hw.2)
  generalize oF (oF R g.ks.length (λw=>w=[]/\A i)) (g.ks.length+1) (λw=>A i/\Lg x w)=R1 at *
  obtain⟨R2,f2,a4⟩:=jn x (g.ks.length+1) g.ks.length (cG g i) R1 g1 zo zo a5 (λu v hu hv=>by
   rw[ho]at hv;rw[hi];obtain⟨rfl,hv⟩:=hv
   exact⟨hv,by rw[Lz];exact hu⟩)
  obtain⟨R3,f3,a3,a6⟩:=qp A r (i+1) (iu x i g) R2 h1 zo a4 (λk hk hn ha=>by
   rw[pI h h0]at hn ha
   by_cases a2:k=g.ks.length
   ·rw[ap a2]at ha;rw[a2,f2 _ zo,ho];exact⟨rfl,ha⟩
   ·rw[am a2]at hn ha
    by_cases a1:k<g.ks.length
    ·rw[ap a1]at hn ha;rw[f2 _ zo,a0 k a1];exact hE k a1 hn ha
    rw[am a1]at hn;exact absurd rfl hn) (λk w hk ha hw=>by
   rw[f2 _ zo,a0 0 h0]
   exact hZ (k+1) w (by simpa using hk) (by rw[show i+(k+1)=i+1+k from by omega];exact ha) (by rw[aW];exact hw))
  exact⟨R3,λq hq=>by rw[f3 q zo,f2 q zo,a0 q hq],a3,a6⟩
def Aj{xs:List Nd}(hs:aU xs=true)(i:Nat)(w:List Int):(∃q,q<(dy xs).ks.length/\Pt (dy xs) 0 w q/\(dy xs).en q=i+1)↔i<xs.length/\Lg (nth xs i) w:=by
 constructor
 ·rintro⟨q,hq,hp,he⟩
  obtain⟨R,f,hL,hE⟩:=qp (λk=>k=i) xs 0 g00 (λ_ w=>i<xs.length/\Lg (nth xs i) w) mz zd ⟨λk j hk hj=>by
   have:k=0:=by simpa[g00]using hk
   subst this;simp[Gr.fr,g00,ao]at hj,λk j hk hj=>by simp[g00]at hj⟩ (λk hk hn=>by
   have:k=0:=by simpa[g00]using hk
   subst this;exact absurd (by simp[Gr.en,g00,ao]) hn) (λk w hk ha hw=>by
   rw[Nb]at ha;subst ha
   exact⟨hk,hw⟩)
  have h1:=hE q hq (by show(dy xs).en q≠0;omega) (by show(dy xs).en q-1=i;omega);have h2:=hL.path hp [] h1;rw[f 0 zd,Lz]at h2;exact h2
 rintro⟨hi,hw⟩;obtain⟨q,q1,q2,q3⟩:=sD xs 0 g00 mz zd hs i w hi hw;exact⟨q,q1,q2,by show(bG xs 0 g00).en q=_;rw[q3];omega⟩
def eC:List Nat->List Nat->List Nat
 |l,[]=>l
 |l,x::r=>eC (if l.contains x then l else l++[x]) r
def ja(g:Gr):Nat->Nat->List Nat->List Nat
 |0,_,l=>l
 |n+1,i,l=>if i<l.length then ja g n (i+1) (eC l (g.fr (nth l i)))else l
def gi(g:Gr)(k:Nat):List Nat:=ja g g.ks.length 0 [k]
def kj:∀(r l:List Nat),∃s,eC l r=l++s
 |[],l=>⟨[],by simp[eC]⟩
 |x::r,l=>by
  unfold eC
  split
  ·exact kj r l
  obtain⟨s,hs⟩:=kj r (l++[x]);exact⟨x::s,by rw[hs];simp⟩
def ia:∀(r l:List Nat) (y:Nat),y∈eC l r↔y∈l\/y∈r
 |[],l,y=>by simp[eC]
 |x::r,l,y=>by
  unfold eC;rw[ia r]
  split
  ·rename_i h;have hx:x∈l:=by simpa using h
   constructor
   ·rintro(h1|h1)
    ·exact .inl h1
    exact .inr (by simp[h1])
   rintro(h1|h1)
   ·exact .inl h1
   rcases MK.1 h1 with rfl|h1
   ·exact .inl hx
   exact .inr h1
  simp[or_assoc]
def ow:∀(r l:List Nat),l.Nodup->(eC l r).Nodup
 |[],l,h=>h
 |x::r,l,h=>by
  unfold eC;apply ow r _
  split
  ·exact h
  rename_i hx;have hx:x∉l:=by simpa using hx
  exact N9.2 ⟨h,by simp,λa ha b hb=>by rw[Lk.1 hb];intro e;exact hx (by rw[<-e];exact ha)⟩
def gk(hn:l.Nodup)(h:∀x∈l,x<n):l.length<=n:=by
 have:=hn.length_le_of_subset (l₂:=MQ n) λx hx=>Nw.2 (h x hx)
 simpa using this
structure Rc(g:Gr)(k i:Nat)(l:List Nat):Prop where
 nd:l.Nodup
 lt:∀x∈l,x<g.ks.length
 fst:k∈l
 pt:∀x∈l,Pt g k [] x
 cl:∀j,j<i->j<l.length->∀y∈g.fr (nth l j),y∈l
def uk{g:Gr}(hk:k<g.ks.length):Rc g k 0 [k]:=⟨by simp,by simpa using hk,by simp,λx hx=>by rw[Lk.1 hx];exact .nil _,λj hj=>absurd hj (LD _)⟩
def Rc.step{g:Gr}(hw:WF g)(h:Rc g k i l)(hi:i<l.length):Rc g k (i+1) (eC l (g.fr (nth l i))):=by
 have hm:=aJ hi;obtain⟨s,hs⟩:=kj (g.fr (nth l i)) l;refine⟨ow _ _ h.nd,λx hx=>?_,(ia _ _ _).2 (.inl h.fst),λx hx=>?_,λj hj a1 y hy=>?_⟩
 ·rcases(ia _ _ _).1 hx with hx|hx
  ·exact h.lt x hx
  exact hw.fr _ _ (h.lt _ hm) hx
 ·rcases(ia _ _ _).1 hx with hx|hx
  ·exact h.pt x hx
  have:=(h.pt _ hm).J (.eps (h.lt _ hm) hx (.nil x));simpa using this
 have a0:j<l.length:=zo;rw[hs,az,ap a0]at hy;refine(ia _ _ _).2 ?_
 by_cases e:j=i
 ·subst e;exact .inr hy
 exact .inl (h.cl j zo a0 y hy)
def Rc.done{g:Gr}(h:Rc g k i l)(hi:l.length<=i)(q:Nat):q∈l↔Pt g k [] q:=by
 refine⟨h.pt q,λp=>?_⟩;have a0:∀ {a:Nat} {w:List Int} {b:Nat},Pt g a w b->w=[]->a∈l->b∈l:=λp=>by
  induction p with
  |nil=>exact λ_ h=>h
  |eps h1 h2 _ ih=>
   intro e ha;obtain⟨j,hj,rfl⟩:=cd ha;exact ih e (h.cl j zo hj _ h2)
  |leaf=>intro e;cases e
 exact a0 p rfl h.fst
def pG{g:Gr}(hw:WF g){k:Nat}:∀(n i:Nat) (l:List Nat),Rc g k i l->g.ks.length<=i+n->∀q,q∈ja g n i l↔Pt g k [] q
 |0,i,l,h,hn,q=>h.done (Nc (gk h.nd h.lt) zo) q
 |n+1,i,l,h,hn,q=>by
  unfold ja
  split
  ·rename_i hi;exact pG hw n (i+1) _ (h.step hw hi) zo q
  rename_i hi;exact h.done zo q
def iZ{g:Gr}(hw:WF g)(hk:k<g.ks.length)(q:Nat):q∈gi g k↔Pt g k [] q:=pG hw _ _ _ (uk hk) zo q
def Gr.pl(g:Gr)(p:Nat):Nat:=if p=0 then 0 else(nth g.ls (p-1)).2.2
def cS(g:Gr)(p:Nat):List Nat:=(gi g (g.pl p)).flatMap g.lv
def gw(g:Gr)(b k:Nat):Nat:=if g.en k=0 then b else b ||| 2^(g.en k-1)
def iU(g:Gr)(p:Nat):Nat:=(gi g (g.pl p)).foldl (gw g) 0
def oH{g:Gr}(hw:WF g)(h0:0<g.ks.length)(hp:p<=g.ls.length):g.pl p<g.ks.length:=by
 unfold Gr.pl
 split
 ·exact h0
 exact hw.ls _ zo
def iz{g:Gr}(hw:WF g)(h0:0<g.ks.length)(hp:p<=g.ls.length)(j:Nat):j∈cS g p↔∃k,Pt g (g.pl p) [] k/\j∈g.lv k:=by
 unfold cS;rw[Nk]
 constructor
 ·rintro⟨k,hk,hj⟩;exact⟨k,(iZ hw (oH hw h0 hp) k).1 hk,hj⟩
 rintro⟨k,hk,hj⟩;exact⟨k,(iZ hw (oH hw h0 hp) k).2 hk,hj⟩
def uI(g:Gr)(i:Nat):∀(l:List Nat) (b:Nat),(l.foldl (gw g) b).testBit i=(b.testBit i||l.any λk=>decide (g.en k=i+1))
 |[],b=>by simp
 |k::l,b=>by
  rw[Np,uI g i l,NH];unfold gw
  split
  ·rename_i h;rw[decide_eq_false zo,N5]
  rename_i h;rw[MZ,N2,N4];congr 2;exact decide_eq_decide.2 zo
def oM{g:Gr}(hw:WF g)(h0:0<g.ks.length)(hp:p<=g.ls.length)(i:Nat):(iU g p).testBit i=true↔∃k,Pt g (g.pl p) [] k/\g.en k=i+1:=by
 unfold iU;rw[uI,Py,N5,Mz]
 constructor
 ·rintro⟨k,hk,hj⟩;exact⟨k,(iZ hw (oH hw h0 hp) k).1 hk,of_decide_eq_true hj⟩
 rintro⟨k,hk,hj⟩;exact⟨k,(iZ hw (oH hw h0 hp) k).2 hk,decide_eq_true hj⟩
def FF{g:Gr}{w:List Int}:Pt g a (w++[m]) b↔∃k j,Pt g a w k/\k<g.ks.length/\j<g.ls.length/\j+1∈g.lv k/\ck (nth g.ls j).1 (nth g.ls j).2.1 m=true/\Pt g (nth g.ls j).2.2 [] b:=by
 constructor
 ·intro p;generalize hx:w++[m]=x at p
  induction p generalizing w with
  |nil=>simp at hx
  |eps h1 h2 _ ih=>
   obtain⟨k,j,q1,q⟩:=ih hx;exact⟨k,j,.eps h1 h2 q1,q⟩
  | @leaf k j q m' w' h1 h2 h3 h4 p ih=>
   cases w with
   |nil=>
    simp only[No,M9]at hx;obtain⟨rfl,rfl⟩:=hx;exact⟨k,j,.nil _,h1,h2,h3,h4,p⟩
   |cons c w=>
    simp only[M8,M9]at hx;obtain⟨rfl,hx⟩:=hx;obtain⟨k',j',q1,q⟩:=ih hx;exact⟨k',j',.leaf h1 h2 h3 h4 q1,q⟩
 rintro⟨k,j,p,h1,h2,h3,h4,q⟩;exact p.J (.leaf h1 h2 h3 h4 q)
structure Stp(g:Gr)(se:Bool)(step:List Int->Int->List Int):Prop where
 mem:∀(s:List Int) (m x:Int),x∈step s m↔(se=true/\x=0)\/∃p∈s,∃j∈cS g p.toNat,x=(j:Int)/\ck (nth g.ls (j-1)).1 (nth g.ls (j-1)).2.1 m=true
def FM(step:List Int->Int->List Int)(w:List Int):List Int:=w.foldl step [0]
def CK(step:List Int->Int->List Int)(w:List Int)(m:Int):FM step (w++[m])=step (FM step w) m:=by unfold FM;rw[Na];rfl
def inP(g:Gr)(s:List Int):Prop:=∀x∈s,0<=x/\x.toNat<=g.ls.length
def sV{g:Gr}(hw:WF g)(h0:0<g.ks.length){step:List Int->Int->List Int}(h:Stp g se step)(hs:inP g s)(m:Int):inP g (step s m):=λx hx=>by
 rcases(h.mem s m x).1 hx with⟨_,rfl⟩|⟨p,hp,j,hj,rfl,_⟩
 ·exact⟨NZ _,Ln _⟩
 obtain⟨k,hk,a2⟩:=(iz hw h0 (hs p hp).2 j).1 hj;have a1:k<g.ks.length:=(iZ hw (oH hw h0 (hs p hp).2) k).2 hk |> λhm=>by
  have a0:∀ {a:Nat} {w:List Int} {b:Nat},Pt g a w b->a<g.ks.length->b<g.ks.length:=λp=>by
   induction p with
   |nil=>exact λh=>h
   |eps h1 h2 _ ih=>exact λ_=>ih (hw.fr _ _ h1 h2)
   |leaf h1 h2 h3 h4 _ ih=>exact λ_=>ih (hw.ls _ h2)
  exact a0 hk (oH hw h0 (hs p hp).2)
 have:=hw.lv k j a1 a2;exact⟨zo,by simp;omega⟩
def Ib{g:Gr}(hw:WF g)(h0:0<g.ks.length){step:List Int->Int->List Int}(h:Stp g se step)(w:List Int):inP g (FM step w):=by
 have a0:∀(w s:List Int),inP g s->inP g (w.foldl step s):=λw=>by
  induction w with
  |nil=>exact λs hs=>hs
  |cons m w ih=>exact λs hs=>ih _ (sV hw h0 h hs m)
 exact a0 w [0] λx hx=>by rw[Lk.1 hx];exact⟨NZ _,Ln _⟩
def Pt.lt{g:Gr}(hw:WF g){w:List Int}(p:Pt g a w b):a<g.ks.length->b<g.ks.length:=by
 induction p with
 |nil=>exact λh=>h
 |eps h1 h2 _ ih=>exact λ_=>ih (hw.fr _ _ h1 h2)
 |leaf h1 h2 h3 h4 _ ih=>exact λ_=>ih (hw.ls _ h2)
def QP(g:Gr)(se:Bool)(w:List Int)(k:Nat):Prop:=∃u v,w=u++v/\(se=true\/u=[])/\Pt g 0 v k
def uV{g:Gr}(hw:WF g)(h0:0<g.ks.length){se:Bool}{step:List Int->Int->List Int}(h:Stp g se step):∀(n:Nat) (w:List Int),w.length=n->∀k,(∃p∈FM step w,Pt g (g.pl p.toNat) [] k)↔QP g se w k
 |0,w,hn,k=>by
  obtain rfl:=Lo hn
  constructor
  ·rintro⟨p,hp,q⟩;rw[show FM step []=[0]from rfl,Lk]at hp;subst hp;exact⟨[],[],rfl,.inr rfl,q⟩
  rintro⟨u,v,e,_,q⟩;obtain⟨rfl,rfl⟩:=List.append_eq_nil_iff.1 e.symm;exact⟨0,by rw[show FM step []=[0]from rfl];simp,q⟩
 |n+1,w,hn,k=>by
  obtain⟨w,m,rfl⟩:∃w' m,w=w'++[m]:=⟨w.dropLast,w.getLast (by intro e;rw[e]at hn;simp at hn),(List.dropLast_concat_getLast _).symm⟩
  have ih:=uV hw h0 h n w (by simpa using hn);have a3:=Ib hw h0 h w;rw[CK]
  constructor
  ·rintro⟨p,hp,q⟩
   rcases(h.mem _ m p).1 hp with⟨a2,rfl⟩|⟨p',a0,j,hj,rfl,ht⟩
   ·exact⟨w++[m],[],by simp,.inl a2,q⟩
   obtain⟨k',a1,a5⟩:=(iz hw h0 (a3 p' a0).2 j).1 hj;have a4:=a1.lt hw (oH hw h0 (a3 p' a0).2);obtain⟨u,v,rfl,hu,hv⟩:=(ih k').1 ⟨p',a0,a1⟩;have a6:=hw.lv k' j a4 a5;refine⟨u,v++[m],by rw[Lm],hu,FF.2 ⟨k',j-1,hv,a4,zo,by rw[show j-1+1=j from by omega];exact a5,ht,?_⟩⟩;have e:g.pl ((j:Int)).toNat=(nth g.ls (j-1)).2.2:=by unfold Gr.pl;rw[am (by simp;omega)];simp
   rw[<-e];exact q
  rintro⟨u,v,e,hu,hv⟩
  rcases List.eq_nil_or_concat v with rfl|⟨v,m',rfl⟩
  ·have a2:se=true:=by
    rcases hu with hu|hu
    ·exact hu
    subst hu;simp at e
   exact⟨0,(h.mem _ m 0).2 (.inl ⟨a2,rfl⟩),hv⟩
  rw[List.concat_eq_append]at e hv;rw[<-Lm]at e;obtain⟨rfl,e2⟩:=List.append_inj' e rfl;obtain rfl:m=m':=by simpa using e2
  obtain⟨k',j,p1,p2,p3,p4,p5,p6⟩:=FF.1 hv;obtain⟨p',a0,a1⟩:=(ih k').2 ⟨u,v,rfl,hu,p1⟩;refine⟨((j+1:Nat):Int),(h.mem _ m _).2 (.inr ⟨p',a0,j+1,(iz hw h0 (a3 p' a0).2 _).2 ⟨k',a1,p4⟩,rfl,by simpa using p5⟩),?_⟩;have e:g.pl (((j+1:Nat):Int)).toNat=(nth g.ls j).2.2:=by unfold Gr.pl;rw[am (by simp)];simp
  rw[e];exact p6
def df(g:Gr)(s:List Int):Nat:=s.foldl (λb p=>b ||| iU g p.toNat) 0
def uK(g:Gr)(i:Nat)(s:List Int):(df g s).testBit i=s.any λp=>(iU g p.toNat).testBit i:=by
 have a0:∀(s:List Int) (b:Nat),(s.foldl (λb p=>b ||| iU g p.toNat) b).testBit i=(b.testBit i||s.any λp=>(iU g p.toNat).testBit i):=λs=>by
  induction s with
  |nil=>intro b;simp
  |cons p s ih=>intro b;rw[Np,ih,MZ,NH,N4]
 unfold df;rw[a0,Py,N5]
def A4{xs:List Nd}(hs:aU xs=true){step:List Int->Int->List Int}(h:Stp (dy xs) se step)(w:List Int)(i:Nat):
  (df (dy xs) (FM step w)).testBit i=true↔i<xs.length/\∃u v,w=u++v/\(se=true\/u=[])/\Lg (nth xs i) v:=by
 obtain⟨hw,h0⟩:=pL xs;have a0:=Ib hw h0 h w;have hk:=uV hw h0 h w.length w rfl;rw[uK,Mz]
 constructor
 ·rintro⟨p,hp,hb⟩;obtain⟨k,a2,a1⟩:=(oM hw h0 (a0 p hp).2 i).1 hb;obtain⟨u,v,rfl,hu,hv⟩:=(hk k).1 ⟨p,hp,a2⟩;have:=(Aj hs i v).1 ⟨k,hv.lt hw h0,hv,a1⟩;exact⟨this.1,u,v,rfl,hu,this.2⟩
 rintro⟨hi,u,v,rfl,hu,hv⟩;obtain⟨k,h1,h2,h3⟩:=(Aj hs i v).2 ⟨hi,hv⟩;obtain⟨p,hp,hq⟩:=(hk k).2 ⟨u,v,rfl,hu,h2⟩;exact⟨p,hp,(oM hw h0 (a0 p hp).2 i).2 ⟨k,hq,h3⟩⟩
end Go.Proofs.YtcfhbfflgnbacaaGreatDoor
namespace Go.Proofs
open Go.Shelf
def oK:Pm:=⟨fun|189=>145|125=>170|257=>169|128=>189|129=>190|294=>180|295=>181|296=>182|297=>183|298=>184|299=>185|216=>186|300=>187|301=>188|328=>203|329=>204|330=>205|331=>206|332=>207|215=>208|343=>214|n=>n,fun|28=>22|3=>3|46=>87|0=>0|51=>275|53=>28|4=>4|183=>270|182=>269|131=>111|5=>5|9=>9|218=>286|222=>289|228=>293|229=>239|n=>n,fun|n=>n⟩
def oC:PT MI oK:={
 mixed:=by kernel_rfl
 f125:=func170.J (congrArg some (by kernel_rfl))
 f128:=func189.J (congrArg some (by kernel_rfl))
 f129:=func190.J (congrArg some (by kernel_rfl))
 f189:=func145.J (congrArg some (by kernel_rfl))
 f215:=func208.J (congrArg some (by kernel_rfl))
 f216:=func186.J (congrArg some (by kernel_rfl))
 f257:=func169.J (congrArg some (by kernel_rfl))
 f294:=func180.J (congrArg some (by kernel_rfl))
 f295:=func181.J (congrArg some (by kernel_rfl))
 f296:=func182.J (congrArg some (by kernel_rfl))
 f297:=func183.J (congrArg some (by kernel_rfl))
 f298:=func184.J (congrArg some (by kernel_rfl))
 f299:=func185.J (congrArg some (by kernel_rfl))
 f300:=func187.J (congrArg some (by kernel_rfl))
 f301:=func188.J (congrArg some (by kernel_rfl))
 f328:=func203.J (congrArg some (by kernel_rfl))
 f329:=func204.J (congrArg some (by kernel_rfl))
 f330:=func205.J (congrArg some (by kernel_rfl))
 f331:=func206.J (congrArg some (by kernel_rfl))
 f332:=func207.J (congrArg some (by kernel_rfl))
 f343:=func214.J (congrArg some (by kernel_rfl))
 t0:=Qn
 a0:=isAgg0
 z0:=sizeOf0
 v0:=Qt
 t3:=Pr
 a3:=isAgg3
 z3:=sizeOf3
 v3:=Qs
 t4:=Ql
 a4:=isAgg4
 z4:=sizeOf4
 v4:=Qr
 t5:=underlying5
 a5:=isAgg5
 z5:=sizeOf5
 v5:=zeroValue5
 t9:=underlying9
 a9:=isAgg9
 z9:=sizeOf9
 v9:=zeroValue9
 t28:=MA
 a28:=PN
 z28:=Ps
 v28:=NB
 t46:=underlying87
 a46:=isAgg87
 z46:=sizeOf87
 v46:=zeroValue87
 t51:=underlying275
 a51:=isAgg275
 z51:=sizeOf275
 v51:=zeroValue275
 t53:=underlying28
 a53:=isAgg28
 z53:=sizeOf28
 v53:=Pq
 t131:=underlying111
 a131:=isAgg111
 z131:=sizeOf111
 v131:=zeroValue111
 t182:=underlying269
 a182:=isAgg269
 z182:=sizeOf269
 v182:=zeroValue269
 t183:=underlying270
 a183:=isAgg270
 z183:=sizeOf270
 v183:=zeroValue270
 t218:=underlying286
 a218:=isAgg286
 z218:=sizeOf286
 v218:=zeroValue286
 t222:=underlying289
 a222:=isAgg289
 z222:=sizeOf289
 v222:=zeroValue289
 t228:=underlying293
 a228:=isAgg293
 z228:=sizeOf293
 v228:=zeroValue293
 t229:=underlying239
 a229:=isAgg239
 z229:=sizeOf239
 v229:=zeroValue239 }
open Go.Sort Go.RowKit in
def Tryz.slices_Sort_int(blk off a1:Nat)(zs:List Int)(w:Lj)(hH:Holds (MX .i64) w blk off zs.toArray)(a0:blk<w.heap.size)(a2:zs.length<4611686018427387904):
 Qq MI 145 #[.slice (some ⟨blk,off,none⟩) zs.length a1] w λe w'=>
  e=.returned (.tuple #[])/\∃n os,w'=grow (putRow (MX .i64) (P3 w n) blk off (zs.mergeSort λx y=>decide (x<=y)).toArray) os:=Any.slices_Sort_int oC blk off a1 zs w hH a0 a2
def mP:Pm:=⟨fun|20=>146|n=>n,fun|22=>22|3=>3|4=>4|0=>0|n=>n,fun|n=>n⟩
def kJ:PK MI mP:={
 mixed:=by kernel_rfl
 f20:=func146.J (congrArg some (by kernel_rfl))
 t0:=Qn
 a0:=isAgg0
 z0:=sizeOf0
 v0:=Qt
 t3:=Pr
 a3:=isAgg3
 z3:=sizeOf3
 v3:=Qs
 t4:=Ql
 a4:=isAgg4
 z4:=sizeOf4
 v4:=Qr
 t22:=MA
 a22:=PN
 z22:=Ps
 v22:=NB
 i3:=by kernel_rfl }
open Go.RowKit Go.Lib Go.Sort in
def Tryz.slices_Compact_int(blk off a0:Nat)(zs:List Int)(w:Lj)(hH:Holds (MX .i64) w blk off zs.toArray)(a2:zs.length<=9223372036854775807)(a1:zs.length<=a0):
 Qq MI 146 #[.slice (some ⟨blk,off,none⟩) zs.length a0] w λe w'=>e=.returned (.slice (some ⟨blk,off,none⟩) (LU zs).length a0)/\∃q,w'=putRow (MX .i64) (P3 w q) blk off (LU zs++Ly (zs.length-(LU zs).length) 0).toArray:=Any.slices_Compact_int kJ blk off a0 zs w hH a2 a1
open Go.RowKit Go.Lib Go.Sort in
def Tryz.slices_Compact_int_empty(a:Option Q6)(a0:Nat)(w:Lj):
 Qq MI 146 #[.slice a 0 a0] w λe w'=>e=.returned (.slice a 0 a0)/\w'=w:=Any.slices_Compact_int_empty kJ a a0 w
open Go.RowKit Go.Sort in
def Tryz.slices_Sort_int_none(p:Option Q6)(a0:Nat)(w:Lj):
 Qq MI 145 #[.slice p 0 a0] w λe w'=>e=.returned (.tuple #[])/\w'=w:=Any.slices_Sort_int_none oC p a0 w
end Go.Proofs
namespace Go.Proofs.YtcfhbfflgnbacaaGreatDoor
section
open Go.Sort
def iW(l:List Int):List Int:=l.mergeSort λx y=>decide (x<=y)
def eN(l:List Int):(iW l).length=l.length:=List.length_mergeSort ..
def mB(l:List Int):(l.flatMap encI)=l.map (MX .i64):=by induction l<;>simp_all[encI]
def Ch{g:Nat}{os:Array Obj}(d:Array Int)(hi:i≠0)(ho:O g=i):MC (λk=>k=i) O w O (grow (putRow (MX .i64) (P3 w n) g 0 d) os):=by
 obtain⟨h1,h2,h3,h4,h5⟩:=grownBy_sortedI (w:=w) (g:=g) (n:=n) (os:=os) d;exact⟨h1,h2,h3,h4,λk hk hn=>h5 k hk (λe=>hn (by rw[<-ho];congr 1;exact Q5 e)),λ_ _=>rfl,λ_ h=>.inl h,λe=>hi e.symm⟩
def lG{l:List Int}(hR:NI B O w)(hr:Mw encI 3 1 O w i v l)(hi:i≠0)(hl:l.length<=1000000):PZ MI 145 [v] w λ_ w'=>Mw encI 3 1 O w' i v (iW l)/\MC (λk=>k=i) O w O w'/\NI B O w':=by
 rcases hr.1.row.2 with⟨rfl,h0⟩|⟨g,a6,a8,rfl,a7,hg,a2,a5,a4,ht⟩
 ·obtain rfl:l=[]:=Lo h0;refine Ns (Tryz.slices_Sort_int_none none 0 w) λe w' ⟨he,hw⟩=>?_
  subst he;subst hw;exact⟨by rw[Lo (eN [])];exact hr,MB (λe=>hi e.symm) _ _,hR⟩
 have a0:=hr.1.tag g rfl;rw[mB]at ht;have hH:=holds_of_blockI (ss:=l) hg (by simpa using ht);have a3:=bH hg;refine Ns (Tryz.slices_Sort_int g 0 a6 l w hH a3 zo) λe w' ⟨he,n,os,hw⟩=>?_
 subst he;subst hw;have hU:=Ch (w:=w) (n:=n) (os:=os) (iW l).toArray hi a0;refine⟨⟨⟨?_,λg' a1=>by simp[Px]at a1;subst a1;exact a0⟩,λ_ _=>rfl⟩,hU,hR.U hU⟩;have:=ownsRow_sortedI (w:=w) (n:=n) (os:=os) (base:=0) (ss:=l) (ts:=iW l) (eN l) (Ln _) hg a2 a5 a4;rw[mB,eN];exact this
def BP(l:List Int):(LU l).length<=l.length:=by
 unfold LU ME;rw[Mr];exact Nc (MU _ _) (by simp)
def fW{l:List Int}(hR:NI B O w)(hr:Mw encI 3 1 O w i v l)(hi:i≠0)(hl:l.length<=1000000):PZ MI 146 [v] w λu w'=>Mw encI 3 1 O w' i u (LU l)/\MC (λk=>k=i) O w O w'/\NI B O w':=by
 rcases hr.1.row.2 with⟨rfl,h0⟩|⟨g,a4,a7,rfl,b0,hg,a5,a6,a',ht⟩
 ·obtain rfl:l=[]:=Lo h0;refine Ns (Tryz.slices_Compact_int_empty none 0 w) λe w' ⟨he,hw⟩=>?_
  subst he;subst hw;exact⟨hr,MB (λe=>hi e.symm) _ _,hR⟩
 have a0:=hr.1.tag g rfl;rw[mB]at ht;have hH:=holds_of_blockI (ss:=l) hg (by simpa using ht);have a9:=BP l;refine Ns (Tryz.slices_Compact_int g 0 a4 l w hH zo a5) λe w' ⟨he,n,hw⟩=>?_
 subst he;obtain⟨ts,a1⟩:∃ts,ts=LU l++Ly (l.length-(LU l).length) 0:=⟨_,rfl⟩
 rw[<-a1]at hw;have a8:ts.length=l.length:=by rw[a1];simp;omega
 have hU:=Ch (w:=w) (n:=n) (os:=#[]) ts.toArray hi a0;have a2:=heap_sortedI (n:=n) (os:=#[]) ts.toArray hg;rw[grow_empty,<-hw]at hU a2;refine⟨⟨⟨⟨by rw[mB];simp,.inr ⟨g,a4,_,rfl,Ln _,a2,zo,a6,by simp[putCells];omega,?_⟩⟩,λg' a3=>by simp[Px]at a3;subst a3;exact a0⟩,λ_ _=>rfl⟩,hU,hR.U hU⟩;have h1:=take_putCellsI a7 ts zo;have h2:=congrArg (Pi (LU l).length) h1;rw[Nv,PF zo]at h2;rw[mB,Q3,h2,a1,M4,Nm (by simp),NK (by simp)]
end
def sC(l:List Int):List Int:=LU (iW l)
structure Cmp(d:Array Int)(m:Nat)(r:List Int):Prop where
 mem:∀x,x∈r↔∃j,j<m/\d[j]! = x
 pw:r.Pairwise (· < ·)
def AM(d:Array Int)(hs:∀i j,i<=j->j<d.size->d[i]!<=d[j]!):∀m,m<=d.size->Cmp d m (ME d m)
 |0,_=>⟨λx=>by simp[ME],by simp[ME]⟩
 |m+1,hm=>by
  have ih:=AM d hs m zo;rw[Lib.compactUpTo_succ]
  by_cases hk:PA d m=true
  ·rw[ap hk];refine⟨λx=>?_,?_⟩
   ·rw[L3,ih.mem,Lk]
    constructor
    ·rintro(⟨j,hj,e⟩|e)
     ·exact⟨j,zo,e⟩
     exact⟨m,zo,e.symm⟩
    rintro⟨j,hj,e⟩
    by_cases a0:j=m
    ·subst a0;exact .inr e.symm
    exact .inl ⟨j,zo,e⟩
   refine NS.2 ⟨ih.pw,by simp,λa ha b hb=>?_⟩;rw[Lk]at hb;subst hb;obtain⟨j,hj,rfl⟩:=(ih.mem a).1 ha;simp only[PA,decide_eq_true_eq]at hk;have h1:=hs j (m-1) zo zo;have h2:=hs (m-1) m zo zo
   rcases hk with hk|hk
   ·omega
   omega
  rw[am hk,Lz];refine⟨λx=>?_,ih.pw⟩;rw[ih.mem]
  constructor
  ·rintro⟨j,hj,e⟩;exact⟨j,zo,e⟩
  rintro⟨j,hj,e⟩
  by_cases a0:j=m
  ·subst a0;simp only[PA,decide_eq_true_eq,not_or]at hk;obtain⟨h1,h2⟩:=hk;exact⟨j-1,zo,by rw[<-e];exact(MF λa1=>h2 λe2=>a1 e2.symm)⟩
  exact⟨j,zo,e⟩
def uP(l:List Int):(iW l).Pairwise (·<=·):=by
 have:=List.pairwise_mergeSort (le:=λx y:Int=>decide (x<=y)) (λa b c h1 h2=>by simp at h1 h2 ⊢;omega) (λa b=>by simp;omega) l;exact this.imp λh=>by simpa using h
def CB(l:List Int)(x:Int):x∈iW l↔x∈l:=List.mem_mergeSort ..
def xl(l:List Int):(∀x,x∈sC l↔x∈l)/\(sC l).Pairwise (· < ·):=by
 have hp:=uP l;have a0:∀j,j<(iW l).length->(iW l).toArray[j]! = nth (iW l) j:=λj hj=>by
  rw[aB hj,getElem!_pos _ j (by simpa using hj)];simp
 have h:=AM (iW l).toArray (λi j a1 hj=>by
  have hj:j<(iW l).length:=by simpa using hj
  rw[a0 i zo,a0 j hj]
  by_cases e:i=j
  ·subst e;exact NZ _
  have:=Nz.1 hp i j zo hj zo
  rw[aB zo,aB hj];exact this) (iW l).length (by simp)
 refine⟨λx=>?_,h.pw⟩;show x∈ME _ _↔_;rw[h.mem,<-CB l x]
 constructor
 ·rintro⟨j,hj,rfl⟩;rw[a0 j hj];exact aJ hj
 intro hx;obtain⟨j,hj,rfl⟩:=cd hx;exact⟨j,hj,a0 j hj⟩
def xk(l:List Int)(x:Int):x∈sC l↔x∈l:=(xl l).1 x
def tZ(l:List Int):(sC l).Pairwise (· < ·):=(xl l).2
def CP:∀ {a b:List Int},a.Pairwise (· < ·)->b.Pairwise (· < ·)->(∀x,x∈a↔x∈b)->a=b
 |[],[],_,_,_=>rfl
 |[],y::b,_,_,h=>absurd ((h y).2 (by simp)) (by simp)
 |x::a,[],_,_,h=>absurd ((h x).1 (by simp)) (by simp)
 |x::a,y::b,ha,hb,h=>by
  have a1:=P7.1 ha;have a0:=P7.1 hb;have e:x=y:=by
   have h1:=(h x).1 (by simp);have h2:=(h y).2 (by simp)
   rcases MK.1 h1 with h1|h1
   ·exact h1
   rcases MK.1 h2 with h2|h2
   ·exact h2.symm
   have:=a0.1 x h1;have:=a1.1 y h2;omega
  subst e;rw[CP a1.2 a0.2 λz=>?_]
  constructor
  ·intro hz
   rcases MK.1 ((h z).1 (by simp[hz]))with e|e
   ·subst e;have:=a1.1 z hz;omega
   exact e
  intro hz
  rcases MK.1 ((h z).2 (by simp[hz]))with e|e
  ·subst e;have:=a0.1 z hz;omega
  exact e
def Ga{a:List Int}(h:a.Pairwise (· < ·))(hb:∀x∈a,0<=x/\x.toNat<n):a.length<=n:=by
 have hn:(a.map Int.toNat).Nodup:=by
  refine Pc.2 (h.imp_of_mem fun {x y} hx hy a0=>?_);have:=hb x hx;have:=hb y hy;omega
 have:=gk hn (n:=n) λx hx=>by
  obtain⟨y,hy,rfl⟩:=M0.1 hx;exact(hb y hy).2
 simpa using this
mutual
def aK:Nd->Nat
 |.mk k _ l=>if l.isEmpty=true/\k≠9 then 1 else aA l
def aA:List Nd->Nat
 |[]=>0
 |t::r=>aK t+aA r
end
mutual
/-- Parts stand where parts may stand. -/
def gW:Nd->Bool
 |.mk k _ l=>(if k=4\/k=5\/k=6\/k=7\/k=8 then !l.isEmpty else l.isEmpty)&&bL l
def bL:List Nd->Bool
 |[]=>true
 |t::r=>gW t&&bL r
end
mutual
def cW:∀(t:Nd) (a b:Nat) (g:Gr),gW t=true->dw t=true->(eS t a b g).ls.length=g.ls.length+aK t
 |.mk k c l,a,b,g,hk,hs=>by
  unfold gW at hk
  unfold dw at hs
  simp only[ix]at hk hs
  obtain⟨hk1,hk2⟩:=hk
  obtain⟨hs1,hs2⟩:=hs
  unfold eS aK
  by_cases h4:k=4
  ·rw[ap zo]at hk1
   rw[ap h4,pU l a b g hk2 hs2,am (by rintro⟨e,_⟩;rw[e]at hk1;simp at hk1)]
  rw[am h4]
  by_cases h5:k=5
  ·rw[ap zo]at hk1
   rw[ap h5,pX l a b g hk2 hs2,am (by rintro⟨e,_⟩;rw[e]at hk1;simp at hk1)]
  rw[am h5]
  by_cases h678:k=6\/k=7\/k=8
  ·rw[ap zo]at hk1
   rw[am h4,ap h678]at hs1
   have hO:∀(k:Int) (g:Gr) (i:Nat),(layO k g i).ls=g.ls:=λk g i=>by unfold layO;split<;>split<;>rfl
   rw[ap h678,hO,pV l _ _ _ hk2 hs2 (of_decide_eq_true hs1),am (by rintro⟨e,_⟩;rw[e]at hk1;simp at hk1)]
   rfl
  rw[am h678]
  rw[am zo]at hk1
  have hl:l=[]:=by simpa using hk1
  subst hl
  by_cases h9:k=9
  ·rw[ap h9,am (by rintro⟨_,e⟩;exact e h9)]
   rfl
  rw[am h9,ap ⟨rfl,h9⟩]
  simp[Gr.leaf]
def pU:∀(l:List Nd) (a b:Nat) (g:Gr),bL l=true->aU l=true->(kS l a b g).ls.length=g.ls.length+aA l
 |[],_,_,g,_,_=>by simp[kS,aA]
 |t::r,a,b,g,hk,hs=>by
  unfold bL at hk
  unfold aU at hs
  simp only[ix]at hk hs
  unfold kS aA
  split
  ·rename_i hr
   have hr:r=[]:=by simpa using hr
   subst hr
   rw[cW t a b g hk.1 hs.1];simp[aA]
  rw[pU r _ _ _ hk.2 hs.2,cW t _ _ _ hk.1 hs.1]
  show g.ls.length+_+_=_
  omega
def pX:∀(l:List Nd) (a b:Nat) (g:Gr),bL l=true->aU l=true->(kT l a b g).ls.length=g.ls.length+aA l
 |[],_,_,g,_,_=>by simp[kT,aA]
 |t::r,a,b,g,hk,hs=>by
  unfold bL at hk
  unfold aU at hs
  simp only[ix]at hk hs
  unfold kT aA
  rw[pX r _ _ _ hk.2 hs.2,cW t _ _ _ hk.1 hs.1]
  omega
def pV:∀(l:List Nd) (a b:Nat) (g:Gr),bL l=true->aU l=true->l.length=1->(js l a b g).ls.length=g.ls.length+aA l
 |[],_,_,g,_,_,h=>by simp at h
 |t::r,a,b,g,hk,hs,h=>by
  have hr:r=[]:=by simpa using h
  subst hr
  unfold bL at hk
  unfold aU at hs
  simp only[ix]at hk hs
  unfold js
  rw[cW t _ _ _ hk.1 hs.1];simp[aA]
end
def jB:∀(xs:List Nd) (i:Nat) (g:Gr),bL xs=true->aU xs=true->(bG xs i g).ls.length=g.ls.length+aA xs
 |[],_,g,_,_=>by simp[bG,aA]
 |x::r,i,g,hk,hs=>by
  unfold bL at hk;unfold aU at hs;simp only[ix]at hk hs;unfold bG aA;rw[jB r _ _ hk.2 hs.2,iu,cW x _ _ _ hk.1 hs.1];show g.ls.length+_+_=_;omega
def xX(g:Gr):Nat:=(g.ks.map λk=>k.2.1.length).sum
def sT(f:Kt->Nat):∀(l:List Kt) (a:Nat) (x:Kt),a<l.length->((l.set a x).map f).sum+f (nth l a)=(l.map f).sum+f x
 |[],a,_,h=>absurd h (LD a)
 |y::l,0,x,_=>by rw[ao];simp;omega
 |y::l,a+1,x,h=>by
  have:=sT f l a x (by simpa using h);rw[aW];simp only[P6,Lq,ND];omega
def GH(g:Gr):xX g.knot=xX g:=by simp[xX,Gr.knot]
def GK{g:Gr}(ha:a<g.ks.length):xX (g.free a b)=xX g:=by
 have:=sT (λk=>k.2.1.length) g.ks a (g.fr a++[b],g.lv a,g.en a) ha;unfold xX Gr.free;simp only[Gr.lv]at this ⊢;omega
def Gn{g:Gr}(ha:a<g.ks.length):xX (g.mark a b)=xX g:=by
 have:=sT (λk=>k.2.1.length) g.ks a (g.fr a,g.lv a,b) ha;unfold xX Gr.mark;simp only[Gr.lv]at this ⊢;omega
def Gu{g:Gr}(ha:a<g.ks.length):xX (g.leaf x c a b)=xX g+1:=by
 have:=sT (λk=>k.2.1.length) g.ks a (g.fr a,g.lv a++[g.ls.length+1],g.en a) ha;unfold xX Gr.leaf;simp only[Gr.lv,Li,MP,M5]at this ⊢;omega
def Tot(g:Gr):Prop:=xX g=g.ls.length
def Tot.knot{g:Gr}(h:Tot g):Tot g.knot:=(GH g).J h
def Tot.free{g:Gr}(h:Tot g){a b:Nat}(ha:a<g.ks.length):Tot (g.free a b):=(GK ha).J h
def Tot.mark{g:Gr}(h:Tot g){a b:Nat}(ha:a<g.ks.length):Tot (g.mark a b):=(Gn ha).J h
def Tot.leaf{g:Gr}(h:Tot g){x c:Int}{a b:Nat}(ha:a<g.ks.length):Tot (g.leaf x c a b):=by
 unfold Tot;rw[Gu ha,gA];simp;exact h
def Tot.layO{g:Gr}(h:Tot g){k:Int}{i:Nat}(hi:i+1<g.ks.length):Tot (layO k g i):=by
 unfold Go.Proofs.YtcfhbfflgnbacaaGreatDoor.layO;split<;>split
 ·exact h
 ·exact h.free zo
 ·exact h.free hi
 exact(h.free zo).free (by rw[aS];exact hi)
mutual
def mn:∀(t:Nd) (a b:Nat) (g:Gr),WF g->a<g.ks.length->b<g.ks.length->Tot g->Tot (eS t a b g)
 |.mk k c l,a,b,g,h,ha,hb,hM=>by
  unfold eS
  split
  ·exact Ar l a b g h ha hb hM
  split
  ·exact Aw l a b g h ha hb hM
  split
  ·have hl:=dr g a b
   have hwf:=ei h ha hb
   obtain⟨h1,h2⟩:=jq l g.ks.length (g.ks.length+1) (bj g a b) hwf zo zo
   have:=h2.len
   have hk2:g.knot.knot.ks.length=g.ks.length+2:=by rw[aE,aE]
   have h3:=GD l g.ks.length (g.ks.length+1) (bj g a b) hwf zo zo ((hM.knot.knot.free zo).free (by rw[aS];omega))
   exact h3.layO (by show _<(js l g.ks.length (g.ks.length+1) (bj g a b)).ks.length;omega)
  split
  ·exact hM.free ha
  exact hM.leaf ha
def Ar:∀(l:List Nd) (a b:Nat) (g:Gr),WF g->a<g.ks.length->b<g.ks.length->Tot g->Tot (kS l a b g)
 |[],_,_,g,_,_,_,hM=>hM
 |t::r,a,b,g,h,ha,hb,hM=>by
  unfold kS
  split
  ·exact mn t a b g h ha hb hM
  have hl:=aE g
  obtain⟨h1,h2⟩:=bV t a g.ks.length g.knot h.knot zo zo
  have:=h2.len
  exact Ar r _ _ _ h1 zo zo (mn t _ _ _ h.knot zo zo hM.knot)
def Aw:∀(l:List Nd) (a b:Nat) (g:Gr),WF g->a<g.ks.length->b<g.ks.length->Tot g->Tot (kT l a b g)
 |[],_,_,g,_,_,_,hM=>hM
 |t::r,a,b,g,h,ha,hb,hM=>by
  unfold kT
  obtain⟨h1,h2⟩:=bV t a b g h ha hb
  have:=h2.len
  exact Aw r _ _ _ h1 zo zo (mn t a b g h ha hb hM)
def GD:∀(l:List Nd) (a b:Nat) (g:Gr),WF g->a<g.ks.length->b<g.ks.length->Tot g->Tot (js l a b g)
 |[],_,_,g,_,_,_,hM=>hM
 |t::_,a,b,g,h,ha,hb,hM=>by
  unfold js
  exact mn t a b g h ha hb hM
end
def Gf{g:Gr}(h:WF g)(h0:0<g.ks.length)(x:Nd)(i:Nat)(ht:Tot g):Tot (iu x i g):=by
 have e1:=aE g;have e2:=cn g.knot g.ks.length (i+1);have e3:=aE (g.knot.mark g.ks.length (i+1));have hl:=dp g i;exact mn x _ _ _ (ec h h0 i).1 zo zo (((ht.knot.mark zo).knot).free zo)
def xn:∀(xs:List Nd) (i:Nat) (g:Gr),WF g->0<g.ks.length->Tot g->Tot (bG xs i g)
 |[],_,_,_,_,ht=>ht
 |x::r,i,g,h,h0,ht=>by
  obtain⟨h1,h2,h3⟩:=je h h0 x i;exact xn r (i+1) _ h1 zo (Gf h h0 x i ht)
def sU(f:Kt->Nat)(l:List Kt):(l.map f).sum=((MQ l.length).map λi=>f (nth l i)).sum:=by
 congr 1;apply List.ext_getElem
 ·simp
 intro i h1 h2;simp only[Pj,List.getElem_range];rw[aB (by simpa using h1)]
def Cx(f:Nat->Nat)(n:Nat):∀(l:List Nat),l.Nodup->(l.map f).sum<=((l.filter λx=>x != n).map f).sum+f n
 |[],_=>by simp
 |a::l,h=>by
  have h':=Pz.1 h
  by_cases e:a=n
  ·subst e;have hf:(l.filter λx=>x != a)=l:=N1.2 λx hx=>by
    simp only[bne_iff_ne,ne_eq];intro e;exact h'.1 (by rw[<-e];exact hx)
   rw[NJ (by simp),hf];simp;omega
  have:=Cx f n l h'.2;rw[List.filter_cons_of_pos (by simpa using e)];simp only[Lq,ND];omega
def uM(f:Nat->Nat):∀(n:Nat) (l:List Nat),l.Nodup->(∀x∈l,x<n)->(l.map f).sum<=((MQ n).map f).sum
 |0,l,_,h=>by
  have:l=[]:=by cases l with
   |nil=>rfl
   |cons a r=>exact absurd (h a (by simp)) (LD _)
  subst this;simp
 |n+1,l,hn,h=>by
  have h1:=Cx f n l hn;have h2:=uM f n (l.filter λx=>x != n) (hn.filter _) λx hx=>by
   have hx:=MD.1 hx;have:=h x hx.1;have:x≠n:=by simpa using hx.2
   omega
  rw[List.range_succ,M4,List.sum_append];simp only[Lq,MG,ND,List.sum_nil];omega
def ym{g:Gr}(hw:WF g)(hk:k<g.ks.length):(gi g k).Nodup/\∀x∈gi g k,x<g.ks.length:=by
 have a0:∀(n i:Nat) (l:List Nat),Rc g k i l->(ja g n i l).Nodup/\∀x∈ja g n i l,x<g.ks.length:=λn=>by
  induction n with
  |zero=>exact λi l h=>⟨h.nd,h.lt⟩
  |succ n ih=>
   intro i l h;unfold ja
   split
   ·rename_i hi;exact ih _ _ (h.step hw hi)
   exact⟨h.nd,h.lt⟩
 exact a0 _ _ _ (uk hk)
def vZ(f:Nat->List Nat):∀(l:List Nat),(l.flatMap f).length=(l.map λk=>(f k).length).sum
 |[]=>rfl
 |a::l=>by simp
def Ak{g:Gr}(hw:WF g)(ht:Tot g)(hp:g.pl p<g.ks.length):(cS g p).length<=g.ls.length:=by
 obtain⟨h1,h2⟩:=ym hw hp;unfold cS;rw[vZ];have:=uM (λk=>(g.lv k).length) g.ks.length _ h1 h2;have e:((MQ g.ks.length).map λk=>(g.lv k).length).sum=xX g:=(sU (λk=>k.2.1.length) g.ks).symm;rw[e,ht]at this;exact this
def Km(se:Bool)(g:Gr)(s:List Int)(m:Int):List Int:=
 (if se=true then [0]else [])++s.flatMap λp=>((cS g p.toNat).filter λj=>ck (nth g.ls (j-1)).1 (nth g.ls (j-1)).2.1 m).map fun(j:Nat)=>(j:Int)
def cD(se:Bool)(g:Gr)(s:List Int)(m:Int):List Int:=sC (Km se g s m)
def iV(se:Bool)(g:Gr):Stp g se (cD se g):=⟨λs m x=>by
 unfold cD Km;rw[xk,L3,Nk]
 constructor
 ·rintro(h|⟨p,hp,h⟩)
  ·cases se with
   |true=>rw[ap rfl]at h;exact .inl ⟨rfl,Lk.1 h⟩
   |false=>rw[am zd]at h;simp at h
  obtain⟨j,hj,rfl⟩:=M0.1 h;obtain⟨h1,h2⟩:=MD.1 hj;exact .inr ⟨p,hp,j,h1,rfl,h2⟩
 rintro(⟨h,rfl⟩|⟨p,hp,j,h1,rfl,h2⟩)
 ·rw[ap h];exact .inl (by simp)
 exact .inr ⟨p,hp,M0.2 ⟨j,MD.2 ⟨h1,h2⟩,rfl⟩⟩⟩
def F0{g:Gr}(hw:WF g)(h0:0<g.ks.length)(hs:inP g s)(m:Int):(cD se g s m).length<=g.ls.length+1:=
 Ga (tZ _) λx hx=>by have:=sV hw h0 (iV se g) hs m x hx;exact⟨this.1,zo⟩
def I3{g:Gr}(hw:WF g)(h0:0<g.ks.length)(ht:Tot g):∀ {s:List Int},inP g s->(Km se g s m).length<=1+s.length*g.ls.length:=fun {s} hs=>by
 have a0:∀(s:List Int),inP g s->(s.flatMap λp=>((cS g p.toNat).filter λj=>ck (nth g.ls (j-1)).1 (nth g.ls (j-1)).2.1 m).map fun(j:Nat)=>(j:Int)).length<=s.length*g.ls.length:=λs=>by
  induction s with
  |nil=>intro _;simp
  |cons p s ih=>
   intro h;have h1:=ih λx hx=>h x (by simp[hx])
   have h2:=Ak hw ht (oH hw h0 (h p (by simp)).2);have h3:=MU (λj=>ck (nth g.ls (j-1)).1 (nth g.ls (j-1)).2.1 m) (cS g p.toNat);simp only[Mt,Li,Mr,MP,NY,NX];omega
 have:=a0 s hs;unfold Km;rw[Li]
 split
 ·rw[List.length_singleton];omega
 rw[M5];omega
mutual
def uz:Nd->Bool
 |.mk k _ l=>if k=4 then AI l else if k=5 then DY l else if k=6\/k=7\/k=8 then !(k==7)||Cc l else k==9
def AI:List Nd->Bool
 |[]=>true
 |t::r=>uz t&&AI r
def DY:List Nd->Bool
 |[]=>false
 |t::r=>uz t||DY r
def Cc:List Nd->Bool
 |[]=>false
 |t::_=>uz t
end
mutual
def BH:Nd->Nat->Nat->Prop
 |.mk k _ l,n=>if k=4 then BG l n else if k=5 then rZ l n else if k=6\/k=7\/k=8 then AC l n else if k=9 then λ_=>False else λj=>j=n+1
def BG:List Nd->Nat->Nat->Prop
 |[],_=>λ_=>False
 |t::r,n=>λj=>BH t n j\/(uz t=true/\BG r (n+aK t) j)
def rZ:List Nd->Nat->Nat->Prop
 |[],_=>λ_=>False
 |t::r,n=>λj=>BH t n j\/rZ r (n+aK t) j
def AC:List Nd->Nat->Nat->Prop
 |[],_=>λ_=>False
 |t::_,n=>BH t n
end
mutual
def xL:Nd->Nat->Nat->Prop
 |.mk k _ l,n=>if k=4 then Di l n else if k=5 then Ca l n else if k=6\/k=7\/k=8 then FP l n else if k=9 then λ_=>False else λj=>j=n+1
def Di:List Nd->Nat->Nat->Prop
 |[],_=>λ_=>False
 |t::r,n=>λj=>(AI r=true/\xL t n j)\/Di r (n+aK t) j
def Ca:List Nd->Nat->Nat->Prop
 |[],_=>λ_=>False
 |t::r,n=>λj=>xL t n j\/Ca r (n+aK t) j
def FP:List Nd->Nat->Nat->Prop
 |[],_=>λ_=>False
 |t::_,n=>xL t n
end
mutual
def CU:Nd->Nat->Nat->Nat->Prop
 |.mk k _ l,n=>if k=4 then Gb l n else if k=5 then rD l n else if k=6\/k=7\/k=8 then λi j=>JT l n i j\/(k≠8/\FP l n i/\AC l n j)else λ_ _=>False
def Gb:List Nd->Nat->Nat->Nat->Prop
 |[],_=>λ_ _=>False
 |t::r,n=>λi j=>CU t n i j\/Gb r (n+aK t) i j\/(xL t n i/\BG r (n+aK t) j)
def rD:List Nd->Nat->Nat->Nat->Prop
 |[],_=>λ_ _=>False
 |t::r,n=>λi j=>CU t n i j\/rD r (n+aK t) i j
def JT:List Nd->Nat->Nat->Nat->Prop
 |[],_=>λ_ _=>False
 |t::_,n=>CU t n
end
inductive Ob where
 |lf (j:Nat)
 |en (e:Nat)
abbrev Vw:=Nat->Ob->Prop
structure Clo(g:Gr)(X:Vw):Prop where
 fr:∀k j,k<g.ks.length->j∈g.fr k->∀o,X j o->X k o
 lv:∀k j,k<g.ks.length->j∈g.lv k->X k (.lf j)
 en:∀k,k<g.ks.length->g.en k≠0->X k (.en (g.en k))
def FK(X:Vw)(m:Nat)(p:Ob->Prop):Vw:=λk=>if k=m then p else X k
def gu{X:Vw}{m:Nat}{p:Ob->Prop}(h:k≠m):FK X m p k=X k:=am h
def mU(X:Vw)(m:Nat)(p:Ob->Prop):FK X m p m=p:=ap rfl
def Clo.knot{g:Gr}{X:Vw}(h:Clo g X)(hw:WF g)(p:Ob->Prop):Clo g.knot (FK X g.ks.length p):=by
 have hl:=aE g;refine⟨λk j hk hj o ho=>?_,λk j hk hj=>?_,λk hk he=>?_⟩
 ·rw[nF]at hj
  split at hj
  ·rename_i e;have:=hw.fr k j e hj;rw[gu zo]at ho ⊢;exact h.fr k j e hj o ho
  cases hj
 ·rw[nD]at hj
  split at hj
  ·rename_i e;rw[gu zo];exact h.lv k j e hj
  cases hj
 rw[qd]at he ⊢
 split at he
 ·rename_i e;rw[ap e,gu zo];exact h.en k e he
 exact absurd rfl he
def Clo.free{g:Gr}{X:Vw}(h:Clo g X){a b:Nat}(ha:a<g.ks.length)(a0:∀o,X b o->X a o):Clo (g.free a b) X:=by
 have hl:=aS g a b;refine⟨λk j hk hj o ho=>?_,λk j hk hj=>?_,λk hk he=>?_⟩
 ·rw[hl]at hk;rw[cf ha]at hj
  split at hj
  ·rename_i e;subst e
   rcases L3.1 hj with hj|hj
   ·exact h.fr k j hk hj o ho
   rw[Lk.1 hj]at ho;exact a0 o ho
  exact h.fr k j hk hj o ho
 ·rw[hl]at hk;rw[nL ha]at hj;exact h.lv k j hk hj
 rw[hl]at hk;rw[tT ha]at he ⊢;exact h.en k hk he
def Clo.leaf{g:Gr}{X:Vw}(h:Clo g X){x c:Int}{a b:Nat}(ha:a<g.ks.length)(hx:X a (.lf (g.ls.length+1))):Clo (g.leaf x c a b) X:=by
 have hl:=fp g x c a b;refine⟨λk j hk hj o ho=>?_,λk j hk hj=>?_,λk hk he=>?_⟩
 ·rw[hl]at hk;rw[nC ha]at hj;exact h.fr k j hk hj o ho
 ·rw[hl]at hk;rw[jl ha]at hj
  split at hj
  ·rename_i e;subst e
   rcases L3.1 hj with hj|hj
   ·exact h.lv k j hk hj
   rw[Lk.1 hj];exact hx
  exact h.lv k j hk hj
 rw[hl]at hk;rw[yJ ha]at he ⊢;exact h.en k hk he
structure Lay(g g':Gr)(b:Nat)(X:Vw)(X':Vw)(P:Nat->Nat->Prop)(L:Nat->Prop):Prop where
 old:∀k,k<g.ks.length->X' k=X k
 clo:Clo g' X'
 see:∀i,g.ls.length<=i->i<g'.ls.length->∀o,X' (nth g'.ls i).2.2 o->(∃j,o=.lf j/\P (i+1) j)\/(L (i+1)/\X b o)
def GB{k:Int}{g:Gr}{X:Vw}(h:Clo g X)(hi:i+1<g.ks.length)(h1:k≠7->∀o,X (i+1) o->X i o)(h2:k≠8->∀o,X i o->X (i+1) o):Clo (layO k g i) X:=by
 unfold layO
 by_cases e8:k=8
 ·rw[ap e8,am zo];exact h.free zo (h1 zo)
 rw[am e8]
 split
 ·exact h.free hi (h2 e8)
 rename_i e7;exact(h.free zo (h1 e7)).free (by rw[aS];exact hi) (h2 e8)
def Dr(k:Int)(g:Gr)(i:Nat):(layO k g i).ls=g.ls:=by unfold layO;split<;>split<;>rfl
mutual
def mq:∀(t:Nd) (a b:Nat) (g:Gr) (X:Vw),WF g->a<g.ks.length->b<g.ks.length->gW t=true->dw t=true->Clo g X->(∀j,BH t g.ls.length j->X a (.lf j))->(uz t=true->∀o,X b o->X a o)->
  ∃X',Lay g (eS t a b g) b X X' (CU t g.ls.length) (xL t g.ls.length)
 |.mk k c l,a,b,g,X,h,ha,hb,hk,hs,hX,hf,he=>by
  unfold gW at hk
  unfold dw at hs
  simp only[ix]at hk hs
  obtain⟨hk1,hk2⟩:=hk
  obtain⟨hs1,hs2⟩:=hs
  unfold BH at hf
  unfold uz at he
  unfold eS CU xL
  by_cases h4:k=4
  ·rw[ap h4]at hf he ⊢
   rw[ap h4,ap h4]
   rw[ap (.inl h4)]at hk1
   exact As l a b g X h ha hb hk2 hs2 (by simpa using hk1) hX hf he
  rw[am h4]at hf he ⊢
  rw[am h4,am h4]
  by_cases h5:k=5
  ·rw[ap h5]at hf he ⊢
   rw[ap h5,ap h5]
   exact Ax l a b g X h ha hb hk2 hs2 hX hf he
  rw[am h5]at hf he ⊢
  rw[am h5,am h5]
  by_cases h678:k=6\/k=7\/k=8
  ·rw[ap h678]at hf he ⊢
   rw[ap h678,ap h678]
   rw[am h4,ap h678]at hs1
   have hl:=dr g a b
   have hwf:=ei h ha hb
   have hk2':g.knot.knot.ks.length=g.ks.length+2:=by rw[aE,aE]
   have e1:=aE g
   have hls:(bj g a b).ls=g.ls:=rfl
   obtain⟨X1,hX1⟩:∃X1,X1=FK (FK X g.ks.length λo=>(∃j,o=.lf j/\AC l g.ls.length j)\/((k≠7\/Cc l=true)/\X b o)) (g.ks.length+1) λo=>(k≠8/\∃j,o=.lf j/\AC l g.ls.length j)\/X b o:=⟨_,rfl⟩
   have hold:∀q,q<g.ks.length->X1 q=X q:=λq hq=>by rw[hX1,gu zo,gu zo]
   have hxi:X1 g.ks.length=λo=>(∃j,o=.lf j/\AC l g.ls.length j)\/((k≠7\/Cc l=true)/\X b o):=by rw[hX1,gu zo,mU]
   have hxo:X1 (g.ks.length+1)=λo=>(k≠8/\∃j,o=.lf j/\AC l g.ls.length j)\/X b o:=by rw[hX1,mU]
   have c1:Clo g.knot.knot X1:=by
    have:=(hX.knot h (λo=>(∃j,o=.lf j/\AC l g.ls.length j)\/((k≠7\/Cc l=true)/\X b o))).knot h.knot (λo=>(k≠8/\∃j,o=.lf j/\AC l g.ls.length j)\/X b o)
    rw[e1]at this
    rw[hX1];exact this
   have hemp:(k≠7\/Cc l=true)->∀o,X b o->X a o:=λhc=>he (by
    rcases hc with hc|hc
    ·rw[show(k==7)=false from beq_eq_false_iff_ne.2 hc];rfl
    rw[hc];simp)
   have c2:Clo (bj g a b) X1:=by
    refine(c1.free zo λo ho=>?_).free (by rw[aS];omega) λo ho=>?_
    ·rw[hxi]at ho
     rw[hold a ha]
     rcases ho with⟨j,rfl,hj⟩|⟨hc,ho⟩
     ·exact hf j hj
     exact hemp hc o ho
    rw[hold b hb]at ho
    rw[hxo];exact .inr ho
   obtain⟨h1,h2⟩:=jq l g.ks.length (g.ks.length+1) (bj g a b) hwf zo zo
   have hlen:=h2.len
   obtain⟨X2,g1⟩:=GE l g.ks.length (g.ks.length+1) (bj g a b) X1 hwf zo zo hk2 hs2 c2 (λj hj=>by rw[hxi];exact .inl ⟨j,rfl,hj⟩) (λhem o ho=>by
    rw[hxo]at ho
    rw[hxi]
    rcases ho with⟨_,hj⟩|ho
    ·exact .inl hj
    exact .inr ⟨.inr hem,ho⟩)
   have o2:X2 g.ks.length=X1 g.ks.length:=g1.old _ zo
   have o3:X2 (g.ks.length+1)=X1 (g.ks.length+1):=g1.old _ zo
   have see:=g1.see
   rw[hls]at see
   show∃X',Lay g (layO k (js l g.ks.length (g.ks.length+1) (bj g a b)) g.ks.length) b X X' _ _
   refine⟨X2,⟨λq hq=>(g1.old q zo).J (hold q hq),GB g1.clo zo (λh7 o ho=>?_) (λh8 o ho=>?_),λi hi hi2 o ho=>?_⟩⟩
   ·rw[o3,hxo]at ho
    rw[o2,hxi]
    rcases ho with⟨_,hj⟩|ho
    ·exact .inl hj
    exact .inr ⟨.inl h7,ho⟩
   ·rw[o2,hxi]at ho
    rw[o3,hxo]
    rcases ho with hj|⟨_,ho⟩
    ·exact .inl ⟨h8,hj⟩
    exact .inr ho
   have ho:X2 (nth (layO k (js l g.ks.length (g.ks.length+1) (bj g a b)) g.ks.length).ls i).2.2 o:=ho
   have hi2:i<(layO k (js l g.ks.length (g.ks.length+1) (bj g a b)) g.ks.length).ls.length:=hi2
   rw[Dr]at ho hi2
   rcases see i hi hi2 o ho with⟨j,rfl,hj⟩|⟨hL,ho⟩
   ·exact .inl ⟨j,rfl,.inl hj⟩
   rw[hxo]at ho
   rcases ho with⟨h8,j,rfl,hj⟩|ho
   ·exact .inl ⟨j,rfl,.inr ⟨h8,hL,hj⟩⟩
   exact .inr ⟨hL,ho⟩
  rw[am h678]at hf he ⊢
  rw[am h678,am h678]
  by_cases h9:k=9
  ·rw[ap h9]at hf ⊢
   rw[ap h9]
   exact⟨X,λ_ _=>rfl,hX.free ha (he (by rw[h9];rfl)),λi hi hi2=>absurd hi2 (Ny.2 hi)⟩
  rw[am h9]at hf ⊢
  rw[am h9]
  refine⟨X,λ_ _=>rfl,hX.leaf ha (hf _ rfl),λi hi hi2 o ho=>?_⟩
  rw[gA]at ho hi2
  have hi3:i=g.ls.length:=by simp at hi2;omega
  subst hi3
  rw[az,am zo,MR,ao]at ho
  exact .inr ⟨rfl,ho⟩
def As:∀(l:List Nd) (a b:Nat) (g:Gr) (X:Vw),WF g->a<g.ks.length->b<g.ks.length->bL l=true->aU l=true->l≠[]->Clo g X->(∀j,BG l g.ls.length j->X a (.lf j))->(AI l=true->∀o,X b o->X a o)->
  ∃X',Lay g (kS l a b g) b X X' (Gb l g.ls.length) (Di l g.ls.length)
 |[],_,_,_,_,_,_,_,_,_,hne,_,_,_=>absurd rfl hne
 |t::r,a,b,g,X,h,ha,hb,hk,hs,_,hX,hf,he=>by
  unfold bL at hk
  unfold aU at hs
  simp only[ix]at hk hs
  unfold BG at hf
  unfold AI at he
  unfold kS Gb Di
  split
  ·rename_i hr
   have hr:r=[]:=by simpa using hr
   subst hr
   obtain⟨X',g1⟩:=mq t a b g X h ha hb hk.1 hs.1 hX (λj hj=>hf j (.inl hj)) (λhem=>he (by rw[hem];rfl))
   exact⟨X',g1.old,g1.clo,λi hi hi2 o ho=>(g1.see i hi hi2 o ho).imp (fun⟨j,e,hj⟩=>⟨j,e,.inl hj⟩) fun⟨hL,ho⟩=>⟨.inl ⟨rfl,hL⟩,ho⟩⟩
  rename_i hr
  have hne:r≠[]:=by simpa using hr
  have hl:=aE g
  have hls:g.knot.ls=g.ls:=rfl
  obtain⟨p,hp⟩:∃p:Ob->Prop,p=λo=>(∃j,o=.lf j/\BG r (g.ls.length+aK t) j)\/(AI r=true/\X b o):=⟨_,rfl⟩
  have c1:=hX.knot h p
  have hold:∀q,q<g.ks.length->FK X g.ks.length p q=X q:=λq hq=>gu zo
  have hat:=mU X g.ks.length p
  generalize FK X g.ks.length p=X1 at *
  obtain⟨h1,h2⟩:=bV t a g.ks.length g.knot h.knot zo zo
  have hlen:=h2.len
  have hlv:=cW t a g.ks.length g.knot hk.1 hs.1
  rw[hls]at hlv
  obtain⟨X2,g1⟩:=mq t a g.ks.length g.knot X1 h.knot zo zo hk.1 hs.1 c1 (λj hj=>by rw[hold a ha];exact hf j (.inl hj)) (λhem o ho=>by
   rw[hat,hp]at ho
   rw[hold a ha]
   rcases ho with⟨j,rfl,hj⟩|⟨he2,ho⟩
   ·exact hf j (.inr ⟨hem,hj⟩)
   exact he (by rw[hem,he2];rfl) o ho)
  have s1:=g1.see
  rw[hls]at s1
  have o2:∀q,q<g.ks.length+1->X2 q=X1 q:=λq hq=>g1.old q zo
  have g1c:=g1.clo
  generalize eS t a g.ks.length g.knot=G at *
  obtain⟨h3,h4⟩:=pS r g.ks.length b G h1 zo zo
  obtain⟨X3,g2⟩:=As r g.ks.length b G X2 h1 zo zo hk.2 hs.2 hne g1c (λj hj=>by
   rw[o2 _ zo,hat,hp]
   rw[hlv]at hj
   exact .inl ⟨j,rfl,hj⟩) (λhem o ho=>by
   rw[o2 b zo,hold b hb]at ho
   rw[o2 _ zo,hat,hp]
   exact .inr ⟨hem,ho⟩)
  have s2:=g2.see
  rw[hlv]at s2
  refine⟨X3,λq hq=>?_,g2.clo,λi hi hi2 o ho=>?_⟩
  ·rw[g2.old q zo,o2 q zo,hold q hq]
  by_cases hit:i<g.ls.length+aK t
  ·have hit':i<G.ls.length:=zo
   obtain⟨_,e2⟩:=h4.nthL hit'
   rw[e2,g2.old _ (h1.ls i hit')]at ho
   rcases s1 i hi hit' o ho with⟨j,rfl,hj⟩|⟨hL,ho⟩
   ·exact .inl ⟨j,rfl,.inl hj⟩
   rw[hat,hp]at ho
   rcases ho with⟨j,rfl,hj⟩|⟨he2,ho⟩
   ·exact .inl ⟨j,rfl,.inr (.inr ⟨hL,hj⟩)⟩
   exact .inr ⟨.inl ⟨he2,hL⟩,ho⟩
  rcases s2 i zo hi2 o ho with⟨j,rfl,hj⟩|⟨hL,ho⟩
  ·exact .inl ⟨j,rfl,.inr (.inl hj)⟩
  rw[o2 b zo,hold b hb]at ho
  exact .inr ⟨.inr hL,ho⟩
def Ax:∀(l:List Nd) (a b:Nat) (g:Gr) (X:Vw),WF g->a<g.ks.length->b<g.ks.length->bL l=true->aU l=true->Clo g X->(∀j,rZ l g.ls.length j->X a (.lf j))->(DY l=true->∀o,X b o->X a o)->
  ∃X',Lay g (kT l a b g) b X X' (rD l g.ls.length) (Ca l g.ls.length)
 |[],_,_,g,X,_,_,_,_,_,hX,_,_=>⟨X,λ_ _=>rfl,hX,λi hi hi2=>absurd hi2 (Ny.2 hi)⟩
 |t::r,a,b,g,X,h,ha,hb,hk,hs,hX,hf,he=>by
  unfold bL at hk
  unfold aU at hs
  simp only[ix]at hk hs
  unfold rZ at hf
  unfold DY at he
  unfold kT rD Ca
  obtain⟨h1,h2⟩:=bV t a b g h ha hb
  have hlen:=h2.len
  have hlv:=cW t a b g hk.1 hs.1
  obtain⟨X1,g1⟩:=mq t a b g X h ha hb hk.1 hs.1 hX (λj hj=>hf j (.inl hj)) (λhem=>he (by rw[hem];rfl))
  have s1:=g1.see
  have o1:=g1.old
  have g1c:=g1.clo
  generalize eS t a b g=G at *
  obtain⟨h3,h4⟩:=pW r a b G h1 zo zo
  obtain⟨X2,g2⟩:=Ax r a b G X1 h1 zo zo hk.2 hs.2 g1c (λj hj=>by
   rw[o1 a ha]
   rw[hlv]at hj
   exact hf j (.inr hj)) (λhem o ho=>by
   rw[o1 b hb]at ho
   rw[o1 a ha]
   exact he (by rw[hem];simp) o ho)
  have s2:=g2.see
  rw[hlv]at s2
  refine⟨X2,λq hq=>?_,g2.clo,λi hi hi2 o ho=>?_⟩
  ·rw[g2.old q zo,o1 q hq]
  by_cases hit:i<g.ls.length+aK t
  ·have hit':i<G.ls.length:=zo
   obtain⟨_,e2⟩:=h4.nthL hit'
   rw[e2,g2.old _ (h1.ls i hit')]at ho
   exact(s1 i hi hit' o ho).imp (fun⟨j,e,hj⟩=>⟨j,e,.inl hj⟩) fun⟨hL,ho⟩=>⟨.inl hL,ho⟩
  refine(s2 i zo hi2 o ho).imp (fun⟨j,e,hj⟩=>⟨j,e,.inr hj⟩) fun⟨hL,ho⟩=>⟨.inr hL,?_⟩
  rwa[o1 b hb]at ho
def GE:∀(l:List Nd) (a b:Nat) (g:Gr) (X:Vw),WF g->a<g.ks.length->b<g.ks.length->bL l=true->aU l=true->Clo g X->(∀j,AC l g.ls.length j->X a (.lf j))->(Cc l=true->∀o,X b o->X a o)->
  ∃X',Lay g (js l a b g) b X X' (JT l g.ls.length) (FP l g.ls.length)
 |[],_,_,g,X,_,_,_,_,_,hX,_,_=>⟨X,λ_ _=>rfl,hX,λi hi hi2=>absurd hi2 (Ny.2 hi)⟩
 |t::_,a,b,g,X,h,ha,hb,hk,hs,hX,hf,he=>by
  unfold bL at hk
  unfold aU at hs
  simp only[ix]at hk hs
  unfold AC at hf
  unfold Cc at he
  unfold js JT FP
  exact mq t a b g X h ha hb hk.1 hs.1 hX hf he
end
structure Way(g:Gr)(n c a b:Nat)(e:Prop)(F L:Nat->Prop)(P:Nat->Nat->Prop):Prop where
 fst:∀j,F j->∃k,k<g.ks.length/\Pt g a [] k/\j∈g.lv k
 emp:e->Pt g a [] b
 lst:∀p,L p->n<p/\p<=n+c/\Pt g (nth g.ls (p-1)).2.2 [] b
 prs:∀p j,P p j->n<p/\p<=n+c/\∃k,k<g.ks.length/\Pt g (nth g.ls (p-1)).2.2 [] k/\j∈g.lv k
def Way.mono{g g':Gr}{n c a b:Nat}{e:Prop}{F L:Nat->Prop}{P:Nat->Nat->Prop}(h:Way g n c a b e F L P)(s:Sub g g')(hn:n+c<=g.ls.length):Way g' n c a b e F L P:=by
 have a0:=s.len;refine⟨λj hj=>?_,λhe=>(h.emp he).mono s,λp hp=>?_,λp j hp=>?_⟩
 ·obtain⟨k,h1,h2,h3⟩:=h.fst j hj;exact⟨k,zo,h2.mono s,s.lv k j h1 h3⟩
 ·obtain⟨h1,h2,h3⟩:=h.lst p hp;have:=(s.nthL (j:=p-1) zo).2;exact⟨h1,h2,by rw[this];exact h3.mono s⟩
 obtain⟨h1,h2,k,h3,h4,h5⟩:=h.prs p j hp;have:=(s.nthL (j:=p-1) zo).2;exact⟨h1,h2,k,zo,by rw[this];exact h4.mono s,s.lv k j h3 h5⟩
mutual
def mm:∀(t:Nd) (a b:Nat) (g:Gr),WF g->a<g.ks.length->b<g.ks.length->gW t=true->dw t=true->
  Way (eS t a b g) g.ls.length (aK t) a b (uz t=true) (BH t g.ls.length) (xL t g.ls.length) (CU t g.ls.length)
 |.mk k c l,a,b,g,h,ha,hb,hk,hs=>by
  unfold gW at hk
  unfold dw at hs
  simp only[ix]at hk hs
  obtain⟨hk1,hk2⟩:=hk
  obtain⟨hs1,hs2⟩:=hs
  unfold BH uz eS CU xL aK
  by_cases h4:k=4
  ·rw[ap (.inl h4)]at hk1
   have hne:l≠[]:=by simpa using hk1
   rw[am (show¬(l.isEmpty=true/\k≠9)from λh=>hne (by simpa using h.1))]
   rw[ap h4,ap h4,ap h4,ap h4,ap h4]
   exact Aq l a b g h ha hb hk2 hs2 hne
  by_cases h5:k=5
  ·rw[ap (.inr (.inl h5))]at hk1
   have hne:l≠[]:=by simpa using hk1
   rw[am (show¬(l.isEmpty=true/\k≠9)from λh=>hne (by simpa using h.1))]
   rw[am h4,am h4,am h4,am h4,am h4,ap h5,ap h5,ap h5,ap h5,ap h5]
   exact Av l a b g h ha hb hk2 hs2
  by_cases h678:k=6\/k=7\/k=8
  ·rw[ap zo]at hk1
   have hne:l≠[]:=by simpa using hk1
   rw[am (show¬(l.isEmpty=true/\k≠9)from λh=>hne (by simpa using h.1))]
   rw[am h4,am h4,am h4,am h4,am h4,am h5,am h5,am h5,am h5,am h5,ap h678,ap h678,ap h678,ap h678,ap h678]
   rw[am h4,ap h678]at hs1
   have hl:=dr g a b
   have hwf:=ei h ha hb
   obtain⟨h1,h2⟩:=jq l g.ks.length (g.ks.length+1) (bj g a b) hwf zo zo
   have hlen:=h2.len
   have hlv:=pV l g.ks.length (g.ks.length+1) (bj g a b) hk2 hs2 (of_decide_eq_true hs1)
   have hW:=GC l g.ks.length (g.ks.length+1) (bj g a b) hwf zo zo hk2 hs2 (of_decide_eq_true hs1)
   have hk2':g.knot.knot.ks.length=g.ks.length+2:=by rw[aE,aE]
   have hls:(bj g a b).ls=g.ls:=rfl
   rw[hls]at hlv hW
   show Way (layO k (js l g.ks.length (g.ks.length+1) (bj g a b)) g.ks.length) _ _ _ _ _ _ _ _
   have ein:Pt (bj g a b) a [] g.ks.length:=.eps zo (by
    unfold bj
    rw[cf (by rw[aS];omega)]
    rw[am zo,cf zo,ap rfl];simp) (.nil _)
   have eout:Pt (bj g a b) (g.ks.length+1) [] b:=.eps zo (by
    unfold bj
    rw[cf (by rw[aS];omega),ap rfl];simp) (.nil _)
   generalize bj g a b=g1 at *
   generalize js l g.ks.length (g.ks.length+1) g1=g2 at *
   generalize g.ks.length=i at *
   have hsub:Sub g2 (layO k g2 i):=tI zo
   have e1:=(ein.mono h2).mono hsub
   have e2:=(eout.mono h2).mono hsub
   have hV:=hW.mono hsub zo
   have eskip:k≠7->Pt (layO k g2 i) i [] (i+1):=λhk=>.eps (by rw[oS];omega) (by
    unfold layO
    rw[am hk]
    split
    ·rw[cf zo,ap rfl];simp
    rw[cf (by rw[aS];omega),am zo,cf zo,ap rfl];simp) (.nil _)
   have eback:k≠8->Pt (layO k g2 i) (i+1) [] i:=λhk=>.eps (by rw[oS];omega) (by
    unfold layO
    rw[am hk,cf (by split;omega;rw[aS];omega),ap rfl];simp) (.nil _)
   refine⟨λj hj=>?_,λhe=>?_,λp hp=>?_,λp j hp=>?_⟩
   ·obtain⟨q,q1,q2,q3⟩:=hV.fst j hj
    exact⟨q,q1,e1.J q2,q3⟩
   ·by_cases h7:k=7
    ·have:Cc l=true:=by simpa[h7]using he
     exact(e1.J (hV.emp this)).J e2
    exact(e1.J (eskip h7)).J e2
   ·obtain⟨q1,q2,q3⟩:=hV.lst p hp
    exact⟨q1,q2,q3.J e2⟩
   rcases hp with hp|⟨h8,hp,hj⟩
   ·exact hV.prs p j hp
   obtain⟨q1,q2,q3⟩:=hV.lst p hp
   obtain⟨q,r1,r2,r3⟩:=hV.fst j hj
   exact⟨q1,q2,q,r1,(q3.J (eback h8)).J r2,r3⟩
  rw[am zo]at hk1
  have hl:l=[]:=by simpa using hk1
  subst hl
  rw[am h4,am h4,am h4,am h4,am h4,am h5,am h5,am h5,am h5,am h5,am h678,am h678,am h678,am h678,am h678]
  by_cases h9:k=9
  ·rw[ap h9,ap h9]
   refine⟨λj hj=>hj.elim,λ_=>?_,λp hp=>hp.elim,λp j hp=>hp.elim⟩
   exact .eps (by rw[aS];exact ha) (by rw[cf ha,ap rfl];simp) (.nil _)
  rw[am h9,am h9,ap (show([]:List Nd).isEmpty=true/\k≠9 from⟨rfl,h9⟩)]
  refine⟨λj hj=>?_,λhe=>absurd (by simpa using he) h9,λp hp=>?_,λp j hp=>hp.elim⟩
  ·subst hj
   exact⟨a,by rw[fp];exact ha,.nil _,by rw[jl ha,ap rfl];simp⟩
  subst hp
  refine⟨zo,zo,?_⟩
  rw[gA,Nat.add_sub_cancel,az,am zo,MR,ao]
  exact .nil _
def Aq:∀(l:List Nd) (a b:Nat) (g:Gr),WF g->a<g.ks.length->b<g.ks.length->bL l=true->aU l=true->l≠[]->
  Way (kS l a b g) g.ls.length (aA l) a b (AI l=true) (BG l g.ls.length) (Di l g.ls.length) (Gb l g.ls.length)
 |[],_,_,_,_,_,_,_,_,hne=>absurd rfl hne
 |t::r,a,b,g,h,ha,hb,hk,hs,_=>by
  unfold bL at hk
  unfold aU at hs
  simp only[ix]at hk hs
  unfold BG AI kS Gb Di aA
  split
  ·rename_i hr
   have hr:r=[]:=by simpa using hr
   subst hr
   have hW:=mm t a b g h ha hb hk.1 hs.1
   refine⟨λj hj=>?_,λhe=>?_,λp hp=>?_,λp j hp=>?_⟩
   ·rcases hj with hj|⟨_,hj⟩
    ·exact hW.fst j hj
    exact hj.elim
   ·exact hW.emp (by simpa[AI]using he)
   ·rcases hp with⟨_,hp⟩|hp
    ·exact hW.lst p hp
    exact hp.elim
   rcases hp with hp|hp|⟨_,hp⟩
   ·exact hW.prs p j hp
   ·exact hp.elim
   exact hp.elim
  rename_i hr
  have hne:r≠[]:=by simpa using hr
  have hl:=aE g
  have hls:g.knot.ls=g.ls:=rfl
  have hW:=mm t a g.ks.length g.knot h.knot zo zo hk.1 hs.1
  obtain⟨h1,h2⟩:=bV t a g.ks.length g.knot h.knot zo zo
  have hlen:=h2.len
  have hlv:=cW t a g.ks.length g.knot hk.1 hs.1
  rw[hls]at hlv hW
  generalize eS t a g.ks.length g.knot=G at *
  obtain⟨h3,h4⟩:=pS r g.ks.length b G h1 zo zo
  have hV:=Aq r g.ks.length b G h1 zo zo hk.2 hs.2 hne
  rw[hlv]at hV
  have hU:=hW.mono h4 zo
  refine⟨λj hj=>?_,λhe=>?_,λp hp=>?_,λp j hp=>?_⟩
  ·rcases hj with hj|⟨he,hj⟩
   ·exact hU.fst j hj
   obtain⟨q,q1,q2,q3⟩:=hV.fst j hj
   exact⟨q,q1,(hU.emp he).J q2,q3⟩
  ·rw[ix]at he
   exact(hU.emp he.1).J (hV.emp he.2)
  ·rcases hp with⟨he,hp⟩|hp
   ·obtain⟨q1,q2,q3⟩:=hU.lst p hp
    exact⟨q1,zo,q3.J (hV.emp he)⟩
   obtain⟨q1,q2,q3⟩:=hV.lst p hp
   exact⟨zo,zo,q3⟩
  rcases hp with hp|hp|⟨hp,hj⟩
  ·obtain⟨q1,q2,q3⟩:=hU.prs p j hp
   exact⟨q1,zo,q3⟩
  ·obtain⟨q1,q2,q3⟩:=hV.prs p j hp
   exact⟨zo,zo,q3⟩
  obtain⟨q1,q2,q3⟩:=hU.lst p hp
  obtain⟨q,r1,r2,r3⟩:=hV.fst j hj
  exact⟨q1,zo,q,r1,q3.J r2,r3⟩
def Av:∀(l:List Nd) (a b:Nat) (g:Gr),WF g->a<g.ks.length->b<g.ks.length->bL l=true->aU l=true->
  Way (kT l a b g) g.ls.length (aA l) a b (DY l=true) (rZ l g.ls.length) (Ca l g.ls.length) (rD l g.ls.length)
 |[],_,_,g,_,_,_,_,_=>⟨λj hj=>hj.elim,λhe=>absurd he zd,λp hp=>hp.elim,λp j hp=>hp.elim⟩
 |t::r,a,b,g,h,ha,hb,hk,hs=>by
  unfold bL at hk
  unfold aU at hs
  simp only[ix]at hk hs
  unfold rZ DY kT rD Ca aA
  have hW:=mm t a b g h ha hb hk.1 hs.1
  obtain⟨h1,h2⟩:=bV t a b g h ha hb
  have hlen:=h2.len
  have hlv:=cW t a b g hk.1 hs.1
  generalize eS t a b g=G at *
  obtain⟨h3,h4⟩:=pW r a b G h1 zo zo
  have hV:=Av r a b G h1 zo zo hk.2 hs.2
  rw[hlv]at hV
  have hU:=hW.mono h4 zo
  refine⟨λj hj=>?_,λhe=>?_,λp hp=>?_,λp j hp=>?_⟩
  ·rcases hj with hj|hj
   ·exact hU.fst j hj
   exact hV.fst j hj
  ·rw[MT]at he
   rcases he with he|he
   ·exact hU.emp he
   exact hV.emp he
  ·rcases hp with hp|hp
   ·obtain⟨q1,q2,q3⟩:=hU.lst p hp
    exact⟨q1,zo,q3⟩
   obtain⟨q1,q2,q3⟩:=hV.lst p hp
   exact⟨zo,zo,q3⟩
  rcases hp with hp|hp
  ·obtain⟨q1,q2,q3⟩:=hU.prs p j hp
   exact⟨q1,zo,q3⟩
  obtain⟨q1,q2,q3⟩:=hV.prs p j hp
  exact⟨zo,zo,q3⟩
def GC:∀(l:List Nd) (a b:Nat) (g:Gr),WF g->a<g.ks.length->b<g.ks.length->bL l=true->aU l=true->l.length=1->
  Way (js l a b g) g.ls.length (aA l) a b (Cc l=true) (AC l g.ls.length) (FP l g.ls.length) (JT l g.ls.length)
 |[],_,_,_,_,_,_,_,_,hl=>by simp at hl
 |t::r,a,b,g,h,ha,hb,hk,hs,hl=>by
  have hr:r=[]:=by simpa using hl
  subst hr
  unfold bL at hk
  unfold aU at hs
  simp only[ix]at hk hs
  unfold AC Cc js JT FP
  have:=mm t a b g h ha hb hk.1 hs.1
  simpa[aA]using this
end
def FO:List Nd->Nat->Nat->Nat->Nat->Prop
 |[],_,_=>λ_ _=>False
 |x::r,n,i=>λp e=>(xL x n p/\e=i+1)\/FO r (n+aK x) (i+1) p e
def DX:List Nd->Nat->Nat->Prop
 |[],_=>λ_=>False
 |x::r,i=>λe=>(uz x=true/\e=i+1)\/DX r (i+1) e
def Clo.pt{g:Gr}{X:Vw}(h:Clo g X){w:List Int}(p:Pt g a w b)(hw:w=[]):∀o,X b o->X a o:=by
 induction p with
 |nil=>exact λo ho=>ho
 |eps h1 h2 _ ih=>exact λo ho=>h.fr _ _ h1 h2 o (ih hw o ho)
 |leaf=>cases hw
def C0{g:Gr}(x:Nd)(i:Nat)(hk:gW x=true)(hs:dw x=true):(iu x i g).ls.length=g.ls.length+aK x:=by
 unfold iu;rw[cW x _ _ _ hk hs];rfl
def Clo.mark{g:Gr}{X:Vw}(h:Clo g X){a e:Nat}(ha:a<g.ks.length)(hx:X a (.en e)):Clo (g.mark a e) X:=by
 have hl:=cn g a e;refine⟨λk j hk hj o ho=>?_,λk j hk hj=>?_,λk hk he=>?_⟩
 ·rw[hl]at hk;rw[nt ha]at hj;exact h.fr k j hk hj o ho
 ·rw[hl]at hk;rw[ns ha]at hj;exact h.lv k j hk hj
 rw[hl]at hk;rw[yF ha]at he ⊢
 split at he
 ·rename_i e';rw[ap e',e'];exact hx
 rename_i e';rw[am e'];exact h.en k hk he
def xo:∀(xs:List Nd) (i:Nat) (g:Gr) (X:Vw),WF g->0<g.ks.length->bL xs=true->aU xs=true->Clo g X->(∀j,rZ xs g.ls.length j->X 0 (.lf j))->(∀e,DX xs i e->X 0 (.en e))->
  ∃X',(∀k,k<g.ks.length->X' k=X k)/\Clo (bG xs i g) X'/\∀q,g.ls.length<=q->q<(bG xs i g).ls.length->∀o,X' (nth (bG xs i g).ls q).2.2 o->(∃j,o=.lf j/\rD xs g.ls.length (q+1) j)\/∃e,o=.en e/\FO xs g.ls.length i (q+1) e
 |[],_,g,X,_,_,_,_,hX,_,_=>⟨X,λ_ _=>rfl,hX,λq hq a3=>absurd a3 (Ny.2 hq)⟩
 |x::r,i,g,X,h,h0,hk,hs,hX,hf,he=>by
  unfold bL at hk;unfold aU at hs;simp only[ix]at hk hs;unfold rZ at hf;unfold DX at he;unfold rD FO;obtain⟨w1,w2,w3⟩:=je h h0 x i;obtain⟨s1,s2⟩:=ec h h0 i;have sl:=dp g i;have e1:=aE g;have e2:=cn g.knot g.ks.length (i+1);have e3:=aE (g.knot.mark g.ks.length (i+1));obtain⟨X1,a2⟩:∃X1,X1=FK (FK X g.ks.length λo=>o=.en (i+1)) (g.ks.length+1) λo=>(∃j,o=.lf j/\BH x g.ls.length j)\/(uz x=true/\o=.en (i+1)):=⟨_,rfl⟩
  have a0:∀q,q<g.ks.length->X1 q=X q:=λq hq=>by rw[a2,gu zo,gu zo]
  have ho:X1 g.ks.length=λo=>o=.en (i+1):=by rw[a2,gu zo,mU]
  have hi:X1 (g.ks.length+1)=λo=>(∃j,o=.lf j/\BH x g.ls.length j)\/(uz x=true/\o=.en (i+1)):=by rw[a2,mU]
  have c1:Clo (cG g i) X1:=by
   have k1:=hX.knot h (λo=>o=.en (i+1));have k2:Clo (g.knot.mark g.ks.length (i+1)) (FK X g.ks.length λo=>o=.en (i+1)):=k1.mark zo (by rw[mU]);have k3:=k2.knot (h.knot.mark zo) (λo=>(∃j,o=.lf j/\BH x g.ls.length j)\/(uz x=true/\o=.en (i+1)));rw[e2,e1]at k3;rw[<-a2]at k3;refine k3.free zo λo hq=>?_
   rw[hi]at hq;rw[a0 0 h0]
   rcases hq with⟨j,rfl,hj⟩|⟨hm,rfl⟩
   ·exact hf j (.inl hj)
   exact he _ (.inl ⟨hm,rfl⟩)
  have a7:(cG g i).ls=g.ls:=rfl
  obtain⟨X2,g1⟩:=mq x (g.ks.length+1) g.ks.length (cG g i) X1 s1 zo zo hk.1 hs.1 c1 (λj hj=>by rw[hi];exact .inl ⟨j,rfl,hj⟩) (λhm o hq=>by
   rw[ho]at hq;rw[hi]
   exact .inr ⟨hm,hq⟩)
  have o1:∀q,q<g.ks.length+2->X2 q=X1 q:=λq hq=>g1.old q zo
  have see:=g1.see;rw[a7]at see;have gc:Clo (iu x i g) X2:=g1.clo;have a6:=C0 (g:=g) x i hk.1 hs.1;have see:∀q,g.ls.length<=q->q<(iu x i g).ls.length->∀o,X2 (nth (iu x i g).ls q).2.2 o->(∃j,o=.lf j/\CU x g.ls.length (q+1) j)\/(xL x g.ls.length (q+1)/\X1 g.ks.length o):=see;show∃X',_/\Clo (bG r (i+1) (iu x i g)) X'/\∀q,_->q<(bG r (i+1) (iu x i g)).ls.length->∀o,X' (nth (bG r (i+1) (iu x i g)).ls q).2.2 o->_;generalize iu x i g=G at *;obtain⟨b1,b2,_⟩:=mI r (i+1) G w1 zo
  obtain⟨X3,p1,p2,p3⟩:=xo r (i+1) G X2 w1 zo hk.2 hs.2 gc (λj hj=>by
   rw[o1 0 zo,a0 0 h0];rw[a6]at hj;exact hf j (.inr hj)) (λe hm=>by
   rw[o1 0 zo,a0 0 h0]
   exact he e (.inr hm))
  rw[a6]at p3;refine⟨X3,λq hq=>by rw[p1 q zo,o1 q zo,a0 q hq],p2,λq hq a3 o a4=>?_⟩
  by_cases a8:q<g.ls.length+aK x
  ·have a1:q<G.ls.length:=zo;obtain⟨_,e4⟩:=b2.nthL a1;rw[e4,p1 _ (w1.ls q a1)]at a4
   rcases see q hq a1 o a4 with⟨j,rfl,hj⟩|⟨hL,a5⟩
   ·exact .inl ⟨j,rfl,.inl hj⟩
   rw[ho]at a5;exact .inr ⟨_,a5,.inl ⟨hL,rfl⟩⟩
  rcases p3 q zo a3 o a4 with⟨j,rfl,hj⟩|⟨e,rfl,hL⟩
  ·exact .inl ⟨j,rfl,.inr hj⟩
  exact .inr ⟨e,rfl,.inr hL⟩
structure WayT(g:Gr)(n c:Nat)(F:Nat->Prop)(E:Nat->Prop)(L P:Nat->Nat->Prop):Prop where
 fst:∀j,F j->∃k,k<g.ks.length/\Pt g 0 [] k/\j∈g.lv k
 emp:∀e,E e->∃k,k<g.ks.length/\Pt g 0 [] k/\g.en k=e
 lst:∀p e,L p e->n<p/\p<=n+c/\∃k,k<g.ks.length/\Pt g (nth g.ls (p-1)).2.2 [] k/\g.en k=e
 prs:∀p j,P p j->n<p/\p<=n+c/\∃k,k<g.ks.length/\Pt g (nth g.ls (p-1)).2.2 [] k/\j∈g.lv k
def qo:∀(xs:List Nd) (i:Nat) (g:Gr),WF g->0<g.ks.length->bL xs=true->aU xs=true->
  WayT (bG xs i g) g.ls.length (aA xs) (rZ xs g.ls.length) (DX xs i) (FO xs g.ls.length i) (rD xs g.ls.length)
 |[],_,g,_,_,_,_=>⟨λj hj=>hj.elim,λe he=>he.elim,λp e hp=>hp.elim,λp j hp=>hp.elim⟩
 |x::r,i,g,h,h0,hk,hs=>by
  unfold bL at hk;unfold aU at hs;simp only[ix]at hk hs;unfold rZ DX rD FO aA;obtain⟨w1,w2,w3⟩:=je h h0 x i;obtain⟨s1,s2⟩:=ec h h0 i;have sl:=dp g i;have hW:=mm x (g.ks.length+1) g.ks.length (cG g i) s1 zo zo hk.1 hs.1;have a2:(cG g i).ls=g.ls:=rfl;rw[a2]at hW;have a1:=C0 (g:=g) x i hk.1 hs.1
  have p1:Pt (cG g i) 0 [] (g.ks.length+1):=.eps zo (by
   have e1:=aE g;have e2:=cn g.knot g.ks.length (i+1);have e3:=aE (g.knot.mark g.ks.length (i+1));unfold cG
   rw[cf zo,ap rfl];simp) (.nil _)
  have p2:Pt (iu x i g) 0 [] (g.ks.length+1):=p1.mono (bV x (g.ks.length+1) g.ks.length (cG g i) s1 zo zo).2;have a3:(iu x i g).en g.ks.length=i+1:=by rw[pI h h0,ap rfl]
  have hW:Way (iu x i g) g.ls.length (aK x) (g.ks.length+1) g.ks.length (uz x=true) (BH x g.ls.length) (xL x g.ls.length) (CU x g.ls.length):=hW;show WayT (bG r (i+1) (iu x i g)) _ _ _ _ _ _;generalize iu x i g=G at *;obtain⟨b1,b2,b3⟩:=mI r (i+1) G w1 zo;have a4:=b2.len;have hV:=qo r (i+1) G w1 zo hk.2 hs.2;rw[a1]at hV;have hU:=hW.mono b2 zo;have q2:=p2.mono b2;have a0:(bG r (i+1) G).en g.ks.length=i+1:=by rw[b3 _ zo,a3]
  refine⟨λj hj=>?_,λe he=>?_,λp e hp=>?_,λp j hp=>?_⟩
  ·rcases hj with hj|hj
   ·obtain⟨k,k1,k2,k3⟩:=hU.fst j hj;exact⟨k,k1,q2.J k2,k3⟩
   exact hV.fst j hj
  ·rcases he with⟨he,rfl⟩|he
   ·exact⟨g.ks.length,zo,q2.J (hU.emp he),a0⟩
   exact hV.emp e he
  ·rcases hp with⟨hp,rfl⟩|hp
   ·obtain⟨k1,k2,k3⟩:=hU.lst p hp;exact⟨k1,zo,g.ks.length,zo,k3,a0⟩
   obtain⟨k1,k2,k3⟩:=hV.lst p e hp;exact⟨zo,zo,k3⟩
  rcases hp with hp|hp
  ·obtain⟨k1,k2,k3⟩:=hU.prs p j hp;exact⟨k1,zo,k3⟩
  obtain⟨k1,k2,k3⟩:=hV.prs p j hp;exact⟨zo,zo,k3⟩
structure Glu(xs:List Nd)(g:Gr):Prop where
 ls:g.ls.length=aA xs
 n0:∀j,j∈cS g 0↔rZ xs 0 j
 nx:∀p j,0<p->p<=aA xs->(j∈cS g p↔rD xs 0 p j)
 t0:∀e,(iU g 0).testBit e=true↔DX xs 0 (e+1)
 tl:∀p e,0<p->p<=aA xs->((iU g p).testBit e=true↔FO xs 0 0 p (e+1))
def C5{xs:List Nd}(hk:bL xs=true)(hs:aU xs=true):Glu xs (dy xs):=by
 obtain⟨hw,h0⟩:=pL xs;have a5:(dy xs).ls.length=aA xs:=by
  unfold dy;rw[jB xs 0 g00 hk hs];simp[g00]
 have a6:g00.ls.length=0:=rfl;have hW:=qo xs 0 g00 mz zd hk hs;obtain⟨X,x1,x2,x3⟩:=xo xs 0 g00 (λ_ o=>(∃j,o=.lf j/\rZ xs 0 j)\/∃e,o=.en e/\DX xs 0 e) mz zd hk hs
  ⟨λk j hk hj=>by
   have:k=0:=by simpa[g00]using hk
   subst this;simp[Gr.fr,g00,ao]at hj,λk j hk hj=>by
   have:k=0:=by simpa[g00]using hk
   subst this;simp[Gr.lv,g00,ao]at hj,λk hk he=>by
   have:k=0:=by simpa[g00]using hk
   subst this
   simp[Gr.en,g00,ao]at he⟩ (λj hj=>.inl ⟨j,rfl,hj⟩) (λe he=>.inr ⟨e,rfl,he⟩)
 rw[a6]at hW x3
 change WayT (dy xs) _ _ _ _ _ _ at hW
 change Clo (dy xs) X at x2
 change ∀q,0<=q->q<(dy xs).ls.length->∀o,X (nth (dy xs).ls q).2.2 o->_ at x3
 have a4:=x1 0 zd;have a0:∀ {a k:Nat},a<(dy xs).ks.length->Pt (dy xs) a [] k->k<(dy xs).ks.length:=λha p=>Pt.lt hw p ha
 have a1:∀p,0<p->(dy xs).pl p=(nth (dy xs).ls (p-1)).2.2:=λp hp=>by unfold Gr.pl;rw[am zo]
 have a3:∀p,p<=aA xs->(dy xs).pl p<(dy xs).ks.length:=λp hp=>oH hw h0 zo
 refine⟨a5,λj=>?_,λp j hp a2=>?_,λe=>?_,λp e hp a2=>?_⟩
 ·rw[iz hw h0 (Ln _)]
  constructor
  ·rintro⟨k,k1,k2⟩;have:=x2.pt k1 rfl _ (x2.lv k j (a0 h0 k1) k2);rw[show(dy xs).pl 0=0 from rfl,a4]at this
   rcases this with⟨j',e,hj⟩|⟨e,h,_⟩
   ·cases e;exact hj
   cases h
  intro hj;obtain⟨k,_,k2,k3⟩:=hW.fst j hj;exact⟨k,k2,k3⟩
 ·rw[iz hw h0 zo]
  constructor
  ·rintro⟨k,k1,k2⟩;have:=x2.pt k1 rfl _ (x2.lv k j (a0 (a3 p a2) k1) k2);rw[a1 p hp]at this
   rcases x3 (p-1) (Ln _) zo _ this with⟨j',e,hj⟩|⟨e,h,_⟩
   ·cases e;rwa[show p-1+1=p from by omega]at hj
   cases h
  intro hj;obtain⟨_,_,k,_,k2,k3⟩:=hW.prs p j hj;exact⟨k,by rw[a1 p hp];exact k2,k3⟩
 ·rw[oM hw h0 (Ln _)]
  constructor
  ·rintro⟨k,k1,k2⟩;have:=x2.pt k1 rfl _ (x2.en k (a0 h0 k1) zo);rw[show(dy xs).pl 0=0 from rfl,a4,k2]at this
   rcases this with⟨j',e,hj⟩|⟨e,h,hj⟩
   ·cases e
   cases h;exact hj
  intro hj;obtain⟨k,_,k2,k3⟩:=hW.emp _ hj;exact⟨k,k2,k3⟩
 rw[oM hw h0 zo]
 constructor
 ·rintro⟨k,k1,k2⟩;have:=x2.pt k1 rfl _ (x2.en k (a0 (a3 p a2) k1) zo);rw[a1 p hp,k2]at this
  rcases x3 (p-1) (Ln _) zo _ this with⟨j',e,hj⟩|⟨e,h,hj⟩
  ·cases e
  cases h;rwa[show p-1+1=p from by omega]at hj
 intro hj;obtain⟨_,_,k,_,k2,k3⟩:=hW.lst p _ hj;exact⟨k,by rw[a1 p hp];exact k2,k3⟩
structure LkR where
 e:Bool
 f:List Nat
 l:List Nat
 p:List (Nat×Nat)
def fc(a b:List Nat):List (Nat×Nat):=a.flatMap λi=>b.map λj=>(i,j)
def vh{a b:List Nat}:(i,j)∈fc a b↔i∈a/\j∈b:=by
 unfold fc;simp only[Nk,M0,Pf]
 constructor
 ·rintro⟨x,hx,y,hy,rfl,rfl⟩;exact⟨hx,hy⟩
 rintro⟨h1,h2⟩;exact⟨i,h1,j,h2,rfl,rfl⟩
def jF(k:Int)(o p:LkR):LkR:=
 if k≠4 then⟨o.e||p.e,o.f++p.f,o.l++p.l,o.p++p.p⟩
 else⟨o.e&&p.e,if o.e=true then o.f++p.f else o.f,if p.e=true then o.l++p.l else p.l,(o.p++p.p)++fc o.l p.f⟩
def BL(k:Int)(o:LkR):LkR:=⟨(o.e||k==6)||k==8,o.f,o.l,if k=6\/k=7 then o.p++fc o.l o.f else o.p⟩
def yV{k:Int}(o:LkR)(h:¬(k=6\/k=7)):(BL k o).p=o.p:=by unfold BL;dsimp only;rw[am h]
mutual
def bO:Nd->Nat->LkR
 |.mk k _ l,n=>if k=9 then⟨true,[],[],[]⟩else if l.isEmpty=true then⟨false,[n+1],[n+1],[]⟩else BL k (bS k l n ⟨k==4,[],[],[]⟩)
def bS:Int->List Nd->Nat->LkR->LkR
 |_,[],_,o=>o
 |k,t::r,n,o=>bS k r (n+aK t) (jF k o (bO t n))
end
structure LkS(R:LkR)(e:Bool)(F L:Nat->Prop)(P:Nat->Nat->Prop):Prop where
 e:R.e=e
 f:∀j,j∈R.f↔F j
 l:∀j,j∈R.l↔L j
 p:∀i j,(i,j)∈R.p↔P i j
mutual
def nw:∀(t:Nd) (n:Nat),gW t=true->dw t=true->LkS (bO t n) (uz t) (BH t n) (xL t n) (CU t n)
 |.mk k c l,n,hk,hs=>by
  unfold gW at hk
  unfold dw at hs
  simp only[ix]at hk hs
  obtain⟨hk1,hk2⟩:=hk
  obtain⟨hs1,hs2⟩:=hs
  unfold bO BH uz CU xL
  by_cases h9:k=9
  ·subst h9
   rw[ap rfl]
   simp only[show¬((9:Int)=4) by decide,show¬((9:Int)=5) by decide,show¬((9:Int)=6\/(9:Int)=7\/(9:Int)=8) by decide,if_false,if_true]
   exact⟨rfl,λj=>by simp,λj=>by simp,λi j=>by simp⟩
  rw[am h9]
  by_cases h4:k=4
  ·rw[ap (.inl h4)]at hk1
   have hne:¬(l.isEmpty=true):=by simpa using hk1
   rw[am hne,ap h4,ap h4,ap h4,ap h4]
   subst h4
   have h:=rL l n ⟨true,[],[],[]⟩ hk2 hs2
   refine⟨?_,λj=>?_,λj=>?_,λi j=>?_⟩
   ·show((_||_)||_)=_
    rw[show((4:Int)==4)=true from rfl,h.e];simp
   ·show j∈(bS 4 l n _).f↔_
    rw[show((4:Int)==4)=true from rfl,h.f];simp
   ·show j∈(bS 4 l n _).l↔_
    rw[show((4:Int)==4)=true from rfl,h.l];simp
   rw[yV _ zd,show((4:Int)==4)=true from rfl,h.p];simp
  by_cases h5:k=5
  ·rw[ap (.inr (.inl h5))]at hk1
   have hne:¬(l.isEmpty=true):=by simpa using hk1
   rw[am hne,am h4,am h4,am h4,am h4,ap h5,ap h5,ap h5,ap h5]
   subst h5
   have h:=ny 5 zd l n ⟨false,[],[],[]⟩ hk2 hs2
   refine⟨?_,λj=>?_,λj=>?_,λi j=>?_⟩
   ·show((_||_)||_)=_
    rw[show((5:Int)==4)=false from rfl,h.e];simp
   ·show j∈(bS 5 l n _).f↔_
    rw[show((5:Int)==4)=false from rfl,h.f];simp
   ·show j∈(bS 5 l n _).l↔_
    rw[show((5:Int)==4)=false from rfl,h.l];simp
   rw[yV _ zd,show((5:Int)==4)=false from rfl,h.p];simp
  by_cases h678:k=6\/k=7\/k=8
  ·rw[ap zo]at hk1
   have hne:¬(l.isEmpty=true):=by simpa using hk1
   rw[am hne,am h4,am h4,am h4,am h4,am h5,am h5,am h5,am h5,ap h678,ap h678,ap h678,ap h678]
   rw[am h4,ap h678]at hs1
   have hl1:l.length=1:=of_decide_eq_true hs1
   have h:=ny k h4 l n ⟨false,[],[],[]⟩ hk2 hs2
   rw[show(k==4)=false from beq_eq_false_iff_ne.2 h4]
   cases l with
   |nil=>simp at hl1
   |cons t r=>
    have hr:r=[]:=by simpa using hl1
    subst hr
    have he:=h.e
    have hf:=h.f
    have hl:=h.l
    have hp:=h.p
    unfold DY at he
    simp only[rZ,Ca,rD,or_false,List.not_mem_nil,false_or]at hf hl hp
    refine⟨?_,λj=>?_,λj=>?_,λi j=>?_⟩
    ·show(((bS k [t] n ⟨false,[],[],[]⟩).e||k==6)||k==8)=(!(k==7)||Cc [t])
     rw[he]
     unfold Cc DY
     rcases h678 with rfl|rfl|rfl<;>simp
    ·show j∈(bS k [t] n _).f↔_
     rw[hf];unfold AC;rfl
    ·show j∈(bS k [t] n _).l↔_
     rw[hl];unfold FP;rfl
    show(i,j)∈(if k=6\/k=7 then(bS k [t] n ⟨false,[],[],[]⟩).p++fc (bS k [t] n ⟨false,[],[],[]⟩).l (bS k [t] n ⟨false,[],[],[]⟩).f else(bS k [t] n ⟨false,[],[],[]⟩).p)↔_
    unfold JT FP AC
    by_cases h67:k=6\/k=7
    ·rw[ap h67,L3,hp,vh,hl,hf]
     exact or_congr Qp ⟨λh=>⟨zo,h⟩,λh=>h.2⟩
    rw[am h67,hp]
    exact⟨.inl,λh=>h.elim id λh=>absurd h.1 zo⟩
  rw[am zo]at hk1
  have hl:l=[]:=by simpa using hk1
  subst hl
  rw[ap (show([]:List Nd).isEmpty=true from rfl),am h4,am h4,am h4,am h4,am h5,am h5,am h5,am h5,am h678,am h678,am h678,am h678,am h9]
  exact⟨(beq_eq_false_iff_ne.2 h9).symm,λj=>by simp,λj=>by simp,λi j=>by simp⟩
def rL:∀(l:List Nd) (n:Nat) (o:LkR),bL l=true->aU l=true->
  LkS (bS 4 l n o) (o.e&&AI l) (λj=>j∈o.f\/(o.e=true/\BG l n j)) (λj=>(AI l=true/\j∈o.l)\/Di l n j) (λi j=>(i,j)∈o.p\/Gb l n i j\/(i∈o.l/\BG l n j))
 |[],n,o,_,_=>⟨by simp[bS,AI],λj=>by simp[bS,BG],λj=>by simp[bS,AI,Di],λi j=>by simp[bS,Gb,BG]⟩
 |t::r,n,o,hk,hs=>by
  unfold bL at hk
  unfold aU at hs
  simp only[ix]at hk hs
  have ht:=nw t n hk.1 hs.1
  have h:=rL r (n+aK t) (jF 4 o (bO t n)) hk.2 hs.2
  have ea:jF 4 o (bO t n)=⟨o.e&&(bO t n).e,if o.e=true then o.f++(bO t n).f else o.f,if(bO t n).e=true then o.l++(bO t n).l else(bO t n).l,(o.p++(bO t n).p)++fc o.l (bO t n).f⟩:=by
   unfold jF;rw[am zd]
  unfold bS BG AI Di Gb
  rw[ea]at h
  have te:=ht.e
  have tf:=ht.f
  have tl:=ht.l
  have tp:=ht.p
  rw[ea]
  generalize bO t n=R at *
  refine⟨?_,λj=>?_,λj=>?_,λi j=>?_⟩
  ·rw[h.e,te,Bool.and_assoc]
  ·rw[h.f]
   dsimp only
   cases ho:o.e with
   |true=>simp[tf,te,or_assoc]
   |false=>simp
  ·rw[h.l]
   dsimp only
   rw[te,ix]
   cases he:uz t with
   |true=>simp[tl,and_or_left,or_assoc]
   |false=>simp[tl]
  rw[h.p]
  dsimp only
  rw[L3,L3,vh,tp,te,tf]
  cases he:uz t with
  |true=>
   simp only[if_true,L3,tl,true_and]
   constructor
   ·rintro(((h|h)|h)|h|⟨h|h,h'⟩)
    ·exact .inl h
    ·exact .inr (.inl (.inl h))
    ·exact .inr (.inr ⟨h.1,.inl h.2⟩)
    ·exact .inr (.inl (.inr (.inl h)))
    ·exact .inr (.inr ⟨h,.inr h'⟩)
    exact .inr (.inl (.inr (.inr ⟨h,h'⟩)))
   rintro(h|(h|h|⟨h,h'⟩)|⟨h,h'|h'⟩)
   ·exact .inl (.inl (.inl h))
   ·exact .inl (.inl (.inr h))
   ·exact .inr (.inl h)
   ·exact .inr (.inr ⟨.inr h,h'⟩)
   ·exact .inl (.inr ⟨h,h'⟩)
   exact .inr (.inr ⟨.inl h,h'⟩)
  |false=>
   simp only[N6,if_false,tl,false_and,or_false]
   constructor
   ·rintro(((h|h)|h)|h|⟨h,h'⟩)
    ·exact .inl h
    ·exact .inr (.inl (.inl h))
    ·exact .inr (.inr h)
    ·exact .inr (.inl (.inr (.inl h)))
    exact .inr (.inl (.inr (.inr ⟨h,h'⟩)))
   rintro(h|(h|h|⟨h,h'⟩)|h)
   ·exact .inl (.inl (.inl h))
   ·exact .inl (.inl (.inr h))
   ·exact .inr (.inl h)
   ·exact .inr (.inr ⟨h,h'⟩)
   exact .inl (.inr h)
def ny(k:Int)(h4:k≠4):∀(l:List Nd) (n:Nat) (o:LkR),bL l=true->aU l=true->
  LkS (bS k l n o) (o.e||DY l) (λj=>j∈o.f\/rZ l n j) (λj=>j∈o.l\/Ca l n j) (λi j=>(i,j)∈o.p\/rD l n i j)
 |[],n,o,_,_=>⟨by simp[bS,DY],λj=>by simp[bS,rZ],λj=>by simp[bS,Ca],λi j=>by simp[bS,rD]⟩
 |t::r,n,o,hk,hs=>by
  unfold bL at hk
  unfold aU at hs
  simp only[ix]at hk hs
  have ht:=nw t n hk.1 hs.1
  have h:=ny k h4 r (n+aK t) (jF k o (bO t n)) hk.2 hs.2
  have ea:jF k o (bO t n)=⟨o.e||(bO t n).e,o.f++(bO t n).f,o.l++(bO t n).l,o.p++(bO t n).p⟩:=by
   unfold jF;rw[ap h4]
  unfold bS rZ DY Ca rD
  rw[ea]at h
  rw[ea]
  refine⟨?_,λj=>?_,λj=>?_,λi j=>?_⟩
  ·rw[h.e,ht.e,N4]
  ·rw[h.f,L3,ht.f,or_assoc]
  ·rw[h.l,L3,ht.l,or_assoc]
  rw[h.p,L3,ht.p,or_assoc]
end
mutual
/-- An expression's leaves: kind and class. -/
def tD:Nd->List (Int×Int)
 |.mk k c l=>if l.isEmpty=true/\k≠9 then [(k,c)]else ew l
def ew:List Nd->List (Int×Int)
 |[]=>[]
 |t::r=>tD t++ew r
end
def lfK(x:Lf):Int×Int:=(x.1,x.2.1)
mutual
def mr:∀(t:Nd) (a b:Nat) (g:Gr),gW t=true->dw t=true->(eS t a b g).ls.map lfK=g.ls.map lfK++tD t
 |.mk k c l,a,b,g,hk,hs=>by
  unfold gW at hk
  unfold dw at hs
  simp only[ix]at hk hs
  obtain⟨hk1,hk2⟩:=hk
  obtain⟨hs1,hs2⟩:=hs
  unfold eS tD
  by_cases h4:k=4
  ·rw[ap zo]at hk1
   rw[ap h4,Au l a b g hk2 hs2,am (by rintro⟨e,_⟩;rw[e]at hk1;simp at hk1)]
  rw[am h4]
  by_cases h5:k=5
  ·rw[ap zo]at hk1
   rw[ap h5,Ay l a b g hk2 hs2,am (by rintro⟨e,_⟩;rw[e]at hk1;simp at hk1)]
  rw[am h5]
  by_cases h678:k=6\/k=7\/k=8
  ·rw[ap zo]at hk1
   rw[am h4,ap h678]at hs1
   rw[ap h678,Dr,GG l _ _ _ hk2 hs2 (of_decide_eq_true hs1),am (by rintro⟨e,_⟩;rw[e]at hk1;simp at hk1)]
   rfl
  rw[am h678]
  rw[am zo]at hk1
  have hl:l=[]:=by simpa using hk1
  subst hl
  by_cases h9:k=9
  ·rw[ap h9,am (by rintro⟨_,e⟩;exact e h9)]
   show g.ls.map lfK=_
   simp[ew]
  rw[am h9,ap ⟨rfl,h9⟩,gA,M4]
  rfl
def Au:∀(l:List Nd) (a b:Nat) (g:Gr),bL l=true->aU l=true->(kS l a b g).ls.map lfK=g.ls.map lfK++ew l
 |[],_,_,g,_,_=>by simp[kS,ew]
 |t::r,a,b,g,hk,hs=>by
  unfold bL at hk
  unfold aU at hs
  simp only[ix]at hk hs
  unfold kS ew
  split
  ·rename_i hr
   have hr:r=[]:=by simpa using hr
   subst hr
   rw[mr t a b g hk.1 hs.1];simp[ew]
  rw[Au r _ _ _ hk.2 hs.2,mr t _ _ _ hk.1 hs.1,Lm]
  rfl
def Ay:∀(l:List Nd) (a b:Nat) (g:Gr),bL l=true->aU l=true->(kT l a b g).ls.map lfK=g.ls.map lfK++ew l
 |[],_,_,g,_,_=>by simp[kT,ew]
 |t::r,a,b,g,hk,hs=>by
  unfold bL at hk
  unfold aU at hs
  simp only[ix]at hk hs
  unfold kT ew
  rw[Ay r _ _ _ hk.2 hs.2,mr t _ _ _ hk.1 hs.1,Lm]
def GG:∀(l:List Nd) (a b:Nat) (g:Gr),bL l=true->aU l=true->l.length=1->(js l a b g).ls.map lfK=g.ls.map lfK++ew l
 |[],_,_,g,_,_,h=>by simp at h
 |t::r,a,b,g,hk,hs,h=>by
  have hr:r=[]:=by simpa using h
  subst hr
  unfold bL at hk
  unfold aU at hs
  simp only[ix]at hk hs
  unfold js
  rw[mr t _ _ _ hk.1 hs.1];simp[ew]
end
def xp:∀(xs:List Nd) (i:Nat) (g:Gr),bL xs=true->aU xs=true->(bG xs i g).ls.map lfK=g.ls.map lfK++ew xs
 |[],_,g,_,_=>by simp[bG,ew]
 |x::r,i,g,hk,hs=>by
  unfold bL at hk;unfold aU at hs;simp only[ix]at hk hs;unfold bG ew;rw[xp r _ _ hk.2 hs.2,iu,mr x _ _ _ hk.1 hs.1,Lm];rfl
def Jh{xs:List Nd}(hk:bL xs=true)(hs:aU xs=true):(dy xs).ls.map lfK=ew xs:=by
 unfold dy;rw[xp xs 0 g00 hk hs];simp[g00]
mutual
def tC:∀t:Nd,(tD t).length=aK t
 |.mk k c l=>by
  unfold tD aK
  split
  ·rfl
  exact lY l
def lY:∀l:List Nd,(ew l).length=aA l
 |[]=>rfl
 |t::r=>by unfold ew aA;rw[Li,tC t,lY r]
end
structure AllR where
 lv:List (Int×Int)
 of:List Nat
 f:List Nat
 l:List Nat
 p:List (Nat×Nat)
 e:Nat
def gG(o:AllR)(x:Nd)(i:Nat):AllR:=
 ⟨o.lv++tD x,o.of++Ly (aK x) i,o.f++(bO x o.lv.length).f,o.l++(bO x o.lv.length).l,o.p++(bO x o.lv.length).p,if(bO x o.lv.length).e=true then o.e ||| 2^i else o.e⟩
def fh:List Nd->Nat->AllR->AllR
 |[],_,o=>o
 |x::r,i,o=>fh r (i+1) (gG o x i)
mutual
def fz:∀(t:Nd) (n p:Nat),gW t=true->xL t n p->n<p/\p<=n+aK t
 |.mk k c l,n,p,hk,h=>by
  unfold gW at hk
  simp only[ix]at hk
  obtain⟨hk1,hk2⟩:=hk
  unfold xL at h
  unfold aK
  by_cases hl:l.isEmpty=true/\k≠9
  ·rw[ap hl]
   have hl0:l=[]:=by simpa using hl.1
   subst hl0
   split at h
   ·exact h.elim
   split at h
   ·exact h.elim
   split at h
   ·exact h.elim
   rw[am hl.2]at h;subst h;omega
  rw[am hl]
  split at h
  ·exact rJ l n p hk2 h
  split at h
  ·exact rK l n p hk2 h
  split at h
  ·exact Bv l n p hk2 h
  split at h
  ·exact h.elim
  rename_i h4 h5 h678 h9
  rw[am zo]at hk1
  exact absurd ⟨hk1,h9⟩ hl
def rJ:∀(l:List Nd) (n p:Nat),bL l=true->Di l n p->n<p/\p<=n+aA l
 |[],_,_,_,h=>h.elim
 |t::r,n,p,hk,h=>by
  unfold bL at hk
  simp only[ix]at hk
  unfold Di at h
  unfold aA
  rcases h with⟨_,h⟩|h
  ·have:=fz t n p hk.1 h;omega
  have:=rJ r _ p hk.2 h;omega
def rK:∀(l:List Nd) (n p:Nat),bL l=true->Ca l n p->n<p/\p<=n+aA l
 |[],_,_,_,h=>h.elim
 |t::r,n,p,hk,h=>by
  unfold bL at hk
  simp only[ix]at hk
  unfold Ca at h
  unfold aA
  rcases h with h|h
  ·have:=fz t n p hk.1 h;omega
  have:=rK r _ p hk.2 h;omega
def Bv:∀(l:List Nd) (n p:Nat),bL l=true->FP l n p->n<p/\p<=n+aA l
 |[],_,_,_,h=>h.elim
 |t::r,n,p,hk,h=>by
  unfold bL at hk
  simp only[ix]at hk
  unfold FP at h
  unfold aA
  have:=fz t n p hk.1 h;omega
end
structure AllT(R o:AllR)(xs:List Nd)(i:Nat):Prop where
 lv:R.lv=o.lv++ew xs
 len:R.of.length=R.lv.length
 f:∀j,j∈R.f↔j∈o.f\/rZ xs o.lv.length j
 p:∀a j,(a,j)∈R.p↔(a,j)∈o.p\/rD xs o.lv.length a j
 e:∀b,R.e.testBit b=true↔o.e.testBit b=true\/DX xs i (b+1)
 l:∀j b,(j∈R.l/\nth R.of (j-1)=b)↔(j∈o.l/\nth o.of (j-1)=b)\/FO xs o.lv.length i j (b+1)
 lr:∀j,j∈R.l->0<j/\j<=R.lv.length
def my:∀(xs:List Nd) (i:Nat) (o:AllR),bL xs=true->aU xs=true->o.of.length=o.lv.length->(∀j,j∈o.l->0<j/\j<=o.lv.length)->AllT (fh xs i o) o xs i
 |[],i,o,_,_,ho,hl=>⟨by simp[fh,ew],ho,λj=>by simp[fh,rZ],λa j=>by simp[fh,rD],λb=>by simp[fh,DX],λj b=>by simp[fh,FO],hl⟩
 |x::r,i,o,hk,hs,ho,hl=>by
  unfold bL at hk;unfold aU at hs;simp only[ix]at hk hs;have hx:=nw x o.lv.length hk.1 hs.1;have a0:(gG o x i).lv.length=o.lv.length+aK x:=by show(o.lv++tD x).length=_;rw[Li,tC]
  have a3:∀j,j∈(gG o x i).l->0<j/\j<=(gG o x i).lv.length:=λj hj=>by
   rw[a0]
   rcases L3.1 hj with hj|hj
   ·have:=hl j hj;omega
   have:=fz x _ j hk.1 ((hx.l j).1 hj);omega
  have a1:(gG o x i).of.length=(gG o x i).lv.length:=by rw[a0];show(o.of++Ly (aK x) i).length=_;rw[Li,List.length_replicate,ho]
  have h:=my r (i+1) (gG o x i) hk.2 hs.2 a1 a3;rw[show fh (x::r) i o=fh r (i+1) (gG o x i)from rfl];have a2:=h.lv;have hf:=h.f;have hp:=h.p;have he:=h.e;have hL:=h.l;rw[a0]at hf hp hL;refine⟨?_,h.len,λj=>?_,λa j=>?_,λb=>?_,λj b=>?_,h.lr⟩
  ·unfold ew;rw[a2];show(o.lv++tD x)++_=_;rw[Lm]
  ·unfold rZ;rw[hf];show(j∈o.f++_)\/_↔_;rw[L3,hx.f,or_assoc]
  ·unfold rD;rw[hp];show((a,j)∈o.p++_)\/_↔_;rw[L3,hx.p,or_assoc]
  ·unfold DX;rw[he];have:(gG o x i).e.testBit b=true↔o.e.testBit b=true\/(uz x=true/\b+1=i+1):=by
    show Nat.testBit (if(bO x o.lv.length).e=true then o.e ||| 2^i else o.e) b=true↔_;rw[hx.e]
    split
    ·rename_i hm;rw[MZ,N2,MT,decide_eq_true_eq];exact or_congr Qp ⟨λe=>⟨hm,zo⟩,λe=>zo⟩
    rename_i hm;exact⟨.inl,λh=>h.elim id λh=>absurd h.1 hm⟩
   rw[this,or_assoc]
  unfold FO;rw[hL];have:(j∈(gG o x i).l/\nth (gG o x i).of (j-1)=b)↔(j∈o.l/\nth o.of (j-1)=b)\/(xL x o.lv.length j/\b+1=i+1):=by
   show(j∈o.l++(bO x o.lv.length).l/\nth (o.of++Ly (aK x) i) (j-1)=b)↔_;rw[L3,hx.l,az]
   constructor
   ·rintro⟨hj|hj,e⟩
    ·have:=hl j hj;rw[ap zo]at e;exact .inl ⟨hj,e⟩
    have:=fz x _ j hk.1 hj;rw[am zo,aB (by simp;omega),NL]at e;exact .inr ⟨hj,zo⟩
   rintro(⟨hj,e⟩|⟨hj,e⟩)
   ·have:=hl j hj;rw[ap zo];exact⟨.inl hj,e⟩
   have:=fz x _ j hk.1 hj;rw[am zo,aB (by simp;omega),NL];exact⟨.inr hj,zo⟩
  rw[this,or_assoc]
def gH:AllR:=⟨[],[],[],[],[],0⟩
def B9(R:AllR)(s:List Int)(k:Nat):Bool:=(s.contains 0&&R.f.contains k)||R.p.any λe=>e.2==k&&s.contains (e.1:Int)
def dD(R:AllR)(se:Bool)(s:List Int)(m:Int):List Int:=
 (if se=true then [0]else [])++((MQ R.lv.length).filter λq=>B9 R s (q+1)&&ck (nth R.lv q).1 (nth R.lv q).2 m).map fun(q:Nat)=>(q:Int)+1
def lC(R:AllR)(s:List Int):Nat:=s.foldl (λb p=>if R.l.contains p.toNat=true then b ||| 2^nth R.of (p.toNat-1)else b) (if s.contains 0=true then R.e else 0)
def F4(R:AllR)(se:Bool)(s:List Int)(m:Int):(dD R se s m).Pairwise (· < ·):=by
 unfold dD;refine NS.2 ⟨by split<;>simp,Pc.2 ((List.pairwise_lt_range.filter _).imp λh=>zo),λa ha b hb=>?_⟩;obtain⟨q,_,rfl⟩:=M0.1 hb
 split at ha
 ·rw[Lk.1 ha];omega
 cases ha
def F5{xs:List Nd}(hk:bL xs=true)(hs:aU xs=true)(se:Bool)(a8:inP (dy xs) s)(m:Int):dD (fh xs 0 gH) se s m=cD se (dy xs) s m:=by
 have hg:=C5 hk hs;have hA:=my xs 0 gH hk hs rfl (λj hj=>by cases hj);have a6:(fh xs 0 gH).lv=ew xs:=hA.lv;have a4:(ew xs).length=aA xs:=lY xs;have a9:=Jh hk hs;have a2:∀q,q<aA xs->(nth (ew xs) q)=lfK (nth (dy xs).ls q):=λq hq=>by rw[<-a9,cz (by rw[hg.ls];exact hq)]
 have hf:∀j,j∈(fh xs 0 gH).f↔rZ xs 0 j:=λj=>(hA.f j).J (by simp[gH])
 have hp:∀a j,(a,j)∈(fh xs 0 gH).p↔rD xs 0 a j:=λa j=>(hA.p a j).J (by simp[gH])
 have a0:∀a j,rD xs 0 a j->0<a/\a<=aA xs:=λa j h=>by
  have hW:=qo xs 0 g00 mz zd hk hs;obtain⟨h1,h2,_⟩:=hW.prs a j h;exact⟨h1,by simpa[g00]using h2⟩
 have a3:∀k,B9 (fh xs 0 gH) s k=true↔∃p∈s,k∈cS (dy xs) p.toNat:=λk=>by
  unfold B9;rw[MT,ix,Lp,Lp,Mz,hf]
  constructor
  ·rintro(⟨h0,h⟩|⟨⟨a,j⟩,he,h⟩)
   ·exact⟨0,h0,(hg.n0 k).2 h⟩
   simp only[ix,beq_iff_eq,Lp]at h;obtain⟨rfl,ha⟩:=h;have a5:=(hp a j).1 he;have:=a0 a j a5;exact⟨(a:Int),ha,(hg.nx a j this.1 this.2).2 a5⟩
  rintro⟨p,a1,h⟩;have a7:=a8 p a1;rw[hg.ls]at a7
  by_cases h0:p=0
  ·subst h0;exact .inl ⟨a1,(hg.n0 k).1 h⟩
  have a5:=(hg.nx p.toNat k zo a7.2).1 h;refine .inr ⟨(p.toNat,k),(hp _ _).2 a5,?_⟩;simp only[ix,beq_iff_eq,Lp];exact⟨trivial,by rwa[Int.toNat_of_nonneg a7.1]⟩
 refine CP (F4 _ _ _ _) (tZ _) λx=>?_
 rw[(iV se (dy xs)).mem s m x];unfold dD;rw[L3,M0];refine or_congr (by cases se<;>simp) ⟨?_,?_⟩
 ·rintro⟨q,hq,rfl⟩;obtain⟨h1,h2⟩:=MD.1 hq;have h1:=Nw.1 h1;rw[a6,a4]at h1;rw[ix,a6]at h2;obtain⟨p,a1,hn⟩:=(a3 (q+1)).1 h2.1;refine⟨p,a1,q+1,hn,zo,?_⟩;rw[a2 q h1]at h2;exact h2.2
 rintro⟨p,a1,j,hj,rfl,ht⟩;obtain⟨hw,h0⟩:=pL xs;have b0:1<=j/\j<=(dy xs).ls.length:=by
  obtain⟨k,a',b1⟩:=(iz hw h0 (a8 p a1).2 j).1 hj;exact hw.lv k j (Pt.lt hw a' (oH hw h0 (a8 p a1).2)) b1
 rw[hg.ls]at b0;refine⟨j-1,MD.2 ⟨Nw.2 (by rw[a6,a4];omega),?_⟩,zo⟩;rw[ix,a6,a2 (j-1) zo,show j-1+1=j from by omega];exact⟨(a3 j).2 ⟨p,a1,hj⟩,ht⟩
def FW{xs:List Nd}(hk:bL xs=true)(hs:aU xs=true){s:List Int}(a1:inP (dy xs) s):lC (fh xs 0 gH) s=df (dy xs) s:=by
 have hg:=C5 hk hs;have hA:=my xs 0 gH hk hs rfl (fun j hj=>by cases hj);have hl:∀j b,(j∈(fh xs 0 gH).l/\nth (fh xs 0 gH).of (j-1)=b)↔FO xs 0 0 j (b+1):=fun j b=>(hA.l j b).J (by simp[gH])
 have he:∀b,(fh xs 0 gH).e.testBit b=true↔DX xs 0 (b+1):=fun b=>(hA.e b).J (by simp[gH])
 have a3:=hA.lr;generalize fh xs 0 gH=R at *;have a2:∀(l:List Int) (b i:Nat),(l.foldl (fun b p=>if R.l.contains p.toNat=true then b ||| 2^nth R.of (p.toNat-1)else b) b).testBit i=(b.testBit i||l.any fun p=>decide (p.toNat∈R.l/\nth R.of (p.toNat-1)=i)):=fun l=>by
  induction l with
  |nil=>intro b i;simp
  |cons p l ih=>
   intro b i;rw[Np,ih,NH]
   by_cases hp:p.toNat∈R.l
   ·rw[ap (Lp.2 hp),MZ,N2,N4];congr 2;exact decide_eq_decide.2 ⟨fun e=>⟨hp,e⟩,fun e=>e.2⟩
   rw[am (fun e=>hp (Lp.1 e)),decide_eq_false (fun e=>hp e.1),N5]
 refine Nat.eq_of_testBit_eq fun i=>?_
 unfold lC;rw[a2,uK,Bool.eq_iff_iff,MT,Mz,Mz]
 constructor
 ·rintro(h|⟨p,hp,h⟩)
  ·split at h
   ·rename_i h0;exact⟨0,Lp.1 h0,(hg.t0 i).2 ((he i).1 h)⟩
   simp at h
  have h:=of_decide_eq_true h;have:=a3 _ h.1;have a0:=a1 p hp;rw[hg.ls]at a0;exact⟨p,hp,(hg.tl p.toNat i this.1 a0.2).2 ((hl _ _).1 h)⟩
 rintro⟨p,hp,h⟩;have a0:=a1 p hp;rw[hg.ls]at a0
 by_cases h0:p=0
 ·subst h0;refine .inl ?_;rw[ap (Lp.2 hp)];exact(he i).2 ((hg.t0 i).1 h)
 exact .inr ⟨p,hp,decide_eq_true ((hl _ _).2 ((hg.tl p.toNat i zo a0.2).1 h))⟩
def CW(a b:List Nat):(fc a b).length=a.length*b.length:=by
 unfold fc
 induction a with
 |nil=>simp
 |cons x a ih=>rw[Mt,Li,ih,Mr,MP,Nat.succ_mul];omega
def tm{a b:List Nat}(ha:a.length<=60)(hb:b.length<=60):(fc a b).length<=3600:=by
 rw[CW];exact PH ha hb
mutual
def mh:∀(t:Nd) (n:Nat),(bO t n).f.length<=aK t/\(bO t n).l.length<=aK t/\(aK t<=60->(bO t n).p.length+3600<=7200*nsz t)
 |.mk k c l,n=>by
  unfold bO aK
  simp only[nsz]
  by_cases h9:k=9
  ·rw[ap h9]
   exact⟨Ln _,Ln _,λ_=>by simp only[M5];omega⟩
  rw[am h9]
  by_cases hl:l.isEmpty=true
  ·rw[ap hl,ap ⟨hl,h9⟩]
   exact⟨LN _,LN _,λ_=>by simp only[M5];omega⟩
  rw[am hl,am λh=>hl h.1]
  have h:=pN k l n ⟨k==4,[],[],[]⟩
  simp only[M5,Nb]at h
  obtain⟨h1,h2,h3⟩:=h
  refine⟨h1,h2,λhle=>?_⟩
  have h4:=h3 hle hle
  by_cases h67:k=6\/k=7
  ·unfold BL
   dsimp only
   rw[ap h67,Li]
   have:=tm (a:=(bS k l n ⟨k==4,[],[],[]⟩).l) (b:=(bS k l n ⟨k==4,[],[],[]⟩).f) zo zo
   omega
  rw[yV _ h67];omega
def pN(k:Int):∀(l:List Nd) (n:Nat) (o:LkR),(bS k l n o).f.length<=o.f.length+aA l/\(bS k l n o).l.length<=o.l.length+aA l/\(o.f.length+aA l<=60->o.l.length+aA l<=60->(bS k l n o).p.length<=o.p.length+7200*cM l)
 |[],n,o=>by unfold bS aA cM;simp
 |t::r,n,o=>by
  obtain⟨a1,a2,a3⟩:=mh t n
  have h:=pN k r (n+aK t) (jF k o (bO t n))
  unfold bS aA
  simp only[cM]
  have e:(jF k o (bO t n)).f.length<=o.f.length+aK t/\(jF k o (bO t n)).l.length<=o.l.length+aK t/\(o.l.length<=60->aK t<=60->(jF k o (bO t n)).p.length<=o.p.length+(bO t n).p.length+3600):=by
   unfold jF
   split
   ·simp only[Li];omega
   dsimp only
   refine⟨?_,?_,λq1 q2=>?_⟩
   ·split
    ·rw[Li];omega
    omega
   ·split
    ·rw[Li];omega
    omega
   rw[Li,Li]
   have:=tm (a:=o.l) (b:=(bO t n).f) q1 zo
   omega
  obtain⟨e1,e2,e3⟩:=e
  obtain⟨h1,h2,h3⟩:=h
  refine⟨zo,zo,λq1 q2=>?_⟩
  have h4:=h3 zo zo
  have h5:=e3 zo zo
  have h6:=a3 zo
  have:=da t
  omega
end
mutual
def Bz:∀t:Nd,aK t<=nsz t
 |.mk k c l=>by
  have:=fN l
  unfold aK
  simp only[nsz]
  split<;>omega
def fN:∀l:List Nd,aA l<=cM l
 |[]=>LN _
 |t::r=>by
  have h1:=Bz t
  have h2:=fN r
  unfold aA
  simp only[cM]
  omega
end
def pM:∀(a b:List Nd),ew (a++b)=ew a++ew b
 |[],b=>by simp[ew]
 |t::a,b=>by rw[M8,ew,ew,pM a b,Lm]
def gz:∀(a b:List Nd),aA (a++b)=aA a+aA b
 |[],b=>by simp[aA]
 |t::a,b=>by rw[M8,aA,aA,gz a b];omega
def Dh{l:List Nd}(h:q<l.length):ew (l.take (q+1))=ew (l.take q)++tD (nth l q):=by
 rw[aG h,pM,ew,ew,Lz]
def oi{l:List Nd}(h:q<l.length):aA (l.take (q+1))=aA (l.take q)+aK (nth l q):=by
 rw[aG h,gz,aA,aA,Nat.add_zero]
def jU(l:List Nd)(q:Nat):aA (l.take q)<=aA l:=by
 have:=gz (l.take q) (l.drop q);rw[List.take_append_drop]at this;omega
def BD(S:List (List Int))(s:List Int):Option Nat:=S.findIdx? (· == s)
def Ai(S:List (List Int))(s:List Int):Nat:=(BD S s).getD S.length
def oP(S:List (List Int))(s:List Int):List (List Int):=if(BD S s).isSome=true then S else S++[s]
def Dy(h:BD S s=some k):k<S.length/\nth S k=s:=by
 obtain⟨h1,h2,_⟩:=N7.1 h;exact⟨h1,by rw[aB h1];simpa using h2⟩
def Ag(S:List (List Int))(s:List Int):∃r,oP S s=S++r:=by
 unfold oP
 split
 ·exact⟨[],by simp⟩
 exact⟨_,rfl⟩
def Jd(S:List (List Int))(s:List Int):Ai S s<(oP S s).length/\nth (oP S s) (Ai S s)=s:=by
 unfold Ai oP
 cases h:BD S s with
 |some k=>exact Dy h
 |none=>
  simp only[Option.getD_none,Option.isSome_none,N6,if_false];exact⟨by simp,by rw[az,am zo,MR,ao]⟩
def Ah(S:List (List Int))(s:List Int):S.length<=(oP S s).length/\(oP S s).length<=S.length+1:=by
 unfold oP
 split
 ·omega
 simp
def Gg(h:k<S.length):nth (oP S s) k=nth S k:=by
 obtain⟨r,hr⟩:=Ag S s;rw[hr,az,ap h]
def bX(step:List Int->Int->List Int)(s:List Int)(S:List (List Int)):Nat->List (List Int)×List Nat
 |0=>(S,[])
 |m+1=>(oP (bX step s S m).1 (step s (m:Nat)),(bX step s S m).2++[Ai (bX step s S m).1 (step s (m:Nat))])
structure RowI(step:List Int->Int->List Int)(s:List Int)(S S':List (List Int))(r:List Nat)(m:Nat):Prop where
 pre:∃q,S'=S++q
 top:S'.length<=S.length+m
 len:r.length=m
 lt:∀j,j<m->nth r j<S'.length/\nth S' (nth r j)=step s (j:Nat)
 mem:∀x∈S',x∈S\/∃j:Nat,j<m/\x=step s (j:Nat)
def gR(step:List Int->Int->List Int)(s:List Int)(S:List (List Int)):∀m,RowI step s S (bX step s S m).1 (bX step s S m).2 m
 |0=>⟨⟨[],by simp[bX]⟩,by simp[bX],rfl,λj hj=>absurd hj (LD j),λx hx=>.inl hx⟩
 |m+1=>by
  have ih:=gR step s S m;unfold bX;generalize bX step s S m=R at *;obtain⟨S1,r⟩:=R;dsimp only at ih ⊢;obtain⟨q,hq⟩:=ih.pre;obtain⟨q2,a4⟩:=Ag S1 (step s (m:Nat));have a5:=Jd S1 (step s (m:Nat));have hl:=Ah S1 (step s (m:Nat));have a0:=ih.top;have a3:=ih.len;refine⟨⟨q++q2,by rw[a4,hq,Lm]⟩,zo,by simp[a3],λj hj=>?_,λx hx=>?_⟩
  ·rw[az]
   by_cases e:j<r.length
   ·rw[ap e];obtain⟨a1,a2⟩:=ih.lt j zo;exact⟨zo,by rw[Gg a1];exact a2⟩
   rw[am e,show j-r.length=0 from by omega,ao];obtain rfl:j=m:=zo;exact a5
  unfold oP at hx
  split at hx
  ·rcases ih.mem x hx with h|⟨j,hj,e⟩
   ·exact .inl h
   exact .inr ⟨j,zo,e⟩
  rcases L3.1 hx with hx|hx
  ·rcases ih.mem x hx with h|⟨j,hj,e⟩
   ·exact .inl h
   exact .inr ⟨j,zo,e⟩
  exact .inr ⟨m,zo,Lk.1 hx⟩
def GQ(step:List Int->Int->List Int)(tells:List Int->Nat):Nat->Nat->List (List Int)->List (List Nat)->List Nat->Option (List (List Nat)×List Nat)
 |0,_,_,_,_=>none
 |n+1,i,S,rows,tls=>
  if i<S.length then
   if 1000<(bX step (nth S i) S 37).1.length then none
   else GQ step tells n (i+1) (bX step (nth S i) S 37).1 (rows++[(bX step (nth S i) S 37).2]) (tls++[tells (nth S i)])
  else some (rows,tls)
def D2(step:List Int->Int->List Int)(a0:List Int->Nat):Option (List (List Nat)×List Nat):=GQ step a0 1002 0 [[0]] [] []
structure DI(step:List Int->Int->List Int)(tells:List Int->Nat)(i:Nat)(S:List (List Int))(rows:List (List Nat))(tls:List Nat):Prop where
 le:i<=S.length
 rl:rows.length=i
 tl:tls.length=i
 p0:0<S.length
 fst:nth S 0=[0]
 len:S.length<=1000
 row:∀j,j<i->(nth rows j).length=37/\∀m:Nat,m<37->nth (nth rows j) m<S.length/\nth S (nth (nth rows j) m)=step (nth S j) (m:Nat)
 tel:∀j,j<i->nth tls j=tells (nth S j)
def A1(step:List Int->Int->List Int)(a0:List Int->Nat):DI step a0 0 [[0]] [] []:=⟨zd,rfl,rfl,zd,ao _ _,zd,λj hj=>absurd hj (LD j),λj hj=>absurd hj (LD j)⟩
def DI.next{step:List Int->Int->List Int}{a3:List Int->Nat}{rows:List (List Nat)}{a4:List Nat}(h:DI step a3 i S rows a4)(hi:i<S.length)(hl:(bX step (nth S i) S 37).1.length<=1000):
  DI step a3 (i+1) (bX step (nth S i) S 37).1 (rows++[(bX step (nth S i) S 37).2]) (a4++[a3 (nth S i)]):=by
 have hr:=gR step (nth S i) S 37;generalize bX step (nth S i) S 37=R at *;obtain⟨S1,r⟩:=R;dsimp only at hr hl ⊢;obtain⟨q,hq⟩:=hr.pre;have a0:∀k,k<S.length->nth S1 k=nth S k:=λk hk=>by rw[hq,az,ap hk]
 have a5:S.length<=S1.length:=by rw[hq];simp
 have h1:=h.rl;have h2:=h.tl;have h3:=h.p0;refine⟨zo,by simp[h1],by simp[h2],zo,by rw[a0 0 h3];exact h.fst,hl,λj hj=>?_,λj hj=>?_⟩
 ·rw[az]
  by_cases e:j<rows.length
  ·rw[ap e];obtain⟨a1,a2⟩:=h.row j zo;refine⟨a1,λm hm=>?_⟩;obtain⟨b1,b2⟩:=a2 m hm;exact⟨zo,by rw[a0 _ b1,a0 j zo];exact b2⟩
  rw[am e,show j-rows.length=0 from by omega,ao];obtain rfl:j=i:=zo;refine⟨hr.len,λm hm=>?_⟩;obtain⟨b1,b2⟩:=hr.lt m hm;exact⟨b1,by rw[a0 j hi];exact b2⟩
 rw[az]
 by_cases e:j<a4.length
 ·rw[ap e,a0 j zo];exact h.tel j zo
 rw[am e,show j-a4.length=0 from by omega,ao];obtain rfl:j=i:=zo;rw[a0 j hi]
def xh{step:List Int->Int->List Int}{a0:List Int->Nat}:∀(n i:Nat) (S:List (List Int)) (rows:List (List Nat)) (a1:List Nat) (d:List (List Nat)×List Nat),DI step a0 i S rows a1->GQ step a0 n i S rows a1=some d->∃S',DI step a0 S'.length S' d.1 d.2
 |0,_,_,_,_,_,_,h=>by cases h
 |n+1,i,S,rows,a1,d,hd,h=>by
  unfold GQ at h
  split at h
  ·rename_i hi
   split at h
   ·cases h
   exact xh n _ _ _ _ d (hd.next hi zo) h
  rename_i hi
  cases h
  have:=hd.le;obtain rfl:i=S.length:=zo;exact⟨S,hd⟩
def jv{step:List Int->Int->List Int}{a0:List Int->Nat}{d:List (List Nat)×List Nat}(h:D2 step a0=some d):∃S,DI step a0 S.length S d.1 d.2:=xh _ _ _ _ _ d (A1 _ _) h
def kN(rows:List (List Nat))(w:List Nat)(q:Nat):Nat:=w.foldl (λq m=>nth (nth rows q) m) q
def zY{step:List Int->Int->List Int}{a0:List Int->Nat}{S:List (List Int)}{rows:List (List Nat)}{a3:List Nat}(h:DI step a0 S.length S rows a3):∀(w:List Nat),(∀m∈w,m<37)->∀q,q<S.length->kN rows w q<S.length/\nth S (kN rows w q)=w.foldl (λs (m:Nat)=>step s (m:Int)) (nth S q)
 |[],_,q,hq=>⟨hq,rfl⟩
 |m::w,hw,q,hq=>by
  obtain⟨a1,a2⟩:=(h.row q hq).2 m (hw m (by simp));have:=zY h w (λx hx=>hw x (by simp[hx])) _ a1;rw[a2]at this;exact this
def xM(s:List Int):List UInt8:=s.flatMap λp=>[PQ (p.toNat / 256),PQ (p.toNat % 256)]
def okS(s:List Int):Prop:=∀x∈s,0<=x/\x.toNat<=999
def AA:∀ {s t:List Int},okS s->okS t->xM s=xM t->s=t
 |[],[],_,_,_=>rfl
 |[],b::t,_,_,h=>by simp[xM]at h
 |a::s,[],_,_,h=>by simp[xM]at h
 |a::s,b::t,hs,ht,h=>by
  have h1:=hs a (by simp);have h2:=ht b (by simp);unfold xM at h;simp only[Mt,M8,No,M9]at h;obtain⟨e1,e2,e3⟩:=h;have e1:=congrArg PP e1;have e2:=congrArg PP e2;simp only[UInt8.toNat_ofNat']at e1 e2;have:a=b:=zo;subst this;rw[AA (λx hx=>hs x (by simp[hx])) (λx hx=>ht x (by simp[hx])) e3]
end Go.Proofs.YtcfhbfflgnbacaaGreatDoor
namespace Go.VL
section
open Go.ChangeMaps (setBlock)
section
variable{κ ν:Type}[DecidableEq κ]{kv:κ→ln}{vv:ν→ln}
def qZ:List (κ×ν)->κ->List (κ×ν)
 |[],_=>[]
 |(a,y)::r,k=>if a=k then r else(a,y)::qZ r k
def kh:∀(l:List (κ×ν)) (k:κ),qZ l k=match ke l k with
  |some i=>l.eraseIdx i
  |none=>l
 |[],k=>rfl
 |(a,y)::r,k=>by
  simp only[qZ,ke]
  by_cases h:a=k
  ·simp[h]
  simp only[am h];rw[kh r k]
  cases ke r k<;>simp
def map_eraseIdx{β:Type}(f:α->β)(l:List α)(j:Nat):(l.eraseIdx j).map f=(l.map f).eraseIdx j:=by
 simp[Mu,NF,PI]
def gg{r:Nat}(o:Obj)(ht:O r=i)(a0:i≠0):MC (λj=>j=i) O w O (setBlock w r o):=by
 refine⟨rfl,rfl,rfl,by simp[setBlock],λb _ hn=>?_,λ_ _=>rfl,λ_ h=>.inl h,λh=>a0 h.symm⟩;simp only[setBlock,Nn]
 rw[am (λe=>hn (by rw[<-e];exact ht))]
def fH{r:Nat}{o o':Obj}(h:w.heap[r]? = some o):(setBlock w r o').heap[r]? = some o':=by
 have:=bH h;simp[setBlock,this]
def qJ{ty U:Lu}(hT:P.underlying T=some (.map K E))(hK:Qi P K kv){r:Nat}{l:List (κ×ν)}(h:MS kv vv O w i r l)(a8:i≠0)(k:κ):
  ∃w',(Nh #[T,U] ty #[.map (some r),kv k]).run P w=.ok (.tuple #[]) w'/\MS kv vv O w' i r (qZ l k)/\MC (λj=>j=i) O w O w':=by
 obtain⟨es,c,h1,h2⟩:=h.blk;have a3:=h.born es c h1;have a6:es.toList.map (·.key)=(l.map (·.1)).map kv:=by
  have:=congrArg (Qc Qb) h2;simpa[NP]using this
 have hf:=hK.find k es.toList (l.map (·.1)) w a6;rw[eY]at hf;have hc:=hK.check es.isEmpty 9997 k w;have hr:=bH h1;have a5:∀(a1:Array LK) (c':Nat),((a1.toList.map (·.born)).Nodup/\∀e∈a1.toList,e.born<c')->a1.toList.map (λe=>(e.key,e.val))=(qZ l k).map (λp=>(kv p.1,vv p.2))->
   MS kv vv O (setBlock w r (.map a1 c')) i r (qZ l k)/\MC (λj=>j=i) O w O (setBlock w r (.map a1 c')):=λa1 c' hb he=>
  ⟨⟨⟨a1,c',fH h1,he⟩,h.tag,λa9 c2 h2=>by rw[fH h1]at h2;cases h2;exact hb⟩,gg _ h.tag a8⟩
 have a2:(Nh #[T,U] ty #[.map (some r),kv k]).run P w=((match ((ke l k).bind λi=>(es.toList[i]?).map λe=>(i,e.val))with
   |some (i,_)=>do setObj r (.map (es.eraseIdxIfInBounds i) c);pure (.tuple #[])
   |none=>do setObj r (.map es c);pure (.tuple #[]):Sem ln)).run P w:=by
  simp only[Nh,List.getElem?_toArray,List.getElem?_cons_zero,List.getElem?_cons_succ,Ll,run_underlying hT,ka];simp only[getObj,N0,h1,Ll,ka,hc,hf];generalize ((ke l k).bind λi=>NR (λe=>(i,e.val)) es.toList[i]?)=q
  cases q with
  |none=>rfl
  |some p=>rfl
 rw[a2,kh];have a0:∀a1,(do setObj r (.map a1 c);pure (.tuple #[]):Sem ln).run P w=.ok (.tuple #[]) (setBlock w r (.map a1 c)):=λa1=>by
  simp[setObj,N0,h1,setBlock]
 cases hi:ke l k with
 |none=>
  refine⟨_,by simp only[P5];exact a0 es,?_⟩;have:=a5 es c a3 (by rw[kh,hi];exact h2);rw[kh,hi]at this;exact this
 |some j=>
  obtain⟨y,hy⟩:=jE hi;have a4:j<es.toList.length:=by
   have hl:=congrArg PW h2;simp only[Mr]at hl;have:=(NA.1 hy).1;omega
  refine⟨_,by simp only[P4,NG a4,Nj];exact a0 _,?_⟩
  have a7:j<es.size:=by simpa using a4
  have e1:(es.eraseIdxIfInBounds j).toList=es.toList.eraseIdx j:=by
   simp[Array.eraseIdxIfInBounds,a7]
  have:=a5 (es.eraseIdxIfInBounds j) c ⟨by
    rw[e1,Mu,M4,NF,PI];have hs:(Pi j (es.toList.map (·.born))++List.drop (j+1) (es.toList.map (·.born))).Sublist (es.toList.map (·.born)):=by
     rw[<-Mu];exact NO _ _
    exact hs.nodup a3.1,λe he=>a3.2 e (by rw[e1]at he;exact(NO _ _).mem he)⟩ (by
   rw[kh,hi,e1];have h3:=congrArg (λl=>l.eraseIdx j) h2
   rw[map_eraseIdx,map_eraseIdx];exact h3)
  rw[kh,hi]at this;exact this
structure RangeO(kv:κ->ln)(vv:ν->ln)(O:Nat->Nat)(w:Lj)(i j r q:Nat)(left:List (κ×ν))(cur:Option (κ×ν)):Prop where
 ex:∃es clock seen c0,w.heap[r]? = some (.map es clock)/\w.heap[q]? = some (.mapIter (some r) clock seen c0)/\clock<=c0/\(es.toList.map (·.born)).Nodup/\(∀e∈es.toList,e.born<clock)/\
  (leftOf es seen).toList.map (λe=>(e.key,e.val))=left.map (λp=>(kv p.1,vv p.2))/\∀p,cur=some p->∃(e:LK) (s0:Array Nat),e∈es.toList/\seen=s0.push e.born/\c0=clock/\e.key=kv p.1/\e.val=vv p.2
 tag:O r=i
 tagq:O q=j
end
section
variable{κ ν:Type}{kv:κ→ln}{vv:ν→ln}
def RangeO.U{S:Nat->Prop}{r:Nat}{left:List (κ×ν)}{a1:Option (κ×ν)}(h:RangeO kv vv O w i j r q left a1)(u:MC S O w O' w')(hi:i≠0)(hj:j≠0)(hS:¬S i)(a2:¬S j):RangeO kv vv O' w' i j r q left a1:=by
 obtain⟨es,c,a0,c0,h1,h2,h3⟩:=h.ex;have e1:=u.blk r (bH h1) (by rw[h.tag];exact hS);have e2:=u.blk q (bH h2) (by rw[h.tagq];exact a2);exact⟨⟨es,c,a0,c0,by rw[e1];exact h1,by rw[e2];exact h2,h3⟩,by rw[u.tag r (by rw[h.tag];exact hi),h.tag],by rw[u.tag q (by rw[h.tagq];exact hj),h.tagq]⟩
end
section
variable{κ ν:Type}[DecidableEq κ]{kv:κ→ln}{vv:ν→ln}
def yU{e:LK}{a1 a0:List LK}(hn:(es.map (·.born)).Nodup)(p:LK->Bool)(h:es.filter p=a1++e::a0):es.filter (λx=>p x && !(x.born==e.born))=a1++a0:=by
 have h1:es.filter (λx=>p x && !(x.born==e.born))=(es.filter p).filter (λx=>!(x.born==e.born)):=by
  rw[List.filter_filter];congr 1;funext x;exact Bool.and_comm _ _
 have a2:((a1++e::a0).map (·.born)).Nodup:=by rw[<-h];exact((List.filter_sublist (p:=p) (l:=es)).map _).nodup hn
 rw[h1,h,P9,NJ (by simp)];simp only[M4,Lq]at a2;have hd:=N9.1 a2;congr 1
 ·refine N1.2 λx hx=>?_
  have:=hd.2.2 x.born (M0.2 ⟨x,hx,rfl⟩) e.born (by simp);simpa using this
 refine N1.2 λx hx=>?_
 have:=(Pz.1 hd.2.1).1;simp only[Bool.not_eq_true',beq_eq_false_iff_ne,ne_eq];intro hc;exact this (by rw[<-hc];exact M0.2 ⟨x,hx,rfl⟩)
def De{β γ:Type}{f:α->γ}{g:β->γ}:∀ {l:List α} {m:List β} {a0 a1:List α} {e:α},l.map f=m.map g->l=a0++e::a1->∃pre' x suf',m=pre'++x::suf'/\f e=g x/\(a0++a1).map f=(pre'++suf').map g:=by
 intro l m a0
 induction a0 generalizing l m with
 |nil=>
  intro a1 e h hl;subst hl
  cases m with
  |nil=>simp at h
  |cons x m=>
   simp only[No,Lq,M9]at h;exact⟨[],x,m,rfl,h.1,h.2⟩
 |cons a a0 ih=>
  intro a1 e h hl;subst hl
  cases m with
  |nil=>simp at h
  |cons x m=>
   simp only[M8,Lq,M9]at h;obtain⟨p,y,s,rfl,h1,h2⟩:=ih h.2 rfl;exact⟨x::p,y,s,rfl,h1,by simp only[M8,Lq,h.1,h2]⟩
end
section
variable{κ ν:Type}[DecidableEq κ]{kv:κ→ln}{vv:ν→ln}
variable{P:Mq}{N:Nat}{ops:Array Nl}{Q:PL→Qd→Lj→Prop}{rest:List Nl}{st:St}{w:Lj}
variable{t:Lu}{p:String}{e:Array PM}{d:Nat}{x y z:MY}
def WL.delete{T K E U:Lu}{O:Nat->Nat}{i r:Nat}{l:List (κ×ν)}(hm:MS kv vv O w i r l)(hT:P.underlying T=some (.map K E))(hK:Qi P K kv)(a1:i≠0) 
  (k:κ) {kx:ln} (hx:ev st x=some (.map (some r))) (hy:ev st y=some kx) (hk:kx=kv k)
  (h:∀w',MS kv vv O w' i r (qZ l k)->MC (λj=>j=i) O w O w'->WL P N ops Q rest st w'):WL P N ops Q (⟨none,.call ⟨.builtin .delete,#[x,y],#[T,U]⟩,t,p,e,none⟩::rest) st w:=by
 subst hk;obtain⟨w',h1,h2,h3⟩:=qJ (ty:=t) (U:=U) hT hK hm a1 k;refine Qw rfl λa ha=>?_
 unfold Qh;have a0:(execOp a.eval ⟨none,.call ⟨.builtin .delete,#[x,y],#[T,U]⟩,t,p,e,none⟩).run P w=.ok (.value (.tuple #[])) w':=by
  simp only[execOp,resolve,invoke,builtin,Ll,Lr,ka,MO,Lq,MG,ha.ev hx,ha.ev hy,h1]
 rw[a0];exact h w' h2 h3 _ ha
end
section
variable{κ ν:Type}{kv:κ→ln}{vv:ν→ln}
variable{P:Mq}{N:Nat}{ops:Array Nl}{Q:PL→Qd→Lj→Prop}{rest:List Nl}{st:St}{w:Lj}
variable{t:Lu}{p:String}{e:Array PM}{d:Nat}{x y z:MY}
def qx{r:Nat}{l:List (κ×ν)}(hm:MS kv vv O w i r l)(hT:P.underlying T=some (.map K E))(hR:NI B O w)(j:Nat)(hj:j≠0)(_:i≠0)(hx:ev st x=some (.map (some r)))(hd:Nf d N=true) 
  (h:∀q w' O',RangeO kv vv O' w' i j r q l none->MS kv vv O' w' i r l->MC (λk=>k=j) O w O' w'->NI B O' w'->WL P N ops Q rest ((d,nP q)::st) w'):WL P N ops Q (⟨some d,.range T x,t,p,e,none⟩::rest) st w:=by
 obtain⟨es,c,h1,h2⟩:=hm.blk;have a1:=hm.born es c h1;have a0:=bH h1;have hU:=Q9 (S:=λk=>k=j) (λe=>hj e.symm) hR (.mapIter (some r) c #[] c) j;refine Pe hd (λa ha=>by simp only[execOp,ha.ev hx,Ll,run_range_map w _ _ _ _ _ _ hT h1,ka,Lr]) (h w.heap.size _ (og O w.heap.size j) ⟨⟨es,c,#[],c,?_,heap_alloc_new w _,LN _,a1.1,a1.2,?_,λp hp=>by cases hp⟩,?_,fJ _ _ _⟩ ⟨⟨es,c,?_,h2⟩,?_,λa2 c' h'=>hm.born a2 c' (by rw[heap_alloc_old w _ a0]at h';exact h')⟩ hU (hR.U hU))
 ·rw[heap_alloc_old w _ a0];exact h1
 ·unfold leftOf;have e1:es.filter (λe=>!(#[]:Array Nat).contains e.born)=es:=Array.filter_eq_self.2 (by simp);rw[e1];exact h2
 ·unfold og;rw[am zo];exact hm.tag
 ·rw[heap_alloc_old w _ a0];exact h1
 unfold og;rw[am zo];exact hm.tag
def sK{r:Nat}{left:List (κ×ν)}{b4:Option (κ×ν)}(hm:RangeO kv vv O w i j r q left b4)(b2:j≠0)(b3:i≠j)(hx:ev st x=some (nP q))(hd:Nf d N=true) 
  (h0:left=[]->WL P N ops Q rest ((d,.tuple #[.bool false])::st) w)
  (h1:∀a' a b a8 w',left=a'++(a,b)::a8->RangeO kv vv O w' i j r q (a'++a8) (some (a,b))->MC (λk=>k=j) O w O w'->WL P N ops Q rest ((d,.tuple #[.bool true,kv a,vv b])::st) w'):WL P N ops Q (⟨some d,.next x false,t,p,e,none⟩::rest) st w:=by
 obtain⟨es,c,a0,c0,g1,g2,g3,g4,g5,g6,g7⟩:=hm.ex
 rcases Go.run_next_at (P:=P) w t q r c c0 a0 es c g2 g1 g5 g3 with⟨hs,a2⟩|⟨en,b0,w1,a5,a2⟩
 ·refine Pe hd (λa ha=>by simp only[execOp,ha.ev hx,Ll,a2,ka,Lr]) (h0 ?_);have h3:=congrArg PW g6;simp only[Mr,Array.length_toList,hs]at h3;exact Lo h3.symm
 obtain⟨a',a8,a6⟩:=List.append_of_mem b0;obtain⟨a9,⟨a,b⟩,a7,rfl,a4,a3⟩:=De g6 a6;simp only[Pf]at a4;have a1:∀(a:Qd),Qx N a st->(execOp a.eval ⟨some d,.next x false,t,p,e,none⟩).run P w=.ok (.value (.tuple #[.bool true,en.key,en.val])) (setBlock w1 q (.mapIter (some r) c (a0.push en.born) c)):=λa ha=>by
  simp only[execOp,ha.ev hx,Ll,a2,ka,Lr]
 rw[a4.1,a4.2]at a1;have hw:w1.heap=w.heap:=by rcases a5 with rfl|rfl<;>rfl
 have b1:en∈es.toList:=by
  have:en∈(leftOf es a0):=by simpa using b0
  unfold leftOf at this;rw[Array.mem_filter]at this;simpa using this.1
 refine Pe hd a1 (h1 a9 a b a7 _ rfl ⟨⟨es,c,a0.push en.born,c,?_,fH (by rw[hw];exact g2),LN _,g4,g5,?_,λp hp=>?_⟩,hm.tag,hm.tagq⟩ ?_)
 ·simp only[setBlock,Nn];rw[am (λe=>b3 (by rw[<-hm.tag,<-hm.tagq,e])),hw];exact g1
 ·rw[<-a3];unfold leftOf at a6 ⊢;rw[Array.toList_filter]at a6 ⊢;rw[<-yU g4 _ a6];congr 2;funext x;simp;rfl
 ·cases hp
  exact⟨en,a0,b1,rfl,rfl,a4.1,a4.2⟩
 have hU:=gg (w:=w1) (.mapIter (some r) c (a0.push en.born) c) hm.tagq b2;exact⟨by rw[hU.os];rcases a5 with rfl|rfl<;>rfl,by rw[hU.tape];rcases a5 with rfl|rfl<;>rfl,by rw[hU.output];rcases a5 with rfl|rfl<;>rfl,by have:=hU.size;rw[hw]at this;exact this,λb hb hn=>by have:=hU.blk b (by rw[hw];exact hb) hn;rw[hw]at this;exact this,hU.tag,λb hb=>.inl hb,hU.z⟩
def RV.entry{O:Nat->Nat}{i j r q:Nat}{left:List (κ×ν)}{a:κ}{b:ν}(hm:RangeO kv vv O w i j r q left (some (a,b)))(hx:ev st x=some (nP q)):RV P N (.entry x) t st w (.tuple #[kv a,vv b]):=
 λac ha a1 p e g=>by
  obtain⟨es,c,a0,c0,g1,g2,g3,g4,g5,g6,g7⟩:=hm.ex;obtain⟨en,s0,e1,rfl,rfl,e2,e3⟩:=g7 _ rfl;simp only[execOp,ha.ev hx,Ll,run_entry_at w q r c0 s0 es c0 en g2 g1 e1 g4,ka,Lr,e2,e3]
end
abbrev eP(p:Int×Int):ln:=.agg #[nI p.1,nI p.2]
def FG{I:Lu}(hK:P.underlying K=some (.array 2 I))(hI:P.underlying I=some (.int .i64))(a3:(P.info? I).isSome=true)(hc:P.cellsOf I=1):Qi P K eP:=by
 obtain⟨i,hi⟩:=Option.isSome_iff_exists.1 a3;have hA:∀w,(isAgg I).run P w=.ok false w:=λw=>by simp[isAgg,run_underlying hI]
 have a0:∀(a b:Int) (w:Lj),(part I #[nI a,nI b] 0).run P w=.ok (nI a) w/\(part I #[nI a,nI b] 1).run P w=.ok (nI b) w:=λa b w=>by
  constructor<;>simp[part,hA]
 have a5:∀b n k (w:Lj),(Nr b (n+1) I (nI k)).run P w=.ok () w:=λb n k w=>by simp[Nr,run_underlying hI]
 have a4:∀(a b:Int×Int) (w:Lj),(Qo K (eP a) (eP b)).run P w=.ok (decide (a=b)) w:=λa b w=>by
  have h1:∀d (x y:Int) (w:Lj),(Pg (d+1) I (nI x) (nI y)).run P w=.ok (x==y) w:=λd x y w=>by simp[Pg,run_underlying hI]
  obtain⟨a1,a2⟩:=a;obtain⟨b1,b2⟩:=b;have h2:∀(x y:Int) (w:Lj),(Pg 9999 I (nI x) (nI y)).run P w=.ok (x==y) w:=λx y w=>h1 9998 x y w
  unfold Qo Op.maxDepth;rw[run_equalIn_array w 9999 _ _ hK hi,hc];simp only[show MQ 2=[0,1]from rfl,Op.eqItems,Ll,NN,NX,(a0 a1 a2 w).1,(a0 b1 b2 w).1,h2,ka]
  by_cases e1:a1=b1
  ·by_cases e2:a2=b2
   ·subst e1;subst e2;simp[a0,h2]
   subst e1;simp[e2,a0,h2]
  simp[e1]
 refine⟨λb n k w=>?_,λk es ks w h=>?_,λk=>?_⟩
 ·obtain⟨k1,k2⟩:=k;unfold Nr;simp only[Ll,run_underlying hK,ka];simp only[PE,PD,PV,Nat.add_one_sub_one,Nat.div_one];simp[List.range',run_sizeOf w hi,hc,a0,a5]
 ·have key:∀(es:List LK) (ks:List (Int×Int)) (j:Nat) (w:Lj),es.map (·.key)=ks.map eP->
    (Ng K (eP k) es j).run P w=.ok ((ks.findIdx? (· = k)).bind λi=>(es[i]?).map λe=>(j+i,e.val)) w:=by
   intro es
   induction es with
   |nil=>intro ks j w h;cases ks with
    |nil=>simp[Ng]
    |cons a r=>simp at h
   |cons e es ih=>
    intro ks j w h
    cases ks with
    |nil=>simp at h
    |cons a r=>
     simp only[Lq,M9]at h;simp only[Ng,Ll,h.1,a4,ka]
     by_cases hk:k=a
     ·subst hk;simp[P8]
     rw[decide_eq_false hk];simp only[N6,if_false];rw[ih r (j+1) w h.2];simp only[P8,decide_eq_true_eq];rw[am (λe=>hk e.symm)]
     cases hf:List.findIdx? (λx=>decide (x=k)) r with
     |none=>simp
     |some i=>simp[Nat.add_assoc,Nat.add_comm 1]
  have:=key es ks 0 w h;simp only[Nb]at this;unfold Instr.findKey;simp only[Ll,run_underlying hK,ka]
  cases es with
  |nil=>
   cases ks with
   |nil=>simp[PG]
   |cons a r=>simp at h
  |cons e es=>simpa[PG,Instr.sameNow]using this
 simp[Instr.sameBits]
section
variable{κ ν:Type}[DecidableEq κ]{kv:κ→ln}{vv:ν→ln}
def vw(es:Array LK)(i:Nat)(f g h:LK->LK)(hf:∀x,g (f x)=h x):(es.modify i f).modify i g=es.modify i h:=by
 apply P1;intro j;simp only[Mv]
 by_cases hj:i=j
 ·simp only[ap hj];cases es[j]?<;>simp[hf]
 simp only[am hj]
def yp(es:Array LK)(a:LK)(f:LK->LK):(es.push a).modify es.size f=es.push (f a):=by
 apply P1;intro j;simp only[Mv,Array.getElem?_push]
 by_cases hj:j=es.size
 ·subst hj;simp
 rw[am (λe=>hj e.symm),am hj,am hj]
def om{e:LK}(hn:(es.map (·.born)).Nodup)(he:es[j]? = some e):es.findIdx? (λx=>(x.born:Int)==(e.born:Int))=some j:=by
 obtain⟨hj,rfl⟩:=NA.1 he;rw[N7];refine⟨hj,by simp,λi hi=>?_⟩;have:=(Nz.1 hn) i j (by simp;omega) (by simpa using hj) hi;simp only[Pj]at this;simp;omega
def Bb(hT:P.underlying T=some (.map K E))(hK:Qi P K kv){r:Nat}{l:List (κ×ν)}(h:MS kv vv O w i r l)(a7:i≠0){z:ln}(hz:(P2 E).run P w=.ok z w)(k:κ)(x:ν):
  ∃(w1 w':Lj) (v:ln) (b:Int),(Nq T (.map (some r)) (kv k)).run P w=.ok (.tuple #[v,nI b]) w1/\(MM T (.map (some r)) (nI b) (vv x)).run P w1=.ok () w'/\MS kv vv O w' i r (dc l k x)/\MC (λj=>j=i) O w O w'/\MC (λj=>j=i) O w O w1:=by
 obtain⟨es,c,h1,h2⟩:=h.blk;have a9:=h.born es c h1;have hr:=bH h1;have b4:es.toList.map (·.key)=(l.map (·.1)).map kv:=by
  have:=congrArg (Qc Qb) h2;simpa[NP]using this
 have hf:=hK.find k es.toList (l.map (·.1)) w b4;rw[eY]at hf;have hc:=hK.check false 9997 k w;obtain⟨wm,a3,hm,hu⟩:=eD hT hK h a7 k x
 have a1:(Pk T (.map (some r)) (kv k) (vv x)).run P w=((match ((ke l k).bind λi=>(es.toList[i]?).map λe=>(i,e.val))with
   |some (i,_)=>do
    let key <-MH (((es[i]?).map (·.key)).getD (kv k)) (kv k)
    setObj r (.map (es.modify i λe=>{ e with key,val:=vv x }) c)
   |none=>setObj r (.map (es.push { key:=kv k,val:=vv x,born:=c }) (c+1)):Sem Unit)).run P w:=by
  simp only[Pk,Ll,run_underlying hT,ka];simp only[getObj,N0,h1,Ll,ka,hc,hf];generalize ((ke l k).bind λi=>NR (λe=>(i,e.val)) es.toList[i]?)=q
  cases q with
  |none=>rfl
  |some p=>rfl
 have a0:(Nq T (.map (some r)) (kv k)).run P w=((match ((ke l k).bind λi=>(es.toList[i]?).map λe=>(i,e.val))with
   |some (i,v)=>do
    let key <-MH (((es[i]?).map (·.key)).getD (kv k)) (kv k)
    setObj r (.map (es.modify i λe=>{ e with key }) c)
    pure (.tuple #[v,goInt (((es[i]?).map (·.born)).getD 0)])
   |none=>do
    let zero <-P2 E
    setObj r (.map (es.push { key:=kv k,val:=zero,born:=c }) (c+1))
    pure (.tuple #[zero,goInt c]):Sem ln)).run P w:=by
  simp only[Nq,Ll,run_underlying hT,ka];simp only[getObj,N0,h1,Ll,ka,hc,hf];generalize ((ke l k).bind λi=>NR (λe=>(i,e.val)) es.toList[i]?)=q
  cases q with
  |none=>rfl
  |some p=>rfl
 have a2:∀(a':Array LK) (c':Nat) (w0:Lj),(∃e0 k0,w0.heap[r]? = some (.map e0 k0))->(setObj r (.map a' c')).run P w0=.ok () (setBlock w0 r (.map a' c')):=λa' c' w0 h0=>by
  obtain⟨e0,k0,hq⟩:=h0;simp[setObj,N0,hq,setBlock]
 have a6:∃e0 k0,w.heap[r]? = some (.map e0 k0):=⟨es,c,h1⟩
 have b0:∀(a:Array LK) (q:LK->Bool),a.findIdx? q=a.toList.findIdx? q:=λa q=>by cases a;simp
 have a4:∀o o',setBlock (setBlock w r o) r o'=setBlock w r o':=λo o'=>by simp[setBlock]
 cases hi:ke l k with
 |none=>
  rw[hi]at a1 a0;simp only[P5]at a1 a0;rw[a2 _ _ _ a6]at a1;simp only[Ll,hz,ka,a2 _ _ _ a6,Lr]at a0;have he:wm=setBlock w r (.map (es.push { key:=kv k,val:=vv x,born:=c }) (c+1)):=by rw[a1]at a3;cases a3;rfl
  refine⟨_,wm,z,c,a0,?_,hm,hu,gg _ h.tag a7⟩;have a5:(setBlock w r (.map (es.push { key:=kv k,val:=z,born:=c }) (c+1))).heap[r]? = some (.map (es.push { key:=kv k,val:=z,born:=c }) (c+1)):=fH h1;have a8:(es.push { key:=kv k,val:=z,born:=c }).findIdx? (λe=>(e.born:Int)==(c:Int))=some es.size:=by
   have b5:((es.push { key:=kv k,val:=z,born:=c }).toList.map (·.born)).Nodup:=by
    simp only[Array.toList_push,M4,Lq,MG];refine N9.2 ⟨a9.1,by simp,λa ha b hb=>?_⟩;obtain⟨e,he,rfl⟩:=M0.1 ha;have:=a9.2 e he;simp at hb;omega
   have:=om (j:=es.size) (e:={ key:=kv k,val:=z,born:=c }) b5 (by simp);rw[b0,<-this]
  simp only[MM,getObj,N0,Ll,a5,ka,asInt,asIntOf,Lr,a8];rw[yp,he];have:=a2 (es.push { key:=kv k,val:=vv x,born:=c }) (c+1) (setBlock w r (.map (es.push { key:=kv k,val:=z,born:=c }) (c+1))) ⟨_,_,a5⟩;rw[a4]at this;exact this
 |some j=>
  obtain⟨y,hy⟩:=jE hi;have hj:es.toList[j]?.map (λe=>(e.key,e.val))=some (kv k,vv y):=by
   have:=congrArg (λl=>l[j]?) h2;simpa[hy]using this
  cases he:es.toList[j]? with
  |none=>rw[he]at hj;simp at hj
  |some e'=>
   rw[he]at hj;simp at hj;have b1:es[j]? = some e':=by simpa using he
   have b2:(MH (kv k) (kv k))=pure (kv k):=by simp[MH,hK.same k]
   rw[hi]at a1 a0;simp only[P4,he,Nj,b1,hj.1,Option.getD_some,b2,Ll,Lr,ka,a2 _ _ _ a6]at a1 a0;have hw:wm=setBlock w r (.map (es.modify j λe=>{ e with key:=kv k,val:=vv x }) c):=by rw[a1]at a3;cases a3;rfl
   refine⟨_,wm,e'.val,e'.born,a0,?_,hm,hu,gg _ h.tag a7⟩;have a5:(setBlock w r (.map (es.modify j λe=>{ e with key:=kv k }) c)).heap[r]? = some (.map (es.modify j λe=>{ e with key:=kv k }) c):=fH h1;have b3:((es.modify j λe=>{ e with key:=kv k }).toList.map (·.born))=es.toList.map (·.born):=by
    simp only[Array.toList_modify];apply List.ext_getElem?;intro m;simp only[List.getElem?_map,List.getElem?_modify]
    split
    ·cases es.toList[m]?<;>simp
    cases es.toList[m]?<;>simp
   have a8:(es.modify j λe=>{ e with key:=kv k }).findIdx? (λe=>(e.born:Int)==(e'.born:Int))=some j:=by
    have:=om (es:=(es.modify j λe=>{ e with key:=kv k }).toList) (j:=j) (e:={ e' with key:=kv k }) (by rw[b3];exact a9.1) (by
     have:(es.modify j λe=>{ e with key:=kv k })[j]? = some { e' with key:=kv k }:=by
      rw[Mv,ap rfl,b1];rfl
     rw[Array.getElem?_toList];exact this)
    rw[b0,<-this]
   simp only[MM,getObj,N0,Ll,a5,ka,asInt,asIntOf,Lr,a8];rw[vw es j _ _ (λe=>{ e with key:=kv k,val:=vv x }) (λ_=>rfl),hw];have:=a2 (es.modify j λe=>{ e with key:=kv k,val:=vv x }) c (setBlock w r (.map (es.modify j λe=>{ e with key:=kv k }) c)) ⟨_,_,a5⟩;rw[a4]at this;exact this
variable{P:Mq}{N:Nat}{ops:Array Nl}{Q:PL→Qd→Lj→Prop}{rest:List Nl}{st:St}{w:Lj}
variable{t t' t2:Lu}{p p' p2:String}{e e' e2:Array PM}{d d':Nat}{x y z:MY}
end
def L8[DecidableEq κ](P:Mq)(kv:κ->ln)(vv:ν->ln)(T:Lu)(O:Nat->Nat)(w w1:Lj)(i r:Nat)(l:List (κ×ν))(k:κ)(u:ν)(b:Int):Prop:=
 ∃w',(MM T (.map (some r)) (nI b) (vv u)).run P w1=.ok () w'/\MS kv vv O w' i r (dc l k u)/\MC (λj=>j=i) O w O w'
section
variable{κ ν:Type}[DecidableEq κ]{kv:κ→ln}{vv:ν→ln}
variable{P:Mq}{N:Nat}{ops:Array Nl}{Q:PL→Qd→Lj→Prop}{rest:List Nl}{st:St}{w:Lj}
variable{t:Lu}{p:String}{e:Array PM}{d:Nat}{x y z:MY}
def oz{r:Nat}{l:List (κ×ν)}(hm:MS kv vv O w i r l)(hT:P.underlying T=some (.map K E))(hK:Qi P K kv)(a0:i≠0){zv:ln}(hz:(P2 E).run P w=.ok zv w) 
  (k:κ) (u:ν) {kx:ln} (hx:ev st x=some (.map (some r))) (hy:ev st y=some kx) (hk:kx=kv k) (hd:Nf d N=true)
  (h:∀w1 c b,L8 P kv vv T O w w1 i r l k u b->MC (λj=>j=i) O w O w1->WL P N ops Q rest ((d,.tuple #[c,nI b])::st) w1):WL P N ops Q (⟨some d,.mapEntry T x y,t,p,e,none⟩::rest) st w:=by
 subst hk;obtain⟨w1,w',v,b,h1,h2,h3,h4,h5⟩:=Bb hT hK hm a0 hz k u;exact Pe hd (λa ha=>by simp only[execOp,ha.ev hx,ha.ev hy,Ll,h1,ka,Lr]) (h w1 v b ⟨w',h2,h3,h4⟩ h5)
def kH{r:Nat}{l:List (κ×ν)}{w0:Lj}{k:κ}{u:ν}{b:Int}(hE:L8 P kv vv T O w0 w i r l k u b){ux:ln}(hx:ev st x=some (.map (some r)))(hy:ev st y=some (nI b))(hz:ev st z=some ux)(hu:ux=vv u) 
  (h:∀w',MS kv vv O w' i r (dc l k u)->MC (λj=>j=i) O w0 O w'->WL P N ops Q rest st w'):WL P N ops Q (⟨none,.entryStore T x y z,t,p,e,none⟩::rest) st w:=by
 subst hu;obtain⟨w',h2,h3,h4⟩:=hE;exact jG (λa ha=>by simp only[execOp,ha.ev hx,ha.ev hy,ha.ev hz,Ll,h2,ka,Lr]) (h w' h3 h4)
end
def tU{α:Type}{enc:α->List ln}{sz:Nat}:∀(l:List α),(∀x∈l,(enc x).length=sz)->∀(n:Nat) (hn:n<l.length) (j:Nat),j<sz->∀(x':α) (u:ln),enc x'=(enc l[n]).set j u->(l.flatMap enc).set (n*sz+j) u=(l.set n x').flatMap enc
 |a::l,hz,0,_,j,hj,x',u,hx=>by
  have ha:=hz a (by simp);simp only[Mt,List.set_cons_zero,NN,Nb];rw[List.set_append_left _ _ zo,hx];rfl
 |a::l,hz,n+1,hn,j,hj,x',u,hx=>by
  have ha:=hz a (by simp);simp only[Mt,P6];rw[List.set_append_right _ _ (by rw[ha,NY];omega),show(n+1)*sz+j-(enc a).length=n*sz+j from by rw[ha,NY];omega];rw[tU l (λy hy=>hz y (by simp[hy])) n (by simpa using hn) j hj x' u (by simpa using hx)]
def RowT.putJ[Inhabited α]{l:List α}(h:Mw enc E sz O w i v l)(hn:n<l.length)(hj:j<sz)(x':α)(u:ln)(hx:enc x'=(enc (nth l n)).set j u):
  ∃g c,(adr v sz n).add j=⟨g,n*sz+j,none⟩/\w.cell? ⟨g,n*sz+j,none⟩=some c/\w.frozen? ⟨g,n*sz+j,none⟩=false/\Mw enc E sz O (w.setCell ⟨g,n*sz+j,none⟩ u) i v (l.set n x')/\O g=i:=by
 rw[aB hn]at hx;have a2:=h.2 l[n] (List.getElem_mem hn);have a5:(enc x').length=sz:=by rw[hx,Ls,a2]
 have hs:=h.sl;have a3:∃c,(enc l[n])[j]? = some c:=⟨_,NG zo⟩
 obtain⟨c,a3⟩:=a3;have a0:=hs.cells n hn j c a3;obtain⟨⟨⟨hl,hr⟩,a1⟩,hz⟩:=h
 rcases hr with⟨rfl,h0⟩|⟨g,a4,a',rfl,a9,hg,a6,a8,a7,ht⟩
 ·omega
 have ha:(adr (.slice (some ⟨g,0,none⟩) l.length a4) sz n).add j=⟨g,n*sz+j,none⟩:=by simp only[adr,Nx];split<;>simp_all
 rw[ha]at a0;refine⟨g,c,ha,a0,by simp[PC,hg],⟨⟨⟨?_,.inr ⟨g,a4,a'.setIfInBounds (n*sz+j) u,by simp,a9,?_,by simpa using a6,a8,by simpa using a7,?_⟩⟩,by simpa using a1⟩,?_⟩,a1 g rfl⟩
 ·rw[<-tU l hz n hn j hj x' u hx];simp[hl]
 ·simp only[PB,Mv,ap];rw[hg];simp
 ·simp only[Ls,Array.toList_setIfInBounds];rw[List.take_set,ht,tU l hz n hn j hj x' u hx]
 intro y hy
 rcases List.mem_or_eq_of_mem_set hy with hy|rfl
 ·exact hz y hy
 exact a5
def qw{ops:Array Nl}{st:St}{p:String}{e:Array PM}{x:MY} 
    [Inhabited α]       {l:List α} (hr:Mw enc E sz O w i v l) (n:Nat) (hn:n<l.length) (j:Nat) (hj:j<sz) (x':α) (hT:(Qu T).run P w=.ok 1 w) {u:ln} (h1:u.oneCell'=true) (a4:i≠0)
  {q:Q6} (hx:ev st x=some (.pointer (some q))) (hq:q=(adr v sz n).add j) (hy:ev st y=some u) (a2:enc x'=(enc (nth l n)).set j u)
  (h:∀w',Mw enc E sz O w' i v (l.set n x')->MC (λk=>k=i) O w O w'->WL P N ops Q a0 st w'):WL P N ops Q (⟨none,.store T x y,t,p,e,none⟩::a0) st w:=by
 obtain⟨g,c,ha,hc,hf,a3,ht⟩:=hr.putJ hn hj x' u a2;rw[ha]at hq;subst hq;refine jG (w':=w.setCell ⟨g,n*sz+j,none⟩ u) (λa a1=>?_) (h _ a3 ⟨rfl,rfl,rfl,by simp[PB],λk _ hk=>PY _ _ _ _ (λe=>hk (by rw[e];exact ht)),λ_ _=>rfl,λ_ h=>.inl h,λh=>a4 h.symm⟩);simp only[execOp,a1.ev hx,a1.ev hy]
 cases u<;>simp[LL]at h1<;>simp[Instr.storeAt,Instr.sureAddr,storeVar,hT,Value.cells,storeCells,store,N0,hc,hf,Nx]
def Fits.fresh{a:Qd}{st:St}(hn:(cQ st d).isNone=true)(h:Qx N a ((d,v)::st)):Qx N a st:=by
 refine⟨h.size,h.defers,λt u hu=>h.get t u ?_⟩;simp only[cQ]
 cases hb:Nu d t with
 |true=>have:=MW hb;subst this;rw[hu]at hn;cases hn
 |false=>exact hu
def Fits.swap{a:Qd}{d':Nat}{v':ln}{st:St}(a0:Nu d d'=false)(h:Qx N a ((d,v)::(d',v')::st)):Qx N a ((d',v')::(d,v)::st):=by
 refine⟨h.size,h.defers,λt u hu=>h.get t u ?_⟩;simp only[cQ]at hu ⊢
 cases h1:Nu d t with
 |true=>
  have:=MW h1;subst this;have h2:Nu d' d=false:=by
   cases h3:Nu d' d with
   |false=>rfl
   |true=>have:=MW h3;subst this;rw[a0]at h1;cases h1
  rw[h1,h2]at hu;exact hu
 |false=>
  rw[h1]at hu;exact hu
def bU{ops:Array Nl}{S:Lj->Prop}{a1:Nat}{a0:Array Bool}{st:St} 
  {T1:Lu} {a2:Nat}   {x:MY} {t':Lu} {p p':String} {e e':Array PM} {d':Nat} {xv:ln}
  (i j:Nat) (he:Qk P T E sz a2) (u:α) (hi:ops[i]? = some ⟨some d,.load T1 x,t,p,e,none⟩) (hj:ops[j]? = some ⟨some d',.buildSlice T 1 #[(0,y)],t',p',e',none⟩)
  (hr:NC .any ops a0=[i,j]) (a':NC .any ops (a0.setIfInBounds i true)=[j]) (a9:NC .any ops (a0.setIfInBounds j true)=[i])
  (a4:(a0.setIfInBounds j true).setIfInBounds i true=(a0.setIfInBounds i true).setIfInBounds j true)
  (hv:∀w',Pn w w'->RV P N (.load T1 x) t st w' v) (hS:∀w',Pn w w'->S w')
  (hy:ev st y=some xv) (a5:xv.cells.toList=enc u) (a6:(enc u).length=sz) (hs:sz<=16777216) (hd:Nf d N=true) (a7:Nf d' N=true) (b0:Nu d d'=false) (hf:(cQ st d').isNone=true) (a8:ev ((d,v)::st) y=some xv)
  (h:∀sv w',Sl enc sz w' sv [u]->Pn w w'->WH P N ops S Q a1 ((a0.setIfInBounds i true).setIfInBounds j true) ((d',sv)::(d,v)::st) w'):WH P N ops S Q (a1+2) a0 st w:=by
 refine WH.two i j hr hi hj ?_ ?_
 ·refine oy (hv w (M7 w)) hd (PO (ae (hS w (M7 w)) (MN j a' hj ?_)));refine cA he u a8 a5 a6 hs a7 λsv w' a3 hE=>PO (ae (hS w' hE) (h sv w' a3 hE))
 refine cA he u hy a5 a6 hs a7 λsv w' a3 hE=>PO (ae (hS w' hE) (MN i a9 hi ?_))
 refine oy (λa ha=>hv w' hE a (ha.fresh hf)) hd (PO (ae (hS w' hE) ?_));rw[a4];exact λa ha=>h sv w' a3 hE a (ha.swap b0)
def aM{st:St}{x:MY}{m:Nat}(hs:Shape v m)(hu:P.underlying T=some (.slice E))(hx:ev st x=some v):RV P N (.call ⟨.builtin .len,#[x],#[T]⟩) t st w (nI (m:Int)):=
 λa ha a0 p e g=>by
  obtain⟨ad,c,hv,_⟩:=hs;simp only[execOp,resolve,MO,Lq,MG,ha.ev hx];subst hv;simp[invoke,Go.builtin,Qy,run_underlying hu,goInt]
def pC{ty:Lu}{a0:Nat}(he:Qk P T E sz a0){xs:List ln}(a1:RowO O w i E sz v n xs)(a:Option Q6)(c:Nat):
  (Ni #[T,T] ty #[v,.slice a 0 c]).run P w=.ok v w:=by
 obtain⟨a4,z,hi,hz,a6,a9,a5⟩:=he.parts;have ht:=he.ht
 rcases a1.row.2 with⟨rfl,rfl⟩|⟨g,b0,a',rfl,hbg,hg,a3,a8,a7,a2⟩
 ·cases a<;>simp[Ni,run_underlying ht,Qu,typeInfo,hi,Po,NQ,loadCells,loadCellsFrom]
 cases a<;>simp[Ni,run_underlying ht,Qu,typeInfo,hi,Po,NQ,loadCells,loadCellsFrom,a3,storeCells]
def dU{ops:Array Nl}{a1:List Nl}{st:St}{p:String}{e:Array PM}{x:MY} 
   {a0:Nat} (he:Qk P T E sz a0)      {sv:ln} {l us:List α} (hr:Mw enc E sz O w i v l) (r:NI B O w) (hs:Sl enc sz w sv us)
  (hx:ev st x=some v) (hy:ev st y=some sv) (a4:∀u∈us,(enc u).length=sz) (a5:∀u∈us,∀c∈enc u,c.oneCell'=true)
  (hb:(l.length+us.length)*a0<=140737488355328) (a6:l.length+us.length<=9223372036854775807) (a3:i≠0) (hd:Nf d N=true)
  (h:∀v' w' O',Mw enc E sz O' w' i v' (l++us)->MC (λk=>k=i) O w O' w'->NI B O' w'->WL P N ops Q a1 ((d,v')::st) w') :
  WL P N ops Q (⟨some d,.call ⟨.builtin .append,#[x,y],#[T,T]⟩,t,p,e,none⟩::a1) st w:=by
 by_cases a2:us.length=0
 ·obtain rfl:=Lo a2;obtain⟨a,c,rfl,_⟩:=hs.shape;refine Pe (v:=v) (w':=w) hd (λac ha=>?_) (h v w O (by rw[Lz];exact hr) (MB (λe=>a3 e.symm) _ _) r);simp only[execOp,resolve,invoke,builtin,Ll,Lr,ka,MO,Lq,MG,ha.ev hx,ha.ev hy,M5,pC he hr.1]
 exact aC he hr r hs a2 hx hy a4 a5 hb a6 a3 hd h
def MapO.fgt{kv:κ->ln}{vv:ν->ln}{O2:Nat->Nat}{i' r:Nat}{l:List (κ×ν)}(h:MS kv vv O2 w i r l)(ho:O r=i'):MS kv vv O w i' r l:=⟨h.blk,ho,h.born⟩
def bx(kv:κ->ln)(vv:ν->ln){ops:Array Nl}{st:St}{p:String}{e:Array PM} 
    (r:NI B O w) (i:Nat) (a1:i≠0) (hd:Nf d N=true)
  (h:∀q w' O',MS kv vv O' w' i q []->MC (λk=>k=i) O w O' w'->NI B O' w'->WL P N ops Q a0 ((d,.map (some q))::st) w'):WL P N ops Q (⟨some d,.makeMap T none,t,p,e,none⟩::a0) st w:=by
 have hU:=Q9 (S:=λk=>k=i) (λe=>a1 e.symm) r (.map #[] 0) i;exact WL.makeMap hd (h w.heap.size _ (og O w.heap.size i) (MapO.new O w i) hU (r.U hU))
def AX{α:Type}{val:α->ln}{O:Nat->Nat}{i g a1:Nat}{E:Lu}(z:α)(a0:i≠0):∀(k n:Nat) (l:List α) (w:Lj) (m:Nat),Mw (λx=>[val x]) E 1 O w i (.slice (some ⟨g,0,none⟩) m a1) l->n+k=l.length->
  Mw (λx=>[val x]) E 1 O (w.setCells g n (Ly k (val z))) i (.slice (some ⟨g,0,none⟩) m a1) (l.take n++Ly k z)/\MC (λj=>j=i) O w O (w.setCells g n (Ly k (val z)))
 |0,n,l,w,m,h,hn=>by
  simp only[List.replicate_zero,Lz,Pu];rw[NK zo];exact⟨h,MB (λe=>a0 e.symm) _ _⟩
 |k+1,n,l,w,m,h,hn=>by
  have ha:adr (.slice (some ⟨g,0,none⟩) m a1) 1 n=⟨g,n,none⟩:=by simp[adr]
  obtain⟨hc,hf,hr,ht⟩:=h.put (n:=n) zo z;rw[ha]at hr ht;simp only[List.replicate_succ,Pu];obtain⟨h1,h2⟩:=AX z a0 k (n+1) (l.set n z) (w.setCell ⟨g,n,none⟩ (val z)) m hr (by simp;omega);have e:(l.set n z).take (n+1)++Ly k z=l.take n++z::Ly k z:=by
   have hl:n<(l.set n z).length:=by simp;omega
   rw[List.take_succ_eq_append_getElem hl,List.getElem_set_self,List.take_set_of_le (LN n)];simp
  rw[e]at h1;have u1:MC (λj=>j=i) O w O (w.setCell ⟨g,n,none⟩ (val z)):=PU (λe=>a0 e.symm) ht rfl;exact⟨h1,u1.J h2⟩
def RowT.short{l:List α}(h:Mw (λx=>[val x]) E 1 O w i v l)(hn:n<=l.length):Mw (λx=>[val x]) E 1 O w i (eO v 1 0 n) (l.take n):=by
 have a3:∀l:List α,(l.flatMap λx=>[val x])=l.map val:=λl=>by induction l<;>simp_all
 obtain⟨⟨⟨hl,hr⟩,a1⟩,hz⟩:=h
 rcases hr with⟨rfl,h0⟩|⟨g,a2,a8,rfl,a7,hg,a9,a6,a5,ht⟩
 ·obtain rfl:l=[]:=Lo h0;obtain rfl:n=0:=by simpa using hn
  exact N8 _ _ _ _ _ _
 have e:eO (.slice (some ⟨g,0,none⟩) l.length a2) 1 0 n=.slice (some ⟨g,0,none⟩) n a2:=by
  simp only[eO,NN,PV]
  split<;>simp[Nx]
 have a0:(l.take n).length=n:=by simp;omega
 rw[e];refine⟨⟨⟨?_,.inr ⟨g,a2,a8,by rw[a0],a7,hg,by rw[a0];omega,a6,a5,?_⟩⟩,λg' a4=>a1 g' a4⟩,λx _=>rfl⟩
 ·rw[a3];simp
 rw[a3]at ht ⊢;rw[a0];have:=congrArg (Pi n) ht;rw[Nv,<-NF]at this;simpa[PF hn]using this
def xG{ops:Array Nl}{a5:List Nl}{st:St}{p:String}{e:Array PM}{x:MY} 
        {l:List α} (hr:Mw (λx=>[val x]) E 1 O w i v l) (n:Nat) (hn:n<=l.length) (z:α) (a8:i≠0) (hT:P.underlying T=some (.slice E)) (hz:∀w,(P2 E).run P w=.ok (val z) w) (a9:(val z).cells = #[val z]) (h1:(val z).oneCell'=true)
  {sv:ln} (hx:ev st x=some sv) (b0:sv=eO v 1 n l.length)
  (h:∀w' l',Mw (λx=>[val x]) E 1 O w' i v l'->l'.take n=l.take n->l'.length=l.length->MC (λj=>j=i) O w O w'->WL P N ops Q a5 st w'):WL P N ops Q (⟨none,.call ⟨.builtin .clear,#[x],#[T]⟩,t,p,e,none⟩::a5) st w:=by
 subst b0;have a7:=hr;have a0:∃w' l',(Pd #[T] t #[eO v 1 n l.length]).run P w=.ok (.tuple #[]) w'/\Mw (λx=>[val x]) E 1 O w' i v l'/\l'.take n=l.take n/\l'.length=l.length/\MC (λj=>j=i) O w O w':=by
  by_cases he:n=l.length
  ·subst he;obtain⟨a,c,rfl,_⟩:=hr.sl.shape;refine⟨w,l,?_,hr,rfl,rfl,MB (λe=>a8 e.symm) _ _⟩;simp only[eO,MR];generalize (if c=l.length then a else a.map λx=>x.add (l.length*1))=q
   cases q<;>simp[Pd,run_underlying hT]
  obtain⟨⟨⟨hl,b1⟩,a'⟩,b3⟩:=hr
  rcases b1 with⟨rfl,h0⟩|⟨g,a6,b8,rfl,b7,hg,b4,b6,b5,ht⟩
  ·omega
  obtain⟨k,hk⟩:∃k,n+k=l.length:=⟨l.length-n,zo⟩
  obtain⟨c1,c2⟩:=AX z a8 k n l w l.length a7 hk;refine⟨_,_,?_,c1,?_,by simp;omega,c2⟩
  ·have es:eO (.slice (some ⟨g,0,none⟩) l.length a6) 1 n l.length=.slice (some ⟨g,n,none⟩) k (a6-n):=by
    simp only[eO];rw[am zo,show l.length-n=k from by omega];simp only[Nj,Nx,Q3]
    split
    ·rename_i h;simp[h]
    simp
   rw[es];refine Lib.run_clear_slice w T E t (val z) hT hz a9 h1 g n k (a6-n) zo (λj hj=>?_) (λj hj=>by simp[PC,hg]);have:=a7.sl.cells (n+j) zo 0 (val l[n+j]) rfl;rw[ar]at this;have ha:adr (.slice (some ⟨g,0,none⟩) l.length a6) 1 (n+j)=⟨g,n+j,none⟩:=by simp[adr]
   rw[ha]at this;rw[this];rfl
  rw[Nm (by simp;omega),Nv,Nat.min_self]
 obtain⟨w',l',a0,a1,a2,a3,a4⟩:=a0;refine Qw rfl λa ha=>?_
 unfold Qh;have b2:(execOp a.eval ⟨none,.call ⟨.builtin .clear,#[x],#[T]⟩,t,p,e,none⟩).run P w=.ok (.value (.tuple #[])) w':=by
  simp only[execOp,resolve,invoke,builtin,Ll,Lr,ka,MO,Lq,MG,ha.ev hx,a0]
 rw[b2];exact h w' l' a1 a2 a3 a4 _ ha
end
end Go.VL
namespace Go.Proofs.YtcfhbfflgnbacaaGreatDoor
structure Cell0(O:Nat->Nat)(w:Lj)(a:Q6)(v:ln):Prop where
 z:O a.block=0
 c:w.cell? a=some v
def Cell0.U{S:Nat->Prop}{a:Q6}(h:Cell0 O w a v)(u:MC S O w O' w'):Cell0 O' w' a v:=by
 have a1:=World.block_lt_of_cell? w a h.c;refine⟨MF λa0=>?_,jz (u.blk _ a1 (by rw[h.z];exact u.z)) h.c⟩
 rcases u.new _ a0 with h1|h1
 ·exact h1 h.z
 omega
def Cell0.ext{a:Q6}(h:Cell0 O w a v)(e:Pn w w'):Cell0 O w' a v:=⟨h.z,e.cell h.c⟩
def ID{T xb:Nat}{O1 O2:Nat->Nat}{w1 w2:Lj}{us:Array ln}(_:0<T)(hT:∀b,O b<T)(u1:MC (λq=>q=T) O w O1 w1)(u2:MC (λq=>q=T) O1 w1 O2 w2)(hx:BlkO O2 w2 T xb us E):
  Pn w w2/\∀j u,us.toList[j]? = some u->Cell0 O w2 (nA xb j) u:=by
 have hO:O xb=0:=MF λa0=>by
  have h1:=u1.tag xb a0;have h2:=u2.tag xb (by rw[h1];exact a0);have:=hT xb;have:=hx.tag;omega
 refine⟨aD (u1.J u2) λb e=>?_,λj u hu=>⟨?_,hx.V j u hu⟩⟩
 ·have:=hT b;omega
 show O (nA xb j).block=0;have:(nA xb j).block=xb:=by simp only[Nx];split<;>rfl
 rw[this];exact hO
abbrev tV(x:Lf):List ln:=[nI x.1,nI x.2.1,nI (x.2.2:Nat)]
abbrev K3:=ln×ln×Nat
abbrev KG(x:K3):List ln:=[x.1,x.2.1,nI (x.2.2:Nat)]
def L2:Qk MI 170 178 3 24:=⟨NU,by kernel_rfl,zd⟩
def Mm:Qk MI 171 175 3 56:=⟨M6,by kernel_rfl,zd⟩
def gE:Qk MI 22 3 1 8:=⟨MA,by kernel_rfl,zd⟩
def Ko:cC MI 173 #[(0,1),(1,1),(2,1),(3,1),(4,1)]:=⟨_,underlying173,λw=>by kernel_rfl⟩
def JU:cC MI 175 #[(0,1),(1,1),(2,1)]:=⟨_,underlying175,λw=>by kernel_rfl⟩
def I6:cC MI 178 #[(0,1),(1,1),(2,1)]:=⟨_,underlying178,λw=>by kernel_rfl⟩
structure Ks(O:Nat->Nat)(w:Lj)(i:Nat)(kv:ln)(g:Gr)(xs:List K3):Prop where
 row:Mw KG 175 3 O w (i+2) kv xs
 len:xs.length=g.ks.length
 fr:∀k,k<xs.length->Mw aL 3 1 O w (i+6+2*k) (nth xs k).1 (g.fr k)
 lv:∀k,k<xs.length->Mw aL 3 1 O w (i+7+2*k) (nth xs k).2.1 (g.lv k)
 en:∀k,k<xs.length->(nth xs k).2.2=g.en k
def Ks.U{S:Nat->Prop}{O O':Nat->Nat}{w w':Lj}{i:Nat}{kv:ln}{g:Gr}{xs:List K3}(h:Ks O w i kv g xs)(u:MC S O w O' w')(hS:∀q,i<=q->q<i+8+2*g.ks.length->¬S q):Ks O' w' i kv g xs:=
 have hl:=h.len
 ⟨h.row.U u zo (hS _ zo zo),h.len,λk hk=>(h.fr k hk).U u zo (hS _ zo zo),λk hk=>(h.lv k hk).U u zo (hS _ zo zo),h.en⟩
abbrev nfC(se:Bool)(lv kv nv tv:ln):Array ln:=#[.bool se,lv,kv,nv,tv]
structure NfO(O:Nat->Nat)(w:Lj)(i nb:Nat)(se:Bool)(g:Gr)(nv tv lv kv:ln)(xs:List K3):Prop where
 blk:BlkO O w i nb (nfC se lv kv nv tv) 173
 ls:Mw tV 178 3 O w (i+1) lv g.ls
 ks:Ks O w i kv g xs
def NfO.updT{S:Nat->Prop}{g:Gr}{nv tv lv kv:ln}{xs:List K3}(h:NfO O w i nb se g nv tv lv kv xs)(u:MC S O w O' w')(hi:i≠0)(hS:∀q,i<=q->q<i+8+2*g.ks.length->¬S q):NfO O' w' i nb se g nv tv lv kv xs:=
 ⟨h.blk.U u hi (hS _ (LN _) zo),h.ls.U u zo (hS _ zo zo),h.ks.U u hS⟩
def NfO.U{S:Nat->Prop}{g:Gr}{nv tv lv kv:ln}{xs:List K3}(h:NfO O w i nb se g nv tv lv kv xs)(u:MC S O w O' w')(hi:i≠0)(hS:∀q,i<=q->¬S q):NfO O' w' i nb se g nv tv lv kv xs:=h.updT u hi λq h _=>hS q h
def NfO.ext{g:Gr}{nv tv lv kv:ln}{xs:List K3}(h:NfO O w i nb se g nv tv lv kv xs)(e:Pn w w')(hi:i≠0):NfO O w' i nb se g nv tv lv kv xs:=
 h.U (aa (S:=λ_=>False) (λh=>h) O e) hi λ_ _ h=>h
def NfP(B:Nat)(O:Nat->Nat)(w w':Lj)(i nb:Nat)(se:Bool)(g:Gr)(nv tv:ln):Prop:=
 ∃O' lv kv xs,MC (λq=>i<=q) O w O' w'/\NI B O' w'/\NfO O' w' i nb se g nv tv lv kv xs
section
variable{O:Nat→Nat}{w:Lj}{i nb:Nat}{se:Bool}{g:Gr}{nv tv lv kv:ln}{xs:List K3}
def NfO.c0(h:NfO O w i nb se g nv tv lv kv xs):w.cell? (nA nb 0)=some (.bool se):=h.blk.cell 0 rfl
def NfO.c1(h:NfO O w i nb se g nv tv lv kv xs):w.cell? (nA nb 1)=some lv:=h.blk.cell 1 rfl
def NfO.c2(h:NfO O w i nb se g nv tv lv kv xs):w.cell? (nA nb 2)=some kv:=h.blk.cell 2 rfl
def NfO.c3(h:NfO O w i nb se g nv tv lv kv xs):w.cell? (nA nb 3)=some nv:=h.blk.cell 3 rfl
def NfO.c4(h:NfO O w i nb se g nv tv lv kv xs):w.cell? (nA nb 4)=some tv:=h.blk.cell 4 rfl
def Ks.f0(h:Ks O w i kv g xs)(hk:k<xs.length):w.cell? ((adr kv 3 k).add 0)=some (nth xs k).1:=h.row.sl.cell (j:=0) hk rfl
def Ks.f1(h:Ks O w i kv g xs)(hk:k<xs.length):w.cell? ((adr kv 3 k).add 1)=some (nth xs k).2.1:=h.row.sl.cell (j:=1) hk rfl
end
structure Bd(g:Gr)(M:Nat):Prop where
 ks:g.ks.length<=M
 ls:g.ls.length<=M
 fr:∀k,(g.fr k).length<=M
 lv:∀k,(g.lv k).length<=M
def Bd.mono{g:Gr}{M M':Nat}(h:Bd g M)(hm:M<=M'):Bd g M':=⟨by have:=h.ks;omega,by have:=h.ls;omega,λk=>by have:=h.fr k;omega,λk=>by have:=h.lv k;omega⟩
def Bd.knot{g:Gr}{M:Nat}(h:Bd g M):Bd g.knot (M+1):=⟨by rw[aE];have:=h.ks;omega,by have:=h.ls;show g.ls.length<=_;omega,λk=>by
 rw[nF];split
 ·have:=h.fr k;omega
 ·simp,λk=>by
 rw[nD];split
 ·have:=h.lv k;omega
 simp⟩
def Bd.free{g:Gr}{M:Nat}(h:Bd g M){a b:Nat}(ha:a<g.ks.length):Bd (g.free a b) (M+1):=⟨by rw[aS];have:=h.ks;omega,by have:=h.ls;show g.ls.length<=_;omega,λk=>by
 rw[cf ha];split
 ·have:=h.fr a;simp;omega
 ·have:=h.fr k;omega,λk=>by
 rw[nL ha];have:=h.lv k;omega⟩
def Bd.leaf{g:Gr}{M:Nat}(h:Bd g M){x c:Int}{a b:Nat}(ha:a<g.ks.length):Bd (g.leaf x c a b) (M+1):=⟨by rw[fp];have:=h.ks;omega,by have:=h.ls;rw[gA];simp;omega,λk=>by
 rw[nC ha];have:=h.fr k;omega,λk=>by
 rw[jl ha];split
 ·have:=h.lv a;simp;omega
 have:=h.lv k;omega⟩
def Bd.layO{g:Gr}{M:Nat}(h:Bd g M){k:Int}{i:Nat}(hi:i+1<g.ks.length):Bd (layO k g i) (M+2):=by
 unfold Go.Proofs.YtcfhbfflgnbacaaGreatDoor.layO;split<;>split
 ·exact h.mono zo
 ·exact(h.free zo).mono zo
 ·exact(h.free hi).mono zo
 exact(h.free zo).free (by rw[aS];exact hi)
def Bd.often{g:Gr}{M:Nat}(h:Bd g M)(ha:a<g.ks.length):Bd (bj g a b) (M+4):=by
 have h2:g.knot.knot.ks.length=g.ks.length+2:=by rw[aE,aE]
 unfold bj;exact(h.knot.knot.free zo).free (by rw[aS];omega)
mutual
def iD:∀(t:Nd) (a b:Nat) (g:Gr) (M:Nat),WF g->a<g.ks.length->b<g.ks.length->Bd g M->Bd (eS t a b g) (M+(9*nsz t-1))
 |.mk k c l,a,b,g,M,h,ha,hb,hM=>by
  unfold eS
  simp only[nsz]
  split
  ·exact(Dp l a b g M h ha hb hM).mono zo
  split
  ·exact(Dv l a b g M h ha hb hM).mono zo
  split
  ·have hl:=dr g a b
   have hwf:=ei h ha hb
   obtain⟨h1,h2⟩:=jq l g.ks.length (g.ks.length+1) (bj g a b) hwf zo zo
   have:=h2.len
   have h3:=Jq l g.ks.length (g.ks.length+1) (bj g a b) (M+4) hwf zo zo (hM.often ha)
   exact(h3.layO zo).mono zo
  split
  ·exact(hM.free ha).mono zo
  exact(hM.leaf ha).mono zo
def Dp:∀(l:List Nd) (a b:Nat) (g:Gr) (M:Nat),WF g->a<g.ks.length->b<g.ks.length->Bd g M->Bd (kS l a b g) (M+9*cM l)
 |[],_,_,g,M,_,_,_,hM=>hM.mono zo
 |t::r,a,b,g,M,h,ha,hb,hM=>by
  unfold kS
  simp only[cM]
  have hp:=da t
  split
  ·exact(iD t a b g M h ha hb hM).mono zo
  have hl:=aE g
  obtain⟨h1,h2⟩:=bV t a g.ks.length g.knot h.knot zo zo
  have:=h2.len
  exact(Dp r g.ks.length b _ _ h1 zo zo (iD t a g.ks.length g.knot (M+1) h.knot zo zo hM.knot)).mono zo
def Dv:∀(l:List Nd) (a b:Nat) (g:Gr) (M:Nat),WF g->a<g.ks.length->b<g.ks.length->Bd g M->Bd (kT l a b g) (M+9*cM l)
 |[],_,_,g,M,_,_,_,hM=>hM.mono zo
 |t::r,a,b,g,M,h,ha,hb,hM=>by
  unfold kT
  simp only[cM]
  have hp:=da t
  obtain⟨h1,h2⟩:=bV t a b g h ha hb
  have:=h2.len
  exact(Dv r a b _ _ h1 zo zo (iD t a b g M h ha hb hM)).mono zo
def Jq:∀(l:List Nd) (a b:Nat) (g:Gr) (M:Nat),WF g->a<g.ks.length->b<g.ks.length->Bd g M->Bd (js l a b g) (M+9*cM l)
 |[],_,_,g,M,_,_,_,hM=>hM.mono zo
 |t::_,a,b,g,M,h,ha,hb,hM=>by
  unfold js
  simp only[cM]
  exact(iD t a b g M h ha hb hM).mono zo
end
def ji{U:Nat}(h:MC (λq=>q=U) O w O' w')(hi:i≠0)(hU:i<=U):MC (λq=>i<=q) O w O' w':=h.mono (λq e=>by rw[e];exact hU) zo
def jW(B:Nat)(O:Nat->Nat)(w:Lj)(i nb:Nat)(se:Bool)(g:Gr)(nv tv lv kv:ln)(xs:List K3)(hi:i≠0)(hR:NI B O w)(h:NfO O w i nb se g nv tv lv kv xs)(hM:g.ks.length<=100000000):
  PZ MI 89 [nP nb] w λv w'=>v=nI ((g.ks.length:Nat):Int)/\NfP B O w w' i nb se g.knot nv tv:=by
 have a0:=h.ks.len;apply Mp func89 ntmps89 rfl rfl;refine zh ?_;apply zv (RV.ld h.c2 rfl);apply zv (aH JU (zeroValue175 _) rfl (by first|rfl|(simp only[PJ,PS];rfl)) rfl rfl);apply Pv Mm h.ks.row hR (((nS,nS,0):K3)) (λ_=>rfl) rfl rfl rfl (by simp[LL]) zo zo zo zd rfl rfl;intro a3 w1 O1 a4 a5 a';have a6:=h.blk.U a5 hi zo;refine zh ?_;apply aj (j:=2) a6 rfl (sizeOf171 _) a4.one rfl rfl rfl;have a8:=a6.set 2 a3;have a2:MC (λq=>q=i) O1 w1 O1 (w1.setCell ⟨nb,2,none⟩ a3):=PU (λe=>hi e.symm) a6.tag rfl;have a1:=a4.U a2 zo zo;have a9:=a'.U a2;generalize w1.setCell ⟨nb,2,none⟩ a3=w2 at *;have c2:w2.cell? (nA nb 2)=some a3:=a8.cell 2 rfl;have b0:=a1.sl;have b1:∀k,i+6<=k->¬(k=i+2):=λk hk=>zo
 have a7:(xs++[((nS,nS,0):K3)]).length=g.ks.length+1:=by simp[a0]
 refine zh ?_;refine af rfl rfl ⟨by rw[a7];congr 1;omega,O1,lv,a3,xs++[(nS,nS,0)],(ji a5 hi zo).J (ji a2 hi (LN _)),a9,⟨a8,(h.ls.U a5 zo zo).U a2 zo zo,⟨a1,by rw[a7,aE],λk hk=>?_,λk hk=>?_,λk hk=>?_⟩⟩⟩
 ·rw[az,nF,a0]
  by_cases e:k<g.ks.length
  ·rw[ap e,ap e];exact((h.ks.fr k zo).U a5 zo zo).U a2 zo zo
  rw[am e,am e,show k-g.ks.length=0 from by omega,ao];exact N8 _ _ _ _ _ _
 ·rw[az,nD,a0]
  by_cases e:k<g.ks.length
  ·rw[ap e,ap e];exact((h.ks.lv k zo).U a5 zo zo).U a2 zo zo
  rw[am e,am e,show k-g.ks.length=0 from by omega,ao];exact N8 _ _ _ _ _ _
 rw[az,qd,a0]
 by_cases e:k<g.ks.length
 ·rw[ap e,ap e];exact h.ks.en k zo
 rw[am e,am e,show k-g.ks.length=0 from by omega,ao]
def iE(B:Nat)(O:Nat->Nat)(w:Lj)(i nb:Nat)(se:Bool)(g:Gr)(nv tv lv kv:ln)(xs:List K3)(a b:Nat)(hi:i≠0)(hR:NI B O w)(h:NfO O w i nb se g nv tv lv kv xs)(ha:a<g.ks.length)(hM:(g.fr a).length<=100000000)(b8:g.ks.length<=100000000):
  PZ MI 90 [nP nb,nI (a:Nat),nI (b:Nat)] w λ_ w'=>NfP B O w w' i nb se (g.free a b) nv tv:=by
 have a8:=h.ks.len;have a2:a<xs.length:=zo;have hs:=h.ks.row.sl;have f0:=h.ks.f0 a2;apply Mp func90 ntmps90 rfl rfl;have a0:w.drew.cell? (nA nb 2)=some kv:=h.c2;have b6:w.drew.cell? ((adr kv 3 a).add 0)=some (nth xs a).1:=f0;apply aN (λW=>W.cell? (nA nb 2)=some kv) 19 rfl zk;apply zrm 0 rfl a0 rfl;apply zr 1 rfl a0 (λ_=>ak rfl);apply zrf 2 rfl a0 rfl;apply zt 3 rfl a0 (λw1 a7=>RV.ld a7 rfl);apply zrm 4 rfl a0 rfl;apply zrm 5 rfl a0 rfl;apply zr 6 rfl a0 (λ_=>ak rfl);apply zrf 7 rfl a0 rfl;apply zt 8 rfl a0 (λw1 a7=>RV.ld a7 rfl);apply zrm 9 rfl a0 rfl;apply zr 10 rfl a0 (λ_=>ai hs.sh M6 (MV _) rfl rfl a rfl a2);apply zrf 11 rfl a0 rfl;apply zrm 13 rfl a0 rfl;apply bU 12 14 gE (enc:=aL) b rfl rfl zk zk zk zk (λW hE=>Q0 (hE.cell b6) (PN _) rfl) (λW hE=>hE.cell a0) rfl rfl rfl zd rfl rfl rfl rfl rfl;intro sv w0 b1 b5;have b0:MC (λ_=>False) O w O w0:=aa (λh=>h) O ((M7 w).drew.J b5);have h0:=h.U b0 hi λ_ _ h=>h
 have b4:=hR.U b0;apply MN 15 zk rfl;apply aC gE (h0.ks.fr a a2) b4 b1 (by simp) rfl rfl (by simp) (by simp[LL]) (by simp;omega) (by simp;omega) zo rfl;intro fv w1 O1 a6 a4 b3;have h1:=h0.blk.U a4 hi zo;have a':=h0.ks.row.U a4 zo zo;have d1:w1.cell? (nA nb 2)=some kv:=h1.cell 2 rfl;refine zh ?_;apply ae d1;apply zr 16 rfl d1 (λ_=>ai hs.sh M6 (MV _) rfl rfl a rfl a2);apply zrf 17 rfl d1 rfl;apply MN 18 zk rfl;apply qw a' a a2 0 zd ((fv,(nth xs a).2.1,(nth xs a).2.2):K3) (Ps _) a6.one zo rfl rfl rfl rfl;intro w2 a9 a3;have h2:=h1.U a3 hi zo;have d2:w2.cell? (nA nb 2)=some kv:=h2.cell 2 rfl;refine zh ?_;apply ae d2;have b2:MC (λq=>i<=q) O w O1 w2:=((b0.mono (λ_ h=>h.elim) zo).J (ji a4 hi zo)).J (ji a3 hi zo);have a5:∀k,k<xs.length->k≠a->Mw aL 3 1 O1 w2 (i+6+2*k) (nth xs k).1 (g.fr k):=λk hk b7=>((h0.ks.fr k hk).U a4 zo zo).U a3 zo zo
 have a1:∀k,k<xs.length->Mw aL 3 1 O1 w2 (i+7+2*k) (nth xs k).2.1 (g.lv k):=λk hk=>((h0.ks.lv k hk).U a4 zo zo).U a3 zo zo
 apply Pw zk;refine aP rfl ⟨O1,lv,kv,xs.set a (fv,(nth xs a).2.1,(nth xs a).2.2),b2,b3.U a3,⟨h2,(h0.ls.U a4 zo zo).U a3 zo zo,⟨a9,by rw[Ls,aS];exact a8,λk hk=>?_,λk hk=>?_,λk hk=>?_⟩⟩⟩
 ·rw[Ls]at hk;rw[bm a2,cf ha]
  by_cases e:k=a
  ·subst e;rw[ap rfl,ap rfl];exact a6.U a3 zo zo
  rw[am e,am e];exact a5 k hk e
 ·rw[Ls]at hk;rw[bm a2,nL ha]
  by_cases e:k=a
  ·subst e;rw[ap rfl];exact a1 k hk
  rw[am e];exact a1 k hk
 rw[Ls]at hk;rw[bm a2,tT ha]
 by_cases e:k=a
 ·subst e;rw[ap rfl];exact h.ks.en k hk
 rw[am e];exact h.ks.en k hk
def gL:∀(l:List Nd) (i:Nat),aU l=true->i<l.length->dw (nth l i)=true
 |[],i,_,h=>absurd h (LD i)
 |t::r,i,hs,h=>by
  unfold aU at hs;simp only[ix]at hs
  cases i with
  |zero=>rw[ao];exact hs.1
  |succ i=>rw[aW];exact gL r i hs.2 (by simpa using h)
def Do{l:List Nd}{g:Gr}(h:q<l.length):kS (l.drop q) a b g=if q+1<l.length then kS (l.drop (q+1)) g.ks.length b (eS (nth l q) a g.ks.length g.knot)else eS (nth l q) a b g:=by
 rw[kX h,kS]
 by_cases e:q+1<l.length
 ·rw[ap e,am (by simp;omega)]
 rw[am e,ap (by simp;omega)]
def Du{l:List Nd}{g:Gr}(h:q<l.length):kT (l.drop q) a b g=kT (l.drop (q+1)) a b (eS (nth l q) a b g):=by
 rw[kX h];rfl
def GF{l:List Nd}{g:Gr}(h:l.length=1):js l a b g=eS (nth l 0) a b g:=by
 obtain⟨t,rfl⟩:=List.length_eq_one_iff.1 h;rw[ao];rfl
def L7(t:Nd):Prop:=∀(B:Nat) (O:Nat->Nat) (w:Lj) (i nb:Nat) (se:Bool) (g:Gr) (na ta lv kv:ln) (xs:List K3) (a b:Nat) (x:N3) (M:Nat),i≠0->NI B O w->NfO O w i nb se g na ta lv kv xs->WF g->a<g.ks.length->b<g.ks.length->Bd g M->M+9*nsz t<=100000000->dw t=true->Nt O w t x->
 PZ MI 91 [nP nb,nv x,nI (a:Nat),nI (b:Nat)] w λ_ w'=>NfP B O w w' i nb se (eS t a b g) na ta
def yy{k:Int}{l:List Nd}(a':k=6\/k=7\/k=8)(ih:L7 (nth l 0))(B:Nat)(O:Nat->Nat)(w:Lj)(i nb:Nat)(se:Bool)(g:Gr)(na ta lv kv:ln)(xs:List K3)(a b:Nat)(x:N3)(M:Nat)(hi:i≠0)(hR:NI B O w)(h:NfO O w i nb se g na ta lv kv xs)(hw:WF g)(ha:a<g.ks.length)(hb:b<g.ks.length)(hM:Bd g M)(e8:M+9*nsz (.mk k c l)<=100000000)(hs:dw (.mk k c l)=true)(hn:Nt O w (.mk k c l) x):
  PZ MI 126 [nP nb,nv x,nI (a:Nat),nI (b:Nat)] w λ_ w'=>NfP B O w w' i nb se (eS (.mk k c l) a b g) na ta:=by
 obtain⟨T,d9,hT⟩:=hR.bound;have g1:=hn.kind;obtain⟨ys,d4,a5,b4,a3⟩:=hn.kids;have hx:x=(k,c,x.2.2):=hn.ones;generalize x.2.2=kidv at *;subst hx;unfold dw at hs;simp only[ix]at hs;obtain⟨b9,d5⟩:=hs;rw[am zo,ap a']at b9;have b':l.length=1:=of_decide_eq_true b9;have g0:ys.length=1:=by rw[<-b4];exact b'
 have b5:eS (.mk k c l) a b g=layO k (eS (nth l 0) g.ks.length (g.ks.length+1) (bj g a b)) g.ks.length:=by
  rw[eS,am zo,am zo,ap a',GF b'];rfl
 have g4:=bK l 0 zo;simp only[nsz]at e8;rw[b5];apply Mp func126 ntmps126 rfl rfl;refine zh ?_;apply aI hR T zo rfl rfl;intro xb w1 O1 c8 b1 b6 b7;obtain⟨b8,c5⟩:=ID d9 hT b1 (MB zo _ _) c8;clear c8 b1 b6 b7;have h1:=h.ext b8 hi;have b6:=hR.ext b8;have k1:Cell0 O w1 (nA xb 0) (nI k):=c5 0 _ rfl;have v1:Cell0 O w1 (nA xb 2) kidv:=c5 2 _ rfl;have b1:MC (λq=>i<=q) O w O w1:=aa zo O b8;refine zh ?_;apply zc Qv (jW B O w1 i nb se g na ta _ _ _ hi b6 h1 (by have:=hM.ks;omega));rintro _ w2 ⟨rfl,O2,f7,f',f4,d2,e6,h2⟩;refine zh ?_;have e1:=aE g;apply zc Qv (jW B O2 w2 i nb se g.knot na ta _ _ _ hi e6 h2 (by have:=hM.ks;omega));rintro _ w3 ⟨rfl,O3,f6,f9,f3,d1,e5,h3⟩;rw[e1];have e2:=aE g.knot;refine zh ?_;apply zc Pa (iE B O3 w3 i nb se g.knot.knot na ta _ _ _ a g.ks.length hi e5 h3 zo (by have:=Bd.fr hM.knot.knot a;omega) (by have:=Bd.ks hM.knot.knot;omega));rintro _ w4 ⟨O4,_,_,_,d0,e4,h4⟩;have e3:=aS g.knot.knot a g.ks.length;refine zh ?_;apply zc Pa (iE B O4 w4 i nb se (g.knot.knot.free a g.ks.length) na ta _ _ _ (g.ks.length+1) b hi e4 h4 zo (by have:=Bd.fr (hM.knot.knot.free (a:=a) (b:=g.ks.length) zo) (g.ks.length+1);omega) (by have:=Bd.ks (hM.knot.knot.free (a:=a) (b:=g.ks.length) zo);omega));rintro _ w5 ⟨O5,_,_,_,c',e0,h5⟩;have a0:=(((b1.J d2).J d1).J d0).J c';have a7:=((d2.J d1).J d0).J c'
 have e9:NfO O5 w5 i nb se (bj g a b) na ta _ _ _:=h5;have b3:=ei hw ha hb;have g3:=dr g a b;have c6:=hM.often (b:=b) ha;have k5:=k1.U a7;have v5:=v1.U a7;have a1:=d4.U a5 a0;have a4:=(a3 0 zo).U a0;refine zh ?_;apply zv (RV.ld v5.c rfl);apply zv (Q2 a1 Qe (M1 _) rfl rfl 0 rfl zo);refine zvH (ah (us:=aY (nth ys 0)) (λj u hu=>a1.cell zo hu) (MJ _) (M1 _) rfl) ?_;apply zc Q4 (ih B O5 w5 i nb se (bj g a b) na ta _ _ _ g.ks.length (g.ks.length+1) (nth ys 0) (M+4) hi e0 e9 b3 zo zo c6 zo (gL l 0 d5 zo) a4);rintro _ w6 ⟨O6,f5,f8,e',c9,d3,h6⟩;obtain⟨g2,a2⟩:=bV (nth l 0) g.ks.length (g.ks.length+1) (bj g a b) b3 zo zo;have a6:=iD (nth l 0) g.ks.length (g.ks.length+1) (bj g a b) (M+4) b3 zo zo c6;have d7:=a2.len;generalize eS (nth l 0) g.ks.length (g.ks.length+1) (bj g a b)=g6 at *;have a9:=a0.J c9;have k6:=k5.U c9;refine zh ?_;refine zvH (RV.ld k6.c rfl) ?_
 by_cases h7:k=7
 ·subst h7;refine zFH rfl rfl ?_;refine zvH (RV.ld k6.c rfl) ?_;refine zTH rfl rfl ?_;apply zc Pa (iE B O6 w6 i nb se g6 na ta _ _ _ (g.ks.length+1) g.ks.length hi d3 h6 zo (by have:=Bd.fr a6 (g.ks.length+1);omega) (by have:=Bd.ks a6;omega));rintro _ w7 ⟨O7,_,_,_,b0,b2,h7⟩;refine zh ?_;refine aP rfl ⟨O7,_,_,_,a9.J b0,b2,h7⟩
 refine zTH rfl ((by simpa using h7)) ?_;apply zc Pa (iE B O6 w6 i nb se g6 na ta _ _ _ g.ks.length (g.ks.length+1) hi d3 h6 zo (by have:=Bd.fr a6 g.ks.length;omega) (by have:=Bd.ks a6;omega))
 rintro _ w7 ⟨O7,_,_,_,b0,b2,h7n⟩;have a8:=a9.J b0;have k7:=k6.U b0;refine zh ?_;refine zvH (RV.ld k7.c rfl) ?_
 by_cases h8:k=8
 ·subst h8;refine zFH rfl rfl ?_;refine aP rfl ⟨O7,_,_,_,a8,b2,h7n⟩
 apply bp rfl ((by simpa using h8));have d6:layO k g6 g.ks.length=(g6.free g.ks.length (g.ks.length+1)).free (g.ks.length+1) g.ks.length:=by unfold layO;rw[am h8,am h7]
 rw[d6];have c7:=a6.free (a:=g.ks.length) (b:=g.ks.length+1) zo;have e7:=aS g6 g.ks.length (g.ks.length+1);refine zh ?_;apply zc Pa (iE B O7 w7 i nb se (g6.free g.ks.length (g.ks.length+1)) na ta _ _ _ (g.ks.length+1) g.ks.length hi b2 h7n zo (by have:=Bd.fr c7 (g.ks.length+1);omega) (by have:=Bd.ks c7;omega));rintro _ w8 ⟨O8,_,_,_,d8,d',h8n⟩;refine zh ?_;refine aP rfl ⟨O8,_,_,_,a8.J d8,d',h8n⟩
def Gz{k:Int}{l:List Nd}(h4:k≠4)(h5:k≠5)(a0:¬(k=6\/k=7\/k=8))(h9:k≠9)(a b:Nat)(g:Gr):eS (.mk k c l) a b g=g.leaf k c a b:=by
 rw[eS,am h4,am h5,am a0,am h9]
def Dn:∀(n:Nat) (t:Nd),nsz t<=n->L7 t
 |0,t,ht=>by have:=da t;omega
 |n+1,.mk k c l,ht=>by
  intro B O w i nb se g na ta lv kv xs a b x M hi hR h hw ha hb hM l2 hs hn;have ih:=fun(t:Nd) (e:nsz t<=n)=>Dn n t e
  have j':=hs;have k6:=hn;obtain⟨T,l1,hT⟩:=hR.bound;obtain⟨ys,j0,f',i0,d'⟩:=hn.kids;have hx:x=(k,c,x.2.2):=hn.ones;generalize x.2.2=kidv at *;subst hx;unfold dw at hs;simp only[ix]at hs;obtain⟨g5,g'⟩:=hs;simp only[nsz]at l2 ht
  change l.length=ys.length at i0
  change ∀i,i<ys.length->Nt O w (nth l i) (nth ys i)at d'
  have m4:=du l;apply Mp func91 ntmps91 rfl rfl;refine zh ?_;apply aI hR T zo rfl rfl;intro xb w1 O1 j2 b8 e4 i';obtain⟨e',e8⟩:=ID l1 hT b8 (MB zo _ _) j2;clear j2 b8 e4 i';have h1:=h.ext e' hi;have e4:=hR.ext e';have k1:Cell0 O w1 (nA xb 0) (nI k):=e8 0 _ rfl;have j4:Cell0 O w1 (nA xb 1) (nI c):=e8 1 _ rfl;have v1:Cell0 O w1 (nA xb 2) kidv:=e8 2 _ rfl;have b8:MC (λq=>i<=q) O w O w1:=aa zo O e';have f4:=j0.ext e';have b7:=f'.U b8;have k5:Nt O w1 (.mk k c l) (k,c,kidv):=k6.ext e';have b6:=λq hq=>(d' q hq).ext e'
  refine zh ?_;refine zvH (RV.ld k1.c rfl) ?_
  by_cases h4:k=4
  ·subst h4;rw[ap rfl]at g5;have b4:eS (.mk 4 c l) a b g=kS l a b g:=by rw[eS,ap rfl]
   rw[b4];refine zTH rfl rfl ?_;refine zvH (RV.ld v1.c rfl) ?_;apply zlp (λz:Nat×Nat×(Nat->Nat)×World×Gr×ln×ln×List K3=>[(0,nP nb),(2,nI z.2.1),(3,nI b),(5,nP xb),(55,kidv),(56,nI ys.length),(57,nI z.1)]) (λz=>z.2.2.2.1) (λz=>z.1<=l.length/\MC (λq=>i<=q) O w1 z.2.2.1 z.2.2.2.1/\NI B z.2.2.1 z.2.2.2.1/\NfO z.2.2.1 z.2.2.2.1 i nb se z.2.2.2.2.1 na ta z.2.2.2.2.2.1 z.2.2.2.2.2.2.1 z.2.2.2.2.2.2.2/\WF z.2.2.2.2.1/\z.2.1<z.2.2.2.2.1.ks.length/\b<z.2.2.2.2.1.ks.length/\Bd z.2.2.2.2.1 (M+9*cM (l.take z.1))/\kS l a b g=(if z.1<l.length then kS (l.drop z.1) z.2.1 b z.2.2.2.2.1 else z.2.2.2.2.1)) (λz=>l.length-z.1) (0,a,O,w1,g,lv,kv,xs) ⟨Ln _,MB zo _ _,e4,h1,hw,ha,hb,by simpa[cM]using hM,by dsimp only;rw[ap (by cases l;simp at g5;simp),List.drop_zero]⟩;rintro⟨q,fr,O2,w2,g2,j6,j7,j5⟩ ⟨hq,b0,b1,h2,b2,d0,d2,c5,a7⟩;dsimp only at hq b0 b1 h2 b2 d0 d2 c5 a7 ⊢;have c6:=f4.U b7 b0;have v2:=v1.U b0;have k0:=bY l q;refine zh ?_;refine zC ?_ ?_
   ·intro a1;replace a1:q<l.length:=dT a1;rw[ap a1,Do a1]at a7;have a3:=(b6 q zo).U b0;have k2:=bK l q a1;have e1:=di l q a1;have h0:=bY l (q+1);have a5:=a3.one;obtain⟨T2,e3,i8⟩:=b1.bound;refine zh ?_;apply zv (ah (us:=aY (nth ys q)) (λj u hu=>c6.cell zo hu) (MJ _) (M1 _) rfl);apply au b1 T2 zo (Pp _) rfl;intro yb w3 O3 a8 a' g4 e6;refine zh ?_;apply zsb (us:=#[nI (nth ys q).1,nI (nth ys q).2.1,(nth ys q).2.2]) a8 (M1 _) (cH a5);have g3:MC (λj=>j=T2) O3 w3 O3 (w3.setRow yb #[nI (nth ys q).1,nI (nth ys q).2.1,(nth ys q).2.2]):=Pb zo a8.tag rfl;obtain⟨b9,g6⟩:=ID e3 i8 a' g3 (a8.setRow (us:=#[nI (nth ys q).1,nI (nth ys q).2.1,(nth ys q).2.2]));generalize w3.setRow yb #[nI (nth ys q).1,nI (nth ys q).2.1,(nth ys q).2.2]=w4 at *;clear a8 a' g4 e6 g3;have a9:MC (λq=>i<=q) O2 w2 O2 w4:=aa zo O2 b9;have h4n:=h2.ext b9 hi;have e9:=b1.ext b9;have v4:=v2.ext b9;have a6:=a3.ext b9;refine zh ?_;apply zv (RV.ld v4.c rfl);refine zvH (RV.len (by first|exact c6.ext b9) Qe rfl) ?_;refine zC ?_ ?_
    ·intro c8;replace c8:q+1<l.length:=dT c8;rw[ap c8]at a7;refine zh ?_;apply zc Qv (jW B O2 w4 i nb se g2 na ta _ _ _ hi e9 h4n (by have:=c5.ks;omega));rintro _ w5 ⟨rfl,O5,m0,m1,l9,i5,i9,h5⟩;have i6:=a9.J i5;have e5:=aE g2;refine zh ?_;refine zvH (ah (us:=aY (nth ys q)) (λj u hu=>((g6 j u hu).U i5).c) (MJ _) (M1 _) rfl) ?_;apply zc Q4 (ih (nth l q) zo B O5 w5 i nb se g2.knot na ta _ _ _ fr g2.ks.length (nth ys q) _ hi i9 h5 b2.knot zo zo c5.knot zo (gL l q g' a1) (a6.U i5));rintro _ w6 ⟨O6,d4,d5,d3,a0,a4,h6⟩;obtain⟨f5,a2⟩:=bV (nth l q) fr g2.ks.length g2.knot b2.knot zo zo;have d1:=iD (nth l q) fr g2.ks.length g2.knot _ b2.knot zo zo c5.knot;have f8:=a2.len;have m3:=da (nth l q);refine zh ?_;refine zxd (q+1,g2.ks.length,O6,w6,eS (nth l q) fr g2.ks.length g2.knot,d4,d5,d3) ⟨a1,(b0.J i6).J a0,a4,h6,f5,by dsimp only;omega,by dsimp only;omega,d1.mono (by dsimp only;omega),by dsimp only;rw[ap c8];exact a7⟩
    intro c';replace c':¬q+1<l.length:=by have:=of_decide_eq_false c';omega
    rw[am c']at a7;refine zh ?_;refine zvH (ah (us:=aY (nth ys q)) (λj u hu=>(g6 j u hu).c) (MJ _) (M1 _) rfl) ?_;apply zc Q4 (ih (nth l q) zo B O2 w4 i nb se g2 na ta _ _ _ fr b (nth ys q) _ hi e9 h4n b2 d0 d2 c5 zo (gL l q g' a1) a6);rintro _ w6 ⟨O6,d4,d5,d3,a0,a4,h6⟩;obtain⟨f5,a2⟩:=bV (nth l q) fr b g2 b2 d0 d2;have d1:=iD (nth l q) fr b g2 _ b2 d0 d2 c5;have f8:=a2.len;refine zh ?_;refine zxd (q+1,b,O6,w6,eS (nth l q) fr b g2,d4,d5,d3) ⟨a1,(b0.J a9).J a0,a4,h6,f5,by dsimp only;omega,by dsimp only;omega,d1.mono (by dsimp only;omega),by dsimp only;rw[am c'];exact a7⟩
   intro e7;replace e7:¬q<l.length:=dF e7;rw[am e7]at a7;rw[a7];refine zh ?_;refine aP rfl ⟨O2,_,_,_,b8.J b0,b1,h2⟩
  refine zFH rfl ((by simpa using h4)) ?_
  by_cases h5:k=5
  ·subst h5;have b4:eS (.mk 5 c l) a b g=kT l a b g:=by rw[eS,am h4,ap rfl]
   rw[b4];refine zTH rfl rfl ?_;refine zvH (RV.ld v1.c rfl) ?_;apply zlp (λz:Nat×(Nat->Nat)×World×Gr×ln×ln×List K3=>[(0,nP nb),(2,nI a),(3,nI b),(81,kidv),(82,nI ys.length),(83,nI z.1)]) (λz=>z.2.2.1) (λz=>z.1<=l.length/\MC (λq=>i<=q) O w1 z.2.1 z.2.2.1/\NI B z.2.1 z.2.2.1/\NfO z.2.1 z.2.2.1 i nb se z.2.2.2.1 na ta z.2.2.2.2.1 z.2.2.2.2.2.1 z.2.2.2.2.2.2/\WF z.2.2.2.1/\a<z.2.2.2.1.ks.length/\b<z.2.2.2.1.ks.length/\Bd z.2.2.2.1 (M+9*cM (l.take z.1))/\kT l a b g=kT (l.drop z.1) a b z.2.2.2.1) (λz=>l.length-z.1) (0,O,w1,g,lv,kv,xs) ⟨Ln _,MB zo _ _,e4,h1,hw,ha,hb,by simpa[cM]using hM,rfl⟩;rintro⟨q,O2,w2,g2,j6,j7,j5⟩ ⟨hq,b0,b1,h2,b2,g7,d2,c5,a7⟩;dsimp only at hq b0 b1 h2 b2 g7 d2 c5 a7 ⊢;have c6:=f4.U b7 b0;have k0:=bY l q;refine zh ?_;refine zC ?_ ?_
   ·intro a1;replace a1:q<l.length:=dT a1;rw[Du a1]at a7;have a3:=(b6 q zo).U b0;have k2:=bK l q a1;have e1:=di l q a1;have h0:=bY l (q+1);have a5:=a3.one;obtain⟨T2,e3,i8⟩:=b1.bound;refine zh ?_;apply zv (ah (us:=aY (nth ys q)) (λj u hu=>c6.cell zo hu) (MJ _) (M1 _) rfl);apply au b1 T2 zo (Pp _) rfl;intro yb w3 O3 a8 a' g4 e6;apply zsb (us:=#[nI (nth ys q).1,nI (nth ys q).2.1,(nth ys q).2.2]) a8 (M1 _) (cH a5);have g3:MC (λj=>j=T2) O3 w3 O3 (w3.setRow yb #[nI (nth ys q).1,nI (nth ys q).2.1,(nth ys q).2.2]):=Pb zo a8.tag rfl;obtain⟨b9,g6⟩:=ID e3 i8 a' g3 (a8.setRow (us:=#[nI (nth ys q).1,nI (nth ys q).2.1,(nth ys q).2.2]));generalize w3.setRow yb #[nI (nth ys q).1,nI (nth ys q).2.1,(nth ys q).2.2]=w4 at *;clear a8 a' g4 e6 g3;have a9:MC (λq=>i<=q) O2 w2 O2 w4:=aa zo O2 b9;have h4n:=h2.ext b9 hi;have e9:=b1.ext b9;have a6:=a3.ext b9;refine zh ?_;refine zvH (ah (us:=aY (nth ys q)) (λj u hu=>(g6 j u hu).c) (MJ _) (M1 _) rfl) ?_;apply zc Q4 (ih (nth l q) zo B O2 w4 i nb se g2 na ta _ _ _ a b (nth ys q) _ hi e9 h4n b2 g7 d2 c5 zo (gL l q g' a1) a6);rintro _ w6 ⟨O6,d4,d5,d3,a0,a4,h6⟩;obtain⟨f5,a2⟩:=bV (nth l q) a b g2 b2 g7 d2;have d1:=iD (nth l q) a b g2 _ b2 g7 d2 c5;have f8:=a2.len;refine zh ?_
    refine zxd (q+1,O6,w6,eS (nth l q) a b g2,d4,d5,d3) ⟨a1,(b0.J a9).J a0,a4,h6,f5,by dsimp only;omega,by dsimp only;omega,d1.mono (by dsimp only;omega),a7⟩
   intro e7;replace e7:¬q<l.length:=dF e7;rw[NM zo]at a7;rw[a7,kT];refine zh ?_;refine aP rfl ⟨O2,_,_,_,b8.J b0,b1,h2⟩
  refine zFH rfl ((by simpa using h5)) ?_
  by_cases b':k=6\/k=7\/k=8
  ·rw[am h4,ap b']at g5;have m6:l.length=1:=of_decide_eq_true g5;have m2:=bK l 0 zo;have a5:kidv.oneCell'=true:=j0.one;have g8:∀(w':Lj),Pn w1 w'->PZ MI 126 [nP nb,nv (k,c,kidv),nI (a:Nat),nI (b:Nat)] w' λ_ w''=>NfP B O w' w'' i nb se (eS (.mk k c l) a b g) na ta:=λw' hE=>yy b' (ih (nth l 0) zo) B O w' i nb se g na ta _ _ _ a b (k,c,kidv) M hi (e4.ext hE) (h1.ext hE hi) hw ha hb hM (by simp only[nsz];omega) j' (k5.ext hE)
   rcases b' with h6|h7|h8
   ·subst h6;refine zTH rfl rfl ?_;refine zTH rfl rfl ?_;refine zvH (ah (us:=aY (6,c,kidv)) (λj u hu=>(e8 j u hu).c) (MJ _) (M1 _) rfl) ?_;apply zc Qf (g8 w1 (M7 w1));rintro _ w6 ⟨O6,d4,d5,d3,a0,a4,h6n⟩;refine zh ?_;refine aP rfl ⟨O6,_,_,_,b8.J a0,a4,h6n⟩
   ·subst h7;refine zFH rfl rfl ?_;refine zTH rfl rfl ?_;refine zTH rfl rfl ?_;refine zvH (ah (us:=aY (7,c,kidv)) (λj u hu=>(e8 j u hu).c) (MJ _) (M1 _) rfl) ?_;apply zc Qf (g8 w1 (M7 w1));rintro _ w6 ⟨O6,d4,d5,d3,a0,a4,h6n⟩;refine zh ?_;refine aP rfl ⟨O6,_,_,_,b8.J a0,a4,h6n⟩
   subst h8;refine zFH rfl rfl ?_;refine zFH rfl rfl ?_;refine zTH rfl rfl ?_;refine zvH (ah (us:=aY (8,c,kidv)) (λj u hu=>(e8 j u hu).c) (MJ _) (M1 _) rfl) ?_;apply zc Qf (g8 w1 (M7 w1));rintro _ w6 ⟨O6,d4,d5,d3,a0,a4,h6n⟩;refine zh ?_;refine aP rfl ⟨O6,_,_,_,b8.J a0,a4,h6n⟩
  refine zFH rfl ((by simp;omega)) ?_;refine zFH rfl ((by simp;omega)) ?_
  refine zFH rfl ((by simp;omega)) ?_
  by_cases h9:k=9
  ·subst h9;have b4:eS (.mk 9 c l) a b g=g.free a b:=by rw[eS,am h4,am h5,am b',ap rfl]
   rw[b4];refine zTH rfl rfl ?_;apply zc Pa (iE B O w1 i nb se g na ta _ _ _ a b hi e4 h1 zo (by have:=Bd.fr hM a;omega) (by have:=Bd.ks hM;omega));rintro _ w6 ⟨O6,_,_,_,a0,a4,h6n⟩;refine zh ?_;refine aP rfl ⟨O6,_,_,_,b8.J a0,a4,h6n⟩
  apply bh rfl ((by simpa using h9));rw[Gz h4 h5 b' h9];have e0:a<xs.length:=by have:=h.ks.len;omega
  have k':=hM.ls;have k9:=hM.lv a;have j1:=h1.ks.row.sl.sh;have k8:w1.drew.cell? (nA nb 1)=some lv:=h1.c1;have s0:∀W,Pn w1.drew W->W.cell? (nA xb 0)=some (nI k)/\W.cell? (nA xb 1)=some (nI c):=λW hE=>⟨hE.cell k1.c,hE.cell j4.c⟩
  refine zh ?_;apply aN (λW=>W.cell? (nA xb 0)=some (nI k)/\W.cell? (nA xb 1)=some (nI c)) 16 rfl zk
  refine zin (s0 _ (M7 _)) λzS=>?_
  apply zrm 0 rfl zS rfl;apply zrm 1 rfl zS rfl
  apply zr 2 rfl zS (λ_=>ak rfl);apply zrf 3 rfl zS rfl
  apply zrf 5 rfl zS rfl;apply zt 6 rfl zS (λw1 c7=>RV.ld c7.1 rfl)
  apply zrf 7 rfl zS rfl;apply zt 8 rfl zS (λw1 c7=>RV.ld c7.2 rfl)
  apply zrm 9 rfl zS rfl;apply zr 10 rfl zS (λ_=>aH I6 (zeroValue178 _) rfl (by first|rfl|(simp only[PJ,PS];rfl)) rfl rfl)
  apply bU 4 11 L2 (enc:=tV) ((k,c,b):Lf) rfl rfl zk zk zk zk (λW hE=>Q0 (hE.cell k8) (isAgg170 _) rfl) s0 rfl rfl rfl zd rfl rfl rfl rfl rfl;intro sv w2 j9 l4;have g1:MC (λ_=>False) O w1 O w2:=aa (λh=>h) O ((M7 w1).drew.J l4);have h2:=h1.U g1 hi λ_ _ h=>h
  have b1:=e4.U g1;apply MN 12 zk rfl;apply aC L2 h2.ls b1 j9 (by simp) rfl rfl (by simp) (by simp[LL]) (by simp;omega) (by simp;omega) zo rfl;intro b3 w3 O3 d9 a' g4;have k3:=(k1.U g1).U a';have j3:=(j4.U g1).U a';have a8:=h2.blk.U a' hi zo;have b5:Ks O3 w3 i kv g xs:=⟨h2.ks.row.U a' zo zo,h2.ks.len,λq hq=>(h2.ks.fr q hq).U a' zo zo,λq hq=>(h2.ks.lv q hq).U a' zo zo,h2.ks.en⟩
  refine zh ?_;refine zaf ⟨k3.c,j3.c⟩ λzS=>?_
  apply zr 13 rfl zS (λ_=>ak rfl);apply zrf 14 rfl zS rfl
  apply MN 15 zk rfl;apply aj (j:=1) a8 rfl (sizeOf170 _) d9.one rfl rfl rfl
  have a9:MC (λq=>q=i) O3 w3 O3 (w3.setCell ⟨nb,1,none⟩ b3):=PU (λe=>hi e.symm) a8.tag rfl;have i4:BlkO O3 (w3.setCell ⟨nb,1,none⟩ b3) i nb (nfC se b3 kv na ta) 173:=a8.set 1 b3;have k4:=k3.U a9;have l6:=j3.U a9;have d8:=d9.U a9 zo zo;have f9:Ks O3 (w3.setCell ⟨nb,1,none⟩ b3) i kv g xs:=⟨b5.row.U a9 zo zo,b5.len,λq hq=>(b5.fr q hq).U a9 zo zo,λq hq=>(b5.lv q hq).U a9 zo zo,b5.en⟩
  have e9:=g4.U a9;have i7:MC (λq=>i<=q) O w1 O3 (w3.setCell ⟨nb,1,none⟩ b3):=((g1.mono (λ_ h=>h.elim) zo).J (ji a' hi zo)).J (ji a9 hi (LN _));refine zh ?_;apply ae ⟨k4.c,l6.c⟩;generalize w3.setCell ⟨nb,1,none⟩ b3=w4 at *;have l8:w4.drew.cell? (nA nb 1)=some b3:=i4.cell 1 rfl;have l7:w4.drew.cell? (nA nb 2)=some kv:=i4.cell 2 rfl;have l5:w4.drew.cell? ((adr kv 3 a).add 1)=some (nth xs a).2.1:=f9.f1 e0;have k7:(g.ls++[((k,c,b):Lf)]).length=g.ls.length+1:=by simp
  have s4:∀W,Pn w4.drew W->W.cell? (nA nb 1)=some b3/\W.cell? (nA nb 2)=some kv:=λW hE=>⟨hE.cell l8,hE.cell l7⟩
  apply Pw zk;refine zh ?_
  apply aN (λW=>W.cell? (nA nb 1)=some b3/\W.cell? (nA nb 2)=some kv) 23 rfl zk;refine zin (s4 _ (M7 _)) λzS=>?_
  apply zrm 0 rfl zS rfl;apply zr 1 rfl zS (λ_=>ak rfl)
  apply zrf 2 rfl zS rfl;apply zt 3 rfl zS (λw1 c7=>RV.ld c7.2 rfl)
  apply zrm 4 rfl zS rfl;apply zrm 5 rfl zS rfl
  apply zr 6 rfl zS (λ_=>ak rfl);apply zrf 7 rfl zS rfl
  apply zt 8 rfl zS (λw1 c7=>RV.ld c7.2 rfl);apply zrm 9 rfl zS rfl
  apply zr 10 rfl zS (λ_=>ai j1 M6 (MV _) rfl rfl a rfl e0);apply zrf 11 rfl zS rfl
  apply zrm 13 rfl zS rfl;apply zr 14 rfl zS (λ_=>ak rfl)
  apply zrf 15 rfl zS rfl;apply zt 16 rfl zS (λw1 c7=>RV.ld c7.1 rfl)
  apply zr 17 rfl zS (λ_=>aM d8.sl.sh NU rfl);rw[k7];apply bU 12 18 gE (enc:=aL) (g.ls.length+1) rfl rfl zk zk zk zk (λW hE=>Q0 (hE.cell l5) (PN _) rfl) s4 rfl rfl rfl zd rfl rfl rfl rfl rfl
  intro l' w5 g9 l3;have g0:MC (λ_=>False) O3 w4 O3 w5:=aa (λh=>h) O3 ((M7 w4).drew.J l3);have c9:=f9.U g0 λ_ _ _ h=>h
  have l0:=i4.U g0 hi λh=>h
  have f7:=d8.U g0 zo λh=>h
  have i9:=e9.U g0;apply MN 19 zk rfl;apply aC gE (c9.lv a e0) i9 g9 (by simp) rfl rfl (by simp) (by simp[LL]) (by simp;omega) (by simp;omega) zo rfl;intro av w6 O6 d7 a0 a4;have d1:=l0.U a0 hi zo;have i2:=c9.row.U a0 zo zo;have h':=f7.U a0 zo zo;refine zh ?_;refine zaf ⟨d1.cell 1 rfl,d1.cell 2 rfl⟩ λzS=>?_
  apply zr 20 rfl zS (λ_=>ai j1 M6 (MV _) rfl rfl a rfl e0);apply zrf 21 rfl zS rfl
  apply MN 22 zk rfl;apply qw i2 a e0 1 zd (((nth xs a).1,av,(nth xs a).2.2):K3) (Ps _) d7.one zo rfl rfl rfl rfl
  intro w7 i1 e2;have i3:=d1.U e2 hi zo;have h3:=h'.U e2 zo zo;refine zh ?_;apply ae ⟨i3.cell 1 rfl,i3.cell 2 rfl⟩;have d6:∀q,q<xs.length->Mw aL 3 1 O6 w7 (i+6+2*q) (nth xs q).1 (g.fr q):=λq hq=>((c9.fr q hq).U a0 zo zo).U e2 zo zo
  have f3:∀q,q<xs.length->q≠a->Mw aL 3 1 O6 w7 (i+7+2*q) (nth xs q).2.1 (g.lv q):=λq hq m5=>((c9.lv q hq).U a0 zo zo).U e2 zo zo
  have f6:=d7.U e2 zo zo;have j8:=h.ks.len;apply Pw zk;refine zh ?_;refine aP rfl ⟨O6,b3,kv,xs.set a ((nth xs a).1,av,(nth xs a).2.2),b8.J (i7.J (((g0.mono (λ_ h=>h.elim) zo).J (ji a0 hi zo)).J (ji e2 hi zo))),a4.U e2,⟨i3,h3,⟨i1,by rw[Ls,fp];exact j8,λq hq=>?_,λq hq=>?_,λq hq=>?_⟩⟩⟩
  ·rw[Ls]at hq;rw[bm e0,nC ha]
   by_cases e:q=a
   ·subst e;rw[ap rfl];exact d6 q hq
   rw[am e];exact d6 q hq
  ·rw[Ls]at hq;rw[bm e0,jl ha]
   by_cases e:q=a
   ·subst e;rw[ap rfl,ap rfl];exact f6
   rw[am e,am e];exact f3 q hq e
  rw[Ls]at hq;rw[bm e0,yJ ha]
  by_cases e:q=a
  ·subst e;rw[ap rfl];exact h.ks.en q hq
  rw[am e];exact h.ks.en q hq
structure NfR(w:Lj)(nb:Nat)(se:Bool)(g:Gr)(na ta lv kv:ln)(xs:List K3):Prop where
 c0:w.cell? (nA nb 0)=some (.bool se)
 c1:w.cell? (nA nb 1)=some lv
 c2:w.cell? (nA nb 2)=some kv
 c3:w.cell? (nA nb 3)=some na
 c4:w.cell? (nA nb 4)=some ta
 ls:Sl tV 3 w lv g.ls
 ks:Sl KG 3 w kv xs
 len:xs.length=g.ks.length
 fr:∀k,k<xs.length->Sl aL 1 w (nth xs k).1 (g.fr k)
 lv:∀k,k<xs.length->Sl aL 1 w (nth xs k).2.1 (g.lv k)
 en:∀k,k<xs.length->(nth xs k).2.2=g.en k
section
variable{O:Nat→Nat}{w w':Lj}{i nb:Nat}{se:Bool}{g:Gr}{na ta lv kv:ln}{xs:List K3}
def NfO.r(h:NfO O w i nb se g na ta lv kv xs):NfR w nb se g na ta lv kv xs:=⟨h.c0,h.c1,h.c2,h.c3,h.c4,h.ls.sl,h.ks.row.sl,h.ks.len,λk hk=>(h.ks.fr k hk).sl,λk hk=>(h.ks.lv k hk).sl,h.ks.en⟩
def NfR.ext(h:NfR w nb se g na ta lv kv xs)(e:Pn w w'):NfR w' nb se g na ta lv kv xs:=⟨e.cell h.c0,e.cell h.c1,e.cell h.c2,e.cell h.c3,e.cell h.c4,h.ls.ext e,h.ks.ext e,h.len,λk hk=>(h.fr k hk).ext e,λk hk=>(h.lv k hk).ext e,h.en⟩
def NfR.f0(h:NfR w nb se g na ta lv kv xs)(hk:k<xs.length):w.cell? ((adr kv 3 k).add 0)=some (nth xs k).1:=h.ks.cell (j:=0) hk rfl
def NfR.f1(h:NfR w nb se g na ta lv kv xs)(hk:k<xs.length):w.cell? ((adr kv 3 k).add 1)=some (nth xs k).2.1:=h.ks.cell (j:=1) hk rfl
def NfR.f2(h:NfR w nb se g na ta lv kv xs)(hk:k<xs.length):w.cell? ((adr kv 3 k).add 2)=some (nI ((g.en k:Nat):Int)):=by rw[<-h.en k hk];exact h.ks.cell (j:=2) hk rfl
end
def zu{f:List Nat}(h:j<f.length):eC l (f.drop j)=eC (if l.contains (nth f j)then l else l++[nth f j]) (f.drop (j+1)):=by
 rw[show f.drop j=nth f j::f.drop (j+1)from by rw[aB h];exact List.drop_eq_getElem_cons h,eC]
def CT(w:Lj)(nb:Nat)(se:Bool)(g:Gr)(na ta lv kv:ln)(xs:List K3)(k M:Nat)(h:NfR w nb se g na ta lv kv xs)(hw:WF g)(hk:k<g.ks.length)(hM:Bd g M)(d8:M<=100000000):
  PZ MI 127 [nP nb,nI (k:Nat)] w λv w'=>Sl aL 1 w' v (gi g k)/\Pn w w'/\(gi g k).length<=M/\(∀x∈gi g k,x<g.ks.length)/\∀(B:Nat) (O:Nat->Nat),NI B O w->Qj O w' v:=by
 have d5:=h.len;have d9:=hM.ks;apply Mp func127 ntmps127 rfl rfl;refine zh ?_;apply bd gE (enc:=aL) (aw w) 1 zd k rfl rfl rfl zd rfl;intro v0 w0 O0 a8 d2 d4;refine zh ?_;apply zlp (λz:Nat×List Nat×ln×(Nat->Nat)×World=>[(0,nP nb),(5,z.2.2.1),(6,nI z.1)]) (λz=>z.2.2.2.2) (λz=>z.1<=z.2.1.length/\Rc g k z.1 z.2.1/\Mw aL 3 1 z.2.2.2.1 z.2.2.2.2 1 z.2.2.1 z.2.1/\MC (λq=>q=1) (λ_=>0) w z.2.2.2.1 z.2.2.2.2/\NI w.heap.size z.2.2.2.1 z.2.2.2.2/\ja g (g.ks.length-z.1) z.1 z.2.1=gi g k) (λz=>g.ks.length-z.1) (0,[k],v0,O0,w0) ⟨Ln _,uk hk,a8,d2,d4,rfl⟩;rintro⟨i,l,b8,O1,w1⟩ ⟨hi,a5,a2,b3,b7,a'⟩;dsimp only at hi a5 a2 b3 b7 a' ⊢;have d6:=gk a5.nd a5.lt;have b':=a2.sl;refine zh ?_;refine zC ?_ ?_
 ·intro a6;replace a6:i<l.length:=dT a6;have hm:=a5.lt _ (aJ a6);have b2:nth l i<xs.length:=zo;have d7:=hM.fr (nth l i);obtain⟨d,hd⟩:∃d,g.ks.length-i=d+1:=⟨g.ks.length-i-1,zo⟩
  rw[hd,ja,ap a6]at a';have b1:=h.ext b3.ext;have c2:w1.drew.cell? (nA nb 2)=some kv:=b1.c2;have f0:w1.drew.cell? ((adr kv 3 (nth l i)).add 0)=some (nth xs (nth l i)).1:=b1.f0 b2;have m1:w1.drew.cell? (adr b8 1 i)=some (nI ((nth l i:Nat):Int)):=by have:=b'.cell (j:=0) a6 rfl;rwa[ar]at this
  have c':=(b1.fr _ b2).drew;refine zh ?_;apply WC.still zk zk;refine zh ?_;refine zwH (ai b1.ks.sh M6 (MV _) rfl rfl (nth l i) rfl b2) ?_;refine zwH (aM c'.sh MA rfl) ?_;apply WS.nil;refine zh ?_;apply zlp (λy:Nat×List Nat×ln×(Nat->Nat)×World=>[(0,nP nb),(5,y.2.2.1),(6,nI i),(27,(nth xs (nth l i)).1),(28,nI (g.fr (nth l i)).length),(29,nI y.1)]) (λy=>y.2.2.2.2) (λy=>y.1<=(g.fr (nth l i)).length/\y.2.1.length<=l.length+y.1/\Mw aL 3 1 y.2.2.2.1 y.2.2.2.2 1 y.2.2.1 y.2.1/\MC (λq=>q=1) (λ_=>0) w y.2.2.2.1 y.2.2.2.2/\NI w.heap.size y.2.2.2.1 y.2.2.2.2/\eC y.2.1 ((g.fr (nth l i)).drop y.1)=eC l (g.fr (nth l i))) (λy=>(g.fr (nth l i)).length-y.1) (0,l,b8,O1,w1.drew) ⟨Ln _,LN _,a2.drew,b3.drew,b7.drew,rfl⟩;rintro⟨j,l2,b5,O2,w2⟩ ⟨hj,c9,a0,b0,b4,a1⟩;dsimp only at hj c9 a0 b0 b4 a1 ⊢;have c7:=h.ext b0.ext;have c6:=a0.sl;have d0:=c7.fr _ b2;refine zh ?_;refine zC ?_ ?_
  ·intro a3;replace a3:j<(g.fr (nth l i)).length:=dT a3;rw[zu a3]at a1;have m2:w2.cell? (adr (nth xs (nth l i)).1 1 j)=some (nI ((nth (g.fr (nth l i)) j:Nat):Int)):=by have:=d0.cell (j:=0) a3 rfl;rwa[ar]at this
   refine zh ?_;apply zc call155 (tW l2 (nth (g.fr (nth l i)) j) b5 w2 c6)
   rintro v w9 ⟨rfl,b9⟩;rw[b9];clear b9 w9;refine zh ?_
   cases hc:l2.contains (nth (g.fr (nth l i)) j)with
   |true=>
    rw[hc,ap rfl]at a1;refine zFH rfl rfl ?_;refine zxd (j+1,l2,b5,O2,w2) ⟨a3,by dsimp only;omega,a0,b0,b4,a1⟩
   |false=>
    rw[hc,am zd]at a1;refine zTH rfl rfl ?_;apply Pv gE a0 b4 ((nth (g.fr (nth l i)) j)) (λ_=>rfl) rfl rfl rfl (by simp[LL]) zo zo zo zd rfl rfl;intro c5 w3 O3 a7 d1 d3;refine zh ?_;refine zxd (j+1,l2++[nth (g.fr (nth l i)) j],c5,O3,w3) ⟨a3,by dsimp only;simp;omega,a7,b0.J d1,d3,a1⟩
  intro a9;replace a9:¬j<(g.fr (nth l i)).length:=dF a9;rw[NM zo,eC]at a1;subst a1;have a4:=a5.step hw a6;have c8:=gk a4.nd a4.lt;obtain⟨s,hs⟩:=kj (g.fr (nth l i)) l;refine zh ?_;refine zxd (i+1,eC l (g.fr (nth l i)),b5,O2,w2) ⟨by dsimp only;rw[hs];simp;omega,a4,a0,b0,b4,by dsimp only;rw[show g.ks.length-(i+1)=d from by omega];exact a'⟩
 intro b6;replace b6:¬i<l.length:=dF b6;have e:ja g (g.ks.length-i) i l=l:=by
  cases hd:g.ks.length-i with
  |zero=>rfl
  |succ d=>rw[ja,am b6]
 rw[e]at a';rw[<-a'];refine zh ?_;refine af rfl rfl ⟨b',b3.ext,zo,a5.lt,λB O hR=>a2.free zd b7 hR⟩
abbrev kvI(n:Int):ln:=nI n
abbrev tvU(n:Nat):ln:=.int .u64 (n:Int)
def rX:Qi MI 3 kvI:=KeyL.int Pr
def FX{g:Gr}(he:∀k,g.en k<=n)(hb:b<2^n)(k:Nat):gw g b k<2^n:=by
 unfold gw
 split
 ·exact hb
 rename_i h;have:=he k;exact Ph hb (NW zd zo)
def lD{g:Gr}{n:Nat}(he:∀k,g.en k<=n):∀(l:List Nat) (b:Nat),b<2^n->l.foldl (gw g) b<2^n
 |[],_,hb=>hb
 |k::l,_,hb=>lD he l _ (FX he hb k)
def Az(B:Nat)(O:Nat->Nat)(w:Lj)(i nb:Nat)(se:Bool)(g:Gr)(nr tr:Nat)(lv kv:ln)(xs:List K3)(l1:List (Int×ln))(l2:List (Int×Nat))(p:Int)(k M:Nat)(hi:2<i)(hR:NI B O w)(h:NfO O w i nb se g (.map (some nr)) (.map (some tr)) lv kv xs)(e7:MS kvI id O w 1 nr l1)(e6:MS kvI tvU O w 2 tr l2) 
  (hw:WF g) (hk:k<g.ks.length) (hM:Bd g M) (h5:M<=1000000) (he:∀q,g.en q<=40) :
  PZ MI 92 [nP nb,nI p,nI (k:Nat)] w λ_ w'=>∃v,MC (λq=>q=1\/q=2) O w O w'/\MS kvI id O w' 1 nr (dc l1 p v)/\MS kvI tvU O w' 2 tr (dc l2 p ((gi g k).foldl (gw g) 0))/\Sl aL 1 w' v ((gi g k).flatMap g.lv)/\Qj O w' v:=by
 obtain⟨T0,h4,e1⟩:=hR.bound;obtain⟨T,h1⟩:∃T,T=T0+10+i+2*g.ks.length:=⟨_,rfl⟩
 have hT:∀b,O b<T:=λb=>by have:=e1 b;omega
 have f6:=h.ks.len;have f':=e7.tag;have f9:=e6.tag;have f8:=h.r;apply Mp func92 ntmps92 rfl rfl;refine zh ?_;apply zc call127 (CT w nb se g _ _ lv kv xs k M f8 hw hk hM zo);rintro rv w1 ⟨e5,f5,g7,c7,f7⟩;generalize gi g k=rl at *;have g3:MC (λq=>q=T) O w O w1:=aa zo O f5;have g2:=f7 B O hR;have h6:=hM.ks;have b2:∀q,q<rl.length->nth rl q<xs.length:=λq hq=>by rw[f6];exact c7 _ (aJ hq)
 refine zvH (aM e5.sh MA rfl) ?_;apply zlp (λz:Nat×ln×(Nat->Nat)×World=>[(0,nP nb),(1,nI p),(6,z.2.1),(7,.int .u64 (((rl.take z.1).foldl (gw g) 0:Nat):Int)),(13,rv),(14,nI rl.length),(15,nI z.1)]) (λz=>z.2.2.2) (λz=>z.1<=rl.length/\Mw aL 3 1 z.2.2.1 z.2.2.2 T z.2.1 ((rl.take z.1).flatMap g.lv)/\((rl.take z.1).flatMap g.lv).length<=z.1*1000000/\MC (λq=>q=T) O w z.2.2.1 z.2.2.2/\NI B z.2.2.1 z.2.2.2/\Sl aL 1 z.2.2.2 rv rl/\Qj z.2.2.1 z.2.2.2 rv) (λz=>rl.length-z.1) (0,nS,O,w1) ⟨Ln _,N8 _ _ _ _ _ _,by simp,g3,hR.ext f5,e5,g2⟩
 rintro⟨q,v2,O2,w2⟩ ⟨hq,a0,g0,a9,b',a3,d8⟩;dsimp only at hq a0 g0 a9 b' a3 d8 ⊢;have h2:=h.updT a9 zo (λr _ hr=>zo);have a':=h2.r;have c2:=a'.c2;have g6:=a0.sl;refine zh ?_;refine zC ?_ ?_
 ·intro a5;replace a5:q<rl.length:=dT a5;have b3:=b2 q a5;have m2:w2.cell? (adr rv 1 q)=some (nI ((nth rl q:Nat):Int)):=by have:=a3.cell (j:=0) a5 rfl;rwa[ar]at this
  have f1:=a'.f1 b3;have g9:=hM.lv (nth rl q);refine zh ?_;refine zvH (ai a'.ks.sh M6 (MV _) rfl rfl (nth rl q) rfl b3) ?_;apply dU gE a0 b' (a'.lv _ b3) rfl rfl (by simp) (by simp[LL]) zo zo zo rfl;intro v3 w3 O3 a2 e0 f4;have a8:=a9.J e0;have h3:=h.updT a8 zo (λr _ hr=>zo);have c8:=h3.r;have b1:=a3.U d8 e0;have e9:=d8.U e0;have f2:=c8.f2 b3;have h7:=c8.c2;have g':=he (nth rl q);have e4:rl.take (q+1)=rl.take q++[nth rl q]:=aG a5;have e8:(rl.take (q+1)).foldl (gw g) 0=gw g ((rl.take q).foldl (gw g) 0) (nth rl q):=by rw[e4,Na];rfl
  have b8:(rl.take (q+1)).flatMap g.lv=(rl.take q).flatMap g.lv++g.lv (nth rl q):=by rw[e4];simp
  have h0:=lD he (rl.take q) 0 zd;refine zh ?_;refine zvH (ai c8.ks.sh M6 (MV _) rfl rfl (nth rl q) rfl b3) ?_;refine zC ?_ ?_
  ·intro a4;have a4:g.en (nth rl q)≠0:=dT a4;have g8:2^(g.en (nth rl q)-1)<2^40:=NW zd zo;refine zh ?_;rw[show((g.en (nth rl q):Nat):Int)-1=((g.en (nth rl q)-1:Nat):Int)from by omega];apply zv (lj (a:=1) (b:=g.en (nth rl q)-1) rfl rfl rfl rfl (by show _<=64;omega) (by show _<=(18446744073709551615:Int);omega));rw[NX];refine zvH (mQ (a:=(rl.take q).foldl (gw g) 0) (b:=2^(g.en (nth rl q)-1)) rfl rfl rfl rfl (by show _<=(18446744073709551615:Int);omega) (by show _<=(18446744073709551615:Int);omega)) ?_;have a6:(rl.take (q+1)).foldl (gw g) 0=(rl.take q).foldl (gw g) 0 ||| 2^(g.en (nth rl q)-1):=by rw[e8,gw,am a4]
   rw[<-a6];refine zxd (q+1,v3,O3,w3) ⟨a5,by dsimp only;rw[b8];exact a2,by dsimp only;rw[b8,Li];omega,a8,f4,b1,e9⟩
  intro hz;have hz:g.en (nth rl q)=0:=dF hz;refine zh ?_;have a6:(rl.take (q+1)).foldl (gw g) 0=(rl.take q).foldl (gw g) 0:=by rw[e8,gw,ap hz]
  rw[<-a6];refine zxd (q+1,v3,O3,w3) ⟨a5,by dsimp only;rw[b8];exact a2,by dsimp only;rw[b8,Li];omega,a8,f4,b1,e9⟩
 intro g1;obtain rfl:q=rl.length:=dF g1;rw[My]at a0 ⊢;have hf:Qj O w2 v2:=PX a0 zo hT b' a9;have d7:=e7.U a9 zd zo;have d1:=e6.U a9 zd zo;have d3:w2.drew.cell? (nA nb 3)=some (.map (some nr)):=a'.c3;have d4:w2.drew.cell? (nA nb 4)=some (.map (some tr)):=a'.c4;have d9:MC (λ_=>False) O2 w2 O2 w2.drew:=aa (λh=>h) O2 (M7 w2).drew;have d6:=d7.U d9 zd λh=>h
 have d0:=d1.U d9 zd λh=>h
 have b0:∀W (S:Nat->Prop),MC S O2 w2.drew O2 W->¬S i->W.cell? (nA nb 3)=some (.map (some nr))/\W.cell? (nA nb 4)=some (.map (some tr)):=λW S u hS=>
  have hb:=h2.blk.drew.U u zo hS
  ⟨hb.cell 3 rfl,hb.cell 4 rfl⟩
 refine zh ?_;apply aN (λW=>W.cell? (nA nb 3)=some (.map (some nr))/\W.cell? (nA nb 4)=some (.map (some tr))) 18 rfl zk
 refine zin ⟨d3,d4⟩ λzS=>?_
 apply zrm 0 rfl zS rfl;apply zr 1 rfl zS (λ_=>ak rfl)
 apply zrf 2 rfl zS rfl;apply zt 3 rfl zS (λw1 c5=>RV.ld c5.1 rfl)
 apply zrm 4 rfl zS rfl;apply zrm 5 rfl zS rfl
 apply zr 6 rfl zS (λ_=>ak rfl);apply zrf 7 rfl zS rfl
 apply zt 8 rfl zS (λw1 c5=>RV.ld c5.2 rfl);apply zrm 9 rfl zS rfl
 apply zrm 10 rfl zS rfl;apply zrm 11 rfl zS rfl
 apply MN 12 zk rfl;apply oz d6 Q8 rX zd (NB _) p v2 rfl rfl rfl rfl
 intro w4 c4 b4 e3 b5;refine zh ?_;apply ae (b0 _ _ b5 zo);apply zr 13 rfl (b0 _ _ b5 zo) (λ_=>Qa rfl rfl);apply MN 14 zk rfl;apply kH e3 rfl rfl rfl rfl;intro w5 d5 b9;have c':=d0.U b9 zd zd;refine zh ?_;apply ae (b0 _ _ b9 zo);apply MN 15 zk rfl;apply oz c' Q7 rX zd (Pq _) p (rl.foldl (gw g) 0) rfl rfl rfl rfl;intro w6 c6 b6 e2 d';have hU6e:MC (λq=>q=1\/q=2) O2 w2.drew O2 w6:=(b9.mono (λ_ h=>.inl h) zo).J (d'.mono (λ_ h=>.inr h) zo);refine zh ?_;apply ae (b0 _ _ hU6e zo);apply zr 16 rfl (b0 _ _ hU6e zo) (λ_=>Qa rfl rfl);apply MN 17 zk rfl;apply kH e2 rfl rfl rfl rfl;intro w7 c9 f3;have d2:=d5.U f3 zd zd;have b7:MC (λq=>q=1\/q=2) O2 w2.drew O2 w7:=(b9.mono (λ_ h=>.inl h) zo).J (f3.mono (λ_ h=>.inr h) zo);refine zh ?_;apply ae (b0 _ _ b7 zo);have a7:=(d9.mono (S':=λq=>q=1\/q=2) (λ_ h=>h.elim) zo).J b7;have e':=(a9.mono (S':=λq=>q=T\/q=1\/q=2) (λ_ h=>.inl h) zo).J (a7.mono (λ_ h=>.inr h) zo)
 have g4:MC (λq=>q=1\/q=2) O w O w7:=Upd.fgt e' (λb h=>by
  rcases h with h|h
  ·have:=hT b;omega
  exact h) zo
 have a1:=a0.U a7 zo zo;have g5:=b'.U a7;apply Pw zk;refine aP rfl ⟨v2,g4,d2.fgt f',c9.fgt f9,a1.sl,PX a1 zo hT g5 e'⟩
def jj:∀(l:List Nd) (i:Nat),i<l.length->aA (l.take (i+1))=aA (l.take i)+aK (nth l i)
 |[],i,h=>absurd h (LD i)
 |t::r,0,_=>by rw[ao];simp[aA]
 |t::r,i+1,h=>by
  have:=jj r i (by simpa using h);rw[aW];simp only[List.take_succ_cons,aA];omega
mutual
def nz:∀(t:Nd),aK t<=nsz t
 |.mk k c l=>by
  have:=jV l
  simp only[aK,nsz]
  split<;>omega
def jV:∀(l:List Nd),aA l<=cM l
 |[]=>by simp[aA]
 |t::r=>by
  have h1:=nz t
  have h2:=jV r
  simp only[aA,cM]
  omega
end
def rQ:∀(n:Nat),n<=1000000->∀(t:Nd),nsz t<=n->∀(x:N3) (w:Lj),Nt (λ_=>0) w t x->PZ MI 88 [nv x] w λv w'=>v=nI ((aK t:Nat):Int)/\Pn w w'
 |0,_,t,hn=>by have:=da t;omega
 |n+1,hn6,.mk k c l,hn=>by
  intro x w h;have ih:=rQ n zo;have b5:=h.ones;obtain⟨ys,b3,hf,a7,a4⟩:=h.kids;simp only[Nd.kids]at a7 a4;simp only[nsz]at hn;generalize x.2.2=sv at *;subst b5;simp only[Nd.kind,Nd.cls];have d1:=du l;have d2:=jV l;apply Mp func88 ntmps88 rfl rfl;refine zh ?_;apply aI (aw w) 1 zo rfl rfl;intro xb w1 O1 b0 d4 d6 a';have c0:w1.cell? (nA xb 0)=some (nI k):=b0.cell 0 rfl;have c2:w1.cell? (nA xb 2)=some sv:=b0.cell 2 rfl;have a6:=b3.ext a';have a2:=a';clear a';refine zh ?_
  by_cases hl:l=[]
  ·subst hl;have b4:ys.length=0:=a7.symm;apply ax (d:=10) rfl (b':=true) ((by rw[b4];rfl));refine zh ?_
   by_cases h9:k=9
   ·subst h9;have a0:aK (.mk 9 c [])=aA []:=by rw[aK,am (by rintro⟨_,e⟩;exact e rfl)]
    refine zFH rfl rfl ?_;apply zlp (λz:Nat×Lj=>[(3,nI ((aA (([]:List Nd).take z.1):Nat):Int)),(16,sv),(17,nI ys.length),(18,nI z.1)]) (λz=>z.2) (λz=>z.1<=([]:List Nd).length/\Pn w1 z.2) (λz=>([]:List Nd).length-z.1) (0,w1) ⟨Ln _,M7 _⟩
    rintro⟨q,w2⟩ ⟨hq,a1⟩;dsimp only at hq a1 ⊢;have a5:=a6.ext a1;have b6:q=0:=by simpa using hq
    refine zh ?_;refine zC ?_ ?_
    ·intro a3;exact absurd (of_decide_eq_true a3) zo
    intro b1;subst b6;refine zh ?_;refine af rfl rfl ⟨by rw[a0,List.take_nil],a2.J a1⟩
   have a0:aK (.mk k c [])=1:=by rw[aK,ap ⟨rfl,h9⟩]
   rw[a0];refine zTH rfl ((by simpa using h9)) ?_;refine af rfl rfl ⟨rfl,a2⟩
  have a0:aK (.mk k c l)=aA l:=by rw[aK,am (by rintro⟨e,_⟩;exact hl (by simpa using e))]
  have b7:=List.length_pos_iff.2 hl;apply ax (d:=10) rfl (b':=false) ((by rw[beq_eq_false_iff_ne];omega));refine zh ?_;refine zFH rfl rfl ?_;apply zlp (λz:Nat×Lj=>[(3,nI ((aA (l.take z.1):Nat):Int)),(16,sv),(17,nI ys.length),(18,nI z.1)]) (λz=>z.2) (λz=>z.1<=l.length/\Pn w1 z.2) (λz=>l.length-z.1) (0,w1) ⟨Ln _,M7 _⟩;rintro⟨q,w2⟩ ⟨hq,a1⟩;dsimp only at hq a1 ⊢;have a5:=a6.ext a1;have c9:=bY l q;refine zh ?_;refine zC ?_ ?_
  ·intro a3;replace a3:q<l.length:=dT a3;have a8:=(a4 q zo).ext (a2.J a1);have c5:=a8.one;have d0:=bK l q a3;have d3:=nz (nth l q);have b9:=jV (l.take q);have c':=di l q a3;have b8:=bY l (q+1);refine zh ?_;apply zv (ah (us:=aY (nth ys q)) (λj u hu=>a5.cell zo hu) (MJ _) (M1 _) rfl);apply au (aw w2) 1 zo (Pp _) rfl;intro yb w3 O3 a9 c7 d5 d7;apply zsb (us:=#[nI (nth ys q).1,nI (nth ys q).2.1,(nth ys q).2.2]) a9 (M1 _) (cH c5);have b2:Pn w2 (w3.setRow yb #[nI (nth ys q).1,nI (nth ys q).2.1,(nth ys q).2.2]):=(c7.J (Pb zd a9.tag rfl)).ext;have c6:=a9.setRow (us:=#[nI (nth ys q).1,nI (nth ys q).2.1,(nth ys q).2.2]);generalize w3.setRow yb #[nI (nth ys q).1,nI (nth ys q).2.1,(nth ys q).2.2]=w4 at *;refine zh ?_;apply zv (ah (us:=aY (nth ys q)) c6.V (MJ _) (M1 _) rfl);apply zc call88 (ih (nth l q) zo (nth ys q) w4 (a8.ext b2));rintro v w5 ⟨rfl,c8⟩;refine zh ?_;rw[show((aA (l.take q):Nat):Int)+((aK (nth l q):Nat):Int)=((aA (l.take (q+1)):Nat):Int)from by rw[jj l q a3];simp];refine zxd (q+1,w5) ⟨a3,(a1.J b2).J c8⟩
  intro b1;obtain rfl:q=l.length:=dF b1;rw[My];refine zh ?_;refine af rfl rfl ⟨by rw[a0],a2.J a1⟩
def Co(k c m:Int)(b:Nat)(w:Lj):PZ MI 156 [.agg #[nI k,nI c,nI (b:Nat)],nI m] w λv w'=>v=.bool (ck k c m)/\Pn w w':=by
 apply Mp func156 ntmps156 rfl rfl;refine zh ?_
 apply aI (aw w) 1 zo rfl rfl;intro xb w1 O1 a4 a5 a6 a3;have c0:w1.cell? (nA xb 0)=some (nI k):=a4.cell 0 rfl;have c1:w1.cell? (nA xb 1)=some (nI c):=a4.cell 1 rfl;obtain⟨cl,a0⟩:∃cl,cl=(decide (0<=m)&&decide (m<36)):=⟨_,rfl⟩
 refine zh ?_;refine aT (λW=>W=w1) (decide (m<36)) 2 rfl rfl rfl rfl rfl rfl ?_ ?_
 ·intro a1;refine zh ?_;refine nE 8 3 rfl a1
 rintro w9 rfl;rw[<-a0];refine zh ?_
 by_cases h0:k=0
 ·have hM:ck k c m=(cl&&(m==c)):=by unfold ck;rw[ap h0,a0]
  rw[hM];refine zTH rfl ((by simpa using h0)) ?_;refine aT (λW=>W=w9) ((m==c)) 4 rfl rfl rfl rfl rfl rfl ?_ ?_
  ·intro a2;refine zh ?_;refine nE 17 5 rfl a2
  rintro w8 rfl;refine zh ?_;refine af rfl rfl ⟨rfl,a3⟩
 refine zFH rfl ((by simpa using h0)) ?_
 by_cases h1:k=1
 ·have hM:ck k c m=cl:=by unfold ck;rw[am h0,ap h1,a0]
  rw[hM];refine zTH rfl ((by simpa using h1)) ?_;refine af rfl rfl ⟨rfl,a3⟩
 refine zFH rfl ((by simpa using h1)) ?_
 by_cases h2:k=2
 ·have hM:ck k c m=(cl&&(m != c)):=by unfold ck;rw[am h0,am h1,ap h2,a0]
  rw[hM];refine zTH rfl ((by simpa using h2)) ?_;refine aT (λW=>W=w9) ((m != c)) 4 rfl rfl rfl rfl rfl rfl ?_ ?_
  ·intro a2;refine zh ?_;refine nE 29 5 rfl a2
  rintro w8 rfl;refine zh ?_;refine af rfl rfl ⟨rfl,a3⟩
 have hM:ck k c m=(m==36):=by unfold ck;rw[am h0,am h1,am h2]
 rw[hM];refine zFH rfl ((by simpa using h2)) ?_;refine af rfl rfl ⟨rfl,a3⟩
structure NfD(w:Lj)(nb:Nat)(se:Bool)(g:Gr):Prop where
 ex:∃nr tr lv kv xs l1 l2,NfR w nb se g (.map (some nr)) (.map (some tr)) lv kv xs/\MS kvI id (λ_=>0) w 0 nr l1/\MS kvI tvU (λ_=>0) w 0 tr l2/\
  (∀p:Nat,p<=g.ls.length->∃v,bC l1 (p:Int)=some v/\Sl aL 1 w v (cS g p))/\∀p:Nat,p<=g.ls.length->bC l2 (p:Int)=some (iU g p)
def qC{kv:κ->ln}{vv:ν->ln}{r:Nat}{l:List (κ×ν)}(h:MS kv vv (λ_=>0) w 0 r l)(e:Pn w w'):MS kv vv (λ_=>0) w' 0 r l:=by
 obtain⟨es,c,h1,h2⟩:=h.blk;have e1:=e.block r (bH h1);exact⟨⟨es,c,by rw[e1];exact h1,h2⟩,rfl,λa0 c' h'=>h.born a0 c' (by rw[<-e1];exact h')⟩
def NfD.ext{w w':Lj}{nb:Nat}{se:Bool}{g:Gr}(h:NfD w nb se g)(e:Pn w w'):NfD w' nb se g:=by
 obtain⟨nr,tr,lv,kv,xs,l1,l2,h1,h2,h3,h4,h5⟩:=h.ex;exact⟨nr,tr,lv,kv,xs,l1,l2,h1.ext e,qC h2 e,qC h3 e,λp hp=>by obtain⟨v,a,b⟩:=h4 p hp;exact⟨v,a,b.ext e⟩,h5⟩
def Ff(w:Lj)(nb:Nat):PZ MI 94 [nP nb] w λv w'=>Sl encI 1 w' v [0]/\Pn w w'/\∀(B:Nat) (O:Nat->Nat),NI B O w->Qj O w' v:=by
 apply Mp func94 ntmps94 rfl rfl;refine zh ?_
 refine zvH (ib (q:=some ⟨nb,0,none⟩) NV rfl rfl) ?_;refine zFH rfl rfl ?_
 apply bd gE (enc:=encI) (aw w) 1 zd (0:Int) rfl rfl rfl zd rfl;intro v0 w0 O0 a0 a1 a2;refine zh ?_
 refine af rfl rfl ⟨a0.sl,a1.ext,λB O hR=>a0.free zd a2 hR⟩
def uy(g:Gr)(m:Int)(l:List Nat):List Int:=(l.filter λj=>ck (nth g.ls (j-1)).1 (nth g.ls (j-1)).2.1 m).map fun(j:Nat)=>(j:Int)
def DM{g:Gr}(h:j<l.length):uy g m (l.take (j+1))=uy g m (l.take j)++if ck (nth g.ls (nth l j-1)).1 (nth g.ls (nth l j-1)).2.1 m=true then [((nth l j:Nat):Int)]else []:=by
 unfold uy;rw[aG h,P9,M4,List.filter_cons]
 split<;>rfl
def GL(g:Gr)(m:Int)(l:List Nat):(uy g m l).length<=l.length:=by unfold uy;rw[Mr];exact MU _ _
def step_ret(w:Lj)(nb:Nat)(se:Bool)(g:Gr)(s:List Int)(sv:ln)(m:Int)(h:NfD w nb se g)(hs:Sl encI 1 w sv s)(hw:WF g)(h0:0<g.ks.length)(ht:Tot g)(hp:inP g s)(f3:s.length<=1000)(e4:g.ls.length<=999):
  PZ MI 129 [nP nb,sv,nI m] w λv w'=>Sl encI 1 w' v (cD se g s m)/\Pn w w'/\∀(B:Nat) (O:Nat->Nat),NI B O w->Qj O w' v:=by
 have e7:=h;obtain⟨nr,tr,lv,kv,xs,l1,l2,hr,e3,f6,e1,f5⟩:=h.ex;have a9:∀q,q<=s.length->((if se=true then [(0:Int)]else [])++(s.take q).flatMap λp=>uy g m (cS g p.toNat)).length<=1+q*999:=λq hq=>by
  have h1:=I3 (se:=se) hw h0 ht (m:=m) (s:=s.take q) λx hx=>hp x (List.mem_of_mem_take hx)
  have h2:(s.take q).length*g.ls.length<=q*999:=PH (by simp;omega) e4;exact Nc h1 zo
 apply Mp func129 ntmps129 rfl rfl;refine zh ?_
 refine zvH (ib (q:=some ⟨nb,0,none⟩) NV rfl rfl) ?_;refine zFH rfl rfl ?_
 refine zvH (RV.ld hr.c0 rfl) ?_;refine eI (λz:ln×(Nat->Nat)×World=>[(0,nP nb),(1,sv),(2,nI m),(7,z.1)]) (λz:ln×(Nat->Nat)×World=>z.2.2) (λz:ln×(Nat->Nat)×World=>Mw encI 3 1 z.2.1 z.2.2 1 z.1 (if se=true then [0]else [])/\MC (λq=>q=1) (λ_=>0) w z.2.1 z.2.2/\NI w.heap.size z.2.1 z.2.2) ?_ ?_
 ·intro Qm hN;refine zC ?_ ?_
  ·intro c6;have e0:([]:List Int).length=0:=rfl;refine zh ?_;apply Pv gE (N8 encI 3 1 (λ_=>0) w 1) (aw w) ((0:Int)) (λ_=>rfl) rfl rfl rfl (by simp[LL]) zo zo zo zd rfl rfl;intro v1 w1 O1 a2 b5 b7;refine zh ?_;exact QF.of (hN ((v1,O1,w1)) ⟨by rw[ap c6];exact a2,b5,b7⟩) ⟨rfl,rfl,rfl,rfl,trivial⟩ rfl
  intro c6;refine zh ?_;exact QF.of (hN ((nS,λ_=>0,w)) ⟨by rw[am (by rw[c6];decide)];exact N8 _ _ _ _ _ _,MB zd _ _,aw w⟩) ⟨rfl,rfl,rfl,rfl,trivial⟩ rfl
 rintro⟨v1,O1,w1⟩ ⟨a2,b5,b7⟩;dsimp only at a2 b5 b7 ⊢;obtain⟨hd,d4⟩:∃hd,hd=(if se=true then [(0:Int)]else []):=⟨_,rfl⟩
 rw[<-d4]at a2 a9;refine zh ?_;refine zvH (aM hs.sh MA rfl) ?_;apply zlp (λz:Nat×ln×(Nat->Nat)×World=>[(0,nP nb),(2,nI m),(7,z.2.1),(21,sv),(22,nI s.length),(23,nI z.1)]) (λz=>z.2.2.2) (λz=>z.1<=s.length/\Mw encI 3 1 z.2.2.1 z.2.2.2 1 z.2.1 (hd++(s.take z.1).flatMap λp=>uy g m (cS g p.toNat))/\MC (λq=>q=1) (λ_=>0) w z.2.2.1 z.2.2.2/\NI w.heap.size z.2.2.1 z.2.2.2) (λz=>s.length-z.1) (0,v1,O1,w1) ⟨Ln _,by simpa using a2,b5,b7⟩;rintro⟨q,v2,O2,w2⟩ ⟨hq,a4,a6,d0⟩;dsimp only at hq a4 a6 d0 ⊢;have b0:=a9 q hq;refine zh ?_;refine zC ?_ ?_
 ·intro a7;replace a7:q<s.length:=dT a7;have d9:=hp _ (aJ a7);obtain⟨pn,c7⟩:∃pn:Nat,nth s q=(pn:Int):=⟨(nth s q).toNat,zo⟩
  have b2:pn<=g.ls.length:=by have:=d9.2;rw[c7]at this;simpa using this
  obtain⟨b8,c8,c5⟩:=e1 pn b2;have f4:=Ak hw ht (oH hw h0 b2);have d7:=hs.ext a6.ext;have c9:=qC e3 a6.ext;have m2:w2.cell? (adr sv 1 q)=some (nI (nth s q)):=by have:=d7.cell (j:=0) a7 rfl;rwa[ar]at this
  rw[c7]at m2;have d8:=hr.ext a6.ext;have d6:=c5.ext a6.ext;have c3:=d8.c3;refine zh ?_;apply zv (Qg (u:=b8) c9 Q8 rX (NB _) (pn:Int) rfl rfl rfl (by rw[c8];rfl));refine zvH (aM c5.sh MA rfl) ?_;apply zlp (λy:Nat×ln×(Nat->Nat)×World=>[(0,nP nb),(2,nI m),(7,y.2.1),(21,sv),(22,nI s.length),(23,nI q),(32,b8),(33,nI (cS g pn).length),(34,nI y.1)]) (λy=>y.2.2.2) (λy=>y.1<=(cS g pn).length/\Mw encI 3 1 y.2.2.1 y.2.2.2 1 y.2.1 ((hd++(s.take q).flatMap λp=>uy g m (cS g p.toNat))++uy g m ((cS g pn).take y.1))/\MC (λq=>q=1) (λ_=>0) w y.2.2.1 y.2.2.2/\NI w.heap.size y.2.2.1 y.2.2.2) (λy=>(cS g pn).length-y.1) (0,v2,O2,w2) ⟨Ln _,by simpa[uy]using a4,a6,d0⟩;rintro⟨j,v3,O3,w3⟩ ⟨hj,a1,a5,b1⟩;dsimp only at hj a1 a5 b1 ⊢;have b':=c5.ext a5.ext;have d2:=hr.ext a5.ext;have f8:=GL g m ((cS g pn).take j);have d3:((hd++(s.take q).flatMap λp=>uy g m (cS g p.toNat))++uy g m ((cS g pn).take j)).length=(hd++(s.take q).flatMap λp=>uy g m (cS g p.toNat)).length+(uy g m ((cS g pn).take j)).length:=Li;have e':((cS g pn).take j).length<=j:=by simp;omega
  refine zh ?_;refine zC ?_ ?_
  ·intro a3;replace a3:j<(cS g pn).length:=dT a3;have f7:1<=nth (cS g pn) j/\nth (cS g pn) j<=g.ls.length:=by
    obtain⟨k,hk,e5⟩:=(iz hw h0 b2 (nth (cS g pn) j)).1 (aJ a3);exact hw.lv k _ (hk.lt hw (oH hw h0 b2)) e5
   have b3:=DM (g:=g) (m:=m) a3;have m3:w3.cell? (adr b8 1 j)=some (nI ((nth (cS g pn) j:Nat):Int)):=by have:=b'.cell (j:=0) a3 rfl;rwa[ar]at this
   generalize nth (cS g pn) j=to at *;have c1:=d2.c1;have a':=d2.ls;refine zh ?_;rw[show((to:Nat):Int)-1=((to-1:Nat):Int)from by omega];apply zv (Q2 a' NU (sizeOf178 _) rfl rfl (to-1) rfl zo);refine zvH (ah (us:=tV (nth g.ls (to-1))) (λj u hu=>a'.cell zo hu) (isAgg178 _) (sizeOf178 _) rfl) ?_;apply zc call156 (Co (nth g.ls (to-1)).1 (nth g.ls (to-1)).2.1 m (nth g.ls (to-1)).2.2 w3);rintro v w4 ⟨rfl,d1⟩;have b4:=a5.J (aa zd O3 d1);have b6:=b1.ext d1;have a0:Mw encI 3 1 O3 w4 1 v3 _:=a1.U (aa (S:=λ_=>False) (λh=>h) O3 d1) zd λh=>h
   refine zh ?_;refine zC ?_ ?_
   ·intro b9;rw[ap b9]at b3;refine zh ?_;apply Pv gE a0 b6 (((to:Nat):Int)) (λ_=>rfl) rfl rfl rfl (by simp[LL]) zo zo zo zd rfl rfl;intro v5 w5 O5 a8 e8 e9;refine zh ?_;refine zxd (j+1,v5,O5,w5) ⟨a3,by dsimp only;rw[b3,<-Lm];exact a8,b4.J e8,e9⟩
   intro d';rw[am (by rw[d'];decide),Lz]at b3;refine zh ?_;refine zxd (j+1,v3,O3,w4) ⟨a3,by dsimp only;rw[b3];exact a0,b4,b6⟩
  intro c';obtain rfl:j=(cS g pn).length:=by have:=of_decide_eq_false c';omega
  rw[My]at a1;have d5:(s.take (q+1)).flatMap (λp=>uy g m (cS g p.toNat))=(s.take q).flatMap (λp=>uy g m (cS g p.toNat))++uy g m (cS g pn):=by rw[aG a7,List.flatMap_append,c7];simp
  refine zh ?_;refine zxd (q+1,v3,O3,w3) ⟨a7,by dsimp only;rw[d5,<-Lm];exact a1,a5,b1⟩
 intro e6;obtain rfl:q=s.length:=dF e6;rw[My]at a4 b0;have e2:s.length*999<=999000:=zo;refine zh ?_;apply zc call145 (lG d0 a4 zd zo);rintro _ w3 ⟨a1,a5,b1⟩;refine zh ?_;apply zc call146 (fW b1 a1 zd (by rw[eN];omega));rintro v4 w4 ⟨a0,b4,b6⟩;have e:LU (iW (hd++s.flatMap λp=>uy g m (cS g p.toNat)))=cD se g s m:=by rw[d4];rfl
 rw[e]at a0;refine zh ?_;refine af rfl rfl ⟨a0.sl,((a6.J a5).J b4).ext,λB O hR=>a0.free zd b6 hR⟩
def lB(w:Lj)(nb:Nat)(se:Bool)(g:Gr)(s:List Int)(sv:ln)(h:NfD w nb se g)(hs:Sl encI 1 w sv s)(hp:inP g s)(he:∀q,g.en q<=40):
  PZ MI 96 [nP nb,sv] w λv w'=>v=.int .u64 ((df g s:Nat):Int)/\w'=w:=by
 obtain⟨nr,tr,lv,kv,xs,l1,l2,hr,b3,a9,b2,a8⟩:=h.ex;have a4:∀p,iU g p<2^40:=λp=>lD he _ 0 zd
 have b1:=hs.len_le;apply Mp func96 ntmps96 rfl rfl;refine zh ?_;refine zvH (B7 (q:=some ⟨nb,0,none⟩) NV rfl rfl) ?_;refine zTH rfl rfl ?_;apply zlp (λz:Nat=>[(0,nP nb),(5,.int .u64 ((df g (s.take z):Nat):Int)),(10,sv),(11,nI s.length),(12,nI z)]) (λz=>w) (λz=>z<=s.length/\df g (s.take z)<2^40) (λz=>s.length-z) 0 ⟨Ln _,by rw[List.take_zero];show(0:Nat)<2^40;decide⟩;rintro q ⟨hq,a1⟩;refine zh ?_;refine zC ?_ ?_
 ·intro a0;replace a0:q<s.length:=dT a0;have a6:=hp _ (aJ a0);obtain⟨pn,a2⟩:∃pn:Nat,nth s q=(pn:Int):=⟨(nth s q).toNat,zo⟩
  have a7:pn<=g.ls.length:=by have:=a6.2;rw[a2]at this;simpa using this
  have a':=a8 pn a7;have m2:w.cell? (adr sv 1 q)=some (nI (nth s q)):=by have:=hs.cell (j:=0) a0 rfl;rwa[ar]at this
  rw[a2]at m2;have c4:=hr.c4;have a5:=a4 pn;have a3:df g (s.take (q+1))=df g (s.take q) ||| iU g pn:=by
   unfold df;rw[aG a0,Na,a2];rfl
  refine zh ?_;apply zv (Qg (u:=.int .u64 ((iU g pn:Nat):Int)) a9 Q7 rX (Pq _) (pn:Int) rfl rfl rfl (by rw[a'];rfl))
  refine zvH (mQ (a:=df g (s.take q)) (b:=iU g pn) rfl rfl rfl rfl (by show _<=(18446744073709551615:Int);omega) (by show _<=(18446744073709551615:Int);omega)) ?_;rw[<-a3];refine zxd (q+1) ⟨a0,by rw[a3];exact Ph a1 a5⟩
 intro b0;obtain rfl:q=s.length:=dF b0;rw[My];refine zh ?_;refine af rfl rfl ⟨rfl,rfl⟩
end Go.Proofs.YtcfhbfflgnbacaaGreatDoor
