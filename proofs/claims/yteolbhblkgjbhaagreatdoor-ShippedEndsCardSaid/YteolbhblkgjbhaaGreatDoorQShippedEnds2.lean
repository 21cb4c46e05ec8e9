/- Texts that the proof of this statement needs, merged and shortened. -/
import Derived.Test.YteolbhblkgjbhaaGreatDoorQShippedEnds1
open Go.Proofs.Tryz renaming sizeOf120->ix,isAgg120->I2,zeroValue120->I5,underlying9->IW,prog->IZ,sizeOf3->Jg,underlying118->K5,call154->Ki,call153->Kj,underlying276->KR,zeroValue255->L4,call262->LC,call198->LD,call165->LF,sizeOf255->LJ,sizeOf197->LK,sizeOf118->LL,underlying255->M5,underlying112->M6,sizeOf9->Mb,call155->Mc,call120->Md,call83->Mk
open Go renaming World->ln,Value->I1,TypeId->I9,MapEntry->IT,Program->J0,Operand->Jp,Oper->JP,zeroValue->Kp,Exit->KJ,Edge->KU,Act->Ly,Addr->LV,sizeOf->M1
open Nat renaming le_refl->I0,not_lt_zero->J1,zero_le->J6,le_succ->J7,le_of_eq->Ji,blt->Jn,sub_self->JK,eq_of_beq_eq_true->JQ,beq->Ko,lt_succ_iff_lt_or_eq->KB,zero_mul->KE,add_mul->KS,lt_of_lt_of_le->L6,add_assoc->LH,zero_add->LN,sub_zero->LO,add_comm->LP,one_mul->M0
open Go.VL.Upd renaming setRow->I3,set->IU,putObj->JJ,refl->JZ,alloc->Kc
open Go.Result renaming andThen_ok->I4
open Go.VL.Ret renaming enter->I6
open Go.Sem renaming run_bind->I7,run_pure->IN,run->JT
open Go.World renaming setRow->I8,setCell->IJ,putObj_heap_other->J3,drew->JD,block_lt_of_cell?->Kv,putObj_heap_same->KA,alloc_heap_new->KD,size_alloc->L5,setCells->Lm,frozen?->Ls
open Go.VL.BlkO renaming setRow->IE,upd->IG,tag->II,drew->Jm,fgt->Ma
open List renaming all_cons->IF,map_cons->IH,getElem_append_left->IL,mem_singleton->IP,length_cons->IQ,all_nil->IR,eq_nil_of_length_eq_zero->IS,findIdx?_eq_some_iff_getElem->IX,getElem_append_right->IY,length_append->J4,map_toArray->J8,map_nil->J9,length_reverse->Jb,length_set->Jc,eraseIdx_eq_take_drop_succ->Jj,length_singleton->Jl,mem_map->Jq,replicate->Jt,getElem?_eq_some_iff->Jv,findIdx?_eq_none_iff->Jw,flatMap_cons->Jy,range->JG,getElem_cons_zero->JH,drop_of_length_le->JI,map_append->JL,length_nil->JM,filter_eq_self->JU,takeWhile_append_dropWhile->K0,suffix_refl->K8,getElem_mem->K9,cons_append->Ka,mem_filter->Ke,mem_append->Kf,length_map->Kg,append_nil->Kh,pairwise_iff_getElem->Ku,sum_cons->Kx,map_take->Ky,getElem?_eq_getElem->Kz,filter_cons_of_neg->KC,eraseIdx_sublist->KF,dropWhile_suffix->KG,getElem_of_mem->KT,set_cons_succ->KZ,getElem_range->L0,findIdx?_cons->L1,find?_eq_none->L2,nodup_append->L7,append_assoc->L8,suffix_cons->Lh,getElem_map->Li,nodup_cons->Ln,nil_append->Lo,find?_cons->Lp,take_take->Lw,map_drop->LA,length->LQ,take->M4,map->M9
open Go.VL renaming Upd->IK,BlkO->J5,Ext->JA,RowT->JE,Ret->JW,Rng->Km,MapO->Kr,Elem->LB,Fits->Mf,KeyL->Mo
open Classical renaming byContradiction->IM
open Bool renaming and_eq_true->IV,not_eq_true'->JY,false_eq_true->L3,eq_false_iff->La,eq_iff_iff->Lr
open Go.VL.WI renaming region->J2,seq->Je,skip->Kq,block->KW,ret->Lc
open Go.Proofs.YteolbhblkgjbhaaGreatDoor renaming layO->Ja,oneM->JV
open Go.VL.Ext renaming refl->Jd
open Go.VL.WH renaming one->Jf,done->K6
open List.IsSuffix renaming trans->Jh,length_le->JX
open Array renaming getElem?_modify->Jk,getElem?_setIfInBounds->Kd,ext_getElem?->KV
open Go.VL.QF renaming dn->Jo
open Go.Value renaming oneCell'->Jr,string->Lz
open Go.Instr renaming keyThatStays->Js,entryStore->JB,findAsking->K1,mapEntry->Kk,checkKey->Kl,mapUpdate->Lj,findNow->Lx
open UInt8 renaming ofNat->Ju,toNat->LG
open List.cons renaming injEq->Jz
open Go.Addr renaming add->JC
open Go.Fence renaming wide->JF
open Go.VL.WS renaming nil->JN
open Go.Lib renaming compactUpTo->JO,keeps->Lq
open Int renaming le_refl->JR
open Go.VL.WC renaming still->JS
open Go.Builtin renaming delete_->K2,append_->K4,firstCells->KK,clear_->L9,lenOf->Ll,len_->Mr
open Option renaming map_some->K7,map->KP,bind_some->KX,bind_none->KY
open Go.Ending.returned renaming inj->Kb
open Go.Region renaming ready->Kw
open Function renaming comp_def->KH
open Go.Extern.BytealgIndexByte renaming indexByte->KI
open Go.VL.WL renaming val->KL,nil->Lb,push->LW,step->Ml
open Go.VL.RowT renaming upd->KM,nil->KN
open Go.VL.RV renaming indexAddr->KO,add->M7
open Go.Proofs.YteolbhblkgjbhaaGreatDoor.Nd renaming kids->KQ,kind->LZ,cls->M8
open Go.VL.Rng renaming upd->Ld
open Go.Op renaming equalIn->Le,equal->Mg
open Go.VL.Fit renaming i64->Lk
open Std.Legacy.Range renaming size->Lt,forIn_eq_forIn_range'->Lu
open Prod renaming fst->Lv
open Go.VL.Leave renaming mark->LU
open Go.RowKit.Below renaming heap_setCell->LX
open Go.Proofs.YteolbhblkgjbhaaGreatDoor.Nt renaming leaf->LY
open Go.Oper renaming wp->Me
open Go.Proofs.YteolbhblkgjbhaaGreatDoor.Gr renaming lv->Mh,leaf->Mp
open Go.Deferred renaming ofValue->Mi
open Go.Act renaming put->Mj
open Go.RoundIn renaming mono->Mm
open Prod.mk renaming injEq->Mn
open Go.CallsIn renaming mono->Mq
set_option maxRecDepth 10000
open Go.VL Go.Proofs Go.Proofs.Tryz
namespace Go.Proofs.YteolbhblkgjbhaaGreatDoor
def pD(l:List Int):List Int:=Lib.compact (gj l)
structure Cmp(d:Array Int)(m:Nat)(r:List Int):Prop where
 mem:∀x,x∈r↔∃j,j<m/\d[j]! = x
 pw:r.Pairwise (· < ·)
theorem xn(d:Array Int)(hs:∀i j,i<=j->j<d.size->d[i]!<=d[j]!):∀m,m<=d.size->Cmp d m (JO d m)
 |0,_=>⟨fun x=>by simp[JO],by simp[JO]⟩
 |m+1,hm=>by
  have ih:=xn d hs m zo;rw[Lib.compactUpTo_succ]
  by_cases hk:Lq d m=true
  ·rw[if_pos hk];refine⟨fun x=>?_,?_⟩
   ·rw[Kf,ih.mem,IP]
    constructor
    ·rintro(⟨j,hj,e⟩|e)
     ·exact⟨j,zo,e⟩
     exact⟨m,zo,e.symm⟩
    rintro⟨j,hj,e⟩
    by_cases a0:j=m
    ·subst a0;exact .inr e.symm
    exact .inl ⟨j,zo,e⟩
   refine List.pairwise_append.2 ⟨ih.pw,by simp,fun a ha b hb=>?_⟩;rw[IP]at hb;subst hb;obtain⟨j,hj,rfl⟩:=(ih.mem a).1 ha;simp only[Lq,decide_eq_true_eq]at hk;have h1:=hs j (m-1) zo zo;have h2:=hs (m-1) m zo zo
   rcases hk with hk|hk
   ·omega
   omega
  rw[if_neg hk,Kh];refine⟨fun x=>?_,ih.pw⟩;rw[ih.mem]
  constructor
  ·rintro⟨j,hj,e⟩;exact⟨j,zo,e⟩
  rintro⟨j,hj,e⟩
  by_cases a0:j=m
  ·subst a0;simp only[Lq,decide_eq_true_eq,not_or]at hk;obtain⟨h1,h2⟩:=hk;exact⟨j-1,zo,by rw[<-e];exact(IM fun a1=>h2 fun e2=>a1 e2.symm)⟩
  exact⟨j,zo,e⟩
theorem rF(l:List Int):(gj l).Pairwise (·<=·):=by
 have:=List.pairwise_mergeSort (le:=fun x y:Int=>decide (x<=y)) (fun a b c h1 h2=>by simp at h1 h2 ⊢;omega) (fun a b=>by simp;omega) l;exact this.imp fun h=>by simpa using h
theorem zB(l:List Int)(x:Int):x∈gj l↔x∈l:=List.mem_mergeSort ..
theorem sX(l:List Int):(∀x,x∈pD l↔x∈l)/\(pD l).Pairwise (· < ·):=by
 have hp:=rF l;have a0:∀j,j<(gj l).length->(gj l).toArray[j]! = nth (gj l) j:=fun j hj=>by
  rw[aC hj,getElem!_pos _ j (by simpa using hj)];simp
 have h:=xn (gj l).toArray (fun i j a1 hj=>by
  have hj:j<(gj l).length:=by simpa using hj
  rw[a0 i zo,a0 j hj]
  by_cases e:i=j
  ·subst e;exact JR _
  have:=Ku.1 hp i j zo hj zo
  rw[aC zo,aC hj];exact this) (gj l).length (by simp)
 refine⟨fun x=>?_,h.pw⟩;show x∈JO _ _↔_;rw[h.mem,<-zB l x]
 constructor
 ·rintro⟨j,hj,rfl⟩;rw[a0 j hj];exact aJ hj
 intro hx;obtain⟨j,hj,rfl⟩:=cn hx;exact⟨j,hj,a0 j hj⟩
theorem sW(l:List Int)(x:Int):x∈pD l↔x∈l:=(sX l).1 x
theorem xo(l:List Int):(pD l).Pairwise (· < ·):=(sX l).2
theorem B8{a:List Int}(h:a.Pairwise (· < ·)){n:Nat}(hb:∀x∈a,0<=x/\x.toNat<n):a.length<=n:=by
 have hn:(a.map Int.toNat).Nodup:=by
  refine List.pairwise_map.2 (h.imp_of_mem fun {x y} hx hy a0=>?_);have:=hb x hx;have:=hb y hy;omega
 have:=fO hn (n:=n) fun x hx=>by
  obtain⟨y,hy,rfl⟩:=Jq.1 hx;exact(hb y hy).2
 simpa using this
mutual
def cS:Nd->Nat
 |.mk k _ l=>if l.isEmpty=true/\k≠9 then 1 else aX l
def aX:List Nd->Nat
 |[]=>0
 |t::r=>cS t+aX r
end
mutual
/-- Parts stand where parts may stand. -/
def yg:Nd->Bool
 |.mk k _ l=>(if k=4\/k=5\/k=6\/k=7\/k=8 then !l.isEmpty else l.isEmpty)&&jg l
def jg:List Nd->Bool
 |[]=>true
 |t::r=>yg t&&jg r
end
mutual
theorem fq:∀(t:Nd) (a b:Nat) (g:Gr),yg t=true->fe t=true->(eU t a b g).ls.length=g.ls.length+cS t
 |.mk k c l,a,b,g,hk,hs=>by
  unfold yg at hk
  unfold fe at hs
  simp only[IV]at hk hs
  obtain⟨hk1,hk2⟩:=hk
  obtain⟨hs1,hs2⟩:=hs
  unfold eU cS
  by_cases h4:k=4
  ·rw[if_pos zo]at hk1
   rw[if_pos h4,ng l a b g hk2 hs2,if_neg (by rintro⟨e,_⟩;rw[e]at hk1;simp at hk1)]
  rw[if_neg h4]
  by_cases h5:k=5
  ·rw[if_pos zo]at hk1
   rw[if_pos h5,nh l a b g hk2 hs2,if_neg (by rintro⟨e,_⟩;rw[e]at hk1;simp at hk1)]
  rw[if_neg h5]
  by_cases h678:k=6\/k=7\/k=8
  ·rw[if_pos zo]at hk1
   rw[if_neg h4,if_pos h678]at hs1
   have hO:∀(k:Int) (g:Gr) (i:Nat),(layO k g i).ls=g.ls:=fun k g i=>by unfold layO;split<;>split<;>rfl
   rw[if_pos h678,hO,uF l _ _ _ hk2 hs2 (of_decide_eq_true hs1),if_neg (by rintro⟨e,_⟩;rw[e]at hk1;simp at hk1)]
   rfl
  rw[if_neg h678]
  rw[if_neg zo]at hk1
  have hl:l=[]:=by simpa using hk1
  subst hl
  by_cases h9:k=9
  ·rw[if_pos h9,if_neg (by rintro⟨_,e⟩;exact e h9)]
   rfl
  rw[if_neg h9,if_pos ⟨rfl,h9⟩]
  simp[Mp]
theorem ng:∀(l:List Nd) (a b:Nat) (g:Gr),jg l=true->bI l=true->(mw l a b g).ls.length=g.ls.length+aX l
 |[],_,_,g,_,_=>by simp[mw,aX]
 |t::r,a,b,g,hk,hs=>by
  unfold jg at hk
  unfold bI at hs
  simp only[IV]at hk hs
  unfold mw aX
  split
  ·rename_i hr
   have hr:r=[]:=by simpa using hr
   subst hr
   rw[fq t a b g hk.1 hs.1];simp[aX]
  rw[ng r _ _ _ hk.2 hs.2,fq t _ _ _ hk.1 hs.1]
  show g.ls.length+_+_=_
  omega
theorem nh:∀(l:List Nd) (a b:Nat) (g:Gr),jg l=true->bI l=true->(mz l a b g).ls.length=g.ls.length+aX l
 |[],_,_,g,_,_=>by simp[mz,aX]
 |t::r,a,b,g,hk,hs=>by
  unfold jg at hk
  unfold bI at hs
  simp only[IV]at hk hs
  unfold mz aX
  rw[nh r _ _ _ hk.2 hs.2,fq t _ _ _ hk.1 hs.1]
  omega
theorem uF:∀(l:List Nd) (a b:Nat) (g:Gr),jg l=true->bI l=true->l.length=1->(my l a b g).ls.length=g.ls.length+aX l
 |[],_,_,g,_,_,h=>by simp at h
 |t::r,a,b,g,hk,hs,h=>by
  have hr:r=[]:=by simpa using h
  subst hr
  unfold jg at hk
  unfold bI at hs
  simp only[IV]at hk hs
  unfold my
  rw[fq t _ _ _ hk.1 hs.1];simp[aX]
end
theorem lI:∀(xs:List Nd) (i:Nat) (g:Gr),jg xs=true->bI xs=true->(bM xs i g).ls.length=g.ls.length+aX xs
 |[],_,g,_,_=>by simp[bM,aX]
 |x::r,i,g,hk,hs=>by
  unfold jg at hk;unfold bI at hs;simp only[IV]at hk hs;unfold bM aX;rw[lI r _ _ hk.2 hs.2,mn,fq x _ _ _ hk.1 hs.1];show g.ls.length+_+_=_;omega
def tH(g:Gr):Nat:=(g.ks.map fun k=>k.2.1.length).sum
theorem pS(f:Kt->Nat):∀(l:List Kt) (a:Nat) (x:Kt),a<l.length->((l.set a x).map f).sum+f (nth l a)=(l.map f).sum+f x
 |[],a,_,h=>absurd h (J1 a)
 |y::l,0,x,_=>by rw[ao];simp;omega
 |y::l,a+1,x,h=>by
  have:=pS f l a x (by simpa using h);rw[aI];simp only[KZ,IH,Kx];omega
theorem CB(g:Gr):tH g.knot=tH g:=by simp[tH,Gr.knot]
theorem CG{g:Gr}{a b:Nat}(ha:a<g.ks.length):tH (g.free a b)=tH g:=by
 have:=pS (fun k=>k.2.1.length) g.ks a (g.fr a++[b],g.lv a,g.en a) ha;unfold tH Gr.free;simp only[Mh]at this ⊢;omega
theorem Cn{g:Gr}{a b:Nat}(ha:a<g.ks.length):tH (g.mark a b)=tH g:=by
 have:=pS (fun k=>k.2.1.length) g.ks a (g.fr a,g.lv a,b) ha;unfold tH Gr.mark;simp only[Mh]at this ⊢;omega
theorem Cu{g:Gr}{x c:Int}{a b:Nat}(ha:a<g.ks.length):tH (g.leaf x c a b)=tH g+1:=by
 have:=pS (fun k=>k.2.1.length) g.ks a (g.fr a,g.lv a++[g.ls.length+1],g.en a) ha;unfold tH Mp;simp only[Mh,J4,IQ,JM]at this ⊢;omega
def Tot(g:Gr):Prop:=tH g=g.ls.length
theorem Tot.knot{g:Gr}(h:Tot g):Tot g.knot:=(CB g).trans h
theorem Tot.free{g:Gr}(h:Tot g){a b:Nat}(ha:a<g.ks.length):Tot (g.free a b):=(CG ha).trans h
theorem Tot.mark{g:Gr}(h:Tot g){a b:Nat}(ha:a<g.ks.length):Tot (g.mark a b):=(Cn ha).trans h
theorem Tot.leaf{g:Gr}(h:Tot g){x c:Int}{a b:Nat}(ha:a<g.ks.length):Tot (g.leaf x c a b):=by
 unfold Tot;rw[Cu ha,jf];simp;exact h
theorem Tot.layO{g:Gr}(h:Tot g){k:Int}{i:Nat}(hi:i+1<g.ks.length):Tot (layO k g i):=by
 unfold Ja;split<;>split
 ·exact h
 ·exact h.free zo
 ·exact h.free hi
 exact(h.free zo).free (by rw[aO];exact hi)
mutual
theorem jS:∀(t:Nd) (a b:Nat) (g:Gr),WF g->a<g.ks.length->b<g.ks.length->Tot g->Tot (eU t a b g)
 |.mk k c l,a,b,g,h,ha,hb,hM=>by
  unfold eU
  split
  ·exact vY l a b g h ha hb hM
  split
  ·exact xc l a b g h ha hb hM
  split
  ·have hl:=dH g a b
   have hwf:=et h ha hb
   obtain⟨h1,h2⟩:=kW l g.ks.length (g.ks.length+1) (bu g a b) hwf zo zo
   have:=h2.len
   have hk2:g.knot.knot.ks.length=g.ks.length+2:=by rw[aE,aE]
   have h3:=Cz l g.ks.length (g.ks.length+1) (bu g a b) hwf zo zo ((hM.knot.knot.free zo).free (by rw[aO];omega))
   exact h3.layO (by show _<(my l g.ks.length (g.ks.length+1) (bu g a b)).ks.length;omega)
  split
  ·exact hM.free ha
  exact hM.leaf ha
theorem vY:∀(l:List Nd) (a b:Nat) (g:Gr),WF g->a<g.ks.length->b<g.ks.length->Tot g->Tot (mw l a b g)
 |[],_,_,g,_,_,_,hM=>hM
 |t::r,a,b,g,h,ha,hb,hM=>by
  unfold mw
  split
  ·exact jS t a b g h ha hb hM
  have hl:=aE g
  obtain⟨h1,h2⟩:=bU t a g.ks.length g.knot h.knot zo zo
  have:=h2.len
  exact vY r _ _ _ h1 zo zo (jS t _ _ _ h.knot zo zo hM.knot)
theorem xc:∀(l:List Nd) (a b:Nat) (g:Gr),WF g->a<g.ks.length->b<g.ks.length->Tot g->Tot (mz l a b g)
 |[],_,_,g,_,_,_,hM=>hM
 |t::r,a,b,g,h,ha,hb,hM=>by
  unfold mz
  obtain⟨h1,h2⟩:=bU t a b g h ha hb
  have:=h2.len
  exact xc r _ _ _ h1 zo zo (jS t a b g h ha hb hM)
theorem Cz:∀(l:List Nd) (a b:Nat) (g:Gr),WF g->a<g.ks.length->b<g.ks.length->Tot g->Tot (my l a b g)
 |[],_,_,g,_,_,_,hM=>hM
 |t::_,a,b,g,h,ha,hb,hM=>by
  unfold my
  exact jS t a b g h ha hb hM
end
theorem Cf{g:Gr}(h:WF g)(h0:0<g.ks.length)(x:Nd)(i:Nat)(ht:Tot g):Tot (mn x i g):=by
 have e1:=aE g;have e2:=cd g.knot g.ks.length (i+1);have e3:=aE (g.knot.mark g.ks.length (i+1));have hl:=dD g i;exact jS x _ _ _ (eh h h0 i).1 zo zo (((ht.knot.mark zo).knot).free zo)
theorem sY:∀(xs:List Nd) (i:Nat) (g:Gr),WF g->0<g.ks.length->Tot g->Tot (bM xs i g)
 |[],_,_,_,_,ht=>ht
 |x::r,i,g,h,h0,ht=>by
  obtain⟨h1,h2,h3⟩:=kP h h0 x i;exact sY r (i+1) _ h1 zo (Cf h h0 x i ht)
theorem pU(f:Kt->Nat)(l:List Kt):(l.map f).sum=((JG l.length).map fun i=>f (nth l i)).sum:=by
 congr 1;apply List.ext_getElem
 ·simp
 intro i h1 h2;simp only[Li,L0];rw[aC (by simpa using h1)]
theorem zy(f:Nat->Nat)(n:Nat):∀(l:List Nat),l.Nodup->(l.map f).sum<=((l.filter fun x=>x != n).map f).sum+f n
 |[],_=>by simp
 |a::l,h=>by
  have h':=Ln.1 h
  by_cases e:a=n
  ·subst e;have hf:(l.filter fun x=>x != a)=l:=JU.2 fun x hx=>by
    simp only[bne_iff_ne,ne_eq];intro e;exact h'.1 (by rw[<-e];exact hx)
   rw[KC (by simp),hf];simp;omega
  have:=zy f n l h'.2;rw[List.filter_cons_of_pos (by simpa using e)];simp only[IH,Kx];omega
theorem rz(f:Nat->Nat):∀(n:Nat) (l:List Nat),l.Nodup->(∀x∈l,x<n)->(l.map f).sum<=((JG n).map f).sum
 |0,l,_,h=>by
  have:l=[]:=by cases l with
   |nil=>rfl
   |cons a r=>exact absurd (h a (by simp)) (J1 _)
  subst this;simp
 |n+1,l,hn,h=>by
  have h1:=zy f n l hn;have h2:=rz f n (l.filter fun x=>x != n) (hn.filter _) fun x hx=>by
   have hx:=Ke.1 hx;have:=h x hx.1;have:x≠n:=by simpa using hx.2
   omega
  rw[List.range_succ,JL,List.sum_append];simp only[IH,J9,Kx,List.sum_nil];omega
theorem tW{g:Gr}(hw:WF g){k:Nat}(hk:k<g.ks.length):(eO g k).Nodup/\∀x∈eO g k,x<g.ks.length:=by
 have a0:∀(n i:Nat) (l:List Nat),Rc g k i l->(gp g n i l).Nodup/\∀x∈gp g n i l,x<g.ks.length:=fun n=>by
  induction n with
  |zero=>exact fun i l h=>⟨h.nd,h.lt⟩
  |succ n ih=>
   intro i l h;unfold gp
   split
   ·rename_i hi;exact ih _ _ (h.step hw hi)
   exact⟨h.nd,h.lt⟩
 exact a0 _ _ _ (qS hk)
theorem sO(f:Nat->List Nat):∀(l:List Nat),(l.flatMap f).length=(l.map fun k=>(f k).length).sum
 |[]=>rfl
 |a::l=>by simp
theorem vS{g:Gr}(hw:WF g)(ht:Tot g){p:Nat}(hp:g.pl p<g.ks.length):(cB g p).length<=g.ls.length:=by
 obtain⟨h1,h2⟩:=tW hw hp;unfold cB;rw[sO];have:=rz (fun k=>(g.lv k).length) g.ks.length _ h1 h2;have e:((JG g.ks.length).map fun k=>(g.lv k).length).sum=tH g:=(pU (fun k=>k.2.1.length) g.ks).symm;rw[e,ht]at this;exact this
def FR(se:Bool)(g:Gr)(s:List Int)(m:Int):List Int:=
 (if se=true then [0]else [])++s.flatMap fun p=>((cB g p.toNat).filter fun j=>bY (nth g.ls (j-1)).1 (nth g.ls (j-1)).2.1 m).map fun(j:Nat)=>(j:Int)
def cA(se:Bool)(g:Gr)(s:List Int)(m:Int):List Int:=pD (FR se g s m)
theorem mH(se:Bool)(g:Gr):Stp g se (cA se g):=⟨fun s m x=>by
 unfold cA FR;rw[sW,Kf,List.mem_flatMap]
 constructor
 ·rintro(h|⟨p,hp,h⟩)
  ·cases se with
   |true=>rw[if_pos rfl]at h;exact .inl ⟨rfl,IP.1 h⟩
   |false=>rw[if_neg zd]at h;simp at h
  obtain⟨j,hj,rfl⟩:=Jq.1 h;obtain⟨h1,h2⟩:=Ke.1 hj;exact .inr ⟨p,hp,j,h1,rfl,h2⟩
 rintro(⟨h,rfl⟩|⟨p,hp,j,h1,rfl,h2⟩)
 ·rw[if_pos h];exact .inl (by simp)
 exact .inr ⟨p,hp,Jq.2 ⟨j,Ke.2 ⟨h1,h2⟩,rfl⟩⟩⟩
theorem BX{se:Bool}{g:Gr}(hw:WF g)(h0:0<g.ks.length){s:List Int}(hs:inP g s)(m:Int):(cA se g s m).length<=g.ls.length+1:=
 B8 (xo _) fun x hx=>by have:=tL hw h0 (mH se g) hs m x hx;exact⟨this.1,zo⟩
theorem DH{se:Bool}{g:Gr}(hw:WF g)(h0:0<g.ks.length)(ht:Tot g){m:Int}:∀ {s:List Int},inP g s->(FR se g s m).length<=1+s.length*g.ls.length:=fun {s} hs=>by
 have a0:∀(s:List Int),inP g s->(s.flatMap fun p=>((cB g p.toNat).filter fun j=>bY (nth g.ls (j-1)).1 (nth g.ls (j-1)).2.1 m).map fun(j:Nat)=>(j:Int)).length<=s.length*g.ls.length:=fun s=>by
  induction s with
  |nil=>intro _;simp
  |cons p s ih=>
   intro h;have h1:=ih fun x hx=>h x (by simp[hx])
   have h2:=vS hw ht (og hw h0 (h p (by simp)).2);have h3:=List.length_filter_le (fun j=>bY (nth g.ls (j-1)).1 (nth g.ls (j-1)).2.1 m) (cB g p.toNat);simp only[Jy,J4,Kg,IQ,KS,M0];omega
 have:=a0 s hs;unfold FR;rw[J4]
 split
 ·rw[Jl];omega
 rw[JM];omega
def BN(S:List (List Int))(s:List Int):Option Nat:=S.findIdx? (· == s)
def BL(S:List (List Int))(s:List Int):Nat:=(BN S s).getD S.length
def qn(S:List (List Int))(s:List Int):List (List Int):=if(BN S s).isSome=true then S else S++[s]
theorem AL{S:List (List Int)}{s:List Int}{k:Nat}(h:BN S s=some k):k<S.length/\nth S k=s:=by
 obtain⟨h1,h2,_⟩:=IX.1 h;exact⟨h1,by rw[aC h1];simpa using h2⟩
theorem vQ(S:List (List Int))(s:List Int):∃r,qn S s=S++r:=by
 unfold qn
 split
 ·exact⟨[],by simp⟩
 exact⟨_,rfl⟩
theorem DQ(S:List (List Int))(s:List Int):BL S s<(qn S s).length/\nth (qn S s) (BL S s)=s:=by
 unfold BL qn
 cases h:BN S s with
 |some k=>exact AL h
 |none=>
  simp only[Option.getD_none,Option.isSome_none,L3,if_false];exact⟨by simp,by rw[aA,if_neg zo,JK,ao]⟩
theorem Ch(S:List (List Int))(s:List Int):S.length<=(qn S s).length/\(qn S s).length<=S.length+1:=by
 unfold qn
 split
 ·omega
 simp
theorem Cg{S:List (List Int)}{s:List Int}{k:Nat}(h:k<S.length):nth (qn S s) k=nth S k:=by
 obtain⟨r,hr⟩:=vQ S s;rw[hr,aA,if_pos h]
def df(step:List Int->Int->List Int)(s:List Int)(S:List (List Int)):Nat->List (List Int)×List Nat
 |0=>(S,[])
 |m+1=>(qn (df step s S m).1 (step s (m:Nat)),(df step s S m).2++[BL (df step s S m).1 (step s (m:Nat))])
structure RowI(step:List Int->Int->List Int)(s:List Int)(S S':List (List Int))(r:List Nat)(m:Nat):Prop where
 pre:∃q,S'=S++q
 top:S'.length<=S.length+m
 len:r.length=m
 lt:∀j,j<m->nth r j<S'.length/\nth S' (nth r j)=step s (j:Nat)
 mem:∀x∈S',x∈S\/∃j:Nat,j<m/\x=step s (j:Nat)
theorem jJ(step:List Int->Int->List Int)(s:List Int)(S:List (List Int)):∀m,RowI step s S (df step s S m).1 (df step s S m).2 m
 |0=>⟨⟨[],by simp[df]⟩,by simp[df],rfl,fun j hj=>absurd hj (J1 j),fun x hx=>.inl hx⟩
 |m+1=>by
  have ih:=jJ step s S m;unfold df;generalize df step s S m=R at *;obtain⟨S1,r⟩:=R;dsimp only at ih ⊢;obtain⟨q,hq⟩:=ih.pre;obtain⟨q2,a4⟩:=vQ S1 (step s (m:Nat));have a5:=DQ S1 (step s (m:Nat));have hl:=Ch S1 (step s (m:Nat));have a0:=ih.top;have a3:=ih.len;refine⟨⟨q++q2,by rw[a4,hq,L8]⟩,zo,by simp[a3],fun j hj=>?_,fun x hx=>?_⟩
  ·rw[aA]
   by_cases e:j<r.length
   ·rw[if_pos e];obtain⟨a1,a2⟩:=ih.lt j zo;exact⟨zo,by rw[Cg a1];exact a2⟩
   rw[if_neg e,show j-r.length=0 from by omega,ao];obtain rfl:j=m:=zo;exact a5
  unfold qn at hx
  split at hx
  ·rcases ih.mem x hx with h|⟨j,hj,e⟩
   ·exact .inl h
   exact .inr ⟨j,zo,e⟩
  rcases Kf.1 hx with hx|hx
  ·rcases ih.mem x hx with h|⟨j,hj,e⟩
   ·exact .inl h
   exact .inr ⟨j,zo,e⟩
  exact .inr ⟨m,zo,IP.1 hx⟩
def D8(step:List Int->Int->List Int)(tells:List Int->Nat):Nat->Nat->List (List Int)->List (List Nat)->List Nat->Option (List (List Nat)×List Nat)
 |0,_,_,_,_=>none
 |n+1,i,S,rows,tls=>
  if i<S.length then
   if 1000<(df step (nth S i) S 37).1.length then none
   else D8 step tells n (i+1) (df step (nth S i) S 37).1 (rows++[(df step (nth S i) S 37).2]) (tls++[tells (nth S i)])
  else some (rows,tls)
def CK(step:List Int->Int->List Int)(a0:List Int->Nat):Option (List (List Nat)×List Nat):=D8 step a0 1002 0 [[0]] [] []
structure DI(step:List Int->Int->List Int)(tells:List Int->Nat)(i:Nat)(S:List (List Int))(rows:List (List Nat))(tls:List Nat):Prop where
 le:i<=S.length
 rl:rows.length=i
 tl:tls.length=i
 p0:0<S.length
 fst:nth S 0=[0]
 len:S.length<=1000
 row:∀j,j<i->(nth rows j).length=37/\∀m:Nat,m<37->nth (nth rows j) m<S.length/\nth S (nth (nth rows j) m)=step (nth S j) (m:Nat)
 tel:∀j,j<i->nth tls j=tells (nth S j)
theorem xF(step:List Int->Int->List Int)(a0:List Int->Nat):DI step a0 0 [[0]] [] []:=⟨zd,rfl,rfl,zd,ao _ _,zd,fun j hj=>absurd hj (J1 j),fun j hj=>absurd hj (J1 j)⟩
theorem DI.next{step:List Int->Int->List Int}{a3:List Int->Nat}{i:Nat}{S:List (List Int)}{rows:List (List Nat)}{a4:List Nat}(h:DI step a3 i S rows a4)(hi:i<S.length)(hl:(df step (nth S i) S 37).1.length<=1000):
  DI step a3 (i+1) (df step (nth S i) S 37).1 (rows++[(df step (nth S i) S 37).2]) (a4++[a3 (nth S i)]):=by
 have hr:=jJ step (nth S i) S 37;generalize df step (nth S i) S 37=R at *;obtain⟨S1,r⟩:=R;dsimp only at hr hl ⊢;obtain⟨q,hq⟩:=hr.pre;have a0:∀k,k<S.length->nth S1 k=nth S k:=fun k hk=>by rw[hq,aA,if_pos hk]
 have a5:S.length<=S1.length:=by rw[hq];simp
 have h1:=h.rl;have h2:=h.tl;have h3:=h.p0;refine⟨zo,by simp[h1],by simp[h2],zo,by rw[a0 0 h3];exact h.fst,hl,fun j hj=>?_,fun j hj=>?_⟩
 ·rw[aA]
  by_cases e:j<rows.length
  ·rw[if_pos e];obtain⟨a1,a2⟩:=h.row j zo;refine⟨a1,fun m hm=>?_⟩;obtain⟨b1,b2⟩:=a2 m hm;exact⟨zo,by rw[a0 _ b1,a0 j zo];exact b2⟩
  rw[if_neg e,show j-rows.length=0 from by omega,ao];obtain rfl:j=i:=zo;refine⟨hr.len,fun m hm=>?_⟩;obtain⟨b1,b2⟩:=hr.lt m hm;exact⟨b1,by rw[a0 j hi];exact b2⟩
 rw[aA]
 by_cases e:j<a4.length
 ·rw[if_pos e,a0 j zo];exact h.tel j zo
 rw[if_neg e,show j-a4.length=0 from by omega,ao];obtain rfl:j=i:=zo;rw[a0 j hi]
theorem sT{step:List Int->Int->List Int}{a0:List Int->Nat}:∀(n i:Nat) (S:List (List Int)) (rows:List (List Nat)) (a1:List Nat) (d:List (List Nat)×List Nat),DI step a0 i S rows a1->D8 step a0 n i S rows a1=some d->∃S',DI step a0 S'.length S' d.1 d.2
 |0,_,_,_,_,_,_,h=>by cases h
 |n+1,i,S,rows,a1,d,hd,h=>by
  unfold D8 at h
  split at h
  ·rename_i hi
   split at h
   ·cases h
   exact sT n _ _ _ _ d (hd.next hi zo) h
  rename_i hi
  cases h
  have:=hd.le;obtain rfl:i=S.length:=zo;exact⟨S,hd⟩
theorem nu{step:List Int->Int->List Int}{a0:List Int->Nat}{d:List (List Nat)×List Nat}(h:CK step a0=some d):∃S,DI step a0 S.length S d.1 d.2:=sT _ _ _ _ _ d (xF _ _) h
def iX(rows:List (List Nat))(w:List Nat)(q:Nat):Nat:=w.foldl (fun q m=>nth (nth rows q) m) q
theorem vK{step:List Int->Int->List Int}{a0:List Int->Nat}{S:List (List Int)}{rows:List (List Nat)}{a3:List Nat}(h:DI step a0 S.length S rows a3):∀(w:List Nat),(∀m∈w,m<37)->∀q,q<S.length->iX rows w q<S.length/\nth S (iX rows w q)=w.foldl (fun s (m:Nat)=>step s (m:Int)) (nth S q)
 |[],_,q,hq=>⟨hq,rfl⟩
 |m::w,hw,q,hq=>by
  obtain⟨a1,a2⟩:=(h.row q hq).2 m (hw m (by simp));have:=vK h w (fun x hx=>hw x (by simp[hx])) _ a1;rw[a2]at this;exact this
def tu(s:List Int):List UInt8:=s.flatMap fun p=>[Ju (p.toNat / 256),Ju (p.toNat % 256)]
def okS(s:List Int):Prop:=∀x∈s,0<=x/\x.toNat<=999
theorem xe:∀ {s t:List Int},okS s->okS t->tu s=tu t->s=t
 |[],[],_,_,_=>rfl
 |[],b::t,_,_,h=>by simp[tu]at h
 |a::s,[],_,_,h=>by simp[tu]at h
 |a::s,b::t,hs,ht,h=>by
  have h1:=hs a (by simp);have h2:=ht b (by simp);unfold tu at h;simp only[Jy,Ka,Lo,Jz]at h;obtain⟨e1,e2,e3⟩:=h;have e1:=congrArg LG e1;have e2:=congrArg LG e2;simp only[UInt8.toNat_ofNat']at e1 e2;have:a=b:=zo;subst this;rw[xe (fun x hx=>hs x (by simp[hx])) (fun x hx=>ht x (by simp[hx])) e3]
end Go.Proofs.YteolbhblkgjbhaaGreatDoor
namespace Go.VL
section
open Go.ChangeMaps (setBlock)
section
variable{κ ν:Type}[DecidableEq κ]{kv:κ→I1}{vv:ν→I1}
def oE:List (κ×ν)->κ->List (κ×ν)
 |[],_=>[]
 |(a,y)::r,k=>if a=k then r else(a,y)::oE r k
theorem iA:∀(l:List (κ×ν)) (k:κ),oE l k=match iz l k with
  |some i=>l.eraseIdx i
  |none=>l
 |[],k=>rfl
 |(a,y)::r,k=>by
  simp only[oE,iz]
  by_cases h:a=k
  ·simp[h]
  simp only[if_neg h];rw[iA r k]
  cases iz r k<;>simp
theorem map_eraseIdx{α β:Type}(f:α->β)(l:List α)(j:Nat):(l.eraseIdx j).map f=(l.map f).eraseIdx j:=by
 simp[Jj,Ky,LA]
theorem eN{O:Nat->Nat}{w:ln}{i r:Nat}(o:Obj)(ht:O r=i)(a0:i≠0):IK (fun j=>j=i) O w O (setBlock w r o):=by
 refine⟨rfl,rfl,rfl,by simp[setBlock],fun b _ hn=>?_,fun _ _=>rfl,fun _ h=>.inl h,fun h=>a0 h.symm⟩;simp only[setBlock,Kd]
 rw[if_neg (fun e=>hn (by rw[<-e];exact ht))]
theorem ei{w:ln}{r:Nat}{o o':Obj}(h:w.heap[r]? = some o):(setBlock w r o').heap[r]? = some o':=by
 have:=bq h;simp[setBlock,this]
theorem nY{P:J0}{T K E ty U:I9}(hT:P.underlying T=some (.map K E))(hK:Mo P K kv){O:Nat->Nat}{w:ln}{i r:Nat}{l:List (κ×ν)}(h:Kr kv vv O w i r l)(a8:i≠0)(k:κ):
  ∃w',(K2 #[T,U] ty #[.map (some r),kv k]).run P w=.ok (.tuple #[]) w'/\Kr kv vv O w' i r (oE l k)/\IK (fun j=>j=i) O w O w':=by
 obtain⟨es,c,h1,h2⟩:=h.blk;have a3:=h.born es c h1;have a6:es.toList.map (·.key)=(l.map (·.1)).map kv:=by
  have:=congrArg (M9 Lv) h2;simpa[KH]using this
 have hf:=hK.find k es.toList (l.map (·.1)) w a6;rw[dQ]at hf;have hc:=hK.check es.isEmpty 9998 k w;have hr:=bq h1;have a5:∀(a1:Array IT) (c':Nat),((a1.toList.map (·.born)).Nodup/\∀e∈a1.toList,e.born<c')->a1.toList.map (fun e=>(e.key,e.val))=(oE l k).map (fun p=>(kv p.1,vv p.2))->
   Kr kv vv O (setBlock w r (.map a1 c')) i r (oE l k)/\IK (fun j=>j=i) O w O (setBlock w r (.map a1 c')):=fun a1 c' hb he=>
  ⟨⟨⟨a1,c',ei h1,he⟩,h.tag,fun a9 c2 h2=>by rw[ei h1]at h2;cases h2;exact hb⟩,eN _ h.tag a8⟩
 have a2:(K2 #[T,U] ty #[.map (some r),kv k]).run P w=((match ((iz l k).bind fun i=>(es.toList[i]?).map fun e=>(i,e.val))with
   |some (i,_)=>do setObj r (.map (es.eraseIdxIfInBounds i) c);pure (.tuple #[])
   |none=>do setObj r (.map es c);pure (.tuple #[]):Sem I1)).run P w:=by
  simp only[K2,List.getElem?_toArray,List.getElem?_cons_zero,List.getElem?_cons_succ,I7,run_underlying hT,I4];simp only[getObj,JT,h1,I7,I4,hc,hf];generalize ((iz l k).bind fun i=>KP (fun e=>(i,e.val)) es.toList[i]?)=q
  cases q with
  |none=>rfl
  |some p=>rfl
 rw[a2,iA];have a0:∀a1,(do setObj r (.map a1 c);pure (.tuple #[]):Sem I1).run P w=.ok (.tuple #[]) (setBlock w r (.map a1 c)):=fun a1=>by
  simp[setObj,JT,h1,setBlock]
 cases hi:iz l k with
 |none=>
  refine⟨_,by simp only[KY];exact a0 es,?_⟩;have:=a5 es c a3 (by rw[iA,hi];exact h2);rw[iA,hi]at this;exact this
 |some j=>
  obtain⟨y,hy⟩:=gO hi;have a4:j<es.toList.length:=by
   have hl:=congrArg LQ h2;simp only[Kg]at hl;have:=(Jv.1 hy).1;omega
  refine⟨_,by simp only[KX,Kz a4,K7];exact a0 _,?_⟩
  have a7:j<es.size:=by simpa using a4
  have e1:(es.eraseIdxIfInBounds j).toList=es.toList.eraseIdx j:=by
   simp[Array.eraseIdxIfInBounds,a7]
  have:=a5 (es.eraseIdxIfInBounds j) c ⟨by
    rw[e1,Jj,JL,Ky,LA];have hs:(M4 j (es.toList.map (·.born))++List.drop (j+1) (es.toList.map (·.born))).Sublist (es.toList.map (·.born)):=by
     rw[<-Jj];exact KF _ _
    exact hs.nodup a3.1,fun e he=>a3.2 e (by rw[e1]at he;exact(KF _ _).mem he)⟩ (by
   rw[iA,hi,e1];have h3:=congrArg (fun l=>l.eraseIdx j) h2
   rw[map_eraseIdx,map_eraseIdx];exact h3)
  rw[iA,hi]at this;exact this
structure RangeO(kv:κ->I1)(vv:ν->I1)(O:Nat->Nat)(w:ln)(i j r q:Nat)(left:List (κ×ν))(cur:Option (κ×ν)):Prop where
 ex:∃es clock seen c0,w.heap[r]? = some (.map es clock)/\w.heap[q]? = some (.mapIter (some r) clock seen c0)/\clock<=c0/\(es.toList.map (·.born)).Nodup/\(∀e∈es.toList,e.born<clock)/\
  (leftOf es seen).toList.map (fun e=>(e.key,e.val))=left.map (fun p=>(kv p.1,vv p.2))/\∀p,cur=some p->∃(e:IT) (s0:Array Nat),e∈es.toList/\seen=s0.push e.born/\c0=clock/\e.key=kv p.1/\e.val=vv p.2
 tag:O r=i
 tagq:O q=j
end
section
variable{κ ν:Type}{kv:κ→I1}{vv:ν→I1}
theorem RangeO.upd{S:Nat->Prop}{O O':Nat->Nat}{w w':ln}{i j r q:Nat}{left:List (κ×ν)}{a1:Option (κ×ν)}(h:RangeO kv vv O w i j r q left a1)(u:IK S O w O' w')(hi:i≠0)(hj:j≠0)(hS:¬S i)(a2:¬S j):RangeO kv vv O' w' i j r q left a1:=by
 obtain⟨es,c,a0,c0,h1,h2,h3⟩:=h.ex;have e1:=u.blk r (bq h1) (by rw[h.tag];exact hS);have e2:=u.blk q (bq h2) (by rw[h.tagq];exact a2);exact⟨⟨es,c,a0,c0,by rw[e1];exact h1,by rw[e2];exact h2,h3⟩,by rw[u.tag r (by rw[h.tag];exact hi),h.tag],by rw[u.tag q (by rw[h.tagq];exact hj),h.tagq]⟩
end
section
variable{κ ν:Type}[DecidableEq κ]{kv:κ→I1}{vv:ν→I1}
theorem uO{es:List IT}{e:IT}{a1 a0:List IT}(hn:(es.map (·.born)).Nodup)(p:IT->Bool)(h:es.filter p=a1++e::a0):es.filter (fun x=>p x && !(x.born==e.born))=a1++a0:=by
 have h1:es.filter (fun x=>p x && !(x.born==e.born))=(es.filter p).filter (fun x=>!(x.born==e.born)):=by
  rw[List.filter_filter];congr 1;funext x;exact Bool.and_comm _ _
 have a2:((a1++e::a0).map (·.born)).Nodup:=by rw[<-h];exact((List.filter_sublist (p:=p) (l:=es)).map _).nodup hn
 rw[h1,h,List.filter_append,KC (by simp)];simp only[JL,IH]at a2;have hd:=L7.1 a2;congr 1
 ·refine JU.2 fun x hx=>?_
  have:=hd.2.2 x.born (Jq.2 ⟨x,hx,rfl⟩) e.born (by simp);simpa using this
 refine JU.2 fun x hx=>?_
 have:=(Ln.1 hd.2.1).1;simp only[JY,beq_eq_false_iff_ne,ne_eq];intro hc;exact this (by rw[<-hc];exact Jq.2 ⟨x,hx,rfl⟩)
theorem As{α β γ:Type}{f:α->γ}{g:β->γ}:∀ {l:List α} {m:List β} {a0 a1:List α} {e:α},l.map f=m.map g->l=a0++e::a1->∃pre' x suf',m=pre'++x::suf'/\f e=g x/\(a0++a1).map f=(pre'++suf').map g:=by
 intro l m a0
 induction a0 generalizing l m with
 |nil=>
  intro a1 e h hl;subst hl
  cases m with
  |nil=>simp at h
  |cons x m=>
   simp only[Lo,IH,Jz]at h;exact⟨[],x,m,rfl,h.1,h.2⟩
 |cons a a0 ih=>
  intro a1 e h hl;subst hl
  cases m with
  |nil=>simp at h
  |cons x m=>
   simp only[Ka,IH,Jz]at h;obtain⟨p,y,s,rfl,h1,h2⟩:=ih h.2 rfl;exact⟨x::p,y,s,rfl,h1,by simp only[Ka,IH,h.1,h2]⟩
end
section
variable{κ ν:Type}[DecidableEq κ]{kv:κ→I1}{vv:ν→I1}
variable{P:J0}{N:Nat}{ops:Array JP}{Q:KJ→Ly→ln→Prop}{rest:List JP}{st:St}{w:ln}
variable{t:I9}{p:String}{e:Array KU}{d:Nat}{x y z:Jp}
theorem WL.delete{T K E U:I9}{O:Nat->Nat}{i r:Nat}{l:List (κ×ν)}(hm:Kr kv vv O w i r l)(hT:P.underlying T=some (.map K E))(hK:Mo P K kv)(a1:i≠0) 
  (k:κ) {kx:I1} (hx:ev st x=some (.map (some r))) (hy:ev st y=some kx) (hk:kx=kv k)
  (h:∀w',Kr kv vv O w' i r (oE l k)->IK (fun j=>j=i) O w O w'->WL P N ops Q rest st w'):WL P N ops Q (⟨none,.call ⟨.builtin .delete,#[x,y],#[T,U]⟩,t,p,e,none⟩::rest) st w:=by
 subst hk;obtain⟨w',h1,h2,h3⟩:=nY (ty:=t) (U:=U) hT hK hm a1 k;refine Ml rfl fun a ha=>?_
 unfold Me;have a0:(execOp a.eval ⟨none,.call ⟨.builtin .delete,#[x,y],#[T,U]⟩,t,p,e,none⟩).run P w=.ok (.value (.tuple #[])) w':=by
  simp only[execOp,resolve,invoke,builtin,I7,IN,I4,J8,IH,J9,ha.ev hx,ha.ev hy,h1]
 rw[a0];exact h w' h2 h3 _ ha
end
section
variable{κ ν:Type}{kv:κ→I1}{vv:ν→I1}
variable{P:J0}{N:Nat}{ops:Array JP}{Q:KJ→Ly→ln→Prop}{rest:List JP}{st:St}{w:ln}
variable{t:I9}{p:String}{e:Array KU}{d:Nat}{x y z:Jp}
theorem nM{T K E:I9}{B:Nat}{O:Nat->Nat}{i r:Nat}{l:List (κ×ν)}(hm:Kr kv vv O w i r l)(hT:P.underlying T=some (.map K E))(hR:Km B O w)(j:Nat)(hj:j≠0)(_:i≠0)(hx:ev st x=some (.map (some r)))(hd:Jn d N=true) 
  (h:∀q w' O',RangeO kv vv O' w' i j r q l none->Kr kv vv O' w' i r l->IK (fun k=>k=j) O w O' w'->Km B O' w'->WL P N ops Q rest ((d,nP q)::st) w'):WL P N ops Q (⟨some d,.range T x,t,p,e,none⟩::rest) st w:=by
 obtain⟨es,c,h1,h2⟩:=hm.blk;have a1:=hm.born es c h1;have a0:=bq h1;have hU:=Kc (S:=fun k=>k=j) (fun e=>hj e.symm) hR (.mapIter (some r) c #[] c) j;refine KL hd (fun a ha=>by simp only[execOp,ha.ev hx,I7,run_range_map w _ _ _ _ _ _ hT h1,I4,IN]) (h w.heap.size _ (kN O w.heap.size j) ⟨⟨es,c,#[],c,?_,heap_alloc_new w _,I0 _,a1.1,a1.2,?_,fun p hp=>by cases hp⟩,?_,dS _ _ _⟩ ⟨⟨es,c,?_,h2⟩,?_,fun a2 c' h'=>hm.born a2 c' (by rw[heap_alloc_old w _ a0]at h';exact h')⟩ hU (hR.upd hU))
 ·rw[heap_alloc_old w _ a0];exact h1
 ·unfold leftOf;have e1:es.filter (fun e=>!(#[]:Array Nat).contains e.born)=es:=Array.filter_eq_self.2 (by simp);rw[e1];exact h2
 ·unfold kN;rw[if_neg zo];exact hm.tag
 ·rw[heap_alloc_old w _ a0];exact h1
 unfold kN;rw[if_neg zo];exact hm.tag
theorem pM{O:Nat->Nat}{i j r q:Nat}{left:List (κ×ν)}{b4:Option (κ×ν)}(hm:RangeO kv vv O w i j r q left b4)(b2:j≠0)(b3:i≠j)(hx:ev st x=some (nP q))(hd:Jn d N=true) 
  (h0:left=[]->WL P N ops Q rest ((d,.tuple #[.bool false])::st) w)
  (h1:∀a' a b a8 w',left=a'++(a,b)::a8->RangeO kv vv O w' i j r q (a'++a8) (some (a,b))->IK (fun k=>k=j) O w O w'->WL P N ops Q rest ((d,.tuple #[.bool true,kv a,vv b])::st) w'):WL P N ops Q (⟨some d,.next x false,t,p,e,none⟩::rest) st w:=by
 obtain⟨es,c,a0,c0,g1,g2,g3,g4,g5,g6,g7⟩:=hm.ex
 rcases Go.run_next_at (P:=P) w t q r c c0 a0 es c g2 g1 g5 g3 with⟨hs,a2⟩|⟨en,b0,w1,a5,a2⟩
 ·refine KL hd (fun a ha=>by simp only[execOp,ha.ev hx,I7,a2,I4,IN]) (h0 ?_);have h3:=congrArg LQ g6;simp only[Kg,Array.length_toList,hs]at h3;exact IS h3.symm
 obtain⟨a',a8,a6⟩:=List.append_of_mem b0;obtain⟨a9,⟨a,b⟩,a7,rfl,a4,a3⟩:=As g6 a6;simp only[Mn]at a4;have a1:∀(a:Ly),Mf N a st->(execOp a.eval ⟨some d,.next x false,t,p,e,none⟩).run P w=.ok (.value (.tuple #[.bool true,en.key,en.val])) (setBlock w1 q (.mapIter (some r) c (a0.push en.born) c)):=fun a ha=>by
  simp only[execOp,ha.ev hx,I7,a2,I4,IN]
 rw[a4.1,a4.2]at a1;have hw:w1.heap=w.heap:=by rcases a5 with rfl|rfl<;>rfl
 have b1:en∈es.toList:=by
  have:en∈(leftOf es a0):=by simpa using b0
  unfold leftOf at this;rw[Array.mem_filter]at this;simpa using this.1
 refine KL hd a1 (h1 a9 a b a7 _ rfl ⟨⟨es,c,a0.push en.born,c,?_,ei (by rw[hw];exact g2),I0 _,g4,g5,?_,fun p hp=>?_⟩,hm.tag,hm.tagq⟩ ?_)
 ·simp only[setBlock,Kd];rw[if_neg (fun e=>b3 (by rw[<-hm.tag,<-hm.tagq,e])),hw];exact g1
 ·rw[<-a3];unfold leftOf at a6 ⊢;rw[Array.toList_filter]at a6 ⊢;rw[<-uO g4 _ a6];congr 2;funext x;simp;rfl
 ·cases hp
  exact⟨en,a0,b1,rfl,rfl,a4.1,a4.2⟩
 have hU:=eN (w:=w1) (.mapIter (some r) c (a0.push en.born) c) hm.tagq b2;exact⟨by rw[hU.os];rcases a5 with rfl|rfl<;>rfl,by rw[hU.tape];rcases a5 with rfl|rfl<;>rfl,by rw[hU.output];rcases a5 with rfl|rfl<;>rfl,by have:=hU.size;rw[hw]at this;exact this,fun b hb hn=>by have:=hU.blk b (by rw[hw];exact hb) hn;rw[hw]at this;exact this,hU.tag,fun b hb=>.inl hb,hU.z⟩
theorem RV.entry{O:Nat->Nat}{i j r q:Nat}{left:List (κ×ν)}{a:κ}{b:ν}(hm:RangeO kv vv O w i j r q left (some (a,b)))(hx:ev st x=some (nP q)):RV P N (.entry x) t st w (.tuple #[kv a,vv b]):=
 fun ac ha a1 p e g=>by
  obtain⟨es,c,a0,c0,g1,g2,g3,g4,g5,g6,g7⟩:=hm.ex;obtain⟨en,s0,e1,rfl,rfl,e2,e3⟩:=g7 _ rfl;simp only[execOp,ha.ev hx,I7,run_entry_at w q r c0 s0 es c0 en g2 g1 e1 g4,I4,IN,e2,e3]
end
abbrev dP(p:Int×Int):I1:=.agg #[nI p.1,nI p.2]
theorem BE{P:J0}{K I:I9}(hK:P.underlying K=some (.array 2 I))(hI:P.underlying I=some (.int .i64))(a3:(P.info? I).isSome=true)(hc:P.cellsOf I=1):Mo P K dP:=by
 obtain⟨i,hi⟩:=Option.isSome_iff_exists.1 a3;have hA:∀w,(isAgg I).run P w=.ok false w:=fun w=>by simp[isAgg,run_underlying hI]
 have a0:∀(a b:Int) (w:ln),(part I #[nI a,nI b] 0).run P w=.ok (nI a) w/\(part I #[nI a,nI b] 1).run P w=.ok (nI b) w:=fun a b w=>by
  constructor<;>simp[part,hA]
 have a5:∀b n k (w:ln),(Kl b (n+1) I (nI k)).run P w=.ok () w:=fun b n k w=>by simp[Kl,run_underlying hI]
 have a4:∀(a b:Int×Int) (w:ln),(Mg K (dP a) (dP b)).run P w=.ok (decide (a=b)) w:=fun a b w=>by
  have h1:∀d (x y:Int) (w:ln),(Le (d+1) I (nI x) (nI y)).run P w=.ok (x==y) w:=fun d x y w=>by simp[Le,run_underlying hI]
  obtain⟨a1,a2⟩:=a;obtain⟨b1,b2⟩:=b;have h2:∀(x y:Int) (w:ln),(Le 9999 I (nI x) (nI y)).run P w=.ok (x==y) w:=fun x y w=>h1 9998 x y w
  unfold Mg Op.maxDepth;rw[run_equalIn_array w 9999 _ _ hK hi,hc];simp only[show JG 2=[0,1]from rfl,Op.eqItems,I7,KE,M0,(a0 a1 a2 w).1,(a0 b1 b2 w).1,h2,I4]
  by_cases e1:a1=b1
  ·by_cases e2:a2=b2
   ·subst e1;subst e2;simp[a0,h2]
   subst e1;simp[e2,a0,h2]
  simp[e1]
 refine⟨fun b n k w=>?_,fun k es ks w h=>?_,fun k=>?_⟩
 ·obtain⟨k1,k2⟩:=k;unfold Kl;simp only[I7,run_underlying hK,I4];simp only[Lu,Lt,LO,Nat.add_one_sub_one,Nat.div_one];simp[List.range',run_sizeOf w hi,hc,a0,a5]
 ·have key:∀(es:List IT) (ks:List (Int×Int)) (j:Nat) (w:ln),es.map (·.key)=ks.map dP->
    (K1 K (dP k) es j).run P w=.ok ((ks.findIdx? (· = k)).bind fun i=>(es[i]?).map fun e=>(j+i,e.val)) w:=by
   intro es
   induction es with
   |nil=>intro ks j w h;cases ks with
    |nil=>simp[K1]
    |cons a r=>simp at h
   |cons e es ih=>
    intro ks j w h
    cases ks with
    |nil=>simp at h
    |cons a r=>
     simp only[IH,Jz]at h;simp only[K1,I7,h.1,a4,I4]
     by_cases hk:k=a
     ·subst hk;simp[L1]
     rw[decide_eq_false hk];simp only[L3,if_false];rw[ih r (j+1) w h.2];simp only[L1,decide_eq_true_eq];rw[if_neg (fun e=>hk e.symm)]
     cases hf:List.findIdx? (fun x=>decide (x=k)) r with
     |none=>simp
     |some i=>simp[LH,LP 1]
  have:=key es ks 0 w h;simp only[LN]at this;unfold Instr.findKey;simp only[I7,run_underlying hK,I4]
  cases es with
  |nil=>
   cases ks with
   |nil=>simp[Lx]
   |cons a r=>simp at h
  |cons e es=>simpa[Lx,Instr.sameNow]using this
 simp[Instr.sameBits]
section
variable{κ ν:Type}[DecidableEq κ]{kv:κ→I1}{vv:ν→I1}
theorem sk(es:Array IT)(i:Nat)(f g h:IT->IT)(hf:∀x,g (f x)=h x):(es.modify i f).modify i g=es.modify i h:=by
 apply KV;intro j;simp only[Jk]
 by_cases hj:i=j
 ·simp only[if_pos hj];cases es[j]?<;>simp[hf]
 simp only[if_neg hj]
theorem tZ(es:Array IT)(a:IT)(f:IT->IT):(es.push a).modify es.size f=es.push (f a):=by
 apply KV;intro j;simp only[Jk,Array.getElem?_push]
 by_cases hj:j=es.size
 ·subst hj;simp
 rw[if_neg (fun e=>hj e.symm),if_neg hj,if_neg hj]
theorem lF{es:List IT}{j:Nat}{e:IT}(hn:(es.map (·.born)).Nodup)(he:es[j]? = some e):es.findIdx? (fun x=>(x.born:Int)==(e.born:Int))=some j:=by
 obtain⟨hj,rfl⟩:=Jv.1 he;rw[IX];refine⟨hj,by simp,fun i hi=>?_⟩;have:=(Ku.1 hn) i j (by simp;omega) (by simpa using hj) hi;simp only[Li]at this;simp;omega
theorem xP{P:J0}{T K E:I9}(hT:P.underlying T=some (.map K E))(hK:Mo P K kv){O:Nat->Nat}{w:ln}{i r:Nat}{l:List (κ×ν)}(h:Kr kv vv O w i r l)(a7:i≠0){z:I1}(hz:(Kp E).run P w=.ok z w)(k:κ)(x:ν):
  ∃(w1 w':ln) (v:I1) (b:Int),(Kk T (.map (some r)) (kv k)).run P w=.ok (.tuple #[v,nI b]) w1/\(JB T (.map (some r)) (nI b) (vv x)).run P w1=.ok () w'/\Kr kv vv O w' i r (cp l k x)/\IK (fun j=>j=i) O w O w'/\IK (fun j=>j=i) O w O w1:=by
 obtain⟨es,c,h1,h2⟩:=h.blk;have a9:=h.born es c h1;have hr:=bq h1;have b4:es.toList.map (·.key)=(l.map (·.1)).map kv:=by
  have:=congrArg (M9 Lv) h2;simpa[KH]using this
 have hf:=hK.find k es.toList (l.map (·.1)) w b4;rw[dQ]at hf;have hc:=hK.check false 9998 k w;obtain⟨wm,a3,hm,hu⟩:=dE hT hK h a7 k x
 have a1:(Lj T (.map (some r)) (kv k) (vv x)).run P w=((match ((iz l k).bind fun i=>(es.toList[i]?).map fun e=>(i,e.val))with
   |some (i,_)=>do
    let key <-Js (((es[i]?).map (·.key)).getD (kv k)) (kv k)
    setObj r (.map (es.modify i fun e=>{ e with key,val:=vv x }) c)
   |none=>setObj r (.map (es.push { key:=kv k,val:=vv x,born:=c }) (c+1)):Sem Unit)).run P w:=by
  simp only[Lj,I7,run_underlying hT,I4];simp only[getObj,JT,h1,I7,I4,hc,hf];generalize ((iz l k).bind fun i=>KP (fun e=>(i,e.val)) es.toList[i]?)=q
  cases q with
  |none=>rfl
  |some p=>rfl
 have a0:(Kk T (.map (some r)) (kv k)).run P w=((match ((iz l k).bind fun i=>(es.toList[i]?).map fun e=>(i,e.val))with
   |some (i,v)=>do
    let key <-Js (((es[i]?).map (·.key)).getD (kv k)) (kv k)
    setObj r (.map (es.modify i fun e=>{ e with key }) c)
    pure (.tuple #[v,goInt (((es[i]?).map (·.born)).getD 0)])
   |none=>do
    let zero <-Kp E
    setObj r (.map (es.push { key:=kv k,val:=zero,born:=c }) (c+1))
    pure (.tuple #[zero,goInt c]):Sem I1)).run P w:=by
  simp only[Kk,I7,run_underlying hT,I4];simp only[getObj,JT,h1,I7,I4,hc,hf];generalize ((iz l k).bind fun i=>KP (fun e=>(i,e.val)) es.toList[i]?)=q
  cases q with
  |none=>rfl
  |some p=>rfl
 have a2:∀(a':Array IT) (c':Nat) (w0:ln),(∃e0 k0,w0.heap[r]? = some (.map e0 k0))->(setObj r (.map a' c')).run P w0=.ok () (setBlock w0 r (.map a' c')):=fun a' c' w0 h0=>by
  obtain⟨e0,k0,hq⟩:=h0;simp[setObj,JT,hq,setBlock]
 have a6:∃e0 k0,w.heap[r]? = some (.map e0 k0):=⟨es,c,h1⟩
 have b0:∀(a:Array IT) (q:IT->Bool),a.findIdx? q=a.toList.findIdx? q:=fun a q=>by cases a;simp
 have a4:∀o o',setBlock (setBlock w r o) r o'=setBlock w r o':=fun o o'=>by simp[setBlock]
 cases hi:iz l k with
 |none=>
  rw[hi]at a1 a0;simp only[KY]at a1 a0;rw[a2 _ _ _ a6]at a1;simp only[I7,hz,I4,a2 _ _ _ a6,IN]at a0;have he:wm=setBlock w r (.map (es.push { key:=kv k,val:=vv x,born:=c }) (c+1)):=by rw[a1]at a3;cases a3;rfl
  refine⟨_,wm,z,c,a0,?_,hm,hu,eN _ h.tag a7⟩;have a5:(setBlock w r (.map (es.push { key:=kv k,val:=z,born:=c }) (c+1))).heap[r]? = some (.map (es.push { key:=kv k,val:=z,born:=c }) (c+1)):=ei h1;have a8:(es.push { key:=kv k,val:=z,born:=c }).findIdx? (fun e=>(e.born:Int)==(c:Int))=some es.size:=by
   have b5:((es.push { key:=kv k,val:=z,born:=c }).toList.map (·.born)).Nodup:=by
    simp only[Array.toList_push,JL,IH,J9];refine L7.2 ⟨a9.1,by simp,fun a ha b hb=>?_⟩;obtain⟨e,he,rfl⟩:=Jq.1 ha;have:=a9.2 e he;simp at hb;omega
   have:=lF (j:=es.size) (e:={ key:=kv k,val:=z,born:=c }) b5 (by simp);rw[b0,<-this]
  simp only[JB,getObj,JT,I7,a5,I4,asInt,asIntOf,IN,a8];rw[tZ,he];have:=a2 (es.push { key:=kv k,val:=vv x,born:=c }) (c+1) (setBlock w r (.map (es.push { key:=kv k,val:=z,born:=c }) (c+1))) ⟨_,_,a5⟩;rw[a4]at this;exact this
 |some j=>
  obtain⟨y,hy⟩:=gO hi;have hj:es.toList[j]?.map (fun e=>(e.key,e.val))=some (kv k,vv y):=by
   have:=congrArg (fun l=>l[j]?) h2;simpa[hy]using this
  cases he:es.toList[j]? with
  |none=>rw[he]at hj;simp at hj
  |some e'=>
   rw[he]at hj;simp at hj;have b1:es[j]? = some e':=by simpa using he
   have b2:(Js (kv k) (kv k))=pure (kv k):=by simp[Js,hK.same k]
   rw[hi]at a1 a0;simp only[KX,he,K7,b1,hj.1,Option.getD_some,b2,I7,IN,I4,a2 _ _ _ a6]at a1 a0;have hw:wm=setBlock w r (.map (es.modify j fun e=>{ e with key:=kv k,val:=vv x }) c):=by rw[a1]at a3;cases a3;rfl
   refine⟨_,wm,e'.val,e'.born,a0,?_,hm,hu,eN _ h.tag a7⟩;have a5:(setBlock w r (.map (es.modify j fun e=>{ e with key:=kv k }) c)).heap[r]? = some (.map (es.modify j fun e=>{ e with key:=kv k }) c):=ei h1;have b3:((es.modify j fun e=>{ e with key:=kv k }).toList.map (·.born))=es.toList.map (·.born):=by
    simp only[Array.toList_modify];apply List.ext_getElem?;intro m;simp only[List.getElem?_map,List.getElem?_modify]
    split
    ·cases es.toList[m]?<;>simp
    cases es.toList[m]?<;>simp
   have a8:(es.modify j fun e=>{ e with key:=kv k }).findIdx? (fun e=>(e.born:Int)==(e'.born:Int))=some j:=by
    have:=lF (es:=(es.modify j fun e=>{ e with key:=kv k }).toList) (j:=j) (e:={ e' with key:=kv k }) (by rw[b3];exact a9.1) (by
     have:(es.modify j fun e=>{ e with key:=kv k })[j]? = some { e' with key:=kv k }:=by
      rw[Jk,if_pos rfl,b1];rfl
     rw[Array.getElem?_toList];exact this)
    rw[b0,<-this]
   simp only[JB,getObj,JT,I7,a5,I4,asInt,asIntOf,IN,a8];rw[sk es j _ _ (fun e=>{ e with key:=kv k,val:=vv x }) (fun _=>rfl),hw];have:=a2 (es.modify j fun e=>{ e with key:=kv k,val:=vv x }) c (setBlock w r (.map (es.modify j fun e=>{ e with key:=kv k }) c)) ⟨_,_,a5⟩;rw[a4]at this;exact this
variable{P:J0}{N:Nat}{ops:Array JP}{Q:KJ→Ly→ln→Prop}{rest:List JP}{st:St}{w:ln}
variable{t t' t2:I9}{p p' p2:String}{e e' e2:Array KU}{d d':Nat}{x y z:Jp}
end
def Io{κ ν:Type}[DecidableEq κ](P:J0)(kv:κ->I1)(vv:ν->I1)(T:I9)(O:Nat->Nat)(w w1:ln)(i r:Nat)(l:List (κ×ν))(k:κ)(u:ν)(b:Int):Prop:=
 ∃w',(JB T (.map (some r)) (nI b) (vv u)).run P w1=.ok () w'/\Kr kv vv O w' i r (cp l k u)/\IK (fun j=>j=i) O w O w'
section
variable{κ ν:Type}[DecidableEq κ]{kv:κ→I1}{vv:ν→I1}
variable{P:J0}{N:Nat}{ops:Array JP}{Q:KJ→Ly→ln→Prop}{rest:List JP}{st:St}{w:ln}
variable{t:I9}{p:String}{e:Array KU}{d:Nat}{x y z:Jp}
theorem lM{T K E:I9}{O:Nat->Nat}{i r:Nat}{l:List (κ×ν)}(hm:Kr kv vv O w i r l)(hT:P.underlying T=some (.map K E))(hK:Mo P K kv)(a0:i≠0){zv:I1}(hz:(Kp E).run P w=.ok zv w) 
  (k:κ) (u:ν) {kx:I1} (hx:ev st x=some (.map (some r))) (hy:ev st y=some kx) (hk:kx=kv k) (hd:Jn d N=true)
  (h:∀w1 c b,Io P kv vv T O w w1 i r l k u b->IK (fun j=>j=i) O w O w1->WL P N ops Q rest ((d,.tuple #[c,nI b])::st) w1):WL P N ops Q (⟨some d,.mapEntry T x y,t,p,e,none⟩::rest) st w:=by
 subst hk;obtain⟨w1,w',v,b,h1,h2,h3,h4,h5⟩:=xP hT hK hm a0 hz k u;exact KL hd (fun a ha=>by simp only[execOp,ha.ev hx,ha.ev hy,I7,h1,I4,IN]) (h w1 v b ⟨w',h2,h3,h4⟩ h5)
theorem iP{T:I9}{O:Nat->Nat}{i r:Nat}{l:List (κ×ν)}{w0:ln}{k:κ}{u:ν}{b:Int}(hE:Io P kv vv T O w0 w i r l k u b){ux:I1}(hx:ev st x=some (.map (some r)))(hy:ev st y=some (nI b))(hz:ev st z=some ux)(hu:ux=vv u) 
  (h:∀w',Kr kv vv O w' i r (cp l k u)->IK (fun j=>j=i) O w0 O w'->WL P N ops Q rest st w'):WL P N ops Q (⟨none,.entryStore T x y z,t,p,e,none⟩::rest) st w:=by
 subst hu;obtain⟨w',h2,h3,h4⟩:=hE;exact gQ (fun a ha=>by simp only[execOp,ha.ev hx,ha.ev hy,ha.ev hz,I7,h2,I4,IN]) (h w' h3 h4)
end
theorem qD{α:Type}{enc:α->List I1}{sz:Nat}:∀(l:List α),(∀x∈l,(enc x).length=sz)->∀(n:Nat) (hn:n<l.length) (j:Nat),j<sz->∀(x':α) (u:I1),enc x'=(enc l[n]).set j u->(l.flatMap enc).set (n*sz+j) u=(l.set n x').flatMap enc
 |a::l,hz,0,_,j,hj,x',u,hx=>by
  have ha:=hz a (by simp);simp only[Jy,List.set_cons_zero,KE,LN];rw[List.set_append_left _ _ zo,hx];rfl
 |a::l,hz,n+1,hn,j,hj,x',u,hx=>by
  have ha:=hz a (by simp);simp only[Jy,KZ];rw[List.set_append_right _ _ (by rw[ha,KS];omega),show(n+1)*sz+j-(enc a).length=n*sz+j from by rw[ha,KS];omega];rw[qD l (fun y hy=>hz y (by simp[hy])) n (by simpa using hn) j hj x' u (by simpa using hx)]
theorem RowT.putJ{α:Type}[Inhabited α]{enc:α->List I1}{sz:Nat}{O:Nat->Nat}{w:ln}{i:Nat}{E:I9}{v:I1}{l:List α}(h:JE enc E sz O w i v l){n:Nat}(hn:n<l.length){j:Nat}(hj:j<sz)(x':α)(u:I1)(hx:enc x'=(enc (nth l n)).set j u):
  ∃g c,(adr v sz n).add j=⟨g,n*sz+j,none⟩/\w.cell? ⟨g,n*sz+j,none⟩=some c/\w.frozen? ⟨g,n*sz+j,none⟩=false/\JE enc E sz O (w.setCell ⟨g,n*sz+j,none⟩ u) i v (l.set n x')/\O g=i:=by
 rw[aC hn]at hx;have a2:=h.2 l[n] (K9 hn);have a5:(enc x').length=sz:=by rw[hx,Jc,a2]
 have hs:=h.sl;have a3:∃c,(enc l[n])[j]? = some c:=⟨_,Kz zo⟩
 obtain⟨c,a3⟩:=a3;have a0:=hs.cells n hn j c a3;obtain⟨⟨⟨hl,hr⟩,a1⟩,hz⟩:=h
 rcases hr with⟨rfl,h0⟩|⟨g,a4,a',rfl,a9,hg,a6,a8,a7,ht⟩
 ·omega
 have ha:(adr (.slice (some ⟨g,0,none⟩) l.length a4) sz n).add j=⟨g,n*sz+j,none⟩:=by simp only[adr,JC];split<;>simp_all
 rw[ha]at a0;refine⟨g,c,ha,a0,by simp[Ls,hg],⟨⟨⟨?_,.inr ⟨g,a4,a'.setIfInBounds (n*sz+j) u,by simp,a9,?_,by simpa using a6,a8,by simpa using a7,?_⟩⟩,by simpa using a1⟩,?_⟩,a1 g rfl⟩
 ·rw[<-qD l hz n hn j hj x' u hx];simp[hl]
 ·simp only[IJ,Jk,if_pos];rw[hg];simp
 ·simp only[Jc,Array.toList_setIfInBounds];rw[List.take_set,ht,qD l hz n hn j hj x' u hx]
 intro y hy
 rcases List.mem_or_eq_of_mem_set hy with hy|rfl
 ·exact hz y hy
 exact a5
theorem nL{P:J0}{N:Nat}{ops:Array JP}{Q:KJ->Ly->ln->Prop}{a0:List JP}{st:St}{w:ln}{t:I9}{p:String}{e:Array KU}{x y:Jp} 
  {T:I9} {α:Type} [Inhabited α] {enc:α->List I1} {sz:Nat} {O:Nat->Nat} {i:Nat} {E:I9} {v:I1} {l:List α} (hr:JE enc E sz O w i v l) (n:Nat) (hn:n<l.length) (j:Nat) (hj:j<sz) (x':α) (hT:(M1 T).run P w=.ok 1 w) {u:I1} (h1:u.oneCell'=true) (a4:i≠0)
  {q:LV} (hx:ev st x=some (.pointer (some q))) (hq:q=(adr v sz n).add j) (hy:ev st y=some u) (a2:enc x'=(enc (nth l n)).set j u)
  (h:∀w',JE enc E sz O w' i v (l.set n x')->IK (fun k=>k=i) O w O w'->WL P N ops Q a0 st w'):WL P N ops Q (⟨none,.store T x y,t,p,e,none⟩::a0) st w:=by
 obtain⟨g,c,ha,hc,hf,a3,ht⟩:=hr.putJ hn hj x' u a2;rw[ha]at hq;subst hq;refine gQ (w':=w.setCell ⟨g,n*sz+j,none⟩ u) (fun a a1=>?_) (h _ a3 ⟨rfl,rfl,rfl,by simp[IJ],fun k _ hk=>LX _ _ _ _ (fun e=>hk (by rw[e];exact ht)),fun _ _=>rfl,fun _ h=>.inl h,fun h=>a4 h.symm⟩);simp only[execOp,a1.ev hx,a1.ev hy]
 cases u<;>simp[Jr]at h1<;>simp[Instr.storeAt,Instr.sureAddr,storeVar,hT,Value.cells,storeCells,store,JT,hc,hf,JC]
theorem Fits.fresh{N:Nat}{a:Ly}{d:Nat}{v:I1}{st:St}(hn:(cf st d).isNone=true)(h:Mf N a ((d,v)::st)):Mf N a st:=by
 refine⟨h.size,h.defers,fun t u hu=>h.get t u ?_⟩;simp only[cf]
 cases hb:Ko d t with
 |true=>have:=JQ hb;subst this;rw[hu]at hn;cases hn
 |false=>exact hu
theorem Fits.swap{N:Nat}{a:Ly}{d d':Nat}{v v':I1}{st:St}(a0:Ko d d'=false)(h:Mf N a ((d,v)::(d',v')::st)):Mf N a ((d',v')::(d,v)::st):=by
 refine⟨h.size,h.defers,fun t u hu=>h.get t u ?_⟩;simp only[cf]at hu ⊢
 cases h1:Ko d t with
 |true=>
  have:=JQ h1;subst this;have h2:Ko d' d=false:=by
   cases h3:Ko d' d with
   |false=>rfl
   |true=>have:=JQ h3;subst this;rw[a0]at h1;cases h1
  rw[h1,h2]at hu;exact hu
 |false=>
  rw[h1]at hu;exact hu
theorem bN{P:J0}{N:Nat}{ops:Array JP}{S:ln->Prop}{Q:KJ->Ly->ln->Prop}{a1:Nat}{a0:Array Bool}{st:St}{w:ln} 
  {T E T1:I9} {sz a2:Nat} {α:Type} {enc:α->List I1} {x y:Jp} {t t':I9} {p p':String} {e e':Array KU} {d d':Nat} {v xv:I1}
  (i j:Nat) (he:LB P T E sz a2) (u:α) (hi:ops[i]? = some ⟨some d,.load T1 x,t,p,e,none⟩) (hj:ops[j]? = some ⟨some d',.buildSlice T 1 #[(0,y)],t',p',e',none⟩)
  (hr:Kw .any ops a0=[i,j]) (a':Kw .any ops (a0.setIfInBounds i true)=[j]) (a9:Kw .any ops (a0.setIfInBounds j true)=[i])
  (a4:(a0.setIfInBounds j true).setIfInBounds i true=(a0.setIfInBounds i true).setIfInBounds j true)
  (hv:∀w',JA w w'->RV P N (.load T1 x) t st w' v) (hS:∀w',JA w w'->S w')
  (hy:ev st y=some xv) (a5:xv.cells.toList=enc u) (a6:(enc u).length=sz) (hs:sz<=16777216) (hd:Jn d N=true) (a7:Jn d' N=true) (b0:Ko d d'=false) (hf:(cf st d').isNone=true) (a8:ev ((d,v)::st) y=some xv)
  (h:∀sv w',Sl enc sz w' sv [u]->JA w w'->WH P N ops S Q a1 ((a0.setIfInBounds i true).setIfInBounds j true) ((d',sv)::(d,v)::st) w'):WH P N ops S Q (a1+2) a0 st w:=by
 refine bZ i j hr hi hj ?_ ?_
 ·refine lL (hv w (Jd w)) hd (Lb (af (hS w (Jd w)) (Jf j a' hj ?_)));refine cU he u a8 a5 a6 hs a7 fun sv w' a3 hE=>Lb (af (hS w' hE) (h sv w' a3 hE))
 refine cU he u hy a5 a6 hs a7 fun sv w' a3 hE=>Lb (af (hS w' hE) (Jf i a9 hi ?_))
 refine lL (fun a ha=>hv w' hE a (ha.fresh hf)) hd (Lb (af (hS w' hE) ?_));rw[a4];exact fun a ha=>h sv w' a3 hE a (ha.swap b0)
theorem bj{P:J0}{N:Nat}{st:St}{w:ln}{t:I9}{x:Jp}{T E:I9}{m:Nat}{v:I1}(hs:Shape v m)(hu:P.underlying T=some (.slice E))(hx:ev st x=some v):RV P N (.call ⟨.builtin .len,#[x],#[T]⟩) t st w (nI (m:Int)):=
 fun a ha a0 p e g=>by
  obtain⟨ad,c,hv,_⟩:=hs;simp only[execOp,resolve,J8,IH,J9,ha.ev hx];subst hv;simp[invoke,Go.builtin,Mr,run_underlying hu,goInt]
theorem mO{P:J0}{w:ln}{T ty E:I9}{sz a0:Nat}(he:LB P T E sz a0){O:Nat->Nat}{i n:Nat}{v:I1}{xs:List I1}(a1:RowO O w i E sz v n xs)(a:Option LV)(c:Nat):
  (K4 #[T,T] ty #[v,.slice a 0 c]).run P w=.ok v w:=by
 obtain⟨a4,z,hi,hz,a6,a9,a5⟩:=he.parts;have ht:=he.ht
 rcases a1.row.2 with⟨rfl,rfl⟩|⟨g,b0,a',rfl,hbg,hg,a3,a8,a7,a2⟩
 ·cases a<;>simp[K4,run_underlying ht,M1,typeInfo,hi,Ll,KK,loadCells,loadCellsFrom]
 cases a<;>simp[K4,run_underlying ht,M1,typeInfo,hi,Ll,KK,loadCells,loadCellsFrom,a3,storeCells]
theorem dR{P:J0}{N:Nat}{ops:Array JP}{Q:KJ->Ly->ln->Prop}{a1:List JP}{st:St}{w:ln}{t:I9}{p:String}{e:Array KU}{d:Nat}{x y:Jp} 
  {T E:I9} {sz a0:Nat} (he:LB P T E sz a0) {α:Type} {enc:α->List I1} {B:Nat} {O:Nat->Nat} {i:Nat} {v sv:I1} {l us:List α} (hr:JE enc E sz O w i v l) (r:Km B O w) (hs:Sl enc sz w sv us)
  (hx:ev st x=some v) (hy:ev st y=some sv) (a4:∀u∈us,(enc u).length=sz) (a5:∀u∈us,∀c∈enc u,c.oneCell'=true)
  (hb:(l.length+us.length)*a0<=140737488355328) (a6:l.length+us.length<=9223372036854775807) (a3:i≠0) (hd:Jn d N=true)
  (h:∀v' w' O',JE enc E sz O' w' i v' (l++us)->IK (fun k=>k=i) O w O' w'->Km B O' w'->WL P N ops Q a1 ((d,v')::st) w') :
  WL P N ops Q (⟨some d,.call ⟨.builtin .append,#[x,y],#[T,T]⟩,t,p,e,none⟩::a1) st w:=by
 by_cases a2:us.length=0
 ·obtain rfl:=IS a2;obtain⟨a,c,rfl,_⟩:=hs.shape;refine KL (v:=v) (w':=w) hd (fun ac ha=>?_) (h v w O (by rw[Kh];exact hr) (JZ (fun e=>a3 e.symm) _ _) r);simp only[execOp,resolve,invoke,builtin,I7,IN,I4,J8,IH,J9,ha.ev hx,ha.ev hy,JM,mO he hr.1]
 exact aB he hr r hs a2 hx hy a4 a5 hb a6 a3 hd h
theorem MapO.fgt{κ ν:Type}{kv:κ->I1}{vv:ν->I1}{O O2:Nat->Nat}{w:ln}{i i' r:Nat}{l:List (κ×ν)}(h:Kr kv vv O2 w i r l)(ho:O r=i'):Kr kv vv O w i' r l:=⟨h.blk,ho,h.born⟩
theorem aZ{κ ν:Type}(kv:κ->I1)(vv:ν->I1){P:J0}{N:Nat}{ops:Array JP}{Q:KJ->Ly->ln->Prop}{a0:List JP}{st:St}{w:ln}{t:I9}{p:String}{e:Array KU}{d:Nat}{T:I9} 
  {B:Nat} {O:Nat->Nat} (r:Km B O w) (i:Nat) (a1:i≠0) (hd:Jn d N=true)
  (h:∀q w' O',Kr kv vv O' w' i q []->IK (fun k=>k=i) O w O' w'->Km B O' w'->WL P N ops Q a0 ((d,.map (some q))::st) w'):WL P N ops Q (⟨some d,.makeMap T none,t,p,e,none⟩::a0) st w:=by
 have hU:=Kc (S:=fun k=>k=i) (fun e=>a1 e.symm) r (.map #[] 0) i;exact WL.makeMap hd (h w.heap.size _ (kN O w.heap.size i) (MapO.new O w i) hU (r.upd hU))
theorem xA{α:Type}{val:α->I1}{O:Nat->Nat}{i g a1:Nat}{E:I9}(z:α)(a0:i≠0):∀(k n:Nat) (l:List α) (w:ln) (m:Nat),JE (fun x=>[val x]) E 1 O w i (.slice (some ⟨g,0,none⟩) m a1) l->n+k=l.length->
  JE (fun x=>[val x]) E 1 O (w.setCells g n (Jt k (val z))) i (.slice (some ⟨g,0,none⟩) m a1) (l.take n++Jt k z)/\IK (fun j=>j=i) O w O (w.setCells g n (Jt k (val z)))
 |0,n,l,w,m,h,hn=>by
  simp only[List.replicate_zero,Kh,Lm];rw[List.take_of_length_le zo];exact⟨h,JZ (fun e=>a0 e.symm) _ _⟩
 |k+1,n,l,w,m,h,hn=>by
  have ha:adr (.slice (some ⟨g,0,none⟩) m a1) 1 n=⟨g,n,none⟩:=by simp[adr]
  obtain⟨hc,hf,hr,ht⟩:=h.put (n:=n) zo z;rw[ha]at hr ht;simp only[List.replicate_succ,Lm];obtain⟨h1,h2⟩:=xA z a0 k (n+1) (l.set n z) (w.setCell ⟨g,n,none⟩ (val z)) m hr (by simp;omega);have e:(l.set n z).take (n+1)++Jt k z=l.take n++z::Jt k z:=by
   have hl:n<(l.set n z).length:=by simp;omega
   rw[List.take_succ_eq_append_getElem hl,List.getElem_set_self,List.take_set_of_le (I0 n)];simp
  rw[e]at h1;have u1:IK (fun j=>j=i) O w O (w.setCell ⟨g,n,none⟩ (val z)):=IU (fun e=>a0 e.symm) ht rfl;exact⟨h1,u1.trans h2⟩
theorem RowT.short{α:Type}{val:α->I1}{O:Nat->Nat}{w:ln}{i:Nat}{E:I9}{v:I1}{l:List α}(h:JE (fun x=>[val x]) E 1 O w i v l){n:Nat}(hn:n<=l.length):JE (fun x=>[val x]) E 1 O w i (dN v 1 0 n) (l.take n):=by
 have a3:∀l:List α,(l.flatMap fun x=>[val x])=l.map val:=fun l=>by induction l<;>simp_all
 obtain⟨⟨⟨hl,hr⟩,a1⟩,hz⟩:=h
 rcases hr with⟨rfl,h0⟩|⟨g,a2,a8,rfl,a7,hg,a9,a6,a5,ht⟩
 ·obtain rfl:l=[]:=IS h0;obtain rfl:n=0:=by simpa using hn
  exact KN _ _ _ _ _ _
 have e:dN (.slice (some ⟨g,0,none⟩) l.length a2) 1 0 n=.slice (some ⟨g,0,none⟩) n a2:=by
  simp only[dN,KE,LO]
  split<;>simp[JC]
 have a0:(l.take n).length=n:=by simp;omega
 rw[e];refine⟨⟨⟨?_,.inr ⟨g,a2,a8,by rw[a0],a7,hg,by rw[a0];omega,a6,a5,?_⟩⟩,fun g' a4=>a1 g' a4⟩,fun x _=>rfl⟩
 ·rw[a3];simp
 rw[a3]at ht ⊢;rw[a0];have:=congrArg (M4 n) ht;rw[Lw,<-Ky]at this;simpa[Nat.min_eq_left hn]using this
theorem tk{P:J0}{N:Nat}{ops:Array JP}{Q:KJ->Ly->ln->Prop}{a5:List JP}{st:St}{w:ln}{t:I9}{p:String}{e:Array KU}{x:Jp} 
  {T E:I9} {α:Type} {val:α->I1} {O:Nat->Nat} {i:Nat} {v:I1} {l:List α} (hr:JE (fun x=>[val x]) E 1 O w i v l) (n:Nat) (hn:n<=l.length) (z:α) (a8:i≠0) (hT:P.underlying T=some (.slice E)) (hz:∀w,(Kp E).run P w=.ok (val z) w) (a9:(val z).cells = #[val z]) (h1:(val z).oneCell'=true)
  {sv:I1} (hx:ev st x=some sv) (b0:sv=dN v 1 n l.length)
  (h:∀w' l',JE (fun x=>[val x]) E 1 O w' i v l'->l'.take n=l.take n->l'.length=l.length->IK (fun j=>j=i) O w O w'->WL P N ops Q a5 st w'):WL P N ops Q (⟨none,.call ⟨.builtin .clear,#[x],#[T]⟩,t,p,e,none⟩::a5) st w:=by
 subst b0;have a7:=hr;have a0:∃w' l',(L9 #[T] t #[dN v 1 n l.length]).run P w=.ok (.tuple #[]) w'/\JE (fun x=>[val x]) E 1 O w' i v l'/\l'.take n=l.take n/\l'.length=l.length/\IK (fun j=>j=i) O w O w':=by
  by_cases he:n=l.length
  ·subst he;obtain⟨a,c,rfl,_⟩:=hr.sl.shape;refine⟨w,l,?_,hr,rfl,rfl,JZ (fun e=>a8 e.symm) _ _⟩;simp only[dN,JK];generalize (if c=l.length then a else a.map fun x=>x.add (l.length*1))=q
   cases q<;>simp[L9,run_underlying hT]
  obtain⟨⟨⟨hl,b1⟩,a'⟩,b3⟩:=hr
  rcases b1 with⟨rfl,h0⟩|⟨g,a6,b8,rfl,b7,hg,b4,b6,b5,ht⟩
  ·omega
  obtain⟨k,hk⟩:∃k,n+k=l.length:=⟨l.length-n,zo⟩
  obtain⟨c1,c2⟩:=xA z a8 k n l w l.length a7 hk;refine⟨_,_,?_,c1,?_,by simp;omega,c2⟩
  ·have es:dN (.slice (some ⟨g,0,none⟩) l.length a6) 1 n l.length=.slice (some ⟨g,n,none⟩) k (a6-n):=by
    simp only[dN];rw[if_neg zo,show l.length-n=k from by omega];simp only[K7,JC,Nat.mul_one]
    split
    ·rename_i h;simp[h]
    simp
   rw[es];refine Lib.run_clear_slice w T E t (val z) hT hz a9 h1 g n k (a6-n) zo (fun j hj=>?_) (fun j hj=>by simp[Ls,hg]);have:=a7.sl.cells (n+j) zo 0 (val l[n+j]) rfl;rw[ax]at this;have ha:adr (.slice (some ⟨g,0,none⟩) l.length a6) 1 (n+j)=⟨g,n+j,none⟩:=by simp[adr]
   rw[ha]at this;rw[this];rfl
  rw[List.take_append_of_le_length (by simp;omega),Lw,Nat.min_self]
 obtain⟨w',l',a0,a1,a2,a3,a4⟩:=a0;refine Ml rfl fun a ha=>?_
 unfold Me;have b2:(execOp a.eval ⟨none,.call ⟨.builtin .clear,#[x],#[T]⟩,t,p,e,none⟩).run P w=.ok (.value (.tuple #[])) w':=by
  simp only[execOp,resolve,invoke,builtin,I7,IN,I4,J8,IH,J9,ha.ev hx,a0]
 rw[b2];exact h w' l' a1 a2 a3 a4 _ ha
end
end Go.VL
section
namespace Go.VL
theorem Upd.priv{j T:Nat}{O O':Nat->Nat}{w w':ln}(h:IK (fun k=>k=j\/T<=k) O w O' w')(hT:∀b,O b<T)(hj:j≠0):IK (fun k=>k=j) O w O w':=
 h.fgt (fun b hb=>hb.resolve_right (by have:=hT b;omega)) (fun e=>hj e.symm)
theorem Upd.pj{j T:Nat}{O O':Nat->Nat}{w w':ln}(h:IK (fun k=>k=j) O w O' w')(hT:0<T):IK (fun k=>k=j\/T<=k) O w O' w':=
 h.mono (fun _ h=>.inl h) (fun e=>by rcases e with e|e;exact h.z e;omega)
theorem Upd.pT{j T U:Nat}{O O':Nat->Nat}{w w':ln}(h:IK (fun k=>k=U) O w O' w')(hj:j≠0)(hT:0<T)(hU:T<=U):IK (fun k=>k=j\/T<=k) O w O' w':=
 h.mono (fun _ h=>.inr (by rw[h];exact hU)) (fun e=>by rcases e with e|e;exact hj e.symm;omega)
theorem iQ{j T:Nat}{w w':ln}(O:Nat->Nat)(h:JA w w')(hj:j≠0)(hT:0<T):IK (fun k=>k=j\/T<=k) O w O w':=
 aa (fun e=>by rcases e with e|e;exact hj e.symm;omega) O h
def rdr(kv:I1)(l:List UInt8)(a op a0 e:Int):Array I1:=#[.string (bs l),nI a,kv,nI op,nI a0,nI e]
variable{kv:I1}
theorem BlkO.rAt{O:Nat->Nat}{w:ln}{j rb:Nat}{l:List UInt8}{a op a0 e:Int}{E:I9}(h:J5 O w j rb (rdr kv l a op a0 e) E)(a':Int):J5 O (w.setCell ⟨rb,1,none⟩ (nI a')) j rb (rdr kv l a' op a0 e) E:=h.set 1 _
theorem BlkO.rOp{O:Nat->Nat}{w:ln}{j rb:Nat}{l:List UInt8}{a op a0 e:Int}{E:I9}(h:J5 O w j rb (rdr kv l a op a0 e) E)(a':Int):J5 O (w.setCell ⟨rb,3,none⟩ (nI a')) j rb (rdr kv l a a' a0 e) E:=h.set 3 _
theorem BlkO.rBad{O:Nat->Nat}{w:ln}{j rb:Nat}{l:List UInt8}{a op a0 e:Int}{E:I9}(h:J5 O w j rb (rdr kv l a op a0 e) E)(a':Int):J5 O (w.setCell ⟨rb,4,none⟩ (nI a')) j rb (rdr kv l a op a' e) E:=h.set 4 _
theorem BlkO.rE{O:Nat->Nat}{w:ln}{j rb:Nat}{l:List UInt8}{a op a0 e:Int}{E:I9}(h:J5 O w j rb (rdr kv l a op a0 e) E)(a':Int):J5 O (w.setCell ⟨rb,5,none⟩ (nI a')) j rb (rdr kv l a op a0 a') E:=h.set 5 _
theorem BlkO.r0{O:Nat->Nat}{w:ln}{j rb:Nat}{l:List UInt8}{a op a0 e:Int}{E:I9}(h:J5 O w j rb (rdr kv l a op a0 e) E):w.cell? ⟨rb,0,none⟩=some (.string (bs l)):=h.cell 0 rfl
theorem BlkO.r1{O:Nat->Nat}{w:ln}{j rb:Nat}{l:List UInt8}{a op a0 e:Int}{E:I9}(h:J5 O w j rb (rdr kv l a op a0 e) E):w.cell? ⟨rb,1,none⟩=some (nI a):=h.cell 1 rfl
theorem BlkO.r2{O:Nat->Nat}{w:ln}{j rb:Nat}{l:List UInt8}{a op a0 e:Int}{E:I9}(h:J5 O w j rb (rdr kv l a op a0 e) E):w.cell? ⟨rb,2,none⟩=some kv:=h.cell 2 rfl
theorem BlkO.r3{O:Nat->Nat}{w:ln}{j rb:Nat}{l:List UInt8}{a op a0 e:Int}{E:I9}(h:J5 O w j rb (rdr kv l a op a0 e) E):w.cell? ⟨rb,3,none⟩=some (nI op):=h.cell 3 rfl
theorem BlkO.r4{O:Nat->Nat}{w:ln}{j rb:Nat}{l:List UInt8}{a op a0 e:Int}{E:I9}(h:J5 O w j rb (rdr kv l a op a0 e) E):w.cell? ⟨rb,4,none⟩=some (nI a0):=h.cell 4 rfl
theorem BlkO.r5{O:Nat->Nat}{w:ln}{j rb:Nat}{l:List UInt8}{a op a0 e:Int}{E:I9}(h:J5 O w j rb (rdr kv l a op a0 e) E):w.cell? ⟨rb,5,none⟩=some (nI e):=h.cell 5 rfl
end Go.VL
namespace Go.Proofs.YteolbhblkgjbhaaGreatDoor
open Go.VL Go.Proofs
set_option maxRecDepth 10000
abbrev Rdr(kv:I1)(O:Nat->Nat)(w:ln)(j rb:Nat)(l:List UInt8)(a op a0 e:Int):Prop:=J5 O w j rb (rdr kv l a op a0 e) 250
variable{kv:I1}
theorem mG{l r:List UInt8}{b:UInt8}(h:(b::r) <:+ l):l[l.length-(r.length+1)]? = some b:=by
 obtain⟨p,rfl⟩:=h;rw[List.getElem?_append_right (by simp)];simp
theorem zz{l a b:List UInt8}(h:(a++b) <:+ l):(l.take (l.length-b.length)).drop (l.length-(a++b).length)=a:=by
 obtain⟨p,rfl⟩:=h;rw[<-L8,List.take_left' (by simp;omega),List.drop_left' (by simp)]
theorem nD(b:UInt8)(k:Nat)(hk:k<256):((b.toNat:Int)==(k:Int))=decide (b=Ju k):=by
 by_cases h:b=Ju k
 ·subst h;simp;omega
 have:b.toNat≠k:=fun e=>h (by rw[<-e];simp)
 simp[h];omega
theorem ik(c:UInt8)(w:ln):JW IZ 262 [.int .u8 (c.toNat:Int)] w fun v w'=>v=.bool (ai c)/\w'=w:=by
 refine I6 func262 ntmps262 rfl rfl ?_;refine zh ?_
 by_cases h1:65<=c.toNat
 ·refine aw (d:=5) rfl (b':=true) (decide_eq_true zo) ?_;refine zh ?_
  by_cases h2:c.toNat<=90
  ·refine aw (d:=9) rfl (b':=true) (decide_eq_true zo) ?_;refine zh ?_
   refine ae rfl rfl (⟨by simp[ai,h1,h2],rfl⟩)
  refine aw (d:=9) rfl (b':=false) (decide_eq_false zo) ?_;refine zh ?_
  by_cases h3:97<=c.toNat
  ·refine aw (d:=12) rfl (b':=true) (decide_eq_true zo) ?_;refine zh ?_
   have e:decide ((c.toNat:Int)<=122)=decide (c.toNat<=122):=decide_eq_decide.2 zo;refine ae rfl rfl (⟨by rw[e];simp[ai,h1,h2,h3],rfl⟩)
  refine aw (d:=12) rfl (b':=false) (decide_eq_false zo) ?_;refine zh ?_
  refine ae rfl rfl (⟨by simp[ai,h1,h2,h3],rfl⟩)
 refine aw (d:=5) rfl (b':=false) (decide_eq_false zo) ?_;refine zh ?_
 refine aw (d:=12) rfl (b':=false) (decide_eq_false zo) ?_;refine zh ?_
 have h3:¬97<=c.toNat:=zo;refine ae rfl rfl (⟨by simp[ai,h1,h3],rfl⟩)
theorem yC(O:Nat->Nat)(w:ln)(j rb:Nat)(l r:List UInt8)(op a4 e:Int)(hj:j≠0)(hr:r <:+ l)(hl:l.length<=100000)(h:Rdr kv O w j rb l ((l.length:Int)-(r.length:Int)) op a4 e):
  JW IZ 199 [nP rb] w fun _ w'=>Rdr kv O w' j rb l ((l.length:Int)-((ar r).length:Int)) op a4 e/\IK (fun k=>k=j) O w O w':=by
 have hz:¬(fun k:Nat=>k=j) 0:=fun e=>hj e.symm
 refine I6 func199 ntmps199 rfl rfl ?_;refine zh ?_
 refine zlp (fun x:List UInt8×ln=>[(0,nP rb)]) (fun x=>x.2) (fun x=>x.1 <:+ l/\ar x.1=ar r/\Rdr kv O x.2 j rb l ((l.length:Int)-(x.1.length:Int)) op a4 e/\IK (fun k=>k=j) O w O x.2) (fun x=>x.1.length) (r,w) (⟨hr,rfl,h,JZ hz _ _⟩) ?_;rintro⟨r1,w1⟩ ⟨a2,a1,a5,a3⟩;dsimp only at a2 a1 a5 a3 ⊢;have a0:=a5.drew;have a7:=a2.length_le;refine zh ?_
 refine JS zk zk ?_;refine zh ?_
 refine zwH (RV.ld a0.r1 rfl) ?_;refine zw (RV.ld a0.r0 rfl) ?_
 refine zwH (bW IW rfl) ?_
 cases r1 with
 |nil=>
  refine ct (d:=12) rfl (b':=false) (decide_eq_false (by simp)) ?_;refine zh ?_
  refine zw (bL rfl rfl) ?_;refine JN ?_
  refine zh ?_;refine zFH rfl rfl ?_
  refine aD rfl (⟨by rw[<-a1];exact a0,a3.drew⟩)
 |cons b r2=>
  simp only[IQ]at a7 a0;refine ct (d:=12) rfl (b':=true) (decide_eq_true (by simp only[IQ];omega)) ?_;refine zh ?_;refine zwH (RV.ld a0.r0 rfl) ?_;refine zwH (RV.ld a0.r1 rfl) ?_;refine zwH (bd (c:=b) IW rfl rfl (l.length-(r2.length+1)) zo (mG a2)) ?_;refine zw (bG rfl rfl) ?_;refine JN ?_;refine zh ?_;refine zC ?_ ?_
  ·intro hb;replace hb:b=32:=by rw[show(32:Int)=((32:Nat):Int)from rfl,nD b 32 zd]at hb;simpa using hb
   subst hb;refine zh ?_;refine zvH (RV.ld a0.r1 rfl) ?_;refine aj (j:=1) a0 rfl (Jg _) rfl rfl rfl rfl ?_;rw[show((l.length:Int)-((r2.length+1:Nat):Int))+1=(l.length:Int)-(r2.length:Int)from by omega];have a8:=a0.rAt ((l.length:Int)-(r2.length:Int));have a9:IK (fun k=>k=j) O w1.drew O (w1.drew.setCell ⟨rb,1,none⟩ (nI ((l.length:Int)-(r2.length:Int)))):=IU hz a0.tag rfl;refine zh ?_;refine zx (r2,w1.drew.setCell ⟨rb,1,none⟩ (nI ((l.length:Int)-(r2.length:Int)))) (⟨(Lh _ _).trans a2,by rw[<-a1];simp[ar],a8,a3.drew.trans a9⟩) (by dsimp only;simp)
  intro hb;replace hb:b≠32:=by rw[show(32:Int)=((32:Nat):Int)from rfl,nD b 32 zd]at hb;simpa using hb
  have a6:ar (b::r2)=b::r2:=by simp[ar,hb]
  refine zh ?_;refine aD rfl (⟨by rw[<-a1,a6];exact a0,a3.drew⟩)
theorem xf{l r:List UInt8}(hr:r <:+ l)(h:r≠[]):l[l.length-r.length]? = some (r.headD 0):=by
 cases r with
 |nil=>exact absurd rfl h
 |cons b r=>exact mG hr
theorem fK(O:Nat → Nat)(w:ln)(j rb:Nat)(l r:List UInt8)(op bad e:Int)(hj:j ≠ 0)(hr:r <:+ l)(hl:l.length ≤ 100000)(h:Rdr kv O w j rb l ((l.length:Int) - (r.length:Int)) op bad e):
    JW IZ 153 [.pointer (some ⟨rb, 0, none⟩)] w fun v w' => v = .int .u8 (((ar r).headD 0).toNat:Int) ∧ Rdr kv O w' j rb l ((l.length:Int) - ((ar r).length:Int)) op bad e ∧ IK (fun k => k = j) O w O w' := by
  refine I6 func153 ntmps153 rfl rfl ?_
  refine zh ?_
  refine zc call199 (yC O w j rb l r op bad e hj hr hl h) ?_
  rintro v w1 ⟨hb1, hU1⟩
  have hs := (aY r).trans hr
  have hsl := hs.length_le
  generalize ar r = q at *
  have hb2 := hb1.drew
  refine zh ?_
  refine JS (by kernel_rfl) (by kernel_rfl) ?_
  refine zh ?_
  refine zwH (RV.ld hb2.r1 rfl) ?_
  refine zw (RV.ld hb2.r0 rfl) ?_
  refine zwH (bW IW rfl) ?_
  refine JN ?_
  refine zh ?_
  refine zC ?_ ?_
  · intro he
    replace he : q = [] := List.eq_nil_of_length_eq_zero (by have : (l.length : Int) - (q.length : Int) = l.length := by simpa using he
                                                             omega)
    subst he
    refine zh ?_
    refine ae rfl rfl (⟨rfl, hb2, hU1.drew⟩)
  · intro he
    replace he:q ≠ [] := fun e => by subst e; simp at he
    have hb3 := hb2.drew
    refine zh ?_
    refine JS (by kernel_rfl) (by kernel_rfl) ?_
    refine zh ?_
    refine zwH (RV.ld hb3.r0 rfl) ?_
    refine zw (RV.ld hb3.r1 rfl) ?_
    refine zwH (bd (c := q.headD 0) IW rfl rfl (l.length - q.length) (by omega) (xf hs he)) ?_
    refine JN ?_
    refine zh ?_
    refine ae rfl rfl (⟨rfl, hb3, hU1.drew.drew⟩)
theorem vT(O:Nat->Nat)(w:ln)(j rb:Nat)(l r:List UInt8)(op a6 e:Int)(hj:j≠0)(hr:r <:+ l)(hl:l.length<=100000)(h:Rdr kv O w j rb l ((l.length:Int)-(r.length:Int)) op a6 e):
  JW IZ 270 [nP rb] w fun v w'=>v=.string (bs (r.takeWhile ai))/\Rdr kv O w' j rb l ((l.length:Int)-((r.dropWhile ai).length:Int)) op a6 e/\IK (fun k=>k=j) O w O w':=by
 have hz:¬(fun k:Nat=>k=j) 0:=fun e=>hj e.symm
 refine I6 func270 ntmps270 rfl rfl ?_;refine zh ?_
 refine zvH (RV.ld h.r1 rfl) ?_;refine zlp (fun x:List UInt8×ln=>[(0,nP rb),(3,nI ((l.length:Int)-(r.length:Int)))]) (fun x=>x.2) (fun x=>x.1 <:+ l/\x.1.dropWhile ai=r.dropWhile ai/\Rdr kv O x.2 j rb l ((l.length:Int)-(x.1.length:Int)) op a6 e/\IK (fun k=>k=j) O w O x.2) (fun x=>x.1.length) (r,w) (⟨hr,rfl,h,JZ hz _ _⟩) ?_
 rintro⟨r1,w1⟩ ⟨a4,a3,a7,a5⟩;dsimp only at a4 a3 a7 a5 ⊢;have a0:=a7.drew;have a':=a4.length_le;have a9:=hr.length_le;have a2:r1=r.dropWhile ai->(l.take (l.length-r1.length)).drop (l.length-r.length)=r.takeWhile ai:=fun e=>by
  have:=zz (l:=l) (a:=r.takeWhile ai) (b:=r.dropWhile ai) (by rw[K0];exact hr);rw[K0,<-e]at this;exact this
 have b0:r1.length<=r.length\/r1≠r.dropWhile ai:=by
  by_cases e:r1=r.dropWhile ai
  ·left;rw[e];exact(KG _).length_le
  right;exact e
 refine zh ?_;refine JS zk zk ?_
 refine zh ?_;refine zwH (RV.ld a0.r1 rfl) ?_
 refine zw (RV.ld a0.r0 rfl) ?_;refine zwH (bW IW rfl) ?_
 cases r1 with
 |nil=>
  have a1:=a0.drew;have hd:[]=r.dropWhile ai:=by rw[<-a3];rfl
  have h1:=a2 hd;refine ct (d:=18) rfl (b':=false) (decide_eq_false (by simp)) ?_;refine zh ?_;refine zw (bL rfl rfl) ?_;refine JN ?_;refine zh ?_;refine zFH rfl rfl ?_;refine JS zk zk ?_;refine zh ?_;refine zwH (RV.ld a1.r0 rfl) ?_;refine zw (RV.ld a1.r1 rfl) ?_;refine zwH (cM IW rfl rfl rfl (l.length-r.length) (l.length-0) zo (by simp) zo zo) ?_;refine JN ?_;refine zh ?_;simp only[JM]at h1;refine ae rfl rfl (⟨by rw[h1],by rw[<-hd];exact a1,a5.drew.drew⟩)
 |cons b r2=>
  simp only[IQ]at a' a0;refine ct (d:=18) rfl (b':=true) (decide_eq_true (by simp only[IQ];omega)) ?_;refine zh ?_;refine zwH (RV.ld a0.r0 rfl) ?_;refine zwH (RV.ld a0.r1 rfl) ?_;refine zwH (bd (c:=b) IW rfl rfl (l.length-(r2.length+1)) zo (mG a4)) ?_;refine WS.call LC rfl (ik b w1.drew) rfl ?_;refine zw (bG rfl rfl) ?_;refine JN ?_;refine zh ?_;refine zC ?_ ?_
  ·intro hb;replace hb:ai b=true:=hb;refine zh ?_;refine zvH (RV.ld a0.r1 rfl) ?_;refine aj (j:=1) a0 rfl (Jg _) rfl rfl rfl rfl ?_;rw[show((l.length:Int)-((r2.length+1:Nat):Int))+1=(l.length:Int)-(r2.length:Int)from by omega];have a1:=a0.rAt ((l.length:Int)-(r2.length:Int));have b1:IK (fun k=>k=j) O w1.drew O (w1.drew.setCell ⟨rb,1,none⟩ (nI ((l.length:Int)-(r2.length:Int)))):=IU hz a0.tag rfl;refine zh ?_;refine zx (r2,w1.drew.setCell ⟨rb,1,none⟩ (nI ((l.length:Int)-(r2.length:Int)))) (⟨(Lh _ _).trans a4,by rw[<-a3,List.dropWhile_cons_of_pos hb],a1,a5.drew.trans b1⟩) (by dsimp only;simp)
  intro hb;replace hb:ai b=false:=hb;have a8:(b::r2).dropWhile ai=b::r2:=List.dropWhile_cons_of_neg (by rw[hb];decide);have hd:b::r2=r.dropWhile ai:=by rw[<-a3,a8]
  have h1:=a2 hd;have h2:=b0.resolve_right (fun e=>e hd);simp only[IQ]at h1 h2;have a1:=a0.drew;refine zh ?_;refine JS zk zk ?_;refine zh ?_;refine zwH (RV.ld a1.r0 rfl) ?_;refine zw (RV.ld a1.r1 rfl) ?_;refine zwH (cM IW rfl rfl rfl (l.length-r.length) (l.length-(r2.length+1)) zo zo zo zo) ?_;refine JN ?_;refine zh ?_;refine ae rfl rfl (⟨by rw[h1],by rw[<-hd];exact a1,a5.drew.drew⟩)
theorem kK:cF IZ 120 #[(0,1),(1,1),(2,1)]:=⟨_,underlying120,fun w=>by kernel_rfl⟩
theorem fX(B:Nat)(O:Nat->Nat)(w:ln)(j rb:Nat)(l:List UInt8)(a op b3 p e:Int)(hj:j≠0)(hR:Km B O w)(h:Rdr kv O w j rb l a op b3 0):
  JW IZ 154 [nP rb,nI p,nI e] w fun v w'=>v=.agg #[nI 0,nI 0,nS]/\Rdr kv O w' j rb l a op p e/\IK (fun k=>k=j) O w O w':=by
 obtain⟨T,a4,hT⟩:=hR.bound;have b4:j<T:=by rw[<-h.tag];exact hT rb
 refine I6 func154 ntmps154 rfl rfl ?_;refine zh ?_
 refine au hR T zo (I5 _) rfl ?_;intro xb w1 O1 a8 a6 b5 b6;have a1:=h.upd a6 hj zo;refine zh ?_
 refine zvH (RV.ld a1.r5 rfl) ?_;refine zTH rfl rfl ?_
 refine aj (j:=4) a1 rfl (Jg _) rfl rfl rfl rfl ?_;have a3:=a1.rBad p;have b2:IK (fun k=>k=j) O1 w1 O1 (w1.setCell ⟨rb,4,none⟩ (nI p)):=IU (fun e=>hj e.symm) a1.tag rfl;refine zh ?_
 refine aj (j:=5) a3 rfl (sizeOf57 _) rfl rfl rfl rfl ?_;have a':=a3.rE e;have b1:IK (fun k=>k=j) O1 (w1.setCell ⟨rb,4,none⟩ (nI p)) O1 ((w1.setCell ⟨rb,4,none⟩ (nI p)).setCell ⟨rb,5,none⟩ (nI e)):=IU (fun e=>hj e.symm) a3.tag rfl;have a0:=b2.trans b1;have a2:=a8.upd a0 zo zo;generalize (w1.setCell ⟨rb,4,none⟩ (nI p)).setCell ⟨rb,5,none⟩ (nI e)=w3 at *;refine zh ?_
 refine zv (aF kK (I5 _) rfl (by first|rfl|(simp only[IF,IR];rfl)) rfl rfl) ?_;refine zsa (us:=#[nI 0,nI 0,nS]) a2 (ix _) ?_
 have a7:=a2.setRow (us:=#[nI 0,nI 0,nS]);have a5:IK (fun k=>k=T) O1 w3 O1 (w3.setRow xb #[nI 0,nI 0,nS]):=I3 zo a2.tag rfl;have a9:=a'.upd a5 hj zo;have b0:=((a6.pT hj a4 (I0 _)).trans (a0.pj a4)).trans (a5.pT hj a4 (I0 _));refine zh ?_;refine aL rfl rfl (a7.cellsAdd) (I2 _) (ix _) (⟨rfl,a9.fgt h.tag,b0.priv hT hj⟩)
end Go.Proofs.YteolbhblkgjbhaaGreatDoor
end
namespace Go.Proofs.YteolbhblkgjbhaaGreatDoor
section
def qX(l:List UInt8)(c:UInt8):Int:=match l.findIdx? (· == c)with|some i=>(i:Nat)|none=>-1
theorem uN(l:List UInt8)(c:UInt8):firstIdx (bs l) c=qX l c:=by
 have a0:∀i,i<l.length->(bs l)[i]! = nth l i:=fun i hi=>by
  rw[aC hi,getElem!_pos (bs l) i (by rw[cT];exact hi)];show l.toArray[i]=l[i];simp
 unfold firstIdx qX;rw[cT]
 cases hf:l.findIdx? (· == c)with
 |none=>
  have h:=Jw.1 hf;have:(JG l.length).find? (fun i=>(bs l)[i]! == c)=none:=by
   rw[L2];intro i hi;have a1:i<l.length:=by simpa using hi
   rw[a0 i a1,aC a1,h _ (K9 a1)];decide
  rw[this]
 |some i=>
  obtain⟨hi,h1,h2⟩:=IX.1 hf;have:(JG l.length).find? (fun i=>(bs l)[i]! == c)=some i:=by
   rw[List.find?_eq_some_iff_getElem];refine⟨by rw[a0 i hi,aC hi];exact h1,i,by simpa using hi,by simp,fun j hj=>?_⟩;have:=h2 j hj;simp only[L0];rw[a0 j zo,aC zo];simpa using this
  rw[this]
theorem ou(l:List UInt8)(c:UInt8)(w:ln):(callFunc 108 #[.string (bs l),.int .u8 (c.toNat:Int)]).run IZ w=.ok (.value (nI (qX l c))) w:=by
 rw[run_callFunc_extern func108 zk zk zk (e:=KI) zk,run_indexByte_string,uN];simp[Result.andThen]
theorem pV(l:List UInt8)(c:UInt8)(w:ln):JW IZ 75 [.string (bs l),.int .u8 (c.toNat:Int)] w fun v w'=>v=nI (qX l c)/\w'=w:=by
 refine I6 func75 ntmps75 rfl rfl ?_;refine zh ?_
 refine zvH (RV.ext (vs:=[.string (bs l),.int .u8 (c.toNat:Int)]) (ou l c w) rfl) ?_;refine ae rfl rfl (⟨rfl,rfl⟩)
theorem dp(l:List UInt8)(c:UInt8)(w:ln):JW IZ 44 [.string (bs l),.int .u8 (c.toNat:Int)] w fun v w'=>v=nI (qX l c)/\w'=w:=by
 refine I6 func44 ntmps44 rfl rfl ?_;refine zh ?_
 refine zc call75 (pV l c w) ?_;rintro v _ ⟨rfl,rfl⟩;refine zh ?_
 refine ae rfl rfl (⟨rfl,rfl⟩)
@[simp] def encS(x:List UInt8):List I1:=[.string (bs x)]
def F3(l:List (List UInt8))(s:List UInt8):Int:=match l.findIdx? (· == s)with|some i=>(i:Nat)|none=>-1
theorem lE(l:List (List UInt8))(s:List UInt8)(sv:I1)(w:ln)(h:Sl encS 1 w sv l):JW IZ 43 [sv,.string (bs s)] w fun v w'=>v=nI (F3 l s)/\w'=w:=by
 have hl:=h.len_le;refine I6 func43 ntmps43 rfl rfl ?_;refine zh ?_;refine zlp (fun x:Nat=>[(0,sv),(1,.string (bs s)),(7,nI l.length),(8,nI x)]) (fun x=>w) (fun x=>x<=l.length/\∀i,i<x->(nth l i==s)=false) (fun x=>l.length-x) 0 (⟨J6 _,fun i hi=>absurd hi (J1 i)⟩) ?_;rintro k ⟨hk,a1⟩;refine zh ?_;refine zC ?_ ?_
 ·intro a0;replace a0:k<l.length:=dT a0;refine zh ?_;refine zv (RV.ld (h.ld (val:=fun x=>.string (bs x)) a0) rfl) ?_;refine zvH (cI rfl rfl) ?_;refine zC ?_ ?_
  ·intro hy;replace hy:s=nth l k:=by simpa using hy
   have hf:l.findIdx? (· == s)=some k:=IX.2 ⟨a0,by rw[<-aC a0,hy];simp,fun j hj=>by rw[<-aC zo,a1 j hj];decide⟩;refine zh ?_;refine ae rfl rfl (⟨by unfold F3;rw[hf],rfl⟩)
  intro hy;replace hy:(nth l k==s)=false:=by
   rw[La];intro e;rw[eq_of_beq e]at hy;simp at hy
  refine zh ?_;refine zxd (k+1) (⟨a0,fun i hi=>(KB.1 hi).elim (a1 i) (fun e=>by rw[e];exact hy)⟩)
 intro a2;replace a2:l.length<=k:=dF a2;have hf:l.findIdx? (· == s)=none:=Jw.2 fun x hx=>by
  obtain⟨j,hj,rfl⟩:=cn hx;exact a1 j zo
 refine zh ?_;refine ae rfl rfl (⟨by unfold F3;rw[hf],rfl⟩)
def gx:Array I1:=(namesL.map fun s=>Lz (bs s)).toArray
theorem uk{O:Nat->Nat}{w:ln}{j b:Nat}(h:J5 O w j b gx 255):Sl encS 1 w (.slice (some ⟨b,0,none⟩) 36 36) namesL:=by
 refine⟨⟨_,36,rfl,I0 _,zd,fun _=>⟨_,_,rfl⟩⟩,fun i hi j u hu=>?_⟩;obtain rfl:j=0:=by
  have:=(Jv.1 hu).1;simpa using this
 have a0:Lz (bs namesL[i])=u:=by simpa using hu
 have:=h.cell i (u:=u) (by rw[<-a0];unfold gx;simp[hi]);have e:((adr (.slice (some ⟨b,0,none⟩) 36 36) 1 i).add 0)=⟨b,i,none⟩:=by simp[adr,JC]
 exact(congrArg w.cell? e).trans this
theorem Am(w:ln):JW IZ 156 [] w fun v w'=>v=.agg gx/\JA w w':=by
 refine I6 func156 ntmps156 rfl rfl ?_;refine zh ?_
 refine au (ay w) 1 zo (L4 _) rfl ?_;intro xb w1 O1 a0 a2 a4 a5;refine zh ?_
 refine zv (eG (cells:=gx) M5 (Mb _) (L4 _) rfl zk) ?_;refine bp (us:=gx) a0 zk (LJ _) zk rfl rfl rfl ?_
 have a1:=a0.setRow (us:=gx);have a3:JA w (w1.setRow xb gx):=(a2.trans (I3 zd a0.tag rfl)).ext;refine zh ?_;refine aL rfl rfl (a1.cellsAdd) (isAgg255 _) (LJ _) (⟨rfl,a3⟩)
def C8(s:List UInt8):Int:=match Af s with|some c=>(c:Nat)|none=>0
theorem ie(s:List UInt8)(w:ln):JW IZ 112 [.string (bs s)] w fun v w'=>v=.tuple #[nI (C8 s),.bool (Af s).isSome]/\JA w w':=by
 refine I6 func112 ntmps112 rfl rfl ?_;refine zh ?_
 refine zc call156 (Am w) ?_;rintro v w1 ⟨rfl,a5⟩;refine au (ay w1) 1 zo (L4 _) rfl ?_
 intro xb w2 O2 a0 a3 a6 a7;refine bp (us:=gx) a0 zk (LJ _) zk rfl rfl rfl ?_;have a1:=a0.setRow (us:=gx);have a4:JA w1 (w2.setRow xb gx):=(a3.trans (I3 zd a0.tag rfl)).ext;have a2:=uk a1;generalize w2.setRow xb gx=w3 at *;refine zh ?_;refine zvH (vo M5 (Mb _) zd rfl) ?_;refine zc call43 (lE namesL s _ w3 a2) ?_;rintro v _ ⟨rfl,rfl⟩;refine zh ?_;refine zvH (jq rfl rfl) ?_;have h:F3 namesL s=match Af s with|some c=>(c:Nat)|none=>-1:=rfl
 refine bH rfl rfl rfl (⟨?_,a5.trans a4⟩);rw[h];unfold C8
 cases Af s with
 |none=>rfl
 |some c=>simp
def nv(x:N3):I1:=.agg #[nI x.1,nI x.2.1,x.2.2]
def PostE(kv:I1)(O:Nat->Nat)(w:ln)(j rb:Nat)(l:List UInt8)(op:Int)(x:N3):PR->Prop
 |.ok t r=>Rdr kv O w j rb l ((l.length:Int)-(r.length:Int)) op 0 0/\Nt O w t x
 |.bad p e=>x.2.2.oneCell'=true/\∃a op',Rdr kv O w j rb l a op' ((l.length:Int)-(p:Int)) e/\0<=a/\a<=l.length+20-op/\op<=op'/\op'<=20
abbrev M3:=List UInt8×N3
def kF(m:M3):List I1:=[.string (bs m.1),nI m.2.1,nI m.2.2.1,m.2.2.2]
abbrev Kn:=List (List UInt8×Nd)
def KnownM(O:Nat->Nat)(w:ln)(kv:I1)(kn:Kn)(ms:List M3):Prop:=
 Sl kF 4 w kv ms/\Free O w kv/\kn.length=ms.length/\∀i,i<ms.length->(nth kn i).1=(nth ms i).1/\Nt O w (nth kn i).2 (nth ms i).2
def Known(O:Nat->Nat)(w:ln)(kv:I1)(kn:Kn):Prop:=∃ms:List M3,KnownM O w kv kn ms
theorem KnownM.upd{S:Nat->Prop}{O O':Nat->Nat}{w w':ln}{kv:I1}{kn:Kn}{ms:List M3}(h:KnownM O w kv kn ms)(u:IK S O w O' w'):KnownM O' w' kv kn ms:=by
 obtain⟨h1,h2,h3,h4⟩:=h;exact⟨h1.upd h2 u,h2.upd u,h3,fun i hi=>⟨(h4 i hi).1,(h4 i hi).2.upd u⟩⟩
theorem Known.upd{S:Nat->Prop}{O O':Nat->Nat}{w w':ln}{kv:I1}{kn:Kn}(h:Known O w kv kn)(u:IK S O w O' w'):Known O' w' kv kn:=by
 obtain⟨ms,h⟩:=h;exact⟨ms,h.upd u⟩
variable{kv:I1}{kn:Kn}
theorem bX{x:N3}(h:x.2.2.oneCell'=true):(#[nI x.1,nI x.2.1,x.2.2]:Array I1).toList.all Jr=true:=by
 simp only[IF,h];rfl
theorem elN:LB IZ 118 120 3 40:=⟨K5,by kernel_rfl,zd⟩
theorem nt{x:N3}(h:x.2.2.oneCell'=true):∀c∈bt x,c.oneCell'=true:=fun c hc=>by
 simp at hc
 rcases hc with rfl|rfl|rfl
 ·rfl
 ·rfl
 exact h
def Reads(kv:I1)(kn:Kn)(F:Nat)(ex:List I1)(op:Int)(M:List UInt8->PR)(Pre:List UInt8->Prop):Prop:=
 ∀(B:Nat) (O:Nat->Nat) (j rb:Nat) (l r:List UInt8) (w:ln),Km B O w->j≠0->r <:+ l->l.length<=4096->Pre r->Rdr kv O w j rb l ((l.length:Int)-(r.length:Int)) op 0 0->Known O w kv kn->
  JW IZ F (nP rb::ex) w fun v w'=>∃x,v=nv x/\IK (fun k=>k=j) O w O w'/\PostE kv O w' j rb l op x (M r)
theorem sV(kind op:Int)(d1:0<=op/\op<=20):Reads kv kn 268 [nI kind] op (dB kind) (fun _=>True):=by
 intro B O j rb l r w hR hj hr hl _ h _;obtain⟨T,a0,hT⟩:=hR.bound;have d2:j<T:=by rw[<-h.tag];exact hT rb
 have hq:=(aY r).trans hr;have d0:=hq.length_le;refine I6 func268 ntmps268 rfl rfl ?_;refine zh ?_;refine au hR T zo (I5 _) rfl ?_;intro xb w1 O1 b' b5 c' d3;have c7:=h.upd b5 hj zo;refine zh ?_;refine zc Kj (fK O1 w1 j rb l r op 0 0 hj hr zo c7) ?_;rintro v w2 ⟨rfl,a6,b0⟩;have b1:=b'.upd b0 zo zo;have b6:=c'.upd b0;have b3:=(b5.pT hj a0 (I0 _)).trans (b0.pj a0);refine zc LC (ik ((ar r).headD 0) w2) ?_;rintro v _ ⟨rfl,rfl⟩;refine zh ?_
 cases hc:ai ((ar r).headD 0)with
 |false=>
  have hM:dB kind r=.bad (ar r).length 4:=by unfold dB;rw[if_neg (by rw[hc];decide)]
  refine zTH rfl rfl ?_;refine zv (RV.ld a6.r1 rfl) ?_
  refine zc Ki (fX _ O1 _ j rb l _ _ 0 ((l.length:Int)-((ar r).length:Int)) 4 hj b6 a6) ?_;rintro v wf ⟨rfl,a8,a4⟩;have a1:=b1.upd a4 zo zo;refine zsa (us:=#[nI 0,nI 0,nS]) a1 (ix _) ?_
  have a7:=a1.setRow (us:=#[nI 0,nI 0,nS]);have a3:IK (fun k=>k=T) O1 wf O1 (wf.setRow xb #[nI 0,nI 0,nS]):=I3 zo a1.tag rfl;have hbg:=a8.upd a3 hj zo;refine zh ?_;refine aL rfl rfl (a7.cellsAdd) (I2 _) (ix _) (⟨(0,0,nS),rfl,((b3.trans (a4.pj a0)).trans (a3.pT hj a0 (I0 _))).priv hT hj,?_⟩);rw[hM];exact⟨rfl,_,op,hbg.fgt h.tag,zo,zo,zo,zo⟩
 |true=>
  refine zFH rfl rfl ?_;refine zvH (RV.ld a6.r1 rfl) ?_
  refine zc call270 (vT O1 _ j rb l (ar r) op 0 0 hj hq zo a6) ?_;rintro v w3 ⟨rfl,c6,a'⟩;have b9:=b1.upd a' zo zo;have c9:=b6.upd a';refine zc call112 (ie ((ar r).takeWhile ai) w3) ?_
  rintro v w4 ⟨rfl,b7⟩;have a9:IK (fun _=>False) O1 w3 O1 w4:=aa (fun h=>h) O1 b7;have b2:=c6.upd a9 hj (fun h=>h);have a5:=b9.upd a9 zo (fun h=>h);have c8:=c9.upd a9;have a2:=(b3.trans (a'.pj a0)).trans (iQ O1 b7 hj a0);refine zh ?_
  cases hn:Af ((ar r).takeWhile ai)with
  |none=>
   have hM:dB kind r=.bad (ar r).length 5:=by unfold dB;rw[if_pos hc,hn]
   refine zTH rfl rfl ?_;refine zc Ki (fX _ O1 _ j rb l _ _ 0 ((l.length:Int)-((ar r).length:Int)) 5 hj c8 b2) ?_
   rintro v wf ⟨rfl,a8,a4⟩;have a1:=a5.upd a4 zo zo;refine zsa (us:=#[nI 0,nI 0,nS]) a1 (ix _) ?_;have a7:=a1.setRow (us:=#[nI 0,nI 0,nS]);have a3:IK (fun k=>k=T) O1 wf O1 (wf.setRow xb #[nI 0,nI 0,nS]):=I3 zo a1.tag rfl;have hbg:=a8.upd a3 hj zo;refine zh ?_;refine aL rfl rfl (a7.cellsAdd) (I2 _) (ix _) (⟨(0,0,nS),rfl,((a2.trans (a4.pj a0)).trans (a3.pT hj a0 (I0 _))).priv hT hj,?_⟩);rw[hM];exact⟨rfl,_,op,hbg.fgt h.tag,by have:=(KG (l:=ar r) ai).length_le;omega,zo,zo,zo⟩
  |some c=>
   have hM:dB kind r=.ok (.mk kind (c:Nat) []) ((ar r).dropWhile ai):=by unfold dB;rw[if_pos hc,hn]
   have hv:C8 ((ar r).takeWhile ai)=(c:Nat):=by unfold C8;rw[hn]
   rw[hv];refine zFH rfl rfl ?_;refine zv (aF kK (I5 _) rfl (by first|rfl|(simp only[IF,IR];rfl)) rfl rfl) ?_;refine zsa (us:=#[nI kind,nI (c:Nat),nS]) a5 (ix _) ?_;have b8:=a5.setRow (us:=#[nI kind,nI (c:Nat),nS]);have b4:IK (fun k=>k=T) O1 w4 O1 (w4.setRow xb #[nI kind,nI (c:Nat),nS]):=I3 zo a5.tag rfl;have c5:=b2.upd b4 hj zo;refine zh ?_;refine aL rfl rfl (b8.cellsAdd) (I2 _) (ix _) (⟨(kind,(c:Nat),nS),rfl,(a2.trans (b4.pT hj a0 (I0 _))).priv hT hj,?_⟩);rw[hM];exact⟨c5.fgt h.tag,LY _ _ _ _⟩
end
theorem pW:∀(n:Nat) (t:Nd),nsz t<=n->∀(x:N3) (w:ln) (nU:Nat),Nt (fun _=>0) w t x->nU<=1000000->JW IZ 120 [nv x,nI (nU:Int)] w fun v w'=>v=nI ((min (nsz t) (nU+1):Nat):Int)/\JA w w'
 |0,t,hn=>by have:=ew t;omega
 |n+1,.mk k c kids,hn=>by
  intro x w nU h hm;obtain⟨xs,hs,hf,hl,hk⟩:=h.kids;simp only[KQ]at hl hk;have b9:=ij kids;simp only[nsz]at hn ⊢;have b1:=hs.len_le;refine I6 func120 ntmps120 rfl rfl ?_;refine zg ?_;refine aH (ay w) 1 zo rfl rfl ?_;intro xb w1 O1 a' b' c6 a8;have b0:=hs.ext a8;refine zg ?_;refine zv (RV.ld (a'.cell 2 rfl) rfl) ?_;refine zvG (RV.len (by first|exact b0) K5 rfl) ?_;refine zlp (fun y:Nat×ln=>[(1,nI (nU:Int)),(5,nI ((min (ez (kids.take y.1)+1) (nU+1):Nat):Int)),(9,x.2.2),(10,nI xs.length),(11,nI y.1)]) (fun y=>y.2) (fun y=>y.1<=xs.length/\JA w y.2) (fun y=>xs.length-y.1) (0,w1) (⟨J6 _,a8⟩) ?_;rintro⟨i,w2⟩ ⟨hi,a0⟩;dsimp only at hi a0 ⊢;have a4:=hs.ext a0;refine zg ?_;refine zC ?_ ?_
  ·intro a1;replace a1:i<xs.length:=by have:=of_decide_eq_true a1;omega
   have b7:=ey kids i zo;have b6:=cJ kids (i+1);have a6:=(hk i a1).ext a0;have a9:=a6.one;have b8:=cG kids i zo;refine zg ?_;refine zv (KO (by first|exact a4) K5 (ix _) rfl rfl _ rfl zo) ?_;refine zv (ah (us:=bt (nth xs i)) (fun j u hu=>a4.cell a1 hu) (I2 _) (ix _) rfl) ?_;refine au (ay w2) 1 zo (I5 _) rfl ?_;intro kb w3 O3 a2 b4 c5 c7;refine zsb (us:=#[nI (nth xs i).1,nI (nth xs i).2.1,(nth xs i).2.2]) a2 (ix _) (bX a9) ?_;have b2:=a2.setRow (us:=#[nI (nth xs i).1,nI (nth xs i).2.1,(nth xs i).2.2]);have a3:JA w2 (w3.setRow kb #[nI (nth xs i).1,nI (nth xs i).2.1,(nth xs i).2.2]):=(b4.trans (I3 zd a2.tag rfl)).ext;generalize w3.setRow kb #[nI (nth xs i).1,nI (nth xs i).2.1,(nth xs i).2.2]=w4 at *;refine zg ?_;refine zC ?_ ?_
   ·intro a7;replace a7:nU<ez (kids.take i)+1:=by have:=of_decide_eq_true a7;omega
    refine zg ?_;refine ae rfl rfl (⟨by congr 2;omega,a0.trans a3⟩)
   intro a5;replace a5:ez (kids.take i)+1<=nU:=by have:=of_decide_eq_false a5;omega
   refine zg ?_;refine zvG (ah (us:=bt (nth xs i)) b2.cellsAdd (I2 _) (ix _) rfl) ?_
   refine zv (RV.sub rfl rfl (Lk zo)) ?_;rw[show(nU:Int)-((min (ez (kids.take i)+1) (nU+1):Nat):Int)=((nU-(ez (kids.take i)+1):Nat):Int)from by omega];refine zc Md (pW n (nth kids i) zo (nth xs i) w4 (nU-(ez (kids.take i)+1)) (a6.ext a3) zo) ?_
   rintro v w5 ⟨rfl,b5⟩;refine zvG (M7 rfl rfl (Lk zo)) ?_;refine zvG (M7 rfl rfl (Lk zo)) ?_;rw[show((min (ez (kids.take i)+1) (nU+1):Nat):Int)+((min (nsz (nth kids i)) (nU-(ez (kids.take i)+1)+1):Nat):Int)=((min (ez (kids.take (i+1))+1) (nU+1):Nat):Int)from by omega];refine zxd (i+1,w5) (⟨a1,(a0.trans a3).trans b5⟩)
  intro b3;obtain rfl:i=xs.length:=by have:=of_decide_eq_false b3;omega
  refine zg ?_;refine ae rfl rfl (⟨by rw[<-hl,List.take_length],a0⟩)
theorem bD{S:Nat->Prop}{O O':Nat->Nat}{w w':ln}(h:IK S O w O' w')(hS:∀b,¬S (O b)):JA w w':=⟨h.os,h.tape,h.output,h.size,fun b hb=>h.blk b hb (hS b)⟩
theorem Nt.ones{O:Nat->Nat}{w:ln}{t:Nd}{x:N3}(h:Nt O w t x):x=(t.kind,t.cls,x.2.2):=by cases h;rfl
theorem sU:∀(n:Nat),n<=1000000->∀(t:Nd),nsz t<=n->∀(B:Nat) (O:Nat->Nat) (x:N3) (w:ln),Km B O w->Nt (fun _=>0) w t x->JW IZ 155 [nv x] w fun v w'=>∃y,v=nv y/\Nt O w' t y/\JA w w'
 |0,_,t,hn=>by have:=ew t;omega
 |n+1,hn6,.mk k c kids,hn=>by
  intro B O x w hR h;obtain⟨T,j5,hT⟩:=hR.bound;obtain⟨xs,hs,hf,hl,hk⟩:=h.kids;simp only[KQ]at hl hk;obtain⟨x0,x1,sv⟩:=x;obtain rfl:k=x0:=(congrArg Lv h.ones).symm;obtain rfl:c=x1:=(congrArg (fun q:N3=>q.2.1) h.ones).symm;dsimp only at hs hf;have j4:=ij kids;simp only[nsz]at hn;have a5:¬(fun q:Nat=>T<=q) 0:=fun e=>zo
  refine I6 func155 ntmps155 rfl rfl ?_;refine zh ?_
  refine aH hR (T+1) zo rfl rfl ?_;intro nb w1 O1 h7 i5 i' j8;refine au i' T zo (I5 _) rfl ?_
  intro xb w2 O2 h1 g8 i9 j7;have f':=h7.upd g8 zo zo;have n0:w2.cell? (nA nb 0)=some (nI k):=f'.cell 0 rfl;have n1:w2.cell? (nA nb 1)=some (nI c):=f'.cell 1 rfl;refine zh ?_;refine zv (aF kK (I5 _) rfl (by first|rfl|(simp only[IF,IR];rfl)) rfl rfl) ?_;refine au i9 (T+2) zo (I5 _) rfl ?_;intro ob w3 O3 f9 i4 i7 j6;refine zsa (us:=#[nI k,nI c,nS]) f9 (ix _) ?_;have h4:=f9.setRow (us:=#[nI k,nI c,nS]);have g7:IK (fun q=>q=T+2) O3 w3 O3 (w3.setRow ob #[nI k,nI c,nS]):=I3 zo f9.tag rfl;have d6:=i4.trans g7;have i6:=i7.upd g7;have h5:=f'.upd d6 zo zo;have h0:=h1.upd d6 zo zo;have e6:IK (fun q=>T<=q) O w O3 _:=((i5.mono (fun _ h=>by rw[h];omega) a5).trans (g8.mono (fun _ h=>by rw[h];omega) a5)).trans (d6.mono (fun _ h=>by rw[h];omega) a5);generalize w3.setRow ob #[nI k,nI c,nS]=w4 at *;have j0:=bD e6 (fun b=>by have:=hT b;omega);have j2:=hs.ext j0;have n2:w4.cell? (nA nb 2)=some sv:=h5.cell 2 rfl;refine zh ?_
  refine zlp (fun y:Nat×(Nat->Nat)×World×I1×List N3=>[(2,nP xb),(3,nP ob),(12,sv),(13,nI xs.length),(14,nI y.1)]) (fun y=>y.2.2.1) (fun y=>y.1<=xs.length/\J5 y.2.1 y.2.2.1 T xb #[nI 0,nI 0,nS] 120/\J5 y.2.1 y.2.2.1 (T+2) ob #[nI k,nI c,y.2.2.2.1] 120/\JE bt 120 3 y.2.1 y.2.2.1 (T+3) y.2.2.2.1 y.2.2.2.2/\y.2.2.2.2.length=y.1/\(∀m,m<y.1->Nt y.2.1 y.2.2.1 (nth kids m) (nth y.2.2.2.2 m))/\IK (fun q=>T<=q) O w y.2.1 y.2.2.1/\Km B y.2.1 y.2.2.1) (fun y=>xs.length-y.1) (0,O3,w4,nS,[]) (⟨J6 _,h0,h4,KN _ _ _ _ _ _,rfl,fun m hm=>absurd hm (J1 m),e6,i6⟩) ?_;rintro⟨i,O1',f7,lv,zs⟩ ⟨hi,b2,d2,a',d0,f8,b',c5⟩;dsimp only at hi b2 d2 a' d0 f8 b' c5 ⊢;have e':=bD b' (fun b=>by have:=hT b;omega);have h3:=hs.ext e';refine zh ?_
  refine zC ?_ ?_
  ·intro c9;replace c9:i<xs.length:=dT c9;have h9:=(hk i c9).ext e';have g9:=h9.one;have j3:=cG kids i zo;refine zh ?_;refine zv (ah (us:=bt (nth xs i)) (fun j u hu=>h3.cell c9 hu) (I2 _) (ix _) rfl) ?_;refine au c5 (T+4) zo (I5 _) rfl ?_;intro kb d9 O2' g1 g3 i8 j1;refine zsb (us:=#[nI (nth xs i).1,nI (nth xs i).2.1,(nth xs i).2.2]) g1 (ix _) (bX g9) ?_;have h':=g1.setRow (us:=#[nI (nth xs i).1,nI (nth xs i).2.1,(nth xs i).2.2]);have g2:IK (fun q=>q=T+4) O2' d9 O2' (d9.setRow kb #[nI (nth xs i).1,nI (nth xs i).2.1,(nth xs i).2.2]):=I3 zo g1.tag rfl;have b0:=g3.trans g2;have g6:=(b2.upd b0 zo zo).drew;have d1:=(d2.upd b0 zo zo).drew;have c8:=(a'.upd b0 zo zo).drew;have d7:=(c5.upd b0).drew;have d':∀m,m<i->Nt O2' (d9.setRow kb #[nI (nth xs i).1,nI (nth xs i).2.1,(nth xs i).2.2]).drew (nth kids m) (nth zs m):=fun m hm=>((f8 m hm).upd b0).drew
   have d5:=(b'.trans (b0.mono (fun _ h=>by rw[h];omega) a5)).drew;have g5:=bD d5 (fun b=>by have:=hT b;omega);have hk3d:=h'.drew;have g0:Nt (fun _=>0) (d9.setRow kb #[nI (nth xs i).1,nI (nth xs i).2.1,(nth xs i).2.2]).drew (nth kids i) (nth xs i):=(hk i c9).ext g5;refine zh ?_;refine aK (fun W=>∀(m:Nat) (u:I1),(bt (nth xs i))[m]? = some u->W.cell? (nA kb m)=some u) 8 rfl zk ?_;generalize (d9.setRow kb #[nI (nth xs i).1,nI (nth xs i).2.1,(nth xs i).2.2]).drew=w3' at *;have i3:w3'.cell? (nA ob 2)=some lv:=d1.cell 2 rfl;refine zin hk3d.cellsAdd fun zS=>?_
   refine zrf 0 rfl zS rfl ?_;refine zt 2 rfl zS (fun w1 h2=>ah (us:=bt (nth xs i)) h2 (I2 _) (ix _) rfl) ?_
   have c':=sU n zo (nth kids i) zo B O2' (nth xs i) w3' d7 g0;refine bZ 1 3 zk rfl rfl ?_ ?_
   ·refine zvH (RV.ld i3 rfl) ?_;refine af hk3d.cellsAdd ?_
    refine Jf 3 zk rfl ?_;refine zc Mc c' ?_
    rintro v w5 ⟨z,rfl,f3,g4⟩;have a8:IK (fun _=>False) O2' w3' O2' w5:=aa (fun h=>h) O2' g4;have f4:=g6.upd a8 zo (fun h=>h);have e4:=d1.upd a8 zo (fun h=>h);have a9:=c8.upd a8 zo (fun h=>h);have f6:=d7.upd a8;have d3:=hk3d.upd a8 zo (fun h=>h);have b7:∀m,m<i->Nt O2' w5 (nth kids m) (nth zs m):=fun m hm=>(d' m hm).upd a8
    have b9:=d5.trans (a8.mono (fun _ h=>h.elim) a5);refine zh ?_;refine af d3.cellsAdd ?_;refine Jf 4 zk rfl ?_;refine aV elN (enc:=bt) z rfl rfl rfl zd rfl ?_;intro w6 h6 e9;have a1:IK (fun _=>False) O2' w5 O2' w6:=aa (fun h=>h) O2' e9;have e1:=f4.upd a1 zo (fun h=>h);have d8:=e4.upd a1 zo (fun h=>h);have a6:=a9.upd a1 zo (fun h=>h);have e8:=f6.upd a1;have b8:=d3.upd a1 zo (fun h=>h);have b1:∀m,m<i->Nt O2' w6 (nth kids m) (nth zs m):=fun m hm=>(b7 m hm).upd a1
    have c6:=f3.upd a1;have b6:=b9.trans (a1.mono (fun _ h=>h.elim) a5);refine zh ?_;refine af b8.cellsAdd ?_;have a7:∀u∈[z],∀c∈bt u,c.oneCell'=true:=fun u hu=>by
     rw[IP.1 hu];exact nt c6.one
    refine Jf 5 zk rfl ?_;refine aB elN a6 e8 h6 (by simp) rfl rfl (fun _ _=>rfl) a7 (by simp;omega) (by simp;omega) zo rfl ?_
    intro a3 w7 O7 a0 a4 e7;have e2:=a0.one;have b3:=IG d8 a4 zo zo;have e0:=IG e1 a4 zo zo;have b4:=IG b8 a4 zo zo;refine zh ?_;refine af b4.cellsAdd ?_;refine zrf 6 rfl b4.cellsAdd rfl ?_;refine Jf 7 zk rfl ?_;refine aj (j:=2) b3 rfl (LL _) e2 rfl rfl rfl ?_;have e3:J5 O7 (w7.setCell ⟨ob,2,none⟩ a3) (T+2) ob #[nI k,nI c,a3] 120:=b3.set 2 a3;have a2:IK (fun q=>q=T+2) O7 w7 O7 (w7.setCell ⟨ob,2,none⟩ a3):=IU zo b3.tag rfl;have e5:=b4.upd a2 zo zo;refine zh ?_;refine af e5.cellsAdd ?_;have a5:¬(fun q:Nat=>T<=q) 0:=fun e=>zo
    have b5:=(b6.trans (a4.mono (fun _ h=>by rw[h];omega) a5)).trans (a2.mono (fun _ h=>by rw[h];omega) a5);refine K6 zk ?_;refine zh ?_;refine zxd (i+1,O7,(w7.setCell ⟨ob,2,none⟩ a3),a3,zs++[z]) (⟨c9,e0.upd a2 zo zo,e3,a0.upd a2 zo zo,by simp[d0],fun m hm=>?_,b5,e7.upd a2⟩);dsimp only at hm ⊢
    by_cases e:m<i
    ·rw[aC (xs:=zs++[z]) (by simp;omega),IL zo,<-aC zo];exact((b1 m e).upd a4).upd a2
    obtain rfl:m=zs.length:=zo;rw[aC (xs:=zs++[z]) (by simp),IY zo];simp only[JK,JH];rw[d0];exact(c6.upd a4).upd a2
   refine zc Mc c' ?_;rintro v w5 ⟨z,rfl,f3,g4⟩;have a8:IK (fun _=>False) O2' w3' O2' w5:=aa (fun h=>h) O2' g4;have f4:=g6.upd a8 zo (fun h=>h);have e4:=d1.upd a8 zo (fun h=>h);have a9:=c8.upd a8 zo (fun h=>h);have f6:=d7.upd a8;have d3:=hk3d.upd a8 zo (fun h=>h);have b7:∀m,m<i->Nt O2' w5 (nth kids m) (nth zs m):=fun m hm=>(d' m hm).upd a8
   have b9:=d5.trans (a8.mono (fun _ h=>h.elim) a5);refine zh ?_;refine af d3.cellsAdd ?_;have i2:w5.cell? (nA ob 2)=some lv:=e4.cell 2 rfl;refine bZ 1 4 zk rfl rfl ?_ ?_
   ·refine zvH (RV.ld i2 rfl) ?_;refine af d3.cellsAdd ?_
    refine Jf 4 zk rfl ?_;refine aV elN (enc:=bt) z rfl rfl rfl zd rfl ?_
    intro w6 h6 e9;have a1:IK (fun _=>False) O2' w5 O2' w6:=aa (fun h=>h) O2' e9;have e1:=f4.upd a1 zo (fun h=>h);have d8:=e4.upd a1 zo (fun h=>h);have a6:=a9.upd a1 zo (fun h=>h);have e8:=f6.upd a1;have b8:=d3.upd a1 zo (fun h=>h);have b1:∀m,m<i->Nt O2' w6 (nth kids m) (nth zs m):=fun m hm=>(b7 m hm).upd a1
    have c6:=f3.upd a1;have b6:=b9.trans (a1.mono (fun _ h=>h.elim) a5);refine zh ?_;refine af b8.cellsAdd ?_;have a7:∀u∈[z],∀c∈bt u,c.oneCell'=true:=fun u hu=>by
     rw[IP.1 hu];exact nt c6.one
    refine Jf 5 zk rfl ?_;refine aB elN a6 e8 h6 (by simp) rfl rfl (fun _ _=>rfl) a7 (by simp;omega) (by simp;omega) zo rfl ?_
    intro a3 w7 O7 a0 a4 e7;have e2:=a0.one;have b3:=IG d8 a4 zo zo;have e0:=IG e1 a4 zo zo;have b4:=IG b8 a4 zo zo;refine zh ?_;refine af b4.cellsAdd ?_;refine zrf 6 rfl b4.cellsAdd rfl ?_;refine Jf 7 zk rfl ?_;refine aj (j:=2) b3 rfl (LL _) e2 rfl rfl rfl ?_;have e3:J5 O7 (w7.setCell ⟨ob,2,none⟩ a3) (T+2) ob #[nI k,nI c,a3] 120:=b3.set 2 a3;have a2:IK (fun q=>q=T+2) O7 w7 O7 (w7.setCell ⟨ob,2,none⟩ a3):=IU zo b3.tag rfl;have e5:=b4.upd a2 zo zo;refine zh ?_;refine af e5.cellsAdd ?_;have a5:¬(fun q:Nat=>T<=q) 0:=fun e=>zo
    have b5:=(b6.trans (a4.mono (fun _ h=>by rw[h];omega) a5)).trans (a2.mono (fun _ h=>by rw[h];omega) a5);refine K6 zk ?_;refine zh ?_;refine zxd (i+1,O7,(w7.setCell ⟨ob,2,none⟩ a3),a3,zs++[z]) (⟨c9,e0.upd a2 zo zo,e3,a0.upd a2 zo zo,by simp[d0],fun m hm=>?_,b5,e7.upd a2⟩);dsimp only at hm ⊢
    by_cases e:m<i
    ·rw[aC (xs:=zs++[z]) (by simp;omega),IL zo,<-aC zo];exact((b1 m e).upd a4).upd a2
    obtain rfl:m=zs.length:=zo;rw[aC (xs:=zs++[z]) (by simp),IY zo];simp only[JK,JH];rw[d0];exact(c6.upd a4).upd a2
   refine aV elN (enc:=bt) z rfl rfl rfl zd rfl ?_;intro w6 h6 e9;have a1:IK (fun _=>False) O2' w5 O2' w6:=aa (fun h=>h) O2' e9;have e1:=f4.upd a1 zo (fun h=>h);have d8:=e4.upd a1 zo (fun h=>h);have a6:=a9.upd a1 zo (fun h=>h);have e8:=f6.upd a1;have b8:=d3.upd a1 zo (fun h=>h);have b1:∀m,m<i->Nt O2' w6 (nth kids m) (nth zs m):=fun m hm=>(b7 m hm).upd a1
   have c6:=f3.upd a1;have b6:=b9.trans (a1.mono (fun _ h=>h.elim) a5);refine zh ?_;refine af b8.cellsAdd ?_;have i1:w6.cell? (nA ob 2)=some lv:=d8.cell 2 rfl;refine Jf 1 zk rfl ?_;refine zvH (RV.ld i1 rfl) ?_;refine af b8.cellsAdd ?_;have a7:∀u∈[z],∀c∈bt u,c.oneCell'=true:=fun u hu=>by
    rw[IP.1 hu];exact nt c6.one
   refine Jf 5 zk rfl ?_;refine aB elN a6 e8 h6 (by simp) rfl rfl (fun _ _=>rfl) a7 (by simp;omega) (by simp;omega) zo rfl ?_
   intro a3 w7 O7 a0 a4 e7;have e2:=a0.one;have b3:=IG d8 a4 zo zo;have e0:=IG e1 a4 zo zo;have b4:=IG b8 a4 zo zo;refine zh ?_;refine af b4.cellsAdd ?_;refine zrf 6 rfl b4.cellsAdd rfl ?_;refine Jf 7 zk rfl ?_;refine aj (j:=2) b3 rfl (LL _) e2 rfl rfl rfl ?_;have e3:J5 O7 (w7.setCell ⟨ob,2,none⟩ a3) (T+2) ob #[nI k,nI c,a3] 120:=b3.set 2 a3;have a2:IK (fun q=>q=T+2) O7 w7 O7 (w7.setCell ⟨ob,2,none⟩ a3):=IU zo b3.tag rfl;have e5:=b4.upd a2 zo zo;refine zh ?_;refine af e5.cellsAdd ?_;have a5:¬(fun q:Nat=>T<=q) 0:=fun e=>zo
   have b5:=(b6.trans (a4.mono (fun _ h=>by rw[h];omega) a5)).trans (a2.mono (fun _ h=>by rw[h];omega) a5);refine K6 zk ?_;refine zh ?_;refine zxd (i+1,O7,(w7.setCell ⟨ob,2,none⟩ a3),a3,zs++[z]) (⟨c9,e0.upd a2 zo zo,e3,a0.upd a2 zo zo,by simp[d0],fun m hm=>?_,b5,e7.upd a2⟩);dsimp only at hm ⊢
   by_cases e:m<i
   ·rw[aC (xs:=zs++[z]) (by simp;omega),IL zo,<-aC zo];exact((b1 m e).upd a4).upd a2
   obtain rfl:m=zs.length:=zo;rw[aC (xs:=zs++[z]) (by simp),IY zo];simp only[JK,JH];rw[d0];exact(c6.upd a4).upd a2
  intro i0;obtain rfl:i=xs.length:=dF i0;have h8:=a'.one;refine zh ?_;refine zv (ah (us:=bt ((k,c,lv):N3)) d2.cellsAdd (I2 _) (ix _) rfl) ?_;refine zsb (us:=#[nI k,nI c,lv]) b2 (ix _) (bX (x:=(k,c,lv)) h8) ?_;have g':=b2.setRow (us:=#[nI k,nI c,lv]);have f5:IK (fun q=>q=T) O1' f7 O1' (f7.setRow xb #[nI k,nI c,lv]):=I3 zo b2.tag rfl;have c7:=a'.upd f5 zo zo;have d4:=b'.trans (f5.mono (fun _ h=>by rw[h];omega) a5);have hN:Nt O (f7.setRow xb #[nI k,nI c,lv]) (.mk k c kids) (k,c,lv):=
   .mk c7.sl (c7.freeT zo (fun b=>by have:=hT b;omega) (c5.upd f5) d4) zo (fun m hm=>((f8 m zo).upd f5).low d4)
  refine zh ?_;refine aL rfl rfl (g'.cellsAdd) (I2 _) (ix _) (⟨(k,c,lv),rfl,hN,bD d4 (fun b=>by have:=hT b;omega)⟩)
theorem kY{F:FuncId}(hF:∀(args:Array I1) (w:ln),(callFunc F args).run IZ w=.ok (.enter F args) w)(cs:Array I1)(l:List (N3))(sv:I1)(q:Nat->Bool)(w:ln)(h:Sl bt 3 w sv l) 
  (hq:∀i,i<l.length->∀w',JA w w'->JW IZ F ([nv (nth l i)]++cs.toList) w' fun v w''=>v=.bool (q i)/\JA w' w'') :
  JW IZ 221 [sv,.func (.func F) #[] cs] w fun v w'=>v=nI (dA q l.length)/\JA w w':=by
 have hl:=h.len_le;refine I6 func221 ntmps221 rfl rfl ?_;refine zh ?_;refine zlp (fun x:Nat×ln=>[(0,sv),(1,.func (.func F) #[] cs),(7,nI l.length),(8,nI x.1)]) (fun x=>x.2) (fun x=>x.1<=l.length/\JA w x.2/\∀i,i<x.1->q i=false) (fun x=>l.length-x.1) (0,w) (⟨J6 _,Jd _,fun i hi=>absurd hi (J1 i)⟩) ?_;rintro⟨k,w1⟩ ⟨hk,hE,a1⟩;dsimp only at hk hE a1 ⊢;have h1:=h.ext hE;refine zh ?_;refine zC ?_ ?_
 ·intro a0;replace a0:k<l.length:=dT a0;refine zh ?_;refine zv (ah (us:=bt (nth l k)) (fun j u hu=>h1.cell a0 hu) (I2 _) (ix _) rfl) ?_;refine dt rfl hF rfl (hq k a0 w1 hE) rfl ?_;rintro v w2 ⟨rfl,a3⟩;refine zh ?_;refine zC ?_ ?_
  ·intro hy;refine zh ?_;refine ae rfl rfl (⟨by rw[ck a0 hy a1],hE.trans a3⟩)
  intro hy;refine zh ?_;refine zxd (k+1,w2) (⟨a0,hE.trans a3,fun i hi=>(KB.1 hi).elim (a1 i) (fun e=>by rw[e];exact hy)⟩)
 intro a2;replace a2:l.length<=k:=dF a2;refine zh ?_;refine ae rfl rfl (⟨by rw[cg fun i hi=>a1 i zo],hE⟩)
theorem cH{F:FuncId}(hF:∀(args:Array I1) (w:ln),(callFunc F args).run IZ w=.ok (.enter F args) w)(cs:Array I1)(l:List (N3))(sv:I1)(q:Nat->Bool)(w:ln)(h:Sl bt 3 w sv l) 
  (hq:∀i,i<l.length->∀w',JA w w'->JW IZ F ([nv (nth l i)]++cs.toList) w' fun v w''=>v=.bool (q i)/\JA w' w'') :
  JW IZ 163 [sv,.func (.func F) #[] cs] w fun v w'=>v=.bool (iG q l.length)/\JA w w':=by
 refine I6 func163 ntmps163 rfl rfl ?_;refine zh ?_
 refine zc call221 (kY hF cs l sv q w h hq) ?_;rintro v w1 ⟨rfl,hE⟩;refine zh ?_
 refine ae rfl rfl (⟨by rw[firstN_any],hE⟩)
def named(k:Int):Bool:=(k==0)||(k==2)
def least(k:Int):Int:=if k=4\/k=5 then 2 else if k=6\/k=7\/k=8 then 1 else 0
def nU(k:Int):Int:=if k=4\/k=5 then 2000 else if k=6\/k=7\/k=8 then 1 else 0
def jV(k c:Int)(n:Nat)(a0:Bool):Bool:=
 !(decide (k<0)||decide (9<k)||((k==9)&&a0))&&(!(decide ((n:Int)<least k)||decide (nU k<(n:Int))) &&
 !((named k&&(decide (c<0)||decide (36<=c)))||(!named k&&(c != 0))))
mutual
def lX:Nd->Bool->Bool | .mk k c l,wi=>jV k c l.length wi&&ox l
def ox:List Nd->Bool | []=>true|t::r=>lX t true&&ox r
end
def bn(t:Nd):Bool:=decide (nsz t<=2000)&&lX t false
theorem pc{k c:Int}{n:Nat}{wi:Bool}(h:jV k c n wi=true):
  (k=0/\n=0/\0<=c/\c<36)\/(k=1/\n=0/\c=0)\/(k=2/\n=0/\0<=c/\c<36)\/(k=3/\n=0/\c=0)\/(k=4/\2<=n/\c=0)\/(k=5/\2<=n/\c=0)\/(k=6/\n=1/\c=0)\/(k=7/\n=1/\c=0)\/(k=8/\n=1/\c=0)\/(k=9/\n=0/\c=0/\wi=false):=by
 have a0:k=0\/k=1\/k=2\/k=3\/k=4\/k=5\/k=6\/k=7\/k=8\/k=9:=by
  simp only[jV,IV,JY,Bool.or_eq_false_iff,decide_eq_false_iff_not]at h;omega
 rcases a0 with rfl|rfl|rfl|rfl|rfl|rfl|rfl|rfl|rfl|rfl<;>simp[jV,least,nU,named]at h<;>(try simp)<;>(first|omega|(obtain⟨h1,h2⟩:=h;subst h1;simp;omega))
theorem AZ:∀(l:List Nd),(!(iG (fun i=>!(lX (nth l i) true)) l.length))=ox l:=by
 intro l;rw[Lr];rw[JY,La,Ne,eF]
 induction l with
 |nil=>simp[ox]
 |cons t r ih=>
  simp only[ox,IV,<-ih,IQ]
  constructor
  ·intro h;refine⟨?_,fun⟨i,hi,hq⟩=>h ⟨i+1,zo,by rw[aI];exact hq⟩⟩
   cases ht:lX t true with
   |true=>rfl
   |false=>exact absurd ⟨0,zo,by rw[ao,ht];rfl⟩ h
  rintro⟨h1,h2⟩ ⟨i,hi,hq⟩
  cases i with
  |zero=>rw[ao,h1]at hq;simp at hq
  |succ i=>rw[aI]at hq;exact h2 ⟨i,zo,hq⟩
theorem Cp(k:Int)(w:ln):JW IZ 162 [nI k] w fun v w'=>v=.tuple #[nI (least k),nI (nU k)]/\w'=w:=by
 refine I6 func162 ntmps162 rfl rfl ?_;refine zh ?_
 by_cases h4:k=4
 ·subst h4;refine zTH rfl rfl ?_;refine zTH rfl rfl ?_;refine bH rfl rfl rfl (⟨rfl,rfl⟩)
 refine zFH rfl ((beq_eq_false_iff_ne.2 h4)) ?_
 by_cases h5:k=5
 ·subst h5;refine zTH rfl rfl ?_;refine bH rfl rfl rfl (⟨rfl,rfl⟩)
 refine zFH rfl ((beq_eq_false_iff_ne.2 h5)) ?_
 by_cases h6:k=6
 ·subst h6;refine zTH rfl rfl ?_;refine zTH rfl rfl ?_;refine bH rfl rfl rfl (⟨rfl,rfl⟩)
 refine zFH rfl ((beq_eq_false_iff_ne.2 h6)) ?_
 by_cases h7:k=7
 ·subst h7;refine zTH rfl rfl ?_;refine zTH rfl rfl ?_;refine bH rfl rfl rfl (⟨rfl,rfl⟩)
 refine zFH rfl ((beq_eq_false_iff_ne.2 h7)) ?_
 by_cases h8:k=8
 ·subst h8;refine zTH rfl rfl ?_;refine bH rfl rfl rfl (⟨rfl,rfl⟩)
 refine zFH rfl ((beq_eq_false_iff_ne.2 h8)) ?_;refine bH rfl rfl rfl (⟨by simp[least,nU,h4,h5,h6,h7,h8],rfl⟩)
theorem CI{b:Bool}{t:Nd}(ih:∀(y:N3) (W:ln),Nt (fun _=>0) W t y->JW IZ 121 [nv y,.bool true] W fun v w'=>v=.bool b/\JA W w')(x:N3)(w:ln)(h:Nt (fun _=>0) w t x):
  JW IZ 164 [nv x] w fun v w'=>v=.bool (!b)/\JA w w':=by
 refine I6 func164 ntmps164 rfl rfl ?_;refine zh ?_
 refine aH (ay w) 1 zo rfl rfl ?_;intro xb w1 O1 a1 a3 a4 a0;refine zh ?_
 refine zv (ah (us:=bt x) a1.cellsAdd (I2 _) (ix _) rfl) ?_;refine zc call121 (ih x w1 (h.ext a0)) ?_
 rintro v w2 ⟨rfl,a2⟩;refine zh ?_;refine ae rfl rfl (⟨rfl,a0.trans a2⟩)
theorem xh:∀(n:Nat) (t:Nd),nsz t<=n->∀(x:N3) (w:ln) (a0:Bool),Nt (fun _=>0) w t x->JW IZ 121 [nv x,.bool a0] w fun v w'=>v=.bool (lX t a0)/\JA w w'
 |0,t,hn=>by have:=ew t;omega
 |n+1,.mk k c kids,hn=>by
  intro x w a0 h;have b1:=h.ones;obtain⟨xs,hs,hf,hl,hk⟩:=h.kids;simp only[KQ]at hl hk;simp only[nsz]at hn;have hF:lX (.mk k c kids) a0=(jV k c kids.length a0&&ox kids):=rfl;rw[hF];generalize x.2.2=sv at *;subst b1;simp only[LZ,M8];refine I6 func121 ntmps121 rfl rfl ?_;refine zh ?_;refine aH (ay w) 1 zo rfl rfl ?_;intro xb w1 O1 a9 b4 b5 a4;have c0:w1.cell? (nA xb 0)=some (nI k):=a9.cell 0 rfl;have c1:w1.cell? (nA xb 1)=some (nI c):=a9.cell 1 rfl;have c2:w1.cell? (nA xb 2)=some sv:=a9.cell 2 rfl;have b2:=hs.ext a4;refine zh ?_;refine cD (fun w1=>_=w1) ((k==2)) 3 (rfl) rfl rfl rfl rfl rfl ?_ ?_
  ·intro a1;refine zh ?_;refine nE 11 4 (rfl) a1
  rintro _ rfl;refine zh ?_;refine zc call162 (Cp k w1) ?_;rintro v w9 ⟨rfl,a'⟩;rw[a'];clear a' w9;refine zh ?_;refine cD (fun w1=>_=w1) (decide (9<k)) 3 (rfl) rfl rfl rfl rfl rfl ?_ ?_
  ·intro a2;refine zh ?_;refine nE 26 4 (rfl) a2
  rintro _ rfl;refine zh ?_;refine cD (fun w1=>_=w1) (((k==9)&&a0)) 6 (rfl) rfl rfl rfl rfl rfl ?_ ?_
  ·intro a3;refine zh ?_
   cases a7:(k==9)with
   |true=>
    refine aw (d:=35) rfl (b':=true) (rfl) ?_;refine zh ?_
    refine nE 31 8 (rfl) a3
   |false=>
    refine aw (d:=35) rfl (b':=false) (rfl) ?_;refine zh ?_
    refine nE 31 8 (rfl) a3
  rintro _ rfl;refine zh ?_
  cases h1:(decide (k<0)||decide (9<k)||((k==9)&&a0))with
  |true=>
   refine zTH rfl rfl ?_;refine ae rfl rfl (⟨by simp only[jV,h1];rfl,a4⟩)
  |false=>
   refine zFH rfl rfl ?_;refine cD (fun w1=>_=w1) (decide (nU k<(xs.length:Int))) 5 (rfl) rfl rfl rfl rfl rfl ?_ ?_
   ·intro a5;refine zh ?_;refine nE 45 6 (rfl) a5
   rintro _ rfl;refine zh ?_
   cases h2:(decide ((xs.length:Int)<least k)||decide (nU k<(xs.length:Int)))with
   |true=>
    refine zTH rfl rfl ?_;refine ae rfl rfl (⟨by simp only[jV,h1,hl,h2];rfl,a4⟩)
   |false=>
    refine zFH rfl rfl ?_;refine bK (fun w1=>_=w1) ((decide (c<0)||decide (36<=c))) 8 (rfl) rfl rfl rfl rfl rfl ?_ ?_
    ·intro a6;refine zh ?_
     cases a7:decide (c<0)with
     |true=>
      refine aw (d:=58) rfl (b':=true) (rfl) ?_;refine zh ?_
      refine nE 54 10 (rfl) a6
     |false=>
      refine aw (d:=58) rfl (b':=false) (rfl) ?_;refine zh ?_
      refine nE 54 10 (rfl) a6
    rintro _ rfl;refine zh ?_;refine cD (fun w1=>_=w1) ((!((k==0)||(k==2))&&(c != 0))) 7 (rfl) rfl rfl rfl rfl rfl ?_ ?_
    ·intro a8;refine zh ?_
     cases a7:((k==0)||(k==2))with
     |true=>
      rw[a7]at a8;refine aw (d:=67) rfl (b':=false) (rfl) ?_;refine zh ?_;refine nE 64 9 (rfl) a8
     |false=>
      rw[a7]at a8;refine aw (d:=67) rfl (b':=true) (rfl) ?_;refine zh ?_;refine nE 64 9 (rfl) a8
    rintro _ rfl;refine zh ?_
    cases h3:(((((k==0)||(k==2))&&(decide (c<0)||decide (36<=c))))||(!((k==0)||(k==2))&&(c != 0)))with
    |true=>
     refine zTH rfl rfl ?_;refine ae rfl rfl (⟨by simp only[jV,h1,hl,h2,named,h3];rfl,a4⟩)
    |false=>
     refine zFH rfl rfl ?_;refine zc call163 (cH call164 #[] xs sv (fun i=>!(lX (nth kids i) true)) w1 b2 (fun i hi w' hE=>CI (fun y W hy=>xh n (nth kids i) (by have:=cG kids i (zo);omega) y W true hy) (nth xs i) w' ((hk i hi).ext (a4.trans hE)))) ?_
     rintro v w2 ⟨rfl,b3⟩;refine zh ?_;have b0:=AZ kids;rw[hl]at b0;refine ae rfl rfl (⟨by rw[b0];simp only[jV,h1,hl,h2,named,h3];rfl,a4.trans b3⟩)
theorem fh(t:Nd)(x:N3)(w:ln)(h:Nt (fun _=>0) w t x):JW IZ 83 [nv x] w fun v w'=>v=.bool (bn t)/\JA w w':=by
 have hx:=h.ones;refine I6 func83 ntmps83 rfl rfl ?_;refine zh ?_;refine aH (ay w) 1 zo rfl rfl ?_;intro xb w1 O1 a5 a6 a7 a3;have a4:∀W,JA w1 W->∀(j:Nat) (u:I1),(bt x)[j]? = some u->W.cell? (nA xb j)=some u:=fun W hE j u hu=>hE.cell (a5.cellsAdd j u hu)
 refine zh ?_;refine zv (ah (us:=bt x) (a4 w1 (Jd _)) (I2 _) (ix _) rfl) ?_
 refine zc Md (pW (nsz t) t (I0 _) x w1 2000 (h.ext a3) zo) ?_;rintro v w2 ⟨rfl,a0⟩;have hd:decide (((min (nsz t) (2000+1):Nat):Int)<=2000)=decide (nsz t<=2000):=decide_eq_decide.2 zo;refine zh ?_
 rw[hd];refine bK (JA w1) (lX t false) 2 (a0) rfl rfl rfl rfl rfl ?_ ?_
 ·intro a1;refine zh ?_;refine zvH (ah (us:=bt x) (a4 _ a0) (I2 _) (ix _) rfl) ?_;refine zc call121 (xh (nsz t) t (I0 _) x _ false (h.ext (a3.trans a0))) ?_;rintro v w3 ⟨rfl,a2⟩;refine zh ?_;refine nE 6 3 (a0.trans a2) a1
 intro w3 a2;refine zh ?_;refine ae rfl rfl (⟨rfl,a3.trans a2⟩)
structure Cell0(O:Nat->Nat)(w:ln)(a:LV)(v:I1):Prop where
 z:O a.block=0
 c:w.cell? a=some v
theorem Cell0.upd{S:Nat->Prop}{O O':Nat->Nat}{w w':ln}{a:LV}{v:I1}(h:Cell0 O w a v)(u:IK S O w O' w'):Cell0 O' w' a v:=by
 have a1:=Kv w a h.c;refine⟨IM fun a0=>?_,gH (u.blk _ a1 (by rw[h.z];exact u.z)) h.c⟩
 rcases u.new _ a0 with h1|h1
 ·exact h1 h.z
 omega
theorem Cell0.ext{O:Nat->Nat}{w w':ln}{a:LV}{v:I1}(h:Cell0 O w a v)(e:JA w w'):Cell0 O w' a v:=⟨h.z,e.cell h.c⟩
theorem Fm{T xb:Nat}{O O1 O2:Nat->Nat}{w w1 w2:ln}{us:Array I1}{E:I9}(_:0<T)(hT:∀b,O b<T)(u1:IK (fun q=>q=T) O w O1 w1)(u2:IK (fun q=>q=T) O1 w1 O2 w2)(hx:J5 O2 w2 T xb us E):
  JA w w2/\∀j u,us.toList[j]? = some u->Cell0 O w2 (nA xb j) u:=by
 have hO:O xb=0:=IM fun a0=>by
  have h1:=u1.tag xb a0;have h2:=u2.tag xb (by rw[h1];exact a0);have:=hT xb;have:=hx.tag;omega
 refine⟨bD (u1.trans u2) fun b e=>?_,fun j u hu=>⟨?_,hx.cellsAdd j u hu⟩⟩
 ·have:=hT b;omega
 show O (nA xb j).block=0;have:(nA xb j).block=xb:=by simp only[JC];split<;>rfl
 rw[this];exact hO
abbrev qE(x:Lf):List I1:=[nI x.1,nI x.2.1,nI (x.2.2:Nat)]
abbrev K3:=I1×I1×Nat
abbrev F6(x:K3):List I1:=[x.1,x.2.1,nI (x.2.2:Nat)]
theorem Ij:LB IZ 275 283 3 24:=⟨underlying275,by kernel_rfl,zd⟩
theorem IB:LB IZ 276 280 3 56:=⟨KR,by kernel_rfl,zd⟩
theorem ke:LB IZ 22 3 1 8:=⟨underlying22,by kernel_rfl,zd⟩
theorem GI:cF IZ 278 #[(0,1),(1,1),(2,1),(3,1),(4,1)]:=⟨_,underlying278,fun w=>by kernel_rfl⟩
theorem GH:cF IZ 280 #[(0,1),(1,1),(2,1)]:=⟨_,underlying280,fun w=>by kernel_rfl⟩
theorem GG:cF IZ 283 #[(0,1),(1,1),(2,1)]:=⟨_,underlying283,fun w=>by kernel_rfl⟩
structure Ks(O:Nat->Nat)(w:ln)(i:Nat)(kv:I1)(g:Gr)(xs:List K3):Prop where
 row:JE F6 280 3 O w (i+2) kv xs
 len:xs.length=g.ks.length
 fr:∀k,k<xs.length->JE aR 3 1 O w (i+6+2*k) (nth xs k).1 (g.fr k)
 lv:∀k,k<xs.length->JE aR 3 1 O w (i+7+2*k) (nth xs k).2.1 (g.lv k)
 en:∀k,k<xs.length->(nth xs k).2.2=g.en k
theorem Ks.upd{S:Nat->Prop}{O O':Nat->Nat}{w w':ln}{i:Nat}{kv:I1}{g:Gr}{xs:List K3}(h:Ks O w i kv g xs)(u:IK S O w O' w')(hS:∀q,i<=q->q<i+8+2*g.ks.length->¬S q):Ks O' w' i kv g xs:=
 have hl:=h.len
 ⟨h.row.upd u zo (hS _ zo zo),h.len,fun k hk=>(h.fr k hk).upd u zo (hS _ zo zo),fun k hk=>(h.lv k hk).upd u zo (hS _ zo zo),h.en⟩
abbrev nfC(se:Bool)(lv kv nv tv:I1):Array I1:=#[.bool se,lv,kv,nv,tv]
structure NfO(O:Nat->Nat)(w:ln)(i nb:Nat)(se:Bool)(g:Gr)(nv tv lv kv:I1)(xs:List K3):Prop where
 blk:J5 O w i nb (nfC se lv kv nv tv) 278
 ls:JE qE 283 3 O w (i+1) lv g.ls
 ks:Ks O w i kv g xs
theorem NfO.updT{S:Nat->Prop}{O O':Nat->Nat}{w w':ln}{i nb:Nat}{se:Bool}{g:Gr}{nv tv lv kv:I1}{xs:List K3}(h:NfO O w i nb se g nv tv lv kv xs)(u:IK S O w O' w')(hi:i≠0)(hS:∀q,i<=q->q<i+8+2*g.ks.length->¬S q):NfO O' w' i nb se g nv tv lv kv xs:=
 ⟨h.blk.upd u hi (hS _ (I0 _) zo),h.ls.upd u zo (hS _ zo zo),h.ks.upd u hS⟩
theorem NfO.upd{S:Nat->Prop}{O O':Nat->Nat}{w w':ln}{i nb:Nat}{se:Bool}{g:Gr}{nv tv lv kv:I1}{xs:List K3}(h:NfO O w i nb se g nv tv lv kv xs)(u:IK S O w O' w')(hi:i≠0)(hS:∀q,i<=q->¬S q):NfO O' w' i nb se g nv tv lv kv xs:=h.updT u hi fun q h _=>hS q h
theorem NfO.ext{O:Nat->Nat}{w w':ln}{i nb:Nat}{se:Bool}{g:Gr}{nv tv lv kv:I1}{xs:List K3}(h:NfO O w i nb se g nv tv lv kv xs)(e:JA w w')(hi:i≠0):NfO O w' i nb se g nv tv lv kv xs:=
 h.upd (aa (S:=fun _=>False) (fun h=>h) O e) hi fun _ _ h=>h
def NfP(B:Nat)(O:Nat->Nat)(w w':ln)(i nb:Nat)(se:Bool)(g:Gr)(nv tv:I1):Prop:=
 ∃O' lv kv xs,IK (fun q=>i<=q) O w O' w'/\Km B O' w'/\NfO O' w' i nb se g nv tv lv kv xs
section
variable{O:Nat→Nat}{w:ln}{i nb:Nat}{se:Bool}{g:Gr}{nv tv lv kv:I1}{xs:List K3}
theorem NfO.c0(h:NfO O w i nb se g nv tv lv kv xs):w.cell? (nA nb 0)=some (.bool se):=h.blk.cell 0 rfl
theorem NfO.c1(h:NfO O w i nb se g nv tv lv kv xs):w.cell? (nA nb 1)=some lv:=h.blk.cell 1 rfl
theorem NfO.c2(h:NfO O w i nb se g nv tv lv kv xs):w.cell? (nA nb 2)=some kv:=h.blk.cell 2 rfl
theorem NfO.c3(h:NfO O w i nb se g nv tv lv kv xs):w.cell? (nA nb 3)=some nv:=h.blk.cell 3 rfl
theorem NfO.c4(h:NfO O w i nb se g nv tv lv kv xs):w.cell? (nA nb 4)=some tv:=h.blk.cell 4 rfl
theorem Ks.f0(h:Ks O w i kv g xs){k:Nat}(hk:k<xs.length):w.cell? ((adr kv 3 k).add 0)=some (nth xs k).1:=h.row.sl.cell (j:=0) hk rfl
theorem Ks.f1(h:Ks O w i kv g xs){k:Nat}(hk:k<xs.length):w.cell? ((adr kv 3 k).add 1)=some (nth xs k).2.1:=h.row.sl.cell (j:=1) hk rfl
end
structure Bd(g:Gr)(M:Nat):Prop where
 ks:g.ks.length<=M
 ls:g.ls.length<=M
 fr:∀k,(g.fr k).length<=M
 lv:∀k,(g.lv k).length<=M
theorem Bd.mono{g:Gr}{M M':Nat}(h:Bd g M)(hm:M<=M'):Bd g M':=⟨by have:=h.ks;omega,by have:=h.ls;omega,fun k=>by have:=h.fr k;omega,fun k=>by have:=h.lv k;omega⟩
theorem Bd.knot{g:Gr}{M:Nat}(h:Bd g M):Bd g.knot (M+1):=⟨by rw[aE];have:=h.ks;omega,by have:=h.ls;show g.ls.length<=_;omega,fun k=>by
 rw[np];split
 ·have:=h.fr k;omega
 ·simp,fun k=>by
 rw[nn];split
 ·have:=h.lv k;omega
 simp⟩
theorem Bd.free{g:Gr}{M:Nat}(h:Bd g M){a b:Nat}(ha:a<g.ks.length):Bd (g.free a b) (M+1):=⟨by rw[aO];have:=h.ks;omega,by have:=h.ls;show g.ls.length<=_;omega,fun k=>by
 rw[dq ha];split
 ·have:=h.fr a;simp;omega
 ·have:=h.fr k;omega,fun k=>by
 rw[ns ha];have:=h.lv k;omega⟩
theorem Bd.leaf{g:Gr}{M:Nat}(h:Bd g M){x c:Int}{a b:Nat}(ha:a<g.ks.length):Bd (g.leaf x c a b) (M+1):=⟨by rw[fT];have:=h.ks;omega,by have:=h.ls;rw[jf];simp;omega,fun k=>by
 rw[mZ ha];have:=h.fr k;omega,fun k=>by
 rw[kV ha];split
 ·have:=h.lv a;simp;omega
 have:=h.lv k;omega⟩
theorem Bd.layO{g:Gr}{M:Nat}(h:Bd g M){k:Int}{i:Nat}(hi:i+1<g.ks.length):Bd (layO k g i) (M+2):=by
 unfold Ja;split<;>split
 ·exact h.mono zo
 ·exact(h.free zo).mono zo
 ·exact(h.free hi).mono zo
 exact(h.free zo).free (by rw[aO];exact hi)
theorem Bd.often{g:Gr}{M:Nat}(h:Bd g M){a b:Nat}(ha:a<g.ks.length):Bd (bu g a b) (M+4):=by
 have h2:g.knot.knot.ks.length=g.ks.length+2:=by rw[aE,aE]
 unfold bu;exact(h.knot.knot.free zo).free (by rw[aO];omega)
mutual
theorem fV:∀(t:Nd) (a b:Nat) (g:Gr) (M:Nat),WF g->a<g.ks.length->b<g.ks.length->Bd g M->Bd (eU t a b g) (M+(9*nsz t-1))
 |.mk k c l,a,b,g,M,h,ha,hb,hM=>by
  unfold eU
  simp only[nsz]
  split
  ·exact(AD l a b g M h ha hb hM).mono zo
  split
  ·exact(AJ l a b g M h ha hb hM).mono zo
  split
  ·have hl:=dH g a b
   have hwf:=et h ha hb
   obtain⟨h1,h2⟩:=kW l g.ks.length (g.ks.length+1) (bu g a b) hwf zo zo
   have:=h2.len
   have h3:=D0 l g.ks.length (g.ks.length+1) (bu g a b) (M+4) hwf zo zo (hM.often ha)
   exact(h3.layO zo).mono zo
  split
  ·exact(hM.free ha).mono zo
  exact(hM.leaf ha).mono zo
theorem AD:∀(l:List Nd) (a b:Nat) (g:Gr) (M:Nat),WF g->a<g.ks.length->b<g.ks.length->Bd g M->Bd (mw l a b g) (M+9*ez l)
 |[],_,_,g,M,_,_,_,hM=>hM.mono zo
 |t::r,a,b,g,M,h,ha,hb,hM=>by
  unfold mw
  simp only[ez]
  have hp:=ew t
  split
  ·exact(fV t a b g M h ha hb hM).mono zo
  have hl:=aE g
  obtain⟨h1,h2⟩:=bU t a g.ks.length g.knot h.knot zo zo
  have:=h2.len
  exact(AD r g.ks.length b _ _ h1 zo zo (fV t a g.ks.length g.knot (M+1) h.knot zo zo hM.knot)).mono zo
theorem AJ:∀(l:List Nd) (a b:Nat) (g:Gr) (M:Nat),WF g->a<g.ks.length->b<g.ks.length->Bd g M->Bd (mz l a b g) (M+9*ez l)
 |[],_,_,g,M,_,_,_,hM=>hM.mono zo
 |t::r,a,b,g,M,h,ha,hb,hM=>by
  unfold mz
  simp only[ez]
  have hp:=ew t
  obtain⟨h1,h2⟩:=bU t a b g h ha hb
  have:=h2.len
  exact(AJ r a b _ _ h1 zo zo (fV t a b g M h ha hb hM)).mono zo
theorem D0:∀(l:List Nd) (a b:Nat) (g:Gr) (M:Nat),WF g->a<g.ks.length->b<g.ks.length->Bd g M->Bd (my l a b g) (M+9*ez l)
 |[],_,_,g,M,_,_,_,hM=>hM.mono zo
 |t::_,a,b,g,M,h,ha,hb,hM=>by
  unfold my
  simp only[ez]
  exact(fV t a b g M h ha hb hM).mono zo
end
theorem Upd.hi{U i:Nat}{O O':Nat->Nat}{w w':ln}(h:IK (fun q=>q=U) O w O' w')(hi:i≠0)(hU:i<=U):IK (fun q=>i<=q) O w O' w':=h.mono (fun q e=>by rw[e];exact hU) zo
theorem iq(B:Nat)(O:Nat->Nat)(w:ln)(i nb:Nat)(se:Bool)(g:Gr)(nv tv lv kv:I1)(xs:List K3)(hi:i≠0)(hR:Km B O w)(h:NfO O w i nb se g nv tv lv kv xs)(hM:g.ks.length<=100000000):
  JW IZ 177 [nP nb] w fun v w'=>v=nI ((g.ks.length:Nat):Int)/\NfP B O w w' i nb se g.knot nv tv:=by
 have a0:=h.ks.len;refine I6 func177 ntmps177 rfl rfl ?_;refine zh ?_;refine zv (RV.ld h.c2 rfl) ?_;refine zv (aF GH (zeroValue280 _) rfl (by first|rfl|(simp only[IF,IR];rfl)) rfl rfl) ?_;refine LW IB h.ks.row hR (((nS,nS,0):K3)) (fun _=>rfl) rfl rfl rfl (by simp[Jr]) zo zo zo zd rfl rfl ?_;intro a3 w1 O1 a4 a5 a';have a6:=h.blk.upd a5 hi zo;refine zh ?_;refine aj (j:=2) a6 rfl (sizeOf276 _) a4.one rfl rfl rfl ?_;have a8:=a6.set 2 a3;have a2:IK (fun q=>q=i) O1 w1 O1 (w1.setCell ⟨nb,2,none⟩ a3):=IU (fun e=>hi e.symm) a6.tag rfl;have a1:=a4.upd a2 zo zo;have a9:=a'.upd a2;generalize w1.setCell ⟨nb,2,none⟩ a3=w2 at *;have c2:w2.cell? (nA nb 2)=some a3:=a8.cell 2 rfl;have b0:=a1.sl;have b1:∀k,i+6<=k->¬(k=i+2):=fun k hk=>zo
 have a7:(xs++[((nS,nS,0):K3)]).length=g.ks.length+1:=by simp[a0]
 refine zh ?_;refine ae rfl rfl (⟨by rw[a7];congr 1;omega,O1,lv,a3,xs++[(nS,nS,0)],(Upd.hi a5 hi zo).trans (Upd.hi a2 hi (I0 _)),a9,⟨a8,(h.ls.upd a5 zo zo).upd a2 zo zo,⟨a1,by rw[a7,aE],fun k hk=>?_,fun k hk=>?_,fun k hk=>?_⟩⟩⟩)
 ·rw[aA,np,a0]
  by_cases e:k<g.ks.length
  ·rw[if_pos e,if_pos e];exact((h.ks.fr k zo).upd a5 zo zo).upd a2 zo zo
  rw[if_neg e,if_neg e,show k-g.ks.length=0 from by omega,ao];exact KN _ _ _ _ _ _
 ·rw[aA,nn,a0]
  by_cases e:k<g.ks.length
  ·rw[if_pos e,if_pos e];exact((h.ks.lv k zo).upd a5 zo zo).upd a2 zo zo
  rw[if_neg e,if_neg e,show k-g.ks.length=0 from by omega,ao];exact KN _ _ _ _ _ _
 rw[aA,qw,a0]
 by_cases e:k<g.ks.length
 ·rw[if_pos e,if_pos e];exact h.ks.en k zo
 rw[if_neg e,if_neg e,show k-g.ks.length=0 from by omega,ao]
theorem fW(B:Nat)(O:Nat->Nat)(w:ln)(i nb:Nat)(se:Bool)(g:Gr)(nv tv lv kv:I1)(xs:List K3)(a b:Nat)(hi:i≠0)(hR:Km B O w)(h:NfO O w i nb se g nv tv lv kv xs)(ha:a<g.ks.length)(hM:(g.fr a).length<=100000000)(b8:g.ks.length<=100000000):
  JW IZ 178 [nP nb,nI (a:Nat),nI (b:Nat)] w fun _ w'=>NfP B O w w' i nb se (g.free a b) nv tv:=by
 have a8:=h.ks.len;have a2:a<xs.length:=zo;have hs:=h.ks.row.sl;have f0:=h.ks.f0 a2;refine I6 func178 ntmps178 rfl rfl ?_;have a0:w.drew.cell? (nA nb 2)=some kv:=h.c2;have b6:w.drew.cell? ((adr kv 3 a).add 0)=some (nth xs a).1:=f0;refine aK (fun W=>W.cell? (nA nb 2)=some kv) 19 rfl zk ?_;refine zrm 0 rfl a0 rfl ?_;refine zr 1 rfl a0 (fun _=>ak rfl) ?_;refine zrf 2 rfl a0 rfl ?_;refine zt 3 rfl a0 (fun w1 a7=>RV.ld a7 rfl) ?_;refine zrm 4 rfl a0 rfl ?_;refine zrm 5 rfl a0 rfl ?_;refine zr 6 rfl a0 (fun _=>ak rfl) ?_;refine zrf 7 rfl a0 rfl ?_;refine zt 8 rfl a0 (fun w1 a7=>RV.ld a7 rfl) ?_;refine zrm 9 rfl a0 rfl ?_;refine zr 10 rfl a0 (fun _=>az hs.sh KR (sizeOf280 _) rfl rfl a rfl a2) ?_;refine zrf 11 rfl a0 rfl ?_;refine zrm 13 rfl a0 rfl ?_;refine bN 12 14 ke (enc:=aR) b rfl rfl zk zk zk zk (fun W hE=>RV.load (hE.cell b6) (isAgg22 _) rfl) (fun W hE=>hE.cell a0) rfl rfl rfl zd rfl rfl rfl rfl rfl ?_;intro sv w0 b1 b5;have b0:IK (fun _=>False) O w O w0:=aa (fun h=>h) O ((Jd w).drew.trans b5);have h0:=h.upd b0 hi fun _ _ h=>h
 have b4:=hR.upd b0;refine Jf 15 zk rfl ?_;refine aB ke (h0.ks.fr a a2) b4 b1 (by simp) rfl rfl (by simp) (by simp[Jr]) (by simp;omega) (by simp;omega) zo rfl ?_;intro fv w1 O1 a6 a4 b3;have h1:=h0.blk.upd a4 hi zo;have a':=h0.ks.row.upd a4 zo zo;have d1:w1.cell? (nA nb 2)=some kv:=h1.cell 2 rfl;refine zh ?_;refine af (d1) ?_;refine zr 16 rfl (d1) (fun _=>az hs.sh KR (sizeOf280 _) rfl rfl a rfl a2) ?_;refine zrf 17 rfl (d1) rfl ?_;refine Jf 18 zk rfl ?_;refine nL a' a a2 0 zd ((fv,(nth xs a).2.1,(nth xs a).2.2):K3) (sizeOf22 _) a6.one zo rfl rfl rfl rfl ?_;intro w2 a9 a3;have h2:=h1.upd a3 hi zo;have d2:w2.cell? (nA nb 2)=some kv:=h2.cell 2 rfl;refine zh ?_;refine af (d2) ?_;have b2:IK (fun q=>i<=q) O w O1 w2:=((b0.mono (fun _ h=>h.elim) zo).trans (Upd.hi a4 hi zo)).trans (Upd.hi a3 hi zo);have a5:∀k,k<xs.length->k≠a->JE aR 3 1 O1 w2 (i+6+2*k) (nth xs k).1 (g.fr k):=fun k hk b7=>((h0.ks.fr k hk).upd a4 zo zo).upd a3 zo zo
 have a1:∀k,k<xs.length->JE aR 3 1 O1 w2 (i+7+2*k) (nth xs k).2.1 (g.lv k):=fun k hk=>((h0.ks.lv k hk).upd a4 zo zo).upd a3 zo zo
 refine K6 zk ?_;refine aD rfl (⟨O1,lv,kv,xs.set a (fv,(nth xs a).2.1,(nth xs a).2.2),b2,b3.upd a3,⟨h2,(h0.ls.upd a4 zo zo).upd a3 zo zo,⟨a9,by rw[Jc,aO];exact a8,fun k hk=>?_,fun k hk=>?_,fun k hk=>?_⟩⟩⟩)
 ·rw[Jc]at hk;rw[aW a2,dq ha]
  by_cases e:k=a
  ·subst e;rw[if_pos rfl,if_pos rfl];exact a6.upd a3 zo zo
  rw[if_neg e,if_neg e];exact a5 k hk e
 ·rw[Jc]at hk;rw[aW a2,ns ha]
  by_cases e:k=a
  ·subst e;rw[if_pos rfl];exact a1 k hk
  rw[if_neg e];exact a1 k hk
 rw[Jc]at hk;rw[aW a2,uM ha]
 by_cases e:k=a
 ·subst e;rw[if_pos rfl];exact h.ks.en k hk
 rw[if_neg e];exact h.ks.en k hk
section
def Ck(s:List UInt8)(m:List UInt8×Nd):Bool:=(m.1==s&&bn m.2)&&(m.2.kind != 9)
def gd(kn:Kn)(r:List UInt8):PR:=
 if r.takeWhile ai=[97,110,121]then .ok (.mk 1 0 []) (r.dropWhile ai)
 else match kn.reverse.find? (Ck (r.takeWhile ai))with
  |some m=>.ok m.2 (r.dropWhile ai)
  |none=>dB 0 r
def iF(kn:Kn)(al:Option (List UInt8->PR))(r0:List UInt8):PR:=
 if ai ((ar r0).headD 0)=true then gd kn (ar r0)
 else if(ar r0).headD 0=126 then dB 2 (ar r0).tail
 else if(ar r0).headD 0=94 then .ok (.mk 3 0 []) (ar r0).tail
 else if(ar r0).headD 0=40 then bV al (ar r0)
 else .bad (ar r0).length 4
def eP(kn:Kn)(al:Option (List UInt8->PR))(r0:List UInt8):PR:=
 match iF kn al r0 with
 |.bad p e=>.bad p e
 |.ok t r1=>
  match opM ((ar r1).headD 0)with
  |some k=>.ok (.mk (6+(k:Nat)) 0 [t]) (ar r1).tail
  |none=>.ok t (ar r1)
def dd(kn:Kn)(al:Option (List UInt8->PR)):Nat->List Nd->List UInt8->PR
 |0,acc,r=>.ok (oneM 4 acc) r
 |n+1,acc,r=>
  if eX ((ar r).headD 0)=true then
   match eP kn al (ar r)with
   |.bad p e=>.bad p e
   |.ok t r2=>dd kn al n (acc++[t]) r2
  else .ok (oneM 4 acc) (ar r)
def BH(kn:Kn)(al:Option (List UInt8->PR))(r:List UInt8):PR:=
 match eP kn al r with
 |.bad p e=>.bad p e
 |.ok t r1=>dd kn al (r1.length+1) [t] r1
def cC(kn:Kn)(al:Option (List UInt8->PR)):Nat->List Nd->List UInt8->PR
 |0,acc,r=>.ok (oneM 5 acc) r
 |n+1,acc,r=>
  if(ar r).headD 0=124 then
   match BH kn al (ar r).tail with
   |.bad p e=>.bad p e
   |.ok t r2=>cC kn al n (acc++[t]) r2
  else .ok (oneM 5 acc) (ar r)
def nJ(kn:Kn)(al:Option (List UInt8->PR))(r:List UInt8):PR:=
 match BH kn al r with
 |.bad p e=>.bad p e
 |.ok t r1=>cC kn al (r1.length+1) [t] r1
def uZ(kn:Kn):Nat->List UInt8->PR
 |0=>nJ kn none
 |d+1=>nJ kn (some (uZ kn d))
def eV(kn:Kn)(l:List UInt8):XR:=
 if 4096<l.length then .bad 0 3 else
 match uZ kn 20 l with
 |.bad p e=>.bad (l.length-p) e
 |.ok t r=>if(ar r).length≠0 then .bad (l.length-(ar r).length) 4 else if 2000<nsz t then .bad 0 3 else .ok t
variable{kn:Kn}
theorem uq(r:List UInt8)(h:ai (r.headD 0)=true):Good r (gd kn r):=by
 unfold gd
 split
 ·exact je h
 split
 ·exact je h
 exact nz _ _
theorem pH{al:Option (List UInt8->PR)}(ha:mj al)(r:List UInt8):Good r (iF kn al r):=by
 refine Good.mono ?_ (aY r);unfold iF
 split
 ·rename_i h;exact uq _ h
 split
 ·rename_i h;obtain⟨g1,g2⟩:=bT (r:=ar r) (by rw[h];decide);exact(nz _ _).mono g1
 split
 ·rename_i h;obtain⟨g1,g2⟩:=bT (r:=ar r) (by rw[h];decide);exact⟨g1,zo⟩
 split
 ·rename_i h;exact oC ha _ (by rw[h];decide)
 exact⟨I0 _,zd⟩
theorem fM{al:Option (List UInt8->PR)}(ha:mj al)(r:List UInt8):Good r (eP kn al r):=by
 have h:=pH (kn:=kn) ha r;unfold eP
 cases hf:iF kn al r with
 |bad p e=>rw[hf]at h;exact h
 |ok t r1=>
  rw[hf]at h;have h2:=da r1;dsimp only
  split
  ·rename_i k hk;obtain⟨g1,g2⟩:=bT (C5 hk);exact⟨(g1.trans (aY r1)).trans h.1,by have:=h.2;omega⟩
  exact⟨(aY r1).trans h.1,by have:=h.2;omega⟩
theorem jD{al:Option (List UInt8->PR)}(ha:mj al):∀(n:Nat) (a0:List Nd) (r:List UInt8),Gp r (dd kn al n a0 r)
 |0,a0,r=>K8 r
 |n+1,a0,r=>by
  unfold dd
  split
  ·have h:=(fM (kn:=kn) ha (ar r)).mono (aY r)
   cases hf:eP kn al (ar r)with
   |bad p e=>rw[hf]at h;exact h
   |ok t r2=>
    rw[hf]at h;have ih:=jD ha n (a0++[t]) r2;dsimp only
    cases hq:dd kn al n (a0++[t]) r2 with
    |bad p e=>rw[hq]at ih;exact⟨by have:=ih.1;have:=h.2;omega,ih.2⟩
    |ok t r3=>rw[hq]at ih;exact Jh ih h.1
  exact aY r
theorem jE{al:Option (List UInt8->PR)}(ha:mj al)(r:List UInt8):Good r (BH kn al r):=by
 have h:=fM (kn:=kn) ha r;unfold BH
 cases hf:eP kn al r with
 |bad p e=>rw[hf]at h;exact h
 |ok t r1=>
  rw[hf]at h;have ih:=jD (kn:=kn) ha (r1.length+1) [t] r1;dsimp only
  cases hq:dd kn al (r1.length+1) [t] r1 with
  |bad p e=>rw[hq]at ih;exact⟨by have:=ih.1;have:=h.2;omega,ih.2⟩
  |ok t r3=>rw[hq]at ih;exact⟨Jh ih h.1,by have:=JX ih;have:=h.2;omega⟩
theorem iO{al:Option (List UInt8->PR)}(ha:mj al):∀(n:Nat) (a0:List Nd) (r:List UInt8),Gp r (cC kn al n a0 r)
 |0,a0,r=>K8 r
 |n+1,a0,r=>by
  unfold cC
  split
  ·rename_i hc;obtain⟨g1,g2⟩:=bT (r:=ar r) (by rw[hc];decide);have h:=((jE (kn:=kn) ha (ar r).tail).mono g1).mono (aY r)
   cases hf:BH kn al (ar r).tail with
   |bad p e=>rw[hf]at h;exact h
   |ok t r2=>
    rw[hf]at h;have ih:=iO ha n (a0++[t]) r2;dsimp only
    cases hq:cC kn al n (a0++[t]) r2 with
    |bad p e=>rw[hq]at ih;exact⟨by have:=ih.1;have:=h.2;omega,ih.2⟩
    |ok t r3=>rw[hq]at ih;exact Jh ih h.1
  exact aY r
theorem nH{al:Option (List UInt8->PR)}(ha:mj al)(r:List UInt8):Good r (nJ kn al r):=by
 have h:=jE (kn:=kn) ha r;unfold nJ
 cases hf:BH kn al r with
 |bad p e=>rw[hf]at h;exact h
 |ok t r1=>
  rw[hf]at h;have ih:=iO (kn:=kn) ha (r1.length+1) [t] r1;dsimp only
  cases hq:cC kn al (r1.length+1) [t] r1 with
  |bad p e=>rw[hq]at ih;exact⟨by have:=ih.1;have:=h.2;omega,ih.2⟩
  |ok t r3=>rw[hq]at ih;exact⟨Jh ih h.1,by have:=JX ih;have:=h.2;omega⟩
theorem iy:∀(d:Nat) (r:List UInt8),Good r (uZ kn d r)
 |0,r=>nH (fun f e=>by cases e) r
 |d+1,r=>nH (fun f e r=>by cases e;exact iy d r) r
theorem um{r:List UInt8}{m:List UInt8×Nd}(ha:¬r.takeWhile ai=[97,110,121])(h:kn.reverse.find? (Ck (r.takeWhile ai))=some m):gd kn r=.ok m.2 (r.dropWhile ai):=by
 unfold gd;rw[if_neg ha,h]
theorem uo{r:List UInt8}(ha:¬r.takeWhile ai=[97,110,121])(h:kn.reverse.find? (Ck (r.takeWhile ai))=none):gd kn r=dB 0 r:=by
 unfold gd;rw[if_neg ha,h]
end
end Go.Proofs.YteolbhblkgjbhaaGreatDoor
namespace Go.VL
section
open Go.RowKit
section
variable{P:J0}{N:Nat}{ro:Option Nat}{ds:List Deferred}{Q:KJ→Ly→ln→Prop}{st:St}{w:ln}
theorem yJ{ops:Array JP}{a1:List JP}{t:I9}{p:String}{e:Array KU}{d:Nat}{x y z:Jp}{a3:Array I9}{l:Nat}{u u2:I1}{R:Ending->ln->Prop} 
  (hx:ev st x=some (.func (.yield l) #[] #[])) (hy:ev st y=some u) (hz:ev st z=some u2) (hc:YieldAt JF 0 P l #[u,u2] w R) (hd:Jn d N=true)
  (hR:∀e w',R e w'->∃v,e=.returned v)
  (h:∀v w',R (.returned v) w'->WLI none P N ds ops Q a1 ((d,v)::st) w'):WLI none P N ds ops Q (⟨some d,.call ⟨.value x,#[y,z],a3⟩,t,p,e,none⟩::a1) st w:=by
 intro a ha;unfold wpListIn;rw[if_pos (cz rfl _)];refine⟨fun _ _=>trivial,?_⟩;obtain⟨fn,a0,assign,body,a4,hr⟩:=hc;have a2:(Oper.semAt (Fr none).round ({ a with defers:=ds }:Ly).eval ⟨some d,.call ⟨.value x,#[y,z],a3⟩,t,p,e,none⟩).run P w=.ok (.round l fn a0 assign body) w:=by
  rw[jj];rw[show(Fr none).round=none from rfl,Oper.semAt_none];simp only[execOp,resolve,J8,IH,J9,ha.ev hx,ha.ev hy,ha.ev hz];simp[Mi,invoke,a4]
 rw[a2];refine⟨fun hh=>by simp[JF]at hh,?_⟩;refine Mm (hr:RoundIn JF _ P l fn a0 assign body w _) ?_;intro e' w' q;obtain⟨v,rfl⟩:=hR _ _ q;have:=h v w' q _ (ha.put hd v);simpa[Mj]using this
end
def Gn{α:Type}(P:J0)(gf:Nat)(lb:List I1)(ex:Nat->I1)(enc:α->I1)(xs:List α)(Rd:ln->Prop):Prop:=
 ∀(l:Nat) (J:Nat->ln->Prop) (Jx:ln->Prop) (W:ln),(∀i W,J i W->Rd W)->(∀i W W',J i W->JA W W'->J i W')->
  (∀i (hi:i<xs.length) W W',J i W->JA W W'->YieldAt JF 0 P l #[ex i,enc xs[i]] W' fun e W2=>((e=.returned (.bool true)/\J (i+1) W2)\/(e=.returned (.bool false)/\Jx W2))/\∀b,W.heap.size<=b->b<W'.heap.size->W2.heap[b]? = W'.heap[b]?)->
  J 0 W->JW P gf (.func (.yield l) #[] #[]::lb) W fun _ W'=>J xs.length W'\/Jx W'
theorem qR{P:J0}{N:Nat}{ds:List Deferred}{Q:KJ->Ly->ln->Prop}{st:St}{w:ln}{α:Type}{g:Jp}{p0 p1 d0:Nat}{T:I9}{id:Nat}{e1 e2:Array KU}{q1 q2:String}{t1 t2:I9}{body:Code} 
  {gf:Nat} {lb:List I1} {ex:Nat->I1} {enc:α->I1} {xs:List α} {Rd:ln->Prop}
  (hg:ev st g=some (.func (.func gf) #[] lb.toArray)) (eg:∀args w,(callFunc gf args).run P w=.ok (.enter gf args) w) (it:Gn P gf lb ex enc xs Rd)
  (e':Jn p0 N=true) (e9:Jn p1 N=true) (f7:Jn d0 N=true) {z:I1} (hz:∀W:ln,(Kp T).run P W=.ok z W) 
  {B:Nat} {O:Nat->Nat} (r:Km B O w) (L K:Nat) (hL:L≠0) (hK:K≠0) (d3:L≠K)
  (b0:∀(W:ln) (O':Nat->Nat) (b:Nat) (y:I1) (x:α) (_:x∈xs) (ops:Array JP) (Q':KJ->Ly->ln->Prop),J5 O' W K b z.cells T->
   (∀w2,J5 O' w2 K b (enc x).cells T->IK (fun j=>j=K) O' W O' w2->WL P N ops Q' [] ((d0,nP b)::(p1,enc x)::(p0,y)::st) w2)->
   WL P N ops Q' [⟨none,.store T (.tmp d0) (.tmp p1),t2,q2,e2,none⟩] ((d0,nP b)::(p1,enc x)::(p0,y)::st) W)
  (I:Nat->(Nat->Nat)->ln->Prop) (Ix:Code->(Nat->Nat)->ln->Prop)
  (hI:∀i O W O' W',I i O W->IK (fun j=>j=L\/j=K) O W O' W'->I i O' W') (d4:∀c O W O' W',Ix c O W->IK (fun j=>j=L) O W O' W'->Ix c O' W')
  (g1:∀i O W,I i O W->Rd W) (h0:I 0 O w)
  (b6:∀l i (hi:i<xs.length) b O' W,Km B O' W->I i O' W->J5 O' W K b (enc xs[i]).cells T->
   WI (some l) P N [] body (zU O' W L (I (i+1)) Ix) ((d0,nP b)::(p1,enc xs[i])::(p0,ex i)::st) W)
  (b5:∀D O' W,Km B O' W->O' D=L->I xs.length O' W->W.heap[D]? = some (.deferred (some []))->QI N ({ target:=.collected D,args:=#[] }::ds) Q .normal st W)
  (hstop:∀D c O' W,Km B O' W->O' D=L->Ix c O' W->W.heap[D]? = some (.deferred (some []))->WI none P N ({ target:=.collected D,args:=#[] }::ds) c Q st W) :
  WI none P N ds (.rangeFunc g #[p0,p1] (.region id #[⟨some d0,.alloc T,t1,q1,e1,none⟩,⟨none,.store T (.tmp d0) (.tmp p1),t2,q2,e2,none⟩] false) body) Q st w:=by
 intro a ha;refine wpIn_rangeFunc ?_;intro fn g7;rw[show(Fr none).round=none from rfl];obtain⟨D,hD⟩:∃D,D=w.heap.size:=⟨_,rfl⟩
 obtain⟨e8,b8⟩:∃c,c=Code.region id #[⟨some d0,.alloc T,t1,q1,e1,none⟩,⟨none,.store T (.tmp d0) (.tmp p1),t2,q2,e2,none⟩] false:=⟨_,rfl⟩
 rw[<-b8];obtain⟨a5,a2⟩:∃a5:LoopState->Option Code->Loop,a5=fun st pe=>{ state:=st,pending:=pe,fn,tmps:=a.tmps,params:=#[p0,p1],assign:=e8,body,defers:=D }:=⟨_,rfl⟩
 obtain⟨W1,b'⟩:∃W1,(w.alloc (.deferred (some []))).alloc (.loop (a5 .ready none))=W1:=⟨_,rfl⟩
 obtain⟨O1,d2⟩:∃O1,kN (kN O D L) (D+1) L=O1:=⟨_,rfl⟩
 have d6:¬(fun j=>j=L) 0:=fun e=>hL e.symm
 have e5:IK (fun j=>j=L) O w (kN O D L) (w.alloc (.deferred (some []))):=by rw[hD];exact Kc d6 r _ L
 have e6:IK (fun j=>j=L) O w O1 W1:=by
  rw[<-b',<-d2];refine e5.trans ?_;have:=Kc (S:=fun j=>j=L) d6 (r.upd e5) (.loop (a5 .ready none)) L
  rwa[L5,<-hD]at this
 have g2:Km B O1 W1:=r.upd e6;have g3:W1.heap[D+1]? = some (.loop (a5 .ready none)):=by
  rw[<-b',hD];have:=KD (w.alloc (.deferred (some []))) (.loop (a5 .ready none));rwa[L5]at this
 have g4:W1.heap[D]? = some (.deferred (some [])):=by
  rw[<-b',hD];exact(Below.heap_alloc _ _ _ (by simp)).trans (KD w _)
 have hO1D:O1 D=L:=by rw[<-d2];unfold kN;rw[if_neg zo,if_pos rfl]
 have hO1L:O1 (D+1)=L:=by rw[<-d2];exact dS _ _ _
 have g5:I 0 O1 W1:=hI _ _ _ _ _ h0 (e6.mono (fun _ h=>.inl h) (by rintro(h|h);exact hL h.symm;exact hK h.symm))
 refine⟨D+1,[{ target:=.collected D,args:=#[] }],W1,{ target:=.fn (.func gf) lb.toArray,args:=#[.func (.yield (D+1)) #[] #[]] },W1,gf,
  #[.func (.yield (D+1)) #[] #[]]++lb.toArray,W1,?_,?_,fun _ _=>trivial,?_,fun hh=>by simp[JF]at hh,?_⟩
 ·rw[<-b',a2,hD];exact run_enterLoop_outer _ _ _ _ _
 ·simp only[resolve,ha.evD hg ds];simp[go_sem]
 ·simp[invoke,go_sem,eg]
 have hJ:=it (D+1)
  (fun i W=>∃O',Km B O' W/\O' D=L/\O' (D+1)=L/\I i O' W/\W.heap[D+1]? = some (.loop (a5 .ready none))/\W.heap[D]? = some (.deferred (some [])))
  (fun W=>∃c O',Km B O' W/\O' D=L/\O' (D+1)=L/\Ix c O' W/\W.heap[D+1]? = some (.loop (a5 .done (some c)))/\W.heap[D]? = some (.deferred (some [])))
  W1 (fun i W ⟨O',_,_,_,h,_⟩=>g1 i O' W h) (fun i W W' ⟨O',h1,h2,h3,h4,h5,h6⟩ hE=>⟨O',h1.ext hE,h2,h3,hI _ _ _ _ _ h4 (aa (by rintro(h|h);exact hL h.symm;exact hK h.symm) _ hE),(hE.block _ (bq h5)).trans h5,(hE.block _ (bq h6)).trans h6⟩) ?_ ⟨O1,g2,hO1D,hO1L,g5,g3,g4⟩
 ·unfold JW at hJ;rw[show(Value.func (.yield (D+1)) #[] #[]::lb).toArray = #[.func (.yield (D+1)) #[] #[]]++lb.toArray from by simp]at hJ;refine Mq (callsIn_wide.2 hJ:CallsIn JF _ P gf _ W1 _) ?_;rintro e W2 q
  cases e with
  |returned v=>
   rcases q with⟨O',a7,b2,b1,hi,hl,hk⟩|⟨c,O',a7,b2,b1,hi,hl,hk⟩
   ·refine⟨none,_,by have:=run_endLoop (P:=P) hl (by rw[a2];simp);rw[a2]at this;exact this,?_⟩;have b3:=JJ hL b1 (w:=W2) (.loop { a5 .ready none with state:=.exhausted });rw[a2]at b3;have:=b5 D O' _ (a7.upd b3) b2 (hI _ _ _ _ _ hi (b3.mono (fun _ h=>.inl h) (by rintro(h|h);exact hL h.symm;exact hK h.symm))) ((J3 zo).trans hk) a ha;exact this
   refine⟨some c,_,by have:=run_endLoop (P:=P) hl (by rw[a2];simp);rw[a2]at this;exact this,?_⟩;have b3:=JJ hL b1 (w:=W2) (.loop { a5 .done (some c)with state:=.exhausted });rw[a2]at b3;exact hstop D c O' _ (a7.upd b3) b2 (d4 _ _ _ _ _ hi b3) ((J3 zo).trans hk) a ha
  |panicked c=>exact q.elim
  |outgrown=>exact q.elim
 rintro i hi W0 W ⟨O',e7,b2,b1,c8,c7,e0⟩ c5;have a7:=e7.ext c5;have f6:=hI _ _ _ _ _ c8 (aa (S:=fun j=>j=L\/j=K) (by rintro(h|h);exact hL h.symm;exact hK h.symm) O' c5);have hl:=(c5.block _ (bq c7)).trans c7;have hk:=(c5.block _ (bq e0)).trans e0;have g6:=bq c7;have hy:=run_yield (P:=P) (args:=#[ex i,enc xs[i]]) hl (by rw[a2];rfl);rw[a2]at hy;refine⟨fn,_,e8,body,hy,roundIn_of_wpIn trivial ?_⟩;have c9:Mf N ((a.put (some p0) (ex i)).put (some p1) (enc xs[i])) ((p1,enc xs[i])::(p0,ex i)::st):=(ha.put e' _).put e9 _;have d1:({ tmps:=(#[p0,p1].zip #[ex i,enc xs[i]]).foldl (fun tmps (t,a)=>tmps.setIfInBounds t a) a.tmps,defers:=[] }:Ly) = { (a.put (some p0) (ex i)).put (some p1) (enc xs[i])with defers:=[] }:=by simp[Mj]
 rw[d1];rw[b8];refine(J2 (ro:=some (D+1)) (ds:=[]) (P:=P) (N:=N) (.inr rfl) (fun _ _ h=>h) ?_:WI (some (D+1)) P N [] _ _ ((p1,enc xs[i])::(p0,ex i)::st) W) _ c9;refine au a7 K hK (hz W) f7 ?_;intro b w1 O2 hb g0 g9 g';refine b0 w1 O2 b (ex i) xs[i] (K9 hi) _ _ hb ?_;intro w2 b7 f';refine Lb (Jo ?_);intro a3 f9;have c6:D+1<W.heap.size:=(Array.getElem?_eq_some_iff.1 hl).1;have b9:IK (fun j=>j=K) O' W O2 w2:=g0.trans f';have d9:w2.heap[D+1]? = some (.loop (a5 .ready none)):=(b9.blk (D+1) c6 (by rw[b1];exact d3)).trans hl;have f5:w2.heap[D]? = some (.deferred (some [])):=(b9.blk D zo (by rw[b2];exact d3)).trans hk;have ho2L:O2 (D+1)=L:=(b9.tag (D+1) (by rw[b1];exact hL)).trans b1;have ho2D:O2 D=L:=(b9.tag D (by rw[b2];exact hL)).trans b2;refine⟨_,run_beginRound d9 (by rw[a2]),?_⟩;have e4:=JJ hL ho2L (w:=w2) (.loop { a5 .ready none with state:=.busy });have a':¬(fun j=>j=L\/j=K) 0:=by rintro(h|h);exact hL h.symm;exact hK h.symm
 have a1:IK (fun j=>j=L\/j=K) O' W O2 (w2.putObj (D+1) (.loop { a5 .ready none with state:=.busy })):=(b9.mono (fun _ h=>.inr h) a').trans (e4.mono (fun _ h=>.inl h) a');have d8:(w2.putObj (D+1) (.loop { a5 .ready none with state:=.busy })).heap[D+1]? = some (.loop { a5 .ready none with state:=.busy }):=KA (bq d9);have d':(w2.putObj (D+1) (.loop { a5 .ready none with state:=.busy })).heap[D]? = some (.deferred (some [])):=(J3 zo).trans f5;have c':=b6 (D+1) i hi b O2 _ (a7.upd a1) (hI _ _ _ _ _ f6 a1) (b7.upd e4 hK (fun e=>d3 e.symm)) a3 f9;generalize w2.putObj (D+1) (.loop { a5 .ready none with state:=.busy })=w3 at *;refine wpIn_mono c' ?_;have d5:∀(a0:Option Code) (O4:Nat->Nat) (w4:ln),IK (fun j=>j≠0/\j≠L) O2 w3 O4 w4->
   (Instr.endRound (D+1) a0).run P w4=.ok (.bool a0.isNone) (w4.putObj (D+1) (.loop (a5 (if a0.isNone then .ready else .done) a0)))/\
   IK (fun j=>j=L) O4 w4 O4 (w4.putObj (D+1) (.loop (a5 (if a0.isNone then .ready else .done) a0)))/\O4 D=L/\O4 (D+1)=L/\
   (w4.putObj (D+1) (.loop (a5 (if a0.isNone then .ready else .done) a0))).heap[D+1]? = some (.loop (a5 (if a0.isNone then .ready else .done) a0))/\
   (w4.putObj (D+1) (.loop (a5 (if a0.isNone then .ready else .done) a0))).heap[D]? = some (.deferred (some [])):=by
  intro a0 O4 w4 a6;have d7:=(a6.blk (D+1) (bq d8) (by rw[ho2L];exact fun h=>h.2 rfl)).trans d8;have f4:=(a6.blk D (bq d') (by rw[ho2D];exact fun h=>h.2 rfl)).trans d';have ho4D:O4 D=L:=(a6.tag D (by rw[ho2D];exact hL)).trans ho2D;have ho4L:O4 (D+1)=L:=(a6.tag (D+1) (by rw[ho2L];exact hL)).trans ho2L;have:=run_endRound (P:=P) a0 d7;rw[a2]at this ⊢;exact⟨this,JJ hL ho4L _,ho4D,ho4L,KA (bq d7),(J3 zo).trans f4⟩
 have a9:∀(O4:Nat->Nat) (w4:ln) (o:Obj),IK (fun j=>j≠0/\j≠L) O2 w3 O4 w4->∀b,W0.heap.size<=b->b<W.heap.size->(w4.putObj (D+1) o).heap[b]? = W.heap[b]?:=by
  intro O4 w4 o a6 b g8 b7;have e3:O' b=0:=IM fun f3=>by have:=(e7.rng b f3).2;omega
  have f8:=a1.zero b7 e3;have e1:=a1.blk b b7 (by rw[e3];rintro(h|h);exact hL h.symm;exact hK h.symm);have e2:=a6.blk b (L6 b7 a1.size) (by rw[f8];exact fun h=>h.1 rfl);rw[J3 zo,e2,e1]
 rintro e a4 w4 q
 cases e with
 |normal=>
  obtain⟨O4,a6,b4⟩:=q;obtain⟨hr,a8,h1,h2,h3,h4⟩:=d5 none O4 w4 a6;exact⟨_,_,hr,.inl ⟨rfl,O4,((a7.upd a1).upd a6).upd a8,h1,h2,hI _ _ _ _ _ b4 (a8.mono (fun _ h=>.inl h) a'),h3,h4⟩,a9 O4 w4 _ a6⟩
 |ret=>
  obtain⟨O4,a6,b4⟩:=q;obtain⟨hr,a8,h1,h2,h3,h4⟩:=d5 (some .ret) O4 w4 a6;exact⟨_,_,hr,.inr ⟨rfl,.ret,O4,((a7.upd a1).upd a6).upd a8,h1,h2,d4 _ _ _ _ _ b4 a8,h3,h4⟩,a9 O4 w4 _ a6⟩
 |exit id'=>
  obtain⟨O4,a6,b4⟩:=q;obtain⟨hr,a8,h1,h2,h3,h4⟩:=d5 (some (.exit id')) O4 w4 a6;exact⟨_,_,hr,.inr ⟨rfl,.exit id',O4,((a7.upd a1).upd a6).upd a8,h1,h2,d4 _ _ _ _ _ b4 a8,h3,h4⟩,a9 O4 w4 _ a6⟩
 |_=>exact q.elim
end
end Go.VL
section
namespace Go.VL
section
variable{P:J0}{N:Nat}{ops:Array JP}{Q:KJ→Ly→ln→Prop}{rest:List JP}{st:St}{w:ln}
variable{t:I9}{p:String}{e:Array KU}{d:Nat}{x y z:Jp}
theorem bJ{T E:I9}{sz a0:Nat}(he:LB P T E sz a0){α:Type}{enc:α->List I1}{B:Nat}{O:Nat->Nat}(r:Km B O w)(i:Nat)(a6:i≠0)(u:α){xv:I1}(hx:ev st x=some xv)(a2:xv.cells.toList=enc u)(a3:(enc u).length=sz)(hs:sz<=16777216)(hd:Jn d N=true) 
  (h:∀v w' O',JE enc E sz O' w' i v [u]->IK (fun k=>k=i) O w O' w'->Km B O' w'->WL P N ops Q rest ((d,v)::st) w'):WL P N ops Q (⟨some d,.buildSlice T 1 #[(0,x)],t,p,e,none⟩::rest) st w:=by
 obtain⟨a4,z,hi,hz,a1,a9,a8⟩:=he.parts;have a7:xv.cells.size=sz:=by rw[<-a3,<-a2];simp
 have a5:=he.pos;have u1:=Kc (S:=fun k=>k=i) (fun e=>a6 e.symm) r (.cells xv.cells E) i;refine KL (v:=.slice (some ⟨w.heap.size,0,none⟩) 1 1) (w':=w.alloc (.cells xv.cells E)) hd (fun a ha=>?_) (h _ _ (kN O w.heap.size i) ⟨⟨?_,fun g hg=>?_⟩,fun c hc=>by rw[IP.1 hc];exact a3⟩ u1 (r.upd u1))
 ·have:=run_buildSlice (P:=P) w T E 1 #[(0,xv)] xv.cells a4 z he.ht hi hz (by rw[a1];omega) (by rw[a1];omega) (by
   rw[a1]
   exact jZ a7 (by simp))
  simp only[execOp,J8,IH,J9,ha.ev hx,I7,this,I4];rfl
 ·have:=World.ownsRow_lit (base:=0) (size:=sz) (e:=E) w xv.cells 1 (J6 _) (by simp[maxLen]) zo;simpa[a2]using this
 simp[Value.ownBlock]at hg;subst hg;exact dS _ _ _
end
section
variable{P:J0}{N:Nat}{st:St}{w:ln}{fn:Func}{R:I1→ln→Prop}
theorem gX{t:Tmp}{T:I9}{q:LV}{us:List I1}(hr:fn.results = #[.cell t T])(hv:cf st t=some (.pointer (some q))) 
  (hc:∀j u,us[j]? = some u->w.cell? (q.add j)=some u) (hT:(isAgg T).run P w=.ok true w) (hn:(M1 T).run P w=.ok us.length w) (h:R (.agg us.toArray) w):Leave P N fn R [] st w:=
 Leave.nil (fun a ha=>by have h1:=ha.get _ _ hv;simp[results,hr,Array.getD_eq_getD_getElem?,h1,asAddr,de hc hT hn]) h
end
end Go.VL
namespace Go.Proofs.YteolbhblkgjbhaaGreatDoor
open Go.VL Go.Proofs
set_option maxRecDepth 10000
theorem elM:LB IZ 112 197 4 56:=⟨M6,by kernel_rfl,zd⟩
theorem th(q:Option LV)(n c:Nat)(w:ln):JW IZ 271 [.slice q n c] w fun v w'=>∃b,v=.func (.func 272) #[] #[nP b]/\w'.cell? ⟨b,0,none⟩=some (.slice q n c)/\w.heap.size<=b/\JA w w':=by
 refine I6 func271 ntmps271 rfl rfl ?_;refine zh ?_
 refine aH (ay w) 1 zo rfl rfl ?_;intro b w1 O1 hb a2 a0 a1;refine zh ?_
 refine zvH (du rfl rfl) ?_;refine ae rfl rfl (⟨b,rfl,hb.cell 0 rfl,(a0.rng b (by rw[hb.tag];decide)).1,a1⟩)
theorem zV{α:Type}[Inhabited α]{l:List α}{i:Nat}(h:i<l.reverse.length):l.reverse[i]=nth l (l.length-1-i):=by
 rw[Jb]at h;rw[List.getElem_reverse,aC zo]
theorem oD(kv:I1)(ms:List M3)(b:Nat):Gn IZ 272 [nP b] (fun i=>nI ((ms.length:Int)-1-(i:Int))) (fun m:M3=>.agg (kF m).toArray) ms.reverse (fun W=>W.cell? ⟨b,0,none⟩=some kv/\Sl kF 4 W kv ms):=by
 intro lp J Jx W a3 a9 hY h0;obtain⟨a8,a4⟩:=a3 _ _ h0;have a6:=a4.len_le;have a5:ms.reverse.length=ms.length:=Jb;refine lz func272 ntmps272 rfl rfl ?_;refine Je ?_;refine J2 (.inl rfl) (fun _ _ h=>h) ?_;refine zh ?_;refine Jo ?_;refine aN ?_;refine KW ?_;refine WI.loop (fun x:Nat×ln×Int=>[(0,.func (.yield lp) #[] #[]),(1,nP b),(3,nI x.2.2)]) (fun x:Nat×ln×Int=>x.2.1) (fun x:Nat×ln×Int=>x.1<=ms.length/\J x.1 x.2.1/\x.2.2=(ms.length:Int)-1-(x.1:Nat)) (fun x:Nat×ln×Int=>ms.length-x.1) (0,W,(ms.length:Int)-1) (⟨J6 _,h0,by dsimp only;omega⟩) ⟨rfl,rfl,rfl,trivial⟩ rfl ?_;rintro⟨i,w1,z⟩ ⟨hi,hJ,hz⟩;dsimp only at hi hJ hz ⊢;subst hz;obtain⟨hb,hs⟩:=a3 _ _ hJ;refine Je ?_;refine Je ?_;refine J2 (.inl rfl) (fun _ _ h=>h) ?_;refine zh ?_;refine Jo ?_;refine aN ?_;refine WI.cond rfl ?_ ?_
 ·intro a0;replace a0:i<ms.length:=dT a0;have hy:=hY i zo w1 w1 hJ (Jd _);rw[zV]at hy;dsimp only at hy;refine Kq ?_;refine aN ?_;refine Je ?_;refine KW ?_;refine Je ?_;refine vh 6 (.inl rfl) (fun _ _ h=>h) ?_;refine zh ?_;refine zv (KO hs M6 (LK _) rfl rfl (ms.length-1-i) zo zo) ?_;refine zvH (ah (us:=kF (nth ms (ms.length-1-i))) (fun j u hu=>hs.cell zo hu) (isAgg197 _) (LK _) rfl) ?_;refine Jo (Fk ?_);refine yJ rfl rfl rfl (hy) rfl (by rintro e w' ⟨⟨rfl,_⟩|⟨rfl,_⟩,_⟩<;>exact⟨_,rfl⟩) ?_;rintro v w5 ⟨⟨e,a1⟩|⟨e,a1⟩,a7⟩
  ·obtain rfl:=Kb e;refine Dk (.inl rfl) (fun _ _ h=>h) ?_;refine zh ?_;refine Jo ?_;refine aN ?_;refine kA rfl (rfl) ?_;refine Kq ?_;refine cN ?_;refine aN ?_;refine J2 (.inl rfl) (fun _ _ h=>h) ?_;refine zh ?_;refine Jo ?_;refine QI.next ((i+1,w5,(ms.length:Int)-1-(i:Int)-1)) (⟨a0,a1,by dsimp only;omega⟩) (by dsimp only;omega) ⟨rfl,rfl,rfl,trivial⟩ rfl
  obtain rfl:=Kb e;refine Dk (.inl rfl) (fun _ _ h=>h) ?_;refine zh ?_;refine Jo ?_;refine aN ?_;refine mB rfl (rfl) ?_;refine Lc ?_;refine ga ?_;refine iD ?_;refine iD ?_;refine ga ?_;exact kD (ju rfl (.inr a1))
 intro a2;replace a2:¬i<ms.length:=dF a2;obtain rfl:i=ms.length:=zo;refine WI.exit ?_;refine nO ?_;refine nO ?_;refine vw ?_;exact kD (ju rfl (.inl (by rw[a5];exact hJ)))
end Go.Proofs.YteolbhblkgjbhaaGreatDoor
end
namespace Go.Proofs.YteolbhblkgjbhaaGreatDoor
section
variable{kv:I1}{kn:Kn}
theorem cells_from{w:ln}{b:Nat}{us vs:List I1}(k:Nat)(h:∀(j:Nat) (u:I1),us[j]? = some u->w.cell? (nA b j)=some u)(hv:∀(q:Nat) (u:I1),vs[q]? = some u->us[k+q]? = some u):∀(q:Nat) (u:I1),vs[q]? = some u->w.cell? ((nA b k).add q)=some u:=fun q u hu=>by
 have h1:=h (k+q) u (hv q u hu);have e:((nA b k).add q)=((⟨b,0,none⟩:LV).add (k+q)):=by
  simp only[JC];(repeat' split)<;>simp_all[]
 rw[e];exact h1
theorem KnownM.ex{O:Nat->Nat}{w:ln}{ms:List M3}(h:KnownM O w kv kn ms):Known O w kv kn:=⟨ms,h⟩
theorem DY{O:Nat->Nat}{w:ln}{ms:List M3}(h:KnownM O w kv kn ms){x:M3}(hx:x∈ms.reverse):(kF x).toArray.toList.all Jr=true:=by
 obtain⟨i,hi,e⟩:=KT (List.mem_reverse.1 hx);have h1:=(h.2.2.2 i hi).2.one;rw[aC hi,e]at h1;simp only[kF,IF,h1];rfl
theorem A4{α:Type}[Inhabited α]{p:α->Bool}{l:List α}(h:∀q,q<l.length->p (nth l q)=false):l.find? p=none:=by
 rw[L2];intro x hx;obtain⟨i,hi,rfl⟩:=KT hx;have:=h i hi;rw[aC hi]at this;rw[this];decide
theorem A5{α:Type}[Inhabited α]{p:α->Bool}:∀ {l:List α} {k:Nat},k<l.length->(∀q,q<k->p (nth l q)=false)->p (nth l k)=true->l.find? p=some (nth l k)
 |[],k,hk,_,_=>absurd hk (by simp)
 |a::l,0,_,_,hp=>by rw[ao]at hp ⊢;rw[Lp,hp]
 |a::l,k+1,hk,h,hp=>by
  have h0:=h 0 zo;rw[ao]at h0;rw[aI]at hp ⊢;rw[Lp,h0];exact A5 (by simpa using hk) (fun q hq=>by have:=h (q+1) (zo);rwa[aI]at this) hp
theorem DR{α:Type}[Inhabited α]{l:List α}{i:Nat}(h:i<l.length):nth l.reverse i=nth l (l.length-1-i):=by
 rw[aC (by rw[Jb];exact h),zV]
theorem An(op:Int)(h':0<=op/\op<=20):Reads kv kn 267 [] op (gd kn) (fun r=>ai (r.headD 0)=true):=by
 intro B O j rb l r w hR hj hr hl h9 h i3;obtain⟨T,a1,hT⟩:=hR.bound;have j5:j<T:=by rw[<-h.tag];exact hT rb
 have j4:=hr.length_le;refine lz func267 ntmps267 rfl rfl ?_;refine Je ?_;refine J2 (.inl rfl) (fun _ _ h=>h) ?_;refine au hR T zo (I5 _) rfl ?_;intro xb w1 O1 h0 g0 j3 k0;have f9:=h.upd g0 hj zo;refine zh ?_;refine Jo ?_;refine aN ?_;refine Je ?_;refine J2 (.inl rfl) (fun _ _ h=>h) ?_;refine zh ?_;refine zvH (RV.ld f9.r1 rfl) ?_;refine Jo ?_;refine aN ?_;refine Je ?_;refine J2 (.inl rfl) (fun _ _ h=>h) ?_;refine zh ?_;refine zc call270 (vT O1 w1 j rb l r op 0 0 hj hr zo f9) ?_;rintro v w2 ⟨rfl,i9,e1⟩;have g':=h0.upd e1 zo zo;have g5:=j3.upd e1;have i':=(g0.pT hj a1 (I0 _)).trans (e1.pj a1);refine au g5 (T+1) zo (zeroValue9 _) rfl ?_;intro sb w3 O3 d5 j1 j9 j';refine aj (j:=0) d5 rfl (Mb _) rfl rfl rfl rfl ?_;have e4:=d5.set 0 (.string (bs (r.takeWhile ai)));have j0:IK (fun k=>k=T+1) O3 w3 O3 (w3.setCell ⟨sb,0,none⟩ (.string (bs (r.takeWhile ai)))):=IU zo d5.tag rfl;have a8:=j1.trans j0;have c6:=g'.upd a8 zo zo;have d9:=i9.upd a8 hj zo;have g4:=g5.upd a8;have b0:=i'.trans (a8.pT hj a1 (J7 _));generalize w3.setCell ⟨sb,0,none⟩ (.string (bs (r.takeWhile ai)))=w4 at *;refine zh ?_;refine Jo ?_;refine aN ?_;refine Je ?_;refine Je ?_;refine J2 (.inl rfl) (fun _ _ h=>h) ?_;refine zv (RV.ld (e4.cell 0 rfl) rfl) ?_;refine zvH (cI rfl rfl) ?_;refine Jo ?_;refine aN ?_
 by_cases ha:r.takeWhile ai=[97,110,121]
 ·have hM:gd kn r=.ok (.mk 1 0 []) (r.dropWhile ai):=by unfold gd;rw[if_pos ha]
  refine mB rfl ((by rw[ha];rfl)) ?_;refine Je ?_
  refine J2 (.inl rfl) (fun _ _ h=>h) ?_;refine zv (aF kK (I5 _) rfl (by first|rfl|(simp only[IF,IR];rfl)) rfl rfl) ?_
  refine zsa (us:=(#[nI 1,nI 0,nS])) c6 (ix _) ?_;have d3:=IE (us:=(#[nI 1,nI 0,nS])) c6;have f':IK (fun k=>k=T) O3 w4 O3 (I8 w4 xb (#[nI 1,nI 0,nS])):=I3 zo (II c6) rfl;have d8:=IG d9 f' hj zo;refine zh ?_
  refine Jo ?_;refine aN ?_
  refine Lc ?_;refine iD ?_
  refine kD (gX rfl rfl d3.cellsAdd (I2 _) (ix _) ⟨(1,0,nS),rfl,(b0.trans (f'.pT hj a1 (I0 _))).priv hT hj,?_⟩);rw[hM];exact⟨d8.fgt h.tag,LY _ _ _ _⟩
 obtain⟨ms,c9⟩:=i3.upd b0;obtain⟨qa,qc,f3,_⟩:=c9.1.shape;have i2:=c9.1.len_le;have i4:kn.length=ms.length:=c9.2.2.1;refine kA rfl ((by simpa using ha)) ?_;subst f3;refine Kq ?_;refine aN ?_;refine Je ?_;refine Je ?_;refine J2 (.inl rfl) (fun _ _ h=>h) ?_;refine zh ?_;refine zv (RV.ld d9.r2 rfl) ?_;refine zc call271 (th qa ms.length qc w4) ?_;rintro v w5 ⟨b,rfl,i8,j8,g7⟩;have b8:IK (fun _=>False) O3 w4 O3 w5:=aa (fun h=>h) O3 g7;have d3:=c6.upd b8 zo (fun h=>h);have h8:=e4.upd b8 zo (fun h=>h);have d8:=d9.upd b8 hj (fun h=>h);have j2:=g4.upd b8;have f7:=c9.upd b8;have e0:=b0.trans (iQ O3 g7 hj a1);have i7:Fixed O3 w5 ⟨b,0,none⟩ (.slice qa ms.length qc):=⟨i8,IM fun i0=>by have:=(g4.rng b i0).2;omega⟩
 generalize f3:Value.slice qa ms.length qc=kv at *;generalize c7:r.takeWhile ai=sw at *;have e5:∀ {S:Nat->Prop} {O' O2:Nat->Nat} {W W':ln},IK S O' W O2 W'->(∀k,S k->T<=k)->IK (fun k=>k=j\/T<=k) O' W O2 W':=fun h hS=>h.mono (fun k hk=>.inr (hS k hk)) (fun e=>by rcases e with e|e;exact hj e.symm;omega)
 refine zh ?_;refine Jo ?_
 refine aN ?_;refine KW ?_
 refine qR (L:=T+2) (K:=T+3) rfl call272 (oD kv ms b) rfl rfl rfl (fun W=>zeroValue197 W) j2 zo zo zo (fun W O' pb y x hx ops Q' hb h=>bp (us:=(kF x).toArray) hb rfl (LK _) (DY f7 hx) rfl rfl rfl (h _ hb.setRow (I3 zo hb.tag rfl))) (fun k O' W=>IK (fun p=>p=j\/T<=p) O w O' W/\J5 O' W T xb #[nI 0,nI 0,nS] 120/\J5 O' W (T+1) sb #[.string (bs sw)] 9/\Rdr kv O' W j rb l ((l.length:Int)-((r.dropWhile ai).length:Int)) op 0 0/\Fixed O' W ⟨b,0,none⟩ kv/\KnownM O' W kv kn ms/\∀q,q<k->Ck sw (nth kn.reverse q)=false) (fun c O' W=>c=.ret/\IK (fun p=>p=j\/T<=p) O w O' W/\Rdr kv O' W j rb l ((l.length:Int)-((r.dropWhile ai).length:Int)) op 0 0/\∃m x,kn.reverse.find? (Ck sw)=some m/\Nt O' W m.2 x/\J5 O' W T xb #[nI x.1,nI x.2.1,x.2.2] 120) (fun i O' W O2 W' ⟨h1,h2,h3,h4,h5,h6,h7⟩ hU=>⟨h1.trans (e5 hU (fun k hk=>zo)),h2.upd hU zo zo,h3.upd hU zo zo,h4.upd hU hj zo,h5.upd hU,h6.upd hU,h7⟩) (fun c O' W O2 W' ⟨h1,h2,h3,m,x,h4,h5,h6⟩ hU=>⟨h1,h2.trans (e5 hU (fun k hk=>zo)),h3.upd hU hj zo,m,x,h4,h5.upd hU,h6.upd hU zo zo⟩) (fun i O' W ⟨_,_,_,_,h5,h6,_⟩=>⟨h5.cell,h6.1⟩) ⟨e0,d3,h8,d8,i7,f7,fun q hq=>absurd hq zo⟩ ?_ ?_ ?_
 ·rintro lp i hi pb O6 w6 d0 ⟨b3,b1,c8,a',d6,b6,a3⟩ b2;rw[Jb]at hi;have i5:ms.length-1-i<ms.length:=zo;obtain⟨m,e8⟩:∃m,m=nth ms (ms.length-1-i):=⟨_,rfl⟩
  obtain⟨g1,g2⟩:=b6.2.2.2 _ i5;replace b2:J5 O6 w6 (T+3) pb (kF m).toArray 197:=by have:=b2;rw[zV,<-e8]at this;exact this
  rw[<-e8]at g1 g2;have f4:nth kn.reverse i=nth kn (ms.length-1-i):=by rw[DR zo,i4]
  have b5:Ck sw (nth kn.reverse i)=false->∀q,q<i+1->Ck sw (nth kn.reverse q)=false:=fun h q hq=>by
   by_cases e:q=i
   ·rw[e];exact h
   exact a3 q zo
  have a0:Ck sw (nth kn.reverse i)=((m.1==sw&&bn (nth kn (ms.length-1-i)).2)&&((nth kn (ms.length-1-i)).2.kind != 9)):=by
   unfold Ck;rw[f4,g1]
  have f5:m.2.1=(nth kn (ms.length-1-i)).2.kind:=g2.kind;generalize nth kn (ms.length-1-i)=km at *;have j7:=b2.cell 0 rfl;have hz:IK (fun p=>p≠0/\p≠T+2) O6 w6 O6 w6:=JZ zo _ _;refine KW ?_;refine Je ?_;refine J2 (.inr rfl) (fun _ _ h=>h) ?_;refine zh ?_;refine zv (RV.ld (b2.cell 0 rfl) rfl) ?_;refine zv (RV.ld (c8.cell 0 rfl) rfl) ?_;refine zvH (cI rfl rfl) ?_
  cases h1:(m.1==sw)with
  |false=>
   rw[h1]at a0;refine aw (d:=30) rfl (b':=false) (rfl) ?_;refine zh ?_;refine Jo ?_;refine aN ?_;refine kA rfl rfl ?_;refine Kq ?_;refine cN ?_;exact gU O6 hz ⟨b3,b1,c8,a',d6,b6,b5 (by rw[a0];rfl)⟩
  |true=>
   rw[h1]at a0;refine aw (d:=30) rfl (b':=true) (rfl) ?_;have d7:∀W:ln,(∀(j:Nat) (u:I1),(kF m)[j]? = some u->W.cell? (nA pb j)=some u)->∀(q:Nat) (u:I1),(bt m.2)[q]? = some u->W.cell? ((nA pb 1).add q)=some u:=fun W h=>cells_from (us:=kF m) 1 h (fun q u hu=>by rw[LP];exact hu)
   refine zh ?_;refine zvH (ah (us:=bt m.2) (d7 _ b2.cellsAdd) (I2 _) (ix _) rfl) ?_
   refine zc Mk (fh km.2 m.2 w6 g2.zero) ?_;rintro v w7 ⟨rfl,g6⟩;have a4:IK (fun _=>False) O6 w6 O6 w7:=aa (fun h=>h) O6 g6;have a2:=b1.upd a4 zo (fun h=>h);have e3:=c8.upd a4 zo (fun h=>h);have b7:=a'.upd a4 hj (fun h=>h);have e6:=b2.upd a4 zo (fun h=>h);have g3:=d0.upd a4;have f6:=b6.upd a4;have f8:=d6.upd a4;have e7:=g2.upd a4;have a7:=b3.trans (iQ O6 g6 hj a1);have d1:IK (fun p=>p≠0/\p≠T+2) O6 w6 O6 w7:=a4.mono (fun _ h=>h.elim) zo;refine zh ?_
   cases h2:bn km.2 with
   |false=>
    rw[h2]at a0;refine aw (d:=35) rfl (b':=false) (rfl) ?_;refine zh ?_;refine Jo ?_;refine aN ?_;refine kA rfl rfl ?_;refine Kq ?_;refine cN ?_;exact gU O6 d1 ⟨a7,a2,e3,b7,f8,f6,b5 (by rw[a0];rfl)⟩
   |true=>
    rw[h2]at a0;refine aw (d:=35) rfl (b':=true) (rfl) ?_;have j6:w7.cell? ((nA pb 1).add 0)=some (nI m.2.1):=d7 _ e6.cellsAdd 0 _ rfl;refine zh ?_;refine Jo ?_;refine aN ?_
    cases h3:(km.2.kind != 9)with
    |false=>
     rw[h3]at a0;refine kA rfl ((by rw[f5];exact h3)) ?_;refine Kq ?_;refine cN ?_;exact gU O6 d1 ⟨a7,a2,e3,b7,f8,f6,b5 (by rw[a0];rfl)⟩
    |true=>
     rw[h3]at a0;refine mB rfl ((by rw[f5];exact h3)) ?_;have d2:=e7.one;refine Je ?_;refine J2 (.inr rfl) (fun _ _ h=>h) ?_;refine zh ?_;refine zv (ah (us:=bt m.2) (d7 _ e6.cellsAdd) (I2 _) (ix _) rfl) ?_;refine zsb (us:=#[nI m.2.1,nI m.2.2.1,m.2.2.2]) a2 (ix _) (bX d2) ?_;have b4:=a2.setRow (us:=#[nI m.2.1,nI m.2.2.1,m.2.2.2]);have a6:IK (fun k=>k=T) O6 w7 O6 (w7.setRow xb #[nI m.2.1,nI m.2.2.1,m.2.2.2]):=I3 zo a2.tag rfl;refine zh ?_;refine Jo ?_;refine aN ?_;refine Lc ?_;refine ga ?_;exact vu O6 (d1.trans (a6.mono (fun _ h=>zo) zo)) ⟨rfl,a7.trans (a6.pT hj a1 (I0 _)),b7.upd a6 hj zo,_,m.2,by rw[A5 (by rw[Jb];omega) a3 (by rw[a0];rfl),f4],e7.upd a6,b4⟩
 ·rintro D O6 w6 d0 e2 ⟨b3,b1,c8,a',d6,b6,a3⟩ hm;have hM:gd kn r=dB 0 r:=by
   exact uo (by rw[c7];exact ha) (by rw[c7];exact A4 (fun q hq=>a3 q (by simp at hq ⊢;omega)))
  have d':=b3;refine cN ?_;refine aN ?_;refine Je ?_;refine J2 (.inl rfl) (fun _ _ h=>h) ?_;refine zh ?_;refine aj (j:=1) a' rfl (Jg _) rfl rfl rfl rfl ?_;have b7:=a'.rAt ((l.length:Int)-(r.length:Int));have a7:IK (fun k=>k=j) O6 w6 O6 (w6.setCell ⟨rb,1,none⟩ (nI ((l.length:Int)-(r.length:Int)))):=IU (fun e=>hj e.symm) a'.tag rfl;have a2:=b1.upd a7 zo zo;have g3:=d0.upd a7;have e':=(a7.blk D (bq hm) zo).trans hm;have b9:=d'.trans (a7.pj a1);generalize w6.setCell ⟨rb,1,none⟩ (nI ((l.length:Int)-(r.length:Int)))=w7 at *;refine zh ?_;refine Jo ?_;refine aN ?_;refine Je ?_;refine J2 (.inl rfl) (fun _ _ h=>h) ?_;refine zh ?_;refine zc call268 (sV 0 op h' B O6 j rb l r w7 g3 hj hr hl trivial b7 (b6.upd a7).ex) ?_;rintro v w8 ⟨x,rfl,a6,a9⟩;have b4:=a2.upd a6 zo zo;have e9:=(a6.blk D (bq e') zo).trans e';have d2:x.2.2.oneCell'=true:=by
   cases hc:dB 0 r with
   |ok t r'=>rw[hc]at a9;exact a9.2.one
   |bad p e=>rw[hc]at a9;exact a9.1
  refine zsb (us:=#[nI x.1,nI x.2.1,x.2.2]) b4 (ix _) (bX d2) ?_;have g9:=b4.setRow (us:=#[nI x.1,nI x.2.1,x.2.2]);have c':IK (fun k=>k=T) O6 w8 O6 (w8.setRow xb #[nI x.1,nI x.2.1,x.2.2]):=I3 zo b4.tag rfl;have i1:=(c'.blk D (bq e9) zo).trans e9;have a5:IK (fun k=>k=T+2) O6 (w8.setRow xb #[nI x.1,nI x.2.1,x.2.2]) O6 ((w8.setRow xb #[nI x.1,nI x.2.1,x.2.2]).putObj D (.deferred none)):=JJ zo e2 _;have c5:=(c'.pT hj a1 (I0 _)).trans (a5.pT hj a1 zo);have d4:=g9.upd a5 zo zo;refine zh ?_
  refine Jo ?_;refine aN ?_
  refine Lc ?_;refine kD (LU i1 (gX rfl rfl d4.cellsAdd (I2 _) (ix _) ⟨x,rfl,((b9.trans (a6.pj a1)).trans c5).priv hT hj,?_⟩))
  rw[hM]
  cases hc:dB 0 r with
  |ok t r'=>
   rw[hc]at a9;exact⟨((a9.1.upd c' hj zo).upd a5 hj zo).fgt h.tag,(a9.2.upd c5).low (b9.trans (a6.pj a1))⟩
  |bad p e=>
   rw[hc]at a9;obtain⟨h1,a,g8,h2,h3⟩:=a9;exact⟨h1,a,g8,((h2.upd c' hj zo).upd a5 hj zo).fgt h.tag,h3⟩
 rintro D c O6 w6 d0 e2 ⟨rfl,b3,a',m,x,i6,b5,b1⟩ hm;have a5:IK (fun k=>k=T+2) O6 w6 O6 (w6.putObj D (.deferred none)):=JJ zo e2 _;have c5:=b3.trans (a5.pT hj a1 zo);have a2:=b1.upd a5 zo zo;refine Lc ?_;refine ga ?_;refine iD ?_;refine kD (LU hm (gX rfl rfl a2.cellsAdd (I2 _) (ix _) ⟨x,rfl,c5.priv hT hj,?_⟩));rw[um (by rw[c7];exact ha) (by rw[c7];exact i6)];exact⟨(a'.upd a5 hj zo).fgt h.tag,(b5.upd a5).low c5⟩
end
section
variable{kv:I1}{kn:Kn}
theorem uU(b:UInt8)(k:Nat)(hk:k<256)(h:¬b=Ju k):((b.toNat:Int) != (k:Int))=true:=by rw[bne,nD b k hk,decide_eq_false h];rfl
theorem gI(b:UInt8)(k:Nat)(hk:k<256)(h:¬b=Ju k):((b.toNat:Int)==(k:Int))=false:=by rw[nD b k hk,decide_eq_false h]
theorem PostE.one{O:Nat->Nat}{w:ln}{j rb:Nat}{l:List UInt8}{op:Int}{x:N3}{M:PR}(h:PostE kv O w j rb l op x M):x.2.2.oneCell'=true:=by
 cases M with
 |ok t r=>exact h.2.one
 |bad p e=>exact h.1
theorem PostE.upd{S:Nat->Prop}{O O':Nat->Nat}{w w':ln}{j rb:Nat}{l:List UInt8}{op:Int}{x:N3}{M:PR}(h:PostE kv O w j rb l op x M)(u:IK S O w O' w')(hj:j≠0)(hS:¬S j):PostE kv O' w' j rb l op x M:=by
 cases M with
 |ok t r=>exact⟨IG h.1 u hj hS,h.2.upd u⟩
 |bad p e=>obtain⟨h1,a,o,h2,h3⟩:=h;exact⟨h1,a,o,IG h2 u hj hS,h3⟩
theorem PostE.low{S:Nat->Prop}{O O':Nat->Nat}{w w0 w':ln}{j rb:Nat}{l:List UInt8}{op:Int}{x:N3}{M:PR}(h:PostE kv O' w' j rb l op x M)(u:IK S O w O' w0)(a0:O rb=j):PostE kv O w' j rb l op x M:=by
 cases M with
 |ok t r=>exact⟨Ma h.1 a0,h.2.low u⟩
 |bad p e=>obtain⟨h1,a,o,h2,h3⟩:=h;exact⟨h1,a,o,Ma h2 a0,h3⟩
theorem qk(k:Int)(xs:List N3)(lv:I1)(w:ln)(h:Sl bt 3 w lv xs)(h1:∀i,i<xs.length->(nth xs i).2.2.oneCell'=true):
  JW IZ 198 [nI k,lv] w fun v w'=>v=nv (if xs.length=1 then nth xs 0 else(k,0,lv))/\JA w w':=by
 refine I6 func198 ntmps198 rfl rfl ?_;refine zh ?_
 refine au (ay w) 1 zo (I5 _) rfl ?_;intro xb w1 O1 a0 a3 a6 a5;have a2:=h.ext a5;refine zh ?_
 by_cases hl:xs.length=1
 ·have a4:=h1 0 zo;rw[if_pos hl];refine zTH rfl ((by rw[hl];rfl)) ?_;refine zv (KO a2 K5 (ix _) rfl rfl 0 rfl zo) ?_;refine zv (ah (us:=bt (nth xs 0)) (fun j u hu=>a2.cell zo hu) (I2 _) (ix _) rfl) ?_;refine zsb (us:=#[nI (nth xs 0).1,nI (nth xs 0).2.1,(nth xs 0).2.2]) a0 (ix _) (bX a4) ?_;have a1:=a0.setRow (us:=#[nI (nth xs 0).1,nI (nth xs 0).2.1,(nth xs 0).2.2]);refine zh ?_;refine aL rfl rfl (a1.cellsAdd) (I2 _) (ix _) (⟨rfl,(a3.trans (I3 zd a0.tag rfl)).ext⟩)
 rw[if_neg hl];refine zFH rfl ((by simp;omega)) ?_;refine zv (aF kK (I5 _) rfl (by first|rfl|(simp only[IF,h.one];rfl)) rfl rfl) ?_;refine zsb (us:=#[nI k,nI 0,lv]) a0 (ix _) (bX (x:=(k,0,lv)) h.one) ?_;have a1:=a0.setRow (us:=#[nI k,nI 0,lv]);refine zh ?_;refine aL rfl rfl (a1.cellsAdd) (I2 _) (ix _) (⟨rfl,(a3.trans (I3 zd a0.tag rfl)).ext⟩)
def tq(kv:I1)(kn:Kn)(al:Option (List UInt8->PR))(op:Int):Prop:=
 match al with
 |none=>op=20
 |some f=>op<20/\Reads kv kn 152 [] (op+1) f (fun _=>True)
theorem sZ(al:Option (List UInt8->PR))(op:Int)(h7:0<=op/\op<=20)(ha:tq kv kn al op)(hg:mj al):Reads kv kn 269 [] op (bV al) (fun r=>r.headD 0≠0):=by
 intro B O j rb l r w hR hj hr hl d1 h g7;obtain⟨T,a0,hT⟩:=hR.bound;have h8:j<T:=by rw[<-h.tag];exact hT rb
 have h6:=hr.length_le;refine I6 func269 ntmps269 rfl rfl ?_;refine zh ?_;refine au hR T zo (I5 _) rfl ?_;intro xb w1 O1 e6 e' f5 i1;have a7:=h.upd e' hj zo;have b4:=e'.pT hj a0 (I0 _);obtain⟨f',h5⟩:=bT d1;have e7:=f'.trans hr;refine zh ?_;refine zvH (RV.ld a7.r3 rfl) ?_
 cases al with
 |none=>
  have hM:bV none r=.bad r.length 6:=rfl;replace ha:op=20:=ha;refine zTH rfl ((by rw[ha];rfl)) ?_;refine zv (RV.ld a7.r1 rfl) ?_;refine zc Ki (fX _ O1 w1 j rb l _ _ 0 ((l.length:Int)-(r.length:Int)) 6 hj f5 a7) ?_;rintro v wf ⟨rfl,d8,b6⟩;have a6:=e6.upd b6 zo zo;refine zsa (us:=#[nI 0,nI 0,nS]) a6 (ix _) ?_;have c9:=a6.setRow (us:=#[nI 0,nI 0,nS]);have b5:IK (fun k=>k=T) O1 wf O1 (wf.setRow xb #[nI 0,nI 0,nS]):=I3 zo a6.tag rfl;have hbg:=d8.upd b5 hj zo;refine zh ?_;refine aL rfl rfl (c9.cellsAdd) (I2 _) (ix _) (⟨(0,0,nS),rfl,((b4.trans (b6.pj a0)).trans (b5.pT hj a0 (I0 _))).priv hT hj,?_⟩);rw[hM];exact⟨rfl,_,op,hbg.fgt h.tag,zo,zo,zo,zo⟩
 |some f=>
  obtain⟨h9,g'⟩:=ha;have b9:=hg f rfl r.tail;refine zFH rfl ((by simp;omega)) ?_;refine zvH (RV.ld a7.r1 rfl) ?_;refine aj (j:=1) a7 rfl (Jg _) rfl rfl rfl rfl ?_;rw[show((l.length:Int)-(r.length:Int))+1=(l.length:Int)-(r.tail.length:Int)from by omega];have c5:=BlkO.rAt a7 ((l.length:Int)-(r.tail.length:Int));have e4:IK (fun k=>k=j) O1 w1 O1 (IJ w1 ⟨rb,1,none⟩ (nI ((l.length:Int)-(r.tail.length:Int)))):=IU (fun e=>hj e.symm) (II a7) rfl;have f9:=e6.upd e4 zo zo;have h4:=f5.upd e4;generalize IJ w1 ⟨rb,1,none⟩ (nI ((l.length:Int)-(r.tail.length:Int)))=w2 at *;refine zh ?_;refine zvH (RV.ld c5.r3 rfl) ?_;refine aj (j:=3) c5 rfl (Jg _) rfl rfl rfl rfl ?_;have g9:=c5.rOp (op+1);have e3:IK (fun k=>k=j) O1 w2 O1 (w2.setCell ⟨rb,3,none⟩ (nI (op+1))):=IU (fun e=>hj e.symm) c5.tag rfl;have f8:=f9.upd e3 zo zo;have f4:=h4.upd e3;have b3:=(b4.trans (e4.pj a0)).trans (e3.pj a0);generalize w2.setCell ⟨rb,3,none⟩ (nI (op+1))=w3 at *;refine zh ?_;refine zc call152 (g' B O1 j rb l r.tail w3 f4 hj e7 hl trivial g9 (g7.upd b3)) ?_;rintro v w4 ⟨x,rfl,e2,f6⟩;have b7:=f6.one;have f7:=f8.upd e2 zo zo;have f3:=f4.upd e2;have e1:=b3.trans (e2.pj a0);refine au f3 (T+1) zo (I5 _) rfl ?_;intro nb w5 O5 d7 h1 h' i0;refine zsb (us:=#[nI x.1,nI x.2.1,x.2.2]) d7 (ix _) (bX b7) ?_;have e9:=d7.setRow (us:=#[nI x.1,nI x.2.1,x.2.2])
  have h0:IK (fun k=>k=T+1) O5 w5 O5 (w5.setRow nb #[nI x.1,nI x.2.1,x.2.2]):=I3 zo d7.tag rfl;have a4:=h1.trans h0;have e5:=f7.upd a4 zo zo;have c8:=f6.upd a4 hj zo;have h3:=f3.upd a4;have b2:=e1.trans (a4.pT hj a0 (J7 _));generalize w5.setRow nb #[nI x.1,nI x.2.1,x.2.2]=w6 at *
  cases hf:f r.tail with
  |bad p e=>
   rw[hf]at b9 c8;have hM:bV (some f) r=.bad p e:=by unfold bV;dsimp only;rw[hf]
   obtain⟨g1,a,a',a1,g2,g3,g4,g5⟩:=c8;replace a1:J5 O5 w6 j rb (rdr kv l a a' ((l.length:Int)-(p:Int)) e) 250:=a1;refine zh ?_;refine zvH (RV.ld a1.r5 rfl) ?_;refine aw (d:=39) rfl (b':=false) ((by simpa using b9.2)) ?_;refine zh ?_;refine zFH rfl rfl ?_;refine zvH (RV.ld a1.r1 rfl) ?_;refine aj (j:=1) a1 rfl (Jg _) rfl rfl rfl rfl ?_;have a2:=a1.rAt (a+1);have a3:IK (fun k=>k=j) O5 w6 O5 (w6.setCell ⟨rb,1,none⟩ (nI (a+1))):=IU (fun e=>hj e.symm) a1.tag rfl;have b8:=e5.upd a3 zo zo;have d6:=e9.upd a3 zo zo;generalize w6.setCell ⟨rb,1,none⟩ (nI (a+1))=w7 at *;refine zh ?_;refine zvH (RV.ld a2.r3 rfl) ?_;refine aj (j:=3) a2 rfl (Jg _) rfl rfl rfl rfl ?_;have a8:=a2.rOp (a'-1);have a5:IK (fun k=>k=j) O5 w7 O5 (w7.setCell ⟨rb,3,none⟩ (nI (a'-1))):=IU (fun e=>hj e.symm) a2.tag rfl;have b0:=b8.upd a5 zo zo;have d5:=d6.upd a5 zo zo;generalize w7.setCell ⟨rb,3,none⟩ (nI (a'-1))=w8 at *;have e0:=(b2.trans (a3.pj a0)).trans (a5.pj a0);refine zh ?_;refine zv (ah (us:=bt x) d5.cellsAdd (I2 _) (ix _) rfl) ?_;refine zsb (us:=#[nI x.1,nI x.2.1,x.2.2]) b0 (ix _) (bX b7) ?_;have c':=IE (us:=#[nI x.1,nI x.2.1,x.2.2]) b0;have a9:IK (fun k=>k=T) O5 w8 O5 (I8 w8 xb #[nI x.1,nI x.2.1,x.2.2]):=I3 zo (II b0) rfl;have d9:=a8.upd a9 hj zo;have c6:=e0.trans (a9.pT hj a0 (I0 _));refine zh ?_
   refine aL rfl rfl (c'.cellsAdd) (I2 _) (ix _) (⟨x,rfl,c6.priv hT hj,?_⟩);rw[hM];exact⟨b7,a+1,a'-1,d9.fgt h.tag,zo,zo,zo,zo⟩
  |ok t r2=>
   rw[hf]at b9 c8;obtain⟨a1,hn⟩:=c8;replace a1:J5 O5 w6 j rb (rdr kv l ((l.length:Int)-(r2.length:Int)) (op+1) 0 0) 250:=a1;have e8:=b9.1.trans e7;have g0:=(aY r2).trans e8;have hq2l:=g0.length_le;refine zh ?_;refine zvH (RV.ld a1.r5 rfl) ?_;refine aw (d:=39) rfl (b':=true) (rfl) ?_;refine zh ?_;refine zc Kj (fK O5 w6 j rb l r2 (op+1) 0 0 hj e8 zo a1) ?_;rintro v w7 ⟨rfl,a2,a3⟩;have b8:=e5.upd a3 zo zo;have d6:=e9.upd a3 zo zo;have h2:=h3.upd a3;have b1:=b2.trans (a3.pj a0);have d4:=hn.upd a3;refine zh ?_
   by_cases hc:(ar r2).headD 0=41
   ·have hM:bV (some f) r=.ok t (ar r2).tail:=by unfold bV;dsimp only;rw[hf];dsimp only;rw[if_pos hc]
    obtain⟨g1,g2⟩:=bT (r:=ar r2) (by rw[hc];decide);refine zFH rfl ((by rw[hc];rfl)) ?_;refine zvH (RV.ld a2.r1 rfl) ?_;refine aj (j:=1) a2 rfl (Jg _) rfl rfl rfl rfl ?_;rw[show((l.length:Int)-((ar r2).length:Int))+1=(l.length:Int)-((ar r2).tail.length:Int)from by omega];have a8:=BlkO.rAt a2 ((l.length:Int)-((ar r2).tail.length:Int));have a5:IK (fun k=>k=j) O5 w7 O5 (IJ w7 ⟨rb,1,none⟩ (nI ((l.length:Int)-((ar r2).tail.length:Int)))):=IU (fun e=>hj e.symm) (II a2) rfl;have b0:=b8.upd a5 zo zo;have d5:=d6.upd a5 zo zo;have d3:=d4.upd a5;generalize IJ w7 ⟨rb,1,none⟩ (nI ((l.length:Int)-((ar r2).tail.length:Int)))=w8 at *;refine zh ?_;refine zvH (RV.ld a8.r3 rfl) ?_;refine aj (j:=3) a8 rfl (Jg _) rfl rfl rfl rfl ?_;rw[show op+1-1=op from by omega];have g8:=a8.rOp op;have c7:IK (fun k=>k=j) O5 w8 O5 (w8.setCell ⟨rb,3,none⟩ (nI op)):=IU (fun e=>hj e.symm) a8.tag rfl;have d0:=b0.upd c7 zo zo;have g6:=d5.upd c7 zo zo;have d2:=d3.upd c7;generalize w8.setCell ⟨rb,3,none⟩ (nI op)=w9 at *;have d':=(b1.trans (a5.pj a0)).trans (c7.pj a0);refine zh ?_;refine zv (ah (us:=bt x) g6.cellsAdd (I2 _) (ix _) rfl) ?_;refine zsb (us:=#[nI x.1,nI x.2.1,x.2.2]) d0 (ix _) (bX b7) ?_;have c':=IE (us:=#[nI x.1,nI x.2.1,x.2.2]) d0;have a9:IK (fun k=>k=T) O5 w9 O5 (I8 w9 xb #[nI x.1,nI x.2.1,x.2.2]):=I3 zo (II d0) rfl
    have d9:=g8.upd a9 hj zo;have c6:=d'.trans (a9.pT hj a0 (I0 _));refine zh ?_;refine aL rfl rfl (c'.cellsAdd) (I2 _) (ix _) (⟨x,rfl,c6.priv hT hj,?_⟩);rw[hM];exact⟨d9.fgt h.tag,(d2.upd a9).low c6⟩
   have hM:bV (some f) r=.bad (ar r2).length 4:=by unfold bV;dsimp only;rw[hf];dsimp only;rw[if_neg hc]
   refine zTH rfl ((uU _ 41 zd hc)) ?_;refine zv (RV.ld a2.r1 rfl) ?_
   refine zc Ki (fX _ O5 w7 j rb l _ _ 0 ((l.length:Int)-((ar r2).length:Int)) 4 hj h2 a2) ?_;rintro v wf ⟨rfl,d8,b6⟩;have a6:=b8.upd b6 zo zo;refine zsa (us:=#[nI 0,nI 0,nS]) a6 (ix _) ?_
   have c9:=a6.setRow (us:=#[nI 0,nI 0,nS]);have b5:IK (fun k=>k=T) O5 wf O5 (wf.setRow xb #[nI 0,nI 0,nS]):=I3 zo a6.tag rfl;have hbg:=d8.upd b5 hj zo;refine zh ?_;refine aL rfl rfl (c9.cellsAdd) (I2 _) (ix _) (⟨(0,0,nS),rfl,((b1.trans (b6.pj a0)).trans (b5.pT hj a0 (I0 _))).priv hT hj,?_⟩);rw[hM];exact⟨rfl,_,op+1,hbg.fgt h.tag,zo,zo,zo,zo⟩
theorem CP(al:Option (List UInt8->PR))(op:Int)(b4:0<=op/\op<=20)(ha:tq kv kn al op)(hg:mj al):Reads kv kn 261 [] op (iF kn al) (fun _=>True):=by
 intro B O j rb l r w hR hj hr hl c9 h b5;obtain⟨T,a1,hT⟩:=hR.bound;have d6:j<T:=by rw[<-h.tag];exact hT rb
 have d4:=hr.length_le;refine I6 func261 ntmps261 rfl rfl ?_;refine zh ?_;refine au hR T zo (I5 _) rfl ?_;intro xb w1 O1 c8 c6 d3 d7;have d1:=h.upd c6 hj zo;have b7:=c6.pT hj a1 (I0 _);have hq:=(aY r).trans hr;have d5:=hq.length_le;refine zh ?_;refine zc Kj (fK O1 w1 j rb l r op 0 0 hj hr zo d1) ?_;rintro v w2 ⟨rfl,a2,b8⟩;have b1:=c8.upd b8 zo zo;have b2:=d3.upd b8;have a0:=b7.trans (b8.pj a1);refine zh ?_;refine zc LC (ik ((ar r).headD 0) w2) ?_;rintro v w9 ⟨rfl,b9⟩;rw[b9];clear b9 w9;refine zh ?_
 by_cases h1:ai ((ar r).headD 0)=true
 ·have hM:iF kn al r=gd kn (ar r):=by unfold iF;rw[if_pos h1]
  rw[hM];refine zTH rfl (h1) ?_;refine zc call267 (An op b4 B O1 j rb l (ar r) w2 b2 hj hq hl h1 a2 (b5.upd a0)) ?_;rintro v wc ⟨x,rfl,a6,a7⟩;have a8:=a7.one;have a3:=IG b1 a6 zo zo;refine zsb (us:=#[nI x.1,nI x.2.1,x.2.2]) a3 (ix _) (bX a8) ?_;have a9:=IE (us:=#[nI x.1,nI x.2.1,x.2.2]) a3;have a4:IK (fun k=>k=T) O1 wc O1 (I8 wc xb #[nI x.1,nI x.2.1,x.2.2]):=I3 zo (II a3) rfl;have a5:=(a0.trans (a6.pj a1)).trans (a4.pT hj a1 (I0 _));refine zh ?_;refine aL rfl rfl (a9.cellsAdd) (I2 _) (ix _) (⟨x,rfl,a5.priv hT hj,(a7.upd a4 hj zo).low a5 h.tag⟩)
 refine zFH rfl ((by simpa using h1)) ?_
 by_cases h2:(ar r).headD 0=126
 ·have hM:iF kn al r=dB 2 (ar r).tail:=by unfold iF;rw[if_neg h1,if_pos h2]
  obtain⟨k1,k2⟩:=bT (r:=ar r) (by rw[h2];decide);rw[hM];refine zTH rfl ((by rw[h2];rfl)) ?_;refine zvH (RV.ld a2.r1 rfl) ?_;refine aj (j:=1) a2 rfl (Jg _) rfl rfl rfl rfl ?_;rw[show((l.length:Int)-((ar r).length:Int))+1=(l.length:Int)-((ar r).tail.length:Int)from by omega];have b6:=BlkO.rAt a2 ((l.length:Int)-((ar r).tail.length:Int));have a':IK (fun k=>k=j) O1 w2 O1 (IJ w2 ⟨rb,1,none⟩ (nI ((l.length:Int)-((ar r).tail.length:Int)))):=IU (fun e=>hj e.symm) (II a2) rfl;have b0:=b1.upd a' zo zo;have d2:=b2.upd a';refine zh ?_;refine zc call268 (sV 2 op b4 B O1 j rb l (ar r).tail _ d2 hj (k1.trans hq) hl trivial b6 (b5.upd (a0.trans (a'.pj a1)))) ?_;rintro v wc ⟨x,rfl,a6,a7⟩;have a8:=a7.one;have a3:=IG b0 a6 zo zo;refine zsb (us:=#[nI x.1,nI x.2.1,x.2.2]) a3 (ix _) (bX a8) ?_;have a9:=IE (us:=#[nI x.1,nI x.2.1,x.2.2]) a3;have a4:IK (fun k=>k=T) O1 wc O1 (I8 wc xb #[nI x.1,nI x.2.1,x.2.2]):=I3 zo (II a3) rfl;have a5:=((a0.trans (a'.pj a1)).trans (a6.pj a1)).trans (a4.pT hj a1 (I0 _));refine zh ?_;refine aL rfl rfl (a9.cellsAdd) (I2 _) (ix _) (⟨x,rfl,a5.priv hT hj,(a7.upd a4 hj zo).low a5 h.tag⟩)
 refine zFH rfl ((gI _ 126 zd h2)) ?_
 by_cases h3:(ar r).headD 0=94
 ·have hM:iF kn al r=.ok (.mk 3 0 []) (ar r).tail:=by unfold iF;rw[if_neg h1,if_neg h2,if_pos h3]
  obtain⟨k1,k2⟩:=bT (r:=ar r) (by rw[h3];decide);rw[hM];refine zTH rfl ((by rw[h3];rfl)) ?_;refine zvH (RV.ld a2.r1 rfl) ?_;refine aj (j:=1) a2 rfl (Jg _) rfl rfl rfl rfl ?_;rw[show((l.length:Int)-((ar r).length:Int))+1=(l.length:Int)-((ar r).tail.length:Int)from by omega];have b6:=BlkO.rAt a2 ((l.length:Int)-((ar r).tail.length:Int));have a':IK (fun k=>k=j) O1 w2 O1 (IJ w2 ⟨rb,1,none⟩ (nI ((l.length:Int)-((ar r).tail.length:Int)))):=IU (fun e=>hj e.symm) (II a2) rfl;have b0:=b1.upd a' zo zo;have a8:((3,0,nS):N3).2.2.oneCell'=true:=rfl;refine zh ?_;refine zv (aF kK (I5 _) rfl (by first|rfl|(simp only[IF,h.one];rfl)) rfl rfl) ?_;refine zsb (us:=#[nI ((3,0,nS):N3).1,nI ((3,0,nS):N3).2.1,((3,0,nS):N3).2.2]) b0 (ix _) (bX a8) ?_;have a9:=IE (us:=#[nI ((3,0,nS):N3).1,nI ((3,0,nS):N3).2.1,((3,0,nS):N3).2.2]) b0;have a4:IK (fun k=>k=T) O1 (IJ w2 ⟨rb,1,none⟩ (nI ((l.length:Int)-((ar r).tail.length:Int)))) O1 (I8 (IJ w2 ⟨rb,1,none⟩ (nI ((l.length:Int)-((ar r).tail.length:Int)))) xb #[nI ((3,0,nS):N3).1,nI ((3,0,nS):N3).2.1,((3,0,nS):N3).2.2]):=I3 zo (II b0) rfl;have d0:=b6.upd a4 hj zo;have a5:=(a0.trans (a'.pj a1)).trans (a4.pT hj a1 (I0 _));refine zh ?_;refine aL rfl rfl (a9.cellsAdd) (I2 _) (ix _) (⟨(3,0,nS),rfl,a5.priv hT hj,d0.fgt h.tag,LY _ _ _ _⟩)
 refine zFH rfl ((gI _ 94 zd h3)) ?_
 by_cases h4:(ar r).headD 0=40
 ·have hM:iF kn al r=bV al (ar r):=by unfold iF;rw[if_neg h1,if_neg h2,if_neg h3,if_pos h4]
  rw[hM];refine zTH rfl ((by rw[h4];rfl)) ?_;refine zc call269 (sZ al op b4 ha hg B O1 j rb l (ar r) w2 b2 hj hq hl (show(ar r).headD 0≠0 by rw[h4];decide) a2 (b5.upd a0)) ?_;rintro v wc ⟨x,rfl,a6,a7⟩;have a8:=a7.one;have a3:=IG b1 a6 zo zo;refine zsb (us:=#[nI x.1,nI x.2.1,x.2.2]) a3 (ix _) (bX a8) ?_;have a9:=IE (us:=#[nI x.1,nI x.2.1,x.2.2]) a3;have a4:IK (fun k=>k=T) O1 wc O1 (I8 wc xb #[nI x.1,nI x.2.1,x.2.2]):=I3 zo (II a3) rfl;have a5:=(a0.trans (a6.pj a1)).trans (a4.pT hj a1 (I0 _));refine zh ?_;refine aL rfl rfl (a9.cellsAdd) (I2 _) (ix _) (⟨x,rfl,a5.priv hT hj,(a7.upd a4 hj zo).low a5 h.tag⟩)
 have hM:iF kn al r=.bad (ar r).length 4:=by unfold iF;rw[if_neg h1,if_neg h2,if_neg h3,if_neg h4]
 rw[hM];refine zFH rfl ((gI _ 40 zd h4)) ?_;refine zv (RV.ld a2.r1 rfl) ?_;refine zc Ki (fX _ O1 w2 j rb l _ _ 0 ((l.length:Int)-((ar r).length:Int)) 4 hj b2 a2) ?_;rintro v wf ⟨rfl,c',c5⟩;have b3:=b1.upd c5 zo zo;refine zsa (us:=#[nI 0,nI 0,nS]) b3 (ix _) ?_;have c7:=b3.setRow (us:=#[nI 0,nI 0,nS]);have b':IK (fun k=>k=T) O1 wf O1 (wf.setRow xb #[nI 0,nI 0,nS]):=I3 zo b3.tag rfl;have hbg:=c'.upd b' hj zo;refine zh ?_;refine aL rfl rfl (c7.cellsAdd) (I2 _) (ix _) (⟨(0,0,nS),rfl,((a0.trans (c5.pj a1)).trans (b'.pT hj a1 (I0 _))).priv hT hj,?_⟩);exact⟨rfl,_,op,hbg.fgt h.tag,zo,zo,zo,zo⟩
end
section
variable{kv:I1}{kn:Kn}
theorem DN(c:UInt8):qX [42,43,63] c=match opM c with|some k=>(k:Nat)|none=>-1:=by
 unfold qX opM
 by_cases h1:c=42
 ·subst h1;rfl
 by_cases h2:c=43
 ·subst h2;rfl
 by_cases h3:c=63
 ·subst h3;rfl
 rw[if_neg h1,if_neg h2,if_neg h3];have:[(42:UInt8),43,63].findIdx? (· == c)=none:=by
  rw[Jw];intro x hx;simp at hx
  rcases hx with rfl|rfl|rfl<;>simp<;>intro e<;>first|exact h1 e.symm|exact h2 e.symm|exact h3 e.symm
 rw[this]
theorem sg(al:Option (List UInt8 → PR))(op:Int)(hop:0 ≤ op ∧ op ≤ 20)(ha:tq kv kn al op)(hg:mj al): Reads kv kn 244 [] op (eP kn al) (fun _ => True) := by
  intro B O j rb l r w hR hj hr hl hpre h hkn
  obtain⟨T, hT0, hT⟩ := hR.bound
  have hjT:j < T := by rw[← h.tag]; exact hT rb
  have hrl := hr.length_le
  refine I6 func244 ntmps244 rfl rfl ?_
  refine zh ?_
  refine au hR T (by omega) (I5 _) rfl ?_
  intro xb w1 O1 hx1 hU1 hR1 hE1
  have hb1 := h.upd hU1 hj (by omega)
  have hUt1 := hU1.pT hj hT0 (I0 _)
  have hga := pH (kn := kn) hg r
  refine zh ?_
  refine zc call261 (CP al op hop ha hg B O1 j rb l r w1 hR1 hj hr hl trivial hb1 (hkn.upd hUt1)) ?_
  rintro v w2 ⟨x, rfl, hU2, hP2⟩
  have hxo := hP2.one
  have hx2 := hx1.upd hU2 (by omega) (by omega)
  have hR2 := hR1.upd hU2
  have hUt2 := hUt1.trans (hU2.pj hT0)
  refine au hR2 (T + 1) (by omega) (I5 _) rfl ?_
  intro nb w3 O3 hn3 hU3 hR3 hE3
  refine zsb (us := #[.int .i64 x.1, .int .i64 x.2.1, x.2.2]) hn3 (ix _) (bX hxo) ?_
  have hn4 := hn3.setRow (us := #[.int .i64 x.1, .int .i64 x.2.1, x.2.2])
  have hU4:IK (fun k => k = T + 1) O3 w3 O3 (w3.setRow nb #[.int .i64 x.1, .int .i64 x.2.1, x.2.2]) := I3 (by omega) hn3.tag rfl
  have hU34 := hU3.trans hU4
  have hx4 := hx2.upd hU34 (by omega) (by omega)
  have hP4 := hP2.upd hU34 hj (by omega)
  have hR4 := hR2.upd hU34
  have hUt4 := hUt2.trans (hU34.pT hj hT0 (J7 _))
  generalize w3.setRow nb #[.int .i64 x.1, .int .i64 x.2.1, x.2.2] = w4 at *
  cases hf:iF kn al r with
  |bad p e =>
    rw[hf]at hga hP4
    have hM:eP kn al r = .bad p e := by unfold eP; rw[hf]
    have hP5 := hP4
    obtain⟨g1, a, op', hb4, g2, g3, g4, g5⟩ := hP4
    replace hb4:J5 O3 w4 j rb (rdr kv l a op' ((l.length:Int) - (p:Int)) e) 250 := hb4
    refine zh ?_
    refine zvH (RV.ld hb4.r5 rfl) ?_
    refine zTH rfl ((by simpa using hga.2)) ?_
    refine zv (ah (us := bt x) hn4.cellsAdd (I2 _) (ix _) rfl) ?_
    refine zsb (us := #[.int .i64 x.1, .int .i64 x.2.1, x.2.2]) hx4 (ix _) (bX hxo) ?_
    have hxd := IE (us := #[.int .i64 x.1, .int .i64 x.2.1, x.2.2]) hx4
    have hUd:IK (fun k => k = T) O3 w4 O3 (I8 w4 xb #[.int .i64 x.1, .int .i64 x.2.1, x.2.2]) := I3 (by omega) (II hx4) rfl
    have hUz := hUt4.trans (hUd.pT hj hT0 (I0 _))
    refine zh ?_
    refine aL rfl rfl (hxd.cellsAdd) (I2 _) (ix _) (⟨x, rfl, hUz.priv hT hj, ?_⟩)
    rw[hM]
    exact(hP5.upd hUd hj (by omega)).low hUz h.tag
  |ok t r1 =>
    rw[hf]at hga hP4
    obtain⟨hb4, hnt4⟩ := hP4
    replace hb4:J5 O3 w4 j rb (rdr kv l ((l.length:Int) - (r1.length:Int)) op 0 0) 250 := hb4
    have hr1 := hga.1.trans hr
    have hq1 := (aY r1).trans hr1
    have hql := hq1.length_le
    refine zh ?_
    refine zvH (RV.ld hb4.r5 rfl) ?_
    refine zFH rfl rfl ?_
    refine zc Kj (fK O3 w4 j rb l r1 op 0 0 hj hr1 (by omega) hb4) ?_
    rintro v w5 ⟨rfl, hb5, hU5⟩
    have hx5 := hx4.upd hU5 (by omega) (by omega)
    have hn5 := hn4.upd hU5 (by omega) (by omega)
    have hR5 := hR4.upd hU5
    have hUt5 := hUt4.trans (hU5.pj hT0)
    have hnt5 := hnt4.upd hU5
    refine zc call44 (dp [42, 43, 63] ((ar r1).headD 0) w5) ?_
    rintro v w9 ⟨rfl, hw9⟩
    rw[hw9, DN]
    clear hw9 w9
    have hb6 := hb5.drew
    have hx6 := hx5.drew
    have hn6 := hn5.drew
    have hnt6 := hnt5.drew
    have hUt6 := hUt5.drew
    have hR6 := hR5.drew
    refine zh ?_
    refine JS (by kernel_rfl) (by kernel_rfl) ?_
    refine zh ?_
    refine zwH (RV.ld hb6.r1 rfl) ?_
    refine zw (RV.ld hb6.r0 rfl) ?_
    refine zwH (bW IW rfl) ?_
    cases hk:opM ((ar r1).headD 0)with
    |none =>
      have hM:eP kn al r = .ok t (ar r1) := by unfold eP; rw[hf]; dsimp only; rw[hk]
      by_cases hq0:(ar r1).length = 0
      · skip
        refine ct (d := 30) rfl (b' := true) ((beq_iff_eq.2 (by omega))) ?_
        generalize w5.drew = w6 at *
        refine zh ?_
        refine zw (bG rfl rfl) ?_
        refine JN ?_
        refine zh ?_
        refine zTH rfl rfl ?_
        refine zv (ah (us := bt x) hn6.cellsAdd (I2 _) (ix _) rfl) ?_
        refine zsb (us := #[.int .i64 x.1, .int .i64 x.2.1, x.2.2]) hx6 (ix _) (bX hxo) ?_
        have hxd := IE (us := #[.int .i64 x.1, .int .i64 x.2.1, x.2.2]) hx6
        have hUd:IK (fun k => k = T) O3 w6 O3 (I8 w6 xb #[.int .i64 x.1, .int .i64 x.2.1, x.2.2]) := I3 (by omega) (II hx6) rfl
        have hUz := hUt6.trans (hUd.pT hj hT0 (I0 _))
        have hbd := hb6.upd hUd hj (by omega)
        refine zh ?_
        refine aL rfl rfl (hxd.cellsAdd) (I2 _) (ix _) (⟨x, rfl, hUz.priv hT hj, ?_⟩)
        rw[hM]
        exact⟨hbd.fgt h.tag, (hnt6.upd hUd).low hUz⟩
      · skip
        refine ct (d := 30) rfl (b' := false) ((beq_eq_false_iff_ne.2 (by omega))) ?_
        refine zh ?_
        refine zw (bL rfl rfl) ?_
        refine JN ?_
        refine zh ?_
        refine aS rfl rfl ?_
        generalize w5.drew = w6 at *
        refine zh ?_
        refine zv (ah (us := bt x) hn6.cellsAdd (I2 _) (ix _) rfl) ?_
        refine zsb (us := #[.int .i64 x.1, .int .i64 x.2.1, x.2.2]) hx6 (ix _) (bX hxo) ?_
        have hxd := IE (us := #[.int .i64 x.1, .int .i64 x.2.1, x.2.2]) hx6
        have hUd:IK (fun k => k = T) O3 w6 O3 (I8 w6 xb #[.int .i64 x.1, .int .i64 x.2.1, x.2.2]) := I3 (by omega) (II hx6) rfl
        have hUz := hUt6.trans (hUd.pT hj hT0 (I0 _))
        have hbd := hb6.upd hUd hj (by omega)
        refine zh ?_
        refine aL rfl rfl (hxd.cellsAdd) (I2 _) (ix _) (⟨x, rfl, hUz.priv hT hj, ?_⟩)
        rw[hM]
        exact⟨hbd.fgt h.tag, (hnt6.upd hUd).low hUz⟩
    |some k =>
      have hM:eP kn al r = .ok (.mk (6 + (k:Nat)) 0 [t]) (ar r1).tail := by unfold eP; rw[hf]; dsimp only; rw[hk]
      obtain⟨k1, k2⟩ := bT (C5 hk)
      have hk3:k ≤ 2 := by
        unfold opM at hk
        (repeat' split at hk) <;> simp at hk <;> omega
      refine ct (d := 30) rfl (b' := false) ((beq_eq_false_iff_ne.2 (by omega))) ?_
      refine zh ?_
      refine zw (bL rfl rfl) ?_
      refine JN ?_
      refine zh ?_
      refine aT rfl ((decide_eq_false (by simp))) ?_
      generalize w5.drew = w6 at *
      refine zh ?_
      refine zvH (RV.ld hb6.r1 rfl) ?_
      refine aj (j := 1) hb6 rfl (Jg _) rfl rfl rfl rfl ?_
      rw[show((l.length:Int) - ((ar r1).length:Int)) + 1 = (l.length:Int) - ((ar r1).tail.length:Int)from by omega]
      have hb7 := BlkO.rAt hb6 ((l.length:Int) - ((ar r1).tail.length:Int))
      have hU7:IK (fun k => k = j) O3 w6 O3 (IJ w6 ⟨rb, 1, none⟩ (.int .i64 ((l.length:Int) - ((ar r1).tail.length:Int)))) := IU (fun e => hj e.symm) (II hb6) rfl
      have hx7 := hx6.upd hU7 (by omega) (by omega)
      have hn7 := hn6.upd hU7 (by omega) (by omega)
      have hR7 := hR6.upd hU7
      have hUt7 := hUt6.trans (hU7.pj hT0)
      have hnt7 := hnt6.upd hU7
      generalize IJ w6 ⟨rb, 1, none⟩ (.int .i64 ((l.length:Int) - ((ar r1).tail.length:Int))) = w7 at *
      refine zh ?_
      refine zv (M7 rfl rfl (Lk (by dsimp only; omega))) ?_
      refine zv (ah (us := bt x) hn7.cellsAdd (I2 _) (ix _) rfl) ?_
      refine aV elN (enc := bt) x rfl rfl rfl (by decide) rfl ?_
      intro w8 h8 hE8
      have hX8:IK (fun _ => False) O3 w7 O3 w8 := aa (fun h => h) O3 hE8
      have hx8 := hx7.upd hX8 (by omega) (fun h => h)
      have hb8 := hb7.upd hX8 hj (fun h => h)
      have hUt8 := hUt7.trans (iQ O3 hE8 hj hT0)
      have hnt8 := hnt7.upd hX8
      have hfr:Free O3 w8 (.slice (some ⟨w7.heap.size, 0, none⟩) 1 1) := fun a n c e _ => by
        cases e
        refine⟨IM fun hne => by have := (hR7.rng _ hne).2; simp at this, ?_⟩
        obtain⟨_, _, e, _, _, hh⟩ := h8.shape
        have hc := Kv _ _ (h8.cells 0 (by simp) 0 _ rfl)
        simpa[adr, JC]using hc
      have hN:Nt O3 w8 (.mk (6 + (k:Nat)) 0 [t]) (6 + (k:Nat), 0, .slice (some ⟨w7.heap.size, 0, none⟩) 1 1) :=
        .mk (xs := [x]) h8 hfr rfl (fun i hi => by obtain rfl : i = 0 := by simpa using hi
                                                   rw[ao, ao]; exact hnt8)
      have hxo2:((6 + (k:Nat), 0, .slice (some ⟨w7.heap.size, 0, none⟩) 1 1):N3).2.2.oneCell' = true := rfl
      clear hxo
      have hxo := hxo2
      refine zv (aF kK (I5 _) rfl (by first | rfl | (simp only[IF, IR]; rfl)) rfl rfl) ?_
      refine zsb (us := #[.int .i64 ((6 + (k:Nat), 0, .slice (some ⟨w7.heap.size, 0, none⟩) 1 1):N3).1, .int .i64 ((6 + (k:Nat), 0, .slice (some ⟨w7.heap.size, 0, none⟩) 1 1):N3).2.1, ((6 + (k:Nat), 0, .slice (some ⟨w7.heap.size, 0, none⟩) 1 1):N3).2.2]) hx8 (ix _) (bX hxo) ?_
      have hxd := IE (us := #[.int .i64 ((6 + (k:Nat), 0, .slice (some ⟨w7.heap.size, 0, none⟩) 1 1):N3).1, .int .i64 ((6 + (k:Nat), 0, .slice (some ⟨w7.heap.size, 0, none⟩) 1 1):N3).2.1, ((6 + (k:Nat), 0, .slice (some ⟨w7.heap.size, 0, none⟩) 1 1):N3).2.2]) hx8
      have hUd:IK (fun k => k = T) O3 w8 O3 (I8 w8 xb #[.int .i64 ((6 + (k:Nat), 0, .slice (some ⟨w7.heap.size, 0, none⟩) 1 1):N3).1, .int .i64 ((6 + (k:Nat), 0, .slice (some ⟨w7.heap.size, 0, none⟩) 1 1):N3).2.1, ((6 + (k:Nat), 0, .slice (some ⟨w7.heap.size, 0, none⟩) 1 1):N3).2.2]) := I3 (by omega) (II hx8) rfl
      have hUz := hUt8.trans (hUd.pT hj hT0 (I0 _))
      have hbd := hb8.upd hUd hj (by omega)
      refine zh ?_
      refine aL rfl rfl (hxd.cellsAdd) (I2 _) (ix _) (⟨_, rfl, hUz.priv hT hj, ?_⟩)
      rw[hM]
      exact⟨hbd.fgt h.tag, (hN.upd hUd).low hUz⟩
end
section
variable{kv:I1}{kn:Kn}
theorem yD(c:UInt8)(w:ln):JW IZ 245 [.int .u8 (c.toNat:Int)] w fun v w'=>v=.bool (eX c)/\w'=w:=by
 refine I6 func245 ntmps245 rfl rfl ?_;refine zh ?_
 refine zc LC (ik c w) ?_;rintro v w9 ⟨rfl,a0⟩;rw[a0];clear a0 w9;refine zh ?_
 cases h1:ai c with
 |true=>
  refine aw (d:=5) rfl (b':=true) (rfl) ?_;refine zh ?_
  refine ae rfl rfl (⟨by simp[eX,h1],rfl⟩)
 |false=>
  refine aw (d:=5) rfl (b':=false) (rfl) ?_;refine zh ?_
  by_cases h2:c=126
  ·refine aw (d:=9) rfl (b':=true) ((by rw[h2];rfl)) ?_;refine zh ?_
   refine ae rfl rfl (⟨by simp[eX,h2],rfl⟩)
  refine aw (d:=9) rfl (b':=false) ((gI _ 126 zd h2)) ?_;refine zh ?_
  by_cases h3:c=94
  ·refine aw (d:=13) rfl (b':=true) ((by rw[h3];rfl)) ?_;refine zh ?_
   refine ae rfl rfl (⟨by simp[eX,h3],rfl⟩)
  refine aw (d:=13) rfl (b':=false) ((gI _ 94 zd h3)) ?_;refine zh ?_
  have e:=nD c 40 zd;refine ae rfl rfl (⟨?_,rfl⟩);have e2:eX c=decide (c=40):=by simp[eX,h1,h2,h3]
  rw[e2];exact congrArg Value.bool e
def PR.andThen(M:PR)(f:Nd->List UInt8->PR):PR:=match M with | .bad p e=>.bad p e | .ok t r=>f t r
def LoopS(kv:I1)(op:Int)(l:List UInt8)(j rb:Nat)(F:Nat->List Nd->List UInt8->PR)(M:PR)(O:Nat->Nat)(w:ln)(n:Nat)(r1:List UInt8)(ts:List Nd)(xs:List N3):Prop:=
 (Rdr kv O w j rb l ((l.length:Int)-(r1.length:Int)) op 0 0/\r1 <:+ l/\r1.length<n/\xs.length+n<=5000/\ts.length=xs.length/\(∀i,i<xs.length->Nt O w (nth ts i) (nth xs i))/\F n ts r1=M)\/
 (∃p e a op',M=.bad p e/\e≠0/\Rdr kv O w j rb l a op' ((l.length:Int)-(p:Int)) e/\0<=a/\a<=l.length+20-op/\op<=op'/\op'<=20)
theorem LoopS.upd{op:Int}{l:List UInt8}{j rb:Nat}{F:Nat->List Nd->List UInt8->PR}{M:PR}{O O':Nat->Nat}{w w':ln}{n:Nat}{r1:List UInt8}{ts:List Nd}{xs:List N3}{S:Nat->Prop}(h:LoopS kv op l j rb F M O w n r1 ts xs)(u:IK S O w O' w')(hj:j≠0)(hS:¬S j):LoopS kv op l j rb F M O' w' n r1 ts xs:=by
 rcases h with⟨h1,h2,h3,h4,h5,h6,h7⟩|⟨p,e,a,o,h1,h2,h3,h4⟩
 ·exact .inl ⟨IG h1 u hj hS,h2,h3,h4,h5,fun i hi=>(h6 i hi).upd u,h7⟩
 exact .inr ⟨p,e,a,o,h1,h2,IG h3 u hj hS,h4⟩
theorem LoopS.next{op:Int}{l:List UInt8}{j rb:Nat}{F:Nat->List Nd->List UInt8->PR}{M M':PR}{O:Nat->Nat}{w:ln}{n:Nat}{q r1:List UInt8}{ts:List Nd}{xs:List N3}{x:N3}(hP:PostE kv O w j rb l op x M')(hG:Good q M')(hq:q <:+ l)(a0:q.length<=r1.length)(h3:r1.length<n+1)(h4:xs.length+(n+1)<=5000)(h5:ts.length=xs.length) 
  (h6:∀i,i<xs.length->Nt O w (nth ts i) (nth xs i)) (h7:F (n+1) ts r1=M) (hF:F (n+1) ts r1=M'.andThen fun t r2=>F n (ts++[t]) r2):∃n' r' ts',n'<n+1/\LoopS kv op l j rb F M O w n' r' ts' (xs++[x]):=by
 cases M' with
 |bad p e=>
  obtain⟨g1,a,o,g2,g3⟩:=hP;exact⟨0,[],[],zo,.inr ⟨p,e,a,o,by rw[<-h7,hF];rfl,hG.2,g2,g3⟩⟩
 |ok t r2=>
  refine⟨n,r2,ts++[t],zo,.inl ⟨hP.1,hG.1.trans hq,by have:=hG.2;omega,by simp;omega,by simp[h5],fun i hi=>?_,by rw[<-h7,hF];rfl⟩⟩;simp only[J4,Jl]at hi
  by_cases e:i<xs.length
  ·rw[aC (by simp;omega),aC (by simp;omega),IL zo,IL e,<-aC zo,<-aC e];exact h6 i e
  obtain rfl:i=xs.length:=zo;rw[aC (by simp;omega),aC (by simp),IY zo,IY zo];simp[h5];exact hP.2
theorem nT{op:Int}{l:List UInt8}{j rb:Nat}{F:Nat->List Nd->List UInt8->PR}{M M':PR}{O:Nat->Nat}{w:ln}{r:List UInt8}{x:N3}(hP:PostE kv O w j rb l op x M')(hG:Good r M')(hr:r <:+ l)(hl:l.length<=4096)(hF:M=M'.andThen fun t r2=>F (r2.length+1) [t] r2):∃n' r' ts',LoopS kv op l j rb F M O w n' r' ts' [x]:=by
 cases M' with
 |bad p e=>
  obtain⟨g1,a,o,g2,g3⟩:=hP;exact⟨0,[],[],.inr ⟨p,e,a,o,hF,hG.2,g2,g3⟩⟩
 |ok t r2=>
  have:=hr.length_le;refine⟨r2.length+1,r2,[t],.inl ⟨hP.1,hG.1.trans hr,zo,by have:=hG.2;simp;omega,rfl,fun i hi=>?_,hF.symm⟩⟩;obtain rfl:i=0:=by simpa using hi
  rw[ao,ao];exact hP.2
theorem Nt.oneM{O O':Nat->Nat}{w w':ln}{k:Int}{ts:List Nd}{xs:List N3}{lv:I1}{T U B:Nat}{S:Nat->Prop}(a0:JE bt 120 3 O' w' U lv xs)(a1:T<=U)(a2:0<T)(hT:∀b,O b<T)(r:Km B O' w')(u:IK S O w O' w')(h5:ts.length=xs.length)(h6:∀i,i<xs.length->Nt O' w' (nth ts i) (nth xs i))(_:1<=xs.length):
  Nt O w' (oneM k ts) (if xs.length=1 then nth xs 0 else(k,0,lv)):=by
 unfold JV
 by_cases e:xs.length=1
 ·rw[if_pos zo,if_pos e];exact(h6 0 zo).low u
 rw[if_neg zo,if_neg e];exact .mk a0.sl (a0.freeT zo (fun b=>L6 (hT b) a1) r u) h5 (fun i hi=>(h6 i hi).low u)
theorem zJ(al:Option (List UInt8->PR))(op:Int)(f3:0<=op/\op<=20)(ha:tq kv kn al op)(hg:mj al):Reads kv kn 197 [] op (BH kn al) (fun _=>True):=by
 intro B O j rb l r w hR hj hr hl h0 h f5;obtain⟨T,a6,hT⟩:=hR.bound;have i2:j<T:=by rw[<-h.tag];exact hT rb
 have i1:=hr.length_le;refine I6 func197 ntmps197 rfl rfl ?_;refine zh ?_;refine au hR T zo (I5 _) rfl ?_;intro xb w1 O1 g9 f7 f' i3;have h4:=h.upd f7 hj zo;have b6:=f7.pT hj a6 (I0 _);refine zh ?_;refine zc call244 (sg al op f3 ha hg B O1 j rb l r w1 f' hj hr hl trivial h4 (f5.upd b6)) ?_;rintro v w2 ⟨x,rfl,e2,g1⟩;have c8:=g1.one;have g8:=g9.upd e2 zo zo;have h':=f'.upd e2;have d9:=b6.trans (e2.pj a6);refine bJ elN (enc:=bt) h' (T+1) zo x rfl rfl rfl zd rfl ?_;intro lv w3 O3 b4 e1 h9;have g7:=g8.upd e1 zo zo;have i0:=g1.upd e1 hj zo;have d8:=d9.trans (e1.pT hj a6 (J7 _));have b5:∀i,i<[x].length->(nth [x] i).2.2.oneCell'=true:=fun i hi=>by
  obtain rfl:i=0:=by simpa using hi
  rw[ao];exact c8
 obtain⟨n0,r0,g3,h6⟩:=nT (F:=dd kn al) (M:=BH kn al r) i0 (fM (kn:=kn) hg r) hr hl rfl;refine zh ?_;refine zlp (fun y:Nat×List UInt8×List Nd×List N3×(Nat->Nat)×World×I1=>[(0,nP rb),(2,nP xb),(3,y.2.2.2.2.2.2)]) (fun y=>y.2.2.2.2.2.1) (fun y=>J5 y.2.2.2.2.1 y.2.2.2.2.2.1 T xb #[nI 0,nI 0,nS] 120/\JE bt 120 3 y.2.2.2.2.1 y.2.2.2.2.2.1 (T+1) y.2.2.2.2.2.2 y.2.2.2.1/\1<=y.2.2.2.1.length/\(∀i,i<y.2.2.2.1.length->(nth y.2.2.2.1 i).2.2.oneCell'=true)/\IK (fun k=>k=j\/T<=k) O w y.2.2.2.2.1 y.2.2.2.2.2.1/\Km B y.2.2.2.2.1 y.2.2.2.2.2.1/\LoopS kv op l j rb (dd kn al) (BH kn al r) y.2.2.2.2.1 y.2.2.2.2.2.1 y.1 y.2.1 y.2.2.1 y.2.2.2.1) (fun y=>y.1) (n0,r0,g3,[x],O3,w3,lv) (⟨g7,b4,I0 _,b5,d8,h9,h6⟩) ?_;rintro⟨n,r1,ts,xs,O4,w4,a0⟩ ⟨c',a4,a8,a1,e0,e4,f8⟩;dsimp only at c' a4 a8 a1 e0 e4 f8 ⊢
 rcases f8 with⟨a',e9,h1,h3,f4,g',g2⟩|⟨p,e,a,e5,hM,he,a',d5,d4,d3,d2⟩
 ·have e':=(aY r1).trans e9;have d0:=da r1;obtain⟨m,rfl⟩:∃m,n=m+1:=⟨n-1,zo⟩
  have c7:dd kn al (m+1) ts r1=if eX ((ar r1).headD 0)=true then((eP kn al (ar r1)).andThen fun t r2=>dd kn al m (ts++[t]) r2)else .ok (oneM 4 ts) (ar r1):=rfl
  refine zh ?_;refine zvH (RV.ld a'.r5 rfl) ?_
  refine aw (d:=12) rfl (b':=true) (rfl) ?_;refine zh ?_
  refine zc Kj (fK O4 w4 j rb l r1 op 0 0 hj e9 zo a') ?_;rintro v w5 ⟨rfl,f6,b8⟩;have e6:=c'.upd b8 zo zo;have a5:=a4.upd b8 zo zo;have e3:=e4.upd b8;have b0:=e0.trans (b8.pj a6);have e8:∀i,i<xs.length->Nt O4 w5 (nth ts i) (nth xs i):=fun i hi=>(g' i hi).upd b8
  refine zh ?_;refine zc call245 (yD ((ar r1).headD 0) w5) ?_
  rintro v w9 ⟨rfl,e7⟩;rw[e7];clear e7 w9;refine zh ?_
  by_cases hc:eX ((ar r1).headD 0)=true
  ·rw[if_pos hc]at c7;refine zTH rfl (hc) ?_;refine zc call244 (sg al op f3 ha hg B O4 j rb l (ar r1) w5 e3 hj e' hl trivial f6 (f5.upd b0)) ?_;rintro v w6 ⟨x6,rfl,b7,g0⟩;have b1:=g0.one;have g6:=e6.upd b7 zo zo;have b3:=a5.upd b7 zo zo;have h8:=e3.upd b7;have d7:=b0.trans (b7.pj a6);refine LW elN b3 h8 (x6) (fun _=>rfl) rfl rfl rfl (nt b1) zo zo zo zd rfl rfl ?_;intro g5 w7 O7 b2 d' h7;obtain⟨n',r',g4,h2,h5⟩:=LoopS.next (F:=dd kn al) g0 (fM (kn:=kn) hg _) e' d0 h1 h3 f4 (fun i hi=>(e8 i hi).upd b7) g2 c7;refine zh ?_;refine zx (n',r',g4,xs++[x6],O7,w7,g5) (⟨g6.upd d' zo zo,b2,by simp,fun i hi=>?_,d7.trans (d'.pT hj a6 (J7 _)),h7,h5.upd d' hj zo⟩) (h2);simp only[J4,Jl]at hi
   by_cases e:i<xs.length
   ·rw[aC (by simp;omega),IL e,<-aC e];exact a1 i e
   obtain rfl:i=xs.length:=zo;rw[aC (by simp)];simpa using b1
  rw[if_neg hc]at c7;refine zFH rfl ((by simpa using hc)) ?_;refine zc LD (qk 4 xs a0 w5 a5.sl a1) ?_;rintro v wo ⟨rfl,b9⟩;have a7:IK (fun _=>False) O4 w5 O4 wo:=aa (fun h=>h) O4 b9;have a2:=IG e6 a7 zo (fun h=>h);have a3:=KM a5 a7 zo (fun h=>h);have f9:=Ld e3 a7;have c5:(if xs.length=1 then nth xs 0 else(4,0,a0):N3).2.2.oneCell'=true:=by
   split
   ·exact a1 0 zo
   exact a3.one
  refine zsb (us:=#[nI (if xs.length=1 then nth xs 0 else(4,0,a0):N3).1,nI (if xs.length=1 then nth xs 0 else(4,0,a0):N3).2.1,(if xs.length=1 then nth xs 0 else(4,0,a0):N3).2.2]) a2 (ix _) (bX c5) ?_;have c9:=IE (us:=#[nI (if xs.length=1 then nth xs 0 else(4,0,a0):N3).1,nI (if xs.length=1 then nth xs 0 else(4,0,a0):N3).2.1,(if xs.length=1 then nth xs 0 else(4,0,a0):N3).2.2]) a2;have a9:IK (fun k=>k=T) O4 wo O4 (I8 wo xb #[nI (if xs.length=1 then nth xs 0 else(4,0,a0):N3).1,nI (if xs.length=1 then nth xs 0 else(4,0,a0):N3).2.1,(if xs.length=1 then nth xs 0 else(4,0,a0):N3).2.2]):=I3 zo (II a2) rfl;have d6:=b0.trans (iQ O4 b9 hj a6);have c6:=d6.trans (a9.pT hj a6 (I0 _));refine zh ?_
  refine aL rfl rfl (c9.cellsAdd) (I2 _) (ix _) (⟨(if xs.length=1 then nth xs 0 else(4,0,a0)),rfl,c6.priv hT hj,?_⟩);have d1:=(IG f6 a7 hj (fun h=>h)).upd a9 hj zo;rw[<-g2,c7];exact⟨d1.fgt h.tag,Nt.oneM (a3.upd a9 zo zo) (J7 T) a6 hT (f9.upd a9) c6 f4 (fun i hi=>((e8 i hi).upd a7).upd a9) a8⟩
 replace a':J5 O4 w4 j rb (rdr kv l a e5 ((l.length:Int)-(p:Int)) e) 250:=a';refine zh ?_;refine zvH (RV.ld a'.r5 rfl) ?_;refine aw (d:=12) rfl (b':=false) ((by simpa using he)) ?_;refine zh ?_;refine zFH rfl rfl ?_;refine zc LD (qk 4 xs a0 w4 a4.sl a1) ?_;rintro v wo ⟨rfl,b9⟩;have a7:IK (fun _=>False) O4 w4 O4 wo:=aa (fun h=>h) O4 b9;have a2:=IG c' a7 zo (fun h=>h);have a3:=KM a4 a7 zo (fun h=>h);have f9:=Ld e4 a7;have c5:(if xs.length=1 then nth xs 0 else(4,0,a0):N3).2.2.oneCell'=true:=by
  split
  ·exact a1 0 zo
  exact a3.one
 refine zsb (us:=#[nI (if xs.length=1 then nth xs 0 else(4,0,a0):N3).1,nI (if xs.length=1 then nth xs 0 else(4,0,a0):N3).2.1,(if xs.length=1 then nth xs 0 else(4,0,a0):N3).2.2]) a2 (ix _) (bX c5) ?_;have c9:=IE (us:=#[nI (if xs.length=1 then nth xs 0 else(4,0,a0):N3).1,nI (if xs.length=1 then nth xs 0 else(4,0,a0):N3).2.1,(if xs.length=1 then nth xs 0 else(4,0,a0):N3).2.2]) a2;have a9:IK (fun k=>k=T) O4 wo O4 (I8 wo xb #[nI (if xs.length=1 then nth xs 0 else(4,0,a0):N3).1,nI (if xs.length=1 then nth xs 0 else(4,0,a0):N3).2.1,(if xs.length=1 then nth xs 0 else(4,0,a0):N3).2.2]):=I3 zo (II a2) rfl;have d6:=e0.trans (iQ O4 b9 hj a6);have c6:=d6.trans (a9.pT hj a6 (I0 _));refine zh ?_
 refine aL rfl rfl (c9.cellsAdd) (I2 _) (ix _) (⟨(if xs.length=1 then nth xs 0 else(4,0,a0)),rfl,c6.priv hT hj,?_⟩);have d1:=(IG a' a7 hj (fun h=>h)).upd a9 hj zo;rw[hM];exact⟨c5,a,e5,d1.fgt h.tag,d5,d4,d3,d2⟩
theorem xu(al:Option (List UInt8->PR))(op:Int)(e9:0<=op/\op<=20)(ha:tq kv kn al op)(hg:mj al):Reads kv kn 152 [] op (nJ kn al) (fun _=>True):=by
 intro B O j rb l r w hR hj hr hl g' h f3;obtain⟨T,a5,hT⟩:=hR.bound;have i1:j<T:=by rw[<-h.tag];exact hT rb
 have i0:=hr.length_le;refine I6 func152 ntmps152 rfl rfl ?_;refine zh ?_;refine au hR T zo (I5 _) rfl ?_;intro xb w1 O1 g7 f4 f8 i2;have h3:=h.upd f4 hj zo;have b7:=f4.pT hj a5 (I0 _);refine zh ?_;refine zc call197 (zJ al op e9 ha hg B O1 j rb l r w1 f8 hj hr hl trivial h3 (f3.upd b7)) ?_;rintro v w2 ⟨x,rfl,e3,f'⟩;have c9:=f'.one;have g6:=g7.upd e3 zo zo;have h9:=f8.upd e3;have d':=b7.trans (e3.pj a5);refine bJ elN (enc:=bt) h9 (T+1) zo x rfl rfl rfl zd rfl ?_;intro lv w3 O3 b3 e2 h8;have g5:=g6.upd e2 zo zo;have h':=f'.upd e2 hj zo;have d9:=d'.trans (e2.pT hj a5 (J7 _));have b4:∀i,i<[x].length->(nth [x] i).2.2.oneCell'=true:=fun i hi=>by
  obtain rfl:i=0:=by simpa using hi
  rw[ao];exact c9
 obtain⟨n0,r0,g1,h5⟩:=nT (F:=cC kn al) (M:=nJ kn al r) h' (jE (kn:=kn) hg r) hr hl rfl;refine zh ?_;refine zlp (fun y:Nat×List UInt8×List Nd×List N3×(Nat->Nat)×World×I1=>[(0,nP rb),(2,nP xb),(3,y.2.2.2.2.2.2)]) (fun y=>y.2.2.2.2.2.1) (fun y=>J5 y.2.2.2.2.1 y.2.2.2.2.2.1 T xb #[nI 0,nI 0,nS] 120/\JE bt 120 3 y.2.2.2.2.1 y.2.2.2.2.2.1 (T+1) y.2.2.2.2.2.2 y.2.2.2.1/\1<=y.2.2.2.1.length/\(∀i,i<y.2.2.2.1.length->(nth y.2.2.2.1 i).2.2.oneCell'=true)/\IK (fun k=>k=j\/T<=k) O w y.2.2.2.2.1 y.2.2.2.2.2.1/\Km B y.2.2.2.2.1 y.2.2.2.2.2.1/\LoopS kv op l j rb (cC kn al) (nJ kn al r) y.2.2.2.2.1 y.2.2.2.2.2.1 y.1 y.2.1 y.2.2.1 y.2.2.2.1) (fun y=>y.1) (n0,r0,g1,[x],O3,w3,lv) (⟨g5,b3,I0 _,b4,d9,h8,h5⟩) ?_;rintro⟨n,r1,ts,xs,O4,w4,a0⟩ ⟨d0,a4,a8,a1,e1,e4,f5⟩;dsimp only at d0 a4 a8 a1 e1 e4 f5 ⊢
 rcases f5 with⟨a',e8,h0,h2,e',g8,g0⟩|⟨p,e,a,e5,hM,he,a',d6,d5,d4,d3⟩
 ·have d1:=(aY r1).trans e8;have g9:=da r1;obtain⟨m,rfl⟩:∃m,n=m+1:=⟨n-1,zo⟩
  have c8:cC kn al (m+1) ts r1=if(ar r1).headD 0=124 then((BH kn al (ar r1).tail).andThen fun t r2=>cC kn al m (ts++[t]) r2)else .ok (oneM 5 ts) (ar r1):=rfl
  refine zh ?_;refine zvH (RV.ld a'.r5 rfl) ?_
  refine aw (d:=12) rfl (b':=true) (rfl) ?_;refine zh ?_
  refine zc Kj (fK O4 w4 j rb l r1 op 0 0 hj e8 zo a') ?_;rintro v w5 ⟨rfl,b5,b9⟩;have e6:=d0.upd b9 zo zo;have a6:=a4.upd b9 zo zo;have f7:=e4.upd b9;have b6:=e1.trans (b9.pj a5);have e7:∀i,i<xs.length->Nt O4 w5 (nth ts i) (nth xs i):=fun i hi=>(g8 i hi).upd b9
  refine zh ?_
  by_cases hc:(ar r1).headD 0=124
  ·rw[if_pos hc]at c8;obtain⟨k1,k2⟩:=bT (r:=ar r1) (by rw[hc];decide);have hq4l:=d1.length_le;refine zTH rfl ((by rw[hc];rfl)) ?_;refine zvH (RV.ld b5.r1 rfl) ?_;refine aj (j:=1) b5 rfl (Jg _) rfl rfl rfl rfl ?_;rw[show((l.length:Int)-((ar r1).length:Int))+1=(l.length:Int)-((ar r1).tail.length:Int)from by omega];have hb5a:=BlkO.rAt b5 ((l.length:Int)-((ar r1).tail.length:Int));have hU5a:IK (fun k=>k=j) O4 w5 O4 (IJ w5 ⟨rb,1,none⟩ (nI ((l.length:Int)-((ar r1).tail.length:Int)))):=IU (fun e=>hj e.symm) (II b5) rfl;have hx5a:=e6.upd hU5a zo zo;have hrow5a:=a6.upd hU5a zo zo;have hR5a:=f7.upd hU5a;have hUt5a:=b6.trans (hU5a.pj a5);generalize IJ w5 ⟨rb,1,none⟩ (nI ((l.length:Int)-((ar r1).tail.length:Int)))=w5a at *;refine zh ?_;refine zc call197 (zJ al op e9 ha hg B O4 j rb l (ar r1).tail w5a hR5a hj (k1.trans d1) hl trivial hb5a (f3.upd hUt5a)) ?_;rintro v w6 ⟨x6,rfl,b8,f9⟩;have b0:=f9.one;have g4:=hx5a.upd b8 zo zo;have b2:=hrow5a.upd b8 zo zo;have h7:=hR5a.upd b8;have d8:=hUt5a.trans (b8.pj a5);refine LW elN b2 h7 (x6) (fun _=>rfl) rfl rfl rfl (nt b0) zo zo zo zd rfl rfl ?_;intro g3 w7 O7 b1 e0 h6;obtain⟨n',r',g2,h1,h4⟩:=LoopS.next (F:=cC kn al) f9 (jE (kn:=kn) hg _) (k1.trans d1) zo h0 h2 e' (fun i hi=>((e7 i hi).upd hU5a).upd b8) g0 c8;refine zh ?_
   refine zx (n',r',g2,xs++[x6],O7,w7,g3) (⟨g4.upd e0 zo zo,b1,by simp,fun i hi=>?_,d8.trans (e0.pT hj a5 (J7 _)),h6,h4.upd e0 hj zo⟩) (h1);simp only[J4,Jl]at hi
   by_cases e:i<xs.length
   ·rw[aC (by simp;omega),IL e,<-aC e];exact a1 i e
   obtain rfl:i=xs.length:=zo;rw[aC (by simp)];simpa using b0
  rw[if_neg hc]at c8;refine zFH rfl ((gI _ 124 zd hc)) ?_;refine zc LD (qk 5 xs a0 w5 a6.sl a1) ?_;rintro v wo ⟨rfl,c5⟩;have a7:IK (fun _=>False) O4 w5 O4 wo:=aa (fun h=>h) O4 c5;have a2:=IG e6 a7 zo (fun h=>h);have a3:=KM a6 a7 zo (fun h=>h);have f6:=Ld f7 a7;have c6:(if xs.length=1 then nth xs 0 else(5,0,a0):N3).2.2.oneCell'=true:=by
   split
   ·exact a1 0 zo
   exact a3.one
  refine zsb (us:=#[nI (if xs.length=1 then nth xs 0 else(5,0,a0):N3).1,nI (if xs.length=1 then nth xs 0 else(5,0,a0):N3).2.1,(if xs.length=1 then nth xs 0 else(5,0,a0):N3).2.2]) a2 (ix _) (bX c6) ?_;have c':=IE (us:=#[nI (if xs.length=1 then nth xs 0 else(5,0,a0):N3).1,nI (if xs.length=1 then nth xs 0 else(5,0,a0):N3).2.1,(if xs.length=1 then nth xs 0 else(5,0,a0):N3).2.2]) a2;have a9:IK (fun k=>k=T) O4 wo O4 (I8 wo xb #[nI (if xs.length=1 then nth xs 0 else(5,0,a0):N3).1,nI (if xs.length=1 then nth xs 0 else(5,0,a0):N3).2.1,(if xs.length=1 then nth xs 0 else(5,0,a0):N3).2.2]):=I3 zo (II a2) rfl;have d7:=b6.trans (iQ O4 c5 hj a5);have c7:=d7.trans (a9.pT hj a5 (I0 _));refine zh ?_
  refine aL rfl rfl (c'.cellsAdd) (I2 _) (ix _) (⟨(if xs.length=1 then nth xs 0 else(5,0,a0)),rfl,c7.priv hT hj,?_⟩);have d2:=(IG b5 a7 hj (fun h=>h)).upd a9 hj zo;rw[<-g0,c8];exact⟨d2.fgt h.tag,Nt.oneM (a3.upd a9 zo zo) (J7 T) a5 hT (f6.upd a9) c7 e' (fun i hi=>((e7 i hi).upd a7).upd a9) a8⟩
 replace a':J5 O4 w4 j rb (rdr kv l a e5 ((l.length:Int)-(p:Int)) e) 250:=a';refine zh ?_;refine zvH (RV.ld a'.r5 rfl) ?_;refine aw (d:=12) rfl (b':=false) ((by simpa using he)) ?_;refine zh ?_;refine zFH rfl rfl ?_;refine zc LD (qk 5 xs a0 w4 a4.sl a1) ?_;rintro v wo ⟨rfl,c5⟩;have a7:IK (fun _=>False) O4 w4 O4 wo:=aa (fun h=>h) O4 c5;have a2:=IG d0 a7 zo (fun h=>h);have a3:=KM a4 a7 zo (fun h=>h);have f6:=Ld e4 a7;have c6:(if xs.length=1 then nth xs 0 else(5,0,a0):N3).2.2.oneCell'=true:=by
  split
  ·exact a1 0 zo
  exact a3.one
 refine zsb (us:=#[nI (if xs.length=1 then nth xs 0 else(5,0,a0):N3).1,nI (if xs.length=1 then nth xs 0 else(5,0,a0):N3).2.1,(if xs.length=1 then nth xs 0 else(5,0,a0):N3).2.2]) a2 (ix _) (bX c6) ?_;have c':=IE (us:=#[nI (if xs.length=1 then nth xs 0 else(5,0,a0):N3).1,nI (if xs.length=1 then nth xs 0 else(5,0,a0):N3).2.1,(if xs.length=1 then nth xs 0 else(5,0,a0):N3).2.2]) a2;have a9:IK (fun k=>k=T) O4 wo O4 (I8 wo xb #[nI (if xs.length=1 then nth xs 0 else(5,0,a0):N3).1,nI (if xs.length=1 then nth xs 0 else(5,0,a0):N3).2.1,(if xs.length=1 then nth xs 0 else(5,0,a0):N3).2.2]):=I3 zo (II a2) rfl;have d7:=e1.trans (iQ O4 c5 hj a5);have c7:=d7.trans (a9.pT hj a5 (I0 _));refine zh ?_
 refine aL rfl rfl (c'.cellsAdd) (I2 _) (ix _) (⟨(if xs.length=1 then nth xs 0 else(5,0,a0)),rfl,c7.priv hT hj,?_⟩);have d2:=(IG a' a7 hj (fun h=>h)).upd a9 hj zo;rw[hM];exact⟨c6,a,e5,d2.fgt h.tag,d6,d5,d4,d3⟩
theorem pI:∀(d:Nat),d<=20->Reads kv kn 152 [] (20-(d:Int)) (uZ kn d) (fun _=>True)
 |0,h=>xu none _ zo (show(20:Int)-((0:Nat):Int)=20 by omega) (fun f e=>by cases e)
 |d+1,h=>by
  have ih:=pI d zo;rw[show(20:Int)-(d:Int)=(20-((d+1:Nat):Int))+1 from by omega]at ih;exact xu (some (uZ kn d)) _ zo ⟨zo,ih⟩ (fun f e r=>by cases e;exact iy (kn:=kn) d r)
end
end Go.Proofs.YteolbhblkgjbhaaGreatDoor
section
namespace Go.VL
def mix(A C:Nat->Nat)(b:Nat):Nat:=if A b=0 then C b else A b
theorem DU{A C:Nat->Nat}{b i:Nat}(h:A b=i)(hi:i≠0):mix A C b=i:=by unfold mix;rw[if_neg zo];exact h
theorem GQ{A C:Nat->Nat}{b:Nat}(h:mix A C b=0):C b=0:=by
 unfold mix at h
 split at h
 ·exact h
 rename_i h1;exact absurd h h1
theorem Rng.mix{B:Nat}{A C:Nat->Nat}{w:ln}(h:Km B A w)(k:Km B C w):Km B (mix A C) w:=⟨h.le,fun b hb=>by
 unfold VL.mix at hb
 split at hb
 ·exact k.rng b hb
 rename_i h1;exact h.rng b h1⟩
end Go.VL
namespace Go.Proofs.YteolbhblkgjbhaaGreatDoor
open Go.VL Go.Proofs
set_option maxRecDepth 10000
variable{kn:Kn}
def PostX(O:Nat->Nat)(w:ln)(v:I1):XR->Prop
 |.ok t=>∃x,v=.tuple #[nv x,nI 0,nI 0]/\Nt O w t x
 |.bad p e=>v=.tuple #[nv (0,0,nS),nI (p:Int),nI e]/\e≠0
theorem GK:cF IZ 248 #[(0,1),(1,1)]:=⟨_,underlying248,fun w=>by kernel_rfl⟩
theorem GJ:cF IZ 250 #[(0,2),(2,1),(3,1),(4,1),(5,1)]:=⟨_,underlying250,fun w=>by kernel_rfl⟩
theorem kL(kv:I1)(l:List UInt8)(B:Nat)(O O':Nat->Nat)(w:ln)(h4:Km B O w)(hR:Km B O' w)(d4:Known O' w kv kn):JW IZ 111 [.string (bs l),kv] w fun v w'=>JA w w'/\PostX O w' v (eV kn l):=by
 obtain⟨T,h8,hT⟩:=hR.bound;have a0:¬(fun q:Nat=>T<=q) 0:=fun e=>zo
 have hA:=pI (kv:=kv) (kn:=kn) 20 (I0 _);rw[show(20:Int)-((20:Nat):Int)=0 from by omega]at hA;have b5:=iy (kn:=kn) 20 l;obtain⟨ms,e3⟩:=d4;obtain⟨qa,qc,g0,_⟩:=e3.1.shape;replace d4:Known O' w kv kn:=⟨ms,e3⟩
 subst g0;refine I6 func111 ntmps111 rfl rfl ?_;refine zh ?_;refine au hR T zo (I5 _) rfl ?_;intro xb w1 O1 c9 h0 h3 i1;have b9:IK (fun q=>T<=q) O' w O1 w1:=h0.mono (fun _ h=>Ji h.symm) a0;refine zh ?_;refine zvH (bW IW rfl) ?_
 by_cases hl:4096<l.length
 ·have hM:eV kn l=.bad 0 3:=by unfold eV;rw[if_pos hl]
  rw[hM];refine zTH rfl ((decide_eq_true zo)) ?_;refine zv (aF kK (I5 _) rfl (by first|rfl|(simp only[IF,IR];rfl)) rfl rfl) ?_;refine zsa (us:=#[nI 0,nI 0,nS]) c9 (ix _) ?_;have a7:=IE (us:=#[nI 0,nI 0,nS]) c9;have a3:IK (fun k=>k=T) O1 w1 O1 (I8 w1 xb #[nI 0,nI 0,nS]):=I3 zo (II c9) rfl;refine zh ?_;refine cj rfl rfl rfl rfl a7.cellsAdd (I2 _) (ix _) ⟨bD (b9.trans (a3.mono (fun _ h=>Ji h.symm) a0)) (fun b=>by have:=hT b;omega),rfl,zd⟩
 refine zFH rfl ((decide_eq_false zo)) ?_;refine zvH (aF GK (zeroValue248 _) rfl (by first|rfl|(simp only[IF,IR];rfl)) rfl rfl) ?_
 refine zv (RV.build (cells:=rdr (.slice qa ms.length qc) l 0 0 0 0) GJ (zeroValue250 _) rfl rfl) ?_;refine aH h3 (T+1) zo rfl rfl ?_
 intro rb w2 O2 d5 e5 e7 i0;have g7:Rdr (.slice qa ms.length qc) O2 w2 (T+1) rb l ((l.length:Int)-(l.length:Int)) 0 0 0:=by
  rw[show(l.length:Int)-(l.length:Int)=0 from by omega];exact d5
 have f7:=c9.upd e5 zo zo;have b8:=b9.trans (e5.mono (fun _ h=>by rw[h];omega) a0);refine zh ?_;refine zc call152 (hA B O2 (T+1) rb l l w2 e7 zo (K8 l) zo trivial g7 (d4.upd b8)) ?_;rintro v w3 ⟨x,rfl,d',e8⟩;have f4:=e8.one;have f6:=f7.upd d' zo zo;have e6:=e7.upd d';have d8:=b8.trans (d'.mono (fun _ h=>by rw[h];omega) a0);refine au e6 (T+2) zo (I5 _) rfl ?_;intro nb w4 O4 d3 g' h9 h';refine zsb (us:=#[nI x.1,nI x.2.1,x.2.2]) d3 (ix _) (bX f4) ?_;have f':=d3.setRow (us:=#[nI x.1,nI x.2.1,x.2.2]);have g9:IK (fun k=>k=T+2) O4 w4 O4 (w4.setRow nb #[nI x.1,nI x.2.1,x.2.2]):=I3 zo d3.tag rfl;have a':=g'.trans g9;have c8:=f6.upd a' zo zo;have c':=e8.upd a' zo zo;have h2:=e6.upd a';have b7:=d8.trans (a'.mono (fun _ h=>by rw[h];omega) a0);generalize w4.setRow nb #[nI x.1,nI x.2.1,x.2.2]=w5 at *
 cases hf:uZ kn 20 l with
 |bad p e=>
  rw[hf]at b5 c';have hM:eV kn l=.bad (l.length-p) e:=by unfold eV;rw[if_neg hl,hf]
  have g6:=b5.1;have a8:=b5.2;obtain⟨g1,a,e',a6,g2,g3,g4,g5⟩:=c';replace a6:J5 O4 w5 (T+1) rb (rdr (.slice qa ms.length qc) l a e' ((l.length:Int)-(p:Int)) e) 250:=a6;rw[hM];refine zh ?_;refine zvH (RV.ld a6.r5 rfl) ?_;refine aw (d:=25) rfl (b':=false) ((by simpa using a8)) ?_;refine zh ?_;refine zFH rfl rfl ?_;refine zvH (RV.ld a6.r5 rfl) ?_;refine aw (d:=44) rfl (b':=false) ((by simpa using a8)) ?_;refine zh ?_;refine zFH rfl rfl ?_;refine zvH (RV.ld a6.r5 rfl) ?_;refine aS rfl ((by simpa using a8)) ?_;have a5:=Jm a6;refine zh ?_;refine aK (fun W=>W.cell? ⟨rb,4,none⟩=some (nI ((l.length:Int)-(p:Int)))/\W.cell? ⟨rb,5,none⟩=some (nI e)) 12 rfl zk ?_;refine zin ⟨a5.r4,a5.r5⟩ fun zS=>?_
  refine zr 0 rfl zS (fun _=>aF kK (I5 _) rfl (by first|rfl|(simp only[IF,IR];rfl)) rfl rfl) ?_;refine zrm 1 rfl zS rfl ?_
  refine zr 2 rfl zS (fun _=>ak rfl) ?_;refine zrf 3 rfl zS rfl ?_
  refine zt 4 rfl zS (fun w1 a4=>RV.ld a4.1 rfl) ?_;refine zrm 5 rfl zS rfl ?_
  refine zr 6 rfl zS (fun _=>ak rfl) ?_;refine zrf 7 rfl zS rfl ?_
  refine zt 8 rfl zS (fun w1 a4=>RV.ld a4.2 rfl) ?_;refine Jf 9 zk rfl ?_
  refine zsa (us:=#[nI 0,nI 0,nS]) (Jm c8) (ix _) ?_;have a7:=IE (us:=#[nI 0,nI 0,nS]) (Jm c8);have a3:IK (fun k=>k=T) O4 (JD w5) O4 (I8 (JD w5) xb #[nI 0,nI 0,nS]):=I3 zo (II c8) rfl;have b0:=IG a5 a3 zo zo;refine zh ?_
  refine zaf (⟨b0.r4,b0.r5⟩) fun zS=>?_
  refine zra 10 rfl zS rfl ?_;refine zra 11 rfl zS rfl ?_
  refine K6 zk ?_;refine zh ?_
  refine cj rfl rfl rfl rfl a7.cellsAdd (I2 _) (ix _) ⟨bD ((b7.drew).trans (a3.mono (fun _ h=>Ji h.symm) a0)) (fun b=>by have:=hT b;omega),?_⟩;exact⟨by rw[show(l.length:Int)-(p:Int)=((l.length-p:Nat):Int)from by omega];rfl,a8⟩
 |ok t r=>
  rw[hf]at b5 c';obtain⟨a6,d2⟩:=c';replace a6:J5 O4 w5 (T+1) rb (rdr (.slice qa ms.length qc) l ((l.length:Int)-(r.length:Int)) 0 0 0) 250:=a6;have hr:=b5.1;have hq:=(aY r).trans hr;have h7:=hq.length_le;refine zh ?_;refine zvH (RV.ld a6.r5 rfl) ?_;refine aw (d:=25) rfl (b':=true) (rfl) ?_;refine zh ?_;refine zc Kj (fK O4 w5 (T+1) rb l r 0 0 0 zo hr zo a6) ?_;rintro v w6 ⟨rfl,a9,c6⟩;have d0:=c8.upd c6 zo zo;have e2:=f'.upd c6 zo zo;have e0:=h2.upd c6;have b4:=d2.upd c6;have b1:=b7.trans (c6.mono (fun _ h=>by rw[h];omega) a0);refine zh ?_
  by_cases e1:(ar r).length=0
  ·have f8:ar r=[]:=IS e1;have e9:eV kn l=if 2000<nsz t then .bad 0 3 else .ok t:=by unfold eV;rw[if_neg hl,hf];dsimp only;rw[if_neg zo]
   refine zFH rfl ((by rw[f8];rfl)) ?_;refine zvH (RV.ld a9.r5 rfl) ?_
   refine aw (d:=44) rfl (b':=true) (rfl) ?_;refine zh ?_
   refine zvH (RV.ld a9.r1 rfl) ?_;refine zvH (bW IW rfl) ?_
   refine zFH rfl ((decide_eq_false zo)) ?_;refine zvH (RV.ld a9.r5 rfl) ?_
   refine zFH rfl rfl ?_;refine zv (ah (us:=bt x) e2.cellsAdd (I2 _) (ix _) rfl) ?_
   refine zc Md (pW (nsz t) t (I0 _) x w6 2000 b4.zero zo) ?_;rintro v w7 ⟨rfl,h6⟩;have b6:IK (fun _=>False) O4 w6 O4 w7:=aa (fun h=>h) O4 h6;have a2:=d0.upd b6 zo (fun h=>h);have f9:=e2.upd b6 zo (fun h=>h);have a1:=b1.trans (b6.mono (fun _ h=>h.elim) a0);have d1:=b4.upd b6;have h1:=e0.upd b6;refine zh ?_
   by_cases hz:2000<nsz t
   ·have hM:eV kn l=.bad 0 3:=by rw[e9,if_pos hz]
    rw[hM];refine zTH rfl ((decide_eq_true zo)) ?_;refine zv (aF kK (I5 _) rfl (by first|rfl|(simp only[IF,IR];rfl)) rfl rfl) ?_;refine zsa (us:=#[nI 0,nI 0,nS]) a2 (ix _) ?_;have a7:=IE (us:=#[nI 0,nI 0,nS]) a2;have a3:IK (fun k=>k=T) O4 w7 O4 (I8 w7 xb #[nI 0,nI 0,nS]):=I3 zo (II a2) rfl;refine zh ?_;refine cj rfl rfl rfl rfl a7.cellsAdd (I2 _) (ix _) ⟨bD (a1.trans (a3.mono (fun _ h=>Ji h.symm) a0)) (fun b=>by have:=hT b;omega),rfl,zd⟩
   have hM:eV kn l=.ok t:=by rw[e9,if_neg hz]
   rw[hM];refine zFH rfl ((decide_eq_false zo)) ?_;refine zv (ah (us:=bt x) f9.cellsAdd (I2 _) (ix _) rfl) ?_;refine zc Mc (sU (nsz t) zo t (I0 _) B (mix O4 O) x w7 (h1.mix (h4.ext (bD a1 (fun b=>by have:=hT b;omega)))) d1.zero) ?_;rintro v w8 ⟨y,rfl,b3,h5⟩;have e4:IK (fun _=>False) O4 w7 O4 w8:=aa (fun h=>h) O4 h5;have c7:=a2.upd e4 zo (fun h=>h);have d7:=a1.trans (e4.mono (fun _ h=>h.elim) a0);have f3:=b3.one;refine zsb (us:=#[nI y.1,nI y.2.1,y.2.2]) c7 (ix _) (bX f3) ?_;have f5:=c7.setRow (us:=#[nI y.1,nI y.2.1,y.2.2]);have g8:IK (fun k=>k=T) O4 w8 O4 (w8.setRow xb #[nI y.1,nI y.2.1,y.2.2]):=I3 zo c7.tag rfl;have d9:IK (fun k=>k=T) (mix O4 O) w8 (mix O4 O) (w8.setRow xb #[nI y.1,nI y.2.1,y.2.2]):=I3 zo (DU c7.tag zo) rfl;have d6:=d7.trans (g8.mono (fun _ h=>Ji h.symm) a0);refine zh ?_;refine cj rfl rfl rfl rfl f5.cellsAdd (I2 _) (ix _) ⟨bD d6 (fun b=>by have:=hT b;omega),y,rfl,(b3.upd d9).weak (fun b hb=>GQ hb)⟩
  have hM:eV kn l=.bad (l.length-(ar r).length) 4:=by unfold eV;rw[if_neg hl,hf];dsimp only;rw[if_pos e1]
  rw[hM]
  by_cases hc:(ar r).headD 0=0
  ·refine zFH rfl ((by rw[hc];rfl)) ?_;refine zvH (RV.ld a9.r5 rfl) ?_
   refine aw (d:=44) rfl (b':=true) (rfl) ?_;refine zh ?_
   refine zvH (RV.ld a9.r1 rfl) ?_;refine zvH (bW IW rfl) ?_
   refine zTH rfl ((decide_eq_true zo)) ?_;refine zv (RV.ld a9.r1 rfl) ?_
   refine zc Ki (fX _ O4 w6 (T+1) rb l _ _ 0 ((l.length:Int)-((ar r).length:Int)) 4 zo e0 a9) ?_;rintro v w7 ⟨_,b2,c5⟩;have a2:=d0.upd c5 zo zo;have a1:=b1.trans (c5.mono (fun _ h=>by rw[h];omega) a0);refine zh ?_
   refine zvH (RV.ld b2.r5 rfl) ?_;refine aS rfl rfl ?_
   have a5:=Jm b2;refine zh ?_;refine aK (fun W=>W.cell? ⟨rb,4,none⟩=some (nI ((l.length:Int)-((ar r).length:Int)))/\W.cell? ⟨rb,5,none⟩=some (nI 4)) 12 rfl zk ?_;refine zin ⟨a5.r4,a5.r5⟩ fun zS=>?_
   refine zr 0 rfl zS (fun _=>aF kK (I5 _) rfl (by first|rfl|(simp only[IF,IR];rfl)) rfl rfl) ?_;refine zrm 1 rfl zS rfl ?_
   refine zr 2 rfl zS (fun _=>ak rfl) ?_;refine zrf 3 rfl zS rfl ?_
   refine zt 4 rfl zS (fun w1 a4=>RV.ld a4.1 rfl) ?_;refine zrm 5 rfl zS rfl ?_
   refine zr 6 rfl zS (fun _=>ak rfl) ?_;refine zrf 7 rfl zS rfl ?_
   refine zt 8 rfl zS (fun w1 a4=>RV.ld a4.2 rfl) ?_;refine Jf 9 zk rfl ?_
   refine zsa (us:=#[nI 0,nI 0,nS]) (Jm a2) (ix _) ?_;have a7:=IE (us:=#[nI 0,nI 0,nS]) (Jm a2);have a3:IK (fun k=>k=T) O4 (JD w7) O4 (I8 (JD w7) xb #[nI 0,nI 0,nS]):=I3 zo (II a2) rfl;have b0:=IG a5 a3 zo zo;refine zh ?_
   refine zaf (⟨b0.r4,b0.r5⟩) fun zS=>?_
   refine zra 10 rfl zS rfl ?_;refine zra 11 rfl zS rfl ?_
   refine K6 zk ?_;refine zh ?_
   refine cj rfl rfl rfl rfl a7.cellsAdd (I2 _) (ix _) ⟨bD ((a1.drew).trans (a3.mono (fun _ h=>Ji h.symm) a0)) (fun b=>by have:=hT b;omega),?_⟩;exact⟨by rw[show(l.length:Int)-((ar r).length:Int)=((l.length-(ar r).length:Nat):Int)from by omega];rfl,zd⟩
  refine zTH rfl ((uU _ 0 zd hc)) ?_;refine zv (RV.ld a9.r1 rfl) ?_
  refine zc Ki (fX _ O4 w6 (T+1) rb l _ _ 0 ((l.length:Int)-((ar r).length:Int)) 4 zo e0 a9) ?_;rintro v w7 ⟨_,b2,c5⟩;have a2:=d0.upd c5 zo zo;have a1:=b1.trans (c5.mono (fun _ h=>by rw[h];omega) a0);refine zh ?_
  refine zvH (RV.ld b2.r5 rfl) ?_;refine aw (d:=44) rfl (b':=false) (rfl) ?_
  refine zh ?_;refine zFH rfl rfl ?_
  refine zvH (RV.ld b2.r5 rfl) ?_;refine aS rfl rfl ?_
  have a5:=Jm b2;refine zh ?_;refine aK (fun W=>W.cell? ⟨rb,4,none⟩=some (nI ((l.length:Int)-((ar r).length:Int)))/\W.cell? ⟨rb,5,none⟩=some (nI 4)) 12 rfl zk ?_;refine zin ⟨a5.r4,a5.r5⟩ fun zS=>?_
  refine zr 0 rfl zS (fun _=>aF kK (I5 _) rfl (by first|rfl|(simp only[IF,IR];rfl)) rfl rfl) ?_;refine zrm 1 rfl zS rfl ?_
  refine zr 2 rfl zS (fun _=>ak rfl) ?_;refine zrf 3 rfl zS rfl ?_
  refine zt 4 rfl zS (fun w1 a4=>RV.ld a4.1 rfl) ?_;refine zrm 5 rfl zS rfl ?_
  refine zr 6 rfl zS (fun _=>ak rfl) ?_;refine zrf 7 rfl zS rfl ?_
  refine zt 8 rfl zS (fun w1 a4=>RV.ld a4.2 rfl) ?_;refine Jf 9 zk rfl ?_
  refine zsa (us:=#[nI 0,nI 0,nS]) (Jm a2) (ix _) ?_;have a7:=IE (us:=#[nI 0,nI 0,nS]) (Jm a2);have a3:IK (fun k=>k=T) O4 (JD w7) O4 (I8 (JD w7) xb #[nI 0,nI 0,nS]):=I3 zo (II a2) rfl;have b0:=IG a5 a3 zo zo;refine zh ?_
  refine zaf (⟨b0.r4,b0.r5⟩) fun zS=>?_
  refine zra 10 rfl zS rfl ?_;refine zra 11 rfl zS rfl ?_
  refine K6 zk ?_;refine zh ?_
  refine cj rfl rfl rfl rfl a7.cellsAdd (I2 _) (ix _) ⟨bD ((a1.drew).trans (a3.mono (fun _ h=>Ji h.symm) a0)) (fun b=>by have:=hT b;omega),?_⟩;exact⟨by rw[show(l.length:Int)-((ar r).length:Int)=((l.length-(ar r).length:Nat):Int)from by omega];rfl,zd⟩
end Go.Proofs.YteolbhblkgjbhaaGreatDoor
end
namespace Go.Proofs.YteolbhblkgjbhaaGreatDoor
mutual
def dk:Nd->Int | .mk k _ l=>if k=6\/k=7 then -1 else if k=9 then 0 else if k=4\/k=5\/k=8 then dm (k==4) 0 l else 1
def dm:Bool->Int->List Nd->Int
 |_,acc,[]=>acc
 |s,acc,t::r=>if dk t<0 then -1 else dm s (if s=true then acc+dk t else max acc (dk t)) r
end
mutual
def CD(q:Int):Nd->Bool | .mk k _ l=>(k==q)||D3 q l
def D3(q:Int):List Nd->Bool | []=>false|t::r=>CD q t||D3 q r
end
theorem CE(q:Int):∀(l:List Nd),iG (fun i=>CD q (nth l i)) l.length=D3 q l:=by
 intro l;rw[Lr,eF]
 induction l with
 |nil=>simp[D3]
 |cons t r ih=>
  simp only[D3,Bool.or_eq_true,<-ih,IQ]
  constructor
  ·rintro⟨i,hi,hq⟩
   cases i with
   |zero=>rw[ao]at hq;exact .inl hq
   |succ i=>rw[aI]at hq;exact .inr ⟨i,zo,hq⟩
  rintro(h|⟨i,hi,hq⟩)
  ·exact⟨0,zo,by rw[ao];exact h⟩
  exact⟨i+1,zo,by rw[aI];exact hq⟩
mutual
theorem mr:∀(t:Nd),dk t<=nsz t
 |.mk k c l=>by
  have h:=qq l (k==4) 0 (JR 0)
  unfold dk
  simp only[nsz]
  (repeat' split)<;>omega
theorem qq:∀(l:List Nd) (s:Bool) (acc:Int),0<=acc->dm s acc l<=acc+ez l
 |[],s,acc,h=>by simp[dm,ez]
 |t::r,s,acc,h=>by
  have h1:=mr t
  unfold dm
  simp only[ez]
  split
  ·omega
  split
  ·have h2:=qq r s (acc+dk t) zo
   omega
  have h2:=qq r s (max acc (dk t)) zo
  omega
end
theorem la{l:List Nd}{i:Nat}(h:i<l.length):l.drop i=nth l i::l.drop (i+1):=by
 rw[List.drop_eq_getElem_cons h,aC h]
theorem fQ:∀(n:Nat),n<=1000000->∀(t:Nd),nsz t<=n->∀(x:N3) (w:ln),Nt (fun _=>0) w t x->JW IZ 165 [nv x] w fun v w'=>v=nI (dk t)/\JA w w'
 |0,_,t,hn=>by have:=ew t;omega
 |n+1,hm,.mk k c kids,hn=>by
  intro x w h;have c9:=h.ones;obtain⟨xs,hs,hf,hl,hk⟩:=h.kids;simp only[KQ]at hl hk;simp only[nsz]at hn;have c':=ij kids;generalize x.2.2=sv at *;subst c9;simp only[LZ,M8];have hM:dk (.mk k c kids)=if k=6\/k=7 then -1 else if k=9 then 0 else if k=4\/k=5\/k=8 then dm (k==4) 0 kids else 1:=rfl
  rw[hM];refine I6 func165 ntmps165 rfl rfl ?_;refine zh ?_;refine aH (ay w) 1 zo rfl rfl ?_;intro xb w1 O1 b7 d0 d1 a4;have c0:w1.cell? (nA xb 0)=some (nI k):=b7.cell 0 rfl;have c2:w1.cell? (nA xb 2)=some sv:=b7.cell 2 rfl;have b6:=hs.ext a4;refine zh ?_
  by_cases h6:k=6
  ·subst h6;refine zTH rfl rfl ?_;refine zTH rfl rfl ?_;refine ae rfl rfl (⟨rfl,a4⟩)
  refine zFH rfl ((beq_eq_false_iff_ne.2 h6)) ?_
  by_cases h7:k=7
  ·subst h7;refine zTH rfl rfl ?_;refine ae rfl rfl (⟨rfl,a4⟩)
  rw[if_neg zo];refine zFH rfl ((beq_eq_false_iff_ne.2 h7)) ?_
  by_cases h9:k=9
  ·subst h9;refine zTH rfl rfl ?_;refine ae rfl rfl (⟨rfl,a4⟩)
  rw[if_neg h9];refine zFH rfl ((beq_eq_false_iff_ne.2 h9)) ?_
  by_cases h4:k=4
  ·subst h4;rw[if_pos zo];refine zTH rfl rfl ?_;refine zTH rfl rfl ?_;refine zlp (fun y:Nat×Int×ln=>[(2,nI 0),(3,nI y.2.1),(1,nP xb),(19,sv),(20,nI xs.length),(21,nI y.1)]) (fun y=>y.2.2) (fun y=>y.1<=xs.length/\0<=y.2.1/\y.2.1<=ez (kids.take y.1)/\dm ((4:Int)==4) y.2.1 (kids.drop y.1)=dm ((4:Int)==4) 0 kids/\JA w1 y.2.2) (fun y=>xs.length-y.1) (0,0,w1) (⟨J6 _,JR _,by simp[ez],rfl,Jd _⟩) ?_;rintro⟨i,a7,w2⟩ ⟨hi,b2,ha,hL,a3⟩;dsimp only at hi b2 ha hL a3 ⊢;have b0:=b6.ext a3;refine zh ?_;refine zC ?_ ?_
   ·intro a2;replace a2:i<xs.length:=dT a2;have a8:=(hk i a2).ext (a4.trans a3);have a':=a8.one;have c5:=cG kids i zo;have b9:=ey kids i zo;have b8:=cJ kids (i+1);have b':=mr (nth kids i);rw[la zo]at hL;have b4:dm ((4:Int)==4) a7 (nth kids i::kids.drop (i+1))=if dk (nth kids i)<0 then -1 else dm ((4:Int)==4) (if((4:Int)==4)=true then a7+dk (nth kids i)else max a7 (dk (nth kids i))) (kids.drop (i+1)):=rfl
    rw[b4]at hL;refine zh ?_;refine zv (ah (us:=bt (nth xs i)) (fun j u hu=>b0.cell a2 hu) (I2 _) (ix _) rfl) ?_;refine au (ay w2) 1 zo (I5 _) rfl ?_;intro kb w3 O3 a6 b3 c6 c7;refine zsb (us:=#[nI (nth xs i).1,nI (nth xs i).2.1,(nth xs i).2.2]) a6 (ix _) (bX a') ?_;have a5:=a6.setRow (us:=#[nI (nth xs i).1,nI (nth xs i).2.1,(nth xs i).2.2]);have a9:JA w2 (w3.setRow kb #[nI (nth xs i).1,nI (nth xs i).2.1,(nth xs i).2.2]):=(b3.trans (I3 zd a6.tag rfl)).ext;generalize w3.setRow kb #[nI (nth xs i).1,nI (nth xs i).2.1,(nth xs i).2.2]=w4 at *;refine zh ?_;refine zv (ah (us:=bt (nth xs i)) a5.cellsAdd (I2 _) (ix _) rfl) ?_;refine zc LF (fQ n zo (nth kids i) zo (nth xs i) w4 (a8.ext a9)) ?_;rintro v w5 ⟨rfl,b5⟩;have a1:=(a3.trans a9).trans b5;have c8:w5.cell? (nA xb 0)=some (nI 4):=a1.cell c0;refine zh ?_
    by_cases a0:dk (nth kids i)<0
    ·rw[if_pos a0]at hL;refine zTH rfl ((decide_eq_true a0)) ?_;refine ae rfl rfl (⟨by rw[<-hL],a4.trans a1⟩)
    rw[if_neg a0]at hL;refine zFH rfl ((decide_eq_false a0)) ?_;refine zTH rfl rfl ?_;refine zxd (i+1,_,w5) (⟨a2,by dsimp only;omega,by dsimp only;omega,hL,a1⟩)
   intro b1;obtain rfl:i=xs.length:=dF b1;rw[JI zo]at hL;refine zh ?_;refine ae rfl rfl (⟨by rw[<-hL];rfl,a4.trans a3⟩)
  refine aT rfl ((beq_eq_false_iff_ne.2 h4)) ?_;have hk4b:(k==4)=false:=beq_eq_false_iff_ne.2 h4;refine zh ?_
  by_cases h5:k=5
  ·subst h5;rw[if_pos zo];refine zTH rfl rfl ?_;refine zTH rfl rfl ?_;refine zlp (fun y:Nat×Int×ln=>[(2,nI 0),(3,nI y.2.1),(1,nP xb),(19,sv),(20,nI xs.length),(21,nI y.1)]) (fun y=>y.2.2) (fun y=>y.1<=xs.length/\0<=y.2.1/\y.2.1<=ez (kids.take y.1)/\dm ((5:Int)==4) y.2.1 (kids.drop y.1)=dm ((5:Int)==4) 0 kids/\JA w1 y.2.2) (fun y=>xs.length-y.1) (0,0,w1) (⟨J6 _,JR _,by simp[ez],rfl,Jd _⟩) ?_;rintro⟨i,a7,w2⟩ ⟨hi,b2,ha,hL,a3⟩;dsimp only at hi b2 ha hL a3 ⊢;have b0:=b6.ext a3;refine zh ?_;refine zC ?_ ?_
   ·intro a2;replace a2:i<xs.length:=dT a2;have a8:=(hk i a2).ext (a4.trans a3);have a':=a8.one;have c5:=cG kids i zo;have b9:=ey kids i zo;have b8:=cJ kids (i+1);have b':=mr (nth kids i);rw[la zo]at hL;have b4:dm ((5:Int)==4) a7 (nth kids i::kids.drop (i+1))=if dk (nth kids i)<0 then -1 else dm ((5:Int)==4) (if((5:Int)==4)=true then a7+dk (nth kids i)else max a7 (dk (nth kids i))) (kids.drop (i+1)):=rfl
    rw[b4]at hL;refine zh ?_;refine zv (ah (us:=bt (nth xs i)) (fun j u hu=>b0.cell a2 hu) (I2 _) (ix _) rfl) ?_;refine au (ay w2) 1 zo (I5 _) rfl ?_;intro kb w3 O3 a6 b3 c6 c7;refine zsb (us:=#[nI (nth xs i).1,nI (nth xs i).2.1,(nth xs i).2.2]) a6 (ix _) (bX a') ?_;have a5:=a6.setRow (us:=#[nI (nth xs i).1,nI (nth xs i).2.1,(nth xs i).2.2]);have a9:JA w2 (w3.setRow kb #[nI (nth xs i).1,nI (nth xs i).2.1,(nth xs i).2.2]):=(b3.trans (I3 zd a6.tag rfl)).ext;generalize w3.setRow kb #[nI (nth xs i).1,nI (nth xs i).2.1,(nth xs i).2.2]=w4 at *;refine zh ?_;refine zv (ah (us:=bt (nth xs i)) a5.cellsAdd (I2 _) (ix _) rfl) ?_;refine zc LF (fQ n zo (nth kids i) zo (nth xs i) w4 (a8.ext a9)) ?_;rintro v w5 ⟨rfl,b5⟩;have a1:=(a3.trans a9).trans b5;have c8:w5.cell? (nA xb 0)=some (nI 5):=a1.cell c0;refine zh ?_
    by_cases a0:dk (nth kids i)<0
    ·rw[if_pos a0]at hL;refine zTH rfl ((decide_eq_true a0)) ?_;refine ae rfl rfl (⟨by rw[<-hL],a4.trans a1⟩)
    rw[if_neg a0]at hL;refine zFH rfl ((decide_eq_false a0)) ?_;refine zFH rfl rfl ?_;refine zvH (jq rfl rfl) ?_;refine zxd (i+1,_,w5) (⟨a2,by dsimp only;omega,by dsimp only;omega,hL,a1⟩)
   intro b1;obtain rfl:i=xs.length:=dF b1;rw[JI zo]at hL;refine zh ?_;refine ae rfl rfl (⟨by rw[<-hL];rfl,a4.trans a3⟩)
  refine zFH rfl ((beq_eq_false_iff_ne.2 h5)) ?_
  by_cases h8:k=8
  ·subst h8;rw[if_pos zo];refine zTH rfl rfl ?_;refine zlp (fun y:Nat×Int×ln=>[(2,nI 0),(3,nI y.2.1),(1,nP xb),(19,sv),(20,nI xs.length),(21,nI y.1)]) (fun y=>y.2.2) (fun y=>y.1<=xs.length/\0<=y.2.1/\y.2.1<=ez (kids.take y.1)/\dm ((8:Int)==4) y.2.1 (kids.drop y.1)=dm ((8:Int)==4) 0 kids/\JA w1 y.2.2) (fun y=>xs.length-y.1) (0,0,w1) (⟨J6 _,JR _,by simp[ez],rfl,Jd _⟩) ?_;rintro⟨i,a7,w2⟩ ⟨hi,b2,ha,hL,a3⟩;dsimp only at hi b2 ha hL a3 ⊢;have b0:=b6.ext a3;refine zh ?_;refine zC ?_ ?_
   ·intro a2;replace a2:i<xs.length:=dT a2;have a8:=(hk i a2).ext (a4.trans a3);have a':=a8.one;have c5:=cG kids i zo;have b9:=ey kids i zo;have b8:=cJ kids (i+1);have b':=mr (nth kids i);rw[la zo]at hL;have b4:dm ((8:Int)==4) a7 (nth kids i::kids.drop (i+1))=if dk (nth kids i)<0 then -1 else dm ((8:Int)==4) (if((8:Int)==4)=true then a7+dk (nth kids i)else max a7 (dk (nth kids i))) (kids.drop (i+1)):=rfl
    rw[b4]at hL;refine zh ?_;refine zv (ah (us:=bt (nth xs i)) (fun j u hu=>b0.cell a2 hu) (I2 _) (ix _) rfl) ?_;refine au (ay w2) 1 zo (I5 _) rfl ?_;intro kb w3 O3 a6 b3 c6 c7;refine zsb (us:=#[nI (nth xs i).1,nI (nth xs i).2.1,(nth xs i).2.2]) a6 (ix _) (bX a') ?_;have a5:=a6.setRow (us:=#[nI (nth xs i).1,nI (nth xs i).2.1,(nth xs i).2.2]);have a9:JA w2 (w3.setRow kb #[nI (nth xs i).1,nI (nth xs i).2.1,(nth xs i).2.2]):=(b3.trans (I3 zd a6.tag rfl)).ext;generalize w3.setRow kb #[nI (nth xs i).1,nI (nth xs i).2.1,(nth xs i).2.2]=w4 at *;refine zh ?_;refine zv (ah (us:=bt (nth xs i)) a5.cellsAdd (I2 _) (ix _) rfl) ?_;refine zc LF (fQ n zo (nth kids i) zo (nth xs i) w4 (a8.ext a9)) ?_;rintro v w5 ⟨rfl,b5⟩;have a1:=(a3.trans a9).trans b5;have c8:w5.cell? (nA xb 0)=some (nI 8):=a1.cell c0;refine zh ?_
    by_cases a0:dk (nth kids i)<0
    ·rw[if_pos a0]at hL;refine zTH rfl ((decide_eq_true a0)) ?_;refine ae rfl rfl (⟨by rw[<-hL],a4.trans a1⟩)
    rw[if_neg a0]at hL;refine zFH rfl ((decide_eq_false a0)) ?_;refine zFH rfl rfl ?_;refine zvH (jq rfl rfl) ?_;refine zxd (i+1,_,w5) (⟨a2,by dsimp only;omega,by dsimp only;omega,hL,a1⟩)
   intro b1;obtain rfl:i=xs.length:=dF b1;rw[JI zo]at hL;refine zh ?_;refine ae rfl rfl (⟨by rw[<-hL];rfl,a4.trans a3⟩)
  rw[if_neg zo];refine zFH rfl ((beq_eq_false_iff_ne.2 h8)) ?_;refine ae rfl rfl (⟨rfl,a4⟩)
def uw(t:Nd):Int:=if bn t=true then max (dk t) 0 else 0
def uy(t:Nd):Bool:=bn t&&decide (0<=dk t)
theorem oi(t:Nd)(x:N3)(w:ln)(h:Nt (fun _=>0) w t x):JW IZ 122 [nv x] w fun v w'=>v=.tuple #[nI (uw t),.bool (uy t)]/\JA w w':=by
 refine I6 func122 ntmps122 rfl rfl ?_;refine zh ?_
 refine aH (ay w) 1 zo rfl rfl ?_;intro xb w1 O1 a3 a5 a6 a1;have a2:∀W,JA w1 W->∀(j:Nat) (u:I1),(bt x)[j]? = some u->W.cell? (nA xb j)=some u:=fun W hE j u hu=>hE.cell (a3.cellsAdd j u hu)
 refine zh ?_;refine zv (ah (us:=bt x) (a2 w1 (Jd _)) (I2 _) (ix _) rfl) ?_
 refine zc Mk (fh t x w1 (h.ext a1)) ?_;rintro v w2 ⟨rfl,a0⟩;refine zh ?_
 cases hr:bn t with
 |false=>
  refine zTH rfl rfl ?_;refine bH rfl rfl rfl (⟨by simp[uw,uy,hr],a1.trans a0⟩)
 |true=>
  have hz:nsz t<=2000:=by
   simp only[bn,IV,decide_eq_true_eq]at hr;exact hr.1
  refine zFH rfl rfl ?_;refine zv (ah (us:=bt x) (a2 w2 a0) (I2 _) (ix _) rfl) ?_
  refine zc LF (fQ (nsz t) zo t (I0 _) x w2 (h.ext (a1.trans a0))) ?_;rintro v w3 ⟨rfl,a4⟩;refine zh ?_
  refine zvH (jq rfl rfl) ?_;refine bH rfl rfl rfl (⟨by simp[uw,uy,hr],(a1.trans a0).trans a4⟩)
theorem D4{b:Bool}{q:Int}{t:Nd}{kb:Nat}(ih:∀(y:N3) (W:ln),Nt (fun _=>0) W t y->JW IZ 166 [nv y,nI q] W fun v w'=>v=.bool b/\JA W w')(x:N3)(w:ln)(h:Nt (fun _=>0) w t x)(hq:w.cell? ⟨kb,0,none⟩=some (nI q)):
  JW IZ 222 [nv x,nP kb] w fun v w'=>v=.bool b/\JA w w':=by
 refine I6 func222 ntmps222 rfl rfl ?_;refine zh ?_
 refine aH (ay w) 1 zo rfl rfl ?_;intro xb w1 O1 a1 a4 a5 a0;have a3:=a0.cell hq;refine zh ?_
 refine zvH (ah (us:=bt x) a1.cellsAdd (I2 _) (ix _) rfl) ?_;refine zc call166 (ih x w1 (h.ext a0)) ?_
 rintro v w2 ⟨rfl,a2⟩;refine zh ?_;refine ae rfl rfl (⟨rfl,a0.trans a2⟩)
theorem AQ:∀(n:Nat) (t:Nd),nsz t<=n->∀(x:N3) (w:ln) (q:Int),Nt (fun _=>0) w t x->JW IZ 166 [nv x,nI q] w fun v w'=>v=.bool (CD q t)/\JA w w'
 |0,t,hn=>by have:=ew t;omega
 |n+1,.mk k c kids,hn=>by
  intro x w q h;have a6:=h.ones;obtain⟨xs,hs,hf,hl,hk⟩:=h.kids;simp only[KQ]at hl hk;simp only[nsz]at hn;generalize x.2.2=sv at *;subst a6;simp only[LZ,M8];have hM:CD q (.mk k c kids)=((k==q)||D3 q kids):=rfl;rw[hM];refine I6 func166 ntmps166 rfl rfl ?_;refine zh ?_;refine aH (ay w) 1 zo rfl rfl ?_;intro xb w1 O1 a5 b1 a9 b0;refine aH a9 2 zo rfl rfl ?_;intro kb w2 O2 a7 a8 b2 a';have a3:=a5.upd a8 zd zd;have a0:=b0.trans a';have c0:w2.cell? (nA xb 0)=some (nI k):=a3.cell 0 rfl;have c2:w2.cell? (nA xb 2)=some sv:=a3.cell 2 rfl;have cq:w2.cell? ⟨kb,0,none⟩=some (nI q):=a7.cell 0 rfl;refine zh ?_;refine cD (JA w2) (D3 q kids) 4 (Jd _) rfl rfl rfl rfl rfl ?_ ?_
  ·intro a1;refine zh ?_;refine zvH (du rfl rfl) ?_;refine zc call163 (cH call222 #[nP kb] xs sv (fun i=>CD q (nth kids i)) w2 (hs.ext a0) (fun i hi w' hE=>D4 (fun y W hy=>AQ n (nth kids i) (by have:=cG kids i (zo);omega) y W q hy) (nth xs i) w' ((hk i hi).ext (a0.trans hE)) (hE.cell cq))) ?_;have a4:=CE q kids;rw[hl]at a4;rw[a4];rintro v w3 ⟨rfl,a2⟩;refine zh ?_;refine nE 9 5 (a2) a1
  intro w3 a2;refine zh ?_;refine ae rfl rfl (⟨rfl,a0.trans a2⟩)
theorem yj(t:Nd)(q:Int)(x:N3)(w:ln)(h:Nt (fun _=>0) w t x):JW IZ 123 [nv x,nI q] w fun v w'=>v=.bool (bn t&&CD q t)/\JA w w':=by
 refine I6 func123 ntmps123 rfl rfl ?_;refine zh ?_
 refine aH (ay w) 1 zo rfl rfl ?_;intro xb w1 O1 a5 a6 a7 a3;have a4:∀W,JA w1 W->∀(j:Nat) (u:I1),(bt x)[j]? = some u->W.cell? (nA xb j)=some u:=fun W hE j u hu=>hE.cell (a5.cellsAdd j u hu)
 refine zh ?_;refine zv (ah (us:=bt x) (a4 w1 (Jd _)) (I2 _) (ix _) rfl) ?_
 refine zc Mk (fh t x w1 (h.ext a3)) ?_;rintro v w2 ⟨rfl,a0⟩;refine zh ?_
 refine bK (JA w1) (CD q t) 3 (a0) rfl rfl rfl rfl rfl ?_ ?_
 ·intro a1;refine zh ?_;refine zvH (ah (us:=bt x) (a4 _ a0) (I2 _) (ix _) rfl) ?_;refine zc call166 (AQ (nsz t) t (I0 _) x _ q (h.ext (a3.trans a0))) ?_;rintro v w3 ⟨rfl,a2⟩;refine zh ?_;refine nE 7 4 (a0.trans a2) a1
 intro w3 a2;refine zh ?_;refine ae rfl rfl (⟨rfl,a3.trans a2⟩)
end Go.Proofs.YteolbhblkgjbhaaGreatDoor
