/- Texts that the proof of this statement needs, merged and shortened. -/
import Derived.Test.YteolbhblkgjbhaaGreatDoorQShippedTexts2
open Go renaming Value->ix,World->ln,TypeId->Mf,Program->Nw,FuncId->NL,Oper->Pf,Operand->Pp,Exit->PN,Edge->Qe,Act->Qg
open Go.Proofs.Tryz renaming underlying22->L0,sizeOf3->L7,underlying273->Mb,prog->Md,zeroValue3->Mj,underlying291->Mp,underlying9->Mt,sizeOf26->MK,zeroValue328->MM,sizeOf328->MN,sizeOf170->MO,underlying328->MV,zeroValue225->MW,underlying285->N5,zeroValue26->N6,zeroValue22->N7,isAgg170->Nl,underlying324->Nq,underlying130->Nr,sizeOf22->Ny,isAgg26->NP,underlying3->NW,isAgg328->P3,underlying342->Pd,sizeOf225->Ph,zeroValue170->Pm,call139->Pn,underlying5->Px,underlying293->PX,underlying218->PY,underlying27->Q4,call189->Q5,call134->Q6
open List renaming replicate->L1,mem_singleton->L5,range->L8,length_singleton->L9,foldl_cons->LO,mem_cons->LP,take_length->LU,mem_append->LV,mem_range->LW,map_cons->LX,length_cons->M0,all_cons->M5,map_append->M8,length_set->M9,mem_cons_of_mem->Mc,findIdx?_eq_some_iff_getElem->Me,foldl_append->Mg,mem_map->Mi,append_nil->Mk,flatMap_cons->Mr,all_eq_true->Mu,length_append->Mw,range_succ->My,mem_filter->Mz,mem_append_right->MA,mem_append_left->MC,all_nil->ME,findIdx?_eq_none_iff->MH,filter_sublist->MJ,mem_cons_self->MQ,findIdx?_cons->MR,filter_append->MS,eq_nil_of_length_eq_zero->MY,nodup_cons->N1,nil_append->N2,flatMap_append->N4,dropWhile_cons_of_neg->Na,pairwise_iff_getElem->Nc,getElem?_eq_some_iff->Nf,nodup_append->Ng,find?_range_eq_some->Nj,eq_of_mem_replicate->Nk,nodup_range->No,length_filter_le->Nu,findIdx?->Nx,map_map->NA,append_assoc->NB,any_eq_false->NC,takeWhile_append_dropWhile->NG,suffix_cons->NI,filter_cons->NJ,cons_append->NK,length_map->NO,nodup_nil->NR,foldl_nil->NS,dropWhile_cons_of_pos->NT,take_of_length_le->NY,map_nil->NZ,findIdx?_append->Pc,replicate_succ->Pg,countP_append->Pl,take_sublist->Pq,pairwise_map->Pr,length_range->Ps,filter_congr->Pu,getElem_map->Pv,flatMap_nil->Pw,take_zero->PA,length->PK
open Nat renaming zero_le->L2,not_lt_zero->L3,le_refl->LQ,lt_succ_iff_lt_or_eq->M6,eq_of_beq_eq_true->Mq,sub_self->MG,beq->Ni,blt->NF,le_trans->P8,beq_refl->P9
open Go.VL.Ret renaming enter->L4
open Go.Value renaming oneCell'->L6,bool->Ma,ownBlock->Py,string->PC,slice->PI,int->PP,agg->PQ
open Go.VL renaming Upd->LY,BlkO->Mo,RowT->Ms,MapO->MT,Ext->MZ,Rng->Nn,Ret->Np,Free->NH,Ints->NQ,NewV->P7,Elem->PD,lowT->PM,RangeO->Qb
open Classical renaming byContradiction->LZ
open Go.VL.Upd renaming setRow->M1,set->MB,refl->MD,trans->N9,alloc->Pz
open Go.VL.RowT renaming nil->M4,sl->Q7
open Go.VL.Ext renaming refl->M7,alloc->NM
open Go.VL.WH renaming one->Mh,done->Nm
open Go.Region renaming ready->Ml
open Go.VL.WL renaming mapUpdate->Mm,nil->Mv,push->MI,storeAt->MU
open Go.VL.RV renaming lookup->Mn,indexAddr->Mx,len->Nb,add->Ns,entry->Q9,move->Qc,load->Qd
open Bool renaming and_eq_true->MF,not_eq_true'->Nh,false_and->PB,true_and->PE,not_or->PO
open UInt8 renaming ofNat->MP
open Go.VL.WS renaming nil->MX,go->PH
open Go.VL.WC renaming still->N0,tail->Pa
open Go.VL.Fit renaming i64->N8
open Go.VL.BlkO renaming upd->Nv,cell->PW
open Prod.mk renaming inj->Nz
open Go.VL.Rng renaming upd->ND
open Go.VL.Sl renaming ext->NN,one->Pb,upd->PZ
open Go.VL.Free renaming upd->NU
open Go.RowKit.Below renaming refl->NV,trans->PS
open Go.World renaming block_lt_of_cell?->NX,cell?_alloc_at->P4,ownsRow_lit->Pi,cell?->PF
open Int renaming eq_ofNat_of_zero_le->P1
open Decidable renaming not_not->P2
open Go.Proofs.YteolbhblkgjbhaaGreatDoor renaming RowsN->P5,RightD->P6
open Go.Result renaming andThen_ok->Pe
open Option renaming getD_some->Pj,bind_some->Pk,map_some->Po
open Go.Sem renaming run_bind->PJ
open List.Pairwise renaming imp_of_mem->PL
open List.Sublist renaming append_left->PT
open Option.some renaming injEq->PU,inj->PV
open Go.VL.MapO renaming upd->Q0
open List.Nodup renaming sublist->Q2
open Go.VL.KeyL renaming int->Q3
open List.cons renaming injEq->Q8
open Function renaming comp_apply->Qa
open Go.Builtin renaming len_->Qf
set_option maxRecDepth 10000
open Go.VL Go.Proofs Go.Proofs.Tryz
variable {α κ ν:Type}{u:Int}{td:List ((Int×Int)×Bool)}{D:List (Int×Int)}{S:List (List UInt8)}{row:List Int}{F L a0 bl g l:List Nat}{s:List UInt8}{E T:Mf}{B N a1 b c i j k m m0 many n r rb sb sr sz t to tr:Nat}{st:Nat->List Nat}{O O' cl tl:Nat->Nat}{P0:Nat->Prop}{P:Nw}{Q:PN->Qg->ln->Prop}{y:Pp}{v:ix}{w w':ln}{enc:α->List ix}
namespace Go.Proofs.YteolbhblkgjbhaaGreatDoor
def runN(nx:Nat->Nat->Nat)(w:List Nat)(q:Nat):Nat:=w.foldl nx q
def Alike(nx:Nat->Nat->Nat)(tl:Nat->Nat)(p q:Nat):Prop:=∀w:List Nat,(∀m∈w,m<37)->tl (runN nx w p)=tl (runN nx w q)
theorem Alike.step{nx:Nat->Nat->Nat}{p q:Nat}(h:Alike nx tl p q)(hm:m<37):Alike nx tl (nx p m) (nx q m):=λw hw=>h (m::w) λx hx=>by
 rcases LP.1 hx with rfl|hx
 ·exact hm
 exact hw x hx
theorem Alike.symm{nx:Nat->Nat->Nat}{tl:Nat->Nat}{p q:Nat}(h:Alike nx tl p q):Alike nx tl q p:=λw hw=>(h w hw).symm
structure Blk(nx:Nat->Nat->Nat)(tl:Nat->Nat)(n:Nat)(bl:List Nat)(st:Nat->List Nat)(many:Nat):Prop where
 len:bl.length=n
 lt:∀i,i<n->nth bl i<many
 mem:∀b,b<many->∀x,x∈st b↔x<n/\nth bl x=b
 nd:∀b,b<many->(st b).Nodup
 ne:∀b,b<many->st b≠[]
 told:∀p q,p<n->q<n->nth bl p=nth bl q->tl p=tl q
 alike:∀p q,p<n->q<n->Alike nx tl p q->nth bl p=nth bl q
theorem Blk.many_le{nx:Nat->Nat->Nat}(h:Blk nx tl n bl st many):many<=n:=by
 have a0:∀b,b<many->(st b).headD 0∈st b:=λb hb=>by
  have:=h.ne b hb
  cases hs:st b with
  |nil=>exact absurd hs this
  |cons a r=>simp
 have a1:((L8 many).map λb=>(st b).headD 0).Nodup:=by
  refine Pr.2 (PL ?_ No);intro a b ha hb a2 e;have ha:=LW.1 ha;have hb:=LW.1 hb;have h1:=((h.mem a ha _).1 (a0 a ha)).2;have h2:=((h.mem b hb _).1 (a0 b hb)).2;exact a2 (by rw[<-h1,<-h2,e])
 have:=gF a1 (n:=n) λx hx=>by
  obtain⟨b,hb,rfl⟩:=Mi.1 hx;have hb:=LW.1 hb;exact((h.mem b hb _).1 (a0 b hb)).1
 simpa using this
def Pend(nx:Nat->Nat->Nat)(n:Nat)(bl:List Nat)(td:Nat->Nat->Prop)(m0:Nat)(P0:Nat->Prop)(a0:Nat->Prop):Prop:=
 ∀p q m,p<n->q<n->m<37->nth bl p=nth bl q->nth bl (nx p m)≠nth bl (nx q m)->(td (nth bl (nx p m)) m\/td (nth bl (nx q m)) m)\/(m=m0/\¬(P0 p↔P0 q)/\a0 (nth bl p))
def Todo(nx:Nat->Nat->Nat)(n:Nat)(bl:List Nat)(td:Nat->Nat->Prop):Prop:=
 ∀p q m,p<n->q<n->m<37->nth bl p=nth bl q->nth bl (nx p m)≠nth bl (nx q m)->td (nth bl (nx p m)) m\/td (nth bl (nx q m)) m
theorem Todo.take{nx:Nat->Nat->Nat}{td a1:Nat->Nat->Prop}(h:Todo nx n bl td)(b0 m0:Nat)(ht:∀b m,td b m->a1 b m\/(b=b0/\m=m0))(a2:Nat->Prop)(hr:∀p,p<n->nth bl (nx p m0)=b0->a2 (nth bl p)):
  Pend nx n bl a1 m0 (λp=>nth bl (nx p m0)=b0) a2:=λp q m hp hq hm e a0=>by
 rcases h p q m hp hq hm e a0 with h1|h1
 ·rcases ht _ _ h1 with h2|⟨h2,rfl⟩
  ·exact .inl (.inl h2)
  exact .inr ⟨rfl,λhi=>a0 (by rw[h2,hi.1 h2]),hr p hp h2⟩
 rcases ht _ _ h1 with h2|⟨h2,rfl⟩
 ·exact .inl (.inr h2)
 exact .inr ⟨rfl,λhi=>a0 (by rw[h2,hi.2 h2]),by rw[e];exact hr q hq h2⟩
theorem Pend.done{nx:Nat->Nat->Nat}{td:Nat->Nat->Prop}{a0:Nat->Prop}(h:Pend nx n bl td m0 P0 a0)(hr:∀b,¬a0 b):Todo nx n bl td:=λp q m hp hq hm e a1=>by
 rcases h p q m hp hq hm e a1 with h1|⟨_,_,h1⟩
 ·exact h1
 exact absurd h1 (hr _)
theorem Pend.whole{nx:Nat->Nat->Nat}{td:Nat->Nat->Prop}{a1 a0:Nat->Prop}(h:Pend nx n bl td m0 P0 a1)(hk:∀p,p<n->nth bl p=k->P0 p)(hr:∀b,a1 b->b=k\/a0 b):Pend nx n bl td m0 P0 a0:=λp q m hp hq hm e a2=>by
 rcases h p q m hp hq hm e a2 with h1|⟨h1,h2,h3⟩
 ·exact .inl h1
 rcases hr _ h3 with h4|h4
 ·exact absurd ⟨λ_=>hk q hq (e.symm.trans h4),λ_=>hk p hp h4⟩ h2
 exact .inr ⟨h1,h2,h4⟩
structure Cut(n:Nat)(bl bl':List Nat)(st st':Nat->List Nat)(many k:Nat)(L:List Nat):Prop where
 len:bl'.length=n
 bl:∀x,x<n->nth bl' x=if x∈L then many else nth bl x
 new:st' many=L
 old:st' k=(st k).filter λx=>!(L.contains x)
 oth:∀b,b≠many->b≠k->st' b=st b
theorem Blk.cut{nx:Nat->Nat->Nat}{a4:List Nat}{a6:Nat->List Nat}(h:Blk nx tl n bl st many)(c:Cut n bl a4 st a6 many k L)(hk:k<many)(hL:∀x∈L,x<n/\nth bl x=k)(a':L.Nodup)(b0:L≠[])(b1:L.length<(st k).length) 
  (a9:∀p q,p<n->q<n->Alike nx tl p q->p∈L->q∈L):Blk nx tl n a4 a6 (many+1):=by
 have a0:∀x,x<n->x∉L->nth a4 x=nth bl x:=λx hx hn=>by rw[c.bl x hx,if_neg hn]
 have a3:∀x,x<n->x∈L->nth a4 x=many:=λx hx hn=>by rw[c.bl x hx,if_pos hn]
 refine⟨c.len,λi hi=>?_,λb hb x=>?_,λb hb=>?_,λb hb=>?_,λp q hp hq e=>?_,λp q hp hq ha=>?_⟩
 ·have:=h.lt i hi
  by_cases a7:i∈L
  ·rw[a3 i hi a7];omega
  rw[a0 i hi a7];omega
 ·by_cases a1:b=many
  ·subst a1;rw[c.new]
   constructor
   ·intro hx;exact⟨(hL x hx).1,a3 x (hL x hx).1 hx⟩
   rintro⟨hx,e⟩;refine LZ λhn=>?_
   rw[a0 x hx hn]at e;have:=h.lt x hx;omega
  have a8:b<many:=zo
  by_cases a2:b=k
  ·subst a2;rw[c.old,Mz,h.mem b a8 x]
   constructor
   ·rintro⟨⟨h1,h2⟩,h3⟩;have hn:x∉L:=by simpa using h3
    exact⟨h1,by rw[a0 x h1 hn];exact h2⟩
   rintro⟨h1,h2⟩;have hn:x∉L:=λhx=>by rw[a3 x h1 hx]at h2;omega
   exact⟨⟨h1,by rw[<-a0 x h1 hn];exact h2⟩,by simpa using hn⟩
  rw[c.oth b a1 a2,h.mem b a8 x]
  constructor
  ·rintro⟨h1,h2⟩;have hn:x∉L:=λhx=>a2 (by rw[<-h2];exact(hL x hx).2)
   exact⟨h1,by rw[a0 x h1 hn];exact h2⟩
  rintro⟨h1,h2⟩;have hn:x∉L:=λhx=>a1 (by rw[<-h2];exact a3 x h1 hx)
  exact⟨h1,by rw[<-a0 x h1 hn];exact h2⟩
 ·by_cases a1:b=many
  ·subst a1;rw[c.new];exact a'
  by_cases a2:b=k
  ·subst a2;rw[c.old];exact(h.nd b zo).filter _
  rw[c.oth b a1 a2];exact h.nd b zo
 ·by_cases a1:b=many
  ·subst a1;rw[c.new];exact b0
  by_cases a2:b=k
  ·subst a2;rw[c.old];intro e;have a5:st b ⊆ L:=λx hx=>by
    refine LZ λhn=>?_
    have:x∈(st b).filter λx=>!(L.contains x):=Mz.2 ⟨hx,by simpa using hn⟩
    rw[e]at this;simp at this
   have:=(h.nd b zo).length_le_of_subset a5;omega
  rw[c.oth b a1 a2];exact h.ne b zo
 ·apply h.told p q hp hq
  by_cases h1:p∈L
  ·by_cases h2:q∈L
   ·rw[(hL p h1).2,(hL q h2).2]
   rw[a3 p hp h1,a0 q hq h2]at e;have:=h.lt q hq;omega
  by_cases h2:q∈L
  ·rw[a0 p hp h1,a3 q hq h2]at e;have:=h.lt p hp;omega
  rw[a0 p hp h1,a0 q hq h2]at e;exact e
 by_cases h1:p∈L
 ·rw[a3 p hp h1,a3 q hq (a9 p q hp hq ha h1)]
 have h2:q∉L:=λhx=>h1 (a9 q p hq hp ha.symm hx)
 rw[a0 p hp h1,a0 q hq h2];exact h.alike p q hp hq ha
theorem Pend.cut{nx:Nat->Nat->Nat}{a6:List Nat}{b4:Nat->List Nat}{td a3:Nat->Nat->Prop}{a' a5:Nat->Prop}(hB:Blk nx tl n bl st many)(h:Pend nx n bl td m0 P0 a')(c:Cut n bl a6 st b4 many k L)(_:k<many) 
  (b2:∀p m,p<n->m<37->nx p m<n) (hL:∀x,x∈L↔x<n/\nth bl x=k/\P0 x)
  (ht:∀b m,td b m->a3 b m) (b5:∀m,m<37->td k m->a3 many m) (b1:∀m,m<37->a3 many m\/a3 k m) (hr:∀b,a' b->b=k\/a5 b):Pend nx n a6 a3 m0 P0 a5:=λp q m hp hq hm e b3=>by
 have a0:∀x,x<n->x∉L->nth a6 x=nth bl x:=λx hx hn=>by rw[c.bl x hx,if_neg hn]
 have a2:∀x,x<n->x∈L->nth a6 x=many:=λx hx hn=>by rw[c.bl x hx,if_pos hn]
 have a4:∀x,x∈L->nth bl x=k:=λx hx=>((hL x).1 hx).2.1
 have a1:nth bl p=nth bl q/\(p∈L↔q∈L):=by
  by_cases h1:p∈L
  ·by_cases h2:q∈L
   ·exact⟨by rw[a4 p h1,a4 q h2],by simp[h1,h2]⟩
   rw[a2 p hp h1,a0 q hq h2]at e;have:=hB.lt q hq;omega
  by_cases h2:q∈L
  ·rw[a0 p hp h1,a2 q hq h2]at e;have:=hB.lt p hp;omega
  rw[a0 p hp h1,a0 q hq h2]at e;exact⟨e,by simp[h1,h2]⟩
 have hx:=b2 p m hp hm;have hy:=b2 q m hq hm;have hh:=h p q m hp hq hm a1.1;generalize nx p m=x at *;generalize nx q m=y at *;have b0:∀z,z<n->td (nth bl z) m->a3 (nth a6 z) m:=λz hz a9=>by
  by_cases h1:z∈L
  ·rw[a2 z hz h1];rw[a4 z h1]at a9;exact b5 m hm a9
  rw[a0 z hz h1];exact ht _ _ a9
 by_cases a7:nth bl x=nth bl y
 ·by_cases h1:x∈L
  ·by_cases h2:y∈L
   ·exact absurd (by rw[a2 x hx h1,a2 y hy h2]) b3
   have e1:=a4 x h1;rw[a2 x hx h1,a0 y hy h2,<-a7,e1];exact .inl (b1 m hm)
  by_cases h2:y∈L
  ·have e1:=a4 y h2;rw[a2 y hy h2,a0 x hx h1,a7,e1];exact .inl ((b1 m hm).symm)
  exact absurd (by rw[a0 x hx h1,a0 y hy h2,a7]) b3
 rcases hh a7 with(h1|h1)|⟨h1,h2,h3⟩
 ·exact .inl (.inl (b0 x hx h1))
 ·exact .inl (.inr (b0 y hy h1))
 by_cases a8:nth bl p=k
 ·exact absurd ⟨λa=>((hL q).1 (a1.2.1 ((hL p).2 ⟨hp,a8,a⟩))).2.2,λa=>((hL p).1 (a1.2.2 ((hL q).2 ⟨hq,by rw[<-a1.1];exact a8,a⟩))).2.2⟩ h2
 have b6:p∉L:=λa=>a8 (a4 p a)
 rcases hr _ h3 with h4|h4
 ·exact absurd h4 a8
 exact .inr ⟨h1,h2,by rw[a0 p hp b6];exact h4⟩
theorem Blk.final{nx:Nat->Nat->Nat}(h:Blk nx tl n bl st many)(ht:Todo nx n bl λ_ _=>False)(a0:∀p m,p<n->m<37->nx p m<n)(p q:Nat)(hp:p<n)(hq:q<n):nth bl p=nth bl q↔Alike nx tl p q:=by
 refine⟨λe w=>?_,h.alike p q hp hq⟩
 induction w generalizing p q with
 |nil=>exact λ_=>h.told p q hp hq e
 |cons m w ih=>
  intro hw;have hm:=hw m (by simp);refine ih (nx p m) (nx q m) (a0 p m hp hm) (a0 q m hq hm) (LZ λa1=>?_) λx hx=>hw x (by simp[hx])
  rcases ht p q m hp hq hm e a1 with h1|h1<;>exact h1
section
variable(cl:Nat→Nat)(nx:Nat→Nat→Nat)
def zN(F:List Nat)(t:Nat):Option Nat:=F.findIdx? λo=>cl o==cl t
def fnI(F:List Nat)(t:Nat):Nat:=(zN cl F t).getD F.length
def fnF(F:List Nat)(t:Nat):List Nat:=if(zN cl F t).isSome=true then F else F++[t]
def jA(p:Nat)(F:List Nat):Nat->List Nat×List Nat
 |0=>(F,[])
 |m+1=>(fnF cl (jA p F m).1 (nx p m),(jA p F m).2++[fnI cl (jA p F m).1 (nx p m)])
end
theorem C7(h:zN cl F t=some k):k<F.length/\cl (nth F k)=cl t:=by
 obtain⟨h1,h2,_⟩:=Me.1 h;exact⟨h1,by rw[aB h1];simpa using h2⟩
theorem C9(h:zN cl F t=none):∀o∈F,cl o≠cl t:=by
 intro o ho e;have:=MH.1 h o ho;simp[e]at this
theorem IT(cl:Nat->Nat)(F:List Nat)(t:Nat):∃r,fnF cl F t=F++r:=by
 unfold fnF
 split
 ·exact⟨[],by simp⟩
 exact⟨_,rfl⟩
theorem JY(cl:Nat->Nat)(F:List Nat)(t:Nat):fnI cl F t<(fnF cl F t).length/\cl (nth (fnF cl F t) (fnI cl F t))=cl t:=by
 unfold fnI fnF
 cases h:zN cl F t with
 |some k=>exact C7 h
 |none=>
  simp only[Option.getD_none,Option.isSome_none,Bool.false_eq_true,if_false];exact⟨by simp,by rw[ay,if_neg zo,MG,ao]⟩
structure Reps(cl:Nat->Nat)(n:Nat)(F:List Nat):Prop where
 lt:∀o∈F,o<n
 nd:F.Pairwise λa b=>cl a≠cl b
theorem Reps.add(h:Reps cl n F)(ht:t<n):Reps cl n (fnF cl F t):=by
 unfold fnF
 cases hf:zN cl F t with
 |some k=>exact h
 |none=>
  have a0:=C9 hf
  exact⟨λo ho=>by
   rcases LV.1 ho with ho|ho
   ·exact h.lt o ho
   rw[L5.1 ho];exact ht,List.pairwise_append.2 ⟨h.nd,by simp,λa ha b hb=>by rw[L5.1 hb];exact a0 a ha⟩⟩
theorem Reps.len(h:Reps cl n F):F.length<=n:=
 gF (h.nd.imp fun {a b} a0 e=>a0 (by rw[e])) h.lt
structure RowR(cl:Nat->Nat)(nx:Nat->Nat->Nat)(n p:Nat)(F F' r:List Nat)(m:Nat):Prop where
 pre:∃q,F'=F++q
 len:r.length=m
 lt:∀j,j<m->nth r j<F'.length/\cl (nth F' (nth r j))=cl (nx p j)
 reps:Reps cl n F'
theorem rZ{cl:Nat->Nat}{nx:Nat->Nat->Nat}{n p:Nat}{F:List Nat}(hF:Reps cl n F)(a3:∀m,m<37->nx p m<n):∀m,m<=37->RowR cl nx n p F (jA cl nx p F m).1 (jA cl nx p F m).2 m
 |0,_=>⟨⟨[],by simp[jA]⟩,rfl,λj hj=>absurd hj (L3 j),hF⟩
 |m+1,hm=>by
  have ih:=rZ hF a3 m zo;unfold jA;generalize jA cl nx p F m=R at *;obtain⟨F1,r⟩:=R;dsimp only at ih ⊢;obtain⟨q,hq⟩:=ih.pre;obtain⟨q2,a0⟩:=IT cl F1 (nx p m);have a5:=JY cl F1 (nx p m);have a4:=ih.len;have a6:F1.length<=(fnF cl F1 (nx p m)).length:=by rw[a0];simp
  refine⟨⟨q++q2,by rw[a0,hq,NB]⟩,by simp[a4],λj hj=>?_,ih.reps.add (a3 m zo)⟩;rw[ay]
  by_cases e:j<r.length
  ·rw[if_pos e];obtain⟨a1,a2⟩:=ih.lt j zo;exact⟨zo,by rw[a0,ay,if_pos a1];exact a2⟩
  rw[if_neg e,show j-r.length=0 from by omega,ao];obtain rfl:j=m:=zo;exact a5
def gd(cl:Nat->Nat)(nx:Nat->Nat->Nat)(tl:Nat->Nat):Nat->Nat->List Nat->List (List Nat)->List Nat->List (List Nat)×List Nat
 |0,_,_,rows,tls=>(rows,tls)
 |n+1,i,F,rows,tls=>
  if i<F.length then gd cl nx tl n (i+1) (jA cl nx (nth F i) F 37).1 (rows++[(jA cl nx (nth F i) F 37).2]) (tls++[tl (nth F i)])
  else(rows,tls)
def nxD(rows:List (List Nat))(q m:Nat):Nat:=nth (nth rows q) m
def bh(cl:Nat->Nat)(rows:List (List Nat))(a0:List Nat):List (List Nat)×List Nat:=gd cl (nxD rows) (nth a0) (rows.length+1) 0 [0] [] []
structure LI(cl:Nat->Nat)(nx:Nat->Nat->Nat)(tl:Nat->Nat)(n i:Nat)(F:List Nat)(rows:List (List Nat))(tls:List Nat):Prop where
 le:i<=F.length
 rl:rows.length=i
 tln:tls.length=i
 p0:0<F.length
 fst:nth F 0=0
 reps:Reps cl n F
 row:∀j,j<i->(nth rows j).length=37/\∀m,m<37->nth (nth rows j) m<F.length/\cl (nth F (nth (nth rows j) m))=cl (nx (nth F j) m)
 tel:∀j,j<i->nth tls j=tl (nth F j)
theorem nX{nx:Nat->Nat->Nat}(h0:0<n):LI cl nx tl n 0 [0] [] []:=⟨zd,rfl,rfl,zd,ao _ _,⟨λo ho=>by rw[L5.1 ho];exact h0,by simp⟩,λj hj=>absurd hj (L3 j),λj hj=>absurd hj (L3 j)⟩
theorem LI.next{nx:Nat->Nat->Nat}{rows:List (List Nat)}{a3:List Nat}(h:LI cl nx tl n i F rows a3)(hi:i<F.length)(a4:∀p m,p<n->m<37->nx p m<n):
  LI cl nx tl n (i+1) (jA cl nx (nth F i) F 37).1 (rows++[(jA cl nx (nth F i) F 37).2]) (a3++[tl (nth F i)]):=by
 have hr:=rZ (p:=nth F i) h.reps (λm hm=>a4 (nth F i) m (h.reps.lt _ (aW hi)) hm) 37 (LQ _);generalize jA cl nx (nth F i) F 37=R at *;obtain⟨F1,r⟩:=R;dsimp only at hr ⊢;obtain⟨q,hq⟩:=hr.pre;have a0:∀k,k<F.length->nth F1 k=nth F k:=λk hk=>by rw[hq,ay,if_pos hk]
 have a5:F.length<=F1.length:=by rw[hq];simp
 have h1:=h.rl;have h2:=h.tln;have h3:=h.p0;refine⟨zo,by simp[h1],by simp[h2],zo,by rw[a0 0 h3];exact h.fst,hr.reps,λj hj=>?_,λj hj=>?_⟩
 ·rw[ay]
  by_cases e:j<rows.length
  ·rw[if_pos e];obtain⟨a1,a2⟩:=h.row j zo;refine⟨a1,λm hm=>?_⟩;obtain⟨b1,b2⟩:=a2 m hm;exact⟨zo,by rw[a0 _ b1,a0 j zo];exact b2⟩
  rw[if_neg e,show j-rows.length=0 from by omega,ao];obtain rfl:j=i:=zo;refine⟨hr.len,λm hm=>?_⟩;obtain⟨b1,b2⟩:=hr.lt m hm;exact⟨b1,by rw[a0 j hi];exact b2⟩
 rw[ay]
 by_cases e:j<a3.length
 ·rw[if_pos e,a0 j zo];exact h.tel j zo
 rw[if_neg e,show j-a3.length=0 from by omega,ao];obtain rfl:j=i:=zo;rw[a0 j hi]
theorem gH{cl:Nat->Nat}{nx:Nat->Nat->Nat}{tl:Nat->Nat}{n:Nat}(a1:∀p m,p<n->m<37->nx p m<n):∀(f i:Nat) (F:List Nat) (rows:List (List Nat)) (a0:List Nat),LI cl nx tl n i F rows a0->n+1<=i+f->∃F',LI cl nx tl n F'.length F' (gd cl nx tl f i F rows a0).1 (gd cl nx tl f i F rows a0).2
 |0,i,F,rows,a0,h,hf=>by have:=h.le;have:=h.reps.len;omega
 |f+1,i,F,rows,a0,h,hf=>by
  unfold gd
  split
  ·rename_i hi;exact gH a1 f (i+1) _ _ _ (h.next hi a1) zo
  rename_i hi;have:=h.le;obtain rfl:i=F.length:=zo;exact⟨F,h⟩
def Lr(F:NL)(cs:Array ix)(i:Nat)(_:Nat)(O:Nat->Nat)(w:ln)(l:List Nat)(q:Nat->Bool):Prop:=
 ∀x∈l,∀(O':Nat->Nat) (W:ln),LY (λk=>k=i) O w O' W->Np Md F ([nI (x:Nat)]++cs.toList) W λv W'=>v=.bool (q x)/\MZ W W'
theorem qb{F:NL}(hF:∀(args:Array ix) (w:ln),(callFunc F args).run Md w=.ok (.enter F args) w)(cs:Array ix)(B:Nat)(O:Nat->Nat)(w:ln)(i:Nat)(sv:ix)(l:List Nat)(q:Nat->Bool)(hi:i≠0)(_:Nn B O w)(hr:Ms bm 3 1 O w i sv l)(hq:Lr F cs i B O w l q):
  Np Md 242 [sv,.func (.func F) #[] cs] w λv w'=>v=nI (ed (λj=>q (nth l j)) l.length)/\MZ w w':=by
 have hl:=hr.sl.len_le;apply L4 func242 ntmps242 rfl rfl;refine zh ?_;refine zvH (bH hr.sl.sh L0 rfl) ?_;apply zlp (λx:Nat×ln=>[(0,sv),(1,.func (.func F) #[] cs),(7,nI l.length),(8,nI x.1)]) (λx=>x.2) (λx=>x.1<=l.length/\MZ w x.2/\∀j,j<x.1->q (nth l j)=false) (λx=>l.length-x.1) (0,w) ⟨L2 _,M7 _,λi hi=>absurd hi (L3 i)⟩;rintro⟨k,w1⟩ ⟨hk,hE,a1⟩;dsimp only at hk hE a1 ⊢;have h1:=hr.sl.ext hE;refine zh ?_;refine zC ?_ ?_
 ·intro a0;replace a0:k<l.length:=dT a0;have m1:w1.cell? (adr sv 1 k)=some (nI ((nth l k:Nat):Int)):=by have:=h1.cell (j:=0) a0 rfl;rwa[aA]at this
  refine zh ?_;apply dk rfl hF rfl (hq _ (aW a0) O w1 (ae (λe=>hi e.symm) O hE)) rfl
  rintro v w2 ⟨rfl,a3⟩;refine zh ?_;refine zC ?_ ?_
  ·intro hy;refine zh ?_;refine af rfl rfl ⟨by rw[cR (q:=λj=>q (nth l j)) a0 hy a1],hE.trans a3⟩
  intro hy;refine zh ?_;refine zxd (k+1,w2) ⟨a0,hE.trans a3,λi hi=>(M6.1 hi).elim (a1 i) (λe=>by rw[e];exact hy)⟩
 intro a2;replace a2:l.length<=k:=dF a2;refine zh ?_;refine af rfl rfl ⟨by rw[cQ (q:=λj=>q (nth l j)) λi hi=>a1 i zo],hE⟩
def gW(q:Nat->Bool)(l:List Nat):List Nat:=l.filter λx=>!q x
theorem jg{q:Nat->Bool}(h:j<l.length):gW q (l.take (j+1))=gW q (l.take j)++if q (nth l j)=true then []else [nth l j]:=by
 unfold gW;rw[aY h,MS,NJ]
 cases q (nth l j)<;>rfl
theorem qj{F:NL}(hF:∀(args:Array ix) (w:ln),(callFunc F args).run Md w=.ok (.enter F args) w)(cs:Array ix)(B:Nat)(O:Nat->Nat)(w:ln)(i:Nat)(sv:ix)(l:List Nat)(q:Nat->Bool)(hi:i≠0)(hR:Nn B O w)(hr:Ms bm 3 1 O w i sv l)(hq:Lr F cs i B O w l q):
  Np Md 257 [sv,.func (.func F) #[] cs] w λv w'=>Ms bm 3 1 O w' i v (gW q l)/\LY (λk=>k=i) O w O w':=by
 have hl:=hr.sl.len_le;have hz:¬(λk=>k=i) 0:=λe=>hi e.symm
 apply L4 func257 ntmps257 rfl rfl;refine zh ?_
 apply zc call242 (qb hF cs B O w i sv l q hi hR hr hq);rintro _ w1 ⟨rfl,d1⟩;have d0:LY (λk=>k=i) O w O w1:=ae hz O d1;have c5:Ms bm 3 1 O w1 i sv l:=hr.upd (ae (S:=λ_=>False) (λh=>h) O d1) hi λh=>h
 refine zh ?_
 by_cases a':jj (λj=>q (nth l j)) l.length=true
 ·obtain⟨j0,b1,b5,a9⟩:∃j0,j0<l.length/\q (nth l j0)=true/\∀j,j<j0->q (nth l j)=false:=by
   have hf:=(firstN_any (q:=λj=>q (nth l j)) (n:=l.length)).trans a'
   cases c9:(L8 l.length).find? (λj=>q (nth l j))with
   |none=>rw[ed,c9]at hf;exact absurd hf zd
   |some k=>
    obtain⟨a1,a2,a3⟩:=Nj.1 c9;exact⟨k,LW.1 a2,a1,λj hj=>by simpa using a3 j hj⟩
  have b7:ed (λj=>q (nth l j)) l.length=(j0:Int):=cR b1 b5 a9;rw[b7];have c8:∀j,j<=j0->gW q (l.take j)=l.take j:=λj=>by
   induction j with
   |zero=>intro _;rfl
   |succ j ih=>
    intro hj;rw[jg zo,ih zo,a9 j zo,aY zo];rfl
  refine zFH rfl ((by rw[beq_eq_false_iff_ne];omega)) ?_;apply zlp (λz:Nat×Nat×ln×List Nat=>[(0,sv),(1,.func (.func F) #[] cs),(5,nI z.1),(6,nI z.2.1)]) (λz=>z.2.2.1) (λz=>z.2.1<=l.length/\z.1<z.2.1/\z.1=(gW q (l.take z.2.1)).length/\z.2.2.2.length=l.length/\z.2.2.2.take z.1=gW q (l.take z.2.1)/\(∀j,z.2.1<=j->j<l.length->nth z.2.2.2 j=nth l j)/\Ms bm 3 1 O z.2.2.1 i sv z.2.2.2/\LY (λk=>k=i) O w O z.2.2.1) (λz=>l.length-z.2.1) (j0,j0+1,w1,l) ⟨b1,Nat.lt_succ_self _,by dsimp only;rw[jg b1,b5,if_pos rfl,Mk,c8 j0 (LQ _)];simp;omega,rfl,by dsimp only;rw[jg b1,b5,if_pos rfl,Mk,c8 j0 (LQ _)],λ_ _ _=>rfl,c5,d0⟩
  rintro⟨a,j,w2,l2⟩ ⟨hj,d6,ha,b6,a7,a0,b0,b3⟩;dsimp only at hj d6 ha b6 a7 a0 b0 b3 ⊢;have b':=b0.sl;refine zh ?_;refine zC ?_ ?_
  ·intro a4;replace a4:j<l.length:=dT a4;have d3:=a0 j (LQ _) a4;have m1:w2.cell? (adr sv 1 j)=some (nI ((nth l j:Nat):Int)):=by have:=b'.cell (i:=j) (j:=0) zo rfl;rw[aA,d3]at this;exact this
   have a6:=jg (q:=q) a4;refine zh ?_;apply dk rfl hF rfl (hq _ (aW a4) O w2 b3) rfl;rintro v w3 ⟨rfl,d8⟩;have c':LY (λ_=>False) O w2 O w3:=ae (λh=>h) O d8;have a5:=b0.upd c' hi λh=>h
   have b2:=b3.trans (c'.mono (λ_ h=>h.elim) hz);refine zh ?_
   cases c6:q (nth l j)with
   |true=>
    rw[c6,if_pos rfl,Mk]at a6;refine zFH rfl rfl ?_;refine zxd (a,j+1,w3,l2) ⟨a4,by dsimp only;omega,by dsimp only;rw[a6];exact ha,b6,by dsimp only;rw[a6];exact a7,λx h1 h2=>a0 x (by dsimp only at h1;omega) h2,a5,b2⟩
   |false=>
    rw[c6,if_neg zd]at a6;have b9:=a5.sl;refine zTH rfl rfl ?_;apply MU a5 a zo (nth l j) (L7 _) rfl hi rfl rfl rfl rfl;intro w4 d2 d7;refine zh ?_;refine zxd (a+1,j+1,w4,l2.set a (nth l j)) ⟨a4,by dsimp only;omega,by dsimp only;rw[a6,Mw,<-ha];rfl,by dsimp only;rw[M9];exact b6,?_,λx h1 h2=>?_,d2,b2.trans d7⟩
    ·dsimp only;have d5:a<(l2.set a (nth l j)).length:=by rw[M9];omega
     rw[a6,List.take_succ_eq_append_getElem d5,List.getElem_set_self,List.take_set_of_le (LQ _),a7]
    dsimp only at h1 ⊢;rw[bt zo,if_neg zo];exact a0 x zo h2
  intro d4;obtain rfl:j=l.length:=dF d4;rw[LU]at ha a7;refine zh ?_;apply zv (mI b' L0 (L7 _) rfl rfl a rfl zo);apply vL b0 a zo (0:Nat) hi L0 Mj rfl rfl rfl rfl;intro w3 l3 a5 b4 d9 b2;have b8:=a5.short (n:=a) zo;rw[b4,a7]at b8;have b9:=a5.sl;refine zh ?_;refine zvH (rH b9 L0 (L7 _) rfl rfl a rfl zo) ?_;refine af rfl rfl ⟨b8,b3.trans b2⟩
 have c7:=bK.1 (by simpa using a');have b7:ed (λj=>q (nth l j)) l.length = -1:=cQ c7;rw[b7];have a8:gW q l=l:=List.filter_eq_self.2 λx hx=>by
  obtain⟨j,hj,rfl⟩:=ck hx;rw[c7 j hj];rfl
 rw[a8];refine zTH rfl rfl ?_;refine af rfl rfl ⟨c5,d0⟩
theorem Ko:KeyL Md 328 eB:=DT MV NW zk zk
theorem KC:cE Md 327 #[(0,2),(2,1),(3,1),(4,1),(5,1),(6,1)]:=⟨_,underlying327,λw=>by kernel_rfl⟩
theorem qO(B:Nat)(O:Nat->Nat)(w:ln)(sb tr:Nat)(td:List ((Int×Int)×Bool))(hR:Nn B O w)(hc:Cell0 O w (nA sb 5) (.map (some tr))\/(O (nA sb 5).block=1/\w.cell? (nA sb 5)=some (.map (some tr))))(hm:MT eB Ma O w 4 tr td):
  Np Md 236 [nP sb] w λv w'=>
   (td=[]/\v=.tuple #[eB (0,0),.bool false]/\LY (λq=>q=4) O w O w'/\MT eB Ma O w' 4 tr td)\/
   ∃b4 k x b3,td=b4++(k,x)::b3/\v=.tuple #[eB k,.bool true]/\LY (λq=>q=4) O w O w'/\MT eB Ma O w' 4 tr (qn td k):=by
 obtain⟨T0,d',c'⟩:=hR.bound;obtain⟨T,e3⟩:∃T,T=T0+10:=⟨_,rfl⟩
 have hT:∀b,O b<T:=λb=>by have:=c' b;omega
 have d4:=hm.tag;have a2:w.cell? (nA sb 5)=some (.map (some tr)):=by
  rcases hc with h|h
  ·exact h.c
  exact h.2
 have d5:O (nA sb 5).block=0\/O (nA sb 5).block=1:=by
  rcases hc with h|h
  ·exact .inl h.z
  exact .inr h.1
 have a3:∀ {S:Nat->Prop} {O':Nat->Nat} {W:ln},LY S O w O' W->¬S 1->W.cell? (nA sb 5)=some (.map (some tr)):=fun {S O' W} u hS=>by
  refine iE (u.blk _ (NX w _ a2) ?_) a2
  rcases d5 with h|h
  ·rw[h];exact u.z
  rw[h];exact hS
 apply L4 func236 ntmps236 rfl rfl;refine zh ?_
 apply ar hR T zo (MM _) rfl;intro cb w1 O1 a1 c9 e2 e6;have d9:=hm.upd c9 zd zo;have c1:=a3 c9 zo;refine zh ?_
 apply pG d9 Nq e2 (T+1) zo zd rfl rfl;intro q w2 O2 d3 d0 b0 e1;have a5:LY (λk=>T<=k) O w O2 w2:=(c9.mono (λ_ h=>zo) zo).trans (b0.mono (λ_ h=>zo) zo);have c2:=a3 a5 zo;refine zh ?_
 apply zlp (λx:Unit=>[(0,nP sb),(2,nP cb),(9,nP q)]) (λx=>w2) (λx=>True) (λx=>0) () trivial;rintro⟨⟩ -;refine zh ?_
 refine rG d3 zo zo rfl rfl ?_ ?_
 ·intro h0;refine zh ?_;refine zFH rfl rfl ?_;apply zv (eu MV (L7 _) (MM _) rfl rfl);apply zsa (us:=#[nI 0,nI 0]) (a1.upd b0 zo zo) (MN _);have a8:=a1.upd b0 zo zo;have b8:=a8.setRow (us:=#[nI 0,nI 0]);have a9:LY (λk=>T<=k) O2 w2 O2 (w2.setRow cb #[nI 0,nI 0]):=M1 zo a8.tag (LQ _);have b9:=a5.trans a9;refine zh ?_;refine bE rfl rfl rfl b8.cellsAdd (P3 _) (MN _) (.inl ⟨h0,rfl,b9.fgt (λb h=>by have:=hT b;omega) zd,(d0.upd a9 zd zo).fgt hm.tag⟩)
 intro b4 k x b3 w3 d2 b5 a';obtain⟨k1,k2⟩:=k;refine zh ?_;refine zTH rfl rfl ?_;refine zvH (Q9 b5 rfl) ?_;have c8:LY (λk=>T<=k) O w O2 w3:=a5.trans (a'.mono (λ_ h=>zo) zo);have e0:=e1.upd a';have d8:=d0.upd a' zo zo;apply ar e0 (T+2) zo (MM _) rfl;intro eb w4 O4 a0 b2 e4 e5;have d7:=d8.upd b2 zo zo;apply zsa (us:=#[nI k1,nI k2]) a0 (MN _);have a6:=a0.setRow (us:=#[nI k1,nI k2]);have d1:LY (λk=>T<=k) O4 w4 O4 (w4.setRow eb #[nI k1,nI k2]):=M1 zo a0.tag zo;have b6:=d7.upd d1 zd zo;have a7:=(((a1.upd b0 zo zo).upd a' zo zo).upd b2 zo zo)
 have c6:LY (λk=>T+1<=k) O2 w3 O4 (w4.setRow eb #[nI k1,nI k2]):=(b2.mono (λ_ h=>zo) zo).trans (M1 zo a0.tag zo);have a7:=((a1.upd b0 zo zo).upd a' zo zo).upd c6 zo zo;have b1:=(c8.trans (b2.mono (λ_ h=>zo) zo)).trans d1;generalize w4.setRow eb #[nI k1,nI k2]=w5 at *;have c5:=a3 b1 zo;refine zh ?_;apply Pa 5 rfl rfl zk zk;refine zh ?_;apply zw (ai (us:=[nI k1,nI k2]) a6.drew.cellsAdd (P3 _) (MN _) rfl);apply PH;have hm5d:MT eB Ma O4 w5.drew 4 tr td:=⟨b6.blk,b6.tag,b6.born⟩
 apply WL.delete hm5d Nq Ko zd (k1,k2) rfl rfl rfl;intro w6 d6 b';have b7:=a6.drew.upd b' zo zo;have a4:=a7.drew.upd b' zo zo;have c7:LY (λk=>k=4\/T<=k) O w O4 w6:=(b1.drew.mono (λ_ h=>.inr h) zo).trans (b'.mono (λ_ h=>.inl h) zo);refine zh ?_
 apply zv (ai (us:=[nI k1,nI k2]) b7.cellsAdd (P3 _) (MN _) rfl);apply zsa (us:=#[nI k1,nI k2]) a4 (MN _)
 have b8:=a4.setRow (us:=#[nI k1,nI k2]);have a9:LY (λk=>k=T) O4 w6 O4 (w6.setRow cb #[nI k1,nI k2]):=M1 zo a4.tag rfl;have b9:=c7.trans (a9.mono (λ_ h=>.inr zo) zo);refine zh ?_;refine bE rfl rfl rfl b8.cellsAdd (P3 _) (MN _) (.inr ⟨b4,(k1,k2),x,b3,d2,rfl,b9.priv hT zd,(d6.upd a9 zd zo).fgt hm.tag⟩)
end Go.Proofs.YteolbhblkgjbhaaGreatDoor
section
namespace Go.Proofs.YteolbhblkgjbhaaGreatDoor
open Go.VL Go.Proofs
set_option maxRecDepth 10000
abbrev KVR:=Int×ix×List Nat
abbrev vi(e:KVR):Int×ix:=(e.1,e.2.1)
theorem yn(E:List KVR)(k:Int)(v:ix)(l:List Nat):(cU E k (v,l)).map vi=cU (E.map vi) k v:=by
 induction E with
 |nil=>rfl
 |cons e r ih=>
  simp only[cU,LX,vi]
  by_cases h:e.1=k
  ·rw[if_pos h,if_pos h];rfl
  rw[if_neg h,if_neg h,LX,ih]
theorem Gp(E:List KVR)(k:Int):bI (E.map vi) k=(bI E k).map (·.1):=by
 induction E with
 |nil=>rfl
 |cons e r ih=>
  simp only[bI,LX,vi]
  by_cases h:e.1=k
  ·rw[if_pos h,if_pos h];rfl
  rw[if_neg h,if_neg h];exact ih
structure MpR(base i:Nat)(O:Nat->Nat)(w:ln)(r:Nat)(E:List KVR):Prop where
 map:MT (λk:Int=>nI k) (λv:ix=>v) O w i r (E.map vi)
 row:∀k,k<E.length->Ms bm 3 1 O w (base+k) (nth E k).2.1 (nth E k).2.2
theorem MpR.upd{base i:Nat}{S:Nat->Prop}{O O':Nat->Nat}{w w':ln}{r:Nat}{E:List KVR}(h:MpR base i O w r E)(u:LY S O w O' w')(hi:i≠0)(hb:0<base)(hS:¬S i)(a0:∀k,¬S (base+k)):MpR base i O' w' r E:=
 ⟨h.map.upd u hi hS,λk hk=>(h.row k hk).upd u zo (a0 k)⟩
def lQ(E:List KVR)(k:Int):Nat:=(jn E k).getD E.length
def dQ(E:List KVR)(k:Int):List Nat:=((bI E k).map (·.2)).getD []
def DV(E:List KVR)(k:Int):ix:=((bI E k).map (·.1)).getD (nS)
theorem MpR.at{base i:Nat}{O:Nat->Nat}{w:ln}{r:Nat}{E:List KVR}(h:MpR base i O w r E)(k:Int):Ms bm 3 1 O w (base+lQ E k) (DV E k) (dQ E k):=by
 unfold lQ DV dQ;rw[lH]
 cases ha:jn E k with
 |none=>exact M4 _ _ _ _ _ _
 |some j=>
  obtain⟨x,hx⟩:=iJ ha;obtain⟨hj,a0⟩:=Nf.1 hx;have h1:=h.row j hj;rw[aB hj,a0]at h1;simp only[Pk,hx,Po,Pj];exact h1
theorem MpR.put{base:Nat}{O2:Nat->Nat}{w2:ln}{E:List KVR}(h:MpR base i O w r E)(k:Int)(_:i≠0)(hb:i<base)(u:LY (λq=>q=base+lQ E k) O w O' w')(hr:Ms bm 3 1 O' w' (base+lQ E k) v l) 
  (hm:MT (λk:Int=>nI k) (λv:ix=>v) O2 w2 i r (cU (E.map vi) k v)) (u2:LY (λq=>q=i) O' w' O2 w2):MpR base i O2 w2 r (cU E k (v,l)):=by
 refine⟨by rw[yn];exact hm,λn hn=>?_⟩;have a0:=hr.upd u2 zo zo;have old:∀n,n<E.length->n≠lQ E k->Ms bm 3 1 O2 w2 (base+n) (nth E n).2.1 (nth E n).2.2:=λn hn a1=>((h.row n hn).upd u zo zo).upd u2 zo zo
 rw[eP]at hn ⊢
 cases ha:jn E k with
 |none=>
  rw[ha]at hn;dsimp only at hn ⊢;have hs:lQ E k=E.length:=by unfold lQ;rw[ha];rfl
  rw[hs]at a0 old;rw[Mw,L9]at hn
  by_cases he:n=E.length
  ·subst he;rw[ay,if_neg zo,MG,show nth [((k,v,l):KVR)] 0=(k,v,l)from by rw[aB Nat.zero_lt_one];rfl];exact a0
  rw[ay,if_pos zo];exact old n zo he
 |some j=>
  rw[ha]at hn;dsimp only at hn ⊢;have hs:lQ E k=j:=by unfold lQ;rw[ha];rfl
  rw[hs]at a0 old;rw[M9]at hn;obtain⟨x,hx⟩:=iJ ha;obtain⟨hj,_⟩:=Nf.1 hx;rw[bt hj]
  by_cases he:n=j
  ·rw[if_pos he];subst he;exact a0
  rw[if_neg he];exact old n hn he
theorem ew(E:List KVR)(k k':Int)(v:ix)(l:List Nat):dQ (cU E k (v,l)) k'=if k=k' then l else dQ E k':=by
 unfold dQ;rw[bn]
 split<;>rfl
theorem lG(E:List KVR)(k:Int)(x:ix×List Nat):(cU E k x).map (·.1)=if k∈E.map (·.1)then E.map (·.1)else E.map (·.1)++[k]:=by
 induction E with
 |nil=>rfl
 |cons e r ih=>
  simp only[cU]
  by_cases h:e.1=k
  ·rw[if_pos h,if_pos (by simp[h])];simp[h]
  rw[if_neg h,LX,ih];have h':¬k=e.1:=λe=>h e.symm
  by_cases hm:k∈r.map (·.1)
  ·rw[if_pos hm,if_pos (by rw[LX];exact Mc _ hm)];rfl
  rw[if_neg hm,if_neg (by rw[LX,LP];exact λh=>h.elim h' hm)];rfl
theorem Bh{E:List KVR}(h:(E.map (·.1)).Nodup)(k:Int)(x:ix×List Nat):((cU E k x).map (·.1)).Nodup:=by
 rw[lG]
 split
 ·exact h
 rename_i hk;refine Ng.2 ⟨h,by simp,λa ha b hb e=>?_⟩;rw[L5]at hb;subst hb;subst e;exact hk ha
end Go.Proofs.YteolbhblkgjbhaaGreatDoor
namespace Go.VL
open Go.Proofs
theorem iN{ops:Array Pf}{S:ln->Prop}{a0:Array Bool}{st:St} 
   {o:Op} {a2:Nat}    {t t':Mf} {p p':String} {e e':Array Qe} {d d':Nat} {xv:ix}
  (i j:Nat) (he:PD P T E sz a2) (u:α) (hi:ops[i]? = some ⟨some d,o,t,p,e,none⟩) (hj:ops[j]? = some ⟨some d',.buildSlice T 1 #[(0,y)],t',p',e',none⟩)
  (hr:Ml .any ops a0=[i,j]) (a':Ml .any ops (a0.setIfInBounds i true)=[j]) (a9:Ml .any ops (a0.setIfInBounds j true)=[i])
  (a4:(a0.setIfInBounds j true).setIfInBounds i true=(a0.setIfInBounds i true).setIfInBounds j true)
  (hv:∀w',MZ w w'->RV P N o t st w' v) (hS:∀w',MZ w w'->S w')
  (hy:ev st y=some xv) (a5:xv.cells.toList=enc u) (a6:(enc u).length=sz) (hs:sz<=16777216) (hd:NF d N=true) (a7:NF d' N=true) (b0:Ni d d'=false) (hf:(cO st d').isNone=true) (a8:ev ((d,v)::st) y=some xv)
  (h:∀sv w',Sl enc sz w' sv [u]->MZ w w'->WH P N ops S Q a1 ((a0.setIfInBounds i true).setIfInBounds j true) ((d',sv)::(d,v)::st) w'):WH P N ops S Q (a1+2) a0 st w:=by
 refine bB i j hr hi hj ?_ ?_
 ·refine mW (hv w (M7 w)) hd (Mv (aa (hS w (M7 w)) (Mh j a' hj ?_)));refine dB he u a8 a5 a6 hs a7 λsv w' a3 hE=>Mv (aa (hS w' hE) (h sv w' a3 hE))
 refine dB he u hy a5 a6 hs a7 λsv w' a3 hE=>Mv (aa (hS w' hE) (Mh i a9 hi ?_))
 refine mW (λa ha=>hv w' hE a (ha.fresh hf)) hd (Mv (aa (hS w' hE) ?_));rw[a4];exact λa ha=>h sv w' a3 hE a (ha.swap b0)
end Go.VL
end
namespace Go.Proofs.YteolbhblkgjbhaaGreatDoor
structure LeadsI(bl xs:List Nat)(E:List KVR):Prop where
 nd:(E.map (·.1)).Nodup
 row:∀k,dQ E k=xs.filter λi=>decide (((nth bl i:Nat):Int)=k)
 key:∀k,k∈E.map (·.1)↔∃i∈xs,((nth bl i:Nat):Int)=k
theorem LeadsI.nil(bl:List Nat):LeadsI bl [] []:=⟨NR,λ_=>rfl,λk=>by simp⟩
theorem LeadsI.push{xs:List Nat}{E:List KVR}(h:LeadsI bl xs E)(i:Nat)(v:ix):LeadsI bl (xs++[i]) (cU E ((nth bl i:Nat):Int) (v,dQ E ((nth bl i:Nat):Int)++[i])):=by
 refine⟨Bh h.nd _ _,λk=>?_,λk=>?_⟩
 ·rw[ew,MS,h.row,h.row]
  by_cases hk:((nth bl i:Nat):Int)=k
  ·rw[if_pos hk,hk,List.filter_cons_of_pos (by simpa using hk)];rfl
  rw[if_neg hk,List.filter_cons_of_neg (by simpa using hk)];simp
 rw[lG]
 constructor
 ·intro hm
  split at hm
  ·obtain⟨x,hx,e⟩:=(h.key k).1 hm;exact⟨x,MC _ hx,e⟩
  rcases LV.1 hm with hm|hm
  ·obtain⟨x,hx,e⟩:=(h.key k).1 hm;exact⟨x,MC _ hx,e⟩
  exact⟨i,by simp,(L5.1 hm).symm⟩
 rintro⟨x,hx,e⟩
 rcases LV.1 hx with hx|hx
 ·have:=(h.key k).2 ⟨x,hx,e⟩
  split
  ·exact this
  exact MC _ this
 obtain rfl:=L5.1 hx;subst e
 split
 ·assumption
 exact MA _ (L5.2 rfl)
def et(n:Nat)(nx:Nat->Nat)(to:Nat):List Nat:=(L8 n).filter λx=>decide (nx x=to)
theorem ir{nx:Nat->Nat}{x:Nat}:x∈et n nx to↔x<n/\nx x=to:=by
 simp[et,LW]
theorem F8(n:Nat)(nx:Nat->Nat)(to:Nat):(et n nx to).Nodup:=No.sublist MJ
theorem iq{nx:Nat->Nat}{x:Nat}:x∈l.flatMap (et n nx)↔x<n/\nx x∈l:=by
 rw[List.mem_flatMap]
 constructor
 ·rintro⟨a,ha,hx⟩;obtain⟨h1,rfl⟩:=ir.1 hx;exact⟨h1,ha⟩
 rintro⟨h1,h2⟩;exact⟨_,h2,ir.2 ⟨h1,rfl⟩⟩
theorem sQ{n:Nat}{nx:Nat->Nat}:∀ {l:List Nat},l.Nodup->(l.flatMap (et n nx)).Nodup
 |[],_=>NR
 |a::r,h=>by
  obtain⟨h1,h2⟩:=N1.1 h;rw[Mr];refine Ng.2 ⟨F8 n nx a,sQ h2,λx hx y hy e=>?_⟩;subst e;have a1:=(ir.1 hx).2;have a0:=(iq.1 hy).2;rw[a1]at a0;exact h1 a0
theorem LeadsI.mem{nx:Nat->Nat}{st:List Nat}{E:List KVR}(h:LeadsI bl (st.flatMap (et n nx)) E)(a1:∀x,x<n->nx x<n)(a0:∀x,x∈st↔x<n/\nth bl x=b)(k x:Nat):x∈dQ E (k:Int)↔x<n/\nth bl x=k/\nth bl (nx x)=b:=by
 rw[h.row,Mz,iq,a0,decide_eq_true_eq]
 constructor
 ·rintro⟨⟨h1,_,h2⟩,h3⟩;exact⟨h1,zo,h2⟩
 rintro⟨h1,h2,h3⟩;exact⟨⟨h1,a1 x h1,h3⟩,zo⟩
theorem LeadsI.rnd{nx:Nat->Nat}{st:List Nat}{E:List KVR}(h:LeadsI bl (st.flatMap (et n nx)) E)(a0:st.Nodup)(k:Int):(dQ E k).Nodup:=by
 rw[h.row];exact(sQ a0).sublist MJ
theorem LeadsI.ne{xs:List Nat}{E:List KVR}(h:LeadsI bl xs E){k:Int}(hk:k∈E.map (·.1)):dQ E k≠[]:=λe=>by
 obtain⟨i,hi,hb⟩:=(h.key k).1 hk;have:i∈dQ E k:=by rw[h.row];exact Mz.2 ⟨hi,decide_eq_true hb⟩
 rw[e]at this;exact absurd this (by simp)
structure FromO(O:Nat->Nat)(w:ln)(i:Nat)(fv:ix)(n:Nat)(nx:Nat->Nat->Nat):Prop where
 ex:∃(ms:List ix) (vss:List (List ix)),Ms Bs 130 1 O w i fv ms/\ms.length=37/\∀m,m<37->Ms Bs 22 1 O w i (nth ms m) (nth vss m)/\(nth vss m).length=n/\
  ∀t,t<n->Ms bm 3 1 O w i (nth (nth vss m) t) (et n (λx=>nx x m) t)
theorem FromO.upd{S:Nat->Prop}{O O':Nat->Nat}{w w':ln}{i:Nat}{fv:ix}{n:Nat}{nx:Nat->Nat->Nat}(h:FromO O w i fv n nx)(u:LY S O w O' w')(hi:i≠0)(hS:¬S i):FromO O' w' i fv n nx:=by
 obtain⟨ms,a0,h1,h2,h3⟩:=h.ex;exact⟨ms,a0,h1.upd u hi hS,h2,λm hm=>⟨(h3 m hm).1.upd u hi hS,(h3 m hm).2.1,λt ht=>((h3 m hm).2.2 t ht).upd u hi hS⟩⟩
structure SpO(O:Nat->Nat)(w:ln)(sb:Nat)(nv tv fv bv:ix)(sr tr n:Nat)(nx:Nat->Nat->Nat)(bl:List Nat)(E:List KVR)(td:List ((Int×Int)×Bool))(many:Nat):Prop where
 blk:Mo O w 1 sb #[nv,tv,fv,bv,.map (some sr),.map (some tr),nI (many:Nat)] 327
 row:Ms bm 3 1 O w 2 bv bl
 st:MpR 10 3 O w sr E
 todo:MT eB Ma O w 4 tr td
 frm:FromO O w 5 fv n nx
theorem SpO.upd{S:Nat->Prop}{O O':Nat->Nat}{w w':ln}{sb:Nat}{nv tv fv bv:ix}{sr tr n:Nat}{nx:Nat->Nat->Nat}{bl:List Nat}{E:List KVR}{td:List ((Int×Int)×Bool)}{many:Nat}(h:SpO O w sb nv tv fv bv sr tr n nx bl E td many) 
  (u:LY S O w O' w') (hS:∀k,0<k->k<10+E.length->¬S k):SpO O' w' sb nv tv fv bv sr tr n nx bl E td many:=
 ⟨h.blk.upd u zd (hS 1 zo zo),h.row.upd u zd (hS 2 zo zo),⟨h.st.map.upd u zd (hS 3 zo zo),λk hk=>(h.st.row k hk).upd u zo (hS _ zo zo)⟩,h.todo.upd u zd (hS 4 zo zo),h.frm.upd u zd (hS 5 zo zo)⟩
theorem mE(E:List KVR)(k:Int):I3 (λv:ix=>v) nS (bI (E.map vi) k)=DV E k:=by
 unfold DV;rw[Gp]
 cases bI E k<;>rfl
theorem xV(B:Nat)(O:Nat->Nat)(w:ln)(sb:Nat)(nv tv fv bv:ix)(sr tr n:Nat)(nx:Nat->Nat->Nat)(bl:List Nat)(E:List KVR)(td:List ((Int×Int)×Bool))(many b m:Nat)(hR:Nn B O w)(hS:SpO O w sb nv tv fv bv sr tr n nx bl E td many) 
  (hE:E.length<=1000) (hm:m<37) (d4:∀x∈dQ E (b:Nat),x<n) (hn:n<=1000) (g0:bl.length=n) (d5:(dQ E (b:Nat)).Nodup) (_:∀q,O q<2000) :
  Np Md 237 [nP sb,nI (b:Nat),nI (m:Nat)] w λv w'=>
   ∃r O' G,v=.map (some r)/\LY (λq=>2000<=q) O w O' w'/\Nn B O' w'/\MpR 3000 2000 O' w' r G/\LeadsI bl ((dQ E (b:Nat)).flatMap (et n λx=>nx x m)) G:=by
 obtain⟨ms,b2,e5,f6,a8⟩:=hS.frm.ex;apply L4 func237 ntmps237 rfl rfl;refine zh ?_;apply bA (λk:Int=>nI k) (λv:ix=>v) hR 2000 zd rfl;intro r w1 O1 e0 c8 e9;have b6:=hS.upd c8 zo;have c3:w1.cell? (nA sb 4)=some (.map (some sr)):=b6.blk.cell 4 rfl;have d7:=b6.st.at (b:Int);have d6:=hS.st.at (b:Int);refine zh ?_;apply zv (Mn b6.st.map Mb qS (N7 _) (b:Int) rfl rfl rfl (mE E _));refine zvH (bH d7.sl.sh L0 rfl) ?_;apply zlp (λz:Nat×(Nat->Nat)×World×List KVR=>[(0,nP sb),(2,nI (m:Nat)),(7,.map (some r)),(18,DV E (b:Nat)),(19,nI (dQ E (b:Nat)).length),(20,nI z.1)]) (λz=>z.2.2.1) (λz=>z.1<=(dQ E (b:Nat)).length/\LY (λq=>2000<=q) O w z.2.1 z.2.2.1/\Nn B z.2.1 z.2.2.1/\MpR 3000 2000 z.2.1 z.2.2.1 r z.2.2.2/\LeadsI bl (((dQ E (b:Nat)).take z.1).flatMap (et n λx=>nx x m)) z.2.2.2) (λz=>(dQ E (b:Nat)).length-z.1) (0,O1,w1,[]) ⟨L2 _,c8.mono (λ_ h=>zo) zd,e9,⟨e0,λk hk=>absurd hk (L3 k)⟩,LeadsI.nil _⟩;rintro⟨q,O2,w2,G⟩ ⟨hq,a3,b8,hG,hL⟩;dsimp only at hq a3 b8 hG hL ⊢;have c':=hS.upd a3 zo;have c6:=(c'.st.at (b:Int)).sl;have f8:=c6.len_le;refine zh ?_;refine zC ?_ ?_
 ·intro a2;replace a2:q<(dQ E (b:Nat)).length:=dT a2;have m1:w2.cell? (adr (DV E (b:Nat)) 1 q)=some (nI ((nth (dQ E (b:Nat)) q:Nat):Int)):=by have:=c6.cell (i:=q) (j:=0) a2 rfl;rwa[aA]at this
  obtain⟨to,a7⟩:∃to,to=nth (dQ E (b:Nat)) q:=⟨_,rfl⟩
  have c5:to<n:=by rw[a7];exact d4 _ (aW a2)
  rw[<-a7]at m1;have e7:=(e5.upd a3 zd zo).sl;have e6:=((a8 m hm).1.upd a3 zd zo).sl;have f':=(((a8 m hm).2.2 to c5).upd a3 zd zo).sl;have f5:=(a8 m hm).2.1;have c1:w2.cell? (nA sb 2)=some fv:=c'.blk.cell 2 rfl;have m2:w2.cell? (adr fv 1 m)=some (nth ms m):=by have:=e7.cell (i:=m) (j:=0) zo rfl;rwa[aA]at this
  have m3:w2.cell? (adr (nth ms m) 1 to)=some (nth (nth b2 m) to):=by have:=e6.cell (i:=to) (j:=0) zo rfl;rwa[aA]at this
  refine zh ?_;apply zlp (λy:Nat×(Nat->Nat)×World×List KVR=>[(0,nP sb),(2,nI (m:Nat)),(7,.map (some r)),(18,DV E (b:Nat)),(19,nI (dQ E (b:Nat)).length),(20,nI q),(33,nth (nth b2 m) to),(34,nI (et n (λx=>nx x m) to).length),(35,nI y.1)]) (λy=>y.2.2.1) (λy=>y.1<=(et n (λx=>nx x m) to).length/\LY (λq=>2000<=q) O w y.2.1 y.2.2.1/\Nn B y.2.1 y.2.2.1/\MpR 3000 2000 y.2.1 y.2.2.1 r y.2.2.2/\LeadsI bl (((dQ E (b:Nat)).take q).flatMap (et n λx=>nx x m)++(et n (λx=>nx x m) to).take y.1) y.2.2.2) (λy=>(et n (λx=>nx x m) to).length-y.1) (0,O2,w2,G) ⟨L2 _,a3,b8,hG,by dsimp only;rw[PA,Mk];exact hL⟩
  rintro⟨j,O3,w3,G3⟩ ⟨hj,a5,b7,b',a6⟩;dsimp only at hj a5 b7 b' a6 ⊢;have b5:=hS.upd a5 zo;have c7:=(((a8 m hm).2.2 to c5).upd a5 zd zo).sl;have f7:=c7.len_le;refine zh ?_;refine zC ?_ ?_
  ·intro a4;replace a4:j<(et n (λx=>nx x m) to).length:=dT a4;obtain⟨i,hi⟩:∃i,i=nth (et n (λx=>nx x m) to) j:=⟨_,rfl⟩
   have f9:i<n:=by rw[hi];exact(ir.1 (aW a4)).1
   have k1:w3.cell? (adr (nth (nth b2 m) to) 1 j)=some (nI (i:Int)):=by have:=c7.cell (i:=j) (j:=0) a4 rfl;rw[aA]at this;rw[hi];exact this
   refine zh ?_;have a0:=b5.row.sl;have d1:w3.drew.cell? (nA sb 3)=some bv:=b5.blk.cell 3 rfl;have d2:w3.drew.cell? (adr bv 1 i)=some (nI ((nth bl i:Nat):Int)):=by have:=a0.cell (i:=i) (j:=0) zo rfl;rwa[aA]at this
   have a':LY (λ_=>False) O3 w3 O3 w3.drew:=ae (λh=>h) O3 (M7 w3).drew;have d3:=b'.upd a' zd zd (λh=>h) (λ_ h=>h);apply aQ (λW=>W.cell? (nA sb 3)=some bv/\W.cell? (adr bv 1 i)=some (nI ((nth bl i:Nat):Int))) 21 rfl zk;refine zin ⟨d1,d2⟩ λzS=>?_
   apply zrm 0 rfl zS rfl;apply zrm 1 rfl zS rfl
   apply zr 2 rfl zS (λ_=>aq rfl);apply zrf 3 rfl zS rfl
   apply zt 4 rfl zS (λw1 a1=>RV.ld a1.1 rfl);apply zrm 5 rfl zS rfl
   apply zr 6 rfl zS (λ_=>aC a0.sh L0 (L7 _) rfl rfl i rfl zo);apply zt 7 rfl zS (λw1 a1=>RV.ld a1.2 rfl)
   apply zrm 8 rfl zS rfl;apply zrm 9 rfl zS rfl
   apply zr 10 rfl zS (λ_=>aq rfl);apply zrf 11 rfl zS rfl
   apply zt 12 rfl zS (λw1 a1=>RV.ld a1.1 rfl);apply zrm 13 rfl zS rfl
   apply zr 14 rfl zS (λ_=>aC a0.sh L0 (L7 _) rfl rfl i rfl zo);apply zt 15 rfl zS (λw1 a1=>RV.ld a1.2 rfl)
   apply zrm 17 rfl zS rfl;apply iN 16 18 lB (enc:=bm) i rfl rfl zk zk zk zk (λW hE=>Mn (d3.upd (ae (S:=λ_=>False) (λh=>h) O3 hE) zd zd (λh=>h) (λ_ h=>h)).map Mb qS (N7 _) ((nth bl i:Nat):Int) rfl rfl rfl (mE G3 _)) (λW hE=>⟨hE.cell d1,hE.cell d2⟩) rfl rfl rfl zd rfl rfl rfl rfl rfl
   intro f4 w4 b3 f3;have a9:LY (λ_=>False) O3 w3.drew O3 w4:=ae (λh=>h) O3 f3;have b9:=d3.upd a9 zd zd (λh=>h) (λ_ h=>h);have g1:(dQ G3 ((nth bl i:Nat):Int)).length<=n:=by
    have d9:(((dQ E (b:Nat)).take q).flatMap (et n λx=>nx x m)++(et n (λx=>nx x m) to)).Nodup:=by
     have:=sQ (n:=n) (nx:=λx=>nx x m) (d5.sublist (Pq (q+1) _))
     rwa[aY a2,N4,<-a7,Mr,Pw,Mk]at this
    rw[a6.row];refine gF ((d9.sublist (PT (Pq j _) _)).sublist MJ) λx hx=>?_
    rcases LV.1 (Mz.1 hx).1 with h1|h1
    ·exact(iq.1 h1).1
    exact(ir.1 (List.mem_of_mem_take h1)).1
   apply Mh 19 zk rfl;apply aD lB (b9.at ((nth bl i:Nat):Int)) ((b7.upd a').upd a9) b3 (by simp) rfl rfl (by simp) (by simp[L6]) (by rw[L9];omega) (by rw[L9];omega) zo rfl
   intro v5 w5 O5 d8 b1 e8;have b4:=((b5.upd a' (λ_ _ _ h=>h)).upd a9 (λ_ _ _ h=>h)).upd b1 zo;have e2:w5.cell? (adr bv 1 i)=some (nI ((nth bl i:Nat):Int)):=by have:=b4.row.sl.cell (i:=i) (j:=0) zo rfl;rwa[aA]at this
   refine zh ?_;apply aa ⟨b4.blk.cell 3 rfl,e2⟩
   apply Mh 20 zk rfl;apply Mm (b9.map.upd b1 zd zo) Mb qS zd ((nth bl i:Nat):Int) v5 rfl rfl rfl rfl rfl
   intro w6 d' b0;have c9:=b4.upd b0 zo;have e3:w6.cell? (adr bv 1 i)=some (nI ((nth bl i:Nat):Int)):=by have:=c9.row.sl.cell (i:=i) (j:=0) zo rfl;rwa[aA]at this
   have e':=b9.put ((nth bl i:Nat):Int) zd zd b1 d8 d' b0;have d0:=a6.push i v5;rw[NB,hi,<-aY a4,<-hi]at d0;refine zh ?_;apply aa ⟨c9.blk.cell 3 rfl,e3⟩;apply Nm zk;refine zh ?_;refine zxd (j+1,O5,w6,cU G3 ((nth bl i:Nat):Int) (v5,dQ G3 ((nth bl i:Nat):Int)++[i])) ⟨a4,(((a5.trans (a'.mono (λ_ h=>h.elim) zd)).trans (a9.mono (λ_ h=>h.elim) zd)).trans (b1.mono (λ_ h=>zo) zd)).trans (b0.mono (λ_ h=>zo) zd),e8.upd b0,e',d0⟩
  intro e1;obtain rfl:j=(et n (λx=>nx x m) to).length:=dF e1;rw[LU]at a6;refine zh ?_;refine zxd (q+1,O3,w3,G3) ⟨a2,a5,b7,b',by dsimp only;rw[aY a2,N4,<-a7,Mr,Pw,Mk];exact a6⟩
 intro e4;obtain rfl:q=(dQ E (b:Nat)).length:=dF e4;rw[LU]at hL;refine zh ?_;refine af rfl rfl ⟨r,O2,G,rfl,a3,b8,hG,hL⟩
theorem Gk(c k:Nat):((c:Int)==(k:Int))=(c==k):=by
 by_cases h:c=k
 ·subst h;simp
 rw[beq_eq_false_iff_ne.2 h,beq_eq_false_iff_ne.2 zo]
theorem uZ(w:ln)(xb yb sb i c k len:Nat)(bv:ix)(a0:Shape bv len)(hi:i<len)(c1:w.cell? ⟨xb,0,none⟩=some (nP sb))(c2:w.cell? (nA sb 3)=some bv)(c3:w.cell? (adr bv 1 i)=some (nI (c:Nat)))(c4:w.cell? ⟨yb,0,none⟩=some (nI (k:Nat))):
  Np Md 258 [nI (i:Nat),nP xb,nP yb] w λv w'=>v=.bool (c==k)/\MZ w w':=by
 apply L4 func258 ntmps258 rfl rfl;refine zh ?_
 apply N0 zk zk;refine zh ?_
 refine zwH (aC a0 L0 (L7 _) rfl rfl i rfl zo) ?_;apply MX
 refine zh ?_;refine af rfl rfl ⟨by rw[Gk c k],(M7 w).drew⟩
def tdL(td:List ((Int×Int)×Bool))(b many:Nat)(lt:Bool):Nat->List ((Int×Int)×Bool)
 |0=>td
 |m+1=>cU (tdL td b many lt m) (((if(bI (tdL td b many lt m) ((b:Int),(m:Int))).getD false=true then(many:Int)else if lt=true then(b:Int)else(many:Int)),(m:Int))) true
theorem DB(td:List ((Int×Int)×Bool))(k:Int×Int):I3 Ma (.bool false) (bI td k)=.bool ((bI td k).getD false):=by
 cases bI td k<;>rfl
def cX(bl:List Nat)(k:Nat)(L:List Nat):List Nat:=L.foldl (λbl x=>bl.set x k) bl
theorem iZ(k:Nat):∀(L bl:List Nat),(cX bl k L).length=bl.length
 |[],_=>rfl
 |x::L,bl=>by rw[cX,LO];exact(iZ k L (bl.set x k)).trans M9
theorem xy(h:j<L.length):cX bl k (L.take (j+1))=(cX bl k (L.take j)).set (nth L j) k:=by
 unfold cX;rw[aY h,Mg];rfl
theorem ma(k:Nat):∀(L bl:List Nat) (x:Nat),x<bl.length->nth (cX bl k L) x=if x∈L then k else nth bl x
 |[],_,_,_=>by simp[cX]
 |y::L,bl,x,hx=>by
  rw[cX,LO];have:=ma k L (bl.set y k) x (by rw[M9];exact hx);rw[cX]at this;rw[this]
  by_cases h1:x∈L
  ·rw[if_pos h1,if_pos (Mc _ h1)]
  rw[if_neg h1]
  by_cases h2:x=y
  ·subst h2;rw[if_pos (MQ ..),bt hx,if_pos rfl]
  rw[if_neg (λh=>(LP.1 h).elim h2 h1)]
  by_cases hy:y<bl.length
  ·rw[bt hy,if_neg h2]
  rw[List.set_eq_of_length_le zo]
def tdP(td:List ((Int×Int)×Bool))(b m:Nat):Prop:=bI td ((b:Int),(m:Int))=some true
theorem sk{a b c d:Int}(h:b≠d):¬((a,b)=(c,d)):=λe=>h (Nz e).2
theorem BG(td:List ((Int×Int)×Bool))(b many:Nat)(lt:Bool)(c j:Nat):∀m,m<=j->bI (tdL td b many lt m) ((c:Int),(j:Int))=bI td ((c:Int),(j:Int))
 |0,_=>rfl
 |m+1,h=>by
  unfold tdL;rw[bn,if_neg (sk zo)];exact BG td b many lt c j m zo
theorem Fc(q:Int×Int)(h:tdP td c j):tdP (cU td q true) c j:=by
 unfold tdP;rw[bn]
 split
 ·rfl
 exact h
theorem yR{td:List ((Int×Int)×Bool)}{b many:Nat}{lt:Bool}{c j:Nat}(h:tdP td c j):∀m,tdP (tdL td b many lt m) c j
 |0=>h
 |m+1=>Fc _ (yR h m)
theorem yQ{td:List ((Int×Int)×Bool)}{b many:Nat}{lt:Bool}{j:Nat}(h:tdP td b j):∀m,j<m->tdP (tdL td b many lt m) many j
 |0,hj=>absurd hj (L3 j)
 |m+1,hj=>by
  unfold tdP tdL;rw[bn]
  by_cases e:j=m
  ·subst e;rw[BG td b many lt b j j (LQ _),show bI td ((b:Int),(j:Int))=some true from h];simp
  rw[if_neg (sk zo)];exact yQ h m zo
theorem Gy{td:List ((Int×Int)×Bool)}{b many:Nat}{lt:Bool}{j:Nat}:∀m,j<m->tdP (tdL td b many lt m) many j\/tdP (tdL td b many lt m) b j
 |0,hj=>absurd hj (L3 j)
 |m+1,hj=>by
  by_cases e:j=m
  ·subst e;unfold tdP;rw[show tdL td b many lt (j+1)=cU (tdL td b many lt j) (((if(bI (tdL td b many lt j) ((b:Int),(j:Int))).getD false=true then(many:Int)else if lt=true then(b:Int)else(many:Int)),(j:Int))) true from rfl];rw[bn,bn]
   split
   ·exact .inl (if_pos rfl)
   split
   ·exact .inr (if_pos rfl)
   exact .inl (if_pos rfl)
  have:=Gy (td:=td) (b:=b) (many:=many) (lt:=lt) (j:=j) m zo;unfold tdP at this ⊢;rw[show tdL td b many lt (m+1)=cU (tdL td b many lt m) (((if(bI (tdL td b many lt m) ((b:Int),(m:Int))).getD false=true then(many:Int)else if lt=true then(b:Int)else(many:Int)),(m:Int))) true from rfl];rw[bn,bn,if_neg (sk zo),if_neg (sk zo)];exact this
section
variable{κ ν:Type}[DecidableEq κ]
theorem tm(k:κ)(x:ν):∀(l:List (κ×ν)),(cU l k x).length<=l.length+1
 |[]=>LQ _
 |(a,y)::r=>by
  unfold cU
  split
  ·simp
  simp only[M0];exact Nat.succ_le_succ (tm k x r)
theorem tk(k:κ)(x:ν):∀(l:List (κ×ν)) (e:κ×ν),e∈cU l k x->e∈l\/e=(k,x)
 |[],e,h=>.inr (L5.1 h)
 |(a,y)::r,e,h=>by
  unfold cU at h
  split at h
  ·rcases LP.1 h with h|h
   ·exact .inr h
   exact .inl (Mc _ h)
  rcases LP.1 h with h|h
  ·exact .inl (by rw[h];exact MQ ..)
  rcases tk k x r e h with h|h
  ·exact .inl (Mc _ h)
  exact .inr h
theorem Ac(k:κ):∀(l:List (κ×ν)) (e:κ×ν),e∈qn l k->e∈l
 |[],e,h=>h
 |(a,y)::r,e,h=>by
  unfold qn at h
  split at h
  ·exact Mc _ h
  rcases LP.1 h with h|h
  ·rw[h];exact MQ ..
  exact Mc _ (Ac k r e h)
theorem Ad(k:κ)(x:ν):∀(l:List (κ×ν)),(k,x)∈l->(qn l k).length+1=l.length
 |(a,y)::r,h=>by
  unfold qn
  split
  ·rfl
  rename_i hn
  rcases LP.1 h with h|h
  ·exact absurd (Nz h).1.symm hn
  simp only[M0];rw[Ad k x r h]
theorem rC{k k':κ}(hne:k'≠k):∀(l:List (κ×ν)),bI (qn l k) k'=bI l k'
 |[]=>rfl
 |(a,y)::r=>by
  unfold qn
  split
  ·rename_i e;subst e;rw[show bI ((a,y)::r) k'=if a=k' then some y else bI r k' from rfl,if_neg (λe=>hne e.symm)]
  rw[show bI ((a,y)::r) k'=if a=k' then some y else bI r k' from rfl,show bI ((a,y)::qn r k) k'=if a=k' then some y else bI (qn r k) k' from rfl,rC hne r]
end
theorem BH(td:List ((Int×Int)×Bool))(b many:Nat)(lt:Bool):∀m,(tdL td b many lt m).length<=td.length+m
 |0=>LQ _
 |m+1=>by
  have:=tm (((if(bI (tdL td b many lt m) ((b:Int),(m:Int))).getD false=true then(many:Int)else if lt=true then(b:Int)else(many:Int)),(m:Int))) true (tdL td b many lt m);have h2:=BH td b many lt m;unfold tdL;omega
def tdR(td:List ((Int×Int)×Bool))(many:Nat):Prop:=∀e∈td,∃c j:Nat,c<many/\j<37/\e.1=((c:Int),(j:Int))
theorem BF{td:List ((Int×Int)×Bool)}{b many:Nat}{lt:Bool}(h:tdR td many)(hb:b<many):∀m,m<=37->tdR (tdL td b many lt m) (many+1)
 |0,_=>λe he=>by
  obtain⟨c,j,h1,h2,h3⟩:=h e he;exact⟨c,j,zo,h2,h3⟩
 |m+1,hm=>λe he=>by
  unfold tdL at he
  rcases tk _ _ _ _ he with he|he
  ·exact BF h hb m zo e he
  rw[he]
  split
  ·exact⟨many,m,zo,zo,rfl⟩
  split
  ·exact⟨b,m,zo,zo,rfl⟩
  exact⟨many,m,zo,zo,rfl⟩
theorem tdR.del(h:tdR td many)(k:Int×Int):tdR (qn td k) many:=λe he=>h e (Ac k td e he)
def KeysE(E:List KVR)(many:Nat):Prop:=E.map (·.1)=(L8 many).map fun(k:Nat)=>(k:Int)
theorem KeysE.len{E:List KVR}(h:KeysE E many):E.length=many:=by
 have:=congrArg PK h;simpa using this
theorem KeysE.mem{E:List KVR}(h:KeysE E many):(k:Int)∈E.map (·.1)↔k<many:=by
 rw[h,Mi]
 constructor
 ·rintro⟨a,ha,e⟩;have:=LW.1 ha;omega
 intro hk;exact⟨k,LW.2 hk,rfl⟩
theorem KeysE.idx{E:List KVR}(h:KeysE E many)(hk:k<many):jn E (k:Int)=some k:=by
 rw[<-eE,h];refine Me.2 ⟨by simpa using hk,by simp,λj hj=>?_⟩;simp;omega
theorem KeysE.idxN{E:List KVR}(h:KeysE E many)(hk:many<=k):jn E (k:Int)=none:=by
 rw[<-eE,h];refine MH.2 λx hx=>?_
 obtain⟨a,ha,rfl⟩:=Mi.1 hx;have:=LW.1 ha;simp;omega
theorem KeysE.slot{E:List KVR}(h:KeysE E many)(hk:k<many):lQ E (k:Int)=k:=by
 unfold lQ;rw[h.idx hk];rfl
theorem KeysE.add{E:List KVR}(h:KeysE E many)(x:ix×List Nat):cU E (many:Int) x=E++[((many:Int),x)]:=by
 rw[eP,h.idxN (LQ _)]
theorem KeysE.put{E:List KVR}(h:KeysE E many)(hk:k<many)(x:ix×List Nat):cU E (k:Int) x=E.set k ((k:Int),x):=by
 rw[eP,h.idx hk]
theorem KeysE.more{E:List KVR}(h:KeysE E many)(x:ix×List Nat):KeysE (cU E (many:Int) x) (many+1):=by
 unfold KeysE;rw[lG,if_neg (λhm=>by have:=h.mem.1 hm;omega),h,My,M8];rfl
theorem KeysE.same{E:List KVR}(h:KeysE E many)(hk:k<many)(x:ix×List Nat):KeysE (cU E (k:Int) x) many:=by
 unfold KeysE;rw[lG,if_pos (h.mem.2 hk)];exact h
theorem yT(E:List KVR)(k:Int):lQ E k<=E.length:=by
 unfold lQ
 cases h:jn E k with
 |none=>exact LQ _
 |some j=>
  obtain⟨x,hx⟩:=iJ h;exact Nat.le_of_lt (Nf.1 hx).1
theorem J6{E:List KVR}{ov v':ix}(hb:b<many)(a0:bl.length=n)(a1:∀x,x∈dQ E (b:Int)↔x<n/\nth bl x=b):
  Cut n bl (cX bl many L) (λk=>dQ E (k:Int)) (λk=>dQ (cU (cU E (many:Int) (ov,L)) (b:Int) (v',gW (λx=>nth (cX bl many L) x==many) (dQ E (b:Int)))) (k:Int)) many b L:=by
 have a2:=iZ many L bl;refine⟨by rw[a2,a0],λx hx=>ma many L bl x zo,?_,?_,λc h1 h2=>?_⟩
 ·rw[ew,if_neg zo,ew,if_pos rfl]
 ·rw[ew,if_pos rfl];unfold gW;refine Pu λx hx=>?_
  obtain⟨h1,h2⟩:=(a1 x).1 hx;show(!(nth (cX bl many L) x==many)) = !(L.contains x);rw[ma many L bl x zo]
  by_cases hL:x∈L
  ·rw[if_pos hL];simp[hL]
  rw[if_neg hL,h2];simp[hL];omega
 rw[ew,if_neg zo,ew,if_neg zo]
end Go.Proofs.YteolbhblkgjbhaaGreatDoor
section
namespace Go.VL
open Go.Proofs
def reF(f:Nat->Nat)(O:Nat->Nat):Nat->Nat:=λb=>f (O b)
theorem Upd.re{S:Nat->Prop}(h:LY S O w O' w')(f:Nat->Nat)(f0:f 0=0)(hf:∀b,O b≠0->f (O b)=O b):LY S O w (reF f O') w':=
 ⟨h.os,h.tape,h.output,h.size,h.blk,λb hb=>by unfold reF;rw[h.tag b hb];exact hf b hb,λb hb=>h.new b λe=>hb (by unfold reF;rw[e];exact f0),h.z⟩
theorem Rng.re(h:Nn B O w)(f:Nat->Nat)(f0:f 0=0):Nn B (reF f O) w:=⟨h.le,λb hb=>h.rng b λe=>hb (by unfold reF;rw[e];exact f0)⟩
theorem RowT.re{l:List α}(h:Ms enc E sz O w i v l)(f:Nat->Nat)(hj:f i=j):Ms enc E sz (reF f O) w j v l:=
 ⟨⟨h.1.row,λg hg=>by unfold reF;rw[h.1.tag g hg];exact hj⟩,h.2⟩
theorem BlkO.re{cs:Array ix}(h:Mo O w i b cs E)(f:Nat->Nat)(hj:f i=j):Mo (reF f O) w j b cs E:=⟨h.blk,by unfold reF;rw[h.tag];exact hj⟩
theorem MapO.re{kv:κ->ix}{vv:ν->ix}{l:List (κ×ν)}(h:MT kv vv O w i r l)(f:Nat->Nat)(hj:f i=j):MT kv vv (reF f O) w j r l:=⟨h.blk,by unfold reF;rw[h.tag];exact hj,h.born⟩
theorem RangeO.re{kv:κ->ix}{vv:ν->ix}{q:Nat}{left:List (κ×ν)}{a0:Option (κ×ν)}(h:Qb kv vv O w i j r q left a0)(f:Nat->Nat){i' j':Nat}(hi:f i=i')(hj:f j=j'):Qb kv vv (reF f O) w i' j' r q left a0:=
 ⟨h.ex,by unfold reF;rw[h.tag];exact hi,by unfold reF;rw[h.tagq];exact hj⟩
theorem MapO.lowT{kv:κ->ix}{vv:ν->ix}{l:List (κ×ν)}(h:MT kv vv O w i r l){T:Nat}(hi:i<T):MT kv vv (PM O T) w i r l:=⟨h.blk,by unfold PM;rw[h.tag,if_neg zo],h.born⟩
def IB(a b:Nat):Nat->Nat:=λt=>if t=a then b else t
theorem Cr(a b:Nat):IB a b a=b:=if_pos rfl
theorem sx{a:Nat}(h:t≠a):IB a b t=t:=if_neg h
end Go.VL
namespace Go.Proofs.YteolbhblkgjbhaaGreatDoor
open Go.VL Go.Proofs
set_option maxRecDepth 10000
theorem FromO.re{O:Nat->Nat}{w:ln}{i:Nat}{fv:ix}{n:Nat}{nx:Nat->Nat->Nat}(h:FromO O w i fv n nx)(f:Nat->Nat){j:Nat}(hj:f i=j):FromO (reF f O) w j fv n nx:=by
 obtain⟨ms,a0,h1,h2,h3⟩:=h.ex;exact⟨ms,a0,h1.re f hj,h2,λm hm=>⟨(h3 m hm).1.re f hj,(h3 m hm).2.1,λt ht=>((h3 m hm).2.2 t ht).re f hj⟩⟩
theorem SpO.cut{S:Nat->Prop}{nv tv fv bv:ix}{nx:Nat->Nat->Nat}{a4:List Nat}{E:List KVR}{a0:List ((Int×Int)×Bool)}{tg:Nat}{ov v':ix}{L':List Nat} 
  (h:SpO O w sb nv tv fv bv sr tr n nx bl E td many) (hk:KeysE E many) (hb:b<many) (a7:10+many<=tg) (a5:Ms bm 3 1 O w tg ov L)
  (u:LY S O w O' w') (hS:∀q,S q->1<=q/\q<=4\/q=10+b)
  (h1:Mo O' w' 1 sb #[nv,tv,fv,bv,.map (some sr),.map (some tr),nI ((many+1:Nat):Int)] 327) (h2:Ms bm 3 1 O' w' 2 bv a4)
  (h3:MT (λk:Int=>nI k) (λv:ix=>v) O' w' 3 sr (cU (cU (E.map vi) (many:Nat) ov) (b:Nat) v')) (h4:Ms bm 3 1 O' w' (10+b) v' L') (h5:MT eB Ma O' w' 4 tr a0) :
  SpO (reF (IB tg (10+many)) O') w' sb nv tv fv bv sr tr n nx a4 (cU (cU E (many:Int) (ov,L)) (b:Int) (v',L')) a0 (many+1):=by
 have n1:∀ {t:Nat},t<10+many->IB tg (10+many) t=t:=λh=>sx zo
 have a6:=hk.len;have a2:=hk.more (ov,L);have a1:=a2.len;refine⟨h1.re _ (n1 zo),h2.re _ (n1 zo),⟨?_,λk a3=>?_⟩,h5.re _ (n1 zo),(h.frm.upd u zd (λhs=>by rcases hS _ hs with h|h<;>omega)).re _ (n1 zo)⟩
 ·rw[yn,yn];exact h3.re _ (n1 zo)
 rw[a2.put zo]at a3 ⊢;rw[M9]at a3;rw[bt zo]
 by_cases e1:k=b
 ·rw[if_pos e1];subst e1;exact h4.re _ (n1 zo)
 rw[if_neg e1,hk.add,ay]
 by_cases e2:k<E.length
 ·rw[if_pos e2];exact((h.st.row k e2).upd u zo (λhs=>by rcases hS _ hs with h|h<;>omega)).re _ (n1 zo)
 rw[if_neg e2,show k-E.length=0 from by omega,ao];obtain rfl:k=many:=zo;exact(a5.upd u zo (λhs=>by rcases hS _ hs with h|h<;>omega)).re _ (Cr _ _)
end Go.Proofs.YteolbhblkgjbhaaGreatDoor
end
namespace Go.Proofs.YteolbhblkgjbhaaGreatDoor
theorem xT(B:Nat)(O:Nat->Nat)(w:ln)(sb:Nat)(nv tv fv bv:ix)(sr tr n:Nat)(nx:Nat->Nat->Nat)(bl:List Nat)(E:List KVR)(td:List ((Int×Int)×Bool))(many b tg:Nat)(ov:ix)(L:List Nat)(hR:Nn B O w)(hS:SpO O w sb nv tv fv bv sr tr n nx bl E td many) 
  (i4:Ms bm 3 1 O w tg ov L) (hk:KeysE E many) (j7:10+many<=tg) (hL:∀x∈L,x<bl.length) (g6:many<=1000) (i8:b<many) (g8:∀x∈dQ E (b:Nat),x<bl.length) :
  Np Md 238 [nP sb,nI (b:Nat),ov] w λ_ w'=>
   ∃v' O',LY (λq=>1<=q/\q<=4\/q=10+b) O w O' w'/\Nn B O' w'/\Mo O' w' 1 sb #[nv,tv,fv,bv,.map (some sr),.map (some tr),nI ((many+1:Nat):Int)] 327/\
    Ms bm 3 1 O' w' 2 bv (cX bl many L)/\MT (λk:Int=>nI k) (λv:ix=>v) O' w' 3 sr (cU (cU (E.map vi) (many:Nat) ov) (b:Nat) v')/\
    Ms bm 3 1 O' w' (10+b) v' (gW (λx=>nth (cX bl many L) x==many) (dQ E (b:Nat)))/\MT eB Ma O' w' 4 tr (tdL td b many (decide ((gW (λx=>nth (cX bl many L) x==many) (dQ E (b:Nat))).length<L.length)) 37):=by
 have h5:=hk.len;obtain⟨T0,i',g1⟩:=hR.bound;obtain⟨T,j9⟩:∃T,T=T0+10+tg:=⟨_,rfl⟩
 have hT:∀b,O b<T:=λb=>by have:=g1 b;omega
 have j0:=hk.slot i8;have d1:=hS.st.at (b:Int);rw[j0]at d1;apply L4 func238 ntmps238 rfl rfl;refine zh ?_;apply aN hR T zo rfl rfl;intro xb w1 O1 d' d6 j6 k1;have h3:=hS.upd d6 zo;have x1:w1.cell? ⟨xb,0,none⟩=some (nP sb):=d'.cell 0 rfl;have c1:w1.cell? (nA sb 6)=some (nI (many:Nat)):=h3.blk.cell 6 rfl;refine zh ?_;apply ar j6 (T+1) zo (Mj _) rfl;intro yb w2 O2 d8 b9 j5 k0;have x2:w2.cell? ⟨xb,0,none⟩=some (nP sb):=(d'.upd b9 zo zo).cell 0 rfl;have j1:=h3.upd b9 zo;apply ak (j:=0) d8 rfl (L7 _) rfl rfl rfl rfl;have b8:LY (λj=>j=T+1) O2 w2 O2 (w2.setCell ⟨yb,0,none⟩ (nI (many:Nat))):=MB zo d8.tag rfl;have h':Mo O2 (w2.setCell ⟨yb,0,none⟩ (nI (many:Nat))) (T+1) yb #[nI (many:Nat)] 3:=d8.set 0 _;have g5:=(d'.upd b9 zo zo).upd b8 zo zo;have j4:=j5.upd b8;have b6:=j1.upd b8 zo;have f3:=((i4.upd d6 zo zo).upd b9 zo zo).upd b8 zo zo;have g0:LY (λq=>(1<=q/\q<=4\/q=10+b)\/T<=q) O w O2 (w2.setCell ⟨yb,0,none⟩ (nI (many:Nat))):=((d6.mono (λ_ h=>.inr zo) zo).trans (b9.mono (λ_ h=>.inr zo) zo)).trans (b8.mono (λ_ h=>.inr zo) zo);generalize w2.setCell ⟨yb,0,none⟩ (nI (many:Nat))=w3 at *;have x3:w3.cell? ⟨xb,0,none⟩=some (nP sb):=g5.cell 0 rfl;have c3:w3.cell? (nA sb 6)=some (nI (many:Nat)):=b6.blk.cell 6 rfl;refine zh ?_;apply ak (j:=6) b6.blk rfl (L7 _) rfl rfl rfl rfl
 have a':LY (λj=>j=1) O2 w3 O2 (w3.setCell ⟨sb,6,none⟩ (nI ((many:Int)+1))):=MB zd b6.blk.tag rfl;have h0:Mo O2 (w3.setCell ⟨sb,6,none⟩ (nI ((many:Int)+1))) 1 sb #[nv,tv,fv,bv,.map (some sr),.map (some tr),nI ((many:Int)+1)] 327:=b6.blk.set 6 _;have g4:=g5.upd a' zo zo;have g2:=h'.upd a' zo zo;have j3:=j4.upd a';have d0:=b6.row.upd a' zd zo;have e5:=b6.st.map.upd a' zd zo;have e2:=b6.todo.upd a' zd zo;have a9:=f3.upd a' zo zo;have e7:=(((d1.upd d6 zo zo).upd b9 zo zo).upd b8 zo zo).upd a' zo zo;have f':=g0.trans (a'.mono (λ_ h=>.inl (.inl zo)) zo);generalize w3.setCell ⟨sb,6,none⟩ (nI ((many:Int)+1))=w4 at *;have j':=a9.sl.len_le;have j8:=a9.sl;refine zh ?_;apply zlp (λz:Nat×ln=>[(1,nI (b:Nat)),(2,ov),(3,nP xb),(6,nP yb),(22,ov),(23,nI L.length),(24,nI z.1)]) (λz=>z.2) (λz=>z.1<=L.length/\LY (λq=>q=2) O2 w4 O2 z.2/\Ms bm 3 1 O2 z.2 2 bv (cX bl many (L.take z.1))) (λz=>L.length-z.1) (0,w4) ⟨L2 _,MD zd _ _,d0⟩;rintro⟨j,w5⟩ ⟨hj,b0,a1⟩;dsimp only at hj b0 a1 ⊢;have e':=a9.upd b0 zo zo;have i1:=g4.upd b0 zo zo;have h9:=g2.upd b0 zo zo;have g':=h0.upd b0 zo zo;have x5:w5.cell? ⟨xb,0,none⟩=some (nP sb):=i1.cell 0 rfl;have y5:w5.cell? ⟨yb,0,none⟩=some (nI (many:Nat)):=h9.cell 0 rfl;refine zh ?_;refine zC ?_ ?_
 ·intro a6;replace a6:j<L.length:=dT a6;have i2:=e'.sl;have m1:w5.cell? (adr ov 1 j)=some (nI ((nth L j:Nat):Int)):=by have:=i2.cell (i:=j) (j:=0) a6 rfl;rwa[aA]at this
  have c5:w5.cell? (nA sb 3)=some bv:=g'.cell 3 rfl;obtain⟨i,hi⟩:∃i,i=nth L j:=⟨_,rfl⟩
  have g7:i<(cX bl many (L.take j)).length:=by rw[iZ,hi];exact hL _ (aW a6)
  rw[<-hi]at m1;refine zh ?_;apply Pa 7 rfl rfl zk zk;refine zh ?_;apply zw (aC a1.sl.sh L0 (L7 _) rfl rfl i rfl g7);apply PH;apply MU a1.drew i g7 many (L7 _) rfl zd rfl rfl rfl rfl;intro w6 a0 d5;refine zh ?_;refine zxd (j+1,w6) ⟨a6,b0.drew.trans d5,by dsimp only;rw[xy a6,<-hi];exact a0⟩
 intro i7;obtain rfl:j=L.length:=dF i7;rw[LU]at a1;have c5:w5.cell? (nA sb 4)=some (.map (some sr)):=g'.cell 4 rfl;have b2:=e5.upd b0 zd zd;refine zh ?_;apply Pa 6 rfl rfl zk zk;refine zh ?_;apply PH;apply Mm (O:=O2) (i:=3) (⟨b2.blk,b2.tag,b2.born⟩:MT (λk:Int=>nI k) (λv:ix=>v) O2 w5.drew 3 sr (E.map vi)) Mb qS zd (many:Int) ov rfl rfl rfl rfl rfl;intro w6 a8 f7;have d5:LY (λq=>q=3) O2 w5 O2 w6:=f7.ofDrew;have a3:LY (λq=>q=2\/q=3) O2 w4 O2 w6:=(b0.mono (λ_ h=>.inl h) zd).trans (d5.mono (λ_ h=>.inr h) zd);have e9:=a9.upd a3 zo zo;have d2:=g4.upd a3 zo zo;have d7:=g2.upd a3 zo zo;have d3:=h0.upd a3 zo zo;have a0:=a1.upd d5 zd zd;have e6:=e7.upd a3 zo zo;have e1:=e2.upd a3 zd zd;have h4:=j3.upd a3;have x6:w6.cell? ⟨xb,0,none⟩=some (nP sb):=d2.cell 0 rfl;have y6:w6.cell? ⟨yb,0,none⟩=some (nI (many:Nat)):=d7.cell 0 rfl;have c6:w6.cell? (nA sb 4)=some (.map (some sr)):=d3.cell 4 rfl;have b5:=iZ many L bl;obtain⟨b7,i9⟩:∃b7,b7=cX bl many L:=⟨_,rfl⟩
 rw[<-i9]at a0 b5 ⊢;refine zh ?_;apply aQ (λW=>W.cell? ⟨xb,0,none⟩=some (nP sb)/\W.cell? (nA sb 4)=some (.map (some sr))) 14 rfl zk;refine zin ⟨x6,c6⟩ λzS=>?_
 apply zt 0 rfl zS (λw1 b1=>RV.ld b1.1 rfl);apply zr 1 rfl zS (λ_=>aq rfl)
 apply zrf 2 rfl zS rfl;apply zt 3 rfl zS (λw1 b1=>RV.ld b1.2 rfl)
 apply zrm 4 rfl zS rfl;apply zt 5 rfl zS (λw1 b1=>RV.ld b1.1 rfl)
 apply zr 6 rfl zS (λ_=>aq rfl);apply zrf 7 rfl zS rfl
 apply zt 8 rfl zS (λw1 b1=>RV.ld b1.2 rfl);apply zrm 9 rfl zS rfl
 apply zr 11 rfl zS (λ_=>dY rfl rfl);apply Mh 10 zk rfl
 refine zvH (Mn (O:=O2) (i:=3) (⟨a8.blk,a8.tag,a8.born⟩:MT (λk:Int=>nI k) (λv:ix=>v) O2 w6.drew 3 sr (cU (E.map vi) (many:Int) ov)) Mb qS (N7 _) (b:Int) rfl rfl rfl ((congrArg (I3 (λv:ix=>v) nS) ((bn (E.map vi) (many:Int) (b:Int) ov).trans (if_neg zo))).trans (mE E _))) ?_;apply aa ⟨x6,c6⟩
 apply Mh 12 zk rfl;apply zc call257 (qj call258 #[nP xb,nP yb] B O2 w6.drew (10+b) (DV E (b:Nat)) (dQ E (b:Nat)) (λx=>nth b7 x==many) zo h4.drew e6.drew (λx hx O' W u=>uZ W xb yb sb x (nth b7 x) many b7.length bv a0.sl.sh (by rw[b5];exact g8 x hx) ((d2.drew.upd u zo zo).cell 0 rfl) ((d3.drew.upd u zo zo).cell 3 rfl) (by have:=(a0.drew.upd u zd zo).sl.cell (i:=x) (j:=0) (by rw[b5];exact g8 x hx) rfl;rwa[aA]at this) ((d7.drew.upd u zo zo).cell 0 rfl)))
 rintro v7 w7 ⟨b4,f6⟩;have d4:LY (λq=>q=10+b) O2 w6 O2 w7:=f6.ofDrew;have e4:=a8.upd d4 zd zo;have x7:w7.cell? ⟨xb,0,none⟩=some (nP sb):=(d2.upd d4 zo zo).cell 0 rfl;have c7:w7.cell? (nA sb 4)=some (.map (some sr)):=(d3.upd d4 zo zo).cell 4 rfl;refine zh ?_;apply aa ⟨x7,c7⟩;apply Mh 13 zk rfl;apply Mm e4 Mb qS zd (b:Int) v7 rfl rfl rfl rfl rfl;intro w8 e3 h2;have a2:LY (λq=>q=10+b\/q=3) O2 w6 O2 w8:=(d4.mono (λ_ h=>.inl h) zo).trans (h2.mono (λ_ h=>.inr h) zo);have e8:=e9.upd a2 zo zo;have g3:=d2.upd a2 zo zo;have h8:=d7.upd a2 zo zo;have g9:=d3.upd a2 zo zo;have c':=a0.upd a2 zd zo;have e0:=e1.upd a2 zd zo;have a4:=b4.upd h2 zo zo;refine zh ?_;apply aa ⟨g3.cell 0 rfl,g9.cell 4 rfl⟩;have f9:=(f'.trans (a3.mono (S':=λq=>(1<=q/\q<=4\/q=10+b)\/T<=q) (λ_ h=>.inl zo) zo)).trans (a2.mono (λ_ h=>.inl zo) zo);obtain⟨lt,a6⟩:∃lt,lt=decide ((gW (λx=>nth b7 x==many) (dQ E (b:Nat))).length<L.length):=⟨_,rfl⟩
 rw[<-a6];obtain⟨kp,i5⟩:∃kp,kp=gW (λx=>nth b7 x==many) (dQ E (b:Nat)):=⟨_,rfl⟩
 rw[<-i5]at a4 a6 ⊢;apply Nm zk;refine zh ?_;apply zlp (λz:Nat×ln=>[(1,nI (b:Nat)),(2,ov),(3,nP xb),(6,nP yb),(55,nI z.1)]) (λz=>z.2) (λz=>z.1<=37/\LY (λq=>q=4) O2 w8 O2 z.2/\MT eB Ma O2 z.2 4 tr (tdL td b many lt z.1)) (λz=>37-z.1) (0,w8) ⟨L2 _,MD zd _ _,e0⟩;rintro⟨m,w9⟩ ⟨hm,a5,a7⟩;dsimp only at hm a5 a7 ⊢;have i3:=(e8.upd a5 zo zo).sl;have i0:=g3.upd a5 zo zo;have h7:=h8.upd a5 zo zo;have f5:=g9.upd a5 zo zo;have c8:=e3.upd a5 zd zo;have b3:=(a4.upd a5 zo zo).sl;refine zh ?_;refine zC ?_ ?_
 ·intro f4;replace f4:m<37:=dT f4;have x9:w9.cell? ⟨xb,0,none⟩=some (nP sb):=i0.cell 0 rfl;have y9:w9.cell? ⟨yb,0,none⟩=some (nI (many:Nat)):=h7.cell 0 rfl;have c9:w9.cell? (nA sb 4)=some (.map (some sr)):=f5.cell 4 rfl;have d9:w9.cell? (nA sb 5)=some (.map (some tr)):=f5.cell 5 rfl;refine zh ?_;apply zv (Mn c8 Mb qS (N7 _) (b:Int) rfl rfl rfl (congrArg (I3 (λv:ix=>v) nS) ((bn _ (b:Int) (b:Int) v7).trans (if_pos rfl))));refine zvH (bH b3.sh L0 rfl) ?_;refine iO (λz:Int=>[(1,nI (b:Nat)),(2,ov),(3,nP xb),(6,nP yb),(55,nI (m:Nat)),(9,nI (m:Nat)),(10,nI z)]) (λz:Int=>w9) (λz:Int=>z=if lt=true then(b:Int)else(many:Int)) ?_ ?_
  ·intro Qm hN;refine zC ?_ ?_
   ·intro h1;refine zh ?_;exact dq (hN ((b:Int)) (by rw[if_pos (by rw[a6];have:=of_decide_eq_true h1;exact decide_eq_true zo)])) ⟨rfl,rfl,rfl,rfl,rfl,rfl,rfl,trivial⟩ rfl
   intro h1;refine zh ?_;exact dq (hN ((many:Int)) (by rw[if_neg (by rw[a6];have:=of_decide_eq_false h1;simp;omega)])) ⟨rfl,rfl,rfl,rfl,rfl,rfl,rfl,trivial⟩ rfl
  rintro z hz;refine zh ?_;apply zv (eu MV (L7 _) (MM _) rfl rfl);refine zvH (Mn a7 Nq Ko (zeroValue4 _) ((b:Int),(m:Int)) rfl rfl rfl (DB _ _)) ?_;refine iO (λy:Int=>[(1,nI (b:Nat)),(2,ov),(3,nP xb),(6,nP yb),(55,nI (m:Nat)),(9,nI (m:Nat)),(10,nI y)]) (λy:Int=>w9) (λy:Int=>y=if(bI (tdL td b many lt m) ((b:Int),(m:Int))).getD false=true then(many:Int)else z) ?_ ?_
  ·intro Qm hN;refine zC ?_ ?_
   ·intro h1;refine zh ?_;exact dq (hN ((many:Int)) (by rw[if_pos h1])) ⟨rfl,rfl,rfl,rfl,rfl,rfl,rfl,trivial⟩ rfl
   intro h1;refine zh ?_;exact dq (hN z (by rw[if_neg (by rw[h1];decide)])) ⟨rfl,rfl,rfl,rfl,rfl,rfl,rfl,trivial⟩ rfl
  rintro y hy;refine zh ?_;apply zv (eu MV (L7 _) (MM _) rfl rfl);apply Mm a7 Nq Ko zd (y,(m:Int)) true rfl rfl rfl rfl rfl;intro h6 b' f8;refine zh ?_;refine zxd (m+1,h6) ⟨f4,a5.trans f8,by dsimp only;unfold tdL;rw[<-hz,<-hy];exact b'⟩
 intro i6;obtain rfl:m=37:=dF i6;refine zh ?_;have j2:=((h4.upd a2).upd a5).lowT T;refine aJ rfl ⟨v7,lowT O2 T,(f9.trans (a5.mono (λ_ h=>.inl zo) zo)).lowT hT (λb h=>by have:=hT b;omega) zo,j2,f5.lowT zo,(c'.upd a5 zd zd).lowT zo,c8.lowT zo,(a4.upd a5 zo zo).lowT zo,a7.lowT zo⟩
structure FI(tl:Nat->Nat)(n i:Nat)(D:List (Int×Int))(bl:List Nat)(E:List KVR)(many:Nat):Prop where
 blen:bl.length=n
 val:∀j,j<i->bI D ((tl j:Nat):Int)=some ((nth bl j:Nat):Int)
 inj:∀u u' b,bI D u=some b->bI D u'=some b->u=u'
 rng:∀u b,bI D u=some b->∃k:Nat,b=(k:Int)/\k<many
 keys:KeysE E many
 row:∀k:Nat,dQ E (k:Int)=(L8 i).filter λx=>nth bl x==k
 ne:∀k,k<many->dQ E (k:Int)≠[]
 mi:many<=i
theorem Gu(tl:Nat->Nat)(n:Nat):FI tl n 0 [] (L1 n 0) [] 0:=
 ⟨by simp,λj hj=>absurd hj (L3 j),λu u' b h=>absurd h (by simp[bI]),λu b h=>absurd h (by simp[bI]),rfl,λk=>rfl,λk hk=>absurd hk (L3 k),LQ _⟩
theorem FI.rowsN{E:List KVR}(h:FI tl n i D bl E many)(k:Nat):(dQ E (k:Int)).length<=i:=by
 rw[h.row];exact P8 (Nu _ _) (by simp)
theorem rf(hi:i<bl.length):(L8 (i+1)).filter (λx=>nth (bl.set i b) x==k)=(L8 i).filter (λx=>nth bl x==k)++if b=k then [i]else []:=by
 rw[My,MS];have h1:(L8 i).filter (λx=>nth (bl.set i b) x==k)=(L8 i).filter (λx=>nth bl x==k):=Pu λx hx=>by
  have:=LW.1 hx;rw[bt hi,if_neg zo]
 rw[h1];congr 1;rw[NJ,bt hi,if_pos rfl]
 by_cases e:b=k
 ·subst e;simp
 rw[if_neg e,if_neg (by simpa using e)];rfl
theorem FI.old{E:List KVR}(h:FI tl n i D bl E many)(hi:i<n){b:Int}(hb:bI D ((tl i:Nat):Int)=some b)(v:ix):
  ∃k:Nat,b=(k:Int)/\k<many/\FI tl n (i+1) D (bl.set i k) (cU E (k:Int) (v,dQ E (k:Int)++[i])) many:=by
 obtain⟨k,rfl,hk⟩:=h.rng _ _ hb;have a0:=h.blen;refine⟨k,rfl,hk,by rw[M9];exact a0,λj hj=>?_,h.inj,h.rng,h.keys.same hk _,λc=>?_,λc hc=>?_,by have:=h.mi;omega⟩
 ·rw[bt zo]
  by_cases e:j=i
  ·rw[if_pos e,e];exact hb
  rw[if_neg e];exact h.val j zo
 ·rw[ew,rf zo]
  by_cases e:k=c
  ·subst e;rw[if_pos rfl,if_pos rfl,h.row]
  rw[if_neg zo,if_neg e,Mk,h.row]
 rw[ew]
 split
 ·simp
 exact h.ne c hc
theorem FI.new{E:List KVR}(h:FI tl n i D bl E many)(hi:i<n)(hb:bI D ((tl i:Nat):Int)=none)(v:ix):
  FI tl n (i+1) (cU D ((tl i:Nat):Int) (many:Int)) (bl.set i many) (cU E (many:Int) (v,dQ E (many:Int)++[i])) (many+1):=by
 have a1:=h.blen;have a0:∀u b,bI D u=some b->b<many:=λu b hu=>by
  obtain⟨k,rfl,hk⟩:=h.rng u b hu;omega
 refine⟨by rw[M9];exact a1,λj hj=>?_,λu u' b h1 h2=>?_,λu b h1=>?_,h.keys.more _,λc=>?_,λc hc=>?_,by have:=h.mi;omega⟩
 ·rw[bn,bt zo]
  by_cases e:j=i
  ·rw[if_pos (by rw[e]),if_pos e]
  rw[if_neg e];have:=h.val j zo;rw[if_neg (λe2=>by rw[<-e2,hb]at this;cases this)];exact this
 ·rw[bn]at h1 h2
  split at h1
  ·split at h2
   ·rename_i e1 e2;rw[<-e1,<-e2]
   cases h1
   have:=a0 _ _ h2;omega
  split at h2
  ·cases h2
   have:=a0 _ _ h1;omega
  exact h.inj u u' b h1 h2
 ·rw[bn]at h1
  split at h1
  ·cases h1;exact⟨many,rfl,zo⟩
  obtain⟨k,e,hk⟩:=h.rng u b h1;exact⟨k,e,zo⟩
 ·rw[ew,rf zo]
  by_cases e:many=c
  ·subst e;rw[if_pos rfl,if_pos rfl,h.row]
  rw[if_neg zo,if_neg e,Mk,h.row]
 rw[ew]
 split
 ·simp
 exact h.ne c zo
theorem FI.blk{E:List KVR}(h:FI tl n n D bl E many)(nx:Nat->Nat->Nat):Blk nx tl n bl (λk=>dQ E (k:Int)) many:=by
 refine⟨h.blen,λi hi=>?_,λb _ x=>?_,λb _=>?_,λb hb=>h.ne b hb,λp q hp hq e=>?_,λp q hp hq ha=>?_⟩
 ·obtain⟨k,e,hk⟩:=h.rng _ _ (h.val i hi);omega
 ·rw[h.row,Mz,LW];simp
 ·rw[h.row];exact No.sublist MJ
 ·have:=h.inj _ _ _ (h.val p hp) (by rw[e];exact h.val q hq);omega
 have e:tl p=tl q:=ha [] λm hm=>absurd hm (by simp)
 have h1:=h.val p hp;rw[e,h.val q hq]at h1;have:=PV h1;omega
structure TdI(td:List ((Int×Int)×Bool))(many b m:Nat):Prop where
 rng:tdR td many
 all:∀c j,c<b\/c=b/\j<m->j<37->tdP td c j
 len:td.length<=b*37+m
theorem DN(many:Nat):TdI [] many 0 0:=⟨λe he=>absurd he (by simp),λc j h _=>zo,LQ _⟩
theorem TdI.put(h:TdI td many b m)(hb:b<many)(hm:m<37):TdI (cU td ((b:Int),(m:Int)) true) many b (m+1):=by
 refine⟨λe he=>?_,λc j hc hj=>?_,?_⟩
 ·rcases tk _ _ _ _ he with he|he
  ·exact h.rng e he
  exact⟨b,m,hb,hm,by rw[he]⟩
 ·unfold tdP;rw[bn]
  split
  ·rfl
  rename_i hne;refine h.all c j ?_ hj
  rcases hc with hc|⟨rfl,hc⟩
  ·exact .inl hc
  exact .inr ⟨rfl,by
   have:¬j=m:=λe=>hne (by rw[e])
   omega⟩
 have:=tm ((b:Int),(m:Int)) true td;have:=h.len;omega
theorem TdI.next(h:TdI td many b 37):TdI td many (b+1) 0:=⟨h.rng,λc j hc hj=>h.all c j zo hj,by have:=h.len;omega⟩
structure BO(nx:Nat->Nat->Nat)(tl:Nat->Nat)(n:Nat)(bl:List Nat)(E:List KVR)(td:List ((Int×Int)×Bool))(many:Nat):Prop where
 blk:Blk nx tl n bl (λk=>dQ E (k:Int)) many
 keys:KeysE E many
 tdr:tdR td many
 todo:Todo nx n bl (tdP td)
structure BI(nx:Nat->Nat->Nat)(tl:Nat->Nat)(n:Nat)(bl0:List Nat)(m0 b0 many0:Nat)(left:List (Int×ix))(bl:List Nat)(E:List KVR)(td:List ((Int×Int)×Bool))(many:Nat):Prop where
 blk:Blk nx tl n bl (λk=>dQ E (k:Int)) many
 keys:KeysE E many
 tdr:tdR td many
 le:many0<=many
 pend:Pend nx n bl (tdP td) m0 (λp=>nth bl0 (nx p m0)=b0) (λb=>(b:Int)∈left.map (·.1))
 same:∀k:Nat,(k:Int)∈left.map (·.1)->k<many0/\∀x,x<n->(nth bl x=k↔nth bl0 x=k)
 nd:(left.map (·.1)).Nodup
theorem BO.take{nx:Nat->Nat->Nat}{tl:Nat->Nat}{n:Nat}{bl:List Nat}{E:List KVR}{td:List ((Int×Int)×Bool)}{many:Nat}(h:BO nx tl n bl E td many)(b0 m0:Nat)(_:m0<37)(_:∀p m,p<n->m<37->nx p m<n)(left:List (Int×ix)) 
  (hl:∀k,k∈left.map (·.1)↔∃i,i<n/\nth bl (nx i m0)=b0/\((nth bl i:Nat):Int)=k) (hn:(left.map (·.1)).Nodup):BI nx tl n bl m0 b0 many left bl E (qn td ((b0:Int),(m0:Int))) many:=by
 refine⟨h.blk,h.keys,h.tdr.del _,LQ _,?_,fun k hk=>?_,hn⟩
 ·refine h.todo.take b0 m0 (fun b m hb=>?_) _ fun p hp e=>(hl _).2 ⟨p,hp,e,rfl⟩
  by_cases e:b=b0/\m=m0
  ·exact .inr e
  refine .inl ?_;unfold tdP;rw[rC (fun e2=>e ?_)]
  ·exact hb
  have:=Nz e2;omega
 obtain⟨i,hi,_,e⟩:=(hl _).1 hk;have:=h.blk.lt i hi;exact⟨zo,fun x _=>Iff.rfl⟩
theorem sD{a1 a0:List (Int×ix)}{k:Int}(hn:((a1++(k,v)::a0).map (·.1)).Nodup):((a1++a0).map (·.1)).Nodup/\k∉(a1++a0).map (·.1)/\∀b,b∈(a1++(k,v)::a0).map (·.1)->b=k\/b∈(a1++a0).map (·.1):=by
 simp only[M8,LX]at hn ⊢;have hp:=(List.perm_middle (a:=k) (l₁:=a1.map (·.1)) (l₂:=a0.map (·.1)))
 have h2:=hp.nodup_iff.1 hn;obtain⟨h3,h4⟩:=N1.1 h2;exact⟨h4,h3,λb hb=>LP.1 (hp.mem_iff.1 hb)⟩
section
variable{nx:Nat→Nat→Nat}{tl:Nat→Nat}{n:Nat}{bl0:List Nat}{m0 b0 many0:Nat}{pre suf:List (Int×ix)}{k:Nat}{v:ix}{bl:List Nat}{E:List KVR}{td:List ((Int×Int)×Bool)}{many:Nat}{L:List Nat}
theorem BI.here(h:BI nx tl n bl0 m0 b0 many0 (pre++((k:Int),v)::suf) bl E td many)(hL:∀x,x∈L↔x<n/\nth bl0 x=k/\nth bl0 (nx x m0)=b0):k<many/\∀x,x∈L↔x<n/\nth bl x=k/\nth bl0 (nx x m0)=b0:=by
 obtain⟨h1,h2⟩:=h.same k (by simp);refine⟨by have:=h.le;omega,λx=>?_⟩;rw[hL]
 constructor
 ·rintro⟨a,b,c⟩;exact⟨a,(h2 x a).2 b,c⟩
 rintro⟨a,b,c⟩;exact⟨a,(h2 x a).1 b,c⟩
theorem BI.skip(h:BI nx tl n bl0 m0 b0 many0 (pre++((k:Int),v)::suf) bl E td many)(hL:∀x,x∈L↔x<n/\nth bl0 x=k/\nth bl0 (nx x m0)=b0)(a4:L.Nodup)(a5:(dQ E (k:Int)).length<=L.length):BI nx tl n bl0 m0 b0 many0 (pre++suf) bl E td many:=by
 obtain⟨hk,a1⟩:=h.here hL;obtain⟨r1,r2,r3⟩:=sD h.nd;refine⟨h.blk,h.keys,h.tdr,h.le,?_,λc hc=>h.same c ?_,r1⟩
 ·refine h.pend.whole (k:=k) (λp hp e=>?_) λb hb=>?_
  ·refine LZ λhn=>?_
   have a2:p∉L:=λhx=>hn ((a1 p).1 hx).2.2
   have a3:(p::L).Nodup:=N1.2 ⟨a2,a4⟩;have a0:(p::L) ⊆ dQ E (k:Int):=λx hx=>by
    rcases LP.1 hx with rfl|hx
    ·exact(h.blk.mem k hk _).2 ⟨hp,e⟩
    exact(h.blk.mem k hk x).2 ⟨((a1 x).1 hx).1,((a1 x).1 hx).2.1⟩
   have:=a3.length_le_of_subset a0;simp only[M0]at this;omega
  rcases r3 _ hb with h1|h1
  ·exact .inl zo
  exact .inr h1
 simp only[M8,LX,LV,LP]at hc ⊢
 rcases hc with hc|hc
 ·exact .inl hc
 exact .inr (.inr hc)
theorem BI.cut(h:BI nx tl n bl0 m0 b0 many0 (pre++((k:Int),v)::suf) bl E td many)(a3:∀p m,p<n->m<37->nx p m<n)(h0:∀p q,p<n->q<n->Alike nx tl p q->nth bl0 p=nth bl0 q)(a4:m0<37) 
  (hL:∀x,x∈L↔x<n/\nth bl0 x=k/\nth bl0 (nx x m0)=b0) (a8:L.Nodup) (a6:L≠[]) (a7:L.length<(dQ E (k:Int)).length) (ov v':ix) (lt:Bool) :
  BI nx tl n bl0 m0 b0 many0 (pre++suf) (cX bl many L) (cU (cU E (many:Int) (ov,L)) (k:Int) (v',gW (λx=>nth (cX bl many L) x==many) (dQ E (k:Int)))) (tdL td k many lt 37) (many+1):=by
 obtain⟨hk,a1⟩:=h.here hL;obtain⟨r1,r2,r3⟩:=sD h.nd;have hc:=J6 (L:=L) (ov:=ov) (v':=v') hk h.blk.len (h.blk.mem k hk);refine⟨?_,?_,BF h.tdr hk 37 (LQ _),by have:=h.le;omega,?_,λc a0=>?_,r1⟩
 ·refine h.blk.cut hc hk (λx hx=>⟨((a1 x).1 hx).1,((a1 x).1 hx).2.1⟩) a8 a6 a7 λp q hp hq ha a5=>?_
  obtain⟨_,e1,e2⟩:=(hL p).1 a5;refine(hL q).2 ⟨hq,by rw[<-h0 p q hp hq ha];exact e1,?_⟩;rw[<-h0 (nx p m0) (nx q m0) (a3 p m0 hp a4) (a3 q m0 hq a4) (ha.step a4)];exact e2
 ·exact(h.keys.more _).same zo _
 ·refine Pend.cut h.blk h.pend hc hk a3 a1 (λb m hb=>yR hb 37) (λm hm hb=>yQ hb 37 hm) (λm hm=>Gy 37 hm) λb hb=>?_
  rcases r3 _ hb with h1|h1
  ·exact .inl zo
  exact .inr h1
 have a9:c≠k:=λe=>r2 (by rw[<-e];exact a0)
 obtain⟨h1,h2⟩:=h.same c (by
  simp only[M8,LX,LV,LP]at a0 ⊢
  rcases a0 with a0|a0
  ·exact .inl a0
  exact .inr (.inr a0))
 refine⟨h1,λx hx=>?_⟩;rw[<-h2 x hx,hc.bl x hx];have:=h.le
 by_cases a2:x∈L
 ·rw[if_pos a2];have:=((a1 x).1 a2).2.1
  constructor<;>omega
 rw[if_neg a2]
end
theorem BI.done{nx:Nat->Nat->Nat}{tl:Nat->Nat}{n:Nat}{a1:List Nat}{m0 b0 a0:Nat}{bl:List Nat}{E:List KVR}{td:List ((Int×Int)×Bool)}{many:Nat}(h:BI nx tl n a1 m0 b0 a0 [] bl E td many):BO nx tl n bl E td many:=
 ⟨h.blk,h.keys,h.tdr,h.pend.done λb hb=>absurd hb (by simp)⟩
theorem BO.final{nx:Nat->Nat->Nat}{tl:Nat->Nat}{n:Nat}{bl:List Nat}{E:List KVR}{many:Nat}(h:BO nx tl n bl E [] many)(a0:∀p m,p<n->m<37->nx p m<n)(p q:Nat)(hp:p<n)(hq:q<n):nth bl p=nth bl q↔Alike nx tl p q:=by
 refine h.blk.final (λp q m a b c d e=>?_) a0 p q hp hq
 rcases h.todo p q m a b c d e with h1|h1<;>cases h1
theorem FI.bo{nx:Nat->Nat->Nat}{E:List KVR}(h:FI tl n n D bl E many)(ht:TdI td many many 0)(a0:∀p m,p<n->m<37->nx p m<n):BO nx tl n bl E td many:=by
 have hb:=h.blk nx;exact⟨hb,h.keys,ht.rng,λp q m hp hq hm e a1=>.inl (ht.all _ m (.inl (hb.lt _ (a0 p m hp hm))) hm)⟩
theorem KU:KeyL Md 24 (λn:Int=>PP .u64 n):=Q3 underlying24
theorem xW(B:Nat)(O:Nat->Nat)(w:ln)(sb:Nat)(nv tv bv:ix)(sr tr:Nat)(a0:List Nat)(hR:Nn B O w)(hB:Mo O w 1 sb #[nv,tv,nS,bv,.map (some sr),.map (some tr),nI 0] 327) 
  (e6:Ms bm 3 1 O w 2 bv (L1 a0.length 0)) (g':MpR 10 3 O w sr []) (g9:MT eB Ma O w 4 tr []) (g2:Sl jh 1 w tv a0) (e':NH O w tv) (hn:a0.length<=1000) (_:∀q,O q<2000) :
  Np Md 234 [nP sb] w λ_ w'=>
   ∃O' D bl E many td,LY (λq=>1<=q/\q<=4\/10<=q) O w O' w'/\Nn B O' w'/\Mo O' w' 1 sb #[nv,tv,nS,bv,.map (some sr),.map (some tr),nI ((many:Nat):Int)] 327/\
    Ms bm 3 1 O' w' 2 bv bl/\MpR 10 3 O' w' sr E/\MT eB Ma O' w' 4 tr td/\FI (nth a0) a0.length a0.length D bl E many/\TdI td many many 0:=by
 apply L4 func234 ntmps234 rfl rfl;refine zh ?_
 apply bA (λk:Int=>.int .u64 k) (λv:Int=>nI v) hR 2000 zd rfl;intro r w1 O1 i2 c9 h';have g6:=hB.upd c9 zd zd;have c1:w1.cell? ((nA sb 0).add 1)=some tv:=g6.cell 1 rfl;have g8:=g2.upd e' c9;have h5:=e'.upd c9;refine zh ?_
 apply zlp (λz:Nat×(Nat->Nat)×World×List (Int×Int)×List Nat×List KVR×Nat=>[(0,nP sb),(2,.map (some r)),(14,tv),(15,nI a0.length),(16,nI z.1)]) (λz=>z.2.2.1) (λz=>z.1<=a0.length/\LY (λq=>1<=q/\q<=3\/10<=q) O w z.2.1 z.2.2.1/\Nn B z.2.1 z.2.2.1/\Mo z.2.1 z.2.2.1 1 sb #[nv,tv,nS,bv,.map (some sr),.map (some tr),nI ((z.2.2.2.2.2.2:Nat):Int)] 327/\Ms bm 3 1 z.2.1 z.2.2.1 2 bv z.2.2.2.2.1/\MpR 10 3 z.2.1 z.2.2.1 sr z.2.2.2.2.2.1/\MT (λk:Int=>.int .u64 k) (λv:Int=>nI v) z.2.1 z.2.2.1 2000 r z.2.2.2.1/\FI (nth a0) a0.length z.1 z.2.2.2.1 z.2.2.2.2.1 z.2.2.2.2.2.1 z.2.2.2.2.2.2) (λz=>a0.length-z.1) (0,O1,w1,[],L1 a0.length 0,[],0) ⟨L2 _,c9.mono (λ_ h=>zo) zd,h',g6,e6.upd c9 zd zd,⟨g'.map.upd c9 zd zd,λk hk=>absurd hk (L3 k)⟩,i2,Gu _ _⟩;rintro⟨i,O2,w2,D,bl,E,many⟩ ⟨hi,c8,d9,b3,a1,a8,d3,hF⟩;dsimp only at hi c8 d9 b3 a1 a8 d3 hF ⊢;have e1:=g2.upd e' c8;have i4:=hF.blen;have g4:many<=i:=hF.mi;refine zh ?_
 refine zC ?_ ?_
 ·intro a3;replace a3:i<a0.length:=dT a3;have m1:w2.cell? (adr tv 1 i)=some (.int .u64 ((nth a0 i:Nat):Int)):=by have:=e1.cell (i:=i) (j:=0) a3 rfl;rwa[aA]at this
  have g3:=hF.rowsN;refine zh ?_
  cases d0:bI D ((nth a0 i:Nat):Int)with
  |some b=>
   have e8:=hF.old a3 d0;obtain⟨k,rfl,hk,_⟩:=hF.old a3 d0 nS;have f9:∀v,FI (nth a0) a0.length (i+1) D (bl.set i k) (cU E (k:Int) (v,dQ E (k:Int)++[i])) many:=λv=>by
    obtain⟨k',e,_,h⟩:=e8 v;obtain rfl:k=k':=zo;exact h
   have h1:=g3 k;have h0:=yT E (k:Int);have h6:=hF.keys.len;refine zvH (di (u:=.tuple #[nI (k:Int),.bool true]) d3 Pd KU (Mj _) ((nth a0 i:Nat):Int) rfl rfl rfl (by rw[d0];rfl)) ?_;apply aI rfl rfl;have e0:=Q7 a1;have i3:PF w2 (nA sb 3)=some bv:=PW b3 3 rfl;refine zh ?_;apply MU a1 i zo (k:Nat) (L7 _) rfl zd rfl rfl rfl rfl;intro wa a' b0;have d7:=Nv b3 b0 zd zd;have b8:=MpR.upd a8 b0 zd zd zd (λ_=>zo);have f6:=ND d9 b0;have c7:=Q0 d3 b0 zd zd;refine zh ?_;have d1:wa.drew.cell? (nA sb 4)=some (.map (some sr)):=d7.cell 4 rfl;have a5:LY (λ_=>False) O2 wa O2 wa.drew:=ae (λh=>h) O2 (M7 wa).drew;have d2:=b8.upd a5 zd zd (λh=>h) (λ_ h=>h);apply aQ (λW=>W.cell? (nA sb 4)=some (.map (some sr))) 15 rfl zk;apply zrm 0 rfl d1 rfl;apply zr 1 rfl d1 (λ_=>aq rfl);apply zrf 2 rfl d1 rfl;apply zt 3 rfl d1 (λw1 b4=>RV.ld b4 rfl);apply zrm 4 rfl d1 rfl;apply zrm 5 rfl d1 rfl;apply zr 6 rfl d1 (λ_=>aq rfl);apply zrf 7 rfl d1 rfl;apply zt 8 rfl d1 (λw1 b4=>RV.ld b4 rfl);apply zrm 9 rfl d1 rfl;apply zrm 11 rfl d1 rfl
   apply iN 10 12 lB (enc:=bm) i rfl rfl zk zk zk zk (λW hE=>Mn (d2.upd (ae (S:=λ_=>False) (λh=>h) O2 hE) zd zd (λh=>h) (λ_ h=>h)).map Mb qS (N7 _) ((k:Nat):Int) rfl rfl rfl (mE E _)) (λW hE=>hE.cell d1) rfl rfl rfl zd rfl rfl rfl rfl rfl;intro g7 wb b7 f';have a4:LY (λ_=>False) O2 wa.drew O2 wb:=ae (λh=>h) O2 f';have b':=d2.upd a4 zd zd (λh=>h) (λ_ h=>h);apply Mh 13 zk rfl
   apply aD lB (b'.at ((k:Nat):Int)) ((f6.upd a5).upd a4) b7 (by simp) rfl rfl (by simp) (by simp[L6]) (by rw[L9];omega) (by rw[L9];omega) zo rfl;intro vc wc Oc e7 a7 f5;have d6:=((d7.upd a5 zd (λh=>h)).upd a4 zd (λh=>h)).upd a7 zd zo;refine zh ?_
   apply aa (d6.cell 4 rfl);apply Mh 14 zk rfl
   apply Mm (b'.map.upd a7 zd zo) Mb qS zd ((k:Nat):Int) vc rfl rfl rfl rfl rfl;intro wd e9 a6;have d5:=d6.upd a6 zd zd;have b9:=b'.put ((k:Nat):Int) zd zd a7 e7 e9 a6;refine zh ?_
   apply aa (d5.cell 4 rfl);have f3:LY (λq=>1<=q/\q<=3\/10<=q) O2 w2 Oc wd:=((((b0.mono (λ_ h=>zo) zd).trans (a5.mono (λ_ h=>h.elim) zd)).trans (a4.mono (λ_ h=>h.elim) zd)).trans (a7.mono (λ_ h=>zo) zd)).trans (a6.mono (λ_ h=>zo) zd);have a9:=(((a'.upd a5 zd (λh=>h)).upd a4 zd (λh=>h)).upd a7 zd zo).upd a6 zd zd;have c5:=(((c7.upd a5 zd (λh=>h)).upd a4 zd (λh=>h)).upd a7 zd zo).upd a6 zd zd;apply Nm zk
   refine zh ?_;refine zxd (i+1,Oc,wd,D,bl.set i k,cU E ((k:Nat):Int) (vc,dQ E ((k:Nat):Int)++[i]),many) ⟨a3,c8.trans f3,f5.upd a6,d5,a9,b9,c5,f9 vc⟩
  |none=>
   have f9:=hF.new a3 d0;have h1:=g3 many;have h0:=yT E (many:Int);have h6:=hF.keys.len;refine zvH (di (u:=.tuple #[nI 0,.bool false]) d3 Pd KU (Mj _) ((nth a0 i:Nat):Int) rfl rfl rfl (by rw[d0];rfl)) ?_;apply aP rfl rfl;have c6:w2.cell? (nA sb 6)=some (nI (many:Nat)):=b3.cell 6 rfl;refine zh ?_;apply Mm d3 Pd KU zd ((nth a0 i:Nat):Int) (many:Int) rfl rfl rfl rfl rfl;intro w3 i1 a2;have d':=b3.upd a2 zd zd;have c':=a1.upd a2 zd zd;have e5:MpR 10 3 O2 w3 sr E:=⟨a8.map.upd a2 zd zd,λk hk=>(a8.row k hk).upd a2 zo (by have:=hF.keys.len;omega)⟩
   have h9:=d9.upd a2;have i5:w3.cell? (nA sb 6)=some (nI (many:Nat)):=d'.cell 6 rfl;refine zh ?_;apply ak (j:=6) d' rfl (L7 _) rfl rfl rfl rfl;have b1:LY (λj=>j=1) O2 w3 O2 (w3.setCell ⟨sb,6,none⟩ (nI ((many:Int)+1))):=MB zd d'.tag rfl;have g5:Mo O2 (w3.setCell ⟨sb,6,none⟩ (nI ((many:Int)+1))) 1 sb #[nv,tv,nS,bv,.map (some sr),.map (some tr),nI ((many+1:Nat):Int)] 327:=d'.set 6 _;have b2:=c'.upd b1 zd zd;have e4:=e5.upd b1 zd zd zd (λ_=>zo);have h8:=h9.upd b1;have i0:=i1.upd b1 zd zd;have f4:=(c8.trans (a2.mono (λ_ h=>zo) zd)).trans (b1.mono (λ_ h=>zo) zd);generalize w3.setCell ⟨sb,6,none⟩ (nI ((many:Int)+1))=w4 at *;have e0:=Q7 b2;have i3:PF w4 (nA sb 3)=some bv:=PW g5 3 rfl;refine zh ?_;apply MU b2 i zo (many:Nat) (L7 _) rfl zd rfl rfl rfl rfl;intro wa a' b0;have d7:=Nv g5 b0 zd zd;have b8:=MpR.upd e4 b0 zd zd zd (λ_=>zo);have f6:=ND h8 b0;have c7:=Q0 i0 b0 zd zd;refine zh ?_;have d1:wa.drew.cell? (nA sb 4)=some (.map (some sr)):=d7.cell 4 rfl;have a5:LY (λ_=>False) O2 wa O2 wa.drew:=ae (λh=>h) O2 (M7 wa).drew;have d2:=b8.upd a5 zd zd (λh=>h) (λ_ h=>h);apply aQ (λW=>W.cell? (nA sb 4)=some (.map (some sr))) 15 rfl zk;apply zrm 0 rfl d1 rfl;apply zr 1 rfl d1 (λ_=>aq rfl);apply zrf 2 rfl d1 rfl;apply zt 3 rfl d1 (λw1 b4=>RV.ld b4 rfl);apply zrm 4 rfl d1 rfl;apply zrm 5 rfl d1 rfl
   apply zr 6 rfl d1 (λ_=>aq rfl);apply zrf 7 rfl d1 rfl
   apply zt 8 rfl d1 (λw1 b4=>RV.ld b4 rfl);apply zrm 9 rfl d1 rfl
   apply zrm 11 rfl d1 rfl;apply iN 10 12 lB (enc:=bm) i rfl rfl zk zk zk zk (λW hE=>Mn (d2.upd (ae (S:=λ_=>False) (λh=>h) O2 hE) zd zd (λh=>h) (λ_ h=>h)).map Mb qS (N7 _) ((many:Nat):Int) rfl rfl rfl (mE E _)) (λW hE=>hE.cell d1) rfl rfl rfl zd rfl rfl rfl rfl rfl
   intro g7 wb b7 f';have a4:LY (λ_=>False) O2 wa.drew O2 wb:=ae (λh=>h) O2 f';have b':=d2.upd a4 zd zd (λh=>h) (λ_ h=>h);apply Mh 13 zk rfl;apply aD lB (b'.at ((many:Nat):Int)) ((f6.upd a5).upd a4) b7 (by simp) rfl rfl (by simp) (by simp[L6]) (by rw[L9];omega) (by rw[L9];omega) zo rfl;intro vc wc Oc e7 a7 f5;have d6:=((d7.upd a5 zd (λh=>h)).upd a4 zd (λh=>h)).upd a7 zd zo;refine zh ?_;apply aa (d6.cell 4 rfl);apply Mh 14 zk rfl;apply Mm (b'.map.upd a7 zd zo) Mb qS zd ((many:Nat):Int) vc rfl rfl rfl rfl rfl;intro wd e9 a6;have d5:=d6.upd a6 zd zd;have b9:=b'.put ((many:Nat):Int) zd zd a7 e7 e9 a6;refine zh ?_;apply aa (d5.cell 4 rfl);have f3:LY (λq=>1<=q/\q<=3\/10<=q) O2 w4 Oc wd:=((((b0.mono (λ_ h=>zo) zd).trans (a5.mono (λ_ h=>h.elim) zd)).trans (a4.mono (λ_ h=>h.elim) zd)).trans (a7.mono (λ_ h=>zo) zd)).trans (a6.mono (λ_ h=>zo) zd);have a9:=(((a'.upd a5 zd (λh=>h)).upd a4 zd (λh=>h)).upd a7 zd zo).upd a6 zd zd;have c5:=(((c7.upd a5 zd (λh=>h)).upd a4 zd (λh=>h)).upd a7 zd zo).upd a6 zd zd;apply Nm zk;refine zh ?_;refine zxd (i+1,Oc,wd,(cU D ((nth a0 i:Nat):Int) (many:Int)),bl.set i many,cU E ((many:Nat):Int) (vc,dQ E ((many:Nat):Int)++[i]),(many+1)) ⟨a3,f4.trans f3,f5.upd a6,d5,a9,b9,c5,f9 vc⟩
 intro h3;obtain rfl:i=a0.length:=dF h3;have c6:w2.cell? (nA sb 6)=some (nI (many:Nat)):=b3.cell 6 rfl;have e3:=g9.upd c8 zd zo;refine zh ?_;apply zlp (λz:Nat×ln×List ((Int×Int)×Bool)=>[(0,nP sb),(68,nI (many:Nat)),(69,nI z.1)]) (λz=>z.2.1) (λz=>z.1<=many/\LY (λq=>q=4) O2 w2 O2 z.2.1/\MT eB Ma O2 z.2.1 4 tr z.2.2/\TdI z.2.2 many z.1 0) (λz=>many-z.1) (0,w2,[]) ⟨L2 _,MD zd _ _,e3,DN _⟩;rintro⟨b,w3,g1⟩ ⟨hb,a2,b6,f8⟩;dsimp only at hb a2 b6 f8 ⊢;refine zh ?_;refine zC ?_ ?_
 ·intro a3;replace a3:b<many:=dT a3;refine zh ?_;apply zlp (λy:Nat×ln×List ((Int×Int)×Bool)=>[(0,nP sb),(68,nI (many:Nat)),(69,nI (b:Nat)),(7,nI (b:Nat)),(72,nI y.1)]) (λy=>y.2.1) (λy=>y.1<=37/\LY (λq=>q=4) O2 w2 O2 y.2.1/\MT eB Ma O2 y.2.1 4 tr y.2.2/\TdI y.2.2 many b y.1) (λy=>37-y.1) (0,w3,g1) ⟨L2 _,a2,b6,f8⟩;rintro⟨m,w4,g0⟩ ⟨hm,b1,b5,f7⟩;dsimp only at hm b1 b5 f7 ⊢;refine zh ?_;refine zC ?_ ?_
  ·intro d8;replace d8:m<37:=dT d8;have d4:w4.cell? (nA sb 5)=some (.map (some tr)):=(b3.upd b1 zd zd).cell 5 rfl;refine zh ?_;apply zv (eu MV (L7 _) (MM _) rfl rfl);apply Mm b5 Nq Ko zd ((b:Int),(m:Int)) true rfl rfl rfl rfl rfl;intro w5 e2 h7;refine zh ?_;refine zxd (m+1,w5,cU g0 ((b:Int),(m:Int)) true) ⟨d8,b1.trans h7,e2,f7.put a3 d8⟩
  intro h2;obtain rfl:m=37:=dF h2;refine zh ?_;refine zxd (b+1,w4,g0) ⟨a3,b1,b5,f7.next⟩
 intro h4;obtain rfl:b=many:=dF h4;refine zh ?_;refine aJ rfl ⟨O2,D,bl,E,b,g1,(c8.mono (λ_ h=>zo) zd).trans (a2.mono (λ_ h=>zo) zd),d9.upd a2,b3.upd a2 zd zd,a1.upd a2 zd zd,a8.upd a2 zd zd zd (λ_=>zo),b6,hF,f8⟩
end Go.Proofs.YteolbhblkgjbhaaGreatDoor
section
namespace Go.VL
open Go.Proofs
theorem yv{ops:Array Pf}{a0:List Pf}{st:St}{t:Mf}{p:String}{e:Array Qe}{d:Nat}{x:Pp} 
   {bytes:Nat} (he:PD P T E 1 bytes) (z0:ix) (a3:(P.info? E).bind (·.zero)=some z0) (h1:z0.oneCell'=true)   (r:Nn B O w) (i:Nat) (a8:i≠0) (n:Nat) {kl kc:IntKind} {m1 m2:Int}
  (hx:ev st x=some (.int kl m1)) (hy:ev st y=some (.int kc m2)) (a7:m1=n) (a6:m2=n) (hb:bytes*n<=281474976710656) (b1:n<=9223372036854775807) (hd:NF d N=true)
  (h:∀w' O' v,Ms (λx:ix=>[x]) E 1 O' w' i v (L1 n z0)->LY (λk=>k=i) O w O' w'->Nn B O' w'->MZ w w'->WL P N ops Q a0 ((d,v)::st) w') :
  WL P N ops Q (⟨some d,.makeSlice T x y,t,p,e,none⟩::a0) st w:=by
 obtain⟨a2,z,hi,hz,a5,a',b2⟩:=he.parts;have a4:z=z0:=by rw[hi]at a3;simpa[hz]using a3
 subst a4;subst a7;subst a6;have a9:z.cells = #[z]:=by cases z<;>first|rfl|simp[L6]at h1
 have b0:(a2.bytes:Int)*(n:Int)<=281474976710656:=by
  have h:((a2.bytes*n:Nat):Int)<=281474976710656:=by rw[a'];omega
  rwa[Int.natCast_mul]at h
 have a1:=run_make (P:=P) w T E a2 _ he.ht hi hz kl kc n n zo (Int.le_refl _) b0 zo;simp only[Int.toNat_natCast,a5,Nat.mul_one,a9]at a1;have hz:¬(λk=>k=i) 0:=λh=>a8 h.symm
 have u:=Pz (S:=λk=>k=i) hz r (.cells (madeCells #[z] n) E) i;refine WL.val (v:=.slice (some ⟨w.heap.size,0,none⟩) n n) hd (λa ha=>by simp only[execOp,ha.ev hx,ha.ev hy,PJ,a1,Pe];rfl) (h _ _ _ ⟨⟨?_,λg hg=>?_⟩,λa _=>rfl⟩ u (r.upd u) (NM _ _))
 ·rw[List.length_replicate];have:=Pi (base:=0) (size:=1) (e:=E) w (madeCells #[z] n) n (L2 _) (by simpa[maxLen]using b1) (by rw[size_madeCells];omega);rw[toList_madeCells_one]at this;have e2:(L1 n z).flatMap (λx=>[x])=L1 n z:=by
   induction n with
   |zero=>rfl
   |succ n ih=>simp only[Pg,Mr];congr 1;simp[List.flatMap_replicate]
  rw[e2];exact this
 simp only[Py,PU]at hg;subst hg;exact eG _ _ _
theorem Sl.free0[Inhabited α]{f:α->List ix}{xs:List α}(h:Sl f sz w v xs)(hf:∀a,f a≠[]):NH (λ_=>0) w v:=λa n c e hn=>by
 obtain⟨a',c',e1,_,_,e2⟩:=h.shape;subst e
 cases e1
 obtain⟨b,o,e3⟩:=e2 hn
 cases e3
 refine⟨rfl,?_⟩;have hl:0<xs.length:=Nat.pos_of_ne_zero hn
 cases hx:f xs[0]with
 |nil=>exact absurd hx (hf _)
 |cons u r=>
  have hc:=h.cells 0 hl 0 u (by rw[hx];rfl);have:=NX _ _ hc;have hb:((adr (.slice (some ⟨b,o,none⟩) xs.length c) sz 0).add 0).block=b:=by simp only[adr,Addr.add];split<;>rfl
  rwa[hb]at this
end Go.VL
namespace Go.Proofs.YteolbhblkgjbhaaGreatDoor
open Go.VL Go.Proofs
set_option maxRecDepth 10000
def RowsF(O:Nat->Nat)(w:ln)(v:ix)(rows:List (List Nat)):Prop:=∃vs,Sl Bs 1 w v vs/\NH O w v/\vs.length=rows.length/\∀i,i<rows.length->Sl bm 1 w (nth vs i) (nth rows i)/\NH O w (nth vs i)
theorem RowsF.upd{S:Nat->Prop}{O O':Nat->Nat}{w w':ln}{v:ix}{rows:List (List Nat)}(h:RowsF O w v rows)(u:LY S O w O' w'):RowsF O' w' v rows:=by
 obtain⟨vs,h1,h2,h3,h4⟩:=h;exact⟨vs,h1.upd h2 u,h2.upd u,h3,λi hi=>⟨(h4 i hi).1.upd (h4 i hi).2 u,(h4 i hi).2.upd u⟩⟩
theorem RowsN.free{rows:List (List Nat)}(h:P5 w v rows):RowsF (λ_=>0) w v rows:=by
 obtain⟨vs,h1,h2,h3⟩:=h;exact⟨vs,h1,h1.free0 (λa=>by simp),h2,λi hi=>⟨h3 i hi,(h3 i hi).free0 (λa=>by simp)⟩⟩
def RowsG(B:Nat)(w:ln)(v:ix)(rows:List (List Nat)):Prop:=∃vs,Sl Bs 1 w v vs/\P7 B v/\vs.length=rows.length/\∀i,i<rows.length->Sl bm 1 w (nth vs i) (nth rows i)/\P7 B (nth vs i)
theorem RowsG.rows{B:Nat}{w:ln}{v:ix}{rows:List (List Nat)}(h:RowsG B w v rows):P5 w v rows:=by
 obtain⟨vs,h1,h2,h3,h4⟩:=h;exact⟨vs,h1,h3,λi hi=>(h4 i hi).1⟩
theorem RowsG.mono{B B':Nat}{w:ln}{v:ix}{rows:List (List Nat)}(h:RowsG B w v rows)(hb:B'<=B):RowsG B' w v rows:=by
 obtain⟨vs,h1,h2,h3,h4⟩:=h;exact⟨vs,h1,h2.mono hb,h3,λi hi=>⟨(h4 i hi).1,(h4 i hi).2.mono hb⟩⟩
theorem RowsG.ext{B:Nat}{w w':ln}{v:ix}{rows:List (List Nat)}(h:RowsG B w v rows)(e:MZ w w'):RowsG B w' v rows:=by
 obtain⟨vs,h1,h2,h3,h4⟩:=h;exact⟨vs,h1.ext e,h2,h3,λi hi=>⟨(h4 i hi).1.ext e,(h4 i hi).2⟩⟩
theorem AX{nx:Nat->Nat}(_:i<n):et (i+1) nx to=et i nx to++if nx i=to then [i]else []:=by
 unfold et;rw[My,MS,NJ]
 by_cases e:nx i=to
 ·rw[if_pos (by simpa using e),if_pos e];rfl
 rw[if_neg (by simpa using e),if_neg e];rfl
theorem C5(i:Nat)(nx:Nat->Nat)(to:Nat):(et i nx to).length<=i:=by
 unfold et;exact P8 (Nu _ _) (by simp)
structure TuI(O:Nat->Nat)(W:ln)(sb:Nat)(nv tv fv bv:ix)(sr tr many n m:Nat)(nx:Nat->Nat->Nat)(ms:List ix)(vss:List (List ix)):Prop where
 blk:Mo O W 1 sb #[nv,tv,fv,bv,.map (some sr),.map (some tr),nI ((many:Nat):Int)] 327
 row:Ms Bs 130 1 O W 6 fv ms
 len:ms.length=m
 lenv:vss.length=m
 at_:∀j,j<m->Ms Bs 22 1 O W 5 (nth ms j) (nth vss j)/\(nth vss j).length=n/\∀t,t<n->Ms bm 3 1 O W 5 (nth (nth vss j) t) (et n (λx=>nx x j) t)
theorem TuI.upd{S:Nat->Prop}{O O':Nat->Nat}{w w':ln}{sb:Nat}{nv tv fv bv:ix}{sr tr many n m:Nat}{nx:Nat->Nat->Nat}{ms:List ix}{a0:List (List ix)}(h:TuI O w sb nv tv fv bv sr tr many n m nx ms a0) 
  (u:LY S O w O' w') (h1:¬S 1) (h5:¬S 5) (h6:¬S 6):TuI O' w' sb nv tv fv bv sr tr many n m nx ms a0:=
 ⟨h.blk.upd u zd h1,h.row.upd u zd h6,h.len,h.lenv,λj hj=>⟨(h.at_ j hj).1.upd u zd h5,(h.at_ j hj).2.1,λt ht=>((h.at_ j hj).2.2 t ht).upd u zd h5⟩⟩
theorem J5:PD Md 325 130 1 24:=⟨underlying325,by kernel_rfl,zd⟩
theorem uY(B:Nat)(O:Nat->Nat)(w:ln)(sb:Nat)(nv tv bv:ix)(sr tr many:Nat)(rows:List (List Nat))(e2:List Nat)(hR:Nn B O w)(hB:Mo O w 1 sb #[nv,tv,nS,bv,.map (some sr),.map (some tr),nI ((many:Nat):Int)] 327) 
  (hn:RowsF O w nv rows) (hr:P6 rows e2) (hT:∀q,O q<2000) (f8:∀q,O q≠6) :
  Np Md 235 [nP sb] w λ_ w'=>
   ∃O' fv,LY (λq=>q=1\/q=5\/q=6\/2000<=q) O w O' w'/\Nn B O' w'/\Mo O' w' 1 sb #[nv,tv,fv,bv,.map (some sr),.map (some tr),nI ((many:Nat):Int)] 327/\FromO O' w' 5 fv rows.length (nxD rows):=by
 have g5:=hr.le;obtain⟨vs,b4,a',g4,c9⟩:=hn;apply L4 func235 ntmps235 rfl rfl;refine zh ?_;apply zlp (λz:Nat×(Nat->Nat)×World×ix×List ix×List (List ix)=>[(0,nP sb),(6,nI z.1)]) (λz=>z.2.2.1) (λz=>z.1<=37/\LY (λq=>q=1\/q=5\/q=6\/2000<=q) O w z.2.1 z.2.2.1/\Nn B z.2.1 z.2.2.1/\TuI z.2.1 z.2.2.1 sb nv tv z.2.2.2.1 bv sr tr many rows.length z.1 (nxD rows) z.2.2.2.2.1 z.2.2.2.2.2) (λz=>37-z.1) (0,O,w,nS,[],[]) ⟨L2 _,MD zd _ _,hR,hB,M4 _ _ _ _ _ _,rfl,rfl,λj hj=>absurd hj (L3 j)⟩;rintro⟨m,O2,w2,fv,ms,c5⟩ ⟨hm,b8,d9,hI⟩;dsimp only at hm b8 d9 hI ⊢;refine zh ?_;refine zC ?_ ?_
 ·intro c6;replace c6:m<37:=dT c6;have e4:=b4.upd a' b8;have e6:=a'.upd b8;have c1:w2.cell? ((nA sb 0).add 0)=some nv:=hI.blk.cell 0 rfl;refine zh ?_;apply yv GM nS zk rfl d9 2000 zd rows.length rfl rfl zo zo zo zo rfl;intro w3 O3 d' d5 d7 g0 g7;have e1:=hI.upd d7 zd zd zd;have e3:=e4.upd e6 d7;have c3:w3.cell? ((nA sb 0).add 0)=some nv:=e1.blk.cell 0 rfl;refine zh ?_;apply zlp (λy:Nat×(Nat->Nat)×World×List ix=>[(0,nP sb),(2,nI (m:Nat)),(3,d'),(6,nI (m:Nat)),(20,nv),(21,nI vs.length),(22,nI y.1)]) (λy=>y.2.2.1) (λy=>y.1<=rows.length/\LY (λq=>q=1\/q=5\/q=6\/2000<=q) O w y.2.1 y.2.2.1/\Nn B y.2.1 y.2.2.1/\TuI y.2.1 y.2.2.1 sb nv tv fv bv sr tr many rows.length m (nxD rows) ms c5/\Ms Bs 22 1 y.2.1 y.2.2.1 2000 d' y.2.2.2/\y.2.2.2.length=rows.length/\∀t,t<rows.length->Ms bm 3 1 y.2.1 y.2.2.1 (3000+t) (nth y.2.2.2 t) (et y.1 (λx=>nxD rows x m) t)) (λy=>rows.length-y.1) (0,O3,w3,L1 rows.length nS) ⟨L2 _,b8.trans (d7.mono (λ_ h=>zo) zd),g0,e1,d5,by simp,λt ht=>by rw[aB (by simpa using ht)];simp only[List.getElem_replicate];exact M4 _ _ _ _ _ _⟩;rintro⟨i,O4,w4,bs⟩ ⟨hi,b7,d8,a8,a0,b1,a6⟩;dsimp only at hi b7 d8 a8 a0 b1 a6 ⊢;have c8:=b4.upd a' b7;refine zh ?_;refine zC ?_ ?_
  ·intro b2;replace b2:i<rows.length:=dT b2;obtain⟨d2,b0⟩:=c9 i b2;have d1:=d2.upd b0 b7;obtain⟨r1,r2⟩:=hr.row i b2;obtain⟨to,b5⟩:∃to,to=nxD rows i m:=⟨_,rfl⟩
   have c':to<rows.length:=by rw[b5];exact r2 m c6
   have m1:w4.cell? (adr nv 1 i)=some (nth vs i):=by have:=c8.cell (i:=i) (j:=0) zo rfl;rwa[aA]at this
   refine zh ?_;have k1:w4.drew.cell? (adr (nth vs i) 1 m)=some (nI (to:Int)):=by have:=d1.cell (i:=m) (j:=0) zo rfl;rw[aA]at this;rw[b5];exact this
   have g1:w4.drew.cell? (adr d' 1 to)=some (nth bs to):=by have:=a0.sl.cell (i:=to) (j:=0) zo rfl;rwa[aA]at this
   have f7:LY (λ_=>False) O4 w4 O4 w4.drew:=ae (λh=>h) O4 (M7 w4).drew;apply aQ (λW=>W.cell? (adr (nth vs i) 1 m)=some (nI (to:Int))) 17 rfl zk;apply zrm 0 rfl k1 rfl;apply zrm 1 rfl k1 rfl;apply zrm 2 rfl k1 rfl;apply zr 3 rfl k1 (λ_=>aC d1.sh L0 (L7 _) rfl rfl m rfl zo);apply zt 4 rfl k1 (λw1 c7=>RV.ld c7 rfl);apply zrm 5 rfl k1 rfl;apply zrm 6 rfl k1 rfl;apply zrm 7 rfl k1 rfl;apply zr 8 rfl k1 (λ_=>aC d1.sh L0 (L7 _) rfl rfl m rfl zo);apply zt 9 rfl k1 (λw1 c7=>RV.ld c7 rfl);apply zr 10 rfl k1 (λ_=>aC a0.sl.sh Nr (Ny _) rfl rfl to rfl zo);apply zrm 12 rfl k1 rfl;apply cC 11 13 lB (enc:=bm) i rfl rfl zk zk zk zk (λW hE=>Qd (hE.cell g1) (isAgg22 _) rfl) (λW hE=>hE.cell k1) rfl rfl rfl zd rfl rfl rfl rfl rfl;intro g3 w5 d0 g2;have f6:LY (λ_=>False) O4 w4.drew O4 w5:=ae (λh=>h) O4 g2;have a4:=f7.trans f6;have g6:=C5 i (λx=>nxD rows x m) to;apply Mh 14 zk rfl;apply aD lB ((a6 to c').upd a4 zo (λh=>h)) (d8.upd a4) d0 (by simp) rfl rfl (by simp) (by simp[L6]) (by rw[L9];omega) (by rw[L9];omega) zo rfl;intro v6 w6 O6 e0 a5 f9
   have a7:LY (λq=>q=1\/q=5\/q=6\/2000<=q) O w O6 w6:=(b7.trans (a4.mono (λ_ h=>h.elim) zd)).trans (a5.mono (λ_ h=>zo) zd);have k6:w6.cell? (adr (nth vs i) 1 m)=some (nI (to:Int)):=by have:=(d2.upd b0 a7).cell (i:=m) (j:=0) zo rfl;rw[aA]at this;rw[b5];exact this
   have d4:=(a0.upd a4 zd (λh=>h)).upd a5 zd zo;refine zh ?_;apply aa k6;apply zr 15 rfl k6 (λ_=>aC a0.sl.sh Nr (Ny _) rfl rfl to rfl zo);apply Mh 16 zk rfl;apply MU d4 to zo v6 (Ny _) e0.one zd rfl rfl rfl rfl;intro w7 d3 b6;have b9:LY (λq=>q=1\/q=5\/q=6\/2000<=q) O w O6 w7:=a7.trans (b6.mono (λ_ h=>zo) zd);have k7:w7.cell? (adr (nth vs i) 1 m)=some (nI (to:Int)):=by have:=(d2.upd b0 b9).cell (i:=m) (j:=0) zo rfl;rw[aA]at this;rw[b5];exact this
   refine zh ?_;apply aa k7
   apply Nm zk;refine zh ?_
   refine zxd (i+1,O6,w7,bs.set to v6) ⟨b2,b9,f9.upd b6,((a8.upd a4 (λh=>h) (λh=>h) (λh=>h)).upd a5 zo zo zo).upd b6 zd zd zd,d3,by dsimp only;rw[M9];exact b1,λt ht=>?_⟩
   ·dsimp only;rw[AX b2,bt zo,<-b5]
    by_cases e:t=to
    ·subst e;rw[if_pos rfl,if_pos rfl];exact e0.upd b6 zo zo
    rw[if_neg e,if_neg (λh=>e h.symm),Mk];exact(((a6 t ht).upd a4 zo (λh=>h)).upd a5 zo zo).upd b6 zo zo
  intro e9;obtain rfl:i=rows.length:=dF e9;obtain⟨ba,bc,e',_⟩:=a0.sl.shape;subst e';have e7:=a8.len;have f4:w4.cell? (nA sb 2)=some fv:=a8.blk.cell 2 rfl;refine zh ?_;apply MI J5 a8.row d8 ((.slice ba bs.length bc:ix)) (λ_=>rfl) rfl rfl rfl (by simp[L6]) zo zo zo zd rfl rfl;intro b' w5 O5 a9 b3 f';have d6:=a8.blk.upd b3 zd zd;refine zh ?_;apply ak (j:=2) d6 rfl (sizeOf325 _) a9.one rfl rfl rfl;have a5:LY (λj=>j=1) O5 w5 O5 (w5.setCell ⟨sb,2,none⟩ b'):=MB zd d6.tag rfl;have f3:Mo O5 (w5.setCell ⟨sb,2,none⟩ b') 1 sb #[nv,tv,b',bv,.map (some sr),.map (some tr),nI ((many:Nat):Int)] 327:=d6.set 2 _;generalize w5.setCell ⟨sb,2,none⟩ b'=w6 at *;have a7:LY (λq=>q=1\/q=5\/q=6\/2000<=q) O w O5 w6:=(b7.trans (b3.mono (λ_ h=>zo) zd)).trans (a5.mono (λ_ h=>zo) zd);obtain⟨f,hf⟩:∃f:Nat->Nat,f=λt=>if 2000<=t then 5 else t:=⟨_,rfl⟩
  have f2:∀t,t<2000->f t=t:=λt ht=>by rw[hf];exact if_neg zo
  have f5:∀t,2000<=t->f t=5:=λt ht=>by rw[hf];exact if_pos ht
  refine zh ?_;refine zxd (m+1,reF f O5,w6,b',ms++[.slice ba bs.length bc],c5++[bs]) ⟨c6,a7.re f (f2 0 zd) (λb _=>f2 _ (hT b)),(f'.upd a5).re f (f2 0 zd),⟨f3.re f (f2 1 zd),(a9.upd a5 zd zd).re f (f2 6 zd),by simp[e7],by simp[a8.lenv],λj hj=>?_⟩⟩
  ·have e5:=a8.lenv;rw[ay,ay]
   by_cases e:j<m
   ·rw[if_pos zo,if_pos zo];obtain⟨a1,a2,a3⟩:=a8.at_ j e;exact⟨((a1.upd b3 zd zd).upd a5 zd zd).re f (f2 5 zd),a2,λt ht=>(((a3 t ht).upd b3 zd zd).upd a5 zd zd).re f (f2 5 zd)⟩
   obtain rfl:j=m:=zo;rw[if_neg zo,if_neg zo,show j-ms.length=0 from by omega,show j-c5.length=0 from by omega,ao,ao];exact⟨((a0.upd b3 zd zd).upd a5 zd zd).re f (f5 _ zd),b1,λt ht=>(((a6 t ht).upd b3 zo zo).upd a5 zo zo).re f (f5 _ zo)⟩
 intro e8;obtain rfl:m=37:=dF e8;refine zh ?_;refine aJ rfl ⟨reF (IB 6 5) O2,fv,b8.re _ rfl (λb _=>sx (f8 b)),d9.re _ rfl,hI.blk.re _ rfl,⟨ms,c5,hI.row.re _ rfl,hI.len,λm hm=>⟨(hI.at_ m hm).1.re _ rfl,(hI.at_ m hm).2.1,λt ht=>((hI.at_ m hm).2.2 t ht).re _ rfl⟩⟩⟩
end Go.Proofs.YteolbhblkgjbhaaGreatDoor
end
namespace Go.VL
theorem Fits.look{a:Qg}{st a0:St}(h:Fits N a st)(hs:∀t,cO a0 t=cO st t):Fits N a a0:=⟨h.size,h.defers,λt v hv=>h.get t v ((hs t).symm.trans hv)⟩
theorem fX{d1 d2 d3:Nat}(v1 v2 v3:ix)(st:St)(a2:Ni d1 d2=false)(a1:Ni d1 d3=false)(a0:Ni d2 d3=false)(t:Nat):
  (cO ((d3,v3)::(d2,v2)::(d1,v1)::st) t=cO ((d2,v2)::(d3,v3)::(d1,v1)::st) t)/\(cO ((d3,v3)::(d2,v2)::(d1,v1)::st) t=cO ((d3,v3)::(d1,v1)::(d2,v2)::st) t)/\
  (cO ((d3,v3)::(d2,v2)::(d1,v1)::st) t=cO ((d1,v1)::(d3,v3)::(d2,v2)::st) t)/\(cO ((d3,v3)::(d2,v2)::(d1,v1)::st) t=cO ((d2,v2)::(d1,v1)::(d3,v3)::st) t)/\(cO ((d3,v3)::(d2,v2)::(d1,v1)::st) t=cO ((d1,v1)::(d2,v2)::(d3,v3)::st) t):=by
 simp only[cO]
 cases h1:Ni d1 t<;>cases h2:Ni d2 t<;>cases h3:Ni d3 t<;>simp only[cond_true,cond_false,and_self] <;>
  first
  |(have e1:=Mq h1;have e2:=Mq h2;subst e1;subst e2;rw[P9]at a2;cases a2)
  |(have e1:=Mq h1;have e2:=Mq h3;subst e1;subst e2;rw[P9]at a1;cases a1)
  |(have e1:=Mq h2;have e2:=Mq h3;subst e1;subst e2;rw[P9]at a0;cases a0)
theorem pH{ops:Array Pf}{S:ln->Prop}{st:St}{a0:Array Bool}(i j k:Nat){o o' o2:Pf}(hr:Ml .any ops a0=[i,j,k])(hi:ops[i]? = some o)(hj:ops[j]? = some o')(hk:ops[k]? = some o2) 
  (h:WL P N ops (tD P ops S Q a1 (a0.setIfInBounds i true)) [o] st w) (h':WL P N ops (tD P ops S Q a1 (a0.setIfInBounds j true)) [o'] st w) (h2:WL P N ops (tD P ops S Q a1 (a0.setIfInBounds k true)) [o2] st w):WH P N ops S Q (a1+1) a0 st w:=
 WH.all [i,j,k] hr (by simp) λm hm q hq=>by
  simp only[LP,List.not_mem_nil,or_false]at hm
  rcases hm with rfl|rfl|rfl
  ·rw[hi]at hq;cases hq;exact h
  ·rw[hj]at hq;cases hq;exact h'
  rw[hk]at hq;cases hq;exact h2
theorem Bm{ops:Array Pf}{S:ln->Prop}{st:St}{b9:Nat}{a0:Array Bool}{T2 T3:Mf}{a5:Nat}{x:Pp} 
  {t t2 t3:Mf} {p p2 p3:String} {e e2 e3:Array Qe} {d1 d2 d3:Nat} (i j k:Nat) (he:PD P T E 1 a5)  {val:α->ix} (z0:α) (b1:(P.info? E).bind (·.zero)=some (val z0)) (h1:∀a,(val a).oneCell'=true)
  {κ' ν':Type} (kv:κ->ix) (vv:ν->ix) (a8:κ'->ix) (a6:ν'->ix)   (r:Nn B O w) (g1 g2 g3:Nat) (a3:g1≠0) (a2:g2≠0) (a1:g3≠0) (b0:g1≠g2) (a':g1≠g3) (a9:g2≠g3) (n:Nat)
  (hi:ops[i]? = some ⟨some d1,.makeSlice T x y,t,p,e,none⟩) (hj:ops[j]? = some ⟨some d2,.makeMap T2 none,t2,p2,e2,none⟩) (hk:ops[k]? = some ⟨some d3,.makeMap T3 none,t3,p3,e3,none⟩)
  (hr:Ml .any ops a0=[i,j,k]) (d5:Ml .any ops (a0.setIfInBounds i true)=[j,k]) (d4:Ml .any ops (a0.setIfInBounds j true)=[i,k]) (d0:Ml .any ops (a0.setIfInBounds k true)=[i,j])
  (b4:Ml .any ops ((a0.setIfInBounds i true).setIfInBounds j true)=[k]) (b3:Ml .any ops ((a0.setIfInBounds i true).setIfInBounds k true)=[j]) (b2:Ml .any ops ((a0.setIfInBounds j true).setIfInBounds k true)=[i])
  (c':(a0.setIfInBounds j true).setIfInBounds i true=(a0.setIfInBounds i true).setIfInBounds j true) (c9:(a0.setIfInBounds k true).setIfInBounds i true=(a0.setIfInBounds i true).setIfInBounds k true) (c8:(a0.setIfInBounds k true).setIfInBounds j true=(a0.setIfInBounds j true).setIfInBounds k true)
  (q1:((a0.setIfInBounds i true).setIfInBounds k true).setIfInBounds j true=((a0.setIfInBounds i true).setIfInBounds j true).setIfInBounds k true) (q2:((a0.setIfInBounds j true).setIfInBounds k true).setIfInBounds i true=((a0.setIfInBounds i true).setIfInBounds j true).setIfInBounds k true)
  (hS:∀O' W,LY (λq=>q=g1\/q=g2\/q=g3) O w O' W->S W) {m:Int} (hx:∀l,evs ((d2,l)::st) [x,y]=some [nI m,nI m]/\evs ((d3,l)::st) [x,y]=some [nI m,nI m]/\evs st [x,y]=some [nI m,nI m]/\(∀l',evs ((d3,l')::(d2,l)::st) [x,y]=some [nI m,nI m])/\∀l',evs ((d2,l')::(d3,l)::st) [x,y]=some [nI m,nI m])
  (hm:m=n) (hb:a5*n<=281474976710656) (b8:n<=9223372036854775807) (b7:NF d1 N=true) (b6:NF d2 N=true) (b5:NF d3 N=true) (c6:Ni d1 d2=false) (c5:Ni d1 d3=false) (b':Ni d2 d3=false)
  (h:∀bv sr tr W O',Ms (λx=>[val x]) E 1 O' W g1 bv (L1 n z0)->MT kv vv O' W g2 sr []->MT a8 a6 O' W g3 tr []->LY (λq=>q=g1\/q=g2\/q=g3) O w O' W->Nn B O' W->
   WH P N ops S Q b9 (((a0.setIfInBounds i true).setIfInBounds j true).setIfInBounds k true) ((d3,.map (some tr))::(d2,.map (some sr))::(d1,bv)::st) W):WH P N ops S Q (b9+3) a0 st w:=by
 have two:∀ {a7:St} {m:Int},evs a7 [x,y]=some [nI m,nI m]->ev a7 x=some (nI m)/\ev a7 y=some (nI m):=fun {a7 m} h=>by
  simp only[evs]at h
  cases h1:ev a7 x<;>cases h2:ev a7 y<;>rw[h1,h2]at h<;>simp at h ⊢
  exact h
 have c7:¬(λq=>q=g1\/q=g2\/q=g3) 0:=by rintro(h|h|h)<;>omega
 have o1:∀ {O O':Nat->Nat} {w w':ln},LY (λq=>q=g1) O w O' w'->LY (λq=>q=g1\/q=g2\/q=g3) O w O' w':=λh=>h.mono (λ_ h=>.inl h) c7
 have o2:∀ {O O':Nat->Nat} {w w':ln},LY (λq=>q=g2) O w O' w'->LY (λq=>q=g1\/q=g2\/q=g3) O w O' w':=λh=>h.mono (λ_ h=>.inr (.inl h)) c7
 have o3:∀ {O O':Nat->Nat} {w w':ln},LY (λq=>q=g3) O w O' w'->LY (λq=>q=g1\/q=g2\/q=g3) O w O' w':=λh=>h.mono (λ_ h=>.inr (.inr h)) c7
 refine pH i j k hr hi hj hk ?_ ?_ ?_
 ·refine dG he z0 b1 h1 r g1 a3 n (two ((hx default).2.2.1)).1 (two ((hx default).2.2.1)).2 hm hm hb b8 b7 λwr Or vr _ fr ur rr _=>Mv (aa (hS Or wr (o1 ur)) ?_)
  refine bB j k d5 hj hk ?_ ?_
  ·refine bA kv vv rr g2 a2 b6 λva wa Oa fa ua ra=>Mv (aa (hS Oa wa ((o1 ur).trans (o2 ua))) ?_)
   apply Mh k b4 hk;refine bA a8 a6 ra g3 a1 b5 λvb wb Ob fb ub rb=>Mv (aa (hS Ob wb (((o1 ur).trans (o2 ua)).trans (o3 ub))) ?_)
   exact h vr va vb wb Ob ((fr.upd ua a3 b0).upd ub a3 a') (fa.upd ub a2 a9) fb (((o1 ur).trans (o2 ua)).trans (o3 ub)) rb
  refine bA a8 a6 rr g3 a1 b5 λvb wb Ob fb ub rb=>Mv (aa (hS Ob wb ((o1 ur).trans (o3 ub))) ?_)
  apply Mh j b3 hj;refine bA kv vv rb g2 a2 b6 λva wa Oa fa ua ra=>Mv (aa (hS Oa wa (((o1 ur).trans (o3 ub)).trans (o2 ua))) ?_)
  exact by rw[q1];exact λac a4=>h vr va vb wa Oa ((fr.upd ub a3 a').upd ua a3 b0) fa (fb.upd ua a1 (λh=>a9 h.symm)) (((o1 ur).trans (o3 ub)).trans (o2 ua)) ra ac (a4.look λt=>(fX vr (.map (some va)) (.map (some vb)) st c6 c5 b' t).1)
 ·refine bA kv vv r g2 a2 b6 λva wa Oa fa ua ra=>Mv (aa (hS Oa wa (o2 ua)) ?_)
  refine bB i k d4 hi hk ?_ ?_
  ·refine dG he z0 b1 h1 ra g1 a3 n (two ((hx _).1)).1 (two ((hx _).1)).2 hm hm hb b8 b7 λwr Or vr _ fr ur rr _=>Mv (aa (hS Or wr ((o2 ua).trans (o1 ur))) ?_)
   apply Mh k (by rw[c'];exact b4) hk;refine bA a8 a6 rr g3 a1 b5 λvb wb Ob fb ub rb=>Mv (aa (hS Ob wb (((o2 ua).trans (o1 ur)).trans (o3 ub))) ?_)
   exact by rw[c'];exact λac a4=>h vr va vb wb Ob (fr.upd ub a3 a') ((fa.upd ur a2 (λh=>b0 h.symm)).upd ub a2 a9) fb (((o2 ua).trans (o1 ur)).trans (o3 ub)) rb ac (a4.look λt=>(fX vr (.map (some va)) (.map (some vb)) st c6 c5 b' t).2.1)
  refine bA a8 a6 ra g3 a1 b5 λvb wb Ob fb ub rb=>Mv (aa (hS Ob wb ((o2 ua).trans (o3 ub))) ?_)
  apply Mh i b2 hi;refine dG he z0 b1 h1 rb g1 a3 n (two ((hx _).2.2.2.1 _)).1 (two ((hx _).2.2.2.1 _)).2 hm hm hb b8 b7 λwr Or vr _ fr ur rr _=>Mv (aa (hS Or wr (((o2 ua).trans (o3 ub)).trans (o1 ur))) ?_)
  exact by rw[q2];exact λac a4=>h vr va vb wr Or fr ((fa.upd ub a2 a9).upd ur a2 (λh=>b0 h.symm)) (fb.upd ur a1 (λh=>a' h.symm)) (((o2 ua).trans (o3 ub)).trans (o1 ur)) rr ac (a4.look λt=>(fX vr (.map (some va)) (.map (some vb)) st c6 c5 b' t).2.2.1)
 refine bA a8 a6 r g3 a1 b5 λvb wb Ob fb ub rb=>Mv (aa (hS Ob wb (o3 ub)) ?_)
 refine bB i j d0 hi hj ?_ ?_
 ·refine dG he z0 b1 h1 rb g1 a3 n (two ((hx _).2.1)).1 (two ((hx _).2.1)).2 hm hm hb b8 b7 λwr Or vr _ fr ur rr _=>Mv (aa (hS Or wr ((o3 ub).trans (o1 ur))) ?_)
  apply Mh j (by rw[c9];exact b3) hj;refine bA kv vv rr g2 a2 b6 λva wa Oa fa ua ra=>Mv (aa (hS Oa wa (((o3 ub).trans (o1 ur)).trans (o2 ua))) ?_)
  exact by rw[c9,q1];exact λac a4=>h vr va vb wa Oa (fr.upd ua a3 b0) fa ((fb.upd ur a1 (λh=>a' h.symm)).upd ua a1 (λh=>a9 h.symm)) (((o3 ub).trans (o1 ur)).trans (o2 ua)) ra ac (a4.look λt=>(fX vr (.map (some va)) (.map (some vb)) st c6 c5 b' t).2.2.2.1)
 refine bA kv vv rb g2 a2 b6 λva wa Oa fa ua ra=>Mv (aa (hS Oa wa ((o3 ub).trans (o2 ua))) ?_)
 apply Mh i (by rw[c8];exact b2) hi;refine dG he z0 b1 h1 ra g1 a3 n (two ((hx _).2.2.2.2 _)).1 (two ((hx _).2.2.2.2 _)).2 hm hm hb b8 b7 λwr Or vr _ fr ur rr _=>Mv (aa (hS Or wr (((o3 ub).trans (o2 ua)).trans (o1 ur))) ?_)
 exact by rw[c8,q2];exact λac a4=>h vr va vb wr Or fr (fa.upd ur a2 (λh=>b0 h.symm)) ((fb.upd ua a1 (λh=>a9 h.symm)).upd ur a1 (λh=>a' h.symm)) (((o3 ub).trans (o2 ua)).trans (o1 ur)) rr ac (a4.look λt=>(fX vr (.map (some va)) (.map (some vb)) st c6 c5 b' t).2.2.2.2)
theorem iM{ops:Array Pf}{S:ln->Prop}{st:St}{a3:Nat}{a1:Array Bool}(f:α->St)(g:α->ln)(I:α->Prop)(a0:Array Bool)(a2:Nat) 
 (h1:(∀x,I x->WH P N ops S Q a2 a0 (f x) (g x))->WH P N ops S Q a3 a1 st w) (h2:∀x,I x->WH P N ops S Q a2 a0 (f x) (g x)):WH P N ops S Q a3 a1 st w:=h1 h2
theorem WH.leaf{ops:Array Pf}{S:ln->Prop}{st a3:St}{a2:Nat}{a1 a0:Array Bool}(h:WH P N ops S Q a2 a0 a3 w')(hl:a1=a0)(hc:Cov st a3)(hw:w'=w):WH P N ops S Q a2 a1 st w:=by
 subst hl;subst hw;exact λa ha=>h a (ha.cov hc)
end Go.VL
namespace Go.Proofs.YteolbhblkgjbhaaGreatDoor
theorem I2{E:List KVR}(h:(E.map (·.1)).Nodup)(hj:j<E.length):jn E (nth E j).1=some j:=by
 rw[<-eE];refine Me.2 ⟨by simpa using hj,by simp[aB hj],λi hi=>?_⟩;have:=Nc.1 h i j (by simp;omega) (by simpa using hj) hi;simp only[Pv]at this ⊢;rw[aB hj];simpa using this
theorem Io{E:List KVR}(h:(E.map (·.1)).Nodup)(hj:j<E.length):dQ E (nth E j).1=(nth E j).2.2/\DV E (nth E j).1=(nth E j).2.1:=by
 unfold dQ DV;rw[lH,I2 h hj];simp only[Pk,List.getElem?_eq_getElem hj,Po,Pj,aB hj,and_self]
structure BlI(w0:ln)(nv tv:ix)(rows:List (List Nat))(tls:List Nat)(sb:Nat)(fv bv:ix)(sr tr tb b0 m0:Nat)(O:Nat->Nat)(W:ln)(bl:List Nat)(E:List KVR)(td:List ((Int×Int)×Bool))(many:Nat):Prop where
 upd:LY (λq=>1<=q) (λ_=>0) w0 O W
 rng:Nn w0.heap.size O W
 sp:SpO O W sb nv tv fv bv sr tr rows.length (nxD rows) bl E td many
 tb:Mo O W 8 tb #[nI (b0:Nat),nI (m0:Nat)] 328
 low:∀q,O q<2000
def BlT(rows:List (List Nat))(a0:List Nat)(b0 m0:Nat)(fl:Bool)(bl:List Nat)(E:List KVR)(td:List ((Int×Int)×Bool))(many:Nat):Prop:=
 (fl=true->∃td0,BO (nxD rows) (nth a0) rows.length bl E td0 many/\td=qn td0 ((b0:Int),(m0:Int))/\b0<many/\m0<37)/\(fl=false->BO (nxD rows) (nth a0) rows.length bl E [] many)
structure BiI(w0:ln)(nv tv:ix)(rows:List (List Nat))(tls:List Nat)(sb:Nat)(fv bv:ix)(sr tr tb b0 m0 r q many0 M:Nat)(bl0:List Nat)(G:List KVR)(O:Nat->Nat)(W:ln)(left:List (Int×ix))(cur:Option (Int×ix))(bl:List Nat)(E:List KVR)(td:List ((Int×Int)×Bool))(many:Nat):Prop where
 upd:LY (λq=>1<=q) (λ_=>0) w0 O W
 rng:Nn w0.heap.size O W
 sp:SpO O W sb nv tv fv bv sr tr rows.length (nxD rows) bl E td many
 tb:Mo O W 8 tb #[nI (b0:Nat),nI (m0:Nat)] 328
 rg:Qb (λk:Int=>nI k) (λv:ix=>v) O W 2000 2001 r q left cur
 gr:∀k,k<G.length->(nth G k).1∈left.map (·.1)->Ms bm 3 1 O W (3000+k) (nth G k).2.1 (nth G k).2.2
 bi:BI (nxD rows) (nth tls) rows.length bl0 m0 b0 many0 left bl E td many
 ms:(rows.length-many)*37+td.length<=M
 sub:∀e∈left,e∈G.map vi
theorem DU{rows:List (List Nat)}{E:List KVR}(h:BO (nxD rows) (nth a0) rows.length bl E td many){a2 a1:List ((Int×Int)×Bool)}{k:Int×Int}{x:Bool}(e:td=a2++(k,x)::a1):
  ∃b0 m0:Nat,k=((b0:Int),(m0:Int))/\BlT rows a0 b0 m0 true bl E (qn td k) many/\(qn td k).length+1=td.length:=by
 have hm:(k,x)∈td:=by rw[e];simp
 obtain⟨c,j,h1,h2,h3⟩:=h.tdr _ hm;dsimp only at h3;exact⟨c,j,h3,⟨λ_=>⟨td,h,by rw[h3],h1,h2⟩,λe=>absurd e zd⟩,Ad k x td hm⟩
theorem RightD.nx{rows:List (List Nat)}(h:P6 rows a0):∀p m,p<rows.length->m<37->nxD rows p m<rows.length:=λp m hp hm=>(h.row p hp).2 m hm
theorem SpO.todoN{S:Nat->Prop}{nv tv fv bv:ix}{nx:Nat->Nat->Nat}{E:List KVR}{a0:List ((Int×Int)×Bool)}(h:SpO O w sb nv tv fv bv sr tr n nx bl E td many) 
  (u:LY S O w O' w') (hS:∀k,0<k->k<10+E.length->k≠4->k≠8->k≠9->¬S k) (ht:MT eB Ma O' w' 4 tr a0):SpO O' w' sb nv tv fv bv sr tr n nx bl E a0 many:=
 ⟨h.blk.upd u zd (hS 1 zo zo zo zo zo),h.row.upd u zd (hS 2 zo zo zo zo zo),⟨h.st.map.upd u zd (hS 3 zo zo zo zo zo),λk hk=>(h.st.row k hk).upd u zo (hS _ zo zo zo zo zo)⟩,ht,h.frm.upd u zd (hS 5 zo zo zo zo zo)⟩
theorem SpO.reN{nv tv fv bv:ix}{nx:Nat->Nat->Nat}{E:List KVR}(h:SpO O w sb nv tv fv bv sr tr n nx bl E td many) 
  (f:Nat->Nat) (hf:∀t,t<10+E.length->t≠8->t≠9->f t=t):SpO (reF f O) w sb nv tv fv bv sr tr n nx bl E td many:=
 ⟨h.blk.re f (hf 1 zo zo zo),h.row.re f (hf 2 zo zo zo),⟨h.st.map.re f (hf 3 zo zo zo),λk hk=>(h.st.row k hk).re f (hf _ zo zo zo)⟩,h.todo.re f (hf 4 zo zo zo),h.frm.re f (hf 5 zo zo zo)⟩
def nxF:Nat->Nat:=λt=>if t=9 then 8 else if t=8 then 0 else if t<2000 then t else 0
theorem JP(h:t<2000)(h8:t≠8)(h9:t≠9):nxF t=t:=by unfold nxF;rw[if_neg h9,if_neg h8,if_pos h]
theorem JO(t:Nat):nxF t<2000:=by unfold nxF;split;omega;split;omega;split<;>omega
theorem vd(nv tv:ix)(rows:List (List Nat))(b5:List Nat)(w:ln)(hn:P5 w nv rows)(m4:Sl jh 1 w tv b5)(hr:P6 rows b5):
  Np Md 185 [.agg #[nv,tv]] w λv w'=>
   ∃bl,Sl bm 1 w' v bl/\MZ w w'/\bl.length=rows.length/\(∀p q,p<rows.length->q<rows.length->(nth bl p=nth bl q↔Alike (nxD rows) (nth b5) p q))/\∀(B:Nat) (O:Nat->Nat),Nn B O w->NH O w' v:=by
 have t9:=hr.le;have o8:=hr.pos;have e6:=hr.tl;have d9:=hr.nx;have o9:=hn.free;have g2:NH (λ_=>0) w tv:=m4.free0 λa=>by simp
 obtain⟨vs,i6,i7,t5,o3⟩:=o9;apply L4 func185 ntmps185 rfl rfl;refine zh ?_;apply aN (ax w) 7 zo rfl rfl;intro db w1 O1 i1 n3 s4 u5;have c0:w1.cell? (nA db 0)=some nv:=i1.cell 0 rfl;have i5:=i6.upd i7 n3;refine zh ?_;apply aQ (λW=>∀j u,[nv,tv][j]? = some u->W.cell? (nA db j)=some u) 10 rfl zk;refine zin i1.drew.cellsAdd λzS=>?_
 apply zt 0 rfl zS (λw1 i4=>ai (us:=[nv,tv]) i4 (Nl _) (MO _) rfl);apply zrf 1 rfl zS rfl
 apply zt 2 rfl zS (λw1 i4=>RV.ld (i4 0 _ rfl) rfl);apply zr 3 rfl zS (λ_=>bH i5.sh Nr rfl)
 apply Bm 4 5 6 lB (val:=λn:Nat=>nI (n:Int)) (0:Nat) zk (λ_=>rfl) (λk:Int=>nI k) (λv:ix=>v) eB Ma s4.drew 2 3 4 zd zd zd zd zd zd rows.length rfl rfl rfl zk zk zk zk zk zk zk zk zk zk zk zk (λO' W u=>(i1.drew.upd u zd zd).cellsAdd) (λl=>⟨rfl,rfl,rfl,λ_=>rfl,λ_=>rfl⟩) zo zo zo rfl rfl rfl rfl rfl rfl;intro bv sr tr w4 O4 c5 j7 j1 n2 s3;have d3:=i1.drew.upd n2 zd zd;obtain⟨ba,bc,p',_⟩:=c5.sl.shape;apply zr 7 rfl d3.cellsAdd (λ_=>RV.build (cells:=#[nv,tv,nS,bv,.map (some sr),.map (some tr),nI 0]) KC (zeroValue327 _) rfl (by rw[p'];rfl))
 apply Mh 8 zk rfl;apply aN s3 1 zd rfl rfl
 intro sb w5 O5 r7 d' s2 u4;refine zh ?_;apply aa ((d3.upd d' zd zd).cellsAdd);have f9:=c5.upd d' zd zd;have j6:=j7.upd d' zd zd;have j0:=j1.upd d' zd zd;have l5:LY (λq=>1<=q) (λ_=>0) w O5 w5:=((n3.mono (λ_ h=>zo) zd).trans (Upd.ofDrew (n2.mono (λ_ h=>zo) zd))).trans (d'.mono (λ_ h=>zo) zd);obtain⟨f,hf⟩:∃f:Nat->Nat,f=λt=>if t<=7 then t else 0:=⟨_,rfl⟩
 have f7:∀t,t<=7->f t=t:=λt ht=>by rw[hf];exact if_pos ht
 have s8:∀t,f t<=7:=λt=>by rw[hf];dsimp only;split<;>omega
 have l2:=l5.re f (f7 0 zd) (λb hb=>absurd rfl hb);apply zra 9 rfl ((d3.upd d' zd zd).cellsAdd) rfl;apply Nm zk;refine zh ?_;apply zc call234 (xW w.heap.size (reF f O5) w5 sb nv tv bv sr tr b5 (s2.re f (f7 0 zd)) (r7.re f (f7 1 zd)) (by rw[e6];exact f9.re f (f7 2 zd)) ⟨j6.re f (f7 3 zd),λk hk=>absurd hk (L3 k)⟩ (j0.re f (f7 4 zd)) (m4.upd g2 l2) (g2.upd l2) zo (λq=>by have:=s8 (O5 q);show f (O5 q)<2000;omega));rintro _ w6 ⟨O6,D,bl,E,many,td,r9,s1,r6,f8,e',i',hF,hI⟩;have m8:=hF.mi;obtain⟨g,hg⟩:∃g:Nat->Nat,g=λt=>if t<=4\/10<=t/\t<2000 then t else 0:=⟨_,rfl⟩
 have g1:∀t,(t<=4\/10<=t/\t<2000)->g t=t:=λt ht=>by rw[hg];exact if_pos ht
 have n8:∀t,g t<2000/\g t≠6/\g t≠5:=λt=>by rw[hg];dsimp only;split<;>omega
 have g9:=(l2.trans (r9.mono (λ_ h=>zo) zd)).re g (g1 0 zd) (λb hb=>absurd rfl hb);have m6:RowsF (reF g O6) w6 nv rows:=hn.free.upd g9;refine zh ?_;apply zc call235 (uY w.heap.size (reF g O6) w6 sb nv tv bv sr tr many rows b5 (s1.re g (g1 0 zd)) (r6.re g (g1 1 zd)) m6 hr (λq=>(n8 _).1) (λq=>(n8 _).2.1));rintro _ w7 ⟨O7,fv,g5,s0,q',k9⟩;obtain⟨f3,m'⟩:∃f:Nat->Nat,f=λt=>if t<2000 then t else 0:=⟨_,rfl⟩
 have b4:∀t,t<2000->f3 t=t:=λt ht=>by rw[m'];exact if_pos ht
 have f3lt:∀t,f3 t<2000:=λt=>by rw[m'];dsimp only;split<;>omega
 have l4:=(g9.trans (g5.mono (λ_ h=>zo) zd)).re f3 (b4 0 zd) (λb hb=>absurd rfl hb);have u2:=hF.keys.len;have b8:SpO (reF f3 O7) w7 sb nv tv fv bv sr tr rows.length (nxD rows) bl E td many:=⟨q'.re f3 (b4 1 zd),((f8.re g (g1 2 zd)).upd g5 zd zd).re f3 (b4 2 zd),⟨((e'.map.re g (g1 3 zd)).upd g5 zd zd).re f3 (b4 3 zd),λk hk=>(((e'.row k hk).re g (g1 _ zo)).upd g5 zo zo).re f3 (b4 _ zo)⟩,((i'.re g (g1 4 zd)).upd g5 zd zd).re f3 (b4 4 zd),k9.re f3 (b4 5 zd)⟩
 rw[e6]at hF;have h6:BO (nxD rows) (nth b5) rows.length bl E td many:=hF.bo hI d9;have g':=s0.re f3 (b4 0 zd);have t':∀q,reF f3 O7 q<2000:=λq=>f3lt _
 generalize reF f3 O7=O8 at *;refine zh ?_;apply zc call236 (qO w.heap.size O8 w7 sb tr td g' (.inr ⟨b8.blk.tag,b8.blk.cell 5 rfl⟩) b8.todo);intro vn w8 j8;have hq:∃b0 m0 fl b',vn=.tuple #[eB ((b0:Nat),(m0:Nat)),.bool fl]/\LY (λq=>q=4) O8 w7 O8 w8/\MT eB Ma O8 w8 4 tr b'/\BlT rows b5 b0 m0 fl bl E b' many:=by
  rcases j8 with⟨h0,rfl,h1,h2⟩|⟨d8,k,x,d7,e,rfl,h1,h2⟩
  ·rw[h0]at h2 h6;exact⟨0,0,false,[],rfl,h1,h2,⟨λe=>absurd e zd,λ_=>h6⟩⟩
  obtain⟨b0,m0,rfl,h3,_⟩:=DU h6 e;exact⟨b0,m0,true,_,rfl,h1,h2,h3⟩
 obtain⟨b0,m0,fl,b',rfl,n1,i9,s7⟩:=hq;refine zh ?_;apply ar (g'.upd n1) 8 zo (MM _) rfl;intro tb w9 O9 d0 n0 r' u3;apply zsa (us:=#[nI (b0:Nat),nI (m0:Nat)]) d0 (MN _);have e9:=d0.setRow (us:=#[nI (b0:Nat),nI (m0:Nat)]);have d5:LY (λk=>k=8) O9 w9 O9 (w9.setRow tb #[nI (b0:Nat),nI (m0:Nat)]):=M1 zd d0.tag rfl;generalize w9.setRow tb #[nI (b0:Nat),nI (m0:Nat)]=w10 at *;have c7:LY (λq=>q=4\/q=8) O8 w7 O9 w10:=((n1.mono (λ_ h=>.inl h) zd).trans (n0.mono (λ_ h=>.inr h) zd)).trans (d5.mono (λ_ h=>.inr h) zd);have f6:=b8.todoN c7 zo ((i9.upd n0 zd zd).upd d5 zd zd);have n7:=h6.keys.len;have t8:=h6.blk.many_le;have f3i:∀t,t<10+E.length->t≠8->t≠9->f3 t=t:=λt h _ _=>b4 t zo
 clear m6 hF hI;refine zh ?_;apply zlp (λz:(Nat->Nat)×World×List Nat×List KVR×List ((Int×Int)×Bool)×Nat×Nat×Nat×Nat×Bool=>[(3,nP sb),(4,.pointer (some ⟨z.2.2.2.2.2.2.1,0,none⟩)),(5,.bool z.2.2.2.2.2.2.2.2.2)]) (λz=>z.2.1) (λz=>BlI w nv tv rows b5 sb fv bv sr tr z.2.2.2.2.2.2.1 z.2.2.2.2.2.2.2.1 z.2.2.2.2.2.2.2.2.1 z.1 z.2.1 z.2.2.1 z.2.2.2.1 z.2.2.2.2.1 z.2.2.2.2.2.1/\BlT rows b5 z.2.2.2.2.2.2.2.1 z.2.2.2.2.2.2.2.2.1 z.2.2.2.2.2.2.2.2.2 z.2.2.1 z.2.2.2.1 z.2.2.2.2.1 z.2.2.2.2.2.1) (λz=>(rows.length-z.2.2.2.2.2.1)*37+z.2.2.2.2.1.length+z.2.2.2.2.2.2.2.2.2.toNat) (reF f3 O9,w10,bl,E,b',many,tb,b0,m0,fl) ⟨⟨(l4.trans (c7.mono (λ_ h=>zo) zd)).re f3 (b4 0 zd) (λb hb=>absurd rfl hb),(r'.upd d5).re f3 (b4 0 zd),f6.reN f3 f3i,e9.re f3 (b4 8 zd),λq=>f3lt _⟩,s7⟩;rintro⟨O11,e4,e2,E1,i3,a9,h7,b1,m1,s'⟩ ⟨hI,hT⟩;dsimp only at hI hT ⊢;refine zh ?_
 cases s' with
 |false=>
  have g3:=hT.2 rfl;have cb:e4.cell? (nA sb 3)=some bv:=hI.sp.blk.cell 3 rfl;refine zFH rfl rfl ?_;refine af rfl rfl ⟨e2,hI.sp.row.sl,hI.upd.ext,g3.blk.len,λp q hp hq=>g3.final d9 p q hp hq,λB O hO=>hI.sp.row.free zd hI.rng hO⟩
 |true=>
  obtain⟨t2,a5,j2,l1,g0⟩:=hT.1 rfl;have p6:=a5.keys;have p4:=p6.len;have p1:=a5.blk.many_le;have b7:=a5.blk.mem b1 l1;have n':e4.cell? ⟨h7,0,none⟩=some (nI (b1:Nat)):=hI.tb.cell 0 rfl;have n9:e4.cell? ⟨h7,1,none⟩=some (nI (m1:Nat)):=hI.tb.cell 1 rfl;refine zTH rfl rfl ?_;apply zv (fO MV (L7 _) rfl rfl 0 rfl zd);apply zv (RV.ld (by first|exact n'|exact n9) rfl);apply zv (fO MV (L7 _) rfl rfl 1 rfl zd);apply zv (RV.ld (by first|exact n'|exact n9) rfl);apply zc call237 (xV w.heap.size O11 e4 sb nv tv fv bv sr tr rows.length (nxD rows) e2 E1 i3 a9 b1 m1 hI.rng hI.sp zo g0 (λx hx=>((b7 x).1 hx).1) zo a5.blk.len (a5.blk.nd b1 l1) hI.low);rintro _ t1 ⟨r,O12,G,rfl,l3,l8,hG,hL⟩;apply pG hG.map Mb l8 2001 zd zd rfl rfl;intro q m2 O13 o7 p2 g8 l7;have a8:LY (λq=>2000<=q) O11 e4 O13 m2:=l3.trans (g8.mono (λ_ h=>zo) zd);have n6:∀k,k∈(G.map vi).map (·.1)↔k∈G.map (·.1):=λk=>by rw[NA];rfl
  have s5:((G.map vi).map (·.1)).Nodup:=by rw[NA];exact hL.nd
  obtain⟨M,hM⟩:∃M,M=(rows.length-a9)*37+i3.length:=⟨_,rfl⟩
  refine zh ?_;refine zlp (λy:(Nat->Nat)×World×List (Int×ix)×Option (Int×ix)×List Nat×List KVR×List ((Int×Int)×Bool)×Nat=>[(3,nP sb),(4,nP h7),(38,nP q)]) (λy=>y.2.1) (λy=>BiI w nv tv rows b5 sb fv bv sr tr h7 b1 m1 r q a9 M e2 G y.1 y.2.1 y.2.2.1 y.2.2.2.1 y.2.2.2.2.1 y.2.2.2.2.2.1 y.2.2.2.2.2.2.1 y.2.2.2.2.2.2.2) (λy=>y.2.2.1.length) (O13,m2,G.map vi,none,e2,E1,i3,a9) ⟨hI.upd.trans (a8.mono (λ_ h=>zo) zd),l7,hI.sp.upd a8 zo,hI.tb.upd a8 zd zd,o7,λk hk _=>(hG.row k hk).upd g8 zo zo,?_,Nat.le_of_eq hM.symm,λe h=>h⟩ ?_
  ·dsimp only;rw[j2];refine a5.take b1 m1 g0 d9 _ (λk=>?_) s5;rw[n6,hL.key]
   constructor
   ·rintro⟨i,hi,e⟩;obtain⟨h1,h2⟩:=iq.1 hi;exact⟨i,h1,((b7 _).1 h2).2,e⟩
   rintro⟨i,h1,h2,e⟩;exact⟨i,iq.2 ⟨h1,(b7 _).2 ⟨d9 i m1 h1 g0,h2⟩⟩,e⟩
  rintro⟨O14,t0,left,u6,c8,E2,e5,a0⟩ hJ;dsimp only at hJ ⊢;refine zh ?_;refine rG hJ.rg zd zd rfl rfl ?_ ?_
  ·intro h0;subst h0;have b9:=hJ.bi.done;have k3:=b9.keys.len;have j9:=b9.blk.many_le;refine zh ?_;refine zFH rfl rfl ?_;refine zvH (ai (us:=[nI (b1:Nat),nI (m1:Nat)]) hJ.tb.cellsAdd (P3 _) (MN _) rfl) ?_;apply ar hJ.rng 9 zo (MM _) rfl;intro tc c9 O15 j5 a2 h5 s6;apply zsa (us:=#[nI (b1:Nat),nI (m1:Nat)]) j5 (MN _);have j4:=j5.setRow (us:=#[nI (b1:Nat),nI (m1:Nat)]);have a4:LY (λk=>k=9) O15 c9 O15 (c9.setRow tc #[nI (b1:Nat),nI (m1:Nat)]):=M1 zd j5.tag rfl;generalize c9.setRow tc #[nI (b1:Nat),nI (m1:Nat)]=d6 at *;have a7:=a2.trans a4;have a1:=hJ.sp.todoN a7 zo ((hJ.sp.todo.upd a7 zd zd));refine zh ?_;apply zc call236 (qO w.heap.size O15 d6 sb tr e5 (h5.upd a4) (.inr ⟨a1.blk.tag,a1.blk.cell 5 rfl⟩) a1.todo);intro o0 e3 f';have m7:=hJ.ms;have hq:∃b0 m0 fl b',o0=.tuple #[eB ((b0:Nat),(m0:Nat)),.bool fl]/\LY (λq=>q=4) O15 d6 O15 e3/\MT eB Ma O15 e3 4 tr b'/\BlT rows b5 b0 m0 fl c8 E2 b' a0/\(rows.length-a0)*37+b'.length+fl.toNat<=M:=by
    rcases f' with⟨h0,rfl,h1,h2⟩|⟨d8,k,x,d7,e,rfl,h1,h2⟩
    ·subst h0;exact⟨0,0,false,[],rfl,h1,h2,⟨λe=>absurd e zd,λ_=>b9⟩,m7⟩
    obtain⟨b0,m0,rfl,h3,h4⟩:=DU b9 e;exact⟨b0,m0,true,_,rfl,h1,h2,h3,by show _+_+1<=M;omega⟩
   obtain⟨b3,m3,s9,o1,rfl,g7,e7,l',o'⟩:=hq;have c':=j4.upd g7 zd zd;refine zh ?_;apply zsa (us:=#[nI (b3:Nat),nI (m3:Nat)]) c' (MN _);have j3:=c'.setRow (us:=#[nI (b3:Nat),nI (m3:Nat)]);have g6:LY (λk=>k=9) O15 e3 O15 (e3.setRow tc #[nI (b3:Nat),nI (m3:Nat)]):=M1 zd c'.tag rfl;generalize e3.setRow tc #[nI (b3:Nat),nI (m3:Nat)]=w18 at *;have a6:LY (λq=>q=4\/q=9) O15 d6 O15 w18:=(g7.mono (λ_ h=>.inl h) zd).trans (g6.mono (λ_ h=>.inr h) zd);have f5:=a1.todoN a6 zo (e7.upd g6 zd zd);have r8:=(hJ.upd.trans (a7.mono (λ_ h=>zo) zd)).trans (a6.mono (λ_ h=>zo) zd);refine zh ?_;refine zx (reF nxF O15,w18,c8,E2,o1,a0,tc,b3,m3,s9) ⟨⟨r8.re nxF rfl (λb hb=>absurd rfl hb),((h5.upd a4).upd a6).re nxF rfl,f5.reN nxF (λt h h8 h9=>JP zo h8 h9),j3.re nxF rfl,λq=>JO _⟩,l'⟩ (by dsimp only;show _<_+1;omega)
  intro d8 k v d7 c9 k0 b6 a2;subst k0;have m9:k∈G.map (·.1):=(n6 k).1 (Mi.2 ⟨_,hJ.sub _ (MA _ (MQ ..)),rfl⟩);obtain⟨i0,u0,p5⟩:=(hL.key k).1 m9;obtain⟨kn,p3⟩:∃kn:Nat,k=(kn:Int):=⟨_,p5.symm⟩
  subst p3;obtain⟨e0,p9,p8⟩:=Mi.1 (hJ.sub _ (MA _ (MQ ..)));obtain⟨j,hj,p7⟩:=ck p9;subst p7;obtain⟨k4,o4⟩:=Nz p8;have m5:=hJ.gr j hj (by rw[k4];simp);obtain⟨h',t6⟩:=Io hL.nd hj;obtain⟨L,n5⟩:∃L,L=(nth G j).2.2:=⟨_,rfl⟩
  rw[o4,<-n5]at m5;rw[k4,<-n5]at h';have i2:∀x,x∈L↔x<rows.length/\nth e2 x=kn/\nth e2 (nxD rows x m1)=b1:=λx=>by rw[<-h'];exact hL.mem (λx hx=>d9 x m1 hx g0) b7 kn x
  have n4:L.Nodup:=by rw[<-h'];exact hL.rnd (a5.blk.nd b1 l1) _
  have l9:L≠[]:=by rw[<-h'];exact hL.ne m9
  obtain⟨k1,u1⟩:=hJ.bi.here i2;have k5:=hJ.bi.keys;have k3:=k5.len;have j9:=hJ.bi.blk.many_le;have g4:=hJ.bi.blk.len;have a3:=hJ.sp.upd a2 zo;have a':=m5.upd a2 zo zo;have c6:=a3.st.at (kn:Int);have o6:=a'.sl.len_le;have o5:=c6.sl.len_le;have cs:c9.cell? (nA sb 4)=some (.map (some sr)):=a3.blk.cell 4 rfl;obtain⟨t4,o2,t3⟩:=sD hJ.bi.nd;refine zh ?_;refine zTH rfl rfl ?_;refine zvH (Q9 b6 rfl) ?_;refine zvH (bH a'.sl.sh L0 rfl) ?_;apply zv (Mn a3.st.map Mb qS (N7 _) (kn:Int) rfl rfl rfl (mE E2 _));refine zvH (bH c6.sl.sh L0 rfl) ?_;refine zC ?_ ?_
  ·intro j';replace j':L.length<(dQ E2 (kn:Int)).length:=by have:=of_decide_eq_true j';omega
   have k':=hJ.bi.cut d9 a5.blk.alike g0 i2 n4 l9 j' v;refine zh ?_;apply zc call238 (xT w.heap.size O14 c9 sb nv tv fv bv sr tr rows.length (nxD rows) c8 E2 e5 a0 kn (3000+j) v L (hJ.rng.upd a2) a3 a' k5 zo (λx hx=>by rw[g4];exact((i2 x).1 hx).1) zo k1 (λx hx=>by rw[g4];exact((hJ.bi.blk.mem kn k1 x).1 hx).1));rintro _ d6 ⟨v',O16,a4,l6,l0,d1,f4,k6,e8⟩;have a1:=a3.cut k5 k1 zo a' a4 (λq h=>h) l0 d1 f4 k6 e8;obtain⟨f,hf⟩:∃f,f=IB (3000+j) (10+a0):=⟨_,rfl⟩
   have e1:∀t,t≠3000+j->f t=t:=λt ht=>by rw[hf];exact sx ht
   rw[<-hf]at a1;have b2:=k' v' (decide ((gW (λx=>nth (cX c8 a0 L) x==a0) (dQ E2 (kn:Nat))).length<L.length));have p0:=b2.blk.many_le;generalize decide ((gW (λx=>nth (cX c8 a0 L) x==a0) (dQ E2 (kn:Nat))).length<L.length)=lt at a1 b2;have i8:=BH e5 kn a0 lt 37;generalize tdL e5 kn a0 lt 37=td5 at a1 b2 i8;generalize cU (cU E2 (a0:Int) (v,L)) (kn:Int) (v',gW (λx=>nth (cX c8 a0 L) x==a0) (dQ E2 (kn:Nat)))=E3 at a1 b2;generalize cX c8 a0 L=bl3 at a1 b2;have m7:=hJ.ms;have d4:LY (λq=>1<=q) (λ_=>0) w O16 d6:=(hJ.upd.trans (a2.mono (λ_ h=>zo) zd)).trans (a4.mono (λ_ h=>zo) zo);refine zh ?_;refine zx (reF f O16,d6,d8++d7,some ((kn:Int),v),bl3,E3,td5,a0+1) ⟨d4.re f (e1 0 zo) (λb hb=>absurd rfl hb),l6.re f (e1 0 zo),a1,((hJ.tb.upd a2 zd zd).upd a4 zd zo).re f (e1 8 zo),(b6.upd a4 zd zd zo zo).re f (e1 _ zo) (e1 _ zo),λk2 d2 hm=>?_,b2,?_,λe he=>hJ.sub e ?_⟩ (by dsimp only;simp)
   ·have t7:k2≠j:=λe=>by
     subst e;exact o2 (by rw[<-k4];exact hm)
    have k7:(nth G k2).1∈(d8++((kn:Int),v)::d7).map (·.1):=by
     simp only[M8,LX,LV,LP]at hm ⊢
     rcases hm with hm|hm
     ·exact .inl hm
     exact .inr (.inr hm)
    exact(((hJ.gr k2 d2 k7).upd a2 zo zo).upd a4 zo zo).re f (e1 _ zo)
   ·dsimp only;omega
   rcases LV.1 he with he|he
   ·exact MC _ he
   exact MA _ (Mc _ he)
  intro k8;replace k8:(dQ E2 (kn:Int)).length<=L.length:=dF k8;have k':=hJ.bi.skip i2 n4 k8;refine zh ?_;refine zx (O14,c9,d8++d7,some ((kn:Int),v),c8,E2,e5,a0) ⟨hJ.upd.trans (a2.mono (λ_ h=>zo) zd),hJ.rng.upd a2,a3,hJ.tb.upd a2 zd zd,b6,λk2 d2 hm=>?_,k',hJ.ms,λe he=>hJ.sub e ?_⟩ (by dsimp only;simp)
  ·have k7:(nth G k2).1∈(d8++((kn:Int),v)::d7).map (·.1):=by
    simp only[M8,LX,LV,LP]at hm ⊢
    rcases hm with hm|hm
    ·exact .inl hm
    exact .inr (.inr hm)
   exact(hJ.gr k2 d2 k7).upd a2 zo zo
  rcases LV.1 he with he|he
  ·exact MC _ he
  exact MA _ (Mc _ he)
end Go.Proofs.YteolbhblkgjbhaaGreatDoor
section
namespace Go.VL
section
variable{κ ν:Type}[DecidableEq κ]{kv:κ→ix}{vv:ν→ix}{P:Nw}{N:Nat}{ops:Array Pf}{Q:PN→Qg→ln→Prop}{rest:List Pf}{st:St}{w:ln}{t:Mf}{p:String}{e:Array Qe}{x y z:Pp}
theorem WL.insert{T K E:Mf}{O:Nat->Nat}{i r:Nat}{l:List (κ×ν)}(hm:MT kv vv O w i r l)(hT:P.underlying T=some (.map K E))(hK:KeyL P K kv)(a0:i≠0) 
  (k:κ) (u:ν) {kx ux:ix} (hx:ev st x=some (.map (some r))) (hy:ev st y=some kx) (hz:ev st z=some ux) (hk:kx=kv k) (hu:ux=vv u)
  (h:∀w',MT kv vv O w' i r (cU l k u)->LY (λj=>j=i) O w O w'->WL P N ops Q rest st w'):WL P N ops Q (⟨none,.insert T x y z,t,p,e,none⟩::rest) st w:=by
 subst hk;subst hu;obtain⟨w',h1,h2,h3⟩:=ei hT hK hm a0 k u;exact iK (λa ha=>by simp only[execOp,ha.ev hx,ha.ev hy,ha.ev hz,PJ,h1,Pe,Sem.run_pure]) (h w' h2 h3)
end
end Go.VL
namespace Go.VL
open Go.Proofs
theorem RowT.freeRe{l:List α}(h:Ms enc E sz O w i v l)(hi:i≠0)(r:Nn B O w)(f:Nat->Nat)(hf:f i=0):NH (reF f O) w v:=λa n c e _=>by
 have h1:=h.1.tag a.block (by subst e;rfl);exact⟨by unfold reF;rw[h1];exact hf,(r.rng a.block (by rw[h1];exact hi)).2⟩
theorem Free.re(h:NH O w v)(f:Nat->Nat)(hf:f 0=0):NH (reF f O) w v:=λa n c e hn=>⟨by unfold reF;rw[(h a n c e hn).1];exact hf,(h a n c e hn).2⟩
end Go.VL
namespace Go.Proofs.YteolbhblkgjbhaaGreatDoor
open Go.VL Go.Proofs
set_option maxRecDepth 10000
theorem RwO.re{O:Nat->Nat}{w:ln}{i:Nat}{v:ix}{vs:List ix}{rows:List (List Nat)}(h:RwO O w i v vs rows)(f:Nat->Nat)(h0:f 0=0)(hi:f i=i):RwO (reF f O) w i v vs rows:=
 ⟨h.row.re f hi,h.len,λk hk=>⟨(h.at_ k hk).1,(h.at_ k hk).2.re f h0⟩⟩
theorem C8{s:Nat}(h:zN cl F s=none):zN cl (F++[s]) t=if cl s=cl t then some F.length else zN cl F t:=by
 unfold zN at h ⊢;rw[Pc]
 by_cases e:cl s=cl t
 ·rw[if_pos e];have:Nx (λo=>cl o==cl t) F=none:=by rw[<-e];exact h
  rw[this];simp[MR,e]
 rw[if_neg e]
 cases Nx (λo=>cl o==cl t) F with
 |some k=>simp
 |none=>simp[MR,e]
def NumI(cl:Nat->Nat)(D:List (Int×Int))(F:List Nat):Prop:=∀t,bI D ((cl t:Nat):Int)=(zN cl F t).map λk:Nat=>(k:Int)
theorem Bo(cl:Nat->Nat):NumI cl (cU [] ((cl 0:Nat):Int) 0) [0]:=λt=>by
 simp only[cU,bI,zN,MR,List.findIdx?_nil]
 by_cases e:cl 0=cl t
 ·rw[if_pos (by rw[e]),if_pos (by simpa using e)];rfl
 rw[if_neg zo,if_neg (by simpa using e)];rfl
theorem NumI.add(h:NumI cl D F){s:Nat}(hs:zN cl F s=none):NumI cl (cU D ((cl s:Nat):Int) (F.length:Int)) (F++[s]):=λt=>by
 rw[bn,C8 hs]
 by_cases e:cl s=cl t
 ·rw[if_pos (by rw[e]),if_pos e];rfl
 rw[if_neg zo,if_neg e];exact h t
theorem xU(nv tv:ix)(rows:List (List Nat))(a':List Nat)(w:ln)(hn:P5 w nv rows)(i8:Sl jh 1 w tv a')(hr:P6 rows a'):
  Np Md 130 [.agg #[nv,tv]] w λv w'=>
   ∃cl nv' tv',v=.agg #[nv',tv']/\nv'.oneCell'=true/\tv'.oneCell'=true/\MZ w w'/\(∀p q,p<rows.length->q<rows.length->(cl p=cl q↔Alike (nxD rows) (nth a') p q))/\RowsG w.heap.size w' nv' (bh cl rows a').1/\Sl jh 1 w' tv' (bh cl rows a').2/\P7 w.heap.size tv':=by
 have v1:=hr.le;have n3:=hr.pos;have s7:=hr.tl;have n5:=hr.nx;obtain⟨vs,m9,n0,u',m'⟩:=hn.free;have f6:NH (λ_=>0) w tv:=i8.free0 λa=>by simp
 apply L4 func130 ntmps130 rfl rfl;refine zh ?_
 apply aN (ax w) 1 zo rfl rfl;intro db w1 O1 k7 t9 u3 v7;apply ar u3 2 zo (Pm _) rfl
 intro cb w2 O2 k9 r9 r' v6;have g8:=k7.upd r9 zd zd;have i1:LY (λq=>1<=q) (λ_=>0) w O2 w2:=(t9.mono (λ_ h=>zo) zd).trans (r9.mono (λ_ h=>zo) zd);refine zh ?_;apply zv (ai (us:=[nv,tv]) g8.cellsAdd (Nl _) (MO _) rfl);apply zc Q6 (ka nv tv rows a' w2 (hn.ext i1.ext) (i8.ext i1.ext) hr);rintro _ w3 ⟨rfl,u7⟩;have l0:LY (λ_=>False) O2 w2 O2 w3:=ae (λh=>h) O2 u7;have g7:=g8.upd l0 zd (λh=>h);have k8:=k9.upd l0 zd (λh=>h);have i0:=i1.trans (l0.mono (λ_ h=>h.elim) zd);refine zh ?_;refine zFH rfl rfl ?_;apply zv (ai (us:=[nv,tv]) g7.cellsAdd (Nl _) (MO _) rfl);apply zc call185 (vd nv tv rows a' w3 (hn.ext i0.ext) (i8.ext i0.ext) hr);rintro bv w4 ⟨bl,e0,u6,t8,h5,o7⟩;have l9:LY (λ_=>False) O2 w3 O2 w4:=ae (λh=>h) O2 u6;have u2:=(r'.upd l0).upd l9;have g6:=g7.upd l9 zd (λh=>h);have h0:=k8.upd l9 zd (λh=>h);have p3:=i0.trans (l9.mono (λ_ h=>h.elim) zd);have o8:NH O2 w4 bv:=o7 _ _ (r'.upd l0);have t7:∀p q,p<rows.length->q<rows.length->(nth bl p=nth bl q↔Alike (nxD rows) (nth a') p q):=h5;obtain⟨cl,d'⟩:∃cl,cl=nth bl:=⟨_,rfl⟩
 have b0:w4.cell? (adr bv 1 0)=some (nI ((cl 0:Nat):Int)):=by have:=e0.cell (i:=0) (j:=0) zo rfl;rw[aA]at this;rw[d'];exact this
 refine zh ?_;apply bA (λk:Int=>nI k) (λv:Int=>nI v) u2 3 zd rfl
 intro r w5 O5 s1 p1 u1;have h3:=e0.upd o8 p1;have v8:w5.cell? (adr bv 1 0)=some (nI ((cl 0:Nat):Int)):=by have:=h3.cell (i:=0) (j:=0) zo rfl;rw[aA]at this;rw[d'];exact this
 refine zh ?_;refine zvH (aC h3.sh L0 (L7 _) rfl rfl 0 rfl zo) ?_
 apply WL.insert s1 Mp qS zd ((cl 0:Nat):Int) (0:Int) rfl rfl rfl rfl rfl;intro w6 s0 p0;have e4:=p1.trans p0;have o4:=g6.upd e4 zd zd;have o5:=h0.upd e4 zd zd;have u0:=u1.upd p0;refine zh ?_
 apply aM lB (enc:=bm) u0 4 zd (0:Nat) rfl rfl rfl zd rfl;intro s5 w7 O7 j' o' t';refine zh ?_
 apply ar t' 5 zo (Pm _) rfl;intro ob w8 O8 g0 l' p5 v5;have b9:LY (λq=>3<=q) O2 w4 O8 w8:=((e4.mono (λ_ h=>zo) zd).trans (o'.mono (λ_ h=>zo) zd)).trans (l'.mono (λ_ h=>zo) zd);have l3:=(o'.mono (S':=λq=>q=4\/q=5) (λ_ h=>.inl h) zd).trans (l'.mono (λ_ h=>.inr h) zd);have p9:=s0.upd l3 zd zd;have f9:=j'.upd l' zd zd;have b4:=p3.trans (b9.mono (λ_ h=>zo) zd);have o6:=e0.upd o8 b9;have h4:=o8.upd b9;have d9:=g6.upd b9 zd zd;have g':=h0.upd b9 zd zd;obtain⟨f7,r8⟩:∃f:Nat->Nat,f=λt=>if t<=7 then t else 0:=⟨_,rfl⟩
 have f7i:∀t,t<=7->f7 t=t:=λt ht=>by rw[r8];exact if_pos ht
 have f7l:∀t,f7 t<=7:=λt=>by rw[r8];dsimp only;split<;>omega
 replace p9:=p9.re f7 (f7i 3 zd);replace f9:=f9.re f7 (f7i 4 zd);replace g0:=g0.re f7 (f7i 5 zd);replace d9:=d9.re f7 (f7i 1 zd);replace g':=g'.re f7 (f7i 2 zd);replace p5:=p5.re f7 (f7i 0 zd);replace b4:=b4.re f7 (f7i 0 zd) (λb hb=>absurd rfl hb);replace h4:=h4.re f7 (f7i 0 zd);have u4:∀b,reF f7 O8 b<=7:=λb=>f7l _
 generalize reF f7 O8=O8' at *;clear e0 h3 g8 g7 k9 k8 k7 h0 g6 s1 s0 j' l3 o' l' e4 p1 p0 b9 o4 o5;refine zh ?_;apply zlp (λz:Nat×(Nat->Nat)×World×List (Int×Int)×List Nat×ix×ix×ix×List ix×List (List Nat)×List Nat=>[(1,nP db),(2,nP cb),(3,bv),(4,.map (some r)),(5,z.2.2.2.2.2.1),(6,nP ob),(7,nI z.1)]) (λz=>z.2.2.1) (λz=>LY (λq=>3<=q) O8' w8 z.2.1 z.2.2.1/\Nn w.heap.size z.2.1 z.2.2.1/\MT (λk:Int=>nI k) (λv:Int=>nI v) z.2.1 z.2.2.1 3 r z.2.2.2.1/\NumI cl z.2.2.2.1 z.2.2.2.2.1/\Ms bm 3 1 z.2.1 z.2.2.1 4 z.2.2.2.2.2.1 z.2.2.2.2.1/\Mo z.2.1 z.2.2.1 5 ob #[z.2.2.2.2.2.2.1,z.2.2.2.2.2.2.2.1] 170/\RwO z.2.1 z.2.2.1 6 z.2.2.2.2.2.2.1 z.2.2.2.2.2.2.2.2.1 z.2.2.2.2.2.2.2.2.2.1/\Ms jh 24 1 z.2.1 z.2.2.1 7 z.2.2.2.2.2.2.2.1 z.2.2.2.2.2.2.2.2.2.2/\LI cl (nxD rows) (nth a') rows.length z.1 z.2.2.2.2.1 z.2.2.2.2.2.2.2.2.2.1 z.2.2.2.2.2.2.2.2.2.2/\gd cl (nxD rows) (nth a') (rows.length+1-z.1) z.1 z.2.2.2.2.1 z.2.2.2.2.2.2.2.2.2.1 z.2.2.2.2.2.2.2.2.2.2=bh cl rows a'/\(∀k,k<z.2.2.2.2.2.2.2.2.2.1.length->P7 w.heap.size (nth z.2.2.2.2.2.2.2.2.1 k))) (λz=>rows.length-z.1) (0,O8',w8,cU [] ((cl 0:Nat):Int) (0:Int),[0],s5,nS,nS,[],[],[]) ⟨MD zd _ _,p5,p9,Bo cl,f9,g0,⟨M4 _ _ _ _ _ _,rfl,λk hk=>absurd hk (L3 k)⟩,M4 _ _ _ _ _ _,nX n3,rfl,λk hk=>absurd hk (L3 k)⟩;rintro⟨i,O9,w9,D,F,j0,i7,f5,i6,a7,i'⟩ ⟨h9,m0,m4,l5,b7,f',c7,d7,f4,i9,g4⟩
 dsimp only at h9 m0 m4 l5 b7 f' c7 d7 f4 i9 g4 ⊢;have v4:=f4.reps.len;have t1:=b7.sl.len_le;have v0:=f4.rl;have s8:=f4.tln;have n2:=c7.len;refine zh ?_;refine zvH (bH b7.sl.sh L0 rfl) ?_;refine zC ?_ ?_
 ·intro g5;replace g5:i<F.length:=dT g5;obtain⟨fu,o3⟩:∃fu,rows.length+1-i=fu+1:=⟨rows.length-i,zo⟩
  rw[o3,gd,if_pos g5]at i9;have n':rows.length+1-(i+1)=fu:=zo;have p7:=f4.next g5 n5;obtain⟨p,hp⟩:∃p,p=nth F i:=⟨_,rfl⟩
  have l6:p<rows.length:=by rw[hp];exact f4.reps.lt _ (aW g5)
  rw[<-hp]at i9 p7;have h8:=b4.trans (h9.mono (λ_ h=>zo) zd);have m8:=m9.upd n0 h8;obtain⟨r7,k5⟩:=m' p l6;have v2:=r7.upd k5 h8;obtain⟨s4,u9⟩:=hr.row p l6;have m1:w9.cell? (adr j0 1 i)=some (nI (p:Int)):=by have:=b7.sl.cell (i:=i) (j:=0) g5 rfl;rw[aA]at this;rw[hp];exact this
  have m2:w9.cell? (nA db 0)=some nv:=(d9.upd h9 zd zd).cell 0 rfl;have m3:w9.cell? (adr nv 1 p)=some (nth vs p):=by have:=m8.cell (i:=p) (j:=0) zo rfl;rwa[aA]at this
  refine zh ?_;apply N0 zk zk
  refine zh ?_;refine zwH (aC b7.sl.sh L0 (L7 _) rfl rfl i rfl zo) ?_
  apply MX;refine zh ?_
  rw[s4];have n9:=λm=>rZ (p:=p) f4.reps (λm hm=>n5 p m l6 hm) m
  apply zlp (λy:Nat×(Nat->Nat)×World×List (Int×Int)×Value×ix=>[(1,nP db),(2,nP cb),(3,bv),(4,.map (some r)),(5,y.2.2.2.2.1),(6,nP ob),(7,nI (i:Nat)),(8,y.2.2.2.2.2),(38,nth vs p),(39,nI (37:Nat)),(40,nI y.1)]) (λy=>y.2.2.1) (λy=>y.1<=37/\LY (λq=>q=3\/q=4\/q=8) O9 w9 y.2.1 y.2.2.1/\Nn w.heap.size y.2.1 y.2.2.1/\MT (λk:Int=>nI k) (λv:Int=>nI v) y.2.1 y.2.2.1 3 r y.2.2.2.1/\NumI cl y.2.2.2.1 (jA cl (nxD rows) p F y.1).1/\Ms bm 3 1 y.2.1 y.2.2.1 4 y.2.2.2.2.1 (jA cl (nxD rows) p F y.1).1/\Ms bm 3 1 y.2.1 y.2.2.1 8 y.2.2.2.2.2 (jA cl (nxD rows) p F y.1).2) (λy=>37-y.1) (0,O9,w9.drew,D,j0,nS) ⟨L2 _,ae zd O9 (M7 w9).drew,m0.drew,⟨m4.blk,m4.tag,m4.born⟩,l5,b7.drew,M4 _ _ _ _ _ _⟩;rintro⟨j,O10,m5,D10,b6,rv⟩ ⟨hj,a9,b',b1,c5,a2,a0⟩;dsimp only at hj a9 b' b1 c5 a2 a0 ⊢;have l7:=n9 j hj;have n8:=l7.len;have n7:=l7.reps.len;have l1:=h8.trans (a9.mono (λ_ h=>zo) zd);refine zh ?_
  refine zC ?_ ?_
  ·intro k4;replace k4:j<37:=dT k4;have n6:=r7.upd k5 l1;obtain⟨to,n1⟩:∃to,to=nxD rows p j:=⟨_,rfl⟩
   have s6:to<rows.length:=by rw[n1];exact n5 p j l6 k4
   have k':=o6.upd h4 ((h9.trans (a9.mono (λ_ h=>zo) zd)));have k1:m5.cell? (adr (nth vs p) 1 j)=some (nI (to:Int)):=by have:=n6.cell (i:=j) (j:=0) zo rfl;rw[aA]at this;rw[n1];exact this
   have k2:m5.cell? (adr bv 1 to)=some (nI ((cl to:Nat):Int)):=by have:=k'.cell (i:=to) (j:=0) zo rfl;rw[aA]at this;rw[d'];exact this
   have l8:=c5 to;have e1:jA cl (nxD rows) p F (j+1)=(fnF cl (jA cl (nxD rows) p F j).1 to,(jA cl (nxD rows) p F j).2++[fnI cl (jA cl (nxD rows) p F j).1 to]):=by rw[n1];rfl
   refine zh ?_
   cases h6:zN cl (jA cl (nxD rows) p F j).1 to with
   |some k=>
    rw[h6]at l8;have h1:fnF cl (jA cl (nxD rows) p F j).1 to=(jA cl (nxD rows) p F j).1:=by unfold fnF;rw[h6];rfl
    have h2:fnI cl (jA cl (nxD rows) p F j).1 to=k:=by unfold fnI;rw[h6];rfl
    rw[h1,h2]at e1;refine zvH (di (u:=.tuple #[nI (k:Int),.bool true]) b1 Mp qS (Mj _) ((cl to:Nat):Int) rfl rfl rfl (by rw[l8];rfl)) ?_;refine zFH rfl rfl ?_;apply MI lB a0 b' ((k:Nat)) (λ_=>rfl) rfl rfl rfl (by simp[L6]) zo zo zo zd rfl rfl;intro m6 wz Oz c8 b8 p4;refine zh ?_;refine zxd (j+1,Oz,wz,D10,b6,m6) ⟨k4,a9.trans (b8.mono (λ_ h=>zo) zd),p4,b1.upd b8 zd zd,by dsimp only;rw[e1];exact c5,by dsimp only;rw[e1];exact a2.upd b8 zd zd,by dsimp only;rw[e1];exact c8⟩
   |none=>
    rw[h6]at l8;have h1:fnF cl (jA cl (nxD rows) p F j).1 to=(jA cl (nxD rows) p F j).1++[to]:=by unfold fnF;rw[h6];rfl
    have h2:fnI cl (jA cl (nxD rows) p F j).1 to=(jA cl (nxD rows) p F j).1.length:=by unfold fnI;rw[h6];rfl
    rw[h1,h2]at e1;have u5:=c5.add h6;refine zvH (di (u:=.tuple #[nI 0,.bool false]) b1 Mp qS (Mj _) ((cl to:Nat):Int) rfl rfl rfl (by rw[l8];rfl)) ?_;refine zTH rfl rfl ?_;refine zvH (bH a2.sl.sh L0 rfl) ?_;apply Mm b1 Mp qS zd ((cl to:Nat):Int) (((jA cl (nxD rows) p F j).1.length:Nat):Int) rfl rfl rfl rfl rfl;intro i5 p' a5;have i3:=b'.upd a5;have k0:=a2.upd a5 zd zd;have a8:=a0.upd a5 zd zd;refine zh ?_;apply MI lB k0 i3 ((to:Nat)) (λ_=>rfl) rfl rfl rfl (by simp[L6]) zo zo zo zd rfl rfl;intro m7 d6 O12 a3 b3 i2;have f8:=a8.upd b3 zd zd;have i4:=p'.upd b3 zd zd;refine zh ?_;apply MI lB f8 i2 (((jA cl (nxD rows) p F j).1.length:Nat)) (λ_=>rfl) rfl rfl rfl (by simp[L6]) zo zo zo zd rfl rfl;intro m6 wz Oz c8 b8 p4;refine zh ?_;refine zxd (j+1,Oz,wz,cU D10 ((cl to:Nat):Int) (((jA cl (nxD rows) p F j).1.length:Nat):Int),m7,m6) ⟨k4,((a9.trans (a5.mono (λ_ h=>.inl h) zd)).trans (b3.mono (λ_ h=>.inr (.inl h)) zd)).trans (b8.mono (λ_ h=>.inr (.inr h)) zd),p4,i4.upd b8 zd zd,by dsimp only;rw[e1];exact u5,by dsimp only;rw[e1];exact a3.upd b8 zd zd,by dsimp only;rw[e1];exact c8⟩
  intro t4;obtain rfl:j=37:=dF t4;generalize v3:jA cl (nxD rows) p F 37=RQ at *;obtain⟨F2,r2⟩:=RQ;dsimp only at l7 n8 n7 c5 a2 a0 i9 p7;obtain⟨ra,rc,t0,_⟩:=a0.sl.shape;subst t0
  -- the row is nobody's now
  obtain⟨f,hf⟩:∃f:Nat->Nat,f=IB 8 0:=⟨_,rfl⟩
  have e5:∀t,t≠8->f t=t:=λt ht=>by rw[hf];exact sx ht
  have f3:=(h9.trans (a9.mono (S':=λq=>3<=q) (λ_ h=>zo) zd)).re f (e5 0 zd) (λb _=>e5 _ (by have:=u4 b;omega));have l4:=b'.re f (e5 0 zd);have s9:=a0.sl;have q':=a0.freeRe zd b' f (by rw[hf];exact Cr _ _);replace a2:=a2.re f (e5 4 zd);replace b1:=b1.re f (e5 3 zd);have e9:=(f'.upd a9 zd zd).re f (e5 5 zd);have b5:=(c7.upd a9 zd zd).re f (e5 0 zd) (e5 6 zd);have j5:=(d7.upd a9 zd zd).re f (e5 7 zd);have s':=a0.newV zd b';clear a0;generalize reF f O10=O11 at *;have k6:=d9.upd f3 zd zd;obtain⟨qF,r6⟩:=l7.pre;have n4:nth F2 i=p:=by rw[r6,ay,if_pos g5,hp]
  have hF2l:F.length<=F2.length:=by rw[r6];simp
  have o0:m5.cell? (nA ob 0)=some i7:=e9.cell 0 rfl;refine zh ?_;apply MI GM b5.row l4 ((.slice ra r2.length rc:ix)) (λ_=>rfl) rfl rfl rfl (by simp[L6]) zo zo zo zd rfl rfl;intro b2 i5 O12 a8 a5 i3;have c':=e9.upd a5 zd zd
  have j8:RwO O12 i5 6 b2 (i6++[.slice ra r2.length rc]) (a7++[r2]):=⟨a8,by simp[n2],λk hk=>by
   rw[ay,ay]
   by_cases e:k<a7.length
   ·rw[if_pos zo,if_pos e];exact⟨(b5.at_ k e).1.upd (b5.at_ k e).2 a5,(b5.at_ k e).2.upd a5⟩
   have t3:k=a7.length:=by simp at hk;omega
   subst t3;rw[if_neg zo,if_neg e,show a7.length-i6.length=0 from by omega,MG,ao,ao]
   exact⟨s9.upd q' a5,q'.upd a5⟩⟩
  refine zh ?_;apply ak (j:=0) c' rfl (sizeOf130 _) a8.one rfl rfl rfl
  have b3:LY (λj=>j=5) O12 i5 O12 (i5.setCell ⟨ob,0,none⟩ b2):=MB zd c'.tag rfl;have e8:Mo O12 (i5.setCell ⟨ob,0,none⟩ b2) 5 ob #[b2,f5] 170:=c'.set 0 _;have j7:=j8.upd b3 zd zd;have i2:=i3.upd b3;generalize i5.setCell ⟨ob,0,none⟩ b2=d6 at *;have a6:=(a5.mono (S':=λq=>q=5\/q=6) (λ_ h=>.inr h) zd).trans (b3.mono (λ_ h=>.inl h) zd);have j4:=j5.upd a6 zd zd;have a3:=a2.upd a6 zd zd;have i4:=b1.upd a6 zd zd;have d0:=k6.upd a6 zd zd;have d5:=f3.trans (a6.mono (λ_ h=>zo) zd);have j3:=i8.upd f6 (b4.trans (d5.mono (λ_ h=>zo) zd));refine zh ?_;have d1:d6.drew.cell? (nA db 1)=some tv:=d0.cell 1 rfl;have d2:d6.drew.cell? (adr b6 1 i)=some (nI (p:Int)):=by have:=a3.sl.cell (i:=i) (j:=0) zo rfl;rw[aA,n4]at this;exact this
  have d3:d6.drew.cell? (adr tv 1 p)=some (.int .u64 ((nth a' p:Nat):Int)):=by have:=j3.cell (i:=p) (j:=0) zo rfl;rwa[aA]at this
  have d4:d6.drew.cell? (nA ob 1)=some f5:=e8.cell 1 rfl;have o9:LY (λ_=>False) O12 d6 O12 d6.drew:=ae (λh=>h) O12 (M7 d6).drew;apply aQ (λW=>W.cell? (nA db 1)=some tv/\W.cell? (adr b6 1 i)=some (nI (p:Int))/\W.cell? (adr tv 1 p)=some (.int .u64 ((nth a' p:Nat):Int))) 14 rfl zk;refine zin ⟨d1,d2,d3⟩ λzS=>?_
  apply zrf 0 rfl zS rfl;apply zrf 2 rfl zS rfl
  apply zt 3 rfl zS (λw1 j1=>RV.ld j1.1 rfl);apply zrm 4 rfl zS rfl
  apply zrm 5 rfl zS rfl;apply zr 6 rfl zS (λ_=>aC a3.sl.sh L0 (L7 _) rfl rfl i rfl zo)
  apply zt 7 rfl zS (λw1 j1=>RV.ld j1.2.1 rfl);apply zr 8 rfl zS (λ_=>aC j3.sh Q4 (sizeOf24 _) rfl rfl p rfl zo)
  apply zt 9 rfl zS (λw1 j1=>RV.ld j1.2.2 rfl);apply cC 1 10 nw (enc:=jh) (nth a' p) rfl rfl zk zk zk zk (λW hE=>Qd (hE.cell d4) (isAgg27 _) rfl) (λW hE=>⟨hE.cell d1,hE.cell d2,hE.cell d3⟩) rfl rfl rfl zd rfl rfl rfl rfl rfl
  intro s3 s2 j6 p8;have h7:LY (λ_=>False) O12 d6 O12 s2:=o9.trans (ae (λh=>h) O12 p8);apply Mh 11 zk rfl;apply aD nw (j4.upd h7 zd (λh=>h)) (i2.upd h7) j6 (by simp) rfl rfl (by simp) (by simp[L6]) (by rw[L9];omega) (by rw[L9];omega) zd rfl;intro c6 e6 O15 e7 p2 p6;have a4:LY (λq=>q=7) O12 d6 O15 e6:=(h7.mono (λ_ h=>h.elim) zd).trans p2;have c9:=e8.upd a4 zd zd;have l2:=d5.trans (a4.mono (λ_ h=>zo) zd);have e1:e6.cell? (nA db 1)=some tv:=(d0.upd a4 zd zd).cell 1 rfl;have e2:e6.cell? (adr b6 1 i)=some (nI (p:Int)):=by have:=(a3.upd a4 zd zd).sl.cell (i:=i) (j:=0) zo rfl;rw[aA,n4]at this;exact this
  have e3:e6.cell? (adr tv 1 p)=some (.int .u64 ((nth a' p:Nat):Int)):=by have:=(i8.upd f6 (b4.trans (l2.mono (λ_ h=>zo) zd))).cell (i:=p) (j:=0) zo rfl;rwa[aA]at this
  refine zh ?_;apply aa ⟨e1,e2,e3⟩
  apply zrf 12 rfl ⟨e1,e2,e3⟩ rfl;apply Mh 13 zk rfl
  apply ak (j:=1) c9 rfl (sizeOf27 _) e7.one rfl rfl rfl;have h':LY (λj=>j=5) O15 e6 O15 (e6.setCell ⟨ob,1,none⟩ c6):=MB zd c9.tag rfl;have k3:Mo O15 (e6.setCell ⟨ob,1,none⟩ c6) 5 ob #[b2,c6] 170:=c9.set 1 _;generalize e6.setCell ⟨ob,1,none⟩ c6=w16 at *;have a1:=(a4.mono (S':=λq=>q=5\/q=7) (λ_ h=>.inr h) zd).trans (h'.mono (λ_ h=>.inl h) zd);have e':=d5.trans (a1.mono (λ_ h=>zo) zd);have g1:w16.cell? (nA db 1)=some tv:=(d0.upd a1 zd zd).cell 1 rfl;have g2:w16.cell? (adr b6 1 i)=some (nI (p:Int)):=by have:=(a3.upd a1 zd zd).sl.cell (i:=i) (j:=0) zo rfl;rw[aA,n4]at this;exact this
  have g3:w16.cell? (adr tv 1 p)=some (.int .u64 ((nth a' p:Nat):Int)):=by have:=(i8.upd f6 (b4.trans (e'.mono (λ_ h=>zo) zd))).cell (i:=p) (j:=0) zo rfl;rwa[aA]at this
  refine zh ?_;apply aa ⟨g1,g2,g3⟩
  apply Nm zk;refine zh ?_
  refine zxd (i+1,O15,w16,D10,F2,b6,b2,c6,i6++[.slice ra r2.length rc],a7++[r2],i'++[nth a' p]) ⟨e',p6.upd h',i4.upd a1 zd zd,c5,a3.upd a1 zd zd,k3,j7.upd a1 zd zd,e7.upd h' zd zd,p7,by dsimp only;rw[n'];exact i9,λk hk=>?_⟩;dsimp only at hk ⊢;rw[ay]
  by_cases e:k<i6.length
  ·rw[if_pos e];exact g4 k zo
  rw[if_neg e,show k-i6.length=0 from by simp at hk;omega,ao];exact s'
 intro t5;have t2:=f4.le;obtain rfl:i=F.length:=dF t5;have j9:bh cl rows a'=(a7,i'):=by
  rw[<-i9];obtain⟨fu,o3⟩:∃fu,rows.length+1-F.length=fu+1:=⟨rows.length-F.length,zo⟩
  rw[o3,gd,if_neg zo]
 have o1:=c7.row.one;have o2:=d7.one;have g9:=g'.upd h9 zd zd;refine zh ?_;apply zv (ai (us:=[i7,f5]) f'.cellsAdd (Nl _) (MO _) rfl);apply zsb (us:=#[i7,f5]) g9 (MO _) (by simp only[M5,o1,o2];rfl);have t6:=g9.setRow (us:=#[i7,f5]);have b8:LY (λj=>j=2) O9 w9 O9 (w9.setRow cb #[i7,f5]):=M1 zd g9.tag rfl;have d8:=c7.upd b8 zd zd;have j2:=d7.upd b8 zd zd;refine zh ?_;refine aL rfl rfl t6.cellsAdd (Nl _) (MO _) ⟨cl,i7,f5,rfl,o1,o2,((b4.trans (h9.mono (λ_ h=>zo) zd)).trans (b8.mono (λ_ h=>zo) zd)).ext,by rw[d'];exact t7,by rw[j9];exact⟨i6,d8.row.sl,d8.row.newV zd (m0.upd b8),d8.len,λk hk=>⟨(d8.at_ k hk).1,g4 k hk⟩⟩,by rw[j9];exact j2.sl,j2.newV zd (m0.upd b8)⟩
end Go.Proofs.YteolbhblkgjbhaaGreatDoor
end
section
namespace Go.VL
section
variable{P:Nw}{N:Nat}{st:St}{w:ln}{t:Mf}{x:Pp}
theorem DP{kv:κ->ix}{vv:ν->ix}{K:Mf}{l:List (κ×ν)}(hm:MT kv vv O w i r l)(hu:P.underlying T=some (.map K E))(hx:ev st x=some (.map (some r))):RV P N (.call ⟨.builtin .len,#[x],#[T]⟩) t st w (nI (l.length:Int)):=
 λa ha a0 p e g=>by
  obtain⟨es,c,h1,h2⟩:=hm.blk;have h3:es.size=l.length:=by have:=congrArg PK h2;simpa using this
  simp only[execOp,resolve,List.map_toArray,LX,NZ,ha.ev hx];simp[invoke,Go.builtin,Qf,run_underlying hu,goInt,getObj,Sem.run,h1,h3]
end
section
variable{P:Nw}{N:Nat}{ops:Array Pf}{Q:PN→Qg→ln→Prop}{rest:List Pf}{st:St}{w:ln}
variable{t:Mf}{p:String}{e:Array Qe}{d:Nat}
theorem cu{a0:Nat}(he:PD P T E sz a0)(enc:α->List ix)(r:Nn B O w)(i:Nat)(a1:i≠0)(hd:NF d N=true) 
  (h:∀v w' O',Ms enc E sz O' w' i v []->LY (λk=>k=i) O w O' w'->Nn B O' w'->WL P N ops Q rest ((d,v)::st) w'):WL P N ops Q (⟨some d,.buildSlice T 0 #[],t,p,e,none⟩::rest) st w:=by
 obtain⟨a2,z,hi,hz,a4,a5,a3⟩:=he.parts;have u1:=Pz (S:=λk=>k=i) (λe=>a1 e.symm) r (.cells #[] E) i;refine WL.val (v:=.slice (some ⟨w.heap.size,0,none⟩) 0 0) (w':=w.alloc (.cells #[] E)) hd (λa ha=>?_) (h _ _ (lV O w.heap.size i) ⟨⟨?_,λg hg=>?_⟩,λc hc=>absurd hc (by simp)⟩ u1 (r.upd u1))
 ·simp[execOp,Instr.buildSlice,run_underlying he.ht,sizeOf,typeInfo,hi,Instr.fill,newRow,newObj,show Array.range 0 = #[]from rfl];rfl
 ·have:=Pi (base:=0) (size:=sz) (e:=E) w #[] 0 (L2 _) (by simp[maxLen]) (by simp);simpa using this
 simp[Py]at hg;subst hg;exact eG _ _ _
end
end Go.VL
namespace Go.Proofs.YteolbhblkgjbhaaGreatDoor
open Go.VL Go.Proofs
set_option maxRecDepth 10000
def jT:List Int->Nat->Nat
 |[],n=>n
 |g::r,n=>if g<0\/(n:Int)<g then 0 else jT r (max n (g.toNat+1))
def iu(l:List Int):Nat:=if l.length=37 then jT l 0 else 0
theorem iV(l:List Int)(sv:ix)(w:ln)(h:Sl encI 1 w sv l): Np Md 29 [sv] w λv w' => v = .int .i64 ((iu l:Nat):Int) ∧ w' = w := by
  have hl := h.len_le
  apply L4 func29 ntmps29 rfl rfl
  refine zh ?_
  refine zC ?_ ?_
  · intro hne
    refine zh ?_
    refine af rfl rfl ⟨by unfold iu; rw[if_neg (λe => by rw[e]at hne; simp at hne)]; rfl, rfl⟩
  · intro he
    replace he : l.length = 37 := by have : (l.length : Int) = 37 := by simpa using he
                                     omega
    have hm:iu l = jT l 0 := by unfold iu; rw[if_pos he]
    rw[hm]
    refine zh ?_
    apply zlp (λz:Nat×Nat => [(3, .int .i64 z.2), (9, sv), (10, .int .i64 l.length), (11, .int .i64 z.1)]) (λz => w) (λz => z.1 ≤ l.length ∧ z.2 ≤ z.1 ∧ jT (l.drop z.1) z.2 = jT l 0) (λz => l.length - z.1) (0, 0) ⟨L2 _, LQ _, rfl⟩
    rintro⟨i, n⟩ ⟨hi, hn, heq⟩
    dsimp only at hi hn heq ⊢
    refine zh ?_
    refine zC ?_ ?_
    · intro hlt
      replace hlt:i < l.length := by have := of_decide_eq_true hlt; omega
      have m1:w.cell? (adr sv 1 i) = some (.int .i64 (nth l i)) := by have := h.cell (i := i) (j := 0) hlt rfl; rwa[aA]at this
      rw[List.drop_eq_getElem_cons hlt, ← aB hlt, jT]at heq
      refine zh ?_
      by_cases h0:nth l i < 0
      · rw[if_pos (.inl h0)]at heq
        rw[← heq]
        apply au (d := 17) rfl (b' := true) ((decide_eq_true h0))
        refine zh ?_
        refine zTH rfl rfl ?_
        refine af rfl rfl ⟨rfl, rfl⟩
      · skip
        apply au (d := 17) rfl (b' := false) ((decide_eq_false h0))
        refine zh ?_
        refine zC ?_ ?_
        · intro h1
          replace h1:(n:Int) < nth l i := of_decide_eq_true h1
          rw[if_pos (.inr h1)]at heq
          rw[← heq]
          refine zh ?_
          refine af rfl rfl ⟨rfl, rfl⟩
        · intro h1
          replace h1:¬(n:Int) < nth l i := of_decide_eq_false h1
          rw[if_neg (λh => h.elim h0 h1)]at heq
          refine zh ?_
          refine zvH (gQ rfl rfl) ?_
          rw[show max (n:Int) (nth l i + 1) = ((max n ((nth l i).toNat + 1):Nat):Int)from by omega]
          refine zxd (i + 1, max n ((nth l i).toNat + 1)) ⟨hlt, by dsimp only; omega, heq⟩
    · intro hge
      obtain rfl:i = l.length := by have := of_decide_eq_false hge; omega
      rw[List.drop_length, jT]at heq
      rw[← heq]
      refine zh ?_
      refine af rfl rfl ⟨rfl, rfl⟩
abbrev A0(d:ix×ix):List ix:=[d.1,d.2]
def ri(rows:List (List Nat))(m:Nat):List UInt8:=rows.flatMap λr=>[MP (nth r m / 256),MP (nth r m % 256)]
def pf(tabs:List (List (List Nat)))(m:Nat):List UInt8:=tabs.flatMap λrows=>ri rows m
theorem lE(rows:List (List Nat))(m:Nat):(ri rows m).length=2*rows.length:=by
 unfold ri
 induction rows with
 |nil=>rfl
 |cons r l ih=>rw[Mr,Mw,ih];simp;omega
structure TabsD(w:ln)(sv:ix)(ds:List (ix×ix))(tabs:List (List (List Nat)))(tlss:List (List Nat)):Prop where
 sl:Sl A0 2 w sv ds
 l1:tabs.length=ds.length
 l2:tlss.length=ds.length
 at_:∀i,i<ds.length->P5 w (nth ds i).1 (nth tabs i)/\Sl jh 1 w (nth ds i).2 (nth tlss i)/\P6 (nth tabs i) (nth tlss i)
theorem TabsD.ext{w w':ln}{sv:ix}{ds:List (ix×ix)}{tabs:List (List (List Nat))}{a0:List (List Nat)}(h:TabsD w sv ds tabs a0)(e:MZ w w'):TabsD w' sv ds tabs a0:=
 ⟨h.sl.ext e,h.l1,h.l2,λi hi=>⟨(h.at_ i hi).1.ext e,(h.at_ i hi).2.1.ext e,(h.at_ i hi).2.2⟩⟩
theorem RowsN.one{w:ln}{v:ix}{rows:List (List Nat)}(h:P5 w v rows):v.oneCell'=true:=by
 obtain⟨vs,h1,_⟩:=h;exact h1.one
theorem A4(ds:List (ix×ix))(tabs:List (List (List Nat)))(b3:List (List Nat))(sv:ix)(m:Nat)(w:ln)(h:TabsD w sv ds tabs b3)(hm:m<37)(e7:ds.length<=1000):
  Np Md 135 [sv,nI (m:Nat)] w λv w'=>v=.string (bs (pf tabs m))/\MZ w w':=by
 have d2:=h.l1;have e4:=h.sl;apply L4 func135 ntmps135 rfl rfl;refine zh ?_;apply zlp (λz:Nat×ix×(Nat->Nat)×World=>[(1,nI (m:Nat)),(5,z.2.1),(10,sv),(11,nI ds.length),(12,nI z.1)]) (λz=>z.2.2.2) (λz=>z.1<=ds.length/\Ms Dk 5 1 z.2.2.1 z.2.2.2 1 z.2.1 (pf (tabs.take z.1) m)/\(pf (tabs.take z.1) m).length<=2000*z.1/\LY (λq=>1<=q) (λ_=>0) w z.2.2.1 z.2.2.2/\Nn w.heap.size z.2.2.1 z.2.2.2) (λz=>ds.length-z.1) (0,nS,λ_=>0,w) ⟨L2 _,M4 _ _ _ _ _ _,L2 _,MD zd _ _,ax w⟩;rintro⟨i,v1,O1,w1⟩ ⟨hi,a2,d3,hU,hR⟩;dsimp only at hi a2 d3 hU hR ⊢;have h1:=h.ext hU.ext;have d1:=h1.sl;refine zh ?_;refine zC ?_ ?_
 ·intro a5;replace a5:i<ds.length:=dT a5;obtain⟨c9,c7,b8⟩:=h1.at_ i a5;have o1:=c9.one;have o2:=c7.one;obtain⟨rows,a1⟩:∃rows,rows=nth tabs i:=⟨_,rfl⟩
  rw[<-a1]at c9 b8;have e5:=b8.le;have c8:pf (tabs.take (i+1)) m=pf (tabs.take i) m++ri rows m:=by
   unfold pf;rw[aY zo,N4,<-a1];simp
  refine zh ?_;apply zv (ai (us:=A0 (nth ds i)) (λj u hu=>d1.cell a5 hu) (Nl _) (MO _) rfl)
  apply ar hR 2 zo (Pm _) rfl;intro db w2 O2 a4 d9 e1 e8;apply zsb (us:=#[(nth ds i).1,(nth ds i).2]) a4 (MO _) (by simp only[M5,o1,o2];rfl)
  have b':=a4.setRow (us:=#[(nth ds i).1,(nth ds i).2]);have c':LY (λj=>j=2) O2 w2 O2 (w2.setRow db #[(nth ds i).1,(nth ds i).2]):=M1 zd a4.tag rfl;have b0:=d9.trans c';have a9:=a2.upd b0 zd zd;have e0:=e1.upd c';have b2:=hU.trans (b0.mono (λ_ h=>zo) zd);generalize w2.setRow db #[(nth ds i).1,(nth ds i).2]=w3 at *;have c0:w3.cell? (nA db 0)=some (nth ds i).1:=b'.cell 0 rfl;have b7:P5 w (nth ds i).1 rows:=by rw[a1];exact(h.at_ i a5).1
  obtain⟨vs,a6,e3,a7⟩:=b7;have e2:=a6.ext b2.ext;refine zh ?_;apply zlp (λy:Nat×ix×(Nat->Nat)×World=>[(1,nI (m:Nat)),(5,y.2.1),(10,sv),(11,nI ds.length),(12,nI i),(17,(nth ds i).1),(18,nI vs.length),(19,nI y.1)]) (λy=>y.2.2.2) (λy=>y.1<=rows.length/\Ms Dk 5 1 y.2.2.1 y.2.2.2 1 y.2.1 (pf (tabs.take i) m++ri (rows.take y.1) m)/\LY (λq=>1<=q) (λ_=>0) w y.2.2.1 y.2.2.2/\Nn w.heap.size y.2.2.1 y.2.2.2) (λy=>rows.length-y.1) (0,v1,O2,w3) ⟨L2 _,by dsimp only;rw[PA];exact(by simpa[ri]using a9),b2,e0⟩;rintro⟨j,v4,O4,w4⟩ ⟨hj,a0,a',c6⟩;dsimp only at hj a0 a' c6 ⊢;have b5:=a6.ext a'.ext;have d6:=lE (rows.take j) m;have c7:(rows.take j).length<=j:=by simp;omega
  refine zh ?_;refine zC ?_ ?_
  ·intro a3;replace a3:j<rows.length:=dT a3;have b9:=(a7 j a3).ext a'.ext;obtain⟨r1,r2⟩:=b8.row j a3;obtain⟨p,hp⟩:∃p,p=nth (nth rows j) m:=⟨_,rfl⟩
   have e6:p<=999:=by have:=r2 m hm;rw[<-hp]at this;omega
   have m1:w4.cell? (adr (nth ds i).1 1 j)=some (nth vs j):=by have:=b5.cell (i:=j) (j:=0) zo rfl;rwa[aA]at this
   have b6:ri (rows.take (j+1)) m=ri (rows.take j) m++[MP (p / 256),MP (p % 256)]:=by
    unfold ri;rw[aY a3,N4,hp];simp
   refine zh ?_;have k1:w4.drew.cell? (adr (nth vs j) 1 m)=some (nI (p:Int)):=by have:=b9.cell (i:=m) (j:=0) zo rfl;rw[aA]at this;rw[hp];exact this
   apply aQ (λW=>W.cell? (adr (nth vs j) 1 m)=some (nI (p:Int))) 15 rfl zk;apply zrm 0 rfl k1 rfl
   apply zrm 1 rfl k1 rfl;apply zrm 2 rfl k1 rfl
   apply zr 3 rfl k1 (λ_=>aC b9.sh L0 (L7 _) rfl rfl m rfl zo);apply zt 4 rfl k1 (λw1 b4=>RV.ld b4 rfl)
   apply zr 5 rfl k1 (λ_=>iP (a:=p) (b:=8) rfl rfl rfl rfl zd);apply zr 6 rfl k1 (λ_=>nW NW Px rfl)
   apply zrm 7 rfl k1 rfl;apply zrm 8 rfl k1 rfl
   apply zr 9 rfl k1 (λ_=>aC b9.sh L0 (L7 _) rfl rfl m rfl zo);apply zt 10 rfl k1 (λw1 b4=>RV.ld b4 rfl)
   apply zr 11 rfl k1 (λ_=>nW NW Px rfl);rw[rO p,rO (p / 2^8),show p / 2^8 % 256=p / 256 from by omega];apply Mh 12 zk rfl
   apply cp PX (sizeOf5 _) (zeroValue5 _) Dk [MP (p / 256),MP (p % 256)] rfl rfl rfl rfl zk (by simp) rfl;intro bv w5 d7 d0;have c5:LY (λ_=>False) O4 w4 O4 w5:=(ae (λh=>h) O4 (M7 w4).drew).trans (ae (λh=>h) O4 d0);refine zh ?_
   apply aa (d0.cell k1);apply Mh 13 zk rfl
   apply aD Lo (a0.upd c5 zd λh=>h) (c6.upd c5) d7 (by simp) rfl rfl (by simp) (by simp[L6]) (by simp;omega) (by simp;omega) zd rfl;intro v6 w6 O6 a8 d8 d';have b1:LY (λq=>1<=q) (λ_=>0) w O6 w6:=(a'.trans (c5.mono (λ_ h=>h.elim) zd)).trans (d8.mono (λ_ h=>zo) zd);have k6:w6.cell? (adr (nth vs j) 1 m)=some (nI (p:Int)):=by have:=((a7 j a3).ext b1.ext).cell (i:=m) (j:=0) zo rfl;rw[aA]at this;rw[hp];exact this
   refine zh ?_;apply aa k6
   apply zra 14 rfl k6 rfl;apply Nm zk
   refine zh ?_;refine zxd (j+1,v6,O6,w6) ⟨a3,by dsimp only;rw[b6,<-NB];exact a8,b1,d'⟩
  intro d4;obtain rfl:j=rows.length:=dF d4;rw[LU]at a0 d6;refine zh ?_;refine zxd (i+1,v4,O4,w4) ⟨a5,by dsimp only;rw[c8];exact a0,by dsimp only;rw[c8,Mw];omega,a',c6⟩
 intro d5;obtain rfl:i=ds.length:=dF d5;rw[<-d2,LU]at a2;refine zh ?_;refine zvH (Af a2.sl PX Px Mt rfl) ?_;refine af rfl rfl ⟨rfl,hU.ext⟩
end Go.Proofs.YteolbhblkgjbhaaGreatDoor
end
namespace Go.Proofs.YteolbhblkgjbhaaGreatDoor
def Bq(S:List (List UInt8))(k:List UInt8):Option Nat:=S.findIdx? (· == k)
def DC(S:List (List UInt8))(k:List UInt8):List (List UInt8):=if(Bq S k).isSome=true then S else S++[k]
def D0(S:List (List UInt8))(k:List UInt8):Nat:=(Bq S k).getD S.length
def dy(ks:List (List UInt8)):Nat->List (List UInt8)×List Nat
 |0=>([],[])
 |i+1=>(DC (dy ks i).1 (nth ks i),(dy ks i).2++[D0 (dy ks i).1 (nth ks i)])
theorem C0{t:List UInt8}(h:Bq S s=none):Bq (S++[s]) t=if s=t then some S.length else Bq S t:=by
 unfold Bq at h ⊢;rw[Pc]
 by_cases e:s=t
 ·rw[if_pos e];have:Nx (λo=>o==t) S=none:=by rw[<-e];exact h
  rw[this];simp[MR,e]
 rw[if_neg e]
 cases Nx (λo=>o==t) S with
 |some k=>simp
 |none=>simp[MR,e]
theorem oK(ks:List (List UInt8)):∀i,(dy ks i).2.length=i/\(dy ks i).1.length<=i
 |0=>⟨rfl,LQ _⟩
 |i+1=>by
  obtain⟨h1,h2⟩:=oK ks i;unfold dy;refine⟨by simp[h1],?_⟩;dsimp only;unfold DC
  split
  ·omega
  simp;omega
structure NumK(D:List (ByteArray×Int))(S:List (List UInt8)):Prop where
 at_:∀k,bI D (bs k)=(Bq S k).map λn:Nat=>(n:Int)
 len:D.length=S.length
theorem Gn[DecidableEq κ]{l:List (κ×ν)}{k:κ}(h:bI l k=none)(x:ν):cU l k x=l++[(k,x)]:=by
 induction l with
 |nil=>rfl
 |cons p r ih=>
  obtain⟨a,y⟩:=p;simp only[bI]at h
  split at h
  ·cases h
  rename_i hn;simp only[cU,if_neg hn,ih h,NK]
theorem NumK.add{D:List (ByteArray×Int)}(h:NumK D S)(hs:Bq S s=none):NumK (cU D (bs s) (D.length:Int)) (S++[s]):=by
 refine⟨λk=>?_,?_⟩
 ·rw[bn,C0 hs]
  by_cases e:s=k
  ·rw[if_pos (by rw[e]),if_pos e,h.len];rfl
  rw[if_neg (λe2=>e (GN e2)),if_neg e];exact h.at_ k
 rw[Gn (by rw[h.at_,hs];rfl)];simp[h.len]
theorem uJ(ks:List (List UInt8))(sv:ix)(w:ln)(h:Sl encS 1 w sv ks)(c5:ks.length<=1000):Np Md 136 [sv] w λv w'=>Sl bm 1 w' v (dy ks ks.length).2/\MZ w w'/\P7 w.heap.size v:=by
 apply L4 func136 ntmps136 rfl rfl;refine zh ?_
 apply bA PC (λv:Int=>nI v) (ax w) 2 zd rfl;intro r w1 O1 b8 b1 b5;have h1:=h.ext b1.ext;refine zh ?_
 apply zlp (λz:Nat×ix×(Nat->Nat)×World×List (ByteArray×Int)=>[(3,.map (some r)),(4,z.2.1),(10,sv),(11,nI ks.length),(12,nI z.1)]) (λz=>z.2.2.2.1) (λz=>z.1<=ks.length/\Ms bm 3 1 z.2.2.1 z.2.2.2.1 1 z.2.1 (dy ks z.1).2/\MT PC (λv:Int=>nI v) z.2.2.1 z.2.2.2.1 2 r z.2.2.2.2/\NumK z.2.2.2.2 (dy ks z.1).1/\LY (λq=>1<=q) (λ_=>0) w z.2.2.1 z.2.2.2.1/\Nn w.heap.size z.2.2.1 z.2.2.2.1) (λz=>ks.length-z.1) (0,nS,O1,w1,[]) ⟨L2 _,M4 _ _ _ _ _ _,b8,⟨λk=>rfl,rfl⟩,b1.mono (λ_ h=>zo) zd,b5⟩;rintro⟨i,v2,O2,w2,D⟩ ⟨hi,a0,a3,hN,a8,a9⟩;dsimp only at hi a0 a3 hN a8 a9 ⊢;have h2:=h.ext a8.ext;obtain⟨b',b9⟩:=oK ks i;refine zh ?_
 refine zC ?_ ?_
 ·intro a6;replace a6:i<ks.length:=dT a6;obtain⟨k,hk⟩:∃k,k=nth ks i:=⟨_,rfl⟩
  have m1:w2.cell? (adr sv 1 i)=some (.string (bs k)):=by have:=h2.cell (i:=i) (j:=0) a6 rfl;rw[aA]at this;rw[hk];exact this
  have a7:=hN.at_ k;have e1:dy ks (i+1)=(DC (dy ks i).1 k,(dy ks i).2++[D0 (dy ks i).1 k]):=by rw[hk];rfl
  refine zh ?_
  cases a2:Bq (dy ks i).1 k with
  |some q=>
   rw[a2]at a7;have f1:DC (dy ks i).1 k=(dy ks i).1:=by unfold DC;rw[a2];rfl
   have f2:D0 (dy ks i).1 k=q:=by unfold D0;rw[a2];rfl
   rw[f1,f2]at e1;refine zvH (di (u:=.tuple #[nI (q:Int),.bool true]) a3 N5 vj (Mj _) (bs k) rfl rfl rfl (by rw[a7];rfl)) ?_;refine zFH rfl rfl ?_;apply zv (Mn (u:=nI (q:Int)) a3 N5 vj (Mj _) (bs k) rfl rfl rfl (by rw[a7];rfl));apply MI lB a0 a9 ((q:Nat)) (λ_=>rfl) rfl rfl rfl (by simp[L6]) zo zo zo zd rfl rfl;intro v3 w3 O3 a1 a4 a';refine zh ?_;refine zxd (i+1,v3,O3,w3,D) ⟨a6,by dsimp only;rw[e1];exact a1,a3.upd a4 zd zd,by dsimp only;rw[e1];exact hN,a8.trans (a4.mono (λ_ h=>zo) zd),a'⟩
  |none=>
   rw[a2]at a7;have f1:DC (dy ks i).1 k=(dy ks i).1++[k]:=by unfold DC;rw[a2];rfl
   have f2:D0 (dy ks i).1 k=(dy ks i).1.length:=by unfold D0;rw[a2];rfl
   rw[f1,f2]at e1;have b6:=hN.add a2;have b7:=hN.len;refine zvH (di (u:=.tuple #[nI 0,.bool false]) a3 N5 vj (Mj _) (bs k) rfl rfl rfl (by rw[a7];rfl)) ?_;refine zTH rfl rfl ?_;apply zv (DP a3 N5 rfl);apply Mm a3 N5 vj zd (bs k) (D.length:Int) rfl rfl rfl rfl rfl;intro w3 b2 a4;have a1:=a0.upd a4 zd zd;have a':=a9.upd a4;refine zh ?_;apply zv (Mn (u:=nI (((dy ks i).1.length:Nat):Int)) b2 N5 vj (Mj _) (bs k) rfl rfl rfl (by rw[bn,if_pos rfl,b7];rfl));apply MI lB a1 a' (((dy ks i).1.length:Nat)) (λ_=>rfl) rfl rfl rfl (by simp[L6]) zo zo zo zd rfl rfl;intro v4 w4 O4 a5 b0 b4;refine zh ?_;refine zxd (i+1,v4,O4,w4,cU D (bs k) (D.length:Int)) ⟨a6,by dsimp only;rw[e1];exact a5,b2.upd b0 zd zd,by dsimp only;rw[e1];exact b6,(a8.trans (a4.mono (λ_ h=>zo) zd)).trans (b0.mono (λ_ h=>zo) zd),b4⟩
 intro b3;obtain rfl:i=ks.length:=dF b3;refine zh ?_;refine af rfl rfl ⟨a0.sl,a8.ext,a0.newV zd a9⟩
theorem elD:PD Md 218 170 2 48:=⟨PY,by kernel_rfl,zd⟩
theorem A7(l:List (ix×ix))(sv:ix)(w:ln)(h:Sl A0 2 w sv l)(hz:∀u∈l,(A0 u).length=2)(h1:∀u∈l,∀c∈A0 u,c.oneCell'=true)(hl:l.length<=100000):
  Np Md 132 [sv] w λv w'=>Sl A0 2 w' v l/\MZ w w'/\∀(B:Nat) (O:Nat->Nat),Nn B O w->NH O w' v:=by
 obtain⟨a,c,rfl,_,_,ha⟩:=h.shape;apply L4 func132 ntmps132 rfl rfl;refine zh ?_;refine zvH (kf PY rfl rfl) ?_
 cases a with
 |none=>
  have a4:l=[]:=MY (LZ λa3=>by obtain⟨b,o,e⟩:=ha a3;cases e);subst a4;refine zTH rfl rfl ?_;refine af rfl rfl ⟨(M4 A0 0 2 (λ_=>0) w 0).sl,M7 _,λB O _ a n c e hn=>by cases e⟩
 |some a=>
  refine zFH rfl rfl ?_;apply cu elD A0 (ax w) 1 zd rfl
  intro v1 w1 O1 a1 a2 a7;have h2:=h.ext a2.ext;refine zh ?_;apply aK elD a1 a7 h2 rfl rfl hz h1 (by simp;omega) (by simp;omega) zd rfl;intro v2 w2 O2 a0 a5 a6;refine zh ?_;refine af rfl rfl ⟨by have:=a0.sl;rwa[N2]at this,(a2.trans a5).ext,λB O hO=>a0.free zd a6 hO⟩
theorem rj(l:List Nat)(sv:ix)(w:ln)(h:Sl bm 1 w sv l)(hz:∀u∈l,(bm u).length=1)(h1:∀u∈l,∀c∈bm u,c.oneCell'=true)(hl:l.length<=100000):
  Np Md 188 [sv] w λv w'=>Sl bm 1 w' v l/\MZ w w'/\∀(B:Nat) (O:Nat->Nat),Nn B O w->NH O w' v:=by
 obtain⟨a,c,rfl,_,_,ha⟩:=h.shape;apply L4 func188 ntmps188 rfl rfl;refine zh ?_;refine zvH (kf L0 rfl rfl) ?_
 cases a with
 |none=>
  have a4:l=[]:=MY (LZ λa3=>by obtain⟨b,o,e⟩:=ha a3;cases e);subst a4;refine zTH rfl rfl ?_;refine af rfl rfl ⟨(M4 bm 0 1 (λ_=>0) w 0).sl,M7 _,λB O _ a n c e hn=>by cases e⟩
 |some a=>
  refine zFH rfl rfl ?_;apply cu lB bm (ax w) 1 zd rfl
  intro v1 w1 O1 a1 a2 a7;have h2:=h.ext a2.ext;refine zh ?_;apply aK lB a1 a7 h2 rfl rfl hz h1 (by simp;omega) (by simp;omega) zd rfl;intro v2 w2 O2 a0 a5 a6;refine zh ?_;refine af rfl rfl ⟨by have:=a0.sl;rwa[N2]at this,(a2.trans a5).ext,λB O hO=>a0.free zd a6 hO⟩
theorem mB(l:List Nat)(sv:ix)(w:ln)(h:Sl jh 1 w sv l)(hz:∀u∈l,(jh u).length=1)(h1:∀u∈l,∀c∈jh u,c.oneCell'=true)(hl:l.length<=100000):
  Np Md 189 [sv] w λv w'=>Sl jh 1 w' v l/\MZ w w'/\∀(B:Nat) (O:Nat->Nat),Nn B O w->NH O w' v:=by
 obtain⟨a,c,rfl,_,_,ha⟩:=h.shape;apply L4 func189 ntmps189 rfl rfl;refine zh ?_;refine zvH (kf Q4 rfl rfl) ?_
 cases a with
 |none=>
  have a4:l=[]:=MY (LZ λa3=>by obtain⟨b,o,e⟩:=ha a3;cases e);subst a4;refine zTH rfl rfl ?_;refine af rfl rfl ⟨(M4 jh 0 1 (λ_=>0) w 0).sl,M7 _,λB O _ a n c e hn=>by cases e⟩
 |some a=>
  refine zFH rfl rfl ?_;apply cu nw jh (ax w) 1 zd rfl
  intro v1 w1 O1 a1 a2 a7;have h2:=h.ext a2.ext;refine zh ?_;apply aK nw a1 a7 h2 rfl rfl hz h1 (by simp;omega) (by simp;omega) zd rfl;intro v2 w2 O2 a0 a5 a6;refine zh ?_;refine af rfl rfl ⟨by have:=a0.sl;rwa[N2]at this,(a2.trans a5).ext,λB O hO=>a0.free zd a6 hO⟩
theorem qe{F:NL}(hF:∀(args:Array ix) (w:ln),(callFunc F args).run Md w=.ok (.enter F args) w)(cs:Array ix)(l:List (ix×ix))(sv:ix)(q:Nat->Bool)(w:ln)(h:Sl A0 2 w sv l) 
  (hq:∀i,i<l.length->∀w',MZ w w'->Np Md F ([(λd:ix×ix=>PQ #[d.1,d.2]) (nth l i)]++cs.toList) w' λv w''=>v=.bool (q i)/\MZ w' w'') :
  Np Md 186 [sv,.func (.func F) #[] cs] w λv w'=>v=nI (ed q l.length)/\MZ w w':=by
 have hl:=h.len_le;apply L4 func186 ntmps186 rfl rfl;refine zh ?_;apply zlp (λx:Nat×ln=>[(0,sv),(1,.func (.func F) #[] cs),(7,nI l.length),(8,nI x.1)]) (λx=>x.2) (λx=>x.1<=l.length/\MZ w x.2/\∀i,i<x.1->q i=false) (λx=>l.length-x.1) (0,w) ⟨L2 _,M7 _,λi hi=>absurd hi (L3 i)⟩;rintro⟨k,w1⟩ ⟨hk,hE,a1⟩;dsimp only at hk hE a1 ⊢;have h1:=h.ext hE;refine zh ?_;refine zC ?_ ?_
 ·intro a0;replace a0:k<l.length:=dT a0;refine zh ?_;apply zv (ai (us:=A0 (nth l k)) (λj u hu=>h1.cell a0 hu) (Nl _) (MO _) rfl);apply dk rfl hF rfl (hq k a0 w1 hE) rfl;rintro v w2 ⟨rfl,a3⟩;refine zh ?_;refine zC ?_ ?_
  ·intro hy;refine zh ?_;refine af rfl rfl ⟨by rw[cR a0 hy a1],hE.trans a3⟩
  intro hy;refine zh ?_;refine zxd (k+1,w2) ⟨a0,hE.trans a3,λi hi=>(M6.1 hi).elim (a1 i) (λe=>by rw[e];exact hy)⟩
 intro a2;replace a2:l.length<=k:=dF a2;refine zh ?_;refine af rfl rfl ⟨by rw[cQ λi hi=>a1 i zo],hE⟩
theorem yd(nv tv:ix)(rows:List (List Nat))(a0:List Nat)(w:ln)(hn:P5 w nv rows)(a2:Sl jh 1 w tv a0)(hr:P6 rows a0):Np Md 133 [.agg #[nv,tv]] w λv w'=>v=.bool false/\MZ w w':=by
 apply L4 func133 ntmps133 rfl rfl;refine zh ?_
 apply aN (ax w) 1 zo rfl rfl;intro db w1 O1 a3 a5 a6 a1;refine zh ?_
 apply zv (ai (us:=[nv,tv]) a3.cellsAdd (Nl _) (MO _) rfl);apply zc Q6 (ka nv tv rows a0 w1 (hn.ext a1) (a2.ext a1) hr)
 rintro _ w2 ⟨rfl,a4⟩;refine zh ?_;refine af rfl rfl ⟨rfl,a1.trans a4⟩
theorem yi{F:NL}(hF:∀(args:Array ix) (w:ln),(callFunc F args).run Md w=.ok (.enter F args) w)(cs:Array ix)(l:List (ix×ix))(sv:ix)(w:ln)(h:Sl A0 2 w sv l) 
  (hq:∀i,i<l.length->∀w',MZ w w'->Np Md F ([(λd:ix×ix=>PQ #[d.1,d.2]) (nth l i)]++cs.toList) w' λv w''=>v=.bool false/\MZ w' w'') :
  Np Md 131 [sv,.func (.func F) #[] cs] w λv w'=>v=sv/\MZ w w':=by
 apply L4 func131 ntmps131 rfl rfl;refine zh ?_
 apply zc call186 (qe hF cs l sv (λ_=>false) w h hq);rintro _ w1 ⟨rfl,a0⟩;rw[cQ (q:=λ_=>false) λi hi=>rfl];refine zh ?_
 refine zTH rfl rfl ?_;refine af rfl rfl ⟨rfl,a0⟩
def bV(tabs:List (List (List Nat))):List Nat:=(dy ((L8 37).map (pf tabs)) 37).2
theorem K5:PD Md 107 9 1 16:=⟨underlying107,by kernel_rfl,zd⟩
theorem AW(ds:List (ix×ix))(tabs:List (List (List Nat)))(a2:List (List Nat))(sv:ix)(w:ln)(h:TabsD w sv ds tabs a2)(b8:ds.length<=1000):
  Np Md 91 [sv] w λv w'=>Sl bm 1 w' v (bV tabs)/\MZ w w'/\P7 w.heap.size v:=by
 have b5:=h.sl;have a8:∀u∈ds,∀c∈A0 u,c.oneCell'=true:=λu hu c hc=>by
  obtain⟨j,hj,rfl⟩:=ck hu
  rcases LP.1 hc with rfl|hc
  ·exact(h.at_ j hj).1.one
  rw[L5.1 hc];exact(h.at_ j hj).2.1.one
 apply L4 func91 ntmps91 rfl rfl;refine zh ?_
 apply zc call132 (A7 ds sv w b5 (λ_ _=>rfl) a8 zo);rintro a6 w1 ⟨b2,a',_⟩;apply zc call131 (yi call133 #[] ds a6 w1 b2 (λi hi w' b0=>yd _ _ _ _ w' ((h.at_ i hi).1.ext (a'.trans b0)) ((h.at_ i hi).2.1.ext (a'.trans b0)) (h.at_ i hi).2.2))
 rintro v2 w2 ⟨b1,b4⟩;rw[b1];clear b1 v2;have a1:=a'.trans b4;have c5:TabsD w2 a6 ds tabs a2:=⟨b2.ext b4,h.l1,h.l2,λi hi=>⟨(h.at_ i hi).1.ext a1,(h.at_ i hi).2.1.ext a1,(h.at_ i hi).2.2⟩⟩
 refine zh ?_;apply zlp (λz:Nat×ix×(Nat->Nat)×World=>[(0,a6),(3,z.2.1),(8,nI z.1)]) (λz=>z.2.2.2) (λz=>z.1<=37/\Ms encS 9 1 z.2.2.1 z.2.2.2 1 z.2.1 ((L8 z.1).map (pf tabs))/\LY (λq=>q=1) (λ_=>0) w2 z.2.2.1 z.2.2.2/\Nn w2.heap.size z.2.2.1 z.2.2.2) (λz=>37-z.1) (0,nS,λ_=>0,w2) ⟨L2 _,M4 _ _ _ _ _ _,MD zd _ _,ax w2⟩
 rintro⟨m,v3,O3,w3⟩ ⟨hm,a0,a5,b3⟩;dsimp only at hm a0 a5 b3 ⊢;have b':=c5.ext a5.ext;refine zh ?_;refine zC ?_ ?_
 ·intro a7;replace a7:m<37:=dT a7;refine zh ?_;apply zc call135 (A4 ds tabs a2 a6 m w3 b' a7 b8);rintro _ w4 ⟨rfl,c8⟩;have a9:LY (λ_=>False) O3 w3 O3 w4:=ae (λh=>h) O3 c8;have a4:=a0.upd a9 zd (λh=>h);have c9:((L8 m).map (pf tabs)).length=m:=by simp
  apply MI K5 a4 (b3.upd a9) ((pf tabs m)) (λ_=>rfl) rfl rfl rfl (by simp[L6]) zo zo zo zd rfl rfl;intro v5 w5 O5 a3 b9 c6;refine zh ?_
  refine zxd (m+1,v5,O5,w5) ⟨a7,by dsimp only;rw[My,M8];exact a3,(a5.trans (a9.mono (λ_ h=>h.elim) zd)).trans b9,c6⟩
 intro b7;obtain rfl:m=37:=dF b7;refine zh ?_;apply zc call136 (uJ _ v3 w3 a0.sl (by simp));rintro v6 w6 ⟨h6,c7,b6⟩;refine zh ?_;refine af rfl rfl ⟨by rw[NO,Ps]at h6;exact h6,(a1.trans a5.ext).trans c7,b6.mono (P8 a1.size a5.size)⟩
attribute [irreducible] bV
def qA:List Int->Nat->Prop
 |[],_=>True
 |g::r,n=>0<=g/\g<=n/\qA r (max n (g.toNat+1))
theorem mj{g:Int}:∀(l:List Int) (n:Nat),qA l n->0<=g->g<=(jT l n:Nat)->qA (l++[g]) n/\jT (l++[g]) n=max (jT l n) (g.toNat+1)
 |[],n,_,h0,h1=>by
  simp only[jT]at h1;simp only[N2,qA,jT];rw[if_neg zo];exact⟨⟨h0,h1,trivial⟩,rfl⟩
 |a::l,n,h,h0,h1=>by
  obtain⟨a1,a2,a3⟩:=h;simp only[jT]at h1;rw[if_neg zo]at h1;have ih:=mj l _ a3 h0 h1;simp only[NK,qA,jT];rw[if_neg zo,if_neg zo];exact⟨⟨a1,a2,ih.1⟩,ih.2⟩
abbrev ints(l:List Nat):List Int:=l.map λn:Nat=>(n:Int)
structure NuI(ks:List (List UInt8))(i:Nat)(S:List (List UInt8))(r:List Nat):Prop where
 len:r.length=i
 lt:∀j,j<i->nth r j<S.length/\nth S (nth r j)=nth ks j
 nd:S.Nodup
 hit:∀k,k<S.length->∃j,j<i/\nth r j=k
 right:qA (ints r) 0
 many:jT (ints r) 0=S.length
theorem CZ(h:Bq S s=some k):k<S.length/\nth S k=s:=by
 obtain⟨h1,h2,_⟩:=Me.1 h;exact⟨h1,by rw[aB h1];simpa using h2⟩
theorem C1(h:Bq S s=none):s∉S:=λhs=>by
 have:=MH.1 h s hs;simp at this
theorem uK(ks:List (List UInt8)):∀i,NuI ks i (dy ks i).1 (dy ks i).2
 |0=>⟨rfl,λj hj=>absurd hj (L3 j),NR,λk hk=>absurd hk (L3 k),trivial,rfl⟩
 |i+1=>by
  have ih:=uK ks i;unfold dy;generalize dy ks i=R at *;obtain⟨S,r⟩:=R;dsimp only at ih ⊢;have hl:=ih.len;have a0:∀(g:Nat),ints (r++[g])=ints r++[(g:Int)]:=λg=>by simp[ints]
  cases h:Bq S (nth ks i)with
  |some k=>
   obtain⟨h1,h2⟩:=CZ h;have e1:DC S (nth ks i)=S:=by unfold DC;rw[h];rfl
   have e2:D0 S (nth ks i)=k:=by unfold D0;rw[h];rfl
   rw[e1,e2];have hs:=mj (g:=(k:Int)) (ints r) 0 ih.right zo (by rw[ih.many];omega);refine⟨by simp[hl],λj hj=>?_,ih.nd,λq hq=>?_,by rw[a0];exact hs.1,by rw[a0,hs.2,ih.many];simp;omega⟩
   ·rw[ay]
    by_cases e:j<r.length
    ·rw[if_pos e];exact ih.lt j zo
    rw[if_neg e,show j-r.length=0 from by omega,ao];obtain rfl:j=i:=zo;exact⟨h1,h2⟩
   obtain⟨j,hj,e⟩:=ih.hit q hq;exact⟨j,zo,by rw[ay,if_pos zo];exact e⟩
  |none=>
   have hn:=C1 h;have e1:DC S (nth ks i)=S++[nth ks i]:=by unfold DC;rw[h];rfl
   have e2:D0 S (nth ks i)=S.length:=by unfold D0;rw[h];rfl
   rw[e1,e2];have hs:=mj (g:=(S.length:Int)) (ints r) 0 ih.right zo (by rw[ih.many];omega);refine⟨by simp[hl],λj hj=>?_,Ng.2 ⟨ih.nd,by simp,λa ha b hb e=>?_⟩,λq hq=>?_,by rw[a0];exact hs.1,by rw[a0,hs.2,ih.many];simp⟩
   ·rw[ay]
    by_cases e:j<r.length
    ·obtain⟨a1,a2⟩:=ih.lt j zo;rw[if_pos e];exact⟨by simp;omega,by rw[ay,if_pos a1];exact a2⟩
    rw[if_neg e,show j-r.length=0 from by omega,ao];obtain rfl:j=i:=zo;exact⟨by simp,by rw[ay,if_neg zo,MG,ao]⟩
   ·rw[L5]at hb;subst hb;subst e;exact hn ha
   rw[Mw,L9]at hq
   by_cases e:q<S.length
   ·obtain⟨j,hj,e⟩:=ih.hit q e;exact⟨j,zo,by rw[ay,if_pos zo];exact e⟩
   exact⟨i,zo,by rw[ay,if_neg zo,show i-r.length=0 from by omega,ao];omega⟩
theorem Gx{a:Nat}(ha:a<256)(hb:b<256)(h:MP a=MP b):a=b:=by
 have:=congrArg UInt8.toNat h;simp at this;omega
theorem zT:∀ {rows:List (List Nat)} {i j:Nat},(∀r∈rows,nth r i<=999/\nth r j<=999)->ri rows i=ri rows j->∀r∈rows,nth r i=nth r j
 |[],_,_,_,_=>λr hr=>absurd hr (by simp)
 |r::rows,i,j,h,e=>by
  obtain⟨h1,h2⟩:=h r (by simp);unfold ri at e;simp only[Mr,NK,N2,Q8]at e;obtain⟨e1,e2,e3⟩:=e;have a1:=Gx zo zo e1;have a2:=Gx zo zo e2;intro q hq
  rcases LP.1 hq with rfl|hq
  ·omega
  exact zT (λq hq=>h q (by simp[hq])) e3 q hq
theorem zU:∀ {tabs:List (List (List Nat))} {i j:Nat},(∀rows∈tabs,∀r∈rows,nth r i<=999/\nth r j<=999)->pf tabs i=pf tabs j->∀rows∈tabs,∀r∈rows,nth r i=nth r j
 |[],_,_,_,_=>λr hr=>absurd hr (by simp)
 |t::tabs,i,j,h,e=>by
  unfold pf at e;simp only[Mr]at e;obtain⟨e1,e2⟩:=List.append_inj e (by rw[lE,lE]);intro q hq
  rcases LP.1 hq with rfl|hq
  ·exact zT (h q (by simp)) e1
  exact zU (λq hq=>h q (by simp[hq])) e2 q hq
structure GrpI(g:List Nat)(many:Nat):Prop where
 len:g.length=37
 lt:∀i,i<37->nth g i<many
 hit:∀k,k<many->∃i,i<37/\nth g i=k
 cnt:iu (ints g)=many
 pos:1<=many
 le:many<=37
theorem Cu{l:List α}(h:l.Nodup)(hi:i<l.length)(hj:j<l.length)(e:l[i]=l[j]):i=j:=by
 rcases Nat.lt_trichotomy i j with h1|h1|h1
 ·exact absurd e (Nc.1 h i j hi hj h1)
 ·exact h1
 exact absurd e.symm (Nc.1 h j i hj hi h1)
theorem qU(tabs:List (List (List Nat))):∃many,GrpI (bV tabs) many/\∀i j,i<37->j<37->(nth (bV tabs) i=nth (bV tabs) j↔pf tabs i=pf tabs j):=by
 have h:=uK ((L8 37).map (pf tabs)) 37;have a4:=(oK ((L8 37).map (pf tabs)) 37).2;have hk:∀j,j<37->nth ((L8 37).map (pf tabs)) j=pf tabs j:=λj hj=>by rw[dU (by simpa using hj),aB (by simpa using hj)];simp
 unfold bV;have a0:=h.len;refine⟨(dy ((L8 37).map (pf tabs)) 37).1.length,⟨a0,λi hi=>(h.lt i hi).1,h.hit,?_,?_,a4⟩,λi j hi hj=>⟨λe=>?_,λe=>?_⟩⟩
 ·unfold iu;rw[if_pos (by rw[NO];exact a0)];exact h.many
 ·have:=(h.lt 0 zd).1;omega
 ·have h1:=(h.lt i hi).2;have h2:=(h.lt j hj).2;rw[hk i hi]at h1;rw[hk j hj]at h2;rw[<-h1,<-h2,e]
 obtain⟨a1,a2⟩:=h.lt i hi;obtain⟨b1,b2⟩:=h.lt j hj;rw[hk i hi]at a2;rw[hk j hj]at b2;have a3:=h.nd;show nth (dy _ 37).2 i=nth (dy _ 37).2 j;rw[aB a1]at a2;rw[aB b1]at b2;exact Cu a3 a1 b1 (by rw[a2,b2,e])
def pW(g:List Nat)(many:Nat)(row:List Nat):List Nat:=(L8 many).map λk=>nth row ((g.findIdx? (· == k)).getD 0)
theorem nL(g:List Nat)(many:Nat)(row:List Nat):(pW g many row).length=many:=by simp[pW]
theorem xH(hg:GrpI g many){row:List Nat}(hc:∀i j,i<37->j<37->nth g i=nth g j->nth row i=nth row j)(hi:i<37):nth (pW g many row) (nth g i)=nth row i:=by
 have a0:=hg.len;have hk:=hg.lt i hi;unfold pW;rw[aB (xs:=List.map _ (L8 many)) (by simpa using hk),Pv,List.getElem_range]
 cases hf:g.findIdx? (· == nth g i)with
 |none=>
  have:=MH.1 hf (nth g i) (aW zo);simp at this
 |some q=>
  obtain⟨h1,h2,_⟩:=Me.1 hf;rw[<-aB h1]at h2;exact hc q i zo hi (by simpa using h2)
theorem CA(hg:GrpI g many){row:List Nat}(hc:∀i j,i<37->j<37->nth g i=nth g j->nth row i=nth row j)(ho:a0.length=many)(h:∀i,i<37->nth a0 (nth g i)=nth row i):a0=pW g many row:=by
 refine List.ext_getElem (by rw[ho,nL]) λk h1 h2=>?_
 obtain⟨i,hi,e⟩:=hg.hit k zo;rw[<-aB h1,<-aB h2,<-e,h i hi,xH hg hc hi]
theorem AL(g row:List Nat)(many:Nat)(gv rv:ix)(w:ln)(hg:GrpI g many)(b0:Sl bm 1 w gv g)(a9:Sl bm 1 w rv row)(b5:row.length=37)(hc:∀i j,i<37->j<37->nth g i=nth g j->nth row i=nth row j):
  Np Md 190 [gv,rv,nI (many:Nat)] w λv w'=>∃ov,v=.tuple #[ov,.bool true]/\Sl bm 1 w' ov (pW g many row)/\MZ w w'/\∀(B:Nat) (O:Nat->Nat),Nn B O w->NH O w' ov:=by
 have c9:=hg.len;have c7:=hg.le;apply L4 func190 ntmps190 rfl rfl;refine zh ?_;apply dG lB (val:=λn:Nat=>nI (n:Int)) (0:Nat) zk (λ_=>rfl) (ax w) 1 zd many rfl rfl rfl rfl zo zo rfl;intro w1 O1 ov b6 a5 b' c5 b3;clear b6;have d0:=b0.ext b3;have c6:=a9.ext b3;refine zh ?_;rw[show((row.length:Int)-1)=((37:Nat):Int)-1 from by rw[b5]];apply zlp (λz:Nat×ln×List Nat=>[(0,gv),(1,rv),(8,ov),(9,nI ((z.1:Int)-1))]) (λz=>z.2.1) (λz=>z.1<=37/\Ms bm 3 1 O1 z.2.1 1 ov z.2.2/\LY (λq=>q=1) O1 w1 O1 z.2.1/\z.2.2.length=many/\∀i,z.1<=i->i<37->nth z.2.2 (nth g i)=nth row i) (λz=>z.1) (37,w1,L1 many 0) ⟨LQ _,a5,MD zd _ _,by simp,λi h1 h2=>by dsimp only at h1;omega⟩;rintro⟨j,w2,b4⟩ ⟨hj,a0,a6,a7,a1⟩;dsimp only at hj a0 a6 a7 a1 ⊢;have a3:MZ w w2:=(b'.trans a6).ext;have b2:=b0.ext a3;have a':=a9.ext a3;refine zh ?_;refine zC ?_ ?_
 ·intro b1;replace b1:1<=j:=dT b1;obtain⟨m,rfl⟩:∃m,j=m+1:=⟨j-1,zo⟩
  rw[show(((m+1:Nat):Int)-1)=(m:Int)from by omega];have c8:=hg.lt m zo;have k1:w2.cell? (adr gv 1 m)=some (nI ((nth g m:Nat):Int)):=by have:=b2.cell (i:=m) (j:=0) zo rfl;rwa[aA]at this
  have k2:w2.cell? (adr rv 1 m)=some (nI ((nth row m:Nat):Int)):=by have:=a'.cell (i:=m) (j:=0) zo rfl;rwa[aA]at this
  refine zh ?_;apply Pa 10 rfl rfl zk zk
  refine zh ?_;apply zw (aC a0.sl.sh L0 (L7 _) rfl rfl (nth g m) rfl zo)
  apply PH;apply MU a0.drew (nth g m) zo (nth row m) (L7 _) rfl zd rfl rfl rfl rfl
  intro w3 a4 b9;refine zh ?_;refine zxd (m,w3,b4.set (nth g m) (nth row m)) ⟨by dsimp only;omega,a4,a6.drew.trans b9,by dsimp only;rw[M9];exact a7,λi h1 h2=>?_⟩;dsimp only at h1 ⊢;rw[bt zo]
  split
  ·rename_i e;exact hc m i zo h2 e.symm
  rename_i e;refine a1 i ?_ h2;have:i≠m:=λe2=>e (by rw[e2])
  omega
 intro b7;obtain rfl:j=0:=dF b7;have a8:=CA hg hc a7 λi hi=>a1 i (L2 _) hi
 refine zh ?_;apply zlp (λz:Nat=>[(0,gv),(8,ov),(31,rv),(32,nI row.length),(33,nI z)]) (λz=>w2) (λz=>z<=row.length) (λz=>row.length-z) 0 (L2 _)
 intro i hi;refine zh ?_;refine zC ?_ ?_
 ·intro a2;replace a2:i<row.length:=dT a2;have c':=hg.lt i zo;have k1:w2.cell? (adr gv 1 i)=some (nI ((nth g i:Nat):Int)):=by have:=b2.cell (i:=i) (j:=0) zo rfl;rwa[aA]at this
  have k2:w2.cell? (adr rv 1 i)=some (nI ((nth row i:Nat):Int)):=by have:=a'.cell (i:=i) (j:=0) zo rfl;rwa[aA]at this
  have k3:w2.cell? (adr ov 1 (nth g i))=some (nI ((nth row i:Nat):Int)):=by have:=a0.sl.cell (i:=nth g i) (j:=0) zo rfl;rw[aA,a1 i (L2 _) zo]at this;exact this
  refine zh ?_;refine zvH (aC a0.sl.sh L0 (L7 _) rfl rfl (nth g i) rfl zo) ?_
  refine zFH rfl ((by simp)) ?_;refine zxd (i+1) a2
 intro b8;refine zh ?_;refine cc rfl rfl rfl ⟨ov,rfl,by rw[<-a8];exact a0.sl,a3,λB O hO=>a0.free zd (c5.upd a6) hO⟩
theorem _root_.Go.VL.Sl.natIv(h:Sl bm 1 w v l):Sl encI 1 w v (l.map fun(n:Nat)=>(n:Int)):=
 ⟨by simpa using h.shape,λi hi j u hu=>h.cells i (by simpa using hi) j u (by simpa using hu)⟩
theorem Iv:cE Md 225 #[(0,1),(1,1),(2,1)]:=⟨_,underlying225,λw=>by kernel_rfl⟩
theorem FR(g:List Nat)(many:Nat)(gv nv tv:ix)(rows:List (List Nat))(a':List Nat)(w:ln)(hg:GrpI g many)(g1:Sl bm 1 w gv g)(hn:P5 w nv rows)(h5:Sl jh 1 w tv a')(hr:P6 rows a') 
  (hc:∀p,p<rows.length->∀i j,i<37->j<37->nth g i=nth g j->nth (nth rows p) i=nth (nth rows p) j) :
  Np Md 137 [gv,.agg #[nv,tv]] w λv w'=>∃gv' nv' tv',v=.tuple #[.agg #[gv',nv',tv'],nI 0]/\gv'.oneCell'=true/\nv'.oneCell'=true/\tv'.oneCell'=true/\RowsG w.heap.size w' nv' (rows.map (pW g many))/\Sl jh 1 w' tv' a'/\P7 w.heap.size tv'/\MZ w w':=by
 have j6:=hr.le;have i1:=hr.tl;have j7:=hg.len;have j4:=hg.pos;have j5:=hg.le;apply L4 func137 ntmps137 rfl rfl;refine zh ?_;apply aN (ax w) 1 zo rfl rfl;intro db w1 O1 g4 i8 j1 j9;apply ar j1 2 zo (MW _) rfl;intro cb w2 O2 g8 h8 j0 j8;have e7:=g4.upd h8 zd zd;have e9:LY (λq=>1<=q) (λ_=>0) w O2 w2:=(i8.mono (λ_ h=>zo) zd).trans (h8.mono (λ_ h=>zo) zd);have d4:=e9.ext;refine zh ?_;apply zc call29 (iV (ints g) gv w2 (g1.ext d4).natIv);rintro _ w3 ⟨rfl,h4⟩;rw[h4,hg.cnt];clear h4 w3;refine zh ?_;apply au (d:=16) rfl (b':=false) ((by rw[beq_eq_false_iff_ne];omega));refine zh ?_;refine zvH (ai (us:=[nv,tv]) e7.cellsAdd (Nl _) (MO _) rfl) ?_;apply zc Q6 (ka nv tv rows a' w2 (hn.ext d4) (h5.ext d4) hr);rintro _ w3 ⟨rfl,j2⟩;have f5:LY (λ_=>False) O2 w2 O2 w3:=ae (λh=>h) O2 j2;have c':=e7.upd f5 zd (λh=>h);have g7:=g8.upd f5 zd (λh=>h);have b6:=e9.trans (f5.mono (λ_ h=>h.elim) zd);have i':=j0.upd f5;refine zh ?_;refine zFH rfl rfl ?_;have d1:w3.drew.cell? (nA db 1)=some tv:=c'.cell 1 rfl;apply aQ (λW=>W.cell? (nA db 1)=some tv) 8 rfl zk;apply zrm 0 rfl d1 rfl;apply zrf 2 rfl d1 rfl;apply zt 3 rfl d1 (λw1 h'=>RV.ld h' rfl)
 refine iM (λx:ix×ix×Nat×(Nat->Nat)×World=>[(0,gv),(3,nP db),(4,nP cb),(6,nI (many:Nat)),(23,x.1),(26,x.2.1),(7,.pointer (some ⟨x.2.2.1,0,none⟩)),(27,.agg #[x.1,nS,x.2.1])]) (λx=>x.2.2.2.2) (λx=>Sl bm 1 x.2.2.2.2 x.1 g/\Sl jh 1 x.2.2.2.2 x.2.1 a'/\NH x.2.2.2.1 x.2.2.2.2 x.2.1/\Mo x.2.2.2.1 x.2.2.2.2 3 x.2.2.1 #[nS,nS,nS] 225/\LY (λq=>q=3) O2 w3 x.2.2.2.1 x.2.2.2.2/\Nn w.heap.size x.2.2.2.1 x.2.2.2.2/\P7 w3.heap.size x.2.1) #[true,true,true,true,true,true,true,false] 1 ?_ ?_
 ·intro hN;have hR:=i'.drew;have hU:LY (λq=>q=3) O2 w3 O2 w3.drew:=ae zd O2 (M7 w3).drew;have k0:∀O W,LY (λq=>q=3) O2 w3 O W->W.cell? (nA db 1)=some tv:=λO W u=>(c'.upd u zd zd).cell 1 rfl
  have kg:∀O W,LY (λq=>q=3) O2 w3 O W->Sl bm 1 W gv g:=λO W u=>g1.ext (b6.trans (u.mono (λ_ h=>zo) zd)).ext
  have kt:∀O W,LY (λq=>q=3) O2 w3 O W->Sl jh 1 W tv a':=λO W u=>h5.ext (b6.trans (u.mono (λ_ h=>zo) zd)).ext
  refine bB 1 6 zk rfl rfl ?_ ?_ 
  ·apply zc call188 (rj g gv _ (kg _ _ hU) (λ_ _=>rfl) (λu hu c hc=>by rw[L5.1 hc];rfl) zo);rintro a1 wa ⟨fA,f4,_⟩;have b2:=λO=>ae (S:=λ_=>False) (λh=>h) O f4
   have hU:=N9 hU ((b2 _).mono (λ_ h=>h.elim) zd);have hR:=ND hR (b2 _)
   try have fB:=NN fB f4
   try have gB:=NU gB (b2 _)
   try have fC:=Nv fC (b2 _) zd (λh=>h)
   refine zh ?_;apply aa (k0 _ _ hU)
   refine bB 4 6 zk rfl rfl ?_ ?_ 
   ·apply zc Q5 (mB a' tv _ (kt _ _ hU) (λ_ _=>rfl) (λu hu c hc=>by rw[L5.1 hc];rfl) zo);rintro a0 wb ⟨fB,b8,b9⟩;have nB:=(sC b9).mono hU.size;have gB:=b9 _ _ hR;have a9:=λO=>ae (S:=λ_=>False) (λh=>h) O b8
    have hU:=N9 hU ((a9 _).mono (λ_ h=>h.elim) zd);have hR:=ND hR (a9 _)
    try have fA:=NN fA b8
    try have fC:=Nv fC (a9 _) zd (λh=>h)
    refine zh ?_;apply aa (k0 _ _ hU)
    have oA:=Pb fA;have oB:=Pb fB;apply zr 5 rfl (k0 _ _ hU) (λ_=>aF Iv (MW _) rfl (by simp only[M5,oA,oB,ME];rfl) rfl rfl);apply Mh 6 zk rfl;apply ar hR 3 zd (MW _) rfl;intro ob wc Oc fC a8 e' f3;have hU:=N9 hU a8;have hR:=e'
    try have fA:=NN fA f3
    try have fB:=PZ fB gB a8
    try have gB:=NU gB a8
    refine zh ?_;apply aa (k0 _ _ hU)
    exact WH.leaf (hN (a1,a0,ob,_,_) ⟨fA,fB,gB,fC,hU,hR,nB⟩) zk ⟨rfl,rfl,rfl,rfl,rfl,rfl,rfl,rfl,trivial⟩ rfl
   apply ar hR 3 zd (MW _) rfl;intro ob wc Oc fC a8 e' f3;have hU:=N9 hU a8;have hR:=e'
   try have fA:=NN fA f3
   try have fB:=PZ fB gB a8
   try have gB:=NU gB a8
   refine zh ?_;apply aa (k0 _ _ hU)
   apply Mh 4 zk rfl;apply zc Q5 (mB a' tv _ (kt _ _ hU) (λ_ _=>rfl) (λu hu c hc=>by rw[L5.1 hc];rfl) zo)
   rintro a0 wb ⟨fB,b8,b9⟩;have nB:=(sC b9).mono hU.size;have gB:=b9 _ _ hR;have a9:=λO=>ae (S:=λ_=>False) (λh=>h) O b8
   have hU:=N9 hU ((a9 _).mono (λ_ h=>h.elim) zd);have hR:=ND hR (a9 _)
   try have fA:=NN fA b8
   try have fC:=Nv fC (a9 _) zd (λh=>h)
   refine zh ?_;apply aa (k0 _ _ hU)
   have oA:=Pb fA;have oB:=Pb fB;apply zr 5 rfl (k0 _ _ hU) (λ_=>aF Iv (MW _) rfl (by simp only[M5,oA,oB,ME];rfl) rfl rfl);exact WH.leaf (hN (a1,a0,ob,_,_) ⟨fA,fB,gB,fC,hU,hR,nB⟩) zk ⟨rfl,rfl,rfl,rfl,rfl,rfl,rfl,rfl,trivial⟩ rfl
  apply ar hR 3 zd (MW _) rfl;intro ob wc Oc fC a8 e' f3;have hU:=N9 hU a8;have hR:=e'
  try have fA:=NN fA f3
  try have fB:=PZ fB gB a8
  try have gB:=NU gB a8
  refine zh ?_;apply aa (k0 _ _ hU)
  apply Mh 1 zk rfl;apply zc call188 (rj g gv _ (kg _ _ hU) (λ_ _=>rfl) (λu hu c hc=>by rw[L5.1 hc];rfl) zo)
  rintro a1 wa ⟨fA,f4,_⟩;have b2:=λO=>ae (S:=λ_=>False) (λh=>h) O f4
  have hU:=N9 hU ((b2 _).mono (λ_ h=>h.elim) zd);have hR:=ND hR (b2 _)
  try have fB:=NN fB f4
  try have gB:=NU gB (b2 _)
  try have fC:=Nv fC (b2 _) zd (λh=>h)
  refine zh ?_;apply aa (k0 _ _ hU)
  apply Mh 4 zk rfl;apply zc Q5 (mB a' tv _ (kt _ _ hU) (λ_ _=>rfl) (λu hu c hc=>by rw[L5.1 hc];rfl) zo)
  rintro a0 wb ⟨fB,b8,b9⟩;have nB:=(sC b9).mono hU.size;have gB:=b9 _ _ hR;have a9:=λO=>ae (S:=λ_=>False) (λh=>h) O b8
  have hU:=N9 hU ((a9 _).mono (λ_ h=>h.elim) zd);have hR:=ND hR (a9 _)
  try have fA:=NN fA b8
  try have fC:=Nv fC (a9 _) zd (λh=>h)
  refine zh ?_;apply aa (k0 _ _ hU)
  have oA:=Pb fA;have oB:=Pb fB;apply zr 5 rfl (k0 _ _ hU) (λ_=>aF Iv (MW _) rfl (by simp only[M5,oA,oB,ME];rfl) rfl rfl);exact WH.leaf (hN (a1,a0,ob,_,_) ⟨fA,fB,gB,fC,hU,hR,nB⟩) zk ⟨rfl,rfl,rfl,rfl,rfl,rfl,rfl,rfl,trivial⟩ rfl
 rintro⟨a1,a0,ob,O7,w7⟩ ⟨e5,c5,c9,b1,b4,h9,e4⟩;dsimp only at e5 c5 c9 b1 b4 h9 e4 ⊢;have o1:=e5.one;have o2:=c5.one;have g3:=c'.upd b4 zd zd;have g6:=g7.upd b4 zd zd;apply Mh 7 zk rfl;apply zsb (us:=#[a1,nS,a0]) b1 (Ph _) (by simp only[M5,o1,o2];rfl);have g0:=b1.setRow (us:=#[a1,nS,a0]);have d7:LY (λj=>j=3) O7 w7 O7 (w7.setRow ob #[a1,nS,a0]):=M1 zd b1.tag rfl;have f9:=c5.upd c9 d7;have g2:=c9.upd d7;have e6:=g3.upd d7 zd zd;have g5:=g6.upd d7 zd zd;have d3:=(b6.trans (b4.mono (λ_ h=>zo) zd)).trans (d7.mono (λ_ h=>zo) zd);have i9:=h9.upd d7;generalize w7.setRow ob #[a1,nS,a0]=w8 at *;refine zh ?_;apply aa (e6.cell 1 rfl);have e0:w8.cell? (nA db 0)=some nv:=e6.cell 0 rfl;obtain⟨vs,d9,j3,f8⟩:=hn;have i0:=d9.ext d3.ext;apply Nm zk;refine zh ?_;apply zlp (λz:Nat×(Nat->Nat)×World×ix×List ix=>[(0,gv),(3,nP db),(4,nP cb),(6,nI (many:Nat)),(7,nP ob),(29,nv),(30,nI vs.length),(31,nI z.1)]) (λz=>z.2.2.1) (λz=>z.1<=rows.length/\LY (λq=>3<=q) O7 w8 z.2.1 z.2.2.1/\Nn w.heap.size z.2.1 z.2.2.1/\Mo z.2.1 z.2.2.1 3 ob #[a1,z.2.2.2.1,a0] 225/\RwO z.2.1 z.2.2.1 4 z.2.2.2.1 z.2.2.2.2 ((rows.take z.1).map (pW g many))/\∀k,k<z.1->P7 w.heap.size (nth z.2.2.2.2 k)) (λz=>rows.length-z.1) (0,O7,w8,nS,[]) ⟨L2 _,MD zd _ _,i9,g0,⟨M4 _ _ _ _ _ _,rfl,λk hk=>absurd hk (L3 k)⟩,λk hk=>absurd hk (L3 k)⟩
 rintro⟨i,O9,w9,d6,d5⟩ ⟨hi,e8,f6,c6,a4,c7⟩;dsimp only at hi e8 f6 c6 a4 c7 ⊢;have b5:=d3.trans (e8.mono (λ_ h=>zo) zd);have f7:=d9.ext b5.ext;have i2:=a4.len;have f':((rows.take i).map (pW g many)).length=i:=by simp;omega
 refine zh ?_;refine zC ?_ ?_
 ·intro c8;replace c8:i<rows.length:=dT c8;have m1:w9.cell? (adr nv 1 i)=some (nth vs i):=by have:=f7.cell (i:=i) (j:=0) zo rfl;rwa[aA]at this
  obtain⟨r1,r2⟩:=hr.row i c8;refine zh ?_;apply zc call190 (AL g (nth rows i) many gv (nth vs i) w9 hg (g1.ext b5.ext) ((f8 i c8).ext b5.ext) r1 (hc i c8));rintro _ h3 ⟨ov,rfl,h6,h2,h7⟩;have b3:LY (λ_=>False) O9 w9 O9 h3:=ae (λh=>h) O9 h2;have e2:=h7 _ _ f6;have i3:=(sC h7).mono b5.size;have h1:=f6.upd b3;have b7:=c6.upd b3 zd (λh=>h);have a2:=a4.upd b3 zd (λh=>h);obtain⟨oa,oc,i4,_⟩:=h6.shape;subst i4;refine zh ?_;apply aI rfl rfl;have f0:h3.cell? (nA ob 1)=some d6:=b7.cell 1 rfl;refine zh ?_;apply MI GM a2.row h1 ((.slice oa (pW g many (nth rows i)).length oc:ix)) (λ_=>rfl) rfl rfl rfl (by simp[L6]) zo zo zo zd rfl rfl;intro a3 d8 O11 a6 a5 h0;have a7:=b7.upd a5 zd zd;have e1:RwO O11 d8 4 a3 (d5++[.slice oa (pW g many (nth rows i)).length oc]) ((rows.take (i+1)).map (pW g many)):=by
   rw[aY c8,M8];refine⟨a6,by simp;omega,λk hk=>?_⟩;rw[ay,ay]
   by_cases e:k<((rows.take i).map (pW g many)).length
   ·rw[if_pos zo,if_pos e];exact⟨(a2.at_ k e).1.upd (a2.at_ k e).2 a5,(a2.at_ k e).2.upd a5⟩
   have i5:k=i:=by simp at hk;omega
   subst i5;rw[if_neg zo,if_neg e,f',show k-d5.length=0 from by omega,MG,ao,LX,NZ,ao];exact⟨h6.upd e2 a5,e2.upd a5⟩
  refine zh ?_;apply ak (j:=1) a7 rfl (sizeOf130 _) a6.one rfl rfl rfl
  have d2:LY (λj=>j=3) O11 d8 O11 (d8.setCell ⟨ob,1,none⟩ a3):=MB zd a7.tag rfl;have e3:Mo O11 (d8.setCell ⟨ob,1,none⟩ a3) 3 ob #[a1,a3,a0] 225:=a7.set 1 _;have d':=e1.upd d2 zd zd;have g':=h0.upd d2;generalize d8.setCell ⟨ob,1,none⟩ a3=w12 at *;refine zh ?_;refine zxd (i+1,O11,w12,a3,d5++[.slice oa (pW g many (nth rows i)).length oc]) ⟨c8,((e8.trans (b3.mono (λ_ h=>h.elim) zd)).trans (a5.mono (λ_ h=>zo) zd)).trans (d2.mono (λ_ h=>zo) zd),g',e3,d',λk hk=>?_⟩;dsimp only at hk ⊢;rw[ay]
  by_cases e:k<d5.length
  ·rw[if_pos e];exact c7 k zo
  rw[if_neg e,show k-d5.length=0 from by omega,ao];exact i3
 intro i6;obtain rfl:i=rows.length:=dF i6;rw[LU]at a4;have o3:=a4.row.one;have d0:=g5.upd e8 zd zd;refine zh ?_;apply zv (ai (us:=[a1,d6,a0]) c6.cellsAdd (isAgg225 _) (Ph _) rfl);apply zsb (us:=#[a1,d6,a0]) d0 (Ph _) (by simp only[M5,o1,o2,o3];rfl);have i7:=d0.setRow (us:=#[a1,d6,a0]);have g9:LY (λj=>j=2) O9 w9 O9 (w9.setRow cb #[a1,d6,a0]):=M1 zd d0.tag rfl;have b0:=a4.upd g9 zd zd;have hU9z:=(e8.mono (S':=λq=>2<=q) (λ_ h=>zo) zd).trans (g9.mono (λ_ h=>zo) zd);refine zh ?_;refine bE rfl rfl rfl i7.cellsAdd (isAgg225 _) (Ph _) ⟨a1,d6,a0,rfl,o1,o3,o2,⟨d5,b0.row.sl,b0.row.newV zd (f6.upd g9),b0.len,λk hk=>⟨(b0.at_ k hk).1,c7 k (by simpa using hk)⟩⟩,f9.upd g2 hU9z,e4.mono b6.size,(d3.trans (hU9z.mono (λ_ h=>zo) zd)).ext⟩
def qg(a0:List Int)(base c:Nat):Bool:=!(decide (base+c<a0.length)&&nth a0 (base+c) != -1)
theorem AC(pb:Nat)(cv kv:ix)(a0:List Nat)(a2:List Int)(base:Nat)(w:ln) 
  (hp:w.cell? ⟨pb,3,none⟩=some kv) (hk:NQ w kv a2) (hc:LN w cv a0) (a6:∀c∈a0,c<=64) (hb:base<=200000) :
  Np Md 240 [nP pb,cv,nI base] w λv w'=>v=.bool (a0.all (qg a2 base))/\w=w':=by
 have a8:=hk.len_le;have a':=hc.len_le;apply L4 func240 ntmps240 rfl rfl;refine zh ?_;apply zlp (λk:Nat=>[(0,nP pb),(1,cv),(2,nI base),(9,cv),(10,nI a0.length),(11,nI k)]) (λk=>w) (λk=>k<=a0.length/\∀j,j<k->qg a2 base (nth a0 j)=true) (λk=>a0.length-k) 0 ⟨L2 _,λj hj=>absurd hj (L3 j)⟩;intro k ⟨a9,a4⟩;refine zh ?_;refine zC ?_ ?_
 ·intro a1;replace a1:k<a0.length:=by simpa using a1
  have b0:=a6 _ (aW a1);refine zh ?_;refine zvH (RV.ld (hc.ld zo) rfl) ?_;refine zvH (RV.ld hp rfl) ?_
  by_cases a5:base+nth a0 k<a2.length
  ·apply au (d:=24) rfl (b':=true) (by simpa using(by omega:(base:Int)+((nth a0 k:Nat):Int)<(a2.length:Int)));refine zh ?_
   refine zvH (RV.ld hp rfl) ?_;refine zvH (RV.ld (hk.ld zo) rfl) ?_
   refine zC ?_ ?_
   ·intro a3;refine zh ?_;refine af rfl rfl ⟨?_,rfl⟩;rw[xF a1];simp only[qg,a5,a3];rfl
   intro a3;refine zh ?_;refine zxd (k+1) ⟨a1,λj hj=>?_⟩
   rcases M6.1 hj with h|rfl
   ·exact a4 j h
   simp only[qg,a5,a3];rfl
  apply au (d:=24) rfl (b':=false) (by simpa using(by omega:¬(base:Int)+((nth a0 k:Nat):Int)<(a2.length:Int)));refine zh ?_
  refine zFH rfl rfl ?_;refine zxd (k+1) ⟨a1,λj hj=>?_⟩
  rcases M6.1 hj with h|rfl
  ·exact a4 j h
  simp only[qg,a5];rfl
 intro a7;replace a7:a0.length<=k:=by simpa using a7
 refine zh ?_;refine af rfl rfl ⟨?_,rfl⟩
 rw[I1 λj hj=>a4 j zo]
def cnt(row:List Int)(n:Int):Int:=(row.count n:Int)
def ng(row:List Int)(b n:Int):Int:=if cnt row b<cnt row n\/(cnt row n=cnt row b/\n<b)then n else b
def cd(row:List Int):Int:=row.foldl (ng row) (nth row 0)
abbrev iv:Int->ix:=PP .i64
theorem qR:KeyL Md 3 iv:=Q3 NW
theorem Bz(row:List Int)(rv:ix)(w:ln)(h:NQ w rv row)(a9:0<row.length):
  Np Md 239 [rv] w λu w'=>u=nI (cd row)/\MZ w w':=by
 have hl:=h.len_le;have a6:∀r z,0<=cnt r z:=λr z=>by simp only[cnt];omega
 have a5:∀k z,cnt (row.take k) z<=k:=λk z=>by
  have h1:=List.count_le_length (a:=z) (l:=row.take k);have h2:=List.length_take_le k row;simp only[cnt];omega
 apply L4 func239 ntmps239 rfl rfl;refine zh ?_
 apply WL.makeMap rfl;refine zh ?_
 refine zvH (Nb (by first|exact h.ext (NM _ _)) L0 rfl) ?_;apply zlp (λx:Nat×ln×List (Int×Int)=>[(0,rv),(3,.map (some w.heap.size)),(10,rv),(11,nI row.length),(12,nI x.1)]) (λx=>x.2.1) (λx=>x.1<=row.length/\MT iv iv (lV (λ_=>0) w.heap.size 1) x.2.1 1 w.heap.size x.2.2/\LY (λj=>j=1) (λ_=>0) w (lV (λ_=>0) w.heap.size 1) x.2.1/\∀z,(bI x.2.2 z).getD 0=cnt (row.take x.1) z) (λx=>row.length-x.1) (0,_,[]) ⟨L2 _,MapO.new _ _ _,Pz zd (ax _) _ _,λz=>by simp[bI,cnt]⟩
 rintro⟨k,w1,m⟩ ⟨hk,hm,hU,a2⟩;dsimp only at hk hm hU a2 ⊢;have h1:=h.ext hU.ext;refine zh ?_;refine zC ?_ ?_
 ·intro a1;replace a1:k<row.length:=by simpa using a1
  have hc:=a5 k (nth row k);have a':=a6 (row.take k) (nth row k);refine zh ?_;refine zvH (RV.ld (h1.ld zo) rfl) ?_;refine zvH (Mn hm Mp qR (Mj _) (nth row k) rfl rfl rfl (u:=iv (cnt (row.take k) (nth row k))) (by rw[<-a2];cases bI m (nth row k)<;>rfl)) ?_;apply Mm hm Mp qR zd (nth row k) (cnt (row.take k) (nth row k)+1) rfl rfl rfl rfl rfl;intro w2 a7 a8;refine zh ?_;refine zxd (k+1,w2,_) ⟨a1,a7,hU.trans a8,λz=>?_⟩;dsimp only;rw[bn,aY a1]
  by_cases hz:nth row k=z
  ·subst hz;simp[cnt]
  rw[if_neg hz,a2];simp[cnt,List.count_append,hz]
 intro a3;replace a3:row.length<=k:=by simpa using a3
 have a4:∀z,(bI m z).getD 0=cnt row z:=λz=>by rw[a2,NY a3]
 refine zh ?_;refine zvH (RV.ld (h1.ld zo) rfl) ?_
 apply zlp (λx:Nat×Int=>[(3,.map (some w.heap.size)),(24,rv),(25,nI row.length),(26,nI x.1),(6,nI x.2)]) (λx=>w1) (λx=>x.1<=row.length/\(row.take x.1).foldl (ng row) (nth row 0)=x.2) (λx=>row.length-x.1) (0,nth row 0) ⟨L2 _,rfl⟩;rintro⟨k,b⟩ ⟨hk,hb⟩;dsimp only at hk hb ⊢;refine zh ?_
 refine zC ?_ ?_
 ·intro a1;replace a1:k<row.length:=by simpa using a1
  have a0:(row.take (k+1)).foldl (ng row) (nth row 0)=ng row b (nth row k):=by rw[aY a1,Mg,hb];rfl
  have L:∀z,I3 iv (nI 0) (bI m z)=iv (cnt row z):=λz=>by rw[<-a4];cases bI m z<;>rfl
  refine zh ?_;refine zvH (RV.ld (h1.ld zo) rfl) ?_
  refine zvH (Mn hm Mp qR (Mj _) (nth row k) rfl rfl rfl (L _)) ?_;refine zvH (Mn hm Mp qR (Mj _) b rfl rfl rfl (L _)) ?_
  by_cases h1:cnt row b<cnt row (nth row k)
  ·apply au (d:=37) rfl (b':=true) (decide_eq_true h1);refine zh ?_
   refine zTH rfl rfl ?_;refine zxd (k+1,_) ⟨a1,by rw[a0,ng,if_pos (.inl h1)]⟩
  apply au (d:=37) rfl (b':=false) (decide_eq_false h1);refine zh ?_
  refine zvH (Mn hm Mp qR (Mj _) (nth row k) rfl rfl rfl (L _)) ?_;refine zvH (Mn hm Mp qR (Mj _) b rfl rfl rfl (L _)) ?_
  by_cases h2:cnt row (nth row k)=cnt row b
  ·apply au (d:=45) rfl (b':=true) (by simpa using h2);refine zh ?_
   refine zC ?_ ?_
   ·intro h3;replace h3:nth row k<b:=by simpa using h3
    refine zh ?_;refine zxd (k+1,_) ⟨a1,by rw[a0,ng,if_pos (.inr ⟨h2,h3⟩)]⟩
   intro h3;replace h3:¬nth row k<b:=by simpa using h3
   refine zh ?_;refine zxd (k+1,_) ⟨a1,by rw[a0,ng,if_neg (λh=>h.elim h1 λh=>h3 h.2)]⟩
  apply au (d:=45) rfl (b':=false) (by simpa using h2);refine zh ?_
  refine zFH rfl rfl ?_;refine zxd (k+1,_) ⟨a1,by rw[a0,ng,if_neg (λh=>h.elim h1 λh=>h2 h.1)]⟩
 intro a3;replace a3:row.length<=k:=by simpa using a3
 refine zh ?_;refine af rfl rfl ⟨?_,hU.ext⟩
 rw[cd,<-hb,NY a3]
theorem A1:PD Md 22 3 1 8:=⟨L0,by kernel_rfl,zd⟩
abbrev nC(O:Nat->Nat)(w:ln)(i:Nat)(v:ix)(l:List Int):Prop:=Ms (λx=>[nI x]) 3 1 O w i v l
structure PSt where
 width:Int
 usual:List Int
 base:List Int
 check:List Int
 next:List Int
structure PkR(T:Nat)(O:Nat->Nat)(w:ln)(pb:Nat)(p:PSt)(uv bv kv nv:ix):Prop where
 blk:Mo O w (T+1) pb #[nI p.width,uv,bv,kv,nv] 26
 u:nC O w (T+2) uv p.usual
 b:nC O w (T+3) bv p.base
 k:nC O w (T+4) kv p.check
 n:nC O w (T+5) nv p.next
def PkO(T:Nat)(O:Nat->Nat)(w:ln)(pb:Nat)(p:PSt):Prop:=∃uv bv kv nv,PkR T O w pb p uv bv kv nv
def jH(T:Nat)(i:Nat):Prop:=T+1<=i/\i<=T+5
theorem ik(T:Nat):¬jH T 0:=by unfold jH;omega
theorem PkR.upd{T:Nat}{S:Nat->Prop}{O O':Nat->Nat}{w w':ln}{pb:Nat}{p:PSt}{uv bv kv nv:ix}(h:PkR T O w pb p uv bv kv nv)(u:LY S O w O' w')(hS:∀i,jH T i->¬S i):PkR T O' w' pb p uv bv kv nv:=
 ⟨h.blk.upd u zo (hS _ (by unfold jH;omega)),h.u.upd u zo (hS _ (by unfold jH;omega)),h.b.upd u zo (hS _ (by unfold jH;omega)),h.k.upd u zo (hS _ (by unfold jH;omega)),h.n.upd u zo (hS _ (by unfold jH;omega))⟩
theorem PkO.upd{T:Nat}{S:Nat->Prop}{O O':Nat->Nat}{w w':ln}{pb:Nat}{p:PSt}(h:PkO T O w pb p)(u:LY S O w O' w')(hS:∀i,jH T i->¬S i):PkO T O' w' pb p:=by
 obtain⟨uv,bv,kv,nv,h⟩:=h;exact⟨uv,bv,kv,nv,h.upd u hS⟩
section
variable{T:Nat}{O O':Nat→Nat}{w w':ln}{pb:Nat}{p:PSt}{uv bv kv nv v:ix}{l:List Int}
theorem PkR.setK(h:PkR T O w pb p uv bv kv nv)(u:LY (λj=>j=T+4) O w O' w')(r:nC O' w' (T+4) v l):
  PkR T O' (w'.setCell ⟨pb,3,none⟩ v) pb { p with check:=l } uv bv v nv/\LY (jH T) O w O' (w'.setCell ⟨pb,3,none⟩ v):=by
 have hb:=h.blk.upd u zo zo;have us:LY (λj=>j=T+1) O' w' O' (w'.setCell ⟨pb,3,none⟩ v):=MB zo hb.tag rfl
 exact⟨⟨hb.set 3 v,(h.u.upd u zo zo).upd us zo zo,(h.b.upd u zo zo).upd us zo zo,r.upd us zo zo,(h.n.upd u zo zo).upd us zo zo⟩,
  (u.mono (by unfold jH;omega) (ik T)).trans (us.mono (by unfold jH;omega) (ik T))⟩
theorem PkR.setN(h:PkR T O w pb p uv bv kv nv)(u:LY (λj=>j=T+5) O w O' w')(r:nC O' w' (T+5) v l):
  PkR T O' (w'.setCell ⟨pb,4,none⟩ v) pb { p with next:=l } uv bv kv v/\LY (jH T) O w O' (w'.setCell ⟨pb,4,none⟩ v):=by
 have hb:=h.blk.upd u zo zo;have us:LY (λj=>j=T+1) O' w' O' (w'.setCell ⟨pb,4,none⟩ v):=MB zo hb.tag rfl
 exact⟨⟨hb.set 4 v,(h.u.upd u zo zo).upd us zo zo,(h.b.upd u zo zo).upd us zo zo,(h.k.upd u zo zo).upd us zo zo,r.upd us zo zo⟩,
  (u.mono (by unfold jH;omega) (ik T)).trans (us.mono (by unfold jH;omega) (ik T))⟩
theorem PkR.setU(h:PkR T O w pb p uv bv kv nv)(u:LY (λj=>j=T+2) O w O' w')(r:nC O' w' (T+2) v l):
  PkR T O' (w'.setCell ⟨pb,1,none⟩ v) pb { p with usual:=l } v bv kv nv/\LY (jH T) O w O' (w'.setCell ⟨pb,1,none⟩ v):=by
 have hb:=h.blk.upd u zo zo;have us:LY (λj=>j=T+1) O' w' O' (w'.setCell ⟨pb,1,none⟩ v):=MB zo hb.tag rfl
 exact⟨⟨hb.set 1 v,r.upd us zo zo,(h.b.upd u zo zo).upd us zo zo,(h.k.upd u zo zo).upd us zo zo,(h.n.upd u zo zo).upd us zo zo⟩,
  (u.mono (by unfold jH;omega) (ik T)).trans (us.mono (by unfold jH;omega) (ik T))⟩
theorem PkR.setB(h:PkR T O w pb p uv bv kv nv)(u:LY (λj=>j=T+3) O w O' w')(r:nC O' w' (T+3) v l):
  PkR T O' (w'.setCell ⟨pb,2,none⟩ v) pb { p with base:=l } uv v kv nv/\LY (jH T) O w O' (w'.setCell ⟨pb,2,none⟩ v):=by
 have hb:=h.blk.upd u zo zo;have us:LY (λj=>j=T+1) O' w' O' (w'.setCell ⟨pb,2,none⟩ v):=MB zo hb.tag rfl
 exact⟨⟨hb.set 2 v,(h.u.upd u zo zo).upd us zo zo,r.upd us zo zo,(h.k.upd u zo zo).upd us zo zo,(h.n.upd u zo zo).upd us zo zo⟩,
  (u.mono (by unfold jH;omega) (ik T)).trans (us.mono (by unfold jH;omega) (ik T))⟩
theorem PkR.c1(h:PkR T O w pb p uv bv kv nv):w.cell? ⟨pb,1,none⟩=some uv:=h.blk.cell 1 rfl
theorem PkR.c2(h:PkR T O w pb p uv bv kv nv):w.cell? ⟨pb,2,none⟩=some bv:=h.blk.cell 2 rfl
theorem PkR.c3(h:PkR T O w pb p uv bv kv nv):w.cell? ⟨pb,3,none⟩=some kv:=h.blk.cell 3 rfl
theorem PkR.c4(h:PkR T O w pb p uv bv kv nv):w.cell? ⟨pb,4,none⟩=some nv:=h.blk.cell 4 rfl
end
def PSt.long(p:PSt)(j:Nat):PSt:={ p with check:=p.check++L1 j (-1),next:=p.next++L1 j 0 }
def PSt.take(p:PSt)(slot:Nat)(row entry:Int):PSt:=
 let q:=p.long (slot+1-p.check.length)
 { q with check:=q.check.set slot row,next:=q.next.set slot entry }
theorem Fe(T:Nat)(pb:Nat)(p:PSt)(slot:Nat)(row entry:Int)(B:Nat)(O:Nat->Nat)(w:ln)(hp:PkO T O w pb p)(hR:Nn B O w)(hs:slot<=1000000)(hl:p.next.length=p.check.length):
  Np Md 241 [nP pb,nI slot,nI row,nI entry] w λ_ w'=>∃O',PkO T O' w' pb (p.take slot row entry)/\LY (jH T) O w O' w'/\Nn B O' w':=by
 apply L4 func241 ntmps241 rfl rfl;refine zh ?_
 apply zlp (λx:Nat×(Nat->Nat)×World=>[(0,nP pb),(1,nI slot),(2,nI row),(3,nI entry)]) (λx=>x.2.2) (λx=>PkO T x.2.1 x.2.2 pb (p.long x.1)/\LY (jH T) O w x.2.1 x.2.2/\Nn B x.2.1 x.2.2/\x.1<=slot+1-p.check.length) (λx=>slot+1-p.check.length-x.1) (0,O,w) ⟨by simpa[PSt.long]using hp,MD (ik T) _ _,hR,L2 _⟩;rintro⟨j,O1,w1⟩ ⟨⟨uv,bv,kv,nv,h⟩,hU,a5,hj⟩;dsimp only at h hU a5 hj ⊢;have hk:=h.k.sl;have b8:(p.long j).check.length=p.check.length+j:=by simp[PSt.long]
 have b6:(p.long j).next.length=p.check.length+j:=by simp[PSt.long,hl]
 have b7:=hk.len_le;refine zh ?_;refine zvH (RV.ld h.c3 rfl) ?_;refine zC ?_ ?_
 ·intro b0;replace b0:p.check.length+j<=slot:=dT b0;refine zh ?_;apply zv (RV.ld h.c3 rfl);apply MI A1 h.k a5 (-1) (λ_=>rfl) rfl rfl rfl (by simp[L6]) zo zo zo zd rfl rfl;intro a9 w2 O2 a4 a1 b';obtain⟨h3,a0⟩:=h.setK a1 a4;have a2:=h.blk.upd a1 zo zo;have b3:Nn B O2 (w2.setCell ⟨pb,3,none⟩ a9):=a5.upd a0;refine zh ?_;apply ak (j:=3) a2 rfl (Ny _) a4.one rfl rfl rfl;refine zh ?_;apply zv (RV.ld h3.c4 rfl);have h3n:nC O2 (w2.setCell ⟨pb,3,none⟩ a9) (T+5) nv (p.long j).next:=h3.n;apply MI A1 h3n b3 (0) (λ_=>rfl) rfl rfl rfl (by simp[L6]) zo zo zo zd rfl rfl;intro a8 w4 O4 a' a3 b9;obtain⟨h5,b2⟩:=h3.setN a3 a';have b5:=h3.blk.upd a3 zo zo;refine zh ?_;apply ak (j:=4) b5 rfl (Ny _) a'.one rfl rfl rfl;refine zh ?_;have e:(p.long (j+1)) = { p.long j with check:=(p.long j).check++[-1],next:=(p.long j).next++[0] }:=by
   simp[PSt.long,List.replicate_succ']
  have hP:PkO T O4 (w4.setCell ⟨pb,4,none⟩ a8) pb (p.long (j+1)):=by rw[e];exact⟨_,_,_,_,h5⟩
  refine zxd (j+1,O4,w4.setCell ⟨pb,4,none⟩ a8) ⟨hP,(hU.trans a0).trans b2,b3.upd b2,zo⟩
 intro b1;replace b1:¬p.check.length+j<=slot:=dF b1;obtain rfl:j=slot+1-p.check.length:=zo;have hN:=h.n.sl;refine zh ?_;apply aQ (λw1=>w1.cell? ⟨pb,3,none⟩=some kv/\w1.cell? ⟨pb,4,none⟩=some nv) 16 rfl zk;refine zin ⟨h.c3,h.c4⟩ λzS=>?_
 apply zrm 0 rfl zS rfl;apply zr 1 rfl zS (λ_=>aq rfl)
 apply zrf 2 rfl zS rfl;apply zt 3 rfl zS (λw1 a6=>RV.ld a6.1 rfl)
 apply zrm 4 rfl zS rfl;apply zrm 5 rfl zS rfl
 apply zr 6 rfl zS (λ_=>aq rfl);apply zrf 7 rfl zS rfl
 apply zt 8 rfl zS (λw1 a6=>RV.ld a6.2 rfl);apply zrm 9 rfl zS rfl
 apply zrm 10 rfl zS rfl;apply zrm 11 rfl zS rfl
 apply zr 12 rfl zS (λ_=>aC hk.sh L0 (L7 _) rfl rfl slot rfl zo);have h2:PkR T O1 w1.drew pb (p.long (slot+1-p.check.length)) uv bv kv nv:=⟨h.blk.drew,h.u.drew,h.b.drew,h.k.drew,h.n.drew⟩
 apply Mh 13 zk rfl;apply MU h2.k slot zo row (L7 _) rfl zo rfl rfl rfl rfl
 intro w2 a4 a1;have a2:=h2.blk.upd a1 zo zo;refine zh ?_;apply aa ⟨a2.cell 3 rfl,a2.cell 4 rfl⟩;apply zr 14 rfl ⟨a2.cell 3 rfl,a2.cell 4 rfl⟩ (λ_=>aC hN.sh L0 (L7 _) rfl rfl slot rfl zo);apply Mh 15 zk rfl;apply MU (h2.n.upd a1 zo zo) slot zo entry (L7 _) rfl zo rfl rfl rfl rfl;intro w3 b4 a0;have a7:=a2.upd a0 zo zo;refine zh ?_;apply aa ⟨a7.cell 3 rfl,a7.cell 4 rfl⟩;apply Nm zk;have a3:LY (jH T) O1 w1 O1 w3:=((a1.mono (by unfold jH;omega) (ik T)).trans (a0.mono (by unfold jH;omega) (ik T))).ofDrew;refine aJ rfl ⟨O1,⟨uv,bv,kv,nv,⟨a7,(h2.u.upd a1 zo zo).upd a0 zo zo,(h2.b.upd a1 zo zo).upd a0 zo zo,a4.upd a0 zo zo,b4⟩⟩,hU.trans a3,a5.upd a3⟩
theorem qd{F:NL}(hF:∀(args:Array ix) (w:ln),(callFunc F args).run Md w=.ok (.enter F args) w)(cs:Array ix)(l:List Int)(sv:ix)(q:Nat->Bool)(w:ln)(h:Sl (λx=>[nI x]) 1 w sv l) 
  (hq:∀i,i<l.length->∀w',MZ w w'->Np Md F ([nI (nth l i)]++cs.toList) w' λv w''=>v=.bool (q i)/\MZ w' w'') :
  Np Md 242 [sv,.func (.func F) #[] cs] w λv w'=>v=nI (ed q l.length)/\MZ w w':=by
 have hl:=h.len_le;apply L4 func242 ntmps242 rfl rfl;refine zh ?_;apply zlp (λx:Nat×ln=>[(0,sv),(1,.func (.func F) #[] cs),(7,nI l.length),(8,nI x.1)]) (λx=>x.2) (λx=>x.1<=l.length/\MZ w x.2/\∀i,i<x.1->q i=false) (λx=>l.length-x.1) (0,w) ⟨L2 _,M7 _,λi hi=>absurd hi (L3 i)⟩;rintro⟨k,w1⟩ ⟨hk,hE,a1⟩;dsimp only at hk hE a1 ⊢;have h1:=h.ext hE;refine zh ?_;refine zC ?_ ?_
 ·intro a0;replace a0:k<l.length:=dT a0;refine zh ?_;apply zv (RV.ld (h1.ld a0) rfl);apply dk rfl hF rfl (hq k a0 w1 hE) rfl;rintro v w2 ⟨rfl,a3⟩;refine zh ?_;refine zC ?_ ?_
  ·intro hy;refine zh ?_;refine af rfl rfl ⟨by rw[cR a0 hy a1],hE.trans a3⟩
  intro hy;refine zh ?_;refine zxd (k+1,w2) ⟨a0,hE.trans a3,λi hi=>(M6.1 hi).elim (a1 i) (λe=>by rw[e];exact hy)⟩
 intro a2;replace a2:l.length<=k:=dF a2;refine zh ?_;refine af rfl rfl ⟨by rw[cQ λi hi=>a1 i zo],hE⟩
theorem mz{F:NL}(hF:∀(args:Array ix) (w:ln),(callFunc F args).run Md w=.ok (.enter F args) w)(cs:Array ix)(l:List Int)(sv:ix)(q:Nat->Bool)(w:ln)(h:Sl (λx=>[nI x]) 1 w sv l) 
  (hq:∀i,i<l.length->∀w',MZ w w'->Np Md F ([nI (nth l i)]++cs.toList) w' λv w''=>v=.bool (q i)/\MZ w' w'') :
  Np Md 193 [sv,.func (.func F) #[] cs] w λv w'=>v=.bool (jj q l.length)/\MZ w w':=by
 apply L4 func193 ntmps193 rfl rfl;refine zh ?_
 apply zc call242 (qd hF cs l sv q w h hq);rintro v w1 ⟨rfl,hE⟩;refine zh ?_
 refine af rfl rfl ⟨by rw[firstN_any],hE⟩
theorem pZ{F:NL}(hF:∀(args:Array ix) (w:ln),(callFunc F args).run Md w=.ok (.enter F args) w)(cs:Array ix)(l:List ix)(sv:ix)(q:Nat->Bool)(w:ln)(h:Sl (λx=>[x]) 1 w sv l) 
  (hq:∀i,i<l.length->∀w',MZ w w'->Np Md F ([id (nth l i)]++cs.toList) w' λv w''=>v=.bool (q i)/\MZ w' w'') :
  Np Md 96 [sv,.func (.func F) #[] cs] w λv w'=>v=nI (ed q l.length)/\MZ w w':=by
 have hl:=h.len_le;apply L4 func96 ntmps96 rfl rfl;refine zh ?_;apply zlp (λx:Nat×ln=>[(0,sv),(1,.func (.func F) #[] cs),(7,nI l.length),(8,nI x.1)]) (λx=>x.2) (λx=>x.1<=l.length/\MZ w x.2/\∀i,i<x.1->q i=false) (λx=>l.length-x.1) (0,w) ⟨L2 _,M7 _,λi hi=>absurd hi (L3 i)⟩;rintro⟨k,w1⟩ ⟨hk,hE,a1⟩;dsimp only at hk hE a1 ⊢;have h1:=h.ext hE;refine zh ?_;refine zC ?_ ?_
 ·intro a0;replace a0:k<l.length:=dT a0;refine zh ?_;apply zv (RV.ld (h1.ld a0) rfl);apply dk rfl hF rfl (hq k a0 w1 hE) rfl;rintro v w2 ⟨rfl,a3⟩;refine zh ?_;refine zC ?_ ?_
  ·intro hy;refine zh ?_;refine af rfl rfl ⟨by rw[cR a0 hy a1],hE.trans a3⟩
  intro hy;refine zh ?_;refine zxd (k+1,w2) ⟨a0,hE.trans a3,λi hi=>(M6.1 hi).elim (a1 i) (λe=>by rw[e];exact hy)⟩
 intro a2;replace a2:l.length<=k:=dF a2;refine zh ?_;refine af rfl rfl ⟨by rw[cQ λi hi=>a1 i zo],hE⟩
theorem gj{F:NL}(hF:∀(args:Array ix) (w:ln),(callFunc F args).run Md w=.ok (.enter F args) w)(cs:Array ix)(l:List ix)(sv:ix)(q:Nat->Bool)(w:ln)(h:Sl (λx=>[x]) 1 w sv l) 
  (hq:∀i,i<l.length->∀w',MZ w w'->Np Md F ([id (nth l i)]++cs.toList) w' λv w''=>v=.bool (q i)/\MZ w' w'') :
  Np Md 59 [sv,.func (.func F) #[] cs] w λv w'=>v=.bool (jj q l.length)/\MZ w w':=by
 apply L4 func59 ntmps59 rfl rfl;refine zh ?_
 apply zc call96 (pZ hF cs l sv q w h hq);rintro v w1 ⟨rfl,hE⟩;refine zh ?_
 refine af rfl rfl ⟨by rw[firstN_any],hE⟩
theorem vV(a:Int)(b1 b2:Addr)(lo hi:Int)(w:ln)(h1:w.cell? b1=some (nI lo))(h2:w.cell? b2=some (nI hi)):
  Np Md 194 [nI a,.pointer (some b1),.pointer (some b2)] w λv w'=>v=.bool (decide (a<lo)||decide (hi<a))/\w=w':=by
 apply L4 func194 ntmps194 rfl rfl;refine zh ?_
 by_cases a0:a<lo
 ·apply au (d:=8) rfl (b':=true) (decide_eq_true a0);refine zh ?_
  refine af rfl rfl ⟨by simp[a0],rfl⟩
 apply au (d:=8) rfl (b':=false) (decide_eq_false a0);refine zh ?_
 refine af rfl rfl ⟨by simp[a0],rfl⟩
def inB(lo hi:Int)(l:List Int):Bool:=l.all λn=>decide (lo<=n)&&decide (n<=hi)
theorem fS(lo hi:Int)(l:List Int)(lv:ix)(w:ln)(h:NQ w lv l):
  Np Md 139 [lv,nI lo,nI hi] w λv w'=>v=.bool (inB lo hi l)/\MZ w w':=by
 apply L4 func139 ntmps139 rfl rfl;refine zh ?_
 apply WL.box rfl rfl;apply WL.box rfl rfl
 refine zh ?_;apply zv (dY rfl rfl)
 have hE:MZ w ((w.alloc (.cells #[nI lo] 3)).alloc (.cells #[nI hi] 3)):=(NM _ _).trans (NM _ _);have c2:((w.alloc (.cells #[nI lo] 3)).alloc (.cells #[nI hi] 3)).cell? ⟨w.heap.size,0,none⟩=some (nI lo):=(NM _ _).cell (by rw[P4 _ _ _ _ rfl];rfl);have c3:((w.alloc (.cells #[nI lo] 3)).alloc (.cells #[nI hi] 3)).cell? ⟨(w.alloc (.cells #[nI lo] 3)).heap.size,0,none⟩=some (nI hi):=by rw[P4 _ _ _ _ rfl];rfl
 apply zc call193 (mz call194 _ l lv (λi=>decide (nth l i<lo)||decide (hi<nth l i)) _ (h.ext hE) (λi hi w' a0=>(vV _ _ _ _ _ w' (a0.cell c2) (a0.cell c3)).mono λv w'' ⟨e1,e2⟩=>⟨e1,e2▸M7 _⟩));rintro v w1 ⟨rfl,a1⟩;refine zh ?_
 refine af rfl rfl ⟨?_,hE.trans a1⟩;rw[iI (l:=l) (p:=λn=>decide (n<lo)||decide (hi<n)),inB,List.all_eq_not_any_not];congr 3;funext n;rw[Bool.eq_iff_iff];simp
def gk(row:List Int)(u:Int)(k:Nat):List Nat:=(L8 k).filter λc=>nth row c != u
def bZ(row:List Int)(u:Int):List Nat:=gk row u row.length
theorem kd(row:List Int)(u:Int)(k:Nat):gk row u (k+1)=if nth row k=u then gk row u k else gk row u k++[k]:=by
 unfold gk;rw[My,MS]
 by_cases h:nth row k=u<;>simp[h]
theorem lD(h:c∈gk row u k):c<k:=by
 simp only[gk,Mz,LW]at h;exact h.1
theorem A5(row:List Int)(u:Int)(k:Nat):(gk row u k).length<=k:=by
 have:=Nu (λc=>nth row c != u) (L8 k);simpa[gk]using this
def eX(a1:List Int)(a0:List Nat)(b:Nat):Bool:=a0.all (qg a1 b)
def gp(a1:List Int)(a0:List Nat):Nat:=((L8 (a1.length+1)).find? (eX a1 a0)).getD 0
theorem lY(a1:List Int)(a0:List Nat):eX a1 a0 a1.length=true:=by
 rw[eX,Mu];intro c _;simp[qg]
theorem Dy{a1:List Int}(hb:eX a1 a0 b=true)(a2:∀j,j<b->eX a1 a0 j=false):gp a1 a0=b:=by
 have a3:b<=a1.length:=by
  refine Nat.le_of_not_lt λh=>?_
  have:=a2 _ h;rw[lY]at this;cases this
 have:(L8 (a1.length+1)).find? (eX a1 a0)=some b:=by
  rw[Nj];exact⟨hb,LW.2 zo,λj hj=>by simp[a2 j hj]⟩
 rw[gp,this];rfl
theorem gO(a1:List Int)(a0:List Nat):eX a1 a0 (gp a1 a0)=true/\gp a1 a0<=a1.length/\∀j,j<gp a1 a0->eX a1 a0 j=false:=by
 have:∃b,(L8 (a1.length+1)).find? (eX a1 a0)=some b:=by
  cases hf:(L8 (a1.length+1)).find? (eX a1 a0)with
  |some j=>exact⟨j,rfl⟩
  |none=>rw[List.find?_eq_none]at hf;exact absurd (lY a1 a0) (hf _ (LW.2 zo))
 obtain⟨b,hb⟩:=this;have h2:=hb;rw[Nj]at h2;have h3:=LW.1 h2.2.1;rw[gp,hb];exact⟨h2.1,by simpa using(by omega:b<=a1.length),λj hj=>by simpa using h2.2.2 j hj⟩
def PSt.lay(p:PSt)(row:List Int):PSt:=
 let u:=cd row
 let a0:=bZ row u
 let b:=gp p.check a0
 let q:=a0.foldl (λq c=>q.take (b+c) p.base.length (nth row c)) p
 { q with usual:=q.usual++[u],base:=q.base++[(b:Int)] }
theorem nf{p:PSt}{s:Nat}{r e:Int}(h:p.next.length=p.check.length):(p.take s r e).next.length=(p.take s r e).check.length:=by simp[PSt.take,PSt.long,h]
def Ah(T:Nat)(i:Nat):Prop:=T+1<=i/\i<=T+6
theorem uG(T:Nat):¬Ah T 0:=by unfold Ah;omega
abbrev Lb(O:Nat->Nat)(w:ln)(i:Nat)(v:ix)(l:List Nat):Prop:=Ms (fun(x:Nat)=>[nI (x:Int)]) 3 1 O w i v l
theorem xA(T pb:Nat)(p:PSt)(row:List Int)(rv:ix)(B:Nat)(O:Nat->Nat)(w:ln)(hp:PkO T O w pb p)(hR:Nn B O w)
  (a3:∀w',RowKit.Below B w w'->NQ w' rv row) (e3:0<row.length) (hw:row.length<=64) (hl:p.next.length=p.check.length) (g2:p.check.length<=100000)
  (d':p.usual.length<=100000) (e7:p.base.length<=100000) :
  Np Md 192 [nP pb,rv] w fun _ w'=>∃O',PkO T O' w' pb (p.lay row)/\LY (Ah T) O w O' w'/\Nn B O' w':=by
 have f':=(a3 w (NV _ _)).len_le;refine L4 func192 ntmps192 rfl rfl ?_;refine zg ?_;refine zc call239 (Bz row rv w (a3 w (NV _ _)) e3) ?_;rintro v w1 ⟨rfl,d5⟩;have b8:LY (Ah T) O w O w1:=ae (uG T) O d5;have g6:=hR.upd b8;have e2:PkO T O w1 pb p:=hp.upd (ae (S:=fun _=>False) (fun h=>h) O d5) (fun _ _ h=>h);generalize hu:cd row=u;refine zg ?_;refine zvG (Nb (by first|exact a3 _ (b8.below hR)) L0 rfl) ?_;refine zlp (fun x:Nat×(Nat->Nat)×World×ix=>[(0,nP pb),(1,rv),(4,nI u),(5,x.2.2.2),(13,rv),(14,nI row.length),(15,nI x.1)]) (fun x=>x.2.2.1) (fun x=>x.1<=row.length/\PkO T x.2.1 x.2.2.1 pb p/\Lb x.2.1 x.2.2.1 (T+6) x.2.2.2 (gk row u x.1)/\LY (Ah T) O w x.2.1 x.2.2.1) (fun x=>row.length-x.1) (0,O,w1,nS) (⟨L2 _,e2,M4 _ _ _ _ _ _,b8⟩) ?_;rintro⟨k,O2,w2,cv⟩ ⟨hk,b2,a4,a9⟩;dsimp only at hk b2 a4 a9 ⊢;have f6:=hR.upd a9;have c7:=a3 w2 (a9.below hR);refine zg ?_;refine zC ?_ ?_
 ·intro a1;replace a1:k<row.length:=by have:=of_decide_eq_true a1;omega
  have g1:=A5 row u k;refine zg ?_;refine zv (Mx (by first|exact c7) L0 (L7 _) rfl rfl _ rfl zo) ?_;refine zvG (RV.ld (c7.ld zo) rfl) ?_;refine zC ?_ ?_
  ·intro a6;replace a6:nth row k≠u:=by simpa using a6
   refine zg ?_;refine MI A1 a4 f6 (k) (fun _=>rfl) rfl rfl rfl (by simp[L6]) zo zo zo zd rfl rfl ?_
   intro f7 w3 O3 b7 d4 g5;refine zg ?_;refine zvG (Ns rfl rfl (N8 zo)) ?_;refine zxd (k+1,O3,w3,f7) (⟨a1,b2.upd d4 (by unfold jH;omega),by dsimp only;rw[kd,if_neg a6];exact b7,a9.trans (d4.mono (by unfold Ah;omega) (uG T))⟩)
  intro b6;replace b6:nth row k=u:=by simpa using b6
  refine zg ?_;refine zvG (Ns rfl rfl (N8 zo)) ?_
  refine zxd (k+1,O2,w2,cv) (⟨a1,b2,by dsimp only;rw[kd,if_pos b6];exact a4,a9⟩)
 intro b5;obtain rfl:k=row.length:=by have:=of_decide_eq_false b5;omega
 obtain⟨uv,bv,kv,nv,h⟩:=b2;have a5:∀c∈bZ row u,c<=64:=fun c hc=>by have:=lD hc;omega
 replace a4:Lb O2 w2 (T+6) cv (bZ row u):=a4;refine zg ?_;refine zlp (fun b:Nat=>[(0,nP pb),(1,rv),(4,nI u),(5,cv),(8,nI b)]) (fun b=>w2) (fun b=>b<=p.check.length/\∀j,j<b->eX p.check (bZ row u) j=false) (fun b=>p.check.length-b) 0 (⟨L2 _,fun j hj=>absurd hj (L3 j)⟩) ?_;intro b ⟨hb,c'⟩;refine zg ?_;refine zc call240 (AC pb cv kv (bZ row u) p.check b w2 h.c3 h.k.sl a4.sl a5 zo) ?_;rintro v _ ⟨rfl,rfl⟩;refine zg ?_;refine zC ?_ ?_
 ·intro a2;replace a2:eX p.check (bZ row u) b=false:=by rw[Nh]at a2;exact a2
  have a1:b<p.check.length:=by
   refine Nat.lt_of_le_of_ne hb fun e=>?_
   rw[e,lY]at a2;cases a2
  refine zg ?_;refine zvG (Ns rfl rfl (N8 zo)) ?_
  refine zxd (b+1) (⟨a1,fun j hj=>(M6.1 hj).elim (c' j) (fun e=>by rw[e];exact a2)⟩)
 intro a0;replace a0:eX p.check (bZ row u) b=true:=by rw[Bool.not_eq_false']at a0;exact a0
 have a':=Dy a0 c';have e5:=a4.sl;refine zg ?_;refine zvG (Nb (by first|exact e5) L0 rfl) ?_;refine zlp (fun x:Nat×(Nat->Nat)×World=>[(0,nP pb),(1,rv),(4,nI u),(5,cv),(8,nI b),(35,cv),(36,nI (bZ row u).length),(37,nI x.1)]) (fun x=>x.2.2) (fun x=>x.1<=(bZ row u).length/\Lb x.2.1 x.2.2 (T+6) cv (bZ row u)/\LY (Ah T) O w x.2.1 x.2.2/\(∃q:PSt,q=((bZ row u).take x.1).foldl (fun q c=>q.take (b+c) p.base.length (nth row c)) p/\PkO T x.2.1 x.2.2 pb q/\q.base=p.base/\q.usual=p.usual/\q.next.length=q.check.length)) (fun x=>(bZ row u).length-x.1) (0,O2,w2) (⟨L2 _,a4,a9,p,rfl,⟨uv,bv,kv,nv,h⟩,rfl,rfl,hl⟩) ?_;rintro⟨k,O4,w4⟩ ⟨e4,a7,b1,q,hq,⟨d7,d6,d9,d8,h4⟩,b4,c8,c9⟩;dsimp only at e4 a7 b1 hq h4 ⊢;have b9:=hR.upd b1;have c6:=a3 w4 (b1.below hR);have a8:=a7.sl;have e':=h4.b.sl;have g0:=a8.len_le;refine zg ?_;refine zC ?_ ?_
 ·intro a1;replace a1:k<(bZ row u).length:=by have:=of_decide_eq_true a1;omega
  have e6:=a5 _ (aW a1);have d0:=lD (aW a1);refine zg ?_;refine zv (Mx (by first|exact a8) L0 (L7 _) rfl rfl _ rfl zo) ?_;refine zvG (RV.ld (a8.ld zo) rfl) ?_;refine Pa 13 rfl rfl zk zk ?_;refine zg ?_;refine zwG (Ns rfl rfl (N8 zo)) ?_;refine zw (RV.ld h4.c2 rfl) ?_;refine zwG (Nb ((e').drew) L0 rfl) ?_;refine zw (Mx c6.drew L0 (L7 _) rfl rfl (nth (bZ row u) k) rfl d0) ?_;refine zw (RV.ld (c6.ld d0) rfl) ?_;refine PH ?_;have e1:PkO T O4 w4.drew pb q:=⟨d7,d6,d9,d8,h4.blk.drew,h4.u.drew,h4.b.drew,h4.k.drew,h4.n.drew⟩
  rw[show(q.base.length:Int)=(p.base.length:Int)from by rw[b4]];refine zc call241 (Fe T pb q (b+nth (bZ row u) k) p.base.length (nth row (nth (bZ row u) k)) B O4 w4.drew e1 b9.drew zo c9) ?_;rintro v w5 ⟨O5,e0,b0,f5⟩;have b3:LY (Ah T) O4 w4 O5 w5:=(b0.mono (fun i hi=>by unfold jH at hi;unfold Ah;omega) (uG T)).ofDrew;refine zg ?_;refine zvG (Ns rfl rfl (N8 zo)) ?_;refine zxd (k+1,O5,w5) (⟨a1,a7.drew.upd b0 zo (by unfold jH;omega),b1.trans b3,_,?_,e0,b4,c8,nf c9⟩);rw[aY a1,Mg,<-hq];rfl
 intro b5;obtain rfl:k=(bZ row u).length:=by have:=of_decide_eq_false b5;omega
 rw[LU]at hq;refine zg ?_;refine zvG (RV.ld h4.c1 rfl) ?_;have f9:q.usual.length<=100000:=by rw[c8];exact d'
 refine MI A1 h4.u b9 (u) (fun _=>rfl) rfl rfl rfl (by simp[L6]) zo zo zo zd rfl rfl ?_;intro b' w5 O5 c5 b0 f5;obtain⟨h5,b3⟩:=h4.setU b0 c5;have e9:=h4.blk.upd b0 zo zo;have f4:Nn B O5 (w5.setCell ⟨pb,1,none⟩ b'):=b9.upd b3;refine zg ?_
 refine ak (j:=1) e9 rfl (Ny _) c5.one rfl rfl rfl ?_;refine zg ?_
 refine zvG (RV.ld h5.c2 rfl) ?_;have h5b:nC O5 (w5.setCell ⟨pb,1,none⟩ b') (T+3) d6 q.base:=h5.b;have g3:q.base.length<=100000:=by rw[b4];exact e7
 refine MI A1 h5b f4 (b) (fun _=>rfl) rfl rfl rfl (by simp[L6]) zo zo zo zd rfl rfl ?_;intro f8 w6 O6 d1 d3 g4;obtain⟨h6,f3⟩:=h5.setB d3 d1;have e8:=h5.blk.upd d3 zo zo;refine zg ?_
 refine ak (j:=2) e8 rfl (Ny _) d1.one rfl rfl rfl ?_;refine zg ?_
 have d2:LY (Ah T) O w O6 (w6.setCell ⟨pb,2,none⟩ f8):=(b1.trans (b3.mono (fun i hi=>by unfold jH at hi;unfold Ah;omega) (uG T))).trans (f3.mono (fun i hi=>by unfold jH at hi;unfold Ah;omega) (uG T));refine aJ rfl (⟨O6,?_,d2,hR.upd d2⟩);have e:p.lay row = { q with usual:=q.usual++[u],base:=q.base++[(b:Int)] }:=by simp only[PSt.lay,hu];rw[a',<-hq]
 rw[e];exact⟨_,_,_,_,h6⟩
theorem JM:cE Md 26 #[(0,1),(1,1),(2,1),(3,1),(4,1)]:=⟨_,underlying26,λw=>by kernel_rfl⟩
def Rows(w:ln)(v:ix)(L:List (List Int)):Prop:=
 ∃rvs:List ix,Sl (λx=>[x]) 1 w v rvs/\rvs.length=L.length/\∀i,i<L.length->NQ w (nth rvs i) (nth L i)
theorem Rows.ext{w w':ln}{v:ix}{L:List (List Int)}(h:Rows w v L)(e:MZ w w'):Rows w' v L:=by
 obtain⟨a0,h1,h2,h3⟩:=h;exact⟨a0,h1.ext e,h2,λi hi=>(h3 i hi).ext e⟩
def iH(a0:Int)(row:List Int):Bool:=(row.length:Int) != a0 || !(inB 0 65535 row)
theorem IZ(a0:Int)(row:List Int)(rv:ix)(b:Addr)(w:ln)(h:NQ w rv row)(hb:w.cell? b=some (nI a0)):
  Np Md 191 [rv,.pointer (some b)] w λv w'=>v=.bool (iH a0 row)/\MZ w w':=by
 apply L4 func191 ntmps191 rfl rfl;refine zh ?_
 by_cases hl:(row.length:Int)=a0
 ·apply au (d:=8) rfl (b':=false) (by simpa using hl);refine zh ?_
  apply zc Pn (fS 0 65535 row rv w h);rintro v w1 ⟨rfl,hE⟩;refine zh ?_
  refine af rfl rfl ⟨by simp[iH,hl],hE⟩
 apply au (d:=8) rfl (b':=true) (by simpa using hl);refine zh ?_
 refine af rfl rfl ⟨by simp[iH,hl],M7 _⟩
def cF(a0:Int)(L:List (List Int)):Bool:=decide (a0<1)||decide (64<a0)||decide (1000<L.length)||L.any (iH a0)
def lU(a0:Int)(L:List (List Int)):PSt:=L.foldl PSt.lay ⟨a0,[],[],[],[]⟩
def PkV(w:ln)(v:ix)(p:PSt):Prop:=
 ∃uv bv kv nv,v=.agg #[nI p.width,uv,bv,kv,nv]/\NQ w uv p.usual/\NQ w bv p.base/\NQ w kv p.check/\NQ w nv p.next
theorem PkV.ext{w w':ln}{v:ix}{p:PSt}(h:PkV w v p)(e:MZ w w'):PkV w' v p:=by
 obtain⟨uv,bv,kv,nv,h0,h1,h2,h3,h4⟩:=h;exact⟨uv,bv,kv,nv,h0,h1.ext e,h2.ext e,h3.ext e,h4.ext e⟩
theorem tC(p:PSt)(s:Nat)(r e:Int):(p.take s r e).check.length=max p.check.length (s+1)/\(p.take s r e).usual=p.usual/\(p.take s r e).base=p.base/\(p.take s r e).width=p.width:=by
 simp[PSt.take,PSt.long];omega
theorem lf(f:Nat->Int)(b:Nat)(r:Int):∀(a0:List Nat) (p:PSt),(∀c∈a0,c<64)->p.next.length=p.check.length->
  let q:=a0.foldl (λq c=>q.take (b+c) r (f c)) p
  q.check.length<=max p.check.length (b+64)/\q.usual=p.usual/\q.base=p.base/\q.width=p.width/\q.next.length=q.check.length
 |[],p,_,hl=>⟨by simp;omega,rfl,rfl,rfl,hl⟩
 |c::a0,p,hc,hl=>by
  have h:=lf f b r a0 (p.take (b+c) r (f c)) (λx hx=>hc x (by simp[hx])) (nf hl);obtain⟨t1,t2,t3,t4⟩:=tC p (b+c) r (f c);have:=hc c (by simp);simp only[LO]at h ⊢;rw[t1,t2,t3,t4]at h;exact⟨zo,h.2⟩
theorem iT(p:PSt)(row:List Int)(hw:row.length<=64)(hl:p.next.length=p.check.length):
  (p.lay row).check.length<=p.check.length+64/\(p.lay row).usual=p.usual++[cd row]/\(p.lay row).base.length=p.base.length+1/\(p.lay row).width=p.width/\(p.lay row).next.length=(p.lay row).check.length:=by
 have hb:=(gO p.check (bZ row (cd row))).2.1;obtain⟨h1,h2,h3,h4,h5⟩:=lf (λc=>nth row c) (gp p.check (bZ row (cd row))) p.base.length (bZ row (cd row)) p (λc hc=>by have:=lD hc;omega) hl;refine⟨?_,?_,?_,h4,h5⟩
 ·simp only[PSt.lay];omega
 ·simp only[PSt.lay];rw[h2]
 simp only[PSt.lay];rw[h3];simp
def PkF(B:Nat)(v:ix):Prop:=∃wd uv bv kv nv,v=.agg #[wd,uv,bv,kv,nv]/\P7 B uv/\P7 B bv/\P7 B kv/\P7 B nv
theorem oI(width:Int)(L:List (List Int))(rv:ix)(w:ln)(h:Rows w rv L):
  Np Md 138 [nI width,rv] w λv w'=>∃pv e,v=.tuple #[pv,nI e]/\PkV w' pv (if cF width L then⟨0,[],[],[],[]⟩else lU width L)/\e=(if cF width L then 1 else 0)/\MZ w w'/\(cF width L=false->PkF w.heap.size pv):=by
 obtain⟨a4,hr,b1,c6⟩:=h;have f5:=hr.len_le;apply L4 func138 ntmps138 rfl rfl;refine zh ?_;apply aN (ax w) 1 zo rfl rfl;intro bw w1 O1 e0 e1 e7 f3;apply ar e7 2 zo (N6 _) rfl;intro br w2 O2 a1 d3 e6 e';have a':=e0.upd d3 zd zd;have cw:∀w',MZ w2 w'->w'.cell? ⟨bw,0,none⟩=some (nI width):=λw' e=>e.cell (a'.cell 0 rfl)
 have hE:=f3.trans e';have hU:=(e1.mono (S':=λj=>1<=j/\j<=16) zo zo).trans (d3.mono zo zo);have d5:=hr.ext hE;refine zh ?_;refine zvH (dY rfl rfl) ?_;refine zvH (RV.ld (cw _ (M7 _)) rfl) ?_;have b4:∀(w3:ln),MZ w w3->cF width L=true->
   ∃pv e,Value.tuple #[.agg #[nI 0,nS,nS,nS,nS],nI 1]=.tuple #[pv,nI e]/\PkV w3 pv (if cF width L then⟨0,[],[],[],[]⟩else lU width L)/\e=(if cF width L then 1 else 0)/\MZ w w3/\(cF width L=false->PkF w.heap.size pv):=by
  intro w3 he hb;rw[hb];exact⟨_,_,rfl,⟨_,_,_,_,rfl,(M4 _ 3 _ (λ_=>0) w3 1).sl,(M4 _ 3 _ (λ_=>0) w3 1).sl,(M4 _ 3 _ (λ_=>0) w3 1).sl,(M4 _ 3 _ (λ_=>0) w3 1).sl⟩,rfl,he,λh=>absurd h zd⟩
 by_cases h1:width<1
 ·apply au (d:=13) rfl (b':=true) (decide_eq_true h1);refine zh ?_
  refine zTH rfl rfl ?_;apply zv (aF JM (N6 _) rfl (by first|rfl|(simp only[M5,ME];rfl)) rfl rfl)
  apply bG a1 rfl (MK _) rfl rfl rfl rfl;refine zh ?_
  refine bE rfl rfl rfl ((a1.setRow).cellsAdd) (NP _) (MK _) (b4 _ (hU.trans (M1 zo a1.tag zo)).ext (by simp[cF,h1]))
 apply au (d:=13) rfl (b':=false) (decide_eq_false h1);refine zh ?_
 refine zvH (RV.ld (cw _ (M7 _)) rfl) ?_
 by_cases h2:64<width
 ·apply au (d:=17) rfl (b':=true) (decide_eq_true h2);refine zh ?_
  refine zTH rfl rfl ?_;apply zv (aF JM (N6 _) rfl (by first|rfl|(simp only[M5,ME];rfl)) rfl rfl)
  apply bG a1 rfl (MK _) rfl rfl rfl rfl;refine zh ?_
  refine bE rfl rfl rfl ((a1.setRow).cellsAdd) (NP _) (MK _) (b4 _ (hU.trans (M1 zo a1.tag zo)).ext (by simp[cF,h2]))
 apply au (d:=17) rfl (b':=false) (decide_eq_false h2);refine zh ?_
 by_cases h3:1000<L.length
 ·apply au (d:=22) rfl (b':=true) (by rw[b1];exact decide_eq_true zo);refine zh ?_
  refine zTH rfl rfl ?_;apply zv (aF JM (N6 _) rfl (by first|rfl|(simp only[M5,ME];rfl)) rfl rfl)
  apply bG a1 rfl (MK _) rfl rfl rfl rfl;refine zh ?_
  refine bE rfl rfl rfl ((a1.setRow).cellsAdd) (NP _) (MK _) (b4 _ (hU.trans (M1 zo a1.tag zo)).ext (by simp[cF,h3]))
 apply au (d:=22) rfl (b':=false) (by rw[b1];exact decide_eq_false zo);refine zh ?_
 apply zc call59 (gj call191 _ a4 rv (λi=>iH width (nth L i)) _ d5 (λi hi w' c5=>IZ width (nth L i) (nth a4 i) _ w' (((c6 i zo).ext hE).ext c5) (cw w' c5)));rintro v w3 ⟨rfl,b3⟩;rw[b1,iI (p:=iH width)];have a2:=a1.upd (ae (S:=λ_=>False) (λh=>h) O2 b3) zd (λh=>h);have b6:=a'.upd (ae (S:=λ_=>False) (λh=>h) O2 b3) zd (λh=>h);have d2:=hU.trans (ae zo O2 b3);refine zh ?_
 refine zC ?_ ?_
 ·intro a3;refine zh ?_;apply zv (aF JM (N6 _) rfl (by first|rfl|(simp only[M5,ME];rfl)) rfl rfl);apply bG a2 rfl (MK _) rfl rfl rfl rfl;refine zh ?_;refine bE rfl rfl rfl ((a2.setRow).cellsAdd) (NP _) (MK _) (b4 _ (d2.trans (M1 zo a2.tag zo)).ext (by simp only[cF,a3];simp))
 intro a5;have a3:cF width L=false:=by simp only[cF,a5];simp[h1,h2,h3]
 have e5:=e6.ext b3;refine zh ?_;apply zv (RV.ld (b6.cell 0 rfl) rfl);apply zv (aF JM (N6 _) rfl (by first|rfl|(simp only[M5,ME];rfl)) rfl rfl);apply ar e5 11 zo (N6 _) rfl;intro pb w4 O4 b2 d1 e4 f6;apply zsa (us:=#[nI width,nS,nS,nS,nS]) b2 (MK _);have d0:LY (λj=>1<=j/\j<=16) O4 w4 O4 (w4.setRow pb #[nI width,nS,nS,nS,nS]):=M1 zo b2.tag zo;have b8:Mo O4 (w4.setRow pb #[nI width,nS,nS,nS,nS]) 2 br _ 26:=(a2.upd d1 zd zd).upd (M1 (S:=λj=>j=11) zd b2.tag rfl) zd zd;have e9:PkO 10 O4 (w4.setRow pb #[nI width,nS,nS,nS,nS]) pb ⟨width,[],[],[],[]⟩:=⟨_,_,_,_,b2.setRow,M4 _ _ _ _ _ _,M4 _ _ _ _ _ _,M4 _ _ _ _ _ _,M4 _ _ _ _ _ _⟩
 have c':=(d2.trans (d1.mono (S':=λj=>1<=j/\j<=16) zo zo)).trans d0;have e3:=e4.upd d0;generalize w4.setRow pb #[nI width,nS,nS,nS,nS]=w5 at *;have f4:1<=width/\width<=64/\L.length<=1000:=zo;have a9:∀i,i<L.length->((nth L i).length:Int)=width:=λi hi=>by
  have:=NC.1 a5 _ (aW hi);simp only[iH,Bool.or_eq_true,not_or,bne_iff_ne,ne_eq,P2]at this;exact this.1
 refine zh ?_;refine zvH (Nb (by first|exact hr.ext c'.ext) Nr rfl) ?_
 apply zlp (λx:Nat×(Nat->Nat)×World=>[(1,rv),(4,nP br),(7,nP pb),(30,rv),(31,nI a4.length),(32,nI x.1)]) (λx=>x.2.2) (λx=>x.1<=a4.length/\Mo x.2.1 x.2.2 2 br #[nI 0,nS,nS,nS,nS] 26/\Nn w.heap.size x.2.1 x.2.2/\LY (λj=>1<=j/\j<=16) (λ_=>0) w x.2.1 x.2.2/\(∃q,q=(L.take x.1).foldl PSt.lay ⟨width,[],[],[],[]⟩/\PkO 10 x.2.1 x.2.2 pb q/\q.check.length<=64*x.1/\q.usual.length=x.1/\q.base.length=x.1/\q.next.length=q.check.length)) (λx=>a4.length-x.1) (0,O4,w5) ⟨L2 _,b8,e3,c',_,rfl,e9,by simp,rfl,rfl,rfl⟩;rintro⟨k,O7,w7⟩ ⟨hk,a0,a8,b0,q,hq,b9,d7,c7,d8,c8⟩;dsimp only at hk a0 a8 b0 hq b9 d7 c7 d8 ⊢;have d4:=hr.ext b0.ext;refine zh ?_
 refine zC ?_ ?_
 ·intro b5;replace b5:k<a4.length:=dT b5;have a6:k<L.length:=zo;have d9:=a9 k a6;refine zh ?_;refine zvH (RV.ld (d4.ld zo) rfl) ?_;apply zc call192 (xA 10 pb q (nth L k) (nth a4 k) w.heap.size O7 w7 b9 a8 (λw' hB=>(c6 k a6).ext (PS b0.ext hB)) zo zo c8 zo zo zo);rintro v w8 ⟨O8,e8,c9,e2⟩;have b7:=a0.upd c9 zd (by unfold Ah;omega);obtain⟨l1,l2,l3,l4,l5⟩:=iT q (nth L k) zo c8;refine zh ?_;refine zxd (k+1,O8,w8) ⟨b5,b7,e2,b0.trans (c9.mono (by unfold Ah;omega) zo),_,?_,e8,zo,by rw[l2];simp[c7],zo,l5⟩;rw[aY a6,Mg,<-hq];rfl
 intro d';obtain rfl:k=a4.length:=by have:=of_decide_eq_false d';omega
 rw[b1,LU]at hq;obtain⟨uv,bv,kv,nv,h7⟩:=b9;refine zh ?_;apply zv (ai h7.blk.cellsAdd (NP _) (MK _) rfl);apply zsb (us:=#[nI q.width,uv,bv,kv,nv]) a0 (MK _) (by simp only[M5,h7.u.one,h7.b.one,h7.k.one,h7.n.one];rfl);have a7:LY (λj=>j=2) O7 w7 O7 (w7.setRow br #[nI q.width,uv,bv,kv,nv]):=M1 zd a0.tag rfl;have h9:=h7.upd a7 (by unfold jH;omega);have d6:lU width L=q:=hq.symm;refine zh ?_;refine bE rfl rfl rfl ((a0.setRow).cellsAdd) (NP _) (MK _) ⟨_,_,rfl,⟨uv,bv,kv,nv,?_,?_,?_,?_,?_⟩,by rw[a3];rfl,(b0.trans (a7.mono zo zo)).ext,λ_=>⟨_,uv,bv,kv,nv,rfl,h9.u.newV zd (a8.upd a7),h9.b.newV zd (a8.upd a7),h9.k.newV zd (a8.upd a7),h9.n.newV zd (a8.upd a7)⟩⟩
 all_goals rw[a3,if_neg Bool.false_ne_true,d6]
 ·exact h9.u.sl
 ·exact h9.b.sl
 ·exact h9.k.sl
 exact h9.n.sl
def ya(n:Int):Bool:=decide (0<=n)
def eT(l:List Int):Nat:=l.countP ya
def zR(row:List Int)(u:Int):Nat:=row.countP λn=>n != u
def lW(L:List (List Int))(us:List Int)(i:Nat):Nat:=((L8 i).map λj=>zR (nth L j) (nth us j)).sum
theorem uH(L:List (List Int))(us:List Int)(i:Nat):lW L us (i+1)=lW L us i+zR (nth L i) (nth us i):=by
 simp[lW,My]
theorem A6(row:List Int)(u:Int):(bZ row u).length=zR row u:=by
 have a0:∀k,k<=row.length->(gk row u k).length=(row.take k).countP (λn=>n != u):=by
  intro k
  induction k with
  |zero=>intro _;rfl
  |succ k ih=>
   intro hk;rw[kd,aY zo,Pl];have:=ih zo
   by_cases h:nth row k=u
   ·rw[if_pos h,this];simp[h]
   rw[if_neg h,Mw,this];simp[h]
 have:=a0 row.length (LQ _)
 rwa[LU]at this
def qW(a0:List Int)(s:Nat):Prop:=a0.length<=s\/nth a0 s = -1
theorem C6{a0:List Int}:qg a0 b c=true↔qW a0 (b+c):=by
 simp only[qg,qW,Nh,Bool.and_eq_false_iff,decide_eq_false_iff_not]
 constructor
 ·rintro(h|h)
  ·exact .inl zo
  exact .inr (by simpa using h)
 rintro(h|h)
 ·exact .inl zo
 exact .inr (by simpa using h)
theorem Al{l:List Int}{s:Nat}{r:Int}(hs:s<l.length)(hf:nth l s = -1)(hr:0<=r):eT (l.set s r)=eT l+1:=by
 induction l generalizing s with
 |nil=>simp at hs
 |cons a l ih=>
  cases s with
  |zero=>rw[ao]at hf;subst hf;simp[eT,ya,hr]
  |succ s=>
   rw[aS]at hf;have:=ih (by simpa using hs) hf;simp only[eT,List.set_cons_succ,List.countP_cons]at this ⊢;omega
theorem vY(l:List Int)(j:Nat):eT (l++L1 j (-1))=eT l:=by
 simp only[eT,Pl];have:(L1 j (-1:Int)).countP ya=0:=by rw[List.countP_eq_zero];intro a ha;rw[Nk ha];decide
 omega
theorem BM(p:PSt)(s:Nat)(r e:Int)(hf:qW p.check s)(hr:0<=r):
  eT (p.take s r e).check=eT p.check+1/\(∀t,t≠s->qW p.check t->qW (p.take s r e).check t)/\
  ((p.check=[]\/0<=nth p.check (p.check.length-1))->(0<=nth (p.take s r e).check ((p.take s r e).check.length-1))):=by
 have a2:(p.check++L1 (s+1-p.check.length) (-1:Int)).length=max p.check.length (s+1):=by simp;omega
 have a0:s<(p.check++L1 (s+1-p.check.length) (-1:Int)).length:=zo;have a1:∀j i,nth (L1 j (-1:Int)) i = -1\/j<=i:=fun j i=>by
  by_cases h:i<j
  ·left;rw[aB (by simpa using h)];simp
  right;omega
 have hs:nth (p.check++L1 (s+1-p.check.length) (-1:Int)) s = -1:=by
  rw[ay]
  split
  ·rename_i h;rcases hf with h2|h2
   ·omega
   exact h2
  rename_i h;exact(a1 _ _).resolve_right zo
 have hc:(p.take s r e).check=(p.check++L1 (s+1-p.check.length) (-1)).set s r:=rfl;refine⟨?_,fun t ht a3=>?_,fun hl=>?_⟩
 ·rw[hc,Al a0 hs hr,vY]
 ·rw[hc]
  rcases a3 with h|h
  ·by_cases h2:(p.check++L1 (s+1-p.check.length) (-1:Int)).length<=t
   ·exact .inl (by simpa using h2)
   refine .inr ?_;rw[bt a0,if_neg ht,ay,if_neg zo];exact(a1 _ _).resolve_right zo
  by_cases h2:t<p.check.length
  ·refine .inr ?_;rw[bt a0,if_neg ht,ay,if_pos h2,h]
  by_cases h3:(p.check++L1 (s+1-p.check.length) (-1:Int)).length<=t
  ·exact .inl (by simpa using h3)
  refine .inr ?_;rw[bt a0,if_neg ht,ay,if_neg zo];exact(a1 _ _).resolve_right zo
 rw[hc,bt a0,M9,a2]
 split
 ·exact hr
 rename_i hne;have h3:s+1<=p.check.length:=zo;rw[ay,if_pos zo,show max p.check.length (s+1)-1=p.check.length-1 from by omega]
 rcases hl with h|h
 ·rw[h]at h3;simp at h3
 exact h
theorem vo(f:Nat->Int)(b:Nat)(r:Int)(hr:0<=r):∀(a0:List Nat) (p:PSt),a0.Nodup->(∀c∈a0,qW p.check (b+c))->
  let q:=a0.foldl (λq c=>q.take (b+c) r (f c)) p
  eT q.check=eT p.check+a0.length/\((p.check=[]\/0<=nth p.check (p.check.length-1))->(q.check=[]\/0<=nth q.check (q.check.length-1)))
 |[],p,_,_=>⟨by simp,λh=>h⟩
 |c::a0,p,hnd,hf=>by
  obtain⟨hc,a1⟩:=N1.1 hnd;obtain⟨h1,h2,h3⟩:=BM p (b+c) r (f c) (hf c (by simp)) hr;obtain⟨g1,g2⟩:=vo f b r hr a0 (p.take (b+c) r (f c)) a1 (λx hx=>h2 (b+x) (λe=>hc ((by omega:x=c)▸hx)) (hf x (by simp[hx])));refine⟨?_,λh=>?_⟩
  ·simp only[LO,M0];rw[g1,h1];omega
  simp only[LO];exact g2 (.inr (h3 h))
theorem mS(row:List Int)(u:Int):(bZ row u).Nodup:=Q2 MJ No
theorem FZ(p:PSt)(row:List Int):eT (p.lay row).check=eT p.check+zR row (cd row)/\
  ((p.check=[]\/0<=nth p.check (p.check.length-1))->((p.lay row).check=[]\/0<=nth (p.lay row).check ((p.lay row).check.length-1))):=by
 have a0:=(gO p.check (bZ row (cd row))).1;rw[eX,Mu]at a0;have:=vo (λc=>nth row c) (gp p.check (bZ row (cd row))) p.base.length zo (bZ row (cd row)) p (mS _ _) (λc hc=>C6.1 (a0 c hc));rw[A6]at this;exact this
theorem qD(width:Int)(L:List (List Int))(hw:∀r∈L,r.length<=64):
  let q:=lU width L
  q.usual=L.map cd/\q.base.length=L.length/\q.next.length=q.check.length/\q.check.length<=64*L.length/\q.width=width/\eT q.check=lW L q.usual L.length/\(q.check=[]\/0<=nth q.check (q.check.length-1)):=by
 have a1:∀k,k<=L.length->let q:=(L.take k).foldl PSt.lay ⟨width,[],[],[],[]⟩
   q.usual=(L.take k).map cd/\q.base.length=k/\q.next.length=q.check.length/\q.check.length<=64*k/\q.width=width/\eT q.check=lW L ((L.take k).map cd) k/\(q.check=[]\/0<=nth q.check (q.check.length-1)):=by
  intro k
  induction k with
  |zero=>intro _;exact⟨rfl,rfl,rfl,by simp,rfl,rfl,.inl rfl⟩
  |succ k ih=>
   intro hk;obtain⟨h1,h2,h3,h4,h5,h6,h7⟩:=ih zo;generalize hq:(L.take k).foldl PSt.lay ⟨width,[],[],[],[]⟩=q at *;obtain⟨l1,l2,l3,l4,l5⟩:=iT q (nth L k) (hw _ (aW zo)) h3;obtain⟨u1,u2⟩:=FZ q (nth L k);rw[aY zo,Mg,hq,M8];simp only[LO,NS,LX,NZ];refine⟨by rw[l2,h1],zo,l5,zo,by rw[l4,h5],?_,u2 h7⟩;rw[u1,h6,uH];have a0:((L.take k).map cd).length=k:=by simp;omega
   congr 1
   ·simp only[lW];congr 1;refine List.map_congr_left λj hj=>?_
    have:=LW.1 hj;rw[ay,if_pos zo]
   rw[ay,if_neg zo,a0,MG,ao]
 have:=a1 L.length (LQ _);rw[LU]at this;obtain⟨h1,h2,h3,h4,h5,h6,h7⟩:=this;exact⟨h1,h2,h3,h4,h5,by rw[lU,h1];exact h6,h7⟩
abbrev Ent:=Nat×Nat×Int
def iB(A:List Ent):Nat:=A.foldl (λm x=>max m (x.1+1)) 0
def dM(f:Ent->Int)(A:List Ent)(l:List Int):List Int:=A.foldl (λl x=>l.set x.1 (f x)) l
def lr(x:Ent):Int:=x.2.1
def Lm(x:Ent):Int:=x.2.2
def fo(A:List Ent):List Int:=dM lr A (L1 (iB A) (-1))
def kT(A:List Ent):List Int:=dM Lm A (L1 (iB A) 0)
theorem rh(A:List Ent)(x:Ent):iB (A++[x])=max (iB A) (x.1+1):=by simp[iB,Mg]
theorem AZ(A:List Ent):∀m,m<=A.foldl (λm x=>max m (x.1+1)) m:=by
 induction A with
 |nil=>intro m;exact LQ m
 |cons y A ih=>intro m;simp only[LO];have:=ih (max m (y.1+1));omega
theorem eM{A:List Ent}{x:Ent}(h:x∈A):x.1<iB A:=by
 have:∀(A:List Ent) m,x∈A->x.1<A.foldl (λm x=>max m (x.1+1)) m:=by
  intro A
  induction A with
  |nil=>intro m h;simp at h
  |cons y A ih=>
   intro m h;simp only[LO]
   rcases LP.1 h with rfl|h
   ·have:=AZ A (max m (x.1+1));omega
   exact ih _ h
 exact this A 0 h
theorem lS(f:Ent->Int):∀(A:List Ent) (l:List Int),(dM f A l).length=l.length
 |[],_=>rfl
 |x::A,l=>by simp only[dM,LO];exact(lS f A _).trans (by simp)
theorem gm(A:List Ent):(fo A).length=iB A:=by rw[fo,lS];simp
theorem oJ(A:List Ent):(kT A).length=iB A:=by rw[kT,lS];simp
theorem gy(f:Ent->Int):∀(A:List Ent) (l r:List Int),(∀x∈A,x.1<l.length)->dM f A (l++r)=dM f A l++r
 |[],_,_,_=>rfl
 |x::A,l,r,h=>by
  simp only[dM,LO];rw[List.set_append_left _ _ (h x (by simp))];exact gy f A _ r (λy hy=>by simpa using h y (by simp[hy]))
theorem om(f:Ent->Int)(A:List Ent)(x:Ent)(l:List Int):dM f (A++[x]) l=(dM f A l).set x.1 (f x):=by simp[dM,Mg]
theorem Ch(n s:Nat)(z:Int):L1 (max n (s+1)) z=L1 n z++L1 (s+1-n) z:=by
 rw[List.replicate_append_replicate];congr 1;omega
theorem A8(A:List Ent)(x:Ent):fo (A++[x])=(fo A++L1 (x.1+1-(fo A).length) (-1)).set x.1 x.2.1:=by
 rw[fo,rh,om,Ch,gy _ _ _ _ (λy hy=>by simpa using eM hy),gm];rfl
theorem AJ(A:List Ent)(x:Ent):kT (A++[x])=(kT A++L1 (x.1+1-(kT A).length) 0).set x.1 x.2.2:=by
 rw[kT,rh,om,Ch,gy _ _ _ _ (λy hy=>by simpa using eM hy),oJ];rfl
theorem BN(p:PSt)(A:List Ent)(x:Ent)(h1:p.check=fo A)(h2:p.next=kT A):(p.take x.1 x.2.1 x.2.2).check=fo (A++[x])/\(p.take x.1 x.2.1 x.2.2).next=kT (A++[x]):=by
 refine⟨?_,?_⟩
 ·rw[A8,<-h1];rfl
 rw[AJ,<-h2,h2,oJ,<-gm,<-h2,<-h1];rfl
def jP(row:List Int)(u:Int)(b i k:Nat):List Ent:=(gk row u k).map λc=>(b+c,i,nth row c)
theorem vp(row:List Int)(b i:Nat):∀(a0:List Nat) (p:PSt) (A:List Ent),p.check=fo A->p.next=kT A->
  let q:=a0.foldl (λq c=>q.take (b+c) i (nth row c)) p
  q.check=fo (A++a0.map λc=>(b+c,i,nth row c))/\q.next=kT (A++a0.map λc=>(b+c,i,nth row c))
 |[],p,A,h1,h2=>by simpa using⟨h1,h2⟩
 |c::a0,p,A,h1,h2=>by
  obtain⟨g1,g2⟩:=BN p A (b+c,i,nth row c) h1 h2;have:=vp row b i a0 _ _ g1 g2;simpa using this
theorem zD(p:PSt)(A:List Ent)(row:List Int)(h1:p.check=fo A)(h2:p.next=kT A):
  let b:=gp p.check (bZ row (cd row))
  (p.lay row).check=fo (A++jP row (cd row) b p.base.length row.length)/\(p.lay row).next=kT (A++jP row (cd row) b p.base.length row.length):=
 vp row _ _ _ p A h1 h2
theorem zE(p:PSt)(row:List Int):(p.lay row).base=p.base++[(gp p.check (bZ row (cd row)):Int)]/\(p.lay row).usual=p.usual++[cd row]/\(p.lay row).width=p.width:=by
 have a1:∀(a0:List Nat) (f:Nat->Int) (b:Nat) (r:Int) (p:PSt),let q:=a0.foldl (λq c=>q.take (b+c) r (f c)) p;q.base=p.base/\q.usual=p.usual/\q.width=p.width:=by
  intro a0 f b r
  induction a0 with
  |nil=>intro p;exact⟨rfl,rfl,rfl⟩
  |cons c a0 ih=>intro p;exact ih (p.take (b+c) r (f c))
 obtain⟨h1,h2,h3⟩:=a1 (bZ row (cd row)) (λc=>nth row c) (gp p.check (bZ row (cd row))) p.base.length p;refine⟨?_,?_,h3⟩
 ·simp only[PSt.lay];rw[h1]
 simp only[PSt.lay];rw[h2]
theorem qu(A:List Ent)(s:Nat):∀(l:List Int),s<l.length->(∀x∈A,x.1<l.length)->(nth (dM lr A l) s≠-1↔(A.any (λx=>x.1==s)=true\/nth l s≠-1)):=by
 induction A with
 |nil=>intro l _ _;simp[dM]
 |cons x A ih=>
  intro l hs h;have h1:=ih (l.set x.1 (lr x)) (by simpa using hs) (λy hy=>by simpa using h y (by simp[hy]));simp only[dM,LO]at h1 ⊢;rw[h1,bt (h x (by simp)),List.any_cons]
  by_cases e:x.1=s
  ·have:lr x≠-1:=by unfold lr;omega
   simp[e,this]
  have e2:¬s=x.1:=λh=>e h.symm
  simp[e,e2]
theorem BL(A:List Ent)(s:Nat):(A.any λx=>x.1==s)=(decide (s<(fo A).length)&&nth (fo A) s != -1):=by
 by_cases hs:s<iB A
 ·have h1:=qu A s (L1 (iB A) (-1)) (by simpa using hs) (λy hy=>by simpa using eM hy);have h2:nth (L1 (iB A) (-1:Int)) s = -1:=by rw[aB (by simpa using hs)];simp
  rw[gm];simp only[h2,ne_eq,not_true,or_false]at h1;rw[decide_eq_true hs,PE]
  cases ha:A.any (λx=>x.1==s)with
  |true=>have:=h1.2 ha;exact(bne_iff_ne.2 this).symm
  |false=>
   rw[ha]at h1;have:nth (fo A) s = -1:=P2.1 (λh=>by cases h1.1 h);rw[this];rfl
 rw[gm,decide_eq_false hs,PB,NC];intro x hx h;have:=eM hx;have:x.1=s:=by simpa using h
 omega
theorem AY(A:List Ent)(b c:Nat):qg (fo A) b c = !(A.any λx=>x.1==b+c):=by rw[BL];rfl
def wOk(a0:Int)(n:Nat):Bool:=decide (1<=a0)&&decide (a0<=64)&&decide ((n:Int)<=1000)
def inR(n:Int):Bool:=decide (0<=n)&&decide (n<=65535)
theorem vG(a0:Int)(row:List Int):(!iH a0 row)=((row.length:Int)==a0&&row.all inR):=by
 simp only[iH,bne,PO,Bool.not_not];rfl
theorem qE(a0:Int)(L:List (List Int)):(!cF a0 L)=(wOk a0 L.length&&L.all (λr=>!iH a0 r)):=by
 simp only[cF,wOk,PO,List.not_any_eq_all_not];congr 2
 ·congr 1<;>rw[<-decide_not]<;>exact decide_eq_decide.2 zo
 rw[<-decide_not];exact decide_eq_decide.2 zo
theorem sn{a0:Int}{L:List (List Int)}(h:cF a0 L=false):1<=a0/\a0<=64/\L.length<=1000/\(∀r∈L,(r.length:Int)=a0)/\∀r∈L,r.length<=64:=by
 have h2:(!cF a0 L)=true:=by rw[h];rfl
 rw[qE,MF]at h2;simp only[wOk,MF,decide_eq_true_eq]at h2;have h3:∀r∈L,(r.length:Int)=a0:=λr hr=>by
  have:=Mu.1 h2.2 r hr;rw[vG,MF]at this;simpa using this.1
 exact⟨zo,zo,zo,h3,λr hr=>by have:=h3 r hr;omega⟩
def dw(p:PSt):Bool:=
 !(decide (p.width<1)||decide (64<p.width)||decide ((1000:Int)<p.usual.length)||((p.base.length:Int) != p.usual.length)) &&
 !((p.check.length:Int) != p.next.length||decide ((65599:Int)<p.check.length)) &&
 (inB 0 65535 p.usual&&inB 0 65535 p.base&&inB 0 65535 p.next&&inB (-1) ((p.usual.length:Int)-1) p.check)
theorem AH(p:PSt)(pv:ix)(w:ln)(hp:PkV w pv p):
  Np Md 93 [pv] w λv w'=>v=.bool (dw p)/\MZ w w':=by
 obtain⟨u1,b1,k1,n1,rfl,a1,a4,a3,a2⟩:=hp;have b0:=a1.len_le;apply L4 func93 ntmps93 rfl rfl;refine zh ?_;apply aN (ax w) 1 zo rfl rfl;intro x1 w1 O1 a0 b2 b3 a5;replace a1:=a1.ext a5;replace a4:=a4.ext a5;replace a3:=a3.ext a5;replace a2:=a2.ext a5;refine zh ?_;apply zv (RV.ld (a0.cell 1 rfl) rfl);apply zv (Nb (by first|exact a1|exact a4|exact a3|exact a2) L0 rfl);apply zv (RV.assign rfl);apply Mv;apply ah;apply WC.seq;apply WC.block;apply WC.seq;apply WC.region;apply zv (RV.fa rfl);refine zvH (RV.ld (a0.cell 0 rfl) rfl) ?_;refine ct (λw1=>_=w1) (decide ((64:Int)<p.width)) 3 rfl rfl rfl rfl rfl rfl ?_ ?_
 ·intro h1;refine zh ?_;refine zvH (RV.ld (a0.cell 0 rfl) rfl) ?_;refine nE 11 4 rfl h1
 rintro _ rfl;refine zh ?_;refine ct (λw1=>_=w1) (decide ((1000:Int)<p.usual.length)) 2 rfl rfl rfl rfl rfl rfl ?_ ?_
 ·intro h2;refine zh ?_;refine nE 16 3 rfl h2
 rintro _ rfl;refine zh ?_;refine ct (λw1=>_=w1) ((p.base.length:Int) != p.usual.length) 5 rfl rfl rfl rfl rfl rfl ?_ ?_
 ·intro h3;refine zh ?_;apply zv (RV.ld (a0.cell 2 rfl) rfl);apply aH rfl;apply zv (Nb (by first|exact a1|exact a4|exact a3|exact a2) L0 rfl);apply aH rfl;apply zv (Qc rfl);apply aH rfl;apply zv (RV.neq rfl rfl);apply Mv;refine nE 20 6 rfl h3
 rintro _ rfl;refine zh ?_;refine zC ?_ ?_
 ·intro hg;refine zh ?_;refine af rfl rfl ⟨by simp only[dw,hg];rfl,a5⟩
 intro hg;refine zh ?_;apply zv (RV.ld (a0.cell 3 rfl) rfl);apply zv (Nb (by first|exact a1|exact a4|exact a3|exact a2) L0 rfl);apply zv (RV.fa rfl);apply zv (RV.ld (a0.cell 4 rfl) rfl);apply zv (Nb (by first|exact a1|exact a4|exact a3|exact a2) L0 rfl);apply zv (RV.neq rfl rfl);apply zv (Qc rfl);refine ct (λw1=>_=w1) (decide ((65599:Int)<p.check.length)) 4 rfl rfl rfl rfl rfl rfl ?_ ?_
 ·intro h4;refine zh ?_;apply zv (RV.ld (a0.cell 3 rfl) rfl);apply aH rfl;apply zv (Nb (by first|exact a1|exact a4|exact a3|exact a2) L0 rfl);apply aH rfl;apply zv (RV.gtr rfl rfl);apply Mv;refine nE 35 5 rfl h4
 rintro _ rfl;refine zh ?_;refine zC ?_ ?_
 ·intro a9;refine zh ?_;refine af rfl rfl ⟨by simp only[dw,a9,Bool.not_true,Bool.and_false,PB],a5⟩
 intro a9;refine zh ?_;apply zv (RV.ld (a0.cell 1 rfl) rfl);apply zc Pn (fS 0 65535 p.usual u1 w1 a1);rintro v w2 ⟨rfl,a8⟩;refine zh ?_;refine aT (MZ w1) (inB 0 65535 p.base) 3 a8 rfl rfl rfl rfl rfl ?_ ?_
 ·intro h5;refine zh ?_;refine zvH (RV.ld (a8.cell (a0.cell 2 rfl)) rfl) ?_;apply zc Pn (fS 0 65535 p.base b1 w2 (a4.ext a8));rintro v w3 ⟨rfl,a7⟩;refine zh ?_;refine nE 44 4 (a8.trans a7) h5
 intro w3 a7;refine zh ?_;refine aT (MZ w1) (inB 0 65535 p.next) 3 a7 rfl rfl rfl rfl rfl ?_ ?_
 ·intro h6;refine zh ?_;refine zvH (RV.ld (a7.cell (a0.cell 4 rfl)) rfl) ?_;apply zc Pn (fS 0 65535 p.next n1 w3 (a2.ext a7));rintro v w4 ⟨rfl,a6⟩;refine zh ?_;refine nE 49 4 (a7.trans a6) h6
 intro w4 a6;refine zh ?_;refine aT (MZ w1) (inB (-1) ((p.usual.length:Int)-1) p.check) 5 a6 rfl rfl rfl rfl rfl ?_ ?_
 ·intro h7;refine zh ?_;refine zvH (RV.ld (a6.cell (a0.cell 3 rfl)) rfl) ?_;apply zc Pn (fS (-1) ((p.usual.length:Int)-1) p.check k1 w4 (a3.ext a6));rintro v w5 ⟨rfl,a'⟩;refine zh ?_;refine nE 54 6 (a6.trans a') h7
 intro w5 a';refine zh ?_;refine af rfl rfl ⟨by simp only[dw,hg,a9,Bool.not_false,PE],a5.trans a'⟩
theorem tO(row:List Int):∀(l:List Int) (b:Int),(l.foldl (ng row) b=b)\/l.foldl (ng row) b∈l
 |[],b=>.inl rfl
 |n::l,b=>by
  simp only[LO]
  rcases tO row l (ng row b n)with h|h
  ·rw[h];unfold ng;split
   ·right;simp
   left;rfl
  right;simp[h]
theorem Ak(row:List Int)(h:0<row.length):cd row∈row:=by
 rcases tO row row (nth row 0)with e|e
 ·rw[cd,e];exact aW h
 exact e
theorem lR(f:Ent->Int):∀(A:List Ent) (l:List Int) (n:Int),n∈dM f A l->n∈l\/∃x∈A,n=f x
 |[],l,n,h=>.inl h
 |x::A,l,n,h=>by
  rcases lR f A (l.set x.1 (f x)) n h with h|⟨y,hy,he⟩
  ·rcases List.mem_or_eq_of_mem_set h with h|h
   ·exact .inl h
   exact .inr ⟨x,by simp,h⟩
  exact .inr ⟨y,by simp[hy],he⟩
theorem vl{lo hi:Int}{l:List Int}(h:∀n∈l,lo<=n/\n<=hi):inB lo hi l=true:=by
 rw[inB,Mu];intro n hn;have:=h n hn;simp[this]
theorem Ct{lo hi:Int}{l:List Int}(h:inB lo hi l=true){n:Int}(hn:n∈l):lo<=n/\n<=hi:=by
 rw[inB,Mu]at h;simpa using h n hn
theorem Cp(a0:Int)(L:List (List Int))(hw:∀r∈L,r.length<=64)(a2:∀r∈L,inB 0 65535 r=true):∀k,k<=L.length->
  let q:=(L.take k).foldl PSt.lay ⟨a0,[],[],[],[]⟩
  ∃A:List Ent,q.check=fo A/\q.next=kT A/\q.base.length=k/\q.check.length<=64*k/\(∀b∈q.base,0<=b/\b<=64*(k:Int))/\∀x∈A,x.2.1<k/\0<=x.2.2/\x.2.2<=65535:=by
 intro k
 induction k with
 |zero=>intro _;exact⟨[],rfl,rfl,rfl,L2 _,by simp,by simp⟩
 |succ k ih=>
  intro hk;obtain⟨A,h1,h2,h3,h4,h5,h6⟩:=ih zo;have hm:=aW (l:=L) (j:=k) zo;have hr:=a2 _ hm;rw[aY zo,Mg];generalize (L.take k).foldl PSt.lay ⟨a0,[],[],[],[]⟩=q at *;simp only[LO,NS];generalize nth L k=row at *;obtain⟨e1,e2⟩:=zD q A row h1 h2;obtain⟨l1,l2,l3,l4,l5⟩:=iT q row (hw _ hm) (by rw[h1,h2,oJ,gm]);obtain⟨m1,m2,m3⟩:=zE q row;have hb:=(gO q.check (bZ row (cd row))).2.1;refine⟨_,e1,e2,zo,zo,λb a1=>?_,λx hx=>?_⟩
  ·rw[m1]at a1
   rcases LV.1 a1 with h|h
   ·have:=h5 b h;omega
   simp only[L5]at h;subst h;omega
  rcases LV.1 hx with h|h
  ·have:=h6 x h;omega
  simp only[jP,Mi]at h;obtain⟨c,hc,rfl⟩:=h;have:=Ct hr (aW (lD hc));exact⟨by dsimp only;omega,this⟩
theorem xu(width:Int)(L:List (List Int))(a1:cF width L=false):dw (lU width L)=true:=by
 obtain⟨a5,a4,hL,a0,a2⟩:=sn a1;have a3:∀r∈L,inB 0 65535 r=true:=λr hr=>by
  have h2:(!cF width L)=true:=by rw[a1];rfl
  rw[qE,MF]at h2;have:=Mu.1 h2.2 r hr;rw[vG,MF]at this;exact this.2
 obtain⟨A,h1,h2,h3,h4,h5,h6⟩:=Cp width L a2 a3 L.length (LQ _);rw[LU]at h1 h2 h3 h4 h5;obtain⟨s1,s2,s3,s4,s5,_,_⟩:=qD width L a2;have hq:L.foldl PSt.lay ⟨width,[],[],[],[]⟩=lU width L:=rfl;rw[hq]at h1 h2 h3 h4 h5;generalize lU width L=q at *;have a6:q.usual.length=L.length:=by rw[s1];simp
 have b1:inB 0 65535 q.usual=true:=vl λn hn=>by
  rw[s1]at hn;obtain⟨r,hr,rfl⟩:=Mi.1 hn;exact Ct (a3 r hr) (Ak r (by have:=a0 r hr;omega))
 have b2:inB 0 65535 q.base=true:=vl λn hn=>by have:=h5 n hn;omega
 have b3:inB 0 65535 q.next=true:=vl λn hn=>by
  rw[h2]at hn
  rcases lR _ _ _ _ hn with h|⟨x,hx,rfl⟩
  ·have:=Nk h;omega
  exact(h6 x hx).2
 have b4:inB (-1) ((q.usual.length:Int)-1) q.check=true:=vl λn hn=>by
  rw[h1]at hn
  rcases lR _ _ _ _ hn with h|⟨x,hx,rfl⟩
  ·have:=Nk h;omega
  have:=(h6 x hx).1;unfold lr;omega
 simp only[dw,b1,b2,b3,b4,Bool.and_true];have c1:¬q.width<1:=zo;have c2:¬64<q.width:=zo;have c3:¬(1000:Int)<q.usual.length:=zo;have c4:¬(65599:Int)<q.check.length:=zo;have c5:(q.base.length:Int)=q.usual.length:=zo;have c6:(q.check.length:Int)=q.next.length:=zo;simp[c1,c2,c3,c5,c6];omega
def getM(p:PSt)(r c:Nat):Int:=
 let k:=(nth p.base r).toNat+c
 if k<p.check.length/\nth p.check k=r then nth p.next k else nth p.usual r
structure OkP(p:PSt):Prop where
 w1:1<=p.width
 w2:p.width<=64
 rows:p.usual.length<=1000
 bl:p.base.length=p.usual.length
 cl:p.check.length=p.next.length
 c2:p.check.length<=65599
 base:∀r,r<p.base.length->0<=nth p.base r/\nth p.base r<=65535
theorem okP(p:PSt)(h:dw p=true):OkP p:=by
 simp only[dw,MF,Nh,Bool.or_eq_false_iff,decide_eq_false_iff_not,bne_eq_false_iff_eq]at h;obtain⟨⟨⟨⟨⟨h1,h2⟩,h3⟩,h4⟩,h5,h6⟩,⟨⟨h7,h8⟩,h9⟩,a0⟩:=h;exact⟨zo,zo,zo,zo,zo,zo,λr hr=>Ct h8 (aW hr)⟩
theorem IS(p:PSt)(ok:OkP p)(u1 b1 k1 n1:ix)(pb r c:Nat)(w:ln)(hu:NQ w u1 p.usual)(hb:NQ w b1 p.base)(hk:NQ w k1 p.check)(hn:NQ w n1 p.next)
  (hc:∀j u,(#[nI p.width,u1,b1,k1,n1]:Array ix)[j]? = some u->w.cell? ⟨pb,j,none⟩=some u) (hr:r<p.base.length) (a3:c<64) :
  Np Md 94 [nP pb,nI r,nI c] w λv w'=>v=nI (getM p r c)/\w=w':=by
 obtain⟨o1,o2,o3,o4,o5,o6,o7⟩:=ok;have a1:=o7 r hr;obtain⟨b,a0⟩:=P1 a1.1;have hg:getM p r c=if b+c<p.check.length/\nth p.check (b+c)=r then nth p.next (b+c)else nth p.usual r:=by simp only[getM,a0];rfl
 apply L4 func94 ntmps94 rfl rfl;refine zg ?_
 refine zvG (RV.ld (hc 2 _ rfl) rfl) ?_;apply zv (Mx hb L0 (L7 _) rfl rfl _ rfl zo)
 apply zv (RV.ld (hb.ld hr) rfl);have a2:nI (nth p.base r)=nI (b:Int):=by rw[a0]
 rw[a2];refine zg ?_;refine zvG (Ns rfl rfl (N8 zo)) ?_;apply zv (RV.ld (hc 3 _ rfl) rfl);refine zvG (Nb hk L0 rfl) ?_
 by_cases h1:b+c<p.check.length
 ·apply au (d:=24) rfl (b':=true) (decide_eq_true zo);refine zg ?_
  refine zvG (RV.ld (hc 3 _ rfl) rfl) ?_;refine zvG (Mx hk L0 (L7 _) rfl rfl _ rfl zo) ?_
  refine zvG (RV.ld (hk.ld h1) rfl) ?_;refine zC ?_ ?_
  ·intro he;replace he:nth p.check (b+c)=r:=by simpa using he
   rw[if_pos ⟨h1,he⟩]at hg;refine zg ?_;refine zvG (RV.ld (hc 4 _ rfl) rfl) ?_;apply zv (Mx hn L0 (L7 _) rfl rfl (b+c) rfl zo);refine zvG (RV.ld (hn.ld (i:=b+c) zo) rfl) ?_;refine af rfl rfl ⟨by rw[hg],rfl⟩
  intro he;replace he:¬nth p.check (b+c)=r:=by simpa using he
  rw[if_neg (λh=>he h.2)]at hg;refine zg ?_;refine zvG (RV.ld (hc 1 _ rfl) rfl) ?_;apply zv (Mx hu L0 (L7 _) rfl rfl _ rfl zo);refine zvG (RV.ld (hu.ld (i:=r) zo) rfl) ?_;refine af rfl rfl ⟨by rw[hg],rfl⟩
 rw[if_neg (λh=>h1 h.1)]at hg;apply au (d:=24) rfl (b':=false) (decide_eq_false zo);refine zg ?_;apply zFG rfl rfl;refine zvG (RV.ld (hc 1 _ rfl) rfl) ?_;apply zv (Mx hu L0 (L7 _) rfl rfl _ rfl zo);refine zvG (RV.ld (hu.ld (i:=r) zo) rfl) ?_;refine af rfl rfl ⟨by rw[hg],rfl⟩
def DY(p:PSt)(r:Nat):List Int:=(L8 p.width.toNat).map (getM p r)
def gA(p:PSt):List (List Int):=(L8 p.usual.length).map (DY p)
def gb(p:PSt)(r c:Nat):List Int:=(L8 c).map (getM p r)++L1 (p.width.toNat-c) 0
theorem Cd(p:PSt)(r c:Nat)(h:c<p.width.toNat):(gb p r c).set c (getM p r c)=gb p r (c+1):=by
 simp only[gb];rw[List.set_append_right _ _ (by simp),My,M8];obtain⟨d,hd⟩:∃d,p.width.toNat-c=d+1:=⟨p.width.toNat-c-1,zo⟩
 rw[hd,show p.width.toNat-(c+1)=d from by omega];simp[Pg]
theorem uu(p:PSt)(r c:Nat)(h:c<=p.width.toNat):(gb p r c).length=p.width.toNat:=by simp[gb];omega
theorem Ce(p:PSt)(r:Nat):gb p r p.width.toNat=DY p r:=by simp[gb,DY]
theorem gE(f:Nat->List Int)(n i:Nat)(h:i<n):nth ((L8 n).map f) i=f i:=by
 rw[aB (by simpa using h)];simp
theorem K6:PD Md 130 22 1 24:=⟨Nr,by kernel_rfl,zd⟩
theorem uF(p:PSt)(pv:ix)(w:ln)(hp:PkV w pv p):
  Np Md 56 [pv] w λv w'=>∃rv,v=.tuple #[rv,.bool (dw p)]/\(if dw p then Rows w' rv (gA p)else rv=nS)/\MZ w w':=by
 have d2:=hp;obtain⟨u1,b1,k1,n1,rfl,hu,hb,hk,hn⟩:=hp;apply L4 func56 ntmps56 rfl rfl;refine zg ?_;apply aN (ax w) 1 zo rfl rfl;intro x1 w1 O1 c5 e2 e5 d0;refine zg ?_;apply zv (ai c5.cellsAdd (NP _) (MK _) rfl);apply zc call93 (AH p _ w1 (d2.ext d0));rintro v w2 ⟨rfl,c'⟩;have hE:=d0.trans c';have hc:∀w',MZ w2 w'->∀j u,(#[nI p.width,u1,b1,k1,n1]:Array ix)[j]? = some u->w'.cell? ⟨x1,j,none⟩=some u:=λw' e j u hu=>e.cell (c'.cell (c5.cell j hu))
 replace hu:=hu.ext hE;replace hb:=hb.ext hE;replace hk:=hk.ext hE;replace hn:=hn.ext hE;refine zg ?_;refine zC ?_ ?_
 ·intro hg;replace hg:dw p=false:=by simpa using hg
  refine zg ?_;refine cc rfl rfl rfl ⟨_,by rw[hg],by rw[hg];rfl,hE⟩
 intro hg;replace hg:dw p=true:=by simpa using hg
 have ok:=okP p hg;obtain⟨o1,o2,o3,o4,o5,o6,o7⟩:=ok;have ok:=okP p hg;obtain⟨n,c6⟩:∃n:Nat,p.width=n:=P1 zo;have a':p.width.toNat=n:=by omega
 refine zg ?_;apply zv (RV.ld (hc _ (M7 _) 1 _ rfl) rfl)
 refine zvG (Nb (by first|exact hu) L0 rfl) ?_;apply zlp (λx:Nat×(Nat->Nat)×World×ix×List ix=>[(1,nP x1),(4,x.2.2.2.1),(13,nI p.usual.length),(14,nI x.1)]) (λx=>x.2.2.1) (λx=>x.1<=p.usual.length/\Ms (λv=>[v]) 22 1 x.2.1 x.2.2.1 16 x.2.2.2.1 x.2.2.2.2/\x.2.2.2.2.length=x.1/\(∀i,i<x.1->NQ x.2.2.1 (nth x.2.2.2.2 i) (DY p i)/\NH x.2.1 x.2.2.1 (nth x.2.2.2.2 i))/\LY (λj=>j=16) (λ_=>0) w2 x.2.1 x.2.2.1) (λx=>p.usual.length-x.1) (0,(λ_=>0),w2,nS,[]) ⟨L2 _,M4 _ _ _ _ _ _,rfl,λi hi=>absurd hi (L3 i),MD zd _ _⟩
 rintro⟨k,O3,w3,ov,vs⟩ ⟨d7,b3,a9,a0,b2⟩;dsimp only at d7 b3 a9 a0 b2 ⊢;have b9:=b2.ext;have c9:=(ax w2).upd b2;refine zg ?_;refine zC ?_ ?_
 ·intro b4;replace b4:k<p.usual.length:=by have:=of_decide_eq_true b4;omega
  refine zg ?_;apply zv (RV.ld (hc _ b9 0 _ rfl) rfl)
  apply dG A1 (val:=λn:Int=>nI n) (0:Int) zk (λ_=>rfl) (ax w3) 15 zd n rfl rfl c6 c6 zo zo rfl;intro w4 O4 lv d5 d6 e0 e4 e6;have a4:nC O4 w4 15 lv (gb p k 0):=by simpa[gb,a']using d6
  have b6:=a4.sl;have a2:(gb p k 0).length=n:=by rw[uu _ _ _ (L2 _),a']
  refine zg ?_;refine zvG (Nb (by first|exact b6) L0 rfl) ?_
  have b':nI ((gb p k 0).length:Int)=nI (n:Int):=by rw[a2]
  rw[b'];apply zlp (λy:Nat×ln=>[(1,nP x1),(4,ov),(5,nI k),(6,lv),(13,nI p.usual.length),(14,nI k),(21,nI n),(22,nI y.1)]) (λy=>y.2) (λy=>y.1<=n/\nC O4 y.2 15 lv (gb p k y.1)/\LY (λj=>j=15) (λ_=>0) w3 O4 y.2) (λy=>n-y.1) (0,w4) ⟨L2 _,a4,e0⟩;rintro⟨c,w5⟩ ⟨d9,a3,a6⟩;dsimp only at d9 a3 a6 ⊢;have a7:=b9.trans a6.ext;have b5:=a3.sl;have c7:(gb p k c).length=n:=by rw[uu _ _ _ zo,a']
  refine zg ?_;refine zC ?_ ?_
  ·intro a1;replace a1:c<n:=by have:=of_decide_eq_true a1;omega
   refine zg ?_;apply zc call94 (IS p ok u1 b1 k1 n1 x1 k c w5 (hu.ext a7) (hb.ext a7) (hk.ext a7) (hn.ext a7) (hc _ a7) zo zo)
   rintro v _ ⟨rfl,rfl⟩;apply zv (Mx (by first|exact b5) L0 (L7 _) rfl rfl _ rfl zo);apply MU a3 c zo (getM p k c) (L7 _) rfl zo rfl rfl rfl rfl;intro w6 b0 d';rw[Cd _ _ _ zo]at b0;refine zg ?_;refine zvG (Ns rfl rfl (N8 zo)) ?_;refine zxd (c+1,w6) ⟨a1,b0,a6.trans d'⟩
  intro b7;obtain rfl:c=n:=by have:=of_decide_eq_false b7;omega
  have b0:NQ w5 lv (DY p k):=by have:=a3.sl;rw[<-a',Ce]at this;exact this
  have c8:NH O3 w5 lv:=a3.free zd ((ax w3).upd a6) c9;have a8:=a6.ext;have b8:LY (λ_=>False) O3 w3 O3 w5:=ae (λh=>h) O3 a8;have d4:=b3.upd b8 zd (λh=>h);have e1:=c9.ext a8;subst d5;refine zg ?_;apply MI K6 d4 e1 ((PI (some ⟨w3.heap.size,0,none⟩) c c)) (λ_=>rfl) rfl rfl rfl (by simp[L6]) zo zo zo zd rfl rfl;intro d1 w7 O7 d3 a5 e3;refine zg ?_;refine zvG (Ns rfl rfl (N8 zo)) ?_;refine zxd (k+1,O7,w7,d1,vs++[PI (some ⟨w3.heap.size,0,none⟩) c c]) ⟨b4,d3,by simp[a9],?_,(b2.trans (ae zd O3 a8)).trans a5⟩;intro i hi;dsimp only at hi ⊢;rw[ay,a9]
  split
  ·rename_i h;obtain⟨g1,g2⟩:=a0 i h;exact⟨(g1.ext a8).upd (g2.upd b8) a5,(g2.upd b8).upd a5⟩
  rename_i h;obtain rfl:i=k:=by omega
  rw[MG,ao];exact⟨b0.upd c8 a5,c8.upd a5⟩
 intro d8;obtain rfl:k=p.usual.length:=by have:=of_decide_eq_false d8;omega
 refine zg ?_;refine cc rfl rfl rfl ⟨_,by rw[hg],by rw[hg,if_pos rfl];exact⟨vs,b3.sl,by simp[a9,gA],λi hi=>by simp only[gA,NO,Ps]at hi;rw[gA,gE _ _ _ hi];exact(a0 i hi).1⟩,hE.trans b9⟩
theorem qt(f:Ent->Int)(s:Nat):∀(A:List Ent) (l:List Int),(∀x∈A,x.1<l.length)->(∀x∈A,x.1≠s)->nth (dM f A l) s=nth l s
 |[],_,_,_=>rfl
 |x::A,l,h,hs=>by
  have:=qt f s A (l.set x.1 (f x)) (λy hy=>by simpa using h y (by simp[hy])) (λy hy=>hs y (by simp[hy]));simp only[dM,LO]at this ⊢;rw[this,bt (h x (by simp)),if_neg (λe=>hs x (by simp) e.symm)]
theorem kH(f:Ent->Int):∀(A:List Ent) (l:List Int),(A.map (·.1)).Nodup->(∀x∈A,x.1<l.length)->∀x∈A,nth (dM f A l) x.1=f x
 |[],_,_,_,x,hx=>by simp at hx
 |y::A,l,hn,h,x,hx=>by
  simp only[LX,N1,Mi]at hn;have hl:∀z∈A,z.1<(l.set y.1 (f y)).length:=λz hz=>by simpa using h z (by simp[hz])
  rcases LP.1 hx with rfl|hx
  ·have:=qt f x.1 A (l.set x.1 (f x)) hl (λz hz e=>hn.1 ⟨z,hz,e⟩);simp only[dM,LO]at this ⊢;rw[this,bt (h x (by simp)),if_pos rfl]
  have:=kH f A (l.set y.1 (f y)) hn.2 hl x hx;simpa only[dM,LO]using this
theorem Dp{A:List Ent}(hn:(A.map (·.1)).Nodup){s:Nat}(h:nth (fo A) s=r)(hs:s<iB A):∃x∈A,x.1=s/\x.2.1=r:=by
 have h1:=qu A s (L1 (iB A) (-1)) (by simpa using hs) (λy hy=>by simpa using eM hy);have h2:nth (L1 (iB A) (-1:Int)) s = -1:=by rw[aB (by simpa using hs)];simp
 rw[h2]at h1;have h3:=h1.1 (by rw[fo]at h;rw[h];omega);simp only[ne_eq,not_true,or_false,List.any_eq_true]at h3;obtain⟨x,hx,he⟩:=h3;have he:x.1=s:=by simpa using he
 refine⟨x,hx,he,?_⟩;have h4:=kH lr A (L1 (iB A) (-1)) hn (λy hy=>by simpa using eM hy) x hx;rw[he]at h4;rw[fo,h4]at h;unfold lr at h;omega
structure BInv(width:Int)(L:List (List Int))(k:Nat)(A:List Ent)(q:PSt):Prop where
 chk:q.check=fo A
 nxt:q.next=kT A
 bl:q.base.length=k
 b0:∀b∈q.base,0<=b
 us:q.usual=(L.take k).map cd
 nd:(A.map (·.1)).Nodup
 mem:∀x:Ent,x∈A↔x.2.1<k/\∃c,c<(nth L x.2.1).length/\nth (nth L x.2.1) c≠cd (nth L x.2.1)/\x.1=(nth q.base x.2.1).toNat+c/\x.2.2=nth (nth L x.2.1) c
theorem qI:c∈bZ row u↔c<row.length/\nth row c≠u:=by simp[bZ,gk]
theorem LL(a0:Int)(L:List (List Int)):∀k,k<=L.length->∃A,BInv a0 L k A ((L.take k).foldl PSt.lay ⟨a0,[],[],[],[]⟩):=by
 intro k
 induction k with
 |zero=>intro _;exact⟨[],⟨rfl,rfl,rfl,by simp,rfl,by simp,λx=>by simp⟩⟩
 |succ k ih=>
  intro hk;obtain⟨A,h⟩:=ih zo;rw[aY zo,Mg];generalize (L.take k).foldl PSt.lay ⟨a0,[],[],[],[]⟩=q at *;simp only[LO,NS];obtain⟨e1,e2⟩:=zD q A (nth L k) h.chk h.nxt;obtain⟨m1,m2,m3⟩:=zE q (nth L k);have a3:=(gO q.check (bZ (nth L k) (cd (nth L k)))).1;rw[eX,Mu,h.chk]at a3;rw[h.chk]at e1 e2 m1;generalize hb:gp (fo A) (bZ (nth L k) (cd (nth L k)))=b at *;rw[h.bl]at e1 e2;have a1:∀r,r<k->nth (q.base++[(b:Int)]) r=nth q.base r:=λr hr=>by rw[ay,if_pos (by rw[h.bl];exact hr)]
  have a4:nth (q.base++[(b:Int)]) k=b:=by rw[ay,h.bl,if_neg (Nat.lt_irrefl _),MG,ao]
  refine⟨_,⟨e1,e2,by rw[m1];simp[h.bl],λn hn=>?_,by rw[m2,h.us,aY zo];simp,?_,λx=>?_⟩⟩
  ·rw[m1]at hn
   rcases LV.1 hn with h1|h1
   ·exact h.b0 n h1
   simp only[L5]at h1;subst h1;omega
  ·rw[M8,Ng];refine⟨h.nd,?_,λs hs s' a2 e=>?_⟩
   ·simp only[jP,NA];rw[List.nodup_iff_pairwise_ne,Pr];exact(mS (nth L k) (cd (nth L k))).imp (fun {a c} a6 e=>a6 (by simpa using e))
   subst e;simp only[jP,NA,Mi,Qa]at a2;obtain⟨c,hc,rfl⟩:=a2;obtain⟨y,hy,a5⟩:=Mi.1 hs;have h2:=a3 c hc;rw[AY,Nh]at h2;have h3:=NC.1 h2 y hy;exact h3 (by simp[a5])
  rw[LV,h.mem,m1]
  constructor
  ·rintro(⟨h1,c,h2,h3,h4,h5⟩|h1)
   ·exact⟨zo,c,h2,h3,by rw[a1 _ h1];exact h4,h5⟩
   simp only[jP,Mi]at h1;obtain⟨c,hc,rfl⟩:=h1;obtain⟨c1,c2⟩:=qI.1 hc;exact⟨by dsimp only;omega,c,c1,c2,by dsimp only;rw[a4];simp,rfl⟩
  rintro⟨h1,c,h2,h3,h4,h5⟩
  by_cases hr:x.2.1<k
  ·exact .inl ⟨hr,c,h2,h3,by rw[a1 _ hr]at h4;exact h4,h5⟩
  obtain⟨x1,x2,x3⟩:=x;dsimp only at h1 h2 h3 h4 h5 hr;obtain rfl:x2=k:=zo;right;rw[a4]at h4;simp only[jP,Mi];exact⟨c,qI.2 ⟨h2,h3⟩,by rw[h4,h5];simp⟩
theorem C4(a0:Int)(L:List (List Int))(r c:Nat)(hr:r<L.length)(hc:c<(nth L r).length):getM (lU a0 L) r c=nth (nth L r) c:=by
 obtain⟨A,h⟩:=LL a0 L L.length (LQ _);rw[LU]at h;have hq:L.foldl PSt.lay ⟨a0,[],[],[],[]⟩=lU a0 L:=rfl;rw[hq]at h;generalize lU a0 L=q at *;have a1:nth q.usual r=cd (nth L r):=by rw[h.us,LU,dU hr]
 unfold getM;rw[h.chk,h.nxt,gm,a1]
 by_cases hu:nth (nth L r) c=cd (nth L r)
 ·rw[if_neg,hu];rintro⟨h1,h2⟩;obtain⟨x,hx,e1,e2⟩:=Dp h.nd h2 h1;obtain⟨g1,c',g2,g3,g4,g5⟩:=(h.mem x).1 hx;rw[e2]at g2 g3 g4;have:c'=c:=zo;subst this;exact g3 hu
 have hx:(((nth q.base r).toNat+c,r,nth (nth L r) c):Ent)∈A:=(h.mem _).2 ⟨by simpa using hr,c,hc,hu,rfl,rfl⟩;have h1:=eM hx;have h2:=kH lr A (L1 (iB A) (-1)) h.nd (λy hy=>by simpa using eM hy) _ hx;have h3:=kH Lm A (L1 (iB A) 0) h.nd (λy hy=>by simpa using eM hy) _ hx;dsimp only at h1;rw[if_pos ⟨h1,h2⟩];exact h3
end Go.Proofs.YteolbhblkgjbhaaGreatDoor
section
namespace Go.VL
structure LS where
 l:List UInt8
 pos:Int
 to:Int
 bg:Int
 bad:Int
 e:Int
 ig:ix
 kp:ix
 ru:ix
 mc:ix
 i:Bool
 k:Bool
def LS.cells(s:LS):Array ix:=#[.string (bs s.l),nI s.pos,nI s.to,nI s.bg,nI s.bad,nI s.e,s.ig,s.kp,s.ru,s.mc,.bool s.i,.bool s.k]
theorem BlkO.q0{s:LS}(h:Mo O w j rb s.cells E):w.cell? ⟨rb,0,none⟩=some (.string (bs s.l)):=h.cell 0 rfl
theorem BlkO.q1{s:LS}(h:Mo O w j rb s.cells E):w.cell? ⟨rb,1,none⟩=some (nI s.pos):=h.cell 1 rfl
theorem BlkO.q2{s:LS}(h:Mo O w j rb s.cells E):w.cell? ⟨rb,2,none⟩=some (nI s.to):=h.cell 2 rfl
theorem BlkO.q3{s:LS}(h:Mo O w j rb s.cells E):w.cell? ⟨rb,3,none⟩=some (nI s.bg):=h.cell 3 rfl
theorem BlkO.q4{s:LS}(h:Mo O w j rb s.cells E):w.cell? ⟨rb,4,none⟩=some (nI s.bad):=h.cell 4 rfl
theorem BlkO.q5{s:LS}(h:Mo O w j rb s.cells E):w.cell? ⟨rb,5,none⟩=some (nI s.e):=h.cell 5 rfl
theorem BlkO.q6{s:LS}(h:Mo O w j rb s.cells E):w.cell? ⟨rb,6,none⟩=some (s.ig):=h.cell 6 rfl
theorem BlkO.q7{s:LS}(h:Mo O w j rb s.cells E):w.cell? ⟨rb,7,none⟩=some (s.kp):=h.cell 7 rfl
theorem BlkO.q8{s:LS}(h:Mo O w j rb s.cells E):w.cell? ⟨rb,8,none⟩=some (s.ru):=h.cell 8 rfl
theorem BlkO.q9{s:LS}(h:Mo O w j rb s.cells E):w.cell? ⟨rb,9,none⟩=some (s.mc):=h.cell 9 rfl
theorem BlkO.q10{s:LS}(h:Mo O w j rb s.cells E):w.cell? ⟨rb,10,none⟩=some (.bool s.i):=h.cell 10 rfl
theorem BlkO.q11{s:LS}(h:Mo O w j rb s.cells E):w.cell? ⟨rb,11,none⟩=some (.bool s.k):=h.cell 11 rfl
theorem BlkO.s_pos{s:LS}(h:Mo O w j rb s.cells E)(a':Int):Mo O (w.setCell ⟨rb,1,none⟩ (nI a')) j rb ({s with pos:=a'}:LS).cells E:=h.set 1 _
theorem BlkO.s_to{s:LS}(h:Mo O w j rb s.cells E)(a':Int):Mo O (w.setCell ⟨rb,2,none⟩ (nI a')) j rb ({s with to:=a'}:LS).cells E:=h.set 2 _
theorem BlkO.s_bg{s:LS}(h:Mo O w j rb s.cells E)(a':Int):Mo O (w.setCell ⟨rb,3,none⟩ (nI a')) j rb ({s with bg:=a'}:LS).cells E:=h.set 3 _
theorem BlkO.s_bad{s:LS}(h:Mo O w j rb s.cells E)(a':Int):Mo O (w.setCell ⟨rb,4,none⟩ (nI a')) j rb ({s with bad:=a'}:LS).cells E:=h.set 4 _
theorem BlkO.s_e{s:LS}(h:Mo O w j rb s.cells E)(a':Int):Mo O (w.setCell ⟨rb,5,none⟩ (nI a')) j rb ({s with e:=a'}:LS).cells E:=h.set 5 _
theorem BlkO.s_ru{s:LS}(h:Mo O w j rb s.cells E)(a':ix):Mo O (w.setCell ⟨rb,8,none⟩ a') j rb ({s with ru:=a'}:LS).cells E:=h.set 8 _
end Go.VL
namespace Go.Proofs.YteolbhblkgjbhaaGreatDoor
open Go.VL Go.Proofs
set_option maxRecDepth 10000
abbrev Rd6(O:Nat->Nat)(w:ln)(j rb:Nat)(s:LS):Prop:=Mo O w j rb s.cells 114
theorem nG{l:List UInt8}{c:UInt8}(h:(l.take m)[i]? = some c):l[i]? = some c:=by
 rw[List.getElem?_take]at h
 split at h
 ·exact h
 cases h
theorem ej(O:Nat->Nat)(w:ln)(j rb:Nat)(s:LS)(m:Nat)(r:List UInt8)(hj:j≠0)(hm:m<=s.l.length)(hl:s.l.length<=100000)(a3:s.to=(m:Int))(hr:r <:+ s.l.take m)(hp:s.pos=(m:Int)-(r.length:Int))(h:Rd6 O w j rb s):
  Np Md 76 [nP rb] w λv w'=>v=.bool (decide (0<(aw r).length))/\Rd6 O w' j rb {s with pos:=(m:Int)-((aw r).length:Int)}/\LY (λk=>k=j) O w O w':=by
 have hz:¬(λk:Nat=>k=j) 0:=λe=>hj e.symm
 have a9:(s.l.take m).length=m:=by simp;omega
 have h0:Rd6 O w j rb {s with pos:=(m:Int)-(r.length:Int)}:=by rw[<-hp];exact h
 apply L4 func76 ntmps76 rfl rfl;refine zh ?_
 apply zlp (λx:List UInt8×ln=>[(0,nP rb)]) (λx=>x.2) (λx=>x.1 <:+ s.l.take m/\aw x.1=aw r/\Rd6 O x.2 j rb {s with pos:=(m:Int)-(x.1.length:Int)}/\LY (λk=>k=j) O w O x.2) (λx=>x.1.length) (r,w) ⟨hr,rfl,h0,MD hz _ _⟩;rintro⟨r1,w1⟩ ⟨a4,a2,a7,a5⟩;dsimp only at a4 a2 a7 a5 ⊢;have a0:=a7.drew;have a8:=a4.length_le;refine zh ?_
 apply N0 zk zk;refine zh ?_
 refine zwH (RV.ld a0.q1 rfl) ?_;refine zwH (RV.ld a0.q2 rfl) ?_
 cases r1 with
 |nil=>
  apply cV (d:=12) rfl (b':=false) (decide_eq_false (by simp[a3]));have a1:=a0.drew;refine zh ?_
  apply zw (aG rfl rfl);apply MX
  refine zh ?_;refine zFH rfl rfl ?_
  apply N0 zk zk;refine zh ?_
  refine zwH (RV.ld a1.q1 rfl) ?_;refine zwH (RV.ld a1.q2 rfl) ?_
  apply MX;refine zh ?_
  refine af rfl rfl ⟨by rw[<-a2];simp[a3,aw],by rw[<-a2];exact a1,a5.drew.drew⟩
 |cons b r2=>
  simp only[M0]at a8 a0;apply cV (d:=12) rfl (b':=true) (decide_eq_true (by simp only[M0,a3];omega));refine zh ?_;refine zwH (RV.ld a0.q0 rfl) ?_;refine zwH (RV.ld a0.q1 rfl) ?_;refine zwH (bD (c:=b) Mt rfl rfl (m-(r2.length+1)) (by dsimp only;omega) (nG (by have:=od a4;rwa[a9]at this))) ?_;apply zw (aV rfl rfl);apply MX;refine zh ?_;refine zC ?_ ?_
  ·intro hb;replace hb:b=32:=by rw[show(32:Int)=((32:Nat):Int)from rfl,fE b 32 zd]at hb;simpa using hb
   subst hb;refine zh ?_;apply zv (RV.ld a0.q1 rfl);refine zvH (Ns rfl rfl (N8 (by dsimp only;omega))) ?_;apply ak (j:=1) a0 rfl (L7 _) rfl rfl rfl rfl;rw[show((m:Int)-((r2.length+1:Nat):Int))+1=(m:Int)-(r2.length:Int)from by omega];have a1:=a0.s_pos ((m:Int)-(r2.length:Int));have a':LY (λk=>k=j) O w1.drew O (w1.drew.setCell ⟨rb,1,none⟩ (nI ((m:Int)-(r2.length:Int)))):=MB hz a0.tag rfl;refine zh ?_;refine zx (r2,w1.drew.setCell ⟨rb,1,none⟩ (nI ((m:Int)-(r2.length:Int)))) ⟨(NI _ _).trans a4,by rw[<-a2];simp[aw],a1,a5.drew.trans a'⟩ (by dsimp only;simp)
  intro hb;replace hb:b≠32:=by rw[show(32:Int)=((32:Nat):Int)from rfl,fE b 32 zd]at hb;simpa using hb
  have a6:aw (b::r2)=b::r2:=by simp[aw,hb]
  have a1:=a0.drew;refine zh ?_;apply N0 zk zk;refine zh ?_;refine zwH (RV.ld a1.q1 rfl) ?_;refine zwH (RV.ld a1.q2 rfl) ?_;apply MX;refine zh ?_;refine af rfl rfl ⟨by rw[<-a2,a6];simp[a3];omega,by rw[<-a2,a6];exact a1,a5.drew.drew⟩
theorem bU(O:Nat->Nat)(w:ln)(j rb:Nat)(s:LS)(p e:Int)(hj:j≠0)(he:s.e=0)(h:Rd6 O w j rb s):
  Np Md 109 [nP rb,nI p,nI e] w λ_ w'=>Rd6 O w' j rb {s with bad:=p,e:=e}/\LY (λk=>k=j) O w O w':=by
 apply L4 func109 ntmps109 rfl rfl;refine zh ?_
 refine zvH (RV.ld h.q5 rfl) ?_;refine zTH rfl ((by rw[he];rfl)) ?_
 apply ak (j:=4) h rfl (L7 _) rfl rfl rfl rfl;have a0:=h.s_bad p;have a3:LY (λk=>k=j) O w O (w.setCell ⟨rb,4,none⟩ (nI p)):=MB (λe=>hj e.symm) h.tag rfl;refine zh ?_
 apply ak (j:=5) a0 rfl (sizeOf57 _) rfl rfl rfl rfl;have a1:=a0.s_e e;have a2:LY (λk=>k=j) O (w.setCell ⟨rb,4,none⟩ (nI p)) O ((w.setCell ⟨rb,4,none⟩ (nI p)).setCell ⟨rb,5,none⟩ (nI e)):=MB (λe=>hj e.symm) a0.tag rfl;refine zh ?_
 refine aJ rfl ⟨a1,a3.trans a2⟩
theorem ia(O:Nat->Nat)(w:ln)(j rb:Nat)(s:LS)(m:Nat)(r:List UInt8)(hj:j≠0)(hm:m<=s.l.length)(hl:s.l.length<=100000)(b2:s.to=(m:Int))(hr:r <:+ s.l.take m)(hp:s.pos=(m:Int)-(r.length:Int))(h:Rd6 O w j rb s):
  Np Md 77 [nP rb] w λv w'=>v=.string (bs (r.takeWhile aj))/\Rd6 O w' j rb {s with pos:=(m:Int)-((r.dropWhile aj).length:Int)}/\LY (λk=>k=j) O w O w':=by
 have hz:¬(λk:Nat=>k=j) 0:=λe=>hj e.symm
 have a9:(s.l.take m).length=m:=by simp;omega
 have h0:Rd6 O w j rb {s with pos:=(m:Int)-(r.length:Int)}:=by rw[<-hp];exact h
 have a':=hr.length_le;rw[a9]at a';apply L4 func77 ntmps77 rfl rfl;refine zh ?_;refine zvH (RV.ld h0.q1 rfl) ?_;apply zlp (λx:List UInt8×ln=>[(0,nP rb),(3,nI ((m:Int)-(r.length:Int)))]) (λx=>x.2) (λx=>x.1 <:+ s.l.take m/\x.1.dropWhile aj=r.dropWhile aj/\Rd6 O x.2 j rb {s with pos:=(m:Int)-(x.1.length:Int)}/\LY (λk=>k=j) O w O x.2) (λx=>x.1.length) (r,w) ⟨hr,rfl,h0,MD hz _ _⟩;rintro⟨r1,w1⟩ ⟨a8,a5,b4,a6⟩;dsimp only at a8 a5 b4 a6 ⊢;have a0:=b4.drew;have b3:=a8.length_le;rw[a9]at b3;have a3:r1=r.dropWhile aj->(s.l.take (m-r1.length)).drop (m-r.length)=r.takeWhile aj:=λe=>by
  have:=BT (l:=s.l.take m) (a:=r.takeWhile aj) (b:=r.dropWhile aj) (by rw[NG];exact hr);rw[NG,<-e,a9,List.take_take,Nat.min_eq_left zo]at this;exact this
 have b0:r1.length<=r.length\/r1≠r.dropWhile aj:=by
  by_cases e:r1=r.dropWhile aj
  ·left;rw[e];exact(List.dropWhile_suffix _).length_le
  right;exact e
 refine zh ?_;apply N0 zk zk
 refine zh ?_;refine zwH (RV.ld a0.q1 rfl) ?_
 refine zwH (RV.ld a0.q2 rfl) ?_
 cases r1 with
 |nil=>
  apply cV (d:=17) rfl (b':=false) (decide_eq_false (by simp[b2]));have a1:=a0.drew;have hd:[]=r.dropWhile aj:=by rw[<-a5];rfl
  have h1:=a3 hd;refine zh ?_;apply zw (aG rfl rfl);apply MX;refine zh ?_;refine zFH rfl rfl ?_;apply N0 zk zk;refine zh ?_;refine zwH (RV.ld a1.q0 rfl) ?_;apply zw (RV.ld a1.q1 rfl);refine zwH (cf Mt rfl rfl rfl (m-r.length) (m-0) zo (by simp) zo zo) ?_;apply MX;refine zh ?_;simp only[List.length_nil]at h1;refine af rfl rfl ⟨by rw[h1],by rw[<-hd];exact a1,a6.drew.drew⟩
 |cons b r2=>
  simp only[M0]at b3 a0;apply cV (d:=17) rfl (b':=true) (decide_eq_true (by simp only[M0,b2];omega));have a2:s.l[m-(r2.length+1)]? = some b:=nG (by have:=od a8;rwa[a9]at this);refine zh ?_;refine zwH (RV.ld a0.q0 rfl) ?_;refine zwH (RV.ld a0.q1 rfl) ?_;refine zwH (bD (c:=b) Mt rfl rfl (m-(r2.length+1)) (by dsimp only;omega) a2) ?_
  by_cases k1:65<=b.toNat
  ·apply cV (d:=28) rfl (b':=true) (decide_eq_true zo);refine zh ?_
   refine zwH (RV.ld a0.q0 rfl) ?_;refine zwH (RV.ld a0.q1 rfl) ?_
   refine zwH (bD (c:=b) Mt rfl rfl (m-(r2.length+1)) (by dsimp only;omega) a2) ?_;refine zwH (aV rfl rfl) ?_
   by_cases k2:b.toNat<=90
   ·apply cV (d:=40) rfl (b':=true) (decide_eq_true zo);have a4:aj b=true:=by simp[aj,k1,k2]
    refine zh ?_;apply zw (aV rfl rfl)
    apply zw (aV rfl rfl);apply MX
    refine zh ?_;refine zTH rfl rfl ?_
    apply zv (RV.ld a0.q1 rfl);refine zvH (Ns rfl rfl (N8 (by dsimp only;omega))) ?_
    apply ak (j:=1) a0 rfl (L7 _) rfl rfl rfl rfl;rw[show((m:Int)-((r2.length+1:Nat):Int))+1=(m:Int)-(r2.length:Int)from by omega];have a1:=a0.s_pos ((m:Int)-(r2.length:Int));have b1:LY (λk=>k=j) O w1.drew O (w1.drew.setCell ⟨rb,1,none⟩ (nI ((m:Int)-(r2.length:Int)))):=MB hz a0.tag rfl;refine zh ?_
    refine zx (r2,w1.drew.setCell ⟨rb,1,none⟩ (nI ((m:Int)-(r2.length:Int)))) ⟨(NI _ _).trans a8,by rw[<-a5,NT a4],a1,a6.drew.trans b1⟩ (by dsimp only;simp)
   apply cV (d:=40) rfl (b':=false) (decide_eq_false zo);refine zh ?_
   refine zwH (RV.ld a0.q0 rfl) ?_;refine zwH (RV.ld a0.q1 rfl) ?_
   refine zwH (bD (c:=b) Mt rfl rfl (m-(r2.length+1)) (by dsimp only;omega) a2) ?_
   by_cases k3:97<=b.toNat
   ·apply cV (d:=51) rfl (b':=true) (decide_eq_true zo);refine zh ?_
    refine zwH (RV.ld a0.q0 rfl) ?_;refine zwH (RV.ld a0.q1 rfl) ?_
    refine zwH (bD (c:=b) Mt rfl rfl (m-(r2.length+1)) (by dsimp only;omega) a2) ?_;refine zwH (aV rfl rfl) ?_
    apply zw (aG rfl rfl);apply zw (aV rfl rfl)
    apply MX;refine zh ?_
    by_cases k4:b.toNat<=122
    ·apply aP rfl (decide_eq_true zo);have a4:aj b=true:=by simp[aj,k3,k4]
     refine zh ?_;apply zv (RV.ld a0.q1 rfl)
     refine zvH (Ns rfl rfl (N8 (by dsimp only;omega))) ?_;apply ak (j:=1) a0 rfl (L7 _) rfl rfl rfl rfl
     rw[show((m:Int)-((r2.length+1:Nat):Int))+1=(m:Int)-(r2.length:Int)from by omega];have a1:=a0.s_pos ((m:Int)-(r2.length:Int));have b1:LY (λk=>k=j) O w1.drew O (w1.drew.setCell ⟨rb,1,none⟩ (nI ((m:Int)-(r2.length:Int)))):=MB hz a0.tag rfl;refine zh ?_;refine zx (r2,w1.drew.setCell ⟨rb,1,none⟩ (nI ((m:Int)-(r2.length:Int)))) ⟨(NI _ _).trans a8,by rw[<-a5,NT a4],a1,a6.drew.trans b1⟩ (by dsimp only;simp)
    apply aI rfl (decide_eq_false zo);have a4:aj b=false:=by simp[aj,k2,k4]
    have a7:(b::r2).dropWhile aj=b::r2:=Na (by rw[a4];decide);have hd:b::r2=r.dropWhile aj:=by rw[<-a5,a7]
    have h1:=a3 hd;have h2:=b0.resolve_right (λe=>e hd);simp only[M0]at h1 h2;have a1:=a0.drew;refine zh ?_;apply N0 zk zk;refine zh ?_;refine zwH (RV.ld a1.q0 rfl) ?_;apply zw (RV.ld a1.q1 rfl);refine zwH (cf Mt rfl rfl rfl (m-r.length) (m-(r2.length+1)) zo (by dsimp only;omega) zo (by dsimp only;omega)) ?_;apply MX;refine zh ?_;refine af rfl rfl ⟨by rw[h1],by rw[<-hd];exact a1,a6.drew.drew⟩
   apply cV (d:=51) rfl (b':=false) (decide_eq_false zo);have a4:aj b=false:=by simp[aj,k2,k3]
   have a7:(b::r2).dropWhile aj=b::r2:=Na (by rw[a4];decide);have hd:b::r2=r.dropWhile aj:=by rw[<-a5,a7]
   have h1:=a3 hd;have h2:=b0.resolve_right (λe=>e hd);simp only[M0]at h1 h2;have a1:=a0.drew;refine zh ?_;refine zwH (aG rfl rfl) ?_;apply zw (aG rfl rfl);apply zw (aV rfl rfl);apply MX;refine zh ?_;refine zFH rfl rfl ?_;apply N0 zk zk;refine zh ?_;refine zwH (RV.ld a1.q0 rfl) ?_;apply zw (RV.ld a1.q1 rfl);refine zwH (cf Mt rfl rfl rfl (m-r.length) (m-(r2.length+1)) zo (by dsimp only;omega) zo (by dsimp only;omega)) ?_;apply MX;refine zh ?_;refine af rfl rfl ⟨by rw[h1],by rw[<-hd];exact a1,a6.drew.drew⟩
  have k3:¬97<=b.toNat:=zo;apply cV (d:=28) rfl (b':=false) (decide_eq_false zo);refine zh ?_;refine zwH (aG rfl rfl) ?_;refine zwH (RV.ld a0.q0 rfl) ?_;refine zwH (RV.ld a0.q1 rfl) ?_;refine zwH (bD (c:=b) Mt rfl rfl (m-(r2.length+1)) (by dsimp only;omega) a2) ?_;apply cV (d:=51) rfl (b':=false) (decide_eq_false zo);have a4:aj b=false:=by simp[aj,k1,k3]
  have a7:(b::r2).dropWhile aj=b::r2:=Na (by rw[a4];decide);have hd:b::r2=r.dropWhile aj:=by rw[<-a5,a7]
  have h1:=a3 hd;have h2:=b0.resolve_right (λe=>e hd);simp only[M0]at h1 h2;have a1:=a0.drew;refine zh ?_;refine zwH (aG rfl rfl) ?_;apply zw (aG rfl rfl);apply zw (aV rfl rfl);apply MX;refine zh ?_;refine zFH rfl rfl ?_;apply N0 zk zk;refine zh ?_;refine zwH (RV.ld a1.q0 rfl) ?_;apply zw (RV.ld a1.q1 rfl);refine zwH (cf Mt rfl rfl rfl (m-r.length) (m-(r2.length+1)) zo (by dsimp only;omega) zo (by dsimp only;omega)) ?_;apply MX;refine zh ?_;refine af rfl rfl ⟨by rw[h1],by rw[<-hd];exact a1,a6.drew.drew⟩
end Go.Proofs.YteolbhblkgjbhaaGreatDoor
end
