/- Texts that the proof of this statement needs, merged and shortened. -/
import Derived.Test.YtlehnbkknlpkbaaGreatDoorQTableStates2
open Go renaming Value->ix,World->ow,TypeId->BJ,Program->I4,Oper->Jr,Operand->Jt,Exit->JZ,Edge->Ku,Act->KA,FuncId->KE
open Go.Proofs.Tryz renaming underlying22->ln,sizeOf3->qy,underlying50->ri,underlying180->sx,sizeOf86->uV,prog->zI,zeroValue210->A2,sizeOf210->Ae,underlying210->BW,zeroValue86->CZ,zeroValue22->Da,zeroValue3->Dc,sizeOf83->DH,isAgg86->DN,sizeOf22->Fo,underlying225->G6,underlying31->GY,underlying198->J2,underlying127->J3,isAgg83->Ji,sizeOf190->Jn,sizeOf50->Ju,sizeOf31->Jv,isAgg210->Jw,underlying252->JF,underlying200->JG,underlying192->JH,underlying182->JI,zeroValue83->JV,underlying5->JW,underlying3->JX,call111->K6,underlying226->Kj,isAgg31->Kp,call104->Kq,underlying9->Kv
open Go.VL.WC renaming region->ox,seq->pN,block->Db,skip->Fu,exit->JB,tail->Kc,ret->Kk,still->Kx
open Go.VL.WL renaming nil->oz,mapUpdate->vg,storeAt->Gh,push->Ib,val->K8
open Nat renaming not_lt_zero->oD,zero_le->ps,le_refl->pZ,eq_of_beq_eq_true->uu,beq->Fm,sub_self->Gb,blt->Gc,le_trans->J1,beq_refl->Jz,le_zero->JJ,or_lt_two_pow->JT
open List renaming mem_singleton->oU,length_singleton->pR,length_set->rk,mem_cons->rI,mem_append->rU,take_length->su,replicate->sN,append_nil->sQ,mem_cons_of_mem->tq,map_cons->tJ,mem_range->tR,length_cons->vO,length_append->vX,map_append->yr,all_cons->yJ,mem_append_right->yP,mem_append_left->ze,getElem?_eq_some_iff->zR,mem_filter->As,range->AK,mem_cons_self->AW,findIdx?_cons->B1,filter_append->Bh,findIdx?_eq_some_iff_getElem->BV,append_assoc->C9,flatMap_append->Dd,filter_sublist->De,all_nil->DA,flatMap_cons->DZ,filter_cons->FJ,mem_map->FX,length_filter_le->Gi,foldl_append->J0,nodup_range->J4,range_succ->J7,nodup_cons->J8,length_nil->J9,findIdx?_eq_none_iff->Jo,length_replicate->JA,mem_of_mem_take->JD,findIdx?_append->JE,replicate_succ->JK,take_sublist->JO,nodup_append->JP,filter_congr->JQ,flatMap_nil->JU,foldl_cons->JY,take_zero->K0,nodup_nil->K1,findIdx?->K4,map_map->Ka
open Go.Value renaming oneCell'->pc,bool->th,string->Jq
open Go.VL.WH renaming one->qN,done->BG
open Go.VL.RV renaming move->rf,indexAddr->tG,assign->uh,add->zl,lookup->C2,load->JC,lss->JR,extract->JS,len->K9,entry->Kz
open Go.VL.Ret renaming enter->rj
open Go.VL renaming Upd->rm,RowT->uY,MapO->zf,BlkO->CY,Rng->GT,Free->IJ,Ext->J6,Ret->Js,Elem->Kh,RangeO->KB
open Go.VL.Ext renaming refl->sP,alloc->Km
open Go.VL.Upd renaming setRow->tp,set->CR,refl->GZ
open Go.Region renaming ready->ug
open Go.VL.Fit renaming i64->uw
open Go.Result renaming andThen_ok->uM
open Go.VL.RowT renaming nil->xK,sl->Kr
open Classical renaming byContradiction->yY
open Go.Sem renaming run_bind->CX,run_pure->Jy
open UInt8 renaming ofNat->Gv
open Prod.mk renaming inj->IP
open Bool renaming and_eq_true->J5,and_true->K5
open Go.World renaming block_lt_of_cell?->Jp,cell?->K7
open Option renaming getD_some->JL,bind_some->JM,map_some->JN
open Go.Instr renaming storeAt->K2
open List.Pairwise renaming imp_of_mem->Kb
open List.Sublist renaming append_left->Kd
open Int renaming le_refl->Ke
open Option.some renaming injEq->Kf,inj->Kg
open Go.VL.BlkO renaming cell->Ki,upd->Ko
open Go.VL.MapO renaming upd->Kl
open Go.VL.WS renaming go->Kw
open Go.VL.Rng renaming upd->Ky
open Go.IntKind renaming wrap_u8->KC,u8->KD
set_option maxRecDepth 10000
open Go.VL Go.Proofs Go.Proofs.Tryz
namespace Go.VL
section
variable{P:I4}{N:Nat}{ops:Array Jr}{Q:JZ→KA→ow→Prop}{rest:List Jr}{st:St}{w:ow}
variable{t:BJ}{p:String}{e:Array Ku}{d:Nat}{x y z:Jt}
theorem Ext.iter(w:ow)(s:ByteArray)(a0:Nat):J6 w (w.iter s a0):=Km w _
theorem uN{xt:BJ}{l:List UInt8}(hT:P.underlying xt=some .string)(hx:ev st x=some (.string (bs l)))(hd:Gc d N=true) 
  (h:WL P N ops Q rest ((d,.pointer (some ⟨w.heap.size,0,none⟩))::st) (w.iter (bs l) 0)):WL P N ops Q (⟨some d,.range xt x,t,p,e,none⟩::rest) st w:=
 K8 hd (fun a ha=>by
  simp only[execOp,ha.ev hx,CX,run_range_string w xt (bs l) hT,uM]
  rfl) h
theorem DQ{l:List UInt8}{a0:Nat}{c:UInt8}{w0:ow}(hx:ev st x=some (.pointer (some ⟨w0.heap.size,0,none⟩)))(hc:l[a0]? = some c)(ha:c.toNat<128)(hd:Gc d N=true) 
  (h:WL P N ops Q rest ((d,.tuple #[.bool true,nI (a0:Nat),.int .i32 (c.toNat:Int)])::st) (w0.iter (bs l) (a0+1))):WL P N ops Q (⟨some d,.next x true,t,p,e,none⟩::rest) st (w0.iter (bs l) a0):=by
 obtain⟨a2,hv⟩:=zR.1 hc;have hs:a0<(bs l).size:=by rw[di];exact a2
 have he:(bs l)[a0]'hs=c:=by rw[<-hv];exact List.getElem_toArray (xs:=l) (i:=a0) a2
 have a1:=run_next_ascii (P:=P) w0 (bs l) a0 t hs (by rw[he];exact ha);rw[he]at a1
 exact K8 hd (fun a ha=>by
  simp only[execOp,ha.ev hx,CX,a1,uM]
  rfl) h
theorem DP{l:List UInt8}{a0:Nat}{w0:ow}(hx:ev st x=some (.pointer (some ⟨w0.heap.size,0,none⟩)))(hp:l.length<=a0)(hd:Gc d N=true) 
  (h:WL P N ops Q rest ((d,.tuple #[.bool false])::st) (w0.iter (bs l) a0)):WL P N ops Q (⟨some d,.next x true,t,p,e,none⟩::rest) st (w0.iter (bs l) a0):=by
 have hs:¬a0<(bs l).size:=by rw[di];omega
 have a1:=run_next_end (P:=P) w0 (bs l) a0 t hs
 exact K8 hd (fun a ha=>by
  simp only[execOp,ha.ev hx,CX,a1,uM]
  rfl) h
end
section
variable{P:I4}{N:Nat}{ops:Array Jr}{Q:JZ→KA→ow→Prop}{rest:List Jr}{st:St}{w:ow}
variable{t:BJ}{p:String}{e:Array Ku}{d:Nat}{x y z:Jt}
theorem iK{α:Type}{c:Code}(f:α->St)(g:α->ow)(I:α->Prop)(h1:(∀z,I z->QF N Q .normal (f z) (g z))->WC P N c Q st w)(h2:∀z,I z->QF N Q .normal (f z) (g z)):WC P N c Q st w:=h1 h2
theorem eD{e:JZ}{a0:St}{w':ow}(h:QF N Q e a0 w')(hc:Cov st a0)(hw:w'=w):QF N Q e st w:=by subst hw;exact h.weaken hc
theorem lq{T:BJ}{O:Nat->Nat}{i b:Nat}{cs us:Array ix}{E:BJ}(off:Nat)(hb:CY O w i b cs E)(hs:off+us.size<=cs.size)(hT:(sizeOf T).run P w=.ok us.size w)(h1:us.toList.all pc=true) 
  {q:Addr} (hx:ev st x=some (.pointer (some q))) (hq:q=⟨b,off,none⟩) (hy:ev st y=some (.agg us))
  (h:WL P N ops Q rest st (w.setRow b (cs.toList.take off++us.toList++cs.toList.drop (off+us.size)).toArray)):WL P N ops Q (⟨none,.store T x y,t,p,e,none⟩::rest) st w:=
 iI (fun a ha=>by
  subst hq;have a0:(K2 T (.pointer (some ⟨b,off,none⟩)) (.agg us)).run P w=.ok () (w.setRow b (cs.toList.take off++us.toList++cs.toList.drop (off+us.size)).toArray):=by
   have:=run_storeCells_at P b off E us.toList 0 cs w hb.blk (by simpa using hs) (List.all_eq_true.1 h1);simp only[Nat.add_zero,Array.length_toList]at this;simp only[K2,Instr.sureAddr,storeVar,CX,Jy,uM,Value.cells,hT];simpa using this
  simp only[execOp,ha.ev hx,ha.ev hy,CX,a0,uM,Jy]) h
end
def lowT(O:Nat->Nat)(T:Nat):Nat->Nat:=fun b=>if T<=O b then 0 else O b
theorem Upd.lowT{S:Nat->Prop}{T:Nat}{O O2:Nat->Nat}{w w':ow}(h:rm S O w O2 w')(hT:∀b,O b<T){S':Nat->Prop}(hS:∀b,S (O b)->S' (O b))(hz:¬S' 0):rm S' O w (lowT O2 T) w':=
 ⟨h.os,h.tape,h.output,h.size,fun b hb hn=>h.blk b hb fun hs=>hn (hS b hs),fun b hb=>by
  have h1:=h.tag b hb;have:=hT b;unfold Go.VL.lowT;rw[if_neg zo];exact h1,fun b hb=>by
  unfold Go.VL.lowT at hb
  split at hb
  ·exact absurd rfl hb
  exact h.new b hb,hz⟩
theorem Rng.lowT{B:Nat}{O:Nat->Nat}{w:ow}(h:GT B O w)(T:Nat):GT B (lowT O T) w:=⟨h.le,fun b hb=>by
 unfold Go.VL.lowT at hb
 split at hb
 ·exact absurd rfl hb
 exact h.rng b hb⟩
theorem BlkO.lowT{O:Nat->Nat}{w:ow}{i b:Nat}{cs:Array ix}{E:BJ}(h:CY O w i b cs E){T:Nat}(hi:i<T):CY (lowT O T) w i b cs E:=⟨h.blk,by unfold Go.VL.lowT;rw[h.tag,if_neg zo]⟩
theorem RowT.lowT{α:Type}{enc:α->List ix}{O:Nat->Nat}{w:ow}{i:Nat}{E:BJ}{sz:Nat}{v:ix}{l:List α}(h:uY enc E sz O w i v l){T:Nat}(hi:i<T):uY enc E sz (lowT O T) w i v l:=
 ⟨⟨h.1.row,fun g hg=>by unfold Go.VL.lowT;rw[h.1.tag g hg,if_neg zo]⟩,h.2⟩
theorem kG{O:Nat->Nat}{T b:Nat}(h:O b=0):lowT O T b=0:=by unfold lowT;split<;>simp[h]
end Go.VL
namespace Go.Proofs.YtlehnbkknlpkbaaGreatDoor
theorem ir:∀(l:List Nd) (i:Nat),i<l.length->bh (l.take (i+1))=bh (l.take i)+dh (nth l i)
 |[],i,h=>absurd h (oD i)
 |t::r,0,_=>by rw[ar];simp[bh]
 |t::r,i+1,h=>by
  have:=ir r i (by simpa using h);rw[bd];simp only[List.take_succ_cons,bh];omega
mutual
theorem lQ:∀(t:Nd),dh t<=nsz t
 |.mk k c l=>by
  have:=iY l;simp only[dh,nsz]
  split<;>omega
theorem iY:∀(l:List Nd),bh l<=dr l
 |[]=>by simp[bh]
 |t::r=>by
  have h1:=lQ t;have h2:=iY r;simp only[bh,dr];omega
end
theorem qj:∀(n:Nat),n<=1000000->∀(t:Nd),nsz t<=n->∀(x:N3) (w:ow),Nt (fun _=>0) w t x->Js zI 103 [nv x] w fun v w'=>v=nI ((dh t:Nat):Int)/\J6 w w'
 |0,_,t,hn=>by have:=cN t;omega
 |n+1,hn6,.mk k c l,hn=>by
  intro x w h;have ih:=qj n zo;have b5:=h.ones;obtain⟨ys,b3,hf,a7,a4⟩:=h.kids;simp only[Nd.kids]at a7 a4;simp only[nsz]at hn;generalize x.2.2=sv at *;subst b5;simp only[Nd.kind,Nd.cls];have d1:=ef l;have d2:=iY l;refine rj func103 ntmps103 rfl rfl ?_;refine zh ?_;refine aE (au w) 1 zo rfl rfl ?_;intro xb w1 O1 b0 d4 d6 a';have c0:w1.cell? (nA xb 0)=some (nI k):=b0.cell 0 rfl;have c2:w1.cell? (nA xb 2)=some sv:=b0.cell 2 rfl;have a6:=b3.ext a';have a2:=a';clear a';refine zh ?_
  by_cases hl:l=[]
  ·subst hl;have b4:ys.length=0:=a7.symm;refine ay (d:=10) rfl (b':=true) ((by rw[b4];rfl)) ?_;refine zh ?_
   by_cases h9:k=9
   ·subst h9;have a0:dh (.mk 9 c [])=bh []:=by rw[dh,if_neg (by rintro⟨_,e⟩;exact e rfl)]
    refine zFH rfl rfl ?_;refine zlp (fun z:Nat×ow=>[(3,nI ((bh (([]:List Nd).take z.1):Nat):Int)),(16,sv),(17,nI ys.length),(18,nI z.1)]) (fun z=>z.2) (fun z=>z.1<=([]:List Nd).length/\J6 w1 z.2) (fun z=>([]:List Nd).length-z.1) (0,w1) (⟨ps _,sP _⟩) ?_
    rintro⟨q,w2⟩ ⟨hq,a1⟩;dsimp only at hq a1 ⊢;have a5:=a6.ext a1;have b6:q=0:=by simpa using hq
    refine zh ?_;refine zC ?_ ?_
    ·intro a3;exact absurd (of_decide_eq_true a3) zo
    intro b1;subst b6;refine zh ?_;refine ae rfl rfl (⟨by rw[a0,List.take_nil],a2.trans a1⟩)
   have a0:dh (.mk k c [])=1:=by rw[dh,if_pos ⟨rfl,h9⟩]
   rw[a0];refine zTH rfl ((by simpa using h9)) ?_;refine ae rfl rfl (⟨rfl,a2⟩)
  have a0:dh (.mk k c l)=bh l:=by rw[dh,if_neg (by rintro⟨e,_⟩;exact hl (by simpa using e))]
  have b7:=List.length_pos_iff.2 hl;refine ay (d:=10) rfl (b':=false) ((by rw[beq_eq_false_iff_ne];omega)) ?_;refine zh ?_;refine zFH rfl rfl ?_;refine zlp (fun z:Nat×ow=>[(3,nI ((bh (l.take z.1):Nat):Int)),(16,sv),(17,nI ys.length),(18,nI z.1)]) (fun z=>z.2) (fun z=>z.1<=l.length/\J6 w1 z.2) (fun z=>l.length-z.1) (0,w1) (⟨ps _,sP _⟩) ?_;rintro⟨q,w2⟩ ⟨hq,a1⟩;dsimp only at hq a1 ⊢;have a5:=a6.ext a1;have c9:=cp l q;refine zh ?_;refine zC ?_ ?_
  ·intro a3;replace a3:q<l.length:=dT a3;have a8:=(a4 q zo).ext (a2.trans a1);have c5:=a8.one;have d0:=bD l q a3;have d3:=lQ (nth l q);have b9:=iY (l.take q);have c':=dJ l q a3;have b8:=cp l (q+1);refine zh ?_;refine zv (ai (us:=aY (nth ys q)) (fun j u hu=>a5.cell zo hu) (Ji _) (DH _) rfl) ?_;refine ax (au w2) 1 zo (JV _) rfl ?_;intro yb w3 O3 a9 c7 d5 d7;refine zsb (us:=#[nI (nth ys q).1,nI (nth ys q).2.1,(nth ys q).2.2]) a9 (DH _) (cn c5) ?_;have b2:J6 w2 (w3.setRow yb #[nI (nth ys q).1,nI (nth ys q).2.1,(nth ys q).2.2]):=(c7.trans (tp zd a9.tag rfl)).ext;have c6:=a9.setRow (us:=#[nI (nth ys q).1,nI (nth ys q).2.1,(nth ys q).2.2]);generalize w3.setRow yb #[nI (nth ys q).1,nI (nth ys q).2.1,(nth ys q).2.2]=w4 at *;refine zh ?_;refine zv (ai (us:=aY (nth ys q)) c6.cellsAdd (Ji _) (DH _) rfl) ?_;refine zc call103 (ih (nth l q) zo (nth ys q) w4 (a8.ext b2)) ?_;rintro v w5 ⟨rfl,c8⟩;refine zh ?_;rw[show((bh (l.take q):Nat):Int)+((dh (nth l q):Nat):Int)=((bh (l.take (q+1)):Nat):Int)from by rw[ir l q a3];simp];refine zxd (q+1,w5) (⟨a3,(a1.trans b2).trans c8⟩)
  intro b1;obtain rfl:q=l.length:=dF b1;rw[su];refine zh ?_;refine ae rfl rfl (⟨by rw[a0],a2.trans a1⟩)
theorem Ay(k c m:Int)(b:Nat)(w:ow):Js zI 171 [.agg #[nI k,nI c,nI (b:Nat)],nI m] w fun v w'=>v=.bool (cK k c m)/\J6 w w':=by
 refine rj func171 ntmps171 rfl rfl ?_;refine zh ?_
 refine aE (au w) 1 zo rfl rfl ?_;intro xb w1 O1 a4 a5 a6 a3;have c0:w1.cell? (nA xb 0)=some (nI k):=a4.cell 0 rfl;have c1:w1.cell? (nA xb 1)=some (nI c):=a4.cell 1 rfl;obtain⟨cl,a0⟩:∃cl,cl=(decide (0<=m)&&decide (m<36)):=⟨_,rfl⟩
 refine zh ?_;refine aP (fun W=>W=w1) (decide (m<36)) 2 (rfl) rfl rfl rfl rfl rfl ?_ ?_
 ·intro a1;refine zh ?_;refine nE 8 3 (rfl) a1
 rintro w9 rfl;rw[<-a0];refine zh ?_
 by_cases h0:k=0
 ·have hM:cK k c m=(cl&&(m==c)):=by unfold cK;rw[if_pos h0,a0]
  rw[hM];refine zTH rfl ((by simpa using h0)) ?_;refine aP (fun W=>W=w9) ((m==c)) 4 (rfl) rfl rfl rfl rfl rfl ?_ ?_
  ·intro a2;refine zh ?_;refine nE 17 5 (rfl) a2
  rintro w8 rfl;refine zh ?_;refine ae rfl rfl (⟨rfl,a3⟩)
 refine zFH rfl ((by simpa using h0)) ?_
 by_cases h1:k=1
 ·have hM:cK k c m=cl:=by unfold cK;rw[if_neg h0,if_pos h1,a0]
  rw[hM];refine zTH rfl ((by simpa using h1)) ?_;refine ae rfl rfl (⟨rfl,a3⟩)
 refine zFH rfl ((by simpa using h1)) ?_
 by_cases h2:k=2
 ·have hM:cK k c m=(cl&&(m != c)):=by unfold cK;rw[if_neg h0,if_neg h1,if_pos h2,a0]
  rw[hM];refine zTH rfl ((by simpa using h2)) ?_;refine aP (fun W=>W=w9) ((m != c)) 4 (rfl) rfl rfl rfl rfl rfl ?_ ?_
  ·intro a2;refine zh ?_;refine nE 29 5 (rfl) a2
  rintro w8 rfl;refine zh ?_;refine ae rfl rfl (⟨rfl,a3⟩)
 have hM:cK k c m=(m==36):=by unfold cK;rw[if_neg h0,if_neg h1,if_neg h2]
 rw[hM];refine zFH rfl ((by simpa using h2)) ?_;refine ae rfl rfl (⟨rfl,a3⟩)
structure NfD(w:ow)(nb:Nat)(se:Bool)(g:Gr):Prop where
 ex:∃nr tr lv kv xs l1 l2,NfR w nb se g (.map (some nr)) (.map (some tr)) lv kv xs/\zf kvI id (fun _=>0) w 0 nr l1/\zf kvI tvU (fun _=>0) w 0 tr l2/\
  (∀p:Nat,p<=g.ls.length->∃v,bx l1 (p:Int)=some v/\Sl aX 1 w v (cO g p))/\∀p:Nat,p<=g.ls.length->bx l2 (p:Int)=some (jD g p)
theorem oX{κ ν:Type}{kv:κ->ix}{vv:ν->ix}{w w':ow}{r:Nat}{l:List (κ×ν)}(h:zf kv vv (fun _=>0) w 0 r l)(e:J6 w w'):zf kv vv (fun _=>0) w' 0 r l:=by
 obtain⟨es,c,h1,h2⟩:=h.blk;have e1:=e.block r (bB h1);exact⟨⟨es,c,by rw[e1];exact h1,h2⟩,rfl,fun a0 c' h'=>h.born a0 c' (by rw[<-e1];exact h')⟩
theorem NfD.ext{w w':ow}{nb:Nat}{se:Bool}{g:Gr}(h:NfD w nb se g)(e:J6 w w'):NfD w' nb se g:=by
 obtain⟨nr,tr,lv,kv,xs,l1,l2,h1,h2,h3,h4,h5⟩:=h.ex;exact⟨nr,tr,lv,kv,xs,l1,l2,h1.ext e,oX h2 e,oX h3 e,fun p hp=>by obtain⟨v,a,b⟩:=h4 p hp;exact⟨v,a,b.ext e⟩,h5⟩
theorem Cb(w:ow)(nb:Nat):Js zI 109 [nP nb] w fun v w'=>Sl encI 1 w' v [0]/\J6 w w'/\∀(B:Nat) (O:Nat->Nat),GT B O w->IJ O w' v:=by
 refine rj func109 ntmps109 rfl rfl ?_;refine zh ?_
 refine zvH (ec (q:=some ⟨nb,0,none⟩) J3 rfl rfl) ?_;refine zFH rfl rfl ?_
 refine bS kU (enc:=encI) (au w) 1 zd (0:Int) rfl rfl rfl zd rfl ?_;intro v0 w0 O0 a0 a1 a2;refine zh ?_
 refine ae rfl rfl (⟨a0.sl,a1.ext,fun B O hR=>a0.free zd a2 hR⟩)
def sI(g:Gr)(m:Int)(l:List Nat):List Int:=(l.filter fun j=>cK (nth g.ls (j-1)).1 (nth g.ls (j-1)).2.1 m).map fun(j:Nat)=>(j:Int)
theorem BR{g:Gr}{m:Int}{l:List Nat}{j:Nat}(h:j<l.length):sI g m (l.take (j+1))=sI g m (l.take j)++if cK (nth g.ls (nth l j-1)).1 (nth g.ls (nth l j-1)).2.1 m=true then [((nth l j:Nat):Int)]else []:=by
 unfold sI;rw[aR h,Bh,yr,FJ]
 split<;>rfl
theorem Dz(g:Gr)(m:Int)(l:List Nat):(sI g m l).length<=l.length:=by unfold sI;rw[List.length_map];exact Gi _ _
theorem step_ret(w:ow)(nb:Nat)(se:Bool)(g:Gr)(s:List Int)(sv:ix)(m:Int)(h:NfD w nb se g)(hs:Sl encI 1 w sv s)(hw:WF g)(h0:0 < g.ks.length)(ht:Tot g)(hp:inP g s)(hsl:s.length ≤ 1000)(hll:g.ls.length ≤ 999):
  Js zI 144 [nP nb, sv, nI m] w fun v w' => Sl encI 1 w' v (cM se g s m) ∧ J6 w w' ∧ ∀(B:Nat) (O:Nat → Nat), GT B O w → IJ O w' v := by
 have hbnd := h
 obtain⟨nr, tr, lv, kv, xs, l1, l2, hr, hm1, hm2, hn1, hn2⟩ := h.ex
 have hraw:∀q, q ≤ s.length → ((if se = true then [(0:Int)]else []) ++ (s.take q).flatMap fun p => sI g m (cO g p.toNat)).length ≤ 1 + q * 999 := fun q hq => by
  have h1 := FL (se := se) hw h0 ht (m := m) (s := s.take q) fun x hx => hp x (JD hx)
  have h2:(s.take q).length * g.ls.length ≤ q * 999 := Nat.mul_le_mul (by simp; omega) hll
  exact J1 h1 (by omega)
 refine rj func144 ntmps144 rfl rfl ?_
 refine pN ?_
 refine ox ?_
 refine zv (uh rfl) ?_
 refine oz ?_
 refine az ?_
 refine pN ?_
 refine pN ?_
 refine ox ?_
 refine zv (rf rfl) ?_
 refine zv (ec (q := some ⟨nb, 0, none⟩) J3 rfl rfl) ?_
 refine oz ?_
 refine az ?_
 refine aS rfl rfl ?_
 refine Fu ?_
 refine az ?_
 refine pN ?_
 refine ox ?_
 refine zv (uh rfl) ?_
 refine oz ?_
 refine az ?_
 refine pN ?_
 refine pN ?_
 refine ox ?_
 refine zv (rf rfl) ?_
 refine zv (aq rfl) ?_
 refine zv (RV.fa rfl) ?_
 refine zv (RV.ld hr.c0 rfl) ?_
 refine oz ?_
 refine az ?_
 refine iK (fun z:ix×(Nat → Nat)×World => [(0, nP nb), (1, sv), (2, nI m), (7, z.1)]) (fun z:ix×(Nat → Nat)×World => z.2.2) (fun z:ix×(Nat → Nat)×World => uY encI 3 1 z.2.1 z.2.2 1 z.1 (if se = true then [0]else []) ∧ rm (fun q => q = 1) (fun _ => 0) w z.2.1 z.2.2 ∧ GT w.heap.size z.2.1 z.2.2) ?_ ?_
 ·intro hN
  refine zC ?_ ?_
  ·intro hse
   have e0:([]:List Int).length = 0 := rfl
   refine ox ?_
   refine zv (rf rfl) ?_
   refine Ib kU (xK encI 3 1 (fun _ => 0) w 1) (au w) ((0:Int)) (fun _ => rfl) rfl rfl rfl (by simp[pc]) (by omega) (by omega) (by omega) (by decide) rfl rfl ?_
   intro v1 w1 O1 hrow1 hU1 hR1
   refine zv (uh rfl) ?_
   refine oz ?_
   exact eD (hN ((v1, O1, w1)) (⟨by rw[if_pos hse]; exact hrow1, hU1, hR1⟩)) ⟨rfl, rfl, rfl, rfl, trivial⟩ rfl
  ·intro hse
   refine Fu ?_
   exact eD (hN ((nS, fun _ => 0, w)) (⟨by rw[if_neg (by rw[hse]; decide)]; exact xK _ _ _ _ _ _, GZ (by decide) _ _, au w⟩)) ⟨rfl, rfl, rfl, rfl, trivial⟩ rfl
 rintro⟨v1, O1, w1⟩ ⟨hrow1, hU1, hR1⟩
 dsimp only at hrow1 hU1 hR1 ⊢
 obtain⟨hd, hhd⟩:∃hd, hd = (if se = true then [(0:Int)]else []) := ⟨_, rfl⟩
 rw[← hhd]at hrow1 hraw
 refine az ?_
 refine pN ?_
 refine pN ?_
 refine ox ?_
 refine zv (rf rfl) ?_
 refine zv (aM hs.sh ln rfl) ?_
 refine zv (rf rfl) ?_
 refine oz ?_
 refine az ?_
 refine Db ?_
 refine zlp (fun z:Nat×ix×(Nat → Nat)×World => [(0, nP nb), (2, nI m), (7, z.2.1), (21, sv), (22, nI s.length), (23, nI z.1)]) (fun z => z.2.2.2) (fun z => z.1 ≤ s.length ∧ uY encI 3 1 z.2.2.1 z.2.2.2 1 z.2.1 (hd ++ (s.take z.1).flatMap fun p => sI g m (cO g p.toNat)) ∧ rm (fun q => q = 1) (fun _ => 0) w z.2.2.1 z.2.2.2 ∧ GT w.heap.size z.2.2.1 z.2.2.2) (fun z => s.length - z.1) (0, v1, O1, w1) (⟨ps _, by simpa using hrow1, hU1, hR1⟩) ?_
 rintro⟨q, v2, O2, w2⟩ ⟨hq, hrow2, hU2, hR2⟩
 dsimp only at hq hrow2 hU2 hR2 ⊢
 have hlen2 := hraw q hq
 refine pN ?_
 refine ox ?_
 refine zv (JR rfl rfl) ?_
 refine oz ?_
 refine az ?_
 refine pN ?_
 refine zC ?_ ?_
 ·intro hlt
  replace hlt:q < s.length := by have := of_decide_eq_true hlt; omega
  have hpq := hp _ (aO hlt)
  obtain⟨pn, hpn⟩:∃pn:Nat, nth s q = (pn:Int) := ⟨(nth s q).toNat, by omega⟩
  have hpl:pn ≤ g.ls.length := by have := hpq.2; rw[hpn]at this; simpa using this
  obtain⟨nv1, hnv1, hsn⟩ := hn1 pn hpl
  have hnl := yd hw ht (pr hw h0 hpl)
  have hs2 := hs.ext hU2.ext
  have hm12 := oX hm1 hU2.ext
  have m2:w2.cell? (adr sv 1 q) = some (nI (nth s q)) := by have := hs2.cell (j := 0) hlt rfl; rwa[ao]at this
  rw[hpn]at m2
  have hr2 := hr.ext hU2.ext
  have hsn2 := hsn.ext hU2.ext
  have c3 := hr2.c3
  refine Fu ?_
  refine az ?_
  refine pN ?_
  refine Db ?_
  refine pN ?_
  refine ox ?_
  refine zv (tG (by first | exact hs2) ln (qy _) rfl rfl _ rfl (by omega)) ?_
  refine zv (RV.ld m2 rfl) ?_
  refine zv (uh rfl) ?_
  refine oz ?_
  refine az ?_
  refine pN ?_
  refine ox ?_
  refine zv (rf rfl) ?_
  refine zv (aq rfl) ?_
  refine zv (RV.fa rfl) ?_
  refine zv (RV.ld c3 rfl) ?_
  refine zv (rf rfl) ?_
  refine zv (C2 (u := nv1) hm12 sx qp (Da _) (pn:Int) rfl rfl rfl (by rw[hnv1]; rfl)) ?_
  refine zv (aM hsn.sh ln rfl) ?_
  refine zv (rf rfl) ?_
  refine oz ?_
  refine az ?_
  refine Db ?_
  refine zlp (fun y:Nat×ix×(Nat → Nat)×World => [(0, nP nb), (2, nI m), (7, y.2.1), (21, sv), (22, nI s.length), (23, nI q), (32, nv1), (33, nI (cO g pn).length), (34, nI y.1)]) (fun y => y.2.2.2) (fun y => y.1 ≤ (cO g pn).length ∧ uY encI 3 1 y.2.2.1 y.2.2.2 1 y.2.1 ((hd ++ (s.take q).flatMap fun p => sI g m (cO g p.toNat)) ++ sI g m ((cO g pn).take y.1)) ∧ rm (fun q => q = 1) (fun _ => 0) w y.2.2.1 y.2.2.2 ∧ GT w.heap.size y.2.2.1 y.2.2.2) (fun y => (cO g pn).length - y.1) (0, v2, O2, w2) (⟨ps _, by simpa[sI]using hrow2, hU2, hR2⟩) ?_
  rintro⟨j, v3, O3, w3⟩ ⟨hj, hrow3, hU3, hR3⟩
  dsimp only at hj hrow3 hU3 hR3 ⊢
  have hsn3 := hsn.ext hU3.ext
  have hr3 := hr.ext hU3.ext
  have hfl := Dz g m ((cO g pn).take j)
  have hlapp:((hd ++ (s.take q).flatMap fun p => sI g m (cO g p.toNat)) ++ sI g m ((cO g pn).take j)).length = (hd ++ (s.take q).flatMap fun p => sI g m (cO g p.toNat)).length + (sI g m ((cO g pn).take j)).length := vX
  have htl:((cO g pn).take j).length ≤ j := by simp; omega
  refine pN ?_
  refine ox ?_
  refine zv (JR rfl rfl) ?_
  refine oz ?_
  refine az ?_
  refine pN ?_
  refine zC ?_ ?_
  ·intro hlt2
   replace hlt2:j < (cO g pn).length := by have := of_decide_eq_true hlt2; omega
   have hjn:1 ≤ nth (cO g pn) j ∧ nth (cO g pn) j ≤ g.ls.length := by
    obtain⟨k, hk, hjk⟩ := (nc hw h0 hpl (nth (cO g pn) j)).1 (aO hlt2)
    exact hw.lv k _ (hk.lt hw (pr hw h0 hpl)) hjk
   have hft := BR (g := g) (m := m) hlt2
   have m3:w3.cell? (adr nv1 1 j) = some (nI ((nth (cO g pn) j:Nat):Int)) := by have := hsn3.cell (j := 0) hlt2 rfl; rwa[ao]at this
   generalize nth (cO g pn) j = to at *
   have c1 := hr3.c1
   have hls3 := hr3.ls
   refine Fu ?_
   refine az ?_
   refine pN ?_
   refine Db ?_
   refine pN ?_
   refine ox ?_
   refine zv (tG (by first | exact hsn3) ln (qy _) rfl rfl _ rfl (by omega)) ?_
   refine zv (RV.ld m3 rfl) ?_
   refine zv (uh rfl) ?_
   refine oz ?_
   refine az ?_
   refine pN ?_
   refine ox ?_
   refine zv (rf rfl) ?_
   refine zv (aq rfl) ?_
   refine zv (RV.fa rfl) ?_
   refine zv (RV.ld c1 rfl) ?_
   refine zv (rf rfl) ?_
   refine zv (RV.sub rfl rfl (uw (by omega))) ?_
   rw[show((to:Nat):Int) - 1 = ((to - 1:Nat):Int)from by omega]
   refine zv (tG hls3 JI (Jn _) rfl rfl (to - 1) rfl (by omega)) ?_
   refine zv (ai (us := rZ (nth g.ls (to - 1))) (fun j u hu => hls3.cell (by omega) hu) (isAgg190 _) (Jn _) rfl) ?_
   refine zv (rf rfl) ?_
   refine zc call171 (Ay (nth g.ls (to - 1)).1 (nth g.ls (to - 1)).2.1 m (nth g.ls (to - 1)).2.2 w3) ?_
   rintro v w4 ⟨rfl, hE4⟩
   have hU4 := hU3.trans (aa (by decide) O3 hE4)
   have hR4 := hR3.ext hE4
   have hrow4:uY encI 3 1 O3 w4 1 v3 _ := hrow3.upd (aa (S := fun _ => False) (fun h => h) O3 hE4) (by decide) fun h => h
   refine oz ?_
   refine az ?_
   refine zC ?_ ?_
   ·intro hyes
    rw[if_pos hyes]at hft
    refine ox ?_
    refine zv (rf rfl) ?_
    refine zv (rf rfl) ?_
    refine Ib kU hrow4 hR4 (((to:Nat):Int)) (fun _ => rfl) rfl rfl rfl (by simp[pc]) (by omega) (by omega) (by omega) (by decide) rfl rfl ?_
    intro v5 w5 O5 hrow5 hU5 hR5
    refine zv (uh rfl) ?_
    refine oz ?_
    refine eh ?_
    refine az ?_
    refine ox ?_
    refine zv (zl rfl rfl (uw (by omega))) ?_
    refine zv (rf rfl) ?_
    refine oz ?_
    refine zxd (j + 1, v5, O5, w5) (⟨hlt2, by dsimp only; rw[hft, ← C9]; exact hrow5, hU4.trans hU5, hR5⟩)
   ·intro hno
    rw[if_neg (by rw[hno]; decide), sQ]at hft
    refine Fu ?_
    refine eh ?_
    refine az ?_
    refine ox ?_
    refine zv (zl rfl rfl (uw (by omega))) ?_
    refine zv (rf rfl) ?_
    refine oz ?_
    refine zxd (j + 1, v3, O3, w4) (⟨hlt2, by dsimp only; rw[hft]; exact hrow4, hU4, hR4⟩)
  ·intro hge2
   obtain rfl:j = (cO g pn).length := by have := of_decide_eq_false hge2; omega
   rw[su]at hrow3
   have htk:(s.take (q + 1)).flatMap (fun p => sI g m (cO g p.toNat)) = (s.take q).flatMap (fun p => sI g m (cO g p.toNat)) ++ sI g m (cO g pn) := by rw[aR hlt, Dd, hpn]; simp
   refine JB ?_
   refine cT ?_
   refine cT ?_
   refine eY ?_
   refine eh ?_
   refine az ?_
   refine ox ?_
   refine zv (zl rfl rfl (uw (by omega))) ?_
   refine zv (rf rfl) ?_
   refine oz ?_
   refine zxd (q + 1, v3, O3, w3) (⟨hlt, by dsimp only; rw[htk, ← C9]; exact hrow3, hU3, hR3⟩)
 ·intro hge
  obtain rfl:q = s.length := by have := of_decide_eq_false hge; omega
  rw[su]at hrow2 hlen2
  have hmul:s.length * 999 ≤ 999000 := by omega
  refine JB ?_
  refine cT ?_
  refine cT ?_
  refine eY ?_
  refine az ?_
  refine pN ?_
  refine ox ?_
  refine zv (rf rfl) ?_
  refine zc call160 (kh hR2 hrow2 (by decide) (by omega)) ?_
  rintro _ w3 ⟨hrow3, hU3, hR3⟩
  refine oz ?_
  refine az ?_
  refine pN ?_
  refine ox ?_
  refine zv (rf rfl) ?_
  refine zc call161 (eW hR3 hrow3 (by decide) (by rw[ei]; omega)) ?_
  rintro v4 w4 ⟨hrow4, hU4, hR4⟩
  have e:Lib.compact (gT (hd ++ s.flatMap fun p => sI g m (cO g p.toNat))) = cM se g s m := by rw[hhd]; rfl
  rw[e]at hrow4
  refine zv (uh rfl) ?_
  refine oz ?_
  refine az ?_
  refine Kk ?_
  refine ae rfl rfl (⟨hrow4.sl, ((hU2.trans hU3).trans hU4).ext, fun B O hR => hrow4.free (by decide) hR4 hR⟩)
theorem kd(w:ow)(nb:Nat)(se:Bool)(g:Gr)(s:List Int)(sv:ix)(h:NfD w nb se g)(hs:Sl encI 1 w sv s)(hp:inP g s)(he:∀q,g.en q<=40):
  Js zI 111 [nP nb,sv] w fun v w'=>v=.int .u64 ((dp g s:Nat):Int)/\w'=w:=by
 obtain⟨nr,tr,lv,kv,xs,l1,l2,hr,b3,a9,b2,a8⟩:=h.ex;have a4:∀p,jD g p<2^40:=fun p=>ke he _ 0 zd
 have b1:=hs.len_le;refine rj func111 ntmps111 rfl rfl ?_;refine zg ?_;refine zvG (Ag (q:=some ⟨nb,0,none⟩) J3 rfl rfl) ?_;refine zTG rfl rfl ?_;refine zvG (aM hs.sh ln rfl) ?_;refine zlp (fun z:Nat=>[(0,nP nb),(5,.int .u64 ((dp g (s.take z):Nat):Int)),(10,sv),(11,nI s.length),(12,nI z)]) (fun z=>w) (fun z=>z<=s.length/\dp g (s.take z)<2^40) (fun z=>s.length-z) 0 (⟨ps _,by rw[K0];show(0:Nat)<2^40;decide⟩) ?_;rintro q ⟨hq,a1⟩;refine zg ?_;refine zC ?_ ?_
 ·intro a0;replace a0:q<s.length:=by have:=of_decide_eq_true a0;omega
  have a6:=hp _ (aO a0);obtain⟨pn,a2⟩:∃pn:Nat,nth s q=(pn:Int):=⟨(nth s q).toNat,by omega⟩
  have a7:pn<=g.ls.length:=by have:=a6.2;rw[a2]at this;simpa using this
  have a':=a8 pn a7;have m2:w.cell? (adr sv 1 q)=some (nI (nth s q)):=by have:=hs.cell (j:=0) a0 rfl;rwa[ao]at this
  rw[a2]at m2;have c4:=hr.c4;have a5:=a4 pn;have a3:dp g (s.take (q+1))=dp g (s.take q) ||| jD g pn:=by
   unfold dp;rw[aR a0,J0,a2];rfl
  refine zg ?_;refine zv (tG (by first|exact hs) ln (qy _) rfl rfl _ rfl zo) ?_
  refine zvG (RV.ld m2 rfl) ?_;refine zvG (RV.ld c4 rfl) ?_
  refine zv (C2 (u:=.int .u64 ((jD g pn:Nat):Int)) a9 underlying181 qp (zeroValue28 _) (pn:Int) rfl rfl rfl (by rw[a'];rfl)) ?_;refine zvG (uS (a:=dp g (s.take q)) (b:=jD g pn) rfl rfl rfl rfl (by show _<=(18446744073709551615:Int);omega) (by show _<=(18446744073709551615:Int);omega)) ?_
  refine zvG (zl rfl rfl (uw zo)) ?_;rw[<-a3];refine zxd (q+1) (⟨a0,by rw[a3];exact JT a1 a5⟩)
 intro b0;obtain rfl:q=s.length:=by have:=of_decide_eq_false b0;omega
 rw[su];refine zg ?_;refine ae rfl rfl (⟨rfl,rfl⟩)
mutual
theorem um:∀(t:Nd) (wi:Bool),bH t wi=true->zA t=true/\fG t=true
 |.mk k c l,wi,h=>by
  unfold bH at h;simp only[J5]at h;obtain⟨h1,h2⟩:=h;obtain⟨i1,i2⟩:=qw l h2;unfold zA fG;rw[i1,i2,K5,K5];have hl:l.isEmpty=true↔l.length=0:=by cases l<;>simp
  rcases dm h1 with⟨rfl,hn,_⟩|⟨rfl,hn,_⟩|⟨rfl,hn,_⟩|⟨rfl,hn,_⟩|⟨rfl,hn,_⟩|⟨rfl,hn,_⟩|⟨rfl,hn,_⟩|⟨rfl,hn,_⟩|⟨rfl,hn,_⟩|⟨rfl,hn,_⟩
  ·exact⟨by rw[if_neg zd];exact hl.2 hn,by rw[if_neg zd,if_neg zd]⟩
  ·exact⟨by rw[if_neg zd];exact hl.2 hn,by rw[if_neg zd,if_neg zd]⟩
  ·exact⟨by rw[if_neg zd];exact hl.2 hn,by rw[if_neg zd,if_neg zd]⟩
  ·exact⟨by rw[if_neg zd];exact hl.2 hn,by rw[if_neg zd,if_neg zd]⟩
  ·have:l.isEmpty=false:=by cases l;simp at hn;rfl
   exact⟨by rw[if_pos zd,this];rfl,by rw[if_pos rfl,this];rfl⟩
  ·have:l.isEmpty=false:=by cases l;simp at hn;rfl
   exact⟨by rw[if_pos zd,this];rfl,by rw[if_neg zd,if_neg zd]⟩
  ·have:l.isEmpty=false:=by cases l;simp at hn;rfl
   exact⟨by rw[if_pos zd,this];rfl,by rw[if_neg zd,if_pos zd,hn];rfl⟩
  ·have:l.isEmpty=false:=by cases l;simp at hn;rfl
   exact⟨by rw[if_pos zd,this];rfl,by rw[if_neg zd,if_pos zd,hn];rfl⟩
  ·have:l.isEmpty=false:=by cases l;simp at hn;rfl
   exact⟨by rw[if_pos zd,this];rfl,by rw[if_neg zd,if_pos zd,hn];rfl⟩
  exact⟨by rw[if_neg zd];exact hl.2 hn,by rw[if_neg zd,if_neg zd]⟩
theorem qw:∀(l:List Nd),eJ l=true->jO l=true/\bR l=true
 |[],_=>⟨rfl,rfl⟩
 |t::r,h=>by
  rw[eJ,J5]at h;obtain⟨a1,a2⟩:=um t true h.1;obtain⟨b1,b2⟩:=qw r h.2;unfold jO bR;rw[a1,a2,b1,b2];exact⟨rfl,rfl⟩
end
theorem fO{t:Nd}(h:bj t=true):zA t=true/\fG t=true/\nsz t<=2000:=by
 unfold bj at h;simp only[J5,decide_eq_true_eq]at h;obtain⟨h1,h2⟩:=um t false h.2;exact⟨h1,h2,h.1⟩
theorem jH:∀ {l:List Nd},(∀t∈l,bj t=true)->jO l=true/\bR l=true
 |[],_=>⟨rfl,rfl⟩
 |t::r,h=>by
  obtain⟨a1,a2,_⟩:=fO (h t (by simp));obtain⟨b1,b2⟩:=jH (l:=r) fun x hx=>h x (by simp[hx])
  unfold jO bR;rw[a1,a2,b1,b2];exact⟨rfl,rfl⟩
theorem yC:∀(xs:List Nd) (i:Nat) (g:Gr),WF g->0<g.ks.length->(∀k,g.en k<=i)->∀k,(bY xs i g).en k<=i+xs.length
 |[],i,g,_,_,h,k=>by have:=h k;show g.en k<=_;omega
 |x::r,i,g,hw,h0,h,k=>by
  obtain⟨h1,h2,h3⟩:=lL hw h0 x i
  have:=yC r (i+1) (mZ x i g) h1 zo (fun q=>by
   rw[rF hw h0]
   split
   ·omega
   split
   ·have:=h q;omega
   omega) k
  simp only[vO];show(bY r (i+1) (mZ x i g)).en k<=_;omega
theorem A9(xs:List Nd)(k:Nat):(jZ xs).en k<=xs.length:=by
 have:=yC xs 0 g00 qs zd (fun q=>by
  unfold Gr.en g00
  by_cases e:q=0
  ·subst e;rw[ar];exact pZ _
  rw[eS (by simp;omega)];exact pZ _) k
 rw[Nat.zero_add]at this;exact this
theorem FU(xs:List Nd):Tot (jZ xs):=uF xs 0 g00 qs zd (by simp[Tot,vh,g00])
theorem qe{xs:List Nd}(h1:jO xs=true)(h2:bR xs=true):(jZ xs).ls.length=bh xs:=by
 have:=mC xs 0 g00 h1 h2;unfold jZ;rw[this];simp[g00]
theorem Bd.mark{g:Gr}{M:Nat}(h:Bd g M){a e:Nat}(ha:a<g.ks.length):Bd (g.mark a e) M:=⟨by rw[cz];exact h.ks,h.ls,fun k=>by rw[nY ha];exact h.fr k,fun k=>by rw[nX ha];exact h.lv k⟩
theorem FQ{g:Gr}(h:WF g)(h0:0<g.ks.length)(x:Nd)(i:Nat){M:Nat}(hM:Bd g M):Bd (mZ x i g) (M+3+(9*nsz x-1)):=by
 have e1:=aG g;have e2:=cz g.knot g.ks.length (i+1);have e3:=aG (g.knot.mark g.ks.length (i+1));have hl:=dU g i;exact gz x _ _ _ _ (eO h h0 i).1 zo zo (((hM.knot.mark zo).knot).free zo)
theorem zT{xs:List Nd}{q:Nat}{g:Gr}(h:q<xs.length):bY (xs.drop q) q g=bY (xs.drop (q+1)) (q+1) (mZ (nth xs q) q g):=by
 rw[jQ h,bY]
theorem GW:Bd g00 1:=by
 refine⟨zd,zd,fun k=>?_,fun k=>?_⟩
 ·unfold Gr.fr g00
  by_cases e:k=0
  ·subst e;rw[ar];decide
  rw[eS (by simp;omega)];decide
 unfold Gr.lv g00
 by_cases e:k=0
 ·subst e;rw[ar];decide
 rw[eS (by simp;omega)];decide
def dP(ts:List Nd):Int:=if 40<ts.length then 3 else if ts.any (fun t=>!bj t)=true then 1 else if 1000<1+bh ts then 7 else 0
theorem C8(t:Nd)(x:N3)(w:ow)(h:Nt (fun _=>0) w t x):Js zI 102 [nv x] w fun v w'=>v=.bool (!bj t)/\J6 w w':=by
 have hx:=h.ones;have a3:=h.one;refine rj func102 ntmps102 rfl rfl ?_;refine zh ?_;refine aE (au w) 1 zo rfl rfl ?_;intro xb w1 O1 a1 a4 a5 a0;refine zh ?_;refine zv (ai (us:=aY x) a1.cellsAdd (Ji _) (DH _) rfl) ?_;refine zc call99 (fN t x w1 (h.ext a0)) ?_;rintro v w2 ⟨rfl,a2⟩;refine zh ?_;refine ae rfl rfl (⟨rfl,a0.trans a2⟩)
def Bb(nb:Nat)(e:Int):ix:=.pointer (if e=0 then some ⟨nb,0,none⟩else none)
theorem FV(se:Bool)(ts:List Nd)(xs:List N3)(sv:ix)(w:ow)(hs:Sl aY 3 w sv xs)(hl:ts.length=xs.length)(hk:∀i,i<xs.length->Nt (fun _=>0) w (nth ts i) (nth xs i)):
  Js zI 62 [.bool se,sv] w fun v w'=>∃nb,v=.tuple #[Bb nb (dP ts),nI (dP ts)]/\J6 w w'/\(dP ts=0->NfD w' nb se (jZ ts)):=by
 refine rj func62 ntmps62 rfl rfl ?_;refine zh ?_
 by_cases g4:40<ts.length
 ·have hM:dP ts=3:=by unfold dP;rw[if_pos g4]
  rw[hM];refine zTH rfl ((decide_eq_true zo)) ?_;refine bQ rfl rfl rfl (⟨0,rfl,sP _,fun h=>by cases h⟩)
 have hq:∀i,i<xs.length->∀w',J6 w w'->Js zI 102 ([nv (nth xs i)]++(#[]:Array ix).toList) w' fun v w''=>v=.bool (!bj (nth ts i))/\J6 w' w'':=fun i hi w' hE=>C8 _ _ w' ((hk i hi).ext hE)
 have j2:anyN (fun i=>!bj (nth ts i)) xs.length=ts.any (fun t=>!bj t):=by rw[<-hl];exact iG (p:=fun t=>!bj t)
 refine zFH rfl ((decide_eq_false zo)) ?_;refine zc call101 (cW call102 #[] xs sv (fun i=>!bj (nth ts i)) w hs hq) ?_
 rw[j2];rintro v w1 ⟨rfl,k1⟩;refine zh ?_
 cases b0:ts.any (fun t=>!bj t)with
 |true=>
  have hM:dP ts=1:=by unfold dP;rw[if_neg g4,if_pos b0]
  rw[hM];refine zTH rfl rfl ?_;refine bQ rfl rfl rfl (⟨0,rfl,k1,fun h=>by cases h⟩)
 |false=>
  have a6:∀t∈ts,bj t=true:=fun t ht=>by
   have:=List.any_eq_false.1 b0 t ht;simpa using this
  obtain⟨e6,b7⟩:=jH a6;have hR:∀q,q<ts.length->bj (nth ts q)=true:=fun q hq=>a6 _ (aO hq)
  have p0:=hs.ext k1;refine zFH rfl rfl ?_;refine zlp (fun z:Nat×ow=>[(0,.bool se),(1,sv),(6,nI ((1+bh (ts.take z.1):Nat):Int)),(23,sv),(24,nI xs.length),(25,nI z.1)]) (fun z=>z.2) (fun z=>z.1<=ts.length/\J6 w z.2/\bh (ts.take z.1)<=z.1*2000) (fun z=>ts.length-z.1) (0,w1) (⟨ps _,k1,by simp[bh]⟩) ?_;rintro⟨q,w2⟩ ⟨m',b5,l0⟩;dsimp only at m' b5 l0 ⊢;have k9:=hs.ext b5;refine zh ?_;refine zC ?_ ?_
  ·intro a0;replace a0:q<ts.length:=dT a0;have a7:=(hk q zo).ext b5;have i6:=a7.one;have p3:=lQ (nth ts q);have m7:=(fO (hR q a0)).2.2;have m6:=ir ts q a0;refine zh ?_;refine zv (ai (us:=aY (nth xs q)) (fun j u hu=>k9.cell zo hu) (Ji _) (DH _) rfl) ?_;refine ax (au w2) 1 zo (JV _) rfl ?_;intro yb w3 O3 j1 j4 l6 p4;refine zsb (us:=#[nI (nth xs q).1,nI (nth xs q).2.1,(nth xs q).2.2]) j1 (DH _) (cn i6) ?_;have l8:J6 w2 (w3.setRow yb #[nI (nth xs q).1,nI (nth xs q).2.1,(nth xs q).2.2]):=(j4.trans (tp zd j1.tag rfl)).ext;have o0:=j1.setRow (us:=#[nI (nth xs q).1,nI (nth xs q).2.1,(nth xs q).2.2]);generalize w3.setRow yb #[nI (nth xs q).1,nI (nth xs q).2.1,(nth xs q).2.2]=w4 at *;refine zh ?_;refine zv (ai (us:=aY (nth xs q)) o0.cellsAdd (Ji _) (DH _) rfl) ?_;refine zc call103 (qj (nsz (nth ts q)) zo (nth ts q) (pZ _) (nth xs q) w4 (a7.ext l8)) ?_;rintro v w5 ⟨rfl,l7⟩;refine zh ?_;rw[show((1+bh (ts.take q):Nat):Int)+((dh (nth ts q):Nat):Int)=((1+bh (ts.take (q+1)):Nat):Int)from by rw[m6];omega];refine zxd (q+1,w5) (⟨a0,(b5.trans l8).trans l7,by dsimp only;omega⟩)
  intro i8;obtain rfl:q=ts.length:=dF i8;rw[su]at l0 ⊢;refine zh ?_
  by_cases e9:1000<1+bh ts
  ·have hM:dP ts=7:=by unfold dP;rw[if_neg g4,if_neg (by rw[b0];decide),if_pos e9]
   rw[hM];refine zTH rfl ((decide_eq_true zo)) ?_;refine bQ rfl rfl rfl (⟨0,rfl,b5,fun h=>by cases h⟩)
  have hM:dP ts=0:=by unfold dP;rw[if_neg g4,if_neg (by rw[b0];decide),if_neg e9]
  rw[hM];refine zFH rfl ((decide_eq_false zo)) ?_;refine bq kvI id (au w2) 1 zd rfl ?_;intro nr w3 O3 n4 j4 l6;refine bq kvI tvU l6 2 zd rfl ?_;intro tr w4 O4 n3 l4 o4;have h':=n4.upd l4 zd zd;refine zv (aF IA (zeroValue185 _) rfl (by first|rfl|(simp only[yJ,DA];rfl)) rfl rfl) ?_;refine aE o4 3 zo rfl rfl ?_;intro nb w5 O5 n' j3 o3 l7;have i5:=h'.upd j3 zd zd;have i2:=n3.upd j3 zd zd;have f6:rm (fun q=>1<=q) (fun _=>0) w2 O5 w5:=((j4.mono (fun _ h=>zo) zo).trans (l4.mono (fun _ h=>zo) zo)).trans (j3.mono (fun _ h=>zo) zo);have h5:NfO O5 w5 3 nb se ⟨[],[]⟩ (.map (some nr)) (.map (some tr)) (nS) (nS) []:=⟨n',xK _ _ _ _ _ _,⟨xK _ _ _ _ _ _,rfl,fun k hk=>absurd hk (oD k),fun k hk=>absurd hk (oD k),fun k hk=>absurd hk (oD k)⟩⟩
  refine zh ?_;refine zc Kq (iZ w2.heap.size O5 w5 3 nb se ⟨[],[]⟩ _ _ _ _ _ zd o3 h5 zd) ?_
  rintro _ w6 ⟨rfl,O6,m0,m2,l9,o1,o2,h6⟩;have o':=k9.ext f6.ext;refine zh ?_;refine zvH (aM hs.sh underlying81 rfl) ?_;refine zlp (fun z:Nat×(Nat->Nat)×World×Gr×ix×ix×List K3=>[(9,nP nb),(43,sv),(44,nI xs.length),(45,nI z.1)]) (fun z=>z.2.2.1) (fun z=>z.1<=ts.length/\rm (fun q=>3<=q) O5 w5 z.2.1 z.2.2.1/\GT w2.heap.size z.2.1 z.2.2.1/\NfO z.2.1 z.2.2.1 3 nb se z.2.2.2.1 (.map (some nr)) (.map (some tr)) z.2.2.2.2.1 z.2.2.2.2.2.1 z.2.2.2.2.2.2/\WF z.2.2.2.1/\0<z.2.2.2.1.ks.length/\Bd z.2.2.2.1 (1+z.1*18010)/\bY ts 0 g00=bY (ts.drop z.1) z.1 z.2.2.2.1) (fun z=>ts.length-z.1) (0,O6,w6,g00,m0,m2,l9) (⟨ps _,o1,o2,h6,qs,(show 0<g00.ks.length by decide),(show Bd g00 (1+0*18010)from GW),rfl⟩) ?_;rintro⟨q,O7,w7,g,g1,g9,g5⟩ ⟨m9,f5,c9,h7,b6,f9,f3,b3⟩;dsimp only at m9 f5 c9 h7 b6 f9 f3 b3 ⊢;have c7:=f6.trans (f5.mono (S':=fun q=>1<=q) (fun q h=>zo) zo);have k2:=b5.trans c7.ext;refine zh ?_;refine zC ?_ ?_
  ·intro a0;replace a0:q<ts.length:=dT a0;rw[zT a0]at b3;have m8:=hs.ext k2;have a7:Nt O7 w7 (nth ts q) (nth xs q):=((hk q zo).ext b5).upd c7;have i6:=a7.one;have m7:=(fO (hR q a0)).2.2;have h3:=(fO (hR q a0)).2.1;obtain⟨T,j7,hT⟩:=c9.bound;refine zh ?_;refine zv (ai (us:=aY (nth xs q)) (fun j u hu=>m8.cell zo hu) (Ji _) (DH _) rfl) ?_;refine ax c9 T zo (JV _) rfl ?_;intro yb w8 O8 g2 d2 l5 o5;refine zh ?_;refine zsb (us:=#[nI (nth xs q).1,nI (nth xs q).2.1,(nth xs q).2.2]) g2 (DH _) (cn i6) ?_;have f4:rm (fun j=>j=T) O8 w8 O8 (w8.setRow yb #[nI (nth xs q).1,nI (nth xs q).2.1,(nth xs q).2.2]):=tp zo g2.tag rfl;obtain⟨g3,n7⟩:=Gt j7 hT d2 f4 (g2.setRow (us:=#[nI (nth xs q).1,nI (nth xs q).2.1,(nth xs q).2.2]));generalize w8.setRow yb #[nI (nth xs q).1,nI (nth xs q).2.1,(nth xs q).2.2]=w9 at *;clear g2 d2 l5 o5 f4;have h9:=h7.ext g3 zd;have f8:=c9.ext g3;have c6:rm (fun q=>3<=q) O7 w7 O7 w9:=aa zo O7 g3;have e7:=a7.ext g3;have n6:=f3.ks;have e1:=aG g;refine zh ?_;refine zc Kq (iZ w2.heap.size O7 w9 3 nb se g _ _ _ _ _ zd f8 h9 zo) ?_;rintro _ g0 ⟨rfl,O10,g8,h0,a5,b2,d0,a'⟩;have m4:=a'.ks.len;have d7:g.ks.length<a5.length:=zo;have c2:=a'.c2;refine zh ?_;rw[show((q:Nat):Int)+1=((q+1:Nat):Int)from by omega];refine zvH (ah a'.ks.row.sl.sh underlying183 (sizeOf187 _) rfl rfl g.ks.length rfl d7) ?_
   refine oS a'.ks.row g.ks.length d7 2 zd (((nth a5 g.ks.length).1,(nth a5 g.ks.length).2.1,q+1):K3) (qy _) rfl zo rfl rfl rfl rfl ?_;intro d4 b8 a4;have e2:=cz g.knot g.ks.length (q+1);have k5:NfO O10 d4 3 nb se (g.knot.mark g.ks.length (q+1)) (.map (some nr)) (.map (some tr)) g8 h0 (a5.set g.ks.length ((nth a5 g.ks.length).1,(nth a5 g.ks.length).2.1,q+1)):=by
    refine⟨a'.blk.upd a4 zd zd,a'.ls.upd a4 zd zd,⟨b8,by rw[rk];omega,fun k hk=>?_,fun k hk=>?_,fun k hk=>?_⟩⟩
    ·rw[rk]at hk;rw[aT d7,nY zo]
     split
     ·rename_i e;subst e;exact(a'.ks.fr _ hk).upd a4 zo zo
     exact(a'.ks.fr k hk).upd a4 zo zo
    ·rw[rk]at hk;rw[aT d7,nX zo]
     split
     ·rename_i e;subst e;exact(a'.ks.lv _ hk).upd a4 zo zo
     exact(a'.ks.lv k hk).upd a4 zo zo
    rw[rk]at hk;rw[aT d7,Bk zo]
    split
    ·rfl
    exact a'.ks.en k hk
   have c':=d0.upd a4;have f7:=Upd.hi a4 (i:=3) zd zd;refine zh ?_;refine zc Kq (iZ w2.heap.size O10 d4 3 nb se (g.knot.mark g.ks.length (q+1)) _ _ _ _ _ zd c' k5 zo) ?_;rintro _ f' ⟨rfl,O12,m1,m3,l',c8,j',o8⟩;have e3:=aG (g.knot.mark g.ks.length (q+1));rw[show((g.knot.mark g.ks.length (q+1)).ks.length:Nat)=g.ks.length+1 from by omega];have b4:=(f3.knot.mark (a:=g.ks.length) (e:=q+1) zo).knot;refine zh ?_;refine zc call105 (gA w2.heap.size O12 f' 3 nb se (g.knot.mark g.ks.length (q+1)).knot _ _ _ _ _ 0 (g.ks.length+1) zd j' o8 zo (by have:=b4.fr 0;omega) zo) ?_;rintro _ k7 ⟨O13,g7,g',g6,j6,j9,o7⟩;have k4:NfO O13 k7 3 nb se (dw g q) (.map (some nr)) (.map (some tr)) g7 g' g6:=o7;obtain⟨m5,k8⟩:=eO b6 f9 q;have o9:=dU g q;have n8:Bd (dw g q) (1+q*18010+3):=b4.free zo;have a8:=((b2.trans f7).trans c8).trans j6;refine zh ?_;refine zvH (ai (us:=aY (nth xs q)) (fun j u hu=>((n7 j u hu).upd a8).c) (Ji _) (DH _) rfl) ?_;refine zc call106 (Br (nsz (nth ts q)) (nth ts q) (pZ _) w2.heap.size O13 k7 3 nb se (dw g q) _ _ _ _ _ (g.ks.length+1) g.ks.length (nth xs q) (1+q*18010+3) zd j9 k4 m5 zo zo n8 zo h3 (e7.upd a8)) ?_;rintro _ k6 ⟨O14,d5,d6,d3,j5,j8,o6⟩;have k3:NfO O14 k6 3 nb se (mZ (nth ts q) q g) (.map (some nr)) (.map (some tr)) d5 d6 d3:=o6;obtain⟨n2,p2,p1⟩:=lL b6 f9 (nth ts q) q;have n1:=FQ b6 f9 (nth ts q) q f3;refine zh ?_
   refine zxd (q+1,O14,k6,mZ (nth ts q) q g,d5,d6,d3) (⟨a0,((f5.trans c6).trans a8).trans j5,j8,k3,n2,by dsimp only;omega,n1.mono (by dsimp only;omega),b3⟩)
  intro i8;obtain rfl:q=ts.length:=dF i8;rw[List.drop_length,bY]at b3;have b3:jZ ts=g:=b3;have i4:=i5.upd f5 zd zd;have i1:=i2.upd f5 zd zd;have l3:∀k,g.en k<=40:=fun k=>by rw[<-b3];have:=A9 ts k;omega
  have n5:=qe e6 b7;rw[b3]at n5 ⊢;have e':Bd g 1000000:=f3.mono zo;refine zh ?_;refine zc call107 (yn w2.heap.size O7 w7 3 nb se g nr tr g1 g9 g5 [] [] 0 0 1000000 zd c9 h7 i4 i1 b6 f9 e' zd l3) ?_;rintro _ w8 ⟨v0,d2,i3,i0,h2,i9⟩;have h8:=h7.upd d2 zd zo;have l5:=c9.upd d2;have c1:=h8.c1;have n0:g.pl 0=0:=rfl;refine zh ?_;refine zvH (aM h8.ls.sl.sh JI rfl) ?_;refine zlp (fun z:Nat×ow×List (Int×ix)×List (Int×Nat)=>[(9,nP nb),(77,g1),(78,nI g.ls.length),(79,nI z.1)]) (fun z=>z.2.1) (fun z=>z.1<=g.ls.length/\rm (fun q=>q=1\/q=2) O7 w7 O7 z.2.1/\zf kvI id O7 z.2.1 1 nr z.2.2.1/\zf kvI tvU O7 z.2.1 2 tr z.2.2.2/\(∀p:Nat,p<=z.1->∃v,bx z.2.2.1 (p:Int)=some v/\Sl aX 1 z.2.1 v (cO g p)/\IJ O7 z.2.1 v)/\(∀p:Nat,p<=z.1->bx z.2.2.2 (p:Int)=some (jD g p))) (fun z=>g.ls.length-z.1) (0,w8,cJ [] 0 v0,cJ [] 0 ((fj g 0).foldl (fq g) 0)) (⟨ps _,d2,i3,i0,fun p hp=>⟨v0,by obtain rfl:p=0:=JJ.1 hp;rfl,by obtain rfl:p=0:=JJ.1 hp;exact h2,i9⟩,fun p hp=>by obtain rfl:p=0:=JJ.1 hp;rfl⟩) ?_;rintro⟨j,w9,l1,l2⟩ ⟨hj,c6,b',b9,h4,h1⟩;dsimp only at hj c6 b' b9 h4 h1 ⊢;have h9:=h7.upd c6 zd zo;have f8:=c9.upd c6;have e5:=h9.ls.sl;refine zh ?_;refine zC ?_ ?_
  ·intro a0;replace a0:j<g.ls.length:=dT a0;have n9:=b6.ls j a0;obtain⟨T,j7,hT⟩:=f8.bound;refine zh ?_;refine zv (tG e5 JI (Jn _) rfl rfl j rfl a0) ?_;refine zv (ai (us:=rZ (nth g.ls j)) (fun q u hu=>e5.cell a0 hu) (isAgg190 _) (Jn _) rfl) ?_;refine ax f8 T zo (zeroValue190 _) rfl ?_;intro yb g0 O10 b1 b2 d0 k0;refine zh ?_;refine zsa (us:=(rZ (nth g.ls j)).toArray) b1 (Jn _) ?_;have f4:rm (fun j=>j=T) O10 g0 O10 (g0.setRow yb (rZ (nth g.ls j)).toArray):=tp zo b1.tag rfl;obtain⟨d1,j0⟩:=Gt j7 hT b2 f4 (b1.setRow (us:=(rZ (nth g.ls j)).toArray));generalize g0.setRow yb (rZ (nth g.ls j)).toArray=d4 at *;clear b1 b2 d0 k0 f4;have c5:rm (fun _=>False) O7 w9 O7 d4:=aa (fun h=>h) O7 d1;have k5:=h9.ext d1 zd;have c':=f8.ext d1;have e4:=b'.upd c5 zd fun h=>h
   have d':=b9.upd c5 zd fun h=>h
   have p5:=(j0 2 _ rfl).c;refine zh ?_;refine zc call107 (yn w2.heap.size O7 d4 3 nb se g nr tr g1 g9 g5 l1 l2 ((j:Nat)+1) (nth g.ls j).2.2 1000000 zd c' k5 e4 d' b6 n9 e' zd l3) ?_;rintro _ f' ⟨v1,c8,e0,d9,d8,e8⟩;have a9:rm (fun q=>q=1\/q=2) O7 w9 O7 f':=(c5.mono (fun _ h=>h.elim) zo).trans c8;have k':g.pl (j+1)=(nth g.ls j).2.2:=by unfold Gr.pl;rw[if_neg zo];rfl
   refine zh ?_;refine zxd (j+1,f',cJ l1 ((j:Nat)+1) v1,cJ l2 ((j:Nat)+1) ((fj g (nth g.ls j).2.2).foldl (fq g) 0)) (⟨a0,c6.trans a9,e0,d9,fun p hp=>?_,fun p hp=>?_⟩)
   ·dsimp only at hp ⊢;rw[bf]
    by_cases e:p=j+1
    ·subst e;exact⟨v1,by rw[if_pos zo],by unfold cO;rw[k'];exact d8,e8⟩
    obtain⟨v,a1,a2,a3⟩:=h4 p zo;exact⟨v,by rw[if_neg zo];exact a1,a2.upd a3 a9,a3.upd a9⟩
   dsimp only at hp ⊢;rw[bf]
   by_cases e:p=j+1
   ·subst e;rw[if_pos zo];unfold jD;rw[k']
   rw[if_neg zo];exact h1 p zo
  intro i7;obtain rfl:j=g.ls.length:=dF i7;refine zh ?_;refine bQ rfl rfl rfl (⟨nb,rfl,b5.trans (c7.trans (c6.mono (S':=fun q=>1<=q) (fun q h=>zo) zo)).ext,fun _=>⟨nr,tr,g1,g9,g5,l1,l2,h9.r,b'.fgt (i':=0) rfl,b9.fgt (i':=0) rfl,fun p hp=>by obtain⟨v,a1,a2,_⟩:=h4 p hp;exact⟨v,a1,a2⟩,h1⟩⟩)
abbrev B3(b:UInt8):List ix:=[.int .u8 (b.toNat:Int)]
theorem I8:Kh zI 200 5 1 1:=⟨JG,by kernel_rfl,zd⟩
theorem D9:Kh zI 50 22 1 24:=⟨ri,by kernel_rfl,zd⟩
theorem mS:Kh zI 31 28 1 8:=⟨GY,by kernel_rfl,zd⟩
theorem qR(n:Nat):KD.wrap (n:Int)=((Gv (n % 256)).toNat:Int):=by
 rw[KC];simp only[UInt8.toNat_ofNat'];omega
theorem zK(s:List Int)(sv:ix)(w:ow)(h:Sl encI 1 w sv s)(ho:okS s)(hl:s.length<=100000):Js zI 143 [sv] w fun v w'=>v=.string (bs (uW s))/\J6 w w':=by
 refine rj func143 ntmps143 rfl rfl ?_;refine zg ?_
 refine zvG (aM h.sh ln rfl) ?_;refine zlp (fun z:Nat×ix×(Nat->Nat)×World=>[(3,z.2.1),(6,sv),(7,nI s.length),(8,nI z.1)]) (fun z=>z.2.2.2) (fun z=>z.1<=s.length/\uY B3 5 1 z.2.2.1 z.2.2.2 1 z.2.1 (uW (s.take z.1))/\(uW (s.take z.1)).length=2*z.1/\rm (fun q=>q=1) (fun _=>0) w z.2.2.1 z.2.2.2/\GT w.heap.size z.2.2.1 z.2.2.2) (fun z=>s.length-z.1) (0,nS,fun _=>0,w) (⟨ps _,xK _ _ _ _ _ _,rfl,GZ zd _ _,au w⟩) ?_
 rintro⟨q,v1,O1,w1⟩ ⟨hq,a0,a4,hU,hR⟩;dsimp only at hq a0 a4 hU hR ⊢;have h1:=h.ext hU.ext;refine zg ?_;refine zC ?_ ?_
 ·intro a1;replace a1:q<s.length:=by have:=of_decide_eq_true a1;omega
  have a7:=ho _ (aO a1);obtain⟨p,hp⟩:∃p:Nat,nth s q=(p:Int):=⟨(nth s q).toNat,by omega⟩
  have b1:p<=999:=by have:=a7.2;rw[hp]at this;simpa using this
  have m1:w1.cell? (adr sv 1 q)=some (nI (nth s q)):=by have:=h1.cell (j:=0) a1 rfl;rwa[ao]at this
  rw[hp]at m1;have a3:uW (s.take (q+1))=uW (s.take q)++[Gv (p / 256),Gv (p % 256)]:=by
   unfold uW;rw[aR a1,Dd,hp];simp
  refine zg ?_;refine zv (tG (by first|exact h1) ln (qy _) rfl rfl _ rfl zo) ?_
  refine zvG (RV.ld m1 rfl) ?_;refine zv (iM (a:=p) (b:=8) rfl rfl rfl rfl zd) ?_
  refine zvG (ns JX JW rfl) ?_;refine zv (ns JX JW rfl) ?_
  rw[qR p,qR (p / 2^8),show p / 2^8 % 256=p / 256 from by omega];refine gb JG (sizeOf5 _) (zeroValue5 _) B3 [Gv (p / 256),Gv (p % 256)] rfl rfl rfl rfl zk (by simp) rfl ?_;intro bv w2 a9 a6;have a5:rm (fun _=>False) O1 w1 O1 w2:=aa (fun h=>h) O1 a6;refine aC I8 (a0.upd a5 zd fun h=>h) (hR.ext a6) a9 (by simp) rfl rfl (by simp) (by simp[pc]) (by simp;omega) (by simp;omega) zd rfl ?_;intro v3 w3 O3 a2 a' b0;refine zg ?_;refine zvG (zl rfl rfl (uw zo)) ?_;refine zxd (q+1,v3,O3,w3) (⟨a1,by dsimp only;rw[a3];exact a2,by dsimp only;rw[a3];simp[a4];omega,(hU.trans (a5.mono (fun _ h=>h.elim) zd)).trans a',b0⟩)
 intro a8;obtain rfl:q=s.length:=by have:=of_decide_eq_false a8;omega
 rw[su]at a0;refine zg ?_;refine zvG (yL a0.sl JG JW Kv rfl) ?_;refine ae rfl rfl (⟨rfl,hU.ext⟩)
theorem Iw:cV zI 194 #[(0,1),(1,1),(2,1)]:=⟨_,underlying194,fun w=>by kernel_rfl⟩
theorem Gu:cV zI 86 #[(0,1),(1,1)]:=⟨_,underlying86,fun w=>by kernel_rfl⟩
theorem ue:KeyL zI 9 Jq:=DS Kv
abbrev xg(v:ix):List ix:=[v]
structure MkO(O:Nat->Nat)(w:ow)(i mb nb kr:Nat)(sv:ix)(vs:List ix)(S:List (List Int))(l:List (ByteArray×Int)):Prop where
 blk:CY O w i mb #[nP nb,.map (some kr),sv] 194
 map:zf Jq kvI O w (i+1) kr l
 row:uY xg 22 1 O w (i+2) sv vs
 len:vs.length=S.length
 at_:∀k,k<S.length->Sl encI 1 w (nth vs k) (nth S k)/\IJ O w (nth vs k)
 ok:∀s∈S,okS s
 key:∀s,okS s->bx l (bs (uW s))=(CI S s).map fun(k:Nat)=>(k:Int)
theorem MkO.upd{T:Nat->Prop}{O O':Nat->Nat}{w w':ow}{i mb nb kr:Nat}{sv:ix}{vs:List ix}{S:List (List Int)}{l:List (ByteArray×Int)}(h:MkO O w i mb nb kr sv vs S l)(u:rm T O w O' w')(hi:i≠0)(h1:¬T i)(h2:¬T (i+1))(h3:¬T (i+2)):MkO O' w' i mb nb kr sv vs S l:=
 ⟨h.blk.upd u hi h1,h.map.upd u zo h2,h.row.upd u zo h3,h.len,fun k hk=>⟨(h.at_ k hk).1.upd (h.at_ k hk).2 u,(h.at_ k hk).2.upd u⟩,h.ok,h.key⟩
theorem BC{S:List (List Int)}{s t:List Int}(h:CI S s=none):CI (S++[s]) t=if s=t then some S.length else CI S t:=by
 unfold CI at h ⊢;rw[JE]
 by_cases e:s=t
 ·subst e;rw[h,if_pos rfl];simp[B1]
 rw[if_neg e]
 cases hq:S.findIdx? (· == t)with
 |some k=>simp
 |none=>simp[B1,e]
theorem mA(B:Nat)(O:Nat->Nat)(w:ow)(i mb nb kr:Nat)(mv:ix)(vs:List ix)(S:List (List Int))(l:List (ByteArray×Int))(s:List Int)(sv:ix)(hi:i≠0)(hR:GT B O w)(h:MkO O w i mb nb kr mv vs S l)(hs:Sl encI 1 w sv s)(hf:IJ O w sv)(ho:okS s)(b8:s.length<=100000)(d1:S.length<=100000):
  Js zI 108 [nP mb,sv] w fun v w'=>∃O' mv' vs' l',v=nI ((CG S s:Nat):Int)/\rm (fun q=>i<=q/\q<=i+2) O w O' w'/\GT B O' w'/\MkO O' w' i mb nb kr mv' vs' (rH S s) l':=by
 have hz:¬(fun q=>i<=q/\q<=i+2) 0:=zo;have b9:=hs.shape;obtain⟨sa,sc,rfl,_⟩:=b9;refine rj func108 ntmps108 rfl rfl ?_;refine zh ?_;refine zc call143 (zK s _ w hs ho b8) ?_;rintro _ w1 ⟨rfl,b7⟩;have a':rm (fun _=>False) O w O w1:=aa (fun h=>h) O b7;have h1:=h.upd a' hi (fun h=>h) (fun h=>h) fun h=>h
 have b6:=hR.upd a';have b3:=hs.ext b7;have a9:=hf.upd a';have a4:=h.key s ho;have a7:rm (fun q=>i<=q/\q<=i+2) O w O w1:=a'.mono (fun _ h=>h.elim) hz;have c1:w1.cell? (nA mb 1)=some (.map (some kr)):=h1.blk.cell 1 rfl;have c2:w1.cell? (nA mb 2)=some mv:=h1.blk.cell 2 rfl;refine zh ?_
 cases a0:CI S s with
 |some k=>
  rw[a0]at a4;have hn:CG S s=k:=by unfold CG;rw[a0];rfl
  have hS:rH S s=S:=by unfold rH;rw[a0];rfl
  rw[hn,hS];refine zvH (cS (u:=.tuple #[kvI (k:Int),.bool true]) h1.map JH ue (Dc _) (bs (uW s)) rfl rfl rfl (by rw[a4];rfl)) ?_;refine zFH rfl rfl ?_;refine ae rfl rfl (⟨O,mv,vs,l,rfl,a7,b6,h1⟩)
 |none=>
  rw[a0]at a4;have hn:CG S s=S.length:=by unfold CG;rw[a0];rfl
  have hS:rH S s=S++[s]:=by unfold rH;rw[a0];rfl
  rw[hn,hS];have a8:=h.len;refine zvH (cS (u:=.tuple #[kvI 0,.bool false]) h1.map JH ue (Dc _) (bs (uW s)) rfl rfl rfl (by rw[a4];rfl)) ?_;refine zTH rfl rfl ?_;refine zvH (aM h1.row.sl.sh ri rfl) ?_;refine vg h1.map JH ue zo (bs (uW s)) (vs.length:Int) rfl rfl rfl rfl rfl ?_;intro w2 c6 a6;have b5:=h1.blk.upd a6 hi zo;have b':=h1.row.upd a6 zo zo;have c9:=b6.upd a6;have c':=b3.upd a9 a6;have d0:=a9.upd a6;have d2:w2.cell? (nA mb 2)=some mv:=b5.cell 2 rfl;refine zh ?_;refine Ib D9 b' c9 ((.slice sa s.length sc:ix)) (fun _=>rfl) rfl rfl rfl (by simp[pc]) zo zo zo zd rfl rfl ?_;intro a5 w3 O3 b4 b2 c8;have b1:=b5.upd b2 hi zo;have c5:=c6.upd b2 zo zo;refine zh ?_;refine ak (j:=2) b1 rfl (Ju _) b4.one rfl rfl rfl ?_;have b0:rm (fun q=>q=i) O3 w3 O3 (w3.setCell ⟨mb,2,none⟩ a5):=CR (fun e=>hi e.symm) b1.tag rfl;have c7:CY O3 (w3.setCell ⟨mb,2,none⟩ a5) i mb #[nP nb,.map (some kr),a5] 194:=b1.set 2 a5;have a3:rm (fun q=>i<=q/\q<=i+2) O w1 O3 (w3.setCell ⟨mb,2,none⟩ a5):=((a6.mono (fun q h=>zo) hz).trans (b2.mono (fun q h=>zo) hz)).trans (b0.mono (fun q h=>zo) hz);refine zh ?_;refine ae rfl rfl (⟨O3,a5,vs++[.slice sa s.length sc],cJ l (bs (uW s)) (vs.length:Int),by rw[a8],a7.trans a3,(c8.upd b0),⟨c7,c5.upd b0 zo zo,b4.upd b0 zo zo,by simp[a8],fun k hk=>?_,fun t ht=>?_,fun t ht=>?_⟩⟩)
  ·rw[aA,aA,a8]
   by_cases e:k<S.length
   ·rw[if_pos e,if_pos e];obtain⟨a1,a2⟩:=h1.at_ k e;exact⟨a1.upd a2 a3,a2.upd a3⟩
   rw[if_neg e,if_neg e];simp only[vX,vO,J9]at hk;rw[show k-S.length=0 from by omega,ar,ar];exact⟨b3.upd a9 a3,a9.upd a3⟩
  ·rcases rU.1 ht with ht|ht
   ·exact h.ok t ht
   rw[oU.1 ht];exact ho
  rw[bf,BC a0]
  by_cases e:s=t
  ·subst e;rw[if_pos rfl,if_pos rfl,a8];rfl
  rw[if_neg (fun e2=>e (yo ho ht (Fa e2))),if_neg e];exact h.key t ht
theorem CU{r:List Nat}{m N x:Nat}(hr:r.length=m)(hm:m<N):(r++sN (N-m) 0).set m x=(r++[x])++sN (N-(m+1)) 0:=by
 obtain⟨k,hk⟩:∃k,N-m=k+1:=⟨N-m-1,zo⟩
 rw[show N-(m+1)=k from by omega,hk,List.set_append_right _ _ zo,hr,Gb,JK,List.set_cons_zero,C9];rfl
theorem Free.lowT{O:Nat->Nat}{w:ow}{v:ix}(h:IJ O w v)(T:Nat):IJ (Go.VL.lowT O T) w v:=fun a n c e hn=>⟨kG (h a n c e hn).1,(h a n c e hn).2⟩
theorem MkO.lowT{O:Nat->Nat}{w:ow}{i mb nb kr:Nat}{sv:ix}{vs:List ix}{S:List (List Int)}{l:List (ByteArray×Int)}(h:MkO O w i mb nb kr sv vs S l){T:Nat}(hT:i+2<T):MkO (Go.VL.lowT O T) w i mb nb kr sv vs S l:=
 ⟨h.blk.lowT zo,h.map.fgt (by unfold Go.VL.lowT;rw[h.map.tag,if_neg zo]),h.row.lowT zo,h.len,fun k hk=>⟨(h.at_ k hk).1,Free.lowT (h.at_ k hk).2 T⟩,h.ok,h.key⟩
theorem D7{g:Gr}(hl:g.ls.length<=999){s:List Int}(h:inP g s):okS s:=fun x hx=>⟨(h x hx).1,J1 (h x hx).2 hl⟩
theorem B4(B:Nat)(O:Nat->Nat)(w w0:ow)(i mb nb kr:Nat)(se:Bool)(g:Gr)(mv:ix)(vs:List ix)(S:List (List Int))(l:List (ByteArray×Int))(q:Nat)(hi:i≠0)(hR:GT B O w)(h:MkO O w i mb nb kr mv vs S l)(hD:NfD w0 nb se g)(f5:rm (fun q=>1<=q) (fun _=>0) w0 O w) 
  (hw:WF g) (h0:0<g.ks.length) (ht:Tot g) (d4:g.ls.length<=999) (d5:∀s∈S,inP g s) (c9:∀s∈S,s.length<=1000) (hq:q<S.length) (hS:S.length<=1000) :
  Js zI 110 [nP mb,nI (q:Nat)] w fun v w'=>∃O' mv' vs' l',rm (fun q=>i<=q/\q<=i+2) O w O' w'/\GT B O' w'/\MkO O' w' i mb nb kr mv' vs' (dC (cM se g) (nth S q) S 37).1 l'/\Sl aX 1 w' v (dC (cM se g) (nth S q) S 37).2/\IJ O' w' v/\(∀s∈(dC (cM se g) (nth S q) S 37).1,inP g s/\s.length<=1000):=by
 obtain⟨T0,g3,c6⟩:=hR.bound;obtain⟨T,g2⟩:∃T,T=T0+i+3:=⟨_,rfl⟩
 have hT:∀b,O b<T:=fun b=>by have:=c6 b;omega
 have a5:=kB (cM se g) (nth S q) S;have b5:=d5 _ (aO hq);have e3:=c9 _ (aO hq);refine rj func110 ntmps110 rfl rfl ?_;refine zh ?_;obtain⟨N,hN⟩:∃N:Nat,N=37:=⟨_,rfl⟩
 refine bN kU (val:=fun n:Nat=>nI (n:Int)) (0:Nat) zk (fun _=>rfl) hR T zo 37 rfl rfl zd zd zd zd rfl ?_;intro w1 O1 ov e5 a4 d7 f8 g4;clear e5;have e8:=h.upd d7 hi zo zo zo;refine zh ?_
 refine zvH (aM a4.sl.sh ln rfl) ?_;rw[JA];refine zlp (fun z:Nat×(Nat->Nat)×World×ix×List ix×List (ByteArray×Int)=>[(0,nP mb),(1,nI (q:Nat)),(5,ov),(8,ov),(9,nI ((37:Nat):Int)),(10,nI z.1)]) (fun z=>z.2.2.1) (fun z=>z.1<=37/\rm (fun j=>j=T\/i<=j/\j<=i+2) O w z.2.1 z.2.2.1/\GT B z.2.1 z.2.2.1/\MkO z.2.1 z.2.2.1 i mb nb kr z.2.2.2.1 z.2.2.2.2.1 (dC (cM se g) (nth S q) S z.1).1 z.2.2.2.2.2/\uY aX 3 1 z.2.1 z.2.2.1 T ov ((dC (cM se g) (nth S q) S z.1).2++sN (37-z.1) 0)/\∀s∈(dC (cM se g) (nth S q) S z.1).1,inP g s/\s.length<=1000) (fun z=>37-z.1) (0,O1,w1,mv,vs,l) (⟨ps _,d7.mono (fun _ h=>.inl h) zo,f8,e8,a4,fun s hs=>⟨d5 s hs,c9 s hs⟩⟩) ?_
 rintro⟨m,O2,w2,a',a9,l2⟩ ⟨b7,b4,a8,b0,a0,a1⟩;dsimp only at b7 b4 a8 b0 a0 a1 ⊢;have c':=(a5 m).len;have c8:=(a5 m).top;have b2:((dC (cM se g) (nth S q) S m).2++sN (37-m) 0).length=37:=by simp[c'];omega
 refine zh ?_;refine zC ?_ ?_
 ·intro b1;replace b1:m<37:=dT b1;obtain⟨pq,d0⟩:=(a5 m).pre;have e4:q<(dC (cM se g) (nth S q) S m).1.length:=by rw[d0];simp;omega
  have e6:nth (dC (cM se g) (nth S q) S m).1 q=nth S q:=by rw[d0,aA,if_pos hq]
  have c5:=f5.trans (b4.mono (S':=fun q=>1<=q) (fun j h=>zo) zo);have hU02d:=c5.drew;have f9:=hD.ext hU02d.ext;have hm2d:=b0.upd (aa (S:=fun _=>False) (fun h=>h) O2 (sP w2).drew) hi (fun h=>h) (fun h=>h) fun h=>h
  have c0:w2.drew.cell? (nA mb 0)=some (nP nb):=hm2d.blk.cell 0 rfl;have c2:w2.drew.cell? (nA mb 2)=some a':=hm2d.blk.cell 2 rfl;have c7:=hm2d.row.sl;have g0:=hm2d.len;have cq:w2.drew.cell? (adr a' 1 q)=some (nth a9 q):=by have:=c7.cell (i:=q) (j:=0) zo rfl;rwa[ao]at this
  obtain⟨a6,f3⟩:=hm2d.at_ q e4;rw[e6]at a6;refine zh ?_;refine aI (fun W=>W.cell? (nA mb 0)=some (nP nb)) 19 rfl zk ?_;refine zrm 0 rfl c0 rfl ?_;refine zrm 1 rfl c0 rfl ?_;refine zrm 2 rfl c0 rfl ?_;refine zrm 3 rfl c0 rfl ?_;refine zr 4 rfl c0 (fun _=>aq rfl) ?_;refine zrf 5 rfl c0 rfl ?_;refine zt 6 rfl c0 (fun w1 e1=>RV.ld e1 rfl) ?_;refine zrm 7 rfl c0 rfl ?_;refine zr 8 rfl c0 (fun _=>aq rfl) ?_;refine zrf 9 rfl c0 rfl ?_;refine zrm 11 rfl c0 rfl ?_;refine zrm 14 rfl c0 rfl ?_;refine qN 10 zk rfl ?_;refine zvH (RV.ld c2 rfl) ?_;refine af (c0) ?_;refine zr 12 rfl (c0) (fun _=>ah c7.sh ri (Fo _) rfl rfl q rfl zo) ?_;refine qN 13 zk rfl ?_;refine zvH (RV.ld cq rfl) ?_;refine af (c0) ?_;refine qN 15 zk rfl ?_;refine zc call144 (step_ret w2.drew nb se g (nth S q) (nth a9 q) (m:Nat) f9 a6 hw h0 ht b5 e3 d4) ?_;rintro tv w3 ⟨e2,d8,e'⟩;refine zh ?_;refine af (d8.cell c0) ?_;have b8:=e' B O2 a8.drew;have b3:rm (fun _=>False) O2 w2 O2 w3:=aa (fun h=>h) O2 ((sP w2).drew.trans d8);have e7:=b0.upd b3 hi (fun h=>h) (fun h=>h) fun h=>h
  have f7:=a8.upd b3;have a7:=a0.upd b3 zo fun h=>h
  have d1:=vk hw h0 (nF se g) b5 (m:Nat);have g1:=CS (se:=se) hw h0 b5 (m:Nat);refine qN 16 zk rfl ?_;refine zc call108 (mA B O2 w3 i mb nb kr a' a9 (dC (cM se g) (nth S q) S m).1 l2 (cM se g (nth S q) (m:Nat)) tv hi f7 e7 e2 b8 (D7 d4 d1) zo zo) ?_;rintro _ w4 ⟨O4,e0,d',l4,rfl,d6,f6,d3⟩;have d9:w4.cell? (nA mb 0)=some (nP nb):=d3.blk.cell 0 rfl;refine zh ?_;refine af (d9) ?_;have a3:=a7.upd d6 zo zo;have b6:=a3.sl;refine zr 17 rfl (d9) (fun _=>ah b6.sh ln (qy _) rfl rfl m rfl zo) ?_;refine qN 18 zk rfl ?_;refine Gh a3 m zo (CG (dC (cM se g) (nth S q) S m).1 (cM se g (nth S q) (m:Nat))) (qy _) rfl zo rfl rfl rfl rfl ?_;intro w5 a2 b9;rw[CU c' b1]at a2;have d2:=d3.upd b9 hi zo zo zo;have f':w5.cell? (nA mb 0)=some (nP nb):=d2.blk.cell 0 rfl;refine zh ?_;refine af (f') ?_;have b':rm (fun j=>j=T\/i<=j/\j<=i+2) O w O4 w5:=((b4.trans (b3.mono (fun _ h=>h.elim) zo)).trans (d6.mono (fun _ h=>.inr h) zo)).trans (b9.mono (fun _ h=>.inl h) zo);refine BG zk ?_;refine zh ?_;refine zxd (m+1,O4,w5,e0,d',l4) (⟨b1,b',f6.upd b9,d2,a2,fun s hs=>?_⟩)
  ·have hs:s∈rH (dC (cM se g) (nth S q) S m).1 (cM se g (nth S q) (m:Nat)):=hs;unfold rH at hs
   split at hs
   ·exact a1 s hs
   rcases rU.1 hs with hs|hs
   ·exact a1 s hs
   rw[oU.1 hs];exact⟨d1,zo⟩
 intro e9;obtain rfl:m=37:=dF e9;rw[Gb,List.replicate_zero,sQ]at a0
 have f4:=b4.lowT (S':=fun q=>i<=q/\q<=i+2) hT (fun b hb=>by
  rcases hb with hb|hb
  ·have:=hT b;omega
  exact hb) zo
 refine zh ?_;refine ae rfl rfl (⟨lowT O2 T,a',a9,l2,f4,a8.lowT T,MkO.lowT b0 zo,a0.sl,fun a n c e hn=>?_,a1⟩)
 have hb:=a0.1.tag a.block (by subst e;rfl);refine⟨by unfold lowT;rw[hb,if_pos (pZ _)],(a8.rng a.block (by rw[hb];omega)).2⟩
abbrev jb(n:Nat):List ix:=[.int .u64 (n:Int)]
def RowsN(w:ow)(v:ix)(rows:List (List Nat)):Prop:=∃vs,Sl xg 1 w v vs/\vs.length=rows.length/\∀i,i<rows.length->Sl aX 1 w (nth vs i) (nth rows i)
theorem RowsN.ext{w w':ow}{v:ix}{rows:List (List Nat)}(h:RowsN w v rows)(e:J6 w w'):RowsN w' v rows:=by
 obtain⟨vs,h1,h2,h3⟩:=h;exact⟨vs,h1.ext e,h2,fun i hi=>(h3 i hi).ext e⟩
structure RwO(O:Nat->Nat)(w:ow)(i:Nat)(v:ix)(vs:List ix)(rows:List (List Nat)):Prop where
 row:uY xg 22 1 O w i v vs
 len:vs.length=rows.length
 at_:∀k,k<rows.length->Sl aX 1 w (nth vs k) (nth rows k)/\IJ O w (nth vs k)
theorem RwO.upd{S:Nat->Prop}{O O':Nat->Nat}{w w':ow}{i:Nat}{v:ix}{vs:List ix}{rows:List (List Nat)}(h:RwO O w i v vs rows)(u:rm S O w O' w')(hi:i≠0)(hS:¬S i):RwO O' w' i v vs rows:=
 ⟨h.row.upd u hi hS,h.len,fun k hk=>⟨(h.at_ k hk).1.upd (h.at_ k hk).2 u,(h.at_ k hk).2.upd u⟩⟩
theorem RwO.drew{O:Nat->Nat}{w:ow}{i:Nat}{v:ix}{vs:List ix}{rows:List (List Nat)}(h:RwO O w i v vs rows):RwO O w.drew i v vs rows:=⟨h.row.drew,h.len,fun k hk=>⟨(h.at_ k hk).1.drew,(h.at_ k hk).2.upd (aa (S:=fun _=>False) (fun h=>h) O (sP w).drew)⟩⟩
theorem RwO.rows{O:Nat->Nat}{w:ow}{i:Nat}{v:ix}{vs:List ix}{rows:List (List Nat)}(h:RwO O w i v vs rows):RowsN w v rows:=⟨vs,h.row.sl,h.len,fun k hk=>(h.at_ k hk).1⟩
def I0(w:ow)(v:ix):Option (List (List Nat)×List Nat)->Prop
 |some d=>∃nv tv,v=.tuple #[.agg #[nv,tv],nI 0]/\nv.oneCell'=true/\tv.oneCell'=true/\RowsN w nv d.1/\Sl jb 1 w tv d.2
 |none=>v=.tuple #[.agg #[nS,nS],nI 7]
set_option maxHeartbeats 1000000 in
theorem B5(nb:Nat)(se:Bool)(g:Gr)(w:ow)(hD:NfD w nb se g)(hw:WF g)(h0:0<g.ks.length)(ht:Tot g)(m0:g.ls.length<=999)(j0:∀q,g.en q<=40):
  Js zI 63 [nP nb] w fun v w'=>J6 w w'/\I0 w' v (DC (cM se g) (dp g)):=by
 have e4:∀s,dp g s<2^40:=fun s=>by
  have m8:∀(s:List Int) (b:Nat),b<2^40->s.foldl (fun b p=>b ||| jD g p.toNat) b<2^40:=fun s=>by
   induction s with
   |nil=>exact fun b hb=>hb
   |cons p s ih=>exact fun b hb=>ih _ (JT hb (ke j0 _ 0 zd))
  exact m8 s 0 zd
 refine rj func63 ntmps63 rfl rfl ?_;refine zh ?_
 refine ax (au w) 7 zo (CZ _) rfl ?_;intro cb wa Oa k8 n6 o0 o9;refine zh ?_
 refine zvH (ec (q:=some ⟨nb,0,none⟩) J3 rfl rfl) ?_;refine zFH rfl rfl ?_
 refine bq Jq kvI o0 2 zd rfl ?_;intro kr wb Ob n1 m2 n';refine zv (aF Iw (zeroValue194 _) rfl (by first|rfl|(simp only[yJ,DA];rfl)) rfl rfl) ?_
 refine aE n' 1 zo rfl rfl ?_;intro mb wc Oc n0 l3 m3 o8;have k2:MkO Oc wc 1 mb nb kr (nS) [] [] []:=⟨n0,n1.upd l3 zd zd,xK _ _ _ _ _ _,rfl,fun k hk=>absurd hk (oD k),fun s hs=>absurd hs (by simp),fun s _=>rfl⟩
 have l5:=((n6.mono (S':=fun j=>1<=j) (fun j h=>zo) zd).trans (m2.mono (fun j h=>zo) zd)).trans (l3.mono (fun j h=>zo) zd);refine zh ?_;refine zc call109 (Cb wc nb) ?_;rintro bv wd ⟨n4,o3,n5⟩;have k9:=n5 w.heap.size Oc m3;have j7:rm (fun _=>False) Oc wc Oc wd:=aa (fun h=>h) Oc o3;have i':inP g [0]:=fun x hx=>by rw[oU.1 hx];exact⟨Ke _,ps _⟩
 refine zc call108 (mA w.heap.size Oc wd 1 mb nb kr _ _ _ _ [0] bv zd (m3.upd j7) (k2.upd j7 zd (fun h=>h) (fun h=>h) fun h=>h) n4 k9 (D7 m0 i') zd zd) ?_;rintro _ we ⟨Oe,m7,m5,le,rfl,m1,n9,i9⟩;have n7:rH [] [0]=[[0]]:=rfl;rw[n7]at i9;have l1:rm (fun j=>1<=j) Oc wd Oe we:=m1.mono (fun j h=>zo) zd;refine zh ?_
 refine ax n9 4 zo (CZ _) rfl ?_;intro db wf Of k4 l0 n8 o7;have k7:=(((k8.upd m2 zd zd).upd l3 zd zd).upd j7 zd fun h=>h)
 have k6:=(k7.upd m1 zd zd).upd l0 zd zd;have l4:=((l5.trans (j7.mono (fun _ h=>h.elim) zd)).trans l1).trans (l0.mono (fun j h=>zo) zd);refine zh ?_;refine zlp (fun z:Nat×(Nat->Nat)×World×ix×List ix×List (List Int)×List (ByteArray×Int)×List (List Nat)×List Nat×List ix×ix×ix=>[(0,nP nb),(2,nP cb),(3,nI 0),(4,nP mb),(5,nP db),(6,nI z.1)]) (fun z=>z.2.2.1) (fun z=>rm (fun j=>1<=j) (fun _=>0) w z.2.1 z.2.2.1/\GT w.heap.size z.2.1 z.2.2.1/\MkO z.2.1 z.2.2.1 1 mb nb kr z.2.2.2.1 z.2.2.2.2.1 z.2.2.2.2.2.1 z.2.2.2.2.2.2.1/\CY z.2.1 z.2.2.1 4 db #[z.2.2.2.2.2.2.2.2.2.2.1,z.2.2.2.2.2.2.2.2.2.2.2] 86/\RwO z.2.1 z.2.2.1 5 z.2.2.2.2.2.2.2.2.2.2.1 z.2.2.2.2.2.2.2.2.2.1 z.2.2.2.2.2.2.2.1/\uY jb 28 1 z.2.1 z.2.2.1 6 z.2.2.2.2.2.2.2.2.2.2.2 z.2.2.2.2.2.2.2.2.1/\CY z.2.1 z.2.2.1 7 cb #[nS,nS] 86/\DI (cM se g) (dp g) z.1 z.2.2.2.2.2.1 z.2.2.2.2.2.2.2.1 z.2.2.2.2.2.2.2.2.1/\(∀s∈z.2.2.2.2.2.1,inP g s/\s.length<=1000)/\Ge (cM se g) (dp g) (1002-z.1) z.1 z.2.2.2.2.2.1 z.2.2.2.2.2.2.2.1 z.2.2.2.2.2.2.2.2.1=DC (cM se g) (dp g)) (fun z=>1002-z.1) (0,Of,wf,m7,m5,[[0]],le,[],[],[],nS,nS) (⟨l4,n8,i9.upd l0 zd zd zd zd,k4,⟨xK _ _ _ _ _ _,rfl,fun k hk=>absurd hk (oD k)⟩,xK _ _ _ _ _ _,k6,yO _ _,fun s hs=>by rw[oU.1 hs];exact⟨i',zd⟩,rfl⟩) ?_;rintro⟨q,O1,w1,mv,vs,S,l,rows,i7,i4,nv,tv⟩ ⟨b2,m4,e9,f4,d',e3,e0,i6,f7,c6⟩;dsimp only at b2 m4 e9 f4 d' e3 e0 i6 f7 c6 ⊢;have o6:=i6.le
 have o5:=i6.rl;have o4:=i6.tl;have j3:=i6.len;have m':=d'.len;have c2:w1.cell? (nA mb 2)=some mv:=e9.blk.cell 2 rfl;have i5:=e9.len;refine zh ?_;refine zvH (aM e9.row.sl.sh ri rfl) ?_;refine zC ?_ ?_
 ·intro g0;replace g0:q<S.length:=dT g0;obtain⟨n,hn⟩:∃n,1002-q=n+1:=⟨1001-q,zo⟩
  rw[hn,Ge,if_pos g0]at c6;have e':=kB (cM se g) (nth S q) S 37;have j2:=i6.next g0;have j6:=(f7 _ (aO g0)).1;have n3:w1.drew.cell? (nA db 0)=some nv:=f4.cell 0 rfl;have hmk1d:=e9.upd (aa (S:=fun _=>False) (fun h=>h) O1 (sP w1).drew) zd (fun h=>h) (fun h=>h) fun h=>h
  have h1:=B4 w.heap.size O1 w1.drew w 1 mb nb kr se g mv vs S l q zd m4.drew hmk1d hD b2.drew hw h0 ht m0 (fun s hs=>(f7 s hs).1) (fun s hs=>(f7 s hs).2) g0 j3;generalize dC (cM se g) (nth S q) S 37=RT at *;obtain⟨S1,r1⟩:=RT;dsimp only at c6 e' j2 h1;refine zh ?_;refine aI (fun _=>True) 9 rfl zk ?_;refine zin trivial fun zS=>?_
  refine zrf 0 rfl zS rfl ?_;refine zrm 2 rfl zS rfl ?_
  refine zrm 3 rfl zS rfl ?_;refine bV 1 4 zk rfl rfl ?_ ?_
  ·refine zvH (RV.ld n3 rfl) ?_;refine af trivial ?_
   refine qN 4 zk rfl ?_;refine zc call110 h1 ?_
   rintro rv w2 ⟨O2,a7,b',l2,k',l8,h6,e6,e8,f3⟩;have g9:=e6.shape;obtain⟨ra,rc,rfl,_⟩:=g9;have b6:rm (fun j=>1<=j/\j<=3) O1 w1.drew O2 w2:=k';have g8:=d'.drew.upd b6 zd zd;have f8:=f4.drew.upd b6 zd zd;have h9:=e0.drew.upd b6 zd zd;have g6:=e3.drew.upd b6 zd zd;have h':rm (fun j=>1<=j/\j<=3) O1 w1 O2 w2:=(aa zd O1 (sP w1).drew).trans b6;refine zh ?_;refine af trivial ?_;refine qN 5 zk rfl ?_;refine cg D9 (enc:=xg) (.slice ra r1.length rc:ix) rfl rfl rfl zd rfl ?_;intro m6 w3 g7 l9;have c7:rm (fun _=>False) O2 w2 O2 w3:=aa (fun h=>h) O2 l9;have i0:rm (fun q=>1<=q) O1 w1 O2 w3:=(h'.mono (fun j h=>zo) zd).trans (c7.mono (fun _ h=>h.elim) zd);have l7:=l8.upd c7;have d2:=g8.upd c7 zd fun h=>h
   have h7:=f8.upd c7 zd fun h=>h
   have h8:=h9.upd c7 zd fun h=>h
   have g5:=g6.upd c7 zd fun h=>h
   have h5:=h6.upd c7 zd (fun h=>h) (fun h=>h) fun h=>h
   have g':=e6.upd e8 c7;have d3:=e8.upd c7;refine zh ?_;refine af trivial ?_;refine qN 6 zk rfl ?_;refine aC D9 (d2.row) l7 g7 (by simp) rfl rfl (by simp) (fun u hu c hc=>by rw[oU.1 hu]at hc;rw[oU.1 hc];rfl) (by simp;omega) (by simp;omega) zd rfl ?_;intro b3 w4 O4 c8 b8 l6;have d8:=h7.upd b8 zd zd;refine zh ?_;refine af (trivial) ?_;refine zrf 7 rfl (trivial) rfl ?_;refine qN 8 zk rfl ?_;refine ak (j:=0) d8 rfl (Ju _) c8.one rfl rfl rfl ?_;have c5:rm (fun j=>j=4) O4 w4 O4 (w4.setCell ⟨db,0,none⟩ b3):=CR zd d8.tag rfl;have d7:CY O4 (w4.setCell ⟨db,0,none⟩ b3) 4 db #[b3,tv] 86:=d8.set 0 b3;refine zh ?_;refine af (trivial) ?_;have j1:=l6.upd c5;have e7:=c8.upd c5 zd zd;have a8:=(h5.upd b8 zd zd zd zd).upd c5 zd zd zd zd;have e2:=(g5.upd b8 zd zd).upd c5 zd zd;have f5:=(h8.upd b8 zd zd).upd c5 zd zd;have e5:RwO O4 (w4.setCell ⟨db,0,none⟩ b3) 5 b3 (i4++[.slice ra r1.length rc]) (rows++[r1]):=by
    have i5:=d2.len;refine⟨e7,by simp[i5],fun k hk=>?_⟩;rw[aA,aA,i5]
    by_cases e:k<rows.length
    ·rw[if_pos e,if_pos e];obtain⟨a1,a2⟩:=d2.at_ k e;exact⟨(a1.upd a2 b8).upd (a2.upd b8) c5,(a2.upd b8).upd c5⟩
    rw[if_neg e,if_neg e];simp only[vX,vO,J9]at hk;rw[show k-rows.length=0 from by omega,ar,ar];exact⟨(g'.upd d3 b8).upd (d3.upd b8) c5,(d3.upd b8).upd c5⟩
   have d9:rm (fun q=>1<=q) O1 w1 O4 (w4.setCell ⟨db,0,none⟩ b3):=(i0.trans (b8.mono (fun j h=>zo) zd)).trans (c5.mono (fun j h=>zo) zd);generalize w4.setCell ⟨db,0,none⟩ b3=w5 at *;refine BG zk ?_;refine zh ?_;have g4:=a8.len;have i8:q<b'.length:=by obtain⟨pq,h3⟩:=e'.pre;rw[g4,h3];simp;omega
   have h2:q<S1.length:=zo;have h4:nth S1 q=nth S q:=by obtain⟨pq,h3⟩:=e'.pre;rw[h3,aA,if_pos g0]
   have b0:w5.drew.cell? (nA mb 2)=some a7/\w5.drew.cell? (adr a7 1 q)=some (nth b' q):=⟨a8.blk.cell 2 rfl,by have:=a8.row.sl.cell (i:=q) (j:=0) i8 rfl;rwa[ao]at this⟩
   have sd:∀W,J6 w5.drew W->W.cell? (nA mb 2)=some a7/\W.cell? (adr a7 1 q)=some (nth b' q):=fun W hE=>⟨hE.cell b0.1,hE.cell b0.2⟩
   have j5:w5.drew.cell? (nA db 1)=some tv:=d7.cell 1 rfl;have j4:=hD.ext (b2.trans d9).drew.ext;obtain⟨d0,k0⟩:=a8.at_ q h2;rw[h4]at d0;have m9:=e4 (nth S q);refine aI (fun W=>W.cell? (nA mb 2)=some a7/\W.cell? (adr a7 1 q)=some (nth b' q)) 15 rfl zk ?_;refine zrf 0 rfl b0 rfl ?_;refine zrm 2 rfl b0 rfl ?_;refine zrm 3 rfl b0 rfl ?_;refine zr 4 rfl b0 (fun _=>aq rfl) ?_;refine zrf 5 rfl b0 rfl ?_;refine zt 6 rfl b0 (fun w1 g1=>RV.ld g1.1 rfl) ?_;refine zrm 7 rfl b0 rfl ?_;refine zr 8 rfl b0 (fun _=>ah a8.row.sl.sh ri (Fo _) rfl rfl q rfl i8) ?_;refine zt 9 rfl b0 (fun w1 g1=>RV.ld g1.2 rfl) ?_;refine bV 1 10 zk rfl rfl ?_ ?_
   ·refine zvH (RV.ld j5 rfl) ?_;refine af b0 ?_
    refine qN 10 zk rfl ?_;refine zc K6 (kd w5.drew nb se g (nth S q) _ j4 d0.drew j6 j0) ?_
    rintro j8 w9 ⟨rfl,e1⟩;rw[e1];clear e1 w9;refine zh ?_;refine af b0 ?_;refine qN 11 zk rfl ?_;refine cg mS (enc:=jb) (dp g (nth S q)) rfl rfl rfl zd rfl ?_;intro j9 w6 c' f';refine zh ?_;refine af (sd _ f') ?_;have a':rm (fun _=>False) O4 w5 O4 w6:=aa (fun h=>h) O4 ((sP w5).drew.trans f');have c9:=e2.upd a' zd fun h=>h
    have d6:=d7.upd a' zd fun h=>h
    have d4:=a8.upd a' zd (fun h=>h) (fun h=>h) fun h=>h
    have i3:=j1.upd a';refine qN 12 zk rfl ?_;refine aC mS c9 i3 c' (by simp) rfl rfl (by simp) (by simp[pc]) (by simp;omega) (by simp;omega) zd rfl ?_;intro a3 w7 O7 a6 b7 i2;have a9:=d6.upd b7 zd zd;have a4:=d4.upd b7 zd zd zd zd;have g3:=a4.len;have s7:w7.cell? (nA mb 2)=some a7/\w7.cell? (adr a7 1 q)=some (nth b' q):=⟨a4.blk.cell 2 rfl,by have:=a4.row.sl.cell (i:=q) (j:=0) zo rfl;rwa[ao]at this⟩
    refine zh ?_;refine af (s7) ?_
    refine zrf 13 rfl (s7) rfl ?_;refine qN 14 zk rfl ?_
    refine ak (j:=1) a9 rfl (Jv _) a6.one rfl rfl rfl ?_;have b1:rm (fun j=>j=4) O7 w7 O7 (w7.setCell ⟨db,1,none⟩ a3):=CR zd a9.tag rfl;have d5:CY O7 (w7.setCell ⟨db,1,none⟩ a3) 4 db #[b3,a3] 86:=a9.set 1 a3;have a0:=a4.upd b1 zd zd zd zd;have g2:=a0.len;have s8:(w7.setCell ⟨db,1,none⟩ a3).cell? (nA mb 2)=some a7/\(w7.setCell ⟨db,1,none⟩ a3).cell? (adr a7 1 q)=some (nth b' q):=⟨a0.blk.cell 2 rfl,by have:=a0.row.sl.cell (i:=q) (j:=0) zo rfl;rwa[ao]at this⟩
    refine zh ?_;refine af (s8) ?_
    have b4:=a6.upd b1 zd zd;have i1:=i2.upd b1;have d1:=((e5.upd a' zd fun h=>h).upd b7 zd zd).upd b1 zd zd;have a5:=((f5.upd a' zd fun h=>h).upd b7 zd zd).upd b1 zd zd;have b9:rm (fun q=>1<=q) O1 w1 O7 (w7.setCell ⟨db,1,none⟩ a3):=((d9.trans (a'.mono (fun _ h=>h.elim) zd)).trans (b7.mono (fun j h=>zo) zd)).trans (b1.mono (fun j h=>zo) zd);generalize w7.setCell ⟨db,1,none⟩ a3=w8 at *;have l':=s8.1;refine BG zk ?_;refine zh ?_;refine zvH (aM a0.row.sl.sh ri rfl) ?_
    by_cases b5:1000<S1.length
    ·rw[if_pos b5]at c6;rw[<-c6];refine zTH rfl ((decide_eq_true zo)) ?_;refine zv (aF Gu (CZ _) rfl (by first|rfl|(simp only[yJ,DA];rfl)) rfl rfl) ?_;refine zsa (us:=#[nS,nS]) a5 (uV _) ?_;have f9:=a5.setRow (us:=#[nS,nS]);have f6:rm (fun j=>j=7) O7 w8 O7 (w8.setRow cb #[nS,nS]):=tp zd a5.tag rfl;refine zh ?_;refine bA rfl rfl rfl (f9.cellsAdd) (DN _) (uV _) (⟨((b2.trans b9).trans (f6.mono (fun j h=>zo) zd)).ext,rfl⟩)
    rw[if_neg b5]at c6;refine zFH rfl ((decide_eq_false zo)) ?_;refine zxd (q+1,O7,w8,a7,b',S1,l2,rows++[r1],i7++[dp g (nth S q)],i4++[.slice ra r1.length rc],b3,a3) (⟨b2.trans b9,i1,a0,d5,d1,b4,a5,j2 zo,f3,by dsimp only;rw[show 1002-(q+1)=n from by omega];exact c6⟩)
   refine zc K6 (kd w5.drew nb se g (nth S q) _ j4 d0.drew j6 j0) ?_;rintro j8 w9 ⟨rfl,e1⟩;rw[e1];clear e1 w9;refine zh ?_
   refine af b0 ?_;refine bZ 1 11 mS (enc:=jb) (dp g (nth S q)) rfl rfl zk zk zk zk (fun W hE=>JC (hE.cell j5) (Kp _) rfl) sd rfl rfl rfl zd rfl rfl rfl rfl rfl ?_
   intro j9 w6 c' f';have a':rm (fun _=>False) O4 w5 O4 w6:=aa (fun h=>h) O4 ((sP w5).drew.trans f');have c9:=e2.upd a' zd fun h=>h
   have d6:=d7.upd a' zd fun h=>h
   have d4:=a8.upd a' zd (fun h=>h) (fun h=>h) fun h=>h
   have i3:=j1.upd a';refine qN 12 zk rfl ?_;refine aC mS c9 i3 c' (by simp) rfl rfl (by simp) (by simp[pc]) (by simp;omega) (by simp;omega) zd rfl ?_;intro a3 w7 O7 a6 b7 i2;have a9:=d6.upd b7 zd zd;have a4:=d4.upd b7 zd zd zd zd;have g3:=a4.len;have s7:w7.cell? (nA mb 2)=some a7/\w7.cell? (adr a7 1 q)=some (nth b' q):=⟨a4.blk.cell 2 rfl,by have:=a4.row.sl.cell (i:=q) (j:=0) zo rfl;rwa[ao]at this⟩
   refine zh ?_;refine af (s7) ?_
   refine zrf 13 rfl (s7) rfl ?_;refine qN 14 zk rfl ?_
   refine ak (j:=1) a9 rfl (Jv _) a6.one rfl rfl rfl ?_;have b1:rm (fun j=>j=4) O7 w7 O7 (w7.setCell ⟨db,1,none⟩ a3):=CR zd a9.tag rfl;have d5:CY O7 (w7.setCell ⟨db,1,none⟩ a3) 4 db #[b3,a3] 86:=a9.set 1 a3;have a0:=a4.upd b1 zd zd zd zd;have g2:=a0.len;have s8:(w7.setCell ⟨db,1,none⟩ a3).cell? (nA mb 2)=some a7/\(w7.setCell ⟨db,1,none⟩ a3).cell? (adr a7 1 q)=some (nth b' q):=⟨a0.blk.cell 2 rfl,by have:=a0.row.sl.cell (i:=q) (j:=0) zo rfl;rwa[ao]at this⟩
   refine zh ?_;refine af (s8) ?_
   have b4:=a6.upd b1 zd zd;have i1:=i2.upd b1;have d1:=((e5.upd a' zd fun h=>h).upd b7 zd zd).upd b1 zd zd;have a5:=((f5.upd a' zd fun h=>h).upd b7 zd zd).upd b1 zd zd;have b9:rm (fun q=>1<=q) O1 w1 O7 (w7.setCell ⟨db,1,none⟩ a3):=((d9.trans (a'.mono (fun _ h=>h.elim) zd)).trans (b7.mono (fun j h=>zo) zd)).trans (b1.mono (fun j h=>zo) zd);generalize w7.setCell ⟨db,1,none⟩ a3=w8 at *;have l':=s8.1;refine BG zk ?_;refine zh ?_;refine zvH (aM a0.row.sl.sh ri rfl) ?_
   by_cases b5:1000<S1.length
   ·rw[if_pos b5]at c6;rw[<-c6];refine zTH rfl ((decide_eq_true zo)) ?_;refine zv (aF Gu (CZ _) rfl (by first|rfl|(simp only[yJ,DA];rfl)) rfl rfl) ?_;refine zsa (us:=#[nS,nS]) a5 (uV _) ?_;have f9:=a5.setRow (us:=#[nS,nS]);have f6:rm (fun j=>j=7) O7 w8 O7 (w8.setRow cb #[nS,nS]):=tp zd a5.tag rfl;refine zh ?_;refine bA rfl rfl rfl (f9.cellsAdd) (DN _) (uV _) (⟨((b2.trans b9).trans (f6.mono (fun j h=>zo) zd)).ext,rfl⟩)
   rw[if_neg b5]at c6;refine zFH rfl ((decide_eq_false zo)) ?_;refine zxd (q+1,O7,w8,a7,b',S1,l2,rows++[r1],i7++[dp g (nth S q)],i4++[.slice ra r1.length rc],b3,a3) (⟨b2.trans b9,i1,a0,d5,d1,b4,a5,j2 zo,f3,by dsimp only;rw[show 1002-(q+1)=n from by omega];exact c6⟩)
  refine zc call110 h1 ?_;rintro rv w2 ⟨O2,a7,b',l2,k',l8,h6,e6,e8,f3⟩;have g9:=e6.shape;obtain⟨ra,rc,rfl,_⟩:=g9;have b6:rm (fun j=>1<=j/\j<=3) O1 w1.drew O2 w2:=k';have g8:=d'.drew.upd b6 zd zd;have f8:=f4.drew.upd b6 zd zd;have h9:=e0.drew.upd b6 zd zd;have g6:=e3.drew.upd b6 zd zd;have h':rm (fun j=>1<=j/\j<=3) O1 w1 O2 w2:=(aa zd O1 (sP w1).drew).trans b6;refine zh ?_
  refine af trivial ?_;have k5:w2.cell? (nA db 0)=some nv:=f8.cell 0 rfl;refine bZ 1 5 D9 (enc:=xg) (.slice ra r1.length rc:ix) rfl rfl zk zk zk zk (fun W hE=>JC (hE.cell k5) (isAgg50 _) rfl) (fun _ _=>trivial) rfl rfl rfl zd rfl rfl rfl rfl rfl ?_
  intro m6 w3 g7 l9;have c7:rm (fun _=>False) O2 w2 O2 w3:=aa (fun h=>h) O2 l9;have i0:rm (fun q=>1<=q) O1 w1 O2 w3:=(h'.mono (fun j h=>zo) zd).trans (c7.mono (fun _ h=>h.elim) zd);have l7:=l8.upd c7;have d2:=g8.upd c7 zd fun h=>h
  have h7:=f8.upd c7 zd fun h=>h
  have h8:=h9.upd c7 zd fun h=>h
  have g5:=g6.upd c7 zd fun h=>h
  have h5:=h6.upd c7 zd (fun h=>h) (fun h=>h) fun h=>h
  have g':=e6.upd e8 c7;have d3:=e8.upd c7;refine qN 6 zk rfl ?_;refine aC D9 (d2.row) l7 g7 (by simp) rfl rfl (by simp) (fun u hu c hc=>by rw[oU.1 hu]at hc;rw[oU.1 hc];rfl) (by simp;omega) (by simp;omega) zd rfl ?_;intro b3 w4 O4 c8 b8 l6;have d8:=h7.upd b8 zd zd;refine zh ?_;refine af (trivial) ?_;refine zrf 7 rfl (trivial) rfl ?_;refine qN 8 zk rfl ?_;refine ak (j:=0) d8 rfl (Ju _) c8.one rfl rfl rfl ?_;have c5:rm (fun j=>j=4) O4 w4 O4 (w4.setCell ⟨db,0,none⟩ b3):=CR zd d8.tag rfl;have d7:CY O4 (w4.setCell ⟨db,0,none⟩ b3) 4 db #[b3,tv] 86:=d8.set 0 b3;refine zh ?_;refine af (trivial) ?_;have j1:=l6.upd c5;have e7:=c8.upd c5 zd zd;have a8:=(h5.upd b8 zd zd zd zd).upd c5 zd zd zd zd;have e2:=(g5.upd b8 zd zd).upd c5 zd zd;have f5:=(h8.upd b8 zd zd).upd c5 zd zd;have e5:RwO O4 (w4.setCell ⟨db,0,none⟩ b3) 5 b3 (i4++[.slice ra r1.length rc]) (rows++[r1]):=by
   have i5:=d2.len;refine⟨e7,by simp[i5],fun k hk=>?_⟩;rw[aA,aA,i5]
   by_cases e:k<rows.length
   ·rw[if_pos e,if_pos e];obtain⟨a1,a2⟩:=d2.at_ k e;exact⟨(a1.upd a2 b8).upd (a2.upd b8) c5,(a2.upd b8).upd c5⟩
   rw[if_neg e,if_neg e];simp only[vX,vO,J9]at hk;rw[show k-rows.length=0 from by omega,ar,ar];exact⟨(g'.upd d3 b8).upd (d3.upd b8) c5,(d3.upd b8).upd c5⟩
  have d9:rm (fun q=>1<=q) O1 w1 O4 (w4.setCell ⟨db,0,none⟩ b3):=(i0.trans (b8.mono (fun j h=>zo) zd)).trans (c5.mono (fun j h=>zo) zd);generalize w4.setCell ⟨db,0,none⟩ b3=w5 at *;refine BG zk ?_;refine zh ?_;have g4:=a8.len;have i8:q<b'.length:=by obtain⟨pq,h3⟩:=e'.pre;rw[g4,h3];simp;omega
  have h2:q<S1.length:=zo;have h4:nth S1 q=nth S q:=by obtain⟨pq,h3⟩:=e'.pre;rw[h3,aA,if_pos g0]
  have b0:w5.drew.cell? (nA mb 2)=some a7/\w5.drew.cell? (adr a7 1 q)=some (nth b' q):=⟨a8.blk.cell 2 rfl,by have:=a8.row.sl.cell (i:=q) (j:=0) i8 rfl;rwa[ao]at this⟩
  have sd:∀W,J6 w5.drew W->W.cell? (nA mb 2)=some a7/\W.cell? (adr a7 1 q)=some (nth b' q):=fun W hE=>⟨hE.cell b0.1,hE.cell b0.2⟩
  have j5:w5.drew.cell? (nA db 1)=some tv:=d7.cell 1 rfl;have j4:=hD.ext (b2.trans d9).drew.ext;obtain⟨d0,k0⟩:=a8.at_ q h2;rw[h4]at d0;have m9:=e4 (nth S q);refine aI (fun W=>W.cell? (nA mb 2)=some a7/\W.cell? (adr a7 1 q)=some (nth b' q)) 15 rfl zk ?_;refine zrf 0 rfl b0 rfl ?_;refine zrm 2 rfl b0 rfl ?_;refine zrm 3 rfl b0 rfl ?_;refine zr 4 rfl b0 (fun _=>aq rfl) ?_;refine zrf 5 rfl b0 rfl ?_;refine zt 6 rfl b0 (fun w1 g1=>RV.ld g1.1 rfl) ?_;refine zrm 7 rfl b0 rfl ?_;refine zr 8 rfl b0 (fun _=>ah a8.row.sl.sh ri (Fo _) rfl rfl q rfl i8) ?_;refine zt 9 rfl b0 (fun w1 g1=>RV.ld g1.2 rfl) ?_;refine bV 1 10 zk rfl rfl ?_ ?_
  ·refine zvH (RV.ld j5 rfl) ?_;refine af b0 ?_
   refine qN 10 zk rfl ?_;refine zc K6 (kd w5.drew nb se g (nth S q) _ j4 d0.drew j6 j0) ?_
   rintro j8 w9 ⟨rfl,e1⟩;rw[e1];clear e1 w9;refine zh ?_;refine af b0 ?_;refine qN 11 zk rfl ?_;refine cg mS (enc:=jb) (dp g (nth S q)) rfl rfl rfl zd rfl ?_;intro j9 w6 c' f';refine zh ?_;refine af (sd _ f') ?_;have a':rm (fun _=>False) O4 w5 O4 w6:=aa (fun h=>h) O4 ((sP w5).drew.trans f');have c9:=e2.upd a' zd fun h=>h
   have d6:=d7.upd a' zd fun h=>h
   have d4:=a8.upd a' zd (fun h=>h) (fun h=>h) fun h=>h
   have i3:=j1.upd a';refine qN 12 zk rfl ?_;refine aC mS c9 i3 c' (by simp) rfl rfl (by simp) (by simp[pc]) (by simp;omega) (by simp;omega) zd rfl ?_;intro a3 w7 O7 a6 b7 i2;have a9:=d6.upd b7 zd zd;have a4:=d4.upd b7 zd zd zd zd;have g3:=a4.len;have s7:w7.cell? (nA mb 2)=some a7/\w7.cell? (adr a7 1 q)=some (nth b' q):=⟨a4.blk.cell 2 rfl,by have:=a4.row.sl.cell (i:=q) (j:=0) zo rfl;rwa[ao]at this⟩
   refine zh ?_;refine af (s7) ?_
   refine zrf 13 rfl (s7) rfl ?_;refine qN 14 zk rfl ?_
   refine ak (j:=1) a9 rfl (Jv _) a6.one rfl rfl rfl ?_;have b1:rm (fun j=>j=4) O7 w7 O7 (w7.setCell ⟨db,1,none⟩ a3):=CR zd a9.tag rfl;have d5:CY O7 (w7.setCell ⟨db,1,none⟩ a3) 4 db #[b3,a3] 86:=a9.set 1 a3;have a0:=a4.upd b1 zd zd zd zd;have g2:=a0.len;have s8:(w7.setCell ⟨db,1,none⟩ a3).cell? (nA mb 2)=some a7/\(w7.setCell ⟨db,1,none⟩ a3).cell? (adr a7 1 q)=some (nth b' q):=⟨a0.blk.cell 2 rfl,by have:=a0.row.sl.cell (i:=q) (j:=0) zo rfl;rwa[ao]at this⟩
   refine zh ?_;refine af (s8) ?_
   have b4:=a6.upd b1 zd zd;have i1:=i2.upd b1;have d1:=((e5.upd a' zd fun h=>h).upd b7 zd zd).upd b1 zd zd;have a5:=((f5.upd a' zd fun h=>h).upd b7 zd zd).upd b1 zd zd;have b9:rm (fun q=>1<=q) O1 w1 O7 (w7.setCell ⟨db,1,none⟩ a3):=((d9.trans (a'.mono (fun _ h=>h.elim) zd)).trans (b7.mono (fun j h=>zo) zd)).trans (b1.mono (fun j h=>zo) zd);generalize w7.setCell ⟨db,1,none⟩ a3=w8 at *;have l':=s8.1;refine BG zk ?_;refine zh ?_;refine zvH (aM a0.row.sl.sh ri rfl) ?_
   by_cases b5:1000<S1.length
   ·rw[if_pos b5]at c6;rw[<-c6];refine zTH rfl ((decide_eq_true zo)) ?_;refine zv (aF Gu (CZ _) rfl (by first|rfl|(simp only[yJ,DA];rfl)) rfl rfl) ?_;refine zsa (us:=#[nS,nS]) a5 (uV _) ?_;have f9:=a5.setRow (us:=#[nS,nS]);have f6:rm (fun j=>j=7) O7 w8 O7 (w8.setRow cb #[nS,nS]):=tp zd a5.tag rfl;refine zh ?_;refine bA rfl rfl rfl (f9.cellsAdd) (DN _) (uV _) (⟨((b2.trans b9).trans (f6.mono (fun j h=>zo) zd)).ext,rfl⟩)
   rw[if_neg b5]at c6;refine zFH rfl ((decide_eq_false zo)) ?_;refine zxd (q+1,O7,w8,a7,b',S1,l2,rows++[r1],i7++[dp g (nth S q)],i4++[.slice ra r1.length rc],b3,a3) (⟨b2.trans b9,i1,a0,d5,d1,b4,a5,j2 zo,f3,by dsimp only;rw[show 1002-(q+1)=n from by omega];exact c6⟩)
  refine zc K6 (kd w5.drew nb se g (nth S q) _ j4 d0.drew j6 j0) ?_;rintro j8 w9 ⟨rfl,e1⟩;rw[e1];clear e1 w9;refine zh ?_
  refine af b0 ?_;refine bZ 1 11 mS (enc:=jb) (dp g (nth S q)) rfl rfl zk zk zk zk (fun W hE=>JC (hE.cell j5) (Kp _) rfl) sd rfl rfl rfl zd rfl rfl rfl rfl rfl ?_
  intro j9 w6 c' f';have a':rm (fun _=>False) O4 w5 O4 w6:=aa (fun h=>h) O4 ((sP w5).drew.trans f');have c9:=e2.upd a' zd fun h=>h
  have d6:=d7.upd a' zd fun h=>h
  have d4:=a8.upd a' zd (fun h=>h) (fun h=>h) fun h=>h
  have i3:=j1.upd a';refine qN 12 zk rfl ?_;refine aC mS c9 i3 c' (by simp) rfl rfl (by simp) (by simp[pc]) (by simp;omega) (by simp;omega) zd rfl ?_;intro a3 w7 O7 a6 b7 i2;have a9:=d6.upd b7 zd zd;have a4:=d4.upd b7 zd zd zd zd;have g3:=a4.len;have s7:w7.cell? (nA mb 2)=some a7/\w7.cell? (adr a7 1 q)=some (nth b' q):=⟨a4.blk.cell 2 rfl,by have:=a4.row.sl.cell (i:=q) (j:=0) zo rfl;rwa[ao]at this⟩
  refine zh ?_;refine af (s7) ?_
  refine zrf 13 rfl (s7) rfl ?_;refine qN 14 zk rfl ?_
  refine ak (j:=1) a9 rfl (Jv _) a6.one rfl rfl rfl ?_;have b1:rm (fun j=>j=4) O7 w7 O7 (w7.setCell ⟨db,1,none⟩ a3):=CR zd a9.tag rfl;have d5:CY O7 (w7.setCell ⟨db,1,none⟩ a3) 4 db #[b3,a3] 86:=a9.set 1 a3;have a0:=a4.upd b1 zd zd zd zd;have g2:=a0.len;have s8:(w7.setCell ⟨db,1,none⟩ a3).cell? (nA mb 2)=some a7/\(w7.setCell ⟨db,1,none⟩ a3).cell? (adr a7 1 q)=some (nth b' q):=⟨a0.blk.cell 2 rfl,by have:=a0.row.sl.cell (i:=q) (j:=0) zo rfl;rwa[ao]at this⟩
  refine zh ?_;refine af (s8) ?_
  have b4:=a6.upd b1 zd zd;have i1:=i2.upd b1;have d1:=((e5.upd a' zd fun h=>h).upd b7 zd zd).upd b1 zd zd;have a5:=((f5.upd a' zd fun h=>h).upd b7 zd zd).upd b1 zd zd;have b9:rm (fun q=>1<=q) O1 w1 O7 (w7.setCell ⟨db,1,none⟩ a3):=((d9.trans (a'.mono (fun _ h=>h.elim) zd)).trans (b7.mono (fun j h=>zo) zd)).trans (b1.mono (fun j h=>zo) zd);generalize w7.setCell ⟨db,1,none⟩ a3=w8 at *;have l':=s8.1;refine BG zk ?_;refine zh ?_;refine zvH (aM a0.row.sl.sh ri rfl) ?_
  by_cases b5:1000<S1.length
  ·rw[if_pos b5]at c6;rw[<-c6];refine zTH rfl ((decide_eq_true zo)) ?_;refine zv (aF Gu (CZ _) rfl (by first|rfl|(simp only[yJ,DA];rfl)) rfl rfl) ?_;refine zsa (us:=#[nS,nS]) a5 (uV _) ?_;have f9:=a5.setRow (us:=#[nS,nS]);have f6:rm (fun j=>j=7) O7 w8 O7 (w8.setRow cb #[nS,nS]):=tp zd a5.tag rfl;refine zh ?_;refine bA rfl rfl rfl (f9.cellsAdd) (DN _) (uV _) (⟨((b2.trans b9).trans (f6.mono (fun j h=>zo) zd)).ext,rfl⟩)
  rw[if_neg b5]at c6;refine zFH rfl ((decide_eq_false zo)) ?_;refine zxd (q+1,O7,w8,a7,b',S1,l2,rows++[r1],i7++[dp g (nth S q)],i4++[.slice ra r1.length rc],b3,a3) (⟨b2.trans b9,i1,a0,d5,d1,b4,a5,j2 zo,f3,by dsimp only;rw[show 1002-(q+1)=n from by omega];exact c6⟩)
 intro n2;obtain rfl:q=S.length:=dF n2;have k3:DC (cM se g) (dp g)=some (rows,i7):=by
  rw[<-c6];obtain⟨n,hn⟩:∃n,1002-S.length=n+1:=⟨1001-S.length,zo⟩
  rw[hn,Ge,if_neg zo]
 rw[k3];have o1:=d'.row.one;have o2:=e3.one;refine zh ?_;refine zv (ai (us:=[nv,tv]) f4.cellsAdd (DN _) (uV _) rfl) ?_;refine zsb (us:=#[nv,tv]) e0 (uV _) (by simp only[yJ,o1,o2];rfl) ?_;have f9:=e0.setRow (us:=#[nv,tv]);have f6:rm (fun j=>j=7) O1 w1 O1 (w1.setRow cb #[nv,tv]):=tp zd e0.tag rfl;have k1:=d'.upd f6 zd zd;have j':=e3.upd f6 zd zd;refine zh ?_;refine bA rfl rfl rfl (f9.cellsAdd) (DN _) (uV _) (⟨(b2.trans (f6.mono (fun j h=>zo) zd)).ext,nv,tv,rfl,o1,o2,k1.rows,j'.sl⟩)
def Bj(l:List Nat):Nat:=l.foldl max 0
theorem Bi(l:List Nat)(x:Nat):Bj (l++[x])=max (Bj l) x:=by unfold Bj;rw[J0];rfl
theorem F0{n:Nat}(h0:0<n):∀(l:List Nat),(∀x∈l,x<n)->Bj l<n:=by
 have a0:∀(l:List Nat) (a:Nat),a<n->(∀x∈l,x<n)->l.foldl max a<n:=fun l=>by
  induction l with
  |nil=>exact fun a ha _=>ha
  |cons x l ih=>exact fun a ha h=>ih _ (by have:=h x (by simp);exact Nat.max_lt.2 ⟨ha,this⟩) fun y hy=>h y (by simp[hy])
 exact fun l h=>a0 l 0 h0 h
theorem Di(l:List Nat)(sv:ix)(w:ow)(h:Sl aX 1 w sv l)(a1:0<l.length):Js zI 80 [sv] w fun v w'=>v=nI ((Bj l:Nat):Int)/\w'=w:=by
 have hl:=h.len_le;have m0:w.cell? (adr sv 1 0)=some (nI ((nth l 0:Nat):Int)):=by have:=h.cell (j:=0) a1 rfl;rwa[ao]at this
 have e1:nth l 0=Bj (l.take 1):=by
  have h1:=aR a1;rw[h1];simp[Bj]
 refine rj func80 ntmps80 rfl rfl ?_;refine zh ?_
 refine zFH rfl ((decide_eq_false zo)) ?_;rw[e1];refine zh ?_
 refine zlp (fun z:Nat=>[(0,sv),(3,nI ((Bj (l.take z):Nat):Int)),(4,nI z)]) (fun z=>w) (fun z=>1<=z/\z<=l.length) (fun z=>l.length-z) 1 (⟨pZ _,a1⟩) ?_;rintro q ⟨a3,hq⟩;refine zh ?_
 refine zC ?_ ?_
 ·intro a0;replace a0:q<l.length:=dT a0;have m1:w.cell? (adr sv 1 q)=some (nI ((nth l q:Nat):Int)):=by have:=h.cell (j:=0) a0 rfl;rwa[ao]at this
  refine zh ?_;refine zvH (gH rfl rfl) ?_
  rw[show max ((Bj (l.take q):Nat):Int) ((nth l q:Nat):Int)=((Bj (l.take (q+1)):Nat):Int)from by rw[aR a0,Bi];omega];refine zxd (q+1) (⟨zo,a0⟩)
 intro a2;obtain rfl:q=l.length:=dF a2;rw[su];refine zh ?_;refine ae rfl rfl (⟨rfl,rfl⟩)
theorem Df(l:List Nat)(sv:ix)(w:ow)(h:Sl aX 1 w sv l)(a1:0<l.length):Js zI 114 [sv] w fun v w'=>(∃k:Nat,v=nI (k:Int))/\w'=w:=by
 have hl:=h.len_le;have m0:w.cell? (adr sv 1 0)=some (nI ((nth l 0:Nat):Int)):=by have:=h.cell (j:=0) a1 rfl;rwa[ao]at this
 refine rj func114 ntmps114 rfl rfl ?_;refine zh ?_
 refine zFH rfl ((decide_eq_false zo)) ?_;refine zlp (fun z:Nat×Nat=>[(0,sv),(3,nI ((z.2:Nat):Int)),(4,nI z.1)]) (fun z=>w) (fun z=>1<=z.1/\z.1<=l.length) (fun z=>l.length-z.1) (1,nth l 0) (⟨pZ _,a1⟩) ?_
 rintro⟨q,k⟩ ⟨a2,hq⟩;dsimp only at a2 hq ⊢;refine zh ?_;refine zC ?_ ?_
 ·intro a0;replace a0:q<l.length:=dT a0;have m1:w.cell? (adr sv 1 q)=some (nI ((nth l q:Nat):Int)):=by have:=h.cell (j:=0) a0 rfl;rwa[ao]at this
  refine zh ?_;refine zvH (Gq rfl rfl) ?_
  rw[show min ((k:Nat):Int) ((nth l q:Nat):Int)=((min k (nth l q):Nat):Int)from by omega];refine zxd (q+1,min k (nth l q)) (⟨by dsimp only;omega,a0⟩)
 intro a3;refine zh ?_;refine ae rfl rfl (⟨⟨k,rfl⟩,rfl⟩)
structure RightD(rows:List (List Nat))(tls:List Nat):Prop where
 pos:0<rows.length
 le:rows.length<=1000
 tl:tls.length=rows.length
 row:∀j,j<rows.length->(nth rows j).length=37/\∀m,m<37->nth (nth rows j) m<rows.length
theorem DI.right{step:List Int->Int->List Int}{a0:List Int->Nat}{S:List (List Int)}{rows:List (List Nat)}{a1:List Nat}(h:DI step a0 S.length S rows a1):RightD rows a1:=by
 have h1:=h.rl;have h2:=h.p0;have h3:=h.len;exact⟨zo,zo,by rw[h.tl,h1],fun j hj=>⟨(h.row j zo).1,fun m hm=>by have:=((h.row j zo).2 m hm).1;omega⟩⟩
theorem jR(nv tv:ix)(rows:List (List Nat))(a6:List Nat)(w:ow)(hn:RowsN w nv rows)(b0:Sl jb 1 w tv a6)(hr:RightD rows a6):Js zI 68 [.agg #[nv,tv]] w fun v w'=>v=.bool true/\J6 w w':=by
 obtain⟨vs,a8,b1,a9⟩:=hn;have a5:=hr.pos;have b3:=hr.le;have a':=hr.tl;refine rj func68 ntmps68 rfl rfl ?_;refine zg ?_;refine aE (au w) 1 zo rfl rfl ?_;intro db w1 O1 a7 b5 b6 a3;have c0:w1.cell? (nA db 0)=some nv:=a7.cell 0 rfl;have c1:w1.cell? (nA db 1)=some tv:=a7.cell 1 rfl;have a0:=a8.ext a3;have a4:=b0.ext a3;refine zg ?_;refine zv (RV.ld c0 rfl) ?_;refine zvG (K9 a0 ri rfl) ?_;refine ay (d:=11) rfl (b':=false) ((by rw[beq_eq_false_iff_ne];omega)) ?_;refine zg ?_;refine ay (d:=15) rfl (b':=false) ((decide_eq_false zo)) ?_;refine zg ?_;refine zvG (RV.ld c1 rfl) ?_;refine zvG (K9 a4 GY rfl) ?_;refine zFG rfl ((by rw[bne_eq_false_iff_eq];omega)) ?_;refine zv (RV.ld c0 rfl) ?_;refine zvG (K9 a0 ri rfl) ?_;refine zlp (fun z:Nat×ow=>[(3,nI vs.length),(23,nv),(24,nI vs.length),(25,nI z.1)]) (fun z=>z.2) (fun z=>z.1<=vs.length/\z.2=w1) (fun z=>vs.length-z.1) (0,w1) (⟨ps _,rfl⟩) ?_;rintro⟨q,w2⟩ ⟨hq,rfl⟩;dsimp only at hq ⊢;refine zg ?_;refine zC ?_ ?_
 ·intro a2;replace a2:q<vs.length:=by have:=of_decide_eq_true a2;omega
  have m1:w2.cell? (adr nv 1 q)=some (nth vs q):=by have:=a0.cell (j:=0) a2 rfl;rwa[ao]at this
  obtain⟨r1,r2⟩:=hr.row q zo;have hk:=(a9 q zo).ext a3;have b2:Bj (nth rows q)<rows.length:=F0 a5 _ fun x hx=>by
   obtain⟨j,hj,rfl⟩:=cI hx;exact r2 j zo
  refine zg ?_;refine zv (tG a0 ri (Fo _) rfl rfl _ rfl zo) ?_
  refine zvG (RV.ld m1 rfl) ?_;refine zvG (aM hk.sh ln rfl) ?_
  refine ay (d:=32) rfl (b':=false) ((by rw[r1];rfl)) ?_;refine zg ?_
  refine zc call114 (Df (nth rows q) _ w2 hk zo) ?_;rintro v w9 ⟨⟨k,rfl⟩,a1⟩;rw[a1];clear a1 w9;refine zg ?_
  refine ay (d:=37) rfl (b':=false) ((decide_eq_false zo)) ?_;refine zg ?_
  refine zc call80 (Di (nth rows q) _ w2 hk zo) ?_;rintro v w9 ⟨rfl,a1⟩;rw[a1];clear a1 w9;refine zg ?_
  refine zFG rfl ((decide_eq_false zo)) ?_;refine zvG (zl rfl rfl (uw zo)) ?_
  refine zxd (q+1,w2) (⟨a2,rfl⟩)
 intro b4;refine zg ?_;refine ae rfl rfl (⟨rfl,a3⟩)
def runN(nx:Nat->Nat->Nat)(w:List Nat)(q:Nat):Nat:=w.foldl nx q
def Alike(nx:Nat->Nat->Nat)(tl:Nat->Nat)(p q:Nat):Prop:=∀w:List Nat,(∀m∈w,m<37)->tl (runN nx w p)=tl (runN nx w q)
theorem Alike.step{nx:Nat->Nat->Nat}{tl:Nat->Nat}{p q:Nat}(h:Alike nx tl p q){m:Nat}(hm:m<37):Alike nx tl (nx p m) (nx q m):=fun w hw=>h (m::w) fun x hx=>by
 rcases rI.1 hx with rfl|hx
 ·exact hm
 exact hw x hx
theorem Alike.symm{nx:Nat->Nat->Nat}{tl:Nat->Nat}{p q:Nat}(h:Alike nx tl p q):Alike nx tl q p:=fun w hw=>(h w hw).symm
structure Blk(nx:Nat->Nat->Nat)(tl:Nat->Nat)(n:Nat)(bl:List Nat)(st:Nat->List Nat)(many:Nat):Prop where
 len:bl.length=n
 lt:∀i,i<n->nth bl i<many
 mem:∀b,b<many->∀x,x∈st b↔x<n/\nth bl x=b
 nd:∀b,b<many->(st b).Nodup
 ne:∀b,b<many->st b≠[]
 told:∀p q,p<n->q<n->nth bl p=nth bl q->tl p=tl q
 alike:∀p q,p<n->q<n->Alike nx tl p q->nth bl p=nth bl q
theorem Blk.many_le{nx:Nat->Nat->Nat}{tl:Nat->Nat}{n:Nat}{bl:List Nat}{st:Nat->List Nat}{many:Nat}(h:Blk nx tl n bl st many):many<=n:=by
 have a0:∀b,b<many->(st b).headD 0∈st b:=fun b hb=>by
  have:=h.ne b hb
  cases hs:st b with
  |nil=>exact absurd hs this
  |cons a r=>simp
 have a1:((AK many).map fun b=>(st b).headD 0).Nodup:=by
  refine List.pairwise_map.2 (Kb ?_ J4);intro a b ha hb a2 e;have ha:=tR.1 ha;have hb:=tR.1 hb;have h1:=((h.mem a ha _).1 (a0 a ha)).2;have h2:=((h.mem b hb _).1 (a0 b hb)).2;exact a2 (by rw[<-h1,<-h2,e])
 have:=gu a1 (n:=n) fun x hx=>by
  obtain⟨b,hb,rfl⟩:=FX.1 hx;have hb:=tR.1 hb;exact((h.mem b hb _).1 (a0 b hb)).1
 simpa using this
def Pend(nx:Nat->Nat->Nat)(n:Nat)(bl:List Nat)(td:Nat->Nat->Prop)(m0:Nat)(P0:Nat->Prop)(rem:Nat->Prop):Prop:=
 ∀p q m,p<n->q<n->m<37->nth bl p=nth bl q->nth bl (nx p m)≠nth bl (nx q m)->(td (nth bl (nx p m)) m\/td (nth bl (nx q m)) m)\/(m=m0/\¬(P0 p↔P0 q)/\rem (nth bl p))
def Todo(nx:Nat->Nat->Nat)(n:Nat)(bl:List Nat)(td:Nat->Nat->Prop):Prop:=
 ∀p q m,p<n->q<n->m<37->nth bl p=nth bl q->nth bl (nx p m)≠nth bl (nx q m)->td (nth bl (nx p m)) m\/td (nth bl (nx q m)) m
theorem Todo.take{nx:Nat->Nat->Nat}{n:Nat}{bl:List Nat}{td a1:Nat->Nat->Prop}(h:Todo nx n bl td)(b0 m0:Nat)(ht:∀b m,td b m->a1 b m\/(b=b0/\m=m0))(rem:Nat->Prop)(hr:∀p,p<n->nth bl (nx p m0)=b0->rem (nth bl p)):
  Pend nx n bl a1 m0 (fun p=>nth bl (nx p m0)=b0) rem:=fun p q m hp hq hm e a0=>by
 rcases h p q m hp hq hm e a0 with h1|h1
 ·rcases ht _ _ h1 with h2|⟨h2,rfl⟩
  ·exact .inl (.inl h2)
  exact .inr ⟨rfl,fun hi=>a0 (by rw[h2,hi.1 h2]),hr p hp h2⟩
 rcases ht _ _ h1 with h2|⟨h2,rfl⟩
 ·exact .inl (.inr h2)
 exact .inr ⟨rfl,fun hi=>a0 (by rw[h2,hi.2 h2]),by rw[e];exact hr q hq h2⟩
theorem Pend.done{nx:Nat->Nat->Nat}{n:Nat}{bl:List Nat}{td:Nat->Nat->Prop}{m0:Nat}{P0 rem:Nat->Prop}(h:Pend nx n bl td m0 P0 rem)(hr:∀b,¬rem b):Todo nx n bl td:=fun p q m hp hq hm e a0=>by
 rcases h p q m hp hq hm e a0 with h1|⟨_,_,h1⟩
 ·exact h1
 exact absurd h1 (hr _)
theorem Pend.whole{nx:Nat->Nat->Nat}{n:Nat}{bl:List Nat}{td:Nat->Nat->Prop}{m0:Nat}{P0 rem a0:Nat->Prop}(h:Pend nx n bl td m0 P0 rem){k:Nat}(hk:∀p,p<n->nth bl p=k->P0 p)(hr:∀b,rem b->b=k\/a0 b):Pend nx n bl td m0 P0 a0:=fun p q m hp hq hm e a1=>by
 rcases h p q m hp hq hm e a1 with h1|⟨h1,h2,h3⟩
 ·exact .inl h1
 rcases hr _ h3 with h4|h4
 ·exact absurd ⟨fun _=>hk q hq (e.symm.trans h4),fun _=>hk p hp h4⟩ h2
 exact .inr ⟨h1,h2,h4⟩
structure Cut(n:Nat)(bl bl':List Nat)(st st':Nat->List Nat)(many k:Nat)(L:List Nat):Prop where
 len:bl'.length=n
 bl:∀x,x<n->nth bl' x=if x∈L then many else nth bl x
 new:st' many=L
 old:st' k=(st k).filter fun x=>!(L.contains x)
 oth:∀b,b≠many->b≠k->st' b=st b
theorem Blk.cut{nx:Nat->Nat->Nat}{tl:Nat->Nat}{n:Nat}{bl a4:List Nat}{st a6:Nat->List Nat}{many k:Nat}{L:List Nat}(h:Blk nx tl n bl st many)(c:Cut n bl a4 st a6 many k L)(hk:k<many)(hL:∀x∈L,x<n/\nth bl x=k)(a':L.Nodup)(b0:L≠[])(b1:L.length<(st k).length) 
  (a9:∀p q,p<n->q<n->Alike nx tl p q->p∈L->q∈L):Blk nx tl n a4 a6 (many+1):=by
 have a0:∀x,x<n->x∉L->nth a4 x=nth bl x:=fun x hx hn=>by rw[c.bl x hx,if_neg hn]
 have a3:∀x,x<n->x∈L->nth a4 x=many:=fun x hx hn=>by rw[c.bl x hx,if_pos hn]
 refine⟨c.len,fun i hi=>?_,fun b hb x=>?_,fun b hb=>?_,fun b hb=>?_,fun p q hp hq e=>?_,fun p q hp hq ha=>?_⟩
 ·have:=h.lt i hi
  by_cases a7:i∈L
  ·rw[a3 i hi a7];omega
  rw[a0 i hi a7];omega
 ·by_cases a1:b=many
  ·subst a1;rw[c.new]
   constructor
   ·intro hx;exact⟨(hL x hx).1,a3 x (hL x hx).1 hx⟩
   rintro⟨hx,e⟩;refine yY fun hn=>?_
   rw[a0 x hx hn]at e;have:=h.lt x hx;omega
  have a8:b<many:=zo
  by_cases a2:b=k
  ·subst a2;rw[c.old,As,h.mem b a8 x]
   constructor
   ·rintro⟨⟨h1,h2⟩,h3⟩;have hn:x∉L:=by simpa using h3
    exact⟨h1,by rw[a0 x h1 hn];exact h2⟩
   rintro⟨h1,h2⟩;have hn:x∉L:=fun hx=>by rw[a3 x h1 hx]at h2;omega
   exact⟨⟨h1,by rw[<-a0 x h1 hn];exact h2⟩,by simpa using hn⟩
  rw[c.oth b a1 a2,h.mem b a8 x]
  constructor
  ·rintro⟨h1,h2⟩;have hn:x∉L:=fun hx=>a2 (by rw[<-h2];exact(hL x hx).2)
   exact⟨h1,by rw[a0 x h1 hn];exact h2⟩
  rintro⟨h1,h2⟩;have hn:x∉L:=fun hx=>a1 (by rw[<-h2];exact a3 x h1 hx)
  exact⟨h1,by rw[<-a0 x h1 hn];exact h2⟩
 ·by_cases a1:b=many
  ·subst a1;rw[c.new];exact a'
  by_cases a2:b=k
  ·subst a2;rw[c.old];exact(h.nd b zo).filter _
  rw[c.oth b a1 a2];exact h.nd b zo
 ·by_cases a1:b=many
  ·subst a1;rw[c.new];exact b0
  by_cases a2:b=k
  ·subst a2;rw[c.old];intro e;have a5:st b ⊆ L:=fun x hx=>by
    refine yY fun hn=>?_
    have:x∈(st b).filter fun x=>!(L.contains x):=As.2 ⟨hx,by simpa using hn⟩
    rw[e]at this;simp at this
   have:=(h.nd b zo).length_le_of_subset a5;omega
  rw[c.oth b a1 a2];exact h.ne b zo
 ·refine h.told p q hp hq ?_
  by_cases h1:p∈L
  ·by_cases h2:q∈L
   ·rw[(hL p h1).2,(hL q h2).2]
   rw[a3 p hp h1,a0 q hq h2]at e;have:=h.lt q hq;omega
  by_cases h2:q∈L
  ·rw[a0 p hp h1,a3 q hq h2]at e;have:=h.lt p hp;omega
  rw[a0 p hp h1,a0 q hq h2]at e;exact e
 by_cases h1:p∈L
 ·rw[a3 p hp h1,a3 q hq (a9 p q hp hq ha h1)]
 have h2:q∉L:=fun hx=>h1 (a9 q p hq hp ha.symm hx)
 rw[a0 p hp h1,a0 q hq h2];exact h.alike p q hp hq ha
theorem Pend.cut{nx:Nat->Nat->Nat}{tl:Nat->Nat}{n:Nat}{bl a6:List Nat}{st b3:Nat->List Nat}{many k m0:Nat}{L:List Nat}{td a3:Nat->Nat->Prop}{P0 rem a5:Nat->Prop}(hB:Blk nx tl n bl st many)(h:Pend nx n bl td m0 P0 rem)(c:Cut n bl a6 st b3 many k L)(_:k<many) 
  (b1:∀p m,p<n->m<37->nx p m<n) (hL:∀x,x∈L↔x<n/\nth bl x=k/\P0 x)
  (ht:∀b m,td b m->a3 b m) (b4:∀m,m<37->td k m->a3 many m) (b0:∀m,m<37->a3 many m\/a3 k m) (hr:∀b,rem b->b=k\/a5 b):Pend nx n a6 a3 m0 P0 a5:=fun p q m hp hq hm e b2=>by
 have a0:∀x,x<n->x∉L->nth a6 x=nth bl x:=fun x hx hn=>by rw[c.bl x hx,if_neg hn]
 have a2:∀x,x<n->x∈L->nth a6 x=many:=fun x hx hn=>by rw[c.bl x hx,if_pos hn]
 have a4:∀x,x∈L->nth bl x=k:=fun x hx=>((hL x).1 hx).2.1
 have a1:nth bl p=nth bl q/\(p∈L↔q∈L):=by
  by_cases h1:p∈L
  ·by_cases h2:q∈L
   ·exact⟨by rw[a4 p h1,a4 q h2],by simp[h1,h2]⟩
   rw[a2 p hp h1,a0 q hq h2]at e;have:=hB.lt q hq;omega
  by_cases h2:q∈L
  ·rw[a0 p hp h1,a2 q hq h2]at e;have:=hB.lt p hp;omega
  rw[a0 p hp h1,a0 q hq h2]at e;exact⟨e,by simp[h1,h2]⟩
 have hx:=b1 p m hp hm;have hy:=b1 q m hq hm;have hh:=h p q m hp hq hm a1.1;generalize nx p m=x at *;generalize nx q m=y at *;have a':∀z,z<n->td (nth bl z) m->a3 (nth a6 z) m:=fun z hz a9=>by
  by_cases h1:z∈L
  ·rw[a2 z hz h1];rw[a4 z h1]at a9;exact b4 m hm a9
  rw[a0 z hz h1];exact ht _ _ a9
 by_cases a7:nth bl x=nth bl y
 ·by_cases h1:x∈L
  ·by_cases h2:y∈L
   ·exact absurd (by rw[a2 x hx h1,a2 y hy h2]) b2
   have e1:=a4 x h1;rw[a2 x hx h1,a0 y hy h2,<-a7,e1];exact .inl (b0 m hm)
  by_cases h2:y∈L
  ·have e1:=a4 y h2;rw[a2 y hy h2,a0 x hx h1,a7,e1];exact .inl ((b0 m hm).symm)
  exact absurd (by rw[a0 x hx h1,a0 y hy h2,a7]) b2
 rcases hh a7 with(h1|h1)|⟨h1,h2,h3⟩
 ·exact .inl (.inl (a' x hx h1))
 ·exact .inl (.inr (a' y hy h1))
 by_cases a8:nth bl p=k
 ·exact absurd ⟨fun a=>((hL q).1 (a1.2.1 ((hL p).2 ⟨hp,a8,a⟩))).2.2,fun a=>((hL p).1 (a1.2.2 ((hL q).2 ⟨hq,by rw[<-a1.1];exact a8,a⟩))).2.2⟩ h2
 have b5:p∉L:=fun a=>a8 (a4 p a)
 rcases hr _ h3 with h4|h4
 ·exact absurd h4 a8
 exact .inr ⟨h1,h2,by rw[a0 p hp b5];exact h4⟩
theorem Blk.final{nx:Nat->Nat->Nat}{tl:Nat->Nat}{n:Nat}{bl:List Nat}{st:Nat->List Nat}{many:Nat}(h:Blk nx tl n bl st many)(ht:Todo nx n bl fun _ _=>False)(a0:∀p m,p<n->m<37->nx p m<n)(p q:Nat)(hp:p<n)(hq:q<n):nth bl p=nth bl q↔Alike nx tl p q:=by
 refine⟨fun e w=>?_,h.alike p q hp hq⟩
 induction w generalizing p q with
 |nil=>exact fun _=>h.told p q hp hq e
 |cons m w ih=>
  intro hw;have hm:=hw m (by simp);refine ih (nx p m) (nx q m) (a0 p m hp hm) (a0 q m hq hm) (yY fun a1=>?_) fun x hx=>hw x (by simp[hx])
  rcases ht p q m hp hq hm e a1 with h1|h1<;>exact h1
section
variable(cl:Nat→Nat)(nx:Nat→Nat→Nat)
def yq(F:List Nat)(t:Nat):Option Nat:=F.findIdx? fun o=>cl o==cl t
def fnI(F:List Nat)(t:Nat):Nat:=(yq cl F t).getD F.length
def fnF(F:List Nat)(t:Nat):List Nat:=if(yq cl F t).isSome=true then F else F++[t]
def ju(p:Nat)(F:List Nat):Nat->List Nat×List Nat
 |0=>(F,[])
 |m+1=>(fnF cl (ju p F m).1 (nx p m),(ju p F m).2++[fnI cl (ju p F m).1 (nx p m)])
end
theorem BN{cl:Nat->Nat}{F:List Nat}{t k:Nat}(h:yq cl F t=some k):k<F.length/\cl (nth F k)=cl t:=by
 obtain⟨h1,h2,_⟩:=BV.1 h;exact⟨h1,by rw[aB h1];simpa using h2⟩
theorem BQ{cl:Nat->Nat}{F:List Nat}{t:Nat}(h:yq cl F t=none):∀o∈F,cl o≠cl t:=by
 intro o ho e;have:=Jo.1 h o ho;simp[e]at this
theorem Ga(cl:Nat->Nat)(F:List Nat)(t:Nat):∃r,fnF cl F t=F++r:=by
 unfold fnF
 split
 ·exact⟨[],by simp⟩
 exact⟨_,rfl⟩
theorem GX(cl:Nat->Nat)(F:List Nat)(t:Nat):fnI cl F t<(fnF cl F t).length/\cl (nth (fnF cl F t) (fnI cl F t))=cl t:=by
 unfold fnI fnF
 cases h:yq cl F t with
 |some k=>exact BN h
 |none=>
  simp only[Option.getD_none,Option.isSome_none,Bool.false_eq_true,if_false];exact⟨by simp,by rw[aA,if_neg zo,Gb,ar]⟩
structure Reps(cl:Nat->Nat)(n:Nat)(F:List Nat):Prop where
 lt:∀o∈F,o<n
 nd:F.Pairwise fun a b=>cl a≠cl b
theorem Reps.add{cl:Nat->Nat}{n:Nat}{F:List Nat}(h:Reps cl n F){t:Nat}(ht:t<n):Reps cl n (fnF cl F t):=by
 unfold fnF
 cases hf:yq cl F t with
 |some k=>exact h
 |none=>
  have a0:=BQ hf
  exact⟨fun o ho=>by
   rcases rU.1 ho with ho|ho
   ·exact h.lt o ho
   rw[oU.1 ho];exact ht,List.pairwise_append.2 ⟨h.nd,by simp,fun a ha b hb=>by rw[oU.1 hb];exact a0 a ha⟩⟩
theorem Reps.len{cl:Nat->Nat}{n:Nat}{F:List Nat}(h:Reps cl n F):F.length<=n:=
 gu (h.nd.imp fun {a b} a0 e=>a0 (by rw[e])) h.lt
structure RowR(cl:Nat->Nat)(nx:Nat->Nat->Nat)(n p:Nat)(F F' r:List Nat)(m:Nat):Prop where
 pre:∃q,F'=F++q
 len:r.length=m
 lt:∀j,j<m->nth r j<F'.length/\cl (nth F' (nth r j))=cl (nx p j)
 reps:Reps cl n F'
theorem qZ{cl:Nat->Nat}{nx:Nat->Nat->Nat}{n p:Nat}{F:List Nat}(hF:Reps cl n F)(a3:∀m,m<37->nx p m<n):∀m,m<=37->RowR cl nx n p F (ju cl nx p F m).1 (ju cl nx p F m).2 m
 |0,_=>⟨⟨[],by simp[ju]⟩,rfl,fun j hj=>absurd hj (oD j),hF⟩
 |m+1,hm=>by
  have ih:=qZ hF a3 m zo;unfold ju;generalize ju cl nx p F m=R at *;obtain⟨F1,r⟩:=R;dsimp only at ih ⊢;obtain⟨q,hq⟩:=ih.pre;obtain⟨q2,a0⟩:=Ga cl F1 (nx p m);have a5:=GX cl F1 (nx p m);have a4:=ih.len;have a6:F1.length<=(fnF cl F1 (nx p m)).length:=by rw[a0];simp
  refine⟨⟨q++q2,by rw[a0,hq,C9]⟩,by simp[a4],fun j hj=>?_,ih.reps.add (a3 m zo)⟩;rw[aA]
  by_cases e:j<r.length
  ·rw[if_pos e];obtain⟨a1,a2⟩:=ih.lt j zo;exact⟨zo,by rw[a0,aA,if_pos a1];exact a2⟩
  rw[if_neg e,show j-r.length=0 from by omega,ar];obtain rfl:j=m:=zo;exact a5
def fS(cl:Nat->Nat)(nx:Nat->Nat->Nat)(tl:Nat->Nat):Nat->Nat->List Nat->List (List Nat)->List Nat->List (List Nat)×List Nat
 |0,_,_,rows,tls=>(rows,tls)
 |n+1,i,F,rows,tls=>
  if i<F.length then fS cl nx tl n (i+1) (ju cl nx (nth F i) F 37).1 (rows++[(ju cl nx (nth F i) F 37).2]) (tls++[tl (nth F i)])
  else(rows,tls)
def nxD(rows:List (List Nat))(q m:Nat):Nat:=nth (nth rows q) m
def aU(cl:Nat->Nat)(rows:List (List Nat))(a0:List Nat):List (List Nat)×List Nat:=fS cl (nxD rows) (nth a0) (rows.length+1) 0 [0] [] []
structure LI(cl:Nat->Nat)(nx:Nat->Nat->Nat)(tl:Nat->Nat)(n i:Nat)(F:List Nat)(rows:List (List Nat))(tls:List Nat):Prop where
 le:i<=F.length
 rl:rows.length=i
 tln:tls.length=i
 p0:0<F.length
 fst:nth F 0=0
 reps:Reps cl n F
 row:∀j,j<i->(nth rows j).length=37/\∀m,m<37->nth (nth rows j) m<F.length/\cl (nth F (nth (nth rows j) m))=cl (nx (nth F j) m)
 tel:∀j,j<i->nth tls j=tl (nth F j)
theorem nt{cl:Nat->Nat}{nx:Nat->Nat->Nat}{tl:Nat->Nat}{n:Nat}(h0:0<n):LI cl nx tl n 0 [0] [] []:=⟨zd,rfl,rfl,zd,ar _ _,⟨fun o ho=>by rw[oU.1 ho];exact h0,by simp⟩,fun j hj=>absurd hj (oD j),fun j hj=>absurd hj (oD j)⟩
theorem LI.next{cl:Nat->Nat}{nx:Nat->Nat->Nat}{tl:Nat->Nat}{n i:Nat}{F:List Nat}{rows:List (List Nat)}{a3:List Nat}(h:LI cl nx tl n i F rows a3)(hi:i<F.length)(a4:∀p m,p<n->m<37->nx p m<n):
  LI cl nx tl n (i+1) (ju cl nx (nth F i) F 37).1 (rows++[(ju cl nx (nth F i) F 37).2]) (a3++[tl (nth F i)]):=by
 have hr:=qZ (p:=nth F i) h.reps (fun m hm=>a4 (nth F i) m (h.reps.lt _ (aO hi)) hm) 37 (pZ _);generalize ju cl nx (nth F i) F 37=R at *;obtain⟨F1,r⟩:=R;dsimp only at hr ⊢;obtain⟨q,hq⟩:=hr.pre;have a0:∀k,k<F.length->nth F1 k=nth F k:=fun k hk=>by rw[hq,aA,if_pos hk]
 have a5:F.length<=F1.length:=by rw[hq];simp
 have h1:=h.rl;have h2:=h.tln;have h3:=h.p0;refine⟨zo,by simp[h1],by simp[h2],zo,by rw[a0 0 h3];exact h.fst,hr.reps,fun j hj=>?_,fun j hj=>?_⟩
 ·rw[aA]
  by_cases e:j<rows.length
  ·rw[if_pos e];obtain⟨a1,a2⟩:=h.row j zo;refine⟨a1,fun m hm=>?_⟩;obtain⟨b1,b2⟩:=a2 m hm;exact⟨zo,by rw[a0 _ b1,a0 j zo];exact b2⟩
  rw[if_neg e,show j-rows.length=0 from by omega,ar];obtain rfl:j=i:=zo;refine⟨hr.len,fun m hm=>?_⟩;obtain⟨b1,b2⟩:=hr.lt m hm;exact⟨b1,by rw[a0 j hi];exact b2⟩
 rw[aA]
 by_cases e:j<a3.length
 ·rw[if_pos e,a0 j zo];exact h.tel j zo
 rw[if_neg e,show j-a3.length=0 from by omega,ar];obtain rfl:j=i:=zo;rw[a0 j hi]
theorem gx{cl:Nat->Nat}{nx:Nat->Nat->Nat}{tl:Nat->Nat}{n:Nat}(a1:∀p m,p<n->m<37->nx p m<n):∀(f i:Nat) (F:List Nat) (rows:List (List Nat)) (a0:List Nat),LI cl nx tl n i F rows a0->n+1<=i+f->∃F',LI cl nx tl n F'.length F' (fS cl nx tl f i F rows a0).1 (fS cl nx tl f i F rows a0).2
 |0,i,F,rows,a0,h,hf=>by have:=h.le;have:=h.reps.len;omega
 |f+1,i,F,rows,a0,h,hf=>by
  unfold fS
  split
  ·rename_i hi;exact gx a1 f (i+1) _ _ _ (h.next hi a1) zo
  rename_i hi;have:=h.le;obtain rfl:i=F.length:=zo;exact⟨F,h⟩
def Jb(F:KE)(cs:Array ix)(i:Nat)(_:Nat)(O:Nat->Nat)(w:ow)(l:List Nat)(q:Nat->Bool):Prop:=
 ∀x∈l,∀(O':Nat->Nat) (W:ow),rm (fun k=>k=i) O w O' W->Js zI F ([nI (x:Nat)]++cs.toList) W fun v W'=>v=.bool (q x)/\J6 W W'
theorem pF{F:KE}(hF:∀(args:Array ix) (w:ow),(callFunc F args).run zI w=.ok (.enter F args) w)(cs:Array ix)(B:Nat)(O:Nat->Nat)(w:ow)(i:Nat)(sv:ix)(l:List Nat)(q:Nat->Bool)(hi:i≠0)(_:GT B O w)(hr:uY aX 3 1 O w i sv l)(hq:Jb F cs i B O w l q):
  Js zI 174 [sv,.func (.func F) #[] cs] w fun v w'=>v=nI (dQ (fun j=>q (nth l j)) l.length)/\J6 w w':=by
 have hl:=hr.sl.len_le;refine rj func174 ntmps174 rfl rfl ?_;refine zh ?_;refine zvH (aM hr.sl.sh ln rfl) ?_;refine zlp (fun x:Nat×ow=>[(0,sv),(1,.func (.func F) #[] cs),(7,nI l.length),(8,nI x.1)]) (fun x=>x.2) (fun x=>x.1<=l.length/\J6 w x.2/\∀j,j<x.1->q (nth l j)=false) (fun x=>l.length-x.1) (0,w) (⟨ps _,sP _,fun i hi=>absurd hi (oD i)⟩) ?_;rintro⟨k,w1⟩ ⟨hk,hE,a1⟩;dsimp only at hk hE a1 ⊢;have h1:=hr.sl.ext hE;refine zh ?_;refine zC ?_ ?_
 ·intro a0;replace a0:k<l.length:=dT a0;have m1:w1.cell? (adr sv 1 k)=some (nI ((nth l k:Nat):Int)):=by have:=h1.cell (j:=0) a0 rfl;rwa[ao]at this
  refine zh ?_;refine dN rfl hF rfl (hq _ (aO a0) O w1 (aa (fun e=>hi e.symm) O hE)) rfl ?_
  rintro v w2 ⟨rfl,a3⟩;refine zh ?_;refine zC ?_ ?_
  ·intro hy;refine zh ?_;refine ae rfl rfl (⟨by rw[cG (q:=fun j=>q (nth l j)) a0 hy a1],hE.trans a3⟩)
  intro hy;refine zh ?_;refine zxd (k+1,w2) (⟨a0,hE.trans a3,fun i hi=>(Nat.lt_succ_iff_lt_or_eq.1 hi).elim (a1 i) (fun e=>by rw[e];exact hy)⟩)
 intro a2;replace a2:l.length<=k:=dF a2;refine zh ?_;refine ae rfl rfl (⟨by rw[cE (q:=fun j=>q (nth l j)) fun i hi=>a1 i zo],hE⟩)
def gO(q:Nat->Bool)(l:List Nat):List Nat:=l.filter fun x=>!q x
theorem ja{q:Nat->Bool}{l:List Nat}{j:Nat}(h:j<l.length):gO q (l.take (j+1))=gO q (l.take j)++if q (nth l j)=true then []else [nth l j]:=by
 unfold gO;rw[aR h,Bh,FJ]
 cases q (nth l j)<;>rfl
theorem pM{F:KE}(hF:∀(args:Array ix) (w:ow),(callFunc F args).run zI w=.ok (.enter F args) w)(cs:Array ix)(B:Nat)(O:Nat->Nat)(w:ow)(i:Nat)(sv:ix)(l:List Nat)(q:Nat->Bool)(hi:i≠0)(hR:GT B O w)(hr:uY aX 3 1 O w i sv l)(hq:Jb F cs i B O w l q):
  Js zI 172 [sv,.func (.func F) #[] cs] w fun v w'=>uY aX 3 1 O w' i v (gO q l)/\rm (fun k=>k=i) O w O w':=by
 have hl:=hr.sl.len_le;have hz:¬(fun k=>k=i) 0:=fun e=>hi e.symm
 refine rj func172 ntmps172 rfl rfl ?_;refine zh ?_
 refine zc call174 (pF hF cs B O w i sv l q hi hR hr hq) ?_;rintro _ w1 ⟨rfl,d1⟩;have d0:rm (fun k=>k=i) O w O w1:=aa hz O d1;have c5:uY aX 3 1 O w1 i sv l:=hr.upd (aa (S:=fun _=>False) (fun h=>h) O d1) hi fun h=>h
 refine zh ?_
 by_cases a':anyN (fun j=>q (nth l j)) l.length=true
 ·obtain⟨j0,b1,b5,a9⟩:∃j0,j0<l.length/\q (nth l j0)=true/\∀j,j<j0->q (nth l j)=false:=by
   have hf:=(firstN_any (q:=fun j=>q (nth l j)) (n:=l.length)).trans a'
   cases c9:(AK l.length).find? (fun j=>q (nth l j))with
   |none=>rw[dQ,c9]at hf;exact absurd hf zd
   |some k=>
    obtain⟨a1,a2,a3⟩:=List.find?_range_eq_some.1 c9;exact⟨k,tR.1 a2,a1,fun j hj=>by simpa using a3 j hj⟩
  have b7:dQ (fun j=>q (nth l j)) l.length=(j0:Int):=cG b1 b5 a9;rw[b7];have c8:∀j,j<=j0->gO q (l.take j)=l.take j:=fun j=>by
   induction j with
   |zero=>intro _;rfl
   |succ j ih=>
    intro hj;rw[ja zo,ih zo,a9 j zo,aR zo];rfl
  refine zFH rfl ((by rw[beq_eq_false_iff_ne];omega)) ?_;refine zlp (fun z:Nat×Nat×ow×List Nat=>[(0,sv),(1,.func (.func F) #[] cs),(5,nI z.1),(6,nI z.2.1)]) (fun z=>z.2.2.1) (fun z=>z.2.1<=l.length/\z.1<z.2.1/\z.1=(gO q (l.take z.2.1)).length/\z.2.2.2.length=l.length/\z.2.2.2.take z.1=gO q (l.take z.2.1)/\(∀j,z.2.1<=j->j<l.length->nth z.2.2.2 j=nth l j)/\uY aX 3 1 O z.2.2.1 i sv z.2.2.2/\rm (fun k=>k=i) O w O z.2.2.1) (fun z=>l.length-z.2.1) (j0,j0+1,w1,l) (⟨b1,Nat.lt_succ_self _,by dsimp only;rw[ja b1,b5,if_pos rfl,sQ,c8 j0 (pZ _)];simp;omega,rfl,by dsimp only;rw[ja b1,b5,if_pos rfl,sQ,c8 j0 (pZ _)],fun _ _ _=>rfl,c5,d0⟩) ?_
  rintro⟨a,j,w2,l2⟩ ⟨hj,d6,ha,b6,a7,a0,b0,b3⟩;dsimp only at hj d6 ha b6 a7 a0 b0 b3 ⊢;have b':=b0.sl;refine zh ?_;refine zC ?_ ?_
  ·intro a4;replace a4:j<l.length:=dT a4;have d3:=a0 j (pZ _) a4;have m1:w2.cell? (adr sv 1 j)=some (nI ((nth l j:Nat):Int)):=by have:=b'.cell (i:=j) (j:=0) zo rfl;rw[ao,d3]at this;exact this
   have a6:=ja (q:=q) a4;refine zh ?_;refine dN rfl hF rfl (hq _ (aO a4) O w2 b3) rfl ?_;rintro v w3 ⟨rfl,d8⟩;have c':rm (fun _=>False) O w2 O w3:=aa (fun h=>h) O d8;have a5:=b0.upd c' hi fun h=>h
   have b2:=b3.trans (c'.mono (fun _ h=>h.elim) hz);refine zh ?_
   cases c6:q (nth l j)with
   |true=>
    rw[c6,if_pos rfl,sQ]at a6;refine zFH rfl rfl ?_;refine zxd (a,j+1,w3,l2) (⟨a4,by dsimp only;omega,by dsimp only;rw[a6];exact ha,b6,by dsimp only;rw[a6];exact a7,fun x h1 h2=>a0 x (by dsimp only at h1;omega) h2,a5,b2⟩)
   |false=>
    rw[c6,if_neg zd]at a6;have b9:=a5.sl;refine zTH rfl rfl ?_;refine Gh a5 a zo (nth l j) (qy _) rfl hi rfl rfl rfl rfl ?_;intro w4 d2 d7;refine zh ?_;refine zxd (a+1,j+1,w4,l2.set a (nth l j)) (⟨a4,by dsimp only;omega,by dsimp only;rw[a6,vX,<-ha];rfl,by dsimp only;rw[rk];exact b6,?_,fun x h1 h2=>?_,d2,b2.trans d7⟩)
    ·dsimp only;have d5:a<(l2.set a (nth l j)).length:=by rw[rk];omega
     rw[a6,List.take_succ_eq_append_getElem d5,List.getElem_set_self,List.take_set_of_le (pZ _),a7]
    dsimp only at h1 ⊢;rw[aT zo,if_neg zo];exact a0 x zo h2
  intro d4;obtain rfl:j=l.length:=dF d4;rw[su]at ha a7;refine zh ?_;refine zv (qL b' ln (qy _) rfl rfl a rfl zo) ?_;refine uP b0 a zo (0:Nat) hi ln (Dc) rfl rfl rfl rfl ?_;intro w3 l3 a5 b4 d9 b2;have b8:=a5.short (n:=a) zo;rw[b4,a7]at b8;have b9:=a5.sl;refine zh ?_;refine zvH (Af b9 ln (qy _) rfl rfl a rfl zo) ?_;refine ae rfl rfl (⟨b8,b3.trans b2⟩)
 have c7:=bz.1 (by simpa using a');have b7:dQ (fun j=>q (nth l j)) l.length = -1:=cE c7;rw[b7];have a8:gO q l=l:=List.filter_eq_self.2 fun x hx=>by
  obtain⟨j,hj,rfl⟩:=cI hx;rw[c7 j hj];rfl
 rw[a8];refine zTH rfl rfl ?_;refine ae rfl rfl (⟨c5,d0⟩)
theorem Io:KeyL zI 210 et:=CA BW JX zk zk
theorem Iv:cV zI 228 #[(0,2),(2,1),(3,1),(4,1),(5,1),(6,1)]:=⟨_,underlying228,fun w=>by kernel_rfl⟩
theorem ql(B:Nat)(O:Nat → Nat)(w:ow)(sb tr:Nat)(td:List ((Int×Int)×Bool))(hR:GT B O w)(hc:Cell0 O w (nA sb 5) (.map (some tr)) ∨ (O (nA sb 5).block = 1 ∧ w.cell? (nA sb 5) = some (.map (some tr))))(hm:zf et th O w 4 tr td):
  Js zI 147 [nP sb] w fun v w' =>
   (td = [] ∧ v = .tuple #[et (0, 0), .bool false] ∧ rm (fun q => q = 4) O w O w' ∧ zf et th O w' 4 tr td) ∨
   ∃pre k x suf, td = pre ++ (k, x) :: suf ∧ v = .tuple #[et k, .bool true] ∧ rm (fun q => q = 4) O w O w' ∧ zf et th O w' 4 tr (pQ td k) := by
 obtain⟨T0, hT00, hT0'⟩ := hR.bound
 obtain⟨T, hTd⟩:∃T, T = T0 + 10 := ⟨_, rfl⟩
 have hT:∀b, O b < T := fun b => by have := hT0' b; omega
 have hotr := hm.tag
 have hcell:w.cell? (nA sb 5) = some (.map (some tr)) := by
  rcases hc with h | h
  ·exact h.c
  ·exact h.2
 have hob:O (nA sb 5).block = 0 ∨ O (nA sb 5).block = 1 := by
  rcases hc with h | h
  ·exact .inl h.z
  ·exact .inr h.1
 have keep:∀ {S:Nat → Prop} {O':Nat → Nat} {W:ow}, rm S O w O' W → ¬S 1 → W.cell? (nA sb 5) = some (.map (some tr)) := fun {S O' W} u hS => by
  refine iC (u.blk _ (Jp w _ hcell) ?_) hcell
  rcases hob with h | h
  ·rw[h]; exact u.z
  ·rw[h]; exact hS
 refine rj func147 ntmps147 rfl rfl ?_
 refine pN ?_
 refine ox ?_
 refine ax hR T (by omega) (A2 _) rfl ?_
 intro cb w1 O1 hcb1 hU1 hR1 hE1
 have hm1 := hm.upd hU1 (by decide) (by omega)
 have c1 := keep hU1 (by omega)
 refine zv (uh rfl) ?_
 refine oz ?_
 refine az ?_
 refine pN ?_
 refine pN ?_
 refine ox ?_
 refine zv (rf rfl) ?_
 refine zv (aq rfl) ?_
 refine zv (RV.fa rfl) ?_
 refine zv (RV.ld c1 rfl) ?_
 refine oT hm1 G6 hR1 (T + 1) (by omega) (by decide) rfl rfl ?_
 intro q w2 O2 hrg hm2 hU2 hR2
 have hU12:rm (fun k => T ≤ k) O w O2 w2 := (hU1.mono (fun _ h => by omega) (by omega)).trans (hU2.mono (fun _ h => by omega) (by omega))
 have c2 := keep hU12 (by omega)
 refine oz ?_
 refine az ?_
 refine Db ?_
 refine zlp (fun x:Unit => [(0, nP sb), (2, nP cb), (9, nP q)]) (fun x => w2) (fun x => True) (fun x => 0) () (trivial) ?_
 rintro⟨⟩ -
 refine pN ?_
 refine ox ?_
 refine qJ hrg (by omega) (by omega) rfl rfl ?_ ?_
 ·intro h0
  refine zv (JS rfl rfl) ?_
  refine oz ?_
  refine az ?_
  refine pN ?_
  refine aS rfl rfl ?_
  refine JB ?_
  refine cT ?_
  refine cT ?_
  refine eY ?_
  refine az ?_
  refine pN ?_
  refine ox ?_
  refine zv (eX BW (qy _) (A2 _) rfl rfl) ?_
  refine zsa (us := #[nI 0, nI 0]) (hcb1.upd hU2 (by omega) (by omega)) (Ae _) ?_
  have hcb2 := hcb1.upd hU2 (by omega) (by omega)
  have hcz := hcb2.setRow (us := #[nI 0, nI 0])
  have hUz:rm (fun k => T ≤ k) O2 w2 O2 (w2.setRow cb #[nI 0, nI 0]) := tp (by omega) hcb2.tag (pZ _)
  have hUt := hU12.trans hUz
  refine zv (uh rfl) ?_
  refine oz ?_
  refine az ?_
  refine Kk ?_
  refine bA rfl rfl rfl (hcz.cellsAdd) (Jw _) (Ae _) (.inl ⟨h0, rfl, hUt.fgt (fun b h => by have := hT b; omega) (by decide), (hm2.upd hUz (by decide) (by omega)).fgt hm.tag⟩)
 ·intro pre k x suf w3 htd hrg3 hU3
  obtain⟨k1, k2⟩ := k
  refine zv (JS rfl rfl) ?_
  refine oz ?_
  refine az ?_
  refine pN ?_
  refine aZ rfl rfl ?_
  refine Fu ?_
  refine az ?_
  refine Db ?_
  refine pN ?_
  refine ox ?_
  refine zv (Kz hrg3 rfl) ?_
  refine zv (JS rfl rfl) ?_
  have hU13:rm (fun k => T ≤ k) O w O2 w3 := hU12.trans (hU3.mono (fun _ h => by omega) (by omega))
  have hR3 := hR2.upd hU3
  have hm3 := hm2.upd hU3 (by omega) (by omega)
  refine ax hR3 (T + 2) (by omega) (A2 _) rfl ?_
  intro eb w4 O4 heb4 hU4 hR4 hE4
  have hm4 := hm3.upd hU4 (by omega) (by omega)
  refine zsa (us := #[nI k1, nI k2]) heb4 (Ae _) ?_
  have heb5 := heb4.setRow (us := #[nI k1, nI k2])
  have hU5:rm (fun k => T ≤ k) O4 w4 O4 (w4.setRow eb #[nI k1, nI k2]) := tp (by omega) heb4.tag (by omega)
  have hm5 := hm4.upd hU5 (by decide) (by omega)
  have hcb5 := (((hcb1.upd hU2 (by omega) (by omega)).upd hU3 (by omega) (by omega)).upd hU4 (by omega) (by omega))
  have hU35:rm (fun k => T + 1 ≤ k) O2 w3 O4 (w4.setRow eb #[nI k1, nI k2]) := (hU4.mono (fun _ h => by omega) (by omega)).trans (tp (by omega) heb4.tag (by omega))
  have hcb5 := ((hcb1.upd hU2 (by omega) (by omega)).upd hU3 (by omega) (by omega)).upd hU35 (by omega) (by omega)
  have hU15 := (hU13.trans (hU4.mono (fun _ h => by omega) (by omega))).trans hU5
  generalize w4.setRow eb #[nI k1, nI k2] = w5 at *
  have c5 := keep hU15 (by omega)
  refine oz ?_
  refine az ?_
  refine pN ?_
  refine Kc 5 rfl rfl (by kernel_rfl) (by kernel_rfl) ?_
  refine zw (rf rfl) ?_
  refine zw (aq rfl) ?_
  refine zw (RV.fa rfl) ?_
  refine zw (RV.ld c5 rfl) ?_
  refine zw (ai (us := [nI k1, nI k2]) heb5.drew.cellsAdd (Jw _) (Ae _) rfl) ?_
  refine Kw ?_
  have hm5d:zf et th O4 w5.drew 4 tr td := ⟨hm5.blk, hm5.tag, hm5.born⟩
  refine WL.delete hm5d G6 Io (by decide) (k1, k2) rfl rfl rfl ?_
  intro w6 hm6 hU6
  have heb6 := heb5.drew.upd hU6 (by omega) (by omega)
  have hcb6 := hcb5.drew.upd hU6 (by omega) (by omega)
  have hU16:rm (fun k => k = 4 ∨ T ≤ k) O w O4 w6 := (hU15.drew.mono (fun _ h => .inr h) (by omega)).trans (hU6.mono (fun _ h => .inl h) (by omega))
  refine oz ?_
  refine az ?_
  refine pN ?_
  refine ox ?_
  refine zv (ai (us := [nI k1, nI k2]) heb6.cellsAdd (Jw _) (Ae _) rfl) ?_
  refine zsa (us := #[nI k1, nI k2]) hcb6 (Ae _) ?_
  have hcz := hcb6.setRow (us := #[nI k1, nI k2])
  have hUz:rm (fun k => k = T) O4 w6 O4 (w6.setRow cb #[nI k1, nI k2]) := tp (by omega) hcb6.tag rfl
  have hUt := hU16.trans (hUz.mono (fun _ h => .inr (by omega)) (by omega))
  refine zv (uh rfl) ?_
  refine oz ?_
  refine az ?_
  refine Kk ?_
  refine cB ?_
  refine bT ?_
  refine cB ?_
  refine bT ?_
  refine bA rfl rfl rfl (hcz.cellsAdd) (Jw _) (Ae _) (.inr ⟨pre, (k1, k2), x, suf, htd, rfl, hUt.priv hT (by decide), (hm6.upd hUz (by decide) (by omega)).fgt hm.tag⟩)
end Go.Proofs.YtlehnbkknlpkbaaGreatDoor
section
namespace Go.Proofs.YtlehnbkknlpkbaaGreatDoor
open Go.VL Go.Proofs
set_option maxRecDepth 10000
abbrev KVR:=Int×ix×List Nat
abbrev ud(e:KVR):Int×ix:=(e.1,e.2.1)
theorem xm(E:List KVR)(k:Int)(v:ix)(l:List Nat):(cJ E k (v,l)).map ud=cJ (E.map ud) k v:=by
 induction E with
 |nil=>rfl
 |cons e r ih=>
  simp only[cJ,tJ,ud]
  by_cases h:e.1=k
  ·rw[if_pos h,if_pos h];rfl
  rw[if_neg h,if_neg h,tJ,ih]
theorem DL(E:List KVR)(k:Int):bx (E.map ud) k=(bx E k).map (·.1):=by
 induction E with
 |nil=>rfl
 |cons e r ih=>
  simp only[bx,tJ,ud]
  by_cases h:e.1=k
  ·rw[if_pos h,if_pos h];rfl
  rw[if_neg h,if_neg h];exact ih
structure MpR(base i:Nat)(O:Nat->Nat)(w:ow)(r:Nat)(E:List KVR):Prop where
 map:zf (fun k:Int=>nI k) (fun v:ix=>v) O w i r (E.map ud)
 row:∀k,k<E.length->uY aX 3 1 O w (base+k) (nth E k).2.1 (nth E k).2.2
theorem MpR.upd{base i:Nat}{S:Nat->Prop}{O O':Nat->Nat}{w w':ow}{r:Nat}{E:List KVR}(h:MpR base i O w r E)(u:rm S O w O' w')(hi:i≠0)(hb:0<base)(hS:¬S i)(a0:∀k,¬S (base+k)):MpR base i O' w' r E:=
 ⟨h.map.upd u hi hS,fun k hk=>(h.row k hk).upd u zo (a0 k)⟩
def lC(E:List KVR)(k:Int):Nat:=(je E k).getD E.length
def dD(E:List KVR)(k:Int):List Nat:=((bx E k).map (·.2)).getD []
def CC(E:List KVR)(k:Int):ix:=((bx E k).map (·.1)).getD (nS)
theorem MpR.at{base i:Nat}{O:Nat->Nat}{w:ow}{r:Nat}{E:List KVR}(h:MpR base i O w r E)(k:Int):uY aX 3 1 O w (base+lC E k) (CC E k) (dD E k):=by
 unfold lC CC dD;rw[lh]
 cases ha:je E k with
 |none=>exact xK _ _ _ _ _ _
 |some j=>
  obtain⟨x,hx⟩:=iH ha;obtain⟨hj,a0⟩:=zR.1 hx;have h1:=h.row j hj;rw[aB hj,a0]at h1;simp only[JM,hx,JN,JL];exact h1
theorem MpR.put{base i:Nat}{O O' O2:Nat->Nat}{w w' w2:ow}{r:Nat}{E:List KVR}(h:MpR base i O w r E)(k:Int){v:ix}{l:List Nat}(_:i≠0)(hb:i<base)(u:rm (fun q=>q=base+lC E k) O w O' w')(hr:uY aX 3 1 O' w' (base+lC E k) v l) 
  (hm:zf (fun k:Int=>nI k) (fun v:ix=>v) O2 w2 i r (cJ (E.map ud) k v)) (u2:rm (fun q=>q=i) O' w' O2 w2):MpR base i O2 w2 r (cJ E k (v,l)):=by
 refine⟨by rw[xm];exact hm,fun n hn=>?_⟩;have a0:=hr.upd u2 zo zo;have old:∀n,n<E.length->n≠lC E k->uY aX 3 1 O2 w2 (base+n) (nth E n).2.1 (nth E n).2.2:=fun n hn a1=>((h.row n hn).upd u zo zo).upd u2 zo zo
 rw[eK]at hn ⊢
 cases ha:je E k with
 |none=>
  rw[ha]at hn;dsimp only at hn ⊢;have hs:lC E k=E.length:=by unfold lC;rw[ha];rfl
  rw[hs]at a0 old;rw[vX,pR]at hn
  by_cases he:n=E.length
  ·subst he;rw[aA,if_neg zo,Gb,show nth [((k,v,l):KVR)] 0=(k,v,l)from by rw[aB (Nat.zero_lt_one)];rfl];exact a0
  rw[aA,if_pos zo];exact old n zo he
 |some j=>
  rw[ha]at hn;dsimp only at hn ⊢;have hs:lC E k=j:=by unfold lC;rw[ha];rfl
  rw[hs]at a0 old;rw[rk]at hn;obtain⟨x,hx⟩:=iH ha;obtain⟨hj,_⟩:=zR.1 hx;rw[aT hj]
  by_cases he:n=j
  ·rw[if_pos he];subst he;exact a0
  rw[if_neg he];exact old n hn he
theorem ee(E:List KVR)(k k':Int)(v:ix)(l:List Nat):dD (cJ E k (v,l)) k'=if k=k' then l else dD E k':=by
 unfold dD;rw[bf]
 split<;>rfl
theorem lg(E:List KVR)(k:Int)(x:ix×List Nat):(cJ E k x).map (·.1)=if k∈E.map (·.1)then E.map (·.1)else E.map (·.1)++[k]:=by
 induction E with
 |nil=>rfl
 |cons e r ih=>
  simp only[cJ]
  by_cases h:e.1=k
  ·rw[if_pos h,if_pos (by simp[h])];simp[h]
  rw[if_neg h,tJ,ih];have h':¬k=e.1:=fun e=>h e.symm
  by_cases hm:k∈r.map (·.1)
  ·rw[if_pos hm,if_pos (by rw[tJ];exact tq _ hm)];rfl
  rw[if_neg hm,if_neg (by rw[tJ,rI];exact fun h=>h.elim h' hm)];rfl
theorem zZ{E:List KVR}(h:(E.map (·.1)).Nodup)(k:Int)(x:ix×List Nat):((cJ E k x).map (·.1)).Nodup:=by
 rw[lg]
 split
 ·exact h
 rename_i hk;refine JP.2 ⟨h,by simp,fun a ha b hb e=>?_⟩;rw[oU]at hb;subst hb;subst e;exact hk ha
end Go.Proofs.YtlehnbkknlpkbaaGreatDoor
namespace Go.VL
open Go.Proofs
theorem iJ{P:I4}{N:Nat}{ops:Array Jr}{S:ow->Prop}{Q:JZ->KA->ow->Prop}{a1:Nat}{a0:Array Bool}{st:St}{w:ow} 
  {T E:BJ} {o:Op} {sz a2:Nat} {α:Type} {enc:α->List ix} {y:Jt} {t t':BJ} {p p':String} {e e':Array Ku} {d d':Nat} {v xv:ix}
  (i j:Nat) (he:Kh P T E sz a2) (u:α) (hi:ops[i]? = some ⟨some d,o,t,p,e,none⟩) (hj:ops[j]? = some ⟨some d',.buildSlice T 1 #[(0,y)],t',p',e',none⟩)
  (hr:ug .any ops a0=[i,j]) (a':ug .any ops (a0.setIfInBounds i true)=[j]) (a9:ug .any ops (a0.setIfInBounds j true)=[i])
  (a4:(a0.setIfInBounds j true).setIfInBounds i true=(a0.setIfInBounds i true).setIfInBounds j true)
  (hv:∀w',J6 w w'->RV P N o t st w' v) (hS:∀w',J6 w w'->S w')
  (hy:ev st y=some xv) (a5:xv.cells.toList=enc u) (a6:(enc u).length=sz) (hs:sz<=16777216) (hd:Gc d N=true) (a7:Gc d' N=true) (b0:Fm d d'=false) (hf:(cC st d').isNone=true) (a8:ev ((d,v)::st) y=some xv)
  (h:∀sv w',Sl enc sz w' sv [u]->J6 w w'->WH P N ops S Q a1 ((a0.setIfInBounds i true).setIfInBounds j true) ((d',sv)::(d,v)::st) w'):WH P N ops S Q (a1+2) a0 st w:=by
 refine bV i j hr hi hj ?_ ?_
 ·refine mG (hv w (sP w)) hd (oz (af (hS w (sP w)) (qN j a' hj ?_)));refine cg he u a8 a5 a6 hs a7 fun sv w' a3 hE=>oz (af (hS w' hE) (h sv w' a3 hE))
 refine cg he u hy a5 a6 hs a7 fun sv w' a3 hE=>oz (af (hS w' hE) (qN i a9 hi ?_))
 refine mG (fun a ha=>hv w' hE a (ha.fresh hf)) hd (oz (af (hS w' hE) ?_));rw[a4];exact fun a ha=>h sv w' a3 hE a (ha.swap b0)
end Go.VL
end
namespace Go.Proofs.YtlehnbkknlpkbaaGreatDoor
structure LeadsI(bl xs:List Nat)(E:List KVR):Prop where
 nd:(E.map (·.1)).Nodup
 row:∀k,dD E k=xs.filter fun i=>decide (((nth bl i:Nat):Int)=k)
 key:∀k,k∈E.map (·.1)↔∃i∈xs,((nth bl i:Nat):Int)=k
theorem LeadsI.nil(bl:List Nat):LeadsI bl [] []:=⟨K1,fun _=>rfl,fun k=>by simp⟩
theorem LeadsI.push{bl xs:List Nat}{E:List KVR}(h:LeadsI bl xs E)(i:Nat)(v:ix):LeadsI bl (xs++[i]) (cJ E ((nth bl i:Nat):Int) (v,dD E ((nth bl i:Nat):Int)++[i])):=by
 refine⟨zZ h.nd _ _,fun k=>?_,fun k=>?_⟩
 ·rw[ee,Bh,h.row,h.row]
  by_cases hk:((nth bl i:Nat):Int)=k
  ·rw[if_pos hk,hk,List.filter_cons_of_pos (by simpa using hk)];rfl
  rw[if_neg hk,List.filter_cons_of_neg (by simpa using hk)];simp
 rw[lg]
 constructor
 ·intro hm
  split at hm
  ·obtain⟨x,hx,e⟩:=(h.key k).1 hm;exact⟨x,ze _ hx,e⟩
  rcases rU.1 hm with hm|hm
  ·obtain⟨x,hx,e⟩:=(h.key k).1 hm;exact⟨x,ze _ hx,e⟩
  exact⟨i,by simp,(oU.1 hm).symm⟩
 rintro⟨x,hx,e⟩
 rcases rU.1 hx with hx|hx
 ·have:=(h.key k).2 ⟨x,hx,e⟩
  split
  ·exact this
  exact ze _ this
 obtain rfl:=oU.1 hx;subst e
 split
 ·assumption
 exact yP _ (oU.2 rfl)
def dZ(n:Nat)(nx:Nat->Nat)(to:Nat):List Nat:=(AK n).filter fun x=>decide (nx x=to)
theorem im{n:Nat}{nx:Nat->Nat}{to x:Nat}:x∈dZ n nx to↔x<n/\nx x=to:=by
 simp[dZ,tR]
theorem Dx(n:Nat)(nx:Nat->Nat)(to:Nat):(dZ n nx to).Nodup:=J4.sublist De
theorem il{n:Nat}{nx:Nat->Nat}{l:List Nat}{x:Nat}:x∈l.flatMap (dZ n nx)↔x<n/\nx x∈l:=by
 rw[List.mem_flatMap]
 constructor
 ·rintro⟨a,ha,hx⟩;obtain⟨h1,rfl⟩:=im.1 hx;exact⟨h1,ha⟩
 rintro⟨h1,h2⟩;exact⟨_,h2,im.2 ⟨h1,rfl⟩⟩
theorem rX{n:Nat}{nx:Nat->Nat}:∀ {l:List Nat},l.Nodup->(l.flatMap (dZ n nx)).Nodup
 |[],_=>K1
 |a::r,h=>by
  obtain⟨h1,h2⟩:=J8.1 h;rw[DZ];refine JP.2 ⟨Dx n nx a,rX h2,fun x hx y hy e=>?_⟩;subst e;have a1:=(im.1 hx).2;have a0:=(il.1 hy).2;rw[a1]at a0;exact h1 a0
theorem LeadsI.mem{n b:Nat}{nx:Nat->Nat}{bl st:List Nat}{E:List KVR}(h:LeadsI bl (st.flatMap (dZ n nx)) E)(a1:∀x,x<n->nx x<n)(a0:∀x,x∈st↔x<n/\nth bl x=b)(k x:Nat):x∈dD E (k:Int)↔x<n/\nth bl x=k/\nth bl (nx x)=b:=by
 rw[h.row,As,il,a0,decide_eq_true_eq]
 constructor
 ·rintro⟨⟨h1,_,h2⟩,h3⟩;exact⟨h1,zo,h2⟩
 rintro⟨h1,h2,h3⟩;exact⟨⟨h1,a1 x h1,h3⟩,zo⟩
theorem LeadsI.rnd{n:Nat}{nx:Nat->Nat}{bl st:List Nat}{E:List KVR}(h:LeadsI bl (st.flatMap (dZ n nx)) E)(a0:st.Nodup)(k:Int):(dD E k).Nodup:=by
 rw[h.row];exact(rX a0).sublist De
theorem LeadsI.ne{bl xs:List Nat}{E:List KVR}(h:LeadsI bl xs E){k:Int}(hk:k∈E.map (·.1)):dD E k≠[]:=fun e=>by
 obtain⟨i,hi,hb⟩:=(h.key k).1 hk;have:i∈dD E k:=by rw[h.row];exact As.2 ⟨hi,decide_eq_true hb⟩
 rw[e]at this;exact absurd this (by simp)
structure FromO(O:Nat->Nat)(w:ow)(i:Nat)(fv:ix)(n:Nat)(nx:Nat->Nat->Nat):Prop where
 ex:∃(ms:List ix) (vss:List (List ix)),uY xg 50 1 O w i fv ms/\ms.length=37/\∀m,m<37->uY xg 22 1 O w i (nth ms m) (nth vss m)/\(nth vss m).length=n/\
  ∀t,t<n->uY aX 3 1 O w i (nth (nth vss m) t) (dZ n (fun x=>nx x m) t)
theorem FromO.upd{S:Nat->Prop}{O O':Nat->Nat}{w w':ow}{i:Nat}{fv:ix}{n:Nat}{nx:Nat->Nat->Nat}(h:FromO O w i fv n nx)(u:rm S O w O' w')(hi:i≠0)(hS:¬S i):FromO O' w' i fv n nx:=by
 obtain⟨ms,a0,h1,h2,h3⟩:=h.ex;exact⟨ms,a0,h1.upd u hi hS,h2,fun m hm=>⟨(h3 m hm).1.upd u hi hS,(h3 m hm).2.1,fun t ht=>((h3 m hm).2.2 t ht).upd u hi hS⟩⟩
structure SpO(O:Nat->Nat)(w:ow)(sb:Nat)(nv tv fv bv:ix)(sr tr n:Nat)(nx:Nat->Nat->Nat)(bl:List Nat)(E:List KVR)(td:List ((Int×Int)×Bool))(many:Nat):Prop where
 blk:CY O w 1 sb #[nv,tv,fv,bv,.map (some sr),.map (some tr),nI (many:Nat)] 228
 row:uY aX 3 1 O w 2 bv bl
 st:MpR 10 3 O w sr E
 todo:zf et th O w 4 tr td
 frm:FromO O w 5 fv n nx
theorem SpO.upd{S:Nat->Prop}{O O':Nat->Nat}{w w':ow}{sb:Nat}{nv tv fv bv:ix}{sr tr n:Nat}{nx:Nat->Nat->Nat}{bl:List Nat}{E:List KVR}{td:List ((Int×Int)×Bool)}{many:Nat}(h:SpO O w sb nv tv fv bv sr tr n nx bl E td many) 
  (u:rm S O w O' w') (hS:∀k,0<k->k<10+E.length->¬S k):SpO O' w' sb nv tv fv bv sr tr n nx bl E td many:=
 ⟨h.blk.upd u zd (hS 1 zo zo),h.row.upd u zd (hS 2 zo zo),⟨h.st.map.upd u zd (hS 3 zo zo),fun k hk=>(h.st.row k hk).upd u zo (hS _ zo zo)⟩,h.todo.upd u zd (hS 4 zo zo),h.frm.upd u zd (hS 5 zo zo)⟩
theorem ma(E:List KVR)(k:Int):Gk (fun v:ix=>v) (nS) (bx (E.map ud) k)=CC E k:=by
 unfold CC;rw[DL]
 cases bx E k<;>rfl
theorem vS(B:Nat)(O:Nat->Nat)(w:ow)(sb:Nat)(nv tv fv bv:ix)(sr tr n:Nat)(nx:Nat->Nat->Nat)(bl:List Nat)(E:List KVR)(td:List ((Int×Int)×Bool))(many b m:Nat)(hR:GT B O w)(hS:SpO O w sb nv tv fv bv sr tr n nx bl E td many)
  (hE:E.length<=1000) (hm:m<37) (d6:∀x∈dD E (b:Nat),x<n) (hn:n<=1000) (g0:bl.length=n) (d7:(dD E (b:Nat)).Nodup) (_:∀q,O q<2000) :
  Js zI 148 [nP sb,nI (b:Nat),nI (m:Nat)] w fun v w'=>
   ∃r O' G,v=.map (some r)/\rm (fun q=>2000<=q) O w O' w'/\GT B O' w'/\MpR 3000 2000 O' w' r G/\LeadsI bl ((dD E (b:Nat)).flatMap (dZ n fun x=>nx x m)) G:=by
 obtain⟨ms,b2,e7,f7,a8⟩:=hS.frm.ex;refine rj func148 ntmps148 rfl rfl ?_;refine zg ?_;refine bq (fun k:Int=>nI k) (fun v:ix=>v) hR 2000 zd rfl ?_;intro r w1 O1 e4 c' e';have b8:=hS.upd c' zo;have c3:w1.cell? (nA sb 4)=some (.map (some sr)):=b8.blk.cell 4 rfl;have d9:=b8.st.at (b:Int);have d8:=hS.st.at (b:Int);refine zg ?_;refine zvG (RV.ld c3 rfl) ?_;refine zv (C2 b8.st.map sx qp (Da _) (b:Int) rfl rfl rfl (ma E _)) ?_;refine zvG (aM d9.sl.sh ln rfl) ?_;refine zlp (fun z:Nat×(Nat->Nat)×World×List KVR=>[(0,nP sb),(2,nI (m:Nat)),(7,.map (some r)),(18,CC E (b:Nat)),(19,nI (dD E (b:Nat)).length),(20,nI z.1)]) (fun z=>z.2.2.1) (fun z=>z.1<=(dD E (b:Nat)).length/\rm (fun q=>2000<=q) O w z.2.1 z.2.2.1/\GT B z.2.1 z.2.2.1/\MpR 3000 2000 z.2.1 z.2.2.1 r z.2.2.2/\LeadsI bl (((dD E (b:Nat)).take z.1).flatMap (dZ n fun x=>nx x m)) z.2.2.2) (fun z=>(dD E (b:Nat)).length-z.1) (0,O1,w1,[]) (⟨ps _,c'.mono (fun _ h=>by omega) zd,e',⟨e4,fun k hk=>absurd hk (oD k)⟩,LeadsI.nil _⟩) ?_;rintro⟨q,O2,w2,G⟩ ⟨hq,a3,b',hG,hL⟩;dsimp only at hq a3 b' hG hL ⊢;have d3:=hS.upd a3 zo;have b4:=(d3.st.at (b:Int)).sl;have f9:=b4.len_le;refine zg ?_;refine zC ?_ ?_
 ·intro a2;replace a2:q<(dD E (b:Nat)).length:=by have:=of_decide_eq_true a2;omega
  have m1:w2.cell? (adr (CC E (b:Nat)) 1 q)=some (nI ((nth (dD E (b:Nat)) q:Nat):Int)):=by have:=b4.cell (i:=q) (j:=0) a2 rfl;rwa[ao]at this
  obtain⟨to,a7⟩:∃to,to=nth (dD E (b:Nat)) q:=⟨_,rfl⟩
  have c7:to<n:=by rw[a7];exact d6 _ (aO a2)
  rw[<-a7]at m1;have c9:=(e7.upd a3 zd zo).sl;have c8:=((a8 m hm).1.upd a3 zd zo).sl;have e8:=(((a8 m hm).2.2 to c7).upd a3 zd zo).sl;have f6:=(a8 m hm).2.1;have c1:w2.cell? (nA sb 2)=some fv:=d3.blk.cell 2 rfl;have m2:w2.cell? (adr fv 1 m)=some (nth ms m):=by have:=c9.cell (i:=m) (j:=0) zo rfl;rwa[ao]at this
  have m3:w2.cell? (adr (nth ms m) 1 to)=some (nth (nth b2 m) to):=by have:=c8.cell (i:=to) (j:=0) zo rfl;rwa[ao]at this
  refine zg ?_;refine zv (tG b4 ln (qy _) rfl rfl _ rfl zo) ?_
  refine zvG (RV.ld m1 rfl) ?_;refine zvG (RV.ld c1 rfl) ?_
  refine zv (tG c9 Kj (Ju _) rfl rfl _ rfl zo) ?_;refine zvG (RV.ld m2 rfl) ?_
  refine zv (tG c8 ri (Fo _) rfl rfl _ rfl zo) ?_;refine zv (RV.ld m3 rfl) ?_
  refine zvG (aM e8.sh ln rfl) ?_;refine zlp (fun y:Nat×(Nat->Nat)×World×List KVR=>[(0,nP sb),(2,nI (m:Nat)),(7,.map (some r)),(18,CC E (b:Nat)),(19,nI (dD E (b:Nat)).length),(20,nI q),(33,nth (nth b2 m) to),(34,nI (dZ n (fun x=>nx x m) to).length),(35,nI y.1)]) (fun y=>y.2.2.1) (fun y=>y.1<=(dZ n (fun x=>nx x m) to).length/\rm (fun q=>2000<=q) O w y.2.1 y.2.2.1/\GT B y.2.1 y.2.2.1/\MpR 3000 2000 y.2.1 y.2.2.1 r y.2.2.2/\LeadsI bl (((dD E (b:Nat)).take q).flatMap (dZ n fun x=>nx x m)++(dZ n (fun x=>nx x m) to).take y.1) y.2.2.2) (fun y=>(dZ n (fun x=>nx x m) to).length-y.1) (0,O2,w2,G) (⟨ps _,a3,b',hG,by dsimp only;rw[K0,sQ];exact hL⟩) ?_
  rintro⟨j,O3,w3,G3⟩ ⟨hj,a5,b9,c6,a6⟩;dsimp only at hj a5 b9 c6 a6 ⊢;have b7:=hS.upd a5 zo;have b5:=(((a8 m hm).2.2 to c7).upd a5 zd zo).sl;have f8:=b5.len_le;refine zg ?_;refine zC ?_ ?_
  ·intro a4;replace a4:j<(dZ n (fun x=>nx x m) to).length:=by have:=of_decide_eq_true a4;omega
   obtain⟨i,hi⟩:∃i,i=nth (dZ n (fun x=>nx x m) to) j:=⟨_,rfl⟩
   have f':i<n:=by rw[hi];exact(im.1 (aO a4)).1
   have k1:w3.cell? (adr (nth (nth b2 m) to) 1 j)=some (nI (i:Int)):=by have:=b5.cell (i:=j) (j:=0) a4 rfl;rw[ao]at this;rw[hi];exact this
   refine zg ?_;refine zv (tG (by first|exact b5) ln (qy _) rfl rfl _ rfl zo) ?_
   refine zvG (RV.ld k1 rfl) ?_;have a0:=b7.row.sl;have d1:w3.drew.cell? (nA sb 3)=some bv:=b7.blk.cell 3 rfl;have d2:w3.drew.cell? (adr bv 1 i)=some (nI ((nth bl i:Nat):Int)):=by have:=a0.cell (i:=i) (j:=0) zo rfl;rwa[ao]at this
   have a':rm (fun _=>False) O3 w3 O3 w3.drew:=aa (fun h=>h) O3 (sP w3).drew;have d5:=c6.upd a' zd zd (fun h=>h) (fun _ h=>h);refine aI (fun W=>W.cell? (nA sb 3)=some bv/\W.cell? (adr bv 1 i)=some (nI ((nth bl i:Nat):Int))) 21 rfl zk ?_;refine zin ⟨d1,d2⟩ fun zS=>?_
   refine zrm 0 rfl zS rfl ?_;refine zrm 1 rfl zS rfl ?_
   refine zr 2 rfl zS (fun _=>aq rfl) ?_;refine zrf 3 rfl zS rfl ?_
   refine zt 4 rfl zS (fun w1 a1=>RV.ld a1.1 rfl) ?_;refine zrm 5 rfl zS rfl ?_
   refine zr 6 rfl zS (fun _=>ah a0.sh ln (qy _) rfl rfl i rfl zo) ?_;refine zt 7 rfl zS (fun w1 a1=>RV.ld a1.2 rfl) ?_
   refine zrm 8 rfl zS rfl ?_;refine zrm 9 rfl zS rfl ?_
   refine zr 10 rfl zS (fun _=>aq rfl) ?_;refine zrf 11 rfl zS rfl ?_
   refine zt 12 rfl zS (fun w1 a1=>RV.ld a1.1 rfl) ?_;refine zrm 13 rfl zS rfl ?_
   refine zr 14 rfl zS (fun _=>ah a0.sh ln (qy _) rfl rfl i rfl zo) ?_;refine zt 15 rfl zS (fun w1 a1=>RV.ld a1.2 rfl) ?_
   refine zrm 17 rfl zS rfl ?_;refine iJ 16 18 kU (enc:=aX) i rfl rfl zk zk zk zk (fun W hE=>C2 (d5.upd (aa (S:=fun _=>False) (fun h=>h) O3 hE) zd zd (fun h=>h) (fun _ h=>h)).map sx qp (Da _) ((nth bl i:Nat):Int) rfl rfl rfl (ma G3 _)) (fun W hE=>⟨hE.cell d1,hE.cell d2⟩) rfl rfl rfl zd rfl rfl rfl rfl rfl ?_
   intro f5 w4 b3 f4;have a9:rm (fun _=>False) O3 w3.drew O3 w4:=aa (fun h=>h) O3 f4;have c5:=d5.upd a9 zd zd (fun h=>h) (fun _ h=>h);have g1:(dD G3 ((nth bl i:Nat):Int)).length<=n:=by
    have e0:(((dD E (b:Nat)).take q).flatMap (dZ n fun x=>nx x m)++(dZ n (fun x=>nx x m) to)).Nodup:=by
     have:=rX (n:=n) (nx:=fun x=>nx x m) (d7.sublist (JO (q+1) _))
     rwa[aR a2,Dd,<-a7,DZ,JU,sQ]at this
    rw[a6.row];refine gu ((e0.sublist (Kd (JO j _) _)).sublist De) fun x hx=>?_
    rcases rU.1 (As.1 hx).1 with h1|h1
    ·exact(il.1 h1).1
    exact(im.1 (JD h1)).1
   refine qN 19 zk rfl ?_;refine aC kU (c5.at ((nth bl i:Nat):Int)) ((b9.upd a').upd a9) b3 (by simp) rfl rfl (by simp) (by simp[pc]) (by rw[pR];omega) (by rw[pR];omega) zo rfl ?_
   intro v5 w5 O5 d' b1 e9;have b6:=((b7.upd a' (fun _ _ _ h=>h)).upd a9 (fun _ _ _ h=>h)).upd b1 zo;have e2:w5.cell? (adr bv 1 i)=some (nI ((nth bl i:Nat):Int)):=by have:=b6.row.sl.cell (i:=i) (j:=0) zo rfl;rwa[ao]at this
   refine zg ?_;refine af (⟨b6.blk.cell 3 rfl,e2⟩) ?_
   refine qN 20 zk rfl ?_;refine vg (c5.map.upd b1 zd zo) sx qp zd ((nth bl i:Nat):Int) v5 rfl rfl rfl rfl rfl ?_
   intro w6 e1 b0;have d0:=b6.upd b0 zo;have e3:w6.cell? (adr bv 1 i)=some (nI ((nth bl i:Nat):Int)):=by have:=d0.row.sl.cell (i:=i) (j:=0) zo rfl;rwa[ao]at this
   have f3:=c5.put ((nth bl i:Nat):Int) zd zd b1 d' e1 b0;have d4:=a6.push i v5;rw[C9,hi,<-aR a4,<-hi]at d4;refine zg ?_;refine af (⟨d0.blk.cell 3 rfl,e3⟩) ?_;refine BG zk ?_;refine zg ?_;refine zvG (zl rfl rfl (uw zo)) ?_;refine zxd (j+1,O5,w6,cJ G3 ((nth bl i:Nat):Int) (v5,dD G3 ((nth bl i:Nat):Int)++[i])) (⟨a4,(((a5.trans (a'.mono (fun _ h=>h.elim) zd)).trans (a9.mono (fun _ h=>h.elim) zd)).trans (b1.mono (fun _ h=>by omega) zd)).trans (b0.mono (fun _ h=>by omega) zd),e9.upd b0,f3,d4⟩)
  intro e5;obtain rfl:j=(dZ n (fun x=>nx x m) to).length:=by have:=of_decide_eq_false e5;omega
  rw[su]at a6;refine zg ?_;refine zvG (zl rfl rfl (uw zo)) ?_;refine zxd (q+1,O3,w3,G3) (⟨a2,a5,b9,c6,by dsimp only;rw[aR a2,Dd,<-a7,DZ,JU,sQ];exact a6⟩)
 intro e6;obtain rfl:q=(dD E (b:Nat)).length:=by have:=of_decide_eq_false e6;omega
 rw[su]at hL;refine zg ?_;refine ae rfl rfl (⟨r,O2,G,rfl,a3,b',hG,hL⟩)
theorem DG(c k:Nat):((c:Int)==(k:Int))=(c==k):=by
 by_cases h:c=k
 ·subst h;simp
 rw[beq_eq_false_iff_ne.2 h,beq_eq_false_iff_ne.2 zo]
theorem tV(w:ow)(xb yb sb i c k len:Nat)(bv:ix)(a0:Shape bv len)(hi:i<len)(c1:w.cell? ⟨xb,0,none⟩=some (nP sb))(c2:w.cell? (nA sb 3)=some bv)(c3:w.cell? (adr bv 1 i)=some (nI (c:Nat)))(c4:w.cell? ⟨yb,0,none⟩=some (nI (k:Nat))):
  Js zI 173 [nI (i:Nat),nP xb,nP yb] w fun v w'=>v=.bool (c==k)/\J6 w w':=by
 refine rj func173 ntmps173 rfl rfl ?_;refine zg ?_
 refine Kx zk zk ?_;refine zwG (RV.ld c1 rfl) ?_
 refine zwG (RV.ld c2 rfl) ?_;refine zw (ah a0 ln (qy _) rfl rfl i rfl zo) ?_
 refine zw (RV.ld c3 rfl) ?_;refine zw (RV.ld c4 rfl) ?_
 refine zwG (RV.eql rfl rfl) ?_;refine WS.nil ?_
 refine zg ?_;refine ae rfl rfl (⟨by rw[DG c k],(sP w).drew⟩)
def tdL(td:List ((Int×Int)×Bool))(b many:Nat)(lt:Bool):Nat->List ((Int×Int)×Bool)
 |0=>td
 |m+1=>cJ (tdL td b many lt m) (((if(bx (tdL td b many lt m) ((b:Int),(m:Int))).getD false=true then(many:Int)else if lt=true then(b:Int)else(many:Int)),(m:Int))) true
theorem Cg(td:List ((Int×Int)×Bool))(k:Int×Int):Gk th (.bool false) (bx td k)=.bool ((bx td k).getD false):=by
 cases bx td k<;>rfl
def cL(bl:List Nat)(k:Nat)(L:List Nat):List Nat:=L.foldl (fun bl x=>bl.set x k) bl
theorem iU(k:Nat):∀(L bl:List Nat),(cL bl k L).length=bl.length
 |[],_=>rfl
 |x::L,bl=>by rw[cL,JY];exact(iU k L (bl.set x k)).trans rk
theorem vz{bl:List Nat}{k:Nat}{L:List Nat}{j:Nat}(h:j<L.length):cL bl k (L.take (j+1))=(cL bl k (L.take j)).set (nth L j) k:=by
 unfold cL;rw[aR h,J0];rfl
theorem lO(k:Nat):∀(L bl:List Nat) (x:Nat),x<bl.length->nth (cL bl k L) x=if x∈L then k else nth bl x
 |[],_,_,_=>by simp[cL]
 |y::L,bl,x,hx=>by
  rw[cL,JY];have:=lO k L (bl.set y k) x (by rw[rk];exact hx);rw[cL]at this;rw[this]
  by_cases h1:x∈L
  ·rw[if_pos h1,if_pos (tq _ h1)]
  rw[if_neg h1]
  by_cases h2:x=y
  ·subst h2;rw[if_pos (AW ..),aT hx,if_pos rfl]
  rw[if_neg (fun h=>(rI.1 h).elim h2 h1)]
  by_cases hy:y<bl.length
  ·rw[aT hy,if_neg h2]
  rw[List.set_eq_of_length_le zo]
def tdP(td:List ((Int×Int)×Bool))(b m:Nat):Prop:=bx td ((b:Int),(m:Int))=some true
theorem rz{a b c d:Int}(h:b≠d):¬((a,b)=(c,d)):=fun e=>h (IP e).2
theorem Aw(td:List ((Int×Int)×Bool))(b many:Nat)(lt:Bool)(c j:Nat):∀m,m<=j->bx (tdL td b many lt m) ((c:Int),(j:Int))=bx td ((c:Int),(j:Int))
 |0,_=>rfl
 |m+1,h=>by
  unfold tdL;rw[bf,if_neg (rz zo)];exact Aw td b many lt c j m zo
theorem CP{td:List ((Int×Int)×Bool)}{c j:Nat}(q:Int×Int)(h:tdP td c j):tdP (cJ td q true) c j:=by
 unfold tdP;rw[bf]
 split
 ·rfl
 exact h
theorem xN{td:List ((Int×Int)×Bool)}{b many:Nat}{lt:Bool}{c j:Nat}(h:tdP td c j):∀m,tdP (tdL td b many lt m) c j
 |0=>h
 |m+1=>CP _ (xN h m)
theorem xM{td:List ((Int×Int)×Bool)}{b many:Nat}{lt:Bool}{j:Nat}(h:tdP td b j):∀m,j<m->tdP (tdL td b many lt m) many j
 |0,hj=>absurd hj (oD j)
 |m+1,hj=>by
  unfold tdP tdL;rw[bf]
  by_cases e:j=m
  ·subst e;rw[Aw td b many lt b j j (pZ _),show bx td ((b:Int),(j:Int))=some true from h];simp
  rw[if_neg (rz zo)];exact xM h m zo
theorem DX{td:List ((Int×Int)×Bool)}{b many:Nat}{lt:Bool}{j:Nat}:∀m,j<m->tdP (tdL td b many lt m) many j\/tdP (tdL td b many lt m) b j
 |0,hj=>absurd hj (oD j)
 |m+1,hj=>by
  by_cases e:j=m
  ·subst e;unfold tdP;rw[show tdL td b many lt (j+1)=cJ (tdL td b many lt j) (((if(bx (tdL td b many lt j) ((b:Int),(j:Int))).getD false=true then(many:Int)else if lt=true then(b:Int)else(many:Int)),(j:Int))) true from rfl];rw[bf,bf]
   split
   ·exact .inl (if_pos rfl)
   split
   ·exact .inr (if_pos rfl)
   exact .inl (if_pos rfl)
  have:=DX (td:=td) (b:=b) (many:=many) (lt:=lt) (j:=j) m zo;unfold tdP at this ⊢;rw[show tdL td b many lt (m+1)=cJ (tdL td b many lt m) (((if(bx (tdL td b many lt m) ((b:Int),(m:Int))).getD false=true then(many:Int)else if lt=true then(b:Int)else(many:Int)),(m:Int))) true from rfl];rw[bf,bf,if_neg (rz zo),if_neg (rz zo)];exact this
section
variable{κ ν:Type}[DecidableEq κ]
theorem sm(k:κ)(x:ν):∀(l:List (κ×ν)),(cJ l k x).length<=l.length+1
 |[]=>pZ _
 |(a,y)::r=>by
  unfold cJ
  split
  ·simp
  simp only[vO];exact Nat.succ_le_succ (sm k x r)
theorem sk(k:κ)(x:ν):∀(l:List (κ×ν)) (e:κ×ν),e∈cJ l k x->e∈l\/e=(k,x)
 |[],e,h=>.inr (oU.1 h)
 |(a,y)::r,e,h=>by
  unfold cJ at h
  split at h
  ·rcases rI.1 h with h|h
   ·exact .inr h
   exact .inl (tq _ h)
  rcases rI.1 h with h|h
  ·exact .inl (by rw[h];exact AW ..)
  rcases sk k x r e h with h|h
  ·exact .inl (tq _ h)
  exact .inr h
theorem yG(k:κ):∀(l:List (κ×ν)) (e:κ×ν),e∈pQ l k->e∈l
 |[],e,h=>h
 |(a,y)::r,e,h=>by
  unfold pQ at h
  split at h
  ·exact tq _ h
  rcases rI.1 h with h|h
  ·rw[h];exact AW ..
  exact tq _ (yG k r e h)
theorem yH(k:κ)(x:ν):∀(l:List (κ×ν)),(k,x)∈l->(pQ l k).length+1=l.length
 |(a,y)::r,h=>by
  unfold pQ
  split
  ·rfl
  rename_i hn
  rcases rI.1 h with h|h
  ·exact absurd (IP h).1.symm hn
  simp only[vO];rw[yH k x r h]
theorem qH{k k':κ}(hne:k'≠k):∀(l:List (κ×ν)),bx (pQ l k) k'=bx l k'
 |[]=>rfl
 |(a,y)::r=>by
  unfold pQ
  split
  ·rename_i e;subst e;rw[show bx ((a,y)::r) k'=if a=k' then some y else bx r k' from rfl,if_neg (fun e=>hne e.symm)]
  rw[show bx ((a,y)::r) k'=if a=k' then some y else bx r k' from rfl,show bx ((a,y)::pQ r k) k'=if a=k' then some y else bx (pQ r k) k' from rfl,qH hne r]
end
theorem Ax(td:List ((Int×Int)×Bool))(b many:Nat)(lt:Bool):∀m,(tdL td b many lt m).length<=td.length+m
 |0=>pZ _
 |m+1=>by
  have:=sm (((if(bx (tdL td b many lt m) ((b:Int),(m:Int))).getD false=true then(many:Int)else if lt=true then(b:Int)else(many:Int)),(m:Int))) true (tdL td b many lt m);have h2:=Ax td b many lt m;unfold tdL;omega
def tdR(td:List ((Int×Int)×Bool))(many:Nat):Prop:=∀e∈td,∃c j:Nat,c<many/\j<37/\e.1=((c:Int),(j:Int))
theorem Av{td:List ((Int×Int)×Bool)}{b many:Nat}{lt:Bool}(h:tdR td many)(hb:b<many):∀m,m<=37->tdR (tdL td b many lt m) (many+1)
 |0,_=>fun e he=>by
  obtain⟨c,j,h1,h2,h3⟩:=h e he;exact⟨c,j,zo,h2,h3⟩
 |m+1,hm=>fun e he=>by
  unfold tdL at he
  rcases sk _ _ _ _ he with he|he
  ·exact Av h hb m zo e he
  rw[he]
  split
  ·exact⟨many,m,zo,zo,rfl⟩
  split
  ·exact⟨b,m,zo,zo,rfl⟩
  exact⟨many,m,zo,zo,rfl⟩
theorem tdR.del{td:List ((Int×Int)×Bool)}{many:Nat}(h:tdR td many)(k:Int×Int):tdR (pQ td k) many:=fun e he=>h e (yG k td e he)
def KeysE(E:List KVR)(many:Nat):Prop:=E.map (·.1)=(AK many).map fun(k:Nat)=>(k:Int)
theorem KeysE.len{E:List KVR}{many:Nat}(h:KeysE E many):E.length=many:=by
 have:=congrArg List.length h;simpa using this
theorem KeysE.mem{E:List KVR}{many:Nat}(h:KeysE E many){k:Nat}:(k:Int)∈E.map (·.1)↔k<many:=by
 rw[h,FX]
 constructor
 ·rintro⟨a,ha,e⟩;have:=tR.1 ha;omega
 intro hk;exact⟨k,tR.2 hk,rfl⟩
theorem KeysE.idx{E:List KVR}{many:Nat}(h:KeysE E many){k:Nat}(hk:k<many):je E (k:Int)=some k:=by
 rw[<-ey,h];refine BV.2 ⟨by simpa using hk,by simp,fun j hj=>?_⟩;simp;omega
theorem KeysE.idxN{E:List KVR}{many:Nat}(h:KeysE E many){k:Nat}(hk:many<=k):je E (k:Int)=none:=by
 rw[<-ey,h];refine Jo.2 fun x hx=>?_
 obtain⟨a,ha,rfl⟩:=FX.1 hx;have:=tR.1 ha;simp;omega
theorem KeysE.slot{E:List KVR}{many:Nat}(h:KeysE E many){k:Nat}(hk:k<many):lC E (k:Int)=k:=by
 unfold lC;rw[h.idx hk];rfl
theorem KeysE.add{E:List KVR}{many:Nat}(h:KeysE E many)(x:ix×List Nat):cJ E (many:Int) x=E++[((many:Int),x)]:=by
 rw[eK,h.idxN (pZ _)]
theorem KeysE.put{E:List KVR}{many:Nat}(h:KeysE E many){k:Nat}(hk:k<many)(x:ix×List Nat):cJ E (k:Int) x=E.set k ((k:Int),x):=by
 rw[eK,h.idx hk]
theorem KeysE.more{E:List KVR}{many:Nat}(h:KeysE E many)(x:ix×List Nat):KeysE (cJ E (many:Int) x) (many+1):=by
 unfold KeysE;rw[lg,if_neg (fun hm=>by have:=h.mem.1 hm;omega),h,J7,yr];rfl
theorem KeysE.same{E:List KVR}{many:Nat}(h:KeysE E many){k:Nat}(hk:k<many)(x:ix×List Nat):KeysE (cJ E (k:Int) x) many:=by
 unfold KeysE;rw[lg,if_pos (h.mem.2 hk)];exact h
theorem xO(E:List KVR)(k:Int):lC E k<=E.length:=by
 unfold lC
 cases h:je E k with
 |none=>exact pZ _
 |some j=>
  obtain⟨x,hx⟩:=iH h;exact Nat.le_of_lt (zR.1 hx).1
theorem G4{n many b:Nat}{bl:List Nat}{E:List KVR}{L:List Nat}{ov v':ix}(hb:b<many)(a0:bl.length=n)(a1:∀x,x∈dD E (b:Int)↔x<n/\nth bl x=b):
  Cut n bl (cL bl many L) (fun k=>dD E (k:Int)) (fun k=>dD (cJ (cJ E (many:Int) (ov,L)) (b:Int) (v',gO (fun x=>nth (cL bl many L) x==many) (dD E (b:Int)))) (k:Int)) many b L:=by
 have a2:=iU many L bl;refine⟨by rw[a2,a0],fun x hx=>lO many L bl x zo,?_,?_,fun c h1 h2=>?_⟩
 ·rw[ee,if_neg zo,ee,if_pos rfl]
 ·rw[ee,if_pos rfl];unfold gO;refine JQ fun x hx=>?_
  obtain⟨h1,h2⟩:=(a1 x).1 hx;show(!(nth (cL bl many L) x==many)) = !(L.contains x);rw[lO many L bl x zo]
  by_cases hL:x∈L
  ·rw[if_pos hL];simp[hL]
  rw[if_neg hL,h2];simp[hL];omega
 rw[ee,if_neg zo,ee,if_neg zo]
end Go.Proofs.YtlehnbkknlpkbaaGreatDoor
section
namespace Go.VL
open Go.Proofs
def reF(f:Nat->Nat)(O:Nat->Nat):Nat->Nat:=fun b=>f (O b)
theorem Upd.re{S:Nat->Prop}{O O':Nat->Nat}{w w':ow}(h:rm S O w O' w')(f:Nat->Nat)(f0:f 0=0)(hf:∀b,O b≠0->f (O b)=O b):rm S O w (reF f O') w':=
 ⟨h.os,h.tape,h.output,h.size,h.blk,fun b hb=>by unfold reF;rw[h.tag b hb];exact hf b hb,fun b hb=>h.new b fun e=>hb (by unfold reF;rw[e];exact f0),h.z⟩
theorem Rng.re{B:Nat}{O:Nat->Nat}{w:ow}(h:GT B O w)(f:Nat->Nat)(f0:f 0=0):GT B (reF f O) w:=⟨h.le,fun b hb=>h.rng b fun e=>hb (by unfold reF;rw[e];exact f0)⟩
theorem RowT.re{α:Type}{enc:α->List ix}{E:BJ}{sz:Nat}{O:Nat->Nat}{w:ow}{i:Nat}{v:ix}{l:List α}(h:uY enc E sz O w i v l)(f:Nat->Nat){j:Nat}(hj:f i=j):uY enc E sz (reF f O) w j v l:=
 ⟨⟨h.1.row,fun g hg=>by unfold reF;rw[h.1.tag g hg];exact hj⟩,h.2⟩
theorem BlkO.re{O:Nat->Nat}{w:ow}{i b:Nat}{cs:Array ix}{E:BJ}(h:CY O w i b cs E)(f:Nat->Nat){j:Nat}(hj:f i=j):CY (reF f O) w j b cs E:=⟨h.blk,by unfold reF;rw[h.tag];exact hj⟩
theorem MapO.re{κ ν:Type}{kv:κ->ix}{vv:ν->ix}{O:Nat->Nat}{w:ow}{i r:Nat}{l:List (κ×ν)}(h:zf kv vv O w i r l)(f:Nat->Nat){j:Nat}(hj:f i=j):zf kv vv (reF f O) w j r l:=⟨h.blk,by unfold reF;rw[h.tag];exact hj,h.born⟩
theorem RangeO.re{κ ν:Type}{kv:κ->ix}{vv:ν->ix}{O:Nat->Nat}{w:ow}{i j r q:Nat}{left:List (κ×ν)}{a0:Option (κ×ν)}(h:KB kv vv O w i j r q left a0)(f:Nat->Nat){i' j':Nat}(hi:f i=i')(hj:f j=j'):KB kv vv (reF f O) w i' j' r q left a0:=
 ⟨h.ex,by unfold reF;rw[h.tag];exact hi,by unfold reF;rw[h.tagq];exact hj⟩
theorem MapO.lowT{κ ν:Type}{kv:κ->ix}{vv:ν->ix}{O:Nat->Nat}{w:ow}{i r:Nat}{l:List (κ×ν)}(h:zf kv vv O w i r l){T:Nat}(hi:i<T):zf kv vv (Go.VL.lowT O T) w i r l:=⟨h.blk,by unfold Go.VL.lowT;rw[h.tag,if_neg zo],h.born⟩
def FR(a b:Nat):Nat->Nat:=fun t=>if t=a then b else t
theorem A5(a b:Nat):FR a b a=b:=if_pos rfl
theorem rG{a b t:Nat}(h:t≠a):FR a b t=t:=if_neg h
end Go.VL
namespace Go.Proofs.YtlehnbkknlpkbaaGreatDoor
open Go.VL Go.Proofs
set_option maxRecDepth 10000
theorem FromO.re{O:Nat->Nat}{w:ow}{i:Nat}{fv:ix}{n:Nat}{nx:Nat->Nat->Nat}(h:FromO O w i fv n nx)(f:Nat->Nat){j:Nat}(hj:f i=j):FromO (reF f O) w j fv n nx:=by
 obtain⟨ms,a0,h1,h2,h3⟩:=h.ex;exact⟨ms,a0,h1.re f hj,h2,fun m hm=>⟨(h3 m hm).1.re f hj,(h3 m hm).2.1,fun t ht=>((h3 m hm).2.2 t ht).re f hj⟩⟩
theorem SpO.cut{S:Nat->Prop}{O O':Nat->Nat}{w w':ow}{sb:Nat}{nv tv fv bv:ix}{sr tr n:Nat}{nx:Nat->Nat->Nat}{bl a4:List Nat}{E:List KVR}{td a0:List ((Int×Int)×Bool)}{many b tg:Nat}{ov v':ix}{L L':List Nat} 
  (h:SpO O w sb nv tv fv bv sr tr n nx bl E td many) (hk:KeysE E many) (hb:b<many) (a7:10+many<=tg) (a5:uY aX 3 1 O w tg ov L)
  (u:rm S O w O' w') (hS:∀q,S q->1<=q/\q<=4\/q=10+b)
  (h1:CY O' w' 1 sb #[nv,tv,fv,bv,.map (some sr),.map (some tr),nI ((many+1:Nat):Int)] 228) (h2:uY aX 3 1 O' w' 2 bv a4)
  (h3:zf (fun k:Int=>nI k) (fun v:ix=>v) O' w' 3 sr (cJ (cJ (E.map ud) (many:Nat) ov) (b:Nat) v')) (h4:uY aX 3 1 O' w' (10+b) v' L') (h5:zf et th O' w' 4 tr a0) :
  SpO (reF (FR tg (10+many)) O') w' sb nv tv fv bv sr tr n nx a4 (cJ (cJ E (many:Int) (ov,L)) (b:Int) (v',L')) a0 (many+1):=by
 have n1:∀ {t:Nat},t<10+many->FR tg (10+many) t=t:=fun h=>rG zo
 have a6:=hk.len;have a2:=hk.more (ov,L);have a1:=a2.len;refine⟨h1.re _ (n1 zo),h2.re _ (n1 zo),⟨?_,fun k a3=>?_⟩,h5.re _ (n1 zo),(h.frm.upd u zd (fun hs=>by rcases hS _ hs with h|h<;>omega)).re _ (n1 zo)⟩
 ·rw[xm,xm];exact h3.re _ (n1 zo)
 rw[a2.put zo]at a3 ⊢;rw[rk]at a3;rw[aT zo]
 by_cases e1:k=b
 ·rw[if_pos e1];subst e1;exact h4.re _ (n1 zo)
 rw[if_neg e1,hk.add,aA]
 by_cases e2:k<E.length
 ·rw[if_pos e2];exact((h.st.row k e2).upd u zo (fun hs=>by rcases hS _ hs with h|h<;>omega)).re _ (n1 zo)
 rw[if_neg e2,show k-E.length=0 from by omega,ar];obtain rfl:k=many:=zo;exact(a5.upd u zo (fun hs=>by rcases hS _ hs with h|h<;>omega)).re _ (A5 _ _)
end Go.Proofs.YtlehnbkknlpkbaaGreatDoor
end
namespace Go.Proofs.YtlehnbkknlpkbaaGreatDoor
theorem vQ(B:Nat)(O:Nat → Nat)(w:ow)(sb:Nat)(nv tv fv bv:ix)(sr tr n:Nat)(nx:Nat → Nat → Nat)(bl:List Nat)(E:List KVR)(td:List ((Int×Int)×Bool))(many b tg:Nat)(ov:ix)(L:List Nat)(hR:GT B O w)(hS:SpO O w sb nv tv fv bv sr tr n nx bl E td many)
  (hov:uY aX 3 1 O w tg ov L) (hk:KeysE E many) (htg:10 + many ≤ tg) (hL:∀x ∈ L, x < bl.length) (hmany:many ≤ 1000) (hbm:b < many) (hbs:∀x ∈ dD E (b:Nat), x < bl.length) :
  Js zI 149 [nP sb, nI (b:Nat), ov] w fun _ w' =>
   ∃v' O', rm (fun q => 1 ≤ q ∧ q ≤ 4 ∨ q = 10 + b) O w O' w' ∧ GT B O' w' ∧ CY O' w' 1 sb #[nv, tv, fv, bv, .map (some sr), .map (some tr), nI ((many + 1:Nat):Int)] 228 ∧
    uY aX 3 1 O' w' 2 bv (cL bl many L) ∧ zf (fun k:Int => nI k) (fun v:ix => v) O' w' 3 sr (cJ (cJ (E.map ud) (many:Nat) ov) (b:Nat) v') ∧
    uY aX 3 1 O' w' (10 + b) v' (gO (fun x => nth (cL bl many L) x == many) (dD E (b:Nat))) ∧ zf et th O' w' 4 tr (tdL td b many (decide ((gO (fun x => nth (cL bl many L) x == many) (dD E (b:Nat))).length < L.length)) 37) := by
 have hElen := hk.len
 obtain⟨T0, hT00, hT0'⟩ := hR.bound
 obtain⟨T, hTd⟩:∃T, T = T0 + 10 + tg := ⟨_, rfl⟩
 have hT:∀b, O b < T := fun b => by have := hT0' b; omega
 have hSl := hk.slot hbm
 have hrb0 := hS.st.at (b:Int)
 rw[hSl]at hrb0
 refine rj func149 ntmps149 rfl rfl ?_
 refine pN ?_
 refine ox ?_
 refine aE hR T (by omega) rfl rfl ?_
 intro xb w1 O1 hx1 hU1 hR1 hE1
 have hS1 := hS.upd hU1 (by omega)
 have x1:w1.cell? ⟨xb, 0, none⟩ = some (nP sb) := hx1.cell 0 rfl
 have c1:w1.cell? (nA sb 6) = some (nI (many:Nat)) := hS1.blk.cell 6 rfl
 refine oz ?_
 refine az ?_
 refine pN ?_
 refine ox ?_
 refine zv (RV.ld x1 rfl) ?_
 refine zv (aq rfl) ?_
 refine zv (RV.fa rfl) ?_
 refine zv (RV.ld c1 rfl) ?_
 refine ax hR1 (T + 1) (by omega) (Dc _) rfl ?_
 intro yb w2 O2 hy2 hU2 hR2 hE2
 have x2:w2.cell? ⟨xb, 0, none⟩ = some (nP sb) := (hx1.upd hU2 (by omega) (by omega)).cell 0 rfl
 have hS2 := hS1.upd hU2 (by omega)
 refine ak (j := 0) hy2 rfl (qy _) rfl rfl rfl rfl ?_
 have hU3:rm (fun j => j = T + 1) O2 w2 O2 (w2.setCell ⟨yb, 0, none⟩ (nI (many:Nat))) := CR (by omega) hy2.tag rfl
 have hy3:CY O2 (w2.setCell ⟨yb, 0, none⟩ (nI (many:Nat))) (T + 1) yb #[nI (many:Nat)] 3 := hy2.set 0 _
 have hx3 := (hx1.upd hU2 (by omega) (by omega)).upd hU3 (by omega) (by omega)
 have hR3 := hR2.upd hU3
 have hS3 := hS2.upd hU3 (by omega)
 have hov3 := ((hov.upd hU1 (by omega) (by omega)).upd hU2 (by omega) (by omega)).upd hU3 (by omega) (by omega)
 have hU03:rm (fun q => (1 ≤ q ∧ q ≤ 4 ∨ q = 10 + b) ∨ T ≤ q) O w O2 (w2.setCell ⟨yb, 0, none⟩ (nI (many:Nat))) := ((hU1.mono (fun _ h => .inr (by omega)) (by omega)).trans (hU2.mono (fun _ h => .inr (by omega)) (by omega))).trans (hU3.mono (fun _ h => .inr (by omega)) (by omega))
 generalize w2.setCell ⟨yb, 0, none⟩ (nI (many:Nat)) = w3 at *
 have x3:w3.cell? ⟨xb, 0, none⟩ = some (nP sb) := hx3.cell 0 rfl
 have c3:w3.cell? (nA sb 6) = some (nI (many:Nat)) := hS3.blk.cell 6 rfl
 refine oz ?_
 refine az ?_
 refine pN ?_
 refine ox ?_
 refine zv (RV.ld x3 rfl) ?_
 refine zv (aq rfl) ?_
 refine zv (RV.fa rfl) ?_
 refine zv (RV.ld c3 rfl) ?_
 refine zv (zl rfl rfl (uw (by omega))) ?_
 refine zv (aq rfl) ?_
 refine zv (RV.fa rfl) ?_
 refine ak (j := 6) hS3.blk rfl (qy _) rfl rfl rfl rfl ?_
 have hU4:rm (fun j => j = 1) O2 w3 O2 (w3.setCell ⟨sb, 6, none⟩ (nI ((many:Int) + 1))) := CR (by decide) hS3.blk.tag rfl
 have hb4:CY O2 (w3.setCell ⟨sb, 6, none⟩ (nI ((many:Int) + 1))) 1 sb #[nv, tv, fv, bv, .map (some sr), .map (some tr), nI ((many:Int) + 1)] 228 := hS3.blk.set 6 _
 have hx4 := hx3.upd hU4 (by omega) (by omega)
 have hy4 := hy3.upd hU4 (by omega) (by omega)
 have hR4 := hR3.upd hU4
 have hrow4 := hS3.row.upd hU4 (by decide) (by omega)
 have hst4 := hS3.st.map.upd hU4 (by decide) (by omega)
 have htd4 := hS3.todo.upd hU4 (by decide) (by omega)
 have hov4 := hov3.upd hU4 (by omega) (by omega)
 have hrb4 := (((hrb0.upd hU1 (by omega) (by omega)).upd hU2 (by omega) (by omega)).upd hU3 (by omega) (by omega)).upd hU4 (by omega) (by omega)
 have hU04 := hU03.trans (hU4.mono (fun _ h => .inl (.inl (by omega))) (by omega))
 generalize w3.setCell ⟨sb, 6, none⟩ (nI ((many:Int) + 1)) = w4 at *
 have hLl := hov4.sl.len_le
 have hsh := hov4.sl
 refine oz ?_
 refine az ?_
 refine pN ?_
 refine pN ?_
 refine ox ?_
 refine zv (rf rfl) ?_
 refine zv (aM hsh.sh ln rfl) ?_
 refine zv (rf rfl) ?_
 refine oz ?_
 refine az ?_
 refine Db ?_
 refine zlp (fun z:Nat×ow => [(1, nI (b:Nat)), (2, ov), (3, nP xb), (6, nP yb), (22, ov), (23, nI L.length), (24, nI z.1)]) (fun z => z.2) (fun z => z.1 ≤ L.length ∧ rm (fun q => q = 2) O2 w4 O2 z.2 ∧ uY aX 3 1 O2 z.2 2 bv (cL bl many (L.take z.1))) (fun z => L.length - z.1) (0, w4) (⟨ps _, GZ (by decide) _ _, hrow4⟩) ?_
 rintro⟨j, w5⟩ ⟨hj, hU5, hrow5⟩
 dsimp only at hj hU5 hrow5 ⊢
 have hov5 := hov4.upd hU5 (by omega) (by omega)
 have hx5 := hx4.upd hU5 (by omega) (by omega)
 have hy5 := hy4.upd hU5 (by omega) (by omega)
 have hb5 := hb4.upd hU5 (by omega) (by omega)
 have x5:w5.cell? ⟨xb, 0, none⟩ = some (nP sb) := hx5.cell 0 rfl
 have y5:w5.cell? ⟨yb, 0, none⟩ = some (nI (many:Nat)) := hy5.cell 0 rfl
 refine pN ?_
 refine ox ?_
 refine zv (JR rfl rfl) ?_
 refine oz ?_
 refine az ?_
 refine pN ?_
 refine zC ?_ ?_
 ·intro hlt
  replace hlt:j < L.length := by have := of_decide_eq_true hlt; omega
  have hs5 := hov5.sl
  have m1:w5.cell? (adr ov 1 j) = some (nI ((nth L j:Nat):Int)) := by have := hs5.cell (i := j) (j := 0) hlt rfl; rwa[ao]at this
  have c5:w5.cell? (nA sb 3) = some bv := hb5.cell 3 rfl
  obtain⟨i, hi⟩:∃i, i = nth L j := ⟨_, rfl⟩
  have hil:i < (cL bl many (L.take j)).length := by rw[iU, hi]; exact hL _ (aO hlt)
  rw[← hi]at m1
  refine Fu ?_
  refine az ?_
  refine pN ?_
  refine Db ?_
  refine pN ?_
  refine ox ?_
  refine zv (tG (by first | exact hs5) ln (qy _) rfl rfl _ rfl (by omega)) ?_
  refine zv (RV.ld m1 rfl) ?_
  refine zv (uh rfl) ?_
  refine oz ?_
  refine az ?_
  refine Kc 7 rfl rfl (by kernel_rfl) (by kernel_rfl) ?_
  refine zw (RV.ld x5 rfl) ?_
  refine zw (aq rfl) ?_
  refine zw (RV.fa rfl) ?_
  refine zw (RV.ld c5 rfl) ?_
  refine zw (rf rfl) ?_
  refine zw (RV.ld y5 rfl) ?_
  refine zw (ah hrow5.sl.sh ln (qy _) rfl rfl i rfl hil) ?_
  refine Kw ?_
  refine Gh hrow5.drew i hil many (qy _) rfl (by decide) rfl rfl rfl rfl ?_
  intro w6 hrow6 hU6
  refine oz ?_
  refine eh ?_
  refine az ?_
  refine ox ?_
  refine zv (zl rfl rfl (uw (by omega))) ?_
  refine zv (rf rfl) ?_
  refine oz ?_
  refine zxd (j + 1, w6) (⟨hlt, hU5.drew.trans hU6, by dsimp only; rw[vz hlt, ← hi]; exact hrow6⟩)
 ·intro hge
  obtain rfl:j = L.length := by have := of_decide_eq_false hge; omega
  rw[su]at hrow5
  have c5:w5.cell? (nA sb 4) = some (.map (some sr)) := hb5.cell 4 rfl
  have hst5 := hst4.upd hU5 (by decide) (by decide)
  refine JB ?_
  refine cT ?_
  refine cT ?_
  refine eY ?_
  refine az ?_
  refine pN ?_
  refine Kc 6 rfl rfl (by kernel_rfl) (by kernel_rfl) ?_
  refine zw (RV.ld x5 rfl) ?_
  refine zw (aq rfl) ?_
  refine zw (RV.fa rfl) ?_
  refine zw (RV.ld c5 rfl) ?_
  refine zw (RV.ld y5 rfl) ?_
  refine zw (rf rfl) ?_
  refine Kw ?_
  refine vg (O := O2) (i := 3) (⟨hst5.blk, hst5.tag, hst5.born⟩:zf (fun k:Int => nI k) (fun v:ix => v) O2 w5.drew 3 sr (E.map ud)) sx qp (by decide) (many:Int) ov rfl rfl rfl rfl rfl ?_
  intro w6 hst6 hU6'
  have hU6:rm (fun q => q = 3) O2 w5 O2 w6 := hU6'.ofDrew
  have hU46:rm (fun q => q = 2 ∨ q = 3) O2 w4 O2 w6 := (hU5.mono (fun _ h => .inl h) (by decide)).trans (hU6.mono (fun _ h => .inr h) (by decide))
  have hov6 := hov4.upd hU46 (by omega) (by omega)
  have hx6 := hx4.upd hU46 (by omega) (by omega)
  have hy6 := hy4.upd hU46 (by omega) (by omega)
  have hb6 := hb4.upd hU46 (by omega) (by omega)
  have hrow6 := hrow5.upd hU6 (by decide) (by decide)
  have hrb6 := hrb4.upd hU46 (by omega) (by omega)
  have htd6 := htd4.upd hU46 (by decide) (by decide)
  have hR6 := hR4.upd hU46
  have x6:w6.cell? ⟨xb, 0, none⟩ = some (nP sb) := hx6.cell 0 rfl
  have y6:w6.cell? ⟨yb, 0, none⟩ = some (nI (many:Nat)) := hy6.cell 0 rfl
  have c6:w6.cell? (nA sb 4) = some (.map (some sr)) := hb6.cell 4 rfl
  have hbl' := iU many L bl
  obtain⟨bl', hbe⟩:∃bl', bl' = cL bl many L := ⟨_, rfl⟩
  rw[← hbe]at hrow6 hbl' ⊢
  refine oz ?_
  refine az ?_
  refine pN ?_
  refine aI (fun W => W.cell? ⟨xb, 0, none⟩ = some (nP sb) ∧ W.cell? (nA sb 4) = some (.map (some sr))) 14 rfl (by kernel_rfl) ?_
  refine zin ⟨x6, c6⟩ fun zS => ?_
  refine zt 0 rfl zS (fun w1 hw1 => RV.ld hw1.1 rfl) ?_
  refine zr 1 rfl zS (fun _ => aq rfl) ?_
  refine zrf 2 rfl zS rfl ?_
  refine zt 3 rfl zS (fun w1 hw1 => RV.ld hw1.2 rfl) ?_
  refine zrm 4 rfl zS rfl ?_
  refine zt 5 rfl zS (fun w1 hw1 => RV.ld hw1.1 rfl) ?_
  refine zr 6 rfl zS (fun _ => aq rfl) ?_
  refine zrf 7 rfl zS rfl ?_
  refine zt 8 rfl zS (fun w1 hw1 => RV.ld hw1.2 rfl) ?_
  refine zrm 9 rfl zS rfl ?_
  refine zr 11 rfl zS (fun _ => eA rfl rfl) ?_
  refine qN 10 (by kernel_rfl) rfl ?_
  refine zv (C2 (O := O2) (i := 3) (⟨hst6.blk, hst6.tag, hst6.born⟩:zf (fun k:Int => nI k) (fun v:ix => v) O2 w6.drew 3 sr (cJ (E.map ud) (many:Int) ov)) sx qp (Da _) (b:Int) rfl rfl rfl ((congrArg (Gk (fun v:ix => v) (nS)) ((bf (E.map ud) (many:Int) (b:Int) ov).trans (if_neg (by omega)))).trans (ma E _))) ?_
  refine oz ?_
  refine af (⟨x6, c6⟩) ?_
  refine qN 12 (by kernel_rfl) rfl ?_
  refine zc call172 (pM call173 #[nP xb, nP yb] B O2 w6.drew (10 + b) (CC E (b:Nat)) (dD E (b:Nat)) (fun x => nth bl' x == many) (by omega) hR6.drew hrb6.drew (fun x hx O' W u => tV W xb yb sb x (nth bl' x) many bl'.length bv hrow6.sl.sh (by rw[hbl']; exact hbs x hx) ((hx6.drew.upd u (by omega) (by omega)).cell 0 rfl) ((hb6.drew.upd u (by omega) (by omega)).cell 3 rfl) (by have := (hrow6.drew.upd u (by decide) (by omega)).sl.cell (i := x) (j := 0) (by rw[hbl']; exact hbs x hx) rfl; rwa[ao]at this) ((hy6.drew.upd u (by omega) (by omega)).cell 0 rfl))) ?_
  rintro v7 w7 ⟨hkeep7, hU7'⟩
  have hU7:rm (fun q => q = 10 + b) O2 w6 O2 w7 := hU7'.ofDrew
  have hst7 := hst6.upd hU7 (by decide) (by omega)
  have x7:w7.cell? ⟨xb, 0, none⟩ = some (nP sb) := (hx6.upd hU7 (by omega) (by omega)).cell 0 rfl
  have c7:w7.cell? (nA sb 4) = some (.map (some sr)) := (hb6.upd hU7 (by omega) (by omega)).cell 4 rfl
  refine oz ?_
  refine af (⟨x7, c7⟩) ?_
  refine qN 13 (by kernel_rfl) rfl ?_
  refine vg hst7 sx qp (by decide) (b:Int) v7 rfl rfl rfl rfl rfl ?_
  intro w8 hst8 hU8
  have hU68:rm (fun q => q = 10 + b ∨ q = 3) O2 w6 O2 w8 := (hU7.mono (fun _ h => .inl h) (by omega)).trans (hU8.mono (fun _ h => .inr h) (by omega))
  have hov8 := hov6.upd hU68 (by omega) (by omega)
  have hx8 := hx6.upd hU68 (by omega) (by omega)
  have hy8 := hy6.upd hU68 (by omega) (by omega)
  have hb8 := hb6.upd hU68 (by omega) (by omega)
  have hrow8 := hrow6.upd hU68 (by decide) (by omega)
  have htd8 := htd6.upd hU68 (by decide) (by omega)
  have hkeep8 := hkeep7.upd hU8 (by omega) (by omega)
  refine oz ?_
  refine af (⟨hx8.cell 0 rfl, hb8.cell 4 rfl⟩) ?_
  have hU08 := (hU04.trans (hU46.mono (S' := fun q => (1 ≤ q ∧ q ≤ 4 ∨ q = 10 + b) ∨ T ≤ q) (fun _ h => .inl (by omega)) (by omega))).trans (hU68.mono (fun _ h => .inl (by omega)) (by omega))
  obtain⟨lt, hlt⟩:∃lt, lt = decide ((gO (fun x => nth bl' x == many) (dD E (b:Nat))).length < L.length) := ⟨_, rfl⟩
  rw[← hlt]
  obtain⟨kp, hkp⟩:∃kp, kp = gO (fun x => nth bl' x == many) (dD E (b:Nat)) := ⟨_, rfl⟩
  rw[← hkp]at hkeep8 hlt ⊢
  refine BG (by kernel_rfl) ?_
  refine az ?_
  refine pN ?_
  refine ox ?_
  refine zv (rf rfl) ?_
  refine oz ?_
  refine az ?_
  refine Db ?_
  refine zlp (fun z:Nat×ow => [(1, nI (b:Nat)), (2, ov), (3, nP xb), (6, nP yb), (55, nI z.1)]) (fun z => z.2) (fun z => z.1 ≤ 37 ∧ rm (fun q => q = 4) O2 w8 O2 z.2 ∧ zf et th O2 z.2 4 tr (tdL td b many lt z.1)) (fun z => 37 - z.1) (0, w8) (⟨ps _, GZ (by decide) _ _, htd8⟩) ?_
  rintro⟨m, w9⟩ ⟨hm, hU9, htd9⟩
  dsimp only at hm hU9 htd9 ⊢
  have hov9 := (hov8.upd hU9 (by omega) (by omega)).sl
  have hx9 := hx8.upd hU9 (by omega) (by omega)
  have hy9 := hy8.upd hU9 (by omega) (by omega)
  have hb9 := hb8.upd hU9 (by omega) (by omega)
  have hst9 := hst8.upd hU9 (by decide) (by omega)
  have hkeep9 := (hkeep8.upd hU9 (by omega) (by omega)).sl
  refine pN ?_
  refine ox ?_
  refine zv (JR rfl rfl) ?_
  refine oz ?_
  refine az ?_
  refine pN ?_
  refine zC ?_ ?_
  ·intro hlm
   replace hlm:m < 37 := by have := of_decide_eq_true hlm; omega
   have x9:w9.cell? ⟨xb, 0, none⟩ = some (nP sb) := hx9.cell 0 rfl
   have y9:w9.cell? ⟨yb, 0, none⟩ = some (nI (many:Nat)) := hy9.cell 0 rfl
   have c9:w9.cell? (nA sb 4) = some (.map (some sr)) := hb9.cell 4 rfl
   have d9:w9.cell? (nA sb 5) = some (.map (some tr)) := hb9.cell 5 rfl
   refine Fu ?_
   refine az ?_
   refine pN ?_
   refine Db ?_
   refine pN ?_
   refine ox ?_
   refine zv (rf rfl) ?_
   refine zv (uh rfl) ?_
   refine oz ?_
   refine az ?_
   refine pN ?_
   refine ox ?_
   refine zv (RV.ld y9 rfl) ?_
   refine zv (uh rfl) ?_
   refine oz ?_
   refine az ?_
   refine pN ?_
   refine pN ?_
   refine ox ?_
   refine zv (RV.ld x9 rfl) ?_
   refine zv (aq rfl) ?_
   refine zv (RV.fa rfl) ?_
   refine zv (RV.ld c9 rfl) ?_
   refine zv (rf rfl) ?_
   refine zv (C2 hst9 sx qp (Da _) (b:Int) rfl rfl rfl (congrArg (Gk (fun v:ix => v) (nS)) ((bf _ (b:Int) (b:Int) v7).trans (if_pos rfl)))) ?_
   refine zv (aM hkeep9.sh ln rfl) ?_
   refine zv (rf rfl) ?_
   refine zv (aM hov9.sh ln rfl) ?_
   refine zv (JR rfl rfl) ?_
   refine oz ?_
   refine az ?_
   refine iK (fun z:Int => [(1, nI (b:Nat)), (2, ov), (3, nP xb), (6, nP yb), (55, nI (m:Nat)), (9, nI (m:Nat)), (10, nI z)]) (fun z:Int => w9) (fun z:Int => z = if lt = true then(b:Int)else(many:Int)) ?_ ?_
   ·intro hN
    refine zC ?_ ?_
    ·intro h1
     refine ox ?_
     refine zv (rf rfl) ?_
     refine zv (uh rfl) ?_
     refine oz ?_
     exact eD (hN ((b:Int)) (by rw[if_pos (by rw[hlt]; have := of_decide_eq_true h1; exact decide_eq_true (by omega))])) ⟨rfl, rfl, rfl, rfl, rfl, rfl, rfl, trivial⟩ rfl
    ·intro h1
     refine Fu ?_
     exact eD (hN ((many:Int)) (by rw[if_neg (by rw[hlt]; have := of_decide_eq_false h1; simp; omega)])) ⟨rfl, rfl, rfl, rfl, rfl, rfl, rfl, trivial⟩ rfl
   rintro z hz
   refine az ?_
   refine pN ?_
   refine pN ?_
   refine ox ?_
   refine zv (RV.ld x9 rfl) ?_
   refine zv (aq rfl) ?_
   refine zv (RV.fa rfl) ?_
   refine zv (RV.ld d9 rfl) ?_
   refine zv (rf rfl) ?_
   refine zv (rf rfl) ?_
   refine zv (eX BW (qy _) (A2 _) rfl rfl) ?_
   refine zv (C2 htd9 G6 Io (zeroValue4 _) ((b:Int), (m:Int)) rfl rfl rfl (Cg _ _)) ?_
   refine oz ?_
   refine az ?_
   refine iK (fun y:Int => [(1, nI (b:Nat)), (2, ov), (3, nP xb), (6, nP yb), (55, nI (m:Nat)), (9, nI (m:Nat)), (10, nI y)]) (fun y:Int => w9) (fun y:Int => y = if(bx (tdL td b many lt m) ((b:Int), (m:Int))).getD false = true then(many:Int)else z) ?_ ?_
   ·intro hN
    refine zC ?_ ?_
    ·intro h1
     refine ox ?_
     refine zv (RV.ld y9 rfl) ?_
     refine zv (uh rfl) ?_
     refine oz ?_
     exact eD (hN ((many:Int)) (by rw[if_pos h1])) ⟨rfl, rfl, rfl, rfl, rfl, rfl, rfl, trivial⟩ rfl
    ·intro h1
     refine Fu ?_
     exact eD (hN (z) (by rw[if_neg (by rw[h1]; decide)])) ⟨rfl, rfl, rfl, rfl, rfl, rfl, rfl, trivial⟩ rfl
   rintro y hy
   refine az ?_
   refine ox ?_
   refine zv (RV.ld x9 rfl) ?_
   refine zv (aq rfl) ?_
   refine zv (RV.fa rfl) ?_
   refine zv (RV.ld d9 rfl) ?_
   refine zv (rf rfl) ?_
   refine zv (rf rfl) ?_
   refine zv (eX BW (qy _) (A2 _) rfl rfl) ?_
   refine vg htd9 G6 Io (by decide) (y, (m:Int)) true rfl rfl rfl rfl rfl ?_
   intro w10 htd10 hU10
   refine oz ?_
   refine eh ?_
   refine az ?_
   refine ox ?_
   refine zv (zl rfl rfl (uw (by omega))) ?_
   refine zv (rf rfl) ?_
   refine oz ?_
   refine zxd (m + 1, w10) (⟨hlm, hU9.trans hU10, by dsimp only; unfold tdL; rw[← hz, ← hy]; exact htd10⟩)
  ·intro hgm
   obtain rfl:m = 37 := by have := of_decide_eq_false hgm; omega
   refine JB ?_
   refine cT ?_
   refine cT ?_
   refine eY ?_
   have hR9 := ((hR6.upd hU68).upd hU9).lowT T
   refine aH rfl (⟨v7, lowT O2 T, (hU08.trans (hU9.mono (fun _ h => .inl (by omega)) (by omega))).lowT hT (fun b h => by have := hT b; omega) (by omega), hR9, hb9.lowT (by omega), (hrow8.upd hU9 (by decide) (by decide)).lowT (by omega), hst9.lowT (by omega), (hkeep8.upd hU9 (by omega) (by omega)).lowT (by omega), htd9.lowT (by omega)⟩)
structure FI(tl:Nat->Nat)(n i:Nat)(D:List (Int×Int))(bl:List Nat)(E:List KVR)(many:Nat):Prop where
 blen:bl.length=n
 val:∀j,j<i->bx D ((tl j:Nat):Int)=some ((nth bl j:Nat):Int)
 inj:∀u u' b,bx D u=some b->bx D u'=some b->u=u'
 rng:∀u b,bx D u=some b->∃k:Nat,b=(k:Int)/\k<many
 keys:KeysE E many
 row:∀k:Nat,dD E (k:Int)=(AK i).filter fun x=>nth bl x==k
 ne:∀k,k<many->dD E (k:Int)≠[]
 mi:many<=i
theorem DT(tl:Nat->Nat)(n:Nat):FI tl n 0 [] (sN n 0) [] 0:=
 ⟨by simp,fun j hj=>absurd hj (oD j),fun u u' b h=>absurd h (by simp[bx]),fun u b h=>absurd h (by simp[bx]),rfl,fun k=>rfl,fun k hk=>absurd hk (oD k),pZ _⟩
theorem FI.rowsN{tl:Nat->Nat}{n i:Nat}{D:List (Int×Int)}{bl:List Nat}{E:List KVR}{many:Nat}(h:FI tl n i D bl E many)(k:Nat):(dD E (k:Int)).length<=i:=by
 rw[h.row];exact J1 (Gi _ _) (by simp)
theorem qx{bl:List Nat}{i b k:Nat}(hi:i<bl.length):(AK (i+1)).filter (fun x=>nth (bl.set i b) x==k)=(AK i).filter (fun x=>nth bl x==k)++if b=k then [i]else []:=by
 rw[J7,Bh];have h1:(AK i).filter (fun x=>nth (bl.set i b) x==k)=(AK i).filter (fun x=>nth bl x==k):=JQ fun x hx=>by
  have:=tR.1 hx;rw[aT hi,if_neg zo]
 rw[h1];congr 1;rw[FJ,aT hi,if_pos rfl]
 by_cases e:b=k
 ·subst e;simp
 rw[if_neg e,if_neg (by simpa using e)];rfl
theorem FI.old{tl:Nat->Nat}{n i:Nat}{D:List (Int×Int)}{bl:List Nat}{E:List KVR}{many:Nat}(h:FI tl n i D bl E many)(hi:i<n){b:Int}(hb:bx D ((tl i:Nat):Int)=some b)(v:ix):
  ∃k:Nat,b=(k:Int)/\k<many/\FI tl n (i+1) D (bl.set i k) (cJ E (k:Int) (v,dD E (k:Int)++[i])) many:=by
 obtain⟨k,rfl,hk⟩:=h.rng _ _ hb;have a0:=h.blen;refine⟨k,rfl,hk,by rw[rk];exact a0,fun j hj=>?_,h.inj,h.rng,h.keys.same hk _,fun c=>?_,fun c hc=>?_,by have:=h.mi;omega⟩
 ·rw[aT zo]
  by_cases e:j=i
  ·rw[if_pos e,e];exact hb
  rw[if_neg e];exact h.val j zo
 ·rw[ee,qx zo]
  by_cases e:k=c
  ·subst e;rw[if_pos rfl,if_pos rfl,h.row]
  rw[if_neg zo,if_neg e,sQ,h.row]
 rw[ee]
 split
 ·simp
 exact h.ne c hc
theorem FI.new{tl:Nat->Nat}{n i:Nat}{D:List (Int×Int)}{bl:List Nat}{E:List KVR}{many:Nat}(h:FI tl n i D bl E many)(hi:i<n)(hb:bx D ((tl i:Nat):Int)=none)(v:ix):
  FI tl n (i+1) (cJ D ((tl i:Nat):Int) (many:Int)) (bl.set i many) (cJ E (many:Int) (v,dD E (many:Int)++[i])) (many+1):=by
 have a1:=h.blen;have a0:∀u b,bx D u=some b->b<many:=fun u b hu=>by
  obtain⟨k,rfl,hk⟩:=h.rng u b hu;omega
 refine⟨by rw[rk];exact a1,fun j hj=>?_,fun u u' b h1 h2=>?_,fun u b h1=>?_,h.keys.more _,fun c=>?_,fun c hc=>?_,by have:=h.mi;omega⟩
 ·rw[bf,aT zo]
  by_cases e:j=i
  ·rw[if_pos (by rw[e]),if_pos e]
  rw[if_neg e];have:=h.val j zo;rw[if_neg (fun e2=>by rw[<-e2,hb]at this;cases this)];exact this
 ·rw[bf]at h1 h2
  split at h1
  ·split at h2
   ·rename_i e1 e2;rw[<-e1,<-e2]
   cases h1
   have:=a0 _ _ h2;omega
  split at h2
  ·cases h2
   have:=a0 _ _ h1;omega
  exact h.inj u u' b h1 h2
 ·rw[bf]at h1
  split at h1
  ·cases h1;exact⟨many,rfl,zo⟩
  obtain⟨k,e,hk⟩:=h.rng u b h1;exact⟨k,e,zo⟩
 ·rw[ee,qx zo]
  by_cases e:many=c
  ·subst e;rw[if_pos rfl,if_pos rfl,h.row]
  rw[if_neg zo,if_neg e,sQ,h.row]
 rw[ee]
 split
 ·simp
 exact h.ne c zo
theorem FI.blk{tl:Nat->Nat}{n:Nat}{D:List (Int×Int)}{bl:List Nat}{E:List KVR}{many:Nat}(h:FI tl n n D bl E many)(nx:Nat->Nat->Nat):Blk nx tl n bl (fun k=>dD E (k:Int)) many:=by
 refine⟨h.blen,fun i hi=>?_,fun b _ x=>?_,fun b _=>?_,fun b hb=>h.ne b hb,fun p q hp hq e=>?_,fun p q hp hq ha=>?_⟩
 ·obtain⟨k,e,hk⟩:=h.rng _ _ (h.val i hi);omega
 ·rw[h.row,As,tR];simp
 ·rw[h.row];exact J4.sublist De
 ·have:=h.inj _ _ _ (h.val p hp) (by rw[e];exact h.val q hq);omega
 have e:tl p=tl q:=ha [] fun m hm=>absurd hm (by simp)
 have h1:=h.val p hp;rw[e,h.val q hq]at h1;have:=Kg h1;omega
structure TdI(td:List ((Int×Int)×Bool))(many b m:Nat):Prop where
 rng:tdR td many
 all:∀c j,c<b\/c=b/\j<m->j<37->tdP td c j
 len:td.length<=b*37+m
theorem Cs(many:Nat):TdI [] many 0 0:=⟨fun e he=>absurd he (by simp),fun c j h _=>zo,pZ _⟩
theorem TdI.put{td:List ((Int×Int)×Bool)}{many b m:Nat}(h:TdI td many b m)(hb:b<many)(hm:m<37):TdI (cJ td ((b:Int),(m:Int)) true) many b (m+1):=by
 refine⟨fun e he=>?_,fun c j hc hj=>?_,?_⟩
 ·rcases sk _ _ _ _ he with he|he
  ·exact h.rng e he
  exact⟨b,m,hb,hm,by rw[he]⟩
 ·unfold tdP;rw[bf]
  split
  ·rfl
  rename_i hne;refine h.all c j ?_ hj
  rcases hc with hc|⟨rfl,hc⟩
  ·exact .inl hc
  exact .inr ⟨rfl,by
   have:¬j=m:=fun e=>hne (by rw[e])
   omega⟩
 have:=sm ((b:Int),(m:Int)) true td;have:=h.len;omega
theorem TdI.next{td:List ((Int×Int)×Bool)}{many b:Nat}(h:TdI td many b 37):TdI td many (b+1) 0:=⟨h.rng,fun c j hc hj=>h.all c j zo hj,by have:=h.len;omega⟩
structure BO(nx:Nat->Nat->Nat)(tl:Nat->Nat)(n:Nat)(bl:List Nat)(E:List KVR)(td:List ((Int×Int)×Bool))(many:Nat):Prop where
 blk:Blk nx tl n bl (fun k=>dD E (k:Int)) many
 keys:KeysE E many
 tdr:tdR td many
 todo:Todo nx n bl (tdP td)
structure BI(nx:Nat->Nat->Nat)(tl:Nat->Nat)(n:Nat)(bl0:List Nat)(m0 b0 many0:Nat)(left:List (Int×ix))(bl:List Nat)(E:List KVR)(td:List ((Int×Int)×Bool))(many:Nat):Prop where
 blk:Blk nx tl n bl (fun k=>dD E (k:Int)) many
 keys:KeysE E many
 tdr:tdR td many
 le:many0<=many
 pend:Pend nx n bl (tdP td) m0 (fun p=>nth bl0 (nx p m0)=b0) (fun b=>(b:Int)∈left.map (·.1))
 same:∀k:Nat,(k:Int)∈left.map (·.1)->k<many0/\∀x,x<n->(nth bl x=k↔nth bl0 x=k)
 nd:(left.map (·.1)).Nodup
theorem BO.take{nx:Nat->Nat->Nat}{tl:Nat->Nat}{n:Nat}{bl:List Nat}{E:List KVR}{td:List ((Int×Int)×Bool)}{many:Nat}(h:BO nx tl n bl E td many)(b0 m0:Nat)(_:m0<37)(_:∀p m,p<n->m<37->nx p m<n)(left:List (Int×ix)) 
  (hl:∀k,k∈left.map (·.1)↔∃i,i<n/\nth bl (nx i m0)=b0/\((nth bl i:Nat):Int)=k) (hn:(left.map (·.1)).Nodup):BI nx tl n bl m0 b0 many left bl E (pQ td ((b0:Int),(m0:Int))) many:=by
 refine⟨h.blk,h.keys,h.tdr.del _,pZ _,?_,fun k hk=>?_,hn⟩
 ·refine h.todo.take b0 m0 (fun b m hb=>?_) _ fun p hp e=>(hl _).2 ⟨p,hp,e,rfl⟩
  by_cases e:b=b0/\m=m0
  ·exact .inr e
  refine .inl ?_;unfold tdP;rw[qH (fun e2=>e ?_)]
  ·exact hb
  have:=IP e2;omega
 obtain⟨i,hi,_,e⟩:=(hl _).1 hk;have:=h.blk.lt i hi;exact⟨zo,fun x _=>Iff.rfl⟩
theorem rK{a1 a0:List (Int×ix)}{k:Int}{v:ix}(hn:((a1++(k,v)::a0).map (·.1)).Nodup):((a1++a0).map (·.1)).Nodup/\k∉(a1++a0).map (·.1)/\∀b,b∈(a1++(k,v)::a0).map (·.1)->b=k\/b∈(a1++a0).map (·.1):=by
 simp only[yr,tJ]at hn ⊢;have hp:=(List.perm_middle (a:=k) (l₁:=a1.map (·.1)) (l₂:=a0.map (·.1)))
 have h2:=hp.nodup_iff.1 hn;obtain⟨h3,h4⟩:=J8.1 h2;exact⟨h4,h3,fun b hb=>rI.1 (hp.mem_iff.1 hb)⟩
section
variable{nx:Nat→Nat→Nat}{tl:Nat→Nat}{n:Nat}{bl0:List Nat}{m0 b0 many0:Nat}{pre suf:List (Int×ix)}{k:Nat}{v:ix}{bl:List Nat}{E:List KVR}{td:List ((Int×Int)×Bool)}{many:Nat}{L:List Nat}
theorem BI.here(h:BI nx tl n bl0 m0 b0 many0 (pre++((k:Int),v)::suf) bl E td many)(hL:∀x,x∈L↔x<n/\nth bl0 x=k/\nth bl0 (nx x m0)=b0):k<many/\∀x,x∈L↔x<n/\nth bl x=k/\nth bl0 (nx x m0)=b0:=by
 obtain⟨h1,h2⟩:=h.same k (by simp);refine⟨by have:=h.le;omega,fun x=>?_⟩;rw[hL]
 constructor
 ·rintro⟨a,b,c⟩;exact⟨a,(h2 x a).2 b,c⟩
 rintro⟨a,b,c⟩;exact⟨a,(h2 x a).1 b,c⟩
theorem BI.skip(h:BI nx tl n bl0 m0 b0 many0 (pre++((k:Int),v)::suf) bl E td many)(hL:∀x,x∈L↔x<n/\nth bl0 x=k/\nth bl0 (nx x m0)=b0)(a4:L.Nodup)(a5:(dD E (k:Int)).length<=L.length):BI nx tl n bl0 m0 b0 many0 (pre++suf) bl E td many:=by
 obtain⟨hk,a1⟩:=h.here hL;obtain⟨r1,r2,r3⟩:=rK h.nd;refine⟨h.blk,h.keys,h.tdr,h.le,?_,fun c hc=>h.same c ?_,r1⟩
 ·refine h.pend.whole (k:=k) (fun p hp e=>?_) fun b hb=>?_
  ·refine yY fun hn=>?_
   have a2:p∉L:=fun hx=>hn ((a1 p).1 hx).2.2
   have a3:(p::L).Nodup:=J8.2 ⟨a2,a4⟩;have a0:(p::L) ⊆ dD E (k:Int):=fun x hx=>by
    rcases rI.1 hx with rfl|hx
    ·exact(h.blk.mem k hk _).2 ⟨hp,e⟩
    exact(h.blk.mem k hk x).2 ⟨((a1 x).1 hx).1,((a1 x).1 hx).2.1⟩
   have:=a3.length_le_of_subset a0;simp only[vO]at this;omega
  rcases r3 _ hb with h1|h1
  ·exact .inl zo
  exact .inr h1
 simp only[yr,tJ,rU,rI]at hc ⊢
 rcases hc with hc|hc
 ·exact .inl hc
 exact .inr (.inr hc)
theorem BI.cut(h:BI nx tl n bl0 m0 b0 many0 (pre++((k:Int),v)::suf) bl E td many)(a3:∀p m,p<n->m<37->nx p m<n)(h0:∀p q,p<n->q<n->Alike nx tl p q->nth bl0 p=nth bl0 q)(a4:m0<37) 
  (hL:∀x,x∈L↔x<n/\nth bl0 x=k/\nth bl0 (nx x m0)=b0) (a8:L.Nodup) (a6:L≠[]) (a7:L.length<(dD E (k:Int)).length) (ov v':ix) (lt:Bool) :
  BI nx tl n bl0 m0 b0 many0 (pre++suf) (cL bl many L) (cJ (cJ E (many:Int) (ov,L)) (k:Int) (v',gO (fun x=>nth (cL bl many L) x==many) (dD E (k:Int)))) (tdL td k many lt 37) (many+1):=by
 obtain⟨hk,a1⟩:=h.here hL;obtain⟨r1,r2,r3⟩:=rK h.nd;have hc:=G4 (L:=L) (ov:=ov) (v':=v') hk h.blk.len (h.blk.mem k hk);refine⟨?_,?_,Av h.tdr hk 37 (pZ _),by have:=h.le;omega,?_,fun c a0=>?_,r1⟩
 ·refine h.blk.cut hc hk (fun x hx=>⟨((a1 x).1 hx).1,((a1 x).1 hx).2.1⟩) a8 a6 a7 fun p q hp hq ha a5=>?_
  obtain⟨_,e1,e2⟩:=(hL p).1 a5;refine(hL q).2 ⟨hq,by rw[<-h0 p q hp hq ha];exact e1,?_⟩;rw[<-h0 (nx p m0) (nx q m0) (a3 p m0 hp a4) (a3 q m0 hq a4) (ha.step a4)];exact e2
 ·exact(h.keys.more _).same zo _
 ·refine Pend.cut h.blk h.pend hc hk a3 a1 (fun b m hb=>xN hb 37) (fun m hm hb=>xM hb 37 hm) (fun m hm=>DX 37 hm) fun b hb=>?_
  rcases r3 _ hb with h1|h1
  ·exact .inl zo
  exact .inr h1
 have a9:c≠k:=fun e=>r2 (by rw[<-e];exact a0)
 obtain⟨h1,h2⟩:=h.same c (by
  simp only[yr,tJ,rU,rI]at a0 ⊢
  rcases a0 with a0|a0
  ·exact .inl a0
  exact .inr (.inr a0))
 refine⟨h1,fun x hx=>?_⟩;rw[<-h2 x hx,hc.bl x hx];have:=h.le
 by_cases a2:x∈L
 ·rw[if_pos a2];have:=((a1 x).1 a2).2.1
  constructor<;>omega
 rw[if_neg a2]
end
theorem BI.done{nx:Nat->Nat->Nat}{tl:Nat->Nat}{n:Nat}{a1:List Nat}{m0 b0 a0:Nat}{bl:List Nat}{E:List KVR}{td:List ((Int×Int)×Bool)}{many:Nat}(h:BI nx tl n a1 m0 b0 a0 [] bl E td many):BO nx tl n bl E td many:=
 ⟨h.blk,h.keys,h.tdr,h.pend.done fun b hb=>absurd hb (by simp)⟩
theorem BO.final{nx:Nat->Nat->Nat}{tl:Nat->Nat}{n:Nat}{bl:List Nat}{E:List KVR}{many:Nat}(h:BO nx tl n bl E [] many)(a0:∀p m,p<n->m<37->nx p m<n)(p q:Nat)(hp:p<n)(hq:q<n):nth bl p=nth bl q↔Alike nx tl p q:=by
 refine h.blk.final (fun p q m a b c d e=>?_) a0 p q hp hq
 rcases h.todo p q m a b c d e with h1|h1<;>cases h1
theorem FI.bo{nx:Nat->Nat->Nat}{tl:Nat->Nat}{n:Nat}{D:List (Int×Int)}{bl:List Nat}{E:List KVR}{many:Nat}{td:List ((Int×Int)×Bool)}(h:FI tl n n D bl E many)(ht:TdI td many many 0)(a0:∀p m,p<n->m<37->nx p m<n):BO nx tl n bl E td many:=by
 have hb:=h.blk nx;exact⟨hb,h.keys,ht.rng,fun p q m hp hq hm e a1=>.inl (ht.all _ m (.inl (hb.lt _ (a0 p m hp hm))) hm)⟩
theorem II:KeyL zI 28 (fun n:Int=>Value.int .u64 n):=KeyL.int underlying28
theorem vT(B:Nat)(O:Nat->Nat)(w:ow)(sb:Nat)(nv tv bv:ix)(sr tr:Nat)(a0:List Nat)(hR:GT B O w)(hB:CY O w 1 sb #[nv,tv,nS,bv,.map (some sr),.map (some tr),nI 0] 228)
  (e7:uY aX 3 1 O w 2 bv (sN a0.length 0)) (h0:MpR 10 3 O w sr []) (g':zf et th O w 4 tr []) (g4:Sl jb 1 w tv a0) (f3:IJ O w tv) (hn:a0.length<=1000) (_:∀q,O q<2000) :
  Js zI 145 [nP sb] w fun _ w'=>
   ∃O' D bl E many td,rm (fun q=>1<=q/\q<=4\/10<=q) O w O' w'/\GT B O' w'/\CY O' w' 1 sb #[nv,tv,nS,bv,.map (some sr),.map (some tr),nI ((many:Nat):Int)] 228/\
    uY aX 3 1 O' w' 2 bv bl/\MpR 10 3 O' w' sr E/\zf et th O' w' 4 tr td/\FI (nth a0) a0.length a0.length D bl E many/\TdI td many many 0:=by
 refine rj func145 ntmps145 rfl rfl ?_;refine zg ?_
 refine bq (fun k:Int=>.int .u64 k) (fun v:Int=>nI v) hR 2000 zd rfl ?_;intro r w1 O1 i3 c' i0;have g8:=hB.upd c' zd zd;have c1:w1.cell? ((nA sb 0).add 1)=some tv:=g8.cell 1 rfl;have e2:=g4.upd f3 c';have h6:=f3.upd c';refine zg ?_
 refine zv (RV.ld c1 rfl) ?_;refine zvG (K9 (by first|exact e2) GY rfl) ?_
 refine zlp (fun z:Nat×(Nat->Nat)×World×List (Int×Int)×List Nat×List KVR×Nat=>[(0,nP sb),(2,.map (some r)),(14,tv),(15,nI a0.length),(16,nI z.1)]) (fun z=>z.2.2.1) (fun z=>z.1<=a0.length/\rm (fun q=>1<=q/\q<=3\/10<=q) O w z.2.1 z.2.2.1/\GT B z.2.1 z.2.2.1/\CY z.2.1 z.2.2.1 1 sb #[nv,tv,nS,bv,.map (some sr),.map (some tr),nI ((z.2.2.2.2.2.2:Nat):Int)] 228/\uY aX 3 1 z.2.1 z.2.2.1 2 bv z.2.2.2.2.1/\MpR 10 3 z.2.1 z.2.2.1 sr z.2.2.2.2.2.1/\zf (fun k:Int=>.int .u64 k) (fun v:Int=>nI v) z.2.1 z.2.2.1 2000 r z.2.2.2.1/\FI (nth a0) a0.length z.1 z.2.2.2.1 z.2.2.2.2.1 z.2.2.2.2.2.1 z.2.2.2.2.2.2) (fun z=>a0.length-z.1) (0,O1,w1,[],sN a0.length 0,[],0) (⟨ps _,c'.mono (fun _ h=>by omega) zd,i0,g8,e7.upd c' zd zd,⟨h0.map.upd c' zd zd,fun k hk=>absurd hk (oD k)⟩,i3,DT _ _⟩) ?_;rintro⟨i,O2,w2,D,bl,E,many⟩ ⟨hi,c9,e0,b3,a1,a8,d6,hF⟩;dsimp only at hi c9 e0 b3 a1 a8 d6 hF ⊢;have d0:=g4.upd f3 c9;have i5:=hF.blen;have g6:many<=i:=hF.mi;refine zg ?_
 refine zC ?_ ?_
 ·intro a3;replace a3:i<a0.length:=by have:=of_decide_eq_true a3;omega
  have m1:w2.cell? (adr tv 1 i)=some (.int .u64 ((nth a0 i:Nat):Int)):=by have:=d0.cell (i:=i) (j:=0) a3 rfl;rwa[ao]at this
  have g5:=hF.rowsN;refine zg ?_;refine zv (tG (by first|exact d0) GY (sizeOf28 _) rfl rfl _ rfl zo) ?_;refine zvG (RV.ld m1 rfl) ?_
  cases d3:bx D ((nth a0 i:Nat):Int)with
  |some b=>
   have e9:=hF.old a3 d3;obtain⟨k,rfl,hk,_⟩:=hF.old a3 d3 (nS);have f':∀v,FI (nth a0) a0.length (i+1) D (bl.set i k) (cJ E (k:Int) (v,dD E (k:Int)++[i])) many:=fun v=>by
    obtain⟨k',e,_,h⟩:=e9 v;obtain rfl:k=k':=by omega
    exact h
   have h2:=g5 k;have h1:=xO E (k:Int);have h7:=hF.keys.len;refine zvG (cS (u:=.tuple #[nI (k:Int),.bool true]) d6 JF II (Dc _) ((nth a0 i:Nat):Int) rfl rfl rfl (by rw[d3];rfl)) ?_;refine aS rfl rfl ?_;have b4:=Kr a1;have g1:K7 w2 (nA sb 3)=some bv:=Ki b3 3 rfl;refine zg ?_;refine zvG (RV.ld g1 rfl) ?_;refine zv (ah b4.sh ln (qy _) rfl rfl i rfl zo) ?_;refine Gh a1 i zo (k:Nat) (qy _) rfl zd rfl rfl rfl rfl ?_;intro wa a' b0;have d9:=Ko b3 b0 zd zd;have b9:=MpR.upd a8 b0 zd zd zd (fun _=>by omega);have f7:=Ky e0 b0;have c8:=Kl d6 b0 zd zd;refine zg ?_;have d1:wa.drew.cell? (nA sb 4)=some (.map (some sr)):=d9.cell 4 rfl;have a5:rm (fun _=>False) O2 wa O2 wa.drew:=aa (fun h=>h) O2 (sP wa).drew;have d5:=b9.upd a5 zd zd (fun h=>h) (fun _ h=>h);refine aI (fun W=>W.cell? (nA sb 4)=some (.map (some sr))) 15 rfl zk ?_;refine zrm 0 rfl d1 rfl ?_;refine zr 1 rfl d1 (fun _=>aq rfl) ?_;refine zrf 2 rfl d1 rfl ?_;refine zt 3 rfl d1 (fun w1 b5=>RV.ld b5 rfl) ?_;refine zrm 4 rfl d1 rfl ?_;refine zrm 5 rfl d1 rfl ?_;refine zr 6 rfl d1 (fun _=>aq rfl) ?_;refine zrf 7 rfl d1 rfl ?_;refine zt 8 rfl d1 (fun w1 b5=>RV.ld b5 rfl) ?_;refine zrm 9 rfl d1 rfl ?_;refine zrm 11 rfl d1 rfl ?_
   refine iJ 10 12 kU (enc:=aX) i rfl rfl zk zk zk zk (fun W hE=>C2 (d5.upd (aa (S:=fun _=>False) (fun h=>h) O2 hE) zd zd (fun h=>h) (fun _ h=>h)).map sx qp (Da _) ((k:Nat):Int) rfl rfl rfl (ma E _)) (fun W hE=>hE.cell d1) rfl rfl rfl zd rfl rfl rfl rfl rfl ?_;intro g9 wb b8 g0;have a4:rm (fun _=>False) O2 wa.drew O2 wb:=aa (fun h=>h) O2 g0;have c5:=d5.upd a4 zd zd (fun h=>h) (fun _ h=>h);refine qN 13 zk rfl ?_
   refine aC kU (c5.at ((k:Nat):Int)) ((f7.upd a5).upd a4) b8 (by simp) rfl rfl (by simp) (by simp[pc]) (by rw[pR];omega) (by rw[pR];omega) zo rfl ?_;intro vc wc Oc e8 a7 f6;have d8:=((d9.upd a5 zd (fun h=>h)).upd a4 zd (fun h=>h)).upd a7 zd zo;refine zg ?_
   refine af (d8.cell 4 rfl) ?_;refine qN 14 zk rfl ?_
   refine vg (c5.map.upd a7 zd zo) sx qp zd ((k:Nat):Int) vc rfl rfl rfl rfl rfl ?_;intro wd e' a6;have d7:=d8.upd a6 zd zd;have b':=c5.put ((k:Nat):Int) zd zd a7 e8 e' a6;refine zg ?_
   refine af (d7.cell 4 rfl) ?_;have f4:rm (fun q=>1<=q/\q<=3\/10<=q) O2 w2 Oc wd:=((((b0.mono (fun _ h=>by omega) zd).trans (a5.mono (fun _ h=>h.elim) zd)).trans (a4.mono (fun _ h=>h.elim) zd)).trans (a7.mono (fun _ h=>by omega) zd)).trans (a6.mono (fun _ h=>by omega) zd);have a9:=(((a'.upd a5 zd (fun h=>h)).upd a4 zd (fun h=>h)).upd a7 zd zo).upd a6 zd zd;have c7:=(((c8.upd a5 zd (fun h=>h)).upd a4 zd (fun h=>h)).upd a7 zd zo).upd a6 zd zd;refine BG zk ?_
   refine zg ?_;refine zvG (zl rfl rfl (uw zo)) ?_
   refine zxd (i+1,Oc,wd,D,bl.set i k,cJ E ((k:Nat):Int) (vc,dD E ((k:Nat):Int)++[i]),many) (⟨a3,c9.trans f4,f6.upd a6,d7,a9,b',c7,f' vc⟩)
  |none=>
   have f':=hF.new a3 d3;have h2:=g5 many;have h1:=xO E (many:Int);have h7:=hF.keys.len;refine zvG (cS (u:=.tuple #[nI 0,.bool false]) d6 JF II (Dc _) ((nth a0 i:Nat):Int) rfl rfl rfl (by rw[d3];rfl)) ?_;refine aZ rfl rfl ?_;have c6:w2.cell? (nA sb 6)=some (nI (many:Nat)):=b3.cell 6 rfl;refine zg ?_;refine zvG (RV.ld c6 rfl) ?_;refine vg d6 JF II zd ((nth a0 i:Nat):Int) (many:Int) rfl rfl rfl rfl rfl ?_;intro w3 i2 a2;have e1:=b3.upd a2 zd zd;have d2:=a1.upd a2 zd zd;have e6:MpR 10 3 O2 w3 sr E:=⟨a8.map.upd a2 zd zd,fun k hk=>(a8.row k hk).upd a2 zo (by have:=hF.keys.len;omega)⟩
   have h':=e0.upd a2;have i4:w3.cell? (nA sb 6)=some (nI (many:Nat)):=e1.cell 6 rfl;refine zg ?_;refine zv (RV.ld i4 rfl) ?_;refine zvG (zl rfl rfl (uw zo)) ?_;refine ak (j:=6) e1 rfl (qy _) rfl rfl rfl rfl ?_;have b1:rm (fun j=>j=1) O2 w3 O2 (w3.setCell ⟨sb,6,none⟩ (nI ((many:Int)+1))):=CR zd e1.tag rfl;have g7:CY O2 (w3.setCell ⟨sb,6,none⟩ (nI ((many:Int)+1))) 1 sb #[nv,tv,nS,bv,.map (some sr),.map (some tr),nI ((many+1:Nat):Int)] 228:=e1.set 6 _;have b2:=d2.upd b1 zd zd;have e5:=e6.upd b1 zd zd zd (fun _=>by omega);have h9:=h'.upd b1;have i1:=i2.upd b1 zd zd;have f5:=(c9.trans (a2.mono (fun _ h=>by omega) zd)).trans (b1.mono (fun _ h=>by omega) zd);generalize w3.setCell ⟨sb,6,none⟩ (nI ((many:Int)+1))=w4 at *;have b4:=Kr b2;have g1:K7 w4 (nA sb 3)=some bv:=Ki g7 3 rfl;refine zg ?_;refine zvG (RV.ld g1 rfl) ?_;refine zv (ah b4.sh ln (qy _) rfl rfl i rfl zo) ?_;refine Gh b2 i zo (many:Nat) (qy _) rfl zd rfl rfl rfl rfl ?_;intro wa a' b0;have d9:=Ko g7 b0 zd zd;have b9:=MpR.upd e5 b0 zd zd zd (fun _=>by omega);have f7:=Ky h9 b0;have c8:=Kl i1 b0 zd zd;refine zg ?_;have d1:wa.drew.cell? (nA sb 4)=some (.map (some sr)):=d9.cell 4 rfl;have a5:rm (fun _=>False) O2 wa O2 wa.drew:=aa (fun h=>h) O2 (sP wa).drew;have d5:=b9.upd a5 zd zd (fun h=>h) (fun _ h=>h);refine aI (fun W=>W.cell? (nA sb 4)=some (.map (some sr))) 15 rfl zk ?_
   refine zrm 0 rfl d1 rfl ?_;refine zr 1 rfl d1 (fun _=>aq rfl) ?_
   refine zrf 2 rfl d1 rfl ?_;refine zt 3 rfl d1 (fun w1 b5=>RV.ld b5 rfl) ?_
   refine zrm 4 rfl d1 rfl ?_;refine zrm 5 rfl d1 rfl ?_
   refine zr 6 rfl d1 (fun _=>aq rfl) ?_;refine zrf 7 rfl d1 rfl ?_
   refine zt 8 rfl d1 (fun w1 b5=>RV.ld b5 rfl) ?_;refine zrm 9 rfl d1 rfl ?_
   refine zrm 11 rfl d1 rfl ?_;refine iJ 10 12 kU (enc:=aX) i rfl rfl zk zk zk zk (fun W hE=>C2 (d5.upd (aa (S:=fun _=>False) (fun h=>h) O2 hE) zd zd (fun h=>h) (fun _ h=>h)).map sx qp (Da _) ((many:Nat):Int) rfl rfl rfl (ma E _)) (fun W hE=>hE.cell d1) rfl rfl rfl zd rfl rfl rfl rfl rfl ?_
   intro g9 wb b8 g0;have a4:rm (fun _=>False) O2 wa.drew O2 wb:=aa (fun h=>h) O2 g0;have c5:=d5.upd a4 zd zd (fun h=>h) (fun _ h=>h);refine qN 13 zk rfl ?_;refine aC kU (c5.at ((many:Nat):Int)) ((f7.upd a5).upd a4) b8 (by simp) rfl rfl (by simp) (by simp[pc]) (by rw[pR];omega) (by rw[pR];omega) zo rfl ?_;intro vc wc Oc e8 a7 f6;have d8:=((d9.upd a5 zd (fun h=>h)).upd a4 zd (fun h=>h)).upd a7 zd zo;refine zg ?_;refine af (d8.cell 4 rfl) ?_;refine qN 14 zk rfl ?_;refine vg (c5.map.upd a7 zd zo) sx qp zd ((many:Nat):Int) vc rfl rfl rfl rfl rfl ?_;intro wd e' a6;have d7:=d8.upd a6 zd zd;have b':=c5.put ((many:Nat):Int) zd zd a7 e8 e' a6;refine zg ?_;refine af (d7.cell 4 rfl) ?_;have f4:rm (fun q=>1<=q/\q<=3\/10<=q) O2 w4 Oc wd:=((((b0.mono (fun _ h=>by omega) zd).trans (a5.mono (fun _ h=>h.elim) zd)).trans (a4.mono (fun _ h=>h.elim) zd)).trans (a7.mono (fun _ h=>by omega) zd)).trans (a6.mono (fun _ h=>by omega) zd);have a9:=(((a'.upd a5 zd (fun h=>h)).upd a4 zd (fun h=>h)).upd a7 zd zo).upd a6 zd zd;have c7:=(((c8.upd a5 zd (fun h=>h)).upd a4 zd (fun h=>h)).upd a7 zd zo).upd a6 zd zd;refine BG zk ?_;refine zg ?_;refine zvG (zl rfl rfl (uw zo)) ?_;refine zxd (i+1,Oc,wd,(cJ D ((nth a0 i:Nat):Int) (many:Int)),bl.set i many,cJ E ((many:Nat):Int) (vc,dD E ((many:Nat):Int)++[i]),(many+1)) (⟨a3,f5.trans f4,f6.upd a6,d7,a9,b',c7,f' vc⟩)
 intro h4;obtain rfl:i=a0.length:=by have:=of_decide_eq_false h4;omega
 have c6:w2.cell? (nA sb 6)=some (nI (many:Nat)):=b3.cell 6 rfl;have e4:=g'.upd c9 zd zo;refine zg ?_;refine zvG (RV.ld c6 rfl) ?_;refine zlp (fun z:Nat×ow×List ((Int×Int)×Bool)=>[(0,nP sb),(68,nI (many:Nat)),(69,nI z.1)]) (fun z=>z.2.1) (fun z=>z.1<=many/\rm (fun q=>q=4) O2 w2 O2 z.2.1/\zf et th O2 z.2.1 4 tr z.2.2/\TdI z.2.2 many z.1 0) (fun z=>many-z.1) (0,w2,[]) (⟨ps _,GZ zd _ _,e4,Cs _⟩) ?_;rintro⟨b,w3,g3⟩ ⟨hb,a2,b7,f9⟩;dsimp only at hb a2 b7 f9 ⊢;refine zg ?_;refine zC ?_ ?_
 ·intro a3;replace a3:b<many:=by have:=of_decide_eq_true a3;omega
  refine zg ?_;refine zlp (fun y:Nat×ow×List ((Int×Int)×Bool)=>[(0,nP sb),(68,nI (many:Nat)),(69,nI (b:Nat)),(7,nI (b:Nat)),(72,nI y.1)]) (fun y=>y.2.1) (fun y=>y.1<=37/\rm (fun q=>q=4) O2 w2 O2 y.2.1/\zf et th O2 y.2.1 4 tr y.2.2/\TdI y.2.2 many b y.1) (fun y=>37-y.1) (0,w3,g3) (⟨ps _,a2,b7,f9⟩) ?_
  rintro⟨m,w4,g2⟩ ⟨hm,b1,b6,f8⟩;dsimp only at hm b1 b6 f8 ⊢;refine zg ?_;refine zC ?_ ?_
  ·intro d';replace d':m<37:=by have:=of_decide_eq_true d';omega
   have d4:w4.cell? (nA sb 5)=some (.map (some tr)):=(b3.upd b1 zd zd).cell 5 rfl;refine zg ?_;refine zvG (RV.ld d4 rfl) ?_;refine zv (eX BW (qy _) (A2 _) rfl rfl) ?_;refine vg b6 G6 Io zd ((b:Int),(m:Int)) true rfl rfl rfl rfl rfl ?_;intro w5 e3 h8;refine zg ?_;refine zvG (zl rfl rfl (uw zo)) ?_;refine zxd (m+1,w5,cJ g2 ((b:Int),(m:Int)) true) (⟨d',b1.trans h8,e3,f8.put a3 d'⟩)
  intro h3;obtain rfl:m=37:=by have:=of_decide_eq_false h3;omega
  refine zg ?_;refine zvG (zl rfl rfl (uw zo)) ?_
  refine zxd (b+1,w4,g2) (⟨a3,b1,b6,f8.next⟩)
 intro h5;obtain rfl:b=many:=by have:=of_decide_eq_false h5;omega
 refine zg ?_;refine aH rfl (⟨O2,D,bl,E,b,g3,(c9.mono (fun _ h=>by omega) zd).trans (a2.mono (fun _ h=>by omega) zd),e0.upd a2,b3.upd a2 zd zd,a1.upd a2 zd zd,a8.upd a2 zd zd zd (fun _=>by omega),b7,hF,f9⟩)
end Go.Proofs.YtlehnbkknlpkbaaGreatDoor
section
namespace Go.VL
open Go.Proofs
theorem gG{P:I4}{N:Nat}{ops:Array Jr}{Q:JZ->KA->ow->Prop}{a0:List Jr}{st:St}{w:ow}{t:BJ}{p:String}{e:Array Ku}{d:Nat}{x y:Jt} 
  {T E:BJ} {bytes:Nat} (he:Kh P T E 1 bytes) (z0:ix) (a3:(P.info? E).bind (·.zero)=some z0) (h1:z0.oneCell'=true) {B:Nat} {O:Nat->Nat} (r:GT B O w) (i:Nat) (a8:i≠0) (n:Nat) {kl kc:IntKind} {m1 m2:Int}
  (hx:ev st x=some (.int kl m1)) (hy:ev st y=some (.int kc m2)) (a7:m1=n) (a6:m2=n) (hb:bytes*n<=281474976710656) (b1:n<=9223372036854775807) (hd:Gc d N=true)
  (h:∀w' O' v,uY (fun x:ix=>[x]) E 1 O' w' i v (sN n z0)->rm (fun k=>k=i) O w O' w'->GT B O' w'->J6 w w'->WL P N ops Q a0 ((d,v)::st) w') :
  WL P N ops Q (⟨some d,.makeSlice T x y,t,p,e,none⟩::a0) st w:=by
 obtain⟨a2,z,hi,hz,a5,a',b2⟩:=he.parts;have a4:z=z0:=by rw[hi]at a3;simpa[hz]using a3
 subst a4;subst a7;subst a6;have a9:z.cells = #[z]:=by cases z<;>first|rfl|simp[pc]at h1
 have b0:(a2.bytes:Int)*(n:Int)<=281474976710656:=by
  have h:((a2.bytes*n:Nat):Int)<=281474976710656:=by rw[a'];omega
  rwa[Int.natCast_mul]at h
 have a1:=run_make (P:=P) w T E a2 _ he.ht hi hz kl kc n n zo (Ke _) b0 zo;simp only[Int.toNat_natCast,a5,Nat.mul_one,a9]at a1;have hz:¬(fun k=>k=i) 0:=fun h=>a8 h.symm
 have u:=Upd.alloc (S:=fun k=>k=i) hz r (.cells (madeCells #[z] n) E) i;refine K8 (v:=.slice (some ⟨w.heap.size,0,none⟩) n n) hd (fun a ha=>by simp only[execOp,ha.ev hx,ha.ev hy,CX,a1,uM];rfl) (h _ _ _ ⟨⟨?_,fun g hg=>?_⟩,fun a _=>rfl⟩ u (r.upd u) (Km _ _))
 ·rw[JA];have:=World.ownsRow_lit (base:=0) (size:=1) (e:=E) w (madeCells #[z] n) n (ps _) (by simpa[maxLen]using b1) (by rw[size_madeCells];omega);rw[toList_madeCells_one]at this;have e2:(sN n z).flatMap (fun x=>[x])=sN n z:=by
   induction n with
   |zero=>rfl
   |succ n ih=>simp only[JK,DZ];congr 1;simp[List.flatMap_replicate]
  rw[e2];exact this
 simp only[Value.ownBlock,Kf]at hg;subst hg;exact eB _ _ _
theorem Sl.free0{α:Type}[Inhabited α]{f:α->List ix}{sz:Nat}{w:ow}{v:ix}{xs:List α}(h:Sl f sz w v xs)(hf:∀a,f a≠[]):IJ (fun _=>0) w v:=fun a n c e hn=>by
 obtain⟨a',c',e1,_,_,e2⟩:=h.shape;subst e
 cases e1
 obtain⟨b,o,e3⟩:=e2 hn
 cases e3
 refine⟨rfl,?_⟩;have hl:0<xs.length:=Nat.pos_of_ne_zero hn
 cases hx:f xs[0]with
 |nil=>exact absurd hx (hf _)
 |cons u r=>
  have hc:=h.cells 0 hl 0 u (by rw[hx];rfl);have:=Jp _ _ hc;have hb:((adr (.slice (some ⟨b,o,none⟩) xs.length c) sz 0).add 0).block=b:=by simp only[adr,Addr.add];split<;>rfl
  rwa[hb]at this
end Go.VL
namespace Go.Proofs.YtlehnbkknlpkbaaGreatDoor
open Go.VL Go.Proofs
set_option maxRecDepth 10000
def RowsF(O:Nat->Nat)(w:ow)(v:ix)(rows:List (List Nat)):Prop:=∃vs,Sl xg 1 w v vs/\IJ O w v/\vs.length=rows.length/\∀i,i<rows.length->Sl aX 1 w (nth vs i) (nth rows i)/\IJ O w (nth vs i)
theorem RowsF.upd{S:Nat->Prop}{O O':Nat->Nat}{w w':ow}{v:ix}{rows:List (List Nat)}(h:RowsF O w v rows)(u:rm S O w O' w'):RowsF O' w' v rows:=by
 obtain⟨vs,h1,h2,h3,h4⟩:=h;exact⟨vs,h1.upd h2 u,h2.upd u,h3,fun i hi=>⟨(h4 i hi).1.upd (h4 i hi).2 u,(h4 i hi).2.upd u⟩⟩
theorem RowsN.free{w:ow}{v:ix}{rows:List (List Nat)}(h:RowsN w v rows):RowsF (fun _=>0) w v rows:=by
 obtain⟨vs,h1,h2,h3⟩:=h;exact⟨vs,h1,h1.free0 (fun a=>by simp),h2,fun i hi=>⟨h3 i hi,(h3 i hi).free0 (fun a=>by simp)⟩⟩
def RowsG(B:Nat)(w:ow)(v:ix)(rows:List (List Nat)):Prop:=∃vs,Sl xg 1 w v vs/\NewV B v/\vs.length=rows.length/\∀i,i<rows.length->Sl aX 1 w (nth vs i) (nth rows i)/\NewV B (nth vs i)
theorem RowsG.rows{B:Nat}{w:ow}{v:ix}{rows:List (List Nat)}(h:RowsG B w v rows):RowsN w v rows:=by
 obtain⟨vs,h1,h2,h3,h4⟩:=h;exact⟨vs,h1,h3,fun i hi=>(h4 i hi).1⟩
theorem RowsG.mono{B B':Nat}{w:ow}{v:ix}{rows:List (List Nat)}(h:RowsG B w v rows)(hb:B'<=B):RowsG B' w v rows:=by
 obtain⟨vs,h1,h2,h3,h4⟩:=h;exact⟨vs,h1,h2.mono hb,h3,fun i hi=>⟨(h4 i hi).1,(h4 i hi).2.mono hb⟩⟩
theorem RowsG.ext{B:Nat}{w w':ow}{v:ix}{rows:List (List Nat)}(h:RowsG B w v rows)(e:J6 w w'):RowsG B w' v rows:=by
 obtain⟨vs,h1,h2,h3,h4⟩:=h;exact⟨vs,h1.ext e,h2,h3,fun i hi=>⟨(h4 i hi).1.ext e,(h4 i hi).2⟩⟩
theorem zF{n i:Nat}{nx:Nat->Nat}{to:Nat}(_:i<n):dZ (i+1) nx to=dZ i nx to++if nx i=to then [i]else []:=by
 unfold dZ;rw[J7,Bh,FJ]
 by_cases e:nx i=to
 ·rw[if_pos (by simpa using e),if_pos e];rfl
 rw[if_neg (by simpa using e),if_neg e];rfl
theorem BL(i:Nat)(nx:Nat->Nat)(to:Nat):(dZ i nx to).length<=i:=by
 unfold dZ;exact J1 (Gi _ _) (by simp)
structure TuI(O:Nat->Nat)(W:ow)(sb:Nat)(nv tv fv bv:ix)(sr tr many n m:Nat)(nx:Nat->Nat->Nat)(ms:List ix)(vss:List (List ix)):Prop where
 blk:CY O W 1 sb #[nv,tv,fv,bv,.map (some sr),.map (some tr),nI ((many:Nat):Int)] 228
 row:uY xg 50 1 O W 6 fv ms
 len:ms.length=m
 lenv:vss.length=m
 at_:∀j,j<m->uY xg 22 1 O W 5 (nth ms j) (nth vss j)/\(nth vss j).length=n/\∀t,t<n->uY aX 3 1 O W 5 (nth (nth vss j) t) (dZ n (fun x=>nx x j) t)
theorem TuI.upd{S:Nat->Prop}{O O':Nat->Nat}{w w':ow}{sb:Nat}{nv tv fv bv:ix}{sr tr many n m:Nat}{nx:Nat->Nat->Nat}{ms:List ix}{a0:List (List ix)}(h:TuI O w sb nv tv fv bv sr tr many n m nx ms a0) 
  (u:rm S O w O' w') (h1:¬S 1) (h5:¬S 5) (h6:¬S 6):TuI O' w' sb nv tv fv bv sr tr many n m nx ms a0:=
 ⟨h.blk.upd u zd h1,h.row.upd u zd h6,h.len,h.lenv,fun j hj=>⟨(h.at_ j hj).1.upd u zd h5,(h.at_ j hj).2.1,fun t ht=>((h.at_ j hj).2.2 t ht).upd u zd h5⟩⟩
theorem G2:Kh zI 226 50 1 24:=⟨Kj,by kernel_rfl,zd⟩
theorem tU(B:Nat)(O:Nat->Nat)(w:ow)(sb:Nat)(nv tv bv:ix)(sr tr many:Nat)(rows:List (List Nat))(e2:List Nat)(hR:GT B O w)(hB:CY O w 1 sb #[nv,tv,nS,bv,.map (some sr),.map (some tr),nI ((many:Nat):Int)] 228) 
  (hn:RowsF O w nv rows) (hr:RightD rows e2) (hT:∀q,O q<2000) (f8:∀q,O q≠6) :
  Js zI 146 [nP sb] w fun _ w'=>
   ∃O' fv,rm (fun q=>q=1\/q=5\/q=6\/2000<=q) O w O' w'/\GT B O' w'/\CY O' w' 1 sb #[nv,tv,fv,bv,.map (some sr),.map (some tr),nI ((many:Nat):Int)] 228/\FromO O' w' 5 fv rows.length (nxD rows):=by
 have g5:=hr.le;obtain⟨vs,b4,a',g4,c9⟩:=hn;refine rj func146 ntmps146 rfl rfl ?_;refine zh ?_;refine zlp (fun z:Nat×(Nat->Nat)×World×ix×List ix×List (List ix)=>[(0,nP sb),(6,nI z.1)]) (fun z=>z.2.2.1) (fun z=>z.1<=37/\rm (fun q=>q=1\/q=5\/q=6\/2000<=q) O w z.2.1 z.2.2.1/\GT B z.2.1 z.2.2.1/\TuI z.2.1 z.2.2.1 sb nv tv z.2.2.2.1 bv sr tr many rows.length z.1 (nxD rows) z.2.2.2.2.1 z.2.2.2.2.2) (fun z=>37-z.1) (0,O,w,nS,[],[]) (⟨ps _,GZ zd _ _,hR,hB,xK _ _ _ _ _ _,rfl,rfl,fun j hj=>absurd hj (oD j)⟩) ?_;rintro⟨m,O2,w2,fv,ms,c5⟩ ⟨hm,b8,d9,hI⟩;dsimp only at hm b8 d9 hI ⊢;refine zh ?_;refine zC ?_ ?_
 ·intro c6;replace c6:m<37:=dT c6;have e4:=b4.upd a' b8;have e6:=a'.upd b8;have c1:w2.cell? ((nA sb 0).add 0)=some nv:=hI.blk.cell 0 rfl;refine zh ?_;refine gG D9 (nS) zk rfl d9 2000 zd rows.length rfl rfl zo zo zo zo rfl ?_;intro w3 O3 d' d5 d7 g0 g7;have e1:=hI.upd d7 zd zd zd;have e3:=e4.upd e6 d7;have c3:w3.cell? ((nA sb 0).add 0)=some nv:=e1.blk.cell 0 rfl;refine zh ?_;refine zlp (fun y:Nat×(Nat->Nat)×World×List ix=>[(0,nP sb),(2,nI (m:Nat)),(3,d'),(6,nI (m:Nat)),(20,nv),(21,nI vs.length),(22,nI y.1)]) (fun y=>y.2.2.1) (fun y=>y.1<=rows.length/\rm (fun q=>q=1\/q=5\/q=6\/2000<=q) O w y.2.1 y.2.2.1/\GT B y.2.1 y.2.2.1/\TuI y.2.1 y.2.2.1 sb nv tv fv bv sr tr many rows.length m (nxD rows) ms c5/\uY xg 22 1 y.2.1 y.2.2.1 2000 d' y.2.2.2/\y.2.2.2.length=rows.length/\∀t,t<rows.length->uY aX 3 1 y.2.1 y.2.2.1 (3000+t) (nth y.2.2.2 t) (dZ y.1 (fun x=>nxD rows x m) t)) (fun y=>rows.length-y.1) (0,O3,w3,sN rows.length (nS)) (⟨ps _,b8.trans (d7.mono (fun _ h=>zo) zd),g0,e1,d5,by simp,fun t ht=>by rw[aB (by simpa using ht)];simp only[List.getElem_replicate];exact xK _ _ _ _ _ _⟩) ?_;rintro⟨i,O4,w4,bs⟩ ⟨hi,b7,d8,a8,a0,b1,a6⟩;dsimp only at hi b7 d8 a8 a0 b1 a6 ⊢;have c8:=b4.upd a' b7;refine zh ?_;refine zC ?_ ?_
  ·intro b2;replace b2:i<rows.length:=dT b2;obtain⟨d2,b0⟩:=c9 i b2;have d1:=d2.upd b0 b7;obtain⟨r1,r2⟩:=hr.row i b2;obtain⟨to,b5⟩:∃to,to=nxD rows i m:=⟨_,rfl⟩
   have c':to<rows.length:=by rw[b5];exact r2 m c6
   have m1:w4.cell? (adr nv 1 i)=some (nth vs i):=by have:=c8.cell (i:=i) (j:=0) zo rfl;rwa[ao]at this
   refine zh ?_;have k1:w4.drew.cell? (adr (nth vs i) 1 m)=some (nI (to:Int)):=by have:=d1.cell (i:=m) (j:=0) zo rfl;rw[ao]at this;rw[b5];exact this
   have g1:w4.drew.cell? (adr d' 1 to)=some (nth bs to):=by have:=a0.sl.cell (i:=to) (j:=0) zo rfl;rwa[ao]at this
   have f7:rm (fun _=>False) O4 w4 O4 w4.drew:=aa (fun h=>h) O4 (sP w4).drew;refine aI (fun W=>W.cell? (adr (nth vs i) 1 m)=some (nI (to:Int))) 17 rfl zk ?_;refine zrm 0 rfl k1 rfl ?_;refine zrm 1 rfl k1 rfl ?_;refine zrm 2 rfl k1 rfl ?_;refine zr 3 rfl k1 (fun _=>ah d1.sh ln (qy _) rfl rfl m rfl zo) ?_;refine zt 4 rfl k1 (fun w1 c7=>RV.ld c7 rfl) ?_;refine zrm 5 rfl k1 rfl ?_;refine zrm 6 rfl k1 rfl ?_;refine zrm 7 rfl k1 rfl ?_;refine zr 8 rfl k1 (fun _=>ah d1.sh ln (qy _) rfl rfl m rfl zo) ?_;refine zt 9 rfl k1 (fun w1 c7=>RV.ld c7 rfl) ?_;refine zr 10 rfl k1 (fun _=>ah a0.sl.sh ri (Fo _) rfl rfl to rfl zo) ?_;refine zrm 12 rfl k1 rfl ?_;refine bZ 11 13 kU (enc:=aX) i rfl rfl zk zk zk zk (fun W hE=>JC (hE.cell g1) (isAgg22 _) rfl) (fun W hE=>hE.cell k1) rfl rfl rfl zd rfl rfl rfl rfl rfl ?_;intro g3 w5 d0 g2;have f6:rm (fun _=>False) O4 w4.drew O4 w5:=aa (fun h=>h) O4 g2;have a4:=f7.trans f6;have g6:=BL i (fun x=>nxD rows x m) to;refine qN 14 zk rfl ?_;refine aC kU ((a6 to c').upd a4 zo (fun h=>h)) (d8.upd a4) d0 (by simp) rfl rfl (by simp) (by simp[pc]) (by rw[pR];omega) (by rw[pR];omega) zo rfl ?_;intro v6 w6 O6 e0 a5 f9
   have a7:rm (fun q=>q=1\/q=5\/q=6\/2000<=q) O w O6 w6:=(b7.trans (a4.mono (fun _ h=>h.elim) zd)).trans (a5.mono (fun _ h=>zo) zd);have k6:w6.cell? (adr (nth vs i) 1 m)=some (nI (to:Int)):=by have:=(d2.upd b0 a7).cell (i:=m) (j:=0) zo rfl;rw[ao]at this;rw[b5];exact this
   have d4:=(a0.upd a4 zd (fun h=>h)).upd a5 zd zo;refine zh ?_;refine af (k6) ?_;refine zr 15 rfl (k6) (fun _=>ah a0.sl.sh ri (Fo _) rfl rfl to rfl zo) ?_;refine qN 16 zk rfl ?_;refine Gh d4 to zo v6 (Fo _) e0.one zd rfl rfl rfl rfl ?_;intro w7 d3 b6;have b9:rm (fun q=>q=1\/q=5\/q=6\/2000<=q) O w O6 w7:=a7.trans (b6.mono (fun _ h=>zo) zd);have k7:w7.cell? (adr (nth vs i) 1 m)=some (nI (to:Int)):=by have:=(d2.upd b0 b9).cell (i:=m) (j:=0) zo rfl;rw[ao]at this;rw[b5];exact this
   refine zh ?_;refine af (k7) ?_
   refine BG zk ?_;refine zh ?_
   refine zxd (i+1,O6,w7,bs.set to v6) (⟨b2,b9,f9.upd b6,((a8.upd a4 (fun h=>h) (fun h=>h) (fun h=>h)).upd a5 zo zo zo).upd b6 zd zd zd,d3,by dsimp only;rw[rk];exact b1,fun t ht=>?_⟩)
   ·dsimp only;rw[zF b2,aT zo,<-b5]
    by_cases e:t=to
    ·subst e;rw[if_pos rfl,if_pos rfl];exact e0.upd b6 zo zo
    rw[if_neg e,if_neg (fun h=>e h.symm),sQ];exact(((a6 t ht).upd a4 zo (fun h=>h)).upd a5 zo zo).upd b6 zo zo
  intro e9;obtain rfl:i=rows.length:=dF e9;obtain⟨ba,bc,e',_⟩:=a0.sl.shape;subst e';have e7:=a8.len;have f4:w4.cell? (nA sb 2)=some fv:=a8.blk.cell 2 rfl;refine zh ?_;refine Ib G2 a8.row d8 ((.slice ba bs.length bc:ix)) (fun _=>rfl) rfl rfl rfl (by simp[pc]) zo zo zo zd rfl rfl ?_;intro b' w5 O5 a9 b3 f';have d6:=a8.blk.upd b3 zd zd;refine zh ?_;refine ak (j:=2) d6 rfl (sizeOf226 _) a9.one rfl rfl rfl ?_;have a5:rm (fun j=>j=1) O5 w5 O5 (w5.setCell ⟨sb,2,none⟩ b'):=CR zd d6.tag rfl;have f3:CY O5 (w5.setCell ⟨sb,2,none⟩ b') 1 sb #[nv,tv,b',bv,.map (some sr),.map (some tr),nI ((many:Nat):Int)] 228:=d6.set 2 _;generalize w5.setCell ⟨sb,2,none⟩ b'=w6 at *;have a7:rm (fun q=>q=1\/q=5\/q=6\/2000<=q) O w O5 w6:=(b7.trans (b3.mono (fun _ h=>zo) zd)).trans (a5.mono (fun _ h=>zo) zd);obtain⟨f,hf⟩:∃f:Nat->Nat,f=fun t=>if 2000<=t then 5 else t:=⟨_,rfl⟩
  have f2:∀t,t<2000->f t=t:=fun t ht=>by rw[hf];exact if_neg zo
  have f5:∀t,2000<=t->f t=5:=fun t ht=>by rw[hf];exact if_pos ht
  refine zh ?_;refine zxd (m+1,reF f O5,w6,b',ms++[.slice ba bs.length bc],c5++[bs]) (⟨c6,a7.re f (f2 0 zd) (fun b _=>f2 _ (hT b)),(f'.upd a5).re f (f2 0 zd),⟨f3.re f (f2 1 zd),(a9.upd a5 zd zd).re f (f2 6 zd),by simp[e7],by simp[a8.lenv],fun j hj=>?_⟩⟩)
  ·have e5:=a8.lenv;rw[aA,aA]
   by_cases e:j<m
   ·rw[if_pos zo,if_pos zo];obtain⟨a1,a2,a3⟩:=a8.at_ j e;exact⟨((a1.upd b3 zd zd).upd a5 zd zd).re f (f2 5 zd),a2,fun t ht=>(((a3 t ht).upd b3 zd zd).upd a5 zd zd).re f (f2 5 zd)⟩
   obtain rfl:j=m:=zo;rw[if_neg zo,if_neg zo,show j-ms.length=0 from by omega,show j-c5.length=0 from by omega,ar,ar];exact⟨((a0.upd b3 zd zd).upd a5 zd zd).re f (f5 _ zd),b1,fun t ht=>(((a6 t ht).upd b3 zo zo).upd a5 zo zo).re f (f5 _ zo)⟩
 intro e8;obtain rfl:m=37:=dF e8;refine zh ?_;refine aH rfl (⟨reF (FR 6 5) O2,fv,b8.re _ rfl (fun b _=>rG (f8 b)),d9.re _ rfl,hI.blk.re _ rfl,⟨ms,c5,hI.row.re _ rfl,hI.len,fun m hm=>⟨(hI.at_ m hm).1.re _ rfl,(hI.at_ m hm).2.1,fun t ht=>((hI.at_ m hm).2.2 t ht).re _ rfl⟩⟩⟩)
end Go.Proofs.YtlehnbkknlpkbaaGreatDoor
end
namespace Go.VL
theorem Fits.look{N:Nat}{a:KA}{st a0:St}(h:Fits N a st)(hs:∀t,cC a0 t=cC st t):Fits N a a0:=⟨h.size,h.defers,fun t v hv=>h.get t v ((hs t).symm.trans hv)⟩
theorem fJ{d1 d2 d3:Nat}(v1 v2 v3:ix)(st:St)(a2:Fm d1 d2=false)(a1:Fm d1 d3=false)(a0:Fm d2 d3=false)(t:Nat):
  (cC ((d3,v3)::(d2,v2)::(d1,v1)::st) t=cC ((d2,v2)::(d3,v3)::(d1,v1)::st) t)/\(cC ((d3,v3)::(d2,v2)::(d1,v1)::st) t=cC ((d3,v3)::(d1,v1)::(d2,v2)::st) t)/\
  (cC ((d3,v3)::(d2,v2)::(d1,v1)::st) t=cC ((d1,v1)::(d3,v3)::(d2,v2)::st) t)/\(cC ((d3,v3)::(d2,v2)::(d1,v1)::st) t=cC ((d2,v2)::(d1,v1)::(d3,v3)::st) t)/\(cC ((d3,v3)::(d2,v2)::(d1,v1)::st) t=cC ((d1,v1)::(d2,v2)::(d3,v3)::st) t):=by
 simp only[cC]
 cases h1:Fm d1 t<;>cases h2:Fm d2 t<;>cases h3:Fm d3 t<;>simp only[cond_true,cond_false,and_self] <;>
  first
  |(have e1:=uu h1;have e2:=uu h2;subst e1;subst e2;rw[Jz]at a2;cases a2)
  |(have e1:=uu h1;have e2:=uu h3;subst e1;subst e2;rw[Jz]at a1;cases a1)
  |(have e1:=uu h2;have e2:=uu h3;subst e1;subst e2;rw[Jz]at a0;cases a0)
theorem Cp{P:I4}{N:Nat}{ops:Array Jr}{S:ow->Prop}{Q:JZ->KA->ow->Prop}{st:St}{w:ow}{a1:Nat}{a0:Array Bool}(i j k:Nat){o o' o2:Jr}(hr:ug .any ops a0=[i,j,k])(hi:ops[i]? = some o)(hj:ops[j]? = some o')(hk:ops[k]? = some o2) 
  (h:WL P N ops (sE P ops S Q a1 (a0.setIfInBounds i true)) [o] st w) (h':WL P N ops (sE P ops S Q a1 (a0.setIfInBounds j true)) [o'] st w) (h2:WL P N ops (sE P ops S Q a1 (a0.setIfInBounds k true)) [o2] st w):WH P N ops S Q (a1+1) a0 st w:=
 WH.all [i,j,k] hr (by simp) fun m hm q hq=>by
  simp only[rI,List.not_mem_nil,or_false]at hm
  rcases hm with rfl|rfl|rfl
  ·rw[hi]at hq;cases hq;exact h
  ·rw[hj]at hq;cases hq;exact h'
  rw[hk]at hq;cases hq;exact h2
theorem Ad{P:I4}{N:Nat}{ops:Array Jr}{S:ow->Prop}{Q:JZ->KA->ow->Prop}{st:St}{w:ow}{b9:Nat}{a0:Array Bool}{T E T2 T3:BJ}{a5:Nat}{x y:Jt} 
  {t t2 t3:BJ} {p p2 p3:String} {e e2 e3:Array Ku} {d1 d2 d3:Nat} (i j k:Nat) (he:Kh P T E 1 a5) {α:Type} {val:α->ix} (z0:α) (b1:(P.info? E).bind (·.zero)=some (val z0)) (h1:∀a,(val a).oneCell'=true)
  {κ ν κ' ν':Type} (kv:κ->ix) (vv:ν->ix) (a8:κ'->ix) (a6:ν'->ix) {B:Nat} {O:Nat->Nat} (r:GT B O w) (g1 g2 g3:Nat) (a3:g1≠0) (a2:g2≠0) (a1:g3≠0) (b0:g1≠g2) (a':g1≠g3) (a9:g2≠g3) (n:Nat)
  (hi:ops[i]? = some ⟨some d1,.makeSlice T x y,t,p,e,none⟩) (hj:ops[j]? = some ⟨some d2,.makeMap T2 none,t2,p2,e2,none⟩) (hk:ops[k]? = some ⟨some d3,.makeMap T3 none,t3,p3,e3,none⟩)
  (hr:ug .any ops a0=[i,j,k]) (d5:ug .any ops (a0.setIfInBounds i true)=[j,k]) (d4:ug .any ops (a0.setIfInBounds j true)=[i,k]) (d0:ug .any ops (a0.setIfInBounds k true)=[i,j])
  (b4:ug .any ops ((a0.setIfInBounds i true).setIfInBounds j true)=[k]) (b3:ug .any ops ((a0.setIfInBounds i true).setIfInBounds k true)=[j]) (b2:ug .any ops ((a0.setIfInBounds j true).setIfInBounds k true)=[i])
  (c':(a0.setIfInBounds j true).setIfInBounds i true=(a0.setIfInBounds i true).setIfInBounds j true) (c9:(a0.setIfInBounds k true).setIfInBounds i true=(a0.setIfInBounds i true).setIfInBounds k true) (c8:(a0.setIfInBounds k true).setIfInBounds j true=(a0.setIfInBounds j true).setIfInBounds k true)
  (q1:((a0.setIfInBounds i true).setIfInBounds k true).setIfInBounds j true=((a0.setIfInBounds i true).setIfInBounds j true).setIfInBounds k true) (q2:((a0.setIfInBounds j true).setIfInBounds k true).setIfInBounds i true=((a0.setIfInBounds i true).setIfInBounds j true).setIfInBounds k true)
  (hS:∀O' W,rm (fun q=>q=g1\/q=g2\/q=g3) O w O' W->S W) {m:Int} (hx:∀l,evs ((d2,l)::st) [x,y]=some [nI m,nI m]/\evs ((d3,l)::st) [x,y]=some [nI m,nI m]/\evs st [x,y]=some [nI m,nI m]/\(∀l',evs ((d3,l')::(d2,l)::st) [x,y]=some [nI m,nI m])/\∀l',evs ((d2,l')::(d3,l)::st) [x,y]=some [nI m,nI m])
  (hm:m=n) (hb:a5*n<=281474976710656) (b8:n<=9223372036854775807) (b7:Gc d1 N=true) (b6:Gc d2 N=true) (b5:Gc d3 N=true) (c6:Fm d1 d2=false) (c5:Fm d1 d3=false) (b':Fm d2 d3=false)
  (h:∀bv sr tr W O',uY (fun x=>[val x]) E 1 O' W g1 bv (sN n z0)->zf kv vv O' W g2 sr []->zf a8 a6 O' W g3 tr []->rm (fun q=>q=g1\/q=g2\/q=g3) O w O' W->GT B O' W->
   WH P N ops S Q b9 (((a0.setIfInBounds i true).setIfInBounds j true).setIfInBounds k true) ((d3,.map (some tr))::(d2,.map (some sr))::(d1,bv)::st) W):WH P N ops S Q (b9+3) a0 st w:=by
 have two:∀ {a7:St} {m:Int},evs a7 [x,y]=some [nI m,nI m]->ev a7 x=some (nI m)/\ev a7 y=some (nI m):=fun {a7 m} h=>by
  simp only[evs]at h
  cases h1:ev a7 x<;>cases h2:ev a7 y<;>rw[h1,h2]at h<;>simp at h ⊢
  exact h
 have c7:¬(fun q=>q=g1\/q=g2\/q=g3) 0:=by rintro(h|h|h)<;>omega
 have o1:∀ {O O':Nat->Nat} {w w':ow},rm (fun q=>q=g1) O w O' w'->rm (fun q=>q=g1\/q=g2\/q=g3) O w O' w':=fun h=>h.mono (fun _ h=>.inl h) c7
 have o2:∀ {O O':Nat->Nat} {w w':ow},rm (fun q=>q=g2) O w O' w'->rm (fun q=>q=g1\/q=g2\/q=g3) O w O' w':=fun h=>h.mono (fun _ h=>.inr (.inl h)) c7
 have o3:∀ {O O':Nat->Nat} {w w':ow},rm (fun q=>q=g3) O w O' w'->rm (fun q=>q=g1\/q=g2\/q=g3) O w O' w':=fun h=>h.mono (fun _ h=>.inr (.inr h)) c7
 refine Cp i j k hr hi hj hk ?_ ?_ ?_
 ·refine bN he z0 b1 h1 r g1 a3 n (two ((hx default).2.2.1)).1 (two ((hx default).2.2.1)).2 hm hm hb b8 b7 fun wr Or vr _ fr ur rr _=>oz (af (hS Or wr (o1 ur)) ?_)
  refine bV j k d5 hj hk ?_ ?_
  ·refine bq kv vv rr g2 a2 b6 fun va wa Oa fa ua ra=>oz (af (hS Oa wa ((o1 ur).trans (o2 ua))) ?_)
   refine qN k b4 hk ?_;refine bq a8 a6 ra g3 a1 b5 fun vb wb Ob fb ub rb=>oz (af (hS Ob wb (((o1 ur).trans (o2 ua)).trans (o3 ub))) ?_)
   exact h vr va vb wb Ob ((fr.upd ua a3 b0).upd ub a3 a') (fa.upd ub a2 a9) fb (((o1 ur).trans (o2 ua)).trans (o3 ub)) rb
  refine bq a8 a6 rr g3 a1 b5 fun vb wb Ob fb ub rb=>oz (af (hS Ob wb ((o1 ur).trans (o3 ub))) ?_)
  refine qN j b3 hj ?_;refine bq kv vv rb g2 a2 b6 fun va wa Oa fa ua ra=>oz (af (hS Oa wa (((o1 ur).trans (o3 ub)).trans (o2 ua))) ?_)
  exact by rw[q1];exact fun ac a4=>h vr va vb wa Oa ((fr.upd ub a3 a').upd ua a3 b0) fa (fb.upd ua a1 (fun h=>a9 h.symm)) (((o1 ur).trans (o3 ub)).trans (o2 ua)) ra ac (a4.look fun t=>(fJ vr (.map (some va)) (.map (some vb)) st c6 c5 b' t).1)
 ·refine bq kv vv r g2 a2 b6 fun va wa Oa fa ua ra=>oz (af (hS Oa wa (o2 ua)) ?_)
  refine bV i k d4 hi hk ?_ ?_
  ·refine bN he z0 b1 h1 ra g1 a3 n (two ((hx _).1)).1 (two ((hx _).1)).2 hm hm hb b8 b7 fun wr Or vr _ fr ur rr _=>oz (af (hS Or wr ((o2 ua).trans (o1 ur))) ?_)
   refine qN k (by rw[c'];exact b4) hk ?_;refine bq a8 a6 rr g3 a1 b5 fun vb wb Ob fb ub rb=>oz (af (hS Ob wb (((o2 ua).trans (o1 ur)).trans (o3 ub))) ?_)
   exact by rw[c'];exact fun ac a4=>h vr va vb wb Ob (fr.upd ub a3 a') ((fa.upd ur a2 (fun h=>b0 h.symm)).upd ub a2 a9) fb (((o2 ua).trans (o1 ur)).trans (o3 ub)) rb ac (a4.look fun t=>(fJ vr (.map (some va)) (.map (some vb)) st c6 c5 b' t).2.1)
  refine bq a8 a6 ra g3 a1 b5 fun vb wb Ob fb ub rb=>oz (af (hS Ob wb ((o2 ua).trans (o3 ub))) ?_)
  refine qN i b2 hi ?_;refine bN he z0 b1 h1 rb g1 a3 n (two ((hx _).2.2.2.1 _)).1 (two ((hx _).2.2.2.1 _)).2 hm hm hb b8 b7 fun wr Or vr _ fr ur rr _=>oz (af (hS Or wr (((o2 ua).trans (o3 ub)).trans (o1 ur))) ?_)
  exact by rw[q2];exact fun ac a4=>h vr va vb wr Or fr ((fa.upd ub a2 a9).upd ur a2 (fun h=>b0 h.symm)) (fb.upd ur a1 (fun h=>a' h.symm)) (((o2 ua).trans (o3 ub)).trans (o1 ur)) rr ac (a4.look fun t=>(fJ vr (.map (some va)) (.map (some vb)) st c6 c5 b' t).2.2.1)
 refine bq a8 a6 r g3 a1 b5 fun vb wb Ob fb ub rb=>oz (af (hS Ob wb (o3 ub)) ?_)
 refine bV i j d0 hi hj ?_ ?_
 ·refine bN he z0 b1 h1 rb g1 a3 n (two ((hx _).2.1)).1 (two ((hx _).2.1)).2 hm hm hb b8 b7 fun wr Or vr _ fr ur rr _=>oz (af (hS Or wr ((o3 ub).trans (o1 ur))) ?_)
  refine qN j (by rw[c9];exact b3) hj ?_;refine bq kv vv rr g2 a2 b6 fun va wa Oa fa ua ra=>oz (af (hS Oa wa (((o3 ub).trans (o1 ur)).trans (o2 ua))) ?_)
  exact by rw[c9,q1];exact fun ac a4=>h vr va vb wa Oa (fr.upd ua a3 b0) fa ((fb.upd ur a1 (fun h=>a' h.symm)).upd ua a1 (fun h=>a9 h.symm)) (((o3 ub).trans (o1 ur)).trans (o2 ua)) ra ac (a4.look fun t=>(fJ vr (.map (some va)) (.map (some vb)) st c6 c5 b' t).2.2.2.1)
 refine bq kv vv rb g2 a2 b6 fun va wa Oa fa ua ra=>oz (af (hS Oa wa ((o3 ub).trans (o2 ua))) ?_)
 refine qN i (by rw[c8];exact b2) hi ?_;refine bN he z0 b1 h1 ra g1 a3 n (two ((hx _).2.2.2.2 _)).1 (two ((hx _).2.2.2.2 _)).2 hm hm hb b8 b7 fun wr Or vr _ fr ur rr _=>oz (af (hS Or wr (((o3 ub).trans (o2 ua)).trans (o1 ur))) ?_)
 exact by rw[c8,q2];exact fun ac a4=>h vr va vb wr Or fr (fa.upd ur a2 (fun h=>b0 h.symm)) ((fb.upd ua a1 (fun h=>a9 h.symm)).upd ur a1 (fun h=>a' h.symm)) (((o3 ub).trans (o2 ua)).trans (o1 ur)) rr ac (a4.look fun t=>(fJ vr (.map (some va)) (.map (some vb)) st c6 c5 b' t).2.2.2.2)
theorem yI{P:I4}{N:Nat}{ops:Array Jr}{S:ow->Prop}{Q:JZ->KA->ow->Prop}{st:St}{w:ow}{a3:Nat}{a1:Array Bool}{α:Type}(f:α->St)(g:α->ow)(I:α->Prop)(a0:Array Bool)(a2:Nat) 
 (h1:(∀x,I x->WH P N ops S Q a2 a0 (f x) (g x))->WH P N ops S Q a3 a1 st w) (h2:∀x,I x->WH P N ops S Q a2 a0 (f x) (g x)):WH P N ops S Q a3 a1 st w:=h1 h2
theorem WH.leaf{P:I4}{N:Nat}{ops:Array Jr}{S:ow->Prop}{Q:JZ->KA->ow->Prop}{st a3:St}{w w':ow}{a2:Nat}{a1 a0:Array Bool}(h:WH P N ops S Q a2 a0 a3 w')(hl:a1=a0)(hc:Cov st a3)(hw:w'=w):WH P N ops S Q a2 a1 st w:=by
 subst hl;subst hw;exact fun a ha=>h a (ha.cov hc)
end Go.VL
namespace Go.Proofs.YtlehnbkknlpkbaaGreatDoor
theorem Gj{E:List KVR}(h:(E.map (·.1)).Nodup){j:Nat}(hj:j<E.length):je E (nth E j).1=some j:=by
 rw[<-ey];refine BV.2 ⟨by simpa using hj,by simp[aB hj],fun i hi=>?_⟩;have:=List.pairwise_iff_getElem.1 h i j (by simp;omega) (by simpa using hj) hi;simp only[List.getElem_map]at this ⊢;rw[aB hj];simpa using this
theorem FK{E:List KVR}(h:(E.map (·.1)).Nodup){j:Nat}(hj:j<E.length):dD E (nth E j).1=(nth E j).2.2/\CC E (nth E j).1=(nth E j).2.1:=by
 unfold dD CC;rw[lh,Gj h hj];simp only[JM,List.getElem?_eq_getElem hj,JN,JL,aB hj,and_self]
structure BlI(w0:ow)(nv tv:ix)(rows:List (List Nat))(tls:List Nat)(sb:Nat)(fv bv:ix)(sr tr tb b0 m0:Nat)(O:Nat->Nat)(W:ow)(bl:List Nat)(E:List KVR)(td:List ((Int×Int)×Bool))(many:Nat):Prop where
 upd:rm (fun q=>1<=q) (fun _=>0) w0 O W
 rng:GT w0.heap.size O W
 sp:SpO O W sb nv tv fv bv sr tr rows.length (nxD rows) bl E td many
 tb:CY O W 8 tb #[nI (b0:Nat),nI (m0:Nat)] 210
 low:∀q,O q<2000
def BlT(rows:List (List Nat))(a0:List Nat)(b0 m0:Nat)(fl:Bool)(bl:List Nat)(E:List KVR)(td:List ((Int×Int)×Bool))(many:Nat):Prop:=
 (fl=true->∃td0,BO (nxD rows) (nth a0) rows.length bl E td0 many/\td=pQ td0 ((b0:Int),(m0:Int))/\b0<many/\m0<37)/\(fl=false->BO (nxD rows) (nth a0) rows.length bl E [] many)
structure BiI(w0:ow)(nv tv:ix)(rows:List (List Nat))(tls:List Nat)(sb:Nat)(fv bv:ix)(sr tr tb b0 m0 r q many0 M:Nat)(bl0:List Nat)(G:List KVR)(O:Nat->Nat)(W:ow)(left:List (Int×ix))(cur:Option (Int×ix))(bl:List Nat)(E:List KVR)(td:List ((Int×Int)×Bool))(many:Nat):Prop where
 upd:rm (fun q=>1<=q) (fun _=>0) w0 O W
 rng:GT w0.heap.size O W
 sp:SpO O W sb nv tv fv bv sr tr rows.length (nxD rows) bl E td many
 tb:CY O W 8 tb #[nI (b0:Nat),nI (m0:Nat)] 210
 rg:KB (fun k:Int=>nI k) (fun v:ix=>v) O W 2000 2001 r q left cur
 gr:∀k,k<G.length->(nth G k).1∈left.map (·.1)->uY aX 3 1 O W (3000+k) (nth G k).2.1 (nth G k).2.2
 bi:BI (nxD rows) (nth tls) rows.length bl0 m0 b0 many0 left bl E td many
 ms:(rows.length-many)*37+td.length<=M
 sub:∀e∈left,e∈G.map ud
theorem CB{rows:List (List Nat)}{a0:List Nat}{bl:List Nat}{E:List KVR}{td:List ((Int×Int)×Bool)}{many:Nat}(h:BO (nxD rows) (nth a0) rows.length bl E td many){a2 a1:List ((Int×Int)×Bool)}{k:Int×Int}{x:Bool}(e:td=a2++(k,x)::a1):
  ∃b0 m0:Nat,k=((b0:Int),(m0:Int))/\BlT rows a0 b0 m0 true bl E (pQ td k) many/\(pQ td k).length+1=td.length:=by
 have hm:(k,x)∈td:=by rw[e];simp
 obtain⟨c,j,h1,h2,h3⟩:=h.tdr _ hm;dsimp only at h3;exact⟨c,j,h3,⟨fun _=>⟨td,h,by rw[h3],h1,h2⟩,fun e=>absurd e zd⟩,yH k x td hm⟩
theorem RightD.nx{rows:List (List Nat)}{a0:List Nat}(h:RightD rows a0):∀p m,p<rows.length->m<37->nxD rows p m<rows.length:=fun p m hp hm=>(h.row p hp).2 m hm
theorem SpO.todoN{S:Nat->Prop}{O O':Nat->Nat}{w w':ow}{sb:Nat}{nv tv fv bv:ix}{sr tr n:Nat}{nx:Nat->Nat->Nat}{bl:List Nat}{E:List KVR}{td a0:List ((Int×Int)×Bool)}{many:Nat}(h:SpO O w sb nv tv fv bv sr tr n nx bl E td many) 
  (u:rm S O w O' w') (hS:∀k,0<k->k<10+E.length->k≠4->k≠8->k≠9->¬S k) (ht:zf et th O' w' 4 tr a0):SpO O' w' sb nv tv fv bv sr tr n nx bl E a0 many:=
 ⟨h.blk.upd u zd (hS 1 zo zo zo zo zo),h.row.upd u zd (hS 2 zo zo zo zo zo),⟨h.st.map.upd u zd (hS 3 zo zo zo zo zo),fun k hk=>(h.st.row k hk).upd u zo (hS _ zo zo zo zo zo)⟩,ht,h.frm.upd u zd (hS 5 zo zo zo zo zo)⟩
theorem SpO.reN{O:Nat->Nat}{w:ow}{sb:Nat}{nv tv fv bv:ix}{sr tr n:Nat}{nx:Nat->Nat->Nat}{bl:List Nat}{E:List KVR}{td:List ((Int×Int)×Bool)}{many:Nat}(h:SpO O w sb nv tv fv bv sr tr n nx bl E td many) 
  (f:Nat->Nat) (hf:∀t,t<10+E.length->t≠8->t≠9->f t=t):SpO (reF f O) w sb nv tv fv bv sr tr n nx bl E td many:=
 ⟨h.blk.re f (hf 1 zo zo zo),h.row.re f (hf 2 zo zo zo),⟨h.st.map.re f (hf 3 zo zo zo),fun k hk=>(h.st.row k hk).re f (hf _ zo zo zo)⟩,h.todo.re f (hf 4 zo zo zo),h.frm.re f (hf 5 zo zo zo)⟩
def nxF:Nat->Nat:=fun t=>if t=9 then 8 else if t=8 then 0 else if t<2000 then t else 0
theorem GR{t:Nat}(h:t<2000)(h8:t≠8)(h9:t≠9):nxF t=t:=by unfold nxF;rw[if_neg h9,if_neg h8,if_pos h]
theorem GQ(t:Nat):nxF t<2000:=by unfold nxF;split;omega;split;omega;split<;>omega
theorem tW(nv tv:ix)(rows:List (List Nat))(b5:List Nat)(w:ow)(hn:RowsN w nv rows)(m4:Sl jb 1 w tv b5)(hr:RightD rows b5):
  Js zI 112 [.agg #[nv,tv]] w fun v w'=>
   ∃bl,Sl aX 1 w' v bl/\J6 w w'/\bl.length=rows.length/\(∀p q,p<rows.length->q<rows.length->(nth bl p=nth bl q↔Alike (nxD rows) (nth b5) p q))/\∀(B:Nat) (O:Nat->Nat),GT B O w->IJ O w' v:=by
 have t9:=hr.le;have o6:=hr.pos;have e6:=hr.tl;have d9:=hr.nx;have o7:=hn.free;have g2:IJ (fun _=>0) w tv:=m4.free0 fun a=>by simp
 obtain⟨vs,i6,i7,t5,o1⟩:=o7;refine rj func112 ntmps112 rfl rfl ?_;refine zg ?_;refine aE (au w) 7 zo rfl rfl ?_;intro db w1 O1 i1 n3 s2 u5;have c0:w1.cell? (nA db 0)=some nv:=i1.cell 0 rfl;have i5:=i6.upd i7 n3;refine zg ?_;refine aI (fun W=>∀j u,[nv,tv][j]? = some u->W.cell? (nA db j)=some u) 10 rfl zk ?_;refine zin i1.drew.cellsAdd fun zS=>?_
 refine zt 0 rfl zS (fun w1 i4=>ai (us:=[nv,tv]) i4 (DN _) (uV _) rfl) ?_;refine zrf 1 rfl zS rfl ?_
 refine zt 2 rfl zS (fun w1 i4=>RV.ld (i4 0 _ rfl) rfl) ?_;refine zr 3 rfl zS (fun _=>aM i5.sh ri rfl) ?_
 refine Ad 4 5 6 kU (val:=fun n:Nat=>nI (n:Int)) (0:Nat) zk (fun _=>rfl) (fun k:Int=>nI k) (fun v:ix=>v) et th s2.drew 2 3 4 zd zd zd zd zd zd rows.length rfl rfl rfl zk zk zk zk zk zk zk zk zk zk zk zk (fun O' W u=>(i1.drew.upd u zd zd).cellsAdd) (fun l=>⟨rfl,rfl,rfl,fun _=>rfl,fun _=>rfl⟩) zo zo zo rfl rfl rfl rfl rfl rfl ?_;intro bv sr tr w4 O4 c5 j7 j1 n2 s1;have d3:=i1.drew.upd n2 zd zd;obtain⟨ba,bc,p8,_⟩:=c5.sl.shape;refine zr 7 rfl (d3.cellsAdd) (fun _=>RV.build (cells:=#[nv,tv,nS,bv,.map (some sr),.map (some tr),nI 0]) Iv (zeroValue228 _) rfl (by rw[p8];rfl)) ?_
 refine qN 8 zk rfl ?_;refine aE s1 1 zd rfl rfl ?_
 intro sb w5 O5 q' d' s0 u4;refine zg ?_;refine af ((d3.upd d' zd zd).cellsAdd) ?_;have f9:=c5.upd d' zd zd;have j6:=j7.upd d' zd zd;have j0:=j1.upd d' zd zd;have l5:rm (fun q=>1<=q) (fun _=>0) w O5 w5:=((n3.mono (fun _ h=>by omega) zd).trans (Upd.ofDrew (n2.mono (fun _ h=>by omega) zd))).trans (d'.mono (fun _ h=>by omega) zd);obtain⟨f,hf⟩:∃f:Nat->Nat,f=fun t=>if t<=7 then t else 0:=⟨_,rfl⟩
 have f7:∀t,t<=7->f t=t:=fun t ht=>by rw[hf];exact if_pos ht
 have s6:∀t,f t<=7:=fun t=>by rw[hf];dsimp only;split<;>omega
 have l2:=l5.re f (f7 0 zd) (fun b hb=>absurd rfl hb);refine zra 9 rfl ((d3.upd d' zd zd).cellsAdd) rfl ?_;refine BG zk ?_;refine zg ?_;refine zc call145 (vT w.heap.size (reF f O5) w5 sb nv tv bv sr tr b5 (s0.re f (f7 0 zd)) (q'.re f (f7 1 zd)) (by rw[e6];exact f9.re f (f7 2 zd)) ⟨j6.re f (f7 3 zd),fun k hk=>absurd hk (oD k)⟩ (j0.re f (f7 4 zd)) (m4.upd g2 l2) (g2.upd l2) zo (fun q=>by have:=s6 (O5 q);show f (O5 q)<2000;omega)) ?_;rintro _ w6 ⟨O6,D,bl,E,many,td,r7,r',p',f8,e',i',hF,hI⟩;have m8:=hF.mi;obtain⟨g,hg⟩:∃g:Nat->Nat,g=fun t=>if t<=4\/10<=t/\t<2000 then t else 0:=⟨_,rfl⟩
 have g1:∀t,(t<=4\/10<=t/\t<2000)->g t=t:=fun t ht=>by rw[hg];exact if_pos ht
 have n8:∀t,g t<2000/\g t≠6/\g t≠5:=fun t=>by rw[hg];dsimp only;split<;>omega
 have g9:=(l2.trans (r7.mono (fun _ h=>by omega) zd)).re g (g1 0 zd) (fun b hb=>absurd rfl hb);have m6:RowsF (reF g O6) w6 nv rows:=hn.free.upd g9;refine zg ?_;refine zc call146 (tU w.heap.size (reF g O6) w6 sb nv tv bv sr tr many rows b5 (r'.re g (g1 0 zd)) (p'.re g (g1 1 zd)) m6 hr (fun q=>(n8 _).1) (fun q=>(n8 _).2.1)) ?_;rintro _ w7 ⟨O7,fv,g5,r9,p9,k9⟩;obtain⟨f3,m'⟩:∃f:Nat->Nat,f=fun t=>if t<2000 then t else 0:=⟨_,rfl⟩
 have b4:∀t,t<2000->f3 t=t:=fun t ht=>by rw[m'];exact if_pos ht
 have f3lt:∀t,f3 t<2000:=fun t=>by rw[m'];dsimp only;split<;>omega
 have l4:=(g9.trans (g5.mono (fun _ h=>by omega) zd)).re f3 (b4 0 zd) (fun b hb=>absurd rfl hb);have u2:=hF.keys.len;have b8:SpO (reF f3 O7) w7 sb nv tv fv bv sr tr rows.length (nxD rows) bl E td many:=⟨p9.re f3 (b4 1 zd),((f8.re g (g1 2 zd)).upd g5 zd zd).re f3 (b4 2 zd),⟨((e'.map.re g (g1 3 zd)).upd g5 zd zd).re f3 (b4 3 zd),fun k hk=>(((e'.row k hk).re g (g1 _ zo)).upd g5 zo zo).re f3 (b4 _ zo)⟩,((i'.re g (g1 4 zd)).upd g5 zd zd).re f3 (b4 4 zd),k9.re f3 (b4 5 zd)⟩
 rw[e6]at hF;have h6:BO (nxD rows) (nth b5) rows.length bl E td many:=hF.bo hI d9;have g':=r9.re f3 (b4 0 zd);have t':∀q,reF f3 O7 q<2000:=fun q=>f3lt _
 generalize reF f3 O7=O8 at *;refine zg ?_;refine zc call147 (ql w.heap.size O8 w7 sb tr td g' (.inr ⟨b8.blk.tag,b8.blk.cell 5 rfl⟩) b8.todo) ?_;intro vn w8 j8;have hq:∃b0 m0 fl b',vn=.tuple #[et ((b0:Nat),(m0:Nat)),.bool fl]/\rm (fun q=>q=4) O8 w7 O8 w8/\zf et th O8 w8 4 tr b'/\BlT rows b5 b0 m0 fl bl E b' many:=by
  rcases j8 with⟨h0,rfl,h1,h2⟩|⟨d8,k,x,d7,e,rfl,h1,h2⟩
  ·rw[h0]at h2 h6;exact⟨0,0,false,[],rfl,h1,h2,⟨fun e=>absurd e zd,fun _=>h6⟩⟩
  obtain⟨b0,m0,rfl,h3,_⟩:=CB h6 e;exact⟨b0,m0,true,_,rfl,h1,h2,h3⟩
 obtain⟨b0,m0,fl,b',rfl,n1,i9,s5⟩:=hq;refine zg ?_;refine ax (g'.upd n1) 8 zo (A2 _) rfl ?_;intro tb w9 O9 d0 n0 r8 u3;refine zsa (us:=#[nI (b0:Nat),nI (m0:Nat)]) d0 (Ae _) ?_;have e9:=d0.setRow (us:=#[nI (b0:Nat),nI (m0:Nat)]);have d5:rm (fun k=>k=8) O9 w9 O9 (w9.setRow tb #[nI (b0:Nat),nI (m0:Nat)]):=tp zd d0.tag rfl;generalize w9.setRow tb #[nI (b0:Nat),nI (m0:Nat)]=w10 at *;have c7:rm (fun q=>q=4\/q=8) O8 w7 O9 w10:=((n1.mono (fun _ h=>.inl h) zd).trans (n0.mono (fun _ h=>.inr h) zd)).trans (d5.mono (fun _ h=>.inr h) zd);have f6:=b8.todoN c7 zo ((i9.upd n0 zd zd).upd d5 zd zd);have n7:=h6.keys.len;have t8:=h6.blk.many_le;have f3i:∀t,t<10+E.length->t≠8->t≠9->f3 t=t:=fun t h _ _=>b4 t zo
 clear m6 hF hI;refine zg ?_;refine zlp (fun z:(Nat->Nat)×World×List Nat×List KVR×List ((Int×Int)×Bool)×Nat×Nat×Nat×Nat×Bool=>[(3,nP sb),(4,.pointer (some ⟨z.2.2.2.2.2.2.1,0,none⟩)),(5,.bool z.2.2.2.2.2.2.2.2.2)]) (fun z=>z.2.1) (fun z=>BlI w nv tv rows b5 sb fv bv sr tr z.2.2.2.2.2.2.1 z.2.2.2.2.2.2.2.1 z.2.2.2.2.2.2.2.2.1 z.1 z.2.1 z.2.2.1 z.2.2.2.1 z.2.2.2.2.1 z.2.2.2.2.2.1/\BlT rows b5 z.2.2.2.2.2.2.2.1 z.2.2.2.2.2.2.2.2.1 z.2.2.2.2.2.2.2.2.2 z.2.2.1 z.2.2.2.1 z.2.2.2.2.1 z.2.2.2.2.2.1) (fun z=>(rows.length-z.2.2.2.2.2.1)*37+z.2.2.2.2.1.length+z.2.2.2.2.2.2.2.2.2.toNat) (reF f3 O9,w10,bl,E,b',many,tb,b0,m0,fl) (⟨⟨(l4.trans (c7.mono (fun _ h=>by omega) zd)).re f3 (b4 0 zd) (fun b hb=>absurd rfl hb),(r8.upd d5).re f3 (b4 0 zd),f6.reN f3 f3i,e9.re f3 (b4 8 zd),fun q=>f3lt _⟩,s5⟩) ?_;rintro⟨O11,e4,e2,E1,i3,a9,h7,b1,m1,s8⟩ ⟨hI,hT⟩;dsimp only at hI hT ⊢;refine zg ?_
 cases s8 with
 |false=>
  have g3:=hT.2 rfl;have cb:e4.cell? (nA sb 3)=some bv:=hI.sp.blk.cell 3 rfl;refine zFG rfl rfl ?_;refine zvG (RV.ld cb rfl) ?_;refine ae rfl rfl (⟨e2,hI.sp.row.sl,hI.upd.ext,g3.blk.len,fun p q hp hq=>g3.final d9 p q hp hq,fun B O hO=>hI.sp.row.free zd hI.rng hO⟩)
 |true=>
  obtain⟨t2,a5,j2,l1,g0⟩:=hT.1 rfl;have p4:=a5.keys;have p2:=p4.len;have o':=a5.blk.many_le;have b7:=a5.blk.mem b1 l1;have s':e4.cell? ⟨h7,0,none⟩=some (nI (b1:Nat)):=hI.tb.cell 0 rfl;have s9:e4.cell? ⟨h7,1,none⟩=some (nI (m1:Nat)):=hI.tb.cell 1 rfl;refine zTG rfl rfl ?_;refine zv (fE BW (qy _) rfl rfl 0 rfl zd) ?_;refine zv (RV.ld s' rfl) ?_;refine zv (fE BW (qy _) rfl rfl 1 rfl zd) ?_;refine zv (RV.ld s9 rfl) ?_;refine zc call148 (vS w.heap.size O11 e4 sb nv tv fv bv sr tr rows.length (nxD rows) e2 E1 i3 a9 b1 m1 hI.rng hI.sp zo g0 (fun x hx=>((b7 x).1 hx).1) zo a5.blk.len (a5.blk.nd b1 l1) hI.low) ?_;rintro _ t1 ⟨r,O12,G,rfl,l3,l8,hG,hL⟩;refine oT hG.map sx l8 2001 zd zd rfl rfl ?_;intro q m2 O13 o5 p0 g8 l7;have a8:rm (fun q=>2000<=q) O11 e4 O13 m2:=l3.trans (g8.mono (fun _ h=>by omega) zd);have n6:∀k,k∈(G.map ud).map (·.1)↔k∈G.map (·.1):=fun k=>by rw[Ka];rfl
  have s3:((G.map ud).map (·.1)).Nodup:=by rw[Ka];exact hL.nd
  obtain⟨M,hM⟩:∃M,M=(rows.length-a9)*37+i3.length:=⟨_,rfl⟩
  refine zg ?_;refine zlp (fun y:(Nat->Nat)×World×List (Int×ix)×Option (Int×ix)×List Nat×List KVR×List ((Int×Int)×Bool)×Nat=>[(3,nP sb),(4,nP h7),(38,nP q)]) (fun y=>y.2.1) (fun y=>BiI w nv tv rows b5 sb fv bv sr tr h7 b1 m1 r q a9 M e2 G y.1 y.2.1 y.2.2.1 y.2.2.2.1 y.2.2.2.2.1 y.2.2.2.2.2.1 y.2.2.2.2.2.2.1 y.2.2.2.2.2.2.2) (fun y=>y.2.2.1.length) (O13,m2,G.map ud,none,e2,E1,i3,a9) (⟨hI.upd.trans (a8.mono (fun _ h=>by omega) zd),l7,hI.sp.upd a8 zo,hI.tb.upd a8 zd zd,o5,fun k hk _=>(hG.row k hk).upd g8 zo zo,?_,Nat.le_of_eq hM.symm,fun e h=>h⟩) ?_
  ·dsimp only;rw[j2];refine a5.take b1 m1 g0 d9 _ (fun k=>?_) s3;rw[n6,hL.key]
   constructor
   ·rintro⟨i,hi,e⟩;obtain⟨h1,h2⟩:=il.1 hi;exact⟨i,h1,((b7 _).1 h2).2,e⟩
   rintro⟨i,h1,h2,e⟩;exact⟨i,il.2 ⟨h1,(b7 _).2 ⟨d9 i m1 h1 g0,h2⟩⟩,e⟩
  rintro⟨O14,t0,left,u6,c8,E2,e5,a0⟩ hJ;dsimp only at hJ ⊢;refine zg ?_;refine qJ hJ.rg zd zd rfl rfl ?_ ?_
  ·intro h0;subst h0;have b9:=hJ.bi.done;have k3:=b9.keys.len;have j9:=b9.blk.many_le;refine zg ?_;refine zFG rfl rfl ?_;refine zvG (ai (us:=[nI (b1:Nat),nI (m1:Nat)]) hJ.tb.cellsAdd (Jw _) (Ae _) rfl) ?_;refine ax hJ.rng 9 zo (A2 _) rfl ?_;intro tc c9 O15 j5 a2 h5 s4;refine zsa (us:=#[nI (b1:Nat),nI (m1:Nat)]) j5 (Ae _) ?_;have j4:=j5.setRow (us:=#[nI (b1:Nat),nI (m1:Nat)]);have a4:rm (fun k=>k=9) O15 c9 O15 (c9.setRow tc #[nI (b1:Nat),nI (m1:Nat)]):=tp zd j5.tag rfl;generalize c9.setRow tc #[nI (b1:Nat),nI (m1:Nat)]=d6 at *;have a7:=a2.trans a4;have a1:=hJ.sp.todoN a7 zo ((hJ.sp.todo.upd a7 zd zd));refine zg ?_;refine zc call147 (ql w.heap.size O15 d6 sb tr e5 (h5.upd a4) (.inr ⟨a1.blk.tag,a1.blk.cell 5 rfl⟩) a1.todo) ?_;intro n9 e3 f';have m7:=hJ.ms;have hq:∃b0 m0 fl b',n9=.tuple #[et ((b0:Nat),(m0:Nat)),.bool fl]/\rm (fun q=>q=4) O15 d6 O15 e3/\zf et th O15 e3 4 tr b'/\BlT rows b5 b0 m0 fl c8 E2 b' a0/\(rows.length-a0)*37+b'.length+fl.toNat<=M:=by
    rcases f' with⟨h0,rfl,h1,h2⟩|⟨d8,k,x,d7,e,rfl,h1,h2⟩
    ·subst h0;exact⟨0,0,false,[],rfl,h1,h2,⟨fun e=>absurd e zd,fun _=>b9⟩,m7⟩
    obtain⟨b0,m0,rfl,h3,h4⟩:=CB b9 e;exact⟨b0,m0,true,_,rfl,h1,h2,h3,by show _+_+1<=M;omega⟩
   obtain⟨b3,m3,s7,n',rfl,g7,e7,l',o8⟩:=hq;have c':=j4.upd g7 zd zd;refine zg ?_;refine zsa (us:=#[nI (b3:Nat),nI (m3:Nat)]) c' (Ae _) ?_;have j3:=c'.setRow (us:=#[nI (b3:Nat),nI (m3:Nat)]);have g6:rm (fun k=>k=9) O15 e3 O15 (e3.setRow tc #[nI (b3:Nat),nI (m3:Nat)]):=tp zd c'.tag rfl;generalize e3.setRow tc #[nI (b3:Nat),nI (m3:Nat)]=w18 at *;have a6:rm (fun q=>q=4\/q=9) O15 d6 O15 w18:=(g7.mono (fun _ h=>.inl h) zd).trans (g6.mono (fun _ h=>.inr h) zd);have f5:=a1.todoN a6 zo (e7.upd g6 zd zd);have r6:=(hJ.upd.trans (a7.mono (fun _ h=>by omega) zd)).trans (a6.mono (fun _ h=>by omega) zd);refine zg ?_;refine zx (reF nxF O15,w18,c8,E2,n',a0,tc,b3,m3,s7) (⟨⟨r6.re nxF rfl (fun b hb=>absurd rfl hb),((h5.upd a4).upd a6).re nxF rfl,f5.reN nxF (fun t h h8 h9=>GR zo h8 h9),j3.re nxF rfl,fun q=>GQ _⟩,l'⟩) (by dsimp only;show _<_+1;omega)
  intro d8 k v d7 c9 k0 b6 a2;subst k0;have m9:k∈G.map (·.1):=(n6 k).1 (FX.2 ⟨_,hJ.sub _ (yP _ (AW ..)),rfl⟩);obtain⟨i0,u0,p3⟩:=(hL.key k).1 m9;obtain⟨kn,p1⟩:∃kn:Nat,k=(kn:Int):=⟨_,p3.symm⟩
  subst p1;obtain⟨e0,p7,p6⟩:=FX.1 (hJ.sub _ (yP _ (AW ..)));obtain⟨j,hj,p5⟩:=cI p7;subst p5;obtain⟨k4,o2⟩:=IP p6;have m5:=hJ.gr j hj (by rw[k4];simp);obtain⟨h',t6⟩:=FK hL.nd hj;obtain⟨L,n5⟩:∃L,L=(nth G j).2.2:=⟨_,rfl⟩
  rw[o2,<-n5]at m5;rw[k4,<-n5]at h';have i2:∀x,x∈L↔x<rows.length/\nth e2 x=kn/\nth e2 (nxD rows x m1)=b1:=fun x=>by rw[<-h'];exact hL.mem (fun x hx=>d9 x m1 hx g0) b7 kn x
  have n4:L.Nodup:=by rw[<-h'];exact hL.rnd (a5.blk.nd b1 l1) _
  have l9:L≠[]:=by rw[<-h'];exact hL.ne m9
  obtain⟨k1,u1⟩:=hJ.bi.here i2;have k5:=hJ.bi.keys;have k3:=k5.len;have j9:=hJ.bi.blk.many_le;have g4:=hJ.bi.blk.len;have a3:=hJ.sp.upd a2 zo;have a':=m5.upd a2 zo zo;have c6:=a3.st.at (kn:Int);have o4:=a'.sl.len_le;have o3:=c6.sl.len_le;have cs:c9.cell? (nA sb 4)=some (.map (some sr)):=a3.blk.cell 4 rfl;obtain⟨t4,o0,t3⟩:=rK hJ.bi.nd;refine zg ?_;refine zTG rfl rfl ?_;refine zvG (Kz b6 rfl) ?_;refine zvG (aM a'.sl.sh ln rfl) ?_;refine zvG (RV.ld cs rfl) ?_;refine zv (C2 a3.st.map sx qp (Da _) (kn:Int) rfl rfl rfl (ma E2 _)) ?_;refine zvG (aM c6.sl.sh ln rfl) ?_;refine zC ?_ ?_
  ·intro j';replace j':L.length<(dD E2 (kn:Int)).length:=by have:=of_decide_eq_true j';omega
   have k':=hJ.bi.cut d9 a5.blk.alike g0 i2 n4 l9 j' v;refine zg ?_;refine zc call149 (vQ w.heap.size O14 c9 sb nv tv fv bv sr tr rows.length (nxD rows) c8 E2 e5 a0 kn (3000+j) v L (hJ.rng.upd a2) a3 a' k5 zo (fun x hx=>by rw[g4];exact((i2 x).1 hx).1) zo k1 (fun x hx=>by rw[g4];exact((hJ.bi.blk.mem kn k1 x).1 hx).1)) ?_;rintro _ d6 ⟨v',O16,a4,l6,l0,d1,f4,k6,e8⟩;have a1:=a3.cut k5 k1 zo a' a4 (fun q h=>h) l0 d1 f4 k6 e8;obtain⟨f,hf⟩:∃f,f=FR (3000+j) (10+a0):=⟨_,rfl⟩
   have e1:∀t,t≠3000+j->f t=t:=fun t ht=>by rw[hf];exact rG ht
   rw[<-hf]at a1;have b2:=k' v' (decide ((gO (fun x=>nth (cL c8 a0 L) x==a0) (dD E2 (kn:Nat))).length<L.length));have o9:=b2.blk.many_le;generalize decide ((gO (fun x=>nth (cL c8 a0 L) x==a0) (dD E2 (kn:Nat))).length<L.length)=lt at a1 b2;have i8:=Ax e5 kn a0 lt 37;generalize tdL e5 kn a0 lt 37=td5 at a1 b2 i8;generalize cJ (cJ E2 (a0:Int) (v,L)) (kn:Int) (v',gO (fun x=>nth (cL c8 a0 L) x==a0) (dD E2 (kn:Nat)))=E3 at a1 b2;generalize cL c8 a0 L=bl3 at a1 b2;have m7:=hJ.ms;have d4:rm (fun q=>1<=q) (fun _=>0) w O16 d6:=(hJ.upd.trans (a2.mono (fun _ h=>by omega) zd)).trans (a4.mono (fun _ h=>by omega) zo);refine zg ?_;refine zx (reF f O16,d6,d8++d7,some ((kn:Int),v),bl3,E3,td5,a0+1) (⟨d4.re f (e1 0 zo) (fun b hb=>absurd rfl hb),l6.re f (e1 0 zo),a1,((hJ.tb.upd a2 zd zd).upd a4 zd zo).re f (e1 8 zo),(b6.upd a4 zd zd zo zo).re f (e1 _ zo) (e1 _ zo),fun k2 d2 hm=>?_,b2,?_,fun e he=>hJ.sub e ?_⟩) (by dsimp only;simp)
   ·have t7:k2≠j:=fun e=>by
     subst e;exact o0 (by rw[<-k4];exact hm)
    have k7:(nth G k2).1∈(d8++((kn:Int),v)::d7).map (·.1):=by
     simp only[yr,tJ,rU,rI]at hm ⊢
     rcases hm with hm|hm
     ·exact .inl hm
     exact .inr (.inr hm)
    exact(((hJ.gr k2 d2 k7).upd a2 zo zo).upd a4 zo zo).re f (e1 _ zo)
   ·dsimp only;omega
   rcases rU.1 he with he|he
   ·exact ze _ he
   exact yP _ (tq _ he)
  intro k8;replace k8:(dD E2 (kn:Int)).length<=L.length:=by have:=of_decide_eq_false k8;omega
  have k':=hJ.bi.skip i2 n4 k8;refine zg ?_;refine zx (O14,c9,d8++d7,some ((kn:Int),v),c8,E2,e5,a0) (⟨hJ.upd.trans (a2.mono (fun _ h=>by omega) zd),hJ.rng.upd a2,a3,hJ.tb.upd a2 zd zd,b6,fun k2 d2 hm=>?_,k',hJ.ms,fun e he=>hJ.sub e ?_⟩) (by dsimp only;simp)
  ·have k7:(nth G k2).1∈(d8++((kn:Int),v)::d7).map (·.1):=by
    simp only[yr,tJ,rU,rI]at hm ⊢
    rcases hm with hm|hm
    ·exact .inl hm
    exact .inr (.inr hm)
   exact(hJ.gr k2 d2 k7).upd a2 zo zo
  rcases rU.1 he with he|he
  ·exact ze _ he
  exact yP _ (tq _ he)
end Go.Proofs.YtlehnbkknlpkbaaGreatDoor
section
namespace Go.VL
section
variable{κ ν:Type}[DecidableEq κ]{kv:κ→ix}{vv:ν→ix}{P:I4}{N:Nat}{ops:Array Jr}{Q:JZ→KA→ow→Prop}{rest:List Jr}{st:St}{w:ow}{t:BJ}{p:String}{e:Array Ku}{x y z:Jt}
theorem WL.insert{T K E:BJ}{O:Nat->Nat}{i r:Nat}{l:List (κ×ν)}(hm:zf kv vv O w i r l)(hT:P.underlying T=some (.map K E))(hK:KeyL P K kv)(a0:i≠0) 
  (k:κ) (u:ν) {kx ux:ix} (hx:ev st x=some (.map (some r))) (hy:ev st y=some kx) (hz:ev st z=some ux) (hk:kx=kv k) (hu:ux=vv u)
  (h:∀w',zf kv vv O w' i r (cJ l k u)->rm (fun j=>j=i) O w O w'->WL P N ops Q rest st w'):WL P N ops Q (⟨none,.insert T x y z,t,p,e,none⟩::rest) st w:=by
 subst hk;subst hu;obtain⟨w',h1,h2,h3⟩:=dV hT hK hm a0 k u;exact iI (fun a ha=>by simp only[execOp,ha.ev hx,ha.ev hy,ha.ev hz,CX,h1,uM,Jy]) (h w' h2 h3)
end
end Go.VL
namespace Go.VL
open Go.Proofs
theorem RowT.freeRe{α:Type}{enc:α->List ix}{E:BJ}{sz B:Nat}{O:Nat->Nat}{w:ow}{i:Nat}{v:ix}{l:List α}(h:uY enc E sz O w i v l)(hi:i≠0)(r:GT B O w)(f:Nat->Nat)(hf:f i=0):IJ (reF f O) w v:=fun a n c e _=>by
 have h1:=h.1.tag a.block (by subst e;rfl);exact⟨by unfold reF;rw[h1];exact hf,(r.rng a.block (by rw[h1];exact hi)).2⟩
theorem Free.re{O:Nat->Nat}{w:ow}{v:ix}(h:IJ O w v)(f:Nat->Nat)(hf:f 0=0):IJ (reF f O) w v:=fun a n c e hn=>⟨by unfold reF;rw[(h a n c e hn).1];exact hf,(h a n c e hn).2⟩
end Go.VL
namespace Go.Proofs.YtlehnbkknlpkbaaGreatDoor
open Go.VL Go.Proofs
set_option maxRecDepth 10000
theorem RwO.re{O:Nat->Nat}{w:ow}{i:Nat}{v:ix}{vs:List ix}{rows:List (List Nat)}(h:RwO O w i v vs rows)(f:Nat->Nat)(h0:f 0=0)(hi:f i=i):RwO (reF f O) w i v vs rows:=
 ⟨h.row.re f hi,h.len,fun k hk=>⟨(h.at_ k hk).1,(h.at_ k hk).2.re f h0⟩⟩
theorem BP{cl:Nat->Nat}{F:List Nat}{s t:Nat}(h:yq cl F s=none):yq cl (F++[s]) t=if cl s=cl t then some F.length else yq cl F t:=by
 unfold yq at h ⊢;rw[JE]
 by_cases e:cl s=cl t
 ·rw[if_pos e];have:K4 (fun o=>cl o==cl t) F=none:=by rw[<-e];exact h
  rw[this];simp[B1,e]
 rw[if_neg e]
 cases K4 (fun o=>cl o==cl t) F with
 |some k=>simp
 |none=>simp[B1,e]
def NumI(cl:Nat->Nat)(D:List (Int×Int))(F:List Nat):Prop:=∀t,bx D ((cl t:Nat):Int)=(yq cl F t).map fun k:Nat=>(k:Int)
theorem Ah(cl:Nat->Nat):NumI cl (cJ [] ((cl 0:Nat):Int) 0) [0]:=fun t=>by
 simp only[cJ,bx,yq,B1,List.findIdx?_nil]
 by_cases e:cl 0=cl t
 ·rw[if_pos (by rw[e]),if_pos (by simpa using e)];rfl
 rw[if_neg zo,if_neg (by simpa using e)];rfl
theorem NumI.add{cl:Nat->Nat}{D:List (Int×Int)}{F:List Nat}(h:NumI cl D F){s:Nat}(hs:yq cl F s=none):NumI cl (cJ D ((cl s:Nat):Int) (F.length:Int)) (F++[s]):=fun t=>by
 rw[bf,BP hs]
 by_cases e:cl s=cl t
 ·rw[if_pos (by rw[e]),if_pos e];rfl
 rw[if_neg zo,if_neg e];exact h t
theorem vR(nv tv:ix)(rows:List (List Nat))(a':List Nat)(w:ow)(hn:RowsN w nv rows)(i9:Sl jb 1 w tv a')(hr:RightD rows a'):
  Js zI 64 [.agg #[nv,tv]] w fun v w'=>
   ∃cl nv' tv',v=.agg #[nv',tv']/\nv'.oneCell'=true/\tv'.oneCell'=true/\J6 w w'/\(∀p q,p<rows.length->q<rows.length->(cl p=cl q↔Alike (nxD rows) (nth a') p q))/\RowsG w.heap.size w' nv' (aU cl rows a').1/\Sl jb 1 w' tv' (aU cl rows a').2/\NewV w.heap.size tv':=by
 have v3:=hr.le;have n4:=hr.pos;have s7:=hr.tl;have n6:=hr.nx;obtain⟨vs,m',n1,v1,n0⟩:=hn.free;have f8:IJ (fun _=>0) w tv:=i9.free0 fun a=>by simp
 refine rj func64 ntmps64 rfl rfl ?_;refine zg ?_
 refine aE (au w) 1 zo rfl rfl ?_;intro db w1 O1 k' t' u4 v8;refine ax u4 2 zo (CZ _) rfl ?_
 intro cb w2 O2 l1 r9 r' v7;have g9:=k'.upd r9 zd zd;have i2:rm (fun q=>1<=q) (fun _=>0) w O2 w2:=(t'.mono (fun _ h=>by omega) zd).trans (r9.mono (fun _ h=>by omega) zd);refine zg ?_;refine zv (ai (us:=[nv,tv]) g9.cellsAdd (DN _) (uV _) rfl) ?_;refine zc call68 (jR nv tv rows a' w2 (hn.ext i2.ext) (i9.ext i2.ext) hr) ?_;rintro _ w3 ⟨rfl,u9⟩;have l2:rm (fun _=>False) O2 w2 O2 w3:=aa (fun h=>h) O2 u9;have g8:=g9.upd l2 zd (fun h=>h);have l0:=l1.upd l2 zd (fun h=>h);have i1:=i2.trans (l2.mono (fun _ h=>h.elim) zd);refine zg ?_;refine zFG rfl rfl ?_;refine zv (ai (us:=[nv,tv]) g8.cellsAdd (DN _) (uV _) rfl) ?_;refine zc call112 (tW nv tv rows a' w3 (hn.ext i1.ext) (i9.ext i1.ext) hr) ?_;rintro bv w4 ⟨bl,e4,u7,t9,h6,o7⟩;have m0:rm (fun _=>False) O2 w3 O2 w4:=aa (fun h=>h) O2 u7;have u3:=(r'.upd l2).upd m0;have g7:=g8.upd m0 zd (fun h=>h);have h3:=l0.upd m0 zd (fun h=>h);have p3:=i1.trans (m0.mono (fun _ h=>h.elim) zd);have o8:IJ O2 w4 bv:=o7 _ _ (r'.upd l2);have t8:∀p q,p<rows.length->q<rows.length->(nth bl p=nth bl q↔Alike (nxD rows) (nth a') p q):=h6;obtain⟨cl,e0⟩:∃cl,cl=nth bl:=⟨_,rfl⟩
 have b0:w4.cell? (adr bv 1 0)=some (nI ((cl 0:Nat):Int)):=by have:=e4.cell (i:=0) (j:=0) zo rfl;rw[ao]at this;rw[e0];exact this
 refine zg ?_;refine bq (fun k:Int=>nI k) (fun v:Int=>nI v) u3 3 zd rfl ?_
 intro r w5 O5 s1 p1 u2;have h4:=e4.upd o8 p1;have u':w5.cell? (adr bv 1 0)=some (nI ((cl 0:Nat):Int)):=by have:=h4.cell (i:=0) (j:=0) zo rfl;rw[ao]at this;rw[e0];exact this
 refine zg ?_;refine zv (ah h4.sh ln (qy _) rfl rfl 0 rfl zo) ?_
 refine zv (RV.ld u' rfl) ?_;refine WL.insert s1 J2 qp zd ((cl 0:Nat):Int) (0:Int) rfl rfl rfl rfl rfl ?_
 intro w6 s0 p0;have e5:=p1.trans p0;have o4:=g7.upd e5 zd zd;have o5:=h3.upd e5 zd zd;have u1:=u2.upd p0;refine zg ?_;refine bS kU (enc:=aX) u1 4 zd (0:Nat) rfl rfl rfl zd rfl ?_;intro s5 w7 O7 k3 o' u0;refine zg ?_;refine ax u0 5 zo (CZ _) rfl ?_;intro ob w8 O8 g4 m4 p5 v6;have b9:rm (fun q=>3<=q) O2 w4 O8 w8:=((e5.mono (fun _ h=>by omega) zd).trans (o'.mono (fun _ h=>by omega) zd)).trans (m4.mono (fun _ h=>by omega) zd);have l5:=(o'.mono (S':=fun q=>q=4\/q=5) (fun _ h=>.inl h) zd).trans (m4.mono (fun _ h=>.inr h) zd);have p9:=s0.upd l5 zd zd;have f':=k3.upd m4 zd zd;have b4:=p3.trans (b9.mono (fun _ h=>by omega) zd);have o6:=e4.upd o8 b9;have h5:=o8.upd b9;have d':=g7.upd b9 zd zd;have h0:=h3.upd b9 zd zd;obtain⟨f7,r8⟩:∃f:Nat->Nat,f=fun t=>if t<=7 then t else 0:=⟨_,rfl⟩
 have f7i:∀t,t<=7->f7 t=t:=fun t ht=>by rw[r8];exact if_pos ht
 have f7l:∀t,f7 t<=7:=fun t=>by rw[r8];dsimp only;split<;>omega
 replace p9:=p9.re f7 (f7i 3 zd);replace f':=f'.re f7 (f7i 4 zd);replace g4:=g4.re f7 (f7i 5 zd);replace d':=d'.re f7 (f7i 1 zd);replace h0:=h0.re f7 (f7i 2 zd);replace p5:=p5.re f7 (f7i 0 zd);replace b4:=b4.re f7 (f7i 0 zd) (fun b hb=>absurd rfl hb);replace h5:=h5.re f7 (f7i 0 zd);have u5:∀b,reF f7 O8 b<=7:=fun b=>f7l _
 generalize reF f7 O8=O8' at *;clear e4 h4 g9 g8 l1 l0 k' h3 g7 s1 s0 k3 l5 o' m4 e5 p1 p0 b9 o4 o5;refine zg ?_;refine zlp (fun z:Nat×(Nat->Nat)×World×List (Int×Int)×List Nat×ix×ix×ix×List ix×List (List Nat)×List Nat=>[(1,nP db),(2,nP cb),(3,bv),(4,.map (some r)),(5,z.2.2.2.2.2.1),(6,nP ob),(7,nI z.1)]) (fun z=>z.2.2.1) (fun z=>rm (fun q=>3<=q) O8' w8 z.2.1 z.2.2.1/\GT w.heap.size z.2.1 z.2.2.1/\zf (fun k:Int=>nI k) (fun v:Int=>nI v) z.2.1 z.2.2.1 3 r z.2.2.2.1/\NumI cl z.2.2.2.1 z.2.2.2.2.1/\uY aX 3 1 z.2.1 z.2.2.1 4 z.2.2.2.2.2.1 z.2.2.2.2.1/\CY z.2.1 z.2.2.1 5 ob #[z.2.2.2.2.2.2.1,z.2.2.2.2.2.2.2.1] 86/\RwO z.2.1 z.2.2.1 6 z.2.2.2.2.2.2.1 z.2.2.2.2.2.2.2.2.1 z.2.2.2.2.2.2.2.2.2.1/\uY jb 28 1 z.2.1 z.2.2.1 7 z.2.2.2.2.2.2.2.1 z.2.2.2.2.2.2.2.2.2.2/\LI cl (nxD rows) (nth a') rows.length z.1 z.2.2.2.2.1 z.2.2.2.2.2.2.2.2.2.1 z.2.2.2.2.2.2.2.2.2.2/\fS cl (nxD rows) (nth a') (rows.length+1-z.1) z.1 z.2.2.2.2.1 z.2.2.2.2.2.2.2.2.2.1 z.2.2.2.2.2.2.2.2.2.2=aU cl rows a'/\(∀k,k<z.2.2.2.2.2.2.2.2.2.1.length->NewV w.heap.size (nth z.2.2.2.2.2.2.2.2.1 k))) (fun z=>rows.length-z.1) (0,O8',w8,cJ [] ((cl 0:Nat):Int) (0:Int),[0],s5,nS,nS,[],[],[]) (⟨GZ zd _ _,p5,p9,Ah cl,f',g4,⟨xK _ _ _ _ _ _,rfl,fun k hk=>absurd hk (oD k)⟩,xK _ _ _ _ _ _,nt n4,rfl,fun k hk=>absurd hk (oD k)⟩) ?_;rintro⟨i,O9,w9,D,F,j1,i8,f6,i7,a7,j0⟩ ⟨h',m5,m6,l7,b7,g0,c7,d8,f5,i',g5⟩
 dsimp only at h' m5 m6 l7 b7 g0 c7 d8 f5 i' g5 ⊢;have v5:=f5.reps.len;have t1:=b7.sl.len_le;have v2:=f5.rl;have s8:=f5.tln;have n3:=c7.len;refine zg ?_;refine zvG (aM b7.sl.sh ln rfl) ?_;refine zC ?_ ?_
 ·intro g6;replace g6:i<F.length:=by have:=of_decide_eq_true g6;omega
  obtain⟨fu,o3⟩:∃fu,rows.length+1-i=fu+1:=⟨rows.length-i,by omega⟩
  rw[o3,fS,if_pos g6]at i';have n':rows.length+1-(i+1)=fu:=by omega
  have p7:=f5.next g6 n6;obtain⟨p,hp⟩:∃p,p=nth F i:=⟨_,rfl⟩
  have l8:p<rows.length:=by rw[hp];exact f5.reps.lt _ (aO g6)
  rw[<-hp]at i' p7;have h9:=b4.trans (h'.mono (fun _ h=>by omega) zd);have j3:=m'.upd n1 h9;obtain⟨r7,k7⟩:=n0 p l8;have t3:=r7.upd k7 h9;obtain⟨s4,v0⟩:=hr.row p l8;have m1:w9.cell? (adr j1 1 i)=some (nI (p:Int)):=by have:=b7.sl.cell (i:=i) (j:=0) g6 rfl;rw[ao]at this;rw[hp];exact this
  have m2:w9.cell? (nA db 0)=some nv:=(d'.upd h' zd zd).cell 0 rfl;have m3:w9.cell? (adr nv 1 p)=some (nth vs p):=by have:=j3.cell (i:=p) (j:=0) zo rfl;rwa[ao]at this
  refine zg ?_;refine Kx zk zk ?_
  refine zg ?_;refine zwG (RV.ld m2 rfl) ?_
  refine zw (ah b7.sl.sh ln (qy _) rfl rfl i rfl zo) ?_;refine zw (RV.ld m1 rfl) ?_
  refine zw (ah j3.sh ri (Fo _) rfl rfl p rfl zo) ?_;refine zw (RV.ld m3 rfl) ?_
  refine zwG (aM t3.sh ln rfl) ?_;refine WS.nil ?_
  refine zg ?_;rw[s4];have n9:=fun m=>qZ (p:=p) f5.reps (fun m hm=>n6 p m l8 hm) m
  refine zlp (fun y:Nat×(Nat->Nat)×World×List (Int×Int)×Value×ix=>[(1,nP db),(2,nP cb),(3,bv),(4,.map (some r)),(5,y.2.2.2.2.1),(6,nP ob),(7,nI (i:Nat)),(8,y.2.2.2.2.2),(38,nth vs p),(39,nI (37:Nat)),(40,nI y.1)]) (fun y=>y.2.2.1) (fun y=>y.1<=37/\rm (fun q=>q=3\/q=4\/q=8) O9 w9 y.2.1 y.2.2.1/\GT w.heap.size y.2.1 y.2.2.1/\zf (fun k:Int=>nI k) (fun v:Int=>nI v) y.2.1 y.2.2.1 3 r y.2.2.2.1/\NumI cl y.2.2.2.1 (ju cl (nxD rows) p F y.1).1/\uY aX 3 1 y.2.1 y.2.2.1 4 y.2.2.2.2.1 (ju cl (nxD rows) p F y.1).1/\uY aX 3 1 y.2.1 y.2.2.1 8 y.2.2.2.2.2 (ju cl (nxD rows) p F y.1).2) (fun y=>37-y.1) (0,O9,w9.drew,D,j1,nS) (⟨ps _,aa zd O9 (sP w9).drew,m5.drew,⟨m6.blk,m6.tag,m6.born⟩,l7,b7.drew,xK _ _ _ _ _ _⟩) ?_;rintro⟨j,O10,m7,D10,b6,rv⟩ ⟨hj,a9,b',b1,c5,a2,a0⟩;dsimp only at hj a9 b' b1 c5 a2 a0 ⊢;have l9:=n9 j hj;have n8:=l9.len;have n7:=l9.reps.len;have l3:=h9.trans (a9.mono (fun _ h=>by omega) zd);refine zg ?_
  refine zC ?_ ?_
  ·intro k6;replace k6:j<37:=by have:=of_decide_eq_true k6;omega
   have k8:=r7.upd k7 l3;obtain⟨to,n2⟩:∃to,to=nxD rows p j:=⟨_,rfl⟩
   have s6:to<rows.length:=by rw[n2];exact n6 p j l8 k6
   have d5:=o6.upd h5 ((h'.trans (a9.mono (fun _ h=>by omega) zd)));have k1:m7.cell? (adr (nth vs p) 1 j)=some (nI (to:Int)):=by have:=k8.cell (i:=j) (j:=0) zo rfl;rw[ao]at this;rw[n2];exact this
   have k2:m7.cell? (adr bv 1 to)=some (nI ((cl to:Nat):Int)):=by have:=d5.cell (i:=to) (j:=0) zo rfl;rw[ao]at this;rw[e0];exact this
   have l':=c5 to;have e1:ju cl (nxD rows) p F (j+1)=(fnF cl (ju cl (nxD rows) p F j).1 to,(ju cl (nxD rows) p F j).2++[fnI cl (ju cl (nxD rows) p F j).1 to]):=by rw[n2];rfl
   refine zg ?_;refine zv (ah k8.sh ln (qy _) rfl rfl j rfl zo) ?_
   refine zvG (RV.ld k1 rfl) ?_;refine zv (ah d5.sh ln (qy _) rfl rfl to rfl zo) ?_
   refine zv (RV.ld k2 rfl) ?_
   cases h7:yq cl (ju cl (nxD rows) p F j).1 to with
   |some k=>
    rw[h7]at l';have h1:fnF cl (ju cl (nxD rows) p F j).1 to=(ju cl (nxD rows) p F j).1:=by unfold fnF;rw[h7];rfl
    have h2:fnI cl (ju cl (nxD rows) p F j).1 to=k:=by unfold fnI;rw[h7];rfl
    rw[h1,h2]at e1;refine zvG (cS (u:=.tuple #[nI (k:Int),.bool true]) b1 J2 qp (Dc _) ((cl to:Nat):Int) rfl rfl rfl (by rw[l'];rfl)) ?_;refine zFG rfl rfl ?_;refine Ib kU a0 b' ((k:Nat)) (fun _=>rfl) rfl rfl rfl (by simp[pc]) zo zo zo zd rfl rfl ?_;intro m8 wz Oz c8 b8 p4;refine zg ?_;refine zvG (zl rfl rfl (uw zo)) ?_;refine zxd (j+1,Oz,wz,D10,b6,m8) (⟨k6,a9.trans (b8.mono (fun _ h=>by omega) zd),p4,b1.upd b8 zd zd,by dsimp only;rw[e1];exact c5,by dsimp only;rw[e1];exact a2.upd b8 zd zd,by dsimp only;rw[e1];exact c8⟩)
   |none=>
    rw[h7]at l';have h1:fnF cl (ju cl (nxD rows) p F j).1 to=(ju cl (nxD rows) p F j).1++[to]:=by unfold fnF;rw[h7];rfl
    have h2:fnI cl (ju cl (nxD rows) p F j).1 to=(ju cl (nxD rows) p F j).1.length:=by unfold fnI;rw[h7];rfl
    rw[h1,h2]at e1;have u6:=c5.add h7;refine zvG (cS (u:=.tuple #[nI 0,.bool false]) b1 J2 qp (Dc _) ((cl to:Nat):Int) rfl rfl rfl (by rw[l'];rfl)) ?_;refine zTG rfl rfl ?_;refine zvG (aM a2.sl.sh ln rfl) ?_;refine zv (ah d5.sh ln (qy _) rfl rfl to rfl zo) ?_;refine zvG (RV.ld k2 rfl) ?_;refine vg b1 J2 qp zd ((cl to:Nat):Int) (((ju cl (nxD rows) p F j).1.length:Nat):Int) rfl rfl rfl rfl rfl ?_;intro i6 p' a5;have i4:=b'.upd a5;have k4:=a2.upd a5 zd zd;have a8:=a0.upd a5 zd zd;refine zg ?_;refine Ib kU k4 i4 ((to:Nat)) (fun _=>rfl) rfl rfl rfl (by simp[pc]) zo zo zo zd rfl rfl ?_;intro m9 d7 O12 a3 b3 i3;have f9:=a8.upd b3 zd zd;have i5:=p'.upd b3 zd zd;refine zg ?_;refine Ib kU f9 i3 (((ju cl (nxD rows) p F j).1.length:Nat)) (fun _=>rfl) rfl rfl rfl (by simp[pc]) zo zo zo zd rfl rfl ?_;intro m8 wz Oz c8 b8 p4;refine zg ?_;refine zvG (zl rfl rfl (uw zo)) ?_;refine zxd (j+1,Oz,wz,cJ D10 ((cl to:Nat):Int) (((ju cl (nxD rows) p F j).1.length:Nat):Int),m9,m8) (⟨k6,((a9.trans (a5.mono (fun _ h=>.inl h) zd)).trans (b3.mono (fun _ h=>.inr (.inl h)) zd)).trans (b8.mono (fun _ h=>.inr (.inr h)) zd),p4,i5.upd b8 zd zd,by dsimp only;rw[e1];exact u6,by dsimp only;rw[e1];exact a3.upd b8 zd zd,by dsimp only;rw[e1];exact c8⟩)
  intro t5;obtain rfl:j=37:=by have:=of_decide_eq_false t5;omega
  generalize v4:ju cl (nxD rows) p F 37=RQ at *;obtain⟨F2,r2⟩:=RQ;dsimp only at l9 n8 n7 c5 a2 a0 i' p7;obtain⟨ra,rc,t0,_⟩:=a0.sl.shape;subst t0
  -- the row is nobody's now
  obtain⟨f,hf⟩:∃f:Nat->Nat,f=FR 8 0:=⟨_,rfl⟩
  have e6:∀t,t≠8->f t=t:=fun t ht=>by rw[hf];exact rG ht
  have f4:=(h'.trans (a9.mono (S':=fun q=>3<=q) (fun _ h=>by omega) zd)).re f (e6 0 zd) (fun b _=>e6 _ (by have:=u5 b;omega));have l6:=b'.re f (e6 0 zd);have s9:=a0.sl;have q':=a0.freeRe zd b' f (by rw[hf];exact A5 _ _);replace a2:=a2.re f (e6 4 zd);replace b1:=b1.re f (e6 3 zd);have e':=(g0.upd a9 zd zd).re f (e6 5 zd);have b5:=(c7.upd a9 zd zd).re f (e6 0 zd) (e6 6 zd);have j7:=(d8.upd a9 zd zd).re f (e6 7 zd);have s':=a0.newV zd b';clear a0;generalize reF f O10=O11 at *;have k9:=d'.upd f4 zd zd;obtain⟨qF,r6⟩:=l9.pre;have n5:nth F2 i=p:=by rw[r6,aA,if_pos g6,hp]
  have hF2l:F.length<=F2.length:=by rw[r6];simp
  have o0:m7.cell? (nA ob 0)=some i8:=e'.cell 0 rfl;refine zg ?_;refine zvG (RV.ld o0 rfl) ?_;refine Ib D9 b5.row l6 ((.slice ra r2.length rc:ix)) (fun _=>rfl) rfl rfl rfl (by simp[pc]) zo zo zo zd rfl rfl ?_;intro b2 i6 O12 a8 a5 i4;have c':=e'.upd a5 zd zd
  have j':RwO O12 i6 6 b2 (i7++[.slice ra r2.length rc]) (a7++[r2]):=⟨a8,by simp[n3],fun k hk=>by
   rw[aA,aA]
   by_cases e:k<a7.length
   ·rw[if_pos zo,if_pos e];exact⟨(b5.at_ k e).1.upd (b5.at_ k e).2 a5,(b5.at_ k e).2.upd a5⟩
   have t4:k=a7.length:=by simp at hk;omega
   subst t4;rw[if_neg zo,if_neg e,show a7.length-i7.length=0 from by omega,Gb,ar,ar]
   exact⟨s9.upd q' a5,q'.upd a5⟩⟩
  refine zg ?_;refine ak (j:=0) c' rfl (Ju _) a8.one rfl rfl rfl ?_
  have b3:rm (fun j=>j=5) O12 i6 O12 (i6.setCell ⟨ob,0,none⟩ b2):=CR zd c'.tag rfl;have e9:CY O12 (i6.setCell ⟨ob,0,none⟩ b2) 5 ob #[b2,f6] 86:=c'.set 0 _;have j9:=j'.upd b3 zd zd;have i3:=i4.upd b3;generalize i6.setCell ⟨ob,0,none⟩ b2=d7 at *;have a6:=(a5.mono (S':=fun q=>q=5\/q=6) (fun _ h=>.inr h) zd).trans (b3.mono (fun _ h=>.inl h) zd);have j6:=j7.upd a6 zd zd;have a3:=a2.upd a6 zd zd;have i5:=b1.upd a6 zd zd;have d0:=k9.upd a6 zd zd;have d6:=f4.trans (a6.mono (fun _ h=>by omega) zd);have j5:=i9.upd f8 (b4.trans (d6.mono (fun _ h=>by omega) zd));refine zg ?_;have d1:d7.drew.cell? (nA db 1)=some tv:=d0.cell 1 rfl;have d2:d7.drew.cell? (adr b6 1 i)=some (nI (p:Int)):=by have:=a3.sl.cell (i:=i) (j:=0) zo rfl;rw[ao,n5]at this;exact this
  have d3:d7.drew.cell? (adr tv 1 p)=some (.int .u64 ((nth a' p:Nat):Int)):=by have:=j5.cell (i:=p) (j:=0) zo rfl;rwa[ao]at this
  have d4:d7.drew.cell? (nA ob 1)=some f6:=e9.cell 1 rfl;have o9:rm (fun _=>False) O12 d7 O12 d7.drew:=aa (fun h=>h) O12 (sP d7).drew;refine aI (fun W=>W.cell? (nA db 1)=some tv/\W.cell? (adr b6 1 i)=some (nI (p:Int))/\W.cell? (adr tv 1 p)=some (.int .u64 ((nth a' p:Nat):Int))) 14 rfl zk ?_;refine zin ⟨d1,d2,d3⟩ fun zS=>?_
  refine zrf 0 rfl zS rfl ?_;refine zrf 2 rfl zS rfl ?_
  refine zt 3 rfl zS (fun w1 j2=>RV.ld j2.1 rfl) ?_;refine zrm 4 rfl zS rfl ?_
  refine zrm 5 rfl zS rfl ?_;refine zr 6 rfl zS (fun _=>ah a3.sl.sh ln (qy _) rfl rfl i rfl zo) ?_
  refine zt 7 rfl zS (fun w1 j2=>RV.ld j2.2.1 rfl) ?_;refine zr 8 rfl zS (fun _=>ah j5.sh GY (sizeOf28 _) rfl rfl p rfl zo) ?_
  refine zt 9 rfl zS (fun w1 j2=>RV.ld j2.2.2 rfl) ?_;refine bZ 1 10 mS (enc:=jb) (nth a' p) rfl rfl zk zk zk zk (fun W hE=>JC (hE.cell d4) (Kp _) rfl) (fun W hE=>⟨hE.cell d1,hE.cell d2,hE.cell d3⟩) rfl rfl rfl zd rfl rfl rfl rfl rfl ?_
  intro s3 s2 j8 p8;have h8:rm (fun _=>False) O12 d7 O12 s2:=o9.trans (aa (fun h=>h) O12 p8);refine qN 11 zk rfl ?_;refine aC mS (j6.upd h8 zd (fun h=>h)) (i3.upd h8) j8 (by simp) rfl rfl (by simp) (by simp[pc]) (by rw[pR];omega) (by rw[pR];omega) zd rfl ?_;intro c6 e7 O15 e8 p2 p6;have a4:rm (fun q=>q=7) O12 d7 O15 e7:=(h8.mono (fun _ h=>h.elim) zd).trans p2;have c9:=e9.upd a4 zd zd;have l4:=d6.trans (a4.mono (fun _ h=>by omega) zd);have e1:e7.cell? (nA db 1)=some tv:=(d0.upd a4 zd zd).cell 1 rfl;have e2:e7.cell? (adr b6 1 i)=some (nI (p:Int)):=by have:=(a3.upd a4 zd zd).sl.cell (i:=i) (j:=0) zo rfl;rw[ao,n5]at this;exact this
  have e3:e7.cell? (adr tv 1 p)=some (.int .u64 ((nth a' p:Nat):Int)):=by have:=(i9.upd f8 (b4.trans (l4.mono (fun _ h=>by omega) zd))).cell (i:=p) (j:=0) zo rfl;rwa[ao]at this
  refine zg ?_;refine af (⟨e1,e2,e3⟩) ?_
  refine zrf 12 rfl (⟨e1,e2,e3⟩) rfl ?_;refine qN 13 zk rfl ?_
  refine ak (j:=1) c9 rfl (Jv _) e8.one rfl rfl rfl ?_;have i0:rm (fun j=>j=5) O15 e7 O15 (e7.setCell ⟨ob,1,none⟩ c6):=CR zd c9.tag rfl;have k5:CY O15 (e7.setCell ⟨ob,1,none⟩ c6) 5 ob #[b2,c6] 86:=c9.set 1 _;generalize e7.setCell ⟨ob,1,none⟩ c6=w16 at *;have a1:=(a4.mono (S':=fun q=>q=5\/q=7) (fun _ h=>.inr h) zd).trans (i0.mono (fun _ h=>.inl h) zd);have f3:=d6.trans (a1.mono (fun _ h=>by omega) zd);have g1:w16.cell? (nA db 1)=some tv:=(d0.upd a1 zd zd).cell 1 rfl;have g2:w16.cell? (adr b6 1 i)=some (nI (p:Int)):=by have:=(a3.upd a1 zd zd).sl.cell (i:=i) (j:=0) zo rfl;rw[ao,n5]at this;exact this
  have g3:w16.cell? (adr tv 1 p)=some (.int .u64 ((nth a' p:Nat):Int)):=by have:=(i9.upd f8 (b4.trans (f3.mono (fun _ h=>by omega) zd))).cell (i:=p) (j:=0) zo rfl;rwa[ao]at this
  refine zg ?_;refine af (⟨g1,g2,g3⟩) ?_
  refine BG zk ?_;refine zg ?_
  refine zvG (zl rfl rfl (uw zo)) ?_;refine zxd (i+1,O15,w16,D10,F2,b6,b2,c6,i7++[.slice ra r2.length rc],a7++[r2],j0++[nth a' p]) (⟨f3,p6.upd i0,i5.upd a1 zd zd,c5,a3.upd a1 zd zd,k5,j9.upd a1 zd zd,e8.upd i0 zd zd,p7,by dsimp only;rw[n'];exact i',fun k hk=>?_⟩)
  dsimp only at hk ⊢;rw[aA]
  by_cases e:k<i7.length
  ·rw[if_pos e];exact g5 k zo
  rw[if_neg e,show k-i7.length=0 from by simp at hk;omega,ar];exact s'
 intro t6;have t2:=f5.le;obtain rfl:i=F.length:=by have:=of_decide_eq_false t6;omega
 have k0:aU cl rows a'=(a7,j0):=by
  rw[<-i'];obtain⟨fu,o3⟩:∃fu,rows.length+1-F.length=fu+1:=⟨rows.length-F.length,by omega⟩
  rw[o3,fS,if_neg zo]
 have o1:=c7.row.one;have o2:=d8.one;have g':=h0.upd h' zd zd;refine zg ?_;refine zv (ai (us:=[i8,f6]) g0.cellsAdd (DN _) (uV _) rfl) ?_;refine zsb (us:=#[i8,f6]) g' (uV _) (by simp only[yJ,o1,o2];rfl) ?_;have t7:=g'.setRow (us:=#[i8,f6]);have b8:rm (fun j=>j=2) O9 w9 O9 (w9.setRow cb #[i8,f6]):=tp zd g'.tag rfl;have d9:=c7.upd b8 zd zd;have j4:=d8.upd b8 zd zd;refine zg ?_;refine aN rfl rfl (t7.cellsAdd) (DN _) (uV _) (⟨cl,i8,f6,rfl,o1,o2,((b4.trans (h'.mono (fun _ h=>by omega) zd)).trans (b8.mono (fun _ h=>by omega) zd)).ext,by rw[e0];exact t8,by rw[k0];exact⟨i7,d9.row.sl,d9.row.newV zd (m5.upd b8),d9.len,fun k hk=>⟨(d9.at_ k hk).1,g5 k hk⟩⟩,by rw[k0];exact j4.sl,j4.newV zd (m5.upd b8)⟩)
end Go.Proofs.YtlehnbkknlpkbaaGreatDoor
end
