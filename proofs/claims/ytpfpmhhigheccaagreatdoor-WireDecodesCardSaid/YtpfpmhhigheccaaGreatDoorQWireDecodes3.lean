/- Texts that the proof of this statement needs, merged and shortened. -/
import Derived.Test.YtpfpmhhigheccaaGreatDoorQWireDecodes2
open Go renaming Value->ix,World->ln,TypeId->IC,Program->IW,Oper->Jw,Operand->JE,Exit->JO,FuncId->K6
open Go.Proofs.Tryz renaming underlying25->G0,sizeOf3->Gx,underlying160->Gz,underlying89->GG,sizeOf91->GL,prog->GY,zeroValue202->GZ,sizeOf202->I0,underlying202->I8,zeroValue91->Ic,zeroValue25->Ie,zeroValue3->Ig,sizeOf86->Ik,isAgg91->Im,underlying198->It,underlying177->IL,underlying114->IM,sizeOf25->IU,isAgg86->IV,sizeOf170->IY,sizeOf28->J3,isAgg202->J4,underlying226->Jb,underlying172->Jc,underlying162->Jd,underlying22->Jj,zeroValue86->Jr,underlying5->Js,underlying3->Jt,sizeOf89->Ju,call91->JL,underlying28->JT,isAgg28->JU,underlying9->JW,call84->K1
open Nat renaming not_lt_zero->G1,zero_le->G7,le_refl->G9,eq_of_beq_eq_true->GK,beq->Ip,sub_self->Iu,le_trans->IJ,blt->IX,beq_refl->J5,le_zero->Jf,or_lt_two_pow->Jp
open List renaming mem_singleton->G2,length_singleton->G8,length_set->Gt,mem_cons->Gv,mem_append->Gw,take_length->Gy,replicate->GA,append_nil->GC,mem_cons_of_mem->GF,map_cons->GH,mem_range->GI,length_cons->GO,length_append->GP,map_append->GR,all_cons->GS,mem_append_right->GT,mem_append_left->GW,mem_filter->I1,range->I2,mem_cons_self->I3,findIdx?_cons->I4,filter_append->I5,findIdx?_eq_some_iff_getElem->I7,append_assoc->Ia,flatMap_append->Ih,filter_sublist->Ii,all_nil->Ij,getElem?_eq_some_iff->Il,flatMap_cons->Io,filter_cons->Iq,mem_map->Is,length_filter_le->Iz,foldl_append->II,nodup_range->IN,range_succ->IQ,nodup_cons->IR,length_nil->IS,findIdx?_eq_none_iff->IZ,length_replicate->J6,mem_of_mem_take->J9,findIdx?_append->Ja,replicate_succ->Jg,take_sublist->Jl,nodup_append->Jm,filter_congr->Jn,flatMap_nil->Jq,foldl_cons->Jy,take_zero->Jz,nodup_nil->JA,findIdx?->JB,map_map->JF
open Go.VL.WC renaming region->G4,seq->Gq,block->Ir,skip->Iw,exit->Jv,tail->JI,still->JY
open Go.VL.WL renaming nil->G5,mapUpdate->GM,storeAt->Iv,push->IE
open Go.Value renaming oneCell'->G6,bool->GD,string->J1
open Go.VL.WH renaming one->Gn,done->I6
open Go.VL.Ret renaming enter->Gp
open Go.VL.RV renaming move->Gs,assign->GU,lookup->I9,indexAddr->Iy,load->J7,add->J8,lss->Jo,entry->K0
open Go.VL renaming Upd->Gu,RowT->GN,MapO->GX,BlkO->If,Rng->ID,lowT->IF,Free->IG,Ext->IT,Ret->J2,Elem->JP,RangeO->K2
open Go.VL.Ext renaming refl->GB
open Go.VL.Upd renaming setRow->GE,set->Ib,refl->IB
open Go.Region renaming ready->GJ
open Go.VL.RowT renaming nil->GQ,sl->JV
open Classical renaming byContradiction->GV
open UInt8 renaming ofNat->IA
open Prod.mk renaming inj->IH
open Go.VL.Fit renaming i64->IK
open Bool renaming and_eq_true->IP,and_true->JC
open Go.World renaming block_lt_of_cell?->J0,cell?->JD
open Go.Result renaming andThen_ok->Je
open Option renaming getD_some->Jh,bind_some->Ji,map_some->Jk
open Go.Sem renaming run_bind->JG
open List.Pairwise renaming imp_of_mem->JH
open List.Sublist renaming append_left->JJ
open Int renaming le_refl->JK
open Option.some renaming injEq->JM,inj->JN
open Go.VL.BlkO renaming cell->JQ,upd->JS
open Go.VL.MapO renaming upd->JR
open Go.VL.WS renaming go->JX
open Go.VL.Rng renaming upd->JZ
open Go.IntKind renaming wrap_u8->K4,u8->K5
set_option maxRecDepth 10000
open Go.VL Go.Proofs Go.Proofs.Tryz
namespace Go.Proofs.YtpfpmhhigheccaaGreatDoor
theorem gF:∀(l:List Nd) (i:Nat),i<l.length->aQ (l.take (i+1))=aQ (l.take i)+cO (nth l i)
 |[],i,h=>absurd h (G1 i)
 |t::r,0,_=>by rw[au];simp[aQ]
 |t::r,i+1,h=>by
  have:=gF r i (by simpa using h);rw[bp];simp only[List.take_succ_cons,aQ];omega
mutual
theorem kE:∀(t:Nd),cO t<=nsz t
 |.mk k c l=>by
  have:=il l
  simp only[cO,nsz]
  split<;>omega
theorem il:∀(l:List Nd),aQ l<=dZ l
 |[]=>by simp[aQ]
 |t::r=>by
  have h1:=kE t
  have h2:=il r
  simp only[aQ,dZ]
  omega
end
theorem oo:∀(n:Nat),n<=1000000->∀(t:Nd),nsz t<=n->∀(x:N3) (w:ln),Nt (fun _=>0) w t x->J2 GY 83 [nv x] w fun v w'=>v=nI ((cO t:Nat):Int)/\IT w w'
 |0,_,t,hn=>by have:=dX t;omega
 |n+1,hn6,.mk k c l,hn=>by
  intro x w h;have ih:=oo n zo;have b5:=h.ones;obtain⟨ys,b3,hf,a7,a4⟩:=h.kids;simp only[Nd.kids]at a7 a4;simp only[nsz]at hn;generalize x.2.2=sv at *;subst b5;simp only[Nd.kind,Nd.cls];have d1:=ij l;have d2:=il l;refine Gp func83 ntmps83 rfl rfl ?_;refine zh ?_;refine aG (aw w) 1 zo rfl rfl ?_;intro xb w1 O1 b0 d4 d6 a';have c0:w1.cell? (nA xb 0)=some (nI k):=b0.cell 0 rfl;have c2:w1.cell? (nA xb 2)=some sv:=b0.cell 2 rfl;have a6:=b3.ext a';have a2:=a';clear a';refine zh ?_
  by_cases hl:l=[]
  ·subst hl;have b4:ys.length=0:=a7.symm;refine ao (d:=10) rfl (b':=true) ((by rw[b4];rfl)) ?_;refine zh ?_
   by_cases h9:k=9
   ·subst h9;have a0:cO (.mk 9 c [])=aQ []:=by rw[cO,if_neg (by rintro⟨_,e⟩;exact e rfl)]
    refine zFH rfl rfl ?_;refine zlp (fun z:Nat×ln=>[(3,nI ((aQ (([]:List Nd).take z.1):Nat):Int)),(16,sv),(17,nI ys.length),(18,nI z.1)]) (fun z=>z.2) (fun z=>z.1<=([]:List Nd).length/\IT w1 z.2) (fun z=>([]:List Nd).length-z.1) (0,w1) (⟨G7 _,GB _⟩) ?_
    rintro⟨q,w2⟩ ⟨hq,a1⟩;dsimp only at hq a1 ⊢;have a5:=a6.ext a1;have b6:q=0:=by simpa using hq
    refine zh ?_;refine zC ?_ ?_
    ·intro a3;exact absurd (of_decide_eq_true a3) zo
    intro b1;subst b6;refine zh ?_;refine ae rfl rfl (⟨by rw[a0,List.take_nil],a2.trans a1⟩)
   have a0:cO (.mk k c [])=1:=by rw[cO,if_pos ⟨rfl,h9⟩]
   rw[a0];refine zTH rfl ((by simpa using h9)) ?_;refine ae rfl rfl (⟨rfl,a2⟩)
  have a0:cO (.mk k c l)=aQ l:=by rw[cO,if_neg (by rintro⟨e,_⟩;exact hl (by simpa using e))]
  have b7:=List.length_pos_iff.2 hl;refine ao (d:=10) rfl (b':=false) ((by rw[beq_eq_false_iff_ne];omega)) ?_;refine zh ?_;refine zFH rfl rfl ?_;refine zlp (fun z:Nat×ln=>[(3,nI ((aQ (l.take z.1):Nat):Int)),(16,sv),(17,nI ys.length),(18,nI z.1)]) (fun z=>z.2) (fun z=>z.1<=l.length/\IT w1 z.2) (fun z=>l.length-z.1) (0,w1) (⟨G7 _,GB _⟩) ?_;rintro⟨q,w2⟩ ⟨hq,a1⟩;dsimp only at hq a1 ⊢;have a5:=a6.ext a1;have c9:=cH l q;refine zh ?_;refine zC ?_ ?_
  ·intro a3;replace a3:q<l.length:=dT a3;have a8:=(a4 q zo).ext (a2.trans a1);have c5:=a8.one;have d0:=cB l q a3;have d3:=kE (nth l q);have b9:=il (l.take q);have c':=dY l q a3;have b8:=cH l (q+1);refine zh ?_;refine zv (ah (us:=bn (nth ys q)) (fun j u hu=>a5.cell zo hu) (IV _) (Ik _) rfl) ?_;refine ar (aw w2) 1 zo (Jr _) rfl ?_;intro yb w3 O3 a9 c7 d5 d7;refine zsb (us:=#[nI (nth ys q).1,nI (nth ys q).2.1,(nth ys q).2.2]) a9 (Ik _) (bR c5) ?_;have b2:IT w2 (w3.setRow yb #[nI (nth ys q).1,nI (nth ys q).2.1,(nth ys q).2.2]):=(c7.trans (GE zd a9.tag rfl)).ext;have c6:=a9.setRow (us:=#[nI (nth ys q).1,nI (nth ys q).2.1,(nth ys q).2.2]);generalize w3.setRow yb #[nI (nth ys q).1,nI (nth ys q).2.1,(nth ys q).2.2]=w4 at *;refine zh ?_;refine zv (ah (us:=bn (nth ys q)) c6.cellsAdd (IV _) (Ik _) rfl) ?_;refine zc call83 (ih (nth l q) zo (nth ys q) w4 (a8.ext b2)) ?_;rintro v w5 ⟨rfl,c8⟩;refine zh ?_;rw[show((aQ (l.take q):Nat):Int)+((cO (nth l q):Nat):Int)=((aQ (l.take (q+1)):Nat):Int)from by rw[gF l q a3];simp];refine zxd (q+1,w5) (⟨a3,(a1.trans b2).trans c8⟩)
  intro b1;obtain rfl:q=l.length:=dF b1;rw[Gy];refine zh ?_;refine ae rfl rfl (⟨by rw[a0],a2.trans a1⟩)
theorem xS(k c m:Int)(b:Nat)(w:ln):J2 GY 145 [.agg #[nI k,nI c,nI (b:Nat)],nI m] w fun v w'=>v=.bool (cQ k c m)/\IT w w':=by
 refine Gp func145 ntmps145 rfl rfl ?_;refine zh ?_
 refine aG (aw w) 1 zo rfl rfl ?_;intro xb w1 O1 a4 a5 a6 a3;have c0:w1.cell? (nA xb 0)=some (nI k):=a4.cell 0 rfl;have c1:w1.cell? (nA xb 1)=some (nI c):=a4.cell 1 rfl;obtain⟨cl,a0⟩:∃cl,cl=(decide (0<=m)&&decide (m<36)):=⟨_,rfl⟩
 refine zh ?_;refine bx (fun W=>W=w1) (decide (m<36)) 2 (rfl) rfl rfl rfl rfl rfl ?_ ?_
 ·intro a1;refine zh ?_;refine nE 8 3 (rfl) a1
 rintro w9 rfl;rw[<-a0];refine zh ?_
 by_cases h0:k=0
 ·have hM:cQ k c m=(cl&&(m==c)):=by unfold cQ;rw[if_pos h0,a0]
  rw[hM];refine zTH rfl ((by simpa using h0)) ?_;refine bx (fun W=>W=w9) ((m==c)) 4 (rfl) rfl rfl rfl rfl rfl ?_ ?_
  ·intro a2;refine zh ?_;refine nE 17 5 (rfl) a2
  rintro w8 rfl;refine zh ?_;refine ae rfl rfl (⟨rfl,a3⟩)
 refine zFH rfl ((by simpa using h0)) ?_
 by_cases h1:k=1
 ·have hM:cQ k c m=cl:=by unfold cQ;rw[if_neg h0,if_pos h1,a0]
  rw[hM];refine zTH rfl ((by simpa using h1)) ?_;refine ae rfl rfl (⟨rfl,a3⟩)
 refine zFH rfl ((by simpa using h1)) ?_
 by_cases h2:k=2
 ·have hM:cQ k c m=(cl&&(m != c)):=by unfold cQ;rw[if_neg h0,if_neg h1,if_pos h2,a0]
  rw[hM];refine zTH rfl ((by simpa using h2)) ?_;refine bx (fun W=>W=w9) ((m != c)) 4 (rfl) rfl rfl rfl rfl rfl ?_ ?_
  ·intro a2;refine zh ?_;refine nE 29 5 (rfl) a2
  rintro w8 rfl;refine zh ?_;refine ae rfl rfl (⟨rfl,a3⟩)
 have hM:cQ k c m=(m==36):=by unfold cQ;rw[if_neg h0,if_neg h1,if_neg h2]
 rw[hM];refine zFH rfl ((by simpa using h2)) ?_;refine ae rfl rfl (⟨rfl,a3⟩)
structure NfD(w:ln)(nb:Nat)(se:Bool)(g:Gr):Prop where
 ex:∃nr tr lv kv xs l1 l2,NfR w nb se g (.map (some nr)) (.map (some tr)) lv kv xs/\GX kvI id (fun _=>0) w 0 nr l1/\GX kvI tvU (fun _=>0) w 0 tr l2/\
  (∀p:Nat,p<=g.ls.length->∃v,bf l1 (p:Int)=some v/\Sl aJ 1 w v (cn g p))/\∀p:Nat,p<=g.ls.length->bf l2 (p:Int)=some (nh g p)
theorem mV{κ ν:Type}{kv:κ->ix}{vv:ν->ix}{w w':ln}{r:Nat}{l:List (κ×ν)}(h:GX kv vv (fun _=>0) w 0 r l)(e:IT w w'):GX kv vv (fun _=>0) w' 0 r l:=by
 obtain⟨es,c,h1,h2⟩:=h.blk;have e1:=e.block r (bm h1);exact⟨⟨es,c,by rw[e1];exact h1,h2⟩,rfl,fun a0 c' h'=>h.born a0 c' (by rw[<-e1];exact h')⟩
theorem NfD.ext{w w':ln}{nb:Nat}{se:Bool}{g:Gr}(h:NfD w nb se g)(e:IT w w'):NfD w' nb se g:=by
 obtain⟨nr,tr,lv,kv,xs,l1,l2,h1,h2,h3,h4,h5⟩:=h.ex;exact⟨nr,tr,lv,kv,xs,l1,l2,h1.ext e,mV h2 e,mV h3 e,fun p hp=>by obtain⟨v,a,b⟩:=h4 p hp;exact⟨v,a,b.ext e⟩,h5⟩
theorem zZ(w:ln)(nb:Nat):J2 GY 89 [nP nb] w fun v w'=>Sl encI 1 w' v [0]/\IT w w'/\∀(B:Nat) (O:Nat->Nat),ID B O w->IG O w' v:=by
 refine Gp func89 ntmps89 rfl rfl ?_;refine zh ?_
 refine zvH (kQ (q:=some ⟨nb,0,none⟩) IM rfl rfl) ?_;refine zFH rfl rfl ?_
 refine bB jj (enc:=encI) (aw w) 1 zd (0:Int) rfl rfl rfl zd rfl ?_;intro v0 w0 O0 a0 a1 a2;refine zh ?_
 refine ae rfl rfl (⟨a0.sl,a1.ext,fun B O hR=>a0.free zd a2 hR⟩)
def qu(g:Gr)(m:Int)(l:List Nat):List Int:=(l.filter fun j=>cQ (nth g.ls (j-1)).1 (nth g.ls (j-1)).2.1 m).map fun(j:Nat)=>(j:Int)
theorem zJ{g:Gr}{m:Int}{l:List Nat}{j:Nat}(h:j<l.length):qu g m (l.take (j+1))=qu g m (l.take j)++if cQ (nth g.ls (nth l j-1)).1 (nth g.ls (nth l j-1)).2.1 m=true then [((nth l j:Nat):Int)]else []:=by
 unfold qu;rw[aF h,I5,GR,Iq]
 split<;>rfl
theorem Bp(g:Gr)(m:Int)(l:List Nat):(qu g m l).length<=l.length:=by unfold qu;rw[List.length_map];exact Iz _ _
theorem step_ret(w:ln)(nb:Nat)(se:Bool)(g:Gr)(s:List Int)(sv:ix)(m:Int)(h:NfD w nb se g)(hs:Sl encI 1 w sv s)(hw:WF g)(h0:0 < g.ks.length)(ht:Tot g)(hp:inP g s)(hsl:s.length ≤ 1000)(hll:g.ls.length ≤ 999):
  J2 GY 116 [nP nb, sv, nI m] w fun v w' => Sl encI 1 w' v (cG se g s m) ∧ IT w w' ∧ ∀(B:Nat) (O:Nat → Nat), ID B O w → IG O w' v := by
 have hbnd := h
 obtain⟨nr, tr, lv, kv, xs, l1, l2, hr, hm1, hm2, hn1, hn2⟩ := h.ex
 have hraw:∀q, q ≤ s.length → ((if se = true then [(0:Int)]else []) ++ (s.take q).flatMap fun p => qu g m (cn g p.toNat)).length ≤ 1 + q * 999 := fun q hq => by
  have h1 := Cy (se := se) hw h0 ht (m := m) (s := s.take q) fun x hx => hp x (J9 hx)
  have h2:(s.take q).length * g.ls.length ≤ q * 999 := Nat.mul_le_mul (by simp; omega) hll
  exact IJ h1 (by omega)
 refine Gp func116 ntmps116 rfl rfl ?_
 refine Gq ?_
 refine G4 ?_
 refine zv (GU rfl) ?_
 refine G5 ?_
 refine ax ?_
 refine Gq ?_
 refine Gq ?_
 refine G4 ?_
 refine zv (Gs rfl) ?_
 refine zv (kQ (q := some ⟨nb, 0, none⟩) IM rfl rfl) ?_
 refine G5 ?_
 refine ax ?_
 refine aX rfl rfl ?_
 refine Iw ?_
 refine ax ?_
 refine Gq ?_
 refine G4 ?_
 refine zv (GU rfl) ?_
 refine G5 ?_
 refine ax ?_
 refine Gq ?_
 refine Gq ?_
 refine G4 ?_
 refine zv (Gs rfl) ?_
 refine zv (aq rfl) ?_
 refine zv (RV.fa rfl) ?_
 refine zv (RV.ld hr.c0 rfl) ?_
 refine G5 ?_
 refine ax ?_
 refine mS (fun z:ix×(Nat → Nat)×World => [(0, nP nb), (1, sv), (2, nI m), (7, z.1)]) (fun z:ix×(Nat → Nat)×World => z.2.2) (fun z:ix×(Nat → Nat)×World => GN encI 3 1 z.2.1 z.2.2 1 z.1 (if se = true then [0]else []) ∧ Gu (fun q => q = 1) (fun _ => 0) w z.2.1 z.2.2 ∧ ID w.heap.size z.2.1 z.2.2) ?_ ?_
 ·intro hN
  refine zC ?_ ?_
  ·intro hse
   have e0:([]:List Int).length = 0 := rfl
   refine G4 ?_
   refine zv (Gs rfl) ?_
   refine IE jj (GQ encI 3 1 (fun _ => 0) w 1) (aw w) ((0:Int)) (fun _ => rfl) rfl rfl rfl (by simp[G6]) (by omega) (by omega) (by omega) (by decide) rfl rfl ?_
   intro v1 w1 O1 hrow1 hU1 hR1
   refine zv (GU rfl) ?_
   refine G5 ?_
   exact gh (hN ((v1, O1, w1)) (⟨by rw[if_pos hse]; exact hrow1, hU1, hR1⟩)) ⟨rfl, rfl, rfl, rfl, trivial⟩ rfl
  ·intro hse
   refine Iw ?_
   exact gh (hN ((nS, fun _ => 0, w)) (⟨by rw[if_neg (by rw[hse]; decide)]; exact GQ _ _ _ _ _ _, IB (by decide) _ _, aw w⟩)) ⟨rfl, rfl, rfl, rfl, trivial⟩ rfl
 rintro⟨v1, O1, w1⟩ ⟨hrow1, hU1, hR1⟩
 dsimp only at hrow1 hU1 hR1 ⊢
 obtain⟨hd, hhd⟩:∃hd, hd = (if se = true then [(0:Int)]else []) := ⟨_, rfl⟩
 rw[← hhd]at hrow1 hraw
 refine ax ?_
 refine Gq ?_
 refine Gq ?_
 refine G4 ?_
 refine zv (Gs rfl) ?_
 refine zv (bd hs.sh G0 rfl) ?_
 refine zv (Gs rfl) ?_
 refine G5 ?_
 refine ax ?_
 refine Ir ?_
 refine zlp (fun z:Nat×ix×(Nat → Nat)×World => [(0, nP nb), (2, nI m), (7, z.2.1), (21, sv), (22, nI s.length), (23, nI z.1)]) (fun z => z.2.2.2) (fun z => z.1 ≤ s.length ∧ GN encI 3 1 z.2.2.1 z.2.2.2 1 z.2.1 (hd ++ (s.take z.1).flatMap fun p => qu g m (cn g p.toNat)) ∧ Gu (fun q => q = 1) (fun _ => 0) w z.2.2.1 z.2.2.2 ∧ ID w.heap.size z.2.2.1 z.2.2.2) (fun z => s.length - z.1) (0, v1, O1, w1) (⟨G7 _, by simpa using hrow1, hU1, hR1⟩) ?_
 rintro⟨q, v2, O2, w2⟩ ⟨hq, hrow2, hU2, hR2⟩
 dsimp only at hq hrow2 hU2 hR2 ⊢
 have hlen2 := hraw q hq
 refine Gq ?_
 refine G4 ?_
 refine zv (Jo rfl rfl) ?_
 refine G5 ?_
 refine ax ?_
 refine Gq ?_
 refine zC ?_ ?_
 ·intro hlt
  replace hlt:q < s.length := by have := of_decide_eq_true hlt; omega
  have hpq := hp _ (aN hlt)
  obtain⟨pn, hpn⟩:∃pn:Nat, nth s q = (pn:Int) := ⟨(nth s q).toNat, by omega⟩
  have hpl:pn ≤ g.ls.length := by have := hpq.2; rw[hpn]at this; simpa using this
  obtain⟨nv1, hnv1, hsn⟩ := hn1 pn hpl
  have hnl := uI hw ht (tf hw h0 hpl)
  have hs2 := hs.ext hU2.ext
  have hm12 := mV hm1 hU2.ext
  have m2:w2.cell? (adr sv 1 q) = some (nI (nth s q)) := by have := hs2.cell (j := 0) hlt rfl; rwa[az]at this
  rw[hpn]at m2
  have hr2 := hr.ext hU2.ext
  have hsn2 := hsn.ext hU2.ext
  have c3 := hr2.c3
  refine Iw ?_
  refine ax ?_
  refine Gq ?_
  refine Ir ?_
  refine Gq ?_
  refine G4 ?_
  refine zv (Iy (by first | exact hs2) G0 (Gx _) rfl rfl _ rfl (by omega)) ?_
  refine zv (RV.ld m2 rfl) ?_
  refine zv (GU rfl) ?_
  refine G5 ?_
  refine ax ?_
  refine Gq ?_
  refine G4 ?_
  refine zv (Gs rfl) ?_
  refine zv (aq rfl) ?_
  refine zv (RV.fa rfl) ?_
  refine zv (RV.ld c3 rfl) ?_
  refine zv (Gs rfl) ?_
  refine zv (I9 (u := nv1) hm12 Gz oy (Ie _) (pn:Int) rfl rfl rfl (by rw[hnv1]; rfl)) ?_
  refine zv (bd hsn.sh G0 rfl) ?_
  refine zv (Gs rfl) ?_
  refine G5 ?_
  refine ax ?_
  refine Ir ?_
  refine zlp (fun y:Nat×ix×(Nat → Nat)×World => [(0, nP nb), (2, nI m), (7, y.2.1), (21, sv), (22, nI s.length), (23, nI q), (32, nv1), (33, nI (cn g pn).length), (34, nI y.1)]) (fun y => y.2.2.2) (fun y => y.1 ≤ (cn g pn).length ∧ GN encI 3 1 y.2.2.1 y.2.2.2 1 y.2.1 ((hd ++ (s.take q).flatMap fun p => qu g m (cn g p.toNat)) ++ qu g m ((cn g pn).take y.1)) ∧ Gu (fun q => q = 1) (fun _ => 0) w y.2.2.1 y.2.2.2 ∧ ID w.heap.size y.2.2.1 y.2.2.2) (fun y => (cn g pn).length - y.1) (0, v2, O2, w2) (⟨G7 _, by simpa[qu]using hrow2, hU2, hR2⟩) ?_
  rintro⟨j, v3, O3, w3⟩ ⟨hj, hrow3, hU3, hR3⟩
  dsimp only at hj hrow3 hU3 hR3 ⊢
  have hsn3 := hsn.ext hU3.ext
  have hr3 := hr.ext hU3.ext
  have hfl := Bp g m ((cn g pn).take j)
  have hlapp:((hd ++ (s.take q).flatMap fun p => qu g m (cn g p.toNat)) ++ qu g m ((cn g pn).take j)).length = (hd ++ (s.take q).flatMap fun p => qu g m (cn g p.toNat)).length + (qu g m ((cn g pn).take j)).length := GP
  have htl:((cn g pn).take j).length ≤ j := by simp; omega
  refine Gq ?_
  refine G4 ?_
  refine zv (Jo rfl rfl) ?_
  refine G5 ?_
  refine ax ?_
  refine Gq ?_
  refine zC ?_ ?_
  ·intro hlt2
   replace hlt2:j < (cn g pn).length := by have := of_decide_eq_true hlt2; omega
   have hjn:1 ≤ nth (cn g pn) j ∧ nth (cn g pn) j ≤ g.ls.length := by
    obtain⟨k, hk, hjk⟩ := (uH hw h0 hpl (nth (cn g pn) j)).1 (aN hlt2)
    exact hw.lv k _ (hk.lt hw (tf hw h0 hpl)) hjk
   have hft := zJ (g := g) (m := m) hlt2
   have m3:w3.cell? (adr nv1 1 j) = some (nI ((nth (cn g pn) j:Nat):Int)) := by have := hsn3.cell (j := 0) hlt2 rfl; rwa[az]at this
   generalize nth (cn g pn) j = to at *
   have c1 := hr3.c1
   have hls3 := hr3.ls
   refine Iw ?_
   refine ax ?_
   refine Gq ?_
   refine Ir ?_
   refine Gq ?_
   refine G4 ?_
   refine zv (Iy (by first | exact hsn3) G0 (Gx _) rfl rfl _ rfl (by omega)) ?_
   refine zv (RV.ld m3 rfl) ?_
   refine zv (GU rfl) ?_
   refine G5 ?_
   refine ax ?_
   refine Gq ?_
   refine G4 ?_
   refine zv (Gs rfl) ?_
   refine zv (aq rfl) ?_
   refine zv (RV.fa rfl) ?_
   refine zv (RV.ld c1 rfl) ?_
   refine zv (Gs rfl) ?_
   refine zv (RV.sub rfl rfl (IK (by omega))) ?_
   rw[show((to:Nat):Int) - 1 = ((to - 1:Nat):Int)from by omega]
   refine zv (Iy hls3 Jd (IY _) rfl rfl (to - 1) rfl (by omega)) ?_
   refine zv (ah (us := pW (nth g.ls (to - 1))) (fun j u hu => hls3.cell (by omega) hu) (isAgg170 _) (IY _) rfl) ?_
   refine zv (Gs rfl) ?_
   refine zc call145 (xS (nth g.ls (to - 1)).1 (nth g.ls (to - 1)).2.1 m (nth g.ls (to - 1)).2.2 w3) ?_
   rintro v w4 ⟨rfl, hE4⟩
   have hU4 := hU3.trans (aa (by decide) O3 hE4)
   have hR4 := hR3.ext hE4
   have hrow4:GN encI 3 1 O3 w4 1 v3 _ := hrow3.upd (aa (S := fun _ => False) (fun h => h) O3 hE4) (by decide) fun h => h
   refine G5 ?_
   refine ax ?_
   refine zC ?_ ?_
   ·intro hyes
    rw[if_pos hyes]at hft
    refine G4 ?_
    refine zv (Gs rfl) ?_
    refine zv (Gs rfl) ?_
    refine IE jj hrow4 hR4 (((to:Nat):Int)) (fun _ => rfl) rfl rfl rfl (by simp[G6]) (by omega) (by omega) (by omega) (by decide) rfl rfl ?_
    intro v5 w5 O5 hrow5 hU5 hR5
    refine zv (GU rfl) ?_
    refine G5 ?_
    refine bJ ?_
    refine ax ?_
    refine G4 ?_
    refine zv (J8 rfl rfl (IK (by omega))) ?_
    refine zv (Gs rfl) ?_
    refine G5 ?_
    refine zxd (j + 1, v5, O5, w5) (⟨hlt2, by dsimp only; rw[hft, ← Ia]; exact hrow5, hU4.trans hU5, hR5⟩)
   ·intro hno
    rw[if_neg (by rw[hno]; decide), GC]at hft
    refine Iw ?_
    refine bJ ?_
    refine ax ?_
    refine G4 ?_
    refine zv (J8 rfl rfl (IK (by omega))) ?_
    refine zv (Gs rfl) ?_
    refine G5 ?_
    refine zxd (j + 1, v3, O3, w4) (⟨hlt2, by dsimp only; rw[hft]; exact hrow4, hU4, hR4⟩)
  ·intro hge2
   obtain rfl:j = (cn g pn).length := by have := of_decide_eq_false hge2; omega
   rw[Gy]at hrow3
   have htk:(s.take (q + 1)).flatMap (fun p => qu g m (cn g p.toNat)) = (s.take q).flatMap (fun p => qu g m (cn g p.toNat)) ++ qu g m (cn g pn) := by rw[aF hlt, Ih, hpn]; simp
   refine Jv ?_
   refine bI ?_
   refine bI ?_
   refine dv ?_
   refine bJ ?_
   refine ax ?_
   refine G4 ?_
   refine zv (J8 rfl rfl (IK (by omega))) ?_
   refine zv (Gs rfl) ?_
   refine G5 ?_
   refine zxd (q + 1, v3, O3, w3) (⟨hlt, by dsimp only; rw[htk, ← Ia]; exact hrow3, hU3, hR3⟩)
 ·intro hge
  obtain rfl:q = s.length := by have := of_decide_eq_false hge; omega
  rw[Gy]at hrow2 hlen2
  have hmul:s.length * 999 ≤ 999000 := by omega
  refine Jv ?_
  refine bI ?_
  refine bI ?_
  refine dv ?_
  refine ax ?_
  refine Gq ?_
  refine G4 ?_
  refine zv (Gs rfl) ?_
  refine zc call134 (jo hR2 hrow2 (by decide) (by omega)) ?_
  rintro _ w3 ⟨hrow3, hU3, hR3⟩
  refine G5 ?_
  refine ax ?_
  refine Gq ?_
  refine G4 ?_
  refine zv (Gs rfl) ?_
  refine zc call135 (ef hR3 hrow3 (by decide) (by rw[dA]; omega)) ?_
  rintro v4 w4 ⟨hrow4, hU4, hR4⟩
  have e:Lib.compact (gm (hd ++ s.flatMap fun p => qu g m (cn g p.toNat))) = cG se g s m := by rw[hhd]; rfl
  rw[e]at hrow4
  refine zv (GU rfl) ?_
  refine G5 ?_
  refine ax ?_
  refine WC.ret ?_
  refine ae rfl rfl (⟨hrow4.sl, ((hU2.trans hU3).trans hU4).ext, fun B O hR => hrow4.free (by decide) hR4 hR⟩)
theorem jl(w:ln)(nb:Nat)(se:Bool)(g:Gr)(s:List Int)(sv:ix)(h:NfD w nb se g)(hs:Sl encI 1 w sv s)(hp:inP g s)(he:∀q,g.en q<=40):
  J2 GY 91 [nP nb,sv] w fun v w'=>v=.int .u64 ((dy g s:Nat):Int)/\w'=w:=by
 obtain⟨nr,tr,lv,kv,xs,l1,l2,hr,b3,a9,b2,a8⟩:=h.ex;have a4:∀p,nh g p<2^40:=fun p=>jn he _ 0 zd
 have b1:=hs.len_le;refine Gp func91 ntmps91 rfl rfl ?_;refine zh ?_;refine zvH (xD (q:=some ⟨nb,0,none⟩) IM rfl rfl) ?_;refine zTH rfl rfl ?_;refine zlp (fun z:Nat=>[(0,nP nb),(5,.int .u64 ((dy g (s.take z):Nat):Int)),(10,sv),(11,nI s.length),(12,nI z)]) (fun z=>w) (fun z=>z<=s.length/\dy g (s.take z)<2^40) (fun z=>s.length-z) 0 (⟨G7 _,by rw[Jz];show(0:Nat)<2^40;decide⟩) ?_;rintro q ⟨hq,a1⟩;refine zh ?_;refine zC ?_ ?_
 ·intro a0;replace a0:q<s.length:=dT a0;have a6:=hp _ (aN a0);obtain⟨pn,a2⟩:∃pn:Nat,nth s q=(pn:Int):=⟨(nth s q).toNat,zo⟩
  have a7:pn<=g.ls.length:=by have:=a6.2;rw[a2]at this;simpa using this
  have a':=a8 pn a7;have m2:w.cell? (adr sv 1 q)=some (nI (nth s q)):=by have:=hs.cell (j:=0) a0 rfl;rwa[az]at this
  rw[a2]at m2;have c4:=hr.c4;have a5:=a4 pn;have a3:dy g (s.take (q+1))=dy g (s.take q) ||| nh g pn:=by
   unfold dy;rw[aF a0,II,a2];rfl
  refine zh ?_;refine zv (I9 (u:=.int .u64 ((nh g pn:Nat):Int)) a9 underlying161 oy (zeroValue24 _) (pn:Int) rfl rfl rfl (by rw[a'];rfl)) ?_
  refine zvH (oT (a:=dy g (s.take q)) (b:=nh g pn) rfl rfl rfl rfl (by show _<=(18446744073709551615:Int);omega) (by show _<=(18446744073709551615:Int);omega)) ?_;rw[<-a3];refine zxd (q+1) (⟨a0,by rw[a3];exact Jp a1 a5⟩)
 intro b0;obtain rfl:q=s.length:=dF b0;rw[Gy];refine zh ?_;refine ae rfl rfl (⟨rfl,rfl⟩)
mutual
theorem rO:∀(t:Nd) (wi:Bool),nJ t wi=true->vS t=true/\gp t=true
 |.mk k c l,wi,h=>by
  unfold nJ at h
  simp only[IP]at h
  obtain⟨h1,h2⟩:=h
  obtain⟨i1,i2⟩:=oF l h2
  unfold vS gp
  rw[i1,i2,JC,JC]
  have hl:l.isEmpty=true↔l.length=0:=by cases l<;>simp
  rcases vU h1 with⟨rfl,hn,_⟩|⟨rfl,hn,_⟩|⟨rfl,hn,_⟩|⟨rfl,hn,_⟩|⟨rfl,hn,_⟩|⟨rfl,hn,_⟩|⟨rfl,hn,_⟩|⟨rfl,hn,_⟩|⟨rfl,hn,_⟩|⟨rfl,hn,_⟩
  ·exact⟨by rw[if_neg zd];exact hl.2 hn,by rw[if_neg zd,if_neg zd]⟩
  ·exact⟨by rw[if_neg zd];exact hl.2 hn,by rw[if_neg zd,if_neg zd]⟩
  ·exact⟨by rw[if_neg zd];exact hl.2 hn,by rw[if_neg zd,if_neg zd]⟩
  ·exact⟨by rw[if_neg zd];exact hl.2 hn,by rw[if_neg zd,if_neg zd]⟩
  ·have:l.isEmpty=false:=by cases l;simp at hn;rfl
   exact⟨by rw[if_pos zd,this];rfl,by rw[if_pos rfl,this];rfl⟩
  ·have:l.isEmpty=false:=by cases l;simp at hn;rfl
   exact⟨by rw[if_pos zd,this];rfl,by rw[if_neg zd,if_neg zd]⟩
  ·have:l.isEmpty=false:=by cases l;simp at hn;rfl
   exact⟨by rw[if_pos zd,this];rfl,by rw[if_neg zd,if_pos zd,hn];rfl⟩
  ·have:l.isEmpty=false:=by cases l;simp at hn;rfl
   exact⟨by rw[if_pos zd,this];rfl,by rw[if_neg zd,if_pos zd,hn];rfl⟩
  ·have:l.isEmpty=false:=by cases l;simp at hn;rfl
   exact⟨by rw[if_pos zd,this];rfl,by rw[if_neg zd,if_pos zd,hn];rfl⟩
  exact⟨by rw[if_neg zd];exact hl.2 hn,by rw[if_neg zd,if_neg zd]⟩
theorem oF:∀(l:List Nd),rQ l=true->iZ l=true/\dB l=true
 |[],_=>⟨rfl,rfl⟩
 |t::r,h=>by
  rw[rQ,IP]at h
  obtain⟨a1,a2⟩:=rO t true h.1
  obtain⟨b1,b2⟩:=oF r h.2
  unfold iZ dB
  rw[a1,a2,b1,b2]
  exact⟨rfl,rfl⟩
end
theorem ia{t:Nd}(h:bE t=true):vS t=true/\gp t=true/\nsz t<=2000:=by
 unfold bE at h;simp only[IP,decide_eq_true_eq]at h;obtain⟨h1,h2⟩:=rO t false h.2;exact⟨h1,h2,h.1⟩
theorem iT:∀ {l:List Nd},(∀t∈l,bE t=true)->iZ l=true/\dB l=true
 |[],_=>⟨rfl,rfl⟩
 |t::r,h=>by
  obtain⟨a1,a2,_⟩:=ia (h t (by simp));obtain⟨b1,b2⟩:=iT (l:=r) fun x hx=>h x (by simp[hx])
  unfold iZ dB;rw[a1,a2,b1,b2];exact⟨rfl,rfl⟩
theorem vh:∀(xs:List Nd) (i:Nat) (g:Gr),WF g->0<g.ks.length->(∀k,g.en k<=i)->∀k,(dj xs i g).en k<=i+xs.length
 |[],i,g,_,_,h,k=>by have:=h k;show g.en k<=_;omega
 |x::r,i,g,hw,h0,h,k=>by
  obtain⟨h1,h2,h3⟩:=pC hw h0 x i
  have:=vh r (i+1) (qV x i g) h1 zo (fun q=>by
   rw[yE hw h0]
   split
   ·omega
   split
   ·have:=h q;omega
   omega) k
  simp only[GO];show(dj r (i+1) (qV x i g)).en k<=_;omega
theorem yK(xs:List Nd)(k:Nat):(qs xs).en k<=xs.length:=by
 have:=vh xs 0 g00 uS zd (fun q=>by
  unfold Gr.en g00
  by_cases e:q=0
  ·subst e;rw[au];exact G9 _
  rw[dW (by simp;omega)];exact G9 _) k
 rw[Nat.zero_add]at this;exact this
theorem CH(xs:List Nd):Tot (qs xs):=rZ xs 0 g00 uS zd (by simp[Tot,sJ,g00])
theorem oe{xs:List Nd}(h1:iZ xs=true)(h2:dB xs=true):(qs xs).ls.length=aQ xs:=by
 have:=lh xs 0 g00 h1 h2;unfold qs;rw[this];simp[g00]
theorem Bd.mark{g:Gr}{M:Nat}(h:Bd g M){a e:Nat}(ha:a<g.ks.length):Bd (g.mark a e) M:=⟨by rw[dd];exact h.ks,h.ls,fun k=>by rw[pJ ha];exact h.fr k,fun k=>by rw[pI ha];exact h.lv k⟩
theorem CB{g:Gr}(h:WF g)(h0:0<g.ks.length)(x:Nd)(i:Nat){M:Nat}(hM:Bd g M):Bd (qV x i g) (M+3+(9*nsz x-1)):=by
 have e1:=aH g;have e2:=dd g.knot g.ks.length (i+1);have e3:=aH (g.knot.mark g.ks.length (i+1));have hl:=eE g i;exact fH x _ _ _ _ (gk h h0 i).1 zo zo (((hM.knot.mark zo).knot).free zo)
theorem xm{xs:List Nd}{q:Nat}{g:Gr}(h:q<xs.length):dj (xs.drop q) q g=dj (xs.drop (q+1)) (q+1) (qV (nth xs q) q g):=by
 rw[kI h,dj]
theorem DM:Bd g00 1:=by
 refine⟨zd,zd,fun k=>?_,fun k=>?_⟩
 ·unfold Gr.fr g00
  by_cases e:k=0
  ·subst e;rw[au];decide
  rw[dW (by simp;omega)];decide
 unfold Gr.lv g00
 by_cases e:k=0
 ·subst e;rw[au];decide
 rw[dW (by simp;omega)];decide
def dg(ts:List Nd):Int:=if 40<ts.length then 3 else if ts.any (fun t=>!bE t)=true then 1 else if 1000<1+aQ ts then 7 else 0
theorem A1(t:Nd)(x:N3)(w:ln)(h:Nt (fun _=>0) w t x):J2 GY 82 [nv x] w fun v w'=>v=.bool (!bE t)/\IT w w':=by
 have hx:=h.ones;have a3:=h.one;refine Gp func82 ntmps82 rfl rfl ?_;refine zh ?_;refine aG (aw w) 1 zo rfl rfl ?_;intro xb w1 O1 a1 a4 a5 a0;refine zh ?_;refine zv (ah (us:=bn x) a1.cellsAdd (IV _) (Ik _) rfl) ?_;refine zc call79 (eJ t x w1 (h.ext a0)) ?_;rintro v w2 ⟨rfl,a2⟩;refine zh ?_;refine ae rfl rfl (⟨rfl,a0.trans a2⟩)
def yL(nb:Nat)(e:Int):ix:=.pointer (if e=0 then some ⟨nb,0,none⟩else none)
theorem CJ(se:Bool)(ts:List Nd)(xs:List N3)(sv:ix)(w:ln)(hs:Sl bn 3 w sv xs)(hl:ts.length=xs.length)(hk:∀i,i<xs.length->Nt (fun _=>0) w (nth ts i) (nth xs i)):
  J2 GY 56 [.bool se,sv] w fun v w'=>∃nb,v=.tuple #[yL nb (dg ts),nI (dg ts)]/\IT w w'/\(dg ts=0->NfD w' nb se (qs ts)):=by
 refine Gp func56 ntmps56 rfl rfl ?_;refine zh ?_
 by_cases g4:40<ts.length
 ·have hM:dg ts=3:=by unfold dg;rw[if_pos g4]
  rw[hM];refine zTH rfl ((decide_eq_true zo)) ?_;refine bC rfl rfl rfl (⟨0,rfl,GB _,fun h=>by cases h⟩)
 have hq:∀i,i<xs.length->∀w',IT w w'->J2 GY 82 ([nv (nth xs i)]++(#[]:Array ix).toList) w' fun v w''=>v=.bool (!bE (nth ts i))/\IT w' w'':=fun i hi w' hE=>A1 _ _ w' ((hk i hi).ext hE)
 have j2:iH (fun i=>!bE (nth ts i)) xs.length=ts.any (fun t=>!bE t):=by rw[<-hl];exact gL (p:=fun t=>!bE t)
 refine zFH rfl ((decide_eq_false zo)) ?_;refine zc call81 (cF call82 #[] xs sv (fun i=>!bE (nth ts i)) w hs hq) ?_
 rw[j2];rintro v w1 ⟨rfl,k1⟩;refine zh ?_
 cases b0:ts.any (fun t=>!bE t)with
 |true=>
  have hM:dg ts=1:=by unfold dg;rw[if_neg g4,if_pos b0]
  rw[hM];refine zTH rfl rfl ?_;refine bC rfl rfl rfl (⟨0,rfl,k1,fun h=>by cases h⟩)
 |false=>
  have a6:∀t∈ts,bE t=true:=fun t ht=>by
   have:=List.any_eq_false.1 b0 t ht;simpa using this
  obtain⟨e6,b7⟩:=iT a6;have hR:∀q,q<ts.length->bE (nth ts q)=true:=fun q hq=>a6 _ (aN hq)
  have p0:=hs.ext k1;refine zFH rfl rfl ?_;refine zlp (fun z:Nat×ln=>[(0,.bool se),(1,sv),(6,nI ((1+aQ (ts.take z.1):Nat):Int)),(23,sv),(24,nI xs.length),(25,nI z.1)]) (fun z=>z.2) (fun z=>z.1<=ts.length/\IT w z.2/\aQ (ts.take z.1)<=z.1*2000) (fun z=>ts.length-z.1) (0,w1) (⟨G7 _,k1,by simp[aQ]⟩) ?_;rintro⟨q,w2⟩ ⟨m',b5,l0⟩;dsimp only at m' b5 l0 ⊢;have k9:=hs.ext b5;refine zh ?_;refine zC ?_ ?_
  ·intro a0;replace a0:q<ts.length:=dT a0;have a7:=(hk q zo).ext b5;have i6:=a7.one;have p3:=kE (nth ts q);have m7:=(ia (hR q a0)).2.2;have m6:=gF ts q a0;refine zh ?_;refine zv (ah (us:=bn (nth xs q)) (fun j u hu=>k9.cell zo hu) (IV _) (Ik _) rfl) ?_;refine ar (aw w2) 1 zo (Jr _) rfl ?_;intro yb w3 O3 j1 j4 l6 p4;refine zsb (us:=#[nI (nth xs q).1,nI (nth xs q).2.1,(nth xs q).2.2]) j1 (Ik _) (bR i6) ?_;have l8:IT w2 (w3.setRow yb #[nI (nth xs q).1,nI (nth xs q).2.1,(nth xs q).2.2]):=(j4.trans (GE zd j1.tag rfl)).ext;have o0:=j1.setRow (us:=#[nI (nth xs q).1,nI (nth xs q).2.1,(nth xs q).2.2]);generalize w3.setRow yb #[nI (nth xs q).1,nI (nth xs q).2.1,(nth xs q).2.2]=w4 at *;refine zh ?_;refine zv (ah (us:=bn (nth xs q)) o0.cellsAdd (IV _) (Ik _) rfl) ?_;refine zc call83 (oo (nsz (nth ts q)) zo (nth ts q) (G9 _) (nth xs q) w4 (a7.ext l8)) ?_;rintro v w5 ⟨rfl,l7⟩;refine zh ?_;rw[show((1+aQ (ts.take q):Nat):Int)+((cO (nth ts q):Nat):Int)=((1+aQ (ts.take (q+1)):Nat):Int)from by rw[m6];omega];refine zxd (q+1,w5) (⟨a0,(b5.trans l8).trans l7,by dsimp only;omega⟩)
  intro i8;obtain rfl:q=ts.length:=dF i8;rw[Gy]at l0 ⊢;refine zh ?_
  by_cases e9:1000<1+aQ ts
  ·have hM:dg ts=7:=by unfold dg;rw[if_neg g4,if_neg (by rw[b0];decide),if_pos e9]
   rw[hM];refine zTH rfl ((decide_eq_true zo)) ?_;refine bC rfl rfl rfl (⟨0,rfl,b5,fun h=>by cases h⟩)
  have hM:dg ts=0:=by unfold dg;rw[if_neg g4,if_neg (by rw[b0];decide),if_neg e9]
  rw[hM];refine zFH rfl ((decide_eq_false zo)) ?_;refine aV kvI id (aw w2) 1 zd rfl ?_;intro nr w3 O3 n4 j4 l6;refine aV kvI tvU l6 2 zd rfl ?_;intro tr w4 O4 n3 l4 o4;have h':=n4.upd l4 zd zd;refine zv (aD Ft (zeroValue165 _) rfl (by first|rfl|(simp only[GS,Ij];rfl)) rfl rfl) ?_;refine aG o4 3 zo rfl rfl ?_;intro nb w5 O5 n' j3 o3 l7;have i5:=h'.upd j3 zd zd;have i2:=n3.upd j3 zd zd;have f6:Gu (fun q=>1<=q) (fun _=>0) w2 O5 w5:=((j4.mono (fun _ h=>zo) zo).trans (l4.mono (fun _ h=>zo) zo)).trans (j3.mono (fun _ h=>zo) zo);have h5:NfO O5 w5 3 nb se ⟨[],[]⟩ (.map (some nr)) (.map (some tr)) (nS) (nS) []:=⟨n',GQ _ _ _ _ _ _,⟨GQ _ _ _ _ _ _,rfl,fun k hk=>absurd hk (G1 k),fun k hk=>absurd hk (G1 k),fun k hk=>absurd hk (G1 k)⟩⟩
  refine zh ?_;refine zc K1 (iq w2.heap.size O5 w5 3 nb se ⟨[],[]⟩ _ _ _ _ _ zd o3 h5 zd) ?_
  rintro _ w6 ⟨rfl,O6,m0,m2,l9,o1,o2,h6⟩;have o':=k9.ext f6.ext;refine zh ?_;refine zvH (bd hs.sh underlying84 rfl) ?_;refine zlp (fun z:Nat×(Nat->Nat)×World×Gr×ix×ix×List K3=>[(9,nP nb),(43,sv),(44,nI xs.length),(45,nI z.1)]) (fun z=>z.2.2.1) (fun z=>z.1<=ts.length/\Gu (fun q=>3<=q) O5 w5 z.2.1 z.2.2.1/\ID w2.heap.size z.2.1 z.2.2.1/\NfO z.2.1 z.2.2.1 3 nb se z.2.2.2.1 (.map (some nr)) (.map (some tr)) z.2.2.2.2.1 z.2.2.2.2.2.1 z.2.2.2.2.2.2/\WF z.2.2.2.1/\0<z.2.2.2.1.ks.length/\Bd z.2.2.2.1 (1+z.1*18010)/\dj ts 0 g00=dj (ts.drop z.1) z.1 z.2.2.2.1) (fun z=>ts.length-z.1) (0,O6,w6,g00,m0,m2,l9) (⟨G7 _,o1,o2,h6,uS,(show 0<g00.ks.length by decide),(show Bd g00 (1+0*18010)from DM),rfl⟩) ?_;rintro⟨q,O7,w7,g,g1,g9,g5⟩ ⟨m9,f5,c9,h7,b6,f9,f3,b3⟩;dsimp only at m9 f5 c9 h7 b6 f9 f3 b3 ⊢;have c7:=f6.trans (f5.mono (S':=fun q=>1<=q) (fun q h=>zo) zo);have k2:=b5.trans c7.ext;refine zh ?_;refine zC ?_ ?_
  ·intro a0;replace a0:q<ts.length:=dT a0;rw[xm a0]at b3;have m8:=hs.ext k2;have a7:Nt O7 w7 (nth ts q) (nth xs q):=((hk q zo).ext b5).upd c7;have i6:=a7.one;have m7:=(ia (hR q a0)).2.2;have h3:=(ia (hR q a0)).2.1;obtain⟨T,j7,hT⟩:=c9.bound;refine zh ?_;refine zv (ah (us:=bn (nth xs q)) (fun j u hu=>m8.cell zo hu) (IV _) (Ik _) rfl) ?_;refine ar c9 T zo (Jr _) rfl ?_;intro yb w8 O8 g2 d2 l5 o5;refine zh ?_;refine zsb (us:=#[nI (nth xs q).1,nI (nth xs q).2.1,(nth xs q).2.2]) g2 (Ik _) (bR i6) ?_;have f4:Gu (fun j=>j=T) O8 w8 O8 (w8.setRow yb #[nI (nth xs q).1,nI (nth xs q).2.1,(nth xs q).2.2]):=GE zo g2.tag rfl;obtain⟨g3,n7⟩:=Dd j7 hT d2 f4 (g2.setRow (us:=#[nI (nth xs q).1,nI (nth xs q).2.1,(nth xs q).2.2]));generalize w8.setRow yb #[nI (nth xs q).1,nI (nth xs q).2.1,(nth xs q).2.2]=w9 at *;clear g2 d2 l5 o5 f4;have h9:=h7.ext g3 zd;have f8:=c9.ext g3;have c6:Gu (fun q=>3<=q) O7 w7 O7 w9:=aa zo O7 g3;have e7:=a7.ext g3;have n6:=f3.ks;have e1:=aH g;refine zh ?_;refine zc K1 (iq w2.heap.size O7 w9 3 nb se g _ _ _ _ _ zd f8 h9 zo) ?_;rintro _ g0 ⟨rfl,O10,g8,h0,a5,b2,d0,a'⟩;have m4:=a'.ks.len;have d7:g.ks.length<a5.length:=zo;have c2:=a'.c2;refine zh ?_;rw[show((q:Nat):Int)+1=((q+1:Nat):Int)from by omega];refine zvH (aA a'.ks.row.sl.sh underlying163 (sizeOf167 _) rfl rfl g.ks.length rfl d7) ?_
   refine mQ a'.ks.row g.ks.length d7 2 zd (((nth a5 g.ks.length).1,(nth a5 g.ks.length).2.1,q+1):K3) (Gx _) rfl zo rfl rfl rfl rfl ?_;intro d4 b8 a4;have e2:=dd g.knot g.ks.length (q+1);have k5:NfO O10 d4 3 nb se (g.knot.mark g.ks.length (q+1)) (.map (some nr)) (.map (some tr)) g8 h0 (a5.set g.ks.length ((nth a5 g.ks.length).1,(nth a5 g.ks.length).2.1,q+1)):=by
    refine⟨a'.blk.upd a4 zd zd,a'.ls.upd a4 zd zd,⟨b8,by rw[Gt];omega,fun k hk=>?_,fun k hk=>?_,fun k hk=>?_⟩⟩
    ·rw[Gt]at hk;rw[aP d7,pJ zo]
     split
     ·rename_i e;subst e;exact(a'.ks.fr _ hk).upd a4 zo zo
     exact(a'.ks.fr k hk).upd a4 zo zo
    ·rw[Gt]at hk;rw[aP d7,pI zo]
     split
     ·rename_i e;subst e;exact(a'.ks.lv _ hk).upd a4 zo zo
     exact(a'.ks.lv k hk).upd a4 zo zo
    rw[Gt]at hk;rw[aP d7,yS zo]
    split
    ·rfl
    exact a'.ks.en k hk
   have c':=d0.upd a4;have f7:=Upd.hi a4 (i:=3) zd zd;refine zh ?_;refine zc K1 (iq w2.heap.size O10 d4 3 nb se (g.knot.mark g.ks.length (q+1)) _ _ _ _ _ zd c' k5 zo) ?_;rintro _ f' ⟨rfl,O12,m1,m3,l',c8,j',o8⟩;have e3:=aH (g.knot.mark g.ks.length (q+1));rw[show((g.knot.mark g.ks.length (q+1)).ks.length:Nat)=g.ks.length+1 from by omega];have b4:=(f3.knot.mark (a:=g.ks.length) (e:=q+1) zo).knot;refine zh ?_;refine zc call85 (fJ w2.heap.size O12 f' 3 nb se (g.knot.mark g.ks.length (q+1)).knot _ _ _ _ _ 0 (g.ks.length+1) zd j' o8 zo (by have:=b4.fr 0;omega) zo) ?_;rintro _ k7 ⟨O13,g7,g',g6,j6,j9,o7⟩;have k4:NfO O13 k7 3 nb se (fZ g q) (.map (some nr)) (.map (some tr)) g7 g' g6:=o7;obtain⟨m5,k8⟩:=gk b6 f9 q;have o9:=eE g q;have n8:Bd (fZ g q) (1+q*18010+3):=b4.free zo;have a8:=((b2.trans f7).trans c8).trans j6;refine zh ?_;refine zvH (ah (us:=bn (nth xs q)) (fun j u hu=>((n7 j u hu).upd a8).c) (IV _) (Ik _) rfl) ?_;refine zc call86 (za (nsz (nth ts q)) (nth ts q) (G9 _) w2.heap.size O13 k7 3 nb se (fZ g q) _ _ _ _ _ (g.ks.length+1) g.ks.length (nth xs q) (1+q*18010+3) zd j9 k4 m5 zo zo n8 zo h3 (e7.upd a8)) ?_;rintro _ k6 ⟨O14,d5,d6,d3,j5,j8,o6⟩;have k3:NfO O14 k6 3 nb se (qV (nth ts q) q g) (.map (some nr)) (.map (some tr)) d5 d6 d3:=o6;obtain⟨n2,p2,p1⟩:=pC b6 f9 (nth ts q) q;have n1:=CB b6 f9 (nth ts q) q f3;refine zh ?_
   refine zxd (q+1,O14,k6,qV (nth ts q) q g,d5,d6,d3) (⟨a0,((f5.trans c6).trans a8).trans j5,j8,k3,n2,by dsimp only;omega,n1.mono (by dsimp only;omega),b3⟩)
  intro i8;obtain rfl:q=ts.length:=dF i8;rw[List.drop_length,dj]at b3;have b3:qs ts=g:=b3;have i4:=i5.upd f5 zd zd;have i1:=i2.upd f5 zd zd;have l3:∀k,g.en k<=40:=fun k=>by rw[<-b3];have:=yK ts k;omega
  have n5:=oe e6 b7;rw[b3]at n5 ⊢;have e':Bd g 1000000:=f3.mono zo;refine zh ?_;refine zc call87 (uP w2.heap.size O7 w7 3 nb se g nr tr g1 g9 g5 [] [] 0 0 1000000 zd c9 h7 i4 i1 b6 f9 e' zd l3) ?_;rintro _ w8 ⟨v0,d2,i3,i0,h2,i9⟩;have h8:=h7.upd d2 zd zo;have l5:=c9.upd d2;have c1:=h8.c1;have n0:g.pl 0=0:=rfl;refine zh ?_;refine zvH (bd h8.ls.sl.sh Jd rfl) ?_;refine zlp (fun z:Nat×ln×List (Int×ix)×List (Int×Nat)=>[(9,nP nb),(77,g1),(78,nI g.ls.length),(79,nI z.1)]) (fun z=>z.2.1) (fun z=>z.1<=g.ls.length/\Gu (fun q=>q=1\/q=2) O7 w7 O7 z.2.1/\GX kvI id O7 z.2.1 1 nr z.2.2.1/\GX kvI tvU O7 z.2.1 2 tr z.2.2.2/\(∀p:Nat,p<=z.1->∃v,bf z.2.2.1 (p:Int)=some v/\Sl aJ 1 z.2.1 v (cn g p)/\IG O7 z.2.1 v)/\(∀p:Nat,p<=z.1->bf z.2.2.2 (p:Int)=some (nh g p))) (fun z=>g.ls.length-z.1) (0,w8,bZ [] 0 v0,bZ [] 0 ((eu g 0).foldl (fj g) 0)) (⟨G7 _,d2,i3,i0,fun p hp=>⟨v0,by obtain rfl:p=0:=Jf.1 hp;rfl,by obtain rfl:p=0:=Jf.1 hp;exact h2,i9⟩,fun p hp=>by obtain rfl:p=0:=Jf.1 hp;rfl⟩) ?_;rintro⟨j,w9,l1,l2⟩ ⟨hj,c6,b',b9,h4,h1⟩;dsimp only at hj c6 b' b9 h4 h1 ⊢;have h9:=h7.upd c6 zd zo;have f8:=c9.upd c6;have e5:=h9.ls.sl;refine zh ?_;refine zC ?_ ?_
  ·intro a0;replace a0:j<g.ls.length:=dT a0;have n9:=b6.ls j a0;obtain⟨T,j7,hT⟩:=f8.bound;refine zh ?_;refine zv (Iy e5 Jd (IY _) rfl rfl j rfl a0) ?_;refine zv (ah (us:=pW (nth g.ls j)) (fun q u hu=>e5.cell a0 hu) (isAgg170 _) (IY _) rfl) ?_;refine ar f8 T zo (zeroValue170 _) rfl ?_;intro yb g0 O10 b1 b2 d0 k0;refine zh ?_;refine zsa (us:=(pW (nth g.ls j)).toArray) b1 (IY _) ?_;have f4:Gu (fun j=>j=T) O10 g0 O10 (g0.setRow yb (pW (nth g.ls j)).toArray):=GE zo b1.tag rfl;obtain⟨d1,j0⟩:=Dd j7 hT b2 f4 (b1.setRow (us:=(pW (nth g.ls j)).toArray));generalize g0.setRow yb (pW (nth g.ls j)).toArray=d4 at *;clear b1 b2 d0 k0 f4;have c5:Gu (fun _=>False) O7 w9 O7 d4:=aa (fun h=>h) O7 d1;have k5:=h9.ext d1 zd;have c':=f8.ext d1;have e4:=b'.upd c5 zd fun h=>h
   have d':=b9.upd c5 zd fun h=>h
   have p5:=(j0 2 _ rfl).c;refine zh ?_;refine zc call87 (uP w2.heap.size O7 d4 3 nb se g nr tr g1 g9 g5 l1 l2 ((j:Nat)+1) (nth g.ls j).2.2 1000000 zd c' k5 e4 d' b6 n9 e' zd l3) ?_;rintro _ f' ⟨v1,c8,e0,d9,d8,e8⟩;have a9:Gu (fun q=>q=1\/q=2) O7 w9 O7 f':=(c5.mono (fun _ h=>h.elim) zo).trans c8;have k':g.pl (j+1)=(nth g.ls j).2.2:=by unfold Gr.pl;rw[if_neg zo];rfl
   refine zh ?_;refine zxd (j+1,f',bZ l1 ((j:Nat)+1) v1,bZ l2 ((j:Nat)+1) ((eu g (nth g.ls j).2.2).foldl (fj g) 0)) (⟨a0,c6.trans a9,e0,d9,fun p hp=>?_,fun p hp=>?_⟩)
   ·dsimp only at hp ⊢;rw[aL]
    by_cases e:p=j+1
    ·subst e;exact⟨v1,by rw[if_pos zo],by unfold cn;rw[k'];exact d8,e8⟩
    obtain⟨v,a1,a2,a3⟩:=h4 p zo;exact⟨v,by rw[if_neg zo];exact a1,a2.upd a3 a9,a3.upd a9⟩
   dsimp only at hp ⊢;rw[aL]
   by_cases e:p=j+1
   ·subst e;rw[if_pos zo];unfold nh;rw[k']
   rw[if_neg zo];exact h1 p zo
  intro i7;obtain rfl:j=g.ls.length:=dF i7;refine zh ?_;refine bC rfl rfl rfl (⟨nb,rfl,b5.trans (c7.trans (c6.mono (S':=fun q=>1<=q) (fun q h=>zo) zo)).ext,fun _=>⟨nr,tr,g1,g9,g5,l1,l2,h9.r,b'.fgt (i':=0) rfl,b9.fgt (i':=0) rfl,fun p hp=>by obtain⟨v,a1,a2,_⟩:=h4 p hp;exact⟨v,a1,a2⟩,h1⟩⟩)
abbrev zT(b:UInt8):List ix:=[.int .u8 (b.toNat:Int)]
theorem F4:JP GY 22 5 1 1:=⟨Jj,by kernel_rfl,zd⟩
theorem xI:JP GY 89 25 1 24:=⟨GG,by kernel_rfl,zd⟩
theorem iE:JP GY 28 24 1 8:=⟨JT,by kernel_rfl,zd⟩
theorem oW(n:Nat):K5.wrap (n:Int)=((IA (n % 256)).toNat:Int):=by
 rw[K4];simp only[UInt8.toNat_ofNat'];omega
theorem xf(s:List Int)(sv:ix)(w:ln)(h:Sl encI 1 w sv s)(ho:okS s)(hl:s.length<=100000):J2 GY 115 [sv] w fun v w'=>v=.string (bs (sC s))/\IT w w':=by
 refine Gp func115 ntmps115 rfl rfl ?_;refine zh ?_
 refine zlp (fun z:Nat×ix×(Nat->Nat)×World=>[(3,z.2.1),(6,sv),(7,nI s.length),(8,nI z.1)]) (fun z=>z.2.2.2) (fun z=>z.1<=s.length/\GN zT 5 1 z.2.2.1 z.2.2.2 1 z.2.1 (sC (s.take z.1))/\(sC (s.take z.1)).length=2*z.1/\Gu (fun q=>q=1) (fun _=>0) w z.2.2.1 z.2.2.2/\ID w.heap.size z.2.2.1 z.2.2.2) (fun z=>s.length-z.1) (0,nS,fun _=>0,w) (⟨G7 _,GQ _ _ _ _ _ _,rfl,IB zd _ _,aw w⟩) ?_;rintro⟨q,v1,O1,w1⟩ ⟨hq,a0,a4,hU,hR⟩;dsimp only at hq a0 a4 hU hR ⊢;have h1:=h.ext hU.ext;refine zh ?_
 refine zC ?_ ?_
 ·intro a1;replace a1:q<s.length:=dT a1;have a7:=ho _ (aN a1);obtain⟨p,hp⟩:∃p:Nat,nth s q=(p:Int):=⟨(nth s q).toNat,zo⟩
  have b1:p<=999:=by have:=a7.2;rw[hp]at this;simpa using this
  have m1:w1.cell? (adr sv 1 q)=some (nI (nth s q)):=by have:=h1.cell (j:=0) a1 rfl;rwa[az]at this
  rw[hp]at m1;have a3:sC (s.take (q+1))=sC (s.take q)++[IA (p / 256),IA (p % 256)]:=by
   unfold sC;rw[aF a1,Ih,hp];simp
  refine zh ?_;refine zv (gS (a:=p) (b:=8) rfl rfl rfl rfl zd) ?_
  refine zvH (jZ Jt Js rfl) ?_;refine zv (jZ Jt Js rfl) ?_
  rw[oW p,oW (p / 2^8),show p / 2^8 % 256=p / 256 from by omega];refine iB Jj (sizeOf5 _) (zeroValue5 _) zT [IA (p / 256),IA (p % 256)] rfl rfl rfl rfl zk (by simp) rfl ?_;intro bv w2 a9 a6;have a5:Gu (fun _=>False) O1 w1 O1 w2:=aa (fun h=>h) O1 a6;refine aC F4 (a0.upd a5 zd fun h=>h) (hR.ext a6) a9 (by simp) rfl rfl (by simp) (by simp[G6]) (by simp;omega) (by simp;omega) zd rfl ?_;intro v3 w3 O3 a2 a' b0;refine zh ?_;refine zxd (q+1,v3,O3,w3) (⟨a1,by dsimp only;rw[a3];exact a2,by dsimp only;rw[a3];simp[a4];omega,(hU.trans (a5.mono (fun _ h=>h.elim) zd)).trans a',b0⟩)
 intro a8;obtain rfl:q=s.length:=dF a8;rw[Gy]at a0;refine zh ?_;refine zvH (dx a0.sl Jj Js JW rfl) ?_;refine ae rfl rfl (⟨rfl,hU.ext⟩)
theorem Fp:cD GY 174 #[(0,1),(1,1),(2,1)]:=⟨_,underlying174,fun w=>by kernel_rfl⟩
theorem Df:cD GY 91 #[(0,1),(1,1)]:=⟨_,underlying91,fun w=>by kernel_rfl⟩
theorem rI:KeyL GY 9 J1:=BH JW
abbrev xH(v:ix):List ix:=[v]
structure MkO(O:Nat->Nat)(w:ln)(i mb nb kr:Nat)(sv:ix)(vs:List ix)(S:List (List Int))(l:List (ByteArray×Int)):Prop where
 blk:If O w i mb #[nP nb,.map (some kr),sv] 174
 map:GX J1 kvI O w (i+1) kr l
 row:GN xH 25 1 O w (i+2) sv vs
 len:vs.length=S.length
 at_:∀k,k<S.length->Sl encI 1 w (nth vs k) (nth S k)/\IG O w (nth vs k)
 ok:∀s∈S,okS s
 key:∀s,okS s->bf l (bs (sC s))=(AE S s).map fun(k:Nat)=>(k:Int)
theorem MkO.upd{T:Nat->Prop}{O O':Nat->Nat}{w w':ln}{i mb nb kr:Nat}{sv:ix}{vs:List ix}{S:List (List Int)}{l:List (ByteArray×Int)}(h:MkO O w i mb nb kr sv vs S l)(u:Gu T O w O' w')(hi:i≠0)(h1:¬T i)(h2:¬T (i+1))(h3:¬T (i+2)):MkO O' w' i mb nb kr sv vs S l:=
 ⟨h.blk.upd u hi h1,h.map.upd u zo h2,h.row.upd u zo h3,h.len,fun k hk=>⟨(h.at_ k hk).1.upd (h.at_ k hk).2 u,(h.at_ k hk).2.upd u⟩,h.ok,h.key⟩
theorem zu{S:List (List Int)}{s t:List Int}(h:AE S s=none):AE (S++[s]) t=if s=t then some S.length else AE S t:=by
 unfold AE at h ⊢;rw[Ja]
 by_cases e:s=t
 ·subst e;rw[h,if_pos rfl];simp[I4]
 rw[if_neg e]
 cases hq:S.findIdx? (· == t)with
 |some k=>simp
 |none=>simp[I4,e]
theorem kZ(B:Nat)(O:Nat->Nat)(w:ln)(i mb nb kr:Nat)(mv:ix)(vs:List ix)(S:List (List Int))(l:List (ByteArray×Int))(s:List Int)(sv:ix)(hi:i≠0)(hR:ID B O w)(h:MkO O w i mb nb kr mv vs S l)(hs:Sl encI 1 w sv s)(hf:IG O w sv)(ho:okS s)(b8:s.length<=100000)(d1:S.length<=100000):
  J2 GY 88 [nP mb,sv] w fun v w'=>∃O' mv' vs' l',v=nI ((AC S s:Nat):Int)/\Gu (fun q=>i<=q/\q<=i+2) O w O' w'/\ID B O' w'/\MkO O' w' i mb nb kr mv' vs' (pF S s) l':=by
 have hz:¬(fun q=>i<=q/\q<=i+2) 0:=zo;have b9:=hs.shape;obtain⟨sa,sc,rfl,_⟩:=b9;refine Gp func88 ntmps88 rfl rfl ?_;refine zh ?_;refine zc call115 (xf s _ w hs ho b8) ?_;rintro _ w1 ⟨rfl,b7⟩;have a':Gu (fun _=>False) O w O w1:=aa (fun h=>h) O b7;have h1:=h.upd a' hi (fun h=>h) (fun h=>h) fun h=>h
 have b6:=hR.upd a';have b3:=hs.ext b7;have a9:=hf.upd a';have a4:=h.key s ho;have a7:Gu (fun q=>i<=q/\q<=i+2) O w O w1:=a'.mono (fun _ h=>h.elim) hz;have c1:w1.cell? (nA mb 1)=some (.map (some kr)):=h1.blk.cell 1 rfl;have c2:w1.cell? (nA mb 2)=some mv:=h1.blk.cell 2 rfl;refine zh ?_
 cases a0:AE S s with
 |some k=>
  rw[a0]at a4;have hn:AC S s=k:=by unfold AC;rw[a0];rfl
  have hS:pF S s=S:=by unfold pF;rw[a0];rfl
  rw[hn,hS];refine zvH (cy (u:=.tuple #[kvI (k:Int),.bool true]) h1.map Jc rI (Ig _) (bs (sC s)) rfl rfl rfl (by rw[a4];rfl)) ?_;refine zFH rfl rfl ?_;refine ae rfl rfl (⟨O,mv,vs,l,rfl,a7,b6,h1⟩)
 |none=>
  rw[a0]at a4;have hn:AC S s=S.length:=by unfold AC;rw[a0];rfl
  have hS:pF S s=S++[s]:=by unfold pF;rw[a0];rfl
  rw[hn,hS];have a8:=h.len;refine zvH (cy (u:=.tuple #[kvI 0,.bool false]) h1.map Jc rI (Ig _) (bs (sC s)) rfl rfl rfl (by rw[a4];rfl)) ?_;refine zTH rfl rfl ?_;refine zvH (bd h1.row.sl.sh GG rfl) ?_;refine GM h1.map Jc rI zo (bs (sC s)) (vs.length:Int) rfl rfl rfl rfl rfl ?_;intro w2 c6 a6;have b5:=h1.blk.upd a6 hi zo;have b':=h1.row.upd a6 zo zo;have c9:=b6.upd a6;have c':=b3.upd a9 a6;have d0:=a9.upd a6;have d2:w2.cell? (nA mb 2)=some mv:=b5.cell 2 rfl;refine zh ?_;refine IE xI b' c9 ((.slice sa s.length sc:ix)) (fun _=>rfl) rfl rfl rfl (by simp[G6]) zo zo zo zd rfl rfl ?_;intro a5 w3 O3 b4 b2 c8;have b1:=b5.upd b2 hi zo;have c5:=c6.upd b2 zo zo;refine zh ?_;refine aj (j:=2) b1 rfl (Ju _) b4.one rfl rfl rfl ?_;have b0:Gu (fun q=>q=i) O3 w3 O3 (w3.setCell ⟨mb,2,none⟩ a5):=Ib (fun e=>hi e.symm) b1.tag rfl;have c7:If O3 (w3.setCell ⟨mb,2,none⟩ a5) i mb #[nP nb,.map (some kr),a5] 174:=b1.set 2 a5;have a3:Gu (fun q=>i<=q/\q<=i+2) O w1 O3 (w3.setCell ⟨mb,2,none⟩ a5):=((a6.mono (fun q h=>zo) hz).trans (b2.mono (fun q h=>zo) hz)).trans (b0.mono (fun q h=>zo) hz);refine zh ?_;refine ae rfl rfl (⟨O3,a5,vs++[.slice sa s.length sc],bZ l (bs (sC s)) (vs.length:Int),by rw[a8],a7.trans a3,(c8.upd b0),⟨c7,c5.upd b0 zo zo,b4.upd b0 zo zo,by simp[a8],fun k hk=>?_,fun t ht=>?_,fun t ht=>?_⟩⟩)
  ·rw[ay,ay,a8]
   by_cases e:k<S.length
   ·rw[if_pos e,if_pos e];obtain⟨a1,a2⟩:=h1.at_ k e;exact⟨a1.upd a2 a3,a2.upd a3⟩
   rw[if_neg e,if_neg e];simp only[GP,GO,IS]at hk;rw[show k-S.length=0 from by omega,au,au];exact⟨b3.upd a9 a3,a9.upd a3⟩
  ·rcases Gw.1 ht with ht|ht
   ·exact h.ok t ht
   rw[G2.1 ht];exact ho
  rw[aL,zu a0]
  by_cases e:s=t
  ·subst e;rw[if_pos rfl,if_pos rfl,a8];rfl
  rw[if_neg (fun e2=>e (uQ ho ht (BZ e2))),if_neg e];exact h.key t ht
theorem AP{r:List Nat}{m N x:Nat}(hr:r.length=m)(hm:m<N):(r++GA (N-m) 0).set m x=(r++[x])++GA (N-(m+1)) 0:=by
 obtain⟨k,hk⟩:∃k,N-m=k+1:=⟨N-m-1,zo⟩
 rw[show N-(m+1)=k from by omega,hk,List.set_append_right _ _ zo,hr,Iu,Jg,List.set_cons_zero,Ia];rfl
theorem Free.lowT{O:Nat->Nat}{w:ln}{v:ix}(h:IG O w v)(T:Nat):IG (IF O T) w v:=fun a n c e hn=>⟨jD (h a n c e hn).1,(h a n c e hn).2⟩
theorem MkO.lowT{O:Nat->Nat}{w:ln}{i mb nb kr:Nat}{sv:ix}{vs:List ix}{S:List (List Int)}{l:List (ByteArray×Int)}(h:MkO O w i mb nb kr sv vs S l){T:Nat}(hT:i+2<T):MkO (IF O T) w i mb nb kr sv vs S l:=
 ⟨h.blk.lowT zo,h.map.fgt (by unfold IF;rw[h.map.tag,if_neg zo]),h.row.lowT zo,h.len,fun k hk=>⟨(h.at_ k hk).1,Free.lowT (h.at_ k hk).2 T⟩,h.ok,h.key⟩
theorem BW{g:Gr}(hl:g.ls.length<=999){s:List Int}(h:inP g s):okS s:=fun x hx=>⟨(h x hx).1,IJ (h x hx).2 hl⟩
theorem zU(B:Nat)(O:Nat->Nat)(w w0:ln)(i mb nb kr:Nat)(se:Bool)(g:Gr)(mv:ix)(vs:List ix)(S:List (List Int))(l:List (ByteArray×Int))(q:Nat)(hi:i≠0)(hR:ID B O w)(h:MkO O w i mb nb kr mv vs S l)(hD:NfD w0 nb se g)(f5:Gu (fun q=>1<=q) (fun _=>0) w0 O w) 
  (hw:WF g) (h0:0<g.ks.length) (ht:Tot g) (d4:g.ls.length<=999) (d5:∀s∈S,inP g s) (c9:∀s∈S,s.length<=1000) (hq:q<S.length) (hS:S.length<=1000) :
  J2 GY 90 [nP mb,nI (q:Nat)] w fun v w'=>∃O' mv' vs' l',Gu (fun q=>i<=q/\q<=i+2) O w O' w'/\ID B O' w'/\MkO O' w' i mb nb kr mv' vs' (cZ (cG se g) (nth S q) S 37).1 l'/\Sl aJ 1 w' v (cZ (cG se g) (nth S q) S 37).2/\IG O' w' v/\(∀s∈(cZ (cG se g) (nth S q) S 37).1,inP g s/\s.length<=1000):=by
 obtain⟨T0,g3,c6⟩:=hR.bound;obtain⟨T,g2⟩:∃T,T=T0+i+3:=⟨_,rfl⟩
 have hT:∀b,O b<T:=fun b=>by have:=c6 b;omega
 have a5:=jx (cG se g) (nth S q) S;have b5:=d5 _ (aN hq);have e3:=c9 _ (aN hq);refine Gp func90 ntmps90 rfl rfl ?_;refine zh ?_;obtain⟨N,hN⟩:∃N:Nat,N=37:=⟨_,rfl⟩
 refine cR jj (val:=fun n:Nat=>nI (n:Int)) (0:Nat) zk (fun _=>rfl) hR T zo 37 rfl rfl zd zd zd zd rfl ?_;intro w1 O1 ov e5 a4 d7 f8 g4;clear e5;have e8:=h.upd d7 hi zo zo zo;refine zh ?_
 refine zvH (bd a4.sl.sh G0 rfl) ?_;rw[J6];refine zlp (fun z:Nat×(Nat->Nat)×World×ix×List ix×List (ByteArray×Int)=>[(0,nP mb),(1,nI (q:Nat)),(5,ov),(8,ov),(9,nI ((37:Nat):Int)),(10,nI z.1)]) (fun z=>z.2.2.1) (fun z=>z.1<=37/\Gu (fun j=>j=T\/i<=j/\j<=i+2) O w z.2.1 z.2.2.1/\ID B z.2.1 z.2.2.1/\MkO z.2.1 z.2.2.1 i mb nb kr z.2.2.2.1 z.2.2.2.2.1 (cZ (cG se g) (nth S q) S z.1).1 z.2.2.2.2.2/\GN aJ 3 1 z.2.1 z.2.2.1 T ov ((cZ (cG se g) (nth S q) S z.1).2++GA (37-z.1) 0)/\∀s∈(cZ (cG se g) (nth S q) S z.1).1,inP g s/\s.length<=1000) (fun z=>37-z.1) (0,O1,w1,mv,vs,l) (⟨G7 _,d7.mono (fun _ h=>.inl h) zo,f8,e8,a4,fun s hs=>⟨d5 s hs,c9 s hs⟩⟩) ?_
 rintro⟨m,O2,w2,a',a9,l2⟩ ⟨b7,b4,a8,b0,a0,a1⟩;dsimp only at b7 b4 a8 b0 a0 a1 ⊢;have c':=(a5 m).len;have c8:=(a5 m).top;have b2:((cZ (cG se g) (nth S q) S m).2++GA (37-m) 0).length=37:=by simp[c'];omega
 refine zh ?_;refine zC ?_ ?_
 ·intro b1;replace b1:m<37:=dT b1;obtain⟨pq,d0⟩:=(a5 m).pre;have e4:q<(cZ (cG se g) (nth S q) S m).1.length:=by rw[d0];simp;omega
  have e6:nth (cZ (cG se g) (nth S q) S m).1 q=nth S q:=by rw[d0,ay,if_pos hq]
  have c5:=f5.trans (b4.mono (S':=fun q=>1<=q) (fun j h=>zo) zo);have hU02d:=c5.drew;have f9:=hD.ext hU02d.ext;have hm2d:=b0.upd (aa (S:=fun _=>False) (fun h=>h) O2 (GB w2).drew) hi (fun h=>h) (fun h=>h) fun h=>h
  have c0:w2.drew.cell? (nA mb 0)=some (nP nb):=hm2d.blk.cell 0 rfl;have c2:w2.drew.cell? (nA mb 2)=some a':=hm2d.blk.cell 2 rfl;have c7:=hm2d.row.sl;have g0:=hm2d.len;have cq:w2.drew.cell? (adr a' 1 q)=some (nth a9 q):=by have:=c7.cell (i:=q) (j:=0) zo rfl;rwa[az]at this
  obtain⟨a6,f3⟩:=hm2d.at_ q e4;rw[e6]at a6;refine zh ?_;refine aK (fun W=>W.cell? (nA mb 0)=some (nP nb)) 19 rfl zk ?_;refine zrm 0 rfl c0 rfl ?_;refine zrm 1 rfl c0 rfl ?_;refine zrm 2 rfl c0 rfl ?_;refine zrm 3 rfl c0 rfl ?_;refine zr 4 rfl c0 (fun _=>aq rfl) ?_;refine zrf 5 rfl c0 rfl ?_;refine zt 6 rfl c0 (fun w1 e1=>RV.ld e1 rfl) ?_;refine zrm 7 rfl c0 rfl ?_;refine zr 8 rfl c0 (fun _=>aq rfl) ?_;refine zrf 9 rfl c0 rfl ?_;refine zrm 11 rfl c0 rfl ?_;refine zrm 14 rfl c0 rfl ?_;refine Gn 10 zk rfl ?_;refine zvH (RV.ld c2 rfl) ?_;refine af (c0) ?_;refine zr 12 rfl (c0) (fun _=>aA c7.sh GG (IU _) rfl rfl q rfl zo) ?_;refine Gn 13 zk rfl ?_;refine zvH (RV.ld cq rfl) ?_;refine af (c0) ?_;refine Gn 15 zk rfl ?_;refine zc call116 (step_ret w2.drew nb se g (nth S q) (nth a9 q) (m:Nat) f9 a6 hw h0 ht b5 e3 d4) ?_;rintro tv w3 ⟨e2,d8,e'⟩;refine zh ?_;refine af (d8.cell c0) ?_;have b8:=e' B O2 a8.drew;have b3:Gu (fun _=>False) O2 w2 O2 w3:=aa (fun h=>h) O2 ((GB w2).drew.trans d8);have e7:=b0.upd b3 hi (fun h=>h) (fun h=>h) fun h=>h
  have f7:=a8.upd b3;have a7:=a0.upd b3 zo fun h=>h
  have d1:=ye hw h0 (qG se g) b5 (m:Nat);have g1:=AO (se:=se) hw h0 b5 (m:Nat);refine Gn 16 zk rfl ?_;refine zc call88 (kZ B O2 w3 i mb nb kr a' a9 (cZ (cG se g) (nth S q) S m).1 l2 (cG se g (nth S q) (m:Nat)) tv hi f7 e7 e2 b8 (BW d4 d1) zo zo) ?_;rintro _ w4 ⟨O4,e0,d',l4,rfl,d6,f6,d3⟩;have d9:w4.cell? (nA mb 0)=some (nP nb):=d3.blk.cell 0 rfl;refine zh ?_;refine af (d9) ?_;have a3:=a7.upd d6 zo zo;have b6:=a3.sl;refine zr 17 rfl (d9) (fun _=>aA b6.sh G0 (Gx _) rfl rfl m rfl zo) ?_;refine Gn 18 zk rfl ?_;refine Iv a3 m zo (AC (cZ (cG se g) (nth S q) S m).1 (cG se g (nth S q) (m:Nat))) (Gx _) rfl zo rfl rfl rfl rfl ?_;intro w5 a2 b9;rw[AP c' b1]at a2;have d2:=d3.upd b9 hi zo zo zo;have f':w5.cell? (nA mb 0)=some (nP nb):=d2.blk.cell 0 rfl;refine zh ?_;refine af (f') ?_;have b':Gu (fun j=>j=T\/i<=j/\j<=i+2) O w O4 w5:=((b4.trans (b3.mono (fun _ h=>h.elim) zo)).trans (d6.mono (fun _ h=>.inr h) zo)).trans (b9.mono (fun _ h=>.inl h) zo);refine I6 zk ?_;refine zh ?_;refine zxd (m+1,O4,w5,e0,d',l4) (⟨b1,b',f6.upd b9,d2,a2,fun s hs=>?_⟩)
  ·have hs:s∈pF (cZ (cG se g) (nth S q) S m).1 (cG se g (nth S q) (m:Nat)):=hs;unfold pF at hs
   split at hs
   ·exact a1 s hs
   rcases Gw.1 hs with hs|hs
   ·exact a1 s hs
   rw[G2.1 hs];exact⟨d1,zo⟩
 intro e9;obtain rfl:m=37:=dF e9;rw[Iu,List.replicate_zero,GC]at a0
 have f4:=b4.lowT (S':=fun q=>i<=q/\q<=i+2) hT (fun b hb=>by
  rcases hb with hb|hb
  ·have:=hT b;omega
  exact hb) zo
 refine zh ?_;refine ae rfl rfl (⟨lowT O2 T,a',a9,l2,f4,a8.lowT T,MkO.lowT b0 zo,a0.sl,fun a n c e hn=>?_,a1⟩)
 have hb:=a0.1.tag a.block (by subst e;rfl);refine⟨by unfold lowT;rw[hb,if_pos (G9 _)],(a8.rng a.block (by rw[hb];omega)).2⟩
abbrev ff(n:Nat):List ix:=[.int .u64 (n:Int)]
def RowsN(w:ln)(v:ix)(rows:List (List Nat)):Prop:=∃vs,Sl xH 1 w v vs/\vs.length=rows.length/\∀i,i<rows.length->Sl aJ 1 w (nth vs i) (nth rows i)
theorem RowsN.ext{w w':ln}{v:ix}{rows:List (List Nat)}(h:RowsN w v rows)(e:IT w w'):RowsN w' v rows:=by
 obtain⟨vs,h1,h2,h3⟩:=h;exact⟨vs,h1.ext e,h2,fun i hi=>(h3 i hi).ext e⟩
structure RwO(O:Nat->Nat)(w:ln)(i:Nat)(v:ix)(vs:List ix)(rows:List (List Nat)):Prop where
 row:GN xH 25 1 O w i v vs
 len:vs.length=rows.length
 at_:∀k,k<rows.length->Sl aJ 1 w (nth vs k) (nth rows k)/\IG O w (nth vs k)
theorem RwO.upd{S:Nat->Prop}{O O':Nat->Nat}{w w':ln}{i:Nat}{v:ix}{vs:List ix}{rows:List (List Nat)}(h:RwO O w i v vs rows)(u:Gu S O w O' w')(hi:i≠0)(hS:¬S i):RwO O' w' i v vs rows:=
 ⟨h.row.upd u hi hS,h.len,fun k hk=>⟨(h.at_ k hk).1.upd (h.at_ k hk).2 u,(h.at_ k hk).2.upd u⟩⟩
theorem RwO.drew{O:Nat->Nat}{w:ln}{i:Nat}{v:ix}{vs:List ix}{rows:List (List Nat)}(h:RwO O w i v vs rows):RwO O w.drew i v vs rows:=⟨h.row.drew,h.len,fun k hk=>⟨(h.at_ k hk).1.drew,(h.at_ k hk).2.upd (aa (S:=fun _=>False) (fun h=>h) O (GB w).drew)⟩⟩
theorem RwO.rows{O:Nat->Nat}{w:ln}{i:Nat}{v:ix}{vs:List ix}{rows:List (List Nat)}(h:RwO O w i v vs rows):RowsN w v rows:=⟨vs,h.row.sl,h.len,fun k hk=>(h.at_ k hk).1⟩
def FQ(w:ln)(v:ix):Option (List (List Nat)×List Nat)->Prop
 |some d=>∃nv tv,v=.tuple #[.agg #[nv,tv],nI 0]/\nv.oneCell'=true/\tv.oneCell'=true/\RowsN w nv d.1/\Sl ff 1 w tv d.2
 |none=>v=.tuple #[.agg #[nS,nS],nI 7]
set_option maxHeartbeats 1000000 in
theorem zV(nb:Nat)(se:Bool)(g:Gr)(w:ln)(hD:NfD w nb se g)(hw:WF g)(h0:0<g.ks.length)(ht:Tot g)(m0:g.ls.length<=999)(j0:∀q,g.en q<=40):
  J2 GY 57 [nP nb] w fun v w'=>IT w w'/\FQ w' v (BY (cG se g) (dy g)):=by
 have e4:∀s,dy g s<2^40:=fun s=>by
  have m8:∀(s:List Int) (b:Nat),b<2^40->s.foldl (fun b p=>b ||| nh g p.toNat) b<2^40:=fun s=>by
   induction s with
   |nil=>exact fun b hb=>hb
   |cons p s ih=>exact fun b hb=>ih _ (Jp hb (jn j0 _ 0 zd))
  exact m8 s 0 zd
 refine Gp func57 ntmps57 rfl rfl ?_;refine zh ?_
 refine ar (aw w) 7 zo (Ic _) rfl ?_;intro cb wa Oa k8 n6 o0 o9;refine zh ?_
 refine zvH (kQ (q:=some ⟨nb,0,none⟩) IM rfl rfl) ?_;refine zFH rfl rfl ?_
 refine aV J1 kvI o0 2 zd rfl ?_;intro kr wb Ob n1 m2 n';refine zv (aD Fp (zeroValue174 _) rfl (by first|rfl|(simp only[GS,Ij];rfl)) rfl rfl) ?_
 refine aG n' 1 zo rfl rfl ?_;intro mb wc Oc n0 l3 m3 o8;have k2:MkO Oc wc 1 mb nb kr (nS) [] [] []:=⟨n0,n1.upd l3 zd zd,GQ _ _ _ _ _ _,rfl,fun k hk=>absurd hk (G1 k),fun s hs=>absurd hs (by simp),fun s _=>rfl⟩
 have l5:=((n6.mono (S':=fun j=>1<=j) (fun j h=>zo) zd).trans (m2.mono (fun j h=>zo) zd)).trans (l3.mono (fun j h=>zo) zd);refine zh ?_;refine zc call89 (zZ wc nb) ?_;rintro bv wd ⟨n4,o3,n5⟩;have k9:=n5 w.heap.size Oc m3;have j7:Gu (fun _=>False) Oc wc Oc wd:=aa (fun h=>h) Oc o3;have i':inP g [0]:=fun x hx=>by rw[G2.1 hx];exact⟨JK _,G7 _⟩
 refine zc call88 (kZ w.heap.size Oc wd 1 mb nb kr _ _ _ _ [0] bv zd (m3.upd j7) (k2.upd j7 zd (fun h=>h) (fun h=>h) fun h=>h) n4 k9 (BW m0 i') zd zd) ?_;rintro _ we ⟨Oe,m7,m5,le,rfl,m1,n9,i9⟩;have n7:pF [] [0]=[[0]]:=rfl;rw[n7]at i9;have l1:Gu (fun j=>1<=j) Oc wd Oe we:=m1.mono (fun j h=>zo) zd;refine zh ?_
 refine ar n9 4 zo (Ic _) rfl ?_;intro db wf Of k4 l0 n8 o7;have k7:=(((k8.upd m2 zd zd).upd l3 zd zd).upd j7 zd fun h=>h)
 have k6:=(k7.upd m1 zd zd).upd l0 zd zd;have l4:=((l5.trans (j7.mono (fun _ h=>h.elim) zd)).trans l1).trans (l0.mono (fun j h=>zo) zd);refine zh ?_;refine zlp (fun z:Nat×(Nat->Nat)×World×ix×List ix×List (List Int)×List (ByteArray×Int)×List (List Nat)×List Nat×List ix×ix×ix=>[(0,nP nb),(2,nP cb),(3,nI 0),(4,nP mb),(5,nP db),(6,nI z.1)]) (fun z=>z.2.2.1) (fun z=>Gu (fun j=>1<=j) (fun _=>0) w z.2.1 z.2.2.1/\ID w.heap.size z.2.1 z.2.2.1/\MkO z.2.1 z.2.2.1 1 mb nb kr z.2.2.2.1 z.2.2.2.2.1 z.2.2.2.2.2.1 z.2.2.2.2.2.2.1/\If z.2.1 z.2.2.1 4 db #[z.2.2.2.2.2.2.2.2.2.2.1,z.2.2.2.2.2.2.2.2.2.2.2] 91/\RwO z.2.1 z.2.2.1 5 z.2.2.2.2.2.2.2.2.2.2.1 z.2.2.2.2.2.2.2.2.2.1 z.2.2.2.2.2.2.2.1/\GN ff 24 1 z.2.1 z.2.2.1 6 z.2.2.2.2.2.2.2.2.2.2.2 z.2.2.2.2.2.2.2.2.1/\If z.2.1 z.2.2.1 7 cb #[nS,nS] 91/\DI (cG se g) (dy g) z.1 z.2.2.2.2.2.1 z.2.2.2.2.2.2.2.1 z.2.2.2.2.2.2.2.2.1/\(∀s∈z.2.2.2.2.2.1,inP g s/\s.length<=1000)/\C3 (cG se g) (dy g) (1002-z.1) z.1 z.2.2.2.2.2.1 z.2.2.2.2.2.2.2.1 z.2.2.2.2.2.2.2.2.1=BY (cG se g) (dy g)) (fun z=>1002-z.1) (0,Of,wf,m7,m5,[[0]],le,[],[],[],nS,nS) (⟨l4,n8,i9.upd l0 zd zd zd zd,k4,⟨GQ _ _ _ _ _ _,rfl,fun k hk=>absurd hk (G1 k)⟩,GQ _ _ _ _ _ _,k6,vx _ _,fun s hs=>by rw[G2.1 hs];exact⟨i',zd⟩,rfl⟩) ?_;rintro⟨q,O1,w1,mv,vs,S,l,rows,i7,i4,nv,tv⟩ ⟨b2,m4,e9,f4,d',e3,e0,i6,f7,c6⟩;dsimp only at b2 m4 e9 f4 d' e3 e0 i6 f7 c6 ⊢;have o6:=i6.le
 have o5:=i6.rl;have o4:=i6.tl;have j3:=i6.len;have m':=d'.len;have c2:w1.cell? (nA mb 2)=some mv:=e9.blk.cell 2 rfl;have i5:=e9.len;refine zh ?_;refine zvH (bd e9.row.sl.sh GG rfl) ?_;refine zC ?_ ?_
 ·intro g0;replace g0:q<S.length:=dT g0;obtain⟨n,hn⟩:∃n,1002-q=n+1:=⟨1001-q,zo⟩
  rw[hn,C3,if_pos g0]at c6;have e':=jx (cG se g) (nth S q) S 37;have j2:=i6.next g0;have j6:=(f7 _ (aN g0)).1;have n3:w1.drew.cell? (nA db 0)=some nv:=f4.cell 0 rfl;have hmk1d:=e9.upd (aa (S:=fun _=>False) (fun h=>h) O1 (GB w1).drew) zd (fun h=>h) (fun h=>h) fun h=>h
  have h1:=zU w.heap.size O1 w1.drew w 1 mb nb kr se g mv vs S l q zd m4.drew hmk1d hD b2.drew hw h0 ht m0 (fun s hs=>(f7 s hs).1) (fun s hs=>(f7 s hs).2) g0 j3;generalize cZ (cG se g) (nth S q) S 37=RT at *;obtain⟨S1,r1⟩:=RT;dsimp only at c6 e' j2 h1;refine zh ?_;refine aK (fun _=>True) 9 rfl zk ?_;refine zin trivial fun zS=>?_
  refine zrf 0 rfl zS rfl ?_;refine zrm 2 rfl zS rfl ?_
  refine zrm 3 rfl zS rfl ?_;refine bL 1 4 zk rfl rfl ?_ ?_
  ·refine zvH (RV.ld n3 rfl) ?_;refine af trivial ?_
   refine Gn 4 zk rfl ?_;refine zc call90 h1 ?_
   rintro rv w2 ⟨O2,a7,b',l2,k',l8,h6,e6,e8,f3⟩;have g9:=e6.shape;obtain⟨ra,rc,rfl,_⟩:=g9;have b6:Gu (fun j=>1<=j/\j<=3) O1 w1.drew O2 w2:=k';have g8:=d'.drew.upd b6 zd zd;have f8:=f4.drew.upd b6 zd zd;have h9:=e0.drew.upd b6 zd zd;have g6:=e3.drew.upd b6 zd zd;have h':Gu (fun j=>1<=j/\j<=3) O1 w1 O2 w2:=(aa zd O1 (GB w1).drew).trans b6;refine zh ?_;refine af trivial ?_;refine Gn 5 zk rfl ?_;refine bH xI (enc:=xH) (.slice ra r1.length rc:ix) rfl rfl rfl zd rfl ?_;intro m6 w3 g7 l9;have c7:Gu (fun _=>False) O2 w2 O2 w3:=aa (fun h=>h) O2 l9;have i0:Gu (fun q=>1<=q) O1 w1 O2 w3:=(h'.mono (fun j h=>zo) zd).trans (c7.mono (fun _ h=>h.elim) zd);have l7:=l8.upd c7;have d2:=g8.upd c7 zd fun h=>h
   have h7:=f8.upd c7 zd fun h=>h
   have h8:=h9.upd c7 zd fun h=>h
   have g5:=g6.upd c7 zd fun h=>h
   have h5:=h6.upd c7 zd (fun h=>h) (fun h=>h) fun h=>h
   have g':=e6.upd e8 c7;have d3:=e8.upd c7;refine zh ?_;refine af trivial ?_;refine Gn 6 zk rfl ?_;refine aC xI (d2.row) l7 g7 (by simp) rfl rfl (by simp) (fun u hu c hc=>by rw[G2.1 hu]at hc;rw[G2.1 hc];rfl) (by simp;omega) (by simp;omega) zd rfl ?_;intro b3 w4 O4 c8 b8 l6;have d8:=h7.upd b8 zd zd;refine zh ?_;refine af (trivial) ?_;refine zrf 7 rfl (trivial) rfl ?_;refine Gn 8 zk rfl ?_;refine aj (j:=0) d8 rfl (Ju _) c8.one rfl rfl rfl ?_;have c5:Gu (fun j=>j=4) O4 w4 O4 (w4.setCell ⟨db,0,none⟩ b3):=Ib zd d8.tag rfl;have d7:If O4 (w4.setCell ⟨db,0,none⟩ b3) 4 db #[b3,tv] 91:=d8.set 0 b3;refine zh ?_;refine af (trivial) ?_;have j1:=l6.upd c5;have e7:=c8.upd c5 zd zd;have a8:=(h5.upd b8 zd zd zd zd).upd c5 zd zd zd zd;have e2:=(g5.upd b8 zd zd).upd c5 zd zd;have f5:=(h8.upd b8 zd zd).upd c5 zd zd;have e5:RwO O4 (w4.setCell ⟨db,0,none⟩ b3) 5 b3 (i4++[.slice ra r1.length rc]) (rows++[r1]):=by
    have i5:=d2.len;refine⟨e7,by simp[i5],fun k hk=>?_⟩;rw[ay,ay,i5]
    by_cases e:k<rows.length
    ·rw[if_pos e,if_pos e];obtain⟨a1,a2⟩:=d2.at_ k e;exact⟨(a1.upd a2 b8).upd (a2.upd b8) c5,(a2.upd b8).upd c5⟩
    rw[if_neg e,if_neg e];simp only[GP,GO,IS]at hk;rw[show k-rows.length=0 from by omega,au,au];exact⟨(g'.upd d3 b8).upd (d3.upd b8) c5,(d3.upd b8).upd c5⟩
   have d9:Gu (fun q=>1<=q) O1 w1 O4 (w4.setCell ⟨db,0,none⟩ b3):=(i0.trans (b8.mono (fun j h=>zo) zd)).trans (c5.mono (fun j h=>zo) zd);generalize w4.setCell ⟨db,0,none⟩ b3=w5 at *;refine I6 zk ?_;refine zh ?_;have g4:=a8.len;have i8:q<b'.length:=by obtain⟨pq,h3⟩:=e'.pre;rw[g4,h3];simp;omega
   have h2:q<S1.length:=zo;have h4:nth S1 q=nth S q:=by obtain⟨pq,h3⟩:=e'.pre;rw[h3,ay,if_pos g0]
   have b0:w5.drew.cell? (nA mb 2)=some a7/\w5.drew.cell? (adr a7 1 q)=some (nth b' q):=⟨a8.blk.cell 2 rfl,by have:=a8.row.sl.cell (i:=q) (j:=0) i8 rfl;rwa[az]at this⟩
   have sd:∀W,IT w5.drew W->W.cell? (nA mb 2)=some a7/\W.cell? (adr a7 1 q)=some (nth b' q):=fun W hE=>⟨hE.cell b0.1,hE.cell b0.2⟩
   have j5:w5.drew.cell? (nA db 1)=some tv:=d7.cell 1 rfl;have j4:=hD.ext (b2.trans d9).drew.ext;obtain⟨d0,k0⟩:=a8.at_ q h2;rw[h4]at d0;have m9:=e4 (nth S q);refine aK (fun W=>W.cell? (nA mb 2)=some a7/\W.cell? (adr a7 1 q)=some (nth b' q)) 15 rfl zk ?_;refine zrf 0 rfl b0 rfl ?_;refine zrm 2 rfl b0 rfl ?_;refine zrm 3 rfl b0 rfl ?_;refine zr 4 rfl b0 (fun _=>aq rfl) ?_;refine zrf 5 rfl b0 rfl ?_;refine zt 6 rfl b0 (fun w1 g1=>RV.ld g1.1 rfl) ?_;refine zrm 7 rfl b0 rfl ?_;refine zr 8 rfl b0 (fun _=>aA a8.row.sl.sh GG (IU _) rfl rfl q rfl i8) ?_;refine zt 9 rfl b0 (fun w1 g1=>RV.ld g1.2 rfl) ?_;refine bL 1 10 zk rfl rfl ?_ ?_
   ·refine zvH (RV.ld j5 rfl) ?_;refine af b0 ?_
    refine Gn 10 zk rfl ?_;refine zc JL (jl w5.drew nb se g (nth S q) _ j4 d0.drew j6 j0) ?_
    rintro j8 w9 ⟨rfl,e1⟩;rw[e1];clear e1 w9;refine zh ?_;refine af b0 ?_;refine Gn 11 zk rfl ?_;refine bH iE (enc:=ff) (dy g (nth S q)) rfl rfl rfl zd rfl ?_;intro j9 w6 c' f';refine zh ?_;refine af (sd _ f') ?_;have a':Gu (fun _=>False) O4 w5 O4 w6:=aa (fun h=>h) O4 ((GB w5).drew.trans f');have c9:=e2.upd a' zd fun h=>h
    have d6:=d7.upd a' zd fun h=>h
    have d4:=a8.upd a' zd (fun h=>h) (fun h=>h) fun h=>h
    have i3:=j1.upd a';refine Gn 12 zk rfl ?_;refine aC iE c9 i3 c' (by simp) rfl rfl (by simp) (by simp[G6]) (by simp;omega) (by simp;omega) zd rfl ?_;intro a3 w7 O7 a6 b7 i2;have a9:=d6.upd b7 zd zd;have a4:=d4.upd b7 zd zd zd zd;have g3:=a4.len;have s7:w7.cell? (nA mb 2)=some a7/\w7.cell? (adr a7 1 q)=some (nth b' q):=⟨a4.blk.cell 2 rfl,by have:=a4.row.sl.cell (i:=q) (j:=0) zo rfl;rwa[az]at this⟩
    refine zh ?_;refine af (s7) ?_
    refine zrf 13 rfl (s7) rfl ?_;refine Gn 14 zk rfl ?_
    refine aj (j:=1) a9 rfl (J3 _) a6.one rfl rfl rfl ?_;have b1:Gu (fun j=>j=4) O7 w7 O7 (w7.setCell ⟨db,1,none⟩ a3):=Ib zd a9.tag rfl;have d5:If O7 (w7.setCell ⟨db,1,none⟩ a3) 4 db #[b3,a3] 91:=a9.set 1 a3;have a0:=a4.upd b1 zd zd zd zd;have g2:=a0.len;have s8:(w7.setCell ⟨db,1,none⟩ a3).cell? (nA mb 2)=some a7/\(w7.setCell ⟨db,1,none⟩ a3).cell? (adr a7 1 q)=some (nth b' q):=⟨a0.blk.cell 2 rfl,by have:=a0.row.sl.cell (i:=q) (j:=0) zo rfl;rwa[az]at this⟩
    refine zh ?_;refine af (s8) ?_
    have b4:=a6.upd b1 zd zd;have i1:=i2.upd b1;have d1:=((e5.upd a' zd fun h=>h).upd b7 zd zd).upd b1 zd zd;have a5:=((f5.upd a' zd fun h=>h).upd b7 zd zd).upd b1 zd zd;have b9:Gu (fun q=>1<=q) O1 w1 O7 (w7.setCell ⟨db,1,none⟩ a3):=((d9.trans (a'.mono (fun _ h=>h.elim) zd)).trans (b7.mono (fun j h=>zo) zd)).trans (b1.mono (fun j h=>zo) zd);generalize w7.setCell ⟨db,1,none⟩ a3=w8 at *;have l':=s8.1;refine I6 zk ?_;refine zh ?_;refine zvH (bd a0.row.sl.sh GG rfl) ?_
    by_cases b5:1000<S1.length
    ·rw[if_pos b5]at c6;rw[<-c6];refine zTH rfl ((decide_eq_true zo)) ?_;refine zv (aD Df (Ic _) rfl (by first|rfl|(simp only[GS,Ij];rfl)) rfl rfl) ?_;refine zsa (us:=#[nS,nS]) a5 (GL _) ?_;have f9:=a5.setRow (us:=#[nS,nS]);have f6:Gu (fun j=>j=7) O7 w8 O7 (w8.setRow cb #[nS,nS]):=GE zd a5.tag rfl;refine zh ?_;refine aO rfl rfl rfl (f9.cellsAdd) (Im _) (GL _) (⟨((b2.trans b9).trans (f6.mono (fun j h=>zo) zd)).ext,rfl⟩)
    rw[if_neg b5]at c6;refine zFH rfl ((decide_eq_false zo)) ?_;refine zxd (q+1,O7,w8,a7,b',S1,l2,rows++[r1],i7++[dy g (nth S q)],i4++[.slice ra r1.length rc],b3,a3) (⟨b2.trans b9,i1,a0,d5,d1,b4,a5,j2 zo,f3,by dsimp only;rw[show 1002-(q+1)=n from by omega];exact c6⟩)
   refine zc JL (jl w5.drew nb se g (nth S q) _ j4 d0.drew j6 j0) ?_;rintro j8 w9 ⟨rfl,e1⟩;rw[e1];clear e1 w9;refine zh ?_
   refine af b0 ?_;refine bS 1 11 iE (enc:=ff) (dy g (nth S q)) rfl rfl zk zk zk zk (fun W hE=>J7 (hE.cell j5) (JU _) rfl) sd rfl rfl rfl zd rfl rfl rfl rfl rfl ?_
   intro j9 w6 c' f';have a':Gu (fun _=>False) O4 w5 O4 w6:=aa (fun h=>h) O4 ((GB w5).drew.trans f');have c9:=e2.upd a' zd fun h=>h
   have d6:=d7.upd a' zd fun h=>h
   have d4:=a8.upd a' zd (fun h=>h) (fun h=>h) fun h=>h
   have i3:=j1.upd a';refine Gn 12 zk rfl ?_;refine aC iE c9 i3 c' (by simp) rfl rfl (by simp) (by simp[G6]) (by simp;omega) (by simp;omega) zd rfl ?_;intro a3 w7 O7 a6 b7 i2;have a9:=d6.upd b7 zd zd;have a4:=d4.upd b7 zd zd zd zd;have g3:=a4.len;have s7:w7.cell? (nA mb 2)=some a7/\w7.cell? (adr a7 1 q)=some (nth b' q):=⟨a4.blk.cell 2 rfl,by have:=a4.row.sl.cell (i:=q) (j:=0) zo rfl;rwa[az]at this⟩
   refine zh ?_;refine af (s7) ?_
   refine zrf 13 rfl (s7) rfl ?_;refine Gn 14 zk rfl ?_
   refine aj (j:=1) a9 rfl (J3 _) a6.one rfl rfl rfl ?_;have b1:Gu (fun j=>j=4) O7 w7 O7 (w7.setCell ⟨db,1,none⟩ a3):=Ib zd a9.tag rfl;have d5:If O7 (w7.setCell ⟨db,1,none⟩ a3) 4 db #[b3,a3] 91:=a9.set 1 a3;have a0:=a4.upd b1 zd zd zd zd;have g2:=a0.len;have s8:(w7.setCell ⟨db,1,none⟩ a3).cell? (nA mb 2)=some a7/\(w7.setCell ⟨db,1,none⟩ a3).cell? (adr a7 1 q)=some (nth b' q):=⟨a0.blk.cell 2 rfl,by have:=a0.row.sl.cell (i:=q) (j:=0) zo rfl;rwa[az]at this⟩
   refine zh ?_;refine af (s8) ?_
   have b4:=a6.upd b1 zd zd;have i1:=i2.upd b1;have d1:=((e5.upd a' zd fun h=>h).upd b7 zd zd).upd b1 zd zd;have a5:=((f5.upd a' zd fun h=>h).upd b7 zd zd).upd b1 zd zd;have b9:Gu (fun q=>1<=q) O1 w1 O7 (w7.setCell ⟨db,1,none⟩ a3):=((d9.trans (a'.mono (fun _ h=>h.elim) zd)).trans (b7.mono (fun j h=>zo) zd)).trans (b1.mono (fun j h=>zo) zd);generalize w7.setCell ⟨db,1,none⟩ a3=w8 at *;have l':=s8.1;refine I6 zk ?_;refine zh ?_;refine zvH (bd a0.row.sl.sh GG rfl) ?_
   by_cases b5:1000<S1.length
   ·rw[if_pos b5]at c6;rw[<-c6];refine zTH rfl ((decide_eq_true zo)) ?_;refine zv (aD Df (Ic _) rfl (by first|rfl|(simp only[GS,Ij];rfl)) rfl rfl) ?_;refine zsa (us:=#[nS,nS]) a5 (GL _) ?_;have f9:=a5.setRow (us:=#[nS,nS]);have f6:Gu (fun j=>j=7) O7 w8 O7 (w8.setRow cb #[nS,nS]):=GE zd a5.tag rfl;refine zh ?_;refine aO rfl rfl rfl (f9.cellsAdd) (Im _) (GL _) (⟨((b2.trans b9).trans (f6.mono (fun j h=>zo) zd)).ext,rfl⟩)
   rw[if_neg b5]at c6;refine zFH rfl ((decide_eq_false zo)) ?_;refine zxd (q+1,O7,w8,a7,b',S1,l2,rows++[r1],i7++[dy g (nth S q)],i4++[.slice ra r1.length rc],b3,a3) (⟨b2.trans b9,i1,a0,d5,d1,b4,a5,j2 zo,f3,by dsimp only;rw[show 1002-(q+1)=n from by omega];exact c6⟩)
  refine zc call90 h1 ?_;rintro rv w2 ⟨O2,a7,b',l2,k',l8,h6,e6,e8,f3⟩;have g9:=e6.shape;obtain⟨ra,rc,rfl,_⟩:=g9;have b6:Gu (fun j=>1<=j/\j<=3) O1 w1.drew O2 w2:=k';have g8:=d'.drew.upd b6 zd zd;have f8:=f4.drew.upd b6 zd zd;have h9:=e0.drew.upd b6 zd zd;have g6:=e3.drew.upd b6 zd zd;have h':Gu (fun j=>1<=j/\j<=3) O1 w1 O2 w2:=(aa zd O1 (GB w1).drew).trans b6;refine zh ?_
  refine af trivial ?_;have k5:w2.cell? (nA db 0)=some nv:=f8.cell 0 rfl;refine bS 1 5 xI (enc:=xH) (.slice ra r1.length rc:ix) rfl rfl zk zk zk zk (fun W hE=>J7 (hE.cell k5) (isAgg89 _) rfl) (fun _ _=>trivial) rfl rfl rfl zd rfl rfl rfl rfl rfl ?_
  intro m6 w3 g7 l9;have c7:Gu (fun _=>False) O2 w2 O2 w3:=aa (fun h=>h) O2 l9;have i0:Gu (fun q=>1<=q) O1 w1 O2 w3:=(h'.mono (fun j h=>zo) zd).trans (c7.mono (fun _ h=>h.elim) zd);have l7:=l8.upd c7;have d2:=g8.upd c7 zd fun h=>h
  have h7:=f8.upd c7 zd fun h=>h
  have h8:=h9.upd c7 zd fun h=>h
  have g5:=g6.upd c7 zd fun h=>h
  have h5:=h6.upd c7 zd (fun h=>h) (fun h=>h) fun h=>h
  have g':=e6.upd e8 c7;have d3:=e8.upd c7;refine Gn 6 zk rfl ?_;refine aC xI (d2.row) l7 g7 (by simp) rfl rfl (by simp) (fun u hu c hc=>by rw[G2.1 hu]at hc;rw[G2.1 hc];rfl) (by simp;omega) (by simp;omega) zd rfl ?_;intro b3 w4 O4 c8 b8 l6;have d8:=h7.upd b8 zd zd;refine zh ?_;refine af (trivial) ?_;refine zrf 7 rfl (trivial) rfl ?_;refine Gn 8 zk rfl ?_;refine aj (j:=0) d8 rfl (Ju _) c8.one rfl rfl rfl ?_;have c5:Gu (fun j=>j=4) O4 w4 O4 (w4.setCell ⟨db,0,none⟩ b3):=Ib zd d8.tag rfl;have d7:If O4 (w4.setCell ⟨db,0,none⟩ b3) 4 db #[b3,tv] 91:=d8.set 0 b3;refine zh ?_;refine af (trivial) ?_;have j1:=l6.upd c5;have e7:=c8.upd c5 zd zd;have a8:=(h5.upd b8 zd zd zd zd).upd c5 zd zd zd zd;have e2:=(g5.upd b8 zd zd).upd c5 zd zd;have f5:=(h8.upd b8 zd zd).upd c5 zd zd;have e5:RwO O4 (w4.setCell ⟨db,0,none⟩ b3) 5 b3 (i4++[.slice ra r1.length rc]) (rows++[r1]):=by
   have i5:=d2.len;refine⟨e7,by simp[i5],fun k hk=>?_⟩;rw[ay,ay,i5]
   by_cases e:k<rows.length
   ·rw[if_pos e,if_pos e];obtain⟨a1,a2⟩:=d2.at_ k e;exact⟨(a1.upd a2 b8).upd (a2.upd b8) c5,(a2.upd b8).upd c5⟩
   rw[if_neg e,if_neg e];simp only[GP,GO,IS]at hk;rw[show k-rows.length=0 from by omega,au,au];exact⟨(g'.upd d3 b8).upd (d3.upd b8) c5,(d3.upd b8).upd c5⟩
  have d9:Gu (fun q=>1<=q) O1 w1 O4 (w4.setCell ⟨db,0,none⟩ b3):=(i0.trans (b8.mono (fun j h=>zo) zd)).trans (c5.mono (fun j h=>zo) zd);generalize w4.setCell ⟨db,0,none⟩ b3=w5 at *;refine I6 zk ?_;refine zh ?_;have g4:=a8.len;have i8:q<b'.length:=by obtain⟨pq,h3⟩:=e'.pre;rw[g4,h3];simp;omega
  have h2:q<S1.length:=zo;have h4:nth S1 q=nth S q:=by obtain⟨pq,h3⟩:=e'.pre;rw[h3,ay,if_pos g0]
  have b0:w5.drew.cell? (nA mb 2)=some a7/\w5.drew.cell? (adr a7 1 q)=some (nth b' q):=⟨a8.blk.cell 2 rfl,by have:=a8.row.sl.cell (i:=q) (j:=0) i8 rfl;rwa[az]at this⟩
  have sd:∀W,IT w5.drew W->W.cell? (nA mb 2)=some a7/\W.cell? (adr a7 1 q)=some (nth b' q):=fun W hE=>⟨hE.cell b0.1,hE.cell b0.2⟩
  have j5:w5.drew.cell? (nA db 1)=some tv:=d7.cell 1 rfl;have j4:=hD.ext (b2.trans d9).drew.ext;obtain⟨d0,k0⟩:=a8.at_ q h2;rw[h4]at d0;have m9:=e4 (nth S q);refine aK (fun W=>W.cell? (nA mb 2)=some a7/\W.cell? (adr a7 1 q)=some (nth b' q)) 15 rfl zk ?_;refine zrf 0 rfl b0 rfl ?_;refine zrm 2 rfl b0 rfl ?_;refine zrm 3 rfl b0 rfl ?_;refine zr 4 rfl b0 (fun _=>aq rfl) ?_;refine zrf 5 rfl b0 rfl ?_;refine zt 6 rfl b0 (fun w1 g1=>RV.ld g1.1 rfl) ?_;refine zrm 7 rfl b0 rfl ?_;refine zr 8 rfl b0 (fun _=>aA a8.row.sl.sh GG (IU _) rfl rfl q rfl i8) ?_;refine zt 9 rfl b0 (fun w1 g1=>RV.ld g1.2 rfl) ?_;refine bL 1 10 zk rfl rfl ?_ ?_
  ·refine zvH (RV.ld j5 rfl) ?_;refine af b0 ?_
   refine Gn 10 zk rfl ?_;refine zc JL (jl w5.drew nb se g (nth S q) _ j4 d0.drew j6 j0) ?_
   rintro j8 w9 ⟨rfl,e1⟩;rw[e1];clear e1 w9;refine zh ?_;refine af b0 ?_;refine Gn 11 zk rfl ?_;refine bH iE (enc:=ff) (dy g (nth S q)) rfl rfl rfl zd rfl ?_;intro j9 w6 c' f';refine zh ?_;refine af (sd _ f') ?_;have a':Gu (fun _=>False) O4 w5 O4 w6:=aa (fun h=>h) O4 ((GB w5).drew.trans f');have c9:=e2.upd a' zd fun h=>h
   have d6:=d7.upd a' zd fun h=>h
   have d4:=a8.upd a' zd (fun h=>h) (fun h=>h) fun h=>h
   have i3:=j1.upd a';refine Gn 12 zk rfl ?_;refine aC iE c9 i3 c' (by simp) rfl rfl (by simp) (by simp[G6]) (by simp;omega) (by simp;omega) zd rfl ?_;intro a3 w7 O7 a6 b7 i2;have a9:=d6.upd b7 zd zd;have a4:=d4.upd b7 zd zd zd zd;have g3:=a4.len;have s7:w7.cell? (nA mb 2)=some a7/\w7.cell? (adr a7 1 q)=some (nth b' q):=⟨a4.blk.cell 2 rfl,by have:=a4.row.sl.cell (i:=q) (j:=0) zo rfl;rwa[az]at this⟩
   refine zh ?_;refine af (s7) ?_
   refine zrf 13 rfl (s7) rfl ?_;refine Gn 14 zk rfl ?_
   refine aj (j:=1) a9 rfl (J3 _) a6.one rfl rfl rfl ?_;have b1:Gu (fun j=>j=4) O7 w7 O7 (w7.setCell ⟨db,1,none⟩ a3):=Ib zd a9.tag rfl;have d5:If O7 (w7.setCell ⟨db,1,none⟩ a3) 4 db #[b3,a3] 91:=a9.set 1 a3;have a0:=a4.upd b1 zd zd zd zd;have g2:=a0.len;have s8:(w7.setCell ⟨db,1,none⟩ a3).cell? (nA mb 2)=some a7/\(w7.setCell ⟨db,1,none⟩ a3).cell? (adr a7 1 q)=some (nth b' q):=⟨a0.blk.cell 2 rfl,by have:=a0.row.sl.cell (i:=q) (j:=0) zo rfl;rwa[az]at this⟩
   refine zh ?_;refine af (s8) ?_
   have b4:=a6.upd b1 zd zd;have i1:=i2.upd b1;have d1:=((e5.upd a' zd fun h=>h).upd b7 zd zd).upd b1 zd zd;have a5:=((f5.upd a' zd fun h=>h).upd b7 zd zd).upd b1 zd zd;have b9:Gu (fun q=>1<=q) O1 w1 O7 (w7.setCell ⟨db,1,none⟩ a3):=((d9.trans (a'.mono (fun _ h=>h.elim) zd)).trans (b7.mono (fun j h=>zo) zd)).trans (b1.mono (fun j h=>zo) zd);generalize w7.setCell ⟨db,1,none⟩ a3=w8 at *;have l':=s8.1;refine I6 zk ?_;refine zh ?_;refine zvH (bd a0.row.sl.sh GG rfl) ?_
   by_cases b5:1000<S1.length
   ·rw[if_pos b5]at c6;rw[<-c6];refine zTH rfl ((decide_eq_true zo)) ?_;refine zv (aD Df (Ic _) rfl (by first|rfl|(simp only[GS,Ij];rfl)) rfl rfl) ?_;refine zsa (us:=#[nS,nS]) a5 (GL _) ?_;have f9:=a5.setRow (us:=#[nS,nS]);have f6:Gu (fun j=>j=7) O7 w8 O7 (w8.setRow cb #[nS,nS]):=GE zd a5.tag rfl;refine zh ?_;refine aO rfl rfl rfl (f9.cellsAdd) (Im _) (GL _) (⟨((b2.trans b9).trans (f6.mono (fun j h=>zo) zd)).ext,rfl⟩)
   rw[if_neg b5]at c6;refine zFH rfl ((decide_eq_false zo)) ?_;refine zxd (q+1,O7,w8,a7,b',S1,l2,rows++[r1],i7++[dy g (nth S q)],i4++[.slice ra r1.length rc],b3,a3) (⟨b2.trans b9,i1,a0,d5,d1,b4,a5,j2 zo,f3,by dsimp only;rw[show 1002-(q+1)=n from by omega];exact c6⟩)
  refine zc JL (jl w5.drew nb se g (nth S q) _ j4 d0.drew j6 j0) ?_;rintro j8 w9 ⟨rfl,e1⟩;rw[e1];clear e1 w9;refine zh ?_
  refine af b0 ?_;refine bS 1 11 iE (enc:=ff) (dy g (nth S q)) rfl rfl zk zk zk zk (fun W hE=>J7 (hE.cell j5) (JU _) rfl) sd rfl rfl rfl zd rfl rfl rfl rfl rfl ?_
  intro j9 w6 c' f';have a':Gu (fun _=>False) O4 w5 O4 w6:=aa (fun h=>h) O4 ((GB w5).drew.trans f');have c9:=e2.upd a' zd fun h=>h
  have d6:=d7.upd a' zd fun h=>h
  have d4:=a8.upd a' zd (fun h=>h) (fun h=>h) fun h=>h
  have i3:=j1.upd a';refine Gn 12 zk rfl ?_;refine aC iE c9 i3 c' (by simp) rfl rfl (by simp) (by simp[G6]) (by simp;omega) (by simp;omega) zd rfl ?_;intro a3 w7 O7 a6 b7 i2;have a9:=d6.upd b7 zd zd;have a4:=d4.upd b7 zd zd zd zd;have g3:=a4.len;have s7:w7.cell? (nA mb 2)=some a7/\w7.cell? (adr a7 1 q)=some (nth b' q):=⟨a4.blk.cell 2 rfl,by have:=a4.row.sl.cell (i:=q) (j:=0) zo rfl;rwa[az]at this⟩
  refine zh ?_;refine af (s7) ?_
  refine zrf 13 rfl (s7) rfl ?_;refine Gn 14 zk rfl ?_
  refine aj (j:=1) a9 rfl (J3 _) a6.one rfl rfl rfl ?_;have b1:Gu (fun j=>j=4) O7 w7 O7 (w7.setCell ⟨db,1,none⟩ a3):=Ib zd a9.tag rfl;have d5:If O7 (w7.setCell ⟨db,1,none⟩ a3) 4 db #[b3,a3] 91:=a9.set 1 a3;have a0:=a4.upd b1 zd zd zd zd;have g2:=a0.len;have s8:(w7.setCell ⟨db,1,none⟩ a3).cell? (nA mb 2)=some a7/\(w7.setCell ⟨db,1,none⟩ a3).cell? (adr a7 1 q)=some (nth b' q):=⟨a0.blk.cell 2 rfl,by have:=a0.row.sl.cell (i:=q) (j:=0) zo rfl;rwa[az]at this⟩
  refine zh ?_;refine af (s8) ?_
  have b4:=a6.upd b1 zd zd;have i1:=i2.upd b1;have d1:=((e5.upd a' zd fun h=>h).upd b7 zd zd).upd b1 zd zd;have a5:=((f5.upd a' zd fun h=>h).upd b7 zd zd).upd b1 zd zd;have b9:Gu (fun q=>1<=q) O1 w1 O7 (w7.setCell ⟨db,1,none⟩ a3):=((d9.trans (a'.mono (fun _ h=>h.elim) zd)).trans (b7.mono (fun j h=>zo) zd)).trans (b1.mono (fun j h=>zo) zd);generalize w7.setCell ⟨db,1,none⟩ a3=w8 at *;have l':=s8.1;refine I6 zk ?_;refine zh ?_;refine zvH (bd a0.row.sl.sh GG rfl) ?_
  by_cases b5:1000<S1.length
  ·rw[if_pos b5]at c6;rw[<-c6];refine zTH rfl ((decide_eq_true zo)) ?_;refine zv (aD Df (Ic _) rfl (by first|rfl|(simp only[GS,Ij];rfl)) rfl rfl) ?_;refine zsa (us:=#[nS,nS]) a5 (GL _) ?_;have f9:=a5.setRow (us:=#[nS,nS]);have f6:Gu (fun j=>j=7) O7 w8 O7 (w8.setRow cb #[nS,nS]):=GE zd a5.tag rfl;refine zh ?_;refine aO rfl rfl rfl (f9.cellsAdd) (Im _) (GL _) (⟨((b2.trans b9).trans (f6.mono (fun j h=>zo) zd)).ext,rfl⟩)
  rw[if_neg b5]at c6;refine zFH rfl ((decide_eq_false zo)) ?_;refine zxd (q+1,O7,w8,a7,b',S1,l2,rows++[r1],i7++[dy g (nth S q)],i4++[.slice ra r1.length rc],b3,a3) (⟨b2.trans b9,i1,a0,d5,d1,b4,a5,j2 zo,f3,by dsimp only;rw[show 1002-(q+1)=n from by omega];exact c6⟩)
 intro n2;obtain rfl:q=S.length:=dF n2;have k3:BY (cG se g) (dy g)=some (rows,i7):=by
  rw[<-c6];obtain⟨n,hn⟩:∃n,1002-S.length=n+1:=⟨1001-S.length,zo⟩
  rw[hn,C3,if_neg zo]
 rw[k3];have o1:=d'.row.one;have o2:=e3.one;refine zh ?_;refine zv (ah (us:=[nv,tv]) f4.cellsAdd (Im _) (GL _) rfl) ?_;refine zsb (us:=#[nv,tv]) e0 (GL _) (by simp only[GS,o1,o2];rfl) ?_;have f9:=e0.setRow (us:=#[nv,tv]);have f6:Gu (fun j=>j=7) O1 w1 O1 (w1.setRow cb #[nv,tv]):=GE zd e0.tag rfl;have k1:=d'.upd f6 zd zd;have j':=e3.upd f6 zd zd;refine zh ?_;refine aO rfl rfl rfl (f9.cellsAdd) (Im _) (GL _) (⟨(b2.trans (f6.mono (fun j h=>zo) zd)).ext,nv,tv,rfl,o1,o2,k1.rows,j'.sl⟩)
def yR(l:List Nat):Nat:=l.foldl max 0
theorem yQ(l:List Nat)(x:Nat):yR (l++[x])=max (yR l) x:=by unfold yR;rw[II];rfl
theorem CN{n:Nat}(h0:0<n):∀(l:List Nat),(∀x∈l,x<n)->yR l<n:=by
 have a0:∀(l:List Nat) (a:Nat),a<n->(∀x∈l,x<n)->l.foldl max a<n:=fun l=>by
  induction l with
  |nil=>exact fun a ha _=>ha
  |cons x l ih=>exact fun a ha h=>ih _ (by have:=h x (by simp);exact Nat.max_lt.2 ⟨ha,this⟩) fun y hy=>h y (by simp[hy])
 exact fun l h=>a0 l 0 h0 h
theorem A5(l:List Nat)(sv:ix)(w:ln)(h:Sl aJ 1 w sv l)(a1:0<l.length):J2 GY 51 [sv] w fun v w'=>v=nI ((yR l:Nat):Int)/\w'=w:=by
 have hl:=h.len_le;have m0:w.cell? (adr sv 1 0)=some (nI ((nth l 0:Nat):Int)):=by have:=h.cell (j:=0) a1 rfl;rwa[az]at this
 have e1:nth l 0=yR (l.take 1):=by
  have h1:=aF a1;rw[h1];simp[yR]
 refine Gp func51 ntmps51 rfl rfl ?_;refine zh ?_
 refine zFH rfl ((decide_eq_false zo)) ?_;rw[e1];refine zh ?_
 refine zlp (fun z:Nat=>[(0,sv),(3,nI ((yR (l.take z):Nat):Int)),(4,nI z)]) (fun z=>w) (fun z=>1<=z/\z<=l.length) (fun z=>l.length-z) 1 (⟨G9 _,a1⟩) ?_;rintro q ⟨a3,hq⟩;refine zh ?_
 refine zC ?_ ?_
 ·intro a0;replace a0:q<l.length:=dT a0;have m1:w.cell? (adr sv 1 q)=some (nI ((nth l q:Nat):Int)):=by have:=h.cell (j:=0) a0 rfl;rwa[az]at this
  refine zh ?_;refine zvH (jg rfl rfl) ?_
  rw[show max ((yR (l.take q):Nat):Int) ((nth l q:Nat):Int)=((yR (l.take (q+1)):Nat):Int)from by rw[aF a0,yQ];omega];refine zxd (q+1) (⟨zo,a0⟩)
 intro a2;obtain rfl:q=l.length:=dF a2;rw[Gy];refine zh ?_;refine ae rfl rfl (⟨rfl,rfl⟩)
theorem A2(l:List Nat)(sv:ix)(w:ln)(h:Sl aJ 1 w sv l)(a1:0<l.length):J2 GY 94 [sv] w fun v w'=>(∃k:Nat,v=nI (k:Int))/\w'=w:=by
 have hl:=h.len_le;have m0:w.cell? (adr sv 1 0)=some (nI ((nth l 0:Nat):Int)):=by have:=h.cell (j:=0) a1 rfl;rwa[az]at this
 refine Gp func94 ntmps94 rfl rfl ?_;refine zh ?_
 refine zFH rfl ((decide_eq_false zo)) ?_;refine zlp (fun z:Nat×Nat=>[(0,sv),(3,nI ((z.2:Nat):Int)),(4,nI z.1)]) (fun z=>w) (fun z=>1<=z.1/\z.1<=l.length) (fun z=>l.length-z.1) (1,nth l 0) (⟨G9 _,a1⟩) ?_
 rintro⟨q,k⟩ ⟨a2,hq⟩;dsimp only at a2 hq ⊢;refine zh ?_;refine zC ?_ ?_
 ·intro a0;replace a0:q<l.length:=dT a0;have m1:w.cell? (adr sv 1 q)=some (nI ((nth l q:Nat):Int)):=by have:=h.cell (j:=0) a0 rfl;rwa[az]at this
  refine zh ?_;refine zvH (Db rfl rfl) ?_
  rw[show min ((k:Nat):Int) ((nth l q:Nat):Int)=((min k (nth l q):Nat):Int)from by omega];refine zxd (q+1,min k (nth l q)) (⟨by dsimp only;omega,a0⟩)
 intro a3;refine zh ?_;refine ae rfl rfl (⟨⟨k,rfl⟩,rfl⟩)
structure RightD(rows:List (List Nat))(tls:List Nat):Prop where
 pos:0<rows.length
 le:rows.length<=1000
 tl:tls.length=rows.length
 row:∀j,j<rows.length->(nth rows j).length=37/\∀m,m<37->nth (nth rows j) m<rows.length
theorem DI.right{step:List Int->Int->List Int}{a0:List Int->Nat}{S:List (List Int)}{rows:List (List Nat)}{a1:List Nat}(h:DI step a0 S.length S rows a1):RightD rows a1:=by
 have h1:=h.rl;have h2:=h.p0;have h3:=h.len;exact⟨zo,zo,by rw[h.tl,h1],fun j hj=>⟨(h.row j zo).1,fun m hm=>by have:=((h.row j zo).2 m hm).1;omega⟩⟩
theorem jc(nv tv:ix)(rows:List (List Nat))(a5:List Nat)(w:ln)(hn:RowsN w nv rows)(b0:Sl ff 1 w tv a5)(hr:RightD rows a5):J2 GY 62 [.agg #[nv,tv]] w fun v w'=>v=.bool true/\IT w w':=by
 obtain⟨vs,a7,b1,a8⟩:=hn;have a4:=hr.pos;have b3:=hr.le;have a9:=hr.tl;refine Gp func62 ntmps62 rfl rfl ?_;refine zh ?_;refine aG (aw w) 1 zo rfl rfl ?_;intro db w1 O1 a6 b5 b6 a2;have c0:w1.cell? (nA db 0)=some nv:=a6.cell 0 rfl;have c1:w1.cell? (nA db 1)=some tv:=a6.cell 1 rfl;have a3:=a7.ext a2;have a':=b0.ext a2;refine zh ?_;refine ao (d:=11) rfl (b':=false) ((by rw[beq_eq_false_iff_ne];omega)) ?_;refine zh ?_;refine ao (d:=15) rfl (b':=false) ((decide_eq_false zo)) ?_;refine zh ?_;refine zFH rfl ((by rw[bne_eq_false_iff_eq];omega)) ?_;refine zlp (fun z:Nat×ln=>[(3,nI vs.length),(23,nv),(24,nI vs.length),(25,nI z.1)]) (fun z=>z.2) (fun z=>z.1<=vs.length/\z.2=w1) (fun z=>vs.length-z.1) (0,w1) (⟨G7 _,rfl⟩) ?_;rintro⟨q,w2⟩ ⟨hq,rfl⟩;dsimp only at hq ⊢;refine zh ?_;refine zC ?_ ?_
 ·intro a1;replace a1:q<vs.length:=dT a1;have m1:w2.cell? (adr nv 1 q)=some (nth vs q):=by have:=a3.cell (j:=0) a1 rfl;rwa[az]at this
  obtain⟨r1,r2⟩:=hr.row q zo;have hk:=(a8 q zo).ext a2;have b2:yR (nth rows q)<rows.length:=CN a4 _ fun x hx=>by
   obtain⟨j,hj,rfl⟩:=Gm hx;exact r2 j zo
  refine zh ?_;refine ao (d:=32) rfl (b':=false) ((by rw[r1];rfl)) ?_
  refine zh ?_;refine zc call94 (A2 (nth rows q) _ w2 hk zo) ?_
  rintro v w9 ⟨⟨k,rfl⟩,a0⟩;rw[a0];clear a0 w9;refine zh ?_;refine ao (d:=37) rfl (b':=false) ((decide_eq_false zo)) ?_;refine zh ?_;refine zc call51 (A5 (nth rows q) _ w2 hk zo) ?_;rintro v w9 ⟨rfl,a0⟩;rw[a0];clear a0 w9;refine zh ?_;refine zFH rfl ((decide_eq_false zo)) ?_;refine zxd (q+1,w2) (⟨a1,rfl⟩)
 intro b4;refine zh ?_;refine ae rfl rfl (⟨rfl,a2⟩)
def runN(nx:Nat->Nat->Nat)(w:List Nat)(q:Nat):Nat:=w.foldl nx q
def Alike(nx:Nat->Nat->Nat)(tl:Nat->Nat)(p q:Nat):Prop:=∀w:List Nat,(∀m∈w,m<37)->tl (runN nx w p)=tl (runN nx w q)
theorem Alike.step{nx:Nat->Nat->Nat}{tl:Nat->Nat}{p q:Nat}(h:Alike nx tl p q){m:Nat}(hm:m<37):Alike nx tl (nx p m) (nx q m):=fun w hw=>h (m::w) fun x hx=>by
 rcases Gv.1 hx with rfl|hx
 ·exact hm
 exact hw x hx
theorem Alike.symm{nx:Nat->Nat->Nat}{tl:Nat->Nat}{p q:Nat}(h:Alike nx tl p q):Alike nx tl q p:=fun w hw=>(h w hw).symm
structure Blk(nx:Nat->Nat->Nat)(tl:Nat->Nat)(n:Nat)(bl:List Nat)(st:Nat->List Nat)(many:Nat):Prop where
 len:bl.length=n
 lt:∀i,i<n->nth bl i<many
 mem:∀b,b<many->∀x,x∈st b↔x<n/\nth bl x=b
 nd:∀b,b<many->(st b).Nodup
 ne:∀b,b<many->st b≠[]
 told:∀p q,p<n->q<n->nth bl p=nth bl q->tl p=tl q
 alike:∀p q,p<n->q<n->Alike nx tl p q->nth bl p=nth bl q
theorem Blk.many_le{nx:Nat->Nat->Nat}{tl:Nat->Nat}{n:Nat}{bl:List Nat}{st:Nat->List Nat}{many:Nat}(h:Blk nx tl n bl st many):many<=n:=by
 have a0:∀b,b<many->(st b).headD 0∈st b:=fun b hb=>by
  have:=h.ne b hb
  cases hs:st b with
  |nil=>exact absurd hs this
  |cons a r=>simp
 have a1:((I2 many).map fun b=>(st b).headD 0).Nodup:=by
  refine List.pairwise_map.2 (JH ?_ IN);intro a b ha hb a2 e;have ha:=GI.1 ha;have hb:=GI.1 hb;have h1:=((h.mem a ha _).1 (a0 a ha)).2;have h2:=((h.mem b hb _).1 (a0 b hb)).2;exact a2 (by rw[<-h1,<-h2,e])
 have:=fx a1 (n:=n) fun x hx=>by
  obtain⟨b,hb,rfl⟩:=Is.1 hx;have hb:=GI.1 hb;exact((h.mem b hb _).1 (a0 b hb)).1
 simpa using this
def Pend(nx:Nat->Nat->Nat)(n:Nat)(bl:List Nat)(td:Nat->Nat->Prop)(m0:Nat)(P0:Nat->Prop)(rem:Nat->Prop):Prop:=
 ∀p q m,p<n->q<n->m<37->nth bl p=nth bl q->nth bl (nx p m)≠nth bl (nx q m)->(td (nth bl (nx p m)) m\/td (nth bl (nx q m)) m)\/(m=m0/\¬(P0 p↔P0 q)/\rem (nth bl p))
def Todo(nx:Nat->Nat->Nat)(n:Nat)(bl:List Nat)(td:Nat->Nat->Prop):Prop:=
 ∀p q m,p<n->q<n->m<37->nth bl p=nth bl q->nth bl (nx p m)≠nth bl (nx q m)->td (nth bl (nx p m)) m\/td (nth bl (nx q m)) m
theorem Todo.take{nx:Nat->Nat->Nat}{n:Nat}{bl:List Nat}{td a1:Nat->Nat->Prop}(h:Todo nx n bl td)(b0 m0:Nat)(ht:∀b m,td b m->a1 b m\/(b=b0/\m=m0))(rem:Nat->Prop)(hr:∀p,p<n->nth bl (nx p m0)=b0->rem (nth bl p)):
  Pend nx n bl a1 m0 (fun p=>nth bl (nx p m0)=b0) rem:=fun p q m hp hq hm e a0=>by
 rcases h p q m hp hq hm e a0 with h1|h1
 ·rcases ht _ _ h1 with h2|⟨h2,rfl⟩
  ·exact .inl (.inl h2)
  exact .inr ⟨rfl,fun hi=>a0 (by rw[h2,hi.1 h2]),hr p hp h2⟩
 rcases ht _ _ h1 with h2|⟨h2,rfl⟩
 ·exact .inl (.inr h2)
 exact .inr ⟨rfl,fun hi=>a0 (by rw[h2,hi.2 h2]),by rw[e];exact hr q hq h2⟩
theorem Pend.done{nx:Nat->Nat->Nat}{n:Nat}{bl:List Nat}{td:Nat->Nat->Prop}{m0:Nat}{P0 rem:Nat->Prop}(h:Pend nx n bl td m0 P0 rem)(hr:∀b,¬rem b):Todo nx n bl td:=fun p q m hp hq hm e a0=>by
 rcases h p q m hp hq hm e a0 with h1|⟨_,_,h1⟩
 ·exact h1
 exact absurd h1 (hr _)
theorem Pend.whole{nx:Nat->Nat->Nat}{n:Nat}{bl:List Nat}{td:Nat->Nat->Prop}{m0:Nat}{P0 rem a0:Nat->Prop}(h:Pend nx n bl td m0 P0 rem){k:Nat}(hk:∀p,p<n->nth bl p=k->P0 p)(hr:∀b,rem b->b=k\/a0 b):Pend nx n bl td m0 P0 a0:=fun p q m hp hq hm e a1=>by
 rcases h p q m hp hq hm e a1 with h1|⟨h1,h2,h3⟩
 ·exact .inl h1
 rcases hr _ h3 with h4|h4
 ·exact absurd ⟨fun _=>hk q hq (e.symm.trans h4),fun _=>hk p hp h4⟩ h2
 exact .inr ⟨h1,h2,h4⟩
structure Cut(n:Nat)(bl bl':List Nat)(st st':Nat->List Nat)(many k:Nat)(L:List Nat):Prop where
 len:bl'.length=n
 bl:∀x,x<n->nth bl' x=if x∈L then many else nth bl x
 new:st' many=L
 old:st' k=(st k).filter fun x=>!(L.contains x)
 oth:∀b,b≠many->b≠k->st' b=st b
theorem Blk.cut{nx:Nat->Nat->Nat}{tl:Nat->Nat}{n:Nat}{bl a4:List Nat}{st a6:Nat->List Nat}{many k:Nat}{L:List Nat}(h:Blk nx tl n bl st many)(c:Cut n bl a4 st a6 many k L)(hk:k<many)(hL:∀x∈L,x<n/\nth bl x=k)(a':L.Nodup)(b0:L≠[])(b1:L.length<(st k).length) 
  (a9:∀p q,p<n->q<n->Alike nx tl p q->p∈L->q∈L):Blk nx tl n a4 a6 (many+1):=by
 have a0:∀x,x<n->x∉L->nth a4 x=nth bl x:=fun x hx hn=>by rw[c.bl x hx,if_neg hn]
 have a3:∀x,x<n->x∈L->nth a4 x=many:=fun x hx hn=>by rw[c.bl x hx,if_pos hn]
 refine⟨c.len,fun i hi=>?_,fun b hb x=>?_,fun b hb=>?_,fun b hb=>?_,fun p q hp hq e=>?_,fun p q hp hq ha=>?_⟩
 ·have:=h.lt i hi
  by_cases a7:i∈L
  ·rw[a3 i hi a7];omega
  rw[a0 i hi a7];omega
 ·by_cases a1:b=many
  ·subst a1;rw[c.new]
   constructor
   ·intro hx;exact⟨(hL x hx).1,a3 x (hL x hx).1 hx⟩
   rintro⟨hx,e⟩;refine GV fun hn=>?_
   rw[a0 x hx hn]at e;have:=h.lt x hx;omega
  have a8:b<many:=zo
  by_cases a2:b=k
  ·subst a2;rw[c.old,I1,h.mem b a8 x]
   constructor
   ·rintro⟨⟨h1,h2⟩,h3⟩;have hn:x∉L:=by simpa using h3
    exact⟨h1,by rw[a0 x h1 hn];exact h2⟩
   rintro⟨h1,h2⟩;have hn:x∉L:=fun hx=>by rw[a3 x h1 hx]at h2;omega
   exact⟨⟨h1,by rw[<-a0 x h1 hn];exact h2⟩,by simpa using hn⟩
  rw[c.oth b a1 a2,h.mem b a8 x]
  constructor
  ·rintro⟨h1,h2⟩;have hn:x∉L:=fun hx=>a2 (by rw[<-h2];exact(hL x hx).2)
   exact⟨h1,by rw[a0 x h1 hn];exact h2⟩
  rintro⟨h1,h2⟩;have hn:x∉L:=fun hx=>a1 (by rw[<-h2];exact a3 x h1 hx)
  exact⟨h1,by rw[<-a0 x h1 hn];exact h2⟩
 ·by_cases a1:b=many
  ·subst a1;rw[c.new];exact a'
  by_cases a2:b=k
  ·subst a2;rw[c.old];exact(h.nd b zo).filter _
  rw[c.oth b a1 a2];exact h.nd b zo
 ·by_cases a1:b=many
  ·subst a1;rw[c.new];exact b0
  by_cases a2:b=k
  ·subst a2;rw[c.old];intro e;have a5:st b ⊆ L:=fun x hx=>by
    refine GV fun hn=>?_
    have:x∈(st b).filter fun x=>!(L.contains x):=I1.2 ⟨hx,by simpa using hn⟩
    rw[e]at this;simp at this
   have:=(h.nd b zo).length_le_of_subset a5;omega
  rw[c.oth b a1 a2];exact h.ne b zo
 ·refine h.told p q hp hq ?_
  by_cases h1:p∈L
  ·by_cases h2:q∈L
   ·rw[(hL p h1).2,(hL q h2).2]
   rw[a3 p hp h1,a0 q hq h2]at e;have:=h.lt q hq;omega
  by_cases h2:q∈L
  ·rw[a0 p hp h1,a3 q hq h2]at e;have:=h.lt p hp;omega
  rw[a0 p hp h1,a0 q hq h2]at e;exact e
 by_cases h1:p∈L
 ·rw[a3 p hp h1,a3 q hq (a9 p q hp hq ha h1)]
 have h2:q∉L:=fun hx=>h1 (a9 q p hq hp ha.symm hx)
 rw[a0 p hp h1,a0 q hq h2];exact h.alike p q hp hq ha
theorem Pend.cut{nx:Nat->Nat->Nat}{tl:Nat->Nat}{n:Nat}{bl a6:List Nat}{st b3:Nat->List Nat}{many k m0:Nat}{L:List Nat}{td a3:Nat->Nat->Prop}{P0 rem a5:Nat->Prop}(hB:Blk nx tl n bl st many)(h:Pend nx n bl td m0 P0 rem)(c:Cut n bl a6 st b3 many k L)(_:k<many) 
  (b1:∀p m,p<n->m<37->nx p m<n) (hL:∀x,x∈L↔x<n/\nth bl x=k/\P0 x)
  (ht:∀b m,td b m->a3 b m) (b4:∀m,m<37->td k m->a3 many m) (b0:∀m,m<37->a3 many m\/a3 k m) (hr:∀b,rem b->b=k\/a5 b):Pend nx n a6 a3 m0 P0 a5:=fun p q m hp hq hm e b2=>by
 have a0:∀x,x<n->x∉L->nth a6 x=nth bl x:=fun x hx hn=>by rw[c.bl x hx,if_neg hn]
 have a2:∀x,x<n->x∈L->nth a6 x=many:=fun x hx hn=>by rw[c.bl x hx,if_pos hn]
 have a4:∀x,x∈L->nth bl x=k:=fun x hx=>((hL x).1 hx).2.1
 have a1:nth bl p=nth bl q/\(p∈L↔q∈L):=by
  by_cases h1:p∈L
  ·by_cases h2:q∈L
   ·exact⟨by rw[a4 p h1,a4 q h2],by simp[h1,h2]⟩
   rw[a2 p hp h1,a0 q hq h2]at e;have:=hB.lt q hq;omega
  by_cases h2:q∈L
  ·rw[a0 p hp h1,a2 q hq h2]at e;have:=hB.lt p hp;omega
  rw[a0 p hp h1,a0 q hq h2]at e;exact⟨e,by simp[h1,h2]⟩
 have hx:=b1 p m hp hm;have hy:=b1 q m hq hm;have hh:=h p q m hp hq hm a1.1;generalize nx p m=x at *;generalize nx q m=y at *;have a':∀z,z<n->td (nth bl z) m->a3 (nth a6 z) m:=fun z hz a9=>by
  by_cases h1:z∈L
  ·rw[a2 z hz h1];rw[a4 z h1]at a9;exact b4 m hm a9
  rw[a0 z hz h1];exact ht _ _ a9
 by_cases a7:nth bl x=nth bl y
 ·by_cases h1:x∈L
  ·by_cases h2:y∈L
   ·exact absurd (by rw[a2 x hx h1,a2 y hy h2]) b2
   have e1:=a4 x h1;rw[a2 x hx h1,a0 y hy h2,<-a7,e1];exact .inl (b0 m hm)
  by_cases h2:y∈L
  ·have e1:=a4 y h2;rw[a2 y hy h2,a0 x hx h1,a7,e1];exact .inl ((b0 m hm).symm)
  exact absurd (by rw[a0 x hx h1,a0 y hy h2,a7]) b2
 rcases hh a7 with(h1|h1)|⟨h1,h2,h3⟩
 ·exact .inl (.inl (a' x hx h1))
 ·exact .inl (.inr (a' y hy h1))
 by_cases a8:nth bl p=k
 ·exact absurd ⟨fun a=>((hL q).1 (a1.2.1 ((hL p).2 ⟨hp,a8,a⟩))).2.2,fun a=>((hL p).1 (a1.2.2 ((hL q).2 ⟨hq,by rw[<-a1.1];exact a8,a⟩))).2.2⟩ h2
 have b5:p∉L:=fun a=>a8 (a4 p a)
 rcases hr _ h3 with h4|h4
 ·exact absurd h4 a8
 exact .inr ⟨h1,h2,by rw[a0 p hp b5];exact h4⟩
theorem Blk.final{nx:Nat->Nat->Nat}{tl:Nat->Nat}{n:Nat}{bl:List Nat}{st:Nat->List Nat}{many:Nat}(h:Blk nx tl n bl st many)(ht:Todo nx n bl fun _ _=>False)(a0:∀p m,p<n->m<37->nx p m<n)(p q:Nat)(hp:p<n)(hq:q<n):nth bl p=nth bl q↔Alike nx tl p q:=by
 refine⟨fun e w=>?_,h.alike p q hp hq⟩
 induction w generalizing p q with
 |nil=>exact fun _=>h.told p q hp hq e
 |cons m w ih=>
  intro hw;have hm:=hw m (by simp);refine ih (nx p m) (nx q m) (a0 p m hp hm) (a0 q m hq hm) (GV fun a1=>?_) fun x hx=>hw x (by simp[hx])
  rcases ht p q m hp hq hm e a1 with h1|h1<;>exact h1
section
variable(cl:Nat→Nat)(nx:Nat→Nat→Nat)
def uT(F:List Nat)(t:Nat):Option Nat:=F.findIdx? fun o=>cl o==cl t
def fnI(F:List Nat)(t:Nat):Nat:=(uT cl F t).getD F.length
def fnF(F:List Nat)(t:Nat):List Nat:=if(uT cl F t).isSome=true then F else F++[t]
def iJ(p:Nat)(F:List Nat):Nat->List Nat×List Nat
 |0=>(F,[])
 |m+1=>(fnF cl (iJ p F m).1 (nx p m),(iJ p F m).2++[fnI cl (iJ p F m).1 (nx p m)])
end
theorem zG{cl:Nat->Nat}{F:List Nat}{t k:Nat}(h:uT cl F t=some k):k<F.length/\cl (nth F k)=cl t:=by
 obtain⟨h1,h2,_⟩:=I7.1 h;exact⟨h1,by rw[aB h1];simpa using h2⟩
theorem zI{cl:Nat->Nat}{F:List Nat}{t:Nat}(h:uT cl F t=none):∀o∈F,cl o≠cl t:=by
 intro o ho e;have:=IZ.1 h o ho;simp[e]at this
theorem CX(cl:Nat->Nat)(F:List Nat)(t:Nat):∃r,fnF cl F t=F++r:=by
 unfold fnF
 split
 ·exact⟨[],by simp⟩
 exact⟨_,rfl⟩
theorem DN(cl:Nat->Nat)(F:List Nat)(t:Nat):fnI cl F t<(fnF cl F t).length/\cl (nth (fnF cl F t) (fnI cl F t))=cl t:=by
 unfold fnI fnF
 cases h:uT cl F t with
 |some k=>exact zG h
 |none=>
  simp only[Option.getD_none,Option.isSome_none,Bool.false_eq_true,if_false];exact⟨by simp,by rw[ay,if_neg zo,Iu,au]⟩
structure Reps(cl:Nat->Nat)(n:Nat)(F:List Nat):Prop where
 lt:∀o∈F,o<n
 nd:F.Pairwise fun a b=>cl a≠cl b
theorem Reps.add{cl:Nat->Nat}{n:Nat}{F:List Nat}(h:Reps cl n F){t:Nat}(ht:t<n):Reps cl n (fnF cl F t):=by
 unfold fnF
 cases hf:uT cl F t with
 |some k=>exact h
 |none=>
  have a0:=zI hf
  exact⟨fun o ho=>by
   rcases Gw.1 ho with ho|ho
   ·exact h.lt o ho
   rw[G2.1 ho];exact ht,List.pairwise_append.2 ⟨h.nd,by simp,fun a ha b hb=>by rw[G2.1 hb];exact a0 a ha⟩⟩
theorem Reps.len{cl:Nat->Nat}{n:Nat}{F:List Nat}(h:Reps cl n F):F.length<=n:=
 fx (h.nd.imp fun {a b} a0 e=>a0 (by rw[e])) h.lt
structure RowR(cl:Nat->Nat)(nx:Nat->Nat->Nat)(n p:Nat)(F F' r:List Nat)(m:Nat):Prop where
 pre:∃q,F'=F++q
 len:r.length=m
 lt:∀j,j<m->nth r j<F'.length/\cl (nth F' (nth r j))=cl (nx p j)
 reps:Reps cl n F'
theorem ph{cl:Nat->Nat}{nx:Nat->Nat->Nat}{n p:Nat}{F:List Nat}(hF:Reps cl n F)(a3:∀m,m<37->nx p m<n):∀m,m<=37->RowR cl nx n p F (iJ cl nx p F m).1 (iJ cl nx p F m).2 m
 |0,_=>⟨⟨[],by simp[iJ]⟩,rfl,fun j hj=>absurd hj (G1 j),hF⟩
 |m+1,hm=>by
  have ih:=ph hF a3 m zo;unfold iJ;generalize iJ cl nx p F m=R at *;obtain⟨F1,r⟩:=R;dsimp only at ih ⊢;obtain⟨q,hq⟩:=ih.pre;obtain⟨q2,a0⟩:=CX cl F1 (nx p m);have a5:=DN cl F1 (nx p m);have a4:=ih.len;have a6:F1.length<=(fnF cl F1 (nx p m)).length:=by rw[a0];simp
  refine⟨⟨q++q2,by rw[a0,hq,Ia]⟩,by simp[a4],fun j hj=>?_,ih.reps.add (a3 m zo)⟩;rw[ay]
  by_cases e:j<r.length
  ·rw[if_pos e];obtain⟨a1,a2⟩:=ih.lt j zo;exact⟨zo,by rw[a0,ay,if_pos a1];exact a2⟩
  rw[if_neg e,show j-r.length=0 from by omega,au];obtain rfl:j=m:=zo;exact a5
def eQ(cl:Nat->Nat)(nx:Nat->Nat->Nat)(tl:Nat->Nat):Nat->Nat->List Nat->List (List Nat)->List Nat->List (List Nat)×List Nat
 |0,_,_,rows,tls=>(rows,tls)
 |n+1,i,F,rows,tls=>
  if i<F.length then eQ cl nx tl n (i+1) (iJ cl nx (nth F i) F 37).1 (rows++[(iJ cl nx (nth F i) F 37).2]) (tls++[tl (nth F i)])
  else(rows,tls)
def nxD(rows:List (List Nat))(q m:Nat):Nat:=nth (nth rows q) m
def cC(cl:Nat->Nat)(rows:List (List Nat))(a0:List Nat):List (List Nat)×List Nat:=eQ cl (nxD rows) (nth a0) (rows.length+1) 0 [0] [] []
structure LI(cl:Nat->Nat)(nx:Nat->Nat->Nat)(tl:Nat->Nat)(n i:Nat)(F:List Nat)(rows:List (List Nat))(tls:List Nat):Prop where
 le:i<=F.length
 rl:rows.length=i
 tln:tls.length=i
 p0:0<F.length
 fst:nth F 0=0
 reps:Reps cl n F
 row:∀j,j<i->(nth rows j).length=37/\∀m,m<37->nth (nth rows j) m<F.length/\cl (nth F (nth (nth rows j) m))=cl (nx (nth F j) m)
 tel:∀j,j<i->nth tls j=tl (nth F j)
theorem qo{cl:Nat->Nat}{nx:Nat->Nat->Nat}{tl:Nat->Nat}{n:Nat}(h0:0<n):LI cl nx tl n 0 [0] [] []:=⟨zd,rfl,rfl,zd,au _ _,⟨fun o ho=>by rw[G2.1 ho];exact h0,by simp⟩,fun j hj=>absurd hj (G1 j),fun j hj=>absurd hj (G1 j)⟩
theorem LI.next{cl:Nat->Nat}{nx:Nat->Nat->Nat}{tl:Nat->Nat}{n i:Nat}{F:List Nat}{rows:List (List Nat)}{a3:List Nat}(h:LI cl nx tl n i F rows a3)(hi:i<F.length)(a4:∀p m,p<n->m<37->nx p m<n):
  LI cl nx tl n (i+1) (iJ cl nx (nth F i) F 37).1 (rows++[(iJ cl nx (nth F i) F 37).2]) (a3++[tl (nth F i)]):=by
 have hr:=ph (p:=nth F i) h.reps (fun m hm=>a4 (nth F i) m (h.reps.lt _ (aN hi)) hm) 37 (G9 _);generalize iJ cl nx (nth F i) F 37=R at *;obtain⟨F1,r⟩:=R;dsimp only at hr ⊢;obtain⟨q,hq⟩:=hr.pre;have a0:∀k,k<F.length->nth F1 k=nth F k:=fun k hk=>by rw[hq,ay,if_pos hk]
 have a5:F.length<=F1.length:=by rw[hq];simp
 have h1:=h.rl;have h2:=h.tln;have h3:=h.p0;refine⟨zo,by simp[h1],by simp[h2],zo,by rw[a0 0 h3];exact h.fst,hr.reps,fun j hj=>?_,fun j hj=>?_⟩
 ·rw[ay]
  by_cases e:j<rows.length
  ·rw[if_pos e];obtain⟨a1,a2⟩:=h.row j zo;refine⟨a1,fun m hm=>?_⟩;obtain⟨b1,b2⟩:=a2 m hm;exact⟨zo,by rw[a0 _ b1,a0 j zo];exact b2⟩
  rw[if_neg e,show j-rows.length=0 from by omega,au];obtain rfl:j=i:=zo;refine⟨hr.len,fun m hm=>?_⟩;obtain⟨b1,b2⟩:=hr.lt m hm;exact⟨b1,by rw[a0 j hi];exact b2⟩
 rw[ay]
 by_cases e:j<a3.length
 ·rw[if_pos e,a0 j zo];exact h.tel j zo
 rw[if_neg e,show j-a3.length=0 from by omega,au];obtain rfl:j=i:=zo;rw[a0 j hi]
theorem iY{cl:Nat->Nat}{nx:Nat->Nat->Nat}{tl:Nat->Nat}{n:Nat}(a1:∀p m,p<n->m<37->nx p m<n):∀(f i:Nat) (F:List Nat) (rows:List (List Nat)) (a0:List Nat),LI cl nx tl n i F rows a0->n+1<=i+f->∃F',LI cl nx tl n F'.length F' (eQ cl nx tl f i F rows a0).1 (eQ cl nx tl f i F rows a0).2
 |0,i,F,rows,a0,h,hf=>by have:=h.le;have:=h.reps.len;omega
 |f+1,i,F,rows,a0,h,hf=>by
  unfold eQ
  split
  ·rename_i hi;exact iY a1 f (i+1) _ _ _ (h.next hi a1) zo
  rename_i hi;have:=h.le;obtain rfl:i=F.length:=zo;exact⟨F,h⟩
def F7(F:K6)(cs:Array ix)(i:Nat)(_:Nat)(O:Nat->Nat)(w:ln)(l:List Nat)(q:Nat->Bool):Prop:=
 ∀x∈l,∀(O':Nat->Nat) (W:ln),Gu (fun k=>k=i) O w O' W->J2 GY F ([nI (x:Nat)]++cs.toList) W fun v W'=>v=.bool (q x)/\IT W W'
theorem nC{F:K6}(hF:∀(args:Array ix) (w:ln),(callFunc F args).run GY w=.ok (.enter F args) w)(cs:Array ix)(B:Nat)(O:Nat->Nat)(w:ln)(i:Nat)(sv:ix)(l:List Nat)(q:Nat->Bool)(hi:i≠0)(_:ID B O w)(hr:GN aJ 3 1 O w i sv l)(hq:F7 F cs i B O w l q):
  J2 GY 148 [sv,.func (.func F) #[] cs] w fun v w'=>v=nI (dh (fun j=>q (nth l j)) l.length)/\IT w w':=by
 have hl:=hr.sl.len_le;refine Gp func148 ntmps148 rfl rfl ?_;refine zh ?_;refine zvH (bd hr.sl.sh G0 rfl) ?_;refine zlp (fun x:Nat×ln=>[(0,sv),(1,.func (.func F) #[] cs),(7,nI l.length),(8,nI x.1)]) (fun x=>x.2) (fun x=>x.1<=l.length/\IT w x.2/\∀j,j<x.1->q (nth l j)=false) (fun x=>l.length-x.1) (0,w) (⟨G7 _,GB _,fun i hi=>absurd hi (G1 i)⟩) ?_;rintro⟨k,w1⟩ ⟨hk,hE,a1⟩;dsimp only at hk hE a1 ⊢;have h1:=hr.sl.ext hE;refine zh ?_;refine zC ?_ ?_
 ·intro a0;replace a0:k<l.length:=dT a0;have m1:w1.cell? (adr sv 1 k)=some (nI ((nth l k:Nat):Int)):=by have:=h1.cell (j:=0) a0 rfl;rwa[az]at this
  refine zh ?_;refine df rfl hF rfl (hq _ (aN a0) O w1 (aa (fun e=>hi e.symm) O hE)) rfl ?_
  rintro v w2 ⟨rfl,a3⟩;refine zh ?_;refine zC ?_ ?_
  ·intro hy;refine zh ?_;refine ae rfl rfl (⟨by rw[bY (q:=fun j=>q (nth l j)) a0 hy a1],hE.trans a3⟩)
  intro hy;refine zh ?_;refine zxd (k+1,w2) (⟨a0,hE.trans a3,fun i hi=>(Nat.lt_succ_iff_lt_or_eq.1 hi).elim (a1 i) (fun e=>by rw[e];exact hy)⟩)
 intro a2;replace a2:l.length<=k:=dF a2;refine zh ?_;refine ae rfl rfl (⟨by rw[bW (q:=fun j=>q (nth l j)) fun i hi=>a1 i zo],hE⟩)
def gd(q:Nat->Bool)(l:List Nat):List Nat:=l.filter fun x=>!q x
theorem ir{q:Nat->Bool}{l:List Nat}{j:Nat}(h:j<l.length):gd q (l.take (j+1))=gd q (l.take j)++if q (nth l j)=true then []else [nth l j]:=by
 unfold gd;rw[aF h,I5,Iq]
 cases q (nth l j)<;>rfl
theorem nK{F:K6}(hF:∀(args:Array ix) (w:ln),(callFunc F args).run GY w=.ok (.enter F args) w)(cs:Array ix)(B:Nat)(O:Nat->Nat)(w:ln)(i:Nat)(sv:ix)(l:List Nat)(q:Nat->Bool)(hi:i≠0)(hR:ID B O w)(hr:GN aJ 3 1 O w i sv l)(hq:F7 F cs i B O w l q):
  J2 GY 146 [sv,.func (.func F) #[] cs] w fun v w'=>GN aJ 3 1 O w' i v (gd q l)/\Gu (fun k=>k=i) O w O w':=by
 have hl:=hr.sl.len_le;have hz:¬(fun k=>k=i) 0:=fun e=>hi e.symm
 refine Gp func146 ntmps146 rfl rfl ?_;refine zh ?_
 refine zc call148 (nC hF cs B O w i sv l q hi hR hr hq) ?_;rintro _ w1 ⟨rfl,d1⟩;have d0:Gu (fun k=>k=i) O w O w1:=aa hz O d1;have c5:GN aJ 3 1 O w1 i sv l:=hr.upd (aa (S:=fun _=>False) (fun h=>h) O d1) hi fun h=>h
 refine zh ?_
 by_cases a':iH (fun j=>q (nth l j)) l.length=true
 ·obtain⟨j0,b1,b5,a9⟩:∃j0,j0<l.length/\q (nth l j0)=true/\∀j,j<j0->q (nth l j)=false:=by
   have hf:=(firstN_any (q:=fun j=>q (nth l j)) (n:=l.length)).trans a'
   cases c9:(I2 l.length).find? (fun j=>q (nth l j))with
   |none=>rw[dh,c9]at hf;exact absurd hf zd
   |some k=>
    obtain⟨a1,a2,a3⟩:=List.find?_range_eq_some.1 c9;exact⟨k,GI.1 a2,a1,fun j hj=>by simpa using a3 j hj⟩
  have b7:dh (fun j=>q (nth l j)) l.length=(j0:Int):=bY b1 b5 a9;rw[b7];have c8:∀j,j<=j0->gd q (l.take j)=l.take j:=fun j=>by
   induction j with
   |zero=>intro _;rfl
   |succ j ih=>
    intro hj;rw[ir zo,ih zo,a9 j zo,aF zo];rfl
  refine zFH rfl ((by rw[beq_eq_false_iff_ne];omega)) ?_;refine zlp (fun z:Nat×Nat×ln×List Nat=>[(0,sv),(1,.func (.func F) #[] cs),(5,nI z.1),(6,nI z.2.1)]) (fun z=>z.2.2.1) (fun z=>z.2.1<=l.length/\z.1<z.2.1/\z.1=(gd q (l.take z.2.1)).length/\z.2.2.2.length=l.length/\z.2.2.2.take z.1=gd q (l.take z.2.1)/\(∀j,z.2.1<=j->j<l.length->nth z.2.2.2 j=nth l j)/\GN aJ 3 1 O z.2.2.1 i sv z.2.2.2/\Gu (fun k=>k=i) O w O z.2.2.1) (fun z=>l.length-z.2.1) (j0,j0+1,w1,l) (⟨b1,Nat.lt_succ_self _,by dsimp only;rw[ir b1,b5,if_pos rfl,GC,c8 j0 (G9 _)];simp;omega,rfl,by dsimp only;rw[ir b1,b5,if_pos rfl,GC,c8 j0 (G9 _)],fun _ _ _=>rfl,c5,d0⟩) ?_
  rintro⟨a,j,w2,l2⟩ ⟨hj,d6,ha,b6,a7,a0,b0,b3⟩;dsimp only at hj d6 ha b6 a7 a0 b0 b3 ⊢;have b':=b0.sl;refine zh ?_;refine zC ?_ ?_
  ·intro a4;replace a4:j<l.length:=dT a4;have d3:=a0 j (G9 _) a4;have m1:w2.cell? (adr sv 1 j)=some (nI ((nth l j:Nat):Int)):=by have:=b'.cell (i:=j) (j:=0) zo rfl;rw[az,d3]at this;exact this
   have a6:=ir (q:=q) a4;refine zh ?_;refine df rfl hF rfl (hq _ (aN a4) O w2 b3) rfl ?_;rintro v w3 ⟨rfl,d8⟩;have c':Gu (fun _=>False) O w2 O w3:=aa (fun h=>h) O d8;have a5:=b0.upd c' hi fun h=>h
   have b2:=b3.trans (c'.mono (fun _ h=>h.elim) hz);refine zh ?_
   cases c6:q (nth l j)with
   |true=>
    rw[c6,if_pos rfl,GC]at a6;refine zFH rfl rfl ?_;refine zxd (a,j+1,w3,l2) (⟨a4,by dsimp only;omega,by dsimp only;rw[a6];exact ha,b6,by dsimp only;rw[a6];exact a7,fun x h1 h2=>a0 x (by dsimp only at h1;omega) h2,a5,b2⟩)
   |false=>
    rw[c6,if_neg zd]at a6;have b9:=a5.sl;refine zTH rfl rfl ?_;refine Iv a5 a zo (nth l j) (Gx _) rfl hi rfl rfl rfl rfl ?_;intro w4 d2 d7;refine zh ?_;refine zxd (a+1,j+1,w4,l2.set a (nth l j)) (⟨a4,by dsimp only;omega,by dsimp only;rw[a6,GP,<-ha];rfl,by dsimp only;rw[Gt];exact b6,?_,fun x h1 h2=>?_,d2,b2.trans d7⟩)
    ·dsimp only;have d5:a<(l2.set a (nth l j)).length:=by rw[Gt];omega
     rw[a6,List.take_succ_eq_append_getElem d5,List.getElem_set_self,List.take_set_of_le (G9 _),a7]
    dsimp only at h1 ⊢;rw[aP zo,if_neg zo];exact a0 x zo h2
  intro d4;obtain rfl:j=l.length:=dF d4;rw[Gy]at ha a7;refine zh ?_;refine zv (kP b' G0 (Gx _) rfl rfl a rfl zo) ?_;refine so b0 a zo (0:Nat) hi G0 (Ig) rfl rfl rfl rfl ?_;intro w3 l3 a5 b4 d9 b2;have b8:=a5.short (n:=a) zo;rw[b4,a7]at b8;have b9:=a5.sl;refine zh ?_;refine zvH (eZ b9 G0 (Gx _) rfl rfl a rfl zo) ?_;refine ae rfl rfl (⟨b8,b3.trans b2⟩)
 have c7:=bP.1 (by simpa using a');have b7:dh (fun j=>q (nth l j)) l.length = -1:=bW c7;rw[b7];have a8:gd q l=l:=List.filter_eq_self.2 fun x hx=>by
  obtain⟨j,hj,rfl⟩:=Gm hx;rw[c7 j hj];rfl
 rw[a8];refine zTH rfl rfl ?_;refine ae rfl rfl (⟨c5,d0⟩)
theorem Fb:KeyL GY 202 dC:=Ax I8 Jt zk zk
theorem Fo:cD GY 201 #[(0,2),(2,1),(3,1),(4,1),(5,1),(6,1)]:=⟨_,underlying201,fun w=>by kernel_rfl⟩
theorem oq(B:Nat)(O:Nat->Nat)(w:ln)(sb tr:Nat)(td:List ((Int×Int)×Bool))(hR:ID B O w)(hc:Cell0 O w (nA sb 5) (.map (some tr))\/(O (nA sb 5).block=1/\w.cell? (nA sb 5)=some (.map (some tr))))(hm:GX dC GD O w 4 tr td):
  J2 GY 119 [nP sb] w fun v w'=>
   (td=[]/\v=.tuple #[dC (0,0),.bool false]/\Gu (fun q=>q=4) O w O w'/\GX dC GD O w' 4 tr td)\/
   ∃b4 k x b3,td=b4++(k,x)::b3/\v=.tuple #[dC k,.bool true]/\Gu (fun q=>q=4) O w O w'/\GX dC GD O w' 4 tr (nN td k):=by
 obtain⟨T0,d',c'⟩:=hR.bound;obtain⟨T,e3⟩:∃T,T=T0+10:=⟨_,rfl⟩
 have hT:∀b,O b<T:=fun b=>by have:=c' b;omega
 have d4:=hm.tag;have a2:w.cell? (nA sb 5)=some (.map (some tr)):=by
  rcases hc with h|h
  ·exact h.c
  exact h.2
 have d5:O (nA sb 5).block=0\/O (nA sb 5).block=1:=by
  rcases hc with h|h
  ·exact .inl h.z
  exact .inr h.1
 have a3:∀ {S:Nat->Prop} {O':Nat->Nat} {W:ln},Gu S O w O' W->¬S 1->W.cell? (nA sb 5)=some (.map (some tr)):=fun {S O' W} u hS=>by
  refine mK (u.blk _ (J0 w _ a2) ?_) a2
  rcases d5 with h|h
  ·rw[h];exact u.z
  rw[h];exact hS
 refine Gp func119 ntmps119 rfl rfl ?_;refine zh ?_
 refine ar hR T zo (GZ _) rfl ?_;intro cb w1 O1 a1 c9 e2 e6;have d9:=hm.upd c9 zd zo;have c1:=a3 c9 zo;refine zh ?_
 refine mR d9 It e2 (T+1) zo zd rfl rfl ?_;intro q w2 O2 d3 d0 b0 e1;have a5:Gu (fun k=>T<=k) O w O2 w2:=(c9.mono (fun _ h=>zo) zo).trans (b0.mono (fun _ h=>zo) zo);have c2:=a3 a5 zo;refine zh ?_
 refine zlp (fun x:Unit=>[(0,nP sb),(2,nP cb),(9,nP q)]) (fun x=>w2) (fun x=>True) (fun x=>0) () (trivial) ?_;rintro⟨⟩ -;refine zh ?_
 refine oR d3 zo zo rfl rfl ?_ ?_
 ·intro h0;refine zh ?_;refine zFH rfl rfl ?_;refine zv (du I8 (Gx _) (GZ _) rfl rfl) ?_;refine zsa (us:=#[nI 0,nI 0]) (a1.upd b0 zo zo) (I0 _) ?_;have a8:=a1.upd b0 zo zo;have b8:=a8.setRow (us:=#[nI 0,nI 0]);have a9:Gu (fun k=>T<=k) O2 w2 O2 (w2.setRow cb #[nI 0,nI 0]):=GE zo a8.tag (G9 _);have b9:=a5.trans a9;refine zh ?_;refine aO rfl rfl rfl (b8.cellsAdd) (J4 _) (I0 _) (.inl ⟨h0,rfl,b9.fgt (fun b h=>by have:=hT b;omega) zd,(d0.upd a9 zd zo).fgt hm.tag⟩)
 intro b4 k x b3 w3 d2 b5 a';obtain⟨k1,k2⟩:=k;refine zh ?_;refine zTH rfl rfl ?_;refine zvH (K0 b5 rfl) ?_;have c8:Gu (fun k=>T<=k) O w O2 w3:=a5.trans (a'.mono (fun _ h=>zo) zo);have e0:=e1.upd a';have d8:=d0.upd a' zo zo;refine ar e0 (T+2) zo (GZ _) rfl ?_;intro eb w4 O4 a0 b2 e4 e5;have d7:=d8.upd b2 zo zo;refine zsa (us:=#[nI k1,nI k2]) a0 (I0 _) ?_;have a6:=a0.setRow (us:=#[nI k1,nI k2]);have d1:Gu (fun k=>T<=k) O4 w4 O4 (w4.setRow eb #[nI k1,nI k2]):=GE zo a0.tag zo;have b6:=d7.upd d1 zd zo;have a7:=(((a1.upd b0 zo zo).upd a' zo zo).upd b2 zo zo)
 have c6:Gu (fun k=>T+1<=k) O2 w3 O4 (w4.setRow eb #[nI k1,nI k2]):=(b2.mono (fun _ h=>zo) zo).trans (GE zo a0.tag zo);have a7:=((a1.upd b0 zo zo).upd a' zo zo).upd c6 zo zo;have b1:=(c8.trans (b2.mono (fun _ h=>zo) zo)).trans d1;generalize w4.setRow eb #[nI k1,nI k2]=w5 at *;have c5:=a3 b1 zo;refine zh ?_;refine JI 5 rfl rfl zk zk ?_;refine zh ?_;refine zw (ah (us:=[nI k1,nI k2]) a6.drew.cellsAdd (J4 _) (I0 _) rfl) ?_;refine JX ?_;have hm5d:GX dC GD O4 w5.drew 4 tr td:=⟨b6.blk,b6.tag,b6.born⟩
 refine WL.delete hm5d It Fb zd (k1,k2) rfl rfl rfl ?_;intro w6 d6 b';have b7:=a6.drew.upd b' zo zo;have a4:=a7.drew.upd b' zo zo;have c7:Gu (fun k=>k=4\/T<=k) O w O4 w6:=(b1.drew.mono (fun _ h=>.inr h) zo).trans (b'.mono (fun _ h=>.inl h) zo);refine zh ?_
 refine zv (ah (us:=[nI k1,nI k2]) b7.cellsAdd (J4 _) (I0 _) rfl) ?_;refine zsa (us:=#[nI k1,nI k2]) a4 (I0 _) ?_
 have b8:=a4.setRow (us:=#[nI k1,nI k2]);have a9:Gu (fun k=>k=T) O4 w6 O4 (w6.setRow cb #[nI k1,nI k2]):=GE zo a4.tag rfl;have b9:=c7.trans (a9.mono (fun _ h=>.inr zo) zo);refine zh ?_;refine aO rfl rfl rfl (b8.cellsAdd) (J4 _) (I0 _) (.inr ⟨b4,(k1,k2),x,b3,d2,rfl,b9.priv hT zd,(d6.upd a9 zd zo).fgt hm.tag⟩)
end Go.Proofs.YtpfpmhhigheccaaGreatDoor
section
namespace Go.Proofs.YtpfpmhhigheccaaGreatDoor
open Go.VL Go.Proofs
set_option maxRecDepth 10000
abbrev KVR:=Int×ix×List Nat
abbrev rH(e:KVR):Int×ix:=(e.1,e.2.1)
theorem tS(E:List KVR)(k:Int)(v:ix)(l:List Nat):(bZ E k (v,l)).map rH=bZ (E.map rH) k v:=by
 induction E with
 |nil=>rfl
 |cons e r ih=>
  simp only[bZ,GH,rH]
  by_cases h:e.1=k
  ·rw[if_pos h,if_pos h];rfl
  rw[if_neg h,if_neg h,GH,ih]
theorem BD(E:List KVR)(k:Int):bf (E.map rH) k=(bf E k).map (·.1):=by
 induction E with
 |nil=>rfl
 |cons e r ih=>
  simp only[bf,GH,rH]
  by_cases h:e.1=k
  ·rw[if_pos h,if_pos h];rfl
  rw[if_neg h,if_neg h];exact ih
structure MpR(base i:Nat)(O:Nat->Nat)(w:ln)(r:Nat)(E:List KVR):Prop where
 map:GX (fun k:Int=>nI k) (fun v:ix=>v) O w i r (E.map rH)
 row:∀k,k<E.length->GN aJ 3 1 O w (base+k) (nth E k).2.1 (nth E k).2.2
theorem MpR.upd{base i:Nat}{S:Nat->Prop}{O O':Nat->Nat}{w w':ln}{r:Nat}{E:List KVR}(h:MpR base i O w r E)(u:Gu S O w O' w')(hi:i≠0)(hb:0<base)(hS:¬S i)(a0:∀k,¬S (base+k)):MpR base i O' w' r E:=
 ⟨h.map.upd u hi hS,fun k hk=>(h.row k hk).upd u zo (a0 k)⟩
def kh(E:List KVR)(k:Int):Nat:=(iy E k).getD E.length
def da(E:List KVR)(k:Int):List Nat:=((bf E k).map (·.2)).getD []
def Az(E:List KVR)(k:Int):ix:=((bf E k).map (·.1)).getD (nS)
theorem MpR.at{base i:Nat}{O:Nat->Nat}{w:ln}{r:Nat}{E:List KVR}(h:MpR base i O w r E)(k:Int):GN aJ 3 1 O w (base+kh E k) (Az E k) (da E k):=by
 unfold kh Az da;rw[jU]
 cases ha:iy E k with
 |none=>exact GQ _ _ _ _ _ _
 |some j=>
  obtain⟨x,hx⟩:=gM ha;obtain⟨hj,a0⟩:=Il.1 hx;have h1:=h.row j hj;rw[aB hj,a0]at h1;simp only[Ji,hx,Jk,Jh];exact h1
theorem MpR.put{base i:Nat}{O O' O2:Nat->Nat}{w w' w2:ln}{r:Nat}{E:List KVR}(h:MpR base i O w r E)(k:Int){v:ix}{l:List Nat}(_:i≠0)(hb:i<base)(u:Gu (fun q=>q=base+kh E k) O w O' w')(hr:GN aJ 3 1 O' w' (base+kh E k) v l) 
  (hm:GX (fun k:Int=>nI k) (fun v:ix=>v) O2 w2 i r (bZ (E.map rH) k v)) (u2:Gu (fun q=>q=i) O' w' O2 w2):MpR base i O2 w2 r (bZ E k (v,l)):=by
 refine⟨by rw[tS];exact hm,fun n hn=>?_⟩;have a0:=hr.upd u2 zo zo;have old:∀n,n<E.length->n≠kh E k->GN aJ 3 1 O2 w2 (base+n) (nth E n).2.1 (nth E n).2.2:=fun n hn a1=>((h.row n hn).upd u zo zo).upd u2 zo zo
 rw[dN]at hn ⊢
 cases ha:iy E k with
 |none=>
  rw[ha]at hn;dsimp only at hn ⊢;have hs:kh E k=E.length:=by unfold kh;rw[ha];rfl
  rw[hs]at a0 old;rw[GP,G8]at hn
  by_cases he:n=E.length
  ·subst he;rw[ay,if_neg zo,Iu,show nth [((k,v,l):KVR)] 0=(k,v,l)from by rw[aB (Nat.zero_lt_one)];rfl];exact a0
  rw[ay,if_pos zo];exact old n zo he
 |some j=>
  rw[ha]at hn;dsimp only at hn ⊢;have hs:kh E k=j:=by unfold kh;rw[ha];rfl
  rw[hs]at a0 old;rw[Gt]at hn;obtain⟨x,hx⟩:=gM ha;obtain⟨hj,_⟩:=Il.1 hx;rw[aP hj]
  by_cases he:n=j
  ·rw[if_pos he];subst he;exact a0
  rw[if_neg he];exact old n hn he
theorem dw(E:List KVR)(k k':Int)(v:ix)(l:List Nat):da (bZ E k (v,l)) k'=if k=k' then l else da E k':=by
 unfold da;rw[aL]
 split<;>rfl
theorem jT(E:List KVR)(k:Int)(x:ix×List Nat):(bZ E k x).map (·.1)=if k∈E.map (·.1)then E.map (·.1)else E.map (·.1)++[k]:=by
 induction E with
 |nil=>rfl
 |cons e r ih=>
  simp only[bZ]
  by_cases h:e.1=k
  ·rw[if_pos h,if_pos (by simp[h])];simp[h]
  rw[if_neg h,GH,ih];have h':¬k=e.1:=fun e=>h e.symm
  by_cases hm:k∈r.map (·.1)
  ·rw[if_pos hm,if_pos (by rw[GH];exact GF _ hm)];rfl
  rw[if_neg hm,if_neg (by rw[GH,Gv];exact fun h=>h.elim h' hm)];rfl
theorem xx{E:List KVR}(h:(E.map (·.1)).Nodup)(k:Int)(x:ix×List Nat):((bZ E k x).map (·.1)).Nodup:=by
 rw[jT]
 split
 ·exact h
 rename_i hk;refine Jm.2 ⟨h,by simp,fun a ha b hb e=>?_⟩;rw[G2]at hb;subst hb;subst e;exact hk ha
end Go.Proofs.YtpfpmhhigheccaaGreatDoor
namespace Go.VL
open Go.Proofs
theorem gR{P:IW}{N:Nat}{ops:Array Jw}{S:ln->Prop}{Q:JO->Act->ln->Prop}{a1:Nat}{a0:Array Bool}{st:St}{w:ln} 
  {T E:IC} {o:Op} {sz a2:Nat} {α:Type} {enc:α->List ix} {y:JE} {t t':IC} {p p':String} {e e':Array Edge} {d d':Nat} {v xv:ix}
  (i j:Nat) (he:JP P T E sz a2) (u:α) (hi:ops[i]? = some ⟨some d,o,t,p,e,none⟩) (hj:ops[j]? = some ⟨some d',.buildSlice T 1 #[(0,y)],t',p',e',none⟩)
  (hr:GJ .any ops a0=[i,j]) (a':GJ .any ops (a0.setIfInBounds i true)=[j]) (a9:GJ .any ops (a0.setIfInBounds j true)=[i])
  (a4:(a0.setIfInBounds j true).setIfInBounds i true=(a0.setIfInBounds i true).setIfInBounds j true)
  (hv:∀w',IT w w'->RV P N o t st w' v) (hS:∀w',IT w w'->S w')
  (hy:ev st y=some xv) (a5:xv.cells.toList=enc u) (a6:(enc u).length=sz) (hs:sz<=16777216) (hd:IX d N=true) (a7:IX d' N=true) (b0:Ip d d'=false) (hf:(bV st d').isNone=true) (a8:ev ((d,v)::st) y=some xv)
  (h:∀sv w',Sl enc sz w' sv [u]->IT w w'->WH P N ops S Q a1 ((a0.setIfInBounds i true).setIfInBounds j true) ((d',sv)::(d,v)::st) w'):WH P N ops S Q (a1+2) a0 st w:=by
 refine bL i j hr hi hj ?_ ?_
 ·refine lq (hv w (GB w)) hd (G5 (af (hS w (GB w)) (Gn j a' hj ?_)));refine bH he u a8 a5 a6 hs a7 fun sv w' a3 hE=>G5 (af (hS w' hE) (h sv w' a3 hE))
 refine bH he u hy a5 a6 hs a7 fun sv w' a3 hE=>G5 (af (hS w' hE) (Gn i a9 hi ?_))
 refine lq (fun a ha=>hv w' hE a (ha.fresh hf)) hd (G5 (af (hS w' hE) ?_));rw[a4];exact fun a ha=>h sv w' a3 hE a (ha.swap b0)
end Go.VL
end
namespace Go.Proofs.YtpfpmhhigheccaaGreatDoor
structure LeadsI(bl xs:List Nat)(E:List KVR):Prop where
 nd:(E.map (·.1)).Nodup
 row:∀k,da E k=xs.filter fun i=>decide (((nth bl i:Nat):Int)=k)
 key:∀k,k∈E.map (·.1)↔∃i∈xs,((nth bl i:Nat):Int)=k
theorem LeadsI.nil(bl:List Nat):LeadsI bl [] []:=⟨JA,fun _=>rfl,fun k=>by simp⟩
theorem LeadsI.push{bl xs:List Nat}{E:List KVR}(h:LeadsI bl xs E)(i:Nat)(v:ix):LeadsI bl (xs++[i]) (bZ E ((nth bl i:Nat):Int) (v,da E ((nth bl i:Nat):Int)++[i])):=by
 refine⟨xx h.nd _ _,fun k=>?_,fun k=>?_⟩
 ·rw[dw,I5,h.row,h.row]
  by_cases hk:((nth bl i:Nat):Int)=k
  ·rw[if_pos hk,hk,List.filter_cons_of_pos (by simpa using hk)];rfl
  rw[if_neg hk,List.filter_cons_of_neg (by simpa using hk)];simp
 rw[jT]
 constructor
 ·intro hm
  split at hm
  ·obtain⟨x,hx,e⟩:=(h.key k).1 hm;exact⟨x,GW _ hx,e⟩
  rcases Gw.1 hm with hm|hm
  ·obtain⟨x,hx,e⟩:=(h.key k).1 hm;exact⟨x,GW _ hx,e⟩
  exact⟨i,by simp,(G2.1 hm).symm⟩
 rintro⟨x,hx,e⟩
 rcases Gw.1 hx with hx|hx
 ·have:=(h.key k).2 ⟨x,hx,e⟩
  split
  ·exact this
  exact GW _ this
 obtain rfl:=G2.1 hx;subst e
 split
 ·assumption
 exact GT _ (G2.2 rfl)
def dt(n:Nat)(nx:Nat->Nat)(to:Nat):List Nat:=(I2 n).filter fun x=>decide (nx x=to)
theorem gD{n:Nat}{nx:Nat->Nat}{to x:Nat}:x∈dt n nx to↔x<n/\nx x=to:=by
 simp[dt,GI]
theorem Bn(n:Nat)(nx:Nat->Nat)(to:Nat):(dt n nx to).Nodup:=IN.sublist Ii
theorem gC{n:Nat}{nx:Nat->Nat}{l:List Nat}{x:Nat}:x∈l.flatMap (dt n nx)↔x<n/\nx x∈l:=by
 rw[List.mem_flatMap]
 constructor
 ·rintro⟨a,ha,hx⟩;obtain⟨h1,rfl⟩:=gD.1 hx;exact⟨h1,ha⟩
 rintro⟨h1,h2⟩;exact⟨_,h2,gD.2 ⟨h1,rfl⟩⟩
theorem pS{n:Nat}{nx:Nat->Nat}:∀ {l:List Nat},l.Nodup->(l.flatMap (dt n nx)).Nodup
 |[],_=>JA
 |a::r,h=>by
  obtain⟨h1,h2⟩:=IR.1 h;rw[Io];refine Jm.2 ⟨Bn n nx a,pS h2,fun x hx y hy e=>?_⟩;subst e;have a1:=(gD.1 hx).2;have a0:=(gC.1 hy).2;rw[a1]at a0;exact h1 a0
theorem LeadsI.mem{n b:Nat}{nx:Nat->Nat}{bl st:List Nat}{E:List KVR}(h:LeadsI bl (st.flatMap (dt n nx)) E)(a1:∀x,x<n->nx x<n)(a0:∀x,x∈st↔x<n/\nth bl x=b)(k x:Nat):x∈da E (k:Int)↔x<n/\nth bl x=k/\nth bl (nx x)=b:=by
 rw[h.row,I1,gC,a0,decide_eq_true_eq]
 constructor
 ·rintro⟨⟨h1,_,h2⟩,h3⟩;exact⟨h1,zo,h2⟩
 rintro⟨h1,h2,h3⟩;exact⟨⟨h1,a1 x h1,h3⟩,zo⟩
theorem LeadsI.rnd{n:Nat}{nx:Nat->Nat}{bl st:List Nat}{E:List KVR}(h:LeadsI bl (st.flatMap (dt n nx)) E)(a0:st.Nodup)(k:Int):(da E k).Nodup:=by
 rw[h.row];exact(pS a0).sublist Ii
theorem LeadsI.ne{bl xs:List Nat}{E:List KVR}(h:LeadsI bl xs E){k:Int}(hk:k∈E.map (·.1)):da E k≠[]:=fun e=>by
 obtain⟨i,hi,hb⟩:=(h.key k).1 hk;have:i∈da E k:=by rw[h.row];exact I1.2 ⟨hi,decide_eq_true hb⟩
 rw[e]at this;exact absurd this (by simp)
structure FromO(O:Nat->Nat)(w:ln)(i:Nat)(fv:ix)(n:Nat)(nx:Nat->Nat->Nat):Prop where
 ex:∃(ms:List ix) (vss:List (List ix)),GN xH 89 1 O w i fv ms/\ms.length=37/\∀m,m<37->GN xH 25 1 O w i (nth ms m) (nth vss m)/\(nth vss m).length=n/\
  ∀t,t<n->GN aJ 3 1 O w i (nth (nth vss m) t) (dt n (fun x=>nx x m) t)
theorem FromO.upd{S:Nat->Prop}{O O':Nat->Nat}{w w':ln}{i:Nat}{fv:ix}{n:Nat}{nx:Nat->Nat->Nat}(h:FromO O w i fv n nx)(u:Gu S O w O' w')(hi:i≠0)(hS:¬S i):FromO O' w' i fv n nx:=by
 obtain⟨ms,a0,h1,h2,h3⟩:=h.ex;exact⟨ms,a0,h1.upd u hi hS,h2,fun m hm=>⟨(h3 m hm).1.upd u hi hS,(h3 m hm).2.1,fun t ht=>((h3 m hm).2.2 t ht).upd u hi hS⟩⟩
structure SpO(O:Nat->Nat)(w:ln)(sb:Nat)(nv tv fv bv:ix)(sr tr n:Nat)(nx:Nat->Nat->Nat)(bl:List Nat)(E:List KVR)(td:List ((Int×Int)×Bool))(many:Nat):Prop where
 blk:If O w 1 sb #[nv,tv,fv,bv,.map (some sr),.map (some tr),nI (many:Nat)] 201
 row:GN aJ 3 1 O w 2 bv bl
 st:MpR 10 3 O w sr E
 todo:GX dC GD O w 4 tr td
 frm:FromO O w 5 fv n nx
theorem SpO.upd{S:Nat->Prop}{O O':Nat->Nat}{w w':ln}{sb:Nat}{nv tv fv bv:ix}{sr tr n:Nat}{nx:Nat->Nat->Nat}{bl:List Nat}{E:List KVR}{td:List ((Int×Int)×Bool)}{many:Nat}(h:SpO O w sb nv tv fv bv sr tr n nx bl E td many) 
  (u:Gu S O w O' w') (hS:∀k,0<k->k<10+E.length->¬S k):SpO O' w' sb nv tv fv bv sr tr n nx bl E td many:=
 ⟨h.blk.upd u zd (hS 1 zo zo),h.row.upd u zd (hS 2 zo zo),⟨h.st.map.upd u zd (hS 3 zo zo),fun k hk=>(h.st.row k hk).upd u zo (hS _ zo zo)⟩,h.todo.upd u zd (hS 4 zo zo),h.frm.upd u zd (hS 5 zo zo)⟩
theorem kN(E:List KVR)(k:Int):C8 (fun v:ix=>v) (nS) (bf (E.map rH) k)=Az E k:=by
 unfold Az;rw[BD]
 cases bf E k<;>rfl
theorem tC(B:Nat)(O:Nat->Nat)(w:ln)(sb:Nat)(nv tv fv bv:ix)(sr tr n:Nat)(nx:Nat->Nat->Nat)(bl:List Nat)(E:List KVR)(td:List ((Int×Int)×Bool))(many b m:Nat)(hR:ID B O w)(hS:SpO O w sb nv tv fv bv sr tr n nx bl E td many) 
  (hE:E.length<=1000) (hm:m<37) (d4:∀x∈da E (b:Nat),x<n) (hn:n<=1000) (g0:bl.length=n) (d5:(da E (b:Nat)).Nodup) (_:∀q,O q<2000) :
  J2 GY 120 [nP sb,nI (b:Nat),nI (m:Nat)] w fun v w'=>
   ∃r O' G,v=.map (some r)/\Gu (fun q=>2000<=q) O w O' w'/\ID B O' w'/\MpR 3000 2000 O' w' r G/\LeadsI bl ((da E (b:Nat)).flatMap (dt n fun x=>nx x m)) G:=by
 obtain⟨ms,b2,e5,f6,a8⟩:=hS.frm.ex;refine Gp func120 ntmps120 rfl rfl ?_;refine zh ?_;refine aV (fun k:Int=>nI k) (fun v:ix=>v) hR 2000 zd rfl ?_;intro r w1 O1 e0 c8 e9;have b6:=hS.upd c8 zo;have c3:w1.cell? (nA sb 4)=some (.map (some sr)):=b6.blk.cell 4 rfl;have d7:=b6.st.at (b:Int);have d6:=hS.st.at (b:Int);refine zh ?_;refine zv (I9 b6.st.map Gz oy (Ie _) (b:Int) rfl rfl rfl (kN E _)) ?_;refine zvH (bd d7.sl.sh G0 rfl) ?_;refine zlp (fun z:Nat×(Nat->Nat)×World×List KVR=>[(0,nP sb),(2,nI (m:Nat)),(7,.map (some r)),(18,Az E (b:Nat)),(19,nI (da E (b:Nat)).length),(20,nI z.1)]) (fun z=>z.2.2.1) (fun z=>z.1<=(da E (b:Nat)).length/\Gu (fun q=>2000<=q) O w z.2.1 z.2.2.1/\ID B z.2.1 z.2.2.1/\MpR 3000 2000 z.2.1 z.2.2.1 r z.2.2.2/\LeadsI bl (((da E (b:Nat)).take z.1).flatMap (dt n fun x=>nx x m)) z.2.2.2) (fun z=>(da E (b:Nat)).length-z.1) (0,O1,w1,[]) (⟨G7 _,c8.mono (fun _ h=>zo) zd,e9,⟨e0,fun k hk=>absurd hk (G1 k)⟩,LeadsI.nil _⟩) ?_;rintro⟨q,O2,w2,G⟩ ⟨hq,a3,b8,hG,hL⟩;dsimp only at hq a3 b8 hG hL ⊢;have c':=hS.upd a3 zo;have c6:=(c'.st.at (b:Int)).sl;have f8:=c6.len_le;refine zh ?_;refine zC ?_ ?_
 ·intro a2;replace a2:q<(da E (b:Nat)).length:=dT a2;have m1:w2.cell? (adr (Az E (b:Nat)) 1 q)=some (nI ((nth (da E (b:Nat)) q:Nat):Int)):=by have:=c6.cell (i:=q) (j:=0) a2 rfl;rwa[az]at this
  obtain⟨to,a7⟩:∃to,to=nth (da E (b:Nat)) q:=⟨_,rfl⟩
  have c5:to<n:=by rw[a7];exact d4 _ (aN a2)
  rw[<-a7]at m1;have e7:=(e5.upd a3 zd zo).sl;have e6:=((a8 m hm).1.upd a3 zd zo).sl;have f':=(((a8 m hm).2.2 to c5).upd a3 zd zo).sl;have f5:=(a8 m hm).2.1;have c1:w2.cell? (nA sb 2)=some fv:=c'.blk.cell 2 rfl;have m2:w2.cell? (adr fv 1 m)=some (nth ms m):=by have:=e7.cell (i:=m) (j:=0) zo rfl;rwa[az]at this
  have m3:w2.cell? (adr (nth ms m) 1 to)=some (nth (nth b2 m) to):=by have:=e6.cell (i:=to) (j:=0) zo rfl;rwa[az]at this
  refine zh ?_;refine zlp (fun y:Nat×(Nat->Nat)×World×List KVR=>[(0,nP sb),(2,nI (m:Nat)),(7,.map (some r)),(18,Az E (b:Nat)),(19,nI (da E (b:Nat)).length),(20,nI q),(33,nth (nth b2 m) to),(34,nI (dt n (fun x=>nx x m) to).length),(35,nI y.1)]) (fun y=>y.2.2.1) (fun y=>y.1<=(dt n (fun x=>nx x m) to).length/\Gu (fun q=>2000<=q) O w y.2.1 y.2.2.1/\ID B y.2.1 y.2.2.1/\MpR 3000 2000 y.2.1 y.2.2.1 r y.2.2.2/\LeadsI bl (((da E (b:Nat)).take q).flatMap (dt n fun x=>nx x m)++(dt n (fun x=>nx x m) to).take y.1) y.2.2.2) (fun y=>(dt n (fun x=>nx x m) to).length-y.1) (0,O2,w2,G) (⟨G7 _,a3,b8,hG,by dsimp only;rw[Jz,GC];exact hL⟩) ?_
  rintro⟨j,O3,w3,G3⟩ ⟨hj,a5,b7,b',a6⟩;dsimp only at hj a5 b7 b' a6 ⊢;have b5:=hS.upd a5 zo;have c7:=(((a8 m hm).2.2 to c5).upd a5 zd zo).sl;have f7:=c7.len_le;refine zh ?_;refine zC ?_ ?_
  ·intro a4;replace a4:j<(dt n (fun x=>nx x m) to).length:=dT a4;obtain⟨i,hi⟩:∃i,i=nth (dt n (fun x=>nx x m) to) j:=⟨_,rfl⟩
   have f9:i<n:=by rw[hi];exact(gD.1 (aN a4)).1
   have k1:w3.cell? (adr (nth (nth b2 m) to) 1 j)=some (nI (i:Int)):=by have:=c7.cell (i:=j) (j:=0) a4 rfl;rw[az]at this;rw[hi];exact this
   refine zh ?_;have a0:=b5.row.sl;have d1:w3.drew.cell? (nA sb 3)=some bv:=b5.blk.cell 3 rfl;have d2:w3.drew.cell? (adr bv 1 i)=some (nI ((nth bl i:Nat):Int)):=by have:=a0.cell (i:=i) (j:=0) zo rfl;rwa[az]at this
   have a':Gu (fun _=>False) O3 w3 O3 w3.drew:=aa (fun h=>h) O3 (GB w3).drew;have d3:=b'.upd a' zd zd (fun h=>h) (fun _ h=>h);refine aK (fun W=>W.cell? (nA sb 3)=some bv/\W.cell? (adr bv 1 i)=some (nI ((nth bl i:Nat):Int))) 21 rfl zk ?_;refine zin ⟨d1,d2⟩ fun zS=>?_
   refine zrm 0 rfl zS rfl ?_;refine zrm 1 rfl zS rfl ?_
   refine zr 2 rfl zS (fun _=>aq rfl) ?_;refine zrf 3 rfl zS rfl ?_
   refine zt 4 rfl zS (fun w1 a1=>RV.ld a1.1 rfl) ?_;refine zrm 5 rfl zS rfl ?_
   refine zr 6 rfl zS (fun _=>aA a0.sh G0 (Gx _) rfl rfl i rfl zo) ?_;refine zt 7 rfl zS (fun w1 a1=>RV.ld a1.2 rfl) ?_
   refine zrm 8 rfl zS rfl ?_;refine zrm 9 rfl zS rfl ?_
   refine zr 10 rfl zS (fun _=>aq rfl) ?_;refine zrf 11 rfl zS rfl ?_
   refine zt 12 rfl zS (fun w1 a1=>RV.ld a1.1 rfl) ?_;refine zrm 13 rfl zS rfl ?_
   refine zr 14 rfl zS (fun _=>aA a0.sh G0 (Gx _) rfl rfl i rfl zo) ?_;refine zt 15 rfl zS (fun w1 a1=>RV.ld a1.2 rfl) ?_
   refine zrm 17 rfl zS rfl ?_;refine gR 16 18 jj (enc:=aJ) i rfl rfl zk zk zk zk (fun W hE=>I9 (d3.upd (aa (S:=fun _=>False) (fun h=>h) O3 hE) zd zd (fun h=>h) (fun _ h=>h)).map Gz oy (Ie _) ((nth bl i:Nat):Int) rfl rfl rfl (kN G3 _)) (fun W hE=>⟨hE.cell d1,hE.cell d2⟩) rfl rfl rfl zd rfl rfl rfl rfl rfl ?_
   intro f4 w4 b3 f3;have a9:Gu (fun _=>False) O3 w3.drew O3 w4:=aa (fun h=>h) O3 f3;have b9:=d3.upd a9 zd zd (fun h=>h) (fun _ h=>h);have g1:(da G3 ((nth bl i:Nat):Int)).length<=n:=by
    have d9:(((da E (b:Nat)).take q).flatMap (dt n fun x=>nx x m)++(dt n (fun x=>nx x m) to)).Nodup:=by
     have:=pS (n:=n) (nx:=fun x=>nx x m) (d5.sublist (Jl (q+1) _))
     rwa[aF a2,Ih,<-a7,Io,Jq,GC]at this
    rw[a6.row];refine fx ((d9.sublist (JJ (Jl j _) _)).sublist Ii) fun x hx=>?_
    rcases Gw.1 (I1.1 hx).1 with h1|h1
    ·exact(gC.1 h1).1
    exact(gD.1 (J9 h1)).1
   refine Gn 19 zk rfl ?_;refine aC jj (b9.at ((nth bl i:Nat):Int)) ((b7.upd a').upd a9) b3 (by simp) rfl rfl (by simp) (by simp[G6]) (by rw[G8];omega) (by rw[G8];omega) zo rfl ?_
   intro v5 w5 O5 d8 b1 e8;have b4:=((b5.upd a' (fun _ _ _ h=>h)).upd a9 (fun _ _ _ h=>h)).upd b1 zo;have e2:w5.cell? (adr bv 1 i)=some (nI ((nth bl i:Nat):Int)):=by have:=b4.row.sl.cell (i:=i) (j:=0) zo rfl;rwa[az]at this
   refine zh ?_;refine af (⟨b4.blk.cell 3 rfl,e2⟩) ?_
   refine Gn 20 zk rfl ?_;refine GM (b9.map.upd b1 zd zo) Gz oy zd ((nth bl i:Nat):Int) v5 rfl rfl rfl rfl rfl ?_
   intro w6 d' b0;have c9:=b4.upd b0 zo;have e3:w6.cell? (adr bv 1 i)=some (nI ((nth bl i:Nat):Int)):=by have:=c9.row.sl.cell (i:=i) (j:=0) zo rfl;rwa[az]at this
   have e':=b9.put ((nth bl i:Nat):Int) zd zd b1 d8 d' b0;have d0:=a6.push i v5;rw[Ia,hi,<-aF a4,<-hi]at d0;refine zh ?_;refine af (⟨c9.blk.cell 3 rfl,e3⟩) ?_;refine I6 zk ?_;refine zh ?_;refine zxd (j+1,O5,w6,bZ G3 ((nth bl i:Nat):Int) (v5,da G3 ((nth bl i:Nat):Int)++[i])) (⟨a4,(((a5.trans (a'.mono (fun _ h=>h.elim) zd)).trans (a9.mono (fun _ h=>h.elim) zd)).trans (b1.mono (fun _ h=>zo) zd)).trans (b0.mono (fun _ h=>zo) zd),e8.upd b0,e',d0⟩)
  intro e1;obtain rfl:j=(dt n (fun x=>nx x m) to).length:=dF e1;rw[Gy]at a6;refine zh ?_;refine zxd (q+1,O3,w3,G3) (⟨a2,a5,b7,b',by dsimp only;rw[aF a2,Ih,<-a7,Io,Jq,GC];exact a6⟩)
 intro e4;obtain rfl:q=(da E (b:Nat)).length:=dF e4;rw[Gy]at hL;refine zh ?_;refine ae rfl rfl (⟨r,O2,G,rfl,a3,b8,hG,hL⟩)
theorem Bz(c k:Nat):((c:Int)==(k:Int))=(c==k):=by
 by_cases h:c=k
 ·subst h;simp
 rw[beq_eq_false_iff_ne.2 h,beq_eq_false_iff_ne.2 zo]
theorem rC(w:ln)(xb yb sb i c k len:Nat)(bv:ix)(a0:Shape bv len)(hi:i<len)(c1:w.cell? ⟨xb,0,none⟩=some (nP sb))(c2:w.cell? (nA sb 3)=some bv)(c3:w.cell? (adr bv 1 i)=some (nI (c:Nat)))(c4:w.cell? ⟨yb,0,none⟩=some (nI (k:Nat))):
  J2 GY 147 [nI (i:Nat),nP xb,nP yb] w fun v w'=>v=.bool (c==k)/\IT w w':=by
 refine Gp func147 ntmps147 rfl rfl ?_;refine zh ?_
 refine JY zk zk ?_;refine zh ?_
 refine zwH (aA a0 G0 (Gx _) rfl rfl i rfl zo) ?_;refine WS.nil ?_
 refine zh ?_;refine ae rfl rfl (⟨by rw[Bz c k],(GB w).drew⟩)
def tdL(td:List ((Int×Int)×Bool))(b many:Nat)(lt:Bool):Nat->List ((Int×Int)×Bool)
 |0=>td
 |m+1=>bZ (tdL td b many lt m) (((if(bf (tdL td b many lt m) ((b:Int),(m:Int))).getD false=true then(many:Int)else if lt=true then(b:Int)else(many:Int)),(m:Int))) true
theorem Ad(td:List ((Int×Int)×Bool))(k:Int×Int):C8 GD (.bool false) (bf td k)=.bool ((bf td k).getD false):=by
 cases bf td k<;>rfl
def cg(bl:List Nat)(k:Nat)(L:List Nat):List Nat:=L.foldl (fun bl x=>bl.set x k) bl
theorem ib(k:Nat):∀(L bl:List Nat),(cg bl k L).length=bl.length
 |[],_=>rfl
 |x::L,bl=>by rw[cg,Jy];exact(ib k L (bl.set x k)).trans Gt
theorem sZ{bl:List Nat}{k:Nat}{L:List Nat}{j:Nat}(h:j<L.length):cg bl k (L.take (j+1))=(cg bl k (L.take j)).set (nth L j) k:=by
 unfold cg;rw[aF h,II];rfl
theorem kB(k:Nat):∀(L bl:List Nat) (x:Nat),x<bl.length->nth (cg bl k L) x=if x∈L then k else nth bl x
 |[],_,_,_=>by simp[cg]
 |y::L,bl,x,hx=>by
  rw[cg,Jy];have:=kB k L (bl.set y k) x (by rw[Gt];exact hx);rw[cg]at this;rw[this]
  by_cases h1:x∈L
  ·rw[if_pos h1,if_pos (GF _ h1)]
  rw[if_neg h1]
  by_cases h2:x=y
  ·subst h2;rw[if_pos (I3 ..),aP hx,if_pos rfl]
  rw[if_neg (fun h=>(Gv.1 h).elim h2 h1)]
  by_cases hy:y<bl.length
  ·rw[aP hy,if_neg h2]
  rw[List.set_eq_of_length_le zo]
def tdP(td:List ((Int×Int)×Bool))(b m:Nat):Prop:=bf td ((b:Int),(m:Int))=some true
theorem px{a b c d:Int}(h:b≠d):¬((a,b)=(c,d)):=fun e=>h (IH e).2
theorem xQ(td:List ((Int×Int)×Bool))(b many:Nat)(lt:Bool)(c j:Nat):∀m,m<=j->bf (tdL td b many lt m) ((c:Int),(j:Int))=bf td ((c:Int),(j:Int))
 |0,_=>rfl
 |m+1,h=>by
  unfold tdL;rw[aL,if_neg (px zo)];exact xQ td b many lt c j m zo
theorem AL{td:List ((Int×Int)×Bool)}{c j:Nat}(q:Int×Int)(h:tdP td c j):tdP (bZ td q true) c j:=by
 unfold tdP;rw[aL]
 split
 ·rfl
 exact h
theorem uw{td:List ((Int×Int)×Bool)}{b many:Nat}{lt:Bool}{c j:Nat}(h:tdP td c j):∀m,tdP (tdL td b many lt m) c j
 |0=>h
 |m+1=>AL _ (uw h m)
theorem uu{td:List ((Int×Int)×Bool)}{b many:Nat}{lt:Bool}{j:Nat}(h:tdP td b j):∀m,j<m->tdP (tdL td b many lt m) many j
 |0,hj=>absurd hj (G1 j)
 |m+1,hj=>by
  unfold tdP tdL;rw[aL]
  by_cases e:j=m
  ·subst e;rw[xQ td b many lt b j j (G9 _),show bf td ((b:Int),(j:Int))=some true from h];simp
  rw[if_neg (px zo)];exact uu h m zo
theorem BN{td:List ((Int×Int)×Bool)}{b many:Nat}{lt:Bool}{j:Nat}:∀m,j<m->tdP (tdL td b many lt m) many j\/tdP (tdL td b many lt m) b j
 |0,hj=>absurd hj (G1 j)
 |m+1,hj=>by
  by_cases e:j=m
  ·subst e;unfold tdP;rw[show tdL td b many lt (j+1)=bZ (tdL td b many lt j) (((if(bf (tdL td b many lt j) ((b:Int),(j:Int))).getD false=true then(many:Int)else if lt=true then(b:Int)else(many:Int)),(j:Int))) true from rfl];rw[aL,aL]
   split
   ·exact .inl (if_pos rfl)
   split
   ·exact .inr (if_pos rfl)
   exact .inl (if_pos rfl)
  have:=BN (td:=td) (b:=b) (many:=many) (lt:=lt) (j:=j) m zo;unfold tdP at this ⊢;rw[show tdL td b many lt (m+1)=bZ (tdL td b many lt m) (((if(bf (tdL td b many lt m) ((b:Int),(m:Int))).getD false=true then(many:Int)else if lt=true then(b:Int)else(many:Int)),(m:Int))) true from rfl];rw[aL,aL,if_neg (px zo),if_neg (px zo)];exact this
section
variable{κ ν:Type}[DecidableEq κ]
theorem qd(k:κ)(x:ν):∀(l:List (κ×ν)),(bZ l k x).length<=l.length+1
 |[]=>G9 _
 |(a,y)::r=>by
  unfold bZ
  split
  ·simp
  simp only[GO];exact Nat.succ_le_succ (qd k x r)
theorem qb(k:κ)(x:ν):∀(l:List (κ×ν)) (e:κ×ν),e∈bZ l k x->e∈l\/e=(k,x)
 |[],e,h=>.inr (G2.1 h)
 |(a,y)::r,e,h=>by
  unfold bZ at h
  split at h
  ·rcases Gv.1 h with h|h
   ·exact .inr h
   exact .inl (GF _ h)
  rcases Gv.1 h with h|h
  ·exact .inl (by rw[h];exact I3 ..)
  rcases qb k x r e h with h|h
  ·exact .inl (GF _ h)
  exact .inr h
theorem vl(k:κ):∀(l:List (κ×ν)) (e:κ×ν),e∈nN l k->e∈l
 |[],e,h=>h
 |(a,y)::r,e,h=>by
  unfold nN at h
  split at h
  ·exact GF _ h
  rcases Gv.1 h with h|h
  ·rw[h];exact I3 ..
  exact GF _ (vl k r e h)
theorem vm(k:κ)(x:ν):∀(l:List (κ×ν)),(k,x)∈l->(nN l k).length+1=l.length
 |(a,y)::r,h=>by
  unfold nN
  split
  ·rfl
  rename_i hn
  rcases Gv.1 h with h|h
  ·exact absurd (IH h).1.symm hn
  simp only[GO];rw[vm k x r h]
theorem oQ{k k':κ}(hne:k'≠k):∀(l:List (κ×ν)),bf (nN l k) k'=bf l k'
 |[]=>rfl
 |(a,y)::r=>by
  unfold nN
  split
  ·rename_i e;subst e;rw[show bf ((a,y)::r) k'=if a=k' then some y else bf r k' from rfl,if_neg (fun e=>hne e.symm)]
  rw[show bf ((a,y)::r) k'=if a=k' then some y else bf r k' from rfl,show bf ((a,y)::nN r k) k'=if a=k' then some y else bf (nN r k) k' from rfl,oQ hne r]
end
theorem xR(td:List ((Int×Int)×Bool))(b many:Nat)(lt:Bool):∀m,(tdL td b many lt m).length<=td.length+m
 |0=>G9 _
 |m+1=>by
  have:=qd (((if(bf (tdL td b many lt m) ((b:Int),(m:Int))).getD false=true then(many:Int)else if lt=true then(b:Int)else(many:Int)),(m:Int))) true (tdL td b many lt m);have h2:=xR td b many lt m;unfold tdL;omega
def tdR(td:List ((Int×Int)×Bool))(many:Nat):Prop:=∀e∈td,∃c j:Nat,c<many/\j<37/\e.1=((c:Int),(j:Int))
theorem xP{td:List ((Int×Int)×Bool)}{b many:Nat}{lt:Bool}(h:tdR td many)(hb:b<many):∀m,m<=37->tdR (tdL td b many lt m) (many+1)
 |0,_=>fun e he=>by
  obtain⟨c,j,h1,h2,h3⟩:=h e he;exact⟨c,j,zo,h2,h3⟩
 |m+1,hm=>fun e he=>by
  unfold tdL at he
  rcases qb _ _ _ _ he with he|he
  ·exact xP h hb m zo e he
  rw[he]
  split
  ·exact⟨many,m,zo,zo,rfl⟩
  split
  ·exact⟨b,m,zo,zo,rfl⟩
  exact⟨many,m,zo,zo,rfl⟩
theorem tdR.del{td:List ((Int×Int)×Bool)}{many:Nat}(h:tdR td many)(k:Int×Int):tdR (nN td k) many:=fun e he=>h e (vl k td e he)
def KeysE(E:List KVR)(many:Nat):Prop:=E.map (·.1)=(I2 many).map fun(k:Nat)=>(k:Int)
theorem KeysE.len{E:List KVR}{many:Nat}(h:KeysE E many):E.length=many:=by
 have:=congrArg List.length h;simpa using this
theorem KeysE.mem{E:List KVR}{many:Nat}(h:KeysE E many){k:Nat}:(k:Int)∈E.map (·.1)↔k<many:=by
 rw[h,Is]
 constructor
 ·rintro⟨a,ha,e⟩;have:=GI.1 ha;omega
 intro hk;exact⟨k,GI.2 hk,rfl⟩
theorem KeysE.idx{E:List KVR}{many:Nat}(h:KeysE E many){k:Nat}(hk:k<many):iy E (k:Int)=some k:=by
 rw[<-dG,h];refine I7.2 ⟨by simpa using hk,by simp,fun j hj=>?_⟩;simp;omega
theorem KeysE.idxN{E:List KVR}{many:Nat}(h:KeysE E many){k:Nat}(hk:many<=k):iy E (k:Int)=none:=by
 rw[<-dG,h];refine IZ.2 fun x hx=>?_
 obtain⟨a,ha,rfl⟩:=Is.1 hx;have:=GI.1 ha;simp;omega
theorem KeysE.slot{E:List KVR}{many:Nat}(h:KeysE E many){k:Nat}(hk:k<many):kh E (k:Int)=k:=by
 unfold kh;rw[h.idx hk];rfl
theorem KeysE.add{E:List KVR}{many:Nat}(h:KeysE E many)(x:ix×List Nat):bZ E (many:Int) x=E++[((many:Int),x)]:=by
 rw[dN,h.idxN (G9 _)]
theorem KeysE.put{E:List KVR}{many:Nat}(h:KeysE E many){k:Nat}(hk:k<many)(x:ix×List Nat):bZ E (k:Int) x=E.set k ((k:Int),x):=by
 rw[dN,h.idx hk]
theorem KeysE.more{E:List KVR}{many:Nat}(h:KeysE E many)(x:ix×List Nat):KeysE (bZ E (many:Int) x) (many+1):=by
 unfold KeysE;rw[jT,if_neg (fun hm=>by have:=h.mem.1 hm;omega),h,IQ,GR];rfl
theorem KeysE.same{E:List KVR}{many:Nat}(h:KeysE E many){k:Nat}(hk:k<many)(x:ix×List Nat):KeysE (bZ E (k:Int) x) many:=by
 unfold KeysE;rw[jT,if_pos (h.mem.2 hk)];exact h
theorem uA(E:List KVR)(k:Int):kh E k<=E.length:=by
 unfold kh
 cases h:iy E k with
 |none=>exact G9 _
 |some j=>
  obtain⟨x,hx⟩:=gM h;exact Nat.le_of_lt (Il.1 hx).1
theorem DR{n many b:Nat}{bl:List Nat}{E:List KVR}{L:List Nat}{ov v':ix}(hb:b<many)(a0:bl.length=n)(a1:∀x,x∈da E (b:Int)↔x<n/\nth bl x=b):
  Cut n bl (cg bl many L) (fun k=>da E (k:Int)) (fun k=>da (bZ (bZ E (many:Int) (ov,L)) (b:Int) (v',gd (fun x=>nth (cg bl many L) x==many) (da E (b:Int)))) (k:Int)) many b L:=by
 have a2:=ib many L bl;refine⟨by rw[a2,a0],fun x hx=>kB many L bl x zo,?_,?_,fun c h1 h2=>?_⟩
 ·rw[dw,if_neg zo,dw,if_pos rfl]
 ·rw[dw,if_pos rfl];unfold gd;refine Jn fun x hx=>?_
  obtain⟨h1,h2⟩:=(a1 x).1 hx;show(!(nth (cg bl many L) x==many)) = !(L.contains x);rw[kB many L bl x zo]
  by_cases hL:x∈L
  ·rw[if_pos hL];simp[hL]
  rw[if_neg hL,h2];simp[hL];omega
 rw[dw,if_neg zo,dw,if_neg zo]
end Go.Proofs.YtpfpmhhigheccaaGreatDoor
section
namespace Go.VL
open Go.Proofs
def reF(f:Nat->Nat)(O:Nat->Nat):Nat->Nat:=fun b=>f (O b)
theorem Upd.re{S:Nat->Prop}{O O':Nat->Nat}{w w':ln}(h:Gu S O w O' w')(f:Nat->Nat)(f0:f 0=0)(hf:∀b,O b≠0->f (O b)=O b):Gu S O w (reF f O') w':=
 ⟨h.os,h.tape,h.output,h.size,h.blk,fun b hb=>by unfold reF;rw[h.tag b hb];exact hf b hb,fun b hb=>h.new b fun e=>hb (by unfold reF;rw[e];exact f0),h.z⟩
theorem Rng.re{B:Nat}{O:Nat->Nat}{w:ln}(h:ID B O w)(f:Nat->Nat)(f0:f 0=0):ID B (reF f O) w:=⟨h.le,fun b hb=>h.rng b fun e=>hb (by unfold reF;rw[e];exact f0)⟩
theorem RowT.re{α:Type}{enc:α->List ix}{E:IC}{sz:Nat}{O:Nat->Nat}{w:ln}{i:Nat}{v:ix}{l:List α}(h:GN enc E sz O w i v l)(f:Nat->Nat){j:Nat}(hj:f i=j):GN enc E sz (reF f O) w j v l:=
 ⟨⟨h.1.row,fun g hg=>by unfold reF;rw[h.1.tag g hg];exact hj⟩,h.2⟩
theorem BlkO.re{O:Nat->Nat}{w:ln}{i b:Nat}{cs:Array ix}{E:IC}(h:If O w i b cs E)(f:Nat->Nat){j:Nat}(hj:f i=j):If (reF f O) w j b cs E:=⟨h.blk,by unfold reF;rw[h.tag];exact hj⟩
theorem MapO.re{κ ν:Type}{kv:κ->ix}{vv:ν->ix}{O:Nat->Nat}{w:ln}{i r:Nat}{l:List (κ×ν)}(h:GX kv vv O w i r l)(f:Nat->Nat){j:Nat}(hj:f i=j):GX kv vv (reF f O) w j r l:=⟨h.blk,by unfold reF;rw[h.tag];exact hj,h.born⟩
theorem RangeO.re{κ ν:Type}{kv:κ->ix}{vv:ν->ix}{O:Nat->Nat}{w:ln}{i j r q:Nat}{a0:List (κ×ν)}{a1:Option (κ×ν)}(h:K2 kv vv O w i j r q a0 a1)(f:Nat->Nat){i' j':Nat}(hi:f i=i')(hj:f j=j'):K2 kv vv (reF f O) w i' j' r q a0 a1:=
 ⟨h.ex,by unfold reF;rw[h.tag];exact hi,by unfold reF;rw[h.tagq];exact hj⟩
theorem MapO.lowT{κ ν:Type}{kv:κ->ix}{vv:ν->ix}{O:Nat->Nat}{w:ln}{i r:Nat}{l:List (κ×ν)}(h:GX kv vv O w i r l){T:Nat}(hi:i<T):GX kv vv (IF O T) w i r l:=⟨h.blk,by unfold IF;rw[h.tag,if_neg zo],h.born⟩
def CC(a b:Nat):Nat->Nat:=fun t=>if t=a then b else t
theorem yF(a b:Nat):CC a b a=b:=if_pos rfl
theorem pD{a b t:Nat}(h:t≠a):CC a b t=t:=if_neg h
end Go.VL
namespace Go.Proofs.YtpfpmhhigheccaaGreatDoor
open Go.VL Go.Proofs
set_option maxRecDepth 10000
theorem FromO.re{O:Nat->Nat}{w:ln}{i:Nat}{fv:ix}{n:Nat}{nx:Nat->Nat->Nat}(h:FromO O w i fv n nx)(f:Nat->Nat){j:Nat}(hj:f i=j):FromO (reF f O) w j fv n nx:=by
 obtain⟨ms,a0,h1,h2,h3⟩:=h.ex;exact⟨ms,a0,h1.re f hj,h2,fun m hm=>⟨(h3 m hm).1.re f hj,(h3 m hm).2.1,fun t ht=>((h3 m hm).2.2 t ht).re f hj⟩⟩
theorem SpO.cut{S:Nat->Prop}{O O':Nat->Nat}{w w':ln}{sb:Nat}{nv tv fv bv:ix}{sr tr n:Nat}{nx:Nat->Nat->Nat}{bl a4:List Nat}{E:List KVR}{td a0:List ((Int×Int)×Bool)}{many b tg:Nat}{ov v':ix}{L L':List Nat} 
  (h:SpO O w sb nv tv fv bv sr tr n nx bl E td many) (hk:KeysE E many) (hb:b<many) (a7:10+many<=tg) (a5:GN aJ 3 1 O w tg ov L)
  (u:Gu S O w O' w') (hS:∀q,S q->1<=q/\q<=4\/q=10+b)
  (h1:If O' w' 1 sb #[nv,tv,fv,bv,.map (some sr),.map (some tr),nI ((many+1:Nat):Int)] 201) (h2:GN aJ 3 1 O' w' 2 bv a4)
  (h3:GX (fun k:Int=>nI k) (fun v:ix=>v) O' w' 3 sr (bZ (bZ (E.map rH) (many:Nat) ov) (b:Nat) v')) (h4:GN aJ 3 1 O' w' (10+b) v' L') (h5:GX dC GD O' w' 4 tr a0) :
  SpO (reF (CC tg (10+many)) O') w' sb nv tv fv bv sr tr n nx a4 (bZ (bZ E (many:Int) (ov,L)) (b:Int) (v',L')) a0 (many+1):=by
 have n1:∀ {t:Nat},t<10+many->CC tg (10+many) t=t:=fun h=>pD zo
 have a6:=hk.len;have a2:=hk.more (ov,L);have a1:=a2.len;refine⟨h1.re _ (n1 zo),h2.re _ (n1 zo),⟨?_,fun k a3=>?_⟩,h5.re _ (n1 zo),(h.frm.upd u zd (fun hs=>by rcases hS _ hs with h|h<;>omega)).re _ (n1 zo)⟩
 ·rw[tS,tS];exact h3.re _ (n1 zo)
 rw[a2.put zo]at a3 ⊢;rw[Gt]at a3;rw[aP zo]
 by_cases e1:k=b
 ·rw[if_pos e1];subst e1;exact h4.re _ (n1 zo)
 rw[if_neg e1,hk.add,ay]
 by_cases e2:k<E.length
 ·rw[if_pos e2];exact((h.st.row k e2).upd u zo (fun hs=>by rcases hS _ hs with h|h<;>omega)).re _ (n1 zo)
 rw[if_neg e2,show k-E.length=0 from by omega,au];obtain rfl:k=many:=zo;exact(a5.upd u zo (fun hs=>by rcases hS _ hs with h|h<;>omega)).re _ (yF _ _)
end Go.Proofs.YtpfpmhhigheccaaGreatDoor
end
namespace Go.Proofs.YtpfpmhhigheccaaGreatDoor
theorem tw(B:Nat)(O:Nat → Nat)(w:ln)(sb:Nat)(nv tv fv bv:ix)(sr tr n:Nat)(nx:Nat → Nat → Nat)(bl:List Nat)(E:List KVR)(td:List ((Int×Int)×Bool))(many b tg:Nat)(ov:ix)(L:List Nat)(hR:ID B O w)(hS:SpO O w sb nv tv fv bv sr tr n nx bl E td many)
  (hov:GN aJ 3 1 O w tg ov L) (hk:KeysE E many) (htg:10 + many ≤ tg) (hL:∀x ∈ L, x < bl.length) (hmany:many ≤ 1000) (hbm:b < many) (hbs:∀x ∈ da E (b:Nat), x < bl.length) :
  J2 GY 121 [nP sb, nI (b:Nat), ov] w fun _ w' =>
   ∃v' O', Gu (fun q => 1 ≤ q ∧ q ≤ 4 ∨ q = 10 + b) O w O' w' ∧ ID B O' w' ∧ If O' w' 1 sb #[nv, tv, fv, bv, .map (some sr), .map (some tr), nI ((many + 1:Nat):Int)] 201 ∧
    GN aJ 3 1 O' w' 2 bv (cg bl many L) ∧ GX (fun k:Int => nI k) (fun v:ix => v) O' w' 3 sr (bZ (bZ (E.map rH) (many:Nat) ov) (b:Nat) v') ∧
    GN aJ 3 1 O' w' (10 + b) v' (gd (fun x => nth (cg bl many L) x == many) (da E (b:Nat))) ∧ GX dC GD O' w' 4 tr (tdL td b many (decide ((gd (fun x => nth (cg bl many L) x == many) (da E (b:Nat))).length < L.length)) 37) := by
 have hElen := hk.len
 obtain⟨T0, hT00, hT0'⟩ := hR.bound
 obtain⟨T, hTd⟩:∃T, T = T0 + 10 + tg := ⟨_, rfl⟩
 have hT:∀b, O b < T := fun b => by have := hT0' b; omega
 have hSl := hk.slot hbm
 have hrb0 := hS.st.at (b:Int)
 rw[hSl]at hrb0
 refine Gp func121 ntmps121 rfl rfl ?_
 refine Gq ?_
 refine G4 ?_
 refine aG hR T (by omega) rfl rfl ?_
 intro xb w1 O1 hx1 hU1 hR1 hE1
 have hS1 := hS.upd hU1 (by omega)
 have x1:w1.cell? ⟨xb, 0, none⟩ = some (nP sb) := hx1.cell 0 rfl
 have c1:w1.cell? (nA sb 6) = some (nI (many:Nat)) := hS1.blk.cell 6 rfl
 refine G5 ?_
 refine ax ?_
 refine Gq ?_
 refine G4 ?_
 refine zv (RV.ld x1 rfl) ?_
 refine zv (aq rfl) ?_
 refine zv (RV.fa rfl) ?_
 refine zv (RV.ld c1 rfl) ?_
 refine ar hR1 (T + 1) (by omega) (Ig _) rfl ?_
 intro yb w2 O2 hy2 hU2 hR2 hE2
 have x2:w2.cell? ⟨xb, 0, none⟩ = some (nP sb) := (hx1.upd hU2 (by omega) (by omega)).cell 0 rfl
 have hS2 := hS1.upd hU2 (by omega)
 refine aj (j := 0) hy2 rfl (Gx _) rfl rfl rfl rfl ?_
 have hU3:Gu (fun j => j = T + 1) O2 w2 O2 (w2.setCell ⟨yb, 0, none⟩ (nI (many:Nat))) := Ib (by omega) hy2.tag rfl
 have hy3:If O2 (w2.setCell ⟨yb, 0, none⟩ (nI (many:Nat))) (T + 1) yb #[nI (many:Nat)] 3 := hy2.set 0 _
 have hx3 := (hx1.upd hU2 (by omega) (by omega)).upd hU3 (by omega) (by omega)
 have hR3 := hR2.upd hU3
 have hS3 := hS2.upd hU3 (by omega)
 have hov3 := ((hov.upd hU1 (by omega) (by omega)).upd hU2 (by omega) (by omega)).upd hU3 (by omega) (by omega)
 have hU03:Gu (fun q => (1 ≤ q ∧ q ≤ 4 ∨ q = 10 + b) ∨ T ≤ q) O w O2 (w2.setCell ⟨yb, 0, none⟩ (nI (many:Nat))) := ((hU1.mono (fun _ h => .inr (by omega)) (by omega)).trans (hU2.mono (fun _ h => .inr (by omega)) (by omega))).trans (hU3.mono (fun _ h => .inr (by omega)) (by omega))
 generalize w2.setCell ⟨yb, 0, none⟩ (nI (many:Nat)) = w3 at *
 have x3:w3.cell? ⟨xb, 0, none⟩ = some (nP sb) := hx3.cell 0 rfl
 have c3:w3.cell? (nA sb 6) = some (nI (many:Nat)) := hS3.blk.cell 6 rfl
 refine G5 ?_
 refine ax ?_
 refine Gq ?_
 refine G4 ?_
 refine zv (RV.ld x3 rfl) ?_
 refine zv (aq rfl) ?_
 refine zv (RV.fa rfl) ?_
 refine zv (RV.ld c3 rfl) ?_
 refine zv (J8 rfl rfl (IK (by omega))) ?_
 refine zv (aq rfl) ?_
 refine zv (RV.fa rfl) ?_
 refine aj (j := 6) hS3.blk rfl (Gx _) rfl rfl rfl rfl ?_
 have hU4:Gu (fun j => j = 1) O2 w3 O2 (w3.setCell ⟨sb, 6, none⟩ (nI ((many:Int) + 1))) := Ib (by decide) hS3.blk.tag rfl
 have hb4:If O2 (w3.setCell ⟨sb, 6, none⟩ (nI ((many:Int) + 1))) 1 sb #[nv, tv, fv, bv, .map (some sr), .map (some tr), nI ((many:Int) + 1)] 201 := hS3.blk.set 6 _
 have hx4 := hx3.upd hU4 (by omega) (by omega)
 have hy4 := hy3.upd hU4 (by omega) (by omega)
 have hR4 := hR3.upd hU4
 have hrow4 := hS3.row.upd hU4 (by decide) (by omega)
 have hst4 := hS3.st.map.upd hU4 (by decide) (by omega)
 have htd4 := hS3.todo.upd hU4 (by decide) (by omega)
 have hov4 := hov3.upd hU4 (by omega) (by omega)
 have hrb4 := (((hrb0.upd hU1 (by omega) (by omega)).upd hU2 (by omega) (by omega)).upd hU3 (by omega) (by omega)).upd hU4 (by omega) (by omega)
 have hU04 := hU03.trans (hU4.mono (fun _ h => .inl (.inl (by omega))) (by omega))
 generalize w3.setCell ⟨sb, 6, none⟩ (nI ((many:Int) + 1)) = w4 at *
 have hLl := hov4.sl.len_le
 have hsh := hov4.sl
 refine G5 ?_
 refine ax ?_
 refine Gq ?_
 refine Gq ?_
 refine G4 ?_
 refine zv (Gs rfl) ?_
 refine zv (bd hsh.sh G0 rfl) ?_
 refine zv (Gs rfl) ?_
 refine G5 ?_
 refine ax ?_
 refine Ir ?_
 refine zlp (fun z:Nat×ln => [(1, nI (b:Nat)), (2, ov), (3, nP xb), (6, nP yb), (22, ov), (23, nI L.length), (24, nI z.1)]) (fun z => z.2) (fun z => z.1 ≤ L.length ∧ Gu (fun q => q = 2) O2 w4 O2 z.2 ∧ GN aJ 3 1 O2 z.2 2 bv (cg bl many (L.take z.1))) (fun z => L.length - z.1) (0, w4) (⟨G7 _, IB (by decide) _ _, hrow4⟩) ?_
 rintro⟨j, w5⟩ ⟨hj, hU5, hrow5⟩
 dsimp only at hj hU5 hrow5 ⊢
 have hov5 := hov4.upd hU5 (by omega) (by omega)
 have hx5 := hx4.upd hU5 (by omega) (by omega)
 have hy5 := hy4.upd hU5 (by omega) (by omega)
 have hb5 := hb4.upd hU5 (by omega) (by omega)
 have x5:w5.cell? ⟨xb, 0, none⟩ = some (nP sb) := hx5.cell 0 rfl
 have y5:w5.cell? ⟨yb, 0, none⟩ = some (nI (many:Nat)) := hy5.cell 0 rfl
 refine Gq ?_
 refine G4 ?_
 refine zv (Jo rfl rfl) ?_
 refine G5 ?_
 refine ax ?_
 refine Gq ?_
 refine zC ?_ ?_
 ·intro hlt
  replace hlt:j < L.length := by have := of_decide_eq_true hlt; omega
  have hs5 := hov5.sl
  have m1:w5.cell? (adr ov 1 j) = some (nI ((nth L j:Nat):Int)) := by have := hs5.cell (i := j) (j := 0) hlt rfl; rwa[az]at this
  have c5:w5.cell? (nA sb 3) = some bv := hb5.cell 3 rfl
  obtain⟨i, hi⟩:∃i, i = nth L j := ⟨_, rfl⟩
  have hil:i < (cg bl many (L.take j)).length := by rw[ib, hi]; exact hL _ (aN hlt)
  rw[← hi]at m1
  refine Iw ?_
  refine ax ?_
  refine Gq ?_
  refine Ir ?_
  refine Gq ?_
  refine G4 ?_
  refine zv (Iy (by first | exact hs5) G0 (Gx _) rfl rfl _ rfl (by omega)) ?_
  refine zv (RV.ld m1 rfl) ?_
  refine zv (GU rfl) ?_
  refine G5 ?_
  refine ax ?_
  refine JI 7 rfl rfl (by kernel_rfl) (by kernel_rfl) ?_
  refine zw (RV.ld x5 rfl) ?_
  refine zw (aq rfl) ?_
  refine zw (RV.fa rfl) ?_
  refine zw (RV.ld c5 rfl) ?_
  refine zw (Gs rfl) ?_
  refine zw (RV.ld y5 rfl) ?_
  refine zw (aA hrow5.sl.sh G0 (Gx _) rfl rfl i rfl hil) ?_
  refine JX ?_
  refine Iv hrow5.drew i hil many (Gx _) rfl (by decide) rfl rfl rfl rfl ?_
  intro w6 hrow6 hU6
  refine G5 ?_
  refine bJ ?_
  refine ax ?_
  refine G4 ?_
  refine zv (J8 rfl rfl (IK (by omega))) ?_
  refine zv (Gs rfl) ?_
  refine G5 ?_
  refine zxd (j + 1, w6) (⟨hlt, hU5.drew.trans hU6, by dsimp only; rw[sZ hlt, ← hi]; exact hrow6⟩)
 ·intro hge
  obtain rfl:j = L.length := by have := of_decide_eq_false hge; omega
  rw[Gy]at hrow5
  have c5:w5.cell? (nA sb 4) = some (.map (some sr)) := hb5.cell 4 rfl
  have hst5 := hst4.upd hU5 (by decide) (by decide)
  refine Jv ?_
  refine bI ?_
  refine bI ?_
  refine dv ?_
  refine ax ?_
  refine Gq ?_
  refine JI 6 rfl rfl (by kernel_rfl) (by kernel_rfl) ?_
  refine zw (RV.ld x5 rfl) ?_
  refine zw (aq rfl) ?_
  refine zw (RV.fa rfl) ?_
  refine zw (RV.ld c5 rfl) ?_
  refine zw (RV.ld y5 rfl) ?_
  refine zw (Gs rfl) ?_
  refine JX ?_
  refine GM (O := O2) (i := 3) (⟨hst5.blk, hst5.tag, hst5.born⟩:GX (fun k:Int => nI k) (fun v:ix => v) O2 w5.drew 3 sr (E.map rH)) Gz oy (by decide) (many:Int) ov rfl rfl rfl rfl rfl ?_
  intro w6 hst6 hU6'
  have hU6:Gu (fun q => q = 3) O2 w5 O2 w6 := hU6'.ofDrew
  have hU46:Gu (fun q => q = 2 ∨ q = 3) O2 w4 O2 w6 := (hU5.mono (fun _ h => .inl h) (by decide)).trans (hU6.mono (fun _ h => .inr h) (by decide))
  have hov6 := hov4.upd hU46 (by omega) (by omega)
  have hx6 := hx4.upd hU46 (by omega) (by omega)
  have hy6 := hy4.upd hU46 (by omega) (by omega)
  have hb6 := hb4.upd hU46 (by omega) (by omega)
  have hrow6 := hrow5.upd hU6 (by decide) (by decide)
  have hrb6 := hrb4.upd hU46 (by omega) (by omega)
  have htd6 := htd4.upd hU46 (by decide) (by decide)
  have hR6 := hR4.upd hU46
  have x6:w6.cell? ⟨xb, 0, none⟩ = some (nP sb) := hx6.cell 0 rfl
  have y6:w6.cell? ⟨yb, 0, none⟩ = some (nI (many:Nat)) := hy6.cell 0 rfl
  have c6:w6.cell? (nA sb 4) = some (.map (some sr)) := hb6.cell 4 rfl
  have hbl' := ib many L bl
  obtain⟨bl', hbe⟩:∃bl', bl' = cg bl many L := ⟨_, rfl⟩
  rw[← hbe]at hrow6 hbl' ⊢
  refine G5 ?_
  refine ax ?_
  refine Gq ?_
  refine aK (fun W => W.cell? ⟨xb, 0, none⟩ = some (nP sb) ∧ W.cell? (nA sb 4) = some (.map (some sr))) 14 rfl (by kernel_rfl) ?_
  refine zin ⟨x6, c6⟩ fun zS => ?_
  refine zt 0 rfl zS (fun w1 hw1 => RV.ld hw1.1 rfl) ?_
  refine zr 1 rfl zS (fun _ => aq rfl) ?_
  refine zrf 2 rfl zS rfl ?_
  refine zt 3 rfl zS (fun w1 hw1 => RV.ld hw1.2 rfl) ?_
  refine zrm 4 rfl zS rfl ?_
  refine zt 5 rfl zS (fun w1 hw1 => RV.ld hw1.1 rfl) ?_
  refine zr 6 rfl zS (fun _ => aq rfl) ?_
  refine zrf 7 rfl zS rfl ?_
  refine zt 8 rfl zS (fun w1 hw1 => RV.ld hw1.2 rfl) ?_
  refine zrm 9 rfl zS rfl ?_
  refine zr 11 rfl zS (fun _ => dH rfl rfl) ?_
  refine Gn 10 (by kernel_rfl) rfl ?_
  refine zv (I9 (O := O2) (i := 3) (⟨hst6.blk, hst6.tag, hst6.born⟩:GX (fun k:Int => nI k) (fun v:ix => v) O2 w6.drew 3 sr (bZ (E.map rH) (many:Int) ov)) Gz oy (Ie _) (b:Int) rfl rfl rfl ((congrArg (C8 (fun v:ix => v) (nS)) ((aL (E.map rH) (many:Int) (b:Int) ov).trans (if_neg (by omega)))).trans (kN E _))) ?_
  refine G5 ?_
  refine af (⟨x6, c6⟩) ?_
  refine Gn 12 (by kernel_rfl) rfl ?_
  refine zc call146 (nK call147 #[nP xb, nP yb] B O2 w6.drew (10 + b) (Az E (b:Nat)) (da E (b:Nat)) (fun x => nth bl' x == many) (by omega) hR6.drew hrb6.drew (fun x hx O' W u => rC W xb yb sb x (nth bl' x) many bl'.length bv hrow6.sl.sh (by rw[hbl']; exact hbs x hx) ((hx6.drew.upd u (by omega) (by omega)).cell 0 rfl) ((hb6.drew.upd u (by omega) (by omega)).cell 3 rfl) (by have := (hrow6.drew.upd u (by decide) (by omega)).sl.cell (i := x) (j := 0) (by rw[hbl']; exact hbs x hx) rfl; rwa[az]at this) ((hy6.drew.upd u (by omega) (by omega)).cell 0 rfl))) ?_
  rintro v7 w7 ⟨hkeep7, hU7'⟩
  have hU7:Gu (fun q => q = 10 + b) O2 w6 O2 w7 := hU7'.ofDrew
  have hst7 := hst6.upd hU7 (by decide) (by omega)
  have x7:w7.cell? ⟨xb, 0, none⟩ = some (nP sb) := (hx6.upd hU7 (by omega) (by omega)).cell 0 rfl
  have c7:w7.cell? (nA sb 4) = some (.map (some sr)) := (hb6.upd hU7 (by omega) (by omega)).cell 4 rfl
  refine G5 ?_
  refine af (⟨x7, c7⟩) ?_
  refine Gn 13 (by kernel_rfl) rfl ?_
  refine GM hst7 Gz oy (by decide) (b:Int) v7 rfl rfl rfl rfl rfl ?_
  intro w8 hst8 hU8
  have hU68:Gu (fun q => q = 10 + b ∨ q = 3) O2 w6 O2 w8 := (hU7.mono (fun _ h => .inl h) (by omega)).trans (hU8.mono (fun _ h => .inr h) (by omega))
  have hov8 := hov6.upd hU68 (by omega) (by omega)
  have hx8 := hx6.upd hU68 (by omega) (by omega)
  have hy8 := hy6.upd hU68 (by omega) (by omega)
  have hb8 := hb6.upd hU68 (by omega) (by omega)
  have hrow8 := hrow6.upd hU68 (by decide) (by omega)
  have htd8 := htd6.upd hU68 (by decide) (by omega)
  have hkeep8 := hkeep7.upd hU8 (by omega) (by omega)
  refine G5 ?_
  refine af (⟨hx8.cell 0 rfl, hb8.cell 4 rfl⟩) ?_
  have hU08 := (hU04.trans (hU46.mono (S' := fun q => (1 ≤ q ∧ q ≤ 4 ∨ q = 10 + b) ∨ T ≤ q) (fun _ h => .inl (by omega)) (by omega))).trans (hU68.mono (fun _ h => .inl (by omega)) (by omega))
  obtain⟨lt, hlt⟩:∃lt, lt = decide ((gd (fun x => nth bl' x == many) (da E (b:Nat))).length < L.length) := ⟨_, rfl⟩
  rw[← hlt]
  obtain⟨kp, hkp⟩:∃kp, kp = gd (fun x => nth bl' x == many) (da E (b:Nat)) := ⟨_, rfl⟩
  rw[← hkp]at hkeep8 hlt ⊢
  refine I6 (by kernel_rfl) ?_
  refine ax ?_
  refine Gq ?_
  refine G4 ?_
  refine zv (Gs rfl) ?_
  refine G5 ?_
  refine ax ?_
  refine Ir ?_
  refine zlp (fun z:Nat×ln => [(1, nI (b:Nat)), (2, ov), (3, nP xb), (6, nP yb), (55, nI z.1)]) (fun z => z.2) (fun z => z.1 ≤ 37 ∧ Gu (fun q => q = 4) O2 w8 O2 z.2 ∧ GX dC GD O2 z.2 4 tr (tdL td b many lt z.1)) (fun z => 37 - z.1) (0, w8) (⟨G7 _, IB (by decide) _ _, htd8⟩) ?_
  rintro⟨m, w9⟩ ⟨hm, hU9, htd9⟩
  dsimp only at hm hU9 htd9 ⊢
  have hov9 := (hov8.upd hU9 (by omega) (by omega)).sl
  have hx9 := hx8.upd hU9 (by omega) (by omega)
  have hy9 := hy8.upd hU9 (by omega) (by omega)
  have hb9 := hb8.upd hU9 (by omega) (by omega)
  have hst9 := hst8.upd hU9 (by decide) (by omega)
  have hkeep9 := (hkeep8.upd hU9 (by omega) (by omega)).sl
  refine Gq ?_
  refine G4 ?_
  refine zv (Jo rfl rfl) ?_
  refine G5 ?_
  refine ax ?_
  refine Gq ?_
  refine zC ?_ ?_
  ·intro hlm
   replace hlm:m < 37 := by have := of_decide_eq_true hlm; omega
   have x9:w9.cell? ⟨xb, 0, none⟩ = some (nP sb) := hx9.cell 0 rfl
   have y9:w9.cell? ⟨yb, 0, none⟩ = some (nI (many:Nat)) := hy9.cell 0 rfl
   have c9:w9.cell? (nA sb 4) = some (.map (some sr)) := hb9.cell 4 rfl
   have d9:w9.cell? (nA sb 5) = some (.map (some tr)) := hb9.cell 5 rfl
   refine Iw ?_
   refine ax ?_
   refine Gq ?_
   refine Ir ?_
   refine Gq ?_
   refine G4 ?_
   refine zv (Gs rfl) ?_
   refine zv (GU rfl) ?_
   refine G5 ?_
   refine ax ?_
   refine Gq ?_
   refine G4 ?_
   refine zv (RV.ld y9 rfl) ?_
   refine zv (GU rfl) ?_
   refine G5 ?_
   refine ax ?_
   refine Gq ?_
   refine Gq ?_
   refine G4 ?_
   refine zv (RV.ld x9 rfl) ?_
   refine zv (aq rfl) ?_
   refine zv (RV.fa rfl) ?_
   refine zv (RV.ld c9 rfl) ?_
   refine zv (Gs rfl) ?_
   refine zv (I9 hst9 Gz oy (Ie _) (b:Int) rfl rfl rfl (congrArg (C8 (fun v:ix => v) (nS)) ((aL _ (b:Int) (b:Int) v7).trans (if_pos rfl)))) ?_
   refine zv (bd hkeep9.sh G0 rfl) ?_
   refine zv (Gs rfl) ?_
   refine zv (bd hov9.sh G0 rfl) ?_
   refine zv (Jo rfl rfl) ?_
   refine G5 ?_
   refine ax ?_
   refine mS (fun z:Int => [(1, nI (b:Nat)), (2, ov), (3, nP xb), (6, nP yb), (55, nI (m:Nat)), (9, nI (m:Nat)), (10, nI z)]) (fun z:Int => w9) (fun z:Int => z = if lt = true then(b:Int)else(many:Int)) ?_ ?_
   ·intro hN
    refine zC ?_ ?_
    ·intro h1
     refine G4 ?_
     refine zv (Gs rfl) ?_
     refine zv (GU rfl) ?_
     refine G5 ?_
     exact gh (hN ((b:Int)) (by rw[if_pos (by rw[hlt]; have := of_decide_eq_true h1; exact decide_eq_true (by omega))])) ⟨rfl, rfl, rfl, rfl, rfl, rfl, rfl, trivial⟩ rfl
    ·intro h1
     refine Iw ?_
     exact gh (hN ((many:Int)) (by rw[if_neg (by rw[hlt]; have := of_decide_eq_false h1; simp; omega)])) ⟨rfl, rfl, rfl, rfl, rfl, rfl, rfl, trivial⟩ rfl
   rintro z hz
   refine ax ?_
   refine Gq ?_
   refine Gq ?_
   refine G4 ?_
   refine zv (RV.ld x9 rfl) ?_
   refine zv (aq rfl) ?_
   refine zv (RV.fa rfl) ?_
   refine zv (RV.ld d9 rfl) ?_
   refine zv (Gs rfl) ?_
   refine zv (Gs rfl) ?_
   refine zv (du I8 (Gx _) (GZ _) rfl rfl) ?_
   refine zv (I9 htd9 It Fb (zeroValue4 _) ((b:Int), (m:Int)) rfl rfl rfl (Ad _ _)) ?_
   refine G5 ?_
   refine ax ?_
   refine mS (fun y:Int => [(1, nI (b:Nat)), (2, ov), (3, nP xb), (6, nP yb), (55, nI (m:Nat)), (9, nI (m:Nat)), (10, nI y)]) (fun y:Int => w9) (fun y:Int => y = if(bf (tdL td b many lt m) ((b:Int), (m:Int))).getD false = true then(many:Int)else z) ?_ ?_
   ·intro hN
    refine zC ?_ ?_
    ·intro h1
     refine G4 ?_
     refine zv (RV.ld y9 rfl) ?_
     refine zv (GU rfl) ?_
     refine G5 ?_
     exact gh (hN ((many:Int)) (by rw[if_pos h1])) ⟨rfl, rfl, rfl, rfl, rfl, rfl, rfl, trivial⟩ rfl
    ·intro h1
     refine Iw ?_
     exact gh (hN (z) (by rw[if_neg (by rw[h1]; decide)])) ⟨rfl, rfl, rfl, rfl, rfl, rfl, rfl, trivial⟩ rfl
   rintro y hy
   refine ax ?_
   refine G4 ?_
   refine zv (RV.ld x9 rfl) ?_
   refine zv (aq rfl) ?_
   refine zv (RV.fa rfl) ?_
   refine zv (RV.ld d9 rfl) ?_
   refine zv (Gs rfl) ?_
   refine zv (Gs rfl) ?_
   refine zv (du I8 (Gx _) (GZ _) rfl rfl) ?_
   refine GM htd9 It Fb (by decide) (y, (m:Int)) true rfl rfl rfl rfl rfl ?_
   intro w10 htd10 hU10
   refine G5 ?_
   refine bJ ?_
   refine ax ?_
   refine G4 ?_
   refine zv (J8 rfl rfl (IK (by omega))) ?_
   refine zv (Gs rfl) ?_
   refine G5 ?_
   refine zxd (m + 1, w10) (⟨hlm, hU9.trans hU10, by dsimp only; unfold tdL; rw[← hz, ← hy]; exact htd10⟩)
  ·intro hgm
   obtain rfl:m = 37 := by have := of_decide_eq_false hgm; omega
   refine Jv ?_
   refine bI ?_
   refine bI ?_
   refine dv ?_
   have hR9 := ((hR6.upd hU68).upd hU9).lowT T
   refine aE rfl (⟨v7, lowT O2 T, (hU08.trans (hU9.mono (fun _ h => .inl (by omega)) (by omega))).lowT hT (fun b h => by have := hT b; omega) (by omega), hR9, hb9.lowT (by omega), (hrow8.upd hU9 (by decide) (by decide)).lowT (by omega), hst9.lowT (by omega), (hkeep8.upd hU9 (by omega) (by omega)).lowT (by omega), htd9.lowT (by omega)⟩)
structure FI(tl:Nat->Nat)(n i:Nat)(D:List (Int×Int))(bl:List Nat)(E:List KVR)(many:Nat):Prop where
 blen:bl.length=n
 val:∀j,j<i->bf D ((tl j:Nat):Int)=some ((nth bl j:Nat):Int)
 inj:∀u u' b,bf D u=some b->bf D u'=some b->u=u'
 rng:∀u b,bf D u=some b->∃k:Nat,b=(k:Int)/\k<many
 keys:KeysE E many
 row:∀k:Nat,da E (k:Int)=(I2 i).filter fun x=>nth bl x==k
 ne:∀k,k<many->da E (k:Int)≠[]
 mi:many<=i
theorem BJ(tl:Nat->Nat)(n:Nat):FI tl n 0 [] (GA n 0) [] 0:=
 ⟨by simp,fun j hj=>absurd hj (G1 j),fun u u' b h=>absurd h (by simp[bf]),fun u b h=>absurd h (by simp[bf]),rfl,fun k=>rfl,fun k hk=>absurd hk (G1 k),G9 _⟩
theorem FI.rowsN{tl:Nat->Nat}{n i:Nat}{D:List (Int×Int)}{bl:List Nat}{E:List KVR}{many:Nat}(h:FI tl n i D bl E many)(k:Nat):(da E (k:Int)).length<=i:=by
 rw[h.row];exact IJ (Iz _ _) (by simp)
theorem oG{bl:List Nat}{i b k:Nat}(hi:i<bl.length):(I2 (i+1)).filter (fun x=>nth (bl.set i b) x==k)=(I2 i).filter (fun x=>nth bl x==k)++if b=k then [i]else []:=by
 rw[IQ,I5];have h1:(I2 i).filter (fun x=>nth (bl.set i b) x==k)=(I2 i).filter (fun x=>nth bl x==k):=Jn fun x hx=>by
  have:=GI.1 hx;rw[aP hi,if_neg zo]
 rw[h1];congr 1;rw[Iq,aP hi,if_pos rfl]
 by_cases e:b=k
 ·subst e;simp
 rw[if_neg e,if_neg (by simpa using e)];rfl
theorem FI.old{tl:Nat->Nat}{n i:Nat}{D:List (Int×Int)}{bl:List Nat}{E:List KVR}{many:Nat}(h:FI tl n i D bl E many)(hi:i<n){b:Int}(hb:bf D ((tl i:Nat):Int)=some b)(v:ix):
  ∃k:Nat,b=(k:Int)/\k<many/\FI tl n (i+1) D (bl.set i k) (bZ E (k:Int) (v,da E (k:Int)++[i])) many:=by
 obtain⟨k,rfl,hk⟩:=h.rng _ _ hb;have a0:=h.blen;refine⟨k,rfl,hk,by rw[Gt];exact a0,fun j hj=>?_,h.inj,h.rng,h.keys.same hk _,fun c=>?_,fun c hc=>?_,by have:=h.mi;omega⟩
 ·rw[aP zo]
  by_cases e:j=i
  ·rw[if_pos e,e];exact hb
  rw[if_neg e];exact h.val j zo
 ·rw[dw,oG zo]
  by_cases e:k=c
  ·subst e;rw[if_pos rfl,if_pos rfl,h.row]
  rw[if_neg zo,if_neg e,GC,h.row]
 rw[dw]
 split
 ·simp
 exact h.ne c hc
theorem FI.new{tl:Nat->Nat}{n i:Nat}{D:List (Int×Int)}{bl:List Nat}{E:List KVR}{many:Nat}(h:FI tl n i D bl E many)(hi:i<n)(hb:bf D ((tl i:Nat):Int)=none)(v:ix):
  FI tl n (i+1) (bZ D ((tl i:Nat):Int) (many:Int)) (bl.set i many) (bZ E (many:Int) (v,da E (many:Int)++[i])) (many+1):=by
 have a1:=h.blen;have a0:∀u b,bf D u=some b->b<many:=fun u b hu=>by
  obtain⟨k,rfl,hk⟩:=h.rng u b hu;omega
 refine⟨by rw[Gt];exact a1,fun j hj=>?_,fun u u' b h1 h2=>?_,fun u b h1=>?_,h.keys.more _,fun c=>?_,fun c hc=>?_,by have:=h.mi;omega⟩
 ·rw[aL,aP zo]
  by_cases e:j=i
  ·rw[if_pos (by rw[e]),if_pos e]
  rw[if_neg e];have:=h.val j zo;rw[if_neg (fun e2=>by rw[<-e2,hb]at this;cases this)];exact this
 ·rw[aL]at h1 h2
  split at h1
  ·split at h2
   ·rename_i e1 e2;rw[<-e1,<-e2]
   cases h1
   have:=a0 _ _ h2;omega
  split at h2
  ·cases h2
   have:=a0 _ _ h1;omega
  exact h.inj u u' b h1 h2
 ·rw[aL]at h1
  split at h1
  ·cases h1;exact⟨many,rfl,zo⟩
  obtain⟨k,e,hk⟩:=h.rng u b h1;exact⟨k,e,zo⟩
 ·rw[dw,oG zo]
  by_cases e:many=c
  ·subst e;rw[if_pos rfl,if_pos rfl,h.row]
  rw[if_neg zo,if_neg e,GC,h.row]
 rw[dw]
 split
 ·simp
 exact h.ne c zo
theorem FI.blk{tl:Nat->Nat}{n:Nat}{D:List (Int×Int)}{bl:List Nat}{E:List KVR}{many:Nat}(h:FI tl n n D bl E many)(nx:Nat->Nat->Nat):Blk nx tl n bl (fun k=>da E (k:Int)) many:=by
 refine⟨h.blen,fun i hi=>?_,fun b _ x=>?_,fun b _=>?_,fun b hb=>h.ne b hb,fun p q hp hq e=>?_,fun p q hp hq ha=>?_⟩
 ·obtain⟨k,e,hk⟩:=h.rng _ _ (h.val i hi);omega
 ·rw[h.row,I1,GI];simp
 ·rw[h.row];exact IN.sublist Ii
 ·have:=h.inj _ _ _ (h.val p hp) (by rw[e];exact h.val q hq);omega
 have e:tl p=tl q:=ha [] fun m hm=>absurd hm (by simp)
 have h1:=h.val p hp;rw[e,h.val q hq]at h1;have:=JN h1;omega
structure TdI(td:List ((Int×Int)×Bool))(many b m:Nat):Prop where
 rng:tdR td many
 all:∀c j,c<b\/c=b/\j<m->j<37->tdP td c j
 len:td.length<=b*37+m
theorem Ao(many:Nat):TdI [] many 0 0:=⟨fun e he=>absurd he (by simp),fun c j h _=>zo,G9 _⟩
theorem TdI.put{td:List ((Int×Int)×Bool)}{many b m:Nat}(h:TdI td many b m)(hb:b<many)(hm:m<37):TdI (bZ td ((b:Int),(m:Int)) true) many b (m+1):=by
 refine⟨fun e he=>?_,fun c j hc hj=>?_,?_⟩
 ·rcases qb _ _ _ _ he with he|he
  ·exact h.rng e he
  exact⟨b,m,hb,hm,by rw[he]⟩
 ·unfold tdP;rw[aL]
  split
  ·rfl
  rename_i hne;refine h.all c j ?_ hj
  rcases hc with hc|⟨rfl,hc⟩
  ·exact .inl hc
  exact .inr ⟨rfl,by
   have:¬j=m:=fun e=>hne (by rw[e])
   omega⟩
 have:=qd ((b:Int),(m:Int)) true td;have:=h.len;omega
theorem TdI.next{td:List ((Int×Int)×Bool)}{many b:Nat}(h:TdI td many b 37):TdI td many (b+1) 0:=⟨h.rng,fun c j hc hj=>h.all c j zo hj,by have:=h.len;omega⟩
structure BO(nx:Nat->Nat->Nat)(tl:Nat->Nat)(n:Nat)(bl:List Nat)(E:List KVR)(td:List ((Int×Int)×Bool))(many:Nat):Prop where
 blk:Blk nx tl n bl (fun k=>da E (k:Int)) many
 keys:KeysE E many
 tdr:tdR td many
 todo:Todo nx n bl (tdP td)
structure BI(nx:Nat->Nat->Nat)(tl:Nat->Nat)(n:Nat)(bl0:List Nat)(m0 b0 many0:Nat)(left:List (Int×ix))(bl:List Nat)(E:List KVR)(td:List ((Int×Int)×Bool))(many:Nat):Prop where
 blk:Blk nx tl n bl (fun k=>da E (k:Int)) many
 keys:KeysE E many
 tdr:tdR td many
 le:many0<=many
 pend:Pend nx n bl (tdP td) m0 (fun p=>nth bl0 (nx p m0)=b0) (fun b=>(b:Int)∈left.map (·.1))
 same:∀k:Nat,(k:Int)∈left.map (·.1)->k<many0/\∀x,x<n->(nth bl x=k↔nth bl0 x=k)
 nd:(left.map (·.1)).Nodup
theorem BO.take{nx:Nat->Nat->Nat}{tl:Nat->Nat}{n:Nat}{bl:List Nat}{E:List KVR}{td:List ((Int×Int)×Bool)}{many:Nat}(h:BO nx tl n bl E td many)(b0 m0:Nat)(_:m0<37)(_:∀p m,p<n->m<37->nx p m<n)(a0:List (Int×ix)) 
  (hl:∀k,k∈a0.map (·.1)↔∃i,i<n/\nth bl (nx i m0)=b0/\((nth bl i:Nat):Int)=k) (hn:(a0.map (·.1)).Nodup):BI nx tl n bl m0 b0 many a0 bl E (nN td ((b0:Int),(m0:Int))) many:=by
 refine⟨h.blk,h.keys,h.tdr.del _,G9 _,?_,fun k hk=>?_,hn⟩
 ·refine h.todo.take b0 m0 (fun b m hb=>?_) _ fun p hp e=>(hl _).2 ⟨p,hp,e,rfl⟩
  by_cases e:b=b0/\m=m0
  ·exact .inr e
  refine .inl ?_;unfold tdP;rw[oQ (fun e2=>e ?_)]
  ·exact hb
  have:=IH e2;omega
 obtain⟨i,hi,_,e⟩:=(hl _).1 hk;have:=h.blk.lt i hi;exact⟨zo,fun x _=>Iff.rfl⟩
theorem pH{a1 a0:List (Int×ix)}{k:Int}{v:ix}(hn:((a1++(k,v)::a0).map (·.1)).Nodup):((a1++a0).map (·.1)).Nodup/\k∉(a1++a0).map (·.1)/\∀b,b∈(a1++(k,v)::a0).map (·.1)->b=k\/b∈(a1++a0).map (·.1):=by
 simp only[GR,GH]at hn ⊢;have hp:=(List.perm_middle (a:=k) (l₁:=a1.map (·.1)) (l₂:=a0.map (·.1)))
 have h2:=hp.nodup_iff.1 hn;obtain⟨h3,h4⟩:=IR.1 h2;exact⟨h4,h3,fun b hb=>Gv.1 (hp.mem_iff.1 hb)⟩
section
variable{nx:Nat→Nat→Nat}{tl:Nat→Nat}{n:Nat}{bl0:List Nat}{m0 b0 many0:Nat}{pre suf:List (Int×ix)}{k:Nat}{v:ix}{bl:List Nat}{E:List KVR}{td:List ((Int×Int)×Bool)}{many:Nat}{L:List Nat}
theorem BI.here(h:BI nx tl n bl0 m0 b0 many0 (pre++((k:Int),v)::suf) bl E td many)(hL:∀x,x∈L↔x<n/\nth bl0 x=k/\nth bl0 (nx x m0)=b0):k<many/\∀x,x∈L↔x<n/\nth bl x=k/\nth bl0 (nx x m0)=b0:=by
 obtain⟨h1,h2⟩:=h.same k (by simp);refine⟨by have:=h.le;omega,fun x=>?_⟩;rw[hL]
 constructor
 ·rintro⟨a,b,c⟩;exact⟨a,(h2 x a).2 b,c⟩
 rintro⟨a,b,c⟩;exact⟨a,(h2 x a).1 b,c⟩
theorem BI.skip(h:BI nx tl n bl0 m0 b0 many0 (pre++((k:Int),v)::suf) bl E td many)(hL:∀x,x∈L↔x<n/\nth bl0 x=k/\nth bl0 (nx x m0)=b0)(a4:L.Nodup)(a5:(da E (k:Int)).length<=L.length):BI nx tl n bl0 m0 b0 many0 (pre++suf) bl E td many:=by
 obtain⟨hk,a1⟩:=h.here hL;obtain⟨r1,r2,r3⟩:=pH h.nd;refine⟨h.blk,h.keys,h.tdr,h.le,?_,fun c hc=>h.same c ?_,r1⟩
 ·refine h.pend.whole (k:=k) (fun p hp e=>?_) fun b hb=>?_
  ·refine GV fun hn=>?_
   have a2:p∉L:=fun hx=>hn ((a1 p).1 hx).2.2
   have a3:(p::L).Nodup:=IR.2 ⟨a2,a4⟩;have a0:(p::L) ⊆ da E (k:Int):=fun x hx=>by
    rcases Gv.1 hx with rfl|hx
    ·exact(h.blk.mem k hk _).2 ⟨hp,e⟩
    exact(h.blk.mem k hk x).2 ⟨((a1 x).1 hx).1,((a1 x).1 hx).2.1⟩
   have:=a3.length_le_of_subset a0;simp only[GO]at this;omega
  rcases r3 _ hb with h1|h1
  ·exact .inl zo
  exact .inr h1
 simp only[GR,GH,Gw,Gv]at hc ⊢
 rcases hc with hc|hc
 ·exact .inl hc
 exact .inr (.inr hc)
theorem BI.cut(h:BI nx tl n bl0 m0 b0 many0 (pre++((k:Int),v)::suf) bl E td many)(a3:∀p m,p<n->m<37->nx p m<n)(h0:∀p q,p<n->q<n->Alike nx tl p q->nth bl0 p=nth bl0 q)(a4:m0<37) 
  (hL:∀x,x∈L↔x<n/\nth bl0 x=k/\nth bl0 (nx x m0)=b0) (a8:L.Nodup) (a6:L≠[]) (a7:L.length<(da E (k:Int)).length) (ov v':ix) (lt:Bool) :
  BI nx tl n bl0 m0 b0 many0 (pre++suf) (cg bl many L) (bZ (bZ E (many:Int) (ov,L)) (k:Int) (v',gd (fun x=>nth (cg bl many L) x==many) (da E (k:Int)))) (tdL td k many lt 37) (many+1):=by
 obtain⟨hk,a1⟩:=h.here hL;obtain⟨r1,r2,r3⟩:=pH h.nd;have hc:=DR (L:=L) (ov:=ov) (v':=v') hk h.blk.len (h.blk.mem k hk);refine⟨?_,?_,xP h.tdr hk 37 (G9 _),by have:=h.le;omega,?_,fun c a0=>?_,r1⟩
 ·refine h.blk.cut hc hk (fun x hx=>⟨((a1 x).1 hx).1,((a1 x).1 hx).2.1⟩) a8 a6 a7 fun p q hp hq ha a5=>?_
  obtain⟨_,e1,e2⟩:=(hL p).1 a5;refine(hL q).2 ⟨hq,by rw[<-h0 p q hp hq ha];exact e1,?_⟩;rw[<-h0 (nx p m0) (nx q m0) (a3 p m0 hp a4) (a3 q m0 hq a4) (ha.step a4)];exact e2
 ·exact(h.keys.more _).same zo _
 ·refine Pend.cut h.blk h.pend hc hk a3 a1 (fun b m hb=>uw hb 37) (fun m hm hb=>uu hb 37 hm) (fun m hm=>BN 37 hm) fun b hb=>?_
  rcases r3 _ hb with h1|h1
  ·exact .inl zo
  exact .inr h1
 have a9:c≠k:=fun e=>r2 (by rw[<-e];exact a0)
 obtain⟨h1,h2⟩:=h.same c (by
  simp only[GR,GH,Gw,Gv]at a0 ⊢
  rcases a0 with a0|a0
  ·exact .inl a0
  exact .inr (.inr a0))
 refine⟨h1,fun x hx=>?_⟩;rw[<-h2 x hx,hc.bl x hx];have:=h.le
 by_cases a2:x∈L
 ·rw[if_pos a2];have:=((a1 x).1 a2).2.1
  constructor<;>omega
 rw[if_neg a2]
end
theorem BI.done{nx:Nat->Nat->Nat}{tl:Nat->Nat}{n:Nat}{a1:List Nat}{m0 b0 a0:Nat}{bl:List Nat}{E:List KVR}{td:List ((Int×Int)×Bool)}{many:Nat}(h:BI nx tl n a1 m0 b0 a0 [] bl E td many):BO nx tl n bl E td many:=
 ⟨h.blk,h.keys,h.tdr,h.pend.done fun b hb=>absurd hb (by simp)⟩
theorem BO.final{nx:Nat->Nat->Nat}{tl:Nat->Nat}{n:Nat}{bl:List Nat}{E:List KVR}{many:Nat}(h:BO nx tl n bl E [] many)(a0:∀p m,p<n->m<37->nx p m<n)(p q:Nat)(hp:p<n)(hq:q<n):nth bl p=nth bl q↔Alike nx tl p q:=by
 refine h.blk.final (fun p q m a b c d e=>?_) a0 p q hp hq
 rcases h.todo p q m a b c d e with h1|h1<;>cases h1
theorem FI.bo{nx:Nat->Nat->Nat}{tl:Nat->Nat}{n:Nat}{D:List (Int×Int)}{bl:List Nat}{E:List KVR}{many:Nat}{td:List ((Int×Int)×Bool)}(h:FI tl n n D bl E many)(ht:TdI td many many 0)(a0:∀p m,p<n->m<37->nx p m<n):BO nx tl n bl E td many:=by
 have hb:=h.blk nx;exact⟨hb,h.keys,ht.rng,fun p q m hp hq hm e a1=>.inl (ht.all _ m (.inl (hb.lt _ (a0 p m hp hm))) hm)⟩
theorem FB:KeyL GY 24 (fun n:Int=>Value.int .u64 n):=KeyL.int underlying24
theorem tD(B:Nat)(O:Nat->Nat)(w:ln)(sb:Nat)(nv tv bv:ix)(sr tr:Nat)(a0:List Nat)(hR:ID B O w)(hB:If O w 1 sb #[nv,tv,nS,bv,.map (some sr),.map (some tr),nI 0] 201) 
  (e6:GN aJ 3 1 O w 2 bv (GA a0.length 0)) (g':MpR 10 3 O w sr []) (g9:GX dC GD O w 4 tr []) (g2:Sl ff 1 w tv a0) (e':IG O w tv) (hn:a0.length<=1000) (_:∀q,O q<2000) :
  J2 GY 117 [nP sb] w fun _ w'=>
   ∃O' D bl E many td,Gu (fun q=>1<=q/\q<=4\/10<=q) O w O' w'/\ID B O' w'/\If O' w' 1 sb #[nv,tv,nS,bv,.map (some sr),.map (some tr),nI ((many:Nat):Int)] 201/\
    GN aJ 3 1 O' w' 2 bv bl/\MpR 10 3 O' w' sr E/\GX dC GD O' w' 4 tr td/\FI (nth a0) a0.length a0.length D bl E many/\TdI td many many 0:=by
 refine Gp func117 ntmps117 rfl rfl ?_;refine zh ?_
 refine aV (fun k:Int=>.int .u64 k) (fun v:Int=>nI v) hR 2000 zd rfl ?_;intro r w1 O1 i2 c9 h';have g6:=hB.upd c9 zd zd;have c1:w1.cell? ((nA sb 0).add 1)=some tv:=g6.cell 1 rfl;have g8:=g2.upd e' c9;have h5:=e'.upd c9;refine zh ?_
 refine zlp (fun z:Nat×(Nat->Nat)×World×List (Int×Int)×List Nat×List KVR×Nat=>[(0,nP sb),(2,.map (some r)),(14,tv),(15,nI a0.length),(16,nI z.1)]) (fun z=>z.2.2.1) (fun z=>z.1<=a0.length/\Gu (fun q=>1<=q/\q<=3\/10<=q) O w z.2.1 z.2.2.1/\ID B z.2.1 z.2.2.1/\If z.2.1 z.2.2.1 1 sb #[nv,tv,nS,bv,.map (some sr),.map (some tr),nI ((z.2.2.2.2.2.2:Nat):Int)] 201/\GN aJ 3 1 z.2.1 z.2.2.1 2 bv z.2.2.2.2.1/\MpR 10 3 z.2.1 z.2.2.1 sr z.2.2.2.2.2.1/\GX (fun k:Int=>.int .u64 k) (fun v:Int=>nI v) z.2.1 z.2.2.1 2000 r z.2.2.2.1/\FI (nth a0) a0.length z.1 z.2.2.2.1 z.2.2.2.2.1 z.2.2.2.2.2.1 z.2.2.2.2.2.2) (fun z=>a0.length-z.1) (0,O1,w1,[],GA a0.length 0,[],0) (⟨G7 _,c9.mono (fun _ h=>zo) zd,h',g6,e6.upd c9 zd zd,⟨g'.map.upd c9 zd zd,fun k hk=>absurd hk (G1 k)⟩,i2,BJ _ _⟩) ?_;rintro⟨i,O2,w2,D,bl,E,many⟩ ⟨hi,c8,d9,b3,a1,a8,d3,hF⟩;dsimp only at hi c8 d9 b3 a1 a8 d3 hF ⊢;have e1:=g2.upd e' c8;have i4:=hF.blen;have g4:many<=i:=hF.mi;refine zh ?_
 refine zC ?_ ?_
 ·intro a3;replace a3:i<a0.length:=dT a3;have m1:w2.cell? (adr tv 1 i)=some (.int .u64 ((nth a0 i:Nat):Int)):=by have:=e1.cell (i:=i) (j:=0) a3 rfl;rwa[az]at this
  have g3:=hF.rowsN;refine zh ?_
  cases d0:bf D ((nth a0 i:Nat):Int)with
  |some b=>
   have e8:=hF.old a3 d0;obtain⟨k,rfl,hk,_⟩:=hF.old a3 d0 (nS);have f9:∀v,FI (nth a0) a0.length (i+1) D (bl.set i k) (bZ E (k:Int) (v,da E (k:Int)++[i])) many:=fun v=>by
    obtain⟨k',e,_,h⟩:=e8 v;obtain rfl:k=k':=zo;exact h
   have h1:=g3 k;have h0:=uA E (k:Int);have h6:=hF.keys.len;refine zvH (cy (u:=.tuple #[nI (k:Int),.bool true]) d3 Jb FB (Ig _) ((nth a0 i:Nat):Int) rfl rfl rfl (by rw[d0];rfl)) ?_;refine aX rfl rfl ?_;have e0:=JV a1;have i3:JD w2 (nA sb 3)=some bv:=JQ b3 3 rfl;refine zh ?_;refine Iv a1 i zo (k:Nat) (Gx _) rfl zd rfl rfl rfl rfl ?_;intro wa a' b0;have d7:=JS b3 b0 zd zd;have b8:=MpR.upd a8 b0 zd zd zd (fun _=>zo);have f6:=JZ d9 b0;have c7:=JR d3 b0 zd zd;refine zh ?_;have d1:wa.drew.cell? (nA sb 4)=some (.map (some sr)):=d7.cell 4 rfl;have a5:Gu (fun _=>False) O2 wa O2 wa.drew:=aa (fun h=>h) O2 (GB wa).drew;have d2:=b8.upd a5 zd zd (fun h=>h) (fun _ h=>h);refine aK (fun W=>W.cell? (nA sb 4)=some (.map (some sr))) 15 rfl zk ?_;refine zrm 0 rfl d1 rfl ?_;refine zr 1 rfl d1 (fun _=>aq rfl) ?_;refine zrf 2 rfl d1 rfl ?_;refine zt 3 rfl d1 (fun w1 b4=>RV.ld b4 rfl) ?_;refine zrm 4 rfl d1 rfl ?_;refine zrm 5 rfl d1 rfl ?_;refine zr 6 rfl d1 (fun _=>aq rfl) ?_;refine zrf 7 rfl d1 rfl ?_;refine zt 8 rfl d1 (fun w1 b4=>RV.ld b4 rfl) ?_;refine zrm 9 rfl d1 rfl ?_;refine zrm 11 rfl d1 rfl ?_
   refine gR 10 12 jj (enc:=aJ) i rfl rfl zk zk zk zk (fun W hE=>I9 (d2.upd (aa (S:=fun _=>False) (fun h=>h) O2 hE) zd zd (fun h=>h) (fun _ h=>h)).map Gz oy (Ie _) ((k:Nat):Int) rfl rfl rfl (kN E _)) (fun W hE=>hE.cell d1) rfl rfl rfl zd rfl rfl rfl rfl rfl ?_;intro g7 wb b7 f';have a4:Gu (fun _=>False) O2 wa.drew O2 wb:=aa (fun h=>h) O2 f';have b':=d2.upd a4 zd zd (fun h=>h) (fun _ h=>h);refine Gn 13 zk rfl ?_
   refine aC jj (b'.at ((k:Nat):Int)) ((f6.upd a5).upd a4) b7 (by simp) rfl rfl (by simp) (by simp[G6]) (by rw[G8];omega) (by rw[G8];omega) zo rfl ?_;intro vc wc Oc e7 a7 f5;have d6:=((d7.upd a5 zd (fun h=>h)).upd a4 zd (fun h=>h)).upd a7 zd zo;refine zh ?_
   refine af (d6.cell 4 rfl) ?_;refine Gn 14 zk rfl ?_
   refine GM (b'.map.upd a7 zd zo) Gz oy zd ((k:Nat):Int) vc rfl rfl rfl rfl rfl ?_;intro wd e9 a6;have d5:=d6.upd a6 zd zd;have b9:=b'.put ((k:Nat):Int) zd zd a7 e7 e9 a6;refine zh ?_
   refine af (d5.cell 4 rfl) ?_;have f3:Gu (fun q=>1<=q/\q<=3\/10<=q) O2 w2 Oc wd:=((((b0.mono (fun _ h=>zo) zd).trans (a5.mono (fun _ h=>h.elim) zd)).trans (a4.mono (fun _ h=>h.elim) zd)).trans (a7.mono (fun _ h=>zo) zd)).trans (a6.mono (fun _ h=>zo) zd);have a9:=(((a'.upd a5 zd (fun h=>h)).upd a4 zd (fun h=>h)).upd a7 zd zo).upd a6 zd zd;have c5:=(((c7.upd a5 zd (fun h=>h)).upd a4 zd (fun h=>h)).upd a7 zd zo).upd a6 zd zd;refine I6 zk ?_
   refine zh ?_;refine zxd (i+1,Oc,wd,D,bl.set i k,bZ E ((k:Nat):Int) (vc,da E ((k:Nat):Int)++[i]),many) (⟨a3,c8.trans f3,f5.upd a6,d5,a9,b9,c5,f9 vc⟩)
  |none=>
   have f9:=hF.new a3 d0;have h1:=g3 many;have h0:=uA E (many:Int);have h6:=hF.keys.len;refine zvH (cy (u:=.tuple #[nI 0,.bool false]) d3 Jb FB (Ig _) ((nth a0 i:Nat):Int) rfl rfl rfl (by rw[d0];rfl)) ?_;refine aS rfl rfl ?_;have c6:w2.cell? (nA sb 6)=some (nI (many:Nat)):=b3.cell 6 rfl;refine zh ?_;refine GM d3 Jb FB zd ((nth a0 i:Nat):Int) (many:Int) rfl rfl rfl rfl rfl ?_;intro w3 i1 a2;have d':=b3.upd a2 zd zd;have c':=a1.upd a2 zd zd;have e5:MpR 10 3 O2 w3 sr E:=⟨a8.map.upd a2 zd zd,fun k hk=>(a8.row k hk).upd a2 zo (by have:=hF.keys.len;omega)⟩
   have h9:=d9.upd a2;have i5:w3.cell? (nA sb 6)=some (nI (many:Nat)):=d'.cell 6 rfl;refine zh ?_;refine aj (j:=6) d' rfl (Gx _) rfl rfl rfl rfl ?_;have b1:Gu (fun j=>j=1) O2 w3 O2 (w3.setCell ⟨sb,6,none⟩ (nI ((many:Int)+1))):=Ib zd d'.tag rfl;have g5:If O2 (w3.setCell ⟨sb,6,none⟩ (nI ((many:Int)+1))) 1 sb #[nv,tv,nS,bv,.map (some sr),.map (some tr),nI ((many+1:Nat):Int)] 201:=d'.set 6 _;have b2:=c'.upd b1 zd zd;have e4:=e5.upd b1 zd zd zd (fun _=>zo);have h8:=h9.upd b1;have i0:=i1.upd b1 zd zd;have f4:=(c8.trans (a2.mono (fun _ h=>zo) zd)).trans (b1.mono (fun _ h=>zo) zd);generalize w3.setCell ⟨sb,6,none⟩ (nI ((many:Int)+1))=w4 at *;have e0:=JV b2;have i3:JD w4 (nA sb 3)=some bv:=JQ g5 3 rfl;refine zh ?_;refine Iv b2 i zo (many:Nat) (Gx _) rfl zd rfl rfl rfl rfl ?_;intro wa a' b0;have d7:=JS g5 b0 zd zd;have b8:=MpR.upd e4 b0 zd zd zd (fun _=>zo);have f6:=JZ h8 b0;have c7:=JR i0 b0 zd zd;refine zh ?_;have d1:wa.drew.cell? (nA sb 4)=some (.map (some sr)):=d7.cell 4 rfl;have a5:Gu (fun _=>False) O2 wa O2 wa.drew:=aa (fun h=>h) O2 (GB wa).drew;have d2:=b8.upd a5 zd zd (fun h=>h) (fun _ h=>h);refine aK (fun W=>W.cell? (nA sb 4)=some (.map (some sr))) 15 rfl zk ?_;refine zrm 0 rfl d1 rfl ?_;refine zr 1 rfl d1 (fun _=>aq rfl) ?_;refine zrf 2 rfl d1 rfl ?_;refine zt 3 rfl d1 (fun w1 b4=>RV.ld b4 rfl) ?_;refine zrm 4 rfl d1 rfl ?_;refine zrm 5 rfl d1 rfl ?_
   refine zr 6 rfl d1 (fun _=>aq rfl) ?_;refine zrf 7 rfl d1 rfl ?_
   refine zt 8 rfl d1 (fun w1 b4=>RV.ld b4 rfl) ?_;refine zrm 9 rfl d1 rfl ?_
   refine zrm 11 rfl d1 rfl ?_;refine gR 10 12 jj (enc:=aJ) i rfl rfl zk zk zk zk (fun W hE=>I9 (d2.upd (aa (S:=fun _=>False) (fun h=>h) O2 hE) zd zd (fun h=>h) (fun _ h=>h)).map Gz oy (Ie _) ((many:Nat):Int) rfl rfl rfl (kN E _)) (fun W hE=>hE.cell d1) rfl rfl rfl zd rfl rfl rfl rfl rfl ?_
   intro g7 wb b7 f';have a4:Gu (fun _=>False) O2 wa.drew O2 wb:=aa (fun h=>h) O2 f';have b':=d2.upd a4 zd zd (fun h=>h) (fun _ h=>h);refine Gn 13 zk rfl ?_;refine aC jj (b'.at ((many:Nat):Int)) ((f6.upd a5).upd a4) b7 (by simp) rfl rfl (by simp) (by simp[G6]) (by rw[G8];omega) (by rw[G8];omega) zo rfl ?_;intro vc wc Oc e7 a7 f5;have d6:=((d7.upd a5 zd (fun h=>h)).upd a4 zd (fun h=>h)).upd a7 zd zo;refine zh ?_;refine af (d6.cell 4 rfl) ?_;refine Gn 14 zk rfl ?_;refine GM (b'.map.upd a7 zd zo) Gz oy zd ((many:Nat):Int) vc rfl rfl rfl rfl rfl ?_;intro wd e9 a6;have d5:=d6.upd a6 zd zd;have b9:=b'.put ((many:Nat):Int) zd zd a7 e7 e9 a6;refine zh ?_;refine af (d5.cell 4 rfl) ?_;have f3:Gu (fun q=>1<=q/\q<=3\/10<=q) O2 w4 Oc wd:=((((b0.mono (fun _ h=>zo) zd).trans (a5.mono (fun _ h=>h.elim) zd)).trans (a4.mono (fun _ h=>h.elim) zd)).trans (a7.mono (fun _ h=>zo) zd)).trans (a6.mono (fun _ h=>zo) zd);have a9:=(((a'.upd a5 zd (fun h=>h)).upd a4 zd (fun h=>h)).upd a7 zd zo).upd a6 zd zd;have c5:=(((c7.upd a5 zd (fun h=>h)).upd a4 zd (fun h=>h)).upd a7 zd zo).upd a6 zd zd;refine I6 zk ?_;refine zh ?_;refine zxd (i+1,Oc,wd,(bZ D ((nth a0 i:Nat):Int) (many:Int)),bl.set i many,bZ E ((many:Nat):Int) (vc,da E ((many:Nat):Int)++[i]),(many+1)) (⟨a3,f4.trans f3,f5.upd a6,d5,a9,b9,c5,f9 vc⟩)
 intro h3;obtain rfl:i=a0.length:=dF h3;have c6:w2.cell? (nA sb 6)=some (nI (many:Nat)):=b3.cell 6 rfl;have e3:=g9.upd c8 zd zo;refine zh ?_;refine zlp (fun z:Nat×ln×List ((Int×Int)×Bool)=>[(0,nP sb),(68,nI (many:Nat)),(69,nI z.1)]) (fun z=>z.2.1) (fun z=>z.1<=many/\Gu (fun q=>q=4) O2 w2 O2 z.2.1/\GX dC GD O2 z.2.1 4 tr z.2.2/\TdI z.2.2 many z.1 0) (fun z=>many-z.1) (0,w2,[]) (⟨G7 _,IB zd _ _,e3,Ao _⟩) ?_;rintro⟨b,w3,g1⟩ ⟨hb,a2,b6,f8⟩;dsimp only at hb a2 b6 f8 ⊢;refine zh ?_;refine zC ?_ ?_
 ·intro a3;replace a3:b<many:=dT a3;refine zh ?_;refine zlp (fun y:Nat×ln×List ((Int×Int)×Bool)=>[(0,nP sb),(68,nI (many:Nat)),(69,nI (b:Nat)),(7,nI (b:Nat)),(72,nI y.1)]) (fun y=>y.2.1) (fun y=>y.1<=37/\Gu (fun q=>q=4) O2 w2 O2 y.2.1/\GX dC GD O2 y.2.1 4 tr y.2.2/\TdI y.2.2 many b y.1) (fun y=>37-y.1) (0,w3,g1) (⟨G7 _,a2,b6,f8⟩) ?_;rintro⟨m,w4,g0⟩ ⟨hm,b1,b5,f7⟩;dsimp only at hm b1 b5 f7 ⊢;refine zh ?_;refine zC ?_ ?_
  ·intro d8;replace d8:m<37:=dT d8;have d4:w4.cell? (nA sb 5)=some (.map (some tr)):=(b3.upd b1 zd zd).cell 5 rfl;refine zh ?_;refine zv (du I8 (Gx _) (GZ _) rfl rfl) ?_;refine GM b5 It Fb zd ((b:Int),(m:Int)) true rfl rfl rfl rfl rfl ?_;intro w5 e2 h7;refine zh ?_;refine zxd (m+1,w5,bZ g0 ((b:Int),(m:Int)) true) (⟨d8,b1.trans h7,e2,f7.put a3 d8⟩)
  intro h2;obtain rfl:m=37:=dF h2;refine zh ?_;refine zxd (b+1,w4,g0) (⟨a3,b1,b5,f7.next⟩)
 intro h4;obtain rfl:b=many:=dF h4;refine zh ?_;refine aE rfl (⟨O2,D,bl,E,b,g1,(c8.mono (fun _ h=>zo) zd).trans (a2.mono (fun _ h=>zo) zd),d9.upd a2,b3.upd a2 zd zd,a1.upd a2 zd zd,a8.upd a2 zd zd zd (fun _=>zo),b6,hF,f8⟩)
end Go.Proofs.YtpfpmhhigheccaaGreatDoor
section
namespace Go.VL
open Go.Proofs
theorem tW{P:IW}{N:Nat}{ops:Array Jw}{Q:JO->Act->ln->Prop}{a0:List Jw}{st:St}{w:ln}{t:IC}{p:String}{e:Array Edge}{d:Nat}{x y:JE} 
  {T E:IC} {bytes:Nat} (he:JP P T E 1 bytes) (z0:ix) (a3:(P.info? E).bind (·.zero)=some z0) (h1:z0.oneCell'=true) {B:Nat} {O:Nat->Nat} (r:ID B O w) (i:Nat) (a8:i≠0) (n:Nat) {kl kc:IntKind} {m1 m2:Int}
  (hx:ev st x=some (.int kl m1)) (hy:ev st y=some (.int kc m2)) (a7:m1=n) (a6:m2=n) (hb:bytes*n<=281474976710656) (b1:n<=9223372036854775807) (hd:IX d N=true)
  (h:∀w' O' v,GN (fun x:ix=>[x]) E 1 O' w' i v (GA n z0)->Gu (fun k=>k=i) O w O' w'->ID B O' w'->IT w w'->WL P N ops Q a0 ((d,v)::st) w') :
  WL P N ops Q (⟨some d,.makeSlice T x y,t,p,e,none⟩::a0) st w:=by
 obtain⟨a2,z,hi,hz,a5,a',b2⟩:=he.parts;have a4:z=z0:=by rw[hi]at a3;simpa[hz]using a3
 subst a4;subst a7;subst a6;have a9:z.cells = #[z]:=by cases z<;>first|rfl|simp[G6]at h1
 have b0:(a2.bytes:Int)*(n:Int)<=281474976710656:=by
  have h:((a2.bytes*n:Nat):Int)<=281474976710656:=by rw[a'];omega
  rwa[Int.natCast_mul]at h
 have a1:=run_make (P:=P) w T E a2 _ he.ht hi hz kl kc n n zo (JK _) b0 zo;simp only[Int.toNat_natCast,a5,Nat.mul_one,a9]at a1;have hz:¬(fun k=>k=i) 0:=fun h=>a8 h.symm
 have u:=Upd.alloc (S:=fun k=>k=i) hz r (.cells (madeCells #[z] n) E) i;refine WL.val (v:=.slice (some ⟨w.heap.size,0,none⟩) n n) hd (fun a ha=>by simp only[execOp,ha.ev hx,ha.ev hy,JG,a1,Je];rfl) (h _ _ _ ⟨⟨?_,fun g hg=>?_⟩,fun a _=>rfl⟩ u (r.upd u) (Ext.alloc _ _))
 ·rw[J6];have:=World.ownsRow_lit (base:=0) (size:=1) (e:=E) w (madeCells #[z] n) n (G7 _) (by simpa[maxLen]using b1) (by rw[size_madeCells];omega);rw[toList_madeCells_one]at this;have e2:(GA n z).flatMap (fun x=>[x])=GA n z:=by
   induction n with
   |zero=>rfl
   |succ n ih=>simp only[Jg,Io];congr 1;simp[List.flatMap_replicate]
  rw[e2];exact this
 simp only[Value.ownBlock,JM]at hg;subst hg;exact dr _ _ _
theorem Sl.free0{α:Type}[Inhabited α]{f:α->List ix}{sz:Nat}{w:ln}{v:ix}{xs:List α}(h:Sl f sz w v xs)(hf:∀a,f a≠[]):IG (fun _=>0) w v:=fun a n c e hn=>by
 obtain⟨a',c',e1,_,_,e2⟩:=h.shape;subst e
 cases e1
 obtain⟨b,o,e3⟩:=e2 hn
 cases e3
 refine⟨rfl,?_⟩;have hl:0<xs.length:=Nat.pos_of_ne_zero hn
 cases hx:f xs[0]with
 |nil=>exact absurd hx (hf _)
 |cons u r=>
  have hc:=h.cells 0 hl 0 u (by rw[hx];rfl);have:=J0 _ _ hc;have hb:((adr (.slice (some ⟨b,o,none⟩) xs.length c) sz 0).add 0).block=b:=by simp only[adr,Addr.add];split<;>rfl
  rwa[hb]at this
end Go.VL
namespace Go.Proofs.YtpfpmhhigheccaaGreatDoor
open Go.VL Go.Proofs
set_option maxRecDepth 10000
def RowsF(O:Nat->Nat)(w:ln)(v:ix)(rows:List (List Nat)):Prop:=∃vs,Sl xH 1 w v vs/\IG O w v/\vs.length=rows.length/\∀i,i<rows.length->Sl aJ 1 w (nth vs i) (nth rows i)/\IG O w (nth vs i)
theorem RowsF.upd{S:Nat->Prop}{O O':Nat->Nat}{w w':ln}{v:ix}{rows:List (List Nat)}(h:RowsF O w v rows)(u:Gu S O w O' w'):RowsF O' w' v rows:=by
 obtain⟨vs,h1,h2,h3,h4⟩:=h;exact⟨vs,h1.upd h2 u,h2.upd u,h3,fun i hi=>⟨(h4 i hi).1.upd (h4 i hi).2 u,(h4 i hi).2.upd u⟩⟩
theorem RowsN.free{w:ln}{v:ix}{rows:List (List Nat)}(h:RowsN w v rows):RowsF (fun _=>0) w v rows:=by
 obtain⟨vs,h1,h2,h3⟩:=h;exact⟨vs,h1,h1.free0 (fun a=>by simp),h2,fun i hi=>⟨h3 i hi,(h3 i hi).free0 (fun a=>by simp)⟩⟩
def RowsG(B:Nat)(w:ln)(v:ix)(rows:List (List Nat)):Prop:=∃vs,Sl xH 1 w v vs/\NewV B v/\vs.length=rows.length/\∀i,i<rows.length->Sl aJ 1 w (nth vs i) (nth rows i)/\NewV B (nth vs i)
theorem RowsG.rows{B:Nat}{w:ln}{v:ix}{rows:List (List Nat)}(h:RowsG B w v rows):RowsN w v rows:=by
 obtain⟨vs,h1,h2,h3,h4⟩:=h;exact⟨vs,h1,h3,fun i hi=>(h4 i hi).1⟩
theorem RowsG.mono{B B':Nat}{w:ln}{v:ix}{rows:List (List Nat)}(h:RowsG B w v rows)(hb:B'<=B):RowsG B' w v rows:=by
 obtain⟨vs,h1,h2,h3,h4⟩:=h;exact⟨vs,h1,h2.mono hb,h3,fun i hi=>⟨(h4 i hi).1,(h4 i hi).2.mono hb⟩⟩
theorem RowsG.ext{B:Nat}{w w':ln}{v:ix}{rows:List (List Nat)}(h:RowsG B w v rows)(e:IT w w'):RowsG B w' v rows:=by
 obtain⟨vs,h1,h2,h3,h4⟩:=h;exact⟨vs,h1.ext e,h2,h3,fun i hi=>⟨(h4 i hi).1.ext e,(h4 i hi).2⟩⟩
theorem vX{n i:Nat}{nx:Nat->Nat}{to:Nat}(_:i<n):dt (i+1) nx to=dt i nx to++if nx i=to then [i]else []:=by
 unfold dt;rw[IQ,I5,Iq]
 by_cases e:nx i=to
 ·rw[if_pos (by simpa using e),if_pos e];rfl
 rw[if_neg (by simpa using e),if_neg e];rfl
theorem zE(i:Nat)(nx:Nat->Nat)(to:Nat):(dt i nx to).length<=i:=by
 unfold dt;exact IJ (Iz _ _) (by simp)
structure TuI(O:Nat->Nat)(W:ln)(sb:Nat)(nv tv fv bv:ix)(sr tr many n m:Nat)(nx:Nat->Nat->Nat)(ms:List ix)(vss:List (List ix)):Prop where
 blk:If O W 1 sb #[nv,tv,fv,bv,.map (some sr),.map (some tr),nI ((many:Nat):Int)] 201
 row:GN xH 89 1 O W 6 fv ms
 len:ms.length=m
 lenv:vss.length=m
 at_:∀j,j<m->GN xH 25 1 O W 5 (nth ms j) (nth vss j)/\(nth vss j).length=n/\∀t,t<n->GN aJ 3 1 O W 5 (nth (nth vss j) t) (dt n (fun x=>nx x j) t)
theorem TuI.upd{S:Nat->Prop}{O O':Nat->Nat}{w w':ln}{sb:Nat}{nv tv fv bv:ix}{sr tr many n m:Nat}{nx:Nat->Nat->Nat}{ms:List ix}{a0:List (List ix)}(h:TuI O w sb nv tv fv bv sr tr many n m nx ms a0) 
  (u:Gu S O w O' w') (h1:¬S 1) (h5:¬S 5) (h6:¬S 6):TuI O' w' sb nv tv fv bv sr tr many n m nx ms a0:=
 ⟨h.blk.upd u zd h1,h.row.upd u zd h6,h.len,h.lenv,fun j hj=>⟨(h.at_ j hj).1.upd u zd h5,(h.at_ j hj).2.1,fun t ht=>((h.at_ j hj).2.2 t ht).upd u zd h5⟩⟩
theorem DQ:JP GY 199 89 1 24:=⟨underlying199,by kernel_rfl,zd⟩
theorem rz(B:Nat)(O:Nat->Nat)(w:ln)(sb:Nat)(nv tv bv:ix)(sr tr many:Nat)(rows:List (List Nat))(e2:List Nat)(hR:ID B O w)(hB:If O w 1 sb #[nv,tv,nS,bv,.map (some sr),.map (some tr),nI ((many:Nat):Int)] 201) 
  (hn:RowsF O w nv rows) (hr:RightD rows e2) (hT:∀q,O q<2000) (f8:∀q,O q≠6) :
  J2 GY 118 [nP sb] w fun _ w'=>
   ∃O' fv,Gu (fun q=>q=1\/q=5\/q=6\/2000<=q) O w O' w'/\ID B O' w'/\If O' w' 1 sb #[nv,tv,fv,bv,.map (some sr),.map (some tr),nI ((many:Nat):Int)] 201/\FromO O' w' 5 fv rows.length (nxD rows):=by
 have g5:=hr.le;obtain⟨vs,b4,a',g4,c9⟩:=hn;refine Gp func118 ntmps118 rfl rfl ?_;refine zh ?_;refine zlp (fun z:Nat×(Nat->Nat)×World×ix×List ix×List (List ix)=>[(0,nP sb),(6,nI z.1)]) (fun z=>z.2.2.1) (fun z=>z.1<=37/\Gu (fun q=>q=1\/q=5\/q=6\/2000<=q) O w z.2.1 z.2.2.1/\ID B z.2.1 z.2.2.1/\TuI z.2.1 z.2.2.1 sb nv tv z.2.2.2.1 bv sr tr many rows.length z.1 (nxD rows) z.2.2.2.2.1 z.2.2.2.2.2) (fun z=>37-z.1) (0,O,w,nS,[],[]) (⟨G7 _,IB zd _ _,hR,hB,GQ _ _ _ _ _ _,rfl,rfl,fun j hj=>absurd hj (G1 j)⟩) ?_;rintro⟨m,O2,w2,fv,ms,c5⟩ ⟨hm,b8,d9,hI⟩;dsimp only at hm b8 d9 hI ⊢;refine zh ?_;refine zC ?_ ?_
 ·intro c6;replace c6:m<37:=dT c6;have e4:=b4.upd a' b8;have e6:=a'.upd b8;have c1:w2.cell? ((nA sb 0).add 0)=some nv:=hI.blk.cell 0 rfl;refine zh ?_;refine tW xI (nS) zk rfl d9 2000 zd rows.length rfl rfl zo zo zo zo rfl ?_;intro w3 O3 d' d5 d7 g0 g7;have e1:=hI.upd d7 zd zd zd;have e3:=e4.upd e6 d7;have c3:w3.cell? ((nA sb 0).add 0)=some nv:=e1.blk.cell 0 rfl;refine zh ?_;refine zlp (fun y:Nat×(Nat->Nat)×World×List ix=>[(0,nP sb),(2,nI (m:Nat)),(3,d'),(6,nI (m:Nat)),(20,nv),(21,nI vs.length),(22,nI y.1)]) (fun y=>y.2.2.1) (fun y=>y.1<=rows.length/\Gu (fun q=>q=1\/q=5\/q=6\/2000<=q) O w y.2.1 y.2.2.1/\ID B y.2.1 y.2.2.1/\TuI y.2.1 y.2.2.1 sb nv tv fv bv sr tr many rows.length m (nxD rows) ms c5/\GN xH 25 1 y.2.1 y.2.2.1 2000 d' y.2.2.2/\y.2.2.2.length=rows.length/\∀t,t<rows.length->GN aJ 3 1 y.2.1 y.2.2.1 (3000+t) (nth y.2.2.2 t) (dt y.1 (fun x=>nxD rows x m) t)) (fun y=>rows.length-y.1) (0,O3,w3,GA rows.length (nS)) (⟨G7 _,b8.trans (d7.mono (fun _ h=>zo) zd),g0,e1,d5,by simp,fun t ht=>by rw[aB (by simpa using ht)];simp only[List.getElem_replicate];exact GQ _ _ _ _ _ _⟩) ?_;rintro⟨i,O4,w4,bs⟩ ⟨hi,b7,d8,a8,a0,b1,a6⟩;dsimp only at hi b7 d8 a8 a0 b1 a6 ⊢;have c8:=b4.upd a' b7;refine zh ?_;refine zC ?_ ?_
  ·intro b2;replace b2:i<rows.length:=dT b2;obtain⟨d2,b0⟩:=c9 i b2;have d1:=d2.upd b0 b7;obtain⟨r1,r2⟩:=hr.row i b2;obtain⟨to,b5⟩:∃to,to=nxD rows i m:=⟨_,rfl⟩
   have c':to<rows.length:=by rw[b5];exact r2 m c6
   have m1:w4.cell? (adr nv 1 i)=some (nth vs i):=by have:=c8.cell (i:=i) (j:=0) zo rfl;rwa[az]at this
   refine zh ?_;have k1:w4.drew.cell? (adr (nth vs i) 1 m)=some (nI (to:Int)):=by have:=d1.cell (i:=m) (j:=0) zo rfl;rw[az]at this;rw[b5];exact this
   have g1:w4.drew.cell? (adr d' 1 to)=some (nth bs to):=by have:=a0.sl.cell (i:=to) (j:=0) zo rfl;rwa[az]at this
   have f7:Gu (fun _=>False) O4 w4 O4 w4.drew:=aa (fun h=>h) O4 (GB w4).drew;refine aK (fun W=>W.cell? (adr (nth vs i) 1 m)=some (nI (to:Int))) 17 rfl zk ?_;refine zrm 0 rfl k1 rfl ?_;refine zrm 1 rfl k1 rfl ?_;refine zrm 2 rfl k1 rfl ?_;refine zr 3 rfl k1 (fun _=>aA d1.sh G0 (Gx _) rfl rfl m rfl zo) ?_;refine zt 4 rfl k1 (fun w1 c7=>RV.ld c7 rfl) ?_;refine zrm 5 rfl k1 rfl ?_;refine zrm 6 rfl k1 rfl ?_;refine zrm 7 rfl k1 rfl ?_;refine zr 8 rfl k1 (fun _=>aA d1.sh G0 (Gx _) rfl rfl m rfl zo) ?_;refine zt 9 rfl k1 (fun w1 c7=>RV.ld c7 rfl) ?_;refine zr 10 rfl k1 (fun _=>aA a0.sl.sh GG (IU _) rfl rfl to rfl zo) ?_;refine zrm 12 rfl k1 rfl ?_;refine bS 11 13 jj (enc:=aJ) i rfl rfl zk zk zk zk (fun W hE=>J7 (hE.cell g1) (isAgg25 _) rfl) (fun W hE=>hE.cell k1) rfl rfl rfl zd rfl rfl rfl rfl rfl ?_;intro g3 w5 d0 g2;have f6:Gu (fun _=>False) O4 w4.drew O4 w5:=aa (fun h=>h) O4 g2;have a4:=f7.trans f6;have g6:=zE i (fun x=>nxD rows x m) to;refine Gn 14 zk rfl ?_;refine aC jj ((a6 to c').upd a4 zo (fun h=>h)) (d8.upd a4) d0 (by simp) rfl rfl (by simp) (by simp[G6]) (by rw[G8];omega) (by rw[G8];omega) zo rfl ?_;intro v6 w6 O6 e0 a5 f9
   have a7:Gu (fun q=>q=1\/q=5\/q=6\/2000<=q) O w O6 w6:=(b7.trans (a4.mono (fun _ h=>h.elim) zd)).trans (a5.mono (fun _ h=>zo) zd);have k6:w6.cell? (adr (nth vs i) 1 m)=some (nI (to:Int)):=by have:=(d2.upd b0 a7).cell (i:=m) (j:=0) zo rfl;rw[az]at this;rw[b5];exact this
   have d4:=(a0.upd a4 zd (fun h=>h)).upd a5 zd zo;refine zh ?_;refine af (k6) ?_;refine zr 15 rfl (k6) (fun _=>aA a0.sl.sh GG (IU _) rfl rfl to rfl zo) ?_;refine Gn 16 zk rfl ?_;refine Iv d4 to zo v6 (IU _) e0.one zd rfl rfl rfl rfl ?_;intro w7 d3 b6;have b9:Gu (fun q=>q=1\/q=5\/q=6\/2000<=q) O w O6 w7:=a7.trans (b6.mono (fun _ h=>zo) zd);have k7:w7.cell? (adr (nth vs i) 1 m)=some (nI (to:Int)):=by have:=(d2.upd b0 b9).cell (i:=m) (j:=0) zo rfl;rw[az]at this;rw[b5];exact this
   refine zh ?_;refine af (k7) ?_
   refine I6 zk ?_;refine zh ?_
   refine zxd (i+1,O6,w7,bs.set to v6) (⟨b2,b9,f9.upd b6,((a8.upd a4 (fun h=>h) (fun h=>h) (fun h=>h)).upd a5 zo zo zo).upd b6 zd zd zd,d3,by dsimp only;rw[Gt];exact b1,fun t ht=>?_⟩)
   ·dsimp only;rw[vX b2,aP zo,<-b5]
    by_cases e:t=to
    ·subst e;rw[if_pos rfl,if_pos rfl];exact e0.upd b6 zo zo
    rw[if_neg e,if_neg (fun h=>e h.symm),GC];exact(((a6 t ht).upd a4 zo (fun h=>h)).upd a5 zo zo).upd b6 zo zo
  intro e9;obtain rfl:i=rows.length:=dF e9;obtain⟨ba,bc,e',_⟩:=a0.sl.shape;subst e';have e7:=a8.len;have f4:w4.cell? (nA sb 2)=some fv:=a8.blk.cell 2 rfl;refine zh ?_;refine IE DQ a8.row d8 ((.slice ba bs.length bc:ix)) (fun _=>rfl) rfl rfl rfl (by simp[G6]) zo zo zo zd rfl rfl ?_;intro b' w5 O5 a9 b3 f';have d6:=a8.blk.upd b3 zd zd;refine zh ?_;refine aj (j:=2) d6 rfl (sizeOf199 _) a9.one rfl rfl rfl ?_;have a5:Gu (fun j=>j=1) O5 w5 O5 (w5.setCell ⟨sb,2,none⟩ b'):=Ib zd d6.tag rfl;have f3:If O5 (w5.setCell ⟨sb,2,none⟩ b') 1 sb #[nv,tv,b',bv,.map (some sr),.map (some tr),nI ((many:Nat):Int)] 201:=d6.set 2 _;generalize w5.setCell ⟨sb,2,none⟩ b'=w6 at *;have a7:Gu (fun q=>q=1\/q=5\/q=6\/2000<=q) O w O5 w6:=(b7.trans (b3.mono (fun _ h=>zo) zd)).trans (a5.mono (fun _ h=>zo) zd);obtain⟨f,hf⟩:∃f:Nat->Nat,f=fun t=>if 2000<=t then 5 else t:=⟨_,rfl⟩
  have f2:∀t,t<2000->f t=t:=fun t ht=>by rw[hf];exact if_neg zo
  have f5:∀t,2000<=t->f t=5:=fun t ht=>by rw[hf];exact if_pos ht
  refine zh ?_;refine zxd (m+1,reF f O5,w6,b',ms++[.slice ba bs.length bc],c5++[bs]) (⟨c6,a7.re f (f2 0 zd) (fun b _=>f2 _ (hT b)),(f'.upd a5).re f (f2 0 zd),⟨f3.re f (f2 1 zd),(a9.upd a5 zd zd).re f (f2 6 zd),by simp[e7],by simp[a8.lenv],fun j hj=>?_⟩⟩)
  ·have e5:=a8.lenv;rw[ay,ay]
   by_cases e:j<m
   ·rw[if_pos zo,if_pos zo];obtain⟨a1,a2,a3⟩:=a8.at_ j e;exact⟨((a1.upd b3 zd zd).upd a5 zd zd).re f (f2 5 zd),a2,fun t ht=>(((a3 t ht).upd b3 zd zd).upd a5 zd zd).re f (f2 5 zd)⟩
   obtain rfl:j=m:=zo;rw[if_neg zo,if_neg zo,show j-ms.length=0 from by omega,show j-c5.length=0 from by omega,au,au];exact⟨((a0.upd b3 zd zd).upd a5 zd zd).re f (f5 _ zd),b1,fun t ht=>(((a6 t ht).upd b3 zo zo).upd a5 zo zo).re f (f5 _ zo)⟩
 intro e8;obtain rfl:m=37:=dF e8;refine zh ?_;refine aE rfl (⟨reF (CC 6 5) O2,fv,b8.re _ rfl (fun b _=>pD (f8 b)),d9.re _ rfl,hI.blk.re _ rfl,⟨ms,c5,hI.row.re _ rfl,hI.len,fun m hm=>⟨(hI.at_ m hm).1.re _ rfl,(hI.at_ m hm).2.1,fun t ht=>((hI.at_ m hm).2.2 t ht).re _ rfl⟩⟩⟩)
end Go.Proofs.YtpfpmhhigheccaaGreatDoor
end
namespace Go.VL
theorem Fits.look{N:Nat}{a:Act}{st a0:St}(h:Fits N a st)(hs:∀t,bV a0 t=bV st t):Fits N a a0:=⟨h.size,h.defers,fun t v hv=>h.get t v ((hs t).symm.trans hv)⟩
theorem eG{d1 d2 d3:Nat}(v1 v2 v3:ix)(st:St)(a2:Ip d1 d2=false)(a1:Ip d1 d3=false)(a0:Ip d2 d3=false)(t:Nat):
  (bV ((d3,v3)::(d2,v2)::(d1,v1)::st) t=bV ((d2,v2)::(d3,v3)::(d1,v1)::st) t)/\(bV ((d3,v3)::(d2,v2)::(d1,v1)::st) t=bV ((d3,v3)::(d1,v1)::(d2,v2)::st) t)/\
  (bV ((d3,v3)::(d2,v2)::(d1,v1)::st) t=bV ((d1,v1)::(d3,v3)::(d2,v2)::st) t)/\(bV ((d3,v3)::(d2,v2)::(d1,v1)::st) t=bV ((d2,v2)::(d1,v1)::(d3,v3)::st) t)/\(bV ((d3,v3)::(d2,v2)::(d1,v1)::st) t=bV ((d1,v1)::(d2,v2)::(d3,v3)::st) t):=by
 simp only[bV]
 cases h1:Ip d1 t<;>cases h2:Ip d2 t<;>cases h3:Ip d3 t<;>simp only[cond_true,cond_false,and_self] <;>
  first
  |(have e1:=GK h1;have e2:=GK h2;subst e1;subst e2;rw[J5]at a2;cases a2)
  |(have e1:=GK h1;have e2:=GK h3;subst e1;subst e2;rw[J5]at a1;cases a1)
  |(have e1:=GK h2;have e2:=GK h3;subst e1;subst e2;rw[J5]at a0;cases a0)
theorem Al{P:IW}{N:Nat}{ops:Array Jw}{S:ln->Prop}{Q:JO->Act->ln->Prop}{st:St}{w:ln}{a1:Nat}{a0:Array Bool}(i j k:Nat){o o' o2:Jw}(hr:GJ .any ops a0=[i,j,k])(hi:ops[i]? = some o)(hj:ops[j]? = some o')(hk:ops[k]? = some o2) 
  (h:WL P N ops (qp P ops S Q a1 (a0.setIfInBounds i true)) [o] st w) (h':WL P N ops (qp P ops S Q a1 (a0.setIfInBounds j true)) [o'] st w) (h2:WL P N ops (qp P ops S Q a1 (a0.setIfInBounds k true)) [o2] st w):WH P N ops S Q (a1+1) a0 st w:=
 WH.all [i,j,k] hr (by simp) fun m hm q hq=>by
  simp only[Gv,List.not_mem_nil,or_false]at hm
  rcases hm with rfl|rfl|rfl
  ·rw[hi]at hq;cases hq;exact h
  ·rw[hj]at hq;cases hq;exact h'
  rw[hk]at hq;cases hq;exact h2
theorem xC{P:IW}{N:Nat}{ops:Array Jw}{S:ln->Prop}{Q:JO->Act->ln->Prop}{st:St}{w:ln}{b9:Nat}{a0:Array Bool}{T E T2 T3:IC}{a5:Nat}{x y:JE} 
  {t t2 t3:IC} {p p2 p3:String} {e e2 e3:Array Edge} {d1 d2 d3:Nat} (i j k:Nat) (he:JP P T E 1 a5) {α:Type} {val:α->ix} (z0:α) (b1:(P.info? E).bind (·.zero)=some (val z0)) (h1:∀a,(val a).oneCell'=true)
  {κ ν κ' ν':Type} (kv:κ->ix) (vv:ν->ix) (a8:κ'->ix) (a6:ν'->ix) {B:Nat} {O:Nat->Nat} (r:ID B O w) (g1 g2 g3:Nat) (a3:g1≠0) (a2:g2≠0) (a1:g3≠0) (b0:g1≠g2) (a':g1≠g3) (a9:g2≠g3) (n:Nat)
  (hi:ops[i]? = some ⟨some d1,.makeSlice T x y,t,p,e,none⟩) (hj:ops[j]? = some ⟨some d2,.makeMap T2 none,t2,p2,e2,none⟩) (hk:ops[k]? = some ⟨some d3,.makeMap T3 none,t3,p3,e3,none⟩)
  (hr:GJ .any ops a0=[i,j,k]) (d5:GJ .any ops (a0.setIfInBounds i true)=[j,k]) (d4:GJ .any ops (a0.setIfInBounds j true)=[i,k]) (d0:GJ .any ops (a0.setIfInBounds k true)=[i,j])
  (b4:GJ .any ops ((a0.setIfInBounds i true).setIfInBounds j true)=[k]) (b3:GJ .any ops ((a0.setIfInBounds i true).setIfInBounds k true)=[j]) (b2:GJ .any ops ((a0.setIfInBounds j true).setIfInBounds k true)=[i])
  (c':(a0.setIfInBounds j true).setIfInBounds i true=(a0.setIfInBounds i true).setIfInBounds j true) (c9:(a0.setIfInBounds k true).setIfInBounds i true=(a0.setIfInBounds i true).setIfInBounds k true) (c8:(a0.setIfInBounds k true).setIfInBounds j true=(a0.setIfInBounds j true).setIfInBounds k true)
  (q1:((a0.setIfInBounds i true).setIfInBounds k true).setIfInBounds j true=((a0.setIfInBounds i true).setIfInBounds j true).setIfInBounds k true) (q2:((a0.setIfInBounds j true).setIfInBounds k true).setIfInBounds i true=((a0.setIfInBounds i true).setIfInBounds j true).setIfInBounds k true)
  (hS:∀O' W,Gu (fun q=>q=g1\/q=g2\/q=g3) O w O' W->S W) {m:Int} (hx:∀l,evs ((d2,l)::st) [x,y]=some [nI m,nI m]/\evs ((d3,l)::st) [x,y]=some [nI m,nI m]/\evs st [x,y]=some [nI m,nI m]/\(∀l',evs ((d3,l')::(d2,l)::st) [x,y]=some [nI m,nI m])/\∀l',evs ((d2,l')::(d3,l)::st) [x,y]=some [nI m,nI m])
  (hm:m=n) (hb:a5*n<=281474976710656) (b8:n<=9223372036854775807) (b7:IX d1 N=true) (b6:IX d2 N=true) (b5:IX d3 N=true) (c6:Ip d1 d2=false) (c5:Ip d1 d3=false) (b':Ip d2 d3=false)
  (h:∀bv sr tr W O',GN (fun x=>[val x]) E 1 O' W g1 bv (GA n z0)->GX kv vv O' W g2 sr []->GX a8 a6 O' W g3 tr []->Gu (fun q=>q=g1\/q=g2\/q=g3) O w O' W->ID B O' W->
   WH P N ops S Q b9 (((a0.setIfInBounds i true).setIfInBounds j true).setIfInBounds k true) ((d3,.map (some tr))::(d2,.map (some sr))::(d1,bv)::st) W):WH P N ops S Q (b9+3) a0 st w:=by
 have two:∀ {a7:St} {m:Int},evs a7 [x,y]=some [nI m,nI m]->ev a7 x=some (nI m)/\ev a7 y=some (nI m):=fun {a7 m} h=>by
  simp only[evs]at h
  cases h1:ev a7 x<;>cases h2:ev a7 y<;>rw[h1,h2]at h<;>simp at h ⊢
  exact h
 have c7:¬(fun q=>q=g1\/q=g2\/q=g3) 0:=by rintro(h|h|h)<;>omega
 have o1:∀ {O O':Nat->Nat} {w w':ln},Gu (fun q=>q=g1) O w O' w'->Gu (fun q=>q=g1\/q=g2\/q=g3) O w O' w':=fun h=>h.mono (fun _ h=>.inl h) c7
 have o2:∀ {O O':Nat->Nat} {w w':ln},Gu (fun q=>q=g2) O w O' w'->Gu (fun q=>q=g1\/q=g2\/q=g3) O w O' w':=fun h=>h.mono (fun _ h=>.inr (.inl h)) c7
 have o3:∀ {O O':Nat->Nat} {w w':ln},Gu (fun q=>q=g3) O w O' w'->Gu (fun q=>q=g1\/q=g2\/q=g3) O w O' w':=fun h=>h.mono (fun _ h=>.inr (.inr h)) c7
 refine Al i j k hr hi hj hk ?_ ?_ ?_
 ·refine cR he z0 b1 h1 r g1 a3 n (two ((hx default).2.2.1)).1 (two ((hx default).2.2.1)).2 hm hm hb b8 b7 fun wr Or vr _ fr ur rr _=>G5 (af (hS Or wr (o1 ur)) ?_)
  refine bL j k d5 hj hk ?_ ?_
  ·refine aV kv vv rr g2 a2 b6 fun va wa Oa fa ua ra=>G5 (af (hS Oa wa ((o1 ur).trans (o2 ua))) ?_)
   refine Gn k b4 hk ?_;refine aV a8 a6 ra g3 a1 b5 fun vb wb Ob fb ub rb=>G5 (af (hS Ob wb (((o1 ur).trans (o2 ua)).trans (o3 ub))) ?_)
   exact h vr va vb wb Ob ((fr.upd ua a3 b0).upd ub a3 a') (fa.upd ub a2 a9) fb (((o1 ur).trans (o2 ua)).trans (o3 ub)) rb
  refine aV a8 a6 rr g3 a1 b5 fun vb wb Ob fb ub rb=>G5 (af (hS Ob wb ((o1 ur).trans (o3 ub))) ?_)
  refine Gn j b3 hj ?_;refine aV kv vv rb g2 a2 b6 fun va wa Oa fa ua ra=>G5 (af (hS Oa wa (((o1 ur).trans (o3 ub)).trans (o2 ua))) ?_)
  exact by rw[q1];exact fun ac a4=>h vr va vb wa Oa ((fr.upd ub a3 a').upd ua a3 b0) fa (fb.upd ua a1 (fun h=>a9 h.symm)) (((o1 ur).trans (o3 ub)).trans (o2 ua)) ra ac (a4.look fun t=>(eG vr (.map (some va)) (.map (some vb)) st c6 c5 b' t).1)
 ·refine aV kv vv r g2 a2 b6 fun va wa Oa fa ua ra=>G5 (af (hS Oa wa (o2 ua)) ?_)
  refine bL i k d4 hi hk ?_ ?_
  ·refine cR he z0 b1 h1 ra g1 a3 n (two ((hx _).1)).1 (two ((hx _).1)).2 hm hm hb b8 b7 fun wr Or vr _ fr ur rr _=>G5 (af (hS Or wr ((o2 ua).trans (o1 ur))) ?_)
   refine Gn k (by rw[c'];exact b4) hk ?_;refine aV a8 a6 rr g3 a1 b5 fun vb wb Ob fb ub rb=>G5 (af (hS Ob wb (((o2 ua).trans (o1 ur)).trans (o3 ub))) ?_)
   exact by rw[c'];exact fun ac a4=>h vr va vb wb Ob (fr.upd ub a3 a') ((fa.upd ur a2 (fun h=>b0 h.symm)).upd ub a2 a9) fb (((o2 ua).trans (o1 ur)).trans (o3 ub)) rb ac (a4.look fun t=>(eG vr (.map (some va)) (.map (some vb)) st c6 c5 b' t).2.1)
  refine aV a8 a6 ra g3 a1 b5 fun vb wb Ob fb ub rb=>G5 (af (hS Ob wb ((o2 ua).trans (o3 ub))) ?_)
  refine Gn i b2 hi ?_;refine cR he z0 b1 h1 rb g1 a3 n (two ((hx _).2.2.2.1 _)).1 (two ((hx _).2.2.2.1 _)).2 hm hm hb b8 b7 fun wr Or vr _ fr ur rr _=>G5 (af (hS Or wr (((o2 ua).trans (o3 ub)).trans (o1 ur))) ?_)
  exact by rw[q2];exact fun ac a4=>h vr va vb wr Or fr ((fa.upd ub a2 a9).upd ur a2 (fun h=>b0 h.symm)) (fb.upd ur a1 (fun h=>a' h.symm)) (((o2 ua).trans (o3 ub)).trans (o1 ur)) rr ac (a4.look fun t=>(eG vr (.map (some va)) (.map (some vb)) st c6 c5 b' t).2.2.1)
 refine aV a8 a6 r g3 a1 b5 fun vb wb Ob fb ub rb=>G5 (af (hS Ob wb (o3 ub)) ?_)
 refine bL i j d0 hi hj ?_ ?_
 ·refine cR he z0 b1 h1 rb g1 a3 n (two ((hx _).2.1)).1 (two ((hx _).2.1)).2 hm hm hb b8 b7 fun wr Or vr _ fr ur rr _=>G5 (af (hS Or wr ((o3 ub).trans (o1 ur))) ?_)
  refine Gn j (by rw[c9];exact b3) hj ?_;refine aV kv vv rr g2 a2 b6 fun va wa Oa fa ua ra=>G5 (af (hS Oa wa (((o3 ub).trans (o1 ur)).trans (o2 ua))) ?_)
  exact by rw[c9,q1];exact fun ac a4=>h vr va vb wa Oa (fr.upd ua a3 b0) fa ((fb.upd ur a1 (fun h=>a' h.symm)).upd ua a1 (fun h=>a9 h.symm)) (((o3 ub).trans (o1 ur)).trans (o2 ua)) ra ac (a4.look fun t=>(eG vr (.map (some va)) (.map (some vb)) st c6 c5 b' t).2.2.2.1)
 refine aV kv vv rb g2 a2 b6 fun va wa Oa fa ua ra=>G5 (af (hS Oa wa ((o3 ub).trans (o2 ua))) ?_)
 refine Gn i (by rw[c8];exact b2) hi ?_;refine cR he z0 b1 h1 ra g1 a3 n (two ((hx _).2.2.2.2 _)).1 (two ((hx _).2.2.2.2 _)).2 hm hm hb b8 b7 fun wr Or vr _ fr ur rr _=>G5 (af (hS Or wr (((o3 ub).trans (o2 ua)).trans (o1 ur))) ?_)
 exact by rw[c8,q2];exact fun ac a4=>h vr va vb wr Or fr (fa.upd ur a2 (fun h=>b0 h.symm)) ((fb.upd ua a1 (fun h=>a9 h.symm)).upd ur a1 (fun h=>a' h.symm)) (((o3 ub).trans (o2 ua)).trans (o1 ur)) rr ac (a4.look fun t=>(eG vr (.map (some va)) (.map (some vb)) st c6 c5 b' t).2.2.2.2)
theorem sq{P:IW}{N:Nat}{ops:Array Jw}{S:ln->Prop}{Q:JO->Act->ln->Prop}{st:St}{w:ln}{a3:Nat}{a1:Array Bool}{α:Type}(f:α->St)(g:α->ln)(I:α->Prop)(a0:Array Bool)(a2:Nat) 
 (h1:(∀x,I x->WH P N ops S Q a2 a0 (f x) (g x))->WH P N ops S Q a3 a1 st w) (h2:∀x,I x->WH P N ops S Q a2 a0 (f x) (g x)):WH P N ops S Q a3 a1 st w:=h1 h2
theorem WH.leaf{P:IW}{N:Nat}{ops:Array Jw}{S:ln->Prop}{Q:JO->Act->ln->Prop}{st a3:St}{w w':ln}{a2:Nat}{a1 a0:Array Bool}(h:WH P N ops S Q a2 a0 a3 w')(hl:a1=a0)(hc:Cov st a3)(hw:w'=w):WH P N ops S Q a2 a1 st w:=by
 subst hl;subst hw;exact fun a ha=>h a (ha.cov hc)
end Go.VL
namespace Go.Proofs.YtpfpmhhigheccaaGreatDoor
theorem C7{E:List KVR}(h:(E.map (·.1)).Nodup){j:Nat}(hj:j<E.length):iy E (nth E j).1=some j:=by
 rw[<-dG];refine I7.2 ⟨by simpa using hj,by simp[aB hj],fun i hi=>?_⟩;have:=List.pairwise_iff_getElem.1 h i j (by simp;omega) (by simpa using hj) hi;simp only[List.getElem_map]at this ⊢;rw[aB hj];simpa using this
theorem Cv{E:List KVR}(h:(E.map (·.1)).Nodup){j:Nat}(hj:j<E.length):da E (nth E j).1=(nth E j).2.2/\Az E (nth E j).1=(nth E j).2.1:=by
 unfold da Az;rw[jU,C7 h hj];simp only[Ji,List.getElem?_eq_getElem hj,Jk,Jh,aB hj,and_self]
structure BlI(w0:ln)(nv tv:ix)(rows:List (List Nat))(tls:List Nat)(sb:Nat)(fv bv:ix)(sr tr tb b0 m0:Nat)(O:Nat->Nat)(W:ln)(bl:List Nat)(E:List KVR)(td:List ((Int×Int)×Bool))(many:Nat):Prop where
 upd:Gu (fun q=>1<=q) (fun _=>0) w0 O W
 rng:ID w0.heap.size O W
 sp:SpO O W sb nv tv fv bv sr tr rows.length (nxD rows) bl E td many
 tb:If O W 8 tb #[nI (b0:Nat),nI (m0:Nat)] 202
 low:∀q,O q<2000
def BlT(rows:List (List Nat))(a0:List Nat)(b0 m0:Nat)(fl:Bool)(bl:List Nat)(E:List KVR)(td:List ((Int×Int)×Bool))(many:Nat):Prop:=
 (fl=true->∃td0,BO (nxD rows) (nth a0) rows.length bl E td0 many/\td=nN td0 ((b0:Int),(m0:Int))/\b0<many/\m0<37)/\(fl=false->BO (nxD rows) (nth a0) rows.length bl E [] many)
structure BiI(w0:ln)(nv tv:ix)(rows:List (List Nat))(tls:List Nat)(sb:Nat)(fv bv:ix)(sr tr tb b0 m0 r q many0 M:Nat)(bl0:List Nat)(G:List KVR)(O:Nat->Nat)(W:ln)(left:List (Int×ix))(cur:Option (Int×ix))(bl:List Nat)(E:List KVR)(td:List ((Int×Int)×Bool))(many:Nat):Prop where
 upd:Gu (fun q=>1<=q) (fun _=>0) w0 O W
 rng:ID w0.heap.size O W
 sp:SpO O W sb nv tv fv bv sr tr rows.length (nxD rows) bl E td many
 tb:If O W 8 tb #[nI (b0:Nat),nI (m0:Nat)] 202
 rg:K2 (fun k:Int=>nI k) (fun v:ix=>v) O W 2000 2001 r q left cur
 gr:∀k,k<G.length->(nth G k).1∈left.map (·.1)->GN aJ 3 1 O W (3000+k) (nth G k).2.1 (nth G k).2.2
 bi:BI (nxD rows) (nth tls) rows.length bl0 m0 b0 many0 left bl E td many
 ms:(rows.length-many)*37+td.length<=M
 sub:∀e∈left,e∈G.map rH
theorem Ay{rows:List (List Nat)}{a0:List Nat}{bl:List Nat}{E:List KVR}{td:List ((Int×Int)×Bool)}{many:Nat}(h:BO (nxD rows) (nth a0) rows.length bl E td many){a2 a1:List ((Int×Int)×Bool)}{k:Int×Int}{x:Bool}(e:td=a2++(k,x)::a1):
  ∃b0 m0:Nat,k=((b0:Int),(m0:Int))/\BlT rows a0 b0 m0 true bl E (nN td k) many/\(nN td k).length+1=td.length:=by
 have hm:(k,x)∈td:=by rw[e];simp
 obtain⟨c,j,h1,h2,h3⟩:=h.tdr _ hm;dsimp only at h3;exact⟨c,j,h3,⟨fun _=>⟨td,h,by rw[h3],h1,h2⟩,fun e=>absurd e zd⟩,vm k x td hm⟩
theorem RightD.nx{rows:List (List Nat)}{a0:List Nat}(h:RightD rows a0):∀p m,p<rows.length->m<37->nxD rows p m<rows.length:=fun p m hp hm=>(h.row p hp).2 m hm
theorem SpO.todoN{S:Nat->Prop}{O O':Nat->Nat}{w w':ln}{sb:Nat}{nv tv fv bv:ix}{sr tr n:Nat}{nx:Nat->Nat->Nat}{bl:List Nat}{E:List KVR}{td a0:List ((Int×Int)×Bool)}{many:Nat}(h:SpO O w sb nv tv fv bv sr tr n nx bl E td many) 
  (u:Gu S O w O' w') (hS:∀k,0<k->k<10+E.length->k≠4->k≠8->k≠9->¬S k) (ht:GX dC GD O' w' 4 tr a0):SpO O' w' sb nv tv fv bv sr tr n nx bl E a0 many:=
 ⟨h.blk.upd u zd (hS 1 zo zo zo zo zo),h.row.upd u zd (hS 2 zo zo zo zo zo),⟨h.st.map.upd u zd (hS 3 zo zo zo zo zo),fun k hk=>(h.st.row k hk).upd u zo (hS _ zo zo zo zo zo)⟩,ht,h.frm.upd u zd (hS 5 zo zo zo zo zo)⟩
theorem SpO.reN{O:Nat->Nat}{w:ln}{sb:Nat}{nv tv fv bv:ix}{sr tr n:Nat}{nx:Nat->Nat->Nat}{bl:List Nat}{E:List KVR}{td:List ((Int×Int)×Bool)}{many:Nat}(h:SpO O w sb nv tv fv bv sr tr n nx bl E td many) 
  (f:Nat->Nat) (hf:∀t,t<10+E.length->t≠8->t≠9->f t=t):SpO (reF f O) w sb nv tv fv bv sr tr n nx bl E td many:=
 ⟨h.blk.re f (hf 1 zo zo zo),h.row.re f (hf 2 zo zo zo),⟨h.st.map.re f (hf 3 zo zo zo),fun k hk=>(h.st.row k hk).re f (hf _ zo zo zo)⟩,h.todo.re f (hf 4 zo zo zo),h.frm.re f (hf 5 zo zo zo)⟩
def nxF:Nat->Nat:=fun t=>if t=9 then 8 else if t=8 then 0 else if t<2000 then t else 0
theorem DH{t:Nat}(h:t<2000)(h8:t≠8)(h9:t≠9):nxF t=t:=by unfold nxF;rw[if_neg h9,if_neg h8,if_pos h]
theorem DG(t:Nat):nxF t<2000:=by unfold nxF;split;omega;split;omega;split<;>omega
theorem rD(nv tv:ix)(rows:List (List Nat))(b5:List Nat)(w:ln)(hn:RowsN w nv rows)(m4:Sl ff 1 w tv b5)(hr:RightD rows b5):
  J2 GY 92 [.agg #[nv,tv]] w fun v w'=>
   ∃bl,Sl aJ 1 w' v bl/\IT w w'/\bl.length=rows.length/\(∀p q,p<rows.length->q<rows.length->(nth bl p=nth bl q↔Alike (nxD rows) (nth b5) p q))/\∀(B:Nat) (O:Nat->Nat),ID B O w->IG O w' v:=by
 have t':=hr.le;have o7:=hr.pos;have e6:=hr.tl;have d9:=hr.nx;have o8:=hn.free;have g2:IG (fun _=>0) w tv:=m4.free0 fun a=>by simp
 obtain⟨vs,i6,i7,t6,o2⟩:=o8;refine Gp func92 ntmps92 rfl rfl ?_;refine zg ?_;refine aG (aw w) 7 zo rfl rfl ?_;intro db w1 O1 i1 n3 s3 u6;have c0:w1.cell? (nA db 0)=some nv:=i1.cell 0 rfl;have i5:=i6.upd i7 n3;refine zg ?_;refine aK (fun W=>∀j u,[nv,tv][j]? = some u->W.cell? (nA db j)=some u) 10 rfl zk ?_;refine zin i1.drew.cellsAdd fun zS=>?_
 refine zt 0 rfl zS (fun w1 i4=>ah (us:=[nv,tv]) i4 (Im _) (GL _) rfl) ?_;refine zrf 1 rfl zS rfl ?_
 refine zt 2 rfl zS (fun w1 i4=>RV.ld (i4 0 _ rfl) rfl) ?_;refine zr 3 rfl zS (fun _=>bd i5.sh GG rfl) ?_
 refine xC 4 5 6 jj (val:=fun n:Nat=>nI (n:Int)) (0:Nat) zk (fun _=>rfl) (fun k:Int=>nI k) (fun v:ix=>v) dC GD s3.drew 2 3 4 zd zd zd zd zd zd rows.length rfl rfl rfl zk zk zk zk zk zk zk zk zk zk zk zk (fun O' W u=>(i1.drew.upd u zd zd).cellsAdd) (fun l=>⟨rfl,rfl,rfl,fun _=>rfl,fun _=>rfl⟩) zo zo zo rfl rfl rfl rfl rfl rfl ?_;intro bv sr tr w4 O4 c5 j7 j1 n2 s2;have d3:=i1.drew.upd n2 zd zd;obtain⟨ba,bc,p9,_⟩:=c5.sl.shape;refine zr 7 rfl (d3.cellsAdd) (fun _=>RV.build (cells:=#[nv,tv,nS,bv,.map (some sr),.map (some tr),nI 0]) Fo (zeroValue201 _) rfl (by rw[p9];rfl)) ?_
 refine Gn 8 zk rfl ?_;refine aG s2 1 zd rfl rfl ?_
 intro sb w5 O5 r6 d' s1 u5;refine zg ?_;refine af ((d3.upd d' zd zd).cellsAdd) ?_;have f9:=c5.upd d' zd zd;have j6:=j7.upd d' zd zd;have j0:=j1.upd d' zd zd;have l5:Gu (fun q=>1<=q) (fun _=>0) w O5 w5:=((n3.mono (fun _ h=>by omega) zd).trans (Upd.ofDrew (n2.mono (fun _ h=>by omega) zd))).trans (d'.mono (fun _ h=>by omega) zd);obtain⟨f,hf⟩:∃f:Nat->Nat,f=fun t=>if t<=7 then t else 0:=⟨_,rfl⟩
 have f7:∀t,t<=7->f t=t:=fun t ht=>by rw[hf];exact if_pos ht
 have s7:∀t,f t<=7:=fun t=>by rw[hf];dsimp only;split<;>omega
 have l2:=l5.re f (f7 0 zd) (fun b hb=>absurd rfl hb);refine zra 9 rfl ((d3.upd d' zd zd).cellsAdd) rfl ?_;refine I6 zk ?_;refine zg ?_;refine zc call117 (tD w.heap.size (reF f O5) w5 sb nv tv bv sr tr b5 (s1.re f (f7 0 zd)) (r6.re f (f7 1 zd)) (by rw[e6];exact f9.re f (f7 2 zd)) ⟨j6.re f (f7 3 zd),fun k hk=>absurd hk (G1 k)⟩ (j0.re f (f7 4 zd)) (m4.upd g2 l2) (g2.upd l2) zo (fun q=>by have:=s7 (O5 q);show f (O5 q)<2000;omega)) ?_;rintro _ w6 ⟨O6,D,bl,E,many,td,r8,s0,q',f8,e',i',hF,hI⟩;have m8:=hF.mi;obtain⟨g,hg⟩:∃g:Nat->Nat,g=fun t=>if t<=4\/10<=t/\t<2000 then t else 0:=⟨_,rfl⟩
 have g1:∀t,(t<=4\/10<=t/\t<2000)->g t=t:=fun t ht=>by rw[hg];exact if_pos ht
 have n8:∀t,g t<2000/\g t≠6/\g t≠5:=fun t=>by rw[hg];dsimp only;split<;>omega
 have g9:=(l2.trans (r8.mono (fun _ h=>by omega) zd)).re g (g1 0 zd) (fun b hb=>absurd rfl hb);have m6:RowsF (reF g O6) w6 nv rows:=hn.free.upd g9;refine zg ?_;refine zc call118 (rz w.heap.size (reF g O6) w6 sb nv tv bv sr tr many rows b5 (s0.re g (g1 0 zd)) (q'.re g (g1 1 zd)) m6 hr (fun q=>(n8 _).1) (fun q=>(n8 _).2.1)) ?_;rintro _ w7 ⟨O7,fv,g5,r',p',k9⟩;obtain⟨f3,m'⟩:∃f:Nat->Nat,f=fun t=>if t<2000 then t else 0:=⟨_,rfl⟩
 have b4:∀t,t<2000->f3 t=t:=fun t ht=>by rw[m'];exact if_pos ht
 have f3lt:∀t,f3 t<2000:=fun t=>by rw[m'];dsimp only;split<;>omega
 have l4:=(g9.trans (g5.mono (fun _ h=>by omega) zd)).re f3 (b4 0 zd) (fun b hb=>absurd rfl hb);have u3:=hF.keys.len;have b8:SpO (reF f3 O7) w7 sb nv tv fv bv sr tr rows.length (nxD rows) bl E td many:=⟨p'.re f3 (b4 1 zd),((f8.re g (g1 2 zd)).upd g5 zd zd).re f3 (b4 2 zd),⟨((e'.map.re g (g1 3 zd)).upd g5 zd zd).re f3 (b4 3 zd),fun k hk=>(((e'.row k hk).re g (g1 _ zo)).upd g5 zo zo).re f3 (b4 _ zo)⟩,((i'.re g (g1 4 zd)).upd g5 zd zd).re f3 (b4 4 zd),k9.re f3 (b4 5 zd)⟩
 rw[e6]at hF;have h6:BO (nxD rows) (nth b5) rows.length bl E td many:=hF.bo hI d9;have g':=r'.re f3 (b4 0 zd);have u0:∀q,reF f3 O7 q<2000:=fun q=>f3lt _
 generalize reF f3 O7=O8 at *;refine zg ?_;refine zc call119 (oq w.heap.size O8 w7 sb tr td g' (.inr ⟨b8.blk.tag,b8.blk.cell 5 rfl⟩) b8.todo) ?_;intro vn w8 j8;have hq:∃b0 m0 fl b',vn=.tuple #[dC ((b0:Nat),(m0:Nat)),.bool fl]/\Gu (fun q=>q=4) O8 w7 O8 w8/\GX dC GD O8 w8 4 tr b'/\BlT rows b5 b0 m0 fl bl E b' many:=by
  rcases j8 with⟨h0,rfl,h1,h2⟩|⟨d8,k,x,d7,e,rfl,h1,h2⟩
  ·rw[h0]at h2 h6;exact⟨0,0,false,[],rfl,h1,h2,⟨fun e=>absurd e zd,fun _=>h6⟩⟩
  obtain⟨b0,m0,rfl,h3,_⟩:=Ay h6 e;exact⟨b0,m0,true,_,rfl,h1,h2,h3⟩
 obtain⟨b0,m0,fl,b',rfl,n1,i9,s6⟩:=hq;refine zg ?_;refine ar (g'.upd n1) 8 zo (GZ _) rfl ?_;intro tb w9 O9 d0 n0 r9 u4;refine zsa (us:=#[nI (b0:Nat),nI (m0:Nat)]) d0 (I0 _) ?_;have e9:=d0.setRow (us:=#[nI (b0:Nat),nI (m0:Nat)]);have d5:Gu (fun k=>k=8) O9 w9 O9 (w9.setRow tb #[nI (b0:Nat),nI (m0:Nat)]):=GE zd d0.tag rfl;generalize w9.setRow tb #[nI (b0:Nat),nI (m0:Nat)]=w10 at *;have c7:Gu (fun q=>q=4\/q=8) O8 w7 O9 w10:=((n1.mono (fun _ h=>.inl h) zd).trans (n0.mono (fun _ h=>.inr h) zd)).trans (d5.mono (fun _ h=>.inr h) zd);have f6:=b8.todoN c7 zo ((i9.upd n0 zd zd).upd d5 zd zd);have n7:=h6.keys.len;have t9:=h6.blk.many_le;have f3i:∀t,t<10+E.length->t≠8->t≠9->f3 t=t:=fun t h _ _=>b4 t zo
 clear m6 hF hI;refine zg ?_;refine zlp (fun z:(Nat->Nat)×World×List Nat×List KVR×List ((Int×Int)×Bool)×Nat×Nat×Nat×Nat×Bool=>[(3,nP sb),(4,.pointer (some ⟨z.2.2.2.2.2.2.1,0,none⟩)),(5,.bool z.2.2.2.2.2.2.2.2.2)]) (fun z=>z.2.1) (fun z=>BlI w nv tv rows b5 sb fv bv sr tr z.2.2.2.2.2.2.1 z.2.2.2.2.2.2.2.1 z.2.2.2.2.2.2.2.2.1 z.1 z.2.1 z.2.2.1 z.2.2.2.1 z.2.2.2.2.1 z.2.2.2.2.2.1/\BlT rows b5 z.2.2.2.2.2.2.2.1 z.2.2.2.2.2.2.2.2.1 z.2.2.2.2.2.2.2.2.2 z.2.2.1 z.2.2.2.1 z.2.2.2.2.1 z.2.2.2.2.2.1) (fun z=>(rows.length-z.2.2.2.2.2.1)*37+z.2.2.2.2.1.length+z.2.2.2.2.2.2.2.2.2.toNat) (reF f3 O9,w10,bl,E,b',many,tb,b0,m0,fl) (⟨⟨(l4.trans (c7.mono (fun _ h=>by omega) zd)).re f3 (b4 0 zd) (fun b hb=>absurd rfl hb),(r9.upd d5).re f3 (b4 0 zd),f6.reN f3 f3i,e9.re f3 (b4 8 zd),fun q=>f3lt _⟩,s6⟩) ?_;rintro⟨O11,e4,e2,E1,i3,a9,h7,b1,m1,s9⟩ ⟨hI,hT⟩;dsimp only at hI hT ⊢;refine zg ?_
 cases s9 with
 |false=>
  have g3:=hT.2 rfl;have cb:e4.cell? (nA sb 3)=some bv:=hI.sp.blk.cell 3 rfl;refine zFG rfl rfl ?_;refine zvG (RV.ld cb rfl) ?_;refine ae rfl rfl (⟨e2,hI.sp.row.sl,hI.upd.ext,g3.blk.len,fun p q hp hq=>g3.final d9 p q hp hq,fun B O hO=>hI.sp.row.free zd hI.rng hO⟩)
 |true=>
  obtain⟨t3,a5,j2,l1,g0⟩:=hT.1 rfl;have p5:=a5.keys;have p3:=p5.len;have p0:=a5.blk.many_le;have b7:=a5.blk.mem b1 l1;have t0:e4.cell? ⟨h7,0,none⟩=some (nI (b1:Nat)):=hI.tb.cell 0 rfl;have s':e4.cell? ⟨h7,1,none⟩=some (nI (m1:Nat)):=hI.tb.cell 1 rfl;refine zTG rfl rfl ?_;refine zv (iP I8 (Gx _) rfl rfl 0 rfl zd) ?_;refine zv (RV.ld t0 rfl) ?_;refine zv (iP I8 (Gx _) rfl rfl 1 rfl zd) ?_;refine zv (RV.ld s' rfl) ?_;refine zc call120 (tC w.heap.size O11 e4 sb nv tv fv bv sr tr rows.length (nxD rows) e2 E1 i3 a9 b1 m1 hI.rng hI.sp zo g0 (fun x hx=>((b7 x).1 hx).1) zo a5.blk.len (a5.blk.nd b1 l1) hI.low) ?_;rintro _ t2 ⟨r,O12,G,rfl,l3,l8,hG,hL⟩;refine mR hG.map Gz l8 2001 zd zd rfl rfl ?_;intro q m2 O13 o6 p1 g8 l7;have a8:Gu (fun q=>2000<=q) O11 e4 O13 m2:=l3.trans (g8.mono (fun _ h=>by omega) zd);have n6:∀k,k∈(G.map rH).map (·.1)↔k∈G.map (·.1):=fun k=>by rw[JF];rfl
  have s4:((G.map rH).map (·.1)).Nodup:=by rw[JF];exact hL.nd
  obtain⟨M,hM⟩:∃M,M=(rows.length-a9)*37+i3.length:=⟨_,rfl⟩
  refine zg ?_;refine zlp (fun y:(Nat->Nat)×World×List (Int×ix)×Option (Int×ix)×List Nat×List KVR×List ((Int×Int)×Bool)×Nat=>[(3,nP sb),(4,nP h7),(38,nP q)]) (fun y=>y.2.1) (fun y=>BiI w nv tv rows b5 sb fv bv sr tr h7 b1 m1 r q a9 M e2 G y.1 y.2.1 y.2.2.1 y.2.2.2.1 y.2.2.2.2.1 y.2.2.2.2.2.1 y.2.2.2.2.2.2.1 y.2.2.2.2.2.2.2) (fun y=>y.2.2.1.length) (O13,m2,G.map rH,none,e2,E1,i3,a9) (⟨hI.upd.trans (a8.mono (fun _ h=>by omega) zd),l7,hI.sp.upd a8 zo,hI.tb.upd a8 zd zd,o6,fun k hk _=>(hG.row k hk).upd g8 zo zo,?_,Nat.le_of_eq hM.symm,fun e h=>h⟩) ?_
  ·dsimp only;rw[j2];refine a5.take b1 m1 g0 d9 _ (fun k=>?_) s4;rw[n6,hL.key]
   constructor
   ·rintro⟨i,hi,e⟩;obtain⟨h1,h2⟩:=gC.1 hi;exact⟨i,h1,((b7 _).1 h2).2,e⟩
   rintro⟨i,h1,h2,e⟩;exact⟨i,gC.2 ⟨h1,(b7 _).2 ⟨d9 i m1 h1 g0,h2⟩⟩,e⟩
  rintro⟨O14,t1,o1,u7,c8,E2,e5,a0⟩ hJ;dsimp only at hJ ⊢;refine zg ?_;refine oR hJ.rg zd zd rfl rfl ?_ ?_
  ·intro h0;subst h0;have b9:=hJ.bi.done;have k3:=b9.keys.len;have j9:=b9.blk.many_le;refine zg ?_;refine zFG rfl rfl ?_;refine zvG (ah (us:=[nI (b1:Nat),nI (m1:Nat)]) hJ.tb.cellsAdd (J4 _) (I0 _) rfl) ?_;refine ar hJ.rng 9 zo (GZ _) rfl ?_;intro tc c9 O15 j5 a2 h5 s5;refine zsa (us:=#[nI (b1:Nat),nI (m1:Nat)]) j5 (I0 _) ?_;have j4:=j5.setRow (us:=#[nI (b1:Nat),nI (m1:Nat)]);have a4:Gu (fun k=>k=9) O15 c9 O15 (c9.setRow tc #[nI (b1:Nat),nI (m1:Nat)]):=GE zd j5.tag rfl;generalize c9.setRow tc #[nI (b1:Nat),nI (m1:Nat)]=d6 at *;have a7:=a2.trans a4;have a1:=hJ.sp.todoN a7 zo ((hJ.sp.todo.upd a7 zd zd));refine zg ?_;refine zc call119 (oq w.heap.size O15 d6 sb tr e5 (h5.upd a4) (.inr ⟨a1.blk.tag,a1.blk.cell 5 rfl⟩) a1.todo) ?_;intro n9 e3 f';have m7:=hJ.ms;have hq:∃b0 m0 fl b',n9=.tuple #[dC ((b0:Nat),(m0:Nat)),.bool fl]/\Gu (fun q=>q=4) O15 d6 O15 e3/\GX dC GD O15 e3 4 tr b'/\BlT rows b5 b0 m0 fl c8 E2 b' a0/\(rows.length-a0)*37+b'.length+fl.toNat<=M:=by
    rcases f' with⟨h0,rfl,h1,h2⟩|⟨d8,k,x,d7,e,rfl,h1,h2⟩
    ·subst h0;exact⟨0,0,false,[],rfl,h1,h2,⟨fun e=>absurd e zd,fun _=>b9⟩,m7⟩
    obtain⟨b0,m0,rfl,h3,h4⟩:=Ay b9 e;exact⟨b0,m0,true,_,rfl,h1,h2,h3,by show _+_+1<=M;omega⟩
   obtain⟨b3,m3,s8,n',rfl,g7,e7,l',o9⟩:=hq;have c':=j4.upd g7 zd zd;refine zg ?_;refine zsa (us:=#[nI (b3:Nat),nI (m3:Nat)]) c' (I0 _) ?_;have j3:=c'.setRow (us:=#[nI (b3:Nat),nI (m3:Nat)]);have g6:Gu (fun k=>k=9) O15 e3 O15 (e3.setRow tc #[nI (b3:Nat),nI (m3:Nat)]):=GE zd c'.tag rfl;generalize e3.setRow tc #[nI (b3:Nat),nI (m3:Nat)]=w18 at *;have a6:Gu (fun q=>q=4\/q=9) O15 d6 O15 w18:=(g7.mono (fun _ h=>.inl h) zd).trans (g6.mono (fun _ h=>.inr h) zd);have f5:=a1.todoN a6 zo (e7.upd g6 zd zd);have r7:=(hJ.upd.trans (a7.mono (fun _ h=>by omega) zd)).trans (a6.mono (fun _ h=>by omega) zd);refine zg ?_;refine zx (reF nxF O15,w18,c8,E2,n',a0,tc,b3,m3,s8) (⟨⟨r7.re nxF rfl (fun b hb=>absurd rfl hb),((h5.upd a4).upd a6).re nxF rfl,f5.reN nxF (fun t h h8 h9=>DH zo h8 h9),j3.re nxF rfl,fun q=>DG _⟩,l'⟩) (by dsimp only;show _<_+1;omega)
  intro d8 k v d7 c9 k0 b6 a2;subst k0;have m9:k∈G.map (·.1):=(n6 k).1 (Is.2 ⟨_,hJ.sub _ (GT _ (I3 ..)),rfl⟩);obtain⟨i0,u1,p4⟩:=(hL.key k).1 m9;obtain⟨kn,p2⟩:∃kn:Nat,k=(kn:Int):=⟨_,p4.symm⟩
  subst p2;obtain⟨e0,p8,p7⟩:=Is.1 (hJ.sub _ (GT _ (I3 ..)));obtain⟨j,hj,p6⟩:=Gm p8;subst p6;obtain⟨k4,o3⟩:=IH p7;have m5:=hJ.gr j hj (by rw[k4];simp);obtain⟨h',t7⟩:=Cv hL.nd hj;obtain⟨L,n5⟩:∃L,L=(nth G j).2.2:=⟨_,rfl⟩
  rw[o3,<-n5]at m5;rw[k4,<-n5]at h';have i2:∀x,x∈L↔x<rows.length/\nth e2 x=kn/\nth e2 (nxD rows x m1)=b1:=fun x=>by rw[<-h'];exact hL.mem (fun x hx=>d9 x m1 hx g0) b7 kn x
  have n4:L.Nodup:=by rw[<-h'];exact hL.rnd (a5.blk.nd b1 l1) _
  have l9:L≠[]:=by rw[<-h'];exact hL.ne m9
  obtain⟨k1,u2⟩:=hJ.bi.here i2;have k5:=hJ.bi.keys;have k3:=k5.len;have j9:=hJ.bi.blk.many_le;have g4:=hJ.bi.blk.len;have a3:=hJ.sp.upd a2 zo;have a':=m5.upd a2 zo zo;have c6:=a3.st.at (kn:Int);have o5:=a'.sl.len_le;have o4:=c6.sl.len_le;have cs:c9.cell? (nA sb 4)=some (.map (some sr)):=a3.blk.cell 4 rfl;obtain⟨t5,o0,t4⟩:=pH hJ.bi.nd;refine zg ?_;refine zTG rfl rfl ?_;refine zvG (K0 b6 rfl) ?_;refine zvG (bd a'.sl.sh G0 rfl) ?_;refine zvG (RV.ld cs rfl) ?_;refine zv (I9 a3.st.map Gz oy (Ie _) (kn:Int) rfl rfl rfl (kN E2 _)) ?_;refine zvG (bd c6.sl.sh G0 rfl) ?_;refine zC ?_ ?_
  ·intro j';replace j':L.length<(da E2 (kn:Int)).length:=by have:=of_decide_eq_true j';omega
   have k':=hJ.bi.cut d9 a5.blk.alike g0 i2 n4 l9 j' v;refine zg ?_;refine zc call121 (tw w.heap.size O14 c9 sb nv tv fv bv sr tr rows.length (nxD rows) c8 E2 e5 a0 kn (3000+j) v L (hJ.rng.upd a2) a3 a' k5 zo (fun x hx=>by rw[g4];exact((i2 x).1 hx).1) zo k1 (fun x hx=>by rw[g4];exact((hJ.bi.blk.mem kn k1 x).1 hx).1)) ?_;rintro _ d6 ⟨v',O16,a4,l6,l0,d1,f4,k6,e8⟩;have a1:=a3.cut k5 k1 zo a' a4 (fun q h=>h) l0 d1 f4 k6 e8;obtain⟨f,hf⟩:∃f,f=CC (3000+j) (10+a0):=⟨_,rfl⟩
   have e1:∀t,t≠3000+j->f t=t:=fun t ht=>by rw[hf];exact pD ht
   rw[<-hf]at a1;have b2:=k' v' (decide ((gd (fun x=>nth (cg c8 a0 L) x==a0) (da E2 (kn:Nat))).length<L.length));have o':=b2.blk.many_le;generalize decide ((gd (fun x=>nth (cg c8 a0 L) x==a0) (da E2 (kn:Nat))).length<L.length)=lt at a1 b2;have i8:=xR e5 kn a0 lt 37;generalize tdL e5 kn a0 lt 37=td5 at a1 b2 i8;generalize bZ (bZ E2 (a0:Int) (v,L)) (kn:Int) (v',gd (fun x=>nth (cg c8 a0 L) x==a0) (da E2 (kn:Nat)))=E3 at a1 b2;generalize cg c8 a0 L=bl3 at a1 b2;have m7:=hJ.ms;have d4:Gu (fun q=>1<=q) (fun _=>0) w O16 d6:=(hJ.upd.trans (a2.mono (fun _ h=>by omega) zd)).trans (a4.mono (fun _ h=>by omega) zo);refine zg ?_;refine zx (reF f O16,d6,d8++d7,some ((kn:Int),v),bl3,E3,td5,a0+1) (⟨d4.re f (e1 0 zo) (fun b hb=>absurd rfl hb),l6.re f (e1 0 zo),a1,((hJ.tb.upd a2 zd zd).upd a4 zd zo).re f (e1 8 zo),(b6.upd a4 zd zd zo zo).re f (e1 _ zo) (e1 _ zo),fun k2 d2 hm=>?_,b2,?_,fun e he=>hJ.sub e ?_⟩) (by dsimp only;simp)
   ·have t8:k2≠j:=fun e=>by
     subst e;exact o0 (by rw[<-k4];exact hm)
    have k7:(nth G k2).1∈(d8++((kn:Int),v)::d7).map (·.1):=by
     simp only[GR,GH,Gw,Gv]at hm ⊢
     rcases hm with hm|hm
     ·exact .inl hm
     exact .inr (.inr hm)
    exact(((hJ.gr k2 d2 k7).upd a2 zo zo).upd a4 zo zo).re f (e1 _ zo)
   ·dsimp only;omega
   rcases Gw.1 he with he|he
   ·exact GW _ he
   exact GT _ (GF _ he)
  intro k8;replace k8:(da E2 (kn:Int)).length<=L.length:=by have:=of_decide_eq_false k8;omega
  have k':=hJ.bi.skip i2 n4 k8;refine zg ?_;refine zx (O14,c9,d8++d7,some ((kn:Int),v),c8,E2,e5,a0) (⟨hJ.upd.trans (a2.mono (fun _ h=>by omega) zd),hJ.rng.upd a2,a3,hJ.tb.upd a2 zd zd,b6,fun k2 d2 hm=>?_,k',hJ.ms,fun e he=>hJ.sub e ?_⟩) (by dsimp only;simp)
  ·have k7:(nth G k2).1∈(d8++((kn:Int),v)::d7).map (·.1):=by
    simp only[GR,GH,Gw,Gv]at hm ⊢
    rcases hm with hm|hm
    ·exact .inl hm
    exact .inr (.inr hm)
   exact(hJ.gr k2 d2 k7).upd a2 zo zo
  rcases Gw.1 he with he|he
  ·exact GW _ he
  exact GT _ (GF _ he)
end Go.Proofs.YtpfpmhhigheccaaGreatDoor
section
namespace Go.VL
section
variable{κ ν:Type}[DecidableEq κ]{kv:κ→ix}{vv:ν→ix}{P:IW}{N:Nat}{ops:Array Jw}{Q:JO→Act→ln→Prop}{rest:List Jw}{st:St}{w:ln}{t:IC}{p:String}{e:Array Edge}{x y z:JE}
theorem WL.insert{T K E:IC}{O:Nat->Nat}{i r:Nat}{l:List (κ×ν)}(hm:GX kv vv O w i r l)(hT:P.underlying T=some (.map K E))(hK:KeyL P K kv)(a0:i≠0) 
  (k:κ) (u:ν) {kx ux:ix} (hx:ev st x=some (.map (some r))) (hy:ev st y=some kx) (hz:ev st z=some ux) (hk:kx=kv k) (hu:ux=vv u)
  (h:∀w',GX kv vv O w' i r (bZ l k u)->Gu (fun j=>j=i) O w O w'->WL P N ops Q rest st w'):WL P N ops Q (⟨none,.insert T x y z,t,p,e,none⟩::rest) st w:=by
 subst hk;subst hu;obtain⟨w',h1,h2,h3⟩:=dp hT hK hm a0 k u;exact gO (fun a ha=>by simp only[execOp,ha.ev hx,ha.ev hy,ha.ev hz,JG,h1,Je,Sem.run_pure]) (h w' h2 h3)
end
end Go.VL
namespace Go.VL
open Go.Proofs
theorem RowT.freeRe{α:Type}{enc:α->List ix}{E:IC}{sz B:Nat}{O:Nat->Nat}{w:ln}{i:Nat}{v:ix}{l:List α}(h:GN enc E sz O w i v l)(hi:i≠0)(r:ID B O w)(f:Nat->Nat)(hf:f i=0):IG (reF f O) w v:=fun a n c e _=>by
 have h1:=h.1.tag a.block (by subst e;rfl);exact⟨by unfold reF;rw[h1];exact hf,(r.rng a.block (by rw[h1];exact hi)).2⟩
theorem Free.re{O:Nat->Nat}{w:ln}{v:ix}(h:IG O w v)(f:Nat->Nat)(hf:f 0=0):IG (reF f O) w v:=fun a n c e hn=>⟨by unfold reF;rw[(h a n c e hn).1];exact hf,(h a n c e hn).2⟩
end Go.VL
namespace Go.Proofs.YtpfpmhhigheccaaGreatDoor
open Go.VL Go.Proofs
set_option maxRecDepth 10000
theorem RwO.re{O:Nat->Nat}{w:ln}{i:Nat}{v:ix}{vs:List ix}{rows:List (List Nat)}(h:RwO O w i v vs rows)(f:Nat->Nat)(h0:f 0=0)(hi:f i=i):RwO (reF f O) w i v vs rows:=
 ⟨h.row.re f hi,h.len,fun k hk=>⟨(h.at_ k hk).1,(h.at_ k hk).2.re f h0⟩⟩
theorem zH{cl:Nat->Nat}{F:List Nat}{s t:Nat}(h:uT cl F s=none):uT cl (F++[s]) t=if cl s=cl t then some F.length else uT cl F t:=by
 unfold uT at h ⊢;rw[Ja]
 by_cases e:cl s=cl t
 ·rw[if_pos e];have:JB (fun o=>cl o==cl t) F=none:=by rw[<-e];exact h
  rw[this];simp[I4,e]
 rw[if_neg e]
 cases JB (fun o=>cl o==cl t) F with
 |some k=>simp
 |none=>simp[I4,e]
def NumI(cl:Nat->Nat)(D:List (Int×Int))(F:List Nat):Prop:=∀t,bf D ((cl t:Nat):Int)=(uT cl F t).map fun k:Nat=>(k:Int)
theorem xE(cl:Nat->Nat):NumI cl (bZ [] ((cl 0:Nat):Int) 0) [0]:=fun t=>by
 simp only[bZ,bf,uT,I4,List.findIdx?_nil]
 by_cases e:cl 0=cl t
 ·rw[if_pos (by rw[e]),if_pos (by simpa using e)];rfl
 rw[if_neg zo,if_neg (by simpa using e)];rfl
theorem NumI.add{cl:Nat->Nat}{D:List (Int×Int)}{F:List Nat}(h:NumI cl D F){s:Nat}(hs:uT cl F s=none):NumI cl (bZ D ((cl s:Nat):Int) (F.length:Int)) (F++[s]):=fun t=>by
 rw[aL,zH hs]
 by_cases e:cl s=cl t
 ·rw[if_pos (by rw[e]),if_pos e];rfl
 rw[if_neg zo,if_neg e];exact h t
theorem tz(nv tv:ix)(rows:List (List Nat))(a':List Nat)(w:ln)(hn:RowsN w nv rows)(i8:Sl ff 1 w tv a')(hr:RightD rows a'):
  J2 GY 58 [.agg #[nv,tv]] w fun v w'=>
   ∃cl nv' tv',v=.agg #[nv',tv']/\nv'.oneCell'=true/\tv'.oneCell'=true/\IT w w'/\(∀p q,p<rows.length->q<rows.length->(cl p=cl q↔Alike (nxD rows) (nth a') p q))/\RowsG w.heap.size w' nv' (cC cl rows a').1/\Sl ff 1 w' tv' (cC cl rows a').2/\NewV w.heap.size tv':=by
 have v1:=hr.le;have n3:=hr.pos;have s7:=hr.tl;have n5:=hr.nx;obtain⟨vs,m9,n0,u',m'⟩:=hn.free;have f6:IG (fun _=>0) w tv:=i8.free0 fun a=>by simp
 refine Gp func58 ntmps58 rfl rfl ?_;refine zh ?_
 refine aG (aw w) 1 zo rfl rfl ?_;intro db w1 O1 k7 t9 u3 v7;refine ar u3 2 zo (Ic _) rfl ?_
 intro cb w2 O2 k9 r9 r' v6;have g8:=k7.upd r9 zd zd;have i1:Gu (fun q=>1<=q) (fun _=>0) w O2 w2:=(t9.mono (fun _ h=>zo) zd).trans (r9.mono (fun _ h=>zo) zd);refine zh ?_;refine zv (ah (us:=[nv,tv]) g8.cellsAdd (Im _) (GL _) rfl) ?_;refine zc call62 (jc nv tv rows a' w2 (hn.ext i1.ext) (i8.ext i1.ext) hr) ?_;rintro _ w3 ⟨rfl,u7⟩;have l0:Gu (fun _=>False) O2 w2 O2 w3:=aa (fun h=>h) O2 u7;have g7:=g8.upd l0 zd (fun h=>h);have k8:=k9.upd l0 zd (fun h=>h);have i0:=i1.trans (l0.mono (fun _ h=>h.elim) zd);refine zh ?_;refine zFH rfl rfl ?_;refine zv (ah (us:=[nv,tv]) g7.cellsAdd (Im _) (GL _) rfl) ?_;refine zc call92 (rD nv tv rows a' w3 (hn.ext i0.ext) (i8.ext i0.ext) hr) ?_;rintro bv w4 ⟨bl,e0,u6,t8,h5,o7⟩;have l9:Gu (fun _=>False) O2 w3 O2 w4:=aa (fun h=>h) O2 u6;have u2:=(r'.upd l0).upd l9;have g6:=g7.upd l9 zd (fun h=>h);have h0:=k8.upd l9 zd (fun h=>h);have p3:=i0.trans (l9.mono (fun _ h=>h.elim) zd);have o8:IG O2 w4 bv:=o7 _ _ (r'.upd l0);have t7:∀p q,p<rows.length->q<rows.length->(nth bl p=nth bl q↔Alike (nxD rows) (nth a') p q):=h5;obtain⟨cl,d'⟩:∃cl,cl=nth bl:=⟨_,rfl⟩
 have b0:w4.cell? (adr bv 1 0)=some (nI ((cl 0:Nat):Int)):=by have:=e0.cell (i:=0) (j:=0) zo rfl;rw[az]at this;rw[d'];exact this
 refine zh ?_;refine aV (fun k:Int=>nI k) (fun v:Int=>nI v) u2 3 zd rfl ?_
 intro r w5 O5 s1 p1 u1;have h3:=e0.upd o8 p1;have v8:w5.cell? (adr bv 1 0)=some (nI ((cl 0:Nat):Int)):=by have:=h3.cell (i:=0) (j:=0) zo rfl;rw[az]at this;rw[d'];exact this
 refine zh ?_;refine zvH (aA h3.sh G0 (Gx _) rfl rfl 0 rfl zo) ?_
 refine WL.insert s1 IL oy zd ((cl 0:Nat):Int) (0:Int) rfl rfl rfl rfl rfl ?_;intro w6 s0 p0;have e4:=p1.trans p0;have o4:=g6.upd e4 zd zd;have o5:=h0.upd e4 zd zd;have u0:=u1.upd p0;refine zh ?_
 refine bB jj (enc:=aJ) u0 4 zd (0:Nat) rfl rfl rfl zd rfl ?_;intro s5 w7 O7 j' o' t';refine zh ?_
 refine ar t' 5 zo (Ic _) rfl ?_;intro ob w8 O8 g0 l' p5 v5;have b9:Gu (fun q=>3<=q) O2 w4 O8 w8:=((e4.mono (fun _ h=>zo) zd).trans (o'.mono (fun _ h=>zo) zd)).trans (l'.mono (fun _ h=>zo) zd);have l3:=(o'.mono (S':=fun q=>q=4\/q=5) (fun _ h=>.inl h) zd).trans (l'.mono (fun _ h=>.inr h) zd);have p9:=s0.upd l3 zd zd;have f9:=j'.upd l' zd zd;have b4:=p3.trans (b9.mono (fun _ h=>zo) zd);have o6:=e0.upd o8 b9;have h4:=o8.upd b9;have d9:=g6.upd b9 zd zd;have g':=h0.upd b9 zd zd;obtain⟨f7,r8⟩:∃f:Nat->Nat,f=fun t=>if t<=7 then t else 0:=⟨_,rfl⟩
 have f7i:∀t,t<=7->f7 t=t:=fun t ht=>by rw[r8];exact if_pos ht
 have f7l:∀t,f7 t<=7:=fun t=>by rw[r8];dsimp only;split<;>omega
 replace p9:=p9.re f7 (f7i 3 zd);replace f9:=f9.re f7 (f7i 4 zd);replace g0:=g0.re f7 (f7i 5 zd);replace d9:=d9.re f7 (f7i 1 zd);replace g':=g'.re f7 (f7i 2 zd);replace p5:=p5.re f7 (f7i 0 zd);replace b4:=b4.re f7 (f7i 0 zd) (fun b hb=>absurd rfl hb);replace h4:=h4.re f7 (f7i 0 zd);have u4:∀b,reF f7 O8 b<=7:=fun b=>f7l _
 generalize reF f7 O8=O8' at *;clear e0 h3 g8 g7 k9 k8 k7 h0 g6 s1 s0 j' l3 o' l' e4 p1 p0 b9 o4 o5;refine zh ?_;refine zlp (fun z:Nat×(Nat->Nat)×World×List (Int×Int)×List Nat×ix×ix×ix×List ix×List (List Nat)×List Nat=>[(1,nP db),(2,nP cb),(3,bv),(4,.map (some r)),(5,z.2.2.2.2.2.1),(6,nP ob),(7,nI z.1)]) (fun z=>z.2.2.1) (fun z=>Gu (fun q=>3<=q) O8' w8 z.2.1 z.2.2.1/\ID w.heap.size z.2.1 z.2.2.1/\GX (fun k:Int=>nI k) (fun v:Int=>nI v) z.2.1 z.2.2.1 3 r z.2.2.2.1/\NumI cl z.2.2.2.1 z.2.2.2.2.1/\GN aJ 3 1 z.2.1 z.2.2.1 4 z.2.2.2.2.2.1 z.2.2.2.2.1/\If z.2.1 z.2.2.1 5 ob #[z.2.2.2.2.2.2.1,z.2.2.2.2.2.2.2.1] 91/\RwO z.2.1 z.2.2.1 6 z.2.2.2.2.2.2.1 z.2.2.2.2.2.2.2.2.1 z.2.2.2.2.2.2.2.2.2.1/\GN ff 24 1 z.2.1 z.2.2.1 7 z.2.2.2.2.2.2.2.1 z.2.2.2.2.2.2.2.2.2.2/\LI cl (nxD rows) (nth a') rows.length z.1 z.2.2.2.2.1 z.2.2.2.2.2.2.2.2.2.1 z.2.2.2.2.2.2.2.2.2.2/\eQ cl (nxD rows) (nth a') (rows.length+1-z.1) z.1 z.2.2.2.2.1 z.2.2.2.2.2.2.2.2.2.1 z.2.2.2.2.2.2.2.2.2.2=cC cl rows a'/\(∀k,k<z.2.2.2.2.2.2.2.2.2.1.length->NewV w.heap.size (nth z.2.2.2.2.2.2.2.2.1 k))) (fun z=>rows.length-z.1) (0,O8',w8,bZ [] ((cl 0:Nat):Int) (0:Int),[0],s5,nS,nS,[],[],[]) (⟨IB zd _ _,p5,p9,xE cl,f9,g0,⟨GQ _ _ _ _ _ _,rfl,fun k hk=>absurd hk (G1 k)⟩,GQ _ _ _ _ _ _,qo n3,rfl,fun k hk=>absurd hk (G1 k)⟩) ?_;rintro⟨i,O9,w9,D,F,j0,i7,f5,i6,a7,i'⟩ ⟨h9,m0,m4,l5,b7,f',c7,d7,f4,i9,g4⟩
 dsimp only at h9 m0 m4 l5 b7 f' c7 d7 f4 i9 g4 ⊢;have v4:=f4.reps.len;have t1:=b7.sl.len_le;have v0:=f4.rl;have s8:=f4.tln;have n2:=c7.len;refine zh ?_;refine zvH (bd b7.sl.sh G0 rfl) ?_;refine zC ?_ ?_
 ·intro g5;replace g5:i<F.length:=dT g5;obtain⟨fu,o3⟩:∃fu,rows.length+1-i=fu+1:=⟨rows.length-i,zo⟩
  rw[o3,eQ,if_pos g5]at i9;have n':rows.length+1-(i+1)=fu:=zo;have p7:=f4.next g5 n5;obtain⟨p,hp⟩:∃p,p=nth F i:=⟨_,rfl⟩
  have l6:p<rows.length:=by rw[hp];exact f4.reps.lt _ (aN g5)
  rw[<-hp]at i9 p7;have h8:=b4.trans (h9.mono (fun _ h=>zo) zd);have m8:=m9.upd n0 h8;obtain⟨r7,k5⟩:=m' p l6;have v2:=r7.upd k5 h8;obtain⟨s4,u9⟩:=hr.row p l6;have m1:w9.cell? (adr j0 1 i)=some (nI (p:Int)):=by have:=b7.sl.cell (i:=i) (j:=0) g5 rfl;rw[az]at this;rw[hp];exact this
  have m2:w9.cell? (nA db 0)=some nv:=(d9.upd h9 zd zd).cell 0 rfl;have m3:w9.cell? (adr nv 1 p)=some (nth vs p):=by have:=m8.cell (i:=p) (j:=0) zo rfl;rwa[az]at this
  refine zh ?_;refine JY zk zk ?_
  refine zh ?_;refine zwH (aA b7.sl.sh G0 (Gx _) rfl rfl i rfl zo) ?_
  refine WS.nil ?_;refine zh ?_
  rw[s4];have n9:=fun m=>ph (p:=p) f4.reps (fun m hm=>n5 p m l6 hm) m
  refine zlp (fun y:Nat×(Nat->Nat)×World×List (Int×Int)×Value×ix=>[(1,nP db),(2,nP cb),(3,bv),(4,.map (some r)),(5,y.2.2.2.2.1),(6,nP ob),(7,nI (i:Nat)),(8,y.2.2.2.2.2),(38,nth vs p),(39,nI (37:Nat)),(40,nI y.1)]) (fun y=>y.2.2.1) (fun y=>y.1<=37/\Gu (fun q=>q=3\/q=4\/q=8) O9 w9 y.2.1 y.2.2.1/\ID w.heap.size y.2.1 y.2.2.1/\GX (fun k:Int=>nI k) (fun v:Int=>nI v) y.2.1 y.2.2.1 3 r y.2.2.2.1/\NumI cl y.2.2.2.1 (iJ cl (nxD rows) p F y.1).1/\GN aJ 3 1 y.2.1 y.2.2.1 4 y.2.2.2.2.1 (iJ cl (nxD rows) p F y.1).1/\GN aJ 3 1 y.2.1 y.2.2.1 8 y.2.2.2.2.2 (iJ cl (nxD rows) p F y.1).2) (fun y=>37-y.1) (0,O9,w9.drew,D,j0,nS) (⟨G7 _,aa zd O9 (GB w9).drew,m0.drew,⟨m4.blk,m4.tag,m4.born⟩,l5,b7.drew,GQ _ _ _ _ _ _⟩) ?_;rintro⟨j,O10,m5,D10,b6,rv⟩ ⟨hj,a9,b',b1,c5,a2,a0⟩;dsimp only at hj a9 b' b1 c5 a2 a0 ⊢;have l7:=n9 j hj;have n8:=l7.len;have n7:=l7.reps.len;have l1:=h8.trans (a9.mono (fun _ h=>zo) zd);refine zh ?_
  refine zC ?_ ?_
  ·intro k4;replace k4:j<37:=dT k4;have n6:=r7.upd k5 l1;obtain⟨to,n1⟩:∃to,to=nxD rows p j:=⟨_,rfl⟩
   have s6:to<rows.length:=by rw[n1];exact n5 p j l6 k4
   have k':=o6.upd h4 ((h9.trans (a9.mono (fun _ h=>zo) zd)));have k1:m5.cell? (adr (nth vs p) 1 j)=some (nI (to:Int)):=by have:=n6.cell (i:=j) (j:=0) zo rfl;rw[az]at this;rw[n1];exact this
   have k2:m5.cell? (adr bv 1 to)=some (nI ((cl to:Nat):Int)):=by have:=k'.cell (i:=to) (j:=0) zo rfl;rw[az]at this;rw[d'];exact this
   have l8:=c5 to;have e1:iJ cl (nxD rows) p F (j+1)=(fnF cl (iJ cl (nxD rows) p F j).1 to,(iJ cl (nxD rows) p F j).2++[fnI cl (iJ cl (nxD rows) p F j).1 to]):=by rw[n1];rfl
   refine zh ?_
   cases h6:uT cl (iJ cl (nxD rows) p F j).1 to with
   |some k=>
    rw[h6]at l8;have h1:fnF cl (iJ cl (nxD rows) p F j).1 to=(iJ cl (nxD rows) p F j).1:=by unfold fnF;rw[h6];rfl
    have h2:fnI cl (iJ cl (nxD rows) p F j).1 to=k:=by unfold fnI;rw[h6];rfl
    rw[h1,h2]at e1;refine zvH (cy (u:=.tuple #[nI (k:Int),.bool true]) b1 IL oy (Ig _) ((cl to:Nat):Int) rfl rfl rfl (by rw[l8];rfl)) ?_;refine zFH rfl rfl ?_;refine IE jj a0 b' ((k:Nat)) (fun _=>rfl) rfl rfl rfl (by simp[G6]) zo zo zo zd rfl rfl ?_;intro m6 wz Oz c8 b8 p4;refine zh ?_;refine zxd (j+1,Oz,wz,D10,b6,m6) (⟨k4,a9.trans (b8.mono (fun _ h=>zo) zd),p4,b1.upd b8 zd zd,by dsimp only;rw[e1];exact c5,by dsimp only;rw[e1];exact a2.upd b8 zd zd,by dsimp only;rw[e1];exact c8⟩)
   |none=>
    rw[h6]at l8;have h1:fnF cl (iJ cl (nxD rows) p F j).1 to=(iJ cl (nxD rows) p F j).1++[to]:=by unfold fnF;rw[h6];rfl
    have h2:fnI cl (iJ cl (nxD rows) p F j).1 to=(iJ cl (nxD rows) p F j).1.length:=by unfold fnI;rw[h6];rfl
    rw[h1,h2]at e1;have u5:=c5.add h6;refine zvH (cy (u:=.tuple #[nI 0,.bool false]) b1 IL oy (Ig _) ((cl to:Nat):Int) rfl rfl rfl (by rw[l8];rfl)) ?_;refine zTH rfl rfl ?_;refine zvH (bd a2.sl.sh G0 rfl) ?_;refine GM b1 IL oy zd ((cl to:Nat):Int) (((iJ cl (nxD rows) p F j).1.length:Nat):Int) rfl rfl rfl rfl rfl ?_;intro i5 p' a5;have i3:=b'.upd a5;have k0:=a2.upd a5 zd zd;have a8:=a0.upd a5 zd zd;refine zh ?_;refine IE jj k0 i3 ((to:Nat)) (fun _=>rfl) rfl rfl rfl (by simp[G6]) zo zo zo zd rfl rfl ?_;intro m7 d6 O12 a3 b3 i2;have f8:=a8.upd b3 zd zd;have i4:=p'.upd b3 zd zd;refine zh ?_;refine IE jj f8 i2 (((iJ cl (nxD rows) p F j).1.length:Nat)) (fun _=>rfl) rfl rfl rfl (by simp[G6]) zo zo zo zd rfl rfl ?_;intro m6 wz Oz c8 b8 p4;refine zh ?_;refine zxd (j+1,Oz,wz,bZ D10 ((cl to:Nat):Int) (((iJ cl (nxD rows) p F j).1.length:Nat):Int),m7,m6) (⟨k4,((a9.trans (a5.mono (fun _ h=>.inl h) zd)).trans (b3.mono (fun _ h=>.inr (.inl h)) zd)).trans (b8.mono (fun _ h=>.inr (.inr h)) zd),p4,i4.upd b8 zd zd,by dsimp only;rw[e1];exact u5,by dsimp only;rw[e1];exact a3.upd b8 zd zd,by dsimp only;rw[e1];exact c8⟩)
  intro t4;obtain rfl:j=37:=dF t4;generalize v3:iJ cl (nxD rows) p F 37=RQ at *;obtain⟨F2,r2⟩:=RQ;dsimp only at l7 n8 n7 c5 a2 a0 i9 p7;obtain⟨ra,rc,t0,_⟩:=a0.sl.shape;subst t0
  -- the row is nobody's now
  obtain⟨f,hf⟩:∃f:Nat->Nat,f=CC 8 0:=⟨_,rfl⟩
  have e5:∀t,t≠8->f t=t:=fun t ht=>by rw[hf];exact pD ht
  have f3:=(h9.trans (a9.mono (S':=fun q=>3<=q) (fun _ h=>zo) zd)).re f (e5 0 zd) (fun b _=>e5 _ (by have:=u4 b;omega));have l4:=b'.re f (e5 0 zd);have s9:=a0.sl;have q':=a0.freeRe zd b' f (by rw[hf];exact yF _ _);replace a2:=a2.re f (e5 4 zd);replace b1:=b1.re f (e5 3 zd);have e9:=(f'.upd a9 zd zd).re f (e5 5 zd);have b5:=(c7.upd a9 zd zd).re f (e5 0 zd) (e5 6 zd);have j5:=(d7.upd a9 zd zd).re f (e5 7 zd);have s':=a0.newV zd b';clear a0;generalize reF f O10=O11 at *;have k6:=d9.upd f3 zd zd;obtain⟨qF,r6⟩:=l7.pre;have n4:nth F2 i=p:=by rw[r6,ay,if_pos g5,hp]
  have hF2l:F.length<=F2.length:=by rw[r6];simp
  have o0:m5.cell? (nA ob 0)=some i7:=e9.cell 0 rfl;refine zh ?_;refine IE xI b5.row l4 ((.slice ra r2.length rc:ix)) (fun _=>rfl) rfl rfl rfl (by simp[G6]) zo zo zo zd rfl rfl ?_;intro b2 i5 O12 a8 a5 i3;have c':=e9.upd a5 zd zd
  have j8:RwO O12 i5 6 b2 (i6++[.slice ra r2.length rc]) (a7++[r2]):=⟨a8,by simp[n2],fun k hk=>by
   rw[ay,ay]
   by_cases e:k<a7.length
   ·rw[if_pos zo,if_pos e];exact⟨(b5.at_ k e).1.upd (b5.at_ k e).2 a5,(b5.at_ k e).2.upd a5⟩
   have t3:k=a7.length:=by simp at hk;omega
   subst t3;rw[if_neg zo,if_neg e,show a7.length-i6.length=0 from by omega,Iu,au,au]
   exact⟨s9.upd q' a5,q'.upd a5⟩⟩
  refine zh ?_;refine aj (j:=0) c' rfl (Ju _) a8.one rfl rfl rfl ?_
  have b3:Gu (fun j=>j=5) O12 i5 O12 (i5.setCell ⟨ob,0,none⟩ b2):=Ib zd c'.tag rfl;have e8:If O12 (i5.setCell ⟨ob,0,none⟩ b2) 5 ob #[b2,f5] 91:=c'.set 0 _;have j7:=j8.upd b3 zd zd;have i2:=i3.upd b3;generalize i5.setCell ⟨ob,0,none⟩ b2=d6 at *;have a6:=(a5.mono (S':=fun q=>q=5\/q=6) (fun _ h=>.inr h) zd).trans (b3.mono (fun _ h=>.inl h) zd);have j4:=j5.upd a6 zd zd;have a3:=a2.upd a6 zd zd;have i4:=b1.upd a6 zd zd;have d0:=k6.upd a6 zd zd;have d5:=f3.trans (a6.mono (fun _ h=>zo) zd);have j3:=i8.upd f6 (b4.trans (d5.mono (fun _ h=>zo) zd));refine zh ?_;have d1:d6.drew.cell? (nA db 1)=some tv:=d0.cell 1 rfl;have d2:d6.drew.cell? (adr b6 1 i)=some (nI (p:Int)):=by have:=a3.sl.cell (i:=i) (j:=0) zo rfl;rw[az,n4]at this;exact this
  have d3:d6.drew.cell? (adr tv 1 p)=some (.int .u64 ((nth a' p:Nat):Int)):=by have:=j3.cell (i:=p) (j:=0) zo rfl;rwa[az]at this
  have d4:d6.drew.cell? (nA ob 1)=some f5:=e8.cell 1 rfl;have o9:Gu (fun _=>False) O12 d6 O12 d6.drew:=aa (fun h=>h) O12 (GB d6).drew;refine aK (fun W=>W.cell? (nA db 1)=some tv/\W.cell? (adr b6 1 i)=some (nI (p:Int))/\W.cell? (adr tv 1 p)=some (.int .u64 ((nth a' p:Nat):Int))) 14 rfl zk ?_;refine zin ⟨d1,d2,d3⟩ fun zS=>?_
  refine zrf 0 rfl zS rfl ?_;refine zrf 2 rfl zS rfl ?_
  refine zt 3 rfl zS (fun w1 j1=>RV.ld j1.1 rfl) ?_;refine zrm 4 rfl zS rfl ?_
  refine zrm 5 rfl zS rfl ?_;refine zr 6 rfl zS (fun _=>aA a3.sl.sh G0 (Gx _) rfl rfl i rfl zo) ?_
  refine zt 7 rfl zS (fun w1 j1=>RV.ld j1.2.1 rfl) ?_;refine zr 8 rfl zS (fun _=>aA j3.sh JT (sizeOf24 _) rfl rfl p rfl zo) ?_
  refine zt 9 rfl zS (fun w1 j1=>RV.ld j1.2.2 rfl) ?_;refine bS 1 10 iE (enc:=ff) (nth a' p) rfl rfl zk zk zk zk (fun W hE=>J7 (hE.cell d4) (JU _) rfl) (fun W hE=>⟨hE.cell d1,hE.cell d2,hE.cell d3⟩) rfl rfl rfl zd rfl rfl rfl rfl rfl ?_
  intro s3 s2 j6 p8;have h7:Gu (fun _=>False) O12 d6 O12 s2:=o9.trans (aa (fun h=>h) O12 p8);refine Gn 11 zk rfl ?_;refine aC iE (j4.upd h7 zd (fun h=>h)) (i2.upd h7) j6 (by simp) rfl rfl (by simp) (by simp[G6]) (by rw[G8];omega) (by rw[G8];omega) zd rfl ?_;intro c6 e6 O15 e7 p2 p6;have a4:Gu (fun q=>q=7) O12 d6 O15 e6:=(h7.mono (fun _ h=>h.elim) zd).trans p2;have c9:=e8.upd a4 zd zd;have l2:=d5.trans (a4.mono (fun _ h=>zo) zd);have e1:e6.cell? (nA db 1)=some tv:=(d0.upd a4 zd zd).cell 1 rfl;have e2:e6.cell? (adr b6 1 i)=some (nI (p:Int)):=by have:=(a3.upd a4 zd zd).sl.cell (i:=i) (j:=0) zo rfl;rw[az,n4]at this;exact this
  have e3:e6.cell? (adr tv 1 p)=some (.int .u64 ((nth a' p:Nat):Int)):=by have:=(i8.upd f6 (b4.trans (l2.mono (fun _ h=>zo) zd))).cell (i:=p) (j:=0) zo rfl;rwa[az]at this
  refine zh ?_;refine af (⟨e1,e2,e3⟩) ?_
  refine zrf 12 rfl (⟨e1,e2,e3⟩) rfl ?_;refine Gn 13 zk rfl ?_
  refine aj (j:=1) c9 rfl (J3 _) e7.one rfl rfl rfl ?_;have h':Gu (fun j=>j=5) O15 e6 O15 (e6.setCell ⟨ob,1,none⟩ c6):=Ib zd c9.tag rfl;have k3:If O15 (e6.setCell ⟨ob,1,none⟩ c6) 5 ob #[b2,c6] 91:=c9.set 1 _;generalize e6.setCell ⟨ob,1,none⟩ c6=w16 at *;have a1:=(a4.mono (S':=fun q=>q=5\/q=7) (fun _ h=>.inr h) zd).trans (h'.mono (fun _ h=>.inl h) zd);have e':=d5.trans (a1.mono (fun _ h=>zo) zd);have g1:w16.cell? (nA db 1)=some tv:=(d0.upd a1 zd zd).cell 1 rfl;have g2:w16.cell? (adr b6 1 i)=some (nI (p:Int)):=by have:=(a3.upd a1 zd zd).sl.cell (i:=i) (j:=0) zo rfl;rw[az,n4]at this;exact this
  have g3:w16.cell? (adr tv 1 p)=some (.int .u64 ((nth a' p:Nat):Int)):=by have:=(i8.upd f6 (b4.trans (e'.mono (fun _ h=>zo) zd))).cell (i:=p) (j:=0) zo rfl;rwa[az]at this
  refine zh ?_;refine af (⟨g1,g2,g3⟩) ?_
  refine I6 zk ?_;refine zh ?_
  refine zxd (i+1,O15,w16,D10,F2,b6,b2,c6,i6++[.slice ra r2.length rc],a7++[r2],i'++[nth a' p]) (⟨e',p6.upd h',i4.upd a1 zd zd,c5,a3.upd a1 zd zd,k3,j7.upd a1 zd zd,e7.upd h' zd zd,p7,by dsimp only;rw[n'];exact i9,fun k hk=>?_⟩);dsimp only at hk ⊢;rw[ay]
  by_cases e:k<i6.length
  ·rw[if_pos e];exact g4 k zo
  rw[if_neg e,show k-i6.length=0 from by simp at hk;omega,au];exact s'
 intro t5;have t2:=f4.le;obtain rfl:i=F.length:=dF t5;have j9:cC cl rows a'=(a7,i'):=by
  rw[<-i9];obtain⟨fu,o3⟩:∃fu,rows.length+1-F.length=fu+1:=⟨rows.length-F.length,zo⟩
  rw[o3,eQ,if_neg zo]
 have o1:=c7.row.one;have o2:=d7.one;have g9:=g'.upd h9 zd zd;refine zh ?_;refine zv (ah (us:=[i7,f5]) f'.cellsAdd (Im _) (GL _) rfl) ?_;refine zsb (us:=#[i7,f5]) g9 (GL _) (by simp only[GS,o1,o2];rfl) ?_;have t6:=g9.setRow (us:=#[i7,f5]);have b8:Gu (fun j=>j=2) O9 w9 O9 (w9.setRow cb #[i7,f5]):=GE zd g9.tag rfl;have d8:=c7.upd b8 zd zd;have j2:=d7.upd b8 zd zd;refine zh ?_;refine aI rfl rfl (t6.cellsAdd) (Im _) (GL _) (⟨cl,i7,f5,rfl,o1,o2,((b4.trans (h9.mono (fun _ h=>zo) zd)).trans (b8.mono (fun _ h=>zo) zd)).ext,by rw[d'];exact t7,by rw[j9];exact⟨i6,d8.row.sl,d8.row.newV zd (m0.upd b8),d8.len,fun k hk=>⟨(d8.at_ k hk).1,g4 k hk⟩⟩,by rw[j9];exact j2.sl,j2.newV zd (m0.upd b8)⟩)
end Go.Proofs.YtpfpmhhigheccaaGreatDoor
end
