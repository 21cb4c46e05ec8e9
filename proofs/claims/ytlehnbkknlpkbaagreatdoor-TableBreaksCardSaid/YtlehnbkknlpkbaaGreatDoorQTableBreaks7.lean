/- Texts that the proof of this statement needs, merged and shortened. -/
import Derived.Test.YtlehnbkknlpkbaaGreatDoorQTableBreaks6
open Go.VL.RV renaming move->ix,assign->Ae,len->J8,neq->Jo,not->Jt,extract->Ju
open List renaming mem_cons->ka,pairwise_cons->vX,toArray_inj->I4
open Go.VL.WL renaming nil->la,off->J7
open Go.VL.WC renaming region->ln,seq->zR,skip->Ji,ret->Jn
open Go.Value.tuple renaming injEq->As
open Option.some renaming inj->CR
open Go.Value.int renaming injEq->DZ
open Go.Value.agg renaming injEq->Fu
open List.cons renaming injEq->Gv,inj->Jw
open Go.VL.Ext renaming refl->GT
open Array.mk renaming injEq->J0
open Go.Proofs.Tryz renaming underlying66->J1,sizeOf35->J2,sizeOf25->J3,underlying22->J5,isAgg25->J6,isAgg35->Jv,zeroValue35->Jy,call22->JB
open Go.Value renaming bool->J4
open Go renaming World->J9,Value->Jp
open Go.VL.Upd renaming setRow->Jq
open Go.VL.WH renaming one->Jr
open Go.VL.Ret renaming enter->Js
open Go.VL.Fit renaming i64->Jz
open Go.VL renaming Ext->JA
set_option maxRecDepth 10000
open Go.VL Go.Proofs Go.Proofs.Tryz
namespace Go.Proofs.YtlehnbkknlpkbaaGreatDoor
def Dw(x:Int):List Int->List Int
 |[]=>[x]
 |y::r=>if x<y then x::y::r else if x=y then y::r else y::Dw x r
def uE(l:List Int):List Int:=l.foldr Dw []
theorem rR(x z:Int):∀l:List Int,z∈Dw x l↔z=x\/z∈l
 |[]=>by simp[Dw]
 |y::r=>by
  unfold Dw
  split
  ·simp
  split
  ·rename_i h;subst h;simp
  rw[ka,rR x z r,ka]
  constructor
  ·rintro(h|h|h)
   ·exact .inr (.inl h)
   ·exact .inl h
   exact .inr (.inr h)
  rintro(h|h|h)
  ·exact .inr (.inl h)
  ·exact .inl h
  exact .inr (.inr h)
theorem BA(x:Int):∀l:List Int,l.Pairwise (· < ·)->(Dw x l).Pairwise (· < ·)
 |[],_=>by simp[Dw]
 |y::r,h=>by
  obtain⟨h1,h2⟩:=vX.1 h;unfold Dw
  split
  ·rename_i hxy;refine vX.2 ⟨fun z hz=>?_,h⟩
   rcases ka.1 hz with rfl|hz
   ·exact hxy
   have:=h1 z hz;omega
  split
  ·exact h
  refine vX.2 ⟨fun z hz=>?_,BA x r h2⟩
  rcases(rR x z r).1 hz with rfl|hz
  ·omega
  exact h1 z hz
theorem oJ(l:List Int):(∀x,x∈uE l↔x∈l)/\(uE l).Pairwise (· < ·):=by
 induction l with
 |nil=>exact⟨fun x=>Iff.rfl,.nil⟩
 |cons a l ih=>
  refine⟨fun x=>?_,BA a _ ih.2⟩;show x∈Dw a (uE l)↔_;rw[rR,ih.1,ka]
theorem D6:∀(a b:List Int),a.Pairwise (· < ·)->b.Pairwise (· < ·)->(∀x,x∈a↔x∈b)->a=b
 |[],[],_,_,_=>rfl
 |[],y::r,_,_,h=>absurd ((h y).2 (by simp)) (by simp)
 |x::a,[],_,_,h=>absurd ((h x).1 (by simp)) (by simp)
 |x::a,y::b,ha,hb,h=>by
  obtain⟨a1,a2⟩:=vX.1 ha;obtain⟨b1,b2⟩:=vX.1 hb;have a4:x=y:=by
   rcases ka.1 ((h x).1 (by simp))with e|e
   ·exact e
   rcases ka.1 ((h y).2 (by simp))with e'|e'
   ·exact e'.symm
   have:=a1 y e';have:=b1 x e;omega
  subst a4;congr 1;refine D6 a b a2 b2 fun z=>?_
  have hz:=h z;simp only[ka]at hz
  constructor
  ·intro a3
   rcases hz.1 (.inr a3)with e|e
   ·subst e;exact absurd (a1 z a3) zo
   exact e
  intro a0
  rcases hz.2 (.inr a0)with e|e
  ·subst e;exact absurd (b1 z a0) zo
  exact e
theorem DF(l:List Int):qC l=uE l:=D6 _ _ (yB l) (oJ l).2 fun x=>by rw[uC,(oJ l).1]
def GJ(se:Bool)(g:Gr)(s:List Int)(m:Int):List Int:=uE (GM se g s m)
theorem step_eq(se:Bool)(g:Gr):cM se g=GJ se g:=funext fun _=>funext fun _=>DF _
def stK(se:Bool)(ts:List Nd):Option (List (List Nat)×List Nat):=if dP ts=0 then DC (GJ se (jZ ts)) (dp (jZ ts))else none
theorem stM_eq(se:Bool)(ts:List Nd):stM se ts=stK se ts:=by unfold stM stK;rw[step_eq]
abbrev mE:List R3:=[(.mk 0 1 [],.mk 0 2 [],false)]
theorem uK:∃st,kD Fc=.ok st/\st.ts=mE/\st.li=[]/\st.lk=[]:=⟨⟨mE,[],[],false,false⟩,by kernel_rfl,rfl,rfl,rfl⟩
theorem xl:dE [] [] mE=true:=by decide +kernel
theorem Ce:(stM true (nZ mE)).isSome=true:=by rw[stM_eq];decide +kernel
theorem Cd:(stM false (fM mE)).isSome=true:=by rw[stM_eq];decide +kernel
theorem uL:jT [] [] [1,2,2] mE=[true,false,true,true]:=by decide +kernel
theorem PostC.made{B:Nat}{w:J9}{v:Jp}{li lk:List Int}{ts:List R3}(h:PostC B w v li lk ts):
  (∃e:Int,e≠0/\v=.tuple #[.agg pc,nI e]/\((e=1/\dE li lk ts=false)\/(e=7/\dE li lk ts=true/\(stM true (nZ ts)=none\/stM false (fM ts)=none))))\/
  ∃a b a1 a0 gv lc rc,Made li lk ts a b a1 a0/\v=.tuple #[.agg (dq (bW li lk ts a b a1 a0).ig (bW li lk ts a b a1 a0).kp (bW li lk ts a b a1 a0).br (bW li lk ts a b a1 a0).rules gv lc rc).toArray,nI 0]/\
   Ints w gv (bW li lk ts a b a1 a0).groups/\PartV w lc (bW li lk ts a b a1 a0).left (bW li lk ts a b a1 a0).lt/\PartV w rc (bW li lk ts a b a1 a0).right (bW li lk ts a b a1 a0).rt/\Gx B (gv::(lc++rc)):=by
 rcases h with⟨h0,rfl⟩|⟨h0,⟨a,b,a1,a0,u,h1,h2,h3,h4,h5,h6,rfl,hT,hN⟩|⟨h1,rfl⟩⟩
 ·exact .inl ⟨1,zd,rfl,.inl ⟨rfl,h0⟩⟩
 ·obtain⟨gv,lc,rc,rfl,k1,k2,k3⟩:=hT;have hn:=hN _ rfl;exact .inr ⟨a,b,a1,a0,gv,lc,rc,⟨h0,h1,h2,h3,h4,h5,h6⟩,rfl,k1,k2,k3,fun x hx=>hn x (by simp only[List.mem_append,ka,List.not_mem_nil,or_false]at hx ⊢;rcases hx with hx|hx|hx<;>simp[hx])⟩
 exact .inl ⟨7,zd,rfl,.inr ⟨rfl,h0,h1⟩⟩
theorem oO(w:J9)(hT:eF w):Ret prog 8 [] w fun v w'=>v=.bool true/\JA w w':=by
 have hg:=oM hT;obtain⟨st,e6,e4,e9,e7⟩:=uK;refine Js func8 ntmps8 rfl rfl ?_;refine zh ?_;refine zc call18 (pd Fc w zd) ?_;rintro v w1 ⟨a2,hP⟩;rw[e6]at hP;obtain⟨cs,e,rfl,hC⟩:=hP;rw[e4,e9,e7]at hC
 rcases hC.made with⟨e',h',hv,c6⟩|⟨a,b,d8,d7,gv,lc,rc,hM,hv,k1,k2,k3,hn⟩
 ·exfalso
  rcases c6 with⟨_,h1⟩|⟨_,_,h1|h1⟩
  ·rw[xl]at h1;cases h1
  ·have:=Ce;rw[h1]at this;cases this
  have:=Cd;rw[h1]at this;cases this
 have hi:=hM.inv;have c5:=hM.breaks [1,2,2] zd;have d4:(bW [] [] mE a b d8 d7).ig=0:=rfl;rw[uL]at c5;obtain⟨e3,g'⟩:=k2.one;obtain⟨e2,g9⟩:=k3.one;generalize bW [] [] mE a b d8 d7=t at *;have f3:cs=dq t.ig t.kp t.br t.rules gv lc rc/\e=0:=by
  simp only[As,J0,Gv,Fu,DZ,and_true,true_and]at hv;simpa using hv
 obtain⟨rfl,rfl⟩:=f3;have a1:(dq t.ig t.kp t.br t.rules gv lc rc).length=17:=by simp[e3,e2]
 have b9:(dq t.ig t.kp t.br t.rules gv lc rc).all Value.oneCell'=true:=by
  obtain⟨i5,e',h1,_,h3⟩:=hC.shape;simp only[As,J0,Gv,Fu,DZ,and_true,true_and]at h1;rw[h1.1];exact h3
 have d0:(aK t (ed t) [1]).wait=[]:=rfl;have c':(aK t (ed t) [1,2]).wait=[(2,false)]:=by
  have e:(aK t (ed t) [1,2]).wait=[(2,t.ig.testBit 2&&(false || !(t.kp.testBit 1)))]:=rfl;rw[e,d4];rfl
 have e1:(aK t (ed t) [1,2,2]).wait=[(2,false),(2,false)]:=by
  have e:(aK t (ed t) [1,2,2]).wait=[(2,t.ig.testBit 2&&(false || !(t.kp.testBit 1))),(2,t.ig.testBit 2&&((t.ig.testBit 2&&(false || !(t.kp.testBit 1))) || !(t.kp.testBit 2)))]:=rfl;rw[e,d4];rfl
 have f4:closeL t (aK t (ed t) [1,2,2]).wait (aK t (ed t) [1,2,2]).row=[false,true]:=by
  have e:oN t [1,2,2]=true::closeL t (aK t (ed t) [1,2,2]).wait (aK t (ed t) [1,2,2]).row++[true]:=rfl;rw[e,List.cons_append]at c5;have h2:=(Jw c5).2;have:closeL t (aK t (ed t) [1,2,2]).wait (aK t (ed t) [1,2,2]).row++[true]=[false,true]++[true]:=h2;exact List.append_cancel_right this
 have hz:¬(0=7):=zd;refine zh ?_;refine ax (au w1) 7 zo (Jy _) rfl ?_;intro tb w2 O2 a0 f8 i3 i4;refine bE (us:=(dq t.ig t.kp t.br t.rules gv lc rc).toArray) a0 (show(dq t.ig t.kp t.br t.rules gv lc rc).toArray.size=17 from by simpa using a1) (by rw[show(dq t.ig t.kp t.br t.rules gv lc rc).toArray.size=17 from by simpa using a1];exact J2 _) b9 rfl rfl rfl ?_;have b8:=a0.setRow (us:=(dq t.ig t.kp t.br t.rules gv lc rc).toArray);have a':=f8.trans (Jq (us:=(dq t.ig t.kp t.br t.rules gv lc rc).toArray) hz a0.tag rfl);generalize w2.setRow tb (dq t.ig t.kp t.br t.rules gv lc rc).toArray=w3 at *;have b0:=a'.ext;have g6:Rng w1.heap.size O2 w3:=(au w1).upd a';have i1:eF w3:=cH hT (a2.trans b0);have a8:G5<w1.heap.size:=Nat.lt_of_lt_of_le hg a2.size;refine zh ?_;refine zv (ai (us:=dq t.ig t.kp t.br t.rules gv lc rc) (by simpa using b8.cellsAdd) (Jv _) (by rw[a1];exact J2 _) rfl) ?_;refine zc call19 (jF w1.heap.size O2 w3 1 2 t gv lc rc (k1.ext b0) (k2.ext b0) (k3.ext b0) ((nz k1 k2 k3).upd a') zd zd zd zd hi.ok hi.right g6) ?_;rintro _ w4 ⟨O4,rb,rfl,h4,f7,g5⟩;have a3:¬(0=1\/0=2\/0=3\/0=4\/0=5\/0=6\/0=7\/0=1000):=zo;have a7:Upd (fun q=>q=1\/q=2\/q=3\/q=4\/q=5\/q=6\/q=7\/q=1000) (fun _=>0) w1 O4 w4:=(a'.mono (fun _ h=>zo) a3).trans (f7.mono (fun _ h=>zo) a3);have g1:eF w4:=cH hT (a2.trans a7.ext);have e5:=vq hi.ok;refine zh ?_
 refine zc JB (ib w1.heap.size O4 w4 1 2 3 rb t gv lc rc _ (ed t) h4 zd zd zd zd zd zd zd zd zd hi.ok e5 (by show 0+1<=_;decide) rfl g5 g1 a8 1 (aK t (ed t) [1]) rfl) ?_;rintro v5 w5 ⟨O5,e0,h5,d3,b7,f6,g4⟩;rw[iV t _ _ (by rw[d0];rfl)]at h5 d3 b7;have a6:=a7.trans (f6.mono (fun _ h=>zo) a3);have g0:eF w5:=cH hT (a2.trans a6.ext);refine zh ?_
 refine zc JB (ib w1.heap.size O5 w5 1 2 4 rb t gv lc rc e0 (aK t (ed t) [1]) h5 zd zd zd zd zd zd zd zd zd hi.ok d3 (by rw[d0];decide) rfl g4 g0 a8 2 (aK t (ed t) [1,2]) rfl) ?_;rintro v6 w6 ⟨O6,d',h6,d2,b5,d5,g3⟩;rw[iV t _ _ (by rw[c'];rfl)]at h6 d2 b5;have a5:=a6.trans (d5.mono (fun _ h=>zo) a3);have f':eF w6:=cH hT (a2.trans a5.ext);refine zh ?_
 refine zc JB (ib w1.heap.size O6 w6 1 2 5 rb t gv lc rc d' (aK t (ed t) [1,2]) h6 zd zd zd zd zd zd zd zd zd hi.ok d2 (by rw[c'];decide) rfl g3 f' a8 2 (aK t (ed t) [1,2,2]) rfl) ?_;rintro v7 w7 ⟨O7,d9,h7,d1,b3,c7,g2⟩;rw[iV t _ _ (by rw[e1];rfl)]at h7 d1 b3;have a4:=a5.trans (c7.mono (fun _ h=>zo) a3);have f9:eF w7:=cH hT (a2.trans a4.ext);refine zh ?_
 refine zc call25 (kY w1.heap.size O7 w7 1 2 6 rb t gv lc rc d9 (aK t (ed t) [1,2,2]) h7 zd zd zd zd zd zd zd zd zd hi.ok d1 rfl g2 f9 a8) ?_;rintro v8 w8 ⟨O8,g7,s8,h8,h9,h0,i0,b1,a9,i2⟩;have c8:=a4.trans (a9.mono (fun _ h=>zo) a3);have e8:closeL t (aK t (ed t) [1,2,2]).wait (aK t (ed t) [1,2,2]).row=[false,true]:=f4;replace b1:RowT cP 4 1 O8 w8 6 v8 [false,true]:=by rw[<-e8];exact b1
 dsimp only at b7 b5 b3;have b6:=((b7.upd d5 zd zd).upd c7 zd zd).upd a9 zd zd;have b4:=(b5.upd c7 zd zd).upd a9 zd zd;have b2:=b3.upd a9 zd zd;refine zh ?_;refine ay (d:=26) rfl (b':=true) (rfl) ?_;refine zh ?_;refine ay (d:=30) rfl (b':=true) (rfl) ?_;refine zh ?_;refine zvH (J8 b6.sl J1 rfl) ?_;refine zvH (J8 b4.sl J1 rfl) ?_;refine zvH (RV.add rfl rfl (Jz zd)) ?_;refine zvH (J8 b2.sl J1 rfl) ?_;refine zvH (RV.add rfl rfl (Jz zd)) ?_;refine ay (d:=41) rfl (b':=true) (rfl) ?_;refine zh ?_;refine gb J1 (sizeOf4 _) (zeroValue4 _) cP [false,true] rfl rfl rfl rfl zk (by simp) rfl ?_;intro bv w9 f5 d6;refine zh ?_;refine zc call23 (ot [false,true] [false,true] v8 bv w9 (b1.sl.ext d6) f5) ?_;rintro _ g8 ⟨rfl,c9⟩;refine zh ?_;refine ae rfl rfl (⟨rfl,((a2.trans c8.ext).trans d6).trans c9⟩)
theorem RulesO.tx{w:J9}{ig kp rv:Jp}{li lk:List Int}{ts:List R3}(h1:Sl encI 1 w ig li)(h2:Sl encI 1 w kp lk)(h:RulesO (fun _=>0) w rv ts):Tx w (sF ig kp rv) li lk ts:=by
 obtain⟨zs,h3,_,h4,h5⟩:=h;exact⟨ig,kp,rv,zs,rfl,h1,h2,h3,h4,h5⟩
theorem ny(li lk:List Int)(ts:List R3)(ids:List Int)(i:Int)(v dv:Jp)(w:J9)(h:Tx w v li lk ts)(hd:Ints w dv ids)(hT:eF w):
  Ret prog 6 [v, dv, nI i] w fun u w' => u = .bool true ∧ JA w w' := by
 obtain⟨ig, kp, ru, xs, rfl, h1, h2, h3, h4, h5⟩ := h
 have hz:¬(0 = 1) := by decide
 have hdl := hd.len_le
 refine Js func6 ntmps6 rfl rfl ?_
 refine zR ?_
 refine ln ?_
 refine aE (au w) 1 (by omega) rfl rfl ?_
 intro xb w1 O1 hx1 hU1 hR1 hE1
 have hTx:∀W, JA w W → Tx W (sF ig kp ru) li lk ts := fun W e => ⟨⟨ig, kp, ru, xs, rfl, h1.ext e, h2.ext e, h3.ext e, h4, fun i hi => (h5 i hi).ext e⟩⟩
 have ac:∀W, JA w1 W → ∀(j:Nat) (u:Jp), [ig, kp, ru][j]? = some u → W.cell? (nA xb j) = some u := fun W e j u hu => e.cell (hx1.cellsAdd j u hu)
 refine zv (Ae rfl) ?_
 refine la ?_
 refine az ?_
 refine zR ?_
 refine zR ?_
 refine ln ?_
 refine zv (ai (us := [ig, kp, ru]) (ac w1 (GT _)) (J6 _) (J3 _) rfl) ?_
 refine zc call7 (AK li lk ts (sF ig kp ru) w1 (hTx w1 hE1)) ?_
 rintro _ w2 ⟨g, rfl, hE2, hg⟩
 have hE12 := hE1.trans hE2
 refine zv (Jt rfl) ?_
 refine zv (ix rfl) ?_
 refine bK (fun w1 => _ = w1) (decide ((14:Int) < (ids.length:Int))) 3 (rfl) rfl rfl rfl rfl rfl ?_ ?_
 ·skip
  intro a1
  refine Cl rfl ?_
  refine zv (ix rfl) ?_
  refine Cl rfl ?_
  refine zv (J8 (by first | exact hd.ext hE12) J5 rfl) ?_
  refine Cl rfl ?_
  refine zv (RV.gtr rfl rfl) ?_
  refine la ?_
  refine Cy (tA := 13) 4 (rfl) rfl rfl rfl (fun v hv => (CR hv).symm.trans (congrArg J4 a1)) rfl
 rintro _ rfl
 refine zv (ix rfl) ?_
 refine bK (JA w2) (!true) 2 (GT w2) rfl rfl rfl rfl rfl ?_ ?_
 ·skip
  intro a2
  refine Cl rfl ?_
  refine zc call8 (oO w2 (cH hT hE12)) ?_
  rintro _ w3 ⟨rfl, hE3⟩
  refine Cl rfl ?_
  refine zv (Jt rfl) ?_
  refine la ?_
  refine Cy (tA := 18) 3 (hE3) rfl rfl rfl (fun v hv => (CR hv).symm.trans (congrArg J4 a2)) rfl
 intro w3 hE3
 have hE03 := hE12.trans hE3
 refine la ?_
 refine az ?_
 refine zC ?_ ?_
 ·intro hc
  refine zR ?_
  refine ln ?_
  refine zc call8 (oO w3 (cH hT hE03)) ?_
  rintro _ w4 ⟨rfl, hE4⟩
  refine zv (Ae rfl) ?_
  refine la ?_
  refine az ?_
  refine Jn ?_
  refine bT ?_
  refine ae rfl rfl (⟨rfl, hE03.trans hE4⟩)
 ·intro hc
  simp only[Bool.or_eq_false_iff, Bool.not_eq_false', decide_eq_false_iff_not]at hc
  obtain⟨⟨hg1, hc2⟩, _⟩ := hc
  obtain⟨hfew, h8⟩ := hg hg1
  have h14:ids.length ≤ 14 := by omega
  refine Ji ?_
  refine az ?_
  refine zR ?_
  refine ln ?_
  refine zv (ai (us := [ig, kp, ru]) (ac w3 (hE2.trans hE3)) (J6 _) (J3 _) rfl) ?_
  refine zc call10 (Fm li lk ts xs ig kp ru w3.heap.size (fun _ => 0) w3 (au w3) (h1.ext hE03) (h2.ext hE03) (h3.ext hE03) h4 (fun i hi => (h5 i hi).ext hE03) hfew) ?_
  rintro _ w4 ⟨rv, rfl, hrv, hE4⟩
  have hE04 := hE03.trans hE4
  refine zc call9 (oG li lk ts (sF ig kp rv) w4 (RulesO.tx (h1.ext hE04) (h2.ext hE04) hrv)) ?_
  rintro cv w5 ⟨hE5, hC⟩
  have hE05 := hE04.trans hE5
  obtain⟨cs, e, rfl, hcl, hc1⟩ := hC.shape
  refine zv (ix rfl) ?_
  refine zv (Ju rfl rfl) ?_
  refine zv (Ju rfl rfl) ?_
  refine ax (au w5) 1 (by omega) (Jy _) rfl ?_
  intro tb w6 O6 htb6 hU6 hR6 hE6
  refine bE (us := cs.toArray) htb6 (show cs.toArray.size = 17 from by simpa using hcl) (by rw[show cs.toArray.size = 17 from by simpa using hcl]; exact J2 _) (by simpa using hc1) rfl rfl rfl ?_
  have htb7 := htb6.setRow (us := cs.toArray)
  have hE57 := (hU6.trans (Jq (us := cs.toArray) hz htb6.tag rfl)).ext
  generalize w6.setRow tb cs.toArray = w7 at *
  have hE07 := hE05.trans hE57
  have tc:∀W, JA w7 W → ∀(j:Nat) (u:Jp), cs[j]? = some u → W.cell? (nA tb j) = some u := fun W e j u hu => e.cell (by
   have := htb7.cellsAdd j u
   simpa using this (by simpa using hu))
  have hE17:JA w1 w7 := ((((hE2.trans hE3).trans hE4).trans hE5).trans hE57)
  rcases hC.made with⟨e', he', hv, hbad⟩ | ⟨a, b, clA, clB, gv, lc, rc, hM, hv, k1, k2, k3, hn⟩
  ·have hee:e = e' := by simpa using(show(Value.tuple #[.agg cs.toArray, nI e]) = .tuple #[.agg pc, nI e']from hv) |> fun h => (by simp at h; exact h.2:e = e')
   subst hee
   refine zv (Ae rfl) ?_
   refine la ?_
   refine az ?_
   refine zR ?_
   refine zR ?_
   refine ln ?_
   refine zv (ix rfl) ?_
   refine zv (Jo rfl rfl) ?_
   refine la ?_
   refine az ?_
   refine aZ rfl ((by simpa using he')) ?_
   refine zR ?_
   refine ln ?_
   refine zv (ix rfl) ?_
   refine zv (RV.eql rfl rfl) ?_
   refine zv (ix rfl) ?_
   rcases hbad with⟨rfl, hr⟩ | ⟨rfl, _, _⟩
   ·skip
    refine ay (d := 33) rfl (b' := true) (rfl) ?_
    refine Cl rfl ?_
    refine zv (ai (us := [ig, kp, ru]) (ac w7 hE17) (J6 _) (J3 _) rfl) ?_
    refine Cl rfl ?_
    refine zc call11 (rm li lk ts (sF ig kp ru) w7 (hTx w7 hE07) hfew) ?_
    rintro _ w8 ⟨rfl, hE8⟩
    rw[hr]
    refine Cl rfl ?_
    refine zv (Jt rfl) ?_
    refine zv (aQ rfl rfl) ?_
    refine zv (ix rfl) ?_
    refine ay (d := 38) rfl (b' := true) (rfl) ?_
    refine J7 rfl rfl rfl ?_
    refine J7 rfl rfl rfl ?_
    refine zv (aQ rfl rfl) ?_
    refine zv (Ae rfl) ?_
    refine la ?_
    refine az ?_
    refine Jn ?_
    refine bT ?_
    refine ae rfl rfl (⟨rfl, hE07.trans hE8⟩)
   ·skip
    refine ay (d := 33) rfl (b' := false) (rfl) ?_
    refine J7 rfl rfl rfl ?_
    refine J7 rfl rfl rfl ?_
    refine J7 rfl rfl rfl ?_
    refine zv (aW rfl rfl) ?_
    refine zv (ix rfl) ?_
    refine Cl rfl ?_
    refine zv (ix rfl) ?_
    refine Cl rfl ?_
    refine zv (RV.eql rfl rfl) ?_
    refine zv (aW rfl rfl) ?_
    refine zv (Ae rfl) ?_
    refine la ?_
    refine az ?_
    refine Jn ?_
    refine bT ?_
    refine ae rfl rfl (⟨rfl, hE07⟩)
  ·have hi := hM.inv
   have hbr := hM.breaks ids (by omega)
   have hwh := hM.whichTab ids (by omega) i
   generalize bW li lk ts a b clA clB = t at *
   have hcs:cs = dq t.ig t.kp t.br t.rules gv lc rc ∧ e = 0 := by
    simp only[As, J0, Gv, Fu, DZ, and_true, true_and, ]at hv
    simpa using hv
   obtain⟨rfl, rfl⟩ := hcs
   refine zv (Ae rfl) ?_
   refine la ?_
   refine az ?_
   refine zR ?_
   refine zR ?_
   refine ln ?_
   refine zv (ix rfl) ?_
   refine zv (Jo rfl rfl) ?_
   refine la ?_
   refine az ?_
   refine aS rfl rfl ?_
   refine Ji ?_
   refine az ?_
   refine zR ?_
   refine ln ?_
   refine zv (ai (us := dq t.ig t.kp t.br t.rules gv lc rc) (tc w7 (GT _)) (Jv _) (by rw[hcl]; exact J2 _) rfl) ?_
   refine zv (ix rfl) ?_
   refine zv (ix rfl) ?_
   refine zc call26 (qN w7 t gv lc rc (k1.ext hE57) (k2.ext hE57) (k3.ext hE57) hi.ok hi.right (cH hT hE07) ids dv (hd.ext hE07) (by omega) i) ?_
   rintro _ w8 ⟨rfl, hE8⟩
   rw[hwh]
   have hE08 := hE07.trans hE8
   have hE18 := hE17.trans hE8
   refine zv (Ae rfl) ?_
   refine la ?_
   refine az ?_
   refine zR ?_
   refine zR ?_
   refine ln ?_
   refine zv (ix rfl) ?_
   refine zv (RV.leq rfl rfl) ?_
   refine zv (ix rfl) ?_
   refine bK (fun w1 => _ = w1) (decide ((ids.length:Int) ≤ i)) 4 (rfl) rfl rfl rfl rfl rfl ?_ ?_
   ·skip
    intro a3
    refine Cl rfl ?_
    refine zv (ix rfl) ?_
    refine Cl rfl ?_
    refine zv (ix rfl) ?_
    refine Cl rfl ?_
    refine zv (J8 (by first | exact hd.ext hE08) J5 rfl) ?_
    refine Cl rfl ?_
    refine zv (RV.geq rfl rfl) ?_
    refine la ?_
    refine Cy (tA := 48) 5 (rfl) rfl rfl rfl (fun v hv => (CR hv).symm.trans (congrArg J4 a3)) rfl
   rintro _ rfl
   refine la ?_
   refine az ?_
   refine iK (fun z:J9 => [(1, dv), (3, nP xb), (7, nP tb)]) (fun z:J9 => z) (fun z:J9 => JA w8 z) ?_ ?_
   ·intro hN
    refine zC ?_ ?_
    ·intro hc
     have hcc:i ≤ 0 ∨ (ids.length:Int) ≤ i := by simpa using hc
     rw[if_pos hcc]
     refine zR ?_
     refine ln ?_
     refine zv (ix rfl) ?_
     refine zv (Jo rfl rfl) ?_
     refine la ?_
     refine az ?_
     refine aS rfl rfl ?_
     refine Ji ?_
     exact eD (hN (w8) (GT w8)) ⟨rfl, rfl, rfl, trivial⟩ rfl
    ·intro hc
     have hcc:¬(i ≤ 0 ∨ (ids.length:Int) ≤ i) := by simpa using hc
     rw[if_neg hcc]
     obtain⟨n, rfl⟩:∃n:Nat, i = (n:Int) := ⟨i.toNat, by omega⟩
     have hn:n < ids.length := by omega
     have hnw:nth (mj li lk ids ts) n = bu li lk ids ts 0 n := rI _ hn
     have hwl:(mj li lk ids ts).length = ids.length := by simp[mj]
     rw[Int.toNat_natCast]
     refine zR ?_
     refine ln ?_
     refine zv (ix rfl) ?_
     refine zv (ai (us := [ig, kp, ru]) (ac w8 hE18) (J6 _) (J3 _) rfl) ?_
     refine zv (ix rfl) ?_
     refine zc call27 (mn li lk ts ids (sF ig kp ru) dv w8 (hTx w8 hE08) (hd.ext hE08) (by omega)) ?_
     rintro rw' w9 ⟨hrw, hE9, _⟩
     have e9:w9.cell? (adr rw' 1 n) = some (nI (bu li lk ids ts 0 n)) := by have := hrw.cell (i := n) (j := 0) (by omega) rfl; rw[ao, hnw]at this; exact this
     refine zv (ix rfl) ?_
     refine zv (ah hrw.sh J5 (sizeOf3 _) rfl rfl n rfl (by omega)) ?_
     refine zv (RV.ld e9 rfl) ?_
     refine zv (gH rfl rfl) ?_
     refine zv (Jo rfl rfl) ?_
     refine la ?_
     refine az ?_
     refine aS rfl ((by simp)) ?_
     refine Ji ?_
     exact eD (hN (w9) (hE9)) ⟨rfl, rfl, rfl, trivial⟩ rfl
   rintro w9 hE89
   refine az ?_
   have hE09 := hE08.trans hE89
   have hE19 := hE18.trans hE89
   have hE79 := hE8.trans hE89
   refine zR ?_
   refine aI (fun W => JA w9 W) 8 rfl (by kernel_rfl) ?_
   refine zin (GT w9).drew fun zS => ?_
   refine zt 0 rfl zS (fun w1 hw1 => ai (us := dq t.ig t.kp t.br t.rules gv lc rc) (tc w1 (hE79.trans hw1)) (Jv _) (by rw[hcl]; exact J2 _) rfl) ?_
   refine zrm 1 rfl zS rfl ?_
   refine zt 3 rfl zS (fun w1 hw1 => ai (us := [ig, kp, ru]) (ac w1 (hE19.trans hw1)) (J6 _) (J3 _) rfl) ?_
   refine zrm 4 rfl zS rfl ?_
   refine Jr 2 (by kernel_rfl) rfl ?_
   refine zc call28 (pN w9.drew t gv lc rc (k1.ext (hE57.trans hE79.drew)) (k2.ext (hE57.trans hE79.drew)) (k3.ext (hE57.trans hE79.drew)) hi.ok hi.right (cH hT hE09.drew) ids dv (hd.ext hE09.drew) (by omega)) ?_
   rintro bv w10 ⟨hb10, hE10⟩
   rw[hbr]at hb10
   have hE910:JA w9 w10 := (GT w9).drew.trans hE10
   refine la ?_
   refine af (hE910) ?_
   refine Jr 5 (by kernel_rfl) rfl ?_
   refine zc call20 (rk li lk ts ids (sF ig kp ru) dv w10 (hTx w10 (hE09.trans hE910)) (hd.ext (hE09.trans hE910)) (by omega)) ?_
   rintro bv2 w11 ⟨hb11, hE11, _⟩
   refine la ?_
   refine af (hE910.trans hE11) ?_
   refine Jr 6 (by kernel_rfl) rfl ?_
   refine zc call23 (ot (jT li lk ids ts) (jT li lk ids ts) bv bv2 w11 (hb10.ext hE11) hb11) ?_
   rintro _ w12 ⟨rfl, hE12'⟩
   refine la ?_
   refine af ((hE910.trans hE11).trans hE12') ?_
   refine zra 7 rfl ((hE910.trans hE11).trans hE12') rfl ?_
   refine WH.done (by kernel_rfl) ?_
   refine az ?_
   refine Jn ?_
   refine ae rfl rfl (⟨by rw[decide_eq_true rfl], (hE09.trans ((hE910.trans hE11).trans hE12'))⟩)
end Go.Proofs.YtlehnbkknlpkbaaGreatDoor
