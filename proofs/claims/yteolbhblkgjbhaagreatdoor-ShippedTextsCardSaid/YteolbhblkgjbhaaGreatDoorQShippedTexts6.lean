/- Texts that the proof of this statement needs, merged and shortened. -/
import Derived.Test.YteolbhblkgjbhaaGreatDoorQShippedTexts5
open Go.VL.Upd renaming trans->ix,setRow->L5,set->LY,refl->Mz
open Go.VL.RowT renaming upd->ln
open Go.VL.WH renaming one->L0,leaf->L2,done->Mb
open Nat renaming le_refl->L1,lt_succ_iff_lt_or_eq->M1,zero_le->Me,not_lt_zero->Mw
open Go.Proofs.Tryz renaming underlying9->L3,sizeOf96->L9,underlying107->LQ,zeroValue96->LV,sizeOf9->M6,sizeOf45->M7,underlying108->Ma,zeroValue9->Md,prog->Mf,isAgg96->Mg,underlying149->Mj,underlying104->Mk,zeroValue104->Mm,sizeOf3->Mn,zeroValue45->Mr,underlying4->Ms,call20->Mx,isAgg45->ME,call104->MF,sizeOf107->MI,sizeOf104->MJ,sizeOf56->MM,call68->MN
open Bool renaming and_eq_true->L4,and_eq_false_iff->M4,or_eq_false_iff->M5,eq_false_iff->M8,eq_false_or_eq_true->Mi,or_eq_true->Mv,and_true->MD
open Go.VL.RV renaming extract->L6,indexAddr->Mc,move->MK,len->MQ,eql->MR,assign->MU,build->MV
open Go renaming Value->L7,World->LP
open Go.VL.Ret renaming enter->L8
open Go.VL.BlkO renaming upd->LO
open Int renaming toNat_natCast->LU
open List renaming all_cons->LW,getElem?_eq_some_iff->Mh,mem_singleton->Ml,not_mem_nil->Mp,length_cons->Mq,nil_append->Mt,length_nil->Mu,mem_cons->MB,all_nil->MH
open Go.VL renaming Upd->LX,BlkO->M0,Ext->MC,Free->MP,Ret->MT,Rng->MX
open Option.some renaming inj->LZ
open Go.VL.Ext renaming refl->M9
open Go.VL.Rng renaming upd->Mo
open Go.Value renaming string->My
open Go.Proofs.YteolbhblkgjbhaaGreatDoor renaming RulesO->MA,Known->MO
open Go.Proofs.YteolbhblkgjbhaaGreatDoor.Nt renaming upd->MG
open Prod renaming ext->MS
open Go.VL.Fit renaming i64->MW
set_option maxRecDepth 10000
open Go.VL Go.Proofs Go.Proofs.Tryz
variable {m:Int}{w:LP}{l s:List UInt8}{b:Nat}{O:Nat->Nat}
namespace Go.Proofs.YteolbhblkgjbhaaGreatDoor
def stC(ig kp rv kv:L7)(st:St)(pl:Int):Array L7:=#[ig,kp,rv,kv,.bool st.hi,.bool st.hk,nI pl,nI 0]
abbrev stT:TypeId:=151
theorem KJ:cE Mf 185 #[(0,1),(1,3)]:=⟨_,underlying185,λw=>by kernel_rfl⟩
theorem Lz:cE Mf 98 #[(0,3),(3,3),(6,1)]:=⟨_,underlying98,λw=>by kernel_rfl⟩
theorem qi:Elem Mf 149 185 4 56:=⟨Mj,by kernel_rfl,zd⟩
theorem qh:Elem Mf 43 98 7 88:=⟨underlying43,by kernel_rfl,zd⟩
theorem uc(l:List UInt8)(a b:Nat)(b8:a<=b)(hb:b<=l.length)(hl:l.length<=4096)(kn:Kn)(b6:∀j,j<kn.length->nsz (nth kn j).2<=2000)(st:St)(i xb:Nat)(kv ig kp rv:L7)(pl:Int)(nd:Nd)(B:Nat)(O:Nat->Nat)(w:LP) 
  (c6:MX B O w) (hi:i≠0) (h:M0 O w i xb (stC ig kp rv kv st pl) stT) (b7:MO O w kv kn) (hM:tZ kn l a b=some nd) :
  MT Mf 106 [nP xb,.string (bs l),nI (a:Nat),nI (b:Nat)] w λv w'=>MC w w'/\nsz nd<=2000/\∃x,v=nv x/\Nt O w' nd x:=by
 obtain⟨T,d7,hT⟩:=c6.bound;have d6:i<T:=by rw[<-h.tag];exact hT xb
 have b1:∀b,¬T<=O b:=λb=>by have:=hT b;omega
 have a1:¬(λq:Nat=>T<=q) 0:=λe=>zo
 apply L8 func106 ntmps106 rfl rfl;refine zh ?_
 apply ar c6 (T+1) zo (LV _) rfl;intro yb w1 O1 a7 d2 d4 d8;have a6:LX (λq=>T<=q) O w O1 w1:=d2.mono (λ_ h=>by rw[h];omega) a1;refine zh ?_
 apply zc MN (iW l a b b8 hb w1 hl);rintro v w9 ⟨rfl,b5⟩;rw[b5];clear b5 w9;unfold tZ at hM;refine zh ?_
 by_cases hs:tw bq l a b=b
 ·rw[if_pos hs]at hM
  cases hM
  refine zTH rfl ((by rw[hs];simp)) ?_;apply zv (aF GE (LV _) rfl (by first|rfl|(simp only[LW,MH];rfl)) rfl rfl)
  apply zsa (us:=#[nI 9,nI 0,nS]) a7 (L9 _);have c9:=a7.setRow (us:=#[nI 9,nI 0,nS]);have d1:LX (λq=>q=T+1) O1 w1 O1 (w1.setRow yb #[nI 9,nI 0,nS]):=L5 zo a7.tag rfl;have a':=a6.trans (d1.mono (λ_ h=>by rw[h];omega) a1);refine zh ?_
  refine aL rfl rfl c9.cellsAdd (Mg _) (L9 _) ⟨az a' b1,zd,(9,0,nS),rfl,Nt.leaf _ _ _ _⟩
 rw[if_neg hs]at hM;have hP:=hM;have kE:∀O1 W,LX (λq=>T<=q) O w O1 W->W.cell? (nA xb 3)=some kv:=λO1 W u=>(az u b1).cell (h.cell 3 rfl)
 have hU:=a6.drew;have hR:=d4.drew;have c7:M0 O1 w1.drew (T+1) yb #[nI 0,nI 0,nS] 96:=a7.drew;refine zFH rfl ((by rw[beq_eq_false_iff_ne];omega)) ?_;apply aQ (λW=>W.cell? (nA xb 3)=some kv) 17 rfl zk;refine zin (kE _ _ hU) λzS=>?_
 apply zrm 0 rfl zS rfl;apply zrm 1 rfl zS rfl
 apply zrm 2 rfl zS rfl;apply zr 3 rfl zS (λ_=>cf L3 rfl rfl rfl a b rfl rfl b8 hb)
 apply zrm 4 rfl zS rfl;apply zr 5 rfl zS (λ_=>aq rfl)
 apply zrf 6 rfl zS rfl;apply zt 7 rfl zS (λw1 c'=>RV.ld c' rfl)
 refine iM (λz:Nat×N3×(Nat->Nat)×World=>[(8,nP yb),(9,.pointer (some ⟨z.1,0,none⟩)),(29,nv z.2.1),(30,nI 0),(31,nI 0)]) (λz=>z.2.2.2) (λz=>Nt z.2.2.1 z.2.2.2 nd z.2.1/\M0 z.2.2.1 z.2.2.2 T z.1 #[nI 0,nI 0,nS] 96/\M0 z.2.2.1 z.2.2.2 (T+1) yb #[nI 0,nI 0,nS] 96/\LX (λq=>T<=q) O w z.2.2.1 z.2.2.2/\MX B z.2.2.1 z.2.2.2/\nsz nd<=2000) #[true,true,true,true,true,true,true,true,true,true,true,true,true,true,false,false,false] 3 ?_ ?_
 ·intro hN;have fY:=c7;refine bB 8 13 zk rfl rfl ?_ ?_ 
  ·apply zc MF (ja kn b6 _ kv nd B _ _ hR (b7.upd hU) hP);rintro v wa ⟨b3,a3,x,rfl,fA⟩;have a0:=λO=>ae (S:=λ_=>False) (λh=>h) O b3
   have hU:=ix hU ((a0 _).mono (λ_ h=>h.elim) a1);have hR:=Mo hR (a0 _);have fY:=LO fY (a0 _) zo (λh=>h)
   try have fB:=LO fB (a0 _) zo (λh=>h)
   refine zh ?_;refine zaf (kE _ _ hU) λzS=>?_
   apply zrm 9 rfl zS rfl;apply zr 10 rfl zS (λ_=>L6 rfl rfl)
   apply zr 11 rfl zS (λ_=>L6 rfl rfl);apply zr 12 rfl zS (λ_=>L6 rfl rfl)
   apply L0 13 zk rfl;apply ar hR T zo (LV _) rfl
   intro nb wb Ob fB a2 b2 d5;have hU:=ix hU (a2.mono (λ_ h=>by rw[h];exact L1 _) a1);have hR:=b2;have fY:=LO fY a2 zo zo
   try have fA:=MG fA a2
   refine zh ?_;apply aa (kE _ _ hU)
   exact L2 (hN (nb,x,_,_) ⟨fA,fB,fY,hU,hR,a3⟩) zk ⟨rfl,rfl,rfl,rfl,rfl,trivial⟩ rfl
  apply ar hR T zo (LV _) rfl;intro nb wb Ob fB a2 b2 d5;have hU:=ix hU (a2.mono (λ_ h=>by rw[h];exact L1 _) a1);have hR:=b2;have fY:=LO fY a2 zo zo
  try have fA:=MG fA a2
  refine zh ?_;apply aa (kE _ _ hU)
  apply L0 8 zk rfl;apply zc MF (ja kn b6 _ kv nd B _ _ hR (b7.upd hU) hP)
  rintro v wa ⟨b3,a3,x,rfl,fA⟩;have a0:=λO=>ae (S:=λ_=>False) (λh=>h) O b3
  have hU:=ix hU ((a0 _).mono (λ_ h=>h.elim) a1);have hR:=Mo hR (a0 _);have fY:=LO fY (a0 _) zo (λh=>h)
  try have fB:=LO fB (a0 _) zo (λh=>h)
  refine zh ?_;refine zaf (kE _ _ hU) λzS=>?_
  apply zrm 9 rfl zS rfl;apply zr 10 rfl zS (λ_=>L6 rfl rfl)
  apply zr 11 rfl zS (λ_=>L6 rfl rfl);apply zr 12 rfl zS (λ_=>L6 rfl rfl)
  exact L2 (hN (nb,x,_,_) ⟨fA,fB,fY,hU,hR,a3⟩) zk ⟨rfl,rfl,rfl,rfl,rfl,trivial⟩ rfl
 rintro⟨nb,x,O7,w7⟩ ⟨fA,fB,fY,c5,d3,a3⟩;dsimp only at fA fB fY c5 d3 ⊢;have b4:=fA.one;apply L0 14 zk rfl;apply zsb (us:=#[nI x.1,nI x.2.1,x.2.2]) fB (L9 _) (bX b4);have d0:=fB.setRow (us:=#[nI x.1,nI x.2.1,x.2.2]);have b0:LX (λq=>q=T) O7 w7 O7 (w7.setRow nb #[nI x.1,nI x.2.1,x.2.2]):=L5 zo fB.tag rfl;have a8:=fY.upd b0 zo zo;have a5:=c5.trans (b0.mono (λ_ h=>by rw[h];exact L1 _) a1);have a9:=fA.upd b0;generalize w7.setRow nb #[nI x.1,nI x.2.1,x.2.2]=w8 at *;refine zh ?_;refine zaf (kE _ _ a5) λzS=>?_
 apply zra 15 rfl zS rfl;apply zra 16 rfl zS rfl
 apply Mb zk;refine zh ?_
 apply au (d:=34) rfl (b':=false) rfl;refine zh ?_
 refine zFH rfl rfl ?_;apply zv (ai (us:=aX x) d0.cellsAdd (Mg _) (L9 _) rfl)
 apply zsb (us:=#[nI x.1,nI x.2.1,x.2.2]) a8 (L9 _) (bX b4);have c8:=a8.setRow (us:=#[nI x.1,nI x.2.1,x.2.2]);have b9:LX (λq=>q=T+1) O7 w8 O7 (w8.setRow yb #[nI x.1,nI x.2.1,x.2.2]):=L5 zo a8.tag rfl;have a4:=a5.trans (b9.mono (λ_ h=>by rw[h];omega) a1);refine zh ?_
 refine aL rfl rfl c8.cellsAdd (Mg _) (L9 _) ⟨az a4 b1,a3,x,rfl,(a9.upd b9).low a4⟩
theorem FV{kn a0:Kn}{a:Nat}(h:Jd kn l a b=some a0):∃a1 e nm k nd,a1=tw bq l a b/\e=tw aj l a1 b/\nm=jt l a1 e/\k=tw bq l e b/\aj (nth l a1)=true/\a1<b/\lZ nm=none/\wordsG.contains nm=false/\(∀j,j<kn.length->((nth kn j).1==nm)=false)/\k<b/\nth l k=61/\Iy kn (jt l (k+1) b)=some nd/\a0=kn++[(nm,nd)]:=by
 unfold Jd at h
 split at h
 ·rename_i h1
  split at h
  ·cases h
  rename_i h2
  split at h
  ·rename_i h3;refine⟨tw bq l a b,tw aj l (tw bq l a b) b,jt l (tw bq l a b) (tw aj l (tw bq l a b) b),tw bq l (tw aj l (tw bq l a b) b) b,?_⟩
   cases hp:Iy kn (jt l (tw bq l (tw aj l (tw bq l a b) b) b+1) b)with
   |none=>rw[hp]at h;cases h
   |some nd=>
    rw[hp]at h;refine⟨nd,rfl,rfl,rfl,rfl,h1.1,h1.2,?_,?_,λj hj=>?_,h3.1,h3.2,rfl,(LZ h).symm⟩
    ·cases hq:lZ (jt l (tw bq l a b) (tw aj l (tw bq l a b) b))with
     |none=>rfl
     |some c=>exact absurd (.inl (by rw[hq];rfl)) h2
    ·exact M8.2 λe=>h2 (.inr (.inl e))
    refine M8.2 λe=>h2 (.inr (.inr (List.any_eq_true.2 ⟨nth kn j,?_,e⟩)))
    rw[aB hj];exact List.getElem_mem _
  cases h
 cases h
theorem D4{nm:List UInt8}(h:wordsG.contains nm=false):(nm==[108,101,116])=false/\(nm==[105,103,110,111,114,101])=false/\(nm==[107,101,101,112])=false/\(nm==[97,110,121])=false:=by
 unfold wordsG at h;simp only[List.contains_cons,M5]at h;exact⟨h.1,h.2.1,h.2.2.1,h.2.2.2.1⟩
def Vq(T:Nat)(q:Nat):Prop:=q=T+1\/q=T+2
theorem AR{kv:L7}{kn:Kn}{ms:List M3}(h:KnownM O w kv kn ms):∀u∈ms,∀c∈eR u,c.oneCell'=true:=λu hu c hc=>by
 obtain⟨j,hj,rfl⟩:=ck hu;have:=(h.2.2.2 j hj).2.one;simp only[eR,MB,Mp,or_false]at hc
 rcases hc with rfl|rfl|rfl|rfl
 ·rfl
 ·rfl
 ·rfl
 exact this
set_option maxHeartbeats 1000000 in
theorem FW(l:List UInt8)(a b:Nat)(g0:a<=b)(hb:b<=l.length)(hl:l.length<=4096)(kn b8:Kn)(e2:∀j,j<kn.length->nsz (nth kn j).2<=2000)(j0:kn.length<=5000)(st:St)(i xb:Nat)(kv ig kp rv:L7)(pl:Int)(B:Nat)(O:Nat->Nat)(w:LP)
  (g4:MX B O w) (hi:i≠0) (h:M0 O w i xb (stC ig kp rv kv st pl) stT) (d6:MO O w kv kn) (hM:Jd kn l a b=some b8) :
  MT Mf 70 [nP xb,.string (bs l),nI (a:Nat),nI (b:Nat)] w λ_ w'=>LX (λq=>q=i) O w O w'/\(∀j,j<b8.length->nsz (nth b8 j).2<=2000)/\b8.length<=kn.length+1/\∃kv' pl',M0 O w' i xb (stC ig kp rv kv' st pl') stT/\MO O w' kv' b8:=by
 obtain⟨a1,en,nm,k,nd,g1,f',h0,hk,h5,e7,c7,g7,g',h6,i7,hP,rfl⟩:=FV hM;clear hM;obtain⟨T,j3,hT⟩:=g4.bound;have j1:i<T:=by rw[<-h.tag];exact hT xb
 have b6:¬(λq:Nat=>T<=q) 0:=λe=>zo
 have b7:¬(λq:Nat=>q=i\/T<=q) 0:=λe=>by rcases e with e|e<;>omega
 have a4:¬Vq T 0:=λe=>by rcases e with e|e<;>omega
 have t1:=tQ (p:=bq) g0 hb;rw[<-g1]at t1;have t2:=tQ (p:=aj) t1.2 hb;have t3:=G1 (p:=aj) e7 hb h5;rw[<-f']at t2 t3;have t4:=tQ (p:=bq) t2.2 hb;rw[<-hk]at t4;obtain⟨n1,n2,n3,n4⟩:=D4 g7;apply L8 func70 ntmps70 rfl rfl;refine zh ?_;apply zc MN (iW l a b g0 hb w hl);rintro v w9 ⟨rfl,b2⟩;rw[b2,<-g1];clear b2 w9;refine zh ?_;apply zc call69 (rJ l a1 b t1.2 hb w hl);rintro v w9 ⟨rfl,b2⟩;rw[b2,<-f'];clear b2 w9;refine zh ?_;apply zv (cf L3 rfl rfl rfl a1 en rfl rfl t2.1 zo);rw[show(l.take en).drop a1=nm from h0.symm];refine zh ?_;apply ak (j:=6) h rfl (Mn _) rfl rfl rfl rfl;have h1:M0 O (w.setCell ⟨xb,6,none⟩ (nI (a1:Nat))) i xb (stC ig kp rv kv st (a1:Nat)) stT:=h.set 6 (nI (a1:Nat));have e9:LX (λq=>q=i) O w O (w.setCell ⟨xb,6,none⟩ (nI (a1:Nat))):=LY (λe=>hi e.symm) h.tag rfl;have i4:=g4.upd e9;have b0:=d6.upd e9;generalize w.setCell ⟨xb,6,none⟩ (nI (a1:Nat))=w1 at *;refine zh ?_;refine zFH rfl ((by rw[beq_eq_false_iff_ne];omega)) ?_;apply zc call103 (oE nm w1);rintro v w2 ⟨rfl,i6⟩;rw[show eN namesL nm = -1 from by unfold lZ at c7;unfold eN;rw[c7]];have d7:LX (λ_=>False) O w1 O w2:=ae (λh=>h) O i6;have h2:=h1.upd d7 hi (λh=>h);have i0:=e9.trans (d7.mono (λ_ h=>h.elim) (λe=>hi e.symm));have i3:=i4.upd d7;have e6:=b0.upd d7;obtain⟨ms,b4⟩:=id e6;have f9:=b4.2.2.1
 have i':=b4.1.len_le;have c3:w2.cell? (nA xb 3)=some kv:=h2.cell 3 rfl;refine zh ?_;apply au (d:=40) rfl (b':=false) rfl;refine zh ?_;refine zvH (bN rfl rfl) ?_;apply au (d:=44) rfl (b':=false) n1;refine zh ?_;refine zvH (bN rfl rfl) ?_;apply au (d:=48) rfl (b':=false) n2;refine zh ?_;refine zvH (bN rfl rfl) ?_;apply au (d:=52) rfl (b':=false) n3;refine zh ?_;refine zvH (bN rfl rfl) ?_;refine zFH rfl n4 ?_;apply zlp (λy:Nat=>[(0,nP xb),(1,.string (bs l)),(2,nI (a1:Nat)),(3,nI (b:Nat)),(8,nI (en:Nat)),(9,.string (bs nm)),(10,nI (y:Nat))]) (λy=>w2) (λy=>y<=ms.length) (λy=>ms.length-y) 0 (Me _);intro y hy;refine zh ?_;refine zvH (MQ (by first|exact b4.1) Mj rfl) ?_;refine zC ?_ ?_
 ·intro c';replace c':y<ms.length:=by have:=of_decide_eq_true c';omega
  have cn:w2.cell? ((adr kv 4 y).add 0)=some (.string (bs (nth kn y).1)):=by rw[(b4.2.2.2 y c').1];exact b4.1.cell c' rfl
  refine zh ?_;refine zvH (Mc (by first|exact b4.1) Mj (sizeOf185 _) rfl rfl _ rfl zo) ?_
  refine zvH (bN rfl rfl) ?_;refine zFH rfl ((g' y zo)) ?_
  refine zxd (y+1) c'
 intro j2;refine zh ?_;apply zc MN (iW l en b t2.2 hb w2 hl);rintro v w9 ⟨rfl,b2⟩;rw[b2,<-hk];clear b2 w9;refine zh ?_;apply au (d:=88) rfl (b':=false) ((by rw[beq_eq_false_iff_ne];omega));refine zh ?_;refine zvH (bW L3 rfl rfl _ rfl zo) ?_;apply aI rfl ((by rw[i7];rfl));have kE:∀O1 W,LX (λq=>T<=q) O w2 O1 W->W.cell? (nA xb 3)=some kv:=λO1 W u=>(h2.upd u hi zo).cell 3 rfl
 have hU:LX (λq=>T<=q) O w2 O w2.drew:=(Mz b6 O w2).drew;have hR:=i3.drew;have g6:=h2.drew;have h7:=e6;refine zh ?_;apply aQ (λW=>W.cell? (nA xb 3)=some kv) 18 rfl zk;refine zin (kE _ _ hU) λzS=>?_
 apply zrm 0 rfl zS rfl;apply zrm 1 rfl zS rfl
 apply zr 2 rfl zS (λ_=>RV.add rfl rfl (MW zo));apply zrm 3 rfl zS rfl
 apply zr 4 rfl zS (λ_=>cf L3 rfl rfl rfl (k+1) b rfl rfl h6 hb);apply zrm 5 rfl zS rfl
 apply zr 6 rfl zS (λ_=>aq rfl);apply zrf 7 rfl zS rfl
 apply zt 8 rfl zS (λw1 e1=>RV.ld e1 rfl);refine iM (λz:Nat×N3×(Nat->Nat)×World=>[(0,nP xb),(9,.string (bs nm)),(11,nI (k:Nat)),(12,.pointer (some ⟨z.1,0,none⟩)),(112,nv z.2.1),(113,nI 0),(114,nI 0)]) (λz=>z.2.2.2) (λz=>Nt z.2.2.1 z.2.2.2 nd z.2.1/\M0 z.2.2.1 z.2.2.2 T z.1 #[nI 0,nI 0,nS] 96/\M0 z.2.2.1 z.2.2.2 i xb (stC ig kp rv kv st (a1:Nat)) stT/\LX (λq=>T<=q) O w2 z.2.2.1 z.2.2.2/\MX B z.2.2.1 z.2.2.2/\nsz nd<=2000) #[true,true,true,true,true,true,true,true,true,true,true,true,true,true,true,false,false,false] 3 ?_ ?_
 ·intro hN;have fY:=g6;have d6:=e6;refine bB 9 14 zk rfl rfl ?_ ?_ 
  ·apply zc MF (ja kn e2 _ kv nd B _ _ hR (d6.upd hU) hP);rintro v wa ⟨f5,b9,x,rfl,fA⟩;have a3:=λO=>ae (S:=λ_=>False) (λh=>h) O f5
   have hU:=ix hU ((a3 _).mono (λ_ h=>h.elim) b6);have hR:=Mo hR (a3 _);have fY:=LO fY (a3 _) zo (λh=>h)
   try have fB:=LO fB (a3 _) zo (λh=>h)
   refine zh ?_;refine zaf (kE _ _ hU) λzS=>?_
   apply zrm 10 rfl zS rfl;apply zr 11 rfl zS (λ_=>L6 rfl rfl)
   apply zr 12 rfl zS (λ_=>L6 rfl rfl);apply zr 13 rfl zS (λ_=>L6 rfl rfl)
   apply L0 14 zk rfl;apply ar hR T zo (LV _) rfl
   intro nb wb Ob fB a0 a5 i5;have hU:=ix hU (a0.mono (λ_ h=>by rw[h];exact L1 _) b6);have hR:=a5;have fY:=LO fY a0 zo zo
   try have fA:=MG fA a0
   refine zh ?_;apply aa (kE _ _ hU)
   exact L2 (hN (nb,x,_,_) ⟨fA,fB,fY,hU,hR,b9⟩) zk ⟨rfl,rfl,rfl,rfl,rfl,rfl,rfl,trivial⟩ rfl
  apply ar hR T zo (LV _) rfl;intro nb wb Ob fB a0 a5 i5;have hU:=ix hU (a0.mono (λ_ h=>by rw[h];exact L1 _) b6);have hR:=a5;have fY:=LO fY a0 zo zo
  try have fA:=MG fA a0
  refine zh ?_;apply aa (kE _ _ hU)
  apply L0 9 zk rfl;apply zc MF (ja kn e2 _ kv nd B _ _ hR (d6.upd hU) hP)
  rintro v wa ⟨f5,b9,x,rfl,fA⟩;have a3:=λO=>ae (S:=λ_=>False) (λh=>h) O f5
  have hU:=ix hU ((a3 _).mono (λ_ h=>h.elim) b6);have hR:=Mo hR (a3 _);have fY:=LO fY (a3 _) zo (λh=>h)
  try have fB:=LO fB (a3 _) zo (λh=>h)
  refine zh ?_;refine zaf (kE _ _ hU) λzS=>?_
  apply zrm 10 rfl zS rfl;apply zr 11 rfl zS (λ_=>L6 rfl rfl)
  apply zr 12 rfl zS (λ_=>L6 rfl rfl);apply zr 13 rfl zS (λ_=>L6 rfl rfl)
  exact L2 (hN (nb,x,_,_) ⟨fA,fB,fY,hU,hR,b9⟩) zk ⟨rfl,rfl,rfl,rfl,rfl,rfl,rfl,trivial⟩ rfl
 rintro⟨nb,x,O7,w7⟩ ⟨fA,fB,fY,g2,g3,b9⟩;dsimp only at fA fB fY g2 g3 ⊢;have f8:=fA.one;apply L0 15 zk rfl;apply zsb (us:=#[nI x.1,nI x.2.1,x.2.2]) fB (L9 _) (bX f8);have h4:=fB.setRow (us:=#[nI x.1,nI x.2.1,x.2.2]);have d9:LX (λq=>q=T) O7 w7 O7 (w7.setRow nb #[nI x.1,nI x.2.1,x.2.2]):=L5 zo fB.tag rfl;have h8:=fY.upd d9 hi zo;have b5:=g2.trans (d9.mono (λ_ h=>by rw[h];exact L1 _) b6);have e4:=fA.upd d9;have i2:=g3.upd d9;generalize w7.setRow nb #[nI x.1,nI x.2.1,x.2.2]=w8 at *;refine zh ?_;refine zaf (kE _ _ b5) λzS=>?_
 apply zra 16 rfl zS rfl;apply zra 17 rfl zS rfl
 apply Mb zk;refine zh ?_
 apply ak (j:=6) h8 rfl (Mn _) rfl rfl rfl rfl;have h9:M0 O7 (w8.setCell ⟨xb,6,none⟩ (nI ((k:Int)+1+0))) i xb (stC ig kp rv kv st ((k:Int)+1+0)) stT:=h8.set 6 (nI ((k:Int)+1+0));have d3:LX (λq=>q=i) O7 w8 O7 (w8.setCell ⟨xb,6,none⟩ (nI ((k:Int)+1+0))):=LY (λe=>hi e.symm) h8.tag rfl;have h3:=h4.upd d3 zo zo;have e3:=e4.upd d3;have i1:=i2.upd d3;generalize w8.setCell ⟨xb,6,none⟩ (nI ((k:Int)+1+0))=w9 at *;refine zh ?_
 apply ak (j:=7) h9 rfl (Mn _) rfl rfl rfl rfl;have g5:M0 O7 (w9.setCell ⟨xb,7,none⟩ (nI 0)) i xb (stC ig kp rv kv st ((k:Int)+1+0)) stT:=h9.set 7 (nI 0);have a':LX (λq=>q=i) O7 w9 O7 (w9.setCell ⟨xb,7,none⟩ (nI 0)):=LY (λe=>hi e.symm) h9.tag rfl;have c9:=h3.upd a' zo zo;have c8:=e3.upd a';have f4:=i1.upd a';generalize w9.setCell ⟨xb,7,none⟩ (nI 0)=w10 at *;have h':LX (λq=>q=i\/T<=q) O w O7 w10:=(((i0.mono (λ_ h=>.inl h) b7).trans (b5.mono (λ_ h=>.inr h) b7)).trans (d3.mono (λ_ h=>.inl h) b7)).trans (a'.mono (λ_ h=>.inl h) b7);have a9:KnownM O7 w10 kv kn ms:=((b4.upd b5).upd d3).upd a';have b0:=AR a9;have b3:∀O1 W,LX (Vq T) O7 w10 O1 W->Sl eR 4 W kv ms:=λO1 W u=>(a9.upd u).1
 have d0:∀O1 W,LX (Vq T) O7 w10 O1 W->W.cell? (nA xb 3)=some kv:=λO1 W u=>(g5.upd u hi (λe=>by rcases e with e|e<;>omega)).cell 3 rfl
 have kE:∀O1 W,LX (Vq T) O7 w10 O1 W->∀(j:Nat) (u:L7),(aX x)[j]? = some u->W.cell? (nA nb j)=some u:=λO1 W u=>(c9.upd u zo (λe=>by rcases e with e|e<;>omega)).cellsAdd
 have hV:LX (Vq T) O7 w10 O7 w10.drew:=(Mz a4 O7 w10).drew;have hR:=f4.drew;refine zh ?_;apply aQ (λW=>∀(j:Nat) (u:L7),(aX x)[j]? = some u->W.cell? (nA nb j)=some u) 15 rfl zk;refine zin (kE _ _ hV) λzS=>?_
 apply zrm 0 rfl zS rfl;apply zrm 2 rfl zS rfl
 apply zr 3 rfl zS (λ_=>aq rfl);apply zrf 4 rfl zS rfl
 apply zrm 7 rfl zS rfl;apply zt 8 rfl zS (λw1 e1=>ai (us:=aX x) e1 (Mg _) (L9 _) rfl)
 apply zr 9 rfl zS (λ_=>MV (cells:=(eR ((nm,x):M3)).toArray) KJ (zeroValue185 _) rfl rfl);refine iM (λz:L7×L7×(Nat->Nat)×World=>[(126,nP xb),(132,z.1),(136,z.2.1)]) (λz=>z.2.2.2) (λz=>RowT eR 185 4 z.2.2.1 z.2.2.2 (T+1) z.1 ([]++ms)/\RowT eR 185 4 z.2.2.1 z.2.2.2 (T+2) z.2.1 [(nm,x)]/\LX (Vq T) O7 w10 z.2.2.1 z.2.2.2/\MX B z.2.2.1 z.2.2.2) #[true,true,true,true,true,true,true,true,true,true,true,false,false,false,false] 4 ?_ ?_
 ·intro hN;refine pH 1 5 10 zk rfl rfl rfl ?_ ?_ ?_ 
  ·apply cu qi eR hR (T+1) zo rfl;intro d5 wa Oa fA a3 b1;have hV:=ix hV (a3.mono (λ_ h=>.inl h) a4);have hR:=b1
   try have fC:=ln fC a3 zo zo
   refine zh ?_;apply aa (kE _ _ hV)
   refine bB 5 10 zk rfl rfl ?_ ?_ 
   ·refine zvH (RV.ld (d0 _ _ hV) rfl) ?_;apply aa (kE _ _ hV)
    refine bB 6 10 zk rfl rfl ?_ ?_ 
    ·apply aK qi fA hR (b3 _ _ hV) rfl rfl (λ_ _=>rfl) b0 (by simp;omega) (by simp;omega) zo rfl;intro pv wb Ob fB a0 a5;have hV:=ix hV (a0.mono (λ_ h=>.inl h) a4);have hR:=a5
     try have fC:=ln fC a0 zo zo
     refine zh ?_;apply aa (kE _ _ hV)
     apply L0 10 zk rfl;apply aM qi (enc:=eR) hR (T+2) zo ((nm,x):M3) rfl rfl rfl zd rfl
     intro cv wc Oc fC a2 a8;have hV:=ix hV (a2.mono (λ_ h=>.inr h) a4);have hR:=a8
     try have fA:=ln fA a2 zo zo
     try have fB:=ln fB a2 zo zo
     refine zh ?_;apply aa (kE _ _ hV)
     exact L2 (hN (pv,cv,_,_) ⟨fB,fC,hV,hR⟩) zk ⟨rfl,rfl,rfl,trivial⟩ rfl
    apply aM qi (enc:=eR) hR (T+2) zo ((nm,x):M3) rfl rfl rfl zd rfl;intro cv wc Oc fC a2 a8;have hV:=ix hV (a2.mono (λ_ h=>.inr h) a4);have hR:=a8
    try have fA:=ln fA a2 zo zo
    try have fB:=ln fB a2 zo zo
    refine zh ?_;apply aa (kE _ _ hV)
    apply L0 6 zk rfl;apply aK qi fA hR (b3 _ _ hV) rfl rfl (λ_ _=>rfl) b0 (by simp;omega) (by simp;omega) zo rfl
    intro pv wb Ob fB a0 a5;have hV:=ix hV (a0.mono (λ_ h=>.inl h) a4);have hR:=a5
    try have fC:=ln fC a0 zo zo
    refine zh ?_;apply aa (kE _ _ hV)
    exact L2 (hN (pv,cv,_,_) ⟨fB,fC,hV,hR⟩) zk ⟨rfl,rfl,rfl,trivial⟩ rfl
   apply aM qi (enc:=eR) hR (T+2) zo ((nm,x):M3) rfl rfl rfl zd rfl;intro cv wc Oc fC a2 a8;have hV:=ix hV (a2.mono (λ_ h=>.inr h) a4);have hR:=a8
   try have fA:=ln fA a2 zo zo
   try have fB:=ln fB a2 zo zo
   refine zh ?_;apply aa (kE _ _ hV)
   apply L0 5 zk rfl;refine zvH (RV.ld (d0 _ _ hV) rfl) ?_
   apply aa (kE _ _ hV);apply L0 6 zk rfl
   apply aK qi fA hR (b3 _ _ hV) rfl rfl (λ_ _=>rfl) b0 (by simp;omega) (by simp;omega) zo rfl;intro pv wb Ob fB a0 a5;have hV:=ix hV (a0.mono (λ_ h=>.inl h) a4);have hR:=a5
   try have fC:=ln fC a0 zo zo
   refine zh ?_;apply aa (kE _ _ hV)
   exact L2 (hN (pv,cv,_,_) ⟨fB,fC,hV,hR⟩) zk ⟨rfl,rfl,rfl,trivial⟩ rfl
  ·refine zvH (RV.ld (d0 _ _ hV) rfl) ?_;apply aa (kE _ _ hV)
   refine bB 1 10 zk rfl rfl ?_ ?_ 
   ·apply cu qi eR hR (T+1) zo rfl;intro d5 wa Oa fA a3 b1;have hV:=ix hV (a3.mono (λ_ h=>.inl h) a4);have hR:=b1
    try have fC:=ln fC a3 zo zo
    refine zh ?_;apply aa (kE _ _ hV)
    refine bB 6 10 zk rfl rfl ?_ ?_ 
    ·apply aK qi fA hR (b3 _ _ hV) rfl rfl (λ_ _=>rfl) b0 (by simp;omega) (by simp;omega) zo rfl;intro pv wb Ob fB a0 a5;have hV:=ix hV (a0.mono (λ_ h=>.inl h) a4);have hR:=a5
     try have fC:=ln fC a0 zo zo
     refine zh ?_;apply aa (kE _ _ hV)
     apply L0 10 zk rfl;apply aM qi (enc:=eR) hR (T+2) zo ((nm,x):M3) rfl rfl rfl zd rfl
     intro cv wc Oc fC a2 a8;have hV:=ix hV (a2.mono (λ_ h=>.inr h) a4);have hR:=a8
     try have fA:=ln fA a2 zo zo
     try have fB:=ln fB a2 zo zo
     refine zh ?_;apply aa (kE _ _ hV)
     exact L2 (hN (pv,cv,_,_) ⟨fB,fC,hV,hR⟩) zk ⟨rfl,rfl,rfl,trivial⟩ rfl
    apply aM qi (enc:=eR) hR (T+2) zo ((nm,x):M3) rfl rfl rfl zd rfl;intro cv wc Oc fC a2 a8;have hV:=ix hV (a2.mono (λ_ h=>.inr h) a4);have hR:=a8
    try have fA:=ln fA a2 zo zo
    try have fB:=ln fB a2 zo zo
    refine zh ?_;apply aa (kE _ _ hV)
    apply L0 6 zk rfl;apply aK qi fA hR (b3 _ _ hV) rfl rfl (λ_ _=>rfl) b0 (by simp;omega) (by simp;omega) zo rfl
    intro pv wb Ob fB a0 a5;have hV:=ix hV (a0.mono (λ_ h=>.inl h) a4);have hR:=a5
    try have fC:=ln fC a0 zo zo
    refine zh ?_;apply aa (kE _ _ hV)
    exact L2 (hN (pv,cv,_,_) ⟨fB,fC,hV,hR⟩) zk ⟨rfl,rfl,rfl,trivial⟩ rfl
   apply aM qi (enc:=eR) hR (T+2) zo ((nm,x):M3) rfl rfl rfl zd rfl;intro cv wc Oc fC a2 a8;have hV:=ix hV (a2.mono (λ_ h=>.inr h) a4);have hR:=a8
   try have fA:=ln fA a2 zo zo
   try have fB:=ln fB a2 zo zo
   refine zh ?_;apply aa (kE _ _ hV)
   apply L0 1 zk rfl;apply cu qi eR hR (T+1) zo rfl
   intro d5 wa Oa fA a3 b1;have hV:=ix hV (a3.mono (λ_ h=>.inl h) a4);have hR:=b1
   try have fC:=ln fC a3 zo zo
   refine zh ?_;apply aa (kE _ _ hV)
   apply L0 6 zk rfl;apply aK qi fA hR (b3 _ _ hV) rfl rfl (λ_ _=>rfl) b0 (by simp;omega) (by simp;omega) zo rfl
   intro pv wb Ob fB a0 a5;have hV:=ix hV (a0.mono (λ_ h=>.inl h) a4);have hR:=a5
   try have fC:=ln fC a0 zo zo
   refine zh ?_;apply aa (kE _ _ hV)
   exact L2 (hN (pv,cv,_,_) ⟨fB,fC,hV,hR⟩) zk ⟨rfl,rfl,rfl,trivial⟩ rfl
  apply aM qi (enc:=eR) hR (T+2) zo ((nm,x):M3) rfl rfl rfl zd rfl;intro cv wc Oc fC a2 a8;have hV:=ix hV (a2.mono (λ_ h=>.inr h) a4);have hR:=a8
  try have fA:=ln fA a2 zo zo
  try have fB:=ln fB a2 zo zo
  refine zh ?_;apply aa (kE _ _ hV)
  refine bB 1 5 zk rfl rfl ?_ ?_ 
  ·apply cu qi eR hR (T+1) zo rfl;intro d5 wa Oa fA a3 b1;have hV:=ix hV (a3.mono (λ_ h=>.inl h) a4);have hR:=b1
   try have fC:=ln fC a3 zo zo
   refine zh ?_;apply aa (kE _ _ hV)
   apply L0 5 zk rfl;refine zvH (RV.ld (d0 _ _ hV) rfl) ?_
   apply aa (kE _ _ hV);apply L0 6 zk rfl
   apply aK qi fA hR (b3 _ _ hV) rfl rfl (λ_ _=>rfl) b0 (by simp;omega) (by simp;omega) zo rfl;intro pv wb Ob fB a0 a5;have hV:=ix hV (a0.mono (λ_ h=>.inl h) a4);have hR:=a5
   try have fC:=ln fC a0 zo zo
   refine zh ?_;apply aa (kE _ _ hV)
   exact L2 (hN (pv,cv,_,_) ⟨fB,fC,hV,hR⟩) zk ⟨rfl,rfl,rfl,trivial⟩ rfl
  refine zvH (RV.ld (d0 _ _ hV) rfl) ?_;apply aa (kE _ _ hV)
  apply L0 1 zk rfl;apply cu qi eR hR (T+1) zo rfl
  intro d5 wa Oa fA a3 b1;have hV:=ix hV (a3.mono (λ_ h=>.inl h) a4);have hR:=b1
  try have fC:=ln fC a3 zo zo
  refine zh ?_;apply aa (kE _ _ hV)
  apply L0 6 zk rfl;apply aK qi fA hR (b3 _ _ hV) rfl rfl (λ_ _=>rfl) b0 (by simp;omega) (by simp;omega) zo rfl
  intro pv wb Ob fB a0 a5;have hV:=ix hV (a0.mono (λ_ h=>.inl h) a4);have hR:=a5
  try have fC:=ln fC a0 zo zo
  refine zh ?_;apply aa (kE _ _ hV)
  exact L2 (hN (pv,cv,_,_) ⟨fB,fC,hV,hR⟩) zk ⟨rfl,rfl,rfl,trivial⟩ rfl
 rintro⟨pv,cv,O11,i9⟩ ⟨f7,fC,d2,d4⟩;dsimp only at f7 fC d2 d4 ⊢;rw[Mt]at f7;have g9:∀u∈[((nm,x):M3)],∀c∈eR u,c.oneCell'=true:=λu hu c hc=>by
  rw[Ml.1 hu]at hc;simp only[eR,MB,Mp,or_false]at hc
  rcases hc with rfl|rfl|rfl|rfl
  ·rfl
  ·rfl
  ·rfl
  exact f8
 apply L0 11 zk rfl;apply aK qi f7 d4 fC.sl rfl rfl (λ_ _=>rfl) g9 (by simp;omega) (by simp;omega) zo rfl
 intro qv d' O12 c6 e8 f3;have a6:=d2.trans (e8.mono (λ_ h=>.inl h) a4);have f6:=g5.upd a6 hi (λe=>by rcases e with e|e<;>omega);have g8:=c6.one;refine zh ?_;refine zaf (kE _ _ a6) λzS=>?_
 apply zr 12 rfl zS (λ_=>aq rfl);apply zrf 13 rfl zS rfl
 apply L0 14 zk rfl;apply ak (j:=3) f6 rfl (sizeOf149 _) g8 rfl rfl rfl
 have i8:M0 O12 (d'.setCell ⟨xb,3,none⟩ qv) i xb (stC ig kp rv qv st ((k:Int)+1+0)) stT:=f6.set 3 qv;have a7:LX (λq=>q=i) O12 d' O12 (d'.setCell ⟨xb,3,none⟩ qv):=LY (λe=>hi e.symm) f6.tag rfl;have d1:=(a9.upd a6).upd a7;have c5:=c6.upd a7 zo zo;have e0:=(c8.upd a6).upd a7;have e':=f3.upd a7;have d8:=(h'.trans (a6.mono (λq h=>.inr (by rcases h with h|h<;>omega)) b7)).trans (a7.mono (λ_ h=>.inl h) b7);have e5:=(c9.upd a6 zo (λe=>by rcases e with e|e<;>omega)).upd a7 zo zo;refine zh ?_;apply aa e5.cellsAdd;apply Mb zk;refine aJ rfl ⟨d8.priv hT hi,λj hj=>?_,by simp,qv,_,i8.fgt h.tag,ms++[(nm,x)],c5.sl,c5.freeT zo (λb=>by have:=hT b;omega) e' d8,by simp[f9],λj hj=>?_⟩
 ·rw[ay]
  split
  ·rename_i e;exact e2 j e
  rename_i e;rw[show j-kn.length=0 from by simp at hj;omega,ao];exact b9
 rw[ay,ay,f9]
 split
 ·rename_i e;exact⟨(d1.2.2.2 j e).1,(d1.2.2.2 j e).2.low d8⟩
 rename_i e;rw[show j-ms.length=0 from by simp at hj;omega,ao,ao];exact⟨rfl,e0.low d8⟩
theorem Ca{kn:Kn}{ts a0:List R3}{a:Nat}(h:Ax kn ts l a b=some a0):ts.length≠40/\∃k x y,k=tw nn l a b/\k<b/\tZ kn l a k=some x/\tZ kn l (k+1) b=some y/\bp y=true/\dm y=0/\a0=ts++[(x,y,nth l k==47)]:=by
 unfold Ax at h
 split at h
 ·cases h
 rename_i h0;refine⟨h0,tw nn l a b,?_⟩
 split at h
 ·rename_i h1
  cases hx:tZ kn l a (tw nn l a b)with
  |none=>rw[hx]at h;cases h
  |some x=>
   cases hy:tZ kn l (tw nn l a b+1) b with
   |none=>rw[hx,hy]at h;cases h
   |some y=>
    rw[hx,hy]at h;dsimp only at h
    split at h
    ·rename_i h2;exact⟨x,y,rfl,h1,rfl,rfl,h2.1,h2.2,(LZ h).symm⟩
    cases h
 cases h
theorem Aw{ts:List R3}{zs:List X3}(h:∀i,i<zs.length->Rt O w (nth ts i) (nth zs i)):∀u∈zs,∀c∈bP u,c.oneCell'=true:=λu hu=>by
 obtain⟨j,hj,rfl⟩:=ck hu;exact bJ (h j hj).1.one (h j hj).2.1.one
set_option maxHeartbeats 1000000 in
theorem Cb(l:List UInt8)(a b:Nat)(j3:a<=b)(hb:b<=l.length)(hl:l.length<=4096)(kn:Kn)(f9:∀j,j<kn.length->nsz (nth kn j).2<=2000)(st:St)(c8:List R3)(i xb:Nat)(kv ig kp rv:L7)(pl:Int)(B:Nat)(O:Nat->Nat)(w:LP)
  (e4:MX B O w) (hi:i≠0) (h:M0 O w i xb (stC ig kp rv kv st pl) stT) (g2:MO O w kv kn) (i5:MA O w rv st.ts) (l4:st.ts.length<=40) (hM:Ax kn st.ts l a b=some c8) :
  MT Mf 72 [nP xb,.string (bs l),nI (a:Nat),nI (b:Nat)] w λ_ w'=>LX (λq=>q=i) O w O w'/\c8.length<=40/\∃rv' pl',M0 O w' i xb (stC ig kp rv' kv { st with ts:=c8 } pl') stT/\MA O w' rv' c8:=by
 obtain⟨k9,k,n1,n2,hk,j1,i4,i3,i6,i9,rfl⟩:=Ca hM;clear hM;obtain⟨T,l1,hT⟩:=e4.bound;have k':i<T:=by rw[<-h.tag];exact hT xb
 have l0:∀b,¬T<=O b:=λb=>by have:=hT b;omega
 have d5:¬(λq:Nat=>T<=q) 0:=λe=>zo
 have c':¬(λq:Nat=>q=i\/T<=q) 0:=λe=>by rcases e with e|e<;>omega
 have a4:¬Vq T 0:=λe=>by rcases e with e|e<;>omega
 obtain⟨zs,e7,d8,e8,g'⟩:=id i5;have h0:=e7.len_le;have c2:w.cell? (nA xb 2)=some rv:=h.cell 2 rfl;have l5:w.cell? ((nA xb 0).add 2)=some rv:=h.cell 2 rfl;apply L8 func72 ntmps72 rfl rfl;refine zh ?_;refine zFH rfl ((by rw[beq_eq_false_iff_ne];omega)) ?_;apply zlp (λy:Nat=>[(0,nP xb),(1,.string (bs l)),(2,nI (a:Nat)),(3,nI (b:Nat)),(8,nI (y:Nat))]) (λy=>w) (λy=>a<=y/\y<=b/\∀j,a<=j->j<y->nn (nth l j)=true) (λy=>b-y) a ⟨L1 _,j3,λj h1 h2=>zo⟩;rintro y ⟨f5,h',f4⟩;refine zh ?_;refine aT (λw1=>_=w1) ((((nth l y).toNat:Int) != 33)) 4 rfl rfl rfl rfl rfl rfl ?_ ?_
 ·intro a1;have l7:y<b:=dT a1;refine zh ?_;refine zvH (bW L3 rfl rfl _ rfl zo) ?_;refine nE 29 5 rfl a1
 rintro _ rfl;refine zh ?_;refine aT (λw1=>_=w1) ((((nth l y).toNat:Int) != 47)) 4 rfl rfl rfl rfl rfl rfl ?_ ?_
 ·intro a2;have l6:y<b:=by have:=of_decide_eq_true ((L4 _ _).mp a2).1;omega
  refine zh ?_;refine zvH (bW L3 rfl rfl _ rfl zo) ?_
  refine nE 35 5 rfl a2
 rintro _ rfl;have g9:(((nth l y).toNat:Int)==33)=(nth l y==33):=fE _ 33 zd;have d3:(((nth l y).toNat:Int)==47)=(nth l y==47):=fE _ 47 zd;rw[show((decide ((y:Int)<(b:Int))&&(((nth l y).toNat:Int) != 33))&&(((nth l y).toNat:Int) != 47))=(decide ((y:Int)<(b:Int))&&nn (nth l y))from by unfold nn bne;rw[g9,d3,Bool.and_assoc]];refine zh ?_;refine zC ?_ ?_
 ·intro hc;rw[L4]at hc;have h4:y<b:=by have:=of_decide_eq_true hc.1;omega
  refine zh ?_;refine zxd (y+1) ⟨zo,h4,λj h1 h2=>(M1.1 h2).elim (f4 j h1) (λe=>by rw[e];exact hc.2)⟩
 intro hc;have f8:y=b\/nn (nth l y)=false:=by
  rcases M4.1 hc with h|h
  ·exact .inl (by have:=of_decide_eq_false h;omega)
  exact .inr h
 obtain rfl:k=y:=by rw[hk,vZ f5 h' hb f4 f8]
 clear f8 hc g9 d3 hk;refine zh ?_;refine zFH rfl ((by rw[beq_eq_false_iff_ne];omega)) ?_;apply zc call106 (uc l a k f5 zo hl kn f9 st i xb kv ig kp rv pl n1 B O w e4 hi h g2 i4);rintro v w1 ⟨k4,k8,x,rfl,f7⟩;have g5:LX (λ_=>False) O w O w1:=ae (λh=>h) O k4;have f6:=f7.one;apply ar (e4.upd g5) (T+3) zo (LV _) rfl;intro lb w2 O2 d1 j8 k1 l3;apply zsb (us:=#[nI x.1,nI x.2.1,x.2.2]) d1 (L9 _) (bX f6);have j0:M0 O2 (w2.setRow lb #[nI x.1,nI x.2.1,x.2.2]) (T+3) lb #[nI x.1,nI x.2.1,x.2.2] 96:=d1.setRow;have g7:LX (λq=>q=T+3) O w1 O2 (w2.setRow lb #[nI x.1,nI x.2.1,x.2.2]):=j8.trans (L5 zo d1.tag rfl);have g8:=k1.upd (L5 (S:=λq=>q=T+3) (us:=#[nI x.1,nI x.2.1,x.2.2]) zo d1.tag rfl);generalize w2.setRow lb #[nI x.1,nI x.2.1,x.2.2]=w3 at *;have b5:LX (λq=>T<=q) O w O2 w3:=(g5.mono (λ_ h=>h.elim) d5).trans (g7.mono (λ_ h=>by rw[h];omega) d5);have h3:=h.upd b5 hi zo;have i2:=f7.upd g7;have j2:=g2.upd b5;refine zh ?_;apply zc call106 (uc l (k+1) b j1 hb hl kn f9 st i xb kv ig kp rv pl n2 B O2 w3 g8 hi h3 j2 i3);rintro v w4 ⟨k3,k7,y,rfl,f3⟩;have g4:LX (λ_=>False) O2 w3 O2 w4:=ae (λh=>h) O2 k3;have e9:=f3.one;apply ar (g8.upd g4) (T+4) zo (LV _) rfl;intro rb w5 O5 d0 j7 k0 l2;apply zsb (us:=#[nI y.1,nI y.2.1,y.2.2]) d0 (L9 _) (bX e9)
 have g0:M0 O5 (w5.setRow rb #[nI y.1,nI y.2.1,y.2.2]) (T+4) rb #[nI y.1,nI y.2.1,y.2.2] 96:=d0.setRow;have g6:LX (λq=>q=T+4) O2 w4 O5 (w5.setRow rb #[nI y.1,nI y.2.1,y.2.2]):=j7.trans (L5 zo d0.tag rfl);have j':=k0.upd (L5 (S:=λq=>q=T+4) (us:=#[nI y.1,nI y.2.1,y.2.2]) zo d0.tag rfl);generalize w5.setRow rb #[nI y.1,nI y.2.1,y.2.2]=w6 at *;have b1:LX (λq=>q=T+4) O2 w3 O5 w6:=(g4.mono (λ_ h=>h.elim) zo).trans g6;have b0:=b5.trans (b1.mono (λ_ h=>by rw[h];omega) d5);have h6:=h3.upd b1 hi zo;have i':=j0.upd b1 zo zo;have i1:=i2.upd b1;have e':=f3.upd g6;have c7:w6.cell? (nA xb 7)=some (nI 0):=h6.cell 7 rfl;refine zh ?_;refine zTH rfl rfl ?_;apply zv (ai (us:=aX y) g0.cellsAdd (Mg _) (L9 _) rfl);apply zc call107 (uy n2 y w6 e'.zero i6);rintro v w7 ⟨rfl,k2⟩;rw[i9];have g3:LX (λ_=>False) O5 w6 O5 w7:=ae (λh=>h) O5 k2;have h7:=h6.upd g3 hi (λh=>h);refine zh ?_;apply ak (j:=6) h7 rfl (Mn _) rfl rfl rfl rfl;have h8:M0 O5 (w7.setCell ⟨xb,6,none⟩ (nI ((k:Int)+1))) i xb (stC ig kp rv kv st ((k:Int)+1)) stT:=h7.set 6 (nI ((k:Int)+1));have j6:LX (λq=>q=i) O5 w7 O5 (w7.setCell ⟨xb,6,none⟩ (nI ((k:Int)+1))):=LY (λe=>hi e.symm) h7.tag rfl;generalize w7.setCell ⟨xb,6,none⟩ (nI ((k:Int)+1))=w8 at *;refine zh ?_;apply ak (j:=7) h8 rfl (Mn _) rfl rfl rfl rfl
 have h9:M0 O5 (w8.setCell ⟨xb,7,none⟩ (nI 0)) i xb (stC ig kp rv kv st ((k:Int)+1)) stT:=h8.set 7 (nI 0);have j5:LX (λq=>q=i) O5 w8 O5 (w8.setCell ⟨xb,7,none⟩ (nI 0)):=LY (λe=>hi e.symm) h8.tag rfl;generalize w8.setCell ⟨xb,7,none⟩ (nI 0)=w9 at *;have a5:LX (λq=>q=i) O5 w6 O5 w9:=((g3.mono (λ_ h=>h.elim) (λe=>hi e.symm)).trans j6).trans j5;have g1:=i'.upd a5 zo zo;have f':=g0.upd a5 zo zo;have i0:=i1.upd a5;have h5:=e'.upd a5;have j9:=j'.upd a5;have j4:LX (λq=>q=i\/T<=q) O w O5 w9:=(b0.mono (λ_ h=>.inr h) c').trans (a5.mono (λ_ h=>.inl h) c');have b7:∀j,j<zs.length->Rt O5 w9 (nth st.ts j) (nth zs j):=λj hj=>((g' j hj).upd b0).upd a5
 have d7:=(d8.upd b0).upd a5;have d6:=(e7.upd d8 b0).upd (d8.upd b0) a5;have b4:=Aw b7;have b3:∀O1 W,LX (Vq T) O5 w9 O1 W->Sl bP 7 W rv zs:=λO1 W u=>d6.upd d7 u
 have b':∀O1 W,LX (Vq T) O5 w9 O1 W->W.cell? ((nA xb 0).add 2)=some rv:=λO1 W u=>(h9.upd u hi (λe=>by rcases e with e|e<;>omega)).cell 2 rfl
 have kE:∀O1 W,LX (Vq T) O5 w9 O1 W->(∀(j:Nat) (u:L7),(aX x)[j]? = some u->W.cell? (nA lb j)=some u)/\∀(j:Nat) (u:L7),(aX y)[j]? = some u->W.cell? (nA rb j)=some u:=λO1 W u=>⟨(g1.upd u zo (λe=>by rcases e with e|e<;>omega)).cellsAdd,(f'.upd u zo (λe=>by rcases e with e|e<;>omega)).cellsAdd⟩
 have hV:LX (Vq T) O5 w9 O5 w9.drew:=(Mz a4 O5 w9).drew;have hR:=j9.drew;have d3:(((nth l k).toNat:Int)==47)=(nth l k==47):=fE _ 47 zd;refine zh ?_;apply aQ (λW=>(∀(j:Nat) (u:L7),(aX x)[j]? = some u->W.cell? (nA lb j)=some u)/\∀(j:Nat) (u:L7),(aX y)[j]? = some u->W.cell? (nA rb j)=some u) 21 rfl zk;refine zin (kE _ _ hV) λzS=>?_
 apply zrm 0 rfl zS rfl;apply zrm 2 rfl zS rfl
 apply zr 3 rfl zS (λ_=>aq rfl);apply zrf 4 rfl zS rfl
 apply zrf 5 rfl zS rfl;apply zt 8 rfl zS (λw1 d9=>ai (us:=aX x) d9.1 (Mg _) (L9 _) rfl)
 apply zt 9 rfl zS (λw1 d9=>ai (us:=aX y) d9.2 (Mg _) (L9 _) rfl);apply zrm 10 rfl zS rfl
 apply zrm 11 rfl zS rfl;apply zr 12 rfl zS (λ_=>bW L3 rfl rfl _ rfl zo)
 apply zr 13 rfl zS (λ_=>MR rfl rfl);rw[d3];apply zr 14 rfl (kE _ _ hV) (λ_=>MV (cells:=(bP ((x,y,(nth l k==47)):X3)).toArray) Lz (zeroValue98 _) rfl rfl)
 refine iM (λz:L7×L7×(Nat->Nat)×World=>[(79,nP xb),(86,z.1),(94,z.2.1)]) (λz=>z.2.2.2) (λz=>RowT bP 98 7 z.2.2.1 z.2.2.2 (T+1) z.1 ([]++zs)/\RowT bP 98 7 z.2.2.1 z.2.2.2 (T+2) z.2.1 [(x,y,(nth l k==47))]/\LX (Vq T) O5 w9 z.2.2.1 z.2.2.2/\MX B z.2.2.1 z.2.2.2) #[true,true,true,true,true,true,true,true,true,true,true,true,true,true,true,true,false,false,false,false,false] 5 ?_ ?_
 ·intro hN;refine pH 1 6 15 zk rfl rfl rfl ?_ ?_ ?_ 
  ·apply cu qh bP hR (T+1) zo rfl;intro c9 wa Oa fA a7 b2;have hV:=ix hV (a7.mono (λ_ h=>.inl h) a4);have hR:=b2
   try have fC:=ln fC a7 zo zo
   refine zh ?_;apply aa (kE _ _ hV)
   refine bB 6 15 zk rfl rfl ?_ ?_ 
   ·refine zvH (RV.ld (b' _ _ hV) rfl) ?_;apply aa (kE _ _ hV)
    refine bB 7 15 zk rfl rfl ?_ ?_ 
    ·apply aK qh fA hR (b3 _ _ hV) rfl rfl (λ_ _=>rfl) b4 (by simp;omega) (by simp;omega) zo rfl;intro pv wb Ob fB a3 a6;have hV:=ix hV (a3.mono (λ_ h=>.inl h) a4);have hR:=a6
     try have fC:=ln fC a3 zo zo
     refine zh ?_;apply aa (kE _ _ hV)
     apply L0 15 zk rfl;apply aM qh (enc:=bP) hR (T+2) zo ((x,y,(nth l k==47)):X3) rfl rfl rfl zd rfl
     intro cv wc Oc fC a0 a';have hV:=ix hV (a0.mono (λ_ h=>.inr h) a4);have hR:=a'
     try have fA:=ln fA a0 zo zo
     try have fB:=ln fB a0 zo zo
     refine zh ?_;apply aa (kE _ _ hV)
     exact L2 (hN (pv,cv,_,_) ⟨fB,fC,hV,hR⟩) zk ⟨rfl,rfl,rfl,trivial⟩ rfl
    apply aM qh (enc:=bP) hR (T+2) zo ((x,y,(nth l k==47)):X3) rfl rfl rfl zd rfl;intro cv wc Oc fC a0 a';have hV:=ix hV (a0.mono (λ_ h=>.inr h) a4);have hR:=a'
    try have fA:=ln fA a0 zo zo
    try have fB:=ln fB a0 zo zo
    refine zh ?_;apply aa (kE _ _ hV)
    apply L0 7 zk rfl;apply aK qh fA hR (b3 _ _ hV) rfl rfl (λ_ _=>rfl) b4 (by simp;omega) (by simp;omega) zo rfl
    intro pv wb Ob fB a3 a6;have hV:=ix hV (a3.mono (λ_ h=>.inl h) a4);have hR:=a6
    try have fC:=ln fC a3 zo zo
    refine zh ?_;apply aa (kE _ _ hV)
    exact L2 (hN (pv,cv,_,_) ⟨fB,fC,hV,hR⟩) zk ⟨rfl,rfl,rfl,trivial⟩ rfl
   apply aM qh (enc:=bP) hR (T+2) zo ((x,y,(nth l k==47)):X3) rfl rfl rfl zd rfl;intro cv wc Oc fC a0 a';have hV:=ix hV (a0.mono (λ_ h=>.inr h) a4);have hR:=a'
   try have fA:=ln fA a0 zo zo
   try have fB:=ln fB a0 zo zo
   refine zh ?_;apply aa (kE _ _ hV)
   apply L0 6 zk rfl;refine zvH (RV.ld (b' _ _ hV) rfl) ?_
   apply aa (kE _ _ hV);apply L0 7 zk rfl
   apply aK qh fA hR (b3 _ _ hV) rfl rfl (λ_ _=>rfl) b4 (by simp;omega) (by simp;omega) zo rfl;intro pv wb Ob fB a3 a6;have hV:=ix hV (a3.mono (λ_ h=>.inl h) a4);have hR:=a6
   try have fC:=ln fC a3 zo zo
   refine zh ?_;apply aa (kE _ _ hV)
   exact L2 (hN (pv,cv,_,_) ⟨fB,fC,hV,hR⟩) zk ⟨rfl,rfl,rfl,trivial⟩ rfl
  ·refine zvH (RV.ld (b' _ _ hV) rfl) ?_;apply aa (kE _ _ hV)
   refine bB 1 15 zk rfl rfl ?_ ?_ 
   ·apply cu qh bP hR (T+1) zo rfl;intro c9 wa Oa fA a7 b2;have hV:=ix hV (a7.mono (λ_ h=>.inl h) a4);have hR:=b2
    try have fC:=ln fC a7 zo zo
    refine zh ?_;apply aa (kE _ _ hV)
    refine bB 7 15 zk rfl rfl ?_ ?_ 
    ·apply aK qh fA hR (b3 _ _ hV) rfl rfl (λ_ _=>rfl) b4 (by simp;omega) (by simp;omega) zo rfl;intro pv wb Ob fB a3 a6;have hV:=ix hV (a3.mono (λ_ h=>.inl h) a4);have hR:=a6
     try have fC:=ln fC a3 zo zo
     refine zh ?_;apply aa (kE _ _ hV)
     apply L0 15 zk rfl;apply aM qh (enc:=bP) hR (T+2) zo ((x,y,(nth l k==47)):X3) rfl rfl rfl zd rfl
     intro cv wc Oc fC a0 a';have hV:=ix hV (a0.mono (λ_ h=>.inr h) a4);have hR:=a'
     try have fA:=ln fA a0 zo zo
     try have fB:=ln fB a0 zo zo
     refine zh ?_;apply aa (kE _ _ hV)
     exact L2 (hN (pv,cv,_,_) ⟨fB,fC,hV,hR⟩) zk ⟨rfl,rfl,rfl,trivial⟩ rfl
    apply aM qh (enc:=bP) hR (T+2) zo ((x,y,(nth l k==47)):X3) rfl rfl rfl zd rfl;intro cv wc Oc fC a0 a';have hV:=ix hV (a0.mono (λ_ h=>.inr h) a4);have hR:=a'
    try have fA:=ln fA a0 zo zo
    try have fB:=ln fB a0 zo zo
    refine zh ?_;apply aa (kE _ _ hV)
    apply L0 7 zk rfl;apply aK qh fA hR (b3 _ _ hV) rfl rfl (λ_ _=>rfl) b4 (by simp;omega) (by simp;omega) zo rfl
    intro pv wb Ob fB a3 a6;have hV:=ix hV (a3.mono (λ_ h=>.inl h) a4);have hR:=a6
    try have fC:=ln fC a3 zo zo
    refine zh ?_;apply aa (kE _ _ hV)
    exact L2 (hN (pv,cv,_,_) ⟨fB,fC,hV,hR⟩) zk ⟨rfl,rfl,rfl,trivial⟩ rfl
   apply aM qh (enc:=bP) hR (T+2) zo ((x,y,(nth l k==47)):X3) rfl rfl rfl zd rfl;intro cv wc Oc fC a0 a';have hV:=ix hV (a0.mono (λ_ h=>.inr h) a4);have hR:=a'
   try have fA:=ln fA a0 zo zo
   try have fB:=ln fB a0 zo zo
   refine zh ?_;apply aa (kE _ _ hV)
   apply L0 1 zk rfl;apply cu qh bP hR (T+1) zo rfl
   intro c9 wa Oa fA a7 b2;have hV:=ix hV (a7.mono (λ_ h=>.inl h) a4);have hR:=b2
   try have fC:=ln fC a7 zo zo
   refine zh ?_;apply aa (kE _ _ hV)
   apply L0 7 zk rfl;apply aK qh fA hR (b3 _ _ hV) rfl rfl (λ_ _=>rfl) b4 (by simp;omega) (by simp;omega) zo rfl
   intro pv wb Ob fB a3 a6;have hV:=ix hV (a3.mono (λ_ h=>.inl h) a4);have hR:=a6
   try have fC:=ln fC a3 zo zo
   refine zh ?_;apply aa (kE _ _ hV)
   exact L2 (hN (pv,cv,_,_) ⟨fB,fC,hV,hR⟩) zk ⟨rfl,rfl,rfl,trivial⟩ rfl
  apply aM qh (enc:=bP) hR (T+2) zo ((x,y,(nth l k==47)):X3) rfl rfl rfl zd rfl;intro cv wc Oc fC a0 a';have hV:=ix hV (a0.mono (λ_ h=>.inr h) a4);have hR:=a'
  try have fA:=ln fA a0 zo zo
  try have fB:=ln fB a0 zo zo
  refine zh ?_;apply aa (kE _ _ hV)
  refine bB 1 6 zk rfl rfl ?_ ?_ 
  ·apply cu qh bP hR (T+1) zo rfl;intro c9 wa Oa fA a7 b2;have hV:=ix hV (a7.mono (λ_ h=>.inl h) a4);have hR:=b2
   try have fC:=ln fC a7 zo zo
   refine zh ?_;apply aa (kE _ _ hV)
   apply L0 6 zk rfl;refine zvH (RV.ld (b' _ _ hV) rfl) ?_
   apply aa (kE _ _ hV);apply L0 7 zk rfl
   apply aK qh fA hR (b3 _ _ hV) rfl rfl (λ_ _=>rfl) b4 (by simp;omega) (by simp;omega) zo rfl;intro pv wb Ob fB a3 a6;have hV:=ix hV (a3.mono (λ_ h=>.inl h) a4);have hR:=a6
   try have fC:=ln fC a3 zo zo
   refine zh ?_;apply aa (kE _ _ hV)
   exact L2 (hN (pv,cv,_,_) ⟨fB,fC,hV,hR⟩) zk ⟨rfl,rfl,rfl,trivial⟩ rfl
  refine zvH (RV.ld (b' _ _ hV) rfl) ?_;apply aa (kE _ _ hV)
  apply L0 1 zk rfl;apply cu qh bP hR (T+1) zo rfl
  intro c9 wa Oa fA a7 b2;have hV:=ix hV (a7.mono (λ_ h=>.inl h) a4);have hR:=b2
  try have fC:=ln fC a7 zo zo
  refine zh ?_;apply aa (kE _ _ hV)
  apply L0 7 zk rfl;apply aK qh fA hR (b3 _ _ hV) rfl rfl (λ_ _=>rfl) b4 (by simp;omega) (by simp;omega) zo rfl
  intro pv wb Ob fB a3 a6;have hV:=ix hV (a3.mono (λ_ h=>.inl h) a4);have hR:=a6
  try have fC:=ln fC a3 zo zo
  refine zh ?_;apply aa (kE _ _ hV)
  exact L2 (hN (pv,cv,_,_) ⟨fB,fC,hV,hR⟩) zk ⟨rfl,rfl,rfl,trivial⟩ rfl
 rintro⟨pv,cv,O11,k6⟩ ⟨e6,fC,c5,c6⟩;dsimp only at e6 fC c5 c6 ⊢;rw[Mt]at e6;have i8:∀u∈[((x,y,(nth l k==47)):X3)],∀c∈bP u,c.oneCell'=true:=λu hu=>by
  rw[Ml.1 hu];exact bJ f6 e9
 apply L0 16 zk rfl;apply aK qh e6 c6 fC.sl rfl rfl (λ_ _=>rfl) i8 (by simp;omega) (by simp;omega) zo rfl
 intro qv d4 O12 b9 e1 e3;have a8:=c5.trans (e1.mono (λ_ h=>.inl h) a4);have e5:=h9.upd a8 hi (λe=>by rcases e with e|e<;>omega);have i7:=b9.one;refine zh ?_;refine zaf (kE _ _ a8) λzS=>?_
 apply zr 17 rfl zS (λ_=>aq rfl);apply zrf 18 rfl zS rfl
 apply zrf 19 rfl zS rfl;apply L0 20 zk rfl
 apply ak (j:=2) e5 rfl (sizeOf43 _) i7 rfl rfl rfl;have k5:M0 O12 (d4.setCell ⟨xb,2,none⟩ qv) i xb (stC ig kp qv kv { st with ts:=st.ts++[(n1,n2,nth l k==47)] } ((k:Int)+1)) stT:=e5.set 2 qv;have a9:LX (λq=>q=i) O12 d4 O12 (d4.setCell ⟨xb,2,none⟩ qv):=LY (λe=>hi e.symm) e5.tag rfl;have b8:=b9.upd a9 zo zo;have e2:=e3.upd a9;have d2:=fun {t:Nd} {x:N3} (h:Nt O5 w9 t x)=>(h.upd a8).upd a9
 have b6:=(j4.trans (a8.mono (λq h=>.inr (by rcases h with h|h<;>omega)) c')).trans (a9.mono (λ_ h=>.inl h) c');have e0:=(g1.upd a8 zo (λe=>by rcases e with e|e<;>omega)).upd a9 zo zo;have d':=(f'.upd a8 zo (λe=>by rcases e with e|e<;>omega)).upd a9 zo zo;refine zh ?_;apply aa ⟨e0.cellsAdd,d'.cellsAdd⟩;apply Mb zk;refine aJ rfl ⟨b6.priv hT hi,by simp;omega,qv,_,k5.fgt h.tag,zs++[(x,y,(nth l k==47))],b8.sl,b8.freeT zo (λb=>by have:=hT b;omega) e2 b6,by simp[e8],λj hj=>?_⟩;rw[ay,ay,e8]
 split
 ·rename_i e;have:=b7 j e;exact⟨(d2 this.1).low b6,(d2 this.2.1).low b6,this.2.2⟩
 rename_i e;rw[show j-zs.length=0 from by simp at hj;omega,ao,ao];exact⟨(d2 i0).low b6,(d2 h5).low b6,rfl⟩
theorem KK:cE Mf 151 #[(0,3),(3,1),(4,1),(5,1),(6,1),(7,1)]:=⟨_,underlying151,λw=>by kernel_rfl⟩
structure LpG(B:Nat)(O0:Nat->Nat)(w0:LP)(T rb xb:Nat)(l:List UInt8)(n:Nat)(kn:Kn)(st:St)(kv ig kp rv:L7)(pl:Int)(O:Nat->Nat)(w:LP):Prop where
 res:M0 O w T rb #[nS,nS,nS] 45
 blk:M0 O w (T+1) xb (stC ig kp rv kv st pl) stT
 known:MO O w kv kn
 sm:∀j,j<kn.length->nsz (nth kn j).2<=2000
 few:kn.length+n<=l.length+2
 ig:Sl encI 1 w ig st.li/\MP O w ig
 kp:Sl encI 1 w kp st.lk/\MP O w kp
 ru:MA O w rv st.ts
 h40:st.ts.length<=40
 upd:LX (λq=>T<=q) O0 w0 O w
 rng:MX B O w
theorem cx{O':Nat->Nat}{w':LP}{S:Nat->Prop}{v:L7}{l:List Int}(h:Sl encI 1 w v l/\MP O w v)(u:LX S O w O' w'):Sl encI 1 w' v l/\MP O' w' v:=⟨h.1.upd h.2 u,h.2.upd u⟩
theorem JE(O:Nat->Nat)(w:LP):Sl encI 1 w nS ([]:List Int)/\MP O w (nS):=⟨⟨⟨none,0,rfl,L1 _,zd,λh=>absurd rfl h⟩,λi hi=>absurd hi (by simp)⟩,λa n c e=>by cases e⟩
set_option maxHeartbeats 1000000 in
theorem AF(l:List UInt8)(a6:St)(a':AN l=some a6)(B:Nat)(O0:Nat->Nat)(w:LP)(f8:MX B O0 w):
  MT Mf 35 [.string (bs l)] w λv w'=>MC w w'/\∃ig kp rv,v=.tuple #[Am ig kp rv,nI 0,nI 0]/\(Sl encI 1 w' ig a6.li/\MP O0 w' ig)/\(Sl encI 1 w' kp a6.lk/\MP O0 w' kp)/\MA O0 w' rv a6.ts:=by
 have hl:l.length<=4096:=Nat.not_lt.1 λh=>by unfold AN at a';rw[if_pos h]at a';cases a'
 replace a':jC l (l.length+2) [] st0 0=some a6:=by unfold AN at a';rwa[if_neg zo]at a'
 obtain⟨T,a2,hT⟩:=f8.bound;have g4:∀b,¬T<=O0 b:=λb=>by have:=hT b;omega
 have b2:¬(λq:Nat=>T<=q) 0:=λe=>zo
 apply L8 func35 ntmps35 rfl rfl;refine zh ?_
 apply ar f8 T zo (Mr _) rfl;intro rb w1 O1 e8 f5 f7 g6;refine zh ?_
 refine zvH (bO L3 rfl) ?_;refine zFH rfl ((decide_eq_false zo)) ?_
 apply zv (aF KK (zeroValue151 _) rfl (by first|rfl|(simp only[LW,MH];rfl)) rfl rfl);apply aN f7 (T+1) zo rfl rfl
 intro xb w2 O2 e7 e4 f6 g5;have c8:LX (λq=>T<=q) O0 w O2 w2:=(f5.mono (λ_ h=>by rw[h];exact L1 _) b2).trans (e4.mono (λ_ h=>by rw[h];omega) b2);have f9:LpG B O0 w T rb xb l (l.length+2) [] st0 nS nS nS nS 0 O2 w2:=⟨e8.upd e4 zo zo,e7,Known.nil O2 w2,λj hj=>absurd hj (Mw j),by simp,JE O2 w2,JE O2 w2,⟨[],⟨⟨none,0,rfl,L1 _,zd,λh=>absurd rfl h⟩,λi hi=>absurd hi (by simp)⟩,(λa n c e=>by cases e),rfl,λi hi=>absurd hi (Mw i)⟩,zd,c8,f6⟩
 clear e8 f5 f7 g6 e7 e4 f6 g5 c8;refine zh ?_;apply zlp (λy:Nat×Nat×Kn×St×L7×L7×L7×L7×Int×LP=>[(0,.string (bs l)),(2,nP rb),(5,nP xb),(6,nI (y.2.1:Nat))]) (λy=>y.2.2.2.2.2.2.2.2.2) (λy=>y.2.1<=l.length+1/\jC l y.1 y.2.2.1 y.2.2.2.1 y.2.1=some a6/\LpG B O0 w T rb xb l y.1 y.2.2.1 y.2.2.2.1 y.2.2.2.2.1 y.2.2.2.2.2.1 y.2.2.2.2.2.2.1 y.2.2.2.2.2.2.2.1 y.2.2.2.2.2.2.2.2.1 O2 y.2.2.2.2.2.2.2.2.2) (λy=>y.1) (l.length+2,0,[],st0,nS,nS,nS,nS,0,w2) ⟨Me _,a',f9⟩;clear a' f9 w1 O1 w2;rintro⟨n,f,kn,st,kv,ig,kp,rv,pl,w1⟩ ⟨hf,hM,hL⟩;dsimp only at hf hM hL ⊢
 obtain⟨n,rfl⟩:∃m,n=m+1:=⟨n-1,by
  cases n with
  |zero=>cases hM
  |succ n=>rfl⟩
 have c7:w1.cell? (nA xb 7)=some (nI 0):=hL.blk.cell 7 rfl;unfold jC at hM;refine zh ?_;refine zvH (bO L3 rfl) ?_;refine aT (λw1=>_=w1) true 5 rfl rfl rfl rfl rfl rfl ?_ ?_
 ·intro a0;refine zh ?_;refine nE 21 6 rfl a0
 rintro _ rfl;refine zh ?_;refine zC ?_ ?_
 ·intro hc;rw[MD]at hc;have d9:f<=l.length:=dT hc;rw[if_neg zo]at hM;refine zh ?_;apply zlp (λk:Nat=>[(0,.string (bs l)),(2,nP rb),(5,nP xb),(6,nI (f:Nat)),(7,nI (k:Nat))]) (λk=>w1) (λk=>f<=k/\k<=l.length/\∀j,f<=j->j<k->pV (nth l j)=true) (λk=>l.length-k) f ⟨L1 _,d9,λj h1 h2=>zo⟩;rintro k ⟨e',e9,d7⟩;refine zh ?_;refine zvH (bO L3 rfl) ?_;refine aT (λw1=>_=w1) ((((nth l k).toNat:Int) != 10)) 4 rfl rfl rfl rfl rfl rfl ?_ ?_
  ·intro a1;have g7:k<l.length:=dT a1;refine zh ?_;refine zvH (bW L3 rfl rfl _ rfl zo) ?_;refine nE 33 5 rfl a1
  rintro _ rfl;rw[show(((nth l k).toNat:Int) != 10)=pV (nth l k)from by unfold pV bne;rw[show(((nth l k).toNat:Int)==10)=(nth l k==10)from fE _ 10 zd]];refine zh ?_;refine zC ?_ ?_
  ·intro hc;rw[L4]at hc;have d6:k<l.length:=by have:=of_decide_eq_true hc.1;omega
   refine zh ?_;refine zxd (k+1) ⟨zo,d6,λj h1 h2=>(M1.1 h2).elim (d7 j h1) (λe=>by rw[e];exact hc.2)⟩
  intro f4;have b9:k=l.length\/pV (nth l k)=false:=by
   rcases M4.1 f4 with h|h
   ·exact .inl (by have:=of_decide_eq_false h;omega)
   exact .inr h
  rw[vZ e' e9 (L1 _) d7 b9]at hM;clear b9 f4 d7;obtain⟨en,rfl⟩:∃en,k=en:=⟨k,rfl⟩
  refine zh ?_;apply zlp (λz:Nat=>[(0,.string (bs l)),(2,nP rb),(5,nP xb),(6,nI (f:Nat)),(7,nI (k:Nat)),(8,nI (z:Nat))]) (λz=>w1) (λz=>f<=z/\z<=k/\∀j,f<=j->j<z->uL (nth l j)=true) (λz=>k-z) f ⟨L1 _,e',λj h1 h2=>zo⟩
  rintro z ⟨d0,g1,c'⟩;refine zh ?_;refine aT (λw1=>_=w1) ((((nth l z).toNat:Int) != 35)) 4 rfl rfl rfl rfl rfl rfl ?_ ?_
  ·intro a1;have g7:z<k:=dT a1;refine zh ?_;refine zvH (bW L3 rfl rfl _ rfl zo) ?_;refine nE 45 5 rfl a1
  rintro _ rfl;rw[show(((nth l z).toNat:Int) != 35)=uL (nth l z)from by unfold uL bne;rw[show(((nth l z).toNat:Int)==35)=(nth l z==35)from fE _ 35 zd]];refine zh ?_;refine zC ?_ ?_
  ·intro hc;rw[L4]at hc;have d6:z<k:=by have:=of_decide_eq_true hc.1;omega
   refine zh ?_;refine zxd (z+1) ⟨zo,d6,λj h1 h2=>(M1.1 h2).elim (c' j h1) (λe=>by rw[e];exact hc.2)⟩
  intro f3;have b9:z=k\/uL (nth l z)=false:=by
   rcases M4.1 f3 with h|h
   ·exact .inl (by have:=of_decide_eq_false h;omega)
   exact .inr h
  rw[vZ d0 g1 e9 c' b9]at hM;clear b9 f3 c';have a9:z<=l.length:=zo;have hb:=tQ (p:=bq) d0 a9;refine zh ?_;apply zc MN (iW l f z d0 a9 w1 hl);rintro v w9 ⟨rfl,b8⟩;rw[b8];clear b8 w9;generalize tw bq l f z=bg at *;refine zh ?_
  by_cases e0:bg=z
  ·rw[if_pos e0]at hM;refine zTH rfl ((by rw[e0];simp)) ?_;refine zxd (n,k+1,kn,st,kv,ig,kp,rv,pl,w1) ⟨by dsimp only;omega,hM,⟨hL.res,hL.blk,hL.known,hL.sm,by have:=hL.few;dsimp only;omega,hL.ig,hL.kp,hL.ru,hL.h40,hL.upd,hL.rng⟩⟩
  rw[if_neg e0]at hM;have hw:=tQ (p:=aj) hb.2 a9;refine zFH rfl ((by rw[beq_eq_false_iff_ne];omega)) ?_;apply zc call69 (rJ l bg z hb.2 a9 w1 hl);rintro v w9 ⟨rfl,b8⟩;rw[b8];clear b8 w9;unfold JT at hM;generalize tw aj l bg z=wd at *;refine zh ?_;apply zv (cf L3 rfl rfl rfl bg wd rfl rfl hw.1 zo);rw[show(l.take wd).drop bg=jt l bg wd from rfl];generalize jt l bg wd=ky at *;refine zh ?_;refine zvH (bN rfl rfl) ?_
  by_cases e1:ky=[108,101,116]
  ·rw[if_pos e1]at hM;have b6:∃b1,Jd kn l wd z=some b1/\jC l n b1 st (k+1)=some a6:=by
    cases hq:Jd kn l wd z with
    |none=>rw[hq]at hM;cases hM
    |some b1=>rw[hq]at hM;exact⟨b1,rfl,hM⟩
   obtain⟨b1,hq,b7⟩:=b6;refine zTH rfl ((by rw[e1];rfl)) ?_;apply zc call70 (FW l wd z hw.2 a9 hl kn b1 hL.sm (by have:=hL.few;omega) st (T+1) xb kv ig kp rv pl B O2 w1 hL.rng zo hL.blk hL.known hq);rintro v w9 ⟨a3,d2,g2,g0,c9,a7,g3⟩;refine zh ?_;refine zxd (n,k+1,b1,st,g0,ig,kp,rv,c9,w9) ⟨by dsimp only;omega,b7,⟨hL.res.upd a3 zo zo,a7,g3,d2,by have:=hL.few;dsimp only;omega,cx hL.ig a3,cx hL.kp a3,hL.ru.upd a3,hL.h40,hL.upd.trans (a3.mono (λ_ h=>by rw[h];omega) b2),hL.rng.upd a3⟩⟩
  rw[if_neg e1]at hM;refine zFH rfl ((by simpa using e1)) ?_;refine zvH (bN rfl rfl) ?_
  by_cases e2:ky=[105,103,110,111,114,101]
  ·rw[if_pos e2]at hM;have b6:st.hi=false/\∃a5,uU l wd z=some a5/\jC l n kn { st with li:=a5,hi:=true } (k+1)=some a6:=by
    cases hh:st.hi with
    |true=>rw[hh,if_pos rfl]at hM;cases hM
    |false=>
     rw[hh,if_neg zd]at hM;refine⟨rfl,?_⟩
     cases ho:uU l wd z with
     |none=>rw[ho]at hM;cases hM
     |some a5=>rw[ho]at hM;exact⟨a5,rfl,hM⟩
   obtain⟨d8,a5,ho,b7⟩:=b6;have k0:w1.cell? ((nA xb 0).add 0)=some ig:=hL.blk.cell 0 rfl;have k1:w1.cell? (nA xb 4)=some (.bool false):=by rw[<-d8];exact hL.blk.cell 4 rfl
   have c5:LX (λ_=>False) O2 w1 O2 w1.drew:=ae (λh=>h) O2 (M9 w1).drew;apply aP rfl ((by rw[e2];rfl));have a2:True:=trivial;refine zh ?_;apply aQ (λ_=>True) 20 rfl zk;apply zrm 0 rfl a2 rfl;apply zrm 1 rfl a2 rfl;apply zrm 2 rfl a2 rfl;apply zrm 3 rfl a2 rfl;apply zrm 4 rfl a2 rfl;apply zrm 5 rfl a2 rfl;apply zrm 6 rfl a2 rfl;apply zr 7 rfl a2 (λ_=>aq rfl);apply zrf 8 rfl a2 rfl;apply zrf 9 rfl a2 rfl;apply zrm 11 rfl a2 rfl;apply zr 12 rfl a2 (λ_=>aq rfl);apply zrf 13 rfl a2 rfl;refine iM (λ_:Unit=>[(0,.string (bs l)),(2,nP rb),(5,nP xb),(6,nI ((k:Int)+1)),(84,nP xb),(85,nP xb),(86,.string (bs l)),(87,nI (bg:Nat)),(88,nI (wd:Nat)),(89,nI (z:Nat)),(94,ig),(98,.bool false)]) (λ_=>w1.drew) (λ_=>True) #[true,true,true,true,true,true,true,true,true,true,true,true,true,true,true,false,false,false,false,false] 5 ?_ ?_
   ·intro hN;refine bB 10 14 zk rfl rfl ?_ ?_ 
    ·refine zvH (RV.ld (show w1.drew.cell? _=_ from k0) rfl) ?_;apply aa trivial
     apply L0 14 zk rfl;refine zvH (RV.ld (show w1.drew.cell? _=_ from k1) rfl) ?_
     apply aa trivial;exact L2 (hN () trivial) zk ⟨rfl,rfl,rfl,rfl,rfl,rfl,rfl,rfl,rfl,rfl,rfl,rfl,trivial⟩ rfl
    refine zvH (RV.ld (show w1.drew.cell? _=_ from k1) rfl) ?_;apply aa trivial
    apply L0 10 zk rfl;refine zvH (RV.ld (show w1.drew.cell? _=_ from k0) rfl) ?_
    apply aa trivial;exact L2 (hN () trivial) zk ⟨rfl,rfl,rfl,rfl,rfl,rfl,rfl,rfl,rfl,rfl,rfl,rfl,trivial⟩ rfl
   rintro _ _;apply L0 15 zk rfl;apply zc call71 (zA l wd z bg hw.2 a9 hl (nP xb) ig B O2 w1.drew (hL.rng.upd c5) a5 ho);rintro v w8 ⟨e5,b',d'⟩;have c6:LX (λ_=>False) O2 w1 O2 w8:=c5.trans (ae (λh=>h) O2 e5);have b4:=hL.blk.upd c6 zo (λh=>h);have d1:=b'.one;refine zh ?_;refine zaf trivial λzS=>?_
   apply zr 16 rfl zS (λ_=>aq rfl);apply zrf 17 rfl zS rfl
   apply zrf 18 rfl zS rfl;apply L0 19 zk rfl
   apply ak (j:=0) b4 rfl (sizeOf22 _) d1 rfl rfl rfl;have a7:M0 O2 (w8.setCell ⟨xb,0,none⟩ v) (T+1) xb (stC v kp rv kv st pl) stT:=b4.set 0 v;have a3:LX (λq=>q=T+1) O2 w8 O2 (w8.setCell ⟨xb,0,none⟩ v):=LY zo b4.tag rfl;have d3:=cx ⟨b',d'⟩ a3;generalize w8.setCell ⟨xb,0,none⟩ v=w9 at *;refine zh ?_
   apply aa trivial;apply Mb zk
   refine zh ?_;apply ak (j:=4) a7 rfl (sizeOf4 _) rfl rfl rfl rfl
   have b5:M0 O2 (w9.setCell ⟨xb,4,none⟩ (.bool true)) (T+1) xb (stC v kp rv kv { st with li:=a5,hi:=true } pl) stT:=a7.set 4 (.bool true);have a8:LX (λq=>q=T+1) O2 w9 O2 (w9.setCell ⟨xb,4,none⟩ (.bool true)):=LY zo a7.tag rfl;have b3:=cx d3 a8;generalize w9.setCell ⟨xb,4,none⟩ (.bool true)=w10 at *;have a4:LX (λq=>q=T+1) O2 w1 O2 w10:=((c6.mono (λ_ h=>h.elim) zo).trans a3).trans a8;refine zh ?_;refine zxd (n,k+1,kn,{ st with li:=a5,hi:=true },kv,v,kp,rv,pl,w10) ⟨by dsimp only;omega,b7,⟨hL.res.upd a4 zo zo,b5,hL.known.upd a4,hL.sm,by have:=hL.few;dsimp only;omega,b3,cx hL.kp a4,hL.ru.upd a4,hL.h40,hL.upd.trans (a4.mono (λ_ h=>by rw[h];omega) b2),hL.rng.upd a4⟩⟩
  rw[if_neg e2]at hM;refine zFH rfl ((by simpa using e2)) ?_;refine zvH (bN rfl rfl) ?_
  by_cases e3:ky=[107,101,101,112]
  ·rw[if_pos e3]at hM;have b6:st.hk=false/\∃a5,uU l wd z=some a5/\jC l n kn { st with lk:=a5,hk:=true } (k+1)=some a6:=by
    cases hh:st.hk with
    |true=>rw[hh,if_pos rfl]at hM;cases hM
    |false=>
     rw[hh,if_neg zd]at hM;refine⟨rfl,?_⟩
     cases ho:uU l wd z with
     |none=>rw[ho]at hM;cases hM
     |some a5=>rw[ho]at hM;exact⟨a5,rfl,hM⟩
   obtain⟨d8,a5,ho,b7⟩:=b6;have k0:w1.cell? ((nA xb 0).add 1)=some kp:=hL.blk.cell 1 rfl;have k1:w1.cell? (nA xb 5)=some (.bool false):=by rw[<-d8];exact hL.blk.cell 5 rfl
   have c5:LX (λ_=>False) O2 w1 O2 w1.drew:=ae (λh=>h) O2 (M9 w1).drew;apply aP rfl ((by rw[e3];rfl));have a2:True:=trivial;refine zh ?_;apply aQ (λ_=>True) 20 rfl zk;apply zrm 0 rfl a2 rfl;apply zrm 1 rfl a2 rfl;apply zrm 2 rfl a2 rfl;apply zrm 3 rfl a2 rfl;apply zrm 4 rfl a2 rfl;apply zrm 5 rfl a2 rfl;apply zrm 6 rfl a2 rfl;apply zr 7 rfl a2 (λ_=>aq rfl);apply zrf 8 rfl a2 rfl;apply zrf 9 rfl a2 rfl;apply zrm 11 rfl a2 rfl;apply zr 12 rfl a2 (λ_=>aq rfl);apply zrf 13 rfl a2 rfl;refine iM (λ_:Unit=>[(0,.string (bs l)),(2,nP rb),(5,nP xb),(6,nI ((k:Int)+1)),(108,nP xb),(109,nP xb),(110,.string (bs l)),(111,nI (bg:Nat)),(112,nI (wd:Nat)),(113,nI (z:Nat)),(118,kp),(122,.bool false)]) (λ_=>w1.drew) (λ_=>True) #[true,true,true,true,true,true,true,true,true,true,true,true,true,true,true,false,false,false,false,false] 5 ?_ ?_
   ·intro hN;refine bB 10 14 zk rfl rfl ?_ ?_ 
    ·refine zvH (RV.ld (show w1.drew.cell? _=_ from k0) rfl) ?_;apply aa trivial
     apply L0 14 zk rfl;refine zvH (RV.ld (show w1.drew.cell? _=_ from k1) rfl) ?_
     apply aa trivial;exact L2 (hN () trivial) zk ⟨rfl,rfl,rfl,rfl,rfl,rfl,rfl,rfl,rfl,rfl,rfl,rfl,trivial⟩ rfl
    refine zvH (RV.ld (show w1.drew.cell? _=_ from k1) rfl) ?_;apply aa trivial
    apply L0 10 zk rfl;refine zvH (RV.ld (show w1.drew.cell? _=_ from k0) rfl) ?_
    apply aa trivial;exact L2 (hN () trivial) zk ⟨rfl,rfl,rfl,rfl,rfl,rfl,rfl,rfl,rfl,rfl,rfl,rfl,trivial⟩ rfl
   rintro _ _;apply L0 15 zk rfl;apply zc call71 (zA l wd z bg hw.2 a9 hl (nP xb) kp B O2 w1.drew (hL.rng.upd c5) a5 ho);rintro v w8 ⟨e5,b',d'⟩;have c6:LX (λ_=>False) O2 w1 O2 w8:=c5.trans (ae (λh=>h) O2 e5);have b4:=hL.blk.upd c6 zo (λh=>h);have d1:=b'.one;refine zh ?_;refine zaf trivial λzS=>?_
   apply zr 16 rfl zS (λ_=>aq rfl);apply zrf 17 rfl zS rfl
   apply zrf 18 rfl zS rfl;apply L0 19 zk rfl
   apply ak (j:=1) b4 rfl (sizeOf22 _) d1 rfl rfl rfl;have a7:M0 O2 (w8.setCell ⟨xb,1,none⟩ v) (T+1) xb (stC ig v rv kv st pl) stT:=b4.set 1 v;have a3:LX (λq=>q=T+1) O2 w8 O2 (w8.setCell ⟨xb,1,none⟩ v):=LY zo b4.tag rfl;have d3:=cx ⟨b',d'⟩ a3;generalize w8.setCell ⟨xb,1,none⟩ v=w9 at *;refine zh ?_
   apply aa trivial;apply Mb zk
   refine zh ?_;apply ak (j:=5) a7 rfl (sizeOf4 _) rfl rfl rfl rfl
   have b5:M0 O2 (w9.setCell ⟨xb,5,none⟩ (.bool true)) (T+1) xb (stC ig v rv kv { st with lk:=a5,hk:=true } pl) stT:=a7.set 5 (.bool true);have a8:LX (λq=>q=T+1) O2 w9 O2 (w9.setCell ⟨xb,5,none⟩ (.bool true)):=LY zo a7.tag rfl;have b3:=cx d3 a8;generalize w9.setCell ⟨xb,5,none⟩ (.bool true)=w10 at *;have a4:LX (λq=>q=T+1) O2 w1 O2 w10:=((c6.mono (λ_ h=>h.elim) zo).trans a3).trans a8;refine zh ?_;refine zxd (n,k+1,kn,{ st with lk:=a5,hk:=true },kv,ig,v,rv,pl,w10) ⟨by dsimp only;omega,b7,⟨hL.res.upd a4 zo zo,b5,hL.known.upd a4,hL.sm,by have:=hL.few;dsimp only;omega,cx hL.ig a4,b3,hL.ru.upd a4,hL.h40,hL.upd.trans (a4.mono (λ_ h=>by rw[h];omega) b2),hL.rng.upd a4⟩⟩
  rw[if_neg e3]at hM;have b6:∃b0,Ax kn st.ts l bg z=some b0/\jC l n kn { st with ts:=b0 } (k+1)=some a6:=by
   cases hq:Ax kn st.ts l bg z with
   |none=>rw[hq]at hM;cases hM
   |some b0=>rw[hq]at hM;exact⟨b0,rfl,hM⟩
  obtain⟨b0,hq,b7⟩:=b6;refine zFH rfl ((by simpa using e3)) ?_;apply zc call72 (Cb l bg z hb.2 a9 hl kn hL.sm st b0 (T+1) xb kv ig kp rv pl B O2 w1 hL.rng zo hL.blk hL.known hL.ru hL.h40 hq);rintro v w9 ⟨a3,e6,f',c9,a7,d5⟩;refine zh ?_;refine zxd (n,k+1,kn,{ st with ts:=b0 },kv,ig,kp,f',c9,w9) ⟨by dsimp only;omega,b7,⟨hL.res.upd a3 zo zo,a7,hL.known.upd a3,hL.sm,by have:=hL.few;dsimp only;omega,cx hL.ig a3,cx hL.kp a3,d5,e6,hL.upd.trans (a3.mono (λ_ h=>by rw[h];omega) b2),hL.rng.upd a3⟩⟩
 intro hc;rw[MD]at hc;have d9:l.length<f:=dF hc;rw[if_pos d9]at hM;obtain rfl:st=a6:=LZ hM;have i1:=hL.ig.1.one;have i2:=hL.kp.1.one;have i3:=hL.ru.one;have cT:∀(j:Nat) (u:L7),[ig,kp,rv][j]? = some u->w1.cell? ((nA xb 0).add j)=some u:=λj u hu=>by
  obtain⟨hj,_⟩:=Mh.1 hu;simp only[Mq,Mu]at hj;obtain rfl|rfl|rfl:j=0\/j=1\/j=2:=zo
  ·exact hL.blk.cell 0 hu
  ·exact hL.blk.cell 1 hu
  exact hL.blk.cell 2 hu
 refine zh ?_;refine zFH rfl rfl ?_
 apply zv (ai (us:=[ig,kp,rv]) cT (ME _) (M7 _) rfl);apply zsb (us:=#[ig,kp,rv]) hL.res (M7 _) (by simp only[LW,i1,i2,i3];rfl)
 have d5:=hL.res.setRow (us:=#[ig,kp,rv]);have a3:LX (λq=>q=T) O2 w1 O2 (w1.setRow rb #[ig,kp,rv]):=L5 zo hL.res.tag rfl;have a4:=hL.upd.trans (a3.mono (λ_ h=>by rw[h];exact L1 _) b2);have d4:=hL.ru.upd a3;refine zh ?_;refine cD rfl rfl rfl rfl d5.cellsAdd (ME _) (M7 _) ⟨az a4 g4,ig,kp,rv,rfl,⟨(cx hL.ig a3).1,(cx hL.ig a3).2.weak a4.z0⟩,⟨(cx hL.kp a3).1,(cx hL.kp a3).2.weak a4.z0⟩,?_⟩;obtain⟨zs,z1,z2,z3,z4⟩:=d4;exact⟨zs,z1,z2.weak a4.z0,z3,λj hj=>(z4 j hj).weak a4.z0⟩
def bY:List UInt8->List UInt8->List (List UInt8)
 |[],_=>[]
 |c::r,acc=>if c=10 then acc.reverse::bY r []else bY r (c::acc)
def Bu(L:List (List UInt8)):List UInt8:=L.flatMap λx=>x++[10]
theorem LK:Bu (bY jM [])=jM:=by decide +kernel
theorem LJ:Bu (bY jL [])=jL:=by decide +kernel
theorem LH:Bu (bY jK [])=jK:=by decide +kernel
theorem LG:Bu (bY gV [])=gV:=by decide +kernel
def Je(L:List (List UInt8)):Bool:=decide (L.length<=40)&&L.all λx=>decide (x.length<=100)
theorem sS:Je (bY jM [])=true/\Je (bY jL [])=true/\Je (bY jK [])=true/\Je (bY gV [])=true:=by decide +kernel
theorem Gi(L:List (List UInt8))(h:∀x∈L,x.length<=100):(Bu L).length<=101*L.length:=by
 unfold Bu
 induction L with
 |nil=>simp
 |cons a L ih=>
  have h1:=h a (List.mem_cons_self ..);have h2:=ih λx hx=>h x (List.mem_cons_of_mem _ hx)
  simp only[List.flatMap_cons,List.length_append,Mq,Mu]at h2 ⊢;omega
theorem Dq(L:List (List UInt8)){i:Nat}(h:i<L.length):Bu (L.take (i+1))=Bu (L.take i)++nth L i++[10]:=by
 unfold Bu;rw[aY h,List.flatMap_append];simp
abbrev J2(v:L7):List L7:=[v]
def GJ:Nat->List (List UInt8)
 |0=>bY jM []
 |1=>bY jL []
 |2=>bY jK []
 |_=>bY gV []
theorem Dr:∀m,Bu (GJ m)=eF m
 |0=>LK
 |1=>LJ
 |2=>LH
 |_+3=>LG
theorem Gd:∀m,Je (GJ m)=true
 |0=>sS.1
 |1=>sS.2.1
 |2=>sS.2.2.1
 |_+3=>sS.2.2.2
theorem BX(h:m<0\/4<=m):nq m=[]:=by
 unfold nq;rw[if_neg zo,if_neg zo,if_neg zo,if_neg zo]
theorem KW(a0 a1 a2 a3:Option Addr)(n0 n1 n2 n3 q0 q1 q2 q3:Nat): Instr.fill (λi => some (i * 1, 1)) ((Array.range (4 * 1)).map ((nS).cells[· % (nS).cells.size]!)) [(0, .slice a0 n0 q0), (1, .slice a1 n1 q1), (2, .slice a2 n2 q2), (3, .slice a3 n3 q3)] = some (List.flatMap J2 [.slice a0 n0 q0, .slice a1 n1 q1, .slice a2 n2 q2, .slice a3 n3 q3]).toArray := by kernel_rfl
theorem oD(m:Int)(w:LP): MT Mf 19 [nI m] w fun v w' => v = .string (bs (nq m)) ∧ MC w w' := by
 refine L8 func19 ntmps19 rfl rfl ?_
 refine zg ?_
 refine cp LQ (M6 _) (Md _) encS (bY jM []) (by kernel_rfl) rfl rfl rfl (by kernel_rfl) (by simp) rfl ?_
 intro v0 w0 h0 hE0
 obtain⟨a0, q0, y0, _⟩ := h0.shape
 refine cp LQ (M6 _) (Md _) encS (bY jL []) (by kernel_rfl) rfl rfl rfl (by kernel_rfl) (by simp) rfl ?_
 intro v1 w1 h1 hE1
 obtain⟨a1, q1, y1, _⟩ := h1.shape
 refine cp LQ (M6 _) (Md _) encS (bY jK []) (by kernel_rfl) rfl rfl rfl (by kernel_rfl) (by simp) rfl ?_
 intro v2 w2 h2 hE2
 obtain⟨a2, q2, y2, _⟩ := h2.shape
 refine cp LQ (M6 _) (Md _) encS (bY gV []) (by kernel_rfl) rfl rfl rfl (by kernel_rfl) (by simp) rfl ?_
 intro v3 w3 h3 hE3
 obtain⟨a3, q3, y3, _⟩ := h3.shape
 subst y0 y1 y2 y3
 refine cp Ma (MI _) (zeroValue107 _) J2 [.slice a0 (bY jM []).length q0, .slice a1 (bY jL []).length q1, .slice a2 (bY jK []).length q2, .slice a3 (bY gV []).length q3] rfl rfl rfl rfl (KW ..) (by simp) rfl ?_
 intro lv w4 h4 hE4
 have hE34 := hE3.trans hE4
 have hE24 := hE2.trans hE34
 have hE14 := hE1.trans hE24
 have hEz := hE0.trans hE14
 refine zg ?_
 refine ct (fun w1 => _ = w1) (decide ((4:Int) ≤ m)) 4 (rfl) rfl rfl rfl rfl rfl ?_ ?_
 ·skip
  intro a1
  refine zg ?_
  refine zvG (MQ (by first | exact h4) Ma rfl) ?_
  refine cg (tA := 13) 5 (rfl) rfl rfl rfl (fun v hv => (LZ hv).symm.trans (congrArg Value.bool a1)) rfl
 rintro _ rfl
 refine zg ?_
 refine zC ?_ ?_
 ·intro hc
  simp only[Mv, decide_eq_true_eq]at hc
  refine zg ?_
  refine af rfl rfl (⟨by rw[BX hc]; rfl, hEz⟩)
 ·intro hc
  simp only[M5, decide_eq_false_iff_not]at hc
  obtain⟨n, rfl⟩:∃n:Nat, m = (n:Int) := ⟨m.toNat, by omega⟩
  have hn:n < 4 := by omega
  have hrow:Sl encS 1 w4 (nth ([.slice a0 (bY jM []).length q0, .slice a1 (bY jL []).length q1, .slice a2 (bY jK []).length q2, .slice a3 (bY gV []).length q3]:List L7) n) (GJ n) := by
   obtain rfl | rfl | rfl | rfl:n = 0 ∨ n = 1 ∨ n = 2 ∨ n = 3 := by omega
   ·exact(congrArg (fun v => Sl encS 1 w4 v (GJ 0)) (ao _ _)).mpr (h0.ext hE14)
   ·exact(congrArg (fun v => Sl encS 1 w4 v (GJ 1)) ((aS _ _ 0).trans (ao _ _))).mpr (h1.ext hE24)
   ·exact(congrArg (fun v => Sl encS 1 w4 v (GJ 2)) ((aS _ _ 1).trans ((aS _ _ 0).trans (ao _ _)))).mpr (h2.ext hE34)
   ·exact(congrArg (fun v => Sl encS 1 w4 v (GJ 3)) ((aS _ _ 2).trans ((aS _ _ 1).trans ((aS _ _ 0).trans (ao _ _))))).mpr (h3.ext hE4)
  obtain⟨L, hL⟩:∃L, L = GJ n := ⟨_, rfl⟩
  rw[← hL]at hrow
  have hfew := Gd n
  have hcat := Dr n
  rw[← hL]at hfew hcat
  unfold Je at hfew
  simp only[L4, decide_eq_true_eq, List.all_eq_true]at hfew
  obtain⟨hl40, hl100⟩ := hfew
  have mv:w4.cell? (adr lv 1 n) = some (nth ([.slice a0 (bY jM []).length q0, .slice a1 (bY jL []).length q1, .slice a2 (bY jK []).length q2, .slice a3 (bY gV []).length q3]:List L7) n) := h4.ld (val := fun v => v) hn
  generalize nth ([.slice a0 (bY jM []).length q0, .slice a1 (bY jL []).length q1, .slice a2 (bY jK []).length q2, .slice a3 (bY gV []).length q3]:List L7) n = rowv at *
  refine zg ?_
  refine zlp (fun i:Nat => [(0, nI (n:Nat)), (3, lv), (4, .string (bs (Bu (L.take i)))), (5, nI (i:Nat))]) (fun i => w4) (fun i => i ≤ L.length) (fun i => L.length - i) 0 (Me _) ?_
  intro i hi
  have hsub:(Bu (L.take i)).length ≤ 101 * i := by
   have := Gi (L.take i) fun x hx => hl100 x (List.mem_of_mem_take hx)
   rwa[List.length_take, Nat.min_eq_left hi]at this
  refine zg ?_
  refine zv (Mc h4 Ma (MI _) rfl rfl n rfl hn) ?_
  refine zv (RV.ld mv rfl) ?_
  refine zvG (MQ (by first | exact h4 | exact hrow) LQ rfl) ?_
  refine zC ?_ ?_
  ·intro hlt
   replace hlt:i < L.length := by have := of_decide_eq_true hlt; omega
   have m1:w4.cell? (adr rowv 1 i) = some (.string (bs (nth L i))) := hrow.ld (val := fun x => .string (bs x)) hlt
   have hx:(nth L i).length ≤ 100 := hl100 _ (aW hlt)
   refine zg ?_
   refine zv (Mc h4 Ma (MI _) rfl rfl n rfl hn) ?_
   refine zvG (RV.ld (by first | exact mv | exact m1) rfl) ?_
   refine zv (Mc (by first | exact h4 | exact hrow) LQ (M6 _) rfl rfl _ rfl (by omega)) ?_
   refine zv (RV.ld (by first | exact mv | exact m1) rfl) ?_
   refine zv (DR rfl rfl (by omega)) ?_
   refine zvG (DR (b := [10]) rfl rfl (by simp; omega)) ?_
   refine zvG (RV.add rfl rfl (MW (by omega))) ?_
   rw[← Dq L hlt]
   refine zxd (i + 1) (hlt)
  ·intro hge
   obtain rfl:i = L.length := by have := of_decide_eq_false hge; omega
   refine zg ?_
   refine af rfl rfl (⟨by rw[List.take_length, hcat, kC hn], hEz⟩)
theorem AM(h:xm l=true):∃st',AN l=some st'/\st'.li=(cS l).li/\st'.lk=(cS l).lk/\st'.ts=(cS l).ts:=by
 unfold xm at h
 cases hm:AN l with
 |none=>rw[hm]at h;cases h
 |some st'=>
  rw[hm]at h;simp only[L4,decide_eq_true_eq]at h;obtain⟨h1,h2,h3,h4⟩:=h;refine⟨st',rfl,nU.1 h1,nU.1 h2,?_⟩;refine List.ext_getElem h3 λi hi a0=>?_
  have:=fj.1 h4 i hi;unfold oq at this;simp only[L4,beq_iff_eq]at this;obtain⟨⟨k1,k2⟩,k3⟩:=this;have e2:=kL _ _ k2;have e3:=kL _ _ k3;rw[<-aB hi,<-aB a0];exact MS e2 (MS e3 k1)
theorem B5:∀m,xm (eF m)=true
 |0=>JJ
 |1=>JI
 |2=>JH
 |_+3=>JG
theorem xN(m:Nat)(hm:m<4)(w:LP):MT Mf 14 [nI (m:Nat)] w λv w'=>MC w w'/\Tx w' v (cS (eF m)).li (cS (eF m)).lk (cS (eF m)).ts/\∃ig kp rv,v=Am ig kp rv:=by
 obtain⟨a7,hM,e1,e2,e3⟩:=AM (B5 m);apply L8 func14 ntmps14 rfl rfl;refine zh ?_;apply ar (ax w) 1 zo (Mr _) rfl;intro rb w1 O1 b0 b3 a5 b8;refine zh ?_;apply zc call19 (oD (m:Nat) w1);rintro v w2 ⟨rfl,a6⟩;rw[kC hm];apply zc call35 (AF (eF m) a7 hM w.heap.size O1 w2 (a5.ext a6));rintro v w3 ⟨b5,ig,kp,rv,rfl,h1,h2,h3⟩;have a4:LX (λ_=>False) O1 w1 O1 w3:=ae (λh=>h) O1 (a6.trans b5);have a':=b0.upd a4 zd (λh=>h);have b4:=a5.upd a4;have i1:=h1.1.one;have i2:=h2.1.one;have i3:=h3.one;refine zh ?_;apply ar b4 2 zo (Mr _) rfl;intro tb w4 O4 a2 b2 b6 b7;apply zsb (us:=#[ig,kp,rv]) a2 (M7 _) (by simp only[LW,i1,i2,i3];rfl);have a8:=a2.setRow (us:=#[ig,kp,rv]);have a0:LX (λq=>q=2) O1 w3 O4 (w4.setRow tb #[ig,kp,rv]):=b2.trans (L5 zd a2.tag rfl);have a3:=a'.upd a0 zd zd;generalize w4.setRow tb #[ig,kp,rv]=w5 at *;refine zh ?_;apply zv (ai (us:=[ig,kp,rv]) a8.cellsAdd (ME _) (M7 _) rfl);apply zsb (us:=#[ig,kp,rv]) a3 (M7 _) (by simp only[LW,i1,i2,i3];rfl);have a9:=a3.setRow (us:=#[ig,kp,rv]);have a1:LX (λq=>q=1) O4 w5 O4 (w5.setRow rb #[ig,kp,rv]):=L5 zd a3.tag rfl
 have b1:LX (λq=>1<=q) (λ_=>0) w O4 (w5.setRow rb #[ig,kp,rv]):=(((b3.mono (λ_ h=>zo) zd).trans (a4.mono (λ_ h=>h.elim) zd)).trans (a0.mono (λ_ h=>zo) zd)).trans (a1.mono (λ_ h=>zo) zd);have j1:=(cx (cx h1 a0) a1).1;have j2:=(cx (cx h2 a0) a1).1;have j3:=(h3.upd a0).upd a1;rw[e1]at j1;rw[e2]at j2;rw[e3]at j3;obtain⟨zs,z1,z2,z3,z4⟩:=j3;refine zh ?_;refine aL rfl rfl a9.cellsAdd (ME _) (M7 _) ⟨b1.ext,⟨⟨ig,kp,rv,zs,rfl,j1,j2,z1,z3,λj hj=>⟨(z4 j hj).1.zero,(z4 j hj).2.1.zero,(z4 j hj).2.2⟩⟩⟩,ig,kp,rv,rfl⟩
theorem jb(h:eC m=true):∃n:Nat,m=(n:Int)/\n<4:=by
 unfold eC at h;simp only[L4,decide_eq_true_eq]at h;exact⟨m.toNat,zo,zo⟩
def nmL:List (List UInt8):=[[103,114,97,112,104,101,109,101],[119,111,114,100],[115,101,110,116,101,110,99,101],[108,105,110,101]]
def nmC:Array L7:=(nmL.map λs=>My (bs s)).toArray
def nmZ(m:Int):List UInt8:=if eC m=true then nth nmL m.toNat else []
theorem eQ:eC m=true↔0<=m/\m<4:=by unfold eC;simp
theorem FJ{j:Nat}(h:M0 O w j b nmC 104):Sl encS 1 w (.slice (some ⟨b,0,none⟩) 4 4) nmL:=by
 refine⟨⟨_,4,rfl,L1 _,zd,λ_=>⟨_,_,rfl⟩⟩,λi hi j u hu=>?_⟩;obtain rfl:j=0:=by
  have:=(Mh.1 hu).1;simpa using this
 have a0:My (bs nmL[i])=u:=by simpa using hu
 have:=h.cell i (u:=u) (by rw[<-a0];unfold nmC;simp[hi]);have e:((adr (.slice (some ⟨b,0,none⟩) 4 4) 1 i).add 0)=⟨b,i,none⟩:=by simp[adr,Addr.add]
 exact(congrArg w.cell? e).trans this
theorem kD(w:LP):MT Mf 42 [] w λv w'=>v=.agg nmC/\MC w w':=by
 apply L8 func42 ntmps42 rfl rfl;refine zh ?_
 apply ar (ax w) 1 zo (Mm _) rfl;intro xb w1 O1 a0 a2 a4 a5;refine zh ?_
 apply zv (eu (cells:=nmC) Mk (M6 _) (Mm _) rfl zk);apply bG (us:=nmC) a0 zk (MJ _) zk rfl rfl rfl
 have a1:=a0.setRow (us:=nmC);have a3:MC w (w1.setRow xb nmC):=(a2.trans (L5 zd a0.tag rfl)).ext;refine zh ?_;refine aL rfl rfl a1.cellsAdd (isAgg104 _) (MJ _) ⟨rfl,a3⟩
theorem mM(m:Int)(w:LP):MT Mf 18 [nI m] w λv w'=>v=.string (bs (nmZ m))/\MC w w':=by
 apply L8 func18 ntmps18 rfl rfl;refine zh ?_
 apply zc call25 (qs m w);rintro v w9 ⟨rfl,a1⟩;rw[a1,show(decide (0<=m)&&decide (m<4))=eC m from rfl];clear a1 w9;refine zh ?_
 cases a0:eC m with
 |false=>
  refine zTH rfl rfl ?_;refine af rfl rfl ⟨by unfold nmZ;rw[a0];rfl,M9 _⟩
 |true=>
  obtain⟨n,rfl,hn⟩:=jb a0;have a2:n<nmL.length:=hn;refine zFH rfl rfl ?_;apply zc call42 (kD w);rintro v w1 ⟨rfl,a3⟩;refine zh ?_;refine zvH (yE Mk (M6 _) (isAgg9 _) rfl rfl n rfl hn (show nmC[n]? = some (.string (bs (nth nmL n)))from by unfold nmC;simp[aB a2,a2])) ?_;refine af rfl rfl ⟨by unfold nmZ;rw[a0,if_pos rfl,LU],a3⟩
theorem jx(s:List UInt8)(w:LP):MT Mf 17 [.string (bs s)] w λv w'=>v=.tuple #[nI (max (eN nmL s) 0),.bool (decide (0<=eN nmL s))]/\MC w w':=by
 apply L8 func17 ntmps17 rfl rfl;refine zh ?_
 apply zc call42 (kD w);rintro v w1 ⟨rfl,a6⟩;apply ar (ax w1) 1 zo (Mm _) rfl
 intro xb w2 O2 a0 a4 a7 a8;apply bG (us:=nmC) a0 zk (MJ _) zk rfl rfl rfl;have a2:=a0.setRow (us:=nmC);have a5:MC w1 (w2.setRow xb nmC):=(a4.trans (L5 zd a0.tag rfl)).ext;have a3:=FJ a2;generalize w2.setRow xb nmC=w3 at *;refine zh ?_;refine zvH (pI Mk (M6 _) zd rfl) ?_;apply zc call43 (iA nmL s _ w3 a3);rintro v w9 ⟨rfl,a1⟩;rw[a1];clear a1 w9;refine zh ?_;refine zvH (gQ rfl rfl) ?_;refine cc rfl rfl rfl ⟨rfl,a6.trans a5⟩
theorem dR(m:Int)(w:LP):MT Mf 20 [nI m] w λv w'=>v=.string (bs (nmZ m))/\MC w w':=by
 apply L8 func20 ntmps20 rfl rfl;refine zh ?_
 refine ct (λw1=>_=w1) (decide ((3:Int)<m)) 2 rfl rfl rfl rfl rfl rfl ?_ ?_
 ·intro a1;refine zh ?_;refine nE 5 3 rfl a1
 rintro _ rfl;refine zh ?_;refine zC ?_ ?_
 ·intro hc;simp only[Mv,decide_eq_true_eq]at hc;have a0:eC m=false:=M8.2 λe=>by have:=eQ.1 e;omega
  refine zh ?_;refine af rfl rfl ⟨by unfold nmZ;rw[a0];rfl,M9 _⟩
 intro hc;simp only[M5,decide_eq_false_iff_not]at hc;have a0:eC m=true:=eQ.2 ⟨zo,zo⟩;obtain⟨n,rfl,hn⟩:=jb a0;have a3:n<nmL.length:=hn;refine zh ?_;apply cp LQ (M6 _) (Md _) encS nmL rfl rfl rfl rfl zk (by simp) rfl;intro sv w1 a2 a4;have m1:w1.cell? (adr sv 1 n)=some (.string (bs (nth nmL n))):=a2.ld (val:=λx=>.string (bs x)) a3;refine zh ?_;refine af rfl rfl ⟨by unfold nmZ;rw[a0,if_pos rfl,LU],a4⟩
theorem B4(li lk:List Int)(ts:List R3):Fq li lk ts li lk ts=true:=by
 unfold Fq;rw[nU.2 rfl,nU.2 rfl,xl.2 rfl];rfl
theorem zL{n:Nat}(h:n<4):eN nmL (nth nmL n)=(n:Int):=by
 obtain rfl|rfl|rfl|rfl:n=0\/n=1\/n=2\/n=3:=zo
 ·decide +kernel
 ·decide +kernel
 ·decide +kernel
 decide +kernel
theorem JW(h:0<=eN nmL s):∃n:Nat,eN nmL s=(n:Int)/\n<4/\nth nmL n=s:=by
 unfold eN at h ⊢
 cases hf:nmL.findIdx? (· == s)with
 |none=>rw[hf]at h;exact absurd h zd
 |some k=>
  obtain⟨hk,h1,_⟩:=List.findIdx?_eq_some_iff_getElem.1 hf;exact⟨k,rfl,hk,by rw[aB hk];simpa using h1⟩
theorem JV(h:¬0<=eN nmL s):∀n,n<4->¬nth nmL n=s:=λn hn e=>h (by rw[<-e,zL hn];omega)
def Jf(st:St):Bool:=decide (st.ts.length<=45)&&(decide (st.li.length<=40)&&(decide (st.lk.length<=40)&&vU (λi=>decide (nsz (nth st.ts i).1<=150)&&decide (nsz (nth st.ts i).2.1<=150)) st.ts.length))
theorem K0:Jf (cS jM)=true:=by decide +kernel
theorem KZ:Jf (cS jL)=true:=by decide +kernel
theorem KY:Jf (cS jK)=true:=by decide +kernel
theorem KX:Jf (cS gV)=true:=by decide +kernel
theorem Ge:∀m,Jf (stS m)=true
 |0=>K0
 |1=>KZ
 |2=>KY
 |_+3=>KX
theorem Gc(m:Nat):Few (stS m).li (stS m).lk (stS m).ts:=by
 have h:=Ge m;unfold Jf at h;simp only[L4,decide_eq_true_eq]at h;refine⟨h.1,h.2.1,h.2.2.1,λi hi=>?_⟩;have:=fj.1 h.2.2.2 i hi;simpa using this
theorem Im{ig kp rv:L7}{li lk:List Int}{ts:List R3}(h1:Sl encI 1 w ig li)(h2:Sl encI 1 w kp lk)(h:MA (λ_=>0) w rv ts):Tx w (Am ig kp rv) li lk ts:=by
 obtain⟨zs,z1,_,z3,z4⟩:=h;exact⟨⟨ig,kp,rv,zs,rfl,h1,h2,z1,z3,z4⟩⟩
theorem xQ(h:¬0<=eN nmL s):max (eN nmL s) 0=0:=zo
theorem Cv(h:0<=eN nmL s):nmZ (max (eN nmL s) 0)=s:=by
 obtain⟨n,e,hn,hs⟩:=JW h;rw[e,show max (n:Int) 0=(n:Int)from by omega];unfold nmZ;rw[eQ.2 ⟨zo,zo⟩,if_pos rfl,LU,hs]
theorem zl(h:eC m=true):0<=eN nmL (nmZ m)/\max (eN nmL (nmZ m)) 0=m:=by
 obtain⟨n,rfl,hn⟩:=jb h;unfold nmZ;rw[h,if_pos rfl,LU,zL hn];omega
theorem IC(h:eC m=false):¬0<=eN nmL (nmZ m):=by
 unfold nmZ;rw[h,if_neg zd]
 decide +kernel
theorem G8(m:Nat)(hm:m<4):(eF m).length<=1000000000:=by
 obtain rfl|rfl|rfl|rfl:m=0\/m=1\/m=2\/m=3:=zo
 ·decide +kernel
 ·decide +kernel
 ·decide +kernel
 decide +kernel
set_option maxHeartbeats 1000000 in
theorem np(m:Int)(s:List UInt8)(w:LP)(hT:lF w):MT Mf 6 [nI m,.string (bs s)] w λv w'=>v=.bool true/\MC w w':=by
 apply L8 func6 ntmps6 rfl rfl;refine zh ?_
 refine zvH (bO L3 rfl) ?_;refine ct (MC w) (!true) 2 (M9 w) rfl rfl rfl rfl rfl ?_ ?_
 ·intro a1;refine zh ?_;apply zc call7 (px w hT);rintro v w2 ⟨rfl,b4⟩;refine zh ?_;refine nE 17 3 b4 a1
 intro w2 b4;refine zh ?_;refine zC ?_ ?_
 ·intro hc;refine zh ?_;apply zc call7 (px w2 (mG hT b4));rintro v w3 ⟨rfl,a8⟩;refine zh ?_;refine af rfl rfl ⟨rfl,b4.trans a8⟩
 intro hc;clear hc;refine zh ?_;apply zc call16 (mL m w2);rintro v w9 ⟨rfl,d5⟩;rw[d5];clear d5 w9;refine zh ?_;apply zc call18 (mM m w2);rintro v w3 ⟨rfl,a8⟩;apply zc call17 (jx (nmZ m) w3);rintro v w4 ⟨rfl,d7⟩;refine zh ?_;apply zc call17 (jx s w4);rintro v w5 ⟨rfl,e5⟩;have a9:=((b4.trans a8).trans d7).trans e5;have c5:decide (0<=eN nmL (nmZ m))=eC m:=by
  cases h:eC m with
  |true=>exact decide_eq_true (zl h).1
  |false=>exact decide_eq_false (IC h)
 rw[c5];apply zv (MK rfl);apply zv (L6 rfl rfl);apply zv (L6 rfl rfl);apply zv (MU rfl);apply zv (MU rfl);apply WL.nil;apply ah;apply WC.seq;apply WC.seq;refine iO (λz:LP=>[(0,nI m),(1,.string (bs s)),(5,.string (bs (nq m))),(7,.bool (eC m)),(9,.bool (decide (0<=eN nmL s))),(80,.bool false)]) (λz:LP=>z) (λz:LP=>MC w z) ?_ ?_
 ·intro Qm hN;refine zh ?_;apply zc call19 (oD m w5);rintro v w6 ⟨rfl,c'⟩;refine zvH (mJ rfl rfl) ?_;apply au (d:=39) rfl (b':=false) ((by simp));refine zh ?_;apply zc call18 (mM m w6);rintro v w7 ⟨rfl,b2⟩;refine zh ?_;apply zc Mx (dR m w7);rintro v w8 ⟨rfl,c9⟩;have a4:=((a9.trans c').trans b2).trans c9;refine zh ?_;refine zvH (mJ rfl rfl) ?_;apply au (d:=46) rfl (b':=false) ((by simp));refine zh ?_
  rcases Mi (eC m)with a2|a2
  ·obtain⟨a',c6⟩:=eQ.1 a2;have e3:=zl a2;apply au (d:=50) rfl (b':=true) ((decide_eq_true a'));refine zh ?_;refine zvH (tz Ms rfl rfl) ?_;apply au (d:=56) rfl (b':=false) ((by rw[a2,decide_eq_true c6];rfl));refine zh ?_;apply au (d:=58) rfl (b':=true) a2;refine zh ?_;apply au (d:=64) rfl (b':=false) ((by rw[e3.2];simp));refine zh ?_
   by_cases a0:0<=eN nmL s
   ·apply au (d:=66) rfl (b':=true) ((decide_eq_true a0));refine zh ?_
    apply zc Mx (dR (max (eN nmL s) 0) w8);rintro v w9 ⟨rfl,a6⟩;rw[Cv a0];refine zh ?_
    refine zvH (mJ rfl rfl) ?_;apply au (d:=73) rfl (b':=false) ((by simp))
    refine zh ?_;apply au (d:=76) rfl (b':=false) ((by rw[decide_eq_true a0];rfl))
    refine zh ?_;exact dq (hN w9 (a4.trans a6)) ⟨rfl,rfl,rfl,rfl,rfl,rfl,trivial⟩ rfl
   apply au (d:=66) rfl (b':=false) ((decide_eq_false a0));refine zh ?_
   apply au (d:=76) rfl (b':=true) ((by rw[decide_eq_false a0];rfl));refine zh ?_
   rw[show(max (eN nmL s) 0 != 0)=false from by rw[xQ a0];rfl];exact dq (hN w8 a4) ⟨rfl,rfl,rfl,rfl,rfl,rfl,trivial⟩ rfl
  by_cases a':0<=m
  ·have c6:¬m<4:=λh=>by rw[eQ.2 ⟨a',h⟩]at a2;cases a2
   apply au (d:=50) rfl (b':=true) ((decide_eq_true a'));refine zh ?_
   refine zvH (tz Ms rfl rfl) ?_;apply au (d:=56) rfl (b':=false) ((by rw[a2,decide_eq_false c6];rfl))
   refine zh ?_;apply au (d:=58) rfl (b':=false) a2
   refine zh ?_
   by_cases a0:0<=eN nmL s
   ·apply au (d:=66) rfl (b':=true) ((decide_eq_true a0));refine zh ?_
    apply zc Mx (dR (max (eN nmL s) 0) w8);rintro v w9 ⟨rfl,a6⟩;rw[Cv a0];refine zh ?_
    refine zvH (mJ rfl rfl) ?_;apply au (d:=73) rfl (b':=false) ((by simp))
    refine zh ?_;apply au (d:=76) rfl (b':=false) ((by rw[decide_eq_true a0];rfl))
    refine zh ?_;exact dq (hN w9 (a4.trans a6)) ⟨rfl,rfl,rfl,rfl,rfl,rfl,trivial⟩ rfl
   apply au (d:=66) rfl (b':=false) ((decide_eq_false a0));refine zh ?_
   apply au (d:=76) rfl (b':=true) ((by rw[decide_eq_false a0];rfl));refine zh ?_
   rw[show(max (eN nmL s) 0 != 0)=false from by rw[xQ a0];rfl];exact dq (hN w8 a4) ⟨rfl,rfl,rfl,rfl,rfl,rfl,trivial⟩ rfl
  apply au (d:=50) rfl (b':=false) ((decide_eq_false a'));refine zh ?_
  refine zvH (tz Ms rfl rfl) ?_;apply au (d:=56) rfl (b':=false) ((by rw[a2];rfl))
  refine zh ?_;apply au (d:=58) rfl (b':=false) a2
  refine zh ?_
  by_cases a0:0<=eN nmL s
  ·apply au (d:=66) rfl (b':=true) ((decide_eq_true a0));refine zh ?_
   apply zc Mx (dR (max (eN nmL s) 0) w8);rintro v w9 ⟨rfl,a6⟩;rw[Cv a0];refine zh ?_
   refine zvH (mJ rfl rfl) ?_;apply au (d:=73) rfl (b':=false) ((by simp))
   refine zh ?_;apply au (d:=76) rfl (b':=false) ((by rw[decide_eq_true a0];rfl))
   refine zh ?_;exact dq (hN w9 (a4.trans a6)) ⟨rfl,rfl,rfl,rfl,rfl,rfl,trivial⟩ rfl
  apply au (d:=66) rfl (b':=false) ((decide_eq_false a0));refine zh ?_
  apply au (d:=76) rfl (b':=true) ((by rw[decide_eq_false a0];rfl));refine zh ?_
  rw[show(max (eN nmL s) 0 != 0)=false from by rw[xQ a0];rfl];exact dq (hN w8 a4) ⟨rfl,rfl,rfl,rfl,rfl,rfl,trivial⟩ rfl
 intro w9 a6;refine zh ?_;refine zFH rfl rfl ?_;apply zlp (λy:Nat×LP=>[(0,nI m),(1,.string (bs s)),(5,.string (bs (nq m))),(7,.bool (eC m)),(9,.bool (decide (0<=eN nmL s))),(10,nI (y.1:Nat))]) (λy=>y.2) (λy=>y.1<=4/\MC w y.2) (λy=>4-y.1) (0,w9) ⟨Me _,a6⟩;rintro⟨k,w1⟩ ⟨hk,b7⟩;dsimp only at hk b7 ⊢;refine zh ?_;refine zC ?_ ?_
 ·intro b6;replace b6:k<4:=dT b6;have e2:nmZ (k:Nat)=nth nmL k:=by unfold nmZ;rw[eQ.2 ⟨zo,zo⟩,if_pos rfl,LU]
  refine zh ?_;apply zc Mx (dR (k:Nat) w1)
  rintro v w3 ⟨rfl,a8⟩;rw[e2];refine zh ?_;refine zvH (bN rfl rfl) ?_;refine aT (λw1=>_=w1) (!(decide (0<=eN nmL s))) 2 rfl rfl rfl rfl rfl rfl ?_ ?_
  ·intro a1;refine zh ?_;refine nE 89 3 rfl a1
  rintro _ rfl
  rw[show((nth nmL k==s) && !(decide (0<=eN nmL s)))=false from by
   by_cases h:0<=eN nmL s
   ·rw[decide_eq_true h];simp
   have:=JV h k b6
   rw[show(nth nmL k==s)=false from by simpa using this];rfl]
  refine zh ?_;refine zFH rfl rfl ?_
  refine zxd (k+1,w3) ⟨b6,b7.trans a8⟩
 intro f4;refine zh ?_
 rcases Mi (eC m)with a2|a2
 ·obtain⟨n,rfl,hn⟩:=jb a2;obtain⟨e1,e0,_,_⟩:=Cs (xj n);have c7:=Gc n;apply aI rfl ((by rw[a2];rfl));rw[kC hn];refine zh ?_;apply zc call21 (oz (eF n) w1.heap.size (λ_=>0) w1 (ax w1) (G8 n hn));rintro v w3 ⟨a8,hP⟩;rw[e1]at hP;obtain⟨tv,rfl,b1⟩:=hP;obtain⟨ig,kp,ru,xs,rfl,h1,h2,h3,h4,h5⟩:=id b1;have i1:=h1.one;have i2:=h2.one;have i3:=h3.one;refine zh ?_;apply ar (ax w3) 1 zo (zeroValue56 _) rfl;intro tb w4 O4 b9 e4 f5 d7;apply zsb (us:=#[ig,kp,ru]) b9 (MM _) (by simp only[LW,i1,i2,i3];rfl);have d9:=b9.setRow (us:=#[ig,kp,ru]);have d6:LX (λq=>q=1) (λ_=>0) w3 O4 (w4.setRow tb #[ig,kp,ru]):=e4.trans (L5 zd b9.tag rfl);generalize w4.setRow tb #[ig,kp,ru]=w5 at *;have a9:=(b7.trans a8).trans d6.ext;have b0:=b1.ext d6.ext;have tc:∀W,MC w5 W->∀(j:Nat) (u:L7),[ig,kp,ru][j]? = some u->W.cell? (nA tb j)=some u:=λW e j u hu=>e.cell (d9.cellsAdd j u hu)
  have a5:MC w5 w5.drew:=(M9 w5).drew;refine zh ?_;apply aQ (λW=>MC w5 W) 18 rfl zk;apply zrm 0 rfl a5 rfl;apply zr 1 rfl a5 (λ_=>MR rfl rfl);apply zrm 2 rfl a5 rfl;apply dC (d:=103) rfl (b':=true) rfl;apply zro 3 rfl a5 (λ_=>MK rfl);apply zro 4 rfl a5 (λ_=>MR rfl rfl);apply zr 5 rfl a5 (λ_=>aV rfl rfl);apply zrm 6 rfl a5 rfl;apply dC (d:=107) rfl (b':=true) rfl;apply zto 7 rfl a5 (λw1 b8=>ai (us:=[ig,kp,ru]) (tc _ b8) (isAgg56 _) (MM _) rfl);apply zro 8 rfl a5 (λ_=>MK rfl);apply L0 9 zk rfl;apply aH rfl;apply zc call14 (xN n hn w5.drew);rintro v w6 ⟨c',c8,f3,e',e8,rfl⟩;obtain⟨d4,d2,d8,ys,e6,k1,k2,k3,k4,k5⟩:=c8;have b3:=a5.trans c';refine zh ?_;apply aa b3;rw[e6];apply L0 10 zk rfl;apply aH rfl;apply zc call23 (G2 (stS n).li (stS n).lk (stS n).ts ys d4 d2 d8 w6.heap.size (λ_=>0) w6 (ax w6) k1 k2 k3 k4 k5 c7);rintro v w7 ⟨rv,rfl,d',b2⟩;have a7:=b3.trans b2;refine zh ?_;apply aa a7;apply L0 11 zk rfl;apply aH rfl;apply zc call22 (uo (stS n).li (stS n).lk (stS n).li (stS n).lk (stS n).ts (stS n).ts (Am ig kp ru) (Am d4 d2 rv) w7 (b0.ext a7) (Im (k1.ext b2) (k2.ext b2) d'));rintro v w8 ⟨rfl,c9⟩;rw[B4];have a3:=a7.trans c9;refine zh ?_;apply aa a3
  apply zr 12 rfl a3 (λ_=>aV rfl rfl);apply zrm 13 rfl a3 rfl
  apply dC (d:=114) rfl (b':=true) rfl;apply zto 14 rfl a3 (λw1 b8=>ai (us:=[ig,kp,ru]) (tc _ b8) (isAgg56 _) (MM _) rfl)
  obtain⟨d3,d1,d0,zs,e9,m1,m2,m3,m4,m5⟩:=b0.ext a3;rw[show(Value.agg [ig,kp,ru].toArray)=Am d3 d1 d0 from e9];apply L0 15 zk rfl;apply aH rfl;apply zc call24 (qz (stS n).li (stS n).lk (stS n).ts zs d3 d1 d0 w8 m1 m2 m3 m4 m5);rintro v e7 ⟨rfl,b5⟩;rw[e0];refine zh ?_;refine zaf (a3.trans b5) λzS=>?_
  apply zr 16 rfl zS (λ_=>aV rfl rfl);apply zra 17 rfl zS rfl
  apply Mb zk;refine zh ?_
  refine af rfl rfl ⟨rfl,(a9.trans a3).trans b5⟩
 refine zTH rfl ((by rw[a2];rfl)) ?_;refine af rfl rfl ⟨rfl,b7⟩
end Go.Proofs.YteolbhblkgjbhaaGreatDoor
