/- Texts that the proof of this statement needs, merged and shortened. -/
import Derived.Test.YtpfpmhhigheccaaGreatDoorQWireDecodes5
open List renaming dropWhile_suffix->ix,mem_cons->G1,mem_append->G9,pairwise_cons->Gn,takeWhile_prefix->Gt,all_cons->Gx,not_mem_nil->Gy,all_nil->GG,all_eq_true->GH,length_append->GS,toArray_inj->GV,drop_zero->I0
open Go.VL.RV renaming move->ln,assign->G8,extract->GC,eql->GL,len->I4,not->Ic,add->Ie,build->Ih
open Go.VL.Ext renaming refl->G0
open Go.Proofs.Tryz renaming underlying9->G2,underlying22->G4,sizeOf32->G6,sizeOf49->Gp,zeroValue32->Gw,zeroValue49->Gz,isAgg32->GA,underlying5->GE,call106->GF,isAgg49->GM,sizeOf3->GU,prog->Ii,call11->Ij
open Go.VL.Upd renaming setRow->G5,set->GN
open Go.VL.WC renaming region->G7,seq->Gs,tail->GY,ret->I2,skip->I8
open Go.VL.WL renaming nil->Gq
open Go renaming World->Gu,Value->Gv
open Nat renaming le_of_eq->GB
open Go.Value renaming oneCell'->GD
open Go.VL.Ret renaming enter->GI
open Go.VL.RowT renaming nil->GJ
open Go.Value.tuple renaming injEq->GK
open Go.VL.WH renaming done->GO,one->I1
open Go.Value.int renaming injEq->GP
open Go.Value.agg renaming injEq->GQ
open List.cons renaming injEq->GR
open Array.mk renaming injEq->GT
open Go.Proofs.YtpfpmhhigheccaaGreatDoor.LR renaming bad->GW
open Go.VL.Fit renaming i64->GX
open Go.Proofs.YtpfpmhhigheccaaGreatDoor renaming PostC->GZ,TabV->Ik
open Go.VL renaming Upd->I3,Ext->I6
open Go.Proofs.YtpfpmhhigheccaaGreatDoor.RowsT renaming push->I5
open Go.VL.BlkO renaming setRow->I7,drew->Ib,upd->If
open Go.VL.WS renaming go->I9
open Option.some renaming inj->Ia
open Classical renaming byContradiction->Ig
set_option maxRecDepth 10000
open Go.VL Go.Proofs Go.Proofs.Tryz
namespace Go.Proofs.YtpfpmhhigheccaaGreatDoor
section
variable{kn:Kn}
inductive RK where
 |go (kn:Kn) (st:St)
 |bad (p:Nat) (e:Int)
def nw(kn:Kn):RS->RK
 |.go st=>.go kn st
 |.bad p e=>.bad p e
 |.other=>.bad 0 0
def Fe(kn:Kn)(st:St)(d:Nat):ML->RK
 |.ok x=>.go (kn++[x]) st
 |.bad p e=>.bad (d-p) e
def cz(kn:Kn)(st:St)(a0:List UInt8):RK:=
 if(aU a0).length=0 then .go kn st
 else if((aU a0).takeWhile ai==[108,101,116])=true then Fe kn st (bj a0).length (rq kn ((aU a0).dropWhile ai))
 else if((aU a0).takeWhile ai==[105,103,110,111,114,101])=true then
  (if st.hi=true then .bad ((bj a0).length-(aU a0).length) 11 else nw kn (FK st (bj a0).length (cT ((aU a0).dropWhile ai))))
 else if((aU a0).takeWhile ai==[107,101,101,112])=true then
  (if st.hk=true then .bad ((bj a0).length-(aU a0).length) 11 else nw kn (FJ st (bj a0).length (cT ((aU a0).dropWhile ai))))
 else nw kn (FH st ((bj a0).length-(aU a0).length) (if st.ts.length=40 then GW 0 3 else iD kn (aU a0)))
def D2(B:Nat)(O:Nat->Nat)(w w':Gu)(j jr ji jk jm rb:Nat)(s:LS)(fr:Nat)(M:RK):Prop:=
 ∃O' s',I3 (fun k=>k=j\/k=jr\/k=ji\/k=jk\/k=jm) O w O' w'/\Rng B O' w'/\Rd6 O' w' j rb s'/\s'.l=s.l/\
  match M with
  |.go kn' st'=>s'.e=0/\Mem O' w' jr ji jk s' st'/\Mac O' w' jm s'.mc kn'
  |.bad p e=>e≠0/\s'.e=e/\s'.bad=(fr:Int)+(p:Int)
theorem yX{r:List UInt8}{p:Nat}{e:Int}(h:rq kn r=.bad p e):p<=r.length:=by
 have h1:=cU r;have h2:=(ix (l:=ak r) ai).length_le;have h3:=cU ((ak r).dropWhile ai);unfold rq at h
 split at h
 ·cases h;omega
 split at h
 ·cases h;omega
 split at h
 ·cases hx:eB kn (ak ((ak r).dropWhile ai)).tail with
  |ok t=>rw[hx]at h;cases h
  |bad q f=>rw[hx]at h;cases h;omega
 cases h;omega
theorem qQ(B:Nat)(O:Nat->Nat)(w:Gu)(j jr ji jk jm rb:Nat)(s:LS)(fr to:Nat)(a0:List UInt8)(st:St)(hR:Rng B O w)(hj:j≠0)(b8:jr≠0)(b':ji≠0)(b9:jk≠0)(d1:j≠jr)(d0:j≠ji)(c':j≠jk)(h6:jr≠ji)(h5:jr≠jk)(h4:ji≠jk)(b4:jm≠0)(c7:j≠jm)(g4:jr≠jm)(h3:ji≠jm)(e8:jk≠jm)(g6:kn.length<=100000)(j1:fr<=to)(i':to<=s.l.length)(d5:s.l.length<=100000)(he:s.e=0) 
  (f':(s.l.take to).drop fr=a0) (i0:Mem O w jr ji jk s st) (i2:Mac O w jm s.mc kn) (h:Rd6 O w j rb s) :
  Ret Ii 73 [nP rb,nI fr,nI to] w fun _ w'=>D2 B O w w' j jr ji jk jm rb s fr (cz kn st a0):=by
 have c5:¬(fun q:Nat=>q=j\/q=jr\/q=ji\/q=jk\/q=jm) 0:=fun e=>by rcases e with e|e|e|e|e;exact hj e.symm;exact b8 e.symm;exact b' e.symm;exact b9 e.symm;exact b4 e.symm
 have h8:¬(fun q:Nat=>q=j) 0:=fun e=>hj e.symm
 have j0:a0.length=to-fr:=by rw[<-f'];simp;omega
 have j9:(aU a0).length<=(bj a0).length:=cU _;have j':(bj a0).length<=a0.length:=(Gt (l:=a0) _).length_le;obtain⟨m,i1⟩:∃m,m=fr+(bj a0).length:=⟨_,rfl⟩
 have d4:m<=s.l.length:=zo;have g8:(s.l.take m).drop fr=bj a0:=by
  have h1:bj a0=a0.take (bj a0).length:=List.prefix_iff_eq_take.1 (Gt _);have h2:(a0.take (bj a0).length)=(s.l.take m).drop fr:=by
   conv=>lhs;arg 2;rw[<-f']
   rw[List.take_drop,List.take_take,Nat.min_eq_left zo,i1]
  rw[<-h2,<-h1]
 have d6:bj a0 <:+ s.l.take m:=by rw[<-g8];exact List.drop_suffix _ _
 have b2:aU a0 <:+ s.l.take m:=(aT _).trans d6;have f7:(fr:Int)=(m:Int)-((bj a0).length:Int):=zo;have g7:(m:Int)-((ak (bj a0)).length:Int)=((m-(aU a0).length:Nat):Int):=by
  have:(ak (bj a0)).length=(aU a0).length:=rfl;omega
 refine GI func73 ntmps73 rfl rfl ?_;refine zh ?_
 refine aj (j:=1) h rfl (GU _) rfl rfl rfl rfl ?_;have i5:=h.s_pos (fr:Int);have j5:I3 (fun k=>k=j) O w O (w.setCell ⟨rb,1,none⟩ (nI (fr:Int))):=GN h8 h.tag rfl;refine zh ?_
 refine aj (j:=2) i5 rfl (GU _) rfl rfl rfl rfl ?_;have g9:=i5.s_to (to:Int);have j4:I3 (fun k=>k=j) O (w.setCell ⟨rb,1,none⟩ (nI (fr:Int))) O ((w.setCell ⟨rb,1,none⟩ (nI (fr:Int))).setCell ⟨rb,2,none⟩ (nI (to:Int))):=GN h8 i5.tag rfl;have e7:=j5.trans j4;have f8:=i0.upd e7 b8 b' b9 (fun e=>d1 e.symm) (fun e=>d0 e.symm) (fun e=>c' e.symm);have f9:=i2.upd e7 b4 (fun e=>c7 e.symm);have i9:=hR.upd e7;generalize (w.setCell ⟨rb,1,none⟩ (nI (fr:Int))).setCell ⟨rb,2,none⟩ (nI (to:Int))=w2 at *;refine zh ?_
 refine zvH (RV.ld g9.q0 rfl) ?_;refine zv (cJ G2 rfl rfl rfl fr to rfl rfl j1 i') ?_
 rw[show({s with pos:=(fr:Int),to:=(to:Int)}:LS).l=s.l from rfl,f'];refine zc call72 (de a0 35 w2) ?_;rintro v w9 ⟨rfl,i8⟩;rw[i8];clear i8 w9
 cases hf:a0.findIdx? (· == 35)with
 |none=>
  have hi:qt a0 35 = -1:=by unfold qt;rw[hf]
  have i3:=xw hf;rw[hi];obtain rfl:m=to:=by rw[i1,i3,j0];omega
  refine zh ?_;refine aX rfl rfl ?_
  have e0:=f8;have e3:=f9;have i7:=i9;have g2:=e7.mono (S':=fun k=>k=j\/k=jr\/k=ji\/k=jk\/k=jm) (fun _ h=>.inl h) c5;refine zh ?_;refine zc call103 (dq O w2 j rb ({s with pos:=(fr:Int),to:=(m:Int)}:LS) m (bj a0) hj d4 d5 rfl d6 f7 g9) ?_;rintro v w4 ⟨rfl,e5,f5⟩;have c8:=e0.upd f5 b8 b' b9 (fun e=>d1 e.symm) (fun e=>d0 e.symm) (fun e=>c' e.symm);have c9:=e3.upd f5 b4 (fun e=>c7 e.symm);have g':=i7.upd f5;have e6:=g2.trans (f5.mono (fun _ h=>.inl h) c5);refine zh ?_
  by_cases h0:(aU a0).length=0
  ·have hM:cz kn st a0=.go kn st:=by unfold cz;rw[if_pos h0]
   rw[hM];refine zTH rfl ((by have d3:(ak (bj a0)).length=0:=h0;simp[d3])) ?_;exact cj rfl ⟨O,_,e6,g',e5,rfl,he,c8.with rfl rfl rfl rfl rfl,c9⟩
  have d3:(ak (bj a0)).length=(aU a0).length:=rfl;refine zFH rfl ((by rw[d3,decide_eq_true zo];rfl)) ?_;refine zvH (RV.ld e5.q1 rfl) ?_;refine aj (j:=3) e5 rfl (GU _) rfl rfl rfl rfl ?_;have i4:=e5.s_bg ((m:Int)-((ak (bj a0)).length:Int));have f4:I3 (fun k=>k=j) O w4 O (w4.setCell ⟨rb,3,none⟩ (nI ((m:Int)-((ak (bj a0)).length:Int)))):=GN (fun e=>hj e.symm) e5.tag rfl;have d':=c8.upd f4 b8 b' b9 (fun e=>d1 e.symm) (fun e=>d0 e.symm) (fun e=>c' e.symm);have e2:=c9.upd f4 b4 (fun e=>c7 e.symm);have i6:=g'.upd f4;have g1:=e6.trans (f4.mono (fun _ h=>.inl h) c5);generalize w4.setCell ⟨rb,3,none⟩ (nI ((m:Int)-((ak (bj a0)).length:Int)))=w5 at *;refine zh ?_;refine zc call104 (gq O w5 j rb ({s with pos:=((m:Int)-((ak (bj a0)).length:Int)),to:=(m:Int),bg:=((m:Int)-((ak (bj a0)).length:Int))}:LS) m (aU a0) hj d4 d5 rfl b2 rfl i4) ?_;rintro v w6 ⟨rfl,e9,f3⟩;have a9:=d'.upd f3 b8 b' b9 (fun e=>d1 e.symm) (fun e=>d0 e.symm) (fun e=>c' e.symm);have a':=e2.upd f3 b4 (fun e=>c7 e.symm);have f6:=i6.upd f3;have c6:=g1.trans (f3.mono (fun _ h=>.inl h) c5);have j2:=(ix (l:=aU a0) ai).length_le;refine zh ?_;refine zvH (bU rfl rfl) ?_
  cases d2:((aU a0).takeWhile ai==[108,101,116])with
  |true=>
   have hM:cz kn st a0=Fe kn st (bj a0).length (rq kn ((aU a0).dropWhile ai)):=by unfold cz;rw[if_neg h0,if_pos d2]
   rw[hM];refine zTH rfl rfl ?_;refine zc call105 (yW B O w6 j jm rb ({s with pos:=(m:Int)-(((aU a0).dropWhile ai).length:Int),to:=(m:Int),bg:=((m:Int)-((ak (bj a0)).length:Int))}:LS) m ((aU a0).dropWhile ai) f6 hj b4 c7 d4 d5 rfl he ((ix _).trans b2) rfl g6 a' e9) ?_;rintro u w7 ⟨O7,v7,pos,bad,e,a5,b7,b1,a7⟩;have a6:=c6.trans (a5.mono (S':=fun k=>k=j\/k=jr\/k=ji\/k=jk\/k=jm) (fun _ h=>by rcases h with h|h;exact .inl h;exact .inr (.inr (.inr (.inr h)))) c5);have d9:=a9.upd a5 b8 b' b9 (fun h=>by rcases h with h|h;exact d1 h.symm;exact g4 h) (fun h=>by rcases h with h|h;exact d0 h.symm;exact h3 h) (fun h=>by rcases h with h|h;exact c' h.symm;exact e8 h);refine zh ?_
   cases hq:rq kn ((aU a0).dropWhile ai)with
   |ok x=>
    rw[hq]at a7;obtain⟨b6,e1⟩:=a7;exact aE rfl ⟨O7,_,a6,b7,b1,rfl,b6,d9.with rfl rfl rfl rfl rfl,e1⟩
   |bad p e'=>
    rw[hq]at a7;obtain⟨b6,b3,b0⟩:=a7;have d8:=yX hq;exact aE rfl ⟨O7,_,a6,b7,b1,rfl,b3,b6,by dsimp only;rw[b0];omega⟩
  |false=>
  refine zFH rfl rfl ?_;refine zvH (bU rfl rfl) ?_
  cases e4:((aU a0).takeWhile ai==[105,103,110,111,114,101])with
  |true=>
   refine aS rfl rfl ?_;have hb6d:=e9.drew;have hmem6d:=a9.upd (aa (S:=fun _=>False) (fun h=>h) O (G0 w6).drew) b8 b' b9 (fun h=>h) (fun h=>h) (fun h=>h);have hmac6d:=a'.upd (aa (S:=fun _=>False) (fun h=>h) O (G0 w6).drew) b4 (fun h=>h);have hR6d:=f6.drew;have hUt6d:=c6.drew;refine GY 8 rfl rfl zk zk ?_
   refine zh ?_;refine I9 ?_
   cases b5:st.hi with
   |true=>
    have hM:cz kn st a0=.bad ((bj a0).length-(aU a0).length) 11:=by unfold cz;rw[if_neg h0,if_neg (by rw[d2];decide),if_pos e4,if_pos b5]
    rw[hM];refine zc GF (oj O w6.drew j rb ({s with pos:=(m:Int)-(((aU a0).dropWhile ai).length:Int),to:=(m:Int),bg:=((m:Int)-((ak (bj a0)).length:Int))}:LS) hj he (hmem6d.fi.trans b5) hb6d) ?_;rintro u w7 ⟨b1,a5⟩;refine zh ?_;exact aE rfl ⟨O,_,hUt6d.trans (a5.mono (fun _ h=>.inl h) c5),hR6d.upd a5,b1,rfl,zd,rfl,by dsimp only;rw[d3];omega⟩
   |false=>
    have hM:cz kn st a0=nw kn (FK st (bj a0).length (cT ((aU a0).dropWhile ai))):=by unfold cz;rw[if_neg h0,if_neg (by rw[d2];decide),if_pos e4,if_neg (by rw[b5];decide)]
    rw[hM];refine zc GF (rm B O w6.drew j ji rb ({s with pos:=(m:Int)-(((aU a0).dropWhile ai).length:Int),to:=(m:Int),bg:=((m:Int)-((ak (bj a0)).length:Int))}:LS) m ((aU a0).dropWhile ai) hR6d hj b' d0 d4 d5 rfl he (hmem6d.fi.trans b5) (hmem6d.ni b5) ((ix _).trans b2) rfl hb6d) ?_;rintro u w7 ⟨O7,lv,pos,bad,e,a5,b7,b1,a7⟩;have a6:=hUt6d.trans (a5.mono (S':=fun k=>k=j\/k=jr\/k=ji\/k=jk\/k=jm) (fun _ h=>by rcases h with h|h;exact .inl h;exact .inr (.inr (.inl h))) c5);refine zh ?_
    cases hq:cT ((aU a0).dropWhile ai)with
    |ok l=>
     rw[hq]at a7;obtain⟨b6,a8⟩:=a7;obtain⟨⟨xs,a1,a2,a3,a4⟩,mb,mc,md,me,mf,mg⟩:=hmem6d;exact aE rfl ⟨O7,_,a6,b7,b1,rfl,b6,⟨⟨xs,a1.upd a5 b8 (fun h=>by rcases h with h|h;exact d1 h.symm;exact h6 h),a2,a3,fun i hi=>(a4 i hi).upd a5⟩,a8,mc.upd a5 b9 (fun h=>by rcases h with h|h;exact c' h.symm;exact h4 h.symm),rfl,me,(fun h=>by cases h),mg⟩,hmac6d.upd a5 b4 (fun h=>by rcases h with h|h;exact c7 h.symm;exact h3 h.symm)⟩
    |bad p e'=>
     rw[hq]at a7;obtain⟨b6,b3,b0⟩:=a7;have d8:=lJ hq;exact aE rfl ⟨O7,_,a6,b7,b1,rfl,b3,b6,by dsimp only;rw[b0];omega⟩
  |false=>
   refine zFH rfl rfl ?_;refine zvH (bU rfl rfl) ?_
   cases g0:((aU a0).takeWhile ai==[107,101,101,112])with
   |true=>
    refine aS rfl rfl ?_;have hb6d:=e9.drew;have hmem6d:=a9.upd (aa (S:=fun _=>False) (fun h=>h) O (G0 w6).drew) b8 b' b9 (fun h=>h) (fun h=>h) (fun h=>h);have hmac6d:=a'.upd (aa (S:=fun _=>False) (fun h=>h) O (G0 w6).drew) b4 (fun h=>h);have hR6d:=f6.drew;have hUt6d:=c6.drew;refine GY 8 rfl rfl zk zk ?_
    refine zh ?_;refine I9 ?_
    cases b5:st.hk with
    |true=>
     have hM:cz kn st a0=.bad ((bj a0).length-(aU a0).length) 11:=by unfold cz;rw[if_neg h0,if_neg (by rw[d2];decide),if_neg (by rw[e4];decide),if_pos g0,if_pos b5]
     rw[hM];refine zc GF (oi O w6.drew j rb ({s with pos:=(m:Int)-(((aU a0).dropWhile ai).length:Int),to:=(m:Int),bg:=((m:Int)-((ak (bj a0)).length:Int))}:LS) hj he (hmem6d.fk.trans b5) hb6d) ?_;rintro u w7 ⟨b1,a5⟩;refine zh ?_;exact aE rfl ⟨O,_,hUt6d.trans (a5.mono (fun _ h=>.inl h) c5),hR6d.upd a5,b1,rfl,zd,rfl,by dsimp only;rw[d3];omega⟩
    |false=>
     have hM:cz kn st a0=nw kn (FJ st (bj a0).length (cT ((aU a0).dropWhile ai))):=by unfold cz;rw[if_neg h0,if_neg (by rw[d2];decide),if_neg (by rw[e4];decide),if_pos g0,if_neg (by rw[b5];decide)]
     rw[hM];refine zc GF (rk B O w6.drew j jk rb ({s with pos:=(m:Int)-(((aU a0).dropWhile ai).length:Int),to:=(m:Int),bg:=((m:Int)-((ak (bj a0)).length:Int))}:LS) m ((aU a0).dropWhile ai) hR6d hj b9 c' d4 d5 rfl he (hmem6d.fk.trans b5) (hmem6d.nk b5) ((ix _).trans b2) rfl hb6d) ?_;rintro u w7 ⟨O7,lv,pos,bad,e,a5,b7,b1,a7⟩;have a6:=hUt6d.trans (a5.mono (S':=fun k=>k=j\/k=jr\/k=ji\/k=jk\/k=jm) (fun _ h=>by rcases h with h|h;exact .inl h;exact .inr (.inr (.inr (.inl h)))) c5);refine zh ?_
     cases hq:cT ((aU a0).dropWhile ai)with
     |ok l=>
      rw[hq]at a7;obtain⟨b6,a8⟩:=a7;obtain⟨⟨xs,a1,a2,a3,a4⟩,mb,mc,md,me,mf,mg⟩:=hmem6d;exact aE rfl ⟨O7,_,a6,b7,b1,rfl,b6,⟨⟨xs,a1.upd a5 b8 (fun h=>by rcases h with h|h;exact d1 h.symm;exact h5 h),a2,a3,fun i hi=>(a4 i hi).upd a5⟩,mb.upd a5 b' (fun h=>by rcases h with h|h;exact d0 h.symm;exact h4 h),a8,md,rfl,mf,(fun h=>by cases h)⟩,hmac6d.upd a5 b4 (fun h=>by rcases h with h|h;exact c7 h.symm;exact e8 h.symm)⟩
     |bad p e'=>
      rw[hq]at a7;obtain⟨b6,b3,b0⟩:=a7;have d8:=lJ hq;exact aE rfl ⟨O7,_,a6,b7,b1,rfl,b3,b6,by dsimp only;rw[b0];omega⟩
   |false=>
    have hM:cz kn st a0=nw kn (FH st ((bj a0).length-(aU a0).length) (if st.ts.length=40 then GW 0 3 else iD kn (aU a0))):=by unfold cz;rw[if_neg h0,if_neg (by rw[d2];decide),if_neg (by rw[e4];decide),if_neg (by rw[g0];decide)]
    refine aX rfl rfl ?_;obtain⟨xs,d7,g5,h',h9⟩:=a9.ru;refine zh ?_
    refine zc call107 (qL B O w6 j jr rb ({s with pos:=(m:Int)-(((aU a0).dropWhile ai).length:Int),to:=(m:Int),bg:=((m:Int)-((ak (bj a0)).length:Int))}:LS) m (aU a0) xs f6 hj b8 d1 d4 d5 rfl g7 he b4 c7 g4 a' b2 d7 h' e9) ?_;rintro v w7 ⟨O7,rv,a5,b7,a7⟩;have a6:=c6.trans (a5.mono (S':=fun k=>k=j\/k=jr\/k=ji\/k=jk\/k=jm) (fun _ h=>by rcases h with h|h;exact .inl h;exact .inr (.inl h)) c5);refine zh ?_
    rw[hM,g5]
    cases hq:(if xs.length=40 then GW 0 3 else iD kn (aU a0))with
    |ok t=>
     rw[hq]at a7;obtain⟨x,a8,g3,b1⟩:=a7;have j6:xs.length≠40:=fun e=>by rw[if_pos e]at hq;cases hq
     obtain⟨_,mb,mc,md,me,mf,mg⟩:=a9;obtain⟨q1,q2,q3,q4⟩:=I5 (ts:=st.ts) a8 g5 zo (fun i hi=>(h9 i hi).upd a5) g3;exact aE rfl ⟨O7,_,a6,b7,b1,rfl,he,⟨⟨xs++[x],q1,q2,q3,q4⟩,mb.upd a5 b' (fun h=>by rcases h with h|h;exact d0 h.symm;exact h6 h.symm),mc.upd a5 b9 (fun h=>by rcases h with h|h;exact c' h.symm;exact h5 h.symm),md,me,mf,mg⟩,a'.upd a5 b4 (fun h=>by rcases h with h|h;exact c7 h.symm;exact g4 h.symm)⟩
    |bad p e=>
     rw[hq]at a7;obtain⟨b3,b1⟩:=a7;exact aE rfl ⟨O7,_,a6,b7,b1,rfl,b3,rfl,by dsimp only;rw[d3];omega⟩
 |some k=>
  have hi:qt a0 35=(k:Nat):=by unfold qt;rw[hf]
  obtain⟨i3,j8⟩:=xu hf;rw[hi];have j7:m=fr+k:=by rw[i1,i3];simp;omega
  refine zh ?_;refine zTH rfl ((decide_eq_true zo)) ?_
  refine aj (j:=2) g9 rfl (GU _) rfl rfl rfl rfl ?_;rw[show(fr:Int)+((k:Nat):Int)=(m:Int)from by omega];have j3:=g9.s_to (m:Int);have h7:I3 (fun k=>k=j) O w2 O (w2.setCell ⟨rb,2,none⟩ (nI (m:Int))):=GN h8 g9.tag rfl;have e0:=f8.upd h7 b8 b' b9 (fun e=>d1 e.symm) (fun e=>d0 e.symm) (fun e=>c' e.symm);have e3:=f9.upd h7 b4 (fun e=>c7 e.symm);have i7:=i9.upd h7;have g2:=(e7.trans h7).mono (S':=fun k=>k=j\/k=jr\/k=ji\/k=jk\/k=jm) (fun _ h=>.inl h) c5;generalize w2.setCell ⟨rb,2,none⟩ (nI (m:Int))=w3 at *;refine zh ?_
  refine zc call103 (dq O w3 j rb ({s with pos:=(fr:Int),to:=(m:Int)}:LS) m (bj a0) hj d4 d5 rfl d6 f7 j3) ?_;rintro v w4 ⟨rfl,e5,f5⟩;have c8:=e0.upd f5 b8 b' b9 (fun e=>d1 e.symm) (fun e=>d0 e.symm) (fun e=>c' e.symm);have c9:=e3.upd f5 b4 (fun e=>c7 e.symm);have g':=i7.upd f5;have e6:=g2.trans (f5.mono (fun _ h=>.inl h) c5);refine zh ?_
  by_cases h0:(aU a0).length=0
  ·have hM:cz kn st a0=.go kn st:=by unfold cz;rw[if_pos h0]
   rw[hM];refine zTH rfl ((by have d3:(ak (bj a0)).length=0:=h0;simp[d3])) ?_;exact cj rfl ⟨O,_,e6,g',e5,rfl,he,c8.with rfl rfl rfl rfl rfl,c9⟩
  have d3:(ak (bj a0)).length=(aU a0).length:=rfl;refine zFH rfl ((by rw[d3,decide_eq_true zo];rfl)) ?_;refine zvH (RV.ld e5.q1 rfl) ?_;refine aj (j:=3) e5 rfl (GU _) rfl rfl rfl rfl ?_;have i4:=e5.s_bg ((m:Int)-((ak (bj a0)).length:Int));have f4:I3 (fun k=>k=j) O w4 O (w4.setCell ⟨rb,3,none⟩ (nI ((m:Int)-((ak (bj a0)).length:Int)))):=GN (fun e=>hj e.symm) e5.tag rfl;have d':=c8.upd f4 b8 b' b9 (fun e=>d1 e.symm) (fun e=>d0 e.symm) (fun e=>c' e.symm);have e2:=c9.upd f4 b4 (fun e=>c7 e.symm);have i6:=g'.upd f4;have g1:=e6.trans (f4.mono (fun _ h=>.inl h) c5);generalize w4.setCell ⟨rb,3,none⟩ (nI ((m:Int)-((ak (bj a0)).length:Int)))=w5 at *;refine zh ?_;refine zc call104 (gq O w5 j rb ({s with pos:=((m:Int)-((ak (bj a0)).length:Int)),to:=(m:Int),bg:=((m:Int)-((ak (bj a0)).length:Int))}:LS) m (aU a0) hj d4 d5 rfl b2 rfl i4) ?_;rintro v w6 ⟨rfl,e9,f3⟩;have a9:=d'.upd f3 b8 b' b9 (fun e=>d1 e.symm) (fun e=>d0 e.symm) (fun e=>c' e.symm);have a':=e2.upd f3 b4 (fun e=>c7 e.symm);have f6:=i6.upd f3;have c6:=g1.trans (f3.mono (fun _ h=>.inl h) c5);have j2:=(ix (l:=aU a0) ai).length_le;refine zh ?_;refine zvH (bU rfl rfl) ?_
  cases d2:((aU a0).takeWhile ai==[108,101,116])with
  |true=>
   have hM:cz kn st a0=Fe kn st (bj a0).length (rq kn ((aU a0).dropWhile ai)):=by unfold cz;rw[if_neg h0,if_pos d2]
   rw[hM];refine zTH rfl rfl ?_;refine zc call105 (yW B O w6 j jm rb ({s with pos:=(m:Int)-(((aU a0).dropWhile ai).length:Int),to:=(m:Int),bg:=((m:Int)-((ak (bj a0)).length:Int))}:LS) m ((aU a0).dropWhile ai) f6 hj b4 c7 d4 d5 rfl he ((ix _).trans b2) rfl g6 a' e9) ?_;rintro u w7 ⟨O7,v7,pos,bad,e,a5,b7,b1,a7⟩;have a6:=c6.trans (a5.mono (S':=fun k=>k=j\/k=jr\/k=ji\/k=jk\/k=jm) (fun _ h=>by rcases h with h|h;exact .inl h;exact .inr (.inr (.inr (.inr h)))) c5);have d9:=a9.upd a5 b8 b' b9 (fun h=>by rcases h with h|h;exact d1 h.symm;exact g4 h) (fun h=>by rcases h with h|h;exact d0 h.symm;exact h3 h) (fun h=>by rcases h with h|h;exact c' h.symm;exact e8 h);refine zh ?_
   cases hq:rq kn ((aU a0).dropWhile ai)with
   |ok x=>
    rw[hq]at a7;obtain⟨b6,e1⟩:=a7;exact aE rfl ⟨O7,_,a6,b7,b1,rfl,b6,d9.with rfl rfl rfl rfl rfl,e1⟩
   |bad p e'=>
    rw[hq]at a7;obtain⟨b6,b3,b0⟩:=a7;have d8:=yX hq;exact aE rfl ⟨O7,_,a6,b7,b1,rfl,b3,b6,by dsimp only;rw[b0];omega⟩
  |false=>
  refine zFH rfl rfl ?_;refine zvH (bU rfl rfl) ?_
  cases e4:((aU a0).takeWhile ai==[105,103,110,111,114,101])with
  |true=>
   refine aS rfl rfl ?_;have hb6d:=e9.drew;have hmem6d:=a9.upd (aa (S:=fun _=>False) (fun h=>h) O (G0 w6).drew) b8 b' b9 (fun h=>h) (fun h=>h) (fun h=>h);have hmac6d:=a'.upd (aa (S:=fun _=>False) (fun h=>h) O (G0 w6).drew) b4 (fun h=>h);have hR6d:=f6.drew;have hUt6d:=c6.drew;refine GY 8 rfl rfl zk zk ?_
   refine zh ?_;refine I9 ?_
   cases b5:st.hi with
   |true=>
    have hM:cz kn st a0=.bad ((bj a0).length-(aU a0).length) 11:=by unfold cz;rw[if_neg h0,if_neg (by rw[d2];decide),if_pos e4,if_pos b5]
    rw[hM];refine zc GF (oj O w6.drew j rb ({s with pos:=(m:Int)-(((aU a0).dropWhile ai).length:Int),to:=(m:Int),bg:=((m:Int)-((ak (bj a0)).length:Int))}:LS) hj he (hmem6d.fi.trans b5) hb6d) ?_;rintro u w7 ⟨b1,a5⟩;refine zh ?_;exact aE rfl ⟨O,_,hUt6d.trans (a5.mono (fun _ h=>.inl h) c5),hR6d.upd a5,b1,rfl,zd,rfl,by dsimp only;rw[d3];omega⟩
   |false=>
    have hM:cz kn st a0=nw kn (FK st (bj a0).length (cT ((aU a0).dropWhile ai))):=by unfold cz;rw[if_neg h0,if_neg (by rw[d2];decide),if_pos e4,if_neg (by rw[b5];decide)]
    rw[hM];refine zc GF (rm B O w6.drew j ji rb ({s with pos:=(m:Int)-(((aU a0).dropWhile ai).length:Int),to:=(m:Int),bg:=((m:Int)-((ak (bj a0)).length:Int))}:LS) m ((aU a0).dropWhile ai) hR6d hj b' d0 d4 d5 rfl he (hmem6d.fi.trans b5) (hmem6d.ni b5) ((ix _).trans b2) rfl hb6d) ?_;rintro u w7 ⟨O7,lv,pos,bad,e,a5,b7,b1,a7⟩;have a6:=hUt6d.trans (a5.mono (S':=fun k=>k=j\/k=jr\/k=ji\/k=jk\/k=jm) (fun _ h=>by rcases h with h|h;exact .inl h;exact .inr (.inr (.inl h))) c5);refine zh ?_
    cases hq:cT ((aU a0).dropWhile ai)with
    |ok l=>
     rw[hq]at a7;obtain⟨b6,a8⟩:=a7;obtain⟨⟨xs,a1,a2,a3,a4⟩,mb,mc,md,me,mf,mg⟩:=hmem6d;exact aE rfl ⟨O7,_,a6,b7,b1,rfl,b6,⟨⟨xs,a1.upd a5 b8 (fun h=>by rcases h with h|h;exact d1 h.symm;exact h6 h),a2,a3,fun i hi=>(a4 i hi).upd a5⟩,a8,mc.upd a5 b9 (fun h=>by rcases h with h|h;exact c' h.symm;exact h4 h.symm),rfl,me,(fun h=>by cases h),mg⟩,hmac6d.upd a5 b4 (fun h=>by rcases h with h|h;exact c7 h.symm;exact h3 h.symm)⟩
    |bad p e'=>
     rw[hq]at a7;obtain⟨b6,b3,b0⟩:=a7;have d8:=lJ hq;exact aE rfl ⟨O7,_,a6,b7,b1,rfl,b3,b6,by dsimp only;rw[b0];omega⟩
  |false=>
   refine zFH rfl rfl ?_;refine zvH (bU rfl rfl) ?_
   cases g0:((aU a0).takeWhile ai==[107,101,101,112])with
   |true=>
    refine aS rfl rfl ?_;have hb6d:=e9.drew;have hmem6d:=a9.upd (aa (S:=fun _=>False) (fun h=>h) O (G0 w6).drew) b8 b' b9 (fun h=>h) (fun h=>h) (fun h=>h);have hmac6d:=a'.upd (aa (S:=fun _=>False) (fun h=>h) O (G0 w6).drew) b4 (fun h=>h);have hR6d:=f6.drew;have hUt6d:=c6.drew;refine GY 8 rfl rfl zk zk ?_
    refine zh ?_;refine I9 ?_
    cases b5:st.hk with
    |true=>
     have hM:cz kn st a0=.bad ((bj a0).length-(aU a0).length) 11:=by unfold cz;rw[if_neg h0,if_neg (by rw[d2];decide),if_neg (by rw[e4];decide),if_pos g0,if_pos b5]
     rw[hM];refine zc GF (oi O w6.drew j rb ({s with pos:=(m:Int)-(((aU a0).dropWhile ai).length:Int),to:=(m:Int),bg:=((m:Int)-((ak (bj a0)).length:Int))}:LS) hj he (hmem6d.fk.trans b5) hb6d) ?_;rintro u w7 ⟨b1,a5⟩;refine zh ?_;exact aE rfl ⟨O,_,hUt6d.trans (a5.mono (fun _ h=>.inl h) c5),hR6d.upd a5,b1,rfl,zd,rfl,by dsimp only;rw[d3];omega⟩
    |false=>
     have hM:cz kn st a0=nw kn (FJ st (bj a0).length (cT ((aU a0).dropWhile ai))):=by unfold cz;rw[if_neg h0,if_neg (by rw[d2];decide),if_neg (by rw[e4];decide),if_pos g0,if_neg (by rw[b5];decide)]
     rw[hM];refine zc GF (rk B O w6.drew j jk rb ({s with pos:=(m:Int)-(((aU a0).dropWhile ai).length:Int),to:=(m:Int),bg:=((m:Int)-((ak (bj a0)).length:Int))}:LS) m ((aU a0).dropWhile ai) hR6d hj b9 c' d4 d5 rfl he (hmem6d.fk.trans b5) (hmem6d.nk b5) ((ix _).trans b2) rfl hb6d) ?_;rintro u w7 ⟨O7,lv,pos,bad,e,a5,b7,b1,a7⟩;have a6:=hUt6d.trans (a5.mono (S':=fun k=>k=j\/k=jr\/k=ji\/k=jk\/k=jm) (fun _ h=>by rcases h with h|h;exact .inl h;exact .inr (.inr (.inr (.inl h)))) c5);refine zh ?_
     cases hq:cT ((aU a0).dropWhile ai)with
     |ok l=>
      rw[hq]at a7;obtain⟨b6,a8⟩:=a7;obtain⟨⟨xs,a1,a2,a3,a4⟩,mb,mc,md,me,mf,mg⟩:=hmem6d;exact aE rfl ⟨O7,_,a6,b7,b1,rfl,b6,⟨⟨xs,a1.upd a5 b8 (fun h=>by rcases h with h|h;exact d1 h.symm;exact h5 h),a2,a3,fun i hi=>(a4 i hi).upd a5⟩,mb.upd a5 b' (fun h=>by rcases h with h|h;exact d0 h.symm;exact h4 h),a8,md,rfl,mf,(fun h=>by cases h)⟩,hmac6d.upd a5 b4 (fun h=>by rcases h with h|h;exact c7 h.symm;exact e8 h.symm)⟩
     |bad p e'=>
      rw[hq]at a7;obtain⟨b6,b3,b0⟩:=a7;have d8:=lJ hq;exact aE rfl ⟨O7,_,a6,b7,b1,rfl,b3,b6,by dsimp only;rw[b0];omega⟩
   |false=>
    have hM:cz kn st a0=nw kn (FH st ((bj a0).length-(aU a0).length) (if st.ts.length=40 then GW 0 3 else iD kn (aU a0))):=by unfold cz;rw[if_neg h0,if_neg (by rw[d2];decide),if_neg (by rw[e4];decide),if_neg (by rw[g0];decide)]
    refine aX rfl rfl ?_;obtain⟨xs,d7,g5,h',h9⟩:=a9.ru;refine zh ?_
    refine zc call107 (qL B O w6 j jr rb ({s with pos:=(m:Int)-(((aU a0).dropWhile ai).length:Int),to:=(m:Int),bg:=((m:Int)-((ak (bj a0)).length:Int))}:LS) m (aU a0) xs f6 hj b8 d1 d4 d5 rfl g7 he b4 c7 g4 a' b2 d7 h' e9) ?_;rintro v w7 ⟨O7,rv,a5,b7,a7⟩;have a6:=c6.trans (a5.mono (S':=fun k=>k=j\/k=jr\/k=ji\/k=jk\/k=jm) (fun _ h=>by rcases h with h|h;exact .inl h;exact .inr (.inl h)) c5);refine zh ?_
    rw[hM,g5]
    cases hq:(if xs.length=40 then GW 0 3 else iD kn (aU a0))with
    |ok t=>
     rw[hq]at a7;obtain⟨x,a8,g3,b1⟩:=a7;have j6:xs.length≠40:=fun e=>by rw[if_pos e]at hq;cases hq
     obtain⟨_,mb,mc,md,me,mf,mg⟩:=a9;obtain⟨q1,q2,q3,q4⟩:=I5 (ts:=st.ts) a8 g5 zo (fun i hi=>(h9 i hi).upd a5) g3;exact aE rfl ⟨O7,_,a6,b7,b1,rfl,he,⟨⟨xs++[x],q1,q2,q3,q4⟩,mb.upd a5 b' (fun h=>by rcases h with h|h;exact d0 h.symm;exact h6 h.symm),mc.upd a5 b9 (fun h=>by rcases h with h|h;exact c' h.symm;exact h5 h.symm),md,me,mf,mg⟩,a'.upd a5 b4 (fun h=>by rcases h with h|h;exact c7 h.symm;exact g4 h.symm)⟩
    |bad p e=>
     rw[hq]at a7;obtain⟨b3,b1⟩:=a7;exact aE rfl ⟨O7,_,a6,b7,b1,rfl,b3,rfl,by dsimp only;rw[d3];omega⟩
end
inductive TK where
 |ok (st:St)
 |bad (p:Nat) (e:Int)
def om:Nat->Kn->St->Nat->List UInt8->TK
 |0,_,_,_,_=>.bad 0 3
 |n+1,kn,st,fr,r=>
  match cz kn st (dE r)with
  |.bad p e=>.bad (fr+p) e
  |.go kn' st'=>if(dE r).length=r.length then .ok st' else om n kn' st' (fr+(dE r).length+1) (r.drop ((dE r).length+1))
def st0:St:=⟨[],[],[],false,false⟩
def jA(l:List UInt8):TK:=if 4096<l.length then .bad 0 3 else om (l.length+1) [] st0 0 l
theorem yw{kn a0:Kn}{st a1:St}{a2:List UInt8}(h:cz kn st a2=.go a0 a1):a0.length<=kn.length+1:=by
 have hl:∀ {R:RS},nw kn R=.go a0 a1->a0.length<=kn.length+1:=fun {R} h=>by
  cases R with
  |go s=>cases h;omega
  |bad p e=>cases h
  |other=>cases h
 unfold cz at h
 split at h
 ·cases h;omega
 split at h
 ·unfold Fe at h
  split at h
  ·cases h;simp
  cases h
 split at h
 ·split at h
  ·cases h
  exact hl h
 split at h
 ·split at h
  ·cases h
  exact hl h
 exact hl h
def LoopK(l:List UInt8)(M:TK)(O:Nat->Nat)(w:Gu)(jr ji jk jm:Nat)(n fr:Nat)(kn:Kn)(st:St)(s:LS):Prop:=
 (fr<=l.length/\s.e=0/\l.length-fr<n/\om n kn st fr (l.drop fr)=M/\Mem O w jr ji jk s st/\Mac O w jm s.mc kn/\kn.length<=fr)\/(fr=l.length+1/\s.e=0/\M=.ok st/\Mem O w jr ji jk s st)\/
 (∃p e,e≠0/\s.e=e/\s.bad=((p:Nat):Int)/\M=.bad p e)
theorem LoopK.next{l:List UInt8}{M:TK}{B j jr ji jk jm rb n fr:Nat}{O:Nat->Nat}{w w':Gu}{kn:Kn}{st:St}{s:LS}(a3:fr<=l.length)(hn:l.length-fr<n+1)(hM:om (n+1) kn st fr (l.drop fr)=M)(a2:kn.length<=fr) 
  (hP:D2 B O w w' j jr ji jk jm rb s fr (cz kn st (dE (l.drop fr)))) :
  ∃O' s' n' kn' st',I3 (fun k=>k=j\/k=jr\/k=ji\/k=jk\/k=jm) O w O' w'/\Rng B O' w'/\Rd6 O' w' j rb s'/\s'.l=s.l/\n'<n+1/\LoopK l M O' w' jr ji jk jm n' (fr+(dE (l.drop fr)).length+1) kn' st' s':=by
 obtain⟨O',s',hU,hR,hb,e1,hq⟩:=hP;have a0:(dE (l.drop fr)).length<=l.length-fr:=by
  have:=(Gt (l:=l.drop fr) (fun b=>!(b==10))).length_le;simpa[dE]using this
 have a4:(l.drop fr).length=l.length-fr:=by simp
 unfold om at hM;refine⟨O',s',?_⟩
 cases hr:cz kn st (dE (l.drop fr))with
 |bad p e=>
  rw[hr]at hq hM;obtain⟨q1,q2,q3⟩:=hq;exact⟨0,kn,st,hU,hR,hb,e1,zo,.inr (.inr ⟨fr+p,e,q1,q2,by rw[q3];simp,hM.symm⟩)⟩
 |go kn' st'=>
  have a1:=yw hr;rw[hr]at hq hM;dsimp only at hM;obtain⟨q1,q2,q3⟩:=hq
  split at hM
  ·rename_i he;exact⟨0,kn',st',hU,hR,hb,e1,zo,.inr (.inl ⟨zo,q1,hM.symm,q2⟩)⟩
  rename_i he;exact⟨n,kn',st',hU,hR,hb,e1,zo,.inl ⟨zo,q1,zo,by rw[<-hM,List.drop_drop,Nat.add_assoc],q2,q3,zo⟩⟩
def D0(w:Gu)(v:Gv):TK->Prop
 |.ok st=>∃tv,v=.tuple #[tv,nI 0,nI 0]/\Tx w tv st.li st.lk st.ts
 |.bad p e=>v=.tuple #[DA qq qq qq,nI (p:Int),nI e]/\e≠0
theorem Mem.tx{O:Nat->Nat}{w:Gu}{jr ji jk:Nat}{s:LS}{st:St}(h:Mem O w jr ji jk s st):Tx w (DA s.ig s.kp s.ru) st.li st.lk st.ts:=by
 obtain⟨xs,a1,a2,a3,a4⟩:=h.ru;exact⟨s.ig,s.kp,s.ru,xs,rfl,h.ig.sl,h.kp.sl,a1.sl,a2,fun i hi=>(a4 i hi).weak fun _ _=>rfl⟩
theorem sU(l:List UInt8)(B:Nat)(O:Nat->Nat)(w:Gu)(hR:Rng B O w)(g0:l.length<=1000000000):Ret Ii 44 [.string (bs l)] w fun v w'=>I6 w w'/\D0 w' v (jA l):=by
 obtain⟨T,g3,hT⟩:=hR.bound;have a6:¬(fun q:Nat=>T<=q) 0:=fun e=>by omega
 have c6:∀b,¬T<=O b:=fun b=>by have:=hT b;omega
 refine GI func44 ntmps44 rfl rfl ?_;refine zg ?_
 refine ar hR T zo (Gz _) rfl ?_;intro xb w1 O1 b8 f6 f8 g5;have b6:I3 (fun q=>T<=q) O w O1 w1:=f6.mono (fun _ h=>GB h.symm) a6;refine zg ?_
 refine zvG (bQ G2 rfl) ?_
 by_cases hl:4096<l.length
 ·have hM:jA l=.bad 0 3:=by unfold jA;rw[if_pos hl]
  rw[hM];refine zTG rfl ((decide_eq_true zo)) ?_;refine zv (aD Fk (Gz _) rfl (by first|rfl|(simp only[Gx,GG];rfl)) rfl rfl) ?_;refine zsa (us:=(#[nS,nS,nS]:Array Gv)) b8 (Gp _) ?_;have a7:=b8.setRow (us:=(#[nS,nS,nS]:Array Gv));have a4:I3 (fun k=>k=T) O1 w1 O1 (w1.setRow xb (#[nS,nS,nS]:Array Gv)):=G5 zo b8.tag rfl;refine zg ?_;refine bX rfl rfl rfl rfl a7.cellsAdd (GM _) (Gp _) ⟨bA (b6.trans (a4.mono (fun _ h=>GB h.symm) a6)) c6,rfl,by decide⟩
 have f9:jA l=om (l.length+1) [] st0 0 l:=by unfold jA;rw[if_neg hl]
 refine zFG rfl ((decide_eq_false zo)) ?_;refine zv (aD Fv (zeroValue145 _) rfl (by first|rfl|(simp only[Gx,GG];rfl)) rfl rfl) ?_
 refine zv (Ih (vs:=[(0,.agg #[.string (bs l),nI 0,nI 0,nI 0,nI 0,nI 0])]) (cells:=(⟨l,0,0,0,0,0,nS,nS,nS,nS,false,false⟩:LS).cells) Fu (zeroValue148 _) rfl zk) ?_;refine aG f8 (T+1) zo rfl rfl ?_
 intro rb w2 O2 d2 e5 f7 g4;have f5:Rd6 O2 w2 (T+1) rb ⟨l,0,0,0,0,0,nS,nS,nS,nS,false,false⟩:=d2;have e7:=b8.upd e5 zo zo;have d6:=b6.trans (e5.mono (fun _ h=>by rw[h];omega) a6);refine zg ?_;refine zlp (fun y:Nat×Nat×Kn×St×(Nat->Nat)×World×LS=>[(0,.string (bs l)),(2,nP xb),(5,nP rb),(6,nI (y.2.1:Nat))]) (fun y=>y.2.2.2.2.2.1) (fun y=>BlkO y.2.2.2.2.1 y.2.2.2.2.2.1 T xb (#[nS,nS,nS]:Array Gv) 49/\Rd6 y.2.2.2.2.1 y.2.2.2.2.2.1 (T+1) rb y.2.2.2.2.2.2/\y.2.2.2.2.2.2.l=l/\I3 (fun q=>T<=q) O w y.2.2.2.2.1 y.2.2.2.2.2.1/\Rng B y.2.2.2.2.1 y.2.2.2.2.2.1/\y.2.1<=10000000/\LoopK l (jA l) y.2.2.2.2.1 y.2.2.2.2.2.1 (T+2) (T+3) (T+4) (T+5) y.1 y.2.1 y.2.2.1 y.2.2.2.1 y.2.2.2.2.2.2) (fun y=>y.1) (l.length+1,0,[],st0,O2,w2,⟨l,0,0,0,0,0,nS,nS,nS,nS,false,false⟩) (⟨e7,f5,rfl,d6,f7,by dsimp only;omega,.inl ⟨by dsimp only;omega,rfl,by dsimp only;omega,by rw[f9];rfl,⟨⟨[],GJ _ _ _ _ _ _,rfl,by simp,fun i hi=>absurd hi (by simp)⟩,GJ _ _ _ _ _ _,GJ _ _ _ _ _ _,rfl,rfl,fun _=>rfl,fun _=>rfl⟩,Mac.nil _ _ _,Nat.zero_le _⟩⟩) ?_;rintro⟨n,fr,kn,st,O1,w3,s⟩ ⟨a2,a3,a5,a1,d8,f4,e6⟩;dsimp only at a2 a3 a5 a1 d8 f4 e6 ⊢
 rcases e6 with⟨c5,he,e1,b1,a0,b4,e3⟩|⟨c5,he,b1,a0⟩|⟨p,e,b9,d0,a',b1⟩
 ·obtain⟨n,rfl⟩:∃m,n=m+1:=⟨n-1,by omega⟩
  have g2:(dE (l.drop fr)).length<=l.length-fr:=by
   have:=(Gt (l:=l.drop fr) (fun b=>!(b==10))).length_le;simpa[dE]using this
  have q5:=a3.q5;rw[he]at q5;refine zg ?_;refine zvG (bQ G2 rfl) ?_;refine ao (d:=21) rfl (b':=true) ((decide_eq_true zo)) ?_;refine zg ?_;refine zvG (RV.ld q5 rfl) ?_;refine zTG rfl rfl ?_;refine zvG (bQ G2 rfl) ?_;refine zv (jf G2 rfl rfl fr rfl c5) ?_;refine zc call72 (de (l.drop fr) 10 w3) ?_;rintro v w9 ⟨rfl,e0⟩;rw[e0];clear e0 w9
  cases hf:(l.drop fr).findIdx? (· == 10)with
  |none=>
   have hi:qt (l.drop fr) 10 = -1:=by unfold qt;rw[hf]
   have e2:=congrArg List.length (vQ hf);rw[List.length_drop]at e2;rw[hi,show((l.length:Nat):Int)=((fr+(dE (l.drop fr)).length:Nat):Int)from by omega];refine zg ?_;refine zFG rfl rfl ?_;refine zc call73 (qQ B O1 w3 (T+1) (T+2) (T+3) (T+4) (T+5) rb s fr (fr+(dE (l.drop fr)).length) (dE (l.drop fr)) st d8 zo zo zo zo zo zo zo zo zo zo zo zo zo zo zo zo zo (by rw[a5];omega) (by rw[a5];omega) he (by rw[a5];exact rn l fr) a0 b4 a3) ?_;rintro v w4 d9;obtain⟨O4,s4,n4,c8,c7,b7,d7,d1,g1,a9,d'⟩:=LoopK.next c5 e1 b1 e3 d9;have c9:=If a2 b7 zo zo;have b0:=a1.trans (b7.mono (fun _ h=>by rcases h with h|h|h|h|h<;>rw[h]<;>omega) a6);refine zg ?_;refine zvG (Ie rfl rfl (GX zo)) ?_;refine zx (n4,fr+(dE (l.drop fr)).length+1,c8,c7,O4,w4,s4) (⟨c9,d1,g1.trans a5,b0,d7,by dsimp only;omega,d'⟩) (a9)
  |some k=>
   have hi:qt (l.drop fr) 10=(k:Nat):=by unfold qt;rw[hf]
   have e2:=vP hf;rw[hi];refine zg ?_;refine zTG rfl ((decide_eq_true zo)) ?_;refine zvG (Ie rfl rfl (GX zo)) ?_;rw[show(fr:Int)+((k:Nat):Int)=((fr+(dE (l.drop fr)).length:Nat):Int)from by omega];refine zc call73 (qQ B O1 w3 (T+1) (T+2) (T+3) (T+4) (T+5) rb s fr (fr+(dE (l.drop fr)).length) (dE (l.drop fr)) st d8 zo zo zo zo zo zo zo zo zo zo zo zo zo zo zo zo zo (by rw[a5];omega) (by rw[a5];omega) he (by rw[a5];exact rn l fr) a0 b4 a3) ?_;rintro v w4 d9;obtain⟨O4,s4,n4,c8,c7,b7,d7,d1,g1,a9,d'⟩:=LoopK.next c5 e1 b1 e3 d9;have c9:=If a2 b7 zo zo;have b0:=a1.trans (b7.mono (fun _ h=>by rcases h with h|h|h|h|h<;>rw[h]<;>omega) a6);refine zg ?_;refine zvG (Ie rfl rfl (GX zo)) ?_;refine zx (n4,fr+(dE (l.drop fr)).length+1,c8,c7,O4,w4,s4) (⟨c9,d1,g1.trans a5,b0,d7,by dsimp only;omega,d'⟩) (a9)
 ·have q5:=a3.q5;rw[he]at q5;refine zg ?_;refine zvG (bQ G2 rfl) ?_;refine ao (d:=21) rfl (b':=false) ((decide_eq_false zo)) ?_;rw[b1];have q6:=a3.q6;have q7:=a3.q7;have q8:=a3.q8;have f':=a0.tx;have f3:=a0.ig.one;have e':=a0.kp.one;obtain⟨xs,e8,_,_,_⟩:=a0.ru;have e9:=e8.one;refine zg ?_;refine zFG rfl rfl ?_;refine zvG (RV.ld q5 rfl) ?_;refine zFG rfl rfl ?_;refine zv (ah (us:=[s.ig,s.kp,s.ru]) (xM q6 q7 q8) (GM _) (Gp _) rfl) ?_;refine zsb (us:=#[s.ig,s.kp,s.ru]) a2 (Gp _) (by simp only[Gx,f3,e',e9];rfl) ?_;have a7:=a2.setRow (us:=#[s.ig,s.kp,s.ru]);have a4:I3 (fun k=>k=T) O1 w3 O1 (w3.setRow xb #[s.ig,s.kp,s.ru]):=G5 zo a2.tag rfl;have d3:=a1.trans (a4.mono (fun _ h=>GB h.symm) a6);have b3:=a0.upd a4 zo zo zo zo zo zo;refine zg ?_;refine bX rfl rfl rfl rfl a7.cellsAdd (GM _) (Gp _) ⟨bA d3 c6,_,rfl,b3.tx⟩
 rw[b1];have q5:=a3.q5;rw[d0]at q5;have q4:=a3.q4;rw[a']at q4;have c':((e==0):Bool)=false:=by simpa using b9
 have b2:((e != 0):Bool)=true:=by simpa using b9
 cases e4:decide ((fr:Int)<=(l.length:Int))with
 |false=>
  refine zg ?_;refine zvG (bQ G2 rfl) ?_
  refine ao (d:=21) rfl (b':=false) (e4) ?_;refine zg ?_
  refine zFG rfl rfl ?_;refine zvG (RV.ld q5 rfl) ?_
  refine aS rfl (b2) ?_;have d4:w3.drew.cell? ⟨rb,4,none⟩=some (nI (p:Nat)):=q4;have d5:w3.drew.cell? ⟨rb,5,none⟩=some (nI e):=q5;refine zg ?_
  refine aK (fun W=>W.cell? ⟨rb,4,none⟩=some (nI (p:Nat))/\W.cell? ⟨rb,5,none⟩=some (nI e)) 14 rfl zk ?_;refine zin ⟨d4,d5⟩ fun zS=>?_
  refine zr 0 rfl zS (fun _=>aD Fk (Gz _) rfl (by first|rfl|(simp only[Gx,GG];rfl)) rfl rfl) ?_;refine zrm 1 rfl zS rfl ?_
  refine zr 2 rfl zS (fun _=>aq rfl) ?_;refine zrf 3 rfl zS rfl ?_
  refine zrf 4 rfl zS rfl ?_;refine zt 5 rfl zS (fun w1 a8=>RV.ld a8.1 rfl) ?_
  refine zrm 6 rfl zS rfl ?_;refine zr 7 rfl zS (fun _=>aq rfl) ?_
  refine zrf 8 rfl zS rfl ?_;refine zrf 9 rfl zS rfl ?_
  refine zt 10 rfl zS (fun w1 a8=>RV.ld a8.2 rfl) ?_;refine I1 11 zk rfl ?_
  refine zsa (us:=#[nS,nS,nS]) a2.drew (Gp _) ?_;have a7:=I7 (us:=#[nS,nS,nS]) a2.drew;have a4:I3 (fun k=>k=T) O1 w3.drew O1 (w3.drew.setRow xb #[nS,nS,nS]):=G5 zo a2.tag rfl;have b5:=(Ib a3).upd a4 zo zo;have z5:=b5.q5;rw[d0]at z5;have z4:=b5.q4;rw[a']at z4;refine zg ?_
  refine zaf (⟨z4,z5⟩) fun zS=>?_
  refine zra 12 rfl zS rfl ?_;refine zra 13 rfl zS rfl ?_
  refine GO zk ?_;refine zg ?_
  refine bX rfl rfl rfl rfl a7.cellsAdd (GM _) (Gp _) ⟨bA ((a1.drew).trans (a4.mono (fun _ h=>GB h.symm) a6)) c6,rfl,b9⟩
 |true=>
  refine zg ?_;refine zvG (bQ G2 rfl) ?_
  refine ao (d:=21) rfl (b':=true) (e4) ?_;refine zg ?_
  refine zvG (RV.ld q5 rfl) ?_;refine zFG rfl (c') ?_
  refine zvG (RV.ld q5 rfl) ?_;refine aS rfl (b2) ?_
  have d4:w3.drew.cell? ⟨rb,4,none⟩=some (nI (p:Nat)):=q4;have d5:w3.drew.cell? ⟨rb,5,none⟩=some (nI e):=q5;refine zg ?_;refine aK (fun W=>W.cell? ⟨rb,4,none⟩=some (nI (p:Nat))/\W.cell? ⟨rb,5,none⟩=some (nI e)) 14 rfl zk ?_;refine zin ⟨d4,d5⟩ fun zS=>?_
  refine zr 0 rfl zS (fun _=>aD Fk (Gz _) rfl (by first|rfl|(simp only[Gx,GG];rfl)) rfl rfl) ?_;refine zrm 1 rfl zS rfl ?_
  refine zr 2 rfl zS (fun _=>aq rfl) ?_;refine zrf 3 rfl zS rfl ?_
  refine zrf 4 rfl zS rfl ?_;refine zt 5 rfl zS (fun w1 a8=>RV.ld a8.1 rfl) ?_
  refine zrm 6 rfl zS rfl ?_;refine zr 7 rfl zS (fun _=>aq rfl) ?_
  refine zrf 8 rfl zS rfl ?_;refine zrf 9 rfl zS rfl ?_
  refine zt 10 rfl zS (fun w1 a8=>RV.ld a8.2 rfl) ?_;refine I1 11 zk rfl ?_
  refine zsa (us:=#[nS,nS,nS]) a2.drew (Gp _) ?_;have a7:=I7 (us:=#[nS,nS,nS]) a2.drew;have a4:I3 (fun k=>k=T) O1 w3.drew O1 (w3.drew.setRow xb #[nS,nS,nS]):=G5 zo a2.tag rfl;have b5:=(Ib a3).upd a4 zo zo;have z5:=b5.q5;rw[d0]at z5;have z4:=b5.q4;rw[a']at z4;refine zg ?_
  refine zaf (⟨z4,z5⟩) fun zS=>?_
  refine zra 12 rfl zS rfl ?_;refine zra 13 rfl zS rfl ?_
  refine GO zk ?_;refine zg ?_
  refine bX rfl rfl rfl rfl a7.cellsAdd (GM _) (Gp _) ⟨bA ((a1.drew).trans (a4.mono (fun _ h=>GB h.symm) a6)) c6,rfl,b9⟩
theorem PostC.shape{B:Nat}{w:Gu}{v:Gv}{li lk:List Int}{ts:List R3}(h:GZ B w v li lk ts):∃cs:List Gv,∃e:Int,v=.tuple #[.agg cs.toArray,nI e]/\cs.length=17/\(cs.all GD=true):=by
 rcases h with⟨_,rfl⟩|⟨_,⟨a,b,a1,a0,u,_,_,_,_,_,_,rfl,hT,_⟩|⟨_,rfl⟩⟩
 ·exact⟨_,1,rfl,rfl,rfl⟩
 ·obtain⟨gv,lc,rc,rfl,h1,h2,h3⟩:=hT;obtain⟨ll,lo⟩:=h2.one;obtain⟨rl,ro⟩:=h3.one;refine⟨_,0,rfl,by simp[ll,rl],?_⟩;rw[GH];intro x hx;simp only[G9,G1,Gy,or_false]at hx
  rcases hx with(hx|hx)|hx
  ·rcases hx with rfl|rfl|rfl|rfl|rfl
   ·rfl
   ·rfl
   ·rfl
   ·rfl
   exact h1.one
  ·exact lo x hx
  exact ro x hx
 exact⟨_,7,rfl,rfl,rfl⟩
theorem TabV.ext{w w':Gu}{v:Gv}{t:TabM}(h:Ik w v t)(e:I6 w w'):Ik w' v t:=by
 obtain⟨gv,lc,rc,rfl,h1,h2,h3⟩:=h;exact⟨gv,lc,rc,rfl,h1.ext e,h2.ext e,h3.ext e⟩
theorem TabN.mono{B B':Nat}{v:Gv}(h:TabN B v)(hb:B'<=B):TabN B' v:=fun cs e x hx=>(h cs e x hx).mono hb
theorem PostC.ext{B B':Nat}{w w':Gu}{v:Gv}{li lk:List Int}{ts:List R3}(h:GZ B w v li lk ts)(e:I6 w w')(hb:B'<=B):GZ B' w' v li lk ts:=by
 rcases h with h|⟨h0,⟨a,b,a1,a0,u,h1,h2,h3,h4,h5,h6,h7,hT,hN⟩|h⟩
 ·exact .inl h
 ·exact .inr ⟨h0,.inl ⟨a,b,a1,a0,u,h1,h2,h3,h4,h5,h6,h7,hT.ext e,hN.mono hb⟩⟩
 exact .inr ⟨h0,.inr h⟩
theorem PostC.upd{B:Nat}{S:Nat->Prop}{O O':Nat->Nat}{w0 w w':Gu}{v:Gv}{li lk:List Int}{ts:List R3}(h:GZ w0.heap.size w v li lk ts)(r:Rng B O w0)(u:I3 S O w O' w'):GZ w0.heap.size w' v li lk ts:=by
 rcases h with h|⟨h0,⟨a,b,a1,a0,x,h1,h2,h3,h4,h5,h6,h7,hT,hN⟩|h⟩
 ·exact .inl h
 ·refine .inr ⟨h0,.inl ⟨a,b,a1,a0,x,h1,h2,h3,h4,h5,h6,h7,?_,hN⟩⟩;obtain⟨gv,lc,rc,rfl,k1,k2,k3⟩:=hT;have hn:=hN _ rfl;have n1:NewV w0.heap.size gv:=hn gv (by simp);exact⟨gv,lc,rc,rfl,k1.upd (n1.free k1 (fun x _=>by simp) r) u,k2.upd (fun x hx=>hn x (by simp[hx])) r u,k3.upd (fun x hx=>hn x (by simp[hx])) r u⟩
 exact .inr ⟨h0,.inr h⟩
def D1(B:Nat)(w:Gu)(v:Gv):TK->Prop
 |.bad p e=>v=.tuple #[.agg tab0,nI (p:Int),nI e]/\e≠0
 |.ok st=>∃(cs:List Gv) (e:Int),v=.tuple #[.agg cs.toArray,nI 0,nI e]/\GZ B w (.tuple #[.agg cs.toArray,nI e]) st.li st.lk st.ts
theorem nj(l:List UInt8)(w:Gu)(b9:l.length<=1000000000):Ret Ii 18 [.string (bs l)] w fun v w'=>I6 w w'/\D1 w.heap.size w' v (jA l):=by
 refine GI func18 ntmps18 rfl rfl ?_;refine zh ?_
 refine ar (aw w) 1 zo (Gw _) rfl ?_;intro cb w1 O1 a8 b8 b5 d0;refine zh ?_
 refine zc call44 (sU l w.heap.size O1 w1 b5 b9) ?_;rintro v w2 ⟨a7,hP⟩;have d2:=b5.ext a7;have hz:¬(0=1):=zo
 cases hM:jA l with
 |bad p e=>
  rw[hM]at hP;obtain⟨rfl,he⟩:=hP;refine zh ?_;refine ar (aw w2) 1 zo (Gz _) rfl ?_;intro tb w3 O3 a1 b4 c8 c';refine zsa (us:=#[qq,qq,qq]) a1 (Gp _) ?_;have a0:=(b4.trans (G5 (us:=#[qq,qq,qq]) zd a1.tag rfl)).ext;generalize w3.setRow tb #[qq,qq,qq]=w4 at *;have c5:=aa (S:=fun q=>q=1) hz O1 (a7.trans a0);have a4:=a8.upd (aa (S:=fun _=>False) (fun h=>h) O1 (a7.trans a0)) zd (fun h=>h);refine zh ?_;refine zTH rfl ((by simpa using he)) ?_;refine zvH (Ih (cells:=tab0) yC (Gw _) rfl rfl) ?_;refine zsa (us:=tab0) a4 (G6 _) ?_;have b3:=a4.setRow (us:=tab0);have c7:I3 (fun j=>j=1) O1 w4 O1 (w4.setRow cb tab0):=G5 zd a4.tag rfl;refine zh ?_;refine bX rfl rfl rfl rfl (b3.cellsAdd) (GA _) (G6 _) (⟨((b8.trans c5).trans c7).ext,rfl,he⟩)
 |ok st=>
  rw[hM]at hP;obtain⟨tv,rfl,hx⟩:=hP;obtain⟨ta,a5,tc,xs,rfl,x1,x2,x3,_⟩:=hx.ex;have o1:=x1.one;have o2:=x2.one;have o3:=x3.one;refine zh ?_;refine ar (aw w2) 1 zo (Gz _) rfl ?_;intro tb w3 O3 a1 b4 c8 c';refine zsb (us:=#[ta,a5,tc]) a1 (Gp _) (by simp[o1,o2,o3]) ?_;have b1:=a1.setRow (us:=#[ta,a5,tc]);have a0:=(b4.trans (G5 (us:=#[ta,a5,tc]) zd a1.tag rfl)).ext;generalize w3.setRow tb #[ta,a5,tc]=w4 at *;refine zh ?_;refine zFH rfl rfl ?_;refine zv (ah (us:=[ta,a5,tc]) b1.cellsAdd (GM _) (Gp _) rfl) ?_;refine zc call14 (tM st.li st.lk st.ts (DA ta a5 tc) w4 (hx.ext a0)) ?_;rintro v w5 ⟨c9,hC⟩;obtain⟨cs,e,rfl,a6,b6⟩:=hC.shape;refine zh ?_;refine ar (aw w5) 1 zo (Gw _) rfl ?_;intro xb w6 O6 a2 c6 d1 d3;refine aZ (us:=cs.toArray) a2 (show cs.toArray.size=17 from by simpa using a6) (by rw[show cs.toArray.size=17 from by simpa using a6];exact G6 _) (by simpa using b6) rfl rfl rfl ?_;have b0:=a2.setRow (us:=cs.toArray);have a9:=(c6.trans (G5 (us:=cs.toArray) zd a2.tag rfl)).ext;generalize w6.setRow xb cs.toArray=w7 at *;have a':=((a7.trans a0).trans c9).trans a9;have b':=aa (S:=fun q=>q=1) hz O1 a';have a3:=a8.upd (aa (S:=fun _=>False) (fun h=>h) O1 a') zd (fun h=>h);refine zh ?_;refine zvH (ah (us:=cs) (by simpa using b0.cellsAdd) (GA _) (by rw[a6];exact G6 _) rfl) ?_
  refine aZ (us:=cs.toArray) a3 (show cs.toArray.size=17 from by simpa using a6) (by rw[show cs.toArray.size=17 from by simpa using a6];exact G6 _) (by simpa using b6) rfl rfl rfl ?_;have b2:=a3.setRow (us:=cs.toArray);have b7:I3 (fun j=>j=1) O1 w7 O1 (w7.setRow cb cs.toArray):=G5 zd a3.tag rfl;refine zh ?_
  refine bX rfl rfl rfl rfl (us:=cs) (by simpa using b2.cellsAdd) (GA _) (by rw[a6];exact G6 _) ⟨((b8.trans b').trans b7).ext,cs,e,rfl,((hC.ext a9 (Nat.le_refl _)).upd (b5.ext (a7.trans a0)) b7).ext (G0 _) (((d0.trans a7).trans a0).size)⟩
def Bk(x:Int):List Int->List Int
 |[]=>[x]
 |y::r=>if x<y then x::y::r else if x=y then y::r else y::Bk x r
def rX(l:List Int):List Int:=l.foldr Bk []
theorem pP(x z:Int):∀l:List Int,z∈Bk x l↔z=x\/z∈l
 |[]=>by simp[Bk]
 |y::r=>by
  unfold Bk
  split
  ·simp
  split
  ·rename_i h;subst h;simp
  rw[G1,pP x z r,G1]
  constructor
  ·rintro(h|h|h)
   ·exact .inr (.inl h)
   ·exact .inl h
   exact .inr (.inr h)
  rintro(h|h|h)
  ·exact .inr (.inl h)
  ·exact .inl h
  exact .inr (.inr h)
theorem zp(x:Int):∀l:List Int,l.Pairwise (· < ·)->(Bk x l).Pairwise (· < ·)
 |[],_=>by simp[Bk]
 |y::r,h=>by
  obtain⟨h1,h2⟩:=Gn.1 h;unfold Bk
  split
  ·rename_i hxy;refine Gn.2 ⟨fun z hz=>?_,h⟩
   rcases G1.1 hz with rfl|hz
   ·exact hxy
   have:=h1 z hz;omega
  split
  ·exact h
  refine Gn.2 ⟨fun z hz=>?_,zp x r h2⟩
  rcases(pP x z r).1 hz with rfl|hz
  ·omega
  exact h1 z hz
theorem mL(l:List Int):(∀x,x∈rX l↔x∈l)/\(rX l).Pairwise (· < ·):=by
 induction l with
 |nil=>exact⟨fun x=>Iff.rfl,.nil⟩
 |cons a l ih=>
  refine⟨fun x=>?_,zp a _ ih.2⟩;show x∈Bk a (rX l)↔_;rw[pP,ih.1,G1]
theorem BV:∀(a b:List Int),a.Pairwise (· < ·)->b.Pairwise (· < ·)->(∀x,x∈a↔x∈b)->a=b
 |[],[],_,_,_=>rfl
 |[],y::r,_,_,h=>absurd ((h y).2 (by simp)) (by simp)
 |x::a,[],_,_,h=>absurd ((h x).1 (by simp)) (by simp)
 |x::a,y::b,ha,hb,h=>by
  obtain⟨a1,a2⟩:=Gn.1 ha;obtain⟨b1,b2⟩:=Gn.1 hb;have a4:x=y:=by
   rcases G1.1 ((h x).1 (by simp))with e|e
   ·exact e
   rcases G1.1 ((h y).2 (by simp))with e'|e'
   ·exact e'.symm
   have:=a1 y e';have:=b1 x e;omega
  subst a4;congr 1;refine BV a b a2 b2 fun z=>?_
  have hz:=h z;simp only[G1]at hz
  constructor
  ·intro a3
   rcases hz.1 (.inr a3)with e|e
   ·subst e;exact absurd (a1 z a3) zo
   exact e
  intro a0
  rcases hz.2 (.inr a0)with e|e
  ·subst e;exact absurd (b1 z a0) zo
  exact e
theorem Bv(l:List Int):oM l=rX l:=BV _ _ (vf l) (mL l).2 fun x=>by rw[rV,(mL l).1]
def DB(se:Bool)(g:Gr)(s:List Int)(m:Int):List Int:=rX (DE se g s m)
theorem step_eq(se:Bool)(g:Gr):cG se g=DB se g:=funext fun _=>funext fun _=>Bv _
def stK(se:Bool)(ts:List Nd):Option (List (List Nat)×List Nat):=if dg ts=0 then BY (DB se (qs ts)) (dy (qs ts))else none
theorem stM_eq(se:Bool)(ts:List Nd):stM se ts=stK se ts:=by unfold stM stK;rw[step_eq]
abbrev oN:List R3:=[(.mk 0 1 [],.mk 0 2 [],false)]
theorem sk:∃st,jA B2=.ok st/\st.ts=oN/\st.li=[]/\st.lk=[]:=⟨⟨oN,[],[],false,false⟩,by kernel_rfl,rfl,rfl,rfl⟩
theorem tR:et [] [] oN=true:=by decide +kernel
theorem Ac:(stM true (ry oN)).isSome=true:=by rw[stM_eq];decide +kernel
theorem Ab:(stM false (kU oN)).isSome=true:=by rw[stM_eq];decide +kernel
theorem PostC.made{B:Nat}{w:Gu}{v:Gv}{li lk:List Int}{ts:List R3}(h:GZ B w v li lk ts):
  (∃e:Int,e≠0/\v=.tuple #[.agg tab0,nI e]/\((e=1/\et li lk ts=false)\/(e=7/\et li lk ts=true/\(stM true (ry ts)=none\/stM false (kU ts)=none))))\/
  ∃a b a1 a0 gv lc rc,Made li lk ts a b a1 a0/\v=.tuple #[.agg (bD (mm li lk ts a b a1 a0).ig (mm li lk ts a b a1 a0).kp (mm li lk ts a b a1 a0).br (mm li lk ts a b a1 a0).rules gv lc rc).toArray,nI 0]/\
   Ints w gv (mm li lk ts a b a1 a0).groups/\PartV w lc (mm li lk ts a b a1 a0).left (mm li lk ts a b a1 a0).lt/\PartV w rc (mm li lk ts a b a1 a0).right (mm li lk ts a b a1 a0).rt/\Dh B (gv::(lc++rc)):=by
 rcases h with⟨h0,rfl⟩|⟨h0,⟨a,b,a1,a0,u,h1,h2,h3,h4,h5,h6,rfl,hT,hN⟩|⟨h1,rfl⟩⟩
 ·exact .inl ⟨1,zd,rfl,.inl ⟨rfl,h0⟩⟩
 ·obtain⟨gv,lc,rc,rfl,k1,k2,k3⟩:=hT;have hn:=hN _ rfl;exact .inr ⟨a,b,a1,a0,gv,lc,rc,⟨h0,h1,h2,h3,h4,h5,h6⟩,rfl,k1,k2,k3,fun x hx=>hn x (by simp only[G9,G1,Gy,or_false]at hx ⊢;rcases hx with hx|hx|hx<;>simp[hx])⟩
 exact .inl ⟨7,zd,rfl,.inr ⟨rfl,h0,h1⟩⟩
theorem C0{t:TabM}(h:bh t=true):(sD t).length<=100000000/\13<=(sD t).length:=by
 have hB:=gw h;obtain⟨h1,h2⟩:=iU h;obtain⟨s1,s2,s3⟩:=nY h;have a0:=hB.r;have n1:=cA (n:=t.rules.toNat) zo;have n2:=cA s1;have n3:=cA s2;have n4:=cA s3;have n5:=gE (BS (xs:=t.groups) (by have:=hB.g.1;omega) fun n hn=>by have:=hB.g.2 n hn;omega);have n6:=pk hB.l h1;have n7:=pk hB.rt h2;have n8:0<(dD t.rules.toNat).length:=List.length_pos_iff.2 (CD _);have e:(xn t).length=4+(De (yy t)).length:=by unfold xn;rw[GS];rfl
 rw[pV,e];simp only[De,yy,GS];omega
theorem mN(w:Gu):Ret Ii 6 [] w fun v w'=>v=.bool true/\I6 w w':=by
 obtain⟨st,c7,c6,c9,c8⟩:=sk;refine GI func6 ntmps6 rfl rfl ?_;refine zg ?_;refine zc call18 (nj B2 w zd) ?_;rintro v w1 ⟨d7,hP⟩;rw[c7]at hP;obtain⟨cs,e,rfl,hC⟩:=hP;rw[c6,c9,c8]at hC
 rcases hC.made with⟨e',e0,hv,b3⟩|⟨a,b,d9,d8,gv,lc,rc,hM,hv,k1,k2,k3,hn⟩
 ·exfalso
  rcases b3 with⟨_,h1⟩|⟨_,_,h1|h1⟩
  ·rw[tR]at h1;cases h1
  ·have:=Ac;rw[h1]at this;cases this
  have:=Ab;rw[h1]at this;cases this
 have hi:=hM.inv;generalize mm [] [] oN a b d9 d8=t at *;have c':cs=bD t.ig t.kp t.br t.rules gv lc rc/\e=0:=by
  simp only[GK,GT,GR,GQ,GP,and_true,true_and]at hv;simpa using hv
 obtain⟨rfl,rfl⟩:=c';have b0:bh t=true:=hi.right;obtain⟨a6,b1⟩:(bD t.ig t.kp t.br t.rules gv lc rc).length=17/\(bD t.ig t.kp t.br t.rules gv lc rc).all GD=true:=by
  obtain⟨e5,e',h1,h2,h3⟩:=hC.shape;simp only[GK,GT,GR,GQ,GP,and_true,true_and]at h1;rw[h1.1];exact⟨h2,h3⟩
 have a1:=a6;obtain⟨c5,d'⟩:=C0 b0;refine zg ?_;refine ar (aw w1) 7 zo (Gw _) rfl ?_;intro tb w2 O2 a3 d4 e2 e4;refine aZ (us:=(bD t.ig t.kp t.br t.rules gv lc rc).toArray) a3 (show(bD t.ig t.kp t.br t.rules gv lc rc).toArray.size=17 from by simpa using a1) (by rw[show(bD t.ig t.kp t.br t.rules gv lc rc).toArray.size=17 from by simpa using a1];exact G6 _) b1 rfl rfl rfl ?_;have a':=a3.setRow (us:=(bD t.ig t.kp t.br t.rules gv lc rc).toArray);have d3:=d4.trans (G5 (us:=(bD t.ig t.kp t.br t.rules gv lc rc).toArray) zd a3.tag rfl);generalize w2.setRow tb (bD t.ig t.kp t.br t.rules gv lc rc).toArray=w3 at *;have a8:=d3.ext;have b6:∀W,I6 w3 W->∀(j:Nat) (u:Gv),(bD t.ig t.kp t.br t.rules gv lc rc)[j]? = some u->W.cell? (nA tb j)=some u:=fun W e j u hu=>e.cell (by simpa using a'.cellsAdd j u (by simpa using hu))
 have b8:∀W,I6 w3 W->Ik W (.agg (bD t.ig t.kp t.br t.rules gv lc rc).toArray) t:=fun W e=>⟨gv,lc,rc,rfl,k1.ext (a8.trans e),k2.ext (a8.trans e),k3.ext (a8.trans e)⟩
 refine zg ?_;refine zv (ah (us:=bD t.ig t.kp t.br t.rules gv lc rc) (b6 w3 (G0 _)) (GA _) (by rw[a1];exact G6 _) rfl) ?_
 refine zc call8 (oI t _ w3 (b8 w3 (G0 _))) ?_;rintro _ w4 ⟨d6,⟨h0,_⟩|⟨_,bv,rfl,b7,_⟩⟩
 ·rw[b0]at h0;cases h0
 refine zg ?_;refine zc call7 (oJ (sD t) bv w4 b7 c5) ?_
 rintro u5 w5 ⟨b9,hD⟩;rw[C4 b0]at hD;obtain⟨tv,rfl,g2,l2,r2,rfl,m1,m2,m3⟩:=hD;have a0:(bD t.ig t.kp t.br t.rules g2 l2 r2).length=17:=by simp[m2.one.1,m3.one.1]
 have a5:(bD t.ig t.kp t.br t.rules g2 l2 r2).all GD=true:=by
  refine GH.2 fun x hx=>?_
  rcases G9.1 hx with hx|hx
  ·rcases G9.1 hx with hx|hx
   ·simp only[G1,Gy,or_false]at hx
    rcases hx with rfl|rfl|rfl|rfl|rfl<;>first|rfl|exact m1.one
   exact m2.one.2 x hx
  exact m3.one.2 x hx
 have b4:=d6.trans b9;refine zg ?_;refine ar (aw w5) 8 zo (Gw _) rfl ?_;intro ub w6 O6 a2 d2 e1 e3;refine aZ (us:=(bD t.ig t.kp t.br t.rules g2 l2 r2).toArray) a2 (show(bD t.ig t.kp t.br t.rules g2 l2 r2).toArray.size=17 from by simpa using a0) (by rw[show(bD t.ig t.kp t.br t.rules g2 l2 r2).toArray.size=17 from by simpa using a0];exact G6 _) a5 rfl rfl rfl ?_;have a9:=a2.setRow (us:=(bD t.ig t.kp t.br t.rules g2 l2 r2).toArray);have d1:=d2.trans (G5 (us:=(bD t.ig t.kp t.br t.rules g2 l2 r2).toArray) zd a2.tag rfl);generalize w6.setRow ub (bD t.ig t.kp t.br t.rules g2 l2 r2).toArray=w7 at *;have a7:=d1.ext;have a4:=b4.trans a7;have b2:∀(j:Nat) (u:Gv),(bD t.ig t.kp t.br t.rules g2 l2 r2)[j]? = some u->w7.cell? (nA ub j)=some u:=fun j u hu=>by simpa using a9.cellsAdd j u (by simpa using hu)
 have d0:=b7.ext (b9.trans a7);refine zg ?_;refine zc Ij (oY [] (nS) w7 (GJ mG 0 1 (fun _=>0) w7 0).sl) ?_;rintro _ w8 ⟨rfl,b5⟩;rw[b5];clear b5;rw[show sM []=14695981039346656037 from rfl];refine zg ?_;refine ao (d:=25) rfl (b':=true) (rfl) ?_;refine zg ?_;refine ao (d:=29) rfl (b':=true) (rfl) ?_;refine zg ?_;refine ao (d:=33) rfl (b':=true) (rfl) ?_;refine zg ?_;refine zvG (I4 (by first|exact d0) G4 rfl) ?_;refine ao (d:=38) rfl (b':=true) ((decide_eq_true zo)) ?_;refine zg ?_;refine zvG (ah (us:=bD t.ig t.kp t.br t.rules gv lc rc) (b6 w7 a4) (GA _) (by rw[a1];exact G6 _) rfl) ?_;refine zvG (ah (us:=bD t.ig t.kp t.br t.rules g2 l2 r2) b2 (GA _) (by rw[a0];exact G6 _) rfl) ?_;refine zc call16 (sR t _ _ w7 (b8 w7 a4) ⟨g2,l2,r2,rfl,m1.ext a7,m2.ext a7,m3.ext a7⟩) ?_;rintro _ w9 ⟨rfl,d5⟩;refine zg ?_;refine ae rfl rfl (⟨rfl,((d7.trans a8).trans a4).trans d5⟩)
def D7:TabM:=⟨0,0,0,0,[],⟨0,[],[],[],[]⟩,[],⟨0,[],[],[],[]⟩,[]⟩
theorem nQ:bh D7=false:=zd
theorem BP(w:Gu):Ik w (.agg tab0) D7:=by
 have hi:∀ {α:Type} (f:α->List Gv),Sl f 1 w (nS) []:=fun f=>(GJ f 0 1 (fun _=>0) w 0).sl
 exact⟨nS,cS,cS,rfl,hi _,⟨_,_,_,_,_,rfl,hi _,hi _,hi _,hi _,hi _⟩,⟨_,_,_,_,_,rfl,hi _,hi _,hi _,hi _,hi _⟩⟩
theorem Bs{l:List UInt8}{e:Int}(h:sE l=.error e):(e=10/\12<=l.length/\l.take 4=hdrW/\eH (l.take (l.length-8))≠l)\/(e=4/\¬(12<=l.length/\l.take 4=hdrW/\eH (l.take (l.length-8))≠l)):=by
 unfold sE at h
 split at h
 ·rename_i hc
  cases h
  exact .inr ⟨rfl,fun k=>hc.elim (fun h=>zo) (fun h=>h k.2.1)⟩
 rename_i hc;have a1:12<=l.length:=Nat.le_of_not_lt fun h=>hc (.inl h)
 have a0:l.take 4=hdrW:=Ig fun h=>hc (.inr h)
 split at h
 ·rename_i hs
  cases h
  exact .inl ⟨rfl,a1,a0,hs⟩
 rename_i hs;refine .inr ⟨?_,fun k=>hs k.2.2⟩
 split at h
 ·split at h
  ·cases h;rfl
  cases h
 cases h;rfl
theorem lM(l:List UInt8)(v:Gv)(w:Gu)(h:Sl mG 1 w v l): Ret Ii 3 [v] w fun u w' => u = .bool true ∧ I6 w w' := by
 refine GI func3 ntmps3 rfl rfl ?_
 refine Gs ?_
 refine G7 ?_
 refine zv (G8 rfl) ?_
 refine Gq ?_
 refine ax ?_
 refine Gs ?_
 refine Gs ?_
 refine G7 ?_
 refine zv (ln rfl) ?_
 refine zv (I4 (by first | exact h) G4 rfl) ?_
 refine zv (RV.gtr rfl rfl) ?_
 refine zv (ln rfl) ?_
 refine cu (I6 w) (!true) 2 (G0 w) rfl rfl rfl rfl rfl ?_ ?_
 ·skip
  intro a1
  refine DV rfl ?_
  refine zc call6 (mN w) ?_
  rintro _ w1 ⟨rfl, hE1⟩
  refine DV rfl ?_
  refine zv (Ic rfl) ?_
  refine Gq ?_
  refine dI (tA := 11) 3 (hE1) rfl rfl rfl (fun v hv => (Ia hv).symm.trans (congrArg Value.bool a1)) rfl
 intro w1 hE1
 refine Gq ?_
 refine ax ?_
 refine zC ?_ ?_
 ·intro hc
  refine Gs ?_
  refine G7 ?_
  refine zc call6 (mN w1) ?_
  rintro _ w2 ⟨rfl, hE2⟩
  refine zv (G8 rfl) ?_
  refine Gq ?_
  refine ax ?_
  refine I2 ?_
  refine dP ?_
  refine ae rfl rfl (⟨rfl, hE1.trans hE2⟩)
 ·intro hc
  have hl:l.length ≤ 600 := by
   rw[Bool.or_eq_false_iff, decide_eq_false_iff_not]at hc; omega
  refine I8 ?_
  refine ax ?_
  refine Gs ?_
  refine G7 ?_
  refine zv (ln rfl) ?_
  refine zc call7 (oJ l v w1 (h.ext hE1) (by omega)) ?_
  rintro u w2 ⟨hE2, hD⟩
  have hE02 := hE1.trans hE2
  cases hdm:sE l with
  |error e =>
   rw[hdm]at hD
   obtain rfl:u = .tuple #[.agg tab0, nI e] := hD
   have he := Bs hdm
   have he0:(e == 0) = false := by rw[beq_eq_false_iff_ne]; rcases he with⟨rfl, _⟩ | ⟨rfl, _⟩ <;> decide
   refine zv (ln rfl) ?_
   refine zv (GC rfl rfl) ?_
   refine zv (GC rfl rfl) ?_
   refine ar (aw w2) 1 (by omega) (Gw _) rfl ?_
   intro tb w3 O3 htb3 hU3 hR3 hE3
   refine zsa (us := tab0) htb3 (G6 _) ?_
   have htb4 := htb3.setRow (us := tab0)
   have hE4 := (hU3.trans (G5 (us := tab0) (by decide) htb3.tag rfl)).ext
   generalize w3.setRow tb tab0 = w5 at *
   have hE05 := hE02.trans hE4
   have hv5 := h.ext hE05
   have hld:∀W, I6 w5 W → ∀(j:Nat) (u:Gv), tab0.toList[j]? = some u → W.cell? (nA tb j) = some u := fun W e j u hu => e.cell (htb4.cellsAdd j u hu)
   refine zv (G8 rfl) ?_
   refine Gq ?_
   refine ax ?_
   refine Gs ?_
   refine Gs ?_
   refine G7 ?_
   refine zv (ln rfl) ?_
   refine zv (GL rfl rfl) ?_
   refine Gq ?_
   refine ax ?_
   refine aX rfl (he0) ?_
   refine I8 ?_
   refine ax ?_
   refine Gs ?_
   refine G7 ?_
   refine zv (G8 rfl) ?_
   refine Gq ?_
   refine ax ?_
   refine Gs ?_
   refine Gs ?_
   obtain⟨B, hB⟩:∃B:Bool, B = decide (12 ≤ l.length ∧ l.take 4 = hdrW ∧ eH (l.take (l.length - 8)) ≠ l) := ⟨_, rfl⟩
   refine mS (fun z:Gu => [(0, v), (3, nP tb), (4, nI e), (7, nI 4), (61, .bool B)]) (fun z:Gu => z) (fun z:Gu => I6 w5 z) ?_ ?_
   ·intro hN
    refine aK (fun W => I6 w5 W) 21 rfl (by kernel_rfl) ?_
    refine zin (G0 w5).drew fun zS => ?_
    refine zrm 0 rfl zS rfl ?_
    refine zt 1 rfl zS (fun w1 hw1 => I4 (by first | exact hv5.ext hw1) G4 rfl) ?_
    refine zr 2 rfl zS (fun _ => RV.geq rfl rfl) ?_
    refine zrm 3 rfl zS rfl ?_
    by_cases h12:12 ≤ l.length
    ·skip
     refine kO (d := 44) rfl (b' := true) ((decide_eq_true (by omega))) ?_
     have hs4:Sl mG 1 w5 (cf v 1 0 4) (l.take 4) := by have := hv5.slice (lo := 0) (hi := 4) (by omega) (by omega); rwa[I0]at this
     have hs8:Sl mG 1 w5 (cf v 1 0 (l.length - 8)) (l.take (l.length - 8)) := by have := hv5.slice (lo := 0) (hi := l.length - 8) (by omega) (by omega); rwa[I0]at this
     refine zin (G0 w5).drew fun zS => ?_
     refine zro 4 rfl zS (fun _ => ln rfl) ?_
     refine zto 5 rfl zS (fun w1 hw1 => eZ (hv5.ext hw1) G4 (sizeOf5 _) rfl rfl 4 rfl (by omega)) ?_
     refine zto 6 rfl zS (fun w1 hw1 => dx (hs4.ext hw1) G4 GE G2 rfl) ?_
     refine zro 7 rfl zS (fun _ => bU (a := l.take 4) (b := hdrW) rfl rfl) ?_
     refine zr 8 rfl zS (fun _ => bT rfl rfl) ?_
     refine zrm 9 rfl zS rfl ?_
     by_cases h4:l.take 4 = hdrW
     ·skip
      refine kO (d := 50) rfl (b' := true) ((by rw[h4]; simp)) ?_
      refine zin (G0 w5).drew fun zS => ?_
      refine zro 10 rfl zS (fun _ => ln rfl) ?_
      refine zro 11 rfl zS (fun _ => ln rfl) ?_
      refine zto 12 rfl zS (fun w1 hw1 => I4 (by first | exact hv5.ext hw1) G4 rfl) ?_
      refine zro 13 rfl zS (fun _ => RV.sub rfl rfl (GX (by omega))) ?_
      refine zto 14 rfl zS (fun w1 hw1 => eZ (hv5.ext hw1) G4 (sizeOf5 _) rfl rfl (l.length - 8) (by omega) (by omega)) ?_
      refine zro 17 rfl zS (fun _ => ln rfl) ?_
      refine zto 18 rfl zS (fun w1 hw1 => dx (hv5.ext hw1) G4 GE G2 rfl) ?_
      refine I1 15 (by kernel_rfl) rfl ?_
      refine DV rfl ?_
      refine zc call10 (sW _ _ w5.drew hs8.drew (by rw[List.length_take]; omega)) ?_
      rintro u6 w6 ⟨hu6, hE6⟩
      have hE56:I6 w5 w6 := (G0 w5).drew.trans hE6
      refine Gq ?_
      refine af (hE56) ?_
      refine I1 16 (by kernel_rfl) rfl ?_
      refine DV rfl ?_
      refine zv (dx hu6 G4 GE G2 rfl) ?_
      refine Gq ?_
      refine af (hE56) ?_
      have hb0:B = !(eH (l.take (l.length - 8)) == l) := by
       rw[hB, Bool.eq_iff_iff]; simp[h12, h4]
      rw[hb0]at hN
      refine zro 19 rfl (hE56) (fun _ => Ar (a := eH (l.take (l.length - 8))) (b := l) rfl rfl) ?_
      refine zr 20 rfl (hE56) (fun _ => bT rfl rfl) ?_
      refine GO (by kernel_rfl) ?_
      exact gh (hN (w6) (hE56)) ⟨rfl, rfl, rfl, rfl, rfl, trivial⟩ rfl
     ·skip
      refine kO (d := 50) rfl (b' := false) ((by simpa using h4)) ?_
      have hb0:B = false := by rw[hB]; exact decide_eq_false fun k => h4 k.2.1
      rw[hb0]at hN
      refine zin (G0 w5).drew fun zS => ?_
      refine zte 10 rfl rfl zS ?_
      refine zte 11 rfl rfl zS ?_
      refine zte 12 rfl rfl zS ?_
      refine zte 13 rfl rfl zS ?_
      refine zte 14 rfl rfl zS ?_
      refine zte 15 rfl rfl zS ?_
      refine zte 16 rfl rfl zS ?_
      refine zte 17 rfl rfl zS ?_
      refine zte 18 rfl rfl zS ?_
      refine zte 19 rfl rfl zS ?_
      refine zr 20 rfl zS (fun _ => bF rfl rfl) ?_
      refine GO (by kernel_rfl) ?_
      exact gh (hN (w5.drew) ((G0 w5).drew)) ⟨rfl, rfl, rfl, rfl, rfl, trivial⟩ rfl
    ·skip
     refine kO (d := 44) rfl (b' := false) ((decide_eq_false (by omega))) ?_
     have hb0:B = false := by rw[hB]; exact decide_eq_false fun k => h12 k.1
     rw[hb0]at hN
     refine zin (G0 w5).drew fun zS => ?_
     refine zte 4 rfl rfl zS ?_
     refine zte 5 rfl rfl zS ?_
     refine zte 6 rfl rfl zS ?_
     refine zte 7 rfl rfl zS ?_
     refine zr 8 rfl zS (fun _ => bF rfl rfl) ?_
     refine zrm 9 rfl zS rfl ?_
     refine zte 10 rfl rfl zS ?_
     refine zte 11 rfl rfl zS ?_
     refine zte 12 rfl rfl zS ?_
     refine zte 13 rfl rfl zS ?_
     refine zte 14 rfl rfl zS ?_
     refine zte 15 rfl rfl zS ?_
     refine zte 16 rfl rfl zS ?_
     refine zte 17 rfl rfl zS ?_
     refine zte 18 rfl rfl zS ?_
     refine zte 19 rfl rfl zS ?_
     refine zr 20 rfl zS (fun _ => bF rfl rfl) ?_
     refine GO (by kernel_rfl) ?_
     exact gh (hN (w5.drew) ((G0 w5).drew)) ⟨rfl, rfl, rfl, rfl, rfl, trivial⟩ rfl
   intro w6 hE6
   refine ax ?_
   rcases he with⟨rfl, k1, k2, k3⟩ | ⟨rfl, k⟩
   ·skip
    refine aS rfl ((by rw[hB, decide_eq_true ⟨k1, k2, k3⟩])) ?_
    refine G7 ?_
    refine zv (G8 rfl) ?_
    refine Gq ?_
    refine ax ?_
    refine Gs ?_
    refine G7 ?_
    refine zv (ln rfl) ?_
    refine zv (ln rfl) ?_
    refine zv (GL rfl rfl) ?_
    refine zv (ln rfl) ?_
    refine ao (d := 65) rfl (b' := true) (rfl) ?_
    refine DV rfl ?_
    refine zv (ah (us := tab0.toList) (hld w6 hE6) (GA _) (G6 _) rfl) ?_
    refine DV rfl ?_
    refine zc call9 (dz D7 _ w6 (BP w6)) ?_
    rintro _ w7 ⟨rfl, hE7⟩
    rw[nQ]
    have hv7 := hv5.ext (hE6.trans hE7)
    refine DV rfl ?_
    refine zv (Ic rfl) ?_
    refine zv (bT rfl rfl) ?_
    refine zv (ln rfl) ?_
    refine ao (d := 70) rfl (b' := true) (rfl) ?_
    refine DV rfl ?_
    refine zv (ln rfl) ?_
    refine DV rfl ?_
    refine zc Ij (oY l v w7 hv7) ?_
    rintro _ w8 ⟨rfl, hw8⟩
    rw[hw8]
    clear hw8
    refine DV rfl ?_
    refine zv (ln rfl) ?_
    refine DV rfl ?_
    refine zc call12 (kq l v w7 hv7) ?_
    rintro _ w8 ⟨rfl, hw8⟩
    rw[hw8]
    clear hw8
    refine DV rfl ?_
    refine zv (GL rfl rfl) ?_
    refine zv (bT rfl rfl) ?_
    refine zv (G8 rfl) ?_
    refine Gq ?_
    refine ax ?_
    refine I2 ?_
    refine ae rfl rfl (⟨by simp, (hE05.trans hE6).trans hE7⟩)
   ·skip
    refine aX rfl ((by rw[hB, decide_eq_false k])) ?_
    refine I8 ?_
    refine ax ?_
    refine Gs ?_
    refine G7 ?_
    refine zv (ln rfl) ?_
    refine zv (ln rfl) ?_
    refine zv (GL rfl rfl) ?_
    refine zv (ln rfl) ?_
    refine ao (d := 65) rfl (b' := true) (rfl) ?_
    refine DV rfl ?_
    refine zv (ah (us := tab0.toList) (hld w6 hE6) (GA _) (G6 _) rfl) ?_
    refine DV rfl ?_
    refine zc call9 (dz D7 _ w6 (BP w6)) ?_
    rintro _ w7 ⟨rfl, hE7⟩
    rw[nQ]
    have hv7 := hv5.ext (hE6.trans hE7)
    refine DV rfl ?_
    refine zv (Ic rfl) ?_
    refine zv (bT rfl rfl) ?_
    refine zv (ln rfl) ?_
    refine ao (d := 70) rfl (b' := true) (rfl) ?_
    refine DV rfl ?_
    refine zv (ln rfl) ?_
    refine DV rfl ?_
    refine zc Ij (oY l v w7 hv7) ?_
    rintro _ w8 ⟨rfl, hw8⟩
    rw[hw8]
    clear hw8
    refine DV rfl ?_
    refine zv (ln rfl) ?_
    refine DV rfl ?_
    refine zc call12 (kq l v w7 hv7) ?_
    rintro _ w8 ⟨rfl, hw8⟩
    rw[hw8]
    clear hw8
    refine DV rfl ?_
    refine zv (GL rfl rfl) ?_
    refine zv (bT rfl rfl) ?_
    refine zv (G8 rfl) ?_
    refine Gq ?_
    refine ax ?_
    refine I2 ?_
    refine ae rfl rfl (⟨by simp, (hE05.trans hE6).trans hE7⟩)
  |ok t =>
   rw[hdm]at hD
   obtain⟨tv, rfl, gv, lc, rc, rfl, m1, m2, m3⟩ := hD
   obtain⟨rfl, hrt⟩ := CZ hdm
   have hlen:(bD t.ig t.kp t.br t.rules gv lc rc).length = 17 := by simp[m2.one.1, m3.one.1]
   have hone:(bD t.ig t.kp t.br t.rules gv lc rc).all GD = true := by
    refine GH.2 fun x hx => ?_
    rcases G9.1 hx with hx | hx
    ·rcases G9.1 hx with hx | hx
     ·simp only[G1, Gy, or_false]at hx
      rcases hx with rfl | rfl | rfl | rfl | rfl <;> first | rfl | exact m1.one
     ·exact m2.one.2 x hx
    ·exact m3.one.2 x hx
   refine zv (ln rfl) ?_
   refine zv (GC rfl rfl) ?_
   refine zv (GC rfl rfl) ?_
   refine ar (aw w2) 7 (by omega) (Gw _) rfl ?_
   intro tb w3 O3 htb3 hU3 hR3 hE3
   refine aZ (us := (bD t.ig t.kp t.br t.rules gv lc rc).toArray) htb3 (show(bD t.ig t.kp t.br t.rules gv lc rc).toArray.size = 17 from by simpa using hlen) (by rw[show(bD t.ig t.kp t.br t.rules gv lc rc).toArray.size = 17 from by simpa using hlen]; exact G6 _) hone rfl rfl rfl ?_
   have htb4 := htb3.setRow (us := (bD t.ig t.kp t.br t.rules gv lc rc).toArray)
   have hE4 := (hU3.trans (G5 (us := (bD t.ig t.kp t.br t.rules gv lc rc).toArray) (by decide) htb3.tag rfl)).ext
   generalize w3.setRow tb (bD t.ig t.kp t.br t.rules gv lc rc).toArray = w5 at *
   have hE05 := hE02.trans hE4
   have hld:∀W, I6 w5 W → ∀(j:Nat) (u:Gv), (bD t.ig t.kp t.br t.rules gv lc rc)[j]? = some u → W.cell? (nA tb j) = some u := fun W e j u hu => e.cell (by simpa using htb4.cellsAdd j u (by simpa using hu))
   have hTV:∀W, I6 w5 W → Ik W (.agg (bD t.ig t.kp t.br t.rules gv lc rc).toArray) t := fun W e => ⟨gv, lc, rc, rfl, m1.ext (hE4.trans e), m2.ext (hE4.trans e), m3.ext (hE4.trans e)⟩
   refine zv (G8 rfl) ?_
   refine Gq ?_
   refine ax ?_
   refine Gs ?_
   refine Gs ?_
   refine G7 ?_
   refine zv (ln rfl) ?_
   refine zv (GL rfl rfl) ?_
   refine Gq ?_
   refine ax ?_
   refine aS rfl rfl ?_
   refine Gs ?_
   refine G7 ?_
   refine zv (ah (us := bD t.ig t.kp t.br t.rules gv lc rc) (hld w5 (G0 _)) (GA _) (by rw[hlen]; exact G6 _) rfl) ?_
   refine zc call8 (oI t _ w5 (hTV w5 (G0 _))) ?_
   rintro _ w6 ⟨hE6, ⟨h0, _⟩ | ⟨_, bv, rfl, hbv, _⟩⟩
   ·rw[hrt]at h0; cases h0
   refine zv (ln rfl) ?_
   refine zv (GC rfl rfl) ?_
   refine zv (GC rfl rfl) ?_
   refine zv (G8 rfl) ?_
   refine zv (G8 rfl) ?_
   refine Gq ?_
   refine ax ?_
   refine Gs ?_
   refine G7 ?_
   refine zv (ln rfl) ?_
   refine zv (GL rfl rfl) ?_
   refine zv (ln rfl) ?_
   refine ao (d := 30) rfl (b' := true) (rfl) ?_
   refine DV rfl ?_
   refine zv (ln rfl) ?_
   refine DV rfl ?_
   refine zv (dx hbv G4 GE G2 rfl) ?_
   refine DV rfl ?_
   refine zv (ln rfl) ?_
   refine DV rfl ?_
   refine zv (dx (h.ext (hE05.trans hE6)) G4 GE G2 rfl) ?_
   refine DV rfl ?_
   refine zv (bU (a := sD t) (b := sD t) rfl rfl) ?_
   refine zv (bT rfl rfl) ?_
   refine zv (ln rfl) ?_
   refine ao (d := 37) rfl (b' := true) ((by simp)) ?_
   refine DV rfl ?_
   refine zv (ah (us := bD t.ig t.kp t.br t.rules gv lc rc) (hld w6 hE6) (GA _) (by rw[hlen]; exact G6 _) rfl) ?_
   refine DV rfl ?_
   refine zc call9 (dz t _ w6 (hTV w6 hE6)) ?_
   rintro _ w7 ⟨rfl, hE7⟩
   rw[hrt]
   refine zv (bT rfl rfl) ?_
   refine zv (G8 rfl) ?_
   refine Gq ?_
   refine ax ?_
   refine I2 ?_
   refine dP ?_
   refine ae rfl rfl (⟨rfl, (hE05.trans hE6).trans hE7⟩)
end Go.Proofs.YtpfpmhhigheccaaGreatDoor
