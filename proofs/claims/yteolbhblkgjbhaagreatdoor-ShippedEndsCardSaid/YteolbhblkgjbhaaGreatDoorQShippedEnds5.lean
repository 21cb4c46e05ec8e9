/- Texts that the proof of this statement needs, merged and shortened. -/
import Derived.Test.YteolbhblkgjbhaaGreatDoorQShippedEnds4
open Go renaming Value->ix,World->I0,TypeId->Je,Addr->Ke,Program->Kr,FuncId->Kw,Operand->L1,Oper->Lp
open List renaming mem_singleton->ln,length_singleton->I1,mem_cons->I2,eq_nil_of_length_eq_zero->I5,length_append->I7,append_nil->I8,not_mem_nil->IE,all_cons->II,length_cons->IJ,getElem?_append_right->IK,length_map->IL,append_assoc->IQ,mem_append->IT,length->Jf,map_append->Jg,mem_map->Jh,getElem?_eq_some_iff->Jl,getElem?_append_left->Jm,drop_eq_getElem_cons->Jn,foldl_append->Jo,take_length->Ju,take_append_drop->JC,getElem?_toArray->JD,findIdx?_eq_some_iff_getElem->JJ,size_toArray->JL,flatMap_cons->JM,take_left'->JR,nil_append->JS,range->JW,take_of_length_le->K6,all_nil->K7,contains_iff_mem->Kd,mem_of_mem_take->Kf,length_pos_iff->Kj,getElem_range->Ko,any_eq_false->Kv,map_toArray->Kx,getElem_map->Ky,flatMap_nil->Kz,cons_append->KA,foldl_cons->KG,append_inj->KH,take_zero->KL,mem_range->KM,drop_zero->KN,drop_drop->KO,map_cons->KV,map_nil->L2,drop->Lk
open Go.VL.Ret renaming enter->I3
open Go.VL.Ext renaming refl->I4
open Go.VL.Upd renaming setRow->I6,trans->IH,mono->Jc,set->Ka,refl->KS
open Go.VL.WH renaming one->I9,done->Jd,leaf->JA
open Go.VL.RowT renaming upd->IF,nil->KJ
open Nat renaming zero_le->IG,le_refl->IV,not_lt_zero->IX,or_lt_two_pow->J0,pow_lt_pow_right->J2,add_sub_cancel_left->Ja,lt_succ_iff_lt_or_eq->Js,div_eq_of_lt->Jv,pow_le_pow_right->JE,lt_of_lt_of_le->JH,lt_of_le_of_lt->JI,zero_add->JO,one_mul->JQ,testBit_or->JZ,add_assoc->K2,testBit_two_pow_mul->K5,le_trans->Kc,testBit_two_pow->Km,add_sub_cancel->Ku,and_le_right->KF,two_pow_pos->KK,add_mul->L9,blt->Lv
open Go.VL.WL renaming nil->IM,off->Jz,push->Lz
open Bool renaming and_eq_true->IN,or_eq_true->J7,true_and->K0,false_or->K1
open Go.Proofs.Tryz renaming sizeOf170->IP,prog->IS,zeroValue31->IY,sizeOf138->J1,sizeOf31->J4,zeroValue170->J6,sizeOf29->Jj,isAgg170->Jr,isAgg31->JK,zeroValue138->JT,isAgg29->JU,sizeOf120->JY,sizeOf3->K4,isAgg138->K8,isAgg120->K9,underlying136->Kh,sizeOf122->Kl,underlying22->Kp,sizeOf4->Kq,zeroValue26->KC,call89->KR,sizeOf26->Lb,sizeOf24->Lc,isAgg122->Ld,call62->Le,underlying89->Ll,underlying27->Lm,call138->Ln,zeroValue29->Lt,call63->Lx,call29->Ly
open Go.VL.RV renaming move->IR,assign->J3,build->Jw,extract->JB,not->L0
open Go.Proofs.YteolbhblkgjbhaaGreatDoor renaming RightD->IU,PSt->KU,StarP->Lh,RowsG->Lu,LgA->Lw,LgS->LB
open Go.VL renaming Upd->IW,Ext->Ji,Ints->JF,Ret->JG,BlkO->JV,Rng->Kb,NewV->KE,RowT->KT,Free->Ls,Elem->LC
open Go.VL.WC renaming region->IZ,seq->J9,ret->KX,skip->L7,tail->LA
open Go.VL.Free renaming upd->J5
open UInt8 renaming ofNat->J8,toNat->KY
open Go.Value renaming oneCell'->Jb,ownBlock->KD,bool->L3,int->L8
open Option renaming none->Jk,some->JN
open Int renaming toNat_natCast->Jp,le_refl->Jq
open Go.VL.Sl renaming ext->Jt
open Go.Lib renaming ctz->Jy,deBruijn64tab->KB,lowest_bit->KW,ctzFrom->La
open Classical renaming byContradiction->JP
open Go.Addr renaming add->JX
open Go.VL.BlkO renaming setRow->Kg,upd->KQ
open Go.Result renaming andThen_ok->Ki
open Go.IntKind renaming wrap_u64->Kk,u64->KP
open Go.World renaming setCell->KI
open Go.Proofs renaming TabAt->KZ
open Go.Sem renaming run_bind->L4
open Go.VL.Rng renaming upd->L5
open Go.Instr renaming fill->L6
open Option.some renaming injEq->Li,inj->Lj
open Go.Value.agg renaming inj->Lo
open List.cons renaming injEq->Lq,inj->Lr
open Go.Builtin renaming append_->LD
set_option maxRecDepth 10000
open Go.VL Go.Proofs Go.Proofs.Tryz
namespace Go.Proofs.YteolbhblkgjbhaaGreatDoor
abbrev nr(x:X3):ix:=.agg (cO x).toArray
theorem jH{O:Nat->Nat}{w:I0}{i b:Nat}{x:X3}{E:Je}(h:JV O w i b (cO x).toArray E):(∀W,Ji w W->∀(q:Nat) (u:ix),(bt x.1)[q]? = some u->W.cell? (nA b q)=some u)/\(∀W,Ji w W->∀(q:Nat) (u:ix),(bt x.2.1)[q]? = some u->W.cell? ((nA b 3).add q)=some u)/\(∀W,Ji w W->W.cell? (nA b 6)=some (.bool x.2.2))/\(∀W,Ji w W->∀(q:Nat) (u:ix),(cO x)[q]? = some u->W.cell? (nA b q)=some u):=by
 obtain⟨x1,x2,brk⟩:=x;refine⟨fun W hE q u hu=>hE.cell (h.cellsAdd q u ?_),fun W hE q u hu=>hE.cell (ja h q u hu),fun W hE=>hE.cell (h.cellsAdd 6 _ rfl),fun W hE q u hu=>hE.cell (h.cellsAdd q u hu)⟩;simp only[bt]at hu
 match q,hu with
 |0,hu=>exact hu
 |1,hu=>exact hu
 |2,hu=>exact hu
theorem Rt.ext{O:Nat->Nat}{w w':I0}{t:R3}{x:X3}(h:Rt O w t x)(e:Ji w w'):Rt O w' t x:=⟨h.1.ext e,h.2.1.ext e,h.2.2⟩
theorem xQ(t:R3)(x:X3)(w:I0)(h:Rt (fun _=>0) w t x):JG IS 52 [nr x] w fun v w'=>v=.bool (qd t)/\Ji w w':=by
 have hx1o:=h.1.one;have hx2o:=h.2.1.one;have a7:=cL (b:=x.2.2) hx1o hx2o;refine I3 func52 ntmps52 rfl rfl ?_;refine zh ?_;refine aH (ay w) 1 zo rfl rfl ?_;intro xb w1 O1 a6 a8 a9 a4;obtain⟨lc,rc,bc,_⟩:=jH a6;refine zh ?_;refine zv (ah (us:=bt x.1) (lc w1 (I4 _)) (K9 _) (JY _) rfl) ?_;refine zc call83 (fh t.1 x.1 w1 (h.1.ext a4)) ?_;rintro v w2 ⟨rfl,a3⟩;refine zh ?_;refine bK (Ji w1) (bn t.2.1) 3 (a3) rfl rfl rfl rfl rfl ?_ ?_
 ·intro a1;refine zh ?_;refine zvH (ah (us:=bt x.2.1) (rc _ a3) (K9 _) (JY _) rfl) ?_;refine zc call83 (fh t.2.1 x.2.1 _ (h.2.1.ext (a4.trans a3))) ?_;rintro v w3 ⟨rfl,a0⟩;refine zh ?_;refine nE 6 4 (a3.trans a0) a1
 intro w3 a0;refine zh ?_;refine bK (Ji w1) ((dW t.2.1==0)) 4 (a0) rfl rfl rfl rfl rfl ?_ ?_
 ·intro a2;refine zh ?_;refine zvH (ah (us:=bt x.2.1) (rc _ a0) (K9 _) (JY _) rfl) ?_;refine zc call84 (jP t.2.1 x.2.1 _ (h.2.1.ext (a4.trans a0))) ?_;rintro v w4 ⟨rfl,a5⟩;refine zh ?_;refine nE 11 5 (a0.trans a5) a2
 intro w4 a5;refine zh ?_;refine ae rfl rfl (⟨rfl,a4.trans a5⟩)
theorem xT(t:R3)(x:X3)(w:I0)(h:Rt (fun _=>0) w t x):JG IS 51 [nr x] w fun v w'=>v=.bool (!(qd t))/\Ji w w':=by
 have hx1o:=h.1.one;have hx2o:=h.2.1.one;have a2:=cL (b:=x.2.2) hx1o hx2o;refine I3 func51 ntmps51 rfl rfl ?_;refine zh ?_;refine aH (ay w) 1 zo rfl rfl ?_;intro xb w1 O1 a1 a4 a5 a0;obtain⟨_,_,_,ac⟩:=jH a1;refine zh ?_;refine zv (ah (us:=cO x) (ac w1 (I4 _)) (Ld _) (Kl _) rfl) ?_;refine zc call52 (xQ t x w1 (h.ext a0)) ?_;rintro v w2 ⟨rfl,a3⟩;refine zh ?_;refine ae rfl rfl (⟨rfl,a0.trans a3⟩)
theorem kX{F:Kw}(hF:∀(args:Array ix) (w:I0),(callFunc F args).run IS w=.ok (.enter F args) w)(cs:Array ix)(l:List (X3))(sv:ix)(q:Nat->Bool)(w:I0)(h:Sl cO 7 w sv l) 
  (hq:∀i,i<l.length->∀w',Ji w w'->JG IS F ([nr (nth l i)]++cs.toList) w' fun v w''=>v=.bool (q i)/\Ji w' w'') :
  JG IS 82 [sv,.func (.func F) #[] cs] w fun v w'=>v=nI (dA q l.length)/\Ji w w':=by
 have hl:=h.len_le;refine I3 func82 ntmps82 rfl rfl ?_;refine zh ?_;refine zlp (fun x:Nat×I0=>[(0,sv),(1,.func (.func F) #[] cs),(7,nI l.length),(8,nI x.1)]) (fun x=>x.2) (fun x=>x.1<=l.length/\Ji w x.2/\∀i,i<x.1->q i=false) (fun x=>l.length-x.1) (0,w) (⟨IG _,I4 _,fun i hi=>absurd hi (IX i)⟩) ?_;rintro⟨k,w1⟩ ⟨hk,hE,a1⟩;dsimp only at hk hE a1 ⊢;have h1:=h.ext hE;refine zh ?_;refine zC ?_ ?_
 ·intro a0;replace a0:k<l.length:=dT a0;refine zh ?_;refine zv (ah (us:=cO (nth l k)) (fun j u hu=>h1.cell a0 hu) (Ld _) (Kl _) rfl) ?_;refine dt rfl hF rfl (hq k a0 w1 hE) rfl ?_;rintro v w2 ⟨rfl,a3⟩;refine zh ?_;refine zC ?_ ?_
  ·intro hy;refine zh ?_;refine ae rfl rfl (⟨by rw[ck a0 hy a1],hE.trans a3⟩)
  intro hy;refine zh ?_;refine zxd (k+1,w2) (⟨a0,hE.trans a3,fun i hi=>(Js.1 hi).elim (a1 i) (fun e=>by rw[e];exact hy)⟩)
 intro a2;replace a2:l.length<=k:=dF a2;refine zh ?_;refine ae rfl rfl (⟨by rw[cg fun i hi=>a1 i zo],hE⟩)
theorem iE{F:Kw}(hF:∀(args:Array ix) (w:I0),(callFunc F args).run IS w=.ok (.enter F args) w)(cs:Array ix)(l:List (X3))(sv:ix)(q:Nat->Bool)(w:I0)(h:Sl cO 7 w sv l) 
  (hq:∀i,i<l.length->∀w',Ji w w'->JG IS F ([nr (nth l i)]++cs.toList) w' fun v w''=>v=.bool (q i)/\Ji w' w'') :
  JG IS 50 [sv,.func (.func F) #[] cs] w fun v w'=>v=.bool (iG q l.length)/\Ji w w':=by
 refine I3 func50 ntmps50 rfl rfl ?_;refine zh ?_
 refine zc call82 (kX hF cs l sv q w h hq) ?_;rintro v w1 ⟨rfl,hE⟩;refine zh ?_
 refine ae rfl rfl (⟨by rw[firstN_any],hE⟩)
theorem xS(li lk:List Int)(ts:List R3)(xs:List X3)(ig kp ru:ix)(w:I0)(hi:Sl (fun c:Int=>[nI c]) 1 w ig li)(hk:Sl (fun c:Int=>[nI c]) 1 w kp lk)(hr:Sl cO 7 w ru xs)(hl:ts.length=xs.length)(hx:∀i,i<xs.length->Rt (fun _=>0) w (nth ts i) (nth xs i)):
  JG IS 24 [FN ig kp ru] w fun v w'=>v=.bool (ej li lk ts)/\Ji w w':=by
 have b0:=hi.one;have a':=hk.one;have a9:=hr.one;refine I3 func24 ntmps24 rfl rfl ?_;refine zh ?_;refine aH (ay w) 1 zo rfl rfl ?_;intro xb w1 O1 a5 b1 b2 a4;have c0:w1.cell? (nA xb 0)=some ig:=a5.cell 0 rfl;have c1:w1.cell? (nA xb 1)=some kp:=a5.cell 1 rfl;have c2:w1.cell? (nA xb 2)=some ru:=a5.cell 2 rfl;have a7:=hr.ext a4;refine zh ?_;refine bK (fun w1=>_=w1) (jK li) 3 (rfl) rfl rfl rfl rfl rfl ?_ ?_
 ·intro a1;refine zh ?_;refine zc call49 (rS li ig w1 (hi.ext a4)) ?_;rintro v w9 ⟨rfl,a0⟩;rw[a0];clear a0 w9;refine zh ?_;refine nE 7 4 (rfl) a1
 rintro _ rfl;refine zh ?_;refine bK (fun w1=>_=w1) (jK lk) 3 (rfl) rfl rfl rfl rfl rfl ?_ ?_
 ·intro a2;refine zh ?_;refine zc call49 (rS lk kp w1 (hk.ext a4)) ?_;rintro v w9 ⟨rfl,a0⟩;rw[a0];clear a0 w9;refine zh ?_;refine nE 12 4 (rfl) a2
 rintro _ rfl;refine zh ?_;have a8:Gt ts = !(iG (fun i=>!(qd (nth ts i))) xs.length):=by unfold Gt;rw[hl]
 refine bK (Ji w1) ((!(iG (fun i=>!(qd (nth ts i))) xs.length))) 4 (I4 w1) rfl rfl rfl rfl rfl ?_ ?_
 ·intro a3;refine zh ?_;refine zc call50 (iE call51 #[] xs ru (fun i=>!(qd (nth ts i))) w1 a7 (fun i hi w' hE=>xT (nth ts i) (nth xs i) w' ((hx i hi).ext (a4.trans hE)))) ?_;rintro v w2 ⟨rfl,a6⟩;refine zh ?_;refine nE 17 5 (a6) a3
 intro w2 a6;refine zh ?_;refine ae rfl rfl (⟨by unfold ej;rw[hl,a8],a4.trans a6⟩)
structure Tx(w:I0)(v:ix)(li lk:List Int)(ts:List R3):Prop where
 ex:∃ig kp ru xs,v=FN ig kp ru/\Sl encI 1 w ig li/\Sl encI 1 w kp lk/\Sl cO 7 w ru xs/\ts.length=xs.length/\∀i,i<xs.length->Rt (fun _=>0) w (nth ts i) (nth xs i)
theorem Tx.ext{w w':I0}{v:ix}{li lk:List Int}{ts:List R3}(h:Tx w v li lk ts)(e:Ji w w'):Tx w' v li lk ts:=by
 obtain⟨ig,kp,ru,xs,hv,h1,h2,h3,h4,h5⟩:=h;exact⟨ig,kp,ru,xs,hv,h1.ext e,h2.ext e,h3.ext e,h4,fun i hi=>(h5 i hi).ext e⟩
theorem _root_.Go.VL.BlkO.ext{O:Nat->Nat}{w w':I0}{i b:Nat}{cs:Array ix}{E:Je}(h:JV O w i b cs E)(e:Ji w w'):JV O w' i b cs E:=⟨by rw[e.block b (bq h.blk)];exact h.blk,h.tag⟩
theorem RowsG.upd{S:Nat->Prop}{B:Nat}{O O':Nat->Nat}{w0 w w':I0}{v:ix}{rows:List (List Nat)}(h:Lu w0.heap.size w v rows)(r:Kb B O w0)(u:IW S O w O' w'):Lu w0.heap.size w' v rows:=by
 obtain⟨vs,h1,h2,h3,h4⟩:=h;exact⟨vs,h1.upd (h2.free h1 (fun x _=>by simp) r) u,h2,h3,fun i hi=>⟨(h4 i hi).1.upd ((h4 i hi).2.free (h4 i hi).1 (fun x _=>by simp) r) u,(h4 i hi).2⟩⟩
theorem _root_.Go.VL.NewV.slU{S:Nat->Prop}{B:Nat}{O O':Nat->Nat}{w0 w w':I0}{v:ix}{l:List Nat}(h:KE w0.heap.size v)(hs:Sl iw 1 w v l)(r:Kb B O w0)(u:IW S O w O' w'):Sl iw 1 w' v l:=hs.upd (h.free hs (fun x _=>by simp) r) u
def cu(l:List Int):Nat:=l.foldl (fun b c=>b ||| 2^c.toNat) 0
theorem mL{l:List Int}(h:∀c∈l,0<=c/\c<=35):cu l<2^36:=by
 have a0:∀(l:List Int) (b:Nat),(∀c∈l,0<=c/\c<=35)->b<2^36->l.foldl (fun b c=>b ||| 2^c.toNat) b<2^36:=fun l=>by
  induction l with
  |nil=>exact fun b _ hb=>hb
  |cons c l ih=>exact fun b h hb=>ih _ (fun x hx=>h x (by simp[hx])) (J0 hb (J2 zd (by have:=h c (by simp);omega)))
 exact a0 l 0 h zd
theorem zI{l:List Int}{i:Nat}(h:i<l.length):cu (l.take (i+1))=cu (l.take i) ||| 2^(nth l i).toNat:=by
 unfold cu;rw[aM h,Jo];rfl
theorem mK(l:List Int)(sv:ix)(w:I0)(h:Sl encI 1 w sv l)(hr:∀c∈l,0<=c/\c<=35):JG IS 89 [sv] w fun v w'=>v=.int .u64 ((cu l:Nat):Int)/\w'=w:=by
 have hl:=h.len_le;have a1:KP.max=18446744073709551615:=rfl;refine I3 func89 ntmps89 rfl rfl ?_;refine zh ?_;refine zlp (fun z:Nat=>[(3,.int .u64 ((cu (l.take z):Nat):Int)),(6,sv),(7,nI l.length),(8,nI z)]) (fun z=>w) (fun z=>z<=l.length) (fun z=>l.length-z) 0 (IG _) ?_;intro i hi;refine zh ?_;refine zC ?_ ?_
 ·intro a0;replace a0:i<l.length:=dT a0;have hc:=hr _ (aJ a0);have m1:w.cell? (adr sv 1 i)=some (nI (nth l i)):=by have:=h.cell (i:=i) (j:=0) a0 rfl;rwa[ax]at this
  obtain⟨c,a3⟩:∃c:Nat,nth l i=(c:Int):=⟨(nth l i).toNat,zo⟩
  have hs:=zI a0;rw[a3]at m1 hs;simp only[Jp]at hs;have a7:cu (l.take i)<2^36:=mL fun x hx=>hr x (Kf hx)
  have a6:2^c<=2^35:=JE zd zo;have a5:(2^35:Nat)=34359738368:=zd;have a4:(2^36:Nat)=68719476736:=zd;refine zh ?_;refine zv (vp (a:=1) (b:=c) rfl rfl rfl rfl (by show _<=64;omega) (by show _<=(18446744073709551615:Int);omega)) ?_;rw[JQ];refine zvH (tp (a:=cu (l.take i)) (b:=2^c) rfl rfl rfl rfl (by show _<=(18446744073709551615:Int);omega) (by show _<=(18446744073709551615:Int);omega)) ?_;rw[<-hs];refine zxd (i+1) (a0)
 intro a2;obtain rfl:i=l.length:=dF a2;rw[Ju];refine zh ?_;refine ae rfl rfl (⟨rfl,rfl⟩)
def stM(se:Bool)(ts:List Nd):Option (List (List Nat)×List Nat):=if dz ts=0 then CK (cA se (jv ts)) (cX (jv ts))else none
def Cls(cl:Nat->Nat)(d:List (List Nat)×List Nat):Prop:=∀p q,p<d.1.length->q<d.1.length->(cl p=cl q↔Alike (nxD d.1) (nth d.2) p q)
def PostSt(B:Nat)(w:I0)(v:ix):Option (List (List Nat)×List Nat)->Prop
 |some d=>∃cl nv tv,v=.tuple #[.agg #[nv,tv],nI 0]/\nv.oneCell'=true/\tv.oneCell'=true/\IU d.1 d.2/\Cls cl d/\Lu B w nv (aP cl d.1 d.2).1/\Sl iw 1 w tv (aP cl d.1 d.2).2/\KE B tv
 |none=>∃e:Int,e≠0/\v=.tuple #[.agg #[nS,nS],nI e]
theorem Ak{ts:List Nd}(h:dz ts=0):ts.length<=40/\(∀t∈ts,bn t=true)/\1+aX ts<=1000:=by
 unfold dz at h
 split at h
 ·cases h
 split at h
 ·cases h
 rename_i h1 h2
 split at h
 ·cases h
 rename_i h3;refine⟨zo,fun t ht=>?_,zo⟩;have:ts.any (fun t=>!bn t)=false:=by simpa using h2
 have:=Kv.1 this t ht;simpa using this
set_option maxHeartbeats 1000000 in
theorem oH(se:Bool)(ts:List Nd)(xs:List N3)(sv:ix)(w:I0)(hs:Sl bt 3 w sv xs)(hl:ts.length=xs.length)(hk:∀i,i<xs.length->Nt (fun _=>0) w (nth ts i) (nth xs i)):
  JG IS 90 [.bool se,sv] w fun v w'=>Ji w w'/\PostSt w.heap.size w' v (stM se ts):=by
 refine I3 func90 ntmps90 rfl rfl ?_;refine zh ?_
 refine au (ay w) 1 zo (J6 _) rfl ?_;intro cb w1 O1 c6 e2 e5 d4;refine zh ?_
 refine zc call128 (DT se ts xs sv w1 (hs.ext d4) hl (fun i hi=>(hk i hi).ext d4)) ?_;rintro _ w2 ⟨nb,rfl,e',e6⟩;have c8:IW (fun _=>False) O1 w1 O1 w2:=aa (fun h=>h) O1 e';have a2:=c6.upd c8 zd (fun h=>h);have e4:=e5.upd c8;have b2:=e2.trans (c8.mono (fun _ h=>h.elim) zd);refine zh ?_
 by_cases he:dz ts=0
 ·have hD:=e6 he;obtain⟨f5,a4,f4⟩:=Ak he;obtain⟨a',a3⟩:=iZ a4;obtain⟨d5,h0⟩:=Ai ts;have d9:=oO a' a3;have d':∀q,(jv ts).en q<=40:=fun q=>by have:=Ah ts q;omega
  have b6:stM se ts=CK (cA se (jv ts)) (cX (jv ts)):=by unfold stM;rw[if_pos he]
  have d8:Aj nb (dz ts)=nP nb:=by unfold Aj;rw[if_pos he]
  rw[d8,he,b6];refine zFH rfl rfl ?_;have hC:=Ba nb se (jv ts) w2 hD d5 h0 (DS ts) zo d';generalize hd:CK (cA se (jv ts)) (cX (jv ts))=D at hC b6 ⊢;refine zc call129 (hC) ?_;rintro v w3 ⟨e9,hP⟩;have c7:IW (fun _=>False) O1 w2 O1 w3:=aa (fun h=>h) O1 e9;have b1:=a2.upd c7 zd (fun h=>h);have d3:=e4.upd c7;have a8:=b2.trans (c7.mono (fun _ h=>h.elim) zd)
  cases D with
  |none=>
   obtain rfl:=hP;refine zh ?_;refine au d3 2 zo (J6 _) rfl ?_;intro db w4 O4 a0 b8 e3 e8;refine zsa (us:=#[nS,nS]) a0 (IP _) ?_;have b7:IW (fun j=>j=2) O4 w4 O4 (w4.setRow db #[nS,nS]):=I6 zd a0.tag rfl;have a6:=(b1.upd b8 zd zd).upd b7 zd zd;have c':=(a8.mono (S':=fun q=>q=1\/q=2) (fun _ h=>.inl h) zd).trans ((b8.trans b7).mono (fun _ h=>.inr h) zd);generalize w4.setRow db #[nS,nS]=w5 at *;refine zh ?_;refine zTH rfl rfl ?_;refine zvH (aF xU (J6 _) rfl (by first|rfl|(simp only[II,K7];rfl)) rfl rfl) ?_;refine zsa (us:=#[nS,nS]) a6 (IP _) ?_;have b0:=a6.setRow (us:=#[nS,nS]);have a7:IW (fun j=>j=1) O4 w5 O4 (w5.setRow cb #[nS,nS]):=I6 zd a6.tag rfl;refine zh ?_;refine bf rfl rfl rfl (b0.cellsAdd) (Jr _) (IP _) (⟨(c'.trans (a7.mono (fun _ h=>.inl h) zd)).ext,7,zd,rfl⟩)
  |some d=>
   obtain⟨nv,tv,rfl,o1,o2,d7,d6⟩:=hP;obtain⟨S,f3⟩:=nu hd;have d1:=f3.right;refine zh ?_;refine au (ay w3) 2 zo (J6 _) rfl ?_;intro db w4 O4 a0 b8 e3 e8;refine zsb (us:=#[nv,tv]) a0 (IP _) (by simp only[II,o1,o2];rfl) ?_;have c5:=a0.setRow (us:=#[nv,tv]);have b7:IW (fun j=>j=2) O4 w4 O4 (w4.setRow db #[nv,tv]):=I6 zd a0.tag rfl;have a1:Ji w3 (w4.setRow db #[nv,tv]):=(b8.trans b7).ext;generalize w4.setRow db #[nv,tv]=w5 at *;refine zh ?_;refine zFH rfl rfl ?_;refine zv (ah (us:=[nv,tv]) c5.cellsAdd (Jr _) (IP _) rfl) ?_;refine zc call130 (uB nv tv d.1 d.2 w5 (d7.ext a1) (d6.ext a1) d1) ?_;rintro _ w6 ⟨cl,b5,b4,rfl,p1,p2,e7,e0,b',b9,a9⟩;have b3:=a1.trans e7;have a5:=b1.ext b3;have e1:IW (fun q=>q=1) O1 w3 O1 w6:=aa zd O1 b3;have c9:=a8.trans e1;have d2:=d3.ext a1;refine zsb (us:=#[b5,b4]) a5 (IP _) (by simp only[II,p1,p2];rfl) ?_;have b0:=a5.setRow (us:=#[b5,b4]);have a7:IW (fun j=>j=1) O1 w6 O1 (w6.setRow cb #[b5,b4]):=I6 zd a5.tag rfl;have d0:w.heap.size<=w5.heap.size:=Kc a8.size a1.size;refine zh ?_;refine bf rfl rfl rfl (b0.cellsAdd) (Jr _) (IP _) (⟨(c9.trans a7).ext,cl,b5,b4,rfl,p1,p2,d1,e0,(b'.upd d2 a7).mono d0,a9.slU b9 d2 a7,a9.mono d0⟩)
 have b6:stM se ts=none:=by unfold stM;rw[if_neg he]
 rw[b6];refine zTH rfl ((by simpa using he)) ?_;refine zvH (aF xU (J6 _) rfl (by first|rfl|(simp only[II,K7];rfl)) rfl rfl) ?_;refine zsa (us:=#[nS,nS]) a2 (IP _) ?_;have b0:=a2.setRow (us:=#[nS,nS]);have a7:IW (fun j=>j=1) O1 w2 O1 (w2.setRow cb #[nS,nS]):=I6 zd a2.tag rfl;refine zh ?_;refine bf rfl rfl rfl (b0.cellsAdd) (Jr _) (IP _) (⟨(b2.trans a7).ext,dz ts,he,rfl⟩)
theorem Iz:cF IS 29 #[(0,5),(5,1)]:=⟨_,underlying29,fun w=>by kernel_rfl⟩
def PartV(w:I0)(cs:List ix)(p:KU)(tl:List Nat):Prop:=
 ∃uv bv kv nv tv,cs=[nI p.width,uv,bv,kv,nv,tv]/\JF w uv p.usual/\JF w bv p.base/\JF w kv p.check/\JF w nv p.next/\Sl iw 1 w tv tl
theorem PartV.ext{w w':I0}{cs:List ix}{p:KU}{tl:List Nat}(h:PartV w cs p tl)(e:Ji w w'):PartV w' cs p tl:=by
 obtain⟨uv,bv,kv,nv,tv,h0,h1,h2,h3,h4,h5⟩:=h;exact⟨uv,bv,kv,nv,tv,h0,h1.ext e,h2.ext e,h3.ext e,h4.ext e,h5.ext e⟩
def Fq(B:Nat)(cs:List ix):Prop:=∀v∈cs,KE B v
theorem _root_.Go.VL.NewV.slI{S:Nat->Prop}{B:Nat}{O O':Nat->Nat}{w0 w w':I0}{v:ix}{l:List Int}(h:KE w0.heap.size v)(hs:JF w v l)(r:Kb B O w0)(u:IW S O w O' w'):JF w' v l:=hs.upd (h.free hs (fun x _=>by simp) r) u
theorem PartV.upd{S:Nat->Prop}{B:Nat}{O O':Nat->Nat}{w0 w w':I0}{cs:List ix}{p:KU}{tl:List Nat}(h:PartV w cs p tl)(n:Fq w0.heap.size cs)(r:Kb B O w0)(u:IW S O w O' w'):PartV w' cs p tl:=by
 obtain⟨uv,bv,kv,nv,tv,rfl,h1,h2,h3,h4,h5⟩:=h;exact⟨uv,bv,kv,nv,tv,rfl,(n uv (by simp)).slI h1 r u,(n bv (by simp)).slI h2 r u,(n kv (by simp)).slI h3 r u,(n nv (by simp)).slI h4 r u,(n tv (by simp)).slU h5 r u⟩
theorem PartV.one{w:I0}{cs:List ix}{p:KU}{tl:List Nat}(h:PartV w cs p tl):cs.length=6/\∀v∈cs,v.oneCell'=true:=by
 obtain⟨uv,bv,kv,nv,tv,rfl,h1,h2,h3,h4,h5⟩:=h;refine⟨rfl,fun v hv=>?_⟩;simp only[I2,IE,or_false]at hv
 rcases hv with rfl|rfl|rfl|rfl|rfl|rfl
 ·rfl
 ·exact h1.one
 ·exact h2.one
 ·exact h3.one
 ·exact h4.one
 exact h5.one
theorem RowsN.pack{w:I0}{v:ix}{rows:List (List Nat)}(h:RowsN w v rows):Rows w v (rows.map ints):=by
 obtain⟨vs,h1,h2,h3⟩:=h
 exact⟨vs,h1,by rw[IL];exact h2,fun i hi=>by
  rw[IL]at hi
  rw[dj hi];exact(h3 i hi).natIv⟩
def jI(g:List Nat)(many:Nat)(rows:List (List Nat)):List (List Int):=(rows.map (oh g many)).map ints
def di(g:List Nat)(many:Nat)(rows:List (List Nat)):KU:=kM (many:Int) (jI g many rows)
theorem oK{g:List Nat}{many:Nat}(hg:GrpI g many){rows:List (List Nat)}{a0:List Nat}(hr:IU rows a0):bO (many:Int) (jI g many rows)=false:=by
 have h1:=hg.pos;have h2:=hg.le;have h3:=hr.le;unfold bO;have hl:(jI g many rows).length=rows.length:=by simp[jI]
 rw[decide_eq_false zo,decide_eq_false zo,decide_eq_false zo];simp only[K1];refine Kv.2 fun r a1=>?_
 obtain⟨q,hq,rfl⟩:=Jh.1 a1;obtain⟨o,ho,rfl⟩:=Jh.1 hq;obtain⟨j,hj,rfl⟩:=cn ho;obtain⟨r1,r2⟩:=hr.row j hj;unfold gL;rw[show(ints (oh g many (nth rows j))).length=many from by simp[mq]];have a2:inB 0 65535 (ints (oh g many (nth rows j)))=true:=sK fun n hn=>by
  obtain⟨x,hx,rfl⟩:=Jh.1 hn;unfold oh at hx;obtain⟨k,hk,rfl⟩:=Jh.1 hx
  cases hf:g.findIdx? (· == k)with
  |none=>simp only[Option.getD_none];have:=r2 0 (zd);unfold nxD at *;omega
  |some q=>
   obtain⟨h1,_⟩:=JJ.1 hf;have a3:=hg.len;simp only[Option.getD_some];have:=r2 q zo;omega
 rw[a2];simp
theorem vO(g:List Nat)(many:Nat)(gv nv tv:ix)(rows:List (List Nat))(d4:List Nat)(w:I0)(hg:GrpI g many)(e':Sl aR 1 w gv g)(hn:RowsN w nv rows)(g0:Sl iw 1 w tv d4)(hr:IU rows d4) 
  (hc:∀p,p<rows.length->∀i j,i<37->j<37->nth g i=nth g j->nth (nth rows p) i=nth (nth rows p) j) :
  JG IS 92 [gv,.agg #[nv,tv]] w fun v w'=>∃cs,v=.agg cs.toArray/\PartV w' cs (di g many rows) d4/\Fq w.heap.size cs/\Ji w w':=by
 have a4:=oK hg hr;refine I3 func92 ntmps92 rfl rfl ?_;refine zh ?_;refine aH (ay w) 1 zo rfl rfl ?_;intro db w1 O1 e4 g' h4 h9;refine au h4 2 zo (Lt _) rfl ?_;intro cb w2 O2 e8 f8 b8 h8;have e3:=e4.upd f8 zd zd;have b6:IW (fun q=>1<=q) (fun _=>0) w O2 w2:=(g'.mono (fun _ h=>zo) zd).trans (f8.mono (fun _ h=>zo) zd);have b7:=b6.ext;refine zh ?_;refine zv (ah (us:=[nv,tv]) e3.cellsAdd (Jr _) (IP _) rfl) ?_;refine zc call137 (Cq g many gv nv tv rows d4 w2 hg (e'.ext b7) (hn.ext b7) (g0.ext b7) hr hc) ?_;rintro _ w3 ⟨d8,a6,a5,rfl,o1,o2,o3,c9,a',a9,h5⟩;have d6:IW (fun _=>False) O2 w2 O2 w3:=aa (fun h=>h) O2 h5;have e7:=e8.upd d6 zd (fun h=>h);have e9:=b6.trans (d6.mono (fun _ h=>h.elim) zd);have h3:=b8.upd d6;refine zh ?_;refine au h3 3 zo (zeroValue225 _) rfl ?_;intro nb w4 O4 b3 g8 h2 h7;refine zsb (us:=#[d8,a6,a5]) b3 (sizeOf225 _) (by simp only[II,o1,o2,o3];rfl) ?_;have b2:=b3.setRow (us:=#[d8,a6,a5]);have f7:IW (fun j=>j=3) O4 w4 O4 (w4.setRow nb #[d8,a6,a5]):=I6 zd b3.tag rfl;have a2:=g8.trans f7;have g9:=(d6.mono (S':=fun q=>q=3) (fun _ h=>h.elim) zd).trans a2;have e6:=e7.upd a2 zd zd;have g6:=c9.upd b8 a2;have f':=a9.slU a' b8 a2;have h1:=h2.upd f7;have b5:=e9.trans (a2.mono (fun _ h=>zo) zd);generalize w4.setRow nb #[d8,a6,a5]=w5 at *;have h6:(rows.map (oh g many)).length=rows.length:=by simp
 refine zh ?_;have d1:w5.drew.cell? (nA nb 1)=some a6:=b2.cell 1 rfl;refine aK (fun W=>W.cell? (nA nb 1)=some a6) 11 rfl zk ?_
 refine zrm 0 rfl d1 rfl ?_;refine zrf 2 rfl d1 rfl ?_
 refine zt 3 rfl d1 (fun w1 f9=>RV.ld f9 rfl) ?_;refine xz (fun x:ix×ix×ix×ix×Int×Nat×(Nat->Nat)×World=>[(4,nP cb),(5,nP nb),(7,.pointer (some ⟨x.2.2.2.2.2.1,0,none⟩)),(21,.agg #[nI (di g many rows).width,x.1,x.2.1,x.2.2.1,x.2.2.2.1]),(22,nI x.2.2.2.2.1)]) (fun x=>x.2.2.2.2.2.2.2) (fun x=>JF x.2.2.2.2.2.2.2 x.1 (di g many rows).usual/\JF x.2.2.2.2.2.2.2 x.2.1 (di g many rows).base/\JF x.2.2.2.2.2.2.2 x.2.2.1 (di g many rows).check/\JF x.2.2.2.2.2.2.2 x.2.2.2.1 (di g many rows).next/\KE w5.heap.size x.1/\KE w5.heap.size x.2.1/\KE w5.heap.size x.2.2.1/\KE w5.heap.size x.2.2.2.1/\JV x.2.2.2.2.2.2.1 x.2.2.2.2.2.2.2 4 x.2.2.2.2.2.1 #[nI 0,nS,nS,nS,nS] 26/\IW (fun q=>q=4) O4 w5 x.2.2.2.2.2.2.1 x.2.2.2.2.2.2.2/\Kb w.heap.size x.2.2.2.2.2.2.1 x.2.2.2.2.2.2.2/\Ls x.2.2.2.2.2.2.1 x.2.2.2.2.2.2.2 x.1/\Ls x.2.2.2.2.2.2.1 x.2.2.2.2.2.2.2 x.2.1/\Ls x.2.2.2.2.2.2.1 x.2.2.2.2.2.2.2 x.2.2.1/\Ls x.2.2.2.2.2.2.1 x.2.2.2.2.2.2.2 x.2.2.2.1) #[true,true,true,true,true,true,true,true,true,false,false] 2 ?_ ?_
 ·intro hN;have hR:=h1.drew;have hU:IW (fun q=>q=4) O4 w5 O4 w5.drew:=aa zd O4 (I4 w5).drew;have k0:∀O W,IW (fun q=>q=4) O4 w5 O W->W.cell? (nA nb 1)=some a6:=fun O W u=>(b2.upd u zd zd).cell 1 rfl
  have kg:∀O W,IW (fun q=>q=4) O4 w5 O W->Sl encI 1 W gv (ints g):=fun O W u=>(e'.ext (b5.trans (u.mono (fun _ h=>zo) zd)).ext).natIv
  have kn:∀O W,IW (fun q=>q=4) O4 w5 O W->Rows W a6 (jI g many rows):=fun O W u=>(c9.upd b8 (a2.mono (S':=fun q=>q=3\/q=4) (fun _ h=>.inl h) zd |>.trans (u.mono (fun _ h=>.inr h) zd))).rows.pack
  refine bZ 1 8 zk rfl rfl ?_ ?_ 
  ·refine zc Ly (gY (ints g) gv _ (kg _ _ hU)) ?_;rintro _ wa ⟨rfl,c8⟩;rw[c8,hg.cnt];clear c8 wa;refine zh ?_
   refine af (k0 _ _ hU) ?_;refine bZ 4 8 zk rfl rfl ?_ ?_ 
   ·refine zc Ln (mT (many:Int) (jI g many rows) a6 _ (kn _ _ hU)) ?_;rintro _ wb ⟨pv,ep,rfl,fP,f5,d2,gP⟩;have gP:=gP a4;rw[a4,if_neg zd]at fP;obtain⟨b9,b',d3,c7,c6,c5,n1,n2,n3,n4⟩:=gP;obtain⟨uv,bv,kv,a0,pe,f1,f2,f3,f4⟩:=fP;subst pe;obtain⟨rfl,rfl,rfl,rfl,rfl⟩:_=b9/\uv=b'/\bv=d3/\kv=c7/\a0=c6:=by simpa using c5
    have fU:=hU.size;have g1:=n1.free f1 (fun x _=>by simp) hR;have g2:=n2.free f2 (fun x _=>by simp) hR;have g3:=n3.free f3 (fun x _=>by simp) hR;have g4:=n4.free f4 (fun x _=>by simp) hR;have n1:=n1.mono fU;have n2:=n2.mono fU;have n3:=n3.mono fU;have n4:=n4.mono fU;have a7:=fun O=>aa (S:=fun _=>False) (fun h=>h) O d2
    have hU:=IH hU ((a7 _).mono (fun _ h=>h.elim) zd);have hR:=L5 hR (a7 _)
    try have fC:=KQ fC (a7 _) zd (fun h=>h)
    refine zh ?_;refine zaf (k0 _ _ hU) fun zS=>?_
    refine zrm 5 rfl zS rfl ?_;refine zr 6 rfl zS (fun _=>JB rfl rfl) ?_
    refine zr 7 rfl zS (fun _=>JB rfl rfl) ?_;refine I9 8 zk rfl ?_
    refine au hR 4 zd (KC _) rfl ?_;intro pb wc Oc fC a1 d0 a3;have hU:=IH hU a1;have hR:=d0
    try have f1:=Jt f1 a3
    try have f2:=Jt f2 a3
    try have f3:=Jt f3 a3
    try have f4:=Jt f4 a3
    try have g1:=J5 g1 a1
    try have g2:=J5 g2 a1
    try have g3:=J5 g3 a1
    try have g4:=J5 g4 a1
    refine zh ?_;refine af (k0 _ _ hU) ?_
    exact JA (hN (uv,bv,kv,a0,ep,pb,_,_) ⟨f1,f2,f3,f4,n1,n2,n3,n4,fC,hU,hR,g1,g2,g3,g4⟩) zk ⟨rfl,rfl,rfl,rfl,rfl,trivial⟩ rfl
   refine au hR 4 zd (KC _) rfl ?_;intro pb wc Oc fC a1 d0 a3;have hU:=IH hU a1;have hR:=d0
   try have f1:=Jt f1 a3
   try have f2:=Jt f2 a3
   try have f3:=Jt f3 a3
   try have f4:=Jt f4 a3
   try have g1:=J5 g1 a1
   try have g2:=J5 g2 a1
   try have g3:=J5 g3 a1
   try have g4:=J5 g4 a1
   refine zh ?_;refine af (k0 _ _ hU) ?_
   refine I9 4 zk rfl ?_;refine zc Ln (mT (many:Int) (jI g many rows) a6 _ (kn _ _ hU)) ?_
   rintro _ wb ⟨pv,ep,rfl,fP,f5,d2,gP⟩;have gP:=gP a4;rw[a4,if_neg zd]at fP;obtain⟨b9,b',d3,c7,c6,c5,n1,n2,n3,n4⟩:=gP;obtain⟨uv,bv,kv,a0,pe,f1,f2,f3,f4⟩:=fP;subst pe;obtain⟨rfl,rfl,rfl,rfl,rfl⟩:_=b9/\uv=b'/\bv=d3/\kv=c7/\a0=c6:=by simpa using c5
   have fU:=hU.size;have g1:=n1.free f1 (fun x _=>by simp) hR;have g2:=n2.free f2 (fun x _=>by simp) hR;have g3:=n3.free f3 (fun x _=>by simp) hR;have g4:=n4.free f4 (fun x _=>by simp) hR;have n1:=n1.mono fU;have n2:=n2.mono fU;have n3:=n3.mono fU;have n4:=n4.mono fU;have a7:=fun O=>aa (S:=fun _=>False) (fun h=>h) O d2
   have hU:=IH hU ((a7 _).mono (fun _ h=>h.elim) zd);have hR:=L5 hR (a7 _)
   try have fC:=KQ fC (a7 _) zd (fun h=>h)
   refine zh ?_;refine zaf (k0 _ _ hU) fun zS=>?_
   refine zrm 5 rfl zS rfl ?_;refine zr 6 rfl zS (fun _=>JB rfl rfl) ?_
   refine zr 7 rfl zS (fun _=>JB rfl rfl) ?_;exact JA (hN (uv,bv,kv,a0,ep,pb,_,_) ⟨f1,f2,f3,f4,n1,n2,n3,n4,fC,hU,hR,g1,g2,g3,g4⟩) zk ⟨rfl,rfl,rfl,rfl,rfl,trivial⟩ rfl
  refine au hR 4 zd (KC _) rfl ?_;intro pb wc Oc fC a1 d0 a3;have hU:=IH hU a1;have hR:=d0
  try have f1:=Jt f1 a3
  try have f2:=Jt f2 a3
  try have f3:=Jt f3 a3
  try have f4:=Jt f4 a3
  try have g1:=J5 g1 a1
  try have g2:=J5 g2 a1
  try have g3:=J5 g3 a1
  try have g4:=J5 g4 a1
  refine zh ?_;refine af (k0 _ _ hU) ?_
  refine I9 1 zk rfl ?_;refine zc Ly (gY (ints g) gv _ (kg _ _ hU)) ?_
  rintro _ wa ⟨rfl,c8⟩;rw[c8,hg.cnt];clear c8 wa;refine zh ?_;refine af (k0 _ _ hU) ?_;refine I9 4 zk rfl ?_;refine zc Ln (mT (many:Int) (jI g many rows) a6 _ (kn _ _ hU)) ?_;rintro _ wb ⟨pv,ep,rfl,fP,f5,d2,gP⟩;have gP:=gP a4;rw[a4,if_neg zd]at fP;obtain⟨b9,b',d3,c7,c6,c5,n1,n2,n3,n4⟩:=gP;obtain⟨uv,bv,kv,a0,pe,f1,f2,f3,f4⟩:=fP;subst pe;obtain⟨rfl,rfl,rfl,rfl,rfl⟩:_=b9/\uv=b'/\bv=d3/\kv=c7/\a0=c6:=by simpa using c5
  have fU:=hU.size;have g1:=n1.free f1 (fun x _=>by simp) hR;have g2:=n2.free f2 (fun x _=>by simp) hR;have g3:=n3.free f3 (fun x _=>by simp) hR;have g4:=n4.free f4 (fun x _=>by simp) hR;have n1:=n1.mono fU;have n2:=n2.mono fU;have n3:=n3.mono fU;have n4:=n4.mono fU;have a7:=fun O=>aa (S:=fun _=>False) (fun h=>h) O d2
  have hU:=IH hU ((a7 _).mono (fun _ h=>h.elim) zd);have hR:=L5 hR (a7 _)
  try have fC:=KQ fC (a7 _) zd (fun h=>h)
  refine zh ?_;refine zaf (k0 _ _ hU) fun zS=>?_
  refine zrm 5 rfl zS rfl ?_;refine zr 6 rfl zS (fun _=>JB rfl rfl) ?_
  refine zr 7 rfl zS (fun _=>JB rfl rfl) ?_;exact JA (hN (uv,bv,kv,a0,ep,pb,_,_) ⟨f1,f2,f3,f4,n1,n2,n3,n4,fC,hU,hR,g1,g2,g3,g4⟩) zk ⟨rfl,rfl,rfl,rfl,rfl,trivial⟩ rfl
 rintro⟨uv,bv,kv,a0,ep,pb,O7,w7⟩ ⟨f1,f2,f3,f4,n1,n2,n3,n4,b0,a8,h0,g1,g2,g3,g4⟩;dsimp only at f1 f2 f3 f4 n1 n2 n3 n4 b0 a8 h0 g1 g2 g3 g4 ⊢;have q1:=f1.one;have q2:=f2.one;have q3:=f3.one;have q4:=f4.one;have e1:=b2.upd a8 zd zd;have e5:=e6.upd a8 zd zd;refine I9 9 zk rfl ?_;refine zsb (us:=#[nI (di g many rows).width,uv,bv,kv,a0]) b0 (Lb _) (by simp only[II,q1,q2,q3,q4];rfl) ?_;have e0:=b0.setRow (us:=#[nI (di g many rows).width,uv,bv,kv,a0]);have d7:IW (fun j=>j=4) O7 w7 O7 (w7.setRow pb #[nI (di g many rows).width,uv,bv,kv,a0]):=I6 zd b0.tag rfl;generalize w7.setRow pb #[nI (di g many rows).width,uv,bv,kv,a0]=w8 at *;have b1:=e1.upd d7 zd zd;have b4:=e5.upd d7 zd zd;have c':=a8.trans d7;have d9:=a9.slU a' b8 ((a2.mono (S':=fun q=>q=3\/q=4) (fun _ h=>.inl h) zd).trans (c'.mono (fun _ h=>.inr h) zd));have d':=(a9.free a' (fun x _=>by simp) b8).upd ((a2.mono (S':=fun q=>q=3\/q=4) (fun _ h=>.inl h) zd).trans (c'.mono (fun _ h=>.inr h) zd));refine zh ?_;refine af (b1.cell 1 rfl) ?_;have e2:w8.cell? (nA nb 2)=some a5:=b1.cell 2 rfl;refine zra 10 rfl (b1.cell 1 rfl) rfl ?_;refine Jd zk ?_;refine zh ?_;refine zv (ah (us:=[nI (di g many rows).width,uv,bv,kv,a0]) e0.cellsAdd (isAgg26 _) (Lb _) rfl) ?_;obtain⟨ta,tc,g5,_⟩:=a'.shape;refine zh ?_;refine zv (Jw (cells:=#[nI (di g many rows).width,uv,bv,kv,a0,a5]) Iz (Lt _) rfl (by rw[g5];rfl)) ?_
 refine zsb (us:=#[nI (di g many rows).width,uv,bv,kv,a0,a5]) b4 (Jj _) (by simp only[II,q1,q2,q3,q4,o3];rfl) ?_;have g7:=b4.setRow (us:=#[nI (di g many rows).width,uv,bv,kv,a0,a5]);have f6:IW (fun j=>j=2) O7 w8 O7 (w8.setRow cb #[nI (di g many rows).width,uv,bv,kv,a0,a5]):=I6 zd b4.tag rfl;have hU8z:=(d7.mono (S':=fun q=>q=2\/q=4) (fun _ h=>.inr h) zd).trans (f6.mono (fun _ h=>.inl h) zd);have d5:=b5.size;refine zh ?_
 refine aL rfl rfl (g7.cellsAdd) (JU _) (Jj _) (⟨[nI (di g many rows).width,uv,bv,kv,a0,a5],rfl,⟨uv,bv,kv,a0,a5,rfl,f1.upd g1 hU8z,f2.upd g2 hU8z,f3.upd g3 hU8z,f4.upd g4 hU8z,d9.upd d' f6⟩,fun v hv=>?_,((b5.trans (a8.mono (fun _ h=>zo) zd)).trans (hU8z.mono (fun _ h=>zo) zd)).ext⟩);simp only[I2,IE,or_false]at hv
 rcases hv with rfl|rfl|rfl|rfl|rfl|rfl
 ·exact fun a n c e=>by cases e
 ·exact n1.mono d5
 ·exact n2.mono d5
 ·exact n3.mono d5
 ·exact n4.mono d5
 exact a9.mono b6.size
end Go.Proofs.YteolbhblkgjbhaaGreatDoor
section
namespace Go.VL
open Go.Proofs
theorem dr{P:Kr}{N:Nat}{ops:Array Lp}{Q:Exit->Act->I0->Prop}{a0:List Lp}{st:St}{w:I0}{t:Je}{p:String}{e:Array Edge}{x y:L1} 
  {T:Je} {O:Nat->Nat} {i b:Nat} {cs us:Array ix} {E:Je} (off:Nat) (a1:Array ix) (hb:JV O w i b cs E) (a2:(cs.toList.take off++us.toList++cs.toList.drop (off+us.size)).toArray=a1) (hs:off+us.size<=cs.size) (hT:(sizeOf T).run P w=.ok us.size w) (h1:us.toList.all Jb=true)
  {q:Ke} (hx:ev st x=some (.pointer (some q))) (hq:q=⟨b,off,none⟩) (hy:ev st y=some (.agg us))
  (h:WL P N ops Q a0 st (w.setRow b a1)):WL P N ops Q (⟨none,.store T x y,t,p,e,none⟩::a0) st w:=by
 subst a2;exact kz off hb hs hT h1 hx hq hy h
end Go.VL
namespace Go.Proofs.YteolbhblkgjbhaaGreatDoor
open Go.VL Go.Proofs
set_option maxRecDepth 10000
theorem DK:cF IS 31 #[(0,1),(1,1),(2,1),(3,1),(4,1),(5,6),(11,6)]:=⟨_,underlying31,fun w=>by kernel_rfl⟩
structure TabM where
 ig:Nat
 kp:Nat
 br:Nat
 rules:Int
 groups:List Int
 left:KU
 lt:List Nat
 right:KU
 rt:List Nat
abbrev eJ(ig kp br:Nat)(rules:Int)(gv:ix)(lc rc:List ix):List ix:=[.int .u64 (ig:Int),.int .u64 (kp:Int),.int .u64 (br:Int),nI rules,gv]++lc++rc
def TabV(w:I0)(v:ix)(t:TabM):Prop:=∃gv lc rc,v=.agg (eJ t.ig t.kp t.br t.rules gv lc rc).toArray/\JF w gv t.groups/\PartV w lc t.left t.lt/\PartV w rc t.right t.rt
def TabN(B:Nat)(v:ix):Prop:=∀cs:List ix,v=.agg cs.toArray->Fq B cs
abbrev dy:List ix:=[nI 0,nS,nS,nS,nS,nS]
abbrev nW:Array ix:=(eJ 0 0 0 0 (nS) dy dy).toArray
def gJ(ts:List R3):Nat->Nat
 |0=>0
 |i+1=>if(nth ts i).2.2=true then gJ ts i ||| 2^i else gJ ts i
theorem uW(ts:List R3):∀i,i<=40->gJ ts i<2^40
 |0,_=>by unfold gJ;decide
 |i+1,h=>by
  unfold gJ
  split
  ·exact J0 (uW ts i zo) (J2 zd zo)
  exact uW ts i zo
abbrev jQ(ts:List R3):List Nd:=ts.map (·.1)
abbrev dU(ts:List R3):List Nd:=ts.map (·.2.1)
def mF(li lk:List Int)(ts:List R3)(A B:List (List Nat)×List Nat):TabM:=
 ⟨cu li,cu lk,gJ ts ts.length,ts.length,ints (bA [A.1,B.1]),di (bA [A.1,B.1]) (gA (ints (bA [A.1,B.1]))) A.1,A.2,di (bA [A.1,B.1]) (gA (ints (bA [A.1,B.1]))) B.1,B.2⟩
def PostC(B:Nat)(w:I0)(v:ix)(li lk:List Int)(ts:List R3):Prop:=
 (ej li lk ts=false/\v=.tuple #[.agg nW,nI 1])\/ej li lk ts=true/\
  ((∃a b clA clB u,stM true (jQ ts)=some a/\stM false (dU ts)=some b/\IU a.1 a.2/\IU b.1 b.2/\Cls clA a/\Cls clB b/\v=.tuple #[u,nI 0]/\TabV w u (mF li lk ts (aP clA a.1 a.2) (aP clB b.1 b.2))/\TabN B u)\/
   ((stM true (jQ ts)=none\/stM false (dU ts)=none)/\v=.tuple #[.agg nW,nI 7]))
theorem dO{li lk:List Int}{ts:List R3}(h:ej li lk ts=true):ts.length<=40/\(∀c∈li,0<=c/\c<=35)/\(∀c∈lk,0<=c/\c<=35)/\∀t∈ts,qd t=true:=by
 have a0:∀ {l:List Int},jK l=true->∀c∈l,0<=c/\c<=35:=fun {l} h c hc=>by
  obtain⟨j,hj,rfl⟩:=cn hc;have:=cm.1 (show iG (CO l) l.length=false by simpa[jK]using h) j hj;simp only[CO,Bool.or_eq_false_iff,decide_eq_false_iff_not]at this;omega
 simp only[ej,IN,decide_eq_true_eq]at h;obtain⟨⟨⟨h1,h2⟩,h3⟩,h4⟩:=h;refine⟨zo,a0 h2,a0 h3,fun t ht=>?_⟩;obtain⟨j,hj,rfl⟩:=cn ht;have:=cm.1 (show iG (fun i=>!(qd (nth ts i))) ts.length=false by simpa[Gt]using h4) j hj;simpa using this
theorem PostSt.uni{B:Nat}{w:I0}{v:ix}{o:Option (List (List Nat)×List Nat)}(h:PostSt B w v o):∃nv tv,∃e:Int,v=.tuple #[.agg #[nv,tv],nI e]/\nv.oneCell'=true/\tv.oneCell'=true/\(e≠0->o=none)/\
  (e=0->∃d cl,o=some d/\IU d.1 d.2/\Cls cl d/\Lu B w nv (aP cl d.1 d.2).1/\Sl iw 1 w tv (aP cl d.1 d.2).2/\KE B tv):=by
 cases o with
 |none=>
  obtain⟨e,he,rfl⟩:=h;exact⟨_,_,e,rfl,rfl,rfl,fun _=>rfl,fun e0=>absurd e0 he⟩
 |some d=>
  obtain⟨cl,nv,tv,rfl,o1,o2,h1,h2,h3,h4,h5⟩:=h;exact⟨nv,tv,0,rfl,o1,o2,fun e=>absurd rfl e,fun _=>⟨d,cl,rfl,h1,h2,h3,h4,h5⟩⟩
theorem eA{rows:List (List Nat)}{a0:List Nat}(hr:IU rows a0)(cl:Nat->Nat):IU (aP cl rows a0).1 (aP cl rows a0).2:=by
 obtain⟨F,h⟩:=fS (cl:=cl) (tl:=nth a0) hr.nx (rows.length+1) 0 [0] [] [] (mD hr.pos) zo;have h1:=h.rl;have h2:=h.tln;have h3:=h.reps.len;have h4:=hr.le;have h5:=h.p0
 exact⟨by show 0<(fo _ _ _ _ _ _ _ _).1.length;omega,by show(fo _ _ _ _ _ _ _ _).1.length<=1000;omega,by show(fo _ _ _ _ _ _ _ _).2.length=(fo _ _ _ _ _ _ _ _).1.length;omega,fun j hj=>by
  obtain⟨r1,r2⟩:=h.row j (by rw[<-h1];exact hj)
  exact⟨r1,fun m hm=>by have:=(r2 m hm).1;rw[<-h1]at this;exact this⟩⟩
section
variable(li lk:List Int)(ts:List R3)(A B:List (List Nat)×List Nat)
theorem Ds:(mF li lk ts A B).ig=cu li:=rfl
theorem Dr:(mF li lk ts A B).kp=cu lk:=rfl
theorem Dt:(mF li lk ts A B).br=gJ ts ts.length:=rfl
theorem xK:(mF li lk ts A B).rules=(ts.length:Int):=rfl
theorem tJ:(mF li lk ts A B).groups=ints (bA [A.1,B.1]):=rfl
theorem ry:(mF li lk ts A B).left=di (bA [A.1,B.1]) (gA (ints (bA [A.1,B.1]))) A.1:=rfl
theorem oG:(mF li lk ts A B).right=di (bA [A.1,B.1]) (gA (ints (bA [A.1,B.1]))) B.1:=rfl
theorem zu:(mF li lk ts A B).lt=A.2:=rfl
theorem zq:(mF li lk ts A B).rt=B.2:=rfl
end
theorem B9{B0:Nat}{w:I0}{li lk:List Int}{ts:List R3}{xs:List X3}{a b A B:List (List Nat)×List Nat}{a6 a5:Nat->Nat}{g:List Nat}{many a7:Nat}{pa pb:KU}{gv:ix}{lc rc:List ix}(a8:ej li lk ts=true)(b4:stM true (jQ ts)=some a)(b1:stM false (dU ts)=some b)(b5:IU a.1 a.2)(b2:IU b.1 b.2)(b6:Cls a6 a)(b3:Cls a5 b) 
  (hA:A=aP a6 a.1 a.2) (hB:B=aP a5 b.1 b.2) (a1:g=bA [A.1,B.1]) (a0:gA (ints g)=many) (a':pa=di g many A.1) (a9:pb=di g many B.1) (a4:a7=gJ ts xs.length) (hl:ts.length=xs.length) (b0:Sl aR 1 w gv g) (b8:PartV w lc pa A.2) (b7:PartV w rc pb B.2)
  (n1:KE B0 gv) (n2:Fq B0 lc) (n3:Fq B0 rc):PostC B0 w (.tuple #[.agg (eJ (cu li) (cu lk) a7 (xs.length:Nat) gv lc rc).toArray,nI 0]) li lk ts:=by
 refine .inr ⟨a8,.inl ⟨a,b,a6,a5,_,b4,b1,b5,b2,b6,b3,rfl,?_,?_⟩⟩
 ·rw[<-hA,<-hB];have a0:gA (ints (bA [A.1,B.1]))=many:=by rw[<-a1];exact a0
  refine⟨gv,lc,rc,?_,?_,?_,?_⟩
  ·rw[Ds,Dr,Dt,xK,hl,<-a4]
  ·rw[tJ,<-a1];exact b0.natIv
  ·rw[ry,zu,a0,<-a1,<-a'];exact b8
  rw[oG,zq,a0,<-a1,<-a9];exact b7
 intro cs a3;have a2:cs=eJ (cu li) (cu lk) a7 (xs.length:Nat) gv lc rc:=by
  have:=(Lo a3).symm;simpa using this
 subst a2;intro v hv
 rcases IT.1 hv with hv|hv
 ·rcases IT.1 hv with hv|hv
  ·simp only[I2,IE,or_false]at hv
   rcases hv with rfl|rfl|rfl|rfl|rfl
   ·exact fun a n c e=>by cases e
   ·exact fun a n c e=>by cases e
   ·exact fun a n c e=>by cases e
   ·exact fun a n c e=>by cases e
   exact n1
  exact n2 v hv
 exact n3 v hv
set_option maxHeartbeats 1000000 in
theorem uS(li lk:List Int)(ts:List R3)(v:ix)(w:I0)(h:Tx w v li lk ts):
  JG IS 55 [v] w fun u w'=>Ji w w'/\PostC w.heap.size w' u li lk ts:=by
 obtain⟨ig,kp,ru,xs,rfl,hi,hk,l9,hl,hx⟩:=h.ex;have i1:=hi.one;have i2:=hk.one;have i3:=l9.one;refine I3 func55 ntmps55 rfl rfl ?_;refine zh ?_;refine aH (ay w) 1 zo rfl rfl ?_;intro db w1 O1 t' hU1 hR1 hE1;refine au hR1 2 zo (IY _) rfl ?_;intro cb w2 O2 u4 x9 hR2 hE2;have m6:=t'.upd x9 zd zd;have n8:IW (fun q=>1<=q) (fun _=>0) w O2 w2:=(hU1.mono (fun _ h=>zo) zd).trans (x9.mono (fun _ h=>zo) zd);have h8:=n8.ext;refine zh ?_;refine zv (ah (us:=[ig,kp,ru]) m6.cellsAdd (isAgg56 _) (sizeOf56 _) rfl) ?_;refine zc call24 (xS li lk ts xs ig kp ru w2 (hi.ext h8) (hk.ext h8) (l9.ext h8) hl (fun i hi=>(hx i hi).ext h8)) ?_;rintro _ w3 ⟨rfl,hE3⟩;have p9:IW (fun _=>False) O2 w2 O2 w3:=aa (fun h=>h) O2 hE3;have j9:=m6.upd p9 zd (fun h=>h);have g8:=u4.upd p9 zd (fun h=>h);have g1:=n8.trans (p9.mono (fun _ h=>h.elim) zd);have hR3:=hR2.upd p9;refine zh ?_
 by_cases s9:ej li lk ts=false
 ·refine zTH rfl ((by rw[s9];rfl)) ?_;refine zv (Jw (cells:=nW) DK (IY _) rfl rfl) ?_
  refine zsa (us:=nW) g8 (J4 _) ?_;have j':=g8.setRow (us:=nW);have k6:IW (fun j=>j=2) O2 w3 O2 (w3.setRow cb nW):=I6 zd g8.tag rfl;refine zh ?_
  refine bf rfl rfl rfl (j'.cellsAdd) (JK _) (J4 _) (⟨(g1.trans (k6.mono (fun _ h=>zo) zd)).ext,.inl ⟨s9,rfl⟩⟩)
 have l':ej li lk ts=true:=by simpa using s9
 obtain⟨h40,x4,t5,hrr⟩:=dO l';refine aT rfl ((by rw[l'];rfl)) ?_;have s8:=l9.ext g1.ext;refine zh ?_;have d0:=j9.drew.cellsAdd;refine aK (fun W=>∀j u,[ig,kp,ru][j]? = some u->W.cell? (nA db j)=some u) 12 rfl zk ?_;refine zrf 0 rfl d0 rfl ?_;refine zt 1 rfl d0 (fun w1 a6=>RV.ld (a6 0 _ rfl) rfl) ?_;refine zrf 3 rfl d0 rfl ?_;refine zt 4 rfl d0 (fun w1 a6=>RV.ld (a6 1 _ rfl) rfl) ?_;refine zrf 6 rfl d0 rfl ?_;refine zt 7 rfl d0 (fun w1 a6=>RV.ld (a6 2 _ rfl) rfl) ?_;refine zr 8 rfl d0 (fun _=>bj s8.sh underlying54 rfl) ?_;refine xz (fun x:Nat×(Nat->Nat)×World=>[(1,nP db),(2,nP cb),(4,.pointer (some ⟨x.1,0,none⟩)),(26,.agg (eJ (cu li) (cu lk) 0 (xs.length:Nat) (nS) dy dy).toArray)]) (fun x=>x.2.2) (fun x=>JV x.2.1 x.2.2 3 x.1 nW 31/\IW (fun q=>q=3) O2 w3 x.2.1 x.2.2/\Kb w.heap.size x.2.1 x.2.2) #[true,true,true,true,true,true,true,true,true,true,true,false] 1 ?_ ?_
 ·intro hN;have hR:=hR3.drew;have hU:IW (fun q=>q=3) O2 w3 O2 w3.drew:=aa zd O2 (I4 w3).drew;have k0:∀O W,IW (fun q=>q=3) O2 w3 O W->∀(j:Nat) (u:ix),[ig,kp,ru][j]? = some u->W.cell? (nA db j)=some u:=fun O W u=>(j9.upd u zd zd).cellsAdd
  have ki:∀O W,IW (fun q=>q=3) O2 w3 O W->Sl encI 1 W ig li:=fun O W u=>hi.ext (g1.trans (u.mono (fun _ h=>zo) zd)).ext
  have kk:∀O W,IW (fun q=>q=3) O2 w3 O W->Sl encI 1 W kp lk:=fun O W u=>hk.ext (g1.trans (u.mono (fun _ h=>zo) zd)).ext
  refine bZ 2 10 zk rfl rfl ?_ ?_ 
  ·refine zc KR (mK li ig _ (ki _ _ hU) x4) ?_;rintro _ wa ⟨rfl,c6⟩;rw[c6];clear c6 wa;refine zh ?_
   refine af (k0 _ _ hU) ?_;refine bZ 5 10 zk rfl rfl ?_ ?_ 
   ·refine zc KR (mK lk kp _ (kk _ _ hU) t5) ?_;rintro _ wa ⟨rfl,c6⟩;rw[c6];clear c6 wa;refine zh ?_
    refine af (k0 _ _ hU) ?_;refine zr 9 rfl (k0 _ _ hU) (fun _=>Jw (cells:=(eJ (cu li) (cu lk) 0 (xs.length:Nat) (nS) dy dy).toArray) DK (IY _) rfl rfl) ?_
    refine I9 10 zk rfl ?_;refine au hR 3 zd (IY _) rfl ?_
    intro tb wc Oc fC b0 g2 y0;have hU:=IH hU b0;have hR:=g2;refine zh ?_;refine af (k0 _ _ hU) ?_;exact JA (hN (tb,_,_) ⟨fC,hU,hR⟩) zk ⟨rfl,rfl,rfl,rfl,trivial⟩ rfl
   refine au hR 3 zd (IY _) rfl ?_;intro tb wc Oc fC b0 g2 y0;have hU:=IH hU b0;have hR:=g2;refine zh ?_
   refine af (k0 _ _ hU) ?_;refine I9 5 zk rfl ?_
   refine zc KR (mK lk kp _ (kk _ _ hU) t5) ?_;rintro _ wa ⟨rfl,c6⟩;rw[c6];clear c6 wa;refine zh ?_
   refine af (k0 _ _ hU) ?_;refine zr 9 rfl (k0 _ _ hU) (fun _=>Jw (cells:=(eJ (cu li) (cu lk) 0 (xs.length:Nat) (nS) dy dy).toArray) DK (IY _) rfl rfl) ?_
   exact JA (hN (tb,_,_) ⟨fC,hU,hR⟩) zk ⟨rfl,rfl,rfl,rfl,trivial⟩ rfl
  refine au hR 3 zd (IY _) rfl ?_;intro tb wc Oc fC b0 g2 y0;have hU:=IH hU b0;have hR:=g2;refine zh ?_
  refine af (k0 _ _ hU) ?_;refine I9 2 zk rfl ?_
  refine zc KR (mK li ig _ (ki _ _ hU) x4) ?_;rintro _ wa ⟨rfl,c6⟩;rw[c6];clear c6 wa;refine zh ?_
  refine af (k0 _ _ hU) ?_;refine I9 5 zk rfl ?_
  refine zc KR (mK lk kp _ (kk _ _ hU) t5) ?_;rintro _ wa ⟨rfl,c6⟩;rw[c6];clear c6 wa;refine zh ?_
  refine af (k0 _ _ hU) ?_;refine zr 9 rfl (k0 _ _ hU) (fun _=>Jw (cells:=(eJ (cu li) (cu lk) 0 (xs.length:Nat) (nS) dy dy).toArray) DK (IY _) rfl rfl) ?_
  exact JA (hN (tb,_,_) ⟨fC,hU,hR⟩) zk ⟨rfl,rfl,rfl,rfl,trivial⟩ rfl
 rintro⟨tb,O4,w4⟩ ⟨g5,r6,x'⟩;dsimp only at g5 r6 x' ⊢;have t9:=j9.upd r6 zd zd;have u3:=g8.upd r6 zd zd;refine I9 11 zk rfl ?_;refine zsa (us:=(eJ (cu li) (cu lk) 0 (xs.length:Nat) (nS) dy dy).toArray) g5 (J4 _) ?_;have s6:=g5.setRow (us:=(eJ (cu li) (cu lk) 0 (xs.length:Nat) (nS) dy dy).toArray);have q':IW (fun j=>j=3) O4 w4 O4 (w4.setRow tb (eJ (cu li) (cu lk) 0 (xs.length:Nat) (nS) dy dy).toArray):=I6 zd g5.tag rfl;generalize w4.setRow tb (eJ (cu li) (cu lk) 0 (xs.length:Nat) (nS) dy dy).toArray=w5 at *;have m5:=t9.upd q' zd zd;have u0:=u3.upd q' zd zd;have hR5:=x'.upd q';have n7:=g1.trans ((r6.trans q').mono (fun _ h=>zo) zd);refine zh ?_;refine af (m5.cellsAdd) ?_;have y7:=l9.ext n7.ext;have c2:w5.cell? (nA db 2)=some ru:=m5.cell 2 rfl;have z6:(2^40:Nat)=1099511627776:=zd;refine Jd zk ?_;refine zh ?_
 refine zlp (fun z:Nat×(Nat->Nat)×World×ix×ix=>[(1,nP db),(2,nP cb),(4,nP tb),(5,z.2.2.2.1),(6,z.2.2.2.2),(28,ru),(29,nI xs.length),(30,nI z.1)]) (fun z=>z.2.2.1) (fun z=>z.1<=xs.length/\IW (fun q=>3<=q) O4 w5 z.2.1 z.2.2.1/\Kb w.heap.size z.2.1 z.2.2.1/\JV z.2.1 z.2.2.1 3 tb (eJ (cu li) (cu lk) (gJ ts z.1) (xs.length:Nat) (nS) dy dy).toArray 31/\KT bt 120 3 z.2.1 z.2.2.1 4 z.2.2.2.1 ((xs.take z.1).map (·.1))/\KT bt 120 3 z.2.1 z.2.2.1 5 z.2.2.2.2 ((xs.take z.1).map (·.2.1))) (fun z=>xs.length-z.1) (0,O4,w5,nS,nS) (⟨IG _,KS zd _ _,hR5,s6,KJ _ _ _ _ _ _,KJ _ _ _ _ _ _⟩) ?_;rintro⟨i,O9,w9,lv,rv⟩ ⟨z1,p',j3,j6,g7,g6⟩;dsimp only at z1 p' j3 j6 g7 g6 ⊢;have h0:=n7.trans (p'.mono (fun _ h=>zo) zd);have s7:=l9.ext h0.ext;have hxl:xs.length<=40:=zo;refine zh ?_
 refine zC ?_ ?_
 ·intro i5;replace i5:i<xs.length:=dT i5;obtain⟨x,p5⟩:∃x,x=nth xs i:=⟨_,rfl⟩
  have p4:=hx i i5;rw[<-p5]at p4;have p1:=p4.1.one;have p2:=p4.2.1.one;have y8:(cO x).toArray.toList.all Jb=true:=by obtain⟨x1,x2,bk⟩:=x;exact jG p1 p2
  refine zh ?_;refine zv (ah (us:=cO x) (fun j u hu=>s7.cell i5 (by rw[<-p5];exact hu)) (Ld _) (Kl _) rfl) ?_
  refine au j3 6 zo (zeroValue122 _) rfl ?_;intro rb l0 O10 e5 u9 k8 p0;refine zh ?_
  refine zsb (us:=(cO x).toArray) e5 (Kl _) y8 ?_;have e4:=e5.setRow (us:=(cO x).toArray);have h7:IW (fun j=>j=6) O10 l0 O10 (l0.setRow rb (cO x).toArray):=I6 zd e5.tag rfl;generalize l0.setRow rb (cO x).toArray=d7 at *;have d3:=u9.trans h7;have l6:=j6.upd d3 zd zd;have m2:=g7.upd d3 zd zd;have m0:=g6.upd d3 zd zd;have k7:=k8.upd h7;obtain⟨y6,y5,rc3,_⟩:=jH e4;have hll:((xs.take i).map (·.1)).length=i:=by simp;omega
  have hrl:((xs.take i).map (·.2.1)).length=i:=by simp;omega
  refine zh ?_;refine aK (fun W=>(∀(q:Nat) (u:ix),(bt x.1)[q]? = some u->W.cell? (nA rb q)=some u)/\(∀(q:Nat) (u:ix),(bt x.2.1)[q]? = some u->W.cell? ((nA rb 3).add q)=some u)) 12 rfl zk ?_
  refine zin ⟨y6 _ (I4 d7).drew,y5 _ (I4 d7).drew⟩ fun zS=>?_
  refine zrm 0 rfl zS rfl ?_;refine zrf 1 rfl zS rfl ?_
  refine zt 2 rfl zS (fun w1 a6=>ah (us:=bt x.1) a6.1 (K9 _) (JY _) rfl) ?_;refine zrm 5 rfl zS rfl ?_
  refine zrf 6 rfl zS rfl ?_;refine zt 7 rfl zS (fun w1 a6=>ah (us:=bt x.2.1) a6.2 (K9 _) (JY _) rfl) ?_
  refine xz (fun y:ix×ix×(Nat->Nat)×World=>[(1,nP db),(2,nP cb),(4,nP tb),(7,nI (i:Nat)),(8,nP rb),(28,ru),(29,nI xs.length),(30,nI (i:Nat)),(39,y.1),(44,y.2.1)]) (fun y=>y.2.2.2) (fun y=>KT bt 120 3 y.2.2.1 y.2.2.2 4 y.1 ((xs.take i).map (·.1)++[x.1])/\KT bt 120 3 y.2.2.1 y.2.2.2 5 y.2.1 ((xs.take i).map (·.2.1)++[x.2.1])/\IW (fun q=>q=4\/q=5\/q=7\/q=8) O10 d7 y.2.2.1 y.2.2.2/\Kb w.heap.size y.2.2.1 y.2.2.2) #[true,true,true,true,true,true,true,true,true,true,false,false] 2 ?_ ?_
  ·intro hN;have hR:=k7.drew;have hU:IW (fun q=>q=4\/q=5\/q=7\/q=8) O10 d7 O10 d7.drew:=aa zd O10 (I4 d7).drew;have k0:∀O W,IW (fun q=>q=4\/q=5\/q=7\/q=8) O10 d7 O W->(∀(q:Nat) (u:ix),(bt x.1)[q]? = some u->W.cell? (nA rb q)=some u)/\(∀(q:Nat) (u:ix),(bt x.2.1)[q]? = some u->W.cell? ((nA rb 3).add q)=some u):=fun O W u=>by
    obtain⟨r1,r2,_,_⟩:=jH (e4.upd u zd zd);exact⟨r1 _ (I4 _),r2 _ (I4 _)⟩
   have rA:=m2.drew;have rB:=m0.drew;refine bZ 3 8 zk rfl rfl ?_ ?_ 
   ·refine bJ elN (enc:=bt) hR 7 zd x.1 rfl rfl rfl zd rfl ?_;intro y4 Wa Oa sA g9 u';have hU:=IH hU (Jc g9 (fun _ h=>.inr (.inr (.inl h))) zd);have hR:=u';have rA:=IF rA g9 zd zd;have rB:=IF rB g9 zd zd
    try have sB:=IF sB g9 zd zd
    refine zh ?_;refine af (k0 _ _ hU) ?_
    refine bZ 4 8 zk rfl rfl ?_ ?_ 
    ·refine aB elN rA hR sA.sl (by simp) rfl rfl (by simp) (fun u hu c hc=>by rw[ln.1 hu]at hc;simp only[bt,I2,IE,or_false]at hc;rcases hc with rfl|rfl|rfl;rfl;rfl;exact p1) (by simp only[I1];omega) (by simp only[I1];omega) zd rfl ?_;intro h' Wc Oc rA b0 g2;have hU:=IH hU (Jc b0 (fun _ h=>.inl h) zd);have hR:=g2;have rB:=IF rB b0 zd zd
     try have sB:=IF sB b0 zd zd
     refine zh ?_;refine af (k0 _ _ hU) ?_
     refine I9 8 zk rfl ?_;refine bJ elN (enc:=bt) hR 8 zd x.2.1 rfl rfl rfl zd rfl ?_
     intro w6 Wb Ob sB d1 o5;have hU:=IH hU (Jc d1 (fun _ h=>.inr (.inr (.inr h))) zd);have hR:=o5;have rA:=IF rA d1 zd zd;have rB:=IF rB d1 zd zd
     try have sA:=IF sA d1 zd zd
     refine zh ?_;refine af (k0 _ _ hU) ?_
     refine I9 9 zk rfl ?_;refine aB elN rB hR sB.sl (by simp) rfl rfl (by simp) (fun u hu c hc=>by rw[ln.1 hu]at hc;simp only[bt,I2,IE,or_false]at hc;rcases hc with rfl|rfl|rfl;rfl;rfl;exact p2) (by simp only[I1];omega) (by simp only[I1];omega) zd rfl ?_
     intro h9 Wd Od rB g3 o4;have hU:=IH hU (Jc g3 (fun _ h=>.inr (.inl h)) zd);have hR:=o4;have rA:=IF rA g3 zd zd;refine zh ?_;refine af (k0 _ _ hU) ?_;exact JA (hN (h',h9,_,_) ⟨rA,rB,hU,hR⟩) zk ⟨rfl,rfl,rfl,rfl,rfl,rfl,rfl,rfl,rfl,rfl,trivial⟩ rfl
    refine bJ elN (enc:=bt) hR 8 zd x.2.1 rfl rfl rfl zd rfl ?_;intro w6 Wb Ob sB d1 o5;have hU:=IH hU (Jc d1 (fun _ h=>.inr (.inr (.inr h))) zd);have hR:=o5;have rA:=IF rA d1 zd zd;have rB:=IF rB d1 zd zd
    try have sA:=IF sA d1 zd zd
    refine zh ?_;refine af (k0 _ _ hU) ?_
    refine I9 4 zk rfl ?_;refine aB elN rA hR sA.sl (by simp) rfl rfl (by simp) (fun u hu c hc=>by rw[ln.1 hu]at hc;simp only[bt,I2,IE,or_false]at hc;rcases hc with rfl|rfl|rfl;rfl;rfl;exact p1) (by simp only[I1];omega) (by simp only[I1];omega) zd rfl ?_
    intro h' Wc Oc rA b0 g2;have hU:=IH hU (Jc b0 (fun _ h=>.inl h) zd);have hR:=g2;have rB:=IF rB b0 zd zd
    try have sB:=IF sB b0 zd zd
    refine zh ?_;refine af (k0 _ _ hU) ?_
    refine I9 9 zk rfl ?_;refine aB elN rB hR sB.sl (by simp) rfl rfl (by simp) (fun u hu c hc=>by rw[ln.1 hu]at hc;simp only[bt,I2,IE,or_false]at hc;rcases hc with rfl|rfl|rfl;rfl;rfl;exact p2) (by simp only[I1];omega) (by simp only[I1];omega) zd rfl ?_
    intro h9 Wd Od rB g3 o4;have hU:=IH hU (Jc g3 (fun _ h=>.inr (.inl h)) zd);have hR:=o4;have rA:=IF rA g3 zd zd;refine zh ?_;refine af (k0 _ _ hU) ?_;exact JA (hN (h',h9,_,_) ⟨rA,rB,hU,hR⟩) zk ⟨rfl,rfl,rfl,rfl,rfl,rfl,rfl,rfl,rfl,rfl,trivial⟩ rfl
   refine bJ elN (enc:=bt) hR 8 zd x.2.1 rfl rfl rfl zd rfl ?_;intro w6 Wb Ob sB d1 o5;have hU:=IH hU (Jc d1 (fun _ h=>.inr (.inr (.inr h))) zd);have hR:=o5;have rA:=IF rA d1 zd zd;have rB:=IF rB d1 zd zd
   try have sA:=IF sA d1 zd zd
   refine zh ?_;refine af (k0 _ _ hU) ?_
   refine I9 3 zk rfl ?_;refine bJ elN (enc:=bt) hR 7 zd x.1 rfl rfl rfl zd rfl ?_
   intro y4 Wa Oa sA g9 u';have hU:=IH hU (Jc g9 (fun _ h=>.inr (.inr (.inl h))) zd);have hR:=u';have rA:=IF rA g9 zd zd;have rB:=IF rB g9 zd zd
   try have sB:=IF sB g9 zd zd
   refine zh ?_;refine af (k0 _ _ hU) ?_
   refine I9 4 zk rfl ?_;refine aB elN rA hR sA.sl (by simp) rfl rfl (by simp) (fun u hu c hc=>by rw[ln.1 hu]at hc;simp only[bt,I2,IE,or_false]at hc;rcases hc with rfl|rfl|rfl;rfl;rfl;exact p1) (by simp only[I1];omega) (by simp only[I1];omega) zd rfl ?_
   intro h' Wc Oc rA b0 g2;have hU:=IH hU (Jc b0 (fun _ h=>.inl h) zd);have hR:=g2;have rB:=IF rB b0 zd zd
   try have sB:=IF sB b0 zd zd
   refine zh ?_;refine af (k0 _ _ hU) ?_
   refine I9 9 zk rfl ?_;refine aB elN rB hR sB.sl (by simp) rfl rfl (by simp) (fun u hu c hc=>by rw[ln.1 hu]at hc;simp only[bt,I2,IE,or_false]at hc;rcases hc with rfl|rfl|rfl;rfl;rfl;exact p2) (by simp only[I1];omega) (by simp only[I1];omega) zd rfl ?_
   intro h9 Wd Od rB g3 o4;have hU:=IH hU (Jc g3 (fun _ h=>.inr (.inl h)) zd);have hR:=o4;have rA:=IF rA g3 zd zd;refine zh ?_;refine af (k0 _ _ hU) ?_;exact JA (hN (h',h9,_,_) ⟨rA,rB,hU,hR⟩) zk ⟨rfl,rfl,rfl,rfl,rfl,rfl,rfl,rfl,rfl,rfl,trivial⟩ rfl
  rintro⟨h',h9,O12,g4⟩ ⟨e6,a',b8,a5⟩;dsimp only at e6 a' b8 a5 ⊢;have m1:=e4.upd b8 zd zd;have a9:=l6.upd b8 zd zd;obtain⟨s1,s2,s3,_⟩:=jH m1;have b3:=(p'.trans (d3.mono (fun _ h=>zo) zd)).trans (b8.mono (fun _ h=>zo) zd);have s3':=s3 _ (I4 _);have x6:x.2.2=(nth ts i).2.2:=p4.2.2;have el:(xs.take (i+1)).map (·.1)=(xs.take i).map (·.1)++[x.1]:=by rw[aM i5,Jg,<-p5];rfl
  have er:(xs.take (i+1)).map (·.2.1)=(xs.take i).map (·.2.1)++[x.2.1]:=by rw[aM i5,Jg,<-p5];rfl
  refine zin (⟨s1 _ (I4 _),s2 _ (I4 _)⟩) fun zS=>?_
  refine zra 10 rfl zS rfl ?_;refine zra 11 rfl zS rfl ?_
  refine Jd zk ?_;refine zh ?_
  have z3:=uW ts i zo;refine zC ?_ ?_
  ·intro hb;have u5:gJ ts (i+1)=gJ ts i ||| 2^i:=by rw[show gJ ts (i+1)=if(nth ts i).2.2=true then gJ ts i ||| 2^i else gJ ts i from rfl,if_pos (by rw[<-x6];exact hb)]
   have hpw:2^i<2^40:=J2 zd zo;have t2:g4.cell? (nA tb 2)=some (.int .u64 ((gJ ts i:Nat):Int)):=a9.cell 2 rfl;refine LA 6 rfl rfl zk zk ?_;refine zh ?_;refine zw (vp (a:=1) (b:=i) rfl rfl rfl rfl (by show _<=64;omega) (by show _<=(18446744073709551615:Int);omega)) ?_;rw[JQ];refine zwH (tp (a:=gJ ts i) (b:=2^i) rfl rfl rfl rfl (by show _<=(18446744073709551615:Int);omega) (by show _<=(18446744073709551615:Int);omega)) ?_;refine WS.go ?_;rw[<-u5];refine aj (j:=2) a9.drew rfl (Lc _) rfl rfl rfl rfl ?_;have h6:IW (fun j=>j=3) O12 g4.drew O12 (g4.drew.setCell ⟨tb,2,none⟩ (.int .u64 ((gJ ts (i+1):Nat):Int))):=Ka zd a9.tag rfl;have l5:JV O12 (g4.drew.setCell ⟨tb,2,none⟩ (.int .u64 ((gJ ts (i+1):Nat):Int))) 3 tb (eJ (cu li) (cu lk) (gJ ts (i+1)) (xs.length:Nat) (nS) dy dy).toArray 31:=a9.drew.set 2 _;generalize g4.drew.setCell ⟨tb,2,none⟩ (.int .u64 ((gJ ts (i+1):Nat):Int))=s0 at *;refine zh ?_;refine zxd (i+1,O12,s0,h',h9) (⟨i5,b3.drew.trans (h6.mono (fun _ h=>zo) zd),a5.drew.upd h6,l5,by dsimp only;rw[el];exact e6.drew.upd h6 zd zd,by dsimp only;rw[er];exact a'.drew.upd h6 zd zd⟩)
  intro hb;have u5:gJ ts (i+1)=gJ ts i:=by rw[show gJ ts (i+1)=if(nth ts i).2.2=true then gJ ts i ||| 2^i else gJ ts i from rfl,if_neg (by rw[<-x6,hb];decide)]
  refine zh ?_;refine zxd (i+1,O12,g4,h',h9) (⟨i5,b3,a5,by dsimp only;rw[u5];exact a9,by dsimp only;rw[el];exact e6,by dsimp only;rw[er];exact a'⟩)
 intro p6;obtain rfl:i=xs.length:=dF p6;rw[Ju]at g7 g6;have hR9':=j3;refine zh ?_;refine zc call90 (oH true (jQ ts) (xs.map (·.1)) lv w9 g7.sl (by simp[hl]) (fun j hj=>by rw[IL]at hj;rw[dj hj,show jQ ts=ts.map (·.1)from rfl,dj zo];exact(hx j hj).1.ext h0.ext)) ?_;rintro va l0 ⟨p0,hPa⟩;obtain⟨e0,d9,ea,rfl,a1,a2,ha0,ha1⟩:=hPa.uni;have k5:IW (fun _=>False) O9 w9 O9 l0:=aa (fun h=>h) O9 p0;have k8:=j3.upd k5;refine zh ?_;refine au k8 7 zo (J6 _) rfl ?_;intro ab d7 O11 f4 h7 k7 hE11;refine zsb (us:=#[e0,d9]) f4 (IP _) (by simp only[II,a1,a2];rfl) ?_;have n3:=f4.setRow (us:=#[e0,d9]);have b8:IW (fun j=>j=7) O11 d7 O11 (d7.setRow ab #[e0,d9]):=I6 zd f4.tag rfl;generalize d7.setRow ab #[e0,d9]=g4 at *;have g0:=h7.trans b8;have b3:=(k5.mono (S':=fun q=>q=7) (fun _ h=>h.elim) zd).trans g0;have a5:=k7.upd b8;have a':=g6.upd b3 zd zd;have n5:=h0.trans (b3.mono (fun _ h=>zo) zd);refine zh ?_;refine zc call90 (oH false (dU ts) (xs.map (·.2.1)) rv g4 a'.sl (by simp[hl]) (fun j hj=>by rw[IL]at hj;rw[dj hj,show dU ts=ts.map (·.2.1)from rfl,dj zo];exact(hx j hj).2.1.ext n5.ext)) ?_;rintro vb s0 ⟨v6,hPb⟩;obtain⟨d',d8,eb,rfl,b1,b2,z8,z7⟩:=hPb.uni;have n4:IW (fun _=>False) O11 g4 O11 s0:=aa (fun h=>h) O11 v6;have v2:=a5.upd n4;refine zh ?_;refine au v2 8 zo (J6 _) rfl ?_
 intro bb r' O14 e' u7 v1 hE14;refine zsb (us:=#[d',d8]) e' (IP _) (by simp only[II,b1,b2];rfl) ?_;have i':=e'.setRow (us:=#[d',d8]);have n6:IW (fun j=>j=8) O14 r' O14 (r'.setRow bb #[d',d8]):=I6 zd e'.tag rfl;generalize r'.setRow bb #[d',d8]=w15 at *;have b7:=u7.trans n6;have f8:=(n4.mono (S':=fun q=>q=8) (fun _ h=>h.elim) zd).trans b7;have b9:=(g0.mono (S':=fun q=>q=7\/q=8) (fun _ h=>.inl h) zd).trans (f8.mono (fun _ h=>.inr h) zd);have f5:=(k5.mono (S':=fun q=>q=7\/q=8) (fun _ h=>h.elim) zd).trans b9;have o7:=v1.upd n6;have d2:=h0.trans (f5.mono (fun _ h=>zo) zd);have j1:=n3.upd f8 zd zd;have l4:=j6.upd f5 zd zd;have a4:=(u0.upd p' zd zd).upd f5 zd zd;refine zh ?_
 by_cases p8:ea=0
 ·refine aw (d:=66) rfl (b':=false) ((by rw[p8];rfl)) ?_;refine zh ?_
  by_cases p7:eb=0
  ·obtain⟨a,y3,z9,x8,z',j8,j5,l3⟩:=ha1 p8;obtain⟨b,y2,z4,x7,z5,j7,j4,l2⟩:=z7 p7;have r8:=eA x8 y3;have r7:=eA x7 y2;obtain⟨A,hA⟩:∃A,A=aP y3 a.1 a.2:=⟨_,rfl⟩
   obtain⟨B,hB⟩:∃B,B=aP y2 b.1 b.2:=⟨_,rfl⟩
   rw[<-hA]at r8 j8 j5;rw[<-hB]at r7 j7 j4;refine zFH rfl ((by rw[p7];rfl)) ?_;refine zv (ah (us:=[e0,d9]) j1.cellsAdd (Jr _) (IP _) rfl) ?_;refine zv (ah (us:=[d',d8]) i'.cellsAdd (Jr _) (IP _) rfl) ?_;refine ec underlying218 (IP _) (J6 _) yp [(e0,d9),(d',d8)] rfl rfl rfl rfl zk (by simp) rfl ?_;intro l1 p3 l8 o';have g':IW (fun _=>False) O14 w15 O14 p3:=aa (fun h=>h) O14 o';have f':=b9.trans (g'.mono (S':=fun q=>q=7\/q=8) (fun _ h=>h.elim) zd);have f7:=b7.trans (g'.mono (S':=fun q=>q=8) (fun _ h=>h.elim) zd);have v':=j8.upd j3 f';have v8:=j7.upd a5 f7;have o2:=l3.slU j5 j3 f';have o0:=l2.slU j4 a5 f7
   have n9:TabsD p3 l1 [(e0,d9),(d',d8)] [A.1,B.1] [A.2,B.2]:=⟨l8,rfl,rfl,fun i hi=>by
    match i,hi with
    |0,_=>exact⟨by rw[ao,ao];exact v'.rows,by rw[ao,ao];exact o2,by rw[ao,ao];exact r8⟩
    |1,_=>exact⟨by rw[aI,aI,ao,ao];exact v8.rows,by rw[aI,aI,ao,ao];exact o0,by rw[aI,aI,ao,ao];exact r7⟩⟩
   refine zc call91 (yk [(e0,d9),(d',d8)] [A.1,B.1] [A.2,B.2] l1 p3 n9 (by simp)) ?_;rintro gv k' ⟨c8,v5,i6⟩;obtain⟨many,hg,m4⟩:=pd [A.1,B.1];obtain⟨g,p6⟩:∃g,g=bA [A.1,B.1]:=⟨_,rfl⟩
   rw[<-p6]at hg m4 c8;have x5:∀T∈[A,B],∀p,p<T.1.length->∀i j,i<37->j<37->nth g i=nth g j->nth (nth T.1 p) i=nth (nth T.1 p) j:=fun T hT p hp i j hi hj e=>by
    refine xm (tabs:=[A.1,B.1]) (fun rows e2 r hr=>?_) ((m4 i j hi hj).1 e) T.1 ?_ _ (aJ hp)
    ·have o3:∃w0,IU rows w0:=by
      rcases I2.1 e2 with rfl|e2
      ·exact⟨_,r8⟩
      rw[ln.1 e2];exact⟨_,r7⟩
     obtain⟨w0,o3⟩:=o3;obtain⟨q,hq,rfl⟩:=cn hr;have h1:=(o3.row q hq).2 i hi;have h2:=(o3.row q hq).2 j hj;have:=o3.le;omega
    rcases I2.1 hT with rfl|hT
    ·simp
    rw[ln.1 hT];simp
   have u6:IW (fun _=>False) O14 p3 O14 k':=aa (fun h=>h) O14 v5;have b6:=g'.trans u6;have e1:=l4.upd b6 zd (fun h=>h);have v0:=o7.upd b6;have y1:=c8.one;have i8:=i6.free c8 (fun x _=>by simp) (o7.upd g');refine zh ?_;refine aj (j:=4) e1 rfl (sizeOf22 _) y1 rfl rfl rfl ?_;have h5:IW (fun j=>j=3) O14 k' O14 (k'.setCell ⟨tb,4,none⟩ gv):=Ka zd e1.tag rfl;have c7:JV O14 (k'.setCell ⟨tb,4,none⟩ gv) 3 tb (eJ (cu li) (cu lk) (gJ ts xs.length) (xs.length:Nat) gv dy dy).toArray 31:=e1.set 4 _;generalize k'.setCell ⟨tb,4,none⟩ gv=w18 at *;have e7:=c8.upd i8 h5;have i7:=i8.upd h5;have o6:=v0.upd h5;have a0:=(b6.mono (S':=fun q=>q=3) (fun _ h=>h.elim) zd).trans h5;have c':=j1.upd a0 zd zd;have c9:=i'.upd a0 zd zd;have m9:=a4.upd a0 zd zd;have j2:=d2.trans (a0.mono (fun _ h=>zo) zd);have f9:=(b9.mono (S':=fun q=>q=3\/q=7\/q=8) (fun _ h=>.inr h) zd).trans (a0.mono (fun _ h=>.inl h) zd);have f6:=(b7.mono (S':=fun q=>q=3\/q=8) (fun _ h=>.inr h) zd).trans (a0.mono (fun _ h=>.inl h) zd);have v9:=j8.upd j3 f9;have v7:=j7.upd a5 f6;have o1:=l3.slU j5 j3 f9;have n':=l2.slU j4 a5 f6;refine zh ?_;have d4:w18.drew.cell? (nA tb 4)=some gv:=c7.cell 4 rfl;refine aK (fun W=>W.cell? (nA tb 4)=some gv/\(∀j u,[e0,d9][j]? = some u->W.cell? (nA ab j)=some u)/\∀j u,[d',d8][j]? = some u->W.cell? (nA bb j)=some u) 12 rfl zk ?_;refine zin ⟨d4,c'.drew.cellsAdd,c9.drew.cellsAdd⟩ fun zS=>?_
   refine zrf 0 rfl zS rfl ?_;refine zt 1 rfl zS (fun w1 a6=>RV.ld a6.1 rfl) ?_
   refine zt 2 rfl zS (fun w1 a6=>ah (us:=[e0,d9]) a6.2.1 (Jr _) (IP _) rfl) ?_;refine zrf 4 rfl zS rfl ?_
   refine zt 5 rfl zS (fun w1 a6=>RV.ld a6.1 rfl) ?_;refine zt 6 rfl zS (fun w1 a6=>ah (us:=[d',d8]) a6.2.2 (Jr _) (IP _) rfl) ?_
   have g3:IW (fun _=>False) O14 w18 O14 w18.drew:=aa (fun h=>h) O14 (I4 w18).drew;refine I9 3 zk rfl ?_;refine zc call92 (vO g many gv e0 d9 A.1 A.2 w18.drew hg e7.drew (v9.ext (I4 w18).drew).rows o1.drew r8 (x5 A (by simp))) ?_;rintro _ r9 ⟨lc,rfl,y',t4,o9⟩;have d5:IW (fun _=>False) O14 w18 O14 r9:=g3.trans (aa (fun h=>h) O14 o9);have a3:Ji w18 r9:=(I4 w18).drew.trans o9;refine zh ?_;refine af (⟨a3.cell (c7.cell 4 rfl),(c'.upd d5 zd (fun h=>h)).cellsAdd,(c9.upd d5 zd (fun h=>h)).cellsAdd⟩) ?_;refine zrf 8 rfl (⟨a3.cell (c7.cell 4 rfl),(c'.upd d5 zd (fun h=>h)).cellsAdd,(c9.upd d5 zd (fun h=>h)).cellsAdd⟩) rfl ?_;refine I9 7 zk rfl ?_;refine zc call92 (vO g many gv d' d8 B.1 B.2 r9 hg (e7.ext a3) (v7.ext a3).rows (n'.ext a3) r7 (x5 B (by simp))) ?_;rintro _ k9 ⟨rc,rfl,y9,e3,o8⟩;have b5:IW (fun _=>False) O14 w18 O14 k9:=d5.trans (aa (fun h=>h) O14 o8);have a8:=c7.upd b5 zd (fun h=>h);have j0:=c'.upd b5 zd (fun h=>h);have i9:=c9.upd b5 zd (fun h=>h);have m8:=m9.upd b5 zd (fun h=>h);have m3:=y'.ext o8;refine zh ?_;refine af (⟨a8.cell 4 rfl,j0.cellsAdd,i9.cellsAdd⟩) ?_;obtain⟨u1,b4,k1,n1,t1,t6,s5,k4,t8,t3,w8⟩:=m3;obtain⟨u2,d6,k2,n2,t2,s',s4,k3,t7,t0,w7⟩:=y9;subst t6;subst s';have q1:=s5.one;have q2:=k4.one;have q3:=t8.one;have q4:=t3.one;have q5:=w8.one;have r1:=s4.one;have r2:=k3.one;have r3:=t7.one;have r4:=t0.one;have r5:=w7.one;obtain⟨pa,x3⟩:∃pa,pa=di g many A.1:=⟨_,rfl⟩
   obtain⟨pb,x0⟩:∃pb,pb=di g many B.1:=⟨_,rfl⟩
   rw[<-x3]at s5 k4 t8 t3 t4 ⊢;rw[<-x0]at s4 k3 t7 t0 e3 ⊢;obtain⟨c5,m'⟩:∃c5,c5=gJ ts xs.length:=⟨_,rfl⟩
   rw[<-m']at a8;refine I9 9 zk rfl ?_;refine dr (us:=#[nI pa.width,u1,b4,k1,n1,t1]) 5 (eJ (cu li) (cu lk) c5 (xs.length:Nat) gv [nI pa.width,u1,b4,k1,n1,t1] dy).toArray a8 rfl (by show 5+6<=17;omega) (Jj _) (by simp only[II,q1,q2,q3,q4,q5];rfl) rfl rfl rfl ?_;have a7:=a8.setRow (us:=(eJ (cu li) (cu lk) c5 (xs.length:Nat) gv [nI pa.width,u1,b4,k1,n1,t1] dy).toArray);have h4:IW (fun j=>j=3) O14 k9 O14 (k9.setRow tb (eJ (cu li) (cu lk) c5 (xs.length:Nat) gv [nI pa.width,u1,b4,k1,n1,t1] dy).toArray):=I6 zd a8.tag rfl;generalize k9.setRow tb (eJ (cu li) (cu lk) c5 (xs.length:Nat) gv [nI pa.width,u1,b4,k1,n1,t1] dy).toArray=w21 at *;have f3:=j0.upd h4 zd zd;have e9:=i9.upd h4 zd zd;have m7:=m8.upd h4 zd zd;refine zh ?_;refine af (⟨a7.cell 4 rfl,f3.cellsAdd,e9.cellsAdd⟩) ?_;refine zrf 10 rfl (⟨a7.cell 4 rfl,f3.cellsAdd,e9.cellsAdd⟩) rfl ?_;refine I9 11 zk rfl ?_;refine dr (us:=#[nI pb.width,u2,d6,k2,n2,t2]) 11 (eJ (cu li) (cu lk) c5 (xs.length:Nat) gv [nI pa.width,u1,b4,k1,n1,t1] [nI pb.width,u2,d6,k2,n2,t2]).toArray a7 rfl (by show 11+6<=17;omega) (Jj _) (by simp only[II,r1,r2,r3,r4,r5];rfl) rfl rfl rfl ?_;have i0:=a7.setRow (us:=(eJ (cu li) (cu lk) c5 (xs.length:Nat) gv [nI pa.width,u1,b4,k1,n1,t1] [nI pb.width,u2,d6,k2,n2,t2]).toArray)
   have h3:IW (fun j=>j=3) O14 w21 O14 (w21.setRow tb (eJ (cu li) (cu lk) c5 (xs.length:Nat) gv [nI pa.width,u1,b4,k1,n1,t1] [nI pb.width,u2,d6,k2,n2,t2]).toArray):=I6 zd a7.tag rfl;generalize w21.setRow tb (eJ (cu li) (cu lk) c5 (xs.length:Nat) gv [nI pa.width,u1,b4,k1,n1,t1] [nI pb.width,u2,d6,k2,n2,t2]).toArray=w22 at *;have e8:=m7.upd h3 zd zd;refine zh ?_;refine af (⟨i0.cell 4 rfl,(f3.upd h3 zd zd).cellsAdd,(e9.upd h3 zd zd).cellsAdd⟩) ?_;have go2:=y1;have n0:(eJ (cu li) (cu lk) c5 (xs.length:Nat) gv [nI pa.width,u1,b4,k1,n1,t1] [nI pb.width,u2,d6,k2,n2,t2]).toArray.toList.all Jb=true:=by
    simp only[eJ,KA,JS,II,go2,q1,q2,q3,q4,q5,r1,r2,r3,r4,r5];rfl
   refine Jd zk ?_;refine zh ?_
   refine zv (ah (us:=eJ (cu li) (cu lk) c5 (xs.length:Nat) gv [nI pa.width,u1,b4,k1,n1,t1] [nI pb.width,u2,d6,k2,n2,t2]) i0.cellsAdd (JK _) (J4 _) rfl) ?_;refine zsb (us:=(eJ (cu li) (cu lk) c5 (xs.length:Nat) gv [nI pa.width,u1,b4,k1,n1,t1] [nI pb.width,u2,d6,k2,n2,t2]).toArray) e8 (J4 _) n0 ?_
   have j':=Kg (us:=(eJ (cu li) (cu lk) c5 (xs.length:Nat) gv [nI pa.width,u1,b4,k1,n1,t1] [nI pb.width,u2,d6,k2,n2,t2]).toArray) e8;have k6:IW (fun j=>j=2) O14 w22 O14 (w22.setRow cb (eJ (cu li) (cu lk) c5 (xs.length:Nat) gv [nI pa.width,u1,b4,k1,n1,t1] [nI pb.width,u2,d6,k2,n2,t2]).toArray):=I6 zd e8.tag rfl;have hU20z:=((h4.mono (S':=fun q=>q=2\/q=3) (fun _ h=>.inr h) zd).trans (h3.mono (fun _ h=>.inr h) zd)).trans (k6.mono (fun _ h=>.inl h) zd);have hPL:PartV k9 [nI pa.width,u1,b4,k1,n1,t1] pa A.2:=⟨u1,b4,k1,n1,t1,rfl,s5,k4,t8,t3,w8⟩
   have hPR:PartV k9 [nI pb.width,u2,d6,k2,n2,t2] pb B.2:=⟨u2,d6,k2,n2,t2,rfl,s4,k3,t7,t0,w7⟩
   have v4:=hPL.upd t4 o6.drew hU20z;have v3:=hPR.upd e3 (o6.upd d5) hU20z;have z2:=(e7.upd i7 b5).upd (i7.upd b5) hU20z;have i4:=j2.size;have l7:=a3.size;refine zh ?_;refine bf rfl rfl rfl (j'.cellsAdd) (JK _) (J4 _) (⟨((j2.trans (b5.mono (fun _ h=>h.elim) zd)).trans (hU20z.mono (fun _ h=>zo) zd)).ext,B9 l' z9 z4 x8 x7 z' z5 hA hB p6 hg.cnt x3 x0 m' hl z2 v4 v3 (i6.mono (Kc d2.size o'.size)) (fun v hv=>(t4 v hv).mono i4) (fun v hv=>(e3 v hv).mono (Kc i4 l7))⟩)
  refine zTH rfl ((by simpa using p7)) ?_;refine zv (Jw (cells:=nW) DK (IY _) rfl rfl) ?_
  refine zsa (us:=nW) a4 (J4 _) ?_;have j':=Kg (us:=nW) a4;have k6:IW (fun j=>j=2) O14 w15 O14 (w15.setRow cb nW):=I6 zd a4.tag rfl;refine zh ?_
  refine bf rfl rfl rfl (j'.cellsAdd) (JK _) (J4 _) (⟨(d2.trans (k6.mono (fun _ h=>zo) zd)).ext,.inr ⟨l',.inr ⟨(.inr (z8 p7)),rfl⟩⟩⟩)
 refine aw (d:=66) rfl (b':=true) ((by simpa using p8)) ?_;refine zh ?_
 refine zTH rfl rfl ?_;refine zv (Jw (cells:=nW) DK (IY _) rfl rfl) ?_
 refine zsa (us:=nW) a4 (J4 _) ?_;have j':=Kg (us:=nW) a4;have k6:IW (fun j=>j=2) O14 w15 O14 (w15.setRow cb nW):=I6 zd a4.tag rfl;refine zh ?_
 refine bf rfl rfl rfl (j'.cellsAdd) (JK _) (J4 _) (⟨(d2.trans (k6.mono (fun _ h=>zo) zd)).ext,.inr ⟨l',.inr ⟨(.inl (ha0 p8)),rfl⟩⟩⟩)
end Go.Proofs.YteolbhblkgjbhaaGreatDoor
end
section
namespace Go.VL
section
variable{P:Kr}{N:Nat}{st:St}{w:I0}{t xt yt:Je}{x y:L1}{k:IntKind}{m n:Int}
theorem Fh(hx:ev st x=some (.int k m)):RV P N (.unOp .neg xt x) t st w (.int k (k.wrap (-m))):=
 fun a ha a0 p e g=>by simp only[execOp,ha.ev hx];simp[Op.unary,Op.intArith,pure]
theorem Fi(hx:ev st x=some (.int k m))(hy:ev st y=some (.int k n)):RV P N (.binOp .mul xt x y yt) t st w (.int k (k.wrap (m*n))):=
 fF hx hy Dx
end
theorem Gd(b j:Nat):nA b j=⟨b,j,none⟩:=by simp only[JX];split<;>simp_all
end Go.VL
namespace Go.Proofs.YteolbhblkgjbhaaGreatDoor
open Go.VL Go.Proofs
set_option maxRecDepth 10000
theorem FM(x:Nat)(w:I0)(hx:x<18446744073709551616)(h0:x≠0)(hT:KZ 1 KB w):JG IS 141 [.int .u64 (x:Nat)] w fun v w'=>v=nI ((Jy 64 x:Nat):Int)/\w'=w:=by
 obtain⟨a0,hk⟩:=KW 64 x h0 hx;obtain⟨hi,a1⟩:=Lib.deBruijn64_at _ hk;have hp:2^Jy 64 x<18446744073709551616:=JH (J2 zd hk) zd;generalize Jy 64 x=k at *;rw[show(2^64:Nat)=18446744073709551616 from by decide]at a0;generalize 2^k=pk at *;generalize a2:pk*285870213051353865 % 18446744073709551616 / 288230376151711744=idx at *;have a3:w.cell? (nA 1 idx)=some (.int .u8 (k:Int)):=by
  have:=hT idx hi;rw[a1]at this;rw[Gd];exact this
 refine I3 func141 ntmps141 rfl rfl ?_;refine zh ?_
 refine zFH rfl ((by rw[beq_eq_false_iff_ne];omega)) ?_;refine zv (Fh rfl) ?_
 refine zv (vt (a:=x) (b:=18446744073709551616-x) rfl rfl rfl (by rw[Kk];omega) (by show _<=(18446744073709551615:Int);omega) (by show _<=(18446744073709551615:Int);omega)) ?_;rw[a0];refine zv (Fi rfl rfl) ?_
 rw[show KP.wrap (((pk:Nat):Int)*285870213051353865)=((pk*285870213051353865 % 18446744073709551616:Nat):Int)from by rw[Kk];omega];refine zv (gT (a:=pk*285870213051353865 % 18446744073709551616) (b:=58) rfl rfl rfl rfl zd) ?_;rw[show pk*285870213051353865 % 18446744073709551616 / 2^58=idx from a2];refine zvH (eY underlying299 (sizeOf5 _) rfl rfl idx rfl hi) ?_;refine zvH (BC underlying5 underlying3 rfl (Fit.i64 zo)) ?_;refine ae rfl rfl (⟨rfl,rfl⟩)
theorem qB(s c:Nat)(w:I0)(hs:s<18446744073709551616)(hc:c<64):JG IS 63 [.int .u64 (s:Nat),nI (c:Nat)] w fun v w'=>v=.bool (s.testBit c)/\w'=w:=by
 have hd:s / 2^c<=s:=Nat.div_le_self _ _;have e:(((s / 2^c &&& 1:Nat):Int)==1)=s.testBit c:=by
  rw[Nat.and_one_is_mod,Nat.testBit_eq_decide_div_mod_eq]
  rcases Nat.mod_two_eq_zero_or_one (s / 2^c)with h|h<;>rw[h]<;>rfl
 refine I3 func63 ntmps63 rfl rfl ?_;refine zh ?_
 refine zv (gT (a:=s) (b:=c) rfl rfl rfl rfl (by show _<=64;omega)) ?_;refine zvH (vt (a:=s / 2^c) (b:=1) rfl rfl rfl rfl (by show _<=(18446744073709551615:Int);omega) zd) ?_
 refine ae rfl rfl (⟨by rw[<-e],rfl⟩)
theorem jy(cs:List ix)(p:KU)(tl:List Nat)(r c:Nat)(w:I0)(h:PartV w cs p tl)(ok:OkP p)(hr:r<p.usual.length)(a9:c<64):
  JG IS 62 [.agg cs.toArray,nI (r:Nat),nI (c:Nat)] w fun v w'=>v=nI (getM p r c)/\Ji w w':=by
 obtain⟨uv,bv,kv,nv,tv,rfl,a3,a7,a5,a4,a8⟩:=h;obtain⟨o1,o2,o3,o4,o5,o6,o7⟩:=ok;have a6:=o7 r zo;obtain⟨b,a2⟩:=Int.eq_ofNat_of_zero_le a6.1;have hg:getM p r c=if b+c<p.check.length/\nth p.check (b+c)=r then nth p.next (b+c)else nth p.usual r:=by simp only[getM,a2];rfl
 refine I3 func62 ntmps62 rfl rfl ?_;refine zh ?_
 refine aH (ay w) 1 zo rfl rfl ?_;intro db w1 O1 a1 a' b0 a0;have hu:=a3.ext a0;have hb:=a7.ext a0;have hk:=a5.ext a0;have hn:=a4.ext a0;have c1:w1.cell? ((nA db 0).add 1)=some uv:=a1.cell 1 rfl;have c2:w1.cell? ((nA db 0).add 2)=some bv:=a1.cell 2 rfl;have c3:w1.cell? ((nA db 0).add 3)=some kv:=a1.cell 3 rfl;have c4:w1.cell? ((nA db 0).add 4)=some nv:=a1.cell 4 rfl;have k1:w1.cell? (adr bv 1 r)=some (nI (b:Int)):=by have:=hb.cell (i:=r) (j:=0) zo rfl;rw[ax,a2]at this;exact this
 refine zh ?_
 by_cases h1:b+c<p.check.length
 ·refine aw (d:=22) rfl (b':=true) (decide_eq_true zo) ?_;have k2:w1.cell? (adr kv 1 (b+c))=some (nI (nth p.check (b+c))):=by have:=hk.cell (i:=b+c) (j:=0) h1 rfl;rwa[ax]at this
  have k3:w1.cell? (adr nv 1 (b+c))=some (nI (nth p.next (b+c))):=by have:=hn.cell (i:=b+c) (j:=0) zo rfl;rwa[ax]at this
  refine zh ?_;refine zC ?_ ?_
  ·intro he;replace he:nth p.check (b+c)=r:=by simpa using he
   rw[if_pos ⟨h1,he⟩]at hg;refine zh ?_;refine ae rfl rfl (⟨by rw[hg],a0⟩)
  intro he;replace he:¬nth p.check (b+c)=r:=by simpa using he
  rw[if_neg (fun h=>he h.2)]at hg;have k4:w1.cell? (adr uv 1 r)=some (nI (nth p.usual r)):=by have:=hu.cell (i:=r) (j:=0) hr rfl;rwa[ax]at this
  refine zh ?_;refine ae rfl rfl (⟨by rw[hg],a0⟩)
 rw[if_neg (fun h=>h1 h.1)]at hg;have k4:w1.cell? (adr uv 1 r)=some (nI (nth p.usual r)):=by have:=hu.cell (i:=r) (j:=0) hr rfl;rwa[ax]at this
 refine aw (d:=22) rfl (b':=false) (decide_eq_false zo) ?_;refine zh ?_
 refine zFH rfl rfl ?_;refine ae rfl rfl (⟨by rw[hg],a0⟩)
end Go.Proofs.YteolbhblkgjbhaaGreatDoor
end
namespace Go.Proofs.YteolbhblkgjbhaaGreatDoor
def DW(l:List Int):Int:=l.foldl max (nth l 0)
theorem Cl(l:List Int)(sv:ix)(w:I0)(h:JF w sv l)(a1:0<l.length):JG IS 61 [sv] w fun v w'=>v=nI (DW l)/\w'=w:=by
 have hl:=h.len_le;have m0:w.cell? (adr sv 1 0)=some (nI (nth l 0)):=by have:=h.cell (j:=0) a1 rfl;rwa[ax]at this
 have e1:nth l 0=(l.take 1).foldl max (nth l 0):=by
  rw[aM a1];simp
 have a2:DW l=(l.take l.length).foldl max (nth l 0):=by rw[Ju];rfl
 rw[a2];obtain⟨z0,a3⟩:∃z,z=nth l 0:=⟨_,rfl⟩
 rw[<-a3]at m0 e1 ⊢;refine I3 func61 ntmps61 rfl rfl ?_;refine zh ?_;refine zFH rfl ((decide_eq_false zo)) ?_;refine zlp (fun z:Nat×Int=>[(0,sv),(3,nI z.2),(4,nI z.1)]) (fun z=>w) (fun z=>1<=z.1/\z.1<=l.length/\z.2=(l.take z.1).foldl max z0) (fun z=>l.length-z.1) (1,z0) (⟨IV _,a1,e1⟩) ?_;rintro⟨q,m⟩ ⟨a4,hq,hm⟩;dsimp only at a4 hq hm ⊢;refine zh ?_;refine zC ?_ ?_
 ·intro a0;replace a0:q<l.length:=dT a0;have m1:w.cell? (adr sv 1 q)=some (nI (nth l q)):=by have:=h.cell (j:=0) a0 rfl;rwa[ax]at this
  refine zh ?_;refine zvH (jq rfl rfl) ?_
  refine zxd (q+1,max m (nth l q)) (⟨by dsimp only;omega,a0,by dsimp only;rw[aM a0,Jo,<-hm];rfl⟩)
 intro a5;obtain rfl:q=l.length:=dF a5;refine zh ?_;refine ae rfl rfl (⟨by rw[hm],rfl⟩)
theorem oj{F:Kw}(hF:∀(args:Array ix) (w:I0),(callFunc F args).run IS w=.ok (.enter F args) w)(cs:Array ix)(l:List (Nat))(sv:ix)(q:Nat->Bool)(w:I0)(h:Sl iw 1 w sv l) 
  (hq:∀i,i<l.length->∀w',Ji w w'->JG IS F ([(fun n:Nat=>L8 .u64 (n:Int)) (nth l i)]++cs.toList) w' fun v w''=>v=.bool (q i)/\Ji w' w'') :
  JG IS 95 [sv,.func (.func F) #[] cs] w fun v w'=>v=nI (dA q l.length)/\Ji w w':=by
 have hl:=h.len_le;refine I3 func95 ntmps95 rfl rfl ?_;refine zh ?_;refine zlp (fun x:Nat×I0=>[(0,sv),(1,.func (.func F) #[] cs),(7,nI l.length),(8,nI x.1)]) (fun x=>x.2) (fun x=>x.1<=l.length/\Ji w x.2/\∀i,i<x.1->q i=false) (fun x=>l.length-x.1) (0,w) (⟨IG _,I4 _,fun i hi=>absurd hi (IX i)⟩) ?_;rintro⟨k,w1⟩ ⟨hk,hE,a1⟩;dsimp only at hk hE a1 ⊢;have h1:=h.ext hE;refine zh ?_;refine zC ?_ ?_
 ·intro a0;replace a0:k<l.length:=dT a0;refine zh ?_;refine zv (RV.ld (by have:=h1.cell (i:=k) (j:=0) a0 rfl;rwa[ax]at this) rfl) ?_;refine dt rfl hF rfl (hq k a0 w1 hE) rfl ?_;rintro v w2 ⟨rfl,a3⟩;refine zh ?_;refine zC ?_ ?_
  ·intro hy;refine zh ?_;refine ae rfl rfl (⟨by rw[ck a0 hy a1],hE.trans a3⟩)
  intro hy;refine zh ?_;refine zxd (k+1,w2) (⟨a0,hE.trans a3,fun i hi=>(Js.1 hi).elim (a1 i) (fun e=>by rw[e];exact hy)⟩)
 intro a2;replace a2:l.length<=k:=dF a2;refine zh ?_;refine ae rfl rfl (⟨by rw[cg fun i hi=>a1 i zo],hE⟩)
theorem lf{F:Kw}(hF:∀(args:Array ix) (w:I0),(callFunc F args).run IS w=.ok (.enter F args) w)(cs:Array ix)(l:List (Nat))(sv:ix)(q:Nat->Bool)(w:I0)(h:Sl iw 1 w sv l) 
  (hq:∀i,i<l.length->∀w',Ji w w'->JG IS F ([(fun n:Nat=>L8 .u64 (n:Int)) (nth l i)]++cs.toList) w' fun v w''=>v=.bool (q i)/\Ji w' w'') :
  JG IS 57 [sv,.func (.func F) #[] cs] w fun v w'=>v=.bool (iG q l.length)/\Ji w w':=by
 refine I3 func57 ntmps57 rfl rfl ?_;refine zh ?_
 refine zc call95 (oj hF cs l sv q w h hq) ?_;rintro v w1 ⟨rfl,hE⟩;refine zh ?_
 refine ae rfl rfl (⟨by rw[firstN_any],hE⟩)
theorem A3(b rules:Nat)(a:Ke)(w:I0)(hr:rules<=64)(hc:w.cell? a=some (nI (rules:Nat))):JG IS 58 [.int .u64 (b:Nat),.pointer (some a)] w fun v w'=>v=.bool (!(b / 2^rules==0))/\w'=w:=by
 have e:((((b / 2^rules:Nat):Int)) != 0) = !(b / 2^rules==0):=by
  generalize b / 2^rules=q
  by_cases h:q=0
  ·subst h;rfl
  rw[beq_eq_false_iff_ne.2 h];simpa using h
 refine I3 func58 ntmps58 rfl rfl ?_;refine zh ?_
 refine zvH (gT (a:=b) (b:=rules) rfl rfl rfl rfl (by show _<=64;omega)) ?_;refine ae rfl rfl (⟨by rw[<-e],rfl⟩)
theorem A2(row:List Int)(rv lv:ix)(n:Nat)(a:Ke)(w:I0)(h:JF w rv row)(a1:0<row.length)(a0:Shape lv n)(hc:w.cell? a=some lv):JG IS 60 [rv,.pointer (some a)] w fun v w'=>v=.bool (decide ((n:Int)<=DW row))/\Ji w w':=by
 refine I3 func60 ntmps60 rfl rfl ?_;refine zh ?_
 refine WC.still zk zk ?_;refine zh ?_
 refine WS.call call61 rfl (Cl row rv _ h.drew a1) rfl ?_;refine zh ?_
 refine zwH (bj a0 underlying130 rfl) ?_;refine WS.nil ?_
 refine zh ?_;refine ae rfl rfl (⟨rfl,(I4 w).drew⟩)
def jY(p:KU)(tl:List Nat)(many rules:Nat):Bool:=
 cP p&&(p.width==(many:Int)) && !((fJ p).length==0)&&(tl.length==(fJ p).length) && !(iG (fun i=>!(nth tl i / 2^rules==0)) tl.length) && !(iG (fun i=>decide (((fJ p).length:Int)<=DW (nth (fJ p) i))) (fJ p).length)
theorem ph(p:KU):(fJ p).length=p.usual.length/\∀i,i<p.usual.length->(nth (fJ p) i).length=p.width.toNat:=by
 refine⟨by simp[fJ],fun i hi=>?_⟩;unfold fJ;rw[fN _ _ _ hi];simp[BK]
theorem sQ(cs:List ix)(p:KU)(tl:List Nat)(many rules:Nat)(w:I0)(h:PartV w cs p tl)(hr:rules<=64):
  JG IS 30 [.agg cs.toArray,nI (many:Nat),nI (rules:Nat)] w fun v w'=>v=.bool (jY p tl many rules)/\Ji w w':=by
 obtain⟨uv,bv,kv,nv,tv,rfl,d2,d8,d7,d6,c9⟩:=h;obtain⟨a4,d3⟩:=ph p;have c8:=c9.len_le;refine I3 func30 ntmps30 rfl rfl ?_;refine zh ?_;refine aH (ay w) 1 zo rfl rfl ?_;intro db w1 O1 c6 e0 e4 f5;refine aH e4 2 zo rfl rfl ?_;intro yb w2 O2 b6 d1 e3 f4;have a8:=c6.upd d1 zd zd;have a9:=(e0.mono (S':=fun q=>1<=q) (fun _ h=>zo) zd).trans (d1.mono (fun _ h=>zo) zd);have a3:=a9.ext
 have e7:∀(j:Nat) (u:ix),[nI p.width,uv,bv,kv,nv][j]? = some u->w2.cell? ((nA db 0).add j)=some u:=fun j u hu=>a8.cellsAdd j u (by
  match j,hu with
  |0,hu=>exact hu
  |1,hu=>exact hu
  |2,hu=>exact hu
  |3,hu=>exact hu
  |4,hu=>exact hu)
 refine zh ?_;refine zv (ah (us:=[nI p.width,uv,bv,kv,nv]) e7 (isAgg26 _) (Lb _) rfl) ?_
 refine zc call56 (rY p _ w2 ⟨uv,bv,kv,nv,rfl,d2.ext a3,d8.ext a3,d7.ext a3,d6.ext a3⟩) ?_;rintro _ w3 ⟨rv,rfl,a6,e6⟩;have b3:IW (fun _=>False) O2 w2 O2 w3:=aa (fun h=>h) O2 e6;have e':=e3.upd b3;have b5:=b6.upd b3 zd (fun h=>h);have c5:=a8.upd b3 zd (fun h=>h);have c7:=a9.trans (b3.mono (fun _ h=>h.elim) zd);have ro:rv.oneCell'=true:=by
  split at a6
  ·obtain⟨b0,h1,_⟩:=a6;exact h1.one
  rw[a6];rfl
 refine zh ?_;refine au (ay w3) 3 zo (zeroValue130 _) rfl ?_
 intro lb w4 O4 a5 d' e9 f3;refine aj (j:=0) a5 rfl (sizeOf130 _) ro rfl rfl rfl ?_;have d9:IW (fun j=>j=3) O4 w4 O4 (w4.setCell ⟨lb,0,none⟩ rv):=Ka zd a5.tag rfl;have b9:JV O4 (w4.setCell ⟨lb,0,none⟩ rv) 3 lb #[rv] 130:=a5.set 0 _;have a2:Ji w3 (w4.setCell ⟨lb,0,none⟩ rv):=(d'.trans d9).ext;generalize w4.setCell ⟨lb,0,none⟩ rv=w5 at *;have a0:Ji w w5:=c7.ext.trans a2;have a7:=c5.ext a2;have b4:=b5.ext a2;have d0:w5.cell? (((nA db 0)).add 0)=some (nI p.width):=a7.cell 0 rfl;have d5:w5.cell? (nA db 5)=some tv:=a7.cell 5 rfl;have l0:w5.cell? ⟨lb,0,none⟩=some rv:=b9.cell 0 rfl;have y0:w5.cell? ⟨yb,0,none⟩=some (nI (rules:Nat)):=b4.cell 0 rfl;have b7:=c9.ext a0;refine zh ?_
 cases b2:cP p with
 |false=>
  refine aw (d:=17) rfl (b':=true) (rfl) ?_;refine zh ?_
  refine zTH rfl rfl ?_;refine ae rfl rfl (⟨by unfold jY;rw[b2];rfl,a0⟩)
 |true=>
  rw[b2,if_pos rfl]at a6;obtain⟨b0,c',a1,d4⟩:=a6.ext a2;have ok:=okP p b2;have e8:=ok.w1;refine aw (d:=17) rfl (b':=false) (rfl) ?_;refine zh ?_
  by_cases h1:p.width=(many:Int)
  ·refine aw (d:=24) rfl (b':=false) ((by rw[h1];simp)) ?_;refine zh ?_
   by_cases h2:p.usual.length=0
   ·refine aw (d:=29) rfl (b':=true) ((by rw[a1,a4,h2];rfl)) ?_;refine zh ?_
    refine zTH rfl rfl ?_;refine ae rfl rfl (⟨by unfold jY;rw[a4,h2];simp,a0⟩)
   refine aw (d:=29) rfl (b':=false) ((by rw[a1,a4,beq_eq_false_iff_ne];omega)) ?_;refine zh ?_
   by_cases h3:tl.length=p.usual.length
   ·refine zFH rfl ((by rw[a1,a4,h3];simp)) ?_;refine zv (du rfl rfl) ?_
    refine zc call57 (lf call58 #[nP yb] tl tv (fun i=>!(nth tl i / 2^rules==0)) w5 b7 (fun i hi w' b1=>(A3 (nth tl i) rules _ w' hr (b1.cell y0)).mono fun v w'' ⟨e1,e2⟩=>⟨e1,e2▸I4 _⟩)) ?_;rintro _ w6 ⟨rfl,a'⟩;refine zh ?_
    cases h4:iG (fun i=>!(nth tl i / 2^rules==0)) tl.length with
    |true=>
     refine zTH rfl rfl ?_;refine ae rfl rfl (⟨by unfold jY;rw[h4];simp,a0.trans a'⟩)
    |false=>
     have b8:=c'.ext a';have l6:w6.cell? ⟨lb,0,none⟩=some rv:=a'.cell l0;refine zFH rfl rfl ?_;refine zv (du rfl rfl) ?_;refine zc call59 (ft call60 #[nP lb] b0 rv (fun i=>decide (((fJ p).length:Int)<=DW (nth (fJ p) i))) w6 b8 (fun i hi w' b1=>by have:=A2 (nth (fJ p) i) (nth b0 i) rv b0.length ⟨lb,0,none⟩ w' (((d4 i zo).ext a').ext b1) (by rw[d3 i zo];omega) c'.sh (b1.cell l6);rw[a1]at this;exact this)) ?_;rintro _ w7 ⟨rfl,e5⟩;refine zh ?_;refine ae rfl rfl (⟨by unfold jY;rw[b2,h1,h4,a4,h3,a1,a4,beq_eq_false_iff_ne.2 h2];simp,(a0.trans a').trans e5⟩)
   refine zTH rfl ((by rw[a1,a4];simp;omega)) ?_;refine ae rfl rfl (⟨by unfold jY;rw[a4,beq_eq_false_iff_ne.2 h3];simp,a0⟩)
  refine aw (d:=24) rfl (b':=true) ((by simpa using h1)) ?_;refine zh ?_
  refine zTH rfl rfl ?_;refine ae rfl rfl (⟨by unfold jY;rw[beq_eq_false_iff_ne.2 h1];simp,a0⟩)
end Go.Proofs.YteolbhblkgjbhaaGreatDoor
section
namespace Go.VL
theorem add_add(b i j:Nat):(nA b i).add j=⟨b,i+j,none⟩:=by simp only[JX];split<;>split<;>simp_all
end Go.VL
namespace Go.Proofs.YteolbhblkgjbhaaGreatDoor
open Go.VL Go.Proofs
set_option maxRecDepth 10000
structure TabB(w:I0)(b:Nat)(t:TabM)(gv:ix)(lc rc:List ix):Prop where
 cells:∀j u,(eJ t.ig t.kp t.br t.rules gv lc rc)[j]? = some u->w.cell? ⟨b,j,none⟩=some u
 groups:JF w gv t.groups
 left:PartV w lc t.left t.lt
 right:PartV w rc t.right t.rt
section
variable{w:I0}{b:Nat}{t:TabM}{gv:ix}{lc rc:List ix}
theorem TabB.ext{w':I0}(h:TabB w b t gv lc rc)(e:Ji w w'):TabB w' b t gv lc rc:=⟨fun j u hu=>e.cell (h.cells j u hu),h.groups.ext e,h.left.ext e,h.right.ext e⟩
theorem TabB.c0(h:TabB w b t gv lc rc):w.cell? (nA b 0)=some (.int .u64 (t.ig:Int)):=h.cells 0 _ rfl
theorem TabB.c1(h:TabB w b t gv lc rc):w.cell? (nA b 1)=some (.int .u64 (t.kp:Int)):=h.cells 1 _ rfl
theorem TabB.c2(h:TabB w b t gv lc rc):w.cell? (nA b 2)=some (.int .u64 (t.br:Int)):=h.cells 2 _ rfl
theorem TabB.c3(h:TabB w b t gv lc rc):w.cell? (nA b 3)=some (nI t.rules):=h.cells 3 _ rfl
theorem TabB.c4(h:TabB w b t gv lc rc):w.cell? (nA b 4)=some gv:=h.cells 4 _ rfl
theorem TabB.cl(h:TabB w b t gv lc rc):∀(j:Nat) (u:ix),lc[j]? = some u->w.cell? ((nA b 5).add j)=some u:=fun j u hu=>by
 rw[add_add];refine h.cells (5+j) u ?_;have hj:=(Jl.1 hu).1;rw[show eJ t.ig t.kp t.br t.rules gv lc rc=[.int .u64 (t.ig:Int),.int .u64 (t.kp:Int),.int .u64 (t.br:Int),nI t.rules,gv]++(lc++rc)from IQ _ _ _];rw[IK (by simp),show 5+j-_=j from by simp,Jm hj];exact hu
theorem TabB.cr(h:TabB w b t gv lc rc):∀(j:Nat) (u:ix),rc[j]? = some u->w.cell? ((nA b 11).add j)=some u:=fun j u hu=>by
 rw[add_add];refine h.cells (11+j) u ?_;have hl:=h.left.one.1;rw[IK (by simp[hl]),show 11+j-_=j from by simp[hl]];exact hu
end
theorem vj{w:I0}{b i:Nat}{O:Nat->Nat}{E:Je}{t:TabM}{gv:ix}{lc rc:List ix}(hb:JV O w i b (eJ t.ig t.kp t.br t.rules gv lc rc).toArray E)(h1:JF w gv t.groups)(h2:PartV w lc t.left t.lt)(h3:PartV w rc t.right t.rt):TabB w b t gv lc rc:=
 ⟨fun j u hu=>hb.cell j (by simpa using hu),h1,h2,h3⟩
def ia(t:TabM):Bool:=
 !(decide (t.rules<0)||decide (40<t.rules)||(gA t.groups==0)) && !(!(t.ig / 2^36==0) || !(t.kp / 2^36==0) || !(t.br / 2^t.rules.toNat==0))&&jY t.left t.lt (gA t.groups) t.rules.toNat&&jY t.right t.rt (gA t.groups) t.rules.toNat
theorem ne0(q:Nat):(((q:Nat):Int) != 0) = !(q==0):=by
 by_cases h:q=0
 ·subst h;rfl
 rw[beq_eq_false_iff_ne.2 h];simpa using h
theorem rq(t:TabM)(v:ix)(w:I0)(h:TabV w v t):JG IS 10 [v] w fun u w'=>u=.bool (ia t)/\Ji w w':=by
 obtain⟨gv,lc,rc,rfl,b0,a8,a7⟩:=h;obtain⟨ll,lo⟩:=a8.one;obtain⟨rl,ro⟩:=a7.one;refine I3 func10 ntmps10 rfl rfl ?_;refine zh ?_;refine aH (ay w) 1 zo rfl rfl ?_;intro db w1 O1 a3 b3 b4 a1;have hT:=vj (t:=t) a3 (b0.ext a1) (a8.ext a1) (a7.ext a1);have c0:=hT.c0;have c1:=hT.c1;have c2:=hT.c2;have c3:=hT.c3;have c4:=hT.c4;have cl:=hT.cl;have cr:=hT.cr;refine zh ?_;refine zc Ly (gY t.groups gv w1 hT.groups) ?_;rintro _ w2 ⟨rfl,a6⟩;rw[a6];clear a6 w2;obtain⟨many,a2⟩:∃many,many=gA t.groups:=⟨_,rfl⟩
 have a9:ia t=(!(decide (t.rules<0)||decide (40<t.rules)||(many==0)) && !(!(t.ig / 2^36==0) || !(t.kp / 2^36==0) || !(t.br / 2^t.rules.toNat==0))&&jY t.left t.lt many t.rules.toNat&&jY t.right t.rt many t.rules.toNat):=by rw[a2];rfl
 rw[a9,<-a2];refine zh ?_
 by_cases h1:t.rules<0
 ·refine aw (d:=11) rfl (b':=true) ((decide_eq_true h1)) ?_;refine zh ?_
  refine zTH rfl rfl ?_;refine ae rfl rfl (⟨by rw[decide_eq_true h1];simp,a1⟩)
 refine aw (d:=11) rfl (b':=false) ((decide_eq_false h1)) ?_;refine zh ?_
 by_cases h2:40<t.rules
 ·refine aw (d:=16) rfl (b':=true) ((decide_eq_true h2)) ?_;refine zh ?_
  refine zTH rfl rfl ?_;refine ae rfl rfl (⟨by rw[decide_eq_true h2];simp,a1⟩)
 obtain⟨rules,a0⟩:∃rules:Nat,t.rules=(rules:Int):=⟨t.rules.toNat,zo⟩
 have a':t.rules.toNat=rules:=zo;refine aw (d:=16) rfl (b':=false) ((decide_eq_false h2)) ?_;refine zh ?_
 by_cases h3:many=0
 ·refine zTH rfl ((by rw[h3];rfl)) ?_;refine ae rfl rfl (⟨by rw[h3];simp,a1⟩)
 refine zFH rfl ((by rw[beq_eq_false_iff_ne];omega)) ?_;refine zvH (gT (a:=t.ig) (b:=36) rfl rfl rfl rfl zd) ?_
 by_cases h4:t.ig / 2^36=0
 ·refine aw (d:=25) rfl (b':=false) ((by rw[ne0,h4];rfl)) ?_;refine zh ?_
  refine zvH (gT (a:=t.kp) (b:=36) rfl rfl rfl rfl zd) ?_
  by_cases h5:t.kp / 2^36=0
  ·refine aw (d:=31) rfl (b':=false) ((by rw[ne0,h5];rfl)) ?_;refine zh ?_
   refine zvH (gT (a:=t.br) (b:=rules) rfl rfl rfl a0 (by show _<=64;omega)) ?_
   by_cases h6:t.br / 2^rules=0
   ·have b2:nI t.rules=nI (rules:Int):=by rw[a0]
    refine zFH rfl ((by rw[ne0,h6];rfl)) ?_;refine zvH (ah (us:=lc) cl (JU _) (by rw[ll];exact Jj _) rfl) ?_
    rw[a0];refine zc call30 (sQ lc t.left t.lt many rules w1 hT.left zo) ?_;rintro _ w2 ⟨rfl,a5⟩;have a4:=hT.ext a5;have d3:=a4.c3;have d4:=a4.cr;rw[a0]at d3;refine zh ?_
    cases h7:jY t.left t.lt many rules with
    |false=>
     refine aw (d:=45) rfl (b':=false) (rfl) ?_;refine zh ?_
     refine ae rfl rfl (⟨by rw[Jp,h7];simp,a1.trans a5⟩)
    |true=>
     refine aw (d:=45) rfl (b':=true) (rfl) ?_;refine zh ?_
     refine zvH (ah (us:=rc) d4 (JU _) (by rw[rl];exact Jj _) rfl) ?_;refine zc call30 (sQ rc t.right t.rt many rules w2 a4.right zo) ?_
     rintro _ w3 ⟨rfl,b1⟩;refine zh ?_;refine ae rfl rfl (⟨?_,(a1.trans a5).trans b1⟩);rw[Jp,h7,h4,h5,h6,decide_eq_false zo,decide_eq_false zo,beq_eq_false_iff_ne.2 h3];simp
   refine zTH rfl ((by rw[ne0,beq_eq_false_iff_ne.2 h6];rfl)) ?_;refine ae rfl rfl (⟨by rw[a',beq_eq_false_iff_ne.2 h6];simp,a1⟩)
  refine aw (d:=31) rfl (b':=true) ((by rw[ne0,beq_eq_false_iff_ne.2 h5];rfl)) ?_;refine zh ?_
  refine zTH rfl rfl ?_;refine ae rfl rfl (⟨by rw[beq_eq_false_iff_ne.2 h5];simp,a1⟩)
 refine aw (d:=25) rfl (b':=true) ((by rw[ne0,beq_eq_false_iff_ne.2 h4];rfl)) ?_;refine zh ?_
 refine zTH rfl rfl ?_;refine ae rfl rfl (⟨by rw[beq_eq_false_iff_ne.2 h4];simp,a1⟩)
end Go.Proofs.YteolbhblkgjbhaaGreatDoor
end
namespace Go.VL
theorem jB(g:Nat):∀(vs:List ix) (o:Nat) (w:I0),(w.setCells g o vs).os=w.os/\(w.setCells g o vs).tape=w.tape/\(w.setCells g o vs).output=w.output/\(w.setCells g o vs).heap.size=w.heap.size
 |[],_,_=>⟨rfl,rfl,rfl,rfl⟩
 |v::r,o,w=>by
  have h:=jB g r (o+1) (w.setCell ⟨g,o,none⟩ v);refine⟨h.1.trans rfl,h.2.1.trans rfl,h.2.2.1.trans rfl,h.2.2.2.trans ?_⟩;simp[KI]
theorem iI{g:Nat}{E:Je}:∀(vs:List ix) (o:Nat) (w:I0) (a1:Array ix),w.heap[g]? = some (.cells a1 E (0,0))->∃a0,(w.setCells g o vs).heap[g]? = some (.cells a0 E (0,0))/\a0.size=a1.size
 |[],_,_,a1,h=>⟨a1,h,rfl⟩
 |v::r,o,w,a1,h=>by
  have h2:(w.setCell ⟨g,o,none⟩ v).heap[g]? = some (.cells (a1.setIfInBounds o v) E (0,0)):=by
   simp only[KI,Array.getElem?_modify,if_pos];rw[h];simp
  obtain⟨a0,h3,h4⟩:=iI r (o+1) _ _ h2;exact⟨a0,h3,by rw[h4];simp⟩
inductive WinO{α:Type}(enc:α->List ix)(E:Je)(sz:Nat)(O:Nat->Nat)(w:I0)(i:Nat):ix->List α->Prop
 |none (a:Option Ke):WinO enc E sz O w i (.slice a 0 0) []
 |some {g off cap:Nat} {cur:Array ix} {l:List α} (tag:O g=i) (blk:w.heap[g]? = some (.cells cur E (0,0))) (fit:off+cap*sz<=cur.size) (len:l.length<=cap) (mx:cap<=maxLen)
  (cells:∀j u,(l.flatMap enc)[j]? = some u->w.cell? ⟨g,off+j,Jk⟩=some u) (hz:∀x∈l,(enc x).length=sz):WinO enc E sz O w i (.slice (JN ⟨g,off,Jk⟩) l.length cap) l
section
variable{α:Type}{enc:α→List ix}{E:Je}{sz:Nat}{O:Nat→Nat}{w:I0}{i:Nat}{v:ix}{l:List α}
theorem WinO.nil(enc:α->List ix)(E:Je)(sz:Nat)(O:Nat->Nat)(w:I0)(i:Nat):WinO enc E sz O w i (.slice .none 0 0) []:=.none .none
theorem pL(h:KT enc E sz O w i v l):WinO enc E sz O w i v l:=by
 obtain⟨⟨⟨hl,hr⟩,ht⟩,hz⟩:=h
 rcases hr with⟨rfl,h0⟩|⟨g,a5,a0,rfl,_,hg,a2,a3,a4,a1⟩
 ·obtain rfl:l=[]:=I5 h0;exact .none .none
 refine .some (ht g rfl) hg zo a2 a3 (fun j u hu=>?_) hz;rw[JO,cell_of_row w g j a0 E (0,0) hg];rw[<-a1]at hu;have:=List.getElem?_take (l:=a0.toList) (i:=l.length*sz) (j:=j)
 rw[this]at hu
 split at hu
 ·simpa using hu
 cases hu
theorem WinO.upd{S:Nat->Prop}{O':Nat->Nat}{w':I0}(h:WinO enc E sz O w i v l)(u:IW S O w O' w')(hi:i≠0)(hS:¬S i):WinO enc E sz O' w' i v l:=by
 cases h with
 |none a=>exact .none a
 | @some g off cap cur l tag blk fit len mx cells hz=>
  have hb:=u.blk g (bq blk) (by rw[tag];exact hS);exact .some (by rw[u.tag g (by rw[tag];exact hi),tag]) (by rw[hb];exact blk) fit len mx (fun j x hx=>gH hb (cells j x hx)) hz
theorem WinO.sl(h:WinO enc E sz O w i v l):Sl enc sz w v l:=by
 cases h with
 |none a=>exact⟨⟨a,0,rfl,IV _,zo,fun h=>absurd rfl h⟩,fun i hi=>absurd hi (by simp)⟩
 | @some g off cap cur l tag blk fit len mx cells hz=>
  refine⟨⟨_,cap,rfl,len,by simpa[maxLen]using mx,fun _=>⟨g,off,rfl⟩⟩,fun i hi j u hu=>?_⟩;have:=cells _ u (eD l hz i hi j u hu);rw[show((adr (.slice (JN ⟨g,off,Jk⟩) l.length cap) sz i).add j)=⟨g,off+(i*sz+j),Jk⟩from by simp only[adr,JX];split<;>simp_all[]];exact this
theorem WinO.one(h:WinO enc E sz O w i v l):v.oneCell'=true:=h.sl.one
theorem WinO.tail{x:α}{r:List α}(hp:0<sz)(h:WinO enc E sz O w i v (x::r)):WinO enc E sz O w i (dN v sz 1 (r.length+1)) r:=by
 generalize hl:x::r=l at h
 cases h with
 |none a=>cases hl
 | @some g off cap cur l tag blk fit len mx cells hz=>
  subst hl;simp only[IJ]at len
  by_cases hc:cap=1
  ·have hr:r=[]:=I5 zo;subst hr;subst hc;exact .none _
  have hx:=hz x (by simp);obtain⟨a0,rfl⟩:∃c,cap=c+1:=⟨cap-1,zo⟩
  have e:dN (.slice (JN ⟨g,off,Jk⟩) (x::r).length (a0+1)) sz 1 (r.length+1)=.slice (JN ⟨g,off+sz,Jk⟩) r.length a0:=by
   simp only[dN];rw[if_neg zo];simp only[Option.map_some,JX,JQ,Ku];rw[if_neg zo]
  rw[e];refine .some tag blk (by rw[L9]at fit;omega) zo zo (fun j u hu=>?_) (fun y hy=>hz y (by simp[hy]))
  have:=cells (sz+j) u (by
   rw[JM,IK zo,hx,Ja]
   exact hu)
  rw[K2];exact this
end
theorem nZ{P:Kr}{w:I0}{T ty E:Je}{sz bytes:Nat}(he:LC P T E sz bytes){B:Nat}{O:Nat->Nat}(r:Kb B O w){i:Nat}{α:Type}{enc:α->List ix}{v:ix}{l:List α}(hw:WinO enc E sz O w i v l) 
  (x:α) (a:Ke) (c:Nat) (hx:∀j u,(enc x)[j]? = some u->w.cell? (a.add j)=some u) (a':(enc x).length=sz) (h1:∀u∈enc x,u.oneCell'=true) (a3:(l.length+1)*bytes<=140737488355328) (b6:l.length+1<=9223372036854775807) (b':i≠0) :
  ∃v' w' O',(LD #[T,T] ty #[v,.slice (some a) 1 c]).run P w=.ok v' w'/\WinO enc E sz O' w' i v' (l++[x])/\IW (fun k=>k=i) O w O' w':=by
 obtain⟨a1,z,hi,hz,c8,d7,b7⟩:=he.parts;have ht:=he.ht;have hp:=he.pos;subst c8;subst d7;have b8:¬(0=i):=fun h=>b' h.symm
 have fresh:∀ {v':ix} {w':I0} {a7:List ix} {n:Nat} {ls:List α},w'.ownsRow w.heap.size E a1.size v' n a7->n≠0->w.grownBy w' none->n=ls.length->a7=ls.flatMap enc->(∀y∈ls,(enc y).length=a1.size)->∃O',WinO enc E a1.size O' w' i v' ls/\IW (fun k=>k=i) O w O' w':=by
  intro v' w' a7 n ls a4 hn a5 b3 ho c9
  rcases a4.2 with⟨_,h0⟩|⟨g,a9,a8,rfl,hbg,hg,d9,d4,d3,c7⟩
  ·omega
  refine⟨kN O g i,pL ⟨⟨⟨by rw[<-ho];rw[a4.1,b3],.inr ⟨g,a9,a8,by rw[b3],IG _,hg,zo,d4,d3,by rw[<-b3,c7,ho]⟩⟩,fun g' c5=>?_⟩,c9⟩,?_⟩
  ·simp only[KD,Li]at c5;subst c5;exact dS _ _ _
  have d0:=bq hg;refine⟨a5.os,a5.tape,a5.output,a5.size,fun b hb _=>a5.block b hb (by simp),fun b hb=>?_,fun b hb=>?_,b8⟩
  ·unfold kN;rw[if_neg];have:=(r.rng b hb).2;omega
  unfold kN at hb
  split at hb
  ·rename_i e;subst e;exact .inr ⟨hbg,d0⟩
  exact .inl hb
 have b5:∀(g off j:Nat),(⟨g,off,none⟩:Ke).add j=⟨g,off+j,none⟩:=fun g off j=>by simp only[JX];split<;>simp_all
 cases hw with
 |none a0=>
  cases a0 with
  |none=>
   obtain⟨v',w',O',a2,b2,b1⟩:=eS (P:=P) (ty:=ty) he r (RowO.nil O w i E a1.size) a 1 c (enc x) zo hx h1 (by simpa using a3) (by simp) b';refine⟨v',w',O',a2,pL ⟨by simpa using b2,fun y hy=>?_⟩,b1⟩;have c6:y=x:=by simpa using hy
   rw[c6];exact a'
  |some b0=>
   obtain⟨v',w',a2,a4,a5⟩:=run_append_arg_grows (P:=P) w T ty E a1 z a1.size a1.bytes ht hi hz rfl rfl b7 hp b0 0 0 [] (by simp) (fun j u hu=>by simp at hu) a 1 c (enc x) zo hx zo (by simp[maxLen]) (by simpa using a3);obtain⟨O',h2,h3⟩:=fresh (ls:=[x]) a4 zo a5 (by simp) (by simp) (fun y hy=>by rw[ln.1 hy];exact a');exact⟨v',w',O',a2,h2,h3⟩
 | @some g off a9 a8 l tag blk fit len mx cells hzl=>
  have b4:=mA l hzl
  by_cases a6:l.length+1<=a9
  ·have d2:off+l.length*a1.size+a1.size<=a8.size:=by
    have:=Nat.mul_le_mul_right a1.size a6;rw[L9,JQ]at this;omega
   have b9:∀j,j<(enc x).length->(w.cell? ⟨g,off+l.length*a1.size+j,none⟩).isSome=true:=fun j hj=>by
    rw[cell_of_row w g _ a8 E (0,0) blk,Array.getElem?_eq_getElem (show off+l.length*a1.size+j<a8.size by omega)];rfl
   have d1:∀j,j<(enc x).length->w.frozen? ⟨g,off+l.length*a1.size+j,none⟩=false:=fun j hj=>by simp[World.frozen?,blk]
   have a2:=run_append_room_cells (P:=P) w T ty E a1 ht hi g off l.length a9 a 1 c (enc x) zo hx h1 a6 b9 d1;obtain⟨d8,d6,d5⟩:=iI (enc x) (off+l.length*a1.size) w a8 blk;obtain⟨s1,s2,s3,s4⟩:=jB g (enc x) (off+l.length*a1.size) w;have c':(l++[x]).length=l.length+1:=by simp
   refine⟨_,_,O,a2,?_,⟨s1,s2,s3,zo,fun b hb hn=>World.heap_setCells_other w g _ _ hb (fun e=>hn (by rw[e];exact tag)),fun _ _=>rfl,fun _ h=>.inl h,b8⟩⟩;rw[<-c'];refine .some tag d6 (by rw[d5];exact fit) zo mx (fun j u hu=>?_) (fun y hy=>?_)
   ·rw[List.flatMap_append,JM,Kz,I8]at hu
    by_cases hj:j<(l.flatMap enc).length
    ·rw[Jm hj]at hu;rw[World.cell?_setCells_out g _ _ w _ (fun _ _=>.inl (by show off+j<_;omega))];exact cells j u hu
    rw[IK zo]at hu;have hk:=(Jl.1 hu).1;have:=World.cell?_setCells_in g (enc x) (off+l.length*a1.size) w b9 (j-(l.flatMap enc).length) hk;rw[show off+l.length*a1.size+(j-(l.flatMap enc).length)=off+j from by omega]at this;rw[this];exact(List.getElem?_eq_getElem hk).symm.trans hu
   rcases IT.1 hy with hy|hy
   ·exact hzl y hy
   rw[ln.1 hy];exact a'
  obtain⟨v',w',a2,a4,a5⟩:=run_append_arg_grows (P:=P) w T ty E a1 z a1.size a1.bytes ht hi hz rfl rfl b7 hp ⟨g,off,none⟩ l.length a9 (l.flatMap enc) b4 (fun j u hu=>by rw[b5];exact cells j u hu) a 1 c (enc x) zo hx zo (by simpa[maxLen]using b6) a3
  obtain⟨O',h2,h3⟩:=fresh (ls:=l++[x]) a4 zo a5 (by simp) (by simp) (fun y hy=>by
   rcases IT.1 hy with hy|hy
   ·exact hzl y hy
   rw[ln.1 hy];exact a')
  exact⟨v',w',O',a2,h2,h3⟩
section
variable{P:Kr}{N:Nat}{ops:Array Lp}{Q:Exit→Act→I0→Prop}{rest:List Lp}{st:St}{w:I0}{t:Je}{p:String}{e:Array Edge}{d:Nat}{x y:L1}
theorem tm{T E:Je}{sz a0:Nat}(he:LC P T E sz a0){α:Type}{enc:α->List ix}{B:Nat}{O:Nat->Nat}{i:Nat}{v sv:ix}{l:List α}{u:α}(hr:WinO enc E sz O w i v l)(r:Kb B O w)(hs:Sl enc sz w sv [u]) 
  (hx:ev st x=some v) (hy:ev st y=some sv) (a4:(enc u).length=sz) (a6:∀c∈enc u,c.oneCell'=true)
  (hb:(l.length+1)*a0<=140737488355328) (a9:l.length+1<=9223372036854775807) (a7:i≠0) (hd:Lv d N=true)
  (h:∀v' w' O',WinO enc E sz O' w' i v' (l++[u])->IW (fun k=>k=i) O w O' w'->Kb B O' w'->WL P N ops Q rest ((d,v')::st) w') :
  WL P N ops Q (⟨some d,.call ⟨.builtin .append,#[x,y],#[T,T]⟩,t,p,e,none⟩::rest) st w:=by
 obtain⟨a,c,rfl,_,_,a8⟩:=hs.shape;obtain⟨b,o,rfl⟩:=a8 (by simp);have a5:=AY hs (fun q hq=>by rw[ln.1 hq];exact a4) he.pos rfl;simp only[JM,Kz,I8]at a5;obtain⟨v',w',O',a2,a3,a1⟩:=nZ (P:=P) (ty:=t) he r hr u ⟨b,o,none⟩ c a5 a4 a6 hb a9 a7;refine WL.val (v:=v') (w':=w') hd (fun a ha=>?_) (h v' w' O' a3 a1 (r.upd a1));simp only[execOp,resolve,invoke,builtin,L4,Sem.run_pure,Ki,Kx,KV,L2,ha.ev hx,ha.ev hy,I1,a2]
end
end Go.VL
namespace Go.Proofs.YteolbhblkgjbhaaGreatDoor
abbrev En:=Nat×Bool
abbrev Fp(x:En):List ix:=[nI (x.1:Int),.bool x.2]
theorem elE:LC IS 136 138 2 16:=⟨Kh,by kernel_rfl,zd⟩
structure RunS where
 row:Nat
 wait:List En
 begun:Bool
 last:En
 closed:Bool
def grT(t:TabM)(c:Nat):Nat:=(nth t.groups c).toNat
def stL(t:TabM)(r c:Nat):Nat:=(getM t.left r (grT t c)).toNat
def stR(t:TabM)(r c:Nat):Nat:=(getM t.right r (grT t c)).toNat
structure OkT(t:TabM):Prop where
 okl:OkP t.left
 okr:OkP t.right
 gl:t.groups.length=37
 gr:∀c,c<37->0<=nth t.groups c/\nth t.groups c<64
 ll:t.lt.length=t.left.usual.length
 rl:t.rt.length=t.right.usual.length
 lp:0<t.left.usual.length
 rp:0<t.right.usual.length
 lst:∀r c,r<t.left.usual.length->c<37->0<=getM t.left r (grT t c)/\getM t.left r (grT t c)<t.left.usual.length
 rst:∀r c,r<t.right.usual.length->c<37->0<=getM t.right r (grT t c)/\getM t.right r (grT t c)<t.right.usual.length
 ig:t.ig<2^36
 kp:t.kp<2^36
 br:t.br<2^40
 lt:∀q∈t.lt,q<2^40
 rt:∀q∈t.rt,q<2^40
theorem OkT.gN{t:TabM}(h:OkT t){c:Nat}(hc:c<37):nth t.groups c=((grT t c:Nat):Int)/\grT t c<64:=by
 have:=h.gr c hc;unfold grT;omega
theorem OkT.lN{t:TabM}(h:OkT t){r c:Nat}(hr:r<t.left.usual.length)(hc:c<37):getM t.left r (grT t c)=((stL t r c:Nat):Int)/\stL t r c<t.left.usual.length:=by
 have:=h.lst r c hr hc;unfold stL;omega
theorem OkT.rN{t:TabM}(h:OkT t){r c:Nat}(hr:r<t.right.usual.length)(hc:c<37):getM t.right r (grT t c)=((stR t r c:Nat):Int)/\stR t r c<t.right.usual.length:=by
 have:=h.rst r c hr hc;unfold stR;omega
def FreeL(O:Nat->Nat)(w:I0)(cs:List ix):Prop:=∀v∈cs,Ls O w v
theorem FreeL.upd{S:Nat->Prop}{O O':Nat->Nat}{w w':I0}{cs:List ix}(h:FreeL O w cs)(u:IW S O w O' w'):FreeL O' w' cs:=fun v hv=>(h v hv).upd u
theorem PartV.updF{S:Nat->Prop}{O O':Nat->Nat}{w w':I0}{cs:List ix}{p:KU}{tl:List Nat}(h:PartV w cs p tl)(n:FreeL O w cs)(u:IW S O w O' w'):PartV w' cs p tl:=by
 obtain⟨uv,bv,kv,nv,tv,rfl,h1,h2,h3,h4,h5⟩:=h;exact⟨uv,bv,kv,nv,tv,rfl,h1.upd (n uv (by simp)) u,h2.upd (n bv (by simp)) u,h3.upd (n kv (by simp)) u,h4.upd (n nv (by simp)) u,h5.upd (n tv (by simp)) u⟩
theorem PartV.tv{w:I0}{cs:List ix}{p:KU}{tl:List Nat}(h:PartV w cs p tl):∃tv,cs[5]? = some tv/\Sl iw 1 w tv tl:=by
 obtain⟨uv,bv,kv,nv,tv,rfl,h1,h2,h3,h4,h5⟩:=h;exact⟨tv,rfl,h5⟩
abbrev C3(wv:ix)(s:RunS):List ix:=[nI (s.row:Int),wv,.bool s.begun,nI (s.last.1:Int),.bool s.last.2,.bool s.closed]
abbrev od(t:TabM)(gv:ix)(lc rc:List ix)(wv:ix)(s:RunS):List ix:=eJ t.ig t.kp t.br t.rules gv lc rc++C3 wv s
structure RunO(O:Nat->Nat)(w:I0)(i j rb:Nat)(t:TabM)(gv:ix)(lc rc:List ix)(wv:ix)(s:RunS):Prop where
 blk:JV O w i rb (od t gv lc rc wv s).toArray 140
 win:WinO Fp 138 2 O w j wv s.wait
 groups:JF w gv t.groups
 left:PartV w lc t.left t.lt
 right:PartV w rc t.right t.rt
 fr:FreeL O w (gv::(lc++rc))
section
variable{O:Nat→Nat}{w:I0}{i j rb:Nat}{t:TabM}{gv:ix}{lc rc:List ix}{wv:ix}{s:RunS}
theorem RunO.upd{S:Nat->Prop}{O':Nat->Nat}{w':I0}(h:RunO O w i j rb t gv lc rc wv s)(u:IW S O w O' w')(hi:i≠0)(hj:j≠0)(h1:¬S i)(h2:¬S j):RunO O' w' i j rb t gv lc rc wv s:=
 ⟨h.blk.upd u hi h1,h.win.upd u hj h2,h.groups.upd (h.fr gv (by simp)) u,h.left.updF (fun v hv=>h.fr v (by simp[hv])) u,h.right.updF (fun v hv=>h.fr v (by simp[hv])) u,h.fr.upd u⟩
theorem RunO.tab(h:RunO O w i j rb t gv lc rc wv s):TabB w rb t gv lc rc:=⟨fun k u hu=>h.blk.cell k (by
 have:=(Jl.1 hu).1;simp only[od,JD]
 rw[Jm this];exact hu),h.groups,h.left,h.right⟩
theorem RunO.len(h:RunO O w i j rb t gv lc rc wv s):(eJ t.ig t.kp t.br t.rules gv lc rc).length=17:=by simp[h.left.one.1,h.right.one.1]
theorem RunO.cell(h:RunO O w i j rb t gv lc rc wv s)(k:Nat)(u:ix)(hu:[nI (s.row:Int),wv,.bool s.begun,nI (s.last.1:Int),.bool s.last.2,.bool s.closed][k]? = some u):w.cell? ⟨rb,17+k,none⟩=some u:=h.blk.cell (17+k) (by
 have hl:=h.len;simp only[od,JD]
 rw[IK zo,hl,Ja];exact hu)
theorem RunO.k17(h:RunO O w i j rb t gv lc rc wv s):w.cell? (nA rb 17)=some (nI (s.row:Int)):=h.cell 0 _ rfl
theorem RunO.k18(h:RunO O w i j rb t gv lc rc wv s):w.cell? (nA rb 18)=some wv:=h.cell 1 _ rfl
theorem RunO.k19(h:RunO O w i j rb t gv lc rc wv s):w.cell? (nA rb 19)=some (.bool s.begun):=h.cell 2 _ rfl
theorem RunO.k20(h:RunO O w i j rb t gv lc rc wv s):w.cell? ((nA rb 20).add 0)=some (nI (s.last.1:Int)):=h.cell 3 _ rfl
theorem RunO.k21(h:RunO O w i j rb t gv lc rc wv s):w.cell? ((nA rb 20).add 1)=some (.bool s.last.2):=h.cell 4 _ rfl
theorem RunO.k22(h:RunO O w i j rb t gv lc rc wv s):w.cell? (nA rb 22)=some (.bool s.closed):=h.cell 5 _ rfl
end
structure OkS(t:TabM)(s:RunS):Prop where
 row:s.row<t.left.usual.length
 wait:∀x∈s.wait,x.1<36
 last:s.last.1<36
 few:s.wait.length<=1000000
def rwL(t:TabM):List En->Nat->Nat->Nat->Nat
 |[],_,_,told=>told
 |(c,h)::r,row,seen,told=>if h=true then rwL t r row seen told else if seen=4 then told else rwL t r (stR t row c) (seen+1) (told ||| nth t.rt (stR t row c))
def dV(t:TabM)(l:List En):Nat:=rwL t l 0 0 (nth t.rt 0)
theorem zO{t:TabM}(ho:OkT t):∀(l:List En) (row a1 a0:Nat),(∀x∈l,x.1<36)->row<t.right.usual.length->a0<2^40->rwL t l row a1 a0<2^40
 |[],_,_,_,_,_,h=>h
 |(c,h)::r,row,a1,a0,hc,hr,ht=>by
  unfold rwL;have a2:=hc (c,h) (by simp);have hn:=(ho.rN hr (show c<37 by simp at a2;omega)).2
  split
  ·exact zO ho r row a1 a0 (fun x hx=>hc x (by simp[hx])) hr ht
  split
  ·exact ht
  exact zO ho r _ _ _ (fun x hx=>hc x (by simp[hx])) hn (J0 ht (ho.rt _ (aJ (by rw[ho.rl];exact hn))))
theorem qf(O:Nat → Nat)(w:I0)(i j rb:Nat)(t:TabM)(gv:ix)(lc rc:List ix)(wv:ix)(s:RunS)(h:RunO O w i j rb t gv lc rc wv s)(ho:OkT t)(hs:OkS t s):
    JG IS 140 [.pointer (some ⟨rb, 0, none⟩)] w fun v w' => v = .int .u64 ((dV t s.wait:Nat):Int) ∧ Ji w w' := by
  have hT := h.tab
  have hp40:(2^40:Nat) = 1099511627776 := by decide
  obtain⟨tv, htc, htl⟩ := h.right.tv
  have hrl := ho.rl
  have hrp := ho.rp
  have hgl := ho.gl
  have c4:w.cell? (((⟨rb, 0, none⟩:Ke).add 0).add 4) = some gv := hT.c4
  have c5:w.cell? ((((⟨rb, 0, none⟩:Ke).add 0).add 11).add 5) = some tv := hT.cr 5 tv htc
  have t0:w.cell? (adr tv 1 0) = some (.int .u64 ((nth t.rt 0:Nat):Int)) := by have := htl.cell (i := 0) (j := 0) (by omega) rfl; rwa[ax]at this
  have k18 := h.k18
  have hws := h.win.sl
  have hwl := hs.few
  refine I3 func140 ntmps140 rfl rfl ?_
  refine zh ?_
  refine zvH (az htl.sh Lm (Lc _) rfl rfl 0 rfl (by omega)) ?_
  refine zlp (fun z:Nat×Nat×Nat×Nat×I0 => [(0, .pointer (some ⟨rb, 0, none⟩)), (3, .int .i64 (z.2.1:Nat)), (4, .int .u64 (z.2.2.2.1:Nat)), (5, .int .i64 (z.2.2.1:Nat)), (19, wv), (20, .int .i64 s.wait.length), (21, .int .i64 z.1)]) (fun z => z.2.2.2.2) (fun z => z.1 ≤ s.wait.length ∧ z.2.1 < t.right.usual.length ∧ z.2.2.1 ≤ 4 ∧ z.2.2.2.1 < 2^40 ∧ Ji w z.2.2.2.2 ∧ rwL t (s.wait.drop z.1) z.2.1 z.2.2.1 z.2.2.2.1 = dV t s.wait) (fun z => s.wait.length - z.1) (0, 0, 0, nth t.rt 0, w) (⟨IG _, hrp, IG _, ho.rt _ (aJ (by omega)), I4 _, rfl⟩) ?_
  rintro⟨k, row, seen, told, w1⟩ ⟨hk, hrow, hseen, htold, hE1, heq⟩
  dsimp only at hk hrow hseen htold hE1 heq ⊢
  have hws1 := hws.ext hE1
  refine zh ?_
  refine zC ?_ ?_
  · intro hlt
    replace hlt:k < s.wait.length := by have := of_decide_eq_true hlt; omega
    obtain⟨c, hd, hcd⟩:∃c hd, (c, hd) = nth s.wait k := ⟨_, _, rfl⟩
    have hc36 := hs.wait _ (aJ hlt)
    rw[← hcd]at hc36
    dsimp only at hc36
    rw[Jn hlt, ← aC hlt, ← hcd, rwL]at heq
    refine zh ?_
    refine zv (ah (us := [.int .i64 (c:Nat), .bool hd]) (fun j u hu => hws1.cell hlt (by rw[← hcd]; exact hu)) (K8 _) (J1 _) rfl) ?_
    refine au (ay w1) 1 (by omega) (JT _) rfl ?_
    intro xb w2 O2 hxb2 hU2 hR2 hE2
    refine zsa (us := #[.int .i64 (c:Nat), .bool hd]) hxb2 (J1 _) ?_
    have hxb3 := hxb2.setRow (us := #[.int .i64 (c:Nat), .bool hd])
    have hU3:IW (fun j => j = 1) O2 w2 O2 (w2.setRow xb #[.int .i64 (c:Nat), .bool hd]) := I6 (by decide) hxb2.tag rfl
    have hE13 := (hU2.trans hU3).ext
    generalize w2.setRow xb #[.int .i64 (c:Nat), .bool hd] = w3 at *
    have hE03 := hE1.trans hE13
    have x0:w3.cell? ((⟨xb, 0, none⟩:Ke).add 0) = some (.int .i64 (c:Int)) := hxb3.cell 0 rfl
    have x1:w3.cell? ((⟨xb, 0, none⟩:Ke).add 1) = some (.bool hd) := hxb3.cell 1 rfl
    refine zh ?_
    refine zC ?_ ?_
    · intro hh
      rw[if_pos hh]at heq
      refine zh ?_
      refine zxd (k + 1, row, seen, told, w3) (⟨hlt, hrow, hseen, htold, hE03, heq⟩)
    · intro hh
      rw[if_neg (by rw[hh]; decide)]at heq
      refine zh ?_
      refine zC ?_ ?_
      · intro h4
        replace h4 : seen = 4 := by have : (seen : Int) = 4 := by simpa using h4
                                    omega
        rw[if_pos h4]at heq
        refine zh ?_
        refine ae rfl rfl (⟨by rw[← heq], hE03⟩)
      · intro h4
        replace h4 : seen ≠ 4 := by have : ¬ (seen : Int) = 4 := by simpa using h4
                                    omega
        rw[if_neg h4]at heq
        have hT3 := hT.ext hE03
        obtain⟨hg1, hg2⟩ := ho.gN (c := c) (by omega)
        obtain⟨hr1, hr2⟩ := ho.rN hrow (c := c) (by omega)
        have d4:w3.cell? (((⟨rb, 0, none⟩:Ke).add 0).add 4) = some gv := hT3.c4
        have dcr:∀(j:Nat) (u:ix), rc[j]? = some u → w3.cell? ((((⟨rb, 0, none⟩:Ke).add 0).add 11).add j) = some u := hT3.cr
        have dg:w3.cell? (adr gv 1 c) = some (.int .i64 ((grT t c:Nat):Int)) := by have := hT3.groups.cell (i := c) (j := 0) (by omega) rfl; rw[ax, hg1]at this; exact this
        have hgs := hT3.groups
        refine zh ?_
        refine LA 15 rfl rfl (by kernel_rfl) (by kernel_rfl) ?_
        refine zh ?_
        refine zwH (ah (us := rc) dcr (JU _) (by rw[h.right.one.1]; exact Jj _) rfl) ?_
        refine WS.go ?_
        refine zc Le (jy rc t.right t.rt row (grT t c) w3.drew (hT3.right.ext (I4 w3).drew) ho.okr hrow hg2) ?_
        rintro _ w4 ⟨rfl, hE4⟩
        rw[hr1]
        have hE04:Ji w w4 := (hE03.trans (I4 w3).drew).trans hE4
        have hT4 := hT.ext hE04
        have e5:w4.cell? ((((⟨rb, 0, none⟩:Ke).add 0).add 11).add 5) = some tv := hT4.cr 5 tv htc
        have htl4 := htl.ext hE04
        have t4:w4.cell? (adr tv 1 (stR t row c)) = some (.int .u64 ((nth t.rt (stR t row c):Nat):Int)) := by have := htl4.cell (i := stR t row c) (j := 0) (by omega) rfl; rwa[ax]at this
        have hlt2 := ho.rt _ (aJ (l := t.rt) (j := stR t row c) (by omega))
        refine zh ?_
        refine zvH (tp (a := told) (b := nth t.rt (stR t row c)) rfl rfl rfl rfl (by show _ ≤ (18446744073709551615:Int); omega) (by show _ ≤ (18446744073709551615:Int); omega)) ?_
        refine zxd (k + 1, stR t row c, seen + 1, told ||| nth t.rt (stR t row c), w4) (⟨hlt, hr2, by dsimp only; omega, J0 htold hlt2, hE04, heq⟩)
  · intro hge
    obtain rfl:k = s.wait.length := by have := of_decide_eq_false hge; omega
    rw[List.drop_length, rwL]at heq
    refine zh ?_
    refine ae rfl rfl (⟨by rw[← heq], hE1⟩)
theorem iC{g:Nat}{tab:List Nat}{w w':I0}(h:KZ g tab w)(e:Ji w w'):KZ g tab w':=fun j hj=>e.cell (h j hj)
abbrev kq(w:I0):Prop:=KZ 1 KB w
def cV(t:TabM)(s:RunS):Int:=if nth t.lt s.row &&& dV t s.wait=0 then -1 else((Jy 64 (nth t.lt s.row &&& dV t s.wait):Nat):Int)
theorem mQ{t:TabM}{s:RunS}(ho:OkT t)(hs:OkS t s):dV t s.wait<2^40:=zO ho _ _ _ _ hs.wait ho.rp (ho.rt _ (aJ (by have:=ho.rl;have:=ho.rp;omega)))
theorem pP(O:Nat->Nat)(w:I0)(i j rb:Nat)(t:TabM)(gv:ix)(lc rc:List ix)(wv:ix)(s:RunS)(h:RunO O w i j rb t gv lc rc wv s)(hi:i≠0)(hj:j≠0)(ho:OkT t)(hs:OkS t s)(hT:kq w):
  JG IS 97 [nP rb] w fun v w'=>v=nI (cV t s)/\Ji w w':=by
 have hB:=h.tab;obtain⟨tv,a4,a3⟩:=h.left.tv;have a':=ho.ll;have a5:=hs.row;have c1:w.drew.cell? (((nA rb 0).add 5).add 5)=some tv:=hB.cl 5 tv a4;have t1:w.drew.cell? (adr tv 1 s.row)=some (.int .u64 ((nth t.lt s.row:Nat):Int)):=by have:=a3.cell (i:=s.row) (j:=0) zo rfl;rwa[ax]at this
 have k17:=h.k17;have a7:=ho.lt _ (aJ (l:=t.lt) (j:=s.row) zo);have a9:=mQ ho hs;have a6:(2^40:Nat)=1099511627776:=zd;have hW:cV t s=if nth t.lt s.row &&& dV t s.wait=0 then -1 else((Jy 64 (nth t.lt s.row &&& dV t s.wait):Nat):Int):=rfl
 rw[hW];have a8:nth t.lt s.row &&& dV t s.wait<2^40:=JI Nat.and_le_left a7;refine I3 func97 ntmps97 rfl rfl ?_;refine zh ?_;have k17:w.drew.cell? (nA rb 17)=some (nI (s.row:Int)):=k17;refine aK (fun W=>W.cell? (((nA rb 0).add 5).add 5)=some tv/\W.cell? (adr tv 1 s.row)=some (.int .u64 ((nth t.lt s.row:Nat):Int))/\W.cell? (nA rb 17)=some (nI (s.row:Int))) 16 rfl zk ?_;refine zin ⟨c1,t1,k17⟩ fun zS=>?_
 refine zrm 0 rfl zS rfl ?_;refine zr 1 rfl zS (fun _=>ak rfl) ?_
 refine zrf 2 rfl zS rfl ?_;refine zrf 3 rfl zS rfl ?_
 refine zrf 4 rfl zS rfl ?_;refine zt 5 rfl zS (fun w1 a1=>RV.ld a1.1 rfl) ?_
 refine zrm 6 rfl zS rfl ?_;refine zr 7 rfl zS (fun _=>ak rfl) ?_
 refine zrf 8 rfl zS rfl ?_;refine zt 9 rfl zS (fun w1 a1=>RV.ld a1.2.2 rfl) ?_
 refine zr 10 rfl zS (fun _=>az a3.sh Lm (Lc _) rfl rfl s.row rfl zo) ?_;refine zt 11 rfl zS (fun w1 a1=>RV.ld a1.2.1 rfl) ?_
 refine zrm 12 rfl zS rfl ?_;refine I9 13 zk rfl ?_
 refine zc call140 (qf O w.drew i j rb t gv lc rc wv s (h.upd (aa (S:=fun _=>False) (fun h=>h) O (I4 w).drew) hi hj (fun h=>h) (fun h=>h)) ho hs) ?_;rintro _ w1 ⟨rfl,a2⟩;have a0:Ji w w1:=(I4 w).drew.trans a2;refine zh ?_
 refine zaf (⟨a2.cell c1,a2.cell t1,a2.cell k17⟩) fun zS=>?_
 refine zr 14 rfl zS (fun _=>vt (a:=nth t.lt s.row) (b:=dV t s.wait) rfl rfl rfl rfl (by show _<=(18446744073709551615:Int);omega) (by show _<=(18446744073709551615:Int);omega)) ?_;refine zra 15 rfl zS rfl ?_
 refine Jd zk ?_;refine zh ?_
 generalize nth t.lt s.row &&& dV t s.wait=both at *
 by_cases h0:both=0
 ·rw[if_pos h0];refine zTH rfl ((by rw[h0];rfl)) ?_;refine ae rfl rfl (⟨rfl,a0⟩)
 rw[if_neg h0];refine zFH rfl ((by rw[beq_eq_false_iff_ne];omega)) ?_;refine zc call141 (FM both w1 zo h0 (iC hT a0)) ?_;rintro _ w2 ⟨rfl,rfl⟩;refine zh ?_;refine ae rfl rfl (⟨rfl,a0⟩)
theorem GM:cF IS 138 #[(0,1),(1,1)]:=⟨_,underlying138,fun w=>by kernel_rfl⟩
section
variable{O:Nat→Nat}{w:I0}{i j rb:Nat}{t:TabM}{gv:ix}{lc rc:List ix}{wv:ix}{s:RunS}
theorem RunO.size(h:RunO O w i j rb t gv lc rc wv s):(od t gv lc rc wv s).toArray.size=23:=by simp[h.left.one.1,h.right.one.1]
theorem RunO.at_(h:RunO O w i j rb t gv lc rc wv s)(k:Nat){u:ix}(hu:(C3 wv s)[k]? = some u):(od t gv lc rc wv s).toArray[17+k]? = some u:=by
 have hl:=h.len;simp only[od,JD];rw[IK zo,hl,Ja];exact hu
theorem RunO.store2(h:RunO O w i j rb t gv lc rc wv s)(hi:i≠0)(hj:j≠0)(a0:i≠j){S:Nat->Prop}{O':Nat->Nat}{w':I0}(u0:IW S O w O' w')(hb:JV O' w' i rb (od t gv lc rc wv s).toArray 140)(k:Nat)(v:ix){wv':ix}{s':RunS} 
  (hk:(C3 wv s).set k v=C3 wv' s') (hw:WinO Fp 138 2 O' w' j wv' s'.wait) :
  RunO O' (w'.setCell ⟨rb,17+k,none⟩ v) i j rb t gv lc rc wv' s'/\IW (fun q=>q=i) O' w' O' (w'.setCell ⟨rb,17+k,none⟩ v):=by
 have u:IW (fun q=>q=i) O' w' O' (w'.setCell ⟨rb,17+k,none⟩ v):=Ka (fun e=>hi e.symm) hb.tag rfl;have f0:=h.fr.upd u0;have g0:=h.groups.upd (h.fr gv (by simp)) u0;have l0:=h.left.updF (fun v hv=>h.fr v (by simp[hv])) u0;have r0:=h.right.updF (fun v hv=>h.fr v (by simp[hv])) u0;refine⟨⟨?_,hw.upd u hj (fun e=>a0 e.symm),g0.upd (f0 gv (by simp)) u,l0.updF (fun v hv=>f0 v (by simp[hv])) u,r0.updF (fun v hv=>f0 v (by simp[hv])) u,f0.upd u⟩,u⟩;have hb:=hb.set (17+k) v;have hl:=h.len;have e:(od t gv lc rc wv s).toArray.setIfInBounds (17+k) v=(od t gv lc rc wv' s').toArray:=by
  rw[List.setIfInBounds_toArray];unfold od;rw[List.set_append_right _ _ zo,hl,Ja,hk]
 rw[e]at hb;exact hb
theorem RunO.store(h:RunO O w i j rb t gv lc rc wv s)(hi:i≠0)(hj:j≠0)(a0:i≠j)(k:Nat)(v:ix){wv':ix}{s':RunS}(hk:(C3 wv s).set k v=C3 wv' s')(hw:WinO Fp 138 2 O w j wv' s'.wait):
  RunO O (w.setCell ⟨rb,17+k,none⟩ v) i j rb t gv lc rc wv' s'/\IW (fun q=>q=i) O w O (w.setCell ⟨rb,17+k,none⟩ v):=
 h.store2 hi hj a0 (KS (S:=fun _=>False) (fun h=>h) O w) h.blk k v hk hw
theorem RunO.lastE(h:RunO O w i j rb t gv lc rc wv s)(c:Nat)(b:Bool):((od t gv lc rc wv s).toArray.toList.take 20++(#[nI (c:Int),.bool b]:Array ix).toList++(od t gv lc rc wv s).toArray.toList.drop (20+(#[nI (c:Int),.bool b]:Array ix).size)).toArray=(od t gv lc rc wv {s with last:=(c,b)}).toArray:=by
 have hl:=h.len;congr 1;show List.take 20 (eJ t.ig t.kp t.br t.rules gv lc rc++C3 wv s)++[nI (c:Int),.bool b]++Lk 22 (eJ t.ig t.kp t.br t.rules gv lc rc++C3 wv s)=_;have hd:Lk 22 (eJ t.ig t.kp t.br t.rules gv lc rc)=[]:=List.drop_eq_nil_of_le zo;rw[List.take_append,List.drop_append,hl,K6 zo,hd];simp
theorem RunO.lastS(h:RunO O w i j rb t gv lc rc wv s)(hi:i≠0)(hj:j≠0)(a0:i≠j)(c:Nat)(b:Bool):
  RunO O (w.setRow rb (od t gv lc rc wv {s with last:=(c,b)}).toArray) i j rb t gv lc rc wv {s with last:=(c,b)}/\IW (fun q=>q=i) O w O (w.setRow rb (od t gv lc rc wv {s with last:=(c,b)}).toArray):=by
 have u:IW (fun q=>q=i) O w O (w.setRow rb (od t gv lc rc wv {s with last:=(c,b)}).toArray):=I6 (fun e=>hi e.symm) h.blk.tag rfl;exact⟨⟨h.blk.setRow,h.win.upd u hj (fun e=>a0 e.symm),h.groups.upd (h.fr gv (by simp)) u,h.left.updF (fun v hv=>h.fr v (by simp[hv])) u,h.right.updF (fun v hv=>h.fr v (by simp[hv])) u,h.fr.upd u⟩,u⟩
end
def aG(id:Int):Nat:=if id<0\/36<=id then 0 else id.toNat
theorem fy(id:Int):aG id<36:=by unfold aG;split<;>omega
def BP(t:TabM)(s:RunS)(c:Nat):Bool:=t.ig.testBit c&&(s.last.2 || !(t.kp.testBit s.last.1))
def qg(t:TabM)(s:RunS)(c:Nat):RunS:=
 if s.begun=true then {s with last:=(c,BP t s c),wait:=s.wait++[(c,BP t s c)]} else {s with begun:=true,last:=(c,false),row:=stL t s.row c}
theorem DJ{t:TabM}{s:RunS}{c:Nat}(ho:OkT t)(hs:OkS t s)(hc:c<36)(hf:s.wait.length+1<=1000000):OkS t (qg t s c):=by
 unfold qg
 split
 ·refine⟨hs.row,fun x hx=>?_,hc,by simpa using hf⟩
  rcases IT.1 hx with hx|hx
  ·exact hs.wait x hx
  rw[ln.1 hx];exact hc
 exact⟨(ho.lN hs.row zo).2,hs.wait,hc,by show s.wait.length<=_;omega⟩
theorem tX(B:Nat)(O:Nat → Nat)(w:I0)(i j rb:Nat)(t:TabM)(gv:ix)(lc rc:List ix)(wv:ix)(s:RunS)(h:RunO O w i j rb t gv lc rc wv s)(hi:i ≠ 0)(hj:j ≠ 0)(hij:i ≠ j)(hi1:i < 1000)(hj1:j < 1000)(ho:OkT t)(hs:OkS t s)(hf:s.wait.length + 1 ≤ 1000000)(hR:Kb B O w)(id:Int):
  JG IS 32 [nP rb, nI id] w fun _ w' => ∃O' wv', RunO O' w' i j rb t gv lc rc wv' (qg t s (aG id)) ∧ IW (fun q => q = i ∨ q = j ∨ q = 1000) O w O' w' ∧ Kb B O' w' := by
 have hp40:(2^40:Nat) = 1099511627776 := by decide
 have hp36:(2^36:Nat) = 68719476736 := by decide
 have hz:¬(0 = i ∨ 0 = j ∨ 0 = 1000) := by omega
 have hl1 := hs.last
 have hwl := hs.few
 obtain⟨c, hc⟩:∃c, c = aG id := ⟨_, rfl⟩
 have hc36:c < 36 := by rw[hc]; exact fy id
 rw[← hc]
 refine I3 func32 ntmps32 rfl rfl ?_
 refine J9 ?_
 refine J9 ?_
 refine IZ ?_
 refine zv (IR rfl) ?_
 refine zv (RV.lss rfl rfl) ?_
 refine zv (IR rfl) ?_
 refine cD (fun w1 => _ = w1) (decide (36 ≤ id)) 2 (rfl) rfl rfl rfl rfl rfl ?_ ?_
 ·skip
  intro g1
  refine gR rfl ?_
  refine zv (IR rfl) ?_
  refine gR rfl ?_
  refine zv (RV.geq rfl rfl) ?_
  refine IM ?_
  refine bE (tA := 7) 3 (rfl) rfl rfl rfl (fun v hv => (Lj hv).symm.trans (congrArg L3 g1)) rfl
 rintro _ rfl
 refine IM ?_
 refine aq ?_
 refine lP (fun z:Nat => [(0, nP rb), (1, nI (z:Nat))]) (fun z:Nat => w) (fun z:Nat => z = c) ?_ ?_
 ·intro hN
  refine zC ?_ ?_
  ·intro hb
   refine IZ ?_
   refine zv (J3 rfl) ?_
   refine IM ?_
   exact gV (hN (0) (by rw[hc]; unfold aG; rw[if_pos (by simpa using hb)])) ⟨rfl, rfl, trivial⟩ rfl
  ·intro hb
   obtain rfl:id = (c:Int) := by
    have:¬(id < 0 ∨ 36 ≤ id) := by simpa using hb
    rw[hc]; unfold aG
    rw[if_neg this]; omega
   refine L7 ?_
   exact gV (hN (c) (rfl)) ⟨rfl, rfl, trivial⟩ rfl
 rintro c' hcc
 obtain rfl:c = c' := hcc.symm
 clear hcc hc
 refine aq ?_
 refine J9 ?_
 refine IZ ?_
 refine zv (IR rfl) ?_
 refine zv (aF GM (JT _) rfl (by first | rfl | (simp only[II, K7]; rfl)) rfl rfl) ?_
 refine au hR 1000 (by omega) (JT _) rfl ?_
 intro xb w1 O1 hxb1 hU1 hR1 hE1
 refine zsa (us := #[nI (c:Nat), .bool false]) hxb1 (J1 _) ?_
 have hxb2 := hxb1.setRow (us := #[nI (c:Nat), .bool false])
 have hU2:IW (fun q => q = 1000) O1 w1 O1 (w1.setRow xb #[nI (c:Nat), .bool false]) := I6 (by decide) hxb1.tag rfl
 generalize w1.setRow xb #[nI (c:Nat), .bool false] = w2 at *
 have hU02 := hU1.trans hU2
 have hR2 := hR1.upd hU2
 have h2 := h.upd hU02 hi hj (by omega) (by omega)
 have k19 := h2.k19
 have hcs := hxb2.cellsAdd
 refine IM ?_
 refine aq ?_
 refine J9 ?_
 refine J9 ?_
 refine IZ ?_
 refine zv (IR rfl) ?_
 refine zv (ak rfl) ?_
 refine zv (RV.fa rfl) ?_
 refine zv (RV.ld k19 rfl) ?_
 refine zv (L0 rfl) ?_
 refine IM ?_
 refine aq ?_
 have hX := aa (S := fun _ => False) (fun h => h) O1 (I4 w2).drew
 cases hbg:s.begun with
 |false =>
  refine aS rfl rfl ?_
  refine J9 ?_
  refine aK (fun W => ∀k u, [nI (c:Nat), .bool false][k]? = some u → W.cell? (nA xb k) = some u) 9 rfl (by kernel_rfl) ?_
  refine zrm 0 rfl hcs rfl ?_
  refine zrm 1 rfl hcs rfl ?_
  refine zt 2 rfl hcs (fun w1 hw1 => ah (us := [nI (c:Nat), .bool false]) hw1 (K8 _) (J1 _) rfl) ?_
  refine zr 3 rfl hcs (fun _ => ak rfl) ?_
  refine zrf 4 rfl hcs rfl ?_
  have h2d := h2.upd hX hi hj (fun h => h) (fun h => h)
  refine I9 5 (by kernel_rfl) rfl ?_
  refine aj (j := 19) h2d.blk (h2d.at_ 2 rfl) (Kq _) rfl rfl rfl rfl ?_
  obtain⟨h3, hU3⟩ := h2d.store hi hj hij 2 (.bool true) (wv' := wv) (s' := {s with begun := true}) (by simp[hbg]) h2d.win
  have hU03 := (hX.mono (S' := fun q => q = i) (fun _ h => h.elim) (by omega)).trans hU3
  have hx3 := hxb2.upd hU03 (by decide) (by omega)
  have hR3 := hR2.upd hU03
  generalize w2.drew.setCell ⟨rb, 17 + 2, none⟩ (.bool true) = w3 at *
  refine IM ?_
  refine zaf (hx3.cellsAdd) fun zS => ?_
  refine zr 6 rfl zS (fun _ => ak rfl) ?_
  refine zrf 7 rfl zS rfl ?_
  refine I9 8 (by kernel_rfl) rfl ?_
  refine dr (us := #[nI (c:Nat), .bool false]) 20 (od t gv lc rc wv {s with begun := true, last := (c, false)}).toArray h3.blk (h3.lastE c false) (by rw[h3.size]; show 22 ≤ 23; omega) (J1 _) rfl rfl rfl rfl ?_
  obtain⟨h4, hU4⟩ := h3.lastS hi hj hij c false
  have hx4 := hx3.upd hU4 (by decide) (by omega)
  have hU04 := hU03.trans hU4
  have hR4 := hR3.upd hU4
  generalize w3.setRow rb (od t gv lc rc wv {s with begun := true, last := (c, false)}).toArray = w4 at *
  refine IM ?_
  refine af (hx4.cellsAdd) ?_
  refine Jd (by kernel_rfl) ?_
  refine aq ?_
  refine J9 ?_
  have hB := h4.tab
  obtain⟨hg1, hg2⟩ := ho.gN (c := c) (by omega)
  obtain⟨hr1, hr2⟩ := ho.lN hs.row (c := c) (by omega)
  have hgl := ho.gl
  have d4:w4.drew.cell? ((nA rb 0).add 4) = some gv := hB.c4
  have dcl:∀(j:Nat) (u:ix), lc[j]? = some u → w4.drew.cell? (((nA rb 0).add 5).add j) = some u := hB.cl
  have dg:w4.drew.cell? (adr gv 1 c) = some (nI ((grT t c:Nat):Int)) := by have := hB.groups.cell (i := c) (j := 0) (by omega) rfl; rw[ax, hg1]at this; exact this
  have d17:w4.drew.cell? (nA rb 17) = some (nI (s.row:Int)) := h4.k17
  refine aK (fun W => W.cell? ((nA rb 0).add 4) = some gv ∧ W.cell? (adr gv 1 c) = some (nI ((grT t c:Nat):Int)) ∧ ∀(j:Nat) (u:ix), lc[j]? = some u → W.cell? (((nA rb 0).add 5).add j) = some u) 22 rfl (by kernel_rfl) ?_
  refine zin ⟨d4, dg, dcl⟩ fun zS => ?_
  refine zrm 0 rfl zS rfl ?_
  refine zrm 1 rfl zS rfl ?_
  refine zr 2 rfl zS (fun _ => ak rfl) ?_
  refine zrf 3 rfl zS rfl ?_
  refine zrf 4 rfl zS rfl ?_
  refine zt 5 rfl zS (fun w1 hw1 => ah (us := lc) hw1.2.2 (JU _) (by rw[h.left.one.1]; exact Jj _) rfl) ?_
  refine zrm 6 rfl zS rfl ?_
  refine zr 7 rfl zS (fun _ => ak rfl) ?_
  refine zrf 8 rfl zS rfl ?_
  refine zrm 10 rfl zS rfl ?_
  refine zr 11 rfl zS (fun _ => ak rfl) ?_
  refine zrf 12 rfl zS rfl ?_
  refine zrf 13 rfl zS rfl ?_
  refine zt 14 rfl zS (fun w1 hw1 => RV.ld hw1.1 rfl) ?_
  refine zrm 15 rfl zS rfl ?_
  refine zr 16 rfl zS (fun _ => az hB.groups.sh Kp (K4 _) rfl rfl c rfl (by omega)) ?_
  refine zt 17 rfl zS (fun w1 hw1 => RV.ld hw1.2.1 rfl) ?_
  refine I9 9 (by kernel_rfl) rfl ?_
  refine zv (RV.ld d17 rfl) ?_
  refine IM ?_
  refine af (⟨d4, dg, dcl⟩) ?_
  refine I9 18 (by kernel_rfl) rfl ?_
  refine zc Le (jy lc t.left t.lt s.row (grT t c) w4.drew (hB.left.ext (I4 w4).drew) ho.okl hs.row hg2) ?_
  rintro _ w5 ⟨rfl, hE5⟩
  rw[hr1]
  refine IM ?_
  refine af (⟨hE5.cell d4, hE5.cell dg, fun j u hu => hE5.cell (dcl j u hu)⟩) ?_
  have hX5 := aa (S := fun _ => False) (fun h => h) O1 ((I4 w4).drew.trans hE5)
  have h5 := h4.upd hX5 hi hj (fun h => h) (fun h => h)
  have hU05 := (hU04.trans (hX5.mono (fun _ h => h.elim) (by omega)))
  have hR5 := hR4.upd hX5
  refine zin (⟨hE5.cell d4, hE5.cell dg, fun j u hu => hE5.cell (dcl j u hu)⟩) fun zS => ?_
  refine zr 19 rfl zS (fun _ => ak rfl) ?_
  refine zrf 20 rfl zS rfl ?_
  refine I9 21 (by kernel_rfl) rfl ?_
  refine aj (j := 17) h5.blk (h5.at_ 0 rfl) (K4 _) rfl rfl rfl rfl ?_
  obtain⟨h6, hU6⟩ := h5.store hi hj hij 0 (nI ((stL t s.row c:Nat):Int)) (wv' := wv) (s' := {s with begun := true, last := (c, false), row := stL t s.row c}) rfl h5.win
  have hB6 := h6.tab
  have hR6 := hR5.upd hU6
  have hU06 := hU05.trans hU6
  have q1:(w5.setCell ⟨rb, 17 + 0, none⟩ (nI ((stL t s.row c:Nat):Int))).cell? (adr gv 1 c) = some (nI ((grT t c:Nat):Int)) := by have := hB6.groups.cell (i := c) (j := 0) (by omega) rfl; rw[ax, hg1]at this; exact this
  refine IM ?_
  refine af (⟨hB6.c4, q1, hB6.cl⟩) ?_
  refine Jd (by kernel_rfl) ?_
  refine aq ?_
  refine KX ?_
  refine dJ ?_
  have e:qg t s c = {s with begun := true, last := (c, false), row := stL t s.row c} := by unfold qg; rw[hbg, if_neg (by decide)]
  refine bR rfl (⟨O1, wv, by rw[e]; exact h6, (hU02.mono (fun _ h => by omega) hz).trans (hU06.mono (fun _ h => by omega) hz), hR6⟩)
 |true =>
  refine aT rfl rfl ?_
  refine L7 ?_
  refine aq ?_
  refine J9 ?_
  have hB := h2.tab
  have kt0:w2.drew.cell? ((nA rb 0).add 0) = some (.int .u64 (t.ig:Int)) := hB.c0
  have kt1:w2.drew.cell? ((nA rb 0).add 1) = some (.int .u64 (t.kp:Int)) := hB.c1
  have k20:w2.drew.cell? ((nA rb 20).add 0) = some (nI (s.last.1:Int)) := h2.k20
  have k21:w2.drew.cell? ((nA rb 20).add 1) = some (.bool s.last.2) := h2.k21
  have hxd := hxb2.upd hX (by decide) (fun h => h)
  have fin:∀b, b = BP t s c → JV O1 (w2.drew.setCell ⟨xb, 1, none⟩ (.bool b)) 1000 xb #[nI (c:Nat), .bool (BP t s c)] 138 ∧ IW (fun q => q = 1000) O1 w2 O1 (w2.drew.setCell ⟨xb, 1, none⟩ (.bool b)) ∧
    ((w2.drew.setCell ⟨xb, 1, none⟩ (.bool b)).cell? ((nA rb 0).add 0) = some (.int .u64 (t.ig:Int)) ∧ (w2.drew.setCell ⟨xb, 1, none⟩ (.bool b)).cell? ((nA rb 0).add 1) = some (.int .u64 (t.kp:Int)) ∧ (w2.drew.setCell ⟨xb, 1, none⟩ (.bool b)).cell? ((nA rb 20).add 0) = some (nI (s.last.1:Int)) ∧ (w2.drew.setCell ⟨xb, 1, none⟩ (.bool b)).cell? ((nA rb 20).add 1) = some (.bool s.last.2)) := by
   rintro b rfl
   have u1:IW (fun q => q = 1000) O1 w2.drew O1 (w2.drew.setCell ⟨xb, 1, none⟩ (.bool (BP t s c))) := Ka (by decide) hxd.tag rfl
   have u2 := (hX.mono (S' := fun q => q = 1000) (fun _ h => h.elim) (by decide)).trans u1
   have h3 := h2.upd u2 hi hj (by omega) (by omega)
   exact⟨hxd.set 1 _, u2, h3.tab.c0, h3.tab.c1, h3.k20, h3.k21⟩
  have hh:BP t s c = (t.ig.testBit c && (s.last.2 || !(t.kp.testBit s.last.1))) := rfl
  have hkp := ho.kp
  have hig := ho.ig
  refine lP (fun z:I0 => [(0, nP rb), (4, nP xb)]) (fun z:I0 => z) (fun z:I0 => JV O1 z 1000 xb #[nI (c:Nat), .bool (BP t s c)] 138 ∧ IW (fun q => q = 1000) O1 w2 O1 z) ?_ ?_
  ·intro hN
   refine aK (fun W => W.cell? ((nA rb 0).add 0) = some (.int .u64 (t.ig:Int)) ∧ W.cell? ((nA rb 0).add 1) = some (.int .u64 (t.kp:Int)) ∧ W.cell? ((nA rb 20).add 0) = some (nI (s.last.1:Int)) ∧ W.cell? ((nA rb 20).add 1) = some (.bool s.last.2)) 30 rfl (by kernel_rfl) ?_
   refine zin ⟨kt0, kt1, k20, k21⟩ fun zS => ?_
   refine zrm 0 rfl zS rfl ?_
   refine zr 1 rfl zS (fun _ => ak rfl) ?_
   refine zrf 2 rfl zS rfl ?_
   refine zrf 3 rfl zS rfl ?_
   refine zt 4 rfl zS (fun w1 hw1 => RV.ld hw1.1 rfl) ?_
   refine zrm 5 rfl zS rfl ?_
   refine I9 6 (by kernel_rfl) rfl ?_
   refine zc Lx (qB t.ig c _ (by omega) (by omega)) ?_
   rintro _ w3 ⟨rfl, rfl⟩
   refine IM ?_
   refine af (⟨kt0, kt1, k20, k21⟩) ?_
   refine zrm 7 rfl (⟨kt0, kt1, k20, k21⟩) rfl ?_
   cases hb1:t.ig.testBit c with
   |false =>
    obtain⟨f1, f2, f3⟩ := fin false (by rw[hh, hb1]; rfl)
    refine lx (d := 53) rfl (b' := false) (rfl) ?_
    refine zin (⟨kt0, kt1, k20, k21⟩) fun zS => ?_
    refine zte 8 rfl rfl zS ?_
    refine zte 9 rfl rfl zS ?_
    refine zte 10 rfl rfl zS ?_
    refine zte 11 rfl rfl zS ?_
    refine zte 12 rfl rfl zS ?_
    refine zte 13 rfl rfl zS ?_
    refine ztu 14 rfl zS ?_
    refine ztu 15 rfl zS ?_
    refine ztu 16 rfl zS ?_
    refine ztu 17 rfl zS ?_
    refine ztu 18 rfl zS ?_
    refine ztu 19 rfl zS ?_
    refine ztu 20 rfl zS ?_
    refine ztu 21 rfl zS ?_
    refine ztu 22 rfl zS ?_
    refine ztu 23 rfl zS ?_
    refine ztu 24 rfl zS ?_
    refine ztu 25 rfl zS ?_
    refine zte 26 rfl rfl zS ?_
    refine zr 27 rfl zS (fun _ => bL rfl rfl) ?_
    refine zrf 28 rfl zS rfl ?_
    refine I9 29 (by kernel_rfl) rfl ?_
    refine aj (j := 1) hxd rfl (Kq _) rfl rfl rfl rfl ?_
    refine IM ?_
    refine af (f3) ?_
    refine Jd (by kernel_rfl) ?_
    exact gV (hN (_) (⟨f1, f2⟩)) ⟨rfl, rfl, trivial⟩ rfl
   |true =>
    refine lx (d := 53) rfl (b' := true) (rfl) ?_
    refine zin (⟨kt0, kt1, k20, k21⟩) fun zS => ?_
    refine zro 8 rfl zS (fun _ => IR rfl) ?_
    refine zro 9 rfl zS (fun _ => ak rfl) ?_
    refine zro 10 rfl zS (fun _ => RV.fa rfl) ?_
    refine zro 11 rfl zS (fun _ => RV.fa rfl) ?_
    refine zto 12 rfl zS (fun w1 hw1 => RV.ld hw1.2.2.2 rfl) ?_
    refine zro 13 rfl zS (fun _ => IR rfl) ?_
    cases hb2:s.last.2 with
    |true =>
     obtain⟨f1, f2, f3⟩ := fin true (by rw[hh, hb1, hb2]; rfl)
     rw[hb2]at f3 k21
     refine lx (d := 59) rfl (b' := true) (rfl) ?_
     refine zin (⟨kt0, kt1, k20, k21⟩) fun zS => ?_
     refine zte 14 rfl rfl zS ?_
     refine zte 15 rfl rfl zS ?_
     refine zte 16 rfl rfl zS ?_
     refine zte 17 rfl rfl zS ?_
     refine zte 18 rfl rfl zS ?_
     refine zte 19 rfl rfl zS ?_
     refine zte 20 rfl rfl zS ?_
     refine zte 21 rfl rfl zS ?_
     refine zte 22 rfl rfl zS ?_
     refine zte 23 rfl rfl zS ?_
     refine zte 24 rfl rfl zS ?_
     refine zte 25 rfl rfl zS ?_
     refine zro 26 rfl zS (fun _ => bG rfl rfl) ?_
     refine zr 27 rfl zS (fun _ => bG rfl rfl) ?_
     refine zrf 28 rfl zS rfl ?_
     refine I9 29 (by kernel_rfl) rfl ?_
     refine aj (j := 1) hxd rfl (Kq _) rfl rfl rfl rfl ?_
     refine IM ?_
     refine af (f3) ?_
     refine Jd (by kernel_rfl) ?_
     exact gV (hN (_) (⟨f1, f2⟩)) ⟨rfl, rfl, trivial⟩ rfl
    |false =>
     obtain⟨f1, f2, f3⟩ := fin (!(t.kp.testBit s.last.1)) (by rw[hh, hb1, hb2]; rfl)
     rw[hb2]at f3 k21
     refine lx (d := 59) rfl (b' := false) (rfl) ?_
     refine zin (⟨kt0, kt1, k20, k21⟩) fun zS => ?_
     refine zro 14 rfl zS (fun _ => IR rfl) ?_
     refine zro 15 rfl zS (fun _ => ak rfl) ?_
     refine zro 16 rfl zS (fun _ => RV.fa rfl) ?_
     refine zro 17 rfl zS (fun _ => RV.fa rfl) ?_
     refine zto 18 rfl zS (fun w1 hw1 => RV.ld hw1.2.1 rfl) ?_
     refine zro 19 rfl zS (fun _ => IR rfl) ?_
     refine zro 20 rfl zS (fun _ => ak rfl) ?_
     refine zro 21 rfl zS (fun _ => RV.fa rfl) ?_
     refine zro 22 rfl zS (fun _ => RV.fa rfl) ?_
     refine zto 23 rfl zS (fun w1 hw1 => RV.ld hw1.2.2.1 rfl) ?_
     refine I9 24 (by kernel_rfl) rfl ?_
     refine gR rfl ?_
     refine zc Lx (qB t.kp s.last.1 _ (by omega) (by omega)) ?_
     rintro _ w3 ⟨rfl, rfl⟩
     refine IM ?_
     refine zaf (⟨kt0, kt1, k20, k21⟩) fun zS => ?_
     refine zro 25 rfl zS (fun _ => L0 rfl) ?_
     refine zro 26 rfl zS (fun _ => bL rfl rfl) ?_
     refine zr 27 rfl zS (fun _ => bG rfl rfl) ?_
     refine zrf 28 rfl zS rfl ?_
     refine I9 29 (by kernel_rfl) rfl ?_
     refine aj (j := 1) hxd rfl (Kq _) rfl rfl rfl rfl ?_
     refine IM ?_
     refine af (f3) ?_
     refine Jd (by kernel_rfl) ?_
     exact gV (hN (_) (⟨f1, f2⟩)) ⟨rfl, rfl, trivial⟩ rfl
  rintro w3 ⟨hx3, hU3⟩
  refine aq ?_
  obtain⟨hd, hhd⟩:∃hd, hd = BP t s c := ⟨_, rfl⟩
  rw[← hhd]at hx3
  have h3 := h2.upd hU3 hi hj (by omega) (by omega)
  have hR3 := hR2.upd hU3
  refine J9 ?_
  refine IZ ?_
  refine zv (IR rfl) ?_
  refine zv (ah (us := [nI (c:Nat), .bool hd]) hx3.cellsAdd (K8 _) (J1 _) rfl) ?_
  refine zv (ak rfl) ?_
  refine zv (RV.fa rfl) ?_
  refine dr (us := #[nI (c:Nat), .bool hd]) 20 (od t gv lc rc wv {s with last := (c, hd)}).toArray h3.blk (h3.lastE c hd) (by rw[h3.size]; show 22 ≤ 23; omega) (J1 _) rfl rfl rfl rfl ?_
  obtain⟨h4, hU4⟩ := h3.lastS hi hj hij c hd
  have hx4 := hx3.upd hU4 (by decide) (by omega)
  have hU04 := (hU3.mono (S' := fun q => q = i ∨ q = j ∨ q = 1000) (fun _ h => by omega) hz).trans (hU4.mono (fun _ h => by omega) hz)
  have hR4 := hR3.upd hU4
  generalize w3.setRow rb (od t gv lc rc wv {s with last := (c, hd)}).toArray = w4 at *
  refine IM ?_
  refine aq ?_
  have k18:w4.drew.cell? (nA rb 18) = some wv := h4.k18
  refine aK (fun W => ∀k u, [nI (c:Nat), .bool hd][k]? = some u → W.cell? (nA xb k) = some u) 11 rfl (by kernel_rfl) ?_
  refine zin hx4.cellsAdd fun zS => ?_
  refine zrm 0 rfl zS rfl ?_
  refine zrm 1 rfl zS rfl ?_
  refine zr 2 rfl zS (fun _ => ak rfl) ?_
  refine zrf 3 rfl zS rfl ?_
  refine zt 5 rfl zS (fun w1 hw1 => ah (us := [nI (c:Nat), .bool hd]) hw1 (K8 _) (J1 _) rfl) ?_
  refine bN 4 6 elE (enc := Fp) ((c, hd):En) rfl rfl (by kernel_rfl) (by kernel_rfl) (by kernel_rfl) (by kernel_rfl) (fun W hE => RV.load (hE.cell k18) (isAgg136 _) rfl) (fun W hE k u hu => hE.cell (hx4.cellsAdd k u hu)) rfl rfl rfl (by decide) rfl rfl rfl rfl rfl ?_
  intro sv w5 hsv hE5
  have hX5 := aa (S := fun _ => False) (fun h => h) O1 ((I4 w4).drew.trans hE5)
  have h5 := h4.upd hX5 hi hj (fun h => h) (fun h => h)
  have hx5 := hx4.upd hX5 (by decide) (fun h => h)
  have hR5 := hR4.upd hX5
  refine I9 7 (by kernel_rfl) rfl ?_
  refine tm elE h5.win hR5 hsv rfl rfl rfl (by simp[Jb]) (by show(s.wait.length + 1) * 16 ≤ _; omega) (by show s.wait.length + 1 ≤ _; omega) hj rfl ?_
  intro wv6 w6 O6 hwin6 hU6 hR6
  have hx6 := hx5.upd hU6 (by decide) (by omega)
  have h6 := h5.blk.upd hU6 hi hij
  refine IM ?_
  refine zaf (hx6.cellsAdd) fun zS => ?_
  refine zr 8 rfl zS (fun _ => ak rfl) ?_
  refine zrf 9 rfl zS rfl ?_
  refine I9 10 (by kernel_rfl) rfl ?_
  refine aj (j := 18) h6 (h5.at_ 1 rfl) (sizeOf136 _) hwin6.one rfl rfl rfl ?_
  obtain⟨h7, hU7⟩ := h5.store2 hi hj hij hU6 h6 1 wv6 (wv' := wv6) (s' := {s with last := (c, hd), wait := s.wait ++ [(c, hd)]}) rfl hwin6
  have hx7 := hx6.upd hU7 (by decide) (by omega)
  refine IM ?_
  refine af (hx7.cellsAdd) ?_
  refine Jd (by kernel_rfl) ?_
  have e:qg t s c = {s with last := (c, hd), wait := s.wait ++ [(c, hd)]} := by unfold qg; rw[hbg, if_pos rfl, ← hhd]
  have hU27 := ((hU04.trans (hX5.mono (fun _ h => h.elim) hz)).trans (hU6.mono (fun _ h => by omega) hz)).trans (hU7.mono (fun _ h => by omega) hz)
  refine aD rfl (⟨O6, wv6, by rw[e]; exact h7, (hU02.mono (fun _ h => by omega) hz).trans hU27, hR6.upd hU7⟩)
theorem ly{g:Nat}{tab:List Nat}{S:Nat->Prop}{B:Nat}{O O':Nat->Nat}{w w':I0}(h:KZ g tab w)(hg:g<B)(r:Kb B O w)(u:IW S O w O' w'):KZ g tab w':=fun j hj=>by
 have h0:O g=0:=by
  by_cases e:O g=0
  ·exact e
  have:=(r.rng g e).1;omega
 exact gH (u.blk g (by have:=r.le;omega) (by rw[h0];exact u.z)) (h j hj)
abbrev G5:Nat:=1
def DM(t:TabM)(s:RunS)(x:En):Int:=if x.2=true then -1 else cV t s
def passB(t:TabM)(s:RunS)(x:En):Bool:=!x.2&&(decide (cV t s<0)||t.br.testBit (cV t s).toNat)
def Cb(t:TabM)(s:RunS)(x:En)(r:List En):RunS:={s with row:=if x.2=true then s.row else stL t s.row x.1,wait:=r}
theorem yT(t:TabM)(s:RunS)(ho:OkT t)(hs:OkS t s):cV t s = -1\/∃n,n<64/\cV t s=((n:Nat):Int):=by
 have a1:(2^40:Nat)=1099511627776:=zd;have a2:=mQ ho hs;have a0:nth t.lt s.row &&& dV t s.wait<18446744073709551616:=JI KF zo;unfold cV;generalize nth t.lt s.row &&& dV t s.wait=both at *
 split
 ·exact .inl rfl
 rename_i h0;obtain⟨_,hk⟩:=KW 64 both h0 a0;exact .inr ⟨_,hk,rfl⟩
theorem Ca{t:TabM}{s:RunS}{x:En}{r:List En}(ho:OkT t)(hs:OkS t s)(hw:s.wait=x::r):OkS t (Cb t s x r):=by
 have hx:=hs.wait x (by simp[hw]);refine⟨?_,fun y hy=>hs.wait y (by rw[hw];simp[show y∈r from hy]),hs.last,?_⟩
 ·show(if x.2=true then s.row else stL t s.row x.1)<_
  split
  ·exact hs.row
  exact(ho.lN hs.row zo).2
 have:=hs.few;rw[hw]at this;simp only[IJ]at this;show r.length<=_;omega
theorem rX(B:Nat)(O:Nat → Nat)(w:I0)(i j rb:Nat)(t:TabM)(gv:ix)(lc rc:List ix)(wv:ix)(s:RunS)(x:En)(r:List En)(hxr:s.wait = x :: r)(h:RunO O w i j rb t gv lc rc wv s)(hi:i ≠ 0)(hj:j ≠ 0)(hij:i ≠ j)(hi1:i < 1000)(hj1:j < 1000)(ho:OkT t)(hs:OkS t s)(hR:Kb B O w)(hT:kq w)(hg:G5 < B):
  JG IS 64 [nP rb] w fun v w' => v = .tuple #[nI (DM t s x), .bool (passB t s x)] ∧ ∃O' wv', RunO O' w' i j rb t gv lc rc wv' (Cb t s x r) ∧ IW (fun q => q = i ∨ q = j ∨ q = 1000) O w O' w' ∧ Kb B O' w' := by
 have hp40:(2^40:Nat) = 1099511627776 := by decide
 have hz:¬(0 = i ∨ 0 = j ∨ 0 = 1000) := by omega
 have hwl := hs.few
 have hwlen:s.wait.length = r.length + 1 := by rw[hxr]; rfl
 have k18 := h.k18
 have hws := h.win.sl
 obtain⟨c, hd, hcd⟩:∃c hd, x = (c, hd) := ⟨_, _, rfl⟩
 subst hcd
 have hc36:c < 36 := hs.wait (c, hd) (by simp[hxr])
 have hwin := yT t s ho hs
 refine I3 func64 ntmps64 rfl rfl ?_
 refine J9 ?_
 refine IZ ?_
 refine zv (J3 rfl) ?_
 refine zv (J3 rfl) ?_
 refine IM ?_
 refine aq ?_
 refine J9 ?_
 refine IZ ?_
 refine zv (IR rfl) ?_
 refine zv (ak rfl) ?_
 refine zv (RV.fa rfl) ?_
 refine zv (RV.ld k18 rfl) ?_
 refine zv (az hws.sh Kh (J1 _) rfl rfl 0 rfl (by omega)) ?_
 refine zv (ah (us := [nI (c:Nat), .bool hd]) (fun k u hu => hws.cell (i := 0) (by omega) (by rw[hxr, ao]; exact hu)) (K8 _) (J1 _) rfl) ?_
 refine au hR 1000 (by omega) (JT _) rfl ?_
 intro xb w1 O1 hxb1 hU1 hR1 hE1
 refine zsa (us := #[nI (c:Nat), .bool hd]) hxb1 (J1 _) ?_
 have hxb2 := hxb1.setRow (us := #[nI (c:Nat), .bool hd])
 have hU2:IW (fun q => q = 1000) O1 w1 O1 (w1.setRow xb #[nI (c:Nat), .bool hd]) := I6 (by decide) hxb1.tag rfl
 generalize w1.setRow xb #[nI (c:Nat), .bool hd] = w2 at *
 have hU02 := hU1.trans hU2
 have hR2 := hR1.upd hU2
 have h2 := h.upd hU02 hi hj (by omega) (by omega)
 have hT2:kq w2 := ly hT hg hR hU02
 have x1:w2.cell? (nA xb 1) = some (.bool hd) := hxb2.cell 1 rfl
 refine IM ?_
 refine aq ?_
 refine J9 ?_
 refine IZ ?_
 refine zv (J3 rfl) ?_
 refine IM ?_
 refine aq ?_
 refine J9 ?_
 refine J9 ?_
 refine IZ ?_
 refine zv (RV.fa rfl) ?_
 refine zv (RV.ld x1 rfl) ?_
 refine zv (L0 rfl) ?_
 refine IM ?_
 refine aq ?_
 refine lP (fun z:(Nat → Nat)×World×Int => [(0, nP rb), (4, nP xb), (5, nI z.2.2)]) (fun z:(Nat → Nat)×World×Int => z.2.1) (fun z:(Nat → Nat)×World×Int => RunO z.1 z.2.1 i j rb t gv lc rc wv {s with row := if hd = true then s.row else stL t s.row c} ∧ JV z.1 z.2.1 1000 xb #[nI (c:Nat), .bool hd] 138 ∧ IW (fun q => q = i) O1 w2 z.1 z.2.1 ∧ Kb B z.1 z.2.1 ∧ z.2.2 = DM t s (c, hd)) ?_ ?_
 ·intro hN
  by_cases hhd:hd = true
  ·skip
   refine aT rfl ((by rw[hhd]; rfl)) ?_
   refine L7 ?_
   exact gV (hN ((O1, w2, -1)) (⟨by rw[if_pos hhd]; exact h2, hxb2, KS (fun e => hi e.symm) _ _, hR2, by show _ = if hd = true then _ else _; rw[if_pos hhd]⟩)) ⟨rfl, rfl, rfl, trivial⟩ rfl
  ·skip
   refine aS rfl ((by rw[show hd = false from by simpa using hhd]; rfl)) ?_
   refine J9 ?_
   refine IZ ?_
   refine zv (IR rfl) ?_
   refine zc call97 (pP O1 w2 i j rb t gv lc rc wv s h2 hi hj ho hs hT2) ?_
   rintro _ w3 ⟨rfl, hE3⟩
   have hX3 := aa (S := fun _ => False) (fun h => h) O1 hE3
   have h3 := h2.upd hX3 hi hj (fun h => h) (fun h => h)
   have hxb3 := hxb2.upd hX3 (by decide) (fun h => h)
   have hR3 := hR2.upd hX3
   refine zv (J3 rfl) ?_
   refine IM ?_
   refine aq ?_
   have hB := h3.tab
   obtain⟨hg1, hg2⟩ := ho.gN (c := c) (by omega)
   obtain⟨hr1, hr2⟩ := ho.lN hs.row (c := c) (by omega)
   have hgl := ho.gl
   have d4:w3.drew.cell? ((nA rb 0).add 4) = some gv := hB.c4
   have dcl:∀(j:Nat) (u:ix), lc[j]? = some u → w3.drew.cell? (((nA rb 0).add 5).add j) = some u := hB.cl
   have dg:w3.drew.cell? (adr gv 1 c) = some (nI ((grT t c:Nat):Int)) := by have := hB.groups.cell (i := c) (j := 0) (by omega) rfl; rw[ax, hg1]at this; exact this
   have d17:w3.drew.cell? (nA rb 17) = some (nI (s.row:Int)) := h3.k17
   have dx:w3.drew.cell? (nA xb 0) = some (nI (c:Int)) := hxb3.cell 0 rfl
   refine aK (fun W => W.cell? ((nA rb 0).add 4) = some gv ∧ W.cell? (adr gv 1 c) = some (nI ((grT t c:Nat):Int)) ∧ (∀(j:Nat) (u:ix), lc[j]? = some u → W.cell? (((nA rb 0).add 5).add j) = some u) ∧ W.cell? (nA xb 0) = some (nI (c:Int))) 23 rfl (by kernel_rfl) ?_
   refine zin ⟨d4, dg, dcl, dx⟩ fun zS => ?_
   refine zrm 0 rfl zS rfl ?_
   refine zrm 1 rfl zS rfl ?_
   refine zr 2 rfl zS (fun _ => ak rfl) ?_
   refine zrf 3 rfl zS rfl ?_
   refine zrf 4 rfl zS rfl ?_
   refine zt 5 rfl zS (fun w1 hw1 => ah (us := lc) hw1.2.2.1 (JU _) (by rw[h.left.one.1]; exact Jj _) rfl) ?_
   refine zrm 6 rfl zS rfl ?_
   refine zr 7 rfl zS (fun _ => ak rfl) ?_
   refine zrf 8 rfl zS rfl ?_
   refine zrm 10 rfl zS rfl ?_
   refine zr 11 rfl zS (fun _ => ak rfl) ?_
   refine zrf 12 rfl zS rfl ?_
   refine zrf 13 rfl zS rfl ?_
   refine zt 14 rfl zS (fun w1 hw1 => RV.ld hw1.1 rfl) ?_
   refine zrf 15 rfl zS rfl ?_
   refine zt 16 rfl zS (fun w1 hw1 => RV.ld hw1.2.2.2 rfl) ?_
   refine zr 17 rfl zS (fun _ => az hB.groups.sh Kp (K4 _) rfl rfl c rfl (by omega)) ?_
   refine zt 18 rfl zS (fun w1 hw1 => RV.ld hw1.2.1 rfl) ?_
   refine I9 9 (by kernel_rfl) rfl ?_
   refine zv (RV.ld d17 rfl) ?_
   refine IM ?_
   refine af (⟨d4, dg, dcl, dx⟩) ?_
   refine I9 19 (by kernel_rfl) rfl ?_
   refine zc Le (jy lc t.left t.lt s.row (grT t c) w3.drew (hB.left.ext (I4 w3).drew) ho.okl hs.row hg2) ?_
   rintro _ w5 ⟨rfl, hE5⟩
   rw[hr1]
   refine IM ?_
   refine af (⟨hE5.cell d4, hE5.cell dg, fun j u hu => hE5.cell (dcl j u hu), hE5.cell dx⟩) ?_
   have hX5 := aa (S := fun _ => False) (fun h => h) O1 ((I4 w3).drew.trans hE5)
   have h5 := h3.upd hX5 hi hj (fun h => h) (fun h => h)
   have hxb5 := hxb3.upd hX5 (by decide) (fun h => h)
   have hR5 := hR3.upd hX5
   refine zin (⟨hE5.cell d4, hE5.cell dg, fun j u hu => hE5.cell (dcl j u hu), hE5.cell dx⟩) fun zS => ?_
   refine zr 20 rfl zS (fun _ => ak rfl) ?_
   refine zrf 21 rfl zS rfl ?_
   refine I9 22 (by kernel_rfl) rfl ?_
   refine aj (j := 17) h5.blk (h5.at_ 0 rfl) (K4 _) rfl rfl rfl rfl ?_
   obtain⟨h6, hU6⟩ := h5.store hi hj hij 0 (nI ((stL t s.row c:Nat):Int)) (wv' := wv) (s' := {s with row := stL t s.row c}) rfl h5.win
   have hB6 := h6.tab
   have hR6 := hR5.upd hU6
   have hxb6 := hxb5.upd hU6 (by decide) (by omega)
   have hU26 := ((hX3.trans hX5).mono (S' := fun q => q = i) (fun _ h => h.elim) (by omega)).trans hU6
   have q1:(w5.setCell ⟨rb, 17 + 0, none⟩ (nI ((stL t s.row c:Nat):Int))).cell? (adr gv 1 c) = some (nI ((grT t c:Nat):Int)) := by have := hB6.groups.cell (i := c) (j := 0) (by omega) rfl; rw[ax, hg1]at this; exact this
   refine IM ?_
   refine af (⟨hB6.c4, q1, hB6.cl, hxb6.cell 0 rfl⟩) ?_
   refine Jd (by kernel_rfl) ?_
   exact gV (hN ((O1, _, cV t s)) (⟨by rw[if_neg hhd]; exact h6, hxb6, hU26, hR6, by show _ = if hd = true then _ else _; rw[if_neg hhd]⟩)) ⟨rfl, rfl, rfl, trivial⟩ rfl
 rintro⟨O3, w3, k⟩ ⟨h3, hxb3, hU3, hR3, hk⟩
 dsimp only at h3 hxb3 hU3 hR3 hk ⊢
 refine aq ?_
 have hws3 := h3.win.sl
 have d18 := h3.k18
 refine J9 ?_
 refine IZ ?_
 refine zv (IR rfl) ?_
 refine zv (IR rfl) ?_
 refine zv (ak rfl) ?_
 refine zv (RV.fa rfl) ?_
 refine zv (RV.ld d18 rfl) ?_
 refine zv (pN hws3 Kh (J1 _) rfl rfl 1 rfl (by show 1 ≤ s.wait.length; omega)) ?_
 refine zv (ak rfl) ?_
 refine zv (RV.fa rfl) ?_
 have hw4 := h3.win
 have hwt:WinO Fp 138 2 O3 w3 j (dN wv 2 1 s.wait.length) r := by
  rw[hwlen]
  have:WinO Fp 138 2 O3 w3 j wv ((c, hd) :: r) := by rw[← hxr]; exact hw4
  exact this.tail (by decide)
 refine aj (j := 18) h3.blk (h3.at_ 1 rfl) (sizeOf136 _) hwt.one rfl rfl rfl ?_
 obtain⟨h4, hU4⟩ := h3.store hi hj hij 1 (dN wv 2 1 s.wait.length) (wv' := dN wv 2 1 s.wait.length) (s' := Cb t s (c, hd) r) rfl hwt
 have hxb4 := hxb3.upd hU4 (by decide) (by omega)
 have hR4 := hR3.upd hU4
 generalize w3.setCell ⟨rb, 17 + 1, none⟩ (dN wv 2 1 s.wait.length) = w4 at *
 have hU04 := (hU02.mono (S' := fun q => q = i ∨ q = j ∨ q = 1000) (fun _ h => by omega) hz).trans ((hU3.trans hU4).mono (fun _ h => by omega) hz)
 have x41:w4.cell? (nA xb 1) = some (.bool hd) := hxb4.cell 1 rfl
 refine IM ?_
 refine aq ?_
 refine J9 ?_
 refine IZ ?_
 refine zv (IR rfl) ?_
 refine zv (RV.fa rfl) ?_
 refine zv (RV.ld x41 rfl) ?_
 refine zv (L0 rfl) ?_
 refine zv (IR rfl) ?_
 cases hhd:hd with
 |true =>
  refine aw (d := 51) rfl (b' := false) (rfl) ?_
  refine Jz rfl rfl rfl ?_
  refine Jz rfl rfl rfl ?_
  refine Jz rfl rfl rfl ?_
  refine fZ rfl rfl ?_
  refine fZ rfl rfl ?_
  refine fZ rfl rfl ?_
  refine fZ rfl rfl ?_
  refine fZ rfl rfl ?_
  refine fZ rfl rfl ?_
  refine fZ rfl rfl ?_
  refine Jz rfl rfl rfl ?_
  refine zv (bL rfl rfl) ?_
  refine zv (J3 rfl) ?_
  refine zv (J3 rfl) ?_
  refine IM ?_
  refine aq ?_
  refine KX ?_
  refine bH rfl rfl rfl (⟨by rw[hk, hhd]; rfl, O3, _, by rw[← hhd]; exact h4, hU04, hR4⟩)
 |false =>
  have hbr := ho.br
  subst hhd
  replace hk:k = cV t s := hk
  have hPB:passB t s (c, false) = (decide (cV t s < 0) || t.br.testBit (cV t s).toNat) := rfl
  have hPK:DM t s (c, false) = cV t s := rfl
  rw[hPB, hPK, ← hk]
  rw[← hk]at hwin
  refine aw (d := 51) rfl (b' := true) (rfl) ?_
  refine gR rfl ?_
  refine zv (IR rfl) ?_
  refine gR rfl ?_
  refine zv (RV.lss rfl rfl) ?_
  refine gR rfl ?_
  refine zv (IR rfl) ?_
  rcases hwin with hk1 | ⟨n, hn, hk1⟩
  ·skip
   refine aw (d := 54) rfl (b' := true) ((by rw[hk1]; rfl)) ?_
   refine Jz rfl rfl rfl ?_
   refine Jz rfl rfl rfl ?_
   refine Jz rfl rfl rfl ?_
   refine Jz rfl rfl rfl ?_
   refine Jz rfl rfl rfl ?_
   refine Jz rfl rfl rfl ?_
   refine Jz rfl rfl rfl ?_
   refine gR rfl ?_
   refine zv (bG rfl rfl) ?_
   refine zv (bG rfl rfl) ?_
   refine zv (J3 rfl) ?_
   refine zv (J3 rfl) ?_
   refine IM ?_
   refine aq ?_
   refine KX ?_
   refine bH rfl rfl rfl (⟨by rw[hk1]; rfl, O3, _, h4, hU04, hR4⟩)
  ·have hd0:decide (k < 0) = false := decide_eq_false (by omega)
   rw[hd0, hk1]
   refine aw (d := 54) rfl (b' := false) (rfl) ?_
   have b2:w4.cell? ((nA rb 0).add 2) = some (.int .u64 (t.br:Int)) := h4.tab.c2
   refine gR rfl ?_
   refine zv (IR rfl) ?_
   refine gR rfl ?_
   refine zv (ak rfl) ?_
   refine gR rfl ?_
   refine zv (RV.fa rfl) ?_
   refine gR rfl ?_
   refine zv (RV.fa rfl) ?_
   refine gR rfl ?_
   refine zv (RV.ld b2 rfl) ?_
   refine gR rfl ?_
   refine zv (IR rfl) ?_
   refine gR rfl ?_
   refine zc Lx (qB t.br n _ (by omega) hn) ?_
   rintro _ w5 ⟨rfl, rfl⟩
   refine gR rfl ?_
   refine zv (bL rfl rfl) ?_
   refine zv (bG rfl rfl) ?_
   refine zv (J3 rfl) ?_
   refine zv (J3 rfl) ?_
   refine IM ?_
   refine aq ?_
   refine KX ?_
   refine bH rfl rfl rfl (⟨rfl, O3, _, h4, hU04, hR4⟩)
abbrev sS(b:Bool):List ix:=[.bool b]
theorem Gs:LC IS 38 4 1 1:=⟨underlying38,by kernel_rfl,zd⟩
abbrev qb(row:Nat)(l:List En):RunS:=⟨row,l,true,(0,false),true⟩
def stepL(t:TabM)(row:Nat)(x:En):Nat:=if x.2=true then row else stL t row x.1
def closeL(t:TabM):List En->Nat->List Bool
 |[],_=>[]
 |x::r,row=>passB t (qb row (x::r)) x::closeL t r (stepL t row x)
theorem Cc(t:TabM)(s:RunS)(x:En):passB t s x=passB t (qb s.row s.wait) x:=rfl
theorem fx(t:TabM):∀(l:List En) (row:Nat),(closeL t l row).length=l.length
 |[],_=>rfl
 |x::r,row=>by rw[closeL,IJ,fx t r,IJ]
theorem qI(B:Nat)(O:Nat->Nat)(w:I0)(i j m rb:Nat)(t:TabM)(gv:ix)(lc rc:List ix)(wv:ix)(s:RunS)(h:RunO O w i j rb t gv lc rc wv s)(hi:i≠0)(hj:j≠0)(b3:i≠j)(c9:i<1000)(c7:j<1000)(hm:m≠0)(d5:m<1000)(c8:i≠m)(c6:j≠m) 
  (ho:OkT t) (hs:OkS t s) (d0:s.closed=false) (hR:Kb B O w) (hT:kq w) (hg:G5<B) :
  JG IS 33 [nP rb] w fun v w'=>∃O' wv' s',RunO O' w' i j rb t gv lc rc wv' s'/\OkS t s'/\s'.wait=[]/\s'.closed=true/\KT sS 4 1 O' w' m v (closeL t s.wait s.row)/\IW (fun q=>q=i\/q=j\/q=m\/q=1000) O w O' w'/\Kb B O' w':=by
 have hz:¬(0=i\/0=j\/0=m\/0=1000):=zo;have d4:=hs.few;have k22:=h.k22;rw[d0]at k22;obtain⟨R,b7⟩:∃R,R=closeL t s.wait s.row:=⟨_,rfl⟩
 rw[<-b7];refine I3 func33 ntmps33 rfl rfl ?_;refine zh ?_;refine zvH (ed (q:=some ⟨rb,0,none⟩) Ll rfl rfl) ?_;refine aw (d:=8) rfl (b':=false) (rfl) ?_;refine zh ?_;refine zFH rfl rfl ?_;refine aj (j:=22) h.blk (h.at_ 5 rfl) (Kq _) rfl rfl rfl rfl ?_;obtain⟨h1,b6⟩:=h.store hi hj b3 5 (.bool true) (wv':=wv) (s':={s with closed:=true}) rfl h.win;have d3:=hR.upd b6;generalize w.setCell ⟨rb,17+5,none⟩ (.bool true)=w1 at *;refine zh ?_;refine zlp (fun z:(Nat->Nat)×World×ix×RunS×ix×List Bool=>[(0,nP rb),(3,z.2.2.2.2.1)]) (fun z=>z.2.1) (fun z=>RunO z.1 z.2.1 i j rb t gv lc rc z.2.2.1 z.2.2.2.1/\OkS t z.2.2.2.1/\z.2.2.2.1.closed=true/\KT sS 4 1 z.1 z.2.1 m z.2.2.2.2.1 z.2.2.2.2.2/\IW (fun q=>q=i\/q=j\/q=m\/q=1000) O w z.1 z.2.1/\Kb B z.1 z.2.1/\z.2.2.2.2.2++closeL t z.2.2.2.1.wait z.2.2.2.1.row=R/\z.2.2.2.2.2.length+z.2.2.2.1.wait.length<=1000000) (fun z=>z.2.2.2.1.wait.length) (O,w1,wv,{s with closed:=true},nS,[]) (⟨h1,⟨hs.row,hs.wait,hs.last,hs.few⟩,rfl,KJ _ _ _ _ _ _,b6.mono (fun _ h=>zo) hz,d3,by rw[b7];rfl,by show 0+s.wait.length<=_;omega⟩) ?_;rintro⟨O2,w2,b0,s2,ov,l⟩ ⟨h2,a2,a9,a6,a3,a',a1,a8⟩;dsimp only at h2 a2 a9 a6 a3 a' a1 a8 ⊢;have c5:=h2.win.sl;have d6:=h2.k18;refine zh ?_;refine zC ?_ ?_
 ·intro a7;replace a7:0<s2.wait.length:=dT a7;obtain⟨x,r,a0⟩:=List.exists_cons_of_ne_nil (Kj.1 a7);have b1:s2.wait.length=r.length+1:=by rw[a0];rfl
  rw[a0,closeL]at a1;refine zh ?_;refine zc call64 (rX B O2 w2 i j rb t gv lc rc b0 s2 x r a0 h2 hi hj b3 c9 c7 ho a2 a' (ly hT hg hR a3) hg) ?_;rintro _ w3 ⟨rfl,O3,b8,h3,b5,d2⟩;have a5:=a6.upd b5 hm zo;refine zh ?_;refine Lz Gs a5 d2 (passB t s2 x) (fun _=>rfl) rfl rfl rfl (by simp[Jb]) zo zo zo zd rfl rfl ?_;intro b9 w4 O4 a4 b4 d1;have h4:=h3.upd b4 hi hj c8 c6;refine zh ?_;refine zx (O4,w4,b8,Cb t s2 x r,b9,l++[passB t s2 x]) (⟨h4,Ca ho a2 a0,a9,a4,(a3.trans (b5.mono (fun _ h=>zo) hz)).trans (b4.mono (fun _ h=>zo) hz),d1,by rw[IQ,<-a1,Cc,a0];rfl,by rw[I7];show l.length+1+r.length<=_;omega⟩) (by show r.length<_;omega)
 intro c';have b2:s2.wait=[]:=I5 (by have:=of_decide_eq_false c';omega);rw[b2,closeL,I8]at a1;subst a1;refine zh ?_;refine ae rfl rfl (⟨O2,b0,s2,h2,a2,b2,a9,a6,a3,a'⟩)
end Go.Proofs.YteolbhblkgjbhaaGreatDoor
section
namespace Go.VL
theorem yR:∀(l:List ix) (k:Nat) (cells:Array ix),k+l.length<=cells.size->(l.zipIdx k).foldl (fun(cs:Array ix) (q:ix×Nat)=>cs.setIfInBounds (0+q.2) q.1) cells=(cells.toList.take k++l++cells.toList.drop (k+l.length)).toArray
 |[],k,cells,_=>by simp
 |c::l,k,cells,h=>by
  simp only[IJ]at h;rw[List.zipIdx_cons,KG,yR l (k+1) _ (by simp;omega)];congr 1;simp only[JO,Array.toList_setIfInBounds,IJ];rw[List.drop_set_of_lt zo,List.take_succ_eq_append_getElem (by simp;omega),List.take_set_of_le (IV _)];simp[K2,Nat.add_comm 1]
theorem A6(pl:Array (Nat×Nat))(us cells:Array ix)(hp:pl[0]? = some (0,us.size))(hs:us.size<=cells.size):L6 (pl[·]?) cells [(0,.agg us)]=some (us.toList++cells.toList.drop us.size).toArray:=by
 have hc:(Value.agg us).cells=us:=rfl;have a0:¬(us.size≠us.size\/0+us.size>cells.size):=zo;simp only[L6,hp,hc];rw[if_neg (by simp;omega)];have:=yR us.toList 0 cells (by simpa using hs);rw[<-Array.foldl_toList,Array.toList_zipIdx];simpa using this
end Go.VL
namespace Go.Proofs.YteolbhblkgjbhaaGreatDoor
open Go.VL Go.Proofs
set_option maxRecDepth 10000
theorem GL:cF IS 140 #[(0,17),(17,1),(18,1),(19,1),(20,2),(22,1)]:=⟨_,underlying140,fun w=>by kernel_rfl⟩
def mP(t:TabM):RunS:=⟨stL t 0 36,[],false,(0,false),false⟩
theorem DF{t:TabM}(ho:OkT t):OkS t (mP t):=⟨(ho.lN ho.lp zd).2,fun x hx=>(by cases hx),(by show 0<36;decide),(by show 0<=1000000;decide)⟩
theorem tR(B:Nat)(O:Nat->Nat)(w:I0)(i j:Nat)(t:TabM)(gv:ix)(lc rc:List ix)(d5:JF w gv t.groups)(c9:PartV w lc t.left t.lt)(c8:PartV w rc t.right t.rt)(d7:FreeL O w (gv::(lc++rc)))(hi:i≠0)(hj:j≠0)(d3:i≠j)(e2:i<1000)(ho:OkT t)(d1:ia t=true)(hR:Kb B O w):
  JG IS 31 [.agg (eJ t.ig t.kp t.br t.rules gv lc rc).toArray] w fun v w'=>∃O' rb,v=nP rb/\RunO O' w' i j rb t gv lc rc (nS) (mP t)/\IW (fun q=>q=i\/q=1000) O w O' w'/\Kb B O' w':=by
 have hz:¬(0=i\/0=1000):=zo;obtain⟨ll,lo⟩:=c9.one;obtain⟨rl,ro⟩:=c8.one;have a0:(eJ t.ig t.kp t.br t.rules gv lc rc).length=17:=by simp[ll,rl]
 refine I3 func31 ntmps31 rfl rfl ?_;refine zh ?_
 refine aH hR 1000 zo rfl rfl ?_;intro db w1 O1 a8 d0 e0 c5;have b5:=d7.upd d0;have a5:=d5.ext c5;have a4:=c9.ext c5;have a3:=c8.ext c5;refine zh ?_
 refine zv (ah (us:=eJ t.ig t.kp t.br t.rules gv lc rc) a8.cellsAdd (JK _) (by rw[a0];exact J4 _) rfl) ?_;refine zc call10 (rq t _ w1 ⟨gv,lc,rc,rfl,a5,a4,a3⟩) ?_
 rintro _ w2 ⟨rfl,b1⟩;have b0:=aa (S:=fun _=>False) (fun h=>h) O1 b1;have a7:=a8.upd b0 zd (fun h=>h);have b4:=b5.upd b0;have d':=e0.upd b0;rw[d1];refine zh ?_;refine zFH rfl rfl ?_;refine zv (ah (us:=eJ t.ig t.kp t.br t.rules gv lc rc) a7.cellsAdd (JK _) (by rw[a0];exact J4 _) rfl) ?_;refine zv (Jw (cells:=(od t gv lc rc (nS) ⟨0,[],false,(0,false),false⟩).toArray) GL (zeroValue140 _) rfl (by rw[A6 _ _ _ (by rw[JL,a0];rfl) (by rw[JL,a0];decide),JL,a0];rfl)) ?_;refine aH d' i zo rfl rfl ?_;intro rb w3 O3 b2 b9 d9 b';have b3:=b4.upd b9;have h3:RunO O3 w3 i j rb t gv lc rc (nS) ⟨0,[],false,(0,false),false⟩:=⟨b2,WinO.nil _ _ _ _ _ _,a5.ext (b1.trans b'),a4.ext (b1.trans b'),a3.ext (b1.trans b'),b3⟩
 have a6:=a7.upd b9 zd zo;have a9:=vj (t:=t) a6 h3.groups h3.left h3.right;refine zh ?_;obtain⟨c',d6⟩:=ho.gN (c:=36) zd;obtain⟨d2,e1⟩:=ho.lN ho.lp (c:=36) zd;have e3:=ho.gl;have d4:w3.drew.cell? (nA db 4)=some gv:=a9.c4;have c7:∀(j:Nat) (u:ix),lc[j]? = some u->w3.drew.cell? ((nA db 5).add j)=some u:=a9.cl;have dg:w3.drew.cell? (adr gv 1 36)=some (nI ((grT t 36:Nat):Int)):=by have:=a9.groups.cell (i:=36) (j:=0) zo rfl;rw[ax,c']at this;exact this
 refine aK (fun W=>W.cell? (nA db 4)=some gv/\W.cell? (adr gv 1 36)=some (nI ((grT t 36:Nat):Int))/\(∀(j:Nat) (u:ix),lc[j]? = some u->W.cell? ((nA db 5).add j)=some u)) 11 rfl zk ?_;refine zin ⟨d4,dg,c7⟩ fun zS=>?_
 refine zrm 0 rfl zS rfl ?_;refine zrf 1 rfl zS rfl ?_
 refine zt 2 rfl zS (fun w1 a2=>ah (us:=lc) a2.2.2 (JU _) (by rw[ll];exact Jj _) rfl) ?_;refine zrf 3 rfl zS rfl ?_
 refine zt 4 rfl zS (fun w1 a2=>RV.ld a2.1 rfl) ?_;refine zr 5 rfl zS (fun _=>az a9.groups.sh Kp (K4 _) rfl rfl 36 rfl zo) ?_
 refine zt 6 rfl zS (fun w1 a2=>RV.ld a2.2.1 rfl) ?_;refine I9 7 zk rfl ?_
 refine zc Le (jy lc t.left t.lt 0 (grT t 36) w3.drew (a9.left.ext (I4 w3).drew) ho.okl ho.lp d6) ?_;rintro _ w5 ⟨rfl,a1⟩;rw[d2];refine zh ?_
 refine af (⟨a1.cell d4,a1.cell dg,fun j u hu=>a1.cell (c7 j u hu)⟩) ?_;have a':=aa (S:=fun _=>False) (fun h=>h) O3 ((I4 w3).drew.trans a1);have h5:=h3.upd a' hi hj (fun h=>h) (fun h=>h);have b7:=a6.upd a' zd (fun h=>h);have d8:=d9.upd a';refine zin (⟨a1.cell d4,a1.cell dg,fun j u hu=>a1.cell (c7 j u hu)⟩) fun zS=>?_
 refine zr 8 rfl zS (fun _=>ak rfl) ?_;refine zrf 9 rfl zS rfl ?_
 refine I9 10 zk rfl ?_;refine aj (j:=17) h5.blk (h5.at_ 0 rfl) (K4 _) rfl rfl rfl rfl ?_
 obtain⟨h6,b8⟩:=h5.store hi hj d3 0 (nI ((stL t 0 36:Nat):Int)) (wv':=nS) (s':=mP t) rfl h5.win;have b6:=b7.upd b8 zd zo;have c6:=vj (t:=t) b6 h6.groups h6.left h6.right;have q1:(w5.setCell ⟨rb,17+0,none⟩ (nI ((stL t 0 36:Nat):Int))).cell? (adr gv 1 36)=some (nI ((grT t 36:Nat):Int)):=by have:=c6.groups.cell (i:=36) (j:=0) zo rfl;rw[ax,c']at this;exact this
 refine zh ?_;refine af (⟨c6.c4,q1,c6.cl⟩) ?_
 refine Jd zk ?_;refine zh ?_
 refine ae rfl rfl (⟨O3,rb,rfl,h6,(((d0.mono (fun _ h=>zo) hz).trans (b0.mono (fun _ h=>h.elim) hz)).trans (b9.mono (fun _ h=>zo) hz)).trans ((a'.mono (fun _ h=>h.elim) hz).trans (b8.mono (fun _ h=>zo) hz)),d8.upd b8⟩)
end Go.Proofs.YteolbhblkgjbhaaGreatDoor
end
section
namespace Go.VL
open Go.Proofs
section
variable{P:Kr}{N:Nat}{ops:Array Lp}{Q:Exit→Act→I0→Prop}{rest:List Lp}{st:St}{w:I0}
variable{t:Je}{p:String}{e:Array Edge}{d:Nat}{x:L1}
theorem Bt{T E:Je}{sz a0:Nat}(he:LC P T E sz a0){α:Type}{enc:α->List ix}(u:α){B:Nat}{O:Nat->Nat}(r:Kb B O w)(i:Nat)(a6:i≠0){xv:ix}(hx:ev st x=some xv)(a2:xv.cells.toList=enc u)(a3:(enc u).length=sz)(hs:sz<=16777216)(hd:Lv d N=true) 
  (h:∀v w' O',KT enc E sz O' w' i v [u]->IW (fun k=>k=i) O w O' w'->Kb B O' w'->WL P N ops Q rest ((d,v)::st) w'):WL P N ops Q (⟨some d,.buildSlice T 1 #[(0,x)],t,p,e,none⟩::rest) st w:=by
 obtain⟨a4,z,hi,hz,a1,a9,a8⟩:=he.parts;have a7:xv.cells.size=sz:=by rw[<-a3,<-a2];simp
 have a5:=he.pos;have u1:=Upd.alloc (S:=fun k=>k=i) (fun e=>a6 e.symm) r (.cells xv.cells E) i;refine WL.val (v:=.slice (some ⟨w.heap.size,0,none⟩) 1 1) (w':=w.alloc (.cells xv.cells E)) hd (fun a ha=>?_) (h _ _ (kN O w.heap.size i) ⟨⟨?_,fun g hg=>?_⟩,fun c hc=>by rw[ln.1 hc];exact a3⟩ u1 (r.upd u1))
 ·have:=run_buildSlice (P:=P) w T E 1 #[(0,xv)] xv.cells a4 z he.ht hi hz (by rw[a1];omega) (by rw[a1];omega) (by
   rw[a1]
   exact jZ a7 (by simp))
  simp only[execOp,Kx,KV,L2,ha.ev hx,L4,this,Ki];rfl
 ·have:=World.ownsRow_lit (base:=0) (size:=sz) (e:=E) w xv.cells 1 (IG _) (by simp[maxLen]) zo;simpa[a2]using this
 simp[KD]at hg;subst hg;exact dS _ _ _
end
end Go.VL
namespace Go.Proofs.YteolbhblkgjbhaaGreatDoor
open Go.VL Go.Proofs
set_option maxRecDepth 10000
def bF(t:TabM)(s:RunS)(a0:List Int):RunS:=a0.foldl (fun s id=>qg t s (aG id)) s
theorem rV{t:TabM}{s:RunS}{a0:List Int}{k:Nat}(h:k<a0.length):bF t s (a0.take (k+1))=qg t (bF t s (a0.take k)) (aG (nth a0 k)):=by
 unfold bF;rw[aM h,Jo];rfl
theorem Aa(t:TabM)(s:RunS)(c:Nat):(qg t s c).wait.length<=s.wait.length+1/\(qg t s c).closed=s.closed:=by
 unfold qg
 split<;>simp
def eW(t:TabM)(a0:List Int):List Bool:=true::closeL t (bF t (mP t) a0).wait (bF t (mP t) a0).row++if 0<a0.length then [true]else []
theorem PartV.free0{w:I0}{cs:List ix}{p:KU}{tl:List Nat}(h:PartV w cs p tl):FreeL (fun _=>0) w cs:=fun v hv=>by
 obtain⟨uv,bv,kv,nv,tv,rfl,h1,h2,h3,h4,h5⟩:=h;simp only[I2,IE,or_false]at hv
 rcases hv with rfl|rfl|rfl|rfl|rfl|rfl
 ·exact fun a n c e=>by cases e
 ·exact h1.free0 (fun x=>by simp)
 ·exact h2.free0 (fun x=>by simp)
 ·exact h3.free0 (fun x=>by simp)
 ·exact h4.free0 (fun x=>by simp)
 exact h5.free0 (fun x=>by simp)
theorem Bg{w:I0}(h:kq w):G5<w.heap.size:=by
 have:=h 0 zd;refine JP fun hn=>?_
 simp[World.cell?,Array.getElem?_eq_none (show w.heap.size<=1 from Nat.le_of_not_lt hn)]at this
theorem zp{w:I0}{t:TabM}{gv:ix}{lc rc:List ix}(a2:JF w gv t.groups)(a1:PartV w lc t.left t.lt)(a0:PartV w rc t.right t.rt):FreeL (fun _=>0) w (gv::(lc++rc)):=fun v hv=>by
 rcases I2.1 hv with rfl|hv
 ·exact a2.free0 (fun x=>by simp)
 rcases IT.1 hv with hv|hv
 ·exact a1.free0 v hv
 exact a0.free0 v hv
theorem iN(w:I0)(t:TabM)(gv:ix)(lc rc:List ix)(d3:JF w gv t.groups)(b5:PartV w lc t.left t.lt)(b0:PartV w rc t.right t.rt)(ho:OkT t)(d6:ia t=true)(hT:kq w)(a0:List Int)(dv:ix)(hd:JF w dv a0)(hn:a0.length<=100000):
  JG IS 11 [.agg (eJ t.ig t.kp t.br t.rules gv lc rc).toArray,dv] w fun v w'=>Sl sS 1 w' v (eW t a0)/\Ji w w':=by
 have hz:¬(0=1\/0=2\/0=3\/0=4\/0=1000):=zo;obtain⟨ll,lo⟩:=b5.one;obtain⟨rl,ro⟩:=b0.one;have b4:(eJ t.ig t.kp t.br t.rules gv lc rc).length=17:=by simp[ll,rl]
 have hg:=Bg hT;have b6:Ls (fun _=>0) w dv:=hd.free0 (fun x=>by simp);refine I3 func11 ntmps11 rfl rfl ?_;refine zh ?_;refine aH (ay w) 1000 zo rfl rfl ?_;intro db w1 O1 b7 d5 e6 c7;refine zh ?_;refine zv (ah (us:=eJ t.ig t.kp t.br t.rules gv lc rc) b7.cellsAdd (JK _) (by rw[b4];exact J4 _) rfl) ?_;refine zc call31 (tR w.heap.size O1 w1 1 2 t gv lc rc (d3.ext c7) (b5.ext c7) (b0.ext c7) ((zp d3 b5 b0).upd d5) zd zd zd zd ho d6 e6) ?_;rintro _ w2 ⟨O2,rb,rfl,h2,e2,e5⟩;have b':IW (fun q=>q=1\/q=2\/q=3\/q=4\/q=1000) (fun _=>0) w O2 w2:=(d5.mono (fun _ h=>zo) hz).trans (e2.mono (fun _ h=>zo) hz);refine zh ?_;refine zvH (ed (q:=some ⟨rb,0,none⟩) Ll rfl rfl) ?_;refine zFH rfl rfl ?_;refine Bt Gs (enc:=sS) true e5 3 zd rfl rfl rfl zd rfl ?_;intro c' w3 O3 b3 d4 e4;have h3:=h2.upd d4 zd zd zd zd;have a8:=b'.trans (d4.mono (fun _ h=>zo) hz);have f3:=hd.upd b6 a8;refine zh ?_
 refine zlp (fun z:Nat×(Nat->Nat)×World×ix=>[(1,dv),(5,nP rb),(6,c'),(14,dv),(15,nI a0.length),(16,nI z.1)]) (fun z=>z.2.2.1) (fun z=>z.1<=a0.length/\RunO z.2.1 z.2.2.1 1 2 rb t gv lc rc z.2.2.2 (bF t (mP t) (a0.take z.1))/\OkS t (bF t (mP t) (a0.take z.1))/\(bF t (mP t) (a0.take z.1)).closed=false/\(bF t (mP t) (a0.take z.1)).wait.length<=z.1/\KT sS 4 1 z.2.1 z.2.2.1 3 c' [true]/\IW (fun q=>q=1\/q=2\/q=3\/q=4\/q=1000) (fun _=>0) w z.2.1 z.2.2.1/\Kb w.heap.size z.2.1 z.2.2.1) (fun z=>a0.length-z.1) (0,O3,w3,nS) (⟨IG _,h3,DF ho,rfl,IG _,b3,a8,e4⟩) ?_;rintro⟨k,O4,w4,c9⟩ ⟨hk,h4,a3,a9,d2,a1,a7,c6⟩;dsimp only at hk h4 a3 a9 d2 a1 a7 c6 ⊢;have d9:=hd.upd b6 a7;refine zh ?_
 refine zC ?_ ?_
 ·intro a5;replace a5:k<a0.length:=dT a5;have d1:w4.cell? (adr dv 1 k)=some (nI (nth a0 k)):=by have:=d9.cell (i:=k) (j:=0) a5 rfl;rwa[ax]at this
  refine zh ?_;refine zc call32 (tX w.heap.size O4 w4 1 2 rb t gv lc rc c9 _ h4 zd zd zd zd zd ho a3 zo c6 (nth a0 k)) ?_
  rintro _ w5 ⟨O5,c8,h5,a6,c5⟩;obtain⟨p1,p2⟩:=Aa t (bF t (mP t) (a0.take k)) (aG (nth a0 k));have a':=DJ (c:=aG (nth a0 k)) ho a3 (fy _) zo;rw[<-rV a5]at h5 p1 p2 a';refine zh ?_;refine zxd (k+1,O5,w5,c8) (⟨a5,h5,a',by dsimp only;rw[p2];exact a9,by dsimp only;omega,a1.upd a6 zd zd,a7.trans (a6.mono (fun _ h=>zo) hz),c5⟩)
 intro d8;obtain rfl:k=a0.length:=dF d8;rw[Ju]at h4 a3 a9 d2;have d':eW t a0=true::closeL t (bF t (mP t) a0).wait (bF t (mP t) a0).row++if 0<a0.length then [true]else []:=rfl
 rw[d'];refine zh ?_;refine zc call33 (qI w.heap.size O4 w4 1 2 4 rb t gv lc rc c9 _ h4 zd zd zd zd zd zd zd zd zd ho a3 a9 c6 (ly hT hg (ay w) a7) hg) ?_;rintro cv w5 ⟨O5,c8,s5,h5,a',_,_,b8,a6,c5⟩;have d7:=fx t (bF t (mP t) a0).wait (bF t (mP t) a0).row;have b2:=a1.upd a6 zd zd;have b9:=a7.trans (a6.mono (fun _ h=>zo) hz);generalize closeL t (bF t (mP t) a0).wait (bF t (mP t) a0).row=L at *;refine dR Gs b2 c5 b8.sl rfl rfl (fun _ _=>rfl) (fun u _ c hc=>by rw[ln.1 hc];rfl) (by show(1+L.length)*1<=_;omega) (by show 1+L.length<=_;omega) zd rfl ?_;intro e8 w6 O6 a4 e1 e3;have a2:=b9.trans (e1.mono (fun _ h=>zo) hz);have e':=hd.upd b6 a2;refine zh ?_
 by_cases d0:0<a0.length
 ·rw[if_pos d0];have e9:([true]++L).length=1+L.length:=by rw[I7];rfl
  refine zTH rfl ((decide_eq_true zo)) ?_;refine Lz Gs a4 e3 (true) (fun _=>rfl) rfl rfl rfl (by simp[Jb]) zo zo zo zd rfl rfl ?_
  intro e7 w7 O7 b1 e0 f4;refine zh ?_;refine ae rfl rfl (⟨b1.sl,(a2.trans (e0.mono (fun _ h=>zo) hz)).ext⟩)
 rw[if_neg d0];refine zFH rfl ((decide_eq_false zo)) ?_;refine ae rfl rfl (⟨by rw[I8];exact a4.sl,a2.ext⟩)
end Go.Proofs.YteolbhblkgjbhaaGreatDoor
end
namespace Go.Proofs.YteolbhblkgjbhaaGreatDoor
theorem qL(ts:List R3):∀i,gJ ts i<2^i
 |0=>by unfold gJ;decide
 |i+1=>by
  have h1:gJ ts i<2^(i+1):=JH (qL ts i) (JE zd (Nat.le_succ i));unfold gJ
  split
  ·exact J0 h1 (J2 zd (Nat.lt_succ_self i))
  exact h1
theorem BT{g:Gr}{n:Nat}(he:∀k,g.en k<=n)(s:List Int):cX g s<2^n:=by
 have a0:∀(s:List Int) (b:Nat),b<2^n->s.foldl (fun b p=>b ||| iV g p.toNat) b<2^n:=fun s=>by
  induction s with
  |nil=>exact fun b hb=>hb
  |cons p s ih=>exact fun b hb=>ih _ (J0 hb (jx he _ 0 (KK n)))
 exact a0 s 0 (KK n)
theorem rD{se:Bool}{ts:List Nd}{d:List (List Nat)×List Nat}(h:stM se ts=some d):∀q∈d.2,q<2^ts.length:=fun q hq=>by
 unfold stM at h
 split at h
 ·obtain⟨S,hS⟩:=nu h;obtain⟨j,hj,rfl⟩:=cn hq;rw[hS.tel j (by rw[<-hS.tl];exact hj)];exact BT (Ah ts) _
 cases h
theorem mY{rows:List (List Nat)}{a0:List Nat}(hr:IU rows a0)(cl:Nat->Nat){n:Nat}(h:∀q∈a0,q<2^n):∀q∈(aP cl rows a0).2,q<2^n:=fun q hq=>by
 obtain⟨F,hF⟩:=fS (cl:=cl) (tl:=nth a0) hr.nx (rows.length+1) 0 [0] [] [] (mD hr.pos) zo;obtain⟨j,hj,rfl⟩:=cn hq;have a1:j<F.length:=by have:=hF.tln;change j<(fo _ _ _ _ _ _ _ _).2.length at hj;omega
 have ht:nth (aP cl rows a0).2 j=nth a0 (nth F j):=hF.tel j a1;rw[ht];have:=hF.reps.lt _ (aJ a1);exact h _ (aJ (by rw[hr.tl];exact this))
theorem Dp{a b:Nat}(ha:a<65536)(hb:b<65536)(h1:J8 (a / 256)=J8 (b / 256))(h2:J8 (a % 256)=J8 (b % 256)):a=b:=by
 have e1:=congrArg KY h1;have e2:=congrArg KY h2;simp only[UInt8.toNat_ofNat']at e1 e2;omega
theorem uT{i j:Nat}:∀(rows:List (List Nat)),(∀r∈rows,nth r i<65536/\nth r j<65536)->pz rows i=pz rows j->∀r∈rows,nth r i=nth r j
 |[],_,_=>fun r hr=>by cases hr
 |a::l,h,he=>by
  have e:[J8 (nth a i / 256),J8 (nth a i % 256)]++pz l i=[J8 (nth a j / 256),J8 (nth a j % 256)]++pz l j:=he;simp only[KA,JS,Lq]at e;obtain⟨e1,e2,e3⟩:=e;have ha:=h a (by simp);intro r hr
  rcases I2.1 hr with rfl|hr
  ·exact Dp ha.1 ha.2 e1 e2
  exact uT l (fun r hr=>h r (by simp[hr])) e3 r hr
theorem CM{A B:List (List Nat)}{i j:Nat}(hA:∀r∈A,nth r i<65536/\nth r j<65536)(hB:∀r∈B,nth r i<65536/\nth r j<65536)(h:ny [A,B] i=ny [A,B] j):(∀r∈A,nth r i=nth r j)/\∀r∈B,nth r i=nth r j:=by
 have h:pz A i++(pz B i++[])=pz A j++(pz B j++[]):=h;rw[I8,I8]at h;obtain⟨h1,h2⟩:=KH h (by rw[kj,kj]);exact⟨uT A hA h1,uT B hB h2⟩
structure PartI(g:List Nat)(many n:Nat)(rows:List (List Nat))(p:KU):Prop where
 right:cP p=true
 us:p.usual.length=rows.length
 wd:p.width=(many:Int)
 get:∀r,r<rows.length->∀c,c<37->getM p r (nth g c)=((nxD rows r c:Nat):Int)
 lo:∀r,r<rows.length->∀k,k<many->0<=getM p r k/\getM p r k<rows.length
theorem vP{g:List Nat}{many:Nat}(hg:GrpI g many){rows:List (List Nat)}{a6:List Nat}(hr:IU rows a6)(hc:∀i j,i<37->j<37->nth g i=nth g j->∀r∈rows,nth r i=nth r j):PartI g many rows.length rows (di g many rows):=by
 have a2:=oK hg hr;have a8:=hg.le;have a7:(jI g many rows).length=rows.length:=by simp[jI]
 have a5:∀r,r<rows.length->nth (jI g many rows) r=ints (oh g many (nth rows r)):=fun r a0=>by
  unfold jI;rw[dj (by simpa using a0),dj a0]
 have a3:∀r,r<rows.length->(nth (jI g many rows) r).length=many:=fun r a0=>by rw[a5 r a0];simp[mq]
 obtain⟨s1,_,_,_,s5,_⟩:=oM (many:Int) (jI g many rows) (fun r a0=>by
  obtain⟨j,hj,rfl⟩:=cn a0
  rw[a3 j zo];omega)
 have a1:∀r,r<rows.length->∀k,k<many->getM (di g many rows) r k=((nth (oh g many (nth rows r)) k:Nat):Int):=fun r a0 k hk=>by
  unfold di;rw[AR _ _ r k zo (by rw[a3 r a0];exact hk),a5 r a0,dj (by rw[mq];exact hk)]
 refine⟨tV _ _ a2,by show(kM _ _).usual.length=_;rw[s1];simpa using a7,s5,fun r a0 c a4=>?_,fun r a0 k hk=>?_⟩
 ·rw[a1 r a0 _ (hg.lt c a4),uj hg (fun i j hi hj e=>hc i j hi hj e _ (aJ a0)) a4];rfl
 rw[a1 r a0 k hk];obtain⟨i,hi,rfl⟩:=hg.hit k hk;rw[uj hg (fun i j hi hj e=>hc i j hi hj e _ (aJ a0)) hi];have:=(hr.row r a0).2 i hi;omega
theorem DV{l:List Int}{n:Int}(h:∀x∈l,x<n)(h0:nth l 0<n):DW l<n:=by
 have a0:∀(l:List Int) (m:Int),(∀x∈l,x<n)->m<n->l.foldl max m<n:=fun l=>by
  induction l with
  |nil=>exact fun m _ hm=>hm
  |cons a l ih=>exact fun m h hm=>ih _ (fun x hx=>h x (by simp[hx])) (by have:=h a (by simp);omega)
 exact a0 l _ h h0
theorem xi{g:List Nat}{many n rules:Nat}{rows:List (List Nat)}{a4:List Nat}{p:KU}(hp:PartI g many n rows p)(hm:1<=many)(hr:IU rows a4)(ht:∀q∈a4,q<2^rules):jY p a4 many rules=true:=by
 obtain⟨f1,f2⟩:=ph p;have a8:=hr.pos;have a7:=hr.tl;have a6:=hp.us;unfold jY;rw[hp.right,hp.wd,f1,a6,a7];have a1:iG (fun i=>!(nth a4 i / 2^rules==0)) rows.length=false:=cm.2 fun i hi=>by
  rw[Jv (ht _ (aJ zo))];rfl
 have a2:iG (fun i=>decide (((rows.length:Nat):Int)<=DW (nth (fJ p) i))) rows.length=false:=cm.2 fun i hi=>by
  have a0:nth (fJ p) i=BK p i:=by unfold fJ;rw[fN _ _ _ zo]
  have a5:p.width.toNat=many:=by rw[hp.wd];rfl
  have a3:∀k,k<many->nth (BK p i) k<rows.length:=fun k hk=>by
   unfold BK;rw[a5,aC (xs:=List.map (getM p i) (JW many)) (by simpa using hk),Ky,Ko];exact(hp.lo i hi k hk).2
  refine decide_eq_false (Int.not_le.2 (DV (fun x hx=>?_) ?_))
  ·rw[a0]at hx;obtain⟨k,hk,rfl⟩:=cn hx;exact a3 k (by unfold BK at hk;rw[a5]at hk;simpa using hk)
  rw[a0];exact a3 0 hm
 have h0:(rows.length==0)=false:=beq_eq_false_iff_ne.2 zo;rw[a1,a2,h0];simp
structure TabI(t:TabM)(A B:List (List Nat)×List Nat):Prop where
 right:ia t=true
 ok:OkT t
 left:∀r c,r<A.1.length->c<37->stL t r c=nxD A.1 r c
 rght:∀r c,r<B.1.length->c<37->stR t r c=nxD B.1 r c
 ll:t.left.usual.length=A.1.length
 rl:t.right.usual.length=B.1.length
theorem Dq{li lk:List Int}{ts:List R3}{A B:List (List Nat)×List Nat}(a8:ej li lk ts=true)(hA:IU A.1 A.2)(hB:IU B.1 B.2)(tA:∀q∈A.2,q<2^ts.length)(tB:∀q∈B.2,q<2^ts.length):TabI (mF li lk ts A B) A B:=by
 obtain⟨r1,r2,r3,r4⟩:=dO a8;obtain⟨many,hg,a5⟩:=pd [A.1,B.1];have a2:=hg.pos;have b0:=hg.le;have a4:=hg.len;have a3:∀ {rows:List (List Nat)} {a7:List Nat},IU rows a7->∀i,i<37->∀r∈rows,nth r i<65536:=fun {rows a7} h i hi r hr=>by
  obtain⟨j,hj,rfl⟩:=cn hr;have h1:=(h.row j hj).2 i hi;have h2:=h.le;omega
 have hc:∀i j,i<37->j<37->nth (bA [A.1,B.1]) i=nth (bA [A.1,B.1]) j->(∀r∈A.1,nth r i=nth r j)/\∀r∈B.1,nth r i=nth r j:=fun i j hi hj e=>
  CM (fun r hr=>⟨a3 hA i hi r hr,a3 hA j hj r hr⟩) (fun r hr=>⟨a3 hB i hi r hr,a3 hB j hj r hr⟩) ((a5 i j hi hj).1 e)
 have a1:=hg.cnt;have iL:=vP hg hA (fun i j hi hj e=>(hc i j hi hj e).1);have iR:=vP hg hB (fun i j hi hj e=>(hc i j hi hj e).2);have fL:=xi iL a2 hA tA;have fR:=xi iR a2 hB tB;have e1:(mF li lk ts A B).left=di (bA [A.1,B.1]) many A.1:=by rw[ry,a1]
 have e2:(mF li lk ts A B).right=di (bA [A.1,B.1]) many B.1:=by rw[oG,a1]
 have e3:(mF li lk ts A B).groups=ints (bA [A.1,B.1]):=rfl;have gr:∀c,c<37->nth (mF li lk ts A B).groups c=((nth (bA [A.1,B.1]) c:Nat):Int):=fun c hc=>by rw[e3,dj zo]
 have gt:∀c,c<37->grT (mF li lk ts A B) c=nth (bA [A.1,B.1]) c:=fun c hc=>by unfold grT;rw[gr c hc];rfl
 have a6:∀q:Nat,q<2^ts.length->q<2^40:=fun q hq=>JH hq (JE zd r1)
 have a':=hA.tl;have a9:=hB.tl;have pA:=hA.pos;have pB:=hB.pos;refine⟨?_,⟨okP _ (by rw[e1];exact iL.right),okP _ (by rw[e2];exact iR.right),by rw[e3];simpa using a4,fun c a0=>?_,by rw[e1,iL.us];exact a',by rw[e2,iR.us];exact a9,by rw[e1,iL.us];exact pA,by rw[e2,iR.us];exact pB,fun r c hr a0=>?_,fun r c hr a0=>?_,mL r2,mL r3,a6 _ (qL ts _),fun q hq=>a6 q (tA q hq),fun q hq=>a6 q (tB q hq)⟩,fun r c hr a0=>?_,fun r c hr a0=>?_,by rw[e1,iL.us],by rw[e2,iR.us]⟩
 ·unfold ia;have q1:(mF li lk ts A B).ig / 2^36=0:=Jv (mL r2);have q2:(mF li lk ts A B).kp / 2^36=0:=Jv (mL r3);have q3:(mF li lk ts A B).rules.toNat=ts.length:=rfl;have q4:(mF li lk ts A B).br / 2^ts.length=0:=Jv (qL ts _);have q5:gA (mF li lk ts A B).groups=many:=by rw[e3,a1]
  have q6:(mF li lk ts A B).rules=(ts.length:Int):=rfl;rw[q1,q2,q3,q4,q5,q6,e1,e2,zu,zq,fL,fR,decide_eq_false zo,decide_eq_false zo,beq_eq_false_iff_ne.2 zo];rfl
 ·rw[gr c a0];have:=hg.lt c a0;omega
 ·rw[e1]at hr ⊢;rw[iL.us]at hr ⊢;rw[gt c a0,iL.get r hr c a0];have:=(hA.row r hr).2 c a0;unfold nxD;omega
 ·rw[e2]at hr ⊢;rw[iR.us]at hr ⊢;rw[gt c a0,iR.get r hr c a0];have:=(hB.row r hr).2 c a0;unfold nxD;omega
 ·unfold stL;rw[e1,gt c a0,iL.get r hr c a0];rfl
 unfold stR;rw[e2,gt c a0,iR.get r hr c a0];rfl
theorem B7(rows:List (List Nat))(u v:List Nat)(q:Nat):iX rows (u++v) q=iX rows v (iX rows u q):=Jo
theorem Ay{rows:List (List Nat)}{a0:List Nat}{cl:Nat->Nat}(hr:IU rows a0)(a4:Cls cl (rows,a0)):∃F,LI cl (nxD rows) (nth a0) rows.length F.length F (aP cl rows a0).1 (aP cl rows a0).2/\
  ∀(w:List Nat),(∀m∈w,m<37)->∀p q,p<F.length->q<rows.length->cl (nth F p)=cl q->iX (aP cl rows a0).1 w p<F.length/\iX rows w q<rows.length/\cl (nth F (iX (aP cl rows a0).1 w p))=cl (iX rows w q):=by
 obtain⟨F,hF⟩:=fS (cl:=cl) (tl:=nth a0) hr.nx (rows.length+1) 0 [0] [] [] (mD hr.pos) zo;refine⟨F,hF,fun w=>?_⟩;have a6:LI cl (nxD rows) (nth a0) rows.length F.length F (aP cl rows a0).1 (aP cl rows a0).2:=hF;generalize aP cl rows a0=L at *
 induction w with
 |nil=>exact fun _ p q hp hq he=>⟨hp,hq,he⟩
 |cons m w ih=>
  intro hw p q hp hq he;have hm:=hw m (by simp);obtain⟨a1,a2⟩:=(a6.row p hp).2 m hm;have a5:=a6.reps.lt _ (aJ hp);have a3:=hr.nx q m hq hm;have a7:Alike (nxD rows) (nth a0) (nth F p) q:=(a4 _ _ a5 hq).1 he;exact ih (fun x hx=>hw x (by simp[hx])) _ _ a1 a3 (a2.trans ((a4 _ _ (hr.nx _ m a5 hm) a3).2 (a7.step hm)))
theorem rk{se:Bool}{ts:List Nd}{a:List (List Nat)×List Nat}{cl:Nat->Nat}(h:stM se ts=some a)(hs:bI ts=true)(hr:IU a.1 a.2)(a1:Cls cl a)(w:List Nat)(hw:∀m∈w,m<37):
  iX (aP cl a.1 a.2).1 w 0<(aP cl a.1 a.2).1.length/\∀i,(nth (aP cl a.1 a.2).2 (iX (aP cl a.1 a.2).1 w 0)).testBit i=true↔i<ts.length/\∃u v,ints w=u++v/\(se=true\/u=[])/\Lg (nth ts i) v:=by
 obtain⟨F,hF,a0⟩:=Ay (cl:=cl) hr a1;obtain⟨c1,c2,c3⟩:=a0 w hw 0 0 hF.p0 hr.pos (by rw[hF.fst]);refine⟨by rw[hF.rl];exact c1,fun i=>?_⟩;have hd:CK (cA se (jv ts)) (cX (jv ts))=some a:=by
  unfold stM at h
  split at h
  ·exact h
  cases h
 obtain⟨S,hS⟩:=nu hd;obtain⟨s1,s2⟩:=vK hS w hw 0 hS.p0;have a3:=(a1 _ _ (hF.reps.lt _ (aJ c1)) c2).1 c3;have a2:nth (aP cl a.1 a.2).2 (iX (aP cl a.1 a.2).1 w 0)=nth a.2 (iX a.1 w 0):=by
  rw[hF.tel _ c1];exact a3 [] (fun m hm=>by cases hm)
 have a4:w.foldl (fun s (m:Nat)=>cA se (jv ts) s (m:Int)) (nth S 0)=BJ (cA se (jv ts)) (ints w):=by
  unfold BJ;rw[hS.fst,List.foldl_map]
 rw[a2,hS.tel _ s1,s2,a4];exact xI hs (mH se (jv ts)) (ints w) i
theorem vU:∀(l:List Nd) (s:Bool) (a0:Int),0<=a0->0<=dm s a0 l->a0<=dm s a0 l
 |[],_,a0,_,_=>by unfold dm;exact Jq _
 |t::r,s,a0,h0,h=>by
  unfold dm at h ⊢
  split at h
  ·omega
  rename_i hn;rw[if_neg hn];have a1:a0<=if s=true then a0+dk t else max a0 (dk t):=by split<;>omega
  exact Int.le_trans a1 (vU r s _ zo h)
mutual
theorem uz:∀(t:Nd) (w:List Int),Lg t w->0<=dk t->(w.length:Int)<=dk t
 |.mk k c l,w,h,h0=>by
  unfold dk at h0 ⊢
  unfold Lg at h
  by_cases h67:k=6\/k=7
  ·rw[if_pos h67]at h0;omega
  rw[if_neg h67]at h0 ⊢
  by_cases h9:k=9
  ·subst h9
   simp at h
   rw[if_pos rfl,h];exact Jq _
  rw[if_neg h9]at h0 ⊢
  by_cases h4:k=4
  ·subst h4
   simp at h
   rw[if_pos (.inl rfl)]at h0 ⊢
   have:=vV l w 0 h (Jq _) h0
   simpa using this
  by_cases h5:k=5
  ·subst h5
   simp at h
   rw[if_pos (.inr (.inl rfl))]at h0 ⊢
   exact qt l w 0 h (Jq _) h0
  by_cases h8:k=8
  ·subst h8
   simp at h
   rw[if_pos (.inr (.inr rfl))]at h0 ⊢
   rcases h with rfl|h
   ·exact h0
   exact qt l w 0 (by
    cases l with
    |nil=>exact h.elim
    |cons t r=>exact .inl h) (Jq _) h0
  have h6:¬k=6:=fun e=>h67 (.inl e)
  have h7:¬k=7:=fun e=>h67 (.inr e)
  rw[if_neg h4,if_neg h5,if_neg h6,if_neg h7,if_neg h8,if_neg h9]at h
  obtain⟨m,rfl,_⟩:=h
  rw[if_neg zo]
  exact Jq _
theorem vV:∀(l:List Nd) (w:List Int) (acc:Int),LB l w->0<=acc->0<=dm true acc l->acc+w.length<=dm true acc l
 |[],w,acc,h,_,_=>by
  unfold LB at h
  subst h
  unfold dm
  simp
 |t::r,w,acc,h,ha,h0=>by
  unfold LB at h
  unfold dm at h0 ⊢
  obtain⟨u,v,rfl,hu,hv⟩:=h
  split at h0
  ·omega
  rename_i hn
  rw[if_neg hn]
  rw[if_pos rfl]at h0 ⊢
  have h1:=uz t u hu zo
  have h2:=vV r v _ hv zo h0
  rw[I7]
  omega
theorem qt:∀(l:List Nd) (w:List Int) (acc:Int),Lw l w->0<=acc->0<=dm false acc l->(w.length:Int)<=dm false acc l
 |[],w,acc,h,_,_=>by unfold Lw at h;exact h.elim
 |t::r,w,acc,h,ha,h0=>by
  unfold Lw at h
  unfold dm at h0 ⊢
  split at h0
  ·omega
  rename_i hn
  rw[if_neg hn]
  rw[if_neg zd]at h0 ⊢
  rcases h with h|h
  ·have h1:=uz t w h zo
   have h2:=vU r false (max acc (dk t)) zo h0
   omega
  exact qt r w _ h zo h0
end
theorem Cr{t:Nd}(h:dW t=0){w:List Int}(hw:Lg t w):w.length<=4:=by
 unfold dW at h
 split at h
 ·omega
 split at h
 ·omega
 rename_i hn;simp only[J7,not_or,Bool.not_eq_true',decide_eq_true_eq]at hn;obtain⟨h1,h2⟩:=hn;have hb:uy t=true:=by simpa using h1
 have a0:=hb;unfold uy at a0;rw[IN]at a0;have h3:=of_decide_eq_true a0.2;have h4:=uz t w hw h3;unfold uw at h2;rw[if_pos a0.1]at h2;omega
def ee:List En->List Nat
 |[]=>[]
 |(c,h)::r=>if h=true then ee r else c::ee r
theorem Do{l:List En}{n:Nat}(h:∀x∈l,x.1<n):∀m∈ee l,m<n:=by
 induction l with
 |nil=>exact fun m hm=>by cases hm
 |cons x r ih=>
  obtain⟨c,hd⟩:=x;intro m hm;unfold ee at hm
  split at hm
  ·exact ih (fun y hy=>h y (by simp[hy])) m hm
  rcases I2.1 hm with rfl|hm
  ·exact h (m,hd) (by simp)
  exact ih (fun y hy=>h y (by simp[hy])) m hm
theorem tQ{t:TabM}{A B:List (List Nat)×List Nat}(hI:TabI t A B)(hB:IU B.1 B.2)(i:Nat):∀(l:List En) (row a0 a1:Nat),(∀x∈l,x.1<36)->row<B.1.length->a0<=4->
  ((rwL t l row a0 a1).testBit i=true↔a1.testBit i=true\/∃k,0<k/\k<=(ee l).length/\a0+k<=4/\(nth t.rt (iX B.1 ((ee l).take k) row)).testBit i=true)
 |[],row,a0,a1,_,_,_=>by
  unfold rwL ee
  constructor
  ·exact .inl
  rintro(h|⟨k,h1,h2,_⟩)
  ·exact h
  simp at h2;omega
 |(c,hd)::r,row,a0,a1,hc,hrow,hseen=>by
  have a2:∀x∈r,x.1<36:=fun x hx=>hc x (by simp[hx])
  have a4:c<36:=hc (c,hd) (by simp);unfold rwL ee
  by_cases hh:hd=true
  ·rw[if_pos hh,if_pos hh];exact tQ hI hB i r row a0 a1 a2 hrow hseen
  rw[if_neg hh,if_neg hh]
  by_cases h4:a0=4
  ·rw[if_pos h4]
   constructor
   ·exact .inl
   rintro(h|⟨k,h1,_,h3,_⟩)
   ·exact h
   omega
  have a3:=hI.rght row c hrow zo;have hn:=hB.nx row c hrow zo;rw[if_neg h4,a3,tQ hI hB i r _ _ _ a2 hn zo,JZ,J7]
  constructor
  ·rintro((h|h)|⟨k,h1,h2,h3,h5⟩)
   ·exact .inl h
   ·exact .inr ⟨1,zd,by simp,zo,h⟩
   exact .inr ⟨k+1,zo,by simpa using h2,zo,h5⟩
  rintro(h|⟨k,h1,h2,h3,h5⟩)
  ·exact .inl (.inl h)
  cases k with
  |zero=>omega
  |succ k=>
   cases k with
   |zero=>exact .inl (.inr h5)
   |succ k=>exact .inr ⟨k+1,zo,by simpa using h2,zo,h5⟩
theorem xR{t:TabM}{A B:List (List Nat)×List Nat}(hI:TabI t A B)(hB:IU B.1 B.2)(i:Nat)(l:List En)(hl:∀x∈l,x.1<36):
  (dV t l).testBit i=true↔∃k,k<=(ee l).length/\k<=4/\(nth t.rt (iX B.1 ((ee l).take k) 0)).testBit i=true:=by
 unfold dV;rw[tQ hI hB i l 0 0 _ hl hB.pos zd]
 constructor
 ·rintro(h|⟨k,_,h2,h3,h4⟩)
  ·exact⟨0,IG _,IG _,h⟩
  exact⟨k,h2,zo,h4⟩
 rintro⟨k,h2,h3,h4⟩
 cases k with
 |zero=>exact .inl h4
 |succ k=>exact .inr ⟨k+1,zo,h2,zo,h4⟩
theorem CL{x:Nat}(h0:x≠0)(h:x<2^64):x.testBit (Jy 64 x)=true/\∀j,j<Jy 64 x->x.testBit j=false:=by
 obtain⟨m,e,_⟩:=Lib.ctzFrom_spec 64 x zo h;have hc:Jy 64 x=La 64 x:=by unfold Jy;rw[if_neg h0]
 rw[hc];generalize La 64 x=c at *;subst e;refine⟨?_,fun j hj=>?_⟩
 ·rw[K5,Nat.sub_self,decide_eq_true (IV c),K0,Nat.testBit_zero];exact decide_eq_true zo
 rw[K5,decide_eq_false zo,Bool.false_and]
def eI(ts:List R3)(a0 after:List Nat)(i:Nat):Prop:=i<ts.length/\(∃u v,ints a0=u++v/\Lg (nth (jQ ts) i) v)/\∃u v,ints after=u++v/\Lg (nth (dU ts) i) u
def FirstR(ts:List R3)(a0 after:List Nat)(k:Int):Prop:=(k = -1/\∀i,¬eI ts a0 after i)\/∃i:Nat,k=i/\eI ts a0 after i/\∀j,j<i->¬eI ts a0 after j
theorem FirstR.uniq{ts:List R3}{b a:List Nat}{k k':Int}(h:FirstR ts b a k)(h':FirstR ts b a k'):k=k':=by
 rcases h with⟨rfl,h⟩|⟨i,rfl,h1,h2⟩<;>rcases h' with⟨rfl,h'⟩|⟨i',rfl,a0,a1⟩
 ·rfl
 ·exact absurd a0 (h i')
 ·exact absurd h1 (h' i)
 rcases Nat.lt_trichotomy i i' with h3|h3|h3
 ·exact absurd h1 (a1 i h3)
 ·rw[h3]
 exact absurd a0 (h2 i' h3)
theorem rJ{ts:List Nd}(h:∀t∈ts,bn t=true):bI ts=true:=by
 induction ts with
 |nil=>rfl
 |cons t r ih=>
  unfold bI;rw[(fj (h t (by simp))).2.1,ih (fun x hx=>h x (by simp[hx]))];rfl
structure Made(li lk:List Int)(ts:List R3)(a b:List (List Nat)×List Nat)(clA clB:Nat->Nat):Prop where
 rt:ej li lk ts=true
 sa:stM true (jQ ts)=some a
 sb:stM false (dU ts)=some b
 ra:IU a.1 a.2
 rb:IU b.1 b.2
 ca:Cls clA a
 cb:Cls clB b
abbrev bz(li lk:List Int)(ts:List R3)(a b:List (List Nat)×List Nat)(a1 a0:Nat->Nat):TabM:=mF li lk ts (aP a1 a.1 a.2) (aP a0 b.1 b.2)
section
variable{li lk:List Int}{ts:List R3}{a b:List (List Nat)×List Nat}{clA clB:Nat→Nat}
theorem Made.inv(h:Made li lk ts a b clA clB):TabI (bz li lk ts a b clA clB) (aP clA a.1 a.2) (aP clB b.1 b.2):=
 Dq h.rt (eA h.ra clA) (eA h.rb clB) (mY h.ra clA (by have:=rD h.sa;rwa[IL]at this)) (mY h.rb clB (by have:=rD h.sb;rwa[IL]at this))
theorem Made.rules(h:Made li lk ts a b clA clB):∀t∈ts,bn t.1=true/\bn t.2.1=true/\dW t.2.1=0:=fun t ht=>by
 have:=(dO h.rt).2.2.2 t ht;unfold qd at this;simp only[IN,beq_iff_eq]at this;exact⟨this.1.1,this.1.2,this.2⟩
theorem Made.left(h:Made li lk ts a b clA clB)(w:List Nat)(hw:∀m∈w,m<37):iX (aP clA a.1 a.2).1 w 0<(aP clA a.1 a.2).1.length/\
  ∀i,(nth (aP clA a.1 a.2).2 (iX (aP clA a.1 a.2).1 w 0)).testBit i=true↔i<ts.length/\∃u v,ints w=u++v/\Lg (nth (jQ ts) i) v:=by
 have hs:bI (jQ ts)=true:=rJ fun t ht=>by
  obtain⟨x,hx,rfl⟩:=Jh.1 ht;exact(h.rules x hx).1
 obtain⟨h1,h2⟩:=rk h.sa hs h.ra h.ca w hw;refine⟨h1,fun i=>?_⟩;rw[h2 i,IL];exact and_congr_right fun _=>⟨fun⟨u,v,e,_,hv⟩=>⟨u,v,e,hv⟩,fun⟨u,v,e,hv⟩=>⟨u,v,e,.inl rfl,hv⟩⟩
theorem Made.right(h:Made li lk ts a b clA clB)(l:List En)(hl:∀x∈l,x.1<36)(i:Nat):(dV (bz li lk ts a b clA clB) l).testBit i=true↔i<ts.length/\∃u v,ints (ee l)=u++v/\Lg (nth (dU ts) i) u:=by
 have hs:bI (dU ts)=true:=rJ fun t ht=>by
  obtain⟨x,hx,rfl⟩:=Jh.1 ht;exact(h.rules x hx).2.1
 have hv:=Do hl;rw[xR h.inv (eA h.rb clB) i l hl];have a0:∀k,(nth (bz li lk ts a b clA clB).rt (iX (aP clB b.1 b.2).1 ((ee l).take k) 0)).testBit i=true↔i<ts.length/\Lg (nth (dU ts) i) (ints ((ee l).take k)):=fun k=>by
  have:=(rk h.sb hs h.rb h.cb ((ee l).take k) (fun m hm=>by have:=hv m (Kf hm);omega)).2 i;rw[IL]at this;refine this.trans (and_congr_right fun _=>⟨?_,fun hL=>⟨[],_,rfl,.inr rfl,hL⟩⟩);rintro⟨u,v,e,hu,hL⟩
  rcases hu with hu|rfl
  ·cases hu
  rw[e];exact hL
 constructor
 ·rintro⟨k,h1,h2,h3⟩;obtain⟨h4,h5⟩:=(a0 k).1 h3;exact⟨h4,ints ((ee l).take k),ints ((ee l).drop k),by unfold ints;rw[<-Jg,JC],h5⟩
 rintro⟨h1,u,v,e,h2⟩;have hi:i<(dU ts).length:=by rw[IL];exact h1
 have h4:u.length<=4:=Cr (by
  rw[dj h1]
  exact(h.rules _ (aJ h1)).2.2) h2
 have a1:u.length<=(ee l).length:=by have:=congrArg Jf e;rw[I7]at this;unfold ints at this;rw[IL]at this;omega
 refine⟨u.length,a1,h4,(a0 _).2 ⟨h1,?_⟩⟩;have:ints ((ee l).take u.length)=u:=by
  unfold ints at e ⊢;rw[List.map_take,e,JR];rfl
 rw[this];exact h2
theorem Made.which(h:Made li lk ts a b clA clB)(a0:List Nat)(hb:∀m∈a0,m<37)(s:RunS)(hs:OkS (bz li lk ts a b clA clB) s)(a2:s.row=iX (aP clA a.1 a.2).1 a0 0):FirstR ts a0 (ee s.wait) (cV (bz li lk ts a b clA clB) s):=by
 have hl:=(h.left a0 hb).2;have hr:=h.right s.wait hs.wait;have hi:=h.inv;have a3:=mQ hi.ok hs;unfold cV;have a4:(bz li lk ts a b clA clB).lt=(aP clA a.1 a.2).2:=rfl;rw[a4,a2];generalize dV (bz li lk ts a b clA clB) s.wait=R at *;generalize nth (aP clA a.1 a.2).2 (iX (aP clA a.1 a.2).1 a0 0)=L at *;have a1:∀i,(L &&& R).testBit i=true↔eI ts a0 (ee s.wait) i:=fun i=>by
  rw[Nat.testBit_and,IN,hl i,hr i];unfold eI;exact⟨fun⟨⟨h1,h2⟩,_,h3⟩=>⟨h1,h2,h3⟩,fun⟨h1,h2,h3⟩=>⟨⟨h1,h2⟩,h1,h3⟩⟩
 have a5:L &&& R<2^64:=JI KF (Nat.lt_trans a3 zd)
 split
 ·rename_i h0;exact .inl ⟨rfl,fun i hA=>by have:=(a1 i).2 hA;rw[h0]at this;simp at this⟩
 rename_i h0;obtain⟨c1,c2⟩:=CL h0 a5;exact .inr ⟨_,rfl,(a1 _).1 c1,fun j hj hA=>by have:=(a1 j).2 hA;rw[c2 j hj]at this;cases this⟩
end
section
variable{cl cl':Nat→Nat}{n:Nat}(h:∀p q,p<n→q<n→(cl p=cl q↔cl' p=cl' q))
include h
end
theorem xr(ts:List R3)(i:Nat):∀n,(gJ ts n).testBit i=(decide (i<n)&&(nth ts i).2.2)
 |0=>by unfold gJ;simp
 |n+1=>by
  have ih:=xr ts i n;unfold gJ
  by_cases hb:(nth ts n).2.2=true
  ·rw[if_pos hb,JZ,ih,Km]
   by_cases e:n=i
   ·subst e;rw[hb];simp
   rw[decide_eq_false e,Bool.or_false];congr 1;exact decide_eq_decide.2 zo
  rw[if_neg hb,ih]
  by_cases e:n=i
  ·subst e;rw[show(nth ts n).2.2=false from by simpa using hb];simp
  congr 1;exact decide_eq_decide.2 zo
def brk(ts:List R3)(k:Int):Bool:=decide (k<0)||(nth ts k.toNat).2.2
theorem ml(l r:List En):ee (l++r)=ee l++ee r:=by
 induction l with
 |nil=>rfl
 |cons x l ih=>
  obtain⟨c,h⟩:=x
  cases h with
  |true=>exact ih
  |false=>exact congrArg (c :: ·) ih
section
variable{li lk:List Int}{ts:List R3}{a b:List (List Nat)×List Nat}{clA clB:Nat→Nat}
theorem Made.stepL(h:Made li lk ts a b clA clB)(x:En)(hx:x.1<36)(a0:List Nat)(hb:∀m∈a0,m<37):stepL (bz li lk ts a b clA clB) (iX (aP clA a.1 a.2).1 a0 0) x=iX (aP clA a.1 a.2).1 (a0++ee [x]) 0/\∀m∈a0++ee [x],m<37:=by
 obtain⟨c,hd⟩:=x;have a1:=(h.left a0 hb).1;unfold Go.Proofs.YteolbhblkgjbhaaGreatDoor.stepL ee
 by_cases hh:hd=true
 ·rw[if_pos hh,if_pos hh];unfold ee;rw[I8];exact⟨rfl,hb⟩
 rw[if_neg hh,if_neg hh];unfold ee;refine⟨?_,fun m hm=>?_⟩
 ·rw[h.inv.left _ c a1 (by show c<37;simp at hx;omega),B7];rfl
 rcases IT.1 hm with hm|hm
 ·exact hb m hm
 rw[ln.1 hm];simp at hx;omega
theorem Made.passB(h:Made li lk ts a b clA clB)(l:List En)(x:En)(hl:∀y∈l,y.1<36)(hf:l.length<=1000000)(a0:List Nat)(hb:∀m∈a0,m<37):
  FirstR ts a0 (ee l) (cV (bz li lk ts a b clA clB) (qb (iX (aP clA a.1 a.2).1 a0 0) l))/\
  Go.Proofs.YteolbhblkgjbhaaGreatDoor.passB (bz li lk ts a b clA clB) (qb (iX (aP clA a.1 a.2).1 a0 0) l) x=(!x.2&&brk ts (cV (bz li lk ts a b clA clB) (qb (iX (aP clA a.1 a.2).1 a0 0) l))):=by
 have a1:=(h.left a0 hb).1;have hk:=h.which a0 hb (qb (iX (aP clA a.1 a.2).1 a0 0) l) ⟨by show _<(bz li lk ts a b clA clB).left.usual.length;rw[h.inv.ll];exact a1,hl,by show 0<36;decide,hf⟩ rfl;refine⟨hk,?_⟩;unfold Go.Proofs.YteolbhblkgjbhaaGreatDoor.passB brk;have a2:FirstR ts a0 (ee l) (cV (bz li lk ts a b clA clB) (qb (iX (aP clA a.1 a.2).1 a0 0) l)):=hk;generalize cV (bz li lk ts a b clA clB) (qb (iX (aP clA a.1 a.2).1 a0 0) l)=k at *
 rcases a2 with⟨rfl,_⟩|⟨i,rfl,h1,_⟩
 ·rfl
 have a3:(bz li lk ts a b clA clB).br=gJ ts ts.length:=rfl;rw[a3,xr,Jp,decide_eq_true h1.1,K0]
theorem Made.closeL(h:Made li lk ts a b clA clB):∀(l:List En) (a0:List Nat),(∀m∈a0,m<37)->(∀y∈l,y.1<36)->l.length<=1000000->∀i,i<l.length->
  ∃k,FirstR ts (a0++ee (l.take i)) (ee (l.drop i)) k/\nth (closeL (bz li lk ts a b clA clB) l (iX (aP clA a.1 a.2).1 a0 0)) i=(!(nth l i).2&&brk ts k)
 |[],_,_,_,_,i,hi=>absurd hi (IX i)
 |x::r,a0,hb,hl,hf,i,hi=>by
  obtain⟨s1,s2⟩:=h.stepL x (hl x (by simp)) a0 hb;unfold Go.Proofs.YteolbhblkgjbhaaGreatDoor.closeL
  cases i with
  |zero=>
   obtain⟨p1,p2⟩:=h.passB (x::r) x hl hf a0 hb;refine⟨cV (bz li lk ts a b clA clB) (qb (iX (aP clA a.1 a.2).1 a0 0) (x::r)),?_,?_⟩
   ·rw[KL,KN];show FirstR ts (a0++[]) _ _;rw[I8];exact p1
   rw[ao,ao];exact p2
  |succ i=>
   rw[aI,aI,s1];obtain⟨k,k1,k2⟩:=Made.closeL h r (a0++ee [x]) s2 (fun y hy=>hl y (by simp[hy])) (by simp at hf;omega) i (by simpa using hi);refine⟨k,?_,k2⟩;rw[List.take_succ_cons,List.drop_succ_cons,show x::r.take i=[x]++r.take i from rfl,ml,<-IQ];exact k1
end
def iM(t:TabM):En->List Int->List En
 |_,[]=>[]
 |last,c::r=>(aG c,t.ig.testBit (aG c)&&(last.2 || !(t.kp.testBit last.1)))::iM t (aG c,t.ig.testBit (aG c)&&(last.2 || !(t.kp.testBit last.1))) r
theorem jL(t:TabM):∀(a0:List Int) (s:RunS),s.begun=true->(bF t s a0).wait=s.wait++iM t s.last a0/\(bF t s a0).row=s.row
 |[],s,_=>⟨by unfold iM;rw[I8];rfl,rfl⟩
 |c::r,s,hb=>by
  have e:qg t s (aG c) = {s with last:=(aG c,BP t s (aG c)),wait:=s.wait++[(aG c,BP t s (aG c))]}:=by unfold qg;rw[if_pos hb]
  obtain⟨h1,h2⟩:=jL t r (qg t s (aG c)) (by rw[e];exact hb);have e2:bF t s (c::r)=bF t (qg t s (aG c)) r:=rfl;rw[e2,h1,h2,e];refine⟨?_,rfl⟩;rw[iM,IQ];rfl
theorem gq(t:TabM)(c:Int)(r:List Int):(bF t (mP t) (c::r)).wait=iM t (aG c,false) r/\(bF t (mP t) (c::r)).row=stL t (stL t 0 36) (aG c):=by
 have e2:bF t (mP t) (c::r)=bF t (qg t (mP t) (aG c)) r:=rfl;have e:qg t (mP t) (aG c) = {mP t with begun:=true,last:=(aG c,false),row:=stL t (stL t 0 36) (aG c)}:=rfl;obtain⟨h1,h2⟩:=jL t r (qg t (mP t) (aG c)) rfl;rw[e2,h1,h2,e];exact⟨rfl,rfl⟩
theorem iu(t:TabM):∀(l:List Int) (e:En),(iM t e l).length=l.length
 |[],_=>rfl
 |c::r,e=>by rw[iM,IJ,iu t r,IJ]
theorem uJ(t:TabM):∀(l:List Int) (e:En),∀x∈iM t e l,x.1<36
 |[],_,x,hx=>by cases hx
 |c::r,e,x,hx=>by
  rw[iM]at hx
  rcases I2.1 hx with rfl|hx
  ·exact fy c
  exact uJ t r _ x hx
def tw(li lk ids:List Int):Nat->Bool
 |0=>false
 |i+1=>decide (((aG (nth ids (i+1)):Nat):Int)∈li)&&(tw li lk ids i || !(decide (((aG (nth ids i):Nat):Int)∈lk)))
def GP(k c m:Int):Bool:=
 if k=0 then m==c else if k=1 then decide (0<=m)&&decide (m<=35)else if k=2 then(decide (0<=m)&&decide (m<=35))&&(m != c)else(k==3)&&(m==36)
def FL(f g:Nat->Nat->Bool)(i k j:Nat):Bool:=(JW k).any fun t=>f i t&&g t j
abbrev Tb:=Nat->Nat->Bool
def seg(ms:List Int)(i j:Nat):List Int:=(ms.drop i).take (j-i)
theorem mN(ms:List Int){i j:Nat}(h:i<=j)(hj:j<=ms.length):(seg ms i j).length=j-i:=by simp[seg];omega
theorem vH(ms:List Int)(i:Nat):seg ms i i=[]:=by simp[seg]
theorem tO(ms:List Int){i m j:Nat}(h1:i<=m)(h2:m<=j):seg ms i j=seg ms i m++seg ms m j:=by
 unfold seg;obtain⟨a,rfl⟩:∃a,m=i+a:=⟨m-i,zo⟩
 obtain⟨b,rfl⟩:∃b,j=i+a+b:=⟨j-(i+a),zo⟩
 rw[show i+a+b-i=a+b from by omega,show i+a-i=a from by omega,show i+a+b-(i+a)=b from by omega,List.take_add,KO]
theorem rL{ms:List Int}{i j:Nat}(h:i<=j)(hj:j<=ms.length){u v:List Int}(e:seg ms i j=u++v):i+u.length<=j/\u=seg ms i (i+u.length)/\v=seg ms (i+u.length) j:=by
 have hl:=congrArg Jf e;rw[mN ms h hj,I7]at hl;have h1:i+u.length<=j:=zo;have e2:=tO ms (show i<=i+u.length by omega) h1;rw[e]at e2;obtain⟨e3,e4⟩:=KH e2 (by rw[mN ms zo zo];omega);exact⟨h1,e3,e4⟩
theorem Du{ms:List Int}{i:Nat}(h:i<ms.length):seg ms i (i+1)=[nth ms i]:=by
 unfold seg;rw[show i+1-i=1 from by omega,Jn h,aC h];rfl
def Gc(n:Nat)(t:Tb):Nat->Tb
 |0=>t
 |r+1=>fun i j=>Gc n t r i j||FL (Gc n t r) t i n j
def stepT(n:Nat)(k:Int)(a0 t:Tb):Tb:=
 if k=4 then fun i j=>FL a0 t i n j else if k=6\/k=7 then fun i j=>a0 i j||Gc n t n i j else fun i j=>a0 i j||t i j
def uX(ms:List Int)(k c:Int):Tb:=fun i j=>if i=j then decide (k=4\/k=6\/k=8\/k=9)else if j=i+1/\k<4 then GP k c (nth ms i)else false
mutual
/-- From which place of marks a node leads to which. -/
def fp(ms:List Int):Nd->Tb
 |.mk k c l=>eB ms k l (uX ms k c)
def eB(ms:List Int)(k:Int):List Nd->Tb->Tb
 |[],out=>out
 |t::r,out=>eB ms k r (stepT (ms.length+1) k out (fp ms t))
end
theorem yU(f g:Tb)(i n j:Nat):FL f g i n j=true↔∃m,m<n/\f i m=true/\g m j=true:=by
 unfold FL;rw[List.any_eq_true]
 constructor
 ·rintro⟨m,hm,h⟩;rw[IN]at h;exact⟨m,KM.1 hm,h.1,h.2⟩
 rintro⟨m,hm,h1,h2⟩;exact⟨m,KM.2 hm,by rw[h1,h2];rfl⟩
def Says(ms:List Int)(t:Tb)(L:List Int->Prop):Prop:=∀i j,i<=ms.length->j<=ms.length->(t i j=true↔i<=j/\L (seg ms i j))
theorem vI{ms:List Int}{f g:Tb}{L M:List Int->Prop}(hf:Says ms f L)(hg:Says ms g M):Says ms (fun i j=>FL f g i (ms.length+1) j) (fun w=>∃u v,w=u++v/\L u/\M v):=fun i j hi hj=>by
 rw[yU]
 constructor
 ·rintro⟨m,hm,h1,h2⟩;obtain⟨a1,a2⟩:=(hf i m hi zo).1 h1;obtain⟨b1,b2⟩:=(hg m j zo hj).1 h2;exact⟨zo,_,_,tO ms a1 b1,a2,b2⟩
 rintro⟨a0,u,v,e,h1,h2⟩;obtain⟨s1,s2,s3⟩:=rL a0 hj e;exact⟨i+u.length,zo,(hf i _ hi zo).2 ⟨zo,s2▸h1⟩,(hg _ j zo hj).2 ⟨s1,s3▸h2⟩⟩
theorem pY{ms:List Int}{f g:Tb}{L M:List Int->Prop}(hf:Says ms f L)(hg:Says ms g M):Says ms (fun i j=>f i j||g i j) (fun w=>L w\/M w):=fun i j hi hj=>by
 rw[J7,hf i j hi hj,hg i j hi hj];exact⟨fun h=>h.elim (fun h=>⟨h.1,.inl h.2⟩) (fun h=>⟨h.1,.inr h.2⟩),fun⟨h1,h2⟩=>h2.elim (fun h=>.inl ⟨h1,h⟩) (fun h=>.inr ⟨h1,h⟩)⟩
theorem Says.congr{ms:List Int}{f:Tb}{L M:List Int->Prop}(h:Says ms f L)(e:∀w,L w↔M w):Says ms f M:=fun i j hi hj=>by rw[h i j hi hj,e]
def Gx(P:List Int->Prop):Nat->List Int->Prop
 |0,w=>P w
 |r+1,w=>∃u v,w=u++v/\Gx P r u/\P v
theorem vJ{ms:List Int}{t:Tb}{L:List Int->Prop}(h:Says ms t L):∀r,Says ms (Gc (ms.length+1) t r) (fun w=>∃s,s<=r/\Gx L s w)
 |0=>h.congr fun w=>⟨fun hw=>⟨0,IV _,hw⟩,fun⟨s,hs,hw⟩=>(match s,hs,hw with|0,_,hw=>hw)⟩
 |r+1=>by
  have ih:=vJ h r;refine(pY ih (vI ih h)).congr fun w=>?_
  constructor
  ·rintro(⟨s,hs,hw⟩|⟨u,v,rfl,⟨s,hs,hu⟩,hv⟩)
   ·exact⟨s,zo,hw⟩
   exact⟨s+1,zo,u,v,rfl,hu,hv⟩
  rintro⟨s,hs,hw⟩
  by_cases e:s<=r
  ·exact .inl ⟨s,e,hw⟩
  obtain rfl:s=r+1:=zo;obtain⟨u,v,rfl,hu,hv⟩:=hw;exact .inr ⟨u,v,rfl,⟨r,IV _,hu⟩,hv⟩
theorem zL{ms:List Int}{k c:Int}(hk:4<=k):Says ms (uX ms k c) (fun w=>(k=4\/k=6\/k=8\/k=9)/\w=[]):=fun i j hi hj=>by
 unfold uX
 by_cases e:i=j
 ·subst e;rw[if_pos rfl,vH,decide_eq_true_eq];exact⟨fun h=>⟨IV _,h,rfl⟩,fun h=>h.2.1⟩
 rw[if_neg e,if_neg zo];refine⟨fun h=>(by cases h),fun⟨h1,_,h2⟩=>?_⟩;have:=congrArg Jf h2;rw[mN ms h1 hj]at this;simp at this;omega
theorem Ac{k c m:Int}(hk:k=0/\0<=c/\c<36\/k=1\/k=2\/k=3):GP k c m=bY k c m:=by
 unfold GP bY
 rcases hk with⟨rfl,h1,h2⟩|rfl|rfl|rfl
 ·rw[if_pos rfl,if_pos rfl]
  by_cases e:m=c
  ·subst e;rw[decide_eq_true h1,decide_eq_true h2];rfl
  rw[beq_eq_false_iff_ne.2 e,Bool.and_false]
 ·rw[if_neg zd,if_pos rfl,if_neg zd,if_pos rfl];congr 1;exact decide_eq_decide.2 zo
 ·rw[if_neg zd,if_neg zd,if_pos rfl,if_neg zd,if_neg zd,if_pos rfl];congr 2;exact decide_eq_decide.2 zo
 rw[if_neg zd,if_neg zd,if_neg zd,if_neg zd,if_neg zd,if_neg zd];rfl
theorem jF{ms:List Int}{k c:Int}(hk:k=0/\0<=c/\c<36\/k=1\/k=2\/k=3):Says ms (uX ms k c) (fun w=>∃m,w=[m]/\bY k c m=true):=fun i j hi hj=>by
 unfold uX
 by_cases e:i=j
 ·subst e;rw[if_pos rfl,vH,decide_eq_false zo];exact⟨fun h=>(by cases h),fun⟨_,m,h,_⟩=>by cases h⟩
 rw[if_neg e]
 by_cases e2:j=i+1
 ·subst e2;rw[if_pos ⟨rfl,zo⟩,Du zo,Ac hk];exact⟨fun h=>⟨zo,_,rfl,h⟩,fun⟨_,m,h,ht⟩=>by cases h;exact ht⟩
 rw[if_neg zo];refine⟨fun h=>(by cases h),fun⟨h1,m,h2,_⟩=>?_⟩;have:=congrArg Jf h2;rw[mN ms h1 hj]at this;simp at this;omega
theorem BY{P:List Int->Prop}{w:List Int}(h:Lh P w):w=[]\/∃s,s+1<=w.length/\∃l:List (List Int),l.length=s+1/\w=l.flatten/\∀u∈l,P u:=by
 induction h with
 |nil=>exact .inl rfl
 | @cons u v hu hv ih=>
  by_cases a0:u=[]
  ·subst a0;rw[JS];exact ih
  have a1:0<u.length:=Kj.2 a0
  rcases ih with rfl|⟨s,hs,l,hl,rfl,hP⟩
  ·exact .inr ⟨0,by rw[I8];exact a1,[u],rfl,by simp,fun x hx=>by rw[ln.1 hx];exact hu⟩
  refine .inr ⟨s+1,by rw[I7];omega,u::l,by simp[hl],rfl,fun x hx=>?_⟩
  rcases I2.1 hx with rfl|hx
  ·exact hu
  exact hP x hx
theorem C4{P:List Int->Prop}:∀(s:Nat) (l:List (List Int)),l.length=s+1->(∀u∈l,P u)->Gx P s l.flatten
 |0,l,hl,hP=>by
  match l,hl with
  |[u],_=>have:=hP u (by simp);show P _;simpa using this
 |s+1,l,hl,hP=>by
  have a0:l≠[]:=fun e=>by rw[e]at hl;cases hl
  refine⟨l.dropLast.flatten,l.getLast a0,?_,C4 s _ (by rw[List.length_dropLast];omega) (fun u hu=>hP u (List.dropLast_subset l hu)),hP _ (List.getLast_mem a0)⟩
  conv=>lhs;rw[<-List.dropLast_concat_getLast a0]
  simp
theorem vN{P:List Int->Prop}:∀(s:Nat) (w:List Int),Gx P s w->∃l:List (List Int),l.length=s+1/\w=l.flatten/\∀u∈l,P u
 |0,w,h=>⟨[w],rfl,by simp,fun u hu=>by rw[ln.1 hu];exact h⟩
 |s+1,w,⟨u,v,e,hu,hv⟩=>by
  obtain⟨l,h1,h2,h3⟩:=vN s u hu;refine⟨l++[v],by simp[h1],by rw[e,h2];simp,fun x hx=>?_⟩
  rcases IT.1 hx with hx|hx
  ·exact h3 x hx
  rw[ln.1 hx];exact hv
theorem rC{P:List Int->Prop}:∀(l:List (List Int)),(∀u∈l,P u)->Lh P l.flatten
 |[],_=>.nil
 |u::l,h=>.cons (h u (by simp)) (rC l (fun x hx=>h x (by simp[hx])))
theorem sq{ms:List Int}:∀(l:List Nd),(∀t∈l,Says ms (fp ms t) (Lg t))->∀(a0:Tb) (L:List Int->Prop),Says ms a0 L->Says ms (eB ms 4 l a0) (fun w=>∃u v,w=u++v/\L u/\LB l v)
 |[],_,a0,L,h=>by
  unfold eB;refine h.congr fun w=>?_
  constructor
  ·intro hw;exact⟨w,[],by simp,hw,by unfold LB;rfl⟩
  rintro⟨u,v,rfl,hu,hv⟩;unfold LB at hv;subst hv
  rwa[I8]
 |t::r,hl,a0,L,h=>by
  unfold eB;have h1:Says ms (stepT (ms.length+1) 4 a0 (fp ms t)) (fun w=>∃u v,w=u++v/\L u/\Lg t v):=vI h (hl t (by simp));refine(sq r (fun x hx=>hl x (by simp[hx])) _ _ h1).congr fun w=>?_
  constructor
  ·rintro⟨_,v,rfl,⟨a,b,rfl,ha,hb⟩,hv⟩;exact⟨a,b++v,by rw[IQ],ha,by unfold LB;exact⟨b,v,rfl,hb,hv⟩⟩
  rintro⟨a,v,rfl,ha,hv⟩;unfold LB at hv;obtain⟨b,v',rfl,hb,a1⟩:=hv;exact⟨a++b,v',by rw[IQ],⟨a,b,rfl,ha,hb⟩,a1⟩
theorem nf{ms:List Int}{k:Int}(h4:k≠4)(h6:¬(k=6\/k=7)):∀(l:List Nd),(∀t∈l,Says ms (fp ms t) (Lg t))->∀(a0:Tb) (L:List Int->Prop),Says ms a0 L->Says ms (eB ms k l a0) (fun w=>L w\/Lw l w)
 |[],_,a0,L,h=>by
  unfold eB;refine h.congr fun w=>⟨.inl,fun hw=>hw.elim id fun hw=>?_⟩
  unfold Lw at hw;exact hw.elim
 |t::r,hl,a0,L,h=>by
  unfold eB;have h1:Says ms (stepT (ms.length+1) k a0 (fp ms t)) (fun w=>L w\/Lg t w):=by
   unfold stepT;rw[if_neg h4,if_neg h6];exact pY h (hl t (by simp))
  refine(nf h4 h6 r (fun x hx=>hl x (by simp[hx])) _ _ h1).congr fun w=>?_
  rw[Lw];exact or_assoc
theorem rM{ms:List Int}{t:Tb}{L:List Int->Prop}(h:Says ms t L):Says ms (Gc (ms.length+1) t (ms.length+1)) (fun w=>∃u v,w=u++v/\L u/\Lh L v):=fun i j hi hj=>by
 rw[vJ h _ i j hi hj];refine and_congr_right fun a0=>?_
 have hl:=mN ms a0 hj
 constructor
 ·rintro⟨s,_,hw⟩;obtain⟨l,h1,h2,h3⟩:=vN s _ hw
  match l,h1,h3 with
  |u::r,_,h3=>exact⟨u,r.flatten,h2,h3 u (by simp),rC r (fun x hx=>h3 x (by simp[hx]))⟩
 rintro⟨u,v,e,hu,hv⟩;have a1:v.length<=ms.length:=by have:=congrArg Jf e;rw[I7]at this;omega
 rw[e]
 rcases BY hv with rfl|⟨s,hs,l,h1,rfl,h3⟩
 ·exact⟨0,IG _,by rw[I8];exact hu⟩
 refine⟨s+1,zo,?_⟩
 have:=C4 (s+1) (u::l) (by simp[h1]) (fun x hx=>by
  rcases I2.1 hx with rfl|hx
  ·exact hu
  exact h3 x hx)
 exact this
theorem lg4(c:Int)(l:List Nd)(w:List Int):Lg (.mk 4 c l) w↔LB l w:=by rw[Lg];simp
theorem lg5(c:Int)(l:List Nd)(w:List Int):Lg (.mk 5 c l) w↔Lw l w:=by rw[Lg];simp
theorem lg6(c:Int)(t:Nd)(w:List Int):Lg (.mk 6 c [t]) w↔Lh (Lg t) w:=by
 have eH:LgH [t]=Lg t:=by rw[LgH]
 rw[Lg,<-eH];simp
theorem lg7(c:Int)(t:Nd)(w:List Int):Lg (.mk 7 c [t]) w↔∃u v,w=u++v/\Lg t u/\Lh (Lg t) v:=by
 have eH:LgH [t]=Lg t:=by rw[LgH]
 rw[Lg,<-eH];simp
theorem lg8(c:Int)(t:Nd)(w:List Int):Lg (.mk 8 c [t]) w↔w=[]\/Lg t w:=by
 have eH:LgH [t]=Lg t:=by rw[LgH]
 rw[Lg,<-eH];simp
mutual
theorem oU(ms:List Int):∀(t:Nd) (wi:Bool),lX t wi=true->Says ms (fp ms t) (Lg t)
 |.mk k c l,wi,h=>by
  unfold lX at h
  rw[IN]at h
  have hall:=su ms l h.2
  have hb:=fun hk:4<=k=>zL (ms:=ms) (c:=c) hk
  unfold fp
  rcases pc h.1 with⟨rfl,hn,h1,h2⟩|⟨rfl,hn,h1⟩|⟨rfl,hn,h1,h2⟩|⟨rfl,hn,h1⟩|⟨rfl,hn,h1⟩|⟨rfl,hn,h1⟩|⟨rfl,hn,h1⟩|⟨rfl,hn,h1⟩|⟨rfl,hn,h1⟩|⟨rfl,hn,h1,h2⟩
  ·obtain rfl:=I5 hn
   unfold eB
   exact(jF (.inl ⟨rfl,h1,h2⟩)).congr fun w=>by rw[Lg];simp
  ·obtain rfl:=I5 hn
   unfold eB
   exact(jF (.inr (.inl rfl))).congr fun w=>by rw[Lg];simp
  ·obtain rfl:=I5 hn
   unfold eB
   exact(jF (.inr (.inr (.inl rfl)))).congr fun w=>by rw[Lg];simp
  ·obtain rfl:=I5 hn
   unfold eB
   exact(jF (.inr (.inr (.inr rfl)))).congr fun w=>by rw[Lg];simp
  ·refine(sq l hall _ _ (hb zd)).congr fun w=>?_
   rw[lg4]
   constructor
   ·rintro⟨u,v,rfl,⟨_,rfl⟩,hv⟩;exact hv
   intro hw;exact⟨[],w,rfl,⟨.inl rfl,rfl⟩,hw⟩
  ·refine(nf zd zd l hall _ _ (hb zd)).congr fun w=>?_
   rw[lg5]
   exact⟨fun hw=>hw.elim (fun hw=>absurd hw.1 zd) id,.inr⟩
  ·match l,hn,hall with
   |[t],_,hall=>
    have ht:=hall t (by simp)
    have h3:Says ms (eB ms 6 [t] (uX ms 6 c)) _:=pY (hb zd) (rM ht)
    refine h3.congr fun w=>?_
    rw[lg6]
    constructor
    ·rintro(⟨_,rfl⟩|⟨u,v,rfl,hu,hv⟩)
     ·exact .nil
     exact .cons hu hv
    intro hw
    cases hw with
    |nil=>exact .inl ⟨zd,rfl⟩
    |cons hu hv=>exact .inr ⟨_,_,rfl,hu,hv⟩
  ·match l,hn,hall with
   |[t],_,hall=>
    have ht:=hall t (by simp)
    have h3:Says ms (eB ms 7 [t] (uX ms 7 c)) _:=pY (hb zd) (rM ht)
    refine h3.congr fun w=>?_
    rw[lg7]
    constructor
    ·rintro(⟨h,_⟩|hw)
     ·exact absurd h zd
     exact hw
    exact .inr
  ·match l,hn,hall with
   |[t],_,hall=>
    refine(nf zd zd [t] hall _ _ (hb zd)).congr fun w=>?_
    rw[lg8]
    constructor
    ·rintro(⟨_,hw⟩|hw)
     ·exact .inl hw
     rw[Lw,Lw]at hw
     exact .inr (hw.elim id False.elim)
    rintro(hw|hw)
    ·exact .inl ⟨zd,hw⟩
    exact .inr (by rw[Lw];exact .inl hw)
  obtain rfl:=I5 hn
  unfold eB
  refine(hb zd).congr fun w=>?_
  rw[Lg];simp
theorem su(ms:List Int):∀(l:List Nd),ox l=true->∀t∈l,Says ms (fp ms t) (Lg t)
 |[],_,t,ht=>by cases ht
 |a::r,h,t,ht=>by
  unfold ox at h
  rw[IN]at h
  have h1:=oU ms a true h.1
  have h2:=su ms r h.2
  rcases I2.1 ht with e|ht
  ·rw[e];exact h1
  exact h2 t ht
end
theorem nc(ms:List Int){t:Nd}(h:bn t=true):Says ms (fp ms t) (Lg t):=by
 unfold bn at h;rw[IN]at h;exact oU ms t false h.2
section
variable{α:Type}
def GR(n:Nat)(p q:Nat->α)(j:Nat):List α:=(JW n).map fun t=>if t<j then p t else q t
theorem FY(n:Nat)(p q:Nat->α){j:Nat}(h:p j=q j):GR n p q j=GR n p q (j+1):=by
 unfold GR;refine List.map_congr_left fun t _=>?_
 by_cases e:t=j
 ·subst e;rw[if_neg zo,if_pos zo,h]
 by_cases e2:t<j
 ·rw[if_pos e2,if_pos zo]
 rw[if_neg e2,if_neg zo]
end
def tD(li lk ids:List Int):Nat->List Int
 |0=>[36]
 |k+1=>if tw li lk ids k=true then tD li lk ids k else tD li lk ids k++[((aG (nth ids k):Nat):Int)]
theorem BQ(li lk a0:List Int):∀k,(tD li lk a0 k).length<=k+1/\1<=(tD li lk a0 k).length
 |0=>⟨IV _,IV _⟩
 |k+1=>by
  obtain⟨h1,h2⟩:=BQ li lk a0 k;unfold tD
  split
  ·exact⟨zo,h2⟩
  rw[I7,I1];exact⟨zo,zo⟩
def atN(li lk a0:List Int)(i:Nat):Nat:=if tw li lk a0 i=true then 0 else(tD li lk a0 i).length
def pK(f:Tb)(a:Nat):Nat->Bool
 |0=>false
 |k+1=>pK f a k||f k a
theorem nK(f:Tb)(a:Nat):∀k,pK f a k=true↔∃m,m<k/\f m a=true
 |0=>by simp[pK]
 |k+1=>by
  unfold pK;rw[J7,nK f a k]
  constructor
  ·rintro(⟨m,h1,h2⟩|h)
   ·exact⟨m,zo,h2⟩
   exact⟨k,zo,h⟩
  rintro⟨m,h1,h2⟩
  by_cases e:m=k
  ·subst e;exact .inr h2
  exact .inl ⟨m,zo,h2⟩
def lr(f:Tb)(a:Nat):Nat->Bool
 |0=>false
 |k+1=>lr f a k||f a (a+k)
theorem lJ(f:Tb)(a:Nat):∀k,lr f a k=true↔∃m,m<k/\f a (a+m)=true
 |0=>by simp[lr]
 |k+1=>by
  unfold lr;rw[J7,lJ f a k]
  constructor
  ·rintro(⟨m,h1,h2⟩|h)
   ·exact⟨m,zo,h2⟩
   exact⟨k,zo,h⟩
  rintro⟨m,h1,h2⟩
  by_cases e:m=k
  ·subst e;exact .inr h2
  exact .inl ⟨m,zo,h2⟩
def Df(ms:List Int)(x:R3)(a:Nat):Bool:=pK (fp ms x.1) a (a+1)&&lr (fp ms x.2.1) a (ms.length+1-a)
def pr(ms:List Int)(a:Nat):List R3->Nat->Int
 |[],_=>-1
 |x::l,r=>if Df ms x a=true then(r:Int)else pr ms a l (r+1)
theorem jh(ms:List Int)(a:Nat):∀(l:List R3) (r:Nat),(pr ms a l r = -1/\∀i,i<l.length->Df ms (nth l i) a=false)\/∃i,i<l.length/\pr ms a l r=((r+i:Nat):Int)/\Df ms (nth l i) a=true/\∀j,j<i->Df ms (nth l j) a=false
 |[],r=>.inl ⟨rfl,fun i hi=>absurd hi (IX i)⟩
 |x::l,r=>by
  unfold pr
  by_cases hx:Df ms x a=true
  ·rw[if_pos hx];exact .inr ⟨0,Nat.succ_pos _,rfl,by rw[ao];exact hx,fun j hj=>absurd hj (IX j)⟩
  rw[if_neg hx];have a0:Df ms x a=false:=by simpa using hx
  rcases jh ms a l (r+1)with⟨h1,h2⟩|⟨i,h1,h2,h3,h4⟩
  ·refine .inl ⟨h1,fun i hi=>?_⟩
   cases i with
   |zero=>rw[ao];exact a0
   |succ i=>rw[aI];exact h2 i (by simpa using hi)
  refine .inr ⟨i+1,by simpa using h1,by rw[h2];congr 1;omega,by rw[aI];exact h3,fun j hj=>?_⟩
  cases j with
  |zero=>rw[ao];exact a0
  |succ j=>rw[aI];exact h4 j zo
def gi(li lk a0:List Int)(ts:List R3)(r i:Nat):Int:=if tw li lk a0 i=true then -2 else pr (tD li lk a0 a0.length) (atN li lk a0 i) (ts.drop r) r
def Bh(li lk a0:List Int)(ts:List R3)(i:Nat):Bool:=gi li lk a0 ts 0 i == -1||(decide (0<=gi li lk a0 ts 0 i)&&(nth ts (gi li lk a0 ts 0 i).toNat).2.2)
def qK(li lk a0:List Int)(ts:List R3):List Bool:=true::(JW (a0.length-1)).map (fun i=>Bh li lk a0 ts (i+1))++if 0<a0.length then [true]else []
theorem vd{ms:List Int}{t:Nd}(h:bn t=true){a:Nat}(ha:a<=ms.length):pK (fp ms t) a (a+1)=true↔∃u v,ms.take a=u++v/\Lg t v:=by
 rw[nK];have hS:=nc ms h
 constructor
 ·rintro⟨m,h1,h2⟩;obtain⟨_,h3⟩:=(hS m a zo ha).1 h2;refine⟨ms.take m,seg ms m a,?_,h3⟩;have:=tO ms (IG m) (show m<=a by omega);simpa[seg]using this
 rintro⟨u,v,e,h3⟩;have hl:=congrArg Jf e;rw[List.length_take,I7]at hl;have e0:seg ms 0 a=u++v:=by simpa[seg]using e
 obtain⟨s1,s2,s3⟩:=rL (IG a) ha e0;rw[JO]at s1 s3;exact⟨u.length,zo,(hS _ a zo ha).2 ⟨s1,s3▸h3⟩⟩
theorem te{ms:List Int}{t:Nd}(h:bn t=true){a:Nat}(ha:a<=ms.length):lr (fp ms t) a (ms.length+1-a)=true↔∃u v,ms.drop a=u++v/\Lg t u:=by
 rw[lJ];have hS:=nc ms h
 constructor
 ·rintro⟨m,h1,h2⟩;obtain⟨_,h3⟩:=(hS a (a+m) ha zo).1 h2;refine⟨seg ms a (a+m),ms.drop (a+m),?_,h3⟩;unfold seg;rw[show a+m-a=m from by omega,<-KO,JC]
 rintro⟨u,v,e,h3⟩;have hl:=congrArg Jf e;rw[List.length_drop,I7]at hl;refine⟨u.length,zo,(hS a _ ha zo).2 ⟨zo,?_⟩⟩;unfold seg;rw[show a+u.length-a=u.length from by omega,e,JR]
 ·exact h3
 rfl
theorem sR{ms:List Int}{ts:List R3}(hr:∀t∈ts,bn t.1=true/\bn t.2.1=true){a:Nat}(ha:a<=ms.length){a0 after:List Nat}(hb:ints a0=ms.take a)(hf:ints after=ms.drop a):FirstR ts a0 after (pr ms a ts 0):=by
 have a1:∀i,eI ts a0 after i↔i<ts.length/\Df ms (nth ts i) a=true:=fun i=>by
  unfold eI;refine and_congr_right fun hi=>?_
  obtain⟨r1,r2⟩:=hr _ (aJ hi);unfold Df;rw[IN,vd r1 ha,te r2 ha,hb,hf,dj hi,dj hi]
 rcases jh ms a ts 0 with⟨h1,h2⟩|⟨i,h1,h2,h3,h4⟩
 ·refine .inl ⟨h1,fun i hi=>?_⟩;obtain⟨k1,k2⟩:=(a1 i).1 hi;rw[h2 i k1]at k2;cases k2
 refine .inr ⟨i,by rw[h2,JO],(a1 i).2 ⟨h1,h3⟩,fun j hj hA=>?_⟩;have:=((a1 j).1 hA).2;rw[h4 j hj]at this;cases this
theorem vG{l:List Int}(h:∀c∈l,0<=c/\c<=35)(c:Nat):(cu l).testBit c=decide ((c:Int)∈l):=by
 have a0:∀(l:List Int),(∀c∈l,0<=c/\c<=35)->∀b:Nat,(l.foldl (fun b c=>b ||| 2^c.toNat) b).testBit c=(b.testBit c||decide ((c:Int)∈l)):=by
  intro l
  induction l with
  |nil=>intro _ b;simp
  |cons x r ih=>
   intro hl b;have hx:=hl x (by simp);rw[KG,ih (fun y hy=>hl y (by simp[hy])),JZ,Km,Bool.or_assoc];congr 1;rw[Bool.eq_iff_iff,J7,decide_eq_true_eq,decide_eq_true_eq,decide_eq_true_eq,I2];refine or_congr_left ?_;omega
 have:=a0 l h 0;simpa[cu]using this
theorem qA(t:TabM)(li lk a0:List Int)(a2:∀c:Nat,t.ig.testBit c=decide ((c:Int)∈li))(a1:∀c:Nat,t.kp.testBit c=decide ((c:Int)∈lk)):∀(r:List Int) (k:Nat),r=a0.drop (k+1)->∀j,j<r.length->nth (iM t (aG (nth a0 k),tw li lk a0 k) r) j=(aG (nth a0 (k+1+j)),tw li lk a0 (k+1+j))
 |[],_,_,j,hj=>absurd hj (IX j)
 |c::r,k,e,j,hj=>by
  have hk:k+1<a0.length:=by
   refine JP fun hn=>?_
   rw[List.drop_of_length_le zo]at e;cases e
  rw[Jn hk,<-aC hk]at e;obtain⟨rfl,e2⟩:=Lr e;have hh:(t.ig.testBit (aG (nth a0 (k+1)))&&(tw li lk a0 k || !(t.kp.testBit (aG (nth a0 k)))))=tw li lk a0 (k+1):=by rw[a2,a1,tw]
  unfold iM;dsimp only;rw[hh]
  cases j with
  |zero=>rw[ao,Nat.add_zero]
  |succ j=>
   rw[aI,qA t li lk a0 a2 a1 r (k+1) e2 j (by simpa using hj),show k+1+(j+1)=k+1+1+j from by omega]
theorem tC(t:TabM)(li lk:List Int)(c:Int)(r:List Int)(a1:∀c:Nat,t.ig.testBit c=decide ((c:Int)∈li))(a0:∀c:Nat,t.kp.testBit c=decide ((c:Int)∈lk)):∀n,n<=r.length->tD li lk (c::r) (n+1)=ints ([36,aG c]++ee ((iM t (aG c,false) r).take n))
 |0,_=>by
  unfold tD tD;rw[KL,if_neg (by rw[tw];simp),ao];rfl
 |n+1,hn=>by
  have hL:=iu t r (aG c,false);have hx:=qA t li lk (c::r) a1 a0 r 0 rfl n hn;rw[ao,show tw li lk (c::r) 0=false from rfl,show 0+1+n=n+1 from by omega]at hx;rw[tD,tC t li lk c r a1 a0 n zo,aM zo,hx,ml,<-IQ];generalize [36,aG c]++ee ((iM t (aG c,false) r).take n)=X
  cases tw li lk (c::r) (n+1)with
  |true=>
   show ints X=ints (X++[]);rw[I8]
  |false=>
   show ints X++[((aG (nth (c::r) (n+1)):Nat):Int)]=ints (X++[aG (nth (c::r) (n+1))]);unfold ints;rw[Jg];rfl
section
variable{li lk:List Int}{ts:List R3}{a b:List (List Nat)×List Nat}{clA clB:Nat→Nat}
theorem Made.ig(h:Made li lk ts a b clA clB)(c:Nat):(bz li lk ts a b clA clB).ig.testBit c=decide ((c:Int)∈li):=vG (dO h.rt).2.1 c
theorem Made.kp(h:Made li lk ts a b clA clB)(c:Nat):(bz li lk ts a b clA clB).kp.testBit c=decide ((c:Int)∈lk):=vG (dO h.rt).2.2.1 c
theorem Made.row(h:Made li lk ts a b clA clB)(c:Int):stL (bz li lk ts a b clA clB) (stL (bz li lk ts a b clA clB) 0 36) (aG c)=iX (aP clA a.1 a.2).1 [36,aG c] 0:=by
 have h0:=(h.left [] (fun m hm=>by cases hm)).1;have h1:=(h.left [36] (fun m hm=>by rw[ln.1 hm];decide)).1;rw[h.inv.left 0 36 h0 zd];have hc:=fy c;exact h.inv.left _ _ h1 zo
theorem rj(hr:∀t∈ts,bn t.1=true/\bn t.2.1=true)(t:TabM)(c:Int)(r:List Int)(a1:∀c:Nat,t.ig.testBit c=decide ((c:Int)∈li))(a0:∀c:Nat,t.kp.testBit c=decide ((c:Int)∈lk)){n:Nat}(hn:n<r.length)(hh:tw li lk (c::r) (n+1)=false):
  FirstR ts ([36,aG c]++ee ((iM t (aG c,false) r).take n)) (ee ((iM t (aG c,false) r).drop n)) (gi li lk (c::r) ts 0 (n+1)):=by
 have hL:=iu t r (aG c,false);have hw:=tC t li lk c r a1 a0 n zo;have hN:=tC t li lk c r a1 a0 r.length (IV _);rw[K6 zo]at hN;have a2:ee (iM t (aG c,false) r)=ee ((iM t (aG c,false) r).take n)++ee ((iM t (aG c,false) r).drop n):=by rw[<-ml,JC]
 have hA:atN li lk (c::r) (n+1)=(tD li lk (c::r) (n+1)).length:=by unfold atN;rw[hh];rfl
 have e0:tD li lk (c::r) (c::r).length=tD li lk (c::r) (n+1)++ints (ee ((iM t (aG c,false) r).drop n)):=by
  rw[hw,IJ,hN,a2,<-IQ];unfold ints;rw[Jg]
 unfold gi;rw[hh,if_neg zd,KN,hA,e0];refine sR hr (by rw[I7];omega) ?_ ?_
 ·rw[JR rfl,hw]
 rw[List.drop_left' rfl]
theorem yB(li lk a0:List Int)(ts:List R3)(i:Nat):Bh li lk a0 ts i=if tw li lk a0 i=true then false else brk ts (gi li lk a0 ts 0 i):=by
 unfold Bh brk
 split
 ·rename_i hh;have:gi li lk a0 ts 0 i = -2:=by unfold gi;rw[if_pos hh]
  rw[this];rfl
 rename_i hh;have hk : -1<=gi li lk a0 ts 0 i:=by
  unfold gi;rw[if_neg hh]
  rcases jh (tD li lk a0 a0.length) (atN li lk a0 i) (ts.drop 0) 0 with⟨h1,_⟩|⟨_,_,h1,_⟩<;>rw[h1]<;>omega
 generalize gi li lk a0 ts 0 i=k at *
 by_cases e:k = -1
 ·subst e;rfl
 rw[decide_eq_false (show¬k<0 by omega),decide_eq_true (show 0<=k by omega),K1,K0,show(k == -1)=false from by simpa using e,K1]
theorem Made.rules2(h:Made li lk ts a b clA clB):∀t∈ts,bn t.1=true/\bn t.2.1=true:=fun t ht=>⟨(h.rules t ht).1,(h.rules t ht).2.1⟩
theorem Made.breaks(h:Made li lk ts a b clA clB)(a0:List Int)(hn:a0.length<=100000):eW (bz li lk ts a b clA clB) a0=qK li lk a0 ts:=by
 cases a0 with
 |nil=>rfl
 |cons c r=>
  obtain⟨p1,p2⟩:=gq (bz li lk ts a b clA clB) c r;unfold eW qK;rw[p1,p2,h.row,IJ,Ku];congr 2;have hL:=iu (bz li lk ts a b clA clB) r (aG c,false);have a1:∀m∈[36,aG c],m<37:=fun m hm=>by
   have:=fy c;simp only[I2,IE,or_false]at hm;omega
  refine List.ext_getElem (by rw[fx,hL];simp) fun i h1 h2=>?_
  have hi:i<r.length:=by simpa using h2
  rw[<-aC h1,Ky,Ko];obtain⟨k,k1,k2⟩:=h.closeL (iM (bz li lk ts a b clA clB) (aG c,false) r) [36,aG c] a1 (uJ _ _ _) (by rw[hL];simp at hn;omega) i zo;have hx:=qA (bz li lk ts a b clA clB) li lk (c::r) h.ig h.kp r 0 rfl i hi;rw[ao,show tw li lk (c::r) 0=false from rfl,show 0+1+i=i+1 from by omega]at hx;rw[k2,hx,yB]
  cases hh:tw li lk (c::r) (i+1)with
  |true=>rfl
  |false=>
   have:=rj h.rules2 _ c r h.ig h.kp hi hh;rw[this.uniq k1];rfl
end
section
abbrev mv(m:M3):ix:=.agg (kF m).toArray
theorem jU{F:Kw}(hF:∀(args:Array ix) (w:I0),(callFunc F args).run IS w=.ok (.enter F args) w)(cs:Array ix)(l:List (M3))(sv:ix)(q:Nat->Bool)(w:I0)(h:Sl kF 4 w sv l) 
  (hq:∀i,i<l.length->∀w',Ji w w'->JG IS F ([mv (nth l i)]++cs.toList) w' fun v w''=>v=.bool (q i)/\Ji w' w'') :
  JG IS 196 [sv,.func (.func F) #[] cs] w fun v w'=>v=nI (dA q l.length)/\Ji w w':=by
 have hl:=h.len_le;refine I3 func196 ntmps196 rfl rfl ?_;refine zh ?_;refine zlp (fun x:Nat×I0=>[(0,sv),(1,.func (.func F) #[] cs),(7,nI l.length),(8,nI x.1)]) (fun x=>x.2) (fun x=>x.1<=l.length/\Ji w x.2/\∀i,i<x.1->q i=false) (fun x=>l.length-x.1) (0,w) (⟨IG _,I4 _,fun i hi=>absurd hi (IX i)⟩) ?_;rintro⟨k,w1⟩ ⟨hk,hE,a1⟩;dsimp only at hk hE a1 ⊢;have h1:=h.ext hE;refine zh ?_;refine zC ?_ ?_
 ·intro a0;replace a0:k<l.length:=dT a0;refine zh ?_;refine zv (ah (us:=kF (nth l k)) (fun j u hu=>h1.cell a0 hu) (isAgg197 _) (sizeOf197 _) rfl) ?_;refine dt rfl hF rfl (hq k a0 w1 hE) rfl ?_;rintro v w2 ⟨rfl,a3⟩;refine zh ?_;refine zC ?_ ?_
  ·intro hy;refine zh ?_;refine ae rfl rfl (⟨by rw[ck a0 hy a1],hE.trans a3⟩)
  intro hy;refine zh ?_;refine zxd (k+1,w2) (⟨a0,hE.trans a3,fun i hi=>(Js.1 hi).elim (a1 i) (fun e=>by rw[e];exact hy)⟩)
 intro a2;replace a2:l.length<=k:=dF a2;refine zh ?_;refine ae rfl rfl (⟨by rw[cg fun i hi=>a1 i zo],hE⟩)
theorem gG{F:Kw}(hF:∀(args:Array ix) (w:I0),(callFunc F args).run IS w=.ok (.enter F args) w)(cs:Array ix)(l:List (M3))(sv:ix)(q:Nat->Bool)(w:I0)(h:Sl kF 4 w sv l) 
  (hq:∀i,i<l.length->∀w',Ji w w'->JG IS F ([mv (nth l i)]++cs.toList) w' fun v w''=>v=.bool (q i)/\Ji w' w'') :
  JG IS 150 [sv,.func (.func F) #[] cs] w fun v w'=>v=.bool (iG q l.length)/\Ji w w':=by
 refine I3 func150 ntmps150 rfl rfl ?_;refine zh ?_
 refine zc call196 (jU hF cs l sv q w h hq) ?_;rintro v w1 ⟨rfl,hE⟩;refine zh ?_
 refine ae rfl rfl (⟨by rw[firstN_any],hE⟩)
theorem xJ(m:M3)(s:List UInt8)(sb:Nat)(w:I0)(h:w.cell? ⟨sb,0,none⟩=some (.string (bs s))):JG IS 151 [mv m,nP sb] w fun v w'=>v=.bool (m.1==s)/\Ji w w':=by
 refine I3 func151 ntmps151 rfl rfl ?_;refine zh ?_
 refine aH (ay w) 1 zo rfl rfl ?_;intro xb w1 O1 a1 a2 a3 a0;refine zh ?_
 refine zv (RV.ld (a1.cell 0 rfl) rfl) ?_;refine zv (RV.ld (a0.cell h) rfl) ?_
 refine zvH (cI rfl rfl) ?_;refine ae rfl rfl (⟨rfl,a0⟩)
theorem nw(l:List (List UInt8))(s:List UInt8)(sv:ix)(w:I0)(h:Sl encS 1 w sv l):JG IS 149 [sv,.string (bs s)] w fun v w'=>v=.bool (l.contains s)/\w'=w:=by
 refine I3 func149 ntmps149 rfl rfl ?_;refine zh ?_
 refine zc call43 (lE l s sv w h) ?_;rintro v w9 ⟨rfl,a0⟩;rw[a0];clear a0 w9;refine zh ?_
 refine ae rfl rfl (⟨congrArg L3 ?_,rfl⟩);unfold F3
 cases hf:l.findIdx? (· == s)with
 |none=>
  have h1:=List.findIdx?_eq_none_iff.1 hf;rw[decide_eq_false zd]
  symm
  rw[Bool.eq_false_iff];intro hc;have:=h1 s (Kd.1 hc);simp at this
 |some k=>
  obtain⟨hk,h1,_⟩:=JJ.1 hf;show decide ((0:Int)<=((k:Nat):Int))=_;rw[decide_eq_true zo]
  symm
  rw[Kd,<-eq_of_beq h1];exact List.getElem_mem hk
def wordsL:List (List UInt8):=[[108,101,116],[105,103,110,111,114,101],[107,101,101,112],[97,110,121]]
def eM(kn:Kn)(s:List UInt8):Int:=if((Af s).isSome||wordsL.contains s)=true then 5 else if kn.any (fun m=>m.1==s)=true then 11 else 0
variable{kn:Kn}
theorem zj(O:Nat->Nat)(w:I0)(j jm rb:Nat)(s:LS)(q:List UInt8)(hk:Mac O w jm s.mc kn)(h:Rd6 O w j rb s):
  JG IS 110 [nP rb,.string (bs q)] w fun v w'=>v=nI (eM kn q)/\Ji w w':=by
 obtain⟨ms,a2,b1,b2⟩:=hk;have b0:=a2.sl;refine I3 func110 ntmps110 rfl rfl ?_;refine zg ?_;refine aH (ay w) 1 zo rfl rfl ?_;intro sb w1 O1 a9 b4 b5 b3;have a3:=a9.cell 0 rfl;refine zg ?_;refine zv (RV.ld a3 rfl) ?_;refine zc call112 (ie q w1) ?_;rintro v w2 ⟨rfl,a6⟩;have a1:=b3.trans a6;refine zg ?_
 cases hn:(Af q).isSome with
 |true=>
  have hM:eM kn q=5:=by unfold eM;rw[hn];rfl
  rw[hM];refine aw (d:=14) rfl (b':=true) (rfl) ?_;refine zg ?_;refine zTG rfl rfl ?_;refine ae rfl rfl (⟨rfl,a1⟩)
 |false=>
  refine aw (d:=14) rfl (b':=false) (rfl) ?_;refine zg ?_
  refine ec underlying107 (sizeOf9 _) (zeroValue9 _) encS wordsL rfl rfl rfl rfl zk zd rfl ?_;intro sv w3 a' a5;have a0:=a1.trans a5;refine zg ?_
  refine zvG (RV.ld ((a6.trans a5).cell a3) rfl) ?_;refine zc call149 (nw wordsL q sv w3 a') ?_
  rintro v w9 ⟨rfl,a7⟩;rw[a7];clear a7 w9;refine zg ?_
  cases hw:wordsL.contains q with
  |true=>
   have hM:eM kn q=5:=by unfold eM;rw[hn,hw];rfl
   rw[hM];refine zTG rfl rfl ?_;refine ae rfl rfl (⟨rfl,a0⟩)
  |false=>
   refine aT rfl rfl ?_;have q9:=a0.cell h.q9;refine zg ?_
   refine zv (RV.ld q9 rfl) ?_;refine zv (du rfl rfl) ?_
   refine zc call150 (gG call151 #[nP sb] ms s.mc (fun i=>(nth ms i).1==q) w3 (b0.ext a0) (fun i hi w' hE=>xJ (nth ms i) q sb w' (hE.cell ((a6.trans a5).cell a3)))) ?_;rintro v w4 ⟨rfl,a8⟩;have a4:iG (fun i=>(nth ms i).1==q) ms.length=kn.any (fun m=>m.1==q):=by
    rw[<-b1,<-gM (l:=kn) (p:=fun m=>m.1==q)];exact yI fun i hi=>by rw[(b2 i zo).1]
   rw[a4];refine zg ?_
   cases ha:kn.any (fun m=>m.1==q)with
   |true=>
    have hM:eM kn q=11:=by unfold eM;rw[hn,hw,ha];rfl
    rw[hM];refine zTG rfl rfl ?_;refine ae rfl rfl (⟨rfl,a0.trans a8⟩)
   |false=>
    have hM:eM kn q=0:=by unfold eM;rw[hn,hw,ha];rfl
    rw[hM];refine zFG rfl rfl ?_;refine ae rfl rfl (⟨rfl,a0.trans a8⟩)
end
end Go.Proofs.YteolbhblkgjbhaaGreatDoor
