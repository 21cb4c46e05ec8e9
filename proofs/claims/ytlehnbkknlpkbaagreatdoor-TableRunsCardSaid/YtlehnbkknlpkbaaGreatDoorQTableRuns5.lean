/- Texts that the proof of this statement needs, merged and shortened. -/
import Derived.Test.YtlehnbkknlpkbaaGreatDoorQTableRuns4
open Go renaming Value->ix,World->la,TypeId->JW,Addr->L3,Program->Lc,Operand->LG,Oper->Ma
open List renaming mem_singleton->ka,length_singleton->Gb,mem_cons->Gc,eq_nil_of_length_eq_zero->Gv,replicate->I4,append_nil->J0,all_cons->J3,mem_append->J5,length_map->J6,not_mem_nil->J7,range->J9,getElem?_append_right->Ji,length_append->Jp,mem_map->Jq,length_cons->Jr,append_assoc->Jy,take_length->JA,map_append->JJ,getElem_range->JL,getElem_map->JS,length_set->JU,foldl_cons->JV,getElem?_eq_some_iff->K1,getElem?_append_left->K2,foldl_append->K5,set_append_right->Kh,getElem?_toArray->Ki,length->Kk,replicate_succ->Kp,length_pos_iff->Kq,size_toArray->Kx,flatMap_cons->Ky,any_eq_false->Kz,getElem_set->KD,ext_getElem->KE,range_succ->KH,nil_append->KI,mem_range->KQ,exists_cons_of_ne_nil->KR,drop_eq_getElem_cons->KU,map_cons->KV,getElem_replicate->KY,all_nil->KZ,mem_of_mem_take->L5,map_congr_left->L9,map_toArray->Li,flatMap_nil->Lj,cons_append->Lk,any_eq_true->Ll,append_inj->Lr,map_nil->LH,map_map->LJ,drop->M5
open Go.VL.Ext renaming refl->ln
open Go.VL.WH renaming one->Gh,done->Ju,leaf->Ke
open Go.VL.Ret renaming enter->Gi
open Go.VL.RV renaming move->GT,assign->Jn,build->Kb,extract->Kf,not->Lh,lss->M6,add->M7
open Go.VL.Upd renaming setRow->GY,trans->J2,mono->JQ,set->L1,refl->Lz
open Go.VL.WL renaming nil->GZ,storeAt->JM,off->Kd,push->Mn
open Nat renaming zero_le->IJ,or_lt_two_pow->JE,pow_lt_pow_right->JG,le_refl->JH,add_sub_cancel_left->JN,div_eq_of_lt->Ka,not_lt_zero->Kg,pow_le_pow_right->Ko,lt_of_lt_of_le->Ku,lt_of_le_of_lt->Kv,le_trans->KB,one_mul->KG,add_assoc->KW,testBit_two_pow_mul->KX,and_le_right->Lq,two_pow_pos->Lu,testBit_or->LB,zero_add->LO,sub_self->LP,add_mul->LV,blt->Mh
open Go.VL.RowT renaming upd->J1,nil->L4
open Go.VL.WC renaming region->J4,seq->Jt,ret->Le,skip->Lo,block->Mf,tail->Mo
open Go.Proofs.Tryz renaming underlying66->J8,sizeOf4->Jo,sizeOf86->Jv,sizeOf114->Jz,underlying123->JB,zeroValue35->JD,prog->JF,sizeOf35->JO,zeroValue86->JR,underlying22->JT,sizeOf66->JX,sizeOf33->JY,zeroValue114->Kl,isAgg86->Km,sizeOf3->Kw,isAgg35->KK,isAgg33->KL,isAgg114->KM,underlying112->L7,underlying64->Lb,zeroValue30->Ln,call32->Ly,sizeOf30->LX,sizeOf28->LY,call51->LZ,underlying31->M8,zeroValue33->Me,call93->Mk,call72->Ml,call40->Mm
open Bool renaming and_eq_true->Js,false_or->K8,true_and->Kr,or_eq_true->KJ,true_or->L0,not_eq_true'->Ld,false_and->Lw
open Go.VL renaming Upd->Jw,RowT->K4,Ints->Kj,Ext->KC,Rng->KF,Ret->KN,Free->KO,BlkO->KP,NewV->L2,Elem->Mc
open Go.Proofs.YtlehnbkknlpkbaaGreatDoor renaming RightD->JC,PSt->Lt,StarP->M0,RowsG->Mg,LgA->Mi,LgS->Mp
open Go.VL.Free renaming upd->JI
open UInt8 renaming ofNat->JK,toNat->LD
open Go.Value renaming oneCell'->JP,bool->JZ,ownBlock->Lp,int->LU
open Option renaming none->K0,some->KA
open Int renaming toNat_natCast->K6,le_refl->K7
open Go.VL.Sl renaming ext->K9
open Go.Lib renaming ctz->Kc,deBruijn64tab->Lm,lowest_bit->LC,ctzFrom->LW
open Go.VL.Fit renaming i64->KS
open Go.Addr renaming add->KT
open Go.VL.BlkO renaming setRow->L6,upd->Lx
open Go.Result renaming andThen_ok->L8
open Go.IntKind renaming wrap_u64->La,u64->Lv
open Go.World renaming setCell->Ls
open Go.Proofs renaming TabAt->LF
open Go.Sem renaming run_bind->LK
open Go.VL.Rng renaming upd->LL
open Go.Proofs.YtlehnbkknlpkbaaGreatDoor.PSt renaming lay->LN
open Go.Instr renaming fill->LQ
open Option.some renaming injEq->M1,inj->M4
open Go.Value.agg renaming inj->M9
open List.cons renaming injEq->Mb
open Classical renaming byContradiction->Md
open Function renaming comp_apply->Mj
open Go.Builtin renaming append_->Mq
set_option maxRecDepth 10000
open Go.VL Go.Proofs Go.Proofs.Tryz
namespace Go.Proofs.YtlehnbkknlpkbaaGreatDoor
theorem pV(f:Ent->Int)(s:Nat):∀(A:List Ent) (l:List Int),(∀x∈A,x.1<l.length)->(∀x∈A,x.1≠s)->nth (dz f A l) s=nth l s
 |[],_,_,_=>rfl
 |x::A,l,h,hs=>by
  have:=pV f s A (l.set x.1 (f x)) (fun y hy=>by simpa using h y (by simp[hy])) (fun y hy=>hs y (by simp[hy]));simp only[dz,JV]at this ⊢;rw[this,aT (h x (by simp)),if_neg (fun e=>hs x (by simp) e.symm)]
theorem ko(f:Ent->Int):∀(A:List Ent) (l:List Int),(A.map (·.1)).Nodup->(∀x∈A,x.1<l.length)->∀x∈A,nth (dz f A l) x.1=f x
 |[],_,_,_,x,hx=>by simp at hx
 |y::A,l,hn,h,x,hx=>by
  simp only[KV,List.nodup_cons,Jq]at hn;have hl:∀z∈A,z.1<(l.set y.1 (f y)).length:=fun z hz=>by simpa using h z (by simp[hz])
  rcases Gc.1 hx with rfl|hx
  ·have:=pV f x.1 A (l.set x.1 (f x)) hl (fun z hz e=>hn.1 ⟨z,hz,e⟩);simp only[dz,JV]at this ⊢;rw[this,aT (h x (by simp)),if_pos rfl]
  have:=ko f A (l.set y.1 (f y)) hn.2 hl x hx;simpa only[dz,JV]using this
theorem B8{A:List Ent}(hn:(A.map (·.1)).Nodup){s r:Nat}(h:nth (eZ A) s=r)(hs:s<iz A):∃x∈A,x.1=s/\x.2.1=r:=by
 have h1:=pW A s (I4 (iz A) (-1)) (by simpa using hs) (fun y hy=>by simpa using eI hy);have h2:nth (I4 (iz A) (-1:Int)) s = -1:=by rw[aB (by simpa using hs)];simp
 rw[h2]at h1;have h3:=h1.1 (by rw[eZ]at h;rw[h];omega);simp only[ne_eq,not_true,or_false,Ll]at h3;obtain⟨x,hx,he⟩:=h3;have he:x.1=s:=by simpa using he
 refine⟨x,hx,he,?_⟩;have h4:=ko kS A (I4 (iz A) (-1)) hn (fun y hy=>by simpa using eI hy) x hx;rw[he]at h4;rw[eZ,h4]at h;unfold kS at h;omega
structure BInv(width:Int)(L:List (List Int))(k:Nat)(A:List Ent)(q:Lt):Prop where
 chk:q.check=eZ A
 nxt:q.next=kF A
 bl:q.base.length=k
 b0:∀b∈q.base,0<=b
 us:q.usual=(L.take k).map bO
 nd:(A.map (·.1)).Nodup
 mem:∀x:Ent,x∈A↔x.2.1<k/\∃c,c<(nth L x.2.1).length/\nth (nth L x.2.1) c≠bO (nth L x.2.1)/\x.1=(nth q.base x.2.1).toNat+c/\x.2.2=nth (nth L x.2.1) c
theorem qf{row:List Int}{u:Int}{c:Nat}:c∈bM row u↔c<row.length/\nth row c≠u:=by simp[bM,fX]
theorem Jl(a0:Int)(L:List (List Int)):∀k,k<=L.length->∃A,BInv a0 L k A ((L.take k).foldl LN ⟨a0,[],[],[],[]⟩):=by
 intro k
 induction k with
 |zero=>intro _;exact⟨[],⟨rfl,rfl,rfl,by simp,rfl,by simp,fun x=>by simp⟩⟩
 |succ k ih=>
  intro hk;obtain⟨A,h⟩:=ih zo;rw[aR zo,K5];generalize (L.take k).foldl LN ⟨a0,[],[],[],[]⟩=q at *;simp only[JV,List.foldl_nil];obtain⟨e1,e2⟩:=yh q A (nth L k) h.chk h.nxt;obtain⟨m1,m2,m3⟩:=yi q (nth L k);have a3:=(gF q.check (bM (nth L k) (bO (nth L k)))).1;rw[eQ,List.all_eq_true,h.chk]at a3;rw[h.chk]at e1 e2 m1;generalize hb:fZ (eZ A) (bM (nth L k) (bO (nth L k)))=b at *;rw[h.bl]at e1 e2;have a1:∀r,r<k->nth (q.base++[(b:Int)]) r=nth q.base r:=fun r hr=>by rw[aA,if_pos (by rw[h.bl];exact hr)]
  have a4:nth (q.base++[(b:Int)]) k=b:=by rw[aA,h.bl,if_neg (Nat.lt_irrefl _),LP,ar]
  refine⟨_,⟨e1,e2,by rw[m1];simp[h.bl],fun n hn=>?_,by rw[m2,h.us,aR zo];simp,?_,fun x=>?_⟩⟩
  ·rw[m1]at hn
   rcases J5.1 hn with h1|h1
   ·exact h.b0 n h1
   simp only[ka]at h1;subst h1;omega
  ·rw[JJ,List.nodup_append];refine⟨h.nd,?_,fun s hs s' a2 e=>?_⟩
   ·simp only[jG,LJ];rw[List.nodup_iff_pairwise_ne,List.pairwise_map];exact(mB (nth L k) (bO (nth L k))).imp (fun {a c} a6 e=>a6 (by simpa using e))
   subst e;simp only[jG,LJ,Jq,Mj]at a2;obtain⟨c,hc,rfl⟩:=a2;obtain⟨y,hy,a5⟩:=Jq.1 hs;have h2:=a3 c hc;rw[zG,Ld]at h2;have h3:=Kz.1 h2 y hy;exact h3 (by simp[a5])
  rw[J5,h.mem,m1]
  constructor
  ·rintro(⟨h1,c,h2,h3,h4,h5⟩|h1)
   ·exact⟨zo,c,h2,h3,by rw[a1 _ h1];exact h4,h5⟩
   simp only[jG,Jq]at h1;obtain⟨c,hc,rfl⟩:=h1;obtain⟨c1,c2⟩:=qf.1 hc;exact⟨by dsimp only;omega,c,c1,c2,by dsimp only;rw[a4];simp,rfl⟩
  rintro⟨h1,c,h2,h3,h4,h5⟩
  by_cases hr:x.2.1<k
  ·exact .inl ⟨hr,c,h2,h3,by rw[a1 _ hr]at h4;exact h4,h5⟩
  obtain⟨x1,x2,x3⟩:=x;dsimp only at h1 h2 h3 h4 h5 hr;obtain rfl:x2=k:=zo;right;rw[a4]at h4;simp only[jG,Jq];exact⟨c,qf.2 ⟨h2,h3⟩,by rw[h4,h5];simp⟩
theorem BK(a0:Int)(L:List (List Int))(r c:Nat)(hr:r<L.length)(hc:c<(nth L r).length):getM (lI a0 L) r c=nth (nth L r) c:=by
 obtain⟨A,h⟩:=Jl a0 L L.length (JH _);rw[JA]at h;have hq:L.foldl LN ⟨a0,[],[],[],[]⟩=lI a0 L:=rfl;rw[hq]at h;generalize lI a0 L=q at *;have a1:nth q.usual r=bO (nth L r):=by rw[h.us,JA,dI hr]
 unfold getM;rw[h.chk,h.nxt,fY,a1]
 by_cases hu:nth (nth L r) c=bO (nth L r)
 ·rw[if_neg,hu];rintro⟨h1,h2⟩;obtain⟨x,hx,e1,e2⟩:=B8 h.nd h2 h1;obtain⟨g1,c',g2,g3,g4,g5⟩:=(h.mem x).1 hx;rw[e2]at g2 g3 g4;have:c'=c:=zo;subst this;exact g3 hu
 have hx:(((nth q.base r).toNat+c,r,nth (nth L r) c):Ent)∈A:=(h.mem _).2 ⟨by simpa using hr,c,hc,hu,rfl,rfl⟩;have h1:=eI hx;have h2:=ko kS A (I4 (iz A) (-1)) h.nd (fun y hy=>by simpa using eI hy) _ hx;have h3:=ko I5 A (I4 (iz A) 0) h.nd (fun y hy=>by simpa using eI hy) _ hx;dsimp only at h1;rw[if_pos ⟨h1,h2⟩];exact h3
theorem _root_.Go.VL.BlkO.ext{O:Nat->Nat}{w w':la}{i b:Nat}{cs:Array ix}{E:JW}(h:KP O w i b cs E)(e:KC w w'):KP O w' i b cs E:=⟨by rw[e.block b (bB h.blk)];exact h.blk,h.tag⟩
theorem RowsG.upd{S:Nat->Prop}{B:Nat}{O O':Nat->Nat}{w0 w w':la}{v:ix}{rows:List (List Nat)}(h:Mg w0.heap.size w v rows)(r:KF B O w0)(u:Jw S O w O' w'):Mg w0.heap.size w' v rows:=by
 obtain⟨vs,h1,h2,h3,h4⟩:=h;exact⟨vs,h1.upd (h2.free h1 (fun x _=>by simp) r) u,h2,h3,fun i hi=>⟨(h4 i hi).1.upd ((h4 i hi).2.free (h4 i hi).1 (fun x _=>by simp) r) u,(h4 i hi).2⟩⟩
theorem _root_.Go.VL.NewV.slU{S:Nat->Prop}{B:Nat}{O O':Nat->Nat}{w0 w w':la}{v:ix}{l:List Nat}(h:L2 w0.heap.size v)(hs:Sl jb 1 w v l)(r:KF B O w0)(u:Jw S O w O' w'):Sl jb 1 w' v l:=hs.upd (h.free hs (fun x _=>by simp) r) u
def cY(l:List Int):Nat:=l.foldl (fun b c=>b ||| 2^c.toNat) 0
theorem nK{l:List Int}(h:∀c∈l,0<=c/\c<=35):cY l<2^36:=by
 have a0:∀(l:List Int) (b:Nat),(∀c∈l,0<=c/\c<=35)->b<2^36->l.foldl (fun b c=>b ||| 2^c.toNat) b<2^36:=fun l=>by
  induction l with
  |nil=>exact fun b _ hb=>hb
  |cons c l ih=>exact fun b h hb=>ih _ (fun x hx=>h x (by simp[hx])) (JE hb (JG zd (by have:=h c (by simp);omega)))
 exact a0 l 0 h zd
theorem AL{l:List Int}{i:Nat}(h:i<l.length):cY (l.take (i+1))=cY (l.take i) ||| 2^(nth l i).toNat:=by
 unfold cY;rw[aR h,K5];rfl
theorem nJ(l:List Int)(sv:ix)(w:la)(h:Sl encI 1 w sv l)(hr:∀c∈l,0<=c/\c<=35):KN JF 32 [sv] w fun v w'=>v=.int .u64 ((cY l:Nat):Int)/\w'=w:=by
 have hl:=h.len_le;have a1:Lv.max=18446744073709551615:=rfl;refine Gi func32 ntmps32 rfl rfl ?_;refine zh ?_;refine zlp (fun z:Nat=>[(3,.int .u64 ((cY (l.take z):Nat):Int)),(6,sv),(7,nI l.length),(8,nI z)]) (fun z=>w) (fun z=>z<=l.length) (fun z=>l.length-z) 0 (IJ _) ?_;intro i hi;refine zh ?_;refine zC ?_ ?_
 ·intro a0;replace a0:i<l.length:=dT a0;have hc:=hr _ (aO a0);have m1:w.cell? (adr sv 1 i)=some (nI (nth l i)):=by have:=h.cell (i:=i) (j:=0) a0 rfl;rwa[ao]at this
  obtain⟨c,a3⟩:∃c:Nat,nth l i=(c:Int):=⟨(nth l i).toNat,zo⟩
  have hs:=AL a0;rw[a3]at m1 hs;simp only[K6]at hs;have a7:cY (l.take i)<2^36:=nK fun x hx=>hr x (L5 hx)
  have a6:2^c<=2^35:=Ko zd zo;have a5:(2^35:Nat)=34359738368:=zd;have a4:(2^36:Nat)=68719476736:=zd;refine zh ?_;refine zv (xB (a:=1) (b:=c) rfl rfl rfl rfl (by show _<=64;omega) (by show _<=(18446744073709551615:Int);omega)) ?_;rw[KG];refine zvH (uS (a:=cY (l.take i)) (b:=2^c) rfl rfl rfl rfl (by show _<=(18446744073709551615:Int);omega) (by show _<=(18446744073709551615:Int);omega)) ?_;rw[<-hs];refine zxd (i+1) (a0)
 intro a2;obtain rfl:i=l.length:=dF a2;rw[JA];refine zh ?_;refine ae rfl rfl (⟨rfl,rfl⟩)
def stM(se:Bool)(ts:List Nd):Option (List (List Nat)×List Nat):=if dP ts=0 then DC (cM se (jZ ts)) (dp (jZ ts))else none
def Cls(cl:Nat->Nat)(d:List (List Nat)×List Nat):Prop:=∀p q,p<d.1.length->q<d.1.length->(cl p=cl q↔Alike (nxD d.1) (nth d.2) p q)
def PostSt(B:Nat)(w:la)(v:ix):Option (List (List Nat)×List Nat)->Prop
 |some d=>∃cl nv tv,v=.tuple #[.agg #[nv,tv],nI 0]/\nv.oneCell'=true/\tv.oneCell'=true/\JC d.1 d.2/\Cls cl d/\Mg B w nv (aU cl d.1 d.2).1/\Sl jb 1 w tv (aU cl d.1 d.2).2/\L2 B tv
 |none=>∃e:Int,e≠0/\v=.tuple #[.agg #[nS,nS],nI e]
theorem Bc{ts:List Nd}(h:dP ts=0):ts.length<=40/\(∀t∈ts,bj t=true)/\1+bh ts<=1000:=by
 unfold dP at h
 split at h
 ·cases h
 split at h
 ·cases h
 rename_i h1 h2
 split at h
 ·cases h
 rename_i h3;refine⟨zo,fun t ht=>?_,zo⟩;have:ts.any (fun t=>!bj t)=false:=by simpa using h2
 have:=Kz.1 this t ht;simpa using this
set_option maxHeartbeats 1000000 in
theorem pU(se:Bool)(ts:List Nd)(xs:List N3)(sv:ix)(w:la)(hs:Sl aY 3 w sv xs)(hl:ts.length=xs.length)(hk:∀i,i<xs.length->Nt (fun _=>0) w (nth ts i) (nth xs i)):
  KN JF 33 [.bool se,sv] w fun v w'=>KC w w'/\PostSt w.heap.size w' v (stM se ts):=by
 refine Gi func33 ntmps33 rfl rfl ?_;refine zh ?_
 refine ax (au w) 1 zo (JR _) rfl ?_;intro cb w1 O1 c6 e2 e5 d4;refine zh ?_
 refine zc call62 (FV se ts xs sv w1 (hs.ext d4) hl (fun i hi=>(hk i hi).ext d4)) ?_;rintro _ w2 ⟨nb,rfl,e',e6⟩;have c8:Jw (fun _=>False) O1 w1 O1 w2:=aa (fun h=>h) O1 e';have a2:=c6.upd c8 zd (fun h=>h);have e4:=e5.upd c8;have b2:=e2.trans (c8.mono (fun _ h=>h.elim) zd);refine zh ?_
 by_cases he:dP ts=0
 ·have hD:=e6 he;obtain⟨f5,a4,f4⟩:=Bc he;obtain⟨a',a3⟩:=jH a4;obtain⟨d5,h0⟩:=Ba ts;have d9:=qe a' a3;have d':∀q,(jZ ts).en q<=40:=fun q=>by have:=A9 ts q;omega
  have b6:stM se ts=DC (cM se (jZ ts)) (dp (jZ ts)):=by unfold stM;rw[if_pos he]
  have d8:Bb nb (dP ts)=nP nb:=by unfold Bb;rw[if_pos he]
  rw[d8,he,b6];refine zFH rfl rfl ?_;have hC:=B5 nb se (jZ ts) w2 hD d5 h0 (FU ts) zo d';generalize hd:DC (cM se (jZ ts)) (dp (jZ ts))=D at hC b6 ⊢;refine zc call63 (hC) ?_;rintro v w3 ⟨e9,hP⟩;have c7:Jw (fun _=>False) O1 w2 O1 w3:=aa (fun h=>h) O1 e9;have b1:=a2.upd c7 zd (fun h=>h);have d3:=e4.upd c7;have a8:=b2.trans (c7.mono (fun _ h=>h.elim) zd)
  cases D with
  |none=>
   obtain rfl:=hP;refine zh ?_;refine ax d3 2 zo (JR _) rfl ?_;intro db w4 O4 a0 b8 e3 e8;refine zsa (us:=#[nS,nS]) a0 (Jv _) ?_;have b7:Jw (fun j=>j=2) O4 w4 O4 (w4.setRow db #[nS,nS]):=GY zd a0.tag rfl;have a6:=(b1.upd b8 zd zd).upd b7 zd zd;have c':=(a8.mono (S':=fun q=>q=1\/q=2) (fun _ h=>.inl h) zd).trans ((b8.trans b7).mono (fun _ h=>.inr h) zd);generalize w4.setRow db #[nS,nS]=w5 at *;refine zh ?_;refine zTH rfl rfl ?_;refine zvH (aF Gu (JR _) rfl (by first|rfl|(simp only[J3,KZ];rfl)) rfl rfl) ?_;refine zsa (us:=#[nS,nS]) a6 (Jv _) ?_;have b0:=a6.setRow (us:=#[nS,nS]);have a7:Jw (fun j=>j=1) O4 w5 O4 (w5.setRow cb #[nS,nS]):=GY zd a6.tag rfl;refine zh ?_;refine bA rfl rfl rfl (b0.cellsAdd) (Km _) (Jv _) (⟨(c'.trans (a7.mono (fun _ h=>.inl h) zd)).ext,7,zd,rfl⟩)
  |some d=>
   obtain⟨nv,tv,rfl,o1,o2,d7,d6⟩:=hP;obtain⟨S,f3⟩:=oE hd;have d1:=f3.right;refine zh ?_;refine ax (au w3) 2 zo (JR _) rfl ?_;intro db w4 O4 a0 b8 e3 e8;refine zsb (us:=#[nv,tv]) a0 (Jv _) (by simp only[J3,o1,o2];rfl) ?_;have c5:=a0.setRow (us:=#[nv,tv]);have b7:Jw (fun j=>j=2) O4 w4 O4 (w4.setRow db #[nv,tv]):=GY zd a0.tag rfl;have a1:KC w3 (w4.setRow db #[nv,tv]):=(b8.trans b7).ext;generalize w4.setRow db #[nv,tv]=w5 at *;refine zh ?_;refine zFH rfl rfl ?_;refine zv (ai (us:=[nv,tv]) c5.cellsAdd (Km _) (Jv _) rfl) ?_;refine zc call64 (vR nv tv d.1 d.2 w5 (d7.ext a1) (d6.ext a1) d1) ?_;rintro _ w6 ⟨cl,b5,b4,rfl,p1,p2,e7,e0,b',b9,a9⟩;have b3:=a1.trans e7;have a5:=b1.ext b3;have e1:Jw (fun q=>q=1) O1 w3 O1 w6:=aa zd O1 b3;have c9:=a8.trans e1;have d2:=d3.ext a1;refine zsb (us:=#[b5,b4]) a5 (Jv _) (by simp only[J3,p1,p2];rfl) ?_;have b0:=a5.setRow (us:=#[b5,b4]);have a7:Jw (fun j=>j=1) O1 w6 O1 (w6.setRow cb #[b5,b4]):=GY zd a5.tag rfl;have d0:w.heap.size<=w5.heap.size:=KB a8.size a1.size;refine zh ?_;refine bA rfl rfl rfl (b0.cellsAdd) (Km _) (Jv _) (⟨(c9.trans a7).ext,cl,b5,b4,rfl,p1,p2,d1,e0,(b'.upd d2 a7).mono d0,a9.slU b9 d2 a7,a9.mono d0⟩)
 have b6:stM se ts=none:=by unfold stM;rw[if_neg he]
 rw[b6];refine zTH rfl ((by simpa using he)) ?_;refine zvH (aF Gu (JR _) rfl (by first|rfl|(simp only[J3,KZ];rfl)) rfl rfl) ?_;refine zsa (us:=#[nS,nS]) a2 (Jv _) ?_;have b0:=a2.setRow (us:=#[nS,nS]);have a7:Jw (fun j=>j=1) O1 w2 O1 (w2.setRow cb #[nS,nS]):=GY zd a2.tag rfl;refine zh ?_;refine bA rfl rfl rfl (b0.cellsAdd) (Km _) (Jv _) (⟨(b2.trans a7).ext,dP ts,he,rfl⟩)
theorem Jh:cV JF 33 #[(0,5),(5,1)]:=⟨_,underlying33,fun w=>by kernel_rfl⟩
def PartV(w:la)(cs:List ix)(p:Lt)(tl:List Nat):Prop:=
 ∃uv bv kv nv tv,cs=[nI p.width,uv,bv,kv,nv,tv]/\Kj w uv p.usual/\Kj w bv p.base/\Kj w kv p.check/\Kj w nv p.next/\Sl jb 1 w tv tl
theorem PartV.ext{w w':la}{cs:List ix}{p:Lt}{tl:List Nat}(h:PartV w cs p tl)(e:KC w w'):PartV w' cs p tl:=by
 obtain⟨uv,bv,kv,nv,tv,h0,h1,h2,h3,h4,h5⟩:=h;exact⟨uv,bv,kv,nv,tv,h0,h1.ext e,h2.ext e,h3.ext e,h4.ext e,h5.ext e⟩
def Gx(B:Nat)(cs:List ix):Prop:=∀v∈cs,L2 B v
theorem _root_.Go.VL.NewV.slI{S:Nat->Prop}{B:Nat}{O O':Nat->Nat}{w0 w w':la}{v:ix}{l:List Int}(h:L2 w0.heap.size v)(hs:Kj w v l)(r:KF B O w0)(u:Jw S O w O' w'):Kj w' v l:=hs.upd (h.free hs (fun x _=>by simp) r) u
theorem PartV.upd{S:Nat->Prop}{B:Nat}{O O':Nat->Nat}{w0 w w':la}{cs:List ix}{p:Lt}{tl:List Nat}(h:PartV w cs p tl)(n:Gx w0.heap.size cs)(r:KF B O w0)(u:Jw S O w O' w'):PartV w' cs p tl:=by
 obtain⟨uv,bv,kv,nv,tv,rfl,h1,h2,h3,h4,h5⟩:=h;exact⟨uv,bv,kv,nv,tv,rfl,(n uv (by simp)).slI h1 r u,(n bv (by simp)).slI h2 r u,(n kv (by simp)).slI h3 r u,(n nv (by simp)).slI h4 r u,(n tv (by simp)).slU h5 r u⟩
theorem PartV.one{w:la}{cs:List ix}{p:Lt}{tl:List Nat}(h:PartV w cs p tl):cs.length=6/\∀v∈cs,v.oneCell'=true:=by
 obtain⟨uv,bv,kv,nv,tv,rfl,h1,h2,h3,h4,h5⟩:=h;refine⟨rfl,fun v hv=>?_⟩;simp only[Gc,J7,or_false]at hv
 rcases hv with rfl|rfl|rfl|rfl|rfl|rfl
 ·rfl
 ·exact h1.one
 ·exact h2.one
 ·exact h3.one
 ·exact h4.one
 exact h5.one
theorem RowsN.pack{w:la}{v:ix}{rows:List (List Nat)}(h:RowsN w v rows):Rows w v (rows.map ints):=by
 obtain⟨vs,h1,h2,h3⟩:=h
 exact⟨vs,h1,by rw[J6];exact h2,fun i hi=>by
  rw[J6]at hi
  rw[dI hi];exact(h3 i hi).natIv⟩
def kA(g:List Nat)(many:Nat)(rows:List (List Nat)):List (List Int):=(rows.map (px g many)).map ints
def dH(g:List Nat)(many:Nat)(rows:List (List Nat)):Lt:=lI (many:Int) (kA g many rows)
theorem pX{g:List Nat}{many:Nat}(hg:GrpI g many){rows:List (List Nat)}{a0:List Nat}(hr:JC rows a0):cf (many:Int) (kA g many rows)=false:=by
 have h1:=hg.pos;have h2:=hg.le;have h3:=hr.le;unfold cf;have hl:(kA g many rows).length=rows.length:=by simp[kA]
 rw[decide_eq_false zo,decide_eq_false zo,decide_eq_false zo];simp only[K8];refine Kz.2 fun r a1=>?_
 obtain⟨q,hq,rfl⟩:=Jq.1 a1;obtain⟨o,ho,rfl⟩:=Jq.1 hq;obtain⟨j,hj,rfl⟩:=cI ho;obtain⟨r1,r2⟩:=hr.row j hj;unfold iF;rw[show(ints (px g many (nth rows j))).length=many from by simp[nf]];have a2:inB 0 65535 (ints (px g many (nth rows j)))=true:=uf fun n hn=>by
  obtain⟨x,hx,rfl⟩:=Jq.1 hn;unfold px at hx;obtain⟨k,hk,rfl⟩:=Jq.1 hx
  cases hf:g.findIdx? (· == k)with
  |none=>simp only[Option.getD_none];have:=r2 0 (zd);unfold nxD at *;omega
  |some q=>
   obtain⟨h1,_⟩:=List.findIdx?_eq_some_iff_getElem.1 hf;have a3:=hg.len;simp only[Option.getD_some];have:=r2 q zo;omega
 rw[a2];simp
theorem xY(g:List Nat)(many:Nat)(gv nv tv:ix)(rows:List (List Nat))(d4:List Nat)(w:la)(hg:GrpI g many)(e':Sl aX 1 w gv g)(hn:RowsN w nv rows)(g0:Sl jb 1 w tv d4)(hr:JC rows d4) 
  (hc:∀p,p<rows.length->∀i j,i<37->j<37->nth g i=nth g j->nth (nth rows p) i=nth (nth rows p) j) :
  KN JF 35 [gv,.agg #[nv,tv]] w fun v w'=>∃cs,v=.agg cs.toArray/\PartV w' cs (dH g many rows) d4/\Gx w.heap.size cs/\KC w w':=by
 have a4:=pX hg hr;refine Gi func35 ntmps35 rfl rfl ?_;refine zh ?_;refine aE (au w) 1 zo rfl rfl ?_;intro db w1 O1 e4 g' h4 h9;refine ax h4 2 zo (Me _) rfl ?_;intro cb w2 O2 e8 f8 b8 h8;have e3:=e4.upd f8 zd zd;have b6:Jw (fun q=>1<=q) (fun _=>0) w O2 w2:=(g'.mono (fun _ h=>zo) zd).trans (f8.mono (fun _ h=>zo) zd);have b7:=b6.ext;refine zh ?_;refine zv (ai (us:=[nv,tv]) e3.cellsAdd (Km _) (Jv _) rfl) ?_;refine zc call71 (Dm g many gv nv tv rows d4 w2 hg (e'.ext b7) (hn.ext b7) (g0.ext b7) hr hc) ?_;rintro _ w3 ⟨d8,a6,a5,rfl,o1,o2,o3,c9,a',a9,h5⟩;have d6:Jw (fun _=>False) O2 w2 O2 w3:=aa (fun h=>h) O2 h5;have e7:=e8.upd d6 zd (fun h=>h);have e9:=b6.trans (d6.mono (fun _ h=>h.elim) zd);have h3:=b8.upd d6;refine zh ?_;refine ax h3 3 zo (zeroValue139 _) rfl ?_;intro nb w4 O4 b3 g8 h2 h7;refine zsb (us:=#[d8,a6,a5]) b3 (sizeOf139 _) (by simp only[J3,o1,o2,o3];rfl) ?_;have b2:=b3.setRow (us:=#[d8,a6,a5]);have f7:Jw (fun j=>j=3) O4 w4 O4 (w4.setRow nb #[d8,a6,a5]):=GY zd b3.tag rfl;have a2:=g8.trans f7;have g9:=(d6.mono (S':=fun q=>q=3) (fun _ h=>h.elim) zd).trans a2;have e6:=e7.upd a2 zd zd;have g6:=c9.upd b8 a2;have f':=a9.slU a' b8 a2;have h1:=h2.upd f7;have b5:=e9.trans (a2.mono (fun _ h=>zo) zd);generalize w4.setRow nb #[d8,a6,a5]=w5 at *;have h6:(rows.map (px g many)).length=rows.length:=by simp
 refine zh ?_;have d1:w5.drew.cell? (nA nb 1)=some a6:=b2.cell 1 rfl;refine aI (fun W=>W.cell? (nA nb 1)=some a6) 11 rfl zk ?_
 refine zrm 0 rfl d1 rfl ?_;refine zrf 2 rfl d1 rfl ?_
 refine zt 3 rfl d1 (fun w1 f9=>RV.ld f9 rfl) ?_;refine yI (fun x:ix×ix×ix×ix×Int×Nat×(Nat->Nat)×World=>[(4,nP cb),(5,nP nb),(7,.pointer (some ⟨x.2.2.2.2.2.1,0,none⟩)),(21,.agg #[nI (dH g many rows).width,x.1,x.2.1,x.2.2.1,x.2.2.2.1]),(22,nI x.2.2.2.2.1)]) (fun x=>x.2.2.2.2.2.2.2) (fun x=>Kj x.2.2.2.2.2.2.2 x.1 (dH g many rows).usual/\Kj x.2.2.2.2.2.2.2 x.2.1 (dH g many rows).base/\Kj x.2.2.2.2.2.2.2 x.2.2.1 (dH g many rows).check/\Kj x.2.2.2.2.2.2.2 x.2.2.2.1 (dH g many rows).next/\L2 w5.heap.size x.1/\L2 w5.heap.size x.2.1/\L2 w5.heap.size x.2.2.1/\L2 w5.heap.size x.2.2.2.1/\KP x.2.2.2.2.2.2.1 x.2.2.2.2.2.2.2 4 x.2.2.2.2.2.1 #[nI 0,nS,nS,nS,nS] 30/\Jw (fun q=>q=4) O4 w5 x.2.2.2.2.2.2.1 x.2.2.2.2.2.2.2/\KF w.heap.size x.2.2.2.2.2.2.1 x.2.2.2.2.2.2.2/\KO x.2.2.2.2.2.2.1 x.2.2.2.2.2.2.2 x.1/\KO x.2.2.2.2.2.2.1 x.2.2.2.2.2.2.2 x.2.1/\KO x.2.2.2.2.2.2.1 x.2.2.2.2.2.2.2 x.2.2.1/\KO x.2.2.2.2.2.2.1 x.2.2.2.2.2.2.2 x.2.2.2.1) #[true,true,true,true,true,true,true,true,true,false,false] 2 ?_ ?_
 ·intro hN;have hR:=h1.drew;have hU:Jw (fun q=>q=4) O4 w5 O4 w5.drew:=aa zd O4 (ln w5).drew;have k0:∀O W,Jw (fun q=>q=4) O4 w5 O W->W.cell? (nA nb 1)=some a6:=fun O W u=>(b2.upd u zd zd).cell 1 rfl
  have kg:∀O W,Jw (fun q=>q=4) O4 w5 O W->Sl encI 1 W gv (ints g):=fun O W u=>(e'.ext (b5.trans (u.mono (fun _ h=>zo) zd)).ext).natIv
  have kn:∀O W,Jw (fun q=>q=4) O4 w5 O W->Rows W a6 (kA g many rows):=fun O W u=>(c9.upd b8 (a2.mono (S':=fun q=>q=3\/q=4) (fun _ h=>.inl h) zd |>.trans (u.mono (fun _ h=>.inr h) zd))).rows.pack
  refine bV 1 8 zk rfl rfl ?_ ?_ 
  ·refine zc Mm (iQ (ints g) gv _ (kg _ _ hU)) ?_;rintro _ wa ⟨rfl,c8⟩;rw[c8,hg.cnt];clear c8 wa;refine zh ?_
   refine af (k0 _ _ hU) ?_;refine bV 4 8 zk rfl rfl ?_ ?_ 
   ·refine zc Ml (nU (many:Int) (kA g many rows) a6 _ (kn _ _ hU)) ?_;rintro _ wb ⟨pv,ep,rfl,fP,f5,d2,gP⟩;have gP:=gP a4;rw[a4,if_neg zd]at fP;obtain⟨b9,b',d3,c7,c6,c5,n1,n2,n3,n4⟩:=gP;obtain⟨uv,bv,kv,a0,pe,f1,f2,f3,f4⟩:=fP;subst pe;obtain⟨rfl,rfl,rfl,rfl,rfl⟩:_=b9/\uv=b'/\bv=d3/\kv=c7/\a0=c6:=by simpa using c5
    have fU:=hU.size;have g1:=n1.free f1 (fun x _=>by simp) hR;have g2:=n2.free f2 (fun x _=>by simp) hR;have g3:=n3.free f3 (fun x _=>by simp) hR;have g4:=n4.free f4 (fun x _=>by simp) hR;have n1:=n1.mono fU;have n2:=n2.mono fU;have n3:=n3.mono fU;have n4:=n4.mono fU;have a7:=fun O=>aa (S:=fun _=>False) (fun h=>h) O d2
    have hU:=J2 hU ((a7 _).mono (fun _ h=>h.elim) zd);have hR:=LL hR (a7 _)
    try have fC:=Lx fC (a7 _) zd (fun h=>h)
    refine zh ?_;refine zaf (k0 _ _ hU) fun zS=>?_
    refine zrm 5 rfl zS rfl ?_;refine zr 6 rfl zS (fun _=>Kf rfl rfl) ?_
    refine zr 7 rfl zS (fun _=>Kf rfl rfl) ?_;refine Gh 8 zk rfl ?_
    refine ax hR 4 zd (Ln _) rfl ?_;intro pb wc Oc fC a1 d0 a3;have hU:=J2 hU a1;have hR:=d0
    try have f1:=K9 f1 a3
    try have f2:=K9 f2 a3
    try have f3:=K9 f3 a3
    try have f4:=K9 f4 a3
    try have g1:=JI g1 a1
    try have g2:=JI g2 a1
    try have g3:=JI g3 a1
    try have g4:=JI g4 a1
    refine zh ?_;refine af (k0 _ _ hU) ?_
    exact Ke (hN (uv,bv,kv,a0,ep,pb,_,_) ⟨f1,f2,f3,f4,n1,n2,n3,n4,fC,hU,hR,g1,g2,g3,g4⟩) zk ⟨rfl,rfl,rfl,rfl,rfl,trivial⟩ rfl
   refine ax hR 4 zd (Ln _) rfl ?_;intro pb wc Oc fC a1 d0 a3;have hU:=J2 hU a1;have hR:=d0
   try have f1:=K9 f1 a3
   try have f2:=K9 f2 a3
   try have f3:=K9 f3 a3
   try have f4:=K9 f4 a3
   try have g1:=JI g1 a1
   try have g2:=JI g2 a1
   try have g3:=JI g3 a1
   try have g4:=JI g4 a1
   refine zh ?_;refine af (k0 _ _ hU) ?_
   refine Gh 4 zk rfl ?_;refine zc Ml (nU (many:Int) (kA g many rows) a6 _ (kn _ _ hU)) ?_
   rintro _ wb ⟨pv,ep,rfl,fP,f5,d2,gP⟩;have gP:=gP a4;rw[a4,if_neg zd]at fP;obtain⟨b9,b',d3,c7,c6,c5,n1,n2,n3,n4⟩:=gP;obtain⟨uv,bv,kv,a0,pe,f1,f2,f3,f4⟩:=fP;subst pe;obtain⟨rfl,rfl,rfl,rfl,rfl⟩:_=b9/\uv=b'/\bv=d3/\kv=c7/\a0=c6:=by simpa using c5
   have fU:=hU.size;have g1:=n1.free f1 (fun x _=>by simp) hR;have g2:=n2.free f2 (fun x _=>by simp) hR;have g3:=n3.free f3 (fun x _=>by simp) hR;have g4:=n4.free f4 (fun x _=>by simp) hR;have n1:=n1.mono fU;have n2:=n2.mono fU;have n3:=n3.mono fU;have n4:=n4.mono fU;have a7:=fun O=>aa (S:=fun _=>False) (fun h=>h) O d2
   have hU:=J2 hU ((a7 _).mono (fun _ h=>h.elim) zd);have hR:=LL hR (a7 _)
   try have fC:=Lx fC (a7 _) zd (fun h=>h)
   refine zh ?_;refine zaf (k0 _ _ hU) fun zS=>?_
   refine zrm 5 rfl zS rfl ?_;refine zr 6 rfl zS (fun _=>Kf rfl rfl) ?_
   refine zr 7 rfl zS (fun _=>Kf rfl rfl) ?_;exact Ke (hN (uv,bv,kv,a0,ep,pb,_,_) ⟨f1,f2,f3,f4,n1,n2,n3,n4,fC,hU,hR,g1,g2,g3,g4⟩) zk ⟨rfl,rfl,rfl,rfl,rfl,trivial⟩ rfl
  refine ax hR 4 zd (Ln _) rfl ?_;intro pb wc Oc fC a1 d0 a3;have hU:=J2 hU a1;have hR:=d0
  try have f1:=K9 f1 a3
  try have f2:=K9 f2 a3
  try have f3:=K9 f3 a3
  try have f4:=K9 f4 a3
  try have g1:=JI g1 a1
  try have g2:=JI g2 a1
  try have g3:=JI g3 a1
  try have g4:=JI g4 a1
  refine zh ?_;refine af (k0 _ _ hU) ?_
  refine Gh 1 zk rfl ?_;refine zc Mm (iQ (ints g) gv _ (kg _ _ hU)) ?_
  rintro _ wa ⟨rfl,c8⟩;rw[c8,hg.cnt];clear c8 wa;refine zh ?_;refine af (k0 _ _ hU) ?_;refine Gh 4 zk rfl ?_;refine zc Ml (nU (many:Int) (kA g many rows) a6 _ (kn _ _ hU)) ?_;rintro _ wb ⟨pv,ep,rfl,fP,f5,d2,gP⟩;have gP:=gP a4;rw[a4,if_neg zd]at fP;obtain⟨b9,b',d3,c7,c6,c5,n1,n2,n3,n4⟩:=gP;obtain⟨uv,bv,kv,a0,pe,f1,f2,f3,f4⟩:=fP;subst pe;obtain⟨rfl,rfl,rfl,rfl,rfl⟩:_=b9/\uv=b'/\bv=d3/\kv=c7/\a0=c6:=by simpa using c5
  have fU:=hU.size;have g1:=n1.free f1 (fun x _=>by simp) hR;have g2:=n2.free f2 (fun x _=>by simp) hR;have g3:=n3.free f3 (fun x _=>by simp) hR;have g4:=n4.free f4 (fun x _=>by simp) hR;have n1:=n1.mono fU;have n2:=n2.mono fU;have n3:=n3.mono fU;have n4:=n4.mono fU;have a7:=fun O=>aa (S:=fun _=>False) (fun h=>h) O d2
  have hU:=J2 hU ((a7 _).mono (fun _ h=>h.elim) zd);have hR:=LL hR (a7 _)
  try have fC:=Lx fC (a7 _) zd (fun h=>h)
  refine zh ?_;refine zaf (k0 _ _ hU) fun zS=>?_
  refine zrm 5 rfl zS rfl ?_;refine zr 6 rfl zS (fun _=>Kf rfl rfl) ?_
  refine zr 7 rfl zS (fun _=>Kf rfl rfl) ?_;exact Ke (hN (uv,bv,kv,a0,ep,pb,_,_) ⟨f1,f2,f3,f4,n1,n2,n3,n4,fC,hU,hR,g1,g2,g3,g4⟩) zk ⟨rfl,rfl,rfl,rfl,rfl,trivial⟩ rfl
 rintro⟨uv,bv,kv,a0,ep,pb,O7,w7⟩ ⟨f1,f2,f3,f4,n1,n2,n3,n4,b0,a8,h0,g1,g2,g3,g4⟩;dsimp only at f1 f2 f3 f4 n1 n2 n3 n4 b0 a8 h0 g1 g2 g3 g4 ⊢;have q1:=f1.one;have q2:=f2.one;have q3:=f3.one;have q4:=f4.one;have e1:=b2.upd a8 zd zd;have e5:=e6.upd a8 zd zd;refine Gh 9 zk rfl ?_;refine zsb (us:=#[nI (dH g many rows).width,uv,bv,kv,a0]) b0 (LX _) (by simp only[J3,q1,q2,q3,q4];rfl) ?_;have e0:=b0.setRow (us:=#[nI (dH g many rows).width,uv,bv,kv,a0]);have d7:Jw (fun j=>j=4) O7 w7 O7 (w7.setRow pb #[nI (dH g many rows).width,uv,bv,kv,a0]):=GY zd b0.tag rfl;generalize w7.setRow pb #[nI (dH g many rows).width,uv,bv,kv,a0]=w8 at *;have b1:=e1.upd d7 zd zd;have b4:=e5.upd d7 zd zd;have c':=a8.trans d7;have d9:=a9.slU a' b8 ((a2.mono (S':=fun q=>q=3\/q=4) (fun _ h=>.inl h) zd).trans (c'.mono (fun _ h=>.inr h) zd));have d':=(a9.free a' (fun x _=>by simp) b8).upd ((a2.mono (S':=fun q=>q=3\/q=4) (fun _ h=>.inl h) zd).trans (c'.mono (fun _ h=>.inr h) zd));refine zh ?_;refine af (b1.cell 1 rfl) ?_;have e2:w8.cell? (nA nb 2)=some a5:=b1.cell 2 rfl;refine zra 10 rfl (b1.cell 1 rfl) rfl ?_;refine Ju zk ?_;refine zh ?_;refine zv (ai (us:=[nI (dH g many rows).width,uv,bv,kv,a0]) e0.cellsAdd (isAgg30 _) (LX _) rfl) ?_;obtain⟨ta,tc,g5,_⟩:=a'.shape;refine zh ?_;refine zv (Kb (cells:=#[nI (dH g many rows).width,uv,bv,kv,a0,a5]) Jh (Me _) rfl (by rw[g5];rfl)) ?_
 refine zsb (us:=#[nI (dH g many rows).width,uv,bv,kv,a0,a5]) b4 (JY _) (by simp only[J3,q1,q2,q3,q4,o3];rfl) ?_;have g7:=b4.setRow (us:=#[nI (dH g many rows).width,uv,bv,kv,a0,a5]);have f6:Jw (fun j=>j=2) O7 w8 O7 (w8.setRow cb #[nI (dH g many rows).width,uv,bv,kv,a0,a5]):=GY zd b4.tag rfl;have hU8z:=(d7.mono (S':=fun q=>q=2\/q=4) (fun _ h=>.inr h) zd).trans (f6.mono (fun _ h=>.inl h) zd);have d5:=b5.size;refine zh ?_
 refine aN rfl rfl (g7.cellsAdd) (KL _) (JY _) (⟨[nI (dH g many rows).width,uv,bv,kv,a0,a5],rfl,⟨uv,bv,kv,a0,a5,rfl,f1.upd g1 hU8z,f2.upd g2 hU8z,f3.upd g3 hU8z,f4.upd g4 hU8z,d9.upd d' f6⟩,fun v hv=>?_,((b5.trans (a8.mono (fun _ h=>zo) zd)).trans (hU8z.mono (fun _ h=>zo) zd)).ext⟩);simp only[Gc,J7,or_false]at hv
 rcases hv with rfl|rfl|rfl|rfl|rfl|rfl
 ·exact fun a n c e=>by cases e
 ·exact n1.mono d5
 ·exact n2.mono d5
 ·exact n3.mono d5
 ·exact n4.mono d5
 exact a9.mono b6.size
end Go.Proofs.YtlehnbkknlpkbaaGreatDoor
section
namespace Go.VL
open Go.Proofs
theorem eL{P:Lc}{N:Nat}{ops:Array Ma}{Q:Exit->Act->la->Prop}{a0:List Ma}{st:St}{w:la}{t:JW}{p:String}{e:Array Edge}{x y:LG} 
  {T:JW} {O:Nat->Nat} {i b:Nat} {cs us:Array ix} {E:JW} (off:Nat) (a1:Array ix) (hb:KP O w i b cs E) (a2:(cs.toList.take off++us.toList++cs.toList.drop (off+us.size)).toArray=a1) (hs:off+us.size<=cs.size) (hT:(sizeOf T).run P w=.ok us.size w) (h1:us.toList.all JP=true)
  {q:L3} (hx:ev st x=some (.pointer (some q))) (hq:q=⟨b,off,none⟩) (hy:ev st y=some (.agg us))
  (h:WL P N ops Q a0 st (w.setRow b a1)):WL P N ops Q (⟨none,.store T x y,t,p,e,none⟩::a0) st w:=by
 subst a2;exact lq off hb hs hT h1 hx hq hy h
end Go.VL
namespace Go.Proofs.YtlehnbkknlpkbaaGreatDoor
open Go.VL Go.Proofs
set_option maxRecDepth 10000
theorem FM:cV JF 35 #[(0,1),(1,1),(2,1),(3,1),(4,1),(5,6),(11,6)]:=⟨_,underlying35,fun w=>by kernel_rfl⟩
structure TabM where
 ig:Nat
 kp:Nat
 br:Nat
 rules:Int
 groups:List Int
 left:Lt
 lt:List Nat
 right:Lt
 rt:List Nat
abbrev dq(ig kp br:Nat)(rules:Int)(gv:ix)(lc rc:List ix):List ix:=[.int .u64 (ig:Int),.int .u64 (kp:Int),.int .u64 (br:Int),nI rules,gv]++lc++rc
def TabV(w:la)(v:ix)(t:TabM):Prop:=∃gv lc rc,v=.agg (dq t.ig t.kp t.br t.rules gv lc rc).toArray/\Kj w gv t.groups/\PartV w lc t.left t.lt/\PartV w rc t.right t.rt
def TabN(B:Nat)(v:ix):Prop:=∀cs:List ix,v=.agg cs.toArray->Gx B cs
abbrev dO:List ix:=[nI 0,nS,nS,nS,nS,nS]
abbrev pc:Array ix:=(dq 0 0 0 0 (nS) dO dO).toArray
def iE(ts:List R3):Nat->Nat
 |0=>0
 |i+1=>if(nth ts i).2.2=true then iE ts i ||| 2^i else iE ts i
theorem xk(ts:List R3):∀i,i<=40->iE ts i<2^40
 |0,_=>by unfold iE;decide
 |i+1,h=>by
  unfold iE
  split
  ·exact JE (xk ts i zo) (JG zd zo)
  exact xk ts i zo
abbrev nZ(ts:List R3):List Nd:=ts.map (·.1)
abbrev fM(ts:List R3):List Nd:=ts.map (·.2.1)
def nC(li lk:List Int)(ts:List R3)(A B:List (List Nat)×List Nat):TabM:=
 ⟨cY li,cY lk,iE ts ts.length,ts.length,ints (bJ [A.1,B.1]),dH (bJ [A.1,B.1]) (iq (ints (bJ [A.1,B.1]))) A.1,A.2,dH (bJ [A.1,B.1]) (iq (ints (bJ [A.1,B.1]))) B.1,B.2⟩
def PostC(B:Nat)(w:la)(v:ix)(li lk:List Int)(ts:List R3):Prop:=
 (dE li lk ts=false/\v=.tuple #[.agg pc,nI 1])\/dE li lk ts=true/\
  ((∃a b clA clB u,stM true (nZ ts)=some a/\stM false (fM ts)=some b/\JC a.1 a.2/\JC b.1 b.2/\Cls clA a/\Cls clB b/\v=.tuple #[u,nI 0]/\TabV w u (nC li lk ts (aU clA a.1 a.2) (aU clB b.1 b.2))/\TabN B u)\/
   ((stM true (nZ ts)=none\/stM false (fM ts)=none)/\v=.tuple #[.agg pc,nI 7]))
theorem eo{li lk:List Int}{ts:List R3}(h:dE li lk ts=true):ts.length<=40/\(∀c∈li,0<=c/\c<=35)/\(∀c∈lk,0<=c/\c<=35)/\∀t∈ts,mP t=true:=by
 have a0:∀ {l:List Int},dj l=true->∀c∈l,0<=c/\c<=35:=fun {l} h c hc=>by
  obtain⟨j,hj,rfl⟩:=cI hc;have:=bz.1 (show jc (jU l) l.length=false by simpa[dj]using h) j hj;simp only[jU,Bool.or_eq_false_iff,decide_eq_false_iff_not]at this;omega
 simp only[dE,Js,decide_eq_true_eq]at h;obtain⟨⟨⟨h1,h2⟩,h3⟩,h4⟩:=h;refine⟨zo,a0 h2,a0 h3,fun t ht=>?_⟩;obtain⟨j,hj,rfl⟩:=cI ht;have:=bz.1 (show jc (fun i=>!(mP (nth ts i))) ts.length=false by simpa[G9]using h4) j hj;simpa using this
theorem PostSt.uni{B:Nat}{w:la}{v:ix}{o:Option (List (List Nat)×List Nat)}(h:PostSt B w v o):∃nv tv,∃e:Int,v=.tuple #[.agg #[nv,tv],nI e]/\nv.oneCell'=true/\tv.oneCell'=true/\(e≠0->o=none)/\
  (e=0->∃d cl,o=some d/\JC d.1 d.2/\Cls cl d/\Mg B w nv (aU cl d.1 d.2).1/\Sl jb 1 w tv (aU cl d.1 d.2).2/\L2 B tv):=by
 cases o with
 |none=>
  obtain⟨e,he,rfl⟩:=h;exact⟨_,_,e,rfl,rfl,rfl,fun _=>rfl,fun e0=>absurd e0 he⟩
 |some d=>
  obtain⟨cl,nv,tv,rfl,o1,o2,h1,h2,h3,h4,h5⟩:=h;exact⟨nv,tv,0,rfl,o1,o2,fun e=>absurd rfl e,fun _=>⟨d,cl,rfl,h1,h2,h3,h4,h5⟩⟩
theorem eT{rows:List (List Nat)}{a0:List Nat}(hr:JC rows a0)(cl:Nat->Nat):JC (aU cl rows a0).1 (aU cl rows a0).2:=by
 obtain⟨F,h⟩:=gx (cl:=cl) (tl:=nth a0) hr.nx (rows.length+1) 0 [0] [] [] (nt hr.pos) zo;have h1:=h.rl;have h2:=h.tln;have h3:=h.reps.len;have h4:=hr.le;have h5:=h.p0
 exact⟨by show 0<(fS _ _ _ _ _ _ _ _).1.length;omega,by show(fS _ _ _ _ _ _ _ _).1.length<=1000;omega,by show(fS _ _ _ _ _ _ _ _).2.length=(fS _ _ _ _ _ _ _ _).1.length;omega,fun j hj=>by
  obtain⟨r1,r2⟩:=h.row j (by rw[<-h1];exact hj)
  exact⟨r1,fun m hm=>by have:=(r2 m hm).1;rw[<-h1]at this;exact this⟩⟩
section
variable(li lk:List Int)(ts:List R3)(A B:List (List Nat)×List Nat)
theorem Fs:(nC li lk ts A B).ig=cY li:=rfl
theorem Fq:(nC li lk ts A B).kp=cY lk:=rfl
theorem Ft:(nC li lk ts A B).br=iE ts ts.length:=rfl
theorem yU:(nC li lk ts A B).rules=(ts.length:Int):=rfl
theorem vi:(nC li lk ts A B).groups=ints (bJ [A.1,B.1]):=rfl
theorem sU:(nC li lk ts A B).left=dH (bJ [A.1,B.1]) (iq (ints (bJ [A.1,B.1]))) A.1:=rfl
theorem pS:(nC li lk ts A B).right=dH (bJ [A.1,B.1]) (iq (ints (bJ [A.1,B.1]))) B.1:=rfl
theorem AE:(nC li lk ts A B).lt=A.2:=rfl
theorem AD:(nC li lk ts A B).rt=B.2:=rfl
end
theorem C1{B0:Nat}{w:la}{li lk:List Int}{ts:List R3}{xs:List X3}{a b A B:List (List Nat)×List Nat}{a6 a5:Nat->Nat}{g:List Nat}{many a7:Nat}{pa pb:Lt}{gv:ix}{lc rc:List ix}(a8:dE li lk ts=true)(b4:stM true (nZ ts)=some a)(b1:stM false (fM ts)=some b)(b5:JC a.1 a.2)(b2:JC b.1 b.2)(b6:Cls a6 a)(b3:Cls a5 b) 
  (hA:A=aU a6 a.1 a.2) (hB:B=aU a5 b.1 b.2) (a1:g=bJ [A.1,B.1]) (a0:iq (ints g)=many) (a':pa=dH g many A.1) (a9:pb=dH g many B.1) (a4:a7=iE ts xs.length) (hl:ts.length=xs.length) (b0:Sl aX 1 w gv g) (b8:PartV w lc pa A.2) (b7:PartV w rc pb B.2)
  (n1:L2 B0 gv) (n2:Gx B0 lc) (n3:Gx B0 rc):PostC B0 w (.tuple #[.agg (dq (cY li) (cY lk) a7 (xs.length:Nat) gv lc rc).toArray,nI 0]) li lk ts:=by
 refine .inr ⟨a8,.inl ⟨a,b,a6,a5,_,b4,b1,b5,b2,b6,b3,rfl,?_,?_⟩⟩
 ·rw[<-hA,<-hB];have a0:iq (ints (bJ [A.1,B.1]))=many:=by rw[<-a1];exact a0
  refine⟨gv,lc,rc,?_,?_,?_,?_⟩
  ·rw[Fs,Fq,Ft,yU,hl,<-a4]
  ·rw[vi,<-a1];exact b0.natIv
  ·rw[sU,AE,a0,<-a1,<-a'];exact b8
  rw[pS,AD,a0,<-a1,<-a9];exact b7
 intro cs a3;have a2:cs=dq (cY li) (cY lk) a7 (xs.length:Nat) gv lc rc:=by
  have:=(M9 a3).symm;simpa using this
 subst a2;intro v hv
 rcases J5.1 hv with hv|hv
 ·rcases J5.1 hv with hv|hv
  ·simp only[Gc,J7,or_false]at hv
   rcases hv with rfl|rfl|rfl|rfl|rfl
   ·exact fun a n c e=>by cases e
   ·exact fun a n c e=>by cases e
   ·exact fun a n c e=>by cases e
   ·exact fun a n c e=>by cases e
   exact n1
  exact n2 v hv
 exact n3 v hv
set_option maxHeartbeats 1000000 in
theorem oG(li lk:List Int)(ts:List R3)(v:ix)(w:la)(h:Tx w v li lk ts):
  KN JF 9 [v] w fun u w'=>KC w w'/\PostC w.heap.size w' u li lk ts:=by
 obtain⟨ig,kp,ru,xs,rfl,hi,hk,l9,hl,hx⟩:=h.ex;have i1:=hi.one;have i2:=hk.one;have i3:=l9.one;refine Gi func9 ntmps9 rfl rfl ?_;refine zh ?_;refine aE (au w) 1 zo rfl rfl ?_;intro db w1 O1 t' hU1 hR1 hE1;refine ax hR1 2 zo (JD _) rfl ?_;intro cb w2 O2 u4 x9 hR2 hE2;have m6:=t'.upd x9 zd zd;have n8:Jw (fun q=>1<=q) (fun _=>0) w O2 w2:=(hU1.mono (fun _ h=>zo) zd).trans (x9.mono (fun _ h=>zo) zd);have h8:=n8.ext;refine zh ?_;refine zv (ai (us:=[ig,kp,ru]) m6.cellsAdd (isAgg41 _) (sizeOf41 _) rfl) ?_;refine zc call31 (za li lk ts xs ig kp ru w2 (hi.ext h8) (hk.ext h8) (l9.ext h8) hl (fun i hi=>(hx i hi).ext h8)) ?_;rintro _ w3 ⟨rfl,hE3⟩;have p9:Jw (fun _=>False) O2 w2 O2 w3:=aa (fun h=>h) O2 hE3;have j9:=m6.upd p9 zd (fun h=>h);have g8:=u4.upd p9 zd (fun h=>h);have g1:=n8.trans (p9.mono (fun _ h=>h.elim) zd);have hR3:=hR2.upd p9;refine zh ?_
 by_cases s9:dE li lk ts=false
 ·refine zTH rfl ((by rw[s9];rfl)) ?_;refine zv (Kb (cells:=pc) FM (JD _) rfl rfl) ?_
  refine zsa (us:=pc) g8 (JO _) ?_;have j':=g8.setRow (us:=pc);have k6:Jw (fun j=>j=2) O2 w3 O2 (w3.setRow cb pc):=GY zd g8.tag rfl;refine zh ?_
  refine bA rfl rfl rfl (j'.cellsAdd) (KK _) (JO _) (⟨(g1.trans (k6.mono (fun _ h=>zo) zd)).ext,.inl ⟨s9,rfl⟩⟩)
 have l':dE li lk ts=true:=by simpa using s9
 obtain⟨h40,x4,t5,hrr⟩:=eo l';refine aS rfl ((by rw[l'];rfl)) ?_;have s8:=l9.ext g1.ext;refine zh ?_;have d0:=j9.drew.cellsAdd;refine aI (fun W=>∀j u,[ig,kp,ru][j]? = some u->W.cell? (nA db j)=some u) 12 rfl zk ?_;refine zrf 0 rfl d0 rfl ?_;refine zt 1 rfl d0 (fun w1 a6=>RV.ld (a6 0 _ rfl) rfl) ?_;refine zrf 3 rfl d0 rfl ?_;refine zt 4 rfl d0 (fun w1 a6=>RV.ld (a6 1 _ rfl) rfl) ?_;refine zrf 6 rfl d0 rfl ?_;refine zt 7 rfl d0 (fun w1 a6=>RV.ld (a6 2 _ rfl) rfl) ?_;refine zr 8 rfl d0 (fun _=>aM s8.sh underlying39 rfl) ?_;refine yI (fun x:Nat×(Nat->Nat)×World=>[(1,nP db),(2,nP cb),(4,.pointer (some ⟨x.1,0,none⟩)),(26,.agg (dq (cY li) (cY lk) 0 (xs.length:Nat) (nS) dO dO).toArray)]) (fun x=>x.2.2) (fun x=>KP x.2.1 x.2.2 3 x.1 pc 35/\Jw (fun q=>q=3) O2 w3 x.2.1 x.2.2/\KF w.heap.size x.2.1 x.2.2) #[true,true,true,true,true,true,true,true,true,true,true,false] 1 ?_ ?_
 ·intro hN;have hR:=hR3.drew;have hU:Jw (fun q=>q=3) O2 w3 O2 w3.drew:=aa zd O2 (ln w3).drew;have k0:∀O W,Jw (fun q=>q=3) O2 w3 O W->∀(j:Nat) (u:ix),[ig,kp,ru][j]? = some u->W.cell? (nA db j)=some u:=fun O W u=>(j9.upd u zd zd).cellsAdd
  have ki:∀O W,Jw (fun q=>q=3) O2 w3 O W->Sl encI 1 W ig li:=fun O W u=>hi.ext (g1.trans (u.mono (fun _ h=>zo) zd)).ext
  have kk:∀O W,Jw (fun q=>q=3) O2 w3 O W->Sl encI 1 W kp lk:=fun O W u=>hk.ext (g1.trans (u.mono (fun _ h=>zo) zd)).ext
  refine bV 2 10 zk rfl rfl ?_ ?_ 
  ·refine zc Ly (nJ li ig _ (ki _ _ hU) x4) ?_;rintro _ wa ⟨rfl,c6⟩;rw[c6];clear c6 wa;refine zh ?_
   refine af (k0 _ _ hU) ?_;refine bV 5 10 zk rfl rfl ?_ ?_ 
   ·refine zc Ly (nJ lk kp _ (kk _ _ hU) t5) ?_;rintro _ wa ⟨rfl,c6⟩;rw[c6];clear c6 wa;refine zh ?_
    refine af (k0 _ _ hU) ?_;refine zr 9 rfl (k0 _ _ hU) (fun _=>Kb (cells:=(dq (cY li) (cY lk) 0 (xs.length:Nat) (nS) dO dO).toArray) FM (JD _) rfl rfl) ?_
    refine Gh 10 zk rfl ?_;refine ax hR 3 zd (JD _) rfl ?_
    intro tb wc Oc fC b0 g2 y0;have hU:=J2 hU b0;have hR:=g2;refine zh ?_;refine af (k0 _ _ hU) ?_;exact Ke (hN (tb,_,_) ⟨fC,hU,hR⟩) zk ⟨rfl,rfl,rfl,rfl,trivial⟩ rfl
   refine ax hR 3 zd (JD _) rfl ?_;intro tb wc Oc fC b0 g2 y0;have hU:=J2 hU b0;have hR:=g2;refine zh ?_
   refine af (k0 _ _ hU) ?_;refine Gh 5 zk rfl ?_
   refine zc Ly (nJ lk kp _ (kk _ _ hU) t5) ?_;rintro _ wa ⟨rfl,c6⟩;rw[c6];clear c6 wa;refine zh ?_
   refine af (k0 _ _ hU) ?_;refine zr 9 rfl (k0 _ _ hU) (fun _=>Kb (cells:=(dq (cY li) (cY lk) 0 (xs.length:Nat) (nS) dO dO).toArray) FM (JD _) rfl rfl) ?_
   exact Ke (hN (tb,_,_) ⟨fC,hU,hR⟩) zk ⟨rfl,rfl,rfl,rfl,trivial⟩ rfl
  refine ax hR 3 zd (JD _) rfl ?_;intro tb wc Oc fC b0 g2 y0;have hU:=J2 hU b0;have hR:=g2;refine zh ?_
  refine af (k0 _ _ hU) ?_;refine Gh 2 zk rfl ?_
  refine zc Ly (nJ li ig _ (ki _ _ hU) x4) ?_;rintro _ wa ⟨rfl,c6⟩;rw[c6];clear c6 wa;refine zh ?_
  refine af (k0 _ _ hU) ?_;refine Gh 5 zk rfl ?_
  refine zc Ly (nJ lk kp _ (kk _ _ hU) t5) ?_;rintro _ wa ⟨rfl,c6⟩;rw[c6];clear c6 wa;refine zh ?_
  refine af (k0 _ _ hU) ?_;refine zr 9 rfl (k0 _ _ hU) (fun _=>Kb (cells:=(dq (cY li) (cY lk) 0 (xs.length:Nat) (nS) dO dO).toArray) FM (JD _) rfl rfl) ?_
  exact Ke (hN (tb,_,_) ⟨fC,hU,hR⟩) zk ⟨rfl,rfl,rfl,rfl,trivial⟩ rfl
 rintro⟨tb,O4,w4⟩ ⟨g5,r6,x'⟩;dsimp only at g5 r6 x' ⊢;have t9:=j9.upd r6 zd zd;have u3:=g8.upd r6 zd zd;refine Gh 11 zk rfl ?_;refine zsa (us:=(dq (cY li) (cY lk) 0 (xs.length:Nat) (nS) dO dO).toArray) g5 (JO _) ?_;have s6:=g5.setRow (us:=(dq (cY li) (cY lk) 0 (xs.length:Nat) (nS) dO dO).toArray);have q':Jw (fun j=>j=3) O4 w4 O4 (w4.setRow tb (dq (cY li) (cY lk) 0 (xs.length:Nat) (nS) dO dO).toArray):=GY zd g5.tag rfl;generalize w4.setRow tb (dq (cY li) (cY lk) 0 (xs.length:Nat) (nS) dO dO).toArray=w5 at *;have m5:=t9.upd q' zd zd;have u0:=u3.upd q' zd zd;have hR5:=x'.upd q';have n7:=g1.trans ((r6.trans q').mono (fun _ h=>zo) zd);refine zh ?_;refine af (m5.cellsAdd) ?_;have y7:=l9.ext n7.ext;have c2:w5.cell? (nA db 2)=some ru:=m5.cell 2 rfl;have z6:(2^40:Nat)=1099511627776:=zd;refine Ju zk ?_;refine zh ?_
 refine zlp (fun z:Nat×(Nat->Nat)×World×ix×ix=>[(1,nP db),(2,nP cb),(4,nP tb),(5,z.2.2.2.1),(6,z.2.2.2.2),(28,ru),(29,nI xs.length),(30,nI z.1)]) (fun z=>z.2.2.1) (fun z=>z.1<=xs.length/\Jw (fun q=>3<=q) O4 w5 z.2.1 z.2.2.1/\KF w.heap.size z.2.1 z.2.2.1/\KP z.2.1 z.2.2.1 3 tb (dq (cY li) (cY lk) (iE ts z.1) (xs.length:Nat) (nS) dO dO).toArray 35/\K4 aY 83 3 z.2.1 z.2.2.1 4 z.2.2.2.1 ((xs.take z.1).map (·.1))/\K4 aY 83 3 z.2.1 z.2.2.1 5 z.2.2.2.2 ((xs.take z.1).map (·.2.1))) (fun z=>xs.length-z.1) (0,O4,w5,nS,nS) (⟨IJ _,Lz zd _ _,hR5,s6,L4 _ _ _ _ _ _,L4 _ _ _ _ _ _⟩) ?_;rintro⟨i,O9,w9,lv,rv⟩ ⟨z1,p',j3,j6,g7,g6⟩;dsimp only at z1 p' j3 j6 g7 g6 ⊢;have h0:=n7.trans (p'.mono (fun _ h=>zo) zd);have s7:=l9.ext h0.ext;have hxl:xs.length<=40:=zo;refine zh ?_
 refine zC ?_ ?_
 ·intro i5;replace i5:i<xs.length:=dT i5;obtain⟨x,p5⟩:∃x,x=nth xs i:=⟨_,rfl⟩
  have p4:=hx i i5;rw[<-p5]at p4;have p1:=p4.1.one;have p2:=p4.2.1.one;have y8:(cj x).toArray.toList.all JP=true:=by obtain⟨x1,x2,bk⟩:=x;exact kz p1 p2
  refine zh ?_;refine zv (ai (us:=cj x) (fun j u hu=>s7.cell i5 (by rw[<-p5];exact hu)) (isAgg85 _) (sizeOf85 _) rfl) ?_
  refine ax j3 6 zo (zeroValue85 _) rfl ?_;intro rb l0 O10 e5 u9 k8 p0;refine zh ?_
  refine zsb (us:=(cj x).toArray) e5 (sizeOf85 _) y8 ?_;have e4:=e5.setRow (us:=(cj x).toArray);have h7:Jw (fun j=>j=6) O10 l0 O10 (l0.setRow rb (cj x).toArray):=GY zd e5.tag rfl;generalize l0.setRow rb (cj x).toArray=d7 at *;have d3:=u9.trans h7;have l6:=j6.upd d3 zd zd;have m2:=g7.upd d3 zd zd;have m0:=g6.upd d3 zd zd;have k7:=k8.upd h7;obtain⟨y6,y5,rc3,_⟩:=iT e4;have hll:((xs.take i).map (·.1)).length=i:=by simp;omega
  have hrl:((xs.take i).map (·.2.1)).length=i:=by simp;omega
  refine zh ?_;refine aI (fun W=>(∀(q:Nat) (u:ix),(aY x.1)[q]? = some u->W.cell? (nA rb q)=some u)/\(∀(q:Nat) (u:ix),(aY x.2.1)[q]? = some u->W.cell? ((nA rb 3).add q)=some u)) 12 rfl zk ?_
  refine zin ⟨y6 _ (ln d7).drew,y5 _ (ln d7).drew⟩ fun zS=>?_
  refine zrm 0 rfl zS rfl ?_;refine zrf 1 rfl zS rfl ?_
  refine zt 2 rfl zS (fun w1 a6=>ai (us:=aY x.1) a6.1 (isAgg83 _) (sizeOf83 _) rfl) ?_;refine zrm 5 rfl zS rfl ?_
  refine zrf 6 rfl zS rfl ?_;refine zt 7 rfl zS (fun w1 a6=>ai (us:=aY x.2.1) a6.2 (isAgg83 _) (sizeOf83 _) rfl) ?_
  refine yI (fun y:ix×ix×(Nat->Nat)×World=>[(1,nP db),(2,nP cb),(4,nP tb),(7,nI (i:Nat)),(8,nP rb),(28,ru),(29,nI xs.length),(30,nI (i:Nat)),(39,y.1),(44,y.2.1)]) (fun y=>y.2.2.2) (fun y=>K4 aY 83 3 y.2.2.1 y.2.2.2 4 y.1 ((xs.take i).map (·.1)++[x.1])/\K4 aY 83 3 y.2.2.1 y.2.2.2 5 y.2.1 ((xs.take i).map (·.2.1)++[x.2.1])/\Jw (fun q=>q=4\/q=5\/q=7\/q=8) O10 d7 y.2.2.1 y.2.2.2/\KF w.heap.size y.2.2.1 y.2.2.2) #[true,true,true,true,true,true,true,true,true,true,false,false] 2 ?_ ?_
  ·intro hN;have hR:=k7.drew;have hU:Jw (fun q=>q=4\/q=5\/q=7\/q=8) O10 d7 O10 d7.drew:=aa zd O10 (ln d7).drew;have k0:∀O W,Jw (fun q=>q=4\/q=5\/q=7\/q=8) O10 d7 O W->(∀(q:Nat) (u:ix),(aY x.1)[q]? = some u->W.cell? (nA rb q)=some u)/\(∀(q:Nat) (u:ix),(aY x.2.1)[q]? = some u->W.cell? ((nA rb 3).add q)=some u):=fun O W u=>by
    obtain⟨r1,r2,_,_⟩:=iT (e4.upd u zd zd);exact⟨r1 _ (ln _),r2 _ (ln _)⟩
   have rA:=m2.drew;have rB:=m0.drew;refine bV 3 8 zk rfl rfl ?_ ?_ 
   ·refine bS elN (enc:=aY) hR 7 zd x.1 rfl rfl rfl zd rfl ?_;intro y4 Wa Oa sA g9 u';have hU:=J2 hU (JQ g9 (fun _ h=>.inr (.inr (.inl h))) zd);have hR:=u';have rA:=J1 rA g9 zd zd;have rB:=J1 rB g9 zd zd
    try have sB:=J1 sB g9 zd zd
    refine zh ?_;refine af (k0 _ _ hU) ?_
    refine bV 4 8 zk rfl rfl ?_ ?_ 
    ·refine aC elN rA hR sA.sl (by simp) rfl rfl (by simp) (fun u hu c hc=>by rw[ka.1 hu]at hc;simp only[aY,Gc,J7,or_false]at hc;rcases hc with rfl|rfl|rfl;rfl;rfl;exact p1) (by simp only[Gb];omega) (by simp only[Gb];omega) zd rfl ?_;intro h' Wc Oc rA b0 g2;have hU:=J2 hU (JQ b0 (fun _ h=>.inl h) zd);have hR:=g2;have rB:=J1 rB b0 zd zd
     try have sB:=J1 sB b0 zd zd
     refine zh ?_;refine af (k0 _ _ hU) ?_
     refine Gh 8 zk rfl ?_;refine bS elN (enc:=aY) hR 8 zd x.2.1 rfl rfl rfl zd rfl ?_
     intro w6 Wb Ob sB d1 o5;have hU:=J2 hU (JQ d1 (fun _ h=>.inr (.inr (.inr h))) zd);have hR:=o5;have rA:=J1 rA d1 zd zd;have rB:=J1 rB d1 zd zd
     try have sA:=J1 sA d1 zd zd
     refine zh ?_;refine af (k0 _ _ hU) ?_
     refine Gh 9 zk rfl ?_;refine aC elN rB hR sB.sl (by simp) rfl rfl (by simp) (fun u hu c hc=>by rw[ka.1 hu]at hc;simp only[aY,Gc,J7,or_false]at hc;rcases hc with rfl|rfl|rfl;rfl;rfl;exact p2) (by simp only[Gb];omega) (by simp only[Gb];omega) zd rfl ?_
     intro h9 Wd Od rB g3 o4;have hU:=J2 hU (JQ g3 (fun _ h=>.inr (.inl h)) zd);have hR:=o4;have rA:=J1 rA g3 zd zd;refine zh ?_;refine af (k0 _ _ hU) ?_;exact Ke (hN (h',h9,_,_) ⟨rA,rB,hU,hR⟩) zk ⟨rfl,rfl,rfl,rfl,rfl,rfl,rfl,rfl,rfl,rfl,trivial⟩ rfl
    refine bS elN (enc:=aY) hR 8 zd x.2.1 rfl rfl rfl zd rfl ?_;intro w6 Wb Ob sB d1 o5;have hU:=J2 hU (JQ d1 (fun _ h=>.inr (.inr (.inr h))) zd);have hR:=o5;have rA:=J1 rA d1 zd zd;have rB:=J1 rB d1 zd zd
    try have sA:=J1 sA d1 zd zd
    refine zh ?_;refine af (k0 _ _ hU) ?_
    refine Gh 4 zk rfl ?_;refine aC elN rA hR sA.sl (by simp) rfl rfl (by simp) (fun u hu c hc=>by rw[ka.1 hu]at hc;simp only[aY,Gc,J7,or_false]at hc;rcases hc with rfl|rfl|rfl;rfl;rfl;exact p1) (by simp only[Gb];omega) (by simp only[Gb];omega) zd rfl ?_
    intro h' Wc Oc rA b0 g2;have hU:=J2 hU (JQ b0 (fun _ h=>.inl h) zd);have hR:=g2;have rB:=J1 rB b0 zd zd
    try have sB:=J1 sB b0 zd zd
    refine zh ?_;refine af (k0 _ _ hU) ?_
    refine Gh 9 zk rfl ?_;refine aC elN rB hR sB.sl (by simp) rfl rfl (by simp) (fun u hu c hc=>by rw[ka.1 hu]at hc;simp only[aY,Gc,J7,or_false]at hc;rcases hc with rfl|rfl|rfl;rfl;rfl;exact p2) (by simp only[Gb];omega) (by simp only[Gb];omega) zd rfl ?_
    intro h9 Wd Od rB g3 o4;have hU:=J2 hU (JQ g3 (fun _ h=>.inr (.inl h)) zd);have hR:=o4;have rA:=J1 rA g3 zd zd;refine zh ?_;refine af (k0 _ _ hU) ?_;exact Ke (hN (h',h9,_,_) ⟨rA,rB,hU,hR⟩) zk ⟨rfl,rfl,rfl,rfl,rfl,rfl,rfl,rfl,rfl,rfl,trivial⟩ rfl
   refine bS elN (enc:=aY) hR 8 zd x.2.1 rfl rfl rfl zd rfl ?_;intro w6 Wb Ob sB d1 o5;have hU:=J2 hU (JQ d1 (fun _ h=>.inr (.inr (.inr h))) zd);have hR:=o5;have rA:=J1 rA d1 zd zd;have rB:=J1 rB d1 zd zd
   try have sA:=J1 sA d1 zd zd
   refine zh ?_;refine af (k0 _ _ hU) ?_
   refine Gh 3 zk rfl ?_;refine bS elN (enc:=aY) hR 7 zd x.1 rfl rfl rfl zd rfl ?_
   intro y4 Wa Oa sA g9 u';have hU:=J2 hU (JQ g9 (fun _ h=>.inr (.inr (.inl h))) zd);have hR:=u';have rA:=J1 rA g9 zd zd;have rB:=J1 rB g9 zd zd
   try have sB:=J1 sB g9 zd zd
   refine zh ?_;refine af (k0 _ _ hU) ?_
   refine Gh 4 zk rfl ?_;refine aC elN rA hR sA.sl (by simp) rfl rfl (by simp) (fun u hu c hc=>by rw[ka.1 hu]at hc;simp only[aY,Gc,J7,or_false]at hc;rcases hc with rfl|rfl|rfl;rfl;rfl;exact p1) (by simp only[Gb];omega) (by simp only[Gb];omega) zd rfl ?_
   intro h' Wc Oc rA b0 g2;have hU:=J2 hU (JQ b0 (fun _ h=>.inl h) zd);have hR:=g2;have rB:=J1 rB b0 zd zd
   try have sB:=J1 sB b0 zd zd
   refine zh ?_;refine af (k0 _ _ hU) ?_
   refine Gh 9 zk rfl ?_;refine aC elN rB hR sB.sl (by simp) rfl rfl (by simp) (fun u hu c hc=>by rw[ka.1 hu]at hc;simp only[aY,Gc,J7,or_false]at hc;rcases hc with rfl|rfl|rfl;rfl;rfl;exact p2) (by simp only[Gb];omega) (by simp only[Gb];omega) zd rfl ?_
   intro h9 Wd Od rB g3 o4;have hU:=J2 hU (JQ g3 (fun _ h=>.inr (.inl h)) zd);have hR:=o4;have rA:=J1 rA g3 zd zd;refine zh ?_;refine af (k0 _ _ hU) ?_;exact Ke (hN (h',h9,_,_) ⟨rA,rB,hU,hR⟩) zk ⟨rfl,rfl,rfl,rfl,rfl,rfl,rfl,rfl,rfl,rfl,trivial⟩ rfl
  rintro⟨h',h9,O12,g4⟩ ⟨e6,a',b8,a5⟩;dsimp only at e6 a' b8 a5 ⊢;have m1:=e4.upd b8 zd zd;have a9:=l6.upd b8 zd zd;obtain⟨s1,s2,s3,_⟩:=iT m1;have b3:=(p'.trans (d3.mono (fun _ h=>zo) zd)).trans (b8.mono (fun _ h=>zo) zd);have s3':=s3 _ (ln _);have x6:x.2.2=(nth ts i).2.2:=p4.2.2;have el:(xs.take (i+1)).map (·.1)=(xs.take i).map (·.1)++[x.1]:=by rw[aR i5,JJ,<-p5];rfl
  have er:(xs.take (i+1)).map (·.2.1)=(xs.take i).map (·.2.1)++[x.2.1]:=by rw[aR i5,JJ,<-p5];rfl
  refine zin (⟨s1 _ (ln _),s2 _ (ln _)⟩) fun zS=>?_
  refine zra 10 rfl zS rfl ?_;refine zra 11 rfl zS rfl ?_
  refine Ju zk ?_;refine zh ?_
  have z3:=xk ts i zo;refine zC ?_ ?_
  ·intro hb;have u5:iE ts (i+1)=iE ts i ||| 2^i:=by rw[show iE ts (i+1)=if(nth ts i).2.2=true then iE ts i ||| 2^i else iE ts i from rfl,if_pos (by rw[<-x6];exact hb)]
   have hpw:2^i<2^40:=JG zd zo;have t2:g4.cell? (nA tb 2)=some (.int .u64 ((iE ts i:Nat):Int)):=a9.cell 2 rfl;refine Mo 6 rfl rfl zk zk ?_;refine zh ?_;refine zw (xB (a:=1) (b:=i) rfl rfl rfl rfl (by show _<=64;omega) (by show _<=(18446744073709551615:Int);omega)) ?_;rw[KG];refine zwH (uS (a:=iE ts i) (b:=2^i) rfl rfl rfl rfl (by show _<=(18446744073709551615:Int);omega) (by show _<=(18446744073709551615:Int);omega)) ?_;refine WS.go ?_;rw[<-u5];refine ak (j:=2) a9.drew rfl (LY _) rfl rfl rfl rfl ?_;have h6:Jw (fun j=>j=3) O12 g4.drew O12 (g4.drew.setCell ⟨tb,2,none⟩ (.int .u64 ((iE ts (i+1):Nat):Int))):=L1 zd a9.tag rfl;have l5:KP O12 (g4.drew.setCell ⟨tb,2,none⟩ (.int .u64 ((iE ts (i+1):Nat):Int))) 3 tb (dq (cY li) (cY lk) (iE ts (i+1)) (xs.length:Nat) (nS) dO dO).toArray 35:=a9.drew.set 2 _;generalize g4.drew.setCell ⟨tb,2,none⟩ (.int .u64 ((iE ts (i+1):Nat):Int))=s0 at *;refine zh ?_;refine zxd (i+1,O12,s0,h',h9) (⟨i5,b3.drew.trans (h6.mono (fun _ h=>zo) zd),a5.drew.upd h6,l5,by dsimp only;rw[el];exact e6.drew.upd h6 zd zd,by dsimp only;rw[er];exact a'.drew.upd h6 zd zd⟩)
  intro hb;have u5:iE ts (i+1)=iE ts i:=by rw[show iE ts (i+1)=if(nth ts i).2.2=true then iE ts i ||| 2^i else iE ts i from rfl,if_neg (by rw[<-x6,hb];decide)]
  refine zh ?_;refine zxd (i+1,O12,g4,h',h9) (⟨i5,b3,a5,by dsimp only;rw[u5];exact a9,by dsimp only;rw[el];exact e6,by dsimp only;rw[er];exact a'⟩)
 intro p6;obtain rfl:i=xs.length:=dF p6;rw[JA]at g7 g6;have hR9':=j3;refine zh ?_;refine zc call33 (pU true (nZ ts) (xs.map (·.1)) lv w9 g7.sl (by simp[hl]) (fun j hj=>by rw[J6]at hj;rw[dI hj,show nZ ts=ts.map (·.1)from rfl,dI zo];exact(hx j hj).1.ext h0.ext)) ?_;rintro va l0 ⟨p0,hPa⟩;obtain⟨e0,d9,ea,rfl,a1,a2,ha0,ha1⟩:=hPa.uni;have k5:Jw (fun _=>False) O9 w9 O9 l0:=aa (fun h=>h) O9 p0;have k8:=j3.upd k5;refine zh ?_;refine ax k8 7 zo (JR _) rfl ?_;intro ab d7 O11 f4 h7 k7 hE11;refine zsb (us:=#[e0,d9]) f4 (Jv _) (by simp only[J3,a1,a2];rfl) ?_;have n3:=f4.setRow (us:=#[e0,d9]);have b8:Jw (fun j=>j=7) O11 d7 O11 (d7.setRow ab #[e0,d9]):=GY zd f4.tag rfl;generalize d7.setRow ab #[e0,d9]=g4 at *;have g0:=h7.trans b8;have b3:=(k5.mono (S':=fun q=>q=7) (fun _ h=>h.elim) zd).trans g0;have a5:=k7.upd b8;have a':=g6.upd b3 zd zd;have n5:=h0.trans (b3.mono (fun _ h=>zo) zd);refine zh ?_;refine zc call33 (pU false (fM ts) (xs.map (·.2.1)) rv g4 a'.sl (by simp[hl]) (fun j hj=>by rw[J6]at hj;rw[dI hj,show fM ts=ts.map (·.2.1)from rfl,dI zo];exact(hx j hj).2.1.ext n5.ext)) ?_;rintro vb s0 ⟨v6,hPb⟩;obtain⟨d',d8,eb,rfl,b1,b2,z8,z7⟩:=hPb.uni;have n4:Jw (fun _=>False) O11 g4 O11 s0:=aa (fun h=>h) O11 v6;have v2:=a5.upd n4;refine zh ?_;refine ax v2 8 zo (JR _) rfl ?_
 intro bb r' O14 e' u7 v1 hE14;refine zsb (us:=#[d',d8]) e' (Jv _) (by simp only[J3,b1,b2];rfl) ?_;have i':=e'.setRow (us:=#[d',d8]);have n6:Jw (fun j=>j=8) O14 r' O14 (r'.setRow bb #[d',d8]):=GY zd e'.tag rfl;generalize r'.setRow bb #[d',d8]=w15 at *;have b7:=u7.trans n6;have f8:=(n4.mono (S':=fun q=>q=8) (fun _ h=>h.elim) zd).trans b7;have b9:=(g0.mono (S':=fun q=>q=7\/q=8) (fun _ h=>.inl h) zd).trans (f8.mono (fun _ h=>.inr h) zd);have f5:=(k5.mono (S':=fun q=>q=7\/q=8) (fun _ h=>h.elim) zd).trans b9;have o7:=v1.upd n6;have d2:=h0.trans (f5.mono (fun _ h=>zo) zd);have j1:=n3.upd f8 zd zd;have l4:=j6.upd f5 zd zd;have a4:=(u0.upd p' zd zd).upd f5 zd zd;refine zh ?_
 by_cases p8:ea=0
 ·refine ay (d:=66) rfl (b':=false) ((by rw[p8];rfl)) ?_;refine zh ?_
  by_cases p7:eb=0
  ·obtain⟨a,y3,z9,x8,z',j8,j5,l3⟩:=ha1 p8;obtain⟨b,y2,z4,x7,z5,j7,j4,l2⟩:=z7 p7;have r8:=eT x8 y3;have r7:=eT x7 y2;obtain⟨A,hA⟩:∃A,A=aU y3 a.1 a.2:=⟨_,rfl⟩
   obtain⟨B,hB⟩:∃B,B=aU y2 b.1 b.2:=⟨_,rfl⟩
   rw[<-hA]at r8 j8 j5;rw[<-hB]at r7 j7 j4;refine zFH rfl ((by rw[p7];rfl)) ?_;refine zv (ai (us:=[e0,d9]) j1.cellsAdd (Km _) (Jv _) rfl) ?_;refine zv (ai (us:=[d',d8]) i'.cellsAdd (Km _) (Jv _) rfl) ?_;refine gb underlying132 (Jv _) (JR _) zJ [(e0,d9),(d',d8)] rfl rfl rfl rfl zk (by simp) rfl ?_;intro l1 p3 l8 o';have g':Jw (fun _=>False) O14 w15 O14 p3:=aa (fun h=>h) O14 o';have f':=b9.trans (g'.mono (S':=fun q=>q=7\/q=8) (fun _ h=>h.elim) zd);have f7:=b7.trans (g'.mono (S':=fun q=>q=8) (fun _ h=>h.elim) zd);have v':=j8.upd j3 f';have v8:=j7.upd a5 f7;have o2:=l3.slU j5 j3 f';have o0:=l2.slU j4 a5 f7
   have n9:TabsD p3 l1 [(e0,d9),(d',d8)] [A.1,B.1] [A.2,B.2]:=⟨l8,rfl,rfl,fun i hi=>by
    match i,hi with
    |0,_=>exact⟨by rw[ar,ar];exact v'.rows,by rw[ar,ar];exact o2,by rw[ar,ar];exact r8⟩
    |1,_=>exact⟨by rw[bd,bd,ar,ar];exact v8.rows,by rw[bd,bd,ar,ar];exact o0,by rw[bd,bd,ar,ar];exact r7⟩⟩
   refine zc call34 (zE [(e0,d9),(d',d8)] [A.1,B.1] [A.2,B.2] l1 p3 n9 (by simp)) ?_;rintro gv k' ⟨c8,v5,i6⟩;obtain⟨many,hg,m4⟩:=qq [A.1,B.1];obtain⟨g,p6⟩:∃g,g=bJ [A.1,B.1]:=⟨_,rfl⟩
   rw[<-p6]at hg m4 c8;have x5:∀T∈[A,B],∀p,p<T.1.length->∀i j,i<37->j<37->nth g i=nth g j->nth (nth T.1 p) i=nth (nth T.1 p) j:=fun T hT p hp i j hi hj e=>by
    refine yz (tabs:=[A.1,B.1]) (fun rows e2 r hr=>?_) ((m4 i j hi hj).1 e) T.1 ?_ _ (aO hp)
    ·have o3:∃w0,JC rows w0:=by
      rcases Gc.1 e2 with rfl|e2
      ·exact⟨_,r8⟩
      rw[ka.1 e2];exact⟨_,r7⟩
     obtain⟨w0,o3⟩:=o3;obtain⟨q,hq,rfl⟩:=cI hr;have h1:=(o3.row q hq).2 i hi;have h2:=(o3.row q hq).2 j hj;have:=o3.le;omega
    rcases Gc.1 hT with rfl|hT
    ·simp
    rw[ka.1 hT];simp
   have u6:Jw (fun _=>False) O14 p3 O14 k':=aa (fun h=>h) O14 v5;have b6:=g'.trans u6;have e1:=l4.upd b6 zd (fun h=>h);have v0:=o7.upd b6;have y1:=c8.one;have i8:=i6.free c8 (fun x _=>by simp) (o7.upd g');refine zh ?_;refine ak (j:=4) e1 rfl (sizeOf22 _) y1 rfl rfl rfl ?_;have h5:Jw (fun j=>j=3) O14 k' O14 (k'.setCell ⟨tb,4,none⟩ gv):=L1 zd e1.tag rfl;have c7:KP O14 (k'.setCell ⟨tb,4,none⟩ gv) 3 tb (dq (cY li) (cY lk) (iE ts xs.length) (xs.length:Nat) gv dO dO).toArray 35:=e1.set 4 _;generalize k'.setCell ⟨tb,4,none⟩ gv=w18 at *;have e7:=c8.upd i8 h5;have i7:=i8.upd h5;have o6:=v0.upd h5;have a0:=(b6.mono (S':=fun q=>q=3) (fun _ h=>h.elim) zd).trans h5;have c':=j1.upd a0 zd zd;have c9:=i'.upd a0 zd zd;have m9:=a4.upd a0 zd zd;have j2:=d2.trans (a0.mono (fun _ h=>zo) zd);have f9:=(b9.mono (S':=fun q=>q=3\/q=7\/q=8) (fun _ h=>.inr h) zd).trans (a0.mono (fun _ h=>.inl h) zd);have f6:=(b7.mono (S':=fun q=>q=3\/q=8) (fun _ h=>.inr h) zd).trans (a0.mono (fun _ h=>.inl h) zd);have v9:=j8.upd j3 f9;have v7:=j7.upd a5 f6;have o1:=l3.slU j5 j3 f9;have n':=l2.slU j4 a5 f6;refine zh ?_;have d4:w18.drew.cell? (nA tb 4)=some gv:=c7.cell 4 rfl;refine aI (fun W=>W.cell? (nA tb 4)=some gv/\(∀j u,[e0,d9][j]? = some u->W.cell? (nA ab j)=some u)/\∀j u,[d',d8][j]? = some u->W.cell? (nA bb j)=some u) 12 rfl zk ?_;refine zin ⟨d4,c'.drew.cellsAdd,c9.drew.cellsAdd⟩ fun zS=>?_
   refine zrf 0 rfl zS rfl ?_;refine zt 1 rfl zS (fun w1 a6=>RV.ld a6.1 rfl) ?_
   refine zt 2 rfl zS (fun w1 a6=>ai (us:=[e0,d9]) a6.2.1 (Km _) (Jv _) rfl) ?_;refine zrf 4 rfl zS rfl ?_
   refine zt 5 rfl zS (fun w1 a6=>RV.ld a6.1 rfl) ?_;refine zt 6 rfl zS (fun w1 a6=>ai (us:=[d',d8]) a6.2.2 (Km _) (Jv _) rfl) ?_
   have g3:Jw (fun _=>False) O14 w18 O14 w18.drew:=aa (fun h=>h) O14 (ln w18).drew;refine Gh 3 zk rfl ?_;refine zc call35 (xY g many gv e0 d9 A.1 A.2 w18.drew hg e7.drew (v9.ext (ln w18).drew).rows o1.drew r8 (x5 A (by simp))) ?_;rintro _ r9 ⟨lc,rfl,y',t4,o9⟩;have d5:Jw (fun _=>False) O14 w18 O14 r9:=g3.trans (aa (fun h=>h) O14 o9);have a3:KC w18 r9:=(ln w18).drew.trans o9;refine zh ?_;refine af (⟨a3.cell (c7.cell 4 rfl),(c'.upd d5 zd (fun h=>h)).cellsAdd,(c9.upd d5 zd (fun h=>h)).cellsAdd⟩) ?_;refine zrf 8 rfl (⟨a3.cell (c7.cell 4 rfl),(c'.upd d5 zd (fun h=>h)).cellsAdd,(c9.upd d5 zd (fun h=>h)).cellsAdd⟩) rfl ?_;refine Gh 7 zk rfl ?_;refine zc call35 (xY g many gv d' d8 B.1 B.2 r9 hg (e7.ext a3) (v7.ext a3).rows (n'.ext a3) r7 (x5 B (by simp))) ?_;rintro _ k9 ⟨rc,rfl,y9,e3,o8⟩;have b5:Jw (fun _=>False) O14 w18 O14 k9:=d5.trans (aa (fun h=>h) O14 o8);have a8:=c7.upd b5 zd (fun h=>h);have j0:=c'.upd b5 zd (fun h=>h);have i9:=c9.upd b5 zd (fun h=>h);have m8:=m9.upd b5 zd (fun h=>h);have m3:=y'.ext o8;refine zh ?_;refine af (⟨a8.cell 4 rfl,j0.cellsAdd,i9.cellsAdd⟩) ?_;obtain⟨u1,b4,k1,n1,t1,t6,s5,k4,t8,t3,w8⟩:=m3;obtain⟨u2,d6,k2,n2,t2,s',s4,k3,t7,t0,w7⟩:=y9;subst t6;subst s';have q1:=s5.one;have q2:=k4.one;have q3:=t8.one;have q4:=t3.one;have q5:=w8.one;have r1:=s4.one;have r2:=k3.one;have r3:=t7.one;have r4:=t0.one;have r5:=w7.one;obtain⟨pa,x3⟩:∃pa,pa=dH g many A.1:=⟨_,rfl⟩
   obtain⟨pb,x0⟩:∃pb,pb=dH g many B.1:=⟨_,rfl⟩
   rw[<-x3]at s5 k4 t8 t3 t4 ⊢;rw[<-x0]at s4 k3 t7 t0 e3 ⊢;obtain⟨c5,m'⟩:∃c5,c5=iE ts xs.length:=⟨_,rfl⟩
   rw[<-m']at a8;refine Gh 9 zk rfl ?_;refine eL (us:=#[nI pa.width,u1,b4,k1,n1,t1]) 5 (dq (cY li) (cY lk) c5 (xs.length:Nat) gv [nI pa.width,u1,b4,k1,n1,t1] dO).toArray a8 rfl (by show 5+6<=17;omega) (JY _) (by simp only[J3,q1,q2,q3,q4,q5];rfl) rfl rfl rfl ?_;have a7:=a8.setRow (us:=(dq (cY li) (cY lk) c5 (xs.length:Nat) gv [nI pa.width,u1,b4,k1,n1,t1] dO).toArray);have h4:Jw (fun j=>j=3) O14 k9 O14 (k9.setRow tb (dq (cY li) (cY lk) c5 (xs.length:Nat) gv [nI pa.width,u1,b4,k1,n1,t1] dO).toArray):=GY zd a8.tag rfl;generalize k9.setRow tb (dq (cY li) (cY lk) c5 (xs.length:Nat) gv [nI pa.width,u1,b4,k1,n1,t1] dO).toArray=w21 at *;have f3:=j0.upd h4 zd zd;have e9:=i9.upd h4 zd zd;have m7:=m8.upd h4 zd zd;refine zh ?_;refine af (⟨a7.cell 4 rfl,f3.cellsAdd,e9.cellsAdd⟩) ?_;refine zrf 10 rfl (⟨a7.cell 4 rfl,f3.cellsAdd,e9.cellsAdd⟩) rfl ?_;refine Gh 11 zk rfl ?_;refine eL (us:=#[nI pb.width,u2,d6,k2,n2,t2]) 11 (dq (cY li) (cY lk) c5 (xs.length:Nat) gv [nI pa.width,u1,b4,k1,n1,t1] [nI pb.width,u2,d6,k2,n2,t2]).toArray a7 rfl (by show 11+6<=17;omega) (JY _) (by simp only[J3,r1,r2,r3,r4,r5];rfl) rfl rfl rfl ?_;have i0:=a7.setRow (us:=(dq (cY li) (cY lk) c5 (xs.length:Nat) gv [nI pa.width,u1,b4,k1,n1,t1] [nI pb.width,u2,d6,k2,n2,t2]).toArray)
   have h3:Jw (fun j=>j=3) O14 w21 O14 (w21.setRow tb (dq (cY li) (cY lk) c5 (xs.length:Nat) gv [nI pa.width,u1,b4,k1,n1,t1] [nI pb.width,u2,d6,k2,n2,t2]).toArray):=GY zd a7.tag rfl;generalize w21.setRow tb (dq (cY li) (cY lk) c5 (xs.length:Nat) gv [nI pa.width,u1,b4,k1,n1,t1] [nI pb.width,u2,d6,k2,n2,t2]).toArray=w22 at *;have e8:=m7.upd h3 zd zd;refine zh ?_;refine af (⟨i0.cell 4 rfl,(f3.upd h3 zd zd).cellsAdd,(e9.upd h3 zd zd).cellsAdd⟩) ?_;have go2:=y1;have n0:(dq (cY li) (cY lk) c5 (xs.length:Nat) gv [nI pa.width,u1,b4,k1,n1,t1] [nI pb.width,u2,d6,k2,n2,t2]).toArray.toList.all JP=true:=by
    simp only[dq,Lk,KI,J3,go2,q1,q2,q3,q4,q5,r1,r2,r3,r4,r5];rfl
   refine Ju zk ?_;refine zh ?_
   refine zv (ai (us:=dq (cY li) (cY lk) c5 (xs.length:Nat) gv [nI pa.width,u1,b4,k1,n1,t1] [nI pb.width,u2,d6,k2,n2,t2]) i0.cellsAdd (KK _) (JO _) rfl) ?_;refine zsb (us:=(dq (cY li) (cY lk) c5 (xs.length:Nat) gv [nI pa.width,u1,b4,k1,n1,t1] [nI pb.width,u2,d6,k2,n2,t2]).toArray) e8 (JO _) n0 ?_
   have j':=L6 (us:=(dq (cY li) (cY lk) c5 (xs.length:Nat) gv [nI pa.width,u1,b4,k1,n1,t1] [nI pb.width,u2,d6,k2,n2,t2]).toArray) e8;have k6:Jw (fun j=>j=2) O14 w22 O14 (w22.setRow cb (dq (cY li) (cY lk) c5 (xs.length:Nat) gv [nI pa.width,u1,b4,k1,n1,t1] [nI pb.width,u2,d6,k2,n2,t2]).toArray):=GY zd e8.tag rfl;have hU20z:=((h4.mono (S':=fun q=>q=2\/q=3) (fun _ h=>.inr h) zd).trans (h3.mono (fun _ h=>.inr h) zd)).trans (k6.mono (fun _ h=>.inl h) zd);have hPL:PartV k9 [nI pa.width,u1,b4,k1,n1,t1] pa A.2:=⟨u1,b4,k1,n1,t1,rfl,s5,k4,t8,t3,w8⟩
   have hPR:PartV k9 [nI pb.width,u2,d6,k2,n2,t2] pb B.2:=⟨u2,d6,k2,n2,t2,rfl,s4,k3,t7,t0,w7⟩
   have v4:=hPL.upd t4 o6.drew hU20z;have v3:=hPR.upd e3 (o6.upd d5) hU20z;have z2:=(e7.upd i7 b5).upd (i7.upd b5) hU20z;have i4:=j2.size;have l7:=a3.size;refine zh ?_;refine bA rfl rfl rfl (j'.cellsAdd) (KK _) (JO _) (⟨((j2.trans (b5.mono (fun _ h=>h.elim) zd)).trans (hU20z.mono (fun _ h=>zo) zd)).ext,C1 l' z9 z4 x8 x7 z' z5 hA hB p6 hg.cnt x3 x0 m' hl z2 v4 v3 (i6.mono (KB d2.size o'.size)) (fun v hv=>(t4 v hv).mono i4) (fun v hv=>(e3 v hv).mono (KB i4 l7))⟩)
  refine zTH rfl ((by simpa using p7)) ?_;refine zv (Kb (cells:=pc) FM (JD _) rfl rfl) ?_
  refine zsa (us:=pc) a4 (JO _) ?_;have j':=L6 (us:=pc) a4;have k6:Jw (fun j=>j=2) O14 w15 O14 (w15.setRow cb pc):=GY zd a4.tag rfl;refine zh ?_
  refine bA rfl rfl rfl (j'.cellsAdd) (KK _) (JO _) (⟨(d2.trans (k6.mono (fun _ h=>zo) zd)).ext,.inr ⟨l',.inr ⟨(.inr (z8 p7)),rfl⟩⟩⟩)
 refine ay (d:=66) rfl (b':=true) ((by simpa using p8)) ?_;refine zh ?_
 refine zTH rfl rfl ?_;refine zv (Kb (cells:=pc) FM (JD _) rfl rfl) ?_
 refine zsa (us:=pc) a4 (JO _) ?_;have j':=L6 (us:=pc) a4;have k6:Jw (fun j=>j=2) O14 w15 O14 (w15.setRow cb pc):=GY zd a4.tag rfl;refine zh ?_
 refine bA rfl rfl rfl (j'.cellsAdd) (KK _) (JO _) (⟨(d2.trans (k6.mono (fun _ h=>zo) zd)).ext,.inr ⟨l',.inr ⟨(.inl (ha0 p8)),rfl⟩⟩⟩)
end Go.Proofs.YtlehnbkknlpkbaaGreatDoor
end
section
namespace Go.VL
section
variable{P:Lc}{N:Nat}{st:St}{w:la}{t xt yt:JW}{x y:LG}{k:IntKind}{m n:Int}
theorem Gn(hx:ev st x=some (.int k m)):RV P N (.unOp .neg xt x) t st w (.int k (k.wrap (-m))):=
 fun a ha a0 p e g=>by simp only[execOp,ha.ev hx];simp[Op.unary,Op.intArith,pure]
theorem Gp(hx:ev st x=some (.int k m))(hy:ev st y=some (.int k n)):RV P N (.binOp .mul xt x y yt) t st w (.int k (k.wrap (m*n))):=
 gg hx hy Fz
end
theorem Ia(b j:Nat):nA b j=⟨b,j,none⟩:=by simp only[KT];split<;>simp_all
end Go.VL
namespace Go.Proofs.YtlehnbkknlpkbaaGreatDoor
open Go.VL Go.Proofs
set_option maxRecDepth 10000
theorem GI(x:Nat)(w:la)(hx:x<18446744073709551616)(h0:x≠0)(hT:LF 0 Lm w):KN JF 135 [.int .u64 (x:Nat)] w fun v w'=>v=nI ((Kc 64 x:Nat):Int)/\w'=w:=by
 obtain⟨a0,hk⟩:=LC 64 x h0 hx;obtain⟨hi,a1⟩:=Lib.deBruijn64_at _ hk;have hp:2^Kc 64 x<18446744073709551616:=Ku (JG zd hk) zd;generalize Kc 64 x=k at *;rw[show(2^64:Nat)=18446744073709551616 from by decide]at a0;generalize 2^k=pk at *;generalize a2:pk*285870213051353865 % 18446744073709551616 / 288230376151711744=idx at *;have a3:w.cell? (nA 0 idx)=some (.int .u8 (k:Int)):=by
  have:=hT idx hi;rw[a1]at this;rw[Ia];exact this
 refine Gi func135 ntmps135 rfl rfl ?_;refine zh ?_
 refine zFH rfl ((by rw[beq_eq_false_iff_ne];omega)) ?_;refine zv (Gn rfl) ?_
 refine zv (xD (a:=x) (b:=18446744073709551616-x) rfl rfl rfl (by rw[La];omega) (by show _<=(18446744073709551615:Int);omega) (by show _<=(18446744073709551615:Int);omega)) ?_;rw[a0];refine zv (Gp rfl rfl) ?_
 rw[show Lv.wrap (((pk:Nat):Int)*285870213051353865)=((pk*285870213051353865 % 18446744073709551616:Nat):Int)from by rw[La];omega];refine zv (iM (a:=pk*285870213051353865 % 18446744073709551616) (b:=58) rfl rfl rfl rfl zd) ?_;rw[show pk*285870213051353865 % 18446744073709551616 / 2^58=idx from a2];refine zvH (fE underlying249 (sizeOf5 _) rfl rfl idx rfl hi) ?_;refine zvH (Cx underlying5 underlying3 rfl (KS zo)) ?_;refine ae rfl rfl (⟨rfl,rfl⟩)
theorem rV(s c:Nat)(w:la)(hs:s<18446744073709551616)(hc:c<64):KN JF 93 [.int .u64 (s:Nat),nI (c:Nat)] w fun v w'=>v=.bool (s.testBit c)/\w'=w:=by
 have hd:s / 2^c<=s:=Nat.div_le_self _ _;have e:(((s / 2^c &&& 1:Nat):Int)==1)=s.testBit c:=by
  rw[Nat.and_one_is_mod,Nat.testBit_eq_decide_div_mod_eq]
  rcases Nat.mod_two_eq_zero_or_one (s / 2^c)with h|h<;>rw[h]<;>rfl
 refine Gi func93 ntmps93 rfl rfl ?_;refine zh ?_
 refine zv (iM (a:=s) (b:=c) rfl rfl rfl rfl (by show _<=64;omega)) ?_;refine zvH (xD (a:=s / 2^c) (b:=1) rfl rfl rfl rfl (by show _<=(18446744073709551615:Int);omega) zd) ?_
 refine ae rfl rfl (⟨by rw[<-e],rfl⟩)
theorem kf(cs:List ix)(p:Lt)(tl:List Nat)(r c:Nat)(w:la)(h:PartV w cs p tl)(ok:OkP p)(hr:r<p.usual.length)(a9:c<64):
  KN JF 51 [.agg cs.toArray,nI (r:Nat),nI (c:Nat)] w fun v w'=>v=nI (getM p r c)/\KC w w':=by
 obtain⟨uv,bv,kv,nv,tv,rfl,a3,a7,a5,a4,a8⟩:=h;obtain⟨o1,o2,o3,o4,o5,o6,o7⟩:=ok;have a6:=o7 r zo;obtain⟨b,a2⟩:=Int.eq_ofNat_of_zero_le a6.1;have hg:getM p r c=if b+c<p.check.length/\nth p.check (b+c)=r then nth p.next (b+c)else nth p.usual r:=by simp only[getM,a2];rfl
 refine Gi func51 ntmps51 rfl rfl ?_;refine zh ?_
 refine aE (au w) 1 zo rfl rfl ?_;intro db w1 O1 a1 a' b0 a0;have hu:=a3.ext a0;have hb:=a7.ext a0;have hk:=a5.ext a0;have hn:=a4.ext a0;have c1:w1.cell? ((nA db 0).add 1)=some uv:=a1.cell 1 rfl;have c2:w1.cell? ((nA db 0).add 2)=some bv:=a1.cell 2 rfl;have c3:w1.cell? ((nA db 0).add 3)=some kv:=a1.cell 3 rfl;have c4:w1.cell? ((nA db 0).add 4)=some nv:=a1.cell 4 rfl;have k1:w1.cell? (adr bv 1 r)=some (nI (b:Int)):=by have:=hb.cell (i:=r) (j:=0) zo rfl;rw[ao,a2]at this;exact this
 refine zh ?_
 by_cases h1:b+c<p.check.length
 ·refine ay (d:=22) rfl (b':=true) (decide_eq_true zo) ?_;have k2:w1.cell? (adr kv 1 (b+c))=some (nI (nth p.check (b+c))):=by have:=hk.cell (i:=b+c) (j:=0) h1 rfl;rwa[ao]at this
  have k3:w1.cell? (adr nv 1 (b+c))=some (nI (nth p.next (b+c))):=by have:=hn.cell (i:=b+c) (j:=0) zo rfl;rwa[ao]at this
  refine zh ?_;refine zC ?_ ?_
  ·intro he;replace he:nth p.check (b+c)=r:=by simpa using he
   rw[if_pos ⟨h1,he⟩]at hg;refine zh ?_;refine ae rfl rfl (⟨by rw[hg],a0⟩)
  intro he;replace he:¬nth p.check (b+c)=r:=by simpa using he
  rw[if_neg (fun h=>he h.2)]at hg;have k4:w1.cell? (adr uv 1 r)=some (nI (nth p.usual r)):=by have:=hu.cell (i:=r) (j:=0) hr rfl;rwa[ao]at this
  refine zh ?_;refine ae rfl rfl (⟨by rw[hg],a0⟩)
 rw[if_neg (fun h=>h1 h.1)]at hg;have k4:w1.cell? (adr uv 1 r)=some (nI (nth p.usual r)):=by have:=hu.cell (i:=r) (j:=0) hr rfl;rwa[ao]at this
 refine ay (d:=22) rfl (b':=false) (decide_eq_false zo) ?_;refine zh ?_
 refine zFH rfl rfl ?_;refine ae rfl rfl (⟨by rw[hg],a0⟩)
end Go.Proofs.YtlehnbkknlpkbaaGreatDoor
end
namespace Go.Proofs.YtlehnbkknlpkbaaGreatDoor
def FZ(l:List Int):Int:=l.foldl max (nth l 0)
theorem Dh(l:List Int)(sv:ix)(w:la)(h:Kj w sv l)(a1:0<l.length):KN JF 80 [sv] w fun v w'=>v=nI (FZ l)/\w'=w:=by
 have hl:=h.len_le;have m0:w.cell? (adr sv 1 0)=some (nI (nth l 0)):=by have:=h.cell (j:=0) a1 rfl;rwa[ao]at this
 have e1:nth l 0=(l.take 1).foldl max (nth l 0):=by
  rw[aR a1];simp
 have a2:FZ l=(l.take l.length).foldl max (nth l 0):=by rw[JA];rfl
 rw[a2];obtain⟨z0,a3⟩:∃z,z=nth l 0:=⟨_,rfl⟩
 rw[<-a3]at m0 e1 ⊢;refine Gi func80 ntmps80 rfl rfl ?_;refine zh ?_;refine zFH rfl ((decide_eq_false zo)) ?_;refine zlp (fun z:Nat×Int=>[(0,sv),(3,nI z.2),(4,nI z.1)]) (fun z=>w) (fun z=>1<=z.1/\z.1<=l.length/\z.2=(l.take z.1).foldl max z0) (fun z=>l.length-z.1) (1,z0) (⟨JH _,a1,e1⟩) ?_;rintro⟨q,m⟩ ⟨a4,hq,hm⟩;dsimp only at a4 hq hm ⊢;refine zh ?_;refine zC ?_ ?_
 ·intro a0;replace a0:q<l.length:=dT a0;have m1:w.cell? (adr sv 1 q)=some (nI (nth l q)):=by have:=h.cell (j:=0) a0 rfl;rwa[ao]at this
  refine zh ?_;refine zvH (gH rfl rfl) ?_
  refine zxd (q+1,max m (nth l q)) (⟨by dsimp only;omega,a0,by dsimp only;rw[aR a0,K5,<-hm];rfl⟩)
 intro a5;obtain rfl:q=l.length:=dF a5;refine zh ?_;refine ae rfl rfl (⟨by rw[hm],rfl⟩)
theorem pC{F:FuncId}(hF:∀(args:Array ix) (w:la),(callFunc F args).run JF w=.ok (.enter F args) w)(cs:Array ix)(l:List (Nat))(sv:ix)(q:Nat->Bool)(w:la)(h:Sl jb 1 w sv l) 
  (hq:∀i,i<l.length->∀w',KC w w'->KN JF F ([(fun n:Nat=>LU .u64 (n:Int)) (nth l i)]++cs.toList) w' fun v w''=>v=.bool (q i)/\KC w' w'') :
  KN JF 123 [sv,.func (.func F) #[] cs] w fun v w'=>v=nI (firstN q l.length)/\KC w w':=by
 have hl:=h.len_le;refine Gi func123 ntmps123 rfl rfl ?_;refine zh ?_;refine zlp (fun x:Nat×la=>[(0,sv),(1,.func (.func F) #[] cs),(7,nI l.length),(8,nI x.1)]) (fun x=>x.2) (fun x=>x.1<=l.length/\KC w x.2/\∀i,i<x.1->q i=false) (fun x=>l.length-x.1) (0,w) (⟨IJ _,ln _,fun i hi=>absurd hi (Kg i)⟩) ?_;rintro⟨k,w1⟩ ⟨hk,hE,a1⟩;dsimp only at hk hE a1 ⊢;have h1:=h.ext hE;refine zh ?_;refine zC ?_ ?_
 ·intro a0;replace a0:k<l.length:=dT a0;refine zh ?_;refine zv (RV.ld (by have:=h1.cell (i:=k) (j:=0) a0 rfl;rwa[ao]at this) rfl) ?_;refine dN rfl hF rfl (hq k a0 w1 hE) rfl ?_;rintro v w2 ⟨rfl,a3⟩;refine zh ?_;refine zC ?_ ?_
  ·intro hy;refine zh ?_;refine ae rfl rfl (⟨by rw[cG a0 hy a1],hE.trans a3⟩)
  intro hy;refine zh ?_;refine zxd (k+1,w2) (⟨a0,hE.trans a3,fun i hi=>(Nat.lt_succ_iff_lt_or_eq.1 hi).elim (a1 i) (fun e=>by rw[e];exact hy)⟩)
 intro a2;replace a2:l.length<=k:=dF a2;refine zh ?_;refine ae rfl rfl (⟨by rw[cE fun i hi=>a1 i zo],hE⟩)
theorem lV{F:FuncId}(hF:∀(args:Array ix) (w:la),(callFunc F args).run JF w=.ok (.enter F args) w)(cs:Array ix)(l:List (Nat))(sv:ix)(q:Nat->Bool)(w:la)(h:Sl jb 1 w sv l) 
  (hq:∀i,i<l.length->∀w',KC w w'->KN JF F ([(fun n:Nat=>LU .u64 (n:Int)) (nth l i)]++cs.toList) w' fun v w''=>v=.bool (q i)/\KC w' w'') :
  KN JF 76 [sv,.func (.func F) #[] cs] w fun v w'=>v=.bool (jc q l.length)/\KC w w':=by
 refine Gi func76 ntmps76 rfl rfl ?_;refine zh ?_
 refine zc call123 (pC hF cs l sv q w h hq) ?_;rintro v w1 ⟨rfl,hE⟩;refine zh ?_
 refine ae rfl rfl (⟨by rw[firstN_any],hE⟩)
theorem BU(b rules:Nat)(a:L3)(w:la)(hr:rules<=64)(hc:w.cell? a=some (nI (rules:Nat))):KN JF 77 [.int .u64 (b:Nat),.pointer (some a)] w fun v w'=>v=.bool (!(b / 2^rules==0))/\w'=w:=by
 have e:((((b / 2^rules:Nat):Int)) != 0) = !(b / 2^rules==0):=by
  generalize b / 2^rules=q
  by_cases h:q=0
  ·subst h;rfl
  rw[beq_eq_false_iff_ne.2 h];simpa using h
 refine Gi func77 ntmps77 rfl rfl ?_;refine zh ?_
 refine zvH (iM (a:=b) (b:=rules) rfl rfl rfl rfl (by show _<=64;omega)) ?_;refine ae rfl rfl (⟨by rw[<-e],rfl⟩)
theorem BT(row:List Int)(rv lv:ix)(n:Nat)(a:L3)(w:la)(h:Kj w rv row)(a1:0<row.length)(a0:Shape lv n)(hc:w.cell? a=some lv):KN JF 79 [rv,.pointer (some a)] w fun v w'=>v=.bool (decide ((n:Int)<=FZ row))/\KC w w':=by
 refine Gi func79 ntmps79 rfl rfl ?_;refine zh ?_
 refine WC.still zk zk ?_;refine zh ?_
 refine WS.call call80 rfl (Dh row rv _ h.drew a1) rfl ?_;refine zh ?_
 refine zwH (aM a0 underlying50 rfl) ?_;refine WS.nil ?_
 refine zh ?_;refine ae rfl rfl (⟨rfl,(ln w).drew⟩)
def kQ(p:Lt)(tl:List Nat)(many rules:Nat):Bool:=
 de p&&(p.width==(many:Int)) && !((gj p).length==0)&&(tl.length==(gj p).length) && !(jc (fun i=>!(nth tl i / 2^rules==0)) tl.length) && !(jc (fun i=>decide (((gj p).length:Int)<=FZ (nth (gj p) i))) (gj p).length)
theorem qv(p:Lt):(gj p).length=p.usual.length/\∀i,i<p.usual.length->(nth (gj p) i).length=p.width.toNat:=by
 refine⟨by simp[gj],fun i hi=>?_⟩;unfold gj;rw[gp _ _ _ hi];simp[CF]
theorem uo(cs:List ix)(p:Lt)(tl:List Nat)(many rules:Nat)(w:la)(h:PartV w cs p tl)(hr:rules<=64):
  KN JF 41 [.agg cs.toArray,nI (many:Nat),nI (rules:Nat)] w fun v w'=>v=.bool (kQ p tl many rules)/\KC w w':=by
 obtain⟨uv,bv,kv,nv,tv,rfl,d2,d8,d7,d6,c9⟩:=h;obtain⟨a4,d3⟩:=qv p;have c8:=c9.len_le;refine Gi func41 ntmps41 rfl rfl ?_;refine zh ?_;refine aE (au w) 1 zo rfl rfl ?_;intro db w1 O1 c6 e0 e4 f5;refine aE e4 2 zo rfl rfl ?_;intro yb w2 O2 b6 d1 e3 f4;have a8:=c6.upd d1 zd zd;have a9:=(e0.mono (S':=fun q=>1<=q) (fun _ h=>zo) zd).trans (d1.mono (fun _ h=>zo) zd);have a3:=a9.ext
 have e7:∀(j:Nat) (u:ix),[nI p.width,uv,bv,kv,nv][j]? = some u->w2.cell? ((nA db 0).add j)=some u:=fun j u hu=>a8.cellsAdd j u (by
  match j,hu with
  |0,hu=>exact hu
  |1,hu=>exact hu
  |2,hu=>exact hu
  |3,hu=>exact hu
  |4,hu=>exact hu)
 refine zh ?_;refine zv (ai (us:=[nI p.width,uv,bv,kv,nv]) e7 (isAgg30 _) (LX _) rfl) ?_
 refine zc call75 (tw p _ w2 ⟨uv,bv,kv,nv,rfl,d2.ext a3,d8.ext a3,d7.ext a3,d6.ext a3⟩) ?_;rintro _ w3 ⟨rv,rfl,a6,e6⟩;have b3:Jw (fun _=>False) O2 w2 O2 w3:=aa (fun h=>h) O2 e6;have e':=e3.upd b3;have b5:=b6.upd b3 zd (fun h=>h);have c5:=a8.upd b3 zd (fun h=>h);have c7:=a9.trans (b3.mono (fun _ h=>h.elim) zd);have ro:rv.oneCell'=true:=by
  split at a6
  ·obtain⟨b0,h1,_⟩:=a6;exact h1.one
  rw[a6];rfl
 refine zh ?_;refine ax (au w3) 3 zo (zeroValue50 _) rfl ?_
 intro lb w4 O4 a5 d' e9 f3;refine ak (j:=0) a5 rfl (sizeOf50 _) ro rfl rfl rfl ?_;have d9:Jw (fun j=>j=3) O4 w4 O4 (w4.setCell ⟨lb,0,none⟩ rv):=L1 zd a5.tag rfl;have b9:KP O4 (w4.setCell ⟨lb,0,none⟩ rv) 3 lb #[rv] 50:=a5.set 0 _;have a2:KC w3 (w4.setCell ⟨lb,0,none⟩ rv):=(d'.trans d9).ext;generalize w4.setCell ⟨lb,0,none⟩ rv=w5 at *;have a0:KC w w5:=c7.ext.trans a2;have a7:=c5.ext a2;have b4:=b5.ext a2;have d0:w5.cell? (((nA db 0)).add 0)=some (nI p.width):=a7.cell 0 rfl;have d5:w5.cell? (nA db 5)=some tv:=a7.cell 5 rfl;have l0:w5.cell? ⟨lb,0,none⟩=some rv:=b9.cell 0 rfl;have y0:w5.cell? ⟨yb,0,none⟩=some (nI (rules:Nat)):=b4.cell 0 rfl;have b7:=c9.ext a0;refine zh ?_
 cases b2:de p with
 |false=>
  refine ay (d:=17) rfl (b':=true) (rfl) ?_;refine zh ?_
  refine zTH rfl rfl ?_;refine ae rfl rfl (⟨by unfold kQ;rw[b2];rfl,a0⟩)
 |true=>
  rw[b2,if_pos rfl]at a6;obtain⟨b0,c',a1,d4⟩:=a6.ext a2;have ok:=okP p b2;have e8:=ok.w1;refine ay (d:=17) rfl (b':=false) (rfl) ?_;refine zh ?_
  by_cases h1:p.width=(many:Int)
  ·refine ay (d:=24) rfl (b':=false) ((by rw[h1];simp)) ?_;refine zh ?_
   by_cases h2:p.usual.length=0
   ·refine ay (d:=29) rfl (b':=true) ((by rw[a1,a4,h2];rfl)) ?_;refine zh ?_
    refine zTH rfl rfl ?_;refine ae rfl rfl (⟨by unfold kQ;rw[a4,h2];simp,a0⟩)
   refine ay (d:=29) rfl (b':=false) ((by rw[a1,a4,beq_eq_false_iff_ne];omega)) ?_;refine zh ?_
   by_cases h3:tl.length=p.usual.length
   ·refine zFH rfl ((by rw[a1,a4,h3];simp)) ?_;refine zv (eA rfl rfl) ?_
    refine zc call76 (lV call77 #[nP yb] tl tv (fun i=>!(nth tl i / 2^rules==0)) w5 b7 (fun i hi w' b1=>(BU (nth tl i) rules _ w' hr (b1.cell y0)).mono fun v w'' ⟨e1,e2⟩=>⟨e1,e2▸ln _⟩)) ?_;rintro _ w6 ⟨rfl,a'⟩;refine zh ?_
    cases h4:jc (fun i=>!(nth tl i / 2^rules==0)) tl.length with
    |true=>
     refine zTH rfl rfl ?_;refine ae rfl rfl (⟨by unfold kQ;rw[h4];simp,a0.trans a'⟩)
    |false=>
     have b8:=c'.ext a';have l6:w6.cell? ⟨lb,0,none⟩=some rv:=a'.cell l0;refine zFH rfl rfl ?_;refine zv (eA rfl rfl) ?_;refine zc call78 (fW call79 #[nP lb] b0 rv (fun i=>decide (((gj p).length:Int)<=FZ (nth (gj p) i))) w6 b8 (fun i hi w' b1=>by have:=BT (nth (gj p) i) (nth b0 i) rv b0.length ⟨lb,0,none⟩ w' (((d4 i zo).ext a').ext b1) (by rw[d3 i zo];omega) c'.sh (b1.cell l6);rw[a1]at this;exact this)) ?_;rintro _ w7 ⟨rfl,e5⟩;refine zh ?_;refine ae rfl rfl (⟨by unfold kQ;rw[b2,h1,h4,a4,h3,a1,a4,beq_eq_false_iff_ne.2 h2];simp,(a0.trans a').trans e5⟩)
   refine zTH rfl ((by rw[a1,a4];simp;omega)) ?_;refine ae rfl rfl (⟨by unfold kQ;rw[a4,beq_eq_false_iff_ne.2 h3];simp,a0⟩)
  refine ay (d:=24) rfl (b':=true) ((by simpa using h1)) ?_;refine zh ?_
  refine zTH rfl rfl ?_;refine ae rfl rfl (⟨by unfold kQ;rw[beq_eq_false_iff_ne.2 h1];simp,a0⟩)
end Go.Proofs.YtlehnbkknlpkbaaGreatDoor
section
namespace Go.VL
theorem add_add(b i j:Nat):(nA b i).add j=⟨b,i+j,none⟩:=by simp only[KT];split<;>split<;>simp_all
end Go.VL
namespace Go.Proofs.YtlehnbkknlpkbaaGreatDoor
open Go.VL Go.Proofs
set_option maxRecDepth 10000
structure TabB(w:la)(b:Nat)(t:TabM)(gv:ix)(lc rc:List ix):Prop where
 cells:∀j u,(dq t.ig t.kp t.br t.rules gv lc rc)[j]? = some u->w.cell? ⟨b,j,none⟩=some u
 groups:Kj w gv t.groups
 left:PartV w lc t.left t.lt
 right:PartV w rc t.right t.rt
section
variable{w:la}{b:Nat}{t:TabM}{gv:ix}{lc rc:List ix}
theorem TabB.ext{w':la}(h:TabB w b t gv lc rc)(e:KC w w'):TabB w' b t gv lc rc:=⟨fun j u hu=>e.cell (h.cells j u hu),h.groups.ext e,h.left.ext e,h.right.ext e⟩
theorem TabB.c0(h:TabB w b t gv lc rc):w.cell? (nA b 0)=some (.int .u64 (t.ig:Int)):=h.cells 0 _ rfl
theorem TabB.c1(h:TabB w b t gv lc rc):w.cell? (nA b 1)=some (.int .u64 (t.kp:Int)):=h.cells 1 _ rfl
theorem TabB.c2(h:TabB w b t gv lc rc):w.cell? (nA b 2)=some (.int .u64 (t.br:Int)):=h.cells 2 _ rfl
theorem TabB.c3(h:TabB w b t gv lc rc):w.cell? (nA b 3)=some (nI t.rules):=h.cells 3 _ rfl
theorem TabB.c4(h:TabB w b t gv lc rc):w.cell? (nA b 4)=some gv:=h.cells 4 _ rfl
theorem TabB.cl(h:TabB w b t gv lc rc):∀(j:Nat) (u:ix),lc[j]? = some u->w.cell? ((nA b 5).add j)=some u:=fun j u hu=>by
 rw[add_add];refine h.cells (5+j) u ?_;have hj:=(K1.1 hu).1;rw[show dq t.ig t.kp t.br t.rules gv lc rc=[.int .u64 (t.ig:Int),.int .u64 (t.kp:Int),.int .u64 (t.br:Int),nI t.rules,gv]++(lc++rc)from Jy _ _ _];rw[Ji (by simp),show 5+j-_=j from by simp,K2 hj];exact hu
theorem TabB.cr(h:TabB w b t gv lc rc):∀(j:Nat) (u:ix),rc[j]? = some u->w.cell? ((nA b 11).add j)=some u:=fun j u hu=>by
 rw[add_add];refine h.cells (11+j) u ?_;have hl:=h.left.one.1;rw[Ji (by simp[hl]),show 11+j-_=j from by simp[hl]];exact hu
end
theorem xw{w:la}{b i:Nat}{O:Nat->Nat}{E:JW}{t:TabM}{gv:ix}{lc rc:List ix}(hb:KP O w i b (dq t.ig t.kp t.br t.rules gv lc rc).toArray E)(h1:Kj w gv t.groups)(h2:PartV w lc t.left t.lt)(h3:PartV w rc t.right t.rt):TabB w b t gv lc rc:=
 ⟨fun j u hu=>hb.cell j (by simpa using hu),h1,h2,h3⟩
def gk(t:TabM):Bool:=
 !(decide (t.rules<0)||decide (40<t.rules)||(iq t.groups==0)) && !(!(t.ig / 2^36==0) || !(t.kp / 2^36==0) || !(t.br / 2^t.rules.toNat==0))&&kQ t.left t.lt (iq t.groups) t.rules.toNat&&kQ t.right t.rt (iq t.groups) t.rules.toNat
theorem ne0(q:Nat):(((q:Nat):Int) != 0) = !(q==0):=by
 by_cases h:q=0
 ·subst h;rfl
 rw[beq_eq_false_iff_ne.2 h];simpa using h
theorem sT(t:TabM)(v:ix)(w:la)(h:TabV w v t):KN JF 12 [v] w fun u w'=>u=.bool (gk t)/\KC w w':=by
 obtain⟨gv,lc,rc,rfl,b0,a8,a7⟩:=h;obtain⟨ll,lo⟩:=a8.one;obtain⟨rl,ro⟩:=a7.one;refine Gi func12 ntmps12 rfl rfl ?_;refine zh ?_;refine aE (au w) 1 zo rfl rfl ?_;intro db w1 O1 a3 b3 b4 a1;have hT:=xw (t:=t) a3 (b0.ext a1) (a8.ext a1) (a7.ext a1);have c0:=hT.c0;have c1:=hT.c1;have c2:=hT.c2;have c3:=hT.c3;have c4:=hT.c4;have cl:=hT.cl;have cr:=hT.cr;refine zh ?_;refine zc Mm (iQ t.groups gv w1 hT.groups) ?_;rintro _ w2 ⟨rfl,a6⟩;rw[a6];clear a6 w2;obtain⟨many,a2⟩:∃many,many=iq t.groups:=⟨_,rfl⟩
 have a9:gk t=(!(decide (t.rules<0)||decide (40<t.rules)||(many==0)) && !(!(t.ig / 2^36==0) || !(t.kp / 2^36==0) || !(t.br / 2^t.rules.toNat==0))&&kQ t.left t.lt many t.rules.toNat&&kQ t.right t.rt many t.rules.toNat):=by rw[a2];rfl
 rw[a9,<-a2];refine zh ?_
 by_cases h1:t.rules<0
 ·refine ay (d:=11) rfl (b':=true) ((decide_eq_true h1)) ?_;refine zh ?_
  refine zTH rfl rfl ?_;refine ae rfl rfl (⟨by rw[decide_eq_true h1];simp,a1⟩)
 refine ay (d:=11) rfl (b':=false) ((decide_eq_false h1)) ?_;refine zh ?_
 by_cases h2:40<t.rules
 ·refine ay (d:=16) rfl (b':=true) ((decide_eq_true h2)) ?_;refine zh ?_
  refine zTH rfl rfl ?_;refine ae rfl rfl (⟨by rw[decide_eq_true h2];simp,a1⟩)
 obtain⟨rules,a0⟩:∃rules:Nat,t.rules=(rules:Int):=⟨t.rules.toNat,zo⟩
 have a':t.rules.toNat=rules:=zo;refine ay (d:=16) rfl (b':=false) ((decide_eq_false h2)) ?_;refine zh ?_
 by_cases h3:many=0
 ·refine zTH rfl ((by rw[h3];rfl)) ?_;refine ae rfl rfl (⟨by rw[h3];simp,a1⟩)
 refine zFH rfl ((by rw[beq_eq_false_iff_ne];omega)) ?_;refine zvH (iM (a:=t.ig) (b:=36) rfl rfl rfl rfl zd) ?_
 by_cases h4:t.ig / 2^36=0
 ·refine ay (d:=25) rfl (b':=false) ((by rw[ne0,h4];rfl)) ?_;refine zh ?_
  refine zvH (iM (a:=t.kp) (b:=36) rfl rfl rfl rfl zd) ?_
  by_cases h5:t.kp / 2^36=0
  ·refine ay (d:=31) rfl (b':=false) ((by rw[ne0,h5];rfl)) ?_;refine zh ?_
   refine zvH (iM (a:=t.br) (b:=rules) rfl rfl rfl a0 (by show _<=64;omega)) ?_
   by_cases h6:t.br / 2^rules=0
   ·have b2:nI t.rules=nI (rules:Int):=by rw[a0]
    refine zFH rfl ((by rw[ne0,h6];rfl)) ?_;refine zvH (ai (us:=lc) cl (KL _) (by rw[ll];exact JY _) rfl) ?_
    rw[a0];refine zc call41 (uo lc t.left t.lt many rules w1 hT.left zo) ?_;rintro _ w2 ⟨rfl,a5⟩;have a4:=hT.ext a5;have d3:=a4.c3;have d4:=a4.cr;rw[a0]at d3;refine zh ?_
    cases h7:kQ t.left t.lt many rules with
    |false=>
     refine ay (d:=45) rfl (b':=false) (rfl) ?_;refine zh ?_
     refine ae rfl rfl (⟨by rw[K6,h7];simp,a1.trans a5⟩)
    |true=>
     refine ay (d:=45) rfl (b':=true) (rfl) ?_;refine zh ?_
     refine zvH (ai (us:=rc) d4 (KL _) (by rw[rl];exact JY _) rfl) ?_;refine zc call41 (uo rc t.right t.rt many rules w2 a4.right zo) ?_
     rintro _ w3 ⟨rfl,b1⟩;refine zh ?_;refine ae rfl rfl (⟨?_,(a1.trans a5).trans b1⟩);rw[K6,h7,h4,h5,h6,decide_eq_false zo,decide_eq_false zo,beq_eq_false_iff_ne.2 h3];simp
   refine zTH rfl ((by rw[ne0,beq_eq_false_iff_ne.2 h6];rfl)) ?_;refine ae rfl rfl (⟨by rw[a',beq_eq_false_iff_ne.2 h6];simp,a1⟩)
  refine ay (d:=31) rfl (b':=true) ((by rw[ne0,beq_eq_false_iff_ne.2 h5];rfl)) ?_;refine zh ?_
  refine zTH rfl rfl ?_;refine ae rfl rfl (⟨by rw[beq_eq_false_iff_ne.2 h5];simp,a1⟩)
 refine ay (d:=25) rfl (b':=true) ((by rw[ne0,beq_eq_false_iff_ne.2 h4];rfl)) ?_;refine zh ?_
 refine zTH rfl rfl ?_;refine ae rfl rfl (⟨by rw[beq_eq_false_iff_ne.2 h4];simp,a1⟩)
end Go.Proofs.YtlehnbkknlpkbaaGreatDoor
end
namespace Go.VL
theorem kj(g:Nat):∀(vs:List ix) (o:Nat) (w:la),(w.setCells g o vs).os=w.os/\(w.setCells g o vs).tape=w.tape/\(w.setCells g o vs).output=w.output/\(w.setCells g o vs).heap.size=w.heap.size
 |[],_,_=>⟨rfl,rfl,rfl,rfl⟩
 |v::r,o,w=>by
  have h:=kj g r (o+1) (w.setCell ⟨g,o,none⟩ v);refine⟨h.1.trans rfl,h.2.1.trans rfl,h.2.2.1.trans rfl,h.2.2.2.trans ?_⟩;simp[Ls]
theorem js{g:Nat}{E:JW}:∀(vs:List ix) (o:Nat) (w:la) (a1:Array ix),w.heap[g]? = some (.cells a1 E (0,0))->∃a0,(w.setCells g o vs).heap[g]? = some (.cells a0 E (0,0))/\a0.size=a1.size
 |[],_,_,a1,h=>⟨a1,h,rfl⟩
 |v::r,o,w,a1,h=>by
  have h2:(w.setCell ⟨g,o,none⟩ v).heap[g]? = some (.cells (a1.setIfInBounds o v) E (0,0)):=by
   simp only[Ls,Array.getElem?_modify,if_pos];rw[h];simp
  obtain⟨a0,h3,h4⟩:=js r (o+1) _ _ h2;exact⟨a0,h3,by rw[h4];simp⟩
inductive WinO{α:Type}(enc:α->List ix)(E:JW)(sz:Nat)(O:Nat->Nat)(w:la)(i:Nat):ix->List α->Prop
 |none (a:Option L3):WinO enc E sz O w i (.slice a 0 0) []
 |some {g off cap:Nat} {cur:Array ix} {l:List α} (tag:O g=i) (blk:w.heap[g]? = some (.cells cur E (0,0))) (fit:off+cap*sz<=cur.size) (len:l.length<=cap) (mx:cap<=maxLen)
  (cells:∀j u,(l.flatMap enc)[j]? = some u->w.cell? ⟨g,off+j,K0⟩=some u) (hz:∀x∈l,(enc x).length=sz):WinO enc E sz O w i (.slice (KA ⟨g,off,K0⟩) l.length cap) l
section
variable{α:Type}{enc:α→List ix}{E:JW}{sz:Nat}{O:Nat→Nat}{w:la}{i:Nat}{v:ix}{l:List α}
theorem WinO.nil(enc:α->List ix)(E:JW)(sz:Nat)(O:Nat->Nat)(w:la)(i:Nat):WinO enc E sz O w i (.slice .none 0 0) []:=.none .none
theorem qI(h:K4 enc E sz O w i v l):WinO enc E sz O w i v l:=by
 obtain⟨⟨⟨hl,hr⟩,ht⟩,hz⟩:=h
 rcases hr with⟨rfl,h0⟩|⟨g,a5,a0,rfl,_,hg,a2,a3,a4,a1⟩
 ·obtain rfl:l=[]:=Gv h0;exact .none .none
 refine .some (ht g rfl) hg zo a2 a3 (fun j u hu=>?_) hz;rw[LO,cell_of_row w g j a0 E (0,0) hg];rw[<-a1]at hu;have:=List.getElem?_take (l:=a0.toList) (i:=l.length*sz) (j:=j)
 rw[this]at hu
 split at hu
 ·simpa using hu
 cases hu
theorem WinO.upd{S:Nat->Prop}{O':Nat->Nat}{w':la}(h:WinO enc E sz O w i v l)(u:Jw S O w O' w')(hi:i≠0)(hS:¬S i):WinO enc E sz O' w' i v l:=by
 cases h with
 |none a=>exact .none a
 | @some g off cap cur l tag blk fit len mx cells hz=>
  have hb:=u.blk g (bB blk) (by rw[tag];exact hS);exact .some (by rw[u.tag g (by rw[tag];exact hi),tag]) (by rw[hb];exact blk) fit len mx (fun j x hx=>iC hb (cells j x hx)) hz
theorem WinO.sl(h:WinO enc E sz O w i v l):Sl enc sz w v l:=by
 cases h with
 |none a=>exact⟨⟨a,0,rfl,JH _,zo,fun h=>absurd rfl h⟩,fun i hi=>absurd hi (by simp)⟩
 | @some g off cap cur l tag blk fit len mx cells hz=>
  refine⟨⟨_,cap,rfl,len,by simpa[maxLen]using mx,fun _=>⟨g,off,rfl⟩⟩,fun i hi j u hu=>?_⟩;have:=cells _ u (eV l hz i hi j u hu);rw[show((adr (.slice (KA ⟨g,off,K0⟩) l.length cap) sz i).add j)=⟨g,off+(i*sz+j),K0⟩from by simp only[adr,KT];split<;>simp_all[]];exact this
theorem WinO.one(h:WinO enc E sz O w i v l):v.oneCell'=true:=h.sl.one
theorem WinO.tail{x:α}{r:List α}(hp:0<sz)(h:WinO enc E sz O w i v (x::r)):WinO enc E sz O w i (ej v sz 1 (r.length+1)) r:=by
 generalize hl:x::r=l at h
 cases h with
 |none a=>cases hl
 | @some g off cap cur l tag blk fit len mx cells hz=>
  subst hl;simp only[Jr]at len
  by_cases hc:cap=1
  ·have hr:r=[]:=Gv zo;subst hr;subst hc;exact .none _
  have hx:=hz x (by simp);obtain⟨a0,rfl⟩:∃c,cap=c+1:=⟨cap-1,zo⟩
  have e:ej (.slice (KA ⟨g,off,K0⟩) (x::r).length (a0+1)) sz 1 (r.length+1)=.slice (KA ⟨g,off+sz,K0⟩) r.length a0:=by
   simp only[ej];rw[if_neg zo];simp only[Option.map_some,KT,KG,Nat.add_sub_cancel];rw[if_neg zo]
  rw[e];refine .some tag blk (by rw[LV]at fit;omega) zo zo (fun j u hu=>?_) (fun y hy=>hz y (by simp[hy]))
  have:=cells (sz+j) u (by
   rw[Ky,Ji zo,hx,JN]
   exact hu)
  rw[KW];exact this
end
theorem ph{P:Lc}{w:la}{T ty E:JW}{sz bytes:Nat}(he:Mc P T E sz bytes){B:Nat}{O:Nat->Nat}(r:KF B O w){i:Nat}{α:Type}{enc:α->List ix}{v:ix}{l:List α}(hw:WinO enc E sz O w i v l) 
  (x:α) (a:L3) (c:Nat) (hx:∀j u,(enc x)[j]? = some u->w.cell? (a.add j)=some u) (a':(enc x).length=sz) (h1:∀u∈enc x,u.oneCell'=true) (a3:(l.length+1)*bytes<=140737488355328) (b6:l.length+1<=9223372036854775807) (b':i≠0) :
  ∃v' w' O',(Mq #[T,T] ty #[v,.slice (some a) 1 c]).run P w=.ok v' w'/\WinO enc E sz O' w' i v' (l++[x])/\Jw (fun k=>k=i) O w O' w':=by
 obtain⟨a1,z,hi,hz,c8,d7,b7⟩:=he.parts;have ht:=he.ht;have hp:=he.pos;subst c8;subst d7;have b8:¬(0=i):=fun h=>b' h.symm
 have fresh:∀ {v':ix} {w':la} {a7:List ix} {n:Nat} {ls:List α},w'.ownsRow w.heap.size E a1.size v' n a7->n≠0->w.grownBy w' none->n=ls.length->a7=ls.flatMap enc->(∀y∈ls,(enc y).length=a1.size)->∃O',WinO enc E a1.size O' w' i v' ls/\Jw (fun k=>k=i) O w O' w':=by
  intro v' w' a7 n ls a4 hn a5 b3 ho c9
  rcases a4.2 with⟨_,h0⟩|⟨g,a9,a8,rfl,hbg,hg,d9,d4,d3,c7⟩
  ·omega
  refine⟨lJ O g i,qI ⟨⟨⟨by rw[<-ho];rw[a4.1,b3],.inr ⟨g,a9,a8,by rw[b3],IJ _,hg,zo,d4,d3,by rw[<-b3,c7,ho]⟩⟩,fun g' c5=>?_⟩,c9⟩,?_⟩
  ·simp only[Lp,M1]at c5;subst c5;exact eB _ _ _
  have d0:=bB hg;refine⟨a5.os,a5.tape,a5.output,a5.size,fun b hb _=>a5.block b hb (by simp),fun b hb=>?_,fun b hb=>?_,b8⟩
  ·unfold lJ;rw[if_neg];have:=(r.rng b hb).2;omega
  unfold lJ at hb
  split at hb
  ·rename_i e;subst e;exact .inr ⟨hbg,d0⟩
  exact .inl hb
 have b5:∀(g off j:Nat),(⟨g,off,none⟩:L3).add j=⟨g,off+j,none⟩:=fun g off j=>by simp only[KT];split<;>simp_all
 cases hw with
 |none a0=>
  cases a0 with
  |none=>
   obtain⟨v',w',O',a2,b2,b1⟩:=ft (P:=P) (ty:=ty) he r (RowO.nil O w i E a1.size) a 1 c (enc x) zo hx h1 (by simpa using a3) (by simp) b';refine⟨v',w',O',a2,qI ⟨by simpa using b2,fun y hy=>?_⟩,b1⟩;have c6:y=x:=by simpa using hy
   rw[c6];exact a'
  |some b0=>
   obtain⟨v',w',a2,a4,a5⟩:=run_append_arg_grows (P:=P) w T ty E a1 z a1.size a1.bytes ht hi hz rfl rfl b7 hp b0 0 0 [] (by simp) (fun j u hu=>by simp at hu) a 1 c (enc x) zo hx zo (by simp[maxLen]) (by simpa using a3);obtain⟨O',h2,h3⟩:=fresh (ls:=[x]) a4 zo a5 (by simp) (by simp) (fun y hy=>by rw[ka.1 hy];exact a');exact⟨v',w',O',a2,h2,h3⟩
 | @some g off a9 a8 l tag blk fit len mx cells hzl=>
  have b4:=nq l hzl
  by_cases a6:l.length+1<=a9
  ·have d2:off+l.length*a1.size+a1.size<=a8.size:=by
    have:=Nat.mul_le_mul_right a1.size a6;rw[LV,KG]at this;omega
   have b9:∀j,j<(enc x).length->(w.cell? ⟨g,off+l.length*a1.size+j,none⟩).isSome=true:=fun j hj=>by
    rw[cell_of_row w g _ a8 E (0,0) blk,Array.getElem?_eq_getElem (show off+l.length*a1.size+j<a8.size by omega)];rfl
   have d1:∀j,j<(enc x).length->w.frozen? ⟨g,off+l.length*a1.size+j,none⟩=false:=fun j hj=>by simp[World.frozen?,blk]
   have a2:=run_append_room_cells (P:=P) w T ty E a1 ht hi g off l.length a9 a 1 c (enc x) zo hx h1 a6 b9 d1;obtain⟨d8,d6,d5⟩:=js (enc x) (off+l.length*a1.size) w a8 blk;obtain⟨s1,s2,s3,s4⟩:=kj g (enc x) (off+l.length*a1.size) w;have c':(l++[x]).length=l.length+1:=by simp
   refine⟨_,_,O,a2,?_,⟨s1,s2,s3,zo,fun b hb hn=>World.heap_setCells_other w g _ _ hb (fun e=>hn (by rw[e];exact tag)),fun _ _=>rfl,fun _ h=>.inl h,b8⟩⟩;rw[<-c'];refine .some tag d6 (by rw[d5];exact fit) zo mx (fun j u hu=>?_) (fun y hy=>?_)
   ·rw[List.flatMap_append,Ky,Lj,J0]at hu
    by_cases hj:j<(l.flatMap enc).length
    ·rw[K2 hj]at hu;rw[World.cell?_setCells_out g _ _ w _ (fun _ _=>.inl (by show off+j<_;omega))];exact cells j u hu
    rw[Ji zo]at hu;have hk:=(K1.1 hu).1;have:=World.cell?_setCells_in g (enc x) (off+l.length*a1.size) w b9 (j-(l.flatMap enc).length) hk;rw[show off+l.length*a1.size+(j-(l.flatMap enc).length)=off+j from by omega]at this;rw[this];exact(List.getElem?_eq_getElem hk).symm.trans hu
   rcases J5.1 hy with hy|hy
   ·exact hzl y hy
   rw[ka.1 hy];exact a'
  obtain⟨v',w',a2,a4,a5⟩:=run_append_arg_grows (P:=P) w T ty E a1 z a1.size a1.bytes ht hi hz rfl rfl b7 hp ⟨g,off,none⟩ l.length a9 (l.flatMap enc) b4 (fun j u hu=>by rw[b5];exact cells j u hu) a 1 c (enc x) zo hx zo (by simpa[maxLen]using b6) a3
  obtain⟨O',h2,h3⟩:=fresh (ls:=l++[x]) a4 zo a5 (by simp) (by simp) (fun y hy=>by
   rcases J5.1 hy with hy|hy
   ·exact hzl y hy
   rw[ka.1 hy];exact a')
  exact⟨v',w',O',a2,h2,h3⟩
section
variable{P:Lc}{N:Nat}{ops:Array Ma}{Q:Exit→Act→la→Prop}{rest:List Ma}{st:St}{w:la}{t:JW}{p:String}{e:Array Edge}{d:Nat}{x y:LG}
theorem uQ{T E:JW}{sz a0:Nat}(he:Mc P T E sz a0){α:Type}{enc:α->List ix}{B:Nat}{O:Nat->Nat}{i:Nat}{v sv:ix}{l:List α}{u:α}(hr:WinO enc E sz O w i v l)(r:KF B O w)(hs:Sl enc sz w sv [u]) 
  (hx:ev st x=some v) (hy:ev st y=some sv) (a4:(enc u).length=sz) (a6:∀c∈enc u,c.oneCell'=true)
  (hb:(l.length+1)*a0<=140737488355328) (a9:l.length+1<=9223372036854775807) (a7:i≠0) (hd:Mh d N=true)
  (h:∀v' w' O',WinO enc E sz O' w' i v' (l++[u])->Jw (fun k=>k=i) O w O' w'->KF B O' w'->WL P N ops Q rest ((d,v')::st) w') :
  WL P N ops Q (⟨some d,.call ⟨.builtin .append,#[x,y],#[T,T]⟩,t,p,e,none⟩::rest) st w:=by
 obtain⟨a,c,rfl,_,_,a8⟩:=hs.shape;obtain⟨b,o,rfl⟩:=a8 (by simp);have a5:=BS hs (fun q hq=>by rw[ka.1 hq];exact a4) he.pos rfl;simp only[Ky,Lj,J0]at a5;obtain⟨v',w',O',a2,a3,a1⟩:=ph (P:=P) (ty:=t) he r hr u ⟨b,o,none⟩ c a5 a4 a6 hb a9 a7;refine WL.val (v:=v') (w':=w') hd (fun a ha=>?_) (h v' w' O' a3 a1 (r.upd a1));simp only[execOp,resolve,invoke,builtin,LK,Sem.run_pure,L8,Li,KV,LH,ha.ev hx,ha.ev hy,Gb,a2]
end
end Go.VL
namespace Go.Proofs.YtlehnbkknlpkbaaGreatDoor
abbrev En:=Nat×Bool
abbrev Gw(x:En):List ix:=[nI (x.1:Int),.bool x.2]
theorem elE:Mc JF 112 114 2 16:=⟨L7,by kernel_rfl,zd⟩
structure RunS where
 row:Nat
 wait:List En
 begun:Bool
 last:En
 closed:Bool
def grT(t:TabM)(c:Nat):Nat:=(nth t.groups c).toNat
def stL(t:TabM)(r c:Nat):Nat:=(getM t.left r (grT t c)).toNat
def stR(t:TabM)(r c:Nat):Nat:=(getM t.right r (grT t c)).toNat
structure OkT(t:TabM):Prop where
 okl:OkP t.left
 okr:OkP t.right
 gl:t.groups.length=37
 gr:∀c,c<37->0<=nth t.groups c/\nth t.groups c<64
 ll:t.lt.length=t.left.usual.length
 rl:t.rt.length=t.right.usual.length
 lp:0<t.left.usual.length
 rp:0<t.right.usual.length
 lst:∀r c,r<t.left.usual.length->c<37->0<=getM t.left r (grT t c)/\getM t.left r (grT t c)<t.left.usual.length
 rst:∀r c,r<t.right.usual.length->c<37->0<=getM t.right r (grT t c)/\getM t.right r (grT t c)<t.right.usual.length
 ig:t.ig<2^36
 kp:t.kp<2^36
 br:t.br<2^40
 lt:∀q∈t.lt,q<2^40
 rt:∀q∈t.rt,q<2^40
theorem OkT.gN{t:TabM}(h:OkT t){c:Nat}(hc:c<37):nth t.groups c=((grT t c:Nat):Int)/\grT t c<64:=by
 have:=h.gr c hc;unfold grT;omega
theorem OkT.lN{t:TabM}(h:OkT t){r c:Nat}(hr:r<t.left.usual.length)(hc:c<37):getM t.left r (grT t c)=((stL t r c:Nat):Int)/\stL t r c<t.left.usual.length:=by
 have:=h.lst r c hr hc;unfold stL;omega
theorem OkT.rN{t:TabM}(h:OkT t){r c:Nat}(hr:r<t.right.usual.length)(hc:c<37):getM t.right r (grT t c)=((stR t r c:Nat):Int)/\stR t r c<t.right.usual.length:=by
 have:=h.rst r c hr hc;unfold stR;omega
def FreeL(O:Nat->Nat)(w:la)(cs:List ix):Prop:=∀v∈cs,KO O w v
theorem FreeL.upd{S:Nat->Prop}{O O':Nat->Nat}{w w':la}{cs:List ix}(h:FreeL O w cs)(u:Jw S O w O' w'):FreeL O' w' cs:=fun v hv=>(h v hv).upd u
theorem PartV.updF{S:Nat->Prop}{O O':Nat->Nat}{w w':la}{cs:List ix}{p:Lt}{tl:List Nat}(h:PartV w cs p tl)(n:FreeL O w cs)(u:Jw S O w O' w'):PartV w' cs p tl:=by
 obtain⟨uv,bv,kv,nv,tv,rfl,h1,h2,h3,h4,h5⟩:=h;exact⟨uv,bv,kv,nv,tv,rfl,h1.upd (n uv (by simp)) u,h2.upd (n bv (by simp)) u,h3.upd (n kv (by simp)) u,h4.upd (n nv (by simp)) u,h5.upd (n tv (by simp)) u⟩
theorem PartV.tv{w:la}{cs:List ix}{p:Lt}{tl:List Nat}(h:PartV w cs p tl):∃tv,cs[5]? = some tv/\Sl jb 1 w tv tl:=by
 obtain⟨uv,bv,kv,nv,tv,rfl,h1,h2,h3,h4,h5⟩:=h;exact⟨tv,rfl,h5⟩
abbrev D1(wv:ix)(s:RunS):List ix:=[nI (s.row:Int),wv,.bool s.begun,nI (s.last.1:Int),.bool s.last.2,.bool s.closed]
abbrev po(t:TabM)(gv:ix)(lc rc:List ix)(wv:ix)(s:RunS):List ix:=dq t.ig t.kp t.br t.rules gv lc rc++D1 wv s
structure RunO(O:Nat->Nat)(w:la)(i j rb:Nat)(t:TabM)(gv:ix)(lc rc:List ix)(wv:ix)(s:RunS):Prop where
 blk:KP O w i rb (po t gv lc rc wv s).toArray 116
 win:WinO Gw 114 2 O w j wv s.wait
 groups:Kj w gv t.groups
 left:PartV w lc t.left t.lt
 right:PartV w rc t.right t.rt
 fr:FreeL O w (gv::(lc++rc))
section
variable{O:Nat→Nat}{w:la}{i j rb:Nat}{t:TabM}{gv:ix}{lc rc:List ix}{wv:ix}{s:RunS}
theorem RunO.upd{S:Nat->Prop}{O':Nat->Nat}{w':la}(h:RunO O w i j rb t gv lc rc wv s)(u:Jw S O w O' w')(hi:i≠0)(hj:j≠0)(h1:¬S i)(h2:¬S j):RunO O' w' i j rb t gv lc rc wv s:=
 ⟨h.blk.upd u hi h1,h.win.upd u hj h2,h.groups.upd (h.fr gv (by simp)) u,h.left.updF (fun v hv=>h.fr v (by simp[hv])) u,h.right.updF (fun v hv=>h.fr v (by simp[hv])) u,h.fr.upd u⟩
theorem RunO.tab(h:RunO O w i j rb t gv lc rc wv s):TabB w rb t gv lc rc:=⟨fun k u hu=>h.blk.cell k (by
 have:=(K1.1 hu).1;simp only[po,Ki]
 rw[K2 this];exact hu),h.groups,h.left,h.right⟩
theorem RunO.len(h:RunO O w i j rb t gv lc rc wv s):(dq t.ig t.kp t.br t.rules gv lc rc).length=17:=by simp[h.left.one.1,h.right.one.1]
theorem RunO.cell(h:RunO O w i j rb t gv lc rc wv s)(k:Nat)(u:ix)(hu:[nI (s.row:Int),wv,.bool s.begun,nI (s.last.1:Int),.bool s.last.2,.bool s.closed][k]? = some u):w.cell? ⟨rb,17+k,none⟩=some u:=h.blk.cell (17+k) (by
 have hl:=h.len;simp only[po,Ki]
 rw[Ji zo,hl,JN];exact hu)
theorem RunO.k17(h:RunO O w i j rb t gv lc rc wv s):w.cell? (nA rb 17)=some (nI (s.row:Int)):=h.cell 0 _ rfl
theorem RunO.k18(h:RunO O w i j rb t gv lc rc wv s):w.cell? (nA rb 18)=some wv:=h.cell 1 _ rfl
theorem RunO.k19(h:RunO O w i j rb t gv lc rc wv s):w.cell? (nA rb 19)=some (.bool s.begun):=h.cell 2 _ rfl
theorem RunO.k20(h:RunO O w i j rb t gv lc rc wv s):w.cell? ((nA rb 20).add 0)=some (nI (s.last.1:Int)):=h.cell 3 _ rfl
theorem RunO.k21(h:RunO O w i j rb t gv lc rc wv s):w.cell? ((nA rb 20).add 1)=some (.bool s.last.2):=h.cell 4 _ rfl
theorem RunO.k22(h:RunO O w i j rb t gv lc rc wv s):w.cell? (nA rb 22)=some (.bool s.closed):=h.cell 5 _ rfl
end
structure OkS(t:TabM)(s:RunS):Prop where
 row:s.row<t.left.usual.length
 wait:∀x∈s.wait,x.1<36
 last:s.last.1<36
 few:s.wait.length<=1000000
def rwL(t:TabM):List En->Nat->Nat->Nat->Nat
 |[],_,_,told=>told
 |(c,h)::r,row,seen,told=>if h=true then rwL t r row seen told else if seen=4 then told else rwL t r (stR t row c) (seen+1) (told ||| nth t.rt (stR t row c))
def eE(t:TabM)(l:List En):Nat:=rwL t l 0 0 (nth t.rt 0)
theorem AR{t:TabM}(ho:OkT t):∀(l:List En) (row a0 told:Nat),(∀x∈l,x.1<36)->row<t.right.usual.length->told<2^40->rwL t l row a0 told<2^40
 |[],_,_,_,_,_,h=>h
 |(c,h)::r,row,a0,told,hc,hr,ht=>by
  unfold rwL;have a1:=hc (c,h) (by simp);have hn:=(ho.rN hr (show c<37 by simp at a1;omega)).2
  split
  ·exact AR ho r row a0 told (fun x hx=>hc x (by simp[hx])) hr ht
  split
  ·exact ht
  exact AR ho r _ _ _ (fun x hx=>hc x (by simp[hx])) hn (JE ht (ho.rt _ (aO (by rw[ho.rl];exact hn))))
theorem rh(O:Nat → Nat)(w:la)(i j rb:Nat)(t:TabM)(gv:ix)(lc rc:List ix)(wv:ix)(s:RunS)(h:RunO O w i j rb t gv lc rc wv s)(ho:OkT t)(hs:OkS t s):
    KN JF 134 [.pointer (some ⟨rb, 0, none⟩)] w fun v w' => v = .int .u64 ((eE t s.wait:Nat):Int) ∧ KC w w' := by
  have hT := h.tab
  have hp40:(2^40:Nat) = 1099511627776 := by decide
  obtain⟨tv, htc, htl⟩ := h.right.tv
  have hrl := ho.rl
  have hrp := ho.rp
  have hgl := ho.gl
  have c4:w.cell? (((⟨rb, 0, none⟩:L3).add 0).add 4) = some gv := hT.c4
  have c5:w.cell? ((((⟨rb, 0, none⟩:L3).add 0).add 11).add 5) = some tv := hT.cr 5 tv htc
  have t0:w.cell? (adr tv 1 0) = some (.int .u64 ((nth t.rt 0:Nat):Int)) := by have := htl.cell (i := 0) (j := 0) (by omega) rfl; rwa[ao]at this
  have k18 := h.k18
  have hws := h.win.sl
  have hwl := hs.few
  refine Gi func134 ntmps134 rfl rfl ?_
  refine zh ?_
  refine zvH (ah htl.sh M8 (LY _) rfl rfl 0 rfl (by omega)) ?_
  refine zlp (fun z:Nat×Nat×Nat×Nat×la => [(0, .pointer (some ⟨rb, 0, none⟩)), (3, .int .i64 (z.2.1:Nat)), (4, .int .u64 (z.2.2.2.1:Nat)), (5, .int .i64 (z.2.2.1:Nat)), (19, wv), (20, .int .i64 s.wait.length), (21, .int .i64 z.1)]) (fun z => z.2.2.2.2) (fun z => z.1 ≤ s.wait.length ∧ z.2.1 < t.right.usual.length ∧ z.2.2.1 ≤ 4 ∧ z.2.2.2.1 < 2^40 ∧ KC w z.2.2.2.2 ∧ rwL t (s.wait.drop z.1) z.2.1 z.2.2.1 z.2.2.2.1 = eE t s.wait) (fun z => s.wait.length - z.1) (0, 0, 0, nth t.rt 0, w) (⟨IJ _, hrp, IJ _, ho.rt _ (aO (by omega)), ln _, rfl⟩) ?_
  rintro⟨k, row, seen, told, w1⟩ ⟨hk, hrow, hseen, htold, hE1, heq⟩
  dsimp only at hk hrow hseen htold hE1 heq ⊢
  have hws1 := hws.ext hE1
  refine zh ?_
  refine zC ?_ ?_
  · intro hlt
    replace hlt:k < s.wait.length := by have := of_decide_eq_true hlt; omega
    obtain⟨c, hd, hcd⟩:∃c hd, (c, hd) = nth s.wait k := ⟨_, _, rfl⟩
    have hc36 := hs.wait _ (aO hlt)
    rw[← hcd]at hc36
    dsimp only at hc36
    rw[KU hlt, ← aB hlt, ← hcd, rwL]at heq
    refine zh ?_
    refine zv (ai (us := [.int .i64 (c:Nat), .bool hd]) (fun j u hu => hws1.cell hlt (by rw[← hcd]; exact hu)) (KM _) (Jz _) rfl) ?_
    refine ax (au w1) 1 (by omega) (Kl _) rfl ?_
    intro xb w2 O2 hxb2 hU2 hR2 hE2
    refine zsa (us := #[.int .i64 (c:Nat), .bool hd]) hxb2 (Jz _) ?_
    have hxb3 := hxb2.setRow (us := #[.int .i64 (c:Nat), .bool hd])
    have hU3:Jw (fun j => j = 1) O2 w2 O2 (w2.setRow xb #[.int .i64 (c:Nat), .bool hd]) := GY (by decide) hxb2.tag rfl
    have hE13 := (hU2.trans hU3).ext
    generalize w2.setRow xb #[.int .i64 (c:Nat), .bool hd] = w3 at *
    have hE03 := hE1.trans hE13
    have x0:w3.cell? ((⟨xb, 0, none⟩:L3).add 0) = some (.int .i64 (c:Int)) := hxb3.cell 0 rfl
    have x1:w3.cell? ((⟨xb, 0, none⟩:L3).add 1) = some (.bool hd) := hxb3.cell 1 rfl
    refine zh ?_
    refine zC ?_ ?_
    · intro hh
      rw[if_pos hh]at heq
      refine zh ?_
      refine zxd (k + 1, row, seen, told, w3) (⟨hlt, hrow, hseen, htold, hE03, heq⟩)
    · intro hh
      rw[if_neg (by rw[hh]; decide)]at heq
      refine zh ?_
      refine zC ?_ ?_
      · intro h4
        replace h4 : seen = 4 := by have : (seen : Int) = 4 := by simpa using h4
                                    omega
        rw[if_pos h4]at heq
        refine zh ?_
        refine ae rfl rfl (⟨by rw[← heq], hE03⟩)
      · intro h4
        replace h4 : seen ≠ 4 := by have : ¬ (seen : Int) = 4 := by simpa using h4
                                    omega
        rw[if_neg h4]at heq
        have hT3 := hT.ext hE03
        obtain⟨hg1, hg2⟩ := ho.gN (c := c) (by omega)
        obtain⟨hr1, hr2⟩ := ho.rN hrow (c := c) (by omega)
        have d4:w3.cell? (((⟨rb, 0, none⟩:L3).add 0).add 4) = some gv := hT3.c4
        have dcr:∀(j:Nat) (u:ix), rc[j]? = some u → w3.cell? ((((⟨rb, 0, none⟩:L3).add 0).add 11).add j) = some u := hT3.cr
        have dg:w3.cell? (adr gv 1 c) = some (.int .i64 ((grT t c:Nat):Int)) := by have := hT3.groups.cell (i := c) (j := 0) (by omega) rfl; rw[ao, hg1]at this; exact this
        have hgs := hT3.groups
        refine zh ?_
        refine Mo 15 rfl rfl (by kernel_rfl) (by kernel_rfl) ?_
        refine zh ?_
        refine zwH (ai (us := rc) dcr (KL _) (by rw[h.right.one.1]; exact JY _) rfl) ?_
        refine WS.go ?_
        refine zc LZ (kf rc t.right t.rt row (grT t c) w3.drew (hT3.right.ext (ln w3).drew) ho.okr hrow hg2) ?_
        rintro _ w4 ⟨rfl, hE4⟩
        rw[hr1]
        have hE04:KC w w4 := (hE03.trans (ln w3).drew).trans hE4
        have hT4 := hT.ext hE04
        have e5:w4.cell? ((((⟨rb, 0, none⟩:L3).add 0).add 11).add 5) = some tv := hT4.cr 5 tv htc
        have htl4 := htl.ext hE04
        have t4:w4.cell? (adr tv 1 (stR t row c)) = some (.int .u64 ((nth t.rt (stR t row c):Nat):Int)) := by have := htl4.cell (i := stR t row c) (j := 0) (by omega) rfl; rwa[ao]at this
        have hlt2 := ho.rt _ (aO (l := t.rt) (j := stR t row c) (by omega))
        refine zh ?_
        refine zvH (uS (a := told) (b := nth t.rt (stR t row c)) rfl rfl rfl rfl (by show _ ≤ (18446744073709551615:Int); omega) (by show _ ≤ (18446744073709551615:Int); omega)) ?_
        refine zxd (k + 1, stR t row c, seen + 1, told ||| nth t.rt (stR t row c), w4) (⟨hlt, hr2, by dsimp only; omega, JE htold hlt2, hE04, heq⟩)
  · intro hge
    obtain rfl:k = s.wait.length := by have := of_decide_eq_false hge; omega
    rw[List.drop_length, rwL]at heq
    refine zh ?_
    refine ae rfl rfl (⟨by rw[← heq], hE1⟩)
theorem cH{g:Nat}{tab:List Nat}{w w':la}(h:LF g tab w)(e:KC w w'):LF g tab w':=fun j hj=>e.cell (h j hj)
abbrev eF(w:la):Prop:=LF 0 Lm w
def cZ(t:TabM)(s:RunS):Int:=if nth t.lt s.row &&& eE t s.wait=0 then -1 else((Kc 64 (nth t.lt s.row &&& eE t s.wait):Nat):Int)
theorem nQ{t:TabM}{s:RunS}(ho:OkT t)(hs:OkS t s):eE t s.wait<2^40:=AR ho _ _ _ _ hs.wait ho.rp (ho.rt _ (aO (by have:=ho.rl;have:=ho.rp;omega)))
theorem qO(O:Nat->Nat)(w:la)(i j rb:Nat)(t:TabM)(gv:ix)(lc rc:List ix)(wv:ix)(s:RunS)(h:RunO O w i j rb t gv lc rc wv s)(hi:i≠0)(hj:j≠0)(ho:OkT t)(hs:OkS t s)(hT:eF w):
  KN JF 94 [nP rb] w fun v w'=>v=nI (cZ t s)/\KC w w':=by
 have hB:=h.tab;obtain⟨tv,a4,a3⟩:=h.left.tv;have a':=ho.ll;have a5:=hs.row;have c1:w.drew.cell? (((nA rb 0).add 5).add 5)=some tv:=hB.cl 5 tv a4;have t1:w.drew.cell? (adr tv 1 s.row)=some (.int .u64 ((nth t.lt s.row:Nat):Int)):=by have:=a3.cell (i:=s.row) (j:=0) zo rfl;rwa[ao]at this
 have k17:=h.k17;have a7:=ho.lt _ (aO (l:=t.lt) (j:=s.row) zo);have a9:=nQ ho hs;have a6:(2^40:Nat)=1099511627776:=zd;have hW:cZ t s=if nth t.lt s.row &&& eE t s.wait=0 then -1 else((Kc 64 (nth t.lt s.row &&& eE t s.wait):Nat):Int):=rfl
 rw[hW];have a8:nth t.lt s.row &&& eE t s.wait<2^40:=Kv Nat.and_le_left a7;refine Gi func94 ntmps94 rfl rfl ?_;refine zh ?_;have k17:w.drew.cell? (nA rb 17)=some (nI (s.row:Int)):=k17;refine aI (fun W=>W.cell? (((nA rb 0).add 5).add 5)=some tv/\W.cell? (adr tv 1 s.row)=some (.int .u64 ((nth t.lt s.row:Nat):Int))/\W.cell? (nA rb 17)=some (nI (s.row:Int))) 16 rfl zk ?_;refine zin ⟨c1,t1,k17⟩ fun zS=>?_
 refine zrm 0 rfl zS rfl ?_;refine zr 1 rfl zS (fun _=>aq rfl) ?_
 refine zrf 2 rfl zS rfl ?_;refine zrf 3 rfl zS rfl ?_
 refine zrf 4 rfl zS rfl ?_;refine zt 5 rfl zS (fun w1 a1=>RV.ld a1.1 rfl) ?_
 refine zrm 6 rfl zS rfl ?_;refine zr 7 rfl zS (fun _=>aq rfl) ?_
 refine zrf 8 rfl zS rfl ?_;refine zt 9 rfl zS (fun w1 a1=>RV.ld a1.2.2 rfl) ?_
 refine zr 10 rfl zS (fun _=>ah a3.sh M8 (LY _) rfl rfl s.row rfl zo) ?_;refine zt 11 rfl zS (fun w1 a1=>RV.ld a1.2.1 rfl) ?_
 refine zrm 12 rfl zS rfl ?_;refine Gh 13 zk rfl ?_
 refine zc call134 (rh O w.drew i j rb t gv lc rc wv s (h.upd (aa (S:=fun _=>False) (fun h=>h) O (ln w).drew) hi hj (fun h=>h) (fun h=>h)) ho hs) ?_;rintro _ w1 ⟨rfl,a2⟩;have a0:KC w w1:=(ln w).drew.trans a2;refine zh ?_
 refine zaf (⟨a2.cell c1,a2.cell t1,a2.cell k17⟩) fun zS=>?_
 refine zr 14 rfl zS (fun _=>xD (a:=nth t.lt s.row) (b:=eE t s.wait) rfl rfl rfl rfl (by show _<=(18446744073709551615:Int);omega) (by show _<=(18446744073709551615:Int);omega)) ?_;refine zra 15 rfl zS rfl ?_
 refine Ju zk ?_;refine zh ?_
 generalize nth t.lt s.row &&& eE t s.wait=both at *
 by_cases h0:both=0
 ·rw[if_pos h0];refine zTH rfl ((by rw[h0];rfl)) ?_;refine ae rfl rfl (⟨rfl,a0⟩)
 rw[if_neg h0];refine zFH rfl ((by rw[beq_eq_false_iff_ne];omega)) ?_;refine zc call135 (GI both w1 zo h0 (cH hT a0)) ?_;rintro _ w2 ⟨rfl,rfl⟩;refine zh ?_;refine ae rfl rfl (⟨rfl,a0⟩)
theorem IE:cV JF 114 #[(0,1),(1,1)]:=⟨_,underlying114,fun w=>by kernel_rfl⟩
section
variable{O:Nat→Nat}{w:la}{i j rb:Nat}{t:TabM}{gv:ix}{lc rc:List ix}{wv:ix}{s:RunS}
theorem RunO.size(h:RunO O w i j rb t gv lc rc wv s):(po t gv lc rc wv s).toArray.size=23:=by simp[h.left.one.1,h.right.one.1]
theorem RunO.at_(h:RunO O w i j rb t gv lc rc wv s)(k:Nat){u:ix}(hu:(D1 wv s)[k]? = some u):(po t gv lc rc wv s).toArray[17+k]? = some u:=by
 have hl:=h.len;simp only[po,Ki];rw[Ji zo,hl,JN];exact hu
theorem RunO.store2(h:RunO O w i j rb t gv lc rc wv s)(hi:i≠0)(hj:j≠0)(a0:i≠j){S:Nat->Prop}{O':Nat->Nat}{w':la}(u0:Jw S O w O' w')(hb:KP O' w' i rb (po t gv lc rc wv s).toArray 116)(k:Nat)(v:ix){wv':ix}{s':RunS} 
  (hk:(D1 wv s).set k v=D1 wv' s') (hw:WinO Gw 114 2 O' w' j wv' s'.wait) :
  RunO O' (w'.setCell ⟨rb,17+k,none⟩ v) i j rb t gv lc rc wv' s'/\Jw (fun q=>q=i) O' w' O' (w'.setCell ⟨rb,17+k,none⟩ v):=by
 have u:Jw (fun q=>q=i) O' w' O' (w'.setCell ⟨rb,17+k,none⟩ v):=L1 (fun e=>hi e.symm) hb.tag rfl;have f0:=h.fr.upd u0;have g0:=h.groups.upd (h.fr gv (by simp)) u0;have l0:=h.left.updF (fun v hv=>h.fr v (by simp[hv])) u0;have r0:=h.right.updF (fun v hv=>h.fr v (by simp[hv])) u0;refine⟨⟨?_,hw.upd u hj (fun e=>a0 e.symm),g0.upd (f0 gv (by simp)) u,l0.updF (fun v hv=>f0 v (by simp[hv])) u,r0.updF (fun v hv=>f0 v (by simp[hv])) u,f0.upd u⟩,u⟩;have hb:=hb.set (17+k) v;have hl:=h.len;have e:(po t gv lc rc wv s).toArray.setIfInBounds (17+k) v=(po t gv lc rc wv' s').toArray:=by
  rw[List.setIfInBounds_toArray];unfold po;rw[Kh _ _ zo,hl,JN,hk]
 rw[e]at hb;exact hb
theorem RunO.store(h:RunO O w i j rb t gv lc rc wv s)(hi:i≠0)(hj:j≠0)(a0:i≠j)(k:Nat)(v:ix){wv':ix}{s':RunS}(hk:(D1 wv s).set k v=D1 wv' s')(hw:WinO Gw 114 2 O w j wv' s'.wait):
  RunO O (w.setCell ⟨rb,17+k,none⟩ v) i j rb t gv lc rc wv' s'/\Jw (fun q=>q=i) O w O (w.setCell ⟨rb,17+k,none⟩ v):=
 h.store2 hi hj a0 (Lz (S:=fun _=>False) (fun h=>h) O w) h.blk k v hk hw
theorem RunO.lastE(h:RunO O w i j rb t gv lc rc wv s)(c:Nat)(b:Bool):((po t gv lc rc wv s).toArray.toList.take 20++(#[nI (c:Int),.bool b]:Array ix).toList++(po t gv lc rc wv s).toArray.toList.drop (20+(#[nI (c:Int),.bool b]:Array ix).size)).toArray=(po t gv lc rc wv {s with last:=(c,b)}).toArray:=by
 have hl:=h.len;congr 1;show List.take 20 (dq t.ig t.kp t.br t.rules gv lc rc++D1 wv s)++[nI (c:Int),.bool b]++M5 22 (dq t.ig t.kp t.br t.rules gv lc rc++D1 wv s)=_;have hd:M5 22 (dq t.ig t.kp t.br t.rules gv lc rc)=[]:=List.drop_eq_nil_of_le zo;rw[List.take_append,List.drop_append,hl,List.take_of_length_le zo,hd];simp
theorem RunO.lastS(h:RunO O w i j rb t gv lc rc wv s)(hi:i≠0)(hj:j≠0)(a0:i≠j)(c:Nat)(b:Bool):
  RunO O (w.setRow rb (po t gv lc rc wv {s with last:=(c,b)}).toArray) i j rb t gv lc rc wv {s with last:=(c,b)}/\Jw (fun q=>q=i) O w O (w.setRow rb (po t gv lc rc wv {s with last:=(c,b)}).toArray):=by
 have u:Jw (fun q=>q=i) O w O (w.setRow rb (po t gv lc rc wv {s with last:=(c,b)}).toArray):=GY (fun e=>hi e.symm) h.blk.tag rfl;exact⟨⟨h.blk.setRow,h.win.upd u hj (fun e=>a0 e.symm),h.groups.upd (h.fr gv (by simp)) u,h.left.updF (fun v hv=>h.fr v (by simp[hv])) u,h.right.updF (fun v hv=>h.fr v (by simp[hv])) u,h.fr.upd u⟩,u⟩
end
def aJ(id:Int):Nat:=if id<0\/36<=id then 0 else id.toNat
theorem cy(id:Int):aJ id<36:=by unfold aJ;split<;>omega
def CJ(t:TabM)(s:RunS)(c:Nat):Bool:=t.ig.testBit c&&(s.last.2 || !(t.kp.testBit s.last.1))
def nT(t:TabM)(s:RunS)(c:Nat):RunS:=
 if s.begun=true then {s with last:=(c,CJ t s c),wait:=s.wait++[(c,CJ t s c)]} else {s with begun:=true,last:=(c,false),row:=stL t s.row c}
theorem vy{t:TabM}{s:RunS}{c:Nat}(ho:OkT t)(hs:OkS t s)(hc:c<36)(hf:s.wait.length+1<=1000000):OkS t (nT t s c):=by
 unfold nT
 split
 ·refine⟨hs.row,fun x hx=>?_,hc,by simpa using hf⟩
  rcases J5.1 hx with hx|hx
  ·exact hs.wait x hx
  rw[ka.1 hx];exact hc
 exact⟨(ho.lN hs.row zo).2,hs.wait,hc,by show s.wait.length<=_;omega⟩
theorem jJ(B:Nat)(O:Nat → Nat)(w:la)(i j rb:Nat)(t:TabM)(gv:ix)(lc rc:List ix)(wv:ix)(s:RunS)(h:RunO O w i j rb t gv lc rc wv s)(hi:i ≠ 0)(hj:j ≠ 0)(hij:i ≠ j)(hi1:i < 1000)(hj1:j < 1000)(ho:OkT t)(hs:OkS t s)(hf:s.wait.length + 1 ≤ 1000000)(hR:KF B O w)(id:Int):
  KN JF 54 [nP rb, nI id] w fun _ w' => ∃O' wv', RunO O' w' i j rb t gv lc rc wv' (nT t s (aJ id)) ∧ Jw (fun q => q = i ∨ q = j ∨ q = 1000) O w O' w' ∧ KF B O' w' := by
 have hp40:(2^40:Nat) = 1099511627776 := by decide
 have hp36:(2^36:Nat) = 68719476736 := by decide
 have hz:¬(0 = i ∨ 0 = j ∨ 0 = 1000) := by omega
 have hl1 := hs.last
 have hwl := hs.few
 obtain⟨c, hc⟩:∃c, c = aJ id := ⟨_, rfl⟩
 have hc36:c < 36 := by rw[hc]; exact cy id
 rw[← hc]
 refine Gi func54 ntmps54 rfl rfl ?_
 refine Jt ?_
 refine Jt ?_
 refine J4 ?_
 refine zv (GT rfl) ?_
 refine zv (M6 rfl rfl) ?_
 refine zv (GT rfl) ?_
 refine bK (fun w1 => _ = w1) (decide (36 ≤ id)) 2 (rfl) rfl rfl rfl rfl rfl ?_ ?_
 ·skip
  intro g1
  refine Cl rfl ?_
  refine zv (GT rfl) ?_
  refine Cl rfl ?_
  refine zv (RV.geq rfl rfl) ?_
  refine GZ ?_
  refine Cy (tA := 7) 3 (rfl) rfl rfl rfl (fun v hv => (M4 hv).symm.trans (congrArg JZ g1)) rfl
 rintro _ rfl
 refine GZ ?_
 refine az ?_
 refine iK (fun z:Nat => [(0, nP rb), (1, nI (z:Nat))]) (fun z:Nat => w) (fun z:Nat => z = c) ?_ ?_
 ·intro hN
  refine zC ?_ ?_
  ·intro hb
   refine J4 ?_
   refine zv (Jn rfl) ?_
   refine GZ ?_
   exact eD (hN (0) (by rw[hc]; unfold aJ; rw[if_pos (by simpa using hb)])) ⟨rfl, rfl, trivial⟩ rfl
  ·intro hb
   obtain rfl:id = (c:Int) := by
    have:¬(id < 0 ∨ 36 ≤ id) := by simpa using hb
    rw[hc]; unfold aJ
    rw[if_neg this]; omega
   refine Lo ?_
   exact eD (hN (c) (rfl)) ⟨rfl, rfl, trivial⟩ rfl
 rintro c' hcc
 obtain rfl:c = c' := hcc.symm
 clear hcc hc
 refine az ?_
 refine Jt ?_
 refine J4 ?_
 refine zv (GT rfl) ?_
 refine zv (aF IE (Kl _) rfl (by first | rfl | (simp only[J3, KZ]; rfl)) rfl rfl) ?_
 refine ax hR 1000 (by omega) (Kl _) rfl ?_
 intro xb w1 O1 hxb1 hU1 hR1 hE1
 refine zsa (us := #[nI (c:Nat), .bool false]) hxb1 (Jz _) ?_
 have hxb2 := hxb1.setRow (us := #[nI (c:Nat), .bool false])
 have hU2:Jw (fun q => q = 1000) O1 w1 O1 (w1.setRow xb #[nI (c:Nat), .bool false]) := GY (by decide) hxb1.tag rfl
 generalize w1.setRow xb #[nI (c:Nat), .bool false] = w2 at *
 have hU02 := hU1.trans hU2
 have hR2 := hR1.upd hU2
 have h2 := h.upd hU02 hi hj (by omega) (by omega)
 have k19 := h2.k19
 have hcs := hxb2.cellsAdd
 refine GZ ?_
 refine az ?_
 refine Jt ?_
 refine Jt ?_
 refine J4 ?_
 refine zv (GT rfl) ?_
 refine zv (aq rfl) ?_
 refine zv (RV.fa rfl) ?_
 refine zv (RV.ld k19 rfl) ?_
 refine zv (Lh rfl) ?_
 refine GZ ?_
 refine az ?_
 have hX := aa (S := fun _ => False) (fun h => h) O1 (ln w2).drew
 cases hbg:s.begun with
 |false =>
  refine aZ rfl rfl ?_
  refine Jt ?_
  refine aI (fun W => ∀k u, [nI (c:Nat), .bool false][k]? = some u → W.cell? (nA xb k) = some u) 9 rfl (by kernel_rfl) ?_
  refine zrm 0 rfl hcs rfl ?_
  refine zrm 1 rfl hcs rfl ?_
  refine zt 2 rfl hcs (fun w1 hw1 => ai (us := [nI (c:Nat), .bool false]) hw1 (KM _) (Jz _) rfl) ?_
  refine zr 3 rfl hcs (fun _ => aq rfl) ?_
  refine zrf 4 rfl hcs rfl ?_
  have h2d := h2.upd hX hi hj (fun h => h) (fun h => h)
  refine Gh 5 (by kernel_rfl) rfl ?_
  refine ak (j := 19) h2d.blk (h2d.at_ 2 rfl) (Jo _) rfl rfl rfl rfl ?_
  obtain⟨h3, hU3⟩ := h2d.store hi hj hij 2 (.bool true) (wv' := wv) (s' := {s with begun := true}) (by simp[hbg]) h2d.win
  have hU03 := (hX.mono (S' := fun q => q = i) (fun _ h => h.elim) (by omega)).trans hU3
  have hx3 := hxb2.upd hU03 (by decide) (by omega)
  have hR3 := hR2.upd hU03
  generalize w2.drew.setCell ⟨rb, 17 + 2, none⟩ (.bool true) = w3 at *
  refine GZ ?_
  refine zaf (hx3.cellsAdd) fun zS => ?_
  refine zr 6 rfl zS (fun _ => aq rfl) ?_
  refine zrf 7 rfl zS rfl ?_
  refine Gh 8 (by kernel_rfl) rfl ?_
  refine eL (us := #[nI (c:Nat), .bool false]) 20 (po t gv lc rc wv {s with begun := true, last := (c, false)}).toArray h3.blk (h3.lastE c false) (by rw[h3.size]; show 22 ≤ 23; omega) (Jz _) rfl rfl rfl rfl ?_
  obtain⟨h4, hU4⟩ := h3.lastS hi hj hij c false
  have hx4 := hx3.upd hU4 (by decide) (by omega)
  have hU04 := hU03.trans hU4
  have hR4 := hR3.upd hU4
  generalize w3.setRow rb (po t gv lc rc wv {s with begun := true, last := (c, false)}).toArray = w4 at *
  refine GZ ?_
  refine af (hx4.cellsAdd) ?_
  refine Ju (by kernel_rfl) ?_
  refine az ?_
  refine Jt ?_
  have hB := h4.tab
  obtain⟨hg1, hg2⟩ := ho.gN (c := c) (by omega)
  obtain⟨hr1, hr2⟩ := ho.lN hs.row (c := c) (by omega)
  have hgl := ho.gl
  have d4:w4.drew.cell? ((nA rb 0).add 4) = some gv := hB.c4
  have dcl:∀(j:Nat) (u:ix), lc[j]? = some u → w4.drew.cell? (((nA rb 0).add 5).add j) = some u := hB.cl
  have dg:w4.drew.cell? (adr gv 1 c) = some (nI ((grT t c:Nat):Int)) := by have := hB.groups.cell (i := c) (j := 0) (by omega) rfl; rw[ao, hg1]at this; exact this
  have d17:w4.drew.cell? (nA rb 17) = some (nI (s.row:Int)) := h4.k17
  refine aI (fun W => W.cell? ((nA rb 0).add 4) = some gv ∧ W.cell? (adr gv 1 c) = some (nI ((grT t c:Nat):Int)) ∧ ∀(j:Nat) (u:ix), lc[j]? = some u → W.cell? (((nA rb 0).add 5).add j) = some u) 22 rfl (by kernel_rfl) ?_
  refine zin ⟨d4, dg, dcl⟩ fun zS => ?_
  refine zrm 0 rfl zS rfl ?_
  refine zrm 1 rfl zS rfl ?_
  refine zr 2 rfl zS (fun _ => aq rfl) ?_
  refine zrf 3 rfl zS rfl ?_
  refine zrf 4 rfl zS rfl ?_
  refine zt 5 rfl zS (fun w1 hw1 => ai (us := lc) hw1.2.2 (KL _) (by rw[h.left.one.1]; exact JY _) rfl) ?_
  refine zrm 6 rfl zS rfl ?_
  refine zr 7 rfl zS (fun _ => aq rfl) ?_
  refine zrf 8 rfl zS rfl ?_
  refine zrm 10 rfl zS rfl ?_
  refine zr 11 rfl zS (fun _ => aq rfl) ?_
  refine zrf 12 rfl zS rfl ?_
  refine zrf 13 rfl zS rfl ?_
  refine zt 14 rfl zS (fun w1 hw1 => RV.ld hw1.1 rfl) ?_
  refine zrm 15 rfl zS rfl ?_
  refine zr 16 rfl zS (fun _ => ah hB.groups.sh JT (Kw _) rfl rfl c rfl (by omega)) ?_
  refine zt 17 rfl zS (fun w1 hw1 => RV.ld hw1.2.1 rfl) ?_
  refine Gh 9 (by kernel_rfl) rfl ?_
  refine zv (RV.ld d17 rfl) ?_
  refine GZ ?_
  refine af (⟨d4, dg, dcl⟩) ?_
  refine Gh 18 (by kernel_rfl) rfl ?_
  refine zc LZ (kf lc t.left t.lt s.row (grT t c) w4.drew (hB.left.ext (ln w4).drew) ho.okl hs.row hg2) ?_
  rintro _ w5 ⟨rfl, hE5⟩
  rw[hr1]
  refine GZ ?_
  refine af (⟨hE5.cell d4, hE5.cell dg, fun j u hu => hE5.cell (dcl j u hu)⟩) ?_
  have hX5 := aa (S := fun _ => False) (fun h => h) O1 ((ln w4).drew.trans hE5)
  have h5 := h4.upd hX5 hi hj (fun h => h) (fun h => h)
  have hU05 := (hU04.trans (hX5.mono (fun _ h => h.elim) (by omega)))
  have hR5 := hR4.upd hX5
  refine zin (⟨hE5.cell d4, hE5.cell dg, fun j u hu => hE5.cell (dcl j u hu)⟩) fun zS => ?_
  refine zr 19 rfl zS (fun _ => aq rfl) ?_
  refine zrf 20 rfl zS rfl ?_
  refine Gh 21 (by kernel_rfl) rfl ?_
  refine ak (j := 17) h5.blk (h5.at_ 0 rfl) (Kw _) rfl rfl rfl rfl ?_
  obtain⟨h6, hU6⟩ := h5.store hi hj hij 0 (nI ((stL t s.row c:Nat):Int)) (wv' := wv) (s' := {s with begun := true, last := (c, false), row := stL t s.row c}) rfl h5.win
  have hB6 := h6.tab
  have hR6 := hR5.upd hU6
  have hU06 := hU05.trans hU6
  have q1:(w5.setCell ⟨rb, 17 + 0, none⟩ (nI ((stL t s.row c:Nat):Int))).cell? (adr gv 1 c) = some (nI ((grT t c:Nat):Int)) := by have := hB6.groups.cell (i := c) (j := 0) (by omega) rfl; rw[ao, hg1]at this; exact this
  refine GZ ?_
  refine af (⟨hB6.c4, q1, hB6.cl⟩) ?_
  refine Ju (by kernel_rfl) ?_
  refine az ?_
  refine Le ?_
  refine bT ?_
  have e:nT t s c = {s with begun := true, last := (c, false), row := stL t s.row c} := by unfold nT; rw[hbg, if_neg (by decide)]
  refine cA rfl (⟨O1, wv, by rw[e]; exact h6, (hU02.mono (fun _ h => by omega) hz).trans (hU06.mono (fun _ h => by omega) hz), hR6⟩)
 |true =>
  refine aS rfl rfl ?_
  refine Lo ?_
  refine az ?_
  refine Jt ?_
  have hB := h2.tab
  have kt0:w2.drew.cell? ((nA rb 0).add 0) = some (.int .u64 (t.ig:Int)) := hB.c0
  have kt1:w2.drew.cell? ((nA rb 0).add 1) = some (.int .u64 (t.kp:Int)) := hB.c1
  have k20:w2.drew.cell? ((nA rb 20).add 0) = some (nI (s.last.1:Int)) := h2.k20
  have k21:w2.drew.cell? ((nA rb 20).add 1) = some (.bool s.last.2) := h2.k21
  have hxd := hxb2.upd hX (by decide) (fun h => h)
  have fin:∀b, b = CJ t s c → KP O1 (w2.drew.setCell ⟨xb, 1, none⟩ (.bool b)) 1000 xb #[nI (c:Nat), .bool (CJ t s c)] 114 ∧ Jw (fun q => q = 1000) O1 w2 O1 (w2.drew.setCell ⟨xb, 1, none⟩ (.bool b)) ∧
    ((w2.drew.setCell ⟨xb, 1, none⟩ (.bool b)).cell? ((nA rb 0).add 0) = some (.int .u64 (t.ig:Int)) ∧ (w2.drew.setCell ⟨xb, 1, none⟩ (.bool b)).cell? ((nA rb 0).add 1) = some (.int .u64 (t.kp:Int)) ∧ (w2.drew.setCell ⟨xb, 1, none⟩ (.bool b)).cell? ((nA rb 20).add 0) = some (nI (s.last.1:Int)) ∧ (w2.drew.setCell ⟨xb, 1, none⟩ (.bool b)).cell? ((nA rb 20).add 1) = some (.bool s.last.2)) := by
   rintro b rfl
   have u1:Jw (fun q => q = 1000) O1 w2.drew O1 (w2.drew.setCell ⟨xb, 1, none⟩ (.bool (CJ t s c))) := L1 (by decide) hxd.tag rfl
   have u2 := (hX.mono (S' := fun q => q = 1000) (fun _ h => h.elim) (by decide)).trans u1
   have h3 := h2.upd u2 hi hj (by omega) (by omega)
   exact⟨hxd.set 1 _, u2, h3.tab.c0, h3.tab.c1, h3.k20, h3.k21⟩
  have hh:CJ t s c = (t.ig.testBit c && (s.last.2 || !(t.kp.testBit s.last.1))) := rfl
  have hkp := ho.kp
  have hig := ho.ig
  refine iK (fun z:la => [(0, nP rb), (4, nP xb)]) (fun z:la => z) (fun z:la => KP O1 z 1000 xb #[nI (c:Nat), .bool (CJ t s c)] 114 ∧ Jw (fun q => q = 1000) O1 w2 O1 z) ?_ ?_
  ·intro hN
   refine aI (fun W => W.cell? ((nA rb 0).add 0) = some (.int .u64 (t.ig:Int)) ∧ W.cell? ((nA rb 0).add 1) = some (.int .u64 (t.kp:Int)) ∧ W.cell? ((nA rb 20).add 0) = some (nI (s.last.1:Int)) ∧ W.cell? ((nA rb 20).add 1) = some (.bool s.last.2)) 30 rfl (by kernel_rfl) ?_
   refine zin ⟨kt0, kt1, k20, k21⟩ fun zS => ?_
   refine zrm 0 rfl zS rfl ?_
   refine zr 1 rfl zS (fun _ => aq rfl) ?_
   refine zrf 2 rfl zS rfl ?_
   refine zrf 3 rfl zS rfl ?_
   refine zt 4 rfl zS (fun w1 hw1 => RV.ld hw1.1 rfl) ?_
   refine zrm 5 rfl zS rfl ?_
   refine Gh 6 (by kernel_rfl) rfl ?_
   refine zc Mk (rV t.ig c _ (by omega) (by omega)) ?_
   rintro _ w3 ⟨rfl, rfl⟩
   refine GZ ?_
   refine af (⟨kt0, kt1, k20, k21⟩) ?_
   refine zrm 7 rfl (⟨kt0, kt1, k20, k21⟩) rfl ?_
   cases hb1:t.ig.testBit c with
   |false =>
    obtain⟨f1, f2, f3⟩ := fin false (by rw[hh, hb1]; rfl)
    refine bL (d := 53) rfl (b' := false) (rfl) ?_
    refine zin (⟨kt0, kt1, k20, k21⟩) fun zS => ?_
    refine zte 8 rfl rfl zS ?_
    refine zte 9 rfl rfl zS ?_
    refine zte 10 rfl rfl zS ?_
    refine zte 11 rfl rfl zS ?_
    refine zte 12 rfl rfl zS ?_
    refine zte 13 rfl rfl zS ?_
    refine ztu 14 rfl zS ?_
    refine ztu 15 rfl zS ?_
    refine ztu 16 rfl zS ?_
    refine ztu 17 rfl zS ?_
    refine ztu 18 rfl zS ?_
    refine ztu 19 rfl zS ?_
    refine ztu 20 rfl zS ?_
    refine ztu 21 rfl zS ?_
    refine ztu 22 rfl zS ?_
    refine ztu 23 rfl zS ?_
    refine ztu 24 rfl zS ?_
    refine ztu 25 rfl zS ?_
    refine zte 26 rfl rfl zS ?_
    refine zr 27 rfl zS (fun _ => aW rfl rfl) ?_
    refine zrf 28 rfl zS rfl ?_
    refine Gh 29 (by kernel_rfl) rfl ?_
    refine ak (j := 1) hxd rfl (Jo _) rfl rfl rfl rfl ?_
    refine GZ ?_
    refine af (f3) ?_
    refine Ju (by kernel_rfl) ?_
    exact eD (hN (_) (⟨f1, f2⟩)) ⟨rfl, rfl, trivial⟩ rfl
   |true =>
    refine bL (d := 53) rfl (b' := true) (rfl) ?_
    refine zin (⟨kt0, kt1, k20, k21⟩) fun zS => ?_
    refine zro 8 rfl zS (fun _ => GT rfl) ?_
    refine zro 9 rfl zS (fun _ => aq rfl) ?_
    refine zro 10 rfl zS (fun _ => RV.fa rfl) ?_
    refine zro 11 rfl zS (fun _ => RV.fa rfl) ?_
    refine zto 12 rfl zS (fun w1 hw1 => RV.ld hw1.2.2.2 rfl) ?_
    refine zro 13 rfl zS (fun _ => GT rfl) ?_
    cases hb2:s.last.2 with
    |true =>
     obtain⟨f1, f2, f3⟩ := fin true (by rw[hh, hb1, hb2]; rfl)
     rw[hb2]at f3 k21
     refine bL (d := 59) rfl (b' := true) (rfl) ?_
     refine zin (⟨kt0, kt1, k20, k21⟩) fun zS => ?_
     refine zte 14 rfl rfl zS ?_
     refine zte 15 rfl rfl zS ?_
     refine zte 16 rfl rfl zS ?_
     refine zte 17 rfl rfl zS ?_
     refine zte 18 rfl rfl zS ?_
     refine zte 19 rfl rfl zS ?_
     refine zte 20 rfl rfl zS ?_
     refine zte 21 rfl rfl zS ?_
     refine zte 22 rfl rfl zS ?_
     refine zte 23 rfl rfl zS ?_
     refine zte 24 rfl rfl zS ?_
     refine zte 25 rfl rfl zS ?_
     refine zro 26 rfl zS (fun _ => aQ rfl rfl) ?_
     refine zr 27 rfl zS (fun _ => aQ rfl rfl) ?_
     refine zrf 28 rfl zS rfl ?_
     refine Gh 29 (by kernel_rfl) rfl ?_
     refine ak (j := 1) hxd rfl (Jo _) rfl rfl rfl rfl ?_
     refine GZ ?_
     refine af (f3) ?_
     refine Ju (by kernel_rfl) ?_
     exact eD (hN (_) (⟨f1, f2⟩)) ⟨rfl, rfl, trivial⟩ rfl
    |false =>
     obtain⟨f1, f2, f3⟩ := fin (!(t.kp.testBit s.last.1)) (by rw[hh, hb1, hb2]; rfl)
     rw[hb2]at f3 k21
     refine bL (d := 59) rfl (b' := false) (rfl) ?_
     refine zin (⟨kt0, kt1, k20, k21⟩) fun zS => ?_
     refine zro 14 rfl zS (fun _ => GT rfl) ?_
     refine zro 15 rfl zS (fun _ => aq rfl) ?_
     refine zro 16 rfl zS (fun _ => RV.fa rfl) ?_
     refine zro 17 rfl zS (fun _ => RV.fa rfl) ?_
     refine zto 18 rfl zS (fun w1 hw1 => RV.ld hw1.2.1 rfl) ?_
     refine zro 19 rfl zS (fun _ => GT rfl) ?_
     refine zro 20 rfl zS (fun _ => aq rfl) ?_
     refine zro 21 rfl zS (fun _ => RV.fa rfl) ?_
     refine zro 22 rfl zS (fun _ => RV.fa rfl) ?_
     refine zto 23 rfl zS (fun w1 hw1 => RV.ld hw1.2.2.1 rfl) ?_
     refine Gh 24 (by kernel_rfl) rfl ?_
     refine Cl rfl ?_
     refine zc Mk (rV t.kp s.last.1 _ (by omega) (by omega)) ?_
     rintro _ w3 ⟨rfl, rfl⟩
     refine GZ ?_
     refine zaf (⟨kt0, kt1, k20, k21⟩) fun zS => ?_
     refine zro 25 rfl zS (fun _ => Lh rfl) ?_
     refine zro 26 rfl zS (fun _ => aW rfl rfl) ?_
     refine zr 27 rfl zS (fun _ => aQ rfl rfl) ?_
     refine zrf 28 rfl zS rfl ?_
     refine Gh 29 (by kernel_rfl) rfl ?_
     refine ak (j := 1) hxd rfl (Jo _) rfl rfl rfl rfl ?_
     refine GZ ?_
     refine af (f3) ?_
     refine Ju (by kernel_rfl) ?_
     exact eD (hN (_) (⟨f1, f2⟩)) ⟨rfl, rfl, trivial⟩ rfl
  rintro w3 ⟨hx3, hU3⟩
  refine az ?_
  obtain⟨hd, hhd⟩:∃hd, hd = CJ t s c := ⟨_, rfl⟩
  rw[← hhd]at hx3
  have h3 := h2.upd hU3 hi hj (by omega) (by omega)
  have hR3 := hR2.upd hU3
  refine Jt ?_
  refine J4 ?_
  refine zv (GT rfl) ?_
  refine zv (ai (us := [nI (c:Nat), .bool hd]) hx3.cellsAdd (KM _) (Jz _) rfl) ?_
  refine zv (aq rfl) ?_
  refine zv (RV.fa rfl) ?_
  refine eL (us := #[nI (c:Nat), .bool hd]) 20 (po t gv lc rc wv {s with last := (c, hd)}).toArray h3.blk (h3.lastE c hd) (by rw[h3.size]; show 22 ≤ 23; omega) (Jz _) rfl rfl rfl rfl ?_
  obtain⟨h4, hU4⟩ := h3.lastS hi hj hij c hd
  have hx4 := hx3.upd hU4 (by decide) (by omega)
  have hU04 := (hU3.mono (S' := fun q => q = i ∨ q = j ∨ q = 1000) (fun _ h => by omega) hz).trans (hU4.mono (fun _ h => by omega) hz)
  have hR4 := hR3.upd hU4
  generalize w3.setRow rb (po t gv lc rc wv {s with last := (c, hd)}).toArray = w4 at *
  refine GZ ?_
  refine az ?_
  have k18:w4.drew.cell? (nA rb 18) = some wv := h4.k18
  refine aI (fun W => ∀k u, [nI (c:Nat), .bool hd][k]? = some u → W.cell? (nA xb k) = some u) 11 rfl (by kernel_rfl) ?_
  refine zin hx4.cellsAdd fun zS => ?_
  refine zrm 0 rfl zS rfl ?_
  refine zrm 1 rfl zS rfl ?_
  refine zr 2 rfl zS (fun _ => aq rfl) ?_
  refine zrf 3 rfl zS rfl ?_
  refine zt 5 rfl zS (fun w1 hw1 => ai (us := [nI (c:Nat), .bool hd]) hw1 (KM _) (Jz _) rfl) ?_
  refine bZ 4 6 elE (enc := Gw) ((c, hd):En) rfl rfl (by kernel_rfl) (by kernel_rfl) (by kernel_rfl) (by kernel_rfl) (fun W hE => RV.load (hE.cell k18) (isAgg112 _) rfl) (fun W hE k u hu => hE.cell (hx4.cellsAdd k u hu)) rfl rfl rfl (by decide) rfl rfl rfl rfl rfl ?_
  intro sv w5 hsv hE5
  have hX5 := aa (S := fun _ => False) (fun h => h) O1 ((ln w4).drew.trans hE5)
  have h5 := h4.upd hX5 hi hj (fun h => h) (fun h => h)
  have hx5 := hx4.upd hX5 (by decide) (fun h => h)
  have hR5 := hR4.upd hX5
  refine Gh 7 (by kernel_rfl) rfl ?_
  refine uQ elE h5.win hR5 hsv rfl rfl rfl (by simp[JP]) (by show(s.wait.length + 1) * 16 ≤ _; omega) (by show s.wait.length + 1 ≤ _; omega) hj rfl ?_
  intro wv6 w6 O6 hwin6 hU6 hR6
  have hx6 := hx5.upd hU6 (by decide) (by omega)
  have h6 := h5.blk.upd hU6 hi hij
  refine GZ ?_
  refine zaf (hx6.cellsAdd) fun zS => ?_
  refine zr 8 rfl zS (fun _ => aq rfl) ?_
  refine zrf 9 rfl zS rfl ?_
  refine Gh 10 (by kernel_rfl) rfl ?_
  refine ak (j := 18) h6 (h5.at_ 1 rfl) (sizeOf112 _) hwin6.one rfl rfl rfl ?_
  obtain⟨h7, hU7⟩ := h5.store2 hi hj hij hU6 h6 1 wv6 (wv' := wv6) (s' := {s with last := (c, hd), wait := s.wait ++ [(c, hd)]}) rfl hwin6
  have hx7 := hx6.upd hU7 (by decide) (by omega)
  refine GZ ?_
  refine af (hx7.cellsAdd) ?_
  refine Ju (by kernel_rfl) ?_
  have e:nT t s c = {s with last := (c, hd), wait := s.wait ++ [(c, hd)]} := by unfold nT; rw[hbg, if_pos rfl, ← hhd]
  have hU27 := ((hU04.trans (hX5.mono (fun _ h => h.elim) hz)).trans (hU6.mono (fun _ h => by omega) hz)).trans (hU7.mono (fun _ h => by omega) hz)
  refine aH rfl (⟨O6, wv6, by rw[e]; exact h7, (hU02.mono (fun _ h => by omega) hz).trans hU27, hR6.upd hU7⟩)
theorem gd{g:Nat}{tab:List Nat}{S:Nat->Prop}{B:Nat}{O O':Nat->Nat}{w w':la}(h:LF g tab w)(hg:g<B)(r:KF B O w)(u:Jw S O w O' w'):LF g tab w':=fun j hj=>by
 have h0:O g=0:=by
  by_cases e:O g=0
  ·exact e
  have:=(r.rng g e).1;omega
 exact iC (u.blk g (by have:=r.le;omega) (by rw[h0];exact u.z)) (h j hj)
abbrev G5:Nat:=0
def iy(l:List En):Nat:=(l.filter fun x=>!x.2).length
def xU:List En->Bool
 |[]=>false
 |x::r=>x.2||decide (4<=iy (x::r))
theorem vY{l:List En}{k:Nat}(h:k<l.length):iy (l.take (k+1))=iy (l.take k)+if(nth l k).2=true then 0 else 1:=by
 unfold iy;rw[aR h,List.filter_append,Jp];congr 1
 cases hb:(nth l k).2<;>simp[hb]
theorem Bz(l:List En):iy l<=l.length:=List.length_filter_le _ _
theorem rn(O:Nat->Nat)(w:la)(i j rb:Nat)(t:TabM)(gv:ix)(lc rc:List ix)(wv:ix)(s:RunS)(h:RunO O w i j rb t gv lc rc wv s)(hs:OkS t s):
  KN JF 55 [nP rb] w fun v w'=>v=.bool (xU s.wait)/\KC w w':=by
 have k18:=h.k18;have b1:=h.win.sl;have b7:=hs.few;refine Gi func55 ntmps55 rfl rfl ?_;refine zh ?_
 by_cases h0:s.wait=[]
 ·refine zTH rfl ((by rw[h0];rfl)) ?_;refine ae rfl rfl (⟨by rw[h0];rfl,ln _⟩)
 have a7:0<s.wait.length:=Kq.2 h0;refine zFH rfl ((by rw[beq_eq_false_iff_ne];omega)) ?_;refine zlp (fun z:Nat×la=>[(0,nP rb),(3,nI (iy (s.wait.take z.1):Nat)),(15,wv),(16,nI s.wait.length),(17,nI z.1)]) (fun z=>z.2) (fun z=>z.1<=s.wait.length/\KC w z.2) (fun z=>s.wait.length-z.1) (0,w) (⟨IJ _,ln _⟩) ?_;rintro⟨k,w1⟩ ⟨hk,a2⟩;dsimp only at hk a2 ⊢;have a3:=b1.ext a2;have b8:iy (s.wait.take k)<=k:=KB (Bz _) (List.length_take_le k _);refine zh ?_;refine zC ?_ ?_
 ·intro a1;replace a1:k<s.wait.length:=dT a1;obtain⟨c,hd,b0⟩:∃c hd,(c,hd)=nth s.wait k:=⟨_,_,rfl⟩
  have a4:=vY a1;rw[<-b0]at a4;refine zh ?_;refine zv (ai (us:=[nI (c:Nat),.bool hd]) (fun j u hu=>a3.cell a1 (by rw[<-b0];exact hu)) (KM _) (Jz _) rfl) ?_;refine ax (au w1) 1 zo (Kl _) rfl ?_;intro xb w2 O2 a0 b5 b9 c5;refine zsa (us:=#[nI (c:Nat),.bool hd]) a0 (Jz _) ?_;have a6:=a0.setRow (us:=#[nI (c:Nat),.bool hd]);have b4:Jw (fun j=>j=1) O2 w2 O2 (w2.setRow xb #[nI (c:Nat),.bool hd]):=GY zd a0.tag rfl;have a9:=(b5.trans b4).ext;generalize w2.setRow xb #[nI (c:Nat),.bool hd]=w3 at *;have a5:=a2.trans a9;have x1:w3.cell? (nA xb 1)=some (.bool hd):=a6.cell 1 rfl;refine zh ?_;refine zC ?_ ?_
  ·intro hh;have a8:hd=false:=by simpa using hh
   rw[if_neg (by show¬hd=true;rw[a8];decide)]at a4;refine zh ?_;rw[show((iy (s.wait.take k):Nat):Int)+1=((iy (s.wait.take (k+1)):Nat):Int)from by rw[a4];omega];refine zxd (k+1,w3) (⟨a1,a5⟩)
  intro hh;have a8:hd=true:=by simpa using hh
  rw[if_pos a8]at a4;refine zh ?_;rw[<-Nat.add_zero (iy (s.wait.take k)),<-a4];refine zxd (k+1,w3) (⟨a1,a5⟩)
 intro b3;obtain rfl:k=s.wait.length:=dF b3;rw[JA];have c6:w1.cell? (nA rb 18)=some wv:=a2.cell k18;obtain⟨x,r,a'⟩:=KR h0;have d1:w1.cell? ((adr wv 2 0).add 1)=some (.bool x.2):=a3.cell a7 (by rw[a',ar];rfl);have b2:xU s.wait=(x.2||decide (4<=iy s.wait)):=by rw[a'];rfl
 rw[b2];refine zh ?_
 cases b6:x.2 with
 |true=>
  refine ay (d:=34) rfl (b':=true) (rfl) ?_;refine zh ?_
  refine ae rfl rfl (⟨rfl,a2⟩)
 |false=>
  refine ay (d:=34) rfl (b':=false) (rfl) ?_;refine zh ?_
  refine ae rfl rfl (⟨by rw[K8];congr 1;exact decide_eq_decide.2 zo,a2⟩)
def vC(t:TabM)(s:RunS)(x:En):Int:=if x.2=true then -1 else cZ t s
def passB(t:TabM)(s:RunS)(x:En):Bool:=!x.2&&(decide (cZ t s<0)||t.br.testBit (cZ t s).toNat)
def vB(t:TabM)(s:RunS)(x:En)(r:List En):RunS:={s with row:=if x.2=true then s.row else stL t s.row x.1,wait:=r}
theorem Al(t:TabM)(s:RunS)(ho:OkT t)(hs:OkS t s):cZ t s = -1\/∃n,n<64/\cZ t s=((n:Nat):Int):=by
 have a1:(2^40:Nat)=1099511627776:=zd;have a2:=nQ ho hs;have a0:nth t.lt s.row &&& eE t s.wait<18446744073709551616:=Kv Lq zo;unfold cZ;generalize nth t.lt s.row &&& eE t s.wait=both at *
 split
 ·exact .inl rfl
 rename_i h0;obtain⟨_,hk⟩:=LC 64 both h0 a0;exact .inr ⟨_,hk,rfl⟩
theorem ry{t:TabM}{s:RunS}{x:En}{r:List En}(ho:OkT t)(hs:OkS t s)(hw:s.wait=x::r):OkS t (vB t s x r):=by
 have hx:=hs.wait x (by simp[hw]);refine⟨?_,fun y hy=>hs.wait y (by rw[hw];simp[show y∈r from hy]),hs.last,?_⟩
 ·show(if x.2=true then s.row else stL t s.row x.1)<_
  split
  ·exact hs.row
  exact(ho.lN hs.row zo).2
 have:=hs.few;rw[hw]at this;simp only[Jr]at this;show r.length<=_;omega
theorem ie(B:Nat)(O:Nat → Nat)(w:la)(i j rb:Nat)(t:TabM)(gv:ix)(lc rc:List ix)(wv:ix)(s:RunS)(x:En)(r:List En)(hxr:s.wait = x :: r)(h:RunO O w i j rb t gv lc rc wv s)(hi:i ≠ 0)(hj:j ≠ 0)(hij:i ≠ j)(hi1:i < 1000)(hj1:j < 1000)(ho:OkT t)(hs:OkS t s)(hR:KF B O w)(hT:eF w)(hg:G5 < B):
  KN JF 56 [nP rb] w fun v w' => v = .tuple #[nI (vC t s x), .bool (passB t s x)] ∧ ∃O' wv', RunO O' w' i j rb t gv lc rc wv' (vB t s x r) ∧ Jw (fun q => q = i ∨ q = j ∨ q = 1000) O w O' w' ∧ KF B O' w' := by
 have hp40:(2^40:Nat) = 1099511627776 := by decide
 have hz:¬(0 = i ∨ 0 = j ∨ 0 = 1000) := by omega
 have hwl := hs.few
 have hwlen:s.wait.length = r.length + 1 := by rw[hxr]; rfl
 have k18 := h.k18
 have hws := h.win.sl
 obtain⟨c, hd, hcd⟩:∃c hd, x = (c, hd) := ⟨_, _, rfl⟩
 subst hcd
 have hc36:c < 36 := hs.wait (c, hd) (by simp[hxr])
 have hwin := Al t s ho hs
 refine Gi func56 ntmps56 rfl rfl ?_
 refine Jt ?_
 refine J4 ?_
 refine zv (Jn rfl) ?_
 refine zv (Jn rfl) ?_
 refine GZ ?_
 refine az ?_
 refine Jt ?_
 refine J4 ?_
 refine zv (GT rfl) ?_
 refine zv (aq rfl) ?_
 refine zv (RV.fa rfl) ?_
 refine zv (RV.ld k18 rfl) ?_
 refine zv (ah hws.sh L7 (Jz _) rfl rfl 0 rfl (by omega)) ?_
 refine zv (ai (us := [nI (c:Nat), .bool hd]) (fun k u hu => hws.cell (i := 0) (by omega) (by rw[hxr, ar]; exact hu)) (KM _) (Jz _) rfl) ?_
 refine ax hR 1000 (by omega) (Kl _) rfl ?_
 intro xb w1 O1 hxb1 hU1 hR1 hE1
 refine zsa (us := #[nI (c:Nat), .bool hd]) hxb1 (Jz _) ?_
 have hxb2 := hxb1.setRow (us := #[nI (c:Nat), .bool hd])
 have hU2:Jw (fun q => q = 1000) O1 w1 O1 (w1.setRow xb #[nI (c:Nat), .bool hd]) := GY (by decide) hxb1.tag rfl
 generalize w1.setRow xb #[nI (c:Nat), .bool hd] = w2 at *
 have hU02 := hU1.trans hU2
 have hR2 := hR1.upd hU2
 have h2 := h.upd hU02 hi hj (by omega) (by omega)
 have hT2:eF w2 := gd hT hg hR hU02
 have x1:w2.cell? (nA xb 1) = some (.bool hd) := hxb2.cell 1 rfl
 refine GZ ?_
 refine az ?_
 refine Jt ?_
 refine J4 ?_
 refine zv (Jn rfl) ?_
 refine GZ ?_
 refine az ?_
 refine Jt ?_
 refine Jt ?_
 refine J4 ?_
 refine zv (RV.fa rfl) ?_
 refine zv (RV.ld x1 rfl) ?_
 refine zv (Lh rfl) ?_
 refine GZ ?_
 refine az ?_
 refine iK (fun z:(Nat → Nat)×World×Int => [(0, nP rb), (4, nP xb), (5, nI z.2.2)]) (fun z:(Nat → Nat)×World×Int => z.2.1) (fun z:(Nat → Nat)×World×Int => RunO z.1 z.2.1 i j rb t gv lc rc wv {s with row := if hd = true then s.row else stL t s.row c} ∧ KP z.1 z.2.1 1000 xb #[nI (c:Nat), .bool hd] 114 ∧ Jw (fun q => q = i) O1 w2 z.1 z.2.1 ∧ KF B z.1 z.2.1 ∧ z.2.2 = vC t s (c, hd)) ?_ ?_
 ·intro hN
  by_cases hhd:hd = true
  ·skip
   refine aS rfl ((by rw[hhd]; rfl)) ?_
   refine Lo ?_
   exact eD (hN ((O1, w2, -1)) (⟨by rw[if_pos hhd]; exact h2, hxb2, Lz (fun e => hi e.symm) _ _, hR2, by show _ = if hd = true then _ else _; rw[if_pos hhd]⟩)) ⟨rfl, rfl, rfl, trivial⟩ rfl
  ·skip
   refine aZ rfl ((by rw[show hd = false from by simpa using hhd]; rfl)) ?_
   refine Jt ?_
   refine J4 ?_
   refine zv (GT rfl) ?_
   refine zc call94 (qO O1 w2 i j rb t gv lc rc wv s h2 hi hj ho hs hT2) ?_
   rintro _ w3 ⟨rfl, hE3⟩
   have hX3 := aa (S := fun _ => False) (fun h => h) O1 hE3
   have h3 := h2.upd hX3 hi hj (fun h => h) (fun h => h)
   have hxb3 := hxb2.upd hX3 (by decide) (fun h => h)
   have hR3 := hR2.upd hX3
   refine zv (Jn rfl) ?_
   refine GZ ?_
   refine az ?_
   have hB := h3.tab
   obtain⟨hg1, hg2⟩ := ho.gN (c := c) (by omega)
   obtain⟨hr1, hr2⟩ := ho.lN hs.row (c := c) (by omega)
   have hgl := ho.gl
   have d4:w3.drew.cell? ((nA rb 0).add 4) = some gv := hB.c4
   have dcl:∀(j:Nat) (u:ix), lc[j]? = some u → w3.drew.cell? (((nA rb 0).add 5).add j) = some u := hB.cl
   have dg:w3.drew.cell? (adr gv 1 c) = some (nI ((grT t c:Nat):Int)) := by have := hB.groups.cell (i := c) (j := 0) (by omega) rfl; rw[ao, hg1]at this; exact this
   have d17:w3.drew.cell? (nA rb 17) = some (nI (s.row:Int)) := h3.k17
   have dx:w3.drew.cell? (nA xb 0) = some (nI (c:Int)) := hxb3.cell 0 rfl
   refine aI (fun W => W.cell? ((nA rb 0).add 4) = some gv ∧ W.cell? (adr gv 1 c) = some (nI ((grT t c:Nat):Int)) ∧ (∀(j:Nat) (u:ix), lc[j]? = some u → W.cell? (((nA rb 0).add 5).add j) = some u) ∧ W.cell? (nA xb 0) = some (nI (c:Int))) 23 rfl (by kernel_rfl) ?_
   refine zin ⟨d4, dg, dcl, dx⟩ fun zS => ?_
   refine zrm 0 rfl zS rfl ?_
   refine zrm 1 rfl zS rfl ?_
   refine zr 2 rfl zS (fun _ => aq rfl) ?_
   refine zrf 3 rfl zS rfl ?_
   refine zrf 4 rfl zS rfl ?_
   refine zt 5 rfl zS (fun w1 hw1 => ai (us := lc) hw1.2.2.1 (KL _) (by rw[h.left.one.1]; exact JY _) rfl) ?_
   refine zrm 6 rfl zS rfl ?_
   refine zr 7 rfl zS (fun _ => aq rfl) ?_
   refine zrf 8 rfl zS rfl ?_
   refine zrm 10 rfl zS rfl ?_
   refine zr 11 rfl zS (fun _ => aq rfl) ?_
   refine zrf 12 rfl zS rfl ?_
   refine zrf 13 rfl zS rfl ?_
   refine zt 14 rfl zS (fun w1 hw1 => RV.ld hw1.1 rfl) ?_
   refine zrf 15 rfl zS rfl ?_
   refine zt 16 rfl zS (fun w1 hw1 => RV.ld hw1.2.2.2 rfl) ?_
   refine zr 17 rfl zS (fun _ => ah hB.groups.sh JT (Kw _) rfl rfl c rfl (by omega)) ?_
   refine zt 18 rfl zS (fun w1 hw1 => RV.ld hw1.2.1 rfl) ?_
   refine Gh 9 (by kernel_rfl) rfl ?_
   refine zv (RV.ld d17 rfl) ?_
   refine GZ ?_
   refine af (⟨d4, dg, dcl, dx⟩) ?_
   refine Gh 19 (by kernel_rfl) rfl ?_
   refine zc LZ (kf lc t.left t.lt s.row (grT t c) w3.drew (hB.left.ext (ln w3).drew) ho.okl hs.row hg2) ?_
   rintro _ w5 ⟨rfl, hE5⟩
   rw[hr1]
   refine GZ ?_
   refine af (⟨hE5.cell d4, hE5.cell dg, fun j u hu => hE5.cell (dcl j u hu), hE5.cell dx⟩) ?_
   have hX5 := aa (S := fun _ => False) (fun h => h) O1 ((ln w3).drew.trans hE5)
   have h5 := h3.upd hX5 hi hj (fun h => h) (fun h => h)
   have hxb5 := hxb3.upd hX5 (by decide) (fun h => h)
   have hR5 := hR3.upd hX5
   refine zin (⟨hE5.cell d4, hE5.cell dg, fun j u hu => hE5.cell (dcl j u hu), hE5.cell dx⟩) fun zS => ?_
   refine zr 20 rfl zS (fun _ => aq rfl) ?_
   refine zrf 21 rfl zS rfl ?_
   refine Gh 22 (by kernel_rfl) rfl ?_
   refine ak (j := 17) h5.blk (h5.at_ 0 rfl) (Kw _) rfl rfl rfl rfl ?_
   obtain⟨h6, hU6⟩ := h5.store hi hj hij 0 (nI ((stL t s.row c:Nat):Int)) (wv' := wv) (s' := {s with row := stL t s.row c}) rfl h5.win
   have hB6 := h6.tab
   have hR6 := hR5.upd hU6
   have hxb6 := hxb5.upd hU6 (by decide) (by omega)
   have hU26 := ((hX3.trans hX5).mono (S' := fun q => q = i) (fun _ h => h.elim) (by omega)).trans hU6
   have q1:(w5.setCell ⟨rb, 17 + 0, none⟩ (nI ((stL t s.row c:Nat):Int))).cell? (adr gv 1 c) = some (nI ((grT t c:Nat):Int)) := by have := hB6.groups.cell (i := c) (j := 0) (by omega) rfl; rw[ao, hg1]at this; exact this
   refine GZ ?_
   refine af (⟨hB6.c4, q1, hB6.cl, hxb6.cell 0 rfl⟩) ?_
   refine Ju (by kernel_rfl) ?_
   exact eD (hN ((O1, _, cZ t s)) (⟨by rw[if_neg hhd]; exact h6, hxb6, hU26, hR6, by show _ = if hd = true then _ else _; rw[if_neg hhd]⟩)) ⟨rfl, rfl, rfl, trivial⟩ rfl
 rintro⟨O3, w3, k⟩ ⟨h3, hxb3, hU3, hR3, hk⟩
 dsimp only at h3 hxb3 hU3 hR3 hk ⊢
 refine az ?_
 have hws3 := h3.win.sl
 have d18 := h3.k18
 refine Jt ?_
 refine J4 ?_
 refine zv (GT rfl) ?_
 refine zv (GT rfl) ?_
 refine zv (aq rfl) ?_
 refine zv (RV.fa rfl) ?_
 refine zv (RV.ld d18 rfl) ?_
 refine zv (qL hws3 L7 (Jz _) rfl rfl 1 rfl (by show 1 ≤ s.wait.length; omega)) ?_
 refine zv (aq rfl) ?_
 refine zv (RV.fa rfl) ?_
 have hw4 := h3.win
 have hwt:WinO Gw 114 2 O3 w3 j (ej wv 2 1 s.wait.length) r := by
  rw[hwlen]
  have:WinO Gw 114 2 O3 w3 j wv ((c, hd) :: r) := by rw[← hxr]; exact hw4
  exact this.tail (by decide)
 refine ak (j := 18) h3.blk (h3.at_ 1 rfl) (sizeOf112 _) hwt.one rfl rfl rfl ?_
 obtain⟨h4, hU4⟩ := h3.store hi hj hij 1 (ej wv 2 1 s.wait.length) (wv' := ej wv 2 1 s.wait.length) (s' := vB t s (c, hd) r) rfl hwt
 have hxb4 := hxb3.upd hU4 (by decide) (by omega)
 have hR4 := hR3.upd hU4
 generalize w3.setCell ⟨rb, 17 + 1, none⟩ (ej wv 2 1 s.wait.length) = w4 at *
 have hU04 := (hU02.mono (S' := fun q => q = i ∨ q = j ∨ q = 1000) (fun _ h => by omega) hz).trans ((hU3.trans hU4).mono (fun _ h => by omega) hz)
 have x41:w4.cell? (nA xb 1) = some (.bool hd) := hxb4.cell 1 rfl
 refine GZ ?_
 refine az ?_
 refine Jt ?_
 refine J4 ?_
 refine zv (GT rfl) ?_
 refine zv (RV.fa rfl) ?_
 refine zv (RV.ld x41 rfl) ?_
 refine zv (Lh rfl) ?_
 refine zv (GT rfl) ?_
 cases hhd:hd with
 |true =>
  refine ay (d := 51) rfl (b' := false) (rfl) ?_
  refine Kd rfl rfl rfl ?_
  refine Kd rfl rfl rfl ?_
  refine Kd rfl rfl rfl ?_
  refine Cm rfl rfl ?_
  refine Cm rfl rfl ?_
  refine Cm rfl rfl ?_
  refine Cm rfl rfl ?_
  refine Cm rfl rfl ?_
  refine Cm rfl rfl ?_
  refine Cm rfl rfl ?_
  refine Kd rfl rfl rfl ?_
  refine zv (aW rfl rfl) ?_
  refine zv (Jn rfl) ?_
  refine zv (Jn rfl) ?_
  refine GZ ?_
  refine az ?_
  refine Le ?_
  refine bQ rfl rfl rfl (⟨by rw[hk, hhd]; rfl, O3, _, by rw[← hhd]; exact h4, hU04, hR4⟩)
 |false =>
  have hbr := ho.br
  subst hhd
  replace hk:k = cZ t s := hk
  have hPB:passB t s (c, false) = (decide (cZ t s < 0) || t.br.testBit (cZ t s).toNat) := rfl
  have hPK:vC t s (c, false) = cZ t s := rfl
  rw[hPB, hPK, ← hk]
  rw[← hk]at hwin
  refine ay (d := 51) rfl (b' := true) (rfl) ?_
  refine Cl rfl ?_
  refine zv (GT rfl) ?_
  refine Cl rfl ?_
  refine zv (M6 rfl rfl) ?_
  refine Cl rfl ?_
  refine zv (GT rfl) ?_
  rcases hwin with hk1 | ⟨n, hn, hk1⟩
  ·skip
   refine ay (d := 54) rfl (b' := true) ((by rw[hk1]; rfl)) ?_
   refine Kd rfl rfl rfl ?_
   refine Kd rfl rfl rfl ?_
   refine Kd rfl rfl rfl ?_
   refine Kd rfl rfl rfl ?_
   refine Kd rfl rfl rfl ?_
   refine Kd rfl rfl rfl ?_
   refine Kd rfl rfl rfl ?_
   refine Cl rfl ?_
   refine zv (aQ rfl rfl) ?_
   refine zv (aQ rfl rfl) ?_
   refine zv (Jn rfl) ?_
   refine zv (Jn rfl) ?_
   refine GZ ?_
   refine az ?_
   refine Le ?_
   refine bQ rfl rfl rfl (⟨by rw[hk1]; rfl, O3, _, h4, hU04, hR4⟩)
  ·have hd0:decide (k < 0) = false := decide_eq_false (by omega)
   rw[hd0, hk1]
   refine ay (d := 54) rfl (b' := false) (rfl) ?_
   have b2:w4.cell? ((nA rb 0).add 2) = some (.int .u64 (t.br:Int)) := h4.tab.c2
   refine Cl rfl ?_
   refine zv (GT rfl) ?_
   refine Cl rfl ?_
   refine zv (aq rfl) ?_
   refine Cl rfl ?_
   refine zv (RV.fa rfl) ?_
   refine Cl rfl ?_
   refine zv (RV.fa rfl) ?_
   refine Cl rfl ?_
   refine zv (RV.ld b2 rfl) ?_
   refine Cl rfl ?_
   refine zv (GT rfl) ?_
   refine Cl rfl ?_
   refine zc Mk (rV t.br n _ (by omega) hn) ?_
   rintro _ w5 ⟨rfl, rfl⟩
   refine Cl rfl ?_
   refine zv (aW rfl rfl) ?_
   refine zv (aQ rfl rfl) ?_
   refine zv (Jn rfl) ?_
   refine zv (Jn rfl) ?_
   refine GZ ?_
   refine az ?_
   refine Le ?_
   refine bQ rfl rfl rfl (⟨rfl, O3, _, h4, hU04, hR4⟩)
abbrev cP(b:Bool):List ix:=[.bool b]
theorem uy:Mc JF 66 4 1 1:=⟨J8,by kernel_rfl,zd⟩
theorem eC(O:Nat->Nat)(w:la)(i j rb:Nat)(t:TabM)(gv:ix)(lc rc:List ix)(wv:ix)(s:RunS)(h:RunO O w i j rb t gv lc rc wv s):
  KN JF 24 [nP rb] w fun v w'=>v=nI (s.wait.length:Nat)/\w'=w:=by
 have k18:=h.k18;have a0:=h.win.sl;refine Gi func24 ntmps24 rfl rfl ?_;refine zh ?_;refine zvH (ec (q:=some ⟨rb,0,none⟩) Lb rfl rfl) ?_;refine zFH rfl rfl ?_;refine ae rfl rfl (⟨rfl,rfl⟩)
abbrev lF(row:Nat)(l:List En):RunS:=⟨row,l,true,(0,false),true⟩
def stepL(t:TabM)(row:Nat)(x:En):Nat:=if x.2=true then row else stL t row x.1
def closeL(t:TabM):List En->Nat->List Bool
 |[],_=>[]
 |x::r,row=>passB t (lF row (x::r)) x::closeL t r (stepL t row x)
theorem xX(t:TabM)(s:RunS)(x:En):passB t s x=passB t (lF s.row s.wait) x:=rfl
theorem lX(t:TabM):∀(l:List En) (row:Nat),(closeL t l row).length=l.length
 |[],_=>rfl
 |x::r,row=>by rw[closeL,Jr,lX t r,Jr]
theorem kY(B:Nat)(O:Nat->Nat)(w:la)(i j m rb:Nat)(t:TabM)(gv:ix)(lc rc:List ix)(wv:ix)(s:RunS)(h:RunO O w i j rb t gv lc rc wv s)(hi:i≠0)(hj:j≠0)(b3:i≠j)(c9:i<1000)(c7:j<1000)(hm:m≠0)(d5:m<1000)(c8:i≠m)(c6:j≠m) 
  (ho:OkT t) (hs:OkS t s) (d0:s.closed=false) (hR:KF B O w) (hT:eF w) (hg:G5<B) :
  KN JF 25 [nP rb] w fun v w'=>∃O' wv' s',RunO O' w' i j rb t gv lc rc wv' s'/\OkS t s'/\s'.wait=[]/\s'.closed=true/\K4 cP 4 1 O' w' m v (closeL t s.wait s.row)/\Jw (fun q=>q=i\/q=j\/q=m\/q=1000) O w O' w'/\KF B O' w':=by
 have hz:¬(0=i\/0=j\/0=m\/0=1000):=zo;have d4:=hs.few;have k22:=h.k22;rw[d0]at k22;obtain⟨R,b7⟩:∃R,R=closeL t s.wait s.row:=⟨_,rfl⟩
 rw[<-b7];refine Gi func25 ntmps25 rfl rfl ?_;refine zh ?_;refine zvH (ec (q:=some ⟨rb,0,none⟩) Lb rfl rfl) ?_;refine ay (d:=8) rfl (b':=false) (rfl) ?_;refine zh ?_;refine zFH rfl rfl ?_;refine ak (j:=22) h.blk (h.at_ 5 rfl) (Jo _) rfl rfl rfl rfl ?_;obtain⟨h1,b6⟩:=h.store hi hj b3 5 (.bool true) (wv':=wv) (s':={s with closed:=true}) rfl h.win;have d3:=hR.upd b6;generalize w.setCell ⟨rb,17+5,none⟩ (.bool true)=w1 at *;refine zh ?_;refine zlp (fun z:(Nat->Nat)×World×ix×RunS×ix×List Bool=>[(0,nP rb),(3,z.2.2.2.2.1)]) (fun z=>z.2.1) (fun z=>RunO z.1 z.2.1 i j rb t gv lc rc z.2.2.1 z.2.2.2.1/\OkS t z.2.2.2.1/\z.2.2.2.1.closed=true/\K4 cP 4 1 z.1 z.2.1 m z.2.2.2.2.1 z.2.2.2.2.2/\Jw (fun q=>q=i\/q=j\/q=m\/q=1000) O w z.1 z.2.1/\KF B z.1 z.2.1/\z.2.2.2.2.2++closeL t z.2.2.2.1.wait z.2.2.2.1.row=R/\z.2.2.2.2.2.length+z.2.2.2.1.wait.length<=1000000) (fun z=>z.2.2.2.1.wait.length) (O,w1,wv,{s with closed:=true},nS,[]) (⟨h1,⟨hs.row,hs.wait,hs.last,hs.few⟩,rfl,L4 _ _ _ _ _ _,b6.mono (fun _ h=>zo) hz,d3,by rw[b7];rfl,by show 0+s.wait.length<=_;omega⟩) ?_;rintro⟨O2,w2,b0,s2,ov,l⟩ ⟨h2,a2,a9,a6,a3,a',a1,a8⟩;dsimp only at h2 a2 a9 a6 a3 a' a1 a8 ⊢;have c5:=h2.win.sl;have d6:=h2.k18;refine zh ?_;refine zC ?_ ?_
 ·intro a7;replace a7:0<s2.wait.length:=dT a7;obtain⟨x,r,a0⟩:=KR (Kq.1 a7);have b1:s2.wait.length=r.length+1:=by rw[a0];rfl
  rw[a0,closeL]at a1;refine zh ?_;refine zc call56 (ie B O2 w2 i j rb t gv lc rc b0 s2 x r a0 h2 hi hj b3 c9 c7 ho a2 a' (gd hT hg hR a3) hg) ?_;rintro _ w3 ⟨rfl,O3,b8,h3,b5,d2⟩;have a5:=a6.upd b5 hm zo;refine zh ?_;refine Mn uy a5 d2 (passB t s2 x) (fun _=>rfl) rfl rfl rfl (by simp[JP]) zo zo zo zd rfl rfl ?_;intro b9 w4 O4 a4 b4 d1;have h4:=h3.upd b4 hi hj c8 c6;refine zh ?_;refine zx (O4,w4,b8,vB t s2 x r,b9,l++[passB t s2 x]) (⟨h4,ry ho a2 a0,a9,a4,(a3.trans (b5.mono (fun _ h=>zo) hz)).trans (b4.mono (fun _ h=>zo) hz),d1,by rw[Jy,<-a1,xX,a0];rfl,by rw[Jp];show l.length+1+r.length<=_;omega⟩) (by show r.length<_;omega)
 intro c';have b2:s2.wait=[]:=Gv (by have:=of_decide_eq_false c';omega);rw[b2,closeL,J0]at a1;subst a1;refine zh ?_;refine ae rfl rfl (⟨O2,b0,s2,h2,a2,b2,a9,a6,a3,a'⟩)
def pushL(t:TabM):List En->Nat->List Bool×List En×Nat
 |[],row=>([],[],row)
 |x::r,row=>if xU (x::r)=true then(passB t (lF row (x::r)) x::(pushL t r (stepL t row x)).1,(pushL t r (stepL t row x)).2)else([],x::r,row)
theorem iV(t:TabM):∀(l:List En) (row:Nat),xU l=false->pushL t l row=([],l,row)
 |[],_,_=>rfl
 |x::r,row,h=>by rw[pushL,if_neg (by rw[h];decide)]
theorem ib(B:Nat)(O:Nat->Nat)(w:la)(i j m rb:Nat)(t:TabM)(gv:ix)(lc rc:List ix)(wv:ix)(s:RunS)(h:RunO O w i j rb t gv lc rc wv s)(hi:i≠0)(hj:j≠0)(b5:i≠j)(b6:i<1000)(b4:j<1000)(hm:m≠0)(d8:m<1000)(d1:i≠m)(d0:j≠m) 
  (ho:OkT t) (hs:OkS t s) (hf:s.wait.length+1<=1000000) (d2:s.closed=false) (hR:KF B O w) (hT:eF w) (hg:G5<B) (id:Int) (p:RunS) (hp:p=nT t s (aJ id)) :
  KN JF 22 [nP rb,nI id] w fun v w'=>∃O' wv',RunO O' w' i j rb t gv lc rc wv' {p with wait:=(pushL t p.wait p.row).2.1,row:=(pushL t p.wait p.row).2.2}/\OkS t {p with wait:=(pushL t p.wait p.row).2.1,row:=(pushL t p.wait p.row).2.2}/\
   K4 cP 4 1 O' w' m v (pushL t p.wait p.row).1/\Jw (fun q=>q=i\/q=j\/q=m\/q=1000) O w O' w'/\KF B O' w':=by
 have hz:¬(0=i\/0=j\/0=m\/0=1000):=zo;have k22:=h.k22;rw[d2]at k22;have b2:OkS t p:=by rw[hp];exact vy ho hs (cy id) hf
 obtain⟨R,c5⟩:∃R,R=pushL t p.wait p.row:=⟨_,rfl⟩
 rw[<-c5];refine Gi func22 ntmps22 rfl rfl ?_;refine zh ?_;refine zvH (ec (q:=some ⟨rb,0,none⟩) Lb rfl rfl) ?_;refine ay (d:=10) rfl (b':=false) (rfl) ?_;refine zh ?_;refine zFH rfl rfl ?_;refine zc call54 (jJ B O w i j rb t gv lc rc wv s h hi hj b5 b6 b4 ho hs hf hR id) ?_;rintro _ w1 ⟨O1,c9,h1,d3,d6⟩;rw[<-hp]at h1;refine zh ?_;refine zlp (fun z:(Nat->Nat)×World×ix×RunS×ix×List Bool=>[(0,nP rb),(5,z.2.2.2.2.1)]) (fun z=>z.2.1) (fun z=>RunO z.1 z.2.1 i j rb t gv lc rc z.2.2.1 z.2.2.2.1/\OkS t z.2.2.2.1/\z.2.2.2.1 = {p with wait:=z.2.2.2.1.wait,row:=z.2.2.2.1.row}/\K4 cP 4 1 z.1 z.2.1 m z.2.2.2.2.1 z.2.2.2.2.2/\Jw (fun q=>q=i\/q=j\/q=m\/q=1000) O w z.1 z.2.1/\KF B z.1 z.2.1/\(z.2.2.2.2.2++(pushL t z.2.2.2.1.wait z.2.2.2.1.row).1,(pushL t z.2.2.2.1.wait z.2.2.2.1.row).2)=R/\z.2.2.2.2.2.length+z.2.2.2.1.wait.length<=1000000) (fun z=>z.2.2.2.1.wait.length) (O1,w1,c9,p,nS,[]) (⟨h1,b2,rfl,L4 _ _ _ _ _ _,d3.mono (fun _ h=>zo) hz,d6,by rw[c5];rfl,by have:=b2.few;show 0+p.wait.length<=_;omega⟩) ?_;rintro⟨O2,w2,a6,s2,ov,l⟩ ⟨h2,a1,a',b3,b9,c7,a4,a9⟩;dsimp only at h2 a1 a' b3 b9 c7 a4 a9 ⊢;refine zh ?_;refine zc call55 (rn O2 w2 i j rb t gv lc rc a6 s2 h2 a1) ?_;rintro _ w3 ⟨rfl,d7⟩;have a5:=aa (S:=fun _=>False) (fun h=>h) O2 d7;have h3:=h2.upd a5 hi hj (fun h=>h) (fun h=>h);have a3:=b3.upd a5 hm (fun h=>h);have c6:=c7.upd a5
 have b0:=b9.trans (a5.mono (fun _ h=>h.elim) hz);refine zh ?_;refine zC ?_ ?_
 ·intro a2;obtain⟨x,r,a0⟩:∃x r,s2.wait=x::r:=by
   cases hw:s2.wait with
   |nil=>rw[hw]at a2;cases a2
   |cons x r=>exact⟨x,r,rfl⟩
  have b1:s2.wait.length=r.length+1:=by rw[a0];rfl
  rw[a0]at a2;rw[a0,pushL,if_pos a2]at a4;refine zh ?_;refine zc call56 (ie B O2 w3 i j rb t gv lc rc a6 s2 x r a0 h3 hi hj b5 b6 b4 ho a1 c6 (gd hT hg hR b0) hg) ?_;rintro _ w4 ⟨rfl,O4,c8,h4,b8,d5⟩;have a8:=a3.upd b8 hm zo;refine zh ?_;refine Mn uy a8 d5 (passB t s2 x) (fun _=>rfl) rfl rfl rfl (by simp[JP]) zo zo zo zd rfl rfl ?_;intro c' w5 O5 a7 b7 d4;have h5:=h4.upd b7 hi hj d1 d0;refine zh ?_;refine zx (O5,w5,c8,vB t s2 x r,c',l++[passB t s2 x]) (⟨h5,ry ho a1 a0,?_,a7,(b0.trans (b8.mono (fun _ h=>zo) hz)).trans (b7.mono (fun _ h=>zo) hz),d4,by rw[Jy,<-a4,xX,a0];rfl,by rw[Jp];show l.length+1+r.length<=_;omega⟩) (by show r.length<_;omega);show vB t s2 x r=_;rw[a'];rfl
 intro a2;rw[iV t _ _ a2,J0]at a4;subst a4;refine zh ?_;rw[a']at h3 a1;refine ae rfl rfl (⟨O2,a6,h3,a1,a3,b0,c6⟩)
end Go.Proofs.YtlehnbkknlpkbaaGreatDoor
section
namespace Go.VL
theorem Ak:∀(l:List ix) (k:Nat) (cells:Array ix),k+l.length<=cells.size->(l.zipIdx k).foldl (fun(cs:Array ix) (q:ix×Nat)=>cs.setIfInBounds (0+q.2) q.1) cells=(cells.toList.take k++l++cells.toList.drop (k+l.length)).toArray
 |[],k,cells,_=>by simp
 |c::l,k,cells,h=>by
  simp only[Jr]at h;rw[List.zipIdx_cons,JV,Ak l (k+1) _ (by simp;omega)];congr 1;simp only[LO,Array.toList_setIfInBounds,Jr];rw[List.drop_set_of_lt zo,List.take_succ_eq_append_getElem (by simp;omega),List.take_set_of_le (JH _)];simp[KW,Nat.add_comm 1]
theorem BZ(pl:Array (Nat×Nat))(us cells:Array ix)(hp:pl[0]? = some (0,us.size))(hs:us.size<=cells.size):LQ (pl[·]?) cells [(0,.agg us)]=some (us.toList++cells.toList.drop us.size).toArray:=by
 have hc:(Value.agg us).cells=us:=rfl;have a0:¬(us.size≠us.size\/0+us.size>cells.size):=zo;simp only[LQ,hp,hc];rw[if_neg (by simp;omega)];have:=Ak us.toList 0 cells (by simpa using hs);rw[<-Array.foldl_toList,Array.toList_zipIdx];simpa using this
end Go.VL
namespace Go.Proofs.YtlehnbkknlpkbaaGreatDoor
open Go.VL Go.Proofs
set_option maxRecDepth 10000
theorem ID:cV JF 116 #[(0,17),(17,1),(18,1),(19,1),(20,2),(22,1)]:=⟨_,underlying116,fun w=>by kernel_rfl⟩
def ed(t:TabM):RunS:=⟨stL t 0 36,[],false,(0,false),false⟩
theorem vq{t:TabM}(ho:OkT t):OkS t (ed t):=⟨(ho.lN ho.lp zd).2,fun x hx=>(by cases hx),(by show 0<36;decide),(by show 0<=1000000;decide)⟩
theorem jF(B:Nat)(O:Nat->Nat)(w:la)(i j:Nat)(t:TabM)(gv:ix)(lc rc:List ix)(d5:Kj w gv t.groups)(c9:PartV w lc t.left t.lt)(c8:PartV w rc t.right t.rt)(d7:FreeL O w (gv::(lc++rc)))(hi:i≠0)(hj:j≠0)(d3:i≠j)(e2:i<1000)(ho:OkT t)(d1:gk t=true)(hR:KF B O w):
  KN JF 19 [.agg (dq t.ig t.kp t.br t.rules gv lc rc).toArray] w fun v w'=>∃O' rb,v=nP rb/\RunO O' w' i j rb t gv lc rc (nS) (ed t)/\Jw (fun q=>q=i\/q=1000) O w O' w'/\KF B O' w':=by
 have hz:¬(0=i\/0=1000):=zo;obtain⟨ll,lo⟩:=c9.one;obtain⟨rl,ro⟩:=c8.one;have a0:(dq t.ig t.kp t.br t.rules gv lc rc).length=17:=by simp[ll,rl]
 refine Gi func19 ntmps19 rfl rfl ?_;refine zh ?_
 refine aE hR 1000 zo rfl rfl ?_;intro db w1 O1 a8 d0 e0 c5;have b5:=d7.upd d0;have a5:=d5.ext c5;have a4:=c9.ext c5;have a3:=c8.ext c5;refine zh ?_
 refine zv (ai (us:=dq t.ig t.kp t.br t.rules gv lc rc) a8.cellsAdd (KK _) (by rw[a0];exact JO _) rfl) ?_;refine zc call12 (sT t _ w1 ⟨gv,lc,rc,rfl,a5,a4,a3⟩) ?_
 rintro _ w2 ⟨rfl,b1⟩;have b0:=aa (S:=fun _=>False) (fun h=>h) O1 b1;have a7:=a8.upd b0 zd (fun h=>h);have b4:=b5.upd b0;have d':=e0.upd b0;rw[d1];refine zh ?_;refine zFH rfl rfl ?_;refine zv (ai (us:=dq t.ig t.kp t.br t.rules gv lc rc) a7.cellsAdd (KK _) (by rw[a0];exact JO _) rfl) ?_;refine zv (Kb (cells:=(po t gv lc rc (nS) ⟨0,[],false,(0,false),false⟩).toArray) ID (zeroValue116 _) rfl (by rw[BZ _ _ _ (by rw[Kx,a0];rfl) (by rw[Kx,a0];decide),Kx,a0];rfl)) ?_;refine aE d' i zo rfl rfl ?_;intro rb w3 O3 b2 b9 d9 b';have b3:=b4.upd b9;have h3:RunO O3 w3 i j rb t gv lc rc (nS) ⟨0,[],false,(0,false),false⟩:=⟨b2,WinO.nil _ _ _ _ _ _,a5.ext (b1.trans b'),a4.ext (b1.trans b'),a3.ext (b1.trans b'),b3⟩
 have a6:=a7.upd b9 zd zo;have a9:=xw (t:=t) a6 h3.groups h3.left h3.right;refine zh ?_;obtain⟨c',d6⟩:=ho.gN (c:=36) zd;obtain⟨d2,e1⟩:=ho.lN ho.lp (c:=36) zd;have e3:=ho.gl;have d4:w3.drew.cell? (nA db 4)=some gv:=a9.c4;have c7:∀(j:Nat) (u:ix),lc[j]? = some u->w3.drew.cell? ((nA db 5).add j)=some u:=a9.cl;have dg:w3.drew.cell? (adr gv 1 36)=some (nI ((grT t 36:Nat):Int)):=by have:=a9.groups.cell (i:=36) (j:=0) zo rfl;rw[ao,c']at this;exact this
 refine aI (fun W=>W.cell? (nA db 4)=some gv/\W.cell? (adr gv 1 36)=some (nI ((grT t 36:Nat):Int))/\(∀(j:Nat) (u:ix),lc[j]? = some u->W.cell? ((nA db 5).add j)=some u)) 11 rfl zk ?_;refine zin ⟨d4,dg,c7⟩ fun zS=>?_
 refine zrm 0 rfl zS rfl ?_;refine zrf 1 rfl zS rfl ?_
 refine zt 2 rfl zS (fun w1 a2=>ai (us:=lc) a2.2.2 (KL _) (by rw[ll];exact JY _) rfl) ?_;refine zrf 3 rfl zS rfl ?_
 refine zt 4 rfl zS (fun w1 a2=>RV.ld a2.1 rfl) ?_;refine zr 5 rfl zS (fun _=>ah a9.groups.sh JT (Kw _) rfl rfl 36 rfl zo) ?_
 refine zt 6 rfl zS (fun w1 a2=>RV.ld a2.2.1 rfl) ?_;refine Gh 7 zk rfl ?_
 refine zc LZ (kf lc t.left t.lt 0 (grT t 36) w3.drew (a9.left.ext (ln w3).drew) ho.okl ho.lp d6) ?_;rintro _ w5 ⟨rfl,a1⟩;rw[d2];refine zh ?_
 refine af (⟨a1.cell d4,a1.cell dg,fun j u hu=>a1.cell (c7 j u hu)⟩) ?_;have a':=aa (S:=fun _=>False) (fun h=>h) O3 ((ln w3).drew.trans a1);have h5:=h3.upd a' hi hj (fun h=>h) (fun h=>h);have b7:=a6.upd a' zd (fun h=>h);have d8:=d9.upd a';refine zin (⟨a1.cell d4,a1.cell dg,fun j u hu=>a1.cell (c7 j u hu)⟩) fun zS=>?_
 refine zr 8 rfl zS (fun _=>aq rfl) ?_;refine zrf 9 rfl zS rfl ?_
 refine Gh 10 zk rfl ?_;refine ak (j:=17) h5.blk (h5.at_ 0 rfl) (Kw _) rfl rfl rfl rfl ?_
 obtain⟨h6,b8⟩:=h5.store hi hj d3 0 (nI ((stL t 0 36:Nat):Int)) (wv':=nS) (s':=ed t) rfl h5.win;have b6:=b7.upd b8 zd zo;have c6:=xw (t:=t) b6 h6.groups h6.left h6.right;have q1:(w5.setCell ⟨rb,17+0,none⟩ (nI ((stL t 0 36:Nat):Int))).cell? (adr gv 1 36)=some (nI ((grT t 36:Nat):Int)):=by have:=c6.groups.cell (i:=36) (j:=0) zo rfl;rw[ao,c']at this;exact this
 refine zh ?_;refine af (⟨c6.c4,q1,c6.cl⟩) ?_
 refine Ju zk ?_;refine zh ?_
 refine ae rfl rfl (⟨O3,rb,rfl,h6,(((d0.mono (fun _ h=>zo) hz).trans (b0.mono (fun _ h=>h.elim) hz)).trans (b9.mono (fun _ h=>zo) hz)).trans ((a'.mono (fun _ h=>h.elim) hz).trans (b8.mono (fun _ h=>zo) hz)),d8.upd b8⟩)
end Go.Proofs.YtlehnbkknlpkbaaGreatDoor
end
section
namespace Go.VL
open Go.Proofs
section
variable{P:Lc}{N:Nat}{ops:Array Ma}{Q:Exit→Act→la→Prop}{rest:List Ma}{st:St}{w:la}
variable{t:JW}{p:String}{e:Array Edge}{d:Nat}{x:LG}
theorem oU{T E:JW}{sz a0:Nat}(he:Mc P T E sz a0){α:Type}{enc:α->List ix}(u:α){B:Nat}{O:Nat->Nat}(r:KF B O w)(i:Nat)(a6:i≠0){xv:ix}(hx:ev st x=some xv)(a2:xv.cells.toList=enc u)(a3:(enc u).length=sz)(hs:sz<=16777216)(hd:Mh d N=true) 
  (h:∀v w' O',K4 enc E sz O' w' i v [u]->Jw (fun k=>k=i) O w O' w'->KF B O' w'->WL P N ops Q rest ((d,v)::st) w'):WL P N ops Q (⟨some d,.buildSlice T 1 #[(0,x)],t,p,e,none⟩::rest) st w:=by
 obtain⟨a4,z,hi,hz,a1,a9,a8⟩:=he.parts;have a7:xv.cells.size=sz:=by rw[<-a3,<-a2];simp
 have a5:=he.pos;have u1:=Upd.alloc (S:=fun k=>k=i) (fun e=>a6 e.symm) r (.cells xv.cells E) i;refine WL.val (v:=.slice (some ⟨w.heap.size,0,none⟩) 1 1) (w':=w.alloc (.cells xv.cells E)) hd (fun a ha=>?_) (h _ _ (lJ O w.heap.size i) ⟨⟨?_,fun g hg=>?_⟩,fun c hc=>by rw[ka.1 hc];exact a3⟩ u1 (r.upd u1))
 ·have:=run_buildSlice (P:=P) w T E 1 #[(0,xv)] xv.cells a4 z he.ht hi hz (by rw[a1];omega) (by rw[a1];omega) (by
   rw[a1]
   exact kR a7 (by simp))
  simp only[execOp,Li,KV,LH,ha.ev hx,LK,this,L8];rfl
 ·have:=World.ownsRow_lit (base:=0) (size:=sz) (e:=E) w xv.cells 1 (IJ _) (by simp[maxLen]) zo;simpa[a2]using this
 simp[Lp]at hg;subst hg;exact eB _ _ _
end
end Go.VL
namespace Go.Proofs.YtlehnbkknlpkbaaGreatDoor
open Go.VL Go.Proofs
set_option maxRecDepth 10000
def aK(t:TabM)(s:RunS)(ids:List Int):RunS:=ids.foldl (fun s id=>nT t s (aJ id)) s
theorem A2(t:TabM)(s:RunS)(c:Nat):(nT t s c).wait.length<=s.wait.length+1/\(nT t s c).closed=s.closed:=by
 unfold nT
 split<;>simp
def oN(t:TabM)(ids:List Int):List Bool:=true::closeL t (aK t (ed t) ids).wait (aK t (ed t) ids).row++if 0<ids.length then [true]else []
theorem PartV.free0{w:la}{cs:List ix}{p:Lt}{tl:List Nat}(h:PartV w cs p tl):FreeL (fun _=>0) w cs:=fun v hv=>by
 obtain⟨uv,bv,kv,nv,tv,rfl,h1,h2,h3,h4,h5⟩:=h;simp only[Gc,J7,or_false]at hv
 rcases hv with rfl|rfl|rfl|rfl|rfl|rfl
 ·exact fun a n c e=>by cases e
 ·exact h1.free0 (fun x=>by simp)
 ·exact h2.free0 (fun x=>by simp)
 ·exact h3.free0 (fun x=>by simp)
 ·exact h4.free0 (fun x=>by simp)
 exact h5.free0 (fun x=>by simp)
theorem oM{w:la}(h:eF w):G5<w.heap.size:=by
 have:=h 0 zd;refine Md fun hn=>?_
 simp[World.cell?,Array.getElem?_eq_none (show w.heap.size<=0 from Nat.le_of_not_lt hn)]at this
theorem nz{w:la}{t:TabM}{gv:ix}{lc rc:List ix}(a2:Kj w gv t.groups)(a1:PartV w lc t.left t.lt)(a0:PartV w rc t.right t.rt):FreeL (fun _=>0) w (gv::(lc++rc)):=fun v hv=>by
 rcases Gc.1 hv with rfl|hv
 ·exact a2.free0 (fun x=>by simp)
 rcases J5.1 hv with hv|hv
 ·exact a1.free0 v hv
 exact a0.free0 v hv
end Go.Proofs.YtlehnbkknlpkbaaGreatDoor
end
namespace Go.Proofs.YtlehnbkknlpkbaaGreatDoor
theorem sj(ts:List R3):∀i,iE ts i<2^i
 |0=>by unfold iE;decide
 |i+1=>by
  have h1:iE ts i<2^(i+1):=Ku (sj ts i) (Ko zd (Nat.le_succ i));unfold iE
  split
  ·exact JE h1 (JG zd (Nat.lt_succ_self i))
  exact h1
theorem CN{g:Gr}{n:Nat}(he:∀k,g.en k<=n)(s:List Int):dp g s<2^n:=by
 have a0:∀(s:List Int) (b:Nat),b<2^n->s.foldl (fun b p=>b ||| jD g p.toNat) b<2^n:=fun s=>by
  induction s with
  |nil=>exact fun b hb=>hb
  |cons p s ih=>exact fun b hb=>ih _ (JE hb (ke he _ 0 (Lu n)))
 exact a0 s 0 (Lu n)
theorem sX{se:Bool}{ts:List Nd}{d:List (List Nat)×List Nat}(h:stM se ts=some d):∀q∈d.2,q<2^ts.length:=fun q hq=>by
 unfold stM at h
 split at h
 ·obtain⟨S,hS⟩:=oE h;obtain⟨j,hj,rfl⟩:=cI hq;rw[hS.tel j (by rw[<-hS.tl];exact hj)];exact CN (A9 ts) _
 cases h
theorem od{rows:List (List Nat)}{a0:List Nat}(hr:JC rows a0)(cl:Nat->Nat){n:Nat}(h:∀q∈a0,q<2^n):∀q∈(aU cl rows a0).2,q<2^n:=fun q hq=>by
 obtain⟨F,hF⟩:=gx (cl:=cl) (tl:=nth a0) hr.nx (rows.length+1) 0 [0] [] [] (nt hr.pos) zo;obtain⟨j,hj,rfl⟩:=cI hq;have a1:j<F.length:=by have:=hF.tln;change j<(fS _ _ _ _ _ _ _ _).2.length at hj;omega
 have ht:nth (aU cl rows a0).2 j=nth a0 (nth F j):=hF.tel j a1;rw[ht];have:=hF.reps.lt _ (aO a1);exact h _ (aO (by rw[hr.tl];exact this))
theorem Fl{a b:Nat}(ha:a<65536)(hb:b<65536)(h1:JK (a / 256)=JK (b / 256))(h2:JK (a % 256)=JK (b % 256)):a=b:=by
 have e1:=congrArg LD h1;have e2:=congrArg LD h2;simp only[UInt8.toNat_ofNat']at e1 e2;omega
theorem xi{i j:Nat}:∀(rows:List (List Nat)),(∀r∈rows,nth r i<65536/\nth r j<65536)->qA rows i=qA rows j->∀r∈rows,nth r i=nth r j
 |[],_,_=>fun r hr=>by cases hr
 |a::l,h,he=>by
  have e:[JK (nth a i / 256),JK (nth a i % 256)]++qA l i=[JK (nth a j / 256),JK (nth a j % 256)]++qA l j:=he;simp only[Lk,KI,Mb]at e;obtain⟨e1,e2,e3⟩:=e;have ha:=h a (by simp);intro r hr
  rcases Gc.1 hr with rfl|hr
  ·exact Fl ha.1 ha.2 e1 e2
  exact xi l (fun r hr=>h r (by simp[hr])) e3 r hr
theorem DE{A B:List (List Nat)}{i j:Nat}(hA:∀r∈A,nth r i<65536/\nth r j<65536)(hB:∀r∈B,nth r i<65536/\nth r j<65536)(h:oH [A,B] i=oH [A,B] j):(∀r∈A,nth r i=nth r j)/\∀r∈B,nth r i=nth r j:=by
 have h:qA A i++(qA B i++[])=qA A j++(qA B j++[]):=h;rw[J0,J0]at h;obtain⟨h1,h2⟩:=Lr h (by rw[kX,kX]);exact⟨xi A hA h1,xi B hB h2⟩
structure PartI(g:List Nat)(many n:Nat)(rows:List (List Nat))(p:Lt):Prop where
 right:de p=true
 us:p.usual.length=rows.length
 wd:p.width=(many:Int)
 get:∀r,r<rows.length->∀c,c<37->getM p r (nth g c)=((nxD rows r c:Nat):Int)
 lo:∀r,r<rows.length->∀k,k<many->0<=getM p r k/\getM p r k<rows.length
theorem xZ{g:List Nat}{many:Nat}(hg:GrpI g many){rows:List (List Nat)}{a6:List Nat}(hr:JC rows a6)(hc:∀i j,i<37->j<37->nth g i=nth g j->∀r∈rows,nth r i=nth r j):PartI g many rows.length rows (dH g many rows):=by
 have a2:=pX hg hr;have a8:=hg.le;have a7:(kA g many rows).length=rows.length:=by simp[kA]
 have a5:∀r,r<rows.length->nth (kA g many rows) r=ints (px g many (nth rows r)):=fun r a0=>by
  unfold kA;rw[dI (by simpa using a0),dI a0]
 have a3:∀r,r<rows.length->(nth (kA g many rows) r).length=many:=fun r a0=>by rw[a5 r a0];simp[nf]
 obtain⟨s1,_,_,_,s5,_⟩:=qb (many:Int) (kA g many rows) (fun r a0=>by
  obtain⟨j,hj,rfl⟩:=cI a0
  rw[a3 j zo];omega)
 have a1:∀r,r<rows.length->∀k,k<many->getM (dH g many rows) r k=((nth (px g many (nth rows r)) k:Nat):Int):=fun r a0 k hk=>by
  unfold dH;rw[BK _ _ r k zo (by rw[a3 r a0];exact hk),a5 r a0,dI (by rw[nf];exact hk)]
 refine⟨vw _ _ a2,by show(lI _ _).usual.length=_;rw[s1];simpa using a7,s5,fun r a0 c a4=>?_,fun r a0 k hk=>?_⟩
 ·rw[a1 r a0 _ (hg.lt c a4),vI hg (fun i j hi hj e=>hc i j hi hj e _ (aO a0)) a4];rfl
 rw[a1 r a0 k hk];obtain⟨i,hi,rfl⟩:=hg.hit k hk;rw[vI hg (fun i j hi hj e=>hc i j hi hj e _ (aO a0)) hi];have:=(hr.row r a0).2 i hi;omega
theorem FY{l:List Int}{n:Int}(h:∀x∈l,x<n)(h0:nth l 0<n):FZ l<n:=by
 have a0:∀(l:List Int) (m:Int),(∀x∈l,x<n)->m<n->l.foldl max m<n:=fun l=>by
  induction l with
  |nil=>exact fun m _ hm=>hm
  |cons a l ih=>exact fun m h hm=>ih _ (fun x hx=>h x (by simp[hx])) (by have:=h a (by simp);omega)
 exact a0 l _ h h0
theorem yv{g:List Nat}{many n rules:Nat}{rows:List (List Nat)}{a4:List Nat}{p:Lt}(hp:PartI g many n rows p)(hm:1<=many)(hr:JC rows a4)(ht:∀q∈a4,q<2^rules):kQ p a4 many rules=true:=by
 obtain⟨f1,f2⟩:=qv p;have a8:=hr.pos;have a7:=hr.tl;have a6:=hp.us;unfold kQ;rw[hp.right,hp.wd,f1,a6,a7];have a1:jc (fun i=>!(nth a4 i / 2^rules==0)) rows.length=false:=bz.2 fun i hi=>by
  rw[Ka (ht _ (aO zo))];rfl
 have a2:jc (fun i=>decide (((rows.length:Nat):Int)<=FZ (nth (gj p) i))) rows.length=false:=bz.2 fun i hi=>by
  have a0:nth (gj p) i=CF p i:=by unfold gj;rw[gp _ _ _ zo]
  have a5:p.width.toNat=many:=by rw[hp.wd];rfl
  have a3:∀k,k<many->nth (CF p i) k<rows.length:=fun k hk=>by
   unfold CF;rw[a5,aB (xs:=List.map (getM p i) (J9 many)) (by simpa using hk),JS,JL];exact(hp.lo i hi k hk).2
  refine decide_eq_false (Int.not_le.2 (FY (fun x hx=>?_) ?_))
  ·rw[a0]at hx;obtain⟨k,hk,rfl⟩:=cI hx;exact a3 k (by unfold CF at hk;rw[a5]at hk;simpa using hk)
  rw[a0];exact a3 0 hm
 have h0:(rows.length==0)=false:=beq_eq_false_iff_ne.2 zo;rw[a1,a2,h0];simp
structure TabI(t:TabM)(A B:List (List Nat)×List Nat):Prop where
 right:gk t=true
 ok:OkT t
 left:∀r c,r<A.1.length->c<37->stL t r c=nxD A.1 r c
 rght:∀r c,r<B.1.length->c<37->stR t r c=nxD B.1 r c
 ll:t.left.usual.length=A.1.length
 rl:t.right.usual.length=B.1.length
theorem Fp{li lk:List Int}{ts:List R3}{A B:List (List Nat)×List Nat}(a8:dE li lk ts=true)(hA:JC A.1 A.2)(hB:JC B.1 B.2)(tA:∀q∈A.2,q<2^ts.length)(tB:∀q∈B.2,q<2^ts.length):TabI (nC li lk ts A B) A B:=by
 obtain⟨r1,r2,r3,r4⟩:=eo a8;obtain⟨many,hg,a5⟩:=qq [A.1,B.1];have a2:=hg.pos;have b0:=hg.le;have a4:=hg.len;have a3:∀ {rows:List (List Nat)} {a7:List Nat},JC rows a7->∀i,i<37->∀r∈rows,nth r i<65536:=fun {rows a7} h i hi r hr=>by
  obtain⟨j,hj,rfl⟩:=cI hr;have h1:=(h.row j hj).2 i hi;have h2:=h.le;omega
 have hc:∀i j,i<37->j<37->nth (bJ [A.1,B.1]) i=nth (bJ [A.1,B.1]) j->(∀r∈A.1,nth r i=nth r j)/\∀r∈B.1,nth r i=nth r j:=fun i j hi hj e=>
  DE (fun r hr=>⟨a3 hA i hi r hr,a3 hA j hj r hr⟩) (fun r hr=>⟨a3 hB i hi r hr,a3 hB j hj r hr⟩) ((a5 i j hi hj).1 e)
 have a1:=hg.cnt;have iL:=xZ hg hA (fun i j hi hj e=>(hc i j hi hj e).1);have iR:=xZ hg hB (fun i j hi hj e=>(hc i j hi hj e).2);have fL:=yv iL a2 hA tA;have fR:=yv iR a2 hB tB;have e1:(nC li lk ts A B).left=dH (bJ [A.1,B.1]) many A.1:=by rw[sU,a1]
 have e2:(nC li lk ts A B).right=dH (bJ [A.1,B.1]) many B.1:=by rw[pS,a1]
 have e3:(nC li lk ts A B).groups=ints (bJ [A.1,B.1]):=rfl;have gr:∀c,c<37->nth (nC li lk ts A B).groups c=((nth (bJ [A.1,B.1]) c:Nat):Int):=fun c hc=>by rw[e3,dI zo]
 have gt:∀c,c<37->grT (nC li lk ts A B) c=nth (bJ [A.1,B.1]) c:=fun c hc=>by unfold grT;rw[gr c hc];rfl
 have a6:∀q:Nat,q<2^ts.length->q<2^40:=fun q hq=>Ku hq (Ko zd r1)
 have a':=hA.tl;have a9:=hB.tl;have pA:=hA.pos;have pB:=hB.pos;refine⟨?_,⟨okP _ (by rw[e1];exact iL.right),okP _ (by rw[e2];exact iR.right),by rw[e3];simpa using a4,fun c a0=>?_,by rw[e1,iL.us];exact a',by rw[e2,iR.us];exact a9,by rw[e1,iL.us];exact pA,by rw[e2,iR.us];exact pB,fun r c hr a0=>?_,fun r c hr a0=>?_,nK r2,nK r3,a6 _ (sj ts _),fun q hq=>a6 q (tA q hq),fun q hq=>a6 q (tB q hq)⟩,fun r c hr a0=>?_,fun r c hr a0=>?_,by rw[e1,iL.us],by rw[e2,iR.us]⟩
 ·unfold gk;have q1:(nC li lk ts A B).ig / 2^36=0:=Ka (nK r2);have q2:(nC li lk ts A B).kp / 2^36=0:=Ka (nK r3);have q3:(nC li lk ts A B).rules.toNat=ts.length:=rfl;have q4:(nC li lk ts A B).br / 2^ts.length=0:=Ka (sj ts _);have q5:iq (nC li lk ts A B).groups=many:=by rw[e3,a1]
  have q6:(nC li lk ts A B).rules=(ts.length:Int):=rfl;rw[q1,q2,q3,q4,q5,q6,e1,e2,AE,AD,fL,fR,decide_eq_false zo,decide_eq_false zo,beq_eq_false_iff_ne.2 zo];rfl
 ·rw[gr c a0];have:=hg.lt c a0;omega
 ·rw[e1]at hr ⊢;rw[iL.us]at hr ⊢;rw[gt c a0,iL.get r hr c a0];have:=(hA.row r hr).2 c a0;unfold nxD;omega
 ·rw[e2]at hr ⊢;rw[iR.us]at hr ⊢;rw[gt c a0,iR.get r hr c a0];have:=(hB.row r hr).2 c a0;unfold nxD;omega
 ·unfold stL;rw[e1,gt c a0,iL.get r hr c a0];rfl
 unfold stR;rw[e2,gt c a0,iR.get r hr c a0];rfl
theorem CW(rows:List (List Nat))(u v:List Nat)(q:Nat):jj rows (u++v) q=jj rows v (jj rows u q):=K5
theorem Bo{rows:List (List Nat)}{a0:List Nat}{cl:Nat->Nat}(hr:JC rows a0)(a4:Cls cl (rows,a0)):∃F,LI cl (nxD rows) (nth a0) rows.length F.length F (aU cl rows a0).1 (aU cl rows a0).2/\
  ∀(w:List Nat),(∀m∈w,m<37)->∀p q,p<F.length->q<rows.length->cl (nth F p)=cl q->jj (aU cl rows a0).1 w p<F.length/\jj rows w q<rows.length/\cl (nth F (jj (aU cl rows a0).1 w p))=cl (jj rows w q):=by
 obtain⟨F,hF⟩:=gx (cl:=cl) (tl:=nth a0) hr.nx (rows.length+1) 0 [0] [] [] (nt hr.pos) zo;refine⟨F,hF,fun w=>?_⟩;have a6:LI cl (nxD rows) (nth a0) rows.length F.length F (aU cl rows a0).1 (aU cl rows a0).2:=hF;generalize aU cl rows a0=L at *
 induction w with
 |nil=>exact fun _ p q hp hq he=>⟨hp,hq,he⟩
 |cons m w ih=>
  intro hw p q hp hq he;have hm:=hw m (by simp);obtain⟨a1,a2⟩:=(a6.row p hp).2 m hm;have a5:=a6.reps.lt _ (aO hp);have a3:=hr.nx q m hq hm;have a7:Alike (nxD rows) (nth a0) (nth F p) q:=(a4 _ _ a5 hq).1 he;exact ih (fun x hx=>hw x (by simp[hx])) _ _ a1 a3 (a2.trans ((a4 _ _ (hr.nx _ m a5 hm) a3).2 (a7.step hm)))
theorem sO{se:Bool}{ts:List Nd}{a:List (List Nat)×List Nat}{cl:Nat->Nat}(h:stM se ts=some a)(hs:bR ts=true)(hr:JC a.1 a.2)(a1:Cls cl a)(w:List Nat)(hw:∀m∈w,m<37):
  jj (aU cl a.1 a.2).1 w 0<(aU cl a.1 a.2).1.length/\∀i,(nth (aU cl a.1 a.2).2 (jj (aU cl a.1 a.2).1 w 0)).testBit i=true↔i<ts.length/\∃u v,ints w=u++v/\(se=true\/u=[])/\Lg (nth ts i) v:=by
 obtain⟨F,hF,a0⟩:=Bo (cl:=cl) hr a1;obtain⟨c1,c2,c3⟩:=a0 w hw 0 0 hF.p0 hr.pos (by rw[hF.fst]);refine⟨by rw[hF.rl];exact c1,fun i=>?_⟩;have hd:DC (cM se (jZ ts)) (dp (jZ ts))=some a:=by
  unfold stM at h
  split at h
  ·exact h
  cases h
 obtain⟨S,hS⟩:=oE hd;obtain⟨s1,s2⟩:=xT hS w hw 0 hS.p0;have a3:=(a1 _ _ (hF.reps.lt _ (aO c1)) c2).1 c3;have a2:nth (aU cl a.1 a.2).2 (jj (aU cl a.1 a.2).1 w 0)=nth a.2 (jj a.1 w 0):=by
  rw[hF.tel _ c1];exact a3 [] (fun m hm=>by cases hm)
 have a4:w.foldl (fun s (m:Nat)=>cM se (jZ ts) s (m:Int)) (nth S 0)=CE (cM se (jZ ts)) (ints w):=by
  unfold CE;rw[hS.fst,List.foldl_map]
 rw[a2,hS.tel _ s1,s2,a4];exact yS hs (nF se (jZ ts)) (ints w) i
theorem yf:∀(l:List Nd) (s:Bool) (a0:Int),0<=a0->0<=cD s a0 l->a0<=cD s a0 l
 |[],_,a0,_,_=>by unfold cD;exact K7 _
 |t::r,s,a0,h0,h=>by
  unfold cD at h ⊢
  split at h
  ·omega
  rename_i hn;rw[if_neg hn];have a1:a0<=if s=true then a0+bX t else max a0 (bX t):=by split<;>omega
  exact Int.le_trans a1 (yf r s _ zo h)
mutual
theorem vP:∀(t:Nd) (w:List Int),Lg t w->0<=bX t->(w.length:Int)<=bX t
 |.mk k c l,w,h,h0=>by
  unfold bX at h0 ⊢
  unfold Lg at h
  by_cases h67:k=6\/k=7
  ·rw[if_pos h67]at h0;omega
  rw[if_neg h67]at h0 ⊢
  by_cases h9:k=9
  ·subst h9
   simp at h
   rw[if_pos rfl,h];exact K7 _
  rw[if_neg h9]at h0 ⊢
  by_cases h4:k=4
  ·subst h4
   simp at h
   rw[if_pos (.inl rfl)]at h0 ⊢
   have:=yg l w 0 h (K7 _) h0
   simpa using this
  by_cases h5:k=5
  ·subst h5
   simp at h
   rw[if_pos (.inr (.inl rfl))]at h0 ⊢
   exact rM l w 0 h (K7 _) h0
  by_cases h8:k=8
  ·subst h8
   simp at h
   rw[if_pos (.inr (.inr rfl))]at h0 ⊢
   rcases h with rfl|h
   ·exact h0
   exact rM l w 0 (by
    cases l with
    |nil=>exact h.elim
    |cons t r=>exact .inl h) (K7 _) h0
  have h6:¬k=6:=fun e=>h67 (.inl e)
  have h7:¬k=7:=fun e=>h67 (.inr e)
  rw[if_neg h4,if_neg h5,if_neg h6,if_neg h7,if_neg h8,if_neg h9]at h
  obtain⟨m,rfl,_⟩:=h
  rw[if_neg zo]
  exact K7 _
theorem yg:∀(l:List Nd) (w:List Int) (acc:Int),Mp l w->0<=acc->0<=cD true acc l->acc+w.length<=cD true acc l
 |[],w,acc,h,_,_=>by
  unfold Mp at h
  subst h
  unfold cD
  simp
 |t::r,w,acc,h,ha,h0=>by
  unfold Mp at h
  unfold cD at h0 ⊢
  obtain⟨u,v,rfl,hu,hv⟩:=h
  split at h0
  ·omega
  rename_i hn
  rw[if_neg hn]
  rw[if_pos rfl]at h0 ⊢
  have h1:=vP t u hu zo
  have h2:=yg r v _ hv zo h0
  rw[Jp]
  omega
theorem rM:∀(l:List Nd) (w:List Int) (acc:Int),Mi l w->0<=acc->0<=cD false acc l->(w.length:Int)<=cD false acc l
 |[],w,acc,h,_,_=>by unfold Mi at h;exact h.elim
 |t::r,w,acc,h,ha,h0=>by
  unfold Mi at h
  unfold cD at h0 ⊢
  split at h0
  ·omega
  rename_i hn
  rw[if_neg hn]
  rw[if_neg zd]at h0 ⊢
  rcases h with h|h
  ·have h1:=vP t w h zo
   have h2:=yf r false (max acc (bX t)) zo h0
   omega
  exact rM r w _ h zo h0
end
theorem Dn{t:Nd}(h:da t=0){w:List Int}(hw:Lg t w):w.length<=4:=by
 unfold da at h
 split at h
 ·omega
 split at h
 ·omega
 rename_i hn;simp only[KJ,not_or,Ld,decide_eq_true_eq]at hn;obtain⟨h1,h2⟩:=hn;have hb:tL t=true:=by simpa using h1
 have a0:=hb;unfold tL at a0;rw[Js]at a0;have h3:=of_decide_eq_true a0.2;have h4:=vP t w hw h3;unfold tK at h2;rw[if_pos a0.1]at h2;omega
def ff:List En->List Nat
 |[]=>[]
 |(c,h)::r=>if h=true then ff r else c::ff r
theorem Fk{l:List En}{n:Nat}(h:∀x∈l,x.1<n):∀m∈ff l,m<n:=by
 induction l with
 |nil=>exact fun m hm=>by cases hm
 |cons x r ih=>
  obtain⟨c,hd⟩:=x;intro m hm;unfold ff at hm
  split at hm
  ·exact ih (fun y hy=>h y (by simp[hy])) m hm
  rcases Gc.1 hm with rfl|hm
  ·exact h (m,hd) (by simp)
  exact ih (fun y hy=>h y (by simp[hy])) m hm
theorem vo{t:TabM}{A B:List (List Nat)×List Nat}(hI:TabI t A B)(hB:JC B.1 B.2)(i:Nat):∀(l:List En) (row a0 told:Nat),(∀x∈l,x.1<36)->row<B.1.length->a0<=4->
  ((rwL t l row a0 told).testBit i=true↔told.testBit i=true\/∃k,0<k/\k<=(ff l).length/\a0+k<=4/\(nth t.rt (jj B.1 ((ff l).take k) row)).testBit i=true)
 |[],row,a0,told,_,_,_=>by
  unfold rwL ff
  constructor
  ·exact .inl
  rintro(h|⟨k,h1,h2,_⟩)
  ·exact h
  simp at h2;omega
 |(c,hd)::r,row,a0,told,hc,hrow,hseen=>by
  have a1:∀x∈r,x.1<36:=fun x hx=>hc x (by simp[hx])
  have a3:c<36:=hc (c,hd) (by simp);unfold rwL ff
  by_cases hh:hd=true
  ·rw[if_pos hh,if_pos hh];exact vo hI hB i r row a0 told a1 hrow hseen
  rw[if_neg hh,if_neg hh]
  by_cases h4:a0=4
  ·rw[if_pos h4]
   constructor
   ·exact .inl
   rintro(h|⟨k,h1,_,h3,_⟩)
   ·exact h
   omega
  have a2:=hI.rght row c hrow zo;have hn:=hB.nx row c hrow zo;rw[if_neg h4,a2,vo hI hB i r _ _ _ a1 hn zo,LB,KJ]
  constructor
  ·rintro((h|h)|⟨k,h1,h2,h3,h5⟩)
   ·exact .inl h
   ·exact .inr ⟨1,zd,by simp,zo,h⟩
   exact .inr ⟨k+1,zo,by simpa using h2,zo,h5⟩
  rintro(h|⟨k,h1,h2,h3,h5⟩)
  ·exact .inl (.inl h)
  cases k with
  |zero=>omega
  |succ k=>
   cases k with
   |zero=>exact .inl (.inr h5)
   |succ k=>exact .inr ⟨k+1,zo,by simpa using h2,zo,h5⟩
theorem yZ{t:TabM}{A B:List (List Nat)×List Nat}(hI:TabI t A B)(hB:JC B.1 B.2)(i:Nat)(l:List En)(hl:∀x∈l,x.1<36):
  (eE t l).testBit i=true↔∃k,k<=(ff l).length/\k<=4/\(nth t.rt (jj B.1 ((ff l).take k) 0)).testBit i=true:=by
 unfold eE;rw[vo hI hB i l 0 0 _ hl hB.pos zd]
 constructor
 ·rintro(h|⟨k,_,h2,h3,h4⟩)
  ·exact⟨0,IJ _,IJ _,h⟩
  exact⟨k,h2,zo,h4⟩
 rintro⟨k,h2,h3,h4⟩
 cases k with
 |zero=>exact .inl h4
 |succ k=>exact .inr ⟨k+1,zo,h2,zo,h4⟩
theorem DD{x:Nat}(h0:x≠0)(h:x<2^64):x.testBit (Kc 64 x)=true/\∀j,j<Kc 64 x->x.testBit j=false:=by
 obtain⟨m,e,_⟩:=Lib.ctzFrom_spec 64 x zo h;have hc:Kc 64 x=LW 64 x:=by unfold Kc;rw[if_neg h0]
 rw[hc];generalize LW 64 x=c at *;subst e;refine⟨?_,fun j hj=>?_⟩
 ·rw[KX,LP,decide_eq_true (JH c),Kr,Nat.testBit_zero];exact decide_eq_true zo
 rw[KX,decide_eq_false zo,Lw]
def jY(ts:List R3)(a0 after:List Nat)(i:Nat):Prop:=i<ts.length/\(∃u v,ints a0=u++v/\Lg (nth (nZ ts) i) v)/\∃u v,ints after=u++v/\Lg (nth (fM ts) i) u
def FirstR(ts:List R3)(a0 after:List Nat)(k:Int):Prop:=(k = -1/\∀i,¬jY ts a0 after i)\/∃i:Nat,k=i/\jY ts a0 after i/\∀j,j<i->¬jY ts a0 after j
theorem FirstR.uniq{ts:List R3}{b a:List Nat}{k k':Int}(h:FirstR ts b a k)(h':FirstR ts b a k'):k=k':=by
 rcases h with⟨rfl,h⟩|⟨i,rfl,h1,h2⟩<;>rcases h' with⟨rfl,h'⟩|⟨i',rfl,a0,a1⟩
 ·rfl
 ·exact absurd a0 (h i')
 ·exact absurd h1 (h' i)
 rcases Nat.lt_trichotomy i i' with h3|h3|h3
 ·exact absurd h1 (a1 i h3)
 ·rw[h3]
 exact absurd a0 (h2 i' h3)
theorem sZ{ts:List Nd}(h:∀t∈ts,bj t=true):bR ts=true:=by
 induction ts with
 |nil=>rfl
 |cons t r ih=>
  unfold bR;rw[(fO (h t (by simp))).2.1,ih (fun x hx=>h x (by simp[hx]))];rfl
structure Made(li lk:List Int)(ts:List R3)(a b:List (List Nat)×List Nat)(clA clB:Nat->Nat):Prop where
 rt:dE li lk ts=true
 sa:stM true (nZ ts)=some a
 sb:stM false (fM ts)=some b
 ra:JC a.1 a.2
 rb:JC b.1 b.2
 ca:Cls clA a
 cb:Cls clB b
abbrev bW(li lk:List Int)(ts:List R3)(a b:List (List Nat)×List Nat)(a1 a0:Nat->Nat):TabM:=nC li lk ts (aU a1 a.1 a.2) (aU a0 b.1 b.2)
section
variable{li lk:List Int}{ts:List R3}{a b:List (List Nat)×List Nat}{clA clB:Nat→Nat}
theorem Made.inv(h:Made li lk ts a b clA clB):TabI (bW li lk ts a b clA clB) (aU clA a.1 a.2) (aU clB b.1 b.2):=
 Fp h.rt (eT h.ra clA) (eT h.rb clB) (od h.ra clA (by have:=sX h.sa;rwa[J6]at this)) (od h.rb clB (by have:=sX h.sb;rwa[J6]at this))
theorem Made.rules(h:Made li lk ts a b clA clB):∀t∈ts,bj t.1=true/\bj t.2.1=true/\da t.2.1=0:=fun t ht=>by
 have:=(eo h.rt).2.2.2 t ht;unfold mP at this;simp only[Js,beq_iff_eq]at this;exact⟨this.1.1,this.1.2,this.2⟩
theorem Made.left(h:Made li lk ts a b clA clB)(w:List Nat)(hw:∀m∈w,m<37):jj (aU clA a.1 a.2).1 w 0<(aU clA a.1 a.2).1.length/\
  ∀i,(nth (aU clA a.1 a.2).2 (jj (aU clA a.1 a.2).1 w 0)).testBit i=true↔i<ts.length/\∃u v,ints w=u++v/\Lg (nth (nZ ts) i) v:=by
 have hs:bR (nZ ts)=true:=sZ fun t ht=>by
  obtain⟨x,hx,rfl⟩:=Jq.1 ht;exact(h.rules x hx).1
 obtain⟨h1,h2⟩:=sO h.sa hs h.ra h.ca w hw;refine⟨h1,fun i=>?_⟩;rw[h2 i,J6];exact and_congr_right fun _=>⟨fun⟨u,v,e,_,hv⟩=>⟨u,v,e,hv⟩,fun⟨u,v,e,hv⟩=>⟨u,v,e,.inl rfl,hv⟩⟩
theorem Made.right(h:Made li lk ts a b clA clB)(l:List En)(hl:∀x∈l,x.1<36)(i:Nat):(eE (bW li lk ts a b clA clB) l).testBit i=true↔i<ts.length/\∃u v,ints (ff l)=u++v/\Lg (nth (fM ts) i) u:=by
 have hs:bR (fM ts)=true:=sZ fun t ht=>by
  obtain⟨x,hx,rfl⟩:=Jq.1 ht;exact(h.rules x hx).2.1
 have hv:=Fk hl;rw[yZ h.inv (eT h.rb clB) i l hl];have a0:∀k,(nth (bW li lk ts a b clA clB).rt (jj (aU clB b.1 b.2).1 ((ff l).take k) 0)).testBit i=true↔i<ts.length/\Lg (nth (fM ts) i) (ints ((ff l).take k)):=fun k=>by
  have:=(sO h.sb hs h.rb h.cb ((ff l).take k) (fun m hm=>by have:=hv m (L5 hm);omega)).2 i;rw[J6]at this;refine this.trans (and_congr_right fun _=>⟨?_,fun hL=>⟨[],_,rfl,.inr rfl,hL⟩⟩);rintro⟨u,v,e,hu,hL⟩
  rcases hu with hu|rfl
  ·cases hu
  rw[e];exact hL
 constructor
 ·rintro⟨k,h1,h2,h3⟩;obtain⟨h4,h5⟩:=(a0 k).1 h3;exact⟨h4,ints ((ff l).take k),ints ((ff l).drop k),by unfold ints;rw[<-JJ,List.take_append_drop],h5⟩
 rintro⟨h1,u,v,e,h2⟩;have hi:i<(fM ts).length:=by rw[J6];exact h1
 have h4:u.length<=4:=Dn (by
  rw[dI h1]
  exact(h.rules _ (aO h1)).2.2) h2
 have a1:u.length<=(ff l).length:=by have:=congrArg Kk e;rw[Jp]at this;unfold ints at this;rw[J6]at this;omega
 refine⟨u.length,a1,h4,(a0 _).2 ⟨h1,?_⟩⟩;have:ints ((ff l).take u.length)=u:=by
  unfold ints at e ⊢;rw[List.map_take,e,List.take_left'];rfl
 rw[this];exact h2
theorem Made.which(h:Made li lk ts a b clA clB)(a0:List Nat)(hb:∀m∈a0,m<37)(s:RunS)(hs:OkS (bW li lk ts a b clA clB) s)(a2:s.row=jj (aU clA a.1 a.2).1 a0 0):FirstR ts a0 (ff s.wait) (cZ (bW li lk ts a b clA clB) s):=by
 have hl:=(h.left a0 hb).2;have hr:=h.right s.wait hs.wait;have hi:=h.inv;have a3:=nQ hi.ok hs;unfold cZ;have a4:(bW li lk ts a b clA clB).lt=(aU clA a.1 a.2).2:=rfl;rw[a4,a2];generalize eE (bW li lk ts a b clA clB) s.wait=R at *;generalize nth (aU clA a.1 a.2).2 (jj (aU clA a.1 a.2).1 a0 0)=L at *;have a1:∀i,(L &&& R).testBit i=true↔jY ts a0 (ff s.wait) i:=fun i=>by
  rw[Nat.testBit_and,Js,hl i,hr i];unfold jY;exact⟨fun⟨⟨h1,h2⟩,_,h3⟩=>⟨h1,h2,h3⟩,fun⟨h1,h2,h3⟩=>⟨⟨h1,h2⟩,h1,h3⟩⟩
 have a5:L &&& R<2^64:=Kv Lq (Nat.lt_trans a3 zd)
 split
 ·rename_i h0;exact .inl ⟨rfl,fun i hA=>by have:=(a1 i).2 hA;rw[h0]at this;simp at this⟩
 rename_i h0;obtain⟨c1,c2⟩:=DD h0 a5;exact .inr ⟨_,rfl,(a1 _).1 c1,fun j hj hA=>by have:=(a1 j).2 hA;rw[c2 j hj]at this;cases this⟩
end
theorem yD(ts:List R3)(i:Nat):∀n,(iE ts n).testBit i=(decide (i<n)&&(nth ts i).2.2)
 |0=>by unfold iE;simp
 |n+1=>by
  have ih:=yD ts i n;unfold iE
  by_cases hb:(nth ts n).2.2=true
  ·rw[if_pos hb,LB,ih,Nat.testBit_two_pow]
   by_cases e:n=i
   ·subst e;rw[hb];simp
   rw[decide_eq_false e,Bool.or_false];congr 1;exact decide_eq_decide.2 zo
  rw[if_neg hb,ih]
  by_cases e:n=i
  ·subst e;rw[show(nth ts n).2.2=false from by simpa using hb];simp
  congr 1;exact decide_eq_decide.2 zo
def brk(ts:List R3)(k:Int):Bool:=decide (k<0)||(nth ts k.toNat).2.2
theorem mX(l r:List En):ff (l++r)=ff l++ff r:=by
 induction l with
 |nil=>rfl
 |cons x l ih=>
  obtain⟨c,h⟩:=x
  cases h with
  |true=>exact ih
  |false=>exact congrArg (c :: ·) ih
section
variable{li lk:List Int}{ts:List R3}{a b:List (List Nat)×List Nat}{clA clB:Nat→Nat}
theorem Made.stepL(h:Made li lk ts a b clA clB)(x:En)(hx:x.1<36)(a0:List Nat)(hb:∀m∈a0,m<37):stepL (bW li lk ts a b clA clB) (jj (aU clA a.1 a.2).1 a0 0) x=jj (aU clA a.1 a.2).1 (a0++ff [x]) 0/\∀m∈a0++ff [x],m<37:=by
 obtain⟨c,hd⟩:=x;have a1:=(h.left a0 hb).1;unfold Go.Proofs.YtlehnbkknlpkbaaGreatDoor.stepL ff
 by_cases hh:hd=true
 ·rw[if_pos hh,if_pos hh];unfold ff;rw[J0];exact⟨rfl,hb⟩
 rw[if_neg hh,if_neg hh];unfold ff;refine⟨?_,fun m hm=>?_⟩
 ·rw[h.inv.left _ c a1 (by show c<37;simp at hx;omega),CW];rfl
 rcases J5.1 hm with hm|hm
 ·exact hb m hm
 rw[ka.1 hm];simp at hx;omega
theorem Made.passB(h:Made li lk ts a b clA clB)(l:List En)(x:En)(hl:∀y∈l,y.1<36)(hf:l.length<=1000000)(a0:List Nat)(hb:∀m∈a0,m<37):
  FirstR ts a0 (ff l) (cZ (bW li lk ts a b clA clB) (lF (jj (aU clA a.1 a.2).1 a0 0) l))/\
  Go.Proofs.YtlehnbkknlpkbaaGreatDoor.passB (bW li lk ts a b clA clB) (lF (jj (aU clA a.1 a.2).1 a0 0) l) x=(!x.2&&brk ts (cZ (bW li lk ts a b clA clB) (lF (jj (aU clA a.1 a.2).1 a0 0) l))):=by
 have a1:=(h.left a0 hb).1;have hk:=h.which a0 hb (lF (jj (aU clA a.1 a.2).1 a0 0) l) ⟨by show _<(bW li lk ts a b clA clB).left.usual.length;rw[h.inv.ll];exact a1,hl,by show 0<36;decide,hf⟩ rfl;refine⟨hk,?_⟩;unfold Go.Proofs.YtlehnbkknlpkbaaGreatDoor.passB brk;have a2:FirstR ts a0 (ff l) (cZ (bW li lk ts a b clA clB) (lF (jj (aU clA a.1 a.2).1 a0 0) l)):=hk;generalize cZ (bW li lk ts a b clA clB) (lF (jj (aU clA a.1 a.2).1 a0 0) l)=k at *
 rcases a2 with⟨rfl,_⟩|⟨i,rfl,h1,_⟩
 ·rfl
 have a3:(bW li lk ts a b clA clB).br=iE ts ts.length:=rfl;rw[a3,yD,K6,decide_eq_true h1.1,Kr]
theorem Made.closeL(h:Made li lk ts a b clA clB):∀(l:List En) (a0:List Nat),(∀m∈a0,m<37)->(∀y∈l,y.1<36)->l.length<=1000000->∀i,i<l.length->
  ∃k,FirstR ts (a0++ff (l.take i)) (ff (l.drop i)) k/\nth (closeL (bW li lk ts a b clA clB) l (jj (aU clA a.1 a.2).1 a0 0)) i=(!(nth l i).2&&brk ts k)
 |[],_,_,_,_,i,hi=>absurd hi (Kg i)
 |x::r,a0,hb,hl,hf,i,hi=>by
  obtain⟨s1,s2⟩:=h.stepL x (hl x (by simp)) a0 hb;unfold Go.Proofs.YtlehnbkknlpkbaaGreatDoor.closeL
  cases i with
  |zero=>
   obtain⟨p1,p2⟩:=h.passB (x::r) x hl hf a0 hb;refine⟨cZ (bW li lk ts a b clA clB) (lF (jj (aU clA a.1 a.2).1 a0 0) (x::r)),?_,?_⟩
   ·rw[List.take_zero,List.drop_zero];show FirstR ts (a0++[]) _ _;rw[J0];exact p1
   rw[ar,ar];exact p2
  |succ i=>
   rw[bd,bd,s1];obtain⟨k,k1,k2⟩:=Made.closeL h r (a0++ff [x]) s2 (fun y hy=>hl y (by simp[hy])) (by simp at hf;omega) i (by simpa using hi);refine⟨k,?_,k2⟩;rw[List.take_succ_cons,List.drop_succ_cons,show x::r.take i=[x]++r.take i from rfl,mX,<-Jy];exact k1
end
def pJ(t:TabM):En->List Int->List En
 |_,[]=>[]
 |last,c::r=>(aJ c,t.ig.testBit (aJ c)&&(last.2 || !(t.kp.testBit last.1)))::pJ t (aJ c,t.ig.testBit (aJ c)&&(last.2 || !(t.kp.testBit last.1))) r
theorem kC(t:TabM):∀(ids:List Int) (s:RunS),s.begun=true->(aK t s ids).wait=s.wait++pJ t s.last ids/\(aK t s ids).row=s.row
 |[],s,_=>⟨by unfold pJ;rw[J0];rfl,rfl⟩
 |c::r,s,hb=>by
  have e:nT t s (aJ c) = {s with last:=(aJ c,CJ t s (aJ c)),wait:=s.wait++[(aJ c,CJ t s (aJ c))]}:=by unfold nT;rw[if_pos hb]
  obtain⟨h1,h2⟩:=kC t r (nT t s (aJ c)) (by rw[e];exact hb);have e2:aK t s (c::r)=aK t (nT t s (aJ c)) r:=rfl;rw[e2,h1,h2,e];refine⟨?_,rfl⟩;rw[pJ,Jy];rfl
theorem mu(t:TabM)(c:Int)(r:List Int):(aK t (ed t) (c::r)).wait=pJ t (aJ c,false) r/\(aK t (ed t) (c::r)).row=stL t (stL t 0 36) (aJ c):=by
 have e2:aK t (ed t) (c::r)=aK t (nT t (ed t) (aJ c)) r:=rfl;have e:nT t (ed t) (aJ c) = {ed t with begun:=true,last:=(aJ c,false),row:=stL t (stL t 0 36) (aJ c)}:=rfl;obtain⟨h1,h2⟩:=kC t r (nT t (ed t) (aJ c)) rfl;rw[e2,h1,h2,e];exact⟨rfl,rfl⟩
theorem kN(t:TabM):∀(l:List Int) (e:En),(pJ t e l).length=l.length
 |[],_=>rfl
 |c::r,e=>by rw[pJ,Jr,kN t r,Jr]
theorem xa(t:TabM):∀(l:List Int) (e:En),∀x∈pJ t e l,x.1<36
 |[],_,x,hx=>by cases hx
 |c::r,e,x,hx=>by
  rw[pJ]at hx
  rcases Gc.1 hx with rfl|hx
  ·exact cy c
  exact xa t r _ x hx
theorem tq(l:List Int)(c:Int)(sv:ix)(w:la)(h:Kj w sv l):KN JF 52 [sv,nI c] w fun v w'=>v=.bool (decide (c∈l))/\w'=w:=by
 have hl:=h.len_le;refine Gi func52 ntmps52 rfl rfl ?_;refine zh ?_;refine zlp (fun z:Nat=>[(0,sv),(1,nI c),(5,nI (z:Nat))]) (fun z=>w) (fun z=>z<=l.length/\c∉l.take z) (fun z=>l.length-z) 0 (⟨IJ _,by simp⟩) ?_;rintro k ⟨hk,a1⟩;refine zh ?_;refine zC ?_ ?_
 ·intro a0;replace a0:k<l.length:=dT a0;have d1:w.cell? (adr sv 1 k)=some (nI (nth l k)):=by have:=h.cell (i:=k) (j:=0) a0 rfl;rwa[ao]at this
  refine zh ?_;refine zC ?_ ?_
  ·intro he;replace he:nth l k=c:=by simpa using he
   refine zh ?_;refine ae rfl rfl (⟨by rw[decide_eq_true (he▸aO a0)],rfl⟩)
  intro he;replace he:¬nth l k=c:=by simpa using he
  refine zh ?_;refine zxd (k+1) (⟨a0,by rw[aR a0,J5];rintro(h1|h1);exact a1 h1;exact he (ka.1 h1).symm⟩)
 intro a2;obtain rfl:k=l.length:=dF a2;rw[JA]at a1;refine zh ?_;refine ae rfl rfl (⟨by rw[decide_eq_false a1],rfl⟩)
theorem gY(c:Int)(w:la):KN JF 53 [nI c] w fun v w'=>v=nI ((aJ c:Nat):Int)/\w'=w:=by
 refine Gi func53 ntmps53 rfl rfl ?_;refine zh ?_
 refine bK (fun w1=>_=w1) (decide (35<c)) 2 (rfl) rfl rfl rfl rfl rfl ?_ ?_
 ·intro g1;refine zh ?_;refine nE 5 3 (rfl) g1
 rintro _ rfl;refine zh ?_;refine zC ?_ ?_
 ·intro hb;have a0:c<0\/35<c:=by simpa using hb
  have e:aJ c=0:=by unfold aJ;rw[if_pos zo]
  rw[e];refine zh ?_;refine ae rfl rfl (⟨rfl,rfl⟩)
 intro hb;have a0:¬(c<0\/35<c):=by simpa using hb
 have e:((aJ c:Nat):Int)=c:=by unfold aJ;rw[if_neg zo,Int.toNat_of_nonneg zo]
 rw[e];refine zh ?_;refine ae rfl rfl (⟨rfl,rfl⟩)
def gL(li lk ids:List Int):Nat->Bool
 |0=>false
 |i+1=>decide (((aJ (nth ids (i+1)):Nat):Int)∈li)&&(gL li lk ids i || !(decide (((aJ (nth ids i):Nat):Int)∈lk)))
def gQ(li lk ids:List Int)(k:Nat):List Bool:=(J9 k).map (gL li lk ids)++I4 (ids.length-k) false
theorem ow(li lk ids:List Int){k:Nat}(h:k<=ids.length):(gQ li lk ids k).length=ids.length:=by simp[gQ];omega
theorem BG(li lk ids:List Int){k:Nat}(h:k<ids.length):(gQ li lk ids k).set k (gL li lk ids k)=gQ li lk ids (k+1):=by
 unfold gQ;rw[Kh _ _ (by simp),KH,JJ];obtain⟨d,hd⟩:∃d,ids.length-k=d+1:=⟨ids.length-k-1,zo⟩
 rw[hd,show ids.length-(k+1)=d from by omega];simp[Kp]
theorem rU(li lk ids:List Int){k i:Nat}(hi:i<k)(h:k<=ids.length):nth (gQ li lk ids k) i=gL li lk ids i:=by
 have hl:=ow li lk ids h;rw[aB zo];unfold gQ;rw[List.getElem_append_left (by simpa using hi)];simp
theorem rj(li lk ids:List Int)(ig kp ru dv:ix)(w:la)(h1:Kj w ig li)(h2:Kj w kp lk)(_:ru.oneCell' = true)(hd:Kj w dv ids)(hn:ids.length ≤ 100000):
  KN JF 21 [sF ig kp ru, dv] w fun v w' => Sl cP 1 w' v (gQ li lk ids ids.length) ∧ KC w w' ∧ L2 w.heap.size v := by
 have hz:¬(0 = 1 ∨ 0 = 2) := by omega
 have hdf:KO (fun _ => 0) w dv := hd.free0 (fun x => by simp)
 have hif:KO (fun _ => 0) w ig := h1.free0 (fun x => by simp)
 have hkf:KO (fun _ => 0) w kp := h2.free0 (fun x => by simp)
 refine Gi func21 ntmps21 rfl rfl ?_
 refine Jt ?_
 refine J4 ?_
 refine aE (au w) 1 (by omega) rfl rfl ?_
 intro xb w1 O1 hxb1 hU1 hR1 hE1
 refine zv (Jn rfl) ?_
 refine GZ ?_
 refine az ?_
 refine Jt ?_
 refine J4 ?_
 refine zv (GT rfl) ?_
 refine zv (RV.len (by first | exact hd.ext hE1) JT rfl) ?_
 refine bN uy (val := fun b:Bool => JZ b) false (by kernel_rfl) (fun _ => rfl) hR1 2 (by decide) ids.length rfl rfl rfl rfl (by omega) (by omega) rfl ?_
 intro w2 O2 ov hve hov2 hU2 hR2 hE2
 have hU02:Jw (fun q => q = 1 ∨ q = 2) (fun _ => 0) w O2 w2 := (hU1.mono (fun _ h => by omega) hz).trans (hU2.mono (fun _ h => by omega) hz)
 have hxb2 := hxb1.upd hU2 (by decide) (by decide)
 have h0:I4 ids.length false = gQ li lk ids (min 1 ids.length) := by
  by_cases e:ids.length = 0
  ·rw[e]; simp[gQ, e]
  ·obtain⟨d, hd'⟩:∃d, ids.length = d + 1 := ⟨ids.length - 1, by omega⟩
   rw[show min 1 ids.length = 1 from by omega]
   unfold gQ
   rw[hd', show d + 1 - 1 = d from rfl]
   simp[Kp, gL]
 rw[h0]at hov2
 refine zv (Jn rfl) ?_
 refine GZ ?_
 refine az ?_
 refine Jt ?_
 refine Jt ?_
 refine J4 ?_
 refine zv (Jn rfl) ?_
 refine GZ ?_
 refine az ?_
 refine Mf ?_
 refine zlp (fun z:Nat×la => [(1, dv), (2, nP xb), (5, ov), (6, nI (z.1:Nat))]) (fun z => z.2) (fun z => 1 ≤ z.1 ∧ z.1 ≤ max 1 ids.length ∧ K4 cP 4 1 O2 z.2 2 ov (gQ li lk ids (min z.1 ids.length)) ∧ KP O2 z.2 1 xb #[ig, kp, ru] 25 ∧ Jw (fun q => q = 1 ∨ q = 2) (fun _ => 0) w O2 z.2) (fun z => ids.length - z.1) (1, w2) (⟨JH _, Nat.le_max_left _ _, hov2, hxb2, hU02⟩) ?_
 rintro⟨k, w3⟩ ⟨hk1, hk, hov3, hxb3, hU3⟩
 dsimp only at hk1 hk hov3 hxb3 hU3 ⊢
 have hd3 := hd.upd hdf hU3
 have hig3 := h1.upd hif hU3
 have hkp3 := h2.upd hkf hU3
 refine Jt ?_
 refine Jt ?_
 refine J4 ?_
 refine zv (GT rfl) ?_
 refine zv (GT rfl) ?_
 refine zv (RV.len (by first | exact hd3) JT rfl) ?_
 refine zv (M6 rfl rfl) ?_
 refine GZ ?_
 refine az ?_
 refine zC ?_ ?_
 ·intro hlt
  replace hlt:k < ids.length := by have := of_decide_eq_true hlt; omega
  rw[show min k ids.length = k from by omega]at hov3
  obtain⟨k', rfl⟩:∃k', k = k' + 1 := ⟨k - 1, by omega⟩
  have hlen3 := ow li lk ids (show k' + 1 ≤ ids.length by omega)
  have hN:gL li lk ids (k' + 1) = (decide (((aJ (nth ids (k' + 1)):Nat):Int) ∈ li) && (gL li lk ids k' || !(decide (((aJ (nth ids k'):Nat):Int) ∈ lk)))) := by rw[gL]
  have fin:∀W, K4 cP 4 1 O2 W 2 ov ((gQ li lk ids (k' + 1)).set (k' + 1) (gL li lk ids (k' + 1))) → K4 cP 4 1 O2 W 2 ov (gQ li lk ids (min (k' + 1 + 1) ids.length)) := fun W h => by rw[BG _ _ _ hlt]at h; rwa[show min (k' + 1 + 1) ids.length = k' + 1 + 1 from by omega]
  refine Lo ?_
  refine az ?_
  refine Jt ?_
  refine Mf ?_
  have e0:w3.drew.cell? (nA xb 0) = some ig := hxb3.cell 0 rfl
  have e1:w3.drew.cell? (nA xb 1) = some kp := hxb3.cell 1 rfl
  have e2:w3.drew.cell? (adr dv 1 (k' + 1)) = some (nI (nth ids (k' + 1))) := by have := hd3.cell (i := k' + 1) (j := 0) hlt rfl; rw[ao]at this; exact this
  have e3:w3.drew.cell? (adr dv 1 k') = some (nI (nth ids k')) := by have := hd3.cell (i := k') (j := 0) (by omega) rfl; rw[ao]at this; exact this
  have e4:w3.drew.cell? (adr ov 1 k') = some (.bool (gL li lk ids k')) := by have := hov3.sl.cell (i := k') (j := 0) (by omega) rfl; rw[ao, rU _ _ _ (by omega) (by omega)]at this; exact this
  have cells5:∀W, K4 cP 4 1 O2 W 2 ov ((gQ li lk ids (k' + 1)).set (k' + 1) (gL li lk ids (k' + 1))) → Jw (fun q => q = 2) O2 w3.drew O2 W → W.cell? (nA xb 0) = some ig ∧ W.cell? (nA xb 1) = some kp ∧ W.cell? (adr dv 1 (k' + 1)) = some (nI (nth ids (k' + 1))) ∧ W.cell? (adr dv 1 k') = some (nI (nth ids k')) ∧ W.cell? (adr ov 1 k') = some (.bool (gL li lk ids k')) := fun W hr hu => by
   have u3 := (hU3.trans (aa (S := fun q => q = 1 ∨ q = 2) hz O2 (ln w3).drew)).trans (hu.mono (fun _ h => by omega) hz)
   have hb := (hxb3.upd (aa (S := fun _ => False) (fun h => h) O2 (ln w3).drew) (by decide) (fun h => h)).upd hu (by decide) (by decide)
   have hdw := hd.upd hdf u3
   refine⟨hb.cell 0 rfl, hb.cell 1 rfl, ?_, ?_, ?_⟩
   ·have := hdw.cell (i := k' + 1) (j := 0) hlt rfl; rw[ao]at this; exact this
   ·have := hdw.cell (i := k') (j := 0) (by omega) rfl; rw[ao]at this; exact this
   ·have := hr.sl.cell (i := k') (j := 0) (by rw[JU]; omega) rfl
    rw[ao, aT (by omega), if_neg (by omega), rU _ _ _ (by omega) (by omega)]at this; exact this
  have hovd:K4 (fun x => [(fun b:Bool => JZ b) x]) 4 1 O2 w3.drew 2 ov (gQ li lk ids (k' + 1)) := hov3.upd (aa (S := fun _ => False) (fun h => h) O2 (ln w3).drew) (by decide) (fun h => h)
  have hUd := hU3.trans (aa (S := fun q => q = 1 ∨ q = 2) hz O2 (ln w3).drew)
  have hxbd := hxb3.upd (aa (S := fun _ => False) (fun h => h) O2 (ln w3).drew) (by decide) (fun h => h)
  refine aI (fun W => W.cell? (nA xb 0) = some ig ∧ W.cell? (nA xb 1) = some kp ∧ W.cell? (adr dv 1 (k' + 1)) = some (nI (nth ids (k' + 1))) ∧ W.cell? (adr dv 1 k') = some (nI (nth ids k')) ∧ W.cell? (adr ov 1 k') = some (.bool (gL li lk ids k'))) 31 rfl (by kernel_rfl) ?_
  refine zin ⟨e0, e1, e2, e3, e4⟩ fun zS => ?_
  refine zrm 0 rfl zS rfl ?_
  refine zrm 1 rfl zS rfl ?_
  refine zrf 2 rfl zS rfl ?_
  refine zt 3 rfl zS (fun w1 hw1 => RV.ld hw1.1 rfl) ?_
  refine zrm 4 rfl zS rfl ?_
  refine zrm 5 rfl zS rfl ?_
  refine zr 6 rfl zS (fun _ => ah hd3.sh JT (Kw _) rfl rfl (k' + 1) rfl (by omega)) ?_
  refine zt 7 rfl zS (fun w1 hw1 => RV.ld hw1.2.2.1 rfl) ?_
  refine Gh 8 (by kernel_rfl) rfl ?_
  refine zc call53 (gY (nth ids (k' + 1)) _) ?_
  rintro _ w4 ⟨rfl, rfl⟩
  refine GZ ?_
  refine af (⟨e0, e1, e2, e3, e4⟩) ?_
  refine Gh 9 (by kernel_rfl) rfl ?_
  refine zc call52 (tq li _ ig _ (hig3.ext (ln w3).drew)) ?_
  rintro _ w4 ⟨rfl, rfl⟩
  refine GZ ?_
  refine af (⟨e0, e1, e2, e3, e4⟩) ?_
  refine zrm 10 rfl (⟨e0, e1, e2, e3, e4⟩) rfl ?_
  by_cases c1:((aJ (nth ids (k' + 1)):Nat):Int) ∈ li
  ·rw[decide_eq_true c1, Kr]at hN
   refine bL (d := 26) rfl (b' := true) ((decide_eq_true c1)) ?_
   refine zin (⟨e0, e1, e2, e3, e4⟩) fun zS => ?_
   refine zro 11 rfl zS (fun _ => GT rfl) ?_
   refine zro 12 rfl zS (fun _ => GT rfl) ?_
   refine zro 13 rfl zS (fun _ => RV.sub rfl rfl (KS (by omega))) ?_
   refine zro 14 rfl zS (fun _ => ah hov3.sl.sh J8 (Jo _) rfl rfl k' (by omega) (by omega)) ?_
   refine zto 15 rfl zS (fun w1 hw1 => RV.ld hw1.2.2.2.2 rfl) ?_
   refine zro 16 rfl zS (fun _ => GT rfl) ?_
   cases c2:gL li lk ids k' with
   |true =>
    rw[c2, L0]at hN
    rw[c2]at cells5 e4
    refine bL (d := 32) rfl (b' := true) (rfl) ?_
    refine zin (⟨e0, e1, e2, e3, e4⟩) fun zS => ?_
    refine zte 17 rfl rfl zS ?_
    refine zte 18 rfl rfl zS ?_
    refine zte 19 rfl rfl zS ?_
    refine zte 20 rfl rfl zS ?_
    refine zte 21 rfl rfl zS ?_
    refine zte 22 rfl rfl zS ?_
    refine zte 23 rfl rfl zS ?_
    refine zte 24 rfl rfl zS ?_
    refine zte 25 rfl rfl zS ?_
    refine zte 26 rfl rfl zS ?_
    refine zro 27 rfl zS (fun _ => aQ rfl rfl) ?_
    refine zr 28 rfl zS (fun _ => aQ rfl rfl) ?_
    refine zr 29 rfl zS (fun _ => ah hov3.sl.sh J8 (Jo _) rfl rfl (k' + 1) rfl (by omega)) ?_
    refine Gh 30 (by kernel_rfl) rfl ?_
    refine JM hovd (k' + 1) (by omega) true (Jo _) rfl (by decide) rfl rfl rfl rfl ?_
    intro w5 hov5 hU5
    rw[← hN]at hov5
    refine GZ ?_
    refine af ((cells5 w5 hov5 hU5)) ?_
    refine Ju (by kernel_rfl) ?_
    refine eh ?_
    refine az ?_
    refine J4 ?_
    refine zv (GT rfl) ?_
    refine zv (M7 rfl rfl (KS (by omega))) ?_
    refine zv (Jn rfl) ?_
    refine GZ ?_
    refine zxd (k' + 1 + 1, w5) (⟨by dsimp only; omega, by dsimp only; omega, fin w5 hov5, hxbd.upd hU5 (by decide) (by decide), hUd.trans (hU5.mono (fun _ h => by omega) hz)⟩)
   |false =>
    rw[c2, K8]at hN
    rw[c2]at cells5 e4
    refine bL (d := 32) rfl (b' := false) (rfl) ?_
    refine zin (⟨e0, e1, e2, e3, e4⟩) fun zS => ?_
    refine zro 17 rfl zS (fun _ => RV.fa rfl) ?_
    refine zto 18 rfl zS (fun w1 hw1 => RV.ld hw1.2.1 rfl) ?_
    refine zro 19 rfl zS (fun _ => GT rfl) ?_
    refine zro 20 rfl zS (fun _ => GT rfl) ?_
    refine zro 21 rfl zS (fun _ => RV.sub rfl rfl (KS (by omega))) ?_
    refine zro 22 rfl zS (fun _ => ah hd3.sh JT (Kw _) rfl rfl k' (by omega) (by omega)) ?_
    refine zto 23 rfl zS (fun w1 hw1 => RV.ld hw1.2.2.2.1 rfl) ?_
    refine Gh 24 (by kernel_rfl) rfl ?_
    refine Cl rfl ?_
    refine zc call53 (gY (nth ids k') _) ?_
    rintro _ w4 ⟨rfl, rfl⟩
    refine GZ ?_
    refine af (⟨e0, e1, e2, e3, e4⟩) ?_
    refine Gh 25 (by kernel_rfl) rfl ?_
    refine Cl rfl ?_
    refine zc call52 (tq lk _ kp _ (hkp3.ext (ln w3).drew)) ?_
    rintro _ w4 ⟨rfl, rfl⟩
    refine GZ ?_
    refine zaf (⟨e0, e1, e2, e3, e4⟩) fun zS => ?_
    refine zro 26 rfl zS (fun _ => Lh rfl) ?_
    refine zro 27 rfl zS (fun _ => aW rfl rfl) ?_
    refine zr 28 rfl zS (fun _ => aQ rfl rfl) ?_
    refine zr 29 rfl zS (fun _ => ah hov3.sl.sh J8 (Jo _) rfl rfl (k' + 1) rfl (by omega)) ?_
    refine Gh 30 (by kernel_rfl) rfl ?_
    refine JM hovd (k' + 1) (by omega) _ (Jo _) rfl (by decide) rfl rfl rfl rfl ?_
    intro w5 hov5 hU5
    rw[← hN]at hov5
    refine GZ ?_
    refine af ((cells5 w5 hov5 hU5)) ?_
    refine Ju (by kernel_rfl) ?_
    refine eh ?_
    refine az ?_
    refine J4 ?_
    refine zv (GT rfl) ?_
    refine zv (M7 rfl rfl (KS (by omega))) ?_
    refine zv (Jn rfl) ?_
    refine GZ ?_
    refine zxd (k' + 1 + 1, w5) (⟨by dsimp only; omega, by dsimp only; omega, fin w5 hov5, hxbd.upd hU5 (by decide) (by decide), hUd.trans (hU5.mono (fun _ h => by omega) hz)⟩)
  ·rw[decide_eq_false c1, Lw]at hN
   refine bL (d := 26) rfl (b' := false) ((decide_eq_false c1)) ?_
   refine zin (⟨e0, e1, e2, e3, e4⟩) fun zS => ?_
   refine zte 11 rfl rfl zS ?_
   refine zte 12 rfl rfl zS ?_
   refine zte 13 rfl rfl zS ?_
   refine zte 14 rfl rfl zS ?_
   refine zte 15 rfl rfl zS ?_
   refine zte 16 rfl rfl zS ?_
   refine ztu 17 rfl zS ?_
   refine ztu 18 rfl zS ?_
   refine ztu 19 rfl zS ?_
   refine ztu 20 rfl zS ?_
   refine ztu 21 rfl zS ?_
   refine ztu 22 rfl zS ?_
   refine ztu 23 rfl zS ?_
   refine ztu 24 rfl zS ?_
   refine ztu 25 rfl zS ?_
   refine ztu 26 rfl zS ?_
   refine zte 27 rfl rfl zS ?_
   refine zr 28 rfl zS (fun _ => aW rfl rfl) ?_
   refine zr 29 rfl zS (fun _ => ah hov3.sl.sh J8 (Jo _) rfl rfl (k' + 1) rfl (by omega)) ?_
   refine Gh 30 (by kernel_rfl) rfl ?_
   refine JM hovd (k' + 1) (by omega) false (Jo _) rfl (by decide) rfl rfl rfl rfl ?_
   intro w5 hov5 hU5
   rw[← hN]at hov5
   refine GZ ?_
   refine af ((cells5 w5 hov5 hU5)) ?_
   refine Ju (by kernel_rfl) ?_
   refine eh ?_
   refine az ?_
   refine J4 ?_
   refine zv (GT rfl) ?_
   refine zv (M7 rfl rfl (KS (by omega))) ?_
   refine zv (Jn rfl) ?_
   refine GZ ?_
   refine zxd (k' + 1 + 1, w5) (⟨by dsimp only; omega, by dsimp only; omega, fin w5 hov5, hxbd.upd hU5 (by decide) (by decide), hUd.trans (hU5.mono (fun _ h => by omega) hz)⟩)
 ·intro hge
  have hge' := of_decide_eq_false hge
  rw[show min k ids.length = ids.length from by omega]at hov3
  refine WC.exit ?_
  refine cT ?_
  refine cT ?_
  refine eY ?_
  refine az ?_
  refine Jt ?_
  refine J4 ?_
  refine zv (GT rfl) ?_
  refine zv (Jn rfl) ?_
  refine GZ ?_
  refine az ?_
  refine Le ?_
  refine ae rfl rfl (⟨hov3.sl, hU3.ext, hov3.newV (by decide) ((au w).upd hU3)⟩)
def FP(k c m:Int):Bool:=
 if k=0 then m==c else if k=1 then decide (0<=m)&&decide (m<=35)else if k=2 then(decide (0<=m)&&decide (m<=35))&&(m != c)else(k==3)&&(m==36)
theorem ze(k c m:Int)(sv:ix)(w:la):KN JF 95 [nv (k,c,sv),nI m] w fun v w'=>v=.bool (FP k c m)/\KC w w':=by
 refine Gi func95 ntmps95 rfl rfl ?_;refine zh ?_
 refine aE (au w) 1 zo rfl rfl ?_;intro xb w1 O1 a0 a2 a3 a1;have c0:w1.cell? (nA xb 0)=some (nI k):=a0.cell 0 rfl;have c1:w1.cell? (nA xb 1)=some (nI c):=a0.cell 1 rfl;unfold FP;refine zh ?_
 by_cases h0:k=0
 ·rw[if_pos h0];refine zTH rfl ((by rw[h0];rfl)) ?_;refine ae rfl rfl (⟨rfl,a1⟩)
 rw[if_neg h0];refine zFH rfl ((by rw[beq_eq_false_iff_ne];exact h0)) ?_
 by_cases h1:k=1
 ·rw[if_pos h1];refine zTH rfl ((by rw[h1];rfl)) ?_;refine aP (fun w1=>_=w1) (decide (m<=35)) 2 (rfl) rfl rfl rfl rfl rfl ?_ ?_
  ·intro g1;refine zh ?_;refine nE 17 3 (rfl) g1
  rintro _ rfl;refine zh ?_;refine ae rfl rfl (⟨rfl,a1⟩)
 rw[if_neg h1];refine zFH rfl ((by rw[beq_eq_false_iff_ne];exact h1)) ?_
 by_cases h2:k=2
 ·rw[if_pos h2];refine zTH rfl ((by rw[h2];rfl)) ?_;refine aP (fun w1=>_=w1) (decide (m<=35)) 2 (rfl) rfl rfl rfl rfl rfl ?_ ?_
  ·intro g1;refine zh ?_;refine nE 25 3 (rfl) g1
  rintro _ rfl;refine zh ?_;refine aP (fun w1=>_=w1) ((m != c)) 4 (rfl) rfl rfl rfl rfl rfl ?_ ?_
  ·intro g2;refine zh ?_;refine nE 29 5 (rfl) g2
  rintro _ rfl;refine zh ?_;refine ae rfl rfl (⟨rfl,a1⟩)
 rw[if_neg h2];refine zFH rfl ((by rw[beq_eq_false_iff_ne];exact h2)) ?_;refine aP (fun w1=>_=w1) ((m==36)) 2 (rfl) rfl rfl rfl rfl rfl ?_ ?_
 ·intro g1;refine zh ?_;refine nE 38 3 (rfl) g1
 rintro _ rfl;refine zh ?_;refine ae rfl rfl (⟨rfl,a1⟩)
def MatV(w:la)(v:ix)(n:Nat)(f:Nat->Nat->Bool):Prop:=∃vs:List ix,Sl xg 1 w v vs/\vs.length=n/\∀i,i<n->Sl cP 1 w (nth vs i) ((J9 n).map (f i))
theorem MatV.ext{w w':la}{v:ix}{n:Nat}{f:Nat->Nat->Bool}(h:MatV w v n f)(e:KC w w'):MatV w' v n f:=by
 obtain⟨vs,h1,h2,h3⟩:=h;exact⟨vs,h1.ext e,h2,fun i hi=>(h3 i hi).ext e⟩
def MatN(B:Nat)(w:la)(v:ix)(n:Nat)(f:Nat->Nat->Bool):Prop:=∃vs:List ix,Sl xg 1 w v vs/\vs.length=n/\(∀i,i<n->Sl cP 1 w (nth vs i) ((J9 n).map (f i)))/\L2 B v/\∀i,i<n->L2 B (nth vs i)
theorem MatN.mat{B:Nat}{w:la}{v:ix}{n:Nat}{f:Nat->Nat->Bool}(h:MatN B w v n f):MatV w v n f:=by
 obtain⟨vs,h1,h2,h3,_⟩:=h;exact⟨vs,h1,h2,h3⟩
theorem MatN.ext{B:Nat}{w w':la}{v:ix}{n:Nat}{f:Nat->Nat->Bool}(h:MatN B w v n f)(e:KC w w'):MatN B w' v n f:=by
 obtain⟨vs,h1,h2,h3,h4,h5⟩:=h;exact⟨vs,h1.ext e,h2,fun i hi=>(h3 i hi).ext e,h4,h5⟩
theorem MatN.mono{B B':Nat}{w:la}{v:ix}{n:Nat}{f:Nat->Nat->Bool}(h:MatN B w v n f)(e:B'<=B):MatN B' w v n f:=by
 obtain⟨vs,h1,h2,h3,h4,h5⟩:=h;exact⟨vs,h1,h2,h3,h4.mono e,fun i hi=>(h5 i hi).mono e⟩
theorem gq(f:Nat->Bool){n j:Nat}(h:j<n):nth ((J9 n).map f) j=f j:=by
 rw[aB (by simpa using h),JS,JL]
def yY(n:Nat)(f:Nat->Bool)(k:Nat):List Bool:=(J9 k).map f++I4 (n-k) false
theorem CY(n:Nat)(f:Nat->Bool){k:Nat}(h:k<=n):(yY n f k).length=n:=by simp[yY];omega
theorem CX(n:Nat)(f:Nat->Bool){k:Nat}(h:k<n):(yY n f k).set k (f k)=yY n f (k+1):=by
 unfold yY;rw[Kh _ _ (by simp),KH,JJ];obtain⟨d,hd⟩:∃d,n-k=d+1:=⟨n-k-1,zo⟩
 rw[hd,show n-(k+1)=d from by omega];simp[Kp]
theorem CZ(n:Nat)(f:Nat->Bool):yY n f n=(J9 n).map f:=by simp[yY]
theorem AW(n:Nat)(f:Nat->Bool):yY n f 0=I4 n false:=by simp[yY]
theorem IP:Mc JF 123 66 1 24:=⟨JB,by kernel_rfl,zd⟩
structure MatO(O:Nat->Nat)(w:la)(ov:ix)(ms:List ix)(n k:Nat)(f:Nat->Nat->Bool):Prop where
 row:K4 xg 66 1 O w 2 ov ms
 len:ms.length=n
 at_:∀i,i<k->K4 cP 4 1 O w (10+i) (nth ms i) ((J9 n).map (f i))
theorem MatO.upd{S:Nat->Prop}{O O':Nat->Nat}{w w':la}{ov:ix}{ms:List ix}{n k:Nat}{f:Nat->Nat->Bool}(h:MatO O w ov ms n k f)(u:Jw S O w O' w')(h2:¬S 2)(hS:∀i,i<k->¬S (10+i)):MatO O' w' ov ms n k f:=
 ⟨h.row.upd u zd h2,h.len,fun i hi=>(h.at_ i hi).upd u zo (hS i hi)⟩
theorem MatO.matN{B:Nat}{O:Nat->Nat}{w:la}{ov:ix}{ms:List ix}{n:Nat}{f:Nat->Nat->Bool}(h:MatO O w ov ms n n f)(r:KF B O w):MatN B w ov n f:=⟨ms,h.row.sl,h.len,fun i hi=>(h.at_ i hi).sl,h.row.newV zd r,fun i hi=>(h.at_ i hi).newV zo r⟩
theorem dG(n:Nat)(f g:Nat->Nat->Bool)(av bv:ix)(w:la)(ha:MatV w av n f)(hb:MatV w bv n g)(hn:n<=100):
  KN JF 97 [av,bv] w fun v w'=>MatN w.heap.size w' v n (fun i j=>f i j||g i j)/\KC w w':=by
 obtain⟨xs,b4,g2,d0⟩:=ha;obtain⟨ys,c8,g1,c7⟩:=hb;have hz:¬(0=2\/10<=0):=zo;have c':KO (fun _=>0) w av:=b4.free0 (fun x=>by simp);have d':KO (fun _=>0) w bv:=c8.free0 (fun x=>by simp);have e5:∀i,i<n->KO (fun _=>0) w (nth xs i):=fun i hi=>(d0 i hi).free0 (fun x=>by simp)
 have d9:∀i,i<n->KO (fun _=>0) w (nth ys i):=fun i hi=>(c7 i hi).free0 (fun x=>by simp)
 refine Gi func97 ntmps97 rfl rfl ?_;refine zh ?_
 refine gG IP (nS) zk rfl (au w) 2 zd n rfl rfl zo zo zo zo rfl ?_;intro w1 O1 ov b9 f5 f8 g5;have d3:Jw (fun q=>q=2\/10<=q) (fun _=>0) w O1 w1:=f5.mono (fun _ h=>.inl h) hz;refine zh ?_
 refine zlp (fun z:Nat×(Nat->Nat)×World×List ix=>[(0,av),(1,bv),(5,ov),(6,nI (z.1:Nat))]) (fun z=>z.2.2.1) (fun z=>z.1<=n/\MatO z.2.1 z.2.2.1 ov z.2.2.2 n z.1 (fun i j=>f i j||g i j)/\Jw (fun q=>q=2\/10<=q) (fun _=>0) w z.2.1 z.2.2.1/\KF w.heap.size z.2.1 z.2.2.1) (fun z=>n-z.1) (0,O1,w1,I4 n (nS)) (⟨IJ _,⟨b9,by simp,fun i hi=>absurd hi (Kg i)⟩,d3,f8⟩) ?_;rintro⟨i,O2,w2,ms⟩ ⟨hi,hM,b6,d4⟩;dsimp only at hi hM b6 d4 ⊢;have g3:=b4.upd c' b6;refine zh ?_
 refine zC ?_ ?_
 ·intro a3;replace a3:i<n:=dT a3;have d7:=hM.len;refine zh ?_;refine bN uy (val:=fun b:Bool=>JZ b) false zk (fun _=>rfl) d4 (10+i) zo n rfl rfl zo zo zo zo rfl ?_;intro w3 O3 rv g0 b1 e6 f7 g4;have d6:=hM.upd e6 zo (fun t ht=>zo);refine zv (ah d6.row.sl.sh JB (JX _) rfl rfl i rfl zo) ?_;refine JM d6.row i zo rv (JX _) b1.one zd rfl rfl rfl rfl ?_;intro w4 b8 b5;have b0:=b1.upd b5 zo zo;have d2:=(b6.trans (e6.mono (fun _ h=>zo) hz)).trans (b5.mono (fun _ h=>zo) hz)
  have f9:MatO O3 w4 ov (ms.set i rv) n i (fun i j=>f i j||g i j):=⟨b8,by rw[JU];exact d7,fun t ht=>by
   rw[aT zo,if_neg zo]
   exact(d6.at_ t ht).upd b5 zo zo⟩
  have d8:nth (ms.set i rv) i=rv:=by rw[aT zo,if_pos rfl]
  rw[<-AW n (fun j=>f i j||g i j)]at b0;have f6:=f7.upd b5;have e8:(ms.set i rv).length=n:=by rw[JU];exact d7
  generalize ms.set i rv=ms4 at *;refine zh ?_;refine zlp (fun y:Nat×la=>[(0,av),(1,bv),(5,ov),(6,nI (i:Nat)),(7,nI (y.1:Nat))]) (fun y=>y.2) (fun y=>y.1<=n/\MatO O3 y.2 ov ms4 n i (fun i j=>f i j||g i j)/\K4 cP 4 1 O3 y.2 (10+i) rv (yY n (fun j=>f i j||g i j) y.1)/\Jw (fun q=>q=2\/10<=q) (fun _=>0) w O3 y.2/\KF w.heap.size O3 y.2) (fun y=>n-y.1) (0,w4) (⟨IJ _,f9,b0,d2,f6⟩) ?_;rintro⟨j,w5⟩ ⟨hj,a9,a2,a8,b7⟩;dsimp only at hj a9 a2 a8 b7 ⊢;have f4:=b4.upd c' a8;refine zh ?_;refine zC ?_ ?_
  ·intro a0;replace a0:j<n:=dT a0;have f3:=c8.upd d' a8;have c9:=(d0 i a3).upd (e5 i a3) a8;have c6:=(c7 i a3).upd (d9 i a3) a8;have f':=CY n (fun j=>f i j||g i j) (k:=j) zo;have e7:∀W,K4 cP 4 1 O3 W (10+i) rv ((yY n (fun j=>f i j||g i j) j).set j (f i j||g i j))->K4 cP 4 1 O3 W (10+i) rv (yY n (fun j=>f i j||g i j) (j+1)):=fun W h=>by rw[<-CX n (fun j=>f i j||g i j) a0];exact h
   refine zh ?_;have e9:∀W,MatO O3 W ov ms4 n i (fun i j=>f i j||g i j)->W.cell? (adr ov 1 i)=some rv:=fun W h=>by have:=h.row.sl.cell (i:=i) (j:=0) zo rfl;rw[ao,d8]at this;exact this
   have a1:∀W,MatO O3 W ov ms4 n i (fun i j=>f i j||g i j)->Jw (fun q=>q=2\/10<=q) (fun _=>0) w O3 W->W.cell? (adr ov 1 i)=some rv/\W.cell? (adr av 1 i)=some (nth xs i)/\W.cell? (adr (nth xs i) 1 j)=some (.bool (f i j))/\W.cell? (adr bv 1 i)=some (nth ys i)/\W.cell? (adr (nth ys i) 1 j)=some (.bool (g i j)):=fun W hm hu=>by
    refine⟨e9 W hm,?_,?_,?_,?_⟩
    ·have:=(b4.upd c' hu).cell (i:=i) (j:=0) zo rfl;rw[ao]at this;exact this
    ·have:=((d0 i a3).upd (e5 i a3) hu).cell (i:=j) (j:=0) (by simpa using a0) rfl;rw[ao,gq _ a0]at this;exact this
    ·have:=(c8.upd d' hu).cell (i:=i) (j:=0) zo rfl;rw[ao]at this;exact this
    have:=((c7 i a3).upd (d9 i a3) hu).cell (i:=j) (j:=0) (by simpa using a0) rfl;rw[ao,gq _ a0]at this;exact this
   have b2:=aa (S:=fun _=>False) (fun h=>h) O3 (ln w5).drew;have d5:=a9.upd b2 (fun h=>h) (fun _ _ h=>h);have d1:=a8.trans (b2.mono (fun _ h=>h.elim) hz);have a':K4 (fun x=>[(fun b:Bool=>JZ b) x]) 4 1 O3 w5.drew (10+i) rv (yY n (fun j=>f i j||g i j) j):=a2.upd b2 zo (fun h=>h);obtain⟨e0,e1,e2,e3,e4⟩:=a1 w5.drew d5 d1;refine aI (fun W=>W.cell? (adr ov 1 i)=some rv/\W.cell? (adr av 1 i)=some (nth xs i)/\W.cell? (adr (nth xs i) 1 j)=some (.bool (f i j))/\W.cell? (adr bv 1 i)=some (nth ys i)/\W.cell? (adr (nth ys i) 1 j)=some (.bool (g i j))) 23 rfl zk ?_;refine zin ⟨e0,e1,e2,e3,e4⟩ fun zS=>?_
   refine zrm 0 rfl zS rfl ?_;refine zrm 1 rfl zS rfl ?_
   refine zr 2 rfl zS (fun _=>ah a9.row.sl.sh JB (JX _) rfl rfl i rfl zo) ?_;refine zt 3 rfl zS (fun w1 a5=>RV.ld a5.1 rfl) ?_
   refine zrm 4 rfl zS rfl ?_;refine zrm 5 rfl zS rfl ?_
   refine zrm 6 rfl zS rfl ?_;refine zr 7 rfl zS (fun _=>ah f4.sh JB (JX _) rfl rfl i rfl zo) ?_
   refine zt 8 rfl zS (fun w1 a5=>RV.ld a5.2.1 rfl) ?_;refine zrm 9 rfl zS rfl ?_
   refine zr 10 rfl zS (fun _=>ah c9.sh J8 (Jo _) rfl rfl j rfl (by simpa using a0)) ?_;refine zt 11 rfl zS (fun w1 a5=>RV.ld a5.2.2.1 rfl) ?_
   refine zrm 12 rfl zS rfl ?_
   cases c2:f i j with
   |true=>
    rw[c2]at a1 e2;refine bL (d:=41) rfl (b':=true) (rfl) ?_;refine zin ⟨e0,e1,e2,e3,e4⟩ fun zS=>?_
    refine zte 13 rfl rfl zS ?_;refine zte 14 rfl rfl zS ?_
    refine zte 15 rfl rfl zS ?_;refine zte 16 rfl rfl zS ?_
    refine zte 17 rfl rfl zS ?_;refine zte 18 rfl rfl zS ?_
    refine zte 19 rfl rfl zS ?_;refine zr 20 rfl zS (fun _=>aQ rfl rfl) ?_
    refine zr 21 rfl zS (fun _=>ah a2.sl.sh J8 (Jo _) rfl rfl j rfl zo) ?_;refine Gh 22 zk rfl ?_
    refine JM a' j zo true (Jo _) rfl zo rfl rfl rfl rfl ?_;intro w6 a6 a7;have b3:=d5.upd a7 zo (fun t ht=>zo);have a4:=d1.trans (a7.mono (fun _ h=>zo) hz);refine zh ?_
    refine af ((a1 w6 b3 a4)) ?_;refine Ju zk ?_
    refine zh ?_;refine zxd (j+1,w6) (⟨a0,b3,e7 w6 (by rw[c2,L0];exact a6),a4,(b7.upd b2).upd a7⟩)
   |false=>
    rw[c2]at a1 e2;refine bL (d:=41) rfl (b':=false) (rfl) ?_;refine zin ⟨e0,e1,e2,e3,e4⟩ fun zS=>?_
    refine zro 13 rfl zS (fun _=>GT rfl) ?_;refine zro 14 rfl zS (fun _=>GT rfl) ?_
    refine zro 15 rfl zS (fun _=>ah f3.sh JB (JX _) rfl rfl i rfl zo) ?_;refine zto 16 rfl zS (fun w1 a5=>RV.ld a5.2.2.2.1 rfl) ?_
    refine zro 17 rfl zS (fun _=>GT rfl) ?_;refine zro 18 rfl zS (fun _=>ah c6.sh J8 (Jo _) rfl rfl j rfl (by simpa using a0)) ?_
    refine zto 19 rfl zS (fun w1 a5=>RV.ld a5.2.2.2.2 rfl) ?_;refine zr 20 rfl zS (fun _=>aW rfl rfl) ?_
    refine zr 21 rfl zS (fun _=>ah a2.sl.sh J8 (Jo _) rfl rfl j rfl zo) ?_;refine Gh 22 zk rfl ?_
    refine JM a' j zo (g i j) (Jo _) rfl zo rfl rfl rfl rfl ?_;intro w6 a6 a7;have b3:=d5.upd a7 zo (fun t ht=>zo);have a4:=d1.trans (a7.mono (fun _ h=>zo) hz);refine zh ?_
    refine af ((a1 w6 b3 a4)) ?_;refine Ju zk ?_
    refine zh ?_;refine zxd (j+1,w6) (⟨a0,b3,e7 w6 (by rw[c2,K8];exact a6),a4,(b7.upd b2).upd a7⟩)
  intro c5;obtain rfl:j=n:=dF c5;rw[CZ]at a2;refine zh ?_;refine zxd (i+1,O3,w5,ms4) (⟨a3,⟨a9.row,a9.len,fun t ht=>?_⟩,a8,b7⟩)
  by_cases e:t=i
  ·subst e;rw[d8];exact a2
  exact a9.at_ t (by dsimp only at ht;omega)
 intro e';obtain rfl:i=n:=by have:=of_decide_eq_false e';omega
 refine zh ?_;refine ae rfl rfl (⟨hM.matN d4,b6.ext⟩)
def uV(n:Nat)(p q:Nat->Bool)(j:Nat):List Bool:=(J9 n).map fun t=>if t<j then p t else q t
theorem Dd(n:Nat)(p q:Nat->Bool)(j:Nat):(uV n p q j).length=n:=by simp[uV]
theorem tJ(n:Nat)(p q:Nat->Bool):uV n p q 0=(J9 n).map q:=by simp[uV]
theorem De(n:Nat)(p q:Nat->Bool):uV n p q n=(J9 n).map p:=by
 unfold uV;exact L9 fun t ht=>if_pos (KQ.1 ht)
theorem Dc(n:Nat)(p q:Nat->Bool){j:Nat}:(uV n p q j).set j (p j)=uV n p q (j+1):=by
 unfold uV;refine KE (by simp) fun t h1 h2=>?_
 simp only[KD,JS,JL]
 by_cases e:j=t
 ·subst e;rw[if_pos rfl,if_pos zo]
 rw[if_neg e]
 by_cases e2:t<j
 ·rw[if_pos e2,if_pos zo]
 rw[if_neg e2,if_neg zo]
theorem FX(n:Nat)(p q:Nat->Bool){j:Nat}(h:j<n):nth (uV n p q j) j=q j:=by
 unfold uV;rw[gq _ h,if_neg zo]
def gM(f g:Nat->Nat->Bool)(i k j:Nat):Bool:=(J9 k).any fun t=>f i t&&g t j
theorem sQ(f g:Nat->Nat->Bool)(i k j:Nat):gM f g i (k+1) j=(gM f g i k j||(f i k&&g k j)):=by
 unfold gM;rw[KH,List.any_append];simp
theorem gW(n:Nat)(f g:Nat->Nat->Bool)(av bv:ix)(w:la)(ha:MatV w av n f)(hb:MatV w bv n g)(hn:n<=100):
  KN JF 96 [av,bv] w fun v w'=>MatN w.heap.size w' v n (fun i j=>gM f g i n j)/\KC w w':=by
 obtain⟨xs,c6,g',f4⟩:=ha;obtain⟨ys,d5,g9,d4⟩:=hb;have hz:¬(0=2\/10<=0):=zo;have d6:KO (fun _=>0) w av:=c6.free0 (fun x=>by simp);have f3:KO (fun _=>0) w bv:=d5.free0 (fun x=>by simp);have g0:∀i,i<n->KO (fun _=>0) w (nth xs i):=fun i hi=>(f4 i hi).free0 (fun x=>by simp)
 have e':∀i,i<n->KO (fun _=>0) w (nth ys i):=fun i hi=>(d4 i hi).free0 (fun x=>by simp)
 refine Gi func96 ntmps96 rfl rfl ?_;refine zh ?_
 refine gG IP (nS) zk rfl (au w) 2 zd n rfl rfl zo zo zo zo rfl ?_;intro w1 O1 ov d0 g2 g5 h3;have d9:Jw (fun q=>q=2\/10<=q) (fun _=>0) w O1 w1:=g2.mono (fun _ h=>.inl h) hz;refine zh ?_
 refine zlp (fun z:Nat×(Nat->Nat)×World×List ix=>[(0,av),(1,bv),(5,ov),(6,nI (z.1:Nat))]) (fun z=>z.2.2.1) (fun z=>z.1<=n/\MatO z.2.1 z.2.2.1 ov z.2.2.2 n z.1 (fun i j=>gM f g i n j)/\Jw (fun q=>q=2\/10<=q) (fun _=>0) w z.2.1 z.2.2.1/\KF w.heap.size z.2.1 z.2.2.1) (fun z=>n-z.1) (0,O1,w1,I4 n (nS)) (⟨IJ _,⟨d0,by simp,fun i hi=>absurd hi (Kg i)⟩,d9,g5⟩) ?_;rintro⟨i,O2,w2,ms⟩ ⟨hi,hM,c9,e4⟩;dsimp only at hi hM c9 e4 ⊢;have h1:=c6.upd d6 c9;refine zh ?_
 refine zC ?_ ?_
 ·intro b5;replace b5:i<n:=dT b5;have e7:=hM.len;refine zh ?_;refine bN uy (val:=fun b:Bool=>JZ b) false zk (fun _=>rfl) e4 (10+i) zo n rfl rfl zo zo zo zo rfl ?_;intro w3 O3 rv g8 b4 f5 g4 h2;have e6:=hM.upd f5 zo (fun t ht=>zo);refine zv (ah e6.row.sl.sh JB (JX _) rfl rfl i rfl zo) ?_;refine JM e6.row i zo rv (JX _) b4.one zd rfl rfl rfl rfl ?_;intro w4 c' c8;have b3:=b4.upd c8 zo zo;have d8:=(c9.trans (f5.mono (fun _ h=>zo) hz)).trans (c8.mono (fun _ h=>zo) hz)
  have g6:MatO O3 w4 ov (ms.set i rv) n i (fun i j=>gM f g i n j):=⟨c',by rw[JU];exact e7,fun t ht=>by
   rw[aT zo,if_neg zo]
   exact(e6.at_ t ht).upd c8 zo zo⟩
  have e8:nth (ms.set i rv) i=rv:=by rw[aT zo,if_pos rfl]
  rw[show I4 n false=(J9 n).map (gM f g i 0)from(by
   refine(List.eq_replicate_iff.2 ⟨by simp,fun b hb=>?_⟩).symm;obtain⟨t,_,rfl⟩:=Jq.1 hb
   rfl)]at b3
  have g3:=g4.upd c8;have f7:(ms.set i rv).length=n:=by rw[JU];exact e7
  generalize ms.set i rv=ms4 at *;refine zh ?_;refine zlp (fun x:Nat×la=>[(0,av),(1,bv),(5,ov),(6,nI (i:Nat)),(7,nI (x.1:Nat))]) (fun x=>x.2) (fun x=>x.1<=n/\MatO O3 x.2 ov ms4 n i (fun i j=>gM f g i n j)/\K4 cP 4 1 O3 x.2 (10+i) rv ((J9 n).map (gM f g i x.1))/\Jw (fun q=>q=2\/10<=q) (fun _=>0) w O3 x.2/\KF w.heap.size O3 x.2) (fun x=>n-x.1) (0,w4) (⟨IJ _,g6,b3,d8,g3⟩) ?_;rintro⟨k,w8⟩ ⟨hk,b9,a5,c7,d'⟩;dsimp only at hk b9 a5 c7 d' ⊢;have h0:=c6.upd d6 c7;refine zh ?_;refine zC ?_ ?_
  ·intro a0;replace a0:k<n:=dT a0;rw[<-tJ n (gM f g i (k+1)) (gM f g i k)]at a5;refine zh ?_;refine zlp (fun y:Nat×la=>[(0,av),(1,bv),(5,ov),(6,nI (i:Nat)),(7,nI (k:Nat)),(8,nI (y.1:Nat))]) (fun y=>y.2) (fun y=>y.1<=n/\(f i k=false->y.1=0)/\MatO O3 y.2 ov ms4 n i (fun i j=>gM f g i n j)/\K4 cP 4 1 O3 y.2 (10+i) rv (uV n (gM f g i (k+1)) (gM f g i k) y.1)/\Jw (fun q=>q=2\/10<=q) (fun _=>0) w O3 y.2/\KF w.heap.size O3 y.2) (fun y=>n-y.1) (0,w8) (⟨IJ _,fun _=>rfl,b9,a5,c7,d'⟩) ?_;rintro⟨j,w5⟩ ⟨hj,e9,b0,a1,a6,b8⟩;dsimp only at hj e9 b0 a1 a6 b8 ⊢;have g1:=c6.upd d6 a6;have b6:=(f4 i b5).upd (g0 i b5) a6;have b1:w5.cell? (adr av 1 i)=some (nth xs i):=by have:=g1.cell (i:=i) (j:=0) zo rfl;rw[ao]at this;exact this
   have b2:w5.cell? (adr (nth xs i) 1 k)=some (.bool (f i k)):=by have:=b6.cell (i:=k) (j:=0) (by simpa using a0) rfl;rw[ao,gq _ a0]at this;exact this
   refine zh ?_
   by_cases a3:j<n
   ·refine ay (d:=34) rfl (b':=true) ((decide_eq_true zo)) ?_;refine zh ?_
    refine zvH (ah b6.sh J8 (Jo _) rfl rfl k rfl (by simpa using a0)) ?_
    cases c0:f i k with
    |false=>
     have d1:=e9 c0;subst d1;have e:uV n (gM f g i (k+1)) (gM f g i k) 0=(J9 n).map (gM f g i (k+1)):=by
      rw[tJ];exact L9 fun t _=>by rw[sQ,c0];simp
     rw[e]at a1;refine zFH rfl rfl ?_;refine zxd (k+1,w5) (⟨a0,b0,a1,a6,b8⟩)
    |true=>
     have f':=d5.upd f3 a6;have d3:=(d4 k a0).upd (e' k a0) a6;have g7:=Dd n (gM f g i (k+1)) (gM f g i k) j;have hv:gM f g i (k+1) j=(gM f g i k j||g k j):=by rw[sQ,c0,Kr]
     have f6:∀W,K4 cP 4 1 O3 W (10+i) rv ((uV n (gM f g i (k+1)) (gM f g i k) j).set j (gM f g i (k+1) j))->K4 cP 4 1 O3 W (10+i) rv (uV n (gM f g i (k+1)) (gM f g i k) (j+1)):=fun W h=>by rw[<-Dc];exact h
     have a2:∀W,MatO O3 W ov ms4 n i (fun i j=>gM f g i n j)->Jw (fun q=>q=2\/10<=q) (fun _=>0) w O3 W->W.cell? (adr ov 1 i)=some rv/\W.cell? (adr bv 1 k)=some (nth ys k)/\W.cell? (adr (nth ys k) 1 j)=some (.bool (g k j)):=fun W hm hu=>by
      refine⟨?_,?_,?_⟩
      ·have:=hm.row.sl.cell (i:=i) (j:=0) zo rfl;rw[ao,e8]at this;exact this
      ·have:=(d5.upd f3 hu).cell (i:=k) (j:=0) zo rfl;rw[ao]at this;exact this
      have:=((d4 k a0).upd (e' k a0) hu).cell (i:=j) (j:=0) (by simpa using a3) rfl;rw[ao,gq _ a3]at this;exact this
     have b7:=aa (S:=fun _=>False) (fun h=>h) O3 (ln w5).drew;have e5:=b0.upd b7 (fun h=>h) (fun _ _ h=>h);have d7:=a6.trans (b7.mono (fun _ h=>h.elim) hz);have a8:K4 (fun x=>[(fun b:Bool=>JZ b) x]) 4 1 O3 w5.drew (10+i) rv (uV n (gM f g i (k+1)) (gM f g i k) j):=a1.upd b7 zo (fun h=>h);obtain⟨e0,e1,e2⟩:=a2 w5.drew e5 d7;have e3:w5.drew.cell? (adr rv 1 j)=some (.bool (gM f g i k j)):=by have:=a8.sl.cell (i:=j) (j:=0) zo rfl;rw[ao,FX _ _ _ a3]at this;exact this
     refine zTH rfl rfl ?_;refine aI (fun W=>W.cell? (adr ov 1 i)=some rv/\W.cell? (adr bv 1 k)=some (nth ys k)/\W.cell? (adr (nth ys k) 1 j)=some (.bool (g k j))) 23 rfl zk ?_
     refine zin ⟨e0,e1,e2⟩ fun zS=>?_
     refine zrm 0 rfl zS rfl ?_;refine zrm 1 rfl zS rfl ?_
     refine zr 2 rfl zS (fun _=>ah b0.row.sl.sh JB (JX _) rfl rfl i rfl zo) ?_;refine zt 3 rfl zS (fun w1 a7=>RV.ld a7.1 rfl) ?_
     refine zrm 4 rfl zS rfl ?_;refine zrm 5 rfl zS rfl ?_
     refine zrm 6 rfl zS rfl ?_;refine zr 7 rfl zS (fun _=>ah b0.row.sl.sh JB (JX _) rfl rfl i rfl zo) ?_
     refine zt 8 rfl zS (fun w1 a7=>RV.ld a7.1 rfl) ?_;refine zrm 9 rfl zS rfl ?_
     refine zr 10 rfl zS (fun _=>ah a1.sl.sh J8 (Jo _) rfl rfl j rfl zo) ?_;refine Gh 11 zk rfl ?_
     refine zvH (RV.ld e3 rfl) ?_;refine af (⟨e0,e1,e2⟩) ?_
     refine zrm 12 rfl (⟨e0,e1,e2⟩) rfl ?_
     cases c2:gM f g i k j with
     |true=>
      rw[c2,L0]at hv;refine bL (d:=57) rfl (b':=true) (rfl) ?_;refine zin (⟨e0,e1,e2⟩) fun zS=>?_
      refine zte 13 rfl rfl zS ?_;refine zte 14 rfl rfl zS ?_
      refine zte 15 rfl rfl zS ?_;refine zte 16 rfl rfl zS ?_
      refine zte 17 rfl rfl zS ?_;refine zte 18 rfl rfl zS ?_
      refine zte 19 rfl rfl zS ?_;refine zr 20 rfl zS (fun _=>aQ rfl rfl) ?_
      refine zr 21 rfl zS (fun _=>ah a1.sl.sh J8 (Jo _) rfl rfl j rfl zo) ?_;refine Gh 22 zk rfl ?_
      refine JM a8 j zo true (Jo _) rfl zo rfl rfl rfl rfl ?_;intro w6 a9 a';have c5:=e5.upd a' zo (fun t ht=>zo);have a4:=d7.trans (a'.mono (fun _ h=>zo) hz);refine zh ?_
      refine af ((a2 w6 c5 a4)) ?_;refine Ju zk ?_
      refine zh ?_;refine zxd (j+1,w6) (⟨a3,(fun h=>by cases h),c5,f6 w6 (by rw[hv];exact a9),a4,(b8.upd b7).upd a'⟩)
     |false=>
      rw[c2,K8]at hv;refine bL (d:=57) rfl (b':=false) (rfl) ?_;refine zin (⟨e0,e1,e2⟩) fun zS=>?_
      refine zro 13 rfl zS (fun _=>GT rfl) ?_;refine zro 14 rfl zS (fun _=>GT rfl) ?_
      refine zro 15 rfl zS (fun _=>ah f'.sh JB (JX _) rfl rfl k rfl zo) ?_;refine zto 16 rfl zS (fun w1 a7=>RV.ld a7.2.1 rfl) ?_
      refine zro 17 rfl zS (fun _=>GT rfl) ?_;refine zro 18 rfl zS (fun _=>ah d3.sh J8 (Jo _) rfl rfl j rfl (by simpa using a3)) ?_
      refine zto 19 rfl zS (fun w1 a7=>RV.ld a7.2.2 rfl) ?_;refine zr 20 rfl zS (fun _=>aW rfl rfl) ?_
      refine zr 21 rfl zS (fun _=>ah a1.sl.sh J8 (Jo _) rfl rfl j rfl zo) ?_;refine Gh 22 zk rfl ?_
      refine JM a8 j zo (g k j) (Jo _) rfl zo rfl rfl rfl rfl ?_;intro w6 a9 a';have c5:=e5.upd a' zo (fun t ht=>zo);have a4:=d7.trans (a'.mono (fun _ h=>zo) hz);refine zh ?_
      refine af ((a2 w6 c5 a4)) ?_;refine Ju zk ?_
      refine zh ?_;refine zxd (j+1,w6) (⟨a3,(fun h=>by cases h),c5,f6 w6 (by rw[hv];exact a9),a4,(b8.upd b7).upd a'⟩)
   have f8:j=n:=zo;subst f8;rw[De]at a1;refine ay (d:=34) rfl (b':=false) ((decide_eq_false zo)) ?_;refine zh ?_;refine zFH rfl rfl ?_;refine zxd (k+1,w5) (⟨a0,b0,a1,a6,b8⟩)
  intro d2;obtain rfl:k=n:=dF d2;refine zh ?_;refine zxd (i+1,O3,w8,ms4) (⟨b5,⟨b9.row,b9.len,fun t ht=>?_⟩,c7,d'⟩)
  by_cases e:t=i
  ·subst e;rw[e8];exact a5
  exact b9.at_ t (by dsimp only at ht;omega)
 intro f9;obtain rfl:i=n:=dF f9;refine zh ?_;refine ae rfl rfl (⟨hM.matN e4,c9.ext⟩)
abbrev Tb:=Nat->Nat->Bool
def seg(ms:List Int)(i j:Nat):List Int:=(ms.drop i).take (j-i)
theorem nM(ms:List Int){i j:Nat}(h:i<=j)(hj:j<=ms.length):(seg ms i j).length=j-i:=by simp[seg];omega
theorem xQ(ms:List Int)(i:Nat):seg ms i i=[]:=by simp[seg]
theorem vm(ms:List Int){i m j:Nat}(h1:i<=m)(h2:m<=j):seg ms i j=seg ms i m++seg ms m j:=by
 unfold seg;obtain⟨a,rfl⟩:∃a,m=i+a:=⟨m-i,zo⟩
 obtain⟨b,rfl⟩:∃b,j=i+a+b:=⟨j-(i+a),zo⟩
 rw[show i+a+b-i=a+b from by omega,show i+a-i=a from by omega,show i+a+b-(i+a)=b from by omega,List.take_add,List.drop_drop]
theorem te{ms:List Int}{i j:Nat}(h:i<=j)(hj:j<=ms.length){u v:List Int}(e:seg ms i j=u++v):i+u.length<=j/\u=seg ms i (i+u.length)/\v=seg ms (i+u.length) j:=by
 have hl:=congrArg Kk e;rw[nM ms h hj,Jp]at hl;have h1:i+u.length<=j:=zo;have e2:=vm ms (show i<=i+u.length by omega) h1;rw[e]at e2;obtain⟨e3,e4⟩:=Lr e2 (by rw[nM ms zo zo];omega);exact⟨h1,e3,e4⟩
theorem Fw{ms:List Int}{i:Nat}(h:i<ms.length):seg ms i (i+1)=[nth ms i]:=by
 unfold seg;rw[show i+1-i=1 from by omega,KU h,aB h];rfl
def DM(n:Nat)(t:Tb):Nat->Tb
 |0=>t
 |r+1=>fun i j=>DM n t r i j||gM (DM n t r) t i n j
def stepT(n:Nat)(k:Int)(a0 t:Tb):Tb:=
 if k=4 then fun i j=>gM a0 t i n j else if k=6\/k=7 then fun i j=>a0 i j||DM n t n i j else fun i j=>a0 i j||t i j
def fc(ms:List Int)(k c:Int):Tb:=fun i j=>if i=j then decide (k=4\/k=6\/k=8\/k=9)else if j=i+1/\k<4 then FP k c (nth ms i)else false
mutual
/-- From which place of marks a node leads to which. -/
def bG(ms:List Int):Nd->Tb
 |.mk k c l=>dk ms k l (fc ms k c)
def dk(ms:List Int)(k:Int):List Nd->Tb->Tb
 |[],out=>out
 |t::r,out=>dk ms k r (stepT (ms.length+1) k out (bG ms t))
end
theorem Am(f g:Tb)(i n j:Nat):gM f g i n j=true↔∃m,m<n/\f i m=true/\g m j=true:=by
 unfold gM;rw[Ll]
 constructor
 ·rintro⟨m,hm,h⟩;rw[Js]at h;exact⟨m,KQ.1 hm,h.1,h.2⟩
 rintro⟨m,hm,h1,h2⟩;exact⟨m,KQ.2 hm,by rw[h1,h2];rfl⟩
def Says(ms:List Int)(t:Tb)(L:List Int->Prop):Prop:=∀i j,i<=ms.length->j<=ms.length->(t i j=true↔i<=j/\L (seg ms i j))
theorem xR{ms:List Int}{f g:Tb}{L M:List Int->Prop}(hf:Says ms f L)(hg:Says ms g M):Says ms (fun i j=>gM f g i (ms.length+1) j) (fun w=>∃u v,w=u++v/\L u/\M v):=fun i j hi hj=>by
 rw[Am]
 constructor
 ·rintro⟨m,hm,h1,h2⟩;obtain⟨a1,a2⟩:=(hf i m hi zo).1 h1;obtain⟨b1,b2⟩:=(hg m j zo hj).1 h2;exact⟨zo,_,_,vm ms a1 b1,a2,b2⟩
 rintro⟨a0,u,v,e,h1,h2⟩;obtain⟨s1,s2,s3⟩:=te a0 hj e;exact⟨i+u.length,zo,(hf i _ hi zo).2 ⟨zo,s2▸h1⟩,(hg _ j zo hj).2 ⟨s1,s3▸h2⟩⟩
theorem qX{ms:List Int}{f g:Tb}{L M:List Int->Prop}(hf:Says ms f L)(hg:Says ms g M):Says ms (fun i j=>f i j||g i j) (fun w=>L w\/M w):=fun i j hi hj=>by
 rw[KJ,hf i j hi hj,hg i j hi hj];exact⟨fun h=>h.elim (fun h=>⟨h.1,.inl h.2⟩) (fun h=>⟨h.1,.inr h.2⟩),fun⟨h1,h2⟩=>h2.elim (fun h=>.inl ⟨h1,h⟩) (fun h=>.inr ⟨h1,h⟩)⟩
theorem Says.congr{ms:List Int}{f:Tb}{L M:List Int->Prop}(h:Says ms f L)(e:∀w,L w↔M w):Says ms f M:=fun i j hi hj=>by rw[h i j hi hj,e]
def Iq(P:List Int->Prop):Nat->List Int->Prop
 |0,w=>P w
 |r+1,w=>∃u v,w=u++v/\Iq P r u/\P v
theorem xS{ms:List Int}{t:Tb}{L:List Int->Prop}(h:Says ms t L):∀r,Says ms (DM (ms.length+1) t r) (fun w=>∃s,s<=r/\Iq L s w)
 |0=>h.congr fun w=>⟨fun hw=>⟨0,JH _,hw⟩,fun⟨s,hs,hw⟩=>(match s,hs,hw with|0,_,hw=>hw)⟩
 |r+1=>by
  have ih:=xS h r;refine(qX ih (xR ih h)).congr fun w=>?_
  constructor
  ·rintro(⟨s,hs,hw⟩|⟨u,v,rfl,⟨s,hs,hu⟩,hv⟩)
   ·exact⟨s,zo,hw⟩
   exact⟨s+1,zo,u,v,rfl,hu,hv⟩
  rintro⟨s,hs,hw⟩
  by_cases e:s<=r
  ·exact .inl ⟨s,e,hw⟩
  obtain rfl:s=r+1:=zo;obtain⟨u,v,rfl,hu,hv⟩:=hw;exact .inr ⟨u,v,rfl,⟨r,JH _,hu⟩,hv⟩
theorem AO{ms:List Int}{k c:Int}(hk:4<=k):Says ms (fc ms k c) (fun w=>(k=4\/k=6\/k=8\/k=9)/\w=[]):=fun i j hi hj=>by
 unfold fc
 by_cases e:i=j
 ·subst e;rw[if_pos rfl,xQ,decide_eq_true_eq];exact⟨fun h=>⟨JH _,h,rfl⟩,fun h=>h.2.1⟩
 rw[if_neg e,if_neg zo];refine⟨fun h=>(by cases h),fun⟨h1,_,h2⟩=>?_⟩;have:=congrArg Kk h2;rw[nM ms h1 hj]at this;simp at this;omega
theorem A4{k c m:Int}(hk:k=0/\0<=c/\c<36\/k=1\/k=2\/k=3):FP k c m=cK k c m:=by
 unfold FP cK
 rcases hk with⟨rfl,h1,h2⟩|rfl|rfl|rfl
 ·rw[if_pos rfl,if_pos rfl]
  by_cases e:m=c
  ·subst e;rw[decide_eq_true h1,decide_eq_true h2];rfl
  rw[beq_eq_false_iff_ne.2 e,Bool.and_false]
 ·rw[if_neg zd,if_pos rfl,if_neg zd,if_pos rfl];congr 1;exact decide_eq_decide.2 zo
 ·rw[if_neg zd,if_neg zd,if_pos rfl,if_neg zd,if_neg zd,if_pos rfl];congr 2;exact decide_eq_decide.2 zo
 rw[if_neg zd,if_neg zd,if_neg zd,if_neg zd,if_neg zd,if_neg zd];rfl
theorem ky{ms:List Int}{k c:Int}(hk:k=0/\0<=c/\c<36\/k=1\/k=2\/k=3):Says ms (fc ms k c) (fun w=>∃m,w=[m]/\cK k c m=true):=fun i j hi hj=>by
 unfold fc
 by_cases e:i=j
 ·subst e;rw[if_pos rfl,xQ,decide_eq_false zo];exact⟨fun h=>(by cases h),fun⟨_,m,h,_⟩=>by cases h⟩
 rw[if_neg e]
 by_cases e2:j=i+1
 ·subst e2;rw[if_pos ⟨rfl,zo⟩,Fw zo,A4 hk];exact⟨fun h=>⟨zo,_,rfl,h⟩,fun⟨_,m,h,ht⟩=>by cases h;exact ht⟩
 rw[if_neg zo];refine⟨fun h=>(by cases h),fun⟨h1,m,h2,_⟩=>?_⟩;have:=congrArg Kk h2;rw[nM ms h1 hj]at this;simp at this;omega
theorem CT{P:List Int->Prop}{w:List Int}(h:M0 P w):w=[]\/∃s,s+1<=w.length/\∃l:List (List Int),l.length=s+1/\w=l.flatten/\∀u∈l,P u:=by
 induction h with
 |nil=>exact .inl rfl
 | @cons u v hu hv ih=>
  by_cases a0:u=[]
  ·subst a0;rw[KI];exact ih
  have a1:0<u.length:=Kq.2 a0
  rcases ih with rfl|⟨s,hs,l,hl,rfl,hP⟩
  ·exact .inr ⟨0,by rw[J0];exact a1,[u],rfl,by simp,fun x hx=>by rw[ka.1 hx];exact hu⟩
  refine .inr ⟨s+1,by rw[Jp];omega,u::l,by simp[hl],rfl,fun x hx=>?_⟩
  rcases Gc.1 hx with rfl|hx
  ·exact hu
  exact hP x hx
theorem D2{P:List Int->Prop}:∀(s:Nat) (l:List (List Int)),l.length=s+1->(∀u∈l,P u)->Iq P s l.flatten
 |0,l,hl,hP=>by
  match l,hl with
  |[u],_=>have:=hP u (by simp);show P _;simpa using this
 |s+1,l,hl,hP=>by
  have a0:l≠[]:=fun e=>by rw[e]at hl;cases hl
  refine⟨l.dropLast.flatten,l.getLast a0,?_,D2 s _ (by rw[List.length_dropLast];omega) (fun u hu=>hP u (List.dropLast_subset l hu)),hP _ (List.getLast_mem a0)⟩
  conv=>lhs;rw[<-List.dropLast_concat_getLast a0]
  simp
theorem xV{P:List Int->Prop}:∀(s:Nat) (w:List Int),Iq P s w->∃l:List (List Int),l.length=s+1/\w=l.flatten/\∀u∈l,P u
 |0,w,h=>⟨[w],rfl,by simp,fun u hu=>by rw[ka.1 hu];exact h⟩
 |s+1,w,⟨u,v,e,hu,hv⟩=>by
  obtain⟨l,h1,h2,h3⟩:=xV s u hu;refine⟨l++[v],by simp[h1],by rw[e,h2];simp,fun x hx=>?_⟩
  rcases J5.1 hx with hx|hx
  ·exact h3 x hx
  rw[ka.1 hx];exact hv
theorem sW{P:List Int->Prop}:∀(l:List (List Int)),(∀u∈l,P u)->M0 P l.flatten
 |[],_=>.nil
 |u::l,h=>.cons (h u (by simp)) (sW l (fun x hx=>h x (by simp[hx])))
theorem tS{ms:List Int}:∀(l:List Nd),(∀t∈l,Says ms (bG ms t) (Lg t))->∀(a0:Tb) (L:List Int->Prop),Says ms a0 L->Says ms (dk ms 4 l a0) (fun w=>∃u v,w=u++v/\L u/\Mp l v)
 |[],_,a0,L,h=>by
  unfold dk;refine h.congr fun w=>?_
  constructor
  ·intro hw;exact⟨w,[],by simp,hw,by unfold Mp;rfl⟩
  rintro⟨u,v,rfl,hu,hv⟩;unfold Mp at hv;subst hv
  rwa[J0]
 |t::r,hl,a0,L,h=>by
  unfold dk;have h1:Says ms (stepT (ms.length+1) 4 a0 (bG ms t)) (fun w=>∃u v,w=u++v/\L u/\Lg t v):=xR h (hl t (by simp));refine(tS r (fun x hx=>hl x (by simp[hx])) _ _ h1).congr fun w=>?_
  constructor
  ·rintro⟨_,v,rfl,⟨a,b,rfl,ha,hb⟩,hv⟩;exact⟨a,b++v,by rw[Jy],ha,by unfold Mp;exact⟨b,v,rfl,hb,hv⟩⟩
  rintro⟨a,v,rfl,ha,hv⟩;unfold Mp at hv;obtain⟨b,v',rfl,hb,a1⟩:=hv;exact⟨a++b,v',by rw[Jy],⟨a,b,rfl,ha,hb⟩,a1⟩
theorem oh{ms:List Int}{k:Int}(h4:k≠4)(h6:¬(k=6\/k=7)):∀(l:List Nd),(∀t∈l,Says ms (bG ms t) (Lg t))->∀(a0:Tb) (L:List Int->Prop),Says ms a0 L->Says ms (dk ms k l a0) (fun w=>L w\/Mi l w)
 |[],_,a0,L,h=>by
  unfold dk;refine h.congr fun w=>⟨.inl,fun hw=>hw.elim id fun hw=>?_⟩
  unfold Mi at hw;exact hw.elim
 |t::r,hl,a0,L,h=>by
  unfold dk;have h1:Says ms (stepT (ms.length+1) k a0 (bG ms t)) (fun w=>L w\/Lg t w):=by
   unfold stepT;rw[if_neg h4,if_neg h6];exact qX h (hl t (by simp))
  refine(oh h4 h6 r (fun x hx=>hl x (by simp[hx])) _ _ h1).congr fun w=>?_
  rw[Mi];exact or_assoc
theorem tf{ms:List Int}{t:Tb}{L:List Int->Prop}(h:Says ms t L):Says ms (DM (ms.length+1) t (ms.length+1)) (fun w=>∃u v,w=u++v/\L u/\M0 L v):=fun i j hi hj=>by
 rw[xS h _ i j hi hj];refine and_congr_right fun a0=>?_
 have hl:=nM ms a0 hj
 constructor
 ·rintro⟨s,_,hw⟩;obtain⟨l,h1,h2,h3⟩:=xV s _ hw
  match l,h1,h3 with
  |u::r,_,h3=>exact⟨u,r.flatten,h2,h3 u (by simp),sW r (fun x hx=>h3 x (by simp[hx]))⟩
 rintro⟨u,v,e,hu,hv⟩;have a1:v.length<=ms.length:=by have:=congrArg Kk e;rw[Jp]at this;omega
 rw[e]
 rcases CT hv with rfl|⟨s,hs,l,h1,rfl,h3⟩
 ·exact⟨0,IJ _,by rw[J0];exact hu⟩
 refine⟨s+1,zo,?_⟩
 have:=D2 (s+1) (u::l) (by simp[h1]) (fun x hx=>by
  rcases Gc.1 hx with rfl|hx
  ·exact hu
  exact h3 x hx)
 exact this
theorem lg4(c:Int)(l:List Nd)(w:List Int):Lg (.mk 4 c l) w↔Mp l w:=by rw[Lg];simp
theorem lg5(c:Int)(l:List Nd)(w:List Int):Lg (.mk 5 c l) w↔Mi l w:=by rw[Lg];simp
theorem lg6(c:Int)(t:Nd)(w:List Int):Lg (.mk 6 c [t]) w↔M0 (Lg t) w:=by
 have eH:LgH [t]=Lg t:=by rw[LgH]
 rw[Lg,<-eH];simp
theorem lg7(c:Int)(t:Nd)(w:List Int):Lg (.mk 7 c [t]) w↔∃u v,w=u++v/\Lg t u/\M0 (Lg t) v:=by
 have eH:LgH [t]=Lg t:=by rw[LgH]
 rw[Lg,<-eH];simp
theorem lg8(c:Int)(t:Nd)(w:List Int):Lg (.mk 8 c [t]) w↔w=[]\/Lg t w:=by
 have eH:LgH [t]=Lg t:=by rw[LgH]
 rw[Lg,<-eH];simp
mutual
theorem qk(ms:List Int):∀(t:Nd) (wi:Bool),bH t wi=true->Says ms (bG ms t) (Lg t)
 |.mk k c l,wi,h=>by
  unfold bH at h
  rw[Js]at h
  have hall:=tT ms l h.2
  have hb:=fun hk:4<=k=>AO (ms:=ms) (c:=c) hk
  unfold bG
  rcases dm h.1 with⟨rfl,hn,h1,h2⟩|⟨rfl,hn,h1⟩|⟨rfl,hn,h1,h2⟩|⟨rfl,hn,h1⟩|⟨rfl,hn,h1⟩|⟨rfl,hn,h1⟩|⟨rfl,hn,h1⟩|⟨rfl,hn,h1⟩|⟨rfl,hn,h1⟩|⟨rfl,hn,h1,h2⟩
  ·obtain rfl:=Gv hn
   unfold dk
   exact(ky (.inl ⟨rfl,h1,h2⟩)).congr fun w=>by rw[Lg];simp
  ·obtain rfl:=Gv hn
   unfold dk
   exact(ky (.inr (.inl rfl))).congr fun w=>by rw[Lg];simp
  ·obtain rfl:=Gv hn
   unfold dk
   exact(ky (.inr (.inr (.inl rfl)))).congr fun w=>by rw[Lg];simp
  ·obtain rfl:=Gv hn
   unfold dk
   exact(ky (.inr (.inr (.inr rfl)))).congr fun w=>by rw[Lg];simp
  ·refine(tS l hall _ _ (hb zd)).congr fun w=>?_
   rw[lg4]
   constructor
   ·rintro⟨u,v,rfl,⟨_,rfl⟩,hv⟩;exact hv
   intro hw;exact⟨[],w,rfl,⟨.inl rfl,rfl⟩,hw⟩
  ·refine(oh zd zd l hall _ _ (hb zd)).congr fun w=>?_
   rw[lg5]
   exact⟨fun hw=>hw.elim (fun hw=>absurd hw.1 zd) id,.inr⟩
  ·match l,hn,hall with
   |[t],_,hall=>
    have ht:=hall t (by simp)
    have h3:Says ms (dk ms 6 [t] (fc ms 6 c)) _:=qX (hb zd) (tf ht)
    refine h3.congr fun w=>?_
    rw[lg6]
    constructor
    ·rintro(⟨_,rfl⟩|⟨u,v,rfl,hu,hv⟩)
     ·exact .nil
     exact .cons hu hv
    intro hw
    cases hw with
    |nil=>exact .inl ⟨zd,rfl⟩
    |cons hu hv=>exact .inr ⟨_,_,rfl,hu,hv⟩
  ·match l,hn,hall with
   |[t],_,hall=>
    have ht:=hall t (by simp)
    have h3:Says ms (dk ms 7 [t] (fc ms 7 c)) _:=qX (hb zd) (tf ht)
    refine h3.congr fun w=>?_
    rw[lg7]
    constructor
    ·rintro(⟨h,_⟩|hw)
     ·exact absurd h zd
     exact hw
    exact .inr
  ·match l,hn,hall with
   |[t],_,hall=>
    refine(oh zd zd [t] hall _ _ (hb zd)).congr fun w=>?_
    rw[lg8]
    constructor
    ·rintro(⟨_,hw⟩|hw)
     ·exact .inl hw
     rw[Mi,Mi]at hw
     exact .inr (hw.elim id False.elim)
    rintro(hw|hw)
    ·exact .inl ⟨zd,hw⟩
    exact .inr (by rw[Mi];exact .inl hw)
  obtain rfl:=Gv hn
  unfold dk
  refine(hb zd).congr fun w=>?_
  rw[Lg];simp
theorem tT(ms:List Int):∀(l:List Nd),eJ l=true->∀t∈l,Says ms (bG ms t) (Lg t)
 |[],_,t,ht=>by cases ht
 |a::r,h,t,ht=>by
  unfold eJ at h
  rw[Js]at h
  have h1:=qk ms a true h.1
  have h2:=tT ms r h.2
  rcases Gc.1 ht with e|ht
  ·rw[e];exact h1
  exact h2 t ht
end
theorem og(ms:List Int){t:Nd}(h:bj t=true):Says ms (bG ms t) (Lg t):=by
 unfold bj at h;rw[Js]at h;exact qk ms t false h.2
theorem DH{ms:List Int}{k c:Int}{i n:Nat}(_:i<n)(hn:n=ms.length+1):(J9 n).map (fc ms k c i) =
  if i+1<n/\k<4 then((I4 n false).set i (decide (k=4\/k=6\/k=8\/k=9))).set (i+1) (FP k c (nth ms i))else(I4 n false).set i (decide (k=4\/k=6\/k=8\/k=9)):=by
 by_cases h:i+1<n/\k<4
 ·rw[if_pos h];refine KE (by simp) fun j h1 h2=>?_
  simp only[JS,JL,KD,KY];unfold fc
  by_cases e:i=j
  ·subst e;rw[if_pos rfl,if_neg zo,if_pos rfl]
  rw[if_neg e]
  by_cases e2:i+1=j
  ·rw[if_pos ⟨e2.symm,h.2⟩,if_pos e2]
  rw[if_neg zo,if_neg e2,if_neg e]
 rw[if_neg h];refine KE (by simp) fun j h1 h2=>?_
 simp only[J6,List.length_range]at h1;simp only[JS,JL,KD,KY];unfold fc
 by_cases e:i=j
 ·subst e;rw[if_pos rfl,if_pos rfl]
 rw[if_neg e,if_neg e,if_neg zo]
end Go.Proofs.YtlehnbkknlpkbaaGreatDoor
