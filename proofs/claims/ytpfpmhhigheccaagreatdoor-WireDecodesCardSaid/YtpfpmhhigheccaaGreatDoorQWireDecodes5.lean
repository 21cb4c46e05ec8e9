/- Texts that the proof of this statement needs, merged and shortened. -/
import Derived.Test.YtpfpmhhigheccaaGreatDoorQWireDecodes4
open Go renaming Value->ix,World->G6,TypeId->I2,Operand->Jn,Program->JW,sizeOf->Km,FuncId->KW,Oper->Lb,IntKind->Ld
open List renaming length_append->ln,length_singleton->G0,append_assoc->G5,mem_singleton->G7,not_mem_nil->Gu,mem_cons->Gv,take_of_length_le->Gx,getElem?_eq_some_iff->GF,take_length->GG,all_cons->GP,length_take->GS,map_cons->GU,length_map->I1,flatMap_singleton->I5,dropWhile_suffix->Ib,mem_of_mem_take->Ig,eq_nil_of_length_eq_zero->Ih,nil_append->Ij,append_nil->Ik,flatMap_append->Il,getElem?_append_left->Iq,map_toArray->Iv,length_cons->Iw,mem_append->IH,map_nil->J7,all_nil->J8,take_append_of_le_length->Je,map_append->Jj,getElem?_append_right->Jq,getElem_append_right->Jr,getElem_append_left->Jv,contains_iff_mem->JF,length_pos_iff->JL,getElem?_take->JO,foldl_append->JX,getElem_mem->K4,getElem_map->K5,cons_append->K6,foldl_cons->Kg,map->Kk,drop_zero->Kl,mem_map->KE,length->KK,range->KR
open Go.VL.RV renaming move->G1,assign->Gp,fieldAddr->GI,build->GV,load->Iu,extract->IL,indexAddr->Ja,add->Ji,len->Ju,eql->KD,sub->KX,neq->KY,lss->KZ,gtr->L0
open Go.VL.WC renaming region->G2,seq->G9,block->ID,skip->IK,tail->IV,ret->Jh,exit->Kc,loop->KN,cond->KO,still->Ll
open Go.VL.WL renaming nil->G4,off->I9,call->IU,val->K0,push->Kb
open Go.VL.Ret renaming enter->G8
open UInt8 renaming ofNat->Gn,toNat_ofNat'->IW,toNat->KB
open Go.VL.RowT renaming upd->Gq,nil->J6,drew->KU
open Go.VL.WH renaming one->Gs,done->Ia,leaf->IJ
open Go.VL.Ext renaming refl->Gt
open Go.VL.Upd renaming setRow->Gw,trans->GH,set->GL,mono->I6,refl->Ii,lowT->JK,alloc->Kd,drew->L9
open Go.Proofs.Tryz renaming zeroValue32->Gy,sizeOf32->GB,underlying24->GD,prog->GM,underlying5->GQ,underlying22->GR,sizeOf30->GY,sizeOf25->I4,underlying30->Ic,call130->Ie,isAgg32->Im,underlying25->Ir,underlying3->IA,sizeOf4->IB,isAgg30->IC,sizeOf27->IN,underlying27->IR,underlying9->J0,sizeOf91->J1,sizeOf86->Jl,zeroValue25->Js,sizeOf146->JN,underlying89->JP,underlying28->JQ,sizeOf5->JR,isAgg25->JS,call26->JT,call23->JU,zeroValue91->K7,zeroValue30->K8,sizeOf24->K9,ntmps106->Ka,call34->Ko,call24->Kp,call22->Kq,isAgg91->Kv,isAgg86->Kw,func106->Kx,call135->Ky,call134->Kz,call103->KA,sizeOf28->KS,call27->KT,zeroValue218->L3,underlying68->L4,isAgg27->L5,call133->L6,call104->L7,zeroValue86->Lk
open Bool renaming and_eq_true->Gz,not_eq_true'->GW,or_eq_false_iff->GZ,not_eq_false'->IZ,or_eq_true->Jk,and_eq_false_iff->JG,false_or->Ku,true_or->KF
open Nat renaming zero_le->GA,le_refl->GK,two_pow_pos->GN,lt_of_lt_of_le->GT,pow_le_pow_right->I0,or_lt_two_pow->Is,mul_one->It,div_eq_of_lt->Iz,mod_lt->IF,div_eq_zero_iff_lt->IG,not_lt_zero->IM,pow_lt_pow_right->IT,lt_of_le_of_lt->J3,le_of_eq->J9,lt_succ_self->Jc,and_two_pow_sub_one_eq_mod->Jd,min_eq_left->Jo,two_pow_add_eq_or_of_lt->Jp,lt_succ_iff_lt_or_eq->Jw,zero_add->JC,le_trans->JD,blt->JE,le_of_ble_eq_true->JH,mod_eq_of_lt->Kf,mul_le_mul->Kr,pow_succ->KH,mul_comm->KI,add_zero->KJ,or_comm->KQ,ble->Lm,beq->Ln
open Go.Value renaming oneCell'->GC,ownBlock->IP,bool->JJ,int->JV
open Go.VL renaming Upd->GE,Rng->Io,RowT->Iy,Ret->IS,Ext->Jb,Free->Jf,BlkO->Jg,Ints->KL,Elem->Lh
open Go.VL.BlkO renaming upd->GJ,setRow->IQ,drew->Jz,tag->L1,set->L2,q7->Li,q6->Lj
open Go.World renaming setCell->GO,setRow->J2,drew->Jm
open Classical renaming byContradiction->GX
open Go.Result renaming andThen_ok->I3
open Int renaming toNat_natCast->I7,toNat_of_nonneg->IY
open Go.VL.Fit renaming i64->I8,u64->II,u8->Lq
open Go.Proofs.YtpfpmhhigheccaaGreatDoor renaming RightD->If,PartV->Ip,telR->J4,lstR->J5,PSt->Ke,Rd6->KC
open Go.Sem renaming run_bind->IE
open Option.some renaming inj->IX,injEq->KV
open Go.Value.slice renaming injEq->Jt
open Go.IntKind renaming u64->Jy,signed->JY,wrap->Kh,bits->Ki,u8->Lp
open Go.VL.WS renaming go->JA
open Go.VL.Rng renaming upd->JB,drew->La
open Go.Addr renaming add->JI
open Go.Lib renaming compact->JM
open Go.Instr renaming buildSlice->JZ,fill->KM
open Or renaming inr->K1,inl->K2
open Prod.mk renaming inj->Kj
open Array renaming range->KG
open Go.VL.QF renaming next->KP
open Go.Value.agg renaming inj->L8
open List.cons renaming injEq->Lc
open Except.ok renaming inj->Le
open Go.Proofs.YtpfpmhhigheccaaGreatDoor.Mac renaming upd->Lo
open Go.Builtin renaming zeroCells->Lr,append_->Ls
set_option maxRecDepth 10000
open Go.VL Go.Proofs Go.Proofs.Tryz
section
namespace Go.VL
open Go.Proofs
theorem jV{P:JW}{N:Nat}{ops:Array Lb}{Q:Exit->Act->G6->Prop}{a0:List Lb}{st:St}{w:G6}{t:I2}{p:String}{e:Array Edge}{x y:Jn} 
  {T:I2} {O:Nat->Nat} {i b:Nat} {cs us:Array ix} {E:I2} (off:Nat) (a1:Array ix) (hb:Jg O w i b cs E) (a2:(cs.toList.take off++us.toList++cs.toList.drop (off+us.size)).toArray=a1) (hs:off+us.size<=cs.size) (hT:(Km T).run P w=.ok us.size w) (h1:us.toList.all GC=true)
  {q:Addr} (hx:ev st x=some (.pointer (some q))) (hq:q=⟨b,off,none⟩) (hy:ev st y=some (.agg us))
  (h:WL P N ops Q a0 st (w.setRow b a1)):WL P N ops Q (⟨none,.store T x y,t,p,e,none⟩::a0) st w:=by
 subst a2;exact jW off hb hs hT h1 hx hq hy h
end Go.VL
namespace Go.Proofs.YtpfpmhhigheccaaGreatDoor
open Go.VL Go.Proofs
set_option maxRecDepth 10000
theorem yC:cD GM 32 #[(0,1),(1,1),(2,1),(3,1),(4,1),(5,6),(11,6)]:=⟨_,underlying32,fun w=>by kernel_rfl⟩
structure TabM where
 ig:Nat
 kp:Nat
 br:Nat
 rules:Int
 groups:List Int
 left:Ke
 lt:List Nat
 right:Ke
 rt:List Nat
abbrev bD(ig kp br:Nat)(a0:Int)(gv:ix)(lc rc:List ix):List ix:=[.int .u64 (ig:Int),.int .u64 (kp:Int),.int .u64 (br:Int),nI a0,gv]++lc++rc
def TabV(w:G6)(v:ix)(t:TabM):Prop:=∃gv lc rc,v=.agg (bD t.ig t.kp t.br t.rules gv lc rc).toArray/\KL w gv t.groups/\Ip w lc t.left t.lt/\Ip w rc t.right t.rt
def TabN(B:Nat)(v:ix):Prop:=∀cs:List ix,v=.agg cs.toArray->Dh B cs
abbrev cS:List ix:=[nI 0,nS,nS,nS,nS,nS]
abbrev tab0:Array ix:=(bD 0 0 0 0 (nS) cS cS).toArray
def je(ts:List R3):Nat->Nat
 |0=>0
 |i+1=>if(nth ts i).2.2=true then je ts i ||| 2^i else je ts i
theorem tQ(ts:List R3):∀i,i<=40->je ts i<2^40
 |0,_=>by unfold je;decide
 |i+1,h=>by
  unfold je
  split
  ·exact Is (tQ ts i zo) (IT zd zo)
  exact tQ ts i zo
abbrev ry(ts:List R3):List Nd:=ts.map (·.1)
abbrev kU(ts:List R3):List Nd:=ts.map (·.2.1)
def lP(li lk:List Int)(ts:List R3)(A B:List (List Nat)×List Nat):TabM:=
 ⟨cL li,cL lk,je ts ts.length,ts.length,ints (bt [A.1,B.1]),dc (bt [A.1,B.1]) (fy (ints (bt [A.1,B.1]))) A.1,A.2,dc (bt [A.1,B.1]) (fy (ints (bt [A.1,B.1]))) B.1,B.2⟩
def PostC(B:Nat)(w:G6)(v:ix)(li lk:List Int)(ts:List R3):Prop:=
 (et li lk ts=false/\v=.tuple #[.agg tab0,nI 1])\/et li lk ts=true/\
  ((∃a b clA clB u,stM true (ry ts)=some a/\stM false (kU ts)=some b/\If a.1 a.2/\If b.1 b.2/\Cls clA a/\Cls clB b/\v=.tuple #[u,nI 0]/\TabV w u (lP li lk ts (cC clA a.1 a.2) (cC clB b.1 b.2))/\TabN B u)\/
   ((stM true (ry ts)=none\/stM false (kU ts)=none)/\v=.tuple #[.agg tab0,nI 7]))
theorem kV{li lk:List Int}{ts:List R3}(h:et li lk ts=true):ts.length<=40/\(∀c∈li,0<=c/\c<=35)/\(∀c∈lk,0<=c/\c<=35)/\∀t∈ts,qK t=true:=by
 have a0:∀ {l:List Int},jy l=true->∀c∈l,0<=c/\c<=35:=fun {l} h c hc=>by
  obtain⟨j,hj,rfl⟩:=Gm hc;have:=bP.1 (show iH (BA l) l.length=false by simpa[jy]using h) j hj;simp only[BA,GZ,decide_eq_false_iff_not]at this;omega
 simp only[et,Gz,decide_eq_true_eq]at h;obtain⟨⟨⟨h1,h2⟩,h3⟩,h4⟩:=h;refine⟨zo,a0 h2,a0 h3,fun t ht=>?_⟩;obtain⟨j,hj,rfl⟩:=Gm ht;have:=bP.1 (show iH (fun i=>!(qK (nth ts i))) ts.length=false by simpa[Fc]using h4) j hj;simpa using this
theorem PostSt.uni{B:Nat}{w:G6}{v:ix}{o:Option (List (List Nat)×List Nat)}(h:PostSt B w v o):∃nv tv,∃e:Int,v=.tuple #[.agg #[nv,tv],nI e]/\nv.oneCell'=true/\tv.oneCell'=true/\(e≠0->o=none)/\
  (e=0->∃d cl,o=some d/\If d.1 d.2/\Cls cl d/\RowsG B w nv (cC cl d.1 d.2).1/\Sl ff 1 w tv (cC cl d.1 d.2).2/\NewV B tv):=by
 cases o with
 |none=>
  obtain⟨e,he,rfl⟩:=h;exact⟨_,_,e,rfl,rfl,rfl,fun _=>rfl,fun e0=>absurd e0 he⟩
 |some d=>
  obtain⟨cl,nv,tv,rfl,o1,o2,h1,h2,h3,h4,h5⟩:=h;exact⟨nv,tv,0,rfl,o1,o2,fun e=>absurd rfl e,fun _=>⟨d,cl,rfl,h1,h2,h3,h4,h5⟩⟩
theorem fF{rows:List (List Nat)}{a0:List Nat}(hr:If rows a0)(cl:Nat->Nat):If (cC cl rows a0).1 (cC cl rows a0).2:=by
 obtain⟨F,h⟩:=iY (cl:=cl) (tl:=nth a0) hr.nx (rows.length+1) 0 [0] [] [] (qo hr.pos) zo;have h1:=h.rl;have h2:=h.tln;have h3:=h.reps.len;have h4:=hr.le;have h5:=h.p0
 exact⟨by show 0<(eQ _ _ _ _ _ _ _ _).1.length;omega,by show(eQ _ _ _ _ _ _ _ _).1.length<=1000;omega,by show(eQ _ _ _ _ _ _ _ _).2.length=(eQ _ _ _ _ _ _ _ _).1.length;omega,fun j hj=>by
  obtain⟨r1,r2⟩:=h.row j (by rw[<-h1];exact hj)
  exact⟨r1,fun m hm=>by have:=(r2 m hm).1;rw[<-h1]at this;exact this⟩⟩
section
variable(li lk:List Int)(ts:List R3)(A B:List (List Nat)×List Nat)
theorem Cf:(lP li lk ts A B).ig=cL li:=rfl
theorem Ce:(lP li lk ts A B).kp=cL lk:=rfl
theorem Cg:(lP li lk ts A B).br=je ts ts.length:=rfl
theorem vB:(lP li lk ts A B).rules=(ts.length:Int):=rfl
theorem sK:(lP li lk ts A B).groups=ints (bt [A.1,B.1]):=rfl
theorem qC:(lP li lk ts A B).left=dc (bt [A.1,B.1]) (fy (ints (bt [A.1,B.1]))) A.1:=rfl
theorem nR:(lP li lk ts A B).right=dc (bt [A.1,B.1]) (fy (ints (bt [A.1,B.1]))) B.1:=rfl
theorem xY:(lP li lk ts A B).lt=A.2:=rfl
theorem xX:(lP li lk ts A B).rt=B.2:=rfl
end
theorem AT{B0:Nat}{w:G6}{li lk:List Int}{ts:List R3}{xs:List X3}{a b A B:List (List Nat)×List Nat}{a6 a5:Nat->Nat}{g:List Nat}{many a7:Nat}{pa pb:Ke}{gv:ix}{lc rc:List ix}(a8:et li lk ts=true)(b4:stM true (ry ts)=some a)(b1:stM false (kU ts)=some b)(b5:If a.1 a.2)(b2:If b.1 b.2)(b6:Cls a6 a)(b3:Cls a5 b) 
  (hA:A=cC a6 a.1 a.2) (hB:B=cC a5 b.1 b.2) (a1:g=bt [A.1,B.1]) (a0:fy (ints g)=many) (a':pa=dc g many A.1) (a9:pb=dc g many B.1) (a4:a7=je ts xs.length) (hl:ts.length=xs.length) (b0:Sl aJ 1 w gv g) (b8:Ip w lc pa A.2) (b7:Ip w rc pb B.2)
  (n1:NewV B0 gv) (n2:Dh B0 lc) (n3:Dh B0 rc):PostC B0 w (.tuple #[.agg (bD (cL li) (cL lk) a7 (xs.length:Nat) gv lc rc).toArray,nI 0]) li lk ts:=by
 refine .inr ⟨a8,.inl ⟨a,b,a6,a5,_,b4,b1,b5,b2,b6,b3,rfl,?_,?_⟩⟩
 ·rw[<-hA,<-hB];have a0:fy (ints (bt [A.1,B.1]))=many:=by rw[<-a1];exact a0
  refine⟨gv,lc,rc,?_,?_,?_,?_⟩
  ·rw[Cf,Ce,Cg,vB,hl,<-a4]
  ·rw[sK,<-a1];exact b0.natIv
  ·rw[qC,xY,a0,<-a1,<-a'];exact b8
  rw[nR,xX,a0,<-a1,<-a9];exact b7
 intro cs a3;have a2:cs=bD (cL li) (cL lk) a7 (xs.length:Nat) gv lc rc:=by
  have:=(L8 a3).symm;simpa using this
 subst a2;intro v hv
 rcases IH.1 hv with hv|hv
 ·rcases IH.1 hv with hv|hv
  ·simp only[Gv,Gu,or_false]at hv
   rcases hv with rfl|rfl|rfl|rfl|rfl
   ·exact fun a n c e=>by cases e
   ·exact fun a n c e=>by cases e
   ·exact fun a n c e=>by cases e
   ·exact fun a n c e=>by cases e
   exact n1
  exact n2 v hv
 exact n3 v hv
set_option maxHeartbeats 1000000 in
theorem tM(li lk:List Int)(ts:List R3)(v:ix)(w:G6)(h:Tx w v li lk ts):
  IS GM 14 [v] w fun u w'=>Jb w w'/\PostC w.heap.size w' u li lk ts:=by
 obtain⟨ig,kp,ru,xs,rfl,hi,hk,l9,hl,hx⟩:=h.ex;have i1:=hi.one;have i2:=hk.one;have i3:=l9.one;refine G8 func14 ntmps14 rfl rfl ?_;refine zh ?_;refine aG (aw w) 1 zo rfl rfl ?_;intro db w1 O1 t' hU1 hR1 hE1;refine ar hR1 2 zo (Gy _) rfl ?_;intro cb w2 O2 u4 x9 hR2 hE2;have m6:=t'.upd x9 zd zd;have n8:GE (fun q=>1<=q) (fun _=>0) w O2 w2:=(hU1.mono (fun _ h=>zo) zd).trans (x9.mono (fun _ h=>zo) zd);have h8:=n8.ext;refine zh ?_;refine zv (ah (us:=[ig,kp,ru]) m6.cellsAdd (isAgg49 _) (sizeOf49 _) rfl) ?_;refine zc call33 (vF li lk ts xs ig kp ru w2 (hi.ext h8) (hk.ext h8) (l9.ext h8) hl (fun i hi=>(hx i hi).ext h8)) ?_;rintro _ w3 ⟨rfl,hE3⟩;have p9:GE (fun _=>False) O2 w2 O2 w3:=aa (fun h=>h) O2 hE3;have j9:=m6.upd p9 zd (fun h=>h);have g8:=u4.upd p9 zd (fun h=>h);have g1:=n8.trans (p9.mono (fun _ h=>h.elim) zd);have hR3:=hR2.upd p9;refine zh ?_
 by_cases s9:et li lk ts=false
 ·refine zTH rfl ((by rw[s9];rfl)) ?_;refine zv (GV (cells:=tab0) yC (Gy _) rfl rfl) ?_
  refine zsa (us:=tab0) g8 (GB _) ?_;have j':=g8.setRow (us:=tab0);have k6:GE (fun j=>j=2) O2 w3 O2 (w3.setRow cb tab0):=Gw zd g8.tag rfl;refine zh ?_
  refine aO rfl rfl rfl (j'.cellsAdd) (Im _) (GB _) (⟨(g1.trans (k6.mono (fun _ h=>zo) zd)).ext,.inl ⟨s9,rfl⟩⟩)
 have l':et li lk ts=true:=by simpa using s9
 obtain⟨h40,x4,t5,hrr⟩:=kV l';refine aX rfl ((by rw[l'];rfl)) ?_;have s8:=l9.ext g1.ext;refine zh ?_;have d0:=j9.drew.cellsAdd;refine aK (fun W=>∀j u,[ig,kp,ru][j]? = some u->W.cell? (nA db j)=some u) 12 rfl zk ?_;refine zrf 0 rfl d0 rfl ?_;refine zt 1 rfl d0 (fun w1 a6=>RV.ld (a6 0 _ rfl) rfl) ?_;refine zrf 3 rfl d0 rfl ?_;refine zt 4 rfl d0 (fun w1 a6=>RV.ld (a6 1 _ rfl) rfl) ?_;refine zrf 6 rfl d0 rfl ?_;refine zt 7 rfl d0 (fun w1 a6=>RV.ld (a6 2 _ rfl) rfl) ?_;refine zr 8 rfl d0 (fun _=>bd s8.sh underlying47 rfl) ?_;refine sq (fun x:Nat×(Nat->Nat)×World=>[(1,nP db),(2,nP cb),(4,.pointer (some ⟨x.1,0,none⟩)),(26,.agg (bD (cL li) (cL lk) 0 (xs.length:Nat) (nS) cS cS).toArray)]) (fun x=>x.2.2) (fun x=>Jg x.2.1 x.2.2 3 x.1 tab0 32/\GE (fun q=>q=3) O2 w3 x.2.1 x.2.2/\Io w.heap.size x.2.1 x.2.2) #[true,true,true,true,true,true,true,true,true,true,true,false] 1 ?_ ?_
 ·intro hN;have hR:=hR3.drew;have hU:GE (fun q=>q=3) O2 w3 O2 w3.drew:=aa zd O2 (Gt w3).drew;have k0:∀O W,GE (fun q=>q=3) O2 w3 O W->∀(j:Nat) (u:ix),[ig,kp,ru][j]? = some u->W.cell? (nA db j)=some u:=fun O W u=>(j9.upd u zd zd).cellsAdd
  have ki:∀O W,GE (fun q=>q=3) O2 w3 O W->Sl encI 1 W ig li:=fun O W u=>hi.ext (g1.trans (u.mono (fun _ h=>zo) zd)).ext
  have kk:∀O W,GE (fun q=>q=3) O2 w3 O W->Sl encI 1 W kp lk:=fun O W u=>hk.ext (g1.trans (u.mono (fun _ h=>zo) zd)).ext
  refine bL 2 10 zk rfl rfl ?_ ?_ 
  ·refine zc Ko (lS li ig _ (ki _ _ hU) x4) ?_;rintro _ wa ⟨rfl,c6⟩;rw[c6];clear c6 wa;refine zh ?_
   refine af (k0 _ _ hU) ?_;refine bL 5 10 zk rfl rfl ?_ ?_ 
   ·refine zc Ko (lS lk kp _ (kk _ _ hU) t5) ?_;rintro _ wa ⟨rfl,c6⟩;rw[c6];clear c6 wa;refine zh ?_
    refine af (k0 _ _ hU) ?_;refine zr 9 rfl (k0 _ _ hU) (fun _=>GV (cells:=(bD (cL li) (cL lk) 0 (xs.length:Nat) (nS) cS cS).toArray) yC (Gy _) rfl rfl) ?_
    refine Gs 10 zk rfl ?_;refine ar hR 3 zd (Gy _) rfl ?_
    intro tb wc Oc fC b0 g2 y0;have hU:=GH hU b0;have hR:=g2;refine zh ?_;refine af (k0 _ _ hU) ?_;exact IJ (hN (tb,_,_) ⟨fC,hU,hR⟩) zk ⟨rfl,rfl,rfl,rfl,trivial⟩ rfl
   refine ar hR 3 zd (Gy _) rfl ?_;intro tb wc Oc fC b0 g2 y0;have hU:=GH hU b0;have hR:=g2;refine zh ?_
   refine af (k0 _ _ hU) ?_;refine Gs 5 zk rfl ?_
   refine zc Ko (lS lk kp _ (kk _ _ hU) t5) ?_;rintro _ wa ⟨rfl,c6⟩;rw[c6];clear c6 wa;refine zh ?_
   refine af (k0 _ _ hU) ?_;refine zr 9 rfl (k0 _ _ hU) (fun _=>GV (cells:=(bD (cL li) (cL lk) 0 (xs.length:Nat) (nS) cS cS).toArray) yC (Gy _) rfl rfl) ?_
   exact IJ (hN (tb,_,_) ⟨fC,hU,hR⟩) zk ⟨rfl,rfl,rfl,rfl,trivial⟩ rfl
  refine ar hR 3 zd (Gy _) rfl ?_;intro tb wc Oc fC b0 g2 y0;have hU:=GH hU b0;have hR:=g2;refine zh ?_
  refine af (k0 _ _ hU) ?_;refine Gs 2 zk rfl ?_
  refine zc Ko (lS li ig _ (ki _ _ hU) x4) ?_;rintro _ wa ⟨rfl,c6⟩;rw[c6];clear c6 wa;refine zh ?_
  refine af (k0 _ _ hU) ?_;refine Gs 5 zk rfl ?_
  refine zc Ko (lS lk kp _ (kk _ _ hU) t5) ?_;rintro _ wa ⟨rfl,c6⟩;rw[c6];clear c6 wa;refine zh ?_
  refine af (k0 _ _ hU) ?_;refine zr 9 rfl (k0 _ _ hU) (fun _=>GV (cells:=(bD (cL li) (cL lk) 0 (xs.length:Nat) (nS) cS cS).toArray) yC (Gy _) rfl rfl) ?_
  exact IJ (hN (tb,_,_) ⟨fC,hU,hR⟩) zk ⟨rfl,rfl,rfl,rfl,trivial⟩ rfl
 rintro⟨tb,O4,w4⟩ ⟨g5,r6,x'⟩;dsimp only at g5 r6 x' ⊢;have t9:=j9.upd r6 zd zd;have u3:=g8.upd r6 zd zd;refine Gs 11 zk rfl ?_;refine zsa (us:=(bD (cL li) (cL lk) 0 (xs.length:Nat) (nS) cS cS).toArray) g5 (GB _) ?_;have s6:=g5.setRow (us:=(bD (cL li) (cL lk) 0 (xs.length:Nat) (nS) cS cS).toArray);have q':GE (fun j=>j=3) O4 w4 O4 (w4.setRow tb (bD (cL li) (cL lk) 0 (xs.length:Nat) (nS) cS cS).toArray):=Gw zd g5.tag rfl;generalize w4.setRow tb (bD (cL li) (cL lk) 0 (xs.length:Nat) (nS) cS cS).toArray=w5 at *;have m5:=t9.upd q' zd zd;have u0:=u3.upd q' zd zd;have hR5:=x'.upd q';have n7:=g1.trans ((r6.trans q').mono (fun _ h=>zo) zd);refine zh ?_;refine af (m5.cellsAdd) ?_;have y7:=l9.ext n7.ext;have c2:w5.cell? (nA db 2)=some ru:=m5.cell 2 rfl;have z6:(2^40:Nat)=1099511627776:=zd;refine Ia zk ?_;refine zh ?_
 refine zlp (fun z:Nat×(Nat->Nat)×World×ix×ix=>[(1,nP db),(2,nP cb),(4,nP tb),(5,z.2.2.2.1),(6,z.2.2.2.2),(28,ru),(29,nI xs.length),(30,nI z.1)]) (fun z=>z.2.2.1) (fun z=>z.1<=xs.length/\GE (fun q=>3<=q) O4 w5 z.2.1 z.2.2.1/\Io w.heap.size z.2.1 z.2.2.1/\Jg z.2.1 z.2.2.1 3 tb (bD (cL li) (cL lk) (je ts z.1) (xs.length:Nat) (nS) cS cS).toArray 32/\Iy bn 86 3 z.2.1 z.2.2.1 4 z.2.2.2.1 ((xs.take z.1).map (·.1))/\Iy bn 86 3 z.2.1 z.2.2.1 5 z.2.2.2.2 ((xs.take z.1).map (·.2.1))) (fun z=>xs.length-z.1) (0,O4,w5,nS,nS) (⟨GA _,Ii zd _ _,hR5,s6,J6 _ _ _ _ _ _,J6 _ _ _ _ _ _⟩) ?_;rintro⟨i,O9,w9,lv,rv⟩ ⟨z1,p',j3,j6,g7,g6⟩;dsimp only at z1 p' j3 j6 g7 g6 ⊢;have h0:=n7.trans (p'.mono (fun _ h=>zo) zd);have s7:=l9.ext h0.ext;have hxl:xs.length<=40:=zo;refine zh ?_
 refine zC ?_ ?_
 ·intro i5;replace i5:i<xs.length:=dT i5;obtain⟨x,p5⟩:∃x,x=nth xs i:=⟨_,rfl⟩
  have p4:=hx i i5;rw[<-p5]at p4;have p1:=p4.1.one;have p2:=p4.2.1.one;have y8:(cM x).toArray.toList.all GC=true:=by obtain⟨x1,x2,bk⟩:=x;exact ju p1 p2
  refine zh ?_;refine zv (ah (us:=cM x) (fun j u hu=>s7.cell i5 (by rw[<-p5];exact hu)) (isAgg88 _) (sizeOf88 _) rfl) ?_
  refine ar j3 6 zo (zeroValue88 _) rfl ?_;intro rb l0 O10 e5 u9 k8 p0;refine zh ?_
  refine zsb (us:=(cM x).toArray) e5 (sizeOf88 _) y8 ?_;have e4:=e5.setRow (us:=(cM x).toArray);have h7:GE (fun j=>j=6) O10 l0 O10 (l0.setRow rb (cM x).toArray):=Gw zd e5.tag rfl;generalize l0.setRow rb (cM x).toArray=d7 at *;have d3:=u9.trans h7;have l6:=j6.upd d3 zd zd;have m2:=g7.upd d3 zd zd;have m0:=g6.upd d3 zd zd;have k7:=k8.upd h7;obtain⟨y6,y5,rc3,_⟩:=jv e4;have hll:((xs.take i).map (·.1)).length=i:=by simp;omega
  have hrl:((xs.take i).map (·.2.1)).length=i:=by simp;omega
  refine zh ?_;refine aK (fun W=>(∀(q:Nat) (u:ix),(bn x.1)[q]? = some u->W.cell? (nA rb q)=some u)/\(∀(q:Nat) (u:ix),(bn x.2.1)[q]? = some u->W.cell? ((nA rb 3).add q)=some u)) 12 rfl zk ?_
  refine zin ⟨y6 _ (Gt d7).drew,y5 _ (Gt d7).drew⟩ fun zS=>?_
  refine zrm 0 rfl zS rfl ?_;refine zrf 1 rfl zS rfl ?_
  refine zt 2 rfl zS (fun w1 a6=>ah (us:=bn x.1) a6.1 (Kw _) (Jl _) rfl) ?_;refine zrm 5 rfl zS rfl ?_
  refine zrf 6 rfl zS rfl ?_;refine zt 7 rfl zS (fun w1 a6=>ah (us:=bn x.2.1) a6.2 (Kw _) (Jl _) rfl) ?_
  refine sq (fun y:ix×ix×(Nat->Nat)×World=>[(1,nP db),(2,nP cb),(4,nP tb),(7,nI (i:Nat)),(8,nP rb),(28,ru),(29,nI xs.length),(30,nI (i:Nat)),(39,y.1),(44,y.2.1)]) (fun y=>y.2.2.2) (fun y=>Iy bn 86 3 y.2.2.1 y.2.2.2 4 y.1 ((xs.take i).map (·.1)++[x.1])/\Iy bn 86 3 y.2.2.1 y.2.2.2 5 y.2.1 ((xs.take i).map (·.2.1)++[x.2.1])/\GE (fun q=>q=4\/q=5\/q=7\/q=8) O10 d7 y.2.2.1 y.2.2.2/\Io w.heap.size y.2.2.1 y.2.2.2) #[true,true,true,true,true,true,true,true,true,true,false,false] 2 ?_ ?_
  ·intro hN;have hR:=k7.drew;have hU:GE (fun q=>q=4\/q=5\/q=7\/q=8) O10 d7 O10 d7.drew:=aa zd O10 (Gt d7).drew;have k0:∀O W,GE (fun q=>q=4\/q=5\/q=7\/q=8) O10 d7 O W->(∀(q:Nat) (u:ix),(bn x.1)[q]? = some u->W.cell? (nA rb q)=some u)/\(∀(q:Nat) (u:ix),(bn x.2.1)[q]? = some u->W.cell? ((nA rb 3).add q)=some u):=fun O W u=>by
    obtain⟨r1,r2,_,_⟩:=jv (e4.upd u zd zd);exact⟨r1 _ (Gt _),r2 _ (Gt _)⟩
   have rA:=m2.drew;have rB:=m0.drew;refine bL 3 8 zk rfl rfl ?_ ?_ 
   ·refine bB elN (enc:=bn) hR 7 zd x.1 rfl rfl rfl zd rfl ?_;intro y4 Wa Oa sA g9 u';have hU:=GH hU (I6 g9 (fun _ h=>.inr (.inr (.inl h))) zd);have hR:=u';have rA:=Gq rA g9 zd zd;have rB:=Gq rB g9 zd zd
    try have sB:=Gq sB g9 zd zd
    refine zh ?_;refine af (k0 _ _ hU) ?_
    refine bL 4 8 zk rfl rfl ?_ ?_ 
    ·refine aC elN rA hR sA.sl (by simp) rfl rfl (by simp) (fun u hu c hc=>by rw[G7.1 hu]at hc;simp only[bn,Gv,Gu,or_false]at hc;rcases hc with rfl|rfl|rfl;rfl;rfl;exact p1) (by simp only[G0];omega) (by simp only[G0];omega) zd rfl ?_;intro h' Wc Oc rA b0 g2;have hU:=GH hU (I6 b0 (fun _ h=>.inl h) zd);have hR:=g2;have rB:=Gq rB b0 zd zd
     try have sB:=Gq sB b0 zd zd
     refine zh ?_;refine af (k0 _ _ hU) ?_
     refine Gs 8 zk rfl ?_;refine bB elN (enc:=bn) hR 8 zd x.2.1 rfl rfl rfl zd rfl ?_
     intro w6 Wb Ob sB d1 o5;have hU:=GH hU (I6 d1 (fun _ h=>.inr (.inr (.inr h))) zd);have hR:=o5;have rA:=Gq rA d1 zd zd;have rB:=Gq rB d1 zd zd
     try have sA:=Gq sA d1 zd zd
     refine zh ?_;refine af (k0 _ _ hU) ?_
     refine Gs 9 zk rfl ?_;refine aC elN rB hR sB.sl (by simp) rfl rfl (by simp) (fun u hu c hc=>by rw[G7.1 hu]at hc;simp only[bn,Gv,Gu,or_false]at hc;rcases hc with rfl|rfl|rfl;rfl;rfl;exact p2) (by simp only[G0];omega) (by simp only[G0];omega) zd rfl ?_
     intro h9 Wd Od rB g3 o4;have hU:=GH hU (I6 g3 (fun _ h=>.inr (.inl h)) zd);have hR:=o4;have rA:=Gq rA g3 zd zd;refine zh ?_;refine af (k0 _ _ hU) ?_;exact IJ (hN (h',h9,_,_) ⟨rA,rB,hU,hR⟩) zk ⟨rfl,rfl,rfl,rfl,rfl,rfl,rfl,rfl,rfl,rfl,trivial⟩ rfl
    refine bB elN (enc:=bn) hR 8 zd x.2.1 rfl rfl rfl zd rfl ?_;intro w6 Wb Ob sB d1 o5;have hU:=GH hU (I6 d1 (fun _ h=>.inr (.inr (.inr h))) zd);have hR:=o5;have rA:=Gq rA d1 zd zd;have rB:=Gq rB d1 zd zd
    try have sA:=Gq sA d1 zd zd
    refine zh ?_;refine af (k0 _ _ hU) ?_
    refine Gs 4 zk rfl ?_;refine aC elN rA hR sA.sl (by simp) rfl rfl (by simp) (fun u hu c hc=>by rw[G7.1 hu]at hc;simp only[bn,Gv,Gu,or_false]at hc;rcases hc with rfl|rfl|rfl;rfl;rfl;exact p1) (by simp only[G0];omega) (by simp only[G0];omega) zd rfl ?_
    intro h' Wc Oc rA b0 g2;have hU:=GH hU (I6 b0 (fun _ h=>.inl h) zd);have hR:=g2;have rB:=Gq rB b0 zd zd
    try have sB:=Gq sB b0 zd zd
    refine zh ?_;refine af (k0 _ _ hU) ?_
    refine Gs 9 zk rfl ?_;refine aC elN rB hR sB.sl (by simp) rfl rfl (by simp) (fun u hu c hc=>by rw[G7.1 hu]at hc;simp only[bn,Gv,Gu,or_false]at hc;rcases hc with rfl|rfl|rfl;rfl;rfl;exact p2) (by simp only[G0];omega) (by simp only[G0];omega) zd rfl ?_
    intro h9 Wd Od rB g3 o4;have hU:=GH hU (I6 g3 (fun _ h=>.inr (.inl h)) zd);have hR:=o4;have rA:=Gq rA g3 zd zd;refine zh ?_;refine af (k0 _ _ hU) ?_;exact IJ (hN (h',h9,_,_) ⟨rA,rB,hU,hR⟩) zk ⟨rfl,rfl,rfl,rfl,rfl,rfl,rfl,rfl,rfl,rfl,trivial⟩ rfl
   refine bB elN (enc:=bn) hR 8 zd x.2.1 rfl rfl rfl zd rfl ?_;intro w6 Wb Ob sB d1 o5;have hU:=GH hU (I6 d1 (fun _ h=>.inr (.inr (.inr h))) zd);have hR:=o5;have rA:=Gq rA d1 zd zd;have rB:=Gq rB d1 zd zd
   try have sA:=Gq sA d1 zd zd
   refine zh ?_;refine af (k0 _ _ hU) ?_
   refine Gs 3 zk rfl ?_;refine bB elN (enc:=bn) hR 7 zd x.1 rfl rfl rfl zd rfl ?_
   intro y4 Wa Oa sA g9 u';have hU:=GH hU (I6 g9 (fun _ h=>.inr (.inr (.inl h))) zd);have hR:=u';have rA:=Gq rA g9 zd zd;have rB:=Gq rB g9 zd zd
   try have sB:=Gq sB g9 zd zd
   refine zh ?_;refine af (k0 _ _ hU) ?_
   refine Gs 4 zk rfl ?_;refine aC elN rA hR sA.sl (by simp) rfl rfl (by simp) (fun u hu c hc=>by rw[G7.1 hu]at hc;simp only[bn,Gv,Gu,or_false]at hc;rcases hc with rfl|rfl|rfl;rfl;rfl;exact p1) (by simp only[G0];omega) (by simp only[G0];omega) zd rfl ?_
   intro h' Wc Oc rA b0 g2;have hU:=GH hU (I6 b0 (fun _ h=>.inl h) zd);have hR:=g2;have rB:=Gq rB b0 zd zd
   try have sB:=Gq sB b0 zd zd
   refine zh ?_;refine af (k0 _ _ hU) ?_
   refine Gs 9 zk rfl ?_;refine aC elN rB hR sB.sl (by simp) rfl rfl (by simp) (fun u hu c hc=>by rw[G7.1 hu]at hc;simp only[bn,Gv,Gu,or_false]at hc;rcases hc with rfl|rfl|rfl;rfl;rfl;exact p2) (by simp only[G0];omega) (by simp only[G0];omega) zd rfl ?_
   intro h9 Wd Od rB g3 o4;have hU:=GH hU (I6 g3 (fun _ h=>.inr (.inl h)) zd);have hR:=o4;have rA:=Gq rA g3 zd zd;refine zh ?_;refine af (k0 _ _ hU) ?_;exact IJ (hN (h',h9,_,_) ⟨rA,rB,hU,hR⟩) zk ⟨rfl,rfl,rfl,rfl,rfl,rfl,rfl,rfl,rfl,rfl,trivial⟩ rfl
  rintro⟨h',h9,O12,g4⟩ ⟨e6,a',b8,a5⟩;dsimp only at e6 a' b8 a5 ⊢;have m1:=e4.upd b8 zd zd;have a9:=l6.upd b8 zd zd;obtain⟨s1,s2,s3,_⟩:=jv m1;have b3:=(p'.trans (d3.mono (fun _ h=>zo) zd)).trans (b8.mono (fun _ h=>zo) zd);have s3':=s3 _ (Gt _);have x6:x.2.2=(nth ts i).2.2:=p4.2.2;have el:(xs.take (i+1)).map (·.1)=(xs.take i).map (·.1)++[x.1]:=by rw[aF i5,Jj,<-p5];rfl
  have er:(xs.take (i+1)).map (·.2.1)=(xs.take i).map (·.2.1)++[x.2.1]:=by rw[aF i5,Jj,<-p5];rfl
  refine zin (⟨s1 _ (Gt _),s2 _ (Gt _)⟩) fun zS=>?_
  refine zra 10 rfl zS rfl ?_;refine zra 11 rfl zS rfl ?_
  refine Ia zk ?_;refine zh ?_
  have z3:=tQ ts i zo;refine zC ?_ ?_
  ·intro hb;have u5:je ts (i+1)=je ts i ||| 2^i:=by rw[show je ts (i+1)=if(nth ts i).2.2=true then je ts i ||| 2^i else je ts i from rfl,if_pos (by rw[<-x6];exact hb)]
   have hpw:2^i<2^40:=IT zd zo;have t2:g4.cell? (nA tb 2)=some (.int .u64 ((je ts i:Nat):Int)):=a9.cell 2 rfl;refine IV 6 rfl rfl zk zk ?_;refine zh ?_;refine zw (ue (a:=1) (b:=i) rfl rfl rfl rfl (by show _<=64;omega) (by show _<=(18446744073709551615:Int);omega)) ?_;rw[Nat.one_mul];refine zwH (oT (a:=je ts i) (b:=2^i) rfl rfl rfl rfl (by show _<=(18446744073709551615:Int);omega) (by show _<=(18446744073709551615:Int);omega)) ?_;refine JA ?_;rw[<-u5];refine aj (j:=2) a9.drew rfl (K9 _) rfl rfl rfl rfl ?_;have h6:GE (fun j=>j=3) O12 g4.drew O12 (g4.drew.setCell ⟨tb,2,none⟩ (.int .u64 ((je ts (i+1):Nat):Int))):=GL zd a9.tag rfl;have l5:Jg O12 (g4.drew.setCell ⟨tb,2,none⟩ (.int .u64 ((je ts (i+1):Nat):Int))) 3 tb (bD (cL li) (cL lk) (je ts (i+1)) (xs.length:Nat) (nS) cS cS).toArray 32:=a9.drew.set 2 _;generalize g4.drew.setCell ⟨tb,2,none⟩ (.int .u64 ((je ts (i+1):Nat):Int))=s0 at *;refine zh ?_;refine zxd (i+1,O12,s0,h',h9) (⟨i5,b3.drew.trans (h6.mono (fun _ h=>zo) zd),a5.drew.upd h6,l5,by dsimp only;rw[el];exact e6.drew.upd h6 zd zd,by dsimp only;rw[er];exact a'.drew.upd h6 zd zd⟩)
  intro hb;have u5:je ts (i+1)=je ts i:=by rw[show je ts (i+1)=if(nth ts i).2.2=true then je ts i ||| 2^i else je ts i from rfl,if_neg (by rw[<-x6,hb];decide)]
  refine zh ?_;refine zxd (i+1,O12,g4,h',h9) (⟨i5,b3,a5,by dsimp only;rw[u5];exact a9,by dsimp only;rw[el];exact e6,by dsimp only;rw[er];exact a'⟩)
 intro p6;obtain rfl:i=xs.length:=dF p6;rw[GG]at g7 g6;have hR9':=j3;refine zh ?_;refine zc call35 (nT true (ry ts) (xs.map (·.1)) lv w9 g7.sl (by simp[hl]) (fun j hj=>by rw[I1]at hj;rw[dV hj,show ry ts=ts.map (·.1)from rfl,dV zo];exact(hx j hj).1.ext h0.ext)) ?_;rintro va l0 ⟨p0,hPa⟩;obtain⟨e0,d9,ea,rfl,a1,a2,ha0,ha1⟩:=hPa.uni;have k5:GE (fun _=>False) O9 w9 O9 l0:=aa (fun h=>h) O9 p0;have k8:=j3.upd k5;refine zh ?_;refine ar k8 7 zo (K7 _) rfl ?_;intro ab d7 O11 f4 h7 k7 hE11;refine zsb (us:=#[e0,d9]) f4 (J1 _) (by simp only[GP,a1,a2];rfl) ?_;have n3:=f4.setRow (us:=#[e0,d9]);have b8:GE (fun j=>j=7) O11 d7 O11 (d7.setRow ab #[e0,d9]):=Gw zd f4.tag rfl;generalize d7.setRow ab #[e0,d9]=g4 at *;have g0:=h7.trans b8;have b3:=(k5.mono (S':=fun q=>q=7) (fun _ h=>h.elim) zd).trans g0;have a5:=k7.upd b8;have a':=g6.upd b3 zd zd;have n5:=h0.trans (b3.mono (fun _ h=>zo) zd);refine zh ?_;refine zc call35 (nT false (kU ts) (xs.map (·.2.1)) rv g4 a'.sl (by simp[hl]) (fun j hj=>by rw[I1]at hj;rw[dV hj,show kU ts=ts.map (·.2.1)from rfl,dV zo];exact(hx j hj).2.1.ext n5.ext)) ?_;rintro vb s0 ⟨v6,hPb⟩;obtain⟨d',d8,eb,rfl,b1,b2,z8,z7⟩:=hPb.uni;have n4:GE (fun _=>False) O11 g4 O11 s0:=aa (fun h=>h) O11 v6;have v2:=a5.upd n4;refine zh ?_;refine ar v2 8 zo (K7 _) rfl ?_
 intro bb r' O14 e' u7 v1 hE14;refine zsb (us:=#[d',d8]) e' (J1 _) (by simp only[GP,b1,b2];rfl) ?_;have i':=e'.setRow (us:=#[d',d8]);have n6:GE (fun j=>j=8) O14 r' O14 (r'.setRow bb #[d',d8]):=Gw zd e'.tag rfl;generalize r'.setRow bb #[d',d8]=w15 at *;have b7:=u7.trans n6;have f8:=(n4.mono (S':=fun q=>q=8) (fun _ h=>h.elim) zd).trans b7;have b9:=(g0.mono (S':=fun q=>q=7\/q=8) (fun _ h=>.inl h) zd).trans (f8.mono (fun _ h=>.inr h) zd);have f5:=(k5.mono (S':=fun q=>q=7\/q=8) (fun _ h=>h.elim) zd).trans b9;have o7:=v1.upd n6;have d2:=h0.trans (f5.mono (fun _ h=>zo) zd);have j1:=n3.upd f8 zd zd;have l4:=j6.upd f5 zd zd;have a4:=(u0.upd p' zd zd).upd f5 zd zd;refine zh ?_
 by_cases p8:ea=0
 ·refine ao (d:=66) rfl (b':=false) ((by rw[p8];rfl)) ?_;refine zh ?_
  by_cases p7:eb=0
  ·obtain⟨a,y3,z9,x8,z',j8,j5,l3⟩:=ha1 p8;obtain⟨b,y2,z4,x7,z5,j7,j4,l2⟩:=z7 p7;have r8:=fF x8 y3;have r7:=fF x7 y2;obtain⟨A,hA⟩:∃A,A=cC y3 a.1 a.2:=⟨_,rfl⟩
   obtain⟨B,hB⟩:∃B,B=cC y2 b.1 b.2:=⟨_,rfl⟩
   rw[<-hA]at r8 j8 j5;rw[<-hB]at r7 j7 j4;refine zFH rfl ((by rw[p7];rfl)) ?_;refine zv (ah (us:=[e0,d9]) j1.cellsAdd (Kv _) (J1 _) rfl) ?_;refine zv (ah (us:=[d',d8]) i'.cellsAdd (Kv _) (J1 _) rfl) ?_;refine iB underlying119 (J1 _) (K7 _) xc [(e0,d9),(d',d8)] rfl rfl rfl rfl zk (by simp) rfl ?_;intro l1 p3 l8 o';have g':GE (fun _=>False) O14 w15 O14 p3:=aa (fun h=>h) O14 o';have f':=b9.trans (g'.mono (S':=fun q=>q=7\/q=8) (fun _ h=>h.elim) zd);have f7:=b7.trans (g'.mono (S':=fun q=>q=8) (fun _ h=>h.elim) zd);have v':=j8.upd j3 f';have v8:=j7.upd a5 f7;have o2:=l3.slU j5 j3 f';have o0:=l2.slU j4 a5 f7
   have n9:TabsD p3 l1 [(e0,d9),(d',d8)] [A.1,B.1] [A.2,B.2]:=⟨l8,rfl,rfl,fun i hi=>by
    match i,hi with
    |0,_=>exact⟨by rw[au,au];exact v'.rows,by rw[au,au];exact o2,by rw[au,au];exact r8⟩
    |1,_=>exact⟨by rw[bp,bp,au,au];exact v8.rows,by rw[bp,bp,au,au];exact o0,by rw[bp,bp,au,au];exact r7⟩⟩
   refine zc call36 (vW [(e0,d9),(d',d8)] [A.1,B.1] [A.2,B.2] l1 p3 n9 (by simp)) ?_;rintro gv k' ⟨c8,v5,i6⟩;obtain⟨many,hg,m4⟩:=oz [A.1,B.1];obtain⟨g,p6⟩:∃g,g=bt [A.1,B.1]:=⟨_,rfl⟩
   rw[<-p6]at hg m4 c8;have x5:∀T∈[A,B],∀p,p<T.1.length->∀i j,i<37->j<37->nth g i=nth g j->nth (nth T.1 p) i=nth (nth T.1 p) j:=fun T hT p hp i j hi hj e=>by
    refine vd (tabs:=[A.1,B.1]) (fun rows e2 r hr=>?_) ((m4 i j hi hj).1 e) T.1 ?_ _ (aN hp)
    ·have o3:∃w0,If rows w0:=by
      rcases Gv.1 e2 with rfl|e2
      ·exact⟨_,r8⟩
      rw[G7.1 e2];exact⟨_,r7⟩
     obtain⟨w0,o3⟩:=o3;obtain⟨q,hq,rfl⟩:=Gm hr;have h1:=(o3.row q hq).2 i hi;have h2:=(o3.row q hq).2 j hj;have:=o3.le;omega
    rcases Gv.1 hT with rfl|hT
    ·simp
    rw[G7.1 hT];simp
   have u6:GE (fun _=>False) O14 p3 O14 k':=aa (fun h=>h) O14 v5;have b6:=g'.trans u6;have e1:=l4.upd b6 zd (fun h=>h);have v0:=o7.upd b6;have y1:=c8.one;have i8:=i6.free c8 (fun x _=>by simp) (o7.upd g');refine zh ?_;refine aj (j:=4) e1 rfl (I4 _) y1 rfl rfl rfl ?_;have h5:GE (fun j=>j=3) O14 k' O14 (k'.setCell ⟨tb,4,none⟩ gv):=GL zd e1.tag rfl;have c7:Jg O14 (k'.setCell ⟨tb,4,none⟩ gv) 3 tb (bD (cL li) (cL lk) (je ts xs.length) (xs.length:Nat) gv cS cS).toArray 32:=e1.set 4 _;generalize k'.setCell ⟨tb,4,none⟩ gv=w18 at *;have e7:=c8.upd i8 h5;have i7:=i8.upd h5;have o6:=v0.upd h5;have a0:=(b6.mono (S':=fun q=>q=3) (fun _ h=>h.elim) zd).trans h5;have c':=j1.upd a0 zd zd;have c9:=i'.upd a0 zd zd;have m9:=a4.upd a0 zd zd;have j2:=d2.trans (a0.mono (fun _ h=>zo) zd);have f9:=(b9.mono (S':=fun q=>q=3\/q=7\/q=8) (fun _ h=>.inr h) zd).trans (a0.mono (fun _ h=>.inl h) zd);have f6:=(b7.mono (S':=fun q=>q=3\/q=8) (fun _ h=>.inr h) zd).trans (a0.mono (fun _ h=>.inl h) zd);have v9:=j8.upd j3 f9;have v7:=j7.upd a5 f6;have o1:=l3.slU j5 j3 f9;have n':=l2.slU j4 a5 f6;refine zh ?_;have d4:w18.drew.cell? (nA tb 4)=some gv:=c7.cell 4 rfl;refine aK (fun W=>W.cell? (nA tb 4)=some gv/\(∀j u,[e0,d9][j]? = some u->W.cell? (nA ab j)=some u)/\∀j u,[d',d8][j]? = some u->W.cell? (nA bb j)=some u) 12 rfl zk ?_;refine zin ⟨d4,c'.drew.cellsAdd,c9.drew.cellsAdd⟩ fun zS=>?_
   refine zrf 0 rfl zS rfl ?_;refine zt 1 rfl zS (fun w1 a6=>RV.ld a6.1 rfl) ?_
   refine zt 2 rfl zS (fun w1 a6=>ah (us:=[e0,d9]) a6.2.1 (Kv _) (J1 _) rfl) ?_;refine zrf 4 rfl zS rfl ?_
   refine zt 5 rfl zS (fun w1 a6=>RV.ld a6.1 rfl) ?_;refine zt 6 rfl zS (fun w1 a6=>ah (us:=[d',d8]) a6.2.2 (Kv _) (J1 _) rfl) ?_
   have g3:GE (fun _=>False) O14 w18 O14 w18.drew:=aa (fun h=>h) O14 (Gt w18).drew;refine Gs 3 zk rfl ?_;refine zc call37 (uC g many gv e0 d9 A.1 A.2 w18.drew hg e7.drew (v9.ext (Gt w18).drew).rows o1.drew r8 (x5 A (by simp))) ?_;rintro _ r9 ⟨lc,rfl,y',t4,o9⟩;have d5:GE (fun _=>False) O14 w18 O14 r9:=g3.trans (aa (fun h=>h) O14 o9);have a3:Jb w18 r9:=(Gt w18).drew.trans o9;refine zh ?_;refine af (⟨a3.cell (c7.cell 4 rfl),(c'.upd d5 zd (fun h=>h)).cellsAdd,(c9.upd d5 zd (fun h=>h)).cellsAdd⟩) ?_;refine zrf 8 rfl (⟨a3.cell (c7.cell 4 rfl),(c'.upd d5 zd (fun h=>h)).cellsAdd,(c9.upd d5 zd (fun h=>h)).cellsAdd⟩) rfl ?_;refine Gs 7 zk rfl ?_;refine zc call37 (uC g many gv d' d8 B.1 B.2 r9 hg (e7.ext a3) (v7.ext a3).rows (n'.ext a3) r7 (x5 B (by simp))) ?_;rintro _ k9 ⟨rc,rfl,y9,e3,o8⟩;have b5:GE (fun _=>False) O14 w18 O14 k9:=d5.trans (aa (fun h=>h) O14 o8);have a8:=c7.upd b5 zd (fun h=>h);have j0:=c'.upd b5 zd (fun h=>h);have i9:=c9.upd b5 zd (fun h=>h);have m8:=m9.upd b5 zd (fun h=>h);have m3:=y'.ext o8;refine zh ?_;refine af (⟨a8.cell 4 rfl,j0.cellsAdd,i9.cellsAdd⟩) ?_;obtain⟨u1,b4,k1,n1,t1,t6,s5,k4,t8,t3,w8⟩:=m3;obtain⟨u2,d6,k2,n2,t2,s',s4,k3,t7,t0,w7⟩:=y9;subst t6;subst s';have q1:=s5.one;have q2:=k4.one;have q3:=t8.one;have q4:=t3.one;have q5:=w8.one;have r1:=s4.one;have r2:=k3.one;have r3:=t7.one;have r4:=t0.one;have r5:=w7.one;obtain⟨pa,x3⟩:∃pa,pa=dc g many A.1:=⟨_,rfl⟩
   obtain⟨pb,x0⟩:∃pb,pb=dc g many B.1:=⟨_,rfl⟩
   rw[<-x3]at s5 k4 t8 t3 t4 ⊢;rw[<-x0]at s4 k3 t7 t0 e3 ⊢;obtain⟨c5,m'⟩:∃c5,c5=je ts xs.length:=⟨_,rfl⟩
   rw[<-m']at a8;refine Gs 9 zk rfl ?_;refine jV (us:=#[nI pa.width,u1,b4,k1,n1,t1]) 5 (bD (cL li) (cL lk) c5 (xs.length:Nat) gv [nI pa.width,u1,b4,k1,n1,t1] cS).toArray a8 rfl (by show 5+6<=17;omega) (GY _) (by simp only[GP,q1,q2,q3,q4,q5];rfl) rfl rfl rfl ?_;have a7:=a8.setRow (us:=(bD (cL li) (cL lk) c5 (xs.length:Nat) gv [nI pa.width,u1,b4,k1,n1,t1] cS).toArray);have h4:GE (fun j=>j=3) O14 k9 O14 (k9.setRow tb (bD (cL li) (cL lk) c5 (xs.length:Nat) gv [nI pa.width,u1,b4,k1,n1,t1] cS).toArray):=Gw zd a8.tag rfl;generalize k9.setRow tb (bD (cL li) (cL lk) c5 (xs.length:Nat) gv [nI pa.width,u1,b4,k1,n1,t1] cS).toArray=w21 at *;have f3:=j0.upd h4 zd zd;have e9:=i9.upd h4 zd zd;have m7:=m8.upd h4 zd zd;refine zh ?_;refine af (⟨a7.cell 4 rfl,f3.cellsAdd,e9.cellsAdd⟩) ?_;refine zrf 10 rfl (⟨a7.cell 4 rfl,f3.cellsAdd,e9.cellsAdd⟩) rfl ?_;refine Gs 11 zk rfl ?_;refine jV (us:=#[nI pb.width,u2,d6,k2,n2,t2]) 11 (bD (cL li) (cL lk) c5 (xs.length:Nat) gv [nI pa.width,u1,b4,k1,n1,t1] [nI pb.width,u2,d6,k2,n2,t2]).toArray a7 rfl (by show 11+6<=17;omega) (GY _) (by simp only[GP,r1,r2,r3,r4,r5];rfl) rfl rfl rfl ?_;have i0:=a7.setRow (us:=(bD (cL li) (cL lk) c5 (xs.length:Nat) gv [nI pa.width,u1,b4,k1,n1,t1] [nI pb.width,u2,d6,k2,n2,t2]).toArray)
   have h3:GE (fun j=>j=3) O14 w21 O14 (w21.setRow tb (bD (cL li) (cL lk) c5 (xs.length:Nat) gv [nI pa.width,u1,b4,k1,n1,t1] [nI pb.width,u2,d6,k2,n2,t2]).toArray):=Gw zd a7.tag rfl;generalize w21.setRow tb (bD (cL li) (cL lk) c5 (xs.length:Nat) gv [nI pa.width,u1,b4,k1,n1,t1] [nI pb.width,u2,d6,k2,n2,t2]).toArray=w22 at *;have e8:=m7.upd h3 zd zd;refine zh ?_;refine af (⟨i0.cell 4 rfl,(f3.upd h3 zd zd).cellsAdd,(e9.upd h3 zd zd).cellsAdd⟩) ?_;have go2:=y1;have n0:(bD (cL li) (cL lk) c5 (xs.length:Nat) gv [nI pa.width,u1,b4,k1,n1,t1] [nI pb.width,u2,d6,k2,n2,t2]).toArray.toList.all GC=true:=by
    simp only[bD,K6,Ij,GP,go2,q1,q2,q3,q4,q5,r1,r2,r3,r4,r5];rfl
   refine Ia zk ?_;refine zh ?_
   refine zv (ah (us:=bD (cL li) (cL lk) c5 (xs.length:Nat) gv [nI pa.width,u1,b4,k1,n1,t1] [nI pb.width,u2,d6,k2,n2,t2]) i0.cellsAdd (Im _) (GB _) rfl) ?_;refine zsb (us:=(bD (cL li) (cL lk) c5 (xs.length:Nat) gv [nI pa.width,u1,b4,k1,n1,t1] [nI pb.width,u2,d6,k2,n2,t2]).toArray) e8 (GB _) n0 ?_
   have j':=IQ (us:=(bD (cL li) (cL lk) c5 (xs.length:Nat) gv [nI pa.width,u1,b4,k1,n1,t1] [nI pb.width,u2,d6,k2,n2,t2]).toArray) e8;have k6:GE (fun j=>j=2) O14 w22 O14 (w22.setRow cb (bD (cL li) (cL lk) c5 (xs.length:Nat) gv [nI pa.width,u1,b4,k1,n1,t1] [nI pb.width,u2,d6,k2,n2,t2]).toArray):=Gw zd e8.tag rfl;have hU20z:=((h4.mono (S':=fun q=>q=2\/q=3) (fun _ h=>.inr h) zd).trans (h3.mono (fun _ h=>.inr h) zd)).trans (k6.mono (fun _ h=>.inl h) zd);have hPL:Ip k9 [nI pa.width,u1,b4,k1,n1,t1] pa A.2:=⟨u1,b4,k1,n1,t1,rfl,s5,k4,t8,t3,w8⟩
   have hPR:Ip k9 [nI pb.width,u2,d6,k2,n2,t2] pb B.2:=⟨u2,d6,k2,n2,t2,rfl,s4,k3,t7,t0,w7⟩
   have v4:=hPL.upd t4 o6.drew hU20z;have v3:=hPR.upd e3 (o6.upd d5) hU20z;have z2:=(e7.upd i7 b5).upd (i7.upd b5) hU20z;have i4:=j2.size;have l7:=a3.size;refine zh ?_;refine aO rfl rfl rfl (j'.cellsAdd) (Im _) (GB _) (⟨((j2.trans (b5.mono (fun _ h=>h.elim) zd)).trans (hU20z.mono (fun _ h=>zo) zd)).ext,AT l' z9 z4 x8 x7 z' z5 hA hB p6 hg.cnt x3 x0 m' hl z2 v4 v3 (i6.mono (JD d2.size o'.size)) (fun v hv=>(t4 v hv).mono i4) (fun v hv=>(e3 v hv).mono (JD i4 l7))⟩)
  refine zTH rfl ((by simpa using p7)) ?_;refine zv (GV (cells:=tab0) yC (Gy _) rfl rfl) ?_
  refine zsa (us:=tab0) a4 (GB _) ?_;have j':=IQ (us:=tab0) a4;have k6:GE (fun j=>j=2) O14 w15 O14 (w15.setRow cb tab0):=Gw zd a4.tag rfl;refine zh ?_
  refine aO rfl rfl rfl (j'.cellsAdd) (Im _) (GB _) (⟨(d2.trans (k6.mono (fun _ h=>zo) zd)).ext,.inr ⟨l',.inr ⟨(.inr (z8 p7)),rfl⟩⟩⟩)
 refine ao (d:=66) rfl (b':=true) ((by simpa using p8)) ?_;refine zh ?_
 refine zTH rfl rfl ?_;refine zv (GV (cells:=tab0) yC (Gy _) rfl rfl) ?_
 refine zsa (us:=tab0) a4 (GB _) ?_;have j':=IQ (us:=tab0) a4;have k6:GE (fun j=>j=2) O14 w15 O14 (w15.setRow cb tab0):=Gw zd a4.tag rfl;refine zh ?_
 refine aO rfl rfl rfl (j'.cellsAdd) (Im _) (GB _) (⟨(d2.trans (k6.mono (fun _ h=>zo) zd)).ext,.inr ⟨l',.inr ⟨(.inl (ha0 p8)),rfl⟩⟩⟩)
end Go.Proofs.YtpfpmhhigheccaaGreatDoor
end
namespace Go.Proofs.YtpfpmhhigheccaaGreatDoor
def CM(l:List Int):Int:=l.foldl max (nth l 0)
theorem A4(l:List Int)(sv:ix)(w:G6)(h:KL w sv l)(a1:0<l.length):IS GM 51 [sv] w fun v w'=>v=nI (CM l)/\w'=w:=by
 have hl:=h.len_le;have m0:w.cell? (adr sv 1 0)=some (nI (nth l 0)):=by have:=h.cell (j:=0) a1 rfl;rwa[az]at this
 have e1:nth l 0=(l.take 1).foldl max (nth l 0):=by
  rw[aF a1];simp
 have a2:CM l=(l.take l.length).foldl max (nth l 0):=by rw[GG];rfl
 rw[a2];obtain⟨z0,a3⟩:∃z,z=nth l 0:=⟨_,rfl⟩
 rw[<-a3]at m0 e1 ⊢;refine G8 func51 ntmps51 rfl rfl ?_;refine zh ?_;refine zFH rfl ((decide_eq_false zo)) ?_;refine zlp (fun z:Nat×Int=>[(0,sv),(3,nI z.2),(4,nI z.1)]) (fun z=>w) (fun z=>1<=z.1/\z.1<=l.length/\z.2=(l.take z.1).foldl max z0) (fun z=>l.length-z.1) (1,z0) (⟨GK _,a1,e1⟩) ?_;rintro⟨q,m⟩ ⟨a4,hq,hm⟩;dsimp only at a4 hq hm ⊢;refine zh ?_;refine zC ?_ ?_
 ·intro a0;replace a0:q<l.length:=dT a0;have m1:w.cell? (adr sv 1 q)=some (nI (nth l q)):=by have:=h.cell (j:=0) a0 rfl;rwa[az]at this
  refine zh ?_;refine zvH (jg rfl rfl) ?_
  refine zxd (q+1,max m (nth l q)) (⟨by dsimp only;omega,a0,by dsimp only;rw[aF a0,JX,<-hm];rfl⟩)
 intro a5;obtain rfl:q=l.length:=dF a5;refine zh ?_;refine ae rfl rfl (⟨by rw[hm],rfl⟩)
theorem ny{F:KW}(hF:∀(args:Array ix) (w:G6),(callFunc F args).run GM w=.ok (.enter F args) w)(cs:Array ix)(l:List (Nat))(sv:ix)(q:Nat->Bool)(w:G6)(h:Sl ff 1 w sv l) 
  (hq:∀i,i<l.length->∀w',Jb w w'->IS GM F ([(fun n:Nat=>JV .u64 (n:Int)) (nth l i)]++cs.toList) w' fun v w''=>v=.bool (q i)/\Jb w' w'') :
  IS GM 76 [sv,.func (.func F) #[] cs] w fun v w'=>v=nI (dh q l.length)/\Jb w w':=by
 have hl:=h.len_le;refine G8 func76 ntmps76 rfl rfl ?_;refine zh ?_;refine zlp (fun x:Nat×G6=>[(0,sv),(1,.func (.func F) #[] cs),(7,nI l.length),(8,nI x.1)]) (fun x=>x.2) (fun x=>x.1<=l.length/\Jb w x.2/\∀i,i<x.1->q i=false) (fun x=>l.length-x.1) (0,w) (⟨GA _,Gt _,fun i hi=>absurd hi (IM i)⟩) ?_;rintro⟨k,w1⟩ ⟨hk,hE,a1⟩;dsimp only at hk hE a1 ⊢;have h1:=h.ext hE;refine zh ?_;refine zC ?_ ?_
 ·intro a0;replace a0:k<l.length:=dT a0;refine zh ?_;refine zv (RV.ld (by have:=h1.cell (i:=k) (j:=0) a0 rfl;rwa[az]at this) rfl) ?_;refine df rfl hF rfl (hq k a0 w1 hE) rfl ?_;rintro v w2 ⟨rfl,a3⟩;refine zh ?_;refine zC ?_ ?_
  ·intro hy;refine zh ?_;refine ae rfl rfl (⟨by rw[bY a0 hy a1],hE.trans a3⟩)
  intro hy;refine zh ?_;refine zxd (k+1,w2) (⟨a0,hE.trans a3,fun i hi=>(Jw.1 hi).elim (a1 i) (fun e=>by rw[e];exact hy)⟩)
 intro a2;replace a2:l.length<=k:=dF a2;refine zh ?_;refine ae rfl rfl (⟨by rw[bW fun i hi=>a1 i zo],hE⟩)
theorem kJ{F:KW}(hF:∀(args:Array ix) (w:G6),(callFunc F args).run GM w=.ok (.enter F args) w)(cs:Array ix)(l:List (Nat))(sv:ix)(q:Nat->Bool)(w:G6)(h:Sl ff 1 w sv l) 
  (hq:∀i,i<l.length->∀w',Jb w w'->IS GM F ([(fun n:Nat=>JV .u64 (n:Int)) (nth l i)]++cs.toList) w' fun v w''=>v=.bool (q i)/\Jb w' w'') :
  IS GM 47 [sv,.func (.func F) #[] cs] w fun v w'=>v=.bool (iH q l.length)/\Jb w w':=by
 refine G8 func47 ntmps47 rfl rfl ?_;refine zh ?_
 refine zc call76 (ny hF cs l sv q w h hq) ?_;rintro v w1 ⟨rfl,hE⟩;refine zh ?_
 refine ae rfl rfl (⟨by rw[firstN_any],hE⟩)
theorem zM(b a0:Nat)(a:Addr)(w:G6)(hr:a0<=64)(hc:w.cell? a=some (nI (a0:Nat))):IS GM 48 [.int .u64 (b:Nat),.pointer (some a)] w fun v w'=>v=.bool (!(b / 2^a0==0))/\w'=w:=by
 have e:((((b / 2^a0:Nat):Int)) != 0) = !(b / 2^a0==0):=by
  generalize b / 2^a0=q
  by_cases h:q=0
  ·subst h;rfl
  rw[beq_eq_false_iff_ne.2 h];simpa using h
 refine G8 func48 ntmps48 rfl rfl ?_;refine zh ?_
 refine zvH (gS (a:=b) (b:=a0) rfl rfl rfl rfl (by show _<=64;omega)) ?_;refine ae rfl rfl (⟨by rw[<-e],rfl⟩)
theorem zL(a0:List Int)(rv lv:ix)(n:Nat)(a:Addr)(w:G6)(h:KL w rv a0)(a2:0<a0.length)(a1:Shape lv n)(hc:w.cell? a=some lv):IS GM 50 [rv,.pointer (some a)] w fun v w'=>v=.bool (decide ((n:Int)<=CM a0))/\Jb w w':=by
 refine G8 func50 ntmps50 rfl rfl ?_;refine zh ?_
 refine Ll zk zk ?_;refine zh ?_
 refine WS.call call51 rfl (A4 a0 rv _ h.drew a2) rfl ?_;refine zh ?_
 refine zwH (bd a1 JP rfl) ?_;refine WS.nil ?_
 refine zh ?_;refine ae rfl rfl (⟨rfl,(Gt w).drew⟩)
def gg(p:Ke)(tl:List Nat)(many a0:Nat):Bool:=
 cE p&&(p.width==(many:Int)) && !((fo p).length==0)&&(tl.length==(fo p).length) && !(iH (fun i=>!(nth tl i / 2^a0==0)) tl.length) && !(iH (fun i=>decide (((fo p).length:Int)<=CM (nth (fo p) i))) (fo p).length)
theorem kH(p:Ke):(fo p).length=p.usual.length/\∀i,i<p.usual.length->(nth (fo p) i).length=p.width.toNat:=by
 refine⟨by simp[fo],fun i hi=>?_⟩;unfold fo;rw[fw _ _ _ hi];simp[AB]
theorem rP(cs:List ix)(p:Ke)(tl:List Nat)(many a0:Nat)(w:G6)(h:Ip w cs p tl)(hr:a0<=64):
  IS GM 30 [.agg cs.toArray,nI (many:Nat),nI (a0:Nat)] w fun v w'=>v=.bool (gg p tl many a0)/\Jb w w':=by
 obtain⟨uv,bv,kv,nv,tv,rfl,d3,d9,d8,d7,c'⟩:=h;obtain⟨a5,d4⟩:=kH p;have c9:=c'.len_le;refine G8 func30 ntmps30 rfl rfl ?_;refine zh ?_;refine aG (aw w) 1 zo rfl rfl ?_;intro db w1 O1 c7 e3 e5 f6;refine aG e5 2 zo rfl rfl ?_;intro yb w2 O2 b7 d2 e4 f5;have a9:=c7.upd d2 zd zd;have a':=(e3.mono (S':=fun q=>1<=q) (fun _ h=>zo) zd).trans (d2.mono (fun _ h=>zo) zd);have a4:=a'.ext
 have e8:∀(j:Nat) (u:ix),[nI p.width,uv,bv,kv,nv][j]? = some u->w2.cell? ((nA db 0).add j)=some u:=fun j u hu=>a9.cellsAdd j u (by
  match j,hu with
  |0,hu=>exact hu
  |1,hu=>exact hu
  |2,hu=>exact hu
  |3,hu=>exact hu
  |4,hu=>exact hu)
 refine zh ?_;refine zv (ah (us:=[nI p.width,uv,bv,kv,nv]) e8 (L5 _) (IN _) rfl) ?_
 refine zc call46 (qS p _ w2 ⟨uv,bv,kv,nv,rfl,d3.ext a4,d9.ext a4,d8.ext a4,d7.ext a4⟩) ?_;rintro _ w3 ⟨rv,rfl,a7,e7⟩;have b4:GE (fun _=>False) O2 w2 O2 w3:=aa (fun h=>h) O2 e7;have f3:=e4.upd b4;have b6:=b7.upd b4 zd (fun h=>h);have c6:=a9.upd b4 zd (fun h=>h);have c8:=a'.trans (b4.mono (fun _ h=>h.elim) zd);have ro:rv.oneCell'=true:=by
  split at a7
  ·obtain⟨b1,h1,_⟩:=a7;exact h1.one
  rw[a7];rfl
 refine zh ?_;refine ar (aw w3) 3 zo (zeroValue89 _) rfl ?_
 intro lb w4 O4 a6 e0 e' f4;refine aj (j:=0) a6 rfl (sizeOf89 _) ro rfl rfl rfl ?_;have d':GE (fun j=>j=3) O4 w4 O4 (w4.setCell ⟨lb,0,none⟩ rv):=GL zd a6.tag rfl;have c5:Jg O4 (w4.setCell ⟨lb,0,none⟩ rv) 3 lb #[rv] 89:=a6.set 0 _;have a3:Jb w3 (w4.setCell ⟨lb,0,none⟩ rv):=(e0.trans d').ext;generalize w4.setCell ⟨lb,0,none⟩ rv=w5 at *;have a1:Jb w w5:=c8.ext.trans a3;have a8:=c6.ext a3;have b5:=b6.ext a3;have d0:w5.cell? (((nA db 0)).add 0)=some (nI p.width):=a8.cell 0 rfl;have d5:w5.cell? (nA db 5)=some tv:=a8.cell 5 rfl;have l0:w5.cell? ⟨lb,0,none⟩=some rv:=c5.cell 0 rfl;have y0:w5.cell? ⟨yb,0,none⟩=some (nI (a0:Nat)):=b5.cell 0 rfl;have b8:=c'.ext a1;refine zh ?_
 cases b3:cE p with
 |false=>
  refine ao (d:=17) rfl (b':=true) (rfl) ?_;refine zh ?_
  refine zTH rfl rfl ?_;refine ae rfl rfl (⟨by unfold gg;rw[b3];rfl,a1⟩)
 |true=>
  rw[b3,if_pos rfl]at a7;obtain⟨b1,d1,a2,d6⟩:=a7.ext a3;have ok:=okP p b3;have e9:=ok.w1;refine ao (d:=17) rfl (b':=false) (rfl) ?_;refine zh ?_
  by_cases h1:p.width=(many:Int)
  ·refine ao (d:=24) rfl (b':=false) ((by rw[h1];simp)) ?_;refine zh ?_
   by_cases h2:p.usual.length=0
   ·refine ao (d:=29) rfl (b':=true) ((by rw[a2,a5,h2];rfl)) ?_;refine zh ?_
    refine zTH rfl rfl ?_;refine ae rfl rfl (⟨by unfold gg;rw[a5,h2];simp,a1⟩)
   refine ao (d:=29) rfl (b':=false) ((by rw[a2,a5,beq_eq_false_iff_ne];omega)) ?_;refine zh ?_
   by_cases h3:tl.length=p.usual.length
   ·refine zFH rfl ((by rw[a2,a5,h3];simp)) ?_;refine zv (dH rfl rfl) ?_
    refine zc call47 (kJ call48 #[nP yb] tl tv (fun i=>!(nth tl i / 2^a0==0)) w5 b8 (fun i hi w' b2=>(zM (nth tl i) a0 _ w' hr (b2.cell y0)).mono fun v w'' ⟨e1,e2⟩=>⟨e1,e2▸Gt _⟩)) ?_;rintro _ w6 ⟨rfl,b0⟩;refine zh ?_
    cases h4:iH (fun i=>!(nth tl i / 2^a0==0)) tl.length with
    |true=>
     refine zTH rfl rfl ?_;refine ae rfl rfl (⟨by unfold gg;rw[h4];simp,a1.trans b0⟩)
    |false=>
     have b9:=d1.ext b0;have l6:w6.cell? ⟨lb,0,none⟩=some rv:=b0.cell l0;refine zFH rfl rfl ?_;refine zv (dH rfl rfl) ?_;refine zc call49 (eT call50 #[nP lb] b1 rv (fun i=>decide (((fo p).length:Int)<=CM (nth (fo p) i))) w6 b9 (fun i hi w' b2=>by have:=zL (nth (fo p) i) (nth b1 i) rv b1.length ⟨lb,0,none⟩ w' (((d6 i zo).ext b0).ext b2) (by rw[d4 i zo];omega) d1.sh (b2.cell l6);rw[a2]at this;exact this)) ?_;rintro _ w7 ⟨rfl,e6⟩;refine zh ?_;refine ae rfl rfl (⟨by unfold gg;rw[b3,h1,h4,a5,h3,a2,a5,beq_eq_false_iff_ne.2 h2];simp,(a1.trans b0).trans e6⟩)
   refine zTH rfl ((by rw[a2,a5];simp;omega)) ?_;refine ae rfl rfl (⟨by unfold gg;rw[a5,beq_eq_false_iff_ne.2 h3];simp,a1⟩)
  refine ao (d:=24) rfl (b':=true) ((by simpa using h1)) ?_;refine zh ?_
  refine zTH rfl rfl ?_;refine ae rfl rfl (⟨by unfold gg;rw[beq_eq_false_iff_ne.2 h1];simp,a1⟩)
end Go.Proofs.YtpfpmhhigheccaaGreatDoor
section
namespace Go.VL
theorem add_add(b i j:Nat):(nA b i).add j=⟨b,i+j,none⟩:=by simp only[JI];split<;>split<;>simp_all
end Go.VL
namespace Go.Proofs.YtpfpmhhigheccaaGreatDoor
open Go.VL Go.Proofs
set_option maxRecDepth 10000
structure TabB(w:G6)(b:Nat)(t:TabM)(gv:ix)(lc rc:List ix):Prop where
 cells:∀j u,(bD t.ig t.kp t.br t.rules gv lc rc)[j]? = some u->w.cell? ⟨b,j,none⟩=some u
 groups:KL w gv t.groups
 left:Ip w lc t.left t.lt
 right:Ip w rc t.right t.rt
section
variable{w:G6}{b:Nat}{t:TabM}{gv:ix}{lc rc:List ix}
theorem TabB.ext{w':G6}(h:TabB w b t gv lc rc)(e:Jb w w'):TabB w' b t gv lc rc:=⟨fun j u hu=>e.cell (h.cells j u hu),h.groups.ext e,h.left.ext e,h.right.ext e⟩
theorem TabB.c0(h:TabB w b t gv lc rc):w.cell? (nA b 0)=some (.int .u64 (t.ig:Int)):=h.cells 0 _ rfl
theorem TabB.c1(h:TabB w b t gv lc rc):w.cell? (nA b 1)=some (.int .u64 (t.kp:Int)):=h.cells 1 _ rfl
theorem TabB.c2(h:TabB w b t gv lc rc):w.cell? (nA b 2)=some (.int .u64 (t.br:Int)):=h.cells 2 _ rfl
theorem TabB.c3(h:TabB w b t gv lc rc):w.cell? (nA b 3)=some (nI t.rules):=h.cells 3 _ rfl
theorem TabB.c4(h:TabB w b t gv lc rc):w.cell? (nA b 4)=some gv:=h.cells 4 _ rfl
theorem TabB.cl(h:TabB w b t gv lc rc):∀(j:Nat) (u:ix),lc[j]? = some u->w.cell? ((nA b 5).add j)=some u:=fun j u hu=>by
 rw[add_add];refine h.cells (5+j) u ?_;have hj:=(GF.1 hu).1;rw[show bD t.ig t.kp t.br t.rules gv lc rc=[.int .u64 (t.ig:Int),.int .u64 (t.kp:Int),.int .u64 (t.br:Int),nI t.rules,gv]++(lc++rc)from G5 _ _ _];rw[Jq (by simp),show 5+j-_=j from by simp,Iq hj];exact hu
theorem TabB.cr(h:TabB w b t gv lc rc):∀(j:Nat) (u:ix),rc[j]? = some u->w.cell? ((nA b 11).add j)=some u:=fun j u hu=>by
 rw[add_add];refine h.cells (11+j) u ?_;have hl:=h.left.one.1;rw[Jq (by simp[hl]),show 11+j-_=j from by simp[hl]];exact hu
end
theorem qj{w:G6}{b i:Nat}{O:Nat->Nat}{E:I2}{t:TabM}{gv:ix}{lc rc:List ix}(hb:Jg O w i b (bD t.ig t.kp t.br t.rules gv lc rc).toArray E)(h1:KL w gv t.groups)(h2:Ip w lc t.left t.lt)(h3:Ip w rc t.right t.rt):TabB w b t gv lc rc:=
 ⟨fun j u hu=>hb.cell j (by simpa using hu),h1,h2,h3⟩
def bh(t:TabM):Bool:=
 !(decide (t.rules<0)||decide (40<t.rules)||(fy t.groups==0)) && !(!(t.ig / 2^36==0) || !(t.kp / 2^36==0) || !(t.br / 2^t.rules.toNat==0))&&gg t.left t.lt (fy t.groups) t.rules.toNat&&gg t.right t.rt (fy t.groups) t.rules.toNat
theorem ne0(q:Nat):(((q:Nat):Int) != 0) = !(q==0):=by
 by_cases h:q=0
 ·subst h;rfl
 rw[beq_eq_false_iff_ne.2 h];simpa using h
theorem dz(t:TabM)(v:ix)(w:G6)(h:TabV w v t):IS GM 9 [v] w fun u w'=>u=.bool (bh t)/\Jb w w':=by
 obtain⟨gv,lc,rc,rfl,b0,a8,a7⟩:=h;obtain⟨ll,lo⟩:=a8.one;obtain⟨rl,ro⟩:=a7.one;refine G8 func9 ntmps9 rfl rfl ?_;refine zh ?_;refine aG (aw w) 1 zo rfl rfl ?_;intro db w1 O1 a3 b3 b4 a1;have hT:=qj (t:=t) a3 (b0.ext a1) (a8.ext a1) (a7.ext a1);have c0:=hT.c0;have c1:=hT.c1;have c2:=hT.c2;have c3:=hT.c3;have c4:=hT.c4;have cl:=hT.cl;have cr:=hT.cr;refine zh ?_;refine zc call29 (gX t.groups gv w1 hT.groups) ?_;rintro _ w2 ⟨rfl,a6⟩;rw[a6];clear a6 w2;obtain⟨many,a2⟩:∃many,many=fy t.groups:=⟨_,rfl⟩
 have a9:bh t=(!(decide (t.rules<0)||decide (40<t.rules)||(many==0)) && !(!(t.ig / 2^36==0) || !(t.kp / 2^36==0) || !(t.br / 2^t.rules.toNat==0))&&gg t.left t.lt many t.rules.toNat&&gg t.right t.rt many t.rules.toNat):=by rw[a2];rfl
 rw[a9,<-a2];refine zh ?_
 by_cases h1:t.rules<0
 ·refine ao (d:=11) rfl (b':=true) ((decide_eq_true h1)) ?_;refine zh ?_
  refine zTH rfl rfl ?_;refine ae rfl rfl (⟨by rw[decide_eq_true h1];simp,a1⟩)
 refine ao (d:=11) rfl (b':=false) ((decide_eq_false h1)) ?_;refine zh ?_
 by_cases h2:40<t.rules
 ·refine ao (d:=16) rfl (b':=true) ((decide_eq_true h2)) ?_;refine zh ?_
  refine zTH rfl rfl ?_;refine ae rfl rfl (⟨by rw[decide_eq_true h2];simp,a1⟩)
 obtain⟨rules,a0⟩:∃rules:Nat,t.rules=(rules:Int):=⟨t.rules.toNat,zo⟩
 have a':t.rules.toNat=rules:=zo;refine ao (d:=16) rfl (b':=false) ((decide_eq_false h2)) ?_;refine zh ?_
 by_cases h3:many=0
 ·refine zTH rfl ((by rw[h3];rfl)) ?_;refine ae rfl rfl (⟨by rw[h3];simp,a1⟩)
 refine zFH rfl ((by rw[beq_eq_false_iff_ne];omega)) ?_;refine zvH (gS (a:=t.ig) (b:=36) rfl rfl rfl rfl zd) ?_
 by_cases h4:t.ig / 2^36=0
 ·refine ao (d:=25) rfl (b':=false) ((by rw[ne0,h4];rfl)) ?_;refine zh ?_
  refine zvH (gS (a:=t.kp) (b:=36) rfl rfl rfl rfl zd) ?_
  by_cases h5:t.kp / 2^36=0
  ·refine ao (d:=31) rfl (b':=false) ((by rw[ne0,h5];rfl)) ?_;refine zh ?_
   refine zvH (gS (a:=t.br) (b:=rules) rfl rfl rfl a0 (by show _<=64;omega)) ?_
   by_cases h6:t.br / 2^rules=0
   ·have b2:nI t.rules=nI (rules:Int):=by rw[a0]
    refine zFH rfl ((by rw[ne0,h6];rfl)) ?_;refine zvH (ah (us:=lc) cl (IC _) (by rw[ll];exact GY _) rfl) ?_
    rw[a0];refine zc call30 (rP lc t.left t.lt many rules w1 hT.left zo) ?_;rintro _ w2 ⟨rfl,a5⟩;have a4:=hT.ext a5;have d3:=a4.c3;have d4:=a4.cr;rw[a0]at d3;refine zh ?_
    cases h7:gg t.left t.lt many rules with
    |false=>
     refine ao (d:=45) rfl (b':=false) (rfl) ?_;refine zh ?_
     refine ae rfl rfl (⟨by rw[I7,h7];simp,a1.trans a5⟩)
    |true=>
     refine ao (d:=45) rfl (b':=true) (rfl) ?_;refine zh ?_
     refine zvH (ah (us:=rc) d4 (IC _) (by rw[rl];exact GY _) rfl) ?_;refine zc call30 (rP rc t.right t.rt many rules w2 a4.right zo) ?_
     rintro _ w3 ⟨rfl,b1⟩;refine zh ?_;refine ae rfl rfl (⟨?_,(a1.trans a5).trans b1⟩);rw[I7,h7,h4,h5,h6,decide_eq_false zo,decide_eq_false zo,beq_eq_false_iff_ne.2 h3];simp
   refine zTH rfl ((by rw[ne0,beq_eq_false_iff_ne.2 h6];rfl)) ?_;refine ae rfl rfl (⟨by rw[a',beq_eq_false_iff_ne.2 h6];simp,a1⟩)
  refine ao (d:=31) rfl (b':=true) ((by rw[ne0,beq_eq_false_iff_ne.2 h5];rfl)) ?_;refine zh ?_
  refine zTH rfl rfl ?_;refine ae rfl rfl (⟨by rw[beq_eq_false_iff_ne.2 h5];simp,a1⟩)
 refine ao (d:=25) rfl (b':=true) ((by rw[ne0,beq_eq_false_iff_ne.2 h4];rfl)) ?_;refine zh ?_
 refine zTH rfl rfl ?_;refine ae rfl rfl (⟨by rw[beq_eq_false_iff_ne.2 h4];simp,a1⟩)
end Go.Proofs.YtpfpmhhigheccaaGreatDoor
end
namespace Go.Proofs.YtpfpmhhigheccaaGreatDoor
abbrev RdT(α:Type):=List UInt8->Option (α×List UInt8)
def sQ{α β:Type}(f:RdT α)(g:RdT β):RdT (α×β):=fun l=>match f l with
 |some (x,r)=>match g r with
  |some (y,s)=>some ((x,y),s)
  |none=>none
 |none=>none
theorem cW{α β:Type}{f:RdT α}{g:RdT β}{wf:α->List UInt8}{wg:β->List UInt8}{a3:α->Prop}{a0:β->Prop} 
  (hf:∀l x r,f l=some (x,r)↔l=wf x++r/\a3 x) (hg:∀l x r,g l=some (x,r)↔l=wg x++r/\a0 x) (l:List UInt8) (x:α×β) (r:List UInt8) :
  sQ f g l=some (x,r)↔l=(wf x.1++wg x.2)++r/\a3 x.1/\a0 x.2:=by
 obtain⟨a,b⟩:=x;unfold sQ
 constructor
 ·intro e
  cases h:f l with
  |none=>rw[h]at e;cases e
  |some q=>
   obtain⟨q,s⟩:=q;rw[h]at e;dsimp only at e
   cases h2:g s with
   |none=>rw[h2]at e;cases e
   |some y=>
    obtain⟨y,t⟩:=y;rw[h2]at e;obtain⟨e1,rfl⟩:=Kj (IX e);obtain⟨rfl,rfl⟩:=Kj e1;obtain⟨a1,a2⟩:=(hf _ _ _).1 h;obtain⟨b1,b2⟩:=(hg _ _ _).1 h2;exact⟨by rw[a1,b1,G5],a2,b2⟩
 rintro⟨e,h1,h2⟩;rw[(hf l a (wg b++r)).2 ⟨by rw[e,G5],h1⟩];dsimp only;rw[(hg _ b r).2 ⟨rfl,h2⟩]
abbrev PaW:=Nat×List Nat×List Nat×List Nat×List Nat×List Nat
def D9:RdT PaW:=sQ smR (sQ lstR (sQ lstR (sQ lstR (sQ lstR telR))))
def yA(p:PaW):List UInt8:=dD p.1++(pK p.2.1++(pK p.2.2.1++(pK p.2.2.2.1++(pK p.2.2.2.2.1++pK p.2.2.2.2.2))))
def Fa(p:PaW):Prop:=p.1<=2^20/\okL p.2.1/\okL p.2.2.1/\okL p.2.2.2.1/\okL p.2.2.2.2.1/\okU p.2.2.2.2.2
theorem uB(l:List UInt8)(p:PaW)(r:List UInt8):D9 l=some (p,r)↔l=yA p++r/\Fa p:=
 cW (fun _ _ _=>gn) (cW (fun _ _ _=>jC) (cW (fun _ _ _=>jC) (cW (fun _ _ _=>jC) (cW (fun _ _ _=>jC) (fun _ _ _=>AK))))) l p r
abbrev TbW:=Nat×Nat×Nat×Nat×List Nat×PaW×PaW
def D6:RdT TbW:=sQ smR (sQ (gz 0) (sQ (gz 0) (sQ (gz 0) (sQ lstR (sQ D9 D9)))))
def De(t:TbW):List UInt8:=dD t.1++(dD t.2.1++(dD t.2.2.1++(dD t.2.2.2.1++(pK t.2.2.2.2.1++(yA t.2.2.2.2.2.1++yA t.2.2.2.2.2.2)))))
def FX(t:TbW):Prop:=t.1<=2^20/\t.2.1<2^64/\t.2.2.1<2^64/\t.2.2.2.1<2^64/\okL t.2.2.2.2.1/\Fa t.2.2.2.2.2.1/\Fa t.2.2.2.2.2.2
theorem uy(l:List UInt8)(t:TbW)(r:List UInt8):D6 l=some (t,r)↔l=De t++r/\FX t:=
 cW (fun _ _ _=>gn) (cW (fun _ _ _=>dL) (cW (fun _ _ _=>dL) (cW (fun _ _ _=>dL) (cW (fun _ _ _=>jC) (cW uB uB))))) l t r
def upN(a0:Int)(l:List Int):List Nat:=l.map fun n=>(n+a0).toNat
def dnN(a0:Int)(l:List Nat):List Int:=l.map fun(n:Nat)=>(n:Int)-a0
theorem xe{b:Int}:∀ {l:List Int},(∀n∈l,0<=n+b)->dnN b (upN b l)=l
 |[],_=>rfl
 |n::l,h=>by
  have h1:=h n (by simp);have ih:=xe (l:=l) fun x hx=>h x (by simp[hx])
  unfold dnN upN at *;rw[GU,GU,ih];congr 1;omega
theorem Cb{b:Int}:∀(l:List Nat),upN b (dnN b l)=l
 |[]=>rfl
 |n::l=>by
  have ih:=Cb (b:=b) l;unfold dnN upN at *;rw[GU,GU,ih];congr 1;omega
def sY(p:Ke)(tl:List Nat):PaW:=(p.width.toNat,upN 0 p.usual,upN 0 p.base,upN 1 p.check,upN 0 p.next,tl)
def AS(p:PaW):Ke:=⟨(p.1:Int),dnN 0 p.2.1,dnN 0 p.2.2.1,dnN 1 p.2.2.2.1,dnN 0 p.2.2.2.2.1⟩
def yy(t:TabM):TbW:=(t.rules.toNat,t.ig,t.kp,t.br,upN 0 t.groups,sY t.left t.lt,sY t.right t.rt)
def xF(t:TbW):TabM:=⟨t.2.1,t.2.2.1,t.2.2.2.1,(t.1:Int),dnN 0 t.2.2.2.2.1,AS t.2.2.2.2.2.1,t.2.2.2.2.2.1.2.2.2.2.2,AS t.2.2.2.2.2.2,t.2.2.2.2.2.2.2.2.2.2.2⟩
theorem Cx(p:PaW):sY (AS p) p.2.2.2.2.2=p:=by
 obtain⟨a,b,c,d,e,f⟩:=p;simp only[sY,AS,Cb,I7]
theorem Cw(t:TbW):yy (xF t)=t:=by
 obtain⟨a,b,c,d,e,f,g⟩:=t;simp only[yy,xF,Cb,I7,Cx]
structure PrtB(p:Ke)(tl:List Nat):Prop where
 w:0<=p.width/\p.width<=64
 u:p.usual.length<=1000/\∀n∈p.usual,0<=n/\n<=65535
 b:p.base.length<=1000/\∀n∈p.base,0<=n/\n<=65535
 c:p.check.length<=65599/\∀n∈p.check,-1<=n/\n<=1000
 n:p.next.length<=65599/\∀n∈p.next,0<=n/\n<=65535
 t:tl.length<=1000
structure TblB(t:TabM):Prop where
 r:0<=t.rules/\t.rules<=40
 ig:t.ig<2^36
 kp:t.kp<2^36
 br:t.br<2^40
 g:t.groups.length=37/\∀n∈t.groups,0<=n/\n<37
 l:PrtB t.left t.lt
 rt:PrtB t.right t.rt
theorem rj:∀(l:List Int) (n:Nat),ec l n≠0->jz l n
 |[],_,_=>trivial
 |g::r,n,h=>by
  unfold ec at h
  split at h
  ·exact absurd rfl h
  exact⟨zo,zo,rj r _ h⟩
theorem qP:∀(l:List Int) (n:Nat),jz l n->ec l n<=n+l.length
 |[],n,_=>by simp[ec]
 |g::r,n,h=>by
  obtain⟨h1,h2,h3⟩:=h;have ih:=qP r _ h3;unfold ec;rw[if_neg zo,Iw];omega
theorem uV{p:Ke}{tl:List Nat}{many a0:Nat}(h:gg p tl many a0=true):PrtB p tl:=by
 unfold gg at h;simp only[Gz]at h;obtain⟨⟨⟨⟨⟨h1,_⟩,_⟩,h4⟩,_⟩,_⟩:=h;rw[(kH p).1]at h4;unfold cE at h1;simp only[Gz,GW,GZ,decide_eq_false_iff_not,bne_eq_false_iff_eq]at h1;obtain⟨⟨⟨⟨⟨a1,a2⟩,a3⟩,a4⟩,a5,a6⟩,⟨⟨b1,b2⟩,b3⟩,b4⟩:=h1;have h4:tl.length=p.usual.length:=by simpa using h4
 refine⟨⟨zo,zo⟩,⟨zo,fun n hn=>ma b1 hn⟩,⟨zo,fun n hn=>ma b2 hn⟩,⟨zo,fun n hn=>?_⟩,⟨zo,fun n hn=>ma b3 hn⟩,zo⟩;have:=ma b4 hn;omega
theorem gw{t:TabM}(h:bh t=true):TblB t:=by
 unfold bh at h;simp only[Gz,GW,GZ,decide_eq_false_iff_not,beq_eq_false_iff_ne]at h;obtain⟨⟨⟨⟨⟨a1,a2⟩,a3⟩,⟨b1,b2⟩,b3⟩,c1⟩,c2⟩:=h;have a0:∀ {n:Nat},(!(n / 2^36==0))=false->n<2^36:=fun {n} h=>by
  have h:n / 2^36=0:=by simpa using h
  exact(IG zd).1 h
 have b3:t.br<2^t.rules.toNat:=by
  have h:t.br / 2^t.rules.toNat=0:=by simpa using b3
  exact(IG (GN _)).1 h
 have hg:t.groups.length=37:=by
  unfold fy at a3
  split at a3
  ·assumption
  exact absurd rfl a3
 unfold fy at a3;rw[if_pos hg]at a3;have hr:=rj _ _ a3;have a5:=(uK _ _ hr).2;have a4:=qP _ _ hr;rw[hg]at a4;refine⟨⟨zo,zo⟩,a0 (by simpa using b1),a0 (by simpa using b2),GT b3 (I0 zd zo),⟨hg,fun n hn=>?_⟩,uV c1,uV c2⟩;have:=a5 n hn;omega
theorem qW{b:Int}{l:List Int}(hl:l.length<=65599)(h:∀n∈l,0<=n+b/\n+b<=65536):okL (upN b l):=by
 have e:(2:Nat)^20=1048576:=zd;refine⟨by unfold upN;rw[I1];omega,fun x hx=>?_⟩;obtain⟨n,hn,rfl⟩:=KE.1 hx;have:=h n hn;omega
theorem PrtB.ok{p:Ke}{tl:List Nat}(h:PrtB p tl)(ht:∀x∈tl,x<2^64):Fa (sY p tl)/\AS (sY p tl)=p:=by
 have e:(2:Nat)^20=1048576:=zd;have h1:=h.w;have h2:=h.t;refine⟨⟨by show p.width.toNat<=_;omega,qW (by have:=h.u.1;omega) fun n hn=>by have:=h.u.2 n hn;omega,qW (by have:=h.b.1;omega) fun n hn=>by have:=h.b.2 n hn;omega,qW h.c.1 fun n hn=>by have:=h.c.2 n hn;omega,qW h.n.1 fun n hn=>by have:=h.n.2 n hn;omega,by show tl.length<=_;omega,ht⟩,?_⟩;obtain⟨wd,us,ba,ck,nx⟩:=p;have hu:=h.u.2;have hb:=h.b.2;have hc:=h.c.2;have hn:=h.n.2;dsimp only at h1 hu hb hc hn;unfold AS sY;dsimp only;rw[xe fun n h'=>by have:=hu n h';omega,xe fun n h'=>by have:=hb n h';omega,xe fun n h'=>by have:=hc n h';omega,xe fun n h'=>by have:=hn n h';omega,IY h1.1]
theorem TblB.ok{t:TabM}(h:TblB t)(hl:∀x∈t.lt,x<2^64)(hr:∀x∈t.rt,x<2^64):FX (yy t)/\xF (yy t)=t:=by
 obtain⟨l1,l2⟩:=h.l.ok hl;obtain⟨r1,r2⟩:=h.rt.ok hr;have e:(2:Nat)^20=1048576:=zd;have a1:(2:Nat)^36<=2^64:=zd;have a0:(2:Nat)^40<=2^64:=zd;have h1:=h.r;have h2:=h.ig;have h3:=h.kp;have h4:=h.br;refine⟨⟨by show t.rules.toNat<=_;omega,by show t.ig<_;omega,by show t.kp<_;omega,by show t.br<_;omega,qW (by have:=h.g.1;omega) fun n hn=>by have:=h.g.2 n hn;omega,l1,r1⟩,?_⟩;obtain⟨ig,kp,br,ru,gr,lf,lt,rg,rt⟩:=t;have hg:=h.g.2;dsimp only at h1 hg l2 r2;unfold xF yy;dsimp only;rw[xe fun n h'=>by have:=hg n h';omega,l2,r2,IY h1.1];rfl
def uz(n c:Nat):Nat:=((n ^^^ c)*1099511628211) % 2^64
def sN(l:List UInt8)(n:Nat):Nat:=l.foldl (fun n c=>uz n c.toNat) n
def sM(l:List UInt8):Nat:=sN l 14695981039346656037
theorem sL(n c:Nat):uz n c<2^64:=by unfold uz;exact IF _ (GN 64)
theorem yc(c:UInt8)(l:List UInt8)(n:Nat):sN (c::l) n=sN l (uz n c.toNat):=by unfold sN;rw[Kg]
theorem AN{M:Nat}(hM:∀n c,uz n c<M)(l:List UInt8):∀(n:Nat),n<M->sN l n<M:=by
 induction l with
 |nil=>intro n h;exact h
 |cons c l ih=>intro n _;rw[yc];exact ih _ (hM _ _)
theorem Ch(l:List UInt8)(n:Nat)(h:n<2^64):sN l n<2^64:=AN sL l n h
theorem ya(l:List UInt8):sM l<2^64:=Ch l _ zd
theorem rY(c:UInt8):c.toNat<2^64:=Nat.lt_trans c.toNat_lt zd
def le8(n:Nat):List UInt8:=(KR 8).map fun i=>Gn (n / 2^(8*i))
theorem fG(n:Nat):(le8 n).length=8:=by simp[le8]
def eH(b:List UInt8):List UInt8:=b++le8 (sM b)
theorem yk(b:List UInt8):(eH b).length=b.length+8:=by rw[eH,ln,fG]
theorem oD{p:Ke}{tl:List Nat}{many a0:Nat}(h:gg p tl many a0=true):∀x∈tl,x<2^a0:=fun x hx=>by
 unfold gg at h;simp only[Gz,GW]at h;obtain⟨⟨_,h5⟩,_⟩:=h;obtain⟨j,hj,rfl⟩:=Gm hx;have:=bP.1 h5 j hj;have:nth tl j / 2^a0=0:=by simpa using this
 exact(IG (GN _)).1 this
theorem iU{t:TabM}(h:bh t=true):(∀x∈t.lt,x<2^64)/\∀x∈t.rt,x<2^64:=by
 have hr:=(gw h).r;have hp:2^t.rules.toNat<=2^64:=I0 zd zo;unfold bh at h;simp only[Gz]at h;exact⟨fun x hx=>GT (oD h.1.2 x hx) hp,fun x hx=>GT (oD h.2 x hx) hp⟩
def hdrW:List UInt8:=[86,82,71,49]
def xn(t:TabM):List UInt8:=hdrW++De (yy t)
def sD(t:TabM):List UInt8:=eH (xn t)
def sE(l:List UInt8):Except Int TabM:=
 if l.length<12\/l.take 4≠hdrW then .error 4
 else if eH (l.take (l.length-8))≠l then .error 10
 else match D6 ((l.take (l.length-8)).drop 4)with
  |some (t,r)=>if r≠[]\/bh (xF t)=false then .error 4 else .ok (xF t)
  |none=>.error 4
theorem By(t:TabM):4<=(xn t).length:=by unfold xn hdrW;simp
theorem pV(t:TabM):(sD t).length=(xn t).length+8:=yk _
theorem zR(t:TabM):(sD t).take ((sD t).length-8)=xn t:=by
 rw[pV,Nat.add_sub_cancel];unfold sD eH;rw[Je (GK _),Gx (GK _)]
theorem zQ(t:TabM):(sD t).take 4=hdrW:=by
 unfold sD eH xn;rw[G5,Je zd,Gx zd]
theorem C4{t:TabM}(h:bh t=true):sE (sD t)=.ok t:=by
 obtain⟨h1,h2⟩:=iU h;obtain⟨h3,h4⟩:=(gw h).ok h1 h2;have hl:=pV t;have hb:=By t;unfold sE;rw[if_neg (by rw[zQ];simp;omega),zR,if_neg (by simp[sD])];have e:(xn t).drop 4=De (yy t):=by unfold xn;rw[List.drop_append_of_le_length zd,List.drop_of_length_le zd,Ij]
 rw[e,(uy _ (yy t) []).2 ⟨by rw[Ik],h3⟩];dsimp only;rw[h4,if_neg (by simp[h])]
theorem CZ{l:List UInt8}{t:TabM}(h:sE l=.ok t):l=sD t/\bh t=true:=by
 unfold sE at h
 split at h
 ·cases h
 rename_i h1
 split at h
 ·cases h
 rename_i h2;have h2:eH (l.take (l.length-8))=l:=GX h2
 cases hd:D6 ((l.take (l.length-8)).drop 4)with
 |none=>rw[hd]at h;cases h
 |some x=>
  obtain⟨q,r⟩:=x;rw[hd]at h;dsimp only at h
  split at h
  ·cases h
  rename_i h3;obtain rfl:=Le h;have h3r:r=[]:=GX fun e=>h3 (.inl e)
  have h3t:bh (xF q)=true:=by
   cases e:bh (xF q)with
   |true=>rfl
   |false=>exact absurd (.inr e) h3
  subst h3r;obtain⟨e1,_⟩:=(uy _ _ _).1 hd;rw[Ik]at e1;have h4:l.take 4=hdrW:=GX fun e=>h1 (.inr e)
  refine⟨?_,h3t⟩;rw[sD,xn,Cw,<-e1,<-h4];have:l.take 4=(l.take (l.length-8)).take 4:=by rw[List.take_take,Jo zo]
  rw[this,List.take_append_drop,h2]
def RdS{α:Type}(f:RdT α)(l:List UInt8)(b:Bool)(x:α)(l':List UInt8)(b':Bool):Prop:=
 (b'=true/\(b=true\/f l=none))\/(b'=false/\b=false/\f l=some (x,l'))
section
variable{α β:Type}{f:RdT α}{g:RdT β}{l l1 l2:List UInt8}{b b1 b2:Bool}{x:α}{y:β}
theorem RdS.bad(h:b=true\/f l=none):RdS f l b x l1 true:=.inl ⟨rfl,h⟩
theorem RdS.seq(h:RdS f l b x l1 b1)(k:RdS g l1 b1 y l2 b2):RdS (sQ f g) l b (x,y) l2 b2:=by
 unfold sQ
 rcases k with⟨k1,k2⟩|⟨k1,k2,k3⟩
 ·refine .inl ⟨k1,?_⟩
  rcases h with⟨h1,h2⟩|⟨h1,h2,h3⟩
  ·rcases h2 with h2|h2
   ·exact .inl h2
   exact .inr (by dsimp only;rw[h2])
  rcases k2 with k2|k2
  ·rw[h1]at k2;cases k2
  exact .inr (by dsimp only;rw[h3];dsimp only;rw[k2])
 rcases h with⟨h1,h2⟩|⟨h1,h2,h3⟩
 ·rw[h1]at k2;cases k2
 exact .inr ⟨k1,h2,by dsimp only;rw[h3];dsimp only;rw[k3]⟩
end
def WNum(l0:List UInt8)(b0:Bool)(i n:Nat)(l:List UInt8)(b:Bool):Prop:=
 (b=true/\(b0=true\/gz 0 l0=none))\/(b=false/\b0=false/\i<=9/\n<128^i/\gz 0 l0=match gz i l with
  |some (m,r)=>some (n+128^i*m,r)
  |none=>none)
theorem xz(l:List UInt8)(b:Bool):WNum l b 0 0 l b:=by
 cases b with
 |true=>exact .inl ⟨rfl,.inl rfl⟩
 |false=>
  refine .inr ⟨rfl,rfl,zd,zd,?_⟩
  cases gz 0 l with
  |none=>rfl
  |some x=>simp
def mY(i:Nat)(c:UInt8):Bool:=(decide (i=9)&&decide (1<c.toNat))||(decide (0<i)&&decide (c.toNat=0))
theorem uG{i:Nat}{c:UInt8}{r:List UInt8}(h:mY i c=true):gz i (c::r)=none:=by
 unfold mY at h;simp only[Jk,Gz,decide_eq_true_eq]at h;unfold gz;rw[if_pos h]
theorem rh{i:Nat}{c:UInt8}{r:List UInt8}(h:mY i c=false):gz i (c::r)=if c.toNat<128 then some (c.toNat,r)else match gz (i+1) r with
  |some (m,r')=>some (c.toNat % 128+128*m,r')
  |none=>none:=by
 have hn:¬((i=9/\1<c.toNat)\/(0<i/\c.toNat=0)):=fun hn=>by
  have:mY i c=true:=by unfold mY;simpa only[Jk,Gz,decide_eq_true_eq]using hn
  rw[h]at this;cases this
 rw[gz,if_neg hn];rfl
theorem yB(i:Nat):128^i=2^(7*i):=by rw[Nat.pow_mul]
def AZ(i n:Nat)(c:UInt8):Nat:=n ||| ((c.toNat &&& 127)*2^(7*i) % 2^64)
theorem CF{i n:Nat}{c:UInt8}(h:n<2^64):AZ i n c<2^64:=Is h (IF _ (GN 64))
theorem yH{i n:Nat}{c:UInt8}(hi:i<=9)(hn:n<128^i)(hc:i=9->c.toNat<=1):AZ i n c=n+128^i*(c.toNat % 128):=by
 have hm:c.toNat &&& 127=c.toNat % 128:=Jd c.toNat 7;unfold AZ;rw[hm,<-yB];have a0:c.toNat % 128*128^i<2^64:=by
  have h1:c.toNat % 128<128:=IF _ zd
  rcases Nat.lt_or_ge i 9 with h9|h9
  ·have h2:128^i<=128^8:=I0 zd zo;exact J3 (Kr (Nat.le_of_lt_succ h1) h2) zd
  obtain rfl:i=9:=zo;have h3:c.toNat % 128<=1:=by have:=hc rfl;omega
  exact J3 (Kr h3 (GK _)) zd
 rw[Kf a0,KI (c.toNat % 128),yB,KQ,Nat.add_comm];refine(Jp (i:=7*i) ?_ _).symm;rw[<-yB];exact hn
theorem Dz{i:Nat}{c:UInt8}(h:mY i c=false):i=9->c.toNat<=1:=fun hi=>by
 unfold mY at h;subst hi;simp only[decide_true,Bool.true_and,GZ,decide_eq_false_iff_not]at h;omega
theorem WNum.empty{l0:List UInt8}{b0:Bool}{i n:Nat}{b:Bool}(h:WNum l0 b0 i n [] b):b0=true\/gz 0 l0=none:=by
 rcases h with⟨_,h⟩|⟨_,_,_,_,h⟩
 ·exact h
 exact .inr (by rw[h];rfl)
theorem WNum.fin{l0:List UInt8}{b0:Bool}{i n:Nat}{b:Bool}{c:UInt8}{r:List UInt8}(h:WNum l0 b0 i n (c::r) b)(hc:c.toNat<128):RdS (gz 0) l0 b0 (AZ i n c) r (b||mY i c):=by
 rcases h with⟨h1,h2⟩|⟨h1,h2,h3,h4,h5⟩
 ·rw[h1,KF];exact RdS.bad h2
 rw[h1,Ku]
 cases hb:mY i c with
 |true=>exact RdS.bad (.inr (by rw[h5,uG hb]))
 |false=>exact .inr ⟨rfl,h2,by rw[h5,rh hb,if_pos hc,yH h3 h4 (Dz hb),Kf hc]⟩
theorem WNum.step{l0:List UInt8}{b0:Bool}{i n:Nat}{b:Bool}{c:UInt8}{r:List UInt8}(h:WNum l0 b0 i n (c::r) b)(hc:¬c.toNat<128):WNum l0 b0 (i+1) (AZ i n c) r (b||mY i c):=by
 rcases h with⟨h1,h2⟩|⟨h1,h2,h3,h4,h5⟩
 ·rw[h1,KF];exact .inl ⟨rfl,h2⟩
 rw[h1,Ku]
 cases hb:mY i c with
 |true=>exact .inl ⟨rfl,.inr (by rw[h5,uG hb])⟩
 |false=>
  have h9:=Dz hb;have hi:i≠9:=fun e=>by have:=h9 e;omega
  have ho:=yH h3 h4 h9;have hm:c.toNat % 128<128:=IF _ zd;have hp:128^(i+1)=128^i*128:=KH _ _;refine .inr ⟨rfl,h2,zo,?_,?_⟩
  ·rw[ho,hp];have:128^i*(c.toNat % 128)<=128^i*127:=Nat.mul_le_mul_left _ zo;omega
  rw[h5,rh hb,if_neg hc]
  cases hr:gz (i+1) r with
  |none=>rfl
  |some q=>
   obtain⟨m,s⟩:=q;dsimp only;rw[ho,hp,Nat.mul_add,Nat.mul_assoc,Nat.add_assoc]
theorem WNum.over{l0:List UInt8}{b0:Bool}{n:Nat}{l:List UInt8}{b:Bool}(h:WNum l0 b0 10 n l b):b0=true\/gz 0 l0=none:=by
 rcases h with⟨_,h⟩|⟨_,_,h,_⟩
 ·exact h
 exact absurd h zd
theorem RdS.small{l l':List UInt8}{b b':Bool}{n:Nat}(h:RdS (gz 0) l b n l' b')(hn:¬2^20<n):RdS smR l b n l' b':=by
 unfold smR
 rcases h with⟨h1,h2⟩|⟨h1,h2,h3⟩
 ·refine .inl ⟨h1,?_⟩
  rcases h2 with h2|h2
  ·exact .inl h2
  exact .inr (by dsimp only;rw[h2])
 exact .inr ⟨h1,h2,by dsimp only;rw[h3];dsimp only;rw[if_neg hn]⟩
theorem RdS.great{l l' l2:List UInt8}{b b':Bool}{n x:Nat}(h:RdS (gz 0) l b n l' b')(hn:2^20<n):RdS smR l b x l2 true:=by
 unfold smR
 rcases h with⟨h1,h2⟩|⟨h1,h2,h3⟩
 ·refine .inl ⟨rfl,?_⟩
  rcases h2 with h2|h2
  ·exact .inl h2
  exact .inr (by dsimp only;rw[h2])
 exact .inl ⟨rfl,.inr (by dsimp only;rw[h3];dsimp only;rw[if_pos hn])⟩
def LstI{α:Type}(f:RdT α)(m:Nat)(l0:List UInt8)(b0:Bool)(k:Nat)(xs:List α)(l:List UInt8)(b:Bool):Prop:=
 (b=true/\(b0=true\/eO f m l0=none))\/(b=false/\b0=false/\eO f m l0=match eO f k l with
  |some (ys,r)=>some (xs++ys,r)
  |none=>none)
theorem oU{α:Type}(f:RdT α)(m:Nat)(l:List UInt8)(b:Bool):LstI f m l b m [] l b:=by
 cases b with
 |true=>exact .inl ⟨rfl,.inl rfl⟩
 |false=>
  refine .inr ⟨rfl,rfl,?_⟩
  cases eO f m l with
  |none=>rfl
  |some x=>simp
theorem LstI.step{α:Type}{f:RdT α}{m:Nat}{l0:List UInt8}{b0:Bool}{k:Nat}{xs:List α}{l l':List UInt8}{b b':Bool}{x:α}(h:LstI f m l0 b0 (k+1) xs l b)(s:RdS f l b x l' b'):LstI f m l0 b0 k (xs++[x]) l' b':=by
 rcases h with⟨h1,h2⟩|⟨h1,h2,h3⟩
 ·rcases s with⟨s1,s2⟩|⟨s1,s2,s3⟩
  ·exact .inl ⟨s1,h2⟩
  rw[h1]at s2;cases s2
 rcases s with⟨s1,s2⟩|⟨s1,s2,s3⟩
 ·refine .inl ⟨s1,.inr ?_⟩
  rcases s2 with s2|s2
  ·rw[h1]at s2;cases s2
  rw[h3,eO,s2]
 refine .inr ⟨s1,h2,?_⟩;rw[h3,eO,s3];dsimp only
 cases eO f k l' with
 |none=>rfl
 |some q=>obtain⟨ys,r⟩:=q;dsimp only;rw[G5];rfl
theorem LstI.done{α:Type}{f:RdT α}{m:Nat}{l0:List UInt8}{b0:Bool}{k:Nat}{xs:List α}{l:List UInt8}{b:Bool}(h:LstI f m l0 b0 k xs l b)(hk:k=0\/b=true):RdS (eO f m) l0 b0 xs l b:=by
 rcases h with⟨h1,h2⟩|⟨h1,h2,h3⟩
 ·exact .inl ⟨h1,h2⟩
 rcases hk with rfl|hk
 ·exact .inr ⟨h1,h2,by rw[h3,eO];simp⟩
 rw[h1]at hk;cases hk
theorem RdS.lst{α:Type}{f:RdT α}{l l1 l2:List UInt8}{b b1 b2:Bool}{n:Nat}{xs:List α}(h:RdS smR l b n l1 b1)(k:RdS (eO f n) l1 b1 xs l2 b2):RdS (fun l=>match smR l with
  |some (n,r)=>eO f n r
  |none=>none) l b xs l2 b2:=by
 rcases h with⟨h1,h2⟩|⟨h1,h2,h3⟩
 ·rcases k with⟨k1,k2⟩|⟨k1,k2,k3⟩
  ·refine .inl ⟨k1,?_⟩
   rcases h2 with h2|h2
   ·exact .inl h2
   exact .inr (by dsimp only;rw[h2])
  rw[h1]at k2;cases k2
 rcases k with⟨k1,k2⟩|⟨k1,k2,k3⟩
 ·refine .inl ⟨k1,.inr ?_⟩
  rcases k2 with k2|k2
  ·rw[h1]at k2;cases k2
  dsimp only;rw[h3];exact k2
 exact .inr ⟨k1,h2,by dsimp only;rw[h3];exact k3⟩
theorem RdS.lstR{l l1 l2:List UInt8}{b b1 b2:Bool}{n:Nat}{xs:List Nat}(h:RdS smR l b n l1 b1)(k:RdS (eO smR n) l1 b1 xs l2 b2):RdS J5 l b xs l2 b2:=h.lst k
theorem RdS.telR{l l1 l2:List UInt8}{b b1 b2:Bool}{n:Nat}{xs:List Nat}(h:RdS smR l b n l1 b1)(k:RdS (eO (gz 0) n) l1 b1 xs l2 b2):RdS J4 l b xs l2 b2:=h.lst k
end Go.Proofs.YtpfpmhhigheccaaGreatDoor
namespace Go.VL
theorem wrap_u64(a:Nat):Jy.wrap (a:Int)=((a % 2^64:Nat):Int):=by
 simp[Kh,Ki,JY]
theorem wrap_u8(a:Nat):Lp.wrap (a:Int)=((a % 2^8:Nat):Int):=by
 simp[Kh,Ki,JY]
section
variable{P:JW}{N:Nat}{st:St}{w:G6}
variable{t xt yt:I2}{x y:Jn}{k:Ld}{m n:Int}{a b:Nat}
theorem Cj(ha:(a:Int)<=k.max)(hb:(b:Int)<=k.max):(binOp .xor xt (.int k a) (.int k b)).run P w=.ok (.int k ((a ^^^ b:Nat):Int)) w:=by
 rw[binOp_xor];have h:((a ^^^ b:Nat):Int)<=k.max:=(kC k _).2 (Nat.xor_lt_two_pow ((kC k a).1 ha) ((kC k b).1 hb));simp only[Op.intBits,BitVec.toNat_xor,eM _ _ (max_lt k ha),eM _ _ (max_lt k hb),lF k h];rfl
theorem Aq(hx:ev st x=some (.int k m))(hy:ev st y=some (.int k n))(hm:m=a)(hn:n=b)(ha:(a:Int)<=k.max)(hb:(b:Int)<=k.max):RV P N (.binOp .xor xt x y yt) t st w (.int k ((a ^^^ b:Nat):Int)):=by
 subst hm;subst hn;exact dm hx hy (Cj ha hb)
theorem As(hx:ev st x=some (.int .u64 m))(hy:ev st y=some (.int .u64 n))(hm:m=a)(hn:n=b):RV P N (.binOp .mul xt x y yt) t st w (.int .u64 ((a*b % 2^64:Nat):Int)):=by
 subst hm;subst hn;refine dm hx hy ?_;rw[yn,show(a:Int)*(b:Int)=((a*b:Nat):Int)from by simp,wrap_u64]
theorem Da{k':Ld}(hx:ev st x=some (.int .u64 m))(hy:ev st y=some (.int k' n))(hm:m=a)(hn:n=b)(hb:b<=64):RV P N (.binOp .shl xt x y yt) t st w (.int .u64 ((a*2^b % 2^64:Nat):Int)):=by
 subst hm;subst hn;refine dm hx hy ?_;rw[binOp_shl];have h1:¬(b:Int)<0:=zo;simp only[Op.shift,if_neg h1,I7,Jo (show b<=Jy.bits from hb)];have h3:(a:Int)*2^b=((a*2^b:Nat):Int):=by simp
 rw[h3,wrap_u64];rfl
theorem vt{a0:TypeDesc}{k:Ld}(hs:P.underlying xt=some a0)(a1:P.underlying yt=some (.int .u8))(hx:ev st x=some (.int k m))(hm:m=a):RV P N (.convert xt yt x) t st w (.int .u8 ((a % 2^8:Nat):Int)):=by
 subst hm;have:=jZ (t:=t) (w:=w) (N:=N) hs a1 hx
 rwa[wrap_u8]at this
end
structure BufT{α:Type}(val:α->ix)(E:I2)(O:Nat->Nat)(w:G6)(i:Nat)(v:ix)(l:List α):Prop where
 row:(v=nS/\l=[])\/∃g cap cur fz,v=.slice (some ⟨g,0,none⟩) l.length cap/\w.heap[g]? = some (.cells cur E fz)/\(∀j,j<cap->¬(fz.1<=j/\j<fz.2))/\l.length<=cap/\cap<=maxLen/\cur.size=cap/\cur.toList.take l.length=l.map val
 tag:∀g,v.ownBlock=some g->O g=i
theorem tI{α:Type}(val:α->ix)(l:List α):l.flatMap (fun x=>[val x])=l.map val:=by induction l<;>simp_all
theorem vp{α:Type}{val:α->ix}{E:I2}{O:Nat->Nat}{w:G6}{i:Nat}{v:ix}{l:List α}(h:Iy (fun x=>[val x]) E 1 O w i v l):BufT val E O w i v l:=by
 refine⟨?_,h.1.tag⟩
 rcases h.1.row.2 with⟨h1,h2⟩|⟨g,a1,a0,h1,_,h3,h4,h5,h6,h7⟩
 ·exact .inl ⟨h1,Ih h2⟩
 rw[It]at h6 h7;exact .inr ⟨g,a1,a0,(0,0),h1,h3,fun j _ hj=>absurd hj.2 (IM _),h4,h5,h6,h7.trans (tI val l)⟩
theorem BufT.upd{α:Type}{val:α->ix}{S:Nat->Prop}{O O':Nat->Nat}{w w':G6}{i:Nat}{E:I2}{v:ix}{l:List α}(h:BufT val E O w i v l)(u:GE S O w O' w')(hi:i≠0)(hS:¬S i):BufT val E O' w' i v l:=by
 refine⟨?_,fun g hg=>?_⟩
 ·rcases h.row with h1|⟨g,a1,a0,fz,h1,h3,h4⟩
  ·exact .inl h1
  have ht:=h.tag g (by rw[h1];rfl);exact .inr ⟨g,a1,a0,fz,h1,(u.blk g (bm h3) (by rw[ht];exact hS)).trans h3,h4⟩
 have:=h.tag g hg;rw[u.tag g (by rw[this];exact hi),this]
theorem BufT.drew{α:Type}{val:α->ix}{O:Nat->Nat}{w:G6}{i:Nat}{E:I2}{v:ix}{l:List α}(h:BufT val E O w i v l):BufT val E O w.drew i v l:=⟨h.row,h.tag⟩
theorem BufT.sl{α:Type}{val:α->ix}{E:I2}{O:Nat->Nat}{w:G6}{i:Nat}{v:ix}{l:List α}(h:BufT val E O w i v l):Sl (fun x=>[val x]) 1 w v l:=by
 rcases h.row with⟨rfl,rfl⟩|⟨g,a0,a3,fz,rfl,hg,_,a1,a2,_,ht⟩
 ·exact⟨⟨none,0,rfl,GK _,zo,fun h=>absurd rfl h⟩,fun i hi=>absurd hi (by simp)⟩
 refine⟨⟨_,a0,rfl,a1,by simpa[maxLen]using a2,fun _=>⟨g,0,rfl⟩⟩,fun i hi j u hu=>?_⟩;obtain rfl:j=0:=by have:=(GF.1 hu).1;simpa using this
 rw[az];have ha:adr (.slice (some ⟨g,0,none⟩) l.length a0) 1 i=⟨g,i,none⟩:=by simp[adr]
 have h1:(l.map val)[i]? = some u:=by simpa[hi]using hu
 rw[<-ht,JO,if_pos hi]at h1;rw[ha,cell_of_row w g i a3 E fz hg];simpa using h1
theorem BufT.newV{α:Type}{val:α->ix}{E:I2}{B:Nat}{O:Nat->Nat}{w:G6}{i:Nat}{v:ix}{l:List α}(h:BufT val E O w i v l)(hi:i≠0)(r:Io B O w):NewV B v:=fun a n c e _=>by
 subst e;have h1:=h.tag a.block rfl;exact(r.rng a.block (by rw[h1];exact hi)).1
theorem nq{P:JW}{w:G6}{T ty E:I2}{a4:Nat}(he:Lh P T E 1 a4){α:Type}{val:α->ix}{B:Nat}{O:Nat->Nat}(r:Io B O w){i:Nat} 
  {v:ix} {l:List α} (a5:BufT val E O w i v l) (a:Addr) (u:α) (hu:w.cell? a=some (val u)) (h1:(val u).oneCell'=true)
  (a1:(l.length+1)*a4<=140737488355328) (c8:l.length+1<=9223372036854775807) (b4:i≠0) :
  ∃v' w' O',(Ls #[T,T] ty #[v,.slice (some a) 1 1]).run P w=.ok v' w'/\BufT val E O' w' i v' (l++[u])/\GE (fun k=>k=i) O w O' w':=by
 have b2:¬(0=i):=fun h=>b4 h.symm
 have c7:a.add 0=a:=by unfold JI;split<;>simp_all
 have a0:∀j x,[val u][j]? = some x->w.cell? (a.add j)=some x:=fun j x hx=>by
  obtain rfl:j=0:=by have:=(GF.1 hx).1;simpa using this
  rw[c7,hu];simpa using hx
 rcases a5.row with⟨rfl,rfl⟩|⟨g,a3,a8,fz,rfl,hg,b5,c9,b',b9,ht⟩
 ·have hr:RowO O w i E 1 (nS) 0 []:=RowO.nil _ _ _ _ _;obtain⟨v',w',O',h2,h3,h4⟩:=ez (P:=P) (ty:=ty) he r hr a 1 1 [val u] rfl a0 (by simpa using h1) (by simpa using a1) zo b4;exact⟨v',w',O',h2,vp (l:=[u]) ⟨h3,by simp⟩,h4⟩
 obtain⟨b1,z,hi,hz,a6,c6,b6⟩:=he.parts;have b3:=he.ht;have a':O g=i:=a5.tag g rfl
 by_cases a2:l.length+1<=a3
 ·have c5:w.cell? ⟨g,l.length,none⟩=some (a8[l.length]'(zo)):=by
   rw[cell_of_row w g l.length a8 E fz hg];exact Array.getElem?_eq_getElem zo
  have hr:=run_append_room_cells (P:=P) (w:=w) T ty E b1 b3 hi g 0 l.length a3 a 1 1 [val u] (by simp[a6]) a0 (by simpa using h1) a2
   (fun j hj=>by
    obtain rfl:j=0:=by simpa using hj
    simp only[a6,It,JC,KJ,c5];rfl)
   (fun j hj=>by
    obtain rfl:j=0:=by simpa using hj
    simp only[a6,It,JC,KJ,World.frozen?,hg];have:=b5 l.length zo
    simpa[Nat.not_lt]using this)
  simp only[a6,It,JC,World.setCells]at hr;refine⟨_,_,O,hr,⟨.inr ⟨g,a3,a8.setIfInBounds l.length (val u),fz,by simp,?_,b5,by simpa using a2,b',by simpa using b9,?_⟩,fun g' a9=>a5.tag g' a9⟩,GL b2 (i:=i) a' rfl⟩
  ·simp only[GO,Array.getElem?_modify,if_pos];rw[hg];simp
  rw[Array.toList_setIfInBounds,ln,G0,Jj,GU,J7];have b7:l.length<a8.toList.length:=by simp;omega
  rw[List.take_succ_eq_append_getElem (by simpa using b7),List.take_set_of_le (GK _),ht];simp
 have a7:∀j x,(l.map val)[j]? = some x->w.cell? (nA g j)=some x:=fun j x hx=>by
  have hj:j<l.length:=by simpa using(GF.1 hx).1
  have ha:(nA g j)=⟨g,j,none⟩:=by simp only[JI];split<;>simp_all
  rw[<-ht,JO,if_pos hj]at hx;rw[ha,cell_of_row w g j a8 E fz hg];simpa using hx
 have hr:=run_append_grow (P:=P) w T ty E b1 z b3 hi hz ⟨g,0,none⟩ l.length a3 (l.map val) (by simp[a6]) a7 a 1 1 [val u] (by simp[a6]) a0 zo zo (growslice_fits zo (by rw[c6];exact a1));have b8:=grownCap_ge w (l.length+1) a3 E;have b0:grownCap w (l.length+1) a3 E<=maxLen:=grownCap_le_maxLen w (l.length+1) a3 E (by simpa[maxLen]using c8);have u0:=Kd (S:=fun k=>k=i) (w:=w.drew) b2 (B:=B) ⟨r.le,r.rng⟩ (.cells ((l.map val).toArray++[val u].toArray++Lr z.cells (grownCap w (l.length+1) a3 E-(l.length+1))) E) i;refine⟨_,_,kW O w.heap.size i,hr,⟨.inr ⟨w.heap.size,_,_,(0,0),by simp,heap_alloc_new w.drew _,fun j _ hj=>absurd hj.2 (IM _),by simpa using b8,b0,?_,?_⟩,?_⟩,⟨u0.os,u0.tape,u0.output,u0.size,u0.blk,u0.tag,u0.new,u0.z⟩⟩
 ·simp only[Array.size_append,List.size_toArray,I1,G0,size_zeroCells,b6,It];omega
 ·simp only[Array.toList_append,G5];rw[<-G5,show(l++[u]).length=(l.map val++[val u]).length from by simp,List.take_left];simp
 intro g' a9;simp[IP]at a9;subst a9;exact dr _ _ _
section
variable{P:JW}{N:Nat}{ops:Array Lb}{Q:Exit→Act→G6→Prop}{rest:List Lb}{st:St}{w:G6}
variable{t t' xt yt:I2}{p p':String}{e e':Array Edge}{d d':Nat}{x y z:Jn}
theorem qf{T E:I2}{a0:Nat}(he:Lh P T E 1 a0){α:Type}{val:α->ix}{B:Nat}{O:Nat->Nat}{i:Nat}{v:ix}{l:List α}(hr:BufT val E O w i v l)(r:Io B O w)(u:α){xv:ix} 
  (hv:∀c,ev ((d,c)::st) y=some v) (hx:ev st x=some xv) (a':xv=val u) (a2:(val u).oneCell'=true)
  (hb:(l.length+1)*a0<=140737488355328) (b2:l.length+1<=9223372036854775807) (a6:i≠0) (hd:JE d N=true) (b1:JE d' N=true)
  (h:∀v' w' O',BufT val E O' w' i v' (l++[u])->GE (fun k=>k=i) O w O' w'->Io B O' w'->WL P N ops Q rest ((d',v')::(d,.slice (some ⟨w.heap.size,0,none⟩) 1 1)::st) w') :
  WL P N ops Q (⟨some d,.buildSlice T 1 #[(0,x)],t,p,e,none⟩::⟨some d',.call ⟨.builtin .append,#[y,.tmp d],#[T,T]⟩,t',p',e',none⟩::rest) st w:=by
 subst a';obtain⟨a8,z,hi,hz,a3,b4,b3⟩:=he.parts;have a7:(val u).cells = #[val u]:=by generalize val u=c at a2;cases c<;>first|rfl|simp[GC]at a2
 refine K0 (v:=.slice (some ⟨w.heap.size,0,none⟩) 1 1) (w':=w.alloc (.cells (val u).cells E)) hd (fun a ha=>?_) ?_
 ·have:=run_buildSlice (P:=P) w T E 1 #[(0,val u)] (val u).cells a8 z he.ht hi hz (by rw[a3];decide) (by rw[a3];decide) (by
   rw[a3]
   exact jN (by rw[a7];rfl) (by simp))
  simp only[execOp,Iv,GU,J7,ha.ev hx,IE,this,I3];rfl
 have a9:¬(fun k=>k=i) 0:=fun h=>a6 h.symm
 have hE:=Ext.alloc w (.cells (val u).cells E);have r1:=r.ext hE;have b0:BufT val E O (w.alloc (.cells (val u).cells E)) i v l:=hr.upd (aa (S:=fun _=>False) (fun h=>h) O hE) a6 (fun h=>h)
 obtain⟨v',w',O',a4,a5,a1⟩:=nq (P:=P) (ty:=t') he r1 b0 ⟨w.heap.size,0,none⟩ u (by
  rw[cell_of_row _ _ 0 (val u).cells E (0,0) (heap_alloc_new w _),a7];rfl) a2 hb b2 a6
 refine K0 (v:=v') (w':=w') b1 (fun a ha=>?_) ?_
 ·simp only[execOp,resolve,invoke,builtin,IE,Sem.run_pure,I3,Iv,GU,J7,ha.ev (hv _),ha.ev (x:=.tmp d) (v:=.slice (some ⟨w.heap.size,0,none⟩) 1 1) (by simp[ev,bV]),a4]
 have hU:GE (fun k=>k=i) O w O' w':=GH (aa a9 O hE) a1;exact h v' w' O' a5 hU (r.upd hU)
end
section
variable{P:JW}{N:Nat}{ops:Array Lb}{Q:Exit→Act→G6→Prop}{rest:List Lb}{st:St}{w:G6}
variable{t:I2}{p:String}{e:Array Edge}{d:Nat}{op:Op}
theorem fc{v v':ix}(h:RV P N op t st w v)(e:v=v'):RV P N op t st w v':=e▸h
theorem fQ{T E:I2}{sz a1 n:Nat}(he:Lh P T E sz a1){z:ix}{parts:List (Nat×Jn)}{vs:List (Nat×ix)}(hz:(zeroValue E).run P w=.ok z w) 
  {α:Type} (enc:α->List ix) (xs:List α) {B:Nat} {O:Nat->Nat} (r:Io B O w) (i:Nat) (a7:i≠0) (hn:xs.length=n) (hv:evp st parts=some vs) (a5:Lm (n*sz) 16777216=true) (a3:Ln (n*sz) 0=false)
  (hf:KM (fun i=>some (i*sz,sz)) ((KG (n*sz)).map (z.cells[· % z.cells.size]!)) vs=some (xs.flatMap enc).toArray) (a2:∀x∈xs,(enc x).length=sz) (hd:JE d N=true)
  (h:∀v w' O',Iy enc E sz O' w' i v xs->GE (fun k=>k=i) O w O' w'->Io B O' w'->WL P N ops Q rest ((d,v)::st) w'):WL P N ops Q (⟨some d,.buildSlice T n parts.toArray,t,p,e,none⟩::rest) st w:=by
 subst hn;obtain⟨a8,z',hi,a',a6,b1,a9⟩:=he.parts;have a4:=JH a5;have a0:¬xs.length*sz=0:=fun e=>by rw[e]at a3;simp at a3
 have b0:xs.length<=xs.length*sz:=Nat.le_mul_of_pos_right _ (Nat.pos_of_ne_zero fun e=>a0 (by rw[e,Nat.mul_zero]));have u1:=Kd (S:=fun k=>k=i) (fun e=>a7 e.symm) r (.cells (xs.flatMap enc).toArray E) i;have hE:(Km E).run P w=.ok sz w:=by simp[Km,typeInfo,hi,a6]
 refine K0 (v:=.slice (some ⟨w.heap.size,0,none⟩) xs.length xs.length) (w':=w.alloc (.cells (xs.flatMap enc).toArray E)) hd (fun a ha=>?_) (h _ _ (kW O w.heap.size i) ⟨⟨?_,fun g hg=>?_⟩,a2⟩ u1 (r.upd u1))
 ·have h1:=ha.evp hv;have e1:(Kk (fun x:Nat×Jn=>match x with|(i,x)=>(i,a.eval x)) parts)=vs:=by rw[<-h1]
  simp only[execOp,JZ,Iv,e1,IE,run_underlying he.ht,I3,hE];rw[if_neg zo,if_neg a0];simp[hz,hf,newRow,newObj];rfl
 ·have:=World.ownsRow_lit (base:=0) (size:=sz) (e:=E) w (xs.flatMap enc).toArray xs.length (GA _) (by simp[maxLen];omega) (by simpa using lK xs a2);simpa using this
 simp[IP]at hg;subst hg;exact dr _ _ _
theorem qg{T E:I2}{a0 n:Nat}{t':I2}{p':String}{e':Array Edge}{d':Nat}(he:Lh P T E 1 a0)(a8:P.underlying E=some (.int .u8)){z:ix}{parts:List (Nat×Jn)}{vs:List (Nat×ix)}(hz:(zeroValue E).run P w=.ok z w) 
  {α:Type} (val:α->ix) (l:List α) {B:Nat} {O:Nat->Nat} (r:Io B O w) (i:Nat) (a6:i≠0) (hn:l.length=n) (hv:evp st parts=some vs) (a4:Lm (n*1) 16777216=true) (a2:Ln (n*1) 0=false)
  (hf:KM (fun i=>some (i*1,1)) ((KG (n*1)).map (z.cells[· % z.cells.size]!)) vs=some (l.map val).toArray) (hd:JE d N=true) (a7:JE d' N=true)
  (h:∀v w' O',BufT val E O' w' i v l->GE (fun k=>k=i) O w O' w'->Io B O' w'->WL P N ops Q rest ((d',v)::(d,v)::st) w') :
  WL P N ops Q (⟨some d,.buildSlice T n parts.toArray,t,p,e,none⟩::⟨some d',.convert T T (.tmp d),t',p',e',none⟩::rest) st w:=by
 subst hn;obtain⟨a9,z',hi,b0,a5,b1,a'⟩:=he.parts;have a3:=JH a4;have a1:¬l.length*1=0:=fun e=>by rw[e]at a2;simp at a2
 have hE:(Km E).run P w=.ok 1 w:=by simp[Km,typeInfo,hi,a5]
 have u1:=Kd (S:=fun k=>k=i) (fun e=>a6 e.symm) r (.cells (l.map val).toArray E ((l.map val).toArray.size,(l.map val).toArray.size+1)) i;refine K0 (v:=.slice (some ⟨w.heap.size,0,none⟩) l.length l.length) (w':=w.alloc (.cells (l.map val).toArray E)) hd (fun a ha=>?_) ?_
 ·have h1:=ha.evp hv;have e1:(Kk (fun x:Nat×Jn=>match x with|(i,x)=>(i,a.eval x)) parts)=vs:=by rw[<-h1]
  simp only[execOp,JZ,Iv,e1,IE,run_underlying he.ht,I3,hE];rw[if_neg zo,if_neg a1];simp only[It]at hf;simp[hz,hf,newRow,newObj];rfl
 refine K0 (v:=.slice (some ⟨w.heap.size,0,none⟩) l.length l.length) (w':=w.alloc (.cells (l.map val).toArray E ((l.map val).toArray.size,(l.map val).toArray.size+1))) a7 (fun a ha=>?_) (h _ _ (kW O w.heap.size i) ⟨.inr ⟨w.heap.size,l.length,_,_,rfl,heap_alloc_new w _,fun j hj hf=>?_,GK _,?_,?_,?_⟩,fun g hg=>?_⟩ u1 (r.upd u1))
 ·simp only[execOp,ha.ev (x:=.tmp d) (v:=.slice (some ⟨w.heap.size,0,none⟩) l.length l.length) (by simp[ev,bV]),IE,Lib.run_convert_bytes_const w T E _ _ _ he.ht a8,I3];rfl
 ·have:=hf.1;simp at this;omega
 ·simp[maxLen];omega
 ·simp
 ·rw[Gx (by simp)]
 simp only[IP,KV]at hg;subst hg;exact dr _ _ _
end
end Go.VL
namespace Go.Proofs.YtpfpmhhigheccaaGreatDoor
def grT(t:TabM)(c:Nat):Nat:=(nth t.groups c).toNat
def stL(t:TabM)(r c:Nat):Nat:=(getM t.left r (grT t c)).toNat
def stR(t:TabM)(r c:Nat):Nat:=(getM t.right r (grT t c)).toNat
structure OkT(t:TabM):Prop where
 okl:OkP t.left
 okr:OkP t.right
 gl:t.groups.length=37
 gr:∀c,c<37->0<=nth t.groups c/\nth t.groups c<64
 ll:t.lt.length=t.left.usual.length
 rl:t.rt.length=t.right.usual.length
 lp:0<t.left.usual.length
 rp:0<t.right.usual.length
 lst:∀r c,r<t.left.usual.length->c<37->0<=getM t.left r (grT t c)/\getM t.left r (grT t c)<t.left.usual.length
 rst:∀r c,r<t.right.usual.length->c<37->0<=getM t.right r (grT t c)/\getM t.right r (grT t c)<t.right.usual.length
 ig:t.ig<2^36
 kp:t.kp<2^36
 br:t.br<2^40
 lt:∀q∈t.lt,q<2^40
 rt:∀q∈t.rt,q<2^40
def FreeL(O:Nat->Nat)(w:G6)(cs:List ix):Prop:=∀v∈cs,Jf O w v
theorem FreeL.upd{S:Nat->Prop}{O O':Nat->Nat}{w w':G6}{cs:List ix}(h:FreeL O w cs)(u:GE S O w O' w'):FreeL O' w' cs:=fun v hv=>(h v hv).upd u
theorem PartV.updF{S:Nat->Prop}{O O':Nat->Nat}{w w':G6}{cs:List ix}{p:Ke}{tl:List Nat}(h:Ip w cs p tl)(n:FreeL O w cs)(u:GE S O w O' w'):Ip w' cs p tl:=by
 obtain⟨uv,bv,kv,nv,tv,rfl,h1,h2,h3,h4,h5⟩:=h;exact⟨uv,bv,kv,nv,tv,rfl,h1.upd (n uv (by simp)) u,h2.upd (n bv (by simp)) u,h3.upd (n kv (by simp)) u,h4.upd (n nv (by simp)) u,h5.upd (n tv (by simp)) u⟩
theorem PartV.free0{w:G6}{cs:List ix}{p:Ke}{tl:List Nat}(h:Ip w cs p tl):FreeL (fun _=>0) w cs:=fun v hv=>by
 obtain⟨uv,bv,kv,nv,tv,rfl,h1,h2,h3,h4,h5⟩:=h;simp only[Gv,Gu,or_false]at hv
 rcases hv with rfl|rfl|rfl|rfl|rfl|rfl
 ·exact fun a n c e=>by cases e
 ·exact h1.free0 (fun x=>by simp)
 ·exact h2.free0 (fun x=>by simp)
 ·exact h3.free0 (fun x=>by simp)
 ·exact h4.free0 (fun x=>by simp)
 exact h5.free0 (fun x=>by simp)
theorem elW:Lh GM 22 5 1 1:=⟨GR,by kernel_rfl,zd⟩
abbrev ng(b:UInt8):ix:=.int .u8 (b.toNat:Int)
theorem mu{a:Nat}(h:a<2^64):(a:Int)<=Jy.max:=by
 have:(a:Int)<=18446744073709551615:=zo;exact this
theorem qE(l:List UInt8)(c:UInt8)(n:Nat):sN (l++[c]) n=uz (sN l n) c.toNat:=by
 unfold sN;rw[JX,Kg,List.foldl_nil]
theorem oY(l:List UInt8)(v:ix)(w:G6)(h:Sl mG 1 w v l):IS GM 11 [v] w fun u w'=>u=.int .u64 ((sM l:Nat):Int)/\w'=w:=by
 have hl:=h.len_le;have a1:sM l=sN (l.take l.length) 14695981039346656037:=by rw[GG];rfl
 rw[a1];refine G8 func11 ntmps11 rfl rfl ?_;refine zh ?_;refine zlp (fun z:Nat×Nat=>[(3,.int .u64 ((z.2:Nat):Int)),(6,v),(7,nI l.length),(8,nI z.1)]) (fun z=>w) (fun z=>z.1<=l.length/\z.2=sN (l.take z.1) 14695981039346656037/\z.2<2^64) (fun z=>l.length-z.1) (0,14695981039346656037) (⟨GA _,rfl,zd⟩) ?_;rintro⟨q,n⟩ ⟨hq,hn,a2⟩;dsimp only at hq hn a2 ⊢;refine zh ?_;refine zC ?_ ?_
 ·intro a0;replace a0:q<l.length:=dT a0;have hc:=(nth l q).toNat_lt;have m1:w.cell? (adr v 1 q)=some (.int .u8 ((nth l q).toNat:Int)):=h.ld a0;have hs:uz n (nth l q).toNat=sN (l.take (q+1)) 14695981039346656037:=by rw[aF a0,qE,<-hn]
  refine zh ?_;refine zv (dJ GQ GD rfl (II zo)) ?_
  refine zv (Aq (a:=n) (b:=(nth l q).toNat) rfl rfl rfl rfl (mu a2) (mu (rY _))) ?_;refine zvH (fc (v':=.int .u64 ((uz n (nth l q).toNat:Nat):Int)) (As (a:=n ^^^ (nth l q).toNat) (b:=1099511628211) rfl rfl rfl rfl) (by rw[uz])) ?_
  refine zxd (q+1,uz n (nth l q).toNat) (⟨a0,hs,sL _ _⟩)
 intro a3;obtain rfl:q=l.length:=dF a3;refine zh ?_;refine ae rfl rfl (⟨by rw[hn],rfl⟩)
theorem qZ:∀(k n:Nat),n<128^(k+1)->(dD n).length<=k+1
 |0,n,h=>by
  unfold dD;rw[if_pos (by simpa using h)];simp
 |k+1,n,h=>by
  unfold dD
  split
  ·simp
  have:=qZ k (n / 128) (Nat.div_lt_of_lt_mul (by rw[KI,<-KH];exact h));rw[Iw];omega
theorem cA{n:Nat}(h:n<2^64):(dD n).length<=10:=qZ 9 n (GT h zd)
theorem Fw{r:Nat}(h:r<128):r ||| 128=(Gn (128+r)).toNat:=by
 rw[toNat_ofNat zo,KQ];exact(Jp (i:=7) h 1).symm
theorem gW(B:Nat)(O:Nat->Nat)(w:G6)(i:Nat)(v:ix)(l:List UInt8)(z:Int)(n:Nat)(hz:z=n)(hR:Io B O w)(h:BufT ng 5 O w i v l)(hi:i≠0)(hn:n<2^64)(hl:l.length<=100000000000):
  IS GM 26 [v,.int .u64 z] w fun v' w'=>∃O',BufT ng 5 O' w' i v' (l++dD n)/\GE (fun j=>j=i) O w O' w'/\Io B O' w':=by
 subst hz;have a6:=cA hn;refine G8 func26 ntmps26 rfl rfl ?_;refine zh ?_;refine zlp (fun z:Nat×List UInt8×ix×(Nat->Nat)×World=>[(0,z.2.2.1),(1,.int .u64 ((z.1:Nat):Int))]) (fun z=>z.2.2.2.2) (fun z=>z.1<2^64/\z.2.1++dD z.1=dD n/\BufT ng 5 z.2.2.2.1 z.2.2.2.2 i z.2.2.1 (l++z.2.1)/\GE (fun j=>j=i) O w z.2.2.2.1 z.2.2.2.2/\Io B z.2.2.2.1 z.2.2.2.2) (fun z=>z.1) (n,[],v,O,w) (⟨hn,rfl,by rw[Ik];exact h,Ii (fun e=>hi e.symm) _ _,hR⟩) ?_;rintro⟨m,p,v1,O1,w1⟩ ⟨hm,hp,h1,a3,a5⟩;dsimp only at hm hp h1 a3 a5 ⊢;have a8:p.length<=10:=by have:=congrArg KK hp;rw[ln]at this;omega
 have a9:(l++p).length<=100000000010:=by rw[ln];omega
 refine zh ?_;refine zC ?_ ?_
 ·intro a0;replace a0:127<m:=dT a0;have hr:m % 128<128:=IF _ zd;have a1:dD m=Gn (128+m % 128)::dD (m / 128):=by rw[dD,if_neg zo]
  refine zh ?_;refine zv (fc (v':=.int .u64 ((m % 128:Nat):Int)) (uh (a:=m) (b:=127) rfl rfl rfl rfl (mu hm) zd) (by rw[show m &&& 127=m % 128 from Jd m 7])) ?_
  refine zv (dJ GD GQ rfl (Lq zo)) ?_;refine zv (fc (v':=.int .u8 (((Gn (128+m % 128)).toNat:Nat):Int)) (oT (a:=m % 128) (b:=128) rfl rfl rfl rfl (by show((m % 128:Nat):Int)<=255;omega) zd) (by rw[Fw hr])) ?_
  refine qf elW h1 a5 (Gn (128+m % 128)) (fun _=>rfl) rfl rfl rfl zo zo hi rfl rfl ?_;intro v2 w2 O2 h2 a2 a4;refine zh ?_
  refine zvH (gS (a:=m) (b:=7) rfl rfl rfl rfl zd) ?_;refine zxd (m / 128,p++[Gn (128+m % 128)],v2,O2,w2) (⟨by dsimp only;omega,by dsimp only;rw[G5,List.singleton_append,<-a1];exact hp,by dsimp only;rw[<-G5];exact h2,a3.trans a2,a4⟩)
 intro a7;have a0:m<128:=dF a7;have a1:dD m=[Gn m]:=by rw[dD,if_pos a0]
 rw[a1]at hp;refine zh ?_;refine zv (fc (v':=.int .u8 (((Gn m).toNat:Nat):Int)) (dJ GD GQ rfl (Lq zo)) (by rw[toNat_ofNat zo])) ?_;refine qf elW h1 a5 (Gn m) (fun _=>rfl) rfl rfl rfl zo zo hi rfl rfl ?_;intro v2 w2 O2 h2 a2 a4;refine zh ?_;refine ae rfl rfl (⟨O2,by rw[<-hp,<-G5];exact h2,a3.trans a2,a4⟩)
structure ListsV(w:G6)(lv:ix)(vs:List ix)(xss:List (List Int)):Prop where
 sl:Sl (fun x:ix=>[x]) 1 w lv vs
 len:vs.length=xss.length
 row:∀j,j<xss.length->KL w (nth vs j) (nth xss j)
def okI(b:Int)(xs:List Int):Prop:=xs.length<=65599/\∀n∈xs,n<=65536/\0<=n+b/\n+b<=65536
theorem iu{α β:Type}{f:α->List β}{M:Nat}:∀(l:List α),(∀x∈l,(f x).length<=M)->(l.flatMap f).length<=l.length*M
 |[],_=>by simp
 |a::l,h=>by
  have h1:=h a (List.mem_cons_self ..);have h2:=iu l fun x hx=>h x (List.mem_cons_of_mem _ hx)
  rw[List.flatMap_cons,ln,Iw,Nat.succ_mul];omega
theorem gj(b:Int)(xs:List Int):(upN b xs).length=xs.length:=by simp[upN]
theorem xL{b:Int}{xs:List Int}(h:okI b xs):∀x∈upN b xs,x<2^64:=fun x hx=>by
 obtain⟨n,hn,rfl⟩:=KE.1 hx;have:=(h.2 n hn).2;omega
theorem mj{xs:List Nat}(h:∀x∈xs,x<2^64):(xs.flatMap dD).length<=xs.length*10:=iu xs fun x hx=>cA (h x hx)
theorem gE{b:Int}{xs:List Int}(h:okI b xs):(pK (upN b xs)).length<=656000:=by
 have h1:=mj (xL h);have h2:=cA (n:=(upN b xs).length) (by rw[gj];have:=h.1;omega);have h3:=h.1;unfold pK;rw[ln];rw[gj]at h1 h2;rw[gj];omega
theorem A0{α β:Type}[Inhabited α][Inhabited β](f:α->β){l:List α}{i:Nat}(h:i<l.length):nth (l.map f) i=f (nth l i):=by
 rw[aB (by simpa using h),aB h,K5]
theorem jF(B:Nat)(O:Nat → Nat)(w:G6)(i:Nat)(v lv:ix)(l:List UInt8)(b:Int)(vs:List ix)(xss:List (List Int))(_:0 ≤ b ∧ b ≤ 1)(hR:Io B O w)(h:BufT ng 5 O w i v l)(hi:i ≠ 0)(hl:l.length ≤ 10000000000)(hn:xss.length ≤ 2)
  (hok:∀xs ∈ xss, okI b xs) (hx:∀O' W, GE (fun j => j = i) O w O' W → ListsV W lv vs xss) :
  IS GM 27 [v, nI b, lv] w fun v' w' => ∃O', BufT ng 5 O' w' i v' (l ++ xss.flatMap fun xs => pK (upN b xs)) ∧ GE (fun j => j = i) O w O' w' ∧ Io B O' w' := by
 have hz:¬(0 = i) := fun e => hi e.symm
 have h0 := hx O w (Ii hz _ _)
 have hvl := h0.len
 obtain⟨W, hW⟩:∃W:List Int → List UInt8, W = fun xs => pK (upN b xs) := ⟨_, rfl⟩
 rw[← hW]
 have hWl:∀j, ((xss.take j).flatMap W).length ≤ 1312000 := fun j => by
  have := iu (f := W) (M := 656000) (xss.take j) fun xs hxs => by rw[hW]; exact gE (hok xs (Ig hxs))
  have h2:(xss.take j).length ≤ 2 := JD (by rw[GS]; exact Nat.min_le_right _ _) hn
  have h3 := Nat.mul_le_mul_right 656000 h2
  omega
 refine G8 func27 ntmps27 rfl rfl ?_
 refine G9 ?_
 refine G2 ?_
 refine lq (Gp rfl) rfl ?_
 refine G4 ?_
 refine ax ?_
 refine G9 ?_
 refine G9 ?_
 refine G2 ?_
 refine lq (G1 rfl) rfl ?_
 refine lq (Ju (by first | exact h0.sl) JP rfl) rfl ?_
 refine lq (G1 rfl) rfl ?_
 refine G4 ?_
 refine ax ?_
 refine ID ?_
 rw[hvl]
 refine KN (fun z:Nat×(Nat → Nat)×World×ix => [(0, z.2.2.2), (1, nI b), (11, lv), (12, nI xss.length), (13, nI z.1)]) (fun z:Nat×(Nat → Nat)×World×ix => z.2.2.1) (fun z:Nat×(Nat → Nat)×World×ix => z.1 ≤ xss.length ∧ BufT ng 5 z.2.1 z.2.2.1 i z.2.2.2 (l ++ (xss.take z.1).flatMap W) ∧ GE (fun j => j = i) O w z.2.1 z.2.2.1 ∧ Io B z.2.1 z.2.2.1) (fun z:Nat×(Nat → Nat)×World×ix => xss.length - z.1) (0, O, w, v) (⟨GA _, by simpa using h, Ii hz _ _, hR⟩) ⟨rfl, rfl, rfl, rfl, rfl, trivial⟩ rfl ?_
 rintro⟨q, O1, w1, v1⟩ ⟨hq, h1, hU1, hR1⟩
 dsimp only at hq h1 hU1 hR1 ⊢
 have hx1 := hx O1 w1 hU1
 refine G9 ?_
 refine G2 ?_
 refine lq (KZ rfl rfl) rfl ?_
 refine G4 ?_
 refine ax ?_
 refine G9 ?_
 refine KO rfl ?_ ?_
 ·intro hlt
  replace hlt:q < xss.length := by have := of_decide_eq_true hlt; omega
  have m1:w1.cell? (adr lv 1 q) = some (nth vs q) := hx1.sl.ld (by omega)
  have hr1 := hx1.row q hlt
  have hxl := hr1.len_le
  obtain⟨ho1, ho2⟩ := hok _ (aN hlt)
  have hW1:W (nth xss q) = dD (nth xss q).length ++ (upN b (nth xss q)).flatMap dD := by rw[hW]; show pK _ = _; unfold pK; rw[gj]
  have hx2:∀O' W', GE (fun j => j = i) O1 w1 O' W' → KL W' (nth vs q) (nth xss q) := fun O' W' u => (hx O' W' (hU1.trans u)).row q hlt
  have hup := mj (xL (hok _ (aN hlt)))
  rw[gj]at hup
  obtain⟨xs, hxs⟩:∃xs, xs = nth xss q := ⟨_, rfl⟩
  obtain⟨xv, hxv⟩:∃xv, xv = nth vs q := ⟨_, rfl⟩
  rw[← hxv]at m1 hr1 hx2
  rw[← hxs]at hr1 hxl ho1 ho2 hW1 hx2 hup
  have hlq := hWl q
  refine IK ?_
  refine ax ?_
  refine G9 ?_
  refine ID ?_
  refine G9 ?_
  refine G2 ?_
  refine lq (Ja hx1.sl JP (I4 _) rfl rfl q rfl (by omega)) rfl ?_
  refine lq (Iu (by first | exact m1) (JS _) rfl) rfl ?_
  refine lq (Gp rfl) rfl ?_
  refine G4 ?_
  refine ax ?_
  refine G9 ?_
  refine G2 ?_
  refine lq (G1 rfl) rfl ?_
  refine lq (G1 rfl) rfl ?_
  refine lq (Ju (by first | exact hx1.sl | exact hr1) Ir rfl) rfl ?_
  refine lq (dJ IA GD rfl (II (by omega))) rfl ?_
  refine IU JT rfl (gW B O1 w1 i v1 _ _ xs.length rfl hR1 h1 hi (by omega) (by rw[ln]; omega)) rfl ?_
  rintro v2 w2 ⟨O2, h2, hU2, hR2⟩
  have hr2 := hx2 O2 w2 hU2
  refine lq (Gp rfl) rfl ?_
  refine G4 ?_
  refine ax ?_
  refine G9 ?_
  refine G2 ?_
  refine lq (G1 rfl) rfl ?_
  refine lq (Ju (by first | exact hr2) Ir rfl) rfl ?_
  refine lq (G1 rfl) rfl ?_
  refine G4 ?_
  refine ax ?_
  refine ID ?_
  refine KN (fun y:Nat×(Nat → Nat)×World×ix => [(0, y.2.2.2), (1, nI b), (11, lv), (12, nI xss.length), (13, nI q), (22, xv), (23, nI xs.length), (24, nI y.1)]) (fun y:Nat×(Nat → Nat)×World×ix => y.2.2.1) (fun y:Nat×(Nat → Nat)×World×ix => y.1 ≤ xs.length ∧ BufT ng 5 y.2.1 y.2.2.1 i y.2.2.2 (l ++ (xss.take q).flatMap W ++ dD xs.length ++ ((upN b xs).take y.1).flatMap dD) ∧ GE (fun j => j = i) O1 w1 y.2.1 y.2.2.1 ∧ Io B y.2.1 y.2.2.1) (fun y:Nat×(Nat → Nat)×World×ix => xs.length - y.1) (0, O2, w2, v2) (⟨GA _, by simpa using h2, hU2, hR2⟩) ⟨rfl, rfl, rfl, rfl, rfl, rfl, rfl, rfl, trivial⟩ rfl ?_
  rintro⟨k, O3, w3, v3⟩ ⟨hk, h3, hU3, hR3⟩
  dsimp only at hk h3 hU3 hR3 ⊢
  have hr3 := hx2 O3 w3 hU3
  refine G9 ?_
  refine G2 ?_
  refine lq (KZ rfl rfl) rfl ?_
  refine G4 ?_
  refine ax ?_
  refine G9 ?_
  refine KO rfl ?_ ?_
  ·intro hlt3
   replace hlt3:k < xs.length := by have := of_decide_eq_true hlt3; omega
   have hkl:k < (upN b xs).length := by rw[gj]; exact hlt3
   have m3:w3.cell? (adr xv 1 k) = some (nI (nth xs k)) := hr3.ld hlt3
   obtain⟨hk1, hk2, hk3⟩ := ho2 _ (aN hlt3)
   have hnk:nth (upN b xs) k = (nth xs k + b).toNat := A0 _ hlt3
   have htl:(((upN b xs).take k).flatMap dD).length ≤ 655990 := by
    have := iu (f := dD) (M := 10) ((upN b xs).take k) fun x hx' => cA (xL ⟨ho1, ho2⟩ x (Ig hx'))
    rw[GS, Jo (by omega)]at this
    omega
   have hnl := cA (n := xs.length) (by omega)
   refine IK ?_
   refine ax ?_
   refine G9 ?_
   refine ID ?_
   refine G9 ?_
   refine G2 ?_
   refine lq (Ja (by first | exact hr3) Ir (sizeOf3 _) rfl rfl _ rfl (by omega)) rfl ?_
   refine lq (Iu (by first | exact m3) (isAgg3 _) rfl) rfl ?_
   refine lq (Gp rfl) rfl ?_
   refine G4 ?_
   refine ax ?_
   refine G2 ?_
   refine lq (G1 rfl) rfl ?_
   refine lq (G1 rfl) rfl ?_
   refine lq (G1 rfl) rfl ?_
   refine lq (Ji rfl rfl (I8 (by omega))) rfl ?_
   refine lq (dJ IA GD rfl (II (by omega))) rfl ?_
   refine IU JT rfl (gW B O3 w3 i v3 _ _ (nth xs k + b).toNat (by omega) hR3 h3 hi (by omega) (by simp only[ln]; omega)) rfl ?_
   rintro v4 w4 ⟨O4, h4, hU4, hR4⟩
   refine lq (Gp rfl) rfl ?_
   refine G4 ?_
   refine bJ ?_
   refine ax ?_
   refine G2 ?_
   refine lq (Ji rfl rfl (I8 (by omega))) rfl ?_
   refine lq (G1 rfl) rfl ?_
   refine G4 ?_
   refine KP ((k + 1, O4, w4, v4)) (⟨hlt3, by dsimp only; rw[aF hkl, Il, hnk, ← G5, I5]; exact h4, hU3.trans hU4, hR4⟩) (by dsimp only; omega) ⟨rfl, rfl, rfl, rfl, rfl, rfl, rfl, rfl, trivial⟩ rfl
  ·intro hge3
   obtain rfl:k = xs.length := by have := of_decide_eq_false hge3; omega
   rw[← gj b xs, GG, gj, G5, ← hW1]at h3
   refine Kc ?_
   refine bI ?_
   refine bI ?_
   refine dv ?_
   refine bJ ?_
   refine ax ?_
   refine G2 ?_
   refine lq (Ji rfl rfl (I8 (by omega))) rfl ?_
   refine lq (G1 rfl) rfl ?_
   refine G4 ?_
   refine KP ((q + 1, O3, w3, v3)) (⟨hlt, by dsimp only; rw[aF hlt, Il, ← hxs, ← G5, I5]; exact h3, hU1.trans hU3, hR3⟩) (by dsimp only; omega) ⟨rfl, rfl, rfl, rfl, rfl, trivial⟩ rfl
 ·intro hge
  obtain rfl:q = xss.length := by have := of_decide_eq_false hge; omega
  rw[GG]at h1
  refine Kc ?_
  refine bI ?_
  refine bI ?_
  refine dv ?_
  refine ax ?_
  refine G9 ?_
  refine G2 ?_
  refine lq (G1 rfl) rfl ?_
  refine lq (Gp rfl) rfl ?_
  refine G4 ?_
  refine ax ?_
  refine Jh ?_
  refine ae rfl rfl (⟨O1, h1, hU1, hR1⟩)
theorem nW(B:Nat)(O:Nat->Nat)(w:G6)(i:Nat)(v:ix)(l:List UInt8)(hR:Io B O w)(h:BufT ng 5 O w i v l)(hi:i≠0)(hl:l.length<=1000000000000):
  IS GM 20 [v] w fun v' w'=>∃O',BufT ng 5 O' w' i v' (eH l)/\GE (fun j=>j=i) O w O' w'/\Io B O' w':=by
 have hz:¬(0=i):=fun e=>hi e.symm
 have a9:=ya l;have a1:eH l=l++(le8 (sM l)).take 8:=by rw[Gx (by rw[fG];exact GK _)];rfl
 have a5:∀j,j<8->nth (le8 (sM l)) j=Gn (sM l / 2^(8*j)):=fun j hj=>by
  rw[aB (by rw[fG];exact hj)];simp[le8]
 rw[a1];refine G8 func20 ntmps20 rfl rfl ?_;refine zh ?_;refine zc call11 (oY l v w h.sl) ?_;rintro _ w0 ⟨rfl,a4⟩;rw[a4];generalize sM l=S at *;refine zh ?_;refine zlp (fun z:Nat×(Nat->Nat)×World×ix=>[(0,z.2.2.2),(3,.int .u64 (S:Int)),(7,nI z.1)]) (fun z=>z.2.2.1) (fun z=>z.1<=8/\BufT ng 5 z.2.1 z.2.2.1 i z.2.2.2 (l++(le8 S).take z.1)/\GE (fun j=>j=i) O w z.2.1 z.2.2.1/\Io B z.2.1 z.2.2.1) (fun z=>8-z.1) (0,O,w,v) (⟨GA _,by simpa using h,Ii hz _ _,hR⟩) ?_;rintro⟨q,O1,w1,v1⟩ ⟨hq,h1,a2,a3⟩;dsimp only at hq h1 a2 a3 ⊢;have a':(l++(le8 S).take q).length<=1000000000008:=by rw[ln,GS,fG];omega
 refine zh ?_;refine zC ?_ ?_
 ·intro a0;replace a0:q<8:=dT a0;refine zh ?_;refine zv (RV.mul rfl rfl (I8 zo)) ?_;refine zv (gS (a:=S) (b:=8*q) rfl rfl rfl zo (by show _<=64;omega)) ?_;refine zv (fc (v':=.int .u8 (((Gn (S / 2^(8*q))).toNat:Nat):Int)) (vt (a:=S / 2^(8*q)) GD GQ rfl rfl) (by rw[IW])) ?_;refine qf elW h1 a3 (Gn (S / 2^(8*q))) (fun _=>rfl) rfl rfl rfl zo zo hi rfl rfl ?_;intro v2 w2 O2 h2 a7 a8;refine zh ?_;refine zxd (q+1,O2,w2,v2) (⟨a0,by dsimp only;rw[aF (by rw[fG];exact a0),a5 q a0,<-G5];exact h2,a2.trans a7,a8⟩)
 intro a6;obtain rfl:q=8:=dF a6;refine zh ?_;refine ae rfl rfl (⟨O1,h1,a2,a3⟩)
theorem ja{O:Nat->Nat}{w:G6}{v:ix}{sz lo hi:Nat}(h:Jf O w v)(hn:hi-lo≠0->∃a n c,v=.slice a n c/\n≠0):Jf O w (cf v sz lo hi):=fun a n c e a2=>by
 unfold cf at e
 split at e
 ·rename_i a0 n0 c0;simp only[Jt]at e;obtain⟨e1,e2,_⟩:=e;obtain⟨a1,n1,c1,e3,a3⟩:=hn fun h0=>a2 (e2.symm.trans h0)
  simp only[Jt]at e3;obtain⟨rfl,rfl,rfl⟩:=e3
  cases a0 with
  |none=>split at e1<;>cases e1
  |some q=>
   have:=h q n0 c0 rfl a3
   split at e1
   ·cases e1;exact this
   have e4:q.add (lo*sz)=a:=by simpa using e1
   subst e4;have hb:(q.add (lo*sz)).block=q.block:=by unfold JI;split<;>rfl
   rw[hb];exact this
 subst e;exact h a n c rfl a2
structure RdO(O:Nat->Nat)(w:G6)(rb:Nat)(l:List UInt8)(b:Bool):Prop where
 ex:∃bv,Jg O w 1 rb #[bv,.bool b] 63/\Sl mG 1 w bv l/\Jf O w bv
theorem RdO.upd{S:Nat->Prop}{O O':Nat->Nat}{w w':G6}{rb:Nat}{l:List UInt8}{b:Bool}(h:RdO O w rb l b)(u:GE S O w O' w')(hS:¬S 1):RdO O' w' rb l b:=by
 obtain⟨bv,h1,h2,h3⟩:=h.ex;exact⟨bv,h1.upd u zd hS,h2.upd h3 u,h3.upd u⟩
theorem RdO.bad{O:Nat->Nat}{w:G6}{rb:Nat}{l:List UInt8}{b:Bool}(h:RdO O w rb l b):w.cell? ((nA rb 0).add 1)=some (.bool b):=by
 obtain⟨bv,h1,h2,h3⟩:=h.ex;exact h1.cell 1 rfl
def CT(l:List UInt8):UInt8:=l.headD 0
theorem Bx(B:Nat)(O:Nat->Nat)(w:G6)(rb:Nat)(l:List UInt8)(b:Bool)(hR:Io B O w)(h:RdO O w rb l b):
  IS GM 45 [nP rb] w fun u w'=>u=.int .u8 ((CT l).toNat:Int)/\RdO O w' rb l.tail (b||l.isEmpty)/\GE (fun j=>j=1) O w O w'/\Io B O w':=by
 obtain⟨bv,h1,h2,h3⟩:=h.ex;have hz:¬(0=1):=zd;have m0:w.cell? (nA rb 0)=some bv:=h1.cell 0 rfl;refine G8 func45 ntmps45 rfl rfl ?_;refine zh ?_
 cases l with
 |nil=>
  refine zTH rfl rfl ?_;refine aj (j:=1) h1 rfl (IB _) rfl rfl rfl rfl ?_
  have hU:GE (fun j=>j=1) O w O (w.setCell ⟨rb,1,none⟩ (.bool true)):=GL hz h1.tag rfl;have a0:=h1.set 1 (.bool true);refine zh ?_;refine ae rfl rfl (⟨rfl,⟨bv,by rw[show(b||([]:List UInt8).isEmpty)=true from by simp];exact a0,h2.upd h3 hU,h3.upd hU⟩,hU,hR.upd hU⟩)
 |cons c r=>
  have m1:w.cell? (adr bv 1 0)=some (.int .u8 (c.toNat:Int)):=by have:=h2.ld (i:=0) (by simp);rwa[au]at this
  have a1:Sl mG 1 w (cf bv 1 1 (c::r).length) r:=by
   have:=h2.slice (lo:=1) (hi:=(c::r).length) (by simp) (GK _)
   rwa[GG,List.drop_one,List.tail_cons]at this
  have a2:Jf O w (cf bv 1 1 (c::r).length):=ja h3 fun _=>by
   obtain⟨a,cc,e,_⟩:=h2.shape;exact⟨a,_,cc,e,by simp⟩
  refine zFH rfl ((by rw[beq_eq_false_iff_ne,Iw];omega)) ?_;refine zvH (Ja h2 GR (JR _) rfl rfl 0 rfl (by simp)) ?_
  refine zvH (kP h2 GR (JR _) rfl rfl 1 rfl (by simp)) ?_;refine aj (j:=0) h1 rfl (sizeOf22 _) a1.one rfl rfl rfl ?_
  have hU:GE (fun j=>j=1) O w O (w.setCell ⟨rb,0,none⟩ (cf bv 1 1 (c::r).length)):=GL hz h1.tag rfl;have a0:=h1.set 0 (cf bv 1 1 (c::r).length);refine zh ?_;refine ae rfl rfl (⟨rfl,⟨_,by rw[show(b||(c::r).isEmpty)=b from by simp];exact a0,a1.upd a2 hU,a2.upd hU⟩,hU,hR.upd hU⟩)
theorem DS:∀c:Nat,c<256->((c &&& 128=0)↔c<128):=by decide +kernel
theorem gZ(B:Nat)(O:Nat → Nat)(w:G6)(rb:Nat)(l:List UInt8)(b:Bool)(hR:Io B O w)(h:RdO O w rb l b):
  IS GM 23 [nP rb] w fun u w' => ∃n l' b', u = .int .u64 ((n:Nat):Int) ∧ n < 2^64 ∧ RdS (gz 0) l b n l' b' ∧ RdO O w' rb l' b' ∧ GE (fun j => j = 1) O w O w' ∧ Io B O w' := by
 have hz:¬(0 = 1) := by decide
 refine G8 func23 ntmps23 rfl rfl ?_
 refine G9 ?_
 refine G2 ?_
 refine zv (Gp rfl) ?_
 refine G4 ?_
 refine ax ?_
 refine G9 ?_
 refine G2 ?_
 refine zv (Gp rfl) ?_
 refine G4 ?_
 refine ax ?_
 refine G9 ?_
 refine G9 ?_
 refine G2 ?_
 refine zv (Gp rfl) ?_
 refine G4 ?_
 refine ax ?_
 refine ID ?_
 refine zlp (fun z:Nat×Int×Nat×List UInt8×Bool×G6 => [(0, nP rb), (3, .int .u64 ((z.2.2.1:Nat):Int)), (4, nI z.2.1)]) (fun z => z.2.2.2.2.2) (fun z => z.1 ≤ 10 ∧ z.2.1 = 7 * (z.1:Int) ∧ z.2.2.1 < 2^64 ∧ WNum l b z.1 z.2.2.1 z.2.2.2.1 z.2.2.2.2.1 ∧ RdO O z.2.2.2.2.2 rb z.2.2.2.1 z.2.2.2.2.1 ∧ GE (fun j => j = 1) O w O z.2.2.2.2.2 ∧ Io B O z.2.2.2.2.2) (fun z => 10 - z.1) (0, 0, 0, l, b, w) (⟨GA _, rfl, GN 64, xz l b, h, Ii hz _ _, hR⟩) ?_
 rintro⟨k, i, n, l1, b1, w1⟩ ⟨hk, hi, hn6, hV, h1, hU1, hR1⟩
 dsimp only at hk hi hn6 hV h1 hU1 hR1 ⊢
 refine G9 ?_
 refine G9 ?_
 refine G2 ?_
 refine zv (G1 rfl) ?_
 refine zv (RV.leq rfl rfl) ?_
 refine G4 ?_
 refine ax ?_
 refine zC ?_ ?_
 ·intro hlt
  replace hlt:k ≤ 9 := by have := of_decide_eq_true hlt; omega
  refine IK ?_
  refine ax ?_
  refine G9 ?_
  refine ID ?_
  refine G9 ?_
  refine G2 ?_
  refine zv (G1 rfl) ?_
  refine zv (aq rfl) ?_
  refine zv (RV.fa rfl) ?_
  refine zc call45 (Bx B O w1 rb l1 b1 hR1 h1) ?_
  rintro _ w2 ⟨rfl, h2, hU2, hR2⟩
  have hcb := (CT l1).toNat_lt
  obtain⟨c, hc⟩:∃c, c = CT l1 := ⟨_, rfl⟩
  rw[← hc]at hcb ⊢
  have m2 := h2.bad
  refine zv (Gp rfl) ?_
  refine G4 ?_
  refine ax ?_
  refine G9 ?_
  refine mS (fun z:G6 => [(0, nP rb), (3, .int .u64 ((n:Nat):Int)), (4, nI i), (5, .int .u8 (c.toNat:Int))]) (fun z:G6 => z) (fun z:G6 => RdO O z rb l1.tail (b1 || l1.isEmpty || mY k c) ∧ GE (fun j => j = 1) O w1 O z ∧ Io B O z) ?_ ?_
  ·intro hN
   obtain⟨bv, r1, r2, r3⟩ := h2.ex
   have fin:∀x, x = (b1 || l1.isEmpty || mY k c) → RdO O (w2.setCell ⟨rb, 1, none⟩ (.bool x)) rb l1.tail (b1 || l1.isEmpty || mY k c) ∧ GE (fun j => j = 1) O w1 O (w2.setCell ⟨rb, 1, none⟩ (.bool x)) ∧ Io B O (w2.setCell ⟨rb, 1, none⟩ (.bool x)) := by
    rintro x rfl
    have u := GL (S := fun j => j = 1) (w := w2) (j := 1) (u := .bool (b1 || l1.isEmpty || mY k c)) hz r1.tag rfl
    exact⟨⟨bv, r1.set 1 _, r2.upd r3 u, r3.upd u⟩, hU2.trans u, hR2.upd u⟩
   have hst:∀x:Bool, GC (.bool x) = true := fun _ => rfl
   refine G2 ?_
   refine zv (G1 rfl) ?_
   refine zv (G1 rfl) ?_
   refine zv (aq rfl) ?_
   refine zv (RV.fa rfl) ?_
   refine zv (RV.fa rfl) ?_
   refine zv (RV.ld m2 rfl) ?_
   refine zv (G1 rfl) ?_
   cases hb1:(b1 || l1.isEmpty)with
   |true =>
    rw[hb1]at m2 r1
    refine ao (d := 20) rfl (b' := true) (rfl) ?_
    refine I9 rfl rfl rfl ?_
    refine I9 rfl rfl rfl ?_
    refine I9 rfl rfl rfl ?_
    refine Ai rfl rfl ?_
    refine Ai rfl rfl ?_
    refine I9 rfl rfl rfl ?_
    refine zv (bT rfl rfl) ?_
    refine zv (G1 rfl) ?_
    refine I9 rfl rfl rfl ?_
    refine I9 rfl rfl rfl ?_
    refine I9 rfl rfl rfl ?_
    refine Ai rfl rfl ?_
    refine Ai rfl rfl ?_
    refine I9 rfl rfl rfl ?_
    refine zv (bT rfl rfl) ?_
    refine zv (aq rfl) ?_
    refine zv (RV.fa rfl) ?_
    refine zv (RV.fa rfl) ?_
    refine aj (j := 1) r1 rfl (IB _) rfl rfl rfl rfl ?_
    refine G4 ?_
    exact gh (hN (_) (fin true (by rw[hb1]; rfl))) ⟨rfl, rfl, rfl, rfl, trivial⟩ rfl
   |false =>
    rw[hb1]at m2 r1
    have hwb:mY k c = ((decide (k = 9) && decide (1 < c.toNat)) || (decide (0 < k) && decide (c.toNat = 0))) := rfl
    have hc0:((c.toNat:Int) == 0) = decide (c.toNat = 0) := by
     by_cases h:c.toNat = 0
     ·rw[h]; rfl
     ·rw[decide_eq_false h, beq_eq_false_iff_ne]; omega
    refine ao (d := 20) rfl (b' := false) (rfl) ?_
    refine DV rfl ?_
    refine zv (G1 rfl) ?_
    refine DV rfl ?_
    refine zv (KD rfl rfl) ?_
    refine DV rfl ?_
    refine zv (G1 rfl) ?_
    by_cases h9:k = 9
    ·skip
     refine ao (d := 23) rfl (b' := true) ((by rw[beq_iff_eq]; omega)) ?_
     refine DV rfl ?_
     refine zv (G1 rfl) ?_
     refine DV rfl ?_
     refine zv (L0 rfl rfl) ?_
     refine DV rfl ?_
     refine zv (bT rfl rfl) ?_
     refine zv (bF rfl rfl) ?_
     refine zv (G1 rfl) ?_
     by_cases h1c:1 < c.toNat
     ·skip
      refine ao (d := 28) rfl (b' := true) ((decide_eq_true (by omega))) ?_
      refine I9 rfl rfl rfl ?_
      refine I9 rfl rfl rfl ?_
      refine I9 rfl rfl rfl ?_
      refine Ai rfl rfl ?_
      refine Ai rfl rfl ?_
      refine I9 rfl rfl rfl ?_
      refine zv (bT rfl rfl) ?_
      refine zv (aq rfl) ?_
      refine zv (RV.fa rfl) ?_
      refine zv (RV.fa rfl) ?_
      refine aj (j := 1) r1 rfl (IB _) rfl rfl rfl rfl ?_
      refine G4 ?_
      exact gh (hN (_) (fin true (by rw[hb1, hwb, decide_eq_true h9, decide_eq_true h1c]; rfl))) ⟨rfl, rfl, rfl, rfl, trivial⟩ rfl
     ·skip
      refine ao (d := 28) rfl (b' := false) ((decide_eq_false (by omega))) ?_
      refine DV rfl ?_
      refine zv (G1 rfl) ?_
      refine DV rfl ?_
      refine zv (L0 rfl rfl) ?_
      refine DV rfl ?_
      refine zv (G1 rfl) ?_
      refine ao (d := 31) rfl (b' := true) ((decide_eq_true (by omega))) ?_
      refine DV rfl ?_
      refine zv (G1 rfl) ?_
      refine DV rfl ?_
      refine zv (KD rfl rfl) ?_
      refine DV rfl ?_
      refine zv (bT rfl rfl) ?_
      refine zv (bF rfl rfl) ?_
      refine zv (aq rfl) ?_
      refine zv (RV.fa rfl) ?_
      refine zv (RV.fa rfl) ?_
      rw[hc0]
      refine aj (j := 1) r1 rfl (IB _) rfl rfl rfl rfl ?_
      refine G4 ?_
      exact gh (hN (_) (fin _ (by rw[hb1, hwb, decide_eq_false h1c, decide_eq_true (show 0 < k by omega)]; simp))) ⟨rfl, rfl, rfl, rfl, trivial⟩ rfl
    ·skip
     refine ao (d := 23) rfl (b' := false) ((by rw[beq_eq_false_iff_ne]; omega)) ?_
     refine I9 rfl rfl rfl ?_
     refine I9 rfl rfl rfl ?_
     refine DV rfl ?_
     refine zv (bF rfl rfl) ?_
     refine zv (bF rfl rfl) ?_
     refine zv (G1 rfl) ?_
     refine DV rfl ?_
     refine zv (G1 rfl) ?_
     refine DV rfl ?_
     refine zv (L0 rfl rfl) ?_
     refine DV rfl ?_
     refine zv (G1 rfl) ?_
     by_cases h0:0 < k
     ·skip
      refine ao (d := 31) rfl (b' := true) ((decide_eq_true (by omega))) ?_
      refine DV rfl ?_
      refine zv (G1 rfl) ?_
      refine DV rfl ?_
      refine zv (KD rfl rfl) ?_
      refine DV rfl ?_
      refine zv (bT rfl rfl) ?_
      refine zv (bF rfl rfl) ?_
      refine zv (aq rfl) ?_
      refine zv (RV.fa rfl) ?_
      refine zv (RV.fa rfl) ?_
      rw[hc0]
      refine aj (j := 1) r1 rfl (IB _) rfl rfl rfl rfl ?_
      refine G4 ?_
      exact gh (hN (_) (fin _ (by rw[hb1, hwb, decide_eq_false h9, decide_eq_true h0]; simp))) ⟨rfl, rfl, rfl, rfl, trivial⟩ rfl
     ·skip
      refine ao (d := 31) rfl (b' := false) ((decide_eq_false (by omega))) ?_
      refine I9 rfl rfl rfl ?_
      refine I9 rfl rfl rfl ?_
      refine DV rfl ?_
      refine zv (bF rfl rfl) ?_
      refine zv (bF rfl rfl) ?_
      refine zv (aq rfl) ?_
      refine zv (RV.fa rfl) ?_
      refine zv (RV.fa rfl) ?_
      refine aj (j := 1) r1 rfl (IB _) rfl rfl rfl rfl ?_
      refine G4 ?_
      exact gh (hN (_) (fin _ (by rw[hb1, hwb, decide_eq_false h9, decide_eq_false h0]; simp))) ⟨rfl, rfl, rfl, rfl, trivial⟩ rfl
  rintro w3 ⟨h3, hU3, hR3⟩
  have hm127:c.toNat &&& 127 ≤ 127 := Nat.and_le_right
  have hq6 := CF (i := k) (c := c) hn6
  have h128 := DS _ hcb
  refine ax ?_
  refine G9 ?_
  refine G2 ?_
  refine zv (G1 rfl) ?_
  refine zv (G1 rfl) ?_
  refine zv (uh (a := c.toNat) (b := 127) rfl rfl rfl rfl (by show(c.toNat:Int) ≤ 255; omega) (by decide)) ?_
  refine zv (dJ GQ GD rfl (II (by omega))) ?_
  refine zv (G1 rfl) ?_
  refine zv (Da (a := c.toNat &&& 127) (b := 7 * k) rfl rfl rfl (by omega) (by omega)) ?_
  refine zv (fc (v' := .int .u64 ((AZ k n c:Nat):Int)) (oT (a := n) (b := (c.toNat &&& 127) * 2^(7 * k) % 2^64) rfl rfl rfl rfl (mu hn6) (mu (IF _ (GN 64)))) (by rw[AZ])) ?_
  refine zv (Gp rfl) ?_
  refine G4 ?_
  refine ax ?_
  refine G9 ?_
  refine G2 ?_
  refine zv (G1 rfl) ?_
  refine zv (uh (a := c.toNat) (b := 128) rfl rfl rfl rfl (by show(c.toNat:Int) ≤ 255; omega) (by decide)) ?_
  refine zv (KD rfl rfl) ?_
  refine G4 ?_
  refine ax ?_
  refine zC ?_ ?_
  ·intro h0
   have hc8:c.toNat < 128 := h128.1 (by have := eq_of_beq h0; omega)
   refine G9 ?_
   refine G2 ?_
   refine zv (G1 rfl) ?_
   refine zv (Gp rfl) ?_
   refine G4 ?_
   refine ax ?_
   refine Jh ?_
   refine mU ?_
   refine dP ?_
   refine dP ?_
   refine mU ?_
   refine dP ?_
   refine ae rfl rfl (⟨AZ k n c, l1.tail, _, rfl, hq6, ?_, h3, hU1.trans hU3, hR3⟩)
   cases l1 with
   |nil => rw[show(b1 || ([]:List UInt8).isEmpty || mY k c) = true from by simp]; exact RdS.bad hV.empty
   |cons x r =>
    obtain rfl:c = x := hc
    rw[show(b1 || (c :: r).isEmpty || mY k c) = (b1 || mY k c)from by simp]
    exact hV.fin hc8
  ·intro h0
   have hc8:¬c.toNat < 128 := fun h => by
    rw[h128.2 h]at h0; cases h0
   refine IK ?_
   refine bJ ?_
   refine ax ?_
   refine G2 ?_
   refine zv (G1 rfl) ?_
   refine zv (Ji rfl rfl (I8 (by omega))) ?_
   refine zv (Gp rfl) ?_
   refine G4 ?_
   cases l1 with
   |nil => subst hc; exact absurd (by decide) hc8
   |cons x r =>
    obtain rfl:c = x := hc
    rw[show(b1 || (c :: r).isEmpty || mY k c) = (b1 || mY k c)from by simp]at h3
    refine zxd (k + 1, i + 7, AZ k n c, r, b1 || mY k c, w3) (⟨by dsimp only; omega, by dsimp only; omega, hq6, hV.step hc8, h3, hU1.trans hU3, hR3⟩)
 ·intro hge
  obtain rfl:k = 10 := by have := of_decide_eq_false hge; omega
  obtain⟨bv, r1, r2, r3⟩ := h1.ex
  refine Kc ?_
  refine bI ?_
  refine bI ?_
  refine dv ?_
  refine ax ?_
  refine G9 ?_
  refine G2 ?_
  refine zv (G1 rfl) ?_
  refine zv (aq rfl) ?_
  refine zv (RV.fa rfl) ?_
  refine zv (RV.fa rfl) ?_
  refine aj (j := 1) r1 rfl (IB _) rfl rfl rfl rfl ?_
  have u := GL (S := fun j => j = 1) (w := w1) (j := 1) (u := .bool true) hz r1.tag rfl
  refine G4 ?_
  refine ax ?_
  refine G9 ?_
  refine G2 ?_
  refine zv (Gp rfl) ?_
  refine G4 ?_
  refine ax ?_
  refine Jh ?_
  refine ae rfl rfl (⟨0, l1, true, rfl, by decide, RdS.bad hV.over, ⟨bv, r1.set 1 _, r2.upd r3 u, r3.upd u⟩, hU1.trans u, hR1.upd u⟩)
theorem eI(B:Nat)(O:Nat->Nat)(w:G6)(rb:Nat)(l:List UInt8)(b:Bool)(hR:Io B O w)(h:RdO O w rb l b):
  IS GM 22 [nP rb] w fun u w'=>∃n l' b',u=nI ((n:Nat):Int)/\n<=2^20/\RdS smR l b n l' b'/\RdO O w' rb l' b'/\GE (fun j=>j=1) O w O w'/\Io B O w':=by
 have hz:¬(0=1):=zd;refine G8 func22 ntmps22 rfl rfl ?_;refine zh ?_;refine zc JU (gZ B O w rb l b hR h) ?_;rintro _ w1 ⟨n,l1,b1,rfl,hn,hS,h1,a2,a3⟩;refine zh ?_;refine zC ?_ ?_
 ·intro a5;have a1:2^20<n:=dT a5;obtain⟨bv,r1,r2,r3⟩:=h1.ex;refine zh ?_;refine aj (j:=1) r1 rfl (IB _) rfl rfl rfl rfl ?_;have u:=GL (S:=fun j=>j=1) (w:=w1) (j:=1) (u:=.bool true) hz r1.tag rfl;refine zh ?_;refine ae rfl rfl (⟨0,l1,true,rfl,zd,hS.great a1,⟨bv,r1.set 1 _,r2.upd r3 u,r3.upd u⟩,a2.trans u,a3.upd u⟩)
 intro a4;have a0:¬2^20<n:=dF a4;refine zh ?_;refine zvH (dJ GD IA rfl (I8 zo)) ?_;refine ae rfl rfl (⟨n,l1,b1,rfl,zo,hS.small a0,h1,a2,a3⟩)
theorem Br(b:Int)(xs:List Nat)(x:Nat):dnN b (xs++[x])=dnN b xs++[(x:Int)-b]:=by simp[dnN]
theorem C2(b:Int)(xs:List Nat):(dnN b xs).length=xs.length:=by simp[dnN]
theorem gu(B:Nat)(O:Nat->Nat)(w:G6)(rb i:Nat)(l:List UInt8)(b:Bool)(a0:Int)(b9:0<=a0/\a0<=1)(hi:1<i)(hR:Io B O w)(h:RdO O w rb l b):
  IS GM 24 [nP rb,nI a0] w fun u w'=>∃xs l' b' O',Iy encI 3 1 O' w' i u (dnN a0 xs)/\RdS lstR l b xs l' b'/\RdO O' w' rb l' b'/\GE (fun j=>j=1\/j=i) O w O' w'/\Io B O' w':=by
 have hz:¬(0=1\/0=i):=by omega
 refine G8 func24 ntmps24 rfl rfl ?_;refine zg ?_
 refine zc Kq (eI B O w rb l b hR h) ?_;rintro _ w1 ⟨m,l1,b1,rfl,hm,hS,h1,a9,b5⟩;refine zg ?_
 refine zlp (fun z:Nat×List Nat×List UInt8×Bool×(Nat->Nat)×World×ix=>[(0,nP rb),(1,nI a0),(5,nI ((z.1:Nat):Int)),(6,z.2.2.2.2.2.2)]) (fun z=>z.2.2.2.2.2.1) (fun z=>z.1+z.2.1.length<=m/\LstI smR m l1 b1 z.1 z.2.1 z.2.2.1 z.2.2.2.1/\Iy encI 3 1 z.2.2.2.2.1 z.2.2.2.2.2.1 i z.2.2.2.2.2.2 (dnN a0 z.2.1)/\RdO z.2.2.2.2.1 z.2.2.2.2.2.1 rb z.2.2.1 z.2.2.2.1/\GE (fun j=>j=1\/j=i) O w z.2.2.2.2.1 z.2.2.2.2.2.1/\Io B z.2.2.2.2.1 z.2.2.2.2.2.1) (fun z=>z.1) (m,[],l1,b1,O,w1,nS) (⟨GK _,oU _ _ _ _,J6 _ _ _ _ _ _,h1,a9.mono (fun _ h=>.inl h) hz,b5⟩) ?_;rintro⟨k,xs,l2,b2,O2,w2,v2⟩ ⟨hk,hL,a2,h2,a3,a4⟩;dsimp only at hk hL a2 h2 a3 a4 ⊢;have m2:=h2.bad;refine zg ?_
 refine bx (fun w1=>_=w1) (!b2) 6 (rfl) rfl rfl rfl rfl rfl ?_ ?_
 ·intro a1;refine zg ?_;refine zvG (RV.ld m2 rfl) ?_;refine dI (tA:=11) 7 (rfl) rfl rfl rfl (fun v hv=>(IX hv).symm.trans (congrArg JJ a1)) rfl
 rintro _ rfl;refine zg ?_;refine zC ?_ ?_
 ·intro hc;rw[Gz,decide_eq_true_eq,GW]at hc;obtain⟨b8,rfl⟩:=hc;obtain⟨k,rfl⟩:∃k',k=k'+1:=⟨k-1,by omega⟩
  have b6:=C2 a0 xs;have b7:(2^20:Nat)=1048576:=by decide
  refine zg ?_;refine zc Kq (eI B O2 w2 rb l2 false a4 h2) ?_
  rintro _ w3 ⟨n,l3,b3,rfl,hn,a',h3,a7,b4⟩;have a8:=a2.upd a7 zo zo;refine zg ?_;refine zv (KX rfl rfl (I8 zo)) ?_;refine Kb jj a8 b4 (((n:Int)-a0)) (fun _=>rfl) rfl rfl rfl (by simp[GC]) zo zo zo zd rfl rfl ?_;intro v4 w4 O4 a5 a6 b0;rw[<-Br]at a5;refine zg ?_;refine zvG (fc (v':=nI ((k:Nat):Int)) (KX rfl rfl (I8 zo)) (by congr 1;omega)) ?_;refine zxd (k,xs++[n],l3,b3,O4,w4,v4) (⟨by dsimp only;rw[ln,G0];omega,hL.step a',a5,h3.upd a6 zo,(a3.trans (a7.mono (fun _ h=>.inl h) hz)).trans (a6.mono (fun _ h=>.inr h) hz),b0⟩)
 intro hc;have hd:k=0\/b2=true:=by
  rw[JG,decide_eq_false_iff_not,IZ]at hc
  rcases hc with hc|hc
  ·exact .inl zo
  exact .inr hc
 refine zg ?_;refine ae rfl rfl (⟨xs,l2,b2,O2,a2,hS.lstR (hL.done hd),h2,a3,a4⟩)
structure PartO(O:Nat->Nat)(w:G6)(a:Nat)(cs:List ix)(p:PaW):Prop where
 ex:∃uv bv kv nv tv,cs=[nI (p.1:Int),uv,bv,kv,nv,tv]/\Iy encI 3 1 O w a uv (dnN 0 p.2.1)/\Iy encI 3 1 O w (a+1) bv (dnN 0 p.2.2.1)/\Iy encI 3 1 O w (a+2) kv (dnN 1 p.2.2.2.1)/\
  Iy encI 3 1 O w (a+3) nv (dnN 0 p.2.2.2.2.1)/\Iy ff 24 1 O w (a+4) tv p.2.2.2.2.2
theorem PartO.upd{S:Nat->Prop}{O O':Nat->Nat}{w w':G6}{a:Nat}{cs:List ix}{p:PaW}(h:PartO O w a cs p)(u:GE S O w O' w')(ha:0<a)(hS:∀j,a<=j->j<=a+4->¬S j):PartO O' w' a cs p:=by
 obtain⟨uv,bv,kv,nv,tv,e,h1,h2,h3,h4,h5⟩:=h.ex;exact⟨uv,bv,kv,nv,tv,e,h1.upd u zo (hS a zo zo),h2.upd u zo (hS (a+1) zo zo),h3.upd u zo (hS (a+2) zo zo),h4.upd u zo (hS (a+3) zo zo),h5.upd u zo (hS (a+4) zo zo)⟩
theorem PartO.partV{O:Nat->Nat}{w:G6}{a:Nat}{cs:List ix}{p:PaW}(h:PartO O w a cs p):Ip w cs (AS p) p.2.2.2.2.2:=by
 obtain⟨uv,bv,kv,nv,tv,e,h1,h2,h3,h4,h5⟩:=h.ex;exact⟨uv,bv,kv,nv,tv,e,h1.sl,h2.sl,h3.sl,h4.sl,h5.sl⟩
theorem qM(B:Nat)(O:Nat->Nat)(w:G6)(rb a:Nat)(l:List UInt8)(b:Bool)(ha:1<a)(hR:Io B O w)(h:RdO O w rb l b):
  IS GM 25 [nP rb] w fun u w'=>∃cs p l' b' O',u=.agg cs.toArray/\PartO O' w' a cs p/\RdS D9 l b p l' b'/\RdO O' w' rb l' b'/\GE (fun j=>j=1\/a<=j/\j<=a+6) O w O' w'/\Io B O' w':=by
 have hz:¬(0=1\/a<=0/\0<=a+6):=by omega
 refine G8 func25 ntmps25 rfl rfl ?_;refine zg ?_
 refine ar hR (a+6) zo (K8 _) rfl ?_;intro cb w1 O1 e4 g0 j0 j9;have h1:=h.upd g0 zo;have e6:=g0.mono (S':=fun j=>j=1\/a<=j/\j<=a+6) (fun _ h=>by omega) hz;refine zg ?_
 refine zc Kq (eI B O1 w1 rb l b j0 h1) ?_;rintro _ w2 ⟨wd,l2,b2,rfl,j5,i3,h2,f',i'⟩;refine zg ?_
 refine zc Kp (gu B O1 w2 rb a l2 b2 0 zd ha i' h2) ?_;rintro uv w3 ⟨us,l3,b3,O3,g5,i2,h3,f9,i9⟩;refine zg ?_
 refine zc Kp (gu B O3 w3 rb (a+1) l3 b3 0 zd zo i9 h3) ?_;rintro bv w4 ⟨ps,l4,b4,O4,g8,i1,h4,e5,i8⟩;have g4:=g5.upd e5 zo zo;refine zg ?_
 refine zc Kp (gu B O4 w4 rb (a+2) l4 b4 1 zd zo i8 h4) ?_;rintro kv w5 ⟨ks,l5,b5,O5,g6,i0,h5,d4,i7⟩;have g3:=g4.upd d4 zo zo;have g7:=g8.upd d4 zo zo;refine zg ?_
 refine zc Kp (gu B O5 w5 rb (a+3) l5 b5 0 zd zo i7 h5) ?_;rintro nv w6 ⟨ns,l6,b6,O6,f4,h',h6,c',i6⟩;have e':=g3.upd c' zo zo;have f6:=g7.upd c' zo zo;have f5:=g6.upd c' zo zo;have d1:GE (fun j=>j=1\/a<=j/\j<=a+6) O w O6 w6:=((((e6.trans (f'.mono (fun _ h=>by omega) hz)).trans (f9.mono (fun _ h=>by omega) hz)).trans (e5.mono (fun _ h=>by omega) hz)).trans (d4.mono (fun _ h=>by omega) hz)).trans (c'.mono (fun _ h=>by omega) hz);have e3:=((((e4.upd f' zo zo).upd f9 zo zo).upd e5 zo zo).upd d4 zo zo).upd c' zo zo;have o1:=e'.one;have o2:=f6.one;have o3:=f5.one;have o4:=f4.one;refine zv (aD Dg (zeroValue27 _) rfl (by first|rfl|(simp only[GP,o1,o2,o3,o4,J8];rfl)) rfl rfl) ?_
 refine zv (GV (cells:=#[nI (wd:Int),uv,bv,kv,nv,nS]) FW (K8 _) rfl zk) ?_;refine ar i6 (a+5) zo (K8 _) rfl ?_
 intro pb w7 O7 a8 g' i5 j8;refine zsb (us:=#[nI (wd:Int),uv,bv,kv,nv,nS]) a8 (GY _) (by simp only[GP,o1,o2,o3,o4,J8];rfl) ?_;have d8:=a8.setRow (us:=#[nI (wd:Int),uv,bv,kv,nv,nS]);have f8:GE (fun j=>j=a+5) O7 w7 O7 (w7.setRow pb #[nI (wd:Int),uv,bv,kv,nv,nS]):=Gw zo a8.tag rfl;generalize w7.setRow pb #[nI (wd:Int),uv,bv,kv,nv,nS]=w8 at *;have a':=g'.trans f8;have i4:=i5.upd f8;have h8:=h6.upd a' zo;have h0:=d1.trans (a'.mono (fun _ h=>by omega) hz);refine zg ?_;refine zc Kq (eI B O7 w8 rb l6 b6 i4 h8) ?_;rintro _ w9 ⟨m,l9,b9,rfl,hm,h7,h9,f7,g1⟩;have c5:=d8.upd f7 zo zo;have c9:=(a'.mono (S':=fun j=>j=1\/j=a+4\/j=a+5) (fun _ h=>by omega) zo).trans (f7.mono (fun _ h=>by omega) zo);obtain⟨O9,j1⟩:∃O9,O9=O7:=⟨_,rfl⟩
 rw[<-j1]at h9 c5 c9 g1;refine zg ?_;refine zlp (fun z:Nat×List Nat×List UInt8×Bool×(Nat->Nat)×World×ix=>[(0,nP rb),(2,nP cb),(3,nP pb),(4,nI ((z.1:Nat):Int))]) (fun z=>z.2.2.2.2.2.1) (fun z=>z.1+z.2.1.length<=m/\LstI (gz 0) m l9 b9 z.1 z.2.1 z.2.2.1 z.2.2.2.1/\Jg z.2.2.2.2.1 z.2.2.2.2.2.1 (a+5) pb #[nI (wd:Int),uv,bv,kv,nv,z.2.2.2.2.2.2] 30/\Iy ff 24 1 z.2.2.2.2.1 z.2.2.2.2.2.1 (a+4) z.2.2.2.2.2.2 z.2.1/\RdO z.2.2.2.2.1 z.2.2.2.2.2.1 rb z.2.2.1 z.2.2.2.1/\GE (fun j=>j=1\/j=a+4\/j=a+5) O6 w6 z.2.2.2.2.1 z.2.2.2.2.2.1/\Io B z.2.2.2.2.1 z.2.2.2.2.2.1) (fun z=>z.1) (m,[],l9,b9,O9,w9,nS) (⟨GK _,oU _ _ _ _,c5,J6 _ _ _ _ _ _,h9,c9,g1⟩) ?_;rintro⟨k,xs,lk,bk,Ok,wk,tv⟩ ⟨hk,hL,a2,b1,c7,a3,d5⟩;dsimp only at hk hL a2 b1 c7 a3 d5 ⊢;have mk:=c7.bad;refine zg ?_;refine bx (fun w1=>_=w1) (!bk) 6 (rfl) rfl rfl rfl rfl rfl ?_ ?_
 ·intro a1;refine zg ?_;refine zvG (RV.ld mk rfl) ?_;refine dI (tA:=21) 7 (rfl) rfl rfl rfl (fun v hv=>(IX hv).symm.trans (congrArg JJ a1)) rfl
 rintro _ rfl;refine zg ?_;refine zC ?_ ?_
 ·intro hc;rw[Gz,decide_eq_true_eq,GW]at hc;obtain⟨j7,rfl⟩:=hc;obtain⟨k,rfl⟩:∃k',k=k'+1:=⟨k-1,by omega⟩
  have j6:(2^20:Nat)=1048576:=by decide
  refine zg ?_;refine aK (fun _=>True) 8 rfl zk ?_
  refine zin trivial fun zS=>?_
  refine zrf 0 rfl zS rfl ?_;refine zrm 2 rfl zS rfl ?_
  obtain⟨O8,j2⟩:∃O8,O8=Ok:=⟨_,rfl⟩
  rw[<-j2]at a2 b1 c7 a3 d5;refine sq (fun x:ix×Nat×List UInt8×Bool×G6=>[(0,nP rb),(2,nP cb),(3,nP pb),(4,nI ((k+1:Nat):Int)),(32,tv),(35,x.1)]) (fun x=>x.2.2.2.2) (fun x=>x.2.1<2^64/\RdS (gz 0) lk false x.2.1 x.2.2.1 x.2.2.2.1/\Sl ff 1 x.2.2.2.2 x.1 [x.2.1]/\RdO O8 x.2.2.2.2 rb x.2.2.1 x.2.2.2.1/\Jg O8 x.2.2.2.2 (a+5) pb #[nI (wd:Int),uv,bv,kv,nv,tv] 30/\Iy ff 24 1 O8 x.2.2.2.2 (a+4) tv xs/\GE (fun j=>j=1) O8 wk O8 x.2.2.2.2/\Io B O8 x.2.2.2.2) #[true,true,true,true,true,false,false,false] 3 ?_ ?_
  ·intro hN;have hR:=d5.drew;have hU:GE (fun j=>j=1) O8 wk O8 wk.drew:=aa zd O8 (Gt wk).drew;have g9:GE (fun _=>False) O8 wk O8 wk.drew:=aa (fun h=>h) O8 (Gt wk).drew;have fB:=a2.drew;have fT:=b1.drew;have fD:=c7.upd g9 (fun h=>h);have fK:∀(O:Nat->Nat) (W:G6),GE (fun j=>j=1) O8 wk.drew O W->True:=fun _ _ _=>trivial
   refine bL 1 3 zk rfl rfl ?_ ?_ 
   ·refine zvG (RV.ld (fB.cell 5 rfl) rfl) ?_;refine af trivial ?_
    refine Gs 3 zk rfl ?_;refine zc JU (gZ B O8 _ rb _ _ hR fD) ?_
    rintro _ wc ⟨n,l9,b9,rfl,fn,fS,fD,hX,hR⟩;have fB:=GJ fB hX zo zo;have fT:=Gq fT hX zo zo;have fK:=fun O W u=>fK O W (hX.trans u)
    have hU:=hU.trans hX;refine zg ?_;refine af trivial ?_;refine Gs 4 zk rfl ?_;refine bH iE (enc:=ff) n rfl rfl rfl zd rfl ?_;intro sv wd fV a7;have hX:=aa (S:=fun j=>j=1) zd O8 a7;have fB:=GJ fB hX zo zo;have fT:=Gq fT hX zo zo;have fD:=RdO.upd fD (aa (S:=fun _=>False) (fun h=>h) O8 a7) (fun h=>h);have hR:=JB hR hX;have hU:=hU.trans hX;refine zg ?_;refine af trivial ?_;exact IJ (hN (sv,n,l9,b9,_) ⟨fn,fS,fV,fD,fB,fT,hU,hR⟩) zk ⟨rfl,rfl,rfl,rfl,rfl,rfl,trivial⟩ rfl
   refine zc JU (gZ B O8 _ rb _ _ hR fD) ?_;rintro _ wc ⟨n,l9,b9,rfl,fn,fS,fD,hX,hR⟩;have fB:=GJ fB hX zo zo;have fT:=Gq fT hX zo zo;have fK:=fun O W u=>fK O W (hX.trans u)
   have hU:=hU.trans hX;refine zg ?_;refine af trivial ?_;refine bL 1 4 zk rfl rfl ?_ ?_ 
   ·refine zvG (RV.ld (fB.cell 5 rfl) rfl) ?_;refine af trivial ?_
    refine Gs 4 zk rfl ?_;refine bH iE (enc:=ff) n rfl rfl rfl zd rfl ?_
    intro sv wd fV a7;have hX:=aa (S:=fun j=>j=1) zd O8 a7;have fB:=GJ fB hX zo zo;have fT:=Gq fT hX zo zo;have fD:=RdO.upd fD (aa (S:=fun _=>False) (fun h=>h) O8 a7) (fun h=>h);have hR:=JB hR hX;have hU:=hU.trans hX;refine zg ?_;refine af trivial ?_;exact IJ (hN (sv,n,l9,b9,_) ⟨fn,fS,fV,fD,fB,fT,hU,hR⟩) zk ⟨rfl,rfl,rfl,rfl,rfl,rfl,trivial⟩ rfl
   refine bH iE (enc:=ff) n rfl rfl rfl zd rfl ?_;intro sv wd fV a7;have hX:=aa (S:=fun j=>j=1) zd O8 a7;have fB:=GJ fB hX zo zo;have fT:=Gq fT hX zo zo;have fD:=RdO.upd fD (aa (S:=fun _=>False) (fun h=>h) O8 a7) (fun h=>h);have hR:=JB hR hX;have hU:=hU.trans hX;refine zg ?_
   refine af trivial ?_;refine Gs 1 zk rfl ?_
   refine zvG (RV.ld (fB.cell 5 rfl) rfl) ?_;refine af trivial ?_
   exact IJ (hN (sv,n,l9,b9,_) ⟨fn,fS,fV,fD,fB,fT,hU,hR⟩) zk ⟨rfl,rfl,rfl,rfl,rfl,rfl,trivial⟩ rfl
  rintro⟨sv,n,g2,j3,j4⟩ ⟨d',d2,f3,c8,a5,b8,d0,d3⟩;dsimp only at d' d2 f3 c8 a5 b8 d0 d3 ⊢;refine Gs 5 zk rfl ?_;refine cx iE b8 d3 f3 rfl rfl (fun _ _=>rfl) (fun u _ c hc=>by rw[G7.1 hc];rfl) (by rw[G0];omega) (by rw[G0];omega) zo rfl ?_;intro d6 e9 O11 b7 b0 e8;have a0:=a5.upd b0 zo zo;have e1:=c8.upd b0 zo;refine zg ?_;refine af (trivial) ?_;refine zrf 6 rfl (trivial) rfl ?_;refine Gs 7 zk rfl ?_;refine aj (j:=5) a0 rfl (KS _) b7.one rfl rfl rfl ?_;have c6:=a0.set 5 d6;have a4:GE (fun j=>j=a+5) O11 e9 O11 (e9.setCell ⟨pb,5,none⟩ d6):=GL zo a0.tag rfl;have d7:=b7.upd a4 zo zo;have e0:=e1.upd a4 zo;have e7:=e8.upd a4;refine zg ?_;refine af (trivial) ?_;refine Ia zk ?_;refine zg ?_;refine zvG (fc (v':=nI ((k:Nat):Int)) (KX rfl rfl (I8 zo)) (by congr 1;omega)) ?_;refine zxd (k,xs++[n],g2,j3,O11,_,d6) (⟨by dsimp only;rw[ln,G0];omega,hL.step d2,c6,d7,e0,((a3.trans (d0.mono (fun _ h=>by omega) zo)).trans (b0.mono (fun _ h=>by omega) zo)).trans (a4.mono (fun _ h=>by omega) zo),e7⟩)
 intro hc;have hd:k=0\/bk=true:=by
  rw[JG,decide_eq_false_iff_not,IZ]at hc
  rcases hc with hc|hc
  ·exact .inl zo
  exact .inr hc
 have a9:=e3.upd a3 zo zo;have ok:=b1.one;have d9:[nI (wd:Int),uv,bv,kv,nv,tv].all GC=true:=by simp only[GP,o1,o2,o3,o4,ok,J8];rfl
 refine zg ?_;refine zv (ah (us:=[nI (wd:Int),uv,bv,kv,nv,tv]) a2.cellsAdd (IC _) (GY _) rfl) ?_
 refine zsb (us:=#[nI (wd:Int),uv,bv,kv,nv,tv]) a9 (GY _) d9 ?_;have e2:=a9.setRow (us:=#[nI (wd:Int),uv,bv,kv,nv,tv]);have a6:GE (fun j=>j=a+6) Ok wk Ok (wk.setRow cb #[nI (wd:Int),uv,bv,kv,nv,tv]):=Gw zo a9.tag rfl;generalize wk.setRow cb #[nI (wd:Int),uv,bv,kv,nv,tv]=wl at *;refine zg ?_
 refine aI rfl rfl (e2.cellsAdd) (IC _) (GY _) (⟨_,(wd,us,ps,ks,ns,xs),lk,bk,Ok,rfl,⟨uv,bv,kv,nv,tv,rfl,(e'.upd a3 zo zo).upd a6 zo zo,(f6.upd a3 zo zo).upd a6 zo zo,(f5.upd a3 zo zo).upd a6 zo zo,(f4.upd a3 zo zo).upd a6 zo zo,b1.upd a6 zo zo⟩,i3.seq (i2.seq (i1.seq (i0.seq (h'.seq (h7.telR (hL.done hd)))))),c7.upd a6 zo,(d1.trans (a3.mono (fun _ h=>by omega) hz)).trans (a6.mono (fun _ h=>by omega) hz),d5.upd a6⟩)
theorem BS{xs:List Int}(h1:xs.length<=65599)(h2:∀n∈xs,0<=n/\n<=65535):okI 0 xs:=⟨h1,fun n hn=>by have:=h2 n hn;omega⟩
theorem FY{xs:List Int}(h1:xs.length<=65599)(h2:∀n∈xs,-1<=n/\n<=1000):okI 1 xs:=⟨h1,fun n hn=>by have:=h2 n hn;omega⟩
theorem kd{O:Nat->Nat}{w:G6}{i j:Nat}{lv:ix}{vs:List ix}{a0:List (List Int)}(h:Iy (fun x:ix=>[x]) 25 1 O w j lv vs)(a1:j≠i)(hj:j≠0)(hl:vs.length=a0.length)(hr:∀q∈vs.zip a0,KL w q.1 q.2/\Jf O w q.1):
  ∀O' W,GE (fun j=>j=i) O w O' W->ListsV W lv vs a0:=fun O' W u=>⟨(h.upd u hj (fun e=>a1 e)).sl,hl,fun k hk=>by
 have hm:(nth vs k,nth a0 k)∈vs.zip a0:=by
  rw[aB hk,aB (hl▸hk:k<vs.length),<-List.getElem_zip (h:=by simp;omega)];exact K4 _
 exact(hr _ hm).1.upd (hr _ hm).2 u⟩
theorem qy(B:Nat)(O:Nat → Nat)(w:G6)(v:ix)(l:List UInt8)(cs:List ix)(p:Ke)(tl:List Nat)(hR:Io B O w)(h:BufT ng 5 O w 1 v l)(hp:Ip w cs p tl)(hf:FreeL O w cs)(hB:PrtB p tl)(ht:∀x ∈ tl, x < 2^64)(hl:l.length ≤ 100000000):
  IS GM 28 [v, .agg cs.toArray] w fun v' w' => ∃O', BufT ng 5 O' w' 1 v' (l ++ yA (sY p tl)) ∧ GE (fun q => 1 ≤ q ∧ q ≤ 5) O w O' w' ∧ Io B O' w' := by
 have hz:¬(1 ≤ 0 ∧ 0 ≤ 5) := by omega
 obtain⟨uv, bv, kv, nv, tv, rfl, hu, hb, hk, hn, htl⟩ := hp
 have fu:Jf O w uv := hf _ (by simp)
 have fb:Jf O w bv := hf _ (by simp)
 have fk:Jf O w kv := hf _ (by simp)
 have fn:Jf O w nv := hf _ (by simp)
 have ft:Jf O w tv := hf _ (by simp)
 have o1 := hu.one
 have o2 := hb.one
 have o3 := hk.one
 have o4 := hn.one
 obtain⟨_, _, e1, _⟩ := hu.shape
 obtain⟨_, _, e2, _⟩ := hb.shape
 obtain⟨_, _, e3, _⟩ := hk.shape
 obtain⟨_, _, e4, _⟩ := hn.shape
 have hokU:okI 0 p.usual := BS (by have := hB.u.1; omega) hB.u.2
 have hokB:okI 0 p.base := BS (by have := hB.b.1; omega) hB.b.2
 have hokC:okI 1 p.check := FY hB.c.1 hB.c.2
 have hokN:okI 0 p.next := BS hB.n.1 hB.n.2
 have htll := hB.t
 obtain⟨W, hW⟩:∃W:Int → List Int → List UInt8, W = fun b xs => pK (upN b xs) := ⟨_, rfl⟩
 have hWl:∀b xs, okI b xs → (W b xs).length ≤ 656000 := fun b xs h => by rw[hW]; exact gE h
 have hfin:yA (sY p tl) = dD p.width.toNat ++ (W 0 p.usual ++ (W 0 p.base ++ (W 1 p.check ++ (W 0 p.next ++ (dD tl.length ++ tl.flatMap dD))))) := by rw[hW]; rfl
 rw[hfin]
 have hw0 := hB.w
 have n1 := cA (n := p.width.toNat) (by omega)
 have n2 := hWl _ _ hokU
 have n3 := hWl _ _ hokB
 have n4 := hWl _ _ hokC
 have n5 := hWl _ _ hokN
 have n6 := cA (n := tl.length) (by omega)
 refine G8 func28 ntmps28 rfl rfl ?_
 refine G9 ?_
 refine G2 ?_
 refine aG hR 2 (by omega) rfl rfl ?_
 intro db w1 O1 hdb1 hU1 hR1 hE1
 have h1 := h.upd hU1 (by decide) (by decide)
 have hU01 := hU1.mono (S' := fun q => 1 ≤ q ∧ q ≤ 5) (fun _ h => by omega) hz
 have c0:w1.cell? ((nA db 0).add 0) = some (nI p.width) := hdb1.cell 0 rfl
 refine lq (Gp rfl) rfl ?_
 refine G4 ?_
 refine ax ?_
 refine G9 ?_
 refine G2 ?_
 refine lq (G1 rfl) rfl ?_
 refine lq (GI 0 Ic rfl rfl (IN _) (by decide) rfl) rfl ?_
 refine lq (GI 0 IR rfl rfl (sizeOf3 _) (by decide) rfl) rfl ?_
 refine lq (Iu (by first | exact c0) (isAgg3 _) rfl) rfl ?_
 refine lq (dJ IA GD rfl (II (by omega))) rfl ?_
 refine IU JT rfl (gW B O1 w1 1 v l _ p.width.toNat (by omega) hR1 h1 (by decide) (by omega) (by omega)) rfl ?_
 rintro v2 w2 ⟨O2, h2, hU2, hR2⟩
 have hdb2 := hdb1.upd hU2 (by decide) (by decide)
 have hU02 := hU01.trans (hU2.mono (fun _ h => by omega) hz)
 have d1:w2.cell? ((nA db 0).add 1) = some uv := hdb2.cell 1 rfl
 have d2:w2.cell? ((nA db 0).add 2) = some bv := hdb2.cell 2 rfl
 refine lq (Gp rfl) rfl ?_
 refine G4 ?_
 refine ax ?_
 refine G9 ?_
 refine G2 ?_
 refine lq (G1 rfl) rfl ?_
 refine lq (GI 0 Ic rfl rfl (IN _) (by decide) rfl) rfl ?_
 refine lq (GI 1 IR rfl rfl (I4 _) (by decide) rfl) rfl ?_
 refine lq (Iu (by first | exact d1) (JS _) rfl) rfl ?_
 refine lq (GI 0 Ic rfl rfl (IN _) (by decide) rfl) rfl ?_
 refine lq (GI 2 IR rfl rfl (I4 _) (by decide) rfl) rfl ?_
 refine lq (Iu (by first | exact d2) (JS _) rfl) rfl ?_
 refine fQ xI (Js w2) (fun x:ix => [x]) [uv, bv] hR2 3 (by decide) rfl rfl rfl rfl (by rw[e1, e2]; kernel_rfl) (by simp) rfl ?_
 intro lv3 w3 O3 hlv3 hU3 hR3
 have h3 := h2.upd hU3 (by decide) (by decide)
 have hU03 := hU02.trans (hU3.mono (fun _ h => by omega) hz)
 refine IU KT rfl (jF B O3 w3 1 v2 lv3 _ 0 [uv, bv] [p.usual, p.base] (by decide) hR3 h3 (by decide) (by simp only[ln]; omega) (by simp) (by simp[hokU, hokB]) (kd hlv3 (by decide) (by decide) rfl fun q hq => by simp only[List.zip_cons_cons, List.zip_nil_left, Gv, Gu, or_false]at hq; rcases hq with rfl | rfl; exact⟨hu.upd fu hU03, fu.upd hU03⟩; exact⟨hb.upd fb hU03, fb.upd hU03⟩)) rfl ?_
 rintro v4 w4 ⟨O4, h4, hU4, hR4⟩
 have hdb4 := (hdb2.upd hU3 (by decide) (by decide)).upd hU4 (by decide) (by decide)
 have hU04 := hU03.trans (hU4.mono (fun _ h => by omega) hz)
 have h4':BufT ng 5 O4 w4 1 v4 (l ++ dD p.width.toNat ++ W 0 p.usual ++ W 0 p.base) := by rw[hW]; simpa[G5]using h4
 have d3:w4.cell? ((nA db 0).add 3) = some kv := hdb4.cell 3 rfl
 refine lq (Gp rfl) rfl ?_
 refine G4 ?_
 refine ax ?_
 refine G9 ?_
 refine G2 ?_
 refine lq (G1 rfl) rfl ?_
 refine lq (GI 0 Ic rfl rfl (IN _) (by decide) rfl) rfl ?_
 refine lq (GI 3 IR rfl rfl (I4 _) (by decide) rfl) rfl ?_
 refine lq (Iu (by first | exact d3) (JS _) rfl) rfl ?_
 refine fQ xI (Js w4) (fun x:ix => [x]) [kv] hR4 4 (by decide) rfl rfl rfl rfl (by rw[e3]; kernel_rfl) (by simp) rfl ?_
 intro lv5 w5 O5 hlv5 hU5 hR5
 have h5 := h4'.upd hU5 (by decide) (by decide)
 have hU05 := hU04.trans (hU5.mono (fun _ h => by omega) hz)
 refine IU KT rfl (jF B O5 w5 1 v4 lv5 _ 1 [kv] [p.check] (by decide) hR5 h5 (by decide) (by simp only[ln]; omega) (by simp) (by simp[hokC]) (kd hlv5 (by decide) (by decide) rfl fun q hq => by obtain rfl:q = _ := G7.1 hq; exact⟨hk.upd fk hU05, fk.upd hU05⟩)) rfl ?_
 rintro v6 w6 ⟨O6, h6, hU6, hR6⟩
 have hdb6 := (hdb4.upd hU5 (by decide) (by decide)).upd hU6 (by decide) (by decide)
 have hU06 := hU05.trans (hU6.mono (fun _ h => by omega) hz)
 have h6':BufT ng 5 O6 w6 1 v6 (l ++ dD p.width.toNat ++ W 0 p.usual ++ W 0 p.base ++ W 1 p.check) := by rw[hW]; simpa[hW]using h6
 have d4:w6.cell? ((nA db 0).add 4) = some nv := hdb6.cell 4 rfl
 refine lq (Gp rfl) rfl ?_
 refine G4 ?_
 refine ax ?_
 refine G9 ?_
 refine G2 ?_
 refine lq (G1 rfl) rfl ?_
 refine lq (GI 0 Ic rfl rfl (IN _) (by decide) rfl) rfl ?_
 refine lq (GI 4 IR rfl rfl (I4 _) (by decide) rfl) rfl ?_
 refine lq (Iu (by first | exact d4) (JS _) rfl) rfl ?_
 refine fQ xI (Js w6) (fun x:ix => [x]) [nv] hR6 5 (by decide) rfl rfl rfl rfl (by rw[e4]; kernel_rfl) (by simp) rfl ?_
 intro lv7 w7 O7 hlv7 hU7 hR7
 have h7 := h6'.upd hU7 (by decide) (by decide)
 have hU07 := hU06.trans (hU7.mono (fun _ h => by omega) hz)
 refine IU KT rfl (jF B O7 w7 1 v6 lv7 _ 0 [nv] [p.next] (by decide) hR7 h7 (by decide) (by simp only[ln]; omega) (by simp) (by simp[hokN]) (kd hlv7 (by decide) (by decide) rfl fun q hq => by obtain rfl:q = _ := G7.1 hq; exact⟨hn.upd fn hU07, fn.upd hU07⟩)) rfl ?_
 rintro v8 w8 ⟨O8, h8, hU8, hR8⟩
 have hdb8 := (hdb6.upd hU7 (by decide) (by decide)).upd hU8 (by decide) (by decide)
 have hU08 := hU07.trans (hU8.mono (fun _ h => by omega) hz)
 obtain⟨L, hL⟩:∃L, L = l ++ dD p.width.toNat ++ W 0 p.usual ++ W 0 p.base ++ W 1 p.check ++ W 0 p.next := ⟨_, rfl⟩
 have hLl:L.length ≤ 110000000 := by rw[hL]; simp only[ln]; omega
 have h8':BufT ng 5 O8 w8 1 v8 L := by rw[hL, hW]; simpa[hW]using h8
 have ht8 := htl.upd ft hU08
 have d5:w8.cell? (nA db 5) = some tv := hdb8.cell 5 rfl
 refine lq (Gp rfl) rfl ?_
 refine G4 ?_
 refine ax ?_
 refine G9 ?_
 refine G2 ?_
 refine lq (G1 rfl) rfl ?_
 refine lq (GI 5 Ic rfl rfl (KS _) (by decide) rfl) rfl ?_
 refine lq (Iu (by first | exact d5) (isAgg28 _) rfl) rfl ?_
 refine lq (Ju (by first | exact ht8) JQ rfl) rfl ?_
 refine lq (dJ IA GD rfl (II (by omega))) rfl ?_
 refine IU JT rfl (gW B O8 w8 1 v8 L _ tl.length rfl hR8 h8' (by decide) (by omega) (by omega)) rfl ?_
 rintro v9 w9 ⟨O9, h9, hU9, hR9⟩
 have hdb9 := hdb8.upd hU9 (by decide) (by decide)
 have hU09 := hU08.trans (hU9.mono (fun _ h => by omega) hz)
 have ht9 := htl.upd ft hU09
 have e5:w9.cell? (nA db 5) = some tv := hdb9.cell 5 rfl
 refine lq (Gp rfl) rfl ?_
 refine G4 ?_
 refine ax ?_
 refine G9 ?_
 refine G9 ?_
 refine G2 ?_
 refine lq (GI 5 Ic rfl rfl (KS _) (by decide) rfl) rfl ?_
 refine lq (Iu (by first | exact e5) (isAgg28 _) rfl) rfl ?_
 refine lq (Ju (by first | exact ht9) JQ rfl) rfl ?_
 refine lq (G1 rfl) rfl ?_
 refine G4 ?_
 refine ax ?_
 refine ID ?_
 refine KN (fun z:Nat×(Nat → Nat)×World×ix => [(0, z.2.2.2), (41, tv), (42, nI tl.length), (43, nI z.1)]) (fun z:Nat×(Nat → Nat)×World×ix => z.2.2.1) (fun z:Nat×(Nat → Nat)×World×ix => z.1 ≤ tl.length ∧ BufT ng 5 z.2.1 z.2.2.1 1 z.2.2.2 (L ++ dD tl.length ++ (tl.take z.1).flatMap dD) ∧ GE (fun q => 1 ≤ q ∧ q ≤ 5) O w z.2.1 z.2.2.1 ∧ Io B z.2.1 z.2.2.1) (fun z:Nat×(Nat → Nat)×World×ix => tl.length - z.1) (0, O9, w9, v9) (⟨GA _, by simpa using h9, hU09, hR9⟩) ⟨rfl, rfl, rfl, rfl, trivial⟩ rfl ?_
 rintro⟨k, Ok, wk, vk⟩ ⟨hkk, hrk, hUk, hRk⟩
 dsimp only at hkk hrk hUk hRk ⊢
 have htk := htl.upd ft hUk
 have hflk:((tl.take k).flatMap dD).length ≤ 10000 := by
  have := mj (xs := tl.take k) fun x hx => ht x (Ig hx)
  rw[GS]at this; omega
 refine G9 ?_
 refine G2 ?_
 refine lq (KZ rfl rfl) rfl ?_
 refine G4 ?_
 refine ax ?_
 refine G9 ?_
 refine KO rfl ?_ ?_
 ·intro hlt
  replace hlt:k < tl.length := by have := of_decide_eq_true hlt; omega
  have mk:wk.cell? (adr tv 1 k) = some (.int .u64 ((nth tl k:Nat):Int)) := htk.ld hlt
  refine IK ?_
  refine ax ?_
  refine G9 ?_
  refine ID ?_
  refine G9 ?_
  refine G2 ?_
  refine lq (Ja (by first | exact htk) JQ (K9 _) rfl rfl _ rfl (by omega)) rfl ?_
  refine lq (Iu (by first | exact mk) (isAgg24 _) rfl) rfl ?_
  refine lq (Gp rfl) rfl ?_
  refine G4 ?_
  refine ax ?_
  refine G2 ?_
  refine lq (G1 rfl) rfl ?_
  refine lq (G1 rfl) rfl ?_
  refine IU JT rfl (gW B Ok wk 1 vk _ _ (nth tl k) rfl hRk hrk (by decide) (ht _ (aN hlt)) (by simp only[ln]; omega)) rfl ?_
  rintro v10 w10 ⟨O10, h10, hU10, hR10⟩
  refine lq (Gp rfl) rfl ?_
  refine G4 ?_
  refine bJ ?_
  refine ax ?_
  refine G2 ?_
  refine lq (Ji rfl rfl (I8 (by omega))) rfl ?_
  refine lq (G1 rfl) rfl ?_
  refine G4 ?_
  refine KP ((k + 1, O10, w10, v10)) (⟨hlt, by dsimp only; rw[aF hlt, Il, I5, ← G5]; exact h10, hUk.trans (hU10.mono (fun _ h => by omega) hz), hR10⟩) (by dsimp only; omega) ⟨rfl, rfl, rfl, rfl, trivial⟩ rfl
 ·intro hge
  obtain rfl:k = tl.length := by have := of_decide_eq_false hge; omega
  rw[GG, hL]at hrk
  refine Kc ?_
  refine bI ?_
  refine bI ?_
  refine dv ?_
  refine ax ?_
  refine G9 ?_
  refine G2 ?_
  refine lq (G1 rfl) rfl ?_
  refine lq (Gp rfl) rfl ?_
  refine G4 ?_
  refine ax ?_
  refine Jh ?_
  refine ae rfl rfl (⟨Ok, by simpa[G5]using hrk, hUk, hRk⟩)
theorem nY{t:TabM}(h:bh t=true):t.ig<2^64/\t.kp<2^64/\t.br<2^64:=by
 have hB:=gw h;have h1:=hB.ig;have h2:=hB.kp;have h3:=hB.br;omega
theorem pk{p:Ke}{tl:List Nat}(hB:PrtB p tl)(ht:∀x∈tl,x<2^64):(yA (sY p tl)).length<=10000000:=by
 have a1:=hB.w;have a0:=hB.t;have n1:=cA (n:=p.width.toNat) zo;have n2:=gE (BS (by have:=hB.u.1;omega) hB.u.2);have n3:=gE (BS (by have:=hB.b.1;omega) hB.b.2);have n4:=gE (FY hB.c.1 hB.c.2);have n5:=gE (BS hB.n.1 hB.n.2);have n6:=cA (n:=tl.length) zo;have n7:=mj ht;simp only[yA,sY,ln];rw[show pK tl=dD tl.length++tl.flatMap dD from rfl,ln];omega
theorem oI(t:TabM)(v:ix)(w:G6)(h:TabV w v t):IS GM 8 [v] w fun u w'=>
  Jb w w'/\((bh t=false/\u=.tuple #[nS,nI 1])\/(bh t=true/\∃bv,u=.tuple #[bv,nI 0]/\Sl mG 1 w' bv (sD t)/\NewV w.heap.size bv)):=by
 have g4:=h;obtain⟨gv,lc,rc,rfl,a6,a5,a3⟩:=h;obtain⟨ll,lo⟩:=a5.one;obtain⟨rl,ro⟩:=a3.one;have b5:(bD t.ig t.kp t.br t.rules gv lc rc).length=17:=by simp[ll,rl]
 refine G8 func8 ntmps8 rfl rfl ?_;refine zh ?_
 refine aG (aw w) 7 zo rfl rfl ?_;intro db w1 O1 a8 e7 f8 b1;refine zh ?_
 refine zv (ah (us:=bD t.ig t.kp t.br t.rules gv lc rc) a8.cellsAdd (Im _) (by rw[b5];exact GB _) rfl) ?_;refine zc call9 (dz t _ w1 ⟨gv,lc,rc,rfl,a6.ext b1,a5.ext b1,a3.ext b1⟩) ?_
 rintro _ w2 ⟨rfl,d6⟩;have b':=aa (S:=fun _=>False) (fun h=>h) O1 d6;refine zh ?_
 cases b3:bh t with
 |false=>
  refine zTH rfl rfl ?_;refine bC rfl rfl rfl (⟨b1.trans d6,.inl ⟨rfl,rfl⟩⟩)
 |true=>
  have hz:¬(1<=0/\0<=7):=zo;have hB:=gw b3;obtain⟨c',c9⟩:=iU b3;obtain⟨s1,s2,s3⟩:=nY b3;have d':=hB.r;have f7:=f8.upd b';have b7:=a8.upd b' zd (fun h=>h);have c7:GE (fun q=>1<=q/\q<=7) (fun _=>0) w O1 w2:=(e7.mono (fun _ h=>zo) hz).trans (b'.mono (fun _ h=>h.elim) hz);have fg:Jf (fun _=>0) w gv:=a6.free0 (fun x=>by simp);have fl:=a5.free0;have fr:=a3.free0;refine zFH rfl rfl ?_;refine qg elW GQ (zeroValue5 w2) ng hdrW f7 1 zd rfl rfl rfl rfl zk rfl rfl ?_;intro v3 w3 O3 d9 d5 f6;have a1:=b7.upd d5 zd zd;have c6:=c7.trans (d5.mono (fun _ h=>zo) hz);have k0:w3.cell? (nA db 0)=some (.int .u64 (t.ig:Int)):=a1.cell 0 rfl;have k1:w3.cell? (nA db 1)=some (.int .u64 (t.kp:Int)):=a1.cell 1 rfl;have k2:w3.cell? (nA db 2)=some (.int .u64 (t.br:Int)):=a1.cell 2 rfl;have k3:w3.cell? (nA db 3)=some (nI t.rules):=a1.cell 3 rfl;obtain⟨ns,a'⟩:∃ns:List Nat,ns=[t.rules.toNat,t.ig,t.kp,t.br]:=⟨_,rfl⟩
  have g1:ns.length=4:=by rw[a'];rfl
  have d0:∀n∈ns,n<2^64:=by
   rw[a'];intro n hn;simp only[Gv,Gu,or_false]at hn
   rcases hn with rfl|rfl|rfl|rfl<;>omega
  have e2:∀k,k<4->(#[.int .u64 t.rules,.int .u64 (t.ig:Int),.int .u64 (t.kp:Int),.int .u64 (t.br:Int)]:Array ix)[k]? = some (.int .u64 ((nth ns k:Nat):Int)):=fun k hk=>by
   have e:(#[.int .u64 t.rules,.int .u64 (t.ig:Int),.int .u64 (t.kp:Int),.int .u64 (t.br:Int)]:Array ix)=(ns.map fun n:Nat=>JV .u64 (n:Int)).toArray:=by
    rw[a'];simp only[GU,J7];rw[IY d'.1]
   rw[e,List.getElem?_toArray,List.getElem?_map,List.getElem?_eq_getElem zo,aB zo];rfl
  refine zh ?_;refine zvH (dJ IA GD rfl (II zo)) ?_
  refine zvH (du (cells:=#[.int .u64 t.rules,.int .u64 (t.ig:Int),.int .u64 (t.kp:Int),.int .u64 (t.br:Int)]) L4 (K9 _) (zeroValue68 _) rfl zk) ?_;refine zlp (fun z:Nat×(Nat->Nat)×World×ix=>[(1,nP db),(4,z.2.2.2),(21,.agg #[.int .u64 t.rules,.int .u64 (t.ig:Int),.int .u64 (t.kp:Int),.int .u64 (t.br:Int)]),(22,nI z.1)]) (fun z=>z.2.2.1) (fun z=>z.1<=4/\BufT ng 5 z.2.1 z.2.2.1 1 z.2.2.2 (hdrW++(ns.take z.1).flatMap dD)/\GE (fun q=>q=1) O3 w3 z.2.1 z.2.2.1/\Io w.heap.size z.2.1 z.2.2.1) (fun z=>4-z.1) (0,O3,w3,v3) (⟨GA _,by simpa using d9,Ii zd _ _,f6⟩) ?_
  rintro⟨k,Ok,wk,vk⟩ ⟨hk,a9,b0,c8⟩;dsimp only at hk a9 b0 c8 ⊢;have e1:((ns.take k).flatMap dD).length<=40:=by
   have:=mj (xs:=ns.take k) fun x hx=>d0 x (Ig hx)
   rw[GS]at this;omega
  have g2:hdrW.length=4:=rfl;refine zh ?_;refine zC ?_ ?_
  ·intro a4;replace a4:k<4:=dT a4;refine zh ?_;refine zvH (uf L4 (K9 _) (isAgg24 _) rfl rfl k rfl a4 (e2 k a4)) ?_;refine zc JT (gW w.heap.size Ok wk 1 vk _ _ (nth ns k) rfl c8 a9 zd (d0 _ (aN zo)) (by rw[ln];omega)) ?_;rintro v4 w4 ⟨O4,h4,e6,f5⟩;refine zh ?_;refine zxd (k+1,O4,w4,v4) (⟨a4,by dsimp only;rw[aF zo,Il,I5,<-G5];exact h4,b0.trans e6,f5⟩)
  intro e0;obtain rfl:k=4:=dF e0;rw[Gx zo]at a9 e1;have a7:=a1.upd b0 zd zd;have hU0k:=c6.trans (b0.mono (fun _ h=>zo) hz);have k4:wk.cell? (nA db 4)=some gv:=a7.cell 4 rfl;obtain⟨_,_,eg,_⟩:=a6.shape;have d1:okI 0 t.groups:=BS (by have:=hB.g.1;omega) fun n hn=>by have:=hB.g.2 n hn;omega
  have g3:=gE d1;refine zh ?_;refine fQ xI (Js wk) (fun x:ix=>[x]) [gv] c8 3 zd rfl rfl rfl rfl (by rw[eg];kernel_rfl) (by simp) rfl ?_;intro d8 w5 O5 b4 c5 f4;have h5:=a9.upd c5 zd zd;have a2:=hU0k.trans (c5.mono (fun _ h=>zo) hz);refine zc KT (jF w.heap.size O5 w5 1 vk d8 _ 0 [gv] [t.groups] zd f4 h5 zd (by rw[ln];omega) (by simp) (by simp[d1]) (kd b4 zd zd rfl fun q hq=>by obtain rfl:q=_:=G7.1 hq;exact⟨a6.upd fg a2,fg.upd a2⟩)) ?_;rintro v6 w6 ⟨O6,h6,d4,f3⟩;have b6:=(a7.upd c5 zd zd).upd d4 zd zd;have a0:=a2.trans (d4.mono (fun _ h=>zo) hz);obtain⟨L,hL⟩:∃L,L=hdrW++ns.flatMap dD++pK (upN 0 t.groups):=⟨_,rfl⟩
  have g5:L.length<=1000000:=by rw[hL];simp only[ln];omega
  have f9:BufT ng 5 O6 w6 1 v6 L:=by rw[hL];simpa using h6
  have cl:∀O W,GE (fun q=>1<=q/\q<=5) O6 w6 O W->(∀(j:Nat) (u:ix),lc[j]? = some u->W.cell? ((nA db 5).add j)=some u)/\∀(j:Nat) (u:ix),rc[j]? = some u->W.cell? ((nA db 11).add j)=some u:=fun O W u=>by
   have hT:=qj (t:=t) (b6.upd u zd zo) (a6.upd fg (a0.trans (u.mono (fun _ h=>zo) hz))) (a5.updF fl (a0.trans (u.mono (fun _ h=>zo) hz))) (a3.updF fr (a0.trans (u.mono (fun _ h=>zo) hz)));exact⟨hT.cl,hT.cr⟩
  have b9:GE (fun q=>1<=q/\q<=5) O6 w6 O6 w6.drew:=aa zo O6 (Gt w6).drew;refine zh ?_;refine aK (fun W=>(∀(j:Nat) (u:ix),lc[j]? = some u->W.cell? ((nA db 5).add j)=some u)/\∀(j:Nat) (u:ix),rc[j]? = some u->W.cell? ((nA db 11).add j)=some u) 10 rfl zk ?_;refine zin (cl O6 w6.drew b9) fun zS=>?_
  refine zrm 0 rfl zS rfl ?_;refine zrf 1 rfl zS rfl ?_
  refine zt 2 rfl zS (fun w1 b2=>ah (us:=lc) b2.1 (IC _) (by rw[ll];exact GY _) rfl) ?_;refine zrf 4 rfl zS rfl ?_
  refine zt 5 rfl zS (fun w1 b2=>ah (us:=rc) b2.2 (IC _) (by rw[rl];exact GY _) rfl) ?_;have h06d:=a0.trans (b9.mono (fun _ h=>zo) hz);refine Gs 3 zk rfl ?_
  refine zc call28 (qy w.heap.size O6 w6.drew v6 L lc t.left t.lt f3.drew f9.drew (a5.updF fl h06d) (fl.upd h06d) hB.l c' zo) ?_;rintro v7 w7 ⟨O7,h7,e5,e'⟩;have b8:=b9.trans e5;have d7:=a0.trans (b8.mono (fun _ h=>zo) hz);have g0:(yA (sY t.left t.lt)).length<=10000000:=pk hB.l c';have f':(yA (sY t.right t.rt)).length<=10000000:=pk hB.rt c9;refine zh ?_
  refine af (cl O7 w7 b8) ?_;refine Gs 6 zk rfl ?_
  refine zc call28 (qy w.heap.size O7 w7 v7 _ rc t.right t.rt e' h7 (a3.updF fr d7) (fr.upd d7) hB.rt c9 (by rw[ln];omega)) ?_;rintro v8 w8 ⟨O8,h8,e4,e9⟩;have d3:=b8.trans e4;refine zh ?_
  refine af (cl O8 w8 d3) ?_;refine Gs 7 zk rfl ?_
  refine zc call20 (nW w.heap.size O8 w8 1 v8 _ e9 h8 zd (by simp only[ln];omega)) ?_;rintro v9 w9 ⟨O9,h9,e3,e8⟩;have d2:=d3.trans (e3.mono (fun _ h=>zo) zo);refine zh ?_
  refine zaf (cl O9 w9 d2) fun zS=>?_
  refine zra 8 rfl zS rfl ?_;refine zra 9 rfl zS rfl ?_
  refine Ia zk ?_;refine zh ?_
  refine bC rfl rfl rfl (⟨(a0.trans (d2.mono (fun _ h=>zo) hz)).ext,.inr ⟨rfl,v9,rfl,?_,h9.newV zd e8⟩⟩);have e:L++yA (sY t.left t.lt)++yA (sY t.right t.rt)=xn t:=by
   rw[hL,a'];simp[xn,De,yy,G5]
  rw[e]at h9;exact h9.sl
theorem Gg:cD GM 61 #[(0,1),(1,1)]:=⟨_,underlying61,fun w=>by kernel_rfl⟩
theorem Gf:cD GM 63 #[(0,2)]:=⟨_,underlying63,fun w=>by kernel_rfl⟩
theorem xr(B:Nat)(O:Nat->Nat)(w:G6)(i:Nat)(v:ix)(l:List UInt8)(hR:Io B O w)(h:Sl mG 1 w v l)(hf:Jf O w v)(hi:i≠0)(hl:l.length<=1000000000000):
  IS GM 21 [v] w fun u w'=>∃O',BufT ng 5 O' w' i u l/\GE (fun j=>j=i) O w O' w'/\Io B O' w':=by
 have hz:¬(0=i):=fun e=>hi e.symm
 obtain⟨a,c,rfl,_,_,ha⟩:=h.shape;refine G8 func21 ntmps21 rfl rfl ?_;refine zh ?_;refine zvH (fW GR rfl rfl) ?_
 cases a with
 |none=>
  have a4:l=[]:=Ih (GX fun a3=>by obtain⟨b,o,e⟩:=ha a3;cases e);subst a4;refine zTH rfl rfl ?_;refine ae rfl rfl (⟨O,⟨.inl ⟨rfl,rfl⟩,fun g hg=>by simp[IP]at hg⟩,Ii hz _ _,hR⟩)
 |some a=>
  refine zFH rfl rfl ?_;refine gQ elW mG hR i hi rfl ?_
  intro v1 w1 O1 a1 a2 a7;have h2:=h.upd hf a2;refine zh ?_;refine cx elW a1 a7 h2 rfl rfl (fun _ _=>rfl) (fun u _ c hc=>by rw[G7.1 hc];rfl) (by simp;omega) (by simp;omega) hi rfl ?_;intro v2 w2 O2 a0 a5 a6;rw[Ij]at a0;refine zh ?_;refine ae rfl rfl (⟨O2,vp (val:=ng) a0,a2.trans a5,a6⟩)
theorem xp(a b:List UInt8)(av bv:ix)(w:G6)(h1:Sl mG 1 w av a)(h2:Sl mG 1 w bv b):IS GM 19 [av,bv] w fun u w'=>u=.bool (a==b)/\w'=w:=by
 refine G8 func19 ntmps19 rfl rfl ?_;refine zh ?_
 refine zvH (dx h1 GR GQ J0 rfl) ?_;refine zv (dx h2 GR GQ J0 rfl) ?_
 refine zvH (bU rfl rfl) ?_;refine ae rfl rfl (⟨rfl,rfl⟩)
section
variable{l l':List UInt8}{X:TbW}(h1:¬(l.length<12∨l.take 4≠hdrW))(h2:¬(eH (l.take (l.length-8))≠l))
include h1 h2
theorem Bt{b':Bool}(hS:RdS D6 ((l.take (l.length-8)).drop 4) false X l' b'):sE l=if b'=true\/l'≠[]\/bh (xF X)=false then .error 4 else .ok (xF X):=by
 unfold sE;rw[if_neg h1,if_neg h2]
 rcases hS with⟨rfl,h|h⟩|⟨rfl,_,h⟩
 ·cases h
 ·rw[h,if_pos (.inl rfl)]
 rw[h]
 by_cases hc:l'≠[]\/bh (xF X)=false
 ·rw[if_pos (.inr hc)];dsimp only;rw[if_pos hc]
 rw[if_neg (fun e=>e.elim (fun e=>by cases e) hc)];dsimp only;rw[if_neg hc]
end
def Gl(w:G6)(u:ix):Except Int TabM->Prop
 |.error e=>u=.tuple #[.agg tab0,nI e]
 |.ok t=>∃tv,u=.tuple #[tv,nI 0]/\TabV w tv t
theorem oJ(l:List UInt8)(v:ix)(w:G6)(h:Sl mG 1 w v l)(hl:l.length<=100000000):IS GM 7 [v] w fun u w'=>Jb w w'/\Gl w' u (sE l):=by
 have hz:¬(1<=0/\0<=50):=zo;have fv:Jf (fun _=>0) w v:=h.free0 (fun x=>by simp);refine G8 func7 ntmps7 rfl rfl ?_;refine zh ?_;refine ar (aw w) 2 zo (Gy _) rfl ?_;intro cb w1 O1 d7 f5 l2 l4;have e8:=h.ext l4;refine zh ?_;refine cu (fun w1=>_=w1) (!(l.take 4==hdrW)) 4 (rfl) rfl rfl rfl rfl rfl ?_ ?_
 ·intro a1;have m5:12<=l.length:=dF a1;have j4:Sl mG 1 w1 (cf v 1 0 4) (l.take 4):=by have:=e8.slice (lo:=0) (hi:=4) zo (zo);rwa[Kl]at this
  refine zh ?_;refine zvH (eZ e8 GR (JR _) rfl rfl 4 rfl zo) ?_
  refine zvH (dx j4 GR GQ J0 rfl) ?_;refine zvH (Ar (a:=l.take 4) (b:=hdrW) rfl rfl) ?_
  refine nE 10 5 (rfl) a1
 rintro _ rfl;refine zh ?_;refine zC ?_ ?_
 ·intro hc;have e4:sE l=.error 4:=by
   unfold sE;rw[if_pos];rw[Jk,decide_eq_true_eq,GW,beq_eq_false_iff_ne]at hc;exact hc.imp (fun h=>zo) id
  obtain⟨wX,a9⟩:∃wX,wX=w1:=⟨_,rfl⟩
  obtain⟨OX,d0⟩:∃OX,OX=O1:=⟨_,rfl⟩
  have a5:=d7;rw[<-a9,<-d0]at a5;rw[<-a9];rw[<-a9,<-d0]at f5;refine zh ?_;refine zv (GV (cells:=tab0) yC (Gy _) rfl rfl) ?_;refine zsa (us:=tab0) a5 (GB _) ?_;have b':=a5.setRow (us:=tab0);have b1:GE (fun j=>j=2) OX wX OX (wX.setRow cb tab0):=Gw zd a5.tag rfl;refine zh ?_;refine aO rfl rfl rfl (b'.cellsAdd) (Im _) (GB _) (⟨((f5.mono (S':=fun q=>1<=q/\q<=50) (fun _ h=>zo) hz).trans (b1.mono (fun _ h=>zo) hz)).ext,by rw[e4];rfl⟩)
 intro hc;rw[GZ,decide_eq_false_iff_not,IZ,beq_iff_eq]at hc;have h1:¬(l.length<12\/l.take 4≠hdrW):=fun e=>e.elim (fun e=>hc.1 zo) (fun e=>e hc.2)
 have m5:12<=l.length:=zo;have h0:=f5.mono (S':=fun q=>1<=q/\q<=50) (fun _ h=>zo) hz;obtain⟨bl,d8⟩:∃bl,bl=l.take (l.length-8):=⟨_,rfl⟩
 have j5:bl.length=l.length-8:=by rw[d8,GS];omega
 obtain⟨bv,g4⟩:∃bv,bv=cf v 1 0 (l.length-8):=⟨_,rfl⟩
 have i8:Sl mG 1 w1 bv bl:=by have:=e8.slice (lo:=0) (hi:=l.length-8) zo (zo);rw[Kl]at this;rw[d8,g4];exact this
 have fb:Jf O1 w1 bv:=by
  rw[g4];exact ja (fv.upd f5) fun _=>by obtain⟨a,c,e,_⟩:=h.shape;exact⟨a,_,c,e,zo⟩
 refine zh ?_;refine zvH (fc (v':=bv) (eZ e8 GR (JR _) rfl rfl (l.length-8) zo zo) g4.symm) ?_
 refine zc call21 (xr w.heap.size O1 w1 3 bv bl l2 i8 fb zd zo) ?_;rintro v2 w2 ⟨O2,h2,d',l0⟩;refine zc call20 (nW w.heap.size O2 w2 3 v2 bl l0 h2 zd zo) ?_
 rintro v3 w3 ⟨O3,h3,f4,k'⟩;have a':=h0.trans ((d'.trans f4).mono (fun _ h=>zo) hz);have b5:=(d7.upd d' zd zd).upd f4 zd zd;refine zh ?_;refine zc call19 (xp (eH bl) l v3 v w3 h3.sl (h.ext a'.ext)) ?_;rintro _ w4 ⟨rfl,i6⟩;rw[i6];clear i6;refine zh ?_;refine zC ?_ ?_
 ·intro hs;have f':eH (l.take (l.length-8))≠l:=by rw[<-d8];simpa using hs
  have m4:sE l=.error 10:=by unfold sE;rw[if_neg h1,if_pos f']
  obtain⟨wX,a9⟩:∃wX,wX=w3:=⟨_,rfl⟩
  obtain⟨OX,d0⟩:∃OX,OX=O3:=⟨_,rfl⟩
  have a5:=b5;rw[<-a9,<-d0]at a5 a';rw[<-a9];refine zh ?_;refine zv (GV (cells:=tab0) yC (Gy _) rfl rfl) ?_;refine zsa (us:=tab0) a5 (GB _) ?_;have b':=a5.setRow (us:=tab0);have b1:GE (fun j=>j=2) OX wX OX (wX.setRow cb tab0):=Gw zd a5.tag rfl;refine zh ?_;refine aO rfl rfl rfl (b'.cellsAdd) (Im _) (GB _) (⟨(a'.trans (b1.mono (fun _ h=>zo) hz)).ext,by rw[m4];rfl⟩)
 intro hs;have f':¬(eH (l.take (l.length-8))≠l):=by rw[<-d8];simpa using hs
 have f9:Sl mG 1 w3 bv bl:=(i8.upd fb d').upd (fb.upd d') f4;have f3:Jf O3 w3 bv:=(fb.upd d').upd f4;obtain⟨sv,f8⟩:∃sv,sv=cf bv 1 4 bl.length:=⟨_,rfl⟩
 have i7:Sl mG 1 w3 sv (bl.drop 4):=by have:=f9.slice (lo:=4) (hi:=bl.length) zo (GK _);rw[GG]at this;rw[f8];exact this
 have j1:Jf O3 w3 sv:=by
  rw[f8];exact ja f3 fun _=>by obtain⟨a,c,e,_⟩:=f9.shape;exact⟨a,_,c,e,zo⟩
 have o0:=i7.one;have i':=b5;refine zh ?_;refine zv (fc (v':=sv) (kP f9 GR (JR _) rfl rfl 4 rfl zo) f8.symm) ?_;refine zv (aD (cells:=#[sv,.bool false]) Gg (zeroValue61 _) rfl (by simp only[GP,o0,J8];rfl) rfl rfl) ?_;refine zv (GV (cells:=#[sv,.bool false]) Gf (zeroValue63 _) rfl zk) ?_;refine aG k' 1 zo rfl rfl ?_;intro rb w5 O5 g0 e' k9 n2;have h5:RdO O5 w5 rb (bl.drop 4) false:=⟨sv,g0,i7.upd j1 e',j1.upd e'⟩
 have g':=a'.trans (e'.mono (fun _ h=>zo) hz);have g3:=b5.upd e' zd zd;refine zh ?_;refine zc Kq (eI w.heap.size O5 w5 rb _ _ k9 h5) ?_;rintro _ w6 ⟨ru,l6,b6,rfl,m9,k4,h6,j',k8⟩;refine zh ?_;refine zc JU (gZ w.heap.size O5 w6 rb _ _ k8 h6) ?_;rintro _ w7 ⟨ig,l7,b7,rfl,n0,k3,h7,j9,k7⟩;refine zh ?_;refine zc JU (gZ w.heap.size O5 w7 rb _ _ k7 h7) ?_;rintro _ w8 ⟨kp,l8,b8,rfl,m',k2,h8,j8,k6⟩;refine zh ?_;refine zc JU (gZ w.heap.size O5 w8 rb _ _ k6 h8) ?_;rintro _ w9 ⟨br,l9,b9,rfl,n1,k1,h9,j7,k5⟩;have d9:=((j'.trans j9).trans j8).trans j7;have g9:=g'.trans (d9.mono (fun _ h=>zo) hz);have g2:=g3.upd d9 zd zd;refine zh ?_;refine zc Kp (gu w.heap.size O5 w9 rb 20 _ _ 0 zd zd k5 h9) ?_;rintro gv j3 ⟨gs,m8,n4,O10,g1,i0,m3,g8,i3⟩;refine zh ?_;refine zc call25 (qM w.heap.size O10 j3 rb 30 _ _ zd i3 m3) ?_;rintro _ j2 ⟨lc,L,m7,n3,O11,rfl,i4,h',m2,e0,i2⟩;refine zh ?_;refine zc call25 (qM w.heap.size O11 j2 rb 40 _ _ zd i2 m2) ?_;rintro _ m6 ⟨rc,R,f7,i5,O12,rfl,a8,h4,l',c7,i1⟩;have b2:=((g8.mono (S':=fun q=>q=1\/20<=q/\q<=50) (fun _ h=>zo) zo).trans (e0.mono (fun _ h=>zo) zo)).trans (c7.mono (fun _ h=>zo) zo);have e5:=g9.trans (b2.mono (fun _ h=>zo) hz);have d6:=g2.upd b2 zd zo;have b3:=(g1.upd e0 zd zo).upd c7 zd zo;have c8:=i4.upd c7 zd (fun j h1 h2=>zo);have hS:=k4.seq (k3.seq (k2.seq (k1.seq (i0.seq (h'.seq h4)))));have pl:=c8.partV;have pr:=a8.partV;obtain⟨ll,lo⟩:=pl.one
 obtain⟨rl,ro⟩:=pr.one;rw[d8]at hS;have e9:=Bt h1 f' hS;obtain⟨X,hX⟩:∃X:TbW,X=(ru,(ig,(kp,(br,(gs,(L,R)))))):=⟨_,rfl⟩
 rw[<-hX]at e9;obtain⟨T,hT⟩:∃T,T=xF X:=⟨_,rfl⟩
 have j0:T=⟨ig,kp,br,(ru:Int),dnN 0 gs,AS L,L.2.2.2.2.2,AS R,R.2.2.2.2.2⟩:=by rw[hT,hX];rfl
 rw[<-hT]at e9;have a0:(bD ig kp br (ru:Int) gv lc rc).length=17:=by simp[ll,rl]
 have og:=b3.one;have d2:(bD ig kp br (ru:Int) gv lc rc).all GC=true:=by
  refine List.all_eq_true.2 fun x hx=>?_
  rcases IH.1 hx with hx|hx
  ·rcases IH.1 hx with hx|hx
   ·simp only[Gv,Gu,or_false]at hx
    rcases hx with rfl|rfl|rfl|rfl|rfl<;>first|rfl|exact og
   exact lo x hx
  exact ro x hx
 refine zv (GV (cells:=(bD ig kp br (ru:Int) gv lc rc).toArray) yC (Gy _) rfl (by obtain⟨_,_,eg,_⟩:=b3.sl.shape;obtain⟨_,_,_,_,_,e1,_⟩:=c8.ex;obtain⟨_,_,_,_,_,e2,_⟩:=a8.ex;rw[eg,e1,e2];kernel_rfl)) ?_;refine ar i1 4 zo (Gy _) rfl ?_
 intro tb f6 O13 a6 g7 l1 l3;refine aZ (us:=(bD ig kp br (ru:Int) gv lc rc).toArray) a6 (show(bD ig kp br (ru:Int) gv lc rc).toArray.size=17 from by simpa using a0) (by rw[show(bD ig kp br (ru:Int) gv lc rc).toArray.size=17 from by simpa using a0];exact GB _) d2 rfl rfl rfl ?_;have d1:=a6.setRow (us:=(bD ig kp br (ru:Int) gv lc rc).toArray);have g6:GE (fun j=>j=4) O13 f6 O13 (f6.setRow tb (bD ig kp br (ru:Int) gv lc rc).toArray):=Gw zd a6.tag rfl;generalize f6.setRow tb (bD ig kp br (ru:Int) gv lc rc).toArray=w14 at *;have c':=g7.trans g6;have e3:=e5.trans (c'.mono (fun _ h=>zo) hz);have l5:=l'.upd c' zd;have d5:=d6.upd c' zd zd;have d3:=b3.upd c' zd zd;have e7:=c8.upd c' zd (fun j h1 h2=>zo);have e6:=a8.upd c' zd (fun j h1 h2=>zo);have k0:∀W,Jb w14 W->TabV W (.agg (bD ig kp br (ru:Int) gv lc rc).toArray) T:=fun W e=>by
  rw[j0];exact⟨gv,lc,rc,rfl,d3.sl.ext e,e7.partV.ext e,e6.partV.ext e⟩
 obtain⟨rv,r1,r2,r3⟩:=l5.ex;have m0:w14.cell? ((nA rb 0).add 0)=some rv:=r1.cell 0 rfl;have m1:w14.cell? ((nA rb 0).add 1)=some (.bool i5):=r1.cell 1 rfl;have i9:∀W,Jb w14 W->∀(j:Nat) (u:ix),(bD ig kp br (ru:Int) gv lc rc)[j]? = some u->W.cell? (nA tb j)=some u:=fun W e j u hu=>e.cell (by simpa using d1.cellsAdd j u (by simpa using hu))
 refine zh ?_;refine cu (fun w1=>_=w1) (decide ((0:Int)<(f7.length:Int))) 7 (rfl) rfl rfl rfl rfl rfl ?_ ?_
 ·intro a2;refine zh ?_;refine nE 54 8 (rfl) a2
 rintro _ rfl;refine zh ?_;refine cu (Jb w14) (!(bh T)) 3 (Gt w14) rfl rfl rfl rfl rfl ?_ ?_
 ·intro a3;refine zh ?_;refine zvH (ah (us:=bD ig kp br (ru:Int) gv lc rc) (i9 w14 (Gt _)) (Im _) (by rw[a0];exact GB _) rfl) ?_;refine zc call9 (dz T _ w14 (k0 w14 (Gt _))) ?_;rintro _ c9 ⟨rfl,b0⟩;refine zh ?_;refine nE 63 4 (b0) a3
 intro c9 b0;have c5:=aa (S:=fun _=>False) (fun h=>h) O13 b0;have a4:=d5.upd c5 zd (fun h=>h);have a7:=e3.trans (c5.mono (fun _ h=>h.elim) hz);have d4:((i5||decide ((0:Int)<(f7.length:Int))) || !(bh T))=decide (i5=true\/f7≠[]\/bh T=false):=by
  rw[Bool.eq_iff_iff];simp[JL,or_assoc]
 refine zh ?_;rw[d4];refine zC ?_ ?_
 ·intro hc;have b4:sE l=.error 4:=by rw[e9,if_pos (of_decide_eq_true hc)]
  obtain⟨wX,a9⟩:∃wX,wX=c9:=⟨_,rfl⟩
  obtain⟨OX,d0⟩:∃OX,OX=O13:=⟨_,rfl⟩
  have a5:=a4;rw[<-a9,<-d0]at a5 a7;rw[<-a9];refine zh ?_;refine zv (GV (cells:=tab0) yC (Gy _) rfl rfl) ?_;refine zsa (us:=tab0) a5 (GB _) ?_;have b':=a5.setRow (us:=tab0);have b1:GE (fun j=>j=2) OX wX OX (wX.setRow cb tab0):=Gw zd a5.tag rfl;refine zh ?_;refine aO rfl rfl rfl (b'.cellsAdd) (Im _) (GB _) (⟨(a7.trans (b1.mono (fun _ h=>zo) hz)).ext,by rw[b4];rfl⟩)
 intro hc;have b4:sE l=.ok T:=by rw[e9,if_neg (of_decide_eq_false hc)]
 refine zh ?_;refine zv (ah (us:=bD ig kp br (ru:Int) gv lc rc) (i9 c9 b0) (Im _) (by rw[a0];exact GB _) rfl) ?_
 refine aZ (us:=(bD ig kp br (ru:Int) gv lc rc).toArray) a4 (show(bD ig kp br (ru:Int) gv lc rc).toArray.size=17 from by simpa using a0) (by rw[show(bD ig kp br (ru:Int) gv lc rc).toArray.size=17 from by simpa using a0];exact GB _) d2 rfl rfl rfl ?_;have b':=a4.setRow (us:=(bD ig kp br (ru:Int) gv lc rc).toArray);have b1:GE (fun j=>j=2) O13 c9 O13 (c9.setRow cb (bD ig kp br (ru:Int) gv lc rc).toArray):=Gw zd a4.tag rfl;generalize c9.setRow cb (bD ig kp br (ru:Int) gv lc rc).toArray=w16 at *;have c6:=c5.mono (S':=fun j=>j=2) (fun _ h=>h.elim) zd;have g5:=c6.trans b1;have j6:=a7.trans (b1.mono (fun _ h=>zo) hz);refine zh ?_
 refine aO (us:=bD ig kp br (ru:Int) gv lc rc) rfl rfl rfl (fun j u hu=>by simpa using b'.cellsAdd j u (by simpa using hu)) (Im _) (by rw[a0];exact GB _) ⟨j6.ext,by rw[b4];refine⟨_,rfl,?_⟩;rw[j0];exact⟨gv,lc,rc,rfl,(d3.upd g5 zd zd).sl,(e7.upd g5 zd (fun j h1 h2=>zo)).partV,(e6.upd g5 zd (fun j h1 h2=>zo)).partV⟩⟩
abbrev FT(n:Nat):ix:=.int .u64 (n:Int)
theorem xa(la lb:List Nat)(av bv:ix)(w:G6)(ha:Sl (fun x:Nat => [FT x]) 1 w av la)(hb:Sl (fun x:Nat => [FT x]) 1 w bv lb):
    IS GM 68 [av, bv] w fun v w' => v = .bool (la == lb) ∧ Jb w w' := by
  have hal := ha.len_le
  refine G8 func68 ntmps68 rfl rfl ?_
  refine zh ?_
  refine zC ?_ ?_
  · intro hne
    refine zh ?_
    refine ae rfl rfl (⟨?_, Gt _⟩)
    have:la ≠ lb := fun e => by subst e; simp at hne
    simpa using this.symm ∘ Eq.symm
  · intro heq
    replace heq : la.length = lb.length := by have : (la.length : Int) = lb.length := by simpa using heq
                                              omega
    refine zh ?_
    refine zlp (fun x:Nat×G6 => [(0, av), (1, bv), (12, .int .i64 la.length), (13, .int .i64 x.1)]) (fun x => x.2) (fun x => x.1 ≤ la.length ∧ Jb w x.2 ∧ la.take x.1 = lb.take x.1) (fun x => la.length - x.1) (0, w) (⟨GA _, Gt _, rfl⟩) ?_
    rintro⟨k, w1⟩ ⟨hk, hE, htk⟩
    dsimp only at hk hE htk ⊢
    have ha1 := ha.ext hE
    have hb1 := hb.ext hE
    refine zh ?_
    refine zC ?_ ?_
    · intro hlt
      replace hlt:k < la.length := by have := of_decide_eq_true hlt; omega
      refine zh ?_
      refine Ll (by kernel_rfl) (by kernel_rfl) ?_
      refine zh ?_
      refine zwH (RV.ld (by first | exact ha1.ld (by omega) | exact hb1.ld (by omega)) rfl) ?_
      refine zwH (RV.ld (by first | exact ha1.ld (by omega) | exact hb1.ld (by omega)) rfl) ?_
      refine WS.nil ?_
      refine zh ?_
      refine zC ?_ ?_
      · intro hne
        refine zh ?_
        refine ae rfl rfl (⟨?_, hE.drew⟩)
        have:la ≠ lb := fun e => by subst e; simp at hne
        simpa using this
      · intro hee
        refine zh ?_
        refine zxd (k + 1, w1.drew) (⟨hlt, hE.drew, by rw[aF hlt, aF (by omega:k < lb.length), htk]; first | simpa using hee | (simp at hee; simp; omega)⟩)
    · intro hge
      replace hge:la.length ≤ k := by have := of_decide_eq_false hge; omega
      refine zh ?_
      refine ae rfl rfl (⟨?_, hE⟩)
      rw[Gx hge, Gx (by omega)]at htk
      simp[htk]
theorem kT(p:Ke)(tl:List Nat)(cs a3:List ix)(w:G6)(h:Ip w cs p tl)(h':Ip w a3 p tl):
  IS GM 40 [.agg cs.toArray,.agg a3.toArray] w fun u w'=>u=.bool true/\Jb w w':=by
 obtain⟨u1,b1,k1,n1,t1,rfl,a6,b5,b3,a',a8⟩:=h;obtain⟨u2,b2,k2,n2,t2,rfl,a5,b4,b0,a9,a7⟩:=h';refine G8 func40 ntmps40 rfl rfl ?_;refine zh ?_;refine aG (aw w) 1 zo rfl rfl ?_;intro x1 w1 O1 a4 c6 b7 c5;refine aG b7 2 zo rfl rfl ?_;intro x2 w2 O2 a2 b6 c7 b9;have a0:=a4.upd b6 zd zd;have hE:=c5.trans b9
 have c1:∀j u,[nI p.width,u1,b1,k1,n1][j]? = some u->w2.cell? ((nA x1 0).add j)=some u:=fun j u hu=>a0.cellsAdd j u (by
  have hj:=(GF.1 hu).1;show([nI p.width,u1,b1,k1,n1]++[t1])[j]? = _
  rw[Iq hj];exact hu)
 have c2:∀j u,[nI p.width,u2,b2,k2,n2][j]? = some u->w2.cell? ((nA x2 0).add j)=some u:=fun j u hu=>a2.cellsAdd j u (by
  have hj:=(GF.1 hu).1;show([nI p.width,u2,b2,k2,n2]++[t2])[j]? = _
  rw[Iq hj];exact hu)
 refine zh ?_;refine zvH (ah (us:=[nI p.width,u1,b1,k1,n1]) c1 (L5 _) (IN _) rfl) ?_
 refine zv (ah (us:=[nI p.width,u2,b2,k2,n2]) c2 (L5 _) (IN _) rfl) ?_;refine zc call67 (yz p p _ _ w2 ⟨u1,b1,k1,n1,rfl,a6.ext hE,b5.ext hE,b3.ext hE,a'.ext hE⟩ ⟨u2,b2,k2,n2,rfl,a5.ext hE,b4.ext hE,b0.ext hE,a9.ext hE⟩) ?_
 rintro _ w3 ⟨rfl,a1⟩;rw[qn];have d1:w3.cell? (nA x1 5)=some t1:=a1.cell (a0.cell 5 rfl);have d2:w3.cell? (nA x2 5)=some t2:=a1.cell (a2.cell 5 rfl);refine zh ?_;refine ao (d:=10) rfl (b':=true) (rfl) ?_;refine zh ?_;refine zc call68 (xa tl tl t1 t2 w3 (a8.ext (hE.trans a1)) (a7.ext (hE.trans a1))) ?_;rintro _ w4 ⟨rfl,b8⟩;refine zh ?_;refine ae rfl rfl (⟨by simp,(hE.trans a1).trans b8⟩)
theorem sR(t:TabM)(v v':ix)(w:G6)(h:TabV w v t)(h':TabV w v' t):IS GM 16 [v,v'] w fun u w'=>u=.bool true/\Jb w w':=by
 obtain⟨g1,l1,r1,rfl,b0,a7,a5⟩:=h;obtain⟨g2,l2,r2,rfl,a',a6,a4⟩:=h';refine G8 func16 ntmps16 rfl rfl ?_;refine zh ?_;refine aG (aw w) 1 zo rfl rfl ?_;intro x1 w1 O1 a9 b8 b4 b7;refine aG b4 2 zo rfl rfl ?_;intro x2 w2 O2 a8 b3 b9 b6;have hE:=b7.trans b6;have T1:=qj (t:=t) (a9.upd b3 zd zd) (b0.ext hE) (a7.ext hE) (a5.ext hE);have T2:=qj (t:=t) a8 (a'.ext hE) (a6.ext hE) (a4.ext hE);refine zh ?_;refine zvH (RV.ld (by first|exact T1.c0|exact T2.c0) rfl) ?_;refine zvH (RV.ld (by first|exact T1.c0|exact T2.c0) rfl) ?_;refine ao (d:=10) rfl (b':=true) ((by simp)) ?_;refine zh ?_;refine zvH (RV.ld (by first|exact T1.c1|exact T2.c1) rfl) ?_;refine zvH (RV.ld (by first|exact T1.c1|exact T2.c1) rfl) ?_;refine ao (d:=17) rfl (b':=true) ((by simp)) ?_;refine zh ?_;refine zvH (RV.ld (by first|exact T1.c2|exact T2.c2) rfl) ?_;refine zvH (RV.ld (by first|exact T1.c2|exact T2.c2) rfl) ?_;refine ao (d:=24) rfl (b':=true) ((by simp)) ?_;refine zh ?_;refine zvH (RV.ld (by first|exact T1.c3|exact T2.c3) rfl) ?_;refine zvH (RV.ld (by first|exact T1.c3|exact T2.c3) rfl) ?_;refine ao (d:=31) rfl (b':=true) ((by simp)) ?_;refine zh ?_;refine zvH (RV.ld (by first|exact T1.c4|exact T2.c4) rfl) ?_;refine zvH (RV.ld (by first|exact T1.c4|exact T2.c4) rfl) ?_;refine zc call39 (eS t.groups t.groups g1 g2 w2 T1.groups T2.groups) ?_;rintro _ w3 ⟨rfl,a3⟩;have T3:=T1.ext a3;have S3:=T2.ext a3;have a1:=T3.cl;have a2:=S3.cl
 refine zh ?_;refine ao (d:=38) rfl (b':=true) ((by simp)) ?_
 refine zh ?_;refine zvH (ah (us:=l1) a1 (IC _) (by rw[a7.one.1];exact GY _) rfl) ?_
 refine zvH (ah (us:=l2) a2 (IC _) (by rw[a6.one.1];exact GY _) rfl) ?_;refine zc call40 (kT t.left t.lt l1 l2 w3 T3.left S3.left) ?_
 rintro _ w4 ⟨rfl,a0⟩;have T4:=T3.ext a0;have S4:=S3.ext a0;have b1:=T4.cr;have b2:=S4.cr;refine zh ?_;refine ao (d:=45) rfl (b':=true) (rfl) ?_;refine zh ?_;refine zvH (ah (us:=r1) b1 (IC _) (by rw[a5.one.1];exact GY _) rfl) ?_;refine zvH (ah (us:=r2) b2 (IC _) (by rw[a4.one.1];exact GY _) rfl) ?_;refine zc call40 (kT t.right t.rt r1 r2 w4 T4.right S4.right) ?_;rintro _ w5 ⟨rfl,b5⟩;refine zh ?_;refine ae rfl rfl (⟨rfl,((hE.trans a3).trans a0).trans b5⟩)
theorem kq(l:List UInt8)(v:ix)(w:G6)(h:Sl mG 1 w v l):IS GM 12 [v] w fun u w'=>u=.int .u64 ((sM l:Nat):Int)/\w'=w:=by
 have hl:=h.len_le;have a1:sM l=sN (l.take l.length) 14695981039346656037:=by rw[GG];rfl
 rw[a1];refine G8 func12 ntmps12 rfl rfl ?_;refine zh ?_;refine zlp (fun z:Nat×Nat=>[(0,v),(3,.int .u64 ((z.2:Nat):Int)),(4,nI z.1)]) (fun z=>w) (fun z=>z.1<=l.length/\z.2=sN (l.take z.1) 14695981039346656037/\z.2<2^64) (fun z=>l.length-z.1) (0,14695981039346656037) (⟨GA _,rfl,zd⟩) ?_;rintro⟨q,n⟩ ⟨hq,hn,a2⟩;dsimp only at hq hn a2 ⊢;refine zh ?_;refine zC ?_ ?_
 ·intro a0;replace a0:q<l.length:=dT a0;have hc:=(nth l q).toNat_lt;have m1:w.cell? (adr v 1 q)=some (.int .u8 ((nth l q).toNat:Int)):=h.ld a0;have hs:uz n (nth l q).toNat=sN (l.take (q+1)) 14695981039346656037:=by rw[aF a0,qE,<-hn]
  refine zh ?_;refine zv (dJ GQ GD rfl (II zo)) ?_
  refine zvH (Aq (a:=n) (b:=(nth l q).toNat) rfl rfl rfl rfl (mu a2) (mu (rY _))) ?_;refine zvH (fc (v':=.int .u64 ((uz n (nth l q).toNat:Nat):Int)) (As (a:=n ^^^ (nth l q).toNat) (b:=1099511628211) rfl rfl rfl rfl) (by rw[uz])) ?_
  refine zxd (q+1,uz n (nth l q).toNat) (⟨a0,hs,sL _ _⟩)
 intro a3;obtain rfl:q=l.length:=dF a3;refine zh ?_;refine ae rfl rfl (⟨by rw[hn],rfl⟩)
theorem sW(l:List UInt8)(v:ix)(w:G6)(h:Sl mG 1 w v l)(hl:l.length<=1000000000000):IS GM 10 [v] w fun u w'=>Sl mG 1 w' u (eH l)/\Jb w w':=by
 have b0:=ya l;have a5:eH l=l++(le8 (sM l)).take 8:=by rw[Gx (by rw[fG];exact GK _)];rfl
 have b1:∀j,j<8->nth (le8 (sM l)) j=Gn (sM l / 2^(8*j)):=fun j hj=>by
  rw[aB (by rw[fG];exact hj)];simp[le8]
 rw[a5];refine G8 func10 ntmps10 rfl rfl ?_;refine zh ?_;refine zc call12 (kq l v w h) ?_;rintro _ w0 ⟨rfl,a9⟩;rw[a9];generalize sM l=S at *;refine zh ?_;refine gQ elW mG (aw w) 1 zd rfl ?_;intro v1 w1 O1 a1 a7 b7;have h2:=h.ext a7.ext;refine zh ?_;refine cx elW a1 b7 h2 rfl rfl (fun _ _=>rfl) (fun u _ c hc=>by rw[G7.1 hc];rfl) (by simp;omega) (by simp;omega) zd rfl ?_;intro v2 w2 O2 a0 b4 b6;rw[Ij]at a0;refine zh ?_;refine zlp (fun z:Nat×Nat×(Nat->Nat)×World×ix=>[(3,.int .u64 ((z.2.1:Nat):Int)),(4,z.2.2.2.2),(5,nI z.1)]) (fun z=>z.2.2.2.1) (fun z=>z.1<=8/\z.2.1=S / 2^(8*z.1)/\Iy mG 5 1 z.2.2.1 z.2.2.2.1 1 z.2.2.2.2 (l++(le8 S).take z.1)/\GE (fun j=>j=1) (fun _=>0) w z.2.2.1 z.2.2.2.1/\Io w.heap.size z.2.2.1 z.2.2.2.1) (fun z=>8-z.1) (0,S,O2,w2,v2) (⟨GA _,by simp,by simpa using a0,a7.trans b4,b6⟩) ?_;rintro⟨q,s,Oq,wq,vq⟩ ⟨hq,a3,a4,a6,a8⟩;dsimp only at hq a3 a4 a6 a8 ⊢;have b8:(l++(le8 S).take q).length<=1000000000008:=by rw[ln,GS,fG];omega
 have a':s<2^64:=by rw[a3];exact J3 (Nat.div_le_self _ _) b0
 refine zh ?_;refine zC ?_ ?_
 ·intro a2;replace a2:q<8:=dT a2;refine zh ?_;refine zv (RV.rem rfl rfl zd) ?_;refine zv (fc (v':=.int .u8 (((Gn (S / 2^(8*q))).toNat:Nat):Int)) (vt (a:=s % 256) GD GQ rfl rfl) (by rw[IW,a3,Nat.mod_mod])) ?_;refine Kb elW a4 a8 ((Gn (S / 2^(8*q)))) (fun _=>rfl) rfl rfl rfl (by simp[GC]) zo zo zo zd rfl rfl ?_;intro v3 w3 O3 h3 b3 b5;refine zh ?_;refine zvH (fc (v':=.int .u64 ((s / 256:Nat):Int)) (RV.quo rfl rfl zd (show Fit .u64 ((s / 256:Nat):Int)from II zo)) rfl) ?_;refine zxd (q+1,s / 256,O3,w3,v3) (⟨a2,by dsimp only;rw[a3,Nat.div_div_eq_div_mul,show 8*(q+1)=8*q+8 from by omega,Nat.pow_add],by dsimp only;rw[aF (by rw[fG];exact a2),b1 q a2,<-G5];exact h3,a6.trans b3,b5⟩)
 intro b2;obtain rfl:q=8:=dF b2;refine zh ?_;refine ae rfl rfl (⟨a4.sl,a6.ext⟩)
theorem pZ(ts:List R3):∀i,je ts i<2^i
 |0=>by unfold je;decide
 |i+1=>by
  have h1:je ts i<2^(i+1):=GT (pZ ts i) (I0 zd (Nat.le_succ i));unfold je
  split
  ·exact Is h1 (IT zd (Jc i))
  exact h1
theorem AI{g:Gr}{n:Nat}(he:∀k,g.en k<=n)(s:List Int):dy g s<2^n:=by
 have a0:∀(s:List Int) (b:Nat),b<2^n->s.foldl (fun b p=>b ||| nh g p.toNat) b<2^n:=fun s=>by
  induction s with
  |nil=>exact fun b hb=>hb
  |cons p s ih=>exact fun b hb=>ih _ (Is hb (jn he _ 0 (GN n)))
 exact a0 s 0 (GN n)
theorem qH{se:Bool}{ts:List Nd}{d:List (List Nat)×List Nat}(h:stM se ts=some d):∀q∈d.2,q<2^ts.length:=fun q hq=>by
 unfold stM at h
 split at h
 ·obtain⟨S,hS⟩:=rR h;obtain⟨j,hj,rfl⟩:=Gm hq;rw[hS.tel j (by rw[<-hS.tl];exact hj)];exact AI (yK ts) _
 cases h
theorem mn{rows:List (List Nat)}{a0:List Nat}(hr:If rows a0)(cl:Nat->Nat){n:Nat}(h:∀q∈a0,q<2^n):∀q∈(cC cl rows a0).2,q<2^n:=fun q hq=>by
 obtain⟨F,hF⟩:=iY (cl:=cl) (tl:=nth a0) hr.nx (rows.length+1) 0 [0] [] [] (qo hr.pos) zo;obtain⟨j,hj,rfl⟩:=Gm hq;have a1:j<F.length:=by have:=hF.tln;change j<(eQ _ _ _ _ _ _ _ _).2.length at hj;omega
 have ht:nth (cC cl rows a0).2 j=nth a0 (nth F j):=hF.tel j a1;rw[ht];have:=hF.reps.lt _ (aN a1);exact h _ (aN (by rw[hr.tl];exact this))
theorem Cc{a b:Nat}(ha:a<65536)(hb:b<65536)(h1:Gn (a / 256)=Gn (b / 256))(h2:Gn (a % 256)=Gn (b % 256)):a=b:=by
 have e1:=congrArg KB h1;have e2:=congrArg KB h2;simp only[IW]at e1 e2;omega
theorem tN{i j:Nat}:∀(rows:List (List Nat)),(∀r∈rows,nth r i<65536/\nth r j<65536)->oK rows i=oK rows j->∀r∈rows,nth r i=nth r j
 |[],_,_=>fun r hr=>by cases hr
 |a::l,h,he=>by
  have e:[Gn (nth a i / 256),Gn (nth a i % 256)]++oK l i=[Gn (nth a j / 256),Gn (nth a j % 256)]++oK l j:=he;simp only[K6,Ij,Lc]at e;obtain⟨e1,e2,e3⟩:=e;have ha:=h a (by simp);intro r hr
  rcases Gv.1 hr with rfl|hr
  ·exact Cc ha.1 ha.2 e1 e2
  exact tN l (fun r hr=>h r (by simp[hr])) e3 r hr
theorem Bu{A B:List (List Nat)}{i j:Nat}(hA:∀r∈A,nth r i<65536/\nth r j<65536)(hB:∀r∈B,nth r i<65536/\nth r j<65536)(h:mI [A,B] i=mI [A,B] j):(∀r∈A,nth r i=nth r j)/\∀r∈B,nth r i=nth r j:=by
 have h:oK A i++(oK B i++[])=oK A j++(oK B j++[]):=h;rw[Ik,Ik]at h;obtain⟨h1,h2⟩:=List.append_inj h (by rw[jS,jS]);exact⟨tN A hA h1,tN B hB h2⟩
structure PartI(g:List Nat)(many n:Nat)(rows:List (List Nat))(p:Ke):Prop where
 right:cE p=true
 us:p.usual.length=rows.length
 wd:p.width=(many:Int)
 get:∀r,r<rows.length->∀c,c<37->getM p r (nth g c)=((nxD rows r c:Nat):Int)
 lo:∀r,r<rows.length->∀k,k<many->0<=getM p r k/\getM p r k<rows.length
theorem uD{g:List Nat}{many:Nat}(hg:GrpI g many){rows:List (List Nat)}{a6:List Nat}(hr:If rows a6)(hc:∀i j,i<37->j<37->nth g i=nth g j->∀r∈rows,nth r i=nth r j):PartI g many rows.length rows (dc g many rows):=by
 have a2:=nX hg hr;have a8:=hg.le;have a7:(jw g many rows).length=rows.length:=by simp[jw]
 have a5:∀r,r<rows.length->nth (jw g many rows) r=ints (nt g many (nth rows r)):=fun r a0=>by
  unfold jw;rw[dV (by simpa using a0),dV a0]
 have a3:∀r,r<rows.length->(nth (jw g many rows) r).length=many:=fun r a0=>by rw[a5 r a0];simp[lH]
 obtain⟨s1,_,_,_,s5,_⟩:=nZ (many:Int) (jw g many rows) (fun r a0=>by
  obtain⟨j,hj,rfl⟩:=Gm a0
  rw[a3 j zo];omega)
 have a1:∀r,r<rows.length->∀k,k<many->getM (dc g many rows) r k=((nth (nt g many (nth rows r)) k:Nat):Int):=fun r a0 k hk=>by
  unfold dc;rw[zD _ _ r k zo (by rw[a3 r a0];exact hk),a5 r a0,dV (by rw[lH];exact hk)]
 refine⟨sV _ _ a2,by show(ky _ _).usual.length=_;rw[s1];simpa using a7,s5,fun r a0 c a4=>?_,fun r a0 k hk=>?_⟩
 ·rw[a1 r a0 _ (hg.lt c a4),tn hg (fun i j hi hj e=>hc i j hi hj e _ (aN a0)) a4];rfl
 rw[a1 r a0 k hk];obtain⟨i,hi,rfl⟩:=hg.hit k hk;rw[tn hg (fun i j hi hj e=>hc i j hi hj e _ (aN a0)) hi];have:=(hr.row r a0).2 i hi;omega
theorem CL{l:List Int}{n:Int}(h:∀x∈l,x<n)(h0:nth l 0<n):CM l<n:=by
 have a0:∀(l:List Int) (m:Int),(∀x∈l,x<n)->m<n->l.foldl max m<n:=fun l=>by
  induction l with
  |nil=>exact fun m _ hm=>hm
  |cons a l ih=>exact fun m h hm=>ih _ (fun x hx=>h x (by simp[hx])) (by have:=h a (by simp);omega)
 exact a0 l _ h h0
theorem uW{g:List Nat}{many n a0:Nat}{rows:List (List Nat)}{a5:List Nat}{p:Ke}(hp:PartI g many n rows p)(hm:1<=many)(hr:If rows a5)(ht:∀q∈a5,q<2^a0):gg p a5 many a0=true:=by
 obtain⟨f1,f2⟩:=kH p;have a9:=hr.pos;have a8:=hr.tl;have a7:=hp.us;unfold gg;rw[hp.right,hp.wd,f1,a7,a8];have a1:iH (fun i=>!(nth a5 i / 2^a0==0)) rows.length=false:=bP.2 fun i hi=>by
  rw[Iz (ht _ (aN zo))];rfl
 have a2:iH (fun i=>decide (((rows.length:Nat):Int)<=CM (nth (fo p) i))) rows.length=false:=bP.2 fun i hi=>by
  have a3:nth (fo p) i=AB p i:=by unfold fo;rw[fw _ _ _ zo]
  have a6:p.width.toNat=many:=by rw[hp.wd];rfl
  have a4:∀k,k<many->nth (AB p i) k<rows.length:=fun k hk=>by
   unfold AB;rw[a6,aB (xs:=Kk (getM p i) (KR many)) (by simpa using hk),K5,List.getElem_range];exact(hp.lo i hi k hk).2
  refine decide_eq_false (Int.not_le.2 (CL (fun x hx=>?_) ?_))
  ·rw[a3]at hx;obtain⟨k,hk,rfl⟩:=Gm hx;exact a4 k (by unfold AB at hk;rw[a6]at hk;simpa using hk)
  rw[a3];exact a4 0 hm
 have h0:(rows.length==0)=false:=beq_eq_false_iff_ne.2 zo;rw[a1,a2,h0];simp
structure TabI(t:TabM)(A B:List (List Nat)×List Nat):Prop where
 right:bh t=true
 ok:OkT t
 left:∀r c,r<A.1.length->c<37->stL t r c=nxD A.1 r c
 rght:∀r c,r<B.1.length->c<37->stR t r c=nxD B.1 r c
 ll:t.left.usual.length=A.1.length
 rl:t.right.usual.length=B.1.length
theorem Cd{li lk:List Int}{ts:List R3}{A B:List (List Nat)×List Nat}(a8:et li lk ts=true)(hA:If A.1 A.2)(hB:If B.1 B.2)(tA:∀q∈A.2,q<2^ts.length)(tB:∀q∈B.2,q<2^ts.length):TabI (lP li lk ts A B) A B:=by
 obtain⟨r1,r2,r3,r4⟩:=kV a8;obtain⟨many,hg,a5⟩:=oz [A.1,B.1];have a2:=hg.pos;have b0:=hg.le;have a4:=hg.len;have a3:∀ {rows:List (List Nat)} {a7:List Nat},If rows a7->∀i,i<37->∀r∈rows,nth r i<65536:=fun {rows a7} h i hi r hr=>by
  obtain⟨j,hj,rfl⟩:=Gm hr;have h1:=(h.row j hj).2 i hi;have h2:=h.le;omega
 have hc:∀i j,i<37->j<37->nth (bt [A.1,B.1]) i=nth (bt [A.1,B.1]) j->(∀r∈A.1,nth r i=nth r j)/\∀r∈B.1,nth r i=nth r j:=fun i j hi hj e=>
  Bu (fun r hr=>⟨a3 hA i hi r hr,a3 hA j hj r hr⟩) (fun r hr=>⟨a3 hB i hi r hr,a3 hB j hj r hr⟩) ((a5 i j hi hj).1 e)
 have a1:=hg.cnt;have iL:=uD hg hA (fun i j hi hj e=>(hc i j hi hj e).1);have iR:=uD hg hB (fun i j hi hj e=>(hc i j hi hj e).2);have fL:=uW iL a2 hA tA;have fR:=uW iR a2 hB tB;have e1:(lP li lk ts A B).left=dc (bt [A.1,B.1]) many A.1:=by rw[qC,a1]
 have e2:(lP li lk ts A B).right=dc (bt [A.1,B.1]) many B.1:=by rw[nR,a1]
 have e3:(lP li lk ts A B).groups=ints (bt [A.1,B.1]):=rfl;have gr:∀c,c<37->nth (lP li lk ts A B).groups c=((nth (bt [A.1,B.1]) c:Nat):Int):=fun c hc=>by rw[e3,dV zo]
 have gt:∀c,c<37->grT (lP li lk ts A B) c=nth (bt [A.1,B.1]) c:=fun c hc=>by unfold grT;rw[gr c hc];rfl
 have a6:∀q:Nat,q<2^ts.length->q<2^40:=fun q hq=>GT hq (I0 zd r1)
 have a':=hA.tl;have a9:=hB.tl;have pA:=hA.pos;have pB:=hB.pos;refine⟨?_,⟨okP _ (by rw[e1];exact iL.right),okP _ (by rw[e2];exact iR.right),by rw[e3];simpa using a4,fun c a0=>?_,by rw[e1,iL.us];exact a',by rw[e2,iR.us];exact a9,by rw[e1,iL.us];exact pA,by rw[e2,iR.us];exact pB,fun r c hr a0=>?_,fun r c hr a0=>?_,lT r2,lT r3,a6 _ (pZ ts _),fun q hq=>a6 q (tA q hq),fun q hq=>a6 q (tB q hq)⟩,fun r c hr a0=>?_,fun r c hr a0=>?_,by rw[e1,iL.us],by rw[e2,iR.us]⟩
 ·unfold bh;have q1:(lP li lk ts A B).ig / 2^36=0:=Iz (lT r2);have q2:(lP li lk ts A B).kp / 2^36=0:=Iz (lT r3);have q3:(lP li lk ts A B).rules.toNat=ts.length:=rfl;have q4:(lP li lk ts A B).br / 2^ts.length=0:=Iz (pZ ts _);have q5:fy (lP li lk ts A B).groups=many:=by rw[e3,a1]
  have q6:(lP li lk ts A B).rules=(ts.length:Int):=rfl;rw[q1,q2,q3,q4,q5,q6,e1,e2,xY,xX,fL,fR,decide_eq_false zo,decide_eq_false zo,beq_eq_false_iff_ne.2 zo];rfl
 ·rw[gr c a0];have:=hg.lt c a0;omega
 ·rw[e1]at hr ⊢;rw[iL.us]at hr ⊢;rw[gt c a0,iL.get r hr c a0];have:=(hA.row r hr).2 c a0;unfold nxD;omega
 ·rw[e2]at hr ⊢;rw[iR.us]at hr ⊢;rw[gt c a0,iR.get r hr c a0];have:=(hB.row r hr).2 c a0;unfold nxD;omega
 ·unfold stL;rw[e1,gt c a0,iL.get r hr c a0];rfl
 unfold stR;rw[e2,gt c a0,iR.get r hr c a0];rfl
structure Made(li lk:List Int)(ts:List R3)(a b:List (List Nat)×List Nat)(clA clB:Nat->Nat):Prop where
 rt:et li lk ts=true
 sa:stM true (ry ts)=some a
 sb:stM false (kU ts)=some b
 ra:If a.1 a.2
 rb:If b.1 b.2
 ca:Cls clA a
 cb:Cls clB b
abbrev mm(li lk:List Int)(ts:List R3)(a b:List (List Nat)×List Nat)(a1 a0:Nat->Nat):TabM:=lP li lk ts (cC a1 a.1 a.2) (cC a0 b.1 b.2)
section
variable{li lk:List Int}{ts:List R3}{a b:List (List Nat)×List Nat}{clA clB:Nat→Nat}
theorem Made.inv(h:Made li lk ts a b clA clB):TabI (mm li lk ts a b clA clB) (cC clA a.1 a.2) (cC clB b.1 b.2):=
 Cd h.rt (fF h.ra clA) (fF h.rb clB) (mn h.ra clA (by have:=qH h.sa;rwa[I1]at this)) (mn h.rb clB (by have:=qH h.sb;rwa[I1]at this))
end
section
abbrev mv(m:M3):ix:=.agg (ke m).toArray
theorem jJ{F:KW}(hF:∀(args:Array ix) (w:G6),(callFunc F args).run GM w=.ok (.enter F args) w)(cs:Array ix)(l:List (M3))(sv:ix)(q:Nat->Bool)(w:G6)(h:Sl ke 4 w sv l) 
  (hq:∀i,i<l.length->∀w',Jb w w'->IS GM F ([mv (nth l i)]++cs.toList) w' fun v w''=>v=.bool (q i)/\Jb w' w'') :
  IS GM 165 [sv,.func (.func F) #[] cs] w fun v w'=>v=nI (dh q l.length)/\Jb w w':=by
 have hl:=h.len_le;refine G8 func165 ntmps165 rfl rfl ?_;refine zh ?_;refine zlp (fun x:Nat×G6=>[(0,sv),(1,.func (.func F) #[] cs),(7,nI l.length),(8,nI x.1)]) (fun x=>x.2) (fun x=>x.1<=l.length/\Jb w x.2/\∀i,i<x.1->q i=false) (fun x=>l.length-x.1) (0,w) (⟨GA _,Gt _,fun i hi=>absurd hi (IM i)⟩) ?_;rintro⟨k,w1⟩ ⟨hk,hE,a1⟩;dsimp only at hk hE a1 ⊢;have h1:=h.ext hE;refine zh ?_;refine zC ?_ ?_
 ·intro a0;replace a0:k<l.length:=dT a0;refine zh ?_;refine zv (ah (us:=ke (nth l k)) (fun j u hu=>h1.cell a0 hu) (isAgg218 _) (sizeOf218 _) rfl) ?_;refine df rfl hF rfl (hq k a0 w1 hE) rfl ?_;rintro v w2 ⟨rfl,a3⟩;refine zh ?_;refine zC ?_ ?_
  ·intro hy;refine zh ?_;refine ae rfl rfl (⟨by rw[bY a0 hy a1],hE.trans a3⟩)
  intro hy;refine zh ?_;refine zxd (k+1,w2) (⟨a0,hE.trans a3,fun i hi=>(Jw.1 hi).elim (a1 i) (fun e=>by rw[e];exact hy)⟩)
 intro a2;replace a2:l.length<=k:=dF a2;refine zh ?_;refine ae rfl rfl (⟨by rw[bW fun i hi=>a1 i zo],hE⟩)
theorem gI{F:KW}(hF:∀(args:Array ix) (w:G6),(callFunc F args).run GM w=.ok (.enter F args) w)(cs:Array ix)(l:List (M3))(sv:ix)(q:Nat->Bool)(w:G6)(h:Sl ke 4 w sv l) 
  (hq:∀i,i<l.length->∀w',Jb w w'->IS GM F ([mv (nth l i)]++cs.toList) w' fun v w''=>v=.bool (q i)/\Jb w' w'') :
  IS GM 150 [sv,.func (.func F) #[] cs] w fun v w'=>v=.bool (iH q l.length)/\Jb w w':=by
 refine G8 func150 ntmps150 rfl rfl ?_;refine zh ?_
 refine zc call165 (jJ hF cs l sv q w h hq) ?_;rintro v w1 ⟨rfl,hE⟩;refine zh ?_
 refine ae rfl rfl (⟨by rw[firstN_any],hE⟩)
theorem vA(m:M3)(s:List UInt8)(sb:Nat)(w:G6)(h:w.cell? ⟨sb,0,none⟩=some (.string (bs s))):IS GM 151 [mv m,nP sb] w fun v w'=>v=.bool (m.1==s)/\Jb w w':=by
 refine G8 func151 ntmps151 rfl rfl ?_;refine zh ?_
 refine aG (aw w) 1 zo rfl rfl ?_;intro xb w1 O1 a1 a2 a3 a0;refine zh ?_
 refine zv (RV.ld (a1.cell 0 rfl) rfl) ?_;refine zv (RV.ld (a0.cell h) rfl) ?_
 refine zvH (bU rfl rfl) ?_;refine ae rfl rfl (⟨rfl,a0⟩)
theorem mH(l:List (List UInt8))(s:List UInt8)(sv:ix)(w:G6)(h:Sl encS 1 w sv l):IS GM 149 [sv,.string (bs s)] w fun v w'=>v=.bool (l.contains s)/\w'=w:=by
 refine G8 func149 ntmps149 rfl rfl ?_;refine zh ?_
 refine zc call157 (kX l s sv w h) ?_;rintro v w9 ⟨rfl,a0⟩;rw[a0];clear a0 w9;refine zh ?_
 refine ae rfl rfl (⟨congrArg JJ ?_,rfl⟩);unfold DL
 cases hf:l.findIdx? (· == s)with
 |none=>
  have h1:=List.findIdx?_eq_none_iff.1 hf;rw[decide_eq_false zd]
  symm
  rw[Bool.eq_false_iff];intro hc;have:=h1 s (JF.1 hc);simp at this
 |some k=>
  obtain⟨hk,h1,_⟩:=List.findIdx?_eq_some_iff_getElem.1 hf;show decide ((0:Int)<=((k:Nat):Int))=_;rw[decide_eq_true zo]
  symm
  rw[JF,<-eq_of_beq h1];exact K4 hk
def wordsL:List (List UInt8):=[[108,101,116],[105,103,110,111,114,101],[107,101,101,112],[97,110,121]]
def ek(kn:Kn)(s:List UInt8):Int:=if((yI s).isSome||wordsL.contains s)=true then 5 else if kn.any (fun m=>m.1==s)=true then 11 else 0
variable{kn:Kn}
theorem xT(O:Nat->Nat)(w:G6)(j jm rb:Nat)(s:LS)(q:List UInt8)(hk:Mac O w jm s.mc kn)(h:KC O w j rb s):
  IS GM 131 [nP rb,.string (bs q)] w fun v w'=>v=nI (ek kn q)/\Jb w w':=by
 obtain⟨ms,a2,b1,b2⟩:=hk;have b0:=a2.sl;refine G8 func131 ntmps131 rfl rfl ?_;refine zg ?_;refine aG (aw w) 1 zo rfl rfl ?_;intro sb w1 O1 a9 b4 b5 b3;have a3:=a9.cell 0 rfl;refine zg ?_;refine zv (RV.ld a3 rfl) ?_;refine zc L6 (ie q w1) ?_;rintro v w2 ⟨rfl,a6⟩;have a1:=b3.trans a6;refine zg ?_
 cases hn:(yI q).isSome with
 |true=>
  have hM:ek kn q=5:=by unfold ek;rw[hn];rfl
  rw[hM];refine ao (d:=14) rfl (b':=true) (rfl) ?_;refine zg ?_;refine zTG rfl rfl ?_;refine ae rfl rfl (⟨rfl,a1⟩)
 |false=>
  refine ao (d:=14) rfl (b':=false) (rfl) ?_;refine zg ?_
  refine iB underlying123 (sizeOf9 _) (zeroValue9 _) encS wordsL rfl rfl rfl rfl zk zd rfl ?_;intro sv w3 a' a5;have a0:=a1.trans a5;refine zg ?_
  refine zvG (RV.ld ((a6.trans a5).cell a3) rfl) ?_;refine zc call149 (mH wordsL q sv w3 a') ?_
  rintro v w9 ⟨rfl,a7⟩;rw[a7];clear a7 w9;refine zg ?_
  cases hw:wordsL.contains q with
  |true=>
   have hM:ek kn q=5:=by unfold ek;rw[hn,hw];rfl
   rw[hM];refine zTG rfl rfl ?_;refine ae rfl rfl (⟨rfl,a0⟩)
  |false=>
   refine aX rfl rfl ?_;have q9:=a0.cell h.q9;refine zg ?_
   refine zv (RV.ld q9 rfl) ?_;refine zv (dH rfl rfl) ?_
   refine zc call150 (gI call151 #[nP sb] ms s.mc (fun i=>(nth ms i).1==q) w3 (b0.ext a0) (fun i hi w' hE=>vA (nth ms i) q sb w' (hE.cell ((a6.trans a5).cell a3)))) ?_;rintro v w4 ⟨rfl,a8⟩;have a4:iH (fun i=>(nth ms i).1==q) ms.length=kn.any (fun m=>m.1==q):=by
    rw[<-b1,<-gL (l:=kn) (p:=fun m=>m.1==q)];exact xy fun i hi=>by rw[(b2 i zo).1]
   rw[a4];refine zg ?_
   cases ha:kn.any (fun m=>m.1==q)with
   |true=>
    have hM:ek kn q=11:=by unfold ek;rw[hn,hw,ha];rfl
    rw[hM];refine zTG rfl rfl ?_;refine ae rfl rfl (⟨rfl,a0.trans a8⟩)
   |false=>
    have hM:ek kn q=0:=by unfold ek;rw[hn,hw,ha];rfl
    rw[hM];refine zFG rfl rfl ?_;refine ae rfl rfl (⟨rfl,a0.trans a8⟩)
end
section
variable{kn:Kn}
theorem DF:cD GM 218 #[(0,1),(1,3)]:=⟨_,underlying218,fun w=>by kernel_rfl⟩
inductive ML where
 |ok (m:List UInt8×Nd)
 |bad (p:Nat) (e:Int)
def Fz(nm r2:List UInt8):XR->ML
 |.ok t=>.ok (nm,t)
 |.bad p e=>.bad (r2.length-1-p) e
def rq(kn:Kn)(r:List UInt8):ML:=
 if(ak r).takeWhile ai=[]then .bad (ak r).length 4
 else if ek kn ((ak r).takeWhile ai)≠0 then .bad (ak r).length (ek kn ((ak r).takeWhile ai))
 else if(ak ((ak r).dropWhile ai)).headD 0=61 then Fz ((ak r).takeWhile ai) (ak ((ak r).dropWhile ai)) (eB kn (ak ((ak r).dropWhile ai)).tail)
 else .bad (ak ((ak r).dropWhile ai)).length 4
def FP(O:Nat->Nat)(w:G6)(jm:Nat)(m:Nat)(v:ix)(bad e:Int)(kn:Kn):ML->Prop
 |.ok x=>e=0/\Mac O w jm v (kn++[x])
 |.bad p e'=>e=e'/\e'≠0/\bad=(m:Int)-(p:Int)
def atX:XR->Int
 |.ok _=>0
 |.bad p _=>(p:Int)
def FD:XR->Int
 |.ok _=>0
 |.bad _ e=>e
theorem PostX.shape{O:Nat->Nat}{w:G6}{v:ix}{M:XR}(h:PostX O w v M):∃x:N3,v=.tuple #[nv x,nI (atX M),nI (FD M)]/\x.2.2.oneCell'=true/\∀t,M=.ok t->Nt O w t x:=by
 cases M with
 |ok t=>obtain⟨x,rfl,hn⟩:=h;exact⟨x,rfl,hn.one,fun t e=>by cases e;exact hn⟩
 |bad p e=>obtain⟨rfl,_⟩:=h;exact⟨(0,0,nS),rfl,rfl,fun t e=>by cases e⟩
theorem jP{m:M3}(h:m.2.2.2.oneCell'=true):∀c∈ke m,c.oneCell'=true:=fun c hc=>by
 simp only[ke,Gv,Gu,or_false]at hc
 rcases hc with rfl|rfl|rfl|rfl
 ·rfl
 ·rfl
 ·rfl
 exact h
theorem vw{O:Nat->Nat}{w:G6}{i:Nat}{v:ix}{ms:List M3}{nm:List UInt8}{x:N3}{t:Nd}(hr:Iy ke 218 4 O w i v (ms++[(nm,x)]))(hl:kn.length=ms.length)(hk:∀q,q<ms.length->(nth kn q).1=(nth ms q).1/\Nt O w (nth kn q).2 (nth ms q).2)(hn:Nt O w t x):Mac O w i v (kn++[(nm,t)]):=by
 refine⟨_,hr,by simp[hl],fun q hq=>?_⟩;simp only[ln,G0]at hq
 by_cases e:q<ms.length
 ·rw[aB (by simp;omega),aB (by simp;omega),Jv zo,Jv e,<-aB zo,<-aB e];exact hk q e
 obtain rfl:q=ms.length:=zo;rw[aB (by simp;omega),aB (by simp),Jr zo,Jr zo];simp[hl];exact hn
theorem yW(B:Nat)(O:Nat → Nat)(w:G6)(j jm rb:Nat)(s:LS)(m:Nat)(r:List UInt8)(hR:Io B O w)(hj:j ≠ 0)(hjm:jm ≠ 0)(hne:j ≠ jm)(hm:m ≤ s.l.length)(hl:s.l.length ≤ 100000)(hto:s.to = (m:Int))(he:s.e = 0)
  (hr:r <:+ s.l.take m) (hp:s.pos = (m:Int) - (r.length:Int)) (hkl:kn.length ≤ 100000) (hmac:Mac O w jm s.mc kn) (h:KC O w j rb s) :
  IS GM 105 [nP rb] w fun _ w' => ∃O' v pos bad e, GE (fun k => k = j ∨ k = jm) O w O' w' ∧ Io B O' w' ∧ KC O' w' j rb {s with pos := pos, bad := bad, e := e, mc := v} ∧ FP O' w' jm m v bad e kn (rq kn r) := by
 obtain⟨T0, hT00, hT01⟩ := hR.bound
 obtain⟨T, hT0, hjmT, hT⟩:∃T, 0 < T ∧ jm < T ∧ ∀b, O b < T := ⟨T0 + jm + 1, by omega, by omega, fun b => by have := hT01 b; omega⟩
 clear hT00 hT01 T0
 have hjT:j < T := by rw[← h.tag]; exact hT rb
 have hz2:¬(fun q:Nat => q = j ∨ q = jm) 0 := fun e => by rcases e with e | e; exact hj e.symm; exact hjm e.symm
 have hz3:¬(fun q:Nat => q = j ∨ q = jm ∨ T ≤ q) 0 := fun e => by rcases e with e | e | e; exact hj e.symm; exact hjm e.symm; omega
 have hpv:∀ {O':Nat → Nat} {w':G6}, GE (fun q => q = j ∨ q = jm ∨ T ≤ q) O w O' w' → GE (fun q => q = j ∨ q = jm) O w O w' := fun hU => hU.fgt (S' := fun q => q = j ∨ q = jm) (fun b hb => by rcases hb with hb | hb | hb; exact K2 hb; exact K1 hb; have := hT b; omega) hz2
 have hLl:(s.l.take m).length = m := by simp; omega
 refine G8 func105 ntmps105 rfl rfl ?_
 refine G9 ?_
 refine G2 ?_
 refine zv (G1 rfl) ?_
 refine zv (aq rfl) ?_
 refine zv (RV.fa rfl) ?_
 refine zc KA (dq O w j rb s m r hj hm hl hto hr hp h) ?_
 rintro v w1 ⟨rfl, hb1, hU1⟩
 have hs1 := (aT r).trans hr
 have hm1 := hmac.upd hU1 hjm (fun e => hne e.symm)
 have hR1 := hR.upd hU1
 refine G4 ?_
 refine ax ?_
 refine G9 ?_
 refine G2 ?_
 refine zv (G1 rfl) ?_
 refine zv (aq rfl) ?_
 refine zv (RV.fa rfl) ?_
 refine zv (RV.fa rfl) ?_
 refine zv (RV.ld hb1.q1 rfl) ?_
 refine zv (Gp rfl) ?_
 refine G4 ?_
 refine ax ?_
 refine G9 ?_
 refine G2 ?_
 refine zv (G1 rfl) ?_
 refine zv (aq rfl) ?_
 refine zv (RV.fa rfl) ?_
 refine zc L7 (gq O w1 j rb ({s with pos := (m:Int) - ((ak r).length:Int)}:LS) m (ak r) hj hm hl hto hs1 rfl hb1) ?_
 rintro v w2 ⟨rfl, hb2, hU2⟩
 have hs2 := (Ib ai).trans hs1
 have hm2 := hm1.upd hU2 hjm (fun e => hne e.symm)
 have hR2 := hR1.upd hU2
 have hUt2 := (hU1.trans hU2).mono (S' := fun q => q = j ∨ q = jm ∨ T ≤ q) (fun _ h => .inl h) hz3
 refine zv (Gp rfl) ?_
 refine G4 ?_
 refine ax ?_
 refine G9 ?_
 refine G9 ?_
 refine G2 ?_
 refine zv (G1 rfl) ?_
 refine zv (bU rfl rfl) ?_
 refine G4 ?_
 refine ax ?_
 by_cases hnm:(ak r).takeWhile ai = []
 ·have hM:rq kn r = .bad (ak r).length 4 := by unfold rq; rw[if_pos hnm]
  rw[hM]
  refine aS rfl ((by rw[hnm]; rfl)) ?_
  refine G9 ?_
  refine G2 ?_
  refine zv (G1 rfl) ?_
  refine zv (aq rfl) ?_
  refine zv (RV.fa rfl) ?_
  refine zv (G1 rfl) ?_
  refine zc Ie (bq O w2 j rb ({s with pos := (m:Int) - (((ak r).dropWhile ai).length:Int)}:LS) ((m:Int) - ((ak r).length:Int)) 4 hj he hb2) ?_
  rintro u w3 ⟨hb3, hU3⟩
  refine G4 ?_
  refine ax ?_
  refine Jh ?_
  refine dP ?_
  exact cj rfl ⟨O, s.mc, _, _, _, hpv (hUt2.trans (hU3.mono (fun _ h => .inl h) hz3)), hR2.upd hU3, hb3, rfl, by decide, rfl⟩
 ·skip
  refine aX rfl ((by simpa using hnm)) ?_
  refine IK ?_
  refine ax ?_
  refine G9 ?_
  refine G9 ?_
  refine G2 ?_
  refine zv (G1 rfl) ?_
  refine zv (G1 rfl) ?_
  refine zc call131 (xT O w2 j jm rb ({s with pos := (m:Int) - (((ak r).dropWhile ai).length:Int)}:LS) ((ak r).takeWhile ai) hm2 hb2) ?_
  rintro v w3 ⟨rfl, hE3⟩
  have hX3:GE (fun _ => False) O w2 O w3 := aa (fun h => h) O hE3
  have hb3 := hb2.upd hX3 hj (fun h => h)
  have hm3 := hm2.upd hX3 hjm (fun h => h)
  have hR3 := hR2.upd hX3
  have hUt3 := hUt2.trans (hX3.mono (fun _ h => h.elim) hz3)
  refine zv (Gp rfl) ?_
  refine G4 ?_
  refine ax ?_
  refine G9 ?_
  refine G2 ?_
  refine zv (G1 rfl) ?_
  refine zv (KY rfl rfl) ?_
  refine G4 ?_
  refine ax ?_
  by_cases htk:ek kn ((ak r).takeWhile ai) = 0
  ·skip
   refine aX rfl ((by rw[htk]; rfl)) ?_
   have hMK:rq kn r = if(ak ((ak r).dropWhile ai)).headD 0 = 61 then Fz ((ak r).takeWhile ai) (ak ((ak r).dropWhile ai)) (eB kn (ak ((ak r).dropWhile ai)).tail)else .bad (ak ((ak r).dropWhile ai)).length 4 := by unfold rq; rw[if_neg hnm, if_neg (by rw[htk]; simp)]
   generalize (ak r).takeWhile ai = nm at *
   generalize (ak r).dropWhile ai = q at *
   have hs5 := (aT q).trans hs2
   have hbd := hb3.drew
   have hmd := hm3.upd (aa (S := fun _ => False) (fun h => h) O (Gt w3).drew) hjm (fun h => h)
   have hRd := hR3.drew
   have hUd := hUt3.drew
   refine IK ?_
   refine ax ?_
   refine G9 ?_
   refine G9 ?_
   refine aK (fun V => V.cell? ⟨rb, 0, none⟩ = some (.string (bs s.l))) 19 rfl (by kernel_rfl) ?_
   refine zrm 0 rfl hbd.q0 rfl ?_
   refine zr 1 rfl hbd.q0 (fun _ => aq rfl) ?_
   refine zrf 2 rfl hbd.q0 rfl ?_
   refine Gs 3 (by kernel_rfl) rfl ?_
   refine zc KA (dq O w3.drew j rb ({s with pos := (m:Int) - (q.length:Int)}:LS) m q hj hm hl hto hs2 rfl hbd) ?_
   rintro v w5 ⟨rfl, hb5, hU5⟩
   have hm5 := hmd.upd hU5 hjm (fun e => hne e.symm)
   have hR5 := hRd.upd hU5
   have hUt5 := hUd.trans (hU5.mono (fun _ h => .inl h) hz3)
   generalize ak q = r2 at *
   have hr2l := hs5.length_le
   rw[hLl]at hr2l
   have hb5':Jg O w5 j rb ({s with pos := (m:Int) - (r2.length:Int)}:LS).cells 148 := hb5
   clear hb5
   have hb5 := hb5'
   refine G4 ?_
   refine zaf (hb5.q0) fun zS => ?_
   refine zr 4 rfl zS (fun _ => RV.not rfl) ?_
   refine zrm 5 rfl zS rfl ?_
   by_cases hr0:r2.length = 0
   ·have hrn:r2 = [] := Ih hr0
    have hM:rq kn r = .bad r2.length 4 := by rw[hMK, if_neg (by rw[hrn]; decide)]
    rw[hM]
    refine kO (d := 44) rfl (b' := true) ((by rw[decide_eq_false (by omega)]; rfl)) ?_
    have hbe := hb5.drew
    refine zin (hb5.q0) fun zS => ?_
    refine zte 6 rfl rfl zS ?_
    refine zte 7 rfl rfl zS ?_
    refine zte 8 rfl rfl zS ?_
    refine zte 9 rfl rfl zS ?_
    refine zte 10 rfl rfl zS ?_
    refine zte 11 rfl rfl zS ?_
    refine zte 12 rfl rfl zS ?_
    refine zte 13 rfl rfl zS ?_
    refine zte 14 rfl rfl zS ?_
    refine zte 15 rfl rfl zS ?_
    refine zte 16 rfl rfl zS ?_
    refine zte 17 rfl rfl zS ?_
    refine zr 18 rfl zS (fun _ => bT rfl rfl) ?_
    refine Ia (by kernel_rfl) ?_
    refine ax ?_
    refine aS rfl rfl ?_
    refine G9 ?_
    refine IV 8 rfl rfl (by kernel_rfl) (by kernel_rfl) ?_
    refine zw (G1 rfl) ?_
    refine zw (aq rfl) ?_
    refine zw (RV.fa rfl) ?_
    refine zw (G1 rfl) ?_
    refine zw (aq rfl) ?_
    refine zw (RV.fa rfl) ?_
    refine zw (RV.fa rfl) ?_
    refine zw (RV.ld hbe.q1 rfl) ?_
    refine JA ?_
    refine zc Ie (bq O w5.drew j rb ({s with pos := (m:Int) - (r2.length:Int)}:LS) ((m:Int) - (r2.length:Int)) 4 hj he hbe) ?_
    rintro u w6 ⟨hb6, hU6⟩
    refine G4 ?_
    refine ax ?_
    refine Jh ?_
    refine dP ?_
    exact cj rfl ⟨O, s.mc, _, _, _, hpv ((hUt5.drew).trans (hU6.mono (fun _ h => .inl h) hz3)), hR5.drew.upd hU6, hb6, rfl, by decide, rfl⟩
   ·have hrn:r2 ≠ [] := fun e => hr0 (by rw[e]; rfl)
    have hgh := lG (uR hs5 hrn)
    rw[hLl]at hgh
    refine kO (d := 44) rfl (b' := false) ((by rw[decide_eq_true (by omega)]; rfl)) ?_
    refine zin (hb5.q0) fun zS => ?_
    refine zro 6 rfl zS (fun _ => G1 rfl) ?_
    refine zro 7 rfl zS (fun _ => aq rfl) ?_
    refine zro 8 rfl zS (fun _ => RV.fa rfl) ?_
    refine zro 9 rfl zS (fun _ => RV.fa rfl) ?_
    refine zto 10 rfl zS (fun w1 hw1 => RV.ld hw1 rfl) ?_
    refine zro 11 rfl zS (fun _ => G1 rfl) ?_
    refine zro 12 rfl zS (fun _ => aq rfl) ?_
    refine zro 13 rfl zS (fun _ => RV.fa rfl) ?_
    refine zro 14 rfl zS (fun _ => RV.fa rfl) ?_
    refine Gs 15 (by kernel_rfl) rfl ?_
    refine DV rfl ?_
    refine zv (RV.ld hb5.q1 rfl) ?_
    refine G4 ?_
    refine zaf (hb5.q0) fun zS => ?_
    refine zro 16 rfl zS (fun _ => aY (c := r2.headD 0) J0 rfl rfl (m - r2.length) (by dsimp only; omega) hgh) ?_
    refine zro 17 rfl zS (fun _ => KY rfl rfl) ?_
    refine zr 18 rfl zS (fun _ => bF rfl rfl) ?_
    refine Ia (by kernel_rfl) ?_
    refine ax ?_
    by_cases hc:r2.headD 0 = 61
    ·have hMX:rq kn r = Fz nm r2 (eB kn r2.tail) := by rw[hMK, if_pos hc]
     obtain⟨k1, k2⟩ := bN (r := r2) (by rw[hc]; decide)
     have hts := k1.trans hs5
     refine aX rfl ((by rw[hc]; rfl)) ?_
     have hbe := hb5.drew
     have hme := hm5.upd (aa (S := fun _ => False) (fun h => h) O (Gt w5).drew) hjm (fun h => h)
     have hRe := hR5.drew
     have hUe := hUt5.drew
     have hseg:(s.l.take m).drop (m - r2.tail.length) = r2.tail := by have := BQ hts; rwa[hLl]at this
     have hgX := uX (kn := kn) r2.tail
     generalize hMd:eB kn r2.tail = M at *
     refine IK ?_
     refine ax ?_
     refine G9 ?_
     refine mS (fun z:(Nat → Nat)×World×Nat×N3 => [(0, nP rb), (3, .string (bs nm)), (5, .pointer (some ⟨z.2.2.1, 0, none⟩)), (6, nI (atX M)), (7, nI (FD M))]) (fun z:(Nat → Nat)×World×Nat×N3 => z.2.1) (fun z:(Nat → Nat)×World×Nat×N3 => Jg z.1 z.2.1 T z.2.2.1 #[nI z.2.2.2.1, nI z.2.2.2.2.1, z.2.2.2.2.2] 86 ∧ KC z.1 z.2.1 j rb {s with pos := (m:Int) - (r2.length:Int)} ∧ Mac z.1 z.2.1 jm s.mc kn ∧ GE (fun q => q = j ∨ q = jm ∨ T ≤ q) O w z.1 z.2.1 ∧ Io B z.1 z.2.1 ∧ z.2.2.2.2.2.oneCell' = true ∧ ∀t, M = .ok t → Nt z.1 z.2.1 t z.2.2.2) ?_ ?_
     ·intro hN
      refine aK (fun V => V.cell? ⟨rb, 0, none⟩ = some (.string (bs s.l)) ∧ V.cell? ⟨rb, 1, none⟩ = some (nI ((m:Int) - (r2.length:Int))) ∧ V.cell? ⟨rb, 2, none⟩ = some (nI s.to) ∧ V.cell? ⟨rb, 9, none⟩ = some s.mc) 30 rfl (by kernel_rfl) ?_
      refine zin ⟨hbe.q0, hbe.q1, hbe.q2, hbe.q9⟩ fun zS => ?_
      refine zrm 0 rfl zS rfl ?_
      refine zr 1 rfl zS (fun _ => aq rfl) ?_
      refine zrf 2 rfl zS rfl ?_
      refine zrf 3 rfl zS rfl ?_
      refine zt 4 rfl zS (fun w1 hw1 => RV.ld hw1.1 rfl) ?_
      refine zrm 5 rfl zS rfl ?_
      refine zr 6 rfl zS (fun _ => aq rfl) ?_
      refine zrf 7 rfl zS rfl ?_
      refine zrf 8 rfl zS rfl ?_
      refine zt 9 rfl zS (fun w1 hw1 => RV.ld hw1.2.1 rfl) ?_
      refine zr 10 rfl zS (fun _ => Ji rfl rfl (I8 (by omega))) ?_
      refine zrm 11 rfl zS rfl ?_
      refine zr 12 rfl zS (fun _ => aq rfl) ?_
      refine zrf 13 rfl zS rfl ?_
      refine zrf 14 rfl zS rfl ?_
      refine zt 15 rfl zS (fun w1 hw1 => RV.ld hw1.2.2.1 rfl) ?_
      refine zr 16 rfl zS (fun _ => cJ J0 rfl rfl rfl (m - r2.tail.length) m (by omega) hto (by omega) hm) ?_
      refine zrm 17 rfl zS rfl ?_
      refine zr 18 rfl zS (fun _ => aq rfl) ?_
      refine zrf 19 rfl zS rfl ?_
      refine zt 20 rfl zS (fun w1 hw1 => RV.ld hw1.2.2.2 rfl) ?_
      rw[hseg]
      refine bL 21 26 (by kernel_rfl) rfl rfl ?_ ?_
      ·skip
       refine zc call132 (ku s.mc r2.tail B O (forget jm O) w5.drew hRe hRe.forget (hme.known hjm hRe)) ?_
       rintro v w6 ⟨hE6, hP6⟩
       rw[hMd]at hP6
       obtain⟨x, rfl, hxo, hxn⟩ := hP6.shape
       have hX6:GE (fun _ => False) O w5.drew O w6 := aa (fun h => h) O hE6
       have hb6 := hbe.upd hX6 hj (fun h => h)
       have hm6 := hme.upd hX6 hjm (fun h => h)
       have hR6 := hRe.upd hX6
       have hU6 := hUe.trans (hX6.mono (fun _ h => h.elim) hz3)
       refine G4 ?_
       refine zaf (⟨hb6.q0, hb6.q1, hb6.q2, hb6.q9⟩) fun zS => ?_
       refine zrm 22 rfl zS rfl ?_
       refine zr 23 rfl zS (fun _ => IL rfl rfl) ?_
       refine zr 24 rfl zS (fun _ => IL rfl rfl) ?_
       refine zr 25 rfl zS (fun _ => IL rfl rfl) ?_
       refine Gs 26 (by kernel_rfl) rfl ?_
       refine ar hR6 T (by omega) (Lk _) rfl ?_
       intro nb w7 O7 hn7 hX7 hR7 hE7
       have hb7 := hb6.upd hX7 hj (by omega)
       have hm7 := hm6.upd hX7 hjm (by omega)
       have hU7 := hU6.trans (hX7.mono (fun _ h => .inr (.inr (J9 h.symm))) hz3)
       refine G4 ?_
       refine af (⟨hb7.q0, hb7.q1, hb7.q2, hb7.q9⟩) ?_
       refine Gs 27 (by kernel_rfl) rfl ?_
       refine zsb (us := #[nI x.1, nI x.2.1, x.2.2]) hn7 (Jl _) (bR hxo) ?_
       have hnz := IQ (us := #[nI x.1, nI x.2.1, x.2.2]) hn7
       have hXz:GE (fun q => q = T) O7 w7 O7 (J2 w7 nb #[nI x.1, nI x.2.1, x.2.2]) := Gw (by omega) (L1 hn7) rfl
       have hbz := GJ hb7 hXz hj (by omega)
       refine G4 ?_
       refine zaf (⟨hbz.q0, hbz.q1, hbz.q2, hbz.q9⟩) fun zS => ?_
       refine zra 28 rfl zS rfl ?_
       refine zra 29 rfl zS rfl ?_
       refine Ia (by kernel_rfl) ?_
       exact gh (hN ((O7, J2 w7 nb #[nI x.1, nI x.2.1, x.2.2], nb, x)) (⟨hnz, hbz, Lo hm7 hXz hjm (by omega), GH hU7 (hXz.mono (fun _ h => .inr (.inr (J9 h.symm))) hz3), JB hR7 hXz, hxo, fun t e => Nt.upd ((fun t e => (hxn t e).upd hX7) t e) hXz⟩)) ⟨rfl, rfl, rfl, rfl, rfl, trivial⟩ rfl
      ·skip
       refine ar hRe T (by omega) (Lk _) rfl ?_
       intro nb w6 O6 hn6 hX6 hR6 hE6
       have hb6 := hbe.upd hX6 hj (by omega)
       have hm6 := hme.upd hX6 hjm (by omega)
       have hU6 := hUe.trans (hX6.mono (fun _ h => .inr (.inr (J9 h.symm))) hz3)
       refine G4 ?_
       refine af (⟨hb6.q0, hb6.q1, hb6.q2, hb6.q9⟩) ?_
       refine Gs 21 (by kernel_rfl) rfl ?_
       refine zc call132 (ku s.mc r2.tail B O6 (forget jm O6) w6 hR6 hR6.forget (hm6.known hjm hR6)) ?_
       rintro v w7 ⟨hE7, hP7⟩
       rw[hMd]at hP7
       obtain⟨x, rfl, hxo, hxn⟩ := hP7.shape
       have hX7:GE (fun _ => False) O6 w6 O6 w7 := aa (fun h => h) O6 hE7
       have hn7 := hn6.upd hX7 (by omega) (fun h => h)
       have hb7 := hb6.upd hX7 hj (fun h => h)
       have hm7 := hm6.upd hX7 hjm (fun h => h)
       have hR7 := hR6.upd hX7
       have hU7 := hU6.trans (hX7.mono (fun _ h => h.elim) hz3)
       refine G4 ?_
       refine zaf (⟨hb7.q0, hb7.q1, hb7.q2, hb7.q9⟩) fun zS => ?_
       refine zrm 22 rfl zS rfl ?_
       refine zr 23 rfl zS (fun _ => IL rfl rfl) ?_
       refine zr 24 rfl zS (fun _ => IL rfl rfl) ?_
       refine zr 25 rfl zS (fun _ => IL rfl rfl) ?_
       refine Gs 27 (by kernel_rfl) rfl ?_
       refine zsb (us := #[nI x.1, nI x.2.1, x.2.2]) hn7 (Jl _) (bR hxo) ?_
       have hnz := IQ (us := #[nI x.1, nI x.2.1, x.2.2]) hn7
       have hXz:GE (fun q => q = T) O6 w7 O6 (J2 w7 nb #[nI x.1, nI x.2.1, x.2.2]) := Gw (by omega) (L1 hn7) rfl
       have hbz := GJ hb7 hXz hj (by omega)
       refine G4 ?_
       refine zaf (⟨hbz.q0, hbz.q1, hbz.q2, hbz.q9⟩) fun zS => ?_
       refine zra 28 rfl zS rfl ?_
       refine zra 29 rfl zS rfl ?_
       refine Ia (by kernel_rfl) ?_
       exact gh (hN ((O6, J2 w7 nb #[nI x.1, nI x.2.1, x.2.2], nb, x)) (⟨hnz, hbz, Lo hm7 hXz hjm (by omega), GH hU7 (hXz.mono (fun _ h => .inr (.inr (J9 h.symm))) hz3), JB hR7 hXz, hxo, fun t e => Nt.upd (hxn t e) hXz⟩)) ⟨rfl, rfl, rfl, rfl, rfl, trivial⟩ rfl
     ·rintro⟨O8, w8, nb, x⟩ ⟨hn8, hb8, hm8, hU8, hR8, hxo, hxn⟩
      dsimp only at hn8 hb8 hm8 hU8 hR8 hxo hxn ⊢
      refine ax ?_
      refine G9 ?_
      refine G9 ?_
      refine G2 ?_
      refine zv (G1 rfl) ?_
      refine zv (KY rfl rfl) ?_
      refine G4 ?_
      refine ax ?_
      cases M with
      |ok t =>
       rw[hMX]
       refine aX rfl rfl ?_
       have hnt := hxn t rfl
       obtain⟨ms, hrow, hkl2, hke⟩ := hm8
       have hrowD := KU hrow
       have hRD := La hR8
       have hbD := Jz hb8
       have hnD := Jz hn8
       have hUD := L9 hU8
       refine IK ?_
       refine ax ?_
       refine aK (fun V => ∀(q:Nat) (u:ix), (bn x)[q]? = some u → V.cell? (nA nb q) = some u) 13 rfl (by kernel_rfl) ?_
       refine zin hnD.cellsAdd fun zS => ?_
       refine zrm 0 rfl zS rfl ?_
       refine zrm 1 rfl zS rfl ?_
       refine zr 2 rfl zS (fun _ => aq rfl) ?_
       refine zrf 3 rfl zS rfl ?_
       refine zrm 5 rfl zS rfl ?_
       refine zt 6 rfl zS (fun w1 hw1 => ah (us := bn x) hw1 (Kw _) (Jl _) rfl) ?_
       refine zr 7 rfl zS (fun _ => GV (vs := [(0, .string (bs nm)), (1, nv x)]) (cells := (ke (nm, x)).toArray) DF (L3 _) rfl (by kernel_rfl)) ?_
       refine bL 4 8 (by kernel_rfl) rfl rfl ?_ ?_
       ·skip
        refine zv (RV.ld hbD.q9 rfl) ?_
        refine G4 ?_
        refine af hnD.cellsAdd ?_
        refine Gs 8 (by kernel_rfl) rfl ?_
        refine aM elM (enc := ke) (nm, x) rfl rfl rfl (by decide) rfl ?_
        intro w9 h9 hE9
        have hX9:GE (fun _ => False) O8 (Jm w8) O8 w9 := aa (fun h => h) O8 hE9
        have hb9 := hbD.upd hX9 hj (fun h => h)
        have hn9 := hnD.upd hX9 (by omega) (fun h => h)
        have hrow9 := hrowD.upd hX9 hjm (fun h => h)
        have hR9 := hRD.upd hX9
        have hU9 := hUD.trans (hX9.mono (fun _ h => h.elim) hz3)
        refine G4 ?_
        refine af hn9.cellsAdd ?_
        have hone9:∀u ∈ [((nm, x):M3)], ∀c ∈ ke u, c.oneCell' = true := fun u hu => by
         rw[G7.1 hu]; exact jP hxo
        refine Gs 9 (by kernel_rfl) rfl ?_
        refine aC elM hrow9 hR9 h9 (by simp) rfl rfl (fun _ _ => rfl) hone9 (by simp; omega) (by simp; omega) (by omega) rfl ?_
        intro lv10 w10 O10 hrow10 hX10 hR10
        have hb10 := GJ hb9 hX10 hj (by omega)
        have hn10 := GJ hn9 hX10 (by omega) (by omega)
        have hl10 := hrow10.one
        have hU10 := hU9.trans (hX10.mono (fun _ h => .inr (.inl h)) hz3)
        refine G4 ?_
        refine zaf (hn10.cellsAdd) fun zS => ?_
        refine zr 10 rfl zS (fun _ => aq rfl) ?_
        refine zrf 11 rfl zS rfl ?_
        refine Gs 12 (by kernel_rfl) rfl ?_
        refine aj (j := 9) hb10 rfl (JN _) hl10 rfl rfl rfl ?_
        have hX11:GE (fun q => q = j) O10 w10 O10 (GO w10 ⟨rb, 9, none⟩ lv10) := GL (fun e => hj e.symm) hb10.tag rfl
        have hb11:Jg O10 (GO w10 ⟨rb, 9, none⟩ lv10) j rb ({({s with pos := (m:Int) - (r2.length:Int)}:LS)with mc := lv10}:LS).cells 148 := hb10.set 9 lv10
        have hn11 := hn10.upd hX11 (by omega) (by omega)
        have hrow11 := hrow10.upd hX11 hjm (fun e => hne e.symm)
        have hU11 := hU10.trans (hX11.mono (fun _ h => .inl h) hz3)
        have hR11 := hR10.upd hX11
        refine G4 ?_
        refine af (hn11.cellsAdd) ?_
        refine Ia (by kernel_rfl) ?_
        have hUz := JK hU11 hT (S' := fun q => q = j ∨ q = jm) (fun b hb => by rcases hb with hb | hb | hb; exact K2 hb; exact K1 hb; have := hT b; omega) hz2
        exact aE rfl ⟨lowT O10 T, lv10, _, _, _, hUz, hR11.lowT T, hb11.lowT hjT, he, vw (hrow11.lowT hjmT) hkl2 (fun q hq => ⟨(hke q hq).1, (((((hke q hq).2.drew).upd hX9).upd hX10).upd hX11).weak (fun b hb => jD hb)⟩) (((((hnt.drew).upd hX9).upd hX10).upd hX11).weak (fun b hb => jD hb))⟩
       ·skip
        refine aM elM (enc := ke) (nm, x) rfl rfl rfl (by decide) rfl ?_
        intro w9 h9 hE9
        have hX9:GE (fun _ => False) O8 (Jm w8) O8 w9 := aa (fun h => h) O8 hE9
        have hb9 := hbD.upd hX9 hj (fun h => h)
        have hn9 := hnD.upd hX9 (by omega) (fun h => h)
        have hrow9 := hrowD.upd hX9 hjm (fun h => h)
        have hR9 := hRD.upd hX9
        have hU9 := hUD.trans (hX9.mono (fun _ h => h.elim) hz3)
        refine G4 ?_
        refine af hn9.cellsAdd ?_
        refine Gs 4 (by kernel_rfl) rfl ?_
        refine zv (RV.ld hb9.q9 rfl) ?_
        refine G4 ?_
        refine af hn9.cellsAdd ?_
        have hone9:∀u ∈ [((nm, x):M3)], ∀c ∈ ke u, c.oneCell' = true := fun u hu => by
         rw[G7.1 hu]; exact jP hxo
        refine Gs 9 (by kernel_rfl) rfl ?_
        refine aC elM hrow9 hR9 h9 (by simp) rfl rfl (fun _ _ => rfl) hone9 (by simp; omega) (by simp; omega) (by omega) rfl ?_
        intro lv10 w10 O10 hrow10 hX10 hR10
        have hb10 := GJ hb9 hX10 hj (by omega)
        have hn10 := GJ hn9 hX10 (by omega) (by omega)
        have hl10 := hrow10.one
        have hU10 := hU9.trans (hX10.mono (fun _ h => .inr (.inl h)) hz3)
        refine G4 ?_
        refine zaf (hn10.cellsAdd) fun zS => ?_
        refine zr 10 rfl zS (fun _ => aq rfl) ?_
        refine zrf 11 rfl zS rfl ?_
        refine Gs 12 (by kernel_rfl) rfl ?_
        refine aj (j := 9) hb10 rfl (JN _) hl10 rfl rfl rfl ?_
        have hX11:GE (fun q => q = j) O10 w10 O10 (GO w10 ⟨rb, 9, none⟩ lv10) := GL (fun e => hj e.symm) hb10.tag rfl
        have hb11:Jg O10 (GO w10 ⟨rb, 9, none⟩ lv10) j rb ({({s with pos := (m:Int) - (r2.length:Int)}:LS)with mc := lv10}:LS).cells 148 := hb10.set 9 lv10
        have hn11 := hn10.upd hX11 (by omega) (by omega)
        have hrow11 := hrow10.upd hX11 hjm (fun e => hne e.symm)
        have hU11 := hU10.trans (hX11.mono (fun _ h => .inl h) hz3)
        have hR11 := hR10.upd hX11
        refine G4 ?_
        refine af (hn11.cellsAdd) ?_
        refine Ia (by kernel_rfl) ?_
        have hUz := JK hU11 hT (S' := fun q => q = j ∨ q = jm) (fun b hb => by rcases hb with hb | hb | hb; exact K2 hb; exact K1 hb; have := hT b; omega) hz2
        exact aE rfl ⟨lowT O10 T, lv10, _, _, _, hUz, hR11.lowT T, hb11.lowT hjT, he, vw (hrow11.lowT hjmT) hkl2 (fun q hq => ⟨(hke q hq).1, (((((hke q hq).2.drew).upd hX9).upd hX10).upd hX11).weak (fun b hb => jD hb)⟩) (((((hnt.drew).upd hX9).upd hX10).upd hX11).weak (fun b hb => jD hb))⟩
      |bad p e =>
       have hne7 := (hgX p e rfl).1
       have hple := (hgX p e rfl).2
       rw[hMX]
       refine aS rfl ((by simpa[FD]using hne7)) ?_
       have hb8d := hb8.drew
       have hn8d := hn8.drew
       have hm8d := hm8.upd (aa (S := fun _ => False) (fun h => h) O8 (Gt w8).drew) hjm (fun h => h)
       refine IV 12 rfl rfl (by kernel_rfl) (by kernel_rfl) ?_
       refine zw (G1 rfl) ?_
       refine zw (aq rfl) ?_
       refine zw (RV.fa rfl) ?_
       refine zw (G1 rfl) ?_
       refine zw (aq rfl) ?_
       refine zw (RV.fa rfl) ?_
       refine zw (RV.fa rfl) ?_
       refine zw (RV.ld hb8d.q1 rfl) ?_
       refine zw (Ji rfl rfl (I8 (by dsimp only; omega))) ?_
       refine zw (G1 rfl) ?_
       refine zw (Ji rfl rfl (I8 (by dsimp only[atX]; omega))) ?_
       refine zw (G1 rfl) ?_
       refine JA ?_
       refine zc Ie (bq O8 w8.drew j rb ({s with pos := (m:Int) - (r2.length:Int)}:LS) (((m:Int) - (r2.length:Int)) + 1 + (p:Int)) e hj he hb8d) ?_
       rintro u wf ⟨hbf, hUf⟩
       have hnf' := hn8d.upd hUf (by omega) (by omega)
       have hmf' := hm8d.upd hUf hjm (fun e => hne e.symm)
       have hRf' := hR8.drew.upd hUf
       have hUf' := (hU8.drew).trans (hUf.mono (S' := fun q => q = j ∨ q = jm ∨ T ≤ q) (fun _ h => .inl h) hz3)
       have hbf':Jg O8 wf j rb ({s with pos := (m:Int) - (r2.length:Int), bad := ((m:Int) - (r2.length:Int)) + 1 + (p:Int), e := e}:LS).cells 148 := hbf
       clear hbf
       obtain⟨ms, hrow, hkl2, hke⟩ := hmf'
       have hrowD := KU hrow
       have hRD := La hRf'
       have hbD := Jz hbf'
       have hnD := Jz hnf'
       have hUD := L9 hUf'
       refine G4 ?_
       refine ax ?_
       refine aK (fun V => ∀(q:Nat) (u:ix), (bn x)[q]? = some u → V.cell? (nA nb q) = some u) 13 rfl (by kernel_rfl) ?_
       refine zin hnD.cellsAdd fun zS => ?_
       refine zrm 0 rfl zS rfl ?_
       refine zrm 1 rfl zS rfl ?_
       refine zr 2 rfl zS (fun _ => aq rfl) ?_
       refine zrf 3 rfl zS rfl ?_
       refine zrm 5 rfl zS rfl ?_
       refine zt 6 rfl zS (fun w1 hw1 => ah (us := bn x) hw1 (Kw _) (Jl _) rfl) ?_
       refine zr 7 rfl zS (fun _ => GV (vs := [(0, .string (bs nm)), (1, nv x)]) (cells := (ke (nm, x)).toArray) DF (L3 _) rfl (by kernel_rfl)) ?_
       refine bL 4 8 (by kernel_rfl) rfl rfl ?_ ?_
       ·skip
        refine zv (RV.ld hbD.q9 rfl) ?_
        refine G4 ?_
        refine af hnD.cellsAdd ?_
        refine Gs 8 (by kernel_rfl) rfl ?_
        refine aM elM (enc := ke) (nm, x) rfl rfl rfl (by decide) rfl ?_
        intro w9 h9 hE9
        have hX9:GE (fun _ => False) O8 (Jm wf) O8 w9 := aa (fun h => h) O8 hE9
        have hb9 := hbD.upd hX9 hj (fun h => h)
        have hn9 := hnD.upd hX9 (by omega) (fun h => h)
        have hrow9 := hrowD.upd hX9 hjm (fun h => h)
        have hR9 := hRD.upd hX9
        have hU9 := hUD.trans (hX9.mono (fun _ h => h.elim) hz3)
        refine G4 ?_
        refine af hn9.cellsAdd ?_
        have hone9:∀u ∈ [((nm, x):M3)], ∀c ∈ ke u, c.oneCell' = true := fun u hu => by
         rw[G7.1 hu]; exact jP hxo
        refine Gs 9 (by kernel_rfl) rfl ?_
        refine aC elM hrow9 hR9 h9 (by simp) rfl rfl (fun _ _ => rfl) hone9 (by simp; omega) (by simp; omega) (by omega) rfl ?_
        intro lv10 w10 O10 hrow10 hX10 hR10
        have hb10 := GJ hb9 hX10 hj (by omega)
        have hn10 := GJ hn9 hX10 (by omega) (by omega)
        have hl10 := hrow10.one
        have hU10 := hU9.trans (hX10.mono (fun _ h => .inr (.inl h)) hz3)
        refine G4 ?_
        refine zaf (hn10.cellsAdd) fun zS => ?_
        refine zr 10 rfl zS (fun _ => aq rfl) ?_
        refine zrf 11 rfl zS rfl ?_
        refine Gs 12 (by kernel_rfl) rfl ?_
        refine aj (j := 9) hb10 rfl (JN _) hl10 rfl rfl rfl ?_
        have hX11:GE (fun q => q = j) O10 w10 O10 (GO w10 ⟨rb, 9, none⟩ lv10) := GL (fun e => hj e.symm) hb10.tag rfl
        have hb11:Jg O10 (GO w10 ⟨rb, 9, none⟩ lv10) j rb ({({s with pos := (m:Int) - (r2.length:Int), bad := ((m:Int) - (r2.length:Int)) + 1 + (p:Int), e := e}:LS)with mc := lv10}:LS).cells 148 := hb10.set 9 lv10
        have hn11 := hn10.upd hX11 (by omega) (by omega)
        have hrow11 := hrow10.upd hX11 hjm (fun e => hne e.symm)
        have hU11 := hU10.trans (hX11.mono (fun _ h => .inl h) hz3)
        have hR11 := hR10.upd hX11
        refine G4 ?_
        refine af (hn11.cellsAdd) ?_
        refine Ia (by kernel_rfl) ?_
        have hUz := JK hU11 hT (S' := fun q => q = j ∨ q = jm) (fun b hb => by rcases hb with hb | hb | hb; exact K2 hb; exact K1 hb; have := hT b; omega) hz2
        exact aE rfl ⟨lowT O10 T, lv10, _, _, _, hUz, hR11.lowT T, hb11.lowT hjT, rfl, hne7, by dsimp only; omega⟩
       ·skip
        refine aM elM (enc := ke) (nm, x) rfl rfl rfl (by decide) rfl ?_
        intro w9 h9 hE9
        have hX9:GE (fun _ => False) O8 (Jm wf) O8 w9 := aa (fun h => h) O8 hE9
        have hb9 := hbD.upd hX9 hj (fun h => h)
        have hn9 := hnD.upd hX9 (by omega) (fun h => h)
        have hrow9 := hrowD.upd hX9 hjm (fun h => h)
        have hR9 := hRD.upd hX9
        have hU9 := hUD.trans (hX9.mono (fun _ h => h.elim) hz3)
        refine G4 ?_
        refine af hn9.cellsAdd ?_
        refine Gs 4 (by kernel_rfl) rfl ?_
        refine zv (RV.ld hb9.q9 rfl) ?_
        refine G4 ?_
        refine af hn9.cellsAdd ?_
        have hone9:∀u ∈ [((nm, x):M3)], ∀c ∈ ke u, c.oneCell' = true := fun u hu => by
         rw[G7.1 hu]; exact jP hxo
        refine Gs 9 (by kernel_rfl) rfl ?_
        refine aC elM hrow9 hR9 h9 (by simp) rfl rfl (fun _ _ => rfl) hone9 (by simp; omega) (by simp; omega) (by omega) rfl ?_
        intro lv10 w10 O10 hrow10 hX10 hR10
        have hb10 := GJ hb9 hX10 hj (by omega)
        have hn10 := GJ hn9 hX10 (by omega) (by omega)
        have hl10 := hrow10.one
        have hU10 := hU9.trans (hX10.mono (fun _ h => .inr (.inl h)) hz3)
        refine G4 ?_
        refine zaf (hn10.cellsAdd) fun zS => ?_
        refine zr 10 rfl zS (fun _ => aq rfl) ?_
        refine zrf 11 rfl zS rfl ?_
        refine Gs 12 (by kernel_rfl) rfl ?_
        refine aj (j := 9) hb10 rfl (JN _) hl10 rfl rfl rfl ?_
        have hX11:GE (fun q => q = j) O10 w10 O10 (GO w10 ⟨rb, 9, none⟩ lv10) := GL (fun e => hj e.symm) hb10.tag rfl
        have hb11:Jg O10 (GO w10 ⟨rb, 9, none⟩ lv10) j rb ({({s with pos := (m:Int) - (r2.length:Int), bad := ((m:Int) - (r2.length:Int)) + 1 + (p:Int), e := e}:LS)with mc := lv10}:LS).cells 148 := hb10.set 9 lv10
        have hn11 := hn10.upd hX11 (by omega) (by omega)
        have hrow11 := hrow10.upd hX11 hjm (fun e => hne e.symm)
        have hU11 := hU10.trans (hX11.mono (fun _ h => .inl h) hz3)
        have hR11 := hR10.upd hX11
        refine G4 ?_
        refine af (hn11.cellsAdd) ?_
        refine Ia (by kernel_rfl) ?_
        have hUz := JK hU11 hT (S' := fun q => q = j ∨ q = jm) (fun b hb => by rcases hb with hb | hb | hb; exact K2 hb; exact K1 hb; have := hT b; omega) hz2
        exact aE rfl ⟨lowT O10 T, lv10, _, _, _, hUz, hR11.lowT T, hb11.lowT hjT, rfl, hne7, by dsimp only; omega⟩
    ·have hM:rq kn r = .bad r2.length 4 := by rw[hMK, if_neg hc]
     rw[hM]
     refine aS rfl ((tO _ 61 (by decide) hc)) ?_
     have hbe := hb5.drew
     refine G9 ?_
     refine IV 8 rfl rfl (by kernel_rfl) (by kernel_rfl) ?_
     refine zw (G1 rfl) ?_
     refine zw (aq rfl) ?_
     refine zw (RV.fa rfl) ?_
     refine zw (G1 rfl) ?_
     refine zw (aq rfl) ?_
     refine zw (RV.fa rfl) ?_
     refine zw (RV.fa rfl) ?_
     refine zw (RV.ld hbe.q1 rfl) ?_
     refine JA ?_
     refine zc Ie (bq O w5.drew j rb ({s with pos := (m:Int) - (r2.length:Int)}:LS) ((m:Int) - (r2.length:Int)) 4 hj he hbe) ?_
     rintro u w6 ⟨hb6, hU6⟩
     refine G4 ?_
     refine ax ?_
     refine Jh ?_
     refine dP ?_
     exact cj rfl ⟨O, s.mc, _, _, _, hpv ((hUt5.drew).trans (hU6.mono (fun _ h => .inl h) hz3)), hR5.drew.upd hU6, hb6, rfl, by decide, rfl⟩
  ·have hM:rq kn r = .bad (ak r).length (ek kn ((ak r).takeWhile ai)) := by unfold rq; rw[if_neg hnm, if_pos htk]
   rw[hM]
   refine aS rfl ((by simpa using htk)) ?_
   refine G9 ?_
   refine G2 ?_
   refine zv (G1 rfl) ?_
   refine zv (aq rfl) ?_
   refine zv (RV.fa rfl) ?_
   refine zv (G1 rfl) ?_
   refine zv (G1 rfl) ?_
   refine zc Ie (bq O w3 j rb ({s with pos := (m:Int) - (((ak r).dropWhile ai).length:Int)}:LS) ((m:Int) - ((ak r).length:Int)) (ek kn ((ak r).takeWhile ai)) hj he hb3) ?_
   rintro u w4 ⟨hb4, hU4⟩
   refine G4 ?_
   refine ax ?_
   refine Jh ?_
   refine dP ?_
   exact cj rfl ⟨O, s.mc, _, _, _, hpv (hUt3.trans (hU4.mono (fun _ h => .inl h) hz3)), hR3.upd hU4, hb4, rfl, htk, rfl⟩
end
theorem F3:Lh GM 25 3 1 8:=⟨Ir,by kernel_rfl,zd⟩
inductive LM where
 |ok (l:List Int)
 |bad (p:Nat) (e:Int)
def gi:Nat->List Int->List UInt8->LM
 |0,acc,_=>.ok acc
 |n+1,acc,r=>
  if(ak r).length=0 then .ok acc
  else if(ak r).takeWhile ai=[]then .bad (ak r).length 4
  else match yI ((ak r).takeWhile ai)with
   |none=>.bad (ak r).length 5
   |some c=>gi n (acc++[(c:Int)]) ((ak r).dropWhile ai)
def Fy:LM->LM
 |.bad p e=>.bad p e
 |.ok []=>.bad 0 4
 |.ok (a::l)=>.ok (JM (gm (a::l)))
def cT(r:List UInt8):LM:=Fy (gi (r.length+1) [] r)
theorem qA{x:List UInt8}(h:x.takeWhile ai≠[]):(x.dropWhile ai).length<x.length:=by
 have:=congrArg KK (List.takeWhile_append_dropWhile (p:=ai) (l:=x));rw[ln]at this;have:=JL.2 h;omega
def D3(m:Nat)(w':G6)(O':Nat->Nat)(ji:Nat)(lv:ix)(bad e:Int):LM->Prop
 |.ok l=>e=0/\Iy encI 3 1 O' w' ji lv l
 |.bad p e'=>e=e'/\e'≠0/\bad=(m:Int)-(p:Int)
theorem oj(O:Nat->Nat)(w:G6)(j rb:Nat)(s:LS)(hj:j≠0)(he:s.e=0)(a0:s.i=true)(h:KC O w j rb s):
  IS GM 106 [nP rb,.pointer (some ⟨rb,6,none⟩),.pointer (some ⟨rb,10,none⟩)] w fun _ w'=>KC O w' j rb {s with bad:=s.bg,e:=11}/\GE (fun k=>k=j) O w O w':=by
 have q0:=h.q10;rw[a0]at q0;have q3:=h.q3;have hd:=h.drew;have a3:GE (fun k=>k=j) O w O w.drew:=(Ii (fun e=>hj e.symm) O w).drew;refine G8 Kx Ka rfl rfl ?_;refine zg ?_;refine zvG (RV.ld q0 rfl) ?_;refine zTG rfl rfl ?_;refine IV 8 rfl rfl zk zk ?_;refine zg ?_;refine zw (RV.ld q3 rfl) ?_;refine JA ?_;refine zc Ie (bq O w.drew j rb s s.bg 11 hj he hd) ?_;rintro u w1 ⟨a1,a2⟩;refine zg ?_;exact cj rfl ⟨a1,a3.trans a2⟩
theorem oi(O:Nat->Nat)(w:G6)(j rb:Nat)(s:LS)(hj:j≠0)(he:s.e=0)(a0:s.k=true)(h:KC O w j rb s):
  IS GM 106 [nP rb,.pointer (some ⟨rb,7,none⟩),.pointer (some ⟨rb,11,none⟩)] w fun _ w'=>KC O w' j rb {s with bad:=s.bg,e:=11}/\GE (fun k=>k=j) O w O w':=by
 have q0:=h.q11;rw[a0]at q0;have q3:=h.q3;have hd:=h.drew;have a3:GE (fun k=>k=j) O w O w.drew:=(Ii (fun e=>hj e.symm) O w).drew;refine G8 Kx Ka rfl rfl ?_;refine zg ?_;refine zvG (RV.ld q0 rfl) ?_;refine zTG rfl rfl ?_;refine IV 8 rfl rfl zk zk ?_;refine zg ?_;refine zw (RV.ld q3 rfl) ?_;refine JA ?_;refine zc Ie (bq O w.drew j rb s s.bg 11 hj he hd) ?_;rintro u w1 ⟨a1,a2⟩;refine zg ?_;exact cj rfl ⟨a1,a3.trans a2⟩
theorem qz:∀(n:Nat) (a0:List Int) (r:List UInt8) (p:Nat) (e:Int),gi n a0 r=.bad p e->p<=r.length
 |0,_,_,_,_,h=>by cases h
 |n+1,a0,r,p,e,h=>by
  have hs:=cU r;unfold gi at h
  split at h
  ·cases h
  split at h
  ·cases h;exact hs
  split at h
  ·cases h;exact hs
  have h1:=qz n _ _ p e h;have h2:=(Ib (l:=ak r) ai).length_le;omega
theorem lJ{r:List UInt8}{p:Nat}{e:Int}(h:cT r=.bad p e):p<=r.length:=by
 unfold cT at h
 cases hw:gi (r.length+1) [] r with
 |bad q f=>rw[hw]at h;cases h;exact qz _ _ _ _ _ hw
 |ok l=>
  rw[hw]at h
  cases l with
  |nil=>cases h;exact GA _
  |cons a l=>cases h
theorem rm(B:Nat)(O:Nat->Nat)(w:G6)(j ji rb:Nat)(s:LS)(m:Nat)(r0:List UInt8)(hR:Io B O w)(hj:j≠0)(a8:ji≠0)(a9:j≠ji)(hm:m<=s.l.length)(hl:s.l.length<=100000)(d6:s.to=(m:Int))(he:s.e=0)(g1:s.i=false)(g2:s.ig=qq)
  (hr:r0 <:+ s.l.take m) (hp:s.pos=(m:Int)-(r0.length:Int)) (h:KC O w j rb s) :
  IS GM 106 [nP rb,.pointer (some ⟨rb,6,none⟩),.pointer (some ⟨rb,10,none⟩)] w fun _ w'=>∃O' lv pos bad e,GE (fun k=>k=j\/k=ji) O w O' w'/\Io B O' w'/\KC O' w' j rb {s with pos:=pos,bad:=bad,e:=e,ig:=lv,i:=true}/\D3 m w' O' ji lv bad e (cT r0):=by
 have a0:¬(fun q:Nat=>q=j\/q=ji) 0:=fun e=>by rcases e with e|e;exact hj e.symm;exact a8 e.symm
 have h1:r0.length<=m:=by have:=hr.length_le;simp at this;omega
 have q0:=h.q10;rw[g1]at q0;refine G8 Kx Ka rfl rfl ?_;refine zg ?_;refine zvG (RV.ld q0 rfl) ?_;refine zFG rfl rfl ?_;refine aj (j:=10) h rfl (IB _) rfl rfl rfl rfl ?_;have g4:KC O (w.setCell ⟨rb,10,none⟩ (.bool true)) j rb {s with i:=true}:=L2 h 10 _;have f6:GE (fun k=>k=j) O w O (w.setCell ⟨rb,10,none⟩ (.bool true)):=GL (fun e=>hj e.symm) h.tag rfl;have g7:=hR.upd f6;generalize w.setCell ⟨rb,10,none⟩ (.bool true)=w1 at *;obtain⟨M,d1⟩:∃M,M=gi (r0.length+1) [] r0:=⟨_,rfl⟩
 refine zg ?_;refine zlp (fun y:Nat×List Int×List UInt8×(Nat->Nat)×World×ix=>[(0,nP rb),(1,.pointer (some ⟨rb,6,none⟩))]) (fun y=>y.2.2.2.2.1) (fun y=>KC y.2.2.2.1 y.2.2.2.2.1 j rb {s with pos:=(m:Int)-(y.2.2.1.length:Int),ig:=y.2.2.2.2.2,i:=true}/\Iy encI 3 1 y.2.2.2.1 y.2.2.2.2.1 ji y.2.2.2.2.2 y.2.1/\y.2.2.1 <:+ s.l.take m/\gi y.1 y.2.1 y.2.2.1=M/\y.2.2.1.length<y.1/\y.2.1.length+y.2.2.1.length<=r0.length/\GE (fun k=>k=j\/k=ji) O w y.2.2.2.1 y.2.2.2.2.1/\Io B y.2.2.2.1 y.2.2.2.2.1) (fun y=>y.1) (r0.length+1,[],r0,O,w1,qq) (⟨by dsimp only;rw[<-hp,<-g2];exact g4,J6 _ _ _ _ _ _,hr,d1.symm,Jc _,by simp,f6.mono (fun _ h=>.inl h) a0,g7⟩) ?_
 rintro⟨n,d5,r,O1,w2,lv⟩ ⟨f4,b1,b2,a4,hn,g5,f5,f7⟩;dsimp only at f4 b1 b2 a4 hn g5 f5 f7 ⊢;obtain⟨n,rfl⟩:∃q,n=q+1:=⟨n-1,by omega⟩
 have g':=cU r;unfold gi at a4;refine zg ?_;refine zc KA (dq O1 w2 j rb ({s with pos:=(m:Int)-((r).length:Int),ig:=lv,i:=true}:LS) m r hj hm hl d6 b2 rfl f4) ?_;rintro v w3 ⟨rfl,b6,e6⟩;have a3:=b1.upd e6 a8 (fun e=>a9 e.symm);have f3:=f7.upd e6;have b9:=f5.trans (e6.mono (fun _ h=>.inl h) a0);refine zg ?_
 by_cases h0:(ak r).length=0
 ·rw[if_pos h0]at a4;refine aX rfl ((decide_eq_false zo)) ?_;have f9:=b6.q6;have d7:=a3.sl;refine zg ?_;refine zv (RV.ld f9 rfl) ?_;refine zvG (Ju (by first|exact d7) Ir rfl) ?_
  rcases d5 with _|⟨a,d5⟩
  ·have hM:cT r0=.bad 0 4:=by unfold cT;rw[<-d1,<-a4];rfl
   rw[hM];refine aS rfl rfl ?_;have d':=b6.q2;dsimp only at d';rw[d6]at d';have hb3d:=b6.drew;have hrow3d:=a3.drew;have hR3d:=f3.drew;have hUt3d:=b9.drew;refine IV 8 rfl rfl zk zk ?_;refine zg ?_;refine zw (RV.ld d' rfl) ?_;refine JA ?_;refine zc Ie (bq O1 w3.drew j rb ({s with pos:=(m:Int)-((ak r).length:Int),ig:=lv,i:=true}:LS) (m:Int) 4 hj he hb3d) ?_;rintro u w7 ⟨b',c5⟩;have a2:=hrow3d.upd c5 a8 (fun e=>a9 e.symm);have e9:=hR3d.upd c5;have e3:=hUt3d.trans (c5.mono (fun _ h=>.inl h) a0);have d9:=Lj b';refine zg ?_;refine zv (RV.ld d9 rfl) ?_;refine zc Kz (jo e9 a2 a8 zo) ?_;rintro u w8 ⟨a6,a',e8⟩;have b5:=GJ b' a' hj a9;have d8:=b5.q6;refine zg ?_;refine zv (RV.ld d8 rfl) ?_;refine zc Ky (ef e8 a6 a8 (by rw[dA];omega)) ?_;rintro u w9 ⟨a1,c',e7⟩;have b4:=b5.upd c' hj a9;have a7:=a1.one;refine zg ?_;refine aj (j:=6) b4 rfl (I4 _) a7 rfl rfl rfl ?_;have b7:=b4.set 6 u;have a5:GE (fun k=>k=j) O1 w9 O1 (w9.setCell ⟨rb,6,none⟩ u):=GL (fun e=>hj e.symm) b4.tag rfl;have e1:=((e3.trans (a'.mono (fun _ h=>.inr h) a0)).trans (c'.mono (fun _ h=>.inr h) a0)).trans (a5.mono (fun _ h=>.inl h) a0);refine zg ?_;exact aE rfl ⟨O1,u,_,(m:Int),4,e1,e7.upd a5,b7,⟨rfl,by decide,by simp⟩⟩
  have hM:cT r0=.ok (JM (gm (a::d5))):=by unfold cT;rw[<-d1,<-a4];rfl
  rw[hM];refine aX rfl ((beq_eq_false_iff_ne.2 (by simp;omega))) ?_;have d9:=Lj b6;refine zg ?_;refine zv (RV.ld d9 rfl) ?_;refine zc Kz (jo f3 a3 a8 zo) ?_;rintro u w8 ⟨a6,a',e8⟩;have b5:=GJ b6 a' hj a9;have d8:=b5.q6;refine zg ?_;refine zv (RV.ld d8 rfl) ?_;refine zc Ky (ef e8 a6 a8 (by rw[dA];omega)) ?_;rintro u w9 ⟨a1,c',e7⟩;have b4:=b5.upd c' hj a9;have a7:=a1.one;refine zg ?_;refine aj (j:=6) b4 rfl (I4 _) a7 rfl rfl rfl ?_;have b7:=b4.set 6 u;have a5:GE (fun k=>k=j) O1 w9 O1 (w9.setCell ⟨rb,6,none⟩ u):=GL (fun e=>hj e.symm) b4.tag rfl;have e1:=((b9.trans (a'.mono (fun _ h=>.inr h) a0)).trans (c'.mono (fun _ h=>.inr h) a0)).trans (a5.mono (fun _ h=>.inl h) a0);refine zg ?_;exact aE rfl ⟨O1,u,_,_,_,e1,e7.upd a5,b7,⟨he,a1.upd a5 a8 (fun e=>a9 e.symm)⟩⟩
 rw[if_neg h0]at a4;refine aS rfl ((decide_eq_true zo)) ?_;have f':=b6.q1;have b0:=(aT r).trans b2;refine zg ?_;refine zvG (RV.ld f' rfl) ?_;refine zc L7 (gq O1 w3 j rb ({s with pos:=(m:Int)-((ak r).length:Int),ig:=lv,i:=true}:LS) m (ak r) hj hm hl d6 b0 rfl b6) ?_;rintro v w4 ⟨rfl,g3,e5⟩;have c7:=a3.upd e5 a8 (fun e=>a9 e.symm);have g6:=f3.upd e5;have e4:=b9.trans (e5.mono (fun _ h=>.inl h) a0);refine zg ?_;refine zc L6 (ie ((ak r).takeWhile ai) w4) ?_;rintro v w5 ⟨rfl,g8⟩;have d4:GE (fun _=>False) O1 w4 O1 w5:=aa (fun h=>h) O1 g8;have d3:=g3.upd d4 hj (fun h=>h);have c6:=c7.upd d4 a8 (fun h=>h);have e':=g6.upd d4;have b8:=e4.trans (d4.mono (fun _ h=>h.elim) a0);refine zg ?_;refine zvG (bU rfl rfl) ?_
 by_cases c9:(ak r).takeWhile ai=[]
 ·rw[if_pos c9]at a4;have hM:cT r0=.bad (ak r).length 4:=by unfold cT;rw[<-d1,<-a4];rfl
  rw[hM];refine zTG rfl ((by simpa using c9)) ?_;refine zc Ie (bq O1 w5 j rb ({s with pos:=(m:Int)-(((ak r).dropWhile ai).length:Int),ig:=lv,i:=true}:LS) ((m:Int)-((ak r).length:Int)) 4 hj he d3) ?_;rintro u w6 ⟨e0,d0⟩;refine zg ?_;exact cj rfl ⟨O1,lv,_,_,_,b8.trans (d0.mono (fun _ h=>.inl h) a0),e'.upd d0,e0,rfl,by decide,rfl⟩
 rw[if_neg c9]at a4;have g9:=qA c9;refine zFG rfl ((by simpa using c9)) ?_
 cases b3:yI ((ak r).takeWhile ai)with
 |none=>
  rw[b3]at a4;have hM:cT r0=.bad (ak r).length 5:=by unfold cT;rw[<-d1,<-a4];rfl
  rw[hM];refine zTG rfl rfl ?_;refine zc Ie (bq O1 w5 j rb ({s with pos:=(m:Int)-(((ak r).dropWhile ai).length:Int),ig:=lv,i:=true}:LS) ((m:Int)-((ak r).length:Int)) 5 hj he d3) ?_;rintro u w6 ⟨e0,d0⟩;refine zg ?_;exact cj rfl ⟨O1,lv,_,_,_,b8.trans (d0.mono (fun _ h=>.inl h) a0),e'.upd d0,e0,rfl,by decide,rfl⟩
 |some c=>
  rw[b3]at a4;dsimp only at a4;have g0:BU ((ak r).takeWhile ai)=(c:Int):=by unfold BU;rw[b3]
  rw[g0];refine aX rfl rfl ?_;have f8:=d3.q6;refine zg ?_;refine zvG (RV.ld f8 rfl) ?_;refine Kb F3 c6 e' ((c:Int)) (fun _=>rfl) rfl rfl rfl (by simp[GC,encI]) zo zo zo zd rfl rfl ?_;intro d2 w7 O7 a2 c5 e9;have c8:=a2.one;have b':=d3.upd c5 hj a9;refine zg ?_;refine aj (j:=6) b' rfl (I4 _) c8 rfl rfl rfl ?_;have b5:=b'.set 6 d2;have a':GE (fun k=>k=j) O7 w7 O7 (w7.setCell ⟨rb,6,none⟩ d2):=GL (fun e=>hj e.symm) b'.tag rfl;have e2:=(b8.trans (c5.mono (fun _ h=>.inr h) a0)).trans (a'.mono (fun _ h=>.inl h) a0);refine zg ?_;refine zxd (n,d5++[(c:Int)],(ak r).dropWhile ai,O7,(w7.setCell ⟨rb,6,none⟩ d2),d2) (⟨b5,a2.upd a' a8 (fun e=>a9 e.symm),(Ib _).trans b0,a4,by dsimp only;omega,by simp;omega,e2,e9.upd a'⟩)
theorem rk(B:Nat)(O:Nat->Nat)(w:G6)(j ji rb:Nat)(s:LS)(m:Nat)(r0:List UInt8)(hR:Io B O w)(hj:j≠0)(a8:ji≠0)(a9:j≠ji)(hm:m<=s.l.length)(hl:s.l.length<=100000)(d6:s.to=(m:Int))(he:s.e=0)(g1:s.k=false)(g2:s.kp=qq)
  (hr:r0 <:+ s.l.take m) (hp:s.pos=(m:Int)-(r0.length:Int)) (h:KC O w j rb s) :
  IS GM 106 [nP rb,.pointer (some ⟨rb,7,none⟩),.pointer (some ⟨rb,11,none⟩)] w fun _ w'=>∃O' lv pos bad e,GE (fun k=>k=j\/k=ji) O w O' w'/\Io B O' w'/\KC O' w' j rb {s with pos:=pos,bad:=bad,e:=e,kp:=lv,k:=true}/\D3 m w' O' ji lv bad e (cT r0):=by
 have a0:¬(fun q:Nat=>q=j\/q=ji) 0:=fun e=>by rcases e with e|e;exact hj e.symm;exact a8 e.symm
 have h1:r0.length<=m:=by have:=hr.length_le;simp at this;omega
 have q0:=h.q11;rw[g1]at q0;refine G8 Kx Ka rfl rfl ?_;refine zg ?_;refine zvG (RV.ld q0 rfl) ?_;refine zFG rfl rfl ?_;refine aj (j:=11) h rfl (IB _) rfl rfl rfl rfl ?_;have g4:KC O (w.setCell ⟨rb,11,none⟩ (.bool true)) j rb {s with k:=true}:=L2 h 11 _;have f6:GE (fun k=>k=j) O w O (w.setCell ⟨rb,11,none⟩ (.bool true)):=GL (fun e=>hj e.symm) h.tag rfl;have g7:=hR.upd f6;generalize w.setCell ⟨rb,11,none⟩ (.bool true)=w1 at *;obtain⟨M,d1⟩:∃M,M=gi (r0.length+1) [] r0:=⟨_,rfl⟩
 refine zg ?_;refine zlp (fun y:Nat×List Int×List UInt8×(Nat->Nat)×World×ix=>[(0,nP rb),(1,.pointer (some ⟨rb,7,none⟩))]) (fun y=>y.2.2.2.2.1) (fun y=>KC y.2.2.2.1 y.2.2.2.2.1 j rb {s with pos:=(m:Int)-(y.2.2.1.length:Int),kp:=y.2.2.2.2.2,k:=true}/\Iy encI 3 1 y.2.2.2.1 y.2.2.2.2.1 ji y.2.2.2.2.2 y.2.1/\y.2.2.1 <:+ s.l.take m/\gi y.1 y.2.1 y.2.2.1=M/\y.2.2.1.length<y.1/\y.2.1.length+y.2.2.1.length<=r0.length/\GE (fun k=>k=j\/k=ji) O w y.2.2.2.1 y.2.2.2.2.1/\Io B y.2.2.2.1 y.2.2.2.2.1) (fun y=>y.1) (r0.length+1,[],r0,O,w1,qq) (⟨by dsimp only;rw[<-hp,<-g2];exact g4,J6 _ _ _ _ _ _,hr,d1.symm,Jc _,by simp,f6.mono (fun _ h=>.inl h) a0,g7⟩) ?_
 rintro⟨n,d5,r,O1,w2,lv⟩ ⟨f4,b1,b2,a4,hn,g5,f5,f7⟩;dsimp only at f4 b1 b2 a4 hn g5 f5 f7 ⊢;obtain⟨n,rfl⟩:∃q,n=q+1:=⟨n-1,by omega⟩
 have g':=cU r;unfold gi at a4;refine zg ?_;refine zc KA (dq O1 w2 j rb ({s with pos:=(m:Int)-((r).length:Int),kp:=lv,k:=true}:LS) m r hj hm hl d6 b2 rfl f4) ?_;rintro v w3 ⟨rfl,b6,e6⟩;have a3:=b1.upd e6 a8 (fun e=>a9 e.symm);have f3:=f7.upd e6;have b9:=f5.trans (e6.mono (fun _ h=>.inl h) a0);refine zg ?_
 by_cases h0:(ak r).length=0
 ·rw[if_pos h0]at a4;refine aX rfl ((decide_eq_false zo)) ?_;have f9:=b6.q7;have d7:=a3.sl;refine zg ?_;refine zv (RV.ld f9 rfl) ?_;refine zvG (Ju (by first|exact d7) Ir rfl) ?_
  rcases d5 with _|⟨a,d5⟩
  ·have hM:cT r0=.bad 0 4:=by unfold cT;rw[<-d1,<-a4];rfl
   rw[hM];refine aS rfl rfl ?_;have d':=b6.q2;dsimp only at d';rw[d6]at d';have hb3d:=b6.drew;have hrow3d:=a3.drew;have hR3d:=f3.drew;have hUt3d:=b9.drew;refine IV 8 rfl rfl zk zk ?_;refine zg ?_;refine zw (RV.ld d' rfl) ?_;refine JA ?_;refine zc Ie (bq O1 w3.drew j rb ({s with pos:=(m:Int)-((ak r).length:Int),kp:=lv,k:=true}:LS) (m:Int) 4 hj he hb3d) ?_;rintro u w7 ⟨b',c5⟩;have a2:=hrow3d.upd c5 a8 (fun e=>a9 e.symm);have e9:=hR3d.upd c5;have e3:=hUt3d.trans (c5.mono (fun _ h=>.inl h) a0);have d9:=Li b';refine zg ?_;refine zv (RV.ld d9 rfl) ?_;refine zc Kz (jo e9 a2 a8 zo) ?_;rintro u w8 ⟨a6,a',e8⟩;have b5:=GJ b' a' hj a9;have d8:=b5.q7;refine zg ?_;refine zv (RV.ld d8 rfl) ?_;refine zc Ky (ef e8 a6 a8 (by rw[dA];omega)) ?_;rintro u w9 ⟨a1,c',e7⟩;have b4:=b5.upd c' hj a9;have a7:=a1.one;refine zg ?_;refine aj (j:=7) b4 rfl (I4 _) a7 rfl rfl rfl ?_;have b7:=b4.set 7 u;have a5:GE (fun k=>k=j) O1 w9 O1 (w9.setCell ⟨rb,7,none⟩ u):=GL (fun e=>hj e.symm) b4.tag rfl;have e1:=((e3.trans (a'.mono (fun _ h=>.inr h) a0)).trans (c'.mono (fun _ h=>.inr h) a0)).trans (a5.mono (fun _ h=>.inl h) a0);refine zg ?_;exact aE rfl ⟨O1,u,_,(m:Int),4,e1,e7.upd a5,b7,⟨rfl,by decide,by simp⟩⟩
  have hM:cT r0=.ok (JM (gm (a::d5))):=by unfold cT;rw[<-d1,<-a4];rfl
  rw[hM];refine aX rfl ((beq_eq_false_iff_ne.2 (by simp;omega))) ?_;have d9:=Li b6;refine zg ?_;refine zv (RV.ld d9 rfl) ?_;refine zc Kz (jo f3 a3 a8 zo) ?_;rintro u w8 ⟨a6,a',e8⟩;have b5:=GJ b6 a' hj a9;have d8:=b5.q7;refine zg ?_;refine zv (RV.ld d8 rfl) ?_;refine zc Ky (ef e8 a6 a8 (by rw[dA];omega)) ?_;rintro u w9 ⟨a1,c',e7⟩;have b4:=b5.upd c' hj a9;have a7:=a1.one;refine zg ?_;refine aj (j:=7) b4 rfl (I4 _) a7 rfl rfl rfl ?_;have b7:=b4.set 7 u;have a5:GE (fun k=>k=j) O1 w9 O1 (w9.setCell ⟨rb,7,none⟩ u):=GL (fun e=>hj e.symm) b4.tag rfl;have e1:=((b9.trans (a'.mono (fun _ h=>.inr h) a0)).trans (c'.mono (fun _ h=>.inr h) a0)).trans (a5.mono (fun _ h=>.inl h) a0);refine zg ?_;exact aE rfl ⟨O1,u,_,_,_,e1,e7.upd a5,b7,⟨he,a1.upd a5 a8 (fun e=>a9 e.symm)⟩⟩
 rw[if_neg h0]at a4;refine aS rfl ((decide_eq_true zo)) ?_;have f':=b6.q1;have b0:=(aT r).trans b2;refine zg ?_;refine zvG (RV.ld f' rfl) ?_;refine zc L7 (gq O1 w3 j rb ({s with pos:=(m:Int)-((ak r).length:Int),kp:=lv,k:=true}:LS) m (ak r) hj hm hl d6 b0 rfl b6) ?_;rintro v w4 ⟨rfl,g3,e5⟩;have c7:=a3.upd e5 a8 (fun e=>a9 e.symm);have g6:=f3.upd e5;have e4:=b9.trans (e5.mono (fun _ h=>.inl h) a0);refine zg ?_;refine zc L6 (ie ((ak r).takeWhile ai) w4) ?_;rintro v w5 ⟨rfl,g8⟩;have d4:GE (fun _=>False) O1 w4 O1 w5:=aa (fun h=>h) O1 g8;have d3:=g3.upd d4 hj (fun h=>h);have c6:=c7.upd d4 a8 (fun h=>h);have e':=g6.upd d4;have b8:=e4.trans (d4.mono (fun _ h=>h.elim) a0);refine zg ?_;refine zvG (bU rfl rfl) ?_
 by_cases c9:(ak r).takeWhile ai=[]
 ·rw[if_pos c9]at a4;have hM:cT r0=.bad (ak r).length 4:=by unfold cT;rw[<-d1,<-a4];rfl
  rw[hM];refine zTG rfl ((by simpa using c9)) ?_;refine zc Ie (bq O1 w5 j rb ({s with pos:=(m:Int)-(((ak r).dropWhile ai).length:Int),kp:=lv,k:=true}:LS) ((m:Int)-((ak r).length:Int)) 4 hj he d3) ?_;rintro u w6 ⟨e0,d0⟩;refine zg ?_;exact cj rfl ⟨O1,lv,_,_,_,b8.trans (d0.mono (fun _ h=>.inl h) a0),e'.upd d0,e0,rfl,by decide,rfl⟩
 rw[if_neg c9]at a4;have g9:=qA c9;refine zFG rfl ((by simpa using c9)) ?_
 cases b3:yI ((ak r).takeWhile ai)with
 |none=>
  rw[b3]at a4;have hM:cT r0=.bad (ak r).length 5:=by unfold cT;rw[<-d1,<-a4];rfl
  rw[hM];refine zTG rfl rfl ?_;refine zc Ie (bq O1 w5 j rb ({s with pos:=(m:Int)-(((ak r).dropWhile ai).length:Int),kp:=lv,k:=true}:LS) ((m:Int)-((ak r).length:Int)) 5 hj he d3) ?_;rintro u w6 ⟨e0,d0⟩;refine zg ?_;exact cj rfl ⟨O1,lv,_,_,_,b8.trans (d0.mono (fun _ h=>.inl h) a0),e'.upd d0,e0,rfl,by decide,rfl⟩
 |some c=>
  rw[b3]at a4;dsimp only at a4;have g0:BU ((ak r).takeWhile ai)=(c:Int):=by unfold BU;rw[b3]
  rw[g0];refine aX rfl rfl ?_;have f8:=d3.q7;refine zg ?_;refine zvG (RV.ld f8 rfl) ?_;refine Kb F3 c6 e' ((c:Int)) (fun _=>rfl) rfl rfl rfl (by simp[GC,encI]) zo zo zo zd rfl rfl ?_;intro d2 w7 O7 a2 c5 e9;have c8:=a2.one;have b':=d3.upd c5 hj a9;refine zg ?_;refine aj (j:=7) b' rfl (I4 _) c8 rfl rfl rfl ?_;have b5:=b'.set 7 d2;have a':GE (fun k=>k=j) O7 w7 O7 (w7.setCell ⟨rb,7,none⟩ d2):=GL (fun e=>hj e.symm) b'.tag rfl;have e2:=(b8.trans (c5.mono (fun _ h=>.inr h) a0)).trans (a'.mono (fun _ h=>.inl h) a0);refine zg ?_;refine zxd (n,d5++[(c:Int)],(ak r).dropWhile ai,O7,(w7.setCell ⟨rb,7,none⟩ d2),d2) (⟨b5,a2.upd a' a8 (fun e=>a9 e.symm),(Ib _).trans b0,a4,by dsimp only;omega,by simp;omega,e2,e9.upd a'⟩)
structure St where
 ts:List R3
 li:List Int
 lk:List Int
 hi:Bool
 hk:Bool
inductive RS where
 |go (s:St)
 |bad (p:Nat) (e:Int)
 |other
def FK(st:St)(d:Nat):LM->RS
 |.ok l=>.go {st with li:=l,hi:=true}
 |.bad p e=>.bad (d-p) e
def FJ(st:St)(d:Nat):LM->RS
 |.ok l=>.go {st with lk:=l,hk:=true}
 |.bad p e=>.bad (d-p) e
def FH(st:St)(d:Nat):LR->RS
 |.ok t=>.go {st with ts:=st.ts++[t]}
 |.bad p e=>.bad (d+p) e
structure Mem(O:Nat->Nat)(w:G6)(jr ji jk:Nat)(s:LS)(st:St):Prop where
 ru:∃xs,Iy cM 88 7 O w jr s.ru xs/\st.ts.length=xs.length/\xs.length<=40/\∀i,i<xs.length->Rt O w (nth st.ts i) (nth xs i)
 ig:Iy encI 3 1 O w ji s.ig st.li
 kp:Iy encI 3 1 O w jk s.kp st.lk
 fi:s.i=st.hi
 fk:s.k=st.hk
 ni:st.hi=false->s.ig=qq
 nk:st.hk=false->s.kp=qq
theorem Mem.upd{S:Nat->Prop}{O O':Nat->Nat}{w w':G6}{jr ji jk:Nat}{s:LS}{st:St}(h:Mem O w jr ji jk s st)(u:GE S O w O' w')(h1:jr≠0)(h2:ji≠0)(h3:jk≠0)(g1:¬S jr)(g2:¬S ji)(g3:¬S jk):Mem O' w' jr ji jk s st:=by
 obtain⟨⟨xs,a1,a2,a3,a4⟩,b,c,d,e,f,g⟩:=h;exact⟨⟨xs,a1.upd u h1 g1,a2,a3,fun i hi=>(a4 i hi).upd u⟩,b.upd u h2 g2,c.upd u h3 g3,d,e,f,g⟩
theorem Mem.with{O:Nat->Nat}{w:G6}{jr ji jk:Nat}{s s':LS}{st:St}(h:Mem O w jr ji jk s st)(e1:s'.ru=s.ru)(e2:s'.ig=s.ig)(e3:s'.kp=s.kp)(e4:s'.i=s.i)(e5:s'.k=s.k):Mem O w jr ji jk s' st:=by
 obtain⟨a,b,c,d,e,f,g⟩:=h;exact⟨by rw[e1];exact a,by rw[e2];exact b,by rw[e3];exact c,by rw[e4];exact d,by rw[e5];exact e,by rw[e2];exact f,by rw[e3];exact g⟩
end Go.Proofs.YtpfpmhhigheccaaGreatDoor
