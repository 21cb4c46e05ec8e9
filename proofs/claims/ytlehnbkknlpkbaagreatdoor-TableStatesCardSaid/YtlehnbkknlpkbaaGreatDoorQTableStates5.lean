/- Texts that the proof of this statement needs, merged and shortened. -/
import Derived.Test.YtlehnbkknlpkbaaGreatDoorQTableStates4
open Go.VL.WL renaming nil->ix,off->Ae,push->K1
open Go.VL.RV renaming move->ln,assign->oU,extract->rm,build->z8,add->BG,not->GZ,indexAddr->JC,neq->JQ,lss->Km,len->KH,eql->KI
open Go.VL.WC renaming region->ow,seq->oz,skip->tG,ret->x8,block->z7,tail->C9,exit->J9
open Go renaming Value->ox,World->ps,TypeId->BV,Addr->JB,Program->Ko,FuncId->KG,Operand->KS
open List renaming mem_singleton->oD,length_singleton->pc,mem_cons->pN,eq_nil_of_length_eq_zero->pZ,length_append->qy,append_nil->ri,not_mem_nil->rj,length_cons->su,getElem?_append_right->sx,append_assoc->sN,length_map->sP,mem_append->uw,all_cons->uM,length->y4,dropWhile_suffix->yY,map_append->ze,length_pos_iff->zf,mem_map->zI,getElem?_eq_some_iff->As,getElem?_append_left->AK,drop_eq_getElem_cons->AW,take_append_drop->CR,getElem?_toArray->CX,findIdx?_eq_some_iff_getElem->DN,size_toArray->Fm,flatMap_cons->Fo,take_length->Gi,take_left'->I4,nil_append->Ib,range->J6,exists_cons_of_ne_nil->J7,getElem_append_right->Jo,getElem_append_left->Jq,take_of_length_le->Jw,contains_iff_mem->JA,getElem_range->JK,foldl_append->JP,getElem_map->JT,flatMap_nil->JU,cons_append->JV,foldl_cons->K4,append_inj->K5,take_zero->K7,mem_range->K8,drop_zero->K9,drop_drop->Ka,drop->KF
open Go.VL.WH renaming one->pR,done->ug,leaf->C2
open Go.VL.Ext renaming refl->qN
open Go.VL.Ret renaming enter->rf
open Go.VL.Upd renaming setRow->rk,trans->rI,set->vO,mono->yr,refl->Ji,lowT->JD,drew->KQ
open Go.VL.RowT renaming upd->rU,nil->DZ,drew->KC
open Go.Proofs.Tryz renaming underlying22->sQ,sizeOf114->tp,underlying112->uu,prog->uV,zeroValue35->x4,sizeOf35->y8,call156->z1,sizeOf3->zl,sizeOf33->zR,sizeOf86->CY,zeroValue114->Da,sizeOf22->Dd,underlying31->IJ,sizeOf83->IP,sizeOf4->J0,isAgg35->J1,isAgg33->J2,isAgg114->J3,sizeOf168->JI,underlying50->JL,underlying39->JM,isAgg86->JN,zeroValue86->JX,zeroValue30->JY,sizeOf28->JZ,ntmps132->K0,call32->Kb,isAgg83->Ke,func132->Kf,call161->Kg,call160->Kh,call129->Ki,sizeOf85->Ky,sizeOf30->Kz,call51->KA,zeroValue243->KL,underlying64->KM,call159->KN,call130->KO,zeroValue83->KX,zeroValue33->KY,underlying9->KZ,call93->L2,call72->L3,call40->L4
open Bool renaming and_eq_true->th,or_eq_true->y1,false_or->Db,true_and->Jr
open Nat renaming zero_le->tq,le_refl->vg,not_lt_zero->y3,add_sub_cancel_left->y7,or_lt_two_pow->yJ,pow_lt_pow_right->z6,div_eq_of_lt->BJ,lt_of_lt_of_le->DA,lt_of_le_of_lt->DH,zero_add->FJ,le_of_eq->FX,lt_succ_self->GT,testBit_or->Jn,lt_succ_iff_lt_or_eq->Js,add_assoc->Jt,testBit_two_pow_mul->Jv,le_trans->Jz,pow_le_pow_right->JE,one_mul->JF,testBit_two_pow->JJ,add_sub_cancel->JO,and_le_right->K2,two_pow_pos->K6,add_zero->Kr,add_mul->Kw
open Go.VL renaming Upd->tJ,BlkO->Dc,Ints->G6,Ext->Gc,Ret->Gh,Rng->GY,RowT->J5,NewV->Kq,Free->L7,Elem->L8
open Go.World renaming setCell->tR,setRow->De,drew->J4
open Go.VL.BlkO renaming upd->uh,setRow->CZ,drew->Ju,tag->KJ,set->KK,q7->KV,q6->KW
open Go.Value renaming oneCell'->uY,bool->Kp,int->Kv
open Go.Proofs.YtlehnbkknlpkbaaGreatDoor renaming RightD->vX,PSt->Kc,Rd6->Kl,StarP->KB,LgA->L1,LgS->L5,Cls->L9
open Go.VL.Free renaming upd->xK
open UInt8 renaming ofNat->y2,toNat->Kj
open Go.VL.Fit renaming i64->yP
open Option renaming none->A2,some->Fu
open Int renaming le_refl->B1,toNat_natCast->Gb
open Go.VL.Sl renaming ext->Bh
open Go.Lib renaming ctz->BW,compact->JG,deBruijn64tab->JW,lowest_bit->Kd,ctzFrom->Kx
open Classical renaming byContradiction->Gv
open Go.Addr renaming add->J8
open Go.VL.WS renaming go->Jp
open Go.VL.Rng renaming upd->Jy,drew->KR
open Go.IntKind renaming wrap_u64->JH,u64->L6
open Or renaming inr->JR,inl->JS
open Go.Proofs renaming TabAt->Kk
open Go.Instr renaming fill->Ku
open Option.some renaming injEq->KD,inj->KE
open Go.Value.agg renaming inj->KP
open List.cons renaming injEq->KT,inj->KU
open Go.Proofs.YtlehnbkknlpkbaaGreatDoor.Mac renaming upd->L0
open Go.Builtin renaming append_->La
set_option maxRecDepth 10000
open Go.VL Go.Proofs Go.Proofs.Tryz
namespace Go.Proofs.YtlehnbkknlpkbaaGreatDoor
theorem Jh:cV uV 33 #[(0,5),(5,1)]:=⟨_,underlying33,fun w=>by kernel_rfl⟩
def PartV(w:ps)(cs:List ox)(p:Kc)(tl:List Nat):Prop:=
 ∃uv bv kv nv tv,cs=[nI p.width,uv,bv,kv,nv,tv]/\G6 w uv p.usual/\G6 w bv p.base/\G6 w kv p.check/\G6 w nv p.next/\Sl jb 1 w tv tl
theorem PartV.ext{w w':ps}{cs:List ox}{p:Kc}{tl:List Nat}(h:PartV w cs p tl)(e:Gc w w'):PartV w' cs p tl:=by
 obtain⟨uv,bv,kv,nv,tv,h0,h1,h2,h3,h4,h5⟩:=h;exact⟨uv,bv,kv,nv,tv,h0,h1.ext e,h2.ext e,h3.ext e,h4.ext e,h5.ext e⟩
def Gx(B:Nat)(cs:List ox):Prop:=∀v∈cs,Kq B v
theorem _root_.Go.VL.NewV.slI{S:Nat->Prop}{B:Nat}{O O':Nat->Nat}{w0 w w':ps}{v:ox}{l:List Int}(h:Kq w0.heap.size v)(hs:G6 w v l)(r:GY B O w0)(u:tJ S O w O' w'):G6 w' v l:=hs.upd (h.free hs (fun x _=>by simp) r) u
theorem PartV.upd{S:Nat->Prop}{B:Nat}{O O':Nat->Nat}{w0 w w':ps}{cs:List ox}{p:Kc}{tl:List Nat}(h:PartV w cs p tl)(n:Gx w0.heap.size cs)(r:GY B O w0)(u:tJ S O w O' w'):PartV w' cs p tl:=by
 obtain⟨uv,bv,kv,nv,tv,rfl,h1,h2,h3,h4,h5⟩:=h;exact⟨uv,bv,kv,nv,tv,rfl,(n uv (by simp)).slI h1 r u,(n bv (by simp)).slI h2 r u,(n kv (by simp)).slI h3 r u,(n nv (by simp)).slI h4 r u,(n tv (by simp)).slU h5 r u⟩
theorem PartV.one{w:ps}{cs:List ox}{p:Kc}{tl:List Nat}(h:PartV w cs p tl):cs.length=6/\∀v∈cs,v.oneCell'=true:=by
 obtain⟨uv,bv,kv,nv,tv,rfl,h1,h2,h3,h4,h5⟩:=h;refine⟨rfl,fun v hv=>?_⟩;simp only[pN,rj,or_false]at hv
 rcases hv with rfl|rfl|rfl|rfl|rfl|rfl
 ·rfl
 ·exact h1.one
 ·exact h2.one
 ·exact h3.one
 ·exact h4.one
 exact h5.one
theorem RowsN.pack{w:ps}{v:ox}{rows:List (List Nat)}(h:RowsN w v rows):Rows w v (rows.map ints):=by
 obtain⟨vs,h1,h2,h3⟩:=h
 exact⟨vs,h1,by rw[sP];exact h2,fun i hi=>by
  rw[sP]at hi
  rw[dI hi];exact(h3 i hi).natIv⟩
def kA(g:List Nat)(many:Nat)(rows:List (List Nat)):List (List Int):=(rows.map (px g many)).map ints
def dH(g:List Nat)(many:Nat)(rows:List (List Nat)):Kc:=lI (many:Int) (kA g many rows)
theorem pX{g:List Nat}{many:Nat}(hg:GrpI g many){rows:List (List Nat)}{a0:List Nat}(hr:vX rows a0):cf (many:Int) (kA g many rows)=false:=by
 have h1:=hg.pos;have h2:=hg.le;have h3:=hr.le;unfold cf;have hl:(kA g many rows).length=rows.length:=by simp[kA]
 rw[decide_eq_false zo,decide_eq_false zo,decide_eq_false zo];simp only[Db];refine List.any_eq_false.2 fun r a1=>?_
 obtain⟨q,hq,rfl⟩:=zI.1 a1;obtain⟨o,ho,rfl⟩:=zI.1 hq;obtain⟨j,hj,rfl⟩:=cI ho;obtain⟨r1,r2⟩:=hr.row j hj;unfold iF;rw[show(ints (px g many (nth rows j))).length=many from by simp[nf]];have a2:inB 0 65535 (ints (px g many (nth rows j)))=true:=uf fun n hn=>by
  obtain⟨x,hx,rfl⟩:=zI.1 hn;unfold px at hx;obtain⟨k,hk,rfl⟩:=zI.1 hx
  cases hf:g.findIdx? (· == k)with
  |none=>simp only[Option.getD_none];have:=r2 0 (zd);unfold nxD at *;omega
  |some q=>
   obtain⟨h1,_⟩:=DN.1 hf;have a3:=hg.len;simp only[Option.getD_some];have:=r2 q zo;omega
 rw[a2];simp
theorem xY(g:List Nat)(many:Nat)(gv nv tv:ox)(rows:List (List Nat))(d4:List Nat)(w:ps)(hg:GrpI g many)(e':Sl aX 1 w gv g)(hn:RowsN w nv rows)(g0:Sl jb 1 w tv d4)(hr:vX rows d4) 
  (hc:∀p,p<rows.length->∀i j,i<37->j<37->nth g i=nth g j->nth (nth rows p) i=nth (nth rows p) j) :
  Gh uV 35 [gv,.agg #[nv,tv]] w fun v w'=>∃cs,v=.agg cs.toArray/\PartV w' cs (dH g many rows) d4/\Gx w.heap.size cs/\Gc w w':=by
 have a4:=pX hg hr;refine rf func35 ntmps35 rfl rfl ?_;refine zh ?_;refine aE (au w) 1 zo rfl rfl ?_;intro db w1 O1 e4 g' h4 h9;refine ax h4 2 zo (KY _) rfl ?_;intro cb w2 O2 e8 f8 b8 h8;have e3:=e4.upd f8 zd zd;have b6:tJ (fun q=>1<=q) (fun _=>0) w O2 w2:=(g'.mono (fun _ h=>zo) zd).trans (f8.mono (fun _ h=>zo) zd);have b7:=b6.ext;refine zh ?_;refine zv (ai (us:=[nv,tv]) e3.cellsAdd (JN _) (CY _) rfl) ?_;refine zc call71 (Dm g many gv nv tv rows d4 w2 hg (e'.ext b7) (hn.ext b7) (g0.ext b7) hr hc) ?_;rintro _ w3 ⟨d8,a6,a5,rfl,o1,o2,o3,c9,a',a9,h5⟩;have d6:tJ (fun _=>False) O2 w2 O2 w3:=aa (fun h=>h) O2 h5;have e7:=e8.upd d6 zd (fun h=>h);have e9:=b6.trans (d6.mono (fun _ h=>h.elim) zd);have h3:=b8.upd d6;refine zh ?_;refine ax h3 3 zo (zeroValue139 _) rfl ?_;intro nb w4 O4 b3 g8 h2 h7;refine zsb (us:=#[d8,a6,a5]) b3 (sizeOf139 _) (by simp only[uM,o1,o2,o3];rfl) ?_;have b2:=b3.setRow (us:=#[d8,a6,a5]);have f7:tJ (fun j=>j=3) O4 w4 O4 (w4.setRow nb #[d8,a6,a5]):=rk zd b3.tag rfl;have a2:=g8.trans f7;have g9:=(d6.mono (S':=fun q=>q=3) (fun _ h=>h.elim) zd).trans a2;have e6:=e7.upd a2 zd zd;have g6:=c9.upd b8 a2;have f':=a9.slU a' b8 a2;have h1:=h2.upd f7;have b5:=e9.trans (a2.mono (fun _ h=>zo) zd);generalize w4.setRow nb #[d8,a6,a5]=w5 at *;have h6:(rows.map (px g many)).length=rows.length:=by simp
 refine zh ?_;have d1:w5.drew.cell? (nA nb 1)=some a6:=b2.cell 1 rfl;refine aI (fun W=>W.cell? (nA nb 1)=some a6) 11 rfl zk ?_
 refine zrm 0 rfl d1 rfl ?_;refine zrf 2 rfl d1 rfl ?_
 refine zt 3 rfl d1 (fun w1 f9=>RV.ld f9 rfl) ?_;refine yI (fun x:ox×ox×ox×ox×Int×Nat×(Nat->Nat)×World=>[(4,nP cb),(5,nP nb),(7,.pointer (some ⟨x.2.2.2.2.2.1,0,none⟩)),(21,.agg #[nI (dH g many rows).width,x.1,x.2.1,x.2.2.1,x.2.2.2.1]),(22,nI x.2.2.2.2.1)]) (fun x=>x.2.2.2.2.2.2.2) (fun x=>G6 x.2.2.2.2.2.2.2 x.1 (dH g many rows).usual/\G6 x.2.2.2.2.2.2.2 x.2.1 (dH g many rows).base/\G6 x.2.2.2.2.2.2.2 x.2.2.1 (dH g many rows).check/\G6 x.2.2.2.2.2.2.2 x.2.2.2.1 (dH g many rows).next/\Kq w5.heap.size x.1/\Kq w5.heap.size x.2.1/\Kq w5.heap.size x.2.2.1/\Kq w5.heap.size x.2.2.2.1/\Dc x.2.2.2.2.2.2.1 x.2.2.2.2.2.2.2 4 x.2.2.2.2.2.1 #[nI 0,nS,nS,nS,nS] 30/\tJ (fun q=>q=4) O4 w5 x.2.2.2.2.2.2.1 x.2.2.2.2.2.2.2/\GY w.heap.size x.2.2.2.2.2.2.1 x.2.2.2.2.2.2.2/\L7 x.2.2.2.2.2.2.1 x.2.2.2.2.2.2.2 x.1/\L7 x.2.2.2.2.2.2.1 x.2.2.2.2.2.2.2 x.2.1/\L7 x.2.2.2.2.2.2.1 x.2.2.2.2.2.2.2 x.2.2.1/\L7 x.2.2.2.2.2.2.1 x.2.2.2.2.2.2.2 x.2.2.2.1) #[true,true,true,true,true,true,true,true,true,false,false] 2 ?_ ?_
 ·intro hN;have hR:=h1.drew;have hU:tJ (fun q=>q=4) O4 w5 O4 w5.drew:=aa zd O4 (qN w5).drew;have k0:∀O W,tJ (fun q=>q=4) O4 w5 O W->W.cell? (nA nb 1)=some a6:=fun O W u=>(b2.upd u zd zd).cell 1 rfl
  have kg:∀O W,tJ (fun q=>q=4) O4 w5 O W->Sl encI 1 W gv (ints g):=fun O W u=>(e'.ext (b5.trans (u.mono (fun _ h=>zo) zd)).ext).natIv
  have kn:∀O W,tJ (fun q=>q=4) O4 w5 O W->Rows W a6 (kA g many rows):=fun O W u=>(c9.upd b8 (a2.mono (S':=fun q=>q=3\/q=4) (fun _ h=>.inl h) zd |>.trans (u.mono (fun _ h=>.inr h) zd))).rows.pack
  refine bV 1 8 zk rfl rfl ?_ ?_ 
  ·refine zc L4 (iQ (ints g) gv _ (kg _ _ hU)) ?_;rintro _ wa ⟨rfl,c8⟩;rw[c8,hg.cnt];clear c8 wa;refine zh ?_
   refine af (k0 _ _ hU) ?_;refine bV 4 8 zk rfl rfl ?_ ?_ 
   ·refine zc L3 (nU (many:Int) (kA g many rows) a6 _ (kn _ _ hU)) ?_;rintro _ wb ⟨pv,ep,rfl,fP,f5,d2,gP⟩;have gP:=gP a4;rw[a4,if_neg zd]at fP;obtain⟨b9,b',d3,c7,c6,c5,n1,n2,n3,n4⟩:=gP;obtain⟨uv,bv,kv,a0,pe,f1,f2,f3,f4⟩:=fP;subst pe;obtain⟨rfl,rfl,rfl,rfl,rfl⟩:_=b9/\uv=b'/\bv=d3/\kv=c7/\a0=c6:=by simpa using c5
    have fU:=hU.size;have g1:=n1.free f1 (fun x _=>by simp) hR;have g2:=n2.free f2 (fun x _=>by simp) hR;have g3:=n3.free f3 (fun x _=>by simp) hR;have g4:=n4.free f4 (fun x _=>by simp) hR;have n1:=n1.mono fU;have n2:=n2.mono fU;have n3:=n3.mono fU;have n4:=n4.mono fU;have a7:=fun O=>aa (S:=fun _=>False) (fun h=>h) O d2
    have hU:=rI hU ((a7 _).mono (fun _ h=>h.elim) zd);have hR:=Jy hR (a7 _)
    try have fC:=uh fC (a7 _) zd (fun h=>h)
    refine zh ?_;refine zaf (k0 _ _ hU) fun zS=>?_
    refine zrm 5 rfl zS rfl ?_;refine zr 6 rfl zS (fun _=>rm rfl rfl) ?_
    refine zr 7 rfl zS (fun _=>rm rfl rfl) ?_;refine pR 8 zk rfl ?_
    refine ax hR 4 zd (JY _) rfl ?_;intro pb wc Oc fC a1 d0 a3;have hU:=rI hU a1;have hR:=d0
    try have f1:=Bh f1 a3
    try have f2:=Bh f2 a3
    try have f3:=Bh f3 a3
    try have f4:=Bh f4 a3
    try have g1:=xK g1 a1
    try have g2:=xK g2 a1
    try have g3:=xK g3 a1
    try have g4:=xK g4 a1
    refine zh ?_;refine af (k0 _ _ hU) ?_
    exact C2 (hN (uv,bv,kv,a0,ep,pb,_,_) ⟨f1,f2,f3,f4,n1,n2,n3,n4,fC,hU,hR,g1,g2,g3,g4⟩) zk ⟨rfl,rfl,rfl,rfl,rfl,trivial⟩ rfl
   refine ax hR 4 zd (JY _) rfl ?_;intro pb wc Oc fC a1 d0 a3;have hU:=rI hU a1;have hR:=d0
   try have f1:=Bh f1 a3
   try have f2:=Bh f2 a3
   try have f3:=Bh f3 a3
   try have f4:=Bh f4 a3
   try have g1:=xK g1 a1
   try have g2:=xK g2 a1
   try have g3:=xK g3 a1
   try have g4:=xK g4 a1
   refine zh ?_;refine af (k0 _ _ hU) ?_
   refine pR 4 zk rfl ?_;refine zc L3 (nU (many:Int) (kA g many rows) a6 _ (kn _ _ hU)) ?_
   rintro _ wb ⟨pv,ep,rfl,fP,f5,d2,gP⟩;have gP:=gP a4;rw[a4,if_neg zd]at fP;obtain⟨b9,b',d3,c7,c6,c5,n1,n2,n3,n4⟩:=gP;obtain⟨uv,bv,kv,a0,pe,f1,f2,f3,f4⟩:=fP;subst pe;obtain⟨rfl,rfl,rfl,rfl,rfl⟩:_=b9/\uv=b'/\bv=d3/\kv=c7/\a0=c6:=by simpa using c5
   have fU:=hU.size;have g1:=n1.free f1 (fun x _=>by simp) hR;have g2:=n2.free f2 (fun x _=>by simp) hR;have g3:=n3.free f3 (fun x _=>by simp) hR;have g4:=n4.free f4 (fun x _=>by simp) hR;have n1:=n1.mono fU;have n2:=n2.mono fU;have n3:=n3.mono fU;have n4:=n4.mono fU;have a7:=fun O=>aa (S:=fun _=>False) (fun h=>h) O d2
   have hU:=rI hU ((a7 _).mono (fun _ h=>h.elim) zd);have hR:=Jy hR (a7 _)
   try have fC:=uh fC (a7 _) zd (fun h=>h)
   refine zh ?_;refine zaf (k0 _ _ hU) fun zS=>?_
   refine zrm 5 rfl zS rfl ?_;refine zr 6 rfl zS (fun _=>rm rfl rfl) ?_
   refine zr 7 rfl zS (fun _=>rm rfl rfl) ?_;exact C2 (hN (uv,bv,kv,a0,ep,pb,_,_) ⟨f1,f2,f3,f4,n1,n2,n3,n4,fC,hU,hR,g1,g2,g3,g4⟩) zk ⟨rfl,rfl,rfl,rfl,rfl,trivial⟩ rfl
  refine ax hR 4 zd (JY _) rfl ?_;intro pb wc Oc fC a1 d0 a3;have hU:=rI hU a1;have hR:=d0
  try have f1:=Bh f1 a3
  try have f2:=Bh f2 a3
  try have f3:=Bh f3 a3
  try have f4:=Bh f4 a3
  try have g1:=xK g1 a1
  try have g2:=xK g2 a1
  try have g3:=xK g3 a1
  try have g4:=xK g4 a1
  refine zh ?_;refine af (k0 _ _ hU) ?_
  refine pR 1 zk rfl ?_;refine zc L4 (iQ (ints g) gv _ (kg _ _ hU)) ?_
  rintro _ wa ⟨rfl,c8⟩;rw[c8,hg.cnt];clear c8 wa;refine zh ?_;refine af (k0 _ _ hU) ?_;refine pR 4 zk rfl ?_;refine zc L3 (nU (many:Int) (kA g many rows) a6 _ (kn _ _ hU)) ?_;rintro _ wb ⟨pv,ep,rfl,fP,f5,d2,gP⟩;have gP:=gP a4;rw[a4,if_neg zd]at fP;obtain⟨b9,b',d3,c7,c6,c5,n1,n2,n3,n4⟩:=gP;obtain⟨uv,bv,kv,a0,pe,f1,f2,f3,f4⟩:=fP;subst pe;obtain⟨rfl,rfl,rfl,rfl,rfl⟩:_=b9/\uv=b'/\bv=d3/\kv=c7/\a0=c6:=by simpa using c5
  have fU:=hU.size;have g1:=n1.free f1 (fun x _=>by simp) hR;have g2:=n2.free f2 (fun x _=>by simp) hR;have g3:=n3.free f3 (fun x _=>by simp) hR;have g4:=n4.free f4 (fun x _=>by simp) hR;have n1:=n1.mono fU;have n2:=n2.mono fU;have n3:=n3.mono fU;have n4:=n4.mono fU;have a7:=fun O=>aa (S:=fun _=>False) (fun h=>h) O d2
  have hU:=rI hU ((a7 _).mono (fun _ h=>h.elim) zd);have hR:=Jy hR (a7 _)
  try have fC:=uh fC (a7 _) zd (fun h=>h)
  refine zh ?_;refine zaf (k0 _ _ hU) fun zS=>?_
  refine zrm 5 rfl zS rfl ?_;refine zr 6 rfl zS (fun _=>rm rfl rfl) ?_
  refine zr 7 rfl zS (fun _=>rm rfl rfl) ?_;exact C2 (hN (uv,bv,kv,a0,ep,pb,_,_) ⟨f1,f2,f3,f4,n1,n2,n3,n4,fC,hU,hR,g1,g2,g3,g4⟩) zk ⟨rfl,rfl,rfl,rfl,rfl,trivial⟩ rfl
 rintro⟨uv,bv,kv,a0,ep,pb,O7,w7⟩ ⟨f1,f2,f3,f4,n1,n2,n3,n4,b0,a8,h0,g1,g2,g3,g4⟩;dsimp only at f1 f2 f3 f4 n1 n2 n3 n4 b0 a8 h0 g1 g2 g3 g4 ⊢;have q1:=f1.one;have q2:=f2.one;have q3:=f3.one;have q4:=f4.one;have e1:=b2.upd a8 zd zd;have e5:=e6.upd a8 zd zd;refine pR 9 zk rfl ?_;refine zsb (us:=#[nI (dH g many rows).width,uv,bv,kv,a0]) b0 (Kz _) (by simp only[uM,q1,q2,q3,q4];rfl) ?_;have e0:=b0.setRow (us:=#[nI (dH g many rows).width,uv,bv,kv,a0]);have d7:tJ (fun j=>j=4) O7 w7 O7 (w7.setRow pb #[nI (dH g many rows).width,uv,bv,kv,a0]):=rk zd b0.tag rfl;generalize w7.setRow pb #[nI (dH g many rows).width,uv,bv,kv,a0]=w8 at *;have b1:=e1.upd d7 zd zd;have b4:=e5.upd d7 zd zd;have c':=a8.trans d7;have d9:=a9.slU a' b8 ((a2.mono (S':=fun q=>q=3\/q=4) (fun _ h=>.inl h) zd).trans (c'.mono (fun _ h=>.inr h) zd));have d':=(a9.free a' (fun x _=>by simp) b8).upd ((a2.mono (S':=fun q=>q=3\/q=4) (fun _ h=>.inl h) zd).trans (c'.mono (fun _ h=>.inr h) zd));refine zh ?_;refine af (b1.cell 1 rfl) ?_;have e2:w8.cell? (nA nb 2)=some a5:=b1.cell 2 rfl;refine zra 10 rfl (b1.cell 1 rfl) rfl ?_;refine ug zk ?_;refine zh ?_;refine zv (ai (us:=[nI (dH g many rows).width,uv,bv,kv,a0]) e0.cellsAdd (isAgg30 _) (Kz _) rfl) ?_;obtain⟨ta,tc,g5,_⟩:=a'.shape;refine zh ?_;refine zv (z8 (cells:=#[nI (dH g many rows).width,uv,bv,kv,a0,a5]) Jh (KY _) rfl (by rw[g5];rfl)) ?_
 refine zsb (us:=#[nI (dH g many rows).width,uv,bv,kv,a0,a5]) b4 (zR _) (by simp only[uM,q1,q2,q3,q4,o3];rfl) ?_;have g7:=b4.setRow (us:=#[nI (dH g many rows).width,uv,bv,kv,a0,a5]);have f6:tJ (fun j=>j=2) O7 w8 O7 (w8.setRow cb #[nI (dH g many rows).width,uv,bv,kv,a0,a5]):=rk zd b4.tag rfl;have hU8z:=(d7.mono (S':=fun q=>q=2\/q=4) (fun _ h=>.inr h) zd).trans (f6.mono (fun _ h=>.inl h) zd);have d5:=b5.size;refine zh ?_
 refine aN rfl rfl (g7.cellsAdd) (J2 _) (zR _) (⟨[nI (dH g many rows).width,uv,bv,kv,a0,a5],rfl,⟨uv,bv,kv,a0,a5,rfl,f1.upd g1 hU8z,f2.upd g2 hU8z,f3.upd g3 hU8z,f4.upd g4 hU8z,d9.upd d' f6⟩,fun v hv=>?_,((b5.trans (a8.mono (fun _ h=>zo) zd)).trans (hU8z.mono (fun _ h=>zo) zd)).ext⟩);simp only[pN,rj,or_false]at hv
 rcases hv with rfl|rfl|rfl|rfl|rfl|rfl
 ·exact fun a n c e=>by cases e
 ·exact n1.mono d5
 ·exact n2.mono d5
 ·exact n3.mono d5
 ·exact n4.mono d5
 exact a9.mono b6.size
end Go.Proofs.YtlehnbkknlpkbaaGreatDoor
section
namespace Go.VL
open Go.Proofs
theorem eL{P:Ko}{N:Nat}{ops:Array Oper}{Q:Exit->Act->ps->Prop}{a0:List Oper}{st:St}{w:ps}{t:BV}{p:String}{e:Array Edge}{x y:KS} 
  {T:BV} {O:Nat->Nat} {i b:Nat} {cs us:Array ox} {E:BV} (off:Nat) (a1:Array ox) (hb:Dc O w i b cs E) (a2:(cs.toList.take off++us.toList++cs.toList.drop (off+us.size)).toArray=a1) (hs:off+us.size<=cs.size) (hT:(sizeOf T).run P w=.ok us.size w) (h1:us.toList.all uY=true)
  {q:JB} (hx:ev st x=some (.pointer (some q))) (hq:q=⟨b,off,none⟩) (hy:ev st y=some (.agg us))
  (h:WL P N ops Q a0 st (w.setRow b a1)):WL P N ops Q (⟨none,.store T x y,t,p,e,none⟩::a0) st w:=by
 subst a2;exact lq off hb hs hT h1 hx hq hy h
end Go.VL
namespace Go.Proofs.YtlehnbkknlpkbaaGreatDoor
open Go.VL Go.Proofs
set_option maxRecDepth 10000
theorem FM:cV uV 35 #[(0,1),(1,1),(2,1),(3,1),(4,1),(5,6),(11,6)]:=⟨_,underlying35,fun w=>by kernel_rfl⟩
structure TabM where
 ig:Nat
 kp:Nat
 br:Nat
 rules:Int
 groups:List Int
 left:Kc
 lt:List Nat
 right:Kc
 rt:List Nat
abbrev dq(ig kp br:Nat)(rules:Int)(gv:ox)(lc rc:List ox):List ox:=[.int .u64 (ig:Int),.int .u64 (kp:Int),.int .u64 (br:Int),nI rules,gv]++lc++rc
def TabV(w:ps)(v:ox)(t:TabM):Prop:=∃gv lc rc,v=.agg (dq t.ig t.kp t.br t.rules gv lc rc).toArray/\G6 w gv t.groups/\PartV w lc t.left t.lt/\PartV w rc t.right t.rt
def TabN(B:Nat)(v:ox):Prop:=∀cs:List ox,v=.agg cs.toArray->Gx B cs
abbrev dO:List ox:=[nI 0,nS,nS,nS,nS,nS]
abbrev tab0:Array ox:=(dq 0 0 0 0 (nS) dO dO).toArray
def iE(ts:List R3):Nat->Nat
 |0=>0
 |i+1=>if(nth ts i).2.2=true then iE ts i ||| 2^i else iE ts i
theorem xk(ts:List R3):∀i,i<=40->iE ts i<2^40
 |0,_=>by unfold iE;decide
 |i+1,h=>by
  unfold iE
  split
  ·exact yJ (xk ts i zo) (z6 zd zo)
  exact xk ts i zo
abbrev nZ(ts:List R3):List Nd:=ts.map (·.1)
abbrev fM(ts:List R3):List Nd:=ts.map (·.2.1)
def nC(li lk:List Int)(ts:List R3)(A B:List (List Nat)×List Nat):TabM:=
 ⟨cY li,cY lk,iE ts ts.length,ts.length,ints (bJ [A.1,B.1]),dH (bJ [A.1,B.1]) (iq (ints (bJ [A.1,B.1]))) A.1,A.2,dH (bJ [A.1,B.1]) (iq (ints (bJ [A.1,B.1]))) B.1,B.2⟩
def PostC(B:Nat)(w:ps)(v:ox)(li lk:List Int)(ts:List R3):Prop:=
 (dE li lk ts=false/\v=.tuple #[.agg tab0,nI 1])\/dE li lk ts=true/\
  ((∃a b clA clB u,stM true (nZ ts)=some a/\stM false (fM ts)=some b/\vX a.1 a.2/\vX b.1 b.2/\L9 clA a/\L9 clB b/\v=.tuple #[u,nI 0]/\TabV w u (nC li lk ts (aU clA a.1 a.2) (aU clB b.1 b.2))/\TabN B u)\/
   ((stM true (nZ ts)=none\/stM false (fM ts)=none)/\v=.tuple #[.agg tab0,nI 7]))
theorem eo{li lk:List Int}{ts:List R3}(h:dE li lk ts=true):ts.length<=40/\(∀c∈li,0<=c/\c<=35)/\(∀c∈lk,0<=c/\c<=35)/\∀t∈ts,mP t=true:=by
 have a0:∀ {l:List Int},dj l=true->∀c∈l,0<=c/\c<=35:=fun {l} h c hc=>by
  obtain⟨j,hj,rfl⟩:=cI hc;have:=bz.1 (show anyN (jU l) l.length=false by simpa[dj]using h) j hj;simp only[jU,Bool.or_eq_false_iff,decide_eq_false_iff_not]at this;omega
 simp only[dE,th,decide_eq_true_eq]at h;obtain⟨⟨⟨h1,h2⟩,h3⟩,h4⟩:=h;refine⟨zo,a0 h2,a0 h3,fun t ht=>?_⟩;obtain⟨j,hj,rfl⟩:=cI ht;have:=bz.1 (show anyN (fun i=>!(mP (nth ts i))) ts.length=false by simpa[G9]using h4) j hj;simpa using this
theorem PostSt.uni{B:Nat}{w:ps}{v:ox}{o:Option (List (List Nat)×List Nat)}(h:PostSt B w v o):∃nv tv,∃e:Int,v=.tuple #[.agg #[nv,tv],nI e]/\nv.oneCell'=true/\tv.oneCell'=true/\(e≠0->o=none)/\
  (e=0->∃d cl,o=some d/\vX d.1 d.2/\L9 cl d/\RowsG B w nv (aU cl d.1 d.2).1/\Sl jb 1 w tv (aU cl d.1 d.2).2/\Kq B tv):=by
 cases o with
 |none=>
  obtain⟨e,he,rfl⟩:=h;exact⟨_,_,e,rfl,rfl,rfl,fun _=>rfl,fun e0=>absurd e0 he⟩
 |some d=>
  obtain⟨cl,nv,tv,rfl,o1,o2,h1,h2,h3,h4,h5⟩:=h;exact⟨nv,tv,0,rfl,o1,o2,fun e=>absurd rfl e,fun _=>⟨d,cl,rfl,h1,h2,h3,h4,h5⟩⟩
theorem eT{rows:List (List Nat)}{a0:List Nat}(hr:vX rows a0)(cl:Nat->Nat):vX (aU cl rows a0).1 (aU cl rows a0).2:=by
 obtain⟨F,h⟩:=gx (cl:=cl) (tl:=nth a0) hr.nx (rows.length+1) 0 [0] [] [] (nt hr.pos) zo;have h1:=h.rl;have h2:=h.tln;have h3:=h.reps.len;have h4:=hr.le;have h5:=h.p0
 exact⟨by show 0<(fS _ _ _ _ _ _ _ _).1.length;omega,by show(fS _ _ _ _ _ _ _ _).1.length<=1000;omega,by show(fS _ _ _ _ _ _ _ _).2.length=(fS _ _ _ _ _ _ _ _).1.length;omega,fun j hj=>by
  obtain⟨r1,r2⟩:=h.row j (by rw[<-h1];exact hj)
  exact⟨r1,fun m hm=>by have:=(r2 m hm).1;rw[<-h1]at this;exact this⟩⟩
section
variable(li lk:List Int)(ts:List R3)(A B:List (List Nat)×List Nat)
theorem Fs:(nC li lk ts A B).ig=cY li:=rfl
theorem Fq:(nC li lk ts A B).kp=cY lk:=rfl
theorem Ft:(nC li lk ts A B).br=iE ts ts.length:=rfl
theorem yU:(nC li lk ts A B).rules=(ts.length:Int):=rfl
theorem vi:(nC li lk ts A B).groups=ints (bJ [A.1,B.1]):=rfl
theorem sU:(nC li lk ts A B).left=dH (bJ [A.1,B.1]) (iq (ints (bJ [A.1,B.1]))) A.1:=rfl
theorem pS:(nC li lk ts A B).right=dH (bJ [A.1,B.1]) (iq (ints (bJ [A.1,B.1]))) B.1:=rfl
theorem AE:(nC li lk ts A B).lt=A.2:=rfl
theorem AD:(nC li lk ts A B).rt=B.2:=rfl
end
theorem C1{B0:Nat}{w:ps}{li lk:List Int}{ts:List R3}{xs:List X3}{a b A B:List (List Nat)×List Nat}{a6 a5:Nat->Nat}{g:List Nat}{many a7:Nat}{pa pb:Kc}{gv:ox}{lc rc:List ox}(a8:dE li lk ts=true)(b4:stM true (nZ ts)=some a)(b1:stM false (fM ts)=some b)(b5:vX a.1 a.2)(b2:vX b.1 b.2)(b6:L9 a6 a)(b3:L9 a5 b) 
  (hA:A=aU a6 a.1 a.2) (hB:B=aU a5 b.1 b.2) (a1:g=bJ [A.1,B.1]) (a0:iq (ints g)=many) (a':pa=dH g many A.1) (a9:pb=dH g many B.1) (a4:a7=iE ts xs.length) (hl:ts.length=xs.length) (b0:Sl aX 1 w gv g) (b8:PartV w lc pa A.2) (b7:PartV w rc pb B.2)
  (n1:Kq B0 gv) (n2:Gx B0 lc) (n3:Gx B0 rc):PostC B0 w (.tuple #[.agg (dq (cY li) (cY lk) a7 (xs.length:Nat) gv lc rc).toArray,nI 0]) li lk ts:=by
 refine .inr ⟨a8,.inl ⟨a,b,a6,a5,_,b4,b1,b5,b2,b6,b3,rfl,?_,?_⟩⟩
 ·rw[<-hA,<-hB];have a0:iq (ints (bJ [A.1,B.1]))=many:=by rw[<-a1];exact a0
  refine⟨gv,lc,rc,?_,?_,?_,?_⟩
  ·rw[Fs,Fq,Ft,yU,hl,<-a4]
  ·rw[vi,<-a1];exact b0.natIv
  ·rw[sU,AE,a0,<-a1,<-a'];exact b8
  rw[pS,AD,a0,<-a1,<-a9];exact b7
 intro cs a3;have a2:cs=dq (cY li) (cY lk) a7 (xs.length:Nat) gv lc rc:=by
  have:=(KP a3).symm;simpa using this
 subst a2;intro v hv
 rcases uw.1 hv with hv|hv
 ·rcases uw.1 hv with hv|hv
  ·simp only[pN,rj,or_false]at hv
   rcases hv with rfl|rfl|rfl|rfl|rfl
   ·exact fun a n c e=>by cases e
   ·exact fun a n c e=>by cases e
   ·exact fun a n c e=>by cases e
   ·exact fun a n c e=>by cases e
   exact n1
  exact n2 v hv
 exact n3 v hv
theorem oG(li lk:List Int)(ts:List R3)(v:ox)(w:ps)(h:Tx w v li lk ts):
  Gh uV 9 [v] w fun u w' => Gc w w' ∧ PostC w.heap.size w' u li lk ts := by
 obtain⟨ig, kp, ru, xs, rfl, hi, hk, hru, hl, hx⟩ := h.ex
 have i1 := hi.one
 have i2 := hk.one
 have i3 := hru.one
 refine rf func9 ntmps9 rfl rfl ?_
 refine oz ?_
 refine ow ?_
 refine aE (au w) 1 (by omega) rfl rfl ?_
 intro db w1 O1 hdb1 hU1 hR1 hE1
 refine ax hR1 2 (by omega) (x4 _) rfl ?_
 intro cb w2 O2 hcb2 hU2 hR2 hE2
 have hdb2 := hdb1.upd hU2 (by decide) (by decide)
 have hU02:tJ (fun q => 1 ≤ q) (fun _ => 0) w O2 w2 := (hU1.mono (fun _ h => by omega) (by decide)).trans (hU2.mono (fun _ h => by omega) (by decide))
 have hE02 := hU02.ext
 refine zv (oU rfl) ?_
 refine ix ?_
 refine az ?_
 refine oz ?_
 refine oz ?_
 refine ow ?_
 refine zv (ai (us := [ig, kp, ru]) hdb2.cellsAdd (isAgg41 _) (sizeOf41 _) rfl) ?_
 refine zc call31 (za li lk ts xs ig kp ru w2 (hi.ext hE02) (hk.ext hE02) (hru.ext hE02) hl (fun i hi => (hx i hi).ext hE02)) ?_
 rintro _ w3 ⟨rfl, hE3⟩
 have hX3:tJ (fun _ => False) O2 w2 O2 w3 := aa (fun h => h) O2 hE3
 have hdb3 := hdb2.upd hX3 (by decide) (fun h => h)
 have hcb3 := hcb2.upd hX3 (by decide) (fun h => h)
 have hU03 := hU02.trans (hX3.mono (fun _ h => h.elim) (by decide))
 have hR3 := hR2.upd hX3
 refine zv (GZ rfl) ?_
 refine ix ?_
 refine az ?_
 by_cases hrf:dE li lk ts = false
 ·skip
  refine aZ rfl ((by rw[hrf]; rfl)) ?_
  refine oz ?_
  refine ow ?_
  refine zv (z8 (cells := tab0) FM (x4 _) rfl rfl) ?_
  refine zsa (us := tab0) hcb3 (y8 _) ?_
  have hcz := hcb3.setRow (us := tab0)
  have hUz:tJ (fun j => j = 2) O2 w3 O2 (w3.setRow cb tab0) := rk (by decide) hcb3.tag rfl
  refine zv (oU rfl) ?_
  refine ix ?_
  refine az ?_
  refine x8 ?_
  refine bT ?_
  refine bA rfl rfl rfl (hcz.cellsAdd) (J1 _) (y8 _) (⟨(hU03.trans (hUz.mono (fun _ h => by omega) (by decide))).ext, .inl ⟨hrf, rfl⟩⟩)
 have hrt:dE li lk ts = true := by simpa using hrf
 obtain⟨h40, hli, hlk, hrr⟩ := eo hrt
 refine aS rfl ((by rw[hrt]; rfl)) ?_
 have hru3 := hru.ext hU03.ext
 refine tG ?_
 refine az ?_
 refine oz ?_
 have d0 := hdb3.drew.cellsAdd
 refine aI (fun W => ∀j u, [ig, kp, ru][j]? = some u → W.cell? (nA db j) = some u) 12 rfl (by kernel_rfl) ?_
 refine zrf 0 rfl d0 rfl ?_
 refine zt 1 rfl d0 (fun w1 hw1 => RV.ld (hw1 0 _ rfl) rfl) ?_
 refine zrf 3 rfl d0 rfl ?_
 refine zt 4 rfl d0 (fun w1 hw1 => RV.ld (hw1 1 _ rfl) rfl) ?_
 refine zrf 6 rfl d0 rfl ?_
 refine zt 7 rfl d0 (fun w1 hw1 => RV.ld (hw1 2 _ rfl) rfl) ?_
 refine zr 8 rfl d0 (fun _ => aM hru3.sh JM rfl) ?_
 refine yI (fun x:Nat×(Nat → Nat)×World => [(1, nP db), (2, nP cb), (4, .pointer (some ⟨x.1, 0, none⟩)), (26, .agg (dq (cY li) (cY lk) 0 (xs.length:Nat) (nS) dO dO).toArray)]) (fun x => x.2.2) (fun x => Dc x.2.1 x.2.2 3 x.1 tab0 35 ∧ tJ (fun q => q = 3) O2 w3 x.2.1 x.2.2 ∧ GY w.heap.size x.2.1 x.2.2) #[true, true, true, true, true, true, true, true, true, true, true, false] 1 ?_ ?_
 ·intro hN
  have hR := hR3.drew
  have hU:tJ (fun q => q = 3) O2 w3 O2 w3.drew := aa (by decide) O2 (qN w3).drew
  have k0:∀O W, tJ (fun q => q = 3) O2 w3 O W → ∀(j:Nat) (u:ox), [ig, kp, ru][j]? = some u → W.cell? (nA db j) = some u := fun O W u => (hdb3.upd u (by decide) (by decide)).cellsAdd
  have ki:∀O W, tJ (fun q => q = 3) O2 w3 O W → Sl encI 1 W ig li := fun O W u => hi.ext (hU03.trans (u.mono (fun _ h => by omega) (by decide))).ext
  have kk:∀O W, tJ (fun q => q = 3) O2 w3 O W → Sl encI 1 W kp lk := fun O W u => hk.ext (hU03.trans (u.mono (fun _ h => by omega) (by decide))).ext
  refine bV 2 10 (by kernel_rfl) rfl rfl ?_ ?_ 
  ·skip
   refine zc Kb (nJ li ig _ (ki _ _ hU) hli) ?_
   rintro _ wa ⟨rfl, hwa⟩
   rw[hwa]
   clear hwa wa
   refine ix ?_
   refine af (k0 _ _ hU) ?_
   refine bV 5 10 (by kernel_rfl) rfl rfl ?_ ?_ 
   ·skip
    refine zc Kb (nJ lk kp _ (kk _ _ hU) hlk) ?_
    rintro _ wa ⟨rfl, hwa⟩
    rw[hwa]
    clear hwa wa
    refine ix ?_
    refine af (k0 _ _ hU) ?_
    refine zr 9 rfl (k0 _ _ hU) (fun _ => z8 (cells := (dq (cY li) (cY lk) 0 (xs.length:Nat) (nS) dO dO).toArray) FM (x4 _) rfl rfl) ?_
    refine pR 10 (by kernel_rfl) rfl ?_
    refine ax hR 3 (by decide) (x4 _) rfl ?_
    intro tb wc Oc fC hXc hRc hEc
    have hU := rI hU hXc
    have hR := hRc
    refine ix ?_
    refine af (k0 _ _ hU) ?_
    exact C2 (hN (tb, _, _) ⟨fC, hU, hR⟩) (by kernel_rfl) ⟨rfl, rfl, rfl, rfl, trivial⟩ rfl
   ·skip
    refine ax hR 3 (by decide) (x4 _) rfl ?_
    intro tb wc Oc fC hXc hRc hEc
    have hU := rI hU hXc
    have hR := hRc
    refine ix ?_
    refine af (k0 _ _ hU) ?_
    refine pR 5 (by kernel_rfl) rfl ?_
    refine zc Kb (nJ lk kp _ (kk _ _ hU) hlk) ?_
    rintro _ wa ⟨rfl, hwa⟩
    rw[hwa]
    clear hwa wa
    refine ix ?_
    refine af (k0 _ _ hU) ?_
    refine zr 9 rfl (k0 _ _ hU) (fun _ => z8 (cells := (dq (cY li) (cY lk) 0 (xs.length:Nat) (nS) dO dO).toArray) FM (x4 _) rfl rfl) ?_
    exact C2 (hN (tb, _, _) ⟨fC, hU, hR⟩) (by kernel_rfl) ⟨rfl, rfl, rfl, rfl, trivial⟩ rfl
  ·skip
   refine ax hR 3 (by decide) (x4 _) rfl ?_
   intro tb wc Oc fC hXc hRc hEc
   have hU := rI hU hXc
   have hR := hRc
   refine ix ?_
   refine af (k0 _ _ hU) ?_
   refine pR 2 (by kernel_rfl) rfl ?_
   refine zc Kb (nJ li ig _ (ki _ _ hU) hli) ?_
   rintro _ wa ⟨rfl, hwa⟩
   rw[hwa]
   clear hwa wa
   refine ix ?_
   refine af (k0 _ _ hU) ?_
   refine pR 5 (by kernel_rfl) rfl ?_
   refine zc Kb (nJ lk kp _ (kk _ _ hU) hlk) ?_
   rintro _ wa ⟨rfl, hwa⟩
   rw[hwa]
   clear hwa wa
   refine ix ?_
   refine af (k0 _ _ hU) ?_
   refine zr 9 rfl (k0 _ _ hU) (fun _ => z8 (cells := (dq (cY li) (cY lk) 0 (xs.length:Nat) (nS) dO dO).toArray) FM (x4 _) rfl rfl) ?_
   exact C2 (hN (tb, _, _) ⟨fC, hU, hR⟩) (by kernel_rfl) ⟨rfl, rfl, rfl, rfl, trivial⟩ rfl
 rintro⟨tb, O4, w4⟩ ⟨htb4, hU4, hR4⟩
 dsimp only at htb4 hU4 hR4 ⊢
 have hdb4 := hdb3.upd hU4 (by decide) (by decide)
 have hcb4 := hcb3.upd hU4 (by decide) (by decide)
 refine pR 11 (by kernel_rfl) rfl ?_
 refine zsa (us := (dq (cY li) (cY lk) 0 (xs.length:Nat) (nS) dO dO).toArray) htb4 (y8 _) ?_
 have htb5 := htb4.setRow (us := (dq (cY li) (cY lk) 0 (xs.length:Nat) (nS) dO dO).toArray)
 have hU5:tJ (fun j => j = 3) O4 w4 O4 (w4.setRow tb (dq (cY li) (cY lk) 0 (xs.length:Nat) (nS) dO dO).toArray) := rk (by decide) htb4.tag rfl
 generalize w4.setRow tb (dq (cY li) (cY lk) 0 (xs.length:Nat) (nS) dO dO).toArray = w5 at *
 have hdb5 := hdb4.upd hU5 (by decide) (by decide)
 have hcb5 := hcb4.upd hU5 (by decide) (by decide)
 have hR5 := hR4.upd hU5
 have hU05 := hU03.trans ((hU4.trans hU5).mono (fun _ h => by omega) (by decide))
 refine ix ?_
 refine af (hdb5.cellsAdd) ?_
 have hru5 := hru.ext hU05.ext
 have c2:w5.cell? (nA db 2) = some ru := hdb5.cell 2 rfl
 have hb40:(2^40:Nat) = 1099511627776 := by decide
 refine ug (by kernel_rfl) ?_
 refine az ?_
 refine oz ?_
 refine ow ?_
 refine zv (oU rfl) ?_
 refine zv (oU rfl) ?_
 refine ix ?_
 refine az ?_
 refine oz ?_
 refine oz ?_
 refine ow ?_
 refine zv (RV.fa rfl) ?_
 refine zv (RV.ld c2 rfl) ?_
 refine zv (KH (by first | exact hru5) JM rfl) ?_
 refine zv (ln rfl) ?_
 refine ix ?_
 refine az ?_
 refine z7 ?_
 refine zlp (fun z:Nat×(Nat → Nat)×World×ox×ox => [(1, nP db), (2, nP cb), (4, nP tb), (5, z.2.2.2.1), (6, z.2.2.2.2), (28, ru), (29, nI xs.length), (30, nI z.1)]) (fun z => z.2.2.1) (fun z => z.1 ≤ xs.length ∧ tJ (fun q => 3 ≤ q) O4 w5 z.2.1 z.2.2.1 ∧ GY w.heap.size z.2.1 z.2.2.1 ∧ Dc z.2.1 z.2.2.1 3 tb (dq (cY li) (cY lk) (iE ts z.1) (xs.length:Nat) (nS) dO dO).toArray 35 ∧ J5 aY 83 3 z.2.1 z.2.2.1 4 z.2.2.2.1 ((xs.take z.1).map (·.1)) ∧ J5 aY 83 3 z.2.1 z.2.2.1 5 z.2.2.2.2 ((xs.take z.1).map (·.2.1))) (fun z => xs.length - z.1) (0, O4, w5, nS, nS) (⟨tq _, Ji (by decide) _ _, hR5, htb5, DZ _ _ _ _ _ _, DZ _ _ _ _ _ _⟩) ?_
 rintro⟨i, O9, w9, lv, rv⟩ ⟨hi9, hU9, hR9, htb9, hlr9, hrr9⟩
 dsimp only at hi9 hU9 hR9 htb9 hlr9 hrr9 ⊢
 have hUw9 := hU05.trans (hU9.mono (fun _ h => by omega) (by decide))
 have hru9 := hru.ext hUw9.ext
 have hxl:xs.length ≤ 40 := by omega
 refine oz ?_
 refine ow ?_
 refine zv (Km rfl rfl) ?_
 refine ix ?_
 refine az ?_
 refine oz ?_
 refine zC ?_ ?_
 ·intro hlt
  replace hlt:i < xs.length := by have := of_decide_eq_true hlt; omega
  obtain⟨x, hxe⟩:∃x, x = nth xs i := ⟨_, rfl⟩
  have hxi := hx i hlt
  rw[← hxe]at hxi
  have p1 := hxi.1.one
  have p2 := hxi.2.1.one
  have hro:(cj x).toArray.toList.all uY = true := by obtain⟨x1, x2, bk⟩ := x; exact kz p1 p2
  refine tG ?_
  refine az ?_
  refine oz ?_
  refine z7 ?_
  refine oz ?_
  refine ow ?_
  refine zv (ln rfl) ?_
  refine zv (JC (by first | exact hru9) JM (Ky _) rfl rfl _ rfl (by omega)) ?_
  refine zv (ai (us := cj x) (fun j u hu => hru9.cell hlt (by rw[← hxe]; exact hu)) (isAgg85 _) (Ky _) rfl) ?_
  refine ax hR9 6 (by omega) (zeroValue85 _) rfl ?_
  intro rb w10 O10 hrb10 hU10 hR10 hE10
  refine zv (oU rfl) ?_
  refine zsb (us := (cj x).toArray) hrb10 (Ky _) hro ?_
  have hrb11 := hrb10.setRow (us := (cj x).toArray)
  have hU11:tJ (fun j => j = 6) O10 w10 O10 (w10.setRow rb (cj x).toArray) := rk (by decide) hrb10.tag rfl
  generalize w10.setRow rb (cj x).toArray = w11 at *
  have hU911 := hU10.trans hU11
  have htb11 := htb9.upd hU911 (by decide) (by decide)
  have hlr11 := hlr9.upd hU911 (by decide) (by decide)
  have hrr11 := hrr9.upd hU911 (by decide) (by decide)
  have hR11 := hR10.upd hU11
  obtain⟨rc1, rc2, rc3, _⟩ := iT hrb11
  have hll:((xs.take i).map (·.1)).length = i := by simp; omega
  have hrl:((xs.take i).map (·.2.1)).length = i := by simp; omega
  refine ix ?_
  refine az ?_
  refine oz ?_
  refine aI (fun W => (∀(q:Nat) (u:ox), (aY x.1)[q]? = some u → W.cell? (nA rb q) = some u) ∧ (∀(q:Nat) (u:ox), (aY x.2.1)[q]? = some u → W.cell? ((nA rb 3).add q) = some u)) 12 rfl (by kernel_rfl) ?_
  refine zin ⟨rc1 _ (qN w11).drew, rc2 _ (qN w11).drew⟩ fun zS => ?_
  refine zrm 0 rfl zS rfl ?_
  refine zrf 1 rfl zS rfl ?_
  refine zt 2 rfl zS (fun w1 hw1 => ai (us := aY x.1) hw1.1 (Ke _) (IP _) rfl) ?_
  refine zrm 5 rfl zS rfl ?_
  refine zrf 6 rfl zS rfl ?_
  refine zt 7 rfl zS (fun w1 hw1 => ai (us := aY x.2.1) hw1.2 (Ke _) (IP _) rfl) ?_
  refine yI (fun y:ox×ox×(Nat → Nat)×World => [(1, nP db), (2, nP cb), (4, nP tb), (7, nI (i:Nat)), (8, nP rb), (28, ru), (29, nI xs.length), (30, nI (i:Nat)), (39, y.1), (44, y.2.1)]) (fun y => y.2.2.2) (fun y => J5 aY 83 3 y.2.2.1 y.2.2.2 4 y.1 ((xs.take i).map (·.1) ++ [x.1]) ∧ J5 aY 83 3 y.2.2.1 y.2.2.2 5 y.2.1 ((xs.take i).map (·.2.1) ++ [x.2.1]) ∧ tJ (fun q => q = 4 ∨ q = 5 ∨ q = 7 ∨ q = 8) O10 w11 y.2.2.1 y.2.2.2 ∧ GY w.heap.size y.2.2.1 y.2.2.2) #[true, true, true, true, true, true, true, true, true, true, false, false] 2 ?_ ?_
  ·intro hN
   have hR := hR11.drew
   have hU:tJ (fun q => q = 4 ∨ q = 5 ∨ q = 7 ∨ q = 8) O10 w11 O10 w11.drew := aa (by decide) O10 (qN w11).drew
   have k0:∀O W, tJ (fun q => q = 4 ∨ q = 5 ∨ q = 7 ∨ q = 8) O10 w11 O W → (∀(q:Nat) (u:ox), (aY x.1)[q]? = some u → W.cell? (nA rb q) = some u) ∧ (∀(q:Nat) (u:ox), (aY x.2.1)[q]? = some u → W.cell? ((nA rb 3).add q) = some u) := fun O W u => by
    obtain⟨r1, r2, _, _⟩ := iT (hrb11.upd u (by decide) (by decide))
    exact⟨r1 _ (qN _), r2 _ (qN _)⟩
   have rA := hlr11.drew
   have rB := hrr11.drew
   refine bV 3 8 (by kernel_rfl) rfl rfl ?_ ?_ 
   ·skip
    refine bS elN (enc := aY) hR 7 (by decide) x.1 rfl rfl rfl (by decide) rfl ?_
    intro sva Wa Oa sA hXa hRa
    have hU := rI hU (yr hXa (fun _ h => .inr (.inr (.inl h))) (by decide))
    have hR := hRa
    have rA := rU rA hXa (by decide) (by decide)
    have rB := rU rB hXa (by decide) (by decide)
    try have sB := rU sB hXa (by decide) (by decide)
    refine ix ?_
    refine af (k0 _ _ hU) ?_
    refine bV 4 8 (by kernel_rfl) rfl rfl ?_ ?_ 
    ·skip
     refine aC elN rA hR sA.sl (by simp) rfl rfl (by simp) (fun u hu c hc => by rw[oD.1 hu]at hc; simp only[aY, pN, rj, or_false]at hc; rcases hc with rfl | rfl | rfl; rfl; rfl; exact p1) (by simp only[pc]; omega) (by simp only[pc]; omega) (by decide) rfl ?_
     intro lv2 Wc Oc rA hXc hRc
     have hU := rI hU (yr hXc (fun _ h => .inl h) (by decide))
     have hR := hRc
     have rB := rU rB hXc (by decide) (by decide)
     try have sB := rU sB hXc (by decide) (by decide)
     refine ix ?_
     refine af (k0 _ _ hU) ?_
     refine pR 8 (by kernel_rfl) rfl ?_
     refine bS elN (enc := aY) hR 8 (by decide) x.2.1 rfl rfl rfl (by decide) rfl ?_
     intro svb Wb Ob sB hXb hRb
     have hU := rI hU (yr hXb (fun _ h => .inr (.inr (.inr h))) (by decide))
     have hR := hRb
     have rA := rU rA hXb (by decide) (by decide)
     have rB := rU rB hXb (by decide) (by decide)
     try have sA := rU sA hXb (by decide) (by decide)
     refine ix ?_
     refine af (k0 _ _ hU) ?_
     refine pR 9 (by kernel_rfl) rfl ?_
     refine aC elN rB hR sB.sl (by simp) rfl rfl (by simp) (fun u hu c hc => by rw[oD.1 hu]at hc; simp only[aY, pN, rj, or_false]at hc; rcases hc with rfl | rfl | rfl; rfl; rfl; exact p2) (by simp only[pc]; omega) (by simp only[pc]; omega) (by decide) rfl ?_
     intro rv2 Wd Od rB hXd hRd
     have hU := rI hU (yr hXd (fun _ h => .inr (.inl h)) (by decide))
     have hR := hRd
     have rA := rU rA hXd (by decide) (by decide)
     refine ix ?_
     refine af (k0 _ _ hU) ?_
     exact C2 (hN (lv2, rv2, _, _) ⟨rA, rB, hU, hR⟩) (by kernel_rfl) ⟨rfl, rfl, rfl, rfl, rfl, rfl, rfl, rfl, rfl, rfl, trivial⟩ rfl
    ·skip
     refine bS elN (enc := aY) hR 8 (by decide) x.2.1 rfl rfl rfl (by decide) rfl ?_
     intro svb Wb Ob sB hXb hRb
     have hU := rI hU (yr hXb (fun _ h => .inr (.inr (.inr h))) (by decide))
     have hR := hRb
     have rA := rU rA hXb (by decide) (by decide)
     have rB := rU rB hXb (by decide) (by decide)
     try have sA := rU sA hXb (by decide) (by decide)
     refine ix ?_
     refine af (k0 _ _ hU) ?_
     refine pR 4 (by kernel_rfl) rfl ?_
     refine aC elN rA hR sA.sl (by simp) rfl rfl (by simp) (fun u hu c hc => by rw[oD.1 hu]at hc; simp only[aY, pN, rj, or_false]at hc; rcases hc with rfl | rfl | rfl; rfl; rfl; exact p1) (by simp only[pc]; omega) (by simp only[pc]; omega) (by decide) rfl ?_
     intro lv2 Wc Oc rA hXc hRc
     have hU := rI hU (yr hXc (fun _ h => .inl h) (by decide))
     have hR := hRc
     have rB := rU rB hXc (by decide) (by decide)
     try have sB := rU sB hXc (by decide) (by decide)
     refine ix ?_
     refine af (k0 _ _ hU) ?_
     refine pR 9 (by kernel_rfl) rfl ?_
     refine aC elN rB hR sB.sl (by simp) rfl rfl (by simp) (fun u hu c hc => by rw[oD.1 hu]at hc; simp only[aY, pN, rj, or_false]at hc; rcases hc with rfl | rfl | rfl; rfl; rfl; exact p2) (by simp only[pc]; omega) (by simp only[pc]; omega) (by decide) rfl ?_
     intro rv2 Wd Od rB hXd hRd
     have hU := rI hU (yr hXd (fun _ h => .inr (.inl h)) (by decide))
     have hR := hRd
     have rA := rU rA hXd (by decide) (by decide)
     refine ix ?_
     refine af (k0 _ _ hU) ?_
     exact C2 (hN (lv2, rv2, _, _) ⟨rA, rB, hU, hR⟩) (by kernel_rfl) ⟨rfl, rfl, rfl, rfl, rfl, rfl, rfl, rfl, rfl, rfl, trivial⟩ rfl
   ·skip
    refine bS elN (enc := aY) hR 8 (by decide) x.2.1 rfl rfl rfl (by decide) rfl ?_
    intro svb Wb Ob sB hXb hRb
    have hU := rI hU (yr hXb (fun _ h => .inr (.inr (.inr h))) (by decide))
    have hR := hRb
    have rA := rU rA hXb (by decide) (by decide)
    have rB := rU rB hXb (by decide) (by decide)
    try have sA := rU sA hXb (by decide) (by decide)
    refine ix ?_
    refine af (k0 _ _ hU) ?_
    refine pR 3 (by kernel_rfl) rfl ?_
    refine bS elN (enc := aY) hR 7 (by decide) x.1 rfl rfl rfl (by decide) rfl ?_
    intro sva Wa Oa sA hXa hRa
    have hU := rI hU (yr hXa (fun _ h => .inr (.inr (.inl h))) (by decide))
    have hR := hRa
    have rA := rU rA hXa (by decide) (by decide)
    have rB := rU rB hXa (by decide) (by decide)
    try have sB := rU sB hXa (by decide) (by decide)
    refine ix ?_
    refine af (k0 _ _ hU) ?_
    refine pR 4 (by kernel_rfl) rfl ?_
    refine aC elN rA hR sA.sl (by simp) rfl rfl (by simp) (fun u hu c hc => by rw[oD.1 hu]at hc; simp only[aY, pN, rj, or_false]at hc; rcases hc with rfl | rfl | rfl; rfl; rfl; exact p1) (by simp only[pc]; omega) (by simp only[pc]; omega) (by decide) rfl ?_
    intro lv2 Wc Oc rA hXc hRc
    have hU := rI hU (yr hXc (fun _ h => .inl h) (by decide))
    have hR := hRc
    have rB := rU rB hXc (by decide) (by decide)
    try have sB := rU sB hXc (by decide) (by decide)
    refine ix ?_
    refine af (k0 _ _ hU) ?_
    refine pR 9 (by kernel_rfl) rfl ?_
    refine aC elN rB hR sB.sl (by simp) rfl rfl (by simp) (fun u hu c hc => by rw[oD.1 hu]at hc; simp only[aY, pN, rj, or_false]at hc; rcases hc with rfl | rfl | rfl; rfl; rfl; exact p2) (by simp only[pc]; omega) (by simp only[pc]; omega) (by decide) rfl ?_
    intro rv2 Wd Od rB hXd hRd
    have hU := rI hU (yr hXd (fun _ h => .inr (.inl h)) (by decide))
    have hR := hRd
    have rA := rU rA hXd (by decide) (by decide)
    refine ix ?_
    refine af (k0 _ _ hU) ?_
    exact C2 (hN (lv2, rv2, _, _) ⟨rA, rB, hU, hR⟩) (by kernel_rfl) ⟨rfl, rfl, rfl, rfl, rfl, rfl, rfl, rfl, rfl, rfl, trivial⟩ rfl
  rintro⟨lv2, rv2, O12, w12⟩ ⟨hlr12, hrr12, hU12, hR12⟩
  dsimp only at hlr12 hrr12 hU12 hR12 ⊢
  have hrb12 := hrb11.upd hU12 (by decide) (by decide)
  have htb12 := htb11.upd hU12 (by decide) (by decide)
  obtain⟨s1, s2, s3, _⟩ := iT hrb12
  have hU912 := (hU9.trans (hU911.mono (fun _ h => by omega) (by decide))).trans (hU12.mono (fun _ h => by omega) (by decide))
  have s3' := s3 _ (qN _)
  have hbk:x.2.2 = (nth ts i).2.2 := hxi.2.2
  have el:(xs.take (i + 1)).map (·.1) = (xs.take i).map (·.1) ++ [x.1] := by rw[aR hlt, ze, ← hxe]; rfl
  have er:(xs.take (i + 1)).map (·.2.1) = (xs.take i).map (·.2.1) ++ [x.2.1] := by rw[aR hlt, ze, ← hxe]; rfl
  refine zin (⟨s1 _ (qN _), s2 _ (qN _)⟩) fun zS => ?_
  refine zra 10 rfl zS rfl ?_
  refine zra 11 rfl zS rfl ?_
  refine ug (by kernel_rfl) ?_
  refine az ?_
  refine oz ?_
  refine ow ?_
  refine zv (RV.fa rfl) ?_
  refine zv (RV.ld s3' rfl) ?_
  refine ix ?_
  refine az ?_
  have hblt := xk ts i (by omega)
  refine zC ?_ ?_
  ·intro hb
   have hbr:iE ts (i + 1) = iE ts i ||| 2^i := by rw[show iE ts (i + 1) = if(nth ts i).2.2 = true then iE ts i ||| 2^i else iE ts i from rfl, if_pos (by rw[← hbk]; exact hb)]
   have hpw:2^i < 2^40 := z6 (by decide) (by omega)
   have t2:w12.cell? (nA tb 2) = some (.int .u64 ((iE ts i:Nat):Int)) := htb12.cell 2 rfl
   refine C9 6 rfl rfl (by kernel_rfl) (by kernel_rfl) ?_
   refine zw (RV.fa rfl) ?_
   refine zw (RV.ld t2 rfl) ?_
   refine zw (ln rfl) ?_
   refine zw (xB (a := 1) (b := i) rfl rfl rfl rfl (by show _ ≤ 64; omega) (by show _ ≤ (18446744073709551615:Int); omega)) ?_
   rw[JF]
   refine zw (uS (a := iE ts i) (b := 2^i) rfl rfl rfl rfl (by show _ ≤ (18446744073709551615:Int); omega) (by show _ ≤ (18446744073709551615:Int); omega)) ?_
   refine zw (RV.fa rfl) ?_
   refine Jp ?_
   rw[← hbr]
   refine ak (j := 2) htb12.drew rfl (JZ _) rfl rfl rfl rfl ?_
   have hU13:tJ (fun j => j = 3) O12 w12.drew O12 (w12.drew.setCell ⟨tb, 2, none⟩ (.int .u64 ((iE ts (i + 1):Nat):Int))) := vO (by decide) htb12.tag rfl
   have htb13:Dc O12 (w12.drew.setCell ⟨tb, 2, none⟩ (.int .u64 ((iE ts (i + 1):Nat):Int))) 3 tb (dq (cY li) (cY lk) (iE ts (i + 1)) (xs.length:Nat) (nS) dO dO).toArray 35 := htb12.drew.set 2 _
   generalize w12.drew.setCell ⟨tb, 2, none⟩ (.int .u64 ((iE ts (i + 1):Nat):Int)) = w13 at *
   refine ix ?_
   refine eh ?_
   refine az ?_
   refine ow ?_
   refine zv (BG rfl rfl (yP (by omega))) ?_
   refine zv (ln rfl) ?_
   refine ix ?_
   refine zxd (i + 1, O12, w13, lv2, rv2) (⟨hlt, hU912.drew.trans (hU13.mono (fun _ h => by omega) (by decide)), hR12.drew.upd hU13, htb13, by dsimp only; rw[el]; exact hlr12.drew.upd hU13 (by decide) (by decide), by dsimp only; rw[er]; exact hrr12.drew.upd hU13 (by decide) (by decide)⟩)
  ·intro hb
   have hbr:iE ts (i + 1) = iE ts i := by rw[show iE ts (i + 1) = if(nth ts i).2.2 = true then iE ts i ||| 2^i else iE ts i from rfl, if_neg (by rw[← hbk, hb]; decide)]
   refine tG ?_
   refine eh ?_
   refine az ?_
   refine ow ?_
   refine zv (BG rfl rfl (yP (by omega))) ?_
   refine zv (ln rfl) ?_
   refine ix ?_
   refine zxd (i + 1, O12, w12, lv2, rv2) (⟨hlt, hU912, hR12, by dsimp only; rw[hbr]; exact htb12, by dsimp only; rw[el]; exact hlr12, by dsimp only; rw[er]; exact hrr12⟩)
 ·intro hge
  obtain rfl:i = xs.length := by have := of_decide_eq_false hge; omega
  rw[Gi]at hlr9 hrr9
  have hR9' := hR9
  refine J9 ?_
  refine cT ?_
  refine cT ?_
  refine eY ?_
  refine az ?_
  refine oz ?_
  refine ow ?_
  refine zv (ln rfl) ?_
  refine zc call33 (pU true (nZ ts) (xs.map (·.1)) lv w9 hlr9.sl (by simp[hl]) (fun j hj => by rw[sP]at hj; rw[dI hj, show nZ ts = ts.map (·.1)from rfl, dI (by omega)]; exact(hx j hj).1.ext hUw9.ext)) ?_
  rintro va w10 ⟨hE10, hPa⟩
  obtain⟨nva, tva, ea, rfl, a1, a2, ha0, ha1⟩ := hPa.uni
  have hX10:tJ (fun _ => False) O9 w9 O9 w10 := aa (fun h => h) O9 hE10
  have hR10 := hR9.upd hX10
  refine zv (ln rfl) ?_
  refine zv (rm rfl rfl) ?_
  refine zv (rm rfl rfl) ?_
  refine ax hR10 7 (by omega) (JX _) rfl ?_
  intro ab w11 O11 hab11 hU11 hR11 hE11
  refine zsb (us := #[nva, tva]) hab11 (CY _) (by simp only[uM, a1, a2]; rfl) ?_
  have hab12 := hab11.setRow (us := #[nva, tva])
  have hU12:tJ (fun j => j = 7) O11 w11 O11 (w11.setRow ab #[nva, tva]) := rk (by decide) hab11.tag rfl
  generalize w11.setRow ab #[nva, tva] = w12 at *
  have hU1012 := hU11.trans hU12
  have hU912 := (hX10.mono (S' := fun q => q = 7) (fun _ h => h.elim) (by decide)).trans hU1012
  have hR12 := hR11.upd hU12
  have hrr12 := hrr9.upd hU912 (by decide) (by decide)
  have hUw12 := hUw9.trans (hU912.mono (fun _ h => by omega) (by decide))
  refine zv (oU rfl) ?_
  refine ix ?_
  refine az ?_
  refine oz ?_
  refine ow ?_
  refine zv (ln rfl) ?_
  refine zc call33 (pU false (fM ts) (xs.map (·.2.1)) rv w12 hrr12.sl (by simp[hl]) (fun j hj => by rw[sP]at hj; rw[dI hj, show fM ts = ts.map (·.2.1)from rfl, dI (by omega)]; exact(hx j hj).2.1.ext hUw12.ext)) ?_
  rintro vb w13 ⟨hE13, hPb⟩
  obtain⟨nvb, tvb, eb, rfl, b1, b2, hb0, hb1⟩ := hPb.uni
  have hX13:tJ (fun _ => False) O11 w12 O11 w13 := aa (fun h => h) O11 hE13
  have hR13 := hR12.upd hX13
  refine zv (ln rfl) ?_
  refine zv (rm rfl rfl) ?_
  refine zv (rm rfl rfl) ?_
  refine ax hR13 8 (by omega) (JX _) rfl ?_
  intro bb w14 O14 hbb14 hU14 hR14 hE14
  refine zsb (us := #[nvb, tvb]) hbb14 (CY _) (by simp only[uM, b1, b2]; rfl) ?_
  have hbb15 := hbb14.setRow (us := #[nvb, tvb])
  have hU15:tJ (fun j => j = 8) O14 w14 O14 (w14.setRow bb #[nvb, tvb]) := rk (by decide) hbb14.tag rfl
  generalize w14.setRow bb #[nvb, tvb] = w15 at *
  have hU1315 := hU14.trans hU15
  have hU1215 := (hX13.mono (S' := fun q => q = 8) (fun _ h => h.elim) (by decide)).trans hU1315
  have hU1015 := (hU1012.mono (S' := fun q => q = 7 ∨ q = 8) (fun _ h => .inl h) (by decide)).trans (hU1215.mono (fun _ h => .inr h) (by decide))
  have hU915 := (hX10.mono (S' := fun q => q = 7 ∨ q = 8) (fun _ h => h.elim) (by decide)).trans hU1015
  have hR15 := hR14.upd hU15
  have hUw15 := hUw9.trans (hU915.mono (fun _ h => by omega) (by decide))
  have hab15 := hab12.upd hU1215 (by decide) (by decide)
  have htb15 := htb9.upd hU915 (by decide) (by decide)
  have hcb15 := (hcb5.upd hU9 (by decide) (by decide)).upd hU915 (by decide) (by decide)
  refine zv (oU rfl) ?_
  refine ix ?_
  refine az ?_
  refine oz ?_
  refine oz ?_
  refine ow ?_
  refine zv (ln rfl) ?_
  refine zv (JQ rfl rfl) ?_
  refine zv (ln rfl) ?_
  by_cases hea:ea = 0
  ·skip
   refine ay (d := 66) rfl (b' := false) ((by rw[hea]; rfl)) ?_
   refine Cl rfl ?_
   refine zv (ln rfl) ?_
   refine Cl rfl ?_
   refine zv (JQ rfl rfl) ?_
   refine zv (aW rfl rfl) ?_
   refine ix ?_
   refine az ?_
   by_cases heb:eb = 0
   ·obtain⟨a, clA, haS, haR, haC, hrnA, htlA, htnA⟩ := ha1 hea
    obtain⟨b, clB, hbS, hbR, hbC, hrnB, htlB, htnB⟩ := hb1 heb
    have hRA := eT haR clA
    have hRB := eT hbR clB
    obtain⟨A, hA⟩:∃A, A = aU clA a.1 a.2 := ⟨_, rfl⟩
    obtain⟨B, hB⟩:∃B, B = aU clB b.1 b.2 := ⟨_, rfl⟩
    rw[← hA]at hRA hrnA htlA
    rw[← hB]at hRB hrnB htlB
    refine aS rfl ((by rw[heb]; rfl)) ?_
    refine tG ?_
    refine az ?_
    refine oz ?_
    refine ow ?_
    refine zv (ai (us := [nva, tva]) hab15.cellsAdd (JN _) (CY _) rfl) ?_
    refine zv (ai (us := [nvb, tvb]) hbb15.cellsAdd (JN _) (CY _) rfl) ?_
    refine gb underlying132 (CY _) (JX _) zJ [(nva, tva), (nvb, tvb)] rfl rfl rfl rfl (by kernel_rfl) (by simp) rfl ?_
    intro sv16 w16 hsv16 hE16
    have hX16:tJ (fun _ => False) O14 w15 O14 w16 := aa (fun h => h) O14 hE16
    have hU1016 := hU1015.trans (hX16.mono (S' := fun q => q = 7 ∨ q = 8) (fun _ h => h.elim) (by decide))
    have hU1316 := hU1315.trans (hX16.mono (S' := fun q => q = 8) (fun _ h => h.elim) (by decide))
    have hA16 := hrnA.upd hR9 hU1016
    have hB16 := hrnB.upd hR12 hU1316
    have hTA16 := htnA.slU htlA hR9 hU1016
    have hTB16 := htnB.slU htlB hR12 hU1316
    have hTabs:TabsD w16 sv16 [(nva, tva), (nvb, tvb)] [A.1, B.1] [A.2, B.2] := ⟨hsv16, rfl, rfl, fun i hi => by
     match i, hi with
     |0, _ => exact⟨by rw[ar, ar]; exact hA16.rows, by rw[ar, ar]; exact hTA16, by rw[ar, ar]; exact hRA⟩
     |1, _ => exact⟨by rw[bd, bd, ar, ar]; exact hB16.rows, by rw[bd, bd, ar, ar]; exact hTB16, by rw[bd, bd, ar, ar]; exact hRB⟩⟩
    refine zc call34 (zE [(nva, tva), (nvb, tvb)] [A.1, B.1] [A.2, B.2] sv16 w16 hTabs (by simp)) ?_
    rintro gv w17 ⟨hgs17, hE17, hgn17⟩
    obtain⟨many, hg, hiff⟩ := qq [A.1, B.1]
    obtain⟨g, hge⟩:∃g, g = bJ [A.1, B.1] := ⟨_, rfl⟩
    rw[← hge]at hg hiff hgs17
    have hcs:∀T ∈ [A, B], ∀p, p < T.1.length → ∀i j, i < 37 → j < 37 → nth g i = nth g j → nth (nth T.1 p) i = nth (nth T.1 p) j := fun T hT p hp i j hi hj e => by
     refine yz (tabs := [A.1, B.1]) (fun rows hrows r hr => ?_) ((hiff i j hi hj).1 e) T.1 ?_ _ (aO hp)
     ·have hRt:∃tls, vX rows tls := by
       rcases pN.1 hrows with rfl | hrows
       ·exact⟨_, hRA⟩
       ·rw[oD.1 hrows]; exact⟨_, hRB⟩
      obtain⟨tls, hRt⟩ := hRt
      obtain⟨q, hq, rfl⟩ := cI hr
      have h1 := (hRt.row q hq).2 i hi
      have h2 := (hRt.row q hq).2 j hj
      have := hRt.le
      omega
     ·rcases pN.1 hT with rfl | hT
      ·simp
      ·rw[oD.1 hT]; simp
    have hX17:tJ (fun _ => False) O14 w16 O14 w17 := aa (fun h => h) O14 hE17
    have hX1517 := hX16.trans hX17
    have htb17 := htb15.upd hX1517 (by decide) (fun h => h)
    have hR17 := hR15.upd hX1517
    have go1 := hgs17.one
    have hgf17 := hgn17.free hgs17 (fun x _ => by simp) (hR15.upd hX16)
    refine zv (RV.fa rfl) ?_
    refine ak (j := 4) htb17 rfl (Dd _) go1 rfl rfl rfl ?_
    have hU18:tJ (fun j => j = 3) O14 w17 O14 (w17.setCell ⟨tb, 4, none⟩ gv) := vO (by decide) htb17.tag rfl
    have htb18:Dc O14 (w17.setCell ⟨tb, 4, none⟩ gv) 3 tb (dq (cY li) (cY lk) (iE ts xs.length) (xs.length:Nat) gv dO dO).toArray 35 := htb17.set 4 _
    generalize w17.setCell ⟨tb, 4, none⟩ gv = w18 at *
    have hgs18 := hgs17.upd hgf17 hU18
    have hgf18 := hgf17.upd hU18
    have hR18 := hR17.upd hU18
    have hU1518 := (hX1517.mono (S' := fun q => q = 3) (fun _ h => h.elim) (by decide)).trans hU18
    have hab18 := hab15.upd hU1518 (by decide) (by decide)
    have hbb18 := hbb15.upd hU1518 (by decide) (by decide)
    have hcb18 := hcb15.upd hU1518 (by decide) (by decide)
    have hUw18 := hUw15.trans (hU1518.mono (fun _ h => by omega) (by decide))
    have hU1018 := (hU1015.mono (S' := fun q => q = 3 ∨ q = 7 ∨ q = 8) (fun _ h => .inr h) (by decide)).trans (hU1518.mono (fun _ h => .inl h) (by decide))
    have hU1318 := (hU1315.mono (S' := fun q => q = 3 ∨ q = 8) (fun _ h => .inr h) (by decide)).trans (hU1518.mono (fun _ h => .inl h) (by decide))
    have hA18 := hrnA.upd hR9 hU1018
    have hB18 := hrnB.upd hR12 hU1318
    have hTA18 := htnA.slU htlA hR9 hU1018
    have hTB18 := htnB.slU htlB hR12 hU1318
    refine ix ?_
    refine az ?_
    refine oz ?_
    have d4:w18.drew.cell? (nA tb 4) = some gv := htb18.cell 4 rfl
    refine aI (fun W => W.cell? (nA tb 4) = some gv ∧ (∀j u, [nva, tva][j]? = some u → W.cell? (nA ab j) = some u) ∧ ∀j u, [nvb, tvb][j]? = some u → W.cell? (nA bb j) = some u) 12 rfl (by kernel_rfl) ?_
    refine zin ⟨d4, hab18.drew.cellsAdd, hbb18.drew.cellsAdd⟩ fun zS => ?_
    refine zrf 0 rfl zS rfl ?_
    refine zt 1 rfl zS (fun w1 hw1 => RV.ld hw1.1 rfl) ?_
    refine zt 2 rfl zS (fun w1 hw1 => ai (us := [nva, tva]) hw1.2.1 (JN _) (CY _) rfl) ?_
    refine zrf 4 rfl zS rfl ?_
    refine zt 5 rfl zS (fun w1 hw1 => RV.ld hw1.1 rfl) ?_
    refine zt 6 rfl zS (fun w1 hw1 => ai (us := [nvb, tvb]) hw1.2.2 (JN _) (CY _) rfl) ?_
    have hXd:tJ (fun _ => False) O14 w18 O14 w18.drew := aa (fun h => h) O14 (qN w18).drew
    refine pR 3 (by kernel_rfl) rfl ?_
    refine zc call35 (xY g many gv nva tva A.1 A.2 w18.drew hg hgs18.drew (hA18.ext (qN w18).drew).rows hTA18.drew hRA (hcs A (by simp))) ?_
    rintro _ w19 ⟨lc, rfl, hlc, hln, hE19⟩
    have hX19:tJ (fun _ => False) O14 w18 O14 w19 := hXd.trans (aa (fun h => h) O14 hE19)
    have hE1819:Gc w18 w19 := (qN w18).drew.trans hE19
    refine ix ?_
    refine af (⟨hE1819.cell (htb18.cell 4 rfl), (hab18.upd hX19 (by decide) (fun h => h)).cellsAdd, (hbb18.upd hX19 (by decide) (fun h => h)).cellsAdd⟩) ?_
    refine zrf 8 rfl (⟨hE1819.cell (htb18.cell 4 rfl), (hab18.upd hX19 (by decide) (fun h => h)).cellsAdd, (hbb18.upd hX19 (by decide) (fun h => h)).cellsAdd⟩) rfl ?_
    refine pR 7 (by kernel_rfl) rfl ?_
    refine zc call35 (xY g many gv nvb tvb B.1 B.2 w19 hg (hgs18.ext hE1819) (hB18.ext hE1819).rows (hTB18.ext hE1819) hRB (hcs B (by simp))) ?_
    rintro _ w20 ⟨rc, rfl, hrc, hrn20, hE20⟩
    have hX20:tJ (fun _ => False) O14 w18 O14 w20 := hX19.trans (aa (fun h => h) O14 hE20)
    have htb20 := htb18.upd hX20 (by decide) (fun h => h)
    have hab20 := hab18.upd hX20 (by decide) (fun h => h)
    have hbb20 := hbb18.upd hX20 (by decide) (fun h => h)
    have hcb20 := hcb18.upd hX20 (by decide) (fun h => h)
    have hlc20 := hlc.ext hE20
    refine ix ?_
    refine af (⟨htb20.cell 4 rfl, hab20.cellsAdd, hbb20.cellsAdd⟩) ?_
    obtain⟨u1, b1', k1, n1, t1, hlce, hu1, hb1', hk1, hn1, ht1⟩ := hlc20
    obtain⟨u2, b2', k2, n2, t2, hrce, hu2, hb2', hk2, hn2, ht2⟩ := hrc
    subst hlce
    subst hrce
    have q1 := hu1.one
    have q2 := hb1'.one
    have q3 := hk1.one
    have q4 := hn1.one
    have q5 := ht1.one
    have r1 := hu2.one
    have r2 := hb2'.one
    have r3 := hk2.one
    have r4 := hn2.one
    have r5 := ht2.one
    obtain⟨pa, hpa⟩:∃pa, pa = dH g many A.1 := ⟨_, rfl⟩
    obtain⟨pb, hpb⟩:∃pb, pb = dH g many B.1 := ⟨_, rfl⟩
    rw[← hpa]at hu1 hb1' hk1 hn1 hln ⊢
    rw[← hpb]at hu2 hb2' hk2 hn2 hrn20 ⊢
    obtain⟨brv, hbrv⟩:∃brv, brv = iE ts xs.length := ⟨_, rfl⟩
    rw[← hbrv]at htb20
    refine pR 9 (by kernel_rfl) rfl ?_
    refine eL (us := #[nI pa.width, u1, b1', k1, n1, t1]) 5 (dq (cY li) (cY lk) brv (xs.length:Nat) gv [nI pa.width, u1, b1', k1, n1, t1] dO).toArray htb20 rfl (by show 5 + 6 ≤ 17; omega) (zR _) (by simp only[uM, q1, q2, q3, q4, q5]; rfl) rfl rfl rfl ?_
    have htb21 := htb20.setRow (us := (dq (cY li) (cY lk) brv (xs.length:Nat) gv [nI pa.width, u1, b1', k1, n1, t1] dO).toArray)
    have hU21:tJ (fun j => j = 3) O14 w20 O14 (w20.setRow tb (dq (cY li) (cY lk) brv (xs.length:Nat) gv [nI pa.width, u1, b1', k1, n1, t1] dO).toArray) := rk (by decide) htb20.tag rfl
    generalize w20.setRow tb (dq (cY li) (cY lk) brv (xs.length:Nat) gv [nI pa.width, u1, b1', k1, n1, t1] dO).toArray = w21 at *
    have hab21 := hab20.upd hU21 (by decide) (by decide)
    have hbb21 := hbb20.upd hU21 (by decide) (by decide)
    have hcb21 := hcb20.upd hU21 (by decide) (by decide)
    refine ix ?_
    refine af (⟨htb21.cell 4 rfl, hab21.cellsAdd, hbb21.cellsAdd⟩) ?_
    refine zrf 10 rfl (⟨htb21.cell 4 rfl, hab21.cellsAdd, hbb21.cellsAdd⟩) rfl ?_
    refine pR 11 (by kernel_rfl) rfl ?_
    refine eL (us := #[nI pb.width, u2, b2', k2, n2, t2]) 11 (dq (cY li) (cY lk) brv (xs.length:Nat) gv [nI pa.width, u1, b1', k1, n1, t1] [nI pb.width, u2, b2', k2, n2, t2]).toArray htb21 rfl (by show 11 + 6 ≤ 17; omega) (zR _) (by simp only[uM, r1, r2, r3, r4, r5]; rfl) rfl rfl rfl ?_
    have htb22 := htb21.setRow (us := (dq (cY li) (cY lk) brv (xs.length:Nat) gv [nI pa.width, u1, b1', k1, n1, t1] [nI pb.width, u2, b2', k2, n2, t2]).toArray)
    have hU22:tJ (fun j => j = 3) O14 w21 O14 (w21.setRow tb (dq (cY li) (cY lk) brv (xs.length:Nat) gv [nI pa.width, u1, b1', k1, n1, t1] [nI pb.width, u2, b2', k2, n2, t2]).toArray) := rk (by decide) htb21.tag rfl
    generalize w21.setRow tb (dq (cY li) (cY lk) brv (xs.length:Nat) gv [nI pa.width, u1, b1', k1, n1, t1] [nI pb.width, u2, b2', k2, n2, t2]).toArray = w22 at *
    have hcb22 := hcb21.upd hU22 (by decide) (by decide)
    refine ix ?_
    refine af (⟨htb22.cell 4 rfl, (hab21.upd hU22 (by decide) (by decide)).cellsAdd, (hbb21.upd hU22 (by decide) (by decide)).cellsAdd⟩) ?_
    have go2 := go1
    have hallc:(dq (cY li) (cY lk) brv (xs.length:Nat) gv [nI pa.width, u1, b1', k1, n1, t1] [nI pb.width, u2, b2', k2, n2, t2]).toArray.toList.all uY = true := by
     simp only[dq, JV, Ib, uM, go2, q1, q2, q3, q4, q5, r1, r2, r3, r4, r5]; rfl
    refine ug (by kernel_rfl) ?_
    refine az ?_
    refine oz ?_
    refine ow ?_
    refine zv (ai (us := dq (cY li) (cY lk) brv (xs.length:Nat) gv [nI pa.width, u1, b1', k1, n1, t1] [nI pb.width, u2, b2', k2, n2, t2]) htb22.cellsAdd (J1 _) (y8 _) rfl) ?_
    refine zsb (us := (dq (cY li) (cY lk) brv (xs.length:Nat) gv [nI pa.width, u1, b1', k1, n1, t1] [nI pb.width, u2, b2', k2, n2, t2]).toArray) hcb22 (y8 _) hallc ?_
    have hcz := CZ (us := (dq (cY li) (cY lk) brv (xs.length:Nat) gv [nI pa.width, u1, b1', k1, n1, t1] [nI pb.width, u2, b2', k2, n2, t2]).toArray) hcb22
    have hUz:tJ (fun j => j = 2) O14 w22 O14 (w22.setRow cb (dq (cY li) (cY lk) brv (xs.length:Nat) gv [nI pa.width, u1, b1', k1, n1, t1] [nI pb.width, u2, b2', k2, n2, t2]).toArray) := rk (by decide) hcb22.tag rfl
    have hU20z := ((hU21.mono (S' := fun q => q = 2 ∨ q = 3) (fun _ h => .inr h) (by decide)).trans (hU22.mono (fun _ h => .inr h) (by decide))).trans (hUz.mono (fun _ h => .inl h) (by decide))
    have hPL:PartV w20 [nI pa.width, u1, b1', k1, n1, t1] pa A.2 := ⟨u1, b1', k1, n1, t1, rfl, hu1, hb1', hk1, hn1, ht1⟩
    have hPR:PartV w20 [nI pb.width, u2, b2', k2, n2, t2] pb B.2 := ⟨u2, b2', k2, n2, t2, rfl, hu2, hb2', hk2, hn2, ht2⟩
    have hPLz := hPL.upd hln hR18.drew hU20z
    have hPRz := hPR.upd hrn20 (hR18.upd hX19) hU20z
    have hgz := (hgs18.upd hgf18 hX20).upd (hgf18.upd hX20) hU20z
    have hsz18 := hUw18.size
    have hsz19 := hE1819.size
    refine zv (oU rfl) ?_
    refine ix ?_
    refine az ?_
    refine x8 ?_
    refine bA rfl rfl rfl (hcz.cellsAdd) (J1 _) (y8 _) (⟨((hUw18.trans (hX20.mono (fun _ h => h.elim) (by decide))).trans (hU20z.mono (fun _ h => by omega) (by decide))).ext, C1 hrt haS hbS haR hbR haC hbC hA hB hge hg.cnt hpa hpb hbrv hl hgz hPLz hPRz (hgn17.mono (Jz hUw15.size hE16.size)) (fun v hv => (hln v hv).mono hsz18) (fun v hv => (hrn20 v hv).mono (Jz hsz18 hsz19))⟩)
   ·skip
    refine aZ rfl ((by simpa using heb)) ?_
    refine oz ?_
    refine ow ?_
    refine zv (z8 (cells := tab0) FM (x4 _) rfl rfl) ?_
    refine zsa (us := tab0) hcb15 (y8 _) ?_
    have hcz := CZ (us := tab0) hcb15
    have hUz:tJ (fun j => j = 2) O14 w15 O14 (w15.setRow cb tab0) := rk (by decide) hcb15.tag rfl
    refine zv (oU rfl) ?_
    refine ix ?_
    refine az ?_
    refine x8 ?_
    refine bT ?_
    refine bA rfl rfl rfl (hcz.cellsAdd) (J1 _) (y8 _) (⟨(hUw15.trans (hUz.mono (fun _ h => by omega) (by decide))).ext, .inr ⟨hrt, .inr ⟨(.inr (hb0 heb)), rfl⟩⟩⟩)
  ·skip
   refine ay (d := 66) rfl (b' := true) ((by simpa using hea)) ?_
   refine Ae rfl rfl rfl ?_
   refine Ae rfl rfl rfl ?_
   refine zv (aQ rfl rfl) ?_
   refine ix ?_
   refine az ?_
   refine aZ rfl rfl ?_
   refine oz ?_
   refine ow ?_
   refine zv (z8 (cells := tab0) FM (x4 _) rfl rfl) ?_
   refine zsa (us := tab0) hcb15 (y8 _) ?_
   have hcz := CZ (us := tab0) hcb15
   have hUz:tJ (fun j => j = 2) O14 w15 O14 (w15.setRow cb tab0) := rk (by decide) hcb15.tag rfl
   refine zv (oU rfl) ?_
   refine ix ?_
   refine az ?_
   refine x8 ?_
   refine bT ?_
   refine bA rfl rfl rfl (hcz.cellsAdd) (J1 _) (y8 _) (⟨(hUw15.trans (hUz.mono (fun _ h => by omega) (by decide))).ext, .inr ⟨hrt, .inr ⟨(.inl (ha0 hea)), rfl⟩⟩⟩)
end Go.Proofs.YtlehnbkknlpkbaaGreatDoor
end
section
namespace Go.VL
section
variable{P:Ko}{N:Nat}{st:St}{w:ps}{t xt yt:BV}{x y:KS}{k:IntKind}{m n:Int}
theorem Gn(hx:ev st x=some (.int k m)):RV P N (.unOp .neg xt x) t st w (.int k (k.wrap (-m))):=
 fun a ha a0 p e g=>by simp only[execOp,ha.ev hx];simp[Op.unary,Op.intArith,pure]
theorem Gp(hx:ev st x=some (.int k m))(hy:ev st y=some (.int k n)):RV P N (.binOp .mul xt x y yt) t st w (.int k (k.wrap (m*n))):=
 gg hx hy Fz
end
theorem Ia(b j:Nat):nA b j=⟨b,j,none⟩:=by simp only[J8];split<;>simp_all
end Go.VL
namespace Go.Proofs.YtlehnbkknlpkbaaGreatDoor
open Go.VL Go.Proofs
set_option maxRecDepth 10000
theorem GI(x:Nat)(w:ps)(hx:x<18446744073709551616)(h0:x≠0)(hT:Kk 0 JW w):Gh uV 135 [.int .u64 (x:Nat)] w fun v w'=>v=nI ((BW 64 x:Nat):Int)/\w'=w:=by
 obtain⟨a0,hk⟩:=Kd 64 x h0 hx;obtain⟨hi,a1⟩:=Lib.deBruijn64_at _ hk;have hp:2^BW 64 x<18446744073709551616:=DA (z6 zd hk) zd;generalize BW 64 x=k at *;rw[show(2^64:Nat)=18446744073709551616 from by decide]at a0;generalize 2^k=pk at *;generalize a2:pk*285870213051353865 % 18446744073709551616 / 288230376151711744=idx at *;have a3:w.cell? (nA 0 idx)=some (.int .u8 (k:Int)):=by
  have:=hT idx hi;rw[a1]at this;rw[Ia];exact this
 refine rf func135 ntmps135 rfl rfl ?_;refine zh ?_
 refine zFH rfl ((by rw[beq_eq_false_iff_ne];omega)) ?_;refine zv (Gn rfl) ?_
 refine zv (xD (a:=x) (b:=18446744073709551616-x) rfl rfl rfl (by rw[JH];omega) (by show _<=(18446744073709551615:Int);omega) (by show _<=(18446744073709551615:Int);omega)) ?_;rw[a0];refine zv (Gp rfl rfl) ?_
 rw[show L6.wrap (((pk:Nat):Int)*285870213051353865)=((pk*285870213051353865 % 18446744073709551616:Nat):Int)from by rw[JH];omega];refine zv (iM (a:=pk*285870213051353865 % 18446744073709551616) (b:=58) rfl rfl rfl rfl zd) ?_;rw[show pk*285870213051353865 % 18446744073709551616 / 2^58=idx from a2];refine zvH (fE underlying249 (sizeOf5 _) rfl rfl idx rfl hi) ?_;refine zvH (Cx underlying5 underlying3 rfl (yP zo)) ?_;refine ae rfl rfl (⟨rfl,rfl⟩)
theorem rV(s c:Nat)(w:ps)(hs:s<18446744073709551616)(hc:c<64):Gh uV 93 [.int .u64 (s:Nat),nI (c:Nat)] w fun v w'=>v=.bool (s.testBit c)/\w'=w:=by
 have hd:s / 2^c<=s:=Nat.div_le_self _ _;have e:(((s / 2^c &&& 1:Nat):Int)==1)=s.testBit c:=by
  rw[Nat.and_one_is_mod,Nat.testBit_eq_decide_div_mod_eq]
  rcases Nat.mod_two_eq_zero_or_one (s / 2^c)with h|h<;>rw[h]<;>rfl
 refine rf func93 ntmps93 rfl rfl ?_;refine zh ?_
 refine zv (iM (a:=s) (b:=c) rfl rfl rfl rfl (by show _<=64;omega)) ?_;refine zvH (xD (a:=s / 2^c) (b:=1) rfl rfl rfl rfl (by show _<=(18446744073709551615:Int);omega) zd) ?_
 refine ae rfl rfl (⟨by rw[<-e],rfl⟩)
theorem kf(cs:List ox)(p:Kc)(tl:List Nat)(r c:Nat)(w:ps)(h:PartV w cs p tl)(ok:OkP p)(hr:r<p.usual.length)(a9:c<64):
  Gh uV 51 [.agg cs.toArray,nI (r:Nat),nI (c:Nat)] w fun v w'=>v=nI (getM p r c)/\Gc w w':=by
 obtain⟨uv,bv,kv,nv,tv,rfl,a3,a7,a5,a4,a8⟩:=h;obtain⟨o1,o2,o3,o4,o5,o6,o7⟩:=ok;have a6:=o7 r zo;obtain⟨b,a2⟩:=Int.eq_ofNat_of_zero_le a6.1;have hg:getM p r c=if b+c<p.check.length/\nth p.check (b+c)=r then nth p.next (b+c)else nth p.usual r:=by simp only[getM,a2];rfl
 refine rf func51 ntmps51 rfl rfl ?_;refine zg ?_
 refine aE (au w) 1 zo rfl rfl ?_;intro db w1 O1 a1 a' b0 a0;have hu:=a3.ext a0;have hb:=a7.ext a0;have hk:=a5.ext a0;have hn:=a4.ext a0;have c1:w1.cell? ((nA db 0).add 1)=some uv:=a1.cell 1 rfl;have c2:w1.cell? ((nA db 0).add 2)=some bv:=a1.cell 2 rfl;have c3:w1.cell? ((nA db 0).add 3)=some kv:=a1.cell 3 rfl;have c4:w1.cell? ((nA db 0).add 4)=some nv:=a1.cell 4 rfl;have k1:w1.cell? (adr bv 1 r)=some (nI (b:Int)):=by have:=hb.cell (i:=r) (j:=0) zo rfl;rw[ao,a2]at this;exact this
 refine zg ?_;refine zvG (RV.ld c2 rfl) ?_
 refine zv (ah hb.sh sQ (zl _) rfl rfl r rfl zo) ?_;refine zvG (RV.ld k1 rfl) ?_
 refine zvG (BG rfl rfl (yP zo)) ?_;refine zv (RV.ld c3 rfl) ?_
 refine zvG (aM hk.sh sQ rfl) ?_
 by_cases h1:b+c<p.check.length
 ·refine ay (d:=22) rfl (b':=true) (decide_eq_true zo) ?_;have k2:w1.cell? (adr kv 1 (b+c))=some (nI (nth p.check (b+c))):=by have:=hk.cell (i:=b+c) (j:=0) h1 rfl;rwa[ao]at this
  have k3:w1.cell? (adr nv 1 (b+c))=some (nI (nth p.next (b+c))):=by have:=hn.cell (i:=b+c) (j:=0) zo rfl;rwa[ao]at this
  refine zg ?_;refine zvG (RV.ld c3 rfl) ?_
  refine zvG (ah hk.sh sQ (zl _) rfl rfl (b+c) zo zo) ?_;refine zvG (RV.ld k2 rfl) ?_
  refine zC ?_ ?_
  ·intro he;replace he:nth p.check (b+c)=r:=by simpa using he
   rw[if_pos ⟨h1,he⟩]at hg;refine zg ?_;refine zvG (RV.ld c4 rfl) ?_;refine zv (ah hn.sh sQ (zl _) rfl rfl (b+c) zo zo) ?_;refine zvG (RV.ld k3 rfl) ?_;refine ae rfl rfl (⟨by rw[hg],a0⟩)
  intro he;replace he:¬nth p.check (b+c)=r:=by simpa using he
  rw[if_neg (fun h=>he h.2)]at hg;have k4:w1.cell? (adr uv 1 r)=some (nI (nth p.usual r)):=by have:=hu.cell (i:=r) (j:=0) hr rfl;rwa[ao]at this
  refine zg ?_;refine zvG (RV.ld c1 rfl) ?_
  refine zv (ah hu.sh sQ (zl _) rfl rfl r rfl zo) ?_;refine zvG (RV.ld k4 rfl) ?_
  refine ae rfl rfl (⟨by rw[hg],a0⟩)
 rw[if_neg (fun h=>h1 h.1)]at hg;have k4:w1.cell? (adr uv 1 r)=some (nI (nth p.usual r)):=by have:=hu.cell (i:=r) (j:=0) hr rfl;rwa[ao]at this
 refine ay (d:=22) rfl (b':=false) (decide_eq_false zo) ?_;refine zg ?_
 refine zFG rfl rfl ?_;refine zvG (RV.ld c1 rfl) ?_
 refine zv (ah hu.sh sQ (zl _) rfl rfl r rfl zo) ?_;refine zvG (RV.ld k4 rfl) ?_
 refine ae rfl rfl (⟨by rw[hg],a0⟩)
end Go.Proofs.YtlehnbkknlpkbaaGreatDoor
end
namespace Go.Proofs.YtlehnbkknlpkbaaGreatDoor
def FZ(l:List Int):Int:=l.foldl max (nth l 0)
theorem Dh(l:List Int)(sv:ox)(w:ps)(h:G6 w sv l)(a1:0<l.length):Gh uV 80 [sv] w fun v w'=>v=nI (FZ l)/\w'=w:=by
 have hl:=h.len_le;have m0:w.cell? (adr sv 1 0)=some (nI (nth l 0)):=by have:=h.cell (j:=0) a1 rfl;rwa[ao]at this
 have e1:nth l 0=(l.take 1).foldl max (nth l 0):=by
  rw[aR a1];simp
 have a2:FZ l=(l.take l.length).foldl max (nth l 0):=by rw[Gi];rfl
 rw[a2];obtain⟨z0,a3⟩:∃z,z=nth l 0:=⟨_,rfl⟩
 rw[<-a3]at m0 e1 ⊢;refine rf func80 ntmps80 rfl rfl ?_;refine zh ?_;refine zFH rfl ((decide_eq_false zo)) ?_;refine zlp (fun z:Nat×Int=>[(0,sv),(3,nI z.2),(4,nI z.1)]) (fun z=>w) (fun z=>1<=z.1/\z.1<=l.length/\z.2=(l.take z.1).foldl max z0) (fun z=>l.length-z.1) (1,z0) (⟨vg _,a1,e1⟩) ?_;rintro⟨q,m⟩ ⟨a4,hq,hm⟩;dsimp only at a4 hq hm ⊢;refine zh ?_;refine zC ?_ ?_
 ·intro a0;replace a0:q<l.length:=dT a0;have m1:w.cell? (adr sv 1 q)=some (nI (nth l q)):=by have:=h.cell (j:=0) a0 rfl;rwa[ao]at this
  refine zh ?_;refine zvH (gH rfl rfl) ?_
  refine zxd (q+1,max m (nth l q)) (⟨by dsimp only;omega,a0,by dsimp only;rw[aR a0,JP,<-hm];rfl⟩)
 intro a5;obtain rfl:q=l.length:=dF a5;refine zh ?_;refine ae rfl rfl (⟨by rw[hm],rfl⟩)
theorem pC{F:KG}(hF:∀(args:Array ox) (w:ps),(callFunc F args).run uV w=.ok (.enter F args) w)(cs:Array ox)(l:List (Nat))(sv:ox)(q:Nat->Bool)(w:ps)(h:Sl jb 1 w sv l) 
  (hq:∀i,i<l.length->∀w',Gc w w'->Gh uV F ([(fun n:Nat=>Kv .u64 (n:Int)) (nth l i)]++cs.toList) w' fun v w''=>v=.bool (q i)/\Gc w' w'') :
  Gh uV 123 [sv,.func (.func F) #[] cs] w fun v w'=>v=nI (dQ q l.length)/\Gc w w':=by
 have hl:=h.len_le;refine rf func123 ntmps123 rfl rfl ?_;refine zh ?_;refine zlp (fun x:Nat×ps=>[(0,sv),(1,.func (.func F) #[] cs),(7,nI l.length),(8,nI x.1)]) (fun x=>x.2) (fun x=>x.1<=l.length/\Gc w x.2/\∀i,i<x.1->q i=false) (fun x=>l.length-x.1) (0,w) (⟨tq _,qN _,fun i hi=>absurd hi (y3 i)⟩) ?_;rintro⟨k,w1⟩ ⟨hk,hE,a1⟩;dsimp only at hk hE a1 ⊢;have h1:=h.ext hE;refine zh ?_;refine zC ?_ ?_
 ·intro a0;replace a0:k<l.length:=dT a0;refine zh ?_;refine zv (RV.ld (by have:=h1.cell (i:=k) (j:=0) a0 rfl;rwa[ao]at this) rfl) ?_;refine dN rfl hF rfl (hq k a0 w1 hE) rfl ?_;rintro v w2 ⟨rfl,a3⟩;refine zh ?_;refine zC ?_ ?_
  ·intro hy;refine zh ?_;refine ae rfl rfl (⟨by rw[cG a0 hy a1],hE.trans a3⟩)
  intro hy;refine zh ?_;refine zxd (k+1,w2) (⟨a0,hE.trans a3,fun i hi=>(Js.1 hi).elim (a1 i) (fun e=>by rw[e];exact hy)⟩)
 intro a2;replace a2:l.length<=k:=dF a2;refine zh ?_;refine ae rfl rfl (⟨by rw[cE fun i hi=>a1 i zo],hE⟩)
theorem lV{F:KG}(hF:∀(args:Array ox) (w:ps),(callFunc F args).run uV w=.ok (.enter F args) w)(cs:Array ox)(l:List (Nat))(sv:ox)(q:Nat->Bool)(w:ps)(h:Sl jb 1 w sv l) 
  (hq:∀i,i<l.length->∀w',Gc w w'->Gh uV F ([(fun n:Nat=>Kv .u64 (n:Int)) (nth l i)]++cs.toList) w' fun v w''=>v=.bool (q i)/\Gc w' w'') :
  Gh uV 76 [sv,.func (.func F) #[] cs] w fun v w'=>v=.bool (anyN q l.length)/\Gc w w':=by
 refine rf func76 ntmps76 rfl rfl ?_;refine zh ?_
 refine zc call123 (pC hF cs l sv q w h hq) ?_;rintro v w1 ⟨rfl,hE⟩;refine zh ?_
 refine ae rfl rfl (⟨by rw[firstN_any],hE⟩)
theorem BU(b rules:Nat)(a:JB)(w:ps)(hr:rules<=64)(hc:w.cell? a=some (nI (rules:Nat))):Gh uV 77 [.int .u64 (b:Nat),.pointer (some a)] w fun v w'=>v=.bool (!(b / 2^rules==0))/\w'=w:=by
 have e:((((b / 2^rules:Nat):Int)) != 0) = !(b / 2^rules==0):=by
  generalize b / 2^rules=q
  by_cases h:q=0
  ·subst h;rfl
  rw[beq_eq_false_iff_ne.2 h];simpa using h
 refine rf func77 ntmps77 rfl rfl ?_;refine zh ?_
 refine zvH (iM (a:=b) (b:=rules) rfl rfl rfl rfl (by show _<=64;omega)) ?_;refine ae rfl rfl (⟨by rw[<-e],rfl⟩)
theorem BT(row:List Int)(rv lv:ox)(n:Nat)(a:JB)(w:ps)(h:G6 w rv row)(a1:0<row.length)(a0:Shape lv n)(hc:w.cell? a=some lv):Gh uV 79 [rv,.pointer (some a)] w fun v w'=>v=.bool (decide ((n:Int)<=FZ row))/\Gc w w':=by
 refine rf func79 ntmps79 rfl rfl ?_;refine zg ?_
 refine WC.still zk zk ?_;refine zg ?_
 refine WS.call call80 rfl (Dh row rv _ h.drew a1) rfl ?_;refine zw (RV.ld hc rfl) ?_
 refine zw (aM a0 JL rfl) ?_;refine zwG (RV.geq rfl rfl) ?_
 refine WS.nil ?_;refine zg ?_
 refine ae rfl rfl (⟨rfl,(qN w).drew⟩)
def kQ(p:Kc)(tl:List Nat)(many rules:Nat):Bool:=
 de p&&(p.width==(many:Int)) && !((gj p).length==0)&&(tl.length==(gj p).length) && !(anyN (fun i=>!(nth tl i / 2^rules==0)) tl.length) && !(anyN (fun i=>decide (((gj p).length:Int)<=FZ (nth (gj p) i))) (gj p).length)
theorem qv(p:Kc):(gj p).length=p.usual.length/\∀i,i<p.usual.length->(nth (gj p) i).length=p.width.toNat:=by
 refine⟨by simp[gj],fun i hi=>?_⟩;unfold gj;rw[gp _ _ _ hi];simp[CF]
theorem uo(cs:List ox)(p:Kc)(tl:List Nat)(many rules:Nat)(w:ps)(h:PartV w cs p tl)(hr:rules<=64):
  Gh uV 41 [.agg cs.toArray,nI (many:Nat),nI (rules:Nat)] w fun v w'=>v=.bool (kQ p tl many rules)/\Gc w w':=by
 obtain⟨uv,bv,kv,nv,tv,rfl,d2,d8,d7,d6,c'⟩:=h;obtain⟨a4,d3⟩:=qv p;have c9:=c'.len_le;refine rf func41 ntmps41 rfl rfl ?_;refine zg ?_;refine aE (au w) 1 zo rfl rfl ?_;intro db w1 O1 c7 e0 e4 f5;refine aE e4 2 zo rfl rfl ?_;intro yb w2 O2 b8 d1 e3 f4;have a9:=c7.upd d1 zd zd;have a':=(e0.mono (S':=fun q=>1<=q) (fun _ h=>by omega) zd).trans (d1.mono (fun _ h=>by omega) zd);have a3:=a'.ext
 have e7:∀(j:Nat) (u:ox),[nI p.width,uv,bv,kv,nv][j]? = some u->w2.cell? ((nA db 0).add j)=some u:=fun j u hu=>a9.cellsAdd j u (by
  match j,hu with
  |0,hu=>exact hu
  |1,hu=>exact hu
  |2,hu=>exact hu
  |3,hu=>exact hu
  |4,hu=>exact hu)
 refine zg ?_;refine zv (ai (us:=[nI p.width,uv,bv,kv,nv]) e7 (isAgg30 _) (Kz _) rfl) ?_
 refine zc call75 (tw p _ w2 ⟨uv,bv,kv,nv,rfl,d2.ext a3,d8.ext a3,d7.ext a3,d6.ext a3⟩) ?_;rintro _ w3 ⟨rv,rfl,a7,e6⟩;have b5:tJ (fun _=>False) O2 w2 O2 w3:=aa (fun h=>h) O2 e6;have e':=e3.upd b5;have b7:=b8.upd b5 zd (fun h=>h);have c6:=a9.upd b5 zd (fun h=>h);have c8:=a'.trans (b5.mono (fun _ h=>h.elim) zd);have ro:rv.oneCell'=true:=by
  split at a7
  ·obtain⟨b1,h1,_⟩:=a7;exact h1.one
  rw[a7];rfl
 refine zg ?_;refine ax (au w3) 3 zo (zeroValue50 _) rfl ?_
 intro lb w4 O4 a5 d' e9 f3;refine ak (j:=0) a5 rfl (sizeOf50 _) ro rfl rfl rfl ?_;have d9:tJ (fun j=>j=3) O4 w4 O4 (w4.setCell ⟨lb,0,none⟩ rv):=vO zd a5.tag rfl;have c5:Dc O4 (w4.setCell ⟨lb,0,none⟩ rv) 3 lb #[rv] 50:=a5.set 0 _;have a2:Gc w3 (w4.setCell ⟨lb,0,none⟩ rv):=(d'.trans d9).ext;generalize w4.setCell ⟨lb,0,none⟩ rv=w5 at *;have a0:Gc w w5:=c8.ext.trans a2;have a8:=c6.ext a2;have b6:=b7.ext a2;have d0:w5.cell? (((nA db 0)).add 0)=some (nI p.width):=a8.cell 0 rfl;have d5:w5.cell? (nA db 5)=some tv:=a8.cell 5 rfl;have l0:w5.cell? ⟨lb,0,none⟩=some rv:=c5.cell 0 rfl;have y0:w5.cell? ⟨yb,0,none⟩=some (nI (rules:Nat)):=b6.cell 0 rfl;have a6:=c'.ext a0;refine zg ?_
 cases b4:de p with
 |false=>
  refine ay (d:=17) rfl (b':=true) (rfl) ?_;refine zg ?_
  refine zTG rfl rfl ?_;refine ae rfl rfl (⟨by unfold kQ;rw[b4];rfl,a0⟩)
 |true=>
  rw[b4,if_pos rfl]at a7;obtain⟨b1,b3,a1,d4⟩:=a7.ext a2;have ok:=okP p b4;have e8:=ok.w1;refine ay (d:=17) rfl (b':=false) (rfl) ?_;refine zg ?_;refine zvG (RV.ld d0 rfl) ?_
  by_cases h1:p.width=(many:Int)
  ·refine ay (d:=24) rfl (b':=false) ((by rw[h1];simp)) ?_;refine zg ?_
   refine zvG (RV.ld l0 rfl) ?_;refine zvG (aM b3.sh JL rfl) ?_
   by_cases h2:p.usual.length=0
   ·refine ay (d:=29) rfl (b':=true) ((by rw[a1,a4,h2];rfl)) ?_;refine zg ?_
    refine zTG rfl rfl ?_;refine ae rfl rfl (⟨by unfold kQ;rw[a4,h2];simp,a0⟩)
   refine ay (d:=29) rfl (b':=false) ((by rw[a1,a4,beq_eq_false_iff_ne];omega)) ?_;refine zg ?_
   refine zvG (RV.ld d5 rfl) ?_;refine zvG (aM a6.sh IJ rfl) ?_
   refine zvG (RV.ld l0 rfl) ?_;refine zvG (aM b3.sh JL rfl) ?_
   by_cases h3:tl.length=p.usual.length
   ·refine zFG rfl ((by rw[a1,a4,h3];simp)) ?_;refine zv (RV.ld d5 rfl) ?_
    refine zv (eA rfl rfl) ?_;refine zc call76 (lV call77 #[nP yb] tl tv (fun i=>!(nth tl i / 2^rules==0)) w5 a6 (fun i hi w' b2=>(BU (nth tl i) rules _ w' hr (b2.cell y0)).mono fun v w'' ⟨e1,e2⟩=>⟨e1,e2▸qN _⟩)) ?_
    rintro _ w6 ⟨rfl,b0⟩;refine zg ?_
    cases h4:anyN (fun i=>!(nth tl i / 2^rules==0)) tl.length with
    |true=>
     refine zTG rfl rfl ?_;refine ae rfl rfl (⟨by unfold kQ;rw[h4];simp,a0.trans b0⟩)
    |false=>
     have b9:=b3.ext b0;have l6:w6.cell? ⟨lb,0,none⟩=some rv:=b0.cell l0;refine zFG rfl rfl ?_;refine zv (RV.ld l6 rfl) ?_;refine zv (eA rfl rfl) ?_;refine zc call78 (fW call79 #[nP lb] b1 rv (fun i=>decide (((gj p).length:Int)<=FZ (nth (gj p) i))) w6 b9 (fun i hi w' b2=>by have:=BT (nth (gj p) i) (nth b1 i) rv b1.length ⟨lb,0,none⟩ w' (((d4 i zo).ext b0).ext b2) (by rw[d3 i zo];omega) b3.sh (b2.cell l6);rw[a1]at this;exact this)) ?_;rintro _ w7 ⟨rfl,e5⟩;refine zg ?_;refine ae rfl rfl (⟨by unfold kQ;rw[b4,h1,h4,a4,h3,a1,a4,beq_eq_false_iff_ne.2 h2];simp,(a0.trans b0).trans e5⟩)
   refine zTG rfl ((by rw[a1,a4];simp;omega)) ?_;refine ae rfl rfl (⟨by unfold kQ;rw[a4,beq_eq_false_iff_ne.2 h3];simp,a0⟩)
  refine ay (d:=24) rfl (b':=true) ((by simpa using h1)) ?_;refine zg ?_
  refine zTG rfl rfl ?_;refine ae rfl rfl (⟨by unfold kQ;rw[beq_eq_false_iff_ne.2 h1];simp,a0⟩)
end Go.Proofs.YtlehnbkknlpkbaaGreatDoor
section
namespace Go.VL
theorem add_add(b i j:Nat):(nA b i).add j=⟨b,i+j,none⟩:=by simp only[J8];split<;>split<;>simp_all
end Go.VL
namespace Go.Proofs.YtlehnbkknlpkbaaGreatDoor
open Go.VL Go.Proofs
set_option maxRecDepth 10000
structure TabB(w:ps)(b:Nat)(t:TabM)(gv:ox)(lc rc:List ox):Prop where
 cells:∀j u,(dq t.ig t.kp t.br t.rules gv lc rc)[j]? = some u→w.cell? ⟨b,j,none⟩=some u
 groups:G6 w gv t.groups
 left:PartV w lc t.left t.lt
 right:PartV w rc t.right t.rt
section
variable{w:ps}{b:Nat}{t:TabM}{gv:ox}{lc rc:List ox}
theorem TabB.ext{w':ps}(h:TabB w b t gv lc rc)(e:Gc w w'):TabB w' b t gv lc rc:=⟨fun j u hu=>e.cell (h.cells j u hu),h.groups.ext e,h.left.ext e,h.right.ext e⟩
theorem TabB.c0(h:TabB w b t gv lc rc):w.cell? (nA b 0)=some (.int .u64 (t.ig:Int)):=h.cells 0 _ rfl
theorem TabB.c1(h:TabB w b t gv lc rc):w.cell? (nA b 1)=some (.int .u64 (t.kp:Int)):=h.cells 1 _ rfl
theorem TabB.c2(h:TabB w b t gv lc rc):w.cell? (nA b 2)=some (.int .u64 (t.br:Int)):=h.cells 2 _ rfl
theorem TabB.c3(h:TabB w b t gv lc rc):w.cell? (nA b 3)=some (nI t.rules):=h.cells 3 _ rfl
theorem TabB.c4(h:TabB w b t gv lc rc):w.cell? (nA b 4)=some gv:=h.cells 4 _ rfl
theorem TabB.cl(h:TabB w b t gv lc rc):∀(j:Nat) (u:ox),lc[j]? = some u->w.cell? ((nA b 5).add j)=some u:=fun j u hu=>by
 rw[add_add];refine h.cells (5+j) u ?_;have hj:=(As.1 hu).1;rw[show dq t.ig t.kp t.br t.rules gv lc rc=[.int .u64 (t.ig:Int),.int .u64 (t.kp:Int),.int .u64 (t.br:Int),nI t.rules,gv]++(lc++rc)from sN _ _ _];rw[sx (by simp),show 5+j-_=j from by simp,AK hj];exact hu
theorem TabB.cr(h:TabB w b t gv lc rc):∀(j:Nat) (u:ox),rc[j]? = some u->w.cell? ((nA b 11).add j)=some u:=fun j u hu=>by
 rw[add_add];refine h.cells (11+j) u ?_;have hl:=h.left.one.1;rw[sx (by simp[hl]),show 11+j-_=j from by simp[hl]];exact hu
end
theorem xw{w:ps}{b i:Nat}{O:Nat→Nat}{E:BV}{t:TabM}{gv:ox}{lc rc:List ox}(hb:Dc O w i b (dq t.ig t.kp t.br t.rules gv lc rc).toArray E)(h1:G6 w gv t.groups)(h2:PartV w lc t.left t.lt)(h3:PartV w rc t.right t.rt):TabB w b t gv lc rc:=
 ⟨fun j u hu=>hb.cell j (by simpa using hu),h1,h2,h3⟩
def gk(t:TabM):Bool:=
 !(decide (t.rules<0)||decide (40<t.rules)||(iq t.groups==0)) && !(!(t.ig / 2^36==0) || !(t.kp / 2^36==0) || !(t.br / 2^t.rules.toNat==0))&&kQ t.left t.lt (iq t.groups) t.rules.toNat&&kQ t.right t.rt (iq t.groups) t.rules.toNat
theorem ne0(q:Nat):(((q:Nat):Int) != 0) = !(q==0):=by
 by_cases h:q=0
 ·subst h;rfl
 rw[beq_eq_false_iff_ne.2 h];simpa using h
theorem sT(t:TabM)(v:ox)(w:ps)(h:TabV w v t):Gh uV 12 [v] w fun u w'=>u=.bool (gk t)∧Gc w w':=by
 obtain⟨gv,lc,rc,rfl,hg0,hl0,hr0⟩:=h
 obtain⟨ll,lo⟩:=hl0.one
 obtain⟨rl,ro⟩:=hr0.one
 refine rf func12 ntmps12 rfl rfl ?_
 refine zg ?_
 refine aE (au w) 1 (by omega) rfl rfl ?_
 intro db w1 O1 hdb1 hU1 hR1 hE1
 have hT:=xw (t:=t) hdb1 (hg0.ext hE1) (hl0.ext hE1) (hr0.ext hE1)
 have c0:=hT.c0
 have c1:=hT.c1
 have c2:=hT.c2
 have c3:=hT.c3
 have c4:=hT.c4
 have cl:=hT.cl
 have cr:=hT.cr
 refine zg ?_
 refine zv (RV.ld c4 rfl) ?_
 refine zc L4 (iQ t.groups gv w1 hT.groups) ?_
 rintro _ w2 ⟨rfl,hw2⟩
 rw[hw2]
 clear hw2 w2
 obtain⟨many,hmany⟩:∃many,many=iq t.groups:=⟨_,rfl⟩
 have hrt:gk t=(!(decide (t.rules<0)||decide (40<t.rules)||(many==0)) && !(!(t.ig / 2^36==0) || !(t.kp / 2^36==0) || !(t.br / 2^t.rules.toNat==0))&&kQ t.left t.lt many t.rules.toNat&&kQ t.right t.rt many t.rules.toNat):=by rw[hmany];rfl
 rw[hrt,← hmany]
 refine zg ?_
 refine zvG (RV.ld c3 rfl) ?_
 by_cases h1:t.rules<0
 ·skip
  refine ay (d:=11) rfl (b':=true) ((decide_eq_true h1)) ?_
  refine zg ?_
  refine zTG rfl rfl ?_
  refine ae rfl rfl (⟨by rw[decide_eq_true h1];simp,hE1⟩)
 ·skip
  refine ay (d:=11) rfl (b':=false) ((decide_eq_false h1)) ?_
  refine zg ?_
  refine zvG (RV.ld c3 rfl) ?_
  by_cases h2:40<t.rules
  ·skip
   refine ay (d:=16) rfl (b':=true) ((decide_eq_true h2)) ?_
   refine zg ?_
   refine zTG rfl rfl ?_
   refine ae rfl rfl (⟨by rw[decide_eq_true h2];simp,hE1⟩)
  ·obtain⟨rules,hrules⟩:∃rules:Nat,t.rules=(rules:Int):=⟨t.rules.toNat,by omega⟩
   have hrn:t.rules.toNat=rules:=by omega
   refine ay (d:=16) rfl (b':=false) ((decide_eq_false h2)) ?_
   refine zg ?_
   by_cases h3:many=0
   ·skip
    refine zTG rfl ((by rw[h3];rfl)) ?_
    refine ae rfl rfl (⟨by rw[h3];simp,hE1⟩)
   ·skip
    refine zFG rfl ((by rw[beq_eq_false_iff_ne];omega)) ?_
    refine zv (RV.ld c0 rfl) ?_
    refine zvG (iM (a:=t.ig) (b:=36) rfl rfl rfl rfl (by decide)) ?_
    by_cases h4:t.ig / 2^36=0
    ·skip
     refine ay (d:=25) rfl (b':=false) ((by rw[ne0,h4];rfl)) ?_
     refine zg ?_
     refine zvG (RV.ld c1 rfl) ?_
     refine zvG (iM (a:=t.kp) (b:=36) rfl rfl rfl rfl (by decide)) ?_
     by_cases h5:t.kp / 2^36=0
     ·skip
      refine ay (d:=31) rfl (b':=false) ((by rw[ne0,h5];rfl)) ?_
      refine zg ?_
      refine zvG (RV.ld c2 rfl) ?_
      refine zvG (RV.ld c3 rfl) ?_
      refine zvG (iM (a:=t.br) (b:=rules) rfl rfl rfl hrules (by show _≤64;omega)) ?_
      by_cases h6:t.br / 2^rules=0
      ·have hrr:nI t.rules=nI (rules:Int):=by rw[hrules]
       refine zFG rfl ((by rw[ne0,h6];rfl)) ?_
       refine zvG (ai (us:=lc) cl (J2 _) (by rw[ll];exact zR _) rfl) ?_
       refine zv (RV.ld c3 rfl) ?_
       rw[hrules]
       refine zc call41 (uo lc t.left t.lt many rules w1 hT.left (by omega)) ?_
       rintro _ w2 ⟨rfl,hE2⟩
       have hT2:=hT.ext hE2
       have d3:=hT2.c3
       have d4:=hT2.cr
       rw[hrules]at d3
       refine zg ?_
       cases h7:kQ t.left t.lt many rules with
       |false=>
        refine ay (d:=45) rfl (b':=false) (rfl) ?_
        refine zg ?_
        refine ae rfl rfl (⟨by rw[Gb,h7];simp,hE1.trans hE2⟩)
       |true=>
        refine ay (d:=45) rfl (b':=true) (rfl) ?_
        refine zg ?_
        refine zvG (ai (us:=rc) d4 (J2 _) (by rw[rl];exact zR _) rfl) ?_
        refine zvG (RV.ld d3 rfl) ?_
        refine zc call41 (uo rc t.right t.rt many rules w2 hT2.right (by omega)) ?_
        rintro _ w3 ⟨rfl,hE3⟩
        refine zg ?_
        refine ae rfl rfl (⟨?_,(hE1.trans hE2).trans hE3⟩)
        rw[Gb,h7,h4,h5,h6,decide_eq_false (by omega),decide_eq_false (by omega),beq_eq_false_iff_ne.2 h3]
        simp
      ·skip
       refine zTG rfl ((by rw[ne0,beq_eq_false_iff_ne.2 h6];rfl)) ?_
       refine ae rfl rfl (⟨by rw[hrn,beq_eq_false_iff_ne.2 h6];simp,hE1⟩)
     ·skip
      refine ay (d:=31) rfl (b':=true) ((by rw[ne0,beq_eq_false_iff_ne.2 h5];rfl)) ?_
      refine zg ?_
      refine zTG rfl rfl ?_
      refine ae rfl rfl (⟨by rw[beq_eq_false_iff_ne.2 h5];simp,hE1⟩)
    ·skip
     refine ay (d:=25) rfl (b':=true) ((by rw[ne0,beq_eq_false_iff_ne.2 h4];rfl)) ?_
     refine zg ?_
     refine zTG rfl rfl ?_
     refine ae rfl rfl (⟨by rw[beq_eq_false_iff_ne.2 h4];simp,hE1⟩)
end Go.Proofs.YtlehnbkknlpkbaaGreatDoor
end
namespace Go.VL
theorem kj(g:Nat):∀(vs:List ox) (o:Nat) (w:ps),(w.setCells g o vs).os=w.os/\(w.setCells g o vs).tape=w.tape/\(w.setCells g o vs).output=w.output/\(w.setCells g o vs).heap.size=w.heap.size
 |[],_,_=>⟨rfl,rfl,rfl,rfl⟩
 |v::r,o,w=>by
  have h:=kj g r (o+1) (w.setCell ⟨g,o,none⟩ v);refine⟨h.1.trans rfl,h.2.1.trans rfl,h.2.2.1.trans rfl,h.2.2.2.trans ?_⟩;simp[tR]
theorem js{g:Nat}{E:BV}:∀(vs:List ox) (o:Nat) (w:ps) (a1:Array ox),w.heap[g]? = some (.cells a1 E (0,0))->∃a0,(w.setCells g o vs).heap[g]? = some (.cells a0 E (0,0))/\a0.size=a1.size
 |[],_,_,a1,h=>⟨a1,h,rfl⟩
 |v::r,o,w,a1,h=>by
  have h2:(w.setCell ⟨g,o,none⟩ v).heap[g]? = some (.cells (a1.setIfInBounds o v) E (0,0)):=by
   simp only[tR,Array.getElem?_modify,if_pos];rw[h];simp
  obtain⟨a0,h3,h4⟩:=js r (o+1) _ _ h2;exact⟨a0,h3,by rw[h4];simp⟩
inductive WinO{α:Type}(enc:α->List ox)(E:BV)(sz:Nat)(O:Nat->Nat)(w:ps)(i:Nat):ox->List α->Prop
 |none (a:Option JB):WinO enc E sz O w i (.slice a 0 0) []
 |some {g off cap:Nat} {cur:Array ox} {l:List α} (tag:O g=i) (blk:w.heap[g]? = some (.cells cur E (0,0))) (fit:off+cap*sz<=cur.size) (len:l.length<=cap) (mx:cap<=maxLen)
  (cells:∀j u,(l.flatMap enc)[j]? = some u->w.cell? ⟨g,off+j,A2⟩=some u) (hz:∀x∈l,(enc x).length=sz):WinO enc E sz O w i (.slice (Fu ⟨g,off,A2⟩) l.length cap) l
section
variable{α:Type}{enc:α→List ox}{E:BV}{sz:Nat}{O:Nat→Nat}{w:ps}{i:Nat}{v:ox}{l:List α}
theorem WinO.nil(enc:α->List ox)(E:BV)(sz:Nat)(O:Nat->Nat)(w:ps)(i:Nat):WinO enc E sz O w i (.slice .none 0 0) []:=.none .none
theorem qI(h:J5 enc E sz O w i v l):WinO enc E sz O w i v l:=by
 obtain⟨⟨⟨hl,hr⟩,ht⟩,hz⟩:=h
 rcases hr with⟨rfl,h0⟩|⟨g,a5,a0,rfl,_,hg,a2,a3,a4,a1⟩
 ·obtain rfl:l=[]:=pZ h0;exact .none .none
 refine .some (ht g rfl) hg zo a2 a3 (fun j u hu=>?_) hz;rw[FJ,cell_of_row w g j a0 E (0,0) hg];rw[<-a1]at hu;have:=List.getElem?_take (l:=a0.toList) (i:=l.length*sz) (j:=j)
 rw[this]at hu
 split at hu
 ·simpa using hu
 cases hu
theorem WinO.upd{S:Nat->Prop}{O':Nat->Nat}{w':ps}(h:WinO enc E sz O w i v l)(u:tJ S O w O' w')(hi:i≠0)(hS:¬S i):WinO enc E sz O' w' i v l:=by
 cases h with
 |none a=>exact .none a
 | @some g off cap cur l tag blk fit len mx cells hz=>
  have hb:=u.blk g (bB blk) (by rw[tag];exact hS);exact .some (by rw[u.tag g (by rw[tag];exact hi),tag]) (by rw[hb];exact blk) fit len mx (fun j x hx=>iC hb (cells j x hx)) hz
theorem WinO.sl(h:WinO enc E sz O w i v l):Sl enc sz w v l:=by
 cases h with
 |none a=>exact⟨⟨a,0,rfl,vg _,zo,fun h=>absurd rfl h⟩,fun i hi=>absurd hi (by simp)⟩
 | @some g off cap cur l tag blk fit len mx cells hz=>
  refine⟨⟨_,cap,rfl,len,by simpa[maxLen]using mx,fun _=>⟨g,off,rfl⟩⟩,fun i hi j u hu=>?_⟩;have:=cells _ u (eV l hz i hi j u hu);rw[show((adr (.slice (Fu ⟨g,off,A2⟩) l.length cap) sz i).add j)=⟨g,off+(i*sz+j),A2⟩from by simp only[adr,J8];split<;>simp_all[]];exact this
theorem WinO.one(h:WinO enc E sz O w i v l):v.oneCell'=true:=h.sl.one
theorem WinO.tail{x:α}{r:List α}(hp:0<sz)(h:WinO enc E sz O w i v (x::r)):WinO enc E sz O w i (ej v sz 1 (r.length+1)) r:=by
 generalize hl:x::r=l at h
 cases h with
 |none a=>cases hl
 | @some g off cap cur l tag blk fit len mx cells hz=>
  subst hl;simp only[su]at len
  by_cases hc:cap=1
  ·have hr:r=[]:=pZ zo;subst hr;subst hc;exact .none _
  have hx:=hz x (by simp);obtain⟨a0,rfl⟩:∃c,cap=c+1:=⟨cap-1,zo⟩
  have e:ej (.slice (Fu ⟨g,off,A2⟩) (x::r).length (a0+1)) sz 1 (r.length+1)=.slice (Fu ⟨g,off+sz,A2⟩) r.length a0:=by
   simp only[ej];rw[if_neg zo];simp only[Option.map_some,J8,JF,JO];rw[if_neg zo]
  rw[e];refine .some tag blk (by rw[Kw]at fit;omega) zo zo (fun j u hu=>?_) (fun y hy=>hz y (by simp[hy]))
  have:=cells (sz+j) u (by
   rw[Fo,sx zo,hx,y7]
   exact hu)
  rw[Jt];exact this
end
theorem ph{P:Ko}{w:ps}{T ty E:BV}{sz bytes:Nat}(he:L8 P T E sz bytes){B:Nat}{O:Nat->Nat}(r:GY B O w){i:Nat}{α:Type}{enc:α->List ox}{v:ox}{l:List α}(hw:WinO enc E sz O w i v l) 
  (x:α) (a:JB) (c:Nat) (hx:∀j u,(enc x)[j]? = some u->w.cell? (a.add j)=some u) (a':(enc x).length=sz) (h1:∀u∈enc x,u.oneCell'=true) (a3:(l.length+1)*bytes<=140737488355328) (b6:l.length+1<=9223372036854775807) (b':i≠0) :
  ∃v' w' O',(La #[T,T] ty #[v,.slice (some a) 1 c]).run P w=.ok v' w'/\WinO enc E sz O' w' i v' (l++[x])/\tJ (fun k=>k=i) O w O' w':=by
 obtain⟨a1,z,hi,hz,c8,d7,b7⟩:=he.parts;have ht:=he.ht;have hp:=he.pos;subst c8;subst d7;have b8:¬(0=i):=fun h=>b' h.symm
 have fresh:∀ {v':ox} {w':ps} {a7:List ox} {n:Nat} {ls:List α},w'.ownsRow w.heap.size E a1.size v' n a7->n≠0->w.grownBy w' none->n=ls.length->a7=ls.flatMap enc->(∀y∈ls,(enc y).length=a1.size)->∃O',WinO enc E a1.size O' w' i v' ls/\tJ (fun k=>k=i) O w O' w':=by
  intro v' w' a7 n ls a4 hn a5 b3 ho c9
  rcases a4.2 with⟨_,h0⟩|⟨g,a9,a8,rfl,hbg,hg,d9,d4,d3,c7⟩
  ·omega
  refine⟨lJ O g i,qI ⟨⟨⟨by rw[<-ho];rw[a4.1,b3],.inr ⟨g,a9,a8,by rw[b3],tq _,hg,zo,d4,d3,by rw[<-b3,c7,ho]⟩⟩,fun g' c5=>?_⟩,c9⟩,?_⟩
  ·simp only[Value.ownBlock,KD]at c5;subst c5;exact eB _ _ _
  have d0:=bB hg;refine⟨a5.os,a5.tape,a5.output,a5.size,fun b hb _=>a5.block b hb (by simp),fun b hb=>?_,fun b hb=>?_,b8⟩
  ·unfold lJ;rw[if_neg];have:=(r.rng b hb).2;omega
  unfold lJ at hb
  split at hb
  ·rename_i e;subst e;exact .inr ⟨hbg,d0⟩
  exact .inl hb
 have b5:∀(g off j:Nat),(⟨g,off,none⟩:JB).add j=⟨g,off+j,none⟩:=fun g off j=>by simp only[J8];split<;>simp_all
 cases hw with
 |none a0=>
  cases a0 with
  |none=>
   obtain⟨v',w',O',a2,b2,b1⟩:=ft (P:=P) (ty:=ty) he r (RowO.nil O w i E a1.size) a 1 c (enc x) zo hx h1 (by simpa using a3) (by simp) b';refine⟨v',w',O',a2,qI ⟨by simpa using b2,fun y hy=>?_⟩,b1⟩;have c6:y=x:=by simpa using hy
   rw[c6];exact a'
  |some b0=>
   obtain⟨v',w',a2,a4,a5⟩:=run_append_arg_grows (P:=P) w T ty E a1 z a1.size a1.bytes ht hi hz rfl rfl b7 hp b0 0 0 [] (by simp) (fun j u hu=>by simp at hu) a 1 c (enc x) zo hx zo (by simp[maxLen]) (by simpa using a3);obtain⟨O',h2,h3⟩:=fresh (ls:=[x]) a4 zo a5 (by simp) (by simp) (fun y hy=>by rw[oD.1 hy];exact a');exact⟨v',w',O',a2,h2,h3⟩
 | @some g off a9 a8 l tag blk fit len mx cells hzl=>
  have b4:=nq l hzl
  by_cases a6:l.length+1<=a9
  ·have d2:off+l.length*a1.size+a1.size<=a8.size:=by
    have:=Nat.mul_le_mul_right a1.size a6;rw[Kw,JF]at this;omega
   have b9:∀j,j<(enc x).length->(w.cell? ⟨g,off+l.length*a1.size+j,none⟩).isSome=true:=fun j hj=>by
    rw[cell_of_row w g _ a8 E (0,0) blk,Array.getElem?_eq_getElem (show off+l.length*a1.size+j<a8.size by omega)];rfl
   have d1:∀j,j<(enc x).length->w.frozen? ⟨g,off+l.length*a1.size+j,none⟩=false:=fun j hj=>by simp[World.frozen?,blk]
   have a2:=run_append_room_cells (P:=P) w T ty E a1 ht hi g off l.length a9 a 1 c (enc x) zo hx h1 a6 b9 d1;obtain⟨d8,d6,d5⟩:=js (enc x) (off+l.length*a1.size) w a8 blk;obtain⟨s1,s2,s3,s4⟩:=kj g (enc x) (off+l.length*a1.size) w;have c':(l++[x]).length=l.length+1:=by simp
   refine⟨_,_,O,a2,?_,⟨s1,s2,s3,zo,fun b hb hn=>World.heap_setCells_other w g _ _ hb (fun e=>hn (by rw[e];exact tag)),fun _ _=>rfl,fun _ h=>.inl h,b8⟩⟩;rw[<-c'];refine .some tag d6 (by rw[d5];exact fit) zo mx (fun j u hu=>?_) (fun y hy=>?_)
   ·rw[List.flatMap_append,Fo,JU,ri]at hu
    by_cases hj:j<(l.flatMap enc).length
    ·rw[AK hj]at hu;rw[World.cell?_setCells_out g _ _ w _ (fun _ _=>.inl (by show off+j<_;omega))];exact cells j u hu
    rw[sx zo]at hu;have hk:=(As.1 hu).1;have:=World.cell?_setCells_in g (enc x) (off+l.length*a1.size) w b9 (j-(l.flatMap enc).length) hk;rw[show off+l.length*a1.size+(j-(l.flatMap enc).length)=off+j from by omega]at this;rw[this];exact(List.getElem?_eq_getElem hk).symm.trans hu
   rcases uw.1 hy with hy|hy
   ·exact hzl y hy
   rw[oD.1 hy];exact a'
  obtain⟨v',w',a2,a4,a5⟩:=run_append_arg_grows (P:=P) w T ty E a1 z a1.size a1.bytes ht hi hz rfl rfl b7 hp ⟨g,off,none⟩ l.length a9 (l.flatMap enc) b4 (fun j u hu=>by rw[b5];exact cells j u hu) a 1 c (enc x) zo hx zo (by simpa[maxLen]using b6) a3
  obtain⟨O',h2,h3⟩:=fresh (ls:=l++[x]) a4 zo a5 (by simp) (by simp) (fun y hy=>by
   rcases uw.1 hy with hy|hy
   ·exact hzl y hy
   rw[oD.1 hy];exact a')
  exact⟨v',w',O',a2,h2,h3⟩
section
variable{P:Ko}{N:Nat}{ops:Array Oper}{Q:Exit→Act→ps→Prop}{rest:List Oper}{st:St}{w:ps}{t:BV}{p:String}{e:Array Edge}{d:Nat}{x y:KS}
theorem uQ{T E:BV}{sz a0:Nat}(he:L8 P T E sz a0){α:Type}{enc:α->List ox}{B:Nat}{O:Nat->Nat}{i:Nat}{v sv:ox}{l:List α}{u:α}(hr:WinO enc E sz O w i v l)(r:GY B O w)(hs:Sl enc sz w sv [u]) 
  (hx:ev st x=some v) (hy:ev st y=some sv) (a4:(enc u).length=sz) (a6:∀c∈enc u,c.oneCell'=true)
  (hb:(l.length+1)*a0<=140737488355328) (a9:l.length+1<=9223372036854775807) (a7:i≠0) (hd:Nat.blt d N=true)
  (h:∀v' w' O',WinO enc E sz O' w' i v' (l++[u])->tJ (fun k=>k=i) O w O' w'->GY B O' w'->WL P N ops Q rest ((d,v')::st) w') :
  WL P N ops Q (⟨some d,.call ⟨.builtin .append,#[x,y],#[T,T]⟩,t,p,e,none⟩::rest) st w:=by
 obtain⟨a,c,rfl,_,_,a8⟩:=hs.shape;obtain⟨b,o,rfl⟩:=a8 (by simp);have a5:=BS hs (fun q hq=>by rw[oD.1 hq];exact a4) he.pos rfl;simp only[Fo,JU,ri]at a5;obtain⟨v',w',O',a2,a3,a1⟩:=ph (P:=P) (ty:=t) he r hr u ⟨b,o,none⟩ c a5 a4 a6 hb a9 a7;refine WL.val (v:=v') (w':=w') hd (fun a ha=>?_) (h v' w' O' a3 a1 (r.upd a1));simp only[execOp,resolve,invoke,builtin,Sem.run_bind,Sem.run_pure,Result.andThen_ok,List.map_toArray,List.map_cons,List.map_nil,ha.ev hx,ha.ev hy,pc,a2]
end
end Go.VL
namespace Go.Proofs.YtlehnbkknlpkbaaGreatDoor
abbrev En:=Nat×Bool
abbrev Gw(x:En):List ox:=[nI (x.1:Int),.bool x.2]
theorem elE:L8 uV 112 114 2 16:=⟨uu,by kernel_rfl,zd⟩
structure RunS where
 row:Nat
 wait:List En
 begun:Bool
 last:En
 closed:Bool
def grT(t:TabM)(c:Nat):Nat:=(nth t.groups c).toNat
def stL(t:TabM)(r c:Nat):Nat:=(getM t.left r (grT t c)).toNat
def stR(t:TabM)(r c:Nat):Nat:=(getM t.right r (grT t c)).toNat
structure OkT(t:TabM):Prop where
 okl:OkP t.left
 okr:OkP t.right
 gl:t.groups.length=37
 gr:∀c,c<37->0<=nth t.groups c/\nth t.groups c<64
 ll:t.lt.length=t.left.usual.length
 rl:t.rt.length=t.right.usual.length
 lp:0<t.left.usual.length
 rp:0<t.right.usual.length
 lst:∀r c,r<t.left.usual.length->c<37->0<=getM t.left r (grT t c)/\getM t.left r (grT t c)<t.left.usual.length
 rst:∀r c,r<t.right.usual.length->c<37->0<=getM t.right r (grT t c)/\getM t.right r (grT t c)<t.right.usual.length
 ig:t.ig<2^36
 kp:t.kp<2^36
 br:t.br<2^40
 lt:∀q∈t.lt,q<2^40
 rt:∀q∈t.rt,q<2^40
theorem OkT.gN{t:TabM}(h:OkT t){c:Nat}(hc:c<37):nth t.groups c=((grT t c:Nat):Int)/\grT t c<64:=by
 have:=h.gr c hc;unfold grT;omega
theorem OkT.lN{t:TabM}(h:OkT t){r c:Nat}(hr:r<t.left.usual.length)(hc:c<37):getM t.left r (grT t c)=((stL t r c:Nat):Int)/\stL t r c<t.left.usual.length:=by
 have:=h.lst r c hr hc;unfold stL;omega
theorem OkT.rN{t:TabM}(h:OkT t){r c:Nat}(hr:r<t.right.usual.length)(hc:c<37):getM t.right r (grT t c)=((stR t r c:Nat):Int)/\stR t r c<t.right.usual.length:=by
 have:=h.rst r c hr hc;unfold stR;omega
def FreeL(O:Nat->Nat)(w:ps)(cs:List ox):Prop:=∀v∈cs,L7 O w v
theorem FreeL.upd{S:Nat->Prop}{O O':Nat->Nat}{w w':ps}{cs:List ox}(h:FreeL O w cs)(u:tJ S O w O' w'):FreeL O' w' cs:=fun v hv=>(h v hv).upd u
theorem PartV.updF{S:Nat->Prop}{O O':Nat->Nat}{w w':ps}{cs:List ox}{p:Kc}{tl:List Nat}(h:PartV w cs p tl)(n:FreeL O w cs)(u:tJ S O w O' w'):PartV w' cs p tl:=by
 obtain⟨uv,bv,kv,nv,tv,rfl,h1,h2,h3,h4,h5⟩:=h;exact⟨uv,bv,kv,nv,tv,rfl,h1.upd (n uv (by simp)) u,h2.upd (n bv (by simp)) u,h3.upd (n kv (by simp)) u,h4.upd (n nv (by simp)) u,h5.upd (n tv (by simp)) u⟩
theorem PartV.tv{w:ps}{cs:List ox}{p:Kc}{tl:List Nat}(h:PartV w cs p tl):∃tv,cs[5]? = some tv/\Sl jb 1 w tv tl:=by
 obtain⟨uv,bv,kv,nv,tv,rfl,h1,h2,h3,h4,h5⟩:=h;exact⟨tv,rfl,h5⟩
abbrev D1(wv:ox)(s:RunS):List ox:=[nI (s.row:Int),wv,.bool s.begun,nI (s.last.1:Int),.bool s.last.2,.bool s.closed]
abbrev po(t:TabM)(gv:ox)(lc rc:List ox)(wv:ox)(s:RunS):List ox:=dq t.ig t.kp t.br t.rules gv lc rc++D1 wv s
structure RunO(O:Nat→Nat)(w:ps)(i j rb:Nat)(t:TabM)(gv:ox)(lc rc:List ox)(wv:ox)(s:RunS):Prop where
 blk:Dc O w i rb (po t gv lc rc wv s).toArray 116
 win:WinO Gw 114 2 O w j wv s.wait
 groups:G6 w gv t.groups
 left:PartV w lc t.left t.lt
 right:PartV w rc t.right t.rt
 fr:FreeL O w (gv::(lc++rc))
section
variable{O:Nat→Nat}{w:ps}{i j rb:Nat}{t:TabM}{gv:ox}{lc rc:List ox}{wv:ox}{s:RunS}
theorem RunO.upd{S:Nat→Prop}{O':Nat→Nat}{w':ps}(h:RunO O w i j rb t gv lc rc wv s)(u:tJ S O w O' w')(hi:i≠0)(hj:j≠0)(h1:¬S i)(h2:¬S j):RunO O' w' i j rb t gv lc rc wv s:=
 ⟨h.blk.upd u hi h1,h.win.upd u hj h2,h.groups.upd (h.fr gv (by simp)) u,h.left.updF (fun v hv=>h.fr v (by simp[hv])) u,h.right.updF (fun v hv=>h.fr v (by simp[hv])) u,h.fr.upd u⟩
theorem RunO.tab(h:RunO O w i j rb t gv lc rc wv s):TabB w rb t gv lc rc:=⟨fun k u hu=>h.blk.cell k (by
 have:=(As.1 hu).1
 simp only[po,CX]
 rw[AK this];exact hu),h.groups,h.left,h.right⟩
theorem RunO.len(h:RunO O w i j rb t gv lc rc wv s):(dq t.ig t.kp t.br t.rules gv lc rc).length=17:=by simp[h.left.one.1,h.right.one.1]
theorem RunO.cell(h:RunO O w i j rb t gv lc rc wv s)(k:Nat)(u:ox)(hu:[nI (s.row:Int),wv,.bool s.begun,nI (s.last.1:Int),.bool s.last.2,.bool s.closed][k]? = some u):w.cell? ⟨rb,17+k,none⟩=some u:=h.blk.cell (17+k) (by
 have hl:=h.len;simp only[po,CX]
 rw[sx zo,hl,y7];exact hu)
theorem RunO.k17(h:RunO O w i j rb t gv lc rc wv s):w.cell? (nA rb 17)=some (nI (s.row:Int)):=h.cell 0 _ rfl
theorem RunO.k18(h:RunO O w i j rb t gv lc rc wv s):w.cell? (nA rb 18)=some wv:=h.cell 1 _ rfl
theorem RunO.k19(h:RunO O w i j rb t gv lc rc wv s):w.cell? (nA rb 19)=some (.bool s.begun):=h.cell 2 _ rfl
theorem RunO.k20(h:RunO O w i j rb t gv lc rc wv s):w.cell? ((nA rb 20).add 0)=some (nI (s.last.1:Int)):=h.cell 3 _ rfl
theorem RunO.k21(h:RunO O w i j rb t gv lc rc wv s):w.cell? ((nA rb 20).add 1)=some (.bool s.last.2):=h.cell 4 _ rfl
theorem RunO.k22(h:RunO O w i j rb t gv lc rc wv s):w.cell? (nA rb 22)=some (.bool s.closed):=h.cell 5 _ rfl
end
structure OkS(t:TabM)(s:RunS):Prop where
 row:s.row<t.left.usual.length
 wait:∀x∈s.wait,x.1<36
 last:s.last.1<36
 few:s.wait.length<=1000000
def rwL(t:TabM):List En->Nat->Nat->Nat->Nat
 |[],_,_,told=>told
 |(c,h)::r,row,seen,told=>if h=true then rwL t r row seen told else if seen=4 then told else rwL t r (stR t row c) (seen+1) (told ||| nth t.rt (stR t row c))
def eE(t:TabM)(l:List En):Nat:=rwL t l 0 0 (nth t.rt 0)
theorem AR{t:TabM}(ho:OkT t):∀(l:List En) (row a1 a0:Nat),(∀x∈l,x.1<36)->row<t.right.usual.length->a0<2^40->rwL t l row a1 a0<2^40
 |[],_,_,_,_,_,h=>h
 |(c,h)::r,row,a1,a0,hc,hr,ht=>by
  unfold rwL;have a2:=hc (c,h) (by simp);have hn:=(ho.rN hr (show c<37 by simp at a2;omega)).2
  split
  ·exact AR ho r row a1 a0 (fun x hx=>hc x (by simp[hx])) hr ht
  split
  ·exact ht
  exact AR ho r _ _ _ (fun x hx=>hc x (by simp[hx])) hn (yJ ht (ho.rt _ (aO (by rw[ho.rl];exact hn))))
theorem rh(O:Nat → Nat)(w:ps)(i j rb:Nat)(t:TabM)(gv:ox)(lc rc:List ox)(wv:ox)(s:RunS)(h:RunO O w i j rb t gv lc rc wv s)(ho:OkT t)(hs:OkS t s):
    Gh uV 134 [.pointer (some ⟨rb, 0, none⟩)] w fun v w' => v = .int .u64 ((eE t s.wait:Nat):Int) ∧ Gc w w' := by
  have hT := h.tab
  have hp40:(2^40:Nat) = 1099511627776 := by decide
  obtain⟨tv, htc, htl⟩ := h.right.tv
  have hrl := ho.rl
  have hrp := ho.rp
  have hgl := ho.gl
  have c4:w.cell? (((⟨rb, 0, none⟩:JB).add 0).add 4) = some gv := hT.c4
  have c5:w.cell? ((((⟨rb, 0, none⟩:JB).add 0).add 11).add 5) = some tv := hT.cr 5 tv htc
  have t0:w.cell? (adr tv 1 0) = some (.int .u64 ((nth t.rt 0:Nat):Int)) := by have := htl.cell (i := 0) (j := 0) (by omega) rfl; rwa[ao]at this
  have k18 := h.k18
  have hws := h.win.sl
  have hwl := hs.few
  refine rf func134 ntmps134 rfl rfl ?_
  refine oz ?_
  refine ow ?_
  refine zv (oU rfl) ?_
  refine ix ?_
  refine az ?_
  refine oz ?_
  refine ow ?_
  refine zv (oU rfl) ?_
  refine ix ?_
  refine az ?_
  refine oz ?_
  refine ow ?_
  refine zv (ln rfl) ?_
  refine zv (aq rfl) ?_
  refine zv (RV.fa rfl) ?_
  refine zv (RV.fa rfl) ?_
  refine zv (RV.fa rfl) ?_
  refine zv (RV.ld c5 rfl) ?_
  refine zv (ah htl.sh IJ (JZ _) rfl rfl 0 rfl (by omega)) ?_
  refine zv (RV.ld t0 rfl) ?_
  refine zv (oU rfl) ?_
  refine ix ?_
  refine az ?_
  refine oz ?_
  refine ow ?_
  refine zv (oU rfl) ?_
  refine ix ?_
  refine az ?_
  refine oz ?_
  refine oz ?_
  refine ow ?_
  refine zv (ln rfl) ?_
  refine zv (aq rfl) ?_
  refine zv (RV.fa rfl) ?_
  refine zv (RV.ld k18 rfl) ?_
  refine zv (aM hws.sh uu rfl) ?_
  refine zv (ln rfl) ?_
  refine ix ?_
  refine az ?_
  refine z7 ?_
  refine zlp (fun z:Nat×Nat×Nat×Nat×ps => [(0, .pointer (some ⟨rb, 0, none⟩)), (3, .int .i64 (z.2.1:Nat)), (4, .int .u64 (z.2.2.2.1:Nat)), (5, .int .i64 (z.2.2.1:Nat)), (19, wv), (20, .int .i64 s.wait.length), (21, .int .i64 z.1)]) (fun z => z.2.2.2.2) (fun z => z.1 ≤ s.wait.length ∧ z.2.1 < t.right.usual.length ∧ z.2.2.1 ≤ 4 ∧ z.2.2.2.1 < 2^40 ∧ Gc w z.2.2.2.2 ∧ rwL t (s.wait.drop z.1) z.2.1 z.2.2.1 z.2.2.2.1 = eE t s.wait) (fun z => s.wait.length - z.1) (0, 0, 0, nth t.rt 0, w) (⟨tq _, hrp, tq _, ho.rt _ (aO (by omega)), qN _, rfl⟩) ?_
  rintro⟨k, row, seen, told, w1⟩ ⟨hk, hrow, hseen, htold, hE1, heq⟩
  dsimp only at hk hrow hseen htold hE1 heq ⊢
  have hws1 := hws.ext hE1
  refine oz ?_
  refine ow ?_
  refine zv (Km rfl rfl) ?_
  refine ix ?_
  refine az ?_
  refine oz ?_
  refine zC ?_ ?_
  · intro hlt
    replace hlt:k < s.wait.length := by have := of_decide_eq_true hlt; omega
    obtain⟨c, hd, hcd⟩:∃c hd, (c, hd) = nth s.wait k := ⟨_, _, rfl⟩
    have hc36 := hs.wait _ (aO hlt)
    rw[← hcd]at hc36
    dsimp only at hc36
    rw[AW hlt, ← aB hlt, ← hcd, rwL]at heq
    refine tG ?_
    refine az ?_
    refine oz ?_
    refine z7 ?_
    refine oz ?_
    refine ow ?_
    refine zv (JC (by first | exact hws1) uu (tp _) rfl rfl _ rfl (by omega)) ?_
    refine zv (ai (us := [.int .i64 (c:Nat), .bool hd]) (fun j u hu => hws1.cell hlt (by rw[← hcd]; exact hu)) (J3 _) (tp _) rfl) ?_
    refine ax (au w1) 1 (by omega) (Da _) rfl ?_
    intro xb w2 O2 hxb2 hU2 hR2 hE2
    refine zsa (us := #[.int .i64 (c:Nat), .bool hd]) hxb2 (tp _) ?_
    have hxb3 := hxb2.setRow (us := #[.int .i64 (c:Nat), .bool hd])
    have hU3:tJ (fun j => j = 1) O2 w2 O2 (w2.setRow xb #[.int .i64 (c:Nat), .bool hd]) := rk (by decide) hxb2.tag rfl
    have hE13 := (hU2.trans hU3).ext
    generalize w2.setRow xb #[.int .i64 (c:Nat), .bool hd] = w3 at *
    have hE03 := hE1.trans hE13
    have x0:w3.cell? ((⟨xb, 0, none⟩:JB).add 0) = some (.int .i64 (c:Int)) := hxb3.cell 0 rfl
    have x1:w3.cell? ((⟨xb, 0, none⟩:JB).add 1) = some (.bool hd) := hxb3.cell 1 rfl
    refine ix ?_
    refine az ?_
    refine oz ?_
    refine oz ?_
    refine ow ?_
    refine zv (RV.fa rfl) ?_
    refine zv (RV.ld x1 rfl) ?_
    refine ix ?_
    refine az ?_
    refine zC ?_ ?_
    · intro hh
      rw[if_pos hh]at heq
      refine J9 ?_
      refine cT ?_
      refine eY ?_
      refine az ?_
      refine ow ?_
      refine zv (BG rfl rfl (yP (by omega))) ?_
      refine zv (ln rfl) ?_
      refine ix ?_
      refine zxd (k + 1, row, seen, told, w3) (⟨hlt, hrow, hseen, htold, hE03, heq⟩)
    · intro hh
      rw[if_neg (by rw[hh]; decide)]at heq
      refine tG ?_
      refine az ?_
      refine oz ?_
      refine oz ?_
      refine ow ?_
      refine zv (ln rfl) ?_
      refine zv (KI rfl rfl) ?_
      refine ix ?_
      refine az ?_
      refine zC ?_ ?_
      · intro h4
        replace h4 : seen = 4 := by have : (seen : Int) = 4 := by simpa using h4
                                    omega
        rw[if_pos h4]at heq
        refine J9 ?_
        refine cT ?_
        refine mJ rfl ?_
        refine cT ?_
        refine cT ?_
        refine eY ?_
        refine az ?_
        refine oz ?_
        refine ow ?_
        refine zv (ln rfl) ?_
        refine zv (oU rfl) ?_
        refine ix ?_
        refine az ?_
        refine x8 ?_
        refine ae rfl rfl (⟨by rw[← heq], hE03⟩)
      · intro h4
        replace h4 : seen ≠ 4 := by have : ¬ (seen : Int) = 4 := by simpa using h4
                                    omega
        rw[if_neg h4]at heq
        have hT3 := hT.ext hE03
        obtain⟨hg1, hg2⟩ := ho.gN (c := c) (by omega)
        obtain⟨hr1, hr2⟩ := ho.rN hrow (c := c) (by omega)
        have d4:w3.cell? (((⟨rb, 0, none⟩:JB).add 0).add 4) = some gv := hT3.c4
        have dcr:∀(j:Nat) (u:ox), rc[j]? = some u → w3.cell? ((((⟨rb, 0, none⟩:JB).add 0).add 11).add j) = some u := hT3.cr
        have dg:w3.cell? (adr gv 1 c) = some (.int .i64 ((grT t c:Nat):Int)) := by have := hT3.groups.cell (i := c) (j := 0) (by omega) rfl; rw[ao, hg1]at this; exact this
        have hgs := hT3.groups
        refine tG ?_
        refine az ?_
        refine oz ?_
        refine ow ?_
        refine zv (ln rfl) ?_
        refine zv (BG rfl rfl (yP (by omega))) ?_
        refine zv (oU rfl) ?_
        refine ix ?_
        refine az ?_
        refine oz ?_
        refine C9 15 rfl rfl (by kernel_rfl) (by kernel_rfl) ?_
        refine zw (ln rfl) ?_
        refine zw (aq rfl) ?_
        refine zw (RV.fa rfl) ?_
        refine zw (RV.fa rfl) ?_
        refine zw (ai (us := rc) dcr (J2 _) (by rw[h.right.one.1]; exact zR _) rfl) ?_
        refine zw (ln rfl) ?_
        refine zw (ln rfl) ?_
        refine zw (aq rfl) ?_
        refine zw (RV.fa rfl) ?_
        refine zw (RV.fa rfl) ?_
        refine zw (RV.ld d4 rfl) ?_
        refine zw (RV.fa rfl) ?_
        refine zw (RV.ld x0 rfl) ?_
        refine zw (ah hgs.sh sQ (zl _) rfl rfl c rfl (by omega)) ?_
        refine zw (RV.ld dg rfl) ?_
        refine Jp ?_
        refine zc KA (kf rc t.right t.rt row (grT t c) w3.drew (hT3.right.ext (qN w3).drew) ho.okr hrow hg2) ?_
        rintro _ w4 ⟨rfl, hE4⟩
        rw[hr1]
        have hE04:Gc w w4 := (hE03.trans (qN w3).drew).trans hE4
        have hT4 := hT.ext hE04
        have e5:w4.cell? ((((⟨rb, 0, none⟩:JB).add 0).add 11).add 5) = some tv := hT4.cr 5 tv htc
        have htl4 := htl.ext hE04
        have t4:w4.cell? (adr tv 1 (stR t row c)) = some (.int .u64 ((nth t.rt (stR t row c):Nat):Int)) := by have := htl4.cell (i := stR t row c) (j := 0) (by omega) rfl; rwa[ao]at this
        have hlt2 := ho.rt _ (aO (l := t.rt) (j := stR t row c) (by omega))
        refine zv (oU rfl) ?_
        refine ix ?_
        refine az ?_
        refine ow ?_
        refine zv (ln rfl) ?_
        refine zv (ln rfl) ?_
        refine zv (aq rfl) ?_
        refine zv (RV.fa rfl) ?_
        refine zv (RV.fa rfl) ?_
        refine zv (RV.fa rfl) ?_
        refine zv (RV.ld e5 rfl) ?_
        refine zv (ln rfl) ?_
        refine zv (ah htl4.sh IJ (JZ _) rfl rfl (stR t row c) rfl (by omega)) ?_
        refine zv (RV.ld t4 rfl) ?_
        refine zv (uS (a := told) (b := nth t.rt (stR t row c)) rfl rfl rfl rfl (by show _ ≤ (18446744073709551615:Int); omega) (by show _ ≤ (18446744073709551615:Int); omega)) ?_
        refine zv (oU rfl) ?_
        refine ix ?_
        refine eh ?_
        refine az ?_
        refine ow ?_
        refine zv (BG rfl rfl (yP (by omega))) ?_
        refine zv (ln rfl) ?_
        refine ix ?_
        refine zxd (k + 1, stR t row c, seen + 1, told ||| nth t.rt (stR t row c), w4) (⟨hlt, hr2, by dsimp only; omega, yJ htold hlt2, hE04, heq⟩)
  · intro hge
    obtain rfl:k = s.wait.length := by have := of_decide_eq_false hge; omega
    rw[List.drop_length, rwL]at heq
    refine J9 ?_
    refine cT ?_
    refine cT ?_
    refine eY ?_
    refine az ?_
    refine oz ?_
    refine ow ?_
    refine zv (ln rfl) ?_
    refine zv (oU rfl) ?_
    refine ix ?_
    refine az ?_
    refine x8 ?_
    refine ae rfl rfl (⟨by rw[← heq], hE1⟩)
theorem cH{g:Nat}{tab:List Nat}{w w':ps}(h:Kk g tab w)(e:Gc w w'):Kk g tab w':=fun j hj=>e.cell (h j hj)
abbrev eF(w:ps):Prop:=Kk 0 JW w
def cZ(t:TabM)(s:RunS):Int:=if nth t.lt s.row &&& eE t s.wait=0 then -1 else((BW 64 (nth t.lt s.row &&& eE t s.wait):Nat):Int)
theorem nQ{t:TabM}{s:RunS}(ho:OkT t)(hs:OkS t s):eE t s.wait<2^40:=AR ho _ _ _ _ hs.wait ho.rp (ho.rt _ (aO (by have:=ho.rl;have:=ho.rp;omega)))
theorem qO(O:Nat->Nat)(w:ps)(i j rb:Nat)(t:TabM)(gv:ox)(lc rc:List ox)(wv:ox)(s:RunS)(h:RunO O w i j rb t gv lc rc wv s)(hi:i≠0)(hj:j≠0)(ho:OkT t)(hs:OkS t s)(hT:eF w):
  Gh uV 94 [nP rb] w fun v w'=>v=nI (cZ t s)/\Gc w w':=by
 have hB:=h.tab;obtain⟨tv,a4,a3⟩:=h.left.tv;have a':=ho.ll;have a5:=hs.row;have c1:w.drew.cell? (((nA rb 0).add 5).add 5)=some tv:=hB.cl 5 tv a4;have t1:w.drew.cell? (adr tv 1 s.row)=some (.int .u64 ((nth t.lt s.row:Nat):Int)):=by have:=a3.cell (i:=s.row) (j:=0) zo rfl;rwa[ao]at this
 have k17:=h.k17;have a7:=ho.lt _ (aO (l:=t.lt) (j:=s.row) zo);have a9:=nQ ho hs;have a6:(2^40:Nat)=1099511627776:=zd;have hW:cZ t s=if nth t.lt s.row &&& eE t s.wait=0 then -1 else((BW 64 (nth t.lt s.row &&& eE t s.wait):Nat):Int):=rfl
 rw[hW];have a8:nth t.lt s.row &&& eE t s.wait<2^40:=DH Nat.and_le_left a7;refine rf func94 ntmps94 rfl rfl ?_;refine zh ?_;have k17:w.drew.cell? (nA rb 17)=some (nI (s.row:Int)):=k17;refine aI (fun W=>W.cell? (((nA rb 0).add 5).add 5)=some tv/\W.cell? (adr tv 1 s.row)=some (.int .u64 ((nth t.lt s.row:Nat):Int))/\W.cell? (nA rb 17)=some (nI (s.row:Int))) 16 rfl zk ?_;refine zin ⟨c1,t1,k17⟩ fun zS=>?_
 refine zrm 0 rfl zS rfl ?_;refine zr 1 rfl zS (fun _=>aq rfl) ?_
 refine zrf 2 rfl zS rfl ?_;refine zrf 3 rfl zS rfl ?_
 refine zrf 4 rfl zS rfl ?_;refine zt 5 rfl zS (fun w1 a1=>RV.ld a1.1 rfl) ?_
 refine zrm 6 rfl zS rfl ?_;refine zr 7 rfl zS (fun _=>aq rfl) ?_
 refine zrf 8 rfl zS rfl ?_;refine zt 9 rfl zS (fun w1 a1=>RV.ld a1.2.2 rfl) ?_
 refine zr 10 rfl zS (fun _=>ah a3.sh IJ (JZ _) rfl rfl s.row rfl zo) ?_;refine zt 11 rfl zS (fun w1 a1=>RV.ld a1.2.1 rfl) ?_
 refine zrm 12 rfl zS rfl ?_;refine pR 13 zk rfl ?_
 refine zc call134 (rh O w.drew i j rb t gv lc rc wv s (h.upd (aa (S:=fun _=>False) (fun h=>h) O (qN w).drew) hi hj (fun h=>h) (fun h=>h)) ho hs) ?_;rintro _ w1 ⟨rfl,a2⟩;have a0:Gc w w1:=(qN w).drew.trans a2;refine zh ?_
 refine zaf (⟨a2.cell c1,a2.cell t1,a2.cell k17⟩) fun zS=>?_
 refine zr 14 rfl zS (fun _=>xD (a:=nth t.lt s.row) (b:=eE t s.wait) rfl rfl rfl rfl (by show _<=(18446744073709551615:Int);omega) (by show _<=(18446744073709551615:Int);omega)) ?_;refine zra 15 rfl zS rfl ?_
 refine ug zk ?_;refine zh ?_
 generalize nth t.lt s.row &&& eE t s.wait=both at *
 by_cases h0:both=0
 ·rw[if_pos h0];refine zTH rfl ((by rw[h0];rfl)) ?_;refine ae rfl rfl (⟨rfl,a0⟩)
 rw[if_neg h0];refine zFH rfl ((by rw[beq_eq_false_iff_ne];omega)) ?_;refine zc call135 (GI both w1 zo h0 (cH hT a0)) ?_;rintro _ w2 ⟨rfl,rfl⟩;refine zh ?_;refine ae rfl rfl (⟨rfl,a0⟩)
theorem IE:cV uV 114 #[(0,1),(1,1)]:=⟨_,underlying114,fun w=>by kernel_rfl⟩
section
variable{O:Nat→Nat}{w:ps}{i j rb:Nat}{t:TabM}{gv:ox}{lc rc:List ox}{wv:ox}{s:RunS}
theorem RunO.size(h:RunO O w i j rb t gv lc rc wv s):(po t gv lc rc wv s).toArray.size=23:=by simp[h.left.one.1,h.right.one.1]
theorem RunO.at_(h:RunO O w i j rb t gv lc rc wv s)(k:Nat){u:ox}(hu:(D1 wv s)[k]? = some u):(po t gv lc rc wv s).toArray[17+k]? = some u:=by
 have hl:=h.len;simp only[po,CX];rw[sx zo,hl,y7];exact hu
theorem RunO.store2(h:RunO O w i j rb t gv lc rc wv s)(hi:i≠0)(hj:j≠0)(hij:i≠j){S:Nat→Prop}{O':Nat→Nat}{w':ps}(u0:tJ S O w O' w')(hb:Dc O' w' i rb (po t gv lc rc wv s).toArray 116)(k:Nat)(v:ox){wv':ox}{s':RunS}
  (hk:(D1 wv s).set k v=D1 wv' s') (hw:WinO Gw 114 2 O' w' j wv' s'.wait) :
  RunO O' (w'.setCell ⟨rb,17+k,none⟩ v) i j rb t gv lc rc wv' s'∧tJ (fun q=>q=i) O' w' O' (w'.setCell ⟨rb,17+k,none⟩ v):=by
 have u:tJ (fun q=>q=i) O' w' O' (w'.setCell ⟨rb,17+k,none⟩ v):=vO (fun e=>hi e.symm) hb.tag rfl
 have f0:=h.fr.upd u0
 have g0:=h.groups.upd (h.fr gv (by simp)) u0
 have l0:=h.left.updF (fun v hv=>h.fr v (by simp[hv])) u0
 have r0:=h.right.updF (fun v hv=>h.fr v (by simp[hv])) u0
 refine⟨⟨?_,hw.upd u hj (fun e=>hij e.symm),g0.upd (f0 gv (by simp)) u,l0.updF (fun v hv=>f0 v (by simp[hv])) u,r0.updF (fun v hv=>f0 v (by simp[hv])) u,f0.upd u⟩,u⟩
 have hb:=hb.set (17+k) v
 have hl:=h.len
 have e:(po t gv lc rc wv s).toArray.setIfInBounds (17+k) v=(po t gv lc rc wv' s').toArray:=by
  rw[List.setIfInBounds_toArray]
  unfold po
  rw[List.set_append_right _ _ (by omega),hl,y7,hk]
 rw[e]at hb
 exact hb
theorem RunO.store(h:RunO O w i j rb t gv lc rc wv s)(hi:i≠0)(hj:j≠0)(a0:i≠j)(k:Nat)(v:ox){wv':ox}{s':RunS}(hk:(D1 wv s).set k v=D1 wv' s')(hw:WinO Gw 114 2 O w j wv' s'.wait):
  RunO O (w.setCell ⟨rb,17+k,none⟩ v) i j rb t gv lc rc wv' s'/\tJ (fun q=>q=i) O w O (w.setCell ⟨rb,17+k,none⟩ v):=
 h.store2 hi hj a0 (Ji (S:=fun _=>False) (fun h=>h) O w) h.blk k v hk hw
theorem RunO.lastE(h:RunO O w i j rb t gv lc rc wv s)(c:Nat)(b:Bool):((po t gv lc rc wv s).toArray.toList.take 20++(#[nI (c:Int),.bool b]:Array ox).toList++(po t gv lc rc wv s).toArray.toList.drop (20+(#[nI (c:Int),.bool b]:Array ox).size)).toArray=(po t gv lc rc wv {s with last:=(c,b)}).toArray:=by
 have hl:=h.len;congr 1;show List.take 20 (dq t.ig t.kp t.br t.rules gv lc rc++D1 wv s)++[nI (c:Int),.bool b]++KF 22 (dq t.ig t.kp t.br t.rules gv lc rc++D1 wv s)=_;have hd:KF 22 (dq t.ig t.kp t.br t.rules gv lc rc)=[]:=List.drop_eq_nil_of_le zo;rw[List.take_append,List.drop_append,hl,Jw zo,hd];simp
theorem RunO.lastS(h:RunO O w i j rb t gv lc rc wv s)(hi:i≠0)(hj:j≠0)(hij:i≠j)(c:Nat)(b:Bool):
  RunO O (w.setRow rb (po t gv lc rc wv {s with last:=(c,b)}).toArray) i j rb t gv lc rc wv {s with last:=(c,b)}∧tJ (fun q=>q=i) O w O (w.setRow rb (po t gv lc rc wv {s with last:=(c,b)}).toArray):=by
 have u:tJ (fun q=>q=i) O w O (w.setRow rb (po t gv lc rc wv {s with last:=(c,b)}).toArray):=rk (fun e=>hi e.symm) h.blk.tag rfl
 exact⟨⟨h.blk.setRow,h.win.upd u hj (fun e=>hij e.symm),h.groups.upd (h.fr gv (by simp)) u,h.left.updF (fun v hv=>h.fr v (by simp[hv])) u,h.right.updF (fun v hv=>h.fr v (by simp[hv])) u,h.fr.upd u⟩,u⟩
end
def aJ(id:Int):Nat:=if id<0\/36<=id then 0 else id.toNat
theorem ew(id:Int):aJ id<36:=by unfold aJ;split<;>omega
def CJ(t:TabM)(s:RunS)(c:Nat):Bool:=t.ig.testBit c&&(s.last.2 || !(t.kp.testBit s.last.1))
def nT(t:TabM)(s:RunS)(c:Nat):RunS:=
 if s.begun=true then {s with last:=(c,CJ t s c),wait:=s.wait++[(c,CJ t s c)]} else {s with begun:=true,last:=(c,false),row:=stL t s.row c}
theorem vy{t:TabM}{s:RunS}{c:Nat}(ho:OkT t)(hs:OkS t s)(hc:c<36)(hf:s.wait.length+1<=1000000):OkS t (nT t s c):=by
 unfold nT
 split
 ·refine⟨hs.row,fun x hx=>?_,hc,by simpa using hf⟩
  rcases uw.1 hx with hx|hx
  ·exact hs.wait x hx
  rw[oD.1 hx];exact hc
 exact⟨(ho.lN hs.row zo).2,hs.wait,hc,by show s.wait.length<=_;omega⟩
theorem jJ(B:Nat)(O:Nat → Nat)(w:ps)(i j rb:Nat)(t:TabM)(gv:ox)(lc rc:List ox)(wv:ox)(s:RunS)(h:RunO O w i j rb t gv lc rc wv s)(hi:i ≠ 0)(hj:j ≠ 0)(hij:i ≠ j)(hi1:i < 1000)(hj1:j < 1000)(ho:OkT t)(hs:OkS t s)(hf:s.wait.length + 1 ≤ 1000000)(hR:GY B O w)(id:Int):
  Gh uV 54 [nP rb, nI id] w fun _ w' => ∃O' wv', RunO O' w' i j rb t gv lc rc wv' (nT t s (aJ id)) ∧ tJ (fun q => q = i ∨ q = j ∨ q = 1000) O w O' w' ∧ GY B O' w' := by
 have hp40:(2^40:Nat) = 1099511627776 := by decide
 have hp36:(2^36:Nat) = 68719476736 := by decide
 have hz:¬(0 = i ∨ 0 = j ∨ 0 = 1000) := by omega
 have hl1 := hs.last
 have hwl := hs.few
 obtain⟨c, hc⟩:∃c, c = aJ id := ⟨_, rfl⟩
 have hc36:c < 36 := by rw[hc]; exact ew id
 rw[← hc]
 refine rf func54 ntmps54 rfl rfl ?_
 refine oz ?_
 refine oz ?_
 refine ow ?_
 refine zv (ln rfl) ?_
 refine zv (Km rfl rfl) ?_
 refine zv (ln rfl) ?_
 refine bK (fun w1 => _ = w1) (decide (36 ≤ id)) 2 (rfl) rfl rfl rfl rfl rfl ?_ ?_
 ·skip
  intro g1
  refine Cl rfl ?_
  refine zv (ln rfl) ?_
  refine Cl rfl ?_
  refine zv (RV.geq rfl rfl) ?_
  refine ix ?_
  refine Cy (tA := 7) 3 (rfl) rfl rfl rfl (fun v hv => (KE hv).symm.trans (congrArg Kp g1)) rfl
 rintro _ rfl
 refine ix ?_
 refine az ?_
 refine iK (fun z:Nat => [(0, nP rb), (1, nI (z:Nat))]) (fun z:Nat => w) (fun z:Nat => z = c) ?_ ?_
 ·intro hN
  refine zC ?_ ?_
  ·intro hb
   refine ow ?_
   refine zv (oU rfl) ?_
   refine ix ?_
   exact eD (hN (0) (by rw[hc]; unfold aJ; rw[if_pos (by simpa using hb)])) ⟨rfl, rfl, trivial⟩ rfl
  ·intro hb
   obtain rfl:id = (c:Int) := by
    have:¬(id < 0 ∨ 36 ≤ id) := by simpa using hb
    rw[hc]; unfold aJ
    rw[if_neg this]; omega
   refine tG ?_
   exact eD (hN (c) (rfl)) ⟨rfl, rfl, trivial⟩ rfl
 rintro c' hcc
 obtain rfl:c = c' := hcc.symm
 clear hcc hc
 refine az ?_
 refine oz ?_
 refine ow ?_
 refine zv (ln rfl) ?_
 refine zv (aF IE (Da _) rfl (by first | rfl | (simp only[uM, List.all_nil]; rfl)) rfl rfl) ?_
 refine ax hR 1000 (by omega) (Da _) rfl ?_
 intro xb w1 O1 hxb1 hU1 hR1 hE1
 refine zsa (us := #[nI (c:Nat), .bool false]) hxb1 (tp _) ?_
 have hxb2 := hxb1.setRow (us := #[nI (c:Nat), .bool false])
 have hU2:tJ (fun q => q = 1000) O1 w1 O1 (w1.setRow xb #[nI (c:Nat), .bool false]) := rk (by decide) hxb1.tag rfl
 generalize w1.setRow xb #[nI (c:Nat), .bool false] = w2 at *
 have hU02 := hU1.trans hU2
 have hR2 := hR1.upd hU2
 have h2 := h.upd hU02 hi hj (by omega) (by omega)
 have k19 := h2.k19
 have hcs := hxb2.cellsAdd
 refine ix ?_
 refine az ?_
 refine oz ?_
 refine oz ?_
 refine ow ?_
 refine zv (ln rfl) ?_
 refine zv (aq rfl) ?_
 refine zv (RV.fa rfl) ?_
 refine zv (RV.ld k19 rfl) ?_
 refine zv (GZ rfl) ?_
 refine ix ?_
 refine az ?_
 have hX := aa (S := fun _ => False) (fun h => h) O1 (qN w2).drew
 cases hbg:s.begun with
 |false =>
  refine aZ rfl rfl ?_
  refine oz ?_
  refine aI (fun W => ∀k u, [nI (c:Nat), .bool false][k]? = some u → W.cell? (nA xb k) = some u) 9 rfl (by kernel_rfl) ?_
  refine zrm 0 rfl hcs rfl ?_
  refine zrm 1 rfl hcs rfl ?_
  refine zt 2 rfl hcs (fun w1 hw1 => ai (us := [nI (c:Nat), .bool false]) hw1 (J3 _) (tp _) rfl) ?_
  refine zr 3 rfl hcs (fun _ => aq rfl) ?_
  refine zrf 4 rfl hcs rfl ?_
  have h2d := h2.upd hX hi hj (fun h => h) (fun h => h)
  refine pR 5 (by kernel_rfl) rfl ?_
  refine ak (j := 19) h2d.blk (h2d.at_ 2 rfl) (J0 _) rfl rfl rfl rfl ?_
  obtain⟨h3, hU3⟩ := h2d.store hi hj hij 2 (.bool true) (wv' := wv) (s' := {s with begun := true}) (by simp[hbg]) h2d.win
  have hU03 := (hX.mono (S' := fun q => q = i) (fun _ h => h.elim) (by omega)).trans hU3
  have hx3 := hxb2.upd hU03 (by decide) (by omega)
  have hR3 := hR2.upd hU03
  generalize w2.drew.setCell ⟨rb, 17 + 2, none⟩ (.bool true) = w3 at *
  refine ix ?_
  refine zaf (hx3.cellsAdd) fun zS => ?_
  refine zr 6 rfl zS (fun _ => aq rfl) ?_
  refine zrf 7 rfl zS rfl ?_
  refine pR 8 (by kernel_rfl) rfl ?_
  refine eL (us := #[nI (c:Nat), .bool false]) 20 (po t gv lc rc wv {s with begun := true, last := (c, false)}).toArray h3.blk (h3.lastE c false) (by rw[h3.size]; show 22 ≤ 23; omega) (tp _) rfl rfl rfl rfl ?_
  obtain⟨h4, hU4⟩ := h3.lastS hi hj hij c false
  have hx4 := hx3.upd hU4 (by decide) (by omega)
  have hU04 := hU03.trans hU4
  have hR4 := hR3.upd hU4
  generalize w3.setRow rb (po t gv lc rc wv {s with begun := true, last := (c, false)}).toArray = w4 at *
  refine ix ?_
  refine af (hx4.cellsAdd) ?_
  refine ug (by kernel_rfl) ?_
  refine az ?_
  refine oz ?_
  have hB := h4.tab
  obtain⟨hg1, hg2⟩ := ho.gN (c := c) (by omega)
  obtain⟨hr1, hr2⟩ := ho.lN hs.row (c := c) (by omega)
  have hgl := ho.gl
  have d4:w4.drew.cell? ((nA rb 0).add 4) = some gv := hB.c4
  have dcl:∀(j:Nat) (u:ox), lc[j]? = some u → w4.drew.cell? (((nA rb 0).add 5).add j) = some u := hB.cl
  have dg:w4.drew.cell? (adr gv 1 c) = some (nI ((grT t c:Nat):Int)) := by have := hB.groups.cell (i := c) (j := 0) (by omega) rfl; rw[ao, hg1]at this; exact this
  have d17:w4.drew.cell? (nA rb 17) = some (nI (s.row:Int)) := h4.k17
  refine aI (fun W => W.cell? ((nA rb 0).add 4) = some gv ∧ W.cell? (adr gv 1 c) = some (nI ((grT t c:Nat):Int)) ∧ ∀(j:Nat) (u:ox), lc[j]? = some u → W.cell? (((nA rb 0).add 5).add j) = some u) 22 rfl (by kernel_rfl) ?_
  refine zin ⟨d4, dg, dcl⟩ fun zS => ?_
  refine zrm 0 rfl zS rfl ?_
  refine zrm 1 rfl zS rfl ?_
  refine zr 2 rfl zS (fun _ => aq rfl) ?_
  refine zrf 3 rfl zS rfl ?_
  refine zrf 4 rfl zS rfl ?_
  refine zt 5 rfl zS (fun w1 hw1 => ai (us := lc) hw1.2.2 (J2 _) (by rw[h.left.one.1]; exact zR _) rfl) ?_
  refine zrm 6 rfl zS rfl ?_
  refine zr 7 rfl zS (fun _ => aq rfl) ?_
  refine zrf 8 rfl zS rfl ?_
  refine zrm 10 rfl zS rfl ?_
  refine zr 11 rfl zS (fun _ => aq rfl) ?_
  refine zrf 12 rfl zS rfl ?_
  refine zrf 13 rfl zS rfl ?_
  refine zt 14 rfl zS (fun w1 hw1 => RV.ld hw1.1 rfl) ?_
  refine zrm 15 rfl zS rfl ?_
  refine zr 16 rfl zS (fun _ => ah hB.groups.sh sQ (zl _) rfl rfl c rfl (by omega)) ?_
  refine zt 17 rfl zS (fun w1 hw1 => RV.ld hw1.2.1 rfl) ?_
  refine pR 9 (by kernel_rfl) rfl ?_
  refine zv (RV.ld d17 rfl) ?_
  refine ix ?_
  refine af (⟨d4, dg, dcl⟩) ?_
  refine pR 18 (by kernel_rfl) rfl ?_
  refine zc KA (kf lc t.left t.lt s.row (grT t c) w4.drew (hB.left.ext (qN w4).drew) ho.okl hs.row hg2) ?_
  rintro _ w5 ⟨rfl, hE5⟩
  rw[hr1]
  refine ix ?_
  refine af (⟨hE5.cell d4, hE5.cell dg, fun j u hu => hE5.cell (dcl j u hu)⟩) ?_
  have hX5 := aa (S := fun _ => False) (fun h => h) O1 ((qN w4).drew.trans hE5)
  have h5 := h4.upd hX5 hi hj (fun h => h) (fun h => h)
  have hU05 := (hU04.trans (hX5.mono (fun _ h => h.elim) (by omega)))
  have hR5 := hR4.upd hX5
  refine zin (⟨hE5.cell d4, hE5.cell dg, fun j u hu => hE5.cell (dcl j u hu)⟩) fun zS => ?_
  refine zr 19 rfl zS (fun _ => aq rfl) ?_
  refine zrf 20 rfl zS rfl ?_
  refine pR 21 (by kernel_rfl) rfl ?_
  refine ak (j := 17) h5.blk (h5.at_ 0 rfl) (zl _) rfl rfl rfl rfl ?_
  obtain⟨h6, hU6⟩ := h5.store hi hj hij 0 (nI ((stL t s.row c:Nat):Int)) (wv' := wv) (s' := {s with begun := true, last := (c, false), row := stL t s.row c}) rfl h5.win
  have hB6 := h6.tab
  have hR6 := hR5.upd hU6
  have hU06 := hU05.trans hU6
  have q1:(w5.setCell ⟨rb, 17 + 0, none⟩ (nI ((stL t s.row c:Nat):Int))).cell? (adr gv 1 c) = some (nI ((grT t c:Nat):Int)) := by have := hB6.groups.cell (i := c) (j := 0) (by omega) rfl; rw[ao, hg1]at this; exact this
  refine ix ?_
  refine af (⟨hB6.c4, q1, hB6.cl⟩) ?_
  refine ug (by kernel_rfl) ?_
  refine az ?_
  refine x8 ?_
  refine bT ?_
  have e:nT t s c = {s with begun := true, last := (c, false), row := stL t s.row c} := by unfold nT; rw[hbg, if_neg (by decide)]
  refine cA rfl (⟨O1, wv, by rw[e]; exact h6, (hU02.mono (fun _ h => by omega) hz).trans (hU06.mono (fun _ h => by omega) hz), hR6⟩)
 |true =>
  refine aS rfl rfl ?_
  refine tG ?_
  refine az ?_
  refine oz ?_
  have hB := h2.tab
  have kt0:w2.drew.cell? ((nA rb 0).add 0) = some (.int .u64 (t.ig:Int)) := hB.c0
  have kt1:w2.drew.cell? ((nA rb 0).add 1) = some (.int .u64 (t.kp:Int)) := hB.c1
  have k20:w2.drew.cell? ((nA rb 20).add 0) = some (nI (s.last.1:Int)) := h2.k20
  have k21:w2.drew.cell? ((nA rb 20).add 1) = some (.bool s.last.2) := h2.k21
  have hxd := hxb2.upd hX (by decide) (fun h => h)
  have fin:∀b, b = CJ t s c → Dc O1 (w2.drew.setCell ⟨xb, 1, none⟩ (.bool b)) 1000 xb #[nI (c:Nat), .bool (CJ t s c)] 114 ∧ tJ (fun q => q = 1000) O1 w2 O1 (w2.drew.setCell ⟨xb, 1, none⟩ (.bool b)) ∧
    ((w2.drew.setCell ⟨xb, 1, none⟩ (.bool b)).cell? ((nA rb 0).add 0) = some (.int .u64 (t.ig:Int)) ∧ (w2.drew.setCell ⟨xb, 1, none⟩ (.bool b)).cell? ((nA rb 0).add 1) = some (.int .u64 (t.kp:Int)) ∧ (w2.drew.setCell ⟨xb, 1, none⟩ (.bool b)).cell? ((nA rb 20).add 0) = some (nI (s.last.1:Int)) ∧ (w2.drew.setCell ⟨xb, 1, none⟩ (.bool b)).cell? ((nA rb 20).add 1) = some (.bool s.last.2)) := by
   rintro b rfl
   have u1:tJ (fun q => q = 1000) O1 w2.drew O1 (w2.drew.setCell ⟨xb, 1, none⟩ (.bool (CJ t s c))) := vO (by decide) hxd.tag rfl
   have u2 := (hX.mono (S' := fun q => q = 1000) (fun _ h => h.elim) (by decide)).trans u1
   have h3 := h2.upd u2 hi hj (by omega) (by omega)
   exact⟨hxd.set 1 _, u2, h3.tab.c0, h3.tab.c1, h3.k20, h3.k21⟩
  have hh:CJ t s c = (t.ig.testBit c && (s.last.2 || !(t.kp.testBit s.last.1))) := rfl
  have hkp := ho.kp
  have hig := ho.ig
  refine iK (fun z:ps => [(0, nP rb), (4, nP xb)]) (fun z:ps => z) (fun z:ps => Dc O1 z 1000 xb #[nI (c:Nat), .bool (CJ t s c)] 114 ∧ tJ (fun q => q = 1000) O1 w2 O1 z) ?_ ?_
  ·intro hN
   refine aI (fun W => W.cell? ((nA rb 0).add 0) = some (.int .u64 (t.ig:Int)) ∧ W.cell? ((nA rb 0).add 1) = some (.int .u64 (t.kp:Int)) ∧ W.cell? ((nA rb 20).add 0) = some (nI (s.last.1:Int)) ∧ W.cell? ((nA rb 20).add 1) = some (.bool s.last.2)) 30 rfl (by kernel_rfl) ?_
   refine zin ⟨kt0, kt1, k20, k21⟩ fun zS => ?_
   refine zrm 0 rfl zS rfl ?_
   refine zr 1 rfl zS (fun _ => aq rfl) ?_
   refine zrf 2 rfl zS rfl ?_
   refine zrf 3 rfl zS rfl ?_
   refine zt 4 rfl zS (fun w1 hw1 => RV.ld hw1.1 rfl) ?_
   refine zrm 5 rfl zS rfl ?_
   refine pR 6 (by kernel_rfl) rfl ?_
   refine zc L2 (rV t.ig c _ (by omega) (by omega)) ?_
   rintro _ w3 ⟨rfl, rfl⟩
   refine ix ?_
   refine af (⟨kt0, kt1, k20, k21⟩) ?_
   refine zrm 7 rfl (⟨kt0, kt1, k20, k21⟩) rfl ?_
   cases hb1:t.ig.testBit c with
   |false =>
    obtain⟨f1, f2, f3⟩ := fin false (by rw[hh, hb1]; rfl)
    refine bL (d := 53) rfl (b' := false) (rfl) ?_
    refine zin (⟨kt0, kt1, k20, k21⟩) fun zS => ?_
    refine zte 8 rfl rfl zS ?_
    refine zte 9 rfl rfl zS ?_
    refine zte 10 rfl rfl zS ?_
    refine zte 11 rfl rfl zS ?_
    refine zte 12 rfl rfl zS ?_
    refine zte 13 rfl rfl zS ?_
    refine ztu 14 rfl zS ?_
    refine ztu 15 rfl zS ?_
    refine ztu 16 rfl zS ?_
    refine ztu 17 rfl zS ?_
    refine ztu 18 rfl zS ?_
    refine ztu 19 rfl zS ?_
    refine ztu 20 rfl zS ?_
    refine ztu 21 rfl zS ?_
    refine ztu 22 rfl zS ?_
    refine ztu 23 rfl zS ?_
    refine ztu 24 rfl zS ?_
    refine ztu 25 rfl zS ?_
    refine zte 26 rfl rfl zS ?_
    refine zr 27 rfl zS (fun _ => aW rfl rfl) ?_
    refine zrf 28 rfl zS rfl ?_
    refine pR 29 (by kernel_rfl) rfl ?_
    refine ak (j := 1) hxd rfl (J0 _) rfl rfl rfl rfl ?_
    refine ix ?_
    refine af (f3) ?_
    refine ug (by kernel_rfl) ?_
    exact eD (hN (_) (⟨f1, f2⟩)) ⟨rfl, rfl, trivial⟩ rfl
   |true =>
    refine bL (d := 53) rfl (b' := true) (rfl) ?_
    refine zin (⟨kt0, kt1, k20, k21⟩) fun zS => ?_
    refine zro 8 rfl zS (fun _ => ln rfl) ?_
    refine zro 9 rfl zS (fun _ => aq rfl) ?_
    refine zro 10 rfl zS (fun _ => RV.fa rfl) ?_
    refine zro 11 rfl zS (fun _ => RV.fa rfl) ?_
    refine zto 12 rfl zS (fun w1 hw1 => RV.ld hw1.2.2.2 rfl) ?_
    refine zro 13 rfl zS (fun _ => ln rfl) ?_
    cases hb2:s.last.2 with
    |true =>
     obtain⟨f1, f2, f3⟩ := fin true (by rw[hh, hb1, hb2]; rfl)
     rw[hb2]at f3 k21
     refine bL (d := 59) rfl (b' := true) (rfl) ?_
     refine zin (⟨kt0, kt1, k20, k21⟩) fun zS => ?_
     refine zte 14 rfl rfl zS ?_
     refine zte 15 rfl rfl zS ?_
     refine zte 16 rfl rfl zS ?_
     refine zte 17 rfl rfl zS ?_
     refine zte 18 rfl rfl zS ?_
     refine zte 19 rfl rfl zS ?_
     refine zte 20 rfl rfl zS ?_
     refine zte 21 rfl rfl zS ?_
     refine zte 22 rfl rfl zS ?_
     refine zte 23 rfl rfl zS ?_
     refine zte 24 rfl rfl zS ?_
     refine zte 25 rfl rfl zS ?_
     refine zro 26 rfl zS (fun _ => aQ rfl rfl) ?_
     refine zr 27 rfl zS (fun _ => aQ rfl rfl) ?_
     refine zrf 28 rfl zS rfl ?_
     refine pR 29 (by kernel_rfl) rfl ?_
     refine ak (j := 1) hxd rfl (J0 _) rfl rfl rfl rfl ?_
     refine ix ?_
     refine af (f3) ?_
     refine ug (by kernel_rfl) ?_
     exact eD (hN (_) (⟨f1, f2⟩)) ⟨rfl, rfl, trivial⟩ rfl
    |false =>
     obtain⟨f1, f2, f3⟩ := fin (!(t.kp.testBit s.last.1)) (by rw[hh, hb1, hb2]; rfl)
     rw[hb2]at f3 k21
     refine bL (d := 59) rfl (b' := false) (rfl) ?_
     refine zin (⟨kt0, kt1, k20, k21⟩) fun zS => ?_
     refine zro 14 rfl zS (fun _ => ln rfl) ?_
     refine zro 15 rfl zS (fun _ => aq rfl) ?_
     refine zro 16 rfl zS (fun _ => RV.fa rfl) ?_
     refine zro 17 rfl zS (fun _ => RV.fa rfl) ?_
     refine zto 18 rfl zS (fun w1 hw1 => RV.ld hw1.2.1 rfl) ?_
     refine zro 19 rfl zS (fun _ => ln rfl) ?_
     refine zro 20 rfl zS (fun _ => aq rfl) ?_
     refine zro 21 rfl zS (fun _ => RV.fa rfl) ?_
     refine zro 22 rfl zS (fun _ => RV.fa rfl) ?_
     refine zto 23 rfl zS (fun w1 hw1 => RV.ld hw1.2.2.1 rfl) ?_
     refine pR 24 (by kernel_rfl) rfl ?_
     refine Cl rfl ?_
     refine zc L2 (rV t.kp s.last.1 _ (by omega) (by omega)) ?_
     rintro _ w3 ⟨rfl, rfl⟩
     refine ix ?_
     refine zaf (⟨kt0, kt1, k20, k21⟩) fun zS => ?_
     refine zro 25 rfl zS (fun _ => GZ rfl) ?_
     refine zro 26 rfl zS (fun _ => aW rfl rfl) ?_
     refine zr 27 rfl zS (fun _ => aQ rfl rfl) ?_
     refine zrf 28 rfl zS rfl ?_
     refine pR 29 (by kernel_rfl) rfl ?_
     refine ak (j := 1) hxd rfl (J0 _) rfl rfl rfl rfl ?_
     refine ix ?_
     refine af (f3) ?_
     refine ug (by kernel_rfl) ?_
     exact eD (hN (_) (⟨f1, f2⟩)) ⟨rfl, rfl, trivial⟩ rfl
  rintro w3 ⟨hx3, hU3⟩
  refine az ?_
  obtain⟨hd, hhd⟩:∃hd, hd = CJ t s c := ⟨_, rfl⟩
  rw[← hhd]at hx3
  have h3 := h2.upd hU3 hi hj (by omega) (by omega)
  have hR3 := hR2.upd hU3
  refine oz ?_
  refine ow ?_
  refine zv (ln rfl) ?_
  refine zv (ai (us := [nI (c:Nat), .bool hd]) hx3.cellsAdd (J3 _) (tp _) rfl) ?_
  refine zv (aq rfl) ?_
  refine zv (RV.fa rfl) ?_
  refine eL (us := #[nI (c:Nat), .bool hd]) 20 (po t gv lc rc wv {s with last := (c, hd)}).toArray h3.blk (h3.lastE c hd) (by rw[h3.size]; show 22 ≤ 23; omega) (tp _) rfl rfl rfl rfl ?_
  obtain⟨h4, hU4⟩ := h3.lastS hi hj hij c hd
  have hx4 := hx3.upd hU4 (by decide) (by omega)
  have hU04 := (hU3.mono (S' := fun q => q = i ∨ q = j ∨ q = 1000) (fun _ h => by omega) hz).trans (hU4.mono (fun _ h => by omega) hz)
  have hR4 := hR3.upd hU4
  generalize w3.setRow rb (po t gv lc rc wv {s with last := (c, hd)}).toArray = w4 at *
  refine ix ?_
  refine az ?_
  have k18:w4.drew.cell? (nA rb 18) = some wv := h4.k18
  refine aI (fun W => ∀k u, [nI (c:Nat), .bool hd][k]? = some u → W.cell? (nA xb k) = some u) 11 rfl (by kernel_rfl) ?_
  refine zin hx4.cellsAdd fun zS => ?_
  refine zrm 0 rfl zS rfl ?_
  refine zrm 1 rfl zS rfl ?_
  refine zr 2 rfl zS (fun _ => aq rfl) ?_
  refine zrf 3 rfl zS rfl ?_
  refine zt 5 rfl zS (fun w1 hw1 => ai (us := [nI (c:Nat), .bool hd]) hw1 (J3 _) (tp _) rfl) ?_
  refine bZ 4 6 elE (enc := Gw) ((c, hd):En) rfl rfl (by kernel_rfl) (by kernel_rfl) (by kernel_rfl) (by kernel_rfl) (fun W hE => RV.load (hE.cell k18) (isAgg112 _) rfl) (fun W hE k u hu => hE.cell (hx4.cellsAdd k u hu)) rfl rfl rfl (by decide) rfl rfl rfl rfl rfl ?_
  intro sv w5 hsv hE5
  have hX5 := aa (S := fun _ => False) (fun h => h) O1 ((qN w4).drew.trans hE5)
  have h5 := h4.upd hX5 hi hj (fun h => h) (fun h => h)
  have hx5 := hx4.upd hX5 (by decide) (fun h => h)
  have hR5 := hR4.upd hX5
  refine pR 7 (by kernel_rfl) rfl ?_
  refine uQ elE h5.win hR5 hsv rfl rfl rfl (by simp[uY]) (by show(s.wait.length + 1) * 16 ≤ _; omega) (by show s.wait.length + 1 ≤ _; omega) hj rfl ?_
  intro wv6 w6 O6 hwin6 hU6 hR6
  have hx6 := hx5.upd hU6 (by decide) (by omega)
  have h6 := h5.blk.upd hU6 hi hij
  refine ix ?_
  refine zaf (hx6.cellsAdd) fun zS => ?_
  refine zr 8 rfl zS (fun _ => aq rfl) ?_
  refine zrf 9 rfl zS rfl ?_
  refine pR 10 (by kernel_rfl) rfl ?_
  refine ak (j := 18) h6 (h5.at_ 1 rfl) (sizeOf112 _) hwin6.one rfl rfl rfl ?_
  obtain⟨h7, hU7⟩ := h5.store2 hi hj hij hU6 h6 1 wv6 (wv' := wv6) (s' := {s with last := (c, hd), wait := s.wait ++ [(c, hd)]}) rfl hwin6
  have hx7 := hx6.upd hU7 (by decide) (by omega)
  refine ix ?_
  refine af (hx7.cellsAdd) ?_
  refine ug (by kernel_rfl) ?_
  have e:nT t s c = {s with last := (c, hd), wait := s.wait ++ [(c, hd)]} := by unfold nT; rw[hbg, if_pos rfl, ← hhd]
  have hU27 := ((hU04.trans (hX5.mono (fun _ h => h.elim) hz)).trans (hU6.mono (fun _ h => by omega) hz)).trans (hU7.mono (fun _ h => by omega) hz)
  refine aH rfl (⟨O6, wv6, by rw[e]; exact h7, (hU02.mono (fun _ h => by omega) hz).trans hU27, hR6.upd hU7⟩)
theorem gd{g:Nat}{tab:List Nat}{S:Nat->Prop}{B:Nat}{O O':Nat->Nat}{w w':ps}(h:Kk g tab w)(hg:g<B)(r:GY B O w)(u:tJ S O w O' w'):Kk g tab w':=fun j hj=>by
 have h0:O g=0:=by
  by_cases e:O g=0
  ·exact e
  have:=(r.rng g e).1;omega
 exact iC (u.blk g (by have:=r.le;omega) (by rw[h0];exact u.z)) (h j hj)
abbrev G5:Nat:=0
def iy(l:List En):Nat:=(l.filter fun x=>!x.2).length
def xU:List En->Bool
 |[]=>false
 |x::r=>x.2||decide (4<=iy (x::r))
theorem vY{l:List En}{k:Nat}(h:k<l.length):iy (l.take (k+1))=iy (l.take k)+if(nth l k).2=true then 0 else 1:=by
 unfold iy;rw[aR h,List.filter_append,qy];congr 1
 cases hb:(nth l k).2<;>simp[hb]
theorem Bz(l:List En):iy l<=l.length:=List.length_filter_le _ _
theorem rn(O:Nat->Nat)(w:ps)(i j rb:Nat)(t:TabM)(gv:ox)(lc rc:List ox)(wv:ox)(s:RunS)(h:RunO O w i j rb t gv lc rc wv s)(hs:OkS t s):
  Gh uV 55 [nP rb] w fun v w'=>v=.bool (xU s.wait)/\Gc w w':=by
 have k18:=h.k18;have a7:=h.win.sl;have b8:=hs.few;refine rf func55 ntmps55 rfl rfl ?_;refine zg ?_;refine zv (RV.ld k18 rfl) ?_;refine zvG (aM a7.sh uu rfl) ?_
 by_cases h0:s.wait=[]
 ·refine zTG rfl ((by rw[h0];rfl)) ?_;refine ae rfl rfl (⟨by rw[h0];rfl,qN _⟩)
 have a8:0<s.wait.length:=zf.2 h0;refine zFG rfl ((by rw[beq_eq_false_iff_ne];omega)) ?_;refine zv (RV.ld k18 rfl) ?_;refine zvG (aM a7.sh uu rfl) ?_;refine zlp (fun z:Nat×ps=>[(0,nP rb),(3,nI (iy (s.wait.take z.1):Nat)),(15,wv),(16,nI s.wait.length),(17,nI z.1)]) (fun z=>z.2) (fun z=>z.1<=s.wait.length/\Gc w z.2) (fun z=>s.wait.length-z.1) (0,w) (⟨tq _,qN _⟩) ?_;rintro⟨k,w1⟩ ⟨hk,a3⟩;dsimp only at hk a3 ⊢;have a0:=a7.ext a3;have b9:iy (s.wait.take k)<=k:=Jz (Bz _) (List.length_take_le k _);refine zg ?_;refine zC ?_ ?_
 ·intro a2;replace a2:k<s.wait.length:=by have:=of_decide_eq_true a2;omega
  obtain⟨c,hd,b1⟩:∃c hd,(c,hd)=nth s.wait k:=⟨_,_,rfl⟩
  have a4:=vY a2;rw[<-b1]at a4;refine zg ?_;refine zv (JC (by first|exact a0) uu (tp _) rfl rfl _ rfl zo) ?_;refine zv (ai (us:=[nI (c:Nat),.bool hd]) (fun j u hu=>a0.cell a2 (by rw[<-b1];exact hu)) (J3 _) (tp _) rfl) ?_;refine ax (au w1) 1 zo (Da _) rfl ?_;intro xb w2 O2 a1 b5 c5 c6;refine zsa (us:=#[nI (c:Nat),.bool hd]) a1 (tp _) ?_;have a6:=a1.setRow (us:=#[nI (c:Nat),.bool hd]);have b4:tJ (fun j=>j=1) O2 w2 O2 (w2.setRow xb #[nI (c:Nat),.bool hd]):=rk zd a1.tag rfl;have a':=(b5.trans b4).ext;generalize w2.setRow xb #[nI (c:Nat),.bool hd]=w3 at *;have a5:=a3.trans a';have x1:w3.cell? (nA xb 1)=some (.bool hd):=a6.cell 1 rfl;refine zg ?_;refine zvG (RV.ld x1 rfl) ?_;refine zC ?_ ?_
  ·intro hh;have a9:hd=false:=by simpa using hh
   rw[if_neg (by show¬hd=true;rw[a9];decide)]at a4;refine zg ?_;refine zvG (BG rfl rfl (yP zo)) ?_;refine zvG (BG rfl rfl (yP zo)) ?_;rw[show((iy (s.wait.take k):Nat):Int)+1=((iy (s.wait.take (k+1)):Nat):Int)from by rw[a4];omega];refine zxd (k+1,w3) (⟨a2,a5⟩)
  intro hh;have a9:hd=true:=by simpa using hh
  rw[if_pos a9]at a4;refine zg ?_;refine zvG (BG rfl rfl (yP zo)) ?_;rw[<-Kr (iy (s.wait.take k)),<-a4];refine zxd (k+1,w3) (⟨a2,a5⟩)
 intro b3;obtain rfl:k=s.wait.length:=by have:=of_decide_eq_false b3;omega
 rw[Gi];have b6:w1.cell? (nA rb 18)=some wv:=a3.cell k18;obtain⟨x,r,b0⟩:=J7 h0;have d1:w1.cell? ((adr wv 2 0).add 1)=some (.bool x.2):=a0.cell a8 (by rw[b0,ar];rfl);have b2:xU s.wait=(x.2||decide (4<=iy s.wait)):=by rw[b0];rfl
 rw[b2];refine zg ?_;refine zv (RV.ld b6 rfl) ?_;refine zvG (ah a0.sh uu (tp _) rfl rfl 0 rfl zo) ?_;refine zvG (RV.ld d1 rfl) ?_
 cases b7:x.2 with
 |true=>
  refine ay (d:=34) rfl (b':=true) (rfl) ?_;refine zg ?_
  refine ae rfl rfl (⟨rfl,a3⟩)
 |false=>
  refine ay (d:=34) rfl (b':=false) (rfl) ?_;refine zg ?_
  refine ae rfl rfl (⟨by rw[Db];congr 1;exact decide_eq_decide.2 zo,a3⟩)
def vC(t:TabM)(s:RunS)(x:En):Int:=if x.2=true then -1 else cZ t s
def passB(t:TabM)(s:RunS)(x:En):Bool:=!x.2&&(decide (cZ t s<0)||t.br.testBit (cZ t s).toNat)
def vB(t:TabM)(s:RunS)(x:En)(r:List En):RunS:={s with row:=if x.2=true then s.row else stL t s.row x.1,wait:=r}
theorem Al(t:TabM)(s:RunS)(ho:OkT t)(hs:OkS t s):cZ t s = -1\/∃n,n<64/\cZ t s=((n:Nat):Int):=by
 have a1:(2^40:Nat)=1099511627776:=zd;have a2:=nQ ho hs;have a0:nth t.lt s.row &&& eE t s.wait<18446744073709551616:=DH K2 zo;unfold cZ;generalize nth t.lt s.row &&& eE t s.wait=both at *
 split
 ·exact .inl rfl
 rename_i h0;obtain⟨_,hk⟩:=Kd 64 both h0 a0;exact .inr ⟨_,hk,rfl⟩
theorem ry{t:TabM}{s:RunS}{x:En}{r:List En}(ho:OkT t)(hs:OkS t s)(hw:s.wait=x::r):OkS t (vB t s x r):=by
 have hx:=hs.wait x (by simp[hw]);refine⟨?_,fun y hy=>hs.wait y (by rw[hw];simp[show y∈r from hy]),hs.last,?_⟩
 ·show(if x.2=true then s.row else stL t s.row x.1)<_
  split
  ·exact hs.row
  exact(ho.lN hs.row zo).2
 have:=hs.few;rw[hw]at this;simp only[su]at this;show r.length<=_;omega
theorem ie(B:Nat)(O:Nat → Nat)(w:ps)(i j rb:Nat)(t:TabM)(gv:ox)(lc rc:List ox)(wv:ox)(s:RunS)(x:En)(r:List En)(hxr:s.wait = x :: r)(h:RunO O w i j rb t gv lc rc wv s)(hi:i ≠ 0)(hj:j ≠ 0)(hij:i ≠ j)(hi1:i < 1000)(hj1:j < 1000)(ho:OkT t)(hs:OkS t s)(hR:GY B O w)(hT:eF w)(hg:G5 < B):
  Gh uV 56 [nP rb] w fun v w' => v = .tuple #[nI (vC t s x), .bool (passB t s x)] ∧ ∃O' wv', RunO O' w' i j rb t gv lc rc wv' (vB t s x r) ∧ tJ (fun q => q = i ∨ q = j ∨ q = 1000) O w O' w' ∧ GY B O' w' := by
 have hp40:(2^40:Nat) = 1099511627776 := by decide
 have hz:¬(0 = i ∨ 0 = j ∨ 0 = 1000) := by omega
 have hwl := hs.few
 have hwlen:s.wait.length = r.length + 1 := by rw[hxr]; rfl
 have k18 := h.k18
 have hws := h.win.sl
 obtain⟨c, hd, hcd⟩:∃c hd, x = (c, hd) := ⟨_, _, rfl⟩
 subst hcd
 have hc36:c < 36 := hs.wait (c, hd) (by simp[hxr])
 have hwin := Al t s ho hs
 refine rf func56 ntmps56 rfl rfl ?_
 refine oz ?_
 refine ow ?_
 refine zv (oU rfl) ?_
 refine zv (oU rfl) ?_
 refine ix ?_
 refine az ?_
 refine oz ?_
 refine ow ?_
 refine zv (ln rfl) ?_
 refine zv (aq rfl) ?_
 refine zv (RV.fa rfl) ?_
 refine zv (RV.ld k18 rfl) ?_
 refine zv (ah hws.sh uu (tp _) rfl rfl 0 rfl (by omega)) ?_
 refine zv (ai (us := [nI (c:Nat), .bool hd]) (fun k u hu => hws.cell (i := 0) (by omega) (by rw[hxr, ar]; exact hu)) (J3 _) (tp _) rfl) ?_
 refine ax hR 1000 (by omega) (Da _) rfl ?_
 intro xb w1 O1 hxb1 hU1 hR1 hE1
 refine zsa (us := #[nI (c:Nat), .bool hd]) hxb1 (tp _) ?_
 have hxb2 := hxb1.setRow (us := #[nI (c:Nat), .bool hd])
 have hU2:tJ (fun q => q = 1000) O1 w1 O1 (w1.setRow xb #[nI (c:Nat), .bool hd]) := rk (by decide) hxb1.tag rfl
 generalize w1.setRow xb #[nI (c:Nat), .bool hd] = w2 at *
 have hU02 := hU1.trans hU2
 have hR2 := hR1.upd hU2
 have h2 := h.upd hU02 hi hj (by omega) (by omega)
 have hT2:eF w2 := gd hT hg hR hU02
 have x1:w2.cell? (nA xb 1) = some (.bool hd) := hxb2.cell 1 rfl
 refine ix ?_
 refine az ?_
 refine oz ?_
 refine ow ?_
 refine zv (oU rfl) ?_
 refine ix ?_
 refine az ?_
 refine oz ?_
 refine oz ?_
 refine ow ?_
 refine zv (RV.fa rfl) ?_
 refine zv (RV.ld x1 rfl) ?_
 refine zv (GZ rfl) ?_
 refine ix ?_
 refine az ?_
 refine iK (fun z:(Nat → Nat)×World×Int => [(0, nP rb), (4, nP xb), (5, nI z.2.2)]) (fun z:(Nat → Nat)×World×Int => z.2.1) (fun z:(Nat → Nat)×World×Int => RunO z.1 z.2.1 i j rb t gv lc rc wv {s with row := if hd = true then s.row else stL t s.row c} ∧ Dc z.1 z.2.1 1000 xb #[nI (c:Nat), .bool hd] 114 ∧ tJ (fun q => q = i) O1 w2 z.1 z.2.1 ∧ GY B z.1 z.2.1 ∧ z.2.2 = vC t s (c, hd)) ?_ ?_
 ·intro hN
  by_cases hhd:hd = true
  ·skip
   refine aS rfl ((by rw[hhd]; rfl)) ?_
   refine tG ?_
   exact eD (hN ((O1, w2, -1)) (⟨by rw[if_pos hhd]; exact h2, hxb2, Ji (fun e => hi e.symm) _ _, hR2, by show _ = if hd = true then _ else _; rw[if_pos hhd]⟩)) ⟨rfl, rfl, rfl, trivial⟩ rfl
  ·skip
   refine aZ rfl ((by rw[show hd = false from by simpa using hhd]; rfl)) ?_
   refine oz ?_
   refine ow ?_
   refine zv (ln rfl) ?_
   refine zc call94 (qO O1 w2 i j rb t gv lc rc wv s h2 hi hj ho hs hT2) ?_
   rintro _ w3 ⟨rfl, hE3⟩
   have hX3 := aa (S := fun _ => False) (fun h => h) O1 hE3
   have h3 := h2.upd hX3 hi hj (fun h => h) (fun h => h)
   have hxb3 := hxb2.upd hX3 (by decide) (fun h => h)
   have hR3 := hR2.upd hX3
   refine zv (oU rfl) ?_
   refine ix ?_
   refine az ?_
   have hB := h3.tab
   obtain⟨hg1, hg2⟩ := ho.gN (c := c) (by omega)
   obtain⟨hr1, hr2⟩ := ho.lN hs.row (c := c) (by omega)
   have hgl := ho.gl
   have d4:w3.drew.cell? ((nA rb 0).add 4) = some gv := hB.c4
   have dcl:∀(j:Nat) (u:ox), lc[j]? = some u → w3.drew.cell? (((nA rb 0).add 5).add j) = some u := hB.cl
   have dg:w3.drew.cell? (adr gv 1 c) = some (nI ((grT t c:Nat):Int)) := by have := hB.groups.cell (i := c) (j := 0) (by omega) rfl; rw[ao, hg1]at this; exact this
   have d17:w3.drew.cell? (nA rb 17) = some (nI (s.row:Int)) := h3.k17
   have dx:w3.drew.cell? (nA xb 0) = some (nI (c:Int)) := hxb3.cell 0 rfl
   refine aI (fun W => W.cell? ((nA rb 0).add 4) = some gv ∧ W.cell? (adr gv 1 c) = some (nI ((grT t c:Nat):Int)) ∧ (∀(j:Nat) (u:ox), lc[j]? = some u → W.cell? (((nA rb 0).add 5).add j) = some u) ∧ W.cell? (nA xb 0) = some (nI (c:Int))) 23 rfl (by kernel_rfl) ?_
   refine zin ⟨d4, dg, dcl, dx⟩ fun zS => ?_
   refine zrm 0 rfl zS rfl ?_
   refine zrm 1 rfl zS rfl ?_
   refine zr 2 rfl zS (fun _ => aq rfl) ?_
   refine zrf 3 rfl zS rfl ?_
   refine zrf 4 rfl zS rfl ?_
   refine zt 5 rfl zS (fun w1 hw1 => ai (us := lc) hw1.2.2.1 (J2 _) (by rw[h.left.one.1]; exact zR _) rfl) ?_
   refine zrm 6 rfl zS rfl ?_
   refine zr 7 rfl zS (fun _ => aq rfl) ?_
   refine zrf 8 rfl zS rfl ?_
   refine zrm 10 rfl zS rfl ?_
   refine zr 11 rfl zS (fun _ => aq rfl) ?_
   refine zrf 12 rfl zS rfl ?_
   refine zrf 13 rfl zS rfl ?_
   refine zt 14 rfl zS (fun w1 hw1 => RV.ld hw1.1 rfl) ?_
   refine zrf 15 rfl zS rfl ?_
   refine zt 16 rfl zS (fun w1 hw1 => RV.ld hw1.2.2.2 rfl) ?_
   refine zr 17 rfl zS (fun _ => ah hB.groups.sh sQ (zl _) rfl rfl c rfl (by omega)) ?_
   refine zt 18 rfl zS (fun w1 hw1 => RV.ld hw1.2.1 rfl) ?_
   refine pR 9 (by kernel_rfl) rfl ?_
   refine zv (RV.ld d17 rfl) ?_
   refine ix ?_
   refine af (⟨d4, dg, dcl, dx⟩) ?_
   refine pR 19 (by kernel_rfl) rfl ?_
   refine zc KA (kf lc t.left t.lt s.row (grT t c) w3.drew (hB.left.ext (qN w3).drew) ho.okl hs.row hg2) ?_
   rintro _ w5 ⟨rfl, hE5⟩
   rw[hr1]
   refine ix ?_
   refine af (⟨hE5.cell d4, hE5.cell dg, fun j u hu => hE5.cell (dcl j u hu), hE5.cell dx⟩) ?_
   have hX5 := aa (S := fun _ => False) (fun h => h) O1 ((qN w3).drew.trans hE5)
   have h5 := h3.upd hX5 hi hj (fun h => h) (fun h => h)
   have hxb5 := hxb3.upd hX5 (by decide) (fun h => h)
   have hR5 := hR3.upd hX5
   refine zin (⟨hE5.cell d4, hE5.cell dg, fun j u hu => hE5.cell (dcl j u hu), hE5.cell dx⟩) fun zS => ?_
   refine zr 20 rfl zS (fun _ => aq rfl) ?_
   refine zrf 21 rfl zS rfl ?_
   refine pR 22 (by kernel_rfl) rfl ?_
   refine ak (j := 17) h5.blk (h5.at_ 0 rfl) (zl _) rfl rfl rfl rfl ?_
   obtain⟨h6, hU6⟩ := h5.store hi hj hij 0 (nI ((stL t s.row c:Nat):Int)) (wv' := wv) (s' := {s with row := stL t s.row c}) rfl h5.win
   have hB6 := h6.tab
   have hR6 := hR5.upd hU6
   have hxb6 := hxb5.upd hU6 (by decide) (by omega)
   have hU26 := ((hX3.trans hX5).mono (S' := fun q => q = i) (fun _ h => h.elim) (by omega)).trans hU6
   have q1:(w5.setCell ⟨rb, 17 + 0, none⟩ (nI ((stL t s.row c:Nat):Int))).cell? (adr gv 1 c) = some (nI ((grT t c:Nat):Int)) := by have := hB6.groups.cell (i := c) (j := 0) (by omega) rfl; rw[ao, hg1]at this; exact this
   refine ix ?_
   refine af (⟨hB6.c4, q1, hB6.cl, hxb6.cell 0 rfl⟩) ?_
   refine ug (by kernel_rfl) ?_
   exact eD (hN ((O1, _, cZ t s)) (⟨by rw[if_neg hhd]; exact h6, hxb6, hU26, hR6, by show _ = if hd = true then _ else _; rw[if_neg hhd]⟩)) ⟨rfl, rfl, rfl, trivial⟩ rfl
 rintro⟨O3, w3, k⟩ ⟨h3, hxb3, hU3, hR3, hk⟩
 dsimp only at h3 hxb3 hU3 hR3 hk ⊢
 refine az ?_
 have hws3 := h3.win.sl
 have d18 := h3.k18
 refine oz ?_
 refine ow ?_
 refine zv (ln rfl) ?_
 refine zv (ln rfl) ?_
 refine zv (aq rfl) ?_
 refine zv (RV.fa rfl) ?_
 refine zv (RV.ld d18 rfl) ?_
 refine zv (qL hws3 uu (tp _) rfl rfl 1 rfl (by show 1 ≤ s.wait.length; omega)) ?_
 refine zv (aq rfl) ?_
 refine zv (RV.fa rfl) ?_
 have hw4 := h3.win
 have hwt:WinO Gw 114 2 O3 w3 j (ej wv 2 1 s.wait.length) r := by
  rw[hwlen]
  have:WinO Gw 114 2 O3 w3 j wv ((c, hd) :: r) := by rw[← hxr]; exact hw4
  exact this.tail (by decide)
 refine ak (j := 18) h3.blk (h3.at_ 1 rfl) (sizeOf112 _) hwt.one rfl rfl rfl ?_
 obtain⟨h4, hU4⟩ := h3.store hi hj hij 1 (ej wv 2 1 s.wait.length) (wv' := ej wv 2 1 s.wait.length) (s' := vB t s (c, hd) r) rfl hwt
 have hxb4 := hxb3.upd hU4 (by decide) (by omega)
 have hR4 := hR3.upd hU4
 generalize w3.setCell ⟨rb, 17 + 1, none⟩ (ej wv 2 1 s.wait.length) = w4 at *
 have hU04 := (hU02.mono (S' := fun q => q = i ∨ q = j ∨ q = 1000) (fun _ h => by omega) hz).trans ((hU3.trans hU4).mono (fun _ h => by omega) hz)
 have x41:w4.cell? (nA xb 1) = some (.bool hd) := hxb4.cell 1 rfl
 refine ix ?_
 refine az ?_
 refine oz ?_
 refine ow ?_
 refine zv (ln rfl) ?_
 refine zv (RV.fa rfl) ?_
 refine zv (RV.ld x41 rfl) ?_
 refine zv (GZ rfl) ?_
 refine zv (ln rfl) ?_
 cases hhd:hd with
 |true =>
  refine ay (d := 51) rfl (b' := false) (rfl) ?_
  refine Ae rfl rfl rfl ?_
  refine Ae rfl rfl rfl ?_
  refine Ae rfl rfl rfl ?_
  refine Cm rfl rfl ?_
  refine Cm rfl rfl ?_
  refine Cm rfl rfl ?_
  refine Cm rfl rfl ?_
  refine Cm rfl rfl ?_
  refine Cm rfl rfl ?_
  refine Cm rfl rfl ?_
  refine Ae rfl rfl rfl ?_
  refine zv (aW rfl rfl) ?_
  refine zv (oU rfl) ?_
  refine zv (oU rfl) ?_
  refine ix ?_
  refine az ?_
  refine x8 ?_
  refine bQ rfl rfl rfl (⟨by rw[hk, hhd]; rfl, O3, _, by rw[← hhd]; exact h4, hU04, hR4⟩)
 |false =>
  have hbr := ho.br
  subst hhd
  replace hk:k = cZ t s := hk
  have hPB:passB t s (c, false) = (decide (cZ t s < 0) || t.br.testBit (cZ t s).toNat) := rfl
  have hPK:vC t s (c, false) = cZ t s := rfl
  rw[hPB, hPK, ← hk]
  rw[← hk]at hwin
  refine ay (d := 51) rfl (b' := true) (rfl) ?_
  refine Cl rfl ?_
  refine zv (ln rfl) ?_
  refine Cl rfl ?_
  refine zv (Km rfl rfl) ?_
  refine Cl rfl ?_
  refine zv (ln rfl) ?_
  rcases hwin with hk1 | ⟨n, hn, hk1⟩
  ·skip
   refine ay (d := 54) rfl (b' := true) ((by rw[hk1]; rfl)) ?_
   refine Ae rfl rfl rfl ?_
   refine Ae rfl rfl rfl ?_
   refine Ae rfl rfl rfl ?_
   refine Ae rfl rfl rfl ?_
   refine Ae rfl rfl rfl ?_
   refine Ae rfl rfl rfl ?_
   refine Ae rfl rfl rfl ?_
   refine Cl rfl ?_
   refine zv (aQ rfl rfl) ?_
   refine zv (aQ rfl rfl) ?_
   refine zv (oU rfl) ?_
   refine zv (oU rfl) ?_
   refine ix ?_
   refine az ?_
   refine x8 ?_
   refine bQ rfl rfl rfl (⟨by rw[hk1]; rfl, O3, _, h4, hU04, hR4⟩)
  ·have hd0:decide (k < 0) = false := decide_eq_false (by omega)
   rw[hd0, hk1]
   refine ay (d := 54) rfl (b' := false) (rfl) ?_
   have b2:w4.cell? ((nA rb 0).add 2) = some (.int .u64 (t.br:Int)) := h4.tab.c2
   refine Cl rfl ?_
   refine zv (ln rfl) ?_
   refine Cl rfl ?_
   refine zv (aq rfl) ?_
   refine Cl rfl ?_
   refine zv (RV.fa rfl) ?_
   refine Cl rfl ?_
   refine zv (RV.fa rfl) ?_
   refine Cl rfl ?_
   refine zv (RV.ld b2 rfl) ?_
   refine Cl rfl ?_
   refine zv (ln rfl) ?_
   refine Cl rfl ?_
   refine zc L2 (rV t.br n _ (by omega) hn) ?_
   rintro _ w5 ⟨rfl, rfl⟩
   refine Cl rfl ?_
   refine zv (aW rfl rfl) ?_
   refine zv (aQ rfl rfl) ?_
   refine zv (oU rfl) ?_
   refine zv (oU rfl) ?_
   refine ix ?_
   refine az ?_
   refine x8 ?_
   refine bQ rfl rfl rfl (⟨rfl, O3, _, h4, hU04, hR4⟩)
abbrev cP(b:Bool):List ox:=[.bool b]
theorem uy:L8 uV 66 4 1 1:=⟨underlying66,by kernel_rfl,zd⟩
abbrev lF(row:Nat)(l:List En):RunS:=⟨row,l,true,(0,false),true⟩
def stepL(t:TabM)(row:Nat)(x:En):Nat:=if x.2=true then row else stL t row x.1
def closeL(t:TabM):List En->Nat->List Bool
 |[],_=>[]
 |x::r,row=>passB t (lF row (x::r)) x::closeL t r (stepL t row x)
theorem xX(t:TabM)(s:RunS)(x:En):passB t s x=passB t (lF s.row s.wait) x:=rfl
theorem lX(t:TabM):∀(l:List En) (row:Nat),(closeL t l row).length=l.length
 |[],_=>rfl
 |x::r,row=>by rw[closeL,su,lX t r,su]
theorem kY(B:Nat)(O:Nat->Nat)(w:ps)(i j m rb:Nat)(t:TabM)(gv:ox)(lc rc:List ox)(wv:ox)(s:RunS)(h:RunO O w i j rb t gv lc rc wv s)(hi:i≠0)(hj:j≠0)(b4:i≠j)(c9:i<1000)(c7:j<1000)(hm:m≠0)(d6:m<1000)(c8:i≠m)(c6:j≠m)
  (ho:OkT t) (hs:OkS t s) (d0:s.closed=false) (hR:GY B O w) (hT:eF w) (hg:G5<B) :
  Gh uV 25 [nP rb] w fun v w'=>∃O' wv' s',RunO O' w' i j rb t gv lc rc wv' s'/\OkS t s'/\s'.wait=[]/\s'.closed=true/\J5 cP 4 1 O' w' m v (closeL t s.wait s.row)/\tJ (fun q=>q=i\/q=j\/q=m\/q=1000) O w O' w'/\GY B O' w':=by
 have hz:¬(0=i\/0=j\/0=m\/0=1000):=by omega
 have d5:=hs.few;have k22:=h.k22;rw[d0]at k22;obtain⟨R,b8⟩:∃R,R=closeL t s.wait s.row:=⟨_,rfl⟩
 rw[<-b8];refine rf func25 ntmps25 rfl rfl ?_;refine zg ?_;refine zvG (ec (q:=some ⟨rb,0,none⟩) KM rfl rfl) ?_;refine ay (d:=8) rfl (b':=false) (rfl) ?_;refine zg ?_;refine zvG (RV.ld k22 rfl) ?_;refine zFG rfl rfl ?_;refine ak (j:=22) h.blk (h.at_ 5 rfl) (J0 _) rfl rfl rfl rfl ?_;obtain⟨h1,b7⟩:=h.store hi hj b4 5 (.bool true) (wv':=wv) (s':={s with closed:=true}) rfl h.win;have d3:=hR.upd b7;generalize w.setCell ⟨rb,17+5,none⟩ (.bool true)=w1 at *;refine zg ?_;refine zlp (fun z:(Nat->Nat)×World×ox×RunS×ox×List Bool=>[(0,nP rb),(3,z.2.2.2.2.1)]) (fun z=>z.2.1) (fun z=>RunO z.1 z.2.1 i j rb t gv lc rc z.2.2.1 z.2.2.2.1/\OkS t z.2.2.2.1/\z.2.2.2.1.closed=true/\J5 cP 4 1 z.1 z.2.1 m z.2.2.2.2.1 z.2.2.2.2.2/\tJ (fun q=>q=i\/q=j\/q=m\/q=1000) O w z.1 z.2.1/\GY B z.1 z.2.1/\z.2.2.2.2.2++closeL t z.2.2.2.1.wait z.2.2.2.1.row=R/\z.2.2.2.2.2.length+z.2.2.2.1.wait.length<=1000000) (fun z=>z.2.2.2.1.wait.length) (O,w1,wv,{s with closed:=true},nS,[]) (⟨h1,⟨hs.row,hs.wait,hs.last,hs.few⟩,rfl,DZ _ _ _ _ _ _,b7.mono (fun _ h=>by omega) hz,d3,by rw[b8];rfl,by show 0+s.wait.length<=_;omega⟩) ?_;rintro⟨O2,w2,b1,s2,ov,l⟩ ⟨h2,a2,a',a7,a3,b0,a1,a9⟩;dsimp only at h2 a2 a' a7 a3 b0 a1 a9 ⊢;have a4:=h2.win.sl;have d4:=h2.k18;refine zg ?_;refine zv (RV.ld d4 rfl) ?_;refine zvG (aM a4.sh uu rfl) ?_;refine zC ?_ ?_
 ·intro a8;replace a8:0<s2.wait.length:=by have:=of_decide_eq_true a8;omega
  obtain⟨x,r,a0⟩:=J7 (zf.1 a8);have b2:s2.wait.length=r.length+1:=by rw[a0];rfl
  rw[a0,closeL]at a1;refine zg ?_;refine zc call56 (ie B O2 w2 i j rb t gv lc rc b1 s2 x r a0 h2 hi hj b4 c9 c7 ho a2 b0 (gd hT hg hR a3) hg) ?_;rintro _ w3 ⟨rfl,O3,b9,h3,b6,d2⟩;have a6:=a7.upd b6 hm zo;refine zg ?_;refine K1 uy a6 d2 (passB t s2 x) (fun _=>rfl) rfl rfl rfl (by simp[uY]) zo zo zo zd rfl rfl ?_;intro c5 w4 O4 a5 b5 d1;have h4:=h3.upd b5 hi hj c8 c6;refine zg ?_;refine zx (O4,w4,b9,vB t s2 x r,c5,l++[passB t s2 x]) (⟨h4,ry ho a2 a0,a',a5,(a3.trans (b6.mono (fun _ h=>by omega) hz)).trans (b5.mono (fun _ h=>by omega) hz),d1,by rw[sN,<-a1,xX,a0];rfl,by rw[qy];show l.length+1+r.length<=_;omega⟩) (by show r.length<_;omega)
 intro c';have b3:s2.wait=[]:=pZ (by have:=of_decide_eq_false c';omega);rw[b3,closeL,ri]at a1;subst a1;refine zg ?_;refine ae rfl rfl (⟨O2,b1,s2,h2,a2,b3,a',a7,a3,b0⟩)
def lG(t:TabM):List En->Nat->List Bool×List En×Nat
 |[],row=>([],[],row)
 |x::r,row=>if xU (x::r)=true then(passB t (lF row (x::r)) x::(lG t r (stepL t row x)).1,(lG t r (stepL t row x)).2)else([],x::r,row)
theorem iV(t:TabM):∀(l:List En) (row:Nat),xU l=false->lG t l row=([],l,row)
 |[],_,_=>rfl
 |x::r,row,h=>by rw[lG,if_neg (by rw[h];decide)]
theorem ib(B:Nat)(O:Nat->Nat)(w:ps)(i j m rb:Nat)(t:TabM)(gv:ox)(lc rc:List ox)(wv:ox)(s:RunS)(h:RunO O w i j rb t gv lc rc wv s)(hi:i≠0)(hj:j≠0)(b5:i≠j)(b6:i<1000)(b4:j<1000)(hm:m≠0)(d8:m<1000)(d1:i≠m)(d0:j≠m) 
  (ho:OkT t) (hs:OkS t s) (hf:s.wait.length+1<=1000000) (d2:s.closed=false) (hR:GY B O w) (hT:eF w) (hg:G5<B) (id:Int) (p:RunS) (hp:p=nT t s (aJ id)) :
  Gh uV 22 [nP rb,nI id] w fun v w'=>∃O' wv',RunO O' w' i j rb t gv lc rc wv' {p with wait:=(lG t p.wait p.row).2.1,row:=(lG t p.wait p.row).2.2}/\OkS t {p with wait:=(lG t p.wait p.row).2.1,row:=(lG t p.wait p.row).2.2}/\
   J5 cP 4 1 O' w' m v (lG t p.wait p.row).1/\tJ (fun q=>q=i\/q=j\/q=m\/q=1000) O w O' w'/\GY B O' w':=by
 have hz:¬(0=i\/0=j\/0=m\/0=1000):=zo;have k22:=h.k22;rw[d2]at k22;have b2:OkS t p:=by rw[hp];exact vy ho hs (ew id) hf
 obtain⟨R,c5⟩:∃R,R=lG t p.wait p.row:=⟨_,rfl⟩
 rw[<-c5];refine rf func22 ntmps22 rfl rfl ?_;refine zh ?_;refine zvH (ec (q:=some ⟨rb,0,none⟩) KM rfl rfl) ?_;refine ay (d:=10) rfl (b':=false) (rfl) ?_;refine zh ?_;refine zFH rfl rfl ?_;refine zc call54 (jJ B O w i j rb t gv lc rc wv s h hi hj b5 b6 b4 ho hs hf hR id) ?_;rintro _ w1 ⟨O1,c9,h1,d3,d6⟩;rw[<-hp]at h1;refine zh ?_;refine zlp (fun z:(Nat->Nat)×World×ox×RunS×ox×List Bool=>[(0,nP rb),(5,z.2.2.2.2.1)]) (fun z=>z.2.1) (fun z=>RunO z.1 z.2.1 i j rb t gv lc rc z.2.2.1 z.2.2.2.1/\OkS t z.2.2.2.1/\z.2.2.2.1 = {p with wait:=z.2.2.2.1.wait,row:=z.2.2.2.1.row}/\J5 cP 4 1 z.1 z.2.1 m z.2.2.2.2.1 z.2.2.2.2.2/\tJ (fun q=>q=i\/q=j\/q=m\/q=1000) O w z.1 z.2.1/\GY B z.1 z.2.1/\(z.2.2.2.2.2++(lG t z.2.2.2.1.wait z.2.2.2.1.row).1,(lG t z.2.2.2.1.wait z.2.2.2.1.row).2)=R/\z.2.2.2.2.2.length+z.2.2.2.1.wait.length<=1000000) (fun z=>z.2.2.2.1.wait.length) (O1,w1,c9,p,nS,[]) (⟨h1,b2,rfl,DZ _ _ _ _ _ _,d3.mono (fun _ h=>zo) hz,d6,by rw[c5];rfl,by have:=b2.few;show 0+p.wait.length<=_;omega⟩) ?_;rintro⟨O2,w2,a6,s2,ov,l⟩ ⟨h2,a1,a',b3,b9,c7,a4,a9⟩;dsimp only at h2 a1 a' b3 b9 c7 a4 a9 ⊢;refine zh ?_;refine zc call55 (rn O2 w2 i j rb t gv lc rc a6 s2 h2 a1) ?_;rintro _ w3 ⟨rfl,d7⟩;have a5:=aa (S:=fun _=>False) (fun h=>h) O2 d7;have h3:=h2.upd a5 hi hj (fun h=>h) (fun h=>h);have a3:=b3.upd a5 hm (fun h=>h);have c6:=c7.upd a5
 have b0:=b9.trans (a5.mono (fun _ h=>h.elim) hz);refine zh ?_;refine zC ?_ ?_
 ·intro a2;obtain⟨x,r,a0⟩:∃x r,s2.wait=x::r:=by
   cases hw:s2.wait with
   |nil=>rw[hw]at a2;cases a2
   |cons x r=>exact⟨x,r,rfl⟩
  have b1:s2.wait.length=r.length+1:=by rw[a0];rfl
  rw[a0]at a2;rw[a0,lG,if_pos a2]at a4;refine zh ?_;refine zc call56 (ie B O2 w3 i j rb t gv lc rc a6 s2 x r a0 h3 hi hj b5 b6 b4 ho a1 c6 (gd hT hg hR b0) hg) ?_;rintro _ w4 ⟨rfl,O4,c8,h4,b8,d5⟩;have a8:=a3.upd b8 hm zo;refine zh ?_;refine K1 uy a8 d5 (passB t s2 x) (fun _=>rfl) rfl rfl rfl (by simp[uY]) zo zo zo zd rfl rfl ?_;intro c' w5 O5 a7 b7 d4;have h5:=h4.upd b7 hi hj d1 d0;refine zh ?_;refine zx (O5,w5,c8,vB t s2 x r,c',l++[passB t s2 x]) (⟨h5,ry ho a1 a0,?_,a7,(b0.trans (b8.mono (fun _ h=>zo) hz)).trans (b7.mono (fun _ h=>zo) hz),d4,by rw[sN,<-a4,xX,a0];rfl,by rw[qy];show l.length+1+r.length<=_;omega⟩) (by show r.length<_;omega);show vB t s2 x r=_;rw[a'];rfl
 intro a2;rw[iV t _ _ a2,ri]at a4;subst a4;refine zh ?_;rw[a']at h3 a1;refine ae rfl rfl (⟨O2,a6,h3,a1,a3,b0,c6⟩)
end Go.Proofs.YtlehnbkknlpkbaaGreatDoor
section
namespace Go.VL
theorem Ak:∀(l:List ox) (k:Nat) (cells:Array ox),k+l.length<=cells.size->(l.zipIdx k).foldl (fun(cs:Array ox) (q:ox×Nat)=>cs.setIfInBounds (0+q.2) q.1) cells=(cells.toList.take k++l++cells.toList.drop (k+l.length)).toArray
 |[],k,cells,_=>by simp
 |c::l,k,cells,h=>by
  simp only[su]at h;rw[List.zipIdx_cons,K4,Ak l (k+1) _ (by simp;omega)];congr 1;simp only[FJ,Array.toList_setIfInBounds,su];rw[List.drop_set_of_lt zo,List.take_succ_eq_append_getElem (by simp;omega),List.take_set_of_le (vg _)];simp[Jt,Nat.add_comm 1]
theorem BZ(pl:Array (Nat×Nat))(us cells:Array ox)(hp:pl[0]? = some (0,us.size))(hs:us.size<=cells.size):Ku (pl[·]?) cells [(0,.agg us)]=some (us.toList++cells.toList.drop us.size).toArray:=by
 have hc:(Value.agg us).cells=us:=rfl;have a0:¬(us.size≠us.size\/0+us.size>cells.size):=zo;simp only[Ku,hp,hc];rw[if_neg (by simp;omega)];have:=Ak us.toList 0 cells (by simpa using hs);rw[<-Array.foldl_toList,Array.toList_zipIdx];simpa using this
end Go.VL
namespace Go.Proofs.YtlehnbkknlpkbaaGreatDoor
open Go.VL Go.Proofs
set_option maxRecDepth 10000
theorem ID:cV uV 116 #[(0,17),(17,1),(18,1),(19,1),(20,2),(22,1)]:=⟨_,underlying116,fun w=>by kernel_rfl⟩
def ed(t:TabM):RunS:=⟨stL t 0 36,[],false,(0,false),false⟩
theorem vq{t:TabM}(ho:OkT t):OkS t (ed t):=⟨(ho.lN ho.lp zd).2,fun x hx=>(by cases hx),(by show 0<36;decide),(by show 0<=1000000;decide)⟩
theorem jF(B:Nat)(O:Nat→Nat)(w:ps)(i j:Nat)(t:TabM)(gv:ox)(lc rc:List ox)(hgv:G6 w gv t.groups)(hlc:PartV w lc t.left t.lt)(hrc:PartV w rc t.right t.rt)(hfr:FreeL O w (gv::(lc++rc)))(hi:i≠0)(hj:j≠0)(hij:i≠j)(hi1:i<1000)(ho:OkT t)(hrt:gk t=true)(hR:GY B O w):
  Gh uV 19 [.agg (dq t.ig t.kp t.br t.rules gv lc rc).toArray] w fun v w'=>∃O' rb,v=nP rb∧RunO O' w' i j rb t gv lc rc (nS) (ed t)∧tJ (fun q=>q=i∨q=1000) O w O' w'∧GY B O' w':=by
 have hz:¬(0=i∨0=1000):=by omega
 obtain⟨ll,lo⟩:=hlc.one
 obtain⟨rl,ro⟩:=hrc.one
 have hlen:(dq t.ig t.kp t.br t.rules gv lc rc).length=17:=by simp[ll,rl]
 refine rf func19 ntmps19 rfl rfl ?_
 refine zg ?_
 refine aE hR 1000 (by omega) rfl rfl ?_
 intro db w1 O1 hdb1 hU1 hR1 hE1
 have hfr1:=hfr.upd hU1
 have hgv1:=hgv.ext hE1
 have hlc1:=hlc.ext hE1
 have hrc1:=hrc.ext hE1
 refine zg ?_
 refine zv (ai (us:=dq t.ig t.kp t.br t.rules gv lc rc) hdb1.cellsAdd (J1 _) (by rw[hlen];exact y8 _) rfl) ?_
 refine zc call12 (sT t _ w1 ⟨gv,lc,rc,rfl,hgv1,hlc1,hrc1⟩) ?_
 rintro _ w2 ⟨rfl,hE2⟩
 have hX2:=aa (S:=fun _=>False) (fun h=>h) O1 hE2
 have hdb2:=hdb1.upd hX2 (by decide) (fun h=>h)
 have hfr2:=hfr1.upd hX2
 have hR2:=hR1.upd hX2
 rw[hrt]
 refine zg ?_
 refine zFG rfl rfl ?_
 refine zv (ai (us:=dq t.ig t.kp t.br t.rules gv lc rc) hdb2.cellsAdd (J1 _) (by rw[hlen];exact y8 _) rfl) ?_
 refine zv (z8 (cells:=(po t gv lc rc (nS) ⟨0,[],false,(0,false),false⟩).toArray) ID (zeroValue116 _) rfl (by rw[BZ _ _ _ (by rw[Fm,hlen];rfl) (by rw[Fm,hlen];decide),Fm,hlen];rfl)) ?_
 refine aE hR2 i (by omega) rfl rfl ?_
 intro rb w3 O3 hrb3 hU3 hR3 hE3
 have hfr3:=hfr2.upd hU3
 have h3:RunO O3 w3 i j rb t gv lc rc (nS) ⟨0,[],false,(0,false),false⟩:=⟨hrb3,WinO.nil _ _ _ _ _ _,hgv1.ext (hE2.trans hE3),hlc1.ext (hE2.trans hE3),hrc1.ext (hE2.trans hE3),hfr3⟩
 have hdb3:=hdb2.upd hU3 (by decide) (by omega)
 have hB3:=xw (t:=t) hdb3 h3.groups h3.left h3.right
 refine zg ?_
 obtain⟨hg1,hg2⟩:=ho.gN (c:=36) (by decide)
 obtain⟨hr1,hr2⟩:=ho.lN ho.lp (c:=36) (by decide)
 have hgl:=ho.gl
 have d4:w3.drew.cell? (nA db 4)=some gv:=hB3.c4
 have dcl:∀(j:Nat) (u:ox),lc[j]? = some u→w3.drew.cell? ((nA db 5).add j)=some u:=hB3.cl
 have dg:w3.drew.cell? (adr gv 1 36)=some (nI ((grT t 36:Nat):Int)):=by have:=hB3.groups.cell (i:=36) (j:=0) (by omega) rfl;rw[ao,hg1]at this;exact this
 refine aI (fun W=>W.cell? (nA db 4)=some gv∧W.cell? (adr gv 1 36)=some (nI ((grT t 36:Nat):Int))∧(∀(j:Nat) (u:ox),lc[j]? = some u→W.cell? ((nA db 5).add j)=some u)) 11 rfl (by kernel_rfl) ?_
 refine zin ⟨d4,dg,dcl⟩ fun zS=>?_
 refine zrm 0 rfl zS rfl ?_
 refine zrf 1 rfl zS rfl ?_
 refine zt 2 rfl zS (fun w1 hw1=>ai (us:=lc) hw1.2.2 (J2 _) (by rw[ll];exact zR _) rfl) ?_
 refine zrf 3 rfl zS rfl ?_
 refine zt 4 rfl zS (fun w1 hw1=>RV.ld hw1.1 rfl) ?_
 refine zr 5 rfl zS (fun _=>ah hB3.groups.sh sQ (zl _) rfl rfl 36 rfl (by omega)) ?_
 refine zt 6 rfl zS (fun w1 hw1=>RV.ld hw1.2.1 rfl) ?_
 refine pR 7 (by kernel_rfl) rfl ?_
 refine zc KA (kf lc t.left t.lt 0 (grT t 36) w3.drew (hB3.left.ext (qN w3).drew) ho.okl ho.lp hg2) ?_
 rintro _ w5 ⟨rfl,hE5⟩
 rw[hr1]
 refine zg ?_
 refine af (⟨hE5.cell d4,hE5.cell dg,fun j u hu=>hE5.cell (dcl j u hu)⟩) ?_
 have hX5:=aa (S:=fun _=>False) (fun h=>h) O3 ((qN w3).drew.trans hE5)
 have h5:=h3.upd hX5 hi hj (fun h=>h) (fun h=>h)
 have hdb5:=hdb3.upd hX5 (by decide) (fun h=>h)
 have hR5:=hR3.upd hX5
 refine zin (⟨hE5.cell d4,hE5.cell dg,fun j u hu=>hE5.cell (dcl j u hu)⟩) fun zS=>?_
 refine zr 8 rfl zS (fun _=>aq rfl) ?_
 refine zrf 9 rfl zS rfl ?_
 refine pR 10 (by kernel_rfl) rfl ?_
 refine ak (j:=17) h5.blk (h5.at_ 0 rfl) (zl _) rfl rfl rfl rfl ?_
 obtain⟨h6,hU6⟩:=h5.store hi hj hij 0 (nI ((stL t 0 36:Nat):Int)) (wv':=nS) (s':=ed t) rfl h5.win
 have hdb6:=hdb5.upd hU6 (by decide) (by omega)
 have hB6:=xw (t:=t) hdb6 h6.groups h6.left h6.right
 have q1:(w5.setCell ⟨rb,17+0,none⟩ (nI ((stL t 0 36:Nat):Int))).cell? (adr gv 1 36)=some (nI ((grT t 36:Nat):Int)):=by have:=hB6.groups.cell (i:=36) (j:=0) (by omega) rfl;rw[ao,hg1]at this;exact this
 refine zg ?_
 refine af (⟨hB6.c4,q1,hB6.cl⟩) ?_
 refine ug (by kernel_rfl) ?_
 refine zg ?_
 refine ae rfl rfl (⟨O3,rb,rfl,h6,(((hU1.mono (fun _ h=>by omega) hz).trans (hX2.mono (fun _ h=>h.elim) hz)).trans (hU3.mono (fun _ h=>by omega) hz)).trans ((hX5.mono (fun _ h=>h.elim) hz).trans (hU6.mono (fun _ h=>by omega) hz)),hR5.upd hU6⟩)
end Go.Proofs.YtlehnbkknlpkbaaGreatDoor
end
namespace Go.Proofs.YtlehnbkknlpkbaaGreatDoor
def aK(t:TabM)(s:RunS)(a0:List Int):RunS:=a0.foldl (fun s id=>nT t s (aJ id)) s
def oN(t:TabM)(a0:List Int):List Bool:=true::closeL t (aK t (ed t) a0).wait (aK t (ed t) a0).row++if 0<a0.length then [true]else []
theorem PartV.free0{w:ps}{cs:List ox}{p:Kc}{tl:List Nat}(h:PartV w cs p tl):FreeL (fun _=>0) w cs:=fun v hv=>by
 obtain⟨uv,bv,kv,nv,tv,rfl,h1,h2,h3,h4,h5⟩:=h;simp only[pN,rj,or_false]at hv
 rcases hv with rfl|rfl|rfl|rfl|rfl|rfl
 ·exact fun a n c e=>by cases e
 ·exact h1.free0 (fun x=>by simp)
 ·exact h2.free0 (fun x=>by simp)
 ·exact h3.free0 (fun x=>by simp)
 ·exact h4.free0 (fun x=>by simp)
 exact h5.free0 (fun x=>by simp)
theorem oM{w:ps}(h:eF w):G5<w.heap.size:=by
 have:=h 0 zd;refine Gv fun hn=>?_
 simp[World.cell?,Array.getElem?_eq_none (show w.heap.size<=0 from Nat.le_of_not_lt hn)]at this
theorem nz{w:ps}{t:TabM}{gv:ox}{lc rc:List ox}(a2:G6 w gv t.groups)(a1:PartV w lc t.left t.lt)(a0:PartV w rc t.right t.rt):FreeL (fun _=>0) w (gv::(lc++rc)):=fun v hv=>by
 rcases pN.1 hv with rfl|hv
 ·exact a2.free0 (fun x=>by simp)
 rcases uw.1 hv with hv|hv
 ·exact a1.free0 v hv
 exact a0.free0 v hv
theorem sj(ts:List R3):∀i,iE ts i<2^i
 |0=>by unfold iE;decide
 |i+1=>by
  have h1:iE ts i<2^(i+1):=DA (sj ts i) (JE zd (Nat.le_succ i));unfold iE
  split
  ·exact yJ h1 (z6 zd (GT i))
  exact h1
theorem CN{g:Gr}{n:Nat}(he:∀k,g.en k<=n)(s:List Int):dp g s<2^n:=by
 have a0:∀(s:List Int) (b:Nat),b<2^n->s.foldl (fun b p=>b ||| jD g p.toNat) b<2^n:=fun s=>by
  induction s with
  |nil=>exact fun b hb=>hb
  |cons p s ih=>exact fun b hb=>ih _ (yJ hb (ke he _ 0 (K6 n)))
 exact a0 s 0 (K6 n)
theorem sX{se:Bool}{ts:List Nd}{d:List (List Nat)×List Nat}(h:stM se ts=some d):∀q∈d.2,q<2^ts.length:=fun q hq=>by
 unfold stM at h
 split at h
 ·obtain⟨S,hS⟩:=oE h;obtain⟨j,hj,rfl⟩:=cI hq;rw[hS.tel j (by rw[<-hS.tl];exact hj)];exact CN (A9 ts) _
 cases h
theorem od{rows:List (List Nat)}{a0:List Nat}(hr:vX rows a0)(cl:Nat->Nat){n:Nat}(h:∀q∈a0,q<2^n):∀q∈(aU cl rows a0).2,q<2^n:=fun q hq=>by
 obtain⟨F,hF⟩:=gx (cl:=cl) (tl:=nth a0) hr.nx (rows.length+1) 0 [0] [] [] (nt hr.pos) zo;obtain⟨j,hj,rfl⟩:=cI hq;have a1:j<F.length:=by have:=hF.tln;change j<(fS _ _ _ _ _ _ _ _).2.length at hj;omega
 have ht:nth (aU cl rows a0).2 j=nth a0 (nth F j):=hF.tel j a1;rw[ht];have:=hF.reps.lt _ (aO a1);exact h _ (aO (by rw[hr.tl];exact this))
theorem Fl{a b:Nat}(ha:a<65536)(hb:b<65536)(h1:y2 (a / 256)=y2 (b / 256))(h2:y2 (a % 256)=y2 (b % 256)):a=b:=by
 have e1:=congrArg Kj h1;have e2:=congrArg Kj h2;simp only[UInt8.toNat_ofNat']at e1 e2;omega
theorem xi{i j:Nat}:∀(rows:List (List Nat)),(∀r∈rows,nth r i<65536/\nth r j<65536)->qA rows i=qA rows j->∀r∈rows,nth r i=nth r j
 |[],_,_=>fun r hr=>by cases hr
 |a::l,h,he=>by
  have e:[y2 (nth a i / 256),y2 (nth a i % 256)]++qA l i=[y2 (nth a j / 256),y2 (nth a j % 256)]++qA l j:=he;simp only[JV,Ib,KT]at e;obtain⟨e1,e2,e3⟩:=e;have ha:=h a (by simp);intro r hr
  rcases pN.1 hr with rfl|hr
  ·exact Fl ha.1 ha.2 e1 e2
  exact xi l (fun r hr=>h r (by simp[hr])) e3 r hr
theorem DE{A B:List (List Nat)}{i j:Nat}(hA:∀r∈A,nth r i<65536/\nth r j<65536)(hB:∀r∈B,nth r i<65536/\nth r j<65536)(h:oH [A,B] i=oH [A,B] j):(∀r∈A,nth r i=nth r j)/\∀r∈B,nth r i=nth r j:=by
 have h:qA A i++(qA B i++[])=qA A j++(qA B j++[]):=h;rw[ri,ri]at h;obtain⟨h1,h2⟩:=K5 h (by rw[kX,kX]);exact⟨xi A hA h1,xi B hB h2⟩
structure PartI(g:List Nat)(many n:Nat)(rows:List (List Nat))(p:Kc):Prop where
 right:de p=true
 us:p.usual.length=rows.length
 wd:p.width=(many:Int)
 get:∀r,r<rows.length->∀c,c<37->getM p r (nth g c)=((nxD rows r c:Nat):Int)
 lo:∀r,r<rows.length->∀k,k<many->0<=getM p r k/\getM p r k<rows.length
theorem xZ{g:List Nat}{many:Nat}(hg:GrpI g many){rows:List (List Nat)}{a6:List Nat}(hr:vX rows a6)(hc:∀i j,i<37->j<37->nth g i=nth g j->∀r∈rows,nth r i=nth r j):PartI g many rows.length rows (dH g many rows):=by
 have a2:=pX hg hr;have a8:=hg.le;have a7:(kA g many rows).length=rows.length:=by simp[kA]
 have a5:∀r,r<rows.length->nth (kA g many rows) r=ints (px g many (nth rows r)):=fun r a0=>by
  unfold kA;rw[dI (by simpa using a0),dI a0]
 have a3:∀r,r<rows.length->(nth (kA g many rows) r).length=many:=fun r a0=>by rw[a5 r a0];simp[nf]
 obtain⟨s1,_,_,_,s5,_⟩:=qb (many:Int) (kA g many rows) (fun r a0=>by
  obtain⟨j,hj,rfl⟩:=cI a0
  rw[a3 j zo];omega)
 have a1:∀r,r<rows.length->∀k,k<many->getM (dH g many rows) r k=((nth (px g many (nth rows r)) k:Nat):Int):=fun r a0 k hk=>by
  unfold dH;rw[BK _ _ r k zo (by rw[a3 r a0];exact hk),a5 r a0,dI (by rw[nf];exact hk)]
 refine⟨vw _ _ a2,by show(lI _ _).usual.length=_;rw[s1];simpa using a7,s5,fun r a0 c a4=>?_,fun r a0 k hk=>?_⟩
 ·rw[a1 r a0 _ (hg.lt c a4),vI hg (fun i j hi hj e=>hc i j hi hj e _ (aO a0)) a4];rfl
 rw[a1 r a0 k hk];obtain⟨i,hi,rfl⟩:=hg.hit k hk;rw[vI hg (fun i j hi hj e=>hc i j hi hj e _ (aO a0)) hi];have:=(hr.row r a0).2 i hi;omega
theorem FY{l:List Int}{n:Int}(h:∀x∈l,x<n)(h0:nth l 0<n):FZ l<n:=by
 have a0:∀(l:List Int) (m:Int),(∀x∈l,x<n)->m<n->l.foldl max m<n:=fun l=>by
  induction l with
  |nil=>exact fun m _ hm=>hm
  |cons a l ih=>exact fun m h hm=>ih _ (fun x hx=>h x (by simp[hx])) (by have:=h a (by simp);omega)
 exact a0 l _ h h0
theorem yv{g:List Nat}{many n rules:Nat}{rows:List (List Nat)}{a4:List Nat}{p:Kc}(hp:PartI g many n rows p)(hm:1<=many)(hr:vX rows a4)(ht:∀q∈a4,q<2^rules):kQ p a4 many rules=true:=by
 obtain⟨f1,f2⟩:=qv p;have a8:=hr.pos;have a7:=hr.tl;have a6:=hp.us;unfold kQ;rw[hp.right,hp.wd,f1,a6,a7];have a1:anyN (fun i=>!(nth a4 i / 2^rules==0)) rows.length=false:=bz.2 fun i hi=>by
  rw[BJ (ht _ (aO zo))];rfl
 have a2:anyN (fun i=>decide (((rows.length:Nat):Int)<=FZ (nth (gj p) i))) rows.length=false:=bz.2 fun i hi=>by
  have a0:nth (gj p) i=CF p i:=by unfold gj;rw[gp _ _ _ zo]
  have a5:p.width.toNat=many:=by rw[hp.wd];rfl
  have a3:∀k,k<many->nth (CF p i) k<rows.length:=fun k hk=>by
   unfold CF;rw[a5,aB (xs:=List.map (getM p i) (J6 many)) (by simpa using hk),JT,JK];exact(hp.lo i hi k hk).2
  refine decide_eq_false (Int.not_le.2 (FY (fun x hx=>?_) ?_))
  ·rw[a0]at hx;obtain⟨k,hk,rfl⟩:=cI hx;exact a3 k (by unfold CF at hk;rw[a5]at hk;simpa using hk)
  rw[a0];exact a3 0 hm
 have h0:(rows.length==0)=false:=beq_eq_false_iff_ne.2 zo;rw[a1,a2,h0];simp
structure TabI(t:TabM)(A B:List (List Nat)×List Nat):Prop where
 right:gk t=true
 ok:OkT t
 left:∀r c,r<A.1.length->c<37->stL t r c=nxD A.1 r c
 rght:∀r c,r<B.1.length->c<37->stR t r c=nxD B.1 r c
 ll:t.left.usual.length=A.1.length
 rl:t.right.usual.length=B.1.length
theorem Fp{li lk:List Int}{ts:List R3}{A B:List (List Nat)×List Nat}(a8:dE li lk ts=true)(hA:vX A.1 A.2)(hB:vX B.1 B.2)(tA:∀q∈A.2,q<2^ts.length)(tB:∀q∈B.2,q<2^ts.length):TabI (nC li lk ts A B) A B:=by
 obtain⟨r1,r2,r3,r4⟩:=eo a8;obtain⟨many,hg,a5⟩:=qq [A.1,B.1];have a2:=hg.pos;have b0:=hg.le;have a4:=hg.len;have a3:∀ {rows:List (List Nat)} {a7:List Nat},vX rows a7->∀i,i<37->∀r∈rows,nth r i<65536:=fun {rows a7} h i hi r hr=>by
  obtain⟨j,hj,rfl⟩:=cI hr;have h1:=(h.row j hj).2 i hi;have h2:=h.le;omega
 have hc:∀i j,i<37->j<37->nth (bJ [A.1,B.1]) i=nth (bJ [A.1,B.1]) j->(∀r∈A.1,nth r i=nth r j)/\∀r∈B.1,nth r i=nth r j:=fun i j hi hj e=>
  DE (fun r hr=>⟨a3 hA i hi r hr,a3 hA j hj r hr⟩) (fun r hr=>⟨a3 hB i hi r hr,a3 hB j hj r hr⟩) ((a5 i j hi hj).1 e)
 have a1:=hg.cnt;have iL:=xZ hg hA (fun i j hi hj e=>(hc i j hi hj e).1);have iR:=xZ hg hB (fun i j hi hj e=>(hc i j hi hj e).2);have fL:=yv iL a2 hA tA;have fR:=yv iR a2 hB tB;have e1:(nC li lk ts A B).left=dH (bJ [A.1,B.1]) many A.1:=by rw[sU,a1]
 have e2:(nC li lk ts A B).right=dH (bJ [A.1,B.1]) many B.1:=by rw[pS,a1]
 have e3:(nC li lk ts A B).groups=ints (bJ [A.1,B.1]):=rfl;have gr:∀c,c<37->nth (nC li lk ts A B).groups c=((nth (bJ [A.1,B.1]) c:Nat):Int):=fun c hc=>by rw[e3,dI zo]
 have gt:∀c,c<37->grT (nC li lk ts A B) c=nth (bJ [A.1,B.1]) c:=fun c hc=>by unfold grT;rw[gr c hc];rfl
 have a6:∀q:Nat,q<2^ts.length->q<2^40:=fun q hq=>DA hq (JE zd r1)
 have a':=hA.tl;have a9:=hB.tl;have pA:=hA.pos;have pB:=hB.pos;refine⟨?_,⟨okP _ (by rw[e1];exact iL.right),okP _ (by rw[e2];exact iR.right),by rw[e3];simpa using a4,fun c a0=>?_,by rw[e1,iL.us];exact a',by rw[e2,iR.us];exact a9,by rw[e1,iL.us];exact pA,by rw[e2,iR.us];exact pB,fun r c hr a0=>?_,fun r c hr a0=>?_,nK r2,nK r3,a6 _ (sj ts _),fun q hq=>a6 q (tA q hq),fun q hq=>a6 q (tB q hq)⟩,fun r c hr a0=>?_,fun r c hr a0=>?_,by rw[e1,iL.us],by rw[e2,iR.us]⟩
 ·unfold gk;have q1:(nC li lk ts A B).ig / 2^36=0:=BJ (nK r2);have q2:(nC li lk ts A B).kp / 2^36=0:=BJ (nK r3);have q3:(nC li lk ts A B).rules.toNat=ts.length:=rfl;have q4:(nC li lk ts A B).br / 2^ts.length=0:=BJ (sj ts _);have q5:iq (nC li lk ts A B).groups=many:=by rw[e3,a1]
  have q6:(nC li lk ts A B).rules=(ts.length:Int):=rfl;rw[q1,q2,q3,q4,q5,q6,e1,e2,AE,AD,fL,fR,decide_eq_false zo,decide_eq_false zo,beq_eq_false_iff_ne.2 zo];rfl
 ·rw[gr c a0];have:=hg.lt c a0;omega
 ·rw[e1]at hr ⊢;rw[iL.us]at hr ⊢;rw[gt c a0,iL.get r hr c a0];have:=(hA.row r hr).2 c a0;unfold nxD;omega
 ·rw[e2]at hr ⊢;rw[iR.us]at hr ⊢;rw[gt c a0,iR.get r hr c a0];have:=(hB.row r hr).2 c a0;unfold nxD;omega
 ·unfold stL;rw[e1,gt c a0,iL.get r hr c a0];rfl
 unfold stR;rw[e2,gt c a0,iR.get r hr c a0];rfl
theorem CW(rows:List (List Nat))(u v:List Nat)(q:Nat):jj rows (u++v) q=jj rows v (jj rows u q):=JP
theorem Bo{rows:List (List Nat)}{a0:List Nat}{cl:Nat->Nat}(hr:vX rows a0)(a4:L9 cl (rows,a0)):∃F,LI cl (nxD rows) (nth a0) rows.length F.length F (aU cl rows a0).1 (aU cl rows a0).2/\
  ∀(w:List Nat),(∀m∈w,m<37)->∀p q,p<F.length->q<rows.length->cl (nth F p)=cl q->jj (aU cl rows a0).1 w p<F.length/\jj rows w q<rows.length/\cl (nth F (jj (aU cl rows a0).1 w p))=cl (jj rows w q):=by
 obtain⟨F,hF⟩:=gx (cl:=cl) (tl:=nth a0) hr.nx (rows.length+1) 0 [0] [] [] (nt hr.pos) zo;refine⟨F,hF,fun w=>?_⟩;have a6:LI cl (nxD rows) (nth a0) rows.length F.length F (aU cl rows a0).1 (aU cl rows a0).2:=hF;generalize aU cl rows a0=L at *
 induction w with
 |nil=>exact fun _ p q hp hq he=>⟨hp,hq,he⟩
 |cons m w ih=>
  intro hw p q hp hq he;have hm:=hw m (by simp);obtain⟨a1,a2⟩:=(a6.row p hp).2 m hm;have a5:=a6.reps.lt _ (aO hp);have a3:=hr.nx q m hq hm;have a7:Alike (nxD rows) (nth a0) (nth F p) q:=(a4 _ _ a5 hq).1 he;exact ih (fun x hx=>hw x (by simp[hx])) _ _ a1 a3 (a2.trans ((a4 _ _ (hr.nx _ m a5 hm) a3).2 (a7.step hm)))
theorem sO{se:Bool}{ts:List Nd}{a:List (List Nat)×List Nat}{cl:Nat->Nat}(h:stM se ts=some a)(hs:bR ts=true)(hr:vX a.1 a.2)(a1:L9 cl a)(w:List Nat)(hw:∀m∈w,m<37):
  jj (aU cl a.1 a.2).1 w 0<(aU cl a.1 a.2).1.length/\∀i,(nth (aU cl a.1 a.2).2 (jj (aU cl a.1 a.2).1 w 0)).testBit i=true↔i<ts.length/\∃u v,ints w=u++v/\(se=true\/u=[])/\Lg (nth ts i) v:=by
 obtain⟨F,hF,a0⟩:=Bo (cl:=cl) hr a1;obtain⟨c1,c2,c3⟩:=a0 w hw 0 0 hF.p0 hr.pos (by rw[hF.fst]);refine⟨by rw[hF.rl];exact c1,fun i=>?_⟩;have hd:DC (cM se (jZ ts)) (dp (jZ ts))=some a:=by
  unfold stM at h
  split at h
  ·exact h
  cases h
 obtain⟨S,hS⟩:=oE hd;obtain⟨s1,s2⟩:=xT hS w hw 0 hS.p0;have a3:=(a1 _ _ (hF.reps.lt _ (aO c1)) c2).1 c3;have a2:nth (aU cl a.1 a.2).2 (jj (aU cl a.1 a.2).1 w 0)=nth a.2 (jj a.1 w 0):=by
  rw[hF.tel _ c1];exact a3 [] (fun m hm=>by cases hm)
 have a4:w.foldl (fun s (m:Nat)=>cM se (jZ ts) s (m:Int)) (nth S 0)=CE (cM se (jZ ts)) (ints w):=by
  unfold CE;rw[hS.fst,List.foldl_map]
 rw[a2,hS.tel _ s1,s2,a4];exact yS hs (nF se (jZ ts)) (ints w) i
theorem yf:∀(l:List Nd) (s:Bool) (a0:Int),0<=a0->0<=cD s a0 l->a0<=cD s a0 l
 |[],_,a0,_,_=>by unfold cD;exact B1 _
 |t::r,s,a0,h0,h=>by
  unfold cD at h ⊢
  split at h
  ·omega
  rename_i hn;rw[if_neg hn];have a1:a0<=if s=true then a0+bX t else max a0 (bX t):=by split<;>omega
  exact Int.le_trans a1 (yf r s _ zo h)
mutual
theorem vP:∀(t:Nd) (w:List Int),Lg t w->0<=bX t->(w.length:Int)<=bX t
 |.mk k c l,w,h,h0=>by
  unfold bX at h0 ⊢;unfold Lg at h
  by_cases h67:k=6\/k=7
  ·rw[if_pos h67]at h0;omega
  rw[if_neg h67]at h0 ⊢
  by_cases h9:k=9
  ·subst h9;simp at h;rw[if_pos rfl,h];exact B1 _
  rw[if_neg h9]at h0 ⊢
  by_cases h4:k=4
  ·subst h4;simp at h;rw[if_pos (.inl rfl)]at h0 ⊢;have:=yg l w 0 h (B1 _) h0;simpa using this
  by_cases h5:k=5
  ·subst h5;simp at h;rw[if_pos (.inr (.inl rfl))]at h0 ⊢;exact rM l w 0 h (B1 _) h0
  by_cases h8:k=8
  ·subst h8;simp at h;rw[if_pos (.inr (.inr rfl))]at h0 ⊢
   rcases h with rfl|h
   ·exact h0
   exact rM l w 0 (by
    cases l with
    |nil=>exact h.elim
    |cons t r=>exact .inl h) (B1 _) h0
  have h6:¬k=6:=fun e=>h67 (.inl e)
  have h7:¬k=7:=fun e=>h67 (.inr e)
  rw[if_neg h4,if_neg h5,if_neg h6,if_neg h7,if_neg h8,if_neg h9]at h;obtain⟨m,rfl,_⟩:=h;rw[if_neg zo];exact B1 _
theorem yg:∀(l:List Nd) (w:List Int) (acc:Int),L5 l w->0<=acc->0<=cD true acc l->acc+w.length<=cD true acc l
 |[],w,acc,h,_,_=>by
  unfold L5 at h;subst h;unfold cD;simp
 |t::r,w,acc,h,ha,h0=>by
  unfold L5 at h;unfold cD at h0 ⊢;obtain⟨u,v,rfl,hu,hv⟩:=h
  split at h0
  ·omega
  rename_i hn;rw[if_neg hn];rw[if_pos rfl]at h0 ⊢;have h1:=vP t u hu zo;have h2:=yg r v _ hv zo h0;rw[qy];omega
theorem rM:∀(l:List Nd) (w:List Int) (acc:Int),L1 l w->0<=acc->0<=cD false acc l->(w.length:Int)<=cD false acc l
 |[],w,acc,h,_,_=>by unfold L1 at h;exact h.elim
 |t::r,w,acc,h,ha,h0=>by
  unfold L1 at h;unfold cD at h0 ⊢
  split at h0
  ·omega
  rename_i hn;rw[if_neg hn];rw[if_neg zd]at h0 ⊢
  rcases h with h|h
  ·have h1:=vP t w h zo;have h2:=yf r false (max acc (bX t)) zo h0;omega
  exact rM r w _ h zo h0
end
theorem Dn{t:Nd}(h:da t=0){w:List Int}(hw:Lg t w):w.length<=4:=by
 unfold da at h
 split at h
 ·omega
 split at h
 ·omega
 rename_i hn;simp only[y1,not_or,Bool.not_eq_true',decide_eq_true_eq]at hn;obtain⟨h1,h2⟩:=hn;have hb:tL t=true:=by simpa using h1
 have a0:=hb;unfold tL at a0;rw[th]at a0;have h3:=of_decide_eq_true a0.2;have h4:=vP t w hw h3;unfold tK at h2;rw[if_pos a0.1]at h2;omega
def ff:List En->List Nat
 |[]=>[]
 |(c,h)::r=>if h=true then ff r else c::ff r
theorem Fk{l:List En}{n:Nat}(h:∀x∈l,x.1<n):∀m∈ff l,m<n:=by
 induction l with
 |nil=>exact fun m hm=>by cases hm
 |cons x r ih=>
  obtain⟨c,hd⟩:=x;intro m hm;unfold ff at hm
  split at hm
  ·exact ih (fun y hy=>h y (by simp[hy])) m hm
  rcases pN.1 hm with rfl|hm
  ·exact h (m,hd) (by simp)
  exact ih (fun y hy=>h y (by simp[hy])) m hm
theorem vo{t:TabM}{A B:List (List Nat)×List Nat}(hI:TabI t A B)(hB:vX B.1 B.2)(i:Nat):∀(l:List En) (row a0 a1:Nat),(∀x∈l,x.1<36)->row<B.1.length->a0<=4->
  ((rwL t l row a0 a1).testBit i=true↔a1.testBit i=true\/∃k,0<k/\k<=(ff l).length/\a0+k<=4/\(nth t.rt (jj B.1 ((ff l).take k) row)).testBit i=true)
 |[],row,a0,a1,_,_,_=>by
  unfold rwL ff
  constructor
  ·exact .inl
  rintro(h|⟨k,h1,h2,_⟩)
  ·exact h
  simp at h2;omega
 |(c,hd)::r,row,a0,a1,hc,hrow,hseen=>by
  have a2:∀x∈r,x.1<36:=fun x hx=>hc x (by simp[hx])
  have a4:c<36:=hc (c,hd) (by simp);unfold rwL ff
  by_cases hh:hd=true
  ·rw[if_pos hh,if_pos hh];exact vo hI hB i r row a0 a1 a2 hrow hseen
  rw[if_neg hh,if_neg hh]
  by_cases h4:a0=4
  ·rw[if_pos h4]
   constructor
   ·exact .inl
   rintro(h|⟨k,h1,_,h3,_⟩)
   ·exact h
   omega
  have a3:=hI.rght row c hrow zo;have hn:=hB.nx row c hrow zo;rw[if_neg h4,a3,vo hI hB i r _ _ _ a2 hn zo,Jn,y1]
  constructor
  ·rintro((h|h)|⟨k,h1,h2,h3,h5⟩)
   ·exact .inl h
   ·exact .inr ⟨1,zd,by simp,zo,h⟩
   exact .inr ⟨k+1,zo,by simpa using h2,zo,h5⟩
  rintro(h|⟨k,h1,h2,h3,h5⟩)
  ·exact .inl (.inl h)
  cases k with
  |zero=>omega
  |succ k=>
   cases k with
   |zero=>exact .inl (.inr h5)
   |succ k=>exact .inr ⟨k+1,zo,by simpa using h2,zo,h5⟩
theorem yZ{t:TabM}{A B:List (List Nat)×List Nat}(hI:TabI t A B)(hB:vX B.1 B.2)(i:Nat)(l:List En)(hl:∀x∈l,x.1<36):
  (eE t l).testBit i=true↔∃k,k<=(ff l).length/\k<=4/\(nth t.rt (jj B.1 ((ff l).take k) 0)).testBit i=true:=by
 unfold eE;rw[vo hI hB i l 0 0 _ hl hB.pos zd]
 constructor
 ·rintro(h|⟨k,_,h2,h3,h4⟩)
  ·exact⟨0,tq _,tq _,h⟩
  exact⟨k,h2,zo,h4⟩
 rintro⟨k,h2,h3,h4⟩
 cases k with
 |zero=>exact .inl h4
 |succ k=>exact .inr ⟨k+1,zo,h2,zo,h4⟩
theorem DD{x:Nat}(h0:x≠0)(h:x<2^64):x.testBit (BW 64 x)=true/\∀j,j<BW 64 x->x.testBit j=false:=by
 obtain⟨m,e,_⟩:=Lib.ctzFrom_spec 64 x zo h;have hc:BW 64 x=Kx 64 x:=by unfold BW;rw[if_neg h0]
 rw[hc];generalize Kx 64 x=c at *;subst e;refine⟨?_,fun j hj=>?_⟩
 ·rw[Jv,Nat.sub_self,decide_eq_true (vg c),Jr,Nat.testBit_zero];exact decide_eq_true zo
 rw[Jv,decide_eq_false zo,Bool.false_and]
def jY(ts:List R3)(a0 after:List Nat)(i:Nat):Prop:=i<ts.length/\(∃u v,ints a0=u++v/\Lg (nth (nZ ts) i) v)/\∃u v,ints after=u++v/\Lg (nth (fM ts) i) u
def FirstR(ts:List R3)(a0 after:List Nat)(k:Int):Prop:=(k = -1/\∀i,¬jY ts a0 after i)\/∃i:Nat,k=i/\jY ts a0 after i/\∀j,j<i->¬jY ts a0 after j
theorem FirstR.uniq{ts:List R3}{b a:List Nat}{k k':Int}(h:FirstR ts b a k)(h':FirstR ts b a k'):k=k':=by
 rcases h with⟨rfl,h⟩|⟨i,rfl,h1,h2⟩<;>rcases h' with⟨rfl,h'⟩|⟨i',rfl,a0,a1⟩
 ·rfl
 ·exact absurd a0 (h i')
 ·exact absurd h1 (h' i)
 rcases Nat.lt_trichotomy i i' with h3|h3|h3
 ·exact absurd h1 (a1 i h3)
 ·rw[h3]
 exact absurd a0 (h2 i' h3)
theorem sZ{ts:List Nd}(h:∀t∈ts,bj t=true):bR ts=true:=by
 induction ts with
 |nil=>rfl
 |cons t r ih=>
  unfold bR;rw[(fO (h t (by simp))).2.1,ih (fun x hx=>h x (by simp[hx]))];rfl
structure Made(li lk:List Int)(ts:List R3)(a b:List (List Nat)×List Nat)(clA clB:Nat->Nat):Prop where
 rt:dE li lk ts=true
 sa:stM true (nZ ts)=some a
 sb:stM false (fM ts)=some b
 ra:vX a.1 a.2
 rb:vX b.1 b.2
 ca:L9 clA a
 cb:L9 clB b
abbrev bW(li lk:List Int)(ts:List R3)(a b:List (List Nat)×List Nat)(a1 a0:Nat->Nat):TabM:=nC li lk ts (aU a1 a.1 a.2) (aU a0 b.1 b.2)
section
variable{li lk:List Int}{ts:List R3}{a b:List (List Nat)×List Nat}{clA clB:Nat→Nat}
theorem Made.inv(h:Made li lk ts a b clA clB):TabI (bW li lk ts a b clA clB) (aU clA a.1 a.2) (aU clB b.1 b.2):=
 Fp h.rt (eT h.ra clA) (eT h.rb clB) (od h.ra clA (by have:=sX h.sa;rwa[sP]at this)) (od h.rb clB (by have:=sX h.sb;rwa[sP]at this))
theorem Made.rules(h:Made li lk ts a b clA clB):∀t∈ts,bj t.1=true/\bj t.2.1=true/\da t.2.1=0:=fun t ht=>by
 have:=(eo h.rt).2.2.2 t ht;unfold mP at this;simp only[th,beq_iff_eq]at this;exact⟨this.1.1,this.1.2,this.2⟩
theorem Made.left(h:Made li lk ts a b clA clB)(w:List Nat)(hw:∀m∈w,m<37):jj (aU clA a.1 a.2).1 w 0<(aU clA a.1 a.2).1.length/\
  ∀i,(nth (aU clA a.1 a.2).2 (jj (aU clA a.1 a.2).1 w 0)).testBit i=true↔i<ts.length/\∃u v,ints w=u++v/\Lg (nth (nZ ts) i) v:=by
 have hs:bR (nZ ts)=true:=sZ fun t ht=>by
  obtain⟨x,hx,rfl⟩:=zI.1 ht;exact(h.rules x hx).1
 obtain⟨h1,h2⟩:=sO h.sa hs h.ra h.ca w hw;refine⟨h1,fun i=>?_⟩;rw[h2 i,sP];exact and_congr_right fun _=>⟨fun⟨u,v,e,_,hv⟩=>⟨u,v,e,hv⟩,fun⟨u,v,e,hv⟩=>⟨u,v,e,.inl rfl,hv⟩⟩
theorem Made.right(h:Made li lk ts a b clA clB)(l:List En)(hl:∀x∈l,x.1<36)(i:Nat):(eE (bW li lk ts a b clA clB) l).testBit i=true↔i<ts.length/\∃u v,ints (ff l)=u++v/\Lg (nth (fM ts) i) u:=by
 have hs:bR (fM ts)=true:=sZ fun t ht=>by
  obtain⟨x,hx,rfl⟩:=zI.1 ht;exact(h.rules x hx).2.1
 have hv:=Fk hl;rw[yZ h.inv (eT h.rb clB) i l hl];have a0:∀k,(nth (bW li lk ts a b clA clB).rt (jj (aU clB b.1 b.2).1 ((ff l).take k) 0)).testBit i=true↔i<ts.length/\Lg (nth (fM ts) i) (ints ((ff l).take k)):=fun k=>by
  have:=(sO h.sb hs h.rb h.cb ((ff l).take k) (fun m hm=>by have:=hv m (List.mem_of_mem_take hm);omega)).2 i;rw[sP]at this;refine this.trans (and_congr_right fun _=>⟨?_,fun hL=>⟨[],_,rfl,.inr rfl,hL⟩⟩);rintro⟨u,v,e,hu,hL⟩
  rcases hu with hu|rfl
  ·cases hu
  rw[e];exact hL
 constructor
 ·rintro⟨k,h1,h2,h3⟩;obtain⟨h4,h5⟩:=(a0 k).1 h3;exact⟨h4,ints ((ff l).take k),ints ((ff l).drop k),by unfold ints;rw[<-ze,CR],h5⟩
 rintro⟨h1,u,v,e,h2⟩;have hi:i<(fM ts).length:=by rw[sP];exact h1
 have h4:u.length<=4:=Dn (by
  rw[dI h1]
  exact(h.rules _ (aO h1)).2.2) h2
 have a1:u.length<=(ff l).length:=by have:=congrArg y4 e;rw[qy]at this;unfold ints at this;rw[sP]at this;omega
 refine⟨u.length,a1,h4,(a0 _).2 ⟨h1,?_⟩⟩;have:ints ((ff l).take u.length)=u:=by
  unfold ints at e ⊢;rw[List.map_take,e,I4];rfl
 rw[this];exact h2
theorem Made.which(h:Made li lk ts a b clA clB)(a0:List Nat)(hb:∀m∈a0,m<37)(s:RunS)(hs:OkS (bW li lk ts a b clA clB) s)(a2:s.row=jj (aU clA a.1 a.2).1 a0 0):FirstR ts a0 (ff s.wait) (cZ (bW li lk ts a b clA clB) s):=by
 have hl:=(h.left a0 hb).2;have hr:=h.right s.wait hs.wait;have hi:=h.inv;have a3:=nQ hi.ok hs;unfold cZ;have a4:(bW li lk ts a b clA clB).lt=(aU clA a.1 a.2).2:=rfl;rw[a4,a2];generalize eE (bW li lk ts a b clA clB) s.wait=R at *;generalize nth (aU clA a.1 a.2).2 (jj (aU clA a.1 a.2).1 a0 0)=L at *;have a1:∀i,(L &&& R).testBit i=true↔jY ts a0 (ff s.wait) i:=fun i=>by
  rw[Nat.testBit_and,th,hl i,hr i];unfold jY;exact⟨fun⟨⟨h1,h2⟩,_,h3⟩=>⟨h1,h2,h3⟩,fun⟨h1,h2,h3⟩=>⟨⟨h1,h2⟩,h1,h3⟩⟩
 have a5:L &&& R<2^64:=DH K2 (Nat.lt_trans a3 zd)
 split
 ·rename_i h0;exact .inl ⟨rfl,fun i hA=>by have:=(a1 i).2 hA;rw[h0]at this;simp at this⟩
 rename_i h0;obtain⟨c1,c2⟩:=DD h0 a5;exact .inr ⟨_,rfl,(a1 _).1 c1,fun j hj hA=>by have:=(a1 j).2 hA;rw[c2 j hj]at this;cases this⟩
end
theorem yD(ts:List R3)(i:Nat):∀n,(iE ts n).testBit i=(decide (i<n)&&(nth ts i).2.2)
 |0=>by unfold iE;simp
 |n+1=>by
  have ih:=yD ts i n;unfold iE
  by_cases hb:(nth ts n).2.2=true
  ·rw[if_pos hb,Jn,ih,JJ]
   by_cases e:n=i
   ·subst e;rw[hb];simp
   rw[decide_eq_false e,Bool.or_false];congr 1;exact decide_eq_decide.2 zo
  rw[if_neg hb,ih]
  by_cases e:n=i
  ·subst e;rw[show(nth ts n).2.2=false from by simpa using hb];simp
  congr 1;exact decide_eq_decide.2 zo
def brk(ts:List R3)(k:Int):Bool:=decide (k<0)||(nth ts k.toNat).2.2
theorem mX(l r:List En):ff (l++r)=ff l++ff r:=by
 induction l with
 |nil=>rfl
 |cons x l ih=>
  obtain⟨c,h⟩:=x
  cases h with
  |true=>exact ih
  |false=>exact congrArg (c :: ·) ih
section
variable{li lk:List Int}{ts:List R3}{a b:List (List Nat)×List Nat}{clA clB:Nat→Nat}
theorem Made.stepL(h:Made li lk ts a b clA clB)(x:En)(hx:x.1<36)(a0:List Nat)(hb:∀m∈a0,m<37):stepL (bW li lk ts a b clA clB) (jj (aU clA a.1 a.2).1 a0 0) x=jj (aU clA a.1 a.2).1 (a0++ff [x]) 0/\∀m∈a0++ff [x],m<37:=by
 obtain⟨c,hd⟩:=x;have a1:=(h.left a0 hb).1;unfold Go.Proofs.YtlehnbkknlpkbaaGreatDoor.stepL ff
 by_cases hh:hd=true
 ·rw[if_pos hh,if_pos hh];unfold ff;rw[ri];exact⟨rfl,hb⟩
 rw[if_neg hh,if_neg hh];unfold ff;refine⟨?_,fun m hm=>?_⟩
 ·rw[h.inv.left _ c a1 (by show c<37;simp at hx;omega),CW];rfl
 rcases uw.1 hm with hm|hm
 ·exact hb m hm
 rw[oD.1 hm];simp at hx;omega
theorem Made.passB(h:Made li lk ts a b clA clB)(l:List En)(x:En)(hl:∀y∈l,y.1<36)(hf:l.length<=1000000)(a0:List Nat)(hb:∀m∈a0,m<37):
  FirstR ts a0 (ff l) (cZ (bW li lk ts a b clA clB) (lF (jj (aU clA a.1 a.2).1 a0 0) l))/\
  Go.Proofs.YtlehnbkknlpkbaaGreatDoor.passB (bW li lk ts a b clA clB) (lF (jj (aU clA a.1 a.2).1 a0 0) l) x=(!x.2&&brk ts (cZ (bW li lk ts a b clA clB) (lF (jj (aU clA a.1 a.2).1 a0 0) l))):=by
 have a1:=(h.left a0 hb).1;have hk:=h.which a0 hb (lF (jj (aU clA a.1 a.2).1 a0 0) l) ⟨by show _<(bW li lk ts a b clA clB).left.usual.length;rw[h.inv.ll];exact a1,hl,by show 0<36;decide,hf⟩ rfl;refine⟨hk,?_⟩;unfold Go.Proofs.YtlehnbkknlpkbaaGreatDoor.passB brk;have a2:FirstR ts a0 (ff l) (cZ (bW li lk ts a b clA clB) (lF (jj (aU clA a.1 a.2).1 a0 0) l)):=hk;generalize cZ (bW li lk ts a b clA clB) (lF (jj (aU clA a.1 a.2).1 a0 0) l)=k at *
 rcases a2 with⟨rfl,_⟩|⟨i,rfl,h1,_⟩
 ·rfl
 have a3:(bW li lk ts a b clA clB).br=iE ts ts.length:=rfl;rw[a3,yD,Gb,decide_eq_true h1.1,Jr]
theorem Made.closeL(h:Made li lk ts a b clA clB):∀(l:List En) (a0:List Nat),(∀m∈a0,m<37)->(∀y∈l,y.1<36)->l.length<=1000000->∀i,i<l.length->
  ∃k,FirstR ts (a0++ff (l.take i)) (ff (l.drop i)) k/\nth (closeL (bW li lk ts a b clA clB) l (jj (aU clA a.1 a.2).1 a0 0)) i=(!(nth l i).2&&brk ts k)
 |[],_,_,_,_,i,hi=>absurd hi (y3 i)
 |x::r,a0,hb,hl,hf,i,hi=>by
  obtain⟨s1,s2⟩:=h.stepL x (hl x (by simp)) a0 hb;unfold Go.Proofs.YtlehnbkknlpkbaaGreatDoor.closeL
  cases i with
  |zero=>
   obtain⟨p1,p2⟩:=h.passB (x::r) x hl hf a0 hb;refine⟨cZ (bW li lk ts a b clA clB) (lF (jj (aU clA a.1 a.2).1 a0 0) (x::r)),?_,?_⟩
   ·rw[K7,K9];show FirstR ts (a0++[]) _ _;rw[ri];exact p1
   rw[ar,ar];exact p2
  |succ i=>
   rw[bd,bd,s1];obtain⟨k,k1,k2⟩:=Made.closeL h r (a0++ff [x]) s2 (fun y hy=>hl y (by simp[hy])) (by simp at hf;omega) i (by simpa using hi);refine⟨k,?_,k2⟩;rw[List.take_succ_cons,List.drop_succ_cons,show x::r.take i=[x]++r.take i from rfl,mX,<-sN];exact k1
end
def pJ(t:TabM):En->List Int->List En
 |_,[]=>[]
 |last,c::r=>(aJ c,t.ig.testBit (aJ c)&&(last.2 || !(t.kp.testBit last.1)))::pJ t (aJ c,t.ig.testBit (aJ c)&&(last.2 || !(t.kp.testBit last.1))) r
theorem kC(t:TabM):∀(a0:List Int) (s:RunS),s.begun=true->(aK t s a0).wait=s.wait++pJ t s.last a0/\(aK t s a0).row=s.row
 |[],s,_=>⟨by unfold pJ;rw[ri];rfl,rfl⟩
 |c::r,s,hb=>by
  have e:nT t s (aJ c) = {s with last:=(aJ c,CJ t s (aJ c)),wait:=s.wait++[(aJ c,CJ t s (aJ c))]}:=by unfold nT;rw[if_pos hb]
  obtain⟨h1,h2⟩:=kC t r (nT t s (aJ c)) (by rw[e];exact hb);have e2:aK t s (c::r)=aK t (nT t s (aJ c)) r:=rfl;rw[e2,h1,h2,e];refine⟨?_,rfl⟩;rw[pJ,sN];rfl
theorem mu(t:TabM)(c:Int)(r:List Int):(aK t (ed t) (c::r)).wait=pJ t (aJ c,false) r/\(aK t (ed t) (c::r)).row=stL t (stL t 0 36) (aJ c):=by
 have e2:aK t (ed t) (c::r)=aK t (nT t (ed t) (aJ c)) r:=rfl;have e:nT t (ed t) (aJ c) = {ed t with begun:=true,last:=(aJ c,false),row:=stL t (stL t 0 36) (aJ c)}:=rfl;obtain⟨h1,h2⟩:=kC t r (nT t (ed t) (aJ c)) rfl;rw[e2,h1,h2,e];exact⟨rfl,rfl⟩
theorem kN(t:TabM):∀(l:List Int) (e:En),(pJ t e l).length=l.length
 |[],_=>rfl
 |c::r,e=>by rw[pJ,su,kN t r,su]
theorem xa(t:TabM):∀(l:List Int) (e:En),∀x∈pJ t e l,x.1<36
 |[],_,x,hx=>by cases hx
 |c::r,e,x,hx=>by
  rw[pJ]at hx
  rcases pN.1 hx with rfl|hx
  ·exact ew c
  exact xa t r _ x hx
def gL(li lk ids:List Int):Nat->Bool
 |0=>false
 |i+1=>decide (((aJ (nth ids (i+1)):Nat):Int)∈li)&&(gL li lk ids i || !(decide (((aJ (nth ids i):Nat):Int)∈lk)))
def FP(k c m:Int):Bool:=
 if k=0 then m==c else if k=1 then decide (0<=m)&&decide (m<=35)else if k=2 then(decide (0<=m)&&decide (m<=35))&&(m != c)else(k==3)&&(m==36)
def gM(f g:Nat->Nat->Bool)(i k j:Nat):Bool:=(J6 k).any fun t=>f i t&&g t j
abbrev Tb:=Nat->Nat->Bool
def seg(ms:List Int)(i j:Nat):List Int:=(ms.drop i).take (j-i)
theorem nM(ms:List Int){i j:Nat}(h:i<=j)(hj:j<=ms.length):(seg ms i j).length=j-i:=by simp[seg];omega
theorem xQ(ms:List Int)(i:Nat):seg ms i i=[]:=by simp[seg]
theorem vm(ms:List Int){i m j:Nat}(h1:i<=m)(h2:m<=j):seg ms i j=seg ms i m++seg ms m j:=by
 unfold seg;obtain⟨a,rfl⟩:∃a,m=i+a:=⟨m-i,zo⟩
 obtain⟨b,rfl⟩:∃b,j=i+a+b:=⟨j-(i+a),zo⟩
 rw[show i+a+b-i=a+b from by omega,show i+a-i=a from by omega,show i+a+b-(i+a)=b from by omega,List.take_add,Ka]
theorem te{ms:List Int}{i j:Nat}(h:i<=j)(hj:j<=ms.length){u v:List Int}(e:seg ms i j=u++v):i+u.length<=j/\u=seg ms i (i+u.length)/\v=seg ms (i+u.length) j:=by
 have hl:=congrArg y4 e;rw[nM ms h hj,qy]at hl;have h1:i+u.length<=j:=zo;have e2:=vm ms (show i<=i+u.length by omega) h1;rw[e]at e2;obtain⟨e3,e4⟩:=K5 e2 (by rw[nM ms zo zo];omega);exact⟨h1,e3,e4⟩
theorem Fw{ms:List Int}{i:Nat}(h:i<ms.length):seg ms i (i+1)=[nth ms i]:=by
 unfold seg;rw[show i+1-i=1 from by omega,AW h,aB h];rfl
def DM(n:Nat)(t:Tb):Nat->Tb
 |0=>t
 |r+1=>fun i j=>DM n t r i j||gM (DM n t r) t i n j
def stepT(n:Nat)(k:Int)(a0 t:Tb):Tb:=
 if k=4 then fun i j=>gM a0 t i n j else if k=6\/k=7 then fun i j=>a0 i j||DM n t n i j else fun i j=>a0 i j||t i j
def fc(ms:List Int)(k c:Int):Tb:=fun i j=>if i=j then decide (k=4\/k=6\/k=8\/k=9)else if j=i+1/\k<4 then FP k c (nth ms i)else false
mutual
/-- From which place of marks a node leads to which. -/
def bG(ms:List Int):Nd->Tb
 |.mk k c l=>dk ms k l (fc ms k c)
def dk(ms:List Int)(k:Int):List Nd->Tb->Tb
 |[],out=>out
 |t::r,out=>dk ms k r (stepT (ms.length+1) k out (bG ms t))
end
theorem Am(f g:Tb)(i n j:Nat):gM f g i n j=true↔∃m,m<n/\f i m=true/\g m j=true:=by
 unfold gM;rw[List.any_eq_true]
 constructor
 ·rintro⟨m,hm,h⟩;rw[th]at h;exact⟨m,K8.1 hm,h.1,h.2⟩
 rintro⟨m,hm,h1,h2⟩;exact⟨m,K8.2 hm,by rw[h1,h2];rfl⟩
def Says(ms:List Int)(t:Tb)(L:List Int->Prop):Prop:=∀i j,i<=ms.length->j<=ms.length->(t i j=true↔i<=j/\L (seg ms i j))
theorem xR{ms:List Int}{f g:Tb}{L M:List Int->Prop}(hf:Says ms f L)(hg:Says ms g M):Says ms (fun i j=>gM f g i (ms.length+1) j) (fun w=>∃u v,w=u++v/\L u/\M v):=fun i j hi hj=>by
 rw[Am]
 constructor
 ·rintro⟨m,hm,h1,h2⟩;obtain⟨a1,a2⟩:=(hf i m hi zo).1 h1;obtain⟨b1,b2⟩:=(hg m j zo hj).1 h2;exact⟨zo,_,_,vm ms a1 b1,a2,b2⟩
 rintro⟨a0,u,v,e,h1,h2⟩;obtain⟨s1,s2,s3⟩:=te a0 hj e;exact⟨i+u.length,zo,(hf i _ hi zo).2 ⟨zo,s2▸h1⟩,(hg _ j zo hj).2 ⟨s1,s3▸h2⟩⟩
theorem qX{ms:List Int}{f g:Tb}{L M:List Int->Prop}(hf:Says ms f L)(hg:Says ms g M):Says ms (fun i j=>f i j||g i j) (fun w=>L w\/M w):=fun i j hi hj=>by
 rw[y1,hf i j hi hj,hg i j hi hj];exact⟨fun h=>h.elim (fun h=>⟨h.1,.inl h.2⟩) (fun h=>⟨h.1,.inr h.2⟩),fun⟨h1,h2⟩=>h2.elim (fun h=>.inl ⟨h1,h⟩) (fun h=>.inr ⟨h1,h⟩)⟩
theorem Says.congr{ms:List Int}{f:Tb}{L M:List Int->Prop}(h:Says ms f L)(e:∀w,L w↔M w):Says ms f M:=fun i j hi hj=>by rw[h i j hi hj,e]
def Iq(P:List Int->Prop):Nat->List Int->Prop
 |0,w=>P w
 |r+1,w=>∃u v,w=u++v/\Iq P r u/\P v
theorem xS{ms:List Int}{t:Tb}{L:List Int->Prop}(h:Says ms t L):∀r,Says ms (DM (ms.length+1) t r) (fun w=>∃s,s<=r/\Iq L s w)
 |0=>h.congr fun w=>⟨fun hw=>⟨0,vg _,hw⟩,fun⟨s,hs,hw⟩=>(match s,hs,hw with|0,_,hw=>hw)⟩
 |r+1=>by
  have ih:=xS h r;refine(qX ih (xR ih h)).congr fun w=>?_
  constructor
  ·rintro(⟨s,hs,hw⟩|⟨u,v,rfl,⟨s,hs,hu⟩,hv⟩)
   ·exact⟨s,zo,hw⟩
   exact⟨s+1,zo,u,v,rfl,hu,hv⟩
  rintro⟨s,hs,hw⟩
  by_cases e:s<=r
  ·exact .inl ⟨s,e,hw⟩
  obtain rfl:s=r+1:=zo;obtain⟨u,v,rfl,hu,hv⟩:=hw;exact .inr ⟨u,v,rfl,⟨r,vg _,hu⟩,hv⟩
theorem AO{ms:List Int}{k c:Int}(hk:4<=k):Says ms (fc ms k c) (fun w=>(k=4\/k=6\/k=8\/k=9)/\w=[]):=fun i j hi hj=>by
 unfold fc
 by_cases e:i=j
 ·subst e;rw[if_pos rfl,xQ,decide_eq_true_eq];exact⟨fun h=>⟨vg _,h,rfl⟩,fun h=>h.2.1⟩
 rw[if_neg e,if_neg zo];refine⟨fun h=>(by cases h),fun⟨h1,_,h2⟩=>?_⟩;have:=congrArg y4 h2;rw[nM ms h1 hj]at this;simp at this;omega
theorem A4{k c m:Int}(hk:k=0/\0<=c/\c<36\/k=1\/k=2\/k=3):FP k c m=cK k c m:=by
 unfold FP cK
 rcases hk with⟨rfl,h1,h2⟩|rfl|rfl|rfl
 ·rw[if_pos rfl,if_pos rfl]
  by_cases e:m=c
  ·subst e;rw[decide_eq_true h1,decide_eq_true h2];rfl
  rw[beq_eq_false_iff_ne.2 e,Bool.and_false]
 ·rw[if_neg zd,if_pos rfl,if_neg zd,if_pos rfl];congr 1;exact decide_eq_decide.2 zo
 ·rw[if_neg zd,if_neg zd,if_pos rfl,if_neg zd,if_neg zd,if_pos rfl];congr 2;exact decide_eq_decide.2 zo
 rw[if_neg zd,if_neg zd,if_neg zd,if_neg zd,if_neg zd,if_neg zd];rfl
theorem ky{ms:List Int}{k c:Int}(hk:k=0/\0<=c/\c<36\/k=1\/k=2\/k=3):Says ms (fc ms k c) (fun w=>∃m,w=[m]/\cK k c m=true):=fun i j hi hj=>by
 unfold fc
 by_cases e:i=j
 ·subst e;rw[if_pos rfl,xQ,decide_eq_false zo];exact⟨fun h=>(by cases h),fun⟨_,m,h,_⟩=>by cases h⟩
 rw[if_neg e]
 by_cases e2:j=i+1
 ·subst e2;rw[if_pos ⟨rfl,zo⟩,Fw zo,A4 hk];exact⟨fun h=>⟨zo,_,rfl,h⟩,fun⟨_,m,h,ht⟩=>by cases h;exact ht⟩
 rw[if_neg zo];refine⟨fun h=>(by cases h),fun⟨h1,m,h2,_⟩=>?_⟩;have:=congrArg y4 h2;rw[nM ms h1 hj]at this;simp at this;omega
theorem CT{P:List Int->Prop}{w:List Int}(h:KB P w):w=[]\/∃s,s+1<=w.length/\∃l:List (List Int),l.length=s+1/\w=l.flatten/\∀u∈l,P u:=by
 induction h with
 |nil=>exact .inl rfl
 | @cons u v hu hv ih=>
  by_cases a0:u=[]
  ·subst a0;rw[Ib];exact ih
  have a1:0<u.length:=zf.2 a0
  rcases ih with rfl|⟨s,hs,l,hl,rfl,hP⟩
  ·exact .inr ⟨0,by rw[ri];exact a1,[u],rfl,by simp,fun x hx=>by rw[oD.1 hx];exact hu⟩
  refine .inr ⟨s+1,by rw[qy];omega,u::l,by simp[hl],rfl,fun x hx=>?_⟩
  rcases pN.1 hx with rfl|hx
  ·exact hu
  exact hP x hx
theorem D2{P:List Int->Prop}:∀(s:Nat) (l:List (List Int)),l.length=s+1->(∀u∈l,P u)->Iq P s l.flatten
 |0,l,hl,hP=>by
  match l,hl with
  |[u],_=>have:=hP u (by simp);show P _;simpa using this
 |s+1,l,hl,hP=>by
  have a0:l≠[]:=fun e=>by rw[e]at hl;cases hl
  refine⟨l.dropLast.flatten,l.getLast a0,?_,D2 s _ (by rw[List.length_dropLast];omega) (fun u hu=>hP u (List.dropLast_subset l hu)),hP _ (List.getLast_mem a0)⟩
  conv=>lhs;rw[<-List.dropLast_concat_getLast a0]
  simp
theorem xV{P:List Int->Prop}:∀(s:Nat) (w:List Int),Iq P s w->∃l:List (List Int),l.length=s+1/\w=l.flatten/\∀u∈l,P u
 |0,w,h=>⟨[w],rfl,by simp,fun u hu=>by rw[oD.1 hu];exact h⟩
 |s+1,w,⟨u,v,e,hu,hv⟩=>by
  obtain⟨l,h1,h2,h3⟩:=xV s u hu;refine⟨l++[v],by simp[h1],by rw[e,h2];simp,fun x hx=>?_⟩
  rcases uw.1 hx with hx|hx
  ·exact h3 x hx
  rw[oD.1 hx];exact hv
theorem sW{P:List Int->Prop}:∀(l:List (List Int)),(∀u∈l,P u)->KB P l.flatten
 |[],_=>.nil
 |u::l,h=>.cons (h u (by simp)) (sW l (fun x hx=>h x (by simp[hx])))
theorem tS{ms:List Int}:∀(l:List Nd),(∀t∈l,Says ms (bG ms t) (Lg t))->∀(a0:Tb) (L:List Int->Prop),Says ms a0 L->Says ms (dk ms 4 l a0) (fun w=>∃u v,w=u++v/\L u/\L5 l v)
 |[],_,a0,L,h=>by
  unfold dk;refine h.congr fun w=>?_
  constructor
  ·intro hw;exact⟨w,[],by simp,hw,by unfold L5;rfl⟩
  rintro⟨u,v,rfl,hu,hv⟩;unfold L5 at hv;subst hv
  rwa[ri]
 |t::r,hl,a0,L,h=>by
  unfold dk;have h1:Says ms (stepT (ms.length+1) 4 a0 (bG ms t)) (fun w=>∃u v,w=u++v/\L u/\Lg t v):=xR h (hl t (by simp));refine(tS r (fun x hx=>hl x (by simp[hx])) _ _ h1).congr fun w=>?_
  constructor
  ·rintro⟨_,v,rfl,⟨a,b,rfl,ha,hb⟩,hv⟩;exact⟨a,b++v,by rw[sN],ha,by unfold L5;exact⟨b,v,rfl,hb,hv⟩⟩
  rintro⟨a,v,rfl,ha,hv⟩;unfold L5 at hv;obtain⟨b,v',rfl,hb,a1⟩:=hv;exact⟨a++b,v',by rw[sN],⟨a,b,rfl,ha,hb⟩,a1⟩
theorem oh{ms:List Int}{k:Int}(h4:k≠4)(h6:¬(k=6\/k=7)):∀(l:List Nd),(∀t∈l,Says ms (bG ms t) (Lg t))->∀(a0:Tb) (L:List Int->Prop),Says ms a0 L->Says ms (dk ms k l a0) (fun w=>L w\/L1 l w)
 |[],_,a0,L,h=>by
  unfold dk;refine h.congr fun w=>⟨.inl,fun hw=>hw.elim id fun hw=>?_⟩
  unfold L1 at hw;exact hw.elim
 |t::r,hl,a0,L,h=>by
  unfold dk;have h1:Says ms (stepT (ms.length+1) k a0 (bG ms t)) (fun w=>L w\/Lg t w):=by
   unfold stepT;rw[if_neg h4,if_neg h6];exact qX h (hl t (by simp))
  refine(oh h4 h6 r (fun x hx=>hl x (by simp[hx])) _ _ h1).congr fun w=>?_
  rw[L1];exact or_assoc
theorem tf{ms:List Int}{t:Tb}{L:List Int->Prop}(h:Says ms t L):Says ms (DM (ms.length+1) t (ms.length+1)) (fun w=>∃u v,w=u++v/\L u/\KB L v):=fun i j hi hj=>by
 rw[xS h _ i j hi hj];refine and_congr_right fun a0=>?_
 have hl:=nM ms a0 hj
 constructor
 ·rintro⟨s,_,hw⟩;obtain⟨l,h1,h2,h3⟩:=xV s _ hw
  match l,h1,h3 with
  |u::r,_,h3=>exact⟨u,r.flatten,h2,h3 u (by simp),sW r (fun x hx=>h3 x (by simp[hx]))⟩
 rintro⟨u,v,e,hu,hv⟩;have a1:v.length<=ms.length:=by have:=congrArg y4 e;rw[qy]at this;omega
 rw[e]
 rcases CT hv with rfl|⟨s,hs,l,h1,rfl,h3⟩
 ·exact⟨0,tq _,by rw[ri];exact hu⟩
 refine⟨s+1,zo,?_⟩
 have:=D2 (s+1) (u::l) (by simp[h1]) (fun x hx=>by
  rcases pN.1 hx with rfl|hx
  ·exact hu
  exact h3 x hx)
 exact this
theorem lg4(c:Int)(l:List Nd)(w:List Int):Lg (.mk 4 c l) w↔L5 l w:=by rw[Lg];simp
theorem lg5(c:Int)(l:List Nd)(w:List Int):Lg (.mk 5 c l) w↔L1 l w:=by rw[Lg];simp
theorem lg6(c:Int)(t:Nd)(w:List Int):Lg (.mk 6 c [t]) w↔KB (Lg t) w:=by
 have eH:LgH [t]=Lg t:=by rw[LgH]
 rw[Lg,<-eH];simp
theorem lg7(c:Int)(t:Nd)(w:List Int):Lg (.mk 7 c [t]) w↔∃u v,w=u++v/\Lg t u/\KB (Lg t) v:=by
 have eH:LgH [t]=Lg t:=by rw[LgH]
 rw[Lg,<-eH];simp
theorem lg8(c:Int)(t:Nd)(w:List Int):Lg (.mk 8 c [t]) w↔w=[]\/Lg t w:=by
 have eH:LgH [t]=Lg t:=by rw[LgH]
 rw[Lg,<-eH];simp
mutual
theorem qk(ms:List Int):∀(t:Nd) (wi:Bool),bH t wi=true->Says ms (bG ms t) (Lg t)
 |.mk k c l,wi,h=>by
  unfold bH at h;rw[th]at h;have hall:=tT ms l h.2;have hb:=fun hk:4<=k=>AO (ms:=ms) (c:=c) hk
  unfold bG
  rcases dm h.1 with⟨rfl,hn,h1,h2⟩|⟨rfl,hn,h1⟩|⟨rfl,hn,h1,h2⟩|⟨rfl,hn,h1⟩|⟨rfl,hn,h1⟩|⟨rfl,hn,h1⟩|⟨rfl,hn,h1⟩|⟨rfl,hn,h1⟩|⟨rfl,hn,h1⟩|⟨rfl,hn,h1,h2⟩
  ·obtain rfl:=pZ hn;unfold dk;exact(ky (.inl ⟨rfl,h1,h2⟩)).congr fun w=>by rw[Lg];simp
  ·obtain rfl:=pZ hn;unfold dk;exact(ky (.inr (.inl rfl))).congr fun w=>by rw[Lg];simp
  ·obtain rfl:=pZ hn;unfold dk;exact(ky (.inr (.inr (.inl rfl)))).congr fun w=>by rw[Lg];simp
  ·obtain rfl:=pZ hn;unfold dk;exact(ky (.inr (.inr (.inr rfl)))).congr fun w=>by rw[Lg];simp
  ·refine(tS l hall _ _ (hb zd)).congr fun w=>?_
   rw[lg4]
   constructor
   ·rintro⟨u,v,rfl,⟨_,rfl⟩,hv⟩;exact hv
   intro hw;exact⟨[],w,rfl,⟨.inl rfl,rfl⟩,hw⟩
  ·refine(oh zd zd l hall _ _ (hb zd)).congr fun w=>?_
   rw[lg5];exact⟨fun hw=>hw.elim (fun hw=>absurd hw.1 zd) id,.inr⟩
  ·match l,hn,hall with
   |[t],_,hall=>
    have ht:=hall t (by simp);have h3:Says ms (dk ms 6 [t] (fc ms 6 c)) _:=qX (hb zd) (tf ht);refine h3.congr fun w=>?_
    rw[lg6]
    constructor
    ·rintro(⟨_,rfl⟩|⟨u,v,rfl,hu,hv⟩)
     ·exact .nil
     exact .cons hu hv
    intro hw
    cases hw with
    |nil=>exact .inl ⟨zd,rfl⟩
    |cons hu hv=>exact .inr ⟨_,_,rfl,hu,hv⟩
  ·match l,hn,hall with
   |[t],_,hall=>
    have ht:=hall t (by simp);have h3:Says ms (dk ms 7 [t] (fc ms 7 c)) _:=qX (hb zd) (tf ht);refine h3.congr fun w=>?_
    rw[lg7]
    constructor
    ·rintro(⟨h,_⟩|hw)
     ·exact absurd h zd
     exact hw
    exact .inr
  ·match l,hn,hall with
   |[t],_,hall=>
    refine(oh zd zd [t] hall _ _ (hb zd)).congr fun w=>?_
    rw[lg8]
    constructor
    ·rintro(⟨_,hw⟩|hw)
     ·exact .inl hw
     rw[L1,L1]at hw;exact .inr (hw.elim id False.elim)
    rintro(hw|hw)
    ·exact .inl ⟨zd,hw⟩
    exact .inr (by rw[L1];exact .inl hw)
  obtain rfl:=pZ hn;unfold dk;refine(hb zd).congr fun w=>?_
  rw[Lg];simp
theorem tT(ms:List Int):∀(l:List Nd),eJ l=true->∀t∈l,Says ms (bG ms t) (Lg t)
 |[],_,t,ht=>by cases ht
 |a::r,h,t,ht=>by
  unfold eJ at h;rw[th]at h;have h1:=qk ms a true h.1;have h2:=tT ms r h.2
  rcases pN.1 ht with e|ht
  ·rw[e];exact h1
  exact h2 t ht
end
theorem og(ms:List Int){t:Nd}(h:bj t=true):Says ms (bG ms t) (Lg t):=by
 unfold bj at h;rw[th]at h;exact qk ms t false h.2
section
variable{α:Type}
def uU(n:Nat)(p q:Nat->α)(j:Nat):List α:=(J6 n).map fun t=>if t<j then p t else q t
theorem tI(n:Nat)(p q:Nat->α){j:Nat}(h:p j=q j):uU n p q j=uU n p q (j+1):=by
 unfold uU;refine List.map_congr_left fun t _=>?_
 by_cases e:t=j
 ·subst e;rw[if_neg zo,if_pos zo,h]
 by_cases e2:t<j
 ·rw[if_pos e2,if_pos zo]
 rw[if_neg e2,if_neg zo]
end
def jq(li lk ids:List Int):Nat->List Int
 |0=>[36]
 |k+1=>if gL li lk ids k=true then jq li lk ids k else jq li lk ids k++[((aJ (nth ids k):Nat):Int)]
theorem qP(li lk a0:List Int):∀k,(jq li lk a0 k).length<=k+1/\1<=(jq li lk a0 k).length
 |0=>⟨vg _,vg _⟩
 |k+1=>by
  obtain⟨h1,h2⟩:=qP li lk a0 k;unfold jq
  split
  ·exact⟨zo,h2⟩
  rw[qy,pc];exact⟨zo,zo⟩
def atN(li lk a0:List Int)(i:Nat):Nat:=if gL li lk a0 i=true then 0 else(jq li lk a0 i).length
def lj(f:Tb)(a:Nat):Nat->Bool
 |0=>false
 |k+1=>lj f a k||f k a
theorem oR(f:Tb)(a:Nat):∀k,lj f a k=true↔∃m,m<k/\f m a=true
 |0=>by simp[lj]
 |k+1=>by
  unfold lj;rw[y1,oR f a k]
  constructor
  ·rintro(⟨m,h1,h2⟩|h)
   ·exact⟨m,zo,h2⟩
   exact⟨k,zo,h⟩
  rintro⟨m,h1,h2⟩
  by_cases e:m=k
  ·subst e;exact .inr h2
  exact .inl ⟨m,zo,h2⟩
def gE(f:Tb)(a:Nat):Nat->Bool
 |0=>false
 |k+1=>gE f a k||f a (a+k)
theorem mD(f:Tb)(a:Nat):∀k,gE f a k=true↔∃m,m<k/\f a (a+m)=true
 |0=>by simp[gE]
 |k+1=>by
  unfold gE;rw[y1,mD f a k]
  constructor
  ·rintro(⟨m,h1,h2⟩|h)
   ·exact⟨m,zo,h2⟩
   exact⟨k,zo,h⟩
  rintro⟨m,h1,h2⟩
  by_cases e:m=k
  ·subst e;exact .inr h2
  exact .inl ⟨m,zo,h2⟩
def Cf(ms:List Int)(x:R3)(a:Nat):Bool:=lj (bG ms x.1) a (a+1)&&gE (bG ms x.2.1) a (ms.length+1-a)
def oC(ms:List Int)(a:Nat):List R3->Nat->Int
 |[],_=>-1
 |x::l,r=>if Cf ms x a=true then(r:Int)else oC ms a l (r+1)
theorem gC(ms:List Int)(a:Nat):∀(l:List R3) (r:Nat),(oC ms a l r = -1/\∀i,i<l.length->Cf ms (nth l i) a=false)\/∃i,i<l.length/\oC ms a l r=((r+i:Nat):Int)/\Cf ms (nth l i) a=true/\∀j,j<i->Cf ms (nth l j) a=false
 |[],r=>.inl ⟨rfl,fun i hi=>absurd hi (y3 i)⟩
 |x::l,r=>by
  unfold oC
  by_cases hx:Cf ms x a=true
  ·rw[if_pos hx];exact .inr ⟨0,Nat.succ_pos _,rfl,by rw[ar];exact hx,fun j hj=>absurd hj (y3 j)⟩
  rw[if_neg hx];have a0:Cf ms x a=false:=by simpa using hx
  rcases gC ms a l (r+1)with⟨h1,h2⟩|⟨i,h1,h2,h3,h4⟩
  ·refine .inl ⟨h1,fun i hi=>?_⟩
   cases i with
   |zero=>rw[ar];exact a0
   |succ i=>rw[bd];exact h2 i (by simpa using hi)
  refine .inr ⟨i+1,by simpa using h1,by rw[h2];congr 1;omega,by rw[bd];exact h3,fun j hj=>?_⟩
  cases j with
  |zero=>rw[ar];exact a0
  |succ j=>rw[bd];exact h4 j zo
def bu(li lk a0:List Int)(ts:List R3)(r i:Nat):Int:=if gL li lk a0 i=true then -2 else oC (jq li lk a0 a0.length) (atN li lk a0 i) (ts.drop r) r
def dM(li lk a0:List Int)(ts:List R3)(i:Nat):Bool:=bu li lk a0 ts 0 i == -1||(decide (0<=bu li lk a0 ts 0 i)&&(nth ts (bu li lk a0 ts 0 i).toNat).2.2)
def jT(li lk a0:List Int)(ts:List R3):List Bool:=true::(J6 (a0.length-1)).map (fun i=>dM li lk a0 ts (i+1))++if 0<a0.length then [true]else []
theorem xo{ms:List Int}{t:Nd}(h:bj t=true){a:Nat}(ha:a<=ms.length):lj (bG ms t) a (a+1)=true↔∃u v,ms.take a=u++v/\Lg t v:=by
 rw[oR];have hS:=og ms h
 constructor
 ·rintro⟨m,h1,h2⟩;obtain⟨_,h3⟩:=(hS m a zo ha).1 h2;refine⟨ms.take m,seg ms m a,?_,h3⟩;have:=vm ms (tq m) (show m<=a by omega);simpa[seg]using this
 rintro⟨u,v,e,h3⟩;have hl:=congrArg y4 e;rw[List.length_take,qy]at hl;have e0:seg ms 0 a=u++v:=by simpa[seg]using e
 obtain⟨s1,s2,s3⟩:=te (tq a) ha e0;rw[FJ]at s1 s3;exact⟨u.length,zo,(hS _ a zo ha).2 ⟨s1,s3▸h3⟩⟩
theorem uH{ms:List Int}{t:Nd}(h:bj t=true){a:Nat}(ha:a<=ms.length):gE (bG ms t) a (ms.length+1-a)=true↔∃u v,ms.drop a=u++v/\Lg t u:=by
 rw[mD];have hS:=og ms h
 constructor
 ·rintro⟨m,h1,h2⟩;obtain⟨_,h3⟩:=(hS a (a+m) ha zo).1 h2;refine⟨seg ms a (a+m),ms.drop (a+m),?_,h3⟩;unfold seg;rw[show a+m-a=m from by omega,<-Ka,CR]
 rintro⟨u,v,e,h3⟩;have hl:=congrArg y4 e;rw[List.length_drop,qy]at hl;refine⟨u.length,zo,(hS a _ ha zo).2 ⟨zo,?_⟩⟩;unfold seg;rw[show a+u.length-a=u.length from by omega,e,I4]
 ·exact h3
 rfl
theorem uq{ms:List Int}{ts:List R3}(hr:∀t∈ts,bj t.1=true/\bj t.2.1=true){a:Nat}(ha:a<=ms.length){a0 after:List Nat}(hb:ints a0=ms.take a)(hf:ints after=ms.drop a):FirstR ts a0 after (oC ms a ts 0):=by
 have a1:∀i,jY ts a0 after i↔i<ts.length/\Cf ms (nth ts i) a=true:=fun i=>by
  unfold jY;refine and_congr_right fun hi=>?_
  obtain⟨r1,r2⟩:=hr _ (aO hi);unfold Cf;rw[th,xo r1 ha,uH r2 ha,hb,hf,dI hi,dI hi]
 rcases gC ms a ts 0 with⟨h1,h2⟩|⟨i,h1,h2,h3,h4⟩
 ·refine .inl ⟨h1,fun i hi=>?_⟩;obtain⟨k1,k2⟩:=(a1 i).1 hi;rw[h2 i k1]at k2;cases k2
 refine .inr ⟨i,by rw[h2,FJ],(a1 i).2 ⟨h1,h3⟩,fun j hj hA=>?_⟩;have:=((a1 j).1 hA).2;rw[h4 j hj]at this;cases this
theorem xP{l:List Int}(h:∀c∈l,0<=c/\c<=35)(c:Nat):(cY l).testBit c=decide ((c:Int)∈l):=by
 have a0:∀(l:List Int),(∀c∈l,0<=c/\c<=35)->∀b:Nat,(l.foldl (fun b c=>b ||| 2^c.toNat) b).testBit c=(b.testBit c||decide ((c:Int)∈l)):=by
  intro l
  induction l with
  |nil=>intro _ b;simp
  |cons x r ih=>
   intro hl b;have hx:=hl x (by simp);rw[K4,ih (fun y hy=>hl y (by simp[hy])),Jn,JJ,Bool.or_assoc];congr 1;rw[Bool.eq_iff_iff,y1,decide_eq_true_eq,decide_eq_true_eq,decide_eq_true_eq,pN];refine or_congr_left ?_;omega
 have:=a0 l h 0;simpa[cY]using this
theorem np(t:TabM)(li lk a0:List Int)(a2:∀c:Nat,t.ig.testBit c=decide ((c:Int)∈li))(a1:∀c:Nat,t.kp.testBit c=decide ((c:Int)∈lk)):∀(r:List Int) (k:Nat),r=a0.drop (k+1)->∀j,j<r.length->nth (pJ t (aJ (nth a0 k),gL li lk a0 k) r) j=(aJ (nth a0 (k+1+j)),gL li lk a0 (k+1+j))
 |[],_,_,j,hj=>absurd hj (y3 j)
 |c::r,k,e,j,hj=>by
  have hk:k+1<a0.length:=by
   refine Gv fun hn=>?_
   rw[List.drop_of_length_le zo]at e;cases e
  rw[AW hk,<-aB hk]at e;obtain⟨rfl,e2⟩:=KU e;have hh:(t.ig.testBit (aJ (nth a0 (k+1)))&&(gL li lk a0 k || !(t.kp.testBit (aJ (nth a0 k)))))=gL li lk a0 (k+1):=by rw[a2,a1,gL]
  unfold pJ;dsimp only;rw[hh]
  cases j with
  |zero=>rw[ar,Kr]
  |succ j=>
   rw[bd,np t li lk a0 a2 a1 r (k+1) e2 j (by simpa using hj),show k+1+(j+1)=k+1+1+j from by omega]
theorem uZ(t:TabM)(li lk:List Int)(c:Int)(r:List Int)(a1:∀c:Nat,t.ig.testBit c=decide ((c:Int)∈li))(a0:∀c:Nat,t.kp.testBit c=decide ((c:Int)∈lk)):∀n,n<=r.length->jq li lk (c::r) (n+1)=ints ([36,aJ c]++ff ((pJ t (aJ c,false) r).take n))
 |0,_=>by
  unfold jq jq;rw[K7,if_neg (by rw[gL];simp),ar];rfl
 |n+1,hn=>by
  have hL:=kN t r (aJ c,false);have hx:=np t li lk (c::r) a1 a0 r 0 rfl n hn;rw[ar,show gL li lk (c::r) 0=false from rfl,show 0+1+n=n+1 from by omega]at hx;rw[jq,uZ t li lk c r a1 a0 n zo,aR zo,hx,mX,<-sN];generalize [36,aJ c]++ff ((pJ t (aJ c,false) r).take n)=X
  cases gL li lk (c::r) (n+1)with
  |true=>
   show ints X=ints (X++[]);rw[ri]
  |false=>
   show ints X++[((aJ (nth (c::r) (n+1)):Nat):Int)]=ints (X++[aJ (nth (c::r) (n+1))]);unfold ints;rw[ze];rfl
section
variable{li lk:List Int}{ts:List R3}{a b:List (List Nat)×List Nat}{clA clB:Nat→Nat}
theorem Made.ig(h:Made li lk ts a b clA clB)(c:Nat):(bW li lk ts a b clA clB).ig.testBit c=decide ((c:Int)∈li):=xP (eo h.rt).2.1 c
theorem Made.kp(h:Made li lk ts a b clA clB)(c:Nat):(bW li lk ts a b clA clB).kp.testBit c=decide ((c:Int)∈lk):=xP (eo h.rt).2.2.1 c
theorem Made.row(h:Made li lk ts a b clA clB)(c:Int):stL (bW li lk ts a b clA clB) (stL (bW li lk ts a b clA clB) 0 36) (aJ c)=jj (aU clA a.1 a.2).1 [36,aJ c] 0:=by
 have h0:=(h.left [] (fun m hm=>by cases hm)).1;have h1:=(h.left [36] (fun m hm=>by rw[oD.1 hm];decide)).1;rw[h.inv.left 0 36 h0 zd];have hc:=ew c;exact h.inv.left _ _ h1 zo
theorem ml(hr:∀t∈ts,bj t.1=true/\bj t.2.1=true)(t:TabM)(c:Int)(r:List Int)(a1:∀c:Nat,t.ig.testBit c=decide ((c:Int)∈li))(a0:∀c:Nat,t.kp.testBit c=decide ((c:Int)∈lk)){n:Nat}(hn:n<r.length)(hh:gL li lk (c::r) (n+1)=false):
  FirstR ts ([36,aJ c]++ff ((pJ t (aJ c,false) r).take n)) (ff ((pJ t (aJ c,false) r).drop n)) (bu li lk (c::r) ts 0 (n+1)):=by
 have hL:=kN t r (aJ c,false);have hw:=uZ t li lk c r a1 a0 n zo;have hN:=uZ t li lk c r a1 a0 r.length (vg _);rw[Jw zo]at hN;have a2:ff (pJ t (aJ c,false) r)=ff ((pJ t (aJ c,false) r).take n)++ff ((pJ t (aJ c,false) r).drop n):=by rw[<-mX,CR]
 have hA:atN li lk (c::r) (n+1)=(jq li lk (c::r) (n+1)).length:=by unfold atN;rw[hh];rfl
 have e0:jq li lk (c::r) (c::r).length=jq li lk (c::r) (n+1)++ints (ff ((pJ t (aJ c,false) r).drop n)):=by
  rw[hw,su,hN,a2,<-sN];unfold ints;rw[ze]
 unfold bu;rw[hh,if_neg zd,K9,hA,e0];refine uq hr (by rw[qy];omega) ?_ ?_
 ·rw[I4 rfl,hw]
 rw[List.drop_left' rfl]
theorem zU(li lk a0:List Int)(ts:List R3)(i:Nat):dM li lk a0 ts i=if gL li lk a0 i=true then false else brk ts (bu li lk a0 ts 0 i):=by
 unfold dM brk
 split
 ·rename_i hh;have:bu li lk a0 ts 0 i = -2:=by unfold bu;rw[if_pos hh]
  rw[this];rfl
 rename_i hh;have hk : -1<=bu li lk a0 ts 0 i:=by
  unfold bu;rw[if_neg hh]
  rcases gC (jq li lk a0 a0.length) (atN li lk a0 i) (ts.drop 0) 0 with⟨h1,_⟩|⟨_,_,h1,_⟩<;>rw[h1]<;>omega
 generalize bu li lk a0 ts 0 i=k at *
 by_cases e:k = -1
 ·subst e;rfl
 rw[decide_eq_false (show¬k<0 by omega),decide_eq_true (show 0<=k by omega),Db,Jr,show(k == -1)=false from by simpa using e,Db]
theorem Made.rules2(h:Made li lk ts a b clA clB):∀t∈ts,bj t.1=true/\bj t.2.1=true:=fun t ht=>⟨(h.rules t ht).1,(h.rules t ht).2.1⟩
theorem Made.breaks(h:Made li lk ts a b clA clB)(a0:List Int)(hn:a0.length<=100000):oN (bW li lk ts a b clA clB) a0=jT li lk a0 ts:=by
 cases a0 with
 |nil=>rfl
 |cons c r=>
  obtain⟨p1,p2⟩:=mu (bW li lk ts a b clA clB) c r;unfold oN jT;rw[p1,p2,h.row,su,JO];congr 2;have hL:=kN (bW li lk ts a b clA clB) r (aJ c,false);have a1:∀m∈[36,aJ c],m<37:=fun m hm=>by
   have:=ew c;simp only[pN,rj,or_false]at hm;omega
  refine List.ext_getElem (by rw[lX,hL];simp) fun i h1 h2=>?_
  have hi:i<r.length:=by simpa using h2
  rw[<-aB h1,JT,JK];obtain⟨k,k1,k2⟩:=h.closeL (pJ (bW li lk ts a b clA clB) (aJ c,false) r) [36,aJ c] a1 (xa _ _ _) (by rw[hL];simp at hn;omega) i zo;have hx:=np (bW li lk ts a b clA clB) li lk (c::r) h.ig h.kp r 0 rfl i hi;rw[ar,show gL li lk (c::r) 0=false from rfl,show 0+1+i=i+1 from by omega]at hx;rw[k2,hx,zU]
  cases hh:gL li lk (c::r) (i+1)with
  |true=>rfl
  |false=>
   have:=ml h.rules2 _ c r h.ig h.kp hi hh;rw[this.uniq k1];rfl
end
section
abbrev mv(m:M3):ox:=.agg (lz m).toArray
theorem kM{F:KG}(hF:∀(args:Array ox) (w:ps),(callFunc F args).run uV w=.ok (.enter F args) w)(cs:Array ox)(l:List (M3))(sv:ox)(q:Nat->Bool)(w:ps)(h:Sl lz 4 w sv l) 
  (hq:∀i,i<l.length->∀w',Gc w w'->Gh uV F ([mv (nth l i)]++cs.toList) w' fun v w''=>v=.bool (q i)/\Gc w' w'') :
  Gh uV 191 [sv,.func (.func F) #[] cs] w fun v w'=>v=nI (dQ q l.length)/\Gc w w':=by
 have hl:=h.len_le;refine rf func191 ntmps191 rfl rfl ?_;refine zh ?_;refine zlp (fun x:Nat×ps=>[(0,sv),(1,.func (.func F) #[] cs),(7,nI l.length),(8,nI x.1)]) (fun x=>x.2) (fun x=>x.1<=l.length/\Gc w x.2/\∀i,i<x.1->q i=false) (fun x=>l.length-x.1) (0,w) (⟨tq _,qN _,fun i hi=>absurd hi (y3 i)⟩) ?_;rintro⟨k,w1⟩ ⟨hk,hE,a1⟩;dsimp only at hk hE a1 ⊢;have h1:=h.ext hE;refine zh ?_;refine zC ?_ ?_
 ·intro a0;replace a0:k<l.length:=dT a0;refine zh ?_;refine zv (ai (us:=lz (nth l k)) (fun j u hu=>h1.cell a0 hu) (isAgg243 _) (sizeOf243 _) rfl) ?_;refine dN rfl hF rfl (hq k a0 w1 hE) rfl ?_;rintro v w2 ⟨rfl,a3⟩;refine zh ?_;refine zC ?_ ?_
  ·intro hy;refine zh ?_;refine ae rfl rfl (⟨by rw[cG a0 hy a1],hE.trans a3⟩)
  intro hy;refine zh ?_;refine zxd (k+1,w2) (⟨a0,hE.trans a3,fun i hi=>(Js.1 hi).elim (a1 i) (fun e=>by rw[e];exact hy)⟩)
 intro a2;replace a2:l.length<=k:=dF a2;refine zh ?_;refine ae rfl rfl (⟨by rw[cE fun i hi=>a1 i zo],hE⟩)
theorem iB{F:KG}(hF:∀(args:Array ox) (w:ps),(callFunc F args).run uV w=.ok (.enter F args) w)(cs:Array ox)(l:List (M3))(sv:ox)(q:Nat->Bool)(w:ps)(h:Sl lz 4 w sv l) 
  (hq:∀i,i<l.length->∀w',Gc w w'->Gh uV F ([mv (nth l i)]++cs.toList) w' fun v w''=>v=.bool (q i)/\Gc w' w'') :
  Gh uV 176 [sv,.func (.func F) #[] cs] w fun v w'=>v=.bool (anyN q l.length)/\Gc w w':=by
 refine rf func176 ntmps176 rfl rfl ?_;refine zh ?_
 refine zc call191 (kM hF cs l sv q w h hq) ?_;rintro v w1 ⟨rfl,hE⟩;refine zh ?_
 refine ae rfl rfl (⟨by rw[firstN_any],hE⟩)
theorem yT(m:M3)(s:List UInt8)(sb:Nat)(w:ps)(h:w.cell? ⟨sb,0,none⟩=some (.string (bs s))):Gh uV 177 [mv m,nP sb] w fun v w'=>v=.bool (m.1==s)/\Gc w w':=by
 refine rf func177 ntmps177 rfl rfl ?_;refine zh ?_
 refine aE (au w) 1 zo rfl rfl ?_;intro xb w1 O1 a1 a2 a3 a0;refine zh ?_
 refine zv (RV.ld (a1.cell 0 rfl) rfl) ?_;refine zv (RV.ld (a0.cell h) rfl) ?_
 refine zvH (cX rfl rfl) ?_;refine ae rfl rfl (⟨rfl,a0⟩)
theorem oF(l:List (List UInt8))(s:List UInt8)(sv:ox)(w:ps)(h:Sl encS 1 w sv l):Gh uV 175 [sv,.string (bs s)] w fun v w'=>v=.bool (l.contains s)/\w'=w:=by
 refine rf func175 ntmps175 rfl rfl ?_;refine zh ?_
 refine zc call183 (my l s sv w h) ?_;rintro v w9 ⟨rfl,a0⟩;rw[a0];clear a0 w9;refine zh ?_
 refine ae rfl rfl (⟨congrArg Kp ?_,rfl⟩);unfold GV
 cases hf:l.findIdx? (· == s)with
 |none=>
  have h1:=List.findIdx?_eq_none_iff.1 hf;rw[decide_eq_false zd]
  symm
  rw[Bool.eq_false_iff];intro hc;have:=h1 s (JA.1 hc);simp at this
 |some k=>
  obtain⟨hk,h1,_⟩:=DN.1 hf;show decide ((0:Int)<=((k:Nat):Int))=_;rw[decide_eq_true zo]
  symm
  rw[JA,<-eq_of_beq h1];exact List.getElem_mem hk
def wordsL:List (List UInt8):=[[108,101,116],[105,103,110,111,114,101],[107,101,101,112],[97,110,121]]
def fg(kn:Kn)(s:List UInt8):Int:=if((A7 s).isSome||wordsL.contains s)=true then 5 else if kn.any (fun m=>m.1==s)=true then 11 else 0
variable{kn:Kn}
theorem Az(O:Nat->Nat)(w:ps)(j jm rb:Nat)(s:LS)(q:List UInt8)(hk:Mac O w jm s.mc kn)(h:Kl O w j rb s):
  Gh uV 157 [nP rb,.string (bs q)] w fun v w'=>v=nI (fg kn q)/\Gc w w':=by
 obtain⟨ms,a2,b1,b2⟩:=hk;have b0:=a2.sl;refine rf func157 ntmps157 rfl rfl ?_;refine zg ?_;refine aE (au w) 1 zo rfl rfl ?_;intro sb w1 O1 a9 b4 b5 b3;have a3:=a9.cell 0 rfl;refine zg ?_;refine zv (RV.ld a3 rfl) ?_;refine zc KN (iW q w1) ?_;rintro v w2 ⟨rfl,a6⟩;have a1:=b3.trans a6;refine zg ?_
 cases hn:(A7 q).isSome with
 |true=>
  have hM:fg kn q=5:=by unfold fg;rw[hn];rfl
  rw[hM];refine ay (d:=14) rfl (b':=true) (rfl) ?_;refine zg ?_;refine zTG rfl rfl ?_;refine ae rfl rfl (⟨rfl,a1⟩)
 |false=>
  refine ay (d:=14) rfl (b':=false) (rfl) ?_;refine zg ?_
  refine gb underlying136 (sizeOf9 _) (zeroValue9 _) encS wordsL rfl rfl rfl rfl zk zd rfl ?_;intro sv w3 a' a5;have a0:=a1.trans a5;refine zg ?_
  refine zvG (RV.ld ((a6.trans a5).cell a3) rfl) ?_;refine zc call175 (oF wordsL q sv w3 a') ?_
  rintro v w9 ⟨rfl,a7⟩;rw[a7];clear a7 w9;refine zg ?_
  cases hw:wordsL.contains q with
  |true=>
   have hM:fg kn q=5:=by unfold fg;rw[hn,hw];rfl
   rw[hM];refine zTG rfl rfl ?_;refine ae rfl rfl (⟨rfl,a0⟩)
  |false=>
   refine aS rfl rfl ?_;have q9:=a0.cell h.q9;refine zg ?_
   refine zv (RV.ld q9 rfl) ?_;refine zv (eA rfl rfl) ?_
   refine zc call176 (iB call177 #[nP sb] ms s.mc (fun i=>(nth ms i).1==q) w3 (b0.ext a0) (fun i hi w' hE=>yT (nth ms i) q sb w' (hE.cell ((a6.trans a5).cell a3)))) ?_;rintro v w4 ⟨rfl,a8⟩;have a4:anyN (fun i=>(nth ms i).1==q) ms.length=kn.any (fun m=>m.1==q):=by
    rw[<-b1,<-iG (l:=kn) (p:=fun m=>m.1==q)];exact Aa fun i hi=>by rw[(b2 i zo).1]
   rw[a4];refine zg ?_
   cases ha:kn.any (fun m=>m.1==q)with
   |true=>
    have hM:fg kn q=11:=by unfold fg;rw[hn,hw,ha];rfl
    rw[hM];refine zTG rfl rfl ?_;refine ae rfl rfl (⟨rfl,a0.trans a8⟩)
   |false=>
    have hM:fg kn q=0:=by unfold fg;rw[hn,hw,ha];rfl
    rw[hM];refine zFG rfl rfl ?_;refine ae rfl rfl (⟨rfl,a0.trans a8⟩)
end
section
variable{kn:Kn}
theorem GP:cV uV 243 #[(0,1),(1,3)]:=⟨_,underlying243,fun w=>by kernel_rfl⟩
inductive ML where
 |ok (m:List UInt8×Nd)
 |bad (p:Nat) (e:Int)
def IH(nm r2:List UInt8):XR->ML
 |.ok t=>.ok (nm,t)
 |.bad p e=>.bad (r2.length-1-p) e
def tQ(kn:Kn)(r:List UInt8):ML:=
 if(aw r).takeWhile aj=[]then .bad (aw r).length 4
 else if fg kn ((aw r).takeWhile aj)≠0 then .bad (aw r).length (fg kn ((aw r).takeWhile aj))
 else if(aw ((aw r).dropWhile aj)).headD 0=61 then IH ((aw r).takeWhile aj) (aw ((aw r).dropWhile aj)) (fz kn (aw ((aw r).dropWhile aj)).tail)
 else .bad (aw ((aw r).dropWhile aj)).length 4
def IZ(O:Nat->Nat)(w:ps)(jm:Nat)(m:Nat)(v:ox)(bad e:Int)(kn:Kn):ML->Prop
 |.ok x=>e=0/\Mac O w jm v (kn++[x])
 |.bad p e'=>e=e'/\e'≠0/\bad=(m:Int)-(p:Int)
def atX:XR->Int
 |.ok _=>0
 |.bad p _=>(p:Int)
def IL:XR->Int
 |.ok _=>0
 |.bad _ e=>e
theorem PostX.shape{O:Nat->Nat}{w:ps}{v:ox}{M:XR}(h:PostX O w v M):∃x:N3,v=.tuple #[nv x,nI (atX M),nI (IL M)]/\x.2.2.oneCell'=true/\∀t,M=.ok t->Nt O w t x:=by
 cases M with
 |ok t=>obtain⟨x,rfl,hn⟩:=h;exact⟨x,rfl,hn.one,fun t e=>by cases e;exact hn⟩
 |bad p e=>obtain⟨rfl,_⟩:=h;exact⟨(0,0,nS),rfl,rfl,fun t e=>by cases e⟩
theorem kT{m:M3}(h:m.2.2.2.oneCell'=true):∀c∈lz m,c.oneCell'=true:=fun c hc=>by
 simp only[lz,pN,rj,or_false]at hc
 rcases hc with rfl|rfl|rfl|rfl
 ·rfl
 ·rfl
 ·rfl
 exact h
theorem yN{O:Nat->Nat}{w:ps}{i:Nat}{v:ox}{ms:List M3}{nm:List UInt8}{x:N3}{t:Nd}(hr:J5 lz 243 4 O w i v (ms++[(nm,x)]))(hl:kn.length=ms.length)(hk:∀q,q<ms.length->(nth kn q).1=(nth ms q).1/\Nt O w (nth kn q).2 (nth ms q).2)(hn:Nt O w t x):Mac O w i v (kn++[(nm,t)]):=by
 refine⟨_,hr,by simp[hl],fun q hq=>?_⟩;simp only[qy,pc]at hq
 by_cases e:q<ms.length
 ·rw[aB (by simp;omega),aB (by simp;omega),Jq zo,Jq e,<-aB zo,<-aB e];exact hk q e
 obtain rfl:q=ms.length:=zo;rw[aB (by simp;omega),aB (by simp),Jo zo,Jo zo];simp[hl];exact hn
theorem Bm(B:Nat)(O:Nat → Nat)(w:ps)(j jm rb:Nat)(s:LS)(m:Nat)(r:List UInt8)(hR:GY B O w)(hj:j ≠ 0)(hjm:jm ≠ 0)(hne:j ≠ jm)(hm:m ≤ s.l.length)(hl:s.l.length ≤ 100000)(hto:s.to = (m:Int))(he:s.e = 0)
  (hr:r <:+ s.l.take m) (hp:s.pos = (m:Int) - (r.length:Int)) (hkl:kn.length ≤ 100000) (hmac:Mac O w jm s.mc kn) (h:Kl O w j rb s) :
  Gh uV 131 [nP rb] w fun _ w' => ∃O' v pos bad e, tJ (fun k => k = j ∨ k = jm) O w O' w' ∧ GY B O' w' ∧ Kl O' w' j rb {s with pos := pos, bad := bad, e := e, mc := v} ∧ IZ O' w' jm m v bad e kn (tQ kn r) := by
 obtain⟨T0, hT00, hT01⟩ := hR.bound
 obtain⟨T, hT0, hjmT, hT⟩:∃T, 0 < T ∧ jm < T ∧ ∀b, O b < T := ⟨T0 + jm + 1, by omega, by omega, fun b => by have := hT01 b; omega⟩
 clear hT00 hT01 T0
 have hjT:j < T := by rw[← h.tag]; exact hT rb
 have hz2:¬(fun q:Nat => q = j ∨ q = jm) 0 := fun e => by rcases e with e | e; exact hj e.symm; exact hjm e.symm
 have hz3:¬(fun q:Nat => q = j ∨ q = jm ∨ T ≤ q) 0 := fun e => by rcases e with e | e | e; exact hj e.symm; exact hjm e.symm; omega
 have hpv:∀ {O':Nat → Nat} {w':ps}, tJ (fun q => q = j ∨ q = jm ∨ T ≤ q) O w O' w' → tJ (fun q => q = j ∨ q = jm) O w O w' := fun hU => hU.fgt (S' := fun q => q = j ∨ q = jm) (fun b hb => by rcases hb with hb | hb | hb; exact JS hb; exact JR hb; have := hT b; omega) hz2
 have hLl:(s.l.take m).length = m := by simp; omega
 refine rf func131 ntmps131 rfl rfl ?_
 refine oz ?_
 refine ow ?_
 refine zv (ln rfl) ?_
 refine zv (aq rfl) ?_
 refine zv (RV.fa rfl) ?_
 refine zc Ki (dX O w j rb s m r hj hm hl hto hr hp h) ?_
 rintro v w1 ⟨rfl, hb1, hU1⟩
 have hs1 := (bn r).trans hr
 have hm1 := hmac.upd hU1 hjm (fun e => hne e.symm)
 have hR1 := hR.upd hU1
 refine ix ?_
 refine az ?_
 refine oz ?_
 refine ow ?_
 refine zv (ln rfl) ?_
 refine zv (aq rfl) ?_
 refine zv (RV.fa rfl) ?_
 refine zv (RV.fa rfl) ?_
 refine zv (RV.ld hb1.q1 rfl) ?_
 refine zv (oU rfl) ?_
 refine ix ?_
 refine az ?_
 refine oz ?_
 refine ow ?_
 refine zv (ln rfl) ?_
 refine zv (aq rfl) ?_
 refine zv (RV.fa rfl) ?_
 refine zc KO (gV O w1 j rb ({s with pos := (m:Int) - ((aw r).length:Int)}:LS) m (aw r) hj hm hl hto hs1 rfl hb1) ?_
 rintro v w2 ⟨rfl, hb2, hU2⟩
 have hs2 := (yY aj).trans hs1
 have hm2 := hm1.upd hU2 hjm (fun e => hne e.symm)
 have hR2 := hR1.upd hU2
 have hUt2 := (hU1.trans hU2).mono (S' := fun q => q = j ∨ q = jm ∨ T ≤ q) (fun _ h => .inl h) hz3
 refine zv (oU rfl) ?_
 refine ix ?_
 refine az ?_
 refine oz ?_
 refine oz ?_
 refine ow ?_
 refine zv (ln rfl) ?_
 refine zv (cX rfl rfl) ?_
 refine ix ?_
 refine az ?_
 by_cases hnm:(aw r).takeWhile aj = []
 ·have hM:tQ kn r = .bad (aw r).length 4 := by unfold tQ; rw[if_pos hnm]
  rw[hM]
  refine aZ rfl ((by rw[hnm]; rfl)) ?_
  refine oz ?_
  refine ow ?_
  refine zv (ln rfl) ?_
  refine zv (aq rfl) ?_
  refine zv (RV.fa rfl) ?_
  refine zv (ln rfl) ?_
  refine zc z1 (bI O w2 j rb ({s with pos := (m:Int) - (((aw r).dropWhile aj).length:Int)}:LS) ((m:Int) - ((aw r).length:Int)) 4 hj he hb2) ?_
  rintro u w3 ⟨hb3, hU3⟩
  refine ix ?_
  refine az ?_
  refine x8 ?_
  refine bT ?_
  exact cA rfl ⟨O, s.mc, _, _, _, hpv (hUt2.trans (hU3.mono (fun _ h => .inl h) hz3)), hR2.upd hU3, hb3, rfl, by decide, rfl⟩
 ·skip
  refine aS rfl ((by simpa using hnm)) ?_
  refine tG ?_
  refine az ?_
  refine oz ?_
  refine oz ?_
  refine ow ?_
  refine zv (ln rfl) ?_
  refine zv (ln rfl) ?_
  refine zc call157 (Az O w2 j jm rb ({s with pos := (m:Int) - (((aw r).dropWhile aj).length:Int)}:LS) ((aw r).takeWhile aj) hm2 hb2) ?_
  rintro v w3 ⟨rfl, hE3⟩
  have hX3:tJ (fun _ => False) O w2 O w3 := aa (fun h => h) O hE3
  have hb3 := hb2.upd hX3 hj (fun h => h)
  have hm3 := hm2.upd hX3 hjm (fun h => h)
  have hR3 := hR2.upd hX3
  have hUt3 := hUt2.trans (hX3.mono (fun _ h => h.elim) hz3)
  refine zv (oU rfl) ?_
  refine ix ?_
  refine az ?_
  refine oz ?_
  refine ow ?_
  refine zv (ln rfl) ?_
  refine zv (JQ rfl rfl) ?_
  refine ix ?_
  refine az ?_
  by_cases htk:fg kn ((aw r).takeWhile aj) = 0
  ·skip
   refine aS rfl ((by rw[htk]; rfl)) ?_
   have hMK:tQ kn r = if(aw ((aw r).dropWhile aj)).headD 0 = 61 then IH ((aw r).takeWhile aj) (aw ((aw r).dropWhile aj)) (fz kn (aw ((aw r).dropWhile aj)).tail)else .bad (aw ((aw r).dropWhile aj)).length 4 := by unfold tQ; rw[if_neg hnm, if_neg (by rw[htk]; simp)]
   generalize (aw r).takeWhile aj = nm at *
   generalize (aw r).dropWhile aj = q at *
   have hs5 := (bn q).trans hs2
   have hbd := hb3.drew
   have hmd := hm3.upd (aa (S := fun _ => False) (fun h => h) O (qN w3).drew) hjm (fun h => h)
   have hRd := hR3.drew
   have hUd := hUt3.drew
   refine tG ?_
   refine az ?_
   refine oz ?_
   refine oz ?_
   refine aI (fun V => V.cell? ⟨rb, 0, none⟩ = some (.string (bs s.l))) 19 rfl (by kernel_rfl) ?_
   refine zrm 0 rfl hbd.q0 rfl ?_
   refine zr 1 rfl hbd.q0 (fun _ => aq rfl) ?_
   refine zrf 2 rfl hbd.q0 rfl ?_
   refine pR 3 (by kernel_rfl) rfl ?_
   refine zc Ki (dX O w3.drew j rb ({s with pos := (m:Int) - (q.length:Int)}:LS) m q hj hm hl hto hs2 rfl hbd) ?_
   rintro v w5 ⟨rfl, hb5, hU5⟩
   have hm5 := hmd.upd hU5 hjm (fun e => hne e.symm)
   have hR5 := hRd.upd hU5
   have hUt5 := hUd.trans (hU5.mono (fun _ h => .inl h) hz3)
   generalize aw q = r2 at *
   have hr2l := hs5.length_le
   rw[hLl]at hr2l
   have hb5':Dc O w5 j rb ({s with pos := (m:Int) - (r2.length:Int)}:LS).cells 170 := hb5
   clear hb5
   have hb5 := hb5'
   refine ix ?_
   refine zaf (hb5.q0) fun zS => ?_
   refine zr 4 rfl zS (fun _ => GZ rfl) ?_
   refine zrm 5 rfl zS rfl ?_
   by_cases hr0:r2.length = 0
   ·have hrn:r2 = [] := pZ hr0
    have hM:tQ kn r = .bad r2.length 4 := by rw[hMK, if_neg (by rw[hrn]; decide)]
    rw[hM]
    refine bL (d := 44) rfl (b' := true) ((by rw[decide_eq_false (by omega)]; rfl)) ?_
    have hbe := hb5.drew
    refine zin (hb5.q0) fun zS => ?_
    refine zte 6 rfl rfl zS ?_
    refine zte 7 rfl rfl zS ?_
    refine zte 8 rfl rfl zS ?_
    refine zte 9 rfl rfl zS ?_
    refine zte 10 rfl rfl zS ?_
    refine zte 11 rfl rfl zS ?_
    refine zte 12 rfl rfl zS ?_
    refine zte 13 rfl rfl zS ?_
    refine zte 14 rfl rfl zS ?_
    refine zte 15 rfl rfl zS ?_
    refine zte 16 rfl rfl zS ?_
    refine zte 17 rfl rfl zS ?_
    refine zr 18 rfl zS (fun _ => aQ rfl rfl) ?_
    refine ug (by kernel_rfl) ?_
    refine az ?_
    refine aZ rfl rfl ?_
    refine oz ?_
    refine C9 8 rfl rfl (by kernel_rfl) (by kernel_rfl) ?_
    refine zw (ln rfl) ?_
    refine zw (aq rfl) ?_
    refine zw (RV.fa rfl) ?_
    refine zw (ln rfl) ?_
    refine zw (aq rfl) ?_
    refine zw (RV.fa rfl) ?_
    refine zw (RV.fa rfl) ?_
    refine zw (RV.ld hbe.q1 rfl) ?_
    refine Jp ?_
    refine zc z1 (bI O w5.drew j rb ({s with pos := (m:Int) - (r2.length:Int)}:LS) ((m:Int) - (r2.length:Int)) 4 hj he hbe) ?_
    rintro u w6 ⟨hb6, hU6⟩
    refine ix ?_
    refine az ?_
    refine x8 ?_
    refine bT ?_
    exact cA rfl ⟨O, s.mc, _, _, _, hpv ((hUt5.drew).trans (hU6.mono (fun _ h => .inl h) hz3)), hR5.drew.upd hU6, hb6, rfl, by decide, rfl⟩
   ·have hrn:r2 ≠ [] := fun e => hr0 (by rw[e]; rfl)
    have hgh := mY (yp hs5 hrn)
    rw[hLl]at hgh
    refine bL (d := 44) rfl (b' := false) ((by rw[decide_eq_true (by omega)]; rfl)) ?_
    refine zin (hb5.q0) fun zS => ?_
    refine zro 6 rfl zS (fun _ => ln rfl) ?_
    refine zro 7 rfl zS (fun _ => aq rfl) ?_
    refine zro 8 rfl zS (fun _ => RV.fa rfl) ?_
    refine zro 9 rfl zS (fun _ => RV.fa rfl) ?_
    refine zto 10 rfl zS (fun w1 hw1 => RV.ld hw1 rfl) ?_
    refine zro 11 rfl zS (fun _ => ln rfl) ?_
    refine zro 12 rfl zS (fun _ => aq rfl) ?_
    refine zro 13 rfl zS (fun _ => RV.fa rfl) ?_
    refine zro 14 rfl zS (fun _ => RV.fa rfl) ?_
    refine pR 15 (by kernel_rfl) rfl ?_
    refine Cl rfl ?_
    refine zv (RV.ld hb5.q1 rfl) ?_
    refine ix ?_
    refine zaf (hb5.q0) fun zS => ?_
    refine zro 16 rfl zS (fun _ => bt (c := r2.headD 0) KZ rfl rfl (m - r2.length) (by dsimp only; omega) hgh) ?_
    refine zro 17 rfl zS (fun _ => JQ rfl rfl) ?_
    refine zr 18 rfl zS (fun _ => aW rfl rfl) ?_
    refine ug (by kernel_rfl) ?_
    refine az ?_
    by_cases hc:r2.headD 0 = 61
    ·have hMX:tQ kn r = IH nm r2 (fz kn r2.tail) := by rw[hMK, if_pos hc]
     obtain⟨k1, k2⟩ := cm (r := r2) (by rw[hc]; decide)
     have hts := k1.trans hs5
     refine aS rfl ((by rw[hc]; rfl)) ?_
     have hbe := hb5.drew
     have hme := hm5.upd (aa (S := fun _ => False) (fun h => h) O (qN w5).drew) hjm (fun h => h)
     have hRe := hR5.drew
     have hUe := hUt5.drew
     have hseg:(s.l.take m).drop (m - r2.tail.length) = r2.tail := by have := DY hts; rwa[hLl]at this
     have hgX := yw (kn := kn) r2.tail
     generalize hMd:fz kn r2.tail = M at *
     refine tG ?_
     refine az ?_
     refine oz ?_
     refine iK (fun z:(Nat → Nat)×World×Nat×N3 => [(0, nP rb), (3, .string (bs nm)), (5, .pointer (some ⟨z.2.2.1, 0, none⟩)), (6, nI (atX M)), (7, nI (IL M))]) (fun z:(Nat → Nat)×World×Nat×N3 => z.2.1) (fun z:(Nat → Nat)×World×Nat×N3 => Dc z.1 z.2.1 T z.2.2.1 #[nI z.2.2.2.1, nI z.2.2.2.2.1, z.2.2.2.2.2] 83 ∧ Kl z.1 z.2.1 j rb {s with pos := (m:Int) - (r2.length:Int)} ∧ Mac z.1 z.2.1 jm s.mc kn ∧ tJ (fun q => q = j ∨ q = jm ∨ T ≤ q) O w z.1 z.2.1 ∧ GY B z.1 z.2.1 ∧ z.2.2.2.2.2.oneCell' = true ∧ ∀t, M = .ok t → Nt z.1 z.2.1 t z.2.2.2) ?_ ?_
     ·intro hN
      refine aI (fun V => V.cell? ⟨rb, 0, none⟩ = some (.string (bs s.l)) ∧ V.cell? ⟨rb, 1, none⟩ = some (nI ((m:Int) - (r2.length:Int))) ∧ V.cell? ⟨rb, 2, none⟩ = some (nI s.to) ∧ V.cell? ⟨rb, 9, none⟩ = some s.mc) 30 rfl (by kernel_rfl) ?_
      refine zin ⟨hbe.q0, hbe.q1, hbe.q2, hbe.q9⟩ fun zS => ?_
      refine zrm 0 rfl zS rfl ?_
      refine zr 1 rfl zS (fun _ => aq rfl) ?_
      refine zrf 2 rfl zS rfl ?_
      refine zrf 3 rfl zS rfl ?_
      refine zt 4 rfl zS (fun w1 hw1 => RV.ld hw1.1 rfl) ?_
      refine zrm 5 rfl zS rfl ?_
      refine zr 6 rfl zS (fun _ => aq rfl) ?_
      refine zrf 7 rfl zS rfl ?_
      refine zrf 8 rfl zS rfl ?_
      refine zt 9 rfl zS (fun w1 hw1 => RV.ld hw1.2.1 rfl) ?_
      refine zr 10 rfl zS (fun _ => BG rfl rfl (yP (by omega))) ?_
      refine zrm 11 rfl zS rfl ?_
      refine zr 12 rfl zS (fun _ => aq rfl) ?_
      refine zrf 13 rfl zS rfl ?_
      refine zrf 14 rfl zS rfl ?_
      refine zt 15 rfl zS (fun w1 hw1 => RV.ld hw1.2.2.1 rfl) ?_
      refine zr 16 rfl zS (fun _ => dc KZ rfl rfl rfl (m - r2.tail.length) m (by omega) hto (by omega) hm) ?_
      refine zrm 17 rfl zS rfl ?_
      refine zr 18 rfl zS (fun _ => aq rfl) ?_
      refine zrf 19 rfl zS rfl ?_
      refine zt 20 rfl zS (fun w1 hw1 => RV.ld hw1.2.2.2 rfl) ?_
      rw[hseg]
      refine bV 21 26 (by kernel_rfl) rfl rfl ?_ ?_
      ·skip
       refine zc call158 (lH s.mc r2.tail B O (forget jm O) w5.drew hRe hRe.forget (hme.known hjm hRe)) ?_
       rintro v w6 ⟨hE6, hP6⟩
       rw[hMd]at hP6
       obtain⟨x, rfl, hxo, hxn⟩ := hP6.shape
       have hX6:tJ (fun _ => False) O w5.drew O w6 := aa (fun h => h) O hE6
       have hb6 := hbe.upd hX6 hj (fun h => h)
       have hm6 := hme.upd hX6 hjm (fun h => h)
       have hR6 := hRe.upd hX6
       have hU6 := hUe.trans (hX6.mono (fun _ h => h.elim) hz3)
       refine ix ?_
       refine zaf (⟨hb6.q0, hb6.q1, hb6.q2, hb6.q9⟩) fun zS => ?_
       refine zrm 22 rfl zS rfl ?_
       refine zr 23 rfl zS (fun _ => rm rfl rfl) ?_
       refine zr 24 rfl zS (fun _ => rm rfl rfl) ?_
       refine zr 25 rfl zS (fun _ => rm rfl rfl) ?_
       refine pR 26 (by kernel_rfl) rfl ?_
       refine ax hR6 T (by omega) (KX _) rfl ?_
       intro nb w7 O7 hn7 hX7 hR7 hE7
       have hb7 := hb6.upd hX7 hj (by omega)
       have hm7 := hm6.upd hX7 hjm (by omega)
       have hU7 := hU6.trans (hX7.mono (fun _ h => .inr (.inr (FX h.symm))) hz3)
       refine ix ?_
       refine af (⟨hb7.q0, hb7.q1, hb7.q2, hb7.q9⟩) ?_
       refine pR 27 (by kernel_rfl) rfl ?_
       refine zsb (us := #[nI x.1, nI x.2.1, x.2.2]) hn7 (IP _) (cn hxo) ?_
       have hnz := CZ (us := #[nI x.1, nI x.2.1, x.2.2]) hn7
       have hXz:tJ (fun q => q = T) O7 w7 O7 (De w7 nb #[nI x.1, nI x.2.1, x.2.2]) := rk (by omega) (KJ hn7) rfl
       have hbz := uh hb7 hXz hj (by omega)
       refine ix ?_
       refine zaf (⟨hbz.q0, hbz.q1, hbz.q2, hbz.q9⟩) fun zS => ?_
       refine zra 28 rfl zS rfl ?_
       refine zra 29 rfl zS rfl ?_
       refine ug (by kernel_rfl) ?_
       exact eD (hN ((O7, De w7 nb #[nI x.1, nI x.2.1, x.2.2], nb, x)) (⟨hnz, hbz, L0 hm7 hXz hjm (by omega), rI hU7 (hXz.mono (fun _ h => .inr (.inr (FX h.symm))) hz3), Jy hR7 hXz, hxo, fun t e => Nt.upd ((fun t e => (hxn t e).upd hX7) t e) hXz⟩)) ⟨rfl, rfl, rfl, rfl, rfl, trivial⟩ rfl
      ·skip
       refine ax hRe T (by omega) (KX _) rfl ?_
       intro nb w6 O6 hn6 hX6 hR6 hE6
       have hb6 := hbe.upd hX6 hj (by omega)
       have hm6 := hme.upd hX6 hjm (by omega)
       have hU6 := hUe.trans (hX6.mono (fun _ h => .inr (.inr (FX h.symm))) hz3)
       refine ix ?_
       refine af (⟨hb6.q0, hb6.q1, hb6.q2, hb6.q9⟩) ?_
       refine pR 21 (by kernel_rfl) rfl ?_
       refine zc call158 (lH s.mc r2.tail B O6 (forget jm O6) w6 hR6 hR6.forget (hm6.known hjm hR6)) ?_
       rintro v w7 ⟨hE7, hP7⟩
       rw[hMd]at hP7
       obtain⟨x, rfl, hxo, hxn⟩ := hP7.shape
       have hX7:tJ (fun _ => False) O6 w6 O6 w7 := aa (fun h => h) O6 hE7
       have hn7 := hn6.upd hX7 (by omega) (fun h => h)
       have hb7 := hb6.upd hX7 hj (fun h => h)
       have hm7 := hm6.upd hX7 hjm (fun h => h)
       have hR7 := hR6.upd hX7
       have hU7 := hU6.trans (hX7.mono (fun _ h => h.elim) hz3)
       refine ix ?_
       refine zaf (⟨hb7.q0, hb7.q1, hb7.q2, hb7.q9⟩) fun zS => ?_
       refine zrm 22 rfl zS rfl ?_
       refine zr 23 rfl zS (fun _ => rm rfl rfl) ?_
       refine zr 24 rfl zS (fun _ => rm rfl rfl) ?_
       refine zr 25 rfl zS (fun _ => rm rfl rfl) ?_
       refine pR 27 (by kernel_rfl) rfl ?_
       refine zsb (us := #[nI x.1, nI x.2.1, x.2.2]) hn7 (IP _) (cn hxo) ?_
       have hnz := CZ (us := #[nI x.1, nI x.2.1, x.2.2]) hn7
       have hXz:tJ (fun q => q = T) O6 w7 O6 (De w7 nb #[nI x.1, nI x.2.1, x.2.2]) := rk (by omega) (KJ hn7) rfl
       have hbz := uh hb7 hXz hj (by omega)
       refine ix ?_
       refine zaf (⟨hbz.q0, hbz.q1, hbz.q2, hbz.q9⟩) fun zS => ?_
       refine zra 28 rfl zS rfl ?_
       refine zra 29 rfl zS rfl ?_
       refine ug (by kernel_rfl) ?_
       exact eD (hN ((O6, De w7 nb #[nI x.1, nI x.2.1, x.2.2], nb, x)) (⟨hnz, hbz, L0 hm7 hXz hjm (by omega), rI hU7 (hXz.mono (fun _ h => .inr (.inr (FX h.symm))) hz3), Jy hR7 hXz, hxo, fun t e => Nt.upd (hxn t e) hXz⟩)) ⟨rfl, rfl, rfl, rfl, rfl, trivial⟩ rfl
     ·rintro⟨O8, w8, nb, x⟩ ⟨hn8, hb8, hm8, hU8, hR8, hxo, hxn⟩
      dsimp only at hn8 hb8 hm8 hU8 hR8 hxo hxn ⊢
      refine az ?_
      refine oz ?_
      refine oz ?_
      refine ow ?_
      refine zv (ln rfl) ?_
      refine zv (JQ rfl rfl) ?_
      refine ix ?_
      refine az ?_
      cases M with
      |ok t =>
       rw[hMX]
       refine aS rfl rfl ?_
       have hnt := hxn t rfl
       obtain⟨ms, hrow, hkl2, hke⟩ := hm8
       have hrowD := KC hrow
       have hRD := KR hR8
       have hbD := Ju hb8
       have hnD := Ju hn8
       have hUD := KQ hU8
       refine tG ?_
       refine az ?_
       refine aI (fun V => ∀(q:Nat) (u:ox), (aY x)[q]? = some u → V.cell? (nA nb q) = some u) 13 rfl (by kernel_rfl) ?_
       refine zin hnD.cellsAdd fun zS => ?_
       refine zrm 0 rfl zS rfl ?_
       refine zrm 1 rfl zS rfl ?_
       refine zr 2 rfl zS (fun _ => aq rfl) ?_
       refine zrf 3 rfl zS rfl ?_
       refine zrm 5 rfl zS rfl ?_
       refine zt 6 rfl zS (fun w1 hw1 => ai (us := aY x) hw1 (Ke _) (IP _) rfl) ?_
       refine zr 7 rfl zS (fun _ => z8 (vs := [(0, .string (bs nm)), (1, nv x)]) (cells := (lz (nm, x)).toArray) GP (KL _) rfl (by kernel_rfl)) ?_
       refine bV 4 8 (by kernel_rfl) rfl rfl ?_ ?_
       ·skip
        refine zv (RV.ld hbD.q9 rfl) ?_
        refine ix ?_
        refine af hnD.cellsAdd ?_
        refine pR 8 (by kernel_rfl) rfl ?_
        refine aL elM (enc := lz) (nm, x) rfl rfl rfl (by decide) rfl ?_
        intro w9 h9 hE9
        have hX9:tJ (fun _ => False) O8 (J4 w8) O8 w9 := aa (fun h => h) O8 hE9
        have hb9 := hbD.upd hX9 hj (fun h => h)
        have hn9 := hnD.upd hX9 (by omega) (fun h => h)
        have hrow9 := hrowD.upd hX9 hjm (fun h => h)
        have hR9 := hRD.upd hX9
        have hU9 := hUD.trans (hX9.mono (fun _ h => h.elim) hz3)
        refine ix ?_
        refine af hn9.cellsAdd ?_
        have hone9:∀u ∈ [((nm, x):M3)], ∀c ∈ lz u, c.oneCell' = true := fun u hu => by
         rw[oD.1 hu]; exact kT hxo
        refine pR 9 (by kernel_rfl) rfl ?_
        refine aC elM hrow9 hR9 h9 (by simp) rfl rfl (fun _ _ => rfl) hone9 (by simp; omega) (by simp; omega) (by omega) rfl ?_
        intro lv10 w10 O10 hrow10 hX10 hR10
        have hb10 := uh hb9 hX10 hj (by omega)
        have hn10 := uh hn9 hX10 (by omega) (by omega)
        have hl10 := hrow10.one
        have hU10 := hU9.trans (hX10.mono (fun _ h => .inr (.inl h)) hz3)
        refine ix ?_
        refine zaf (hn10.cellsAdd) fun zS => ?_
        refine zr 10 rfl zS (fun _ => aq rfl) ?_
        refine zrf 11 rfl zS rfl ?_
        refine pR 12 (by kernel_rfl) rfl ?_
        refine ak (j := 9) hb10 rfl (JI _) hl10 rfl rfl rfl ?_
        have hX11:tJ (fun q => q = j) O10 w10 O10 (tR w10 ⟨rb, 9, none⟩ lv10) := vO (fun e => hj e.symm) hb10.tag rfl
        have hb11:Dc O10 (tR w10 ⟨rb, 9, none⟩ lv10) j rb ({({s with pos := (m:Int) - (r2.length:Int)}:LS)with mc := lv10}:LS).cells 170 := hb10.set 9 lv10
        have hn11 := hn10.upd hX11 (by omega) (by omega)
        have hrow11 := hrow10.upd hX11 hjm (fun e => hne e.symm)
        have hU11 := hU10.trans (hX11.mono (fun _ h => .inl h) hz3)
        have hR11 := hR10.upd hX11
        refine ix ?_
        refine af (hn11.cellsAdd) ?_
        refine ug (by kernel_rfl) ?_
        have hUz := JD hU11 hT (S' := fun q => q = j ∨ q = jm) (fun b hb => by rcases hb with hb | hb | hb; exact JS hb; exact JR hb; have := hT b; omega) hz2
        exact aH rfl ⟨lowT O10 T, lv10, _, _, _, hUz, hR11.lowT T, hb11.lowT hjT, he, yN (hrow11.lowT hjmT) hkl2 (fun q hq => ⟨(hke q hq).1, (((((hke q hq).2.drew).upd hX9).upd hX10).upd hX11).weak (fun b hb => kG hb)⟩) (((((hnt.drew).upd hX9).upd hX10).upd hX11).weak (fun b hb => kG hb))⟩
       ·skip
        refine aL elM (enc := lz) (nm, x) rfl rfl rfl (by decide) rfl ?_
        intro w9 h9 hE9
        have hX9:tJ (fun _ => False) O8 (J4 w8) O8 w9 := aa (fun h => h) O8 hE9
        have hb9 := hbD.upd hX9 hj (fun h => h)
        have hn9 := hnD.upd hX9 (by omega) (fun h => h)
        have hrow9 := hrowD.upd hX9 hjm (fun h => h)
        have hR9 := hRD.upd hX9
        have hU9 := hUD.trans (hX9.mono (fun _ h => h.elim) hz3)
        refine ix ?_
        refine af hn9.cellsAdd ?_
        refine pR 4 (by kernel_rfl) rfl ?_
        refine zv (RV.ld hb9.q9 rfl) ?_
        refine ix ?_
        refine af hn9.cellsAdd ?_
        have hone9:∀u ∈ [((nm, x):M3)], ∀c ∈ lz u, c.oneCell' = true := fun u hu => by
         rw[oD.1 hu]; exact kT hxo
        refine pR 9 (by kernel_rfl) rfl ?_
        refine aC elM hrow9 hR9 h9 (by simp) rfl rfl (fun _ _ => rfl) hone9 (by simp; omega) (by simp; omega) (by omega) rfl ?_
        intro lv10 w10 O10 hrow10 hX10 hR10
        have hb10 := uh hb9 hX10 hj (by omega)
        have hn10 := uh hn9 hX10 (by omega) (by omega)
        have hl10 := hrow10.one
        have hU10 := hU9.trans (hX10.mono (fun _ h => .inr (.inl h)) hz3)
        refine ix ?_
        refine zaf (hn10.cellsAdd) fun zS => ?_
        refine zr 10 rfl zS (fun _ => aq rfl) ?_
        refine zrf 11 rfl zS rfl ?_
        refine pR 12 (by kernel_rfl) rfl ?_
        refine ak (j := 9) hb10 rfl (JI _) hl10 rfl rfl rfl ?_
        have hX11:tJ (fun q => q = j) O10 w10 O10 (tR w10 ⟨rb, 9, none⟩ lv10) := vO (fun e => hj e.symm) hb10.tag rfl
        have hb11:Dc O10 (tR w10 ⟨rb, 9, none⟩ lv10) j rb ({({s with pos := (m:Int) - (r2.length:Int)}:LS)with mc := lv10}:LS).cells 170 := hb10.set 9 lv10
        have hn11 := hn10.upd hX11 (by omega) (by omega)
        have hrow11 := hrow10.upd hX11 hjm (fun e => hne e.symm)
        have hU11 := hU10.trans (hX11.mono (fun _ h => .inl h) hz3)
        have hR11 := hR10.upd hX11
        refine ix ?_
        refine af (hn11.cellsAdd) ?_
        refine ug (by kernel_rfl) ?_
        have hUz := JD hU11 hT (S' := fun q => q = j ∨ q = jm) (fun b hb => by rcases hb with hb | hb | hb; exact JS hb; exact JR hb; have := hT b; omega) hz2
        exact aH rfl ⟨lowT O10 T, lv10, _, _, _, hUz, hR11.lowT T, hb11.lowT hjT, he, yN (hrow11.lowT hjmT) hkl2 (fun q hq => ⟨(hke q hq).1, (((((hke q hq).2.drew).upd hX9).upd hX10).upd hX11).weak (fun b hb => kG hb)⟩) (((((hnt.drew).upd hX9).upd hX10).upd hX11).weak (fun b hb => kG hb))⟩
      |bad p e =>
       have hne7 := (hgX p e rfl).1
       have hple := (hgX p e rfl).2
       rw[hMX]
       refine aZ rfl ((by simpa[IL]using hne7)) ?_
       have hb8d := hb8.drew
       have hn8d := hn8.drew
       have hm8d := hm8.upd (aa (S := fun _ => False) (fun h => h) O8 (qN w8).drew) hjm (fun h => h)
       refine C9 12 rfl rfl (by kernel_rfl) (by kernel_rfl) ?_
       refine zw (ln rfl) ?_
       refine zw (aq rfl) ?_
       refine zw (RV.fa rfl) ?_
       refine zw (ln rfl) ?_
       refine zw (aq rfl) ?_
       refine zw (RV.fa rfl) ?_
       refine zw (RV.fa rfl) ?_
       refine zw (RV.ld hb8d.q1 rfl) ?_
       refine zw (BG rfl rfl (yP (by dsimp only; omega))) ?_
       refine zw (ln rfl) ?_
       refine zw (BG rfl rfl (yP (by dsimp only[atX]; omega))) ?_
       refine zw (ln rfl) ?_
       refine Jp ?_
       refine zc z1 (bI O8 w8.drew j rb ({s with pos := (m:Int) - (r2.length:Int)}:LS) (((m:Int) - (r2.length:Int)) + 1 + (p:Int)) e hj he hb8d) ?_
       rintro u wf ⟨hbf, hUf⟩
       have hnf' := hn8d.upd hUf (by omega) (by omega)
       have hmf' := hm8d.upd hUf hjm (fun e => hne e.symm)
       have hRf' := hR8.drew.upd hUf
       have hUf' := (hU8.drew).trans (hUf.mono (S' := fun q => q = j ∨ q = jm ∨ T ≤ q) (fun _ h => .inl h) hz3)
       have hbf':Dc O8 wf j rb ({s with pos := (m:Int) - (r2.length:Int), bad := ((m:Int) - (r2.length:Int)) + 1 + (p:Int), e := e}:LS).cells 170 := hbf
       clear hbf
       obtain⟨ms, hrow, hkl2, hke⟩ := hmf'
       have hrowD := KC hrow
       have hRD := KR hRf'
       have hbD := Ju hbf'
       have hnD := Ju hnf'
       have hUD := KQ hUf'
       refine ix ?_
       refine az ?_
       refine aI (fun V => ∀(q:Nat) (u:ox), (aY x)[q]? = some u → V.cell? (nA nb q) = some u) 13 rfl (by kernel_rfl) ?_
       refine zin hnD.cellsAdd fun zS => ?_
       refine zrm 0 rfl zS rfl ?_
       refine zrm 1 rfl zS rfl ?_
       refine zr 2 rfl zS (fun _ => aq rfl) ?_
       refine zrf 3 rfl zS rfl ?_
       refine zrm 5 rfl zS rfl ?_
       refine zt 6 rfl zS (fun w1 hw1 => ai (us := aY x) hw1 (Ke _) (IP _) rfl) ?_
       refine zr 7 rfl zS (fun _ => z8 (vs := [(0, .string (bs nm)), (1, nv x)]) (cells := (lz (nm, x)).toArray) GP (KL _) rfl (by kernel_rfl)) ?_
       refine bV 4 8 (by kernel_rfl) rfl rfl ?_ ?_
       ·skip
        refine zv (RV.ld hbD.q9 rfl) ?_
        refine ix ?_
        refine af hnD.cellsAdd ?_
        refine pR 8 (by kernel_rfl) rfl ?_
        refine aL elM (enc := lz) (nm, x) rfl rfl rfl (by decide) rfl ?_
        intro w9 h9 hE9
        have hX9:tJ (fun _ => False) O8 (J4 wf) O8 w9 := aa (fun h => h) O8 hE9
        have hb9 := hbD.upd hX9 hj (fun h => h)
        have hn9 := hnD.upd hX9 (by omega) (fun h => h)
        have hrow9 := hrowD.upd hX9 hjm (fun h => h)
        have hR9 := hRD.upd hX9
        have hU9 := hUD.trans (hX9.mono (fun _ h => h.elim) hz3)
        refine ix ?_
        refine af hn9.cellsAdd ?_
        have hone9:∀u ∈ [((nm, x):M3)], ∀c ∈ lz u, c.oneCell' = true := fun u hu => by
         rw[oD.1 hu]; exact kT hxo
        refine pR 9 (by kernel_rfl) rfl ?_
        refine aC elM hrow9 hR9 h9 (by simp) rfl rfl (fun _ _ => rfl) hone9 (by simp; omega) (by simp; omega) (by omega) rfl ?_
        intro lv10 w10 O10 hrow10 hX10 hR10
        have hb10 := uh hb9 hX10 hj (by omega)
        have hn10 := uh hn9 hX10 (by omega) (by omega)
        have hl10 := hrow10.one
        have hU10 := hU9.trans (hX10.mono (fun _ h => .inr (.inl h)) hz3)
        refine ix ?_
        refine zaf (hn10.cellsAdd) fun zS => ?_
        refine zr 10 rfl zS (fun _ => aq rfl) ?_
        refine zrf 11 rfl zS rfl ?_
        refine pR 12 (by kernel_rfl) rfl ?_
        refine ak (j := 9) hb10 rfl (JI _) hl10 rfl rfl rfl ?_
        have hX11:tJ (fun q => q = j) O10 w10 O10 (tR w10 ⟨rb, 9, none⟩ lv10) := vO (fun e => hj e.symm) hb10.tag rfl
        have hb11:Dc O10 (tR w10 ⟨rb, 9, none⟩ lv10) j rb ({({s with pos := (m:Int) - (r2.length:Int), bad := ((m:Int) - (r2.length:Int)) + 1 + (p:Int), e := e}:LS)with mc := lv10}:LS).cells 170 := hb10.set 9 lv10
        have hn11 := hn10.upd hX11 (by omega) (by omega)
        have hrow11 := hrow10.upd hX11 hjm (fun e => hne e.symm)
        have hU11 := hU10.trans (hX11.mono (fun _ h => .inl h) hz3)
        have hR11 := hR10.upd hX11
        refine ix ?_
        refine af (hn11.cellsAdd) ?_
        refine ug (by kernel_rfl) ?_
        have hUz := JD hU11 hT (S' := fun q => q = j ∨ q = jm) (fun b hb => by rcases hb with hb | hb | hb; exact JS hb; exact JR hb; have := hT b; omega) hz2
        exact aH rfl ⟨lowT O10 T, lv10, _, _, _, hUz, hR11.lowT T, hb11.lowT hjT, rfl, hne7, by dsimp only; omega⟩
       ·skip
        refine aL elM (enc := lz) (nm, x) rfl rfl rfl (by decide) rfl ?_
        intro w9 h9 hE9
        have hX9:tJ (fun _ => False) O8 (J4 wf) O8 w9 := aa (fun h => h) O8 hE9
        have hb9 := hbD.upd hX9 hj (fun h => h)
        have hn9 := hnD.upd hX9 (by omega) (fun h => h)
        have hrow9 := hrowD.upd hX9 hjm (fun h => h)
        have hR9 := hRD.upd hX9
        have hU9 := hUD.trans (hX9.mono (fun _ h => h.elim) hz3)
        refine ix ?_
        refine af hn9.cellsAdd ?_
        refine pR 4 (by kernel_rfl) rfl ?_
        refine zv (RV.ld hb9.q9 rfl) ?_
        refine ix ?_
        refine af hn9.cellsAdd ?_
        have hone9:∀u ∈ [((nm, x):M3)], ∀c ∈ lz u, c.oneCell' = true := fun u hu => by
         rw[oD.1 hu]; exact kT hxo
        refine pR 9 (by kernel_rfl) rfl ?_
        refine aC elM hrow9 hR9 h9 (by simp) rfl rfl (fun _ _ => rfl) hone9 (by simp; omega) (by simp; omega) (by omega) rfl ?_
        intro lv10 w10 O10 hrow10 hX10 hR10
        have hb10 := uh hb9 hX10 hj (by omega)
        have hn10 := uh hn9 hX10 (by omega) (by omega)
        have hl10 := hrow10.one
        have hU10 := hU9.trans (hX10.mono (fun _ h => .inr (.inl h)) hz3)
        refine ix ?_
        refine zaf (hn10.cellsAdd) fun zS => ?_
        refine zr 10 rfl zS (fun _ => aq rfl) ?_
        refine zrf 11 rfl zS rfl ?_
        refine pR 12 (by kernel_rfl) rfl ?_
        refine ak (j := 9) hb10 rfl (JI _) hl10 rfl rfl rfl ?_
        have hX11:tJ (fun q => q = j) O10 w10 O10 (tR w10 ⟨rb, 9, none⟩ lv10) := vO (fun e => hj e.symm) hb10.tag rfl
        have hb11:Dc O10 (tR w10 ⟨rb, 9, none⟩ lv10) j rb ({({s with pos := (m:Int) - (r2.length:Int), bad := ((m:Int) - (r2.length:Int)) + 1 + (p:Int), e := e}:LS)with mc := lv10}:LS).cells 170 := hb10.set 9 lv10
        have hn11 := hn10.upd hX11 (by omega) (by omega)
        have hrow11 := hrow10.upd hX11 hjm (fun e => hne e.symm)
        have hU11 := hU10.trans (hX11.mono (fun _ h => .inl h) hz3)
        have hR11 := hR10.upd hX11
        refine ix ?_
        refine af (hn11.cellsAdd) ?_
        refine ug (by kernel_rfl) ?_
        have hUz := JD hU11 hT (S' := fun q => q = j ∨ q = jm) (fun b hb => by rcases hb with hb | hb | hb; exact JS hb; exact JR hb; have := hT b; omega) hz2
        exact aH rfl ⟨lowT O10 T, lv10, _, _, _, hUz, hR11.lowT T, hb11.lowT hjT, rfl, hne7, by dsimp only; omega⟩
    ·have hM:tQ kn r = .bad r2.length 4 := by rw[hMK, if_neg hc]
     rw[hM]
     refine aZ rfl ((xj _ 61 (by decide) hc)) ?_
     have hbe := hb5.drew
     refine oz ?_
     refine C9 8 rfl rfl (by kernel_rfl) (by kernel_rfl) ?_
     refine zw (ln rfl) ?_
     refine zw (aq rfl) ?_
     refine zw (RV.fa rfl) ?_
     refine zw (ln rfl) ?_
     refine zw (aq rfl) ?_
     refine zw (RV.fa rfl) ?_
     refine zw (RV.fa rfl) ?_
     refine zw (RV.ld hbe.q1 rfl) ?_
     refine Jp ?_
     refine zc z1 (bI O w5.drew j rb ({s with pos := (m:Int) - (r2.length:Int)}:LS) ((m:Int) - (r2.length:Int)) 4 hj he hbe) ?_
     rintro u w6 ⟨hb6, hU6⟩
     refine ix ?_
     refine az ?_
     refine x8 ?_
     refine bT ?_
     exact cA rfl ⟨O, s.mc, _, _, _, hpv ((hUt5.drew).trans (hU6.mono (fun _ h => .inl h) hz3)), hR5.drew.upd hU6, hb6, rfl, by decide, rfl⟩
  ·have hM:tQ kn r = .bad (aw r).length (fg kn ((aw r).takeWhile aj)) := by unfold tQ; rw[if_neg hnm, if_pos htk]
   rw[hM]
   refine aZ rfl ((by simpa using htk)) ?_
   refine oz ?_
   refine ow ?_
   refine zv (ln rfl) ?_
   refine zv (aq rfl) ?_
   refine zv (RV.fa rfl) ?_
   refine zv (ln rfl) ?_
   refine zv (ln rfl) ?_
   refine zc z1 (bI O w3 j rb ({s with pos := (m:Int) - (((aw r).dropWhile aj).length:Int)}:LS) ((m:Int) - ((aw r).length:Int)) (fg kn ((aw r).takeWhile aj)) hj he hb3) ?_
   rintro u w4 ⟨hb4, hU4⟩
   refine ix ?_
   refine az ?_
   refine x8 ?_
   refine bT ?_
   exact cA rfl ⟨O, s.mc, _, _, _, hpv (hUt3.trans (hU4.mono (fun _ h => .inl h) hz3)), hR3.upd hU4, hb4, rfl, htk, rfl⟩
end
theorem I7:L8 uV 22 3 1 8:=⟨sQ,by kernel_rfl,zd⟩
inductive LM where
 |ok (l:List Int)
 |bad (p:Nat) (e:Int)
def gS:Nat->List Int->List UInt8->LM
 |0,acc,_=>.ok acc
 |n+1,acc,r=>
  if(aw r).length=0 then .ok acc
  else if(aw r).takeWhile aj=[]then .bad (aw r).length 4
  else match A7 ((aw r).takeWhile aj)with
   |none=>.bad (aw r).length 5
   |some c=>gS n (acc++[(c:Int)]) ((aw r).dropWhile aj)
def IG:LM->LM
 |.bad p e=>.bad p e
 |.ok []=>.bad 0 4
 |.ok (a::l)=>.ok (JG (gT (a::l)))
def dt(r:List UInt8):LM:=IG (gS (r.length+1) [] r)
theorem sM{x:List UInt8}(h:x.takeWhile aj≠[]):(x.dropWhile aj).length<x.length:=by
 have:=congrArg y4 (List.takeWhile_append_dropWhile (p:=aj) (l:=x));rw[qy]at this;have:=zf.2 h;omega
def Ii(m:Nat)(w':ps)(O':Nat->Nat)(ji:Nat)(lv:ox)(bad e:Int):LM->Prop
 |.ok l=>e=0/\J5 encI 3 1 O' w' ji lv l
 |.bad p e'=>e=e'/\e'≠0/\bad=(m:Int)-(p:Int)
theorem qh(O:Nat → Nat)(w:ps)(j rb:Nat)(s:LS)(hj:j ≠ 0)(he:s.e = 0)(hfl:s.i = true)(h:Kl O w j rb s):
  Gh uV 132 [nP rb, .pointer (some ⟨rb, 6, none⟩), .pointer (some ⟨rb, 10, none⟩)] w fun _ w' => Kl O w' j rb {s with bad := s.bg, e := 11} ∧ tJ (fun k => k = j) O w O w' := by
 have q0 := h.q10
 rw[hfl]at q0
 have q3 := h.q3
 have hd := h.drew
 have hU0:tJ (fun k => k = j) O w O w.drew := (Ji (fun e => hj e.symm) O w).drew
 refine rf Kf K0 rfl rfl ?_
 refine oz ?_
 refine oz ?_
 refine ow ?_
 refine zv (ln rfl) ?_
 refine zv (aq rfl) ?_
 refine zv (RV.ld q0 rfl) ?_
 refine ix ?_
 refine az ?_
 refine aZ rfl rfl ?_
 refine oz ?_
 refine C9 8 rfl rfl (by kernel_rfl) (by kernel_rfl) ?_
 refine zw (ln rfl) ?_
 refine zw (aq rfl) ?_
 refine zw (RV.fa rfl) ?_
 refine zw (ln rfl) ?_
 refine zw (aq rfl) ?_
 refine zw (RV.fa rfl) ?_
 refine zw (RV.fa rfl) ?_
 refine zw (RV.ld q3 rfl) ?_
 refine Jp ?_
 refine zc z1 (bI O w.drew j rb s s.bg 11 hj he hd) ?_
 rintro u w1 ⟨hb1, hU1⟩
 refine ix ?_
 refine az ?_
 refine x8 ?_
 refine bT ?_
 exact cA rfl ⟨hb1, hU0.trans hU1⟩
theorem qg(O:Nat → Nat)(w:ps)(j rb:Nat)(s:LS)(hj:j ≠ 0)(he:s.e = 0)(hfl:s.k = true)(h:Kl O w j rb s):
  Gh uV 132 [nP rb, .pointer (some ⟨rb, 7, none⟩), .pointer (some ⟨rb, 11, none⟩)] w fun _ w' => Kl O w' j rb {s with bad := s.bg, e := 11} ∧ tJ (fun k => k = j) O w O w' := by
 have q0 := h.q11
 rw[hfl]at q0
 have q3 := h.q3
 have hd := h.drew
 have hU0:tJ (fun k => k = j) O w O w.drew := (Ji (fun e => hj e.symm) O w).drew
 refine rf Kf K0 rfl rfl ?_
 refine oz ?_
 refine oz ?_
 refine ow ?_
 refine zv (ln rfl) ?_
 refine zv (aq rfl) ?_
 refine zv (RV.ld q0 rfl) ?_
 refine ix ?_
 refine az ?_
 refine aZ rfl rfl ?_
 refine oz ?_
 refine C9 8 rfl rfl (by kernel_rfl) (by kernel_rfl) ?_
 refine zw (ln rfl) ?_
 refine zw (aq rfl) ?_
 refine zw (RV.fa rfl) ?_
 refine zw (ln rfl) ?_
 refine zw (aq rfl) ?_
 refine zw (RV.fa rfl) ?_
 refine zw (RV.fa rfl) ?_
 refine zw (RV.ld q3 rfl) ?_
 refine Jp ?_
 refine zc z1 (bI O w.drew j rb s s.bg 11 hj he hd) ?_
 rintro u w1 ⟨hb1, hU1⟩
 refine ix ?_
 refine az ?_
 refine x8 ?_
 refine bT ?_
 exact cA rfl ⟨hb1, hU0.trans hU1⟩
theorem sL:∀(n:Nat) (a0:List Int) (r:List UInt8) (p:Nat) (e:Int),gS n a0 r=.bad p e->p<=r.length
 |0,_,_,_,_,h=>by cases h
 |n+1,a0,r,p,e,h=>by
  have hs:=dy r;unfold gS at h
  split at h
  ·cases h
  split at h
  ·cases h;exact hs
  split at h
  ·cases h;exact hs
  have h1:=sL n _ _ p e h;have h2:=(yY (l:=aw r) aj).length_le;omega
theorem ng{r:List UInt8}{p:Nat}{e:Int}(h:dt r=.bad p e):p<=r.length:=by
 unfold dt at h
 cases hw:gS (r.length+1) [] r with
 |bad q f=>rw[hw]at h;cases h;exact sL _ _ _ _ _ hw
 |ok l=>
  rw[hw]at h
  cases l with
  |nil=>cases h;exact tq _
  |cons a l=>cases h
theorem tN(B:Nat)(O:Nat → Nat)(w:ps)(j ji rb:Nat)(s:LS)(m:Nat)(r0:List UInt8)(hR:GY B O w)(hj:j ≠ 0)(hji:ji ≠ 0)(hne:j ≠ ji)(hm:m ≤ s.l.length)(hl:s.l.length ≤ 100000)(hto:s.to = (m:Int))(he:s.e = 0)(hfl:s.i = false)(hfd:s.ig = sG)
  (hr:r0 <:+ s.l.take m) (hp:s.pos = (m:Int) - (r0.length:Int)) (h:Kl O w j rb s) :
  Gh uV 132 [nP rb, .pointer (some ⟨rb, 6, none⟩), .pointer (some ⟨rb, 10, none⟩)] w fun _ w' => ∃O' lv pos bad e, tJ (fun k => k = j ∨ k = ji) O w O' w' ∧ GY B O' w' ∧ Kl O' w' j rb {s with pos := pos, bad := bad, e := e, ig := lv, i := true} ∧ Ii m w' O' ji lv bad e (dt r0) := by
 have hz2:¬(fun q:Nat => q = j ∨ q = ji) 0 := fun e => by rcases e with e | e; exact hj e.symm; exact hji e.symm
 have hrl:r0.length ≤ m := by have := hr.length_le; simp at this; omega
 have q0 := h.q10
 rw[hfl]at q0
 refine rf Kf K0 rfl rfl ?_
 refine oz ?_
 refine oz ?_
 refine ow ?_
 refine zv (ln rfl) ?_
 refine zv (aq rfl) ?_
 refine zv (RV.ld q0 rfl) ?_
 refine ix ?_
 refine az ?_
 refine aS rfl rfl ?_
 refine tG ?_
 refine az ?_
 refine oz ?_
 refine ow ?_
 refine zv (ln rfl) ?_
 refine zv (aq rfl) ?_
 refine ak (j := 10) h rfl (J0 _) rfl rfl rfl rfl ?_
 have hb1:Kl O (w.setCell ⟨rb, 10, none⟩ (.bool true)) j rb {s with i := true} := KK h 10 _
 have hU1:tJ (fun k => k = j) O w O (w.setCell ⟨rb, 10, none⟩ (.bool true)) := vO (fun e => hj e.symm) h.tag rfl
 have hR1 := hR.upd hU1
 generalize w.setCell ⟨rb, 10, none⟩ (.bool true) = w1 at *
 obtain⟨M, hMd⟩:∃M, M = gS (r0.length + 1) [] r0 := ⟨_, rfl⟩
 refine ix ?_
 refine az ?_
 refine oz ?_
 refine z7 ?_
 refine zlp (fun y:Nat×List Int×List UInt8×(Nat → Nat)×World×ox => [(0, nP rb), (1, .pointer (some ⟨rb, 6, none⟩))]) (fun y => y.2.2.2.2.1) (fun y => Kl y.2.2.2.1 y.2.2.2.2.1 j rb {s with pos := (m:Int) - (y.2.2.1.length:Int), ig := y.2.2.2.2.2, i := true} ∧ J5 encI 3 1 y.2.2.2.1 y.2.2.2.2.1 ji y.2.2.2.2.2 y.2.1 ∧ y.2.2.1 <:+ s.l.take m ∧ gS y.1 y.2.1 y.2.2.1 = M ∧ y.2.2.1.length < y.1 ∧ y.2.1.length + y.2.2.1.length ≤ r0.length ∧ tJ (fun k => k = j ∨ k = ji) O w y.2.2.2.1 y.2.2.2.2.1 ∧ GY B y.2.2.2.1 y.2.2.2.2.1) (fun y => y.1) (r0.length + 1, [], r0, O, w1, sG) (⟨by dsimp only; rw[← hp, ← hfd]; exact hb1, DZ _ _ _ _ _ _, hr, hMd.symm, GT _, by simp, hU1.mono (fun _ h => .inl h) hz2, hR1⟩) ?_
 rintro⟨n, acc, r, O1, w2, lv⟩ ⟨hb2, hrow2, hsuf, hM2, hn, hal, hU2, hR2⟩
 dsimp only at hb2 hrow2 hsuf hM2 hn hal hU2 hR2 ⊢
 obtain⟨n, rfl⟩:∃q, n = q + 1 := ⟨n - 1, by omega⟩
 have hsl := dy r
 unfold gS at hM2
 refine oz ?_
 refine oz ?_
 refine ow ?_
 refine zv (ln rfl) ?_
 refine zv (aq rfl) ?_
 refine zv (RV.fa rfl) ?_
 refine zc Ki (dX O1 w2 j rb ({s with pos := (m:Int) - ((r).length:Int), ig := lv, i := true}:LS) m r hj hm hl hto hsuf rfl hb2) ?_
 rintro v w3 ⟨rfl, hb3, hU3⟩
 have hrow3 := hrow2.upd hU3 hji (fun e => hne e.symm)
 have hR3 := hR2.upd hU3
 have hUt3 := hU2.trans (hU3.mono (fun _ h => .inl h) hz2)
 refine ix ?_
 refine az ?_
 by_cases h0:(aw r).length = 0
 ·rw[if_pos h0]at hM2
  refine aS rfl ((decide_eq_false (by omega))) ?_
  have hq3 := hb3.q6
  have hsl3 := hrow3.sl
  refine J9 ?_
  refine cT ?_
  refine cT ?_
  refine eY ?_
  refine az ?_
  refine oz ?_
  refine oz ?_
  refine ow ?_
  refine zv (ln rfl) ?_
  refine zv (aq rfl) ?_
  refine zv (RV.ld hq3 rfl) ?_
  refine zv (KH (by first | exact hsl3) sQ rfl) ?_
  refine zv (KI rfl rfl) ?_
  refine ix ?_
  refine az ?_
  rcases acc with _ | ⟨a, acc⟩
  ·have hM:dt r0 = .bad 0 4 := by unfold dt; rw[← hMd, ← hM2]; rfl
   rw[hM]
   refine aZ rfl rfl ?_
   have hq2 := hb3.q2
   dsimp only at hq2
   rw[hto]at hq2
   have hb3d := hb3.drew
   have hrow3d := hrow3.drew
   have hR3d := hR3.drew
   have hUt3d := hUt3.drew
   refine C9 8 rfl rfl (by kernel_rfl) (by kernel_rfl) ?_
   refine zw (ln rfl) ?_
   refine zw (aq rfl) ?_
   refine zw (RV.fa rfl) ?_
   refine zw (ln rfl) ?_
   refine zw (aq rfl) ?_
   refine zw (RV.fa rfl) ?_
   refine zw (RV.fa rfl) ?_
   refine zw (RV.ld hq2 rfl) ?_
   refine Jp ?_
   refine zc z1 (bI O1 w3.drew j rb ({s with pos := (m:Int) - ((aw r).length:Int), ig := lv, i := true}:LS) (m:Int) 4 hj he hb3d) ?_
   rintro u w7 ⟨hb7, hU7⟩
   have hrow7 := hrow3d.upd hU7 hji (fun e => hne e.symm)
   have hR7 := hR3d.upd hU7
   have hUt7 := hUt3d.trans (hU7.mono (fun _ h => .inl h) hz2)
   have hq6 := KW hb7
   refine ix ?_
   refine az ?_
   refine oz ?_
   refine ow ?_
   refine zv (ln rfl) ?_
   refine zv (aq rfl) ?_
   refine zv (RV.ld hq6 rfl) ?_
   refine zc Kh (kh hR7 hrow7 hji (by omega)) ?_
   rintro u w8 ⟨hrow8, hU8, hR8⟩
   have hb8 := uh hb7 hU8 hj hne
   have hq8 := hb8.q6
   refine ix ?_
   refine az ?_
   refine ow ?_
   refine zv (ln rfl) ?_
   refine zv (ln rfl) ?_
   refine zv (aq rfl) ?_
   refine zv (RV.ld hq8 rfl) ?_
   refine zc Kg (eW hR8 hrow8 hji (by rw[ei]; omega)) ?_
   rintro u w9 ⟨hrow9, hU9, hR9⟩
   have hb9 := hb8.upd hU9 hj hne
   have hone9 := hrow9.one
   refine zv (aq rfl) ?_
   refine ak (j := 6) hb9 rfl (Dd _) hone9 rfl rfl rfl ?_
   have hb10 := hb9.set 6 u
   have hU10:tJ (fun k => k = j) O1 w9 O1 (w9.setCell ⟨rb, 6, none⟩ u) := vO (fun e => hj e.symm) hb9.tag rfl
   have hUz := ((hUt7.trans (hU8.mono (fun _ h => .inr h) hz2)).trans (hU9.mono (fun _ h => .inr h) hz2)).trans (hU10.mono (fun _ h => .inl h) hz2)
   refine ix ?_
   exact aH rfl ⟨O1, u, _, (m:Int), 4, hUz, hR9.upd hU10, hb10, ⟨rfl, by decide, by simp⟩⟩
  ·have hM:dt r0 = .ok (JG (gT (a :: acc))) := by unfold dt; rw[← hMd, ← hM2]; rfl
   rw[hM]
   refine aS rfl ((beq_eq_false_iff_ne.2 (by simp; omega))) ?_
   have hq6 := KW hb3
   refine tG ?_
   refine az ?_
   refine oz ?_
   refine ow ?_
   refine zv (ln rfl) ?_
   refine zv (aq rfl) ?_
   refine zv (RV.ld hq6 rfl) ?_
   refine zc Kh (kh hR3 hrow3 hji (by omega)) ?_
   rintro u w8 ⟨hrow8, hU8, hR8⟩
   have hb8 := uh hb3 hU8 hj hne
   have hq8 := hb8.q6
   refine ix ?_
   refine az ?_
   refine ow ?_
   refine zv (ln rfl) ?_
   refine zv (ln rfl) ?_
   refine zv (aq rfl) ?_
   refine zv (RV.ld hq8 rfl) ?_
   refine zc Kg (eW hR8 hrow8 hji (by rw[ei]; omega)) ?_
   rintro u w9 ⟨hrow9, hU9, hR9⟩
   have hb9 := hb8.upd hU9 hj hne
   have hone9 := hrow9.one
   refine zv (aq rfl) ?_
   refine ak (j := 6) hb9 rfl (Dd _) hone9 rfl rfl rfl ?_
   have hb10 := hb9.set 6 u
   have hU10:tJ (fun k => k = j) O1 w9 O1 (w9.setCell ⟨rb, 6, none⟩ u) := vO (fun e => hj e.symm) hb9.tag rfl
   have hUz := ((hUt3.trans (hU8.mono (fun _ h => .inr h) hz2)).trans (hU9.mono (fun _ h => .inr h) hz2)).trans (hU10.mono (fun _ h => .inl h) hz2)
   refine ix ?_
   exact aH rfl ⟨O1, u, _, _, _, hUz, hR9.upd hU10, hb10, ⟨he, hrow9.upd hU10 hji (fun e => hne e.symm)⟩⟩
 ·rw[if_neg h0]at hM2
  refine aZ rfl ((decide_eq_true (by omega))) ?_
  have hq1 := hb3.q1
  have hsuf3 := (bn r).trans hsuf
  refine tG ?_
  refine az ?_
  refine z7 ?_
  refine oz ?_
  refine ow ?_
  refine zv (ln rfl) ?_
  refine zv (aq rfl) ?_
  refine zv (RV.fa rfl) ?_
  refine zv (RV.fa rfl) ?_
  refine zv (RV.ld hq1 rfl) ?_
  refine zv (oU rfl) ?_
  refine ix ?_
  refine az ?_
  refine oz ?_
  refine ow ?_
  refine zv (ln rfl) ?_
  refine zv (aq rfl) ?_
  refine zv (RV.fa rfl) ?_
  refine zc KO (gV O1 w3 j rb ({s with pos := (m:Int) - ((aw r).length:Int), ig := lv, i := true}:LS) m (aw r) hj hm hl hto hsuf3 rfl hb3) ?_
  rintro v w4 ⟨rfl, hb4, hU4⟩
  have hrow4 := hrow3.upd hU4 hji (fun e => hne e.symm)
  have hR4 := hR3.upd hU4
  have hUt4 := hUt3.trans (hU4.mono (fun _ h => .inl h) hz2)
  refine zv (oU rfl) ?_
  refine ix ?_
  refine az ?_
  refine oz ?_
  refine ow ?_
  refine zv (ln rfl) ?_
  refine zc KN (iW ((aw r).takeWhile aj) w4) ?_
  rintro v w5 ⟨rfl, hE5⟩
  have hX5:tJ (fun _ => False) O1 w4 O1 w5 := aa (fun h => h) O1 hE5
  have hb5 := hb4.upd hX5 hj (fun h => h)
  have hrow5 := hrow4.upd hX5 hji (fun h => h)
  have hR5 := hR4.upd hX5
  have hUt5 := hUt4.trans (hX5.mono (fun _ h => h.elim) hz2)
  refine zv (ln rfl) ?_
  refine zv (rm rfl rfl) ?_
  refine zv (rm rfl rfl) ?_
  refine zv (oU rfl) ?_
  refine zv (oU rfl) ?_
  refine ix ?_
  refine az ?_
  refine oz ?_
  refine z7 ?_
  refine oz ?_
  refine ow ?_
  refine zv (ln rfl) ?_
  refine zv (cX rfl rfl) ?_
  refine zv (oU rfl) ?_
  refine ix ?_
  refine az ?_
  by_cases hnm:(aw r).takeWhile aj = []
  ·rw[if_pos hnm]at hM2
   have hM:dt r0 = .bad (aw r).length 4 := by unfold dt; rw[← hMd, ← hM2]; rfl
   rw[hM]
   refine aZ rfl ((by simpa using hnm)) ?_
   refine oz ?_
   refine ow ?_
   refine zv (ln rfl) ?_
   refine zv (aq rfl) ?_
   refine zv (RV.fa rfl) ?_
   refine zv (ln rfl) ?_
   refine zc z1 (bI O1 w5 j rb ({s with pos := (m:Int) - (((aw r).dropWhile aj).length:Int), ig := lv, i := true}:LS) ((m:Int) - ((aw r).length:Int)) 4 hj he hb5) ?_
   rintro u w6 ⟨hb6, hU6⟩
   refine ix ?_
   refine az ?_
   refine x8 ?_
   refine cB ?_
   refine bT ?_
   refine cB ?_
   refine bT ?_
   refine cB ?_
   refine bT ?_
   exact cA rfl ⟨O1, lv, _, _, _, hUt5.trans (hU6.mono (fun _ h => .inl h) hz2), hR5.upd hU6, hb6, rfl, by decide, rfl⟩
  ·rw[if_neg hnm]at hM2
   have hwd := sM hnm
   refine aS rfl ((by simpa using hnm)) ?_
   refine oz ?_
   refine ow ?_
   refine zv (ln rfl) ?_
   refine zv (GZ rfl) ?_
   refine zv (oU rfl) ?_
   refine ix ?_
   refine az ?_
   cases hnum:A7 ((aw r).takeWhile aj)with
   |none =>
    rw[hnum]at hM2
    have hM:dt r0 = .bad (aw r).length 5 := by unfold dt; rw[← hMd, ← hM2]; rfl
    rw[hM]
    refine aZ rfl rfl ?_
    refine oz ?_
    refine ow ?_
    refine zv (ln rfl) ?_
    refine zv (aq rfl) ?_
    refine zv (RV.fa rfl) ?_
    refine zv (ln rfl) ?_
    refine zc z1 (bI O1 w5 j rb ({s with pos := (m:Int) - (((aw r).dropWhile aj).length:Int), ig := lv, i := true}:LS) ((m:Int) - ((aw r).length:Int)) 5 hj he hb5) ?_
    rintro u w6 ⟨hb6, hU6⟩
    refine ix ?_
    refine az ?_
    refine x8 ?_
    refine cB ?_
    refine bT ?_
    refine cB ?_
    refine bT ?_
    refine cB ?_
    refine bT ?_
    exact cA rfl ⟨O1, lv, _, _, _, hUt5.trans (hU6.mono (fun _ h => .inl h) hz2), hR5.upd hU6, hb6, rfl, by decide, rfl⟩
   |some c =>
    rw[hnum]at hM2
    dsimp only at hM2
    have hnv:D5 ((aw r).takeWhile aj) = (c:Int) := by unfold D5; rw[hnum]
    rw[hnv]
    refine aS rfl rfl ?_
    have hq5 := hb5.q6
    refine tG ?_
    refine eh ?_
    refine az ?_
    refine ow ?_
    refine zv (ln rfl) ?_
    refine zv (ln rfl) ?_
    refine zv (aq rfl) ?_
    refine zv (RV.ld hq5 rfl) ?_
    refine zv (ln rfl) ?_
    refine K1 I7 hrow5 hR5 ((c:Int)) (fun _ => rfl) rfl rfl rfl (by simp[uY, encI]) (by omega) (by omega) (by omega) (by decide) rfl rfl ?_
    intro lv7 w7 O7 hrow7 hU7 hR7
    have hone7 := hrow7.one
    have hb7 := hb5.upd hU7 hj hne
    refine zv (aq rfl) ?_
    refine ak (j := 6) hb7 rfl (Dd _) hone7 rfl rfl rfl ?_
    have hb8 := hb7.set 6 lv7
    have hU8:tJ (fun k => k = j) O7 w7 O7 (w7.setCell ⟨rb, 6, none⟩ lv7) := vO (fun e => hj e.symm) hb7.tag rfl
    have hUt8 := (hUt5.trans (hU7.mono (fun _ h => .inr h) hz2)).trans (hU8.mono (fun _ h => .inl h) hz2)
    refine ix ?_
    refine eh ?_
    refine zxd (n, acc ++ [(c:Int)], (aw r).dropWhile aj, O7, (w7.setCell ⟨rb, 6, none⟩ lv7), lv7) (⟨hb8, hrow7.upd hU8 hji (fun e => hne e.symm), (yY _).trans hsuf3, hM2, by dsimp only; omega, by simp; omega, hUt8, hR7.upd hU8⟩)
theorem tM(B:Nat)(O:Nat → Nat)(w:ps)(j ji rb:Nat)(s:LS)(m:Nat)(r0:List UInt8)(hR:GY B O w)(hj:j ≠ 0)(hji:ji ≠ 0)(hne:j ≠ ji)(hm:m ≤ s.l.length)(hl:s.l.length ≤ 100000)(hto:s.to = (m:Int))(he:s.e = 0)(hfl:s.k = false)(hfd:s.kp = sG)
  (hr:r0 <:+ s.l.take m) (hp:s.pos = (m:Int) - (r0.length:Int)) (h:Kl O w j rb s) :
  Gh uV 132 [nP rb, .pointer (some ⟨rb, 7, none⟩), .pointer (some ⟨rb, 11, none⟩)] w fun _ w' => ∃O' lv pos bad e, tJ (fun k => k = j ∨ k = ji) O w O' w' ∧ GY B O' w' ∧ Kl O' w' j rb {s with pos := pos, bad := bad, e := e, kp := lv, k := true} ∧ Ii m w' O' ji lv bad e (dt r0) := by
 have hz2:¬(fun q:Nat => q = j ∨ q = ji) 0 := fun e => by rcases e with e | e; exact hj e.symm; exact hji e.symm
 have hrl:r0.length ≤ m := by have := hr.length_le; simp at this; omega
 have q0 := h.q11
 rw[hfl]at q0
 refine rf Kf K0 rfl rfl ?_
 refine oz ?_
 refine oz ?_
 refine ow ?_
 refine zv (ln rfl) ?_
 refine zv (aq rfl) ?_
 refine zv (RV.ld q0 rfl) ?_
 refine ix ?_
 refine az ?_
 refine aS rfl rfl ?_
 refine tG ?_
 refine az ?_
 refine oz ?_
 refine ow ?_
 refine zv (ln rfl) ?_
 refine zv (aq rfl) ?_
 refine ak (j := 11) h rfl (J0 _) rfl rfl rfl rfl ?_
 have hb1:Kl O (w.setCell ⟨rb, 11, none⟩ (.bool true)) j rb {s with k := true} := KK h 11 _
 have hU1:tJ (fun k => k = j) O w O (w.setCell ⟨rb, 11, none⟩ (.bool true)) := vO (fun e => hj e.symm) h.tag rfl
 have hR1 := hR.upd hU1
 generalize w.setCell ⟨rb, 11, none⟩ (.bool true) = w1 at *
 obtain⟨M, hMd⟩:∃M, M = gS (r0.length + 1) [] r0 := ⟨_, rfl⟩
 refine ix ?_
 refine az ?_
 refine oz ?_
 refine z7 ?_
 refine zlp (fun y:Nat×List Int×List UInt8×(Nat → Nat)×World×ox => [(0, nP rb), (1, .pointer (some ⟨rb, 7, none⟩))]) (fun y => y.2.2.2.2.1) (fun y => Kl y.2.2.2.1 y.2.2.2.2.1 j rb {s with pos := (m:Int) - (y.2.2.1.length:Int), kp := y.2.2.2.2.2, k := true} ∧ J5 encI 3 1 y.2.2.2.1 y.2.2.2.2.1 ji y.2.2.2.2.2 y.2.1 ∧ y.2.2.1 <:+ s.l.take m ∧ gS y.1 y.2.1 y.2.2.1 = M ∧ y.2.2.1.length < y.1 ∧ y.2.1.length + y.2.2.1.length ≤ r0.length ∧ tJ (fun k => k = j ∨ k = ji) O w y.2.2.2.1 y.2.2.2.2.1 ∧ GY B y.2.2.2.1 y.2.2.2.2.1) (fun y => y.1) (r0.length + 1, [], r0, O, w1, sG) (⟨by dsimp only; rw[← hp, ← hfd]; exact hb1, DZ _ _ _ _ _ _, hr, hMd.symm, GT _, by simp, hU1.mono (fun _ h => .inl h) hz2, hR1⟩) ?_
 rintro⟨n, acc, r, O1, w2, lv⟩ ⟨hb2, hrow2, hsuf, hM2, hn, hal, hU2, hR2⟩
 dsimp only at hb2 hrow2 hsuf hM2 hn hal hU2 hR2 ⊢
 obtain⟨n, rfl⟩:∃q, n = q + 1 := ⟨n - 1, by omega⟩
 have hsl := dy r
 unfold gS at hM2
 refine oz ?_
 refine oz ?_
 refine ow ?_
 refine zv (ln rfl) ?_
 refine zv (aq rfl) ?_
 refine zv (RV.fa rfl) ?_
 refine zc Ki (dX O1 w2 j rb ({s with pos := (m:Int) - ((r).length:Int), kp := lv, k := true}:LS) m r hj hm hl hto hsuf rfl hb2) ?_
 rintro v w3 ⟨rfl, hb3, hU3⟩
 have hrow3 := hrow2.upd hU3 hji (fun e => hne e.symm)
 have hR3 := hR2.upd hU3
 have hUt3 := hU2.trans (hU3.mono (fun _ h => .inl h) hz2)
 refine ix ?_
 refine az ?_
 by_cases h0:(aw r).length = 0
 ·rw[if_pos h0]at hM2
  refine aS rfl ((decide_eq_false (by omega))) ?_
  have hq3 := hb3.q7
  have hsl3 := hrow3.sl
  refine J9 ?_
  refine cT ?_
  refine cT ?_
  refine eY ?_
  refine az ?_
  refine oz ?_
  refine oz ?_
  refine ow ?_
  refine zv (ln rfl) ?_
  refine zv (aq rfl) ?_
  refine zv (RV.ld hq3 rfl) ?_
  refine zv (KH (by first | exact hsl3) sQ rfl) ?_
  refine zv (KI rfl rfl) ?_
  refine ix ?_
  refine az ?_
  rcases acc with _ | ⟨a, acc⟩
  ·have hM:dt r0 = .bad 0 4 := by unfold dt; rw[← hMd, ← hM2]; rfl
   rw[hM]
   refine aZ rfl rfl ?_
   have hq2 := hb3.q2
   dsimp only at hq2
   rw[hto]at hq2
   have hb3d := hb3.drew
   have hrow3d := hrow3.drew
   have hR3d := hR3.drew
   have hUt3d := hUt3.drew
   refine C9 8 rfl rfl (by kernel_rfl) (by kernel_rfl) ?_
   refine zw (ln rfl) ?_
   refine zw (aq rfl) ?_
   refine zw (RV.fa rfl) ?_
   refine zw (ln rfl) ?_
   refine zw (aq rfl) ?_
   refine zw (RV.fa rfl) ?_
   refine zw (RV.fa rfl) ?_
   refine zw (RV.ld hq2 rfl) ?_
   refine Jp ?_
   refine zc z1 (bI O1 w3.drew j rb ({s with pos := (m:Int) - ((aw r).length:Int), kp := lv, k := true}:LS) (m:Int) 4 hj he hb3d) ?_
   rintro u w7 ⟨hb7, hU7⟩
   have hrow7 := hrow3d.upd hU7 hji (fun e => hne e.symm)
   have hR7 := hR3d.upd hU7
   have hUt7 := hUt3d.trans (hU7.mono (fun _ h => .inl h) hz2)
   have hq6 := KV hb7
   refine ix ?_
   refine az ?_
   refine oz ?_
   refine ow ?_
   refine zv (ln rfl) ?_
   refine zv (aq rfl) ?_
   refine zv (RV.ld hq6 rfl) ?_
   refine zc Kh (kh hR7 hrow7 hji (by omega)) ?_
   rintro u w8 ⟨hrow8, hU8, hR8⟩
   have hb8 := uh hb7 hU8 hj hne
   have hq8 := hb8.q7
   refine ix ?_
   refine az ?_
   refine ow ?_
   refine zv (ln rfl) ?_
   refine zv (ln rfl) ?_
   refine zv (aq rfl) ?_
   refine zv (RV.ld hq8 rfl) ?_
   refine zc Kg (eW hR8 hrow8 hji (by rw[ei]; omega)) ?_
   rintro u w9 ⟨hrow9, hU9, hR9⟩
   have hb9 := hb8.upd hU9 hj hne
   have hone9 := hrow9.one
   refine zv (aq rfl) ?_
   refine ak (j := 7) hb9 rfl (Dd _) hone9 rfl rfl rfl ?_
   have hb10 := hb9.set 7 u
   have hU10:tJ (fun k => k = j) O1 w9 O1 (w9.setCell ⟨rb, 7, none⟩ u) := vO (fun e => hj e.symm) hb9.tag rfl
   have hUz := ((hUt7.trans (hU8.mono (fun _ h => .inr h) hz2)).trans (hU9.mono (fun _ h => .inr h) hz2)).trans (hU10.mono (fun _ h => .inl h) hz2)
   refine ix ?_
   exact aH rfl ⟨O1, u, _, (m:Int), 4, hUz, hR9.upd hU10, hb10, ⟨rfl, by decide, by simp⟩⟩
  ·have hM:dt r0 = .ok (JG (gT (a :: acc))) := by unfold dt; rw[← hMd, ← hM2]; rfl
   rw[hM]
   refine aS rfl ((beq_eq_false_iff_ne.2 (by simp; omega))) ?_
   have hq6 := KV hb3
   refine tG ?_
   refine az ?_
   refine oz ?_
   refine ow ?_
   refine zv (ln rfl) ?_
   refine zv (aq rfl) ?_
   refine zv (RV.ld hq6 rfl) ?_
   refine zc Kh (kh hR3 hrow3 hji (by omega)) ?_
   rintro u w8 ⟨hrow8, hU8, hR8⟩
   have hb8 := uh hb3 hU8 hj hne
   have hq8 := hb8.q7
   refine ix ?_
   refine az ?_
   refine ow ?_
   refine zv (ln rfl) ?_
   refine zv (ln rfl) ?_
   refine zv (aq rfl) ?_
   refine zv (RV.ld hq8 rfl) ?_
   refine zc Kg (eW hR8 hrow8 hji (by rw[ei]; omega)) ?_
   rintro u w9 ⟨hrow9, hU9, hR9⟩
   have hb9 := hb8.upd hU9 hj hne
   have hone9 := hrow9.one
   refine zv (aq rfl) ?_
   refine ak (j := 7) hb9 rfl (Dd _) hone9 rfl rfl rfl ?_
   have hb10 := hb9.set 7 u
   have hU10:tJ (fun k => k = j) O1 w9 O1 (w9.setCell ⟨rb, 7, none⟩ u) := vO (fun e => hj e.symm) hb9.tag rfl
   have hUz := ((hUt3.trans (hU8.mono (fun _ h => .inr h) hz2)).trans (hU9.mono (fun _ h => .inr h) hz2)).trans (hU10.mono (fun _ h => .inl h) hz2)
   refine ix ?_
   exact aH rfl ⟨O1, u, _, _, _, hUz, hR9.upd hU10, hb10, ⟨he, hrow9.upd hU10 hji (fun e => hne e.symm)⟩⟩
 ·rw[if_neg h0]at hM2
  refine aZ rfl ((decide_eq_true (by omega))) ?_
  have hq1 := hb3.q1
  have hsuf3 := (bn r).trans hsuf
  refine tG ?_
  refine az ?_
  refine z7 ?_
  refine oz ?_
  refine ow ?_
  refine zv (ln rfl) ?_
  refine zv (aq rfl) ?_
  refine zv (RV.fa rfl) ?_
  refine zv (RV.fa rfl) ?_
  refine zv (RV.ld hq1 rfl) ?_
  refine zv (oU rfl) ?_
  refine ix ?_
  refine az ?_
  refine oz ?_
  refine ow ?_
  refine zv (ln rfl) ?_
  refine zv (aq rfl) ?_
  refine zv (RV.fa rfl) ?_
  refine zc KO (gV O1 w3 j rb ({s with pos := (m:Int) - ((aw r).length:Int), kp := lv, k := true}:LS) m (aw r) hj hm hl hto hsuf3 rfl hb3) ?_
  rintro v w4 ⟨rfl, hb4, hU4⟩
  have hrow4 := hrow3.upd hU4 hji (fun e => hne e.symm)
  have hR4 := hR3.upd hU4
  have hUt4 := hUt3.trans (hU4.mono (fun _ h => .inl h) hz2)
  refine zv (oU rfl) ?_
  refine ix ?_
  refine az ?_
  refine oz ?_
  refine ow ?_
  refine zv (ln rfl) ?_
  refine zc KN (iW ((aw r).takeWhile aj) w4) ?_
  rintro v w5 ⟨rfl, hE5⟩
  have hX5:tJ (fun _ => False) O1 w4 O1 w5 := aa (fun h => h) O1 hE5
  have hb5 := hb4.upd hX5 hj (fun h => h)
  have hrow5 := hrow4.upd hX5 hji (fun h => h)
  have hR5 := hR4.upd hX5
  have hUt5 := hUt4.trans (hX5.mono (fun _ h => h.elim) hz2)
  refine zv (ln rfl) ?_
  refine zv (rm rfl rfl) ?_
  refine zv (rm rfl rfl) ?_
  refine zv (oU rfl) ?_
  refine zv (oU rfl) ?_
  refine ix ?_
  refine az ?_
  refine oz ?_
  refine z7 ?_
  refine oz ?_
  refine ow ?_
  refine zv (ln rfl) ?_
  refine zv (cX rfl rfl) ?_
  refine zv (oU rfl) ?_
  refine ix ?_
  refine az ?_
  by_cases hnm:(aw r).takeWhile aj = []
  ·rw[if_pos hnm]at hM2
   have hM:dt r0 = .bad (aw r).length 4 := by unfold dt; rw[← hMd, ← hM2]; rfl
   rw[hM]
   refine aZ rfl ((by simpa using hnm)) ?_
   refine oz ?_
   refine ow ?_
   refine zv (ln rfl) ?_
   refine zv (aq rfl) ?_
   refine zv (RV.fa rfl) ?_
   refine zv (ln rfl) ?_
   refine zc z1 (bI O1 w5 j rb ({s with pos := (m:Int) - (((aw r).dropWhile aj).length:Int), kp := lv, k := true}:LS) ((m:Int) - ((aw r).length:Int)) 4 hj he hb5) ?_
   rintro u w6 ⟨hb6, hU6⟩
   refine ix ?_
   refine az ?_
   refine x8 ?_
   refine cB ?_
   refine bT ?_
   refine cB ?_
   refine bT ?_
   refine cB ?_
   refine bT ?_
   exact cA rfl ⟨O1, lv, _, _, _, hUt5.trans (hU6.mono (fun _ h => .inl h) hz2), hR5.upd hU6, hb6, rfl, by decide, rfl⟩
  ·rw[if_neg hnm]at hM2
   have hwd := sM hnm
   refine aS rfl ((by simpa using hnm)) ?_
   refine oz ?_
   refine ow ?_
   refine zv (ln rfl) ?_
   refine zv (GZ rfl) ?_
   refine zv (oU rfl) ?_
   refine ix ?_
   refine az ?_
   cases hnum:A7 ((aw r).takeWhile aj)with
   |none =>
    rw[hnum]at hM2
    have hM:dt r0 = .bad (aw r).length 5 := by unfold dt; rw[← hMd, ← hM2]; rfl
    rw[hM]
    refine aZ rfl rfl ?_
    refine oz ?_
    refine ow ?_
    refine zv (ln rfl) ?_
    refine zv (aq rfl) ?_
    refine zv (RV.fa rfl) ?_
    refine zv (ln rfl) ?_
    refine zc z1 (bI O1 w5 j rb ({s with pos := (m:Int) - (((aw r).dropWhile aj).length:Int), kp := lv, k := true}:LS) ((m:Int) - ((aw r).length:Int)) 5 hj he hb5) ?_
    rintro u w6 ⟨hb6, hU6⟩
    refine ix ?_
    refine az ?_
    refine x8 ?_
    refine cB ?_
    refine bT ?_
    refine cB ?_
    refine bT ?_
    refine cB ?_
    refine bT ?_
    exact cA rfl ⟨O1, lv, _, _, _, hUt5.trans (hU6.mono (fun _ h => .inl h) hz2), hR5.upd hU6, hb6, rfl, by decide, rfl⟩
   |some c =>
    rw[hnum]at hM2
    dsimp only at hM2
    have hnv:D5 ((aw r).takeWhile aj) = (c:Int) := by unfold D5; rw[hnum]
    rw[hnv]
    refine aS rfl rfl ?_
    have hq5 := hb5.q7
    refine tG ?_
    refine eh ?_
    refine az ?_
    refine ow ?_
    refine zv (ln rfl) ?_
    refine zv (ln rfl) ?_
    refine zv (aq rfl) ?_
    refine zv (RV.ld hq5 rfl) ?_
    refine zv (ln rfl) ?_
    refine K1 I7 hrow5 hR5 ((c:Int)) (fun _ => rfl) rfl rfl rfl (by simp[uY, encI]) (by omega) (by omega) (by omega) (by decide) rfl rfl ?_
    intro lv7 w7 O7 hrow7 hU7 hR7
    have hone7 := hrow7.one
    have hb7 := hb5.upd hU7 hj hne
    refine zv (aq rfl) ?_
    refine ak (j := 7) hb7 rfl (Dd _) hone7 rfl rfl rfl ?_
    have hb8 := hb7.set 7 lv7
    have hU8:tJ (fun k => k = j) O7 w7 O7 (w7.setCell ⟨rb, 7, none⟩ lv7) := vO (fun e => hj e.symm) hb7.tag rfl
    have hUt8 := (hUt5.trans (hU7.mono (fun _ h => .inr h) hz2)).trans (hU8.mono (fun _ h => .inl h) hz2)
    refine ix ?_
    refine eh ?_
    refine zxd (n, acc ++ [(c:Int)], (aw r).dropWhile aj, O7, (w7.setCell ⟨rb, 7, none⟩ lv7), lv7) (⟨hb8, hrow7.upd hU8 hji (fun e => hne e.symm), (yY _).trans hsuf3, hM2, by dsimp only; omega, by simp; omega, hUt8, hR7.upd hU8⟩)
structure St where
 ts:List R3
 li:List Int
 lk:List Int
 hi:Bool
 hk:Bool
inductive RS where
 |go (s:St)
 |bad (p:Nat) (e:Int)
 |other
def IT(st:St)(d:Nat):LM->RS
 |.ok l=>.go {st with li:=l,hi:=true}
 |.bad p e=>.bad (d-p) e
def IS(st:St)(d:Nat):LM->RS
 |.ok l=>.go {st with lk:=l,hk:=true}
 |.bad p e=>.bad (d-p) e
def IR(st:St)(d:Nat):LR->RS
 |.ok t=>.go {st with ts:=st.ts++[t]}
 |.bad p e=>.bad (d+p) e
structure Mem(O:Nat->Nat)(w:ps)(jr ji jk:Nat)(s:LS)(st:St):Prop where
 ru:∃xs,J5 cj 85 7 O w jr s.ru xs/\st.ts.length=xs.length/\xs.length<=40/\∀i,i<xs.length->Rt O w (nth st.ts i) (nth xs i)
 ig:J5 encI 3 1 O w ji s.ig st.li
 kp:J5 encI 3 1 O w jk s.kp st.lk
 fi:s.i=st.hi
 fk:s.k=st.hk
 ni:st.hi=false->s.ig=sG
 nk:st.hk=false->s.kp=sG
theorem Mem.upd{S:Nat->Prop}{O O':Nat->Nat}{w w':ps}{jr ji jk:Nat}{s:LS}{st:St}(h:Mem O w jr ji jk s st)(u:tJ S O w O' w')(h1:jr≠0)(h2:ji≠0)(h3:jk≠0)(g1:¬S jr)(g2:¬S ji)(g3:¬S jk):Mem O' w' jr ji jk s st:=by
 obtain⟨⟨xs,a1,a2,a3,a4⟩,b,c,d,e,f,g⟩:=h;exact⟨⟨xs,a1.upd u h1 g1,a2,a3,fun i hi=>(a4 i hi).upd u⟩,b.upd u h2 g2,c.upd u h3 g3,d,e,f,g⟩
theorem Mem.with{O:Nat->Nat}{w:ps}{jr ji jk:Nat}{s s':LS}{st:St}(h:Mem O w jr ji jk s st)(e1:s'.ru=s.ru)(e2:s'.ig=s.ig)(e3:s'.kp=s.kp)(e4:s'.i=s.i)(e5:s'.k=s.k):Mem O w jr ji jk s' st:=by
 obtain⟨a,b,c,d,e,f,g⟩:=h;exact⟨by rw[e1];exact a,by rw[e2];exact b,by rw[e3];exact c,by rw[e4];exact d,by rw[e5];exact e,by rw[e2];exact f,by rw[e3];exact g⟩
end Go.Proofs.YtlehnbkknlpkbaaGreatDoor
