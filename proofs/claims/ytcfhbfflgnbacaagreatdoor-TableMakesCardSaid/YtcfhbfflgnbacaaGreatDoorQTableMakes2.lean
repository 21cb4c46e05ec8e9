/- Texts that the proof of this statement needs, merged and shortened. -/
import Derived.Test.YtcfhbfflgnbacaaGreatDoorQTableMakes1
set_option linter.defProp false
open Go.Proofs.Tryz renaming sizeOf75->ix,underlying9->ln,isAgg75->Lk,zeroValue75->Lm,prog->M4,sizeOf3->Mv,sizeOf41->MY,sizeOf77->N6,sizeOf39->N7,zeroValue77->NG,zeroValue41->NH,underlying3->NI,isAgg77->NN,call164->NO,sizeOf47->NS,underlying49->Pe,underlying23->Pf,isAgg41->Pg,call165->Ph,underlying4->Px,call84->PD,call79->PE,call178->PH,call153->PI,call141->PJ,sizeOf232->PO,call85->PW,underlying61->Q0,underlying39->Q2,underlying25->Q3,underlying22->Q4,underlying21->Q5,isAgg47->Q6,call150->Q7,call16->Qf
open Go renaming World->ka,Value->Lj,TypeId->Ls,Program->Na,Operand->NQ,Oper->Pm,Exit->PU,MemPlace->PX,Edge->Q9,Code->Qa,Addr->Qb,Act->Qq
open Nat renaming le_refl->L3,le_of_eq->M6,zero_le->M9,le_succ->My,lt_succ_iff_lt_or_eq->Mz,not_lt_zero->MQ,blt->MX,min_eq_left->Nv,add_assoc->NL,add_comm->NU,mod_lt->Pn,lt_of_lt_of_le->Po
open Go.VL.Upd renaming setRow->Li,set->Lu,putObj->MO,alloc->NP,drew->P8,ofDrew->Pk,refl->PF
open Go.VL.Ret renaming enter->Ll
open Go.VL.BlkO renaming U->Ln,setRow->Lp,tag->Lr,drew->M0,rAt->Ng,fgt->PZ
open Go.World renaming setRow->Lo,setCell->M1,drew->Mq,putObj_heap_other->MA,putObj_heap_same->MI,block_lt_of_cell?->NJ,alloc_heap_new->NT,cells?_some->Pa,size_alloc->Pi,cell?_spot->Pj
open List renaming all_cons->Lq,takeWhile_prefix->LD,getElem?_eq_getElem->LK,mem_singleton->LL,length_cons->LU,all_nil->M5,getElem_append_left->M7,findIdx?_eq_some_iff_getElem->Ms,findIdx?_eq_none_iff->Mt,getElem_append_right->MC,length_reverse->ME,length_singleton->MM,getElem_of_mem->MR,length_append->MU,dropWhile_cons_of_neg->MV,drop_eq_getElem_cons->MW,range->N4,drop_of_length_le->N5,getElem_range->Nc,takeWhile_append_dropWhile->Nh,suffix_cons->Nk,getElem_mem->Nl,getElem_map->Nm,take_take->Nx,take_drop->Ny,takeWhile_cons_of_neg->Nz,drop_drop->NA,dropWhile_cons_of_pos->NB,getElem?_eq_some_iff->NF,prefix_iff_eq_take->NM,take_append_drop->NV,dropWhile_suffix->NW,mem_of_mem_drop->P3,getElem_toArray->P4,getElem_take->Pp,map_toArray->Pu,length_take->Pv,all_eq_true->Pw,find?_cons->PA,append_nil->PB,map_cons->PG,mem_map->PM,map_nil->PN
open Go.VL renaming Upd->Ly,BlkO->Mr,Ext->MS,Ret->N2,Rng->No,RowT->Nu
open Bool renaming and_eq_true->Lz,or_eq_false_iff->N9,or_eq_true->Nq,eq_iff_iff->Nr,and_eq_false_iff->NX
open Go.VL.WH renaming one->LN,done->MD,two->Pr
open Go.Result renaming andThen_ok->M8
open Go.VL.Ext renaming refl->Mp
open UInt8 renaming ofNat->Mu
open Go.VL.WI renaming region->Mw,seq->MH,skip->NC,block->Pb,ret->Pq
open Go.Sem renaming run_bind->MB,run_pure->PP,run->PQ
open Go.VL.WS renaming nil->MF,call->Qg
open Go.Utf8 renaming valid->MG,decode->N8,encode->NZ
open Go.VL.Fit renaming i64->MJ
open Go.VL.WC renaming still->MK,tail->Py,seq->PK,region->Q8,exit->Qj
open Go.DataW renaming trod->MN
open Go.VL.QF renaming dn->MP
open Classical renaming byContradiction->MT
open Go.VL.RV renaming add->MZ,indexAddr->Ni,fieldAddr->Nj,move->ND,build->Pd,load->Ql
open Go.Addr renaming add->N0,add_add->NR
open Go.Fence renaming wide->N1
open Option.some renaming inj->Nb
open Go.Proofs.YtcfhbfflgnbacaaGreatDoor renaming oneM->Nf,Reads->Pc,PostE->Pz,Known->Qc,KnownM->Qo
open Go.Ending.returned renaming inj->Nn
open Int renaming le_refl->Np
open Go.Value renaming oneCell'->Ns,bool->P7,cells->PL
open Go.Instr renaming next->Nw,storeAt->PC
open Go.VL.RowT renaming drew->NK,U->P1,nil->PY
open Go.VL.WL renaming val->NY,push->Qi
open Go.Proofs.YtcfhbfflgnbacaaGreatDoor.Nt renaming leaf->P2
open List.cons renaming injEq->P5
open Go.Deep renaming choose_lt->P6
open Go.VL.Rng renaming drew->P9,U->Ps
open Go.VL.Leave renaming mark->PS
open Go.Exit renaming noGoto->PT
open Go.Proofs.YtcfhbfflgnbacaaGreatDoor.Nd renaming kids->PV,kind->Qn
open Go.Deferred renaming ofValue->Qd
open Go.Act renaming put->Qe
open Go.VL.WQ renaming call->Qh
open Go.RoundIn renaming mono->Qk
open Go.CallsIn renaming mono->Qp
set_option maxRecDepth 10000
open Go.VL Go.Proofs Go.Proofs.Tryz
variable {α:Type}{op:Int}{us:List Lj}{l r seg:List UInt8}{v:Lj}{E T:Ls}{B a0 b fr i j jm k n rb sz:Nat}{q:Nat->Bool}{O:Nat->Nat}{c:UInt8}{w w0:ka}{xs:List α}{enc:α->List Lj}
namespace Go.VL
section
open Go.RowKit
section
variable{P:Na}{N:Nat}{ro:Option Nat}{ds:List Deferred}{Q:PU→Qq→ka→Prop}{st:St}{w:ka}
def B3{ops:Array Pm}{a1:List Pm}{t:Ls}{p:String}{e:Array Q9}{d:Nat}{x y z:NQ}{a3:Array Ls}{l:Nat}{u u2:Lj}{R:Ending->ka->Prop} 
  (hx:ev st x=some (.func (.yield l) #[] #[])) (hy:ev st y=some u) (hz:ev st z=some u2) (hc:YieldAt N1 0 P l #[u,u2] w R) (hd:MX d N=true)
  (hR:∀e w',R e w'->∃v,e=.returned v)
  (h:∀v w',R (.returned v) w'->WLI none P N ds ops Q a1 ((d,v)::st) w'):WLI none P N ds ops Q (⟨some d,.call ⟨.value x,#[y,z],a3⟩,t,p,e,none⟩::a1) st w:=by
 intro a ha;unfold wpListIn;rw[ap (cu rfl _)];refine⟨λ_ _=>trivial,?_⟩;obtain⟨fn,a0,assign,body,a4,hr⟩:=hc;have a2:(Oper.semAt (Fr none).round ({ a with defers:=ds }:Qq).eval ⟨some d,.call ⟨.value x,#[y,z],a3⟩,t,p,e,none⟩).run P w=.ok (.round l fn a0 assign body) w:=by
  rw[kW];rw[show(Fr none).round=none from rfl,Oper.semAt_none];simp only[execOp,resolve,Pu,PG,PN,ha.ev hx,ha.ev hy,ha.ev hz];simp[Qd,invoke,a4]
 rw[a2];refine⟨λhh=>by simp[N1]at hh,?_⟩;apply Qk (hr:RoundIn N1 _ P l fn a0 assign body w _);intro e' w' q;obtain⟨v,rfl⟩:=hR _ _ q;have:=h v w' q _ (ha.put hd v);simpa[Qe]using this
end
def K1(P:Na)(gf:Nat)(lb:List Lj)(ex:Nat->Lj)(enc:α->Lj)(xs:List α)(Rd:ka->Prop):Prop:=
 ∀(l:Nat) (J:Nat->ka->Prop) (Jx:ka->Prop) (W:ka),(∀i W,J i W->Rd W)->(∀i W W',J i W->MS W W'->J i W')->
  (∀i (hi:i<xs.length) W W',J i W->MS W W'->YieldAt N1 0 P l #[ex i,enc xs[i]] W' λe W2=>((e=.returned (.bool true)/\J (i+1) W2)\/(e=.returned (.bool false)/\Jx W2))/\∀b,W.heap.size<=b->b<W'.heap.size->W2.heap[b]? = W'.heap[b]?)->
  J 0 W->N2 P gf (.func (.yield l) #[] #[]::lb) W λ_ W'=>J xs.length W'\/Jx W'
def ui{P:Na}{N:Nat}{ds:List Deferred}{Q:PU->Qq->ka->Prop}{st:St}{g:NQ}{p0 p1 d0:Nat}{id:Nat}{e1 e2:Array Q9}{q1 q2:String}{t1 t2:Ls}{body:Qa} 
  {gf:Nat} {lb:List Lj} {ex:Nat->Lj} {enc:α->Lj}  {Rd:ka->Prop}
  (hg:ev st g=some (.func (.func gf) #[] lb.toArray)) (eg:∀args w,(callFunc gf args).run P w=.ok (.enter gf args) w) (it:K1 P gf lb ex enc xs Rd)
  (e':MX p0 N=true) (e9:MX p1 N=true) (f7:MX d0 N=true) {z:Lj} (hz:∀W:ka,(zeroValue T).run P W=.ok z W) 
    (r:No B O w) (L K:Nat) (hL:L≠0) (hK:K≠0) (d3:L≠K)
  (b0:∀(W:ka) (O':Nat->Nat) (b:Nat) (y:Lj) (x:α) (_:x∈xs) (ops:Array Pm) (Q':PU->Qq->ka->Prop),Mr O' W K b z.cells T->
   (∀w2,Mr O' w2 K b (enc x).cells T->Ly (λj=>j=K) O' W O' w2->WL P N ops Q' [] ((d0,nP b)::(p1,enc x)::(p0,y)::st) w2)->
   WL P N ops Q' [⟨none,.store T (.tmp d0) (.tmp p1),t2,q2,e2,none⟩] ((d0,nP b)::(p1,enc x)::(p0,y)::st) W)
  (I:Nat->(Nat->Nat)->ka->Prop) (Ix:Qa->(Nat->Nat)->ka->Prop)
  (hI:∀i O W O' W',I i O W->Ly (λj=>j=L\/j=K) O W O' W'->I i O' W') (d4:∀c O W O' W',Ix c O W->Ly (λj=>j=L) O W O' W'->Ix c O' W')
  (g1:∀i O W,I i O W->Rd W) (h0:I 0 O w)
  (b6:∀l i (hi:i<xs.length) b O' W,No B O' W->I i O' W->Mr O' W K b (enc xs[i]).cells T->
   WI (some l) P N [] body (CO O' W L (I (i+1)) Ix) ((d0,nP b)::(p1,enc xs[i])::(p0,ex i)::st) W)
  (b5:∀D O' W,No B O' W->O' D=L->I xs.length O' W->W.heap[D]? = some (.deferred (some []))->QI N ({ target:=.collected D,args:=#[] }::ds) Q .normal st W)
  (hstop:∀D c O' W,No B O' W->O' D=L->Ix c O' W->W.heap[D]? = some (.deferred (some []))->WI none P N ({ target:=.collected D,args:=#[] }::ds) c Q st W) :
  WI none P N ds (.rangeFunc g #[p0,p1] (.region id #[⟨some d0,.alloc T,t1,q1,e1,none⟩,⟨none,.store T (.tmp d0) (.tmp p1),t2,q2,e2,none⟩] false) body) Q st w:=by
 intro a ha;apply wpIn_rangeFunc;intro fn g7;rw[show(Fr none).round=none from rfl];obtain⟨D,hD⟩:∃D,D=w.heap.size:=⟨_,rfl⟩
 obtain⟨e8,b8⟩:∃c,c=Code.region id #[⟨some d0,.alloc T,t1,q1,e1,none⟩,⟨none,.store T (.tmp d0) (.tmp p1),t2,q2,e2,none⟩] false:=⟨_,rfl⟩
 rw[<-b8];obtain⟨a5,a2⟩:∃a5:LoopState->Option Qa->Loop,a5=λst pe=>{ state:=st,pending:=pe,fn,tmps:=a.tmps,params:=#[p0,p1],assign:=e8,body,defers:=D }:=⟨_,rfl⟩
 obtain⟨W1,b'⟩:∃W1,(w.alloc (.deferred (some []))).alloc (.loop (a5 .ready none))=W1:=⟨_,rfl⟩
 obtain⟨O1,d2⟩:∃O1,og (og O D L) (D+1) L=O1:=⟨_,rfl⟩
 have d6:¬(λj=>j=L) 0:=λe=>hL e.symm
 have e5:Ly (λj=>j=L) O w (og O D L) (w.alloc (.deferred (some []))):=by rw[hD];exact NP d6 r _ L
 have e6:Ly (λj=>j=L) O w O1 W1:=by
  rw[<-b',<-d2];apply e5.J;have:=NP (S:=λj=>j=L) d6 (r.U e5) (.loop (a5 .ready none)) L
  rwa[Pi,<-hD]at this
 have g2:No B O1 W1:=r.U e6;have g3:W1.heap[D+1]? = some (.loop (a5 .ready none)):=by
  rw[<-b',hD];have:=NT (w.alloc (.deferred (some []))) (.loop (a5 .ready none));rwa[Pi]at this
 have g4:W1.heap[D]? = some (.deferred (some [])):=by
  rw[<-b',hD];exact(Below.heap_alloc _ _ _ (by simp)).J (NT w _)
 have hO1D:O1 D=L:=by rw[<-d2];unfold og;rw[am zo,ap rfl]
 have hO1L:O1 (D+1)=L:=by rw[<-d2];exact fJ _ _ _
 have g5:I 0 O1 W1:=hI _ _ _ _ _ h0 (e6.mono (λ_ h=>.inl h) (by rintro(h|h);exact hL h.symm;exact hK h.symm))
 refine⟨D+1,[{ target:=.collected D,args:=#[] }],W1,{ target:=.fn (.func gf) lb.toArray,args:=#[.func (.yield (D+1)) #[] #[]] },W1,gf,
  #[.func (.yield (D+1)) #[] #[]]++lb.toArray,W1,?_,?_,λ_ _=>trivial,?_,λhh=>by simp[N1]at hh,?_⟩
 ·rw[<-b',a2,hD];exact run_enterLoop_outer _ _ _ _ _
 ·simp only[resolve,ha.evD hg ds];simp[go_sem]
 ·simp[invoke,go_sem,eg]
 have hJ:=it (D+1)
  (λi W=>∃O',No B O' W/\O' D=L/\O' (D+1)=L/\I i O' W/\W.heap[D+1]? = some (.loop (a5 .ready none))/\W.heap[D]? = some (.deferred (some [])))
  (λW=>∃c O',No B O' W/\O' D=L/\O' (D+1)=L/\Ix c O' W/\W.heap[D+1]? = some (.loop (a5 .done (some c)))/\W.heap[D]? = some (.deferred (some [])))
  W1 (λi W ⟨O',_,_,_,h,_⟩=>g1 i O' W h) (λi W W' ⟨O',h1,h2,h3,h4,h5,h6⟩ hE=>⟨O',h1.ext hE,h2,h3,hI _ _ _ _ _ h4 (aa (by rintro(h|h);exact hL h.symm;exact hK h.symm) _ hE),(hE.block _ (bH h5)).J h5,(hE.block _ (bH h6)).J h6⟩) ?_ ⟨O1,g2,hO1D,hO1L,g5,g3,g4⟩
 ·unfold N2 at hJ;rw[show(Value.func (.yield (D+1)) #[] #[]::lb).toArray = #[.func (.yield (D+1)) #[] #[]]++lb.toArray from by simp]at hJ;apply Qp (callsIn_wide.2 hJ:CallsIn N1 _ P gf _ W1 _);rintro e W2 q
  cases e with
  |returned v=>
   rcases q with⟨O',a7,b2,b1,hi,hl,hk⟩|⟨c,O',a7,b2,b1,hi,hl,hk⟩
   ·refine⟨none,_,by have:=run_endLoop (P:=P) hl (by rw[a2];simp);rw[a2]at this;exact this,?_⟩;have b3:=MO hL b1 (w:=W2) (.loop { a5 .ready none with state:=.exhausted });rw[a2]at b3;have:=b5 D O' _ (a7.U b3) b2 (hI _ _ _ _ _ hi (b3.mono (λ_ h=>.inl h) (by rintro(h|h);exact hL h.symm;exact hK h.symm))) ((MA zo).J hk) a ha;exact this
   refine⟨some c,_,by have:=run_endLoop (P:=P) hl (by rw[a2];simp);rw[a2]at this;exact this,?_⟩;have b3:=MO hL b1 (w:=W2) (.loop { a5 .done (some c)with state:=.exhausted });rw[a2]at b3;exact hstop D c O' _ (a7.U b3) b2 (d4 _ _ _ _ _ hi b3) ((MA zo).J hk) a ha
  |panicked c=>exact q.elim
  |outgrown=>exact q.elim
 rintro i hi W0 W ⟨O',e7,b2,b1,c8,c7,e0⟩ c5;have a7:=e7.ext c5;have f6:=hI _ _ _ _ _ c8 (aa (S:=λj=>j=L\/j=K) (by rintro(h|h);exact hL h.symm;exact hK h.symm) O' c5);have hl:=(c5.block _ (bH c7)).J c7;have hk:=(c5.block _ (bH e0)).J e0;have g6:=bH c7;have hy:=run_yield (P:=P) (args:=#[ex i,enc xs[i]]) hl (by rw[a2];rfl);rw[a2]at hy;refine⟨fn,_,e8,body,hy,roundIn_of_wpIn trivial ?_⟩;have c9:Fits N ((a.put (some p0) (ex i)).put (some p1) (enc xs[i])) ((p1,enc xs[i])::(p0,ex i)::st):=(ha.put e' _).put e9 _;have d1:({ tmps:=(#[p0,p1].zip #[ex i,enc xs[i]]).foldl (λtmps (t,a)=>tmps.setIfInBounds t a) a.tmps,defers:=[] }:Qq) = { (a.put (some p0) (ex i)).put (some p1) (enc xs[i])with defers:=[] }:=by simp[Qe]
 rw[d1];rw[b8];refine(Mw (ro:=some (D+1)) (ds:=[]) (P:=P) (N:=N) (.inr rfl) (λ_ _ h=>h) ?_:WI (some (D+1)) P N [] _ _ ((p1,enc xs[i])::(p0,ex i)::st) W) _ c9;apply au a7 K hK (hz W) f7;intro b w1 O2 hb g0 g9 g';apply b0 w1 O2 b (ex i) xs[i] (Nl hi) _ _ hb;intro w2 b7 f';refine WL.nil (MP ?_);intro a3 f9;have c6:D+1<W.heap.size:=(Array.getElem?_eq_some_iff.1 hl).1;have b9:Ly (λj=>j=K) O' W O2 w2:=g0.J f';have d9:w2.heap[D+1]? = some (.loop (a5 .ready none)):=(b9.blk (D+1) c6 (by rw[b1];exact d3)).J hl;have f5:w2.heap[D]? = some (.deferred (some [])):=(b9.blk D zo (by rw[b2];exact d3)).J hk;have ho2L:O2 (D+1)=L:=(b9.tag (D+1) (by rw[b1];exact hL)).J b1;have ho2D:O2 D=L:=(b9.tag D (by rw[b2];exact hL)).J b2;refine⟨_,run_beginRound d9 (by rw[a2]),?_⟩;have e4:=MO hL ho2L (w:=w2) (.loop { a5 .ready none with state:=.busy });have a':¬(λj=>j=L\/j=K) 0:=by rintro(h|h);exact hL h.symm;exact hK h.symm
 have a1:Ly (λj=>j=L\/j=K) O' W O2 (w2.putObj (D+1) (.loop { a5 .ready none with state:=.busy })):=(b9.mono (λ_ h=>.inr h) a').J (e4.mono (λ_ h=>.inl h) a');have d8:(w2.putObj (D+1) (.loop { a5 .ready none with state:=.busy })).heap[D+1]? = some (.loop { a5 .ready none with state:=.busy }):=MI (bH d9);have d':(w2.putObj (D+1) (.loop { a5 .ready none with state:=.busy })).heap[D]? = some (.deferred (some [])):=(MA zo).J f5;have c':=b6 (D+1) i hi b O2 _ (a7.U a1) (hI _ _ _ _ _ f6 a1) (b7.U e4 hK (λe=>d3 e.symm)) a3 f9;generalize w2.putObj (D+1) (.loop { a5 .ready none with state:=.busy })=w3 at *;apply wpIn_mono c';have d5:∀(a0:Option Qa) (O4:Nat->Nat) (w4:ka),Ly (λj=>j≠0/\j≠L) O2 w3 O4 w4->
   (Instr.endRound (D+1) a0).run P w4=.ok (.bool a0.isNone) (w4.putObj (D+1) (.loop (a5 (if a0.isNone then .ready else .done) a0)))/\
   Ly (λj=>j=L) O4 w4 O4 (w4.putObj (D+1) (.loop (a5 (if a0.isNone then .ready else .done) a0)))/\O4 D=L/\O4 (D+1)=L/\
   (w4.putObj (D+1) (.loop (a5 (if a0.isNone then .ready else .done) a0))).heap[D+1]? = some (.loop (a5 (if a0.isNone then .ready else .done) a0))/\
   (w4.putObj (D+1) (.loop (a5 (if a0.isNone then .ready else .done) a0))).heap[D]? = some (.deferred (some [])):=by
  intro a0 O4 w4 a6;have d7:=(a6.blk (D+1) (bH d8) (by rw[ho2L];exact λh=>h.2 rfl)).J d8;have f4:=(a6.blk D (bH d') (by rw[ho2D];exact λh=>h.2 rfl)).J d';have ho4D:O4 D=L:=(a6.tag D (by rw[ho2D];exact hL)).J ho2D;have ho4L:O4 (D+1)=L:=(a6.tag (D+1) (by rw[ho2L];exact hL)).J ho2L;have:=run_endRound (P:=P) a0 d7;rw[a2]at this ⊢;exact⟨this,MO hL ho4L _,ho4D,ho4L,MI (bH d7),(MA zo).J f4⟩
 have a9:∀(O4:Nat->Nat) (w4:ka) (o:Obj),Ly (λj=>j≠0/\j≠L) O2 w3 O4 w4->∀b,W0.heap.size<=b->b<W.heap.size->(w4.putObj (D+1) o).heap[b]? = W.heap[b]?:=by
  intro O4 w4 o a6 b g8 b7;have e3:O' b=0:=MT λf3=>by have:=(e7.rng b f3).2;omega
  have f8:=a1.zero b7 e3;have e1:=a1.blk b b7 (by rw[e3];rintro(h|h);exact hL h.symm;exact hK h.symm);have e2:=a6.blk b (Po b7 a1.size) (by rw[f8];exact λh=>h.1 rfl);rw[MA zo,e2,e1]
 rintro e a4 w4 q
 cases e with
 |normal=>
  obtain⟨O4,a6,b4⟩:=q;obtain⟨hr,a8,h1,h2,h3,h4⟩:=d5 none O4 w4 a6;exact⟨_,_,hr,.inl ⟨rfl,O4,((a7.U a1).U a6).U a8,h1,h2,hI _ _ _ _ _ b4 (a8.mono (λ_ h=>.inl h) a'),h3,h4⟩,a9 O4 w4 _ a6⟩
 |ret=>
  obtain⟨O4,a6,b4⟩:=q;obtain⟨hr,a8,h1,h2,h3,h4⟩:=d5 (some .ret) O4 w4 a6;exact⟨_,_,hr,.inr ⟨rfl,.ret,O4,((a7.U a1).U a6).U a8,h1,h2,d4 _ _ _ _ _ b4 a8,h3,h4⟩,a9 O4 w4 _ a6⟩
 |exit id'=>
  obtain⟨O4,a6,b4⟩:=q;obtain⟨hr,a8,h1,h2,h3,h4⟩:=d5 (some (.exit id')) O4 w4 a6;exact⟨_,_,hr,.inr ⟨rfl,.exit id',O4,((a7.U a1).U a6).U a8,h1,h2,d4 _ _ _ _ _ b4 a8,h3,h4⟩,a9 O4 w4 _ a6⟩
 |_=>exact q.elim
end
end Go.VL
namespace Go.VL
section
variable{P:Na}{N:Nat}{ops:Array Pm}{Q:PU→Qq→ka→Prop}{rest:List Pm}{st:St}{w:ka}
variable{t:Ls}{p:String}{e:Array Q9}{d:Nat}{x y z:NQ}
def bd(he:Elem P T E sz a0)(r:No B O w)(i:Nat)(a6:i≠0)(u:α){xv:Lj}(hx:ev st x=some xv)(a2:xv.cells.toList=enc u)(a3:(enc u).length=sz)(hs:sz<=16777216)(hd:MX d N=true) 
  (h:∀v w' O',Nu enc E sz O' w' i v [u]->Ly (λk=>k=i) O w O' w'->No B O' w'->WL P N ops Q rest ((d,v)::st) w'):WL P N ops Q (⟨some d,.buildSlice T 1 #[(0,x)],t,p,e,none⟩::rest) st w:=by
 obtain⟨a4,z,hi,hz,a1,a9,a8⟩:=he.parts;have a7:xv.cells.size=sz:=by rw[<-a3,<-a2];simp
 have a5:=he.pos;have u1:=NP (S:=λk=>k=i) (λe=>a6 e.symm) r (.cells xv.cells E) i;refine NY (v:=.slice (some ⟨w.heap.size,0,none⟩) 1 1) (w':=w.alloc (.cells xv.cells E)) hd (λa ha=>?_) (h _ _ (og O w.heap.size i) ⟨⟨?_,λg hg=>?_⟩,λc hc=>by rw[LL.1 hc];exact a3⟩ u1 (r.U u1))
 ·have:=run_buildSlice (P:=P) w T E 1 #[(0,xv)] xv.cells a4 z he.ht hi hz (by rw[a1];omega) (by rw[a1];omega) (by
   rw[a1]
   exact oV a7 (by simp))
  simp only[execOp,Pu,PG,PN,ha.ev hx,MB,this,M8];rfl
 ·have:=World.ownsRow_lit (base:=0) (size:=sz) (e:=E) w xv.cells 1 (M9 _) (by simp[maxLen]) zo;simpa[a2]using this
 simp[Value.ownBlock]at hg;subst hg;exact fJ _ _ _
end
section
variable{P:Na}{N:Nat}{st:St}{w:ka}{fn:Func}{R:Lj→ka→Prop}
def jK{t:Tmp}{q:Qb}(hr:fn.results = #[.cell t T])(hv:cQ st t=some (.pointer (some q))) 
  (hc:∀j u,us[j]? = some u->w.cell? (q.add j)=some u) (hT:(isAgg T).run P w=.ok true w) (hn:(sizeOf T).run P w=.ok us.length w) (h:R (.agg us.toArray) w):Leave P N fn R [] st w:=
 Leave.nil (λa ha=>by have h1:=ha.get _ _ hv;simp[results,hr,Array.getD_eq_getD_getElem?,h1,asAddr,ef hc hT hn]) h
end
end Go.VL
namespace Go.Proofs.YtcfhbfflgnbacaaGreatDoor
def xz(q:Option Qb)(n c:Nat)(w:ka):N2 M4 221 [.slice q n c] w λv w'=>∃b,v=.func (.func 222) #[] #[nP b]/\w'.cell? ⟨b,0,none⟩=some (.slice q n c)/\w.heap.size<=b/\MS w w':=by
 apply Ll func221 ntmps221 rfl rfl;refine zh ?_
 apply aI (aw w) 1 zo rfl rfl;intro b w1 O1 hb a2 a0 a1;refine zh ?_
 refine zvH (eZ rfl rfl) ?_;refine af rfl rfl ⟨b,rfl,hb.cell 0 rfl,(a0.rng b (by rw[hb.tag];decide)).1,a1⟩
def CQ[Inhabited α]{l:List α}(h:i<l.reverse.length):l.reverse[i]=nth l (l.length-1-i):=by
 rw[ME]at h;rw[List.getElem_reverse,aB zo]
def qY(kv:Lj)(ms:List M3)(b:Nat):K1 M4 222 [nP b] (λi=>nI ((ms.length:Int)-1-(i:Int))) (λm:M3=>.agg (mT m).toArray) ms.reverse (λW=>W.cell? ⟨b,0,none⟩=some kv/\Sl mT 4 W kv ms):=by
 intro lp J Jx W a3 a9 hY h0;obtain⟨a8,a4⟩:=a3 _ _ h0;have a6:=a4.len_le;have a5:ms.reverse.length=ms.length:=ME;apply sL func222 ntmps222 rfl rfl;apply MH;apply Mw (.inl rfl) (λ_ _ h=>h);refine zh ?_;apply MP;apply bq;apply Pb;apply WI.loop (λx:Nat×ka×Int=>[(0,.func (.yield lp) #[] #[]),(1,nP b),(3,nI x.2.2)]) (λx:Nat×ka×Int=>x.2.1) (λx:Nat×ka×Int=>x.1<=ms.length/\J x.1 x.2.1/\x.2.2=(ms.length:Int)-1-(x.1:Nat)) (λx:Nat×ka×Int=>ms.length-x.1) (0,W,(ms.length:Int)-1) ⟨M9 _,h0,by dsimp only;omega⟩ ⟨rfl,rfl,rfl,trivial⟩ rfl;rintro⟨i,w1,z⟩ ⟨hi,hJ,hz⟩;dsimp only at hi hJ hz ⊢;subst hz;obtain⟨hb,hs⟩:=a3 _ _ hJ;apply MH;apply MH;apply Mw (.inl rfl) (λ_ _ h=>h);refine zh ?_;apply MP;apply bq;refine WI.cond rfl ?_ ?_
 ·intro a0;replace a0:i<ms.length:=dT a0;have hy:=hY i zo w1 w1 hJ (Mp _);rw[CQ]at hy;dsimp only at hy;apply NC;apply bq;apply MH;apply Pb;apply MH;apply zz 6 (.inl rfl) (λ_ _ h=>h);refine zh ?_;apply zv (Ni hs underlying156 (PO _) rfl rfl (ms.length-1-i) zo zo);refine zvH (ah (us:=mT (nth ms (ms.length-1-i))) (λj u hu=>hs.cell zo hu) (isAgg232 _) (PO _) rfl) ?_;refine MP (JR ?_);apply B3 rfl rfl rfl hy rfl (by rintro e w' ⟨⟨rfl,_⟩|⟨rfl,_⟩,_⟩<;>exact⟨_,rfl⟩);rintro v w5 ⟨⟨e,a1⟩|⟨e,a1⟩,a7⟩
  ·obtain rfl:=Nn e;apply Iy (.inl rfl) (λ_ _ h=>h);refine zh ?_;apply MP;apply bq;apply mN rfl rfl;apply NC;apply dJ;apply bq;apply Mw (.inl rfl) (λ_ _ h=>h);refine zh ?_;apply MP;refine QI.next ((i+1,w5,(ms.length:Int)-1-(i:Int)-1)) ⟨a0,a1,by dsimp only;omega⟩ (by dsimp only;omega) ⟨rfl,rfl,rfl,trivial⟩ rfl
  obtain rfl:=Nn e;apply Iy (.inl rfl) (λ_ _ h=>h);refine zh ?_;apply MP;apply bq;apply uj rfl rfl;apply Pq;apply iJ;apply ko;apply ko;apply iJ;exact mR (qE rfl (.inr a1))
 intro a2;replace a2:¬i<ms.length:=dF a2;obtain rfl:i=ms.length:=zo;apply WI.exit;apply qA;apply qA;apply zJ;exact mR (qE rfl (.inl (by rw[a5];exact hJ)))
section
variable{kv:Lj}{kn:Kn}
def cells_from{vs:List Lj}(k:Nat)(h:∀(j:Nat) (u:Lj),us[j]? = some u->w.cell? (nA b j)=some u)(hv:∀(q:Nat) (u:Lj),vs[q]? = some u->us[k+q]? = some u):∀(q:Nat) (u:Lj),vs[q]? = some u->w.cell? ((nA b k).add q)=some u:=λq u hu=>by
 have h1:=h (k+q) u (hv q u hu);have e:((nA b k).add q)=((⟨b,0,none⟩:Qb).add (k+q)):=by
  simp only[N0];(repeat' split)<;>simp_all[]
 rw[e];exact h1
def KnownM.ex{ms:List M3}(h:Qo O w kv kn ms):Qc O w kv kn:=⟨ms,h⟩
def Jn{ms:List M3}(h:Qo O w kv kn ms){x:M3}(hx:x∈ms.reverse):(mT x).toArray.toList.all Ns=true:=by
 obtain⟨i,hi,e⟩:=MR (List.mem_reverse.1 hx);have h1:=(h.2.2.2 i hi).2.one;rw[aB hi,e]at h1;simp only[mT,Lq,h1];rfl
def DS[Inhabited α]{p:α->Bool}{l:List α}(h:∀q,q<l.length->p (nth l q)=false):l.find? p=none:=by
 rw[List.find?_eq_none];intro x hx;obtain⟨i,hi,rfl⟩:=MR hx;have:=h i hi;rw[aB hi]at this;rw[this];decide
def DT{α:Type}[Inhabited α]{p:α->Bool}:∀ {l:List α} {k:Nat},k<l.length->(∀q,q<k->p (nth l q)=false)->p (nth l k)=true->l.find? p=some (nth l k)
 |[],k,hk,_,_=>absurd hk (by simp)
 |a::l,0,_,_,hp=>by rw[ao]at hp ⊢;rw[PA,hp]
 |a::l,k+1,hk,h,hp=>by
  have h0:=h 0 zo;rw[ao]at h0;rw[aW]at hp ⊢;rw[PA,h0];exact DT (by simpa using hk) (λq hq=>by have:=h (q+1) zo;rwa[aW]at this) hp
def Jf[Inhabited α]{l:List α}(h:i<l.length):nth l.reverse i=nth l (l.length-1-i):=by
 rw[aB (by rw[ME];exact h),CQ]
def Da(op:Int)(h':0<=op/\op<=20):Pc kv kn 217 [] op (iM kn) (λr=>aq (r.headD 0)=true):=by
 intro B O j rb l r w hR hj hr hl h9 h i3;obtain⟨T,a1,hT⟩:=hR.bound;have j5:j<T:=by rw[<-h.tag];exact hT rb
 have j4:=hr.length_le;apply sL func217 ntmps217 rfl rfl;apply MH;apply Mw (.inl rfl) (λ_ _ h=>h);apply au hR T zo (Lm _) rfl;intro xb w1 O1 h0 g0 j3 k0;have f9:=h.U g0 hj zo;refine zh ?_;apply MP;apply bq;apply MH;apply Mw (.inl rfl) (λ_ _ h=>h);refine zh ?_;refine zvH (RV.ld f9.r1 rfl) ?_;apply MP;apply bq;apply MH;apply Mw (.inl rfl) (λ_ _ h=>h);refine zh ?_;apply zc call220 (Al O1 w1 j rb l r op 0 0 hj hr zo f9);rintro v w2 ⟨rfl,i9,e1⟩;have g':=h0.U e1 zo zo;have g5:=j3.U e1;have i':=(g0.pT hj a1 (L3 _)).J (e1.pj a1);apply au g5 (T+1) zo (zeroValue9 _) rfl;intro sb w3 O3 d5 j1 j9 j';apply aj (j:=0) d5 rfl (sizeOf9 _) rfl rfl rfl rfl;have e4:=d5.set 0 (.string (bs (r.takeWhile aq)));have j0:Ly (λk=>k=T+1) O3 w3 O3 (w3.setCell ⟨sb,0,none⟩ (.string (bs (r.takeWhile aq)))):=Lu zo d5.tag rfl;have a8:=j1.J j0;have c6:=g'.U a8 zo zo;have d9:=i9.U a8 hj zo;have g4:=g5.U a8;have b0:=i'.J (a8.pT hj a1 (My _));generalize w3.setCell ⟨sb,0,none⟩ (.string (bs (r.takeWhile aq)))=w4 at *;refine zh ?_;apply MP;apply bq;apply MH;apply MH;apply Mw (.inl rfl) (λ_ _ h=>h);apply zv (RV.ld (e4.cell 0 rfl) rfl);refine zvH (dC rfl rfl) ?_;apply MP;apply bq
 by_cases ha:r.takeWhile aq=[97,110,121]
 ·have hM:iM kn r=.ok (.mk 1 0 []) (r.dropWhile aq):=by unfold iM;rw[ap ha]
  apply uj rfl ((by rw[ha];rfl));apply MH
  apply Mw (.inl rfl) (λ_ _ h=>h);apply zv (aH Ab (Lm _) rfl (by first|rfl|(simp only[Lq,M5];rfl)) rfl rfl)
  apply zsa (us:=(#[nI 1,nI 0,nS])) c6 (ix _);have d3:=Lp (us:=(#[nI 1,nI 0,nS])) c6;have f':Ly (λk=>k=T) O3 w4 O3 (Lo w4 xb (#[nI 1,nI 0,nS])):=Li zo (Lr c6) rfl;have d8:=Ln d9 f' hj zo;refine zh ?_
  apply MP;apply bq
  apply Pq;apply ko
  refine mR (jK rfl rfl d3.V (Lk _) (ix _) ⟨(1,0,nS),rfl,(b0.J (f'.pT hj a1 (L3 _))).priv hT hj,?_⟩);rw[hM];exact⟨d8.fgt h.tag,P2 _ _ _ _⟩
 obtain⟨ms,c9⟩:=i3.U b0;obtain⟨qa,qc,f3,_⟩:=c9.1.shape;have i2:=c9.1.len_le;have i4:kn.length=ms.length:=c9.2.2.1;apply mN rfl ((by simpa using ha));subst f3;apply NC;apply bq;apply MH;apply MH;apply Mw (.inl rfl) (λ_ _ h=>h);refine zh ?_;apply zv (RV.ld d9.r2 rfl);apply zc call221 (xz qa ms.length qc w4);rintro v w5 ⟨b,rfl,i8,j8,g7⟩;have b8:Ly (λ_=>False) O3 w4 O3 w5:=aa (λh=>h) O3 g7;have d3:=c6.U b8 zo (λh=>h);have h8:=e4.U b8 zo (λh=>h);have d8:=d9.U b8 hj (λh=>h);have j2:=g4.U b8;have f7:=c9.U b8;have e0:=b0.J (kI O3 g7 hj a1);have i7:Fixed O3 w5 ⟨b,0,none⟩ (.slice qa ms.length qc):=⟨i8,MT λi0=>by have:=(g4.rng b i0).2;omega⟩
 generalize f3:Value.slice qa ms.length qc=kv at *;generalize c7:r.takeWhile aq=sw at *;have e5:∀ {S:Nat->Prop} {O' O2:Nat->Nat} {W W':ka},Ly S O' W O2 W'->(∀k,S k->T<=k)->Ly (λk=>k=j\/T<=k) O' W O2 W':=λh hS=>h.mono (λk hk=>.inr (hS k hk)) (λe=>by rcases e with e|e;exact hj e.symm;omega)
 refine zh ?_;apply MP
 apply bq;apply Pb
 refine ui (L:=T+2) (K:=T+3) rfl call222 (qY kv ms b) rfl rfl rfl (λW=>zeroValue232 W) j2 zo zo zo (λW O' pb y x hx ops Q' hb h=>bQ (us:=(mT x).toArray) hb rfl (PO _) (Jn f7 hx) rfl rfl rfl (h _ hb.setRow (Li zo hb.tag rfl))) (λk O' W=>Ly (λp=>p=j\/T<=p) O w O' W/\Mr O' W T xb #[nI 0,nI 0,nS] 75/\Mr O' W (T+1) sb #[.string (bs sw)] 9/\Rdr kv O' W j rb l ((l.length:Int)-((r.dropWhile aq).length:Int)) op 0 0/\Fixed O' W ⟨b,0,none⟩ kv/\Qo O' W kv kn ms/\∀q,q<k->Gj sw (nth kn.reverse q)=false) (λc O' W=>c=.ret/\Ly (λp=>p=j\/T<=p) O w O' W/\Rdr kv O' W j rb l ((l.length:Int)-((r.dropWhile aq).length:Int)) op 0 0/\∃m x,kn.reverse.find? (Gj sw)=some m/\Nt O' W m.2 x/\Mr O' W T xb #[nI x.1,nI x.2.1,x.2.2] 75) (λi O' W O2 W' ⟨h1,h2,h3,h4,h5,h6,h7⟩ hU=>⟨h1.J (e5 hU (λk hk=>zo)),h2.U hU zo zo,h3.U hU zo zo,h4.U hU hj zo,h5.U hU,h6.U hU,h7⟩) (λc O' W O2 W' ⟨h1,h2,h3,m,x,h4,h5,h6⟩ hU=>⟨h1,h2.J (e5 hU (λk hk=>zo)),h3.U hU hj zo,m,x,h4,h5.U hU,h6.U hU zo zo⟩) (λi O' W ⟨_,_,_,_,h5,h6,_⟩=>⟨h5.cell,h6.1⟩) ⟨e0,d3,h8,d8,i7,f7,λq hq=>absurd hq zo⟩ ?_ ?_ ?_
 ·rintro lp i hi pb O6 w6 d0 ⟨b3,b1,c8,a',d6,b6,a3⟩ b2;rw[ME]at hi;have i5:ms.length-1-i<ms.length:=zo;obtain⟨m,e8⟩:∃m,m=nth ms (ms.length-1-i):=⟨_,rfl⟩
  obtain⟨g1,g2⟩:=b6.2.2.2 _ i5;replace b2:Mr O6 w6 (T+3) pb (mT m).toArray 232:=by have:=b2;rw[CQ,<-e8]at this;exact this
  rw[<-e8]at g1 g2;have f4:nth kn.reverse i=nth kn (ms.length-1-i):=by rw[Jf zo,i4]
  have b5:Gj sw (nth kn.reverse i)=false->∀q,q<i+1->Gj sw (nth kn.reverse q)=false:=λh q hq=>by
   by_cases e:q=i
   ·rw[e];exact h
   exact a3 q zo
  have a0:Gj sw (nth kn.reverse i)=((m.1==sw&&aZ (nth kn (ms.length-1-i)).2)&&((nth kn (ms.length-1-i)).2.kind != 9)):=by
   unfold Gj;rw[f4,g1]
  have f5:m.2.1=(nth kn (ms.length-1-i)).2.kind:=g2.kind;generalize nth kn (ms.length-1-i)=km at *;have j7:=b2.cell 0 rfl;have hz:Ly (λp=>p≠0/\p≠T+2) O6 w6 O6 w6:=PF zo _ _;apply Pb;apply MH;apply Mw (.inr rfl) (λ_ _ h=>h);refine zh ?_;apply zv (RV.ld (b2.cell 0 rfl) rfl);apply zv (RV.ld (c8.cell 0 rfl) rfl);refine zvH (dC rfl rfl) ?_
  cases h1:(m.1==sw)with
  |false=>
   rw[h1]at a0;apply ax (d:=30) rfl (b':=false) rfl;refine zh ?_;apply MP;apply bq;apply mN rfl rfl;apply NC;apply dJ;exact jJ O6 hz ⟨b3,b1,c8,a',d6,b6,b5 (by rw[a0];rfl)⟩
  |true=>
   rw[h1]at a0;apply ax (d:=30) rfl (b':=true) rfl;have d7:∀W:ka,(∀(j:Nat) (u:Lj),(mT m)[j]? = some u->W.cell? (nA pb j)=some u)->∀(q:Nat) (u:Lj),(aY m.2)[q]? = some u->W.cell? ((nA pb 1).add q)=some u:=λW h=>cells_from (us:=mT m) 1 h (λq u hu=>by rw[NU];exact hu)
   refine zh ?_;refine zvH (ah (us:=aY m.2) (d7 _ b2.V) (Lk _) (ix _) rfl) ?_
   apply zc PD (gS km.2 m.2 w6 g2.zero);rintro v w7 ⟨rfl,g6⟩;have a4:Ly (λ_=>False) O6 w6 O6 w7:=aa (λh=>h) O6 g6;have a2:=b1.U a4 zo (λh=>h);have e3:=c8.U a4 zo (λh=>h);have b7:=a'.U a4 hj (λh=>h);have e6:=b2.U a4 zo (λh=>h);have g3:=d0.U a4;have f6:=b6.U a4;have f8:=d6.U a4;have e7:=g2.U a4;have a7:=b3.J (kI O6 g6 hj a1);have d1:Ly (λp=>p≠0/\p≠T+2) O6 w6 O6 w7:=a4.mono (λ_ h=>h.elim) zo;refine zh ?_
   cases h2:aZ km.2 with
   |false=>
    rw[h2]at a0;apply ax (d:=35) rfl (b':=false) rfl;refine zh ?_;apply MP;apply bq;apply mN rfl rfl;apply NC;apply dJ;exact jJ O6 d1 ⟨a7,a2,e3,b7,f8,f6,b5 (by rw[a0];rfl)⟩
   |true=>
    rw[h2]at a0;apply ax (d:=35) rfl (b':=true) rfl;have j6:w7.cell? ((nA pb 1).add 0)=some (nI m.2.1):=d7 _ e6.V 0 _ rfl;refine zh ?_;apply MP;apply bq
    cases h3:(km.2.kind != 9)with
    |false=>
     rw[h3]at a0;apply mN rfl ((by rw[f5];exact h3));apply NC;apply dJ;exact jJ O6 d1 ⟨a7,a2,e3,b7,f8,f6,b5 (by rw[a0];rfl)⟩
    |true=>
     rw[h3]at a0;apply uj rfl ((by rw[f5];exact h3));have d2:=e7.one;apply MH;apply Mw (.inr rfl) (λ_ _ h=>h);refine zh ?_;apply zv (ah (us:=aY m.2) (d7 _ e6.V) (Lk _) (ix _) rfl);apply zsb (us:=#[nI m.2.1,nI m.2.2.1,m.2.2.2]) a2 (ix _) (cH d2);have b4:=a2.setRow (us:=#[nI m.2.1,nI m.2.2.1,m.2.2.2]);have a6:Ly (λk=>k=T) O6 w7 O6 (w7.setRow xb #[nI m.2.1,nI m.2.2.1,m.2.2.2]):=Li zo a2.tag rfl;refine zh ?_;apply MP;apply bq;apply Pq;apply iJ;exact zI O6 (d1.J (a6.mono (λ_ h=>zo) zo)) ⟨rfl,a7.J (a6.pT hj a1 (L3 _)),b7.U a6 hj zo,_,m.2,by rw[DT (by rw[ME];omega) a3 (by rw[a0];rfl),f4],e7.U a6,b4⟩
 ·rintro D O6 w6 d0 e2 ⟨b3,b1,c8,a',d6,b6,a3⟩ hm;have hM:iM kn r=ez 0 r:=by
   exact yC (by rw[c7];exact ha) (by rw[c7];exact DS (λq hq=>a3 q (by simp at hq ⊢;omega)))
  have d':=b3;apply dJ;apply bq;apply MH;apply Mw (.inl rfl) (λ_ _ h=>h);refine zh ?_;apply aj (j:=1) a' rfl (Mv _) rfl rfl rfl rfl;have b7:=a'.rAt ((l.length:Int)-(r.length:Int));have a7:Ly (λk=>k=j) O6 w6 O6 (w6.setCell ⟨rb,1,none⟩ (nI ((l.length:Int)-(r.length:Int)))):=Lu (λe=>hj e.symm) a'.tag rfl;have a2:=b1.U a7 zo zo;have g3:=d0.U a7;have e':=(a7.blk D (bH hm) zo).J hm;have b9:=d'.J (a7.pj a1);generalize w6.setCell ⟨rb,1,none⟩ (nI ((l.length:Int)-(r.length:Int)))=w7 at *;refine zh ?_;apply MP;apply bq;apply MH;apply Mw (.inl rfl) (λ_ _ h=>h);refine zh ?_;apply zc call218 (xj 0 op h' B O6 j rb l r w7 g3 hj hr hl trivial b7 (b6.U a7).ex);rintro v w8 ⟨x,rfl,a6,a9⟩;have b4:=a2.U a6 zo zo;have e9:=(a6.blk D (bH e') zo).J e';have d2:x.2.2.oneCell'=true:=by
   cases hc:ez 0 r with
   |ok t r'=>rw[hc]at a9;exact a9.2.one
   |bad p e=>rw[hc]at a9;exact a9.1
  apply zsb (us:=#[nI x.1,nI x.2.1,x.2.2]) b4 (ix _) (cH d2);have g9:=b4.setRow (us:=#[nI x.1,nI x.2.1,x.2.2]);have c':Ly (λk=>k=T) O6 w8 O6 (w8.setRow xb #[nI x.1,nI x.2.1,x.2.2]):=Li zo b4.tag rfl;have i1:=(c'.blk D (bH e9) zo).J e9;have a5:Ly (λk=>k=T+2) O6 (w8.setRow xb #[nI x.1,nI x.2.1,x.2.2]) O6 ((w8.setRow xb #[nI x.1,nI x.2.1,x.2.2]).putObj D (.deferred none)):=MO zo e2 _;have c5:=(c'.pT hj a1 (L3 _)).J (a5.pT hj a1 zo);have d4:=g9.U a5 zo zo;refine zh ?_
  apply MP;apply bq
  apply Pq;refine mR (PS i1 (jK rfl rfl d4.V (Lk _) (ix _) ⟨x,rfl,((b9.J (a6.pj a1)).J c5).priv hT hj,?_⟩))
  rw[hM]
  cases hc:ez 0 r with
  |ok t r'=>
   rw[hc]at a9;exact⟨((a9.1.U c' hj zo).U a5 hj zo).fgt h.tag,(a9.2.U c5).low (b9.J (a6.pj a1))⟩
  |bad p e=>
   rw[hc]at a9;obtain⟨h1,a,g8,h2,h3⟩:=a9;exact⟨h1,a,g8,((h2.U c' hj zo).U a5 hj zo).fgt h.tag,h3⟩
 rintro D c O6 w6 d0 e2 ⟨rfl,b3,a',m,x,i6,b5,b1⟩ hm;have a5:Ly (λk=>k=T+2) O6 w6 O6 (w6.putObj D (.deferred none)):=MO zo e2 _;have c5:=b3.J (a5.pT hj a1 zo);have a2:=b1.U a5 zo zo;apply Pq;apply iJ;apply ko;refine mR (PS hm (jK rfl rfl a2.V (Lk _) (ix _) ⟨x,rfl,c5.priv hT hj,?_⟩));rw[yB (by rw[c7];exact ha) (by rw[c7];exact i6)];exact⟨(a'.U a5 hj zo).fgt h.tag,(b5.U a5).low c5⟩
end
section
variable{kv:Lj}{kn:Kn}
def yZ(b:UInt8)(k:Nat)(hk:k<256)(h:¬b=Mu k):((b.toNat:Int) != (k:Int))=true:=by rw[bne,qn b k hk,decide_eq_false h];rfl
def jA(b:UInt8)(k:Nat)(hk:k<256)(h:¬b=Mu k):((b.toNat:Int)==(k:Int))=false:=by rw[qn b k hk,decide_eq_false h]
def PostE.one{O:Nat->Nat}{w:ka}{j rb:Nat}{l:List UInt8}{op:Int}{x:N3}{M:PR}(h:Pz kv O w j rb l op x M):x.2.2.oneCell'=true:=by
 cases M with
 |ok t r=>exact h.2.one
 |bad p e=>exact h.1
def PostE.U{S:Nat->Prop}{O O':Nat->Nat}{w w':ka}{j rb:Nat}{l:List UInt8}{op:Int}{x:N3}{M:PR}(h:Pz kv O w j rb l op x M)(u:Ly S O w O' w')(hj:j≠0)(hS:¬S j):Pz kv O' w' j rb l op x M:=by
 cases M with
 |ok t r=>exact⟨Ln h.1 u hj hS,h.2.U u⟩
 |bad p e=>obtain⟨h1,a,o,h2,h3⟩:=h;exact⟨h1,a,o,Ln h2 u hj hS,h3⟩
def PostE.low{S:Nat->Prop}{O O':Nat->Nat}{w w0 w':ka}{j rb:Nat}{l:List UInt8}{op:Int}{x:N3}{M:PR}(h:Pz kv O' w' j rb l op x M)(u:Ly S O w O' w0)(a0:O rb=j):Pz kv O w' j rb l op x M:=by
 cases M with
 |ok t r=>exact⟨PZ h.1 a0,h.2.low u⟩
 |bad p e=>obtain⟨h1,a,o,h2,h3⟩:=h;exact⟨h1,a,o,PZ h2 a0,h3⟩
def tt(k:Int)(xs:List N3)(lv:Lj)(w:ka)(h:Sl aY 3 w lv xs)(h1:∀i,i<xs.length->(nth xs i).2.2.oneCell'=true):
  N2 M4 178 [nI k,lv] w λv w'=>v=nv (if xs.length=1 then nth xs 0 else(k,0,lv))/\MS w w':=by
 apply Ll func178 ntmps178 rfl rfl;refine zh ?_
 apply au (aw w) 1 zo (Lm _) rfl;intro xb w1 O1 a0 a3 a6 a5;have a2:=h.ext a5;refine zh ?_
 by_cases hl:xs.length=1
 ·have a4:=h1 0 zo;rw[ap hl];refine zTH rfl ((by rw[hl];rfl)) ?_;apply zv (Ni a2 underlying73 (ix _) rfl rfl 0 rfl zo);apply zv (ah (us:=aY (nth xs 0)) (λj u hu=>a2.cell zo hu) (Lk _) (ix _) rfl);apply zsb (us:=#[nI (nth xs 0).1,nI (nth xs 0).2.1,(nth xs 0).2.2]) a0 (ix _) (cH a4);have a1:=a0.setRow (us:=#[nI (nth xs 0).1,nI (nth xs 0).2.1,(nth xs 0).2.2]);refine zh ?_;refine aO rfl rfl a1.V (Lk _) (ix _) ⟨rfl,(a3.J (Li zd a0.tag rfl)).ext⟩
 rw[am hl];refine zFH rfl ((by simp;omega)) ?_;apply zv (aH Ab (Lm _) rfl (by first|rfl|(simp only[Lq,h.one];rfl)) rfl rfl);apply zsb (us:=#[nI k,nI 0,lv]) a0 (ix _) (cH (x:=(k,0,lv)) h.one);have a1:=a0.setRow (us:=#[nI k,nI 0,lv]);refine zh ?_;refine aO rfl rfl a1.V (Lk _) (ix _) ⟨rfl,(a3.J (Li zd a0.tag rfl)).ext⟩
def xJ(kv:Lj)(kn:Kn)(al:Option (List UInt8->PR))(op:Int):Prop:=
 match al with
 |none=>op=20
 |some f=>op<20/\Pc kv kn 163 [] (op+1) f (λ_=>True)
theorem xq(al:Option (List UInt8->PR))(op:Int)(h7:0<=op/\op<=20)(ha:xJ kv kn al op)(hg:oL al):Pc kv kn 219 [] op (cJ al) (λr=>r.headD 0≠0):=by
 intro B O j rb l r w hR hj hr hl d1 h g7;obtain⟨T,a0,hT⟩:=hR.bound;have h8:j<T:=by rw[<-h.tag];exact hT rb
 have h6:=hr.length_le;apply Ll func219 ntmps219 rfl rfl;refine zh ?_;apply au hR T zo (Lm _) rfl;intro xb w1 O1 e6 e' f5 i1;have a7:=h.U e' hj zo;have b4:=e'.pT hj a0 (L3 _);obtain⟨f',h5⟩:=cF d1;have e7:=f'.J hr;refine zh ?_;refine zvH (RV.ld a7.r3 rfl) ?_
 cases al with
 |none=>
  have hM:cJ none r=.bad r.length 6:=rfl;replace ha:op=20:=ha;refine zTH rfl ((by rw[ha];rfl)) ?_;apply zv (RV.ld a7.r1 rfl);apply zc Ph (iF _ O1 w1 j rb l _ _ 0 ((l.length:Int)-(r.length:Int)) 6 hj f5 a7);rintro v wf ⟨rfl,d8,b6⟩;have a6:=e6.U b6 zo zo;apply zsa (us:=#[nI 0,nI 0,nS]) a6 (ix _);have c9:=a6.setRow (us:=#[nI 0,nI 0,nS]);have b5:Ly (λk=>k=T) O1 wf O1 (wf.setRow xb #[nI 0,nI 0,nS]):=Li zo a6.tag rfl;have hbg:=d8.U b5 hj zo;refine zh ?_;refine aO rfl rfl c9.V (Lk _) (ix _) ⟨(0,0,nS),rfl,((b4.J (b6.pj a0)).J (b5.pT hj a0 (L3 _))).priv hT hj,?_⟩;rw[hM];exact⟨rfl,_,op,hbg.fgt h.tag,zo,zo,zo,zo⟩
 |some f=>
  obtain⟨h9,g'⟩:=ha;have b9:=hg f rfl r.tail;refine zFH rfl ((by simp;omega)) ?_;refine zvH (RV.ld a7.r1 rfl) ?_;apply aj (j:=1) a7 rfl (Mv _) rfl rfl rfl rfl;rw[show((l.length:Int)-(r.length:Int))+1=(l.length:Int)-(r.tail.length:Int)from by omega];have c5:=Ng a7 ((l.length:Int)-(r.tail.length:Int));have e4:Ly (λk=>k=j) O1 w1 O1 (M1 w1 ⟨rb,1,none⟩ (nI ((l.length:Int)-(r.tail.length:Int)))):=Lu (λe=>hj e.symm) (Lr a7) rfl;have f9:=e6.U e4 zo zo;have h4:=f5.U e4;generalize M1 w1 ⟨rb,1,none⟩ (nI ((l.length:Int)-(r.tail.length:Int)))=w2 at *;refine zh ?_;refine zvH (RV.ld c5.r3 rfl) ?_;apply aj (j:=3) c5 rfl (Mv _) rfl rfl rfl rfl;have g9:=c5.rOp (op+1);have e3:Ly (λk=>k=j) O1 w2 O1 (w2.setCell ⟨rb,3,none⟩ (nI (op+1))):=Lu (λe=>hj e.symm) c5.tag rfl;have f8:=f9.U e3 zo zo;have f4:=h4.U e3;have b3:=(b4.J (e4.pj a0)).J (e3.pj a0);generalize w2.setCell ⟨rb,3,none⟩ (nI (op+1))=w3 at *;refine zh ?_;apply zc call163 (g' B O1 j rb l r.tail w3 f4 hj e7 hl trivial g9 (g7.U b3));rintro v w4 ⟨x,rfl,e2,f6⟩;have b7:=f6.one;have f7:=f8.U e2 zo zo;have f3:=f4.U e2;have e1:=b3.J (e2.pj a0);apply au f3 (T+1) zo (Lm _) rfl;intro nb w5 O5 d7 h1 h' i0;apply zsb (us:=#[nI x.1,nI x.2.1,x.2.2]) d7 (ix _) (cH b7);have e9:=d7.setRow (us:=#[nI x.1,nI x.2.1,x.2.2])
  have h0:Ly (λk=>k=T+1) O5 w5 O5 (w5.setRow nb #[nI x.1,nI x.2.1,x.2.2]):=Li zo d7.tag rfl;have a4:=h1.J h0;have e5:=f7.U a4 zo zo;have c8:=f6.U a4 hj zo;have h3:=f3.U a4;have b2:=e1.J (a4.pT hj a0 (My _));generalize w5.setRow nb #[nI x.1,nI x.2.1,x.2.2]=w6 at *
  cases hf:f r.tail with
  |bad p e=>
   rw[hf]at b9 c8;have hM:cJ (some f) r=.bad p e:=by unfold cJ;dsimp only;rw[hf]
   obtain⟨g1,a,a',a1,g2,g3,g4,g5⟩:=c8;replace a1:Mr O5 w6 j rb (rdr kv l a a' ((l.length:Int)-(p:Int)) e) 251:=a1;refine zh ?_;refine zvH (RV.ld a1.r5 rfl) ?_;apply ax (d:=39) rfl (b':=false) ((by simpa using b9.2));refine zh ?_;refine zFH rfl rfl ?_;refine zvH (RV.ld a1.r1 rfl) ?_;apply aj (j:=1) a1 rfl (Mv _) rfl rfl rfl rfl;have a2:=a1.rAt (a+1);have a3:Ly (λk=>k=j) O5 w6 O5 (w6.setCell ⟨rb,1,none⟩ (nI (a+1))):=Lu (λe=>hj e.symm) a1.tag rfl;have b8:=e5.U a3 zo zo;have d6:=e9.U a3 zo zo;generalize w6.setCell ⟨rb,1,none⟩ (nI (a+1))=w7 at *;refine zh ?_;refine zvH (RV.ld a2.r3 rfl) ?_;apply aj (j:=3) a2 rfl (Mv _) rfl rfl rfl rfl;have a8:=a2.rOp (a'-1);have a5:Ly (λk=>k=j) O5 w7 O5 (w7.setCell ⟨rb,3,none⟩ (nI (a'-1))):=Lu (λe=>hj e.symm) a2.tag rfl;have b0:=b8.U a5 zo zo;have d5:=d6.U a5 zo zo;generalize w7.setCell ⟨rb,3,none⟩ (nI (a'-1))=w8 at *;have e0:=(b2.J (a3.pj a0)).J (a5.pj a0);refine zh ?_;apply zv (ah (us:=aY x) d5.V (Lk _) (ix _) rfl);apply zsb (us:=#[nI x.1,nI x.2.1,x.2.2]) b0 (ix _) (cH b7);have c':=Lp (us:=#[nI x.1,nI x.2.1,x.2.2]) b0;have a9:Ly (λk=>k=T) O5 w8 O5 (Lo w8 xb #[nI x.1,nI x.2.1,x.2.2]):=Li zo (Lr b0) rfl;have d9:=a8.U a9 hj zo;have c6:=e0.J (a9.pT hj a0 (L3 _));refine zh ?_
   refine aO rfl rfl c'.V (Lk _) (ix _) ⟨x,rfl,c6.priv hT hj,?_⟩;rw[hM];exact⟨b7,a+1,a'-1,d9.fgt h.tag,zo,zo,zo,zo⟩
  |ok t r2=>
   rw[hf]at b9 c8;obtain⟨a1,hn⟩:=c8;replace a1:Mr O5 w6 j rb (rdr kv l ((l.length:Int)-(r2.length:Int)) (op+1) 0 0) 251:=a1;have e8:=b9.1.J e7;have g0:=(bt r2).J e8;have hq2l:=g0.length_le;refine zh ?_;refine zvH (RV.ld a1.r5 rfl) ?_;apply ax (d:=39) rfl (b':=true) rfl;refine zh ?_;apply zc NO (ir O5 w6 j rb l r2 (op+1) 0 0 hj e8 zo a1);rintro v w7 ⟨rfl,a2,a3⟩;have b8:=e5.U a3 zo zo;have d6:=e9.U a3 zo zo;have h2:=h3.U a3;have b1:=b2.J (a3.pj a0);have d4:=hn.U a3;refine zh ?_
   by_cases hc:(ay r2).headD 0=41
   ·have hM:cJ (some f) r=.ok t (ay r2).tail:=by unfold cJ;dsimp only;rw[hf];dsimp only;rw[ap hc]
    obtain⟨g1,g2⟩:=cF (r:=ay r2) (by rw[hc];decide);refine zFH rfl ((by rw[hc];rfl)) ?_;refine zvH (RV.ld a2.r1 rfl) ?_;apply aj (j:=1) a2 rfl (Mv _) rfl rfl rfl rfl;rw[show((l.length:Int)-((ay r2).length:Int))+1=(l.length:Int)-((ay r2).tail.length:Int)from by omega];have a8:=Ng a2 ((l.length:Int)-((ay r2).tail.length:Int));have a5:Ly (λk=>k=j) O5 w7 O5 (M1 w7 ⟨rb,1,none⟩ (nI ((l.length:Int)-((ay r2).tail.length:Int)))):=Lu (λe=>hj e.symm) (Lr a2) rfl;have b0:=b8.U a5 zo zo;have d5:=d6.U a5 zo zo;have d3:=d4.U a5;generalize M1 w7 ⟨rb,1,none⟩ (nI ((l.length:Int)-((ay r2).tail.length:Int)))=w8 at *;refine zh ?_;refine zvH (RV.ld a8.r3 rfl) ?_;apply aj (j:=3) a8 rfl (Mv _) rfl rfl rfl rfl;rw[show op+1-1=op from by omega];have g8:=a8.rOp op;have c7:Ly (λk=>k=j) O5 w8 O5 (w8.setCell ⟨rb,3,none⟩ (nI op)):=Lu (λe=>hj e.symm) a8.tag rfl;have d0:=b0.U c7 zo zo;have g6:=d5.U c7 zo zo;have d2:=d3.U c7;generalize w8.setCell ⟨rb,3,none⟩ (nI op)=w9 at *;have d':=(b1.J (a5.pj a0)).J (c7.pj a0);refine zh ?_;apply zv (ah (us:=aY x) g6.V (Lk _) (ix _) rfl);apply zsb (us:=#[nI x.1,nI x.2.1,x.2.2]) d0 (ix _) (cH b7);have c':=Lp (us:=#[nI x.1,nI x.2.1,x.2.2]) d0;have a9:Ly (λk=>k=T) O5 w9 O5 (Lo w9 xb #[nI x.1,nI x.2.1,x.2.2]):=Li zo (Lr d0) rfl
    have d9:=g8.U a9 hj zo;have c6:=d'.J (a9.pT hj a0 (L3 _));refine zh ?_;refine aO rfl rfl c'.V (Lk _) (ix _) ⟨x,rfl,c6.priv hT hj,?_⟩;rw[hM];exact⟨d9.fgt h.tag,(d2.U a9).low c6⟩
   have hM:cJ (some f) r=.bad (ay r2).length 4:=by unfold cJ;dsimp only;rw[hf];dsimp only;rw[am hc]
   refine zTH rfl ((yZ _ 41 zd hc)) ?_;apply zv (RV.ld a2.r1 rfl)
   apply zc Ph (iF _ O5 w7 j rb l _ _ 0 ((l.length:Int)-((ay r2).length:Int)) 4 hj h2 a2);rintro v wf ⟨rfl,d8,b6⟩;have a6:=b8.U b6 zo zo;apply zsa (us:=#[nI 0,nI 0,nS]) a6 (ix _)
   have c9:=a6.setRow (us:=#[nI 0,nI 0,nS]);have b5:Ly (λk=>k=T) O5 wf O5 (wf.setRow xb #[nI 0,nI 0,nS]):=Li zo a6.tag rfl;have hbg:=d8.U b5 hj zo;refine zh ?_;refine aO rfl rfl c9.V (Lk _) (ix _) ⟨(0,0,nS),rfl,((b1.J (b6.pj a0)).J (b5.pT hj a0 (L3 _))).priv hT hj,?_⟩;rw[hM];exact⟨rfl,_,op+1,hbg.fgt h.tag,zo,zo,zo,zo⟩
def GV(al:Option (List UInt8->PR))(op:Int)(b4:0<=op/\op<=20)(ha:xJ kv kn al op)(hg:oL al):Pc kv kn 212 [] op (kA kn al) (λ_=>True):=by
 intro B O j rb l r w hR hj hr hl c9 h b5;obtain⟨T,a1,hT⟩:=hR.bound;have d6:j<T:=by rw[<-h.tag];exact hT rb
 have d4:=hr.length_le;apply Ll func212 ntmps212 rfl rfl;refine zh ?_;apply au hR T zo (Lm _) rfl;intro xb w1 O1 c8 c6 d3 d7;have d1:=h.U c6 hj zo;have b7:=c6.pT hj a1 (L3 _);have hq:=(bt r).J hr;have d5:=hq.length_le;refine zh ?_;apply zc NO (ir O1 w1 j rb l r op 0 0 hj hr zo d1);rintro v w2 ⟨rfl,a2,b8⟩;have b1:=c8.U b8 zo zo;have b2:=d3.U b8;have a0:=b7.J (b8.pj a1);refine zh ?_;apply zc call213 (jT ((ay r).headD 0) w2);rintro v w9 ⟨rfl,b9⟩;rw[b9];clear b9 w9;refine zh ?_
 by_cases h1:aq ((ay r).headD 0)=true
 ·have hM:kA kn al r=iM kn (ay r):=by unfold kA;rw[ap h1]
  rw[hM];refine zTH rfl h1 ?_;apply zc call217 (Da op b4 B O1 j rb l (ay r) w2 b2 hj hq hl h1 a2 (b5.U a0));rintro v wc ⟨x,rfl,a6,a7⟩;have a8:=a7.one;have a3:=Ln b1 a6 zo zo;apply zsb (us:=#[nI x.1,nI x.2.1,x.2.2]) a3 (ix _) (cH a8);have a9:=Lp (us:=#[nI x.1,nI x.2.1,x.2.2]) a3;have a4:Ly (λk=>k=T) O1 wc O1 (Lo wc xb #[nI x.1,nI x.2.1,x.2.2]):=Li zo (Lr a3) rfl;have a5:=(a0.J (a6.pj a1)).J (a4.pT hj a1 (L3 _));refine zh ?_;refine aO rfl rfl a9.V (Lk _) (ix _) ⟨x,rfl,a5.priv hT hj,(a7.U a4 hj zo).low a5 h.tag⟩
 refine zFH rfl ((by simpa using h1)) ?_
 by_cases h2:(ay r).headD 0=126
 ·have hM:kA kn al r=ez 2 (ay r).tail:=by unfold kA;rw[am h1,ap h2]
  obtain⟨k1,k2⟩:=cF (r:=ay r) (by rw[h2];decide);rw[hM];refine zTH rfl ((by rw[h2];rfl)) ?_;refine zvH (RV.ld a2.r1 rfl) ?_;apply aj (j:=1) a2 rfl (Mv _) rfl rfl rfl rfl;rw[show((l.length:Int)-((ay r).length:Int))+1=(l.length:Int)-((ay r).tail.length:Int)from by omega];have b6:=Ng a2 ((l.length:Int)-((ay r).tail.length:Int));have a':Ly (λk=>k=j) O1 w2 O1 (M1 w2 ⟨rb,1,none⟩ (nI ((l.length:Int)-((ay r).tail.length:Int)))):=Lu (λe=>hj e.symm) (Lr a2) rfl;have b0:=b1.U a' zo zo;have d2:=b2.U a';refine zh ?_;apply zc call218 (xj 2 op b4 B O1 j rb l (ay r).tail _ d2 hj (k1.J hq) hl trivial b6 (b5.U (a0.J (a'.pj a1))));rintro v wc ⟨x,rfl,a6,a7⟩;have a8:=a7.one;have a3:=Ln b0 a6 zo zo;apply zsb (us:=#[nI x.1,nI x.2.1,x.2.2]) a3 (ix _) (cH a8);have a9:=Lp (us:=#[nI x.1,nI x.2.1,x.2.2]) a3;have a4:Ly (λk=>k=T) O1 wc O1 (Lo wc xb #[nI x.1,nI x.2.1,x.2.2]):=Li zo (Lr a3) rfl;have a5:=((a0.J (a'.pj a1)).J (a6.pj a1)).J (a4.pT hj a1 (L3 _));refine zh ?_;refine aO rfl rfl a9.V (Lk _) (ix _) ⟨x,rfl,a5.priv hT hj,(a7.U a4 hj zo).low a5 h.tag⟩
 refine zFH rfl ((jA _ 126 zd h2)) ?_
 by_cases h3:(ay r).headD 0=94
 ·have hM:kA kn al r=.ok (.mk 3 0 []) (ay r).tail:=by unfold kA;rw[am h1,am h2,ap h3]
  obtain⟨k1,k2⟩:=cF (r:=ay r) (by rw[h3];decide);rw[hM];refine zTH rfl ((by rw[h3];rfl)) ?_;refine zvH (RV.ld a2.r1 rfl) ?_;apply aj (j:=1) a2 rfl (Mv _) rfl rfl rfl rfl;rw[show((l.length:Int)-((ay r).length:Int))+1=(l.length:Int)-((ay r).tail.length:Int)from by omega];have b6:=Ng a2 ((l.length:Int)-((ay r).tail.length:Int));have a':Ly (λk=>k=j) O1 w2 O1 (M1 w2 ⟨rb,1,none⟩ (nI ((l.length:Int)-((ay r).tail.length:Int)))):=Lu (λe=>hj e.symm) (Lr a2) rfl;have b0:=b1.U a' zo zo;have a8:((3,0,nS):N3).2.2.oneCell'=true:=rfl;refine zh ?_;apply zv (aH Ab (Lm _) rfl (by first|rfl|(simp only[Lq,h.one];rfl)) rfl rfl);apply zsb (us:=#[nI ((3,0,nS):N3).1,nI ((3,0,nS):N3).2.1,((3,0,nS):N3).2.2]) b0 (ix _) (cH a8);have a9:=Lp (us:=#[nI ((3,0,nS):N3).1,nI ((3,0,nS):N3).2.1,((3,0,nS):N3).2.2]) b0;have a4:Ly (λk=>k=T) O1 (M1 w2 ⟨rb,1,none⟩ (nI ((l.length:Int)-((ay r).tail.length:Int)))) O1 (Lo (M1 w2 ⟨rb,1,none⟩ (nI ((l.length:Int)-((ay r).tail.length:Int)))) xb #[nI ((3,0,nS):N3).1,nI ((3,0,nS):N3).2.1,((3,0,nS):N3).2.2]):=Li zo (Lr b0) rfl;have d0:=b6.U a4 hj zo;have a5:=(a0.J (a'.pj a1)).J (a4.pT hj a1 (L3 _));refine zh ?_;refine aO rfl rfl a9.V (Lk _) (ix _) ⟨(3,0,nS),rfl,a5.priv hT hj,d0.fgt h.tag,P2 _ _ _ _⟩
 refine zFH rfl ((jA _ 94 zd h3)) ?_
 by_cases h4:(ay r).headD 0=40
 ·have hM:kA kn al r=cJ al (ay r):=by unfold kA;rw[am h1,am h2,am h3,ap h4]
  rw[hM];refine zTH rfl ((by rw[h4];rfl)) ?_;apply zc call219 (xq al op b4 ha hg B O1 j rb l (ay r) w2 b2 hj hq hl (show(ay r).headD 0≠0 by rw[h4];decide) a2 (b5.U a0));rintro v wc ⟨x,rfl,a6,a7⟩;have a8:=a7.one;have a3:=Ln b1 a6 zo zo;apply zsb (us:=#[nI x.1,nI x.2.1,x.2.2]) a3 (ix _) (cH a8);have a9:=Lp (us:=#[nI x.1,nI x.2.1,x.2.2]) a3;have a4:Ly (λk=>k=T) O1 wc O1 (Lo wc xb #[nI x.1,nI x.2.1,x.2.2]):=Li zo (Lr a3) rfl;have a5:=(a0.J (a6.pj a1)).J (a4.pT hj a1 (L3 _));refine zh ?_;refine aO rfl rfl a9.V (Lk _) (ix _) ⟨x,rfl,a5.priv hT hj,(a7.U a4 hj zo).low a5 h.tag⟩
 have hM:kA kn al r=.bad (ay r).length 4:=by unfold kA;rw[am h1,am h2,am h3,am h4]
 rw[hM];refine zFH rfl ((jA _ 40 zd h4)) ?_;apply zv (RV.ld a2.r1 rfl);apply zc Ph (iF _ O1 w2 j rb l _ _ 0 ((l.length:Int)-((ay r).length:Int)) 4 hj b2 a2);rintro v wf ⟨rfl,c',c5⟩;have b3:=b1.U c5 zo zo;apply zsa (us:=#[nI 0,nI 0,nS]) b3 (ix _);have c7:=b3.setRow (us:=#[nI 0,nI 0,nS]);have b':Ly (λk=>k=T) O1 wf O1 (wf.setRow xb #[nI 0,nI 0,nS]):=Li zo b3.tag rfl;have hbg:=c'.U b' hj zo;refine zh ?_;refine aO rfl rfl c7.V (Lk _) (ix _) ⟨(0,0,nS),rfl,((a0.J (c5.pj a1)).J (b'.pT hj a1 (L3 _))).priv hT hj,?_⟩;exact⟨rfl,_,op,hbg.fgt h.tag,zo,zo,zo,zo⟩
end
section
variable{kv:Lj}{kn:Kn}
def I8(c:UInt8):uw [42,43,63] c=match opM c with|some k=>(k:Nat)|none=>-1:=by
 unfold uw opM
 by_cases h1:c=42
 ·subst h1;rfl
 by_cases h2:c=43
 ·subst h2;rfl
 by_cases h3:c=63
 ·subst h3;rfl
 rw[am h1,am h2,am h3];have:[(42:UInt8),43,63].findIdx? (· == c)=none:=by
  rw[Mt];intro x hx;simp at hx
  rcases hx with rfl|rfl|rfl<;>simp<;>intro e<;>first|exact h1 e.symm|exact h2 e.symm|exact h3 e.symm
 rw[this]
def vo(al:Option (List UInt8 → PR))(op:Int)(hop:0 ≤ op ∧ op ≤ 20)(ha:xJ kv kn al op)(hg:oL al): Pc kv kn 201 [] op (gj kn al) (fun _ => True) := by
  intro B O j rb l r w hR hj hr hl hpre h hkn
  obtain⟨T, hT0, hT⟩ := hR.bound
  have hjT:j < T := by rw[← h.tag]; exact hT rb
  have hrl := hr.length_le
  refine Ll func201 ntmps201 rfl rfl ?_
  refine zh ?_
  refine au hR T (by omega) (Lm _) rfl ?_
  intro xb w1 O1 hx1 hU1 hR1 hE1
  have hb1 := h.U hU1 hj (by omega)
  have hUt1 := hU1.pT hj hT0 (L3 _)
  have hga := sF (kn := kn) hg r
  refine zh ?_
  refine zc call212 (GV al op hop ha hg B O1 j rb l r w1 hR1 hj hr hl trivial hb1 (hkn.U hUt1)) ?_
  rintro v w2 ⟨x, rfl, hU2, hP2⟩
  have hxo := hP2.one
  have hx2 := hx1.U hU2 (by omega) (by omega)
  have hR2 := hR1.U hU2
  have hUt2 := hUt1.J (hU2.pj hT0)
  refine au hR2 (T + 1) (by omega) (Lm _) rfl ?_
  intro nb w3 O3 hn3 hU3 hR3 hE3
  refine zsb (us := #[.int .i64 x.1, .int .i64 x.2.1, x.2.2]) hn3 (ix _) (cH hxo) ?_
  have hn4 := hn3.setRow (us := #[.int .i64 x.1, .int .i64 x.2.1, x.2.2])
  have hU4:Ly (fun k => k = T + 1) O3 w3 O3 (w3.setRow nb #[.int .i64 x.1, .int .i64 x.2.1, x.2.2]) := Li (by omega) hn3.tag rfl
  have hU34 := hU3.J hU4
  have hx4 := hx2.U hU34 (by omega) (by omega)
  have hP4 := hP2.U hU34 hj (by omega)
  have hR4 := hR2.U hU34
  have hUt4 := hUt2.J (hU34.pT hj hT0 (My _))
  generalize w3.setRow nb #[.int .i64 x.1, .int .i64 x.2.1, x.2.2] = w4 at *
  cases hf:kA kn al r with
  |bad p e =>
    rw[hf]at hga hP4
    have hM:gj kn al r = .bad p e := by unfold gj; rw[hf]
    have hP5 := hP4
    obtain⟨g1, a, op', hb4, g2, g3, g4, g5⟩ := hP4
    replace hb4:Mr O3 w4 j rb (rdr kv l a op' ((l.length:Int) - (p:Int)) e) 251 := hb4
    refine zh ?_
    refine zvH (RV.ld hb4.r5 rfl) ?_
    refine zTH rfl ((by simpa using hga.2)) ?_
    refine zv (ah (us := aY x) hn4.V (Lk _) (ix _) rfl) ?_
    refine zsb (us := #[.int .i64 x.1, .int .i64 x.2.1, x.2.2]) hx4 (ix _) (cH hxo) ?_
    have hxd := Lp (us := #[.int .i64 x.1, .int .i64 x.2.1, x.2.2]) hx4
    have hUd:Ly (fun k => k = T) O3 w4 O3 (Lo w4 xb #[.int .i64 x.1, .int .i64 x.2.1, x.2.2]) := Li (by omega) (Lr hx4) rfl
    have hUz := hUt4.J (hUd.pT hj hT0 (L3 _))
    refine zh ?_
    refine aO rfl rfl (hxd.V) (Lk _) (ix _) (⟨x, rfl, hUz.priv hT hj, ?_⟩)
    rw[hM]
    exact(hP5.U hUd hj (by omega)).low hUz h.tag
  |ok t r1 =>
    rw[hf]at hga hP4
    obtain⟨hb4, hnt4⟩ := hP4
    replace hb4:Mr O3 w4 j rb (rdr kv l ((l.length:Int) - (r1.length:Int)) op 0 0) 251 := hb4
    have hr1 := hga.1.J hr
    have hq1 := (bt r1).J hr1
    have hql := hq1.length_le
    refine zh ?_
    refine zvH (RV.ld hb4.r5 rfl) ?_
    refine zFH rfl rfl ?_
    refine zc NO (ir O3 w4 j rb l r1 op 0 0 hj hr1 (by omega) hb4) ?_
    rintro v w5 ⟨rfl, hb5, hU5⟩
    have hx5 := hx4.U hU5 (by omega) (by omega)
    have hn5 := hn4.U hU5 (by omega) (by omega)
    have hR5 := hR4.U hU5
    have hUt5 := hUt4.J (hU5.pj hT0)
    have hnt5 := hnt4.U hU5
    refine zc PE (ej [42, 43, 63] ((ay r1).headD 0) w5) ?_
    rintro v w9 ⟨rfl, hw9⟩
    rw[hw9, I8]
    clear hw9 w9
    have hb6 := hb5.drew
    have hx6 := hx5.drew
    have hn6 := hn5.drew
    have hnt6 := hnt5.drew
    have hUt6 := hUt5.drew
    have hR6 := hR5.drew
    refine zh ?_
    refine MK (by kernel_rfl) (by kernel_rfl) ?_
    refine zh ?_
    refine zwH (RV.ld hb6.r1 rfl) ?_
    refine zw (RV.ld hb6.r0 rfl) ?_
    refine zwH (cK ln rfl) ?_
    cases hk:opM ((ay r1).headD 0)with
    |none =>
      have hM:gj kn al r = .ok t (ay r1) := by unfold gj; rw[hf]; dsimp only; rw[hk]
      by_cases hq0:(ay r1).length = 0
      · skip
        refine cg (d := 30) rfl (b' := true) ((beq_iff_eq.2 (by omega))) ?_
        generalize w5.drew = w6 at *
        refine zh ?_
        refine zw (aX rfl rfl) ?_
        refine MF ?_
        refine zh ?_
        refine zTH rfl rfl ?_
        refine zv (ah (us := aY x) hn6.V (Lk _) (ix _) rfl) ?_
        refine zsb (us := #[.int .i64 x.1, .int .i64 x.2.1, x.2.2]) hx6 (ix _) (cH hxo) ?_
        have hxd := Lp (us := #[.int .i64 x.1, .int .i64 x.2.1, x.2.2]) hx6
        have hUd:Ly (fun k => k = T) O3 w6 O3 (Lo w6 xb #[.int .i64 x.1, .int .i64 x.2.1, x.2.2]) := Li (by omega) (Lr hx6) rfl
        have hUz := hUt6.J (hUd.pT hj hT0 (L3 _))
        have hbd := hb6.U hUd hj (by omega)
        refine zh ?_
        refine aO rfl rfl (hxd.V) (Lk _) (ix _) (⟨x, rfl, hUz.priv hT hj, ?_⟩)
        rw[hM]
        exact⟨hbd.fgt h.tag, (hnt6.U hUd).low hUz⟩
      · skip
        refine cg (d := 30) rfl (b' := false) ((beq_eq_false_iff_ne.2 (by omega))) ?_
        refine zh ?_
        refine zw (bE rfl rfl) ?_
        refine MF ?_
        refine zh ?_
        refine bp rfl rfl ?_
        generalize w5.drew = w6 at *
        refine zh ?_
        refine zv (ah (us := aY x) hn6.V (Lk _) (ix _) rfl) ?_
        refine zsb (us := #[.int .i64 x.1, .int .i64 x.2.1, x.2.2]) hx6 (ix _) (cH hxo) ?_
        have hxd := Lp (us := #[.int .i64 x.1, .int .i64 x.2.1, x.2.2]) hx6
        have hUd:Ly (fun k => k = T) O3 w6 O3 (Lo w6 xb #[.int .i64 x.1, .int .i64 x.2.1, x.2.2]) := Li (by omega) (Lr hx6) rfl
        have hUz := hUt6.J (hUd.pT hj hT0 (L3 _))
        have hbd := hb6.U hUd hj (by omega)
        refine zh ?_
        refine aO rfl rfl (hxd.V) (Lk _) (ix _) (⟨x, rfl, hUz.priv hT hj, ?_⟩)
        rw[hM]
        exact⟨hbd.fgt h.tag, (hnt6.U hUd).low hUz⟩
    |some k =>
      have hM:gj kn al r = .ok (.mk (6 + (k:Nat)) 0 [t]) (ay r1).tail := by unfold gj; rw[hf]; dsimp only; rw[hk]
      obtain⟨k1, k2⟩ := cF (If hk)
      have hk3:k ≤ 2 := by
        unfold opM at hk
        (repeat' split at hk) <;> simp at hk <;> omega
      refine cg (d := 30) rfl (b' := false) ((beq_eq_false_iff_ne.2 (by omega))) ?_
      refine zh ?_
      refine zw (bE rfl rfl) ?_
      refine MF ?_
      refine zh ?_
      refine bh rfl ((decide_eq_false (by simp))) ?_
      generalize w5.drew = w6 at *
      refine zh ?_
      refine zvH (RV.ld hb6.r1 rfl) ?_
      refine aj (j := 1) hb6 rfl (Mv _) rfl rfl rfl rfl ?_
      rw[show((l.length:Int) - ((ay r1).length:Int)) + 1 = (l.length:Int) - ((ay r1).tail.length:Int)from by omega]
      have hb7 := Ng hb6 ((l.length:Int) - ((ay r1).tail.length:Int))
      have hU7:Ly (fun k => k = j) O3 w6 O3 (M1 w6 ⟨rb, 1, none⟩ (.int .i64 ((l.length:Int) - ((ay r1).tail.length:Int)))) := Lu (fun e => hj e.symm) (Lr hb6) rfl
      have hx7 := hx6.U hU7 (by omega) (by omega)
      have hn7 := hn6.U hU7 (by omega) (by omega)
      have hR7 := hR6.U hU7
      have hUt7 := hUt6.J (hU7.pj hT0)
      have hnt7 := hnt6.U hU7
      generalize M1 w6 ⟨rb, 1, none⟩ (.int .i64 ((l.length:Int) - ((ay r1).tail.length:Int))) = w7 at *
      refine zh ?_
      refine zv (MZ rfl rfl (MJ (by dsimp only; omega))) ?_
      refine zv (ah (us := aY x) hn7.V (Lk _) (ix _) rfl) ?_
      refine aQ elN (enc := aY) x rfl rfl rfl (by decide) rfl ?_
      intro w8 h8 hE8
      have hX8:Ly (fun _ => False) O3 w7 O3 w8 := aa (fun h => h) O3 hE8
      have hx8 := hx7.U hX8 (by omega) (fun h => h)
      have hb8 := hb7.U hX8 hj (fun h => h)
      have hUt8 := hUt7.J (kI O3 hE8 hj hT0)
      have hnt8 := hnt7.U hX8
      have hfr:Free O3 w8 (.slice (some ⟨w7.heap.size, 0, none⟩) 1 1) := fun a n c e _ => by
        cases e
        refine⟨MT fun hne => by have := (hR7.rng _ hne).2; simp at this, ?_⟩
        obtain⟨_, _, e, _, _, hh⟩ := h8.shape
        have hc := NJ _ _ (h8.cells 0 (by simp) 0 _ rfl)
        simpa[adr, N0]using hc
      have hN:Nt O3 w8 (.mk (6 + (k:Nat)) 0 [t]) (6 + (k:Nat), 0, .slice (some ⟨w7.heap.size, 0, none⟩) 1 1) :=
        .mk (xs := [x]) h8 hfr rfl (fun i hi => by obtain rfl : i = 0 := by simpa using hi
                                                   rw[ao, ao]; exact hnt8)
      have hxo2:((6 + (k:Nat), 0, .slice (some ⟨w7.heap.size, 0, none⟩) 1 1):N3).2.2.oneCell' = true := rfl
      clear hxo
      have hxo := hxo2
      refine zv (aH Ab (Lm _) rfl (by first | rfl | (simp only[Lq, M5]; rfl)) rfl rfl) ?_
      refine zsb (us := #[.int .i64 ((6 + (k:Nat), 0, .slice (some ⟨w7.heap.size, 0, none⟩) 1 1):N3).1, .int .i64 ((6 + (k:Nat), 0, .slice (some ⟨w7.heap.size, 0, none⟩) 1 1):N3).2.1, ((6 + (k:Nat), 0, .slice (some ⟨w7.heap.size, 0, none⟩) 1 1):N3).2.2]) hx8 (ix _) (cH hxo) ?_
      have hxd := Lp (us := #[.int .i64 ((6 + (k:Nat), 0, .slice (some ⟨w7.heap.size, 0, none⟩) 1 1):N3).1, .int .i64 ((6 + (k:Nat), 0, .slice (some ⟨w7.heap.size, 0, none⟩) 1 1):N3).2.1, ((6 + (k:Nat), 0, .slice (some ⟨w7.heap.size, 0, none⟩) 1 1):N3).2.2]) hx8
      have hUd:Ly (fun k => k = T) O3 w8 O3 (Lo w8 xb #[.int .i64 ((6 + (k:Nat), 0, .slice (some ⟨w7.heap.size, 0, none⟩) 1 1):N3).1, .int .i64 ((6 + (k:Nat), 0, .slice (some ⟨w7.heap.size, 0, none⟩) 1 1):N3).2.1, ((6 + (k:Nat), 0, .slice (some ⟨w7.heap.size, 0, none⟩) 1 1):N3).2.2]) := Li (by omega) (Lr hx8) rfl
      have hUz := hUt8.J (hUd.pT hj hT0 (L3 _))
      have hbd := hb8.U hUd hj (by omega)
      refine zh ?_
      refine aO rfl rfl (hxd.V) (Lk _) (ix _) (⟨_, rfl, hUz.priv hT hj, ?_⟩)
      rw[hM]
      exact⟨hbd.fgt h.tag, (hN.U hUd).low hUz⟩
end
section
variable{kv:Lj}{kn:Kn}
def BX(c:UInt8)(w:ka):N2 M4 202 [.int .u8 (c.toNat:Int)] w λv w'=>v=.bool (gF c)/\w'=w:=by
 apply Ll func202 ntmps202 rfl rfl;refine zh ?_
 apply zc call213 (jT c w);rintro v w9 ⟨rfl,a0⟩;rw[a0];clear a0 w9;refine zh ?_
 cases h1:aq c with
 |true=>
  apply ax (d:=5) rfl (b':=true) rfl;refine zh ?_
  refine af rfl rfl ⟨by simp[gF,h1],rfl⟩
 |false=>
  apply ax (d:=5) rfl (b':=false) rfl;refine zh ?_
  by_cases h2:c=126
  ·apply ax (d:=9) rfl (b':=true) ((by rw[h2];rfl));refine zh ?_
   refine af rfl rfl ⟨by simp[gF,h2],rfl⟩
  apply ax (d:=9) rfl (b':=false) ((jA _ 126 zd h2));refine zh ?_
  by_cases h3:c=94
  ·apply ax (d:=13) rfl (b':=true) ((by rw[h3];rfl));refine zh ?_
   refine af rfl rfl ⟨by simp[gF,h3],rfl⟩
  apply ax (d:=13) rfl (b':=false) ((jA _ 94 zd h3));refine zh ?_
  have e:=qn c 40 zd;refine af rfl rfl ⟨?_,rfl⟩;have e2:gF c=decide (c=40):=by simp[gF,h1,h2,h3]
  rw[e2];exact congrArg P7 e
def PR.andThen(M:PR)(f:Nd->List UInt8->PR):PR:=match M with | .bad p e=>.bad p e | .ok t r=>f t r
def LoopS(kv:Lj)(op:Int)(l:List UInt8)(j rb:Nat)(F:Nat->List Nd->List UInt8->PR)(M:PR)(O:Nat->Nat)(w:ka)(n:Nat)(r1:List UInt8)(ts:List Nd)(xs:List N3):Prop:=
 (Rdr kv O w j rb l ((l.length:Int)-(r1.length:Int)) op 0 0/\r1 <:+ l/\r1.length<n/\xs.length+n<=5000/\ts.length=xs.length/\(∀i,i<xs.length->Nt O w (nth ts i) (nth xs i))/\F n ts r1=M)\/
 (∃p e a op',M=.bad p e/\e≠0/\Rdr kv O w j rb l a op' ((l.length:Int)-(p:Int)) e/\0<=a/\a<=l.length+20-op/\op<=op'/\op'<=20)
def LoopS.U{op:Int}{l:List UInt8}{j rb:Nat}{F:Nat->List Nd->List UInt8->PR}{M:PR}{O O':Nat->Nat}{w w':ka}{n:Nat}{r1:List UInt8}{ts:List Nd}{xs:List N3}{S:Nat->Prop}(h:LoopS kv op l j rb F M O w n r1 ts xs)(u:Ly S O w O' w')(hj:j≠0)(hS:¬S j):LoopS kv op l j rb F M O' w' n r1 ts xs:=by
 rcases h with⟨h1,h2,h3,h4,h5,h6,h7⟩|⟨p,e,a,o,h1,h2,h3,h4⟩
 ·exact .inl ⟨Ln h1 u hj hS,h2,h3,h4,h5,λi hi=>(h6 i hi).U u,h7⟩
 exact .inr ⟨p,e,a,o,h1,h2,Ln h3 u hj hS,h4⟩
def LoopS.next{F:Nat->List Nd->List UInt8->PR}{M M':PR}{q r1:List UInt8}{ts:List Nd}{xs:List N3}{x:N3}(hP:Pz kv O w j rb l op x M')(hG:Good q M')(hq:q <:+ l)(a0:q.length<=r1.length)(h3:r1.length<n+1)(h4:xs.length+(n+1)<=5000)(h5:ts.length=xs.length) 
  (h6:∀i,i<xs.length->Nt O w (nth ts i) (nth xs i)) (h7:F (n+1) ts r1=M) (hF:F (n+1) ts r1=M'.andThen λt r2=>F n (ts++[t]) r2):∃n' r' ts',n'<n+1/\LoopS kv op l j rb F M O w n' r' ts' (xs++[x]):=by
 cases M' with
 |bad p e=>
  obtain⟨g1,a,o,g2,g3⟩:=hP;exact⟨0,[],[],zo,.inr ⟨p,e,a,o,by rw[<-h7,hF];rfl,hG.2,g2,g3⟩⟩
 |ok t r2=>
  refine⟨n,r2,ts++[t],zo,.inl ⟨hP.1,hG.1.J hq,by have:=hG.2;omega,by simp;omega,by simp[h5],λi hi=>?_,by rw[<-h7,hF];rfl⟩⟩;simp only[MU,MM]at hi
  by_cases e:i<xs.length
  ·rw[aB (by simp;omega),aB (by simp;omega),M7 zo,M7 e,<-aB zo,<-aB e];exact h6 i e
  obtain rfl:i=xs.length:=zo;rw[aB (by simp;omega),aB (by simp),MC zo,MC zo];simp[h5];exact hP.2
def qD{F:Nat->List Nd->List UInt8->PR}{M M':PR}{x:N3}(hP:Pz kv O w j rb l op x M')(hG:Good r M')(hr:r <:+ l)(hl:l.length<=4096)(hF:M=M'.andThen λt r2=>F (r2.length+1) [t] r2):∃n' r' ts',LoopS kv op l j rb F M O w n' r' ts' [x]:=by
 cases M' with
 |bad p e=>
  obtain⟨g1,a,o,g2,g3⟩:=hP;exact⟨0,[],[],.inr ⟨p,e,a,o,hF,hG.2,g2,g3⟩⟩
 |ok t r2=>
  have:=hr.length_le;refine⟨r2.length+1,r2,[t],.inl ⟨hP.1,hG.1.J hr,zo,by have:=hG.2;simp;omega,rfl,λi hi=>?_,hF.symm⟩⟩;obtain rfl:i=0:=by simpa using hi
  rw[ao,ao];exact hP.2
def Nt.oneM{O O':Nat->Nat}{w w':ka}{k:Int}{ts:List Nd}{xs:List N3}{lv:Lj}{T U B:Nat}{S:Nat->Prop}(a0:Nu aY 75 3 O' w' U lv xs)(a1:T<=U)(a2:0<T)(hT:∀b,O b<T)(r:No B O' w')(u:Ly S O w O' w')(h5:ts.length=xs.length)(h6:∀i,i<xs.length->Nt O' w' (nth ts i) (nth xs i))(_:1<=xs.length):
  Nt O w' (oneM k ts) (if xs.length=1 then nth xs 0 else(k,0,lv)):=by
 unfold Nf
 by_cases e:xs.length=1
 ·rw[ap zo,ap e];exact(h6 0 zo).low u
 rw[am zo,am e];exact .mk a0.sl (a0.freeT zo (λb=>Po (hT b) a1) r u) h5 (λi hi=>(h6 i hi).low u)
def CC(al:Option (List UInt8->PR))(op:Int)(f3:0<=op/\op<=20)(ha:xJ kv kn al op)(hg:oL al):Pc kv kn 177 [] op (FL kn al) (λ_=>True):=by
 intro B O j rb l r w hR hj hr hl h0 h f5;obtain⟨T,a6,hT⟩:=hR.bound;have i2:j<T:=by rw[<-h.tag];exact hT rb
 have i1:=hr.length_le;apply Ll func177 ntmps177 rfl rfl;refine zh ?_;apply au hR T zo (Lm _) rfl;intro xb w1 O1 g9 f7 f' i3;have h4:=h.U f7 hj zo;have b6:=f7.pT hj a6 (L3 _);refine zh ?_;apply zc call201 (vo al op f3 ha hg B O1 j rb l r w1 f' hj hr hl trivial h4 (f5.U b6));rintro v w2 ⟨x,rfl,e2,g1⟩;have c8:=g1.one;have g8:=g9.U e2 zo zo;have h':=f'.U e2;have d9:=b6.J (e2.pj a6);apply bd elN (enc:=aY) h' (T+1) zo x rfl rfl rfl zd rfl;intro lv w3 O3 b4 e1 h9;have g7:=g8.U e1 zo zo;have i0:=g1.U e1 hj zo;have d8:=d9.J (e1.pT hj a6 (My _));have b5:∀i,i<[x].length->(nth [x] i).2.2.oneCell'=true:=λi hi=>by
  obtain rfl:i=0:=by simpa using hi
  rw[ao];exact c8
 obtain⟨n0,r0,g3,h6⟩:=qD (F:=ee kn al) (M:=FL kn al r) i0 (iw (kn:=kn) hg r) hr hl rfl;refine zh ?_;apply zlp (λy:Nat×List UInt8×List Nd×List N3×(Nat->Nat)×World×Lj=>[(0,nP rb),(2,nP xb),(3,y.2.2.2.2.2.2)]) (λy=>y.2.2.2.2.2.1) (λy=>Mr y.2.2.2.2.1 y.2.2.2.2.2.1 T xb #[nI 0,nI 0,nS] 75/\Nu aY 75 3 y.2.2.2.2.1 y.2.2.2.2.2.1 (T+1) y.2.2.2.2.2.2 y.2.2.2.1/\1<=y.2.2.2.1.length/\(∀i,i<y.2.2.2.1.length->(nth y.2.2.2.1 i).2.2.oneCell'=true)/\Ly (λk=>k=j\/T<=k) O w y.2.2.2.2.1 y.2.2.2.2.2.1/\No B y.2.2.2.2.1 y.2.2.2.2.2.1/\LoopS kv op l j rb (ee kn al) (FL kn al r) y.2.2.2.2.1 y.2.2.2.2.2.1 y.1 y.2.1 y.2.2.1 y.2.2.2.1) (λy=>y.1) (n0,r0,g3,[x],O3,w3,lv) ⟨g7,b4,L3 _,b5,d8,h9,h6⟩;rintro⟨n,r1,ts,xs,O4,w4,a0⟩ ⟨c',a4,a8,a1,e0,e4,f8⟩;dsimp only at c' a4 a8 a1 e0 e4 f8 ⊢
 rcases f8 with⟨a',e9,h1,h3,f4,g',g2⟩|⟨p,e,a,e5,hM,he,a',d5,d4,d3,d2⟩
 ·have e':=(bt r1).J e9;have d0:=ed r1;obtain⟨m,rfl⟩:∃m,n=m+1:=⟨n-1,zo⟩
  have c7:ee kn al (m+1) ts r1=if gF ((ay r1).headD 0)=true then((gj kn al (ay r1)).andThen λt r2=>ee kn al m (ts++[t]) r2)else .ok (oneM 4 ts) (ay r1):=rfl
  refine zh ?_;refine zvH (RV.ld a'.r5 rfl) ?_
  apply ax (d:=12) rfl (b':=true) rfl;refine zh ?_
  apply zc NO (ir O4 w4 j rb l r1 op 0 0 hj e9 zo a');rintro v w5 ⟨rfl,f6,b8⟩;have e6:=c'.U b8 zo zo;have a5:=a4.U b8 zo zo;have e3:=e4.U b8;have b0:=e0.J (b8.pj a6);have e8:∀i,i<xs.length->Nt O4 w5 (nth ts i) (nth xs i):=λi hi=>(g' i hi).U b8
  refine zh ?_;apply zc call202 (BX ((ay r1).headD 0) w5)
  rintro v w9 ⟨rfl,e7⟩;rw[e7];clear e7 w9;refine zh ?_
  by_cases hc:gF ((ay r1).headD 0)=true
  ·rw[ap hc]at c7;refine zTH rfl hc ?_;apply zc call201 (vo al op f3 ha hg B O4 j rb l (ay r1) w5 e3 hj e' hl trivial f6 (f5.U b0));rintro v w6 ⟨x6,rfl,b7,g0⟩;have b1:=g0.one;have g6:=e6.U b7 zo zo;have b3:=a5.U b7 zo zo;have h8:=e3.U b7;have d7:=b0.J (b7.pj a6);apply Qi elN b3 h8 x6 (λ_=>rfl) rfl rfl rfl (gD b1) zo zo zo zd rfl rfl;intro g5 w7 O7 b2 d' h7;obtain⟨n',r',g4,h2,h5⟩:=LoopS.next (F:=ee kn al) g0 (iw (kn:=kn) hg _) e' d0 h1 h3 f4 (λi hi=>(e8 i hi).U b7) g2 c7;refine zh ?_;refine zx (n',r',g4,xs++[x6],O7,w7,g5) ⟨g6.U d' zo zo,b2,by simp,λi hi=>?_,d7.J (d'.pT hj a6 (My _)),h7,h5.U d' hj zo⟩ h2;simp only[MU,MM]at hi
   by_cases e:i<xs.length
   ·rw[aB (by simp;omega),M7 e,<-aB e];exact a1 i e
   obtain rfl:i=xs.length:=zo;rw[aB (by simp)];simpa using b1
  rw[am hc]at c7;refine zFH rfl ((by simpa using hc)) ?_;apply zc PH (tt 4 xs a0 w5 a5.sl a1);rintro v wo ⟨rfl,b9⟩;have a7:Ly (λ_=>False) O4 w5 O4 wo:=aa (λh=>h) O4 b9;have a2:=Ln e6 a7 zo (λh=>h);have a3:=P1 a5 a7 zo (λh=>h);have f9:=Ps e3 a7;have c5:(if xs.length=1 then nth xs 0 else(4,0,a0):N3).2.2.oneCell'=true:=by
   split
   ·exact a1 0 zo
   exact a3.one
  apply zsb (us:=#[nI (if xs.length=1 then nth xs 0 else(4,0,a0):N3).1,nI (if xs.length=1 then nth xs 0 else(4,0,a0):N3).2.1,(if xs.length=1 then nth xs 0 else(4,0,a0):N3).2.2]) a2 (ix _) (cH c5);have c9:=Lp (us:=#[nI (if xs.length=1 then nth xs 0 else(4,0,a0):N3).1,nI (if xs.length=1 then nth xs 0 else(4,0,a0):N3).2.1,(if xs.length=1 then nth xs 0 else(4,0,a0):N3).2.2]) a2;have a9:Ly (λk=>k=T) O4 wo O4 (Lo wo xb #[nI (if xs.length=1 then nth xs 0 else(4,0,a0):N3).1,nI (if xs.length=1 then nth xs 0 else(4,0,a0):N3).2.1,(if xs.length=1 then nth xs 0 else(4,0,a0):N3).2.2]):=Li zo (Lr a2) rfl;have d6:=b0.J (kI O4 b9 hj a6);have c6:=d6.J (a9.pT hj a6 (L3 _));refine zh ?_
  refine aO rfl rfl c9.V (Lk _) (ix _) ⟨(if xs.length=1 then nth xs 0 else(4,0,a0)),rfl,c6.priv hT hj,?_⟩;have d1:=(Ln f6 a7 hj (λh=>h)).U a9 hj zo;rw[<-g2,c7];exact⟨d1.fgt h.tag,Nt.oneM (a3.U a9 zo zo) (My T) a6 hT (f9.U a9) c6 f4 (λi hi=>((e8 i hi).U a7).U a9) a8⟩
 replace a':Mr O4 w4 j rb (rdr kv l a e5 ((l.length:Int)-(p:Int)) e) 251:=a';refine zh ?_;refine zvH (RV.ld a'.r5 rfl) ?_;apply ax (d:=12) rfl (b':=false) ((by simpa using he));refine zh ?_;refine zFH rfl rfl ?_;apply zc PH (tt 4 xs a0 w4 a4.sl a1);rintro v wo ⟨rfl,b9⟩;have a7:Ly (λ_=>False) O4 w4 O4 wo:=aa (λh=>h) O4 b9;have a2:=Ln c' a7 zo (λh=>h);have a3:=P1 a4 a7 zo (λh=>h);have f9:=Ps e4 a7;have c5:(if xs.length=1 then nth xs 0 else(4,0,a0):N3).2.2.oneCell'=true:=by
  split
  ·exact a1 0 zo
  exact a3.one
 apply zsb (us:=#[nI (if xs.length=1 then nth xs 0 else(4,0,a0):N3).1,nI (if xs.length=1 then nth xs 0 else(4,0,a0):N3).2.1,(if xs.length=1 then nth xs 0 else(4,0,a0):N3).2.2]) a2 (ix _) (cH c5);have c9:=Lp (us:=#[nI (if xs.length=1 then nth xs 0 else(4,0,a0):N3).1,nI (if xs.length=1 then nth xs 0 else(4,0,a0):N3).2.1,(if xs.length=1 then nth xs 0 else(4,0,a0):N3).2.2]) a2;have a9:Ly (λk=>k=T) O4 wo O4 (Lo wo xb #[nI (if xs.length=1 then nth xs 0 else(4,0,a0):N3).1,nI (if xs.length=1 then nth xs 0 else(4,0,a0):N3).2.1,(if xs.length=1 then nth xs 0 else(4,0,a0):N3).2.2]):=Li zo (Lr a2) rfl;have d6:=e0.J (kI O4 b9 hj a6);have c6:=d6.J (a9.pT hj a6 (L3 _));refine zh ?_
 refine aO rfl rfl c9.V (Lk _) (ix _) ⟨(if xs.length=1 then nth xs 0 else(4,0,a0)),rfl,c6.priv hT hj,?_⟩;have d1:=(Ln a' a7 hj (λh=>h)).U a9 hj zo;rw[hM];exact⟨c5,a,e5,d1.fgt h.tag,d5,d4,d3,d2⟩
def AR(al:Option (List UInt8->PR))(op:Int)(e9:0<=op/\op<=20)(ha:xJ kv kn al op)(hg:oL al):Pc kv kn 163 [] op (qt kn al) (λ_=>True):=by
 intro B O j rb l r w hR hj hr hl g' h f3;obtain⟨T,a5,hT⟩:=hR.bound;have i1:j<T:=by rw[<-h.tag];exact hT rb
 have i0:=hr.length_le;apply Ll func163 ntmps163 rfl rfl;refine zh ?_;apply au hR T zo (Lm _) rfl;intro xb w1 O1 g7 f4 f8 i2;have h3:=h.U f4 hj zo;have b7:=f4.pT hj a5 (L3 _);refine zh ?_;apply zc call177 (CC al op e9 ha hg B O1 j rb l r w1 f8 hj hr hl trivial h3 (f3.U b7));rintro v w2 ⟨x,rfl,e3,f'⟩;have c9:=f'.one;have g6:=g7.U e3 zo zo;have h9:=f8.U e3;have d':=b7.J (e3.pj a5);apply bd elN (enc:=aY) h9 (T+1) zo x rfl rfl rfl zd rfl;intro lv w3 O3 b3 e2 h8;have g5:=g6.U e2 zo zo;have h':=f'.U e2 hj zo;have d9:=d'.J (e2.pT hj a5 (My _));have b4:∀i,i<[x].length->(nth [x] i).2.2.oneCell'=true:=λi hi=>by
  obtain rfl:i=0:=by simpa using hi
  rw[ao];exact c9
 obtain⟨n0,r0,g1,h5⟩:=qD (F:=dk kn al) (M:=qt kn al r) h' (lK (kn:=kn) hg r) hr hl rfl;refine zh ?_;apply zlp (λy:Nat×List UInt8×List Nd×List N3×(Nat->Nat)×World×Lj=>[(0,nP rb),(2,nP xb),(3,y.2.2.2.2.2.2)]) (λy=>y.2.2.2.2.2.1) (λy=>Mr y.2.2.2.2.1 y.2.2.2.2.2.1 T xb #[nI 0,nI 0,nS] 75/\Nu aY 75 3 y.2.2.2.2.1 y.2.2.2.2.2.1 (T+1) y.2.2.2.2.2.2 y.2.2.2.1/\1<=y.2.2.2.1.length/\(∀i,i<y.2.2.2.1.length->(nth y.2.2.2.1 i).2.2.oneCell'=true)/\Ly (λk=>k=j\/T<=k) O w y.2.2.2.2.1 y.2.2.2.2.2.1/\No B y.2.2.2.2.1 y.2.2.2.2.2.1/\LoopS kv op l j rb (dk kn al) (qt kn al r) y.2.2.2.2.1 y.2.2.2.2.2.1 y.1 y.2.1 y.2.2.1 y.2.2.2.1) (λy=>y.1) (n0,r0,g1,[x],O3,w3,lv) ⟨g5,b3,L3 _,b4,d9,h8,h5⟩;rintro⟨n,r1,ts,xs,O4,w4,a0⟩ ⟨d0,a4,a8,a1,e1,e4,f5⟩;dsimp only at d0 a4 a8 a1 e1 e4 f5 ⊢
 rcases f5 with⟨a',e8,h0,h2,e',g8,g0⟩|⟨p,e,a,e5,hM,he,a',d6,d5,d4,d3⟩
 ·have d1:=(bt r1).J e8;have g9:=ed r1;obtain⟨m,rfl⟩:∃m,n=m+1:=⟨n-1,zo⟩
  have c8:dk kn al (m+1) ts r1=if(ay r1).headD 0=124 then((FL kn al (ay r1).tail).andThen λt r2=>dk kn al m (ts++[t]) r2)else .ok (oneM 5 ts) (ay r1):=rfl
  refine zh ?_;refine zvH (RV.ld a'.r5 rfl) ?_
  apply ax (d:=12) rfl (b':=true) rfl;refine zh ?_
  apply zc NO (ir O4 w4 j rb l r1 op 0 0 hj e8 zo a');rintro v w5 ⟨rfl,b5,b9⟩;have e6:=d0.U b9 zo zo;have a6:=a4.U b9 zo zo;have f7:=e4.U b9;have b6:=e1.J (b9.pj a5);have e7:∀i,i<xs.length->Nt O4 w5 (nth ts i) (nth xs i):=λi hi=>(g8 i hi).U b9
  refine zh ?_
  by_cases hc:(ay r1).headD 0=124
  ·rw[ap hc]at c8;obtain⟨k1,k2⟩:=cF (r:=ay r1) (by rw[hc];decide);have hq4l:=d1.length_le;refine zTH rfl ((by rw[hc];rfl)) ?_;refine zvH (RV.ld b5.r1 rfl) ?_;apply aj (j:=1) b5 rfl (Mv _) rfl rfl rfl rfl;rw[show((l.length:Int)-((ay r1).length:Int))+1=(l.length:Int)-((ay r1).tail.length:Int)from by omega];have hb5a:=Ng b5 ((l.length:Int)-((ay r1).tail.length:Int));have hU5a:Ly (λk=>k=j) O4 w5 O4 (M1 w5 ⟨rb,1,none⟩ (nI ((l.length:Int)-((ay r1).tail.length:Int)))):=Lu (λe=>hj e.symm) (Lr b5) rfl;have hx5a:=e6.U hU5a zo zo;have hrow5a:=a6.U hU5a zo zo;have hR5a:=f7.U hU5a;have hUt5a:=b6.J (hU5a.pj a5);generalize M1 w5 ⟨rb,1,none⟩ (nI ((l.length:Int)-((ay r1).tail.length:Int)))=w5a at *;refine zh ?_;apply zc call177 (CC al op e9 ha hg B O4 j rb l (ay r1).tail w5a hR5a hj (k1.J d1) hl trivial hb5a (f3.U hUt5a));rintro v w6 ⟨x6,rfl,b8,f9⟩;have b0:=f9.one;have g4:=hx5a.U b8 zo zo;have b2:=hrow5a.U b8 zo zo;have h7:=hR5a.U b8;have d8:=hUt5a.J (b8.pj a5);apply Qi elN b2 h7 x6 (λ_=>rfl) rfl rfl rfl (gD b0) zo zo zo zd rfl rfl;intro g3 w7 O7 b1 e0 h6;obtain⟨n',r',g2,h1,h4⟩:=LoopS.next (F:=dk kn al) f9 (lK (kn:=kn) hg _) (k1.J d1) zo h0 h2 e' (λi hi=>((e7 i hi).U hU5a).U b8) g0 c8;refine zh ?_
   refine zx (n',r',g2,xs++[x6],O7,w7,g3) ⟨g4.U e0 zo zo,b1,by simp,λi hi=>?_,d8.J (e0.pT hj a5 (My _)),h6,h4.U e0 hj zo⟩ h1;simp only[MU,MM]at hi
   by_cases e:i<xs.length
   ·rw[aB (by simp;omega),M7 e,<-aB e];exact a1 i e
   obtain rfl:i=xs.length:=zo;rw[aB (by simp)];simpa using b0
  rw[am hc]at c8;refine zFH rfl ((jA _ 124 zd hc)) ?_;apply zc PH (tt 5 xs a0 w5 a6.sl a1);rintro v wo ⟨rfl,c5⟩;have a7:Ly (λ_=>False) O4 w5 O4 wo:=aa (λh=>h) O4 c5;have a2:=Ln e6 a7 zo (λh=>h);have a3:=P1 a6 a7 zo (λh=>h);have f6:=Ps f7 a7;have c6:(if xs.length=1 then nth xs 0 else(5,0,a0):N3).2.2.oneCell'=true:=by
   split
   ·exact a1 0 zo
   exact a3.one
  apply zsb (us:=#[nI (if xs.length=1 then nth xs 0 else(5,0,a0):N3).1,nI (if xs.length=1 then nth xs 0 else(5,0,a0):N3).2.1,(if xs.length=1 then nth xs 0 else(5,0,a0):N3).2.2]) a2 (ix _) (cH c6);have c':=Lp (us:=#[nI (if xs.length=1 then nth xs 0 else(5,0,a0):N3).1,nI (if xs.length=1 then nth xs 0 else(5,0,a0):N3).2.1,(if xs.length=1 then nth xs 0 else(5,0,a0):N3).2.2]) a2;have a9:Ly (λk=>k=T) O4 wo O4 (Lo wo xb #[nI (if xs.length=1 then nth xs 0 else(5,0,a0):N3).1,nI (if xs.length=1 then nth xs 0 else(5,0,a0):N3).2.1,(if xs.length=1 then nth xs 0 else(5,0,a0):N3).2.2]):=Li zo (Lr a2) rfl;have d7:=b6.J (kI O4 c5 hj a5);have c7:=d7.J (a9.pT hj a5 (L3 _));refine zh ?_
  refine aO rfl rfl c'.V (Lk _) (ix _) ⟨(if xs.length=1 then nth xs 0 else(5,0,a0)),rfl,c7.priv hT hj,?_⟩;have d2:=(Ln b5 a7 hj (λh=>h)).U a9 hj zo;rw[<-g0,c8];exact⟨d2.fgt h.tag,Nt.oneM (a3.U a9 zo zo) (My T) a5 hT (f6.U a9) c7 e' (λi hi=>((e7 i hi).U a7).U a9) a8⟩
 replace a':Mr O4 w4 j rb (rdr kv l a e5 ((l.length:Int)-(p:Int)) e) 251:=a';refine zh ?_;refine zvH (RV.ld a'.r5 rfl) ?_;apply ax (d:=12) rfl (b':=false) ((by simpa using he));refine zh ?_;refine zFH rfl rfl ?_;apply zc PH (tt 5 xs a0 w4 a4.sl a1);rintro v wo ⟨rfl,c5⟩;have a7:Ly (λ_=>False) O4 w4 O4 wo:=aa (λh=>h) O4 c5;have a2:=Ln d0 a7 zo (λh=>h);have a3:=P1 a4 a7 zo (λh=>h);have f6:=Ps e4 a7;have c6:(if xs.length=1 then nth xs 0 else(5,0,a0):N3).2.2.oneCell'=true:=by
  split
  ·exact a1 0 zo
  exact a3.one
 apply zsb (us:=#[nI (if xs.length=1 then nth xs 0 else(5,0,a0):N3).1,nI (if xs.length=1 then nth xs 0 else(5,0,a0):N3).2.1,(if xs.length=1 then nth xs 0 else(5,0,a0):N3).2.2]) a2 (ix _) (cH c6);have c':=Lp (us:=#[nI (if xs.length=1 then nth xs 0 else(5,0,a0):N3).1,nI (if xs.length=1 then nth xs 0 else(5,0,a0):N3).2.1,(if xs.length=1 then nth xs 0 else(5,0,a0):N3).2.2]) a2;have a9:Ly (λk=>k=T) O4 wo O4 (Lo wo xb #[nI (if xs.length=1 then nth xs 0 else(5,0,a0):N3).1,nI (if xs.length=1 then nth xs 0 else(5,0,a0):N3).2.1,(if xs.length=1 then nth xs 0 else(5,0,a0):N3).2.2]):=Li zo (Lr a2) rfl;have d7:=e1.J (kI O4 c5 hj a5);have c7:=d7.J (a9.pT hj a5 (L3 _));refine zh ?_
 refine aO rfl rfl c'.V (Lk _) (ix _) ⟨(if xs.length=1 then nth xs 0 else(5,0,a0)),rfl,c7.priv hT hj,?_⟩;have d2:=(Ln a' a7 hj (λh=>h)).U a9 hj zo;rw[hM];exact⟨c6,a,e5,d2.fgt h.tag,d6,d5,d4,d3⟩
def sG:∀(d:Nat),d<=20->Pc kv kn 163 [] (20-(d:Int)) (zm kn d) (λ_=>True)
 |0,h=>AR none _ zo (show(20:Int)-((0:Nat):Int)=20 by omega) (λf e=>by cases e)
 |d+1,h=>by
  have ih:=sG d zo;rw[show(20:Int)-(d:Int)=(20-((d+1:Nat):Int))+1 from by omega]at ih;exact AR (some (zm kn d)) _ zo ⟨zo,ih⟩ (λf e r=>by cases e;exact kd (kn:=kn) d r)
end
end Go.Proofs.YtcfhbfflgnbacaaGreatDoor
namespace Go.VL
def mix(A C:Nat->Nat)(b:Nat):Nat:=if A b=0 then C b else A b
def Jj{A C:Nat->Nat}(h:A b=i)(hi:i≠0):mix A C b=i:=by unfold mix;rw[am zo];exact h
def Lw{A C:Nat->Nat}(h:mix A C b=0):C b=0:=by
 unfold mix at h
 split at h
 ·exact h
 rename_i h1;exact absurd h h1
def Rng.mix{B:Nat}{A C:Nat->Nat}{w:ka}(h:No B A w)(k:No B C w):No B (mix A C) w:=⟨h.le,λb hb=>by
 unfold VL.mix at hb
 split at hb
 ·exact k.rng b hb
 rename_i h1;exact h.rng b h1⟩
end Go.VL
namespace Go.Proofs.YtcfhbfflgnbacaaGreatDoor
variable{kn:Kn}
def vF(O:Nat->Nat)(w:ka)(v:Lj):XR->Prop
 |.ok t=>∃x,v=.tuple #[nv x,nI 0,nI 0]/\Nt O w t x
 |.bad p e=>v=.tuple #[nv (0,0,nS),nI (p:Int),nI e]/\e≠0
def CX:cC M4 249 #[(0,1),(1,1)]:=⟨_,underlying249,λw=>by kernel_rfl⟩
def CS:cC M4 251 #[(0,2),(2,1),(3,1),(4,1),(5,1)]:=⟨_,underlying251,λw=>by kernel_rfl⟩
def ng(kv:Lj)(l:List UInt8)(B:Nat)(O O':Nat->Nat)(w:ka)(h4:No B O w)(hR:No B O' w)(d4:Qc O' w kv kn):N2 M4 143 [.string (bs l),kv] w λv w'=>MS w w'/\vF O w' v (gC kn l):=by
 obtain⟨T,h8,hT⟩:=hR.bound;have a0:¬(λq:Nat=>T<=q) 0:=λe=>zo
 have hA:=sG (kv:=kv) (kn:=kn) 20 (L3 _);rw[show(20:Int)-((20:Nat):Int)=0 from by omega]at hA;have b5:=kd (kn:=kn) 20 l;obtain⟨ms,e3⟩:=d4;obtain⟨qa,qc,g0,_⟩:=e3.1.shape;replace d4:Qc O' w kv kn:=⟨ms,e3⟩
 subst g0;apply Ll func143 ntmps143 rfl rfl;refine zh ?_;apply au hR T zo (Lm _) rfl;intro xb w1 O1 c9 h0 h3 i1;have b9:Ly (λq=>T<=q) O' w O1 w1:=h0.mono (λ_ h=>M6 h.symm) a0;refine zh ?_;refine zvH (cK ln rfl) ?_
 by_cases hl:4096<l.length
 ·have hM:gC kn l=.bad 0 3:=by unfold gC;rw[ap hl]
  rw[hM];refine zTH rfl ((decide_eq_true zo)) ?_;apply zv (aH Ab (Lm _) rfl (by first|rfl|(simp only[Lq,M5];rfl)) rfl rfl);apply zsa (us:=#[nI 0,nI 0,nS]) c9 (ix _);have a7:=Lp (us:=#[nI 0,nI 0,nS]) c9;have a3:Ly (λk=>k=T) O1 w1 O1 (Lo w1 xb #[nI 0,nI 0,nS]):=Li zo (Lr c9) rfl;refine zh ?_;refine cV rfl rfl rfl rfl a7.V (Lk _) (ix _) ⟨aD (b9.J (a3.mono (λ_ h=>M6 h.symm) a0)) (λb=>by have:=hT b;omega),rfl,zd⟩
 refine zFH rfl ((decide_eq_false zo)) ?_;refine zvH (aH CX (zeroValue249 _) rfl (by first|rfl|(simp only[Lq,M5];rfl)) rfl rfl) ?_
 apply zv (Pd (cells:=rdr (.slice qa ms.length qc) l 0 0 0 0) CS (zeroValue251 _) rfl rfl);apply aI h3 (T+1) zo rfl rfl
 intro rb w2 O2 d5 e5 e7 i0;have g7:Rdr (.slice qa ms.length qc) O2 w2 (T+1) rb l ((l.length:Int)-(l.length:Int)) 0 0 0:=by
  rw[show(l.length:Int)-(l.length:Int)=0 from by omega];exact d5
 have f7:=c9.U e5 zo zo;have b8:=b9.J (e5.mono (λ_ h=>by rw[h];omega) a0);refine zh ?_;apply zc call163 (hA B O2 (T+1) rb l l w2 e7 zo (List.suffix_refl l) zo trivial g7 (d4.U b8));rintro v w3 ⟨x,rfl,d',e8⟩;have f4:=e8.one;have f6:=f7.U d' zo zo;have e6:=e7.U d';have d8:=b8.J (d'.mono (λ_ h=>by rw[h];omega) a0);apply au e6 (T+2) zo (Lm _) rfl;intro nb w4 O4 d3 g' h9 h';apply zsb (us:=#[nI x.1,nI x.2.1,x.2.2]) d3 (ix _) (cH f4);have f':=d3.setRow (us:=#[nI x.1,nI x.2.1,x.2.2]);have g9:Ly (λk=>k=T+2) O4 w4 O4 (w4.setRow nb #[nI x.1,nI x.2.1,x.2.2]):=Li zo d3.tag rfl;have a':=g'.J g9;have c8:=f6.U a' zo zo;have c':=e8.U a' zo zo;have h2:=e6.U a';have b7:=d8.J (a'.mono (λ_ h=>by rw[h];omega) a0);generalize w4.setRow nb #[nI x.1,nI x.2.1,x.2.2]=w5 at *
 cases hf:zm kn 20 l with
 |bad p e=>
  rw[hf]at b5 c';have hM:gC kn l=.bad (l.length-p) e:=by unfold gC;rw[am hl,hf]
  have g6:=b5.1;have a8:=b5.2;obtain⟨g1,a,e',a6,g2,g3,g4,g5⟩:=c';replace a6:Mr O4 w5 (T+1) rb (rdr (.slice qa ms.length qc) l a e' ((l.length:Int)-(p:Int)) e) 251:=a6;rw[hM];refine zh ?_;refine zvH (RV.ld a6.r5 rfl) ?_;apply ax (d:=25) rfl (b':=false) ((by simpa using a8));refine zh ?_;refine zFH rfl rfl ?_;refine zvH (RV.ld a6.r5 rfl) ?_;apply ax (d:=44) rfl (b':=false) ((by simpa using a8));refine zh ?_;refine zFH rfl rfl ?_;refine zvH (RV.ld a6.r5 rfl) ?_;apply bp rfl ((by simpa using a8));have a5:=M0 a6;refine zh ?_;apply aN (λW=>W.cell? ⟨rb,4,none⟩=some (nI ((l.length:Int)-(p:Int)))/\W.cell? ⟨rb,5,none⟩=some (nI e)) 12 rfl zk;refine zin ⟨a5.r4,a5.r5⟩ λzS=>?_
  apply zr 0 rfl zS (λ_=>aH Ab (Lm _) rfl (by first|rfl|(simp only[Lq,M5];rfl)) rfl rfl);apply zrm 1 rfl zS rfl
  apply zr 2 rfl zS (λ_=>ak rfl);apply zrf 3 rfl zS rfl
  apply zt 4 rfl zS (λw1 a4=>RV.ld a4.1 rfl);apply zrm 5 rfl zS rfl
  apply zr 6 rfl zS (λ_=>ak rfl);apply zrf 7 rfl zS rfl
  apply zt 8 rfl zS (λw1 a4=>RV.ld a4.2 rfl);apply LN 9 zk rfl
  apply zsa (us:=#[nI 0,nI 0,nS]) (M0 c8) (ix _);have a7:=Lp (us:=#[nI 0,nI 0,nS]) (M0 c8);have a3:Ly (λk=>k=T) O4 (Mq w5) O4 (Lo (Mq w5) xb #[nI 0,nI 0,nS]):=Li zo (Lr c8) rfl;have b0:=Ln a5 a3 zo zo;refine zh ?_
  refine zaf ⟨b0.r4,b0.r5⟩ λzS=>?_
  apply zra 10 rfl zS rfl;apply zra 11 rfl zS rfl
  apply MD zk;refine zh ?_
  refine cV rfl rfl rfl rfl a7.V (Lk _) (ix _) ⟨aD ((b7.drew).J (a3.mono (λ_ h=>M6 h.symm) a0)) (λb=>by have:=hT b;omega),?_⟩;exact⟨by rw[show(l.length:Int)-(p:Int)=((l.length-p:Nat):Int)from by omega];rfl,a8⟩
 |ok t r=>
  rw[hf]at b5 c';obtain⟨a6,d2⟩:=c';replace a6:Mr O4 w5 (T+1) rb (rdr (.slice qa ms.length qc) l ((l.length:Int)-(r.length:Int)) 0 0 0) 251:=a6;have hr:=b5.1;have hq:=(bt r).J hr;have h7:=hq.length_le;refine zh ?_;refine zvH (RV.ld a6.r5 rfl) ?_;apply ax (d:=25) rfl (b':=true) rfl;refine zh ?_;apply zc NO (ir O4 w5 (T+1) rb l r 0 0 0 zo hr zo a6);rintro v w6 ⟨rfl,a9,c6⟩;have d0:=c8.U c6 zo zo;have e2:=f'.U c6 zo zo;have e0:=h2.U c6;have b4:=d2.U c6;have b1:=b7.J (c6.mono (λ_ h=>by rw[h];omega) a0);refine zh ?_
  by_cases e1:(ay r).length=0
  ·have f8:ay r=[]:=List.eq_nil_of_length_eq_zero e1;have e9:gC kn l=if 2000<nsz t then .bad 0 3 else .ok t:=by unfold gC;rw[am hl,hf];dsimp only;rw[am zo]
   refine zFH rfl ((by rw[f8];rfl)) ?_;refine zvH (RV.ld a9.r5 rfl) ?_
   apply ax (d:=44) rfl (b':=true) rfl;refine zh ?_
   refine zvH (RV.ld a9.r1 rfl) ?_;refine zvH (cK ln rfl) ?_
   refine zFH rfl ((decide_eq_false zo)) ?_;refine zvH (RV.ld a9.r5 rfl) ?_
   refine zFH rfl rfl ?_;apply zv (ah (us:=aY x) e2.V (Lk _) (ix _) rfl)
   apply zc call121 (sX (nsz t) t (L3 _) x w6 2000 b4.zero zo);rintro v w7 ⟨rfl,h6⟩;have b6:Ly (λ_=>False) O4 w6 O4 w7:=aa (λh=>h) O4 h6;have a2:=d0.U b6 zo (λh=>h);have f9:=e2.U b6 zo (λh=>h);have a1:=b1.J (b6.mono (λ_ h=>h.elim) a0);have d1:=b4.U b6;have h1:=e0.U b6;refine zh ?_
   by_cases hz:2000<nsz t
   ·have hM:gC kn l=.bad 0 3:=by rw[e9,ap hz]
    rw[hM];refine zTH rfl ((decide_eq_true zo)) ?_;apply zv (aH Ab (Lm _) rfl (by first|rfl|(simp only[Lq,M5];rfl)) rfl rfl);apply zsa (us:=#[nI 0,nI 0,nS]) a2 (ix _);have a7:=Lp (us:=#[nI 0,nI 0,nS]) a2;have a3:Ly (λk=>k=T) O4 w7 O4 (Lo w7 xb #[nI 0,nI 0,nS]):=Li zo (Lr a2) rfl;refine zh ?_;refine cV rfl rfl rfl rfl a7.V (Lk _) (ix _) ⟨aD (a1.J (a3.mono (λ_ h=>M6 h.symm) a0)) (λb=>by have:=hT b;omega),rfl,zd⟩
   have hM:gC kn l=.ok t:=by rw[e9,am hz]
   rw[hM];refine zFH rfl ((decide_eq_false zo)) ?_;apply zv (ah (us:=aY x) f9.V (Lk _) (ix _) rfl);apply zc call166 (xi (nsz t) zo t (L3 _) B (mix O4 O) x w7 (h1.mix (h4.ext (aD a1 (λb=>by have:=hT b;omega)))) d1.zero);rintro v w8 ⟨y,rfl,b3,h5⟩;have e4:Ly (λ_=>False) O4 w7 O4 w8:=aa (λh=>h) O4 h5;have c7:=a2.U e4 zo (λh=>h);have d7:=a1.J (e4.mono (λ_ h=>h.elim) a0);have f3:=b3.one;apply zsb (us:=#[nI y.1,nI y.2.1,y.2.2]) c7 (ix _) (cH f3);have f5:=c7.setRow (us:=#[nI y.1,nI y.2.1,y.2.2]);have g8:Ly (λk=>k=T) O4 w8 O4 (w8.setRow xb #[nI y.1,nI y.2.1,y.2.2]):=Li zo c7.tag rfl;have d9:Ly (λk=>k=T) (mix O4 O) w8 (mix O4 O) (w8.setRow xb #[nI y.1,nI y.2.1,y.2.2]):=Li zo (Jj c7.tag zo) rfl;have d6:=d7.J (g8.mono (λ_ h=>M6 h.symm) a0);refine zh ?_;refine cV rfl rfl rfl rfl f5.V (Lk _) (ix _) ⟨aD d6 (λb=>by have:=hT b;omega),y,rfl,(b3.U d9).weak (λb hb=>Lw hb)⟩
  have hM:gC kn l=.bad (l.length-(ay r).length) 4:=by unfold gC;rw[am hl,hf];dsimp only;rw[ap e1]
  rw[hM]
  by_cases hc:(ay r).headD 0=0
  ·refine zFH rfl ((by rw[hc];rfl)) ?_;refine zvH (RV.ld a9.r5 rfl) ?_
   apply ax (d:=44) rfl (b':=true) rfl;refine zh ?_
   refine zvH (RV.ld a9.r1 rfl) ?_;refine zvH (cK ln rfl) ?_
   refine zTH rfl ((decide_eq_true zo)) ?_;apply zv (RV.ld a9.r1 rfl)
   apply zc Ph (iF _ O4 w6 (T+1) rb l _ _ 0 ((l.length:Int)-((ay r).length:Int)) 4 zo e0 a9);rintro v w7 ⟨_,b2,c5⟩;have a2:=d0.U c5 zo zo;have a1:=b1.J (c5.mono (λ_ h=>by rw[h];omega) a0);refine zh ?_
   refine zvH (RV.ld b2.r5 rfl) ?_;apply bp rfl rfl
   have a5:=M0 b2;refine zh ?_;apply aN (λW=>W.cell? ⟨rb,4,none⟩=some (nI ((l.length:Int)-((ay r).length:Int)))/\W.cell? ⟨rb,5,none⟩=some (nI 4)) 12 rfl zk;refine zin ⟨a5.r4,a5.r5⟩ λzS=>?_
   apply zr 0 rfl zS (λ_=>aH Ab (Lm _) rfl (by first|rfl|(simp only[Lq,M5];rfl)) rfl rfl);apply zrm 1 rfl zS rfl
   apply zr 2 rfl zS (λ_=>ak rfl);apply zrf 3 rfl zS rfl
   apply zt 4 rfl zS (λw1 a4=>RV.ld a4.1 rfl);apply zrm 5 rfl zS rfl
   apply zr 6 rfl zS (λ_=>ak rfl);apply zrf 7 rfl zS rfl
   apply zt 8 rfl zS (λw1 a4=>RV.ld a4.2 rfl);apply LN 9 zk rfl
   apply zsa (us:=#[nI 0,nI 0,nS]) (M0 a2) (ix _);have a7:=Lp (us:=#[nI 0,nI 0,nS]) (M0 a2);have a3:Ly (λk=>k=T) O4 (Mq w7) O4 (Lo (Mq w7) xb #[nI 0,nI 0,nS]):=Li zo (Lr a2) rfl;have b0:=Ln a5 a3 zo zo;refine zh ?_
   refine zaf ⟨b0.r4,b0.r5⟩ λzS=>?_
   apply zra 10 rfl zS rfl;apply zra 11 rfl zS rfl
   apply MD zk;refine zh ?_
   refine cV rfl rfl rfl rfl a7.V (Lk _) (ix _) ⟨aD ((a1.drew).J (a3.mono (λ_ h=>M6 h.symm) a0)) (λb=>by have:=hT b;omega),?_⟩;exact⟨by rw[show(l.length:Int)-((ay r).length:Int)=((l.length-(ay r).length:Nat):Int)from by omega];rfl,zd⟩
  refine zTH rfl ((yZ _ 0 zd hc)) ?_;apply zv (RV.ld a9.r1 rfl)
  apply zc Ph (iF _ O4 w6 (T+1) rb l _ _ 0 ((l.length:Int)-((ay r).length:Int)) 4 zo e0 a9);rintro v w7 ⟨_,b2,c5⟩;have a2:=d0.U c5 zo zo;have a1:=b1.J (c5.mono (λ_ h=>by rw[h];omega) a0);refine zh ?_
  refine zvH (RV.ld b2.r5 rfl) ?_;apply ax (d:=44) rfl (b':=false) rfl
  refine zh ?_;refine zFH rfl rfl ?_
  refine zvH (RV.ld b2.r5 rfl) ?_;apply bp rfl rfl
  have a5:=M0 b2;refine zh ?_;apply aN (λW=>W.cell? ⟨rb,4,none⟩=some (nI ((l.length:Int)-((ay r).length:Int)))/\W.cell? ⟨rb,5,none⟩=some (nI 4)) 12 rfl zk;refine zin ⟨a5.r4,a5.r5⟩ λzS=>?_
  apply zr 0 rfl zS (λ_=>aH Ab (Lm _) rfl (by first|rfl|(simp only[Lq,M5];rfl)) rfl rfl);apply zrm 1 rfl zS rfl
  apply zr 2 rfl zS (λ_=>ak rfl);apply zrf 3 rfl zS rfl
  apply zt 4 rfl zS (λw1 a4=>RV.ld a4.1 rfl);apply zrm 5 rfl zS rfl
  apply zr 6 rfl zS (λ_=>ak rfl);apply zrf 7 rfl zS rfl
  apply zt 8 rfl zS (λw1 a4=>RV.ld a4.2 rfl);apply LN 9 zk rfl
  apply zsa (us:=#[nI 0,nI 0,nS]) (M0 a2) (ix _);have a7:=Lp (us:=#[nI 0,nI 0,nS]) (M0 a2);have a3:Ly (λk=>k=T) O4 (Mq w7) O4 (Lo (Mq w7) xb #[nI 0,nI 0,nS]):=Li zo (Lr a2) rfl;have b0:=Ln a5 a3 zo zo;refine zh ?_
  refine zaf ⟨b0.r4,b0.r5⟩ λzS=>?_
  apply zra 10 rfl zS rfl;apply zra 11 rfl zS rfl
  apply MD zk;refine zh ?_
  refine cV rfl rfl rfl rfl a7.V (Lk _) (ix _) ⟨aD ((a1.drew).J (a3.mono (λ_ h=>M6 h.symm) a0)) (λb=>by have:=hT b;omega),?_⟩;exact⟨by rw[show(l.length:Int)-((ay r).length:Int)=((l.length-(ay r).length:Nat):Int)from by omega];rfl,zd⟩
end Go.Proofs.YtcfhbfflgnbacaaGreatDoor
namespace Go.Proofs.YtcfhbfflgnbacaaGreatDoor
mutual
def ct:Nd->Int | .mk k _ l=>if k=6\/k=7 then -1 else if k=9 then 0 else if k=4\/k=5\/k=8 then cT (k==4) 0 l else 1
def cT:Bool->Int->List Nd->Int
 |_,acc,[]=>acc
 |s,acc,t::r=>if ct t<0 then -1 else cT s (if s=true then acc+ct t else max acc (ct t)) r
end
mutual
def Cb(q:Int):Nd->Bool | .mk k _ l=>(k==q)||FR q l
def FR(q:Int):List Nd->Bool | []=>false|t::r=>Cb q t||FR q r
end
def tR(q:Int):∀(l:List Nd),jZ (λi=>Cb q (nth l i)) l.length=FR q l:=by
 intro l;rw[Nr,dj]
 induction l with
 |nil=>simp[FR]
 |cons t r ih=>
  simp only[FR,Nq,<-ih,LU]
  constructor
  ·rintro⟨i,hi,hq⟩
   cases i with
   |zero=>rw[ao]at hq;exact .inl hq
   |succ i=>rw[aW]at hq;exact .inr ⟨i,zo,hq⟩
  rintro(h|⟨i,hi,hq⟩)
  ·exact⟨0,zo,by rw[ao];exact h⟩
  exact⟨i+1,zo,by rw[aW];exact hq⟩
mutual
def mj:∀(t:Nd),ct t<=nsz t
 |.mk k c l=>by
  have h:=tE l (k==4) 0 (Np 0)
  unfold ct
  simp only[nsz]
  (repeat' split)<;>omega
def tE:∀(l:List Nd) (s:Bool) (acc:Int),0<=acc->cT s acc l<=acc+cM l
 |[],s,acc,h=>by simp[cT,cM]
 |t::r,s,acc,h=>by
  have h1:=mj t
  unfold cT
  simp only[cM]
  split
  ·omega
  split
  ·have h2:=tE r s (acc+ct t) zo
   omega
  have h2:=tE r s (max acc (ct t)) zo
  omega
end
def kX{l:List Nd}(h:i<l.length):l.drop i=nth l i::l.drop (i+1):=by
 rw[MW h,aB h]
def iB:∀(n:Nat),n<=1000000->∀(t:Nd),nsz t<=n->∀(x:N3) (w:ka),Nt (λ_=>0) w t x->N2 M4 153 [nv x] w λv w'=>v=nI (ct t)/\MS w w'
 |0,_,t,hn=>by have:=da t;omega
 |n+1,hm,.mk k c kids,hn=>by
  intro x w h;have c8:=h.ones;obtain⟨xs,hs,hf,hl,hk⟩:=h.kids;simp only[PV]at hl hk;simp only[nsz]at hn;have c9:=du kids;generalize x.2.2=sv at *;subst c8;simp only[Qn,Nd.cls];have hM:ct (.mk k c kids)=if k=6\/k=7 then -1 else if k=9 then 0 else if k=4\/k=5\/k=8 then cT (k==4) 0 kids else 1:=rfl
  rw[hM];apply Ll func153 ntmps153 rfl rfl;refine zh ?_;apply aI (aw w) 1 zo rfl rfl;intro xb w1 O1 b6 c' d0 a4;have c0:w1.cell? (nA xb 0)=some (nI k):=b6.cell 0 rfl;have c2:w1.cell? (nA xb 2)=some sv:=b6.cell 2 rfl;have b5:=hs.ext a4;refine zh ?_
  by_cases h6:k=6
  ·subst h6;refine zTH rfl rfl ?_;refine zTH rfl rfl ?_;refine af rfl rfl ⟨rfl,a4⟩
  refine zFH rfl ((beq_eq_false_iff_ne.2 h6)) ?_
  by_cases h7:k=7
  ·subst h7;refine zTH rfl rfl ?_;refine af rfl rfl ⟨rfl,a4⟩
  rw[am zo];refine zFH rfl ((beq_eq_false_iff_ne.2 h7)) ?_
  by_cases h9:k=9
  ·subst h9;refine zTH rfl rfl ?_;refine af rfl rfl ⟨rfl,a4⟩
  rw[am h9];refine zFH rfl ((beq_eq_false_iff_ne.2 h9)) ?_
  by_cases h4:k=4
  ·subst h4;rw[ap zo];refine zTH rfl rfl ?_;refine zTH rfl rfl ?_;apply zlp (λy:Nat×Int×ka=>[(2,nI 0),(3,nI y.2.1),(1,nP xb),(19,sv),(20,nI xs.length),(21,nI y.1)]) (λy=>y.2.2) (λy=>y.1<=xs.length/\0<=y.2.1/\y.2.1<=cM (kids.take y.1)/\cT ((4:Int)==4) y.2.1 (kids.drop y.1)=cT ((4:Int)==4) 0 kids/\MS w1 y.2.2) (λy=>xs.length-y.1) (0,0,w1) ⟨M9 _,Np _,by simp[cM],rfl,Mp _⟩;rintro⟨i,acc,w2⟩ ⟨hi,b1,ha,hL,a3⟩;dsimp only at hi b1 ha hL a3 ⊢;have a':=b5.ext a3;refine zh ?_;refine zC ?_ ?_
   ·intro a2;replace a2:i<xs.length:=dT a2;have a7:=(hk i a2).ext (a4.J a3);have a9:=a7.one;have b':=bK kids i zo;have b8:=di kids i zo;have b7:=bY kids (i+1);have b9:=mj (nth kids i);rw[kX zo]at hL;have b3:cT ((4:Int)==4) acc (nth kids i::kids.drop (i+1))=if ct (nth kids i)<0 then -1 else cT ((4:Int)==4) (if((4:Int)==4)=true then acc+ct (nth kids i)else max acc (ct (nth kids i))) (kids.drop (i+1)):=rfl
    rw[b3]at hL;refine zh ?_;apply zv (ah (us:=aY (nth xs i)) (λj u hu=>a'.cell a2 hu) (Lk _) (ix _) rfl);apply au (aw w2) 1 zo (Lm _) rfl;intro kb w3 O3 a6 b2 c5 c6;apply zsb (us:=#[nI (nth xs i).1,nI (nth xs i).2.1,(nth xs i).2.2]) a6 (ix _) (cH a9);have a5:=a6.setRow (us:=#[nI (nth xs i).1,nI (nth xs i).2.1,(nth xs i).2.2]);have a8:MS w2 (w3.setRow kb #[nI (nth xs i).1,nI (nth xs i).2.1,(nth xs i).2.2]):=(b2.J (Li zd a6.tag rfl)).ext;generalize w3.setRow kb #[nI (nth xs i).1,nI (nth xs i).2.1,(nth xs i).2.2]=w4 at *;refine zh ?_;apply zv (ah (us:=aY (nth xs i)) a5.V (Lk _) (ix _) rfl);apply zc PI (iB n zo (nth kids i) zo (nth xs i) w4 (a7.ext a8));rintro v w5 ⟨rfl,b4⟩;have a1:=(a3.J a8).J b4;have c7:w5.cell? (nA xb 0)=some (nI 4):=a1.cell c0;refine zh ?_
    by_cases a0:ct (nth kids i)<0
    ·rw[ap a0]at hL;refine zTH rfl ((decide_eq_true a0)) ?_;refine af rfl rfl ⟨by rw[<-hL],a4.J a1⟩
    rw[am a0]at hL;refine zFH rfl ((decide_eq_false a0)) ?_;refine zTH rfl rfl ?_;refine zxd (i+1,_,w5) ⟨a2,by dsimp only;omega,by dsimp only;omega,hL,a1⟩
   intro b0;obtain rfl:i=xs.length:=dF b0;rw[N5 zo]at hL;refine zh ?_;refine af rfl rfl ⟨by rw[<-hL];rfl,a4.J a3⟩
  apply bh rfl ((beq_eq_false_iff_ne.2 h4));have hk4b:(k==4)=false:=beq_eq_false_iff_ne.2 h4;refine zh ?_
  by_cases h5:k=5
  ·subst h5;rw[ap zo];refine zTH rfl rfl ?_;refine zTH rfl rfl ?_;apply zlp (λy:Nat×Int×ka=>[(2,nI 0),(3,nI y.2.1),(1,nP xb),(19,sv),(20,nI xs.length),(21,nI y.1)]) (λy=>y.2.2) (λy=>y.1<=xs.length/\0<=y.2.1/\y.2.1<=cM (kids.take y.1)/\cT ((5:Int)==4) y.2.1 (kids.drop y.1)=cT ((5:Int)==4) 0 kids/\MS w1 y.2.2) (λy=>xs.length-y.1) (0,0,w1) ⟨M9 _,Np _,by simp[cM],rfl,Mp _⟩;rintro⟨i,acc,w2⟩ ⟨hi,b1,ha,hL,a3⟩;dsimp only at hi b1 ha hL a3 ⊢;have a':=b5.ext a3;refine zh ?_;refine zC ?_ ?_
   ·intro a2;replace a2:i<xs.length:=dT a2;have a7:=(hk i a2).ext (a4.J a3);have a9:=a7.one;have b':=bK kids i zo;have b8:=di kids i zo;have b7:=bY kids (i+1);have b9:=mj (nth kids i);rw[kX zo]at hL;have b3:cT ((5:Int)==4) acc (nth kids i::kids.drop (i+1))=if ct (nth kids i)<0 then -1 else cT ((5:Int)==4) (if((5:Int)==4)=true then acc+ct (nth kids i)else max acc (ct (nth kids i))) (kids.drop (i+1)):=rfl
    rw[b3]at hL;refine zh ?_;apply zv (ah (us:=aY (nth xs i)) (λj u hu=>a'.cell a2 hu) (Lk _) (ix _) rfl);apply au (aw w2) 1 zo (Lm _) rfl;intro kb w3 O3 a6 b2 c5 c6;apply zsb (us:=#[nI (nth xs i).1,nI (nth xs i).2.1,(nth xs i).2.2]) a6 (ix _) (cH a9);have a5:=a6.setRow (us:=#[nI (nth xs i).1,nI (nth xs i).2.1,(nth xs i).2.2]);have a8:MS w2 (w3.setRow kb #[nI (nth xs i).1,nI (nth xs i).2.1,(nth xs i).2.2]):=(b2.J (Li zd a6.tag rfl)).ext;generalize w3.setRow kb #[nI (nth xs i).1,nI (nth xs i).2.1,(nth xs i).2.2]=w4 at *;refine zh ?_;apply zv (ah (us:=aY (nth xs i)) a5.V (Lk _) (ix _) rfl);apply zc PI (iB n zo (nth kids i) zo (nth xs i) w4 (a7.ext a8));rintro v w5 ⟨rfl,b4⟩;have a1:=(a3.J a8).J b4;have c7:w5.cell? (nA xb 0)=some (nI 5):=a1.cell c0;refine zh ?_
    by_cases a0:ct (nth kids i)<0
    ·rw[ap a0]at hL;refine zTH rfl ((decide_eq_true a0)) ?_;refine af rfl rfl ⟨by rw[<-hL],a4.J a1⟩
    rw[am a0]at hL;refine zFH rfl ((decide_eq_false a0)) ?_;refine zFH rfl rfl ?_;refine zvH (fY rfl rfl) ?_;refine zxd (i+1,_,w5) ⟨a2,by dsimp only;omega,by dsimp only;omega,hL,a1⟩
   intro b0;obtain rfl:i=xs.length:=dF b0;rw[N5 zo]at hL;refine zh ?_;refine af rfl rfl ⟨by rw[<-hL];rfl,a4.J a3⟩
  refine zFH rfl ((beq_eq_false_iff_ne.2 h5)) ?_
  by_cases h8:k=8
  ·subst h8;rw[ap zo];refine zTH rfl rfl ?_;apply zlp (λy:Nat×Int×ka=>[(2,nI 0),(3,nI y.2.1),(1,nP xb),(19,sv),(20,nI xs.length),(21,nI y.1)]) (λy=>y.2.2) (λy=>y.1<=xs.length/\0<=y.2.1/\y.2.1<=cM (kids.take y.1)/\cT ((8:Int)==4) y.2.1 (kids.drop y.1)=cT ((8:Int)==4) 0 kids/\MS w1 y.2.2) (λy=>xs.length-y.1) (0,0,w1) ⟨M9 _,Np _,by simp[cM],rfl,Mp _⟩;rintro⟨i,acc,w2⟩ ⟨hi,b1,ha,hL,a3⟩;dsimp only at hi b1 ha hL a3 ⊢;have a':=b5.ext a3;refine zh ?_;refine zC ?_ ?_
   ·intro a2;replace a2:i<xs.length:=dT a2;have a7:=(hk i a2).ext (a4.J a3);have a9:=a7.one;have b':=bK kids i zo;have b8:=di kids i zo;have b7:=bY kids (i+1);have b9:=mj (nth kids i);rw[kX zo]at hL;have b3:cT ((8:Int)==4) acc (nth kids i::kids.drop (i+1))=if ct (nth kids i)<0 then -1 else cT ((8:Int)==4) (if((8:Int)==4)=true then acc+ct (nth kids i)else max acc (ct (nth kids i))) (kids.drop (i+1)):=rfl
    rw[b3]at hL;refine zh ?_;apply zv (ah (us:=aY (nth xs i)) (λj u hu=>a'.cell a2 hu) (Lk _) (ix _) rfl);apply au (aw w2) 1 zo (Lm _) rfl;intro kb w3 O3 a6 b2 c5 c6;apply zsb (us:=#[nI (nth xs i).1,nI (nth xs i).2.1,(nth xs i).2.2]) a6 (ix _) (cH a9);have a5:=a6.setRow (us:=#[nI (nth xs i).1,nI (nth xs i).2.1,(nth xs i).2.2]);have a8:MS w2 (w3.setRow kb #[nI (nth xs i).1,nI (nth xs i).2.1,(nth xs i).2.2]):=(b2.J (Li zd a6.tag rfl)).ext;generalize w3.setRow kb #[nI (nth xs i).1,nI (nth xs i).2.1,(nth xs i).2.2]=w4 at *;refine zh ?_;apply zv (ah (us:=aY (nth xs i)) a5.V (Lk _) (ix _) rfl);apply zc PI (iB n zo (nth kids i) zo (nth xs i) w4 (a7.ext a8));rintro v w5 ⟨rfl,b4⟩;have a1:=(a3.J a8).J b4;have c7:w5.cell? (nA xb 0)=some (nI 8):=a1.cell c0;refine zh ?_
    by_cases a0:ct (nth kids i)<0
    ·rw[ap a0]at hL;refine zTH rfl ((decide_eq_true a0)) ?_;refine af rfl rfl ⟨by rw[<-hL],a4.J a1⟩
    rw[am a0]at hL;refine zFH rfl ((decide_eq_false a0)) ?_;refine zFH rfl rfl ?_;refine zvH (fY rfl rfl) ?_;refine zxd (i+1,_,w5) ⟨a2,by dsimp only;omega,by dsimp only;omega,hL,a1⟩
   intro b0;obtain rfl:i=xs.length:=dF b0;rw[N5 zo]at hL;refine zh ?_;refine af rfl rfl ⟨by rw[<-hL];rfl,a4.J a3⟩
  rw[am zo];refine zFH rfl ((beq_eq_false_iff_ne.2 h8)) ?_;refine af rfl rfl ⟨rfl,a4⟩
def vA(t:Nd):Int:=if aZ t=true then max (ct t) 0 else 0
def vB(t:Nd):Bool:=aZ t&&decide (0<=ct t)
def qN(t:Nd)(x:N3)(w:ka)(h:Nt (λ_=>0) w t x):N2 M4 123 [nv x] w λv w'=>v=.tuple #[nI (vA t),.bool (vB t)]/\MS w w':=by
 apply Ll func123 ntmps123 rfl rfl;refine zh ?_
 apply aI (aw w) 1 zo rfl rfl;intro xb w1 O1 a3 a5 a6 a1;have a2:∀W,MS w1 W->∀(j:Nat) (u:Lj),(aY x)[j]? = some u->W.cell? (nA xb j)=some u:=λW hE j u hu=>hE.cell (a3.V j u hu)
 refine zh ?_;apply zv (ah (us:=aY x) (a2 w1 (Mp _)) (Lk _) (ix _) rfl)
 apply zc PD (gS t x w1 (h.ext a1));rintro v w2 ⟨rfl,a0⟩;refine zh ?_
 cases hr:aZ t with
 |false=>
  refine zTH rfl rfl ?_;refine cj rfl rfl rfl ⟨by simp[vA,vB,hr],a1.J a0⟩
 |true=>
  have hz:nsz t<=2000:=by
   simp only[aZ,Lz,decide_eq_true_eq]at hr;exact hr.1
  refine zFH rfl rfl ?_;apply zv (ah (us:=aY x) (a2 w2 a0) (Lk _) (ix _) rfl)
  apply zc PI (iB (nsz t) zo t (L3 _) x w2 (h.ext (a1.J a0)));rintro v w3 ⟨rfl,a4⟩;refine zh ?_
  refine zvH (fY rfl rfl) ?_;refine cj rfl rfl rfl ⟨by simp[vA,vB,hr],(a1.J a0).J a4⟩
def Jt{b:Bool}{q:Int}{t:Nd}{kb:Nat}(ih:∀(y:N3) (W:ka),Nt (λ_=>0) W t y->N2 M4 154 [nv y,nI q] W λv w'=>v=.bool b/\MS W w')(x:N3)(w:ka)(h:Nt (λ_=>0) w t x)(hq:w.cell? ⟨kb,0,none⟩=some (nI q)):
  N2 M4 174 [nv x,nP kb] w λv w'=>v=.bool b/\MS w w':=by
 apply Ll func174 ntmps174 rfl rfl;refine zh ?_
 apply aI (aw w) 1 zo rfl rfl;intro xb w1 O1 a1 a4 a5 a0;have a3:=a0.cell hq;refine zh ?_
 refine zvH (ah (us:=aY x) a1.V (Lk _) (ix _) rfl) ?_;apply zc call154 (ih x w1 (h.ext a0))
 rintro v w2 ⟨rfl,a2⟩;refine zh ?_;refine af rfl rfl ⟨rfl,a0.J a2⟩
def DC:∀(n:Nat) (t:Nd),nsz t<=n->∀(x:N3) (w:ka) (q:Int),Nt (λ_=>0) w t x->N2 M4 154 [nv x,nI q] w λv w'=>v=.bool (Cb q t)/\MS w w'
 |0,t,hn=>by have:=da t;omega
 |n+1,.mk k c kids,hn=>by
  intro x w q h;have a6:=h.ones;obtain⟨xs,hs,hf,hl,hk⟩:=h.kids;simp only[PV]at hl hk;simp only[nsz]at hn;generalize x.2.2=sv at *;subst a6;simp only[Qn,Nd.cls];have hM:Cb q (.mk k c kids)=((k==q)||FR q kids):=rfl;rw[hM];apply Ll func154 ntmps154 rfl rfl;refine zh ?_;apply aI (aw w) 1 zo rfl rfl;intro xb w1 O1 a5 b1 a9 b0;apply aI a9 2 zo rfl rfl;intro kb w2 O2 a7 a8 b2 a';have a3:=a5.U a8 zd zd;have a0:=b0.J a';have c0:w2.cell? (nA xb 0)=some (nI k):=a3.cell 0 rfl;have c2:w2.cell? (nA xb 2)=some sv:=a3.cell 2 rfl;have cq:w2.cell? ⟨kb,0,none⟩=some (nI q):=a7.cell 0 rfl;refine zh ?_;refine bR (MS w2) (FR q kids) 4 (Mp _) rfl rfl rfl rfl rfl ?_ ?_
  ·intro a1;refine zh ?_;refine zvH (eZ rfl rfl) ?_;apply zc call86 (dz call174 #[nP kb] xs sv (λi=>Cb q (nth kids i)) w2 (hs.ext a0) (λi hi w' hE=>Jt (λy W hy=>DC n (nth kids i) (by have:=bK kids i zo;omega) y W q hy) (nth xs i) w' ((hk i hi).ext (a0.J hE)) (hE.cell cq)));have a4:=tR q kids;rw[hl]at a4;rw[a4];rintro v w3 ⟨rfl,a2⟩;refine zh ?_;refine nE 9 5 a2 a1
  intro w3 a2;refine zh ?_;refine af rfl rfl ⟨rfl,a0.J a2⟩
def BE(t:Nd)(q:Int)(x:N3)(w:ka)(h:Nt (λ_=>0) w t x):N2 M4 124 [nv x,nI q] w λv w'=>v=.bool (aZ t&&Cb q t)/\MS w w':=by
 apply Ll func124 ntmps124 rfl rfl;refine zh ?_
 apply aI (aw w) 1 zo rfl rfl;intro xb w1 O1 a5 a6 a7 a3;have a4:∀W,MS w1 W->∀(j:Nat) (u:Lj),(aY x)[j]? = some u->W.cell? (nA xb j)=some u:=λW hE j u hu=>hE.cell (a5.V j u hu)
 refine zh ?_;apply zv (ah (us:=aY x) (a4 w1 (Mp _)) (Lk _) (ix _) rfl)
 apply zc PD (gS t x w1 (h.ext a3));rintro v w2 ⟨rfl,a0⟩;refine zh ?_
 refine aT (MS w1) (Cb q t) 3 a0 rfl rfl rfl rfl rfl ?_ ?_
 ·intro a1;refine zh ?_;refine zvH (ah (us:=aY x) (a4 _ a0) (Lk _) (ix _) rfl) ?_;apply zc call154 (DC (nsz t) t (L3 _) x _ q (h.ext (a3.J a0)));rintro v w3 ⟨rfl,a2⟩;refine zh ?_;refine nE 7 4 (a0.J a2) a1
 intro w3 a2;refine zh ?_;refine af rfl rfl ⟨rfl,a3.J a2⟩
end Go.Proofs.YtcfhbfflgnbacaaGreatDoor
namespace Go.VL
section
variable{P:Na}{N:Nat}{ops:Array Pm}{Q:PU→Qq→ka→Prop}{rest:List Pm}{st:St}{w:ka}
variable{t:Ls}{p:String}{e:Array Q9}{d:Nat}{x y z:NQ}
def Ext.iter(w:ka)(s:ByteArray)(a0:Nat):MS w (w.iter s a0):=Ext.alloc w _
def xE{xt:Ls}(hT:P.underlying xt=some .string)(hx:ev st x=some (.string (bs l)))(hd:MX d N=true) 
  (h:WL P N ops Q rest ((d,.pointer (some ⟨w.heap.size,0,none⟩))::st) (w.iter (bs l) 0)):WL P N ops Q (⟨some d,.range xt x,t,p,e,none⟩::rest) st w:=
 NY hd (λa ha=>by
  simp only[execOp,ha.ev hx,MB,run_range_string w xt (bs l) hT,M8]
  rfl) h
def G1(hx:ev st x=some (.pointer (some ⟨w0.heap.size,0,none⟩)))(hc:l[a0]? = some c)(ha:c.toNat<128)(hd:MX d N=true) 
  (h:WL P N ops Q rest ((d,.tuple #[.bool true,nI (a0:Nat),.int .i32 (c.toNat:Int)])::st) (w0.iter (bs l) (a0+1))):WL P N ops Q (⟨some d,.next x true,t,p,e,none⟩::rest) st (w0.iter (bs l) a0):=by
 obtain⟨a2,hv⟩:=NF.1 hc;have hs:a0<(bs l).size:=by rw[dN];exact a2
 have he:(bs l)[a0]'hs=c:=by rw[<-hv];exact P4 (xs:=l) (i:=a0) a2
 have a1:=run_next_ascii (P:=P) w0 (bs l) a0 t hs (by rw[he];exact ha);rw[he]at a1
 exact NY hd (λa ha=>by
  simp only[execOp,ha.ev hx,MB,a1,M8]
  rfl) h
def G0(hx:ev st x=some (.pointer (some ⟨w0.heap.size,0,none⟩)))(hp:l.length<=a0)(hd:MX d N=true) 
  (h:WL P N ops Q rest ((d,.tuple #[.bool false])::st) (w0.iter (bs l) a0)):WL P N ops Q (⟨some d,.next x true,t,p,e,none⟩::rest) st (w0.iter (bs l) a0):=by
 have hs:¬a0<(bs l).size:=by rw[dN];omega
 have a1:=run_next_end (P:=P) w0 (bs l) a0 t hs
 exact NY hd (λa ha=>by
  simp only[execOp,ha.ev hx,MB,a1,M8]
  rfl) h
end
section
variable{P:Na}{N:Nat}{ops:Array Pm}{Q:PU→Qq→ka→Prop}{rest:List Pm}{st:St}{w:ka}
variable{t:Ls}{p:String}{e:Array Q9}{d:Nat}{x y z:NQ}
def eI{c:Qa}(f:α->St)(g:α->ka)(I:α->Prop)(h1:∀Q',(∀z,I z->QF N Q' .normal (f z) (g z))->WC P N c Q' st w)(h2:∀z,I z->QF N Q .normal (f z) (g z)):WC P N c Q st w:=h1 Q h2
def QF.of{e:PU}{a0:St}{w':ka}(h:QF N Q e a0 w')(hc:Cov st a0)(hw:w'=w):QF N Q e st w:=by subst hw;exact h.weaken hc
def iI{cs us:Array Lj}(off:Nat)(hb:Mr O w i b cs E)(hs:off+us.size<=cs.size)(hT:(sizeOf T).run P w=.ok us.size w)(h1:us.toList.all Ns=true) 
  {q:Qb} (hx:ev st x=some (.pointer (some q))) (hq:q=⟨b,off,none⟩) (hy:ev st y=some (.agg us))
  (h:WL P N ops Q rest st (w.setRow b (cs.toList.take off++us.toList++cs.toList.drop (off+us.size)).toArray)):WL P N ops Q (⟨none,.store T x y,t,p,e,none⟩::rest) st w:=
 jG (λa ha=>by
  subst hq;have a0:(PC T (.pointer (some ⟨b,off,none⟩)) (.agg us)).run P w=.ok () (w.setRow b (cs.toList.take off++us.toList++cs.toList.drop (off+us.size)).toArray):=by
   have:=run_storeCells_at P b off E us.toList 0 cs w hb.blk (by simpa using hs) (Pw.1 h1);simp only[Nat.add_zero,Array.length_toList]at this;simp only[PC,Instr.sureAddr,storeVar,MB,PP,M8,PL,hT];simpa using this
  simp only[execOp,ha.ev hx,ha.ev hy,MB,a0,M8,PP]) h
end
def lowT(O:Nat->Nat)(T:Nat):Nat->Nat:=λb=>if T<=O b then 0 else O b
def Upd.lowT{S:Nat->Prop}{T:Nat}{O O2:Nat->Nat}{w w':ka}(h:Ly S O w O2 w')(hT:∀b,O b<T){S':Nat->Prop}(hS:∀b,S (O b)->S' (O b))(hz:¬S' 0):Ly S' O w (lowT O2 T) w':=
 ⟨h.os,h.tape,h.output,h.size,λb hb hn=>h.blk b hb λhs=>hn (hS b hs),λb hb=>by
  have h1:=h.tag b hb;have:=hT b;unfold Go.VL.lowT;rw[am zo];exact h1,λb hb=>by
  unfold Go.VL.lowT at hb
  split at hb
  ·exact absurd rfl hb
  exact h.new b hb,hz⟩
def Rng.lowT{B:Nat}{O:Nat->Nat}{w:ka}(h:No B O w)(T:Nat):No B (lowT O T) w:=⟨h.le,λb hb=>by
 unfold Go.VL.lowT at hb
 split at hb
 ·exact absurd rfl hb
 exact h.rng b hb⟩
def BlkO.lowT{O:Nat->Nat}{w:ka}{i b:Nat}{cs:Array Lj}{E:Ls}(h:Mr O w i b cs E){T:Nat}(hi:i<T):Mr (lowT O T) w i b cs E:=⟨h.blk,by unfold Go.VL.lowT;rw[h.tag,am zo]⟩
def RowT.lowT{α:Type}{enc:α->List Lj}{O:Nat->Nat}{w:ka}{i:Nat}{E:Ls}{sz:Nat}{v:Lj}{l:List α}(h:Nu enc E sz O w i v l){T:Nat}(hi:i<T):Nu enc E sz (lowT O T) w i v l:=
 ⟨⟨h.1.row,λg hg=>by unfold Go.VL.lowT;rw[h.1.tag g hg,am zo]⟩,h.2⟩
def lZ{T:Nat}(h:O b=0):lowT O T b=0:=by unfold lowT;split<;>simp[h]
end Go.VL
namespace Go.VL
structure LS where
 l:List UInt8
 pos:Int
 to:Int
 bg:Int
 bad:Int
 e:Int
 ig:Lj
 kp:Lj
 ru:Lj
 mc:Lj
 i:Bool
 k:Bool
def LS.cells(s:LS):Array Lj:=#[.string (bs s.l),nI s.pos,nI s.to,nI s.bg,nI s.bad,nI s.e,s.ig,s.kp,s.ru,s.mc,.bool s.i,.bool s.k]
def BlkO.q0{s:LS}(h:Mr O w j rb s.cells E):w.cell? ⟨rb,0,none⟩=some (.string (bs s.l)):=h.cell 0 rfl
def BlkO.q1{s:LS}(h:Mr O w j rb s.cells E):w.cell? ⟨rb,1,none⟩=some (nI s.pos):=h.cell 1 rfl
def BlkO.q2{s:LS}(h:Mr O w j rb s.cells E):w.cell? ⟨rb,2,none⟩=some (nI s.to):=h.cell 2 rfl
def BlkO.q3{s:LS}(h:Mr O w j rb s.cells E):w.cell? ⟨rb,3,none⟩=some (nI s.bg):=h.cell 3 rfl
def BlkO.q4{s:LS}(h:Mr O w j rb s.cells E):w.cell? ⟨rb,4,none⟩=some (nI s.bad):=h.cell 4 rfl
def BlkO.q5{s:LS}(h:Mr O w j rb s.cells E):w.cell? ⟨rb,5,none⟩=some (nI s.e):=h.cell 5 rfl
def BlkO.q6{s:LS}(h:Mr O w j rb s.cells E):w.cell? ⟨rb,6,none⟩=some (s.ig):=h.cell 6 rfl
def BlkO.q7{s:LS}(h:Mr O w j rb s.cells E):w.cell? ⟨rb,7,none⟩=some (s.kp):=h.cell 7 rfl
def BlkO.q8{s:LS}(h:Mr O w j rb s.cells E):w.cell? ⟨rb,8,none⟩=some (s.ru):=h.cell 8 rfl
def BlkO.q9{s:LS}(h:Mr O w j rb s.cells E):w.cell? ⟨rb,9,none⟩=some (s.mc):=h.cell 9 rfl
def BlkO.s_pos{s:LS}(h:Mr O w j rb s.cells E)(a':Int):Mr O (w.setCell ⟨rb,1,none⟩ (nI a')) j rb ({s with pos:=a'}:LS).cells E:=h.set 1 _
def BlkO.s_to{s:LS}(h:Mr O w j rb s.cells E)(a':Int):Mr O (w.setCell ⟨rb,2,none⟩ (nI a')) j rb ({s with to:=a'}:LS).cells E:=h.set 2 _
def BlkO.s_bg{s:LS}(h:Mr O w j rb s.cells E)(a':Int):Mr O (w.setCell ⟨rb,3,none⟩ (nI a')) j rb ({s with bg:=a'}:LS).cells E:=h.set 3 _
def BlkO.s_bad{s:LS}(h:Mr O w j rb s.cells E)(a':Int):Mr O (w.setCell ⟨rb,4,none⟩ (nI a')) j rb ({s with bad:=a'}:LS).cells E:=h.set 4 _
def BlkO.s_e{s:LS}(h:Mr O w j rb s.cells E)(a':Int):Mr O (w.setCell ⟨rb,5,none⟩ (nI a')) j rb ({s with e:=a'}:LS).cells E:=h.set 5 _
def BlkO.s_ru{s:LS}(h:Mr O w j rb s.cells E)(a':Lj):Mr O (w.setCell ⟨rb,8,none⟩ a') j rb ({s with ru:=a'}:LS).cells E:=h.set 8 _
end Go.VL
namespace Go.Proofs.YtcfhbfflgnbacaaGreatDoor
abbrev Rd6(O:Nat->Nat)(w:ka)(j rb:Nat)(s:LS):Prop:=Mr O w j rb s.cells 158
def oN{m:Nat}(h:(l.take m)[i]? = some c):l[i]? = some c:=by
 rw[List.getElem?_take]at h
 split at h
 ·exact h
 cases h
def eE(O:Nat->Nat)(w:ka)(j rb:Nat)(s:LS)(m:Nat)(r:List UInt8)(hj:j≠0)(hm:m<=s.l.length)(hl:s.l.length<=100000)(a3:s.to=(m:Int))(hr:r <:+ s.l.take m)(hp:s.pos=(m:Int)-(r.length:Int))(h:Rd6 O w j rb s):
  N2 M4 114 [nP rb] w λv w'=>v=.bool (decide (0<(ay r).length))/\Rd6 O w' j rb {s with pos:=(m:Int)-((ay r).length:Int)}/\Ly (λk=>k=j) O w O w':=by
 have hz:¬(λk:Nat=>k=j) 0:=λe=>hj e.symm
 have a9:(s.l.take m).length=m:=by simp;omega
 have h0:Rd6 O w j rb {s with pos:=(m:Int)-(r.length:Int)}:=by rw[<-hp];exact h
 apply Ll func114 ntmps114 rfl rfl;refine zh ?_
 apply zlp (λx:List UInt8×ka=>[(0,nP rb)]) (λx=>x.2) (λx=>x.1 <:+ s.l.take m/\ay x.1=ay r/\Rd6 O x.2 j rb {s with pos:=(m:Int)-(x.1.length:Int)}/\Ly (λk=>k=j) O w O x.2) (λx=>x.1.length) (r,w) ⟨hr,rfl,h0,PF hz _ _⟩;rintro⟨r1,w1⟩ ⟨a4,a2,a7,a5⟩;dsimp only at a4 a2 a7 a5 ⊢;have a0:=a7.drew;have a8:=a4.length_le;refine zh ?_
 apply MK zk zk;refine zh ?_
 refine zwH (RV.ld a0.q1 rfl) ?_;refine zwH (RV.ld a0.q2 rfl) ?_
 cases r1 with
 |nil=>
  apply cg (d:=12) rfl (b':=false) (decide_eq_false (by simp[a3]));have a1:=a0.drew;refine zh ?_
  apply zw (bE rfl rfl);apply MF
  refine zh ?_;refine zFH rfl rfl ?_
  apply MK zk zk;refine zh ?_
  refine zwH (RV.ld a1.q1 rfl) ?_;refine zwH (RV.ld a1.q2 rfl) ?_
  apply MF;refine zh ?_
  refine af rfl rfl ⟨by rw[<-a2];simp[a3,ay],by rw[<-a2];exact a1,a5.drew.drew⟩
 |cons b r2=>
  simp only[LU]at a8 a0;apply cg (d:=12) rfl (b':=true) (decide_eq_true (by simp only[LU,a3];omega));refine zh ?_;refine zwH (RV.ld a0.q0 rfl) ?_;refine zwH (RV.ld a0.q1 rfl) ?_;refine zwH (bA (c:=b) ln rfl rfl (m-(r2.length+1)) (by dsimp only;omega) (oN (by have:=ph a4;rwa[a9]at this))) ?_;apply zw (aX rfl rfl);apply MF;refine zh ?_;refine zC ?_ ?_
  ·intro hb;replace hb:b=32:=by rw[show(32:Int)=((32:Nat):Int)from rfl,qn b 32 zd]at hb;simpa using hb
   subst hb;refine zh ?_;apply zv (RV.ld a0.q1 rfl);refine zvH (MZ rfl rfl (MJ (by dsimp only;omega))) ?_;apply aj (j:=1) a0 rfl (Mv _) rfl rfl rfl rfl;rw[show((m:Int)-((r2.length+1:Nat):Int))+1=(m:Int)-(r2.length:Int)from by omega];have a1:=a0.s_pos ((m:Int)-(r2.length:Int));have a':Ly (λk=>k=j) O w1.drew O (w1.drew.setCell ⟨rb,1,none⟩ (nI ((m:Int)-(r2.length:Int)))):=Lu hz a0.tag rfl;refine zh ?_;refine zx (r2,w1.drew.setCell ⟨rb,1,none⟩ (nI ((m:Int)-(r2.length:Int)))) ⟨(Nk _ _).J a4,by rw[<-a2];simp[ay],a1,a5.drew.J a'⟩ (by dsimp only;simp)
  intro hb;replace hb:b≠32:=by rw[show(32:Int)=((32:Nat):Int)from rfl,qn b 32 zd]at hb;simpa using hb
  have a6:ay (b::r2)=b::r2:=by simp[ay,hb]
  have a1:=a0.drew;refine zh ?_;apply MK zk zk;refine zh ?_;refine zwH (RV.ld a1.q1 rfl) ?_;refine zwH (RV.ld a1.q2 rfl) ?_;apply MF;refine zh ?_;refine af rfl rfl ⟨by rw[<-a2,a6];simp[a3];omega,by rw[<-a2,a6];exact a1,a5.drew.drew⟩
def bT(O:Nat->Nat)(w:ka)(j rb:Nat)(s:LS)(p e:Int)(hj:j≠0)(he:s.e=0)(h:Rd6 O w j rb s):
  N2 M4 141 [nP rb,nI p,nI e] w λ_ w'=>Rd6 O w' j rb {s with bad:=p,e:=e}/\Ly (λk=>k=j) O w O w':=by
 apply Ll func141 ntmps141 rfl rfl;refine zh ?_
 refine zvH (RV.ld h.q5 rfl) ?_;refine zTH rfl ((by rw[he];rfl)) ?_
 apply aj (j:=4) h rfl (Mv _) rfl rfl rfl rfl;have a0:=h.s_bad p;have a3:Ly (λk=>k=j) O w O (w.setCell ⟨rb,4,none⟩ (nI p)):=Lu (λe=>hj e.symm) h.tag rfl;refine zh ?_
 apply aj (j:=5) a0 rfl (sizeOf36 _) rfl rfl rfl rfl;have a1:=a0.s_e e;have a2:Ly (λk=>k=j) O (w.setCell ⟨rb,4,none⟩ (nI p)) O ((w.setCell ⟨rb,4,none⟩ (nI p)).setCell ⟨rb,5,none⟩ (nI e)):=Lu (λe=>hj e.symm) a0.tag rfl;refine zh ?_
 refine aP rfl ⟨a1,a3.J a2⟩
def iY(O:Nat->Nat)(w:ka)(j rb:Nat)(s:LS)(m:Nat)(r:List UInt8)(hj:j≠0)(hm:m<=s.l.length)(hl:s.l.length<=100000)(b2:s.to=(m:Int))(hr:r <:+ s.l.take m)(hp:s.pos=(m:Int)-(r.length:Int))(h:Rd6 O w j rb s):
  N2 M4 115 [nP rb] w λv w'=>v=.string (bs (r.takeWhile aq))/\Rd6 O w' j rb {s with pos:=(m:Int)-((r.dropWhile aq).length:Int)}/\Ly (λk=>k=j) O w O w':=by
 have hz:¬(λk:Nat=>k=j) 0:=λe=>hj e.symm
 have a9:(s.l.take m).length=m:=by simp;omega
 have h0:Rd6 O w j rb {s with pos:=(m:Int)-(r.length:Int)}:=by rw[<-hp];exact h
 have a':=hr.length_le;rw[a9]at a';apply Ll func115 ntmps115 rfl rfl;refine zh ?_;refine zvH (RV.ld h0.q1 rfl) ?_;apply zlp (λx:List UInt8×ka=>[(0,nP rb),(3,nI ((m:Int)-(r.length:Int)))]) (λx=>x.2) (λx=>x.1 <:+ s.l.take m/\x.1.dropWhile aq=r.dropWhile aq/\Rd6 O x.2 j rb {s with pos:=(m:Int)-(x.1.length:Int)}/\Ly (λk=>k=j) O w O x.2) (λx=>x.1.length) (r,w) ⟨hr,rfl,h0,PF hz _ _⟩;rintro⟨r1,w1⟩ ⟨a8,a5,b4,a6⟩;dsimp only at a8 a5 b4 a6 ⊢;have a0:=b4.drew;have b3:=a8.length_le;rw[a9]at b3;have a3:r1=r.dropWhile aq->(s.l.take (m-r1.length)).drop (m-r.length)=r.takeWhile aq:=λe=>by
  have:=Cy (l:=s.l.take m) (a:=r.takeWhile aq) (b:=r.dropWhile aq) (by rw[Nh];exact hr);rw[Nh,<-e,a9,Nx,Nv zo]at this;exact this
 have b0:r1.length<=r.length\/r1≠r.dropWhile aq:=by
  by_cases e:r1=r.dropWhile aq
  ·left;rw[e];exact(NW _).length_le
  right;exact e
 refine zh ?_;apply MK zk zk
 refine zh ?_;refine zwH (RV.ld a0.q1 rfl) ?_
 refine zwH (RV.ld a0.q2 rfl) ?_
 cases r1 with
 |nil=>
  apply cg (d:=17) rfl (b':=false) (decide_eq_false (by simp[b2]));have a1:=a0.drew;have hd:[]=r.dropWhile aq:=by rw[<-a5];rfl
  have h1:=a3 hd;refine zh ?_;apply zw (bE rfl rfl);apply MF;refine zh ?_;refine zFH rfl rfl ?_;apply MK zk zk;refine zh ?_;refine zwH (RV.ld a1.q0 rfl) ?_;apply zw (RV.ld a1.q1 rfl);refine zwH (dH ln rfl rfl rfl (m-r.length) (m-0) zo (by simp) zo zo) ?_;apply MF;refine zh ?_;simp only[List.length_nil]at h1;refine af rfl rfl ⟨by rw[h1],by rw[<-hd];exact a1,a6.drew.drew⟩
 |cons b r2=>
  simp only[LU]at b3 a0;apply cg (d:=17) rfl (b':=true) (decide_eq_true (by simp only[LU,b2];omega));have a2:s.l[m-(r2.length+1)]? = some b:=oN (by have:=ph a8;rwa[a9]at this);refine zh ?_;refine zwH (RV.ld a0.q0 rfl) ?_;refine zwH (RV.ld a0.q1 rfl) ?_;refine zwH (bA (c:=b) ln rfl rfl (m-(r2.length+1)) (by dsimp only;omega) a2) ?_
  by_cases k1:65<=b.toNat
  ·apply cg (d:=28) rfl (b':=true) (decide_eq_true zo);refine zh ?_
   refine zwH (RV.ld a0.q0 rfl) ?_;refine zwH (RV.ld a0.q1 rfl) ?_
   refine zwH (bA (c:=b) ln rfl rfl (m-(r2.length+1)) (by dsimp only;omega) a2) ?_;refine zwH (aX rfl rfl) ?_
   by_cases k2:b.toNat<=90
   ·apply cg (d:=40) rfl (b':=true) (decide_eq_true zo);have a4:aq b=true:=by simp[aq,k1,k2]
    refine zh ?_;apply zw (aX rfl rfl)
    apply zw (aX rfl rfl);apply MF
    refine zh ?_;refine zTH rfl rfl ?_
    apply zv (RV.ld a0.q1 rfl);refine zvH (MZ rfl rfl (MJ (by dsimp only;omega))) ?_
    apply aj (j:=1) a0 rfl (Mv _) rfl rfl rfl rfl;rw[show((m:Int)-((r2.length+1:Nat):Int))+1=(m:Int)-(r2.length:Int)from by omega];have a1:=a0.s_pos ((m:Int)-(r2.length:Int));have b1:Ly (λk=>k=j) O w1.drew O (w1.drew.setCell ⟨rb,1,none⟩ (nI ((m:Int)-(r2.length:Int)))):=Lu hz a0.tag rfl;refine zh ?_
    refine zx (r2,w1.drew.setCell ⟨rb,1,none⟩ (nI ((m:Int)-(r2.length:Int)))) ⟨(Nk _ _).J a8,by rw[<-a5,NB a4],a1,a6.drew.J b1⟩ (by dsimp only;simp)
   apply cg (d:=40) rfl (b':=false) (decide_eq_false zo);refine zh ?_
   refine zwH (RV.ld a0.q0 rfl) ?_;refine zwH (RV.ld a0.q1 rfl) ?_
   refine zwH (bA (c:=b) ln rfl rfl (m-(r2.length+1)) (by dsimp only;omega) a2) ?_
   by_cases k3:97<=b.toNat
   ·apply cg (d:=51) rfl (b':=true) (decide_eq_true zo);refine zh ?_
    refine zwH (RV.ld a0.q0 rfl) ?_;refine zwH (RV.ld a0.q1 rfl) ?_
    refine zwH (bA (c:=b) ln rfl rfl (m-(r2.length+1)) (by dsimp only;omega) a2) ?_;refine zwH (aX rfl rfl) ?_
    apply zw (bE rfl rfl);apply zw (aX rfl rfl)
    apply MF;refine zh ?_
    by_cases k4:b.toNat<=122
    ·apply bp rfl (decide_eq_true zo);have a4:aq b=true:=by simp[aq,k3,k4]
     refine zh ?_;apply zv (RV.ld a0.q1 rfl)
     refine zvH (MZ rfl rfl (MJ (by dsimp only;omega))) ?_;apply aj (j:=1) a0 rfl (Mv _) rfl rfl rfl rfl
     rw[show((m:Int)-((r2.length+1:Nat):Int))+1=(m:Int)-(r2.length:Int)from by omega];have a1:=a0.s_pos ((m:Int)-(r2.length:Int));have b1:Ly (λk=>k=j) O w1.drew O (w1.drew.setCell ⟨rb,1,none⟩ (nI ((m:Int)-(r2.length:Int)))):=Lu hz a0.tag rfl;refine zh ?_;refine zx (r2,w1.drew.setCell ⟨rb,1,none⟩ (nI ((m:Int)-(r2.length:Int)))) ⟨(Nk _ _).J a8,by rw[<-a5,NB a4],a1,a6.drew.J b1⟩ (by dsimp only;simp)
    apply bh rfl (decide_eq_false zo);have a4:aq b=false:=by simp[aq,k2,k4]
    have a7:(b::r2).dropWhile aq=b::r2:=MV (by rw[a4];decide);have hd:b::r2=r.dropWhile aq:=by rw[<-a5,a7]
    have h1:=a3 hd;have h2:=b0.resolve_right (λe=>e hd);simp only[LU]at h1 h2;have a1:=a0.drew;refine zh ?_;apply MK zk zk;refine zh ?_;refine zwH (RV.ld a1.q0 rfl) ?_;apply zw (RV.ld a1.q1 rfl);refine zwH (dH ln rfl rfl rfl (m-r.length) (m-(r2.length+1)) zo (by dsimp only;omega) zo (by dsimp only;omega)) ?_;apply MF;refine zh ?_;refine af rfl rfl ⟨by rw[h1],by rw[<-hd];exact a1,a6.drew.drew⟩
   apply cg (d:=51) rfl (b':=false) (decide_eq_false zo);have a4:aq b=false:=by simp[aq,k2,k3]
   have a7:(b::r2).dropWhile aq=b::r2:=MV (by rw[a4];decide);have hd:b::r2=r.dropWhile aq:=by rw[<-a5,a7]
   have h1:=a3 hd;have h2:=b0.resolve_right (λe=>e hd);simp only[LU]at h1 h2;have a1:=a0.drew;refine zh ?_;refine zwH (bE rfl rfl) ?_;apply zw (bE rfl rfl);apply zw (aX rfl rfl);apply MF;refine zh ?_;refine zFH rfl rfl ?_;apply MK zk zk;refine zh ?_;refine zwH (RV.ld a1.q0 rfl) ?_;apply zw (RV.ld a1.q1 rfl);refine zwH (dH ln rfl rfl rfl (m-r.length) (m-(r2.length+1)) zo (by dsimp only;omega) zo (by dsimp only;omega)) ?_;apply MF;refine zh ?_;refine af rfl rfl ⟨by rw[h1],by rw[<-hd];exact a1,a6.drew.drew⟩
  have k3:¬97<=b.toNat:=zo;apply cg (d:=28) rfl (b':=false) (decide_eq_false zo);refine zh ?_;refine zwH (bE rfl rfl) ?_;refine zwH (RV.ld a0.q0 rfl) ?_;refine zwH (RV.ld a0.q1 rfl) ?_;refine zwH (bA (c:=b) ln rfl rfl (m-(r2.length+1)) (by dsimp only;omega) a2) ?_;apply cg (d:=51) rfl (b':=false) (decide_eq_false zo);have a4:aq b=false:=by simp[aq,k1,k3]
  have a7:(b::r2).dropWhile aq=b::r2:=MV (by rw[a4];decide);have hd:b::r2=r.dropWhile aq:=by rw[<-a5,a7]
  have h1:=a3 hd;have h2:=b0.resolve_right (λe=>e hd);simp only[LU]at h1 h2;have a1:=a0.drew;refine zh ?_;refine zwH (bE rfl rfl) ?_;apply zw (bE rfl rfl);apply zw (aX rfl rfl);apply MF;refine zh ?_;refine zFH rfl rfl ?_;apply MK zk zk;refine zh ?_;refine zwH (RV.ld a1.q0 rfl) ?_;apply zw (RV.ld a1.q1 rfl);refine zwH (dH ln rfl rfl rfl (m-r.length) (m-(r2.length+1)) zo (by dsimp only;omega) zo (by dsimp only;omega)) ?_;apply MF;refine zh ?_;refine af rfl rfl ⟨by rw[h1],by rw[<-hd];exact a1,a6.drew.drew⟩
end Go.Proofs.YtcfhbfflgnbacaaGreatDoor
namespace Go.VL
section
variable{P:Na}{N:Nat}{ops:Array Pm}{Q:PU→Qq→ka→Prop}{rest:List Pm}{st:St}{w:ka}
variable{t:Ls}{p:String}{e:Array Q9}{d:Nat}{x y z:NQ}
def WC.scope{c:Qa}(h:WC P N c (PT Q) st w):WC P N (.scope c) Q st w:=λa ha=>wp_scope_straight (h a ha)
def lu(h:QF N Q .ret st w):QF N (PT Q) .ret st w:=h
def run_next_at(w:ka)(b:Nat)(s:ByteArray)(a0:Nat)(ty:Ls){c:Nat}(hb:w.heap[b]? = some (.stringIter s a0))(h:a0<s.size)(hd:N8 s a0=(c,n)):
  (Nw (nP b) true ty).run P w=.ok (.tuple #[.bool true,nI a0,.int .i32 c]) (w.putObj b (.stringIter s (a0+n))):=by
 simp only[Nw,getObj,setObj,MB,PQ,hb,Result.andThen,h,if_true,hd];simp[goInt,World.putObj]
def th(w:ka)(b:Nat)(s:ByteArray)(a0:Nat)(ty:Ls)(hb:w.heap[b]? = some (.stringIter s a0))(h:¬a0<s.size):
  (Nw (nP b) true ty).run P w=.ok (.tuple #[.bool false]) w:=by
 simp[Nw,getObj,PQ,hb,h]
def xF{c:Nat}(hx:ev st x=some (nP b))(hb:w.heap[b]? = some (.stringIter (bs l) a0))(hp:a0<l.length)(a2:N8 (bs l) a0=(c,n))(hd:MX d N=true) 
  (h:WL P N ops Q rest ((d,.tuple #[.bool true,nI (a0:Nat),.int .i32 (c:Int)])::st) (w.putObj b (.stringIter (bs l) (a0+n)))):WL P N ops Q (⟨some d,.next x true,t,p,e,none⟩::rest) st w:=by
 have a1:=run_next_at (P:=P) w b (bs l) a0 t hb (by rw[dN];exact hp) a2
 exact NY hd (λa ha=>by
  simp only[execOp,ha.ev hx,MB,a1,M8]
  rfl) h
def zy(hx:ev st x=some (nP b))(hb:w.heap[b]? = some (.stringIter (bs l) a0))(hp:l.length<=a0)(hd:MX d N=true) 
  (h:WL P N ops Q rest ((d,.tuple #[.bool false])::st) w):WL P N ops Q (⟨some d,.next x true,t,p,e,none⟩::rest) st w:=by
 have a1:=th (P:=P) w b (bs l) a0 t hb (by rw[dN];omega)
 exact NY hd (λa ha=>by
  simp only[execOp,ha.ev hx,MB,a1,M8]
  rfl) h
def zG{xt yt:Ls}{k k':IntKind}{m:Int}(hs:P.underlying xt=some (.int k'))(a0:P.underlying yt=some .string)(hx:ev st x=some (.int k m)):RV P N (.convert xt yt x) t st w (.string (NZ m)):=
 λa ha a1 p e g=>by
  simp only[execOp,ha.ev hx];simp[convert,run_underlying hs,run_underlying a0,Conv.intToString]
end
def D5(h:a0<l.length)(hb:(nth l a0).toNat<128):N8 (bs l) a0=((nth l a0).toNat,1):=by
 have hs:a0<(bs l).size:=by rw[dN];exact h
 have he:(bs l)[a0]'hs=nth l a0:=by rw[aB h];exact P4 (xs:=l) (i:=a0) h
 have:=decode_ascii (bs l) a0 hs (by rw[he];exact hb);rw[he]at this;exact this
def Il(h:i<l.length):(bs l).get! i=nth l i:=by
 rw[aB h];show(bs l).data[i]! = _;rw[getElem!_pos (bs l).data i (by simpa[bs]using h)];simp[bs]
def D6(h:a0<l.length)(hb:128<=(nth l a0).toNat):
  ∃c n,N8 (bs l) a0=(c,n)/\128<=c/\MG (c:Int)=true/\1<=n/\a0+n<=l.length/\∀i,a0<=i->i<a0+n->128<=(nth l i).toNat:=by
 have h0:(bs l).get! (a0+0)=nth l a0:=Il h;have hc:∀k,(a0+k<(bs l).size&&((bs l).get! (a0+k)).toNat / 64==2)=true->a0+k<l.length/\128<=(nth l (a0+k)).toNat:=λk hk=>by
  simp only[Lz,decide_eq_true_eq,beq_iff_eq,dN]at hk;rw[Il hk.1]at hk;exact⟨hk.1,zo⟩
 have one:∀i,a0<=i->i<a0+1->128<=(nth l i).toNat:=λi h1 h2=>by
  obtain rfl:i=a0:=zo;exact hb
 have a1:∃c n,(Utf8.runeError,1)=(c,n)/\128<=c/\MG (c:Int)=true/\1<=n/\a0+n<=l.length/\∀i,a0<=i->i<a0+n->128<=(nth l i).toNat:=⟨_,_,rfl,zd,zd,zd,zo,one⟩
 unfold N8;simp only[h0];rw[am zo];have a2:=(nth l a0).toNat_lt
 split
 ·rename_i h1;simp only[Lz]at h1;obtain⟨g1,g2⟩:=hc 1 (by simpa using h1.2)
  split
  ·rename_i h2;refine⟨_,_,rfl,h2,?_,zd,zo,λi k1 k2=>?_⟩
   ·unfold MG;simp only[Nq,Lz,decide_eq_true_eq];left;constructor<;>omega
   by_cases e:i=a0
   ·rw[e];exact hb
   obtain rfl:i=a0+1:=zo;exact g2
  exact a1
 split
 ·rename_i h1;simp only[Lz]at h1;obtain⟨g1,g2⟩:=hc 1 (by simpa using h1.1.2);obtain⟨g3,g4⟩:=hc 2 (by simpa using h1.2)
  split
  ·rename_i h2;simp only[Lz,decide_eq_true_eq]at h2;refine⟨_,_,rfl,zo,h2.2,zd,zo,λi k1 k2=>?_⟩
   by_cases e:i=a0
   ·rw[e];exact hb
   by_cases e1:i=a0+1
   ·rw[e1];exact g2
   obtain rfl:i=a0+2:=zo;exact g4
  exact a1
 split
 ·rename_i h1;simp only[Lz]at h1;obtain⟨g1,g2⟩:=hc 1 (by simpa using h1.1.1.2);obtain⟨g3,g4⟩:=hc 2 (by simpa using h1.1.2);obtain⟨g5,g6⟩:=hc 3 (by simpa using h1.2)
  split
  ·rename_i h2;simp only[Lz,decide_eq_true_eq]at h2;refine⟨_,_,rfl,zo,h2.2,zd,zo,λi k1 k2=>?_⟩
   by_cases e:i=a0
   ·rw[e];exact hb
   by_cases e1:i=a0+1
   ·rw[e1];exact g2
   by_cases e2:i=a0+2
   ·rw[e2];exact g4
   obtain rfl:i=a0+3:=zo;exact g6
  exact a1
 exact a1
def DV{c:Nat}(hc:128<=c)(hv:MG (c:Int)=true):∃L:List UInt8,NZ (c:Int)=bs L/\2<=L.length/\L.length<=4/\128<=(nth L 1).toNat:=by
 unfold NZ;simp only[hv,if_true,Int.toNat_natCast];rw[am zo];have hm:c % 64<64:=Pn _ zd
 split
 ·refine⟨[Mu (0xC0+c / 64),Mu (0x80+c % 64)],rfl,by simp,by simp,?_⟩;rw[aW,ao];simp;omega
 split
 ·refine⟨[Mu (0xE0+c / 4096),Mu (0x80+c / 64 % 64),Mu (0x80+c % 64)],rfl,by simp,by simp,?_⟩;rw[aW,ao];have:c / 64 % 64<64:=Pn _ zd;simp;omega
 refine⟨[Mu (0xF0+c / 262144),Mu (0x80+c / 4096 % 64),Mu (0x80+c / 64 % 64),Mu (0x80+c % 64)],rfl,by simp,by simp,?_⟩;rw[aW,ao];have:c / 4096 % 64<64:=Pn _ zd;simp;omega
end Go.VL
namespace Go.Proofs.YtcfhbfflgnbacaaGreatDoor
def sR(c:Int)(w:ka)(hv:MG c=true):N2 M4 191 [.int .i32 c] w λv w'=>v=.bool true/\w'=w:=by
 unfold MG at hv;simp only[Nq,Lz,decide_eq_true_eq]at hv;apply Ll func191 ntmps191 rfl rfl;refine zh ?_;apply ax (d:=6) rfl (b':=true) ((decide_eq_true zo));refine zh ?_
 by_cases h:c<55296
 ·refine zTH rfl ((decide_eq_true zo)) ?_;refine af rfl rfl ⟨rfl,rfl⟩
 refine zFH rfl ((decide_eq_false zo)) ?_;apply ax (d:=13) rfl (b':=true) ((decide_eq_true zo))
 refine zh ?_;refine zTH rfl ((decide_eq_true zo)) ?_
 refine af rfl rfl ⟨rfl,rfl⟩
def qf(c:Nat)(w:ka)(hc:128<=c)(hv:MG (c:Int)=true):N2 M4 172 [.string (bs [33,47]),.int .i32 (c:Int)] w λv w'=>v=nI (-1)/\MS w w':=by
 apply Ll func172 ntmps172 rfl rfl;refine zh ?_
 apply ax (d:=163) rfl (b':=true) ((decide_eq_true zo));refine zh ?_
 refine zFH rfl ((decide_eq_false zo)) ?_
 by_cases h3:(c:Int)=65533
 ·refine zTH rfl ((by simpa using h3)) ?_;apply xE ln rfl rfl
  refine zh ?_;apply zlp (λx:Nat=>[(175,.pointer (some ⟨w.heap.size,0,none⟩))]) (λx=>w.iter (bs [33,47]) x) (λx=>x<=2) (λx=>2-x) 0 (M9 _)
  rintro k hk;refine zh ?_
  by_cases a2:k<2
  ·have a3:([33,47]:List UInt8)[k]? = some (nth [33,47] k):=by rw[aB (by simpa using a2)];exact LK (by simpa using a2)
   have a4:(nth ([33,47]:List UInt8) k).toNat<128:=by
    have:k=0\/k=1:=zo
    rcases this with rfl|rfl
    ·rw[ao];decide
    rw[aW,ao];decide
   apply G1 rfl a3 a4 rfl;refine zh ?_
   refine zTH rfl rfl ?_;refine zFH rfl ((beq_eq_false_iff_ne.2 zo)) ?_
   refine zxd (k+1) a2
  apply G0 rfl (by simp;omega) rfl;refine zh ?_
  refine zFH rfl rfl ?_;refine af rfl rfl ⟨rfl,Ext.iter _ _ _⟩
 refine zFH rfl ((by simpa using h3)) ?_;apply zc call191 (sR c w hv)
 rintro v w9 ⟨rfl,a1⟩;rw[a1];clear a1 w9;obtain⟨L,hL,a6,a5,a7⟩:=DV hc hv;refine zh ?_;apply bh rfl rfl;apply WC.scope;refine zh ?_;apply zv (zG Q5 ln rfl);rw[hL];refine zh ?_;refine zvH (cK ln rfl) ?_;apply zlp (λx:Unit=>[(0,.string (bs [33,47])),(7,.string (bs L)),(8,nI ((L.length:Int)-1)),(9,nI ((L.length:Int)-1)),(10,nI 0)]) (λx=>w) (λx=>True) (λx=>0) () trivial;rintro _ _;refine zh ?_;refine zvH (cK ln rfl) ?_
 by_cases h2:L.length=2
 ·apply bp rfl ((decide_eq_true (by simp;omega)));have a0:L[1]? = some (nth L 1):=by rw[aB zo];exact LK zo
  refine zh ?_;apply WC.scope
  refine zh ?_;apply MK zk zk
  refine zh ?_;refine zwH (bA (c:=47) ln rfl rfl 1 zo rfl) ?_
  refine zwH (bA (c:=nth L 1) ln rfl rfl 1 zo a0) ?_;apply MF
  refine zh ?_;refine zTH rfl ((by rw[bne_iff_ne];show(47:Int)≠_;omega)) ?_
  apply Py 7 rfl rfl zk zk;refine zh ?_
  refine zwH (lh ln rfl rfl 2 zo (by simp)) ?_;apply zw (bA (c:=nth L 1) ln rfl rfl 1 zo a0)
  apply dX;apply zc PE (ej [] (nth L 1) w.drew.drew)
  rintro v w9 ⟨rfl,a1⟩;rw[a1];clear a1 w9;refine zh ?_;refine zTH rfl rfl ?_;apply lu;refine zh ?_;apply lu;refine zh ?_;refine af rfl rfl ⟨rfl,(Mp w).drew.drew⟩
 refine zFH rfl ((decide_eq_false (by simp;omega))) ?_;apply lu
 refine zh ?_;refine af rfl rfl ⟨rfl,Mp _⟩
def mF(c:Nat)(w:ka)(hc:128<=c)(hv:MG (c:Int)=true):N2 M4 149 [.string (bs [33,47]),.int .i32 (c:Int)] w λv w'=>v=.bool false/\MS w w':=by
 apply Ll func149 ntmps149 rfl rfl;refine zh ?_
 apply zc call172 (qf c w hc hv);rintro v w9 ⟨rfl,hE⟩;refine zh ?_
 refine af rfl rfl ⟨rfl,hE⟩
def yh(c:Nat)(w:ka)(hc:128<=c)(hv:MG (c:Int)=true):N2 M4 148 [.int .i32 (c:Int)] w λv w'=>v=.bool false/\MS w w':=by
 apply Ll func148 ntmps148 rfl rfl;refine zh ?_
 apply zc call149 (mF c w hc hv);rintro v w9 ⟨rfl,hE⟩;refine zh ?_
 refine af rfl rfl ⟨rfl,hE⟩
end Go.Proofs.YtcfhbfflgnbacaaGreatDoor
namespace Go.VL
def forget(i:Nat)(O:Nat->Nat)(b:Nat):Nat:=if O b=i then 0 else O b
def Rng.forget{B i:Nat}{O:Nat->Nat}{w:ka}(h:No B O w):No B (forget i O) w:=⟨h.le,λb hb=>by
 unfold VL.forget at hb
 split at hb
 ·exact absurd rfl hb
 exact h.rng b hb⟩
end Go.VL
namespace Go.Proofs.YtcfhbfflgnbacaaGreatDoor
def iK(l:List UInt8):List UInt8:=(l.reverse.dropWhile (· == 32)).reverse
def FU(l:List UInt8):List UInt8:=ay (iK l)
def xU(l:List UInt8):iK (l++[32])=iK l:=by simp[iK]
def xV(l:List UInt8)(h:c≠32):iK (l++[c])=l++[c]:=by simp[iK,h]
def oG(l:List UInt8)(w:ka)(hl:l.length<=1000000):N2 M4 194 [.string (bs l),.int .u8 32] w λv w'=>v=.string (bs (ay l))/\w'=w:=by
 apply Ll func194 ntmps194 rfl rfl;refine zh ?_
 apply zlp (λx:List UInt8=>[(0,.string (bs x)),(1,.int .u8 32)]) (λx=>w) (λx=>ay x=ay l/\x.length<=1000000) (λx=>x.length) l ⟨rfl,hl⟩;rintro r ⟨hr,a0⟩;refine zh ?_
 refine zvH (cK ln rfl) ?_
 cases r with
 |nil=>
  apply ax (d:=8) rfl (b':=false) rfl;refine zh ?_
  refine zFH rfl rfl ?_;refine af rfl rfl ⟨by rw[<-hr];rfl,rfl⟩
 |cons b r2=>
  simp only[LU]at a0;apply ax (d:=8) rfl (b':=true) ((decide_eq_true (by simp only[LU];omega)));refine zh ?_;refine zvH (bA (c:=b) ln rfl rfl 0 rfl rfl) ?_;refine zC ?_ ?_
  ·intro hb;replace hb:b=32:=by
    by_cases e:b=32
    ·exact e
    have:=jA b 32 zd e;exact absurd (this.symm.J hb) zd
   subst hb;refine zh ?_;refine zvH (lh ln rfl rfl 1 rfl (by simp)) ?_;refine zx r2 ⟨by rw[<-hr];simp[ay],zo⟩ (by simp)
  intro hb;replace hb:b≠32:=λe=>by subst e;cases hb
  refine zh ?_;refine af rfl rfl ⟨by rw[<-hr];simp[ay,hb],rfl⟩
def mV(l:List UInt8)(w:ka)(hl:l.length<=1000000):N2 M4 195 [.string (bs l),.int .u8 32] w λv w'=>v=.string (bs (iK l))/\w'=w:=by
 apply Ll func195 ntmps195 rfl rfl;refine zh ?_
 apply zlp (λx:List UInt8=>[(0,.string (bs x)),(1,.int .u8 32)]) (λx=>w) (λx=>iK x=iK l/\x.length<=1000000) (λx=>x.length) l ⟨rfl,hl⟩;rintro r ⟨hr,a1⟩;refine zh ?_
 refine zvH (cK ln rfl) ?_
 rcases List.eq_nil_or_concat r with rfl|⟨r2,b,rfl⟩
 ·apply ax (d:=8) rfl (b':=false) rfl;refine zh ?_
  refine zFH rfl rfl ?_;refine af rfl rfl ⟨by rw[<-hr];rfl,rfl⟩
 rw[List.concat_eq_append]at *;have a0:(r2++[b]).length=r2.length+1:=by simp
 rw[a0]at a1;apply ax (d:=8) rfl (b':=true) ((decide_eq_true (by rw[a0];omega)));refine zh ?_;refine zvH (cK ln rfl) ?_;refine zvH (bA (c:=b) ln rfl rfl r2.length (by rw[a0];omega) (by simp)) ?_;refine zC ?_ ?_
 ·intro hb;replace hb:b=32:=by
   by_cases e:b=32
   ·exact e
   have:=jA b 32 zd e;exact absurd (this.symm.J hb) zd
  subst hb;refine zh ?_;apply zv (cK ln rfl);apply zv (RV.sub rfl rfl (MJ (by rw[a0];omega)));refine zvH (zE ln rfl rfl r2.length (by rw[a0];omega) (by simp)) ?_;rw[List.take_left];refine zx r2 ⟨by rw[<-hr,xU],zo⟩ (by simp)
 intro hb;replace hb:b≠32:=λe=>by subst e;cases hb
 refine zh ?_;refine af rfl rfl ⟨by rw[<-hr,xV _ hb],rfl⟩
def Cj(l:List UInt8):(iK l).length<=l.length:=by
 have:=(NW (l:=l.reverse) (· == (32:UInt8))).length_le;simpa[iK]using this
def FT(l:List UInt8)(w:ka)(hl:l.length<=1000000):N2 M4 173 [.string (bs l),.string (bs [32])] w λv w'=>v=.string (bs (FU l))/\MS w w':=by
 have a0:=Cj l;apply Ll func173 ntmps173 rfl rfl;refine zh ?_;refine zvH (dC rfl rfl) ?_
 by_cases h0:l=[]
 ·subst h0;apply ax (d:=9) rfl (b':=true) rfl;refine zh ?_;refine zTH rfl rfl ?_;refine af rfl rfl ⟨rfl,Mp _⟩
 apply ax (d:=9) rfl (b':=false) ((by simpa using h0));refine zh ?_
 refine zvH (dC rfl rfl) ?_;refine zFH rfl rfl ?_
 refine zvH (cK ln rfl) ?_;apply ax (d:=17) rfl (b':=true) rfl
 refine zh ?_;refine zvH (bA (c:=32) ln rfl rfl 0 rfl rfl) ?_
 refine zTH rfl rfl ?_;apply MK zk zk
 refine zh ?_;apply zw (bA (c:=32) ln rfl rfl 0 rfl rfl)
 apply Qg call195 rfl (mV l w.drew hl) rfl;refine zh ?_
 apply zw (bA (c:=32) ln rfl rfl 0 rfl rfl);apply Qg call194 rfl (oG (iK l) w.drew zo) rfl
 refine zh ?_;apply MF
 refine zh ?_;refine af rfl rfl ⟨rfl,(Mp w).drew⟩
def Ba(c:UInt8):Bool:=decide (c=33)||decide (c=47)
def Js(c:UInt8):decide (0<=uw [33,47] c)=Ba c:=by
 unfold uw Ba
 by_cases h1:c=33
 ·subst h1;rfl
 by_cases h2:c=47
 ·subst h2;rfl
 have:[(33:UInt8),47].findIdx? (· == c)=none:=by
  rw[Mt];intro x hx;simp at hx
  rcases hx with rfl|rfl<;>simp<;>intro e<;>first|exact h1 e.symm|exact h2 e.symm
 rw[this];simp[h1,h2]
def tM(c:UInt8)(w:ka)(hc:c.toNat<128):N2 M4 172 [.string (bs [33,47]),.int .i32 (c.toNat:Int)] w λv w'=>v=nI (uw [33,47] c)/\w'=w:=by
 apply Ll func172 ntmps172 rfl rfl;refine zh ?_
 apply ax (d:=163) rfl (b':=true) ((decide_eq_true zo));refine zh ?_
 refine zTH rfl ((decide_eq_true zo)) ?_;apply zv (FD Q5 underlying5 rfl (Fit.u8 zo))
 apply zc PE (ej [33,47] c w);rintro v w9 ⟨rfl,a0⟩;rw[a0];clear a0 w9;refine zh ?_
 refine af rfl rfl ⟨rfl,rfl⟩
def oJ(c:UInt8)(w:ka)(hc:c.toNat<128):N2 M4 149 [.string (bs [33,47]),.int .i32 (c.toNat:Int)] w λv w'=>v=.bool (Ba c)/\w'=w:=by
 apply Ll func149 ntmps149 rfl rfl;refine zh ?_
 apply zc call172 (tM c w hc);rintro v w9 ⟨rfl,a0⟩;rw[a0];clear a0 w9;refine zh ?_
 refine af rfl rfl ⟨congrArg P7 (Js c),rfl⟩
def CL(c:UInt8)(w:ka)(hc:c.toNat<128):N2 M4 148 [.int .i32 (c.toNat:Int)] w λv w'=>v=.bool (Ba c)/\w'=w:=by
 apply Ll func148 ntmps148 rfl rfl;refine zh ?_
 apply zc call149 (oJ c w hc);rintro v w9 ⟨rfl,a0⟩;rw[a0];clear a0 w9;refine zh ?_
 refine af rfl rfl ⟨rfl,rfl⟩
def nX(l:List UInt8):Int:=match l.findIdx? Ba with|some i=>(i:Nat)|none=>-1
def oR(l:List UInt8):Prop:=∀c∈l,c.toNat<128
def tN(l:List UInt8)(w:ka):N2 M4 171 [.string (bs l),.func (.func 148) #[] #[],.bool true] w fun v w'=>v=nI (nX l)/\MS w w':=by
 have b2:Ly (fun k=>k=1) (fun _=>0) w (og (fun _=>0) w.heap.size 1) (w.iter (bs l) 0):=NP zd (aw w) _ 1;have hO:og (fun _=>0) w.heap.size 1 w.heap.size=1:=fJ _ _ _;refine Ll func171 ntmps171 rfl rfl ?_;refine zh ?_;refine xE ln rfl rfl ?_;refine zh ?_;refine zlp (fun x:Nat×ka=>[(1,.func (.func 148) #[] #[]),(2,.bool true),(10,.pointer (some ⟨w.heap.size,0,none⟩))]) (fun x=>x.2) (fun x=>(∀i,i<x.1->i<l.length->Ba (nth l i)=false)/\x.2.heap[w.heap.size]? = some (.stringIter (bs l) x.1)/\Ly (fun k=>k=1) (fun _=>0) w (og (fun _=>0) w.heap.size 1) x.2) (fun x=>l.length-x.1) (0,w.iter (bs l) 0) (⟨fun i hi=>absurd hi (MQ i),World.iter_heap w (bs l) 0,b2⟩) ?_;rintro⟨k,w1⟩ ⟨a3,a2,a5⟩;dsimp only at a3 a2 a5 ⊢;refine zh ?_
 by_cases a1:k<l.length
 ·by_cases a7:(nth l k).toNat<128
  ·refine xF rfl a2 a1 (D5 a1 a7) rfl ?_;have a4:=a5.J (MO zd hO (w:=w1) (.stringIter (bs l) (k+1)));have a0:(w1.putObj w.heap.size (.stringIter (bs l) (k+1))).heap[w.heap.size]? = some (.stringIter (bs l) (k+1)):=MI (bH a2);generalize w1.putObj w.heap.size (.stringIter (bs l) (k+1))=w2 at *;refine zh ?_
   refine zTH rfl rfl ?_;refine eo rfl call148 rfl (CL (nth l k) w2 a7) rfl ?_
   rintro v w9 ⟨rfl,a6⟩;rw[a6];clear a6 w9;refine zh ?_;refine zvH (FC Px rfl rfl) ?_
   cases hs:Ba (nth l k)with
   |true=>
    refine zTH rfl rfl ?_;have hf:l.findIdx? Ba=some k:=Ms.2 ⟨a1,by rw[<-aB a1,hs],fun j hj=>by rw[<-aB zo,a3 j hj zo];decide⟩
    refine af rfl rfl (⟨by unfold nX;rw[hf];rfl,a4.ext⟩)
   |false=>
    refine zFH rfl rfl ?_;refine zxd (k+1,w2) (⟨fun i hi hl=>(Mz.1 hi).elim (fun h=>a3 i h hl) (fun e=>by rw[e];exact hs),a0,a4⟩)
  obtain⟨c,n,a',b1,b0,b4,b3,a9⟩:=D6 a1 zo;refine xF rfl a2 a1 a' rfl ?_;have a4:=a5.J (MO zd hO (w:=w1) (.stringIter (bs l) (k+n)));have a0:(w1.putObj w.heap.size (.stringIter (bs l) (k+n))).heap[w.heap.size]? = some (.stringIter (bs l) (k+n)):=MI (bH a2);generalize w1.putObj w.heap.size (.stringIter (bs l) (k+n))=w2 at *;refine zh ?_;refine zTH rfl rfl ?_;refine eo rfl call148 rfl (yh c w2 b1 b0) rfl ?_;rintro v w3 ⟨rfl,a8⟩;refine zh ?_;refine zvH (FC Px rfl rfl) ?_;refine zFH rfl rfl ?_;refine zxd (k+n,w3) (⟨fun i hi hl=>?_,(a8.block _ (bH a0)).J a0,a4.J (aa zd _ a8)⟩)
  by_cases e:i<k
  ·exact a3 i e hl
  have:=a9 i zo hi;unfold Ba;rw[decide_eq_false (fun e=>by rw[e]at this;exact absurd this zd),decide_eq_false (fun e=>by rw[e]at this;exact absurd this zd)];rfl
 refine zy rfl a2 zo rfl ?_;refine zh ?_
 refine zFH rfl rfl ?_;have hf:l.findIdx? Ba=none:=Mt.2 fun x hx=>by
  obtain⟨j,hj,rfl⟩:=cd hx;exact a3 j zo hj
 refine af rfl rfl (⟨by unfold nX;rw[hf],a5.ext⟩)
def oI(l:List UInt8)(w:ka):N2 M4 147 [.string (bs l),.func (.func 148) #[] #[]] w fun v w'=>v=nI (nX l)/\MS w w':=by
 refine Ll func147 ntmps147 rfl rfl ?_;refine zh ?_
 refine zc call171 (tN l w) ?_;rintro v w1 ⟨rfl,hE⟩;refine zh ?_
 refine af rfl rfl (⟨rfl,hE⟩)
def Kj(seg:List UInt8):XR:=if FU seg=[]then .ok (.mk 9 0 [])else LC seg
def qI(kn:Kn)(seg:List UInt8):XR:=if FU seg=[]then .ok (.mk 9 0 [])else gC kn seg
def mD(seg:List UInt8):qI [] seg=Kj seg:=by unfold qI Kj;rw[uD]
variable{kn:Kn}
def PostS(O:Nat->Nat)(w:ka)(j rb:Nat)(s:LS)(fr:Nat)(x:N3):XR->Prop
 |.ok t=>Nt O w t x/\Rd6 O w j rb s
 |.bad p e=>x=(0,0,nS)/\e≠0/\Rd6 O w j rb {s with bad:=(fr:Int)+(p:Int),e:=e}
def AH(l:List UInt8)(p:Nat)(e:Int)(h:gC kn l=.bad p e):e≠0/\p<=l.length:=by
 have hg:=kd (kn:=kn) 20 l;unfold gC at h
 split at h
 ·cases h;exact⟨zd,M9 _⟩
 cases hf:zm kn 20 l with
 |bad q f=>
  rw[hf]at h hg
  cases h
  exact⟨hg.2,zo⟩
 |ok t r=>
  rw[hf]at h;dsimp only at h
  split at h
  ·cases h;exact⟨zd,zo⟩
  split at h
  ·cases h;exact⟨zd,M9 _⟩
  cases h
def zD{l:List α}(h:Nu enc E sz O w i v l)(hi:i≠0)(r:No B O w):Free (forget i O) w v:=λa n c e _=>by
 have h1:=h.1.tag a.block (by subst e;rfl);have h2:=r.rng a.block (by rw[h1];exact hi);exact⟨by unfold forget;rw[ap h1],h2.2⟩
def Mac(O:Nat->Nat)(w:ka)(i:Nat)(v:Lj)(kn:Kn):Prop:=
 ∃ms:List M3,Nu mT 232 4 O w i v ms/\kn.length=ms.length/\∀q,q<ms.length->(nth kn q).1=(nth ms q).1/\Nt O w (nth kn q).2 (nth ms q).2
def Mac.U{S:Nat->Prop}{O O':Nat->Nat}{w w':ka}{i:Nat}{v:Lj}(h:Mac O w i v kn)(u:Ly S O w O' w')(hi:i≠0)(hS:¬S i):Mac O' w' i v kn:=by
 obtain⟨ms,h1,h2,h3⟩:=h;exact⟨ms,h1.U u hi hS,h2,λq hq=>⟨(h3 q hq).1,(h3 q hq).2.U u⟩⟩
def Mac.known(h:Mac O w i v kn)(hi:i≠0)(r:No B O w):Qc (forget i O) w v kn:=by
 obtain⟨ms,h1,h2,h3⟩:=h;exact⟨ms,h1.sl,zD h1 hi r,h2,λq hq=>⟨(h3 q hq).1,(h3 q hq).2.weak λb hb=>by unfold forget;rw[hb];split<;>rfl⟩⟩
def Mac.nil(O:Nat->Nat)(w:ka)(i:Nat):Mac O w i nS []:=⟨[],PY _ _ _ _ _ _,rfl,λq hq=>absurd hq (by simp)⟩
def sY(B:Nat)(O:Nat->Nat)(w:ka)(j rb:Nat)(s:LS)(fr to:Nat)(hR:No B O w)(hj:j≠0)(he:s.e=0)(d6:jm≠0)(e7:j≠jm)(e5:Mac O w jm s.mc kn)(e8:fr<=to)(e3:to<=s.l.length)(hl:s.l.length<=100000)(h:Rd6 O w j rb s):
  N2 M4 150 [nP rb,nI fr,nI to] w λv w'=>∃x,v=nv x/\Ly (λk=>k=j) O w O w'/\PostS O w' j rb s fr x (qI kn ((s.l.take to).drop fr)):=by
 obtain⟨T0,d2,b1⟩:=hR.bound;obtain⟨T,a2,e6,hT⟩:∃T,0<T/\jm<T/\∀b,O b<T:=⟨T0+jm+1,zo,zo,λb=>by have:=b1 b;omega⟩
 clear d2 b1 T0;have f7:j<T:=by rw[<-h.tag];exact hT rb
 have f5:((s.l.take to).drop fr).length=to-fr:=by simp;omega
 apply Ll func150 ntmps150 rfl rfl;refine zh ?_
 apply au hR T zo (Lm _) rfl;intro xb w1 O1 e2 d9 f3 f8;have d8:=h.U d9 hj zo;have c9:=d9.pT hj a2 (L3 _);refine zh ?_
 refine zvH (RV.ld d8.q0 rfl) ?_;refine zvH (dH ln rfl rfl rfl fr to rfl rfl e8 e3) ?_
 apply zc call173 (FT ((s.l.take to).drop fr) w1 zo);rintro v w2 ⟨rfl,e1⟩;have c7:Ly (λ_=>False) O1 w1 O1 w2:=aa (λh=>h) O1 e1;have b2:=e2.U c7 zo (λh=>h);have c5:=d8.U c7 hj (λh=>h);have b4:=f3.U c7;have a5:=c9.J (kI O1 e1 hj a2);refine zvH (dC rfl rfl) ?_
 by_cases b3:FU ((s.l.take to).drop fr)=[]
 ·have hM:qI kn ((s.l.take to).drop fr)=.ok (.mk 9 0 []):=by unfold qI;rw[ap b3]
  rw[hM];apply bp rfl ((by rw[b3];rfl));have a6:((9,0,nS):N3).2.2.oneCell'=true:=rfl;refine zh ?_;apply zv (aH Ab (Lm _) rfl (by first|rfl|(simp only[Lq,M5];rfl)) rfl rfl);apply zsb (us:=#[nI ((9,0,nS):N3).1,nI ((9,0,nS):N3).2.1,((9,0,nS):N3).2.2]) b2 (ix _) (cH a6);have a8:=Lp (us:=#[nI ((9,0,nS):N3).1,nI ((9,0,nS):N3).2.1,((9,0,nS):N3).2.2]) b2;have a1:Ly (λk=>k=T) O1 w2 O1 (Lo w2 xb #[nI ((9,0,nS):N3).1,nI ((9,0,nS):N3).2.1,((9,0,nS):N3).2.2]):=Li zo (Lr b2) rfl;have a':=c5.U a1 hj zo;have a7:=a5.J (a1.pT hj a2 (L3 _));refine zh ?_;refine aO rfl rfl a8.V (Lk _) (ix _) ⟨(9,0,nS),rfl,a7.priv hT hj,P2 _ _ _ _,a'.fgt h.tag⟩
 have hM:qI kn ((s.l.take to).drop fr)=gC kn ((s.l.take to).drop fr):=by unfold qI;rw[am b3]
 rw[hM];refine zFH rfl ((by simpa using b3)) ?_;apply zv (RV.ld c5.q9 rfl);have b9:=e5.U a5 d6 zo;apply zc call143 (ng s.mc ((s.l.take to).drop fr) B O1 (forget jm O1) w2 b4 b4.forget (b9.known d6 b4));rintro v w3 ⟨e0,b5⟩;have c6:Ly (λ_=>False) O1 w2 O1 w3:=aa (λh=>h) O1 e0;have d3:=b2.U c6 zo (λh=>h);have d7:=c5.U c6 hj (λh=>h);have d':=b4.U c6;have b0:=a5.J (kI O1 e0 hj a2)
 cases hf:gC kn ((s.l.take to).drop fr)with
 |ok t=>
  rw[hf]at b5;obtain⟨x,rfl,d4⟩:=b5;have a6:=d4.one;refine zh ?_;apply au d' (T+1) zo (Lm _) rfl;intro nb w4 O4 a3 d1 e' f4;apply zsb (us:=#[nI x.1,nI x.2.1,x.2.2]) a3 (ix _) (cH a6);have b8:=a3.setRow (us:=#[nI x.1,nI x.2.1,x.2.2]);have d0:Ly (λk=>k=T+1) O4 w4 O4 (w4.setRow nb #[nI x.1,nI x.2.1,x.2.2]):=Li zo a3.tag rfl;have a0:=d1.J d0;have a9:=d3.U a0 zo zo;have b':=d7.U a0 hj zo;have a4:=b0.J (a0.pT hj a2 (My _));have b7:=d4.U a0;generalize w4.setRow nb #[nI x.1,nI x.2.1,x.2.2]=w5 at *;refine zh ?_;refine zFH rfl rfl ?_;apply zv (ah (us:=aY x) b8.V (Lk _) (ix _) rfl);apply zsb (us:=#[nI x.1,nI x.2.1,x.2.2]) a9 (ix _) (cH a6);have a8:=Lp (us:=#[nI x.1,nI x.2.1,x.2.2]) a9;have a1:Ly (λk=>k=T) O4 w5 O4 (Lo w5 xb #[nI x.1,nI x.2.1,x.2.2]):=Li zo (Lr a9) rfl;have a':=b'.U a1 hj zo;have a7:=a4.J (a1.pT hj a2 (L3 _));refine zh ?_;refine aO rfl rfl a8.V (Lk _) (ix _) ⟨x,rfl,a7.priv hT hj,(b7.U a1).low a7,a'.fgt h.tag⟩
 |bad p e=>
  rw[hf]at b5;obtain⟨rfl,d5⟩:=b5;obtain⟨_,f6⟩:=AH _ _ _ hf;refine zh ?_;apply au d' (T+1) zo (Lm _) rfl;intro nb w4 O4 a3 d1 e' f4;apply zsa (us:=#[nI 0,nI 0,nS]) a3 (ix _);have b8:=a3.setRow (us:=#[nI 0,nI 0,nS]);have d0:Ly (λk=>k=T+1) O4 w4 O4 (w4.setRow nb #[nI 0,nI 0,nS]):=Li zo a3.tag rfl;have a0:=d1.J d0;have a9:=d3.U a0 zo zo;have b':=d7.U a0 hj zo;have a4:=b0.J (a0.pT hj a2 (My _));generalize w4.setRow nb #[nI 0,nI 0,nS]=w5 at *;refine zh ?_;refine zTH rfl ((by simpa using d5)) ?_;apply zc PJ (bT O4 w5 j rb s ((fr:Int)+(p:Int)) e hj he b');rintro v w6 ⟨e9,c'⟩;have b6:=a9.U c' zo zo;have e4:=b8.U c' zo zo;have c8:=a4.J (c'.pj a2);refine zh ?_;apply zv (ah (us:=aY ((0,0,nS):N3)) e4.V (Lk _) (ix _) rfl);have a6:((0,0,nS):N3).2.2.oneCell'=true:=rfl;apply zsb (us:=#[nI ((0,0,nS):N3).1,nI ((0,0,nS):N3).2.1,((0,0,nS):N3).2.2]) b6 (ix _) (cH a6);have a8:=Lp (us:=#[nI ((0,0,nS):N3).1,nI ((0,0,nS):N3).2.1,((0,0,nS):N3).2.2]) b6;have a1:Ly (λk=>k=T) O4 w6 O4 (Lo w6 xb #[nI ((0,0,nS):N3).1,nI ((0,0,nS):N3).2.1,((0,0,nS):N3).2.2]):=Li zo (Lr b6) rfl;have a':=e9.U a1 hj zo;have a7:=c8.J (a1.pT hj a2 (L3 _));refine zh ?_;refine aO rfl rfl a8.V (Lk _) (ix _) ⟨(0,0,nS),rfl,a7.priv hT hj,rfl,d5,a'.fgt h.tag⟩
end Go.Proofs.YtcfhbfflgnbacaaGreatDoor
namespace Go.Proofs.YtcfhbfflgnbacaaGreatDoor
section
def dG(t:Nd):Int:=if(aZ t&&Cb 3 t)=true then 4 else if(!(vB t)||decide (4<vA t))=true then 8 else 0
def ma(t:Nd)(x:N3)(w:ka)(h:Nt (λ_=>0) w t x):N2 M4 85 [nv x] w λv w'=>v=nI (dG t)/\MS w w':=by
 apply Ll func85 ntmps85 rfl rfl;refine zh ?_
 apply aI (aw w) 1 zo rfl rfl;intro xb w1 O1 a5 a7 a8 a3;have a4:∀W,MS w1 W->∀(j:Nat) (u:Lj),(aY x)[j]? = some u->W.cell? (nA xb j)=some u:=λW hE j u hu=>hE.cell (a5.V j u hu)
 refine zh ?_;apply zv (ah (us:=aY x) (a4 w1 (Mp _)) (Lk _) (ix _) rfl)
 apply zc call123 (qN t x w1 (h.ext a3));rintro v w2 ⟨rfl,a2⟩;refine zh ?_
 apply zv (ah (us:=aY x) (a4 w2 a2) (Lk _) (ix _) rfl);apply zc call124 (BE t 3 x w2 (h.ext (a3.J a2)))
 rintro v w3 ⟨rfl,a6⟩;have a0:=(a3.J a2).J a6;refine zh ?_
 cases h1:(aZ t&&Cb 3 t)with
 |true=>
  refine zTH rfl rfl ?_;refine af rfl rfl ⟨by unfold dG;rw[ap h1],a0⟩
 |false=>
  refine zFH rfl rfl ?_;refine bR (λw1=>_=w1) (decide (4<vA t)) 2 rfl rfl rfl rfl rfl rfl ?_ ?_
  ·intro a1;refine zh ?_;refine nE 16 3 rfl a1
  rintro _ rfl;refine zh ?_
  cases h2:(!(vB t)||decide (4<vA t))with
  |true=>
   refine zTH rfl rfl ?_;refine af rfl rfl ⟨by unfold dG;rw[am (by rw[h1];decide),ap h2],a0⟩
  |false=>
   refine zFH rfl rfl ?_;refine af rfl rfl ⟨by unfold dG;rw[am (by rw[h1];decide),am (by rw[h2];decide)],a0⟩
abbrev R3:=Nd×Nd×Bool
abbrev X3:=N3×N3×Bool
def cB(x:X3):List Lj:=[nI x.1.1,nI x.1.2.1,x.1.2.2,nI x.2.1.1,nI x.2.1.2.1,x.2.1.2.2,.bool x.2.2]
def Rt(O:Nat->Nat)(w:ka)(t:R3)(x:X3):Prop:=Nt O w t.1 x.1/\Nt O w t.2.1 x.2.1/\x.2.2=t.2.2
def Rt.U{S:Nat->Prop}{O O':Nat->Nat}{w w':ka}{t:R3}{x:X3}(h:Rt O w t x)(u:Ly S O w O' w'):Rt O' w' t x:=⟨h.1.U u,h.2.1.U u,h.2.2⟩
def Rt.weak{O O':Nat->Nat}{w:ka}{t:R3}{x:X3}(h:Rt O' w t x)(k:∀b,O' b=0->O b=0):Rt O w t x:=⟨h.1.weak k,h.2.1.weak k,h.2.2⟩
def elR:Elem M4 39 77 7 88:=⟨Q2,by kernel_rfl,zd⟩
def Cq:cC M4 77 #[(0,3),(3,3),(6,1)]:=⟨_,underlying77,λw=>by kernel_rfl⟩
inductive LR where
 |ok (x:R3)
 |bad (p:Nat) (e:Int)
def Mg(r:List UInt8):LR:=
 match r.findIdx? Ba with
 |none=>.bad r.length 4
 |some k=>
  match Kj (r.take k)with
  |.bad p e=>.bad p e
  |.ok a=>
   match Kj (r.drop (k+1))with
   |.bad p e=>.bad (k+1+p) e
   |.ok b=>if dG b≠0 then .bad (k+1) (dG b)else .ok (a,b,(((nth r k).toNat:Int)==47))
def kq(kn:Kn)(r:List UInt8):LR:=
 match r.findIdx? Ba with
 |none=>.bad r.length 4
 |some k=>
  match qI kn (r.take k)with
  |.bad p e=>.bad p e
  |.ok a=>
   match qI kn (r.drop (k+1))with
   |.bad p e=>.bad (k+1+p) e
   |.ok b=>if dG b≠0 then .bad (k+1) (dG b)else .ok (a,b,(((nth r k).toNat:Int)==47))
def rP(r:List UInt8):kq [] r=Mg r:=by
 unfold kq Mg
 cases r.findIdx? Ba with
 |none=>rfl
 |some k=>
  dsimp only;rw[mD,mD]
variable{kn:Kn}
def CI(s:LS)(fr:Nat):XR->LS
 |.ok _=>s
 |.bad p e=>{s with bad:=(fr:Int)+(p:Int),e:=e}
def PostS.rd{s:LS}{x:N3}{M:XR}(h:PostS O w j rb s fr x M):Rd6 O w j rb (CI s fr M):=by
 cases M with
 |ok t=>exact h.2
 |bad p e=>exact h.2.2
def PostS.one{O:Nat->Nat}{w:ka}{j rb:Nat}{s:LS}{fr:Nat}{x:N3}{M:XR}(h:PostS O w j rb s fr x M):x.2.2.oneCell'=true:=by
 cases M with
 |ok t=>exact h.1.one
 |bad p e=>rw[h.1];rfl
def PostS.U{S:Nat->Prop}{O O':Nat->Nat}{w w':ka}{j rb:Nat}{s:LS}{fr:Nat}{x:N3}{M:XR}(h:PostS O w j rb s fr x M)(u:Ly S O w O' w')(hj:j≠0)(hS:¬S j):PostS O' w' j rb s fr x M:=by
 cases M with
 |ok t=>exact⟨h.1.U u,Ln h.2 u hj hS⟩
 |bad p e=>exact⟨h.1,h.2.1,Ln h.2.2 u hj hS⟩
def F8(s:LS)(fr:Nat)(M:XR):(CI s fr M).l=s.l:=by cases M<;>rfl
def CH(s:LS)(fr:Nat)(M:XR):(CI s fr M).bg=s.bg:=by cases M<;>rfl
def LQ(B:Nat)(O:Nat->Nat)(w w':ka)(j jr rb:Nat)(s:LS)(xs:List X3)(M:LR):Prop:=
 ∃O' rv,Ly (λk=>k=j\/k=jr) O w O' w'/\No B O' w'/\
  match M with
  |.ok t=>∃x,Nu cB 77 7 O' w' jr rv (xs++[x])/\Rt O' w' t x/\Rd6 O' w' j rb {s with ru:=rv}
  |.bad p e=>e≠0/\Rd6 O' w' j rb {s with ru:=rv,bad:=s.bg+(p:Int),e:=e}
def lO{x y:N3}{b:Bool}(h1:x.2.2.oneCell'=true)(h2:y.2.2.oneCell'=true):(cB (x,y,b)).toArray.toList.all Ns=true:=by
 simp only[cB,Lq,h1,h2];rfl
def cm{x y:N3}{b:Bool}(h1:x.2.2.oneCell'=true)(h2:y.2.2.oneCell'=true):∀c∈cB (x,y,b),c.oneCell'=true:=by
 have:=lO (b:=b) h1 h2;exact Pw.1 this
def Ia{L:List UInt8}(h:r <:+ L):L.drop (L.length-r.length)=r:=(List.suffix_iff_eq_drop.1 h).symm
def kO{x1 x2:N3}{brk:Bool}(h:Mr O w i b (cB (x1,x2,brk)).toArray E):∀(q:Nat) (u:Lj),(aY x2)[q]? = some u->w.cell? ((nA b 3).add q)=some u:=λq u hu=>by
 have e:((nA b 3).add q)=⟨b,3+q,none⟩:=by
  simp only[N0];(repeat' split)<;>simp_all
 rw[e];apply h.cell (3+q);simp only[aY]at hu
 match q,hu with
 |0,hu=>exact hu
 |1,hu=>exact hu
 |2,hu=>exact hu
def yc{m:Nat}{s:LS}{x:N3}{M:XR}{hbg:s.bg=((m-n:Nat):Int)}(h:PostS O w j rb s fr x M):w.cell? ⟨rb,0,none⟩=some (.string (bs s.l))/\w.cell? ⟨rb,3,none⟩=some (nI ((m-n:Nat):Int)):=by
 have h0:=h.rd.q0;have h3:=h.rd.q3;rw[F8]at h0;rw[CH,hbg]at h3;exact⟨h0,h3⟩
def uW(B:Nat)(O:Nat->Nat)(w:ka)(j jr rb:Nat)(s:LS)(m:Nat)(r:List UInt8)(xs:List X3)(hR:No B O w)(hj:j≠0)(b0:jr≠0)(e7:j≠jr)(hm:m<=s.l.length)(hl:s.l.length<=100000)(i7:s.to=(m:Int))(hbg:s.bg=((m-r.length:Nat):Int))(he:s.e=0)(h2:jm≠0)(g0:j≠jm)(l':jr≠jm)(j3:Mac O w jm s.mc kn)
  (hr:r <:+ s.l.take m) (f':Nu cB 77 7 O w jr s.ru xs) (l9:xs.length<=40) (h:Rd6 O w j rb s) :
  N2 M4 118 [nP rb] w λ_ w'=>LQ B O w w' j jr rb s xs (if xs.length=40 then .bad 0 3 else kq kn r):=by
 obtain⟨T0,j6,i4⟩:=hR.bound;obtain⟨T,g7,h',l3,hT⟩:∃T,0<T/\jr<T/\jm<T/\∀b,O b<T:=⟨T0+jr+jm+1,by omega,by omega,by omega,λb=>by have:=i4 b;omega⟩
 clear j6 i4 T0;have f7:j<T:=by rw[<-h.tag];exact hT rb
 have b2:¬(λq:Nat=>q=j\/q=jr\/T<=q) 0:=λe=>by rcases e with e|e|e;exact hj e.symm;exact b0 e.symm;omega
 have j1:¬(λq:Nat=>q=j\/q=jr) 0:=λe=>by rcases e with e|e;exact hj e.symm;exact b0 e.symm
 have k5:(s.l.take m).length=m:=by simp;omega
 have k':=hr.length_le;rw[k5]at k';have c8:=Ia hr;rw[k5]at c8;have q0:=h.q0;have q2:=h.q2;rw[i7]at q2;have q3:=h.q3;rw[hbg]at q3;have q8:=h.q8;have k9:=f'.sl;apply Ll func118 ntmps118 rfl rfl;refine zg ?_;apply zv (RV.ld q8 rfl);refine zvG (RV.len (by first|exact k9) Q2 rfl) ?_
 by_cases j8:xs.length=40
 ·rw[ap j8];apply bp rfl ((by rw[j8];rfl));have k7:w.drew.cell? ⟨rb,3,none⟩=some (nI ((m-r.length:Nat):Int)):=q3;refine zg ?_;apply Py 8 rfl rfl zk zk;refine zg ?_;apply zw (RV.ld k7 rfl);apply dX;apply zc PJ (bT O w.drew j rb s ((m-r.length:Nat):Int) 3 hj he h.drew);rintro v w1 ⟨f8,k3⟩;refine zg ?_;refine cP rfl ⟨O,s.ru,(Pk k3).mono (λ_ h=>.inl h) j1,hR.drew.U k3,by decide,?_⟩;rw[show s.bg+((0:Nat):Int)=((m-r.length:Nat):Int)from by rw[hbg];simp];exact f8
 rw[am j8];apply bh rfl ((beq_eq_false_iff_ne.2 zo));have hd:=h.drew;have d0:=hd.q0;have d2:=hd.q2;rw[i7]at d2;have d3:=hd.q3;rw[hbg]at d3;refine zg ?_;apply Py 16 rfl rfl zk zk;refine zg ?_;apply zwG (RV.ld d0 rfl);apply zwG (RV.ld d3 rfl);apply zw (RV.ld d2 rfl);apply zw (dH ln rfl rfl rfl (m-r.length) m rfl rfl zo hm);apply dX;rw[c8];apply zc call147 (oI r w.drew);rintro v w1 ⟨rfl,l7⟩;have i8:Ly (λ_=>False) O w.drew O w1:=aa (λh=>h) O l7;have f8:=hd.U i8 hj (λh=>h);have j9:=f'.drew.U i8 b0 (λh=>h);have j0:=hR.drew.U i8;have e8:Ly (λq=>q=j\/T<=q) O w O w1:=Pk (i8.mono (λ_ h=>h.elim) (λe=>by rcases e with e|e;exact hj e.symm;omega));have e2:=f8.q2;rw[i7]at e2;have e3:=f8.q3;rw[hbg]at e3
 cases hf:r.findIdx? Ba with
 |none=>
  have hi:nX r = -1:=by unfold nX;rw[hf]
  have hM:kq kn r=.bad r.length 4:=by unfold kq;rw[hf]
  rw[hi,hM];refine zg ?_;apply bp rfl rfl;have l8:w1.drew.cell? ⟨rb,2,none⟩=some (nI (m:Int)):=e2;refine zg ?_;apply Py 8 rfl rfl zk zk;refine zg ?_;apply zw (RV.ld l8 rfl);apply dX;apply zc PJ (bT O w1.drew j rb s (m:Int) 4 hj he f8.drew);rintro v w2 ⟨l5,k2⟩;refine zg ?_;refine cP rfl ⟨O,s.ru,(e8.fgt (S':=λk=>k=j\/k=jr) (λb hb=>.inl (hb.resolve_right (by have:=hT b;omega))) j1).J ((Pk k2).mono (λ_ h=>.inl h) j1),j0.drew.U k2,by decide,?_⟩;rw[show s.bg+(r.length:Int)=(m:Int)from by rw[hbg];omega];exact l5
 |some k=>
  obtain⟨hk,m1,m0⟩:=Ms.1 hf;have hi:nX r=(k:Nat):=by unfold nX;rw[hf]
  rw[hi];have j4:s.l[k+(m-r.length)]? = some (nth r k):=by
   have h1:(s.l.take m)[m-r.length+k]? = r[k]?:=by rw[<-c8,List.getElem?_drop,c8]
   rw[aB hk];exact oN (m:=m) (by rw[NU,h1];exact LK hk)
  have f4:(s.l.take (k+(m-r.length))).drop (m-r.length)=r.take k:=by
   rw[<-c8,Ny,Nx,Nv zo,c8,NU]
  have h5:(s.l.take m).drop (k+(m-r.length)+1)=r.drop (k+1):=by
   rw[<-c8,NA,c8];congr 1;omega
  generalize i0:(((nth r k).toNat:Int)==47)=brk;refine zg ?_;apply zFG rfl ((decide_eq_false zo));apply zv (RV.ld e3 rfl);refine zvG (MZ rfl rfl (MJ zo)) ?_;rw[show(k:Int)+((m-r.length:Nat):Int)=((k+(m-r.length):Nat):Int)from by omega];refine eI (λz:(Nat->Nat)×World×Nat×N3=>[(0,nP rb),(2,nI ((k+(m-r.length):Nat):Int)),(3,.pointer (some ⟨z.2.2.1,0,none⟩))]) (λz:(Nat->Nat)×World×Nat×N3=>z.2.1) (λz:(Nat->Nat)×World×Nat×N3=>Mr z.1 z.2.1 T z.2.2.1 (cB (z.2.2.2,(0,0,nS),brk)).toArray 77/\Ly (λq=>q=j\/T<=q) O w z.1 z.2.1/\No B z.1 z.2.1/\PostS z.1 z.2.1 j rb s (m-r.length) z.2.2.2 (qI kn (r.take k))) ?_ ?_
  ·intro Qm hN;apply aN (λV=>V.cell? ⟨rb,0,none⟩=some (.string (bs s.l))/\V.cell? ⟨rb,3,none⟩=some (nI ((m-r.length:Nat):Int))) 19 rfl zk;refine zin ⟨f8.drew.q0,e3⟩ λzS=>?_
   apply zrm 0 rfl zS rfl;apply zrm 1 rfl zS rfl
   apply zr 2 rfl zS (λ_=>ak rfl);apply zrf 3 rfl zS rfl
   apply zrf 4 rfl zS rfl;apply zt 5 rfl zS (λw1 e5=>RV.ld e5.2 rfl)
   apply zrm 6 rfl zS rfl;apply zrm 8 rfl zS rfl
   apply zr 9 rfl zS (λ_=>ak rfl);apply zrf 10 rfl zS rfl
   apply zrf 11 rfl zS rfl;apply zt 12 rfl zS (λw1 e5=>RV.ld e5.1 rfl)
   apply zrm 13 rfl zS rfl;apply zr 14 rfl zS (λ_=>bA (c:=nth r k) ln rfl rfl (k+(m-r.length)) rfl j4)
   apply zr 15 rfl zS (λ_=>RV.eql rfl rfl);rw[i0];refine Pr 7 17 zk rfl rfl ?_ ?_
   ·apply zc Q7 (sY B O w1.drew j rb s (m-r.length) (k+(m-r.length)) j0.drew hj he h2 g0 (j3.U (P8 e8) h2 zo) zo zo hl f8.drew);rintro v w3 ⟨x1,rfl,h4,e4⟩;rw[f4]at e4;refine zg ?_
    apply ae (yc (hbg:=hbg) e4);apply zr 16 rfl (yc (hbg:=hbg) e4) (λ_=>Pd (cells:=(cB (x1,(0,0,nS),brk)).toArray) Cq (NG _) rfl rfl)
    apply LN 17 zk rfl;apply au (j0.drew.U h4) T zo (NG _) rfl
    intro xb w4 O4 d8 e0 i5 k6;have e1:=e4.U e0 hj zo;refine zg ?_;apply ae (yc (hbg:=hbg) e1);apply LN 18 zk rfl;apply zsb (us:=(cB (x1,(0,0,nS),brk)).toArray) d8 (N6 _) (lO e4.one rfl);have f9:=d8.setRow (us:=(cB (x1,(0,0,nS),brk)).toArray);have d':Ly (λq=>q=T) O4 w4 O4 (w4.setRow xb (cB (x1,(0,0,nS),brk)).toArray):=Li zo d8.tag rfl;have e':=e1.U d' hj zo;refine zg ?_;apply ae (yc (hbg:=hbg) e');apply MD zk;exact QF.of (hN ((O4,_,xb,x1)) ⟨f9,(((P8 e8).J (h4.pj g7)).J (e0.pT hj g7 (L3 _))).J (d'.pT hj g7 (L3 _)),i5.U d',e'⟩) ⟨rfl,rfl,rfl,trivial⟩ rfl
   apply au j0.drew T zo (NG _) rfl;intro xb w3 O3 g9 h4 g8 m2;have d7:=f8.drew.U h4 hj zo;have f3:=d7.q3;rw[hbg]at f3;refine zg ?_
   apply ae ⟨d7.q0,f3⟩;apply LN 7 zk rfl
   apply zc Q7 (sY B O3 w3 j rb s (m-r.length) (k+(m-r.length)) g8 hj he h2 g0 (j3.U ((P8 e8).J (h4.pT hj g7 (L3 _))) h2 zo) zo zo hl d7);rintro v w4 ⟨x1,rfl,e0,e1⟩;rw[f4]at e1;have d8:=g9.U e0 zo zo;refine zg ?_
   apply ae (yc (hbg:=hbg) e1);apply zr 16 rfl (yc (hbg:=hbg) e1) (λ_=>Pd (cells:=(cB (x1,(0,0,nS),brk)).toArray) Cq (NG _) rfl rfl)
   apply LN 18 zk rfl;apply zsb (us:=(cB (x1,(0,0,nS),brk)).toArray) d8 (N6 _) (lO e1.one rfl)
   have f9:=d8.setRow (us:=(cB (x1,(0,0,nS),brk)).toArray);have d':Ly (λq=>q=T) O3 w4 O3 (w4.setRow xb (cB (x1,(0,0,nS),brk)).toArray):=Li zo d8.tag rfl;have e':=e1.U d' hj zo;refine zg ?_;apply ae (yc (hbg:=hbg) e');apply MD zk;exact QF.of (hN ((O3,_,xb,x1)) ⟨f9,(((P8 e8).J (h4.pT hj g7 (L3 _))).J (e0.pj g7)).J (d'.pT hj g7 (L3 _)),(g8.U e0).U d',e'⟩) ⟨rfl,rfl,rfl,trivial⟩ rfl
  rintro⟨O3,w3,xb,x1⟩ ⟨g9,g3,g8,e4⟩;dsimp only at g9 g3 g8 e4 ⊢;have f6:=f'.U g3 b0 (λe=>by rcases e with e|e;exact e7 e.symm;omega);have hx1o:=e4.one;have g4:Ly (λq=>q=j\/q=jr\/T<=q) O w O3 w3:=g3.mono (λ_ h=>h.elim .inl (λh=>.inr (.inr h))) b2;refine zg ?_
  cases g':qI kn (r.take k)with
  |bad p e=>
   have hM:kq kn r=.bad p e:=by unfold kq;rw[hf];dsimp only;rw[g']
   rw[hM];rw[g']at e4;obtain⟨rfl,c9,d7⟩:=e4;replace d7:Mr O3 w3 j rb ({s with bad:=((m-r.length:Nat):Int)+(p:Int),e:=e}:LS).cells 158:=d7;refine zg ?_;refine zvG (RV.ld d7.q5 rfl) ?_;apply zFG rfl ((by simpa using c9));apply zv (ah (us:=aY ((0,0,nS):N3)) (kO g9) (Lk _) (ix _) rfl);apply zc PW (ma (.mk 0 0 []) (0,0,nS) w3 (P2 _ _ _ _));rintro v w4 ⟨rfl,k6⟩;have i1:Ly (λ_=>False) O3 w3 O3 w4:=aa (λh=>h) O3 k6;have k1:=d7.U i1 hj (λh=>h);have d8:=g9.U i1 zo (λh=>h);have e6:=f6.U i1 b0 (λh=>h);have i5:=g8.U i1;have c5:=g4.J (i1.mono (λ_ h=>h.elim) b2);refine zg ?_;refine zvG (RV.ld k1.q5 rfl) ?_;apply ax (d:=98) rfl (b':=false) ((by simpa using c9));obtain⟨x1,hx1e⟩:∃x1:N3,x1=(0,0,nS):=⟨_,rfl⟩
   obtain⟨x2,hx2e⟩:∃x2:N3,x2=(0,0,nS):=⟨_,rfl⟩
   have hx2o:x2.2.2.oneCell'=true:=by rw[hx2e];rfl
   have hx1o:x1.2.2.oneCell'=true:=by rw[hx1e];rfl
   have j2:Mr O3 w4 T xb (cB (x1,x2,brk)).toArray 77:=by rw[hx1e,hx2e];exact d8
   have c':=(M0 k1)
   have c6:=(M0 j2)
   have a':=(NK e6)
   have e9:=(P9 i5)
   refine zg ?_;apply zFG rfl rfl
   apply aN (λV=>∀(q:Nat) (u:Lj),(cB (x1,x2,brk))[q]? = some u->V.cell? (nA xb q)=some u) 13 rfl zk;refine zin c6.V λzS=>?_
   apply zrm 0 rfl zS rfl;apply zrm 1 rfl zS rfl
   apply zr 2 rfl zS (λ_=>ak rfl);apply zrf 3 rfl zS rfl
   apply zrf 4 rfl zS rfl;apply zt 6 rfl zS (λw1 e5=>ah (us:=cB (x1,x2,brk)) e5 (NN _) (N6 _) rfl)
   refine Pr 5 7 zk rfl rfl ?_ ?_
   ·refine zvG (RV.ld c'.q8 rfl) ?_;apply ae c6.V
    apply LN 7 zk rfl;apply aQ elR (enc:=cB) (x1,x2,brk) rfl rfl rfl zd rfl
    intro w9 h9 d5;have a5:Ly (λ_=>False) O3 (Mq w4) O3 w9:=aa (λh=>h) O3 d5;have c7:=c'.U a5 hj (λh=>h);have b9:=c6.U a5 zo (λh=>h);have a7:=a'.U a5 b0 (λh=>h);have d4:=e9.U a5;have b6:=(c5.drew).J (a5.mono (λ_ h=>h.elim) b2);refine zg ?_;apply ae b9.V;have a8:∀u∈[(x1,x2,brk)],∀c∈cB u,c.oneCell'=true:=λu hu=>by
     rw[LL.1 hu];exact cm hx1o hx2o
    apply LN 8 zk rfl;apply aC elR a7 d4 h9 (by simp) rfl rfl (λ_ _=>rfl) a8 (by simp;omega) (by simp;omega) zo rfl
    intro a2 b1 O10 a0 a3 b8;have a4:=Ln c7 a3 hj zo;have a6:=Ln b9 a3 zo zo;have b4:=a0.one;refine zg ?_;refine zaf a6.V λzS=>?_
    apply zr 9 rfl zS (λ_=>ak rfl);apply zrf 10 rfl zS rfl
    apply zrf 11 rfl zS rfl;apply LN 12 zk rfl
    apply aj (j:=8) a4 rfl (N7 _) b4 rfl rfl rfl;have b5:=a4.s_ru a2;have a1:Ly (λq=>q=j) O10 b1 O10 (b1.setCell ⟨rb,8,none⟩ a2):=Lu (λe=>hj e.symm) a4.tag rfl;have b3:=a6.U a1 zo zo;have a9:=a0.U a1 b0 (λe=>e7 e.symm);have b7:=b8.U a1;refine zg ?_
    apply ae b3.V;apply MD zk
    have d1:Ly (λq=>q=j\/q=jr\/T<=q) O w O10 (b1.setCell ⟨rb,8,none⟩ a2):=(b6.J (a3.mono (λ_ h=>.inr (.inl h)) b2)).J (a1.mono (λ_ h=>.inl h) b2);refine aP rfl ⟨lowT O10 T,a2,d1.lowT hT (λb hb=>by have:=hT b;rcases hb with h|h|h;exact .inl h;exact .inr h;omega) (λe=>by rcases e with e|e;exact hj e.symm;exact b0 e.symm),b7.lowT T,?_⟩;exact⟨c9,by rw[show s.bg+(p:Int)=((m-r.length:Nat):Int)+(p:Int)from by rw[hbg]];exact b5.lowT f7⟩
   apply aQ elR (enc:=cB) (x1,x2,brk) rfl rfl rfl zd rfl;intro w9 h9 d5;have a5:Ly (λ_=>False) O3 (Mq w4) O3 w9:=aa (λh=>h) O3 d5;have c7:=c'.U a5 hj (λh=>h);have b9:=c6.U a5 zo (λh=>h);have a7:=a'.U a5 b0 (λh=>h);have d4:=e9.U a5;have b6:=(c5.drew).J (a5.mono (λ_ h=>h.elim) b2);refine zg ?_
   apply ae b9.V;apply LN 5 zk rfl
   refine zvG (RV.ld c7.q8 rfl) ?_;apply ae b9.V
   have a8:∀u∈[(x1,x2,brk)],∀c∈cB u,c.oneCell'=true:=λu hu=>by
    rw[LL.1 hu];exact cm hx1o hx2o
   apply LN 8 zk rfl;apply aC elR a7 d4 h9 (by simp) rfl rfl (λ_ _=>rfl) a8 (by simp;omega) (by simp;omega) zo rfl
   intro a2 b1 O10 a0 a3 b8;have a4:=Ln c7 a3 hj zo;have a6:=Ln b9 a3 zo zo;have b4:=a0.one;refine zg ?_;refine zaf a6.V λzS=>?_
   apply zr 9 rfl zS (λ_=>ak rfl);apply zrf 10 rfl zS rfl
   apply zrf 11 rfl zS rfl;apply LN 12 zk rfl
   apply aj (j:=8) a4 rfl (N7 _) b4 rfl rfl rfl;have b5:=a4.s_ru a2;have a1:Ly (λq=>q=j) O10 b1 O10 (b1.setCell ⟨rb,8,none⟩ a2):=Lu (λe=>hj e.symm) a4.tag rfl;have b3:=a6.U a1 zo zo;have a9:=a0.U a1 b0 (λe=>e7 e.symm);have b7:=b8.U a1;refine zg ?_
   apply ae b3.V;apply MD zk
   have d1:Ly (λq=>q=j\/q=jr\/T<=q) O w O10 (b1.setCell ⟨rb,8,none⟩ a2):=(b6.J (a3.mono (λ_ h=>.inr (.inl h)) b2)).J (a1.mono (λ_ h=>.inl h) b2);refine aP rfl ⟨lowT O10 T,a2,d1.lowT hT (λb hb=>by have:=hT b;rcases hb with h|h|h;exact .inl h;exact .inr h;omega) (λe=>by rcases e with e|e;exact hj e.symm;exact b0 e.symm),b7.lowT T,?_⟩;exact⟨c9,by rw[show s.bg+(p:Int)=((m-r.length:Nat):Int)+(p:Int)from by rw[hbg]];exact b5.lowT f7⟩
  |ok a=>
   rw[g']at e4;obtain⟨l2,d7⟩:=e4;replace d7:Mr O3 w3 j rb s.cells 158:=d7;have g2:=d7.q2;rw[i7]at g2;have g5:=d7.q5;rw[he]at g5;refine zg ?_;refine zvG (RV.ld g5 rfl) ?_;apply zTG rfl rfl;refine zvG (MZ rfl rfl (MJ zo)) ?_;apply zv (RV.ld g2 rfl);rw[show((k+(m-r.length):Nat):Int)+1=((k+(m-r.length)+1:Nat):Int)from by omega];apply zc Q7 (sY B O3 w3 j rb s (k+(m-r.length)+1) m g8 hj he h2 g0 (j3.U g4 h2 zo) zo hm hl d7);rintro v w4 ⟨x2,rfl,e0,e1⟩;rw[h5]at e1;have hx2o:=e1.one;have d8:=g9.U e0 zo zo;have e6:=f6.U e0 b0 (λe=>e7 e.symm);have i5:=g8.U e0;have j5:=g4.J (e0.mono (λ_ h=>.inl h) b2);have l1:=l2.U e0;refine zg ?_;apply iI 3 (us:=#[nI x2.1,nI x2.2.1,x2.2.2]) d8 (Nat.le_of_ble_eq_true rfl) (ix _) (cH hx2o) rfl rfl rfl;rw[show((cB (x1,(0,0,nS),brk)).toArray.toList.take 3++(#[nI x2.1,nI x2.2.1,x2.2.2]:Array Lj).toList++(cB (x1,(0,0,nS),brk)).toArray.toList.drop (3+(#[nI x2.1,nI x2.2.1,x2.2.2]:Array Lj).size)).toArray=(cB (x1,x2,brk)).toArray from rfl];have f9:=d8.setRow (us:=(cB (x1,x2,brk)).toArray);have d':Ly (λq=>q=T) O3 w4 O3 (w4.setRow xb (cB (x1,x2,brk)).toArray):=Li zo d8.tag rfl;have e':=e1.U d' hj zo;have f5:=e6.U d' b0 zo;have k4:=i5.U d';have i3:=j5.J (d'.mono (λ_ h=>.inr (.inr (M6 h.symm))) b2);have l0:=l1.U d';generalize w4.setRow xb (cB (x1,x2,brk)).toArray=w5 at *;refine zg ?_
   apply zv (ah (us:=aY x2) (kO f9) (Lk _) (ix _) rfl)
   cases h6:qI kn (r.drop (k+1))with
   |bad p e=>
    have hM:kq kn r=.bad (k+1+p) e:=by unfold kq;rw[hf];dsimp only;rw[g'];dsimp only;rw[h6]
    rw[hM];rw[h6]at e';obtain⟨hx2e,c9,g1⟩:=e';replace g1:Mr O3 w5 j rb ({s with bad:=((k+(m-r.length)+1:Nat):Int)+(p:Int),e:=e}:LS).cells 158:=g1;apply zc PW (ma (.mk 0 0 []) x2 w5 (by rw[hx2e];exact P2 _ _ _ _));rintro v w6 ⟨rfl,j7⟩;have d9:Ly (λ_=>False) O3 w5 O3 w6:=aa (λh=>h) O3 j7;have h3:=g1.U d9 hj (λh=>h);have i6:=f9.U d9 zo (λh=>h);have d6:=f5.U d9 b0 (λh=>h);have i':=k4.U d9;have c5:=i3.J (d9.mono (λ_ h=>h.elim) b2);refine zg ?_;refine zvG (RV.ld h3.q5 rfl) ?_;apply ax (d:=98) rfl (b':=false) ((by simpa using c9));have c':=(M0 h3)
    have c6:=(M0 i6)
    have a':=(NK d6)
    have e9:=(P9 i')
    refine zg ?_;apply zFG rfl rfl
    apply aN (λV=>∀(q:Nat) (u:Lj),(cB (x1,x2,brk))[q]? = some u->V.cell? (nA xb q)=some u) 13 rfl zk;refine zin c6.V λzS=>?_
    apply zrm 0 rfl zS rfl;apply zrm 1 rfl zS rfl
    apply zr 2 rfl zS (λ_=>ak rfl);apply zrf 3 rfl zS rfl
    apply zrf 4 rfl zS rfl;apply zt 6 rfl zS (λw1 e5=>ah (us:=cB (x1,x2,brk)) e5 (NN _) (N6 _) rfl)
    refine Pr 5 7 zk rfl rfl ?_ ?_
    ·refine zvG (RV.ld c'.q8 rfl) ?_;apply ae c6.V
     apply LN 7 zk rfl;apply aQ elR (enc:=cB) (x1,x2,brk) rfl rfl rfl zd rfl
     intro w9 h9 d5;have a5:Ly (λ_=>False) O3 (Mq w6) O3 w9:=aa (λh=>h) O3 d5;have c7:=c'.U a5 hj (λh=>h);have b9:=c6.U a5 zo (λh=>h);have a7:=a'.U a5 b0 (λh=>h);have d4:=e9.U a5;have b6:=(c5.drew).J (a5.mono (λ_ h=>h.elim) b2);refine zg ?_;apply ae b9.V;have a8:∀u∈[(x1,x2,brk)],∀c∈cB u,c.oneCell'=true:=λu hu=>by
      rw[LL.1 hu];exact cm hx1o hx2o
     apply LN 8 zk rfl;apply aC elR a7 d4 h9 (by simp) rfl rfl (λ_ _=>rfl) a8 (by simp;omega) (by simp;omega) zo rfl
     intro a2 b1 O10 a0 a3 b8;have a4:=Ln c7 a3 hj zo;have a6:=Ln b9 a3 zo zo;have b4:=a0.one;refine zg ?_;refine zaf a6.V λzS=>?_
     apply zr 9 rfl zS (λ_=>ak rfl);apply zrf 10 rfl zS rfl
     apply zrf 11 rfl zS rfl;apply LN 12 zk rfl
     apply aj (j:=8) a4 rfl (N7 _) b4 rfl rfl rfl;have b5:=a4.s_ru a2;have a1:Ly (λq=>q=j) O10 b1 O10 (b1.setCell ⟨rb,8,none⟩ a2):=Lu (λe=>hj e.symm) a4.tag rfl;have b3:=a6.U a1 zo zo;have a9:=a0.U a1 b0 (λe=>e7 e.symm);have b7:=b8.U a1;refine zg ?_
     apply ae b3.V;apply MD zk
     have d1:Ly (λq=>q=j\/q=jr\/T<=q) O w O10 (b1.setCell ⟨rb,8,none⟩ a2):=(b6.J (a3.mono (λ_ h=>.inr (.inl h)) b2)).J (a1.mono (λ_ h=>.inl h) b2);refine aP rfl ⟨lowT O10 T,a2,d1.lowT hT (λb hb=>by have:=hT b;rcases hb with h|h|h;exact .inl h;exact .inr h;omega) (λe=>by rcases e with e|e;exact hj e.symm;exact b0 e.symm),b7.lowT T,?_⟩;exact⟨c9,by rw[show s.bg+((k+1+p:Nat):Int)=((k+(m-r.length)+1:Nat):Int)+(p:Int)from by rw[hbg];omega];exact b5.lowT f7⟩
    apply aQ elR (enc:=cB) (x1,x2,brk) rfl rfl rfl zd rfl;intro w9 h9 d5;have a5:Ly (λ_=>False) O3 (Mq w6) O3 w9:=aa (λh=>h) O3 d5;have c7:=c'.U a5 hj (λh=>h);have b9:=c6.U a5 zo (λh=>h);have a7:=a'.U a5 b0 (λh=>h);have d4:=e9.U a5;have b6:=(c5.drew).J (a5.mono (λ_ h=>h.elim) b2);refine zg ?_
    apply ae b9.V;apply LN 5 zk rfl
    refine zvG (RV.ld c7.q8 rfl) ?_;apply ae b9.V
    have a8:∀u∈[(x1,x2,brk)],∀c∈cB u,c.oneCell'=true:=λu hu=>by
     rw[LL.1 hu];exact cm hx1o hx2o
    apply LN 8 zk rfl;apply aC elR a7 d4 h9 (by simp) rfl rfl (λ_ _=>rfl) a8 (by simp;omega) (by simp;omega) zo rfl
    intro a2 b1 O10 a0 a3 b8;have a4:=Ln c7 a3 hj zo;have a6:=Ln b9 a3 zo zo;have b4:=a0.one;refine zg ?_;refine zaf a6.V λzS=>?_
    apply zr 9 rfl zS (λ_=>ak rfl);apply zrf 10 rfl zS rfl
    apply zrf 11 rfl zS rfl;apply LN 12 zk rfl
    apply aj (j:=8) a4 rfl (N7 _) b4 rfl rfl rfl;have b5:=a4.s_ru a2;have a1:Ly (λq=>q=j) O10 b1 O10 (b1.setCell ⟨rb,8,none⟩ a2):=Lu (λe=>hj e.symm) a4.tag rfl;have b3:=a6.U a1 zo zo;have a9:=a0.U a1 b0 (λe=>e7 e.symm);have b7:=b8.U a1;refine zg ?_
    apply ae b3.V;apply MD zk
    have d1:Ly (λq=>q=j\/q=jr\/T<=q) O w O10 (b1.setCell ⟨rb,8,none⟩ a2):=(b6.J (a3.mono (λ_ h=>.inr (.inl h)) b2)).J (a1.mono (λ_ h=>.inl h) b2);refine aP rfl ⟨lowT O10 T,a2,d1.lowT hT (λb hb=>by have:=hT b;rcases hb with h|h|h;exact .inl h;exact .inr h;omega) (λe=>by rcases e with e|e;exact hj e.symm;exact b0 e.symm),b7.lowT T,?_⟩;exact⟨c9,by rw[show s.bg+((k+1+p:Nat):Int)=((k+(m-r.length)+1:Nat):Int)+(p:Int)from by rw[hbg];omega];exact b5.lowT f7⟩
   |ok b=>
    rw[h6]at e';obtain⟨h8,g1⟩:=e';replace g1:Mr O3 w5 j rb s.cells 158:=g1;apply zc PW (ma b x2 w5 h8.zero);rintro v w6 ⟨rfl,j7⟩;have d9:Ly (λ_=>False) O3 w5 O3 w6:=aa (λh=>h) O3 j7;have h3:=g1.U d9 hj (λh=>h);have i6:=f9.U d9 zo (λh=>h);have d6:=f5.U d9 b0 (λh=>h);have i':=k4.U d9;have i2:=i3.J (d9.mono (λ_ h=>h.elim) b2);have k0:=l0.U d9;have j':=h8.U d9;have g6:=h3.q5;rw[he]at g6;refine zg ?_;refine zvG (RV.ld g6 rfl) ?_;apply ax (d:=98) rfl (b':=true) rfl;refine zg ?_
    by_cases h0:dG b=0
    ·have hM:kq kn r=.ok (a,b,brk):=by unfold kq;rw[hf];dsimp only;rw[g'];dsimp only;rw[h6];dsimp only;rw[am (by simpa using h0),i0]
     rw[hM];have c5:=i2;apply bh rfl ((by rw[h0];rfl));have c':=(M0 h3)
     have c6:=(M0 i6)
     have a':=(NK d6)
     have e9:=(P9 i')
     refine zg ?_;apply aN (λV=>∀(q:Nat) (u:Lj),(cB (x1,x2,brk))[q]? = some u->V.cell? (nA xb q)=some u) 13 rfl zk
     refine zin c6.V λzS=>?_
     apply zrm 0 rfl zS rfl;apply zrm 1 rfl zS rfl
     apply zr 2 rfl zS (λ_=>ak rfl);apply zrf 3 rfl zS rfl
     apply zrf 4 rfl zS rfl;apply zt 6 rfl zS (λw1 e5=>ah (us:=cB (x1,x2,brk)) e5 (NN _) (N6 _) rfl)
     refine Pr 5 7 zk rfl rfl ?_ ?_
     ·refine zvG (RV.ld c'.q8 rfl) ?_;apply ae c6.V
      apply LN 7 zk rfl;apply aQ elR (enc:=cB) (x1,x2,brk) rfl rfl rfl zd rfl
      intro w9 h9 d5;have a5:Ly (λ_=>False) O3 (Mq w6) O3 w9:=aa (λh=>h) O3 d5;have c7:=c'.U a5 hj (λh=>h);have b9:=c6.U a5 zo (λh=>h);have a7:=a'.U a5 b0 (λh=>h);have d4:=e9.U a5;have b6:=(c5.drew).J (a5.mono (λ_ h=>h.elim) b2);refine zg ?_;apply ae b9.V;have a8:∀u∈[(x1,x2,brk)],∀c∈cB u,c.oneCell'=true:=λu hu=>by
       rw[LL.1 hu];exact cm hx1o hx2o
      apply LN 8 zk rfl;apply aC elR a7 d4 h9 (by simp) rfl rfl (λ_ _=>rfl) a8 (by simp;omega) (by simp;omega) zo rfl
      intro a2 b1 O10 a0 a3 b8;have a4:=Ln c7 a3 hj zo;have a6:=Ln b9 a3 zo zo;have b4:=a0.one;refine zg ?_;refine zaf a6.V λzS=>?_
      apply zr 9 rfl zS (λ_=>ak rfl);apply zrf 10 rfl zS rfl
      apply zrf 11 rfl zS rfl;apply LN 12 zk rfl
      apply aj (j:=8) a4 rfl (N7 _) b4 rfl rfl rfl;have b5:=a4.s_ru a2;have a1:Ly (λq=>q=j) O10 b1 O10 (b1.setCell ⟨rb,8,none⟩ a2):=Lu (λe=>hj e.symm) a4.tag rfl;have b3:=a6.U a1 zo zo;have a9:=a0.U a1 b0 (λe=>e7 e.symm);have b7:=b8.U a1;refine zg ?_
      apply ae b3.V;apply MD zk
      have d1:Ly (λq=>q=j\/q=jr\/T<=q) O w O10 (b1.setCell ⟨rb,8,none⟩ a2):=(b6.J (a3.mono (λ_ h=>.inr (.inl h)) b2)).J (a1.mono (λ_ h=>.inl h) b2);refine aP rfl ⟨lowT O10 T,a2,d1.lowT hT (λb hb=>by have:=hT b;rcases hb with h|h|h;exact .inl h;exact .inr h;omega) (λe=>by rcases e with e|e;exact hj e.symm;exact b0 e.symm),b7.lowT T,?_⟩;exact⟨(x1,x2,brk),a9.lowT h',⟨((((k0.drew).U a5).U a3).U a1).weak (λb e=>lZ e),((((j'.drew).U a5).U a3).U a1).weak (λb e=>lZ e),rfl⟩,b5.lowT f7⟩
     apply aQ elR (enc:=cB) (x1,x2,brk) rfl rfl rfl zd rfl;intro w9 h9 d5;have a5:Ly (λ_=>False) O3 (Mq w6) O3 w9:=aa (λh=>h) O3 d5;have c7:=c'.U a5 hj (λh=>h);have b9:=c6.U a5 zo (λh=>h);have a7:=a'.U a5 b0 (λh=>h);have d4:=e9.U a5;have b6:=(c5.drew).J (a5.mono (λ_ h=>h.elim) b2);refine zg ?_
     apply ae b9.V;apply LN 5 zk rfl
     refine zvG (RV.ld c7.q8 rfl) ?_;apply ae b9.V
     have a8:∀u∈[(x1,x2,brk)],∀c∈cB u,c.oneCell'=true:=λu hu=>by
      rw[LL.1 hu];exact cm hx1o hx2o
     apply LN 8 zk rfl;apply aC elR a7 d4 h9 (by simp) rfl rfl (λ_ _=>rfl) a8 (by simp;omega) (by simp;omega) zo rfl
     intro a2 b1 O10 a0 a3 b8;have a4:=Ln c7 a3 hj zo;have a6:=Ln b9 a3 zo zo;have b4:=a0.one;refine zg ?_;refine zaf a6.V λzS=>?_
     apply zr 9 rfl zS (λ_=>ak rfl);apply zrf 10 rfl zS rfl
     apply zrf 11 rfl zS rfl;apply LN 12 zk rfl
     apply aj (j:=8) a4 rfl (N7 _) b4 rfl rfl rfl;have b5:=a4.s_ru a2;have a1:Ly (λq=>q=j) O10 b1 O10 (b1.setCell ⟨rb,8,none⟩ a2):=Lu (λe=>hj e.symm) a4.tag rfl;have b3:=a6.U a1 zo zo;have a9:=a0.U a1 b0 (λe=>e7 e.symm);have b7:=b8.U a1;refine zg ?_
     apply ae b3.V;apply MD zk
     have d1:Ly (λq=>q=j\/q=jr\/T<=q) O w O10 (b1.setCell ⟨rb,8,none⟩ a2):=(b6.J (a3.mono (λ_ h=>.inr (.inl h)) b2)).J (a1.mono (λ_ h=>.inl h) b2);refine aP rfl ⟨lowT O10 T,a2,d1.lowT hT (λb hb=>by have:=hT b;rcases hb with h|h|h;exact .inl h;exact .inr h;omega) (λe=>by rcases e with e|e;exact hj e.symm;exact b0 e.symm),b7.lowT T,?_⟩;exact⟨(x1,x2,brk),a9.lowT h',⟨((((k0.drew).U a5).U a3).U a1).weak (λb e=>lZ e),((((j'.drew).U a5).U a3).U a1).weak (λb e=>lZ e),rfl⟩,b5.lowT f7⟩
    have hM:kq kn r=.bad (k+1) (dG b):=by unfold kq;rw[hf];dsimp only;rw[g'];dsimp only;rw[h6];dsimp only;rw[ap (by simpa using h0)]
    rw[hM];apply zTG rfl ((by simpa using h0));refine zvG (MZ rfl rfl (MJ zo)) ?_;apply zc PJ (bT O3 w6 j rb s (((k+(m-r.length):Nat):Int)+1) (dG b) hj he h3);rintro v w7 ⟨l4,i9⟩;have k8:=i6.U i9 zo zo;have h7:=d6.U i9 b0 (λe=>e7 e.symm);have l6:=i'.U i9;have c5:=i2.J (i9.mono (λ_ h=>.inl h) b2);have c':=(M0 l4)
    have c6:=(M0 k8)
    have a':=(NK h7)
    have e9:=(P9 l6)
    refine zg ?_;apply aN (λV=>∀(q:Nat) (u:Lj),(cB (x1,x2,brk))[q]? = some u->V.cell? (nA xb q)=some u) 13 rfl zk
    refine zin c6.V λzS=>?_
    apply zrm 0 rfl zS rfl;apply zrm 1 rfl zS rfl
    apply zr 2 rfl zS (λ_=>ak rfl);apply zrf 3 rfl zS rfl
    apply zrf 4 rfl zS rfl;apply zt 6 rfl zS (λw1 e5=>ah (us:=cB (x1,x2,brk)) e5 (NN _) (N6 _) rfl)
    refine Pr 5 7 zk rfl rfl ?_ ?_
    ·refine zvG (RV.ld c'.q8 rfl) ?_;apply ae c6.V
     apply LN 7 zk rfl;apply aQ elR (enc:=cB) (x1,x2,brk) rfl rfl rfl zd rfl
     intro w9 h9 d5;have a5:Ly (λ_=>False) O3 (Mq w7) O3 w9:=aa (λh=>h) O3 d5;have c7:=c'.U a5 hj (λh=>h);have b9:=c6.U a5 zo (λh=>h);have a7:=a'.U a5 b0 (λh=>h);have d4:=e9.U a5;have b6:=(c5.drew).J (a5.mono (λ_ h=>h.elim) b2);refine zg ?_;apply ae b9.V;have a8:∀u∈[(x1,x2,brk)],∀c∈cB u,c.oneCell'=true:=λu hu=>by
      rw[LL.1 hu];exact cm hx1o hx2o
     apply LN 8 zk rfl;apply aC elR a7 d4 h9 (by simp) rfl rfl (λ_ _=>rfl) a8 (by simp;omega) (by simp;omega) zo rfl
     intro a2 b1 O10 a0 a3 b8;have a4:=Ln c7 a3 hj zo;have a6:=Ln b9 a3 zo zo;have b4:=a0.one;refine zg ?_;refine zaf a6.V λzS=>?_
     apply zr 9 rfl zS (λ_=>ak rfl);apply zrf 10 rfl zS rfl
     apply zrf 11 rfl zS rfl;apply LN 12 zk rfl
     apply aj (j:=8) a4 rfl (N7 _) b4 rfl rfl rfl;have b5:=a4.s_ru a2;have a1:Ly (λq=>q=j) O10 b1 O10 (b1.setCell ⟨rb,8,none⟩ a2):=Lu (λe=>hj e.symm) a4.tag rfl;have b3:=a6.U a1 zo zo;have a9:=a0.U a1 b0 (λe=>e7 e.symm);have b7:=b8.U a1;refine zg ?_
     apply ae b3.V;apply MD zk
     have d1:Ly (λq=>q=j\/q=jr\/T<=q) O w O10 (b1.setCell ⟨rb,8,none⟩ a2):=(b6.J (a3.mono (λ_ h=>.inr (.inl h)) b2)).J (a1.mono (λ_ h=>.inl h) b2);refine aP rfl ⟨lowT O10 T,a2,d1.lowT hT (λb hb=>by have:=hT b;rcases hb with h|h|h;exact .inl h;exact .inr h;omega) (λe=>by rcases e with e|e;exact hj e.symm;exact b0 e.symm),b7.lowT T,?_⟩;exact⟨h0,by rw[show s.bg+((k+1:Nat):Int)=((k+(m-r.length):Nat):Int)+1 from by rw[hbg];omega];exact b5.lowT f7⟩
    apply aQ elR (enc:=cB) (x1,x2,brk) rfl rfl rfl zd rfl;intro w9 h9 d5;have a5:Ly (λ_=>False) O3 (Mq w7) O3 w9:=aa (λh=>h) O3 d5;have c7:=c'.U a5 hj (λh=>h);have b9:=c6.U a5 zo (λh=>h);have a7:=a'.U a5 b0 (λh=>h);have d4:=e9.U a5;have b6:=(c5.drew).J (a5.mono (λ_ h=>h.elim) b2);refine zg ?_
    apply ae b9.V;apply LN 5 zk rfl
    refine zvG (RV.ld c7.q8 rfl) ?_;apply ae b9.V
    have a8:∀u∈[(x1,x2,brk)],∀c∈cB u,c.oneCell'=true:=λu hu=>by
     rw[LL.1 hu];exact cm hx1o hx2o
    apply LN 8 zk rfl;apply aC elR a7 d4 h9 (by simp) rfl rfl (λ_ _=>rfl) a8 (by simp;omega) (by simp;omega) zo rfl
    intro a2 b1 O10 a0 a3 b8;have a4:=Ln c7 a3 hj zo;have a6:=Ln b9 a3 zo zo;have b4:=a0.one;refine zg ?_;refine zaf a6.V λzS=>?_
    apply zr 9 rfl zS (λ_=>ak rfl);apply zrf 10 rfl zS rfl
    apply zrf 11 rfl zS rfl;apply LN 12 zk rfl
    apply aj (j:=8) a4 rfl (N7 _) b4 rfl rfl rfl;have b5:=a4.s_ru a2;have a1:Ly (λq=>q=j) O10 b1 O10 (b1.setCell ⟨rb,8,none⟩ a2):=Lu (λe=>hj e.symm) a4.tag rfl;have b3:=a6.U a1 zo zo;have a9:=a0.U a1 b0 (λe=>e7 e.symm);have b7:=b8.U a1;refine zg ?_
    apply ae b3.V;apply MD zk
    have d1:Ly (λq=>q=j\/q=jr\/T<=q) O w O10 (b1.setCell ⟨rb,8,none⟩ a2):=(b6.J (a3.mono (λ_ h=>.inr (.inl h)) b2)).J (a1.mono (λ_ h=>.inl h) b2);refine aP rfl ⟨lowT O10 T,a2,d1.lowT hT (λb hb=>by have:=hT b;rcases hb with h|h|h;exact .inl h;exact .inr h;omega) (λe=>by rcases e with e|e;exact hj e.symm;exact b0 e.symm),b7.lowT T,?_⟩;exact⟨h0,by rw[show s.bg+((k+1:Nat):Int)=((k+(m-r.length):Nat):Int)+1 from by rw[hbg];omega];exact b5.lowT f7⟩
def qO(B:Nat)(O:Nat->Nat)(w:ka)(j jr rb:Nat)(s:LS)(m:Nat)(r:List UInt8)(xs:List X3)(hR:No B O w)(hj:j≠0)(a5:jr≠0)(a3:j≠jr)(hm:m<=s.l.length)(hl:s.l.length<=100000)(a2:s.to=(m:Int))(hbg:s.bg=((m-r.length:Nat):Int))(he:s.e=0)(a4:s.mc=nS) 
  (hr:r <:+ s.l.take m) (_ha:oR r) (a0:Nu cB 77 7 O w jr s.ru xs) (a1:xs.length<=40) (h:Rd6 O w j rb s) :
  N2 M4 118 [nP rb] w λ_ w'=>LQ B O w w' j jr rb s xs (if xs.length=40 then .bad 0 3 else Mg r):=by
 have:=uW (kn:=[]) B O w j jr rb s m r xs hR hj a5 a3 hm hl a2 hbg he (jm:=j+jr+1) zo zo zo (by rw[a4];exact Mac.nil O w _) hr a0 a1 h;rw[rP]at this;exact this
end
def bI(seg:List UInt8):List UInt8:=seg.takeWhile (λb=>!(b==35))
def bu(seg:List UInt8):List UInt8:=ay (bI seg)
def vC(r:List UInt8):Bool:=r.takeWhile aq==[108,101,116]||r.takeWhile aq==[105,103,110,111,114,101]||r.takeWhile aq==[107,101,101,112]
inductive RL where
 |none
 |one (t:R3)
 |bad (p:Nat) (e:Int)
 |other
def dq(n:Nat)(seg:List UInt8):RL:=
 if(bu seg).length=0 then .none
 else if vC (bu seg)=true then .other
 else match (if n=40 then LR.bad 0 3 else Mg (bu seg))with
  |.ok t=>.one t
  |.bad p e=>.bad ((bI seg).length-(bu seg).length+p) e
def vD(B:Nat)(O:Nat->Nat)(w w':ka)(j jr rb:Nat)(s:LS)(fr:Nat)(xs:List X3)(M:RL):Prop:=
 ∃O' s',Ly (λk=>k=j\/k=jr) O w O' w'/\No B O' w'/\Rd6 O' w' j rb s'/\s'.l=s.l/\s'.ig=s.ig/\s'.kp=s.kp/\s'.mc=s.mc/\
  match M with
  |.none=>s'.e=0/\Nu cB 77 7 O' w' jr s'.ru xs
  |.one t=>s'.e=0/\∃x,Nu cB 77 7 O' w' jr s'.ru (xs++[x])/\Rt O' w' t x
  |.bad p e=>e≠0/\s'.e=e/\s'.bad=(fr:Int)+(p:Int)
  |.other=>False
def BY(h:seg.findIdx? (· == 35)=some k):bI seg=seg.take k/\k<=seg.length:=by
 obtain⟨hk,h1,h2⟩:=Ms.1 h;refine⟨?_,zo⟩;unfold bI;have e:seg=seg.take k++seg.drop k:=(NV k seg).symm
 conv=>lhs;rw[e]
 rw[List.takeWhile_append_of_pos]
 ·rw[MW hk,Nz (by simpa using h1),PB]
 intro x hx;obtain⟨i,hi,rfl⟩:=MR hx;simp only[Pv]at hi;have:=h2 i zo;simp only[Pp];simpa using this
def fm{p:UInt8->Bool}:∀ {l:List UInt8},(∀x∈l,p x=true)->l.takeWhile p=l
 |[],_=>rfl
 |a::l,h=>by rw[List.takeWhile_cons_of_pos (h a (by simp)),fm λx hx=>h x (by simp[hx])]
def BZ(h:seg.findIdx? (· == 35)=none):bI seg=seg:=by
 have h1:=Mt.1 h;exact fm λx hx=>by simpa using h1 x hx
def rM(B:Nat)(O:Nat->Nat)(w:ka)(j jr rb:Nat)(s:LS)(fr to:Nat)(seg:List UInt8)(xs:List X3)(hR:No B O w)(hj:j≠0)(a9:jr≠0)(b2:j≠jr)(f9:fr<=to)(f7:to<=s.l.length)(d3:s.l.length<=100000)(he:s.e=0)(f4:s.mc=nS) 
  (b9:(s.l.take to).drop fr=seg) (ha:oR seg) (d':Nu cB 77 7 O w jr s.ru xs) (e':xs.length<=40) (a8:dq xs.length seg≠.other) (h:Rd6 O w j rb s) :
  N2 M4 80 [nP rb,nI fr,nI to] w λ_ w'=>vD B O w w' j jr rb s fr xs (dq xs.length seg):=by
 have b6:¬(λq:Nat=>q=j\/q=jr) 0:=λe=>by rcases e with e|e;exact hj e.symm;exact a9 e.symm
 have d9:¬(λq:Nat=>q=j) 0:=λe=>hj e.symm
 have f8:seg.length=to-fr:=by rw[<-b9];simp;omega
 have g4:(bu seg).length<=(bI seg).length:=ed _;have g5:(bI seg).length<=seg.length:=(LD (l:=seg) _).length_le;obtain⟨m,e0⟩:∃m,m=fr+(bI seg).length:=⟨_,rfl⟩
 have d2:m<=s.l.length:=zo;have d5:(s.l.take m).drop fr=bI seg:=by
  have h1:bI seg=seg.take (bI seg).length:=NM.1 (LD _);have h2:(seg.take (bI seg).length)=(s.l.take m).drop fr:=by
   conv=>lhs;arg 2;rw[<-b9]
   rw[Ny,Nx,Nv zo,e0]
  rw[<-h2,<-h1]
 have a3:bI seg <:+ s.l.take m:=by rw[<-d5];exact List.drop_suffix _ _
 have a2:bu seg <:+ s.l.take m:=(bt _).J a3;have b8:(fr:Int)=(m:Int)-((bI seg).length:Int):=zo;have d4:(m:Int)-((ay (bI seg)).length:Int)=((m-(bu seg).length:Nat):Int):=by
  have:(ay (bI seg)).length=(bu seg).length:=rfl;omega
 have f5:oR (bu seg):=λc hc=>ha c ((LD (l:=seg) _).subset ((bt _).subset hc))
 apply Ll func80 ntmps80 rfl rfl;refine zh ?_
 apply aj (j:=1) h rfl (Mv _) rfl rfl rfl rfl;have e4:=h.s_pos (fr:Int);have g1:Ly (λk=>k=j) O w O (w.setCell ⟨rb,1,none⟩ (nI (fr:Int))):=Lu d9 h.tag rfl;refine zh ?_
 apply aj (j:=2) e4 rfl (Mv _) rfl rfl rfl rfl;have d6:=e4.s_to (to:Int);have g0:Ly (λk=>k=j) O (w.setCell ⟨rb,1,none⟩ (nI (fr:Int))) O ((w.setCell ⟨rb,1,none⟩ (nI (fr:Int))).setCell ⟨rb,2,none⟩ (nI (to:Int))):=Lu d9 e4.tag rfl;have b3:=g1.J g0;have b7:=d'.U b3 a9 (λe=>b2 e.symm);have f6:=hR.U b3;generalize (w.setCell ⟨rb,1,none⟩ (nI (fr:Int))).setCell ⟨rb,2,none⟩ (nI (to:Int))=w2 at *;refine zh ?_
 refine zvH (RV.ld d6.q0 rfl) ?_;apply zv (dH ln rfl rfl rfl fr to rfl rfl f9 f7)
 rw[show({s with pos:=(fr:Int),to:=(to:Int)}:LS).l=s.l from rfl,b9];apply zc PE (ej seg 35 w2);rintro v w9 ⟨rfl,f3⟩;rw[f3];clear f3 w9
 cases hf:seg.findIdx? (· == 35)with
 |none=>
  have hi:uw seg 35 = -1:=by unfold uw;rw[hf]
  have e1:=BZ hf;rw[hi];obtain rfl:m=to:=by rw[e0,e1,f8];omega
  refine zh ?_;apply bh rfl rfl
  have a7:=b7;have e9:=f6;have c8:=b3.mono (S':=λk=>k=j\/k=jr) (λ_ h=>.inl h) b6;refine zh ?_;apply zc call114 (eE O w2 j rb ({s with pos:=(fr:Int),to:=(m:Int)}:LS) m (bI seg) hj d2 d3 rfl a3 b8 d6);rintro v w4 ⟨rfl,a',d0⟩;have a1:=a7.U d0 a9 (λe=>b2 e.symm);have d8:=e9.U d0;have b1:=c8.J (d0.mono (λ_ h=>.inl h) b6);refine zh ?_
  by_cases h0:(bu seg).length=0
  ·have hM:dq xs.length seg=.none:=by unfold dq;rw[ap h0]
   rw[hM];refine zTH rfl ((by have b5:(ay (bI seg)).length=0:=h0;simp[b5])) ?_;exact cP rfl ⟨O,_,b1,d8,a',rfl,rfl,rfl,rfl,he,a1⟩
  have b5:(ay (bI seg)).length=(bu seg).length:=rfl;refine zFH rfl ((by rw[b5,decide_eq_true zo];rfl)) ?_;refine zvH (RV.ld a'.q1 rfl) ?_;apply aj (j:=3) a' rfl (Mv _) rfl rfl rfl rfl;have e3:=a'.s_bg ((m:Int)-((ay (bI seg)).length:Int));have c':Ly (λk=>k=j) O w4 O (w4.setCell ⟨rb,3,none⟩ (nI ((m:Int)-((ay (bI seg)).length:Int)))):=Lu (λe=>hj e.symm) a'.tag rfl;have a6:=a1.U c' a9 (λe=>b2 e.symm);have e8:=d8.U c';have c7:=b1.J (c'.mono (λ_ h=>.inl h) b6);generalize w4.setCell ⟨rb,3,none⟩ (nI ((m:Int)-((ay (bI seg)).length:Int)))=w5 at *;refine zh ?_;apply zc call115 (iY O w5 j rb ({s with pos:=((m:Int)-((ay (bI seg)).length:Int)),to:=(m:Int),bg:=((m:Int)-((ay (bI seg)).length:Int))}:LS) m (bu seg) hj d2 d3 rfl a2 rfl e3);rintro v w6 ⟨rfl,e2,c9⟩;have a5:=a6.U c9 a9 (λe=>b2 e.symm);have e7:=e8.U c9;have c6:=c7.J (c9.mono (λ_ h=>.inl h) b6);have a0:vC (bu seg)=false:=by
   cases hk:vC (bu seg)with
   |false=>rfl
   |true=>exact absurd (by unfold dq;rw[am h0,ap hk]) a8
  have hM:dq xs.length seg=match (if xs.length=40 then LR.bad 0 3 else Mg (bu seg))with | .ok t=>.one t | .bad p e=>.bad ((bI seg).length-(bu seg).length+p) e:=by unfold dq;rw[am h0,am (by rw[a0];decide)]
  simp only[vC,N9]at a0;refine zh ?_;refine zvH (dC rfl rfl) ?_;refine zFH rfl a0.1.1 ?_;refine zvH (dC rfl rfl) ?_;refine zFH rfl a0.1.2 ?_;refine zvH (dC rfl rfl) ?_;refine zFH rfl a0.2 ?_;apply zc call118 (qO B O w6 j jr rb ({s with pos:=(m:Int)-(((bu seg).dropWhile aq).length:Int),to:=(m:Int),bg:=((m:Int)-((ay (bI seg)).length:Int))}:LS) m (bu seg) xs e7 hj a9 b2 d2 d3 rfl d4 he f4 a2 f5 a5 e' e2);rintro v w7 ⟨O7,rv,e5,d7,b4⟩;have b0:=c6.J e5;refine zh ?_;rw[hM]
  cases hq:(if xs.length=40 then LR.bad 0 3 else Mg (bu seg))with
  |ok t=>
   rw[hq]at b4;obtain⟨x,a4,d1,c5⟩:=b4;exact aP rfl ⟨O7,_,b0,d7,c5,rfl,rfl,rfl,rfl,he,x,a4,d1⟩
  |bad p e=>
   rw[hq]at b4;obtain⟨b',c5⟩:=b4;exact aP rfl ⟨O7,_,b0,d7,c5,rfl,rfl,rfl,rfl,b',rfl,by dsimp only;rw[b5];omega⟩
 |some k=>
  have hi:uw seg 35=(k:Nat):=by unfold uw;rw[hf]
  obtain⟨e1,g3⟩:=BY hf;rw[hi];have g2:m=fr+k:=by rw[e0,e1];simp;omega
  refine zh ?_;refine zTH rfl ((decide_eq_true zo)) ?_
  apply aj (j:=2) d6 rfl (Mv _) rfl rfl rfl rfl;rw[show(fr:Int)+((k:Nat):Int)=(m:Int)from by omega];have f':=d6.s_to (m:Int);have e6:Ly (λk=>k=j) O w2 O (w2.setCell ⟨rb,2,none⟩ (nI (m:Int))):=Lu d9 d6.tag rfl;have a7:=b7.U e6 a9 (λe=>b2 e.symm);have e9:=f6.U e6;have c8:=(b3.J e6).mono (S':=λk=>k=j\/k=jr) (λ_ h=>.inl h) b6;generalize w2.setCell ⟨rb,2,none⟩ (nI (m:Int))=w3 at *;refine zh ?_
  apply zc call114 (eE O w3 j rb ({s with pos:=(fr:Int),to:=(m:Int)}:LS) m (bI seg) hj d2 d3 rfl a3 b8 f');rintro v w4 ⟨rfl,a',d0⟩;have a1:=a7.U d0 a9 (λe=>b2 e.symm);have d8:=e9.U d0;have b1:=c8.J (d0.mono (λ_ h=>.inl h) b6);refine zh ?_
  by_cases h0:(bu seg).length=0
  ·have hM:dq xs.length seg=.none:=by unfold dq;rw[ap h0]
   rw[hM];refine zTH rfl ((by have b5:(ay (bI seg)).length=0:=h0;simp[b5])) ?_;exact cP rfl ⟨O,_,b1,d8,a',rfl,rfl,rfl,rfl,he,a1⟩
  have b5:(ay (bI seg)).length=(bu seg).length:=rfl;refine zFH rfl ((by rw[b5,decide_eq_true zo];rfl)) ?_;refine zvH (RV.ld a'.q1 rfl) ?_;apply aj (j:=3) a' rfl (Mv _) rfl rfl rfl rfl;have e3:=a'.s_bg ((m:Int)-((ay (bI seg)).length:Int));have c':Ly (λk=>k=j) O w4 O (w4.setCell ⟨rb,3,none⟩ (nI ((m:Int)-((ay (bI seg)).length:Int)))):=Lu (λe=>hj e.symm) a'.tag rfl;have a6:=a1.U c' a9 (λe=>b2 e.symm);have e8:=d8.U c';have c7:=b1.J (c'.mono (λ_ h=>.inl h) b6);generalize w4.setCell ⟨rb,3,none⟩ (nI ((m:Int)-((ay (bI seg)).length:Int)))=w5 at *;refine zh ?_;apply zc call115 (iY O w5 j rb ({s with pos:=((m:Int)-((ay (bI seg)).length:Int)),to:=(m:Int),bg:=((m:Int)-((ay (bI seg)).length:Int))}:LS) m (bu seg) hj d2 d3 rfl a2 rfl e3);rintro v w6 ⟨rfl,e2,c9⟩;have a5:=a6.U c9 a9 (λe=>b2 e.symm);have e7:=e8.U c9;have c6:=c7.J (c9.mono (λ_ h=>.inl h) b6);have a0:vC (bu seg)=false:=by
   cases hk:vC (bu seg)with
   |false=>rfl
   |true=>exact absurd (by unfold dq;rw[am h0,ap hk]) a8
  have hM:dq xs.length seg=match (if xs.length=40 then LR.bad 0 3 else Mg (bu seg))with | .ok t=>.one t | .bad p e=>.bad ((bI seg).length-(bu seg).length+p) e:=by unfold dq;rw[am h0,am (by rw[a0];decide)]
  simp only[vC,N9]at a0;refine zh ?_;refine zvH (dC rfl rfl) ?_;refine zFH rfl a0.1.1 ?_;refine zvH (dC rfl rfl) ?_;refine zFH rfl a0.1.2 ?_;refine zvH (dC rfl rfl) ?_;refine zFH rfl a0.2 ?_;apply zc call118 (qO B O w6 j jr rb ({s with pos:=(m:Int)-(((bu seg).dropWhile aq).length:Int),to:=(m:Int),bg:=((m:Int)-((ay (bI seg)).length:Int))}:LS) m (bu seg) xs e7 hj a9 b2 d2 d3 rfl d4 he f4 a2 f5 a5 e' e2);rintro v w7 ⟨O7,rv,e5,d7,b4⟩;have b0:=c6.J e5;refine zh ?_;rw[hM]
  cases hq:(if xs.length=40 then LR.bad 0 3 else Mg (bu seg))with
  |ok t=>
   rw[hq]at b4;obtain⟨x,a4,d1,c5⟩:=b4;exact aP rfl ⟨O7,_,b0,d7,c5,rfl,rfl,rfl,rfl,he,x,a4,d1⟩
  |bad p e=>
   rw[hq]at b4;obtain⟨b',c5⟩:=b4;exact aP rfl ⟨O7,_,b0,d7,c5,rfl,rfl,rfl,rfl,b',rfl,by dsimp only;rw[b5];omega⟩
inductive TR where
 |ok (l:List R3)
 |bad (p:Nat) (e:Int)
 |other
def eR(r:List UInt8):List UInt8:=r.takeWhile (λb=>!(b==10))
def gb:Nat->List R3->Nat->List UInt8->TR
 |0,_,_,_=>.other
 |n+1,acc,fr,r=>
  match dq acc.length (eR r)with
  |.other=>.other
  |.bad p e=>.bad (fr+p) e
  |.none=>if(eR r).length=r.length then .ok acc else gb n acc (fr+(eR r).length+1) (r.drop ((eR r).length+1))
  |.one t=>if(eR r).length=r.length then .ok (acc++[t])else gb n (acc++[t]) (fr+(eR r).length+1) (r.drop ((eR r).length+1))
def jw(l:List UInt8):TR:=if 4096<l.length then .bad 0 3 else gb (l.length+1) [] 0 l
def RowsT(O:Nat->Nat)(w:ka)(jr:Nat)(rv:Lj)(ts:List R3)(xs:List X3):Prop:=
 Nu cB 77 7 O w jr rv xs/\ts.length=xs.length/\xs.length<=40/\∀i,i<xs.length->Rt O w (nth ts i) (nth xs i)
def LoopT(l:List UInt8)(M:TR)(O:Nat->Nat)(w:ka)(jr:Nat)(n fr:Nat)(ts:List R3)(xs:List X3)(s:LS):Prop:=
 (fr<=l.length/\s.e=0/\l.length-fr<n/\gb n ts fr (l.drop fr)=M/\RowsT O w jr s.ru ts xs)\/(fr=l.length+1/\s.e=0/\M=.ok ts/\RowsT O w jr s.ru ts xs)\/
 (∃p e,e≠0/\s.e=e/\s.bad=((p:Nat):Int)/\M=.bad p e)
def RowsT.push{jr:Nat}{rv:Lj}{ts:List R3}{xs:List X3}{t:R3}{x:X3}(hr:Nu cB 77 7 O w jr rv (xs++[x]))(h1:ts.length=xs.length)(h2:xs.length<40)(h3:∀i,i<xs.length->Rt O w (nth ts i) (nth xs i))(h4:Rt O w t x):RowsT O w jr rv (ts++[t]) (xs++[x]):=by
 refine⟨hr,by simp[h1],by simp;omega,λi hi=>?_⟩;simp only[MU,MM]at hi
 by_cases e:i<xs.length
 ·rw[aB (by simp;omega),aB (by simp;omega),M7 zo,M7 e,<-aB zo,<-aB e];exact h3 i e
 obtain rfl:i=xs.length:=zo;rw[aB (by simp;omega),aB (by simp),MC zo,MC zo];simp[h1];exact h4
def uu{t:R3}(h:dq n seg=.one t):n≠40:=λe=>by
 subst e;unfold dq at h
 split at h
 ·cases h
 split at h
 ·cases h
 cases h
def LoopT.next{M:TR}{jr:Nat}{w':ka}{ts:List R3}{xs:List X3}{s:LS}(a6:fr<=l.length)(hn:l.length-fr<n+1)(hM:gb (n+1) ts fr (l.drop fr)=M)(a5:jr≠0)(a3:j≠jr)(a1:RowsT O w jr s.ru ts xs) 
  (hP:vD B O w w' j jr rb s fr xs (dq xs.length (eR (l.drop fr)))) :
  ∃O' s' n' ts' xs',Ly (λk=>k=j\/k=jr) O w O' w'/\No B O' w'/\Rd6 O' w' j rb s'/\s'.l=s.l/\s'.ig=s.ig/\s'.kp=s.kp/\s'.mc=s.mc/\n'<n+1/\LoopT l M O' w' jr n' (fr+(eR (l.drop fr)).length+1) ts' xs' s':=by
 obtain⟨O',s',hU,hR,hb,e1,e2,e3,e4,hq⟩:=hP;obtain⟨h1,h2,h3,h4⟩:=a1;have a4:(eR (l.drop fr)).length<=l.length-fr:=by
  have:=(LD (l:=l.drop fr) (λb=>!(b==10))).length_le;simpa[eR]using this
 have a7:(l.drop fr).length=l.length-fr:=by simp
 have a2:∀i,i<xs.length->Rt O' w' (nth ts i) (nth xs i):=λi hi=>(h4 i hi).U hU
 unfold gb at hM;rw[h2]at hM;refine⟨O',s',?_⟩
 cases hr:dq xs.length (eR (l.drop fr))with
 |other=>rw[hr]at hq;exact hq.elim
 |bad p e=>
  rw[hr]at hq hM;obtain⟨q1,q2,q3⟩:=hq;exact⟨0,[],[],hU,hR,hb,e1,e2,e3,e4,zo,.inr (.inr ⟨fr+p,e,q1,q2,by rw[q3];simp,hM.symm⟩)⟩
 |none=>
  rw[hr]at hq hM;dsimp only at hM;obtain⟨q1,q2⟩:=hq
  split at hM
  ·rename_i he;exact⟨0,ts,xs,hU,hR,hb,e1,e2,e3,e4,zo,.inr (.inl ⟨zo,q1,hM.symm,q2,h2,h3,a2⟩)⟩
  rename_i he;exact⟨n,ts,xs,hU,hR,hb,e1,e2,e3,e4,zo,.inl ⟨zo,q1,zo,by rw[<-hM,NA,NL],q2,h2,h3,a2⟩⟩
 |one t=>
  have a8:=uu hr;rw[hr]at hq hM;dsimp only at hM;obtain⟨q1,x,q2,q3⟩:=hq;have a0:=RowsT.push q2 h2 zo a2 q3
  split at hM
  ·rename_i he;exact⟨0,_,_,hU,hR,hb,e1,e2,e3,e4,zo,.inr (.inl ⟨zo,q1,hM.symm,a0⟩)⟩
  rename_i he;exact⟨n,_,_,hU,hR,hb,e1,e2,e3,e4,zo,.inl ⟨zo,q1,zo,by rw[<-hM,NA,NL],a0⟩⟩
def nm{acc:List R3}(h:gb (n+1) acc fr r≠.other):dq acc.length (eR r)≠.other:=λe=>by
 unfold gb at h;rw[e]at h;exact h rfl
def Bx(h:r.findIdx? (· == 10)=some k):(eR r).length=k:=by
 obtain⟨hk,h1,h2⟩:=Ms.1 h;unfold eR;have e:r=r.take k++r.drop k:=(NV k r).symm;have e2:(r.take k).takeWhile (λb=>!(b==10))=r.take k:=fm λx hx=>by
  obtain⟨i,hi,rfl⟩:=MR hx;simp only[Pv]at hi;have:=h2 i zo;simp only[Pp];simpa using this
 conv=>lhs;rw[e]
 rw[List.takeWhile_append,e2,ap rfl,MW hk,Nz (by simpa using h1),PB];simp;omega
def By(h:r.findIdx? (· == 10)=none):eR r=r:=
 fm λx hx=>by simpa using Mt.1 h x hx
def vE(l:List UInt8)(fr:Nat):(l.take (fr+(eR (l.drop fr)).length)).drop fr=eR (l.drop fr):=by
 have h1:eR (l.drop fr)=(l.drop fr).take (eR (l.drop fr)).length:=NM.1 (LD _)
 conv=>rhs;rw[h1]
 rw[Ny]
abbrev zP(ig kp ru:Lj):Lj:=.agg #[ig,kp,ru]
abbrev nilV:Lj:=nS
def xA(O:Nat->Nat)(w:ka)(v:Lj):TR->Prop
 |.ok ts=>∃xs rv,v=.tuple #[zP nilV nilV rv,nI 0,nI 0]/\Sl cB 7 w rv xs/\Free O w rv/\ts.length=xs.length/\xs.length<=40/\∀i,i<xs.length->Rt O w (nth ts i) (nth xs i)
 |.bad p e=>v=.tuple #[zP nilV nilV nilV,nI (p:Int),nI e]/\e≠0
 |.other=>False
def K5:cC M4 41 #[(0,1),(1,1),(2,1)]:=⟨_,underlying41,λw=>by kernel_rfl⟩
def KX:cC M4 155 #[(0,1),(1,1),(2,1),(3,1),(4,1),(5,1)]:=⟨_,underlying155,λw=>by kernel_rfl⟩
def Kq:cC M4 158 #[(0,6),(6,3),(9,1),(10,1),(11,1)]:=⟨_,underlying158,λw=>by kernel_rfl⟩
def Ci{a b c:Lj}(h6:w.cell? ⟨rb,6,none⟩=some a)(h7:w.cell? ⟨rb,7,none⟩=some b)(h8:w.cell? ⟨rb,8,none⟩=some c):∀(q:Nat) (u:Lj),[a,b,c][q]? = some u->w.cell? ((nA rb 6).add q)=some u:=λq u hu=>by
 have e:((nA rb 6).add q)=⟨rb,6+q,none⟩:=by
  simp only[N0];(repeat' split)<;>simp_all
 rw[e]
 match q,hu with
 |0,hu=>obtain rfl:=Nb hu;exact h6
 |1,hu=>obtain rfl:=Nb hu;exact h7
 |2,hu=>obtain rfl:=Nb hu;exact h8
def rO(l:List UInt8)(B:Nat)(O:Nat->Nat)(w:ka)(hR:No B O w)(f':l.length<=100000)(ha:oR l)(e':jw l≠.other):N2 M4 41 [.string (bs l)] w λv w'=>MS w w'/\xA O w' v (jw l):=by
 obtain⟨T,g5,hT⟩:=hR.bound;have a6:¬(λq:Nat=>T<=q) 0:=λe=>by omega
 have c':∀b,¬T<=O b:=λb=>by have:=hT b;omega
 apply Ll func41 ntmps41 rfl rfl;refine zg ?_
 apply au hR T zo (NH _) rfl;intro xb w1 O1 c5 f6 f8 g7;have b8:Ly (λq=>T<=q) O w O1 w1:=f6.mono (λ_ h=>M6 h.symm) a6;refine zg ?_
 refine zvG (cK ln rfl) ?_
 by_cases hl:4096<l.length
 ·have hM:jw l=.bad 0 3:=by unfold jw;rw[ap hl]
  rw[hM];apply zTG rfl ((decide_eq_true zo));apply zv (aH K5 (NH _) rfl (by first|rfl|(simp only[Lq,M5];rfl)) rfl rfl);apply zsa (us:=(#[nS,nS,nS]:Array Lj)) c5 (MY _);have a8:=c5.setRow (us:=(#[nS,nS,nS]:Array Lj));have a4:Ly (λk=>k=T) O1 w1 O1 (w1.setRow xb (#[nS,nS,nS]:Array Lj)):=Li zo c5.tag rfl;refine zg ?_;refine cV rfl rfl rfl rfl a8.V (Pg _) (MY _) ⟨aD (b8.J (a4.mono (λ_ h=>M6 h.symm) a6)) c',rfl,by decide⟩
 have f9:jw l=gb (l.length+1) [] 0 l:=by unfold jw;rw[am hl]
 apply zFG rfl ((decide_eq_false zo));apply zv (aH KX (zeroValue155 _) rfl (by first|rfl|(simp only[Lq,M5];rfl)) rfl rfl)
 apply zv (Pd (vs:=[(0,.agg #[.string (bs l),nI 0,nI 0,nI 0,nI 0,nI 0])]) (cells:=(⟨l,0,0,0,0,0,nS,nS,nS,nS,false,false⟩:LS).cells) Kq (zeroValue158 _) rfl zk);apply aI f8 (T+1) zo rfl rfl
 intro rb w2 O2 d9 e7 f7 g6;have f5:Rd6 O2 w2 (T+1) rb ⟨l,0,0,0,0,0,nS,nS,nS,nS,false,false⟩:=d9;have e9:=c5.U e7 zo zo;have d':=b8.J (e7.mono (λ_ h=>by rw[h];omega) a6);refine zg ?_;apply zlp (λy:Nat×Nat×List R3×List X3×(Nat->Nat)×World×LS=>[(0,.string (bs l)),(2,nP xb),(5,nP rb),(6,nI (y.2.1:Nat))]) (λy=>y.2.2.2.2.2.1) (λy=>Mr y.2.2.2.2.1 y.2.2.2.2.2.1 T xb (#[nS,nS,nS]:Array Lj) 41/\Rd6 y.2.2.2.2.1 y.2.2.2.2.2.1 (T+1) rb y.2.2.2.2.2.2/\y.2.2.2.2.2.2.l=l/\y.2.2.2.2.2.2.ig=nS/\y.2.2.2.2.2.2.kp=nS/\y.2.2.2.2.2.2.mc=nS/\Ly (λq=>T<=q) O w y.2.2.2.2.1 y.2.2.2.2.2.1/\No B y.2.2.2.2.1 y.2.2.2.2.2.1/\y.2.1<=10000000/\LoopT l (jw l) y.2.2.2.2.1 y.2.2.2.2.2.1 (T+2) y.1 y.2.1 y.2.2.1 y.2.2.2.1 y.2.2.2.2.2.2) (λy=>y.1) (l.length+1,0,[],[],O2,w2,⟨l,0,0,0,0,0,nS,nS,nS,nS,false,false⟩) ⟨e9,f5,rfl,rfl,rfl,rfl,d',f7,by dsimp only;omega,.inl ⟨by dsimp only;omega,rfl,by dsimp only;omega,by rw[f9];rfl,PY _ _ _ _ _ _,rfl,by simp,λi hi=>absurd hi (by simp)⟩⟩;rintro⟨n,fr,ts,xs,O1,w3,s⟩ ⟨a2,a3,a5,c8,c7,b6,a1,d0,f4,e8⟩;dsimp only at a2 a3 a5 c8 c7 b6 a1 d0 f4 e8 ⊢
 rcases e8 with⟨c9,he,e4,b3,a0⟩|⟨c9,he,b3,a0⟩|⟨p,e,c6,d7,b0,b3⟩
 ·obtain⟨n,rfl⟩:∃m,n=m+1:=⟨n-1,by omega⟩
  have b4:dq xs.length (eR (l.drop fr))≠.other:=by
   have:=nm (n:=n) (acc:=ts) (fr:=fr) (r:=l.drop fr) (by rw[b3];exact e')
   rwa[a0.2.1]at this
  have g0:(eR (l.drop fr)).length<=l.length-fr:=by
   have:=(LD (l:=l.drop fr) (λb=>!(b==10))).length_le;simpa[eR]using this
  have q5:=a3.q5;rw[he]at q5;refine zg ?_;refine zvG (cK ln rfl) ?_;apply ax (d:=21) rfl (b':=true) ((decide_eq_true zo));apply fe rfl;apply zv (ND rfl);apply fe rfl;apply zv (ak rfl);apply fe rfl;apply zv (RV.fa rfl);apply fe rfl;apply zv (RV.fa rfl);apply fe rfl;refine zvG (RV.ld q5 rfl) ?_;apply zTG rfl rfl;refine zvG (cK ln rfl) ?_;apply zv (lh ln rfl rfl fr rfl c9);apply zc PE (ej (l.drop fr) 10 w3);rintro v w9 ⟨rfl,e3⟩;rw[e3];clear e3 w9
  cases hf:(l.drop fr).findIdx? (· == 10)with
  |none=>
   have hi:uw (l.drop fr) 10 = -1:=by unfold uw;rw[hf]
   have e5:=congrArg List.length (By hf);rw[List.length_drop]at e5;rw[hi,show((l.length:Nat):Int)=((fr+(eR (l.drop fr)).length:Nat):Int)from by omega];refine zg ?_;apply zFG rfl rfl;apply zc call80 (rM B O1 w3 (T+1) (T+2) rb s fr (fr+(eR (l.drop fr)).length) (eR (l.drop fr)) xs d0 zo zo zo zo (by rw[a5];omega) (by rw[a5];omega) he b6 (by rw[a5];exact vE l fr) (λc hc=>ha c (P3 ((LD (l:=l.drop fr) _).subset hc))) a0.1 a0.2.2.1 b4 a3);rintro v w4 e1;obtain⟨O4,s4,n4,d2,d1,b9,e0,d8,g1,g2,g3,g4,a',e2⟩:=LoopT.next c9 e4 b3 zo zo a0 e1;have d3:=Ln a2 b9 zo zo;have b2:=a1.J (b9.mono (λ_ h=>by rcases h with h|h<;>rw[h]<;>omega) a6);refine zg ?_;refine zvG (MZ rfl rfl (MJ zo)) ?_;refine zx (n4,fr+(eR (l.drop fr)).length+1,d2,d1,O4,w4,s4) ⟨d3,d8,g1.J a5,g2.J c8,g3.J c7,g4.J b6,b2,e0,by dsimp only;omega,e2⟩ a'
  |some k=>
   have hi:uw (l.drop fr) 10=(k:Nat):=by unfold uw;rw[hf]
   have e5:=Bx hf;rw[hi];refine zg ?_;apply zTG rfl ((decide_eq_true zo));refine zvG (MZ rfl rfl (MJ zo)) ?_;rw[show(fr:Int)+((k:Nat):Int)=((fr+(eR (l.drop fr)).length:Nat):Int)from by omega];apply zc call80 (rM B O1 w3 (T+1) (T+2) rb s fr (fr+(eR (l.drop fr)).length) (eR (l.drop fr)) xs d0 zo zo zo zo (by rw[a5];omega) (by rw[a5];omega) he b6 (by rw[a5];exact vE l fr) (λc hc=>ha c (P3 ((LD (l:=l.drop fr) _).subset hc))) a0.1 a0.2.2.1 b4 a3);rintro v w4 e1;obtain⟨O4,s4,n4,d2,d1,b9,e0,d8,g1,g2,g3,g4,a',e2⟩:=LoopT.next c9 e4 b3 zo zo a0 e1;have d3:=Ln a2 b9 zo zo;have b2:=a1.J (b9.mono (λ_ h=>by rcases h with h|h<;>rw[h]<;>omega) a6);refine zg ?_;refine zvG (MZ rfl rfl (MJ zo)) ?_;refine zx (n4,fr+(eR (l.drop fr)).length+1,d2,d1,O4,w4,s4) ⟨d3,d8,g1.J a5,g2.J c8,g3.J c7,g4.J b6,b2,e0,by dsimp only;omega,e2⟩ a'
 ·have q5:=a3.q5;rw[he]at q5;refine zg ?_;refine zvG (cK ln rfl) ?_;apply ax (d:=21) rfl (b':=false) ((decide_eq_false zo));rw[b3];have q6:=a3.q6;rw[c8]at q6;have q7:=a3.q7;rw[c7]at q7;have q8:=a3.q8;have f3:=a0.1.one;refine zg ?_;apply bh rfl rfl;apply Qj;apply bW;apply bW;apply dO;apply aF;apply PK;apply PK;apply Q8;apply zv (ND rfl);apply zv (ak rfl);apply zv (RV.fa rfl);apply zv (RV.fa rfl);refine zvG (RV.ld q5 rfl) ?_;apply zFG rfl rfl;apply zv (ah (us:=[nS,nS,s.ru]) (Ci q6 q7 q8) (Pg _) (MY _) rfl);apply zsb (us:=#[nS,nS,s.ru]) a2 (MY _) (by simp only[Lq,f3];rfl);have a8:=a2.setRow (us:=#[nS,nS,s.ru]);have a4:Ly (λk=>k=T) O1 w3 O1 (w3.setRow xb #[nS,nS,s.ru]):=Li zo a2.tag rfl;have b1:=a1.J (a4.mono (λ_ h=>M6 h.symm) a6);have a7:=a0.1.U a4 zo zo;refine zg ?_;refine cV rfl rfl rfl rfl a8.V (Pg _) (MY _) ⟨aD b1 c',xs,s.ru,rfl,a7.sl,a7.freeT zo (λb=>by have:=hT b;omega) (d0.U a4) b1,a0.2.1,a0.2.2.1,λi hi=>((a0.2.2.2 i hi).U a4).weak (λb e=>b1.z0 b e)⟩
 rw[b3];have q5:=a3.q5;rw[d7]at q5;have q4:=a3.q4;rw[b0]at q4;have d6:((e==0):Bool)=false:=by simpa using c6
 have b5:((e != 0):Bool)=true:=by simpa using c6
 cases e6:decide ((fr:Int)<=(l.length:Int))with
 |false=>
  refine zg ?_;refine zvG (cK ln rfl) ?_
  apply ax (d:=21) rfl (b':=false) e6;refine zg ?_
  apply bh rfl rfl;apply Qj
  apply bW;apply bW
  apply dO;apply aF
  apply PK;apply PK
  apply Q8;apply zv (ND rfl)
  apply zv (ak rfl);apply zv (RV.fa rfl)
  apply zv (RV.fa rfl);refine zvG (RV.ld q5 rfl) ?_
  apply bp rfl b5;have d4:w3.drew.cell? ⟨rb,4,none⟩=some (nI (p:Nat)):=q4;have d5:w3.drew.cell? ⟨rb,5,none⟩=some (nI e):=q5;refine zg ?_
  apply aN (λW=>W.cell? ⟨rb,4,none⟩=some (nI (p:Nat))/\W.cell? ⟨rb,5,none⟩=some (nI e)) 14 rfl zk;refine zin ⟨d4,d5⟩ λzS=>?_
  apply zr 0 rfl zS (λ_=>aH K5 (NH _) rfl (by first|rfl|(simp only[Lq,M5];rfl)) rfl rfl);apply zrm 1 rfl zS rfl
  apply zr 2 rfl zS (λ_=>ak rfl);apply zrf 3 rfl zS rfl
  apply zrf 4 rfl zS rfl;apply zt 5 rfl zS (λw1 a9=>RV.ld a9.1 rfl)
  apply zrm 6 rfl zS rfl;apply zr 7 rfl zS (λ_=>ak rfl)
  apply zrf 8 rfl zS rfl;apply zrf 9 rfl zS rfl
  apply zt 10 rfl zS (λw1 a9=>RV.ld a9.2 rfl);apply LN 11 zk rfl
  apply zsa (us:=#[nS,nS,nS]) a2.drew (MY _);have a8:=Lp (us:=#[nS,nS,nS]) a2.drew;have a4:Ly (λk=>k=T) O1 w3.drew O1 (w3.drew.setRow xb #[nS,nS,nS]):=Li zo a2.tag rfl;have b7:=(M0 a3).U a4 zo zo;have z5:=b7.q5;rw[d7]at z5;have z4:=b7.q4;rw[b0]at z4;refine zg ?_
  refine zaf ⟨z4,z5⟩ λzS=>?_
  apply zra 12 rfl zS rfl;apply zra 13 rfl zS rfl
  apply MD zk;refine zg ?_
  refine cV rfl rfl rfl rfl a8.V (Pg _) (MY _) ⟨aD ((a1.drew).J (a4.mono (λ_ h=>M6 h.symm) a6)) c',rfl,c6⟩
 |true=>
  refine zg ?_;refine zvG (cK ln rfl) ?_
  apply ax (d:=21) rfl (b':=true) e6;refine zg ?_
  refine zvG (RV.ld q5 rfl) ?_;apply zFG rfl d6
  refine zvG (RV.ld q5 rfl) ?_;apply bp rfl b5
  have d4:w3.drew.cell? ⟨rb,4,none⟩=some (nI (p:Nat)):=q4;have d5:w3.drew.cell? ⟨rb,5,none⟩=some (nI e):=q5;refine zg ?_;apply aN (λW=>W.cell? ⟨rb,4,none⟩=some (nI (p:Nat))/\W.cell? ⟨rb,5,none⟩=some (nI e)) 14 rfl zk;refine zin ⟨d4,d5⟩ λzS=>?_
  apply zr 0 rfl zS (λ_=>aH K5 (NH _) rfl (by first|rfl|(simp only[Lq,M5];rfl)) rfl rfl);apply zrm 1 rfl zS rfl
  apply zr 2 rfl zS (λ_=>ak rfl);apply zrf 3 rfl zS rfl
  apply zrf 4 rfl zS rfl;apply zt 5 rfl zS (λw1 a9=>RV.ld a9.1 rfl)
  apply zrm 6 rfl zS rfl;apply zr 7 rfl zS (λ_=>ak rfl)
  apply zrf 8 rfl zS rfl;apply zrf 9 rfl zS rfl
  apply zt 10 rfl zS (λw1 a9=>RV.ld a9.2 rfl);apply LN 11 zk rfl
  apply zsa (us:=#[nS,nS,nS]) a2.drew (MY _);have a8:=Lp (us:=#[nS,nS,nS]) a2.drew;have a4:Ly (λk=>k=T) O1 w3.drew O1 (w3.drew.setRow xb #[nS,nS,nS]):=Li zo a2.tag rfl;have b7:=(M0 a3).U a4 zo zo;have z5:=b7.q5;rw[d7]at z5;have z4:=b7.q4;rw[b0]at z4;refine zg ?_
  refine zaf ⟨z4,z5⟩ λzS=>?_
  apply zra 12 rfl zS rfl;apply zra 13 rfl zS rfl
  apply MD zk;refine zg ?_
  refine cV rfl rfl rfl rfl a8.V (Pg _) (MY _) ⟨aD ((a1.drew).J (a4.mono (λ_ h=>M6 h.symm) a6)) c',rfl,c6⟩
def lg(l:List Int)(i:Nat):Bool:=(decide (nth l i<0)||decide (36<=nth l i))||(decide ((0:Int)<(i:Int))&&decide (nth l i<=nth l (i-1)))
def dQ(l:List Int):Bool:=!(jZ (lg l) l.length)
def lM(t:R3):Bool:=(aZ t.1&&aZ t.2.1)&&(dG t.2.1==0)
def KR(ts:List R3):Bool:=!(jZ (λi=>!(lM (nth ts i))) ts.length)
def dE(li lk:List Int)(ts:List R3):Bool:=((decide ((ts.length:Int)<=40)&&dQ li)&&dQ lk)&&KR ts
def uZ(l:List Int)(sv:Lj)(w:ka)(h:Sl (λc:Int=>[nI c]) 1 w sv l):N2 M4 46 [sv] w λv w'=>v=.bool (dQ l)/\w'=w:=by
 have a5:=h.len_le;apply Ll func46 ntmps46 rfl rfl;refine zh ?_;apply zlp (λx:Nat=>[(0,sv),(5,sv),(6,nI l.length),(7,nI x)]) (λx=>w) (λx=>x<=l.length/\∀i,i<x->lg l i=false) (λx=>l.length-x) 0 ⟨M9 _,λi hi=>absurd hi (MQ i)⟩;rintro k ⟨hk,a3⟩;refine zh ?_;refine zC ?_ ?_
 ·intro a0;replace a0:k<l.length:=dT a0;refine zh ?_;refine zvH (RV.ld (h.ld a0) rfl) ?_;refine bR (λw1=>_=w1) (decide (36<=nth l k)) 2 rfl rfl rfl rfl rfl rfl ?_ ?_
  ·intro a1;refine zh ?_;refine nE 14 3 rfl a1
  rintro _ rfl;refine zh ?_;refine bR (λw1=>_=w1) ((decide ((0:Int)<(k:Int))&&decide (nth l k<=nth l (k-1)))) 11 rfl rfl rfl rfl rfl rfl ?_ ?_
  ·intro a2;refine zh ?_
   cases a6:decide ((0:Int)<(k:Int))with
   |true=>
    have a7:=of_decide_eq_true a6;apply ax (d:=21) rfl (b':=true) rfl;refine zh ?_;rw[show(k:Int)-1=((k-1:Nat):Int)from by omega];refine zh ?_;refine zvH (RV.ld (h.ld (i:=k-1) zo) rfl) ?_;refine nE 18 13 rfl a2
   |false=>
    apply ax (d:=21) rfl (b':=false) rfl;refine zh ?_
    refine nE 18 13 rfl a2
  rintro _ rfl;refine zh ?_;refine zC ?_ ?_
  ·intro hy;refine zh ?_;refine af rfl rfl ⟨by unfold dQ;rw[dj.2 ⟨k,a0,hy⟩];rfl,rfl⟩
  intro hy;refine zh ?_;refine zxd (k+1) ⟨a0,λi hi=>(Mz.1 hi).elim (a3 i) (λe=>by rw[e];exact hy)⟩
 intro a4;replace a4:l.length<=k:=dF a4;refine zh ?_;refine af rfl rfl ⟨by unfold dQ;rw[bD.2 λi hi=>a3 i zo];rfl,rfl⟩
abbrev nr(x:X3):Lj:=.agg (cB x).toArray
def jO{x:X3}(h:Mr O w i b (cB x).toArray E):(∀W,MS w W->∀(q:Nat) (u:Lj),(aY x.1)[q]? = some u->W.cell? (nA b q)=some u)/\(∀W,MS w W->∀(q:Nat) (u:Lj),(aY x.2.1)[q]? = some u->W.cell? ((nA b 3).add q)=some u)/\(∀W,MS w W->W.cell? (nA b 6)=some (.bool x.2.2))/\(∀W,MS w W->∀(q:Nat) (u:Lj),(cB x)[q]? = some u->W.cell? (nA b q)=some u):=by
 obtain⟨x1,x2,brk⟩:=x;refine⟨λW hE q u hu=>hE.cell (h.V q u ?_),λW hE q u hu=>hE.cell (kO h q u hu),λW hE=>hE.cell (h.V 6 _ rfl),λW hE q u hu=>hE.cell (h.V q u hu)⟩;simp only[aY]at hu
 match q,hu with
 |0,hu=>exact hu
 |1,hu=>exact hu
 |2,hu=>exact hu
def Rt.ext{O:Nat->Nat}{w w':ka}{t:R3}{x:X3}(h:Rt O w t x)(e:MS w w'):Rt O w' t x:=⟨h.1.ext e,h.2.1.ext e,h.2.2⟩
def Bc(t:R3)(x:X3)(w:ka)(h:Rt (λ_=>0) w t x):N2 M4 49 [nr x] w λv w'=>v=.bool (lM t)/\MS w w':=by
 have hx1o:=h.1.one;have hx2o:=h.2.1.one;have a7:=cm (b:=x.2.2) hx1o hx2o;apply Ll func49 ntmps49 rfl rfl;refine zh ?_;apply aI (aw w) 1 zo rfl rfl;intro xb w1 O1 a6 a8 a9 a4;obtain⟨lc,rc,bc,_⟩:=jO a6;refine zh ?_;apply zv (ah (us:=aY x.1) (lc w1 (Mp _)) (Lk _) (ix _) rfl);apply zc PD (gS t.1 x.1 w1 (h.1.ext a4));rintro v w2 ⟨rfl,a3⟩;refine zh ?_;refine aT (MS w1) (aZ t.2.1) 3 a3 rfl rfl rfl rfl rfl ?_ ?_
 ·intro a1;refine zh ?_;refine zvH (ah (us:=aY x.2.1) (rc _ a3) (Lk _) (ix _) rfl) ?_;apply zc PD (gS t.2.1 x.2.1 _ (h.2.1.ext (a4.J a3)));rintro v w3 ⟨rfl,a0⟩;refine zh ?_;refine nE 6 4 (a3.J a0) a1
 intro w3 a0;refine zh ?_;refine aT (MS w1) ((dG t.2.1==0)) 4 a0 rfl rfl rfl rfl rfl ?_ ?_
 ·intro a2;refine zh ?_;refine zvH (ah (us:=aY x.2.1) (rc _ a0) (Lk _) (ix _) rfl) ?_;apply zc PW (ma t.2.1 x.2.1 _ (h.2.1.ext (a4.J a0)));rintro v w4 ⟨rfl,a5⟩;refine zh ?_;refine nE 11 5 (a0.J a5) a2
 intro w4 a5;refine zh ?_;refine af rfl rfl ⟨rfl,a4.J a5⟩
def Bi(t:R3)(x:X3)(w:ka)(h:Rt (λ_=>0) w t x):N2 M4 48 [nr x] w λv w'=>v=.bool (!(lM t))/\MS w w':=by
 have hx1o:=h.1.one;have hx2o:=h.2.1.one;have a2:=cm (b:=x.2.2) hx1o hx2o;apply Ll func48 ntmps48 rfl rfl;refine zh ?_;apply aI (aw w) 1 zo rfl rfl;intro xb w1 O1 a1 a4 a5 a0;obtain⟨_,_,_,ac⟩:=jO a1;refine zh ?_;apply zv (ah (us:=cB x) (ac w1 (Mp _)) (NN _) (N6 _) rfl);apply zc call49 (Bc t x w1 (h.ext a0));rintro v w2 ⟨rfl,a3⟩;refine zh ?_;refine af rfl rfl ⟨rfl,a0.J a3⟩
def nG{F:FuncId}(hF:∀(args:Array Lj) (w:ka),(callFunc F args).run M4 w=.ok (.enter F args) w)(cs:Array Lj)(l:List X3)(sv:Lj)(q:Nat->Bool)(w:ka)(h:Sl cB 7 w sv l) 
  (hq:∀i,i<l.length->∀w',MS w w'->N2 M4 F ([nr (nth l i)]++cs.toList) w' λv w''=>v=.bool (q i)/\MS w' w'') :
  N2 M4 83 [sv,.func (.func F) #[] cs] w λv w'=>v=nI (ey q l.length)/\MS w w':=by
 have hl:=h.len_le;apply Ll func83 ntmps83 rfl rfl;refine zh ?_;apply zlp (λx:Nat×ka=>[(0,sv),(1,.func (.func F) #[] cs),(7,nI l.length),(8,nI x.1)]) (λx=>x.2) (λx=>x.1<=l.length/\MS w x.2/\∀i,i<x.1->q i=false) (λx=>l.length-x.1) (0,w) ⟨M9 _,Mp _,λi hi=>absurd hi (MQ i)⟩;rintro⟨k,w1⟩ ⟨hk,hE,a1⟩;dsimp only at hk hE a1 ⊢;have h1:=h.ext hE;refine zh ?_;refine zC ?_ ?_
 ·intro a0;replace a0:k<l.length:=dT a0;refine zh ?_;apply zv (ah (us:=cB (nth l k)) (λj u hu=>h1.cell a0 hu) (NN _) (N6 _) rfl);apply eo rfl hF rfl (hq k a0 w1 hE) rfl;rintro v w2 ⟨rfl,a3⟩;refine zh ?_;refine zC ?_ ?_
  ·intro hy;refine zh ?_;refine af rfl rfl ⟨by rw[cX a0 hy a1],hE.J a3⟩
  intro hy;refine zh ?_;refine zxd (k+1,w2) ⟨a0,hE.J a3,λi hi=>(Mz.1 hi).elim (a1 i) (λe=>by rw[e];exact hy)⟩
 intro a2;replace a2:l.length<=k:=dF a2;refine zh ?_;refine af rfl rfl ⟨by rw[cU λi hi=>a1 i zo],hE⟩
def ku{F:FuncId}(hF:∀(args:Array Lj) (w:ka),(callFunc F args).run M4 w=.ok (.enter F args) w)(cs:Array Lj)(l:List X3)(sv:Lj)(q:Nat->Bool)(w:ka)(h:Sl cB 7 w sv l) 
  (hq:∀i,i<l.length->∀w',MS w w'->N2 M4 F ([nr (nth l i)]++cs.toList) w' λv w''=>v=.bool (q i)/\MS w' w'') :
  N2 M4 47 [sv,.func (.func F) #[] cs] w λv w'=>v=.bool (jZ q l.length)/\MS w w':=by
 apply Ll func47 ntmps47 rfl rfl;refine zh ?_
 apply zc call83 (nG hF cs l sv q w h hq);rintro v w1 ⟨rfl,hE⟩;refine zh ?_
 refine af rfl rfl ⟨by rw[firstN_any],hE⟩
def Bg(li lk:List Int)(ts:List R3)(xs:List X3)(ig kp ru:Lj)(w:ka)(hi:Sl (λc:Int=>[nI c]) 1 w ig li)(hk:Sl (λc:Int=>[nI c]) 1 w kp lk)(hr:Sl cB 7 w ru xs)(hl:ts.length=xs.length)(hx:∀i,i<xs.length->Rt (λ_=>0) w (nth ts i) (nth xs i)):
  N2 M4 22 [zP ig kp ru] w λv w'=>v=.bool (dE li lk ts)/\MS w w':=by
 have b0:=hi.one;have a':=hk.one;have a9:=hr.one;apply Ll func22 ntmps22 rfl rfl;refine zh ?_;apply aI (aw w) 1 zo rfl rfl;intro xb w1 O1 a5 b1 b2 a4;have c0:w1.cell? (nA xb 0)=some ig:=a5.cell 0 rfl;have c1:w1.cell? (nA xb 1)=some kp:=a5.cell 1 rfl;have c2:w1.cell? (nA xb 2)=some ru:=a5.cell 2 rfl;have a7:=hr.ext a4;refine zh ?_;refine aT (λw1=>_=w1) (dQ li) 3 rfl rfl rfl rfl rfl rfl ?_ ?_
 ·intro a1;refine zh ?_;apply zc call46 (uZ li ig w1 (hi.ext a4));rintro v w9 ⟨rfl,a0⟩;rw[a0];clear a0 w9;refine zh ?_;refine nE 7 4 rfl a1
 rintro _ rfl;refine zh ?_;refine aT (λw1=>_=w1) (dQ lk) 3 rfl rfl rfl rfl rfl rfl ?_ ?_
 ·intro a2;refine zh ?_;apply zc call46 (uZ lk kp w1 (hk.ext a4));rintro v w9 ⟨rfl,a0⟩;rw[a0];clear a0 w9;refine zh ?_;refine nE 12 4 rfl a2
 rintro _ rfl;refine zh ?_;have a8:KR ts = !(jZ (λi=>!(lM (nth ts i))) xs.length):=by unfold KR;rw[hl]
 refine aT (MS w1) ((!(jZ (λi=>!(lM (nth ts i))) xs.length))) 4 (Mp w1) rfl rfl rfl rfl rfl ?_ ?_
 ·intro a3;refine zh ?_;apply zc call47 (ku call48 #[] xs ru (λi=>!(lM (nth ts i))) w1 a7 (λi hi w' hE=>Bi (nth ts i) (nth xs i) w' ((hx i hi).ext (a4.J hE))));rintro v w2 ⟨rfl,a6⟩;refine zh ?_;refine nE 17 5 a6 a3
 intro w2 a6;refine zh ?_;refine af rfl rfl ⟨by unfold dE;rw[hl,a8],a4.J a6⟩
abbrev Ir:List UInt8:=[67,82,32,33,32,76,70]
def JH(q:Nat->Bool)(n:Nat):Bool:=!(jZ (λi=>!(q i)) n)
def xC:JH q n=true↔∀i,i<n->q i=true:=by
 unfold JH;rw[Bool.not_eq_true',bD];simp
def GZ(h:∀i,i<n->q i=true):JH q n=true:=xC.2 h
def JG(hk:k<n)(h:q k=false):JH q n=false:=by
 cases hq:JH q n with
 |false=>rfl
 |true=>exact absurd (xC.1 hq k hk) (by rw[h];decide)
def gQ:∀(n:Nat) (t:Nd),nsz t<=n->∀(x:N3) (w:ka) (eQ:Nat),Nt (λ_=>0) w t x->eQ<=1000000->N2 M4 16 [nv x,nI (eQ:Int)] w λv w'=>v=nI ((min (nsz t) (eQ+1):Nat):Int)/\MS w w'
 |0,t,hn=>by have:=da t;omega
 |n+1,.mk k c kids,hn=>by
  intro x w eQ h hm;obtain⟨xs,hs,hf,hl,hk⟩:=h.kids;simp only[PV]at hl hk;have b4:=du kids;simp only[nsz]at hn ⊢;have a9:=hs.len_le;apply Ll func16 ntmps16 rfl rfl;refine zh ?_;apply aI (aw w) 1 zo rfl rfl;intro xb w1 O1 a5 b7 b8 a3;have c2:w1.cell? (nA xb 2)=some x.2.2:=a5.cell 2 rfl;have a8:=hs.ext a3;refine zh ?_;apply zlp (λy:Nat×ka=>[(1,nI (eQ:Int)),(2,nP xb),(5,nI ((min (cM (kids.take y.1)+1) (eQ+1):Nat):Int)),(6,nI y.1)]) (λy=>y.2) (λy=>y.1<=xs.length/\MS w1 y.2) (λy=>xs.length-y.1) (0,w1) ⟨M9 _,Mp _⟩;rintro⟨i,w2⟩ ⟨hi,a0⟩;dsimp only at hi a0 ⊢;have a7:=a8.ext a0;have d2:=a0.cell c2;have a6:=bY kids i;refine zh ?_;refine aT (λw1=>_=w1) (decide (((min (cM (kids.take i)+1) (eQ+1):Nat):Int)<=(eQ:Int))) 3 rfl rfl rfl rfl rfl rfl ?_ ?_
  ·intro a1;refine zh ?_;refine nE 12 4 rfl a1
  rintro _ rfl;refine zh ?_;refine zC ?_ ?_
  ·intro hc;simp only[Lz,decide_eq_true_eq]at hc;obtain⟨b6,b5⟩:=hc;have a2:i<xs.length:=zo;have b2:=di kids i zo;have b1:=bY kids (i+1);have a4:=(hk i a2).ext (a3.J a0);have b0:=a4.one;have b3:=bK kids i zo;refine zh ?_;refine zvH (ah (us:=aY (nth xs i)) (λj u hu=>a7.cell a2 hu) (Q6 _) (NS _) rfl) ?_;rw[show(eQ:Int)-((min (cM (kids.take i)+1) (eQ+1):Nat):Int)=((eQ-(cM (kids.take i)+1):Nat):Int)from by omega];apply zc Qf (gQ n (nth kids i) zo (nth xs i) w2 (eQ-(cM (kids.take i)+1)) a4 zo);rintro v w5 ⟨rfl,a'⟩;refine zh ?_;rw[show((min (cM (kids.take i)+1) (eQ+1):Nat):Int)+((min (nsz (nth kids i)) (eQ-(cM (kids.take i)+1)+1):Nat):Int)=((min (cM (kids.take (i+1))+1) (eQ+1):Nat):Int)from by omega];refine zxd (i+1,w5) ⟨a2,a0.J a'⟩
  intro hc;simp only[NX,decide_eq_false_iff_not]at hc;have he:min (cM (kids.take i)+1) (eQ+1)=min (cM kids+1) (eQ+1):=by
   rcases hc with hc|hc
   ·obtain rfl:i=xs.length:=zo;rw[<-hl,List.take_length]
   omega
  refine zh ?_;refine af rfl rfl ⟨by rw[he],a3.J a0⟩
abbrev encI(c:Int):List Lj:=[nI c]
abbrev aL(n:Nat):List Lj:=[nI (n:Int)]
def JM{l:List Nat}(h:Sl aL 1 w v l):Sl encI 1 w v (l.map fun(n:Nat)=>(n:Int)):=
 ⟨by simpa using h.shape,λi hi j u hu=>h.cells i (by simpa using hi) j u (by simpa using hu)⟩
def BC(l:List Int)(c:Int)(sv:Lj)(w:ka)(h:Sl encI 1 w sv l):N2 M4 175 [sv,nI c] w λv w'=>v=nI (ey (λi=>c==nth l i) l.length)/\w'=w:=by
 have hl:=h.len_le;apply Ll func175 ntmps175 rfl rfl;refine zh ?_;apply zlp (λx:Nat=>[(0,sv),(1,nI c),(7,nI l.length),(8,nI x)]) (λx=>w) (λx=>x<=l.length/\∀i,i<x->(c==nth l i)=false) (λx=>l.length-x) 0 ⟨M9 _,λi hi=>absurd hi (MQ i)⟩;rintro k ⟨hk,a1⟩;refine zh ?_;refine zC ?_ ?_
 ·intro a0;replace a0:k<l.length:=dT a0;have m1:=h.ld a0;refine zh ?_;refine zC ?_ ?_
  ·intro hy;refine zh ?_;refine af rfl rfl ⟨by rw[cX (q:=λi=>c==nth l i) a0 hy a1],rfl⟩
  intro hy;refine zh ?_;refine zxd (k+1) ⟨a0,λi hi=>(Mz.1 hi).elim (a1 i) (λe=>by rw[e];exact hy)⟩
 intro a2;replace a2:l.length<=k:=dF a2;refine zh ?_;refine af rfl rfl ⟨by rw[cU (q:=λi=>c==nth l i) λi hi=>a1 i zo],rfl⟩
def tX(l:List Int)(c:Int)(sv:Lj)(w:ka)(h:Sl encI 1 w sv l):N2 M4 155 [sv,nI c] w λv w'=>v=.bool (decide (c∈l))/\w'=w:=by
 have he:jZ (λi=>c==nth l i) l.length=decide (c∈l):=by
  rw[jD (p:=λx=>c==x),Nr];simp[List.any_eq_true]
 apply Ll func155 ntmps155 rfl rfl;refine zh ?_
 apply zc call175 (BC l c sv w h);rintro v w9 ⟨rfl,a0⟩;rw[a0];clear a0 w9;refine zh ?_
 refine af rfl rfl ⟨congrArg P7 (firstN_any.J he),rfl⟩
def tW(l:List Nat)(c:Nat)(sv:Lj)(w:ka)(h:Sl aL 1 w sv l):N2 M4 155 [sv,nI (c:Nat)] w λv w'=>v=.bool (l.contains c)/\w'=w:=by
 refine(tX _ c sv w (JM h)).mono λv w' ⟨h1,h2⟩=>⟨?_,h2⟩
 rw[h1];congr 1;rw[Nr];simp only[decide_eq_true_eq,PM,List.contains_iff_mem]
 constructor
 ·rintro⟨a,ha,e⟩;have e:a=c:=zo;rw[<-e];exact ha
 exact λhc=>⟨c,hc,rfl⟩
structure Tx(w:ka)(v:Lj)(li lk:List Int)(ts:List R3):Prop where
 ex:∃ig kp ru xs,v=zP ig kp ru/\Sl encI 1 w ig li/\Sl encI 1 w kp lk/\Sl cB 7 w ru xs/\ts.length=xs.length/\∀i,i<xs.length->Rt (λ_=>0) w (nth ts i) (nth xs i)
def Tx.ext{w w':ka}{v:Lj}{li lk:List Int}{ts:List R3}(h:Tx w v li lk ts)(e:MS w w'):Tx w' v li lk ts:=by
 obtain⟨ig,kp,ru,xs,hv,h1,h2,h3,h4,h5⟩:=h;exact⟨ig,kp,ru,xs,hv,h1.ext e,h2.ext e,h3.ext e,h4,λi hi=>(h5 i hi).ext e⟩
def Few(li lk:List Int)(ts:List R3):Prop:=ts.length<=45/\li.length<=40/\lk.length<=40/\∀i,i<ts.length->nsz (nth ts i).1<=150/\nsz (nth ts i).2.1<=150
def DD(li lk:List Int)(ts:List R3)(v:Lj)(w:ka)(h:Tx w v li lk ts):N2 M4 15 [v] w λu w'=>∃g,u=.bool g/\MS w w'/\(g=false->Few li lk ts):=by
 obtain⟨ig,kp,ru,xs,rfl,h1,h2,h3,h4,h5⟩:=h;have o1:=h1.one;have o2:=h2.one;have o3:=h3.one;apply Ll func15 ntmps15 rfl rfl;refine zh ?_;apply aI (aw w) 1 zo rfl rfl;intro xb w1 O1 a8 b9 b' a5;have c0:w1.cell? (nA xb 0)=some ig:=a8.cell 0 rfl;have c1:w1.cell? (nA xb 1)=some kp:=a8.cell 1 rfl;have c2:w1.cell? (nA xb 2)=some ru:=a8.cell 2 rfl;have g1:=h1.ext a5;have g2:=h2.ext a5;have g3:=h3.ext a5;refine zh ?_;refine bR (λw1=>_=w1) (decide ((40:Int)<(li.length:Int))) 4 rfl rfl rfl rfl rfl rfl ?_ ?_
 ·intro a1;refine zh ?_;refine nE 9 5 rfl a1
 rintro _ rfl;refine zh ?_;refine bR (λw1=>_=w1) (decide ((40:Int)<(lk.length:Int))) 4 rfl rfl rfl rfl rfl rfl ?_ ?_
 ·intro a2;refine zh ?_;refine nE 15 5 rfl a2
 rintro _ rfl;refine zh ?_;refine zC ?_ ?_
 ·intro hc;refine zh ?_;refine af rfl rfl ⟨true,rfl,a5,λe=>by cases e⟩
 intro hc;simp only[N9,decide_eq_false_iff_not]at hc;obtain⟨⟨b8,b7⟩,b6⟩:=hc;refine zh ?_;apply zlp (λy:Nat×Nat×ka=>[(1,nP xb),(3,nI (y.2.1:Nat)),(4,nI y.1)]) (λy=>y.2.2) (λy=>y.1<=xs.length/\y.2.1<=302*y.1/\MS w1 y.2.2/\∀j,j<y.1->min (nsz (nth ts j).1) 151+min (nsz (nth ts j).2.1) 151<=y.2.1) (λy=>xs.length-y.1) (0,0,w1) ⟨M9 _,by dsimp only;omega,Mp _,λj hj=>absurd hj (MQ j)⟩;rintro⟨i,s,w2⟩ ⟨hi,a6,a4,a9⟩;dsimp only at hi a6 a4 a9 ⊢;have d2:=a4.cell c2;have a7:=g3.ext a4;refine zh ?_;refine aT (λw1=>_=w1) (decide ((s:Int)<=150)) 2 rfl rfl rfl rfl rfl rfl ?_ ?_
 ·intro b1;refine zh ?_;refine nE 26 3 rfl b1
 rintro _ rfl;refine zh ?_;refine zC ?_ ?_
 ·intro hc;simp only[Lz,decide_eq_true_eq]at hc;have a3:i<xs.length:=zo;have b0:=(h5 i a3).ext (a5.J a4);have b3:∀W,MS w2 W->∀(j:Nat) (u:Lj),(aY (nth xs i).1)[j]? = some u->W.cell? (((adr ru 7 i).add 0).add j)=some u:=λW hE j u hu=>by
   have e:(((adr ru 7 i).add 0).add j)=(adr ru 7 i).add j:=by rw[NR,Nat.zero_add]
   rw[e];refine hE.cell (a7.cell a3 ?_);simp only[aY]at hu
   match j,hu with
   |0,hu=>exact hu
   |1,hu=>exact hu
   |2,hu=>exact hu
  have b2:∀W,MS w2 W->∀(j:Nat) (u:Lj),(aY (nth xs i).2.1)[j]? = some u->W.cell? (((adr ru 7 i).add 3).add j)=some u:=λW hE j u hu=>by
   have e:(((adr ru 7 i).add 3).add j)=(adr ru 7 i).add (3+j):=by rw[NR]
   rw[e];refine hE.cell (a7.cell a3 ?_);simp only[aY]at hu
   match j,hu with
   |0,hu=>exact hu
   |1,hu=>exact hu
   |2,hu=>exact hu
  refine zh ?_;apply AW (MS w2) zk zk ((Mp w2).drew)
  apply kG (λw1 a0=>ND rfl) rfl;apply kG (λw1 a0=>Nj 2 Q0 rfl rfl (sizeOf23 _) zd rfl) rfl
  apply kG (λw1 a0=>Ql (by first|exact a0.cell d2) (isAgg23 _) rfl) rfl;apply kG (λw1 a0=>ND rfl) rfl
  apply kG (λw1 a0=>Ni (a7.ext a0) Pf (sizeOf49 _) rfl rfl i rfl a3) rfl;apply kG (λw1 a0=>Nj 0 Pe rfl rfl (NS _) zd rfl) rfl
  apply kG (λw1 a0=>ah (us:=aY (nth xs i).1) (b3 _ a0) (Q6 _) (NS _) rfl) rfl;apply Qh Qf rfl (λw1 a0=>(gQ (nsz (nth ts i).1) (nth ts i).1 (L3 _) (nth xs i).1 _ 150 (b0.1.ext a0) zd).mono λv w' h=>⟨h.1,a0.J h.2⟩) rfl
  apply kG (λw1 a0=>MZ rfl rfl (MJ zo)) rfl;apply kG (λw1 a0=>Nj 2 Q0 rfl rfl (sizeOf23 _) zd rfl) rfl
  apply kG (λw1 a0=>Ql (by first|exact a0.cell d2) (isAgg23 _) rfl) rfl;apply kG (λw1 a0=>ND rfl) rfl
  apply kG (λw1 a0=>Ni (a7.ext a0) Pf (sizeOf49 _) rfl rfl i rfl a3) rfl;apply kG (λw1 a0=>Nj 3 Pe rfl rfl (NS _) zd rfl) rfl
  apply kG (λw1 a0=>ah (us:=aY (nth xs i).2.1) (b2 _ a0) (Q6 _) (NS _) rfl) rfl;apply Qh Qf rfl (λw1 a0=>(gQ (nsz (nth ts i).2.1) (nth ts i).2.1 (L3 _) (nth xs i).2.1 _ 150 (b0.2.1.ext a0) zd).mono λv w' h=>⟨h.1,a0.J h.2⟩) rfl
  apply kG (λw1 a0=>MZ rfl rfl (MJ zo)) rfl;apply kG (λw1 a0=>RV.assign rfl) rfl
  apply WQ.nil;intro w3 b4;refine zh ?_
  rw[show(s:Int)+((min (nsz (nth ts i).1) (150+1):Nat):Int)+((min (nsz (nth ts i).2.1) (150+1):Nat):Int)=((s+(min (nsz (nth ts i).1) 151+min (nsz (nth ts i).2.1) 151):Nat):Int)from by omega];refine zxd (i+1,s+(min (nsz (nth ts i).1) 151+min (nsz (nth ts i).2.1) 151),w3) ⟨a3,by dsimp only;omega,a4.J b4,λj hj=>(Mz.1 hj).elim (λh=>by have:=a9 j h;dsimp only;omega) (λe=>by dsimp only;rw[e];omega)⟩
 intro hc;simp only[NX,decide_eq_false_iff_not]at hc;have a':decide ((150:Int)<(s:Int))=false->Few li lk ts:=λe=>by
  have hs:=of_decide_eq_false e;have b5:i=xs.length:=zo;refine⟨zo,zo,zo,λj hj=>?_⟩;have:=a9 j zo;omega
 refine zh ?_;refine af rfl rfl ⟨decide ((150:Int)<(s:Int)),rfl,a5.J a4,a'⟩
end Go.Proofs.YtcfhbfflgnbacaaGreatDoor
namespace Go.VL
open Go.ChangeShapes Go.WideShapes Go.ChangeAt Go.RowKit Go.Deep
section
variable{H:Type}{enc:Ls×Lj→H}{P:Na}{w:ka}{base:Nat}{held:Bool}
def RdF.slice{a1:Nat}{t e:Ls}{sz:Nat}{cs:List Lj}{x:DataW H×List PX}(ht:P.underlying t=some (.slice e))(ce:P.cellsOf e=sz)(hz:0<sz)(h:MN enc P w base (λ_=>true) held a1 t cs=some x):
  ∃v xs,cs=[v]/\Sl (λc:List Lj=>c) sz w v xs/\∀c∈xs,c.length=sz/\∃n y,a1=n+1/\MN enc P w base (λ_=>true) held n e c=some y:=by
 rcases DataW.trod_slice ht h with⟨rfl,_⟩|⟨a,len,a',a6,a7,n,a8,rfl,rfl,hb,hl,hm,a3,a9,_,_⟩
 ·exact⟨_,[],rfl,⟨⟨none,0,rfl,L3 _,zo,λh=>absurd rfl h⟩,λi hi=>absurd hi (by simp)⟩,by simp⟩
 have hx:∀i,i<len->∃c:List Lj,w.cells? base (a.add (i*P.cellsOf e)) (P.cellsOf e)=some c/\∃y,MN enc P w base (λ_=>true) held n e c=some y:=λi hi=>by
  have:=a9 i hi;rw[LK zo]at this;obtain⟨c,hc,hy⟩:=Option.bind_eq_some_iff.1 this;exact⟨c,hc,_,hy⟩
 obtain⟨V,hV⟩:=choose_lt hx;rw[ce]at hV;have hc:∀i,i<len->∀j u,(V i)[j]? = some u->w.cell? (a.add (i*sz+j))=some u:=λi hi j u hu=>by
  obtain⟨_,a3,a0⟩:=Pa (hV i hi).1;have hj:j<sz:=by have:=(NF.1 hu).1;omega
  have:=a0 j hj;rw[NR]at this;rw[this,hu]
 have a2:∀i,i<len->(V i).length=sz:=λi hi=>(Pa (hV i hi).1).2.1
 have a4:((N4 len).map V).length=len:=by simp
 refine⟨_,(N4 len).map V,rfl,⟨⟨some a,a',by rw[a4],zo,by simpa[maxLen]using hm,λh=>?_⟩,λi hi j u hu=>?_⟩,λc a5=>?_⟩
 ·rw[a4]at h;have h0:0<(V 0).length:=by rw[a2 0 zo];exact hz
  have:=hc 0 zo 0 _ (LK h0);obtain⟨b,o,s⟩:=a;have hs:s=none:=by simpa[N0]using Pj this
  subst hs;exact⟨b,o,rfl⟩
 ·rw[a4]at hi;have h0:0<(V 0).length:=by rw[a2 0 zo];exact hz
  have h1:=hc 0 zo 0 _ (LK h0);obtain⟨b,o,s⟩:=a;have hs:s=none:=by simpa[N0]using Pj h1
  subst hs;simp only[Nm,Nc]at hu;have h2:=hc i hi j u hu;simp only[adr];have e1:((⟨b,o,none⟩:Qb).add (i*sz+j))=((⟨b,o+i*sz,none⟩:Qb).add j):=by
   simp only[N0];split<;>split<;>simp_all<;>omega
  rw[e1]at h2;exact h2
 simp only[PM,List.mem_range]at a5;obtain⟨i,hi,rfl⟩:=a5;obtain⟨_,y,hy⟩:=hV i hi;exact⟨a2 i hi,n,y,a8,hy⟩
def Sl.free[Inhabited α]{f:α->List Lj}(h:Sl f sz w v xs)(hf:∀a,f a≠[]):Free (λ_=>0) w v:=λa n c e hn=>by
 refine⟨rfl,?_⟩;obtain⟨a',c',e',_,_,_⟩:=h.shape;rw[e']at e
 cases e
 cases hq:f (nth xs 0)with
 |nil=>exact absurd hq (hf _)
 |cons u r=>
  have hc:=h.cell (i:=0) (j:=0) (u:=u) zo (by rw[hq];rfl);have:=NJ _ _ hc;subst e';have hb:((adr (.slice (some a) xs.length c) sz 0).add 0).block=a.block:=by simp only[adr,N0];split<;>rfl
  rw[hb]at this;exact this
end
end Go.VL
namespace Go.Proofs.YtcfhbfflgnbacaaGreatDoor
open Go.ChangeShapes Go.WideShapes Go.ChangeAt Go.RowKit
set_option maxRecDepth 100000
section
variable{H:Type}{enc:Ls×Lj→H}{w:ka}{base:Nat}{held:Bool}
def xW:∀(a0:Nat) (cs:List Lj) (x:DataW H×List PX),MN enc M4 w base (λ_=>true) held a0 47 cs=some x->∃(y:N3),cs=aY y/\∃t:Nd,Nt (λ_=>0) w t y
 |0,cs,x,h=>by simp[MN]at h
 |a0+1,cs,x,h=>by
  obtain⟨xs,m,a8,rfl,hl,a1,hf⟩:=DataW.trod_struct underlying47 h;obtain rfl:a0=m:=zo;have a6:cs.length=3:=hl.J zk;obtain⟨c0,c1,c2,rfl⟩:∃c0 c1 c2,cs=[c0,c1,c2]:=by
   match cs,a6 with
   |[a,b,c],_=>exact⟨a,b,c,rfl⟩
  have a7:xs.length=3:=a1;have f0:MN enc M4 w base (λ_=>true) held a0 3 [c0]=xs[0]?:=hf 0 _ rfl;have f1:MN enc M4 w base (λ_=>true) held a0 3 [c1]=xs[1]?:=hf 1 _ rfl;have f2:MN enc M4 w base (λ_=>true) held a0 45 [c2]=xs[2]?:=hf 2 _ rfl;rw[LK zo]at f0 f1 f2;obtain⟨n0,e0,_⟩:=Rd.int (enc:=enc) (w:=w) (base:=base) (held:=held) NI ⟨a0,_,f0⟩;obtain⟨n1,e1,_⟩:=Rd.int (enc:=enc) (w:=w) (base:=base) (held:=held) NI ⟨a0,_,f1⟩;obtain⟨v,ys,e2,hs,hy⟩:=RdF.slice (sz:=3) underlying45 zk zd f2;simp only[P5,and_true]at e0 e1 e2;subst e0 e1 e2
  obtain⟨zs,rfl,hz⟩:=yG (f:=aY) (R:=λy=>∃t:Nd,Nt (λ_=>0) w t y) ys (λc hc=>by
   obtain⟨_,n,y,hn,a4⟩:=hy c hc
   exact xW n c y a4)
  have a2:=hs.of_map;have a5:∀i,i<zs.length->∃t:Nd,Nt (λ_=>0) w t (nth zs i):=λi hi=>hz _ (by rw[aB hi];exact Nl hi)
  obtain⟨T,hT⟩:=P6 a5;have a3:((N4 zs.length).map T).length=zs.length:=by simp
  refine⟨(n0,n1,c2),rfl,.mk n0 n1 ((N4 zs.length).map T),.mk a2 (a2.free λa=>by simp) a3 λi hi=>?_⟩;rw[aB (by rw[a3];exact hi)];simp only[Nm,Nc];exact hT i hi
termination_by a0=>a0
def I0(cs:List Lj)(h:Rd enc M4 w base held 49 cs):∃x:X3,cs=cB x/\∃t:R3,Rt (λ_=>0) w t x:=by
 obtain⟨hl,hf⟩:=h.struct Pe;have a0:cs.length=7:=hl.J zk;obtain⟨c0,c1,c2,c3,c4,c5,c6,rfl⟩:∃c0 c1 c2 c3 c4 c5 c6,cs=[c0,c1,c2,c3,c4,c5,c6]:=by
  match cs,a0 with
  |[a,b,c,d,e,f,g],_=>exact⟨a,b,c,d,e,f,g,rfl⟩
 have f0:Rd enc M4 w base held 47 [c0,c1,c2]:=hf 0 _ rfl;have f1:Rd enc M4 w base held 47 [c3,c4,c5]:=hf 1 _ rfl;have f2:Rd enc M4 w base held 4 [c6]:=hf 2 _ rfl;obtain⟨n0,y0,h0⟩:=f0;obtain⟨n1,y1,h1⟩:=f1;obtain⟨x0,e0,t0,k0⟩:=xW n0 _ _ h0;obtain⟨x1,e1,t1,k1⟩:=xW n1 _ _ h1;obtain⟨b,eb⟩:=f2.bool Px;simp only[aY,P5,and_true]at e0 e1 eb;obtain⟨rfl,rfl,rfl⟩:=e0;obtain⟨rfl,rfl,rfl⟩:=e1;subst eb;exact⟨(x0,x1,b),rfl,(t0,t1,b),k0,k1,rfl⟩
def IG{d:DataW H}{ps:List PX}{r:Reach}{b0:Nat}(hv:Value.okWide M4 w r b0 25 v)(h:DataW.Trod enc M4 w base (λ_=>true) held 25 v d ps):∃li lk ts,Tx w v li lk ts:=by
 obtain⟨cs,rfl,a3⟩:=okWide_struct Q3 hv;obtain⟨hl,hf⟩:=(Rd.of h).flat Q3 zk zk;have a2:cs.size=3:=by simpa[PL]using hl
 obtain⟨c0,c1,c2,rfl⟩:∃c0 c1 c2,cs = #[c0,c1,c2]:=by
  match cs,a2 with
  |⟨[c0,c1,c2]⟩,_=>exact⟨c0,c1,c2,rfl⟩
 obtain⟨_,h0,r0⟩:=hf 0 _ rfl;obtain⟨_,h1,r1⟩:=hf 1 _ rfl;obtain⟨_,h2,r2⟩:=hf 2 _ rfl
 cases h0;cases h1;cases h2
 obtain⟨v0,z0,e0,i0,_⟩:=r0.ints Q4 NI zk;obtain⟨v1,z1,e1,i1,_⟩:=r1.ints Q4 NI zk;obtain⟨v2,zs,e2,i2,hz⟩:=r2.sliceOf (f:=cB) (R:=λx=>∃t:R3,Rt (λ_=>0) w t x) (sz:=7) Pf zk zd I0
 cases e0;cases e1;cases e2
 have a1:∀i,i<zs.length->∃t:R3,Rt (λ_=>0) w t (nth zs i):=λi hi=>hz _ (by rw[aB hi];exact Nl hi)
 obtain⟨T,hT⟩:=P6 a1;have a0:((N4 zs.length).map T).length=zs.length:=by simp
 refine⟨z0,z1,(N4 zs.length).map T,c0,c1,c2,zs,rfl,i0,i1,i2,a0,λi hi=>?_⟩;rw[aB (by rw[a0];exact hi)];simp only[Nm,Nc];exact hT i hi
end
end Go.Proofs.YtcfhbfflgnbacaaGreatDoor
