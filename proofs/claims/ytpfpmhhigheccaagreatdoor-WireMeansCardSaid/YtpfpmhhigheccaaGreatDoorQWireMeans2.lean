/- Texts that the proof of this statement needs, merged and shortened. -/
import Derived.Test.YtpfpmhhigheccaaGreatDoorQWireMeans1
open Go.Proofs.Tryz renaming sizeOf86->ix,underlying9->I1,isAgg86->I2,zeroValue86->I5,prog->IQ,sizeOf3->Jb,sizeOf88->JC,sizeOf47->JD,zeroValue88->K5,underlying3->K6,isAgg88->Ka,call153->Kb,sizeOf79->Kf,underlying81->KE,underlying42->KF,call154->KG,underlying4->KS,call79->L1,call167->L4,call142->L5,call130->L6,sizeOf218->Lb,call80->Ll,underlying146->Lo,underlying75->Lq,underlying47->Lr,underlying44->Ls,underlying25->Lt,underlying21->Lu,isAgg79->Lv,call139->Lw,call72->LF,call32->LG
open Go renaming World->ka,Value->I3,TypeId->IE,Program->JG,Operand->Kd,Oper->KK,Exit->Li,MemPlace->Ln,Edge->Lx,Code->Ly,Addr->Lz,sizeOf->LD,Act->LU
open Nat renaming le_refl->ln,zero_le->IU,le_succ->J2,lt_succ_iff_lt_or_eq->J3,le_of_eq->J7,not_lt_zero->Jn,lt_of_lt_of_le->Js,blt->Ju,pow_succ->Kh,add_comm->Ki,mod_lt->KL,min_eq_left->KX
open Go.VL.Upd renaming setRow->I0,set->IN,putObj->Jl,alloc->Kc,drew->Ky,ofDrew->KJ,refl->L2
open Go.VL.Ret renaming enter->I4
open Go.World renaming setRow->I6,setCell->IM,drew->IW,putObj_heap_other->J4,putObj_heap_same->Jf,block_lt_of_cell?->K7,alloc_heap_new->Kg,cells?_some->KB,size_alloc->KH,cell?_spot->KI
open Go.VL.BlkO renaming upd->I7,setRow->I8,tag->ID,drew->IR,rAt->JL,fgt->Lp
open List renaming mem_singleton->I9,length_cons->IF,getElem?_eq_getElem->IH,all_cons->II,getElem_append_left->IS,findIdx?_eq_some_iff_getElem->IY,findIdx?_eq_none_iff->IZ,append_assoc->J0,all_nil->J5,getElem_append_right->J8,length_reverse->J9,length_append->Jd,singleton_append->Ji,length_singleton->Jj,getElem_of_mem->Jo,dropWhile_cons_of_neg->Jr,drop_eq_getElem_cons->Jt,range->Jz,drop_of_length_le->JA,mem_append->JB,getElem_range->JH,takeWhile_append_dropWhile->JM,suffix_cons->JP,getElem_mem->JQ,getElem_map->JR,eq_nil_of_length_eq_zero->JT,append_nil->JU,takeWhile_cons_of_neg->K0,dropWhile_cons_of_pos->K1,getElem?_eq_some_iff->K4,take_append_drop->Kj,dropWhile_suffix->Kk,mem_append_left->Kr,getElem_toArray->Ku,getElem_take->KM,map_toArray->KP,length_take->KQ,all_eq_true->KR,length_nil->KV,find?_cons->KW,take_take->KY,take_drop->KZ,map_cons->L3,mem_map->L9,map_nil->La
open Bool renaming and_eq_true->IG,or_eq_true->JW,eq_iff_iff->JX,and_eq_false_iff->Kl
open Go.VL renaming Upd->IJ,BlkO->IX,Ext->Jq,Ret->JE,Rng->K9,RowT->Kz
open UInt8 renaming ofNat->IK
open Option.some renaming inj->IL
open Go.VL.WH renaming one->IP,done->Jg
open Go.Result renaming andThen_ok->IT
open Go.VL.Ext renaming refl->IV
open Go.VL.WI renaming region->J1,seq->Je,skip->K2,block->KC,ret->KN
open Go.Sem renaming run_bind->J6,run_pure->Lc,run->Ld
open Go.VL.WS renaming nil->Ja,go->Lm,call->LH
open Go.Utf8 renaming valid->Jc,decode->JF,encode->Ko
open Go.VL.WC renaming still->Jh,tail->KT
open Go.DataW renaming trod->Jk
open Go.VL.QF renaming dn->Jm
open Classical renaming byContradiction->Jp
open Go.VL.Fit renaming i64->Jv
open Go.Addr renaming add->Jw,add_add->Ke
open Go.Fence renaming wide->Jy
open Go.Proofs.YtpfpmhhigheccaaGreatDoor renaming oneM->JI,Reads->KD,PostE->KU,Known->LA,KnownM->LP
open Go.VL.RV renaming add->JJ,indexAddr->JN,fieldAddr->JO,build->L8,move->Lj,load->LN
open Prod.mk renaming inj->JK
open Go.Ending.returned renaming inj->JS
open Int renaming le_refl->JV
open Go.Value renaming oneCell'->JY,bool->Kx,cells->L7
open Go.Instr renaming next->JZ,storeAt->L0
open Go.VL.RowT renaming drew->K8,upd->Kp
open Go.VL.WL renaming val->Km,push->LK
open Go.Proofs.YtpfpmhhigheccaaGreatDoor.Nt renaming leaf->Kq
open List.cons renaming injEq->Kv
open Go.Deep renaming choose_lt->Kw
open Go.VL.Rng renaming drew->KA,upd->KO
open Go.VL.Leave renaming mark->Le
open Go.Exit renaming noGoto->Lh
open Go.Proofs.YtpfpmhhigheccaaGreatDoor.Nd renaming kids->Lk,kind->LO
open Go.Deferred renaming ofValue->LB
open Go.Act renaming put->LC
open Go.VL.WQ renaming call->LJ
open Go.RoundIn renaming mono->LL
open Go.CallsIn renaming mono->LQ
set_option maxRecDepth 10000
open Go.VL Go.Proofs Go.Proofs.Tryz
namespace Go.VL
section
open Go.RowKit
section
variable{P:JG}{N:Nat}{ro:Option Nat}{ds:List Deferred}{Q:Li→LU→ka→Prop}{st:St}{w:ka}
theorem yn{ops:Array KK}{a1:List KK}{t:IE}{p:String}{e:Array Lx}{d:Nat}{x y z:Kd}{a3:Array IE}{l:Nat}{u u2:I3}{R:Ending->ka->Prop} 
  (hx:ev st x=some (.func (.yield l) #[] #[])) (hy:ev st y=some u) (hz:ev st z=some u2) (hc:YieldAt Jy 0 P l #[u,u2] w R) (hd:Ju d N=true)
  (hR:∀e w',R e w'->∃v,e=.returned v)
  (h:∀v w',R (.returned v) w'->WLI none P N ds ops Q a1 ((d,v)::st) w'):WLI none P N ds ops Q (⟨some d,.call ⟨.value x,#[y,z],a3⟩,t,p,e,none⟩::a1) st w:=by
 intro a ha;unfold wpListIn;rw[if_pos (bP rfl _)];refine⟨fun _ _=>trivial,?_⟩;obtain⟨fn,a0,assign,body,a4,hr⟩:=hc;have a2:(Oper.semAt (Fr none).round ({ a with defers:=ds }:LU).eval ⟨some d,.call ⟨.value x,#[y,z],a3⟩,t,p,e,none⟩).run P w=.ok (.round l fn a0 assign body) w:=by
  rw[jA];rw[show(Fr none).round=none from rfl,Oper.semAt_none];simp only[execOp,resolve,KP,L3,La,ha.ev hx,ha.ev hy,ha.ev hz];simp[LB,invoke,a4]
 rw[a2];refine⟨fun hh=>by simp[Jy]at hh,?_⟩;refine LL (hr:RoundIn Jy _ P l fn a0 assign body w _) ?_;intro e' w' q;obtain⟨v,rfl⟩:=hR _ _ q;have:=h v w' q _ (ha.put hd v);simpa[LC]using this
end
def Gj{α:Type}(P:JG)(gf:Nat)(lb:List I3)(ex:Nat->I3)(enc:α->I3)(xs:List α)(Rd:ka->Prop):Prop:=
 ∀(l:Nat) (J:Nat->ka->Prop) (Jx:ka->Prop) (W:ka),(∀i W,J i W->Rd W)->(∀i W W',J i W->Jq W W'->J i W')->
  (∀i (hi:i<xs.length) W W',J i W->Jq W W'->YieldAt Jy 0 P l #[ex i,enc xs[i]] W' fun e W2=>((e=.returned (.bool true)/\J (i+1) W2)\/(e=.returned (.bool false)/\Jx W2))/\∀b,W.heap.size<=b->b<W'.heap.size->W2.heap[b]? = W'.heap[b]?)->
  J 0 W->JE P gf (.func (.yield l) #[] #[]::lb) W fun _ W'=>J xs.length W'\/Jx W'
theorem qQ{P:JG}{N:Nat}{ds:List Deferred}{Q:Li->LU->ka->Prop}{st:St}{w:ka}{α:Type}{g:Kd}{p0 p1 d0:Nat}{T:IE}{id:Nat}{e1 e2:Array Lx}{q1 q2:String}{t1 t2:IE}{body:Ly} 
  {gf:Nat} {lb:List I3} {ex:Nat->I3} {enc:α->I3} {xs:List α} {Rd:ka->Prop}
  (hg:ev st g=some (.func (.func gf) #[] lb.toArray)) (eg:∀args w,(callFunc gf args).run P w=.ok (.enter gf args) w) (it:Gj P gf lb ex enc xs Rd)
  (e9:Ju p0 N=true) (e8:Ju p1 N=true) (f6:Ju d0 N=true) {z:I3} (hz:∀W:ka,(zeroValue T).run P W=.ok z W) 
  {B:Nat} {O:Nat->Nat} (r:K9 B O w) (L K:Nat) (hL:L≠0) (hK:K≠0) (d3:L≠K)
  (b0:∀(W:ka) (O':Nat->Nat) (b:Nat) (y:I3) (x:α) (_:x∈xs) (ops:Array KK) (Q':Li->LU->ka->Prop),IX O' W K b z.cells T->
   (∀w2,IX O' w2 K b (enc x).cells T->IJ (fun j=>j=K) O' W O' w2->WL P N ops Q' [] ((d0,nP b)::(p1,enc x)::(p0,y)::st) w2)->
   WL P N ops Q' [⟨none,.store T (.tmp d0) (.tmp p1),t2,q2,e2,none⟩] ((d0,nP b)::(p1,enc x)::(p0,y)::st) W)
  (I:Nat->(Nat->Nat)->ka->Prop) (Ix:Ly->(Nat->Nat)->ka->Prop)
  (hI:∀i O W O' W',I i O W->IJ (fun j=>j=L\/j=K) O W O' W'->I i O' W') (d4:∀c O W O' W',Ix c O W->IJ (fun j=>j=L) O W O' W'->Ix c O' W')
  (g0:∀i O W,I i O W->Rd W) (h0:I 0 O w)
  (b6:∀l i (hi:i<xs.length) b O' W,K9 B O' W->I i O' W->IX O' W K b (enc xs[i]).cells T->
   WI (some l) P N [] body (zz O' W L (I (i+1)) Ix) ((d0,nP b)::(p1,enc xs[i])::(p0,ex i)::st) W)
  (b5:∀D O' W,K9 B O' W->O' D=L->I xs.length O' W->W.heap[D]? = some (.deferred (some []))->QI N ({ target:=.collected D,args:=#[] }::ds) Q .normal st W)
  (hstop:∀D c O' W,K9 B O' W->O' D=L->Ix c O' W->W.heap[D]? = some (.deferred (some []))->WI none P N ({ target:=.collected D,args:=#[] }::ds) c Q st W) :
  WI none P N ds (.rangeFunc g #[p0,p1] (.region id #[⟨some d0,.alloc T,t1,q1,e1,none⟩,⟨none,.store T (.tmp d0) (.tmp p1),t2,q2,e2,none⟩] false) body) Q st w:=by
 intro a ha;refine wpIn_rangeFunc ?_;intro fn g6;rw[show(Fr none).round=none from rfl];obtain⟨D,hD⟩:∃D,D=w.heap.size:=⟨_,rfl⟩
 obtain⟨e7,b8⟩:∃c,c=Code.region id #[⟨some d0,.alloc T,t1,q1,e1,none⟩,⟨none,.store T (.tmp d0) (.tmp p1),t2,q2,e2,none⟩] false:=⟨_,rfl⟩
 rw[<-b8];obtain⟨a5,a2⟩:∃a5:LoopState->Option Ly->Loop,a5=fun st pe=>{ state:=st,pending:=pe,fn,tmps:=a.tmps,params:=#[p0,p1],assign:=e7,body,defers:=D }:=⟨_,rfl⟩
 obtain⟨W1,b'⟩:∃W1,(w.alloc (.deferred (some []))).alloc (.loop (a5 .ready none))=W1:=⟨_,rfl⟩
 obtain⟨O1,d2⟩:∃O1,jI (jI O D L) (D+1) L=O1:=⟨_,rfl⟩
 have d5:¬(fun j=>j=L) 0:=fun e=>hL e.symm
 have e4:IJ (fun j=>j=L) O w (jI O D L) (w.alloc (.deferred (some []))):=by rw[hD];exact Kc d5 r _ L
 have e5:IJ (fun j=>j=L) O w O1 W1:=by
  rw[<-b',<-d2];refine e4.trans ?_;have:=Kc (S:=fun j=>j=L) d5 (r.upd e4) (.loop (a5 .ready none)) L
  rwa[KH,<-hD]at this
 have g1:K9 B O1 W1:=r.upd e5;have g2:W1.heap[D+1]? = some (.loop (a5 .ready none)):=by
  rw[<-b',hD];have:=Kg (w.alloc (.deferred (some []))) (.loop (a5 .ready none));rwa[KH]at this
 have g3:W1.heap[D]? = some (.deferred (some [])):=by
  rw[<-b',hD];exact(Below.heap_alloc _ _ _ (by simp)).trans (Kg w _)
 have hO1D:O1 D=L:=by rw[<-d2];unfold jI;rw[if_neg zo,if_pos rfl]
 have hO1L:O1 (D+1)=L:=by rw[<-d2];exact cT _ _ _
 have g4:I 0 O1 W1:=hI _ _ _ _ _ h0 (e5.mono (fun _ h=>.inl h) (by rintro(h|h);exact hL h.symm;exact hK h.symm))
 refine⟨D+1,[{ target:=.collected D,args:=#[] }],W1,{ target:=.fn (.func gf) lb.toArray,args:=#[.func (.yield (D+1)) #[] #[]] },W1,gf,
  #[.func (.yield (D+1)) #[] #[]]++lb.toArray,W1,?_,?_,fun _ _=>trivial,?_,fun hh=>by simp[Jy]at hh,?_⟩
 ·rw[<-b',a2,hD];exact run_enterLoop_outer _ _ _ _ _
 ·simp only[resolve,ha.evD hg ds];simp[go_sem]
 ·simp[invoke,go_sem,eg]
 have hJ:=it (D+1)
  (fun i W=>∃O',K9 B O' W/\O' D=L/\O' (D+1)=L/\I i O' W/\W.heap[D+1]? = some (.loop (a5 .ready none))/\W.heap[D]? = some (.deferred (some [])))
  (fun W=>∃c O',K9 B O' W/\O' D=L/\O' (D+1)=L/\Ix c O' W/\W.heap[D+1]? = some (.loop (a5 .done (some c)))/\W.heap[D]? = some (.deferred (some [])))
  W1 (fun i W ⟨O',_,_,_,h,_⟩=>g0 i O' W h) (fun i W W' ⟨O',h1,h2,h3,h4,h5,h6⟩ hE=>⟨O',h1.ext hE,h2,h3,hI _ _ _ _ _ h4 (aa (by rintro(h|h);exact hL h.symm;exact hK h.symm) _ hE),(hE.block _ (bt h5)).trans h5,(hE.block _ (bt h6)).trans h6⟩) ?_ ⟨O1,g1,hO1D,hO1L,g4,g2,g3⟩
 ·unfold JE at hJ;rw[show(Value.func (.yield (D+1)) #[] #[]::lb).toArray = #[.func (.yield (D+1)) #[] #[]]++lb.toArray from by simp]at hJ;refine LQ (callsIn_wide.2 hJ:CallsIn Jy _ P gf _ W1 _) ?_;rintro e W2 q
  cases e with
  |returned v=>
   rcases q with⟨O',a7,b2,b1,hi,hl,hk⟩|⟨c,O',a7,b2,b1,hi,hl,hk⟩
   ·refine⟨none,_,by have:=run_endLoop (P:=P) hl (by rw[a2];simp);rw[a2]at this;exact this,?_⟩;have b3:=Jl hL b1 (w:=W2) (.loop { a5 .ready none with state:=.exhausted });rw[a2]at b3;have:=b5 D O' _ (a7.upd b3) b2 (hI _ _ _ _ _ hi (b3.mono (fun _ h=>.inl h) (by rintro(h|h);exact hL h.symm;exact hK h.symm))) ((J4 zo).trans hk) a ha;exact this
   refine⟨some c,_,by have:=run_endLoop (P:=P) hl (by rw[a2];simp);rw[a2]at this;exact this,?_⟩;have b3:=Jl hL b1 (w:=W2) (.loop { a5 .done (some c)with state:=.exhausted });rw[a2]at b3;exact hstop D c O' _ (a7.upd b3) b2 (d4 _ _ _ _ _ hi b3) ((J4 zo).trans hk) a ha
  |panicked c=>exact q.elim
  |outgrown=>exact q.elim
 rintro i hi W0 W ⟨O',e6,b2,b1,c8,c7,d'⟩ c5;have a7:=e6.ext c5;have f5:=hI _ _ _ _ _ c8 (aa (S:=fun j=>j=L\/j=K) (by rintro(h|h);exact hL h.symm;exact hK h.symm) O' c5);have hl:=(c5.block _ (bt c7)).trans c7;have hk:=(c5.block _ (bt d')).trans d';have g5:=bt c7;have hy:=run_yield (P:=P) (args:=#[ex i,enc xs[i]]) hl (by rw[a2];rfl);rw[a2]at hy;refine⟨fn,_,e7,body,hy,roundIn_of_wpIn trivial ?_⟩;have c9:Fits N ((a.put (some p0) (ex i)).put (some p1) (enc xs[i])) ((p1,enc xs[i])::(p0,ex i)::st):=(ha.put e9 _).put e8 _;have d1:({ tmps:=(#[p0,p1].zip #[ex i,enc xs[i]]).foldl (fun tmps (t,a)=>tmps.setIfInBounds t a) a.tmps,defers:=[] }:LU) = { (a.put (some p0) (ex i)).put (some p1) (enc xs[i])with defers:=[] }:=by simp[LC]
 rw[d1];rw[b8];refine(J1 (ro:=some (D+1)) (ds:=[]) (P:=P) (N:=N) (.inr rfl) (fun _ _ h=>h) ?_:WI (some (D+1)) P N [] _ _ ((p1,enc xs[i])::(p0,ex i)::st) W) _ c9;refine ar a7 K hK (hz W) f6 ?_;intro b w1 O2 hb f' g8 g9;refine b0 w1 O2 b (ex i) xs[i] (JQ hi) _ _ hb ?_;intro w2 b7 f9;refine WL.nil (Jm ?_);intro a3 f8;have c6:D+1<W.heap.size:=(Array.getElem?_eq_some_iff.1 hl).1;have b9:IJ (fun j=>j=K) O' W O2 w2:=f'.trans f9;have d8:w2.heap[D+1]? = some (.loop (a5 .ready none)):=(b9.blk (D+1) c6 (by rw[b1];exact d3)).trans hl;have f4:w2.heap[D]? = some (.deferred (some [])):=(b9.blk D zo (by rw[b2];exact d3)).trans hk;have ho2L:O2 (D+1)=L:=(b9.tag (D+1) (by rw[b1];exact hL)).trans b1;have ho2D:O2 D=L:=(b9.tag D (by rw[b2];exact hL)).trans b2;refine⟨_,run_beginRound d8 (by rw[a2]),?_⟩;have e3:=Jl hL ho2L (w:=w2) (.loop { a5 .ready none with state:=.busy });have a':¬(fun j=>j=L\/j=K) 0:=by rintro(h|h);exact hL h.symm;exact hK h.symm
 have a1:IJ (fun j=>j=L\/j=K) O' W O2 (w2.putObj (D+1) (.loop { a5 .ready none with state:=.busy })):=(b9.mono (fun _ h=>.inr h) a').trans (e3.mono (fun _ h=>.inl h) a');have d7:(w2.putObj (D+1) (.loop { a5 .ready none with state:=.busy })).heap[D+1]? = some (.loop { a5 .ready none with state:=.busy }):=Jf (bt d8);have d9:(w2.putObj (D+1) (.loop { a5 .ready none with state:=.busy })).heap[D]? = some (.deferred (some [])):=(J4 zo).trans f4;have c':=b6 (D+1) i hi b O2 _ (a7.upd a1) (hI _ _ _ _ _ f5 a1) (b7.upd e3 hK (fun e=>d3 e.symm)) a3 f8;generalize w2.putObj (D+1) (.loop { a5 .ready none with state:=.busy })=w3 at *;refine wpIn_mono c' ?_;have fin:∀(a0:Option Ly) (O4:Nat->Nat) (w4:ka),IJ (fun j=>j≠0/\j≠L) O2 w3 O4 w4->
   (Instr.endRound (D+1) a0).run P w4=.ok (.bool a0.isNone) (w4.putObj (D+1) (.loop (a5 (if a0.isNone then .ready else .done) a0)))/\
   IJ (fun j=>j=L) O4 w4 O4 (w4.putObj (D+1) (.loop (a5 (if a0.isNone then .ready else .done) a0)))/\O4 D=L/\O4 (D+1)=L/\
   (w4.putObj (D+1) (.loop (a5 (if a0.isNone then .ready else .done) a0))).heap[D+1]? = some (.loop (a5 (if a0.isNone then .ready else .done) a0))/\
   (w4.putObj (D+1) (.loop (a5 (if a0.isNone then .ready else .done) a0))).heap[D]? = some (.deferred (some [])):=by
  intro a0 O4 w4 a6;have d6:=(a6.blk (D+1) (bt d7) (by rw[ho2L];exact fun h=>h.2 rfl)).trans d7;have f3:=(a6.blk D (bt d9) (by rw[ho2D];exact fun h=>h.2 rfl)).trans d9;have ho4D:O4 D=L:=(a6.tag D (by rw[ho2D];exact hL)).trans ho2D;have ho4L:O4 (D+1)=L:=(a6.tag (D+1) (by rw[ho2L];exact hL)).trans ho2L;have:=run_endRound (P:=P) a0 d6;rw[a2]at this ⊢;exact⟨this,Jl hL ho4L _,ho4D,ho4L,Jf (bt d6),(J4 zo).trans f3⟩
 have a9:∀(O4:Nat->Nat) (w4:ka) (o:Obj),IJ (fun j=>j≠0/\j≠L) O2 w3 O4 w4->∀b,W0.heap.size<=b->b<W.heap.size->(w4.putObj (D+1) o).heap[b]? = W.heap[b]?:=by
  intro O4 w4 o a6 b g7 b7;have e0:O' b=0:=Jp fun e'=>by have:=(e6.rng b e').2;omega
  have f7:=a1.zero b7 e0;have e1:=a1.blk b b7 (by rw[e0];rintro(h|h);exact hL h.symm;exact hK h.symm);have e2:=a6.blk b (Js b7 a1.size) (by rw[f7];exact fun h=>h.1 rfl);rw[J4 zo,e2,e1]
 rintro e a4 w4 q
 cases e with
 |normal=>
  obtain⟨O4,a6,b4⟩:=q;obtain⟨hr,a8,h1,h2,h3,h4⟩:=fin none O4 w4 a6;exact⟨_,_,hr,.inl ⟨rfl,O4,((a7.upd a1).upd a6).upd a8,h1,h2,hI _ _ _ _ _ b4 (a8.mono (fun _ h=>.inl h) a'),h3,h4⟩,a9 O4 w4 _ a6⟩
 |ret=>
  obtain⟨O4,a6,b4⟩:=q;obtain⟨hr,a8,h1,h2,h3,h4⟩:=fin (some .ret) O4 w4 a6;exact⟨_,_,hr,.inr ⟨rfl,.ret,O4,((a7.upd a1).upd a6).upd a8,h1,h2,d4 _ _ _ _ _ b4 a8,h3,h4⟩,a9 O4 w4 _ a6⟩
 |exit id'=>
  obtain⟨O4,a6,b4⟩:=q;obtain⟨hr,a8,h1,h2,h3,h4⟩:=fin (some (.exit id')) O4 w4 a6;exact⟨_,_,hr,.inr ⟨rfl,.exit id',O4,((a7.upd a1).upd a6).upd a8,h1,h2,d4 _ _ _ _ _ b4 a8,h3,h4⟩,a9 O4 w4 _ a6⟩
 |_=>exact q.elim
end
end Go.VL
section
namespace Go.VL
section
variable{P:JG}{N:Nat}{ops:Array KK}{Q:Li→LU→ka→Prop}{rest:List KK}{st:St}{w:ka}
variable{t:IE}{p:String}{e:Array Lx}{d:Nat}{x y z:Kd}
theorem bJ{T E:IE}{sz a0:Nat}(he:Elem P T E sz a0){α:Type}{enc:α->List I3}{B:Nat}{O:Nat->Nat}(r:K9 B O w)(i:Nat)(a6:i≠0)(u:α){xv:I3}(hx:ev st x=some xv)(a2:xv.cells.toList=enc u)(a3:(enc u).length=sz)(hs:sz<=16777216)(hd:Ju d N=true) 
  (h:∀v w' O',Kz enc E sz O' w' i v [u]->IJ (fun k=>k=i) O w O' w'->K9 B O' w'->WL P N ops Q rest ((d,v)::st) w'):WL P N ops Q (⟨some d,.buildSlice T 1 #[(0,x)],t,p,e,none⟩::rest) st w:=by
 obtain⟨a4,z,hi,hz,a1,a9,a8⟩:=he.parts;have a7:xv.cells.size=sz:=by rw[<-a3,<-a2];simp
 have a5:=he.pos;have u1:=Kc (S:=fun k=>k=i) (fun e=>a6 e.symm) r (.cells xv.cells E) i;refine Km (v:=.slice (some ⟨w.heap.size,0,none⟩) 1 1) (w':=w.alloc (.cells xv.cells E)) hd (fun a ha=>?_) (h _ _ (jI O w.heap.size i) ⟨⟨?_,fun g hg=>?_⟩,fun c hc=>by rw[I9.1 hc];exact a3⟩ u1 (r.upd u1))
 ·have:=run_buildSlice (P:=P) w T E 1 #[(0,xv)] xv.cells a4 z he.ht hi hz (by rw[a1];omega) (by rw[a1];omega) (by
   rw[a1]
   exact iK a7 (by simp))
  simp only[execOp,KP,L3,La,ha.ev hx,J6,this,IT];rfl
 ·have:=World.ownsRow_lit (base:=0) (size:=sz) (e:=E) w xv.cells 1 (IU _) (by simp[maxLen]) zo;simpa[a2]using this
 simp[Value.ownBlock]at hg;subst hg;exact cT _ _ _
end
section
variable{P:JG}{N:Nat}{st:St}{w:ka}{fn:Func}{R:I3→ka→Prop}
theorem ir{t:Tmp}{T:IE}{q:Lz}{us:List I3}(hr:fn.results = #[.cell t T])(hv:cf st t=some (.pointer (some q))) 
  (hc:∀j u,us[j]? = some u->w.cell? (q.add j)=some u) (hT:(isAgg T).run P w=.ok true w) (hn:(LD T).run P w=.ok us.length w) (h:R (.agg us.toArray) w):Leave P N fn R [] st w:=
 Leave.nil (fun a ha=>by have h1:=ha.get _ _ hv;simp[results,hr,Array.getD_eq_getD_getElem?,h1,asAddr,dh hc hT hn]) h
end
end Go.VL
namespace Go.Proofs.YtpfpmhhigheccaaGreatDoor
open Go.VL Go.Proofs
set_option maxRecDepth 10000
theorem elM:Elem IQ 146 218 4 56:=⟨Lo,by kernel_rfl,zd⟩
theorem th(q:Option Lz)(n c:Nat)(w:ka):JE IQ 210 [.slice q n c] w fun v w'=>∃b,v=.func (.func 211) #[] #[nP b]/\w'.cell? ⟨b,0,none⟩=some (.slice q n c)/\w.heap.size<=b/\Jq w w':=by
 refine I4 func210 ntmps210 rfl rfl ?_;refine zh ?_
 refine aF (aw w) 1 zo rfl rfl ?_;intro b w1 O1 hb a2 a0 a1;refine zh ?_
 refine zvH (dR rfl rfl) ?_;refine af rfl rfl (⟨b,rfl,hb.cell 0 rfl,(a0.rng b (by rw[hb.tag];decide)).1,a1⟩)
theorem zA{α:Type}[Inhabited α]{l:List α}{i:Nat}(h:i<l.reverse.length):l.reverse[i]=nth l (l.length-1-i):=by
 rw[J9]at h;rw[List.getElem_reverse,aB zo]
theorem oC(kv:I3)(ms:List M3)(b:Nat):Gj IQ 211 [nP b] (fun i=>nI ((ms.length:Int)-1-(i:Int))) (fun m:M3=>.agg (kS m).toArray) ms.reverse (fun W=>W.cell? ⟨b,0,none⟩=some kv/\Sl kS 4 W kv ms):=by
 intro lp J Jx W a3 a9 hY h0;obtain⟨a8,a4⟩:=a3 _ _ h0;have a6:=a4.len_le;have a5:ms.reverse.length=ms.length:=J9;refine pN func211 ntmps211 rfl rfl ?_;refine Je ?_;refine J1 (.inl rfl) (fun _ _ h=>h) ?_;refine zh ?_;refine Jm ?_;refine aV ?_;refine KC ?_;refine WI.loop (fun x:Nat×ka×Int=>[(0,.func (.yield lp) #[] #[]),(1,nP b),(3,nI x.2.2)]) (fun x:Nat×ka×Int=>x.2.1) (fun x:Nat×ka×Int=>x.1<=ms.length/\J x.1 x.2.1/\x.2.2=(ms.length:Int)-1-(x.1:Nat)) (fun x:Nat×ka×Int=>ms.length-x.1) (0,W,(ms.length:Int)-1) (⟨IU _,h0,by dsimp only;omega⟩) ⟨rfl,rfl,rfl,trivial⟩ rfl ?_;rintro⟨i,w1,z⟩ ⟨hi,hJ,hz⟩;dsimp only at hi hJ hz ⊢;subst hz;obtain⟨hb,hs⟩:=a3 _ _ hJ;refine Je ?_;refine Je ?_;refine J1 (.inl rfl) (fun _ _ h=>h) ?_;refine zh ?_;refine Jm ?_;refine aV ?_;refine WI.cond rfl ?_ ?_
 ·intro a0;replace a0:i<ms.length:=dT a0;have hy:=hY i zo w1 w1 hJ (IV _);rw[zA]at hy;dsimp only at hy;refine K2 ?_;refine aV ?_;refine Je ?_;refine KC ?_;refine Je ?_;refine uS 6 (.inl rfl) (fun _ _ h=>h) ?_;refine zh ?_;refine zv (JN hs Lo (Lb _) rfl rfl (ms.length-1-i) zo zo) ?_;refine zvH (ah (us:=kS (nth ms (ms.length-1-i))) (fun j u hu=>hs.cell zo hu) (isAgg218 _) (Lb _) rfl) ?_;refine Jm (Fi ?_);refine yn rfl rfl rfl (hy) rfl (by rintro e w' ⟨⟨rfl,_⟩|⟨rfl,_⟩,_⟩<;>exact⟨_,rfl⟩) ?_;rintro v w5 ⟨⟨e,a1⟩|⟨e,a1⟩,a7⟩
  ·obtain rfl:=JS e;refine C6 (.inl rfl) (fun _ _ h=>h) ?_;refine zh ?_;refine Jm ?_;refine aV ?_;refine kL rfl (rfl) ?_;refine K2 ?_;refine cR ?_;refine aV ?_;refine J1 (.inl rfl) (fun _ _ h=>h) ?_;refine zh ?_;refine Jm ?_;refine QI.next ((i+1,w5,(ms.length:Int)-1-(i:Int)-1)) (⟨a0,a1,by dsimp only;omega⟩) (by dsimp only;omega) ⟨rfl,rfl,rfl,trivial⟩ rfl
  obtain rfl:=JS e;refine C6 (.inl rfl) (fun _ _ h=>h) ?_;refine zh ?_;refine Jm ?_;refine aV ?_;refine qR rfl (rfl) ?_;refine KN ?_;refine gj ?_;refine iT ?_;refine iT ?_;refine gj ?_;exact kQ (nN rfl (.inr a1))
 intro a2;replace a2:¬i<ms.length:=dF a2;obtain rfl:i=ms.length:=zo;refine WI.exit ?_;refine nK ?_;refine nK ?_;refine vf ?_;exact kQ (nN rfl (.inl (by rw[a5];exact hJ)))
end Go.Proofs.YtpfpmhhigheccaaGreatDoor
end
namespace Go.Proofs.YtpfpmhhigheccaaGreatDoor
section
variable{kv:I3}{kn:Kn}
theorem cells_from{w:ka}{b:Nat}{us vs:List I3}(k:Nat)(h:∀(j:Nat) (u:I3),us[j]? = some u->w.cell? (nA b j)=some u)(hv:∀(q:Nat) (u:I3),vs[q]? = some u->us[k+q]? = some u):∀(q:Nat) (u:I3),vs[q]? = some u->w.cell? ((nA b k).add q)=some u:=fun q u hu=>by
 have h1:=h (k+q) u (hv q u hu);have e:((nA b k).add q)=((⟨b,0,none⟩:Lz).add (k+q)):=by
  simp only[Jw];(repeat' split)<;>simp_all[]
 rw[e];exact h1
theorem KnownM.ex{O:Nat->Nat}{w:ka}{ms:List M3}(h:LP O w kv kn ms):LA O w kv kn:=⟨ms,h⟩
theorem DR{O:Nat->Nat}{w:ka}{ms:List M3}(h:LP O w kv kn ms){x:M3}(hx:x∈ms.reverse):(kS x).toArray.toList.all JY=true:=by
 obtain⟨i,hi,e⟩:=Jo (List.mem_reverse.1 hx);have h1:=(h.2.2.2 i hi).2.one;rw[aB hi,e]at h1;simp only[kS,II,h1];rfl
theorem AL{α:Type}[Inhabited α]{p:α->Bool}{l:List α}(h:∀q,q<l.length->p (nth l q)=false):l.find? p=none:=by
 rw[List.find?_eq_none];intro x hx;obtain⟨i,hi,rfl⟩:=Jo hx;have:=h i hi;rw[aB hi]at this;rw[this];decide
theorem AM{α:Type}[Inhabited α]{p:α->Bool}:∀ {l:List α} {k:Nat},k<l.length->(∀q,q<k->p (nth l q)=false)->p (nth l k)=true->l.find? p=some (nth l k)
 |[],k,hk,_,_=>absurd hk (by simp)
 |a::l,0,_,_,hp=>by rw[ax]at hp ⊢;rw[KW,hp]
 |a::l,k+1,hk,h,hp=>by
  have h0:=h 0 zo;rw[ax]at h0;rw[bA]at hp ⊢;rw[KW,h0];exact AM (by simpa using hk) (fun q hq=>by have:=h (q+1) (zo);rwa[bA]at this) hp
theorem DJ{α:Type}[Inhabited α]{l:List α}{i:Nat}(h:i<l.length):nth l.reverse i=nth l (l.length-1-i):=by
 rw[aB (by rw[J9];exact h),zA]
theorem zX(op:Int)(h':0<=op/\op<=20):KD kv kn 206 [] op (gq kn) (fun r=>ak (r.headD 0)=true):=by
 intro B O j rb l r w hR hj hr hl h9 h i3;obtain⟨T,a1,hT⟩:=hR.bound;have j5:j<T:=by rw[<-h.tag];exact hT rb
 have j4:=hr.length_le;refine pN func206 ntmps206 rfl rfl ?_;refine Je ?_;refine J1 (.inl rfl) (fun _ _ h=>h) ?_;refine ar hR T zo (I5 _) rfl ?_;intro xb w1 O1 h0 g0 j3 k0;have f9:=h.upd g0 hj zo;refine zh ?_;refine Jm ?_;refine aV ?_;refine Je ?_;refine J1 (.inl rfl) (fun _ _ h=>h) ?_;refine zh ?_;refine zvH (RV.ld f9.r1 rfl) ?_;refine Jm ?_;refine aV ?_;refine Je ?_;refine J1 (.inl rfl) (fun _ _ h=>h) ?_;refine zh ?_;refine zc call209 (vB O1 w1 j rb l r op 0 0 hj hr zo f9) ?_;rintro v w2 ⟨rfl,i9,e1⟩;have g':=h0.upd e1 zo zo;have g5:=j3.upd e1;have i':=(g0.pT hj a1 (ln _)).trans (e1.pj a1);refine ar g5 (T+1) zo (zeroValue9 _) rfl ?_;intro sb w3 O3 d5 j1 j9 j';refine aj (j:=0) d5 rfl (sizeOf9 _) rfl rfl rfl rfl ?_;have e4:=d5.set 0 (.string (bs (r.takeWhile ak)));have j0:IJ (fun k=>k=T+1) O3 w3 O3 (w3.setCell ⟨sb,0,none⟩ (.string (bs (r.takeWhile ak)))):=IN zo d5.tag rfl;have a8:=j1.trans j0;have c6:=g'.upd a8 zo zo;have d9:=i9.upd a8 hj zo;have g4:=g5.upd a8;have b0:=i'.trans (a8.pT hj a1 (J2 _));generalize w3.setCell ⟨sb,0,none⟩ (.string (bs (r.takeWhile ak)))=w4 at *;refine zh ?_;refine Jm ?_;refine aV ?_;refine Je ?_;refine Je ?_;refine J1 (.inl rfl) (fun _ _ h=>h) ?_;refine zv (RV.ld (e4.cell 0 rfl) rfl) ?_;refine zvH (cH rfl rfl) ?_;refine Jm ?_;refine aV ?_
 by_cases ha:r.takeWhile ak=[97,110,121]
 ·have hM:gq kn r=.ok (.mk 1 0 []) (r.dropWhile ak):=by unfold gq;rw[if_pos ha]
  refine qR rfl ((by rw[ha];rfl)) ?_;refine Je ?_
  refine J1 (.inl rfl) (fun _ _ h=>h) ?_;refine zv (aE vq (I5 _) rfl (by first|rfl|(simp only[II,J5];rfl)) rfl rfl) ?_
  refine zsa (us:=(#[nI 1,nI 0,nS])) c6 (ix _) ?_;have d3:=I8 (us:=(#[nI 1,nI 0,nS])) c6;have f':IJ (fun k=>k=T) O3 w4 O3 (I6 w4 xb (#[nI 1,nI 0,nS])):=I0 zo (ID c6) rfl;have d8:=I7 d9 f' hj zo;refine zh ?_
  refine Jm ?_;refine aV ?_
  refine KN ?_;refine iT ?_
  refine kQ (ir rfl rfl d3.cellsAdd (I2 _) (ix _) ⟨(1,0,nS),rfl,(b0.trans (f'.pT hj a1 (ln _))).priv hT hj,?_⟩);rw[hM];exact⟨d8.fgt h.tag,Kq _ _ _ _⟩
 obtain⟨ms,c9⟩:=i3.upd b0;obtain⟨qa,qc,f3,_⟩:=c9.1.shape;have i2:=c9.1.len_le;have i4:kn.length=ms.length:=c9.2.2.1;refine kL rfl ((by simpa using ha)) ?_;subst f3;refine K2 ?_;refine aV ?_;refine Je ?_;refine Je ?_;refine J1 (.inl rfl) (fun _ _ h=>h) ?_;refine zh ?_;refine zv (RV.ld d9.r2 rfl) ?_;refine zc call210 (th qa ms.length qc w4) ?_;rintro v w5 ⟨b,rfl,i8,j8,g7⟩;have b8:IJ (fun _=>False) O3 w4 O3 w5:=aa (fun h=>h) O3 g7;have d3:=c6.upd b8 zo (fun h=>h);have h8:=e4.upd b8 zo (fun h=>h);have d8:=d9.upd b8 hj (fun h=>h);have j2:=g4.upd b8;have f7:=c9.upd b8;have e0:=b0.trans (jh O3 g7 hj a1);have i7:Fixed O3 w5 ⟨b,0,none⟩ (.slice qa ms.length qc):=⟨i8,Jp fun i0=>by have:=(g4.rng b i0).2;omega⟩
 generalize f3:Value.slice qa ms.length qc=kv at *;generalize c7:r.takeWhile ak=sw at *;have e5:∀ {S:Nat->Prop} {O' O2:Nat->Nat} {W W':ka},IJ S O' W O2 W'->(∀k,S k->T<=k)->IJ (fun k=>k=j\/T<=k) O' W O2 W':=fun h hS=>h.mono (fun k hk=>.inr (hS k hk)) (fun e=>by rcases e with e|e;exact hj e.symm;omega)
 refine zh ?_;refine Jm ?_
 refine aV ?_;refine KC ?_
 refine qQ (L:=T+2) (K:=T+3) rfl call211 (oC kv ms b) rfl rfl rfl (fun W=>zeroValue218 W) j2 zo zo zo (fun W O' pb y x hx ops Q' hb h=>aZ (us:=(kS x).toArray) hb rfl (Lb _) (DR f7 hx) rfl rfl rfl (h _ hb.setRow (I0 zo hb.tag rfl))) (fun k O' W=>IJ (fun p=>p=j\/T<=p) O w O' W/\IX O' W T xb #[nI 0,nI 0,nS] 86/\IX O' W (T+1) sb #[.string (bs sw)] 9/\Rdr kv O' W j rb l ((l.length:Int)-((r.dropWhile ak).length:Int)) op 0 0/\Fixed O' W ⟨b,0,none⟩ kv/\LP O' W kv kn ms/\∀q,q<k->B4 sw (nth kn.reverse q)=false) (fun c O' W=>c=.ret/\IJ (fun p=>p=j\/T<=p) O w O' W/\Rdr kv O' W j rb l ((l.length:Int)-((r.dropWhile ak).length:Int)) op 0 0/\∃m x,kn.reverse.find? (B4 sw)=some m/\Nt O' W m.2 x/\IX O' W T xb #[nI x.1,nI x.2.1,x.2.2] 86) (fun i O' W O2 W' ⟨h1,h2,h3,h4,h5,h6,h7⟩ hU=>⟨h1.trans (e5 hU (fun k hk=>zo)),h2.upd hU zo zo,h3.upd hU zo zo,h4.upd hU hj zo,h5.upd hU,h6.upd hU,h7⟩) (fun c O' W O2 W' ⟨h1,h2,h3,m,x,h4,h5,h6⟩ hU=>⟨h1,h2.trans (e5 hU (fun k hk=>zo)),h3.upd hU hj zo,m,x,h4,h5.upd hU,h6.upd hU zo zo⟩) (fun i O' W ⟨_,_,_,_,h5,h6,_⟩=>⟨h5.cell,h6.1⟩) ⟨e0,d3,h8,d8,i7,f7,fun q hq=>absurd hq zo⟩ ?_ ?_ ?_
 ·rintro lp i hi pb O6 w6 d0 ⟨b3,b1,c8,a',d6,b6,a3⟩ b2;rw[J9]at hi;have i5:ms.length-1-i<ms.length:=zo;obtain⟨m,e8⟩:∃m,m=nth ms (ms.length-1-i):=⟨_,rfl⟩
  obtain⟨g1,g2⟩:=b6.2.2.2 _ i5;replace b2:IX O6 w6 (T+3) pb (kS m).toArray 218:=by have:=b2;rw[zA,<-e8]at this;exact this
  rw[<-e8]at g1 g2;have f4:nth kn.reverse i=nth kn (ms.length-1-i):=by rw[DJ zo,i4]
  have b5:B4 sw (nth kn.reverse i)=false->∀q,q<i+1->B4 sw (nth kn.reverse q)=false:=fun h q hq=>by
   by_cases e:q=i
   ·rw[e];exact h
   exact a3 q zo
  have a0:B4 sw (nth kn.reverse i)=((m.1==sw&&bM (nth kn (ms.length-1-i)).2)&&((nth kn (ms.length-1-i)).2.kind != 9)):=by
   unfold B4;rw[f4,g1]
  have f5:m.2.1=(nth kn (ms.length-1-i)).2.kind:=g2.kind;generalize nth kn (ms.length-1-i)=km at *;have j7:=b2.cell 0 rfl;have hz:IJ (fun p=>p≠0/\p≠T+2) O6 w6 O6 w6:=L2 zo _ _;refine KC ?_;refine Je ?_;refine J1 (.inr rfl) (fun _ _ h=>h) ?_;refine zh ?_;refine zv (RV.ld (b2.cell 0 rfl) rfl) ?_;refine zv (RV.ld (c8.cell 0 rfl) rfl) ?_;refine zvH (cH rfl rfl) ?_
  cases h1:(m.1==sw)with
  |false=>
   rw[h1]at a0;refine au (d:=30) rfl (b':=false) (rfl) ?_;refine zh ?_;refine Jm ?_;refine aV ?_;refine kL rfl rfl ?_;refine K2 ?_;refine cR ?_;exact im O6 hz ⟨b3,b1,c8,a',d6,b6,b5 (by rw[a0];rfl)⟩
  |true=>
   rw[h1]at a0;refine au (d:=30) rfl (b':=true) (rfl) ?_;have d7:∀W:ka,(∀(j:Nat) (u:I3),(kS m)[j]? = some u->W.cell? (nA pb j)=some u)->∀(q:Nat) (u:I3),(aW m.2)[q]? = some u->W.cell? ((nA pb 1).add q)=some u:=fun W h=>cells_from (us:=kS m) 1 h (fun q u hu=>by rw[Ki];exact hu)
   refine zh ?_;refine zvH (ah (us:=aW m.2) (d7 _ b2.cellsAdd) (I2 _) (ix _) rfl) ?_
   refine zc L1 (eU km.2 m.2 w6 g2.zero) ?_;rintro v w7 ⟨rfl,g6⟩;have a4:IJ (fun _=>False) O6 w6 O6 w7:=aa (fun h=>h) O6 g6;have a2:=b1.upd a4 zo (fun h=>h);have e3:=c8.upd a4 zo (fun h=>h);have b7:=a'.upd a4 hj (fun h=>h);have e6:=b2.upd a4 zo (fun h=>h);have g3:=d0.upd a4;have f6:=b6.upd a4;have f8:=d6.upd a4;have e7:=g2.upd a4;have a7:=b3.trans (jh O6 g6 hj a1);have d1:IJ (fun p=>p≠0/\p≠T+2) O6 w6 O6 w7:=a4.mono (fun _ h=>h.elim) zo;refine zh ?_
   cases h2:bM km.2 with
   |false=>
    rw[h2]at a0;refine au (d:=35) rfl (b':=false) (rfl) ?_;refine zh ?_;refine Jm ?_;refine aV ?_;refine kL rfl rfl ?_;refine K2 ?_;refine cR ?_;exact im O6 d1 ⟨a7,a2,e3,b7,f8,f6,b5 (by rw[a0];rfl)⟩
   |true=>
    rw[h2]at a0;refine au (d:=35) rfl (b':=true) (rfl) ?_;have j6:w7.cell? ((nA pb 1).add 0)=some (nI m.2.1):=d7 _ e6.cellsAdd 0 _ rfl;refine zh ?_;refine Jm ?_;refine aV ?_
    cases h3:(km.2.kind != 9)with
    |false=>
     rw[h3]at a0;refine kL rfl ((by rw[f5];exact h3)) ?_;refine K2 ?_;refine cR ?_;exact im O6 d1 ⟨a7,a2,e3,b7,f8,f6,b5 (by rw[a0];rfl)⟩
    |true=>
     rw[h3]at a0;refine qR rfl ((by rw[f5];exact h3)) ?_;have d2:=e7.one;refine Je ?_;refine J1 (.inr rfl) (fun _ _ h=>h) ?_;refine zh ?_;refine zv (ah (us:=aW m.2) (d7 _ e6.cellsAdd) (I2 _) (ix _) rfl) ?_;refine zsb (us:=#[nI m.2.1,nI m.2.2.1,m.2.2.2]) a2 (ix _) (bW d2) ?_;have b4:=a2.setRow (us:=#[nI m.2.1,nI m.2.2.1,m.2.2.2]);have a6:IJ (fun k=>k=T) O6 w7 O6 (w7.setRow xb #[nI m.2.1,nI m.2.2.1,m.2.2.2]):=I0 zo a2.tag rfl;refine zh ?_;refine Jm ?_;refine aV ?_;refine KN ?_;refine gj ?_;exact ve O6 (d1.trans (a6.mono (fun _ h=>zo) zo)) ⟨rfl,a7.trans (a6.pT hj a1 (ln _)),b7.upd a6 hj zo,_,m.2,by rw[AM (by rw[J9];omega) a3 (by rw[a0];rfl),f4],e7.upd a6,b4⟩
 ·rintro D O6 w6 d0 e2 ⟨b3,b1,c8,a',d6,b6,a3⟩ hm;have hM:gq kn r=dy 0 r:=by
   exact um (by rw[c7];exact ha) (by rw[c7];exact AL (fun q hq=>a3 q (by simp at hq ⊢;omega)))
  have d':=b3;refine cR ?_;refine aV ?_;refine Je ?_;refine J1 (.inl rfl) (fun _ _ h=>h) ?_;refine zh ?_;refine aj (j:=1) a' rfl (Jb _) rfl rfl rfl rfl ?_;have b7:=a'.rAt ((l.length:Int)-(r.length:Int));have a7:IJ (fun k=>k=j) O6 w6 O6 (w6.setCell ⟨rb,1,none⟩ (nI ((l.length:Int)-(r.length:Int)))):=IN (fun e=>hj e.symm) a'.tag rfl;have a2:=b1.upd a7 zo zo;have g3:=d0.upd a7;have e':=(a7.blk D (bt hm) zo).trans hm;have b9:=d'.trans (a7.pj a1);generalize w6.setCell ⟨rb,1,none⟩ (nI ((l.length:Int)-(r.length:Int)))=w7 at *;refine zh ?_;refine Jm ?_;refine aV ?_;refine Je ?_;refine J1 (.inl rfl) (fun _ _ h=>h) ?_;refine zh ?_;refine zc call207 (sT 0 op h' B O6 j rb l r w7 g3 hj hr hl trivial b7 (b6.upd a7).ex) ?_;rintro v w8 ⟨x,rfl,a6,a9⟩;have b4:=a2.upd a6 zo zo;have e9:=(a6.blk D (bt e') zo).trans e';have d2:x.2.2.oneCell'=true:=by
   cases hc:dy 0 r with
   |ok t r'=>rw[hc]at a9;exact a9.2.one
   |bad p e=>rw[hc]at a9;exact a9.1
  refine zsb (us:=#[nI x.1,nI x.2.1,x.2.2]) b4 (ix _) (bW d2) ?_;have g9:=b4.setRow (us:=#[nI x.1,nI x.2.1,x.2.2]);have c':IJ (fun k=>k=T) O6 w8 O6 (w8.setRow xb #[nI x.1,nI x.2.1,x.2.2]):=I0 zo b4.tag rfl;have i1:=(c'.blk D (bt e9) zo).trans e9;have a5:IJ (fun k=>k=T+2) O6 (w8.setRow xb #[nI x.1,nI x.2.1,x.2.2]) O6 ((w8.setRow xb #[nI x.1,nI x.2.1,x.2.2]).putObj D (.deferred none)):=Jl zo e2 _;have c5:=(c'.pT hj a1 (ln _)).trans (a5.pT hj a1 zo);have d4:=g9.upd a5 zo zo;refine zh ?_
  refine Jm ?_;refine aV ?_
  refine KN ?_;refine kQ (Le i1 (ir rfl rfl d4.cellsAdd (I2 _) (ix _) ⟨x,rfl,((b9.trans (a6.pj a1)).trans c5).priv hT hj,?_⟩))
  rw[hM]
  cases hc:dy 0 r with
  |ok t r'=>
   rw[hc]at a9;exact⟨((a9.1.upd c' hj zo).upd a5 hj zo).fgt h.tag,(a9.2.upd c5).low (b9.trans (a6.pj a1))⟩
  |bad p e=>
   rw[hc]at a9;obtain⟨h1,a,g8,h2,h3⟩:=a9;exact⟨h1,a,g8,((h2.upd c' hj zo).upd a5 hj zo).fgt h.tag,h3⟩
 rintro D c O6 w6 d0 e2 ⟨rfl,b3,a',m,x,i6,b5,b1⟩ hm;have a5:IJ (fun k=>k=T+2) O6 w6 O6 (w6.putObj D (.deferred none)):=Jl zo e2 _;have c5:=b3.trans (a5.pT hj a1 zo);have a2:=b1.upd a5 zo zo;refine KN ?_;refine gj ?_;refine iT ?_;refine kQ (Le hm (ir rfl rfl a2.cellsAdd (I2 _) (ix _) ⟨x,rfl,c5.priv hT hj,?_⟩));rw[uk (by rw[c7];exact ha) (by rw[c7];exact i6)];exact⟨(a'.upd a5 hj zo).fgt h.tag,(b5.upd a5).low c5⟩
end
section
variable{kv:I3}{kn:Kn}
theorem uJ(b:UInt8)(k:Nat)(hk:k<256)(h:¬b=IK k):((b.toNat:Int) != (k:Int))=true:=by rw[bne,nz b k hk,decide_eq_false h];rfl
theorem ia(b:UInt8)(k:Nat)(hk:k<256)(h:¬b=IK k):((b.toNat:Int)==(k:Int))=false:=by rw[nz b k hk,decide_eq_false h]
theorem PostE.one{O:Nat->Nat}{w:ka}{j rb:Nat}{l:List UInt8}{op:Int}{x:N3}{M:PR}(h:KU kv O w j rb l op x M):x.2.2.oneCell'=true:=by
 cases M with
 |ok t r=>exact h.2.one
 |bad p e=>exact h.1
theorem PostE.upd{S:Nat->Prop}{O O':Nat->Nat}{w w':ka}{j rb:Nat}{l:List UInt8}{op:Int}{x:N3}{M:PR}(h:KU kv O w j rb l op x M)(u:IJ S O w O' w')(hj:j≠0)(hS:¬S j):KU kv O' w' j rb l op x M:=by
 cases M with
 |ok t r=>exact⟨I7 h.1 u hj hS,h.2.upd u⟩
 |bad p e=>obtain⟨h1,a,o,h2,h3⟩:=h;exact⟨h1,a,o,I7 h2 u hj hS,h3⟩
theorem PostE.low{S:Nat->Prop}{O O':Nat->Nat}{w w0 w':ka}{j rb:Nat}{l:List UInt8}{op:Int}{x:N3}{M:PR}(h:KU kv O' w' j rb l op x M)(u:IJ S O w O' w0)(a0:O rb=j):KU kv O w' j rb l op x M:=by
 cases M with
 |ok t r=>exact⟨Lp h.1 a0,h.2.low u⟩
 |bad p e=>obtain⟨h1,a,o,h2,h3⟩:=h;exact⟨h1,a,o,Lp h2 a0,h3⟩
theorem qi(k:Int)(xs:List N3)(lv:I3)(w:ka)(h:Sl aW 3 w lv xs)(h1:∀i,i<xs.length->(nth xs i).2.2.oneCell'=true):
  JE IQ 167 [nI k,lv] w fun v w'=>v=nv (if xs.length=1 then nth xs 0 else(k,0,lv))/\Jq w w':=by
 refine I4 func167 ntmps167 rfl rfl ?_;refine zh ?_
 refine ar (aw w) 1 zo (I5 _) rfl ?_;intro xb w1 O1 a0 a3 a6 a5;have a2:=h.ext a5;refine zh ?_
 by_cases hl:xs.length=1
 ·have a4:=h1 0 zo;rw[if_pos hl];refine zTH rfl ((by rw[hl];rfl)) ?_;refine zv (JN a2 underlying84 (ix _) rfl rfl 0 rfl zo) ?_;refine zv (ah (us:=aW (nth xs 0)) (fun j u hu=>a2.cell zo hu) (I2 _) (ix _) rfl) ?_;refine zsb (us:=#[nI (nth xs 0).1,nI (nth xs 0).2.1,(nth xs 0).2.2]) a0 (ix _) (bW a4) ?_;have a1:=a0.setRow (us:=#[nI (nth xs 0).1,nI (nth xs 0).2.1,(nth xs 0).2.2]);refine zh ?_;refine aJ rfl rfl (a1.cellsAdd) (I2 _) (ix _) (⟨rfl,(a3.trans (I0 zd a0.tag rfl)).ext⟩)
 rw[if_neg hl];refine zFH rfl ((by simp;omega)) ?_;refine zv (aE vq (I5 _) rfl (by first|rfl|(simp only[II,h.one];rfl)) rfl rfl) ?_;refine zsb (us:=#[nI k,nI 0,lv]) a0 (ix _) (bW (x:=(k,0,lv)) h.one) ?_;have a1:=a0.setRow (us:=#[nI k,nI 0,lv]);refine zh ?_;refine aJ rfl rfl (a1.cellsAdd) (I2 _) (ix _) (⟨rfl,(a3.trans (I0 zd a0.tag rfl)).ext⟩)
def tt(kv:I3)(kn:Kn)(al:Option (List UInt8->PR))(op:Int):Prop:=
 match al with
 |none=>op=20
 |some f=>op<20/\KD kv kn 152 [] (op+1) f (fun _=>True)
theorem sZ(al:Option (List UInt8->PR))(op:Int)(h7:0<=op/\op<=20)(ha:tt kv kn al op)(hg:mw al):KD kv kn 208 [] op (bX al) (fun r=>r.headD 0≠0):=by
 intro B O j rb l r w hR hj hr hl d1 h g7;obtain⟨T,a0,hT⟩:=hR.bound;have h8:j<T:=by rw[<-h.tag];exact hT rb
 have h6:=hr.length_le;refine I4 func208 ntmps208 rfl rfl ?_;refine zh ?_;refine ar hR T zo (I5 _) rfl ?_;intro xb w1 O1 e6 e' f5 i1;have a7:=h.upd e' hj zo;have b4:=e'.pT hj a0 (ln _);obtain⟨f',h5⟩:=bV d1;have e7:=f'.trans hr;refine zh ?_;refine zvH (RV.ld a7.r3 rfl) ?_
 cases al with
 |none=>
  have hM:bX none r=.bad r.length 6:=rfl;replace ha:op=20:=ha;refine zTH rfl ((by rw[ha];rfl)) ?_;refine zv (RV.ld a7.r1 rfl) ?_;refine zc KG (gd _ O1 w1 j rb l _ _ 0 ((l.length:Int)-(r.length:Int)) 6 hj f5 a7) ?_;rintro v wf ⟨rfl,d8,b6⟩;have a6:=e6.upd b6 zo zo;refine zsa (us:=#[nI 0,nI 0,nS]) a6 (ix _) ?_;have c9:=a6.setRow (us:=#[nI 0,nI 0,nS]);have b5:IJ (fun k=>k=T) O1 wf O1 (wf.setRow xb #[nI 0,nI 0,nS]):=I0 zo a6.tag rfl;have hbg:=d8.upd b5 hj zo;refine zh ?_;refine aJ rfl rfl (c9.cellsAdd) (I2 _) (ix _) (⟨(0,0,nS),rfl,((b4.trans (b6.pj a0)).trans (b5.pT hj a0 (ln _))).priv hT hj,?_⟩);rw[hM];exact⟨rfl,_,op,hbg.fgt h.tag,zo,zo,zo,zo⟩
 |some f=>
  obtain⟨h9,g'⟩:=ha;have b9:=hg f rfl r.tail;refine zFH rfl ((by simp;omega)) ?_;refine zvH (RV.ld a7.r1 rfl) ?_;refine aj (j:=1) a7 rfl (Jb _) rfl rfl rfl rfl ?_;rw[show((l.length:Int)-(r.length:Int))+1=(l.length:Int)-(r.tail.length:Int)from by omega];have c5:=JL a7 ((l.length:Int)-(r.tail.length:Int));have e4:IJ (fun k=>k=j) O1 w1 O1 (IM w1 ⟨rb,1,none⟩ (nI ((l.length:Int)-(r.tail.length:Int)))):=IN (fun e=>hj e.symm) (ID a7) rfl;have f9:=e6.upd e4 zo zo;have h4:=f5.upd e4;generalize IM w1 ⟨rb,1,none⟩ (nI ((l.length:Int)-(r.tail.length:Int)))=w2 at *;refine zh ?_;refine zvH (RV.ld c5.r3 rfl) ?_;refine aj (j:=3) c5 rfl (Jb _) rfl rfl rfl rfl ?_;have g9:=c5.rOp (op+1);have e3:IJ (fun k=>k=j) O1 w2 O1 (w2.setCell ⟨rb,3,none⟩ (nI (op+1))):=IN (fun e=>hj e.symm) c5.tag rfl;have f8:=f9.upd e3 zo zo;have f4:=h4.upd e3;have b3:=(b4.trans (e4.pj a0)).trans (e3.pj a0);generalize w2.setCell ⟨rb,3,none⟩ (nI (op+1))=w3 at *;refine zh ?_;refine zc call152 (g' B O1 j rb l r.tail w3 f4 hj e7 hl trivial g9 (g7.upd b3)) ?_;rintro v w4 ⟨x,rfl,e2,f6⟩;have b7:=f6.one;have f7:=f8.upd e2 zo zo;have f3:=f4.upd e2;have e1:=b3.trans (e2.pj a0);refine ar f3 (T+1) zo (I5 _) rfl ?_;intro nb w5 O5 d7 h1 h' i0;refine zsb (us:=#[nI x.1,nI x.2.1,x.2.2]) d7 (ix _) (bW b7) ?_;have e9:=d7.setRow (us:=#[nI x.1,nI x.2.1,x.2.2])
  have h0:IJ (fun k=>k=T+1) O5 w5 O5 (w5.setRow nb #[nI x.1,nI x.2.1,x.2.2]):=I0 zo d7.tag rfl;have a4:=h1.trans h0;have e5:=f7.upd a4 zo zo;have c8:=f6.upd a4 hj zo;have h3:=f3.upd a4;have b2:=e1.trans (a4.pT hj a0 (J2 _));generalize w5.setRow nb #[nI x.1,nI x.2.1,x.2.2]=w6 at *
  cases hf:f r.tail with
  |bad p e=>
   rw[hf]at b9 c8;have hM:bX (some f) r=.bad p e:=by unfold bX;dsimp only;rw[hf]
   obtain⟨g1,a,a',a1,g2,g3,g4,g5⟩:=c8;replace a1:IX O5 w6 j rb (rdr kv l a a' ((l.length:Int)-(p:Int)) e) 237:=a1;refine zh ?_;refine zvH (RV.ld a1.r5 rfl) ?_;refine au (d:=39) rfl (b':=false) ((by simpa using b9.2)) ?_;refine zh ?_;refine zFH rfl rfl ?_;refine zvH (RV.ld a1.r1 rfl) ?_;refine aj (j:=1) a1 rfl (Jb _) rfl rfl rfl rfl ?_;have a2:=a1.rAt (a+1);have a3:IJ (fun k=>k=j) O5 w6 O5 (w6.setCell ⟨rb,1,none⟩ (nI (a+1))):=IN (fun e=>hj e.symm) a1.tag rfl;have b8:=e5.upd a3 zo zo;have d6:=e9.upd a3 zo zo;generalize w6.setCell ⟨rb,1,none⟩ (nI (a+1))=w7 at *;refine zh ?_;refine zvH (RV.ld a2.r3 rfl) ?_;refine aj (j:=3) a2 rfl (Jb _) rfl rfl rfl rfl ?_;have a8:=a2.rOp (a'-1);have a5:IJ (fun k=>k=j) O5 w7 O5 (w7.setCell ⟨rb,3,none⟩ (nI (a'-1))):=IN (fun e=>hj e.symm) a2.tag rfl;have b0:=b8.upd a5 zo zo;have d5:=d6.upd a5 zo zo;generalize w7.setCell ⟨rb,3,none⟩ (nI (a'-1))=w8 at *;have e0:=(b2.trans (a3.pj a0)).trans (a5.pj a0);refine zh ?_;refine zv (ah (us:=aW x) d5.cellsAdd (I2 _) (ix _) rfl) ?_;refine zsb (us:=#[nI x.1,nI x.2.1,x.2.2]) b0 (ix _) (bW b7) ?_;have c':=I8 (us:=#[nI x.1,nI x.2.1,x.2.2]) b0;have a9:IJ (fun k=>k=T) O5 w8 O5 (I6 w8 xb #[nI x.1,nI x.2.1,x.2.2]):=I0 zo (ID b0) rfl;have d9:=a8.upd a9 hj zo;have c6:=e0.trans (a9.pT hj a0 (ln _));refine zh ?_
   refine aJ rfl rfl (c'.cellsAdd) (I2 _) (ix _) (⟨x,rfl,c6.priv hT hj,?_⟩);rw[hM];exact⟨b7,a+1,a'-1,d9.fgt h.tag,zo,zo,zo,zo⟩
  |ok t r2=>
   rw[hf]at b9 c8;obtain⟨a1,hn⟩:=c8;replace a1:IX O5 w6 j rb (rdr kv l ((l.length:Int)-(r2.length:Int)) (op+1) 0 0) 237:=a1;have e8:=b9.1.trans e7;have g0:=(aX r2).trans e8;have hq2l:=g0.length_le;refine zh ?_;refine zvH (RV.ld a1.r5 rfl) ?_;refine au (d:=39) rfl (b':=true) (rfl) ?_;refine zh ?_;refine zc Kb (fN O5 w6 j rb l r2 (op+1) 0 0 hj e8 zo a1) ?_;rintro v w7 ⟨rfl,a2,a3⟩;have b8:=e5.upd a3 zo zo;have d6:=e9.upd a3 zo zo;have h2:=h3.upd a3;have b1:=b2.trans (a3.pj a0);have d4:=hn.upd a3;refine zh ?_
   by_cases hc:(aq r2).headD 0=41
   ·have hM:bX (some f) r=.ok t (aq r2).tail:=by unfold bX;dsimp only;rw[hf];dsimp only;rw[if_pos hc]
    obtain⟨g1,g2⟩:=bV (r:=aq r2) (by rw[hc];decide);refine zFH rfl ((by rw[hc];rfl)) ?_;refine zvH (RV.ld a2.r1 rfl) ?_;refine aj (j:=1) a2 rfl (Jb _) rfl rfl rfl rfl ?_;rw[show((l.length:Int)-((aq r2).length:Int))+1=(l.length:Int)-((aq r2).tail.length:Int)from by omega];have a8:=JL a2 ((l.length:Int)-((aq r2).tail.length:Int));have a5:IJ (fun k=>k=j) O5 w7 O5 (IM w7 ⟨rb,1,none⟩ (nI ((l.length:Int)-((aq r2).tail.length:Int)))):=IN (fun e=>hj e.symm) (ID a2) rfl;have b0:=b8.upd a5 zo zo;have d5:=d6.upd a5 zo zo;have d3:=d4.upd a5;generalize IM w7 ⟨rb,1,none⟩ (nI ((l.length:Int)-((aq r2).tail.length:Int)))=w8 at *;refine zh ?_;refine zvH (RV.ld a8.r3 rfl) ?_;refine aj (j:=3) a8 rfl (Jb _) rfl rfl rfl rfl ?_;rw[show op+1-1=op from by omega];have g8:=a8.rOp op;have c7:IJ (fun k=>k=j) O5 w8 O5 (w8.setCell ⟨rb,3,none⟩ (nI op)):=IN (fun e=>hj e.symm) a8.tag rfl;have d0:=b0.upd c7 zo zo;have g6:=d5.upd c7 zo zo;have d2:=d3.upd c7;generalize w8.setCell ⟨rb,3,none⟩ (nI op)=w9 at *;have d':=(b1.trans (a5.pj a0)).trans (c7.pj a0);refine zh ?_;refine zv (ah (us:=aW x) g6.cellsAdd (I2 _) (ix _) rfl) ?_;refine zsb (us:=#[nI x.1,nI x.2.1,x.2.2]) d0 (ix _) (bW b7) ?_;have c':=I8 (us:=#[nI x.1,nI x.2.1,x.2.2]) d0;have a9:IJ (fun k=>k=T) O5 w9 O5 (I6 w9 xb #[nI x.1,nI x.2.1,x.2.2]):=I0 zo (ID d0) rfl
    have d9:=g8.upd a9 hj zo;have c6:=d'.trans (a9.pT hj a0 (ln _));refine zh ?_;refine aJ rfl rfl (c'.cellsAdd) (I2 _) (ix _) (⟨x,rfl,c6.priv hT hj,?_⟩);rw[hM];exact⟨d9.fgt h.tag,(d2.upd a9).low c6⟩
   have hM:bX (some f) r=.bad (aq r2).length 4:=by unfold bX;dsimp only;rw[hf];dsimp only;rw[if_neg hc]
   refine zTH rfl ((uJ _ 41 zd hc)) ?_;refine zv (RV.ld a2.r1 rfl) ?_
   refine zc KG (gd _ O5 w7 j rb l _ _ 0 ((l.length:Int)-((aq r2).length:Int)) 4 hj h2 a2) ?_;rintro v wf ⟨rfl,d8,b6⟩;have a6:=b8.upd b6 zo zo;refine zsa (us:=#[nI 0,nI 0,nS]) a6 (ix _) ?_
   have c9:=a6.setRow (us:=#[nI 0,nI 0,nS]);have b5:IJ (fun k=>k=T) O5 wf O5 (wf.setRow xb #[nI 0,nI 0,nS]):=I0 zo a6.tag rfl;have hbg:=d8.upd b5 hj zo;refine zh ?_;refine aJ rfl rfl (c9.cellsAdd) (I2 _) (ix _) (⟨(0,0,nS),rfl,((b1.trans (b6.pj a0)).trans (b5.pT hj a0 (ln _))).priv hT hj,?_⟩);rw[hM];exact⟨rfl,_,op+1,hbg.fgt h.tag,zo,zo,zo,zo⟩
theorem CA(al:Option (List UInt8->PR))(op:Int)(b4:0<=op/\op<=20)(ha:tt kv kn al op)(hg:mw al):KD kv kn 201 [] op (iX kn al) (fun _=>True):=by
 intro B O j rb l r w hR hj hr hl c9 h b5;obtain⟨T,a1,hT⟩:=hR.bound;have d6:j<T:=by rw[<-h.tag];exact hT rb
 have d4:=hr.length_le;refine I4 func201 ntmps201 rfl rfl ?_;refine zh ?_;refine ar hR T zo (I5 _) rfl ?_;intro xb w1 O1 c8 c6 d3 d7;have d1:=h.upd c6 hj zo;have b7:=c6.pT hj a1 (ln _);have hq:=(aX r).trans hr;have d5:=hq.length_le;refine zh ?_;refine zc Kb (fN O1 w1 j rb l r op 0 0 hj hr zo d1) ?_;rintro v w2 ⟨rfl,a2,b8⟩;have b1:=c8.upd b8 zo zo;have b2:=d3.upd b8;have a0:=b7.trans (b8.pj a1);refine zh ?_;refine zc call202 (iE ((aq r).headD 0) w2) ?_;rintro v w9 ⟨rfl,b9⟩;rw[b9];clear b9 w9;refine zh ?_
 by_cases h1:ak ((aq r).headD 0)=true
 ·have hM:iX kn al r=gq kn (aq r):=by unfold iX;rw[if_pos h1]
  rw[hM];refine zTH rfl (h1) ?_;refine zc call206 (zX op b4 B O1 j rb l (aq r) w2 b2 hj hq hl h1 a2 (b5.upd a0)) ?_;rintro v wc ⟨x,rfl,a6,a7⟩;have a8:=a7.one;have a3:=I7 b1 a6 zo zo;refine zsb (us:=#[nI x.1,nI x.2.1,x.2.2]) a3 (ix _) (bW a8) ?_;have a9:=I8 (us:=#[nI x.1,nI x.2.1,x.2.2]) a3;have a4:IJ (fun k=>k=T) O1 wc O1 (I6 wc xb #[nI x.1,nI x.2.1,x.2.2]):=I0 zo (ID a3) rfl;have a5:=(a0.trans (a6.pj a1)).trans (a4.pT hj a1 (ln _));refine zh ?_;refine aJ rfl rfl (a9.cellsAdd) (I2 _) (ix _) (⟨x,rfl,a5.priv hT hj,(a7.upd a4 hj zo).low a5 h.tag⟩)
 refine zFH rfl ((by simpa using h1)) ?_
 by_cases h2:(aq r).headD 0=126
 ·have hM:iX kn al r=dy 2 (aq r).tail:=by unfold iX;rw[if_neg h1,if_pos h2]
  obtain⟨k1,k2⟩:=bV (r:=aq r) (by rw[h2];decide);rw[hM];refine zTH rfl ((by rw[h2];rfl)) ?_;refine zvH (RV.ld a2.r1 rfl) ?_;refine aj (j:=1) a2 rfl (Jb _) rfl rfl rfl rfl ?_;rw[show((l.length:Int)-((aq r).length:Int))+1=(l.length:Int)-((aq r).tail.length:Int)from by omega];have b6:=JL a2 ((l.length:Int)-((aq r).tail.length:Int));have a':IJ (fun k=>k=j) O1 w2 O1 (IM w2 ⟨rb,1,none⟩ (nI ((l.length:Int)-((aq r).tail.length:Int)))):=IN (fun e=>hj e.symm) (ID a2) rfl;have b0:=b1.upd a' zo zo;have d2:=b2.upd a';refine zh ?_;refine zc call207 (sT 2 op b4 B O1 j rb l (aq r).tail _ d2 hj (k1.trans hq) hl trivial b6 (b5.upd (a0.trans (a'.pj a1)))) ?_;rintro v wc ⟨x,rfl,a6,a7⟩;have a8:=a7.one;have a3:=I7 b0 a6 zo zo;refine zsb (us:=#[nI x.1,nI x.2.1,x.2.2]) a3 (ix _) (bW a8) ?_;have a9:=I8 (us:=#[nI x.1,nI x.2.1,x.2.2]) a3;have a4:IJ (fun k=>k=T) O1 wc O1 (I6 wc xb #[nI x.1,nI x.2.1,x.2.2]):=I0 zo (ID a3) rfl;have a5:=((a0.trans (a'.pj a1)).trans (a6.pj a1)).trans (a4.pT hj a1 (ln _));refine zh ?_;refine aJ rfl rfl (a9.cellsAdd) (I2 _) (ix _) (⟨x,rfl,a5.priv hT hj,(a7.upd a4 hj zo).low a5 h.tag⟩)
 refine zFH rfl ((ia _ 126 zd h2)) ?_
 by_cases h3:(aq r).headD 0=94
 ·have hM:iX kn al r=.ok (.mk 3 0 []) (aq r).tail:=by unfold iX;rw[if_neg h1,if_neg h2,if_pos h3]
  obtain⟨k1,k2⟩:=bV (r:=aq r) (by rw[h3];decide);rw[hM];refine zTH rfl ((by rw[h3];rfl)) ?_;refine zvH (RV.ld a2.r1 rfl) ?_;refine aj (j:=1) a2 rfl (Jb _) rfl rfl rfl rfl ?_;rw[show((l.length:Int)-((aq r).length:Int))+1=(l.length:Int)-((aq r).tail.length:Int)from by omega];have b6:=JL a2 ((l.length:Int)-((aq r).tail.length:Int));have a':IJ (fun k=>k=j) O1 w2 O1 (IM w2 ⟨rb,1,none⟩ (nI ((l.length:Int)-((aq r).tail.length:Int)))):=IN (fun e=>hj e.symm) (ID a2) rfl;have b0:=b1.upd a' zo zo;have a8:((3,0,nS):N3).2.2.oneCell'=true:=rfl;refine zh ?_;refine zv (aE vq (I5 _) rfl (by first|rfl|(simp only[II,h.one];rfl)) rfl rfl) ?_;refine zsb (us:=#[nI ((3,0,nS):N3).1,nI ((3,0,nS):N3).2.1,((3,0,nS):N3).2.2]) b0 (ix _) (bW a8) ?_;have a9:=I8 (us:=#[nI ((3,0,nS):N3).1,nI ((3,0,nS):N3).2.1,((3,0,nS):N3).2.2]) b0;have a4:IJ (fun k=>k=T) O1 (IM w2 ⟨rb,1,none⟩ (nI ((l.length:Int)-((aq r).tail.length:Int)))) O1 (I6 (IM w2 ⟨rb,1,none⟩ (nI ((l.length:Int)-((aq r).tail.length:Int)))) xb #[nI ((3,0,nS):N3).1,nI ((3,0,nS):N3).2.1,((3,0,nS):N3).2.2]):=I0 zo (ID b0) rfl;have d0:=b6.upd a4 hj zo;have a5:=(a0.trans (a'.pj a1)).trans (a4.pT hj a1 (ln _));refine zh ?_;refine aJ rfl rfl (a9.cellsAdd) (I2 _) (ix _) (⟨(3,0,nS),rfl,a5.priv hT hj,d0.fgt h.tag,Kq _ _ _ _⟩)
 refine zFH rfl ((ia _ 94 zd h3)) ?_
 by_cases h4:(aq r).headD 0=40
 ·have hM:iX kn al r=bX al (aq r):=by unfold iX;rw[if_neg h1,if_neg h2,if_neg h3,if_pos h4]
  rw[hM];refine zTH rfl ((by rw[h4];rfl)) ?_;refine zc call208 (sZ al op b4 ha hg B O1 j rb l (aq r) w2 b2 hj hq hl (show(aq r).headD 0≠0 by rw[h4];decide) a2 (b5.upd a0)) ?_;rintro v wc ⟨x,rfl,a6,a7⟩;have a8:=a7.one;have a3:=I7 b1 a6 zo zo;refine zsb (us:=#[nI x.1,nI x.2.1,x.2.2]) a3 (ix _) (bW a8) ?_;have a9:=I8 (us:=#[nI x.1,nI x.2.1,x.2.2]) a3;have a4:IJ (fun k=>k=T) O1 wc O1 (I6 wc xb #[nI x.1,nI x.2.1,x.2.2]):=I0 zo (ID a3) rfl;have a5:=(a0.trans (a6.pj a1)).trans (a4.pT hj a1 (ln _));refine zh ?_;refine aJ rfl rfl (a9.cellsAdd) (I2 _) (ix _) (⟨x,rfl,a5.priv hT hj,(a7.upd a4 hj zo).low a5 h.tag⟩)
 have hM:iX kn al r=.bad (aq r).length 4:=by unfold iX;rw[if_neg h1,if_neg h2,if_neg h3,if_neg h4]
 rw[hM];refine zFH rfl ((ia _ 40 zd h4)) ?_;refine zv (RV.ld a2.r1 rfl) ?_;refine zc KG (gd _ O1 w2 j rb l _ _ 0 ((l.length:Int)-((aq r).length:Int)) 4 hj b2 a2) ?_;rintro v wf ⟨rfl,c',c5⟩;have b3:=b1.upd c5 zo zo;refine zsa (us:=#[nI 0,nI 0,nS]) b3 (ix _) ?_;have c7:=b3.setRow (us:=#[nI 0,nI 0,nS]);have b':IJ (fun k=>k=T) O1 wf O1 (wf.setRow xb #[nI 0,nI 0,nS]):=I0 zo b3.tag rfl;have hbg:=c'.upd b' hj zo;refine zh ?_;refine aJ rfl rfl (c7.cellsAdd) (I2 _) (ix _) (⟨(0,0,nS),rfl,((a0.trans (c5.pj a1)).trans (b'.pT hj a1 (ln _))).priv hT hj,?_⟩);exact⟨rfl,_,op,hbg.fgt h.tag,zo,zo,zo,zo⟩
end
section
variable{kv:I3}{kn:Kn}
theorem DC(c:UInt8):rf [42,43,63] c=match opM c with|some k=>(k:Nat)|none=>-1:=by
 unfold rf opM
 by_cases h1:c=42
 ·subst h1;rfl
 by_cases h2:c=43
 ·subst h2;rfl
 by_cases h3:c=63
 ·subst h3;rfl
 rw[if_neg h1,if_neg h2,if_neg h3];have:[(42:UInt8),43,63].findIdx? (· == c)=none:=by
  rw[IZ];intro x hx;simp at hx
  rcases hx with rfl|rfl|rfl<;>simp<;>intro e<;>first|exact h1 e.symm|exact h2 e.symm|exact h3 e.symm
 rw[this]
theorem rZ(al:Option (List UInt8 → PR))(op:Int)(hop:0 ≤ op ∧ op ≤ 20)(ha:tt kv kn al op)(hg:mw al): KD kv kn 190 [] op (eG kn al) (fun _ => True) := by
  intro B O j rb l r w hR hj hr hl hpre h hkn
  obtain⟨T, hT0, hT⟩ := hR.bound
  have hjT:j < T := by rw[← h.tag]; exact hT rb
  have hrl := hr.length_le
  refine I4 func190 ntmps190 rfl rfl ?_
  refine zh ?_
  refine ar hR T (by omega) (I5 _) rfl ?_
  intro xb w1 O1 hx1 hU1 hR1 hE1
  have hb1 := h.upd hU1 hj (by omega)
  have hUt1 := hU1.pT hj hT0 (ln _)
  have hga := pI (kn := kn) hg r
  refine zh ?_
  refine zc call201 (CA al op hop ha hg B O1 j rb l r w1 hR1 hj hr hl trivial hb1 (hkn.upd hUt1)) ?_
  rintro v w2 ⟨x, rfl, hU2, hP2⟩
  have hxo := hP2.one
  have hx2 := hx1.upd hU2 (by omega) (by omega)
  have hR2 := hR1.upd hU2
  have hUt2 := hUt1.trans (hU2.pj hT0)
  refine ar hR2 (T + 1) (by omega) (I5 _) rfl ?_
  intro nb w3 O3 hn3 hU3 hR3 hE3
  refine zsb (us := #[.int .i64 x.1, .int .i64 x.2.1, x.2.2]) hn3 (ix _) (bW hxo) ?_
  have hn4 := hn3.setRow (us := #[.int .i64 x.1, .int .i64 x.2.1, x.2.2])
  have hU4:IJ (fun k => k = T + 1) O3 w3 O3 (w3.setRow nb #[.int .i64 x.1, .int .i64 x.2.1, x.2.2]) := I0 (by omega) hn3.tag rfl
  have hU34 := hU3.trans hU4
  have hx4 := hx2.upd hU34 (by omega) (by omega)
  have hP4 := hP2.upd hU34 hj (by omega)
  have hR4 := hR2.upd hU34
  have hUt4 := hUt2.trans (hU34.pT hj hT0 (J2 _))
  generalize w3.setRow nb #[.int .i64 x.1, .int .i64 x.2.1, x.2.2] = w4 at *
  cases hf:iX kn al r with
  |bad p e =>
    rw[hf]at hga hP4
    have hM:eG kn al r = .bad p e := by unfold eG; rw[hf]
    have hP5 := hP4
    obtain⟨g1, a, op', hb4, g2, g3, g4, g5⟩ := hP4
    replace hb4:IX O3 w4 j rb (rdr kv l a op' ((l.length:Int) - (p:Int)) e) 237 := hb4
    refine zh ?_
    refine zvH (RV.ld hb4.r5 rfl) ?_
    refine zTH rfl ((by simpa using hga.2)) ?_
    refine zv (ah (us := aW x) hn4.cellsAdd (I2 _) (ix _) rfl) ?_
    refine zsb (us := #[.int .i64 x.1, .int .i64 x.2.1, x.2.2]) hx4 (ix _) (bW hxo) ?_
    have hxd := I8 (us := #[.int .i64 x.1, .int .i64 x.2.1, x.2.2]) hx4
    have hUd:IJ (fun k => k = T) O3 w4 O3 (I6 w4 xb #[.int .i64 x.1, .int .i64 x.2.1, x.2.2]) := I0 (by omega) (ID hx4) rfl
    have hUz := hUt4.trans (hUd.pT hj hT0 (ln _))
    refine zh ?_
    refine aJ rfl rfl (hxd.cellsAdd) (I2 _) (ix _) (⟨x, rfl, hUz.priv hT hj, ?_⟩)
    rw[hM]
    exact(hP5.upd hUd hj (by omega)).low hUz h.tag
  |ok t r1 =>
    rw[hf]at hga hP4
    obtain⟨hb4, hnt4⟩ := hP4
    replace hb4:IX O3 w4 j rb (rdr kv l ((l.length:Int) - (r1.length:Int)) op 0 0) 237 := hb4
    have hr1 := hga.1.trans hr
    have hq1 := (aX r1).trans hr1
    have hql := hq1.length_le
    refine zh ?_
    refine zvH (RV.ld hb4.r5 rfl) ?_
    refine zFH rfl rfl ?_
    refine zc Kb (fN O3 w4 j rb l r1 op 0 0 hj hr1 (by omega) hb4) ?_
    rintro v w5 ⟨rfl, hb5, hU5⟩
    have hx5 := hx4.upd hU5 (by omega) (by omega)
    have hn5 := hn4.upd hU5 (by omega) (by omega)
    have hR5 := hR4.upd hU5
    have hUt5 := hUt4.trans (hU5.pj hT0)
    have hnt5 := hnt4.upd hU5
    refine zc LF (dp [42, 43, 63] ((aq r1).headD 0) w5) ?_
    rintro v w9 ⟨rfl, hw9⟩
    rw[hw9, DC]
    clear hw9 w9
    have hb6 := hb5.drew
    have hx6 := hx5.drew
    have hn6 := hn5.drew
    have hnt6 := hnt5.drew
    have hUt6 := hUt5.drew
    have hR6 := hR5.drew
    refine zh ?_
    refine Jh (by kernel_rfl) (by kernel_rfl) ?_
    refine zh ?_
    refine zwH (RV.ld hb6.r1 rfl) ?_
    refine zw (RV.ld hb6.r0 rfl) ?_
    refine zwH (bZ I1 rfl) ?_
    cases hk:opM ((aq r1).headD 0)with
    |none =>
      have hM:eG kn al r = .ok t (aq r1) := by unfold eG; rw[hf]; dsimp only; rw[hk]
      by_cases hq0:(aq r1).length = 0
      · skip
        refine cy (d := 30) rfl (b' := true) ((beq_iff_eq.2 (by omega))) ?_
        generalize w5.drew = w6 at *
        refine zh ?_
        refine zw (bp rfl rfl) ?_
        refine Ja ?_
        refine zh ?_
        refine zTH rfl rfl ?_
        refine zv (ah (us := aW x) hn6.cellsAdd (I2 _) (ix _) rfl) ?_
        refine zsb (us := #[.int .i64 x.1, .int .i64 x.2.1, x.2.2]) hx6 (ix _) (bW hxo) ?_
        have hxd := I8 (us := #[.int .i64 x.1, .int .i64 x.2.1, x.2.2]) hx6
        have hUd:IJ (fun k => k = T) O3 w6 O3 (I6 w6 xb #[.int .i64 x.1, .int .i64 x.2.1, x.2.2]) := I0 (by omega) (ID hx6) rfl
        have hUz := hUt6.trans (hUd.pT hj hT0 (ln _))
        have hbd := hb6.upd hUd hj (by omega)
        refine zh ?_
        refine aJ rfl rfl (hxd.cellsAdd) (I2 _) (ix _) (⟨x, rfl, hUz.priv hT hj, ?_⟩)
        rw[hM]
        exact⟨hbd.fgt h.tag, (hnt6.upd hUd).low hUz⟩
      · skip
        refine cy (d := 30) rfl (b' := false) ((beq_eq_false_iff_ne.2 (by omega))) ?_
        refine zh ?_
        refine zw (bq rfl rfl) ?_
        refine Ja ?_
        refine zh ?_
        refine aO rfl rfl ?_
        generalize w5.drew = w6 at *
        refine zh ?_
        refine zv (ah (us := aW x) hn6.cellsAdd (I2 _) (ix _) rfl) ?_
        refine zsb (us := #[.int .i64 x.1, .int .i64 x.2.1, x.2.2]) hx6 (ix _) (bW hxo) ?_
        have hxd := I8 (us := #[.int .i64 x.1, .int .i64 x.2.1, x.2.2]) hx6
        have hUd:IJ (fun k => k = T) O3 w6 O3 (I6 w6 xb #[.int .i64 x.1, .int .i64 x.2.1, x.2.2]) := I0 (by omega) (ID hx6) rfl
        have hUz := hUt6.trans (hUd.pT hj hT0 (ln _))
        have hbd := hb6.upd hUd hj (by omega)
        refine zh ?_
        refine aJ rfl rfl (hxd.cellsAdd) (I2 _) (ix _) (⟨x, rfl, hUz.priv hT hj, ?_⟩)
        rw[hM]
        exact⟨hbd.fgt h.tag, (hnt6.upd hUd).low hUz⟩
    |some k =>
      have hM:eG kn al r = .ok (.mk (6 + (k:Nat)) 0 [t]) (aq r1).tail := by unfold eG; rw[hf]; dsimp only; rw[hk]
      obtain⟨k1, k2⟩ := bV (CQ hk)
      have hk3:k ≤ 2 := by
        unfold opM at hk
        (repeat' split at hk) <;> simp at hk <;> omega
      refine cy (d := 30) rfl (b' := false) ((beq_eq_false_iff_ne.2 (by omega))) ?_
      refine zh ?_
      refine zw (bq rfl rfl) ?_
      refine Ja ?_
      refine zh ?_
      refine aR rfl ((decide_eq_false (by simp))) ?_
      generalize w5.drew = w6 at *
      refine zh ?_
      refine zvH (RV.ld hb6.r1 rfl) ?_
      refine aj (j := 1) hb6 rfl (Jb _) rfl rfl rfl rfl ?_
      rw[show((l.length:Int) - ((aq r1).length:Int)) + 1 = (l.length:Int) - ((aq r1).tail.length:Int)from by omega]
      have hb7 := JL hb6 ((l.length:Int) - ((aq r1).tail.length:Int))
      have hU7:IJ (fun k => k = j) O3 w6 O3 (IM w6 ⟨rb, 1, none⟩ (.int .i64 ((l.length:Int) - ((aq r1).tail.length:Int)))) := IN (fun e => hj e.symm) (ID hb6) rfl
      have hx7 := hx6.upd hU7 (by omega) (by omega)
      have hn7 := hn6.upd hU7 (by omega) (by omega)
      have hR7 := hR6.upd hU7
      have hUt7 := hUt6.trans (hU7.pj hT0)
      have hnt7 := hnt6.upd hU7
      generalize IM w6 ⟨rb, 1, none⟩ (.int .i64 ((l.length:Int) - ((aq r1).tail.length:Int))) = w7 at *
      refine zh ?_
      refine zv (JJ rfl rfl (Jv (by dsimp only; omega))) ?_
      refine zv (ah (us := aW x) hn7.cellsAdd (I2 _) (ix _) rfl) ?_
      refine aH elN (enc := aW) x rfl rfl rfl (by decide) rfl ?_
      intro w8 h8 hE8
      have hX8:IJ (fun _ => False) O3 w7 O3 w8 := aa (fun h => h) O3 hE8
      have hx8 := hx7.upd hX8 (by omega) (fun h => h)
      have hb8 := hb7.upd hX8 hj (fun h => h)
      have hUt8 := hUt7.trans (jh O3 hE8 hj hT0)
      have hnt8 := hnt7.upd hX8
      have hfr:Free O3 w8 (.slice (some ⟨w7.heap.size, 0, none⟩) 1 1) := fun a n c e _ => by
        cases e
        refine⟨Jp fun hne => by have := (hR7.rng _ hne).2; simp at this, ?_⟩
        obtain⟨_, _, e, _, _, hh⟩ := h8.shape
        have hc := K7 _ _ (h8.cells 0 (by simp) 0 _ rfl)
        simpa[adr, Jw]using hc
      have hN:Nt O3 w8 (.mk (6 + (k:Nat)) 0 [t]) (6 + (k:Nat), 0, .slice (some ⟨w7.heap.size, 0, none⟩) 1 1) :=
        .mk (xs := [x]) h8 hfr rfl (fun i hi => by obtain rfl : i = 0 := by simpa using hi
                                                   rw[ax, ax]; exact hnt8)
      have hxo2:((6 + (k:Nat), 0, .slice (some ⟨w7.heap.size, 0, none⟩) 1 1):N3).2.2.oneCell' = true := rfl
      clear hxo
      have hxo := hxo2
      refine zv (aE vq (I5 _) rfl (by first | rfl | (simp only[II, J5]; rfl)) rfl rfl) ?_
      refine zsb (us := #[.int .i64 ((6 + (k:Nat), 0, .slice (some ⟨w7.heap.size, 0, none⟩) 1 1):N3).1, .int .i64 ((6 + (k:Nat), 0, .slice (some ⟨w7.heap.size, 0, none⟩) 1 1):N3).2.1, ((6 + (k:Nat), 0, .slice (some ⟨w7.heap.size, 0, none⟩) 1 1):N3).2.2]) hx8 (ix _) (bW hxo) ?_
      have hxd := I8 (us := #[.int .i64 ((6 + (k:Nat), 0, .slice (some ⟨w7.heap.size, 0, none⟩) 1 1):N3).1, .int .i64 ((6 + (k:Nat), 0, .slice (some ⟨w7.heap.size, 0, none⟩) 1 1):N3).2.1, ((6 + (k:Nat), 0, .slice (some ⟨w7.heap.size, 0, none⟩) 1 1):N3).2.2]) hx8
      have hUd:IJ (fun k => k = T) O3 w8 O3 (I6 w8 xb #[.int .i64 ((6 + (k:Nat), 0, .slice (some ⟨w7.heap.size, 0, none⟩) 1 1):N3).1, .int .i64 ((6 + (k:Nat), 0, .slice (some ⟨w7.heap.size, 0, none⟩) 1 1):N3).2.1, ((6 + (k:Nat), 0, .slice (some ⟨w7.heap.size, 0, none⟩) 1 1):N3).2.2]) := I0 (by omega) (ID hx8) rfl
      have hUz := hUt8.trans (hUd.pT hj hT0 (ln _))
      have hbd := hb8.upd hUd hj (by omega)
      refine zh ?_
      refine aJ rfl rfl (hxd.cellsAdd) (I2 _) (ix _) (⟨_, rfl, hUz.priv hT hj, ?_⟩)
      rw[hM]
      exact⟨hbd.fgt h.tag, (hN.upd hUd).low hUz⟩
end
section
variable{kv:I3}{kn:Kn}
theorem yg(c:UInt8)(w:ka):JE IQ 191 [.int .u8 (c.toNat:Int)] w fun v w'=>v=.bool (eL c)/\w'=w:=by
 refine I4 func191 ntmps191 rfl rfl ?_;refine zh ?_
 refine zc call202 (iE c w) ?_;rintro v w9 ⟨rfl,a0⟩;rw[a0];clear a0 w9;refine zh ?_
 cases h1:ak c with
 |true=>
  refine au (d:=5) rfl (b':=true) (rfl) ?_;refine zh ?_
  refine af rfl rfl (⟨by simp[eL,h1],rfl⟩)
 |false=>
  refine au (d:=5) rfl (b':=false) (rfl) ?_;refine zh ?_
  by_cases h2:c=126
  ·refine au (d:=9) rfl (b':=true) ((by rw[h2];rfl)) ?_;refine zh ?_
   refine af rfl rfl (⟨by simp[eL,h2],rfl⟩)
  refine au (d:=9) rfl (b':=false) ((ia _ 126 zd h2)) ?_;refine zh ?_
  by_cases h3:c=94
  ·refine au (d:=13) rfl (b':=true) ((by rw[h3];rfl)) ?_;refine zh ?_
   refine af rfl rfl (⟨by simp[eL,h3],rfl⟩)
  refine au (d:=13) rfl (b':=false) ((ia _ 94 zd h3)) ?_;refine zh ?_
  have e:=nz c 40 zd;refine af rfl rfl (⟨?_,rfl⟩);have e2:eL c=decide (c=40):=by simp[eL,h1,h2,h3]
  rw[e2];exact congrArg Kx e
def PR.andThen(M:PR)(f:Nd->List UInt8->PR):PR:=match M with | .bad p e=>.bad p e | .ok t r=>f t r
def LoopS(kv:I3)(op:Int)(l:List UInt8)(j rb:Nat)(F:Nat->List Nd->List UInt8->PR)(M:PR)(O:Nat->Nat)(w:ka)(n:Nat)(r1:List UInt8)(ts:List Nd)(xs:List N3):Prop:=
 (Rdr kv O w j rb l ((l.length:Int)-(r1.length:Int)) op 0 0/\r1 <:+ l/\r1.length<n/\xs.length+n<=5000/\ts.length=xs.length/\(∀i,i<xs.length->Nt O w (nth ts i) (nth xs i))/\F n ts r1=M)\/
 (∃p e a op',M=.bad p e/\e≠0/\Rdr kv O w j rb l a op' ((l.length:Int)-(p:Int)) e/\0<=a/\a<=l.length+20-op/\op<=op'/\op'<=20)
theorem LoopS.upd{op:Int}{l:List UInt8}{j rb:Nat}{F:Nat->List Nd->List UInt8->PR}{M:PR}{O O':Nat->Nat}{w w':ka}{n:Nat}{r1:List UInt8}{ts:List Nd}{xs:List N3}{S:Nat->Prop}(h:LoopS kv op l j rb F M O w n r1 ts xs)(u:IJ S O w O' w')(hj:j≠0)(hS:¬S j):LoopS kv op l j rb F M O' w' n r1 ts xs:=by
 rcases h with⟨h1,h2,h3,h4,h5,h6,h7⟩|⟨p,e,a,o,h1,h2,h3,h4⟩
 ·exact .inl ⟨I7 h1 u hj hS,h2,h3,h4,h5,fun i hi=>(h6 i hi).upd u,h7⟩
 exact .inr ⟨p,e,a,o,h1,h2,I7 h3 u hj hS,h4⟩
theorem LoopS.next{op:Int}{l:List UInt8}{j rb:Nat}{F:Nat->List Nd->List UInt8->PR}{M M':PR}{O:Nat->Nat}{w:ka}{n:Nat}{q r1:List UInt8}{ts:List Nd}{xs:List N3}{x:N3}(hP:KU kv O w j rb l op x M')(hG:Good q M')(hq:q <:+ l)(a0:q.length<=r1.length)(h3:r1.length<n+1)(h4:xs.length+(n+1)<=5000)(h5:ts.length=xs.length) 
  (h6:∀i,i<xs.length->Nt O w (nth ts i) (nth xs i)) (h7:F (n+1) ts r1=M) (hF:F (n+1) ts r1=M'.andThen fun t r2=>F n (ts++[t]) r2):∃n' r' ts',n'<n+1/\LoopS kv op l j rb F M O w n' r' ts' (xs++[x]):=by
 cases M' with
 |bad p e=>
  obtain⟨g1,a,o,g2,g3⟩:=hP;exact⟨0,[],[],zo,.inr ⟨p,e,a,o,by rw[<-h7,hF];rfl,hG.2,g2,g3⟩⟩
 |ok t r2=>
  refine⟨n,r2,ts++[t],zo,.inl ⟨hP.1,hG.1.trans hq,by have:=hG.2;omega,by simp;omega,by simp[h5],fun i hi=>?_,by rw[<-h7,hF];rfl⟩⟩;simp only[Jd,Jj]at hi
  by_cases e:i<xs.length
  ·rw[aB (by simp;omega),aB (by simp;omega),IS zo,IS e,<-aB zo,<-aB e];exact h6 i e
  obtain rfl:i=xs.length:=zo;rw[aB (by simp;omega),aB (by simp),J8 zo,J8 zo];simp[h5];exact hP.2
theorem nM{op:Int}{l:List UInt8}{j rb:Nat}{F:Nat->List Nd->List UInt8->PR}{M M':PR}{O:Nat->Nat}{w:ka}{r:List UInt8}{x:N3}(hP:KU kv O w j rb l op x M')(hG:Good r M')(hr:r <:+ l)(hl:l.length<=4096)(hF:M=M'.andThen fun t r2=>F (r2.length+1) [t] r2):∃n' r' ts',LoopS kv op l j rb F M O w n' r' ts' [x]:=by
 cases M' with
 |bad p e=>
  obtain⟨g1,a,o,g2,g3⟩:=hP;exact⟨0,[],[],.inr ⟨p,e,a,o,hF,hG.2,g2,g3⟩⟩
 |ok t r2=>
  have:=hr.length_le;refine⟨r2.length+1,r2,[t],.inl ⟨hP.1,hG.1.trans hr,zo,by have:=hG.2;simp;omega,rfl,fun i hi=>?_,hF.symm⟩⟩;obtain rfl:i=0:=by simpa using hi
  rw[ax,ax];exact hP.2
theorem Nt.oneM{O O':Nat->Nat}{w w':ka}{k:Int}{ts:List Nd}{xs:List N3}{lv:I3}{T U B:Nat}{S:Nat->Prop}(a0:Kz aW 86 3 O' w' U lv xs)(a1:T<=U)(a2:0<T)(hT:∀b,O b<T)(r:K9 B O' w')(u:IJ S O w O' w')(h5:ts.length=xs.length)(h6:∀i,i<xs.length->Nt O' w' (nth ts i) (nth xs i))(_:1<=xs.length):
  Nt O w' (oneM k ts) (if xs.length=1 then nth xs 0 else(k,0,lv)):=by
 unfold JI
 by_cases e:xs.length=1
 ·rw[if_pos zo,if_pos e];exact(h6 0 zo).low u
 rw[if_neg zo,if_neg e];exact .mk a0.sl (a0.freeT zo (fun b=>Js (hT b) a1) r u) h5 (fun i hi=>(h6 i hi).low u)
theorem zi(al:Option (List UInt8->PR))(op:Int)(f3:0<=op/\op<=20)(ha:tt kv kn al op)(hg:mw al):KD kv kn 166 [] op (Bt kn al) (fun _=>True):=by
 intro B O j rb l r w hR hj hr hl h0 h f5;obtain⟨T,a6,hT⟩:=hR.bound;have i2:j<T:=by rw[<-h.tag];exact hT rb
 have i1:=hr.length_le;refine I4 func166 ntmps166 rfl rfl ?_;refine zh ?_;refine ar hR T zo (I5 _) rfl ?_;intro xb w1 O1 g9 f7 f' i3;have h4:=h.upd f7 hj zo;have b6:=f7.pT hj a6 (ln _);refine zh ?_;refine zc call190 (rZ al op f3 ha hg B O1 j rb l r w1 f' hj hr hl trivial h4 (f5.upd b6)) ?_;rintro v w2 ⟨x,rfl,e2,g1⟩;have c8:=g1.one;have g8:=g9.upd e2 zo zo;have h':=f'.upd e2;have d9:=b6.trans (e2.pj a6);refine bJ elN (enc:=aW) h' (T+1) zo x rfl rfl rfl zd rfl ?_;intro lv w3 O3 b4 e1 h9;have g7:=g8.upd e1 zo zo;have i0:=g1.upd e1 hj zo;have d8:=d9.trans (e1.pT hj a6 (J2 _));have b5:∀i,i<[x].length->(nth [x] i).2.2.oneCell'=true:=fun i hi=>by
  obtain rfl:i=0:=by simpa using hi
  rw[ax];exact c8
 obtain⟨n0,r0,g3,h6⟩:=nM (F:=df kn al) (M:=Bt kn al r) i0 (fO (kn:=kn) hg r) hr hl rfl;refine zh ?_;refine zlp (fun y:Nat×List UInt8×List Nd×List N3×(Nat->Nat)×World×I3=>[(0,nP rb),(2,nP xb),(3,y.2.2.2.2.2.2)]) (fun y=>y.2.2.2.2.2.1) (fun y=>IX y.2.2.2.2.1 y.2.2.2.2.2.1 T xb #[nI 0,nI 0,nS] 86/\Kz aW 86 3 y.2.2.2.2.1 y.2.2.2.2.2.1 (T+1) y.2.2.2.2.2.2 y.2.2.2.1/\1<=y.2.2.2.1.length/\(∀i,i<y.2.2.2.1.length->(nth y.2.2.2.1 i).2.2.oneCell'=true)/\IJ (fun k=>k=j\/T<=k) O w y.2.2.2.2.1 y.2.2.2.2.2.1/\K9 B y.2.2.2.2.1 y.2.2.2.2.2.1/\LoopS kv op l j rb (df kn al) (Bt kn al r) y.2.2.2.2.1 y.2.2.2.2.2.1 y.1 y.2.1 y.2.2.1 y.2.2.2.1) (fun y=>y.1) (n0,r0,g3,[x],O3,w3,lv) (⟨g7,b4,ln _,b5,d8,h9,h6⟩) ?_;rintro⟨n,r1,ts,xs,O4,w4,a0⟩ ⟨c',a4,a8,a1,e0,e4,f8⟩;dsimp only at c' a4 a8 a1 e0 e4 f8 ⊢
 rcases f8 with⟨a',e9,h1,h3,f4,g',g2⟩|⟨p,e,a,e5,hM,he,a',d5,d4,d3,d2⟩
 ·have e':=(aX r1).trans e9;have d0:=dc r1;obtain⟨m,rfl⟩:∃m,n=m+1:=⟨n-1,zo⟩
  have c7:df kn al (m+1) ts r1=if eL ((aq r1).headD 0)=true then((eG kn al (aq r1)).andThen fun t r2=>df kn al m (ts++[t]) r2)else .ok (oneM 4 ts) (aq r1):=rfl
  refine zh ?_;refine zvH (RV.ld a'.r5 rfl) ?_
  refine au (d:=12) rfl (b':=true) (rfl) ?_;refine zh ?_
  refine zc Kb (fN O4 w4 j rb l r1 op 0 0 hj e9 zo a') ?_;rintro v w5 ⟨rfl,f6,b8⟩;have e6:=c'.upd b8 zo zo;have a5:=a4.upd b8 zo zo;have e3:=e4.upd b8;have b0:=e0.trans (b8.pj a6);have e8:∀i,i<xs.length->Nt O4 w5 (nth ts i) (nth xs i):=fun i hi=>(g' i hi).upd b8
  refine zh ?_;refine zc call191 (yg ((aq r1).headD 0) w5) ?_
  rintro v w9 ⟨rfl,e7⟩;rw[e7];clear e7 w9;refine zh ?_
  by_cases hc:eL ((aq r1).headD 0)=true
  ·rw[if_pos hc]at c7;refine zTH rfl (hc) ?_;refine zc call190 (rZ al op f3 ha hg B O4 j rb l (aq r1) w5 e3 hj e' hl trivial f6 (f5.upd b0)) ?_;rintro v w6 ⟨x6,rfl,b7,g0⟩;have b1:=g0.one;have g6:=e6.upd b7 zo zo;have b3:=a5.upd b7 zo zo;have h8:=e3.upd b7;have d7:=b0.trans (b7.pj a6);refine LK elN b3 h8 (x6) (fun _=>rfl) rfl rfl rfl (gW b1) zo zo zo zd rfl rfl ?_;intro g5 w7 O7 b2 d' h7;obtain⟨n',r',g4,h2,h5⟩:=LoopS.next (F:=df kn al) g0 (fO (kn:=kn) hg _) e' d0 h1 h3 f4 (fun i hi=>(e8 i hi).upd b7) g2 c7;refine zh ?_;refine zx (n',r',g4,xs++[x6],O7,w7,g5) (⟨g6.upd d' zo zo,b2,by simp,fun i hi=>?_,d7.trans (d'.pT hj a6 (J2 _)),h7,h5.upd d' hj zo⟩) (h2);simp only[Jd,Jj]at hi
   by_cases e:i<xs.length
   ·rw[aB (by simp;omega),IS e,<-aB e];exact a1 i e
   obtain rfl:i=xs.length:=zo;rw[aB (by simp)];simpa using b1
  rw[if_neg hc]at c7;refine zFH rfl ((by simpa using hc)) ?_;refine zc L4 (qi 4 xs a0 w5 a5.sl a1) ?_;rintro v wo ⟨rfl,b9⟩;have a7:IJ (fun _=>False) O4 w5 O4 wo:=aa (fun h=>h) O4 b9;have a2:=I7 e6 a7 zo (fun h=>h);have a3:=Kp a5 a7 zo (fun h=>h);have f9:=KO e3 a7;have c5:(if xs.length=1 then nth xs 0 else(4,0,a0):N3).2.2.oneCell'=true:=by
   split
   ·exact a1 0 zo
   exact a3.one
  refine zsb (us:=#[nI (if xs.length=1 then nth xs 0 else(4,0,a0):N3).1,nI (if xs.length=1 then nth xs 0 else(4,0,a0):N3).2.1,(if xs.length=1 then nth xs 0 else(4,0,a0):N3).2.2]) a2 (ix _) (bW c5) ?_;have c9:=I8 (us:=#[nI (if xs.length=1 then nth xs 0 else(4,0,a0):N3).1,nI (if xs.length=1 then nth xs 0 else(4,0,a0):N3).2.1,(if xs.length=1 then nth xs 0 else(4,0,a0):N3).2.2]) a2;have a9:IJ (fun k=>k=T) O4 wo O4 (I6 wo xb #[nI (if xs.length=1 then nth xs 0 else(4,0,a0):N3).1,nI (if xs.length=1 then nth xs 0 else(4,0,a0):N3).2.1,(if xs.length=1 then nth xs 0 else(4,0,a0):N3).2.2]):=I0 zo (ID a2) rfl;have d6:=b0.trans (jh O4 b9 hj a6);have c6:=d6.trans (a9.pT hj a6 (ln _));refine zh ?_
  refine aJ rfl rfl (c9.cellsAdd) (I2 _) (ix _) (⟨(if xs.length=1 then nth xs 0 else(4,0,a0)),rfl,c6.priv hT hj,?_⟩);have d1:=(I7 f6 a7 hj (fun h=>h)).upd a9 hj zo;rw[<-g2,c7];exact⟨d1.fgt h.tag,Nt.oneM (a3.upd a9 zo zo) (J2 T) a6 hT (f9.upd a9) c6 f4 (fun i hi=>((e8 i hi).upd a7).upd a9) a8⟩
 replace a':IX O4 w4 j rb (rdr kv l a e5 ((l.length:Int)-(p:Int)) e) 237:=a';refine zh ?_;refine zvH (RV.ld a'.r5 rfl) ?_;refine au (d:=12) rfl (b':=false) ((by simpa using he)) ?_;refine zh ?_;refine zFH rfl rfl ?_;refine zc L4 (qi 4 xs a0 w4 a4.sl a1) ?_;rintro v wo ⟨rfl,b9⟩;have a7:IJ (fun _=>False) O4 w4 O4 wo:=aa (fun h=>h) O4 b9;have a2:=I7 c' a7 zo (fun h=>h);have a3:=Kp a4 a7 zo (fun h=>h);have f9:=KO e4 a7;have c5:(if xs.length=1 then nth xs 0 else(4,0,a0):N3).2.2.oneCell'=true:=by
  split
  ·exact a1 0 zo
  exact a3.one
 refine zsb (us:=#[nI (if xs.length=1 then nth xs 0 else(4,0,a0):N3).1,nI (if xs.length=1 then nth xs 0 else(4,0,a0):N3).2.1,(if xs.length=1 then nth xs 0 else(4,0,a0):N3).2.2]) a2 (ix _) (bW c5) ?_;have c9:=I8 (us:=#[nI (if xs.length=1 then nth xs 0 else(4,0,a0):N3).1,nI (if xs.length=1 then nth xs 0 else(4,0,a0):N3).2.1,(if xs.length=1 then nth xs 0 else(4,0,a0):N3).2.2]) a2;have a9:IJ (fun k=>k=T) O4 wo O4 (I6 wo xb #[nI (if xs.length=1 then nth xs 0 else(4,0,a0):N3).1,nI (if xs.length=1 then nth xs 0 else(4,0,a0):N3).2.1,(if xs.length=1 then nth xs 0 else(4,0,a0):N3).2.2]):=I0 zo (ID a2) rfl;have d6:=e0.trans (jh O4 b9 hj a6);have c6:=d6.trans (a9.pT hj a6 (ln _));refine zh ?_
 refine aJ rfl rfl (c9.cellsAdd) (I2 _) (ix _) (⟨(if xs.length=1 then nth xs 0 else(4,0,a0)),rfl,c6.priv hT hj,?_⟩);have d1:=(I7 a' a7 hj (fun h=>h)).upd a9 hj zo;rw[hM];exact⟨c5,a,e5,d1.fgt h.tag,d5,d4,d3,d2⟩
theorem vZ(al:Option (List UInt8->PR))(op:Int)(e9:0<=op/\op<=20)(ha:tt kv kn al op)(hg:mw al):KD kv kn 152 [] op (nF kn al) (fun _=>True):=by
 intro B O j rb l r w hR hj hr hl g' h f3;obtain⟨T,a5,hT⟩:=hR.bound;have i1:j<T:=by rw[<-h.tag];exact hT rb
 have i0:=hr.length_le;refine I4 func152 ntmps152 rfl rfl ?_;refine zh ?_;refine ar hR T zo (I5 _) rfl ?_;intro xb w1 O1 g7 f4 f8 i2;have h3:=h.upd f4 hj zo;have b7:=f4.pT hj a5 (ln _);refine zh ?_;refine zc call166 (zi al op e9 ha hg B O1 j rb l r w1 f8 hj hr hl trivial h3 (f3.upd b7)) ?_;rintro v w2 ⟨x,rfl,e3,f'⟩;have c9:=f'.one;have g6:=g7.upd e3 zo zo;have h9:=f8.upd e3;have d':=b7.trans (e3.pj a5);refine bJ elN (enc:=aW) h9 (T+1) zo x rfl rfl rfl zd rfl ?_;intro lv w3 O3 b3 e2 h8;have g5:=g6.upd e2 zo zo;have h':=f'.upd e2 hj zo;have d9:=d'.trans (e2.pT hj a5 (J2 _));have b4:∀i,i<[x].length->(nth [x] i).2.2.oneCell'=true:=fun i hi=>by
  obtain rfl:i=0:=by simpa using hi
  rw[ax];exact c9
 obtain⟨n0,r0,g1,h5⟩:=nM (F:=cE kn al) (M:=nF kn al r) h' (jR (kn:=kn) hg r) hr hl rfl;refine zh ?_;refine zlp (fun y:Nat×List UInt8×List Nd×List N3×(Nat->Nat)×World×I3=>[(0,nP rb),(2,nP xb),(3,y.2.2.2.2.2.2)]) (fun y=>y.2.2.2.2.2.1) (fun y=>IX y.2.2.2.2.1 y.2.2.2.2.2.1 T xb #[nI 0,nI 0,nS] 86/\Kz aW 86 3 y.2.2.2.2.1 y.2.2.2.2.2.1 (T+1) y.2.2.2.2.2.2 y.2.2.2.1/\1<=y.2.2.2.1.length/\(∀i,i<y.2.2.2.1.length->(nth y.2.2.2.1 i).2.2.oneCell'=true)/\IJ (fun k=>k=j\/T<=k) O w y.2.2.2.2.1 y.2.2.2.2.2.1/\K9 B y.2.2.2.2.1 y.2.2.2.2.2.1/\LoopS kv op l j rb (cE kn al) (nF kn al r) y.2.2.2.2.1 y.2.2.2.2.2.1 y.1 y.2.1 y.2.2.1 y.2.2.2.1) (fun y=>y.1) (n0,r0,g1,[x],O3,w3,lv) (⟨g5,b3,ln _,b4,d9,h8,h5⟩) ?_;rintro⟨n,r1,ts,xs,O4,w4,a0⟩ ⟨d0,a4,a8,a1,e1,e4,f5⟩;dsimp only at d0 a4 a8 a1 e1 e4 f5 ⊢
 rcases f5 with⟨a',e8,h0,h2,e',g8,g0⟩|⟨p,e,a,e5,hM,he,a',d6,d5,d4,d3⟩
 ·have d1:=(aX r1).trans e8;have g9:=dc r1;obtain⟨m,rfl⟩:∃m,n=m+1:=⟨n-1,zo⟩
  have c8:cE kn al (m+1) ts r1=if(aq r1).headD 0=124 then((Bt kn al (aq r1).tail).andThen fun t r2=>cE kn al m (ts++[t]) r2)else .ok (oneM 5 ts) (aq r1):=rfl
  refine zh ?_;refine zvH (RV.ld a'.r5 rfl) ?_
  refine au (d:=12) rfl (b':=true) (rfl) ?_;refine zh ?_
  refine zc Kb (fN O4 w4 j rb l r1 op 0 0 hj e8 zo a') ?_;rintro v w5 ⟨rfl,b5,b9⟩;have e6:=d0.upd b9 zo zo;have a6:=a4.upd b9 zo zo;have f7:=e4.upd b9;have b6:=e1.trans (b9.pj a5);have e7:∀i,i<xs.length->Nt O4 w5 (nth ts i) (nth xs i):=fun i hi=>(g8 i hi).upd b9
  refine zh ?_
  by_cases hc:(aq r1).headD 0=124
  ·rw[if_pos hc]at c8;obtain⟨k1,k2⟩:=bV (r:=aq r1) (by rw[hc];decide);have hq4l:=d1.length_le;refine zTH rfl ((by rw[hc];rfl)) ?_;refine zvH (RV.ld b5.r1 rfl) ?_;refine aj (j:=1) b5 rfl (Jb _) rfl rfl rfl rfl ?_;rw[show((l.length:Int)-((aq r1).length:Int))+1=(l.length:Int)-((aq r1).tail.length:Int)from by omega];have hb5a:=JL b5 ((l.length:Int)-((aq r1).tail.length:Int));have hU5a:IJ (fun k=>k=j) O4 w5 O4 (IM w5 ⟨rb,1,none⟩ (nI ((l.length:Int)-((aq r1).tail.length:Int)))):=IN (fun e=>hj e.symm) (ID b5) rfl;have hx5a:=e6.upd hU5a zo zo;have hrow5a:=a6.upd hU5a zo zo;have hR5a:=f7.upd hU5a;have hUt5a:=b6.trans (hU5a.pj a5);generalize IM w5 ⟨rb,1,none⟩ (nI ((l.length:Int)-((aq r1).tail.length:Int)))=w5a at *;refine zh ?_;refine zc call166 (zi al op e9 ha hg B O4 j rb l (aq r1).tail w5a hR5a hj (k1.trans d1) hl trivial hb5a (f3.upd hUt5a)) ?_;rintro v w6 ⟨x6,rfl,b8,f9⟩;have b0:=f9.one;have g4:=hx5a.upd b8 zo zo;have b2:=hrow5a.upd b8 zo zo;have h7:=hR5a.upd b8;have d8:=hUt5a.trans (b8.pj a5);refine LK elN b2 h7 (x6) (fun _=>rfl) rfl rfl rfl (gW b0) zo zo zo zd rfl rfl ?_;intro g3 w7 O7 b1 e0 h6;obtain⟨n',r',g2,h1,h4⟩:=LoopS.next (F:=cE kn al) f9 (jR (kn:=kn) hg _) (k1.trans d1) zo h0 h2 e' (fun i hi=>((e7 i hi).upd hU5a).upd b8) g0 c8;refine zh ?_
   refine zx (n',r',g2,xs++[x6],O7,w7,g3) (⟨g4.upd e0 zo zo,b1,by simp,fun i hi=>?_,d8.trans (e0.pT hj a5 (J2 _)),h6,h4.upd e0 hj zo⟩) (h1);simp only[Jd,Jj]at hi
   by_cases e:i<xs.length
   ·rw[aB (by simp;omega),IS e,<-aB e];exact a1 i e
   obtain rfl:i=xs.length:=zo;rw[aB (by simp)];simpa using b0
  rw[if_neg hc]at c8;refine zFH rfl ((ia _ 124 zd hc)) ?_;refine zc L4 (qi 5 xs a0 w5 a6.sl a1) ?_;rintro v wo ⟨rfl,c5⟩;have a7:IJ (fun _=>False) O4 w5 O4 wo:=aa (fun h=>h) O4 c5;have a2:=I7 e6 a7 zo (fun h=>h);have a3:=Kp a6 a7 zo (fun h=>h);have f6:=KO f7 a7;have c6:(if xs.length=1 then nth xs 0 else(5,0,a0):N3).2.2.oneCell'=true:=by
   split
   ·exact a1 0 zo
   exact a3.one
  refine zsb (us:=#[nI (if xs.length=1 then nth xs 0 else(5,0,a0):N3).1,nI (if xs.length=1 then nth xs 0 else(5,0,a0):N3).2.1,(if xs.length=1 then nth xs 0 else(5,0,a0):N3).2.2]) a2 (ix _) (bW c6) ?_;have c':=I8 (us:=#[nI (if xs.length=1 then nth xs 0 else(5,0,a0):N3).1,nI (if xs.length=1 then nth xs 0 else(5,0,a0):N3).2.1,(if xs.length=1 then nth xs 0 else(5,0,a0):N3).2.2]) a2;have a9:IJ (fun k=>k=T) O4 wo O4 (I6 wo xb #[nI (if xs.length=1 then nth xs 0 else(5,0,a0):N3).1,nI (if xs.length=1 then nth xs 0 else(5,0,a0):N3).2.1,(if xs.length=1 then nth xs 0 else(5,0,a0):N3).2.2]):=I0 zo (ID a2) rfl;have d7:=b6.trans (jh O4 c5 hj a5);have c7:=d7.trans (a9.pT hj a5 (ln _));refine zh ?_
  refine aJ rfl rfl (c'.cellsAdd) (I2 _) (ix _) (⟨(if xs.length=1 then nth xs 0 else(5,0,a0)),rfl,c7.priv hT hj,?_⟩);have d2:=(I7 b5 a7 hj (fun h=>h)).upd a9 hj zo;rw[<-g0,c8];exact⟨d2.fgt h.tag,Nt.oneM (a3.upd a9 zo zo) (J2 T) a5 hT (f6.upd a9) c7 e' (fun i hi=>((e7 i hi).upd a7).upd a9) a8⟩
 replace a':IX O4 w4 j rb (rdr kv l a e5 ((l.length:Int)-(p:Int)) e) 237:=a';refine zh ?_;refine zvH (RV.ld a'.r5 rfl) ?_;refine au (d:=12) rfl (b':=false) ((by simpa using he)) ?_;refine zh ?_;refine zFH rfl rfl ?_;refine zc L4 (qi 5 xs a0 w4 a4.sl a1) ?_;rintro v wo ⟨rfl,c5⟩;have a7:IJ (fun _=>False) O4 w4 O4 wo:=aa (fun h=>h) O4 c5;have a2:=I7 d0 a7 zo (fun h=>h);have a3:=Kp a4 a7 zo (fun h=>h);have f6:=KO e4 a7;have c6:(if xs.length=1 then nth xs 0 else(5,0,a0):N3).2.2.oneCell'=true:=by
  split
  ·exact a1 0 zo
  exact a3.one
 refine zsb (us:=#[nI (if xs.length=1 then nth xs 0 else(5,0,a0):N3).1,nI (if xs.length=1 then nth xs 0 else(5,0,a0):N3).2.1,(if xs.length=1 then nth xs 0 else(5,0,a0):N3).2.2]) a2 (ix _) (bW c6) ?_;have c':=I8 (us:=#[nI (if xs.length=1 then nth xs 0 else(5,0,a0):N3).1,nI (if xs.length=1 then nth xs 0 else(5,0,a0):N3).2.1,(if xs.length=1 then nth xs 0 else(5,0,a0):N3).2.2]) a2;have a9:IJ (fun k=>k=T) O4 wo O4 (I6 wo xb #[nI (if xs.length=1 then nth xs 0 else(5,0,a0):N3).1,nI (if xs.length=1 then nth xs 0 else(5,0,a0):N3).2.1,(if xs.length=1 then nth xs 0 else(5,0,a0):N3).2.2]):=I0 zo (ID a2) rfl;have d7:=e1.trans (jh O4 c5 hj a5);have c7:=d7.trans (a9.pT hj a5 (ln _));refine zh ?_
 refine aJ rfl rfl (c'.cellsAdd) (I2 _) (ix _) (⟨(if xs.length=1 then nth xs 0 else(5,0,a0)),rfl,c7.priv hT hj,?_⟩);have d2:=(I7 a' a7 hj (fun h=>h)).upd a9 hj zo;rw[hM];exact⟨c6,a,e5,d2.fgt h.tag,d6,d5,d4,d3⟩
theorem pJ:∀(d:Nat),d<=20->KD kv kn 152 [] (20-(d:Int)) (uO kn d) (fun _=>True)
 |0,h=>vZ none _ zo (show(20:Int)-((0:Nat):Int)=20 by omega) (fun f e=>by cases e)
 |d+1,h=>by
  have ih:=pJ d zo;rw[show(20:Int)-(d:Int)=(20-((d+1:Nat):Int))+1 from by omega]at ih;exact vZ (some (uO kn d)) _ zo ⟨zo,ih⟩ (fun f e r=>by cases e;exact iM (kn:=kn) d r)
end
end Go.Proofs.YtpfpmhhigheccaaGreatDoor
section
namespace Go.VL
def mix(A C:Nat->Nat)(b:Nat):Nat:=if A b=0 then C b else A b
theorem DN{A C:Nat->Nat}{b i:Nat}(h:A b=i)(hi:i≠0):mix A C b=i:=by unfold mix;rw[if_neg zo];exact h
theorem GO{A C:Nat->Nat}{b:Nat}(h:mix A C b=0):C b=0:=by
 unfold mix at h
 split at h
 ·exact h
 rename_i h1;exact absurd h h1
theorem Rng.mix{B:Nat}{A C:Nat->Nat}{w:ka}(h:K9 B A w)(k:K9 B C w):K9 B (mix A C) w:=⟨h.le,fun b hb=>by
 unfold VL.mix at hb
 split at hb
 ·exact k.rng b hb
 rename_i h1;exact h.rng b h1⟩
end Go.VL
namespace Go.Proofs.YtpfpmhhigheccaaGreatDoor
open Go.VL Go.Proofs
set_option maxRecDepth 10000
variable{kn:Kn}
def PostX(O:Nat->Nat)(w:ka)(v:I3):XR->Prop
 |.ok t=>∃x,v=.tuple #[nv x,nI 0,nI 0]/\Nt O w t x
 |.bad p e=>v=.tuple #[nv (0,0,nS),nI (p:Int),nI e]/\e≠0
theorem GD:cB IQ 235 #[(0,1),(1,1)]:=⟨_,underlying235,fun w=>by kernel_rfl⟩
theorem GC:cB IQ 237 #[(0,2),(2,1),(3,1),(4,1),(5,1)]:=⟨_,underlying237,fun w=>by kernel_rfl⟩
theorem kY(kv:I3)(l:List UInt8)(B:Nat)(O O':Nat->Nat)(w:ka)(h4:K9 B O w)(hR:K9 B O' w)(d4:LA O' w kv kn):JE IQ 132 [.string (bs l),kv] w fun v w'=>Jq w w'/\PostX O w' v (eK kn l):=by
 obtain⟨T,h8,hT⟩:=hR.bound;have a0:¬(fun q:Nat=>T<=q) 0:=fun e=>zo
 have hA:=pJ (kv:=kv) (kn:=kn) 20 (ln _);rw[show(20:Int)-((20:Nat):Int)=0 from by omega]at hA;have b5:=iM (kn:=kn) 20 l;obtain⟨ms,e3⟩:=d4;obtain⟨qa,qc,g0,_⟩:=e3.1.shape;replace d4:LA O' w kv kn:=⟨ms,e3⟩
 subst g0;refine I4 func132 ntmps132 rfl rfl ?_;refine zh ?_;refine ar hR T zo (I5 _) rfl ?_;intro xb w1 O1 c9 h0 h3 i1;have b9:IJ (fun q=>T<=q) O' w O1 w1:=h0.mono (fun _ h=>J7 h.symm) a0;refine zh ?_;refine zvH (bZ I1 rfl) ?_
 by_cases hl:4096<l.length
 ·have hM:eK kn l=.bad 0 3:=by unfold eK;rw[if_pos hl]
  rw[hM];refine zTH rfl ((decide_eq_true zo)) ?_;refine zv (aE vq (I5 _) rfl (by first|rfl|(simp only[II,J5];rfl)) rfl rfl) ?_;refine zsa (us:=#[nI 0,nI 0,nS]) c9 (ix _) ?_;have a7:=I8 (us:=#[nI 0,nI 0,nS]) c9;have a3:IJ (fun k=>k=T) O1 w1 O1 (I6 w1 xb #[nI 0,nI 0,nS]):=I0 zo (ID c9) rfl;refine zh ?_;refine cp rfl rfl rfl rfl a7.cellsAdd (I2 _) (ix _) ⟨aD (b9.trans (a3.mono (fun _ h=>J7 h.symm) a0)) (fun b=>by have:=hT b;omega),rfl,zd⟩
 refine zFH rfl ((decide_eq_false zo)) ?_;refine zvH (aE GD (zeroValue235 _) rfl (by first|rfl|(simp only[II,J5];rfl)) rfl rfl) ?_
 refine zv (L8 (cells:=rdr (.slice qa ms.length qc) l 0 0 0 0) GC (zeroValue237 _) rfl rfl) ?_;refine aF h3 (T+1) zo rfl rfl ?_
 intro rb w2 O2 d5 e5 e7 i0;have g7:Rdr (.slice qa ms.length qc) O2 w2 (T+1) rb l ((l.length:Int)-(l.length:Int)) 0 0 0:=by
  rw[show(l.length:Int)-(l.length:Int)=0 from by omega];exact d5
 have f7:=c9.upd e5 zo zo;have b8:=b9.trans (e5.mono (fun _ h=>by rw[h];omega) a0);refine zh ?_;refine zc call152 (hA B O2 (T+1) rb l l w2 e7 zo (List.suffix_refl l) zo trivial g7 (d4.upd b8)) ?_;rintro v w3 ⟨x,rfl,d',e8⟩;have f4:=e8.one;have f6:=f7.upd d' zo zo;have e6:=e7.upd d';have d8:=b8.trans (d'.mono (fun _ h=>by rw[h];omega) a0);refine ar e6 (T+2) zo (I5 _) rfl ?_;intro nb w4 O4 d3 g' h9 h';refine zsb (us:=#[nI x.1,nI x.2.1,x.2.2]) d3 (ix _) (bW f4) ?_;have f':=d3.setRow (us:=#[nI x.1,nI x.2.1,x.2.2]);have g9:IJ (fun k=>k=T+2) O4 w4 O4 (w4.setRow nb #[nI x.1,nI x.2.1,x.2.2]):=I0 zo d3.tag rfl;have a':=g'.trans g9;have c8:=f6.upd a' zo zo;have c':=e8.upd a' zo zo;have h2:=e6.upd a';have b7:=d8.trans (a'.mono (fun _ h=>by rw[h];omega) a0);generalize w4.setRow nb #[nI x.1,nI x.2.1,x.2.2]=w5 at *
 cases hf:uO kn 20 l with
 |bad p e=>
  rw[hf]at b5 c';have hM:eK kn l=.bad (l.length-p) e:=by unfold eK;rw[if_neg hl,hf]
  have g6:=b5.1;have a8:=b5.2;obtain⟨g1,a,e',a6,g2,g3,g4,g5⟩:=c';replace a6:IX O4 w5 (T+1) rb (rdr (.slice qa ms.length qc) l a e' ((l.length:Int)-(p:Int)) e) 237:=a6;rw[hM];refine zh ?_;refine zvH (RV.ld a6.r5 rfl) ?_;refine au (d:=25) rfl (b':=false) ((by simpa using a8)) ?_;refine zh ?_;refine zFH rfl rfl ?_;refine zvH (RV.ld a6.r5 rfl) ?_;refine au (d:=44) rfl (b':=false) ((by simpa using a8)) ?_;refine zh ?_;refine zFH rfl rfl ?_;refine zvH (RV.ld a6.r5 rfl) ?_;refine aO rfl ((by simpa using a8)) ?_;have a5:=IR a6;refine zh ?_;refine aL (fun W=>W.cell? ⟨rb,4,none⟩=some (nI ((l.length:Int)-(p:Int)))/\W.cell? ⟨rb,5,none⟩=some (nI e)) 12 rfl zk ?_;refine zin ⟨a5.r4,a5.r5⟩ fun zS=>?_
  refine zr 0 rfl zS (fun _=>aE vq (I5 _) rfl (by first|rfl|(simp only[II,J5];rfl)) rfl rfl) ?_;refine zrm 1 rfl zS rfl ?_
  refine zr 2 rfl zS (fun _=>ao rfl) ?_;refine zrf 3 rfl zS rfl ?_
  refine zt 4 rfl zS (fun w1 a4=>RV.ld a4.1 rfl) ?_;refine zrm 5 rfl zS rfl ?_
  refine zr 6 rfl zS (fun _=>ao rfl) ?_;refine zrf 7 rfl zS rfl ?_
  refine zt 8 rfl zS (fun w1 a4=>RV.ld a4.2 rfl) ?_;refine IP 9 zk rfl ?_
  refine zsa (us:=#[nI 0,nI 0,nS]) (IR c8) (ix _) ?_;have a7:=I8 (us:=#[nI 0,nI 0,nS]) (IR c8);have a3:IJ (fun k=>k=T) O4 (IW w5) O4 (I6 (IW w5) xb #[nI 0,nI 0,nS]):=I0 zo (ID c8) rfl;have b0:=I7 a5 a3 zo zo;refine zh ?_
  refine zaf (⟨b0.r4,b0.r5⟩) fun zS=>?_
  refine zra 10 rfl zS rfl ?_;refine zra 11 rfl zS rfl ?_
  refine Jg zk ?_;refine zh ?_
  refine cp rfl rfl rfl rfl a7.cellsAdd (I2 _) (ix _) ⟨aD ((b7.drew).trans (a3.mono (fun _ h=>J7 h.symm) a0)) (fun b=>by have:=hT b;omega),?_⟩;exact⟨by rw[show(l.length:Int)-(p:Int)=((l.length-p:Nat):Int)from by omega];rfl,a8⟩
 |ok t r=>
  rw[hf]at b5 c';obtain⟨a6,d2⟩:=c';replace a6:IX O4 w5 (T+1) rb (rdr (.slice qa ms.length qc) l ((l.length:Int)-(r.length:Int)) 0 0 0) 237:=a6;have hr:=b5.1;have hq:=(aX r).trans hr;have h7:=hq.length_le;refine zh ?_;refine zvH (RV.ld a6.r5 rfl) ?_;refine au (d:=25) rfl (b':=true) (rfl) ?_;refine zh ?_;refine zc Kb (fN O4 w5 (T+1) rb l r 0 0 0 zo hr zo a6) ?_;rintro v w6 ⟨rfl,a9,c6⟩;have d0:=c8.upd c6 zo zo;have e2:=f'.upd c6 zo zo;have e0:=h2.upd c6;have b4:=d2.upd c6;have b1:=b7.trans (c6.mono (fun _ h=>by rw[h];omega) a0);refine zh ?_
  by_cases e1:(aq r).length=0
  ·have f8:aq r=[]:=JT e1;have e9:eK kn l=if 2000<nsz t then .bad 0 3 else .ok t:=by unfold eK;rw[if_neg hl,hf];dsimp only;rw[if_neg zo]
   refine zFH rfl ((by rw[f8];rfl)) ?_;refine zvH (RV.ld a9.r5 rfl) ?_
   refine au (d:=44) rfl (b':=true) (rfl) ?_;refine zh ?_
   refine zvH (RV.ld a9.r1 rfl) ?_;refine zvH (bZ I1 rfl) ?_
   refine zFH rfl ((decide_eq_false zo)) ?_;refine zvH (RV.ld a9.r5 rfl) ?_
   refine zFH rfl rfl ?_;refine zv (ah (us:=aW x) e2.cellsAdd (I2 _) (ix _) rfl) ?_
   refine zc call108 (pX (nsz t) t (ln _) x w6 2000 b4.zero zo) ?_;rintro v w7 ⟨rfl,h6⟩;have b6:IJ (fun _=>False) O4 w6 O4 w7:=aa (fun h=>h) O4 h6;have a2:=d0.upd b6 zo (fun h=>h);have f9:=e2.upd b6 zo (fun h=>h);have a1:=b1.trans (b6.mono (fun _ h=>h.elim) a0);have d1:=b4.upd b6;have h1:=e0.upd b6;refine zh ?_
   by_cases hz:2000<nsz t
   ·have hM:eK kn l=.bad 0 3:=by rw[e9,if_pos hz]
    rw[hM];refine zTH rfl ((decide_eq_true zo)) ?_;refine zv (aE vq (I5 _) rfl (by first|rfl|(simp only[II,J5];rfl)) rfl rfl) ?_;refine zsa (us:=#[nI 0,nI 0,nS]) a2 (ix _) ?_;have a7:=I8 (us:=#[nI 0,nI 0,nS]) a2;have a3:IJ (fun k=>k=T) O4 w7 O4 (I6 w7 xb #[nI 0,nI 0,nS]):=I0 zo (ID a2) rfl;refine zh ?_;refine cp rfl rfl rfl rfl a7.cellsAdd (I2 _) (ix _) ⟨aD (a1.trans (a3.mono (fun _ h=>J7 h.symm) a0)) (fun b=>by have:=hT b;omega),rfl,zd⟩
   have hM:eK kn l=.ok t:=by rw[e9,if_neg hz]
   rw[hM];refine zFH rfl ((decide_eq_false zo)) ?_;refine zv (ah (us:=aW x) f9.cellsAdd (I2 _) (ix _) rfl) ?_;refine zc call155 (sS (nsz t) zo t (ln _) B (mix O4 O) x w7 (h1.mix (h4.ext (aD a1 (fun b=>by have:=hT b;omega)))) d1.zero) ?_;rintro v w8 ⟨y,rfl,b3,h5⟩;have e4:IJ (fun _=>False) O4 w7 O4 w8:=aa (fun h=>h) O4 h5;have c7:=a2.upd e4 zo (fun h=>h);have d7:=a1.trans (e4.mono (fun _ h=>h.elim) a0);have f3:=b3.one;refine zsb (us:=#[nI y.1,nI y.2.1,y.2.2]) c7 (ix _) (bW f3) ?_;have f5:=c7.setRow (us:=#[nI y.1,nI y.2.1,y.2.2]);have g8:IJ (fun k=>k=T) O4 w8 O4 (w8.setRow xb #[nI y.1,nI y.2.1,y.2.2]):=I0 zo c7.tag rfl;have d9:IJ (fun k=>k=T) (mix O4 O) w8 (mix O4 O) (w8.setRow xb #[nI y.1,nI y.2.1,y.2.2]):=I0 zo (DN c7.tag zo) rfl;have d6:=d7.trans (g8.mono (fun _ h=>J7 h.symm) a0);refine zh ?_;refine cp rfl rfl rfl rfl f5.cellsAdd (I2 _) (ix _) ⟨aD d6 (fun b=>by have:=hT b;omega),y,rfl,(b3.upd d9).weak (fun b hb=>GO hb)⟩
  have hM:eK kn l=.bad (l.length-(aq r).length) 4:=by unfold eK;rw[if_neg hl,hf];dsimp only;rw[if_pos e1]
  rw[hM]
  by_cases hc:(aq r).headD 0=0
  ·refine zFH rfl ((by rw[hc];rfl)) ?_;refine zvH (RV.ld a9.r5 rfl) ?_
   refine au (d:=44) rfl (b':=true) (rfl) ?_;refine zh ?_
   refine zvH (RV.ld a9.r1 rfl) ?_;refine zvH (bZ I1 rfl) ?_
   refine zTH rfl ((decide_eq_true zo)) ?_;refine zv (RV.ld a9.r1 rfl) ?_
   refine zc KG (gd _ O4 w6 (T+1) rb l _ _ 0 ((l.length:Int)-((aq r).length:Int)) 4 zo e0 a9) ?_;rintro v w7 ⟨_,b2,c5⟩;have a2:=d0.upd c5 zo zo;have a1:=b1.trans (c5.mono (fun _ h=>by rw[h];omega) a0);refine zh ?_
   refine zvH (RV.ld b2.r5 rfl) ?_;refine aO rfl rfl ?_
   have a5:=IR b2;refine zh ?_;refine aL (fun W=>W.cell? ⟨rb,4,none⟩=some (nI ((l.length:Int)-((aq r).length:Int)))/\W.cell? ⟨rb,5,none⟩=some (nI 4)) 12 rfl zk ?_;refine zin ⟨a5.r4,a5.r5⟩ fun zS=>?_
   refine zr 0 rfl zS (fun _=>aE vq (I5 _) rfl (by first|rfl|(simp only[II,J5];rfl)) rfl rfl) ?_;refine zrm 1 rfl zS rfl ?_
   refine zr 2 rfl zS (fun _=>ao rfl) ?_;refine zrf 3 rfl zS rfl ?_
   refine zt 4 rfl zS (fun w1 a4=>RV.ld a4.1 rfl) ?_;refine zrm 5 rfl zS rfl ?_
   refine zr 6 rfl zS (fun _=>ao rfl) ?_;refine zrf 7 rfl zS rfl ?_
   refine zt 8 rfl zS (fun w1 a4=>RV.ld a4.2 rfl) ?_;refine IP 9 zk rfl ?_
   refine zsa (us:=#[nI 0,nI 0,nS]) (IR a2) (ix _) ?_;have a7:=I8 (us:=#[nI 0,nI 0,nS]) (IR a2);have a3:IJ (fun k=>k=T) O4 (IW w7) O4 (I6 (IW w7) xb #[nI 0,nI 0,nS]):=I0 zo (ID a2) rfl;have b0:=I7 a5 a3 zo zo;refine zh ?_
   refine zaf (⟨b0.r4,b0.r5⟩) fun zS=>?_
   refine zra 10 rfl zS rfl ?_;refine zra 11 rfl zS rfl ?_
   refine Jg zk ?_;refine zh ?_
   refine cp rfl rfl rfl rfl a7.cellsAdd (I2 _) (ix _) ⟨aD ((a1.drew).trans (a3.mono (fun _ h=>J7 h.symm) a0)) (fun b=>by have:=hT b;omega),?_⟩;exact⟨by rw[show(l.length:Int)-((aq r).length:Int)=((l.length-(aq r).length:Nat):Int)from by omega];rfl,zd⟩
  refine zTH rfl ((uJ _ 0 zd hc)) ?_;refine zv (RV.ld a9.r1 rfl) ?_
  refine zc KG (gd _ O4 w6 (T+1) rb l _ _ 0 ((l.length:Int)-((aq r).length:Int)) 4 zo e0 a9) ?_;rintro v w7 ⟨_,b2,c5⟩;have a2:=d0.upd c5 zo zo;have a1:=b1.trans (c5.mono (fun _ h=>by rw[h];omega) a0);refine zh ?_
  refine zvH (RV.ld b2.r5 rfl) ?_;refine au (d:=44) rfl (b':=false) (rfl) ?_
  refine zh ?_;refine zFH rfl rfl ?_
  refine zvH (RV.ld b2.r5 rfl) ?_;refine aO rfl rfl ?_
  have a5:=IR b2;refine zh ?_;refine aL (fun W=>W.cell? ⟨rb,4,none⟩=some (nI ((l.length:Int)-((aq r).length:Int)))/\W.cell? ⟨rb,5,none⟩=some (nI 4)) 12 rfl zk ?_;refine zin ⟨a5.r4,a5.r5⟩ fun zS=>?_
  refine zr 0 rfl zS (fun _=>aE vq (I5 _) rfl (by first|rfl|(simp only[II,J5];rfl)) rfl rfl) ?_;refine zrm 1 rfl zS rfl ?_
  refine zr 2 rfl zS (fun _=>ao rfl) ?_;refine zrf 3 rfl zS rfl ?_
  refine zt 4 rfl zS (fun w1 a4=>RV.ld a4.1 rfl) ?_;refine zrm 5 rfl zS rfl ?_
  refine zr 6 rfl zS (fun _=>ao rfl) ?_;refine zrf 7 rfl zS rfl ?_
  refine zt 8 rfl zS (fun w1 a4=>RV.ld a4.2 rfl) ?_;refine IP 9 zk rfl ?_
  refine zsa (us:=#[nI 0,nI 0,nS]) (IR a2) (ix _) ?_;have a7:=I8 (us:=#[nI 0,nI 0,nS]) (IR a2);have a3:IJ (fun k=>k=T) O4 (IW w7) O4 (I6 (IW w7) xb #[nI 0,nI 0,nS]):=I0 zo (ID a2) rfl;have b0:=I7 a5 a3 zo zo;refine zh ?_
  refine zaf (⟨b0.r4,b0.r5⟩) fun zS=>?_
  refine zra 10 rfl zS rfl ?_;refine zra 11 rfl zS rfl ?_
  refine Jg zk ?_;refine zh ?_
  refine cp rfl rfl rfl rfl a7.cellsAdd (I2 _) (ix _) ⟨aD ((a1.drew).trans (a3.mono (fun _ h=>J7 h.symm) a0)) (fun b=>by have:=hT b;omega),?_⟩;exact⟨by rw[show(l.length:Int)-((aq r).length:Int)=((l.length-(aq r).length:Nat):Int)from by omega];rfl,zd⟩
end Go.Proofs.YtpfpmhhigheccaaGreatDoor
end
namespace Go.Proofs.YtpfpmhhigheccaaGreatDoor
mutual
def eo:Nd->Int | .mk k _ l=>if k=6\/k=7 then -1 else if k=9 then 0 else if k=4\/k=5\/k=8 then gu (k==4) 0 l else 1
def gu:Bool->Int->List Nd->Int
 |_,acc,[]=>acc
 |s,acc,t::r=>if eo t<0 then -1 else gu s (if s=true then acc+eo t else max acc (eo t)) r
end
mutual
def Cl(q:Int):Nd->Bool | .mk k _ l=>(k==q)||DX q l
def DX(q:Int):List Nd->Bool | []=>false|t::r=>Cl q t||DX q r
end
theorem Cm(q:Int):∀(l:List Nd),iY (fun i=>Cl q (nth l i)) l.length=DX q l:=by
 intro l;rw[JX,ey]
 induction l with
 |nil=>simp[DX]
 |cons t r ih=>
  simp only[DX,JW,<-ih,IF]
  constructor
  ·rintro⟨i,hi,hq⟩
   cases i with
   |zero=>rw[ax]at hq;exact .inl hq
   |succ i=>rw[bA]at hq;exact .inr ⟨i,zo,hq⟩
  rintro(h|⟨i,hi,hq⟩)
  ·exact⟨0,zo,by rw[ax];exact h⟩
  exact⟨i+1,zo,by rw[bA];exact hq⟩
mutual
theorem mB:∀(t:Nd),eo t<=nsz t
 |.mk k c l=>by
  have h:=qt l (k==4) 0 (JV 0)
  unfold eo
  simp only[nsz]
  (repeat' split)<;>omega
theorem qt:∀(l:List Nd) (s:Bool) (acc:Int),0<=acc->gu s acc l<=acc+dt l
 |[],s,acc,h=>by simp[gu,dt]
 |t::r,s,acc,h=>by
  have h1:=mB t
  unfold gu
  simp only[dt]
  split
  ·omega
  split
  ·have h2:=qt r s (acc+eo t) zo
   omega
  have h2:=qt r s (max acc (eo t)) zo
  omega
end
theorem lA{l:List Nd}{i:Nat}(h:i<l.length):l.drop i=nth l i::l.drop (i+1):=by
 rw[Jt h,aB h]
theorem fY:∀(n:Nat),n<=1000000->∀(t:Nd),nsz t<=n->∀(x:N3) (w:ka),Nt (fun _=>0) w t x->JE IQ 142 [nv x] w fun v w'=>v=nI (eo t)/\Jq w w'
 |0,_,t,hn=>by have:=dD t;omega
 |n+1,hm,.mk k c kids,hn=>by
  intro x w h;have c9:=h.ones;obtain⟨xs,hs,hf,hl,hk⟩:=h.kids;simp only[Lk]at hl hk;simp only[nsz]at hn;have c':=eH kids;generalize x.2.2=sv at *;subst c9;simp only[LO,Nd.cls];have hM:eo (.mk k c kids)=if k=6\/k=7 then -1 else if k=9 then 0 else if k=4\/k=5\/k=8 then gu (k==4) 0 kids else 1:=rfl
  rw[hM];refine I4 func142 ntmps142 rfl rfl ?_;refine zh ?_;refine aF (aw w) 1 zo rfl rfl ?_;intro xb w1 O1 b7 d0 d1 a4;have c0:w1.cell? (nA xb 0)=some (nI k):=b7.cell 0 rfl;have c2:w1.cell? (nA xb 2)=some sv:=b7.cell 2 rfl;have b6:=hs.ext a4;refine zh ?_
  by_cases h6:k=6
  ·subst h6;refine zTH rfl rfl ?_;refine zTH rfl rfl ?_;refine af rfl rfl (⟨rfl,a4⟩)
  refine zFH rfl ((beq_eq_false_iff_ne.2 h6)) ?_
  by_cases h7:k=7
  ·subst h7;refine zTH rfl rfl ?_;refine af rfl rfl (⟨rfl,a4⟩)
  rw[if_neg zo];refine zFH rfl ((beq_eq_false_iff_ne.2 h7)) ?_
  by_cases h9:k=9
  ·subst h9;refine zTH rfl rfl ?_;refine af rfl rfl (⟨rfl,a4⟩)
  rw[if_neg h9];refine zFH rfl ((beq_eq_false_iff_ne.2 h9)) ?_
  by_cases h4:k=4
  ·subst h4;rw[if_pos zo];refine zTH rfl rfl ?_;refine zTH rfl rfl ?_;refine zlp (fun y:Nat×Int×ka=>[(2,nI 0),(3,nI y.2.1),(1,nP xb),(19,sv),(20,nI xs.length),(21,nI y.1)]) (fun y=>y.2.2) (fun y=>y.1<=xs.length/\0<=y.2.1/\y.2.1<=dt (kids.take y.1)/\gu ((4:Int)==4) y.2.1 (kids.drop y.1)=gu ((4:Int)==4) 0 kids/\Jq w1 y.2.2) (fun y=>xs.length-y.1) (0,0,w1) (⟨IU _,JV _,by simp[dt],rfl,IV _⟩) ?_;rintro⟨i,a7,w2⟩ ⟨hi,b2,ha,hL,a3⟩;dsimp only at hi b2 ha hL a3 ⊢;have b0:=b6.ext a3;refine zh ?_;refine zC ?_ ?_
   ·intro a2;replace a2:i<xs.length:=dT a2;have a8:=(hk i a2).ext (a4.trans a3);have a':=a8.one;have c5:=cg kids i zo;have b9:=dO kids i zo;have b8:=cm kids (i+1);have b':=mB (nth kids i);rw[lA zo]at hL;have b4:gu ((4:Int)==4) a7 (nth kids i::kids.drop (i+1))=if eo (nth kids i)<0 then -1 else gu ((4:Int)==4) (if((4:Int)==4)=true then a7+eo (nth kids i)else max a7 (eo (nth kids i))) (kids.drop (i+1)):=rfl
    rw[b4]at hL;refine zh ?_;refine zv (ah (us:=aW (nth xs i)) (fun j u hu=>b0.cell a2 hu) (I2 _) (ix _) rfl) ?_;refine ar (aw w2) 1 zo (I5 _) rfl ?_;intro kb w3 O3 a6 b3 c6 c7;refine zsb (us:=#[nI (nth xs i).1,nI (nth xs i).2.1,(nth xs i).2.2]) a6 (ix _) (bW a') ?_;have a5:=a6.setRow (us:=#[nI (nth xs i).1,nI (nth xs i).2.1,(nth xs i).2.2]);have a9:Jq w2 (w3.setRow kb #[nI (nth xs i).1,nI (nth xs i).2.1,(nth xs i).2.2]):=(b3.trans (I0 zd a6.tag rfl)).ext;generalize w3.setRow kb #[nI (nth xs i).1,nI (nth xs i).2.1,(nth xs i).2.2]=w4 at *;refine zh ?_;refine zv (ah (us:=aW (nth xs i)) a5.cellsAdd (I2 _) (ix _) rfl) ?_;refine zc L5 (fY n zo (nth kids i) zo (nth xs i) w4 (a8.ext a9)) ?_;rintro v w5 ⟨rfl,b5⟩;have a1:=(a3.trans a9).trans b5;have c8:w5.cell? (nA xb 0)=some (nI 4):=a1.cell c0;refine zh ?_
    by_cases a0:eo (nth kids i)<0
    ·rw[if_pos a0]at hL;refine zTH rfl ((decide_eq_true a0)) ?_;refine af rfl rfl (⟨by rw[<-hL],a4.trans a1⟩)
    rw[if_neg a0]at hL;refine zFH rfl ((decide_eq_false a0)) ?_;refine zTH rfl rfl ?_;refine zxd (i+1,_,w5) (⟨a2,by dsimp only;omega,by dsimp only;omega,hL,a1⟩)
   intro b1;obtain rfl:i=xs.length:=dF b1;rw[JA zo]at hL;refine zh ?_;refine af rfl rfl (⟨by rw[<-hL];rfl,a4.trans a3⟩)
  refine aR rfl ((beq_eq_false_iff_ne.2 h4)) ?_;have hk4b:(k==4)=false:=beq_eq_false_iff_ne.2 h4;refine zh ?_
  by_cases h5:k=5
  ·subst h5;rw[if_pos zo];refine zTH rfl rfl ?_;refine zTH rfl rfl ?_;refine zlp (fun y:Nat×Int×ka=>[(2,nI 0),(3,nI y.2.1),(1,nP xb),(19,sv),(20,nI xs.length),(21,nI y.1)]) (fun y=>y.2.2) (fun y=>y.1<=xs.length/\0<=y.2.1/\y.2.1<=dt (kids.take y.1)/\gu ((5:Int)==4) y.2.1 (kids.drop y.1)=gu ((5:Int)==4) 0 kids/\Jq w1 y.2.2) (fun y=>xs.length-y.1) (0,0,w1) (⟨IU _,JV _,by simp[dt],rfl,IV _⟩) ?_;rintro⟨i,a7,w2⟩ ⟨hi,b2,ha,hL,a3⟩;dsimp only at hi b2 ha hL a3 ⊢;have b0:=b6.ext a3;refine zh ?_;refine zC ?_ ?_
   ·intro a2;replace a2:i<xs.length:=dT a2;have a8:=(hk i a2).ext (a4.trans a3);have a':=a8.one;have c5:=cg kids i zo;have b9:=dO kids i zo;have b8:=cm kids (i+1);have b':=mB (nth kids i);rw[lA zo]at hL;have b4:gu ((5:Int)==4) a7 (nth kids i::kids.drop (i+1))=if eo (nth kids i)<0 then -1 else gu ((5:Int)==4) (if((5:Int)==4)=true then a7+eo (nth kids i)else max a7 (eo (nth kids i))) (kids.drop (i+1)):=rfl
    rw[b4]at hL;refine zh ?_;refine zv (ah (us:=aW (nth xs i)) (fun j u hu=>b0.cell a2 hu) (I2 _) (ix _) rfl) ?_;refine ar (aw w2) 1 zo (I5 _) rfl ?_;intro kb w3 O3 a6 b3 c6 c7;refine zsb (us:=#[nI (nth xs i).1,nI (nth xs i).2.1,(nth xs i).2.2]) a6 (ix _) (bW a') ?_;have a5:=a6.setRow (us:=#[nI (nth xs i).1,nI (nth xs i).2.1,(nth xs i).2.2]);have a9:Jq w2 (w3.setRow kb #[nI (nth xs i).1,nI (nth xs i).2.1,(nth xs i).2.2]):=(b3.trans (I0 zd a6.tag rfl)).ext;generalize w3.setRow kb #[nI (nth xs i).1,nI (nth xs i).2.1,(nth xs i).2.2]=w4 at *;refine zh ?_;refine zv (ah (us:=aW (nth xs i)) a5.cellsAdd (I2 _) (ix _) rfl) ?_;refine zc L5 (fY n zo (nth kids i) zo (nth xs i) w4 (a8.ext a9)) ?_;rintro v w5 ⟨rfl,b5⟩;have a1:=(a3.trans a9).trans b5;have c8:w5.cell? (nA xb 0)=some (nI 5):=a1.cell c0;refine zh ?_
    by_cases a0:eo (nth kids i)<0
    ·rw[if_pos a0]at hL;refine zTH rfl ((decide_eq_true a0)) ?_;refine af rfl rfl (⟨by rw[<-hL],a4.trans a1⟩)
    rw[if_neg a0]at hL;refine zFH rfl ((decide_eq_false a0)) ?_;refine zFH rfl rfl ?_;refine zvH (jF rfl rfl) ?_;refine zxd (i+1,_,w5) (⟨a2,by dsimp only;omega,by dsimp only;omega,hL,a1⟩)
   intro b1;obtain rfl:i=xs.length:=dF b1;rw[JA zo]at hL;refine zh ?_;refine af rfl rfl (⟨by rw[<-hL];rfl,a4.trans a3⟩)
  refine zFH rfl ((beq_eq_false_iff_ne.2 h5)) ?_
  by_cases h8:k=8
  ·subst h8;rw[if_pos zo];refine zTH rfl rfl ?_;refine zlp (fun y:Nat×Int×ka=>[(2,nI 0),(3,nI y.2.1),(1,nP xb),(19,sv),(20,nI xs.length),(21,nI y.1)]) (fun y=>y.2.2) (fun y=>y.1<=xs.length/\0<=y.2.1/\y.2.1<=dt (kids.take y.1)/\gu ((8:Int)==4) y.2.1 (kids.drop y.1)=gu ((8:Int)==4) 0 kids/\Jq w1 y.2.2) (fun y=>xs.length-y.1) (0,0,w1) (⟨IU _,JV _,by simp[dt],rfl,IV _⟩) ?_;rintro⟨i,a7,w2⟩ ⟨hi,b2,ha,hL,a3⟩;dsimp only at hi b2 ha hL a3 ⊢;have b0:=b6.ext a3;refine zh ?_;refine zC ?_ ?_
   ·intro a2;replace a2:i<xs.length:=dT a2;have a8:=(hk i a2).ext (a4.trans a3);have a':=a8.one;have c5:=cg kids i zo;have b9:=dO kids i zo;have b8:=cm kids (i+1);have b':=mB (nth kids i);rw[lA zo]at hL;have b4:gu ((8:Int)==4) a7 (nth kids i::kids.drop (i+1))=if eo (nth kids i)<0 then -1 else gu ((8:Int)==4) (if((8:Int)==4)=true then a7+eo (nth kids i)else max a7 (eo (nth kids i))) (kids.drop (i+1)):=rfl
    rw[b4]at hL;refine zh ?_;refine zv (ah (us:=aW (nth xs i)) (fun j u hu=>b0.cell a2 hu) (I2 _) (ix _) rfl) ?_;refine ar (aw w2) 1 zo (I5 _) rfl ?_;intro kb w3 O3 a6 b3 c6 c7;refine zsb (us:=#[nI (nth xs i).1,nI (nth xs i).2.1,(nth xs i).2.2]) a6 (ix _) (bW a') ?_;have a5:=a6.setRow (us:=#[nI (nth xs i).1,nI (nth xs i).2.1,(nth xs i).2.2]);have a9:Jq w2 (w3.setRow kb #[nI (nth xs i).1,nI (nth xs i).2.1,(nth xs i).2.2]):=(b3.trans (I0 zd a6.tag rfl)).ext;generalize w3.setRow kb #[nI (nth xs i).1,nI (nth xs i).2.1,(nth xs i).2.2]=w4 at *;refine zh ?_;refine zv (ah (us:=aW (nth xs i)) a5.cellsAdd (I2 _) (ix _) rfl) ?_;refine zc L5 (fY n zo (nth kids i) zo (nth xs i) w4 (a8.ext a9)) ?_;rintro v w5 ⟨rfl,b5⟩;have a1:=(a3.trans a9).trans b5;have c8:w5.cell? (nA xb 0)=some (nI 8):=a1.cell c0;refine zh ?_
    by_cases a0:eo (nth kids i)<0
    ·rw[if_pos a0]at hL;refine zTH rfl ((decide_eq_true a0)) ?_;refine af rfl rfl (⟨by rw[<-hL],a4.trans a1⟩)
    rw[if_neg a0]at hL;refine zFH rfl ((decide_eq_false a0)) ?_;refine zFH rfl rfl ?_;refine zvH (jF rfl rfl) ?_;refine zxd (i+1,_,w5) (⟨a2,by dsimp only;omega,by dsimp only;omega,hL,a1⟩)
   intro b1;obtain rfl:i=xs.length:=dF b1;rw[JA zo]at hL;refine zh ?_;refine af rfl rfl (⟨by rw[<-hL];rfl,a4.trans a3⟩)
  rw[if_neg zo];refine zFH rfl ((beq_eq_false_iff_ne.2 h8)) ?_;refine af rfl rfl (⟨rfl,a4⟩)
def xE(t:Nd):Int:=if bM t=true then max (eo t) 0 else 0
def Ac(t:Nd):Bool:=bM t&&decide (0<=eo t)
theorem oh(t:Nd)(x:N3)(w:ka)(h:Nt (fun _=>0) w t x):JE IQ 110 [nv x] w fun v w'=>v=.tuple #[nI (xE t),.bool (Ac t)]/\Jq w w':=by
 refine I4 func110 ntmps110 rfl rfl ?_;refine zh ?_
 refine aF (aw w) 1 zo rfl rfl ?_;intro xb w1 O1 a3 a5 a6 a1;have a2:∀W,Jq w1 W->∀(j:Nat) (u:I3),(aW x)[j]? = some u->W.cell? (nA xb j)=some u:=fun W hE j u hu=>hE.cell (a3.cellsAdd j u hu)
 refine zh ?_;refine zv (ah (us:=aW x) (a2 w1 (IV _)) (I2 _) (ix _) rfl) ?_
 refine zc L1 (eU t x w1 (h.ext a1)) ?_;rintro v w2 ⟨rfl,a0⟩;refine zh ?_
 cases hr:bM t with
 |false=>
  refine zTH rfl rfl ?_;refine bB rfl rfl rfl (⟨by simp[xE,Ac,hr],a1.trans a0⟩)
 |true=>
  have hz:nsz t<=2000:=by
   simp only[bM,IG,decide_eq_true_eq]at hr;exact hr.1
  refine zFH rfl rfl ?_;refine zv (ah (us:=aW x) (a2 w2 a0) (I2 _) (ix _) rfl) ?_
  refine zc L5 (fY (nsz t) zo t (ln _) x w2 (h.ext (a1.trans a0))) ?_;rintro v w3 ⟨rfl,a4⟩;refine zh ?_
  refine zvH (jF rfl rfl) ?_;refine bB rfl rfl rfl (⟨by simp[xE,Ac,hr],(a1.trans a0).trans a4⟩)
theorem DY{b:Bool}{q:Int}{t:Nd}{kb:Nat}(ih:∀(y:N3) (W:ka),Nt (fun _=>0) W t y->JE IQ 143 [nv y,nI q] W fun v w'=>v=.bool b/\Jq W w')(x:N3)(w:ka)(h:Nt (fun _=>0) w t x)(hq:w.cell? ⟨kb,0,none⟩=some (nI q)):
  JE IQ 163 [nv x,nP kb] w fun v w'=>v=.bool b/\Jq w w':=by
 refine I4 func163 ntmps163 rfl rfl ?_;refine zh ?_
 refine aF (aw w) 1 zo rfl rfl ?_;intro xb w1 O1 a1 a4 a5 a0;have a3:=a0.cell hq;refine zh ?_
 refine zvH (ah (us:=aW x) a1.cellsAdd (I2 _) (ix _) rfl) ?_;refine zc call143 (ih x w1 (h.ext a0)) ?_
 rintro v w2 ⟨rfl,a2⟩;refine zh ?_;refine af rfl rfl (⟨rfl,a0.trans a2⟩)
theorem Ax:∀(n:Nat) (t:Nd),nsz t<=n->∀(x:N3) (w:ka) (q:Int),Nt (fun _=>0) w t x->JE IQ 143 [nv x,nI q] w fun v w'=>v=.bool (Cl q t)/\Jq w w'
 |0,t,hn=>by have:=dD t;omega
 |n+1,.mk k c kids,hn=>by
  intro x w q h;have a6:=h.ones;obtain⟨xs,hs,hf,hl,hk⟩:=h.kids;simp only[Lk]at hl hk;simp only[nsz]at hn;generalize x.2.2=sv at *;subst a6;simp only[LO,Nd.cls];have hM:Cl q (.mk k c kids)=((k==q)||DX q kids):=rfl;rw[hM];refine I4 func143 ntmps143 rfl rfl ?_;refine zh ?_;refine aF (aw w) 1 zo rfl rfl ?_;intro xb w1 O1 a5 b1 a9 b0;refine aF a9 2 zo rfl rfl ?_;intro kb w2 O2 a7 a8 b2 a';have a3:=a5.upd a8 zd zd;have a0:=b0.trans a';have c0:w2.cell? (nA xb 0)=some (nI k):=a3.cell 0 rfl;have c2:w2.cell? (nA xb 2)=some sv:=a3.cell 2 rfl;have cq:w2.cell? ⟨kb,0,none⟩=some (nI q):=a7.cell 0 rfl;refine zh ?_;refine bK (Jq w2) (DX q kids) 4 (IV _) rfl rfl rfl rfl rfl ?_ ?_
  ·intro a1;refine zh ?_;refine zvH (dR rfl rfl) ?_;refine zc call81 (cO call163 #[nP kb] xs sv (fun i=>Cl q (nth kids i)) w2 (hs.ext a0) (fun i hi w' hE=>DY (fun y W hy=>Ax n (nth kids i) (by have:=cg kids i (zo);omega) y W q hy) (nth xs i) w' ((hk i hi).ext (a0.trans hE)) (hE.cell cq))) ?_;have a4:=Cm q kids;rw[hl]at a4;rw[a4];rintro v w3 ⟨rfl,a2⟩;refine zh ?_;refine nE 9 5 (a2) a1
  intro w3 a2;refine zh ?_;refine af rfl rfl (⟨rfl,a0.trans a2⟩)
theorem xL(t:Nd)(q:Int)(x:N3)(w:ka)(h:Nt (fun _=>0) w t x):JE IQ 111 [nv x,nI q] w fun v w'=>v=.bool (bM t&&Cl q t)/\Jq w w':=by
 refine I4 func111 ntmps111 rfl rfl ?_;refine zh ?_
 refine aF (aw w) 1 zo rfl rfl ?_;intro xb w1 O1 a5 a6 a7 a3;have a4:∀W,Jq w1 W->∀(j:Nat) (u:I3),(aW x)[j]? = some u->W.cell? (nA xb j)=some u:=fun W hE j u hu=>hE.cell (a5.cellsAdd j u hu)
 refine zh ?_;refine zv (ah (us:=aW x) (a4 w1 (IV _)) (I2 _) (ix _) rfl) ?_
 refine zc L1 (eU t x w1 (h.ext a3)) ?_;rintro v w2 ⟨rfl,a0⟩;refine zh ?_
 refine bz (Jq w1) (Cl q t) 3 (a0) rfl rfl rfl rfl rfl ?_ ?_
 ·intro a1;refine zh ?_;refine zvH (ah (us:=aW x) (a4 _ a0) (I2 _) (ix _) rfl) ?_;refine zc call143 (Ax (nsz t) t (ln _) x _ q (h.ext (a3.trans a0))) ?_;rintro v w3 ⟨rfl,a2⟩;refine zh ?_;refine nE 7 4 (a0.trans a2) a1
 intro w3 a2;refine zh ?_;refine af rfl rfl (⟨rfl,a3.trans a2⟩)
end Go.Proofs.YtpfpmhhigheccaaGreatDoor
namespace Go.VL
section
variable{P:JG}{N:Nat}{ops:Array KK}{Q:Li→LU→ka→Prop}{rest:List KK}{st:St}{w:ka}
variable{t:IE}{p:String}{e:Array Lx}{d:Nat}{x y z:Kd}
theorem Ext.iter(w:ka)(s:ByteArray)(a0:Nat):Jq w (w.iter s a0):=Ext.alloc w _
theorem tj{xt:IE}{l:List UInt8}(hT:P.underlying xt=some .string)(hx:ev st x=some (.string (bs l)))(hd:Ju d N=true) 
  (h:WL P N ops Q rest ((d,.pointer (some ⟨w.heap.size,0,none⟩))::st) (w.iter (bs l) 0)):WL P N ops Q (⟨some d,.range xt x,t,p,e,none⟩::rest) st w:=
 Km hd (fun a ha=>by
  simp only[execOp,ha.ev hx,J6,run_range_string w xt (bs l) hT,IT]
  rfl) h
theorem CE{l:List UInt8}{a0:Nat}{c:UInt8}{w0:ka}(hx:ev st x=some (.pointer (some ⟨w0.heap.size,0,none⟩)))(hc:l[a0]? = some c)(ha:c.toNat<128)(hd:Ju d N=true) 
  (h:WL P N ops Q rest ((d,.tuple #[.bool true,nI (a0:Nat),.int .i32 (c.toNat:Int)])::st) (w0.iter (bs l) (a0+1))):WL P N ops Q (⟨some d,.next x true,t,p,e,none⟩::rest) st (w0.iter (bs l) a0):=by
 obtain⟨a2,hv⟩:=K4.1 hc;have hs:a0<(bs l).size:=by rw[cW];exact a2
 have he:(bs l)[a0]'hs=c:=by rw[<-hv];exact Ku (xs:=l) (i:=a0) a2
 have a1:=run_next_ascii (P:=P) w0 (bs l) a0 t hs (by rw[he];exact ha);rw[he]at a1
 exact Km hd (fun a ha=>by
  simp only[execOp,ha.ev hx,J6,a1,IT]
  rfl) h
theorem CD{l:List UInt8}{a0:Nat}{w0:ka}(hx:ev st x=some (.pointer (some ⟨w0.heap.size,0,none⟩)))(hp:l.length<=a0)(hd:Ju d N=true) 
  (h:WL P N ops Q rest ((d,.tuple #[.bool false])::st) (w0.iter (bs l) a0)):WL P N ops Q (⟨some d,.next x true,t,p,e,none⟩::rest) st (w0.iter (bs l) a0):=by
 have hs:¬a0<(bs l).size:=by rw[cW];omega
 have a1:=run_next_end (P:=P) w0 (bs l) a0 t hs
 exact Km hd (fun a ha=>by
  simp only[execOp,ha.ev hx,J6,a1,IT]
  rfl) h
end
section
variable{P:JG}{N:Nat}{ops:Array KK}{Q:Li→LU→ka→Prop}{rest:List KK}{st:St}{w:ka}
variable{t:IE}{p:String}{e:Array Lx}{d:Nat}{x y z:Kd}
theorem uZ{xt E:IE}{n:Nat}{cs:Array I3}{k:IntKind}{m:Int}{v:I3}(hu:P.underlying xt=some (.array n E))(hE:(LD E).run P w=.ok 1 w)(hA:(isAgg E).run P w=.ok false w)(hx:ev st x=some (.agg cs))(hy:ev st y=some (.int k m))(i:Nat)(hm:m=i)(hi:i<n)(hc:cs[i]? = some v):
  RV P N (.index xt x y) t st w v:=fun a ha a0 p e g=>by
 subst hm;have h2:0<=(i:Int)/\(i:Int)<(n:Int):=zo;simp only[execOp,ha.ev hx,ha.ev hy];simp[Instr.index,asIntOf,run_underlying hu,hE,h2,part,hA,hc];omega
theorem kM{α:Type}{c:Ly}(f:α->St)(g:α->ka)(I:α->Prop)(h1:(∀z,I z->QF N Q .normal (f z) (g z))->WC P N c Q st w)(h2:∀z,I z->QF N Q .normal (f z) (g z)):WC P N c Q st w:=h1 h2
theorem eA{e:Li}{a0:St}{w':ka}(h:QF N Q e a0 w')(hc:Cov st a0)(hw:w'=w):QF N Q e st w:=by subst hw;exact h.weaken hc
theorem kJ{T:IE}{O:Nat->Nat}{i b:Nat}{cs us:Array I3}{E:IE}(off:Nat)(hb:IX O w i b cs E)(hs:off+us.size<=cs.size)(hT:(LD T).run P w=.ok us.size w)(h1:us.toList.all JY=true) 
  {q:Lz} (hx:ev st x=some (.pointer (some q))) (hq:q=⟨b,off,none⟩) (hy:ev st y=some (.agg us))
  (h:WL P N ops Q rest st (w.setRow b (cs.toList.take off++us.toList++cs.toList.drop (off+us.size)).toArray)):WL P N ops Q (⟨none,.store T x y,t,p,e,none⟩::rest) st w:=
 ik (fun a ha=>by
  subst hq;have a0:(L0 T (.pointer (some ⟨b,off,none⟩)) (.agg us)).run P w=.ok () (w.setRow b (cs.toList.take off++us.toList++cs.toList.drop (off+us.size)).toArray):=by
   have:=run_storeCells_at P b off E us.toList 0 cs w hb.blk (by simpa using hs) (KR.1 h1);simp only[Nat.add_zero,Array.length_toList]at this;simp only[L0,Instr.sureAddr,storeVar,J6,Lc,IT,L7,hT];simpa using this
  simp only[execOp,ha.ev hx,ha.ev hy,J6,a0,IT,Lc]) h
end
def lowT(O:Nat->Nat)(T:Nat):Nat->Nat:=fun b=>if T<=O b then 0 else O b
theorem Upd.lowT{S:Nat->Prop}{T:Nat}{O O2:Nat->Nat}{w w':ka}(h:IJ S O w O2 w')(hT:∀b,O b<T){S':Nat->Prop}(hS:∀b,S (O b)->S' (O b))(hz:¬S' 0):IJ S' O w (lowT O2 T) w':=
 ⟨h.os,h.tape,h.output,h.size,fun b hb hn=>h.blk b hb fun hs=>hn (hS b hs),fun b hb=>by
  have h1:=h.tag b hb;have:=hT b;unfold Go.VL.lowT;rw[if_neg zo];exact h1,fun b hb=>by
  unfold Go.VL.lowT at hb
  split at hb
  ·exact absurd rfl hb
  exact h.new b hb,hz⟩
theorem Rng.lowT{B:Nat}{O:Nat->Nat}{w:ka}(h:K9 B O w)(T:Nat):K9 B (lowT O T) w:=⟨h.le,fun b hb=>by
 unfold Go.VL.lowT at hb
 split at hb
 ·exact absurd rfl hb
 exact h.rng b hb⟩
theorem BlkO.lowT{O:Nat->Nat}{w:ka}{i b:Nat}{cs:Array I3}{E:IE}(h:IX O w i b cs E){T:Nat}(hi:i<T):IX (lowT O T) w i b cs E:=⟨h.blk,by unfold Go.VL.lowT;rw[h.tag,if_neg zo]⟩
theorem RowT.lowT{α:Type}{enc:α->List I3}{O:Nat->Nat}{w:ka}{i:Nat}{E:IE}{sz:Nat}{v:I3}{l:List α}(h:Kz enc E sz O w i v l){T:Nat}(hi:i<T):Kz enc E sz (lowT O T) w i v l:=
 ⟨⟨h.1.row,fun g hg=>by unfold Go.VL.lowT;rw[h.1.tag g hg,if_neg zo]⟩,h.2⟩
theorem ke{O:Nat->Nat}{T b:Nat}(h:O b=0):lowT O T b=0:=by unfold lowT;split<;>simp[h]
end Go.VL
section
namespace Go.VL
structure LS where
 l:List UInt8
 pos:Int
 to:Int
 bg:Int
 bad:Int
 e:Int
 ig:I3
 kp:I3
 ru:I3
 mc:I3
 i:Bool
 k:Bool
def LS.cells(s:LS):Array I3:=#[.string (bs s.l),nI s.pos,nI s.to,nI s.bg,nI s.bad,nI s.e,s.ig,s.kp,s.ru,s.mc,.bool s.i,.bool s.k]
theorem BlkO.q0{O:Nat->Nat}{w:ka}{j rb:Nat}{s:LS}{E:IE}(h:IX O w j rb s.cells E):w.cell? ⟨rb,0,none⟩=some (.string (bs s.l)):=h.cell 0 rfl
theorem BlkO.q1{O:Nat->Nat}{w:ka}{j rb:Nat}{s:LS}{E:IE}(h:IX O w j rb s.cells E):w.cell? ⟨rb,1,none⟩=some (nI s.pos):=h.cell 1 rfl
theorem BlkO.q2{O:Nat->Nat}{w:ka}{j rb:Nat}{s:LS}{E:IE}(h:IX O w j rb s.cells E):w.cell? ⟨rb,2,none⟩=some (nI s.to):=h.cell 2 rfl
theorem BlkO.q3{O:Nat->Nat}{w:ka}{j rb:Nat}{s:LS}{E:IE}(h:IX O w j rb s.cells E):w.cell? ⟨rb,3,none⟩=some (nI s.bg):=h.cell 3 rfl
theorem BlkO.q4{O:Nat->Nat}{w:ka}{j rb:Nat}{s:LS}{E:IE}(h:IX O w j rb s.cells E):w.cell? ⟨rb,4,none⟩=some (nI s.bad):=h.cell 4 rfl
theorem BlkO.q5{O:Nat->Nat}{w:ka}{j rb:Nat}{s:LS}{E:IE}(h:IX O w j rb s.cells E):w.cell? ⟨rb,5,none⟩=some (nI s.e):=h.cell 5 rfl
theorem BlkO.q6{O:Nat->Nat}{w:ka}{j rb:Nat}{s:LS}{E:IE}(h:IX O w j rb s.cells E):w.cell? ⟨rb,6,none⟩=some (s.ig):=h.cell 6 rfl
theorem BlkO.q7{O:Nat->Nat}{w:ka}{j rb:Nat}{s:LS}{E:IE}(h:IX O w j rb s.cells E):w.cell? ⟨rb,7,none⟩=some (s.kp):=h.cell 7 rfl
theorem BlkO.q8{O:Nat->Nat}{w:ka}{j rb:Nat}{s:LS}{E:IE}(h:IX O w j rb s.cells E):w.cell? ⟨rb,8,none⟩=some (s.ru):=h.cell 8 rfl
theorem BlkO.q9{O:Nat->Nat}{w:ka}{j rb:Nat}{s:LS}{E:IE}(h:IX O w j rb s.cells E):w.cell? ⟨rb,9,none⟩=some (s.mc):=h.cell 9 rfl
theorem BlkO.q10{O:Nat->Nat}{w:ka}{j rb:Nat}{s:LS}{E:IE}(h:IX O w j rb s.cells E):w.cell? ⟨rb,10,none⟩=some (.bool s.i):=h.cell 10 rfl
theorem BlkO.q11{O:Nat->Nat}{w:ka}{j rb:Nat}{s:LS}{E:IE}(h:IX O w j rb s.cells E):w.cell? ⟨rb,11,none⟩=some (.bool s.k):=h.cell 11 rfl
theorem BlkO.s_pos{O:Nat->Nat}{w:ka}{j rb:Nat}{s:LS}{E:IE}(h:IX O w j rb s.cells E)(a':Int):IX O (w.setCell ⟨rb,1,none⟩ (nI a')) j rb ({s with pos:=a'}:LS).cells E:=h.set 1 _
theorem BlkO.s_to{O:Nat->Nat}{w:ka}{j rb:Nat}{s:LS}{E:IE}(h:IX O w j rb s.cells E)(a':Int):IX O (w.setCell ⟨rb,2,none⟩ (nI a')) j rb ({s with to:=a'}:LS).cells E:=h.set 2 _
theorem BlkO.s_bg{O:Nat->Nat}{w:ka}{j rb:Nat}{s:LS}{E:IE}(h:IX O w j rb s.cells E)(a':Int):IX O (w.setCell ⟨rb,3,none⟩ (nI a')) j rb ({s with bg:=a'}:LS).cells E:=h.set 3 _
theorem BlkO.s_bad{O:Nat->Nat}{w:ka}{j rb:Nat}{s:LS}{E:IE}(h:IX O w j rb s.cells E)(a':Int):IX O (w.setCell ⟨rb,4,none⟩ (nI a')) j rb ({s with bad:=a'}:LS).cells E:=h.set 4 _
theorem BlkO.s_e{O:Nat->Nat}{w:ka}{j rb:Nat}{s:LS}{E:IE}(h:IX O w j rb s.cells E)(a':Int):IX O (w.setCell ⟨rb,5,none⟩ (nI a')) j rb ({s with e:=a'}:LS).cells E:=h.set 5 _
theorem BlkO.s_ru{O:Nat->Nat}{w:ka}{j rb:Nat}{s:LS}{E:IE}(h:IX O w j rb s.cells E)(a':I3):IX O (w.setCell ⟨rb,8,none⟩ a') j rb ({s with ru:=a'}:LS).cells E:=h.set 8 _
end Go.VL
namespace Go.Proofs.YtpfpmhhigheccaaGreatDoor
open Go.VL Go.Proofs
set_option maxRecDepth 10000
abbrev Rd6(O:Nat->Nat)(w:ka)(j rb:Nat)(s:LS):Prop:=IX O w j rb s.cells 148
theorem mz{l:List UInt8}{m i:Nat}{c:UInt8}(h:(l.take m)[i]? = some c):l[i]? = some c:=by
 rw[List.getElem?_take]at h
 split at h
 ·exact h
 cases h
theorem dC(O:Nat->Nat)(w:ka)(j rb:Nat)(s:LS)(m:Nat)(r:List UInt8)(hj:j≠0)(hm:m<=s.l.length)(hl:s.l.length<=100000)(a3:s.to=(m:Int))(hr:r <:+ s.l.take m)(hp:s.pos=(m:Int)-(r.length:Int))(h:Rd6 O w j rb s):
  JE IQ 103 [nP rb] w fun v w'=>v=.bool (decide (0<(aq r).length))/\Rd6 O w' j rb {s with pos:=(m:Int)-((aq r).length:Int)}/\IJ (fun k=>k=j) O w O w':=by
 have hz:¬(fun k:Nat=>k=j) 0:=fun e=>hj e.symm
 have a9:(s.l.take m).length=m:=by simp;omega
 have h0:Rd6 O w j rb {s with pos:=(m:Int)-(r.length:Int)}:=by rw[<-hp];exact h
 refine I4 func103 ntmps103 rfl rfl ?_;refine zh ?_
 refine zlp (fun x:List UInt8×ka=>[(0,nP rb)]) (fun x=>x.2) (fun x=>x.1 <:+ s.l.take m/\aq x.1=aq r/\Rd6 O x.2 j rb {s with pos:=(m:Int)-(x.1.length:Int)}/\IJ (fun k=>k=j) O w O x.2) (fun x=>x.1.length) (r,w) (⟨hr,rfl,h0,L2 hz _ _⟩) ?_;rintro⟨r1,w1⟩ ⟨a4,a2,a7,a5⟩;dsimp only at a4 a2 a7 a5 ⊢;have a0:=a7.drew;have a8:=a4.length_le;refine zh ?_
 refine Jh zk zk ?_;refine zh ?_
 refine zwH (RV.ld a0.q1 rfl) ?_;refine zwH (RV.ld a0.q2 rfl) ?_
 cases r1 with
 |nil=>
  refine cy (d:=12) rfl (b':=false) (decide_eq_false (by simp[a3])) ?_;have a1:=a0.drew;refine zh ?_
  refine zw (bq rfl rfl) ?_;refine Ja ?_
  refine zh ?_;refine zFH rfl rfl ?_
  refine Jh zk zk ?_;refine zh ?_
  refine zwH (RV.ld a1.q1 rfl) ?_;refine zwH (RV.ld a1.q2 rfl) ?_
  refine Ja ?_;refine zh ?_
  refine af rfl rfl (⟨by rw[<-a2];simp[a3,aq],by rw[<-a2];exact a1,a5.drew.drew⟩)
 |cons b r2=>
  simp only[IF]at a8 a0;refine cy (d:=12) rfl (b':=true) (decide_eq_true (by simp only[IF,a3];omega)) ?_;refine zh ?_;refine zwH (RV.ld a0.q0 rfl) ?_;refine zwH (RV.ld a0.q1 rfl) ?_;refine zwH (bh (c:=b) I1 rfl rfl (m-(r2.length+1)) (by dsimp only;omega) (mz (by have:=mG a4;rwa[a9]at this))) ?_;refine zw (bp rfl rfl) ?_;refine Ja ?_;refine zh ?_;refine zC ?_ ?_
  ·intro hb;replace hb:b=32:=by rw[show(32:Int)=((32:Nat):Int)from rfl,nz b 32 zd]at hb;simpa using hb
   subst hb;refine zh ?_;refine zv (RV.ld a0.q1 rfl) ?_;refine zvH (JJ rfl rfl (Jv (by dsimp only;omega))) ?_;refine aj (j:=1) a0 rfl (Jb _) rfl rfl rfl rfl ?_;rw[show((m:Int)-((r2.length+1:Nat):Int))+1=(m:Int)-(r2.length:Int)from by omega];have a1:=a0.s_pos ((m:Int)-(r2.length:Int));have a':IJ (fun k=>k=j) O w1.drew O (w1.drew.setCell ⟨rb,1,none⟩ (nI ((m:Int)-(r2.length:Int)))):=IN hz a0.tag rfl;refine zh ?_;refine zx (r2,w1.drew.setCell ⟨rb,1,none⟩ (nI ((m:Int)-(r2.length:Int)))) (⟨(JP _ _).trans a4,by rw[<-a2];simp[aq],a1,a5.drew.trans a'⟩) (by dsimp only;simp)
  intro hb;replace hb:b≠32:=by rw[show(32:Int)=((32:Nat):Int)from rfl,nz b 32 zd]at hb;simpa using hb
  have a6:aq (b::r2)=b::r2:=by simp[aq,hb]
  have a1:=a0.drew;refine zh ?_;refine Jh zk zk ?_;refine zh ?_;refine zwH (RV.ld a1.q1 rfl) ?_;refine zwH (RV.ld a1.q2 rfl) ?_;refine Ja ?_;refine zh ?_;refine af rfl rfl (⟨by rw[<-a2,a6];simp[a3];omega,by rw[<-a2,a6];exact a1,a5.drew.drew⟩)
theorem bC(O:Nat->Nat)(w:ka)(j rb:Nat)(s:LS)(p e:Int)(hj:j≠0)(he:s.e=0)(h:Rd6 O w j rb s):
  JE IQ 130 [nP rb,nI p,nI e] w fun _ w'=>Rd6 O w' j rb {s with bad:=p,e:=e}/\IJ (fun k=>k=j) O w O w':=by
 refine I4 func130 ntmps130 rfl rfl ?_;refine zh ?_
 refine zvH (RV.ld h.q5 rfl) ?_;refine zTH rfl ((by rw[he];rfl)) ?_
 refine aj (j:=4) h rfl (Jb _) rfl rfl rfl rfl ?_;have a0:=h.s_bad p;have a3:IJ (fun k=>k=j) O w O (w.setCell ⟨rb,4,none⟩ (nI p)):=IN (fun e=>hj e.symm) h.tag rfl;refine zh ?_
 refine aj (j:=5) a0 rfl (sizeOf33 _) rfl rfl rfl rfl ?_;have a1:=a0.s_e e;have a2:IJ (fun k=>k=j) O (w.setCell ⟨rb,4,none⟩ (nI p)) O ((w.setCell ⟨rb,4,none⟩ (nI p)).setCell ⟨rb,5,none⟩ (nI e)):=IN (fun e=>hj e.symm) a0.tag rfl;refine zh ?_
 refine aG rfl (⟨a1,a3.trans a2⟩)
theorem gH(O:Nat->Nat)(w:ka)(j rb:Nat)(s:LS)(m:Nat)(r:List UInt8)(hj:j≠0)(hm:m<=s.l.length)(hl:s.l.length<=100000)(b2:s.to=(m:Int))(hr:r <:+ s.l.take m)(hp:s.pos=(m:Int)-(r.length:Int))(h:Rd6 O w j rb s):
  JE IQ 104 [nP rb] w fun v w'=>v=.string (bs (r.takeWhile ak))/\Rd6 O w' j rb {s with pos:=(m:Int)-((r.dropWhile ak).length:Int)}/\IJ (fun k=>k=j) O w O w':=by
 have hz:¬(fun k:Nat=>k=j) 0:=fun e=>hj e.symm
 have a9:(s.l.take m).length=m:=by simp;omega
 have h0:Rd6 O w j rb {s with pos:=(m:Int)-(r.length:Int)}:=by rw[<-hp];exact h
 have a':=hr.length_le;rw[a9]at a';refine I4 func104 ntmps104 rfl rfl ?_;refine zh ?_;refine zvH (RV.ld h0.q1 rfl) ?_;refine zlp (fun x:List UInt8×ka=>[(0,nP rb),(3,nI ((m:Int)-(r.length:Int)))]) (fun x=>x.2) (fun x=>x.1 <:+ s.l.take m/\x.1.dropWhile ak=r.dropWhile ak/\Rd6 O x.2 j rb {s with pos:=(m:Int)-(x.1.length:Int)}/\IJ (fun k=>k=j) O w O x.2) (fun x=>x.1.length) (r,w) (⟨hr,rfl,h0,L2 hz _ _⟩) ?_;rintro⟨r1,w1⟩ ⟨a8,a5,b4,a6⟩;dsimp only at a8 a5 b4 a6 ⊢;have a0:=b4.drew;have b3:=a8.length_le;rw[a9]at b3;have a3:r1=r.dropWhile ak->(s.l.take (m-r1.length)).drop (m-r.length)=r.takeWhile ak:=fun e=>by
  have:=yY (l:=s.l.take m) (a:=r.takeWhile ak) (b:=r.dropWhile ak) (by rw[JM];exact hr);rw[JM,<-e,a9,KY,KX zo]at this;exact this
 have b0:r1.length<=r.length\/r1≠r.dropWhile ak:=by
  by_cases e:r1=r.dropWhile ak
  ·left;rw[e];exact(Kk _).length_le
  right;exact e
 refine zh ?_;refine Jh zk zk ?_
 refine zh ?_;refine zwH (RV.ld a0.q1 rfl) ?_
 refine zwH (RV.ld a0.q2 rfl) ?_
 cases r1 with
 |nil=>
  refine cy (d:=17) rfl (b':=false) (decide_eq_false (by simp[b2])) ?_;have a1:=a0.drew;have hd:[]=r.dropWhile ak:=by rw[<-a5];rfl
  have h1:=a3 hd;refine zh ?_;refine zw (bq rfl rfl) ?_;refine Ja ?_;refine zh ?_;refine zFH rfl rfl ?_;refine Jh zk zk ?_;refine zh ?_;refine zwH (RV.ld a1.q0 rfl) ?_;refine zw (RV.ld a1.q1 rfl) ?_;refine zwH (cQ I1 rfl rfl rfl (m-r.length) (m-0) zo (by simp) zo zo) ?_;refine Ja ?_;refine zh ?_;simp only[KV]at h1;refine af rfl rfl (⟨by rw[h1],by rw[<-hd];exact a1,a6.drew.drew⟩)
 |cons b r2=>
  simp only[IF]at b3 a0;refine cy (d:=17) rfl (b':=true) (decide_eq_true (by simp only[IF,b2];omega)) ?_;have a2:s.l[m-(r2.length+1)]? = some b:=mz (by have:=mG a8;rwa[a9]at this);refine zh ?_;refine zwH (RV.ld a0.q0 rfl) ?_;refine zwH (RV.ld a0.q1 rfl) ?_;refine zwH (bh (c:=b) I1 rfl rfl (m-(r2.length+1)) (by dsimp only;omega) a2) ?_
  by_cases k1:65<=b.toNat
  ·refine cy (d:=28) rfl (b':=true) (decide_eq_true zo) ?_;refine zh ?_
   refine zwH (RV.ld a0.q0 rfl) ?_;refine zwH (RV.ld a0.q1 rfl) ?_
   refine zwH (bh (c:=b) I1 rfl rfl (m-(r2.length+1)) (by dsimp only;omega) a2) ?_;refine zwH (bp rfl rfl) ?_
   by_cases k2:b.toNat<=90
   ·refine cy (d:=40) rfl (b':=true) (decide_eq_true zo) ?_;have a4:ak b=true:=by simp[ak,k1,k2]
    refine zh ?_;refine zw (bp rfl rfl) ?_
    refine zw (bp rfl rfl) ?_;refine Ja ?_
    refine zh ?_;refine zTH rfl rfl ?_
    refine zv (RV.ld a0.q1 rfl) ?_;refine zvH (JJ rfl rfl (Jv (by dsimp only;omega))) ?_
    refine aj (j:=1) a0 rfl (Jb _) rfl rfl rfl rfl ?_;rw[show((m:Int)-((r2.length+1:Nat):Int))+1=(m:Int)-(r2.length:Int)from by omega];have a1:=a0.s_pos ((m:Int)-(r2.length:Int));have b1:IJ (fun k=>k=j) O w1.drew O (w1.drew.setCell ⟨rb,1,none⟩ (nI ((m:Int)-(r2.length:Int)))):=IN hz a0.tag rfl;refine zh ?_
    refine zx (r2,w1.drew.setCell ⟨rb,1,none⟩ (nI ((m:Int)-(r2.length:Int)))) (⟨(JP _ _).trans a8,by rw[<-a5,K1 a4],a1,a6.drew.trans b1⟩) (by dsimp only;simp)
   refine cy (d:=40) rfl (b':=false) (decide_eq_false zo) ?_;refine zh ?_
   refine zwH (RV.ld a0.q0 rfl) ?_;refine zwH (RV.ld a0.q1 rfl) ?_
   refine zwH (bh (c:=b) I1 rfl rfl (m-(r2.length+1)) (by dsimp only;omega) a2) ?_
   by_cases k3:97<=b.toNat
   ·refine cy (d:=51) rfl (b':=true) (decide_eq_true zo) ?_;refine zh ?_
    refine zwH (RV.ld a0.q0 rfl) ?_;refine zwH (RV.ld a0.q1 rfl) ?_
    refine zwH (bh (c:=b) I1 rfl rfl (m-(r2.length+1)) (by dsimp only;omega) a2) ?_;refine zwH (bp rfl rfl) ?_
    refine zw (bq rfl rfl) ?_;refine zw (bp rfl rfl) ?_
    refine Ja ?_;refine zh ?_
    by_cases k4:b.toNat<=122
    ·refine aO rfl (decide_eq_true zo) ?_;have a4:ak b=true:=by simp[ak,k3,k4]
     refine zh ?_;refine zv (RV.ld a0.q1 rfl) ?_
     refine zvH (JJ rfl rfl (Jv (by dsimp only;omega))) ?_;refine aj (j:=1) a0 rfl (Jb _) rfl rfl rfl rfl ?_
     rw[show((m:Int)-((r2.length+1:Nat):Int))+1=(m:Int)-(r2.length:Int)from by omega];have a1:=a0.s_pos ((m:Int)-(r2.length:Int));have b1:IJ (fun k=>k=j) O w1.drew O (w1.drew.setCell ⟨rb,1,none⟩ (nI ((m:Int)-(r2.length:Int)))):=IN hz a0.tag rfl;refine zh ?_;refine zx (r2,w1.drew.setCell ⟨rb,1,none⟩ (nI ((m:Int)-(r2.length:Int)))) (⟨(JP _ _).trans a8,by rw[<-a5,K1 a4],a1,a6.drew.trans b1⟩) (by dsimp only;simp)
    refine aR rfl (decide_eq_false zo) ?_;have a4:ak b=false:=by simp[ak,k2,k4]
    have a7:(b::r2).dropWhile ak=b::r2:=Jr (by rw[a4];decide);have hd:b::r2=r.dropWhile ak:=by rw[<-a5,a7]
    have h1:=a3 hd;have h2:=b0.resolve_right (fun e=>e hd);simp only[IF]at h1 h2;have a1:=a0.drew;refine zh ?_;refine Jh zk zk ?_;refine zh ?_;refine zwH (RV.ld a1.q0 rfl) ?_;refine zw (RV.ld a1.q1 rfl) ?_;refine zwH (cQ I1 rfl rfl rfl (m-r.length) (m-(r2.length+1)) zo (by dsimp only;omega) zo (by dsimp only;omega)) ?_;refine Ja ?_;refine zh ?_;refine af rfl rfl (⟨by rw[h1],by rw[<-hd];exact a1,a6.drew.drew⟩)
   refine cy (d:=51) rfl (b':=false) (decide_eq_false zo) ?_;have a4:ak b=false:=by simp[ak,k2,k3]
   have a7:(b::r2).dropWhile ak=b::r2:=Jr (by rw[a4];decide);have hd:b::r2=r.dropWhile ak:=by rw[<-a5,a7]
   have h1:=a3 hd;have h2:=b0.resolve_right (fun e=>e hd);simp only[IF]at h1 h2;have a1:=a0.drew;refine zh ?_;refine zwH (bq rfl rfl) ?_;refine zw (bq rfl rfl) ?_;refine zw (bp rfl rfl) ?_;refine Ja ?_;refine zh ?_;refine zFH rfl rfl ?_;refine Jh zk zk ?_;refine zh ?_;refine zwH (RV.ld a1.q0 rfl) ?_;refine zw (RV.ld a1.q1 rfl) ?_;refine zwH (cQ I1 rfl rfl rfl (m-r.length) (m-(r2.length+1)) zo (by dsimp only;omega) zo (by dsimp only;omega)) ?_;refine Ja ?_;refine zh ?_;refine af rfl rfl (⟨by rw[h1],by rw[<-hd];exact a1,a6.drew.drew⟩)
  have k3:¬97<=b.toNat:=zo;refine cy (d:=28) rfl (b':=false) (decide_eq_false zo) ?_;refine zh ?_;refine zwH (bq rfl rfl) ?_;refine zwH (RV.ld a0.q0 rfl) ?_;refine zwH (RV.ld a0.q1 rfl) ?_;refine zwH (bh (c:=b) I1 rfl rfl (m-(r2.length+1)) (by dsimp only;omega) a2) ?_;refine cy (d:=51) rfl (b':=false) (decide_eq_false zo) ?_;have a4:ak b=false:=by simp[ak,k1,k3]
  have a7:(b::r2).dropWhile ak=b::r2:=Jr (by rw[a4];decide);have hd:b::r2=r.dropWhile ak:=by rw[<-a5,a7]
  have h1:=a3 hd;have h2:=b0.resolve_right (fun e=>e hd);simp only[IF]at h1 h2;have a1:=a0.drew;refine zh ?_;refine zwH (bq rfl rfl) ?_;refine zw (bq rfl rfl) ?_;refine zw (bp rfl rfl) ?_;refine Ja ?_;refine zh ?_;refine zFH rfl rfl ?_;refine Jh zk zk ?_;refine zh ?_;refine zwH (RV.ld a1.q0 rfl) ?_;refine zw (RV.ld a1.q1 rfl) ?_;refine zwH (cQ I1 rfl rfl rfl (m-r.length) (m-(r2.length+1)) zo (by dsimp only;omega) zo (by dsimp only;omega)) ?_;refine Ja ?_;refine zh ?_;refine af rfl rfl (⟨by rw[h1],by rw[<-hd];exact a1,a6.drew.drew⟩)
end Go.Proofs.YtpfpmhhigheccaaGreatDoor
end
section
namespace Go.VL
section
variable{P:JG}{N:Nat}{ops:Array KK}{Q:Li→LU→ka→Prop}{rest:List KK}{st:St}{w:ka}
variable{t:IE}{p:String}{e:Array Lx}{d:Nat}{x y z:Kd}
theorem WC.scope{c:Ly}(h:WC P N c (Lh Q) st w):WC P N (.scope c) Q st w:=fun a ha=>wp_scope_straight (h a ha)
theorem jH(h:QF N Q .ret st w):QF N (Lh Q) .ret st w:=h
theorem run_next_at(w:ka)(b:Nat)(s:ByteArray)(a0:Nat)(ty:IE){c n:Nat}(hb:w.heap[b]? = some (.stringIter s a0))(h:a0<s.size)(hd:JF s a0=(c,n)):
  (JZ (nP b) true ty).run P w=.ok (.tuple #[.bool true,nI a0,.int .i32 c]) (w.putObj b (.stringIter s (a0+n))):=by
 simp only[JZ,getObj,setObj,J6,Ld,hb,Result.andThen,h,if_true,hd];simp[goInt,World.putObj]
theorem pZ(w:ka)(b:Nat)(s:ByteArray)(a0:Nat)(ty:IE)(hb:w.heap[b]? = some (.stringIter s a0))(h:¬a0<s.size):
  (JZ (nP b) true ty).run P w=.ok (.tuple #[.bool false]) w:=by
 simp[JZ,getObj,Ld,hb,h]
theorem tk{l:List UInt8}{a0 c n b:Nat}(hx:ev st x=some (nP b))(hb:w.heap[b]? = some (.stringIter (bs l) a0))(hp:a0<l.length)(a2:JF (bs l) a0=(c,n))(hd:Ju d N=true) 
  (h:WL P N ops Q rest ((d,.tuple #[.bool true,nI (a0:Nat),.int .i32 (c:Int)])::st) (w.putObj b (.stringIter (bs l) (a0+n)))):WL P N ops Q (⟨some d,.next x true,t,p,e,none⟩::rest) st w:=by
 have a1:=run_next_at (P:=P) w b (bs l) a0 t hb (by rw[cW];exact hp) a2
 exact Km hd (fun a ha=>by
  simp only[execOp,ha.ev hx,J6,a1,IT]
  rfl) h
theorem uQ{l:List UInt8}{a0 b:Nat}(hx:ev st x=some (nP b))(hb:w.heap[b]? = some (.stringIter (bs l) a0))(hp:l.length<=a0)(hd:Ju d N=true) 
  (h:WL P N ops Q rest ((d,.tuple #[.bool false])::st) w):WL P N ops Q (⟨some d,.next x true,t,p,e,none⟩::rest) st w:=by
 have a1:=pZ (P:=P) w b (bs l) a0 t hb (by rw[cW];omega)
 exact Km hd (fun a ha=>by
  simp only[execOp,ha.ev hx,J6,a1,IT]
  rfl) h
theorem vd{xt yt:IE}{k k':IntKind}{m:Int}(hs:P.underlying xt=some (.int k'))(a0:P.underlying yt=some .string)(hx:ev st x=some (.int k m)):RV P N (.convert xt yt x) t st w (.string (Ko m)):=
 fun a ha a1 p e g=>by
  simp only[execOp,ha.ev hx];simp[convert,run_underlying hs,run_underlying a0,Conv.intToString]
end
theorem AW{l:List UInt8}{a0:Nat}(h:a0<l.length)(hb:(nth l a0).toNat<128):JF (bs l) a0=((nth l a0).toNat,1):=by
 have hs:a0<(bs l).size:=by rw[cW];exact h
 have he:(bs l)[a0]'hs=nth l a0:=by rw[aB h];exact Ku (xs:=l) (i:=a0) h
 have:=decode_ascii (bs l) a0 hs (by rw[he];exact hb);rw[he]at this;exact this
theorem CX{l:List UInt8}{i:Nat}(h:i<l.length):(bs l).get! i=nth l i:=by
 rw[aB h];show(bs l).data[i]! = _;rw[getElem!_pos (bs l).data i (by simpa[bs]using h)];simp[bs]
theorem AX{l:List UInt8}{a0:Nat}(h:a0<l.length)(hb:128<=(nth l a0).toNat):
  ∃c n,JF (bs l) a0=(c,n)/\128<=c/\Jc (c:Int)=true/\1<=n/\a0+n<=l.length/\∀i,a0<=i->i<a0+n->128<=(nth l i).toNat:=by
 have h0:(bs l).get! (a0+0)=nth l a0:=CX h;have hc:∀k,(a0+k<(bs l).size&&((bs l).get! (a0+k)).toNat / 64==2)=true->a0+k<l.length/\128<=(nth l (a0+k)).toNat:=fun k hk=>by
  simp only[IG,decide_eq_true_eq,beq_iff_eq,cW]at hk;rw[CX hk.1]at hk;exact⟨hk.1,zo⟩
 have one:∀i,a0<=i->i<a0+1->128<=(nth l i).toNat:=fun i h1 h2=>by
  obtain rfl:i=a0:=zo;exact hb
 have a1:∃c n,(Utf8.runeError,1)=(c,n)/\128<=c/\Jc (c:Int)=true/\1<=n/\a0+n<=l.length/\∀i,a0<=i->i<a0+n->128<=(nth l i).toNat:=⟨_,_,rfl,zd,zd,zd,zo,one⟩
 unfold JF;simp only[h0];rw[if_neg zo];have a2:=(nth l a0).toNat_lt
 split
 ·rename_i h1;simp only[IG]at h1;obtain⟨g1,g2⟩:=hc 1 (by simpa using h1.2)
  split
  ·rename_i h2;refine⟨_,_,rfl,h2,?_,zd,zo,fun i k1 k2=>?_⟩
   ·unfold Jc;simp only[JW,IG,decide_eq_true_eq];left;constructor<;>omega
   by_cases e:i=a0
   ·rw[e];exact hb
   obtain rfl:i=a0+1:=zo;exact g2
  exact a1
 split
 ·rename_i h1;simp only[IG]at h1;obtain⟨g1,g2⟩:=hc 1 (by simpa using h1.1.2);obtain⟨g3,g4⟩:=hc 2 (by simpa using h1.2)
  split
  ·rename_i h2;simp only[IG,decide_eq_true_eq]at h2;refine⟨_,_,rfl,zo,h2.2,zd,zo,fun i k1 k2=>?_⟩
   by_cases e:i=a0
   ·rw[e];exact hb
   by_cases e1:i=a0+1
   ·rw[e1];exact g2
   obtain rfl:i=a0+2:=zo;exact g4
  exact a1
 split
 ·rename_i h1;simp only[IG]at h1;obtain⟨g1,g2⟩:=hc 1 (by simpa using h1.1.1.2);obtain⟨g3,g4⟩:=hc 2 (by simpa using h1.1.2);obtain⟨g5,g6⟩:=hc 3 (by simpa using h1.2)
  split
  ·rename_i h2;simp only[IG,decide_eq_true_eq]at h2;refine⟨_,_,rfl,zo,h2.2,zd,zo,fun i k1 k2=>?_⟩
   by_cases e:i=a0
   ·rw[e];exact hb
   by_cases e1:i=a0+1
   ·rw[e1];exact g2
   by_cases e2:i=a0+2
   ·rw[e2];exact g4
   obtain rfl:i=a0+3:=zo;exact g6
  exact a1
 exact a1
theorem AO{c:Nat}(hc:128<=c)(hv:Jc (c:Int)=true):∃L:List UInt8,Ko (c:Int)=bs L/\2<=L.length/\L.length<=4/\128<=(nth L 1).toNat:=by
 unfold Ko;simp only[hv,if_true,Int.toNat_natCast];rw[if_neg zo];have hm:c % 64<64:=KL _ zd
 split
 ·refine⟨[IK (0xC0+c / 64),IK (0x80+c % 64)],rfl,by simp,by simp,?_⟩;rw[bA,ax];simp;omega
 split
 ·refine⟨[IK (0xE0+c / 4096),IK (0x80+c / 64 % 64),IK (0x80+c % 64)],rfl,by simp,by simp,?_⟩;rw[bA,ax];have:c / 64 % 64<64:=KL _ zd;simp;omega
 refine⟨[IK (0xF0+c / 262144),IK (0x80+c / 4096 % 64),IK (0x80+c / 64 % 64),IK (0x80+c % 64)],rfl,by simp,by simp,?_⟩;rw[bA,ax];have:c / 4096 % 64<64:=KL _ zd;simp;omega
end Go.VL
namespace Go.Proofs.YtpfpmhhigheccaaGreatDoor
open Go.VL Go.Proofs
set_option maxRecDepth 10000
theorem pR(c:Int)(w:ka)(hv:Jc c=true):JE IQ 180 [.int .i32 c] w fun v w'=>v=.bool true/\w'=w:=by
 unfold Jc at hv;simp only[JW,IG,decide_eq_true_eq]at hv;refine I4 func180 ntmps180 rfl rfl ?_;refine zh ?_;refine au (d:=6) rfl (b':=true) ((decide_eq_true zo)) ?_;refine zh ?_
 by_cases h:c<55296
 ·refine zTH rfl ((decide_eq_true zo)) ?_;refine af rfl rfl (⟨rfl,rfl⟩)
 refine zFH rfl ((decide_eq_false zo)) ?_;refine au (d:=13) rfl (b':=true) ((decide_eq_true zo)) ?_
 refine zh ?_;refine zTH rfl ((decide_eq_true zo)) ?_
 refine af rfl rfl (⟨rfl,rfl⟩)
theorem nj(c:Nat)(w:ka)(hc:128<=c)(hv:Jc (c:Int)=true):JE IQ 161 [.string (bs [33,47]),.int .i32 (c:Int)] w fun v w'=>v=nI (-1)/\Jq w w':=by
 refine I4 func161 ntmps161 rfl rfl ?_;refine zh ?_
 refine au (d:=163) rfl (b':=true) ((decide_eq_true zo)) ?_;refine zh ?_
 refine zFH rfl ((decide_eq_false zo)) ?_
 by_cases h3:(c:Int)=65533
 ·refine zTH rfl ((by simpa using h3)) ?_;refine tj I1 rfl rfl ?_
  refine zh ?_;refine zlp (fun x:Nat=>[(175,.pointer (some ⟨w.heap.size,0,none⟩))]) (fun x=>w.iter (bs [33,47]) x) (fun x=>x<=2) (fun x=>2-x) 0 (IU _) ?_
  rintro k hk;refine zh ?_
  by_cases a2:k<2
  ·have a3:([33,47]:List UInt8)[k]? = some (nth [33,47] k):=by rw[aB (by simpa using a2)];exact IH (by simpa using a2)
   have a4:(nth ([33,47]:List UInt8) k).toNat<128:=by
    have:k=0\/k=1:=zo
    rcases this with rfl|rfl
    ·rw[ax];decide
    rw[bA,ax];decide
   refine CE rfl a3 a4 rfl ?_;refine zh ?_
   refine zTH rfl rfl ?_;refine zFH rfl ((beq_eq_false_iff_ne.2 zo)) ?_
   refine zxd (k+1) (a2)
  refine CD rfl (by simp;omega) rfl ?_;refine zh ?_
  refine zFH rfl rfl ?_;refine af rfl rfl (⟨rfl,Ext.iter _ _ _⟩)
 refine zFH rfl ((by simpa using h3)) ?_;refine zc call180 (pR c w hv) ?_
 rintro v w9 ⟨rfl,a1⟩;rw[a1];clear a1 w9;obtain⟨L,hL,a6,a5,a7⟩:=AO hc hv;refine zh ?_;refine aR rfl rfl ?_;refine WC.scope ?_;refine zh ?_;refine zv (vd Lu I1 rfl) ?_;rw[hL];refine zh ?_;refine zvH (bZ I1 rfl) ?_;refine zlp (fun x:Unit=>[(0,.string (bs [33,47])),(7,.string (bs L)),(8,nI ((L.length:Int)-1)),(9,nI ((L.length:Int)-1)),(10,nI 0)]) (fun x=>w) (fun x=>True) (fun x=>0) () (trivial) ?_;rintro _ _;refine zh ?_;refine zvH (bZ I1 rfl) ?_
 by_cases h2:L.length=2
 ·refine aO rfl ((decide_eq_true (by simp;omega))) ?_;have a0:L[1]? = some (nth L 1):=by rw[aB zo];exact IH zo
  refine zh ?_;refine WC.scope ?_
  refine zh ?_;refine Jh zk zk ?_
  refine zh ?_;refine zwH (bh (c:=47) I1 rfl rfl 1 zo rfl) ?_
  refine zwH (bh (c:=nth L 1) I1 rfl rfl 1 zo a0) ?_;refine Ja ?_
  refine zh ?_;refine zTH rfl ((by rw[bne_iff_ne];show(47:Int)≠_;omega)) ?_
  refine KT 7 rfl rfl zk zk ?_;refine zh ?_
  refine zwH (jE I1 rfl rfl 2 zo (by simp)) ?_;refine zw (bh (c:=nth L 1) I1 rfl rfl 1 zo a0) ?_
  refine Lm ?_;refine zc LF (dp [] (nth L 1) w.drew.drew) ?_
  rintro v w9 ⟨rfl,a1⟩;rw[a1];clear a1 w9;refine zh ?_;refine zTH rfl rfl ?_;refine jH ?_;refine zh ?_;refine jH ?_;refine zh ?_;refine af rfl rfl (⟨rfl,(IV w).drew.drew⟩)
 refine zFH rfl ((decide_eq_false (by simp;omega))) ?_;refine jH ?_
 refine zh ?_;refine af rfl rfl (⟨rfl,IV _⟩)
theorem kE(c:Nat)(w:ka)(hc:128<=c)(hv:Jc (c:Int)=true):JE IQ 138 [.string (bs [33,47]),.int .i32 (c:Int)] w fun v w'=>v=.bool false/\Jq w w':=by
 refine I4 func138 ntmps138 rfl rfl ?_;refine zh ?_
 refine zc call161 (nj c w hc hv) ?_;rintro v w9 ⟨rfl,hE⟩;refine zh ?_
 refine af rfl rfl (⟨rfl,hE⟩)
theorem tR(c:Nat)(w:ka)(hc:128<=c)(hv:Jc (c:Int)=true):JE IQ 137 [.int .i32 (c:Int)] w fun v w'=>v=.bool false/\Jq w w':=by
 refine I4 func137 ntmps137 rfl rfl ?_;refine zh ?_
 refine zc call138 (kE c w hc hv) ?_;rintro v w9 ⟨rfl,hE⟩;refine zh ?_
 refine af rfl rfl (⟨rfl,hE⟩)
end Go.Proofs.YtpfpmhhigheccaaGreatDoor
end
section
namespace Go.VL
def forget(i:Nat)(O:Nat->Nat)(b:Nat):Nat:=if O b=i then 0 else O b
theorem Rng.forget{B i:Nat}{O:Nat->Nat}{w:ka}(h:K9 B O w):K9 B (forget i O) w:=⟨h.le,fun b hb=>by
 unfold VL.forget at hb
 split at hb
 ·exact absurd rfl hb
 exact h.rng b hb⟩
end Go.VL
namespace Go.Proofs.YtpfpmhhigheccaaGreatDoor
open Go.VL Go.Proofs
set_option maxRecDepth 10000
def gm(l:List UInt8):List UInt8:=(l.reverse.dropWhile (· == 32)).reverse
def Bz(l:List UInt8):List UInt8:=aq (gm l)
theorem tE(l:List UInt8):gm (l++[32])=gm l:=by simp[gm]
theorem tF(l:List UInt8){c:UInt8}(h:c≠32):gm (l++[c])=l++[c]:=by simp[gm,h]
theorem ml(l:List UInt8)(w:ka)(hl:l.length<=1000000):JE IQ 183 [.string (bs l),.int .u8 32] w fun v w'=>v=.string (bs (aq l))/\w'=w:=by
 refine I4 func183 ntmps183 rfl rfl ?_;refine zh ?_
 refine zlp (fun x:List UInt8=>[(0,.string (bs x)),(1,.int .u8 32)]) (fun x=>w) (fun x=>aq x=aq l/\x.length<=1000000) (fun x=>x.length) l (⟨rfl,hl⟩) ?_;rintro r ⟨hr,a0⟩;refine zh ?_
 refine zvH (bZ I1 rfl) ?_
 cases r with
 |nil=>
  refine au (d:=8) rfl (b':=false) (rfl) ?_;refine zh ?_
  refine zFH rfl rfl ?_;refine af rfl rfl (⟨by rw[<-hr];rfl,rfl⟩)
 |cons b r2=>
  simp only[IF]at a0;refine au (d:=8) rfl (b':=true) ((decide_eq_true (by simp only[IF];omega))) ?_;refine zh ?_;refine zvH (bh (c:=b) I1 rfl rfl 0 rfl rfl) ?_;refine zC ?_ ?_
  ·intro hb;replace hb:b=32:=by
    by_cases e:b=32
    ·exact e
    have:=ia b 32 zd e;exact absurd (this.symm.trans hb) zd
   subst hb;refine zh ?_;refine zvH (jE I1 rfl rfl 1 rfl (by simp)) ?_;refine zx (r2) (⟨by rw[<-hr];simp[aq],zo⟩) (by simp)
  intro hb;replace hb:b≠32:=fun e=>by subst e;cases hb
  refine zh ?_;refine af rfl rfl (⟨by rw[<-hr];simp[aq,hb],rfl⟩)
theorem kT(l:List UInt8)(w:ka)(hl:l.length<=1000000):JE IQ 184 [.string (bs l),.int .u8 32] w fun v w'=>v=.string (bs (gm l))/\w'=w:=by
 refine I4 func184 ntmps184 rfl rfl ?_;refine zh ?_
 refine zlp (fun x:List UInt8=>[(0,.string (bs x)),(1,.int .u8 32)]) (fun x=>w) (fun x=>gm x=gm l/\x.length<=1000000) (fun x=>x.length) l (⟨rfl,hl⟩) ?_;rintro r ⟨hr,a1⟩;refine zh ?_
 refine zvH (bZ I1 rfl) ?_
 rcases List.eq_nil_or_concat r with rfl|⟨r2,b,rfl⟩
 ·refine au (d:=8) rfl (b':=false) (rfl) ?_;refine zh ?_
  refine zFH rfl rfl ?_;refine af rfl rfl (⟨by rw[<-hr];rfl,rfl⟩)
 rw[List.concat_eq_append]at *;have a0:(r2++[b]).length=r2.length+1:=by simp
 rw[a0]at a1;refine au (d:=8) rfl (b':=true) ((decide_eq_true (by rw[a0];omega))) ?_;refine zh ?_;refine zvH (bZ I1 rfl) ?_;refine zvH (bh (c:=b) I1 rfl rfl r2.length (by rw[a0];omega) (by simp)) ?_;refine zC ?_ ?_
 ·intro hb;replace hb:b=32:=by
   by_cases e:b=32
   ·exact e
   have:=ia b 32 zd e;exact absurd (this.symm.trans hb) zd
  subst hb;refine zh ?_;refine zv (bZ I1 rfl) ?_;refine zv (RV.sub rfl rfl (Jv (by rw[a0];omega))) ?_;refine zvH (uW I1 rfl rfl r2.length (by rw[a0];omega) (by simp)) ?_;rw[List.take_left];refine zx (r2) (⟨by rw[<-hr,tE],zo⟩) (by simp)
 intro hb;replace hb:b≠32:=fun e=>by subst e;cases hb
 refine zh ?_;refine af rfl rfl (⟨by rw[<-hr,tF _ hb],rfl⟩)
theorem yG(l:List UInt8):(gm l).length<=l.length:=by
 have:=(Kk (l:=l.reverse) (· == (32:UInt8))).length_le;simpa[gm]using this
theorem By(l:List UInt8)(w:ka)(hl:l.length<=1000000):JE IQ 162 [.string (bs l),.string (bs [32])] w fun v w'=>v=.string (bs (Bz l))/\Jq w w':=by
 have a0:=yG l;refine I4 func162 ntmps162 rfl rfl ?_;refine zh ?_;refine zvH (cH rfl rfl) ?_
 by_cases h0:l=[]
 ·subst h0;refine au (d:=9) rfl (b':=true) (rfl) ?_;refine zh ?_;refine zTH rfl rfl ?_;refine af rfl rfl (⟨rfl,IV _⟩)
 refine au (d:=9) rfl (b':=false) ((by simpa using h0)) ?_;refine zh ?_
 refine zvH (cH rfl rfl) ?_;refine zFH rfl rfl ?_
 refine zvH (bZ I1 rfl) ?_;refine au (d:=17) rfl (b':=true) (rfl) ?_
 refine zh ?_;refine zvH (bh (c:=32) I1 rfl rfl 0 rfl rfl) ?_
 refine zTH rfl rfl ?_;refine Jh zk zk ?_
 refine zh ?_;refine zw (bh (c:=32) I1 rfl rfl 0 rfl rfl) ?_
 refine LH call184 rfl (kT l w.drew hl) rfl ?_;refine zh ?_
 refine zw (bh (c:=32) I1 rfl rfl 0 rfl rfl) ?_;refine LH call183 rfl (ml (gm l) w.drew zo) rfl ?_
 refine zh ?_;refine Ja ?_
 refine zh ?_;refine af rfl rfl (⟨rfl,(IV w).drew⟩)
def xp(c:UInt8):Bool:=decide (c=33)||decide (c=47)
theorem DV(c:UInt8):decide (0<=rf [33,47] c)=xp c:=by
 unfold rf xp
 by_cases h1:c=33
 ·subst h1;rfl
 by_cases h2:c=47
 ·subst h2;rfl
 have:[(33:UInt8),47].findIdx? (· == c)=none:=by
  rw[IZ];intro x hx;simp at hx
  rcases hx with rfl|rfl<;>simp<;>intro e<;>first|exact h1 e.symm|exact h2 e.symm
 rw[this];simp[h1,h2]
theorem qz(c:UInt8)(w:ka)(hc:c.toNat<128):JE IQ 161 [.string (bs [33,47]),.int .i32 (c.toNat:Int)] w fun v w'=>v=nI (rf [33,47] c)/\w'=w:=by
 refine I4 func161 ntmps161 rfl rfl ?_;refine zh ?_
 refine au (d:=163) rfl (b':=true) ((decide_eq_true zo)) ?_;refine zh ?_
 refine zTH rfl ((decide_eq_true zo)) ?_;refine zv (dU Lu underlying5 rfl (Fit.u8 zo)) ?_
 refine zc LF (dp [33,47] c w) ?_;rintro v w9 ⟨rfl,a0⟩;rw[a0];clear a0 w9;refine zh ?_
 refine af rfl rfl (⟨rfl,rfl⟩)
theorem mq(c:UInt8)(w:ka)(hc:c.toNat<128):JE IQ 138 [.string (bs [33,47]),.int .i32 (c.toNat:Int)] w fun v w'=>v=.bool (xp c)/\w'=w:=by
 refine I4 func138 ntmps138 rfl rfl ?_;refine zh ?_
 refine zc call161 (qz c w hc) ?_;rintro v w9 ⟨rfl,a0⟩;rw[a0];clear a0 w9;refine zh ?_
 refine af rfl rfl (⟨congrArg Kx (DV c),rfl⟩)
theorem zq(c:UInt8)(w:ka)(hc:c.toNat<128):JE IQ 137 [.int .i32 (c.toNat:Int)] w fun v w'=>v=.bool (xp c)/\w'=w:=by
 refine I4 func137 ntmps137 rfl rfl ?_;refine zh ?_
 refine zc call138 (mq c w hc) ?_;rintro v w9 ⟨rfl,a0⟩;rw[a0];clear a0 w9;refine zh ?_
 refine af rfl rfl (⟨rfl,rfl⟩)
def lM(l:List UInt8):Int:=match l.findIdx? xp with|some i=>(i:Nat)|none=>-1
theorem qA(l:List UInt8)(w:ka):JE IQ 160 [.string (bs l),.func (.func 137) #[] #[],.bool true] w fun v w'=>v=nI (lM l)/\Jq w w':=by
 have b2:IJ (fun k=>k=1) (fun _=>0) w (jI (fun _=>0) w.heap.size 1) (w.iter (bs l) 0):=Kc zd (aw w) _ 1;have hO:jI (fun _=>0) w.heap.size 1 w.heap.size=1:=cT _ _ _;refine I4 func160 ntmps160 rfl rfl ?_;refine zh ?_;refine tj I1 rfl rfl ?_;refine zh ?_;refine zlp (fun x:Nat×ka=>[(1,.func (.func 137) #[] #[]),(2,.bool true),(10,.pointer (some ⟨w.heap.size,0,none⟩))]) (fun x=>x.2) (fun x=>(∀i,i<x.1->i<l.length->xp (nth l i)=false)/\x.2.heap[w.heap.size]? = some (.stringIter (bs l) x.1)/\IJ (fun k=>k=1) (fun _=>0) w (jI (fun _=>0) w.heap.size 1) x.2) (fun x=>l.length-x.1) (0,w.iter (bs l) 0) (⟨fun i hi=>absurd hi (Jn i),World.iter_heap w (bs l) 0,b2⟩) ?_;rintro⟨k,w1⟩ ⟨a3,a2,a5⟩;dsimp only at a3 a2 a5 ⊢;refine zh ?_
 by_cases a1:k<l.length
 ·by_cases a7:(nth l k).toNat<128
  ·refine tk rfl a2 a1 (AW a1 a7) rfl ?_;have a4:=a5.trans (Jl zd hO (w:=w1) (.stringIter (bs l) (k+1)));have a0:(w1.putObj w.heap.size (.stringIter (bs l) (k+1))).heap[w.heap.size]? = some (.stringIter (bs l) (k+1)):=Jf (bt a2);generalize w1.putObj w.heap.size (.stringIter (bs l) (k+1))=w2 at *;refine zh ?_
   refine zTH rfl rfl ?_;refine dq rfl call137 rfl (zq (nth l k) w2 a7) rfl ?_
   rintro v w9 ⟨rfl,a6⟩;rw[a6];clear a6 w9;refine zh ?_;refine zvH (Bo KS rfl rfl) ?_
   cases hs:xp (nth l k)with
   |true=>
    refine zTH rfl rfl ?_;have hf:l.findIdx? xp=some k:=IY.2 ⟨a1,by rw[<-aB a1,hs],fun j hj=>by rw[<-aB zo,a3 j hj zo];decide⟩
    refine af rfl rfl (⟨by unfold lM;rw[hf];rfl,a4.ext⟩)
   |false=>
    refine zFH rfl rfl ?_;refine zxd (k+1,w2) (⟨fun i hi hl=>(J3.1 hi).elim (fun h=>a3 i h hl) (fun e=>by rw[e];exact hs),a0,a4⟩)
  obtain⟨c,n,a',b1,b0,b4,b3,a9⟩:=AX a1 zo;refine tk rfl a2 a1 a' rfl ?_;have a4:=a5.trans (Jl zd hO (w:=w1) (.stringIter (bs l) (k+n)));have a0:(w1.putObj w.heap.size (.stringIter (bs l) (k+n))).heap[w.heap.size]? = some (.stringIter (bs l) (k+n)):=Jf (bt a2);generalize w1.putObj w.heap.size (.stringIter (bs l) (k+n))=w2 at *;refine zh ?_;refine zTH rfl rfl ?_;refine dq rfl call137 rfl (tR c w2 b1 b0) rfl ?_;rintro v w3 ⟨rfl,a8⟩;refine zh ?_;refine zvH (Bo KS rfl rfl) ?_;refine zFH rfl rfl ?_;refine zxd (k+n,w3) (⟨fun i hi hl=>?_,(a8.block _ (bt a0)).trans a0,a4.trans (aa zd _ a8)⟩)
  by_cases e:i<k
  ·exact a3 i e hl
  have:=a9 i zo hi;unfold xp;rw[decide_eq_false (fun e=>by rw[e]at this;exact absurd this zd),decide_eq_false (fun e=>by rw[e]at this;exact absurd this zd)];rfl
 refine uQ rfl a2 zo rfl ?_;refine zh ?_
 refine zFH rfl rfl ?_;have hf:l.findIdx? xp=none:=IZ.2 fun x hx=>by
  obtain⟨j,hj,rfl⟩:=IC hx;exact a3 j zo hj
 refine af rfl rfl (⟨by unfold lM;rw[hf],a5.ext⟩)
theorem mo(l:List UInt8)(w:ka):JE IQ 136 [.string (bs l),.func (.func 137) #[] #[]] w fun v w'=>v=nI (lM l)/\Jq w w':=by
 refine I4 func136 ntmps136 rfl rfl ?_;refine zh ?_
 refine zc call160 (qA l w) ?_;rintro v w1 ⟨rfl,hE⟩;refine zh ?_
 refine af rfl rfl (⟨rfl,hE⟩)
def FN(a0:List UInt8):XR:=if Bz a0=[]then .ok (.mk 9 0 [])else GS a0
def nW(kn:Kn)(a0:List UInt8):XR:=if Bz a0=[]then .ok (.mk 9 0 [])else eK kn a0
variable{kn:Kn}
def PostS(O:Nat->Nat)(w:ka)(j rb:Nat)(s:LS)(fr:Nat)(x:N3):XR->Prop
 |.ok t=>Nt O w t x/\Rd6 O w j rb s
 |.bad p e=>x=(0,0,nS)/\e≠0/\Rd6 O w j rb {s with bad:=(fr:Int)+(p:Int),e:=e}
theorem vQ(l:List UInt8)(p:Nat)(e:Int)(h:eK kn l=.bad p e):e≠0/\p<=l.length:=by
 have hg:=iM (kn:=kn) 20 l;unfold eK at h
 split at h
 ·cases h;exact⟨zd,IU _⟩
 cases hf:uO kn 20 l with
 |bad q f=>
  rw[hf]at h hg
  cases h
  exact⟨hg.2,zo⟩
 |ok t r=>
  rw[hf]at h;dsimp only at h
  split at h
  ·cases h;exact⟨zd,zo⟩
  split at h
  ·cases h;exact⟨zd,IU _⟩
  cases h
theorem uV{α:Type}{enc:α->List I3}{E:IE}{sz:Nat}{B:Nat}{O:Nat->Nat}{w:ka}{i:Nat}{v:I3}{l:List α}(h:Kz enc E sz O w i v l)(hi:i≠0)(r:K9 B O w):Free (forget i O) w v:=fun a n c e _=>by
 have h1:=h.1.tag a.block (by subst e;rfl);have h2:=r.rng a.block (by rw[h1];exact hi);exact⟨by unfold forget;rw[if_pos h1],h2.2⟩
def Mac(O:Nat->Nat)(w:ka)(i:Nat)(v:I3)(kn:Kn):Prop:=
 ∃ms:List M3,Kz kS 218 4 O w i v ms/\kn.length=ms.length/\∀q,q<ms.length->(nth kn q).1=(nth ms q).1/\Nt O w (nth kn q).2 (nth ms q).2
theorem Mac.upd{S:Nat->Prop}{O O':Nat->Nat}{w w':ka}{i:Nat}{v:I3}(h:Mac O w i v kn)(u:IJ S O w O' w')(hi:i≠0)(hS:¬S i):Mac O' w' i v kn:=by
 obtain⟨ms,h1,h2,h3⟩:=h;exact⟨ms,h1.upd u hi hS,h2,fun q hq=>⟨(h3 q hq).1,(h3 q hq).2.upd u⟩⟩
theorem Mac.known{B:Nat}{O:Nat->Nat}{w:ka}{i:Nat}{v:I3}(h:Mac O w i v kn)(hi:i≠0)(r:K9 B O w):LA (forget i O) w v kn:=by
 obtain⟨ms,h1,h2,h3⟩:=h;exact⟨ms,h1.sl,uV h1 hi r,h2,fun q hq=>⟨(h3 q hq).1,(h3 q hq).2.weak fun b hb=>by unfold forget;rw[hb];split<;>rfl⟩⟩
theorem Mac.nil(O:Nat->Nat)(w:ka)(i:Nat):Mac O w i (nS) []:=⟨[],RowT.nil _ _ _ _ _ _,rfl,fun q hq=>absurd hq (by simp)⟩
theorem pY(B:Nat)(O:Nat->Nat)(w:ka)(j rb:Nat)(s:LS)(fr to:Nat)(hR:K9 B O w)(hj:j≠0)(he:s.e=0){jm:Nat}(d6:jm≠0)(e7:j≠jm)(e5:Mac O w jm s.mc kn)(e8:fr<=to)(e3:to<=s.l.length)(hl:s.l.length<=100000)(h:Rd6 O w j rb s):
  JE IQ 139 [nP rb,nI fr,nI to] w fun v w'=>∃x,v=nv x/\IJ (fun k=>k=j) O w O w'/\PostS O w' j rb s fr x (nW kn ((s.l.take to).drop fr)):=by
 obtain⟨T0,d2,b1⟩:=hR.bound;obtain⟨T,a2,e6,hT⟩:∃T,0<T/\jm<T/\∀b,O b<T:=⟨T0+jm+1,zo,zo,fun b=>by have:=b1 b;omega⟩
 clear d2 b1 T0;have f7:j<T:=by rw[<-h.tag];exact hT rb
 have f5:((s.l.take to).drop fr).length=to-fr:=by simp;omega
 refine I4 func139 ntmps139 rfl rfl ?_;refine zh ?_
 refine ar hR T zo (I5 _) rfl ?_;intro xb w1 O1 e2 d9 f3 f8;have d8:=h.upd d9 hj zo;have c9:=d9.pT hj a2 (ln _);refine zh ?_
 refine zvH (RV.ld d8.q0 rfl) ?_;refine zvH (cQ I1 rfl rfl rfl fr to rfl rfl e8 e3) ?_
 refine zc call162 (By ((s.l.take to).drop fr) w1 zo) ?_;rintro v w2 ⟨rfl,e1⟩;have c7:IJ (fun _=>False) O1 w1 O1 w2:=aa (fun h=>h) O1 e1;have b2:=e2.upd c7 zo (fun h=>h);have c5:=d8.upd c7 hj (fun h=>h);have b4:=f3.upd c7;have a5:=c9.trans (jh O1 e1 hj a2);refine zvH (cH rfl rfl) ?_
 by_cases b3:Bz ((s.l.take to).drop fr)=[]
 ·have hM:nW kn ((s.l.take to).drop fr)=.ok (.mk 9 0 []):=by unfold nW;rw[if_pos b3]
  rw[hM];refine aO rfl ((by rw[b3];rfl)) ?_;have a6:((9,0,nS):N3).2.2.oneCell'=true:=rfl;refine zh ?_;refine zv (aE vq (I5 _) rfl (by first|rfl|(simp only[II,J5];rfl)) rfl rfl) ?_;refine zsb (us:=#[nI ((9,0,nS):N3).1,nI ((9,0,nS):N3).2.1,((9,0,nS):N3).2.2]) b2 (ix _) (bW a6) ?_;have a8:=I8 (us:=#[nI ((9,0,nS):N3).1,nI ((9,0,nS):N3).2.1,((9,0,nS):N3).2.2]) b2;have a1:IJ (fun k=>k=T) O1 w2 O1 (I6 w2 xb #[nI ((9,0,nS):N3).1,nI ((9,0,nS):N3).2.1,((9,0,nS):N3).2.2]):=I0 zo (ID b2) rfl;have a':=c5.upd a1 hj zo;have a7:=a5.trans (a1.pT hj a2 (ln _));refine zh ?_;refine aJ rfl rfl (a8.cellsAdd) (I2 _) (ix _) (⟨(9,0,nS),rfl,a7.priv hT hj,Kq _ _ _ _,a'.fgt h.tag⟩)
 have hM:nW kn ((s.l.take to).drop fr)=eK kn ((s.l.take to).drop fr):=by unfold nW;rw[if_neg b3]
 rw[hM];refine zFH rfl ((by simpa using b3)) ?_;refine zv (RV.ld c5.q9 rfl) ?_;have b9:=e5.upd a5 d6 zo;refine zc call132 (kY s.mc ((s.l.take to).drop fr) B O1 (forget jm O1) w2 b4 b4.forget (b9.known d6 b4)) ?_;rintro v w3 ⟨e0,b5⟩;have c6:IJ (fun _=>False) O1 w2 O1 w3:=aa (fun h=>h) O1 e0;have d3:=b2.upd c6 zo (fun h=>h);have d7:=c5.upd c6 hj (fun h=>h);have d':=b4.upd c6;have b0:=a5.trans (jh O1 e0 hj a2)
 cases hf:eK kn ((s.l.take to).drop fr)with
 |ok t=>
  rw[hf]at b5;obtain⟨x,rfl,d4⟩:=b5;have a6:=d4.one;refine zh ?_;refine ar d' (T+1) zo (I5 _) rfl ?_;intro nb w4 O4 a3 d1 e' f4;refine zsb (us:=#[nI x.1,nI x.2.1,x.2.2]) a3 (ix _) (bW a6) ?_;have b8:=a3.setRow (us:=#[nI x.1,nI x.2.1,x.2.2]);have d0:IJ (fun k=>k=T+1) O4 w4 O4 (w4.setRow nb #[nI x.1,nI x.2.1,x.2.2]):=I0 zo a3.tag rfl;have a0:=d1.trans d0;have a9:=d3.upd a0 zo zo;have b':=d7.upd a0 hj zo;have a4:=b0.trans (a0.pT hj a2 (J2 _));have b7:=d4.upd a0;generalize w4.setRow nb #[nI x.1,nI x.2.1,x.2.2]=w5 at *;refine zh ?_;refine zFH rfl rfl ?_;refine zv (ah (us:=aW x) b8.cellsAdd (I2 _) (ix _) rfl) ?_;refine zsb (us:=#[nI x.1,nI x.2.1,x.2.2]) a9 (ix _) (bW a6) ?_;have a8:=I8 (us:=#[nI x.1,nI x.2.1,x.2.2]) a9;have a1:IJ (fun k=>k=T) O4 w5 O4 (I6 w5 xb #[nI x.1,nI x.2.1,x.2.2]):=I0 zo (ID a9) rfl;have a':=b'.upd a1 hj zo;have a7:=a4.trans (a1.pT hj a2 (ln _));refine zh ?_;refine aJ rfl rfl (a8.cellsAdd) (I2 _) (ix _) (⟨x,rfl,a7.priv hT hj,(b7.upd a1).low a7,a'.fgt h.tag⟩)
 |bad p e=>
  rw[hf]at b5;obtain⟨rfl,d5⟩:=b5;obtain⟨_,f6⟩:=vQ _ _ _ hf;refine zh ?_;refine ar d' (T+1) zo (I5 _) rfl ?_;intro nb w4 O4 a3 d1 e' f4;refine zsa (us:=#[nI 0,nI 0,nS]) a3 (ix _) ?_;have b8:=a3.setRow (us:=#[nI 0,nI 0,nS]);have d0:IJ (fun k=>k=T+1) O4 w4 O4 (w4.setRow nb #[nI 0,nI 0,nS]):=I0 zo a3.tag rfl;have a0:=d1.trans d0;have a9:=d3.upd a0 zo zo;have b':=d7.upd a0 hj zo;have a4:=b0.trans (a0.pT hj a2 (J2 _));generalize w4.setRow nb #[nI 0,nI 0,nS]=w5 at *;refine zh ?_;refine zTH rfl ((by simpa using d5)) ?_;refine zc L6 (bC O4 w5 j rb s ((fr:Int)+(p:Int)) e hj he b') ?_;rintro v w6 ⟨e9,c'⟩;have b6:=a9.upd c' zo zo;have e4:=b8.upd c' zo zo;have c8:=a4.trans (c'.pj a2);refine zh ?_;refine zv (ah (us:=aW ((0,0,nS):N3)) e4.cellsAdd (I2 _) (ix _) rfl) ?_;have a6:((0,0,nS):N3).2.2.oneCell'=true:=rfl;refine zsb (us:=#[nI ((0,0,nS):N3).1,nI ((0,0,nS):N3).2.1,((0,0,nS):N3).2.2]) b6 (ix _) (bW a6) ?_;have a8:=I8 (us:=#[nI ((0,0,nS):N3).1,nI ((0,0,nS):N3).2.1,((0,0,nS):N3).2.2]) b6;have a1:IJ (fun k=>k=T) O4 w6 O4 (I6 w6 xb #[nI ((0,0,nS):N3).1,nI ((0,0,nS):N3).2.1,((0,0,nS):N3).2.2]):=I0 zo (ID b6) rfl;have a':=e9.upd a1 hj zo;have a7:=c8.trans (a1.pT hj a2 (ln _));refine zh ?_;refine aJ rfl rfl (a8.cellsAdd) (I2 _) (ix _) (⟨(0,0,nS),rfl,a7.priv hT hj,rfl,d5,a'.fgt h.tag⟩)
end Go.Proofs.YtpfpmhhigheccaaGreatDoor
end
namespace Go.Proofs.YtpfpmhhigheccaaGreatDoor
section
def fc(t:Nd):Int:=if(bM t&&Cl 3 t)=true then 4 else if(!(Ac t)||decide (4<xE t))=true then 8 else 0
theorem kf(t:Nd)(x:N3)(w:ka)(h:Nt (fun _=>0) w t x):JE IQ 80 [nv x] w fun v w'=>v=nI (fc t)/\Jq w w':=by
 refine I4 func80 ntmps80 rfl rfl ?_;refine zh ?_
 refine aF (aw w) 1 zo rfl rfl ?_;intro xb w1 O1 a5 a7 a8 a3;have a4:∀W,Jq w1 W->∀(j:Nat) (u:I3),(aW x)[j]? = some u->W.cell? (nA xb j)=some u:=fun W hE j u hu=>hE.cell (a5.cellsAdd j u hu)
 refine zh ?_;refine zv (ah (us:=aW x) (a4 w1 (IV _)) (I2 _) (ix _) rfl) ?_
 refine zc call110 (oh t x w1 (h.ext a3)) ?_;rintro v w2 ⟨rfl,a2⟩;refine zh ?_
 refine zv (ah (us:=aW x) (a4 w2 a2) (I2 _) (ix _) rfl) ?_;refine zc call111 (xL t 3 x w2 (h.ext (a3.trans a2))) ?_
 rintro v w3 ⟨rfl,a6⟩;have a0:=(a3.trans a2).trans a6;refine zh ?_
 cases h1:(bM t&&Cl 3 t)with
 |true=>
  refine zTH rfl rfl ?_;refine af rfl rfl (⟨by unfold fc;rw[if_pos h1],a0⟩)
 |false=>
  refine zFH rfl rfl ?_;refine bK (fun w1=>_=w1) (decide (4<xE t)) 2 (rfl) rfl rfl rfl rfl rfl ?_ ?_
  ·intro a1;refine zh ?_;refine nE 16 3 (rfl) a1
  rintro _ rfl;refine zh ?_
  cases h2:(!(Ac t)||decide (4<xE t))with
  |true=>
   refine zTH rfl rfl ?_;refine af rfl rfl (⟨by unfold fc;rw[if_neg (by rw[h1];decide),if_pos h2],a0⟩)
  |false=>
   refine zFH rfl rfl ?_;refine af rfl rfl (⟨by unfold fc;rw[if_neg (by rw[h1];decide),if_neg (by rw[h2];decide)],a0⟩)
abbrev R3:=Nd×Nd×Bool
abbrev X3:=N3×N3×Bool
def cd(x:X3):List I3:=[nI x.1.1,nI x.1.2.1,x.1.2.2,nI x.2.1.1,nI x.2.1.2.1,x.2.1.2.2,.bool x.2.2]
def Rt(O:Nat->Nat)(w:ka)(t:R3)(x:X3):Prop:=Nt O w t.1 x.1/\Nt O w t.2.1 x.2.1/\x.2.2=t.2.2
theorem Rt.upd{S:Nat->Prop}{O O':Nat->Nat}{w w':ka}{t:R3}{x:X3}(h:Rt O w t x)(u:IJ S O w O' w'):Rt O' w' t x:=⟨h.1.upd u,h.2.1.upd u,h.2.2⟩
theorem Rt.weak{O O':Nat->Nat}{w:ka}{t:R3}{x:X3}(h:Rt O' w t x)(k:∀b,O' b=0->O b=0):Rt O w t x:=⟨h.1.weak k,h.2.1.weak k,h.2.2⟩
theorem elR:Elem IQ 47 88 7 88:=⟨Lr,by kernel_rfl,zd⟩
theorem FR:cB IQ 88 #[(0,3),(3,3),(6,1)]:=⟨_,underlying88,fun w=>by kernel_rfl⟩
inductive LR where
 |ok (x:R3)
 |bad (p:Nat) (e:Int)
def It(r:List UInt8):LR:=
 match r.findIdx? xp with
 |none=>.bad r.length 4
 |some k=>
  match FN (r.take k)with
  |.bad p e=>.bad p e
  |.ok a=>
   match FN (r.drop (k+1))with
   |.bad p e=>.bad (k+1+p) e
   |.ok b=>if fc b≠0 then .bad (k+1) (fc b)else .ok (a,b,(((nth r k).toNat:Int)==47))
def iU(kn:Kn)(r:List UInt8):LR:=
 match r.findIdx? xp with
 |none=>.bad r.length 4
 |some k=>
  match nW kn (r.take k)with
  |.bad p e=>.bad p e
  |.ok a=>
   match nW kn (r.drop (k+1))with
   |.bad p e=>.bad (k+1+p) e
   |.ok b=>if fc b≠0 then .bad (k+1) (fc b)else .ok (a,b,(((nth r k).toNat:Int)==47))
variable{kn:Kn}
def zn(s:LS)(fr:Nat):XR->LS
 |.ok _=>s
 |.bad p e=>{s with bad:=(fr:Int)+(p:Int),e:=e}
theorem PostS.rd{O:Nat->Nat}{w:ka}{j rb:Nat}{s:LS}{fr:Nat}{x:N3}{M:XR}(h:PostS O w j rb s fr x M):Rd6 O w j rb (zn s fr M):=by
 cases M with
 |ok t=>exact h.2
 |bad p e=>exact h.2.2
theorem PostS.one{O:Nat->Nat}{w:ka}{j rb:Nat}{s:LS}{fr:Nat}{x:N3}{M:XR}(h:PostS O w j rb s fr x M):x.2.2.oneCell'=true:=by
 cases M with
 |ok t=>exact h.1.one
 |bad p e=>rw[h.1];rfl
theorem PostS.upd{S:Nat->Prop}{O O':Nat->Nat}{w w':ka}{j rb:Nat}{s:LS}{fr:Nat}{x:N3}{M:XR}(h:PostS O w j rb s fr x M)(u:IJ S O w O' w')(hj:j≠0)(hS:¬S j):PostS O' w' j rb s fr x M:=by
 cases M with
 |ok t=>exact⟨h.1.upd u,I7 h.2 u hj hS⟩
 |bad p e=>exact⟨h.1,h.2.1,I7 h.2.2 u hj hS⟩
theorem BM(s:LS)(fr:Nat)(M:XR):(zn s fr M).l=s.l:=by cases M<;>rfl
theorem zm(s:LS)(fr:Nat)(M:XR):(zn s fr M).bg=s.bg:=by cases M<;>rfl
def G4(B:Nat)(O:Nat->Nat)(w w':ka)(j jr rb:Nat)(s:LS)(xs:List X3)(M:LR):Prop:=
 ∃O' rv,IJ (fun k=>k=j\/k=jr) O w O' w'/\K9 B O' w'/\
  match M with
  |.ok t=>∃x,Kz cd 88 7 O' w' jr rv (xs++[x])/\Rt O' w' t x/\Rd6 O' w' j rb {s with ru:=rv}
  |.bad p e=>e≠0/\Rd6 O' w' j rb {s with ru:=rv,bad:=s.bg+(p:Int),e:=e}
theorem jS{x y:N3}{b:Bool}(h1:x.2.2.oneCell'=true)(h2:y.2.2.oneCell'=true):(cd (x,y,b)).toArray.toList.all JY=true:=by
 simp only[cd,II,h1,h2];rfl
theorem bN{x y:N3}{b:Bool}(h1:x.2.2.oneCell'=true)(h2:y.2.2.oneCell'=true):∀c∈cd (x,y,b),c.oneCell'=true:=by
 have:=jS (b:=b) h1 h2;exact KR.1 this
theorem CO{L r:List UInt8}(h:r <:+ L):L.drop (L.length-r.length)=r:=(List.suffix_iff_eq_drop.1 h).symm
theorem ju{O:Nat->Nat}{w:ka}{i b:Nat}{x1 x2:N3}{a0:Bool}{E:IE}(h:IX O w i b (cd (x1,x2,a0)).toArray E):∀(q:Nat) (u:I3),(aW x2)[q]? = some u->w.cell? ((nA b 3).add q)=some u:=fun q u hu=>by
 have e:((nA b 3).add q)=⟨b,3+q,none⟩:=by
  simp only[Jw];(repeat' split)<;>simp_all
 rw[e];refine h.cell (3+q) ?_;simp only[aW]at hu
 match q,hu with
 |0,hu=>exact hu
 |1,hu=>exact hu
 |2,hu=>exact hu
theorem tK{O:Nat->Nat}{w:ka}{j rb m n:Nat}{s:LS}{fr:Nat}{x:N3}{M:XR}{hbg:s.bg=((m-n:Nat):Int)}(h:PostS O w j rb s fr x M):w.cell? ⟨rb,0,none⟩=some (.string (bs s.l))/\w.cell? ⟨rb,3,none⟩=some (nI ((m-n:Nat):Int)):=by
 have h0:=h.rd.q0;have h3:=h.rd.q3;rw[BM]at h0;rw[zm,hbg]at h3;exact⟨h0,h3⟩
theorem rI(B:Nat)(O:Nat->Nat)(w:ka)(j jr rb:Nat)(s:LS)(m:Nat)(r:List UInt8)(xs:List X3)(hR:K9 B O w)(hj:j≠0)(b0:jr≠0)(e7:j≠jr)(hm:m<=s.l.length)(hl:s.l.length<=100000)(i7:s.to=(m:Int))(hbg:s.bg=((m-r.length:Nat):Int))(he:s.e=0){jm:Nat}(h2:jm≠0)(g0:j≠jm)(l':jr≠jm)(j3:Mac O w jm s.mc kn)
  (hr:r <:+ s.l.take m) (f':Kz cd 88 7 O w jr s.ru xs) (l9:xs.length<=40) (h:Rd6 O w j rb s) :
  JE IQ 107 [nP rb] w fun _ w'=>G4 B O w w' j jr rb s xs (if xs.length=40 then .bad 0 3 else iU kn r):=by
 obtain⟨T0,j6,i4⟩:=hR.bound;obtain⟨T,g7,h',l3,hT⟩:∃T,0<T/\jr<T/\jm<T/\∀b,O b<T:=⟨T0+jr+jm+1,by omega,by omega,by omega,fun b=>by have:=i4 b;omega⟩
 clear j6 i4 T0;have f7:j<T:=by rw[<-h.tag];exact hT rb
 have b2:¬(fun q:Nat=>q=j\/q=jr\/T<=q) 0:=fun e=>by rcases e with e|e|e;exact hj e.symm;exact b0 e.symm;omega
 have j1:¬(fun q:Nat=>q=j\/q=jr) 0:=fun e=>by rcases e with e|e;exact hj e.symm;exact b0 e.symm
 have k5:(s.l.take m).length=m:=by simp;omega
 have k':=hr.length_le;rw[k5]at k';have c8:=CO hr;rw[k5]at c8;have q0:=h.q0;have q2:=h.q2;rw[i7]at q2;have q3:=h.q3;rw[hbg]at q3;have q8:=h.q8;have k9:=f'.sl;refine I4 func107 ntmps107 rfl rfl ?_;refine zg ?_;refine zv (RV.ld q8 rfl) ?_;refine zvG (RV.len (by first|exact k9) Lr rfl) ?_
 by_cases j8:xs.length=40
 ·rw[if_pos j8];refine aO rfl ((by rw[j8];rfl)) ?_;have k7:w.drew.cell? ⟨rb,3,none⟩=some (nI ((m-r.length:Nat):Int)):=q3;refine zg ?_;refine KT 8 rfl rfl zk zk ?_;refine zg ?_;refine zw (RV.ld k7 rfl) ?_;refine Lm ?_;refine zc L6 (bC O w.drew j rb s ((m-r.length:Nat):Int) 3 hj he h.drew) ?_;rintro v w1 ⟨f8,k3⟩;refine zg ?_;refine cj rfl ⟨O,s.ru,(KJ k3).mono (fun _ h=>.inl h) j1,hR.drew.upd k3,by decide,?_⟩;rw[show s.bg+((0:Nat):Int)=((m-r.length:Nat):Int)from by rw[hbg];simp];exact f8
 rw[if_neg j8];refine aR rfl ((beq_eq_false_iff_ne.2 zo)) ?_;have hd:=h.drew;have d0:=hd.q0;have d2:=hd.q2;rw[i7]at d2;have d3:=hd.q3;rw[hbg]at d3;refine zg ?_;refine KT 16 rfl rfl zk zk ?_;refine zg ?_;refine zwG (RV.ld d0 rfl) ?_;refine zwG (RV.ld d3 rfl) ?_;refine zw (RV.ld d2 rfl) ?_;refine zw (cQ I1 rfl rfl rfl (m-r.length) m rfl rfl zo hm) ?_;refine Lm ?_;rw[c8];refine zc call136 (mo r w.drew) ?_;rintro v w1 ⟨rfl,l7⟩;have i8:IJ (fun _=>False) O w.drew O w1:=aa (fun h=>h) O l7;have f8:=hd.upd i8 hj (fun h=>h);have j9:=f'.drew.upd i8 b0 (fun h=>h);have j0:=hR.drew.upd i8;have e8:IJ (fun q=>q=j\/T<=q) O w O w1:=KJ (i8.mono (fun _ h=>h.elim) (fun e=>by rcases e with e|e;exact hj e.symm;omega));have e2:=f8.q2;rw[i7]at e2;have e3:=f8.q3;rw[hbg]at e3
 cases hf:r.findIdx? xp with
 |none=>
  have hi:lM r = -1:=by unfold lM;rw[hf]
  have hM:iU kn r=.bad r.length 4:=by unfold iU;rw[hf]
  rw[hi,hM];refine zg ?_;refine aO rfl rfl ?_;have l8:w1.drew.cell? ⟨rb,2,none⟩=some (nI (m:Int)):=e2;refine zg ?_;refine KT 8 rfl rfl zk zk ?_;refine zg ?_;refine zw (RV.ld l8 rfl) ?_;refine Lm ?_;refine zc L6 (bC O w1.drew j rb s (m:Int) 4 hj he f8.drew) ?_;rintro v w2 ⟨l5,k2⟩;refine zg ?_;refine cj rfl ⟨O,s.ru,(e8.fgt (S':=fun k=>k=j\/k=jr) (fun b hb=>.inl (hb.resolve_right (by have:=hT b;omega))) j1).trans ((KJ k2).mono (fun _ h=>.inl h) j1),j0.drew.upd k2,by decide,?_⟩;rw[show s.bg+(r.length:Int)=(m:Int)from by rw[hbg];omega];exact l5
 |some k=>
  obtain⟨hk,m1,m0⟩:=IY.1 hf;have hi:lM r=(k:Nat):=by unfold lM;rw[hf]
  rw[hi];have j4:s.l[k+(m-r.length)]? = some (nth r k):=by
   have h1:(s.l.take m)[m-r.length+k]? = r[k]?:=by rw[<-c8,List.getElem?_drop,c8]
   rw[aB hk];exact mz (m:=m) (by rw[Ki,h1];exact IH hk)
  have f4:(s.l.take (k+(m-r.length))).drop (m-r.length)=r.take k:=by
   rw[<-c8,KZ,KY,KX zo,c8,Ki]
  have h5:(s.l.take m).drop (k+(m-r.length)+1)=r.drop (k+1):=by
   rw[<-c8,List.drop_drop,c8];congr 1;omega
  generalize i0:(((nth r k).toNat:Int)==47)=brk;refine zg ?_;refine zFG rfl ((decide_eq_false zo)) ?_;refine zv (RV.ld e3 rfl) ?_;refine zvG (JJ rfl rfl (Jv zo)) ?_;rw[show(k:Int)+((m-r.length:Nat):Int)=((k+(m-r.length):Nat):Int)from by omega];refine kM (fun z:(Nat->Nat)×World×Nat×N3=>[(0,nP rb),(2,nI ((k+(m-r.length):Nat):Int)),(3,.pointer (some ⟨z.2.2.1,0,none⟩))]) (fun z:(Nat->Nat)×World×Nat×N3=>z.2.1) (fun z:(Nat->Nat)×World×Nat×N3=>IX z.1 z.2.1 T z.2.2.1 (cd (z.2.2.2,(0,0,nS),brk)).toArray 88/\IJ (fun q=>q=j\/T<=q) O w z.1 z.2.1/\K9 B z.1 z.2.1/\PostS z.1 z.2.1 j rb s (m-r.length) z.2.2.2 (nW kn (r.take k))) ?_ ?_
  ·intro hN;refine aL (fun V=>V.cell? ⟨rb,0,none⟩=some (.string (bs s.l))/\V.cell? ⟨rb,3,none⟩=some (nI ((m-r.length:Nat):Int))) 19 rfl zk ?_;refine zin ⟨f8.drew.q0,e3⟩ fun zS=>?_
   refine zrm 0 rfl zS rfl ?_;refine zrm 1 rfl zS rfl ?_
   refine zr 2 rfl zS (fun _=>ao rfl) ?_;refine zrf 3 rfl zS rfl ?_
   refine zrf 4 rfl zS rfl ?_;refine zt 5 rfl zS (fun w1 e5=>RV.ld e5.2 rfl) ?_
   refine zrm 6 rfl zS rfl ?_;refine zrm 8 rfl zS rfl ?_
   refine zr 9 rfl zS (fun _=>ao rfl) ?_;refine zrf 10 rfl zS rfl ?_
   refine zrf 11 rfl zS rfl ?_;refine zt 12 rfl zS (fun w1 e5=>RV.ld e5.1 rfl) ?_
   refine zrm 13 rfl zS rfl ?_;refine zr 14 rfl zS (fun _=>bh (c:=nth r k) I1 rfl rfl (k+(m-r.length)) rfl j4) ?_
   refine zr 15 rfl zS (fun _=>RV.eql rfl rfl) ?_;rw[i0];refine bI 7 17 zk rfl rfl ?_ ?_
   ·refine zc Lw (pY B O w1.drew j rb s (m-r.length) (k+(m-r.length)) j0.drew hj he h2 g0 (j3.upd (Ky e8) h2 zo) zo zo hl f8.drew) ?_;rintro v w3 ⟨x1,rfl,h4,e4⟩;rw[f4]at e4;refine zg ?_
    refine ae (tK (hbg:=hbg) e4) ?_;refine zr 16 rfl (tK (hbg:=hbg) e4) (fun _=>L8 (cells:=(cd (x1,(0,0,nS),brk)).toArray) FR (K5 _) rfl rfl) ?_
    refine IP 17 zk rfl ?_;refine ar (j0.drew.upd h4) T zo (K5 _) rfl ?_
    intro xb w4 O4 d8 e0 i5 k6;have e1:=e4.upd e0 hj zo;refine zg ?_;refine ae (tK (hbg:=hbg) e1) ?_;refine IP 18 zk rfl ?_;refine zsb (us:=(cd (x1,(0,0,nS),brk)).toArray) d8 (JC _) (jS e4.one rfl) ?_;have f9:=d8.setRow (us:=(cd (x1,(0,0,nS),brk)).toArray);have d':IJ (fun q=>q=T) O4 w4 O4 (w4.setRow xb (cd (x1,(0,0,nS),brk)).toArray):=I0 zo d8.tag rfl;have e':=e1.upd d' hj zo;refine zg ?_;refine ae (tK (hbg:=hbg) e') ?_;refine Jg zk ?_;exact eA (hN ((O4,_,xb,x1)) (⟨f9,(((Ky e8).trans (h4.pj g7)).trans (e0.pT hj g7 (ln _))).trans (d'.pT hj g7 (ln _)),i5.upd d',e'⟩)) ⟨rfl,rfl,rfl,trivial⟩ rfl
   refine ar j0.drew T zo (K5 _) rfl ?_;intro xb w3 O3 g9 h4 g8 m2;have d7:=f8.drew.upd h4 hj zo;have f3:=d7.q3;rw[hbg]at f3;refine zg ?_
   refine ae ⟨d7.q0,f3⟩ ?_;refine IP 7 zk rfl ?_
   refine zc Lw (pY B O3 w3 j rb s (m-r.length) (k+(m-r.length)) g8 hj he h2 g0 (j3.upd ((Ky e8).trans (h4.pT hj g7 (ln _))) h2 zo) zo zo hl d7) ?_;rintro v w4 ⟨x1,rfl,e0,e1⟩;rw[f4]at e1;have d8:=g9.upd e0 zo zo;refine zg ?_
   refine ae (tK (hbg:=hbg) e1) ?_;refine zr 16 rfl (tK (hbg:=hbg) e1) (fun _=>L8 (cells:=(cd (x1,(0,0,nS),brk)).toArray) FR (K5 _) rfl rfl) ?_
   refine IP 18 zk rfl ?_;refine zsb (us:=(cd (x1,(0,0,nS),brk)).toArray) d8 (JC _) (jS e1.one rfl) ?_
   have f9:=d8.setRow (us:=(cd (x1,(0,0,nS),brk)).toArray);have d':IJ (fun q=>q=T) O3 w4 O3 (w4.setRow xb (cd (x1,(0,0,nS),brk)).toArray):=I0 zo d8.tag rfl;have e':=e1.upd d' hj zo;refine zg ?_;refine ae (tK (hbg:=hbg) e') ?_;refine Jg zk ?_;exact eA (hN ((O3,_,xb,x1)) (⟨f9,(((Ky e8).trans (h4.pT hj g7 (ln _))).trans (e0.pj g7)).trans (d'.pT hj g7 (ln _)),(g8.upd e0).upd d',e'⟩)) ⟨rfl,rfl,rfl,trivial⟩ rfl
  rintro⟨O3,w3,xb,x1⟩ ⟨g9,g3,g8,e4⟩;dsimp only at g9 g3 g8 e4 ⊢;have f6:=f'.upd g3 b0 (fun e=>by rcases e with e|e;exact e7 e.symm;omega);have hx1o:=e4.one;have g4:IJ (fun q=>q=j\/q=jr\/T<=q) O w O3 w3:=g3.mono (fun _ h=>h.elim .inl (fun h=>.inr (.inr h))) b2;refine zg ?_
  cases g':nW kn (r.take k)with
  |bad p e=>
   have hM:iU kn r=.bad p e:=by unfold iU;rw[hf];dsimp only;rw[g']
   rw[hM];rw[g']at e4;obtain⟨rfl,c9,d7⟩:=e4;replace d7:IX O3 w3 j rb ({s with bad:=((m-r.length:Nat):Int)+(p:Int),e:=e}:LS).cells 148:=d7;refine zg ?_;refine zvG (RV.ld d7.q5 rfl) ?_;refine zFG rfl ((by simpa using c9)) ?_;refine zv (ah (us:=aW ((0,0,nS):N3)) (ju g9) (I2 _) (ix _) rfl) ?_;refine zc Ll (kf (.mk 0 0 []) (0,0,nS) w3 (Kq _ _ _ _)) ?_;rintro v w4 ⟨rfl,k6⟩;have i1:IJ (fun _=>False) O3 w3 O3 w4:=aa (fun h=>h) O3 k6;have k1:=d7.upd i1 hj (fun h=>h);have d8:=g9.upd i1 zo (fun h=>h);have e6:=f6.upd i1 b0 (fun h=>h);have i5:=g8.upd i1;have c5:=g4.trans (i1.mono (fun _ h=>h.elim) b2);refine zg ?_;refine zvG (RV.ld k1.q5 rfl) ?_;refine au (d:=98) rfl (b':=false) ((by simpa using c9)) ?_;obtain⟨x1,hx1e⟩:∃x1:N3,x1=(0,0,nS):=⟨_,rfl⟩
   obtain⟨x2,hx2e⟩:∃x2:N3,x2=(0,0,nS):=⟨_,rfl⟩
   have hx2o:x2.2.2.oneCell'=true:=by rw[hx2e];rfl
   have hx1o:x1.2.2.oneCell'=true:=by rw[hx1e];rfl
   have j2:IX O3 w4 T xb (cd (x1,x2,brk)).toArray 88:=by rw[hx1e,hx2e];exact d8
   have c':=(IR k1)
   have c6:=(IR j2)
   have a':=(K8 e6)
   have e9:=(KA i5)
   refine zg ?_;refine zFG rfl rfl ?_
   refine aL (fun V=>∀(q:Nat) (u:I3),(cd (x1,x2,brk))[q]? = some u->V.cell? (nA xb q)=some u) 13 rfl zk ?_;refine zin c6.cellsAdd fun zS=>?_
   refine zrm 0 rfl zS rfl ?_;refine zrm 1 rfl zS rfl ?_
   refine zr 2 rfl zS (fun _=>ao rfl) ?_;refine zrf 3 rfl zS rfl ?_
   refine zrf 4 rfl zS rfl ?_;refine zt 6 rfl zS (fun w1 e5=>ah (us:=cd (x1,x2,brk)) e5 (Ka _) (JC _) rfl) ?_
   refine bI 5 7 zk rfl rfl ?_ ?_
   ·refine zvG (RV.ld c'.q8 rfl) ?_;refine ae c6.cellsAdd ?_
    refine IP 7 zk rfl ?_;refine aH elR (enc:=cd) (x1,x2,brk) rfl rfl rfl zd rfl ?_
    intro w9 h9 d5;have a5:IJ (fun _=>False) O3 (IW w4) O3 w9:=aa (fun h=>h) O3 d5;have c7:=c'.upd a5 hj (fun h=>h);have b9:=c6.upd a5 zo (fun h=>h);have a7:=a'.upd a5 b0 (fun h=>h);have d4:=e9.upd a5;have b6:=(c5.drew).trans (a5.mono (fun _ h=>h.elim) b2);refine zg ?_;refine ae b9.cellsAdd ?_;have a8:∀u∈[(x1,x2,brk)],∀c∈cd u,c.oneCell'=true:=fun u hu=>by
     rw[I9.1 hu];exact bN hx1o hx2o
    refine IP 8 zk rfl ?_;refine aC elR a7 d4 h9 (by simp) rfl rfl (fun _ _=>rfl) a8 (by simp;omega) (by simp;omega) zo rfl ?_
    intro a2 b1 O10 a0 a3 b8;have a4:=I7 c7 a3 hj zo;have a6:=I7 b9 a3 zo zo;have b4:=a0.one;refine zg ?_;refine zaf a6.cellsAdd fun zS=>?_
    refine zr 9 rfl zS (fun _=>ao rfl) ?_;refine zrf 10 rfl zS rfl ?_
    refine zrf 11 rfl zS rfl ?_;refine IP 12 zk rfl ?_
    refine aj (j:=8) a4 rfl (JD _) b4 rfl rfl rfl ?_;have b5:=a4.s_ru a2;have a1:IJ (fun q=>q=j) O10 b1 O10 (b1.setCell ⟨rb,8,none⟩ a2):=IN (fun e=>hj e.symm) a4.tag rfl;have b3:=a6.upd a1 zo zo;have a9:=a0.upd a1 b0 (fun e=>e7 e.symm);have b7:=b8.upd a1;refine zg ?_
    refine ae b3.cellsAdd ?_;refine Jg zk ?_
    have d1:IJ (fun q=>q=j\/q=jr\/T<=q) O w O10 (b1.setCell ⟨rb,8,none⟩ a2):=(b6.trans (a3.mono (fun _ h=>.inr (.inl h)) b2)).trans (a1.mono (fun _ h=>.inl h) b2);refine aG rfl ⟨lowT O10 T,a2,d1.lowT hT (fun b hb=>by have:=hT b;rcases hb with h|h|h;exact .inl h;exact .inr h;omega) (fun e=>by rcases e with e|e;exact hj e.symm;exact b0 e.symm),b7.lowT T,?_⟩;exact⟨c9,by rw[show s.bg+(p:Int)=((m-r.length:Nat):Int)+(p:Int)from by rw[hbg]];exact b5.lowT f7⟩
   refine aH elR (enc:=cd) (x1,x2,brk) rfl rfl rfl zd rfl ?_;intro w9 h9 d5;have a5:IJ (fun _=>False) O3 (IW w4) O3 w9:=aa (fun h=>h) O3 d5;have c7:=c'.upd a5 hj (fun h=>h);have b9:=c6.upd a5 zo (fun h=>h);have a7:=a'.upd a5 b0 (fun h=>h);have d4:=e9.upd a5;have b6:=(c5.drew).trans (a5.mono (fun _ h=>h.elim) b2);refine zg ?_
   refine ae b9.cellsAdd ?_;refine IP 5 zk rfl ?_
   refine zvG (RV.ld c7.q8 rfl) ?_;refine ae b9.cellsAdd ?_
   have a8:∀u∈[(x1,x2,brk)],∀c∈cd u,c.oneCell'=true:=fun u hu=>by
    rw[I9.1 hu];exact bN hx1o hx2o
   refine IP 8 zk rfl ?_;refine aC elR a7 d4 h9 (by simp) rfl rfl (fun _ _=>rfl) a8 (by simp;omega) (by simp;omega) zo rfl ?_
   intro a2 b1 O10 a0 a3 b8;have a4:=I7 c7 a3 hj zo;have a6:=I7 b9 a3 zo zo;have b4:=a0.one;refine zg ?_;refine zaf a6.cellsAdd fun zS=>?_
   refine zr 9 rfl zS (fun _=>ao rfl) ?_;refine zrf 10 rfl zS rfl ?_
   refine zrf 11 rfl zS rfl ?_;refine IP 12 zk rfl ?_
   refine aj (j:=8) a4 rfl (JD _) b4 rfl rfl rfl ?_;have b5:=a4.s_ru a2;have a1:IJ (fun q=>q=j) O10 b1 O10 (b1.setCell ⟨rb,8,none⟩ a2):=IN (fun e=>hj e.symm) a4.tag rfl;have b3:=a6.upd a1 zo zo;have a9:=a0.upd a1 b0 (fun e=>e7 e.symm);have b7:=b8.upd a1;refine zg ?_
   refine ae b3.cellsAdd ?_;refine Jg zk ?_
   have d1:IJ (fun q=>q=j\/q=jr\/T<=q) O w O10 (b1.setCell ⟨rb,8,none⟩ a2):=(b6.trans (a3.mono (fun _ h=>.inr (.inl h)) b2)).trans (a1.mono (fun _ h=>.inl h) b2);refine aG rfl ⟨lowT O10 T,a2,d1.lowT hT (fun b hb=>by have:=hT b;rcases hb with h|h|h;exact .inl h;exact .inr h;omega) (fun e=>by rcases e with e|e;exact hj e.symm;exact b0 e.symm),b7.lowT T,?_⟩;exact⟨c9,by rw[show s.bg+(p:Int)=((m-r.length:Nat):Int)+(p:Int)from by rw[hbg]];exact b5.lowT f7⟩
  |ok a=>
   rw[g']at e4;obtain⟨l2,d7⟩:=e4;replace d7:IX O3 w3 j rb s.cells 148:=d7;have g2:=d7.q2;rw[i7]at g2;have g5:=d7.q5;rw[he]at g5;refine zg ?_;refine zvG (RV.ld g5 rfl) ?_;refine zTG rfl rfl ?_;refine zvG (JJ rfl rfl (Jv zo)) ?_;refine zv (RV.ld g2 rfl) ?_;rw[show((k+(m-r.length):Nat):Int)+1=((k+(m-r.length)+1:Nat):Int)from by omega];refine zc Lw (pY B O3 w3 j rb s (k+(m-r.length)+1) m g8 hj he h2 g0 (j3.upd g4 h2 zo) zo hm hl d7) ?_;rintro v w4 ⟨x2,rfl,e0,e1⟩;rw[h5]at e1;have hx2o:=e1.one;have d8:=g9.upd e0 zo zo;have e6:=f6.upd e0 b0 (fun e=>e7 e.symm);have i5:=g8.upd e0;have j5:=g4.trans (e0.mono (fun _ h=>.inl h) b2);have l1:=l2.upd e0;refine zg ?_;refine kJ 3 (us:=#[nI x2.1,nI x2.2.1,x2.2.2]) d8 (Nat.le_of_ble_eq_true rfl) (ix _) (bW hx2o) rfl rfl rfl ?_;rw[show((cd (x1,(0,0,nS),brk)).toArray.toList.take 3++(#[nI x2.1,nI x2.2.1,x2.2.2]:Array I3).toList++(cd (x1,(0,0,nS),brk)).toArray.toList.drop (3+(#[nI x2.1,nI x2.2.1,x2.2.2]:Array I3).size)).toArray=(cd (x1,x2,brk)).toArray from rfl];have f9:=d8.setRow (us:=(cd (x1,x2,brk)).toArray);have d':IJ (fun q=>q=T) O3 w4 O3 (w4.setRow xb (cd (x1,x2,brk)).toArray):=I0 zo d8.tag rfl;have e':=e1.upd d' hj zo;have f5:=e6.upd d' b0 zo;have k4:=i5.upd d';have i3:=j5.trans (d'.mono (fun _ h=>.inr (.inr (J7 h.symm))) b2);have l0:=l1.upd d';generalize w4.setRow xb (cd (x1,x2,brk)).toArray=w5 at *;refine zg ?_
   refine zv (ah (us:=aW x2) (ju f9) (I2 _) (ix _) rfl) ?_
   cases h6:nW kn (r.drop (k+1))with
   |bad p e=>
    have hM:iU kn r=.bad (k+1+p) e:=by unfold iU;rw[hf];dsimp only;rw[g'];dsimp only;rw[h6]
    rw[hM];rw[h6]at e';obtain⟨hx2e,c9,g1⟩:=e';replace g1:IX O3 w5 j rb ({s with bad:=((k+(m-r.length)+1:Nat):Int)+(p:Int),e:=e}:LS).cells 148:=g1;refine zc Ll (kf (.mk 0 0 []) x2 w5 (by rw[hx2e];exact Kq _ _ _ _)) ?_;rintro v w6 ⟨rfl,j7⟩;have d9:IJ (fun _=>False) O3 w5 O3 w6:=aa (fun h=>h) O3 j7;have h3:=g1.upd d9 hj (fun h=>h);have i6:=f9.upd d9 zo (fun h=>h);have d6:=f5.upd d9 b0 (fun h=>h);have i':=k4.upd d9;have c5:=i3.trans (d9.mono (fun _ h=>h.elim) b2);refine zg ?_;refine zvG (RV.ld h3.q5 rfl) ?_;refine au (d:=98) rfl (b':=false) ((by simpa using c9)) ?_;have c':=(IR h3)
    have c6:=(IR i6)
    have a':=(K8 d6)
    have e9:=(KA i')
    refine zg ?_;refine zFG rfl rfl ?_
    refine aL (fun V=>∀(q:Nat) (u:I3),(cd (x1,x2,brk))[q]? = some u->V.cell? (nA xb q)=some u) 13 rfl zk ?_;refine zin c6.cellsAdd fun zS=>?_
    refine zrm 0 rfl zS rfl ?_;refine zrm 1 rfl zS rfl ?_
    refine zr 2 rfl zS (fun _=>ao rfl) ?_;refine zrf 3 rfl zS rfl ?_
    refine zrf 4 rfl zS rfl ?_;refine zt 6 rfl zS (fun w1 e5=>ah (us:=cd (x1,x2,brk)) e5 (Ka _) (JC _) rfl) ?_
    refine bI 5 7 zk rfl rfl ?_ ?_
    ·refine zvG (RV.ld c'.q8 rfl) ?_;refine ae c6.cellsAdd ?_
     refine IP 7 zk rfl ?_;refine aH elR (enc:=cd) (x1,x2,brk) rfl rfl rfl zd rfl ?_
     intro w9 h9 d5;have a5:IJ (fun _=>False) O3 (IW w6) O3 w9:=aa (fun h=>h) O3 d5;have c7:=c'.upd a5 hj (fun h=>h);have b9:=c6.upd a5 zo (fun h=>h);have a7:=a'.upd a5 b0 (fun h=>h);have d4:=e9.upd a5;have b6:=(c5.drew).trans (a5.mono (fun _ h=>h.elim) b2);refine zg ?_;refine ae b9.cellsAdd ?_;have a8:∀u∈[(x1,x2,brk)],∀c∈cd u,c.oneCell'=true:=fun u hu=>by
      rw[I9.1 hu];exact bN hx1o hx2o
     refine IP 8 zk rfl ?_;refine aC elR a7 d4 h9 (by simp) rfl rfl (fun _ _=>rfl) a8 (by simp;omega) (by simp;omega) zo rfl ?_
     intro a2 b1 O10 a0 a3 b8;have a4:=I7 c7 a3 hj zo;have a6:=I7 b9 a3 zo zo;have b4:=a0.one;refine zg ?_;refine zaf a6.cellsAdd fun zS=>?_
     refine zr 9 rfl zS (fun _=>ao rfl) ?_;refine zrf 10 rfl zS rfl ?_
     refine zrf 11 rfl zS rfl ?_;refine IP 12 zk rfl ?_
     refine aj (j:=8) a4 rfl (JD _) b4 rfl rfl rfl ?_;have b5:=a4.s_ru a2;have a1:IJ (fun q=>q=j) O10 b1 O10 (b1.setCell ⟨rb,8,none⟩ a2):=IN (fun e=>hj e.symm) a4.tag rfl;have b3:=a6.upd a1 zo zo;have a9:=a0.upd a1 b0 (fun e=>e7 e.symm);have b7:=b8.upd a1;refine zg ?_
     refine ae b3.cellsAdd ?_;refine Jg zk ?_
     have d1:IJ (fun q=>q=j\/q=jr\/T<=q) O w O10 (b1.setCell ⟨rb,8,none⟩ a2):=(b6.trans (a3.mono (fun _ h=>.inr (.inl h)) b2)).trans (a1.mono (fun _ h=>.inl h) b2);refine aG rfl ⟨lowT O10 T,a2,d1.lowT hT (fun b hb=>by have:=hT b;rcases hb with h|h|h;exact .inl h;exact .inr h;omega) (fun e=>by rcases e with e|e;exact hj e.symm;exact b0 e.symm),b7.lowT T,?_⟩;exact⟨c9,by rw[show s.bg+((k+1+p:Nat):Int)=((k+(m-r.length)+1:Nat):Int)+(p:Int)from by rw[hbg];omega];exact b5.lowT f7⟩
    refine aH elR (enc:=cd) (x1,x2,brk) rfl rfl rfl zd rfl ?_;intro w9 h9 d5;have a5:IJ (fun _=>False) O3 (IW w6) O3 w9:=aa (fun h=>h) O3 d5;have c7:=c'.upd a5 hj (fun h=>h);have b9:=c6.upd a5 zo (fun h=>h);have a7:=a'.upd a5 b0 (fun h=>h);have d4:=e9.upd a5;have b6:=(c5.drew).trans (a5.mono (fun _ h=>h.elim) b2);refine zg ?_
    refine ae b9.cellsAdd ?_;refine IP 5 zk rfl ?_
    refine zvG (RV.ld c7.q8 rfl) ?_;refine ae b9.cellsAdd ?_
    have a8:∀u∈[(x1,x2,brk)],∀c∈cd u,c.oneCell'=true:=fun u hu=>by
     rw[I9.1 hu];exact bN hx1o hx2o
    refine IP 8 zk rfl ?_;refine aC elR a7 d4 h9 (by simp) rfl rfl (fun _ _=>rfl) a8 (by simp;omega) (by simp;omega) zo rfl ?_
    intro a2 b1 O10 a0 a3 b8;have a4:=I7 c7 a3 hj zo;have a6:=I7 b9 a3 zo zo;have b4:=a0.one;refine zg ?_;refine zaf a6.cellsAdd fun zS=>?_
    refine zr 9 rfl zS (fun _=>ao rfl) ?_;refine zrf 10 rfl zS rfl ?_
    refine zrf 11 rfl zS rfl ?_;refine IP 12 zk rfl ?_
    refine aj (j:=8) a4 rfl (JD _) b4 rfl rfl rfl ?_;have b5:=a4.s_ru a2;have a1:IJ (fun q=>q=j) O10 b1 O10 (b1.setCell ⟨rb,8,none⟩ a2):=IN (fun e=>hj e.symm) a4.tag rfl;have b3:=a6.upd a1 zo zo;have a9:=a0.upd a1 b0 (fun e=>e7 e.symm);have b7:=b8.upd a1;refine zg ?_
    refine ae b3.cellsAdd ?_;refine Jg zk ?_
    have d1:IJ (fun q=>q=j\/q=jr\/T<=q) O w O10 (b1.setCell ⟨rb,8,none⟩ a2):=(b6.trans (a3.mono (fun _ h=>.inr (.inl h)) b2)).trans (a1.mono (fun _ h=>.inl h) b2);refine aG rfl ⟨lowT O10 T,a2,d1.lowT hT (fun b hb=>by have:=hT b;rcases hb with h|h|h;exact .inl h;exact .inr h;omega) (fun e=>by rcases e with e|e;exact hj e.symm;exact b0 e.symm),b7.lowT T,?_⟩;exact⟨c9,by rw[show s.bg+((k+1+p:Nat):Int)=((k+(m-r.length)+1:Nat):Int)+(p:Int)from by rw[hbg];omega];exact b5.lowT f7⟩
   |ok b=>
    rw[h6]at e';obtain⟨h8,g1⟩:=e';replace g1:IX O3 w5 j rb s.cells 148:=g1;refine zc Ll (kf b x2 w5 h8.zero) ?_;rintro v w6 ⟨rfl,j7⟩;have d9:IJ (fun _=>False) O3 w5 O3 w6:=aa (fun h=>h) O3 j7;have h3:=g1.upd d9 hj (fun h=>h);have i6:=f9.upd d9 zo (fun h=>h);have d6:=f5.upd d9 b0 (fun h=>h);have i':=k4.upd d9;have i2:=i3.trans (d9.mono (fun _ h=>h.elim) b2);have k0:=l0.upd d9;have j':=h8.upd d9;have g6:=h3.q5;rw[he]at g6;refine zg ?_;refine zvG (RV.ld g6 rfl) ?_;refine au (d:=98) rfl (b':=true) (rfl) ?_;refine zg ?_
    by_cases h0:fc b=0
    ·have hM:iU kn r=.ok (a,b,brk):=by unfold iU;rw[hf];dsimp only;rw[g'];dsimp only;rw[h6];dsimp only;rw[if_neg (by simpa using h0),i0]
     rw[hM];have c5:=i2;refine aR rfl ((by rw[h0];rfl)) ?_;have c':=(IR h3)
     have c6:=(IR i6)
     have a':=(K8 d6)
     have e9:=(KA i')
     refine zg ?_;refine aL (fun V=>∀(q:Nat) (u:I3),(cd (x1,x2,brk))[q]? = some u->V.cell? (nA xb q)=some u) 13 rfl zk ?_
     refine zin c6.cellsAdd fun zS=>?_
     refine zrm 0 rfl zS rfl ?_;refine zrm 1 rfl zS rfl ?_
     refine zr 2 rfl zS (fun _=>ao rfl) ?_;refine zrf 3 rfl zS rfl ?_
     refine zrf 4 rfl zS rfl ?_;refine zt 6 rfl zS (fun w1 e5=>ah (us:=cd (x1,x2,brk)) e5 (Ka _) (JC _) rfl) ?_
     refine bI 5 7 zk rfl rfl ?_ ?_
     ·refine zvG (RV.ld c'.q8 rfl) ?_;refine ae c6.cellsAdd ?_
      refine IP 7 zk rfl ?_;refine aH elR (enc:=cd) (x1,x2,brk) rfl rfl rfl zd rfl ?_
      intro w9 h9 d5;have a5:IJ (fun _=>False) O3 (IW w6) O3 w9:=aa (fun h=>h) O3 d5;have c7:=c'.upd a5 hj (fun h=>h);have b9:=c6.upd a5 zo (fun h=>h);have a7:=a'.upd a5 b0 (fun h=>h);have d4:=e9.upd a5;have b6:=(c5.drew).trans (a5.mono (fun _ h=>h.elim) b2);refine zg ?_;refine ae b9.cellsAdd ?_;have a8:∀u∈[(x1,x2,brk)],∀c∈cd u,c.oneCell'=true:=fun u hu=>by
       rw[I9.1 hu];exact bN hx1o hx2o
      refine IP 8 zk rfl ?_;refine aC elR a7 d4 h9 (by simp) rfl rfl (fun _ _=>rfl) a8 (by simp;omega) (by simp;omega) zo rfl ?_
      intro a2 b1 O10 a0 a3 b8;have a4:=I7 c7 a3 hj zo;have a6:=I7 b9 a3 zo zo;have b4:=a0.one;refine zg ?_;refine zaf a6.cellsAdd fun zS=>?_
      refine zr 9 rfl zS (fun _=>ao rfl) ?_;refine zrf 10 rfl zS rfl ?_
      refine zrf 11 rfl zS rfl ?_;refine IP 12 zk rfl ?_
      refine aj (j:=8) a4 rfl (JD _) b4 rfl rfl rfl ?_;have b5:=a4.s_ru a2;have a1:IJ (fun q=>q=j) O10 b1 O10 (b1.setCell ⟨rb,8,none⟩ a2):=IN (fun e=>hj e.symm) a4.tag rfl;have b3:=a6.upd a1 zo zo;have a9:=a0.upd a1 b0 (fun e=>e7 e.symm);have b7:=b8.upd a1;refine zg ?_
      refine ae b3.cellsAdd ?_;refine Jg zk ?_
      have d1:IJ (fun q=>q=j\/q=jr\/T<=q) O w O10 (b1.setCell ⟨rb,8,none⟩ a2):=(b6.trans (a3.mono (fun _ h=>.inr (.inl h)) b2)).trans (a1.mono (fun _ h=>.inl h) b2);refine aG rfl ⟨lowT O10 T,a2,d1.lowT hT (fun b hb=>by have:=hT b;rcases hb with h|h|h;exact .inl h;exact .inr h;omega) (fun e=>by rcases e with e|e;exact hj e.symm;exact b0 e.symm),b7.lowT T,?_⟩;exact⟨(x1,x2,brk),a9.lowT h',⟨((((k0.drew).upd a5).upd a3).upd a1).weak (fun b e=>ke e),((((j'.drew).upd a5).upd a3).upd a1).weak (fun b e=>ke e),rfl⟩,b5.lowT f7⟩
     refine aH elR (enc:=cd) (x1,x2,brk) rfl rfl rfl zd rfl ?_;intro w9 h9 d5;have a5:IJ (fun _=>False) O3 (IW w6) O3 w9:=aa (fun h=>h) O3 d5;have c7:=c'.upd a5 hj (fun h=>h);have b9:=c6.upd a5 zo (fun h=>h);have a7:=a'.upd a5 b0 (fun h=>h);have d4:=e9.upd a5;have b6:=(c5.drew).trans (a5.mono (fun _ h=>h.elim) b2);refine zg ?_
     refine ae b9.cellsAdd ?_;refine IP 5 zk rfl ?_
     refine zvG (RV.ld c7.q8 rfl) ?_;refine ae b9.cellsAdd ?_
     have a8:∀u∈[(x1,x2,brk)],∀c∈cd u,c.oneCell'=true:=fun u hu=>by
      rw[I9.1 hu];exact bN hx1o hx2o
     refine IP 8 zk rfl ?_;refine aC elR a7 d4 h9 (by simp) rfl rfl (fun _ _=>rfl) a8 (by simp;omega) (by simp;omega) zo rfl ?_
     intro a2 b1 O10 a0 a3 b8;have a4:=I7 c7 a3 hj zo;have a6:=I7 b9 a3 zo zo;have b4:=a0.one;refine zg ?_;refine zaf a6.cellsAdd fun zS=>?_
     refine zr 9 rfl zS (fun _=>ao rfl) ?_;refine zrf 10 rfl zS rfl ?_
     refine zrf 11 rfl zS rfl ?_;refine IP 12 zk rfl ?_
     refine aj (j:=8) a4 rfl (JD _) b4 rfl rfl rfl ?_;have b5:=a4.s_ru a2;have a1:IJ (fun q=>q=j) O10 b1 O10 (b1.setCell ⟨rb,8,none⟩ a2):=IN (fun e=>hj e.symm) a4.tag rfl;have b3:=a6.upd a1 zo zo;have a9:=a0.upd a1 b0 (fun e=>e7 e.symm);have b7:=b8.upd a1;refine zg ?_
     refine ae b3.cellsAdd ?_;refine Jg zk ?_
     have d1:IJ (fun q=>q=j\/q=jr\/T<=q) O w O10 (b1.setCell ⟨rb,8,none⟩ a2):=(b6.trans (a3.mono (fun _ h=>.inr (.inl h)) b2)).trans (a1.mono (fun _ h=>.inl h) b2);refine aG rfl ⟨lowT O10 T,a2,d1.lowT hT (fun b hb=>by have:=hT b;rcases hb with h|h|h;exact .inl h;exact .inr h;omega) (fun e=>by rcases e with e|e;exact hj e.symm;exact b0 e.symm),b7.lowT T,?_⟩;exact⟨(x1,x2,brk),a9.lowT h',⟨((((k0.drew).upd a5).upd a3).upd a1).weak (fun b e=>ke e),((((j'.drew).upd a5).upd a3).upd a1).weak (fun b e=>ke e),rfl⟩,b5.lowT f7⟩
    have hM:iU kn r=.bad (k+1) (fc b):=by unfold iU;rw[hf];dsimp only;rw[g'];dsimp only;rw[h6];dsimp only;rw[if_pos (by simpa using h0)]
    rw[hM];refine zTG rfl ((by simpa using h0)) ?_;refine zvG (JJ rfl rfl (Jv zo)) ?_;refine zc L6 (bC O3 w6 j rb s (((k+(m-r.length):Nat):Int)+1) (fc b) hj he h3) ?_;rintro v w7 ⟨l4,i9⟩;have k8:=i6.upd i9 zo zo;have h7:=d6.upd i9 b0 (fun e=>e7 e.symm);have l6:=i'.upd i9;have c5:=i2.trans (i9.mono (fun _ h=>.inl h) b2);have c':=(IR l4)
    have c6:=(IR k8)
    have a':=(K8 h7)
    have e9:=(KA l6)
    refine zg ?_;refine aL (fun V=>∀(q:Nat) (u:I3),(cd (x1,x2,brk))[q]? = some u->V.cell? (nA xb q)=some u) 13 rfl zk ?_
    refine zin c6.cellsAdd fun zS=>?_
    refine zrm 0 rfl zS rfl ?_;refine zrm 1 rfl zS rfl ?_
    refine zr 2 rfl zS (fun _=>ao rfl) ?_;refine zrf 3 rfl zS rfl ?_
    refine zrf 4 rfl zS rfl ?_;refine zt 6 rfl zS (fun w1 e5=>ah (us:=cd (x1,x2,brk)) e5 (Ka _) (JC _) rfl) ?_
    refine bI 5 7 zk rfl rfl ?_ ?_
    ·refine zvG (RV.ld c'.q8 rfl) ?_;refine ae c6.cellsAdd ?_
     refine IP 7 zk rfl ?_;refine aH elR (enc:=cd) (x1,x2,brk) rfl rfl rfl zd rfl ?_
     intro w9 h9 d5;have a5:IJ (fun _=>False) O3 (IW w7) O3 w9:=aa (fun h=>h) O3 d5;have c7:=c'.upd a5 hj (fun h=>h);have b9:=c6.upd a5 zo (fun h=>h);have a7:=a'.upd a5 b0 (fun h=>h);have d4:=e9.upd a5;have b6:=(c5.drew).trans (a5.mono (fun _ h=>h.elim) b2);refine zg ?_;refine ae b9.cellsAdd ?_;have a8:∀u∈[(x1,x2,brk)],∀c∈cd u,c.oneCell'=true:=fun u hu=>by
      rw[I9.1 hu];exact bN hx1o hx2o
     refine IP 8 zk rfl ?_;refine aC elR a7 d4 h9 (by simp) rfl rfl (fun _ _=>rfl) a8 (by simp;omega) (by simp;omega) zo rfl ?_
     intro a2 b1 O10 a0 a3 b8;have a4:=I7 c7 a3 hj zo;have a6:=I7 b9 a3 zo zo;have b4:=a0.one;refine zg ?_;refine zaf a6.cellsAdd fun zS=>?_
     refine zr 9 rfl zS (fun _=>ao rfl) ?_;refine zrf 10 rfl zS rfl ?_
     refine zrf 11 rfl zS rfl ?_;refine IP 12 zk rfl ?_
     refine aj (j:=8) a4 rfl (JD _) b4 rfl rfl rfl ?_;have b5:=a4.s_ru a2;have a1:IJ (fun q=>q=j) O10 b1 O10 (b1.setCell ⟨rb,8,none⟩ a2):=IN (fun e=>hj e.symm) a4.tag rfl;have b3:=a6.upd a1 zo zo;have a9:=a0.upd a1 b0 (fun e=>e7 e.symm);have b7:=b8.upd a1;refine zg ?_
     refine ae b3.cellsAdd ?_;refine Jg zk ?_
     have d1:IJ (fun q=>q=j\/q=jr\/T<=q) O w O10 (b1.setCell ⟨rb,8,none⟩ a2):=(b6.trans (a3.mono (fun _ h=>.inr (.inl h)) b2)).trans (a1.mono (fun _ h=>.inl h) b2);refine aG rfl ⟨lowT O10 T,a2,d1.lowT hT (fun b hb=>by have:=hT b;rcases hb with h|h|h;exact .inl h;exact .inr h;omega) (fun e=>by rcases e with e|e;exact hj e.symm;exact b0 e.symm),b7.lowT T,?_⟩;exact⟨h0,by rw[show s.bg+((k+1:Nat):Int)=((k+(m-r.length):Nat):Int)+1 from by rw[hbg];omega];exact b5.lowT f7⟩
    refine aH elR (enc:=cd) (x1,x2,brk) rfl rfl rfl zd rfl ?_;intro w9 h9 d5;have a5:IJ (fun _=>False) O3 (IW w7) O3 w9:=aa (fun h=>h) O3 d5;have c7:=c'.upd a5 hj (fun h=>h);have b9:=c6.upd a5 zo (fun h=>h);have a7:=a'.upd a5 b0 (fun h=>h);have d4:=e9.upd a5;have b6:=(c5.drew).trans (a5.mono (fun _ h=>h.elim) b2);refine zg ?_
    refine ae b9.cellsAdd ?_;refine IP 5 zk rfl ?_
    refine zvG (RV.ld c7.q8 rfl) ?_;refine ae b9.cellsAdd ?_
    have a8:∀u∈[(x1,x2,brk)],∀c∈cd u,c.oneCell'=true:=fun u hu=>by
     rw[I9.1 hu];exact bN hx1o hx2o
    refine IP 8 zk rfl ?_;refine aC elR a7 d4 h9 (by simp) rfl rfl (fun _ _=>rfl) a8 (by simp;omega) (by simp;omega) zo rfl ?_
    intro a2 b1 O10 a0 a3 b8;have a4:=I7 c7 a3 hj zo;have a6:=I7 b9 a3 zo zo;have b4:=a0.one;refine zg ?_;refine zaf a6.cellsAdd fun zS=>?_
    refine zr 9 rfl zS (fun _=>ao rfl) ?_;refine zrf 10 rfl zS rfl ?_
    refine zrf 11 rfl zS rfl ?_;refine IP 12 zk rfl ?_
    refine aj (j:=8) a4 rfl (JD _) b4 rfl rfl rfl ?_;have b5:=a4.s_ru a2;have a1:IJ (fun q=>q=j) O10 b1 O10 (b1.setCell ⟨rb,8,none⟩ a2):=IN (fun e=>hj e.symm) a4.tag rfl;have b3:=a6.upd a1 zo zo;have a9:=a0.upd a1 b0 (fun e=>e7 e.symm);have b7:=b8.upd a1;refine zg ?_
    refine ae b3.cellsAdd ?_;refine Jg zk ?_
    have d1:IJ (fun q=>q=j\/q=jr\/T<=q) O w O10 (b1.setCell ⟨rb,8,none⟩ a2):=(b6.trans (a3.mono (fun _ h=>.inr (.inl h)) b2)).trans (a1.mono (fun _ h=>.inl h) b2);refine aG rfl ⟨lowT O10 T,a2,d1.lowT hT (fun b hb=>by have:=hT b;rcases hb with h|h|h;exact .inl h;exact .inr h;omega) (fun e=>by rcases e with e|e;exact hj e.symm;exact b0 e.symm),b7.lowT T,?_⟩;exact⟨h0,by rw[show s.bg+((k+1:Nat):Int)=((k+(m-r.length):Nat):Int)+1 from by rw[hbg];omega];exact b5.lowT f7⟩
end
def bx(a0:List UInt8):List UInt8:=a0.takeWhile (fun b=>!(b==35))
def aY(a0:List UInt8):List UInt8:=aq (bx a0)
theorem yi{a0:List UInt8}{k:Nat}(h:a0.findIdx? (· == 35)=some k):bx a0=a0.take k/\k<=a0.length:=by
 obtain⟨hk,h1,h2⟩:=IY.1 h;refine⟨?_,zo⟩;unfold bx;have e:a0=a0.take k++a0.drop k:=(Kj k a0).symm
 conv=>lhs;rw[e]
 rw[List.takeWhile_append_of_pos]
 ·rw[Jt hk,K0 (by simpa using h1),JU]
 intro x hx;obtain⟨i,hi,rfl⟩:=Jo hx;simp only[KQ]at hi;have:=h2 i zo;simp only[KM];simpa using this
theorem dV{p:UInt8->Bool}:∀ {l:List UInt8},(∀x∈l,p x=true)->l.takeWhile p=l
 |[],_=>rfl
 |a::l,h=>by rw[List.takeWhile_cons_of_pos (h a (by simp)),dV fun x hx=>h x (by simp[hx])]
theorem yj{a0:List UInt8}(h:a0.findIdx? (· == 35)=none):bx a0=a0:=by
 have h1:=IZ.1 h;exact dV fun x hx=>by simpa using h1 x hx
def dP(r:List UInt8):List UInt8:=r.takeWhile (fun b=>!(b==10))
def RowsT(O:Nat->Nat)(w:ka)(jr:Nat)(rv:I3)(ts:List R3)(xs:List X3):Prop:=
 Kz cd 88 7 O w jr rv xs/\ts.length=xs.length/\xs.length<=40/\∀i,i<xs.length->Rt O w (nth ts i) (nth xs i)
theorem RowsT.push{O:Nat->Nat}{w:ka}{jr:Nat}{rv:I3}{ts:List R3}{xs:List X3}{t:R3}{x:X3}(hr:Kz cd 88 7 O w jr rv (xs++[x]))(h1:ts.length=xs.length)(h2:xs.length<40)(h3:∀i,i<xs.length->Rt O w (nth ts i) (nth xs i))(h4:Rt O w t x):RowsT O w jr rv (ts++[t]) (xs++[x]):=by
 refine⟨hr,by simp[h1],by simp;omega,fun i hi=>?_⟩;simp only[Jd,Jj]at hi
 by_cases e:i<xs.length
 ·rw[aB (by simp;omega),aB (by simp;omega),IS zo,IS e,<-aB zo,<-aB e];exact h3 i e
 obtain rfl:i=xs.length:=zo;rw[aB (by simp;omega),aB (by simp),J8 zo,J8 zo];simp[h1];exact h4
theorem xF{r:List UInt8}{k:Nat}(h:r.findIdx? (· == 10)=some k):(dP r).length=k:=by
 obtain⟨hk,h1,h2⟩:=IY.1 h;unfold dP;have e:r=r.take k++r.drop k:=(Kj k r).symm;have e2:(r.take k).takeWhile (fun b=>!(b==10))=r.take k:=dV fun x hx=>by
  obtain⟨i,hi,rfl⟩:=Jo hx;simp only[KQ]at hi;have:=h2 i zo;simp only[KM];simpa using this
 conv=>lhs;rw[e]
 rw[List.takeWhile_append,e2,if_pos rfl,Jt hk,K0 (by simpa using h1),JU];simp;omega
theorem xG{r:List UInt8}(h:r.findIdx? (· == 10)=none):dP r=r:=
 dV fun x hx=>by simpa using IZ.1 h x hx
theorem sq(l:List UInt8)(fr:Nat):(l.take (fr+(dP (l.drop fr)).length)).drop fr=dP (l.drop fr):=by
 have h1:dP (l.drop fr)=(l.drop fr).take (dP (l.drop fr)).length:=List.prefix_iff_eq_take.1 (List.takeWhile_prefix _)
 conv=>rhs;rw[h1]
 rw[KZ]
abbrev xm(ig kp ru:I3):I3:=.agg #[ig,kp,ru]
abbrev qY:I3:=nS
theorem Gn:cB IQ 49 #[(0,1),(1,1),(2,1)]:=⟨_,underlying49,fun w=>by kernel_rfl⟩
theorem GK:cB IQ 145 #[(0,1),(1,1),(2,1),(3,1),(4,1),(5,1)]:=⟨_,underlying145,fun w=>by kernel_rfl⟩
theorem GJ:cB IQ 148 #[(0,6),(6,3),(9,1),(10,1),(11,1)]:=⟨_,underlying148,fun w=>by kernel_rfl⟩
theorem yF{w:ka}{rb:Nat}{a b c:I3}(h6:w.cell? ⟨rb,6,none⟩=some a)(h7:w.cell? ⟨rb,7,none⟩=some b)(h8:w.cell? ⟨rb,8,none⟩=some c):∀(q:Nat) (u:I3),[a,b,c][q]? = some u->w.cell? ((nA rb 6).add q)=some u:=fun q u hu=>by
 have e:((nA rb 6).add q)=⟨rb,6+q,none⟩:=by
  simp only[Jw];(repeat' split)<;>simp_all
 rw[e]
 match q,hu with
 |0,hu=>obtain rfl:=IL hu;exact h6
 |1,hu=>obtain rfl:=IL hu;exact h7
 |2,hu=>obtain rfl:=IL hu;exact h8
def Cz(l:List Int)(i:Nat):Bool:=(decide (nth l i<0)||decide (36<=nth l i))||(decide ((0:Int)<(i:Int))&&decide (nth l i<=nth l (i-1)))
def jW(l:List Int):Bool:=!(iY (Cz l) l.length)
def rH(t:R3):Bool:=(bM t.1&&bM t.2.1)&&(fc t.2.1==0)
def Gt(ts:List R3):Bool:=!(iY (fun i=>!(rH (nth ts i))) ts.length)
def eE(li lk:List Int)(ts:List R3):Bool:=((decide ((ts.length:Int)<=40)&&jW li)&&jW lk)&&Gt ts
theorem rM(l:List Int)(sv:I3)(w:ka)(h:Sl (fun c:Int=>[nI c]) 1 w sv l):JE IQ 52 [sv] w fun v w'=>v=.bool (jW l)/\w'=w:=by
 have a5:=h.len_le;refine I4 func52 ntmps52 rfl rfl ?_;refine zh ?_;refine zlp (fun x:Nat=>[(0,sv),(5,sv),(6,nI l.length),(7,nI x)]) (fun x=>w) (fun x=>x<=l.length/\∀i,i<x->Cz l i=false) (fun x=>l.length-x) 0 (⟨IU _,fun i hi=>absurd hi (Jn i)⟩) ?_;rintro k ⟨hk,a3⟩;refine zh ?_;refine zC ?_ ?_
 ·intro a0;replace a0:k<l.length:=dT a0;refine zh ?_;refine zvH (RV.ld (h.ld a0) rfl) ?_;refine bK (fun w1=>_=w1) (decide (36<=nth l k)) 2 (rfl) rfl rfl rfl rfl rfl ?_ ?_
  ·intro a1;refine zh ?_;refine nE 14 3 (rfl) a1
  rintro _ rfl;refine zh ?_;refine bK (fun w1=>_=w1) ((decide ((0:Int)<(k:Int))&&decide (nth l k<=nth l (k-1)))) 11 (rfl) rfl rfl rfl rfl rfl ?_ ?_
  ·intro a2;refine zh ?_
   cases a6:decide ((0:Int)<(k:Int))with
   |true=>
    have a7:=of_decide_eq_true a6;refine au (d:=21) rfl (b':=true) (rfl) ?_;refine zh ?_;rw[show(k:Int)-1=((k-1:Nat):Int)from by omega];refine zh ?_;refine zvH (RV.ld (h.ld (i:=k-1) zo) rfl) ?_;refine nE 18 13 (rfl) a2
   |false=>
    refine au (d:=21) rfl (b':=false) (rfl) ?_;refine zh ?_
    refine nE 18 13 (rfl) a2
  rintro _ rfl;refine zh ?_;refine zC ?_ ?_
  ·intro hy;refine zh ?_;refine af rfl rfl (⟨by unfold jW;rw[ey.2 ⟨k,a0,hy⟩];rfl,rfl⟩)
  intro hy;refine zh ?_;refine zxd (k+1) (⟨a0,fun i hi=>(J3.1 hi).elim (a3 i) (fun e=>by rw[e];exact hy)⟩)
 intro a4;replace a4:l.length<=k:=dF a4;refine zh ?_;refine af rfl rfl (⟨by unfold jW;rw[bY.2 fun i hi=>a3 i zo];rfl,rfl⟩)
abbrev nr(x:X3):I3:=.agg (cd x).toArray
theorem jT{O:Nat->Nat}{w:ka}{i b:Nat}{x:X3}{E:IE}(h:IX O w i b (cd x).toArray E):(∀W,Jq w W->∀(q:Nat) (u:I3),(aW x.1)[q]? = some u->W.cell? (nA b q)=some u)/\(∀W,Jq w W->∀(q:Nat) (u:I3),(aW x.2.1)[q]? = some u->W.cell? ((nA b 3).add q)=some u)/\(∀W,Jq w W->W.cell? (nA b 6)=some (.bool x.2.2))/\(∀W,Jq w W->∀(q:Nat) (u:I3),(cd x)[q]? = some u->W.cell? (nA b q)=some u):=by
 obtain⟨x1,x2,a0⟩:=x;refine⟨fun W hE q u hu=>hE.cell (h.cellsAdd q u ?_),fun W hE q u hu=>hE.cell (ju h q u hu),fun W hE=>hE.cell (h.cellsAdd 6 _ rfl),fun W hE q u hu=>hE.cell (h.cellsAdd q u hu)⟩;simp only[aW]at hu
 match q,hu with
 |0,hu=>exact hu
 |1,hu=>exact hu
 |2,hu=>exact hu
theorem Rt.ext{O:Nat->Nat}{w w':ka}{t:R3}{x:X3}(h:Rt O w t x)(e:Jq w w'):Rt O w' t x:=⟨h.1.ext e,h.2.1.ext e,h.2.2⟩
theorem xr(t:R3)(x:X3)(w:ka)(h:Rt (fun _=>0) w t x):JE IQ 55 [nr x] w fun v w'=>v=.bool (rH t)/\Jq w w':=by
 have hx1o:=h.1.one;have hx2o:=h.2.1.one;have a7:=bN (b:=x.2.2) hx1o hx2o;refine I4 func55 ntmps55 rfl rfl ?_;refine zh ?_;refine aF (aw w) 1 zo rfl rfl ?_;intro xb w1 O1 a6 a8 a9 a4;obtain⟨lc,rc,bc,_⟩:=jT a6;refine zh ?_;refine zv (ah (us:=aW x.1) (lc w1 (IV _)) (I2 _) (ix _) rfl) ?_;refine zc L1 (eU t.1 x.1 w1 (h.1.ext a4)) ?_;rintro v w2 ⟨rfl,a3⟩;refine zh ?_;refine bz (Jq w1) (bM t.2.1) 3 (a3) rfl rfl rfl rfl rfl ?_ ?_
 ·intro a1;refine zh ?_;refine zvH (ah (us:=aW x.2.1) (rc _ a3) (I2 _) (ix _) rfl) ?_;refine zc L1 (eU t.2.1 x.2.1 _ (h.2.1.ext (a4.trans a3))) ?_;rintro v w3 ⟨rfl,a0⟩;refine zh ?_;refine nE 6 4 (a3.trans a0) a1
 intro w3 a0;refine zh ?_;refine bz (Jq w1) ((fc t.2.1==0)) 4 (a0) rfl rfl rfl rfl rfl ?_ ?_
 ·intro a2;refine zh ?_;refine zvH (ah (us:=aW x.2.1) (rc _ a0) (I2 _) (ix _) rfl) ?_;refine zc Ll (kf t.2.1 x.2.1 _ (h.2.1.ext (a4.trans a0))) ?_;rintro v w4 ⟨rfl,a5⟩;refine zh ?_;refine nE 11 5 (a0.trans a5) a2
 intro w4 a5;refine zh ?_;refine af rfl rfl (⟨rfl,a4.trans a5⟩)
theorem xw(t:R3)(x:X3)(w:ka)(h:Rt (fun _=>0) w t x):JE IQ 54 [nr x] w fun v w'=>v=.bool (!(rH t))/\Jq w w':=by
 have hx1o:=h.1.one;have hx2o:=h.2.1.one;have a2:=bN (b:=x.2.2) hx1o hx2o;refine I4 func54 ntmps54 rfl rfl ?_;refine zh ?_;refine aF (aw w) 1 zo rfl rfl ?_;intro xb w1 O1 a1 a4 a5 a0;obtain⟨_,_,_,ac⟩:=jT a1;refine zh ?_;refine zv (ah (us:=cd x) (ac w1 (IV _)) (Ka _) (JC _) rfl) ?_;refine zc call55 (xr t x w1 (h.ext a0)) ?_;rintro v w2 ⟨rfl,a3⟩;refine zh ?_;refine af rfl rfl (⟨rfl,a0.trans a3⟩)
theorem lx{F:FuncId}(hF:∀(args:Array I3) (w:ka),(callFunc F args).run IQ w=.ok (.enter F args) w)(cs:Array I3)(l:List (X3))(sv:I3)(q:Nat->Bool)(w:ka)(h:Sl cd 7 w sv l) 
  (hq:∀i,i<l.length->∀w',Jq w w'->JE IQ F ([nr (nth l i)]++cs.toList) w' fun v w''=>v=.bool (q i)/\Jq w' w'') :
  JE IQ 78 [sv,.func (.func F) #[] cs] w fun v w'=>v=nI (dw q l.length)/\Jq w w':=by
 have hl:=h.len_le;refine I4 func78 ntmps78 rfl rfl ?_;refine zh ?_;refine zlp (fun x:Nat×ka=>[(0,sv),(1,.func (.func F) #[] cs),(7,nI l.length),(8,nI x.1)]) (fun x=>x.2) (fun x=>x.1<=l.length/\Jq w x.2/\∀i,i<x.1->q i=false) (fun x=>l.length-x.1) (0,w) (⟨IU _,IV _,fun i hi=>absurd hi (Jn i)⟩) ?_;rintro⟨k,w1⟩ ⟨hk,hE,a1⟩;dsimp only at hk hE a1 ⊢;have h1:=h.ext hE;refine zh ?_;refine zC ?_ ?_
 ·intro a0;replace a0:k<l.length:=dT a0;refine zh ?_;refine zv (ah (us:=cd (nth l k)) (fun j u hu=>h1.cell a0 hu) (Ka _) (JC _) rfl) ?_;refine dq rfl hF rfl (hq k a0 w1 hE) rfl ?_;rintro v w2 ⟨rfl,a3⟩;refine zh ?_;refine zC ?_ ?_
  ·intro hy;refine zh ?_;refine af rfl rfl (⟨by rw[ct a0 hy a1],hE.trans a3⟩)
  intro hy;refine zh ?_;refine zxd (k+1,w2) (⟨a0,hE.trans a3,fun i hi=>(J3.1 hi).elim (a1 i) (fun e=>by rw[e];exact hy)⟩)
 intro a2;replace a2:l.length<=k:=dF a2;refine zh ?_;refine af rfl rfl (⟨by rw[cn fun i hi=>a1 i zo],hE⟩)
theorem iW{F:FuncId}(hF:∀(args:Array I3) (w:ka),(callFunc F args).run IQ w=.ok (.enter F args) w)(cs:Array I3)(l:List (X3))(sv:I3)(q:Nat->Bool)(w:ka)(h:Sl cd 7 w sv l) 
  (hq:∀i,i<l.length->∀w',Jq w w'->JE IQ F ([nr (nth l i)]++cs.toList) w' fun v w''=>v=.bool (q i)/\Jq w' w'') :
  JE IQ 53 [sv,.func (.func F) #[] cs] w fun v w'=>v=.bool (iY q l.length)/\Jq w w':=by
 refine I4 func53 ntmps53 rfl rfl ?_;refine zh ?_
 refine zc call78 (lx hF cs l sv q w h hq) ?_;rintro v w1 ⟨rfl,hE⟩;refine zh ?_
 refine af rfl rfl (⟨by rw[firstN_any],hE⟩)
theorem xu(li lk:List Int)(ts:List R3)(xs:List X3)(ig kp ru:I3)(w:ka)(hi:Sl (fun c:Int=>[nI c]) 1 w ig li)(hk:Sl (fun c:Int=>[nI c]) 1 w kp lk)(hr:Sl cd 7 w ru xs)(hl:ts.length=xs.length)(hx:∀i,i<xs.length->Rt (fun _=>0) w (nth ts i) (nth xs i)):
  JE IQ 33 [xm ig kp ru] w fun v w'=>v=.bool (eE li lk ts)/\Jq w w':=by
 have b0:=hi.one;have a':=hk.one;have a9:=hr.one;refine I4 func33 ntmps33 rfl rfl ?_;refine zh ?_;refine aF (aw w) 1 zo rfl rfl ?_;intro xb w1 O1 a5 b1 b2 a4;have c0:w1.cell? (nA xb 0)=some ig:=a5.cell 0 rfl;have c1:w1.cell? (nA xb 1)=some kp:=a5.cell 1 rfl;have c2:w1.cell? (nA xb 2)=some ru:=a5.cell 2 rfl;have a7:=hr.ext a4;refine zh ?_;refine bz (fun w1=>_=w1) (jW li) 3 (rfl) rfl rfl rfl rfl rfl ?_ ?_
 ·intro a1;refine zh ?_;refine zc call52 (rM li ig w1 (hi.ext a4)) ?_;rintro v w9 ⟨rfl,a0⟩;rw[a0];clear a0 w9;refine zh ?_;refine nE 7 4 (rfl) a1
 rintro _ rfl;refine zh ?_;refine bz (fun w1=>_=w1) (jW lk) 3 (rfl) rfl rfl rfl rfl rfl ?_ ?_
 ·intro a2;refine zh ?_;refine zc call52 (rM lk kp w1 (hk.ext a4)) ?_;rintro v w9 ⟨rfl,a0⟩;rw[a0];clear a0 w9;refine zh ?_;refine nE 12 4 (rfl) a2
 rintro _ rfl;refine zh ?_;have a8:Gt ts = !(iY (fun i=>!(rH (nth ts i))) xs.length):=by unfold Gt;rw[hl]
 refine bz (Jq w1) ((!(iY (fun i=>!(rH (nth ts i))) xs.length))) 4 (IV w1) rfl rfl rfl rfl rfl ?_ ?_
 ·intro a3;refine zh ?_;refine zc call53 (iW call54 #[] xs ru (fun i=>!(rH (nth ts i))) w1 a7 (fun i hi w' hE=>xw (nth ts i) (nth xs i) w' ((hx i hi).ext (a4.trans hE)))) ?_;rintro v w2 ⟨rfl,a6⟩;refine zh ?_;refine nE 17 5 (a6) a3
 intro w2 a6;refine zh ?_;refine af rfl rfl (⟨by unfold eE;rw[hl,a8],a4.trans a6⟩)
abbrev C1:List UInt8:=[67,82,32,33,32,76,70]
theorem gG:∀(n:Nat) (t:Nd),nsz t<=n->∀(x:N3) (w:ka) (fE:Nat),Nt (fun _=>0) w t x->fE<=1000000->JE IQ 32 [nv x,nI (fE:Int)] w fun v w'=>v=nI ((min (nsz t) (fE+1):Nat):Int)/\Jq w w'
 |0,t,hn=>by have:=dD t;omega
 |n+1,.mk k c kids,hn=>by
  intro x w fE h hm;obtain⟨xs,hs,hf,hl,hk⟩:=h.kids;simp only[Lk]at hl hk;have b4:=eH kids;simp only[nsz]at hn ⊢;have a9:=hs.len_le;refine I4 func32 ntmps32 rfl rfl ?_;refine zh ?_;refine aF (aw w) 1 zo rfl rfl ?_;intro xb w1 O1 a5 b7 b8 a3;have c2:w1.cell? (nA xb 2)=some x.2.2:=a5.cell 2 rfl;have a8:=hs.ext a3;refine zh ?_;refine zlp (fun y:Nat×ka=>[(1,nI (fE:Int)),(2,nP xb),(5,nI ((min (dt (kids.take y.1)+1) (fE+1):Nat):Int)),(6,nI y.1)]) (fun y=>y.2) (fun y=>y.1<=xs.length/\Jq w1 y.2) (fun y=>xs.length-y.1) (0,w1) (⟨IU _,IV _⟩) ?_;rintro⟨i,w2⟩ ⟨hi,a0⟩;dsimp only at hi a0 ⊢;have a7:=a8.ext a0;have d2:=a0.cell c2;have a6:=cm kids i;refine zh ?_;refine bz (fun w1=>_=w1) (decide (((min (dt (kids.take i)+1) (fE+1):Nat):Int)<=(fE:Int))) 3 (rfl) rfl rfl rfl rfl rfl ?_ ?_
  ·intro a1;refine zh ?_;refine nE 12 4 (rfl) a1
  rintro _ rfl;refine zh ?_;refine zC ?_ ?_
  ·intro hc;simp only[IG,decide_eq_true_eq]at hc;obtain⟨b6,b5⟩:=hc;have a2:i<xs.length:=zo;have b2:=dO kids i zo;have b1:=cm kids (i+1);have a4:=(hk i a2).ext (a3.trans a0);have b0:=a4.one;have b3:=cg kids i zo;refine zh ?_;refine zvH (ah (us:=aW (nth xs i)) (fun j u hu=>a7.cell a2 hu) (Lv _) (Kf _) rfl) ?_;rw[show(fE:Int)-((min (dt (kids.take i)+1) (fE+1):Nat):Int)=((fE-(dt (kids.take i)+1):Nat):Int)from by omega];refine zc LG (gG n (nth kids i) zo (nth xs i) w2 (fE-(dt (kids.take i)+1)) a4 zo) ?_;rintro v w5 ⟨rfl,a'⟩;refine zh ?_;rw[show((min (dt (kids.take i)+1) (fE+1):Nat):Int)+((min (nsz (nth kids i)) (fE-(dt (kids.take i)+1)+1):Nat):Int)=((min (dt (kids.take (i+1))+1) (fE+1):Nat):Int)from by omega];refine zxd (i+1,w5) (⟨a2,a0.trans a'⟩)
  intro hc;simp only[Kl,decide_eq_false_iff_not]at hc;have he:min (dt (kids.take i)+1) (fE+1)=min (dt kids+1) (fE+1):=by
   rcases hc with hc|hc
   ·obtain rfl:i=xs.length:=zo;rw[<-hl,List.take_length]
   omega
  refine zh ?_;refine af rfl rfl (⟨by rw[he],a3.trans a0⟩)
abbrev encI(c:Int):List I3:=[nI c]
abbrev aN(n:Nat):List I3:=[nI (n:Int)]
theorem D8{w:ka}{v:I3}{l:List Nat}(h:Sl aN 1 w v l):Sl encI 1 w v (l.map fun(n:Nat)=>(n:Int)):=
 ⟨by simpa using h.shape,fun i hi j u hu=>h.cells i (by simpa using hi) j u (by simpa using hu)⟩
theorem xJ(l:List Int)(c:Int)(sv:I3)(w:ka)(h:Sl encI 1 w sv l):JE IQ 164 [sv,nI c] w fun v w'=>v=nI (dw (fun i=>c==nth l i) l.length)/\w'=w:=by
 have hl:=h.len_le;refine I4 func164 ntmps164 rfl rfl ?_;refine zh ?_;refine zlp (fun x:Nat=>[(0,sv),(1,nI c),(7,nI l.length),(8,nI x)]) (fun x=>w) (fun x=>x<=l.length/\∀i,i<x->(c==nth l i)=false) (fun x=>l.length-x) 0 (⟨IU _,fun i hi=>absurd hi (Jn i)⟩) ?_;rintro k ⟨hk,a1⟩;refine zh ?_;refine zC ?_ ?_
 ·intro a0;replace a0:k<l.length:=dT a0;have m1:=h.ld a0;refine zh ?_;refine zC ?_ ?_
  ·intro hy;refine zh ?_;refine af rfl rfl (⟨by rw[ct (q:=fun i=>c==nth l i) a0 hy a1],rfl⟩)
  intro hy;refine zh ?_;refine zxd (k+1) (⟨a0,fun i hi=>(J3.1 hi).elim (a1 i) (fun e=>by rw[e];exact hy)⟩)
 intro a2;replace a2:l.length<=k:=dF a2;refine zh ?_;refine af rfl rfl (⟨by rw[cn (q:=fun i=>c==nth l i) fun i hi=>a1 i zo],rfl⟩)
theorem qI(l:List Int)(c:Int)(sv:I3)(w:ka)(h:Sl encI 1 w sv l):JE IQ 144 [sv,nI c] w fun v w'=>v=.bool (decide (c∈l))/\w'=w:=by
 have he:iY (fun i=>c==nth l i) l.length=decide (c∈l):=by
  rw[ie (p:=fun x=>c==x),JX];simp[List.any_eq_true]
 refine I4 func144 ntmps144 rfl rfl ?_;refine zh ?_
 refine zc call164 (xJ l c sv w h) ?_;rintro v w9 ⟨rfl,a0⟩;rw[a0];clear a0 w9;refine zh ?_
 refine af rfl rfl (⟨congrArg Kx (firstN_any.trans he),rfl⟩)
theorem qH(l:List Nat)(c:Nat)(sv:I3)(w:ka)(h:Sl aN 1 w sv l):JE IQ 144 [sv,nI (c:Nat)] w fun v w'=>v=.bool (l.contains c)/\w'=w:=by
 refine(qI _ c sv w (D8 h)).mono fun v w' ⟨h1,h2⟩=>⟨?_,h2⟩
 rw[h1];congr 1;rw[JX];simp only[decide_eq_true_eq,L9,List.contains_iff_mem]
 constructor
 ·rintro⟨a,ha,e⟩;have e:a=c:=zo;rw[<-e];exact ha
 exact fun hc=>⟨c,hc,rfl⟩
structure Tx(w:ka)(v:I3)(li lk:List Int)(ts:List R3):Prop where
 ex:∃ig kp ru xs,v=xm ig kp ru/\Sl encI 1 w ig li/\Sl encI 1 w kp lk/\Sl cd 7 w ru xs/\ts.length=xs.length/\∀i,i<xs.length->Rt (fun _=>0) w (nth ts i) (nth xs i)
theorem Tx.ext{w w':ka}{v:I3}{li lk:List Int}{ts:List R3}(h:Tx w v li lk ts)(e:Jq w w'):Tx w' v li lk ts:=by
 obtain⟨ig,kp,ru,xs,hv,h1,h2,h3,h4,h5⟩:=h;exact⟨ig,kp,ru,xs,hv,h1.ext e,h2.ext e,h3.ext e,h4,fun i hi=>(h5 i hi).ext e⟩
def Few(li lk:List Int)(ts:List R3):Prop:=ts.length<=45/\li.length<=40/\lk.length<=40/\∀i,i<ts.length->nsz (nth ts i).1<=150/\nsz (nth ts i).2.1<=150
theorem Ay(li lk:List Int)(ts:List R3)(v:I3)(w:ka)(h:Tx w v li lk ts):JE IQ 31 [v] w fun u w'=>∃g,u=.bool g/\Jq w w'/\(g=false->Few li lk ts):=by
 obtain⟨ig,kp,ru,xs,rfl,h1,h2,h3,h4,h5⟩:=h;have o1:=h1.one;have o2:=h2.one;have o3:=h3.one;refine I4 func31 ntmps31 rfl rfl ?_;refine zh ?_;refine aF (aw w) 1 zo rfl rfl ?_;intro xb w1 O1 a8 b9 b' a5;have c0:w1.cell? (nA xb 0)=some ig:=a8.cell 0 rfl;have c1:w1.cell? (nA xb 1)=some kp:=a8.cell 1 rfl;have c2:w1.cell? (nA xb 2)=some ru:=a8.cell 2 rfl;have g1:=h1.ext a5;have g2:=h2.ext a5;have g3:=h3.ext a5;refine zh ?_;refine bK (fun w1=>_=w1) (decide ((40:Int)<(li.length:Int))) 4 (rfl) rfl rfl rfl rfl rfl ?_ ?_
 ·intro a1;refine zh ?_;refine nE 9 5 (rfl) a1
 rintro _ rfl;refine zh ?_;refine bK (fun w1=>_=w1) (decide ((40:Int)<(lk.length:Int))) 4 (rfl) rfl rfl rfl rfl rfl ?_ ?_
 ·intro a2;refine zh ?_;refine nE 15 5 (rfl) a2
 rintro _ rfl;refine zh ?_;refine zC ?_ ?_
 ·intro hc;refine zh ?_;refine af rfl rfl (⟨true,rfl,a5,fun e=>by cases e⟩)
 intro hc;simp only[Bool.or_eq_false_iff,decide_eq_false_iff_not]at hc;obtain⟨⟨b8,b7⟩,b6⟩:=hc;refine zh ?_;refine zlp (fun y:Nat×Nat×ka=>[(1,nP xb),(3,nI (y.2.1:Nat)),(4,nI y.1)]) (fun y=>y.2.2) (fun y=>y.1<=xs.length/\y.2.1<=302*y.1/\Jq w1 y.2.2/\∀j,j<y.1->min (nsz (nth ts j).1) 151+min (nsz (nth ts j).2.1) 151<=y.2.1) (fun y=>xs.length-y.1) (0,0,w1) (⟨IU _,by dsimp only;omega,IV _,fun j hj=>absurd hj (Jn j)⟩) ?_;rintro⟨i,s,w2⟩ ⟨hi,a6,a4,a9⟩;dsimp only at hi a6 a4 a9 ⊢;have d2:=a4.cell c2;have a7:=g3.ext a4;refine zh ?_;refine bz (fun w1=>_=w1) (decide ((s:Int)<=150)) 2 (rfl) rfl rfl rfl rfl rfl ?_ ?_
 ·intro b1;refine zh ?_;refine nE 26 3 (rfl) b1
 rintro _ rfl;refine zh ?_;refine zC ?_ ?_
 ·intro hc;simp only[IG,decide_eq_true_eq]at hc;have a3:i<xs.length:=zo;have b0:=(h5 i a3).ext (a5.trans a4);have b3:∀W,Jq w2 W->∀(j:Nat) (u:I3),(aW (nth xs i).1)[j]? = some u->W.cell? (((adr ru 7 i).add 0).add j)=some u:=fun W hE j u hu=>by
   have e:(((adr ru 7 i).add 0).add j)=(adr ru 7 i).add j:=by rw[Ke,Nat.zero_add]
   rw[e];refine hE.cell (a7.cell a3 ?_);simp only[aW]at hu
   match j,hu with
   |0,hu=>exact hu
   |1,hu=>exact hu
   |2,hu=>exact hu
  have b2:∀W,Jq w2 W->∀(j:Nat) (u:I3),(aW (nth xs i).2.1)[j]? = some u->W.cell? (((adr ru 7 i).add 3).add j)=some u:=fun W hE j u hu=>by
   have e:(((adr ru 7 i).add 3).add j)=(adr ru 7 i).add (3+j):=by rw[Ke]
   rw[e];refine hE.cell (a7.cell a3 ?_);simp only[aW]at hu
   match j,hu with
   |0,hu=>exact hu
   |1,hu=>exact hu
   |2,hu=>exact hu
  refine zh ?_;refine xe (Jq w2) zk zk ((IV w2).drew) ?_
  refine jf (fun w1 a0=>Lj rfl) rfl ?_;refine jf (fun w1 a0=>JO 2 Lq rfl rfl (sizeOf42 _) zd rfl) rfl ?_
  refine jf (fun w1 a0=>LN (by first|exact a0.cell d2) (isAgg42 _) rfl) rfl ?_;refine jf (fun w1 a0=>Lj rfl) rfl ?_
  refine jf (fun w1 a0=>JN (a7.ext a0) KF (sizeOf81 _) rfl rfl i rfl a3) rfl ?_;refine jf (fun w1 a0=>JO 0 KE rfl rfl (Kf _) zd rfl) rfl ?_
  refine jf (fun w1 a0=>ah (us:=aW (nth xs i).1) (b3 _ a0) (Lv _) (Kf _) rfl) rfl ?_;refine LJ LG rfl (fun w1 a0=>(gG (nsz (nth ts i).1) (nth ts i).1 (ln _) (nth xs i).1 _ 150 (b0.1.ext a0) zd).mono fun v w' h=>⟨h.1,a0.trans h.2⟩) rfl ?_
  refine jf (fun w1 a0=>JJ rfl rfl (Jv zo)) rfl ?_;refine jf (fun w1 a0=>JO 2 Lq rfl rfl (sizeOf42 _) zd rfl) rfl ?_
  refine jf (fun w1 a0=>LN (by first|exact a0.cell d2) (isAgg42 _) rfl) rfl ?_;refine jf (fun w1 a0=>Lj rfl) rfl ?_
  refine jf (fun w1 a0=>JN (a7.ext a0) KF (sizeOf81 _) rfl rfl i rfl a3) rfl ?_;refine jf (fun w1 a0=>JO 3 KE rfl rfl (Kf _) zd rfl) rfl ?_
  refine jf (fun w1 a0=>ah (us:=aW (nth xs i).2.1) (b2 _ a0) (Lv _) (Kf _) rfl) rfl ?_;refine LJ LG rfl (fun w1 a0=>(gG (nsz (nth ts i).2.1) (nth ts i).2.1 (ln _) (nth xs i).2.1 _ 150 (b0.2.1.ext a0) zd).mono fun v w' h=>⟨h.1,a0.trans h.2⟩) rfl ?_
  refine jf (fun w1 a0=>JJ rfl rfl (Jv zo)) rfl ?_;refine jf (fun w1 a0=>RV.assign rfl) rfl ?_
  refine WQ.nil ?_;intro w3 b4;refine zh ?_
  rw[show(s:Int)+((min (nsz (nth ts i).1) (150+1):Nat):Int)+((min (nsz (nth ts i).2.1) (150+1):Nat):Int)=((s+(min (nsz (nth ts i).1) 151+min (nsz (nth ts i).2.1) 151):Nat):Int)from by omega];refine zxd (i+1,s+(min (nsz (nth ts i).1) 151+min (nsz (nth ts i).2.1) 151),w3) (⟨a3,by dsimp only;omega,a4.trans b4,fun j hj=>(J3.1 hj).elim (fun h=>by have:=a9 j h;dsimp only;omega) (fun e=>by dsimp only;rw[e];omega)⟩)
 intro hc;simp only[Kl,decide_eq_false_iff_not]at hc;have a':decide ((150:Int)<(s:Int))=false->Few li lk ts:=fun e=>by
  have hs:=of_decide_eq_false e;have b5:i=xs.length:=zo;refine⟨zo,zo,zo,fun j hj=>?_⟩;have:=a9 j zo;omega
 refine zh ?_;refine af rfl rfl (⟨decide ((150:Int)<(s:Int)),rfl,a5.trans a4,a'⟩)
end Go.Proofs.YtpfpmhhigheccaaGreatDoor
section
namespace Go.VL
open Go.ChangeShapes Go.WideShapes Go.ChangeAt Go.RowKit Go.Deep
section
variable{H:Type}{enc:IE×I3→H}{P:JG}{w:ka}{base:Nat}{held:Bool}
theorem RdF.slice{a1:Nat}{t e:IE}{sz:Nat}{cs:List I3}{x:DataW H×List Ln}(ht:P.underlying t=some (.slice e))(ce:P.cellsOf e=sz)(hz:0<sz)(h:Jk enc P w base (fun _=>true) held a1 t cs=some x):
  ∃v xs,cs=[v]/\Sl (fun c:List I3=>c) sz w v xs/\∀c∈xs,c.length=sz/\∃n y,a1=n+1/\Jk enc P w base (fun _=>true) held n e c=some y:=by
 rcases DataW.trod_slice ht h with⟨rfl,_⟩|⟨a,len,a',a6,a7,n,a8,rfl,rfl,hb,hl,hm,a3,a9,_,_⟩
 ·exact⟨_,[],rfl,⟨⟨none,0,rfl,ln _,zo,fun h=>absurd rfl h⟩,fun i hi=>absurd hi (by simp)⟩,by simp⟩
 have hx:∀i,i<len->∃c:List I3,w.cells? base (a.add (i*P.cellsOf e)) (P.cellsOf e)=some c/\∃y,Jk enc P w base (fun _=>true) held n e c=some y:=fun i hi=>by
  have:=a9 i hi;rw[IH zo]at this;obtain⟨c,hc,hy⟩:=Option.bind_eq_some_iff.1 this;exact⟨c,hc,_,hy⟩
 obtain⟨V,hV⟩:=choose_lt hx;rw[ce]at hV;have hc:∀i,i<len->∀j u,(V i)[j]? = some u->w.cell? (a.add (i*sz+j))=some u:=fun i hi j u hu=>by
  obtain⟨_,a3,a0⟩:=KB (hV i hi).1;have hj:j<sz:=by have:=(K4.1 hu).1;omega
  have:=a0 j hj;rw[Ke]at this;rw[this,hu]
 have a2:∀i,i<len->(V i).length=sz:=fun i hi=>(KB (hV i hi).1).2.1
 have a4:((Jz len).map V).length=len:=by simp
 refine⟨_,(Jz len).map V,rfl,⟨⟨some a,a',by rw[a4],zo,by simpa[maxLen]using hm,fun h=>?_⟩,fun i hi j u hu=>?_⟩,fun c a5=>?_⟩
 ·rw[a4]at h;have h0:0<(V 0).length:=by rw[a2 0 zo];exact hz
  have:=hc 0 zo 0 _ (IH h0);obtain⟨b,o,s⟩:=a;have hs:s=none:=by simpa[Jw]using KI this
  subst hs;exact⟨b,o,rfl⟩
 ·rw[a4]at hi;have h0:0<(V 0).length:=by rw[a2 0 zo];exact hz
  have h1:=hc 0 zo 0 _ (IH h0);obtain⟨b,o,s⟩:=a;have hs:s=none:=by simpa[Jw]using KI h1
  subst hs;simp only[JR,JH]at hu;have h2:=hc i hi j u hu;simp only[adr];have e1:((⟨b,o,none⟩:Lz).add (i*sz+j))=((⟨b,o+i*sz,none⟩:Lz).add j):=by
   simp only[Jw];split<;>split<;>simp_all<;>omega
  rw[e1]at h2;exact h2
 simp only[L9,List.mem_range]at a5;obtain⟨i,hi,rfl⟩:=a5;obtain⟨_,y,hy⟩:=hV i hi;exact⟨a2 i hi,n,y,a8,hy⟩
theorem Sl.free{α:Type}[Inhabited α]{f:α->List I3}{sz:Nat}{v:I3}{xs:List α}(h:Sl f sz w v xs)(hf:∀a,f a≠[]):Free (fun _=>0) w v:=fun a n c e hn=>by
 refine⟨rfl,?_⟩;obtain⟨a',c',e',_,_,_⟩:=h.shape;rw[e']at e
 cases e
 cases hq:f (nth xs 0)with
 |nil=>exact absurd hq (hf _)
 |cons u r=>
  have hc:=h.cell (i:=0) (j:=0) (u:=u) zo (by rw[hq];rfl);have:=K7 _ _ hc;subst e';have hb:((adr (.slice (some a) xs.length c) sz 0).add 0).block=a.block:=by simp only[adr,Jw];split<;>rfl
  rw[hb]at this;exact this
end
end Go.VL
namespace Go.Proofs.YtpfpmhhigheccaaGreatDoor
open Go.ChangeShapes Go.WideShapes Go.ChangeAt Go.RowKit Go.VL Go.Proofs
set_option maxRecDepth 100000
section
variable{H:Type}{enc:IE×I3→H}{w:ka}{base:Nat}{held:Bool}
theorem tG:∀(a0:Nat) (cs:List I3) (x:DataW H×List Ln),Jk enc IQ w base (fun _=>true) held a0 79 cs=some x->∃(y:N3),cs=aW y/\∃t:Nd,Nt (fun _=>0) w t y
 |0,cs,x,h=>by simp[Jk]at h
 |a0+1,cs,x,h=>by
  obtain⟨xs,m,a8,rfl,hl,a1,hf⟩:=DataW.trod_struct underlying79 h;obtain rfl:a0=m:=zo;have a6:cs.length=3:=hl.trans zk;obtain⟨c0,c1,c2,rfl⟩:∃c0 c1 c2,cs=[c0,c1,c2]:=by
   match cs,a6 with
   |[a,b,c],_=>exact⟨a,b,c,rfl⟩
  have a7:xs.length=3:=a1;have f0:Jk enc IQ w base (fun _=>true) held a0 3 [c0]=xs[0]?:=hf 0 _ rfl;have f1:Jk enc IQ w base (fun _=>true) held a0 3 [c1]=xs[1]?:=hf 1 _ rfl;have f2:Jk enc IQ w base (fun _=>true) held a0 77 [c2]=xs[2]?:=hf 2 _ rfl;rw[IH zo]at f0 f1 f2;obtain⟨n0,e0,_⟩:=Rd.int (enc:=enc) (w:=w) (base:=base) (held:=held) K6 ⟨a0,_,f0⟩;obtain⟨n1,e1,_⟩:=Rd.int (enc:=enc) (w:=w) (base:=base) (held:=held) K6 ⟨a0,_,f1⟩;obtain⟨v,ys,e2,hs,hy⟩:=RdF.slice (sz:=3) underlying77 zk zd f2;simp only[Kv,and_true]at e0 e1 e2;subst e0 e1 e2
  obtain⟨zs,rfl,hz⟩:=uq (f:=aW) (R:=fun y=>∃t:Nd,Nt (fun _=>0) w t y) ys (fun c hc=>by
   obtain⟨_,n,y,hn,a4⟩:=hy c hc
   exact tG n c y a4)
  have a2:=hs.of_map;have a5:∀i,i<zs.length->∃t:Nd,Nt (fun _=>0) w t (nth zs i):=fun i hi=>hz _ (by rw[aB hi];exact JQ hi)
  obtain⟨T,hT⟩:=Kw a5;have a3:((Jz zs.length).map T).length=zs.length:=by simp
  refine⟨(n0,n1,c2),rfl,.mk n0 n1 ((Jz zs.length).map T),.mk a2 (a2.free fun a=>by simp) a3 fun i hi=>?_⟩;rw[aB (by rw[a3];exact hi)];simp only[JR,JH];exact hT i hi
termination_by a0=>a0
theorem Dv(cs:List I3)(h:Rd enc IQ w base held 81 cs):∃x:X3,cs=cd x/\∃t:R3,Rt (fun _=>0) w t x:=by
 obtain⟨hl,hf⟩:=h.struct KE;have a0:cs.length=7:=hl.trans zk;obtain⟨c0,c1,c2,c3,c4,c5,c6,rfl⟩:∃c0 c1 c2 c3 c4 c5 c6,cs=[c0,c1,c2,c3,c4,c5,c6]:=by
  match cs,a0 with
  |[a,b,c,d,e,f,g],_=>exact⟨a,b,c,d,e,f,g,rfl⟩
 have f0:Rd enc IQ w base held 79 [c0,c1,c2]:=hf 0 _ rfl;have f1:Rd enc IQ w base held 79 [c3,c4,c5]:=hf 1 _ rfl;have f2:Rd enc IQ w base held 4 [c6]:=hf 2 _ rfl;obtain⟨n0,y0,h0⟩:=f0;obtain⟨n1,y1,h1⟩:=f1;obtain⟨x0,e0,t0,k0⟩:=tG n0 _ _ h0;obtain⟨x1,e1,t1,k1⟩:=tG n1 _ _ h1;obtain⟨b,eb⟩:=f2.bool KS;simp only[aW,Kv,and_true]at e0 e1 eb;obtain⟨rfl,rfl,rfl⟩:=e0;obtain⟨rfl,rfl,rfl⟩:=e1;subst eb;exact⟨(x0,x1,b),rfl,(t0,t1,b),k0,k1,rfl⟩
theorem Dc{v:I3}{d:DataW H}{ps:List Ln}{r:Reach}{b0:Nat}(hv:Value.okWide IQ w r b0 44 v)(h:DataW.Trod enc IQ w base (fun _=>true) held 44 v d ps):∃li lk ts,Tx w v li lk ts:=by
 obtain⟨cs,rfl,a3⟩:=okWide_struct Ls hv;obtain⟨hl,hf⟩:=(Ga h).flat Ls zk zk;have a2:cs.size=3:=by simpa[L7]using hl
 obtain⟨c0,c1,c2,rfl⟩:∃c0 c1 c2,cs = #[c0,c1,c2]:=by
  match cs,a2 with
  |⟨[c0,c1,c2]⟩,_=>exact⟨c0,c1,c2,rfl⟩
 obtain⟨_,h0,r0⟩:=hf 0 _ rfl;obtain⟨_,h1,r1⟩:=hf 1 _ rfl;obtain⟨_,h2,r2⟩:=hf 2 _ rfl
 cases h0;cases h1;cases h2
 obtain⟨v0,z0,e0,i0,_⟩:=r0.ints Lt K6 zk;obtain⟨v1,z1,e1,i1,_⟩:=r1.ints Lt K6 zk;obtain⟨v2,zs,e2,i2,hz⟩:=r2.sliceOf (f:=cd) (R:=fun x=>∃t:R3,Rt (fun _=>0) w t x) (sz:=7) KF zk zd Dv
 cases e0;cases e1;cases e2
 have a1:∀i,i<zs.length->∃t:R3,Rt (fun _=>0) w t (nth zs i):=fun i hi=>hz _ (by rw[aB hi];exact JQ hi)
 obtain⟨T,hT⟩:=Kw a1;have a0:((Jz zs.length).map T).length=zs.length:=by simp
 refine⟨z0,z1,(Jz zs.length).map T,c0,c1,c2,zs,rfl,i0,i1,i2,a0,fun i hi=>?_⟩;rw[aB (by rw[a0];exact hi)];simp only[JR,JH];exact hT i hi
end
end Go.Proofs.YtpfpmhhigheccaaGreatDoor
end
namespace Go.Proofs.YtpfpmhhigheccaaGreatDoor
def dN(n:Nat):List UInt8:=if n<128 then [IK n]else IK (128+n % 128)::dN (n / 128)
decreasing_by omega
def gM:Nat->List UInt8->Option (Nat×List UInt8)
 |_,[]=>none
 |i,c::r=>
  if(i=9/\1<c.toNat)\/(0<i/\c.toNat=0)then none
  else if c.toNat<128 then some (c.toNat,r)
  else match gM (i+1) r with
   |some (m,r')=>some (c.toNat % 128+128*m,r')
   |none=>none
theorem DF(n:Nat):dN n≠[]:=by unfold dN;split<;>simp
theorem toNat_ofNat{n:Nat}(h:n<256):(IK n).toNat=n:=by rw[UInt8.toNat_ofNat'];omega
theorem ofNat_eq{c:UInt8}{n:Nat}(h:c.toNat=n):c=IK n:=by subst h;simp
theorem zN:∀(k i n:Nat) (r:List UInt8),i+k=9->(0<i->0<n)->n<2*128^k->gM i (dN n++r)=some (n,r)
 |0,i,n,r,hi,h0,hn=>by
  have hn:n<2:=by simpa using hn
  unfold dN;rw[if_pos zo,Ji];unfold gM;rw[toNat_ofNat zo,if_neg zo,if_pos zo]
 |k+1,i,n,r,hi,h0,hn=>by
  unfold dN
  split
  ·rename_i hlt;rw[Ji];unfold gM;rw[toNat_ofNat zo,if_neg zo,if_pos hlt]
  rename_i hge;rw[List.cons_append];unfold gM;rw[toNat_ofNat zo,if_neg zo,if_neg zo]
  have ih:=zN k (i+1) (n / 128) r zo (fun _=>zo) (by
   rw[Kh]at hn;refine Nat.div_lt_of_lt_mul ?_;rw[show 128*(2*128^k)=2*(128^k*128)from by rw[Nat.mul_comm (128^k) 128,Nat.mul_left_comm]]
   exact hn)
  rw[ih];dsimp only;rw[show(128+n % 128) % 128+128*(n / 128)=n from by omega]
theorem vx:∀(k i:Nat) (l:List UInt8) (n:Nat) (r:List UInt8),i+k=9->gM i l=some (n,r)->l=dN n++r/\n<2*128^k/\(0<i->0<n)
 |_,_,[],_,_,_,h=>by cases h
 |0,i,c::l,n,r,hi,h=>by
  unfold gM at h
  split at h
  ·cases h
  rename_i hc;rw[if_pos zo]at h;have h:=IL h;obtain⟨rfl,rfl⟩:c.toNat=n/\l=r:=by simpa using h
  refine⟨?_,by rw[Nat.pow_zero];omega,fun _=>zo⟩;unfold dN;rw[if_pos zo,Ji,<-ofNat_eq rfl]
 |k+1,i,c::l,n,r,hi,h=>by
  unfold gM at h
  split at h
  ·cases h
  rename_i hc
  split at h
  ·rename_i hlt;have h:=IL h;obtain⟨rfl,rfl⟩:c.toNat=n/\l=r:=by simpa using h
   refine⟨?_,?_,fun _=>zo⟩
   ·unfold dN;rw[if_pos hlt,Ji,<-ofNat_eq rfl]
   have:128<=128^(k+1):=by rw[Kh];have:=Nat.pos_of_ne_zero (Nat.ne_of_gt (Nat.pow_pos (n:=k) (show 0<128 by decide)));omega
   omega
  rename_i hge
  cases hm:gM (i+1) l with
  |none=>rw[hm]at h;cases h
  |some x=>
   obtain⟨m,r'⟩:=x;rw[hm]at h;have h:=IL h;obtain⟨rfl,rfl⟩:c.toNat % 128+128*m=n/\r'=r:=by simpa using h
   obtain⟨e1,e2,e3⟩:=vx k (i+1) l m r' zo hm;have e3:=e3 zo;have a0:=c.toNat_lt;refine⟨?_,by rw[Kh];omega,fun _=>zo⟩;unfold dN;rw[if_neg zo,show(c.toNat % 128+128*m) / 128=m from by omega,show 128+(c.toNat % 128+128*m) % 128=c.toNat from by omega,<-ofNat_eq rfl,e1];rfl
theorem dW{l:List UInt8}{n:Nat}{r:List UInt8}:gM 0 l=some (n,r)↔l=dN n++r/\n<2^64:=by
 have e:2*128^9=2^64:=zd
 constructor
 ·intro h;obtain⟨h1,h2,_⟩:=vx 9 0 l n r rfl h;exact⟨h1,zo⟩
 rintro⟨rfl,h⟩;exact zN 9 0 n r rfl (fun h=>absurd h (Nat.lt_irrefl 0)) zo
def smR(l:List UInt8):Option (Nat×List UInt8):=match gM 0 l with
 |some (n,r)=>if 2^20<n then none else some (n,r)
 |none=>none
theorem gE{l:List UInt8}{n:Nat}{r:List UInt8}:smR l=some (n,r)↔l=dN n++r/\n<=2^20:=by
 unfold smR
 cases h:gM 0 l with
 |none=>
  constructor
  ·intro e;cases e
  rintro⟨e,hn⟩;rw[dW.2 ⟨e,zo⟩]at h;cases h
 |some x=>
  obtain⟨m,s⟩:=x;obtain⟨h1,h2⟩:=dW.1 h;dsimp only
  split
  ·rename_i hb
   constructor
   ·intro e;cases e
   rintro⟨e,hn⟩;rw[dW.2 ⟨e,zo⟩]at h;have h:=IL h;have:n=m:=(JK h).1;omega
  rename_i hb
  constructor
  ·intro e;have e:=IL e;obtain⟨rfl,rfl⟩:=JK e;exact⟨h1,zo⟩
  rintro⟨e,hn⟩;rw[dW.2 ⟨e,zo⟩]at h;exact h.symm
def eZ{α:Type}(f:List UInt8->Option (α×List UInt8)):Nat->List UInt8->Option (List α×List UInt8)
 |0,l=>some ([],l)
 |k+1,l=>match f l with
  |some (x,r)=>match eZ f k r with
   |some (xs,s)=>some (x::xs,s)
   |none=>none
  |none=>none
theorem eY{α:Type}{f:List UInt8->Option (α×List UInt8)}{g:α->List UInt8}{ok:α->Prop}(hf:∀l x r,f l=some (x,r)↔l=g x++r/\ok x):∀(k:Nat) (l:List UInt8) (xs:List α) (r:List UInt8),eZ f k l=some (xs,r)↔l=xs.flatMap g++r/\xs.length=k/\∀x∈xs,ok x
 |0,l,xs,r=>by
  unfold eZ
  constructor
  ·intro e;obtain⟨rfl,rfl⟩:=JK (IL e);exact⟨rfl,rfl,fun x hx=>by cases hx⟩
  rintro⟨e,hl,_⟩;have:=JT hl;subst this;rw[e];rfl
 |k+1,l,xs,r=>by
  unfold eZ
  constructor
  ·intro e
   cases h:f l with
   |none=>rw[h]at e;cases e
   |some x=>
    obtain⟨x,s⟩:=x;rw[h]at e;dsimp only at e
    cases h2:eZ f k s with
    |none=>rw[h2]at e;cases e
    |some y=>
     obtain⟨ys,t⟩:=y;rw[h2]at e;obtain⟨rfl,rfl⟩:=JK (IL e);obtain⟨a1,a2⟩:=(hf _ _ _).1 h;obtain⟨b1,b2,b3⟩:=(eY hf k _ _ _).1 h2;refine⟨by rw[a1,b1];simp,by simp[b2],fun z hz=>?_⟩
     rcases List.mem_cons.1 hz with rfl|hz
     ·exact a2
     exact b3 z hz
  rintro⟨e,hl,a0⟩
  cases xs with
  |nil=>simp at hl
  |cons x ys=>
   rw[(hf l x (ys.flatMap g++r)).2 ⟨by rw[e];simp,a0 x (by simp)⟩];dsimp only;rw[(eY hf k _ ys r).2 ⟨rfl,by simpa using hl,fun z hz=>a0 z (by simp[hz])⟩]
def lstR(l:List UInt8):Option (List Nat×List UInt8):=match smR l with
 |some (n,r)=>eZ smR n r
 |none=>none
def qs(xs:List Nat):List UInt8:=dN xs.length++xs.flatMap dN
def okL(xs:List Nat):Prop:=xs.length<=2^20/\∀x∈xs,x<=2^20
theorem kd{l:List UInt8}{xs:List Nat}{r:List UInt8}:lstR l=some (xs,r)↔l=qs xs++r/\okL xs:=by
 unfold lstR qs okL
 constructor
 ·intro e
  cases h:smR l with
  |none=>rw[h]at e;cases e
  |some x=>
   obtain⟨n,s⟩:=x;rw[h]at e;obtain⟨a1,a2⟩:=gE.1 h;obtain⟨b1,b2,b3⟩:=(eY (fun _ _ _=>gE) n s xs r).1 e;subst b2;exact⟨by rw[a1,b1,J0],a2,b3⟩
 rintro⟨e,h1,h2⟩;rw[gE.2 ⟨by rw[e,J0],h1⟩];exact(eY (fun _ _ _=>gE) _ _ xs r).2 ⟨rfl,rfl,h2⟩
def telR(l:List UInt8):Option (List Nat×List UInt8):=match smR l with
 |some (n,r)=>eZ (gM 0) n r
 |none=>none
def okU(xs:List Nat):Prop:=xs.length<=2^20/\∀x∈xs,x<2^64
theorem BC{l:List UInt8}{xs:List Nat}{r:List UInt8}:telR l=some (xs,r)↔l=qs xs++r/\okU xs:=by
 unfold telR qs okU
 constructor
 ·intro e
  cases h:smR l with
  |none=>rw[h]at e;cases e
  |some x=>
   obtain⟨n,s⟩:=x;rw[h]at e;obtain⟨a1,a2⟩:=gE.1 h;obtain⟨b1,b2,b3⟩:=(eY (fun _ _ _=>dW) n s xs r).1 e;subst b2;exact⟨by rw[a1,b1,J0],a2,b3⟩
 rintro⟨e,h1,h2⟩;rw[gE.2 ⟨by rw[e,J0],h1⟩];exact(eY (fun _ _ _=>dW) _ _ xs r).2 ⟨rfl,rfl,h2⟩
abbrev Lf:=Int×Int×Nat
abbrev Kt:=List Nat×List Nat×Nat
structure Gr where
 ls:List Lf
 ks:List Kt
def Gr.fr(g:Gr)(k:Nat):List Nat:=(nth g.ks k).1
def Gr.lv(g:Gr)(k:Nat):List Nat:=(nth g.ks k).2.1
def Gr.en(g:Gr)(k:Nat):Nat:=(nth g.ks k).2.2
def Gr.knot(g:Gr):Gr:=⟨g.ls,g.ks++[([],[],0)]⟩
def Gr.free(g:Gr)(a b:Nat):Gr:=⟨g.ls,g.ks.set a (g.fr a++[b],g.lv a,g.en a)⟩
def Gr.leaf(g:Gr)(k c:Int)(a b:Nat):Gr:=⟨g.ls++[(k,c,b)],g.ks.set a (g.fr a,g.lv a++[g.ls.length+1],g.en a)⟩
def cY(k c m:Int):Bool:=
 if k=0 then(decide (0<=m)&&decide (m<36))&&(m==c)else if k=1 then decide (0<=m)&&decide (m<36)else if k=2 then(decide (0<=m)&&decide (m<36))&&(m != c)else m==36
def layO(k:Int)(g:Gr)(i:Nat):Gr:=if k=8 then(if k=7 then g else g.free i (i+1))else(if k=7 then g else g.free i (i+1)).free (i+1) i
mutual
def fF:Nd->Nat->Nat->Gr->Gr
 |.mk k c l,a,b,g=>
  if k=4 then nQ l a b g
  else if k=5 then nR l a b g
  else if k=6\/k=7\/k=8 then layO k (oW l g.ks.length (g.ks.length+1) ((g.knot.knot.free a g.ks.length).free (g.ks.length+1) b)) g.ks.length
  else if k=9 then g.free a b
  else g.leaf k c a b
def nQ:List Nd->Nat->Nat->Gr->Gr
 |[],_,_,g=>g
 |t::r,a,b,g=>if r.isEmpty then fF t a b g else nQ r g.ks.length b (fF t a g.ks.length g.knot)
def nR:List Nd->Nat->Nat->Gr->Gr
 |[],_,_,g=>g
 |t::r,a,b,g=>nR r a b (fF t a b g)
def oW:List Nd->Nat->Nat->Gr->Gr
 |[],_,_,g=>g
 |t::_,a,b,g=>fF t a b g
end
inductive StarP(L:List Int->Prop):List Int->Prop
 |nil:StarP L []
 |cons {u v:List Int}:L u->StarP L v->StarP L (u++v)
mutual
/-- Which words an expression matches. -/
def Lg:Nd->List Int->Prop
 |.mk k c l=>fun w=>
  if k=4 then LgS l w
  else if k=5 then LgA l w
  else if k=6 then StarP (LgH l) w
  else if k=7 then∃u v,w=u++v/\LgH l u/\StarP (LgH l) v
  else if k=8 then w=[]\/LgH l w
  else if k=9 then w=[]
  else∃m,w=[m]/\cY k c m=true
def LgS:List Nd->List Int->Prop
 |[]=>fun w=>w=[]
 |t::r=>fun w=>∃u v,w=u++v/\Lg t u/\LgS r v
def LgA:List Nd->List Int->Prop
 |[]=>fun _=>False
 |t::r=>fun w=>Lg t w\/LgA r w
def LgH:List Nd->List Int->Prop
 |[]=>fun _=>False
 |t::_=>Lg t
end
mutual
/-- Expressions whose parts are as many as they must. -/
def gF:Nd->Bool
 |.mk k _ l=>(if k=4 then !l.isEmpty else if k=6\/k=7\/k=8 then decide (l.length=1)else true)&&dL l
def dL:List Nd->Bool
 |[]=>true
 |t::r=>gF t&&dL r
end
inductive Pt(g:Gr):Nat->List Int->Nat->Prop
 |nil (k:Nat):Pt g k [] k
 |eps {k k' q:Nat} {w:List Int}:k<g.ks.length->k'∈g.fr k->Pt g k' w q->Pt g k w q
 |leaf {k j q:Nat} {m:Int} {w:List Int}:k<g.ks.length->j<g.ls.length->j+1∈g.lv k->cY (nth g.ls j).1 (nth g.ls j).2.1 m=true->Pt g (nth g.ls j).2.2 w q->Pt g k (m::w) q
theorem Pt.trans{g:Gr}{a b c:Nat}{u v:List Int}(h:Pt g a u b)(k:Pt g b v c):Pt g a (u++v) c:=by
 induction h with
 |nil=>exact k
 |eps h1 h2 _ ih=>exact .eps h1 h2 (ih k)
 |leaf h1 h2 h3 h4 _ ih=>exact .leaf h1 h2 h3 h4 (ih k)
structure Sub(g g':Gr):Prop where
 len:g.ks.length<=g'.ks.length
 ls:∃r,g'.ls=g.ls++r
 fr:∀k j,k<g.ks.length->j∈g.fr k->j∈g'.fr k
 lv:∀k j,k<g.ks.length->j∈g.lv k->j∈g'.lv k
theorem Sub.refl(g:Gr):Sub g g:=⟨ln _,⟨[],by simp⟩,fun _ _ _ h=>h,fun _ _ _ h=>h⟩
theorem Sub.trans{a b c:Gr}(h:Sub a b)(k:Sub b c):Sub a c:=by
 obtain⟨r,hr⟩:=h.ls;obtain⟨s,hs⟩:=k.ls;exact⟨Nat.le_trans h.len k.len,⟨r++s,by rw[hs,hr,J0]⟩,fun q j hq hj=>k.fr q j (Js hq h.len) (h.fr q j hq hj),fun q j hq hj=>k.lv q j (Js hq h.len) (h.lv q j hq hj)⟩
theorem aK(g:Gr):g.knot.ks.length=g.ks.length+1:=by simp[Gr.knot]
theorem bf(g:Gr)(a b:Nat):(g.free a b).ks.length=g.ks.length:=by simp[Gr.free]
theorem iG(g:Gr)(k c:Int)(a b:Nat):(g.leaf k c a b).ks.length=g.ks.length:=by simp[Gr.leaf]
theorem qw(g:Gr)(k:Nat):nth g.knot.ks k=if k<g.ks.length then nth g.ks k else([],[],0):=by
 unfold Gr.knot;rw[aA]
 split
 ·rfl
 by_cases h:k-g.ks.length=0
 ·rw[h,ax]
 rw[ej (by simp;omega)];rfl
theorem nh(g:Gr)(k:Nat):g.knot.fr k=if k<g.ks.length then g.fr k else []:=by unfold Gr.fr;rw[qw];split<;>rfl
theorem ng(g:Gr)(k:Nat):g.knot.lv k=if k<g.ks.length then g.lv k else []:=by unfold Gr.lv;rw[qw];split<;>rfl
theorem np{g:Gr}{a b:Nat}(ha:a<g.ks.length)(k:Nat):(g.free a b).fr k=if k=a then g.fr a++[b]else g.fr k:=by
 unfold Gr.free Gr.fr;rw[aT ha];split<;>rfl
theorem nn{g:Gr}{a b:Nat}(ha:a<g.ks.length)(k:Nat):(g.free a b).lv k=g.lv k:=by
 unfold Gr.free Gr.lv;rw[aT ha];split
 ·rename_i h;rw[h]
 rfl
theorem mW{g:Gr}{x c:Int}{a b:Nat}(ha:a<g.ks.length)(k:Nat):(g.leaf x c a b).fr k=g.fr k:=by
 unfold Gr.leaf Gr.fr;rw[aT ha];split
 ·rename_i h;rw[h]
 rfl
theorem mU{g:Gr}{x c:Int}{a b:Nat}(ha:a<g.ks.length)(k:Nat):(g.leaf x c a b).lv k=if k=a then g.lv a++[g.ls.length+1]else g.lv k:=by
 unfold Gr.leaf Gr.lv;rw[aT ha];split<;>rfl
theorem mV(g:Gr)(x c:Int)(a b:Nat):(g.leaf x c a b).ls=g.ls++[(x,c,b)]:=rfl
theorem kq(g:Gr):Sub g g.knot:=⟨by rw[aK];omega,⟨[],by simp[Gr.knot]⟩,fun k j hk h=>by rw[nh,if_pos hk];exact h,fun k j hk h=>by rw[ng,if_pos hk];exact h⟩
theorem eI{g:Gr}{a b:Nat}(ha:a<g.ks.length):Sub g (g.free a b):=⟨by rw[bf];omega,⟨[],by simp[Gr.free]⟩,fun k j _ h=>by
 rw[np ha];split
 ·rename_i e;subst e;exact Kr _ h
 exact h,fun k j _ h=>by rw[nn ha];exact h⟩
theorem Cc{g:Gr}{x c:Int}{a b:Nat}(ha:a<g.ks.length):Sub g (g.leaf x c a b):=⟨by rw[iG];omega,⟨_,rfl⟩,fun k j _ h=>by rw[mW ha];exact h,fun k j _ h=>by
 rw[mU ha];split
 ·rename_i e;subst e;exact Kr _ h
 exact h⟩
structure WF(g:Gr):Prop where
 fr:∀k j,k<g.ks.length->j∈g.fr k->j<g.ks.length
 lv:∀k j,k<g.ks.length->j∈g.lv k->1<=j/\j<=g.ls.length
 ls:∀j,j<g.ls.length->(nth g.ls j).2.2<g.ks.length
theorem WF.knot{g:Gr}(h:WF g):WF g.knot:=by
 have hl:=aK g;refine⟨fun k j hk hj=>?_,fun k j hk hj=>?_,fun j hj=>?_⟩
 ·rw[nh]at hj
  split at hj
  ·rename_i e;have:=h.fr k j e hj;omega
  simp at hj
 ·rw[ng]at hj
  split at hj
  ·rename_i e;exact h.lv k j e hj
  simp at hj
 have:=h.ls j hj;show(nth g.ls j).2.2<_;omega
theorem WF.free{g:Gr}(h:WF g){a b:Nat}(ha:a<g.ks.length)(hb:b<g.ks.length):WF (g.free a b):=by
 have hl:=bf g a b;refine⟨fun k j hk hj=>?_,fun k j hk hj=>?_,fun j hj=>?_⟩
 ·rw[hl]at hk ⊢;rw[np ha]at hj
  split at hj
  ·rcases JB.1 hj with hj|hj
   ·exact h.fr a j ha hj
   rw[I9.1 hj];exact hb
  exact h.fr k j hk hj
 ·rw[hl]at hk;rw[nn ha]at hj;exact h.lv k j hk hj
 rw[hl];exact h.ls j hj
theorem WF.leaf{g:Gr}(h:WF g){x c:Int}{a b:Nat}(ha:a<g.ks.length)(hb:b<g.ks.length):WF (g.leaf x c a b):=by
 have hl:=iG g x c a b;have h2:(g.leaf x c a b).ls.length=g.ls.length+1:=by simp[Gr.leaf]
 refine⟨fun k j hk hj=>?_,fun k j hk hj=>?_,fun j hj=>?_⟩
 ·rw[hl]at hk ⊢;rw[mW ha]at hj;exact h.fr k j hk hj
 ·rw[hl]at hk;rw[h2];rw[mU ha]at hj
  split at hj
  ·rcases JB.1 hj with hj|hj
   ·have:=h.lv a j ha hj;omega
   rw[I9.1 hj];omega
  have:=h.lv k j hk hj;omega
 rw[hl,mV,aA]
 split
 ·rename_i e;exact h.ls j e
 rw[h2]at hj;rw[show j-g.ls.length=0 from by omega,ax];exact hb
theorem DS{k:Int}{g:Gr}{i:Nat}(h:WF g)(hi:i+1<g.ks.length):WF (layO k g i):=by
 unfold layO;split<;>split
 ·exact h
 ·exact h.free zo hi
 ·exact h.free hi zo
 exact(h.free zo hi).free (by rw[bf];exact hi) (by rw[bf];omega)
theorem Cf{k:Int}{g:Gr}{i:Nat}(hi:i+1<g.ks.length):Sub g (layO k g i):=by
 unfold layO;split<;>split
 ·exact Sub.refl _
 ·exact eI zo
 ·exact eI hi
 exact(eI zo).trans (eI (by rw[bf];exact hi))
def bT(g:Gr)(a b:Nat):Gr:=(g.knot.knot.free a g.ks.length).free (g.ks.length+1) b
theorem ec(g:Gr)(a b:Nat):(bT g a b).ks.length=g.ks.length+2:=by unfold bT;rw[bf,bf,aK,aK]
theorem eW{g:Gr}(h:WF g){a b:Nat}(ha:a<g.ks.length)(hb:b<g.ks.length):WF (bT g a b):=by
 have h2:g.knot.knot.ks.length=g.ks.length+2:=by rw[aK,aK]
 exact(h.knot.knot.free zo zo).free (by rw[bf];omega) (by rw[bf];omega)
theorem xA{g:Gr}{a b:Nat}(ha:a<g.ks.length):Sub g (bT g a b):=by
 have h2:g.knot.knot.ks.length=g.ks.length+2:=by rw[aK,aK]
 exact(((kq g).trans (kq _)).trans (eI zo)).trans (eI (by rw[bf];omega))
mutual
theorem cD:∀(t:Nd) (a b:Nat) (g:Gr),WF g->a<g.ks.length->b<g.ks.length->WF (fF t a b g)/\Sub g (fF t a b g)
 |.mk k c l,a,b,g,h,ha,hb=>by
  unfold fF
  split
  ·exact Ai l a b g h ha hb
  split
  ·exact An l a b g h ha hb
  split
  ·have hl:=ec g a b
   obtain⟨h1,h2⟩:=mZ l g.ks.length (g.ks.length+1) (bT g a b) (eW h ha hb) zo zo
   have:=h2.len
   show WF (layO k (oW l g.ks.length (g.ks.length+1) (bT g a b)) g.ks.length)/\Sub g (layO k (oW l g.ks.length (g.ks.length+1) (bT g a b)) g.ks.length)
   exact⟨DS h1 zo,((xA ha).trans h2).trans (Cf zo)⟩
  split
  ·exact⟨h.free ha hb,eI ha⟩
  exact⟨h.leaf ha hb,Cc ha⟩
theorem Ai:∀(l:List Nd) (a b:Nat) (g:Gr),WF g->a<g.ks.length->b<g.ks.length->WF (nQ l a b g)/\Sub g (nQ l a b g)
 |[],_,_,g,h,_,_=>⟨h,Sub.refl g⟩
 |t::r,a,b,g,h,ha,hb=>by
  unfold nQ
  split
  ·exact cD t a b g h ha hb
  have hl:=aK g
  obtain⟨h1,h2⟩:=cD t a g.ks.length g.knot h.knot zo zo
  have:=h2.len
  obtain⟨h3,h4⟩:=Ai r g.ks.length b _ h1 zo zo
  exact⟨h3,((kq g).trans h2).trans h4⟩
theorem An:∀(l:List Nd) (a b:Nat) (g:Gr),WF g->a<g.ks.length->b<g.ks.length->WF (nR l a b g)/\Sub g (nR l a b g)
 |[],_,_,g,h,_,_=>⟨h,Sub.refl g⟩
 |t::r,a,b,g,h,ha,hb=>by
  unfold nR
  obtain⟨h1,h2⟩:=cD t a b g h ha hb
  have:=h2.len
  obtain⟨h3,h4⟩:=An r a b _ h1 zo zo
  exact⟨h3,h2.trans h4⟩
theorem mZ:∀(l:List Nd) (a b:Nat) (g:Gr),WF g->a<g.ks.length->b<g.ks.length->WF (oW l a b g)/\Sub g (oW l a b g)
 |[],_,_,g,h,_,_=>⟨h,Sub.refl g⟩
 |t::_,a,b,g,h,ha,hb=>by
  unfold oW
  exact cD t a b g h ha hb
end
structure Lbl(g:Gr)(R:Nat->List Int->Prop):Prop where
 fr:∀k j,k<g.ks.length->j∈g.fr k->∀w,R j w->R k w
 lv:∀k j,k<g.ks.length->j<g.ls.length->j+1∈g.lv k->∀m w,cY (nth g.ls j).1 (nth g.ls j).2.1 m=true->R (nth g.ls j).2.2 w->R k (m::w)
theorem Lbl.agree{g:Gr}{R R':Nat->List Int->Prop}(h:Lbl g R)(hw:WF g)(e:∀k,k<g.ks.length->R' k=R k):Lbl g R':=
 ⟨fun k j hk hj w=>by rw[e k hk,e j (hw.fr k j hk hj)];exact h.fr k j hk hj w,fun k j hk hj hl m w=>by rw[e k hk,e _ (hw.ls j hj)];exact h.lv k j hk hj hl m w⟩
theorem Lbl.knot{g:Gr}{R:Nat->List Int->Prop}(h:Lbl g R):Lbl g.knot R:=by
 refine⟨fun k j hk hj w=>?_,fun k j hk hj hl m w=>?_⟩
 ·rw[nh]at hj
  split at hj
  ·rename_i e;exact h.fr k j e hj w
  simp at hj
 rw[ng]at hl
 split at hl
 ·rename_i e;exact h.lv k j e hj hl m w
 simp at hl
theorem Lbl.free{g:Gr}{R:Nat->List Int->Prop}(h:Lbl g R){a b:Nat}(ha:a<g.ks.length)(a0:∀w,R b w->R a w):Lbl (g.free a b) R:=by
 refine⟨fun k j hk hj w=>?_,fun k j hk hj hl m w=>?_⟩
 ·rw[bf]at hk;rw[np ha]at hj
  split at hj
  ·rename_i e;subst e
   rcases JB.1 hj with hj|hj
   ·exact h.fr k j ha hj w
   rw[I9.1 hj];exact a0 w
  exact h.fr k j hk hj w
 rw[bf]at hk;rw[nn ha]at hl;exact h.lv k j hk hj hl m w
theorem Lbl.leaf{g:Gr}{R:Nat->List Int->Prop}(h:Lbl g R)(hw:WF g){x c:Int}{a b:Nat}(ha:a<g.ks.length)(a1:∀m w,cY x c m=true->R b w->R a (m::w)):Lbl (g.leaf x c a b) R:=by
 refine⟨fun k j hk hj w=>?_,fun k j hk hj hl m w=>?_⟩
 ·rw[iG]at hk;rw[mW ha]at hj;exact h.fr k j hk hj w
 rw[iG]at hk;rw[mU ha]at hl;rw[mV,Jd]at hj;simp only[IF,KV]at hj;rw[mV,aA]
 by_cases a0:j<g.ls.length
 ·rw[if_pos a0];refine h.lv k j hk a0 ?_ m w
  split at hl
  ·rename_i e;subst e
   rcases JB.1 hl with hl|hl
   ·exact hl
   have:=I9.1 hl;omega
  exact hl
 rw[if_neg a0,show j-g.ls.length=0 from by omega,ax]
 split at hl
 ·rename_i e;subst e;exact a1 m w
 have:=hw.lv k (j+1) hk hl;omega
def tu(R:Nat->List Int->Prop)(i:Nat)(X:List Int->Prop):Nat->List Int->Prop:=fun k=>if k=i then X else R k
theorem mE(R:Nat->List Int->Prop)(i:Nat)(X:List Int->Prop):tu R i X i=X:=if_pos rfl
theorem ee{R:Nat->List Int->Prop}{i k:Nat}{X:List Int->Prop}(h:k≠i):tu R i X k=R k:=if_neg h
def Cat(L M:List Int->Prop):List Int->Prop:=fun w=>∃u v,w=u++v/\L u/\M v
def ue(k:Int)(L:List Int->Prop):List Int->Prop:=if k=8 then fun w=>w=[]else StarP L
def inL(k:Int)(L:List Int->Prop):List Int->Prop:=if k=6 then StarP L else if k=7 then Cat L (StarP L)else fun w=>w=[]\/L w
theorem BV(k:Int)(L:List Int->Prop):ue k L []:=by unfold ue;split;rfl;exact .nil
theorem FW{k:Int}(hk:k=6\/k=7\/k=8){L:List Int->Prop}{u v:List Int}(hu:L u)(hv:ue k L v):inL k L (u++v):=by
 unfold ue at hv;unfold inL
 rcases hk with rfl|rfl|rfl
 ·rw[if_neg zd]at hv;rw[if_pos rfl];exact .cons hu hv
 ·rw[if_neg zd]at hv;rw[if_neg zd,if_pos rfl];exact⟨u,v,rfl,hu,hv⟩
 rw[if_pos rfl]at hv;subst hv;rw[if_neg zd,if_neg zd,JU];exact .inr hu
theorem DU{k:Int}(hk:k=6\/k=7\/k=8)(h7:k≠7){L:List Int->Prop}{v:List Int}(hv:ue k L v):inL k L v:=by
 unfold ue at hv;unfold inL
 rcases hk with rfl|rfl|rfl
 ·rw[if_neg zd]at hv;rw[if_pos rfl];exact hv
 ·exact absurd rfl h7
 rw[if_pos rfl]at hv;rw[if_neg zd,if_neg zd];exact .inl hv
theorem BU{k:Int}(hk:k=6\/k=7\/k=8)(h8:k≠8){L:List Int->Prop}{v:List Int}(hv:inL k L v):ue k L v:=by
 unfold inL at hv;unfold ue;rw[if_neg h8]
 rcases hk with rfl|rfl|rfl
 ·rw[if_pos rfl]at hv;exact hv
 ·rw[if_neg zd,if_pos rfl]at hv;obtain⟨u,v,rfl,hu,hv⟩:=hv;exact .cons hu hv
 exact absurd rfl h8
theorem CG{k c:Int}{l:List Nd}(hk:k=6\/k=7\/k=8):Lg (.mk k c l)=inL k (LgH l):=by
 unfold Lg inL;funext w
 rcases hk with rfl|rfl|rfl
 ·rw[if_neg zd,if_neg zd,if_pos rfl,if_pos rfl]
 ·rw[if_neg zd,if_neg zd,if_neg zd,if_pos rfl,if_neg zd,if_pos rfl];rfl
 rw[if_neg zd,if_neg zd,if_neg zd,if_neg zd,if_pos rfl,if_neg zd,if_neg zd]
theorem Cg{k:Int}{g:Gr}{R:Nat->List Int->Prop}{i:Nat}(h:Lbl g R)(hi:i+1<g.ks.length)(h7:k≠7->∀w,R (i+1) w->R i w)(h8:k≠8->∀w,R i w->R (i+1) w):Lbl (layO k g i) R:=by
 unfold layO
 split
 ·split
  ·exact h
  rename_i q;exact h.free zo (h7 q)
 rename_i q8
 split
 ·exact h.free hi (h8 q8)
 rename_i q;exact(h.free zo (h7 q)).free (by rw[bf];exact hi) (h8 q8)
mutual
theorem kj:∀(t:Nd) (a b:Nat) (g:Gr) (R:Nat->List Int->Prop),WF g->a<g.ks.length->b<g.ks.length->Lbl g R->(∀u v,Lg t u->R b v->R a (u++v))->
  ∃R',(∀k,k<g.ks.length->R' k=R k)/\Lbl (fF t a b g) R'
 |.mk k c l,a,b,g,R,h,ha,hb,hL,hab=>by
  unfold fF
  by_cases h4:k=4
  ·rw[if_pos h4]
   refine oV l a b g R h ha hb hL fun u v hu hv=>hab u v ?_ hv
   unfold Lg;rw[if_pos h4];exact hu
  rw[if_neg h4]
  by_cases h5:k=5
  ·rw[if_pos h5]
   refine oX l a b g R h ha hb hL fun u v hu hv=>hab u v ?_ hv
   unfold Lg;rw[if_neg h4,if_pos h5];exact hu
  rw[if_neg h5]
  by_cases h678:k=6\/k=7\/k=8
  ·rw[if_pos h678]
   have hab':∀u v,inL k (LgH l) u->R b v->R a (u++v):=fun u v hu hv=>hab u v (by rw[CG h678];exact hu) hv
   have hl:=ec g a b
   have hwf:=eW h ha hb
   obtain⟨h1,h2⟩:=mZ l g.ks.length (g.ks.length+1) (bT g a b) hwf zo zo
   have hlen:=h2.len
   show∃R',(∀q,q<g.ks.length->R' q=R q)/\Lbl (layO k (oW l g.ks.length (g.ks.length+1) (bT g a b)) g.ks.length) R'
   have hR1:Lbl (bT g a b) (tu (tu R g.ks.length (Cat (inL k (LgH l)) (R b))) (g.ks.length+1) (Cat (ue k (LgH l)) (R b))):=by
    have hk2:g.knot.knot.ks.length=g.ks.length+2:=by rw[aK,aK]
    have hg:=(hL.agree (R':=tu (tu R g.ks.length (Cat (inL k (LgH l)) (R b))) (g.ks.length+1) (Cat (ue k (LgH l)) (R b))) h fun q hq=>by rw[ee zo,ee zo]).knot.knot
    refine(hg.free zo ?_).free (by rw[bf];omega) ?_
    ·intro w hw
     rw[ee zo,mE]at hw
     rw[ee zo,ee zo]
     obtain⟨u,v,rfl,hu,hv⟩:=hw
     exact hab' u v hu hv
    intro w hw
    rw[ee zo,ee zo]at hw
    rw[mE]
    exact⟨[],w,rfl,BV _ _,hw⟩
   have hi1:(tu (tu R g.ks.length (Cat (inL k (LgH l)) (R b))) (g.ks.length+1) (Cat (ue k (LgH l)) (R b))) g.ks.length=Cat (inL k (LgH l)) (R b):=by rw[ee zo,mE]
   have ho1:(tu (tu R g.ks.length (Cat (inL k (LgH l)) (R b))) (g.ks.length+1) (Cat (ue k (LgH l)) (R b))) (g.ks.length+1)=Cat (ue k (LgH l)) (R b):=mE _ _ _
   have hold:∀q,q<g.ks.length->(tu (tu R g.ks.length (Cat (inL k (LgH l)) (R b))) (g.ks.length+1) (Cat (ue k (LgH l)) (R b))) q=R q:=fun q hq=>by rw[ee zo,ee zo]
   generalize tu (tu R g.ks.length (Cat (inL k (LgH l)) (R b))) (g.ks.length+1) (Cat (ue k (LgH l)) (R b))=R1 at *
   obtain⟨R2,e2,hR2⟩:=xH l g.ks.length (g.ks.length+1) (bT g a b) R1 hwf zo zo hR1 (fun u v hu hv=>by
    rw[ho1]at hv
    rw[hi1]
    obtain⟨v1,v2,rfl,hv1,hv2⟩:=hv
    exact⟨u++v1,v2,by rw[J0],FW h678 hu hv1,hv2⟩)
   refine⟨R2,fun q hq=>by rw[e2 q zo,hold q hq],Cg hR2 zo ?_ ?_⟩
   ·intro h7 w
    rw[e2 _ zo,e2 _ zo,hi1,ho1]
    rintro⟨u,v,rfl,hu,hv⟩
    exact⟨u,v,rfl,DU h678 h7 hu,hv⟩
   intro h8 w
   rw[e2 _ zo,e2 _ zo,hi1,ho1]
   rintro⟨u,v,rfl,hu,hv⟩
   exact⟨u,v,rfl,BU h678 h8 hu,hv⟩
  rw[if_neg h678]
  have hg:Lg (.mk k c l)=fun w=>if k=9 then w=[]else∃m,w=[m]/\cY k c m=true:=by
   unfold Lg;funext w;rw[if_neg h4,if_neg h5,if_neg zo,if_neg zo,if_neg zo]
  rw[hg]at hab
  by_cases h9:k=9
  ·rw[if_pos h9]
   exact⟨R,fun _ _=>rfl,hL.free ha fun w hw=>hab [] w (by show(if k=9 then _ else _);rw[if_pos h9]) hw⟩
  rw[if_neg h9]
  exact⟨R,fun _ _=>rfl,hL.leaf h ha fun m w hm hw=>hab [m] w (by show(if k=9 then _ else _);rw[if_neg h9];exact⟨m,rfl,hm⟩) hw⟩
theorem oV:∀(l:List Nd) (a b:Nat) (g:Gr) (R:Nat->List Int->Prop),WF g->a<g.ks.length->b<g.ks.length->Lbl g R->(∀u v,LgS l u->R b v->R a (u++v))->
  ∃R',(∀k,k<g.ks.length->R' k=R k)/\Lbl (nQ l a b g) R'
 |[],_,_,_,R,_,_,_,hL,_=>⟨R,fun _ _=>rfl,hL⟩
 |t::r,a,b,g,R,h,ha,hb,hL,hab=>by
  unfold LgS at hab
  unfold nQ
  split
  ·rename_i hr
   obtain rfl:r=[]:=by simpa using hr
   exact kj t a b g R h ha hb hL fun u v hu hv=>hab u v ⟨u,[],by simp,hu,by unfold LgS;rfl⟩ hv
  have hl:=aK g
  have hold:∀q,q<g.ks.length->tu R g.ks.length (Cat (LgS r) (R b)) q=R q:=fun q hq=>ee zo
  have hmid:=mE R g.ks.length (Cat (LgS r) (R b))
  have hR1:=(hL.agree h hold).knot
  generalize tu R g.ks.length (Cat (LgS r) (R b))=R1 at *
  obtain⟨R2,e2,hR2⟩:=kj t a g.ks.length g.knot R1 h.knot zo zo hR1 (fun u v hu hv=>by
   rw[hmid]at hv
   rw[hold a ha]
   obtain⟨v1,v2,rfl,hv1,hv2⟩:=hv
   rw[<-J0]
   exact hab (u++v1) v2 ⟨u,v1,rfl,hu,hv1⟩ hv2)
  obtain⟨h1,h2⟩:=cD t a g.ks.length g.knot h.knot zo zo
  have hlen:=h2.len
  obtain⟨R3,e3,hR3⟩:=oV r g.ks.length b _ R2 h1 zo zo hR2 (fun u v hu hv=>by
   rw[e2 b zo,hold b hb]at hv
   rw[e2 _ zo,hmid]
   exact⟨u,v,rfl,hu,hv⟩)
  exact⟨R3,fun q hq=>by rw[e3 q zo,e2 q zo,hold q hq],hR3⟩
theorem oX:∀(l:List Nd) (a b:Nat) (g:Gr) (R:Nat->List Int->Prop),WF g->a<g.ks.length->b<g.ks.length->Lbl g R->(∀u v,LgA l u->R b v->R a (u++v))->
  ∃R',(∀k,k<g.ks.length->R' k=R k)/\Lbl (nR l a b g) R'
 |[],_,_,_,R,_,_,_,hL,_=>⟨R,fun _ _=>rfl,hL⟩
 |t::r,a,b,g,R,h,ha,hb,hL,hab=>by
  unfold LgA at hab
  unfold nR
  obtain⟨R2,e2,hR2⟩:=kj t a b g R h ha hb hL fun u v hu hv=>hab u v (.inl hu) hv
  obtain⟨h1,h2⟩:=cD t a b g h ha hb
  have hlen:=h2.len
  obtain⟨R3,e3,hR3⟩:=oX r a b _ R2 h1 zo zo hR2 fun u v hu hv=>by
   rw[e2 b hb]at hv
   rw[e2 a ha]
   exact hab u v (.inr hu) hv
  exact⟨R3,fun q hq=>by rw[e3 q zo,e2 q hq],hR3⟩
theorem xH:∀(l:List Nd) (a b:Nat) (g:Gr) (R:Nat->List Int->Prop),WF g->a<g.ks.length->b<g.ks.length->Lbl g R->(∀u v,LgH l u->R b v->R a (u++v))->
  ∃R',(∀k,k<g.ks.length->R' k=R k)/\Lbl (oW l a b g) R'
 |[],_,_,_,R,_,_,_,hL,_=>⟨R,fun _ _=>rfl,hL⟩
 |t::_,a,b,g,R,h,ha,hb,hL,hab=>by
  unfold LgH at hab
  unfold oW
  exact kj t a b g R h ha hb hL hab
end
theorem qx(g:Gr)(k:Nat):g.knot.en k=if k<g.ks.length then g.en k else 0:=by unfold Gr.en;rw[qw];split<;>rfl
theorem uD{g:Gr}{a b:Nat}(ha:a<g.ks.length)(k:Nat):(g.free a b).en k=g.en k:=by
 unfold Gr.free Gr.en;rw[aT ha];split
 ·rename_i h;rw[h]
 rfl
theorem Ag{g:Gr}{x c:Int}{a b:Nat}(ha:a<g.ks.length)(k:Nat):(g.leaf x c a b).en k=g.en k:=by
 unfold Gr.leaf Gr.en;rw[aT ha];split
 ·rename_i h;rw[h]
 rfl
def SameEn(g g':Gr):Prop:=∀k,g'.en k=if k<g.ks.length then g.en k else 0
theorem F3{g:Gr}{k:Nat}(h:g.ks.length<=k):g.en k=0:=by unfold Gr.en;rw[ej h];rfl
theorem SameEn.refl(g:Gr):SameEn g g:=fun k=>by
 split
 ·rfl
 exact F3 zo
theorem SameEn.trans{a b c:Gr}(h:SameEn a b)(k:SameEn b c)(hl:a.ks.length<=b.ks.length):SameEn a c:=fun q=>by
 rw[k q]
 by_cases h1:q<a.ks.length
 ·rw[if_pos h1,if_pos zo,h q,if_pos h1]
 rw[if_neg h1]
 split
 ·rw[h q,if_neg h1]
 rfl
theorem nf(g:Gr):SameEn g g.knot:=qx g
theorem et{g:Gr}{a b:Nat}(ha:a<g.ks.length):SameEn g (g.free a b):=fun k=>by
 rw[uD ha];exact SameEn.refl g k
theorem Af{g:Gr}{x c:Int}{a b:Nat}(ha:a<g.ks.length):SameEn g (g.leaf x c a b):=fun k=>by
 rw[Ag ha];exact SameEn.refl g k
theorem Al{k:Int}{g:Gr}{i:Nat}(hi:i+1<g.ks.length):SameEn g (layO k g i):=by
 unfold layO;split<;>split
 ·exact SameEn.refl _
 ·exact et zo
 ·exact et hi
 exact(et zo).trans (et (by rw[bf];exact hi)) (by rw[bf];omega)
theorem uf{g:Gr}{a b:Nat}(ha:a<g.ks.length):SameEn g (bT g a b):=by
 have h2:g.knot.knot.ks.length=g.ks.length+2:=by rw[aK,aK]
 unfold bT;exact(((nf g).trans (nf _) (by rw[aK];omega)).trans (et zo) zo).trans (et (by rw[bf];omega)) (by rw[bf];omega)
mutual
theorem gU:∀(t:Nd) (a b:Nat) (g:Gr),WF g->a<g.ks.length->b<g.ks.length->SameEn g (fF t a b g)
 |.mk k c l,a,b,g,h,ha,hb=>by
  unfold fF
  split
  ·exact sF l a b g h ha hb
  split
  ·exact sG l a b g h ha hb
  split
  ·have hl:=ec g a b
   have hwf:=eW h ha hb
   obtain⟨h1,h2⟩:=mZ l g.ks.length (g.ks.length+1) (bT g a b) hwf zo zo
   have:=h2.len
   exact((uf ha).trans (Am l _ _ _ hwf zo zo) zo).trans (Al zo) (by show g.ks.length<=(oW l g.ks.length (g.ks.length+1) (bT g a b)).ks.length;omega)
  split
  ·exact et ha
  exact Af ha
theorem sF:∀(l:List Nd) (a b:Nat) (g:Gr),WF g->a<g.ks.length->b<g.ks.length->SameEn g (nQ l a b g)
 |[],_,_,g,_,_,_=>SameEn.refl g
 |t::r,a,b,g,h,ha,hb=>by
  unfold nQ
  split
  ·exact gU t a b g h ha hb
  have hl:=aK g
  obtain⟨h1,h2⟩:=cD t a g.ks.length g.knot h.knot zo zo
  have:=h2.len
  exact((nf g).trans (gU t _ _ _ h.knot zo zo) zo).trans (sF r _ _ _ h1 zo zo) zo
theorem sG:∀(l:List Nd) (a b:Nat) (g:Gr),WF g->a<g.ks.length->b<g.ks.length->SameEn g (nR l a b g)
 |[],_,_,g,_,_,_=>SameEn.refl g
 |t::r,a,b,g,h,ha,hb=>by
  unfold nR
  obtain⟨h1,h2⟩:=cD t a b g h ha hb
  have:=h2.len
  exact(gU t a b g h ha hb).trans (sG r _ _ _ h1 zo zo) zo
theorem Am:∀(l:List Nd) (a b:Nat) (g:Gr),WF g->a<g.ks.length->b<g.ks.length->SameEn g (oW l a b g)
 |[],_,_,g,_,_,_=>SameEn.refl g
 |t::_,a,b,g,h,ha,hb=>by
  unfold oW
  exact gU t a b g h ha hb
end
end Go.Proofs.YtpfpmhhigheccaaGreatDoor
