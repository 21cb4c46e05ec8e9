/- Texts that the proof of this statement needs, merged and shortened. -/
import Derived.Test.YtlehnbkknlpkbaaGreatDoorQTableRuns1
open Go.Proofs.Tryz renaming sizeOf83->ix,underlying9->Gb,isAgg83->Gc,zeroValue83->Gv,prog->J9,sizeOf3->JI,sizeOf85->K8,sizeOf39->K9,zeroValue85->KC,underlying3->KD,isAgg85->KH,call179->KI,sizeOf47->KM,underlying49->L7,underlying23->L8,call180->L9,underlying4->Ln,call99->Lw,call193->Lz,call168->LB,call156->LC,call100->LD,sizeOf243->LK,underlying168->LY,underlying78->M0,underlying39->M1,underlying25->M4,underlying22->M5,underlying21->M6,isAgg47->M7,call165->M8,call91->Mf,call30->Mg
open Go renaming World->ka,Value->Gh,TypeId->J1,Program->Kc,Operand->KK,Oper->Ld,Exit->LQ,MemPlace->LX,Edge->M9,Code->Ma,Addr->Mb,Act->Mp
open Nat renaming le_refl->la,zero_le->Jp,le_succ->Jy,lt_succ_iff_lt_or_eq->Jz,lt_of_lt_of_le->JD,le_of_eq->JE,not_lt_zero->JT,blt->JZ,add_comm->KO,mod_lt->Le,min_eq_left->Ls
open Go.VL.Upd renaming setRow->ln,set->J7,putObj->JR,alloc->KJ,drew->L1,ofDrew->Lc,refl->Lx
open Go.VL.Ret renaming enter->Gi
open Go.World renaming setRow->GT,setCell->J6,drew->Jr,putObj_heap_other->JA,putObj_heap_same->JM,block_lt_of_cell?->KE,alloc_heap_new->KN,cells?_some->L4,size_alloc->La,cell?_spot->Lb
open Go.VL.BlkO renaming upd->GY,setRow->GZ,tag->J0,drew->Ji,rAt->Ki,fgt->LZ
open Bool renaming and_eq_true->I4,or_eq_true->Ku,eq_iff_iff->Kv,and_eq_false_iff->KR
open List renaming mem_singleton->IJ,length_cons->J2,getElem?_eq_getElem->J3,all_cons->J4,getElem_append_left->Jn,findIdx?_eq_some_iff_getElem->Jt,findIdx?_eq_none_iff->Ju,all_nil->JB,getElem_append_right->JF,length_reverse->JG,length_append->JK,length_singleton->JP,getElem_of_mem->JU,dropWhile_cons_of_neg->JX,drop_eq_getElem_cons->JY,range->K4,drop_of_length_le->K5,mem_append->K6,append_nil->K7,getElem_range->Ke,append_assoc->Kh,takeWhile_append_dropWhile->Kj,suffix_cons->Km,getElem_mem->Ko,getElem_map->Kp,takeWhile_cons_of_neg->Ky,dropWhile_cons_of_pos->Kz,getElem?_eq_some_iff->KB,take_append_drop->KP,dropWhile_suffix->KQ,mem_append_left->KW,getElem_toArray->KX,getElem_take->Lh,map_toArray->Lk,length_take->Ll,all_eq_true->Lm,length_nil->Lq,find?_cons->Lr,take_take->Lt,take_drop->Lu,map_cons->Ly,mem_map->LH,map_nil->LJ
open Go.VL renaming Upd->J5,BlkO->Js,Ext->JW,Ret->Ka,Rng->KG,RowT->L2
open Go.VL.WH renaming one->J8,done->JN
open Go.Result renaming andThen_ok->Jo
open Go.VL.Ext renaming refl->Jq
open UInt8 renaming ofNat->Jv
open Go.VL.WI renaming region->Jw,seq->JL,skip->KA,block->L5,ret->Li
open Go.Sem renaming run_bind->JC,run_pure->LL,run->LN
open Go.VL.WS renaming nil->JH,go->LW,call->Mh
open Go.Utf8 renaming valid->JJ,decode->Kb,encode->KT
open Go.VL.WC renaming still->JO,tail->Lo
open Go.DataW renaming trod->JQ
open Go.VL.QF renaming dn->JS
open Classical renaming byContradiction->JV
open Go.VL.Fit renaming i64->K0
open Go.Addr renaming add->K1,add_add->KL
open Go.Fence renaming wide->K2
open Option.some renaming inj->Kd
open Go.Proofs.YtlehnbkknlpkbaaGreatDoor renaming oneM->Kf,Reads->L6,PostE->Lp,Known->Mc,KnownM->Mn
open Go.VL.RV renaming add->Kg,indexAddr->Kk,fieldAddr->Kl,build->LG,move->LU,load->Ml
open Go.Ending.returned renaming inj->Kq
open Int renaming le_refl->Kr
open Go.Value renaming oneCell'->Kw,bool->L0,cells->LF
open Go.Instr renaming next->Kx,storeAt->Lv
open Go.VL.RowT renaming drew->KF,upd->KU
open Go.VL.WL renaming val->KS,push->Mj
open Go.Proofs.YtlehnbkknlpkbaaGreatDoor.Nt renaming leaf->KV
open List.cons renaming injEq->KY
open Go.Deep renaming choose_lt->KZ
open Go.VL.Rng renaming drew->L3,upd->Lj
open Go.VL.Leave renaming mark->LO
open Go.Exit renaming noGoto->LP
open Go.Proofs.YtlehnbkknlpkbaaGreatDoor.Nd renaming kids->LV,kind->Mm
open Go.Deferred renaming ofValue->Md
open Go.Act renaming put->Me
open Go.VL.WQ renaming call->Mi
open Go.RoundIn renaming mono->Mk
open Go.CallsIn renaming mono->Mo
set_option maxRecDepth 10000
open Go.VL Go.Proofs Go.Proofs.Tryz
namespace Go.VL
section
open Go.RowKit
section
variable{P:Kc}{N:Nat}{ro:Option Nat}{ds:List Deferred}{Q:LQ→Mp→ka→Prop}{st:St}{w:ka}
theorem Ab{ops:Array Ld}{a1:List Ld}{t:J1}{p:String}{e:Array M9}{d:Nat}{x y z:KK}{a3:Array J1}{l:Nat}{u u2:Gh}{R:Ending->ka->Prop} 
  (hx:ev st x=some (.func (.yield l) #[] #[])) (hy:ev st y=some u) (hz:ev st z=some u2) (hc:YieldAt K2 0 P l #[u,u2] w R) (hd:JZ d N=true)
  (hR:∀e w',R e w'->∃v,e=.returned v)
  (h:∀v w',R (.returned v) w'->WLI none P N ds ops Q a1 ((d,v)::st) w'):WLI none P N ds ops Q (⟨some d,.call ⟨.value x,#[y,z],a3⟩,t,p,e,none⟩::a1) st w:=by
 intro a ha;unfold wpListIn;rw[if_pos (cd rfl _)];refine⟨fun _ _=>trivial,?_⟩;obtain⟨fn,a0,assign,body,a4,hr⟩:=hc;have a2:(Oper.semAt (Fr none).round ({ a with defers:=ds }:Mp).eval ⟨some d,.call ⟨.value x,#[y,z],a3⟩,t,p,e,none⟩).run P w=.ok (.round l fn a0 assign body) w:=by
  rw[jP];rw[show(Fr none).round=none from rfl,Oper.semAt_none];simp only[execOp,resolve,Lk,Ly,LJ,ha.ev hx,ha.ev hy,ha.ev hz];simp[Md,invoke,a4]
 rw[a2];refine⟨fun hh=>by simp[K2]at hh,?_⟩;refine Mk (hr:RoundIn K2 _ P l fn a0 assign body w _) ?_;intro e' w' q;obtain⟨v,rfl⟩:=hR _ _ q;have:=h v w' q _ (ha.put hd v);simpa[Me]using this
end
def Ij{α:Type}(P:Kc)(gf:Nat)(lb:List Gh)(ex:Nat->Gh)(enc:α->Gh)(xs:List α)(Rd:ka->Prop):Prop:=
 ∀(l:Nat) (J:Nat->ka->Prop) (Jx:ka->Prop) (W:ka),(∀i W,J i W->Rd W)->(∀i W W',J i W->JW W W'->J i W')->
  (∀i (hi:i<xs.length) W W',J i W->JW W W'->YieldAt K2 0 P l #[ex i,enc xs[i]] W' fun e W2=>((e=.returned (.bool true)/\J (i+1) W2)\/(e=.returned (.bool false)/\Jx W2))/\∀b,W.heap.size<=b->b<W'.heap.size->W2.heap[b]? = W'.heap[b]?)->
  J 0 W->Ka P gf (.func (.yield l) #[] #[]::lb) W fun _ W'=>J xs.length W'\/Jx W'
theorem so{P:Kc}{N:Nat}{ds:List Deferred}{Q:LQ->Mp->ka->Prop}{st:St}{w:ka}{α:Type}{g:KK}{p0 p1 d0:Nat}{T:J1}{id:Nat}{e1 e2:Array M9}{q1 q2:String}{t1 t2:J1}{body:Ma} 
  {gf:Nat} {lb:List Gh} {ex:Nat->Gh} {enc:α->Gh} {xs:List α} {Rd:ka->Prop}
  (hg:ev st g=some (.func (.func gf) #[] lb.toArray)) (eg:∀args w,(callFunc gf args).run P w=.ok (.enter gf args) w) (it:Ij P gf lb ex enc xs Rd)
  (e':JZ p0 N=true) (e9:JZ p1 N=true) (f7:JZ d0 N=true) {z:Gh} (hz:∀W:ka,(zeroValue T).run P W=.ok z W) 
  {B:Nat} {O:Nat->Nat} (r:KG B O w) (L K:Nat) (hL:L≠0) (hK:K≠0) (d3:L≠K)
  (b0:∀(W:ka) (O':Nat->Nat) (b:Nat) (y:Gh) (x:α) (_:x∈xs) (ops:Array Ld) (Q':LQ->Mp->ka->Prop),Js O' W K b z.cells T->
   (∀w2,Js O' w2 K b (enc x).cells T->J5 (fun j=>j=K) O' W O' w2->WL P N ops Q' [] ((d0,nP b)::(p1,enc x)::(p0,y)::st) w2)->
   WL P N ops Q' [⟨none,.store T (.tmp d0) (.tmp p1),t2,q2,e2,none⟩] ((d0,nP b)::(p1,enc x)::(p0,y)::st) W)
  (I:Nat->(Nat->Nat)->ka->Prop) (Ix:Ma->(Nat->Nat)->ka->Prop)
  (hI:∀i O W O' W',I i O W->J5 (fun j=>j=L\/j=K) O W O' W'->I i O' W') (d4:∀c O W O' W',Ix c O W->J5 (fun j=>j=L) O W O' W'->Ix c O' W')
  (g1:∀i O W,I i O W->Rd W) (h0:I 0 O w)
  (b6:∀l i (hi:i<xs.length) b O' W,KG B O' W->I i O' W->Js O' W K b (enc xs[i]).cells T->
   WI (some l) P N [] body (AX O' W L (I (i+1)) Ix) ((d0,nP b)::(p1,enc xs[i])::(p0,ex i)::st) W)
  (b5:∀D O' W,KG B O' W->O' D=L->I xs.length O' W->W.heap[D]? = some (.deferred (some []))->QI N ({ target:=.collected D,args:=#[] }::ds) Q .normal st W)
  (hstop:∀D c O' W,KG B O' W->O' D=L->Ix c O' W->W.heap[D]? = some (.deferred (some []))->WI none P N ({ target:=.collected D,args:=#[] }::ds) c Q st W) :
  WI none P N ds (.rangeFunc g #[p0,p1] (.region id #[⟨some d0,.alloc T,t1,q1,e1,none⟩,⟨none,.store T (.tmp d0) (.tmp p1),t2,q2,e2,none⟩] false) body) Q st w:=by
 intro a ha;refine wpIn_rangeFunc ?_;intro fn g7;rw[show(Fr none).round=none from rfl];obtain⟨D,hD⟩:∃D,D=w.heap.size:=⟨_,rfl⟩
 obtain⟨e8,b8⟩:∃c,c=Code.region id #[⟨some d0,.alloc T,t1,q1,e1,none⟩,⟨none,.store T (.tmp d0) (.tmp p1),t2,q2,e2,none⟩] false:=⟨_,rfl⟩
 rw[<-b8];obtain⟨a5,a2⟩:∃a5:LoopState->Option Ma->Loop,a5=fun st pe=>{ state:=st,pending:=pe,fn,tmps:=a.tmps,params:=#[p0,p1],assign:=e8,body,defers:=D }:=⟨_,rfl⟩
 obtain⟨W1,b'⟩:∃W1,(w.alloc (.deferred (some []))).alloc (.loop (a5 .ready none))=W1:=⟨_,rfl⟩
 obtain⟨O1,d2⟩:∃O1,lJ (lJ O D L) (D+1) L=O1:=⟨_,rfl⟩
 have d6:¬(fun j=>j=L) 0:=fun e=>hL e.symm
 have e5:J5 (fun j=>j=L) O w (lJ O D L) (w.alloc (.deferred (some []))):=by rw[hD];exact KJ d6 r _ L
 have e6:J5 (fun j=>j=L) O w O1 W1:=by
  rw[<-b',<-d2];refine e5.trans ?_;have:=KJ (S:=fun j=>j=L) d6 (r.upd e5) (.loop (a5 .ready none)) L
  rwa[La,<-hD]at this
 have g2:KG B O1 W1:=r.upd e6;have g3:W1.heap[D+1]? = some (.loop (a5 .ready none)):=by
  rw[<-b',hD];have:=KN (w.alloc (.deferred (some []))) (.loop (a5 .ready none));rwa[La]at this
 have g4:W1.heap[D]? = some (.deferred (some [])):=by
  rw[<-b',hD];exact(Below.heap_alloc _ _ _ (by simp)).trans (KN w _)
 have hO1D:O1 D=L:=by rw[<-d2];unfold lJ;rw[if_neg zo,if_pos rfl]
 have hO1L:O1 (D+1)=L:=by rw[<-d2];exact eB _ _ _
 have g5:I 0 O1 W1:=hI _ _ _ _ _ h0 (e6.mono (fun _ h=>.inl h) (by rintro(h|h);exact hL h.symm;exact hK h.symm))
 refine⟨D+1,[{ target:=.collected D,args:=#[] }],W1,{ target:=.fn (.func gf) lb.toArray,args:=#[.func (.yield (D+1)) #[] #[]] },W1,gf,
  #[.func (.yield (D+1)) #[] #[]]++lb.toArray,W1,?_,?_,fun _ _=>trivial,?_,fun hh=>by simp[K2]at hh,?_⟩
 ·rw[<-b',a2,hD];exact run_enterLoop_outer _ _ _ _ _
 ·simp only[resolve,ha.evD hg ds];simp[go_sem]
 ·simp[invoke,go_sem,eg]
 have hJ:=it (D+1)
  (fun i W=>∃O',KG B O' W/\O' D=L/\O' (D+1)=L/\I i O' W/\W.heap[D+1]? = some (.loop (a5 .ready none))/\W.heap[D]? = some (.deferred (some [])))
  (fun W=>∃c O',KG B O' W/\O' D=L/\O' (D+1)=L/\Ix c O' W/\W.heap[D+1]? = some (.loop (a5 .done (some c)))/\W.heap[D]? = some (.deferred (some [])))
  W1 (fun i W ⟨O',_,_,_,h,_⟩=>g1 i O' W h) (fun i W W' ⟨O',h1,h2,h3,h4,h5,h6⟩ hE=>⟨O',h1.ext hE,h2,h3,hI _ _ _ _ _ h4 (aa (by rintro(h|h);exact hL h.symm;exact hK h.symm) _ hE),(hE.block _ (bB h5)).trans h5,(hE.block _ (bB h6)).trans h6⟩) ?_ ⟨O1,g2,hO1D,hO1L,g5,g3,g4⟩
 ·unfold Ka at hJ;rw[show(Value.func (.yield (D+1)) #[] #[]::lb).toArray = #[.func (.yield (D+1)) #[] #[]]++lb.toArray from by simp]at hJ;refine Mo (callsIn_wide.2 hJ:CallsIn K2 _ P gf _ W1 _) ?_;rintro e W2 q
  cases e with
  |returned v=>
   rcases q with⟨O',a7,b2,b1,hi,hl,hk⟩|⟨c,O',a7,b2,b1,hi,hl,hk⟩
   ·refine⟨none,_,by have:=run_endLoop (P:=P) hl (by rw[a2];simp);rw[a2]at this;exact this,?_⟩;have b3:=JR hL b1 (w:=W2) (.loop { a5 .ready none with state:=.exhausted });rw[a2]at b3;have:=b5 D O' _ (a7.upd b3) b2 (hI _ _ _ _ _ hi (b3.mono (fun _ h=>.inl h) (by rintro(h|h);exact hL h.symm;exact hK h.symm))) ((JA zo).trans hk) a ha;exact this
   refine⟨some c,_,by have:=run_endLoop (P:=P) hl (by rw[a2];simp);rw[a2]at this;exact this,?_⟩;have b3:=JR hL b1 (w:=W2) (.loop { a5 .done (some c)with state:=.exhausted });rw[a2]at b3;exact hstop D c O' _ (a7.upd b3) b2 (d4 _ _ _ _ _ hi b3) ((JA zo).trans hk) a ha
  |panicked c=>exact q.elim
  |outgrown=>exact q.elim
 rintro i hi W0 W ⟨O',e7,b2,b1,c8,c7,e0⟩ c5;have a7:=e7.ext c5;have f6:=hI _ _ _ _ _ c8 (aa (S:=fun j=>j=L\/j=K) (by rintro(h|h);exact hL h.symm;exact hK h.symm) O' c5);have hl:=(c5.block _ (bB c7)).trans c7;have hk:=(c5.block _ (bB e0)).trans e0;have g6:=bB c7;have hy:=run_yield (P:=P) (args:=#[ex i,enc xs[i]]) hl (by rw[a2];rfl);rw[a2]at hy;refine⟨fn,_,e8,body,hy,roundIn_of_wpIn trivial ?_⟩;have c9:Fits N ((a.put (some p0) (ex i)).put (some p1) (enc xs[i])) ((p1,enc xs[i])::(p0,ex i)::st):=(ha.put e' _).put e9 _;have d1:({ tmps:=(#[p0,p1].zip #[ex i,enc xs[i]]).foldl (fun tmps (t,a)=>tmps.setIfInBounds t a) a.tmps,defers:=[] }:Mp) = { (a.put (some p0) (ex i)).put (some p1) (enc xs[i])with defers:=[] }:=by simp[Me]
 rw[d1];rw[b8];refine(Jw (ro:=some (D+1)) (ds:=[]) (P:=P) (N:=N) (.inr rfl) (fun _ _ h=>h) ?_:WI (some (D+1)) P N [] _ _ ((p1,enc xs[i])::(p0,ex i)::st) W) _ c9;refine ax a7 K hK (hz W) f7 ?_;intro b w1 O2 hb g0 g9 g';refine b0 w1 O2 b (ex i) xs[i] (Ko hi) _ _ hb ?_;intro w2 b7 f';refine WL.nil (JS ?_);intro a3 f9;have c6:D+1<W.heap.size:=(Array.getElem?_eq_some_iff.1 hl).1;have b9:J5 (fun j=>j=K) O' W O2 w2:=g0.trans f';have d9:w2.heap[D+1]? = some (.loop (a5 .ready none)):=(b9.blk (D+1) c6 (by rw[b1];exact d3)).trans hl;have f5:w2.heap[D]? = some (.deferred (some [])):=(b9.blk D zo (by rw[b2];exact d3)).trans hk;have ho2L:O2 (D+1)=L:=(b9.tag (D+1) (by rw[b1];exact hL)).trans b1;have ho2D:O2 D=L:=(b9.tag D (by rw[b2];exact hL)).trans b2;refine⟨_,run_beginRound d9 (by rw[a2]),?_⟩;have e4:=JR hL ho2L (w:=w2) (.loop { a5 .ready none with state:=.busy });have a':¬(fun j=>j=L\/j=K) 0:=by rintro(h|h);exact hL h.symm;exact hK h.symm
 have a1:J5 (fun j=>j=L\/j=K) O' W O2 (w2.putObj (D+1) (.loop { a5 .ready none with state:=.busy })):=(b9.mono (fun _ h=>.inr h) a').trans (e4.mono (fun _ h=>.inl h) a');have d8:(w2.putObj (D+1) (.loop { a5 .ready none with state:=.busy })).heap[D+1]? = some (.loop { a5 .ready none with state:=.busy }):=JM (bB d9);have d':(w2.putObj (D+1) (.loop { a5 .ready none with state:=.busy })).heap[D]? = some (.deferred (some [])):=(JA zo).trans f5;have c':=b6 (D+1) i hi b O2 _ (a7.upd a1) (hI _ _ _ _ _ f6 a1) (b7.upd e4 hK (fun e=>d3 e.symm)) a3 f9;generalize w2.putObj (D+1) (.loop { a5 .ready none with state:=.busy })=w3 at *;refine wpIn_mono c' ?_;have d5:∀(a0:Option Ma) (O4:Nat->Nat) (w4:ka),J5 (fun j=>j≠0/\j≠L) O2 w3 O4 w4->
   (Instr.endRound (D+1) a0).run P w4=.ok (.bool a0.isNone) (w4.putObj (D+1) (.loop (a5 (if a0.isNone then .ready else .done) a0)))/\
   J5 (fun j=>j=L) O4 w4 O4 (w4.putObj (D+1) (.loop (a5 (if a0.isNone then .ready else .done) a0)))/\O4 D=L/\O4 (D+1)=L/\
   (w4.putObj (D+1) (.loop (a5 (if a0.isNone then .ready else .done) a0))).heap[D+1]? = some (.loop (a5 (if a0.isNone then .ready else .done) a0))/\
   (w4.putObj (D+1) (.loop (a5 (if a0.isNone then .ready else .done) a0))).heap[D]? = some (.deferred (some [])):=by
  intro a0 O4 w4 a6;have d7:=(a6.blk (D+1) (bB d8) (by rw[ho2L];exact fun h=>h.2 rfl)).trans d8;have f4:=(a6.blk D (bB d') (by rw[ho2D];exact fun h=>h.2 rfl)).trans d';have ho4D:O4 D=L:=(a6.tag D (by rw[ho2D];exact hL)).trans ho2D;have ho4L:O4 (D+1)=L:=(a6.tag (D+1) (by rw[ho2L];exact hL)).trans ho2L;have:=run_endRound (P:=P) a0 d7;rw[a2]at this ⊢;exact⟨this,JR hL ho4L _,ho4D,ho4L,JM (bB d7),(JA zo).trans f4⟩
 have a9:∀(O4:Nat->Nat) (w4:ka) (o:Obj),J5 (fun j=>j≠0/\j≠L) O2 w3 O4 w4->∀b,W0.heap.size<=b->b<W.heap.size->(w4.putObj (D+1) o).heap[b]? = W.heap[b]?:=by
  intro O4 w4 o a6 b g8 b7;have e3:O' b=0:=JV fun f3=>by have:=(e7.rng b f3).2;omega
  have f8:=a1.zero b7 e3;have e1:=a1.blk b b7 (by rw[e3];rintro(h|h);exact hL h.symm;exact hK h.symm);have e2:=a6.blk b (JD b7 a1.size) (by rw[f8];exact fun h=>h.1 rfl);rw[JA zo,e2,e1]
 rintro e a4 w4 q
 cases e with
 |normal=>
  obtain⟨O4,a6,b4⟩:=q;obtain⟨hr,a8,h1,h2,h3,h4⟩:=d5 none O4 w4 a6;exact⟨_,_,hr,.inl ⟨rfl,O4,((a7.upd a1).upd a6).upd a8,h1,h2,hI _ _ _ _ _ b4 (a8.mono (fun _ h=>.inl h) a'),h3,h4⟩,a9 O4 w4 _ a6⟩
 |ret=>
  obtain⟨O4,a6,b4⟩:=q;obtain⟨hr,a8,h1,h2,h3,h4⟩:=d5 (some .ret) O4 w4 a6;exact⟨_,_,hr,.inr ⟨rfl,.ret,O4,((a7.upd a1).upd a6).upd a8,h1,h2,d4 _ _ _ _ _ b4 a8,h3,h4⟩,a9 O4 w4 _ a6⟩
 |exit id'=>
  obtain⟨O4,a6,b4⟩:=q;obtain⟨hr,a8,h1,h2,h3,h4⟩:=d5 (some (.exit id')) O4 w4 a6;exact⟨_,_,hr,.inr ⟨rfl,.exit id',O4,((a7.upd a1).upd a6).upd a8,h1,h2,d4 _ _ _ _ _ b4 a8,h3,h4⟩,a9 O4 w4 _ a6⟩
 |_=>exact q.elim
end
end Go.VL
section
namespace Go.VL
section
variable{P:Kc}{N:Nat}{ops:Array Ld}{Q:LQ→Mp→ka→Prop}{rest:List Ld}{st:St}{w:ka}
variable{t:J1}{p:String}{e:Array M9}{d:Nat}{x y z:KK}
theorem bS{T E:J1}{sz a0:Nat}(he:Elem P T E sz a0){α:Type}{enc:α->List Gh}{B:Nat}{O:Nat->Nat}(r:KG B O w)(i:Nat)(a6:i≠0)(u:α){xv:Gh}(hx:ev st x=some xv)(a2:xv.cells.toList=enc u)(a3:(enc u).length=sz)(hs:sz<=16777216)(hd:JZ d N=true) 
  (h:∀v w' O',L2 enc E sz O' w' i v [u]->J5 (fun k=>k=i) O w O' w'->KG B O' w'->WL P N ops Q rest ((d,v)::st) w'):WL P N ops Q (⟨some d,.buildSlice T 1 #[(0,x)],t,p,e,none⟩::rest) st w:=by
 obtain⟨a4,z,hi,hz,a1,a9,a8⟩:=he.parts;have a7:xv.cells.size=sz:=by rw[<-a3,<-a2];simp
 have a5:=he.pos;have u1:=KJ (S:=fun k=>k=i) (fun e=>a6 e.symm) r (.cells xv.cells E) i;refine KS (v:=.slice (some ⟨w.heap.size,0,none⟩) 1 1) (w':=w.alloc (.cells xv.cells E)) hd (fun a ha=>?_) (h _ _ (lJ O w.heap.size i) ⟨⟨?_,fun g hg=>?_⟩,fun c hc=>by rw[IJ.1 hc];exact a3⟩ u1 (r.upd u1))
 ·have:=run_buildSlice (P:=P) w T E 1 #[(0,xv)] xv.cells a4 z he.ht hi hz (by rw[a1];omega) (by rw[a1];omega) (by
   rw[a1]
   exact kR a7 (by simp))
  simp only[execOp,Lk,Ly,LJ,ha.ev hx,JC,this,Jo];rfl
 ·have:=World.ownsRow_lit (base:=0) (size:=sz) (e:=E) w xv.cells 1 (Jp _) (by simp[maxLen]) zo;simpa[a2]using this
 simp[Value.ownBlock]at hg;subst hg;exact eB _ _ _
end
section
variable{P:Kc}{N:Nat}{st:St}{w:ka}{fn:Func}{R:Gh→ka→Prop}
theorem iP{t:Tmp}{T:J1}{q:Mb}{us:List Gh}(hr:fn.results = #[.cell t T])(hv:cC st t=some (.pointer (some q))) 
  (hc:∀j u,us[j]? = some u->w.cell? (q.add j)=some u) (hT:(isAgg T).run P w=.ok true w) (hn:(sizeOf T).run P w=.ok us.length w) (h:R (.agg us.toArray) w):Leave P N fn R [] st w:=
 Leave.nil (fun a ha=>by have h1:=ha.get _ _ hv;simp[results,hr,Array.getD_eq_getD_getElem?,h1,asAddr,dB hc hT hn]) h
end
end Go.VL
namespace Go.Proofs.YtlehnbkknlpkbaaGreatDoor
open Go.VL Go.Proofs
set_option maxRecDepth 10000
theorem elM:Elem J9 168 243 4 56:=⟨LY,by kernel_rfl,zd⟩
theorem uJ(q:Option Mb)(n c:Nat)(w:ka):Ka J9 236 [.slice q n c] w fun v w'=>∃b,v=.func (.func 237) #[] #[nP b]/\w'.cell? ⟨b,0,none⟩=some (.slice q n c)/\w.heap.size<=b/\JW w w':=by
 refine Gi func236 ntmps236 rfl rfl ?_;refine zh ?_
 refine aE (au w) 1 zo rfl rfl ?_;intro b w1 O1 hb a2 a0 a1;refine zh ?_
 refine zvH (eA rfl rfl) ?_;refine ae rfl rfl (⟨b,rfl,hb.cell 0 rfl,(a0.rng b (by rw[hb.tag];decide)).1,a1⟩)
theorem AY{α:Type}[Inhabited α]{l:List α}{i:Nat}(h:i<l.reverse.length):l.reverse[i]=nth l (l.length-1-i):=by
 rw[JG]at h;rw[List.getElem_reverse,aB zo]
theorem pP(kv:Gh)(ms:List M3)(b:Nat):Ij J9 237 [nP b] (fun i=>nI ((ms.length:Int)-1-(i:Int))) (fun m:M3=>.agg (lz m).toArray) ms.reverse (fun W=>W.cell? ⟨b,0,none⟩=some kv/\Sl lz 4 W kv ms):=by
 intro lp J Jx W a3 a9 hY h0;obtain⟨a8,a4⟩:=a3 _ _ h0;have a6:=a4.len_le;have a5:ms.reverse.length=ms.length:=JG;refine qK func237 ntmps237 rfl rfl ?_;refine JL ?_;refine Jw (.inl rfl) (fun _ _ h=>h) ?_;refine zh ?_;refine JS ?_;refine bm ?_;refine L5 ?_;refine WI.loop (fun x:Nat×ka×Int=>[(0,.func (.yield lp) #[] #[]),(1,nP b),(3,nI x.2.2)]) (fun x:Nat×ka×Int=>x.2.1) (fun x:Nat×ka×Int=>x.1<=ms.length/\J x.1 x.2.1/\x.2.2=(ms.length:Int)-1-(x.1:Nat)) (fun x:Nat×ka×Int=>ms.length-x.1) (0,W,(ms.length:Int)-1) (⟨Jp _,h0,by dsimp only;omega⟩) ⟨rfl,rfl,rfl,trivial⟩ rfl ?_;rintro⟨i,w1,z⟩ ⟨hi,hJ,hz⟩;dsimp only at hi hJ hz ⊢;subst hz;obtain⟨hb,hs⟩:=a3 _ _ hJ;refine JL ?_;refine JL ?_;refine Jw (.inl rfl) (fun _ _ h=>h) ?_;refine zh ?_;refine JS ?_;refine bm ?_;refine WI.cond rfl ?_ ?_
 ·intro a0;replace a0:i<ms.length:=dT a0;have hy:=hY i zo w1 w1 hJ (Jq _);rw[AY]at hy;dsimp only at hy;refine KA ?_;refine bm ?_;refine JL ?_;refine L5 ?_;refine JL ?_;refine xr 6 (.inl rfl) (fun _ _ h=>h) ?_;refine zh ?_;refine zv (Kk hs LY (LK _) rfl rfl (ms.length-1-i) zo zo) ?_;refine zvH (ai (us:=lz (nth ms (ms.length-1-i))) (fun j u hu=>hs.cell zo hu) (isAgg243 _) (LK _) rfl) ?_;refine JS (Gs ?_);refine Ab rfl rfl rfl (hy) rfl (by rintro e w' ⟨⟨rfl,_⟩|⟨rfl,_⟩,_⟩<;>exact⟨_,rfl⟩) ?_;rintro v w5 ⟨⟨e,a1⟩|⟨e,a1⟩,a7⟩
  ·obtain rfl:=Kq e;refine Fg (.inl rfl) (fun _ _ h=>h) ?_;refine zh ?_;refine JS ?_;refine bm ?_;refine lr rfl (rfl) ?_;refine KA ?_;refine dd ?_;refine bm ?_;refine Jw (.inl rfl) (fun _ _ h=>h) ?_;refine zh ?_;refine JS ?_;refine QI.next ((i+1,w5,(ms.length:Int)-1-(i:Int)-1)) (⟨a0,a1,by dsimp only;omega⟩) (by dsimp only;omega) ⟨rfl,rfl,rfl,trivial⟩ rfl
  obtain rfl:=Kq e;refine Fg (.inl rfl) (fun _ _ h=>h) ?_;refine zh ?_;refine JS ?_;refine bm ?_;refine sq rfl (rfl) ?_;refine Li ?_;refine gI ?_;refine jh ?_;refine jh ?_;refine gI ?_;exact ly (oZ rfl (.inr a1))
 intro a2;replace a2:¬i<ms.length:=dF a2;obtain rfl:i=ms.length:=zo;refine WI.exit ?_;refine oW ?_;refine oW ?_;refine xF ?_;exact ly (oZ rfl (.inl (by rw[a5];exact hJ)))
end Go.Proofs.YtlehnbkknlpkbaaGreatDoor
end
namespace Go.Proofs.YtlehnbkknlpkbaaGreatDoor
section
variable{kv:Gh}{kn:Kn}
theorem cells_from{w:ka}{b:Nat}{us vs:List Gh}(k:Nat)(h:∀(j:Nat) (u:Gh),us[j]? = some u->w.cell? (nA b j)=some u)(hv:∀(q:Nat) (u:Gh),vs[q]? = some u->us[k+q]? = some u):∀(q:Nat) (u:Gh),vs[q]? = some u->w.cell? ((nA b k).add q)=some u:=fun q u hu=>by
 have h1:=h (k+q) u (hv q u hu);have e:((nA b k).add q)=((⟨b,0,none⟩:Mb).add (k+q)):=by
  simp only[K1];(repeat' split)<;>simp_all[]
 rw[e];exact h1
theorem KnownM.ex{O:Nat->Nat}{w:ka}{ms:List M3}(h:Mn O w kv kn ms):Mc O w kv kn:=⟨ms,h⟩
theorem F3{O:Nat->Nat}{w:ka}{ms:List M3}(h:Mn O w kv kn ms){x:M3}(hx:x∈ms.reverse):(lz x).toArray.toList.all Kw=true:=by
 obtain⟨i,hi,e⟩:=JU (List.mem_reverse.1 hx);have h1:=(h.2.2.2 i hi).2.one;rw[aB hi,e]at h1;simp only[lz,J4,h1];rfl
theorem BX{α:Type}[Inhabited α]{p:α->Bool}{l:List α}(h:∀q,q<l.length->p (nth l q)=false):l.find? p=none:=by
 rw[List.find?_eq_none];intro x hx;obtain⟨i,hi,rfl⟩:=JU hx;have:=h i hi;rw[aB hi]at this;rw[this];decide
theorem BY{α:Type}[Inhabited α]{p:α->Bool}:∀ {l:List α} {k:Nat},k<l.length->(∀q,q<k->p (nth l q)=false)->p (nth l k)=true->l.find? p=some (nth l k)
 |[],k,hk,_,_=>absurd hk (by simp)
 |a::l,0,_,_,hp=>by rw[ar]at hp ⊢;rw[Lr,hp]
 |a::l,k+1,hk,h,hp=>by
  have h0:=h 0 zo;rw[ar]at h0;rw[bd]at hp ⊢;rw[Lr,h0];exact BY (by simpa using hk) (fun q hq=>by have:=h (q+1) (zo);rwa[bd]at this) hp
theorem FT{α:Type}[Inhabited α]{l:List α}{i:Nat}(h:i<l.length):nth l.reverse i=nth l (l.length-1-i):=by
 rw[aB (by rw[JG];exact h),AY]
theorem Bg(op:Int)(h':0<=op/\op<=20):L6 kv kn 232 [] op (gK kn) (fun r=>aj (r.headD 0)=true):=by
 intro B O j rb l r w hR hj hr hl h9 h i3;obtain⟨T,a1,hT⟩:=hR.bound;have j5:j<T:=by rw[<-h.tag];exact hT rb
 have j4:=hr.length_le;refine qK func232 ntmps232 rfl rfl ?_;refine JL ?_;refine Jw (.inl rfl) (fun _ _ h=>h) ?_;refine ax hR T zo (Gv _) rfl ?_;intro xb w1 O1 h0 g0 j3 k0;have f9:=h.upd g0 hj zo;refine zh ?_;refine JS ?_;refine bm ?_;refine JL ?_;refine Jw (.inl rfl) (fun _ _ h=>h) ?_;refine zh ?_;refine zvH (RV.ld f9.r1 rfl) ?_;refine JS ?_;refine bm ?_;refine JL ?_;refine Jw (.inl rfl) (fun _ _ h=>h) ?_;refine zh ?_;refine zc call235 (ye O1 w1 j rb l r op 0 0 hj hr zo f9) ?_;rintro v w2 ⟨rfl,i9,e1⟩;have g':=h0.upd e1 zo zo;have g5:=j3.upd e1;have i':=(g0.pT hj a1 (la _)).trans (e1.pj a1);refine ax g5 (T+1) zo (zeroValue9 _) rfl ?_;intro sb w3 O3 d5 j1 j9 j';refine ak (j:=0) d5 rfl (sizeOf9 _) rfl rfl rfl rfl ?_;have e4:=d5.set 0 (.string (bs (r.takeWhile aj)));have j0:J5 (fun k=>k=T+1) O3 w3 O3 (w3.setCell ⟨sb,0,none⟩ (.string (bs (r.takeWhile aj)))):=J7 zo d5.tag rfl;have a8:=j1.trans j0;have c6:=g'.upd a8 zo zo;have d9:=i9.upd a8 hj zo;have g4:=g5.upd a8;have b0:=i'.trans (a8.pT hj a1 (Jy _));generalize w3.setCell ⟨sb,0,none⟩ (.string (bs (r.takeWhile aj)))=w4 at *;refine zh ?_;refine JS ?_;refine bm ?_;refine JL ?_;refine JL ?_;refine Jw (.inl rfl) (fun _ _ h=>h) ?_;refine zv (RV.ld (e4.cell 0 rfl) rfl) ?_;refine zvH (cX rfl rfl) ?_;refine JS ?_;refine bm ?_
 by_cases ha:r.takeWhile aj=[97,110,121]
 ·have hM:gK kn r=.ok (.mk 1 0 []) (r.dropWhile aj):=by unfold gK;rw[if_pos ha]
  refine sq rfl ((by rw[ha];rfl)) ?_;refine JL ?_
  refine Jw (.inl rfl) (fun _ _ h=>h) ?_;refine zv (aF xW (Gv _) rfl (by first|rfl|(simp only[J4,JB];rfl)) rfl rfl) ?_
  refine zsa (us:=(#[nI 1,nI 0,nS])) c6 (ix _) ?_;have d3:=GZ (us:=(#[nI 1,nI 0,nS])) c6;have f':J5 (fun k=>k=T) O3 w4 O3 (GT w4 xb (#[nI 1,nI 0,nS])):=ln zo (J0 c6) rfl;have d8:=GY d9 f' hj zo;refine zh ?_
  refine JS ?_;refine bm ?_
  refine Li ?_;refine jh ?_
  refine ly (iP rfl rfl d3.cellsAdd (Gc _) (ix _) ⟨(1,0,nS),rfl,(b0.trans (f'.pT hj a1 (la _))).priv hT hj,?_⟩);rw[hM];exact⟨d8.fgt h.tag,KV _ _ _ _⟩
 obtain⟨ms,c9⟩:=i3.upd b0;obtain⟨qa,qc,f3,_⟩:=c9.1.shape;have i2:=c9.1.len_le;have i4:kn.length=ms.length:=c9.2.2.1;refine lr rfl ((by simpa using ha)) ?_;subst f3;refine KA ?_;refine bm ?_;refine JL ?_;refine JL ?_;refine Jw (.inl rfl) (fun _ _ h=>h) ?_;refine zh ?_;refine zv (RV.ld d9.r2 rfl) ?_;refine zc call236 (uJ qa ms.length qc w4) ?_;rintro v w5 ⟨b,rfl,i8,j8,g7⟩;have b8:J5 (fun _=>False) O3 w4 O3 w5:=aa (fun h=>h) O3 g7;have d3:=c6.upd b8 zo (fun h=>h);have h8:=e4.upd b8 zo (fun h=>h);have d8:=d9.upd b8 hj (fun h=>h);have j2:=g4.upd b8;have f7:=c9.upd b8;have e0:=b0.trans (jz O3 g7 hj a1);have i7:Fixed O3 w5 ⟨b,0,none⟩ (.slice qa ms.length qc):=⟨i8,JV fun i0=>by have:=(g4.rng b i0).2;omega⟩
 generalize f3:Value.slice qa ms.length qc=kv at *;generalize c7:r.takeWhile aj=sw at *;have e5:∀ {S:Nat->Prop} {O' O2:Nat->Nat} {W W':ka},J5 S O' W O2 W'->(∀k,S k->T<=k)->J5 (fun k=>k=j\/T<=k) O' W O2 W':=fun h hS=>h.mono (fun k hk=>.inr (hS k hk)) (fun e=>by rcases e with e|e;exact hj e.symm;omega)
 refine zh ?_;refine JS ?_
 refine bm ?_;refine L5 ?_
 refine so (L:=T+2) (K:=T+3) rfl call237 (pP kv ms b) rfl rfl rfl (fun W=>zeroValue243 W) j2 zo zo zo (fun W O' pb y x hx ops Q' hb h=>bE (us:=(lz x).toArray) hb rfl (LK _) (F3 f7 hx) rfl rfl rfl (h _ hb.setRow (ln zo hb.tag rfl))) (fun k O' W=>J5 (fun p=>p=j\/T<=p) O w O' W/\Js O' W T xb #[nI 0,nI 0,nS] 83/\Js O' W (T+1) sb #[.string (bs sw)] 9/\Rdr kv O' W j rb l ((l.length:Int)-((r.dropWhile aj).length:Int)) op 0 0/\Fixed O' W ⟨b,0,none⟩ kv/\Mn O' W kv kn ms/\∀q,q<k->Dg sw (nth kn.reverse q)=false) (fun c O' W=>c=.ret/\J5 (fun p=>p=j\/T<=p) O w O' W/\Rdr kv O' W j rb l ((l.length:Int)-((r.dropWhile aj).length:Int)) op 0 0/\∃m x,kn.reverse.find? (Dg sw)=some m/\Nt O' W m.2 x/\Js O' W T xb #[nI x.1,nI x.2.1,x.2.2] 83) (fun i O' W O2 W' ⟨h1,h2,h3,h4,h5,h6,h7⟩ hU=>⟨h1.trans (e5 hU (fun k hk=>zo)),h2.upd hU zo zo,h3.upd hU zo zo,h4.upd hU hj zo,h5.upd hU,h6.upd hU,h7⟩) (fun c O' W O2 W' ⟨h1,h2,h3,m,x,h4,h5,h6⟩ hU=>⟨h1,h2.trans (e5 hU (fun k hk=>zo)),h3.upd hU hj zo,m,x,h4,h5.upd hU,h6.upd hU zo zo⟩) (fun i O' W ⟨_,_,_,_,h5,h6,_⟩=>⟨h5.cell,h6.1⟩) ⟨e0,d3,h8,d8,i7,f7,fun q hq=>absurd hq zo⟩ ?_ ?_ ?_
 ·rintro lp i hi pb O6 w6 d0 ⟨b3,b1,c8,a',d6,b6,a3⟩ b2;rw[JG]at hi;have i5:ms.length-1-i<ms.length:=zo;obtain⟨m,e8⟩:∃m,m=nth ms (ms.length-1-i):=⟨_,rfl⟩
  obtain⟨g1,g2⟩:=b6.2.2.2 _ i5;replace b2:Js O6 w6 (T+3) pb (lz m).toArray 243:=by have:=b2;rw[AY,<-e8]at this;exact this
  rw[<-e8]at g1 g2;have f4:nth kn.reverse i=nth kn (ms.length-1-i):=by rw[FT zo,i4]
  have b5:Dg sw (nth kn.reverse i)=false->∀q,q<i+1->Dg sw (nth kn.reverse q)=false:=fun h q hq=>by
   by_cases e:q=i
   ·rw[e];exact h
   exact a3 q zo
  have a0:Dg sw (nth kn.reverse i)=((m.1==sw&&bj (nth kn (ms.length-1-i)).2)&&((nth kn (ms.length-1-i)).2.kind != 9)):=by
   unfold Dg;rw[f4,g1]
  have f5:m.2.1=(nth kn (ms.length-1-i)).2.kind:=g2.kind;generalize nth kn (ms.length-1-i)=km at *;have j7:=b2.cell 0 rfl;have hz:J5 (fun p=>p≠0/\p≠T+2) O6 w6 O6 w6:=Lx zo _ _;refine L5 ?_;refine JL ?_;refine Jw (.inr rfl) (fun _ _ h=>h) ?_;refine zh ?_;refine zv (RV.ld (b2.cell 0 rfl) rfl) ?_;refine zv (RV.ld (c8.cell 0 rfl) rfl) ?_;refine zvH (cX rfl rfl) ?_
  cases h1:(m.1==sw)with
  |false=>
   rw[h1]at a0;refine ay (d:=30) rfl (b':=false) (rfl) ?_;refine zh ?_;refine JS ?_;refine bm ?_;refine lr rfl rfl ?_;refine KA ?_;refine dd ?_;exact iN O6 hz ⟨b3,b1,c8,a',d6,b6,b5 (by rw[a0];rfl)⟩
  |true=>
   rw[h1]at a0;refine ay (d:=30) rfl (b':=true) (rfl) ?_;have d7:∀W:ka,(∀(j:Nat) (u:Gh),(lz m)[j]? = some u->W.cell? (nA pb j)=some u)->∀(q:Nat) (u:Gh),(aY m.2)[q]? = some u->W.cell? ((nA pb 1).add q)=some u:=fun W h=>cells_from (us:=lz m) 1 h (fun q u hu=>by rw[KO];exact hu)
   refine zh ?_;refine zvH (ai (us:=aY m.2) (d7 _ b2.cellsAdd) (Gc _) (ix _) rfl) ?_
   refine zc Lw (fN km.2 m.2 w6 g2.zero) ?_;rintro v w7 ⟨rfl,g6⟩;have a4:J5 (fun _=>False) O6 w6 O6 w7:=aa (fun h=>h) O6 g6;have a2:=b1.upd a4 zo (fun h=>h);have e3:=c8.upd a4 zo (fun h=>h);have b7:=a'.upd a4 hj (fun h=>h);have e6:=b2.upd a4 zo (fun h=>h);have g3:=d0.upd a4;have f6:=b6.upd a4;have f8:=d6.upd a4;have e7:=g2.upd a4;have a7:=b3.trans (jz O6 g6 hj a1);have d1:J5 (fun p=>p≠0/\p≠T+2) O6 w6 O6 w7:=a4.mono (fun _ h=>h.elim) zo;refine zh ?_
   cases h2:bj km.2 with
   |false=>
    rw[h2]at a0;refine ay (d:=35) rfl (b':=false) (rfl) ?_;refine zh ?_;refine JS ?_;refine bm ?_;refine lr rfl rfl ?_;refine KA ?_;refine dd ?_;exact iN O6 d1 ⟨a7,a2,e3,b7,f8,f6,b5 (by rw[a0];rfl)⟩
   |true=>
    rw[h2]at a0;refine ay (d:=35) rfl (b':=true) (rfl) ?_;have j6:w7.cell? ((nA pb 1).add 0)=some (nI m.2.1):=d7 _ e6.cellsAdd 0 _ rfl;refine zh ?_;refine JS ?_;refine bm ?_
    cases h3:(km.2.kind != 9)with
    |false=>
     rw[h3]at a0;refine lr rfl ((by rw[f5];exact h3)) ?_;refine KA ?_;refine dd ?_;exact iN O6 d1 ⟨a7,a2,e3,b7,f8,f6,b5 (by rw[a0];rfl)⟩
    |true=>
     rw[h3]at a0;refine sq rfl ((by rw[f5];exact h3)) ?_;have d2:=e7.one;refine JL ?_;refine Jw (.inr rfl) (fun _ _ h=>h) ?_;refine zh ?_;refine zv (ai (us:=aY m.2) (d7 _ e6.cellsAdd) (Gc _) (ix _) rfl) ?_;refine zsb (us:=#[nI m.2.1,nI m.2.2.1,m.2.2.2]) a2 (ix _) (cn d2) ?_;have b4:=a2.setRow (us:=#[nI m.2.1,nI m.2.2.1,m.2.2.2]);have a6:J5 (fun k=>k=T) O6 w7 O6 (w7.setRow xb #[nI m.2.1,nI m.2.2.1,m.2.2.2]):=ln zo a2.tag rfl;refine zh ?_;refine JS ?_;refine bm ?_;refine Li ?_;refine gI ?_;exact xE O6 (d1.trans (a6.mono (fun _ h=>zo) zo)) ⟨rfl,a7.trans (a6.pT hj a1 (la _)),b7.upd a6 hj zo,_,m.2,by rw[BY (by rw[JG];omega) a3 (by rw[a0];rfl),f4],e7.upd a6,b4⟩
 ·rintro D O6 w6 d0 e2 ⟨b3,b1,c8,a',d6,b6,a3⟩ hm;have hM:gK kn r=dR 0 r:=by
   exact vL (by rw[c7];exact ha) (by rw[c7];exact BX (fun q hq=>a3 q (by simp at hq ⊢;omega)))
  have d':=b3;refine dd ?_;refine bm ?_;refine JL ?_;refine Jw (.inl rfl) (fun _ _ h=>h) ?_;refine zh ?_;refine ak (j:=1) a' rfl (JI _) rfl rfl rfl rfl ?_;have b7:=a'.rAt ((l.length:Int)-(r.length:Int));have a7:J5 (fun k=>k=j) O6 w6 O6 (w6.setCell ⟨rb,1,none⟩ (nI ((l.length:Int)-(r.length:Int)))):=J7 (fun e=>hj e.symm) a'.tag rfl;have a2:=b1.upd a7 zo zo;have g3:=d0.upd a7;have e':=(a7.blk D (bB hm) zo).trans hm;have b9:=d'.trans (a7.pj a1);generalize w6.setCell ⟨rb,1,none⟩ (nI ((l.length:Int)-(r.length:Int)))=w7 at *;refine zh ?_;refine JS ?_;refine bm ?_;refine JL ?_;refine Jw (.inl rfl) (fun _ _ h=>h) ?_;refine zh ?_;refine zc call233 (uB 0 op h' B O6 j rb l r w7 g3 hj hr hl trivial b7 (b6.upd a7).ex) ?_;rintro v w8 ⟨x,rfl,a6,a9⟩;have b4:=a2.upd a6 zo zo;have e9:=(a6.blk D (bB e') zo).trans e';have d2:x.2.2.oneCell'=true:=by
   cases hc:dR 0 r with
   |ok t r'=>rw[hc]at a9;exact a9.2.one
   |bad p e=>rw[hc]at a9;exact a9.1
  refine zsb (us:=#[nI x.1,nI x.2.1,x.2.2]) b4 (ix _) (cn d2) ?_;have g9:=b4.setRow (us:=#[nI x.1,nI x.2.1,x.2.2]);have c':J5 (fun k=>k=T) O6 w8 O6 (w8.setRow xb #[nI x.1,nI x.2.1,x.2.2]):=ln zo b4.tag rfl;have i1:=(c'.blk D (bB e9) zo).trans e9;have a5:J5 (fun k=>k=T+2) O6 (w8.setRow xb #[nI x.1,nI x.2.1,x.2.2]) O6 ((w8.setRow xb #[nI x.1,nI x.2.1,x.2.2]).putObj D (.deferred none)):=JR zo e2 _;have c5:=(c'.pT hj a1 (la _)).trans (a5.pT hj a1 zo);have d4:=g9.upd a5 zo zo;refine zh ?_
  refine JS ?_;refine bm ?_
  refine Li ?_;refine ly (LO i1 (iP rfl rfl d4.cellsAdd (Gc _) (ix _) ⟨x,rfl,((b9.trans (a6.pj a1)).trans c5).priv hT hj,?_⟩))
  rw[hM]
  cases hc:dR 0 r with
  |ok t r'=>
   rw[hc]at a9;exact⟨((a9.1.upd c' hj zo).upd a5 hj zo).fgt h.tag,(a9.2.upd c5).low (b9.trans (a6.pj a1))⟩
  |bad p e=>
   rw[hc]at a9;obtain⟨h1,a,g8,h2,h3⟩:=a9;exact⟨h1,a,g8,((h2.upd c' hj zo).upd a5 hj zo).fgt h.tag,h3⟩
 rintro D c O6 w6 d0 e2 ⟨rfl,b3,a',m,x,i6,b5,b1⟩ hm;have a5:J5 (fun k=>k=T+2) O6 w6 O6 (w6.putObj D (.deferred none)):=JR zo e2 _;have c5:=b3.trans (a5.pT hj a1 zo);have a2:=b1.upd a5 zo zo;refine Li ?_;refine gI ?_;refine jh ?_;refine ly (LO hm (iP rfl rfl a2.cellsAdd (Gc _) (ix _) ⟨x,rfl,c5.priv hT hj,?_⟩));rw[vK (by rw[c7];exact ha) (by rw[c7];exact i6)];exact⟨(a'.upd a5 hj zo).fgt h.tag,(b5.upd a5).low c5⟩
end
section
variable{kv:Gh}{kn:Kn}
theorem xj(b:UInt8)(k:Nat)(hk:k<256)(h:¬b=Jv k):((b.toNat:Int) != (k:Int))=true:=by rw[bne,oK b k hk,decide_eq_false h];rfl
theorem iD(b:UInt8)(k:Nat)(hk:k<256)(h:¬b=Jv k):((b.toNat:Int)==(k:Int))=false:=by rw[oK b k hk,decide_eq_false h]
theorem PostE.one{O:Nat->Nat}{w:ka}{j rb:Nat}{l:List UInt8}{op:Int}{x:N3}{M:PR}(h:Lp kv O w j rb l op x M):x.2.2.oneCell'=true:=by
 cases M with
 |ok t r=>exact h.2.one
 |bad p e=>exact h.1
theorem PostE.upd{S:Nat->Prop}{O O':Nat->Nat}{w w':ka}{j rb:Nat}{l:List UInt8}{op:Int}{x:N3}{M:PR}(h:Lp kv O w j rb l op x M)(u:J5 S O w O' w')(hj:j≠0)(hS:¬S j):Lp kv O' w' j rb l op x M:=by
 cases M with
 |ok t r=>exact⟨GY h.1 u hj hS,h.2.upd u⟩
 |bad p e=>obtain⟨h1,a,o,h2,h3⟩:=h;exact⟨h1,a,o,GY h2 u hj hS,h3⟩
theorem PostE.low{S:Nat->Prop}{O O':Nat->Nat}{w w0 w':ka}{j rb:Nat}{l:List UInt8}{op:Int}{x:N3}{M:PR}(h:Lp kv O' w' j rb l op x M)(u:J5 S O w O' w0)(a0:O rb=j):Lp kv O w' j rb l op x M:=by
 cases M with
 |ok t r=>exact⟨LZ h.1 a0,h.2.low u⟩
 |bad p e=>obtain⟨h1,a,o,h2,h3⟩:=h;exact⟨h1,a,o,LZ h2 a0,h3⟩
theorem rD(k:Int)(xs:List N3)(lv:Gh)(w:ka)(h:Sl aY 3 w lv xs)(h1:∀i,i<xs.length->(nth xs i).2.2.oneCell'=true):
  Ka J9 193 [nI k,lv] w fun v w'=>v=nv (if xs.length=1 then nth xs 0 else(k,0,lv))/\JW w w':=by
 refine Gi func193 ntmps193 rfl rfl ?_;refine zh ?_
 refine ax (au w) 1 zo (Gv _) rfl ?_;intro xb w1 O1 a0 a3 a6 a5;have a2:=h.ext a5;refine zh ?_
 by_cases hl:xs.length=1
 ·have a4:=h1 0 zo;rw[if_pos hl];refine zTH rfl ((by rw[hl];rfl)) ?_;refine zv (Kk a2 underlying81 (ix _) rfl rfl 0 rfl zo) ?_;refine zv (ai (us:=aY (nth xs 0)) (fun j u hu=>a2.cell zo hu) (Gc _) (ix _) rfl) ?_;refine zsb (us:=#[nI (nth xs 0).1,nI (nth xs 0).2.1,(nth xs 0).2.2]) a0 (ix _) (cn a4) ?_;have a1:=a0.setRow (us:=#[nI (nth xs 0).1,nI (nth xs 0).2.1,(nth xs 0).2.2]);refine zh ?_;refine aN rfl rfl (a1.cellsAdd) (Gc _) (ix _) (⟨rfl,(a3.trans (ln zd a0.tag rfl)).ext⟩)
 rw[if_neg hl];refine zFH rfl ((by simp;omega)) ?_;refine zv (aF xW (Gv _) rfl (by first|rfl|(simp only[J4,h.one];rfl)) rfl rfl) ?_;refine zsb (us:=#[nI k,nI 0,lv]) a0 (ix _) (cn (x:=(k,0,lv)) h.one) ?_;have a1:=a0.setRow (us:=#[nI k,nI 0,lv]);refine zh ?_;refine aN rfl rfl (a1.cellsAdd) (Gc _) (ix _) (⟨rfl,(a3.trans (ln zd a0.tag rfl)).ext⟩)
def uT(kv:Gh)(kn:Kn)(al:Option (List UInt8->PR))(op:Int):Prop:=
 match al with
 |none=>op=20
 |some f=>op<20/\L6 kv kn 178 [] (op+1) f (fun _=>True)
theorem uG(al:Option (List UInt8->PR))(op:Int)(h7:0<=op/\op<=20)(ha:uT kv kn al op)(hg:mW al):L6 kv kn 234 [] op (cu al) (fun r=>r.headD 0≠0):=by
 intro B O j rb l r w hR hj hr hl d1 h g7;obtain⟨T,a0,hT⟩:=hR.bound;have h8:j<T:=by rw[<-h.tag];exact hT rb
 have h6:=hr.length_le;refine Gi func234 ntmps234 rfl rfl ?_;refine zh ?_;refine ax hR T zo (Gv _) rfl ?_;intro xb w1 O1 e6 e' f5 i1;have a7:=h.upd e' hj zo;have b4:=e'.pT hj a0 (la _);obtain⟨f',h5⟩:=cm d1;have e7:=f'.trans hr;refine zh ?_;refine zvH (RV.ld a7.r3 rfl) ?_
 cases al with
 |none=>
  have hM:cu none r=.bad r.length 6:=rfl;replace ha:op=20:=ha;refine zTH rfl ((by rw[ha];rfl)) ?_;refine zv (RV.ld a7.r1 rfl) ?_;refine zc L9 (gD _ O1 w1 j rb l _ _ 0 ((l.length:Int)-(r.length:Int)) 6 hj f5 a7) ?_;rintro v wf ⟨rfl,d8,b6⟩;have a6:=e6.upd b6 zo zo;refine zsa (us:=#[nI 0,nI 0,nS]) a6 (ix _) ?_;have c9:=a6.setRow (us:=#[nI 0,nI 0,nS]);have b5:J5 (fun k=>k=T) O1 wf O1 (wf.setRow xb #[nI 0,nI 0,nS]):=ln zo a6.tag rfl;have hbg:=d8.upd b5 hj zo;refine zh ?_;refine aN rfl rfl (c9.cellsAdd) (Gc _) (ix _) (⟨(0,0,nS),rfl,((b4.trans (b6.pj a0)).trans (b5.pT hj a0 (la _))).priv hT hj,?_⟩);rw[hM];exact⟨rfl,_,op,hbg.fgt h.tag,zo,zo,zo,zo⟩
 |some f=>
  obtain⟨h9,g'⟩:=ha;have b9:=hg f rfl r.tail;refine zFH rfl ((by simp;omega)) ?_;refine zvH (RV.ld a7.r1 rfl) ?_;refine ak (j:=1) a7 rfl (JI _) rfl rfl rfl rfl ?_;rw[show((l.length:Int)-(r.length:Int))+1=(l.length:Int)-(r.tail.length:Int)from by omega];have c5:=Ki a7 ((l.length:Int)-(r.tail.length:Int));have e4:J5 (fun k=>k=j) O1 w1 O1 (J6 w1 ⟨rb,1,none⟩ (nI ((l.length:Int)-(r.tail.length:Int)))):=J7 (fun e=>hj e.symm) (J0 a7) rfl;have f9:=e6.upd e4 zo zo;have h4:=f5.upd e4;generalize J6 w1 ⟨rb,1,none⟩ (nI ((l.length:Int)-(r.tail.length:Int)))=w2 at *;refine zh ?_;refine zvH (RV.ld c5.r3 rfl) ?_;refine ak (j:=3) c5 rfl (JI _) rfl rfl rfl rfl ?_;have g9:=c5.rOp (op+1);have e3:J5 (fun k=>k=j) O1 w2 O1 (w2.setCell ⟨rb,3,none⟩ (nI (op+1))):=J7 (fun e=>hj e.symm) c5.tag rfl;have f8:=f9.upd e3 zo zo;have f4:=h4.upd e3;have b3:=(b4.trans (e4.pj a0)).trans (e3.pj a0);generalize w2.setCell ⟨rb,3,none⟩ (nI (op+1))=w3 at *;refine zh ?_;refine zc call178 (g' B O1 j rb l r.tail w3 f4 hj e7 hl trivial g9 (g7.upd b3)) ?_;rintro v w4 ⟨x,rfl,e2,f6⟩;have b7:=f6.one;have f7:=f8.upd e2 zo zo;have f3:=f4.upd e2;have e1:=b3.trans (e2.pj a0);refine ax f3 (T+1) zo (Gv _) rfl ?_;intro nb w5 O5 d7 h1 h' i0;refine zsb (us:=#[nI x.1,nI x.2.1,x.2.2]) d7 (ix _) (cn b7) ?_;have e9:=d7.setRow (us:=#[nI x.1,nI x.2.1,x.2.2])
  have h0:J5 (fun k=>k=T+1) O5 w5 O5 (w5.setRow nb #[nI x.1,nI x.2.1,x.2.2]):=ln zo d7.tag rfl;have a4:=h1.trans h0;have e5:=f7.upd a4 zo zo;have c8:=f6.upd a4 hj zo;have h3:=f3.upd a4;have b2:=e1.trans (a4.pT hj a0 (Jy _));generalize w5.setRow nb #[nI x.1,nI x.2.1,x.2.2]=w6 at *
  cases hf:f r.tail with
  |bad p e=>
   rw[hf]at b9 c8;have hM:cu (some f) r=.bad p e:=by unfold cu;dsimp only;rw[hf]
   obtain⟨g1,a,a',a1,g2,g3,g4,g5⟩:=c8;replace a1:Js O5 w6 j rb (rdr kv l a a' ((l.length:Int)-(p:Int)) e) 262:=a1;refine zh ?_;refine zvH (RV.ld a1.r5 rfl) ?_;refine ay (d:=39) rfl (b':=false) ((by simpa using b9.2)) ?_;refine zh ?_;refine zFH rfl rfl ?_;refine zvH (RV.ld a1.r1 rfl) ?_;refine ak (j:=1) a1 rfl (JI _) rfl rfl rfl rfl ?_;have a2:=a1.rAt (a+1);have a3:J5 (fun k=>k=j) O5 w6 O5 (w6.setCell ⟨rb,1,none⟩ (nI (a+1))):=J7 (fun e=>hj e.symm) a1.tag rfl;have b8:=e5.upd a3 zo zo;have d6:=e9.upd a3 zo zo;generalize w6.setCell ⟨rb,1,none⟩ (nI (a+1))=w7 at *;refine zh ?_;refine zvH (RV.ld a2.r3 rfl) ?_;refine ak (j:=3) a2 rfl (JI _) rfl rfl rfl rfl ?_;have a8:=a2.rOp (a'-1);have a5:J5 (fun k=>k=j) O5 w7 O5 (w7.setCell ⟨rb,3,none⟩ (nI (a'-1))):=J7 (fun e=>hj e.symm) a2.tag rfl;have b0:=b8.upd a5 zo zo;have d5:=d6.upd a5 zo zo;generalize w7.setCell ⟨rb,3,none⟩ (nI (a'-1))=w8 at *;have e0:=(b2.trans (a3.pj a0)).trans (a5.pj a0);refine zh ?_;refine zv (ai (us:=aY x) d5.cellsAdd (Gc _) (ix _) rfl) ?_;refine zsb (us:=#[nI x.1,nI x.2.1,x.2.2]) b0 (ix _) (cn b7) ?_;have c':=GZ (us:=#[nI x.1,nI x.2.1,x.2.2]) b0;have a9:J5 (fun k=>k=T) O5 w8 O5 (GT w8 xb #[nI x.1,nI x.2.1,x.2.2]):=ln zo (J0 b0) rfl;have d9:=a8.upd a9 hj zo;have c6:=e0.trans (a9.pT hj a0 (la _));refine zh ?_
   refine aN rfl rfl (c'.cellsAdd) (Gc _) (ix _) (⟨x,rfl,c6.priv hT hj,?_⟩);rw[hM];exact⟨b7,a+1,a'-1,d9.fgt h.tag,zo,zo,zo,zo⟩
  |ok t r2=>
   rw[hf]at b9 c8;obtain⟨a1,hn⟩:=c8;replace a1:Js O5 w6 j rb (rdr kv l ((l.length:Int)-(r2.length:Int)) (op+1) 0 0) 262:=a1;have e8:=b9.1.trans e7;have g0:=(bn r2).trans e8;have hq2l:=g0.length_le;refine zh ?_;refine zvH (RV.ld a1.r5 rfl) ?_;refine ay (d:=39) rfl (b':=true) (rfl) ?_;refine zh ?_;refine zc KI (gm O5 w6 j rb l r2 (op+1) 0 0 hj e8 zo a1) ?_;rintro v w7 ⟨rfl,a2,a3⟩;have b8:=e5.upd a3 zo zo;have d6:=e9.upd a3 zo zo;have h2:=h3.upd a3;have b1:=b2.trans (a3.pj a0);have d4:=hn.upd a3;refine zh ?_
   by_cases hc:(aw r2).headD 0=41
   ·have hM:cu (some f) r=.ok t (aw r2).tail:=by unfold cu;dsimp only;rw[hf];dsimp only;rw[if_pos hc]
    obtain⟨g1,g2⟩:=cm (r:=aw r2) (by rw[hc];decide);refine zFH rfl ((by rw[hc];rfl)) ?_;refine zvH (RV.ld a2.r1 rfl) ?_;refine ak (j:=1) a2 rfl (JI _) rfl rfl rfl rfl ?_;rw[show((l.length:Int)-((aw r2).length:Int))+1=(l.length:Int)-((aw r2).tail.length:Int)from by omega];have a8:=Ki a2 ((l.length:Int)-((aw r2).tail.length:Int));have a5:J5 (fun k=>k=j) O5 w7 O5 (J6 w7 ⟨rb,1,none⟩ (nI ((l.length:Int)-((aw r2).tail.length:Int)))):=J7 (fun e=>hj e.symm) (J0 a2) rfl;have b0:=b8.upd a5 zo zo;have d5:=d6.upd a5 zo zo;have d3:=d4.upd a5;generalize J6 w7 ⟨rb,1,none⟩ (nI ((l.length:Int)-((aw r2).tail.length:Int)))=w8 at *;refine zh ?_;refine zvH (RV.ld a8.r3 rfl) ?_;refine ak (j:=3) a8 rfl (JI _) rfl rfl rfl rfl ?_;rw[show op+1-1=op from by omega];have g8:=a8.rOp op;have c7:J5 (fun k=>k=j) O5 w8 O5 (w8.setCell ⟨rb,3,none⟩ (nI op)):=J7 (fun e=>hj e.symm) a8.tag rfl;have d0:=b0.upd c7 zo zo;have g6:=d5.upd c7 zo zo;have d2:=d3.upd c7;generalize w8.setCell ⟨rb,3,none⟩ (nI op)=w9 at *;have d':=(b1.trans (a5.pj a0)).trans (c7.pj a0);refine zh ?_;refine zv (ai (us:=aY x) g6.cellsAdd (Gc _) (ix _) rfl) ?_;refine zsb (us:=#[nI x.1,nI x.2.1,x.2.2]) d0 (ix _) (cn b7) ?_;have c':=GZ (us:=#[nI x.1,nI x.2.1,x.2.2]) d0;have a9:J5 (fun k=>k=T) O5 w9 O5 (GT w9 xb #[nI x.1,nI x.2.1,x.2.2]):=ln zo (J0 d0) rfl
    have d9:=g8.upd a9 hj zo;have c6:=d'.trans (a9.pT hj a0 (la _));refine zh ?_;refine aN rfl rfl (c'.cellsAdd) (Gc _) (ix _) (⟨x,rfl,c6.priv hT hj,?_⟩);rw[hM];exact⟨d9.fgt h.tag,(d2.upd a9).low c6⟩
   have hM:cu (some f) r=.bad (aw r2).length 4:=by unfold cu;dsimp only;rw[hf];dsimp only;rw[if_neg hc]
   refine zTH rfl ((xj _ 41 zd hc)) ?_;refine zv (RV.ld a2.r1 rfl) ?_
   refine zc L9 (gD _ O5 w7 j rb l _ _ 0 ((l.length:Int)-((aw r2).length:Int)) 4 hj h2 a2) ?_;rintro v wf ⟨rfl,d8,b6⟩;have a6:=b8.upd b6 zo zo;refine zsa (us:=#[nI 0,nI 0,nS]) a6 (ix _) ?_
   have c9:=a6.setRow (us:=#[nI 0,nI 0,nS]);have b5:J5 (fun k=>k=T) O5 wf O5 (wf.setRow xb #[nI 0,nI 0,nS]):=ln zo a6.tag rfl;have hbg:=d8.upd b5 hj zo;refine zh ?_;refine aN rfl rfl (c9.cellsAdd) (Gc _) (ix _) (⟨(0,0,nS),rfl,((b1.trans (b6.pj a0)).trans (b5.pT hj a0 (la _))).priv hT hj,?_⟩);rw[hM];exact⟨rfl,_,op+1,hbg.fgt h.tag,zo,zo,zo,zo⟩
theorem DJ(al:Option (List UInt8->PR))(op:Int)(b4:0<=op/\op<=20)(ha:uT kv kn al op)(hg:mW al):L6 kv kn 227 [] op (jo kn al) (fun _=>True):=by
 intro B O j rb l r w hR hj hr hl c9 h b5;obtain⟨T,a1,hT⟩:=hR.bound;have d6:j<T:=by rw[<-h.tag];exact hT rb
 have d4:=hr.length_le;refine Gi func227 ntmps227 rfl rfl ?_;refine zh ?_;refine ax hR T zo (Gv _) rfl ?_;intro xb w1 O1 c8 c6 d3 d7;have d1:=h.upd c6 hj zo;have b7:=c6.pT hj a1 (la _);have hq:=(bn r).trans hr;have d5:=hq.length_le;refine zh ?_;refine zc KI (gm O1 w1 j rb l r op 0 0 hj hr zo d1) ?_;rintro v w2 ⟨rfl,a2,b8⟩;have b1:=c8.upd b8 zo zo;have b2:=d3.upd b8;have a0:=b7.trans (b8.pj a1);refine zh ?_;refine zc call228 (iX ((aw r).headD 0) w2) ?_;rintro v w9 ⟨rfl,b9⟩;rw[b9];clear b9 w9;refine zh ?_
 by_cases h1:aj ((aw r).headD 0)=true
 ·have hM:jo kn al r=gK kn (aw r):=by unfold jo;rw[if_pos h1]
  rw[hM];refine zTH rfl (h1) ?_;refine zc call232 (Bg op b4 B O1 j rb l (aw r) w2 b2 hj hq hl h1 a2 (b5.upd a0)) ?_;rintro v wc ⟨x,rfl,a6,a7⟩;have a8:=a7.one;have a3:=GY b1 a6 zo zo;refine zsb (us:=#[nI x.1,nI x.2.1,x.2.2]) a3 (ix _) (cn a8) ?_;have a9:=GZ (us:=#[nI x.1,nI x.2.1,x.2.2]) a3;have a4:J5 (fun k=>k=T) O1 wc O1 (GT wc xb #[nI x.1,nI x.2.1,x.2.2]):=ln zo (J0 a3) rfl;have a5:=(a0.trans (a6.pj a1)).trans (a4.pT hj a1 (la _));refine zh ?_;refine aN rfl rfl (a9.cellsAdd) (Gc _) (ix _) (⟨x,rfl,a5.priv hT hj,(a7.upd a4 hj zo).low a5 h.tag⟩)
 refine zFH rfl ((by simpa using h1)) ?_
 by_cases h2:(aw r).headD 0=126
 ·have hM:jo kn al r=dR 2 (aw r).tail:=by unfold jo;rw[if_neg h1,if_pos h2]
  obtain⟨k1,k2⟩:=cm (r:=aw r) (by rw[h2];decide);rw[hM];refine zTH rfl ((by rw[h2];rfl)) ?_;refine zvH (RV.ld a2.r1 rfl) ?_;refine ak (j:=1) a2 rfl (JI _) rfl rfl rfl rfl ?_;rw[show((l.length:Int)-((aw r).length:Int))+1=(l.length:Int)-((aw r).tail.length:Int)from by omega];have b6:=Ki a2 ((l.length:Int)-((aw r).tail.length:Int));have a':J5 (fun k=>k=j) O1 w2 O1 (J6 w2 ⟨rb,1,none⟩ (nI ((l.length:Int)-((aw r).tail.length:Int)))):=J7 (fun e=>hj e.symm) (J0 a2) rfl;have b0:=b1.upd a' zo zo;have d2:=b2.upd a';refine zh ?_;refine zc call233 (uB 2 op b4 B O1 j rb l (aw r).tail _ d2 hj (k1.trans hq) hl trivial b6 (b5.upd (a0.trans (a'.pj a1)))) ?_;rintro v wc ⟨x,rfl,a6,a7⟩;have a8:=a7.one;have a3:=GY b0 a6 zo zo;refine zsb (us:=#[nI x.1,nI x.2.1,x.2.2]) a3 (ix _) (cn a8) ?_;have a9:=GZ (us:=#[nI x.1,nI x.2.1,x.2.2]) a3;have a4:J5 (fun k=>k=T) O1 wc O1 (GT wc xb #[nI x.1,nI x.2.1,x.2.2]):=ln zo (J0 a3) rfl;have a5:=((a0.trans (a'.pj a1)).trans (a6.pj a1)).trans (a4.pT hj a1 (la _));refine zh ?_;refine aN rfl rfl (a9.cellsAdd) (Gc _) (ix _) (⟨x,rfl,a5.priv hT hj,(a7.upd a4 hj zo).low a5 h.tag⟩)
 refine zFH rfl ((iD _ 126 zd h2)) ?_
 by_cases h3:(aw r).headD 0=94
 ·have hM:jo kn al r=.ok (.mk 3 0 []) (aw r).tail:=by unfold jo;rw[if_neg h1,if_neg h2,if_pos h3]
  obtain⟨k1,k2⟩:=cm (r:=aw r) (by rw[h3];decide);rw[hM];refine zTH rfl ((by rw[h3];rfl)) ?_;refine zvH (RV.ld a2.r1 rfl) ?_;refine ak (j:=1) a2 rfl (JI _) rfl rfl rfl rfl ?_;rw[show((l.length:Int)-((aw r).length:Int))+1=(l.length:Int)-((aw r).tail.length:Int)from by omega];have b6:=Ki a2 ((l.length:Int)-((aw r).tail.length:Int));have a':J5 (fun k=>k=j) O1 w2 O1 (J6 w2 ⟨rb,1,none⟩ (nI ((l.length:Int)-((aw r).tail.length:Int)))):=J7 (fun e=>hj e.symm) (J0 a2) rfl;have b0:=b1.upd a' zo zo;have a8:((3,0,nS):N3).2.2.oneCell'=true:=rfl;refine zh ?_;refine zv (aF xW (Gv _) rfl (by first|rfl|(simp only[J4,h.one];rfl)) rfl rfl) ?_;refine zsb (us:=#[nI ((3,0,nS):N3).1,nI ((3,0,nS):N3).2.1,((3,0,nS):N3).2.2]) b0 (ix _) (cn a8) ?_;have a9:=GZ (us:=#[nI ((3,0,nS):N3).1,nI ((3,0,nS):N3).2.1,((3,0,nS):N3).2.2]) b0;have a4:J5 (fun k=>k=T) O1 (J6 w2 ⟨rb,1,none⟩ (nI ((l.length:Int)-((aw r).tail.length:Int)))) O1 (GT (J6 w2 ⟨rb,1,none⟩ (nI ((l.length:Int)-((aw r).tail.length:Int)))) xb #[nI ((3,0,nS):N3).1,nI ((3,0,nS):N3).2.1,((3,0,nS):N3).2.2]):=ln zo (J0 b0) rfl;have d0:=b6.upd a4 hj zo;have a5:=(a0.trans (a'.pj a1)).trans (a4.pT hj a1 (la _));refine zh ?_;refine aN rfl rfl (a9.cellsAdd) (Gc _) (ix _) (⟨(3,0,nS),rfl,a5.priv hT hj,d0.fgt h.tag,KV _ _ _ _⟩)
 refine zFH rfl ((iD _ 94 zd h3)) ?_
 by_cases h4:(aw r).headD 0=40
 ·have hM:jo kn al r=cu al (aw r):=by unfold jo;rw[if_neg h1,if_neg h2,if_neg h3,if_pos h4]
  rw[hM];refine zTH rfl ((by rw[h4];rfl)) ?_;refine zc call234 (uG al op b4 ha hg B O1 j rb l (aw r) w2 b2 hj hq hl (show(aw r).headD 0≠0 by rw[h4];decide) a2 (b5.upd a0)) ?_;rintro v wc ⟨x,rfl,a6,a7⟩;have a8:=a7.one;have a3:=GY b1 a6 zo zo;refine zsb (us:=#[nI x.1,nI x.2.1,x.2.2]) a3 (ix _) (cn a8) ?_;have a9:=GZ (us:=#[nI x.1,nI x.2.1,x.2.2]) a3;have a4:J5 (fun k=>k=T) O1 wc O1 (GT wc xb #[nI x.1,nI x.2.1,x.2.2]):=ln zo (J0 a3) rfl;have a5:=(a0.trans (a6.pj a1)).trans (a4.pT hj a1 (la _));refine zh ?_;refine aN rfl rfl (a9.cellsAdd) (Gc _) (ix _) (⟨x,rfl,a5.priv hT hj,(a7.upd a4 hj zo).low a5 h.tag⟩)
 have hM:jo kn al r=.bad (aw r).length 4:=by unfold jo;rw[if_neg h1,if_neg h2,if_neg h3,if_neg h4]
 rw[hM];refine zFH rfl ((iD _ 40 zd h4)) ?_;refine zv (RV.ld a2.r1 rfl) ?_;refine zc L9 (gD _ O1 w2 j rb l _ _ 0 ((l.length:Int)-((aw r).length:Int)) 4 hj b2 a2) ?_;rintro v wf ⟨rfl,c',c5⟩;have b3:=b1.upd c5 zo zo;refine zsa (us:=#[nI 0,nI 0,nS]) b3 (ix _) ?_;have c7:=b3.setRow (us:=#[nI 0,nI 0,nS]);have b':J5 (fun k=>k=T) O1 wf O1 (wf.setRow xb #[nI 0,nI 0,nS]):=ln zo b3.tag rfl;have hbg:=c'.upd b' hj zo;refine zh ?_;refine aN rfl rfl (c7.cellsAdd) (Gc _) (ix _) (⟨(0,0,nS),rfl,((a0.trans (c5.pj a1)).trans (b'.pT hj a1 (la _))).priv hT hj,?_⟩);exact⟨rfl,_,op,hbg.fgt h.tag,zo,zo,zo,zo⟩
end
section
variable{kv:Gh}{kn:Kn}
theorem FO(c:UInt8):sH [42,43,63] c=match opM c with|some k=>(k:Nat)|none=>-1:=by
 unfold sH opM
 by_cases h1:c=42
 ·subst h1;rfl
 by_cases h2:c=43
 ·subst h2;rfl
 by_cases h3:c=63
 ·subst h3;rfl
 rw[if_neg h1,if_neg h2,if_neg h3];have:[(42:UInt8),43,63].findIdx? (· == c)=none:=by
  rw[Ju];intro x hx;simp at hx
  rcases hx with rfl|rfl|rfl<;>simp<;>intro e<;>first|exact h1 e.symm|exact h2 e.symm|exact h3 e.symm
 rw[this]
theorem tD(al:Option (List UInt8 → PR))(op:Int)(hop:0 ≤ op ∧ op ≤ 20)(ha:uT kv kn al op)(hg:mW al): L6 kv kn 216 [] op (fm kn al) (fun _ => True) := by
  intro B O j rb l r w hR hj hr hl hpre h hkn
  obtain⟨T, hT0, hT⟩ := hR.bound
  have hjT:j < T := by rw[← h.tag]; exact hT rb
  have hrl := hr.length_le
  refine Gi func216 ntmps216 rfl rfl ?_
  refine zh ?_
  refine ax hR T (by omega) (Gv _) rfl ?_
  intro xb w1 O1 hx1 hU1 hR1 hE1
  have hb1 := h.upd hU1 hj (by omega)
  have hUt1 := hU1.pT hj hT0 (la _)
  have hga := qE (kn := kn) hg r
  refine zh ?_
  refine zc call227 (DJ al op hop ha hg B O1 j rb l r w1 hR1 hj hr hl trivial hb1 (hkn.upd hUt1)) ?_
  rintro v w2 ⟨x, rfl, hU2, hP2⟩
  have hxo := hP2.one
  have hx2 := hx1.upd hU2 (by omega) (by omega)
  have hR2 := hR1.upd hU2
  have hUt2 := hUt1.trans (hU2.pj hT0)
  refine ax hR2 (T + 1) (by omega) (Gv _) rfl ?_
  intro nb w3 O3 hn3 hU3 hR3 hE3
  refine zsb (us := #[.int .i64 x.1, .int .i64 x.2.1, x.2.2]) hn3 (ix _) (cn hxo) ?_
  have hn4 := hn3.setRow (us := #[.int .i64 x.1, .int .i64 x.2.1, x.2.2])
  have hU4:J5 (fun k => k = T + 1) O3 w3 O3 (w3.setRow nb #[.int .i64 x.1, .int .i64 x.2.1, x.2.2]) := ln (by omega) hn3.tag rfl
  have hU34 := hU3.trans hU4
  have hx4 := hx2.upd hU34 (by omega) (by omega)
  have hP4 := hP2.upd hU34 hj (by omega)
  have hR4 := hR2.upd hU34
  have hUt4 := hUt2.trans (hU34.pT hj hT0 (Jy _))
  generalize w3.setRow nb #[.int .i64 x.1, .int .i64 x.2.1, x.2.2] = w4 at *
  cases hf:jo kn al r with
  |bad p e =>
    rw[hf]at hga hP4
    have hM:fm kn al r = .bad p e := by unfold fm; rw[hf]
    have hP5 := hP4
    obtain⟨g1, a, op', hb4, g2, g3, g4, g5⟩ := hP4
    replace hb4:Js O3 w4 j rb (rdr kv l a op' ((l.length:Int) - (p:Int)) e) 262 := hb4
    refine zh ?_
    refine zvH (RV.ld hb4.r5 rfl) ?_
    refine zTH rfl ((by simpa using hga.2)) ?_
    refine zv (ai (us := aY x) hn4.cellsAdd (Gc _) (ix _) rfl) ?_
    refine zsb (us := #[.int .i64 x.1, .int .i64 x.2.1, x.2.2]) hx4 (ix _) (cn hxo) ?_
    have hxd := GZ (us := #[.int .i64 x.1, .int .i64 x.2.1, x.2.2]) hx4
    have hUd:J5 (fun k => k = T) O3 w4 O3 (GT w4 xb #[.int .i64 x.1, .int .i64 x.2.1, x.2.2]) := ln (by omega) (J0 hx4) rfl
    have hUz := hUt4.trans (hUd.pT hj hT0 (la _))
    refine zh ?_
    refine aN rfl rfl (hxd.cellsAdd) (Gc _) (ix _) (⟨x, rfl, hUz.priv hT hj, ?_⟩)
    rw[hM]
    exact(hP5.upd hUd hj (by omega)).low hUz h.tag
  |ok t r1 =>
    rw[hf]at hga hP4
    obtain⟨hb4, hnt4⟩ := hP4
    replace hb4:Js O3 w4 j rb (rdr kv l ((l.length:Int) - (r1.length:Int)) op 0 0) 262 := hb4
    have hr1 := hga.1.trans hr
    have hq1 := (bn r1).trans hr1
    have hql := hq1.length_le
    refine zh ?_
    refine zvH (RV.ld hb4.r5 rfl) ?_
    refine zFH rfl rfl ?_
    refine zc KI (gm O3 w4 j rb l r1 op 0 0 hj hr1 (by omega) hb4) ?_
    rintro v w5 ⟨rfl, hb5, hU5⟩
    have hx5 := hx4.upd hU5 (by omega) (by omega)
    have hn5 := hn4.upd hU5 (by omega) (by omega)
    have hR5 := hR4.upd hU5
    have hUt5 := hUt4.trans (hU5.pj hT0)
    have hnt5 := hnt4.upd hU5
    refine zc Mf (dK [42, 43, 63] ((aw r1).headD 0) w5) ?_
    rintro v w9 ⟨rfl, hw9⟩
    rw[hw9, FO]
    clear hw9 w9
    have hb6 := hb5.drew
    have hx6 := hx5.drew
    have hn6 := hn5.drew
    have hnt6 := hnt5.drew
    have hUt6 := hUt5.drew
    have hR6 := hR5.drew
    refine zh ?_
    refine JO (by kernel_rfl) (by kernel_rfl) ?_
    refine zh ?_
    refine zwH (RV.ld hb6.r1 rfl) ?_
    refine zw (RV.ld hb6.r0 rfl) ?_
    refine zwH (cx Gb rfl) ?_
    cases hk:opM ((aw r1).headD 0)with
    |none =>
      have hM:fm kn al r = .ok t (aw r1) := by unfold fm; rw[hf]; dsimp only; rw[hk]
      by_cases hq0:(aw r1).length = 0
      · skip
        refine bP (d := 30) rfl (b' := true) ((beq_iff_eq.2 (by omega))) ?_
        generalize w5.drew = w6 at *
        refine zh ?_
        refine zw (aQ rfl rfl) ?_
        refine JH ?_
        refine zh ?_
        refine zTH rfl rfl ?_
        refine zv (ai (us := aY x) hn6.cellsAdd (Gc _) (ix _) rfl) ?_
        refine zsb (us := #[.int .i64 x.1, .int .i64 x.2.1, x.2.2]) hx6 (ix _) (cn hxo) ?_
        have hxd := GZ (us := #[.int .i64 x.1, .int .i64 x.2.1, x.2.2]) hx6
        have hUd:J5 (fun k => k = T) O3 w6 O3 (GT w6 xb #[.int .i64 x.1, .int .i64 x.2.1, x.2.2]) := ln (by omega) (J0 hx6) rfl
        have hUz := hUt6.trans (hUd.pT hj hT0 (la _))
        have hbd := hb6.upd hUd hj (by omega)
        refine zh ?_
        refine aN rfl rfl (hxd.cellsAdd) (Gc _) (ix _) (⟨x, rfl, hUz.priv hT hj, ?_⟩)
        rw[hM]
        exact⟨hbd.fgt h.tag, (hnt6.upd hUd).low hUz⟩
      · skip
        refine bP (d := 30) rfl (b' := false) ((beq_eq_false_iff_ne.2 (by omega))) ?_
        refine zh ?_
        refine zw (aW rfl rfl) ?_
        refine JH ?_
        refine zh ?_
        refine aZ rfl rfl ?_
        generalize w5.drew = w6 at *
        refine zh ?_
        refine zv (ai (us := aY x) hn6.cellsAdd (Gc _) (ix _) rfl) ?_
        refine zsb (us := #[.int .i64 x.1, .int .i64 x.2.1, x.2.2]) hx6 (ix _) (cn hxo) ?_
        have hxd := GZ (us := #[.int .i64 x.1, .int .i64 x.2.1, x.2.2]) hx6
        have hUd:J5 (fun k => k = T) O3 w6 O3 (GT w6 xb #[.int .i64 x.1, .int .i64 x.2.1, x.2.2]) := ln (by omega) (J0 hx6) rfl
        have hUz := hUt6.trans (hUd.pT hj hT0 (la _))
        have hbd := hb6.upd hUd hj (by omega)
        refine zh ?_
        refine aN rfl rfl (hxd.cellsAdd) (Gc _) (ix _) (⟨x, rfl, hUz.priv hT hj, ?_⟩)
        rw[hM]
        exact⟨hbd.fgt h.tag, (hnt6.upd hUd).low hUz⟩
    |some k =>
      have hM:fm kn al r = .ok (.mk (6 + (k:Nat)) 0 [t]) (aw r1).tail := by unfold fm; rw[hf]; dsimp only; rw[hk]
      obtain⟨k1, k2⟩ := cm (D3 hk)
      have hk3:k ≤ 2 := by
        unfold opM at hk
        (repeat' split at hk) <;> simp at hk <;> omega
      refine bP (d := 30) rfl (b' := false) ((beq_eq_false_iff_ne.2 (by omega))) ?_
      refine zh ?_
      refine zw (aW rfl rfl) ?_
      refine JH ?_
      refine zh ?_
      refine aS rfl ((decide_eq_false (by simp))) ?_
      generalize w5.drew = w6 at *
      refine zh ?_
      refine zvH (RV.ld hb6.r1 rfl) ?_
      refine ak (j := 1) hb6 rfl (JI _) rfl rfl rfl rfl ?_
      rw[show((l.length:Int) - ((aw r1).length:Int)) + 1 = (l.length:Int) - ((aw r1).tail.length:Int)from by omega]
      have hb7 := Ki hb6 ((l.length:Int) - ((aw r1).tail.length:Int))
      have hU7:J5 (fun k => k = j) O3 w6 O3 (J6 w6 ⟨rb, 1, none⟩ (.int .i64 ((l.length:Int) - ((aw r1).tail.length:Int)))) := J7 (fun e => hj e.symm) (J0 hb6) rfl
      have hx7 := hx6.upd hU7 (by omega) (by omega)
      have hn7 := hn6.upd hU7 (by omega) (by omega)
      have hR7 := hR6.upd hU7
      have hUt7 := hUt6.trans (hU7.pj hT0)
      have hnt7 := hnt6.upd hU7
      generalize J6 w6 ⟨rb, 1, none⟩ (.int .i64 ((l.length:Int) - ((aw r1).tail.length:Int))) = w7 at *
      refine zh ?_
      refine zv (Kg rfl rfl (K0 (by dsimp only; omega))) ?_
      refine zv (ai (us := aY x) hn7.cellsAdd (Gc _) (ix _) rfl) ?_
      refine aL elN (enc := aY) x rfl rfl rfl (by decide) rfl ?_
      intro w8 h8 hE8
      have hX8:J5 (fun _ => False) O3 w7 O3 w8 := aa (fun h => h) O3 hE8
      have hx8 := hx7.upd hX8 (by omega) (fun h => h)
      have hb8 := hb7.upd hX8 hj (fun h => h)
      have hUt8 := hUt7.trans (jz O3 hE8 hj hT0)
      have hnt8 := hnt7.upd hX8
      have hfr:Free O3 w8 (.slice (some ⟨w7.heap.size, 0, none⟩) 1 1) := fun a n c e _ => by
        cases e
        refine⟨JV fun hne => by have := (hR7.rng _ hne).2; simp at this, ?_⟩
        obtain⟨_, _, e, _, _, hh⟩ := h8.shape
        have hc := KE _ _ (h8.cells 0 (by simp) 0 _ rfl)
        simpa[adr, K1]using hc
      have hN:Nt O3 w8 (.mk (6 + (k:Nat)) 0 [t]) (6 + (k:Nat), 0, .slice (some ⟨w7.heap.size, 0, none⟩) 1 1) :=
        .mk (xs := [x]) h8 hfr rfl (fun i hi => by obtain rfl : i = 0 := by simpa using hi
                                                   rw[ar, ar]; exact hnt8)
      have hxo2:((6 + (k:Nat), 0, .slice (some ⟨w7.heap.size, 0, none⟩) 1 1):N3).2.2.oneCell' = true := rfl
      clear hxo
      have hxo := hxo2
      refine zv (aF xW (Gv _) rfl (by first | rfl | (simp only[J4, JB]; rfl)) rfl rfl) ?_
      refine zsb (us := #[.int .i64 ((6 + (k:Nat), 0, .slice (some ⟨w7.heap.size, 0, none⟩) 1 1):N3).1, .int .i64 ((6 + (k:Nat), 0, .slice (some ⟨w7.heap.size, 0, none⟩) 1 1):N3).2.1, ((6 + (k:Nat), 0, .slice (some ⟨w7.heap.size, 0, none⟩) 1 1):N3).2.2]) hx8 (ix _) (cn hxo) ?_
      have hxd := GZ (us := #[.int .i64 ((6 + (k:Nat), 0, .slice (some ⟨w7.heap.size, 0, none⟩) 1 1):N3).1, .int .i64 ((6 + (k:Nat), 0, .slice (some ⟨w7.heap.size, 0, none⟩) 1 1):N3).2.1, ((6 + (k:Nat), 0, .slice (some ⟨w7.heap.size, 0, none⟩) 1 1):N3).2.2]) hx8
      have hUd:J5 (fun k => k = T) O3 w8 O3 (GT w8 xb #[.int .i64 ((6 + (k:Nat), 0, .slice (some ⟨w7.heap.size, 0, none⟩) 1 1):N3).1, .int .i64 ((6 + (k:Nat), 0, .slice (some ⟨w7.heap.size, 0, none⟩) 1 1):N3).2.1, ((6 + (k:Nat), 0, .slice (some ⟨w7.heap.size, 0, none⟩) 1 1):N3).2.2]) := ln (by omega) (J0 hx8) rfl
      have hUz := hUt8.trans (hUd.pT hj hT0 (la _))
      have hbd := hb8.upd hUd hj (by omega)
      refine zh ?_
      refine aN rfl rfl (hxd.cellsAdd) (Gc _) (ix _) (⟨_, rfl, hUz.priv hT hj, ?_⟩)
      rw[hM]
      exact⟨hbd.fgt h.tag, (hN.upd hUd).low hUz⟩
end
section
variable{kv:Gh}{kn:Kn}
theorem zW(c:UInt8)(w:ka):Ka J9 217 [.int .u8 (c.toNat:Int)] w fun v w'=>v=.bool (fD c)/\w'=w:=by
 refine Gi func217 ntmps217 rfl rfl ?_;refine zh ?_
 refine zc call228 (iX c w) ?_;rintro v w9 ⟨rfl,a0⟩;rw[a0];clear a0 w9;refine zh ?_
 cases h1:aj c with
 |true=>
  refine ay (d:=5) rfl (b':=true) (rfl) ?_;refine zh ?_
  refine ae rfl rfl (⟨by simp[fD,h1],rfl⟩)
 |false=>
  refine ay (d:=5) rfl (b':=false) (rfl) ?_;refine zh ?_
  by_cases h2:c=126
  ·refine ay (d:=9) rfl (b':=true) ((by rw[h2];rfl)) ?_;refine zh ?_
   refine ae rfl rfl (⟨by simp[fD,h2],rfl⟩)
  refine ay (d:=9) rfl (b':=false) ((iD _ 126 zd h2)) ?_;refine zh ?_
  by_cases h3:c=94
  ·refine ay (d:=13) rfl (b':=true) ((by rw[h3];rfl)) ?_;refine zh ?_
   refine ae rfl rfl (⟨by simp[fD,h3],rfl⟩)
  refine ay (d:=13) rfl (b':=false) ((iD _ 94 zd h3)) ?_;refine zh ?_
  have e:=oK c 40 zd;refine ae rfl rfl (⟨?_,rfl⟩);have e2:fD c=decide (c=40):=by simp[fD,h1,h2,h3]
  rw[e2];exact congrArg L0 e
def PR.andThen(M:PR)(f:Nd->List UInt8->PR):PR:=match M with | .bad p e=>.bad p e | .ok t r=>f t r
def LoopS(kv:Gh)(op:Int)(l:List UInt8)(j rb:Nat)(F:Nat->List Nd->List UInt8->PR)(M:PR)(O:Nat->Nat)(w:ka)(n:Nat)(r1:List UInt8)(ts:List Nd)(xs:List N3):Prop:=
 (Rdr kv O w j rb l ((l.length:Int)-(r1.length:Int)) op 0 0/\r1 <:+ l/\r1.length<n/\xs.length+n<=5000/\ts.length=xs.length/\(∀i,i<xs.length->Nt O w (nth ts i) (nth xs i))/\F n ts r1=M)\/
 (∃p e a op',M=.bad p e/\e≠0/\Rdr kv O w j rb l a op' ((l.length:Int)-(p:Int)) e/\0<=a/\a<=l.length+20-op/\op<=op'/\op'<=20)
theorem LoopS.upd{op:Int}{l:List UInt8}{j rb:Nat}{F:Nat->List Nd->List UInt8->PR}{M:PR}{O O':Nat->Nat}{w w':ka}{n:Nat}{r1:List UInt8}{ts:List Nd}{xs:List N3}{S:Nat->Prop}(h:LoopS kv op l j rb F M O w n r1 ts xs)(u:J5 S O w O' w')(hj:j≠0)(hS:¬S j):LoopS kv op l j rb F M O' w' n r1 ts xs:=by
 rcases h with⟨h1,h2,h3,h4,h5,h6,h7⟩|⟨p,e,a,o,h1,h2,h3,h4⟩
 ·exact .inl ⟨GY h1 u hj hS,h2,h3,h4,h5,fun i hi=>(h6 i hi).upd u,h7⟩
 exact .inr ⟨p,e,a,o,h1,h2,GY h3 u hj hS,h4⟩
theorem LoopS.next{op:Int}{l:List UInt8}{j rb:Nat}{F:Nat->List Nd->List UInt8->PR}{M M':PR}{O:Nat->Nat}{w:ka}{n:Nat}{q r1:List UInt8}{ts:List Nd}{xs:List N3}{x:N3}(hP:Lp kv O w j rb l op x M')(hG:Good q M')(hq:q <:+ l)(a0:q.length<=r1.length)(h3:r1.length<n+1)(h4:xs.length+(n+1)<=5000)(h5:ts.length=xs.length) 
  (h6:∀i,i<xs.length->Nt O w (nth ts i) (nth xs i)) (h7:F (n+1) ts r1=M) (hF:F (n+1) ts r1=M'.andThen fun t r2=>F n (ts++[t]) r2):∃n' r' ts',n'<n+1/\LoopS kv op l j rb F M O w n' r' ts' (xs++[x]):=by
 cases M' with
 |bad p e=>
  obtain⟨g1,a,o,g2,g3⟩:=hP;exact⟨0,[],[],zo,.inr ⟨p,e,a,o,by rw[<-h7,hF];rfl,hG.2,g2,g3⟩⟩
 |ok t r2=>
  refine⟨n,r2,ts++[t],zo,.inl ⟨hP.1,hG.1.trans hq,by have:=hG.2;omega,by simp;omega,by simp[h5],fun i hi=>?_,by rw[<-h7,hF];rfl⟩⟩;simp only[JK,JP]at hi
  by_cases e:i<xs.length
  ·rw[aB (by simp;omega),aB (by simp;omega),Jn zo,Jn e,<-aB zo,<-aB e];exact h6 i e
  obtain rfl:i=xs.length:=zo;rw[aB (by simp;omega),aB (by simp),JF zo,JF zo];simp[h5];exact hP.2
theorem oY{op:Int}{l:List UInt8}{j rb:Nat}{F:Nat->List Nd->List UInt8->PR}{M M':PR}{O:Nat->Nat}{w:ka}{r:List UInt8}{x:N3}(hP:Lp kv O w j rb l op x M')(hG:Good r M')(hr:r <:+ l)(hl:l.length<=4096)(hF:M=M'.andThen fun t r2=>F (r2.length+1) [t] r2):∃n' r' ts',LoopS kv op l j rb F M O w n' r' ts' [x]:=by
 cases M' with
 |bad p e=>
  obtain⟨g1,a,o,g2,g3⟩:=hP;exact⟨0,[],[],.inr ⟨p,e,a,o,hF,hG.2,g2,g3⟩⟩
 |ok t r2=>
  have:=hr.length_le;refine⟨r2.length+1,r2,[t],.inl ⟨hP.1,hG.1.trans hr,zo,by have:=hG.2;simp;omega,rfl,fun i hi=>?_,hF.symm⟩⟩;obtain rfl:i=0:=by simpa using hi
  rw[ar,ar];exact hP.2
theorem Nt.oneM{O O':Nat->Nat}{w w':ka}{k:Int}{ts:List Nd}{xs:List N3}{lv:Gh}{T U B:Nat}{S:Nat->Prop}(a0:L2 aY 83 3 O' w' U lv xs)(a1:T<=U)(a2:0<T)(hT:∀b,O b<T)(r:KG B O' w')(u:J5 S O w O' w')(h5:ts.length=xs.length)(h6:∀i,i<xs.length->Nt O' w' (nth ts i) (nth xs i))(_:1<=xs.length):
  Nt O w' (oneM k ts) (if xs.length=1 then nth xs 0 else(k,0,lv)):=by
 unfold Kf
 by_cases e:xs.length=1
 ·rw[if_pos zo,if_pos e];exact(h6 0 zo).low u
 rw[if_neg zo,if_neg e];exact .mk a0.sl (a0.freeT zo (fun b=>JD (hT b) a1) r u) h5 (fun i hi=>(h6 i hi).low u)
theorem AM(al:Option (List UInt8->PR))(op:Int)(f3:0<=op/\op<=20)(ha:uT kv kn al op)(hg:mW al):L6 kv kn 192 [] op (CD kn al) (fun _=>True):=by
 intro B O j rb l r w hR hj hr hl h0 h f5;obtain⟨T,a6,hT⟩:=hR.bound;have i2:j<T:=by rw[<-h.tag];exact hT rb
 have i1:=hr.length_le;refine Gi func192 ntmps192 rfl rfl ?_;refine zh ?_;refine ax hR T zo (Gv _) rfl ?_;intro xb w1 O1 g9 f7 f' i3;have h4:=h.upd f7 hj zo;have b6:=f7.pT hj a6 (la _);refine zh ?_;refine zc call216 (tD al op f3 ha hg B O1 j rb l r w1 f' hj hr hl trivial h4 (f5.upd b6)) ?_;rintro v w2 ⟨x,rfl,e2,g1⟩;have c8:=g1.one;have g8:=g9.upd e2 zo zo;have h':=f'.upd e2;have d9:=b6.trans (e2.pj a6);refine bS elN (enc:=aY) h' (T+1) zo x rfl rfl rfl zd rfl ?_;intro lv w3 O3 b4 e1 h9;have g7:=g8.upd e1 zo zo;have i0:=g1.upd e1 hj zo;have d8:=d9.trans (e1.pT hj a6 (Jy _));have b5:∀i,i<[x].length->(nth [x] i).2.2.oneCell'=true:=fun i hi=>by
  obtain rfl:i=0:=by simpa using hi
  rw[ar];exact c8
 obtain⟨n0,r0,g3,h6⟩:=oY (F:=dA kn al) (M:=CD kn al r) i0 (gn (kn:=kn) hg r) hr hl rfl;refine zh ?_;refine zlp (fun y:Nat×List UInt8×List Nd×List N3×(Nat->Nat)×World×Gh=>[(0,nP rb),(2,nP xb),(3,y.2.2.2.2.2.2)]) (fun y=>y.2.2.2.2.2.1) (fun y=>Js y.2.2.2.2.1 y.2.2.2.2.2.1 T xb #[nI 0,nI 0,nS] 83/\L2 aY 83 3 y.2.2.2.2.1 y.2.2.2.2.2.1 (T+1) y.2.2.2.2.2.2 y.2.2.2.1/\1<=y.2.2.2.1.length/\(∀i,i<y.2.2.2.1.length->(nth y.2.2.2.1 i).2.2.oneCell'=true)/\J5 (fun k=>k=j\/T<=k) O w y.2.2.2.2.1 y.2.2.2.2.2.1/\KG B y.2.2.2.2.1 y.2.2.2.2.2.1/\LoopS kv op l j rb (dA kn al) (CD kn al r) y.2.2.2.2.1 y.2.2.2.2.2.1 y.1 y.2.1 y.2.2.1 y.2.2.2.1) (fun y=>y.1) (n0,r0,g3,[x],O3,w3,lv) (⟨g7,b4,la _,b5,d8,h9,h6⟩) ?_;rintro⟨n,r1,ts,xs,O4,w4,a0⟩ ⟨c',a4,a8,a1,e0,e4,f8⟩;dsimp only at c' a4 a8 a1 e0 e4 f8 ⊢
 rcases f8 with⟨a',e9,h1,h3,f4,g',g2⟩|⟨p,e,a,e5,hM,he,a',d5,d4,d3,d2⟩
 ·have e':=(bn r1).trans e9;have d0:=dy r1;obtain⟨m,rfl⟩:∃m,n=m+1:=⟨n-1,zo⟩
  have c7:dA kn al (m+1) ts r1=if fD ((aw r1).headD 0)=true then((fm kn al (aw r1)).andThen fun t r2=>dA kn al m (ts++[t]) r2)else .ok (oneM 4 ts) (aw r1):=rfl
  refine zh ?_;refine zvH (RV.ld a'.r5 rfl) ?_
  refine ay (d:=12) rfl (b':=true) (rfl) ?_;refine zh ?_
  refine zc KI (gm O4 w4 j rb l r1 op 0 0 hj e9 zo a') ?_;rintro v w5 ⟨rfl,f6,b8⟩;have e6:=c'.upd b8 zo zo;have a5:=a4.upd b8 zo zo;have e3:=e4.upd b8;have b0:=e0.trans (b8.pj a6);have e8:∀i,i<xs.length->Nt O4 w5 (nth ts i) (nth xs i):=fun i hi=>(g' i hi).upd b8
  refine zh ?_;refine zc call217 (zW ((aw r1).headD 0) w5) ?_
  rintro v w9 ⟨rfl,e7⟩;rw[e7];clear e7 w9;refine zh ?_
  by_cases hc:fD ((aw r1).headD 0)=true
  ·rw[if_pos hc]at c7;refine zTH rfl (hc) ?_;refine zc call216 (tD al op f3 ha hg B O4 j rb l (aw r1) w5 e3 hj e' hl trivial f6 (f5.upd b0)) ?_;rintro v w6 ⟨x6,rfl,b7,g0⟩;have b1:=g0.one;have g6:=e6.upd b7 zo zo;have b3:=a5.upd b7 zo zo;have h8:=e3.upd b7;have d7:=b0.trans (b7.pj a6);refine Mj elN b3 h8 (x6) (fun _=>rfl) rfl rfl rfl (iA b1) zo zo zo zd rfl rfl ?_;intro g5 w7 O7 b2 d' h7;obtain⟨n',r',g4,h2,h5⟩:=LoopS.next (F:=dA kn al) g0 (gn (kn:=kn) hg _) e' d0 h1 h3 f4 (fun i hi=>(e8 i hi).upd b7) g2 c7;refine zh ?_;refine zx (n',r',g4,xs++[x6],O7,w7,g5) (⟨g6.upd d' zo zo,b2,by simp,fun i hi=>?_,d7.trans (d'.pT hj a6 (Jy _)),h7,h5.upd d' hj zo⟩) (h2);simp only[JK,JP]at hi
   by_cases e:i<xs.length
   ·rw[aB (by simp;omega),Jn e,<-aB e];exact a1 i e
   obtain rfl:i=xs.length:=zo;rw[aB (by simp)];simpa using b1
  rw[if_neg hc]at c7;refine zFH rfl ((by simpa using hc)) ?_;refine zc Lz (rD 4 xs a0 w5 a5.sl a1) ?_;rintro v wo ⟨rfl,b9⟩;have a7:J5 (fun _=>False) O4 w5 O4 wo:=aa (fun h=>h) O4 b9;have a2:=GY e6 a7 zo (fun h=>h);have a3:=KU a5 a7 zo (fun h=>h);have f9:=Lj e3 a7;have c5:(if xs.length=1 then nth xs 0 else(4,0,a0):N3).2.2.oneCell'=true:=by
   split
   ·exact a1 0 zo
   exact a3.one
  refine zsb (us:=#[nI (if xs.length=1 then nth xs 0 else(4,0,a0):N3).1,nI (if xs.length=1 then nth xs 0 else(4,0,a0):N3).2.1,(if xs.length=1 then nth xs 0 else(4,0,a0):N3).2.2]) a2 (ix _) (cn c5) ?_;have c9:=GZ (us:=#[nI (if xs.length=1 then nth xs 0 else(4,0,a0):N3).1,nI (if xs.length=1 then nth xs 0 else(4,0,a0):N3).2.1,(if xs.length=1 then nth xs 0 else(4,0,a0):N3).2.2]) a2;have a9:J5 (fun k=>k=T) O4 wo O4 (GT wo xb #[nI (if xs.length=1 then nth xs 0 else(4,0,a0):N3).1,nI (if xs.length=1 then nth xs 0 else(4,0,a0):N3).2.1,(if xs.length=1 then nth xs 0 else(4,0,a0):N3).2.2]):=ln zo (J0 a2) rfl;have d6:=b0.trans (jz O4 b9 hj a6);have c6:=d6.trans (a9.pT hj a6 (la _));refine zh ?_
  refine aN rfl rfl (c9.cellsAdd) (Gc _) (ix _) (⟨(if xs.length=1 then nth xs 0 else(4,0,a0)),rfl,c6.priv hT hj,?_⟩);have d1:=(GY f6 a7 hj (fun h=>h)).upd a9 hj zo;rw[<-g2,c7];exact⟨d1.fgt h.tag,Nt.oneM (a3.upd a9 zo zo) (Jy T) a6 hT (f9.upd a9) c6 f4 (fun i hi=>((e8 i hi).upd a7).upd a9) a8⟩
 replace a':Js O4 w4 j rb (rdr kv l a e5 ((l.length:Int)-(p:Int)) e) 262:=a';refine zh ?_;refine zvH (RV.ld a'.r5 rfl) ?_;refine ay (d:=12) rfl (b':=false) ((by simpa using he)) ?_;refine zh ?_;refine zFH rfl rfl ?_;refine zc Lz (rD 4 xs a0 w4 a4.sl a1) ?_;rintro v wo ⟨rfl,b9⟩;have a7:J5 (fun _=>False) O4 w4 O4 wo:=aa (fun h=>h) O4 b9;have a2:=GY c' a7 zo (fun h=>h);have a3:=KU a4 a7 zo (fun h=>h);have f9:=Lj e4 a7;have c5:(if xs.length=1 then nth xs 0 else(4,0,a0):N3).2.2.oneCell'=true:=by
  split
  ·exact a1 0 zo
  exact a3.one
 refine zsb (us:=#[nI (if xs.length=1 then nth xs 0 else(4,0,a0):N3).1,nI (if xs.length=1 then nth xs 0 else(4,0,a0):N3).2.1,(if xs.length=1 then nth xs 0 else(4,0,a0):N3).2.2]) a2 (ix _) (cn c5) ?_;have c9:=GZ (us:=#[nI (if xs.length=1 then nth xs 0 else(4,0,a0):N3).1,nI (if xs.length=1 then nth xs 0 else(4,0,a0):N3).2.1,(if xs.length=1 then nth xs 0 else(4,0,a0):N3).2.2]) a2;have a9:J5 (fun k=>k=T) O4 wo O4 (GT wo xb #[nI (if xs.length=1 then nth xs 0 else(4,0,a0):N3).1,nI (if xs.length=1 then nth xs 0 else(4,0,a0):N3).2.1,(if xs.length=1 then nth xs 0 else(4,0,a0):N3).2.2]):=ln zo (J0 a2) rfl;have d6:=e0.trans (jz O4 b9 hj a6);have c6:=d6.trans (a9.pT hj a6 (la _));refine zh ?_
 refine aN rfl rfl (c9.cellsAdd) (Gc _) (ix _) (⟨(if xs.length=1 then nth xs 0 else(4,0,a0)),rfl,c6.priv hT hj,?_⟩);have d1:=(GY a' a7 hj (fun h=>h)).upd a9 hj zo;rw[hM];exact⟨c5,a,e5,d1.fgt h.tag,d5,d4,d3,d2⟩
theorem yE(al:Option (List UInt8->PR))(op:Int)(e9:0<=op/\op<=20)(ha:uT kv kn al op)(hg:mW al):L6 kv kn 178 [] op (oQ kn al) (fun _=>True):=by
 intro B O j rb l r w hR hj hr hl g' h f3;obtain⟨T,a5,hT⟩:=hR.bound;have i1:j<T:=by rw[<-h.tag];exact hT rb
 have i0:=hr.length_le;refine Gi func178 ntmps178 rfl rfl ?_;refine zh ?_;refine ax hR T zo (Gv _) rfl ?_;intro xb w1 O1 g7 f4 f8 i2;have h3:=h.upd f4 hj zo;have b7:=f4.pT hj a5 (la _);refine zh ?_;refine zc call192 (AM al op e9 ha hg B O1 j rb l r w1 f8 hj hr hl trivial h3 (f3.upd b7)) ?_;rintro v w2 ⟨x,rfl,e3,f'⟩;have c9:=f'.one;have g6:=g7.upd e3 zo zo;have h9:=f8.upd e3;have d':=b7.trans (e3.pj a5);refine bS elN (enc:=aY) h9 (T+1) zo x rfl rfl rfl zd rfl ?_;intro lv w3 O3 b3 e2 h8;have g5:=g6.upd e2 zo zo;have h':=f'.upd e2 hj zo;have d9:=d'.trans (e2.pT hj a5 (Jy _));have b4:∀i,i<[x].length->(nth [x] i).2.2.oneCell'=true:=fun i hi=>by
  obtain rfl:i=0:=by simpa using hi
  rw[ar];exact c9
 obtain⟨n0,r0,g1,h5⟩:=oY (F:=cR kn al) (M:=oQ kn al r) h' (ku (kn:=kn) hg r) hr hl rfl;refine zh ?_;refine zlp (fun y:Nat×List UInt8×List Nd×List N3×(Nat->Nat)×World×Gh=>[(0,nP rb),(2,nP xb),(3,y.2.2.2.2.2.2)]) (fun y=>y.2.2.2.2.2.1) (fun y=>Js y.2.2.2.2.1 y.2.2.2.2.2.1 T xb #[nI 0,nI 0,nS] 83/\L2 aY 83 3 y.2.2.2.2.1 y.2.2.2.2.2.1 (T+1) y.2.2.2.2.2.2 y.2.2.2.1/\1<=y.2.2.2.1.length/\(∀i,i<y.2.2.2.1.length->(nth y.2.2.2.1 i).2.2.oneCell'=true)/\J5 (fun k=>k=j\/T<=k) O w y.2.2.2.2.1 y.2.2.2.2.2.1/\KG B y.2.2.2.2.1 y.2.2.2.2.2.1/\LoopS kv op l j rb (cR kn al) (oQ kn al r) y.2.2.2.2.1 y.2.2.2.2.2.1 y.1 y.2.1 y.2.2.1 y.2.2.2.1) (fun y=>y.1) (n0,r0,g1,[x],O3,w3,lv) (⟨g5,b3,la _,b4,d9,h8,h5⟩) ?_;rintro⟨n,r1,ts,xs,O4,w4,a0⟩ ⟨d0,a4,a8,a1,e1,e4,f5⟩;dsimp only at d0 a4 a8 a1 e1 e4 f5 ⊢
 rcases f5 with⟨a',e8,h0,h2,e',g8,g0⟩|⟨p,e,a,e5,hM,he,a',d6,d5,d4,d3⟩
 ·have d1:=(bn r1).trans e8;have g9:=dy r1;obtain⟨m,rfl⟩:∃m,n=m+1:=⟨n-1,zo⟩
  have c8:cR kn al (m+1) ts r1=if(aw r1).headD 0=124 then((CD kn al (aw r1).tail).andThen fun t r2=>cR kn al m (ts++[t]) r2)else .ok (oneM 5 ts) (aw r1):=rfl
  refine zh ?_;refine zvH (RV.ld a'.r5 rfl) ?_
  refine ay (d:=12) rfl (b':=true) (rfl) ?_;refine zh ?_
  refine zc KI (gm O4 w4 j rb l r1 op 0 0 hj e8 zo a') ?_;rintro v w5 ⟨rfl,b5,b9⟩;have e6:=d0.upd b9 zo zo;have a6:=a4.upd b9 zo zo;have f7:=e4.upd b9;have b6:=e1.trans (b9.pj a5);have e7:∀i,i<xs.length->Nt O4 w5 (nth ts i) (nth xs i):=fun i hi=>(g8 i hi).upd b9
  refine zh ?_
  by_cases hc:(aw r1).headD 0=124
  ·rw[if_pos hc]at c8;obtain⟨k1,k2⟩:=cm (r:=aw r1) (by rw[hc];decide);have hq4l:=d1.length_le;refine zTH rfl ((by rw[hc];rfl)) ?_;refine zvH (RV.ld b5.r1 rfl) ?_;refine ak (j:=1) b5 rfl (JI _) rfl rfl rfl rfl ?_;rw[show((l.length:Int)-((aw r1).length:Int))+1=(l.length:Int)-((aw r1).tail.length:Int)from by omega];have hb5a:=Ki b5 ((l.length:Int)-((aw r1).tail.length:Int));have hU5a:J5 (fun k=>k=j) O4 w5 O4 (J6 w5 ⟨rb,1,none⟩ (nI ((l.length:Int)-((aw r1).tail.length:Int)))):=J7 (fun e=>hj e.symm) (J0 b5) rfl;have hx5a:=e6.upd hU5a zo zo;have hrow5a:=a6.upd hU5a zo zo;have hR5a:=f7.upd hU5a;have hUt5a:=b6.trans (hU5a.pj a5);generalize J6 w5 ⟨rb,1,none⟩ (nI ((l.length:Int)-((aw r1).tail.length:Int)))=w5a at *;refine zh ?_;refine zc call192 (AM al op e9 ha hg B O4 j rb l (aw r1).tail w5a hR5a hj (k1.trans d1) hl trivial hb5a (f3.upd hUt5a)) ?_;rintro v w6 ⟨x6,rfl,b8,f9⟩;have b0:=f9.one;have g4:=hx5a.upd b8 zo zo;have b2:=hrow5a.upd b8 zo zo;have h7:=hR5a.upd b8;have d8:=hUt5a.trans (b8.pj a5);refine Mj elN b2 h7 (x6) (fun _=>rfl) rfl rfl rfl (iA b0) zo zo zo zd rfl rfl ?_;intro g3 w7 O7 b1 e0 h6;obtain⟨n',r',g2,h1,h4⟩:=LoopS.next (F:=cR kn al) f9 (ku (kn:=kn) hg _) (k1.trans d1) zo h0 h2 e' (fun i hi=>((e7 i hi).upd hU5a).upd b8) g0 c8;refine zh ?_
   refine zx (n',r',g2,xs++[x6],O7,w7,g3) (⟨g4.upd e0 zo zo,b1,by simp,fun i hi=>?_,d8.trans (e0.pT hj a5 (Jy _)),h6,h4.upd e0 hj zo⟩) (h1);simp only[JK,JP]at hi
   by_cases e:i<xs.length
   ·rw[aB (by simp;omega),Jn e,<-aB e];exact a1 i e
   obtain rfl:i=xs.length:=zo;rw[aB (by simp)];simpa using b0
  rw[if_neg hc]at c8;refine zFH rfl ((iD _ 124 zd hc)) ?_;refine zc Lz (rD 5 xs a0 w5 a6.sl a1) ?_;rintro v wo ⟨rfl,c5⟩;have a7:J5 (fun _=>False) O4 w5 O4 wo:=aa (fun h=>h) O4 c5;have a2:=GY e6 a7 zo (fun h=>h);have a3:=KU a6 a7 zo (fun h=>h);have f6:=Lj f7 a7;have c6:(if xs.length=1 then nth xs 0 else(5,0,a0):N3).2.2.oneCell'=true:=by
   split
   ·exact a1 0 zo
   exact a3.one
  refine zsb (us:=#[nI (if xs.length=1 then nth xs 0 else(5,0,a0):N3).1,nI (if xs.length=1 then nth xs 0 else(5,0,a0):N3).2.1,(if xs.length=1 then nth xs 0 else(5,0,a0):N3).2.2]) a2 (ix _) (cn c6) ?_;have c':=GZ (us:=#[nI (if xs.length=1 then nth xs 0 else(5,0,a0):N3).1,nI (if xs.length=1 then nth xs 0 else(5,0,a0):N3).2.1,(if xs.length=1 then nth xs 0 else(5,0,a0):N3).2.2]) a2;have a9:J5 (fun k=>k=T) O4 wo O4 (GT wo xb #[nI (if xs.length=1 then nth xs 0 else(5,0,a0):N3).1,nI (if xs.length=1 then nth xs 0 else(5,0,a0):N3).2.1,(if xs.length=1 then nth xs 0 else(5,0,a0):N3).2.2]):=ln zo (J0 a2) rfl;have d7:=b6.trans (jz O4 c5 hj a5);have c7:=d7.trans (a9.pT hj a5 (la _));refine zh ?_
  refine aN rfl rfl (c'.cellsAdd) (Gc _) (ix _) (⟨(if xs.length=1 then nth xs 0 else(5,0,a0)),rfl,c7.priv hT hj,?_⟩);have d2:=(GY b5 a7 hj (fun h=>h)).upd a9 hj zo;rw[<-g0,c8];exact⟨d2.fgt h.tag,Nt.oneM (a3.upd a9 zo zo) (Jy T) a5 hT (f6.upd a9) c7 e' (fun i hi=>((e7 i hi).upd a7).upd a9) a8⟩
 replace a':Js O4 w4 j rb (rdr kv l a e5 ((l.length:Int)-(p:Int)) e) 262:=a';refine zh ?_;refine zvH (RV.ld a'.r5 rfl) ?_;refine ay (d:=12) rfl (b':=false) ((by simpa using he)) ?_;refine zh ?_;refine zFH rfl rfl ?_;refine zc Lz (rD 5 xs a0 w4 a4.sl a1) ?_;rintro v wo ⟨rfl,c5⟩;have a7:J5 (fun _=>False) O4 w4 O4 wo:=aa (fun h=>h) O4 c5;have a2:=GY d0 a7 zo (fun h=>h);have a3:=KU a4 a7 zo (fun h=>h);have f6:=Lj e4 a7;have c6:(if xs.length=1 then nth xs 0 else(5,0,a0):N3).2.2.oneCell'=true:=by
  split
  ·exact a1 0 zo
  exact a3.one
 refine zsb (us:=#[nI (if xs.length=1 then nth xs 0 else(5,0,a0):N3).1,nI (if xs.length=1 then nth xs 0 else(5,0,a0):N3).2.1,(if xs.length=1 then nth xs 0 else(5,0,a0):N3).2.2]) a2 (ix _) (cn c6) ?_;have c':=GZ (us:=#[nI (if xs.length=1 then nth xs 0 else(5,0,a0):N3).1,nI (if xs.length=1 then nth xs 0 else(5,0,a0):N3).2.1,(if xs.length=1 then nth xs 0 else(5,0,a0):N3).2.2]) a2;have a9:J5 (fun k=>k=T) O4 wo O4 (GT wo xb #[nI (if xs.length=1 then nth xs 0 else(5,0,a0):N3).1,nI (if xs.length=1 then nth xs 0 else(5,0,a0):N3).2.1,(if xs.length=1 then nth xs 0 else(5,0,a0):N3).2.2]):=ln zo (J0 a2) rfl;have d7:=e1.trans (jz O4 c5 hj a5);have c7:=d7.trans (a9.pT hj a5 (la _));refine zh ?_
 refine aN rfl rfl (c'.cellsAdd) (Gc _) (ix _) (⟨(if xs.length=1 then nth xs 0 else(5,0,a0)),rfl,c7.priv hT hj,?_⟩);have d2:=(GY a' a7 hj (fun h=>h)).upd a9 hj zo;rw[hM];exact⟨c6,a,e5,d2.fgt h.tag,d6,d5,d4,d3⟩
theorem qG:∀(d:Nat),d<=20->L6 kv kn 178 [] (20-(d:Int)) (xn kn d) (fun _=>True)
 |0,h=>yE none _ zo (show(20:Int)-((0:Nat):Int)=20 by omega) (fun f e=>by cases e)
 |d+1,h=>by
  have ih:=qG d zo;rw[show(20:Int)-(d:Int)=(20-((d+1:Nat):Int))+1 from by omega]at ih;exact yE (some (xn kn d)) _ zo ⟨zo,ih⟩ (fun f e r=>by cases e;exact jd (kn:=kn) d r)
end
end Go.Proofs.YtlehnbkknlpkbaaGreatDoor
section
namespace Go.VL
def mix(A C:Nat->Nat)(b:Nat):Nat:=if A b=0 then C b else A b
theorem FW{A C:Nat->Nat}{b i:Nat}(h:A b=i)(hi:i≠0):mix A C b=i:=by unfold mix;rw[if_neg zo];exact h
theorem IF{A C:Nat->Nat}{b:Nat}(h:mix A C b=0):C b=0:=by
 unfold mix at h
 split at h
 ·exact h
 rename_i h1;exact absurd h h1
theorem Rng.mix{B:Nat}{A C:Nat->Nat}{w:ka}(h:KG B A w)(k:KG B C w):KG B (mix A C) w:=⟨h.le,fun b hb=>by
 unfold VL.mix at hb
 split at hb
 ·exact k.rng b hb
 rename_i h1;exact h.rng b h1⟩
end Go.VL
namespace Go.Proofs.YtlehnbkknlpkbaaGreatDoor
open Go.VL Go.Proofs
set_option maxRecDepth 10000
variable{kn:Kn}
def PostX(O:Nat->Nat)(w:ka)(v:Gh):XR->Prop
 |.ok t=>∃x,v=.tuple #[nv x,nI 0,nI 0]/\Nt O w t x
 |.bad p e=>v=.tuple #[nv (0,0,nS),nI (p:Int),nI e]/\e≠0
theorem Iu:cV J9 260 #[(0,1),(1,1)]:=⟨_,underlying260,fun w=>by kernel_rfl⟩
theorem It:cV J9 262 #[(0,2),(2,1),(3,1),(4,1),(5,1)]:=⟨_,underlying262,fun w=>by kernel_rfl⟩
theorem lH(kv:Gh)(l:List UInt8)(B:Nat)(O O':Nat->Nat)(w:ka)(h4:KG B O w)(hR:KG B O' w)(d4:Mc O' w kv kn):Ka J9 158 [.string (bs l),kv] w fun v w'=>JW w w'/\PostX O w' v (fz kn l):=by
 obtain⟨T,h8,hT⟩:=hR.bound;have a0:¬(fun q:Nat=>T<=q) 0:=fun e=>zo
 have hA:=qG (kv:=kv) (kn:=kn) 20 (la _);rw[show(20:Int)-((20:Nat):Int)=0 from by omega]at hA;have b5:=jd (kn:=kn) 20 l;obtain⟨ms,e3⟩:=d4;obtain⟨qa,qc,g0,_⟩:=e3.1.shape;replace d4:Mc O' w kv kn:=⟨ms,e3⟩
 subst g0;refine Gi func158 ntmps158 rfl rfl ?_;refine zh ?_;refine ax hR T zo (Gv _) rfl ?_;intro xb w1 O1 c9 h0 h3 i1;have b9:J5 (fun q=>T<=q) O' w O1 w1:=h0.mono (fun _ h=>JE h.symm) a0;refine zh ?_;refine zvH (cx Gb rfl) ?_
 by_cases hl:4096<l.length
 ·have hM:fz kn l=.bad 0 3:=by unfold fz;rw[if_pos hl]
  rw[hM];refine zTH rfl ((decide_eq_true zo)) ?_;refine zv (aF xW (Gv _) rfl (by first|rfl|(simp only[J4,JB];rfl)) rfl rfl) ?_;refine zsa (us:=#[nI 0,nI 0,nS]) c9 (ix _) ?_;have a7:=GZ (us:=#[nI 0,nI 0,nS]) c9;have a3:J5 (fun k=>k=T) O1 w1 O1 (GT w1 xb #[nI 0,nI 0,nS]):=ln zo (J0 c9) rfl;refine zh ?_;refine cF rfl rfl rfl rfl a7.cellsAdd (Gc _) (ix _) ⟨aD (b9.trans (a3.mono (fun _ h=>JE h.symm) a0)) (fun b=>by have:=hT b;omega),rfl,zd⟩
 refine zFH rfl ((decide_eq_false zo)) ?_;refine zvH (aF Iu (zeroValue260 _) rfl (by first|rfl|(simp only[J4,JB];rfl)) rfl rfl) ?_
 refine zv (LG (cells:=rdr (.slice qa ms.length qc) l 0 0 0 0) It (zeroValue262 _) rfl rfl) ?_;refine aE h3 (T+1) zo rfl rfl ?_
 intro rb w2 O2 d5 e5 e7 i0;have g7:Rdr (.slice qa ms.length qc) O2 w2 (T+1) rb l ((l.length:Int)-(l.length:Int)) 0 0 0:=by
  rw[show(l.length:Int)-(l.length:Int)=0 from by omega];exact d5
 have f7:=c9.upd e5 zo zo;have b8:=b9.trans (e5.mono (fun _ h=>by rw[h];omega) a0);refine zh ?_;refine zc call178 (hA B O2 (T+1) rb l l w2 e7 zo (List.suffix_refl l) zo trivial g7 (d4.upd b8)) ?_;rintro v w3 ⟨x,rfl,d',e8⟩;have f4:=e8.one;have f6:=f7.upd d' zo zo;have e6:=e7.upd d';have d8:=b8.trans (d'.mono (fun _ h=>by rw[h];omega) a0);refine ax e6 (T+2) zo (Gv _) rfl ?_;intro nb w4 O4 d3 g' h9 h';refine zsb (us:=#[nI x.1,nI x.2.1,x.2.2]) d3 (ix _) (cn f4) ?_;have f':=d3.setRow (us:=#[nI x.1,nI x.2.1,x.2.2]);have g9:J5 (fun k=>k=T+2) O4 w4 O4 (w4.setRow nb #[nI x.1,nI x.2.1,x.2.2]):=ln zo d3.tag rfl;have a':=g'.trans g9;have c8:=f6.upd a' zo zo;have c':=e8.upd a' zo zo;have h2:=e6.upd a';have b7:=d8.trans (a'.mono (fun _ h=>by rw[h];omega) a0);generalize w4.setRow nb #[nI x.1,nI x.2.1,x.2.2]=w5 at *
 cases hf:xn kn 20 l with
 |bad p e=>
  rw[hf]at b5 c';have hM:fz kn l=.bad (l.length-p) e:=by unfold fz;rw[if_neg hl,hf]
  have g6:=b5.1;have a8:=b5.2;obtain⟨g1,a,e',a6,g2,g3,g4,g5⟩:=c';replace a6:Js O4 w5 (T+1) rb (rdr (.slice qa ms.length qc) l a e' ((l.length:Int)-(p:Int)) e) 262:=a6;rw[hM];refine zh ?_;refine zvH (RV.ld a6.r5 rfl) ?_;refine ay (d:=25) rfl (b':=false) ((by simpa using a8)) ?_;refine zh ?_;refine zFH rfl rfl ?_;refine zvH (RV.ld a6.r5 rfl) ?_;refine ay (d:=44) rfl (b':=false) ((by simpa using a8)) ?_;refine zh ?_;refine zFH rfl rfl ?_;refine zvH (RV.ld a6.r5 rfl) ?_;refine aZ rfl ((by simpa using a8)) ?_;have a5:=Ji a6;refine zh ?_;refine aI (fun W=>W.cell? ⟨rb,4,none⟩=some (nI ((l.length:Int)-(p:Int)))/\W.cell? ⟨rb,5,none⟩=some (nI e)) 12 rfl zk ?_;refine zin ⟨a5.r4,a5.r5⟩ fun zS=>?_
  refine zr 0 rfl zS (fun _=>aF xW (Gv _) rfl (by first|rfl|(simp only[J4,JB];rfl)) rfl rfl) ?_;refine zrm 1 rfl zS rfl ?_
  refine zr 2 rfl zS (fun _=>aq rfl) ?_;refine zrf 3 rfl zS rfl ?_
  refine zt 4 rfl zS (fun w1 a4=>RV.ld a4.1 rfl) ?_;refine zrm 5 rfl zS rfl ?_
  refine zr 6 rfl zS (fun _=>aq rfl) ?_;refine zrf 7 rfl zS rfl ?_
  refine zt 8 rfl zS (fun w1 a4=>RV.ld a4.2 rfl) ?_;refine J8 9 zk rfl ?_
  refine zsa (us:=#[nI 0,nI 0,nS]) (Ji c8) (ix _) ?_;have a7:=GZ (us:=#[nI 0,nI 0,nS]) (Ji c8);have a3:J5 (fun k=>k=T) O4 (Jr w5) O4 (GT (Jr w5) xb #[nI 0,nI 0,nS]):=ln zo (J0 c8) rfl;have b0:=GY a5 a3 zo zo;refine zh ?_
  refine zaf (⟨b0.r4,b0.r5⟩) fun zS=>?_
  refine zra 10 rfl zS rfl ?_;refine zra 11 rfl zS rfl ?_
  refine JN zk ?_;refine zh ?_
  refine cF rfl rfl rfl rfl a7.cellsAdd (Gc _) (ix _) ⟨aD ((b7.drew).trans (a3.mono (fun _ h=>JE h.symm) a0)) (fun b=>by have:=hT b;omega),?_⟩;exact⟨by rw[show(l.length:Int)-(p:Int)=((l.length-p:Nat):Int)from by omega];rfl,a8⟩
 |ok t r=>
  rw[hf]at b5 c';obtain⟨a6,d2⟩:=c';replace a6:Js O4 w5 (T+1) rb (rdr (.slice qa ms.length qc) l ((l.length:Int)-(r.length:Int)) 0 0 0) 262:=a6;have hr:=b5.1;have hq:=(bn r).trans hr;have h7:=hq.length_le;refine zh ?_;refine zvH (RV.ld a6.r5 rfl) ?_;refine ay (d:=25) rfl (b':=true) (rfl) ?_;refine zh ?_;refine zc KI (gm O4 w5 (T+1) rb l r 0 0 0 zo hr zo a6) ?_;rintro v w6 ⟨rfl,a9,c6⟩;have d0:=c8.upd c6 zo zo;have e2:=f'.upd c6 zo zo;have e0:=h2.upd c6;have b4:=d2.upd c6;have b1:=b7.trans (c6.mono (fun _ h=>by rw[h];omega) a0);refine zh ?_
  by_cases e1:(aw r).length=0
  ·have f8:aw r=[]:=List.eq_nil_of_length_eq_zero e1;have e9:fz kn l=if 2000<nsz t then .bad 0 3 else .ok t:=by unfold fz;rw[if_neg hl,hf];dsimp only;rw[if_neg zo]
   refine zFH rfl ((by rw[f8];rfl)) ?_;refine zvH (RV.ld a9.r5 rfl) ?_
   refine ay (d:=44) rfl (b':=true) (rfl) ?_;refine zh ?_
   refine zvH (RV.ld a9.r1 rfl) ?_;refine zvH (cx Gb rfl) ?_
   refine zFH rfl ((decide_eq_false zo)) ?_;refine zvH (RV.ld a9.r5 rfl) ?_
   refine zFH rfl rfl ?_;refine zv (ai (us:=aY x) e2.cellsAdd (Gc _) (ix _) rfl) ?_
   refine zc call136 (qV (nsz t) t (la _) x w6 2000 b4.zero zo) ?_;rintro v w7 ⟨rfl,h6⟩;have b6:J5 (fun _=>False) O4 w6 O4 w7:=aa (fun h=>h) O4 h6;have a2:=d0.upd b6 zo (fun h=>h);have f9:=e2.upd b6 zo (fun h=>h);have a1:=b1.trans (b6.mono (fun _ h=>h.elim) a0);have d1:=b4.upd b6;have h1:=e0.upd b6;refine zh ?_
   by_cases hz:2000<nsz t
   ·have hM:fz kn l=.bad 0 3:=by rw[e9,if_pos hz]
    rw[hM];refine zTH rfl ((decide_eq_true zo)) ?_;refine zv (aF xW (Gv _) rfl (by first|rfl|(simp only[J4,JB];rfl)) rfl rfl) ?_;refine zsa (us:=#[nI 0,nI 0,nS]) a2 (ix _) ?_;have a7:=GZ (us:=#[nI 0,nI 0,nS]) a2;have a3:J5 (fun k=>k=T) O4 w7 O4 (GT w7 xb #[nI 0,nI 0,nS]):=ln zo (J0 a2) rfl;refine zh ?_;refine cF rfl rfl rfl rfl a7.cellsAdd (Gc _) (ix _) ⟨aD (a1.trans (a3.mono (fun _ h=>JE h.symm) a0)) (fun b=>by have:=hT b;omega),rfl,zd⟩
   have hM:fz kn l=.ok t:=by rw[e9,if_neg hz]
   rw[hM];refine zFH rfl ((decide_eq_false zo)) ?_;refine zv (ai (us:=aY x) f9.cellsAdd (Gc _) (ix _) rfl) ?_;refine zc call181 (uA (nsz t) zo t (la _) B (mix O4 O) x w7 (h1.mix (h4.ext (aD a1 (fun b=>by have:=hT b;omega)))) d1.zero) ?_;rintro v w8 ⟨y,rfl,b3,h5⟩;have e4:J5 (fun _=>False) O4 w7 O4 w8:=aa (fun h=>h) O4 h5;have c7:=a2.upd e4 zo (fun h=>h);have d7:=a1.trans (e4.mono (fun _ h=>h.elim) a0);have f3:=b3.one;refine zsb (us:=#[nI y.1,nI y.2.1,y.2.2]) c7 (ix _) (cn f3) ?_;have f5:=c7.setRow (us:=#[nI y.1,nI y.2.1,y.2.2]);have g8:J5 (fun k=>k=T) O4 w8 O4 (w8.setRow xb #[nI y.1,nI y.2.1,y.2.2]):=ln zo c7.tag rfl;have d9:J5 (fun k=>k=T) (mix O4 O) w8 (mix O4 O) (w8.setRow xb #[nI y.1,nI y.2.1,y.2.2]):=ln zo (FW c7.tag zo) rfl;have d6:=d7.trans (g8.mono (fun _ h=>JE h.symm) a0);refine zh ?_;refine cF rfl rfl rfl rfl f5.cellsAdd (Gc _) (ix _) ⟨aD d6 (fun b=>by have:=hT b;omega),y,rfl,(b3.upd d9).weak (fun b hb=>IF hb)⟩
  have hM:fz kn l=.bad (l.length-(aw r).length) 4:=by unfold fz;rw[if_neg hl,hf];dsimp only;rw[if_pos e1]
  rw[hM]
  by_cases hc:(aw r).headD 0=0
  ·refine zFH rfl ((by rw[hc];rfl)) ?_;refine zvH (RV.ld a9.r5 rfl) ?_
   refine ay (d:=44) rfl (b':=true) (rfl) ?_;refine zh ?_
   refine zvH (RV.ld a9.r1 rfl) ?_;refine zvH (cx Gb rfl) ?_
   refine zTH rfl ((decide_eq_true zo)) ?_;refine zv (RV.ld a9.r1 rfl) ?_
   refine zc L9 (gD _ O4 w6 (T+1) rb l _ _ 0 ((l.length:Int)-((aw r).length:Int)) 4 zo e0 a9) ?_;rintro v w7 ⟨_,b2,c5⟩;have a2:=d0.upd c5 zo zo;have a1:=b1.trans (c5.mono (fun _ h=>by rw[h];omega) a0);refine zh ?_
   refine zvH (RV.ld b2.r5 rfl) ?_;refine aZ rfl rfl ?_
   have a5:=Ji b2;refine zh ?_;refine aI (fun W=>W.cell? ⟨rb,4,none⟩=some (nI ((l.length:Int)-((aw r).length:Int)))/\W.cell? ⟨rb,5,none⟩=some (nI 4)) 12 rfl zk ?_;refine zin ⟨a5.r4,a5.r5⟩ fun zS=>?_
   refine zr 0 rfl zS (fun _=>aF xW (Gv _) rfl (by first|rfl|(simp only[J4,JB];rfl)) rfl rfl) ?_;refine zrm 1 rfl zS rfl ?_
   refine zr 2 rfl zS (fun _=>aq rfl) ?_;refine zrf 3 rfl zS rfl ?_
   refine zt 4 rfl zS (fun w1 a4=>RV.ld a4.1 rfl) ?_;refine zrm 5 rfl zS rfl ?_
   refine zr 6 rfl zS (fun _=>aq rfl) ?_;refine zrf 7 rfl zS rfl ?_
   refine zt 8 rfl zS (fun w1 a4=>RV.ld a4.2 rfl) ?_;refine J8 9 zk rfl ?_
   refine zsa (us:=#[nI 0,nI 0,nS]) (Ji a2) (ix _) ?_;have a7:=GZ (us:=#[nI 0,nI 0,nS]) (Ji a2);have a3:J5 (fun k=>k=T) O4 (Jr w7) O4 (GT (Jr w7) xb #[nI 0,nI 0,nS]):=ln zo (J0 a2) rfl;have b0:=GY a5 a3 zo zo;refine zh ?_
   refine zaf (⟨b0.r4,b0.r5⟩) fun zS=>?_
   refine zra 10 rfl zS rfl ?_;refine zra 11 rfl zS rfl ?_
   refine JN zk ?_;refine zh ?_
   refine cF rfl rfl rfl rfl a7.cellsAdd (Gc _) (ix _) ⟨aD ((a1.drew).trans (a3.mono (fun _ h=>JE h.symm) a0)) (fun b=>by have:=hT b;omega),?_⟩;exact⟨by rw[show(l.length:Int)-((aw r).length:Int)=((l.length-(aw r).length:Nat):Int)from by omega];rfl,zd⟩
  refine zTH rfl ((xj _ 0 zd hc)) ?_;refine zv (RV.ld a9.r1 rfl) ?_
  refine zc L9 (gD _ O4 w6 (T+1) rb l _ _ 0 ((l.length:Int)-((aw r).length:Int)) 4 zo e0 a9) ?_;rintro v w7 ⟨_,b2,c5⟩;have a2:=d0.upd c5 zo zo;have a1:=b1.trans (c5.mono (fun _ h=>by rw[h];omega) a0);refine zh ?_
  refine zvH (RV.ld b2.r5 rfl) ?_;refine ay (d:=44) rfl (b':=false) (rfl) ?_
  refine zh ?_;refine zFH rfl rfl ?_
  refine zvH (RV.ld b2.r5 rfl) ?_;refine aZ rfl rfl ?_
  have a5:=Ji b2;refine zh ?_;refine aI (fun W=>W.cell? ⟨rb,4,none⟩=some (nI ((l.length:Int)-((aw r).length:Int)))/\W.cell? ⟨rb,5,none⟩=some (nI 4)) 12 rfl zk ?_;refine zin ⟨a5.r4,a5.r5⟩ fun zS=>?_
  refine zr 0 rfl zS (fun _=>aF xW (Gv _) rfl (by first|rfl|(simp only[J4,JB];rfl)) rfl rfl) ?_;refine zrm 1 rfl zS rfl ?_
  refine zr 2 rfl zS (fun _=>aq rfl) ?_;refine zrf 3 rfl zS rfl ?_
  refine zt 4 rfl zS (fun w1 a4=>RV.ld a4.1 rfl) ?_;refine zrm 5 rfl zS rfl ?_
  refine zr 6 rfl zS (fun _=>aq rfl) ?_;refine zrf 7 rfl zS rfl ?_
  refine zt 8 rfl zS (fun w1 a4=>RV.ld a4.2 rfl) ?_;refine J8 9 zk rfl ?_
  refine zsa (us:=#[nI 0,nI 0,nS]) (Ji a2) (ix _) ?_;have a7:=GZ (us:=#[nI 0,nI 0,nS]) (Ji a2);have a3:J5 (fun k=>k=T) O4 (Jr w7) O4 (GT (Jr w7) xb #[nI 0,nI 0,nS]):=ln zo (J0 a2) rfl;have b0:=GY a5 a3 zo zo;refine zh ?_
  refine zaf (⟨b0.r4,b0.r5⟩) fun zS=>?_
  refine zra 10 rfl zS rfl ?_;refine zra 11 rfl zS rfl ?_
  refine JN zk ?_;refine zh ?_
  refine cF rfl rfl rfl rfl a7.cellsAdd (Gc _) (ix _) ⟨aD ((a1.drew).trans (a3.mono (fun _ h=>JE h.symm) a0)) (fun b=>by have:=hT b;omega),?_⟩;exact⟨by rw[show(l.length:Int)-((aw r).length:Int)=((l.length-(aw r).length:Nat):Int)from by omega];rfl,zd⟩
end Go.Proofs.YtlehnbkknlpkbaaGreatDoor
end
namespace Go.Proofs.YtlehnbkknlpkbaaGreatDoor
mutual
def bX:Nd->Int | .mk k _ l=>if k=6\/k=7 then -1 else if k=9 then 0 else if k=4\/k=5\/k=8 then cD (k==4) 0 l else 1
def cD:Bool->Int->List Nd->Int
 |_,acc,[]=>acc
 |s,acc,t::r=>if bX t<0 then -1 else cD s (if s=true then acc+bX t else max acc (bX t)) r
end
mutual
def Aj(q:Int):Nd->Bool | .mk k _ l=>(k==q)||CK q l
def CK(q:Int):List Nd->Bool | []=>false|t::r=>Aj q t||CK q r
end
theorem rW(q:Int):∀(l:List Nd),jc (fun i=>Aj q (nth l i)) l.length=CK q l:=by
 intro l;rw[Kv,cQ]
 induction l with
 |nil=>simp[CK]
 |cons t r ih=>
  simp only[CK,Ku,<-ih,J2]
  constructor
  ·rintro⟨i,hi,hq⟩
   cases i with
   |zero=>rw[ar]at hq;exact .inl hq
   |succ i=>rw[bd]at hq;exact .inr ⟨i,zo,hq⟩
  rintro(h|⟨i,hi,hq⟩)
  ·exact⟨0,zo,by rw[ar];exact h⟩
  exact⟨i+1,zo,by rw[bd];exact hq⟩
mutual
theorem kI:∀(t:Nd),bX t<=nsz t
 |.mk k c l=>by
  have h:=rL l (k==4) 0 (Kr 0)
  unfold bX
  simp only[nsz]
  (repeat' split)<;>omega
theorem rL:∀(l:List Nd) (s:Bool) (acc:Int),0<=acc->cD s acc l<=acc+dr l
 |[],s,acc,h=>by simp[cD,dr]
 |t::r,s,acc,h=>by
  have h1:=kI t
  unfold cD
  simp only[dr]
  split
  ·omega
  split
  ·have h2:=rL r s (acc+bX t) zo
   omega
  have h2:=rL r s (max acc (bX t)) zo
  omega
end
theorem jQ{l:List Nd}{i:Nat}(h:i<l.length):l.drop i=nth l i::l.drop (i+1):=by
 rw[JY h,aB h]
theorem gw:∀(n:Nat),n<=1000000->∀(t:Nd),nsz t<=n->∀(x:N3) (w:ka),Nt (fun _=>0) w t x->Ka J9 168 [nv x] w fun v w'=>v=nI (bX t)/\JW w w'
 |0,_,t,hn=>by have:=cN t;omega
 |n+1,hm,.mk k c kids,hn=>by
  intro x w h;have c9:=h.ones;obtain⟨xs,hs,hf,hl,hk⟩:=h.kids;simp only[LV]at hl hk;simp only[nsz]at hn;have c':=ef kids;generalize x.2.2=sv at *;subst c9;simp only[Mm,Nd.cls];have hM:bX (.mk k c kids)=if k=6\/k=7 then -1 else if k=9 then 0 else if k=4\/k=5\/k=8 then cD (k==4) 0 kids else 1:=rfl
  rw[hM];refine Gi func168 ntmps168 rfl rfl ?_;refine zh ?_;refine aE (au w) 1 zo rfl rfl ?_;intro xb w1 O1 b7 d0 d1 a4;have c0:w1.cell? (nA xb 0)=some (nI k):=b7.cell 0 rfl;have c2:w1.cell? (nA xb 2)=some sv:=b7.cell 2 rfl;have b6:=hs.ext a4;refine zh ?_
  by_cases h6:k=6
  ·subst h6;refine zTH rfl rfl ?_;refine zTH rfl rfl ?_;refine ae rfl rfl (⟨rfl,a4⟩)
  refine zFH rfl ((beq_eq_false_iff_ne.2 h6)) ?_
  by_cases h7:k=7
  ·subst h7;refine zTH rfl rfl ?_;refine ae rfl rfl (⟨rfl,a4⟩)
  rw[if_neg zo];refine zFH rfl ((beq_eq_false_iff_ne.2 h7)) ?_
  by_cases h9:k=9
  ·subst h9;refine zTH rfl rfl ?_;refine ae rfl rfl (⟨rfl,a4⟩)
  rw[if_neg h9];refine zFH rfl ((beq_eq_false_iff_ne.2 h9)) ?_
  by_cases h4:k=4
  ·subst h4;rw[if_pos zo];refine zTH rfl rfl ?_;refine zTH rfl rfl ?_;refine zlp (fun y:Nat×Int×ka=>[(2,nI 0),(3,nI y.2.1),(1,nP xb),(19,sv),(20,nI xs.length),(21,nI y.1)]) (fun y=>y.2.2) (fun y=>y.1<=xs.length/\0<=y.2.1/\y.2.1<=dr (kids.take y.1)/\cD ((4:Int)==4) y.2.1 (kids.drop y.1)=cD ((4:Int)==4) 0 kids/\JW w1 y.2.2) (fun y=>xs.length-y.1) (0,0,w1) (⟨Jp _,Kr _,by simp[dr],rfl,Jq _⟩) ?_;rintro⟨i,a7,w2⟩ ⟨hi,b2,ha,hL,a3⟩;dsimp only at hi b2 ha hL a3 ⊢;have b0:=b6.ext a3;refine zh ?_;refine zC ?_ ?_
   ·intro a2;replace a2:i<xs.length:=dT a2;have a8:=(hk i a2).ext (a4.trans a3);have a':=a8.one;have c5:=bD kids i zo;have b9:=dJ kids i zo;have b8:=cp kids (i+1);have b':=kI (nth kids i);rw[jQ zo]at hL;have b4:cD ((4:Int)==4) a7 (nth kids i::kids.drop (i+1))=if bX (nth kids i)<0 then -1 else cD ((4:Int)==4) (if((4:Int)==4)=true then a7+bX (nth kids i)else max a7 (bX (nth kids i))) (kids.drop (i+1)):=rfl
    rw[b4]at hL;refine zh ?_;refine zv (ai (us:=aY (nth xs i)) (fun j u hu=>b0.cell a2 hu) (Gc _) (ix _) rfl) ?_;refine ax (au w2) 1 zo (Gv _) rfl ?_;intro kb w3 O3 a6 b3 c6 c7;refine zsb (us:=#[nI (nth xs i).1,nI (nth xs i).2.1,(nth xs i).2.2]) a6 (ix _) (cn a') ?_;have a5:=a6.setRow (us:=#[nI (nth xs i).1,nI (nth xs i).2.1,(nth xs i).2.2]);have a9:JW w2 (w3.setRow kb #[nI (nth xs i).1,nI (nth xs i).2.1,(nth xs i).2.2]):=(b3.trans (ln zd a6.tag rfl)).ext;generalize w3.setRow kb #[nI (nth xs i).1,nI (nth xs i).2.1,(nth xs i).2.2]=w4 at *;refine zh ?_;refine zv (ai (us:=aY (nth xs i)) a5.cellsAdd (Gc _) (ix _) rfl) ?_;refine zc LB (gw n zo (nth kids i) zo (nth xs i) w4 (a8.ext a9)) ?_;rintro v w5 ⟨rfl,b5⟩;have a1:=(a3.trans a9).trans b5;have c8:w5.cell? (nA xb 0)=some (nI 4):=a1.cell c0;refine zh ?_
    by_cases a0:bX (nth kids i)<0
    ·rw[if_pos a0]at hL;refine zTH rfl ((decide_eq_true a0)) ?_;refine ae rfl rfl (⟨by rw[<-hL],a4.trans a1⟩)
    rw[if_neg a0]at hL;refine zFH rfl ((decide_eq_false a0)) ?_;refine zTH rfl rfl ?_;refine zxd (i+1,_,w5) (⟨a2,by dsimp only;omega,by dsimp only;omega,hL,a1⟩)
   intro b1;obtain rfl:i=xs.length:=dF b1;rw[K5 zo]at hL;refine zh ?_;refine ae rfl rfl (⟨by rw[<-hL];rfl,a4.trans a3⟩)
  refine aS rfl ((beq_eq_false_iff_ne.2 h4)) ?_;have hk4b:(k==4)=false:=beq_eq_false_iff_ne.2 h4;refine zh ?_
  by_cases h5:k=5
  ·subst h5;rw[if_pos zo];refine zTH rfl rfl ?_;refine zTH rfl rfl ?_;refine zlp (fun y:Nat×Int×ka=>[(2,nI 0),(3,nI y.2.1),(1,nP xb),(19,sv),(20,nI xs.length),(21,nI y.1)]) (fun y=>y.2.2) (fun y=>y.1<=xs.length/\0<=y.2.1/\y.2.1<=dr (kids.take y.1)/\cD ((5:Int)==4) y.2.1 (kids.drop y.1)=cD ((5:Int)==4) 0 kids/\JW w1 y.2.2) (fun y=>xs.length-y.1) (0,0,w1) (⟨Jp _,Kr _,by simp[dr],rfl,Jq _⟩) ?_;rintro⟨i,a7,w2⟩ ⟨hi,b2,ha,hL,a3⟩;dsimp only at hi b2 ha hL a3 ⊢;have b0:=b6.ext a3;refine zh ?_;refine zC ?_ ?_
   ·intro a2;replace a2:i<xs.length:=dT a2;have a8:=(hk i a2).ext (a4.trans a3);have a':=a8.one;have c5:=bD kids i zo;have b9:=dJ kids i zo;have b8:=cp kids (i+1);have b':=kI (nth kids i);rw[jQ zo]at hL;have b4:cD ((5:Int)==4) a7 (nth kids i::kids.drop (i+1))=if bX (nth kids i)<0 then -1 else cD ((5:Int)==4) (if((5:Int)==4)=true then a7+bX (nth kids i)else max a7 (bX (nth kids i))) (kids.drop (i+1)):=rfl
    rw[b4]at hL;refine zh ?_;refine zv (ai (us:=aY (nth xs i)) (fun j u hu=>b0.cell a2 hu) (Gc _) (ix _) rfl) ?_;refine ax (au w2) 1 zo (Gv _) rfl ?_;intro kb w3 O3 a6 b3 c6 c7;refine zsb (us:=#[nI (nth xs i).1,nI (nth xs i).2.1,(nth xs i).2.2]) a6 (ix _) (cn a') ?_;have a5:=a6.setRow (us:=#[nI (nth xs i).1,nI (nth xs i).2.1,(nth xs i).2.2]);have a9:JW w2 (w3.setRow kb #[nI (nth xs i).1,nI (nth xs i).2.1,(nth xs i).2.2]):=(b3.trans (ln zd a6.tag rfl)).ext;generalize w3.setRow kb #[nI (nth xs i).1,nI (nth xs i).2.1,(nth xs i).2.2]=w4 at *;refine zh ?_;refine zv (ai (us:=aY (nth xs i)) a5.cellsAdd (Gc _) (ix _) rfl) ?_;refine zc LB (gw n zo (nth kids i) zo (nth xs i) w4 (a8.ext a9)) ?_;rintro v w5 ⟨rfl,b5⟩;have a1:=(a3.trans a9).trans b5;have c8:w5.cell? (nA xb 0)=some (nI 5):=a1.cell c0;refine zh ?_
    by_cases a0:bX (nth kids i)<0
    ·rw[if_pos a0]at hL;refine zTH rfl ((decide_eq_true a0)) ?_;refine ae rfl rfl (⟨by rw[<-hL],a4.trans a1⟩)
    rw[if_neg a0]at hL;refine zFH rfl ((decide_eq_false a0)) ?_;refine zFH rfl rfl ?_;refine zvH (gH rfl rfl) ?_;refine zxd (i+1,_,w5) (⟨a2,by dsimp only;omega,by dsimp only;omega,hL,a1⟩)
   intro b1;obtain rfl:i=xs.length:=dF b1;rw[K5 zo]at hL;refine zh ?_;refine ae rfl rfl (⟨by rw[<-hL];rfl,a4.trans a3⟩)
  refine zFH rfl ((beq_eq_false_iff_ne.2 h5)) ?_
  by_cases h8:k=8
  ·subst h8;rw[if_pos zo];refine zTH rfl rfl ?_;refine zlp (fun y:Nat×Int×ka=>[(2,nI 0),(3,nI y.2.1),(1,nP xb),(19,sv),(20,nI xs.length),(21,nI y.1)]) (fun y=>y.2.2) (fun y=>y.1<=xs.length/\0<=y.2.1/\y.2.1<=dr (kids.take y.1)/\cD ((8:Int)==4) y.2.1 (kids.drop y.1)=cD ((8:Int)==4) 0 kids/\JW w1 y.2.2) (fun y=>xs.length-y.1) (0,0,w1) (⟨Jp _,Kr _,by simp[dr],rfl,Jq _⟩) ?_;rintro⟨i,a7,w2⟩ ⟨hi,b2,ha,hL,a3⟩;dsimp only at hi b2 ha hL a3 ⊢;have b0:=b6.ext a3;refine zh ?_;refine zC ?_ ?_
   ·intro a2;replace a2:i<xs.length:=dT a2;have a8:=(hk i a2).ext (a4.trans a3);have a':=a8.one;have c5:=bD kids i zo;have b9:=dJ kids i zo;have b8:=cp kids (i+1);have b':=kI (nth kids i);rw[jQ zo]at hL;have b4:cD ((8:Int)==4) a7 (nth kids i::kids.drop (i+1))=if bX (nth kids i)<0 then -1 else cD ((8:Int)==4) (if((8:Int)==4)=true then a7+bX (nth kids i)else max a7 (bX (nth kids i))) (kids.drop (i+1)):=rfl
    rw[b4]at hL;refine zh ?_;refine zv (ai (us:=aY (nth xs i)) (fun j u hu=>b0.cell a2 hu) (Gc _) (ix _) rfl) ?_;refine ax (au w2) 1 zo (Gv _) rfl ?_;intro kb w3 O3 a6 b3 c6 c7;refine zsb (us:=#[nI (nth xs i).1,nI (nth xs i).2.1,(nth xs i).2.2]) a6 (ix _) (cn a') ?_;have a5:=a6.setRow (us:=#[nI (nth xs i).1,nI (nth xs i).2.1,(nth xs i).2.2]);have a9:JW w2 (w3.setRow kb #[nI (nth xs i).1,nI (nth xs i).2.1,(nth xs i).2.2]):=(b3.trans (ln zd a6.tag rfl)).ext;generalize w3.setRow kb #[nI (nth xs i).1,nI (nth xs i).2.1,(nth xs i).2.2]=w4 at *;refine zh ?_;refine zv (ai (us:=aY (nth xs i)) a5.cellsAdd (Gc _) (ix _) rfl) ?_;refine zc LB (gw n zo (nth kids i) zo (nth xs i) w4 (a8.ext a9)) ?_;rintro v w5 ⟨rfl,b5⟩;have a1:=(a3.trans a9).trans b5;have c8:w5.cell? (nA xb 0)=some (nI 8):=a1.cell c0;refine zh ?_
    by_cases a0:bX (nth kids i)<0
    ·rw[if_pos a0]at hL;refine zTH rfl ((decide_eq_true a0)) ?_;refine ae rfl rfl (⟨by rw[<-hL],a4.trans a1⟩)
    rw[if_neg a0]at hL;refine zFH rfl ((decide_eq_false a0)) ?_;refine zFH rfl rfl ?_;refine zvH (gH rfl rfl) ?_;refine zxd (i+1,_,w5) (⟨a2,by dsimp only;omega,by dsimp only;omega,hL,a1⟩)
   intro b1;obtain rfl:i=xs.length:=dF b1;rw[K5 zo]at hL;refine zh ?_;refine ae rfl rfl (⟨by rw[<-hL];rfl,a4.trans a3⟩)
  rw[if_neg zo];refine zFH rfl ((beq_eq_false_iff_ne.2 h8)) ?_;refine ae rfl rfl (⟨rfl,a4⟩)
def tK(t:Nd):Int:=if bj t=true then max (bX t) 0 else 0
def tL(t:Nd):Bool:=bj t&&decide (0<=bX t)
theorem py(t:Nd)(x:N3)(w:ka)(h:Nt (fun _=>0) w t x):Ka J9 138 [nv x] w fun v w'=>v=.tuple #[nI (tK t),.bool (tL t)]/\JW w w':=by
 refine Gi func138 ntmps138 rfl rfl ?_;refine zh ?_
 refine aE (au w) 1 zo rfl rfl ?_;intro xb w1 O1 a3 a5 a6 a1;have a2:∀W,JW w1 W->∀(j:Nat) (u:Gh),(aY x)[j]? = some u->W.cell? (nA xb j)=some u:=fun W hE j u hu=>hE.cell (a3.cellsAdd j u hu)
 refine zh ?_;refine zv (ai (us:=aY x) (a2 w1 (Jq _)) (Gc _) (ix _) rfl) ?_
 refine zc Lw (fN t x w1 (h.ext a1)) ?_;rintro v w2 ⟨rfl,a0⟩;refine zh ?_
 cases hr:bj t with
 |false=>
  refine zTH rfl rfl ?_;refine bQ rfl rfl rfl (⟨by simp[tK,tL,hr],a1.trans a0⟩)
 |true=>
  have hz:nsz t<=2000:=by
   simp only[bj,I4,decide_eq_true_eq]at hr;exact hr.1
  refine zFH rfl rfl ?_;refine zv (ai (us:=aY x) (a2 w2 a0) (Gc _) (ix _) rfl) ?_
  refine zc LB (gw (nsz t) zo t (la _) x w2 (h.ext (a1.trans a0))) ?_;rintro v w3 ⟨rfl,a4⟩;refine zh ?_
  refine zvH (gH rfl rfl) ?_;refine bQ rfl rfl rfl (⟨by simp[tK,tL,hr],(a1.trans a0).trans a4⟩)
theorem F8{b:Bool}{q:Int}{t:Nd}{kb:Nat}(ih:∀(y:N3) (W:ka),Nt (fun _=>0) W t y->Ka J9 169 [nv y,nI q] W fun v w'=>v=.bool b/\JW W w')(x:N3)(w:ka)(h:Nt (fun _=>0) w t x)(hq:w.cell? ⟨kb,0,none⟩=some (nI q)):
  Ka J9 189 [nv x,nP kb] w fun v w'=>v=.bool b/\JW w w':=by
 refine Gi func189 ntmps189 rfl rfl ?_;refine zh ?_
 refine aE (au w) 1 zo rfl rfl ?_;intro xb w1 O1 a1 a4 a5 a0;have a3:=a0.cell hq;refine zh ?_
 refine zvH (ai (us:=aY x) a1.cellsAdd (Gc _) (ix _) rfl) ?_;refine zc call169 (ih x w1 (h.ext a0)) ?_
 rintro v w2 ⟨rfl,a2⟩;refine zh ?_;refine ae rfl rfl (⟨rfl,a0.trans a2⟩)
theorem BH:∀(n:Nat) (t:Nd),nsz t<=n->∀(x:N3) (w:ka) (q:Int),Nt (fun _=>0) w t x->Ka J9 169 [nv x,nI q] w fun v w'=>v=.bool (Aj q t)/\JW w w'
 |0,t,hn=>by have:=cN t;omega
 |n+1,.mk k c kids,hn=>by
  intro x w q h;have a6:=h.ones;obtain⟨xs,hs,hf,hl,hk⟩:=h.kids;simp only[LV]at hl hk;simp only[nsz]at hn;generalize x.2.2=sv at *;subst a6;simp only[Mm,Nd.cls];have hM:Aj q (.mk k c kids)=((k==q)||CK q kids):=rfl;rw[hM];refine Gi func169 ntmps169 rfl rfl ?_;refine zh ?_;refine aE (au w) 1 zo rfl rfl ?_;intro xb w1 O1 a5 b1 a9 b0;refine aE a9 2 zo rfl rfl ?_;intro kb w2 O2 a7 a8 b2 a';have a3:=a5.upd a8 zd zd;have a0:=b0.trans a';have c0:w2.cell? (nA xb 0)=some (nI k):=a3.cell 0 rfl;have c2:w2.cell? (nA xb 2)=some sv:=a3.cell 2 rfl;have cq:w2.cell? ⟨kb,0,none⟩=some (nI q):=a7.cell 0 rfl;refine zh ?_;refine bK (JW w2) (CK q kids) 4 (Jq _) rfl rfl rfl rfl rfl ?_ ?_
  ·intro a1;refine zh ?_;refine zvH (eA rfl rfl) ?_;refine zc call101 (cW call189 #[nP kb] xs sv (fun i=>Aj q (nth kids i)) w2 (hs.ext a0) (fun i hi w' hE=>F8 (fun y W hy=>BH n (nth kids i) (by have:=bD kids i (zo);omega) y W q hy) (nth xs i) w' ((hk i hi).ext (a0.trans hE)) (hE.cell cq))) ?_;have a4:=rW q kids;rw[hl]at a4;rw[a4];rintro v w3 ⟨rfl,a2⟩;refine zh ?_;refine nE 9 5 (a2) a1
  intro w3 a2;refine zh ?_;refine ae rfl rfl (⟨rfl,a0.trans a2⟩)
theorem zD(t:Nd)(q:Int)(x:N3)(w:ka)(h:Nt (fun _=>0) w t x):Ka J9 139 [nv x,nI q] w fun v w'=>v=.bool (bj t&&Aj q t)/\JW w w':=by
 refine Gi func139 ntmps139 rfl rfl ?_;refine zh ?_
 refine aE (au w) 1 zo rfl rfl ?_;intro xb w1 O1 a5 a6 a7 a3;have a4:∀W,JW w1 W->∀(j:Nat) (u:Gh),(aY x)[j]? = some u->W.cell? (nA xb j)=some u:=fun W hE j u hu=>hE.cell (a5.cellsAdd j u hu)
 refine zh ?_;refine zv (ai (us:=aY x) (a4 w1 (Jq _)) (Gc _) (ix _) rfl) ?_
 refine zc Lw (fN t x w1 (h.ext a3)) ?_;rintro v w2 ⟨rfl,a0⟩;refine zh ?_
 refine aP (JW w1) (Aj q t) 3 (a0) rfl rfl rfl rfl rfl ?_ ?_
 ·intro a1;refine zh ?_;refine zvH (ai (us:=aY x) (a4 _ a0) (Gc _) (ix _) rfl) ?_;refine zc call169 (BH (nsz t) t (la _) x _ q (h.ext (a3.trans a0))) ?_;rintro v w3 ⟨rfl,a2⟩;refine zh ?_;refine nE 7 4 (a0.trans a2) a1
 intro w3 a2;refine zh ?_;refine ae rfl rfl (⟨rfl,a3.trans a2⟩)
end Go.Proofs.YtlehnbkknlpkbaaGreatDoor
namespace Go.VL
section
variable{P:Kc}{N:Nat}{ops:Array Ld}{Q:LQ→Mp→ka→Prop}{rest:List Ld}{st:St}{w:ka}
variable{t:J1}{p:String}{e:Array M9}{d:Nat}{x y z:KK}
theorem Ext.iter(w:ka)(s:ByteArray)(a0:Nat):JW w (w.iter s a0):=Ext.alloc w _
theorem uN{xt:J1}{l:List UInt8}(hT:P.underlying xt=some .string)(hx:ev st x=some (.string (bs l)))(hd:JZ d N=true) 
  (h:WL P N ops Q rest ((d,.pointer (some ⟨w.heap.size,0,none⟩))::st) (w.iter (bs l) 0)):WL P N ops Q (⟨some d,.range xt x,t,p,e,none⟩::rest) st w:=
 KS hd (fun a ha=>by
  simp only[execOp,ha.ev hx,JC,run_range_string w xt (bs l) hT,Jo]
  rfl) h
theorem DQ{l:List UInt8}{a0:Nat}{c:UInt8}{w0:ka}(hx:ev st x=some (.pointer (some ⟨w0.heap.size,0,none⟩)))(hc:l[a0]? = some c)(ha:c.toNat<128)(hd:JZ d N=true) 
  (h:WL P N ops Q rest ((d,.tuple #[.bool true,nI (a0:Nat),.int .i32 (c.toNat:Int)])::st) (w0.iter (bs l) (a0+1))):WL P N ops Q (⟨some d,.next x true,t,p,e,none⟩::rest) st (w0.iter (bs l) a0):=by
 obtain⟨a2,hv⟩:=KB.1 hc;have hs:a0<(bs l).size:=by rw[di];exact a2
 have he:(bs l)[a0]'hs=c:=by rw[<-hv];exact KX (xs:=l) (i:=a0) a2
 have a1:=run_next_ascii (P:=P) w0 (bs l) a0 t hs (by rw[he];exact ha);rw[he]at a1
 exact KS hd (fun a ha=>by
  simp only[execOp,ha.ev hx,JC,a1,Jo]
  rfl) h
theorem DP{l:List UInt8}{a0:Nat}{w0:ka}(hx:ev st x=some (.pointer (some ⟨w0.heap.size,0,none⟩)))(hp:l.length<=a0)(hd:JZ d N=true) 
  (h:WL P N ops Q rest ((d,.tuple #[.bool false])::st) (w0.iter (bs l) a0)):WL P N ops Q (⟨some d,.next x true,t,p,e,none⟩::rest) st (w0.iter (bs l) a0):=by
 have hs:¬a0<(bs l).size:=by rw[di];omega
 have a1:=run_next_end (P:=P) w0 (bs l) a0 t hs
 exact KS hd (fun a ha=>by
  simp only[execOp,ha.ev hx,JC,a1,Jo]
  rfl) h
end
section
variable{P:Kc}{N:Nat}{ops:Array Ld}{Q:LQ→Mp→ka→Prop}{rest:List Ld}{st:St}{w:ka}
variable{t:J1}{p:String}{e:Array M9}{d:Nat}{x y z:KK}
theorem iK{α:Type}{c:Ma}(f:α->St)(g:α->ka)(I:α->Prop)(h1:(∀z,I z->QF N Q .normal (f z) (g z))->WC P N c Q st w)(h2:∀z,I z->QF N Q .normal (f z) (g z)):WC P N c Q st w:=h1 h2
theorem eD{e:LQ}{a0:St}{w':ka}(h:QF N Q e a0 w')(hc:Cov st a0)(hw:w'=w):QF N Q e st w:=by subst hw;exact h.weaken hc
theorem lq{T:J1}{O:Nat->Nat}{i b:Nat}{cs us:Array Gh}{E:J1}(off:Nat)(hb:Js O w i b cs E)(hs:off+us.size<=cs.size)(hT:(sizeOf T).run P w=.ok us.size w)(h1:us.toList.all Kw=true) 
  {q:Mb} (hx:ev st x=some (.pointer (some q))) (hq:q=⟨b,off,none⟩) (hy:ev st y=some (.agg us))
  (h:WL P N ops Q rest st (w.setRow b (cs.toList.take off++us.toList++cs.toList.drop (off+us.size)).toArray)):WL P N ops Q (⟨none,.store T x y,t,p,e,none⟩::rest) st w:=
 iI (fun a ha=>by
  subst hq;have a0:(Lv T (.pointer (some ⟨b,off,none⟩)) (.agg us)).run P w=.ok () (w.setRow b (cs.toList.take off++us.toList++cs.toList.drop (off+us.size)).toArray):=by
   have:=run_storeCells_at P b off E us.toList 0 cs w hb.blk (by simpa using hs) (Lm.1 h1);simp only[Nat.add_zero,Array.length_toList]at this;simp only[Lv,Instr.sureAddr,storeVar,JC,LL,Jo,LF,hT];simpa using this
  simp only[execOp,ha.ev hx,ha.ev hy,JC,a0,Jo,LL]) h
end
def lowT(O:Nat->Nat)(T:Nat):Nat->Nat:=fun b=>if T<=O b then 0 else O b
theorem Upd.lowT{S:Nat->Prop}{T:Nat}{O O2:Nat->Nat}{w w':ka}(h:J5 S O w O2 w')(hT:∀b,O b<T){S':Nat->Prop}(hS:∀b,S (O b)->S' (O b))(hz:¬S' 0):J5 S' O w (lowT O2 T) w':=
 ⟨h.os,h.tape,h.output,h.size,fun b hb hn=>h.blk b hb fun hs=>hn (hS b hs),fun b hb=>by
  have h1:=h.tag b hb;have:=hT b;unfold Go.VL.lowT;rw[if_neg zo];exact h1,fun b hb=>by
  unfold Go.VL.lowT at hb
  split at hb
  ·exact absurd rfl hb
  exact h.new b hb,hz⟩
theorem Rng.lowT{B:Nat}{O:Nat->Nat}{w:ka}(h:KG B O w)(T:Nat):KG B (lowT O T) w:=⟨h.le,fun b hb=>by
 unfold Go.VL.lowT at hb
 split at hb
 ·exact absurd rfl hb
 exact h.rng b hb⟩
theorem BlkO.lowT{O:Nat->Nat}{w:ka}{i b:Nat}{cs:Array Gh}{E:J1}(h:Js O w i b cs E){T:Nat}(hi:i<T):Js (lowT O T) w i b cs E:=⟨h.blk,by unfold Go.VL.lowT;rw[h.tag,if_neg zo]⟩
theorem RowT.lowT{α:Type}{enc:α->List Gh}{O:Nat->Nat}{w:ka}{i:Nat}{E:J1}{sz:Nat}{v:Gh}{l:List α}(h:L2 enc E sz O w i v l){T:Nat}(hi:i<T):L2 enc E sz (lowT O T) w i v l:=
 ⟨⟨h.1.row,fun g hg=>by unfold Go.VL.lowT;rw[h.1.tag g hg,if_neg zo]⟩,h.2⟩
theorem kG{O:Nat->Nat}{T b:Nat}(h:O b=0):lowT O T b=0:=by unfold lowT;split<;>simp[h]
end Go.VL
section
namespace Go.VL
structure LS where
 l:List UInt8
 pos:Int
 to:Int
 bg:Int
 bad:Int
 e:Int
 ig:Gh
 kp:Gh
 ru:Gh
 mc:Gh
 i:Bool
 k:Bool
def LS.cells(s:LS):Array Gh:=#[.string (bs s.l),nI s.pos,nI s.to,nI s.bg,nI s.bad,nI s.e,s.ig,s.kp,s.ru,s.mc,.bool s.i,.bool s.k]
theorem BlkO.q0{O:Nat->Nat}{w:ka}{j rb:Nat}{s:LS}{E:J1}(h:Js O w j rb s.cells E):w.cell? ⟨rb,0,none⟩=some (.string (bs s.l)):=h.cell 0 rfl
theorem BlkO.q1{O:Nat->Nat}{w:ka}{j rb:Nat}{s:LS}{E:J1}(h:Js O w j rb s.cells E):w.cell? ⟨rb,1,none⟩=some (nI s.pos):=h.cell 1 rfl
theorem BlkO.q2{O:Nat->Nat}{w:ka}{j rb:Nat}{s:LS}{E:J1}(h:Js O w j rb s.cells E):w.cell? ⟨rb,2,none⟩=some (nI s.to):=h.cell 2 rfl
theorem BlkO.q3{O:Nat->Nat}{w:ka}{j rb:Nat}{s:LS}{E:J1}(h:Js O w j rb s.cells E):w.cell? ⟨rb,3,none⟩=some (nI s.bg):=h.cell 3 rfl
theorem BlkO.q4{O:Nat->Nat}{w:ka}{j rb:Nat}{s:LS}{E:J1}(h:Js O w j rb s.cells E):w.cell? ⟨rb,4,none⟩=some (nI s.bad):=h.cell 4 rfl
theorem BlkO.q5{O:Nat->Nat}{w:ka}{j rb:Nat}{s:LS}{E:J1}(h:Js O w j rb s.cells E):w.cell? ⟨rb,5,none⟩=some (nI s.e):=h.cell 5 rfl
theorem BlkO.q6{O:Nat->Nat}{w:ka}{j rb:Nat}{s:LS}{E:J1}(h:Js O w j rb s.cells E):w.cell? ⟨rb,6,none⟩=some (s.ig):=h.cell 6 rfl
theorem BlkO.q7{O:Nat->Nat}{w:ka}{j rb:Nat}{s:LS}{E:J1}(h:Js O w j rb s.cells E):w.cell? ⟨rb,7,none⟩=some (s.kp):=h.cell 7 rfl
theorem BlkO.q8{O:Nat->Nat}{w:ka}{j rb:Nat}{s:LS}{E:J1}(h:Js O w j rb s.cells E):w.cell? ⟨rb,8,none⟩=some (s.ru):=h.cell 8 rfl
theorem BlkO.q9{O:Nat->Nat}{w:ka}{j rb:Nat}{s:LS}{E:J1}(h:Js O w j rb s.cells E):w.cell? ⟨rb,9,none⟩=some (s.mc):=h.cell 9 rfl
theorem BlkO.q10{O:Nat->Nat}{w:ka}{j rb:Nat}{s:LS}{E:J1}(h:Js O w j rb s.cells E):w.cell? ⟨rb,10,none⟩=some (.bool s.i):=h.cell 10 rfl
theorem BlkO.q11{O:Nat->Nat}{w:ka}{j rb:Nat}{s:LS}{E:J1}(h:Js O w j rb s.cells E):w.cell? ⟨rb,11,none⟩=some (.bool s.k):=h.cell 11 rfl
theorem BlkO.s_pos{O:Nat->Nat}{w:ka}{j rb:Nat}{s:LS}{E:J1}(h:Js O w j rb s.cells E)(a':Int):Js O (w.setCell ⟨rb,1,none⟩ (nI a')) j rb ({s with pos:=a'}:LS).cells E:=h.set 1 _
theorem BlkO.s_to{O:Nat->Nat}{w:ka}{j rb:Nat}{s:LS}{E:J1}(h:Js O w j rb s.cells E)(a':Int):Js O (w.setCell ⟨rb,2,none⟩ (nI a')) j rb ({s with to:=a'}:LS).cells E:=h.set 2 _
theorem BlkO.s_bg{O:Nat->Nat}{w:ka}{j rb:Nat}{s:LS}{E:J1}(h:Js O w j rb s.cells E)(a':Int):Js O (w.setCell ⟨rb,3,none⟩ (nI a')) j rb ({s with bg:=a'}:LS).cells E:=h.set 3 _
theorem BlkO.s_bad{O:Nat->Nat}{w:ka}{j rb:Nat}{s:LS}{E:J1}(h:Js O w j rb s.cells E)(a':Int):Js O (w.setCell ⟨rb,4,none⟩ (nI a')) j rb ({s with bad:=a'}:LS).cells E:=h.set 4 _
theorem BlkO.s_e{O:Nat->Nat}{w:ka}{j rb:Nat}{s:LS}{E:J1}(h:Js O w j rb s.cells E)(a':Int):Js O (w.setCell ⟨rb,5,none⟩ (nI a')) j rb ({s with e:=a'}:LS).cells E:=h.set 5 _
theorem BlkO.s_ru{O:Nat->Nat}{w:ka}{j rb:Nat}{s:LS}{E:J1}(h:Js O w j rb s.cells E)(a':Gh):Js O (w.setCell ⟨rb,8,none⟩ a') j rb ({s with ru:=a'}:LS).cells E:=h.set 8 _
end Go.VL
namespace Go.Proofs.YtlehnbkknlpkbaaGreatDoor
open Go.VL Go.Proofs
set_option maxRecDepth 10000
abbrev Rd6(O:Nat->Nat)(w:ka)(j rb:Nat)(s:LS):Prop:=Js O w j rb s.cells 170
theorem mY{l:List UInt8}{m i:Nat}{c:UInt8}(h:(l.take m)[i]? = some c):l[i]? = some c:=by
 rw[List.getElem?_take]at h
 split at h
 ·exact h
 cases h
theorem dX(O:Nat->Nat)(w:ka)(j rb:Nat)(s:LS)(m:Nat)(r:List UInt8)(hj:j≠0)(hm:m<=s.l.length)(hl:s.l.length<=100000)(a3:s.to=(m:Int))(hr:r <:+ s.l.take m)(hp:s.pos=(m:Int)-(r.length:Int))(h:Rd6 O w j rb s):
  Ka J9 129 [nP rb] w fun v w'=>v=.bool (decide (0<(aw r).length))/\Rd6 O w' j rb {s with pos:=(m:Int)-((aw r).length:Int)}/\J5 (fun k=>k=j) O w O w':=by
 have hz:¬(fun k:Nat=>k=j) 0:=fun e=>hj e.symm
 have a9:(s.l.take m).length=m:=by simp;omega
 have h0:Rd6 O w j rb {s with pos:=(m:Int)-(r.length:Int)}:=by rw[<-hp];exact h
 refine Gi func129 ntmps129 rfl rfl ?_;refine zh ?_
 refine zlp (fun x:List UInt8×ka=>[(0,nP rb)]) (fun x=>x.2) (fun x=>x.1 <:+ s.l.take m/\aw x.1=aw r/\Rd6 O x.2 j rb {s with pos:=(m:Int)-(x.1.length:Int)}/\J5 (fun k=>k=j) O w O x.2) (fun x=>x.1.length) (r,w) (⟨hr,rfl,h0,Lx hz _ _⟩) ?_;rintro⟨r1,w1⟩ ⟨a4,a2,a7,a5⟩;dsimp only at a4 a2 a7 a5 ⊢;have a0:=a7.drew;have a8:=a4.length_le;refine zh ?_
 refine JO zk zk ?_;refine zh ?_
 refine zwH (RV.ld a0.q1 rfl) ?_;refine zwH (RV.ld a0.q2 rfl) ?_
 cases r1 with
 |nil=>
  refine bP (d:=12) rfl (b':=false) (decide_eq_false (by simp[a3])) ?_;have a1:=a0.drew;refine zh ?_
  refine zw (aW rfl rfl) ?_;refine JH ?_
  refine zh ?_;refine zFH rfl rfl ?_
  refine JO zk zk ?_;refine zh ?_
  refine zwH (RV.ld a1.q1 rfl) ?_;refine zwH (RV.ld a1.q2 rfl) ?_
  refine JH ?_;refine zh ?_
  refine ae rfl rfl (⟨by rw[<-a2];simp[a3,aw],by rw[<-a2];exact a1,a5.drew.drew⟩)
 |cons b r2=>
  simp only[J2]at a8 a0;refine bP (d:=12) rfl (b':=true) (decide_eq_true (by simp only[J2,a3];omega)) ?_;refine zh ?_;refine zwH (RV.ld a0.q0 rfl) ?_;refine zwH (RV.ld a0.q1 rfl) ?_;refine zwH (bt (c:=b) Gb rfl rfl (m-(r2.length+1)) (by dsimp only;omega) (mY (by have:=nD a4;rwa[a9]at this))) ?_;refine zw (aQ rfl rfl) ?_;refine JH ?_;refine zh ?_;refine zC ?_ ?_
  ·intro hb;replace hb:b=32:=by rw[show(32:Int)=((32:Nat):Int)from rfl,oK b 32 zd]at hb;simpa using hb
   subst hb;refine zh ?_;refine zv (RV.ld a0.q1 rfl) ?_;refine zvH (Kg rfl rfl (K0 (by dsimp only;omega))) ?_;refine ak (j:=1) a0 rfl (JI _) rfl rfl rfl rfl ?_;rw[show((m:Int)-((r2.length+1:Nat):Int))+1=(m:Int)-(r2.length:Int)from by omega];have a1:=a0.s_pos ((m:Int)-(r2.length:Int));have a':J5 (fun k=>k=j) O w1.drew O (w1.drew.setCell ⟨rb,1,none⟩ (nI ((m:Int)-(r2.length:Int)))):=J7 hz a0.tag rfl;refine zh ?_;refine zx (r2,w1.drew.setCell ⟨rb,1,none⟩ (nI ((m:Int)-(r2.length:Int)))) (⟨(Km _ _).trans a4,by rw[<-a2];simp[aw],a1,a5.drew.trans a'⟩) (by dsimp only;simp)
  intro hb;replace hb:b≠32:=by rw[show(32:Int)=((32:Nat):Int)from rfl,oK b 32 zd]at hb;simpa using hb
  have a6:aw (b::r2)=b::r2:=by simp[aw,hb]
  have a1:=a0.drew;refine zh ?_;refine JO zk zk ?_;refine zh ?_;refine zwH (RV.ld a1.q1 rfl) ?_;refine zwH (RV.ld a1.q2 rfl) ?_;refine JH ?_;refine zh ?_;refine ae rfl rfl (⟨by rw[<-a2,a6];simp[a3];omega,by rw[<-a2,a6];exact a1,a5.drew.drew⟩)
theorem bI(O:Nat->Nat)(w:ka)(j rb:Nat)(s:LS)(p e:Int)(hj:j≠0)(he:s.e=0)(h:Rd6 O w j rb s):
  Ka J9 156 [nP rb,nI p,nI e] w fun _ w'=>Rd6 O w' j rb {s with bad:=p,e:=e}/\J5 (fun k=>k=j) O w O w':=by
 refine Gi func156 ntmps156 rfl rfl ?_;refine zh ?_
 refine zvH (RV.ld h.q5 rfl) ?_;refine zTH rfl ((by rw[he];rfl)) ?_
 refine ak (j:=4) h rfl (JI _) rfl rfl rfl rfl ?_;have a0:=h.s_bad p;have a3:J5 (fun k=>k=j) O w O (w.setCell ⟨rb,4,none⟩ (nI p)):=J7 (fun e=>hj e.symm) h.tag rfl;refine zh ?_
 refine ak (j:=5) a0 rfl (sizeOf36 _) rfl rfl rfl rfl ?_;have a1:=a0.s_e e;have a2:J5 (fun k=>k=j) O (w.setCell ⟨rb,4,none⟩ (nI p)) O ((w.setCell ⟨rb,4,none⟩ (nI p)).setCell ⟨rb,5,none⟩ (nI e)):=J7 (fun e=>hj e.symm) a0.tag rfl;refine zh ?_
 refine aH rfl (⟨a1,a3.trans a2⟩)
theorem gV(O:Nat->Nat)(w:ka)(j rb:Nat)(s:LS)(m:Nat)(r:List UInt8)(hj:j≠0)(hm:m<=s.l.length)(hl:s.l.length<=100000)(b2:s.to=(m:Int))(hr:r <:+ s.l.take m)(hp:s.pos=(m:Int)-(r.length:Int))(h:Rd6 O w j rb s):
  Ka J9 130 [nP rb] w fun v w'=>v=.string (bs (r.takeWhile aj))/\Rd6 O w' j rb {s with pos:=(m:Int)-((r.dropWhile aj).length:Int)}/\J5 (fun k=>k=j) O w O w':=by
 have hz:¬(fun k:Nat=>k=j) 0:=fun e=>hj e.symm
 have a9:(s.l.take m).length=m:=by simp;omega
 have h0:Rd6 O w j rb {s with pos:=(m:Int)-(r.length:Int)}:=by rw[<-hp];exact h
 have a':=hr.length_le;rw[a9]at a';refine Gi func130 ntmps130 rfl rfl ?_;refine zh ?_;refine zvH (RV.ld h0.q1 rfl) ?_;refine zlp (fun x:List UInt8×ka=>[(0,nP rb),(3,nI ((m:Int)-(r.length:Int)))]) (fun x=>x.2) (fun x=>x.1 <:+ s.l.take m/\x.1.dropWhile aj=r.dropWhile aj/\Rd6 O x.2 j rb {s with pos:=(m:Int)-(x.1.length:Int)}/\J5 (fun k=>k=j) O w O x.2) (fun x=>x.1.length) (r,w) (⟨hr,rfl,h0,Lx hz _ _⟩) ?_;rintro⟨r1,w1⟩ ⟨a8,a5,b4,a6⟩;dsimp only at a8 a5 b4 a6 ⊢;have a0:=b4.drew;have b3:=a8.length_le;rw[a9]at b3;have a3:r1=r.dropWhile aj->(s.l.take (m-r1.length)).drop (m-r.length)=r.takeWhile aj:=fun e=>by
  have:=AH (l:=s.l.take m) (a:=r.takeWhile aj) (b:=r.dropWhile aj) (by rw[Kj];exact hr);rw[Kj,<-e,a9,Lt,Ls zo]at this;exact this
 have b0:r1.length<=r.length\/r1≠r.dropWhile aj:=by
  by_cases e:r1=r.dropWhile aj
  ·left;rw[e];exact(KQ _).length_le
  right;exact e
 refine zh ?_;refine JO zk zk ?_
 refine zh ?_;refine zwH (RV.ld a0.q1 rfl) ?_
 refine zwH (RV.ld a0.q2 rfl) ?_
 cases r1 with
 |nil=>
  refine bP (d:=17) rfl (b':=false) (decide_eq_false (by simp[b2])) ?_;have a1:=a0.drew;have hd:[]=r.dropWhile aj:=by rw[<-a5];rfl
  have h1:=a3 hd;refine zh ?_;refine zw (aW rfl rfl) ?_;refine JH ?_;refine zh ?_;refine zFH rfl rfl ?_;refine JO zk zk ?_;refine zh ?_;refine zwH (RV.ld a1.q0 rfl) ?_;refine zw (RV.ld a1.q1 rfl) ?_;refine zwH (dc Gb rfl rfl rfl (m-r.length) (m-0) zo (by simp) zo zo) ?_;refine JH ?_;refine zh ?_;simp only[Lq]at h1;refine ae rfl rfl (⟨by rw[h1],by rw[<-hd];exact a1,a6.drew.drew⟩)
 |cons b r2=>
  simp only[J2]at b3 a0;refine bP (d:=17) rfl (b':=true) (decide_eq_true (by simp only[J2,b2];omega)) ?_;have a2:s.l[m-(r2.length+1)]? = some b:=mY (by have:=nD a8;rwa[a9]at this);refine zh ?_;refine zwH (RV.ld a0.q0 rfl) ?_;refine zwH (RV.ld a0.q1 rfl) ?_;refine zwH (bt (c:=b) Gb rfl rfl (m-(r2.length+1)) (by dsimp only;omega) a2) ?_
  by_cases k1:65<=b.toNat
  ·refine bP (d:=28) rfl (b':=true) (decide_eq_true zo) ?_;refine zh ?_
   refine zwH (RV.ld a0.q0 rfl) ?_;refine zwH (RV.ld a0.q1 rfl) ?_
   refine zwH (bt (c:=b) Gb rfl rfl (m-(r2.length+1)) (by dsimp only;omega) a2) ?_;refine zwH (aQ rfl rfl) ?_
   by_cases k2:b.toNat<=90
   ·refine bP (d:=40) rfl (b':=true) (decide_eq_true zo) ?_;have a4:aj b=true:=by simp[aj,k1,k2]
    refine zh ?_;refine zw (aQ rfl rfl) ?_
    refine zw (aQ rfl rfl) ?_;refine JH ?_
    refine zh ?_;refine zTH rfl rfl ?_
    refine zv (RV.ld a0.q1 rfl) ?_;refine zvH (Kg rfl rfl (K0 (by dsimp only;omega))) ?_
    refine ak (j:=1) a0 rfl (JI _) rfl rfl rfl rfl ?_;rw[show((m:Int)-((r2.length+1:Nat):Int))+1=(m:Int)-(r2.length:Int)from by omega];have a1:=a0.s_pos ((m:Int)-(r2.length:Int));have b1:J5 (fun k=>k=j) O w1.drew O (w1.drew.setCell ⟨rb,1,none⟩ (nI ((m:Int)-(r2.length:Int)))):=J7 hz a0.tag rfl;refine zh ?_
    refine zx (r2,w1.drew.setCell ⟨rb,1,none⟩ (nI ((m:Int)-(r2.length:Int)))) (⟨(Km _ _).trans a8,by rw[<-a5,Kz a4],a1,a6.drew.trans b1⟩) (by dsimp only;simp)
   refine bP (d:=40) rfl (b':=false) (decide_eq_false zo) ?_;refine zh ?_
   refine zwH (RV.ld a0.q0 rfl) ?_;refine zwH (RV.ld a0.q1 rfl) ?_
   refine zwH (bt (c:=b) Gb rfl rfl (m-(r2.length+1)) (by dsimp only;omega) a2) ?_
   by_cases k3:97<=b.toNat
   ·refine bP (d:=51) rfl (b':=true) (decide_eq_true zo) ?_;refine zh ?_
    refine zwH (RV.ld a0.q0 rfl) ?_;refine zwH (RV.ld a0.q1 rfl) ?_
    refine zwH (bt (c:=b) Gb rfl rfl (m-(r2.length+1)) (by dsimp only;omega) a2) ?_;refine zwH (aQ rfl rfl) ?_
    refine zw (aW rfl rfl) ?_;refine zw (aQ rfl rfl) ?_
    refine JH ?_;refine zh ?_
    by_cases k4:b.toNat<=122
    ·refine aZ rfl (decide_eq_true zo) ?_;have a4:aj b=true:=by simp[aj,k3,k4]
     refine zh ?_;refine zv (RV.ld a0.q1 rfl) ?_
     refine zvH (Kg rfl rfl (K0 (by dsimp only;omega))) ?_;refine ak (j:=1) a0 rfl (JI _) rfl rfl rfl rfl ?_
     rw[show((m:Int)-((r2.length+1:Nat):Int))+1=(m:Int)-(r2.length:Int)from by omega];have a1:=a0.s_pos ((m:Int)-(r2.length:Int));have b1:J5 (fun k=>k=j) O w1.drew O (w1.drew.setCell ⟨rb,1,none⟩ (nI ((m:Int)-(r2.length:Int)))):=J7 hz a0.tag rfl;refine zh ?_;refine zx (r2,w1.drew.setCell ⟨rb,1,none⟩ (nI ((m:Int)-(r2.length:Int)))) (⟨(Km _ _).trans a8,by rw[<-a5,Kz a4],a1,a6.drew.trans b1⟩) (by dsimp only;simp)
    refine aS rfl (decide_eq_false zo) ?_;have a4:aj b=false:=by simp[aj,k2,k4]
    have a7:(b::r2).dropWhile aj=b::r2:=JX (by rw[a4];decide);have hd:b::r2=r.dropWhile aj:=by rw[<-a5,a7]
    have h1:=a3 hd;have h2:=b0.resolve_right (fun e=>e hd);simp only[J2]at h1 h2;have a1:=a0.drew;refine zh ?_;refine JO zk zk ?_;refine zh ?_;refine zwH (RV.ld a1.q0 rfl) ?_;refine zw (RV.ld a1.q1 rfl) ?_;refine zwH (dc Gb rfl rfl rfl (m-r.length) (m-(r2.length+1)) zo (by dsimp only;omega) zo (by dsimp only;omega)) ?_;refine JH ?_;refine zh ?_;refine ae rfl rfl (⟨by rw[h1],by rw[<-hd];exact a1,a6.drew.drew⟩)
   refine bP (d:=51) rfl (b':=false) (decide_eq_false zo) ?_;have a4:aj b=false:=by simp[aj,k2,k3]
   have a7:(b::r2).dropWhile aj=b::r2:=JX (by rw[a4];decide);have hd:b::r2=r.dropWhile aj:=by rw[<-a5,a7]
   have h1:=a3 hd;have h2:=b0.resolve_right (fun e=>e hd);simp only[J2]at h1 h2;have a1:=a0.drew;refine zh ?_;refine zwH (aW rfl rfl) ?_;refine zw (aW rfl rfl) ?_;refine zw (aQ rfl rfl) ?_;refine JH ?_;refine zh ?_;refine zFH rfl rfl ?_;refine JO zk zk ?_;refine zh ?_;refine zwH (RV.ld a1.q0 rfl) ?_;refine zw (RV.ld a1.q1 rfl) ?_;refine zwH (dc Gb rfl rfl rfl (m-r.length) (m-(r2.length+1)) zo (by dsimp only;omega) zo (by dsimp only;omega)) ?_;refine JH ?_;refine zh ?_;refine ae rfl rfl (⟨by rw[h1],by rw[<-hd];exact a1,a6.drew.drew⟩)
  have k3:¬97<=b.toNat:=zo;refine bP (d:=28) rfl (b':=false) (decide_eq_false zo) ?_;refine zh ?_;refine zwH (aW rfl rfl) ?_;refine zwH (RV.ld a0.q0 rfl) ?_;refine zwH (RV.ld a0.q1 rfl) ?_;refine zwH (bt (c:=b) Gb rfl rfl (m-(r2.length+1)) (by dsimp only;omega) a2) ?_;refine bP (d:=51) rfl (b':=false) (decide_eq_false zo) ?_;have a4:aj b=false:=by simp[aj,k1,k3]
  have a7:(b::r2).dropWhile aj=b::r2:=JX (by rw[a4];decide);have hd:b::r2=r.dropWhile aj:=by rw[<-a5,a7]
  have h1:=a3 hd;have h2:=b0.resolve_right (fun e=>e hd);simp only[J2]at h1 h2;have a1:=a0.drew;refine zh ?_;refine zwH (aW rfl rfl) ?_;refine zw (aW rfl rfl) ?_;refine zw (aQ rfl rfl) ?_;refine JH ?_;refine zh ?_;refine zFH rfl rfl ?_;refine JO zk zk ?_;refine zh ?_;refine zwH (RV.ld a1.q0 rfl) ?_;refine zw (RV.ld a1.q1 rfl) ?_;refine zwH (dc Gb rfl rfl rfl (m-r.length) (m-(r2.length+1)) zo (by dsimp only;omega) zo (by dsimp only;omega)) ?_;refine JH ?_;refine zh ?_;refine ae rfl rfl (⟨by rw[h1],by rw[<-hd];exact a1,a6.drew.drew⟩)
end Go.Proofs.YtlehnbkknlpkbaaGreatDoor
end
section
namespace Go.VL
section
variable{P:Kc}{N:Nat}{ops:Array Ld}{Q:LQ→Mp→ka→Prop}{rest:List Ld}{st:St}{w:ka}
variable{t:J1}{p:String}{e:Array M9}{d:Nat}{x y z:KK}
theorem WC.scope{c:Ma}(h:WC P N c (LP Q) st w):WC P N (.scope c) Q st w:=fun a ha=>wp_scope_straight (h a ha)
theorem jX(h:QF N Q .ret st w):QF N (LP Q) .ret st w:=h
theorem run_next_at(w:ka)(b:Nat)(s:ByteArray)(a0:Nat)(ty:J1){c n:Nat}(hb:w.heap[b]? = some (.stringIter s a0))(h:a0<s.size)(hd:Kb s a0=(c,n)):
  (Kx (nP b) true ty).run P w=.ok (.tuple #[.bool true,nI a0,.int .i32 c]) (w.putObj b (.stringIter s (a0+n))):=by
 simp only[Kx,getObj,setObj,JC,LN,hb,Result.andThen,h,if_true,hd];simp[goInt,World.putObj]
theorem qY(w:ka)(b:Nat)(s:ByteArray)(a0:Nat)(ty:J1)(hb:w.heap[b]? = some (.stringIter s a0))(h:¬a0<s.size):
  (Kx (nP b) true ty).run P w=.ok (.tuple #[.bool false]) w:=by
 simp[Kx,getObj,LN,hb,h]
theorem uO{l:List UInt8}{a0 c n b:Nat}(hx:ev st x=some (nP b))(hb:w.heap[b]? = some (.stringIter (bs l) a0))(hp:a0<l.length)(a2:Kb (bs l) a0=(c,n))(hd:JZ d N=true) 
  (h:WL P N ops Q rest ((d,.tuple #[.bool true,nI (a0:Nat),.int .i32 (c:Int)])::st) (w.putObj b (.stringIter (bs l) (a0+n)))):WL P N ops Q (⟨some d,.next x true,t,p,e,none⟩::rest) st w:=by
 have a1:=run_next_at (P:=P) w b (bs l) a0 t hb (by rw[di];exact hp) a2
 exact KS hd (fun a ha=>by
  simp only[execOp,ha.ev hx,JC,a1,Jo]
  rfl) h
theorem xq{l:List UInt8}{a0 b:Nat}(hx:ev st x=some (nP b))(hb:w.heap[b]? = some (.stringIter (bs l) a0))(hp:l.length<=a0)(hd:JZ d N=true) 
  (h:WL P N ops Q rest ((d,.tuple #[.bool false])::st) w):WL P N ops Q (⟨some d,.next x true,t,p,e,none⟩::rest) st w:=by
 have a1:=qY (P:=P) w b (bs l) a0 t hb (by rw[di];omega)
 exact KS hd (fun a ha=>by
  simp only[execOp,ha.ev hx,JC,a1,Jo]
  rfl) h
theorem xC{xt yt:J1}{k k':IntKind}{m:Int}(hs:P.underlying xt=some (.int k'))(a0:P.underlying yt=some .string)(hx:ev st x=some (.int k m)):RV P N (.convert xt yt x) t st w (.string (KT m)):=
 fun a ha a1 p e g=>by
  simp only[execOp,ha.ev hx];simp[convert,run_underlying hs,run_underlying a0,Conv.intToString]
end
theorem B6{l:List UInt8}{a0:Nat}(h:a0<l.length)(hb:(nth l a0).toNat<128):Kb (bs l) a0=((nth l a0).toNat,1):=by
 have hs:a0<(bs l).size:=by rw[di];exact h
 have he:(bs l)[a0]'hs=nth l a0:=by rw[aB h];exact KX (xs:=l) (i:=a0) h
 have:=decode_ascii (bs l) a0 hs (by rw[he];exact hb);rw[he]at this;exact this
theorem D8{l:List UInt8}{i:Nat}(h:i<l.length):(bs l).get! i=nth l i:=by
 rw[aB h];show(bs l).data[i]! = _;rw[getElem!_pos (bs l).data i (by simpa[bs]using h)];simp[bs]
theorem B7{l:List UInt8}{a0:Nat}(h:a0<l.length)(hb:128<=(nth l a0).toNat):
  ∃c n,Kb (bs l) a0=(c,n)/\128<=c/\JJ (c:Int)=true/\1<=n/\a0+n<=l.length/\∀i,a0<=i->i<a0+n->128<=(nth l i).toNat:=by
 have h0:(bs l).get! (a0+0)=nth l a0:=D8 h;have hc:∀k,(a0+k<(bs l).size&&((bs l).get! (a0+k)).toNat / 64==2)=true->a0+k<l.length/\128<=(nth l (a0+k)).toNat:=fun k hk=>by
  simp only[I4,decide_eq_true_eq,beq_iff_eq,di]at hk;rw[D8 hk.1]at hk;exact⟨hk.1,zo⟩
 have one:∀i,a0<=i->i<a0+1->128<=(nth l i).toNat:=fun i h1 h2=>by
  obtain rfl:i=a0:=zo;exact hb
 have a1:∃c n,(Utf8.runeError,1)=(c,n)/\128<=c/\JJ (c:Int)=true/\1<=n/\a0+n<=l.length/\∀i,a0<=i->i<a0+n->128<=(nth l i).toNat:=⟨_,_,rfl,zd,zd,zd,zo,one⟩
 unfold Kb;simp only[h0];rw[if_neg zo];have a2:=(nth l a0).toNat_lt
 split
 ·rename_i h1;simp only[I4]at h1;obtain⟨g1,g2⟩:=hc 1 (by simpa using h1.2)
  split
  ·rename_i h2;refine⟨_,_,rfl,h2,?_,zd,zo,fun i k1 k2=>?_⟩
   ·unfold JJ;simp only[Ku,I4,decide_eq_true_eq];left;constructor<;>omega
   by_cases e:i=a0
   ·rw[e];exact hb
   obtain rfl:i=a0+1:=zo;exact g2
  exact a1
 split
 ·rename_i h1;simp only[I4]at h1;obtain⟨g1,g2⟩:=hc 1 (by simpa using h1.1.2);obtain⟨g3,g4⟩:=hc 2 (by simpa using h1.2)
  split
  ·rename_i h2;simp only[I4,decide_eq_true_eq]at h2;refine⟨_,_,rfl,zo,h2.2,zd,zo,fun i k1 k2=>?_⟩
   by_cases e:i=a0
   ·rw[e];exact hb
   by_cases e1:i=a0+1
   ·rw[e1];exact g2
   obtain rfl:i=a0+2:=zo;exact g4
  exact a1
 split
 ·rename_i h1;simp only[I4]at h1;obtain⟨g1,g2⟩:=hc 1 (by simpa using h1.1.1.2);obtain⟨g3,g4⟩:=hc 2 (by simpa using h1.1.2);obtain⟨g5,g6⟩:=hc 3 (by simpa using h1.2)
  split
  ·rename_i h2;simp only[I4,decide_eq_true_eq]at h2;refine⟨_,_,rfl,zo,h2.2,zd,zo,fun i k1 k2=>?_⟩
   by_cases e:i=a0
   ·rw[e];exact hb
   by_cases e1:i=a0+1
   ·rw[e1];exact g2
   by_cases e2:i=a0+2
   ·rw[e2];exact g4
   obtain rfl:i=a0+3:=zo;exact g6
  exact a1
 exact a1
theorem B2{c:Nat}(hc:128<=c)(hv:JJ (c:Int)=true):∃L:List UInt8,KT (c:Int)=bs L/\2<=L.length/\L.length<=4/\128<=(nth L 1).toNat:=by
 unfold KT;simp only[hv,if_true,Int.toNat_natCast];rw[if_neg zo];have hm:c % 64<64:=Le _ zd
 split
 ·refine⟨[Jv (0xC0+c / 64),Jv (0x80+c % 64)],rfl,by simp,by simp,?_⟩;rw[bd,ar];simp;omega
 split
 ·refine⟨[Jv (0xE0+c / 4096),Jv (0x80+c / 64 % 64),Jv (0x80+c % 64)],rfl,by simp,by simp,?_⟩;rw[bd,ar];have:c / 64 % 64<64:=Le _ zd;simp;omega
 refine⟨[Jv (0xF0+c / 262144),Jv (0x80+c / 4096 % 64),Jv (0x80+c / 64 % 64),Jv (0x80+c % 64)],rfl,by simp,by simp,?_⟩;rw[bd,ar];have:c / 4096 % 64<64:=Le _ zd;simp;omega
end Go.VL
namespace Go.Proofs.YtlehnbkknlpkbaaGreatDoor
open Go.VL Go.Proofs
set_option maxRecDepth 10000
theorem qQ(c:Int)(w:ka)(hv:JJ c=true):Ka J9 206 [.int .i32 c] w fun v w'=>v=.bool true/\w'=w:=by
 unfold JJ at hv;simp only[Ku,I4,decide_eq_true_eq]at hv;refine Gi func206 ntmps206 rfl rfl ?_;refine zh ?_;refine ay (d:=6) rfl (b':=true) ((decide_eq_true zo)) ?_;refine zh ?_
 by_cases h:c<55296
 ·refine zTH rfl ((decide_eq_true zo)) ?_;refine ae rfl rfl (⟨rfl,rfl⟩)
 refine zFH rfl ((decide_eq_false zo)) ?_;refine ay (d:=13) rfl (b':=true) ((decide_eq_true zo)) ?_
 refine zh ?_;refine zTH rfl ((decide_eq_true zo)) ?_
 refine ae rfl rfl (⟨rfl,rfl⟩)
theorem ou(c:Nat)(w:ka)(hc:128<=c)(hv:JJ (c:Int)=true):Ka J9 187 [.string (bs [33,47]),.int .i32 (c:Int)] w fun v w'=>v=nI (-1)/\JW w w':=by
 refine Gi func187 ntmps187 rfl rfl ?_;refine zh ?_
 refine ay (d:=163) rfl (b':=true) ((decide_eq_true zo)) ?_;refine zh ?_
 refine zFH rfl ((decide_eq_false zo)) ?_
 by_cases h3:(c:Int)=65533
 ·refine zTH rfl ((by simpa using h3)) ?_;refine uN Gb rfl rfl ?_
  refine zh ?_;refine zlp (fun x:Nat=>[(175,.pointer (some ⟨w.heap.size,0,none⟩))]) (fun x=>w.iter (bs [33,47]) x) (fun x=>x<=2) (fun x=>2-x) 0 (Jp _) ?_
  rintro k hk;refine zh ?_
  by_cases a2:k<2
  ·have a3:([33,47]:List UInt8)[k]? = some (nth [33,47] k):=by rw[aB (by simpa using a2)];exact J3 (by simpa using a2)
   have a4:(nth ([33,47]:List UInt8) k).toNat<128:=by
    have:k=0\/k=1:=zo
    rcases this with rfl|rfl
    ·rw[ar];decide
    rw[bd,ar];decide
   refine DQ rfl a3 a4 rfl ?_;refine zh ?_
   refine zTH rfl rfl ?_;refine zFH rfl ((beq_eq_false_iff_ne.2 zo)) ?_
   refine zxd (k+1) (a2)
  refine DP rfl (by simp;omega) rfl ?_;refine zh ?_
  refine zFH rfl rfl ?_;refine ae rfl rfl (⟨rfl,Ext.iter _ _ _⟩)
 refine zFH rfl ((by simpa using h3)) ?_;refine zc call206 (qQ c w hv) ?_
 rintro v w9 ⟨rfl,a1⟩;rw[a1];clear a1 w9;obtain⟨L,hL,a6,a5,a7⟩:=B2 hc hv;refine zh ?_;refine aS rfl rfl ?_;refine WC.scope ?_;refine zh ?_;refine zv (xC M6 Gb rfl) ?_;rw[hL];refine zh ?_;refine zvH (cx Gb rfl) ?_;refine zlp (fun x:Unit=>[(0,.string (bs [33,47])),(7,.string (bs L)),(8,nI ((L.length:Int)-1)),(9,nI ((L.length:Int)-1)),(10,nI 0)]) (fun x=>w) (fun x=>True) (fun x=>0) () (trivial) ?_;rintro _ _;refine zh ?_;refine zvH (cx Gb rfl) ?_
 by_cases h2:L.length=2
 ·refine aZ rfl ((decide_eq_true (by simp;omega))) ?_;have a0:L[1]? = some (nth L 1):=by rw[aB zo];exact J3 zo
  refine zh ?_;refine WC.scope ?_
  refine zh ?_;refine JO zk zk ?_
  refine zh ?_;refine zwH (bt (c:=47) Gb rfl rfl 1 zo rfl) ?_
  refine zwH (bt (c:=nth L 1) Gb rfl rfl 1 zo a0) ?_;refine JH ?_
  refine zh ?_;refine zTH rfl ((by rw[bne_iff_ne];show(47:Int)≠_;omega)) ?_
  refine Lo 7 rfl rfl zk zk ?_;refine zh ?_
  refine zwH (jV Gb rfl rfl 2 zo (by simp)) ?_;refine zw (bt (c:=nth L 1) Gb rfl rfl 1 zo a0) ?_
  refine LW ?_;refine zc Mf (dK [] (nth L 1) w.drew.drew) ?_
  rintro v w9 ⟨rfl,a1⟩;rw[a1];clear a1 w9;refine zh ?_;refine zTH rfl rfl ?_;refine jX ?_;refine zh ?_;refine jX ?_;refine zh ?_;refine ae rfl rfl (⟨rfl,(Jq w).drew.drew⟩)
 refine zFH rfl ((decide_eq_false (by simp;omega))) ?_;refine jX ?_
 refine zh ?_;refine ae rfl rfl (⟨rfl,Jq _⟩)
theorem kV(c:Nat)(w:ka)(hc:128<=c)(hv:JJ (c:Int)=true):Ka J9 164 [.string (bs [33,47]),.int .i32 (c:Int)] w fun v w'=>v=.bool false/\JW w w':=by
 refine Gi func164 ntmps164 rfl rfl ?_;refine zh ?_
 refine zc call187 (ou c w hc hv) ?_;rintro v w9 ⟨rfl,hE⟩;refine zh ?_
 refine ae rfl rfl (⟨rfl,hE⟩)
theorem vt(c:Nat)(w:ka)(hc:128<=c)(hv:JJ (c:Int)=true):Ka J9 163 [.int .i32 (c:Int)] w fun v w'=>v=.bool false/\JW w w':=by
 refine Gi func163 ntmps163 rfl rfl ?_;refine zh ?_
 refine zc call164 (kV c w hc hv) ?_;rintro v w9 ⟨rfl,hE⟩;refine zh ?_
 refine ae rfl rfl (⟨rfl,hE⟩)
end Go.Proofs.YtlehnbkknlpkbaaGreatDoor
end
section
namespace Go.VL
def forget(i:Nat)(O:Nat->Nat)(b:Nat):Nat:=if O b=i then 0 else O b
theorem Rng.forget{B i:Nat}{O:Nat->Nat}{w:ka}(h:KG B O w):KG B (forget i O) w:=⟨h.le,fun b hb=>by
 unfold VL.forget at hb
 split at hb
 ·exact absurd rfl hb
 exact h.rng b hb⟩
end Go.VL
namespace Go.Proofs.YtlehnbkknlpkbaaGreatDoor
open Go.VL Go.Proofs
set_option maxRecDepth 10000
def gJ(l:List UInt8):List UInt8:=(l.reverse.dropWhile (· == 32)).reverse
def CM(l:List UInt8):List UInt8:=aw (gJ l)
theorem ve(l:List UInt8):gJ (l++[32])=gJ l:=by simp[gJ]
theorem vf(l:List UInt8){c:UInt8}(h:c≠32):gJ (l++[c])=l++[c]:=by simp[gJ,h]
theorem mN(l:List UInt8)(w:ka)(hl:l.length<=1000000):Ka J9 209 [.string (bs l),.int .u8 32] w fun v w'=>v=.string (bs (aw l))/\w'=w:=by
 refine Gi func209 ntmps209 rfl rfl ?_;refine zh ?_
 refine zlp (fun x:List UInt8=>[(0,.string (bs x)),(1,.int .u8 32)]) (fun x=>w) (fun x=>aw x=aw l/\x.length<=1000000) (fun x=>x.length) l (⟨rfl,hl⟩) ?_;rintro r ⟨hr,a0⟩;refine zh ?_
 refine zvH (cx Gb rfl) ?_
 cases r with
 |nil=>
  refine ay (d:=8) rfl (b':=false) (rfl) ?_;refine zh ?_
  refine zFH rfl rfl ?_;refine ae rfl rfl (⟨by rw[<-hr];rfl,rfl⟩)
 |cons b r2=>
  simp only[J2]at a0;refine ay (d:=8) rfl (b':=true) ((decide_eq_true (by simp only[J2];omega))) ?_;refine zh ?_;refine zvH (bt (c:=b) Gb rfl rfl 0 rfl rfl) ?_;refine zC ?_ ?_
  ·intro hb;replace hb:b=32:=by
    by_cases e:b=32
    ·exact e
    have:=iD b 32 zd e;exact absurd (this.symm.trans hb) zd
   subst hb;refine zh ?_;refine zvH (jV Gb rfl rfl 1 rfl (by simp)) ?_;refine zx (r2) (⟨by rw[<-hr];simp[aw],zo⟩) (by simp)
  intro hb;replace hb:b≠32:=fun e=>by subst e;cases hb
  refine zh ?_;refine ae rfl rfl (⟨by rw[<-hr];simp[aw,hb],rfl⟩)
theorem lA(l:List UInt8)(w:ka)(hl:l.length<=1000000):Ka J9 210 [.string (bs l),.int .u8 32] w fun v w'=>v=.string (bs (gJ l))/\w'=w:=by
 refine Gi func210 ntmps210 rfl rfl ?_;refine zh ?_
 refine zlp (fun x:List UInt8=>[(0,.string (bs x)),(1,.int .u8 32)]) (fun x=>w) (fun x=>gJ x=gJ l/\x.length<=1000000) (fun x=>x.length) l (⟨rfl,hl⟩) ?_;rintro r ⟨hr,a1⟩;refine zh ?_
 refine zvH (cx Gb rfl) ?_
 rcases List.eq_nil_or_concat r with rfl|⟨r2,b,rfl⟩
 ·refine ay (d:=8) rfl (b':=false) (rfl) ?_;refine zh ?_
  refine zFH rfl rfl ?_;refine ae rfl rfl (⟨by rw[<-hr];rfl,rfl⟩)
 rw[List.concat_eq_append]at *;have a0:(r2++[b]).length=r2.length+1:=by simp
 rw[a0]at a1;refine ay (d:=8) rfl (b':=true) ((decide_eq_true (by rw[a0];omega))) ?_;refine zh ?_;refine zvH (cx Gb rfl) ?_;refine zvH (bt (c:=b) Gb rfl rfl r2.length (by rw[a0];omega) (by simp)) ?_;refine zC ?_ ?_
 ·intro hb;replace hb:b=32:=by
   by_cases e:b=32
   ·exact e
   have:=iD b 32 zd e;exact absurd (this.symm.trans hb) zd
  subst hb;refine zh ?_;refine zv (cx Gb rfl) ?_;refine zv (RV.sub rfl rfl (K0 (by rw[a0];omega))) ?_;refine zvH (xz Gb rfl rfl r2.length (by rw[a0];omega) (by simp)) ?_;rw[List.take_left];refine zx (r2) (⟨by rw[<-hr,ve],zo⟩) (by simp)
 intro hb;replace hb:b≠32:=fun e=>by subst e;cases hb
 refine zh ?_;refine ae rfl rfl (⟨by rw[<-hr,vf _ hb],rfl⟩)
theorem Aq(l:List UInt8):(gJ l).length<=l.length:=by
 have:=(KQ (l:=l.reverse) (· == (32:UInt8))).length_le;simpa[gJ]using this
theorem CL(l:List UInt8)(w:ka)(hl:l.length<=1000000):Ka J9 188 [.string (bs l),.string (bs [32])] w fun v w'=>v=.string (bs (CM l))/\JW w w':=by
 have a0:=Aq l;refine Gi func188 ntmps188 rfl rfl ?_;refine zh ?_;refine zvH (cX rfl rfl) ?_
 by_cases h0:l=[]
 ·subst h0;refine ay (d:=9) rfl (b':=true) (rfl) ?_;refine zh ?_;refine zTH rfl rfl ?_;refine ae rfl rfl (⟨rfl,Jq _⟩)
 refine ay (d:=9) rfl (b':=false) ((by simpa using h0)) ?_;refine zh ?_
 refine zvH (cX rfl rfl) ?_;refine zFH rfl rfl ?_
 refine zvH (cx Gb rfl) ?_;refine ay (d:=17) rfl (b':=true) (rfl) ?_
 refine zh ?_;refine zvH (bt (c:=32) Gb rfl rfl 0 rfl rfl) ?_
 refine zTH rfl rfl ?_;refine JO zk zk ?_
 refine zh ?_;refine zw (bt (c:=32) Gb rfl rfl 0 rfl rfl) ?_
 refine Mh call210 rfl (lA l w.drew hl) rfl ?_;refine zh ?_
 refine zw (bt (c:=32) Gb rfl rfl 0 rfl rfl) ?_;refine Mh call209 rfl (mN (gJ l) w.drew zo) rfl ?_
 refine zh ?_;refine JH ?_
 refine zh ?_;refine ae rfl rfl (⟨rfl,(Jq w).drew⟩)
def yV(c:UInt8):Bool:=decide (c=33)||decide (c=47)
theorem F7(c:UInt8):decide (0<=sH [33,47] c)=yV c:=by
 unfold sH yV
 by_cases h1:c=33
 ·subst h1;rfl
 by_cases h2:c=47
 ·subst h2;rfl
 have:[(33:UInt8),47].findIdx? (· == c)=none:=by
  rw[Ju];intro x hx;simp at hx
  rcases hx with rfl|rfl<;>simp<;>intro e<;>first|exact h1 e.symm|exact h2 e.symm
 rw[this];simp[h1,h2]
theorem rS(c:UInt8)(w:ka)(hc:c.toNat<128):Ka J9 187 [.string (bs [33,47]),.int .i32 (c.toNat:Int)] w fun v w'=>v=nI (sH [33,47] c)/\w'=w:=by
 refine Gi func187 ntmps187 rfl rfl ?_;refine zh ?_
 refine ay (d:=163) rfl (b':=true) ((decide_eq_true zo)) ?_;refine zh ?_
 refine zTH rfl ((decide_eq_true zo)) ?_;refine zv (Cx M6 underlying5 rfl (Fit.u8 zo)) ?_
 refine zc Mf (dK [33,47] c w) ?_;rintro v w9 ⟨rfl,a0⟩;rw[a0];clear a0 w9;refine zh ?_
 refine ae rfl rfl (⟨rfl,rfl⟩)
theorem mT(c:UInt8)(w:ka)(hc:c.toNat<128):Ka J9 164 [.string (bs [33,47]),.int .i32 (c.toNat:Int)] w fun v w'=>v=.bool (yV c)/\w'=w:=by
 refine Gi func164 ntmps164 rfl rfl ?_;refine zh ?_
 refine zc call187 (rS c w hc) ?_;rintro v w9 ⟨rfl,a0⟩;rw[a0];clear a0 w9;refine zh ?_
 refine ae rfl rfl (⟨congrArg L0 (F7 c),rfl⟩)
theorem AT(c:UInt8)(w:ka)(hc:c.toNat<128):Ka J9 163 [.int .i32 (c.toNat:Int)] w fun v w'=>v=.bool (yV c)/\w'=w:=by
 refine Gi func163 ntmps163 rfl rfl ?_;refine zh ?_
 refine zc call164 (mT c w hc) ?_;rintro v w9 ⟨rfl,a0⟩;rw[a0];clear a0 w9;refine zh ?_
 refine ae rfl rfl (⟨rfl,rfl⟩)
def mm(l:List UInt8):Int:=match l.findIdx? yV with|some i=>(i:Nat)|none=>-1
theorem rT(l:List UInt8)(w:ka):Ka J9 186 [.string (bs l),.func (.func 163) #[] #[],.bool true] w fun v w'=>v=nI (mm l)/\JW w w':=by
 have b2:J5 (fun k=>k=1) (fun _=>0) w (lJ (fun _=>0) w.heap.size 1) (w.iter (bs l) 0):=KJ zd (au w) _ 1;have hO:lJ (fun _=>0) w.heap.size 1 w.heap.size=1:=eB _ _ _;refine Gi func186 ntmps186 rfl rfl ?_;refine zh ?_;refine uN Gb rfl rfl ?_;refine zh ?_;refine zlp (fun x:Nat×ka=>[(1,.func (.func 163) #[] #[]),(2,.bool true),(10,.pointer (some ⟨w.heap.size,0,none⟩))]) (fun x=>x.2) (fun x=>(∀i,i<x.1->i<l.length->yV (nth l i)=false)/\x.2.heap[w.heap.size]? = some (.stringIter (bs l) x.1)/\J5 (fun k=>k=1) (fun _=>0) w (lJ (fun _=>0) w.heap.size 1) x.2) (fun x=>l.length-x.1) (0,w.iter (bs l) 0) (⟨fun i hi=>absurd hi (JT i),World.iter_heap w (bs l) 0,b2⟩) ?_;rintro⟨k,w1⟩ ⟨a3,a2,a5⟩;dsimp only at a3 a2 a5 ⊢;refine zh ?_
 by_cases a1:k<l.length
 ·by_cases a7:(nth l k).toNat<128
  ·refine uO rfl a2 a1 (B6 a1 a7) rfl ?_;have a4:=a5.trans (JR zd hO (w:=w1) (.stringIter (bs l) (k+1)));have a0:(w1.putObj w.heap.size (.stringIter (bs l) (k+1))).heap[w.heap.size]? = some (.stringIter (bs l) (k+1)):=JM (bB a2);generalize w1.putObj w.heap.size (.stringIter (bs l) (k+1))=w2 at *;refine zh ?_
   refine zTH rfl rfl ?_;refine dN rfl call163 rfl (AT (nth l k) w2 a7) rfl ?_
   rintro v w9 ⟨rfl,a6⟩;rw[a6];clear a6 w9;refine zh ?_;refine zvH (Cw Ln rfl rfl) ?_
   cases hs:yV (nth l k)with
   |true=>
    refine zTH rfl rfl ?_;have hf:l.findIdx? yV=some k:=Jt.2 ⟨a1,by rw[<-aB a1,hs],fun j hj=>by rw[<-aB zo,a3 j hj zo];decide⟩
    refine ae rfl rfl (⟨by unfold mm;rw[hf];rfl,a4.ext⟩)
   |false=>
    refine zFH rfl rfl ?_;refine zxd (k+1,w2) (⟨fun i hi hl=>(Jz.1 hi).elim (fun h=>a3 i h hl) (fun e=>by rw[e];exact hs),a0,a4⟩)
  obtain⟨c,n,a',b1,b0,b4,b3,a9⟩:=B7 a1 zo;refine uO rfl a2 a1 a' rfl ?_;have a4:=a5.trans (JR zd hO (w:=w1) (.stringIter (bs l) (k+n)));have a0:(w1.putObj w.heap.size (.stringIter (bs l) (k+n))).heap[w.heap.size]? = some (.stringIter (bs l) (k+n)):=JM (bB a2);generalize w1.putObj w.heap.size (.stringIter (bs l) (k+n))=w2 at *;refine zh ?_;refine zTH rfl rfl ?_;refine dN rfl call163 rfl (vt c w2 b1 b0) rfl ?_;rintro v w3 ⟨rfl,a8⟩;refine zh ?_;refine zvH (Cw Ln rfl rfl) ?_;refine zFH rfl rfl ?_;refine zxd (k+n,w3) (⟨fun i hi hl=>?_,(a8.block _ (bB a0)).trans a0,a4.trans (aa zd _ a8)⟩)
  by_cases e:i<k
  ·exact a3 i e hl
  have:=a9 i zo hi;unfold yV;rw[decide_eq_false (fun e=>by rw[e]at this;exact absurd this zd),decide_eq_false (fun e=>by rw[e]at this;exact absurd this zd)];rfl
 refine xq rfl a2 zo rfl ?_;refine zh ?_
 refine zFH rfl rfl ?_;have hf:l.findIdx? yV=none:=Ju.2 fun x hx=>by
  obtain⟨j,hj,rfl⟩:=cI hx;exact a3 j zo hj
 refine ae rfl rfl (⟨by unfold mm;rw[hf],a5.ext⟩)
theorem mQ(l:List UInt8)(w:ka):Ka J9 162 [.string (bs l),.func (.func 163) #[] #[]] w fun v w'=>v=nI (mm l)/\JW w w':=by
 refine Gi func162 ntmps162 rfl rfl ?_;refine zh ?_
 refine zc call186 (rT l w) ?_;rintro v w1 ⟨rfl,hE⟩;refine zh ?_
 refine ae rfl rfl (⟨rfl,hE⟩)
def GK(seg:List UInt8):XR:=if CM seg=[]then .ok (.mk 9 0 [])else IK seg
def pf(kn:Kn)(seg:List UInt8):XR:=if CM seg=[]then .ok (.mk 9 0 [])else fz kn seg
variable{kn:Kn}
def PostS(O:Nat->Nat)(w:ka)(j rb:Nat)(s:LS)(fr:Nat)(x:N3):XR->Prop
 |.ok t=>Nt O w t x/\Rd6 O w j rb s
 |.bad p e=>x=(0,0,nS)/\e≠0/\Rd6 O w j rb {s with bad:=(fr:Int)+(p:Int),e:=e}
theorem yw(l:List UInt8)(p:Nat)(e:Int)(h:fz kn l=.bad p e):e≠0/\p<=l.length:=by
 have hg:=jd (kn:=kn) 20 l;unfold fz at h
 split at h
 ·cases h;exact⟨zd,Jp _⟩
 cases hf:xn kn 20 l with
 |bad q f=>
  rw[hf]at h hg
  cases h
  exact⟨hg.2,zo⟩
 |ok t r=>
  rw[hf]at h;dsimp only at h
  split at h
  ·cases h;exact⟨zd,zo⟩
  split at h
  ·cases h;exact⟨zd,Jp _⟩
  cases h
theorem xy{α:Type}{enc:α->List Gh}{E:J1}{sz:Nat}{B:Nat}{O:Nat->Nat}{w:ka}{i:Nat}{v:Gh}{l:List α}(h:L2 enc E sz O w i v l)(hi:i≠0)(r:KG B O w):Free (forget i O) w v:=fun a n c e _=>by
 have h1:=h.1.tag a.block (by subst e;rfl);have h2:=r.rng a.block (by rw[h1];exact hi);exact⟨by unfold forget;rw[if_pos h1],h2.2⟩
def Mac(O:Nat->Nat)(w:ka)(i:Nat)(v:Gh)(kn:Kn):Prop:=
 ∃ms:List M3,L2 lz 243 4 O w i v ms/\kn.length=ms.length/\∀q,q<ms.length->(nth kn q).1=(nth ms q).1/\Nt O w (nth kn q).2 (nth ms q).2
theorem Mac.upd{S:Nat->Prop}{O O':Nat->Nat}{w w':ka}{i:Nat}{v:Gh}(h:Mac O w i v kn)(u:J5 S O w O' w')(hi:i≠0)(hS:¬S i):Mac O' w' i v kn:=by
 obtain⟨ms,h1,h2,h3⟩:=h;exact⟨ms,h1.upd u hi hS,h2,fun q hq=>⟨(h3 q hq).1,(h3 q hq).2.upd u⟩⟩
theorem Mac.known{B:Nat}{O:Nat->Nat}{w:ka}{i:Nat}{v:Gh}(h:Mac O w i v kn)(hi:i≠0)(r:KG B O w):Mc (forget i O) w v kn:=by
 obtain⟨ms,h1,h2,h3⟩:=h;exact⟨ms,h1.sl,xy h1 hi r,h2,fun q hq=>⟨(h3 q hq).1,(h3 q hq).2.weak fun b hb=>by unfold forget;rw[hb];split<;>rfl⟩⟩
theorem Mac.nil(O:Nat->Nat)(w:ka)(i:Nat):Mac O w i (nS) []:=⟨[],RowT.nil _ _ _ _ _ _,rfl,fun q hq=>absurd hq (by simp)⟩
theorem qW(B:Nat)(O:Nat->Nat)(w:ka)(j rb:Nat)(s:LS)(fr to:Nat)(hR:KG B O w)(hj:j≠0)(he:s.e=0){jm:Nat}(d6:jm≠0)(e7:j≠jm)(e5:Mac O w jm s.mc kn)(e8:fr<=to)(e3:to<=s.l.length)(hl:s.l.length<=100000)(h:Rd6 O w j rb s):
  Ka J9 165 [nP rb,nI fr,nI to] w fun v w'=>∃x,v=nv x/\J5 (fun k=>k=j) O w O w'/\PostS O w' j rb s fr x (pf kn ((s.l.take to).drop fr)):=by
 obtain⟨T0,d2,b1⟩:=hR.bound;obtain⟨T,a2,e6,hT⟩:∃T,0<T/\jm<T/\∀b,O b<T:=⟨T0+jm+1,zo,zo,fun b=>by have:=b1 b;omega⟩
 clear d2 b1 T0;have f7:j<T:=by rw[<-h.tag];exact hT rb
 have f5:((s.l.take to).drop fr).length=to-fr:=by simp;omega
 refine Gi func165 ntmps165 rfl rfl ?_;refine zh ?_
 refine ax hR T zo (Gv _) rfl ?_;intro xb w1 O1 e2 d9 f3 f8;have d8:=h.upd d9 hj zo;have c9:=d9.pT hj a2 (la _);refine zh ?_
 refine zvH (RV.ld d8.q0 rfl) ?_;refine zvH (dc Gb rfl rfl rfl fr to rfl rfl e8 e3) ?_
 refine zc call188 (CL ((s.l.take to).drop fr) w1 zo) ?_;rintro v w2 ⟨rfl,e1⟩;have c7:J5 (fun _=>False) O1 w1 O1 w2:=aa (fun h=>h) O1 e1;have b2:=e2.upd c7 zo (fun h=>h);have c5:=d8.upd c7 hj (fun h=>h);have b4:=f3.upd c7;have a5:=c9.trans (jz O1 e1 hj a2);refine zvH (cX rfl rfl) ?_
 by_cases b3:CM ((s.l.take to).drop fr)=[]
 ·have hM:pf kn ((s.l.take to).drop fr)=.ok (.mk 9 0 []):=by unfold pf;rw[if_pos b3]
  rw[hM];refine aZ rfl ((by rw[b3];rfl)) ?_;have a6:((9,0,nS):N3).2.2.oneCell'=true:=rfl;refine zh ?_;refine zv (aF xW (Gv _) rfl (by first|rfl|(simp only[J4,JB];rfl)) rfl rfl) ?_;refine zsb (us:=#[nI ((9,0,nS):N3).1,nI ((9,0,nS):N3).2.1,((9,0,nS):N3).2.2]) b2 (ix _) (cn a6) ?_;have a8:=GZ (us:=#[nI ((9,0,nS):N3).1,nI ((9,0,nS):N3).2.1,((9,0,nS):N3).2.2]) b2;have a1:J5 (fun k=>k=T) O1 w2 O1 (GT w2 xb #[nI ((9,0,nS):N3).1,nI ((9,0,nS):N3).2.1,((9,0,nS):N3).2.2]):=ln zo (J0 b2) rfl;have a':=c5.upd a1 hj zo;have a7:=a5.trans (a1.pT hj a2 (la _));refine zh ?_;refine aN rfl rfl (a8.cellsAdd) (Gc _) (ix _) (⟨(9,0,nS),rfl,a7.priv hT hj,KV _ _ _ _,a'.fgt h.tag⟩)
 have hM:pf kn ((s.l.take to).drop fr)=fz kn ((s.l.take to).drop fr):=by unfold pf;rw[if_neg b3]
 rw[hM];refine zFH rfl ((by simpa using b3)) ?_;refine zv (RV.ld c5.q9 rfl) ?_;have b9:=e5.upd a5 d6 zo;refine zc call158 (lH s.mc ((s.l.take to).drop fr) B O1 (forget jm O1) w2 b4 b4.forget (b9.known d6 b4)) ?_;rintro v w3 ⟨e0,b5⟩;have c6:J5 (fun _=>False) O1 w2 O1 w3:=aa (fun h=>h) O1 e0;have d3:=b2.upd c6 zo (fun h=>h);have d7:=c5.upd c6 hj (fun h=>h);have d':=b4.upd c6;have b0:=a5.trans (jz O1 e0 hj a2)
 cases hf:fz kn ((s.l.take to).drop fr)with
 |ok t=>
  rw[hf]at b5;obtain⟨x,rfl,d4⟩:=b5;have a6:=d4.one;refine zh ?_;refine ax d' (T+1) zo (Gv _) rfl ?_;intro nb w4 O4 a3 d1 e' f4;refine zsb (us:=#[nI x.1,nI x.2.1,x.2.2]) a3 (ix _) (cn a6) ?_;have b8:=a3.setRow (us:=#[nI x.1,nI x.2.1,x.2.2]);have d0:J5 (fun k=>k=T+1) O4 w4 O4 (w4.setRow nb #[nI x.1,nI x.2.1,x.2.2]):=ln zo a3.tag rfl;have a0:=d1.trans d0;have a9:=d3.upd a0 zo zo;have b':=d7.upd a0 hj zo;have a4:=b0.trans (a0.pT hj a2 (Jy _));have b7:=d4.upd a0;generalize w4.setRow nb #[nI x.1,nI x.2.1,x.2.2]=w5 at *;refine zh ?_;refine zFH rfl rfl ?_;refine zv (ai (us:=aY x) b8.cellsAdd (Gc _) (ix _) rfl) ?_;refine zsb (us:=#[nI x.1,nI x.2.1,x.2.2]) a9 (ix _) (cn a6) ?_;have a8:=GZ (us:=#[nI x.1,nI x.2.1,x.2.2]) a9;have a1:J5 (fun k=>k=T) O4 w5 O4 (GT w5 xb #[nI x.1,nI x.2.1,x.2.2]):=ln zo (J0 a9) rfl;have a':=b'.upd a1 hj zo;have a7:=a4.trans (a1.pT hj a2 (la _));refine zh ?_;refine aN rfl rfl (a8.cellsAdd) (Gc _) (ix _) (⟨x,rfl,a7.priv hT hj,(b7.upd a1).low a7,a'.fgt h.tag⟩)
 |bad p e=>
  rw[hf]at b5;obtain⟨rfl,d5⟩:=b5;obtain⟨_,f6⟩:=yw _ _ _ hf;refine zh ?_;refine ax d' (T+1) zo (Gv _) rfl ?_;intro nb w4 O4 a3 d1 e' f4;refine zsa (us:=#[nI 0,nI 0,nS]) a3 (ix _) ?_;have b8:=a3.setRow (us:=#[nI 0,nI 0,nS]);have d0:J5 (fun k=>k=T+1) O4 w4 O4 (w4.setRow nb #[nI 0,nI 0,nS]):=ln zo a3.tag rfl;have a0:=d1.trans d0;have a9:=d3.upd a0 zo zo;have b':=d7.upd a0 hj zo;have a4:=b0.trans (a0.pT hj a2 (Jy _));generalize w4.setRow nb #[nI 0,nI 0,nS]=w5 at *;refine zh ?_;refine zTH rfl ((by simpa using d5)) ?_;refine zc LC (bI O4 w5 j rb s ((fr:Int)+(p:Int)) e hj he b') ?_;rintro v w6 ⟨e9,c'⟩;have b6:=a9.upd c' zo zo;have e4:=b8.upd c' zo zo;have c8:=a4.trans (c'.pj a2);refine zh ?_;refine zv (ai (us:=aY ((0,0,nS):N3)) e4.cellsAdd (Gc _) (ix _) rfl) ?_;have a6:((0,0,nS):N3).2.2.oneCell'=true:=rfl;refine zsb (us:=#[nI ((0,0,nS):N3).1,nI ((0,0,nS):N3).2.1,((0,0,nS):N3).2.2]) b6 (ix _) (cn a6) ?_;have a8:=GZ (us:=#[nI ((0,0,nS):N3).1,nI ((0,0,nS):N3).2.1,((0,0,nS):N3).2.2]) b6;have a1:J5 (fun k=>k=T) O4 w6 O4 (GT w6 xb #[nI ((0,0,nS):N3).1,nI ((0,0,nS):N3).2.1,((0,0,nS):N3).2.2]):=ln zo (J0 b6) rfl;have a':=e9.upd a1 hj zo;have a7:=c8.trans (a1.pT hj a2 (la _));refine zh ?_;refine aN rfl rfl (a8.cellsAdd) (Gc _) (ix _) (⟨(0,0,nS),rfl,a7.priv hT hj,rfl,d5,a'.fgt h.tag⟩)
end Go.Proofs.YtlehnbkknlpkbaaGreatDoor
end
namespace Go.Proofs.YtlehnbkknlpkbaaGreatDoor
section
def da(t:Nd):Int:=if(bj t&&Aj 3 t)=true then 4 else if(!(tL t)||decide (4<tK t))=true then 8 else 0
theorem kH(t:Nd)(x:N3)(w:ka)(h:Nt (fun _=>0) w t x):Ka J9 100 [nv x] w fun v w'=>v=nI (da t)/\JW w w':=by
 refine Gi func100 ntmps100 rfl rfl ?_;refine zh ?_
 refine aE (au w) 1 zo rfl rfl ?_;intro xb w1 O1 a5 a7 a8 a3;have a4:∀W,JW w1 W->∀(j:Nat) (u:Gh),(aY x)[j]? = some u->W.cell? (nA xb j)=some u:=fun W hE j u hu=>hE.cell (a5.cellsAdd j u hu)
 refine zh ?_;refine zv (ai (us:=aY x) (a4 w1 (Jq _)) (Gc _) (ix _) rfl) ?_
 refine zc call138 (py t x w1 (h.ext a3)) ?_;rintro v w2 ⟨rfl,a2⟩;refine zh ?_
 refine zv (ai (us:=aY x) (a4 w2 a2) (Gc _) (ix _) rfl) ?_;refine zc call139 (zD t 3 x w2 (h.ext (a3.trans a2))) ?_
 rintro v w3 ⟨rfl,a6⟩;have a0:=(a3.trans a2).trans a6;refine zh ?_
 cases h1:(bj t&&Aj 3 t)with
 |true=>
  refine zTH rfl rfl ?_;refine ae rfl rfl (⟨by unfold da;rw[if_pos h1],a0⟩)
 |false=>
  refine zFH rfl rfl ?_;refine bK (fun w1=>_=w1) (decide (4<tK t)) 2 (rfl) rfl rfl rfl rfl rfl ?_ ?_
  ·intro a1;refine zh ?_;refine nE 16 3 (rfl) a1
  rintro _ rfl;refine zh ?_
  cases h2:(!(tL t)||decide (4<tK t))with
  |true=>
   refine zTH rfl rfl ?_;refine ae rfl rfl (⟨by unfold da;rw[if_neg (by rw[h1];decide),if_pos h2],a0⟩)
  |false=>
   refine zFH rfl rfl ?_;refine ae rfl rfl (⟨by unfold da;rw[if_neg (by rw[h1];decide),if_neg (by rw[h2];decide)],a0⟩)
abbrev R3:=Nd×Nd×Bool
abbrev X3:=N3×N3×Bool
def cj(x:X3):List Gh:=[nI x.1.1,nI x.1.2.1,x.1.2.2,nI x.2.1.1,nI x.2.1.2.1,x.2.1.2.2,.bool x.2.2]
def Rt(O:Nat->Nat)(w:ka)(t:R3)(x:X3):Prop:=Nt O w t.1 x.1/\Nt O w t.2.1 x.2.1/\x.2.2=t.2.2
theorem Rt.upd{S:Nat->Prop}{O O':Nat->Nat}{w w':ka}{t:R3}{x:X3}(h:Rt O w t x)(u:J5 S O w O' w'):Rt O' w' t x:=⟨h.1.upd u,h.2.1.upd u,h.2.2⟩
theorem Rt.weak{O O':Nat->Nat}{w:ka}{t:R3}{x:X3}(h:Rt O' w t x)(k:∀b,O' b=0->O b=0):Rt O w t x:=⟨h.1.weak k,h.2.1.weak k,h.2.2⟩
theorem elR:Elem J9 39 85 7 88:=⟨M1,by kernel_rfl,zd⟩
theorem GN:cV J9 85 #[(0,3),(3,3),(6,1)]:=⟨_,underlying85,fun w=>by kernel_rfl⟩
inductive LR where
 |ok (x:R3)
 |bad (p:Nat) (e:Int)
def Jg(r:List UInt8):LR:=
 match r.findIdx? yV with
 |none=>.bad r.length 4
 |some k=>
  match GK (r.take k)with
  |.bad p e=>.bad p e
  |.ok a=>
   match GK (r.drop (k+1))with
   |.bad p e=>.bad (k+1+p) e
   |.ok b=>if da b≠0 then .bad (k+1) (da b)else .ok (a,b,(((nth r k).toNat:Int)==47))
def jl(kn:Kn)(r:List UInt8):LR:=
 match r.findIdx? yV with
 |none=>.bad r.length 4
 |some k=>
  match pf kn (r.take k)with
  |.bad p e=>.bad p e
  |.ok a=>
   match pf kn (r.drop (k+1))with
   |.bad p e=>.bad (k+1+p) e
   |.ok b=>if da b≠0 then .bad (k+1) (da b)else .ok (a,b,(((nth r k).toNat:Int)==47))
variable{kn:Kn}
def AQ(s:LS)(fr:Nat):XR->LS
 |.ok _=>s
 |.bad p e=>{s with bad:=(fr:Int)+(p:Int),e:=e}
theorem PostS.rd{O:Nat->Nat}{w:ka}{j rb:Nat}{s:LS}{fr:Nat}{x:N3}{M:XR}(h:PostS O w j rb s fr x M):Rd6 O w j rb (AQ s fr M):=by
 cases M with
 |ok t=>exact h.2
 |bad p e=>exact h.2.2
theorem PostS.one{O:Nat->Nat}{w:ka}{j rb:Nat}{s:LS}{fr:Nat}{x:N3}{M:XR}(h:PostS O w j rb s fr x M):x.2.2.oneCell'=true:=by
 cases M with
 |ok t=>exact h.1.one
 |bad p e=>rw[h.1];rfl
theorem PostS.upd{S:Nat->Prop}{O O':Nat->Nat}{w w':ka}{j rb:Nat}{s:LS}{fr:Nat}{x:N3}{M:XR}(h:PostS O w j rb s fr x M)(u:J5 S O w O' w')(hj:j≠0)(hS:¬S j):PostS O' w' j rb s fr x M:=by
 cases M with
 |ok t=>exact⟨h.1.upd u,GY h.2 u hj hS⟩
 |bad p e=>exact⟨h.1,h.2.1,GY h.2.2 u hj hS⟩
theorem CV(s:LS)(fr:Nat)(M:XR):(AQ s fr M).l=s.l:=by cases M<;>rfl
theorem AP(s:LS)(fr:Nat)(M:XR):(AQ s fr M).bg=s.bg:=by cases M<;>rfl
def IY(B:Nat)(O:Nat->Nat)(w w':ka)(j jr rb:Nat)(s:LS)(xs:List X3)(M:LR):Prop:=
 ∃O' rv,J5 (fun k=>k=j\/k=jr) O w O' w'/\KG B O' w'/\
  match M with
  |.ok t=>∃x,L2 cj 85 7 O' w' jr rv (xs++[x])/\Rt O' w' t x/\Rd6 O' w' j rb {s with ru:=rv}
  |.bad p e=>e≠0/\Rd6 O' w' j rb {s with ru:=rv,bad:=s.bg+(p:Int),e:=e}
theorem kz{x y:N3}{b:Bool}(h1:x.2.2.oneCell'=true)(h2:y.2.2.oneCell'=true):(cj (x,y,b)).toArray.toList.all Kw=true:=by
 simp only[cj,J4,h1,h2];rfl
theorem bU{x y:N3}{b:Bool}(h1:x.2.2.oneCell'=true)(h2:y.2.2.oneCell'=true):∀c∈cj (x,y,b),c.oneCell'=true:=by
 have:=kz (b:=b) h1 h2;exact Lm.1 this
theorem DY{L r:List UInt8}(h:r <:+ L):L.drop (L.length-r.length)=r:=(List.suffix_iff_eq_drop.1 h).symm
theorem jI{O:Nat->Nat}{w:ka}{i b:Nat}{x1 x2:N3}{brk:Bool}{E:J1}(h:Js O w i b (cj (x1,x2,brk)).toArray E):∀(q:Nat) (u:Gh),(aY x2)[q]? = some u->w.cell? ((nA b 3).add q)=some u:=fun q u hu=>by
 have e:((nA b 3).add q)=⟨b,3+q,none⟩:=by
  simp only[K1];(repeat' split)<;>simp_all
 rw[e];refine h.cell (3+q) ?_;simp only[aY]at hu
 match q,hu with
 |0,hu=>exact hu
 |1,hu=>exact hu
 |2,hu=>exact hu
theorem vl{O:Nat->Nat}{w:ka}{j rb m n:Nat}{s:LS}{fr:Nat}{x:N3}{M:XR}{hbg:s.bg=((m-n:Nat):Int)}(h:PostS O w j rb s fr x M):w.cell? ⟨rb,0,none⟩=some (.string (bs s.l))/\w.cell? ⟨rb,3,none⟩=some (nI ((m-n:Nat):Int)):=by
 have h0:=h.rd.q0;have h3:=h.rd.q3;rw[CV]at h0;rw[AP,hbg]at h3;exact⟨h0,h3⟩
theorem tk(B:Nat)(O:Nat->Nat)(w:ka)(j jr rb:Nat)(s:LS)(m:Nat)(r:List UInt8)(xs:List X3)(hR:KG B O w)(hj:j≠0)(b0:jr≠0)(e7:j≠jr)(hm:m<=s.l.length)(hl:s.l.length<=100000)(i7:s.to=(m:Int))(hbg:s.bg=((m-r.length:Nat):Int))(he:s.e=0){jm:Nat}(h2:jm≠0)(g0:j≠jm)(l':jr≠jm)(j3:Mac O w jm s.mc kn)
  (hr:r <:+ s.l.take m) (f':L2 cj 85 7 O w jr s.ru xs) (l9:xs.length<=40) (h:Rd6 O w j rb s) :
  Ka J9 133 [nP rb] w fun _ w'=>IY B O w w' j jr rb s xs (if xs.length=40 then .bad 0 3 else jl kn r):=by
 obtain⟨T0,j6,i4⟩:=hR.bound;obtain⟨T,g7,h',l3,hT⟩:∃T,0<T/\jr<T/\jm<T/\∀b,O b<T:=⟨T0+jr+jm+1,by omega,by omega,by omega,fun b=>by have:=i4 b;omega⟩
 clear j6 i4 T0;have f7:j<T:=by rw[<-h.tag];exact hT rb
 have b2:¬(fun q:Nat=>q=j\/q=jr\/T<=q) 0:=fun e=>by rcases e with e|e|e;exact hj e.symm;exact b0 e.symm;omega
 have j1:¬(fun q:Nat=>q=j\/q=jr) 0:=fun e=>by rcases e with e|e;exact hj e.symm;exact b0 e.symm
 have k5:(s.l.take m).length=m:=by simp;omega
 have k':=hr.length_le;rw[k5]at k';have c8:=DY hr;rw[k5]at c8;have q0:=h.q0;have q2:=h.q2;rw[i7]at q2;have q3:=h.q3;rw[hbg]at q3;have q8:=h.q8;have k9:=f'.sl;refine Gi func133 ntmps133 rfl rfl ?_;refine zg ?_;refine zv (RV.ld q8 rfl) ?_;refine zvG (RV.len (by first|exact k9) M1 rfl) ?_
 by_cases j8:xs.length=40
 ·rw[if_pos j8];refine aZ rfl ((by rw[j8];rfl)) ?_;have k7:w.drew.cell? ⟨rb,3,none⟩=some (nI ((m-r.length:Nat):Int)):=q3;refine zg ?_;refine Lo 8 rfl rfl zk zk ?_;refine zg ?_;refine zw (RV.ld k7 rfl) ?_;refine LW ?_;refine zc LC (bI O w.drew j rb s ((m-r.length:Nat):Int) 3 hj he h.drew) ?_;rintro v w1 ⟨f8,k3⟩;refine zg ?_;refine cA rfl ⟨O,s.ru,(Lc k3).mono (fun _ h=>.inl h) j1,hR.drew.upd k3,by decide,?_⟩;rw[show s.bg+((0:Nat):Int)=((m-r.length:Nat):Int)from by rw[hbg];simp];exact f8
 rw[if_neg j8];refine aS rfl ((beq_eq_false_iff_ne.2 zo)) ?_;have hd:=h.drew;have d0:=hd.q0;have d2:=hd.q2;rw[i7]at d2;have d3:=hd.q3;rw[hbg]at d3;refine zg ?_;refine Lo 16 rfl rfl zk zk ?_;refine zg ?_;refine zwG (RV.ld d0 rfl) ?_;refine zwG (RV.ld d3 rfl) ?_;refine zw (RV.ld d2 rfl) ?_;refine zw (dc Gb rfl rfl rfl (m-r.length) m rfl rfl zo hm) ?_;refine LW ?_;rw[c8];refine zc call162 (mQ r w.drew) ?_;rintro v w1 ⟨rfl,l7⟩;have i8:J5 (fun _=>False) O w.drew O w1:=aa (fun h=>h) O l7;have f8:=hd.upd i8 hj (fun h=>h);have j9:=f'.drew.upd i8 b0 (fun h=>h);have j0:=hR.drew.upd i8;have e8:J5 (fun q=>q=j\/T<=q) O w O w1:=Lc (i8.mono (fun _ h=>h.elim) (fun e=>by rcases e with e|e;exact hj e.symm;omega));have e2:=f8.q2;rw[i7]at e2;have e3:=f8.q3;rw[hbg]at e3
 cases hf:r.findIdx? yV with
 |none=>
  have hi:mm r = -1:=by unfold mm;rw[hf]
  have hM:jl kn r=.bad r.length 4:=by unfold jl;rw[hf]
  rw[hi,hM];refine zg ?_;refine aZ rfl rfl ?_;have l8:w1.drew.cell? ⟨rb,2,none⟩=some (nI (m:Int)):=e2;refine zg ?_;refine Lo 8 rfl rfl zk zk ?_;refine zg ?_;refine zw (RV.ld l8 rfl) ?_;refine LW ?_;refine zc LC (bI O w1.drew j rb s (m:Int) 4 hj he f8.drew) ?_;rintro v w2 ⟨l5,k2⟩;refine zg ?_;refine cA rfl ⟨O,s.ru,(e8.fgt (S':=fun k=>k=j\/k=jr) (fun b hb=>.inl (hb.resolve_right (by have:=hT b;omega))) j1).trans ((Lc k2).mono (fun _ h=>.inl h) j1),j0.drew.upd k2,by decide,?_⟩;rw[show s.bg+(r.length:Int)=(m:Int)from by rw[hbg];omega];exact l5
 |some k=>
  obtain⟨hk,m1,m0⟩:=Jt.1 hf;have hi:mm r=(k:Nat):=by unfold mm;rw[hf]
  rw[hi];have j4:s.l[k+(m-r.length)]? = some (nth r k):=by
   have h1:(s.l.take m)[m-r.length+k]? = r[k]?:=by rw[<-c8,List.getElem?_drop,c8]
   rw[aB hk];exact mY (m:=m) (by rw[KO,h1];exact J3 hk)
  have f4:(s.l.take (k+(m-r.length))).drop (m-r.length)=r.take k:=by
   rw[<-c8,Lu,Lt,Ls zo,c8,KO]
  have h5:(s.l.take m).drop (k+(m-r.length)+1)=r.drop (k+1):=by
   rw[<-c8,List.drop_drop,c8];congr 1;omega
  generalize i0:(((nth r k).toNat:Int)==47)=brk;refine zg ?_;refine zFG rfl ((decide_eq_false zo)) ?_;refine zv (RV.ld e3 rfl) ?_;refine zvG (Kg rfl rfl (K0 zo)) ?_;rw[show(k:Int)+((m-r.length:Nat):Int)=((k+(m-r.length):Nat):Int)from by omega];refine iK (fun z:(Nat->Nat)×World×Nat×N3=>[(0,nP rb),(2,nI ((k+(m-r.length):Nat):Int)),(3,.pointer (some ⟨z.2.2.1,0,none⟩))]) (fun z:(Nat->Nat)×World×Nat×N3=>z.2.1) (fun z:(Nat->Nat)×World×Nat×N3=>Js z.1 z.2.1 T z.2.2.1 (cj (z.2.2.2,(0,0,nS),brk)).toArray 85/\J5 (fun q=>q=j\/T<=q) O w z.1 z.2.1/\KG B z.1 z.2.1/\PostS z.1 z.2.1 j rb s (m-r.length) z.2.2.2 (pf kn (r.take k))) ?_ ?_
  ·intro hN;refine aI (fun V=>V.cell? ⟨rb,0,none⟩=some (.string (bs s.l))/\V.cell? ⟨rb,3,none⟩=some (nI ((m-r.length:Nat):Int))) 19 rfl zk ?_;refine zin ⟨f8.drew.q0,e3⟩ fun zS=>?_
   refine zrm 0 rfl zS rfl ?_;refine zrm 1 rfl zS rfl ?_
   refine zr 2 rfl zS (fun _=>aq rfl) ?_;refine zrf 3 rfl zS rfl ?_
   refine zrf 4 rfl zS rfl ?_;refine zt 5 rfl zS (fun w1 e5=>RV.ld e5.2 rfl) ?_
   refine zrm 6 rfl zS rfl ?_;refine zrm 8 rfl zS rfl ?_
   refine zr 9 rfl zS (fun _=>aq rfl) ?_;refine zrf 10 rfl zS rfl ?_
   refine zrf 11 rfl zS rfl ?_;refine zt 12 rfl zS (fun w1 e5=>RV.ld e5.1 rfl) ?_
   refine zrm 13 rfl zS rfl ?_;refine zr 14 rfl zS (fun _=>bt (c:=nth r k) Gb rfl rfl (k+(m-r.length)) rfl j4) ?_
   refine zr 15 rfl zS (fun _=>RV.eql rfl rfl) ?_;rw[i0];refine bV 7 17 zk rfl rfl ?_ ?_
   ·refine zc M8 (qW B O w1.drew j rb s (m-r.length) (k+(m-r.length)) j0.drew hj he h2 g0 (j3.upd (L1 e8) h2 zo) zo zo hl f8.drew) ?_;rintro v w3 ⟨x1,rfl,h4,e4⟩;rw[f4]at e4;refine zg ?_
    refine af (vl (hbg:=hbg) e4) ?_;refine zr 16 rfl (vl (hbg:=hbg) e4) (fun _=>LG (cells:=(cj (x1,(0,0,nS),brk)).toArray) GN (KC _) rfl rfl) ?_
    refine J8 17 zk rfl ?_;refine ax (j0.drew.upd h4) T zo (KC _) rfl ?_
    intro xb w4 O4 d8 e0 i5 k6;have e1:=e4.upd e0 hj zo;refine zg ?_;refine af (vl (hbg:=hbg) e1) ?_;refine J8 18 zk rfl ?_;refine zsb (us:=(cj (x1,(0,0,nS),brk)).toArray) d8 (K8 _) (kz e4.one rfl) ?_;have f9:=d8.setRow (us:=(cj (x1,(0,0,nS),brk)).toArray);have d':J5 (fun q=>q=T) O4 w4 O4 (w4.setRow xb (cj (x1,(0,0,nS),brk)).toArray):=ln zo d8.tag rfl;have e':=e1.upd d' hj zo;refine zg ?_;refine af (vl (hbg:=hbg) e') ?_;refine JN zk ?_;exact eD (hN ((O4,_,xb,x1)) (⟨f9,(((L1 e8).trans (h4.pj g7)).trans (e0.pT hj g7 (la _))).trans (d'.pT hj g7 (la _)),i5.upd d',e'⟩)) ⟨rfl,rfl,rfl,trivial⟩ rfl
   refine ax j0.drew T zo (KC _) rfl ?_;intro xb w3 O3 g9 h4 g8 m2;have d7:=f8.drew.upd h4 hj zo;have f3:=d7.q3;rw[hbg]at f3;refine zg ?_
   refine af ⟨d7.q0,f3⟩ ?_;refine J8 7 zk rfl ?_
   refine zc M8 (qW B O3 w3 j rb s (m-r.length) (k+(m-r.length)) g8 hj he h2 g0 (j3.upd ((L1 e8).trans (h4.pT hj g7 (la _))) h2 zo) zo zo hl d7) ?_;rintro v w4 ⟨x1,rfl,e0,e1⟩;rw[f4]at e1;have d8:=g9.upd e0 zo zo;refine zg ?_
   refine af (vl (hbg:=hbg) e1) ?_;refine zr 16 rfl (vl (hbg:=hbg) e1) (fun _=>LG (cells:=(cj (x1,(0,0,nS),brk)).toArray) GN (KC _) rfl rfl) ?_
   refine J8 18 zk rfl ?_;refine zsb (us:=(cj (x1,(0,0,nS),brk)).toArray) d8 (K8 _) (kz e1.one rfl) ?_
   have f9:=d8.setRow (us:=(cj (x1,(0,0,nS),brk)).toArray);have d':J5 (fun q=>q=T) O3 w4 O3 (w4.setRow xb (cj (x1,(0,0,nS),brk)).toArray):=ln zo d8.tag rfl;have e':=e1.upd d' hj zo;refine zg ?_;refine af (vl (hbg:=hbg) e') ?_;refine JN zk ?_;exact eD (hN ((O3,_,xb,x1)) (⟨f9,(((L1 e8).trans (h4.pT hj g7 (la _))).trans (e0.pj g7)).trans (d'.pT hj g7 (la _)),(g8.upd e0).upd d',e'⟩)) ⟨rfl,rfl,rfl,trivial⟩ rfl
  rintro⟨O3,w3,xb,x1⟩ ⟨g9,g3,g8,e4⟩;dsimp only at g9 g3 g8 e4 ⊢;have f6:=f'.upd g3 b0 (fun e=>by rcases e with e|e;exact e7 e.symm;omega);have hx1o:=e4.one;have g4:J5 (fun q=>q=j\/q=jr\/T<=q) O w O3 w3:=g3.mono (fun _ h=>h.elim .inl (fun h=>.inr (.inr h))) b2;refine zg ?_
  cases g':pf kn (r.take k)with
  |bad p e=>
   have hM:jl kn r=.bad p e:=by unfold jl;rw[hf];dsimp only;rw[g']
   rw[hM];rw[g']at e4;obtain⟨rfl,c9,d7⟩:=e4;replace d7:Js O3 w3 j rb ({s with bad:=((m-r.length:Nat):Int)+(p:Int),e:=e}:LS).cells 170:=d7;refine zg ?_;refine zvG (RV.ld d7.q5 rfl) ?_;refine zFG rfl ((by simpa using c9)) ?_;refine zv (ai (us:=aY ((0,0,nS):N3)) (jI g9) (Gc _) (ix _) rfl) ?_;refine zc LD (kH (.mk 0 0 []) (0,0,nS) w3 (KV _ _ _ _)) ?_;rintro v w4 ⟨rfl,k6⟩;have i1:J5 (fun _=>False) O3 w3 O3 w4:=aa (fun h=>h) O3 k6;have k1:=d7.upd i1 hj (fun h=>h);have d8:=g9.upd i1 zo (fun h=>h);have e6:=f6.upd i1 b0 (fun h=>h);have i5:=g8.upd i1;have c5:=g4.trans (i1.mono (fun _ h=>h.elim) b2);refine zg ?_;refine zvG (RV.ld k1.q5 rfl) ?_;refine ay (d:=98) rfl (b':=false) ((by simpa using c9)) ?_;obtain⟨x1,hx1e⟩:∃x1:N3,x1=(0,0,nS):=⟨_,rfl⟩
   obtain⟨x2,hx2e⟩:∃x2:N3,x2=(0,0,nS):=⟨_,rfl⟩
   have hx2o:x2.2.2.oneCell'=true:=by rw[hx2e];rfl
   have hx1o:x1.2.2.oneCell'=true:=by rw[hx1e];rfl
   have j2:Js O3 w4 T xb (cj (x1,x2,brk)).toArray 85:=by rw[hx1e,hx2e];exact d8
   have c':=(Ji k1)
   have c6:=(Ji j2)
   have a':=(KF e6)
   have e9:=(L3 i5)
   refine zg ?_;refine zFG rfl rfl ?_
   refine aI (fun V=>∀(q:Nat) (u:Gh),(cj (x1,x2,brk))[q]? = some u->V.cell? (nA xb q)=some u) 13 rfl zk ?_;refine zin c6.cellsAdd fun zS=>?_
   refine zrm 0 rfl zS rfl ?_;refine zrm 1 rfl zS rfl ?_
   refine zr 2 rfl zS (fun _=>aq rfl) ?_;refine zrf 3 rfl zS rfl ?_
   refine zrf 4 rfl zS rfl ?_;refine zt 6 rfl zS (fun w1 e5=>ai (us:=cj (x1,x2,brk)) e5 (KH _) (K8 _) rfl) ?_
   refine bV 5 7 zk rfl rfl ?_ ?_
   ·refine zvG (RV.ld c'.q8 rfl) ?_;refine af c6.cellsAdd ?_
    refine J8 7 zk rfl ?_;refine aL elR (enc:=cj) (x1,x2,brk) rfl rfl rfl zd rfl ?_
    intro w9 h9 d5;have a5:J5 (fun _=>False) O3 (Jr w4) O3 w9:=aa (fun h=>h) O3 d5;have c7:=c'.upd a5 hj (fun h=>h);have b9:=c6.upd a5 zo (fun h=>h);have a7:=a'.upd a5 b0 (fun h=>h);have d4:=e9.upd a5;have b6:=(c5.drew).trans (a5.mono (fun _ h=>h.elim) b2);refine zg ?_;refine af b9.cellsAdd ?_;have a8:∀u∈[(x1,x2,brk)],∀c∈cj u,c.oneCell'=true:=fun u hu=>by
     rw[IJ.1 hu];exact bU hx1o hx2o
    refine J8 8 zk rfl ?_;refine aC elR a7 d4 h9 (by simp) rfl rfl (fun _ _=>rfl) a8 (by simp;omega) (by simp;omega) zo rfl ?_
    intro a2 b1 O10 a0 a3 b8;have a4:=GY c7 a3 hj zo;have a6:=GY b9 a3 zo zo;have b4:=a0.one;refine zg ?_;refine zaf a6.cellsAdd fun zS=>?_
    refine zr 9 rfl zS (fun _=>aq rfl) ?_;refine zrf 10 rfl zS rfl ?_
    refine zrf 11 rfl zS rfl ?_;refine J8 12 zk rfl ?_
    refine ak (j:=8) a4 rfl (K9 _) b4 rfl rfl rfl ?_;have b5:=a4.s_ru a2;have a1:J5 (fun q=>q=j) O10 b1 O10 (b1.setCell ⟨rb,8,none⟩ a2):=J7 (fun e=>hj e.symm) a4.tag rfl;have b3:=a6.upd a1 zo zo;have a9:=a0.upd a1 b0 (fun e=>e7 e.symm);have b7:=b8.upd a1;refine zg ?_
    refine af b3.cellsAdd ?_;refine JN zk ?_
    have d1:J5 (fun q=>q=j\/q=jr\/T<=q) O w O10 (b1.setCell ⟨rb,8,none⟩ a2):=(b6.trans (a3.mono (fun _ h=>.inr (.inl h)) b2)).trans (a1.mono (fun _ h=>.inl h) b2);refine aH rfl ⟨lowT O10 T,a2,d1.lowT hT (fun b hb=>by have:=hT b;rcases hb with h|h|h;exact .inl h;exact .inr h;omega) (fun e=>by rcases e with e|e;exact hj e.symm;exact b0 e.symm),b7.lowT T,?_⟩;exact⟨c9,by rw[show s.bg+(p:Int)=((m-r.length:Nat):Int)+(p:Int)from by rw[hbg]];exact b5.lowT f7⟩
   refine aL elR (enc:=cj) (x1,x2,brk) rfl rfl rfl zd rfl ?_;intro w9 h9 d5;have a5:J5 (fun _=>False) O3 (Jr w4) O3 w9:=aa (fun h=>h) O3 d5;have c7:=c'.upd a5 hj (fun h=>h);have b9:=c6.upd a5 zo (fun h=>h);have a7:=a'.upd a5 b0 (fun h=>h);have d4:=e9.upd a5;have b6:=(c5.drew).trans (a5.mono (fun _ h=>h.elim) b2);refine zg ?_
   refine af b9.cellsAdd ?_;refine J8 5 zk rfl ?_
   refine zvG (RV.ld c7.q8 rfl) ?_;refine af b9.cellsAdd ?_
   have a8:∀u∈[(x1,x2,brk)],∀c∈cj u,c.oneCell'=true:=fun u hu=>by
    rw[IJ.1 hu];exact bU hx1o hx2o
   refine J8 8 zk rfl ?_;refine aC elR a7 d4 h9 (by simp) rfl rfl (fun _ _=>rfl) a8 (by simp;omega) (by simp;omega) zo rfl ?_
   intro a2 b1 O10 a0 a3 b8;have a4:=GY c7 a3 hj zo;have a6:=GY b9 a3 zo zo;have b4:=a0.one;refine zg ?_;refine zaf a6.cellsAdd fun zS=>?_
   refine zr 9 rfl zS (fun _=>aq rfl) ?_;refine zrf 10 rfl zS rfl ?_
   refine zrf 11 rfl zS rfl ?_;refine J8 12 zk rfl ?_
   refine ak (j:=8) a4 rfl (K9 _) b4 rfl rfl rfl ?_;have b5:=a4.s_ru a2;have a1:J5 (fun q=>q=j) O10 b1 O10 (b1.setCell ⟨rb,8,none⟩ a2):=J7 (fun e=>hj e.symm) a4.tag rfl;have b3:=a6.upd a1 zo zo;have a9:=a0.upd a1 b0 (fun e=>e7 e.symm);have b7:=b8.upd a1;refine zg ?_
   refine af b3.cellsAdd ?_;refine JN zk ?_
   have d1:J5 (fun q=>q=j\/q=jr\/T<=q) O w O10 (b1.setCell ⟨rb,8,none⟩ a2):=(b6.trans (a3.mono (fun _ h=>.inr (.inl h)) b2)).trans (a1.mono (fun _ h=>.inl h) b2);refine aH rfl ⟨lowT O10 T,a2,d1.lowT hT (fun b hb=>by have:=hT b;rcases hb with h|h|h;exact .inl h;exact .inr h;omega) (fun e=>by rcases e with e|e;exact hj e.symm;exact b0 e.symm),b7.lowT T,?_⟩;exact⟨c9,by rw[show s.bg+(p:Int)=((m-r.length:Nat):Int)+(p:Int)from by rw[hbg]];exact b5.lowT f7⟩
  |ok a=>
   rw[g']at e4;obtain⟨l2,d7⟩:=e4;replace d7:Js O3 w3 j rb s.cells 170:=d7;have g2:=d7.q2;rw[i7]at g2;have g5:=d7.q5;rw[he]at g5;refine zg ?_;refine zvG (RV.ld g5 rfl) ?_;refine zTG rfl rfl ?_;refine zvG (Kg rfl rfl (K0 zo)) ?_;refine zv (RV.ld g2 rfl) ?_;rw[show((k+(m-r.length):Nat):Int)+1=((k+(m-r.length)+1:Nat):Int)from by omega];refine zc M8 (qW B O3 w3 j rb s (k+(m-r.length)+1) m g8 hj he h2 g0 (j3.upd g4 h2 zo) zo hm hl d7) ?_;rintro v w4 ⟨x2,rfl,e0,e1⟩;rw[h5]at e1;have hx2o:=e1.one;have d8:=g9.upd e0 zo zo;have e6:=f6.upd e0 b0 (fun e=>e7 e.symm);have i5:=g8.upd e0;have j5:=g4.trans (e0.mono (fun _ h=>.inl h) b2);have l1:=l2.upd e0;refine zg ?_;refine lq 3 (us:=#[nI x2.1,nI x2.2.1,x2.2.2]) d8 (Nat.le_of_ble_eq_true rfl) (ix _) (cn hx2o) rfl rfl rfl ?_;rw[show((cj (x1,(0,0,nS),brk)).toArray.toList.take 3++(#[nI x2.1,nI x2.2.1,x2.2.2]:Array Gh).toList++(cj (x1,(0,0,nS),brk)).toArray.toList.drop (3+(#[nI x2.1,nI x2.2.1,x2.2.2]:Array Gh).size)).toArray=(cj (x1,x2,brk)).toArray from rfl];have f9:=d8.setRow (us:=(cj (x1,x2,brk)).toArray);have d':J5 (fun q=>q=T) O3 w4 O3 (w4.setRow xb (cj (x1,x2,brk)).toArray):=ln zo d8.tag rfl;have e':=e1.upd d' hj zo;have f5:=e6.upd d' b0 zo;have k4:=i5.upd d';have i3:=j5.trans (d'.mono (fun _ h=>.inr (.inr (JE h.symm))) b2);have l0:=l1.upd d';generalize w4.setRow xb (cj (x1,x2,brk)).toArray=w5 at *;refine zg ?_
   refine zv (ai (us:=aY x2) (jI f9) (Gc _) (ix _) rfl) ?_
   cases h6:pf kn (r.drop (k+1))with
   |bad p e=>
    have hM:jl kn r=.bad (k+1+p) e:=by unfold jl;rw[hf];dsimp only;rw[g'];dsimp only;rw[h6]
    rw[hM];rw[h6]at e';obtain⟨hx2e,c9,g1⟩:=e';replace g1:Js O3 w5 j rb ({s with bad:=((k+(m-r.length)+1:Nat):Int)+(p:Int),e:=e}:LS).cells 170:=g1;refine zc LD (kH (.mk 0 0 []) x2 w5 (by rw[hx2e];exact KV _ _ _ _)) ?_;rintro v w6 ⟨rfl,j7⟩;have d9:J5 (fun _=>False) O3 w5 O3 w6:=aa (fun h=>h) O3 j7;have h3:=g1.upd d9 hj (fun h=>h);have i6:=f9.upd d9 zo (fun h=>h);have d6:=f5.upd d9 b0 (fun h=>h);have i':=k4.upd d9;have c5:=i3.trans (d9.mono (fun _ h=>h.elim) b2);refine zg ?_;refine zvG (RV.ld h3.q5 rfl) ?_;refine ay (d:=98) rfl (b':=false) ((by simpa using c9)) ?_;have c':=(Ji h3)
    have c6:=(Ji i6)
    have a':=(KF d6)
    have e9:=(L3 i')
    refine zg ?_;refine zFG rfl rfl ?_
    refine aI (fun V=>∀(q:Nat) (u:Gh),(cj (x1,x2,brk))[q]? = some u->V.cell? (nA xb q)=some u) 13 rfl zk ?_;refine zin c6.cellsAdd fun zS=>?_
    refine zrm 0 rfl zS rfl ?_;refine zrm 1 rfl zS rfl ?_
    refine zr 2 rfl zS (fun _=>aq rfl) ?_;refine zrf 3 rfl zS rfl ?_
    refine zrf 4 rfl zS rfl ?_;refine zt 6 rfl zS (fun w1 e5=>ai (us:=cj (x1,x2,brk)) e5 (KH _) (K8 _) rfl) ?_
    refine bV 5 7 zk rfl rfl ?_ ?_
    ·refine zvG (RV.ld c'.q8 rfl) ?_;refine af c6.cellsAdd ?_
     refine J8 7 zk rfl ?_;refine aL elR (enc:=cj) (x1,x2,brk) rfl rfl rfl zd rfl ?_
     intro w9 h9 d5;have a5:J5 (fun _=>False) O3 (Jr w6) O3 w9:=aa (fun h=>h) O3 d5;have c7:=c'.upd a5 hj (fun h=>h);have b9:=c6.upd a5 zo (fun h=>h);have a7:=a'.upd a5 b0 (fun h=>h);have d4:=e9.upd a5;have b6:=(c5.drew).trans (a5.mono (fun _ h=>h.elim) b2);refine zg ?_;refine af b9.cellsAdd ?_;have a8:∀u∈[(x1,x2,brk)],∀c∈cj u,c.oneCell'=true:=fun u hu=>by
      rw[IJ.1 hu];exact bU hx1o hx2o
     refine J8 8 zk rfl ?_;refine aC elR a7 d4 h9 (by simp) rfl rfl (fun _ _=>rfl) a8 (by simp;omega) (by simp;omega) zo rfl ?_
     intro a2 b1 O10 a0 a3 b8;have a4:=GY c7 a3 hj zo;have a6:=GY b9 a3 zo zo;have b4:=a0.one;refine zg ?_;refine zaf a6.cellsAdd fun zS=>?_
     refine zr 9 rfl zS (fun _=>aq rfl) ?_;refine zrf 10 rfl zS rfl ?_
     refine zrf 11 rfl zS rfl ?_;refine J8 12 zk rfl ?_
     refine ak (j:=8) a4 rfl (K9 _) b4 rfl rfl rfl ?_;have b5:=a4.s_ru a2;have a1:J5 (fun q=>q=j) O10 b1 O10 (b1.setCell ⟨rb,8,none⟩ a2):=J7 (fun e=>hj e.symm) a4.tag rfl;have b3:=a6.upd a1 zo zo;have a9:=a0.upd a1 b0 (fun e=>e7 e.symm);have b7:=b8.upd a1;refine zg ?_
     refine af b3.cellsAdd ?_;refine JN zk ?_
     have d1:J5 (fun q=>q=j\/q=jr\/T<=q) O w O10 (b1.setCell ⟨rb,8,none⟩ a2):=(b6.trans (a3.mono (fun _ h=>.inr (.inl h)) b2)).trans (a1.mono (fun _ h=>.inl h) b2);refine aH rfl ⟨lowT O10 T,a2,d1.lowT hT (fun b hb=>by have:=hT b;rcases hb with h|h|h;exact .inl h;exact .inr h;omega) (fun e=>by rcases e with e|e;exact hj e.symm;exact b0 e.symm),b7.lowT T,?_⟩;exact⟨c9,by rw[show s.bg+((k+1+p:Nat):Int)=((k+(m-r.length)+1:Nat):Int)+(p:Int)from by rw[hbg];omega];exact b5.lowT f7⟩
    refine aL elR (enc:=cj) (x1,x2,brk) rfl rfl rfl zd rfl ?_;intro w9 h9 d5;have a5:J5 (fun _=>False) O3 (Jr w6) O3 w9:=aa (fun h=>h) O3 d5;have c7:=c'.upd a5 hj (fun h=>h);have b9:=c6.upd a5 zo (fun h=>h);have a7:=a'.upd a5 b0 (fun h=>h);have d4:=e9.upd a5;have b6:=(c5.drew).trans (a5.mono (fun _ h=>h.elim) b2);refine zg ?_
    refine af b9.cellsAdd ?_;refine J8 5 zk rfl ?_
    refine zvG (RV.ld c7.q8 rfl) ?_;refine af b9.cellsAdd ?_
    have a8:∀u∈[(x1,x2,brk)],∀c∈cj u,c.oneCell'=true:=fun u hu=>by
     rw[IJ.1 hu];exact bU hx1o hx2o
    refine J8 8 zk rfl ?_;refine aC elR a7 d4 h9 (by simp) rfl rfl (fun _ _=>rfl) a8 (by simp;omega) (by simp;omega) zo rfl ?_
    intro a2 b1 O10 a0 a3 b8;have a4:=GY c7 a3 hj zo;have a6:=GY b9 a3 zo zo;have b4:=a0.one;refine zg ?_;refine zaf a6.cellsAdd fun zS=>?_
    refine zr 9 rfl zS (fun _=>aq rfl) ?_;refine zrf 10 rfl zS rfl ?_
    refine zrf 11 rfl zS rfl ?_;refine J8 12 zk rfl ?_
    refine ak (j:=8) a4 rfl (K9 _) b4 rfl rfl rfl ?_;have b5:=a4.s_ru a2;have a1:J5 (fun q=>q=j) O10 b1 O10 (b1.setCell ⟨rb,8,none⟩ a2):=J7 (fun e=>hj e.symm) a4.tag rfl;have b3:=a6.upd a1 zo zo;have a9:=a0.upd a1 b0 (fun e=>e7 e.symm);have b7:=b8.upd a1;refine zg ?_
    refine af b3.cellsAdd ?_;refine JN zk ?_
    have d1:J5 (fun q=>q=j\/q=jr\/T<=q) O w O10 (b1.setCell ⟨rb,8,none⟩ a2):=(b6.trans (a3.mono (fun _ h=>.inr (.inl h)) b2)).trans (a1.mono (fun _ h=>.inl h) b2);refine aH rfl ⟨lowT O10 T,a2,d1.lowT hT (fun b hb=>by have:=hT b;rcases hb with h|h|h;exact .inl h;exact .inr h;omega) (fun e=>by rcases e with e|e;exact hj e.symm;exact b0 e.symm),b7.lowT T,?_⟩;exact⟨c9,by rw[show s.bg+((k+1+p:Nat):Int)=((k+(m-r.length)+1:Nat):Int)+(p:Int)from by rw[hbg];omega];exact b5.lowT f7⟩
   |ok b=>
    rw[h6]at e';obtain⟨h8,g1⟩:=e';replace g1:Js O3 w5 j rb s.cells 170:=g1;refine zc LD (kH b x2 w5 h8.zero) ?_;rintro v w6 ⟨rfl,j7⟩;have d9:J5 (fun _=>False) O3 w5 O3 w6:=aa (fun h=>h) O3 j7;have h3:=g1.upd d9 hj (fun h=>h);have i6:=f9.upd d9 zo (fun h=>h);have d6:=f5.upd d9 b0 (fun h=>h);have i':=k4.upd d9;have i2:=i3.trans (d9.mono (fun _ h=>h.elim) b2);have k0:=l0.upd d9;have j':=h8.upd d9;have g6:=h3.q5;rw[he]at g6;refine zg ?_;refine zvG (RV.ld g6 rfl) ?_;refine ay (d:=98) rfl (b':=true) (rfl) ?_;refine zg ?_
    by_cases h0:da b=0
    ·have hM:jl kn r=.ok (a,b,brk):=by unfold jl;rw[hf];dsimp only;rw[g'];dsimp only;rw[h6];dsimp only;rw[if_neg (by simpa using h0),i0]
     rw[hM];have c5:=i2;refine aS rfl ((by rw[h0];rfl)) ?_;have c':=(Ji h3)
     have c6:=(Ji i6)
     have a':=(KF d6)
     have e9:=(L3 i')
     refine zg ?_;refine aI (fun V=>∀(q:Nat) (u:Gh),(cj (x1,x2,brk))[q]? = some u->V.cell? (nA xb q)=some u) 13 rfl zk ?_
     refine zin c6.cellsAdd fun zS=>?_
     refine zrm 0 rfl zS rfl ?_;refine zrm 1 rfl zS rfl ?_
     refine zr 2 rfl zS (fun _=>aq rfl) ?_;refine zrf 3 rfl zS rfl ?_
     refine zrf 4 rfl zS rfl ?_;refine zt 6 rfl zS (fun w1 e5=>ai (us:=cj (x1,x2,brk)) e5 (KH _) (K8 _) rfl) ?_
     refine bV 5 7 zk rfl rfl ?_ ?_
     ·refine zvG (RV.ld c'.q8 rfl) ?_;refine af c6.cellsAdd ?_
      refine J8 7 zk rfl ?_;refine aL elR (enc:=cj) (x1,x2,brk) rfl rfl rfl zd rfl ?_
      intro w9 h9 d5;have a5:J5 (fun _=>False) O3 (Jr w6) O3 w9:=aa (fun h=>h) O3 d5;have c7:=c'.upd a5 hj (fun h=>h);have b9:=c6.upd a5 zo (fun h=>h);have a7:=a'.upd a5 b0 (fun h=>h);have d4:=e9.upd a5;have b6:=(c5.drew).trans (a5.mono (fun _ h=>h.elim) b2);refine zg ?_;refine af b9.cellsAdd ?_;have a8:∀u∈[(x1,x2,brk)],∀c∈cj u,c.oneCell'=true:=fun u hu=>by
       rw[IJ.1 hu];exact bU hx1o hx2o
      refine J8 8 zk rfl ?_;refine aC elR a7 d4 h9 (by simp) rfl rfl (fun _ _=>rfl) a8 (by simp;omega) (by simp;omega) zo rfl ?_
      intro a2 b1 O10 a0 a3 b8;have a4:=GY c7 a3 hj zo;have a6:=GY b9 a3 zo zo;have b4:=a0.one;refine zg ?_;refine zaf a6.cellsAdd fun zS=>?_
      refine zr 9 rfl zS (fun _=>aq rfl) ?_;refine zrf 10 rfl zS rfl ?_
      refine zrf 11 rfl zS rfl ?_;refine J8 12 zk rfl ?_
      refine ak (j:=8) a4 rfl (K9 _) b4 rfl rfl rfl ?_;have b5:=a4.s_ru a2;have a1:J5 (fun q=>q=j) O10 b1 O10 (b1.setCell ⟨rb,8,none⟩ a2):=J7 (fun e=>hj e.symm) a4.tag rfl;have b3:=a6.upd a1 zo zo;have a9:=a0.upd a1 b0 (fun e=>e7 e.symm);have b7:=b8.upd a1;refine zg ?_
      refine af b3.cellsAdd ?_;refine JN zk ?_
      have d1:J5 (fun q=>q=j\/q=jr\/T<=q) O w O10 (b1.setCell ⟨rb,8,none⟩ a2):=(b6.trans (a3.mono (fun _ h=>.inr (.inl h)) b2)).trans (a1.mono (fun _ h=>.inl h) b2);refine aH rfl ⟨lowT O10 T,a2,d1.lowT hT (fun b hb=>by have:=hT b;rcases hb with h|h|h;exact .inl h;exact .inr h;omega) (fun e=>by rcases e with e|e;exact hj e.symm;exact b0 e.symm),b7.lowT T,?_⟩;exact⟨(x1,x2,brk),a9.lowT h',⟨((((k0.drew).upd a5).upd a3).upd a1).weak (fun b e=>kG e),((((j'.drew).upd a5).upd a3).upd a1).weak (fun b e=>kG e),rfl⟩,b5.lowT f7⟩
     refine aL elR (enc:=cj) (x1,x2,brk) rfl rfl rfl zd rfl ?_;intro w9 h9 d5;have a5:J5 (fun _=>False) O3 (Jr w6) O3 w9:=aa (fun h=>h) O3 d5;have c7:=c'.upd a5 hj (fun h=>h);have b9:=c6.upd a5 zo (fun h=>h);have a7:=a'.upd a5 b0 (fun h=>h);have d4:=e9.upd a5;have b6:=(c5.drew).trans (a5.mono (fun _ h=>h.elim) b2);refine zg ?_
     refine af b9.cellsAdd ?_;refine J8 5 zk rfl ?_
     refine zvG (RV.ld c7.q8 rfl) ?_;refine af b9.cellsAdd ?_
     have a8:∀u∈[(x1,x2,brk)],∀c∈cj u,c.oneCell'=true:=fun u hu=>by
      rw[IJ.1 hu];exact bU hx1o hx2o
     refine J8 8 zk rfl ?_;refine aC elR a7 d4 h9 (by simp) rfl rfl (fun _ _=>rfl) a8 (by simp;omega) (by simp;omega) zo rfl ?_
     intro a2 b1 O10 a0 a3 b8;have a4:=GY c7 a3 hj zo;have a6:=GY b9 a3 zo zo;have b4:=a0.one;refine zg ?_;refine zaf a6.cellsAdd fun zS=>?_
     refine zr 9 rfl zS (fun _=>aq rfl) ?_;refine zrf 10 rfl zS rfl ?_
     refine zrf 11 rfl zS rfl ?_;refine J8 12 zk rfl ?_
     refine ak (j:=8) a4 rfl (K9 _) b4 rfl rfl rfl ?_;have b5:=a4.s_ru a2;have a1:J5 (fun q=>q=j) O10 b1 O10 (b1.setCell ⟨rb,8,none⟩ a2):=J7 (fun e=>hj e.symm) a4.tag rfl;have b3:=a6.upd a1 zo zo;have a9:=a0.upd a1 b0 (fun e=>e7 e.symm);have b7:=b8.upd a1;refine zg ?_
     refine af b3.cellsAdd ?_;refine JN zk ?_
     have d1:J5 (fun q=>q=j\/q=jr\/T<=q) O w O10 (b1.setCell ⟨rb,8,none⟩ a2):=(b6.trans (a3.mono (fun _ h=>.inr (.inl h)) b2)).trans (a1.mono (fun _ h=>.inl h) b2);refine aH rfl ⟨lowT O10 T,a2,d1.lowT hT (fun b hb=>by have:=hT b;rcases hb with h|h|h;exact .inl h;exact .inr h;omega) (fun e=>by rcases e with e|e;exact hj e.symm;exact b0 e.symm),b7.lowT T,?_⟩;exact⟨(x1,x2,brk),a9.lowT h',⟨((((k0.drew).upd a5).upd a3).upd a1).weak (fun b e=>kG e),((((j'.drew).upd a5).upd a3).upd a1).weak (fun b e=>kG e),rfl⟩,b5.lowT f7⟩
    have hM:jl kn r=.bad (k+1) (da b):=by unfold jl;rw[hf];dsimp only;rw[g'];dsimp only;rw[h6];dsimp only;rw[if_pos (by simpa using h0)]
    rw[hM];refine zTG rfl ((by simpa using h0)) ?_;refine zvG (Kg rfl rfl (K0 zo)) ?_;refine zc LC (bI O3 w6 j rb s (((k+(m-r.length):Nat):Int)+1) (da b) hj he h3) ?_;rintro v w7 ⟨l4,i9⟩;have k8:=i6.upd i9 zo zo;have h7:=d6.upd i9 b0 (fun e=>e7 e.symm);have l6:=i'.upd i9;have c5:=i2.trans (i9.mono (fun _ h=>.inl h) b2);have c':=(Ji l4)
    have c6:=(Ji k8)
    have a':=(KF h7)
    have e9:=(L3 l6)
    refine zg ?_;refine aI (fun V=>∀(q:Nat) (u:Gh),(cj (x1,x2,brk))[q]? = some u->V.cell? (nA xb q)=some u) 13 rfl zk ?_
    refine zin c6.cellsAdd fun zS=>?_
    refine zrm 0 rfl zS rfl ?_;refine zrm 1 rfl zS rfl ?_
    refine zr 2 rfl zS (fun _=>aq rfl) ?_;refine zrf 3 rfl zS rfl ?_
    refine zrf 4 rfl zS rfl ?_;refine zt 6 rfl zS (fun w1 e5=>ai (us:=cj (x1,x2,brk)) e5 (KH _) (K8 _) rfl) ?_
    refine bV 5 7 zk rfl rfl ?_ ?_
    ·refine zvG (RV.ld c'.q8 rfl) ?_;refine af c6.cellsAdd ?_
     refine J8 7 zk rfl ?_;refine aL elR (enc:=cj) (x1,x2,brk) rfl rfl rfl zd rfl ?_
     intro w9 h9 d5;have a5:J5 (fun _=>False) O3 (Jr w7) O3 w9:=aa (fun h=>h) O3 d5;have c7:=c'.upd a5 hj (fun h=>h);have b9:=c6.upd a5 zo (fun h=>h);have a7:=a'.upd a5 b0 (fun h=>h);have d4:=e9.upd a5;have b6:=(c5.drew).trans (a5.mono (fun _ h=>h.elim) b2);refine zg ?_;refine af b9.cellsAdd ?_;have a8:∀u∈[(x1,x2,brk)],∀c∈cj u,c.oneCell'=true:=fun u hu=>by
      rw[IJ.1 hu];exact bU hx1o hx2o
     refine J8 8 zk rfl ?_;refine aC elR a7 d4 h9 (by simp) rfl rfl (fun _ _=>rfl) a8 (by simp;omega) (by simp;omega) zo rfl ?_
     intro a2 b1 O10 a0 a3 b8;have a4:=GY c7 a3 hj zo;have a6:=GY b9 a3 zo zo;have b4:=a0.one;refine zg ?_;refine zaf a6.cellsAdd fun zS=>?_
     refine zr 9 rfl zS (fun _=>aq rfl) ?_;refine zrf 10 rfl zS rfl ?_
     refine zrf 11 rfl zS rfl ?_;refine J8 12 zk rfl ?_
     refine ak (j:=8) a4 rfl (K9 _) b4 rfl rfl rfl ?_;have b5:=a4.s_ru a2;have a1:J5 (fun q=>q=j) O10 b1 O10 (b1.setCell ⟨rb,8,none⟩ a2):=J7 (fun e=>hj e.symm) a4.tag rfl;have b3:=a6.upd a1 zo zo;have a9:=a0.upd a1 b0 (fun e=>e7 e.symm);have b7:=b8.upd a1;refine zg ?_
     refine af b3.cellsAdd ?_;refine JN zk ?_
     have d1:J5 (fun q=>q=j\/q=jr\/T<=q) O w O10 (b1.setCell ⟨rb,8,none⟩ a2):=(b6.trans (a3.mono (fun _ h=>.inr (.inl h)) b2)).trans (a1.mono (fun _ h=>.inl h) b2);refine aH rfl ⟨lowT O10 T,a2,d1.lowT hT (fun b hb=>by have:=hT b;rcases hb with h|h|h;exact .inl h;exact .inr h;omega) (fun e=>by rcases e with e|e;exact hj e.symm;exact b0 e.symm),b7.lowT T,?_⟩;exact⟨h0,by rw[show s.bg+((k+1:Nat):Int)=((k+(m-r.length):Nat):Int)+1 from by rw[hbg];omega];exact b5.lowT f7⟩
    refine aL elR (enc:=cj) (x1,x2,brk) rfl rfl rfl zd rfl ?_;intro w9 h9 d5;have a5:J5 (fun _=>False) O3 (Jr w7) O3 w9:=aa (fun h=>h) O3 d5;have c7:=c'.upd a5 hj (fun h=>h);have b9:=c6.upd a5 zo (fun h=>h);have a7:=a'.upd a5 b0 (fun h=>h);have d4:=e9.upd a5;have b6:=(c5.drew).trans (a5.mono (fun _ h=>h.elim) b2);refine zg ?_
    refine af b9.cellsAdd ?_;refine J8 5 zk rfl ?_
    refine zvG (RV.ld c7.q8 rfl) ?_;refine af b9.cellsAdd ?_
    have a8:∀u∈[(x1,x2,brk)],∀c∈cj u,c.oneCell'=true:=fun u hu=>by
     rw[IJ.1 hu];exact bU hx1o hx2o
    refine J8 8 zk rfl ?_;refine aC elR a7 d4 h9 (by simp) rfl rfl (fun _ _=>rfl) a8 (by simp;omega) (by simp;omega) zo rfl ?_
    intro a2 b1 O10 a0 a3 b8;have a4:=GY c7 a3 hj zo;have a6:=GY b9 a3 zo zo;have b4:=a0.one;refine zg ?_;refine zaf a6.cellsAdd fun zS=>?_
    refine zr 9 rfl zS (fun _=>aq rfl) ?_;refine zrf 10 rfl zS rfl ?_
    refine zrf 11 rfl zS rfl ?_;refine J8 12 zk rfl ?_
    refine ak (j:=8) a4 rfl (K9 _) b4 rfl rfl rfl ?_;have b5:=a4.s_ru a2;have a1:J5 (fun q=>q=j) O10 b1 O10 (b1.setCell ⟨rb,8,none⟩ a2):=J7 (fun e=>hj e.symm) a4.tag rfl;have b3:=a6.upd a1 zo zo;have a9:=a0.upd a1 b0 (fun e=>e7 e.symm);have b7:=b8.upd a1;refine zg ?_
    refine af b3.cellsAdd ?_;refine JN zk ?_
    have d1:J5 (fun q=>q=j\/q=jr\/T<=q) O w O10 (b1.setCell ⟨rb,8,none⟩ a2):=(b6.trans (a3.mono (fun _ h=>.inr (.inl h)) b2)).trans (a1.mono (fun _ h=>.inl h) b2);refine aH rfl ⟨lowT O10 T,a2,d1.lowT hT (fun b hb=>by have:=hT b;rcases hb with h|h|h;exact .inl h;exact .inr h;omega) (fun e=>by rcases e with e|e;exact hj e.symm;exact b0 e.symm),b7.lowT T,?_⟩;exact⟨h0,by rw[show s.bg+((k+1:Nat):Int)=((k+(m-r.length):Nat):Int)+1 from by rw[hbg];omega];exact b5.lowT f7⟩
end
def bC(seg:List UInt8):List UInt8:=seg.takeWhile (fun b=>!(b==35))
def bp(seg:List UInt8):List UInt8:=aw (bC seg)
theorem zX{seg:List UInt8}{k:Nat}(h:seg.findIdx? (· == 35)=some k):bC seg=seg.take k/\k<=seg.length:=by
 obtain⟨hk,h1,h2⟩:=Jt.1 h;refine⟨?_,zo⟩;unfold bC;have e:seg=seg.take k++seg.drop k:=(KP k seg).symm
 conv=>lhs;rw[e]
 rw[List.takeWhile_append_of_pos]
 ·rw[JY hk,Ky (by simpa using h1),K7]
 intro x hx;obtain⟨i,hi,rfl⟩:=JU hx;simp only[Ll]at hi;have:=h2 i zo;simp only[Lh];simpa using this
theorem eG{p:UInt8->Bool}:∀ {l:List UInt8},(∀x∈l,p x=true)->l.takeWhile p=l
 |[],_=>rfl
 |a::l,h=>by rw[List.takeWhile_cons_of_pos (h a (by simp)),eG fun x hx=>h x (by simp[hx])]
theorem zY{seg:List UInt8}(h:seg.findIdx? (· == 35)=none):bC seg=seg:=by
 have h1:=Ju.1 h;exact eG fun x hx=>by simpa using h1 x hx
def eu(r:List UInt8):List UInt8:=r.takeWhile (fun b=>!(b==10))
def RowsT(O:Nat->Nat)(w:ka)(jr:Nat)(rv:Gh)(ts:List R3)(xs:List X3):Prop:=
 L2 cj 85 7 O w jr rv xs/\ts.length=xs.length/\xs.length<=40/\∀i,i<xs.length->Rt O w (nth ts i) (nth xs i)
theorem RowsT.push{O:Nat->Nat}{w:ka}{jr:Nat}{rv:Gh}{ts:List R3}{xs:List X3}{t:R3}{x:X3}(hr:L2 cj 85 7 O w jr rv (xs++[x]))(h1:ts.length=xs.length)(h2:xs.length<40)(h3:∀i,i<xs.length->Rt O w (nth ts i) (nth xs i))(h4:Rt O w t x):RowsT O w jr rv (ts++[t]) (xs++[x]):=by
 refine⟨hr,by simp[h1],by simp;omega,fun i hi=>?_⟩;simp only[JK,JP]at hi
 by_cases e:i<xs.length
 ·rw[aB (by simp;omega),aB (by simp;omega),Jn zo,Jn e,<-aB zo,<-aB e];exact h3 i e
 obtain rfl:i=xs.length:=zo;rw[aB (by simp;omega),aB (by simp),JF zo,JF zo];simp[h1];exact h4
theorem zu{r:List UInt8}{k:Nat}(h:r.findIdx? (· == 10)=some k):(eu r).length=k:=by
 obtain⟨hk,h1,h2⟩:=Jt.1 h;unfold eu;have e:r=r.take k++r.drop k:=(KP k r).symm;have e2:(r.take k).takeWhile (fun b=>!(b==10))=r.take k:=eG fun x hx=>by
  obtain⟨i,hi,rfl⟩:=JU hx;simp only[Ll]at hi;have:=h2 i zo;simp only[Lh];simpa using this
 conv=>lhs;rw[e]
 rw[List.takeWhile_append,e2,if_pos rfl,JY hk,Ky (by simpa using h1),K7];simp;omega
theorem zy{r:List UInt8}(h:r.findIdx? (· == 10)=none):eu r=r:=
 eG fun x hx=>by simpa using Ju.1 h x hx
theorem tO(l:List UInt8)(fr:Nat):(l.take (fr+(eu (l.drop fr)).length)).drop fr=eu (l.drop fr):=by
 have h1:eu (l.drop fr)=(l.drop fr).take (eu (l.drop fr)).length:=List.prefix_iff_eq_take.1 (List.takeWhile_prefix _)
 conv=>rhs;rw[h1]
 rw[Lu]
abbrev sF(ig kp ru:Gh):Gh:=.agg #[ig,kp,ru]
abbrev sG:Gh:=nS
theorem Im:cV J9 41 #[(0,1),(1,1),(2,1)]:=⟨_,underlying41,fun w=>by kernel_rfl⟩
theorem IC:cV J9 167 #[(0,1),(1,1),(2,1),(3,1),(4,1),(5,1)]:=⟨_,underlying167,fun w=>by kernel_rfl⟩
theorem IB:cV J9 170 #[(0,6),(6,3),(9,1),(10,1),(11,1)]:=⟨_,underlying170,fun w=>by kernel_rfl⟩
theorem Ap{w:ka}{rb:Nat}{a b c:Gh}(h6:w.cell? ⟨rb,6,none⟩=some a)(h7:w.cell? ⟨rb,7,none⟩=some b)(h8:w.cell? ⟨rb,8,none⟩=some c):∀(q:Nat) (u:Gh),[a,b,c][q]? = some u->w.cell? ((nA rb 6).add q)=some u:=fun q u hu=>by
 have e:((nA rb 6).add q)=⟨rb,6+q,none⟩:=by
  simp only[K1];(repeat' split)<;>simp_all
 rw[e]
 match q,hu with
 |0,hu=>obtain rfl:=Kd hu;exact h6
 |1,hu=>obtain rfl:=Kd hu;exact h7
 |2,hu=>obtain rfl:=Kd hu;exact h8
def jU(l:List Int)(i:Nat):Bool:=(decide (nth l i<0)||decide (36<=nth l i))||(decide ((0:Int)<(i:Int))&&decide (nth l i<=nth l (i-1)))
def dj(l:List Int):Bool:=!(jc (jU l) l.length)
def mP(t:R3):Bool:=(bj t.1&&bj t.2.1)&&(da t.2.1==0)
def G9(ts:List R3):Bool:=!(jc (fun i=>!(mP (nth ts i))) ts.length)
def dE(li lk:List Int)(ts:List R3):Bool:=((decide ((ts.length:Int)<=40)&&dj li)&&dj lk)&&G9 ts
theorem tn(l:List Int)(sv:Gh)(w:ka)(h:Sl (fun c:Int=>[nI c]) 1 w sv l):Ka J9 58 [sv] w fun v w'=>v=.bool (dj l)/\w'=w:=by
 have a5:=h.len_le;refine Gi func58 ntmps58 rfl rfl ?_;refine zh ?_;refine zlp (fun x:Nat=>[(0,sv),(5,sv),(6,nI l.length),(7,nI x)]) (fun x=>w) (fun x=>x<=l.length/\∀i,i<x->jU l i=false) (fun x=>l.length-x) 0 (⟨Jp _,fun i hi=>absurd hi (JT i)⟩) ?_;rintro k ⟨hk,a3⟩;refine zh ?_;refine zC ?_ ?_
 ·intro a0;replace a0:k<l.length:=dT a0;refine zh ?_;refine zvH (RV.ld (h.ld a0) rfl) ?_;refine bK (fun w1=>_=w1) (decide (36<=nth l k)) 2 (rfl) rfl rfl rfl rfl rfl ?_ ?_
  ·intro a1;refine zh ?_;refine nE 14 3 (rfl) a1
  rintro _ rfl;refine zh ?_;refine bK (fun w1=>_=w1) ((decide ((0:Int)<(k:Int))&&decide (nth l k<=nth l (k-1)))) 11 (rfl) rfl rfl rfl rfl rfl ?_ ?_
  ·intro a2;refine zh ?_
   cases a6:decide ((0:Int)<(k:Int))with
   |true=>
    have a7:=of_decide_eq_true a6;refine ay (d:=21) rfl (b':=true) (rfl) ?_;refine zh ?_;rw[show(k:Int)-1=((k-1:Nat):Int)from by omega];refine zh ?_;refine zvH (RV.ld (h.ld (i:=k-1) zo) rfl) ?_;refine nE 18 13 (rfl) a2
   |false=>
    refine ay (d:=21) rfl (b':=false) (rfl) ?_;refine zh ?_
    refine nE 18 13 (rfl) a2
  rintro _ rfl;refine zh ?_;refine zC ?_ ?_
  ·intro hy;refine zh ?_;refine ae rfl rfl (⟨by unfold dj;rw[cQ.2 ⟨k,a0,hy⟩];rfl,rfl⟩)
  intro hy;refine zh ?_;refine zxd (k+1) (⟨a0,fun i hi=>(Jz.1 hi).elim (a3 i) (fun e=>by rw[e];exact hy)⟩)
 intro a4;replace a4:l.length<=k:=dF a4;refine zh ?_;refine ae rfl rfl (⟨by unfold dj;rw[bz.2 fun i hi=>a3 i zo];rfl,rfl⟩)
abbrev nr(x:X3):Gh:=.agg (cj x).toArray
theorem iT{O:Nat->Nat}{w:ka}{i b:Nat}{x:X3}{E:J1}(h:Js O w i b (cj x).toArray E):(∀W,JW w W->∀(q:Nat) (u:Gh),(aY x.1)[q]? = some u->W.cell? (nA b q)=some u)/\(∀W,JW w W->∀(q:Nat) (u:Gh),(aY x.2.1)[q]? = some u->W.cell? ((nA b 3).add q)=some u)/\(∀W,JW w W->W.cell? (nA b 6)=some (.bool x.2.2))/\(∀W,JW w W->∀(q:Nat) (u:Gh),(cj x)[q]? = some u->W.cell? (nA b q)=some u):=by
 obtain⟨x1,x2,brk⟩:=x;refine⟨fun W hE q u hu=>hE.cell (h.cellsAdd q u ?_),fun W hE q u hu=>hE.cell (jI h q u hu),fun W hE=>hE.cell (h.cellsAdd 6 _ rfl),fun W hE q u hu=>hE.cell (h.cellsAdd q u hu)⟩;simp only[aY]at hu
 match q,hu with
 |0,hu=>exact hu
 |1,hu=>exact hu
 |2,hu=>exact hu
theorem Rt.ext{O:Nat->Nat}{w w':ka}{t:R3}{x:X3}(h:Rt O w t x)(e:JW w w'):Rt O w' t x:=⟨h.1.ext e,h.2.1.ext e,h.2.2⟩
theorem yX(t:R3)(x:X3)(w:ka)(h:Rt (fun _=>0) w t x):Ka J9 61 [nr x] w fun v w'=>v=.bool (mP t)/\JW w w':=by
 have hx1o:=h.1.one;have hx2o:=h.2.1.one;have a7:=bU (b:=x.2.2) hx1o hx2o;refine Gi func61 ntmps61 rfl rfl ?_;refine zh ?_;refine aE (au w) 1 zo rfl rfl ?_;intro xb w1 O1 a6 a8 a9 a4;obtain⟨lc,rc,bc,_⟩:=iT a6;refine zh ?_;refine zv (ai (us:=aY x.1) (lc w1 (Jq _)) (Gc _) (ix _) rfl) ?_;refine zc Lw (fN t.1 x.1 w1 (h.1.ext a4)) ?_;rintro v w2 ⟨rfl,a3⟩;refine zh ?_;refine aP (JW w1) (bj t.2.1) 3 (a3) rfl rfl rfl rfl rfl ?_ ?_
 ·intro a1;refine zh ?_;refine zvH (ai (us:=aY x.2.1) (rc _ a3) (Gc _) (ix _) rfl) ?_;refine zc Lw (fN t.2.1 x.2.1 _ (h.2.1.ext (a4.trans a3))) ?_;rintro v w3 ⟨rfl,a0⟩;refine zh ?_;refine nE 6 4 (a3.trans a0) a1
 intro w3 a0;refine zh ?_;refine aP (JW w1) ((da t.2.1==0)) 4 (a0) rfl rfl rfl rfl rfl ?_ ?_
 ·intro a2;refine zh ?_;refine zvH (ai (us:=aY x.2.1) (rc _ a0) (Gc _) (ix _) rfl) ?_;refine zc LD (kH t.2.1 x.2.1 _ (h.2.1.ext (a4.trans a0))) ?_;rintro v w4 ⟨rfl,a5⟩;refine zh ?_;refine nE 11 5 (a0.trans a5) a2
 intro w4 a5;refine zh ?_;refine ae rfl rfl (⟨rfl,a4.trans a5⟩)
theorem zb(t:R3)(x:X3)(w:ka)(h:Rt (fun _=>0) w t x):Ka J9 60 [nr x] w fun v w'=>v=.bool (!(mP t))/\JW w w':=by
 have hx1o:=h.1.one;have hx2o:=h.2.1.one;have a2:=bU (b:=x.2.2) hx1o hx2o;refine Gi func60 ntmps60 rfl rfl ?_;refine zh ?_;refine aE (au w) 1 zo rfl rfl ?_;intro xb w1 O1 a1 a4 a5 a0;obtain⟨_,_,_,ac⟩:=iT a1;refine zh ?_;refine zv (ai (us:=cj x) (ac w1 (Jq _)) (KH _) (K8 _) rfl) ?_;refine zc call61 (yX t x w1 (h.ext a0)) ?_;rintro v w2 ⟨rfl,a3⟩;refine zh ?_;refine ae rfl rfl (⟨rfl,a0.trans a3⟩)
theorem lT{F:FuncId}(hF:∀(args:Array Gh) (w:ka),(callFunc F args).run J9 w=.ok (.enter F args) w)(cs:Array Gh)(l:List (X3))(sv:Gh)(q:Nat->Bool)(w:ka)(h:Sl cj 7 w sv l) 
  (hq:∀i,i<l.length->∀w',JW w w'->Ka J9 F ([nr (nth l i)]++cs.toList) w' fun v w''=>v=.bool (q i)/\JW w' w'') :
  Ka J9 98 [sv,.func (.func F) #[] cs] w fun v w'=>v=nI (firstN q l.length)/\JW w w':=by
 have hl:=h.len_le;refine Gi func98 ntmps98 rfl rfl ?_;refine zh ?_;refine zlp (fun x:Nat×ka=>[(0,sv),(1,.func (.func F) #[] cs),(7,nI l.length),(8,nI x.1)]) (fun x=>x.2) (fun x=>x.1<=l.length/\JW w x.2/\∀i,i<x.1->q i=false) (fun x=>l.length-x.1) (0,w) (⟨Jp _,Jq _,fun i hi=>absurd hi (JT i)⟩) ?_;rintro⟨k,w1⟩ ⟨hk,hE,a1⟩;dsimp only at hk hE a1 ⊢;have h1:=h.ext hE;refine zh ?_;refine zC ?_ ?_
 ·intro a0;replace a0:k<l.length:=dT a0;refine zh ?_;refine zv (ai (us:=cj (nth l k)) (fun j u hu=>h1.cell a0 hu) (KH _) (K8 _) rfl) ?_;refine dN rfl hF rfl (hq k a0 w1 hE) rfl ?_;rintro v w2 ⟨rfl,a3⟩;refine zh ?_;refine zC ?_ ?_
  ·intro hy;refine zh ?_;refine ae rfl rfl (⟨by rw[cG a0 hy a1],hE.trans a3⟩)
  intro hy;refine zh ?_;refine zxd (k+1,w2) (⟨a0,hE.trans a3,fun i hi=>(Jz.1 hi).elim (a1 i) (fun e=>by rw[e];exact hy)⟩)
 intro a2;replace a2:l.length<=k:=dF a2;refine zh ?_;refine ae rfl rfl (⟨by rw[cE fun i hi=>a1 i zo],hE⟩)
theorem jn{F:FuncId}(hF:∀(args:Array Gh) (w:ka),(callFunc F args).run J9 w=.ok (.enter F args) w)(cs:Array Gh)(l:List (X3))(sv:Gh)(q:Nat->Bool)(w:ka)(h:Sl cj 7 w sv l) 
  (hq:∀i,i<l.length->∀w',JW w w'->Ka J9 F ([nr (nth l i)]++cs.toList) w' fun v w''=>v=.bool (q i)/\JW w' w'') :
  Ka J9 59 [sv,.func (.func F) #[] cs] w fun v w'=>v=.bool (jc q l.length)/\JW w w':=by
 refine Gi func59 ntmps59 rfl rfl ?_;refine zh ?_
 refine zc call98 (lT hF cs l sv q w h hq) ?_;rintro v w1 ⟨rfl,hE⟩;refine zh ?_
 refine ae rfl rfl (⟨by rw[firstN_any],hE⟩)
theorem za(li lk:List Int)(ts:List R3)(xs:List X3)(ig kp ru:Gh)(w:ka)(hi:Sl (fun c:Int=>[nI c]) 1 w ig li)(hk:Sl (fun c:Int=>[nI c]) 1 w kp lk)(hr:Sl cj 7 w ru xs)(hl:ts.length=xs.length)(hx:∀i,i<xs.length->Rt (fun _=>0) w (nth ts i) (nth xs i)):
  Ka J9 31 [sF ig kp ru] w fun v w'=>v=.bool (dE li lk ts)/\JW w w':=by
 have b0:=hi.one;have a':=hk.one;have a9:=hr.one;refine Gi func31 ntmps31 rfl rfl ?_;refine zh ?_;refine aE (au w) 1 zo rfl rfl ?_;intro xb w1 O1 a5 b1 b2 a4;have c0:w1.cell? (nA xb 0)=some ig:=a5.cell 0 rfl;have c1:w1.cell? (nA xb 1)=some kp:=a5.cell 1 rfl;have c2:w1.cell? (nA xb 2)=some ru:=a5.cell 2 rfl;have a7:=hr.ext a4;refine zh ?_;refine aP (fun w1=>_=w1) (dj li) 3 (rfl) rfl rfl rfl rfl rfl ?_ ?_
 ·intro a1;refine zh ?_;refine zc call58 (tn li ig w1 (hi.ext a4)) ?_;rintro v w9 ⟨rfl,a0⟩;rw[a0];clear a0 w9;refine zh ?_;refine nE 7 4 (rfl) a1
 rintro _ rfl;refine zh ?_;refine aP (fun w1=>_=w1) (dj lk) 3 (rfl) rfl rfl rfl rfl rfl ?_ ?_
 ·intro a2;refine zh ?_;refine zc call58 (tn lk kp w1 (hk.ext a4)) ?_;rintro v w9 ⟨rfl,a0⟩;rw[a0];clear a0 w9;refine zh ?_;refine nE 12 4 (rfl) a2
 rintro _ rfl;refine zh ?_;have a8:G9 ts = !(jc (fun i=>!(mP (nth ts i))) xs.length):=by unfold G9;rw[hl]
 refine aP (JW w1) ((!(jc (fun i=>!(mP (nth ts i))) xs.length))) 4 (Jq w1) rfl rfl rfl rfl rfl ?_ ?_
 ·intro a3;refine zh ?_;refine zc call59 (jn call60 #[] xs ru (fun i=>!(mP (nth ts i))) w1 a7 (fun i hi w' hE=>zb (nth ts i) (nth xs i) w' ((hx i hi).ext (a4.trans hE)))) ?_;rintro v w2 ⟨rfl,a6⟩;refine zh ?_;refine nE 17 5 (a6) a3
 intro w2 a6;refine zh ?_;refine ae rfl rfl (⟨by unfold dE;rw[hl,a8],a4.trans a6⟩)
theorem rm{α:Type}(enc:α->List Gh)(sz:Nat)(w:ka):Sl enc sz w sG []:=
 ⟨⟨none,0,rfl,la _,zo,fun h=>absurd rfl h⟩,fun i hi=>absurd hi (by simp)⟩
abbrev Fc:List UInt8:=[67,82,32,33,32,76,70]
theorem fK:∀(n:Nat) (t:Nd),nsz t<=n->∀(x:N3) (w:ka) (fx:Nat),Nt (fun _=>0) w t x->fx<=1000000->Ka J9 30 [nv x,nI (fx:Int)] w fun v w'=>v=nI ((min (nsz t) (fx+1):Nat):Int)/\JW w w'
 |0,t,hn=>by have:=cN t;omega
 |n+1,.mk k c kids,hn=>by
  intro x w fx h hm;obtain⟨xs,hs,hf,hl,hk⟩:=h.kids;simp only[LV]at hl hk;have b4:=ef kids;simp only[nsz]at hn ⊢;have a9:=hs.len_le;refine Gi func30 ntmps30 rfl rfl ?_;refine zh ?_;refine aE (au w) 1 zo rfl rfl ?_;intro xb w1 O1 a5 b7 b8 a3;have c2:w1.cell? (nA xb 2)=some x.2.2:=a5.cell 2 rfl;have a8:=hs.ext a3;refine zh ?_;refine zlp (fun y:Nat×ka=>[(1,nI (fx:Int)),(2,nP xb),(5,nI ((min (dr (kids.take y.1)+1) (fx+1):Nat):Int)),(6,nI y.1)]) (fun y=>y.2) (fun y=>y.1<=xs.length/\JW w1 y.2) (fun y=>xs.length-y.1) (0,w1) (⟨Jp _,Jq _⟩) ?_;rintro⟨i,w2⟩ ⟨hi,a0⟩;dsimp only at hi a0 ⊢;have a7:=a8.ext a0;have d2:=a0.cell c2;have a6:=cp kids i;refine zh ?_;refine aP (fun w1=>_=w1) (decide (((min (dr (kids.take i)+1) (fx+1):Nat):Int)<=(fx:Int))) 3 (rfl) rfl rfl rfl rfl rfl ?_ ?_
  ·intro a1;refine zh ?_;refine nE 12 4 (rfl) a1
  rintro _ rfl;refine zh ?_;refine zC ?_ ?_
  ·intro hc;simp only[I4,decide_eq_true_eq]at hc;obtain⟨b6,b5⟩:=hc;have a2:i<xs.length:=zo;have b2:=dJ kids i zo;have b1:=cp kids (i+1);have a4:=(hk i a2).ext (a3.trans a0);have b0:=a4.one;have b3:=bD kids i zo;refine zh ?_;refine zvH (ai (us:=aY (nth xs i)) (fun j u hu=>a7.cell a2 hu) (M7 _) (KM _) rfl) ?_;rw[show(fx:Int)-((min (dr (kids.take i)+1) (fx+1):Nat):Int)=((fx-(dr (kids.take i)+1):Nat):Int)from by omega];refine zc Mg (fK n (nth kids i) zo (nth xs i) w2 (fx-(dr (kids.take i)+1)) a4 zo) ?_;rintro v w5 ⟨rfl,a'⟩;refine zh ?_;rw[show((min (dr (kids.take i)+1) (fx+1):Nat):Int)+((min (nsz (nth kids i)) (fx-(dr (kids.take i)+1)+1):Nat):Int)=((min (dr (kids.take (i+1))+1) (fx+1):Nat):Int)from by omega];refine zxd (i+1,w5) (⟨a2,a0.trans a'⟩)
  intro hc;simp only[KR,decide_eq_false_iff_not]at hc;have he:min (dr (kids.take i)+1) (fx+1)=min (dr kids+1) (fx+1):=by
   rcases hc with hc|hc
   ·obtain rfl:i=xs.length:=zo;rw[<-hl,List.take_length]
   omega
  refine zh ?_;refine ae rfl rfl (⟨by rw[he],a3.trans a0⟩)
abbrev encI(c:Int):List Gh:=[nI c]
abbrev aX(n:Nat):List Gh:=[nI (n:Int)]
theorem Gl{w:ka}{v:Gh}{l:List Nat}(h:Sl aX 1 w v l):Sl encI 1 w v (l.map fun(n:Nat)=>(n:Int)):=
 ⟨by simpa using h.shape,fun i hi j u hu=>h.cells i (by simpa using hi) j u (by simpa using hu)⟩
theorem zB(l:List Int)(c:Int)(sv:Gh)(w:ka)(h:Sl encI 1 w sv l):Ka J9 190 [sv,nI c] w fun v w'=>v=nI (firstN (fun i=>c==nth l i) l.length)/\w'=w:=by
 have hl:=h.len_le;refine Gi func190 ntmps190 rfl rfl ?_;refine zh ?_;refine zlp (fun x:Nat=>[(0,sv),(1,nI c),(7,nI l.length),(8,nI x)]) (fun x=>w) (fun x=>x<=l.length/\∀i,i<x->(c==nth l i)=false) (fun x=>l.length-x) 0 (⟨Jp _,fun i hi=>absurd hi (JT i)⟩) ?_;rintro k ⟨hk,a1⟩;refine zh ?_;refine zC ?_ ?_
 ·intro a0;replace a0:k<l.length:=dT a0;have m1:=h.ld a0;refine zh ?_;refine zC ?_ ?_
  ·intro hy;refine zh ?_;refine ae rfl rfl (⟨by rw[cG (q:=fun i=>c==nth l i) a0 hy a1],rfl⟩)
  intro hy;refine zh ?_;refine zxd (k+1) (⟨a0,fun i hi=>(Jz.1 hi).elim (a1 i) (fun e=>by rw[e];exact hy)⟩)
 intro a2;replace a2:l.length<=k:=dF a2;refine zh ?_;refine ae rfl rfl (⟨by rw[cE (q:=fun i=>c==nth l i) fun i hi=>a1 i zo],rfl⟩)
theorem sg(l:List Int)(c:Int)(sv:Gh)(w:ka)(h:Sl encI 1 w sv l):Ka J9 170 [sv,nI c] w fun v w'=>v=.bool (decide (c∈l))/\w'=w:=by
 have he:jc (fun i=>c==nth l i) l.length=decide (c∈l):=by
  rw[iG (p:=fun x=>c==x),Kv];simp[List.any_eq_true]
 refine Gi func170 ntmps170 rfl rfl ?_;refine zh ?_
 refine zc call190 (zB l c sv w h) ?_;rintro v w9 ⟨rfl,a0⟩;rw[a0];clear a0 w9;refine zh ?_
 refine ae rfl rfl (⟨congrArg L0 (firstN_any.trans he),rfl⟩)
theorem sf(l:List Nat)(c:Nat)(sv:Gh)(w:ka)(h:Sl aX 1 w sv l):Ka J9 170 [sv,nI (c:Nat)] w fun v w'=>v=.bool (l.contains c)/\w'=w:=by
 refine(sg _ c sv w (Gl h)).mono fun v w' ⟨h1,h2⟩=>⟨?_,h2⟩
 rw[h1];congr 1;rw[Kv];simp only[decide_eq_true_eq,LH,List.contains_iff_mem]
 constructor
 ·rintro⟨a,ha,e⟩;have e:a=c:=zo;rw[<-e];exact ha
 exact fun hc=>⟨c,hc,rfl⟩
structure Tx(w:ka)(v:Gh)(li lk:List Int)(ts:List R3):Prop where
 ex:∃ig kp ru xs,v=sF ig kp ru/\Sl encI 1 w ig li/\Sl encI 1 w kp lk/\Sl cj 7 w ru xs/\ts.length=xs.length/\∀i,i<xs.length->Rt (fun _=>0) w (nth ts i) (nth xs i)
theorem Tx.ext{w w':ka}{v:Gh}{li lk:List Int}{ts:List R3}(h:Tx w v li lk ts)(e:JW w w'):Tx w' v li lk ts:=by
 obtain⟨ig,kp,ru,xs,hv,h1,h2,h3,h4,h5⟩:=h;exact⟨ig,kp,ru,xs,hv,h1.ext e,h2.ext e,h3.ext e,h4,fun i hi=>(h5 i hi).ext e⟩
def Few(li lk:List Int)(ts:List R3):Prop:=ts.length<=45/\li.length<=40/\lk.length<=40/\∀i,i<ts.length->nsz (nth ts i).1<=150/\nsz (nth ts i).2.1<=150
theorem BJ(li lk:List Int)(ts:List R3)(v:Gh)(w:ka)(h:Tx w v li lk ts):Ka J9 29 [v] w fun u w'=>∃g,u=.bool g/\JW w w'/\(g=false->Few li lk ts):=by
 obtain⟨ig,kp,ru,xs,rfl,h1,h2,h3,h4,h5⟩:=h;have o1:=h1.one;have o2:=h2.one;have o3:=h3.one;refine Gi func29 ntmps29 rfl rfl ?_;refine zh ?_;refine aE (au w) 1 zo rfl rfl ?_;intro xb w1 O1 a8 b9 b' a5;have c0:w1.cell? (nA xb 0)=some ig:=a8.cell 0 rfl;have c1:w1.cell? (nA xb 1)=some kp:=a8.cell 1 rfl;have c2:w1.cell? (nA xb 2)=some ru:=a8.cell 2 rfl;have g1:=h1.ext a5;have g2:=h2.ext a5;have g3:=h3.ext a5;refine zh ?_;refine bK (fun w1=>_=w1) (decide ((40:Int)<(li.length:Int))) 4 (rfl) rfl rfl rfl rfl rfl ?_ ?_
 ·intro a1;refine zh ?_;refine nE 9 5 (rfl) a1
 rintro _ rfl;refine zh ?_;refine bK (fun w1=>_=w1) (decide ((40:Int)<(lk.length:Int))) 4 (rfl) rfl rfl rfl rfl rfl ?_ ?_
 ·intro a2;refine zh ?_;refine nE 15 5 (rfl) a2
 rintro _ rfl;refine zh ?_;refine zC ?_ ?_
 ·intro hc;refine zh ?_;refine ae rfl rfl (⟨true,rfl,a5,fun e=>by cases e⟩)
 intro hc;simp only[Bool.or_eq_false_iff,decide_eq_false_iff_not]at hc;obtain⟨⟨b8,b7⟩,b6⟩:=hc;refine zh ?_;refine zlp (fun y:Nat×Nat×ka=>[(1,nP xb),(3,nI (y.2.1:Nat)),(4,nI y.1)]) (fun y=>y.2.2) (fun y=>y.1<=xs.length/\y.2.1<=302*y.1/\JW w1 y.2.2/\∀j,j<y.1->min (nsz (nth ts j).1) 151+min (nsz (nth ts j).2.1) 151<=y.2.1) (fun y=>xs.length-y.1) (0,0,w1) (⟨Jp _,by dsimp only;omega,Jq _,fun j hj=>absurd hj (JT j)⟩) ?_;rintro⟨i,s,w2⟩ ⟨hi,a6,a4,a9⟩;dsimp only at hi a6 a4 a9 ⊢;have d2:=a4.cell c2;have a7:=g3.ext a4;refine zh ?_;refine aP (fun w1=>_=w1) (decide ((s:Int)<=150)) 2 (rfl) rfl rfl rfl rfl rfl ?_ ?_
 ·intro b1;refine zh ?_;refine nE 26 3 (rfl) b1
 rintro _ rfl;refine zh ?_;refine zC ?_ ?_
 ·intro hc;simp only[I4,decide_eq_true_eq]at hc;have a3:i<xs.length:=zo;have b0:=(h5 i a3).ext (a5.trans a4);have b3:∀W,JW w2 W->∀(j:Nat) (u:Gh),(aY (nth xs i).1)[j]? = some u->W.cell? (((adr ru 7 i).add 0).add j)=some u:=fun W hE j u hu=>by
   have e:(((adr ru 7 i).add 0).add j)=(adr ru 7 i).add j:=by rw[KL,Nat.zero_add]
   rw[e];refine hE.cell (a7.cell a3 ?_);simp only[aY]at hu
   match j,hu with
   |0,hu=>exact hu
   |1,hu=>exact hu
   |2,hu=>exact hu
  have b2:∀W,JW w2 W->∀(j:Nat) (u:Gh),(aY (nth xs i).2.1)[j]? = some u->W.cell? (((adr ru 7 i).add 3).add j)=some u:=fun W hE j u hu=>by
   have e:(((adr ru 7 i).add 3).add j)=(adr ru 7 i).add (3+j):=by rw[KL]
   rw[e];refine hE.cell (a7.cell a3 ?_);simp only[aY]at hu
   match j,hu with
   |0,hu=>exact hu
   |1,hu=>exact hu
   |2,hu=>exact hu
  refine zh ?_;refine yJ (JW w2) zk zk ((Jq w2).drew) ?_
  refine jx (fun w1 a0=>LU rfl) rfl ?_;refine jx (fun w1 a0=>Kl 2 M0 rfl rfl (sizeOf23 _) zd rfl) rfl ?_
  refine jx (fun w1 a0=>Ml (by first|exact a0.cell d2) (isAgg23 _) rfl) rfl ?_;refine jx (fun w1 a0=>LU rfl) rfl ?_
  refine jx (fun w1 a0=>Kk (a7.ext a0) L8 (sizeOf49 _) rfl rfl i rfl a3) rfl ?_;refine jx (fun w1 a0=>Kl 0 L7 rfl rfl (KM _) zd rfl) rfl ?_
  refine jx (fun w1 a0=>ai (us:=aY (nth xs i).1) (b3 _ a0) (M7 _) (KM _) rfl) rfl ?_;refine Mi Mg rfl (fun w1 a0=>(fK (nsz (nth ts i).1) (nth ts i).1 (la _) (nth xs i).1 _ 150 (b0.1.ext a0) zd).mono fun v w' h=>⟨h.1,a0.trans h.2⟩) rfl ?_
  refine jx (fun w1 a0=>Kg rfl rfl (K0 zo)) rfl ?_;refine jx (fun w1 a0=>Kl 2 M0 rfl rfl (sizeOf23 _) zd rfl) rfl ?_
  refine jx (fun w1 a0=>Ml (by first|exact a0.cell d2) (isAgg23 _) rfl) rfl ?_;refine jx (fun w1 a0=>LU rfl) rfl ?_
  refine jx (fun w1 a0=>Kk (a7.ext a0) L8 (sizeOf49 _) rfl rfl i rfl a3) rfl ?_;refine jx (fun w1 a0=>Kl 3 L7 rfl rfl (KM _) zd rfl) rfl ?_
  refine jx (fun w1 a0=>ai (us:=aY (nth xs i).2.1) (b2 _ a0) (M7 _) (KM _) rfl) rfl ?_;refine Mi Mg rfl (fun w1 a0=>(fK (nsz (nth ts i).2.1) (nth ts i).2.1 (la _) (nth xs i).2.1 _ 150 (b0.2.1.ext a0) zd).mono fun v w' h=>⟨h.1,a0.trans h.2⟩) rfl ?_
  refine jx (fun w1 a0=>Kg rfl rfl (K0 zo)) rfl ?_;refine jx (fun w1 a0=>RV.assign rfl) rfl ?_
  refine WQ.nil ?_;intro w3 b4;refine zh ?_
  rw[show(s:Int)+((min (nsz (nth ts i).1) (150+1):Nat):Int)+((min (nsz (nth ts i).2.1) (150+1):Nat):Int)=((s+(min (nsz (nth ts i).1) 151+min (nsz (nth ts i).2.1) 151):Nat):Int)from by omega];refine zxd (i+1,s+(min (nsz (nth ts i).1) 151+min (nsz (nth ts i).2.1) 151),w3) (⟨a3,by dsimp only;omega,a4.trans b4,fun j hj=>(Jz.1 hj).elim (fun h=>by have:=a9 j h;dsimp only;omega) (fun e=>by dsimp only;rw[e];omega)⟩)
 intro hc;simp only[KR,decide_eq_false_iff_not]at hc;have a':decide ((150:Int)<(s:Int))=false->Few li lk ts:=fun e=>by
  have hs:=of_decide_eq_false e;have b5:i=xs.length:=zo;refine⟨zo,zo,zo,fun j hj=>?_⟩;have:=a9 j zo;omega
 refine zh ?_;refine ae rfl rfl (⟨decide ((150:Int)<(s:Int)),rfl,a5.trans a4,a'⟩)
end Go.Proofs.YtlehnbkknlpkbaaGreatDoor
section
namespace Go.VL
open Go.ChangeShapes Go.WideShapes Go.ChangeAt Go.RowKit Go.Deep
section
variable{H:Type}{enc:J1×Gh→H}{P:Kc}{w:ka}{base:Nat}{held:Bool}
theorem RdF.slice{a1:Nat}{t e:J1}{sz:Nat}{cs:List Gh}{x:DataW H×List LX}(ht:P.underlying t=some (.slice e))(ce:P.cellsOf e=sz)(hz:0<sz)(h:JQ enc P w base (fun _=>true) held a1 t cs=some x):
  ∃v xs,cs=[v]/\Sl (fun c:List Gh=>c) sz w v xs/\∀c∈xs,c.length=sz/\∃n y,a1=n+1/\JQ enc P w base (fun _=>true) held n e c=some y:=by
 rcases DataW.trod_slice ht h with⟨rfl,_⟩|⟨a,len,a',a6,a7,n,a8,rfl,rfl,hb,hl,hm,a3,a9,_,_⟩
 ·exact⟨_,[],rfl,⟨⟨none,0,rfl,la _,zo,fun h=>absurd rfl h⟩,fun i hi=>absurd hi (by simp)⟩,by simp⟩
 have hx:∀i,i<len->∃c:List Gh,w.cells? base (a.add (i*P.cellsOf e)) (P.cellsOf e)=some c/\∃y,JQ enc P w base (fun _=>true) held n e c=some y:=fun i hi=>by
  have:=a9 i hi;rw[J3 zo]at this;obtain⟨c,hc,hy⟩:=Option.bind_eq_some_iff.1 this;exact⟨c,hc,_,hy⟩
 obtain⟨V,hV⟩:=choose_lt hx;rw[ce]at hV;have hc:∀i,i<len->∀j u,(V i)[j]? = some u->w.cell? (a.add (i*sz+j))=some u:=fun i hi j u hu=>by
  obtain⟨_,a3,a0⟩:=L4 (hV i hi).1;have hj:j<sz:=by have:=(KB.1 hu).1;omega
  have:=a0 j hj;rw[KL]at this;rw[this,hu]
 have a2:∀i,i<len->(V i).length=sz:=fun i hi=>(L4 (hV i hi).1).2.1
 have a4:((K4 len).map V).length=len:=by simp
 refine⟨_,(K4 len).map V,rfl,⟨⟨some a,a',by rw[a4],zo,by simpa[maxLen]using hm,fun h=>?_⟩,fun i hi j u hu=>?_⟩,fun c a5=>?_⟩
 ·rw[a4]at h;have h0:0<(V 0).length:=by rw[a2 0 zo];exact hz
  have:=hc 0 zo 0 _ (J3 h0);obtain⟨b,o,s⟩:=a;have hs:s=none:=by simpa[K1]using Lb this
  subst hs;exact⟨b,o,rfl⟩
 ·rw[a4]at hi;have h0:0<(V 0).length:=by rw[a2 0 zo];exact hz
  have h1:=hc 0 zo 0 _ (J3 h0);obtain⟨b,o,s⟩:=a;have hs:s=none:=by simpa[K1]using Lb h1
  subst hs;simp only[Kp,Ke]at hu;have h2:=hc i hi j u hu;simp only[adr];have e1:((⟨b,o,none⟩:Mb).add (i*sz+j))=((⟨b,o+i*sz,none⟩:Mb).add j):=by
   simp only[K1];split<;>split<;>simp_all<;>omega
  rw[e1]at h2;exact h2
 simp only[LH,List.mem_range]at a5;obtain⟨i,hi,rfl⟩:=a5;obtain⟨_,y,hy⟩:=hV i hi;exact⟨a2 i hi,n,y,a8,hy⟩
theorem Sl.free{α:Type}[Inhabited α]{f:α->List Gh}{sz:Nat}{v:Gh}{xs:List α}(h:Sl f sz w v xs)(hf:∀a,f a≠[]):Free (fun _=>0) w v:=fun a n c e hn=>by
 refine⟨rfl,?_⟩;obtain⟨a',c',e',_,_,_⟩:=h.shape;rw[e']at e
 cases e
 cases hq:f (nth xs 0)with
 |nil=>exact absurd hq (hf _)
 |cons u r=>
  have hc:=h.cell (i:=0) (j:=0) (u:=u) zo (by rw[hq];rfl);have:=KE _ _ hc;subst e';have hb:((adr (.slice (some a) xs.length c) sz 0).add 0).block=a.block:=by simp only[adr,K1];split<;>rfl
  rw[hb]at this;exact this
end
end Go.VL
namespace Go.Proofs.YtlehnbkknlpkbaaGreatDoor
open Go.ChangeShapes Go.WideShapes Go.ChangeAt Go.RowKit Go.VL Go.Proofs
set_option maxRecDepth 100000
section
variable{H:Type}{enc:J1×Gh→H}{w:ka}{base:Nat}{held:Bool}
theorem vg:∀(a0:Nat) (cs:List Gh) (x:DataW H×List LX),JQ enc J9 w base (fun _=>true) held a0 47 cs=some x->∃(y:N3),cs=aY y/\∃t:Nd,Nt (fun _=>0) w t y
 |0,cs,x,h=>by simp[JQ]at h
 |a0+1,cs,x,h=>by
  obtain⟨xs,m,a8,rfl,hl,a1,hf⟩:=DataW.trod_struct underlying47 h;obtain rfl:a0=m:=zo;have a6:cs.length=3:=hl.trans zk;obtain⟨c0,c1,c2,rfl⟩:∃c0 c1 c2,cs=[c0,c1,c2]:=by
   match cs,a6 with
   |[a,b,c],_=>exact⟨a,b,c,rfl⟩
  have a7:xs.length=3:=a1;have f0:JQ enc J9 w base (fun _=>true) held a0 3 [c0]=xs[0]?:=hf 0 _ rfl;have f1:JQ enc J9 w base (fun _=>true) held a0 3 [c1]=xs[1]?:=hf 1 _ rfl;have f2:JQ enc J9 w base (fun _=>true) held a0 45 [c2]=xs[2]?:=hf 2 _ rfl;rw[J3 zo]at f0 f1 f2;obtain⟨n0,e0,_⟩:=Rd.int (enc:=enc) (w:=w) (base:=base) (held:=held) KD ⟨a0,_,f0⟩;obtain⟨n1,e1,_⟩:=Rd.int (enc:=enc) (w:=w) (base:=base) (held:=held) KD ⟨a0,_,f1⟩;obtain⟨v,ys,e2,hs,hy⟩:=RdF.slice (sz:=3) underlying45 zk zd f2;simp only[KY,and_true]at e0 e1 e2;subst e0 e1 e2
  obtain⟨zs,rfl,hz⟩:=vO (f:=aY) (R:=fun y=>∃t:Nd,Nt (fun _=>0) w t y) ys (fun c hc=>by
   obtain⟨_,n,y,hn,a4⟩:=hy c hc
   exact vg n c y a4)
  have a2:=hs.of_map;have a5:∀i,i<zs.length->∃t:Nd,Nt (fun _=>0) w t (nth zs i):=fun i hi=>hz _ (by rw[aB hi];exact Ko hi)
  obtain⟨T,hT⟩:=KZ a5;have a3:((K4 zs.length).map T).length=zs.length:=by simp
  refine⟨(n0,n1,c2),rfl,.mk n0 n1 ((K4 zs.length).map T),.mk a2 (a2.free fun a=>by simp) a3 fun i hi=>?_⟩;rw[aB (by rw[a3];exact hi)];simp only[Kp,Ke];exact hT i hi
termination_by a0=>a0
theorem FJ(cs:List Gh)(h:Rd enc J9 w base held 49 cs):∃x:X3,cs=cj x/\∃t:R3,Rt (fun _=>0) w t x:=by
 obtain⟨hl,hf⟩:=h.struct L7;have a0:cs.length=7:=hl.trans zk;obtain⟨c0,c1,c2,c3,c4,c5,c6,rfl⟩:∃c0 c1 c2 c3 c4 c5 c6,cs=[c0,c1,c2,c3,c4,c5,c6]:=by
  match cs,a0 with
  |[a,b,c,d,e,f,g],_=>exact⟨a,b,c,d,e,f,g,rfl⟩
 have f0:Rd enc J9 w base held 47 [c0,c1,c2]:=hf 0 _ rfl;have f1:Rd enc J9 w base held 47 [c3,c4,c5]:=hf 1 _ rfl;have f2:Rd enc J9 w base held 4 [c6]:=hf 2 _ rfl;obtain⟨n0,y0,h0⟩:=f0;obtain⟨n1,y1,h1⟩:=f1;obtain⟨x0,e0,t0,k0⟩:=vg n0 _ _ h0;obtain⟨x1,e1,t1,k1⟩:=vg n1 _ _ h1;obtain⟨b,eb⟩:=f2.bool Ln;simp only[aY,KY,and_true]at e0 e1 eb;obtain⟨rfl,rfl,rfl⟩:=e0;obtain⟨rfl,rfl,rfl⟩:=e1;subst eb;exact⟨(x0,x1,b),rfl,(t0,t1,b),k0,k1,rfl⟩
theorem Fo{v:Gh}{d:DataW H}{ps:List LX}{r:Reach}{b0:Nat}(hv:Value.okWide J9 w r b0 25 v)(h:DataW.Trod enc J9 w base (fun _=>true) held 25 v d ps):∃li lk ts,Tx w v li lk ts:=by
 obtain⟨cs,rfl,a3⟩:=okWide_struct M4 hv;obtain⟨hl,hf⟩:=(Ib h).flat M4 zk zk;have a2:cs.size=3:=by simpa[LF]using hl
 obtain⟨c0,c1,c2,rfl⟩:∃c0 c1 c2,cs = #[c0,c1,c2]:=by
  match cs,a2 with
  |⟨[c0,c1,c2]⟩,_=>exact⟨c0,c1,c2,rfl⟩
 obtain⟨_,h0,r0⟩:=hf 0 _ rfl;obtain⟨_,h1,r1⟩:=hf 1 _ rfl;obtain⟨_,h2,r2⟩:=hf 2 _ rfl
 cases h0;cases h1;cases h2
 obtain⟨v0,z0,e0,i0,_⟩:=r0.ints M5 KD zk;obtain⟨v1,z1,e1,i1,_⟩:=r1.ints M5 KD zk;obtain⟨v2,zs,e2,i2,hz⟩:=r2.sliceOf (f:=cj) (R:=fun x=>∃t:R3,Rt (fun _=>0) w t x) (sz:=7) L8 zk zd FJ
 cases e0;cases e1;cases e2
 have a1:∀i,i<zs.length->∃t:R3,Rt (fun _=>0) w t (nth zs i):=fun i hi=>hz _ (by rw[aB hi];exact Ko hi)
 obtain⟨T,hT⟩:=KZ a1;have a0:((K4 zs.length).map T).length=zs.length:=by simp
 refine⟨z0,z1,(K4 zs.length).map T,c0,c1,c2,zs,rfl,i0,i1,i2,a0,fun i hi=>?_⟩;rw[aB (by rw[a0];exact hi)];simp only[Kp,Ke];exact hT i hi
end
end Go.Proofs.YtlehnbkknlpkbaaGreatDoor
end
namespace Go.Proofs.YtlehnbkknlpkbaaGreatDoor
abbrev Lf:=Int×Int×Nat
abbrev Kt:=List Nat×List Nat×Nat
structure Gr where
 ls:List Lf
 ks:List Kt
def Gr.fr(g:Gr)(k:Nat):List Nat:=(nth g.ks k).1
def Gr.lv(g:Gr)(k:Nat):List Nat:=(nth g.ks k).2.1
def Gr.en(g:Gr)(k:Nat):Nat:=(nth g.ks k).2.2
def Gr.knot(g:Gr):Gr:=⟨g.ls,g.ks++[([],[],0)]⟩
def Gr.free(g:Gr)(a b:Nat):Gr:=⟨g.ls,g.ks.set a (g.fr a++[b],g.lv a,g.en a)⟩
def Gr.leaf(g:Gr)(k c:Int)(a b:Nat):Gr:=⟨g.ls++[(k,c,b)],g.ks.set a (g.fr a,g.lv a++[g.ls.length+1],g.en a)⟩
def cK(k c m:Int):Bool:=
 if k=0 then(decide (0<=m)&&decide (m<36))&&(m==c)else if k=1 then decide (0<=m)&&decide (m<36)else if k=2 then(decide (0<=m)&&decide (m<36))&&(m != c)else m==36
def layO(k:Int)(g:Gr)(i:Nat):Gr:=if k=8 then(if k=7 then g else g.free i (i+1))else(if k=7 then g else g.free i (i+1)).free (i+1) i
mutual
def fy:Nd->Nat->Nat->Gr->Gr
 |.mk k c l,a,b,g=>
  if k=4 then nh l a b g
  else if k=5 then nn l a b g
  else if k=6\/k=7\/k=8 then layO k (nj l g.ks.length (g.ks.length+1) ((g.knot.knot.free a g.ks.length).free (g.ks.length+1) b)) g.ks.length
  else if k=9 then g.free a b
  else g.leaf k c a b
def nh:List Nd->Nat->Nat->Gr->Gr
 |[],_,_,g=>g
 |t::r,a,b,g=>if r.isEmpty then fy t a b g else nh r g.ks.length b (fy t a g.ks.length g.knot)
def nn:List Nd->Nat->Nat->Gr->Gr
 |[],_,_,g=>g
 |t::r,a,b,g=>nn r a b (fy t a b g)
def nj:List Nd->Nat->Nat->Gr->Gr
 |[],_,_,g=>g
 |t::_,a,b,g=>fy t a b g
end
inductive StarP(L:List Int->Prop):List Int->Prop
 |nil:StarP L []
 |cons {u v:List Int}:L u->StarP L v->StarP L (u++v)
mutual
/-- Which words an expression matches. -/
def Lg:Nd->List Int->Prop
 |.mk k c l=>fun w=>
  if k=4 then LgS l w
  else if k=5 then LgA l w
  else if k=6 then StarP (LgH l) w
  else if k=7 then∃u v,w=u++v/\LgH l u/\StarP (LgH l) v
  else if k=8 then w=[]\/LgH l w
  else if k=9 then w=[]
  else∃m,w=[m]/\cK k c m=true
def LgS:List Nd->List Int->Prop
 |[]=>fun w=>w=[]
 |t::r=>fun w=>∃u v,w=u++v/\Lg t u/\LgS r v
def LgA:List Nd->List Int->Prop
 |[]=>fun _=>False
 |t::r=>fun w=>Lg t w\/LgA r w
def LgH:List Nd->List Int->Prop
 |[]=>fun _=>False
 |t::_=>Lg t
end
mutual
/-- Expressions whose parts are as many as they must. -/
def fG:Nd->Bool
 |.mk k _ l=>(if k=4 then !l.isEmpty else if k=6\/k=7\/k=8 then decide (l.length=1)else true)&&bR l
def bR:List Nd->Bool
 |[]=>true
 |t::r=>fG t&&bR r
end
inductive Pt(g:Gr):Nat->List Int->Nat->Prop
 |nil (k:Nat):Pt g k [] k
 |eps {k k' q:Nat} {w:List Int}:k<g.ks.length->k'∈g.fr k->Pt g k' w q->Pt g k w q
 |leaf {k j q:Nat} {m:Int} {w:List Int}:k<g.ks.length->j<g.ls.length->j+1∈g.lv k->cK (nth g.ls j).1 (nth g.ls j).2.1 m=true->Pt g (nth g.ls j).2.2 w q->Pt g k (m::w) q
theorem Pt.trans{g:Gr}{a b c:Nat}{u v:List Int}(h:Pt g a u b)(k:Pt g b v c):Pt g a (u++v) c:=by
 induction h with
 |nil=>exact k
 |eps h1 h2 _ ih=>exact .eps h1 h2 (ih k)
 |leaf h1 h2 h3 h4 _ ih=>exact .leaf h1 h2 h3 h4 (ih k)
structure Sub(g g':Gr):Prop where
 len:g.ks.length<=g'.ks.length
 ls:∃r,g'.ls=g.ls++r
 fr:∀k j,k<g.ks.length->j∈g.fr k->j∈g'.fr k
 lv:∀k j,k<g.ks.length->j∈g.lv k->j∈g'.lv k
theorem Sub.refl(g:Gr):Sub g g:=⟨la _,⟨[],by simp⟩,fun _ _ _ h=>h,fun _ _ _ h=>h⟩
theorem Sub.trans{a b c:Gr}(h:Sub a b)(k:Sub b c):Sub a c:=by
 obtain⟨r,hr⟩:=h.ls;obtain⟨s,hs⟩:=k.ls;exact⟨Nat.le_trans h.len k.len,⟨r++s,by rw[hs,hr,Kh]⟩,fun q j hq hj=>k.fr q j (JD hq h.len) (h.fr q j hq hj),fun q j hq hj=>k.lv q j (JD hq h.len) (h.lv q j hq hj)⟩
theorem Sub.nthL{g g':Gr}(h:Sub g g'){j:Nat}(hj:j<g.ls.length):j<g'.ls.length/\nth g'.ls j=nth g.ls j:=by
 obtain⟨r,hr⟩:=h.ls;rw[hr,aA,if_pos hj];exact⟨by simp;omega,rfl⟩
theorem Pt.mono{g g':Gr}(h:Sub g g'){a b:Nat}{u:List Int}(p:Pt g a u b):Pt g' a u b:=by
 induction p with
 |nil=>exact .nil _
 |eps h1 h2 _ ih=>exact .eps (JD h1 h.len) (h.fr _ _ h1 h2) ih
 |leaf h1 h2 h3 h4 _ ih=>
  obtain⟨e1,e2⟩:=h.nthL h2;exact .leaf (JD h1 h.len) e1 (h.lv _ _ h1 h3) (by rw[e2];exact h4) (by rw[e2];exact ih)
theorem aG(g:Gr):g.knot.ks.length=g.ks.length+1:=by simp[Gr.knot]
theorem aV(g:Gr)(a b:Nat):(g.free a b).ks.length=g.ks.length:=by simp[Gr.free]
theorem gy(g:Gr)(k c:Int)(a b:Nat):(g.leaf k c a b).ks.length=g.ks.length:=by simp[Gr.leaf]
theorem rP(g:Gr)(k:Nat):nth g.knot.ks k=if k<g.ks.length then nth g.ks k else([],[],0):=by
 unfold Gr.knot;rw[aA]
 split
 ·rfl
 by_cases h:k-g.ks.length=0
 ·rw[h,ar]
 rw[eS (by simp;omega)];rfl
theorem oq(g:Gr)(k:Nat):g.knot.fr k=if k<g.ks.length then g.fr k else []:=by unfold Gr.fr;rw[rP];split<;>rfl
theorem oo(g:Gr)(k:Nat):g.knot.lv k=if k<g.ks.length then g.lv k else []:=by unfold Gr.lv;rw[rP];split<;>rfl
theorem dL{g:Gr}{a b:Nat}(ha:a<g.ks.length)(k:Nat):(g.free a b).fr k=if k=a then g.fr a++[b]else g.fr k:=by
 unfold Gr.free Gr.fr;rw[aT ha];split<;>rfl
theorem oy{g:Gr}{a b:Nat}(ha:a<g.ks.length)(k:Nat):(g.free a b).lv k=g.lv k:=by
 unfold Gr.free Gr.lv;rw[aT ha];split
 ·rename_i h;rw[h]
 rfl
theorem oe{g:Gr}{x c:Int}{a b:Nat}(ha:a<g.ks.length)(k:Nat):(g.leaf x c a b).fr k=g.fr k:=by
 unfold Gr.leaf Gr.fr;rw[aT ha];split
 ·rename_i h;rw[h]
 rfl
theorem lR{g:Gr}{x c:Int}{a b:Nat}(ha:a<g.ks.length)(k:Nat):(g.leaf x c a b).lv k=if k=a then g.lv a++[g.ls.length+1]else g.lv k:=by
 unfold Gr.leaf Gr.lv;rw[aT ha];split<;>rfl
theorem jN(g:Gr)(x c:Int)(a b:Nat):(g.leaf x c a b).ls=g.ls++[(x,c,b)]:=rfl
theorem kL(g:Gr):Sub g g.knot:=⟨by rw[aG];omega,⟨[],by simp[Gr.knot]⟩,fun k j hk h=>by rw[oq,if_pos hk];exact h,fun k j hk h=>by rw[oo,if_pos hk];exact h⟩
theorem fp{g:Gr}{a b:Nat}(ha:a<g.ks.length):Sub g (g.free a b):=⟨by rw[aV];omega,⟨[],by simp[Gr.free]⟩,fun k j _ h=>by
 rw[dL ha];split
 ·rename_i e;subst e;exact KW _ h
 exact h,fun k j _ h=>by rw[oy ha];exact h⟩
theorem Dp{g:Gr}{x c:Int}{a b:Nat}(ha:a<g.ks.length):Sub g (g.leaf x c a b):=⟨by rw[gy];omega,⟨_,rfl⟩,fun k j _ h=>by rw[oe ha];exact h,fun k j _ h=>by
 rw[lR ha];split
 ·rename_i e;subst e;exact KW _ h
 exact h⟩
structure WF(g:Gr):Prop where
 fr:∀k j,k<g.ks.length->j∈g.fr k->j<g.ks.length
 lv:∀k j,k<g.ks.length->j∈g.lv k->1<=j/\j<=g.ls.length
 ls:∀j,j<g.ls.length->(nth g.ls j).2.2<g.ks.length
theorem WF.knot{g:Gr}(h:WF g):WF g.knot:=by
 have hl:=aG g;refine⟨fun k j hk hj=>?_,fun k j hk hj=>?_,fun j hj=>?_⟩
 ·rw[oq]at hj
  split at hj
  ·rename_i e;have:=h.fr k j e hj;omega
  simp at hj
 ·rw[oo]at hj
  split at hj
  ·rename_i e;exact h.lv k j e hj
  simp at hj
 have:=h.ls j hj;show(nth g.ls j).2.2<_;omega
theorem WF.free{g:Gr}(h:WF g){a b:Nat}(ha:a<g.ks.length)(hb:b<g.ks.length):WF (g.free a b):=by
 have hl:=aV g a b;refine⟨fun k j hk hj=>?_,fun k j hk hj=>?_,fun j hj=>?_⟩
 ·rw[hl]at hk ⊢;rw[dL ha]at hj
  split at hj
  ·rcases K6.1 hj with hj|hj
   ·exact h.fr a j ha hj
   rw[IJ.1 hj];exact hb
  exact h.fr k j hk hj
 ·rw[hl]at hk;rw[oy ha]at hj;exact h.lv k j hk hj
 rw[hl];exact h.ls j hj
theorem WF.leaf{g:Gr}(h:WF g){x c:Int}{a b:Nat}(ha:a<g.ks.length)(hb:b<g.ks.length):WF (g.leaf x c a b):=by
 have hl:=gy g x c a b;have h2:(g.leaf x c a b).ls.length=g.ls.length+1:=by simp[Gr.leaf]
 refine⟨fun k j hk hj=>?_,fun k j hk hj=>?_,fun j hj=>?_⟩
 ·rw[hl]at hk ⊢;rw[oe ha]at hj;exact h.fr k j hk hj
 ·rw[hl]at hk;rw[h2];rw[lR ha]at hj
  split at hj
  ·rcases K6.1 hj with hj|hj
   ·have:=h.lv a j ha hj;omega
   rw[IJ.1 hj];omega
  have:=h.lv k j hk hj;omega
 rw[hl,jN,aA]
 split
 ·rename_i e;exact h.ls j e
 rw[h2]at hj;rw[show j-g.ls.length=0 from by omega,ar];exact hb
theorem yl(k:Int)(g:Gr)(i:Nat):(layO k g i).ks.length=g.ks.length:=by
 unfold layO;split<;>split<;>simp only[aV]
theorem F4{k:Int}{g:Gr}{i:Nat}(h:WF g)(hi:i+1<g.ks.length):WF (layO k g i):=by
 unfold layO;split<;>split
 ·exact h
 ·exact h.free zo hi
 ·exact h.free hi zo
 exact(h.free zo hi).free (by rw[aV];exact hi) (by rw[aV];omega)
theorem yk{k:Int}{g:Gr}{i:Nat}(hi:i+1<g.ks.length):Sub g (layO k g i):=by
 unfold layO;split<;>split
 ·exact Sub.refl _
 ·exact fp zo
 ·exact fp hi
 exact(fp zo).trans (fp (by rw[aV];exact hi))
def bF(g:Gr)(a b:Nat):Gr:=(g.knot.knot.free a g.ks.length).free (g.ks.length+1) b
theorem dY(g:Gr)(a b:Nat):(bF g a b).ks.length=g.ks.length+2:=by unfold bF;rw[aV,aV,aG,aG]
theorem eR{g:Gr}(h:WF g){a b:Nat}(ha:a<g.ks.length)(hb:b<g.ks.length):WF (bF g a b):=by
 have h2:g.knot.knot.ks.length=g.ks.length+2:=by rw[aG,aG]
 exact(h.knot.knot.free zo zo).free (by rw[aV];omega) (by rw[aV];omega)
theorem zm{g:Gr}{a b:Nat}(ha:a<g.ks.length):Sub g (bF g a b):=by
 have h2:g.knot.knot.ks.length=g.ks.length+2:=by rw[aG,aG]
 exact(((kL g).trans (kL _)).trans (fp zo)).trans (fp (by rw[aV];omega))
mutual
theorem ct:∀(t:Nd) (a b:Nat) (g:Gr),WF g->a<g.ks.length->b<g.ks.length->WF (fy t a b g)/\Sub g (fy t a b g)
 |.mk k c l,a,b,g,h,ha,hb=>by
  unfold fy
  split
  ·exact vU l a b g h ha hb
  split
  ·exact vW l a b g h ha hb
  split
  ·have hl:=dY g a b
   obtain⟨h1,h2⟩:=lS l g.ks.length (g.ks.length+1) (bF g a b) (eR h ha hb) zo zo
   have:=h2.len
   show WF (layO k (nj l g.ks.length (g.ks.length+1) (bF g a b)) g.ks.length)/\Sub g (layO k (nj l g.ks.length (g.ks.length+1) (bF g a b)) g.ks.length)
   exact⟨F4 h1 zo,((zm ha).trans h2).trans (yk zo)⟩
  split
  ·exact⟨h.free ha hb,fp ha⟩
  exact⟨h.leaf ha hb,Dp ha⟩
theorem vU:∀(l:List Nd) (a b:Nat) (g:Gr),WF g->a<g.ks.length->b<g.ks.length->WF (nh l a b g)/\Sub g (nh l a b g)
 |[],_,_,g,h,_,_=>⟨h,Sub.refl g⟩
 |t::r,a,b,g,h,ha,hb=>by
  unfold nh
  split
  ·exact ct t a b g h ha hb
  have hl:=aG g
  obtain⟨h1,h2⟩:=ct t a g.ks.length g.knot h.knot zo zo
  have:=h2.len
  obtain⟨h3,h4⟩:=vU r g.ks.length b _ h1 zo zo
  exact⟨h3,((kL g).trans h2).trans h4⟩
theorem vW:∀(l:List Nd) (a b:Nat) (g:Gr),WF g->a<g.ks.length->b<g.ks.length->WF (nn l a b g)/\Sub g (nn l a b g)
 |[],_,_,g,h,_,_=>⟨h,Sub.refl g⟩
 |t::r,a,b,g,h,ha,hb=>by
  unfold nn
  obtain⟨h1,h2⟩:=ct t a b g h ha hb
  have:=h2.len
  obtain⟨h3,h4⟩:=vW r a b _ h1 zo zo
  exact⟨h3,h2.trans h4⟩
theorem lS:∀(l:List Nd) (a b:Nat) (g:Gr),WF g->a<g.ks.length->b<g.ks.length->WF (nj l a b g)/\Sub g (nj l a b g)
 |[],_,_,g,h,_,_=>⟨h,Sub.refl g⟩
 |t::_,a,b,g,h,ha,hb=>by
  unfold nj
  exact ct t a b g h ha hb
end
theorem nG{g:Gr}{L:List Int->Prop}{i o:Nat}(hL:∀u,L u->Pt g i u o)(hb:Pt g o [] i):∀ {v:List Int},StarP L v->Pt g o v o
 |_,.nil=>.nil _
 |_,.cons h1 h2=>(hb.trans (hL _ h1)).trans (nG hL hb h2)
mutual
theorem kJ:∀(t:Nd) (a b:Nat) (g:Gr),WF g->a<g.ks.length->b<g.ks.length->fG t=true->∀w,Lg t w->Pt (fy t a b g) a w b
 |.mk k c l,a,b,g,h,ha,hb,hs,w,hw=>by
  unfold fG at hs
  simp only[I4]at hs
  obtain⟨hs1,hs2⟩:=hs
  unfold Lg at hw
  unfold fy
  by_cases h4:k=4
  ·rw[if_pos h4]at hw hs1 ⊢
   exact tY l a b g h ha hb hs2 (by intro e;rw[e]at hs1;simp at hs1) w hw
  rw[if_neg h4]at hw hs1 ⊢
  by_cases h5:k=5
  ·rw[if_pos h5]at hw ⊢
   exact uc l a b g h ha hb hs2 w hw
  rw[if_neg h5]at hw ⊢
  by_cases h678:k=6\/k=7\/k=8
  ·rw[if_pos h678]at hs1 ⊢
   have hl:=dY g a b
   have hwf:=eR h ha hb
   obtain⟨h1,h2⟩:=lS l g.ks.length (g.ks.length+1) (bF g a b) hwf zo zo
   have hlen:=h2.len
   have hkid:=Bw l g.ks.length (g.ks.length+1) (bF g a b) hwf zo zo hs2
   have hk2:g.knot.knot.ks.length=g.ks.length+2:=by rw[aG,aG]
   show Pt (layO k (nj l g.ks.length (g.ks.length+1) (bF g a b)) g.ks.length) a w b
   have ein:Pt (bF g a b) a [] g.ks.length:=.eps zo (by
    unfold bF
    rw[dL (by rw[aV];omega)]
    rw[if_neg zo,dL zo,if_pos rfl];simp) (.nil _)
   have eout:Pt (bF g a b) (g.ks.length+1) [] b:=.eps zo (by
    unfold bF
    rw[dL (by rw[aV];omega),if_pos rfl];simp) (.nil _)
   generalize bF g a b=g1 at *
   generalize nj l g.ks.length (g.ks.length+1) g1=g2 at *
   generalize g.ks.length=i at *
   have hsub:Sub g2 (layO k g2 i):=yk zo
   have e1:=(ein.mono h2).mono hsub
   have e2:=(eout.mono h2).mono hsub
   have ek:∀u,LgH l u->Pt (layO k g2 i) i u (i+1):=fun u hu=>(hkid u hu).mono hsub
   have eskip:k≠7->Pt (layO k g2 i) i [] (i+1):=fun hk=>.eps (by rw[yl];omega) (by
    unfold layO
    rw[if_neg hk]
    split
    ·rw[dL zo,if_pos rfl];simp
    rw[dL (by rw[aV];omega),if_neg zo,dL zo,if_pos rfl];simp) (.nil _)
   have eback:k≠8->Pt (layO k g2 i) (i+1) [] i:=fun hk=>.eps (by rw[yl];omega) (by
    unfold layO
    rw[if_neg hk,dL (by split;omega;rw[aV];omega),if_pos rfl];simp) (.nil _)
   by_cases h6:k=6
   ·rw[if_pos h6]at hw
    have:=((e1.trans (eskip zo)).trans (nG ek (eback zo) hw)).trans e2
    simpa using this
   rw[if_neg h6]at hw
   by_cases h7:k=7
   ·rw[if_pos h7]at hw
    obtain⟨u,v,rfl,hu,hv⟩:=hw
    have:=((e1.trans (ek u hu)).trans (nG ek (eback zo) hv)).trans e2
    simpa using this
   rw[if_neg h7,if_pos (show k=8 from by omega)]at hw
   rcases hw with rfl|hw
   ·exact(e1.trans (eskip h7)).trans e2
   have:=(e1.trans (ek w hw)).trans e2
   simpa using this
  rw[if_neg zo,if_neg zo,if_neg zo]at hw
  rw[if_neg h678]
  by_cases h9:k=9
  ·rw[if_pos h9]at hw ⊢
   subst hw
   exact .eps (by rw[aV];exact ha) (by rw[dL ha,if_pos rfl];simp) (.nil _)
  rw[if_neg h9]at hw ⊢
  obtain⟨m,rfl,hm⟩:=hw
  have hn:nth (g.leaf k c a b).ls g.ls.length=(k,c,b):=by rw[jN,aA,if_neg zo,Nat.sub_self,ar]
  refine .leaf (j:=g.ls.length) (by rw[gy];exact ha) (by rw[jN];simp) (by rw[lR ha,if_pos rfl];simp) (by rw[hn];exact hm) (by rw[hn];exact .nil _)
theorem tY:∀(l:List Nd) (a b:Nat) (g:Gr),WF g->a<g.ks.length->b<g.ks.length->bR l=true->l≠[]->∀w,LgS l w->Pt (nh l a b g) a w b
 |[],_,_,_,_,_,_,_,hn,_,_=>absurd rfl hn
 |t::r,a,b,g,h,ha,hb,hs,_,w,hw=>by
  unfold bR at hs
  simp only[I4]at hs
  unfold LgS at hw
  obtain⟨u,v,rfl,hu,hv⟩:=hw
  unfold nh
  split
  ·rename_i hr
   obtain rfl:r=[]:=by simpa using hr
   obtain rfl:v=[]:=by unfold LgS at hv;exact hv
   rw[K7]
   exact kJ t a b g h ha hb hs.1 u hu
  rename_i hr
  have hl:=aG g
  have p1:=kJ t a g.ks.length g.knot h.knot zo zo hs.1 u hu
  obtain⟨h1,h2⟩:=ct t a g.ks.length g.knot h.knot zo zo
  have:=h2.len
  have p2:=tY r g.ks.length b _ h1 zo zo hs.2 (by intro e;rw[e]at hr;simp at hr) v hv
  exact(p1.mono (vU r g.ks.length b _ h1 zo zo).2).trans p2
theorem uc:∀(l:List Nd) (a b:Nat) (g:Gr),WF g->a<g.ks.length->b<g.ks.length->bR l=true->∀w,LgA l w->Pt (nn l a b g) a w b
 |[],_,_,_,_,_,_,_,_,hw=>by unfold LgA at hw;exact hw.elim
 |t::r,a,b,g,h,ha,hb,hs,w,hw=>by
  unfold bR at hs
  simp only[I4]at hs
  unfold LgA at hw
  unfold nn
  obtain⟨h1,h2⟩:=ct t a b g h ha hb
  have:=h2.len
  rcases hw with hw|hw
  ·exact(kJ t a b g h ha hb hs.1 w hw).mono (vW r a b _ h1 zo zo).2
  exact uc r a b _ h1 zo zo hs.2 w hw
theorem Bw:∀(l:List Nd) (a b:Nat) (g:Gr),WF g->a<g.ks.length->b<g.ks.length->bR l=true->∀w,LgH l w->Pt (nj l a b g) a w b
 |[],_,_,_,_,_,_,_,_,hw=>by unfold LgH at hw;exact hw.elim
 |t::_,a,b,g,h,ha,hb,hs,w,hw=>by
  unfold bR at hs
  simp only[I4]at hs
  unfold LgH at hw
  unfold nj
  exact kJ t a b g h ha hb hs.1 w hw
end
structure Lbl(g:Gr)(R:Nat->List Int->Prop):Prop where
 fr:∀k j,k<g.ks.length->j∈g.fr k->∀w,R j w->R k w
 lv:∀k j,k<g.ks.length->j<g.ls.length->j+1∈g.lv k->∀m w,cK (nth g.ls j).1 (nth g.ls j).2.1 m=true->R (nth g.ls j).2.2 w->R k (m::w)
theorem Lbl.path{g:Gr}{R:Nat->List Int->Prop}(h:Lbl g R){k q:Nat}{w:List Int}(p:Pt g k w q):∀v,R q v->R k (w++v):=by
 induction p with
 |nil=>exact fun v h=>h
 |eps h1 h2 _ ih=>exact fun v hv=>h.fr _ _ h1 h2 _ (ih v hv)
 |leaf h1 h2 h3 h4 _ ih=>exact fun v hv=>h.lv _ _ h1 h2 h3 _ _ h4 (ih v hv)
theorem Lbl.agree{g:Gr}{R R':Nat->List Int->Prop}(h:Lbl g R)(hw:WF g)(e:∀k,k<g.ks.length->R' k=R k):Lbl g R':=
 ⟨fun k j hk hj w=>by rw[e k hk,e j (hw.fr k j hk hj)];exact h.fr k j hk hj w,fun k j hk hj hl m w=>by rw[e k hk,e _ (hw.ls j hj)];exact h.lv k j hk hj hl m w⟩
theorem Lbl.knot{g:Gr}{R:Nat->List Int->Prop}(h:Lbl g R):Lbl g.knot R:=by
 refine⟨fun k j hk hj w=>?_,fun k j hk hj hl m w=>?_⟩
 ·rw[oq]at hj
  split at hj
  ·rename_i e;exact h.fr k j e hj w
  simp at hj
 rw[oo]at hl
 split at hl
 ·rename_i e;exact h.lv k j e hj hl m w
 simp at hl
theorem Lbl.free{g:Gr}{R:Nat->List Int->Prop}(h:Lbl g R){a b:Nat}(ha:a<g.ks.length)(a0:∀w,R b w->R a w):Lbl (g.free a b) R:=by
 refine⟨fun k j hk hj w=>?_,fun k j hk hj hl m w=>?_⟩
 ·rw[aV]at hk;rw[dL ha]at hj
  split at hj
  ·rename_i e;subst e
   rcases K6.1 hj with hj|hj
   ·exact h.fr k j ha hj w
   rw[IJ.1 hj];exact a0 w
  exact h.fr k j hk hj w
 rw[aV]at hk;rw[oy ha]at hl;exact h.lv k j hk hj hl m w
theorem Lbl.leaf{g:Gr}{R:Nat->List Int->Prop}(h:Lbl g R)(hw:WF g){x c:Int}{a b:Nat}(ha:a<g.ks.length)(a1:∀m w,cK x c m=true->R b w->R a (m::w)):Lbl (g.leaf x c a b) R:=by
 refine⟨fun k j hk hj w=>?_,fun k j hk hj hl m w=>?_⟩
 ·rw[gy]at hk;rw[oe ha]at hj;exact h.fr k j hk hj w
 rw[gy]at hk;rw[lR ha]at hl;rw[jN,JK]at hj;simp only[J2,Lq]at hj;rw[jN,aA]
 by_cases a0:j<g.ls.length
 ·rw[if_pos a0];refine h.lv k j hk a0 ?_ m w
  split at hl
  ·rename_i e;subst e
   rcases K6.1 hl with hl|hl
   ·exact hl
   have:=IJ.1 hl;omega
  exact hl
 rw[if_neg a0,show j-g.ls.length=0 from by omega,ar]
 split at hl
 ·rename_i e;subst e;exact a1 m w
 have:=hw.lv k (j+1) hk hl;omega
def mM(R:Nat->List Int->Prop)(i:Nat)(X:List Int->Prop):Nat->List Int->Prop:=fun k=>if k=i then X else R k
theorem jC(R:Nat->List Int->Prop)(i:Nat)(X:List Int->Prop):mM R i X i=X:=if_pos rfl
theorem du{R:Nat->List Int->Prop}{i k:Nat}{X:List Int->Prop}(h:k≠i):mM R i X k=R k:=if_neg h
def Cat(L M:List Int->Prop):List Int->Prop:=fun w=>∃u v,w=u++v/\L u/\M v
def vE(k:Int)(L:List Int->Prop):List Int->Prop:=if k=8 then fun w=>w=[]else StarP L
def inL(k:Int)(L:List Int->Prop):List Int->Prop:=if k=6 then StarP L else if k=7 then Cat L (StarP L)else fun w=>w=[]\/L w
theorem C4(k:Int)(L:List Int->Prop):vE k L []:=by unfold vE;split;rfl;exact .nil
theorem GU{k:Int}(hk:k=6\/k=7\/k=8){L:List Int->Prop}{u v:List Int}(hu:L u)(hv:vE k L v):inL k L (u++v):=by
 unfold vE at hv;unfold inL
 rcases hk with rfl|rfl|rfl
 ·rw[if_neg zd]at hv;rw[if_pos rfl];exact .cons hu hv
 ·rw[if_neg zd]at hv;rw[if_neg zd,if_pos rfl];exact⟨u,v,rfl,hu,hv⟩
 rw[if_pos rfl]at hv;subst hv;rw[if_neg zd,if_neg zd,K7];exact .inr hu
theorem F6{k:Int}(hk:k=6\/k=7\/k=8)(h7:k≠7){L:List Int->Prop}{v:List Int}(hv:vE k L v):inL k L v:=by
 unfold vE at hv;unfold inL
 rcases hk with rfl|rfl|rfl
 ·rw[if_neg zd]at hv;rw[if_pos rfl];exact hv
 ·exact absurd rfl h7
 rw[if_pos rfl]at hv;rw[if_neg zd,if_neg zd];exact .inl hv
theorem C3{k:Int}(hk:k=6\/k=7\/k=8)(h8:k≠8){L:List Int->Prop}{v:List Int}(hv:inL k L v):vE k L v:=by
 unfold inL at hv;unfold vE;rw[if_neg h8]
 rcases hk with rfl|rfl|rfl
 ·rw[if_pos rfl]at hv;exact hv
 ·rw[if_neg zd,if_pos rfl]at hv;obtain⟨u,v,rfl,hu,hv⟩:=hv;exact .cons hu hv
 exact absurd rfl h8
theorem DR{k c:Int}{l:List Nd}(hk:k=6\/k=7\/k=8):Lg (.mk k c l)=inL k (LgH l):=by
 unfold Lg inL;funext w
 rcases hk with rfl|rfl|rfl
 ·rw[if_neg zd,if_neg zd,if_pos rfl,if_pos rfl]
 ·rw[if_neg zd,if_neg zd,if_neg zd,if_pos rfl,if_neg zd,if_pos rfl];rfl
 rw[if_neg zd,if_neg zd,if_neg zd,if_neg zd,if_pos rfl,if_neg zd,if_neg zd]
theorem Ds{k:Int}{g:Gr}{R:Nat->List Int->Prop}{i:Nat}(h:Lbl g R)(hi:i+1<g.ks.length)(h7:k≠7->∀w,R (i+1) w->R i w)(h8:k≠8->∀w,R i w->R (i+1) w):Lbl (layO k g i) R:=by
 unfold layO
 split
 ·split
  ·exact h
  rename_i q;exact h.free zo (h7 q)
 rename_i q8
 split
 ·exact h.free hi (h8 q8)
 rename_i q;exact(h.free zo (h7 q)).free (by rw[aV];exact hi) (h8 q8)
mutual
theorem iu:∀(t:Nd) (a b:Nat) (g:Gr) (R:Nat->List Int->Prop),WF g->a<g.ks.length->b<g.ks.length->Lbl g R->(∀u v,Lg t u->R b v->R a (u++v))->
  ∃R',(∀k,k<g.ks.length->R' k=R k)/\Lbl (fy t a b g) R'
 |.mk k c l,a,b,g,R,h,ha,hb,hL,hab=>by
  unfold fy
  by_cases h4:k=4
  ·rw[if_pos h4]
   refine qm l a b g R h ha hb hL fun u v hu hv=>hab u v ?_ hv
   unfold Lg;rw[if_pos h4];exact hu
  rw[if_neg h4]
  by_cases h5:k=5
  ·rw[if_pos h5]
   refine qn l a b g R h ha hb hL fun u v hu hv=>hab u v ?_ hv
   unfold Lg;rw[if_neg h4,if_pos h5];exact hu
  rw[if_neg h5]
  by_cases h678:k=6\/k=7\/k=8
  ·rw[if_pos h678]
   have hab':∀u v,inL k (LgH l) u->R b v->R a (u++v):=fun u v hu hv=>hab u v (by rw[DR h678];exact hu) hv
   have hl:=dY g a b
   have hwf:=eR h ha hb
   obtain⟨h1,h2⟩:=lS l g.ks.length (g.ks.length+1) (bF g a b) hwf zo zo
   have hlen:=h2.len
   show∃R',(∀q,q<g.ks.length->R' q=R q)/\Lbl (layO k (nj l g.ks.length (g.ks.length+1) (bF g a b)) g.ks.length) R'
   have hR1:Lbl (bF g a b) (mM (mM R g.ks.length (Cat (inL k (LgH l)) (R b))) (g.ks.length+1) (Cat (vE k (LgH l)) (R b))):=by
    have hk2:g.knot.knot.ks.length=g.ks.length+2:=by rw[aG,aG]
    have hg:=(hL.agree (R':=mM (mM R g.ks.length (Cat (inL k (LgH l)) (R b))) (g.ks.length+1) (Cat (vE k (LgH l)) (R b))) h fun q hq=>by rw[du zo,du zo]).knot.knot
    refine(hg.free zo ?_).free (by rw[aV];omega) ?_
    ·intro w hw
     rw[du zo,jC]at hw
     rw[du zo,du zo]
     obtain⟨u,v,rfl,hu,hv⟩:=hw
     exact hab' u v hu hv
    intro w hw
    rw[du zo,du zo]at hw
    rw[jC]
    exact⟨[],w,rfl,C4 _ _,hw⟩
   have hi1:(mM (mM R g.ks.length (Cat (inL k (LgH l)) (R b))) (g.ks.length+1) (Cat (vE k (LgH l)) (R b))) g.ks.length=Cat (inL k (LgH l)) (R b):=by rw[du zo,jC]
   have ho1:(mM (mM R g.ks.length (Cat (inL k (LgH l)) (R b))) (g.ks.length+1) (Cat (vE k (LgH l)) (R b))) (g.ks.length+1)=Cat (vE k (LgH l)) (R b):=jC _ _ _
   have hold:∀q,q<g.ks.length->(mM (mM R g.ks.length (Cat (inL k (LgH l)) (R b))) (g.ks.length+1) (Cat (vE k (LgH l)) (R b))) q=R q:=fun q hq=>by rw[du zo,du zo]
   generalize mM (mM R g.ks.length (Cat (inL k (LgH l)) (R b))) (g.ks.length+1) (Cat (vE k (LgH l)) (R b))=R1 at *
   obtain⟨R2,e2,hR2⟩:=zz l g.ks.length (g.ks.length+1) (bF g a b) R1 hwf zo zo hR1 (fun u v hu hv=>by
    rw[ho1]at hv
    rw[hi1]
    obtain⟨v1,v2,rfl,hv1,hv2⟩:=hv
    exact⟨u++v1,v2,by rw[Kh],GU h678 hu hv1,hv2⟩)
   refine⟨R2,fun q hq=>by rw[e2 q zo,hold q hq],Ds hR2 zo ?_ ?_⟩
   ·intro h7 w
    rw[e2 _ zo,e2 _ zo,hi1,ho1]
    rintro⟨u,v,rfl,hu,hv⟩
    exact⟨u,v,rfl,F6 h678 h7 hu,hv⟩
   intro h8 w
   rw[e2 _ zo,e2 _ zo,hi1,ho1]
   rintro⟨u,v,rfl,hu,hv⟩
   exact⟨u,v,rfl,C3 h678 h8 hu,hv⟩
  rw[if_neg h678]
  have hg:Lg (.mk k c l)=fun w=>if k=9 then w=[]else∃m,w=[m]/\cK k c m=true:=by
   unfold Lg;funext w;rw[if_neg h4,if_neg h5,if_neg zo,if_neg zo,if_neg zo]
  rw[hg]at hab
  by_cases h9:k=9
  ·rw[if_pos h9]
   exact⟨R,fun _ _=>rfl,hL.free ha fun w hw=>hab [] w (by show(if k=9 then _ else _);rw[if_pos h9]) hw⟩
  rw[if_neg h9]
  exact⟨R,fun _ _=>rfl,hL.leaf h ha fun m w hm hw=>hab [m] w (by show(if k=9 then _ else _);rw[if_neg h9];exact⟨m,rfl,hm⟩) hw⟩
theorem qm:∀(l:List Nd) (a b:Nat) (g:Gr) (R:Nat->List Int->Prop),WF g->a<g.ks.length->b<g.ks.length->Lbl g R->(∀u v,LgS l u->R b v->R a (u++v))->
  ∃R',(∀k,k<g.ks.length->R' k=R k)/\Lbl (nh l a b g) R'
 |[],_,_,_,R,_,_,_,hL,_=>⟨R,fun _ _=>rfl,hL⟩
 |t::r,a,b,g,R,h,ha,hb,hL,hab=>by
  unfold LgS at hab
  unfold nh
  split
  ·rename_i hr
   obtain rfl:r=[]:=by simpa using hr
   exact iu t a b g R h ha hb hL fun u v hu hv=>hab u v ⟨u,[],by simp,hu,by unfold LgS;rfl⟩ hv
  have hl:=aG g
  have hold:∀q,q<g.ks.length->mM R g.ks.length (Cat (LgS r) (R b)) q=R q:=fun q hq=>du zo
  have hmid:=jC R g.ks.length (Cat (LgS r) (R b))
  have hR1:=(hL.agree h hold).knot
  generalize mM R g.ks.length (Cat (LgS r) (R b))=R1 at *
  obtain⟨R2,e2,hR2⟩:=iu t a g.ks.length g.knot R1 h.knot zo zo hR1 (fun u v hu hv=>by
   rw[hmid]at hv
   rw[hold a ha]
   obtain⟨v1,v2,rfl,hv1,hv2⟩:=hv
   rw[<-Kh]
   exact hab (u++v1) v2 ⟨u,v1,rfl,hu,hv1⟩ hv2)
  obtain⟨h1,h2⟩:=ct t a g.ks.length g.knot h.knot zo zo
  have hlen:=h2.len
  obtain⟨R3,e3,hR3⟩:=qm r g.ks.length b _ R2 h1 zo zo hR2 (fun u v hu hv=>by
   rw[e2 b zo,hold b hb]at hv
   rw[e2 _ zo,hmid]
   exact⟨u,v,rfl,hu,hv⟩)
  exact⟨R3,fun q hq=>by rw[e3 q zo,e2 q zo,hold q hq],hR3⟩
theorem qn:∀(l:List Nd) (a b:Nat) (g:Gr) (R:Nat->List Int->Prop),WF g->a<g.ks.length->b<g.ks.length->Lbl g R->(∀u v,LgA l u->R b v->R a (u++v))->
  ∃R',(∀k,k<g.ks.length->R' k=R k)/\Lbl (nn l a b g) R'
 |[],_,_,_,R,_,_,_,hL,_=>⟨R,fun _ _=>rfl,hL⟩
 |t::r,a,b,g,R,h,ha,hb,hL,hab=>by
  unfold LgA at hab
  unfold nn
  obtain⟨R2,e2,hR2⟩:=iu t a b g R h ha hb hL fun u v hu hv=>hab u v (.inl hu) hv
  obtain⟨h1,h2⟩:=ct t a b g h ha hb
  have hlen:=h2.len
  obtain⟨R3,e3,hR3⟩:=qn r a b _ R2 h1 zo zo hR2 fun u v hu hv=>by
   rw[e2 b hb]at hv
   rw[e2 a ha]
   exact hab u v (.inr hu) hv
  exact⟨R3,fun q hq=>by rw[e3 q zo,e2 q hq],hR3⟩
theorem zz:∀(l:List Nd) (a b:Nat) (g:Gr) (R:Nat->List Int->Prop),WF g->a<g.ks.length->b<g.ks.length->Lbl g R->(∀u v,LgH l u->R b v->R a (u++v))->
  ∃R',(∀k,k<g.ks.length->R' k=R k)/\Lbl (nj l a b g) R'
 |[],_,_,_,R,_,_,_,hL,_=>⟨R,fun _ _=>rfl,hL⟩
 |t::_,a,b,g,R,h,ha,hb,hL,hab=>by
  unfold LgH at hab
  unfold nj
  exact iu t a b g R h ha hb hL hab
end
theorem rQ(g:Gr)(k:Nat):g.knot.en k=if k<g.ks.length then g.en k else 0:=by unfold Gr.en;rw[rP];split<;>rfl
theorem xd{g:Gr}{a b:Nat}(ha:a<g.ks.length)(k:Nat):(g.free a b).en k=g.en k:=by
 unfold Gr.free Gr.en;rw[aT ha];split
 ·rename_i h;rw[h]
 rfl
theorem Bq{g:Gr}{x c:Int}{a b:Nat}(ha:a<g.ks.length)(k:Nat):(g.leaf x c a b).en k=g.en k:=by
 unfold Gr.leaf Gr.en;rw[aT ha];split
 ·rename_i h;rw[h]
 rfl
def SameEn(g g':Gr):Prop:=∀k,g'.en k=if k<g.ks.length then g.en k else 0
theorem G1{g:Gr}{k:Nat}(h:g.ks.length<=k):g.en k=0:=by unfold Gr.en;rw[eS h];rfl
theorem SameEn.refl(g:Gr):SameEn g g:=fun k=>by
 split
 ·rfl
 exact G1 zo
theorem SameEn.trans{a b c:Gr}(h:SameEn a b)(k:SameEn b c)(hl:a.ks.length<=b.ks.length):SameEn a c:=fun q=>by
 rw[k q]
 by_cases h1:q<a.ks.length
 ·rw[if_pos h1,if_pos zo,h q,if_pos h1]
 rw[if_neg h1]
 split
 ·rw[h q,if_neg h1]
 rfl
theorem om(g:Gr):SameEn g g.knot:=rQ g
theorem eU{g:Gr}{a b:Nat}(ha:a<g.ks.length):SameEn g (g.free a b):=fun k=>by
 rw[xd ha];exact SameEn.refl g k
theorem Bp{g:Gr}{x c:Int}{a b:Nat}(ha:a<g.ks.length):SameEn g (g.leaf x c a b):=fun k=>by
 rw[Bq ha];exact SameEn.refl g k
theorem Bu{k:Int}{g:Gr}{i:Nat}(hi:i+1<g.ks.length):SameEn g (layO k g i):=by
 unfold layO;split<;>split
 ·exact SameEn.refl _
 ·exact eU zo
 ·exact eU hi
 exact(eU zo).trans (eU (by rw[aV];exact hi)) (by rw[aV];omega)
theorem vF{g:Gr}{a b:Nat}(ha:a<g.ks.length):SameEn g (bF g a b):=by
 have h2:g.knot.knot.ks.length=g.ks.length+2:=by rw[aG,aG]
 unfold bF;exact(((om g).trans (om _) (by rw[aG];omega)).trans (eU zo) zo).trans (eU (by rw[aV];omega)) (by rw[aV];omega)
mutual
theorem iw:∀(t:Nd) (a b:Nat) (g:Gr),WF g->a<g.ks.length->b<g.ks.length->SameEn g (fy t a b g)
 |.mk k c l,a,b,g,h,ha,hb=>by
  unfold fy
  split
  ·exact tX l a b g h ha hb
  split
  ·exact tZ l a b g h ha hb
  split
  ·have hl:=dY g a b
   have hwf:=eR h ha hb
   obtain⟨h1,h2⟩:=lS l g.ks.length (g.ks.length+1) (bF g a b) hwf zo zo
   have:=h2.len
   exact((vF ha).trans (Bv l _ _ _ hwf zo zo) zo).trans (Bu zo) (by show g.ks.length<=(nj l g.ks.length (g.ks.length+1) (bF g a b)).ks.length;omega)
  split
  ·exact eU ha
  exact Bp ha
theorem tX:∀(l:List Nd) (a b:Nat) (g:Gr),WF g->a<g.ks.length->b<g.ks.length->SameEn g (nh l a b g)
 |[],_,_,g,_,_,_=>SameEn.refl g
 |t::r,a,b,g,h,ha,hb=>by
  unfold nh
  split
  ·exact iw t a b g h ha hb
  have hl:=aG g
  obtain⟨h1,h2⟩:=ct t a g.ks.length g.knot h.knot zo zo
  have:=h2.len
  exact((om g).trans (iw t _ _ _ h.knot zo zo) zo).trans (tX r _ _ _ h1 zo zo) zo
theorem tZ:∀(l:List Nd) (a b:Nat) (g:Gr),WF g->a<g.ks.length->b<g.ks.length->SameEn g (nn l a b g)
 |[],_,_,g,_,_,_=>SameEn.refl g
 |t::r,a,b,g,h,ha,hb=>by
  unfold nn
  obtain⟨h1,h2⟩:=ct t a b g h ha hb
  have:=h2.len
  exact(iw t a b g h ha hb).trans (tZ r _ _ _ h1 zo zo) zo
theorem Bv:∀(l:List Nd) (a b:Nat) (g:Gr),WF g->a<g.ks.length->b<g.ks.length->SameEn g (nj l a b g)
 |[],_,_,g,_,_,_=>SameEn.refl g
 |t::_,a,b,g,h,ha,hb=>by
  unfold nj
  exact iw t a b g h ha hb
end
end Go.Proofs.YtlehnbkknlpkbaaGreatDoor
