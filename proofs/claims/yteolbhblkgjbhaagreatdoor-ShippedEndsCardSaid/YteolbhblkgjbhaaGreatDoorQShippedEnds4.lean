/- Texts that the proof of this statement needs, merged and shortened. -/
import Derived.Test.YteolbhblkgjbhaaGreatDoorQShippedEnds3
open Go renaming Value->ix,World->ln,TypeId->IV,FuncId->L3,Program->Lt,Operand->M0,Oper->M1
open Go.Proofs.Tryz renaming underlying22->I0,underlying9->I3,prog->IM,sizeOf3->IP,underlying291->J0,sizeOf120->J2,zeroValue3->Ja,sizeOf26->Jd,sizeOf170->Jg,zeroValue225->Jq,underlying285->Jw,zeroValue26->JA,isAgg170->JN,isAgg120->JO,sizeOf54->JQ,sizeOf122->JV,zeroValue122->K8,zeroValue120->K9,isAgg26->Ka,underlying5->Km,underlying130->KM,sizeOf328->KR,sizeOf225->KS,zeroValue170->KV,call139->KW,underlying3->L7,sizeOf22->L8,isAgg122->L9,call109->Lq,underlying328->LG,underlying293->LH,underlying273->LJ,underlying218->LK,zeroValue328->LQ,underlying54->LU,underlying27->LV,underlying21->LW,call189->LX,call134->LY,call118->LZ,underlying4->M7,call84->M9
open Go.VL.Ret renaming enter->I1
open List renaming replicate->I2,mem_singleton->I5,findIdx?_eq_some_iff_getElem->I7,foldl_cons->I8,all_cons->IH,range->IJ,take_length->IR,length_cons->IS,findIdx?_eq_none_iff->IW,foldl_append->IY,all_eq_true->IZ,mem_append->J3,mem_map->J5,all_nil->J6,map_append->J9,mem_cons->Je,getElem?_eq_getElem->Jf,length_append->Ji,findIdx?_cons->Jj,mem_append_right->Jo,length_singleton->Jp,map_cons->Jr,eq_nil_of_length_eq_zero->Js,nil_append->Jt,mem_range->JF,dropWhile_cons_of_neg->JG,pairwise_iff_getElem->JJ,drop_eq_getElem_cons->JK,eq_of_mem_replicate->JM,range_succ->JP,findIdx?->JT,map_map->JW,flatMap_cons->JX,any_eq_false->JY,takeWhile_append_dropWhile->K0,suffix_cons->K2,cons_append->K4,length_map->K6,takeWhile_cons_of_neg->Kd,foldl_nil->Ke,dropWhile_cons_of_pos->Kf,getElem_append_right->Kk,getElem_append_left->Kp,find?_range_eq_some->Kq,take_of_length_le->Kw,map_nil->Kx,take_append_drop->KD,dropWhile_suffix->KE,mem_cons_of_mem->KI,mem_append_left->KJ,findIdx?_append->KK,getElem_of_mem->KP,flatMap_append->KQ,mem_cons_self->KT,countP_append->KU,nodup_append->L0,length_range->L1,getElem_take->L2,length_take->L5,getElem_map->L6,nodup_cons->Le,length_set->Lh,append_nil->Li,take_take->Lk,take_drop->Ll
open Nat renaming zero_le->I4,not_lt_zero->IE,lt_succ_iff_lt_or_eq->II,le_refl->IL,sub_self->JB,mod_lt->KZ,min_eq_left->Lj,le_of_eq->Lu,blt->Lv,add_comm->Lw,le_succ->LD
open Go.Value renaming oneCell'->I6,bool->J4,string->Lo,slice->Lr,agg->LA
open Bool renaming and_eq_true->I9,not_eq_true'->JL,or_eq_true->K7,false_and->Lm,true_and->Lp,not_or->Ly
open Go.VL.Upd renaming setRow->IF,set->J1,trans->JD,refl->JH,ofDrew->Ki,drew->KN,alloc->Lb,putObj->LF
open Go.VL.WH renaming one->IG,done->Jc,leaf->Lz
open UInt8 renaming ofNat->IK
open Go.VL.BlkO renaming upd->IN,drew->JC,setRow->KL,tag->Ln
open Go.VL renaming Upd->IQ,BlkO->J7,Ext->Ju,Ret->JE,RowT->JS,Rng->K1,Ints->Kb,Free->Kl,NewV->KY,MapO->Ld,Elem->M6
open Option.some renaming inj->IT
open Go.VL.RowT renaming nil->IU,drew->Kv
open Go.VL.Ext renaming refl->IX,alloc->Kz
open Go.VL.RV renaming indexAddr->J8,len->Jy,add->Jz,lookup->JI,build->Ls
open Go.VL.Fit renaming i64->Jb
open Go.Utf8 renaming valid->Jh,decode->JR,encode->KG
open Go.VL.WL renaming push->Jk,storeAt->Ko,mapUpdate->KF,val->LL
open Go.VL.WS renaming nil->Jl,go->La,call->Ma
open Go.VL.WC renaming still->Jm,tail->Kh
open Go.World renaming drew->Jn,setRow->Kr,putObj_heap_same->Ku,cell?_alloc_at->KB
open Classical renaming byContradiction->Jv
open Go.Result renaming andThen_ok->JU
open Go.Sem renaming run_bind->JZ,run->L4
open Go.VL.Sl renaming ext->K5,one->KH,upd->LN
open Go.Instr renaming next->Kc
open Go.VL.Free renaming upd->Kg
open Go.RowKit.Below renaming refl->Kj,trans->LB
open Int renaming eq_ofNat_of_zero_le->Ky
open Decidable renaming not_not->KA
open Go.VL.Rng renaming upd->KC,drew->KO
open Go.Proofs.YteolbhblkgjbhaaGreatDoor renaming RightD->KX,RowsN->Lc,KVR->M5
open Go.Exit renaming noGoto->Lx
open Go.Proofs.YteolbhblkgjbhaaGreatDoor.Nt renaming leaf->LC
open List.Nodup renaming sublist->LO
open Go.Addr renaming add->LP
open List.cons renaming injEq->M4
open Function renaming comp_apply->M8
open Prod.mk renaming inj->Mb
open Go.Builtin renaming len_->Mc
set_option maxRecDepth 10000
open Go.VL Go.Proofs Go.Proofs.Tryz
namespace Go.Proofs.YteolbhblkgjbhaaGreatDoor
theorem Fc{E:List M5}(h:(E.map (·.1)).Nodup){j:Nat}(hj:j<E.length):iz E (nth E j).1=some j:=by
 rw[<-dQ];refine I7.2 ⟨by simpa using hj,by simp[aC hj],fun i hi=>?_⟩;have:=JJ.1 h i j (by simp;omega) (by simpa using hj) hi;simp only[L6]at this ⊢;rw[aC hj];simpa using this
theorem DG{E:List M5}(h:(E.map (·.1)).Nodup){j:Nat}(hj:j<E.length):dh E (nth E j).1=(nth E j).2.2/\BG E (nth E j).1=(nth E j).2.1:=by
 unfold dh BG;rw[ky,Fc h hj];simp only[Option.bind_some,Jf hj,Option.map_some,Option.getD_some,aC hj,and_self]
structure BlI(w0:ln)(nv tv:ix)(rows:List (List Nat))(tls:List Nat)(sb:Nat)(fv bv:ix)(sr tr tb b0 m0:Nat)(O:Nat->Nat)(W:ln)(bl:List Nat)(E:List M5)(td:List ((Int×Int)×Bool))(many:Nat):Prop where
 upd:IQ (fun q=>1<=q) (fun _=>0) w0 O W
 rng:K1 w0.heap.size O W
 sp:SpO O W sb nv tv fv bv sr tr rows.length (nxD rows) bl E td many
 tb:J7 O W 8 tb #[nI (b0:Nat),nI (m0:Nat)] 328
 low:∀q,O q<2000
def BlT(rows:List (List Nat))(a0:List Nat)(b0 m0:Nat)(fl:Bool)(bl:List Nat)(E:List M5)(td:List ((Int×Int)×Bool))(many:Nat):Prop:=
 (fl=true->∃td0,BO (nxD rows) (nth a0) rows.length bl E td0 many/\td=oE td0 ((b0:Int),(m0:Int))/\b0<many/\m0<37)/\(fl=false->BO (nxD rows) (nth a0) rows.length bl E [] many)
structure BiI(w0:ln)(nv tv:ix)(rows:List (List Nat))(tls:List Nat)(sb:Nat)(fv bv:ix)(sr tr tb b0 m0 r q many0 M:Nat)(bl0:List Nat)(G:List M5)(O:Nat->Nat)(W:ln)(left:List (Int×ix))(cur:Option (Int×ix))(bl:List Nat)(E:List M5)(td:List ((Int×Int)×Bool))(many:Nat):Prop where
 upd:IQ (fun q=>1<=q) (fun _=>0) w0 O W
 rng:K1 w0.heap.size O W
 sp:SpO O W sb nv tv fv bv sr tr rows.length (nxD rows) bl E td many
 tb:J7 O W 8 tb #[nI (b0:Nat),nI (m0:Nat)] 328
 rg:RangeO (fun k:Int=>nI k) (fun v:ix=>v) O W 2000 2001 r q left cur
 gr:∀k,k<G.length->(nth G k).1∈left.map (·.1)->JS aR 3 1 O W (3000+k) (nth G k).2.1 (nth G k).2.2
 bi:BI (nxD rows) (nth tls) rows.length bl0 m0 b0 many0 left bl E td many
 ms:(rows.length-many)*37+td.length<=M
 sub:∀e∈left,e∈G.map sH
theorem BF{rows:List (List Nat)}{a0:List Nat}{bl:List Nat}{E:List M5}{td:List ((Int×Int)×Bool)}{many:Nat}(h:BO (nxD rows) (nth a0) rows.length bl E td many){a2 a1:List ((Int×Int)×Bool)}{k:Int×Int}{x:Bool}(e:td=a2++(k,x)::a1):
  ∃b0 m0:Nat,k=((b0:Int),(m0:Int))/\BlT rows a0 b0 m0 true bl E (oE td k) many/\(oE td k).length+1=td.length:=by
 have hm:(k,x)∈td:=by rw[e];simp
 obtain⟨c,j,h1,h2,h3⟩:=h.tdr _ hm;dsimp only at h3;exact⟨c,j,h3,⟨fun _=>⟨td,h,by rw[h3],h1,h2⟩,fun e=>absurd e zd⟩,xy k x td hm⟩
theorem RightD.nx{rows:List (List Nat)}{a0:List Nat}(h:KX rows a0):∀p m,p<rows.length->m<37->nxD rows p m<rows.length:=fun p m hp hm=>(h.row p hp).2 m hm
theorem SpO.todoN{S:Nat->Prop}{O O':Nat->Nat}{w w':ln}{sb:Nat}{nv tv fv bv:ix}{sr tr n:Nat}{nx:Nat->Nat->Nat}{bl:List Nat}{E:List M5}{td a0:List ((Int×Int)×Bool)}{many:Nat}(h:SpO O w sb nv tv fv bv sr tr n nx bl E td many) 
  (u:IQ S O w O' w') (hS:∀k,0<k->k<10+E.length->k≠4->k≠8->k≠9->¬S k) (ht:Ld dP J4 O' w' 4 tr a0):SpO O' w' sb nv tv fv bv sr tr n nx bl E a0 many:=
 ⟨h.blk.upd u zd (hS 1 zo zo zo zo zo),h.row.upd u zd (hS 2 zo zo zo zo zo),⟨h.st.map.upd u zd (hS 3 zo zo zo zo zo),fun k hk=>(h.st.row k hk).upd u zo (hS _ zo zo zo zo zo)⟩,ht,h.frm.upd u zd (hS 5 zo zo zo zo zo)⟩
theorem SpO.reN{O:Nat->Nat}{w:ln}{sb:Nat}{nv tv fv bv:ix}{sr tr n:Nat}{nx:Nat->Nat->Nat}{bl:List Nat}{E:List M5}{td:List ((Int×Int)×Bool)}{many:Nat}(h:SpO O w sb nv tv fv bv sr tr n nx bl E td many) 
  (f:Nat->Nat) (hf:∀t,t<10+E.length->t≠8->t≠9->f t=t):SpO (reF f O) w sb nv tv fv bv sr tr n nx bl E td many:=
 ⟨h.blk.re f (hf 1 zo zo zo),h.row.re f (hf 2 zo zo zo),⟨h.st.map.re f (hf 3 zo zo zo),fun k hk=>(h.st.row k hk).re f (hf _ zo zo zo)⟩,h.todo.re f (hf 4 zo zo zo),h.frm.re f (hf 5 zo zo zo)⟩
def nxF:Nat->Nat:=fun t=>if t=9 then 8 else if t=8 then 0 else if t<2000 then t else 0
theorem FW{t:Nat}(h:t<2000)(h8:t≠8)(h9:t≠9):nxF t=t:=by unfold nxF;rw[if_neg h9,if_neg h8,if_pos h]
theorem FV(t:Nat):nxF t<2000:=by unfold nxF;split;omega;split;omega;split<;>omega
theorem sC(nv tv:ix)(rows:List (List Nat))(b5:List Nat)(w:ln)(hn:Lc w nv rows)(m4:Sl iw 1 w tv b5)(hr:KX rows b5):
  JE IM 185 [.agg #[nv,tv]] w fun v w'=>
   ∃bl,Sl aR 1 w' v bl/\Ju w w'/\bl.length=rows.length/\(∀p q,p<rows.length->q<rows.length->(nth bl p=nth bl q↔Alike (nxD rows) (nth b5) p q))/\∀(B:Nat) (O:Nat->Nat),K1 B O w->Kl O w' v:=by
 have t9:=hr.le;have o6:=hr.pos;have e6:=hr.tl;have d9:=hr.nx;have o7:=hn.free;have g2:Kl (fun _=>0) w tv:=m4.free0 fun a=>by simp
 obtain⟨vs,i6,i7,t5,o1⟩:=o7;refine I1 func185 ntmps185 rfl rfl ?_;refine zg ?_;refine aH (ay w) 7 zo rfl rfl ?_;intro db w1 O1 i1 n3 s2 u5;have c0:w1.cell? (nA db 0)=some nv:=i1.cell 0 rfl;have i5:=i6.upd i7 n3;refine zg ?_;refine aK (fun W=>∀j u,[nv,tv][j]? = some u->W.cell? (nA db j)=some u) 10 rfl zk ?_;refine zin i1.drew.cellsAdd fun zS=>?_
 refine zt 0 rfl zS (fun w1 i4=>ah (us:=[nv,tv]) i4 (JN _) (Jg _) rfl) ?_;refine zrf 1 rfl zS rfl ?_
 refine zt 2 rfl zS (fun w1 i4=>RV.ld (i4 0 _ rfl) rfl) ?_;refine zr 3 rfl zS (fun _=>bj i5.sh KM rfl) ?_
 refine yL 4 5 6 ke (val:=fun n:Nat=>nI (n:Int)) (0:Nat) zk (fun _=>rfl) (fun k:Int=>nI k) (fun v:ix=>v) dP J4 s2.drew 2 3 4 zd zd zd zd zd zd rows.length rfl rfl rfl zk zk zk zk zk zk zk zk zk zk zk zk (fun O' W u=>(i1.drew.upd u zd zd).cellsAdd) (fun l=>⟨rfl,rfl,rfl,fun _=>rfl,fun _=>rfl⟩) zo zo zo rfl rfl rfl rfl rfl rfl ?_;intro bv sr tr w4 O4 c5 j7 j1 n2 s1;have d3:=i1.drew.upd n2 zd zd;obtain⟨ba,bc,p8,_⟩:=c5.sl.shape;refine zr 7 rfl (d3.cellsAdd) (fun _=>Ls (cells:=#[nv,tv,nS,bv,.map (some sr),.map (some tr),nI 0]) GE (zeroValue327 _) rfl (by rw[p8];rfl)) ?_
 refine IG 8 zk rfl ?_;refine aH s1 1 zd rfl rfl ?_
 intro sb w5 O5 q' d' s0 u4;refine zg ?_;refine af ((d3.upd d' zd zd).cellsAdd) ?_;have f9:=c5.upd d' zd zd;have j6:=j7.upd d' zd zd;have j0:=j1.upd d' zd zd;have l5:IQ (fun q=>1<=q) (fun _=>0) w O5 w5:=((n3.mono (fun _ h=>by omega) zd).trans (Ki (n2.mono (fun _ h=>by omega) zd))).trans (d'.mono (fun _ h=>by omega) zd);obtain⟨f,hf⟩:∃f:Nat->Nat,f=fun t=>if t<=7 then t else 0:=⟨_,rfl⟩
 have f7:∀t,t<=7->f t=t:=fun t ht=>by rw[hf];exact if_pos ht
 have s6:∀t,f t<=7:=fun t=>by rw[hf];dsimp only;split<;>omega
 have l2:=l5.re f (f7 0 zd) (fun b hb=>absurd rfl hb);refine zra 9 rfl ((d3.upd d' zd zd).cellsAdd) rfl ?_;refine Jc zk ?_;refine zg ?_;refine zc call234 (uD w.heap.size (reF f O5) w5 sb nv tv bv sr tr b5 (s0.re f (f7 0 zd)) (q'.re f (f7 1 zd)) (by rw[e6];exact f9.re f (f7 2 zd)) ⟨j6.re f (f7 3 zd),fun k hk=>absurd hk (IE k)⟩ (j0.re f (f7 4 zd)) (m4.upd g2 l2) (g2.upd l2) zo (fun q=>by have:=s6 (O5 q);show f (O5 q)<2000;omega)) ?_;rintro _ w6 ⟨O6,D,bl,E,many,td,r7,r',p',f8,e',i',hF,hI⟩;have m8:=hF.mi;obtain⟨g,hg⟩:∃g:Nat->Nat,g=fun t=>if t<=4\/10<=t/\t<2000 then t else 0:=⟨_,rfl⟩
 have g1:∀t,(t<=4\/10<=t/\t<2000)->g t=t:=fun t ht=>by rw[hg];exact if_pos ht
 have n8:∀t,g t<2000/\g t≠6/\g t≠5:=fun t=>by rw[hg];dsimp only;split<;>omega
 have g9:=(l2.trans (r7.mono (fun _ h=>by omega) zd)).re g (g1 0 zd) (fun b hb=>absurd rfl hb);have m6:RowsF (reF g O6) w6 nv rows:=hn.free.upd g9;refine zg ?_;refine zc call235 (sx w.heap.size (reF g O6) w6 sb nv tv bv sr tr many rows b5 (r'.re g (g1 0 zd)) (p'.re g (g1 1 zd)) m6 hr (fun q=>(n8 _).1) (fun q=>(n8 _).2.1)) ?_;rintro _ w7 ⟨O7,fv,g5,r9,p9,k9⟩;obtain⟨f3,m'⟩:∃f:Nat->Nat,f=fun t=>if t<2000 then t else 0:=⟨_,rfl⟩
 have b4:∀t,t<2000->f3 t=t:=fun t ht=>by rw[m'];exact if_pos ht
 have f3lt:∀t,f3 t<2000:=fun t=>by rw[m'];dsimp only;split<;>omega
 have l4:=(g9.trans (g5.mono (fun _ h=>by omega) zd)).re f3 (b4 0 zd) (fun b hb=>absurd rfl hb);have u2:=hF.keys.len;have b8:SpO (reF f3 O7) w7 sb nv tv fv bv sr tr rows.length (nxD rows) bl E td many:=⟨p9.re f3 (b4 1 zd),((f8.re g (g1 2 zd)).upd g5 zd zd).re f3 (b4 2 zd),⟨((e'.map.re g (g1 3 zd)).upd g5 zd zd).re f3 (b4 3 zd),fun k hk=>(((e'.row k hk).re g (g1 _ zo)).upd g5 zo zo).re f3 (b4 _ zo)⟩,((i'.re g (g1 4 zd)).upd g5 zd zd).re f3 (b4 4 zd),k9.re f3 (b4 5 zd)⟩
 rw[e6]at hF;have h6:BO (nxD rows) (nth b5) rows.length bl E td many:=hF.bo hI d9;have g':=r9.re f3 (b4 0 zd);have t':∀q,reF f3 O7 q<2000:=fun q=>f3lt _
 generalize reF f3 O7=O8 at *;refine zg ?_;refine zc call236 (oV w.heap.size O8 w7 sb tr td g' (.inr ⟨b8.blk.tag,b8.blk.cell 5 rfl⟩) b8.todo) ?_;intro vn w8 j8;have hq:∃b0 m0 fl b',vn=.tuple #[dP ((b0:Nat),(m0:Nat)),.bool fl]/\IQ (fun q=>q=4) O8 w7 O8 w8/\Ld dP J4 O8 w8 4 tr b'/\BlT rows b5 b0 m0 fl bl E b' many:=by
  rcases j8 with⟨h0,rfl,h1,h2⟩|⟨d8,k,x,d7,e,rfl,h1,h2⟩
  ·rw[h0]at h2 h6;exact⟨0,0,false,[],rfl,h1,h2,⟨fun e=>absurd e zd,fun _=>h6⟩⟩
  obtain⟨b0,m0,rfl,h3,_⟩:=BF h6 e;exact⟨b0,m0,true,_,rfl,h1,h2,h3⟩
 obtain⟨b0,m0,fl,b',rfl,n1,i9,s5⟩:=hq;refine zg ?_;refine au (g'.upd n1) 8 zo (LQ _) rfl ?_;intro tb w9 O9 d0 n0 r8 u3;refine zsa (us:=#[nI (b0:Nat),nI (m0:Nat)]) d0 (KR _) ?_;have e9:=d0.setRow (us:=#[nI (b0:Nat),nI (m0:Nat)]);have d5:IQ (fun k=>k=8) O9 w9 O9 (w9.setRow tb #[nI (b0:Nat),nI (m0:Nat)]):=IF zd d0.tag rfl;generalize w9.setRow tb #[nI (b0:Nat),nI (m0:Nat)]=w10 at *;have c7:IQ (fun q=>q=4\/q=8) O8 w7 O9 w10:=((n1.mono (fun _ h=>.inl h) zd).trans (n0.mono (fun _ h=>.inr h) zd)).trans (d5.mono (fun _ h=>.inr h) zd);have f6:=b8.todoN c7 zo ((i9.upd n0 zd zd).upd d5 zd zd);have n7:=h6.keys.len;have t8:=h6.blk.many_le;have f3i:∀t,t<10+E.length->t≠8->t≠9->f3 t=t:=fun t h _ _=>b4 t zo
 clear m6 hF hI;refine zg ?_;refine zlp (fun z:(Nat->Nat)×World×List Nat×List M5×List ((Int×Int)×Bool)×Nat×Nat×Nat×Nat×Bool=>[(3,nP sb),(4,.pointer (some ⟨z.2.2.2.2.2.2.1,0,none⟩)),(5,.bool z.2.2.2.2.2.2.2.2.2)]) (fun z=>z.2.1) (fun z=>BlI w nv tv rows b5 sb fv bv sr tr z.2.2.2.2.2.2.1 z.2.2.2.2.2.2.2.1 z.2.2.2.2.2.2.2.2.1 z.1 z.2.1 z.2.2.1 z.2.2.2.1 z.2.2.2.2.1 z.2.2.2.2.2.1/\BlT rows b5 z.2.2.2.2.2.2.2.1 z.2.2.2.2.2.2.2.2.1 z.2.2.2.2.2.2.2.2.2 z.2.2.1 z.2.2.2.1 z.2.2.2.2.1 z.2.2.2.2.2.1) (fun z=>(rows.length-z.2.2.2.2.2.1)*37+z.2.2.2.2.1.length+z.2.2.2.2.2.2.2.2.2.toNat) (reF f3 O9,w10,bl,E,b',many,tb,b0,m0,fl) (⟨⟨(l4.trans (c7.mono (fun _ h=>by omega) zd)).re f3 (b4 0 zd) (fun b hb=>absurd rfl hb),(r8.upd d5).re f3 (b4 0 zd),f6.reN f3 f3i,e9.re f3 (b4 8 zd),fun q=>f3lt _⟩,s5⟩) ?_;rintro⟨O11,e4,e2,E1,i3,a9,h7,b1,m1,s8⟩ ⟨hI,hT⟩;dsimp only at hI hT ⊢;refine zg ?_
 cases s8 with
 |false=>
  have g3:=hT.2 rfl;have cb:e4.cell? (nA sb 3)=some bv:=hI.sp.blk.cell 3 rfl;refine zFG rfl rfl ?_;refine zvG (RV.ld cb rfl) ?_;refine ae rfl rfl (⟨e2,hI.sp.row.sl,hI.upd.ext,g3.blk.len,fun p q hp hq=>g3.final d9 p q hp hq,fun B O hO=>hI.sp.row.free zd hI.rng hO⟩)
 |true=>
  obtain⟨t2,a5,j2,l1,g0⟩:=hT.1 rfl;have p4:=a5.keys;have p2:=p4.len;have o':=a5.blk.many_le;have b7:=a5.blk.mem b1 l1;have s':e4.cell? ⟨h7,0,none⟩=some (nI (b1:Nat)):=hI.tb.cell 0 rfl;have s9:e4.cell? ⟨h7,1,none⟩=some (nI (m1:Nat)):=hI.tb.cell 1 rfl;refine zTG rfl rfl ?_;refine zv (eY LG (IP _) rfl rfl 0 rfl zd) ?_;refine zv (RV.ld s' rfl) ?_;refine zv (eY LG (IP _) rfl rfl 1 rfl zd) ?_;refine zv (RV.ld s9 rfl) ?_;refine zc call237 (uC w.heap.size O11 e4 sb nv tv fv bv sr tr rows.length (nxD rows) e2 E1 i3 a9 b1 m1 hI.rng hI.sp zo g0 (fun x hx=>((b7 x).1 hx).1) zo a5.blk.len (a5.blk.nd b1 l1) hI.low) ?_;rintro _ t1 ⟨r,O12,G,rfl,l3,l8,hG,hL⟩;refine nM hG.map LJ l8 2001 zd zd rfl rfl ?_;intro q m2 O13 o5 p0 g8 l7;have a8:IQ (fun q=>2000<=q) O11 e4 O13 m2:=l3.trans (g8.mono (fun _ h=>by omega) zd);have n6:∀k,k∈(G.map sH).map (·.1)↔k∈G.map (·.1):=fun k=>by rw[JW];rfl
  have s3:((G.map sH).map (·.1)).Nodup:=by rw[JW];exact hL.nd
  obtain⟨M,hM⟩:∃M,M=(rows.length-a9)*37+i3.length:=⟨_,rfl⟩
  refine zg ?_;refine zlp (fun y:(Nat->Nat)×World×List (Int×ix)×Option (Int×ix)×List Nat×List M5×List ((Int×Int)×Bool)×Nat=>[(3,nP sb),(4,nP h7),(38,nP q)]) (fun y=>y.2.1) (fun y=>BiI w nv tv rows b5 sb fv bv sr tr h7 b1 m1 r q a9 M e2 G y.1 y.2.1 y.2.2.1 y.2.2.2.1 y.2.2.2.2.1 y.2.2.2.2.2.1 y.2.2.2.2.2.2.1 y.2.2.2.2.2.2.2) (fun y=>y.2.2.1.length) (O13,m2,G.map sH,none,e2,E1,i3,a9) (⟨hI.upd.trans (a8.mono (fun _ h=>by omega) zd),l7,hI.sp.upd a8 zo,hI.tb.upd a8 zd zd,o5,fun k hk _=>(hG.row k hk).upd g8 zo zo,?_,Lu hM.symm,fun e h=>h⟩) ?_
  ·dsimp only;rw[j2];refine a5.take b1 m1 g0 d9 _ (fun k=>?_) s3;rw[n6,hL.key]
   constructor
   ·rintro⟨i,hi,e⟩;obtain⟨h1,h2⟩:=gy.1 hi;exact⟨i,h1,((b7 _).1 h2).2,e⟩
   rintro⟨i,h1,h2,e⟩;exact⟨i,gy.2 ⟨h1,(b7 _).2 ⟨d9 i m1 h1 g0,h2⟩⟩,e⟩
  rintro⟨O14,t0,left,u6,c8,E2,e5,a0⟩ hJ;dsimp only at hJ ⊢;refine zg ?_;refine pM hJ.rg zd zd rfl rfl ?_ ?_
  ·intro h0;subst h0;have b9:=hJ.bi.done;have k3:=b9.keys.len;have j9:=b9.blk.many_le;refine zg ?_;refine zFG rfl rfl ?_;refine zvG (ah (us:=[nI (b1:Nat),nI (m1:Nat)]) hJ.tb.cellsAdd (isAgg328 _) (KR _) rfl) ?_;refine au hJ.rng 9 zo (LQ _) rfl ?_;intro tc c9 O15 j5 a2 h5 s4;refine zsa (us:=#[nI (b1:Nat),nI (m1:Nat)]) j5 (KR _) ?_;have j4:=j5.setRow (us:=#[nI (b1:Nat),nI (m1:Nat)]);have a4:IQ (fun k=>k=9) O15 c9 O15 (c9.setRow tc #[nI (b1:Nat),nI (m1:Nat)]):=IF zd j5.tag rfl;generalize c9.setRow tc #[nI (b1:Nat),nI (m1:Nat)]=d6 at *;have a7:=a2.trans a4;have a1:=hJ.sp.todoN a7 zo ((hJ.sp.todo.upd a7 zd zd));refine zg ?_;refine zc call236 (oV w.heap.size O15 d6 sb tr e5 (h5.upd a4) (.inr ⟨a1.blk.tag,a1.blk.cell 5 rfl⟩) a1.todo) ?_;intro n9 e3 f';have m7:=hJ.ms;have hq:∃b0 m0 fl b',n9=.tuple #[dP ((b0:Nat),(m0:Nat)),.bool fl]/\IQ (fun q=>q=4) O15 d6 O15 e3/\Ld dP J4 O15 e3 4 tr b'/\BlT rows b5 b0 m0 fl c8 E2 b' a0/\(rows.length-a0)*37+b'.length+fl.toNat<=M:=by
    rcases f' with⟨h0,rfl,h1,h2⟩|⟨d8,k,x,d7,e,rfl,h1,h2⟩
    ·subst h0;exact⟨0,0,false,[],rfl,h1,h2,⟨fun e=>absurd e zd,fun _=>b9⟩,m7⟩
    obtain⟨b0,m0,rfl,h3,h4⟩:=BF b9 e;exact⟨b0,m0,true,_,rfl,h1,h2,h3,by show _+_+1<=M;omega⟩
   obtain⟨b3,m3,s7,n',rfl,g7,e7,l',o8⟩:=hq;have c':=j4.upd g7 zd zd;refine zg ?_;refine zsa (us:=#[nI (b3:Nat),nI (m3:Nat)]) c' (KR _) ?_;have j3:=c'.setRow (us:=#[nI (b3:Nat),nI (m3:Nat)]);have g6:IQ (fun k=>k=9) O15 e3 O15 (e3.setRow tc #[nI (b3:Nat),nI (m3:Nat)]):=IF zd c'.tag rfl;generalize e3.setRow tc #[nI (b3:Nat),nI (m3:Nat)]=w18 at *;have a6:IQ (fun q=>q=4\/q=9) O15 d6 O15 w18:=(g7.mono (fun _ h=>.inl h) zd).trans (g6.mono (fun _ h=>.inr h) zd);have f5:=a1.todoN a6 zo (e7.upd g6 zd zd);have r6:=(hJ.upd.trans (a7.mono (fun _ h=>by omega) zd)).trans (a6.mono (fun _ h=>by omega) zd);refine zg ?_;refine zx (reF nxF O15,w18,c8,E2,n',a0,tc,b3,m3,s7) (⟨⟨r6.re nxF rfl (fun b hb=>absurd rfl hb),((h5.upd a4).upd a6).re nxF rfl,f5.reN nxF (fun t h h8 h9=>FW zo h8 h9),j3.re nxF rfl,fun q=>FV _⟩,l'⟩) (by dsimp only;show _<_+1;omega)
  intro d8 k v d7 c9 k0 b6 a2;subst k0;have m9:k∈G.map (·.1):=(n6 k).1 (J5.2 ⟨_,hJ.sub _ (Jo _ (KT ..)),rfl⟩);obtain⟨i0,u0,p3⟩:=(hL.key k).1 m9;obtain⟨kn,p1⟩:∃kn:Nat,k=(kn:Int):=⟨_,p3.symm⟩
  subst p1;obtain⟨e0,p7,p6⟩:=J5.1 (hJ.sub _ (Jo _ (KT ..)));obtain⟨j,hj,p5⟩:=cn p7;subst p5;obtain⟨k4,o2⟩:=Mb p6;have m5:=hJ.gr j hj (by rw[k4];simp);obtain⟨h',t6⟩:=DG hL.nd hj;obtain⟨L,n5⟩:∃L,L=(nth G j).2.2:=⟨_,rfl⟩
  rw[o2,<-n5]at m5;rw[k4,<-n5]at h';have i2:∀x,x∈L↔x<rows.length/\nth e2 x=kn/\nth e2 (nxD rows x m1)=b1:=fun x=>by rw[<-h'];exact hL.mem (fun x hx=>d9 x m1 hx g0) b7 kn x
  have n4:L.Nodup:=by rw[<-h'];exact hL.rnd (a5.blk.nd b1 l1) _
  have l9:L≠[]:=by rw[<-h'];exact hL.ne m9
  obtain⟨k1,u1⟩:=hJ.bi.here i2;have k5:=hJ.bi.keys;have k3:=k5.len;have j9:=hJ.bi.blk.many_le;have g4:=hJ.bi.blk.len;have a3:=hJ.sp.upd a2 zo;have a':=m5.upd a2 zo zo;have c6:=a3.st.at (kn:Int);have o4:=a'.sl.len_le;have o3:=c6.sl.len_le;have cs:c9.cell? (nA sb 4)=some (.map (some sr)):=a3.blk.cell 4 rfl;obtain⟨t4,o0,t3⟩:=qp hJ.bi.nd;refine zg ?_;refine zTG rfl rfl ?_;refine zvG (RV.entry b6 rfl) ?_;refine zvG (bj a'.sl.sh I0 rfl) ?_;refine zvG (RV.ld cs rfl) ?_;refine zv (JI a3.st.map LJ oZ (zeroValue22 _) (kn:Int) rfl rfl rfl (lu E2 _)) ?_;refine zvG (bj c6.sl.sh I0 rfl) ?_;refine zC ?_ ?_
  ·intro j';replace j':L.length<(dh E2 (kn:Int)).length:=by have:=of_decide_eq_true j';omega
   have k':=hJ.bi.cut d9 a5.blk.alike g0 i2 n4 l9 j' v;refine zg ?_;refine zc call238 (uA w.heap.size O14 c9 sb nv tv fv bv sr tr rows.length (nxD rows) c8 E2 e5 a0 kn (3000+j) v L (hJ.rng.upd a2) a3 a' k5 zo (fun x hx=>by rw[g4];exact((i2 x).1 hx).1) zo k1 (fun x hx=>by rw[g4];exact((hJ.bi.blk.mem kn k1 x).1 hx).1)) ?_;rintro _ d6 ⟨v',O16,a4,l6,l0,d1,f4,k6,e8⟩;have a1:=a3.cut k5 k1 zo a' a4 (fun q h=>h) l0 d1 f4 k6 e8;obtain⟨f,hf⟩:∃f,f=DP (3000+j) (10+a0):=⟨_,rfl⟩
   have e1:∀t,t≠3000+j->f t=t:=fun t ht=>by rw[hf];exact qm ht
   rw[<-hf]at a1;have b2:=k' v' (decide ((gh (fun x=>nth (cx c8 a0 L) x==a0) (dh E2 (kn:Nat))).length<L.length));have o9:=b2.blk.many_le;generalize decide ((gh (fun x=>nth (cx c8 a0 L) x==a0) (dh E2 (kn:Nat))).length<L.length)=lt at a1 b2;have i8:=zf e5 kn a0 lt 37;generalize tdL e5 kn a0 lt 37=td5 at a1 b2 i8;generalize cp (cp E2 (a0:Int) (v,L)) (kn:Int) (v',gh (fun x=>nth (cx c8 a0 L) x==a0) (dh E2 (kn:Nat)))=E3 at a1 b2;generalize cx c8 a0 L=bl3 at a1 b2;have m7:=hJ.ms;have d4:IQ (fun q=>1<=q) (fun _=>0) w O16 d6:=(hJ.upd.trans (a2.mono (fun _ h=>by omega) zd)).trans (a4.mono (fun _ h=>by omega) zo);refine zg ?_;refine zx (reF f O16,d6,d8++d7,some ((kn:Int),v),bl3,E3,td5,a0+1) (⟨d4.re f (e1 0 zo) (fun b hb=>absurd rfl hb),l6.re f (e1 0 zo),a1,((hJ.tb.upd a2 zd zd).upd a4 zd zo).re f (e1 8 zo),(b6.upd a4 zd zd zo zo).re f (e1 _ zo) (e1 _ zo),fun k2 d2 hm=>?_,b2,?_,fun e he=>hJ.sub e ?_⟩) (by dsimp only;simp)
   ·have t7:k2≠j:=fun e=>by
     subst e;exact o0 (by rw[<-k4];exact hm)
    have k7:(nth G k2).1∈(d8++((kn:Int),v)::d7).map (·.1):=by
     simp only[J9,Jr,J3,Je]at hm ⊢
     rcases hm with hm|hm
     ·exact .inl hm
     exact .inr (.inr hm)
    exact(((hJ.gr k2 d2 k7).upd a2 zo zo).upd a4 zo zo).re f (e1 _ zo)
   ·dsimp only;omega
   rcases J3.1 he with he|he
   ·exact KJ _ he
   exact Jo _ (KI _ he)
  intro k8;replace k8:(dh E2 (kn:Int)).length<=L.length:=by have:=of_decide_eq_false k8;omega
  have k':=hJ.bi.skip i2 n4 k8;refine zg ?_;refine zx (O14,c9,d8++d7,some ((kn:Int),v),c8,E2,e5,a0) (⟨hJ.upd.trans (a2.mono (fun _ h=>by omega) zd),hJ.rng.upd a2,a3,hJ.tb.upd a2 zd zd,b6,fun k2 d2 hm=>?_,k',hJ.ms,fun e he=>hJ.sub e ?_⟩) (by dsimp only;simp)
  ·have k7:(nth G k2).1∈(d8++((kn:Int),v)::d7).map (·.1):=by
    simp only[J9,Jr,J3,Je]at hm ⊢
    rcases hm with hm|hm
    ·exact .inl hm
    exact .inr (.inr hm)
   exact(hJ.gr k2 d2 k7).upd a2 zo zo
  rcases J3.1 he with he|he
  ·exact KJ _ he
  exact Jo _ (KI _ he)
end Go.Proofs.YteolbhblkgjbhaaGreatDoor
section
namespace Go.VL
section
variable{κ ν:Type}[DecidableEq κ]{kv:κ→ix}{vv:ν→ix}{P:Lt}{N:Nat}{ops:Array M1}{Q:Exit→Act→ln→Prop}{rest:List M1}{st:St}{w:ln}{t:IV}{p:String}{e:Array Edge}{x y z:M0}
theorem WL.insert{T K E:IV}{O:Nat->Nat}{i r:Nat}{l:List (κ×ν)}(hm:Ld kv vv O w i r l)(hT:P.underlying T=some (.map K E))(hK:KeyL P K kv)(a0:i≠0) 
  (k:κ) (u:ν) {kx ux:ix} (hx:ev st x=some (.map (some r))) (hy:ev st y=some kx) (hz:ev st z=some ux) (hk:kx=kv k) (hu:ux=vv u)
  (h:∀w',Ld kv vv O w' i r (cp l k u)->IQ (fun j=>j=i) O w O w'->WL P N ops Q rest st w'):WL P N ops Q (⟨none,.insert T x y z,t,p,e,none⟩::rest) st w:=by
 subst hk;subst hu;obtain⟨w',h1,h2,h3⟩:=dE hT hK hm a0 k u;exact gQ (fun a ha=>by simp only[execOp,ha.ev hx,ha.ev hy,ha.ev hz,JZ,h1,JU,Sem.run_pure]) (h w' h2 h3)
end
end Go.VL
namespace Go.VL
open Go.Proofs
theorem RowT.freeRe{α:Type}{enc:α->List ix}{E:IV}{sz B:Nat}{O:Nat->Nat}{w:ln}{i:Nat}{v:ix}{l:List α}(h:JS enc E sz O w i v l)(hi:i≠0)(r:K1 B O w)(f:Nat->Nat)(hf:f i=0):Kl (reF f O) w v:=fun a n c e _=>by
 have h1:=h.1.tag a.block (by subst e;rfl);exact⟨by unfold reF;rw[h1];exact hf,(r.rng a.block (by rw[h1];exact hi)).2⟩
theorem Free.re{O:Nat->Nat}{w:ln}{v:ix}(h:Kl O w v)(f:Nat->Nat)(hf:f 0=0):Kl (reF f O) w v:=fun a n c e hn=>⟨by unfold reF;rw[(h a n c e hn).1];exact hf,(h a n c e hn).2⟩
end Go.VL
namespace Go.Proofs.YteolbhblkgjbhaaGreatDoor
open Go.VL Go.Proofs
set_option maxRecDepth 10000
theorem RwO.re{O:Nat->Nat}{w:ln}{i:Nat}{v:ix}{vs:List ix}{rows:List (List Nat)}(h:RwO O w i v vs rows)(f:Nat->Nat)(h0:f 0=0)(hi:f i=i):RwO (reF f O) w i v vs rows:=
 ⟨h.row.re f hi,h.len,fun k hk=>⟨(h.at_ k hk).1,(h.at_ k hk).2.re f h0⟩⟩
theorem AV{cl:Nat->Nat}{F:List Nat}{s t:Nat}(h:xg cl F s=none):xg cl (F++[s]) t=if cl s=cl t then some F.length else xg cl F t:=by
 unfold xg at h ⊢;rw[KK]
 by_cases e:cl s=cl t
 ·rw[if_pos e];have:JT (fun o=>cl o==cl t) F=none:=by rw[<-e];exact h
  rw[this];simp[Jj,e]
 rw[if_neg e]
 cases JT (fun o=>cl o==cl t) F with
 |some k=>simp
 |none=>simp[Jj,e]
def NumI(cl:Nat->Nat)(D:List (Int×Int))(F:List Nat):Prop:=∀t,bm D ((cl t:Nat):Int)=(xg cl F t).map fun k:Nat=>(k:Int)
theorem yO(cl:Nat->Nat):NumI cl (cp [] ((cl 0:Nat):Int) 0) [0]:=fun t=>by
 simp only[cp,bm,xg,Jj,List.findIdx?_nil]
 by_cases e:cl 0=cl t
 ·rw[if_pos (by rw[e]),if_pos (by simpa using e)];rfl
 rw[if_neg zo,if_neg (by simpa using e)];rfl
theorem NumI.add{cl:Nat->Nat}{D:List (Int×Int)}{F:List Nat}(h:NumI cl D F){s:Nat}(hs:xg cl F s=none):NumI cl (cp D ((cl s:Nat):Int) (F.length:Int)) (F++[s]):=fun t=>by
 rw[aU,AV hs]
 by_cases e:cl s=cl t
 ·rw[if_pos (by rw[e]),if_pos e];rfl
 rw[if_neg zo,if_neg e];exact h t
theorem uB(nv tv:ix)(rows:List (List Nat))(a':List Nat)(w:ln)(hn:Lc w nv rows)(i8:Sl iw 1 w tv a')(hr:KX rows a'):
  JE IM 130 [.agg #[nv,tv]] w fun v w'=>
   ∃cl nv' tv',v=.agg #[nv',tv']/\nv'.oneCell'=true/\tv'.oneCell'=true/\Ju w w'/\(∀p q,p<rows.length->q<rows.length->(cl p=cl q↔Alike (nxD rows) (nth a') p q))/\RowsG w.heap.size w' nv' (aP cl rows a').1/\Sl iw 1 w' tv' (aP cl rows a').2/\KY w.heap.size tv':=by
 have v1:=hr.le;have n3:=hr.pos;have s7:=hr.tl;have n5:=hr.nx;obtain⟨vs,m9,n0,u',m'⟩:=hn.free;have f6:Kl (fun _=>0) w tv:=i8.free0 fun a=>by simp
 refine I1 func130 ntmps130 rfl rfl ?_;refine zh ?_
 refine aH (ay w) 1 zo rfl rfl ?_;intro db w1 O1 k7 t9 u3 v7;refine au u3 2 zo (KV _) rfl ?_
 intro cb w2 O2 k9 r9 r' v6;have g8:=k7.upd r9 zd zd;have i1:IQ (fun q=>1<=q) (fun _=>0) w O2 w2:=(t9.mono (fun _ h=>zo) zd).trans (r9.mono (fun _ h=>zo) zd);refine zh ?_;refine zv (ah (us:=[nv,tv]) g8.cellsAdd (JN _) (Jg _) rfl) ?_;refine zc LY (jl nv tv rows a' w2 (hn.ext i1.ext) (i8.ext i1.ext) hr) ?_;rintro _ w3 ⟨rfl,u7⟩;have l0:IQ (fun _=>False) O2 w2 O2 w3:=aa (fun h=>h) O2 u7;have g7:=g8.upd l0 zd (fun h=>h);have k8:=k9.upd l0 zd (fun h=>h);have i0:=i1.trans (l0.mono (fun _ h=>h.elim) zd);refine zh ?_;refine zFH rfl rfl ?_;refine zv (ah (us:=[nv,tv]) g7.cellsAdd (JN _) (Jg _) rfl) ?_;refine zc call185 (sC nv tv rows a' w3 (hn.ext i0.ext) (i8.ext i0.ext) hr) ?_;rintro bv w4 ⟨bl,e0,u6,t8,h5,o7⟩;have l9:IQ (fun _=>False) O2 w3 O2 w4:=aa (fun h=>h) O2 u6;have u2:=(r'.upd l0).upd l9;have g6:=g7.upd l9 zd (fun h=>h);have h0:=k8.upd l9 zd (fun h=>h);have p3:=i0.trans (l9.mono (fun _ h=>h.elim) zd);have o8:Kl O2 w4 bv:=o7 _ _ (r'.upd l0);have t7:∀p q,p<rows.length->q<rows.length->(nth bl p=nth bl q↔Alike (nxD rows) (nth a') p q):=h5;obtain⟨cl,d'⟩:∃cl,cl=nth bl:=⟨_,rfl⟩
 have b0:w4.cell? (adr bv 1 0)=some (nI ((cl 0:Nat):Int)):=by have:=e0.cell (i:=0) (j:=0) zo rfl;rw[ax]at this;rw[d'];exact this
 refine zh ?_;refine aZ (fun k:Int=>nI k) (fun v:Int=>nI v) u2 3 zd rfl ?_
 intro r w5 O5 s1 p1 u1;have h3:=e0.upd o8 p1;have v8:w5.cell? (adr bv 1 0)=some (nI ((cl 0:Nat):Int)):=by have:=h3.cell (i:=0) (j:=0) zo rfl;rw[ax]at this;rw[d'];exact this
 refine zh ?_;refine zvH (az h3.sh I0 (IP _) rfl rfl 0 rfl zo) ?_
 refine WL.insert s1 J0 oZ zd ((cl 0:Nat):Int) (0:Int) rfl rfl rfl rfl rfl ?_;intro w6 s0 p0;have e4:=p1.trans p0;have o4:=g6.upd e4 zd zd;have o5:=h0.upd e4 zd zd;have u0:=u1.upd p0;refine zh ?_
 refine bJ ke (enc:=aR) u0 4 zd (0:Nat) rfl rfl rfl zd rfl ?_;intro s5 w7 O7 j' o' t';refine zh ?_
 refine au t' 5 zo (KV _) rfl ?_;intro ob w8 O8 g0 l' p5 v5;have b9:IQ (fun q=>3<=q) O2 w4 O8 w8:=((e4.mono (fun _ h=>zo) zd).trans (o'.mono (fun _ h=>zo) zd)).trans (l'.mono (fun _ h=>zo) zd);have l3:=(o'.mono (S':=fun q=>q=4\/q=5) (fun _ h=>.inl h) zd).trans (l'.mono (fun _ h=>.inr h) zd);have p9:=s0.upd l3 zd zd;have f9:=j'.upd l' zd zd;have b4:=p3.trans (b9.mono (fun _ h=>zo) zd);have o6:=e0.upd o8 b9;have h4:=o8.upd b9;have d9:=g6.upd b9 zd zd;have g':=h0.upd b9 zd zd;obtain⟨f7,r8⟩:∃f:Nat->Nat,f=fun t=>if t<=7 then t else 0:=⟨_,rfl⟩
 have f7i:∀t,t<=7->f7 t=t:=fun t ht=>by rw[r8];exact if_pos ht
 have f7l:∀t,f7 t<=7:=fun t=>by rw[r8];dsimp only;split<;>omega
 replace p9:=p9.re f7 (f7i 3 zd);replace f9:=f9.re f7 (f7i 4 zd);replace g0:=g0.re f7 (f7i 5 zd);replace d9:=d9.re f7 (f7i 1 zd);replace g':=g'.re f7 (f7i 2 zd);replace p5:=p5.re f7 (f7i 0 zd);replace b4:=b4.re f7 (f7i 0 zd) (fun b hb=>absurd rfl hb);replace h4:=h4.re f7 (f7i 0 zd);have u4:∀b,reF f7 O8 b<=7:=fun b=>f7l _
 generalize reF f7 O8=O8' at *;clear e0 h3 g8 g7 k9 k8 k7 h0 g6 s1 s0 j' l3 o' l' e4 p1 p0 b9 o4 o5;refine zh ?_;refine zlp (fun z:Nat×(Nat->Nat)×World×List (Int×Int)×List Nat×ix×ix×ix×List ix×List (List Nat)×List Nat=>[(1,nP db),(2,nP cb),(3,bv),(4,.map (some r)),(5,z.2.2.2.2.2.1),(6,nP ob),(7,nI z.1)]) (fun z=>z.2.2.1) (fun z=>IQ (fun q=>3<=q) O8' w8 z.2.1 z.2.2.1/\K1 w.heap.size z.2.1 z.2.2.1/\Ld (fun k:Int=>nI k) (fun v:Int=>nI v) z.2.1 z.2.2.1 3 r z.2.2.2.1/\NumI cl z.2.2.2.1 z.2.2.2.2.1/\JS aR 3 1 z.2.1 z.2.2.1 4 z.2.2.2.2.2.1 z.2.2.2.2.1/\J7 z.2.1 z.2.2.1 5 ob #[z.2.2.2.2.2.2.1,z.2.2.2.2.2.2.2.1] 170/\RwO z.2.1 z.2.2.1 6 z.2.2.2.2.2.2.1 z.2.2.2.2.2.2.2.2.1 z.2.2.2.2.2.2.2.2.2.1/\JS iw 24 1 z.2.1 z.2.2.1 7 z.2.2.2.2.2.2.2.1 z.2.2.2.2.2.2.2.2.2.2/\LI cl (nxD rows) (nth a') rows.length z.1 z.2.2.2.2.1 z.2.2.2.2.2.2.2.2.2.1 z.2.2.2.2.2.2.2.2.2.2/\fo cl (nxD rows) (nth a') (rows.length+1-z.1) z.1 z.2.2.2.2.1 z.2.2.2.2.2.2.2.2.2.1 z.2.2.2.2.2.2.2.2.2.2=aP cl rows a'/\(∀k,k<z.2.2.2.2.2.2.2.2.2.1.length->KY w.heap.size (nth z.2.2.2.2.2.2.2.2.1 k))) (fun z=>rows.length-z.1) (0,O8',w8,cp [] ((cl 0:Nat):Int) (0:Int),[0],s5,nS,nS,[],[],[]) (⟨JH zd _ _,p5,p9,yO cl,f9,g0,⟨IU _ _ _ _ _ _,rfl,fun k hk=>absurd hk (IE k)⟩,IU _ _ _ _ _ _,mD n3,rfl,fun k hk=>absurd hk (IE k)⟩) ?_;rintro⟨i,O9,w9,D,F,j0,i7,f5,i6,a7,i'⟩ ⟨h9,m0,m4,l5,b7,f',c7,d7,f4,i9,g4⟩
 dsimp only at h9 m0 m4 l5 b7 f' c7 d7 f4 i9 g4 ⊢;have v4:=f4.reps.len;have t1:=b7.sl.len_le;have v0:=f4.rl;have s8:=f4.tln;have n2:=c7.len;refine zh ?_;refine zvH (bj b7.sl.sh I0 rfl) ?_;refine zC ?_ ?_
 ·intro g5;replace g5:i<F.length:=dT g5;obtain⟨fu,o3⟩:∃fu,rows.length+1-i=fu+1:=⟨rows.length-i,zo⟩
  rw[o3,fo,if_pos g5]at i9;have n':rows.length+1-(i+1)=fu:=zo;have p7:=f4.next g5 n5;obtain⟨p,hp⟩:∃p,p=nth F i:=⟨_,rfl⟩
  have l6:p<rows.length:=by rw[hp];exact f4.reps.lt _ (aJ g5)
  rw[<-hp]at i9 p7;have h8:=b4.trans (h9.mono (fun _ h=>zo) zd);have m8:=m9.upd n0 h8;obtain⟨r7,k5⟩:=m' p l6;have v2:=r7.upd k5 h8;obtain⟨s4,u9⟩:=hr.row p l6;have m1:w9.cell? (adr j0 1 i)=some (nI (p:Int)):=by have:=b7.sl.cell (i:=i) (j:=0) g5 rfl;rw[ax]at this;rw[hp];exact this
  have m2:w9.cell? (nA db 0)=some nv:=(d9.upd h9 zd zd).cell 0 rfl;have m3:w9.cell? (adr nv 1 p)=some (nth vs p):=by have:=m8.cell (i:=p) (j:=0) zo rfl;rwa[ax]at this
  refine zh ?_;refine Jm zk zk ?_
  refine zh ?_;refine zwH (az b7.sl.sh I0 (IP _) rfl rfl i rfl zo) ?_
  refine Jl ?_;refine zh ?_
  rw[s4];have n9:=fun m=>qe (p:=p) f4.reps (fun m hm=>n5 p m l6 hm) m
  refine zlp (fun y:Nat×(Nat->Nat)×World×List (Int×Int)×Value×ix=>[(1,nP db),(2,nP cb),(3,bv),(4,.map (some r)),(5,y.2.2.2.2.1),(6,nP ob),(7,nI (i:Nat)),(8,y.2.2.2.2.2),(38,nth vs p),(39,nI (37:Nat)),(40,nI y.1)]) (fun y=>y.2.2.1) (fun y=>y.1<=37/\IQ (fun q=>q=3\/q=4\/q=8) O9 w9 y.2.1 y.2.2.1/\K1 w.heap.size y.2.1 y.2.2.1/\Ld (fun k:Int=>nI k) (fun v:Int=>nI v) y.2.1 y.2.2.1 3 r y.2.2.2.1/\NumI cl y.2.2.2.1 (iK cl (nxD rows) p F y.1).1/\JS aR 3 1 y.2.1 y.2.2.1 4 y.2.2.2.2.1 (iK cl (nxD rows) p F y.1).1/\JS aR 3 1 y.2.1 y.2.2.1 8 y.2.2.2.2.2 (iK cl (nxD rows) p F y.1).2) (fun y=>37-y.1) (0,O9,w9.drew,D,j0,nS) (⟨I4 _,aa zd O9 (IX w9).drew,m0.drew,⟨m4.blk,m4.tag,m4.born⟩,l5,b7.drew,IU _ _ _ _ _ _⟩) ?_;rintro⟨j,O10,m5,D10,b6,rv⟩ ⟨hj,a9,b',b1,c5,a2,a0⟩;dsimp only at hj a9 b' b1 c5 a2 a0 ⊢;have l7:=n9 j hj;have n8:=l7.len;have n7:=l7.reps.len;have l1:=h8.trans (a9.mono (fun _ h=>zo) zd);refine zh ?_
  refine zC ?_ ?_
  ·intro k4;replace k4:j<37:=dT k4;have n6:=r7.upd k5 l1;obtain⟨to,n1⟩:∃to,to=nxD rows p j:=⟨_,rfl⟩
   have s6:to<rows.length:=by rw[n1];exact n5 p j l6 k4
   have k':=o6.upd h4 ((h9.trans (a9.mono (fun _ h=>zo) zd)));have k1:m5.cell? (adr (nth vs p) 1 j)=some (nI (to:Int)):=by have:=n6.cell (i:=j) (j:=0) zo rfl;rw[ax]at this;rw[n1];exact this
   have k2:m5.cell? (adr bv 1 to)=some (nI ((cl to:Nat):Int)):=by have:=k'.cell (i:=to) (j:=0) zo rfl;rw[ax]at this;rw[d'];exact this
   have l8:=c5 to;have e1:iK cl (nxD rows) p F (j+1)=(fnF cl (iK cl (nxD rows) p F j).1 to,(iK cl (nxD rows) p F j).2++[fnI cl (iK cl (nxD rows) p F j).1 to]):=by rw[n1];rfl
   refine zh ?_
   cases h6:xg cl (iK cl (nxD rows) p F j).1 to with
   |some k=>
    rw[h6]at l8;have h1:fnF cl (iK cl (nxD rows) p F j).1 to=(iK cl (nxD rows) p F j).1:=by unfold fnF;rw[h6];rfl
    have h2:fnI cl (iK cl (nxD rows) p F j).1 to=k:=by unfold fnI;rw[h6];rfl
    rw[h1,h2]at e1;refine zvH (cE (u:=.tuple #[nI (k:Int),.bool true]) b1 J0 oZ (Ja _) ((cl to:Nat):Int) rfl rfl rfl (by rw[l8];rfl)) ?_;refine zFH rfl rfl ?_;refine Jk ke a0 b' ((k:Nat)) (fun _=>rfl) rfl rfl rfl (by simp[I6]) zo zo zo zd rfl rfl ?_;intro m6 wz Oz c8 b8 p4;refine zh ?_;refine zxd (j+1,Oz,wz,D10,b6,m6) (⟨k4,a9.trans (b8.mono (fun _ h=>zo) zd),p4,b1.upd b8 zd zd,by dsimp only;rw[e1];exact c5,by dsimp only;rw[e1];exact a2.upd b8 zd zd,by dsimp only;rw[e1];exact c8⟩)
   |none=>
    rw[h6]at l8;have h1:fnF cl (iK cl (nxD rows) p F j).1 to=(iK cl (nxD rows) p F j).1++[to]:=by unfold fnF;rw[h6];rfl
    have h2:fnI cl (iK cl (nxD rows) p F j).1 to=(iK cl (nxD rows) p F j).1.length:=by unfold fnI;rw[h6];rfl
    rw[h1,h2]at e1;have u5:=c5.add h6;refine zvH (cE (u:=.tuple #[nI 0,.bool false]) b1 J0 oZ (Ja _) ((cl to:Nat):Int) rfl rfl rfl (by rw[l8];rfl)) ?_;refine zTH rfl rfl ?_;refine zvH (bj a2.sl.sh I0 rfl) ?_;refine KF b1 J0 oZ zd ((cl to:Nat):Int) (((iK cl (nxD rows) p F j).1.length:Nat):Int) rfl rfl rfl rfl rfl ?_;intro i5 p' a5;have i3:=b'.upd a5;have k0:=a2.upd a5 zd zd;have a8:=a0.upd a5 zd zd;refine zh ?_;refine Jk ke k0 i3 ((to:Nat)) (fun _=>rfl) rfl rfl rfl (by simp[I6]) zo zo zo zd rfl rfl ?_;intro m7 d6 O12 a3 b3 i2;have f8:=a8.upd b3 zd zd;have i4:=p'.upd b3 zd zd;refine zh ?_;refine Jk ke f8 i2 (((iK cl (nxD rows) p F j).1.length:Nat)) (fun _=>rfl) rfl rfl rfl (by simp[I6]) zo zo zo zd rfl rfl ?_;intro m6 wz Oz c8 b8 p4;refine zh ?_;refine zxd (j+1,Oz,wz,cp D10 ((cl to:Nat):Int) (((iK cl (nxD rows) p F j).1.length:Nat):Int),m7,m6) (⟨k4,((a9.trans (a5.mono (fun _ h=>.inl h) zd)).trans (b3.mono (fun _ h=>.inr (.inl h)) zd)).trans (b8.mono (fun _ h=>.inr (.inr h)) zd),p4,i4.upd b8 zd zd,by dsimp only;rw[e1];exact u5,by dsimp only;rw[e1];exact a3.upd b8 zd zd,by dsimp only;rw[e1];exact c8⟩)
  intro t4;obtain rfl:j=37:=dF t4;generalize v3:iK cl (nxD rows) p F 37=RQ at *;obtain⟨F2,r2⟩:=RQ;dsimp only at l7 n8 n7 c5 a2 a0 i9 p7;obtain⟨ra,rc,t0,_⟩:=a0.sl.shape;subst t0
  -- the row is nobody's now
  obtain⟨f,hf⟩:∃f:Nat->Nat,f=DP 8 0:=⟨_,rfl⟩
  have e5:∀t,t≠8->f t=t:=fun t ht=>by rw[hf];exact qm ht
  have f3:=(h9.trans (a9.mono (S':=fun q=>3<=q) (fun _ h=>zo) zd)).re f (e5 0 zd) (fun b _=>e5 _ (by have:=u4 b;omega));have l4:=b'.re f (e5 0 zd);have s9:=a0.sl;have q':=a0.freeRe zd b' f (by rw[hf];exact Ad _ _);replace a2:=a2.re f (e5 4 zd);replace b1:=b1.re f (e5 3 zd);have e9:=(f'.upd a9 zd zd).re f (e5 5 zd);have b5:=(c7.upd a9 zd zd).re f (e5 0 zd) (e5 6 zd);have j5:=(d7.upd a9 zd zd).re f (e5 7 zd);have s':=a0.newV zd b';clear a0;generalize reF f O10=O11 at *;have k6:=d9.upd f3 zd zd;obtain⟨qF,r6⟩:=l7.pre;have n4:nth F2 i=p:=by rw[r6,aA,if_pos g5,hp]
  have hF2l:F.length<=F2.length:=by rw[r6];simp
  have o0:m5.cell? (nA ob 0)=some i7:=e9.cell 0 rfl;refine zh ?_;refine Jk Dc b5.row l4 ((.slice ra r2.length rc:ix)) (fun _=>rfl) rfl rfl rfl (by simp[I6]) zo zo zo zd rfl rfl ?_;intro b2 i5 O12 a8 a5 i3;have c':=e9.upd a5 zd zd
  have j8:RwO O12 i5 6 b2 (i6++[.slice ra r2.length rc]) (a7++[r2]):=⟨a8,by simp[n2],fun k hk=>by
   rw[aA,aA]
   by_cases e:k<a7.length
   ·rw[if_pos zo,if_pos e];exact⟨(b5.at_ k e).1.upd (b5.at_ k e).2 a5,(b5.at_ k e).2.upd a5⟩
   have t3:k=a7.length:=by simp at hk;omega
   subst t3;rw[if_neg zo,if_neg e,show a7.length-i6.length=0 from by omega,JB,ao,ao]
   exact⟨s9.upd q' a5,q'.upd a5⟩⟩
  refine zh ?_;refine aj (j:=0) c' rfl (sizeOf130 _) a8.one rfl rfl rfl ?_
  have b3:IQ (fun j=>j=5) O12 i5 O12 (i5.setCell ⟨ob,0,none⟩ b2):=J1 zd c'.tag rfl;have e8:J7 O12 (i5.setCell ⟨ob,0,none⟩ b2) 5 ob #[b2,f5] 170:=c'.set 0 _;have j7:=j8.upd b3 zd zd;have i2:=i3.upd b3;generalize i5.setCell ⟨ob,0,none⟩ b2=d6 at *;have a6:=(a5.mono (S':=fun q=>q=5\/q=6) (fun _ h=>.inr h) zd).trans (b3.mono (fun _ h=>.inl h) zd);have j4:=j5.upd a6 zd zd;have a3:=a2.upd a6 zd zd;have i4:=b1.upd a6 zd zd;have d0:=k6.upd a6 zd zd;have d5:=f3.trans (a6.mono (fun _ h=>zo) zd);have j3:=i8.upd f6 (b4.trans (d5.mono (fun _ h=>zo) zd));refine zh ?_;have d1:d6.drew.cell? (nA db 1)=some tv:=d0.cell 1 rfl;have d2:d6.drew.cell? (adr b6 1 i)=some (nI (p:Int)):=by have:=a3.sl.cell (i:=i) (j:=0) zo rfl;rw[ax,n4]at this;exact this
  have d3:d6.drew.cell? (adr tv 1 p)=some (.int .u64 ((nth a' p:Nat):Int)):=by have:=j3.cell (i:=p) (j:=0) zo rfl;rwa[ax]at this
  have d4:d6.drew.cell? (nA ob 1)=some f5:=e8.cell 1 rfl;have o9:IQ (fun _=>False) O12 d6 O12 d6.drew:=aa (fun h=>h) O12 (IX d6).drew;refine aK (fun W=>W.cell? (nA db 1)=some tv/\W.cell? (adr b6 1 i)=some (nI (p:Int))/\W.cell? (adr tv 1 p)=some (.int .u64 ((nth a' p:Nat):Int))) 14 rfl zk ?_;refine zin ⟨d1,d2,d3⟩ fun zS=>?_
  refine zrf 0 rfl zS rfl ?_;refine zrf 2 rfl zS rfl ?_
  refine zt 3 rfl zS (fun w1 j1=>RV.ld j1.1 rfl) ?_;refine zrm 4 rfl zS rfl ?_
  refine zrm 5 rfl zS rfl ?_;refine zr 6 rfl zS (fun _=>az a3.sl.sh I0 (IP _) rfl rfl i rfl zo) ?_
  refine zt 7 rfl zS (fun w1 j1=>RV.ld j1.2.1 rfl) ?_;refine zr 8 rfl zS (fun _=>az j3.sh LV (sizeOf24 _) rfl rfl p rfl zo) ?_
  refine zt 9 rfl zS (fun w1 j1=>RV.ld j1.2.2 rfl) ?_;refine bN 1 10 lY (enc:=iw) (nth a' p) rfl rfl zk zk zk zk (fun W hE=>RV.load (hE.cell d4) (isAgg27 _) rfl) (fun W hE=>⟨hE.cell d1,hE.cell d2,hE.cell d3⟩) rfl rfl rfl zd rfl rfl rfl rfl rfl ?_
  intro s3 s2 j6 p8;have h7:IQ (fun _=>False) O12 d6 O12 s2:=o9.trans (aa (fun h=>h) O12 p8);refine IG 11 zk rfl ?_;refine aB lY (j4.upd h7 zd (fun h=>h)) (i2.upd h7) j6 (by simp) rfl rfl (by simp) (by simp[I6]) (by rw[Jp];omega) (by rw[Jp];omega) zd rfl ?_;intro c6 e6 O15 e7 p2 p6;have a4:IQ (fun q=>q=7) O12 d6 O15 e6:=(h7.mono (fun _ h=>h.elim) zd).trans p2;have c9:=e8.upd a4 zd zd;have l2:=d5.trans (a4.mono (fun _ h=>zo) zd);have e1:e6.cell? (nA db 1)=some tv:=(d0.upd a4 zd zd).cell 1 rfl;have e2:e6.cell? (adr b6 1 i)=some (nI (p:Int)):=by have:=(a3.upd a4 zd zd).sl.cell (i:=i) (j:=0) zo rfl;rw[ax,n4]at this;exact this
  have e3:e6.cell? (adr tv 1 p)=some (.int .u64 ((nth a' p:Nat):Int)):=by have:=(i8.upd f6 (b4.trans (l2.mono (fun _ h=>zo) zd))).cell (i:=p) (j:=0) zo rfl;rwa[ax]at this
  refine zh ?_;refine af (⟨e1,e2,e3⟩) ?_
  refine zrf 12 rfl (⟨e1,e2,e3⟩) rfl ?_;refine IG 13 zk rfl ?_
  refine aj (j:=1) c9 rfl (sizeOf27 _) e7.one rfl rfl rfl ?_;have h':IQ (fun j=>j=5) O15 e6 O15 (e6.setCell ⟨ob,1,none⟩ c6):=J1 zd c9.tag rfl;have k3:J7 O15 (e6.setCell ⟨ob,1,none⟩ c6) 5 ob #[b2,c6] 170:=c9.set 1 _;generalize e6.setCell ⟨ob,1,none⟩ c6=w16 at *;have a1:=(a4.mono (S':=fun q=>q=5\/q=7) (fun _ h=>.inr h) zd).trans (h'.mono (fun _ h=>.inl h) zd);have e':=d5.trans (a1.mono (fun _ h=>zo) zd);have g1:w16.cell? (nA db 1)=some tv:=(d0.upd a1 zd zd).cell 1 rfl;have g2:w16.cell? (adr b6 1 i)=some (nI (p:Int)):=by have:=(a3.upd a1 zd zd).sl.cell (i:=i) (j:=0) zo rfl;rw[ax,n4]at this;exact this
  have g3:w16.cell? (adr tv 1 p)=some (.int .u64 ((nth a' p:Nat):Int)):=by have:=(i8.upd f6 (b4.trans (e'.mono (fun _ h=>zo) zd))).cell (i:=p) (j:=0) zo rfl;rwa[ax]at this
  refine zh ?_;refine af (⟨g1,g2,g3⟩) ?_
  refine Jc zk ?_;refine zh ?_
  refine zxd (i+1,O15,w16,D10,F2,b6,b2,c6,i6++[.slice ra r2.length rc],a7++[r2],i'++[nth a' p]) (⟨e',p6.upd h',i4.upd a1 zd zd,c5,a3.upd a1 zd zd,k3,j7.upd a1 zd zd,e7.upd h' zd zd,p7,by dsimp only;rw[n'];exact i9,fun k hk=>?_⟩);dsimp only at hk ⊢;rw[aA]
  by_cases e:k<i6.length
  ·rw[if_pos e];exact g4 k zo
  rw[if_neg e,show k-i6.length=0 from by simp at hk;omega,ao];exact s'
 intro t5;have t2:=f4.le;obtain rfl:i=F.length:=dF t5;have j9:aP cl rows a'=(a7,i'):=by
  rw[<-i9];obtain⟨fu,o3⟩:∃fu,rows.length+1-F.length=fu+1:=⟨rows.length-F.length,zo⟩
  rw[o3,fo,if_neg zo]
 have o1:=c7.row.one;have o2:=d7.one;have g9:=g'.upd h9 zd zd;refine zh ?_;refine zv (ah (us:=[i7,f5]) f'.cellsAdd (JN _) (Jg _) rfl) ?_;refine zsb (us:=#[i7,f5]) g9 (Jg _) (by simp only[IH,o1,o2];rfl) ?_;have t6:=g9.setRow (us:=#[i7,f5]);have b8:IQ (fun j=>j=2) O9 w9 O9 (w9.setRow cb #[i7,f5]):=IF zd g9.tag rfl;have d8:=c7.upd b8 zd zd;have j2:=d7.upd b8 zd zd;refine zh ?_;refine aL rfl rfl (t6.cellsAdd) (JN _) (Jg _) (⟨cl,i7,f5,rfl,o1,o2,((b4.trans (h9.mono (fun _ h=>zo) zd)).trans (b8.mono (fun _ h=>zo) zd)).ext,by rw[d'];exact t7,by rw[j9];exact⟨i6,d8.row.sl,d8.row.newV zd (m0.upd b8),d8.len,fun k hk=>⟨(d8.at_ k hk).1,g4 k hk⟩⟩,by rw[j9];exact j2.sl,j2.newV zd (m0.upd b8)⟩)
end Go.Proofs.YteolbhblkgjbhaaGreatDoor
end
section
namespace Go.VL
section
variable{P:Lt}{N:Nat}{st:St}{w:ln}{t:IV}{x:M0}
theorem Bz{κ ν:Type}{kv:κ->ix}{vv:ν->ix}{T K E:IV}{O:Nat->Nat}{i r:Nat}{l:List (κ×ν)}(hm:Ld kv vv O w i r l)(hu:P.underlying T=some (.map K E))(hx:ev st x=some (.map (some r))):RV P N (.call ⟨.builtin .len,#[x],#[T]⟩) t st w (nI (l.length:Int)):=
 fun a ha a0 p e g=>by
  obtain⟨es,c,h1,h2⟩:=hm.blk;have h3:es.size=l.length:=by have:=congrArg List.length h2;simpa using this
  simp only[execOp,resolve,List.map_toArray,Jr,Kx,ha.ev hx];simp[invoke,Go.builtin,Mc,run_underlying hu,goInt,getObj,L4,h1,h3]
end
section
variable{P:Lt}{N:Nat}{ops:Array M1}{Q:Exit→Act→ln→Prop}{rest:List M1}{st:St}{w:ln}
variable{t:IV}{p:String}{e:Array Edge}{d:Nat}
theorem nN{T E:IV}{sz a0:Nat}(he:M6 P T E sz a0){α:Type}(enc:α->List ix){B:Nat}{O:Nat->Nat}(r:K1 B O w)(i:Nat)(a1:i≠0)(hd:Lv d N=true) 
  (h:∀v w' O',JS enc E sz O' w' i v []->IQ (fun k=>k=i) O w O' w'->K1 B O' w'->WL P N ops Q rest ((d,v)::st) w'):WL P N ops Q (⟨some d,.buildSlice T 0 #[],t,p,e,none⟩::rest) st w:=by
 obtain⟨a2,z,hi,hz,a4,a5,a3⟩:=he.parts;have u1:=Lb (S:=fun k=>k=i) (fun e=>a1 e.symm) r (.cells #[] E) i;refine LL (v:=.slice (some ⟨w.heap.size,0,none⟩) 0 0) (w':=w.alloc (.cells #[] E)) hd (fun a ha=>?_) (h _ _ (kN O w.heap.size i) ⟨⟨?_,fun g hg=>?_⟩,fun c hc=>absurd hc (by simp)⟩ u1 (r.upd u1))
 ·simp[execOp,Instr.buildSlice,run_underlying he.ht,sizeOf,typeInfo,hi,Instr.fill,newRow,newObj,show Array.range 0 = #[]from rfl];rfl
 ·have:=World.ownsRow_lit (base:=0) (size:=sz) (e:=E) w #[] 0 (I4 _) (by simp[maxLen]) (by simp);simpa using this
 simp[Value.ownBlock]at hg;subst hg;exact dS _ _ _
end
end Go.VL
namespace Go.Proofs.YteolbhblkgjbhaaGreatDoor
open Go.VL Go.Proofs
set_option maxRecDepth 10000
def jc:List Int->Nat->Nat
 |[],n=>n
 |g::r,n=>if g<0\/(n:Int)<g then 0 else jc r (max n (g.toNat+1))
def gA(l:List Int):Nat:=if l.length=37 then jc l 0 else 0
theorem gY(l:List Int)(sv:ix)(w:ln)(h:Sl encI 1 w sv l): JE IM 29 [sv] w fun v w' => v = .int .i64 ((gA l:Nat):Int) ∧ w' = w := by
  have hl := h.len_le
  refine I1 func29 ntmps29 rfl rfl ?_
  refine zh ?_
  refine zC ?_ ?_
  · intro hne
    refine zh ?_
    refine ae rfl rfl (⟨by unfold gA; rw[if_neg (fun e => by rw[e]at hne; simp at hne)]; rfl, rfl⟩)
  · intro he
    replace he : l.length = 37 := by have : (l.length : Int) = 37 := by simpa using he
                                     omega
    have hm:gA l = jc l 0 := by unfold gA; rw[if_pos he]
    rw[hm]
    refine zh ?_
    refine zlp (fun z:Nat×Nat => [(3, .int .i64 z.2), (9, sv), (10, .int .i64 l.length), (11, .int .i64 z.1)]) (fun z => w) (fun z => z.1 ≤ l.length ∧ z.2 ≤ z.1 ∧ jc (l.drop z.1) z.2 = jc l 0) (fun z => l.length - z.1) (0, 0) (⟨I4 _, IL _, rfl⟩) ?_
    rintro⟨i, n⟩ ⟨hi, hn, heq⟩
    dsimp only at hi hn heq ⊢
    refine zh ?_
    refine zC ?_ ?_
    · intro hlt
      replace hlt:i < l.length := by have := of_decide_eq_true hlt; omega
      have m1:w.cell? (adr sv 1 i) = some (.int .i64 (nth l i)) := by have := h.cell (i := i) (j := 0) hlt rfl; rwa[ax]at this
      rw[JK hlt, ← aC hlt, jc]at heq
      refine zh ?_
      by_cases h0:nth l i < 0
      · rw[if_pos (.inl h0)]at heq
        rw[← heq]
        refine aw (d := 17) rfl (b' := true) ((decide_eq_true h0)) ?_
        refine zh ?_
        refine zTH rfl rfl ?_
        refine ae rfl rfl (⟨rfl, rfl⟩)
      · skip
        refine aw (d := 17) rfl (b' := false) ((decide_eq_false h0)) ?_
        refine zh ?_
        refine zC ?_ ?_
        · intro h1
          replace h1:(n:Int) < nth l i := of_decide_eq_true h1
          rw[if_pos (.inr h1)]at heq
          rw[← heq]
          refine zh ?_
          refine ae rfl rfl (⟨rfl, rfl⟩)
        · intro h1
          replace h1:¬(n:Int) < nth l i := of_decide_eq_false h1
          rw[if_neg (fun h => h.elim h0 h1)]at heq
          refine zh ?_
          refine zvH (jq rfl rfl) ?_
          rw[show max (n:Int) (nth l i + 1) = ((max n ((nth l i).toNat + 1):Nat):Int)from by omega]
          refine zxd (i + 1, max n ((nth l i).toNat + 1)) (⟨hlt, by dsimp only; omega, heq⟩)
    · intro hge
      obtain rfl:i = l.length := by have := of_decide_eq_false hge; omega
      rw[List.drop_length, jc]at heq
      rw[← heq]
      refine zh ?_
      refine ae rfl rfl (⟨rfl, rfl⟩)
abbrev yp(d:ix×ix):List ix:=[d.1,d.2]
def pz(rows:List (List Nat))(m:Nat):List UInt8:=rows.flatMap fun r=>[IK (nth r m / 256),IK (nth r m % 256)]
def ny(tabs:List (List (List Nat)))(m:Nat):List UInt8:=tabs.flatMap fun rows=>pz rows m
theorem kj(rows:List (List Nat))(m:Nat):(pz rows m).length=2*rows.length:=by
 unfold pz
 induction rows with
 |nil=>rfl
 |cons r l ih=>rw[JX,Ji,ih];simp;omega
structure TabsD(w:ln)(sv:ix)(ds:List (ix×ix))(tabs:List (List (List Nat)))(tlss:List (List Nat)):Prop where
 sl:Sl yp 2 w sv ds
 l1:tabs.length=ds.length
 l2:tlss.length=ds.length
 at_:∀i,i<ds.length->Lc w (nth ds i).1 (nth tabs i)/\Sl iw 1 w (nth ds i).2 (nth tlss i)/\KX (nth tabs i) (nth tlss i)
theorem TabsD.ext{w w':ln}{sv:ix}{ds:List (ix×ix)}{tabs:List (List (List Nat))}{a0:List (List Nat)}(h:TabsD w sv ds tabs a0)(e:Ju w w'):TabsD w' sv ds tabs a0:=
 ⟨h.sl.ext e,h.l1,h.l2,fun i hi=>⟨(h.at_ i hi).1.ext e,(h.at_ i hi).2.1.ext e,(h.at_ i hi).2.2⟩⟩
theorem RowsN.one{w:ln}{v:ix}{rows:List (List Nat)}(h:Lc w v rows):v.oneCell'=true:=by
 obtain⟨vs,h1,_⟩:=h;exact h1.one
theorem yv(ds:List (ix×ix))(tabs:List (List (List Nat)))(b3:List (List Nat))(sv:ix)(m:Nat)(w:ln)(h:TabsD w sv ds tabs b3)(hm:m<37)(e7:ds.length<=1000):
  JE IM 135 [sv,nI (m:Nat)] w fun v w'=>v=.string (bs (ny tabs m))/\Ju w w':=by
 have d2:=h.l1;have e4:=h.sl;refine I1 func135 ntmps135 rfl rfl ?_;refine zh ?_;refine zlp (fun z:Nat×ix×(Nat->Nat)×World=>[(1,nI (m:Nat)),(5,z.2.1),(10,sv),(11,nI ds.length),(12,nI z.1)]) (fun z=>z.2.2.2) (fun z=>z.1<=ds.length/\JS A8 5 1 z.2.2.1 z.2.2.2 1 z.2.1 (ny (tabs.take z.1) m)/\(ny (tabs.take z.1) m).length<=2000*z.1/\IQ (fun q=>1<=q) (fun _=>0) w z.2.2.1 z.2.2.2/\K1 w.heap.size z.2.2.1 z.2.2.2) (fun z=>ds.length-z.1) (0,nS,fun _=>0,w) (⟨I4 _,IU _ _ _ _ _ _,I4 _,JH zd _ _,ay w⟩) ?_;rintro⟨i,v1,O1,w1⟩ ⟨hi,a2,d3,hU,hR⟩;dsimp only at hi a2 d3 hU hR ⊢;have h1:=h.ext hU.ext;have d1:=h1.sl;refine zh ?_;refine zC ?_ ?_
 ·intro a5;replace a5:i<ds.length:=dT a5;obtain⟨c9,c7,b8⟩:=h1.at_ i a5;have o1:=c9.one;have o2:=c7.one;obtain⟨rows,a1⟩:∃rows,rows=nth tabs i:=⟨_,rfl⟩
  rw[<-a1]at c9 b8;have e5:=b8.le;have c8:ny (tabs.take (i+1)) m=ny (tabs.take i) m++pz rows m:=by
   unfold ny;rw[aM zo,KQ,<-a1];simp
  refine zh ?_;refine zv (ah (us:=yp (nth ds i)) (fun j u hu=>d1.cell a5 hu) (JN _) (Jg _) rfl) ?_
  refine au hR 2 zo (KV _) rfl ?_;intro db w2 O2 a4 d9 e1 e8;refine zsb (us:=#[(nth ds i).1,(nth ds i).2]) a4 (Jg _) (by simp only[IH,o1,o2];rfl) ?_
  have b':=a4.setRow (us:=#[(nth ds i).1,(nth ds i).2]);have c':IQ (fun j=>j=2) O2 w2 O2 (w2.setRow db #[(nth ds i).1,(nth ds i).2]):=IF zd a4.tag rfl;have b0:=d9.trans c';have a9:=a2.upd b0 zd zd;have e0:=e1.upd c';have b2:=hU.trans (b0.mono (fun _ h=>zo) zd);generalize w2.setRow db #[(nth ds i).1,(nth ds i).2]=w3 at *;have c0:w3.cell? (nA db 0)=some (nth ds i).1:=b'.cell 0 rfl;have b7:Lc w (nth ds i).1 rows:=by rw[a1];exact(h.at_ i a5).1
  obtain⟨vs,a6,e3,a7⟩:=b7;have e2:=a6.ext b2.ext;refine zh ?_;refine zlp (fun y:Nat×ix×(Nat->Nat)×World=>[(1,nI (m:Nat)),(5,y.2.1),(10,sv),(11,nI ds.length),(12,nI i),(17,(nth ds i).1),(18,nI vs.length),(19,nI y.1)]) (fun y=>y.2.2.2) (fun y=>y.1<=rows.length/\JS A8 5 1 y.2.2.1 y.2.2.2 1 y.2.1 (ny (tabs.take i) m++pz (rows.take y.1) m)/\IQ (fun q=>1<=q) (fun _=>0) w y.2.2.1 y.2.2.2/\K1 w.heap.size y.2.2.1 y.2.2.2) (fun y=>rows.length-y.1) (0,v1,O2,w3) (⟨I4 _,by dsimp only;rw[List.take_zero];exact(by simpa[pz]using a9),b2,e0⟩) ?_;rintro⟨j,v4,O4,w4⟩ ⟨hj,a0,a',c6⟩;dsimp only at hj a0 a' c6 ⊢;have b5:=a6.ext a'.ext;have d6:=kj (rows.take j) m;have c7:(rows.take j).length<=j:=by simp;omega
  refine zh ?_;refine zC ?_ ?_
  ·intro a3;replace a3:j<rows.length:=dT a3;have b9:=(a7 j a3).ext a'.ext;obtain⟨r1,r2⟩:=b8.row j a3;obtain⟨p,hp⟩:∃p,p=nth (nth rows j) m:=⟨_,rfl⟩
   have e6:p<=999:=by have:=r2 m hm;rw[<-hp]at this;omega
   have m1:w4.cell? (adr (nth ds i).1 1 j)=some (nth vs j):=by have:=b5.cell (i:=j) (j:=0) zo rfl;rwa[ax]at this
   have b6:pz (rows.take (j+1)) m=pz (rows.take j) m++[IK (p / 256),IK (p % 256)]:=by
    unfold pz;rw[aM a3,KQ,hp];simp
   refine zh ?_;have k1:w4.drew.cell? (adr (nth vs j) 1 m)=some (nI (p:Int)):=by have:=b9.cell (i:=m) (j:=0) zo rfl;rw[ax]at this;rw[hp];exact this
   refine aK (fun W=>W.cell? (adr (nth vs j) 1 m)=some (nI (p:Int))) 15 rfl zk ?_;refine zrm 0 rfl k1 rfl ?_
   refine zrm 1 rfl k1 rfl ?_;refine zrm 2 rfl k1 rfl ?_
   refine zr 3 rfl k1 (fun _=>az b9.sh I0 (IP _) rfl rfl m rfl zo) ?_;refine zt 4 rfl k1 (fun w1 b4=>RV.ld b4 rfl) ?_
   refine zr 5 rfl k1 (fun _=>gT (a:=p) (b:=8) rfl rfl rfl rfl zd) ?_;refine zr 6 rfl k1 (fun _=>mC L7 Km rfl) ?_
   refine zrm 7 rfl k1 rfl ?_;refine zrm 8 rfl k1 rfl ?_
   refine zr 9 rfl k1 (fun _=>az b9.sh I0 (IP _) rfl rfl m rfl zo) ?_;refine zt 10 rfl k1 (fun w1 b4=>RV.ld b4 rfl) ?_
   refine zr 11 rfl k1 (fun _=>mC L7 Km rfl) ?_;rw[pR p,pR (p / 2^8),show p / 2^8 % 256=p / 256 from by omega];refine IG 12 zk rfl ?_
   refine ec LH (sizeOf5 _) (zeroValue5 _) A8 [IK (p / 256),IK (p % 256)] rfl rfl rfl rfl zk (by simp) rfl ?_;intro bv w5 d7 d0;have c5:IQ (fun _=>False) O4 w4 O4 w5:=(aa (fun h=>h) O4 (IX w4).drew).trans (aa (fun h=>h) O4 d0);refine zh ?_
   refine af (d0.cell k1) ?_;refine IG 13 zk rfl ?_
   refine aB Il (a0.upd c5 zd fun h=>h) (c6.upd c5) d7 (by simp) rfl rfl (by simp) (by simp[I6]) (by simp;omega) (by simp;omega) zd rfl ?_;intro v6 w6 O6 a8 d8 d';have b1:IQ (fun q=>1<=q) (fun _=>0) w O6 w6:=(a'.trans (c5.mono (fun _ h=>h.elim) zd)).trans (d8.mono (fun _ h=>zo) zd);have k6:w6.cell? (adr (nth vs j) 1 m)=some (nI (p:Int)):=by have:=((a7 j a3).ext b1.ext).cell (i:=m) (j:=0) zo rfl;rw[ax]at this;rw[hp];exact this
   refine zh ?_;refine af (k6) ?_
   refine zra 14 rfl (k6) rfl ?_;refine Jc zk ?_
   refine zh ?_;refine zxd (j+1,v6,O6,w6) (⟨a3,by dsimp only;rw[b6,<-List.append_assoc];exact a8,b1,d'⟩)
  intro d4;obtain rfl:j=rows.length:=dF d4;rw[IR]at a0 d6;refine zh ?_;refine zxd (i+1,v4,O4,w4) (⟨a5,by dsimp only;rw[c8];exact a0,by dsimp only;rw[c8,Ji];omega,a',c6⟩)
 intro d5;obtain rfl:i=ds.length:=dF d5;rw[<-d2,IR]at a2;refine zh ?_;refine zvH (xB a2.sl LH Km I3 rfl) ?_;refine ae rfl rfl (⟨rfl,hU.ext⟩)
end Go.Proofs.YteolbhblkgjbhaaGreatDoor
end
namespace Go.Proofs.YteolbhblkgjbhaaGreatDoor
def yP(S:List (List UInt8))(k:List UInt8):Option Nat:=S.findIdx? (· == k)
def Bm(S:List (List UInt8))(k:List UInt8):List (List UInt8):=if(yP S k).isSome=true then S else S++[k]
def BM(S:List (List UInt8))(k:List UInt8):Nat:=(yP S k).getD S.length
def cQ(ks:List (List UInt8)):Nat->List (List UInt8)×List Nat
 |0=>([],[])
 |i+1=>(Bm (cQ ks i).1 (nth ks i),(cQ ks i).2++[BM (cQ ks i).1 (nth ks i)])
theorem AO{S:List (List UInt8)}{s t:List UInt8}(h:yP S s=none):yP (S++[s]) t=if s=t then some S.length else yP S t:=by
 unfold yP at h ⊢;rw[KK]
 by_cases e:s=t
 ·rw[if_pos e];have:JT (fun o=>o==t) S=none:=by rw[<-e];exact h
  rw[this];simp[Jj,e]
 rw[if_neg e]
 cases JT (fun o=>o==t) S with
 |some k=>simp
 |none=>simp[Jj,e]
theorem mV(ks:List (List UInt8)):∀i,(cQ ks i).2.length=i/\(cQ ks i).1.length<=i
 |0=>⟨rfl,IL _⟩
 |i+1=>by
  obtain⟨h1,h2⟩:=mV ks i;unfold cQ;refine⟨by simp[h1],?_⟩;dsimp only;unfold Bm
  split
  ·omega
  simp;omega
structure NumK(D:List (ByteArray×Int))(S:List (List UInt8)):Prop where
 at_:∀k,bm D (bs k)=(yP S k).map fun n:Nat=>(n:Int)
 len:D.length=S.length
theorem CQ{κ ν:Type}[DecidableEq κ]{l:List (κ×ν)}{k:κ}(h:bm l k=none)(x:ν):cp l k x=l++[(k,x)]:=by
 induction l with
 |nil=>rfl
 |cons p r ih=>
  obtain⟨a,y⟩:=p;simp only[bm]at h
  split at h
  ·cases h
  rename_i hn;simp only[cp,if_neg hn,ih h,K4]
theorem NumK.add{D:List (ByteArray×Int)}{S:List (List UInt8)}(h:NumK D S){s:List UInt8}(hs:yP S s=none):NumK (cp D (bs s) (D.length:Int)) (S++[s]):=by
 refine⟨fun k=>?_,?_⟩
 ·rw[aU,AO hs]
  by_cases e:s=k
  ·rw[if_pos (by rw[e]),if_pos e,h.len];rfl
  rw[if_neg (fun e2=>e (Dd e2)),if_neg e];exact h.at_ k
 rw[CQ (by rw[h.at_,hs];rfl)];simp[h.len]
theorem si(ks:List (List UInt8))(sv:ix)(w:ln)(h:Sl encS 1 w sv ks)(c5:ks.length<=1000):JE IM 136 [sv] w fun v w'=>Sl aR 1 w' v (cQ ks ks.length).2/\Ju w w'/\KY w.heap.size v:=by
 refine I1 func136 ntmps136 rfl rfl ?_;refine zh ?_
 refine aZ Lo (fun v:Int=>nI v) (ay w) 2 zd rfl ?_;intro r w1 O1 b8 b1 b5;have h1:=h.ext b1.ext;refine zh ?_
 refine zlp (fun z:Nat×ix×(Nat->Nat)×World×List (ByteArray×Int)=>[(3,.map (some r)),(4,z.2.1),(10,sv),(11,nI ks.length),(12,nI z.1)]) (fun z=>z.2.2.2.1) (fun z=>z.1<=ks.length/\JS aR 3 1 z.2.2.1 z.2.2.2.1 1 z.2.1 (cQ ks z.1).2/\Ld Lo (fun v:Int=>nI v) z.2.2.1 z.2.2.2.1 2 r z.2.2.2.2/\NumK z.2.2.2.2 (cQ ks z.1).1/\IQ (fun q=>1<=q) (fun _=>0) w z.2.2.1 z.2.2.2.1/\K1 w.heap.size z.2.2.1 z.2.2.2.1) (fun z=>ks.length-z.1) (0,nS,O1,w1,[]) (⟨I4 _,IU _ _ _ _ _ _,b8,⟨fun k=>rfl,rfl⟩,b1.mono (fun _ h=>zo) zd,b5⟩) ?_;rintro⟨i,v2,O2,w2,D⟩ ⟨hi,a0,a3,hN,a8,a9⟩;dsimp only at hi a0 a3 hN a8 a9 ⊢;have h2:=h.ext a8.ext;obtain⟨b',b9⟩:=mV ks i;refine zh ?_
 refine zC ?_ ?_
 ·intro a6;replace a6:i<ks.length:=dT a6;obtain⟨k,hk⟩:∃k,k=nth ks i:=⟨_,rfl⟩
  have m1:w2.cell? (adr sv 1 i)=some (.string (bs k)):=by have:=h2.cell (i:=i) (j:=0) a6 rfl;rw[ax]at this;rw[hk];exact this
  have a7:=hN.at_ k;have e1:cQ ks (i+1)=(Bm (cQ ks i).1 k,(cQ ks i).2++[BM (cQ ks i).1 k]):=by rw[hk];rfl
  refine zh ?_
  cases a2:yP (cQ ks i).1 k with
  |some q=>
   rw[a2]at a7;have f1:Bm (cQ ks i).1 k=(cQ ks i).1:=by unfold Bm;rw[a2];rfl
   have f2:BM (cQ ks i).1 k=q:=by unfold BM;rw[a2];rfl
   rw[f1,f2]at e1;refine zvH (cE (u:=.tuple #[nI (q:Int),.bool true]) a3 Jw sI (Ja _) (bs k) rfl rfl rfl (by rw[a7];rfl)) ?_;refine zFH rfl rfl ?_;refine zv (JI (u:=nI (q:Int)) a3 Jw sI (Ja _) (bs k) rfl rfl rfl (by rw[a7];rfl)) ?_;refine Jk ke a0 a9 ((q:Nat)) (fun _=>rfl) rfl rfl rfl (by simp[I6]) zo zo zo zd rfl rfl ?_;intro v3 w3 O3 a1 a4 a';refine zh ?_;refine zxd (i+1,v3,O3,w3,D) (⟨a6,by dsimp only;rw[e1];exact a1,a3.upd a4 zd zd,by dsimp only;rw[e1];exact hN,a8.trans (a4.mono (fun _ h=>zo) zd),a'⟩)
  |none=>
   rw[a2]at a7;have f1:Bm (cQ ks i).1 k=(cQ ks i).1++[k]:=by unfold Bm;rw[a2];rfl
   have f2:BM (cQ ks i).1 k=(cQ ks i).1.length:=by unfold BM;rw[a2];rfl
   rw[f1,f2]at e1;have b6:=hN.add a2;have b7:=hN.len;refine zvH (cE (u:=.tuple #[nI 0,.bool false]) a3 Jw sI (Ja _) (bs k) rfl rfl rfl (by rw[a7];rfl)) ?_;refine zTH rfl rfl ?_;refine zv (Bz a3 Jw rfl) ?_;refine KF a3 Jw sI zd (bs k) (D.length:Int) rfl rfl rfl rfl rfl ?_;intro w3 b2 a4;have a1:=a0.upd a4 zd zd;have a':=a9.upd a4;refine zh ?_;refine zv (JI (u:=nI (((cQ ks i).1.length:Nat):Int)) b2 Jw sI (Ja _) (bs k) rfl rfl rfl (by rw[aU,if_pos rfl,b7];rfl)) ?_;refine Jk ke a1 a' (((cQ ks i).1.length:Nat)) (fun _=>rfl) rfl rfl rfl (by simp[I6]) zo zo zo zd rfl rfl ?_;intro v4 w4 O4 a5 b0 b4;refine zh ?_;refine zxd (i+1,v4,O4,w4,cp D (bs k) (D.length:Int)) (⟨a6,by dsimp only;rw[e1];exact a5,b2.upd b0 zd zd,by dsimp only;rw[e1];exact b6,(a8.trans (a4.mono (fun _ h=>zo) zd)).trans (b0.mono (fun _ h=>zo) zd),b4⟩)
 intro b3;obtain rfl:i=ks.length:=dF b3;refine zh ?_;refine ae rfl rfl (⟨a0.sl,a8.ext,a0.newV zd a9⟩)
theorem elD:M6 IM 218 170 2 48:=⟨LK,by kernel_rfl,zd⟩
theorem yy(l:List (ix×ix))(sv:ix)(w:ln)(h:Sl yp 2 w sv l)(hz:∀u∈l,(yp u).length=2)(h1:∀u∈l,∀c∈yp u,c.oneCell'=true)(hl:l.length<=100000):
  JE IM 132 [sv] w fun v w'=>Sl yp 2 w' v l/\Ju w w'/\∀(B:Nat) (O:Nat->Nat),K1 B O w->Kl O w' v:=by
 obtain⟨a,c,rfl,_,_,ha⟩:=h.shape;refine I1 func132 ntmps132 rfl rfl ?_;refine zh ?_;refine zvH (js LK rfl rfl) ?_
 cases a with
 |none=>
  have a4:l=[]:=Js (Jv fun a3=>by obtain⟨b,o,e⟩:=ha a3;cases e);subst a4;refine zTH rfl rfl ?_;refine ae rfl rfl (⟨(IU yp 0 2 (fun _=>0) w 0).sl,IX _,fun B O _ a n c e hn=>by cases e⟩)
 |some a=>
  refine zFH rfl rfl ?_;refine nN elD yp (ay w) 1 zd rfl ?_
  intro v1 w1 O1 a1 a2 a7;have h2:=h.ext a2.ext;refine zh ?_;refine dR elD a1 a7 h2 rfl rfl hz h1 (by simp;omega) (by simp;omega) zd rfl ?_;intro v2 w2 O2 a0 a5 a6;refine zh ?_;refine ae rfl rfl (⟨by have:=a0.sl;rwa[Jt]at this,(a2.trans a5).ext,fun B O hO=>a0.free zd a6 hO⟩)
theorem pC(l:List (Nat))(sv:ix)(w:ln)(h:Sl aR 1 w sv l)(hz:∀u∈l,(aR u).length=1)(h1:∀u∈l,∀c∈aR u,c.oneCell'=true)(hl:l.length<=100000):
  JE IM 188 [sv] w fun v w'=>Sl aR 1 w' v l/\Ju w w'/\∀(B:Nat) (O:Nat->Nat),K1 B O w->Kl O w' v:=by
 obtain⟨a,c,rfl,_,_,ha⟩:=h.shape;refine I1 func188 ntmps188 rfl rfl ?_;refine zh ?_;refine zvH (js I0 rfl rfl) ?_
 cases a with
 |none=>
  have a4:l=[]:=Js (Jv fun a3=>by obtain⟨b,o,e⟩:=ha a3;cases e);subst a4;refine zTH rfl rfl ?_;refine ae rfl rfl (⟨(IU aR 0 1 (fun _=>0) w 0).sl,IX _,fun B O _ a n c e hn=>by cases e⟩)
 |some a=>
  refine zFH rfl rfl ?_;refine nN ke aR (ay w) 1 zd rfl ?_
  intro v1 w1 O1 a1 a2 a7;have h2:=h.ext a2.ext;refine zh ?_;refine dR ke a1 a7 h2 rfl rfl hz h1 (by simp;omega) (by simp;omega) zd rfl ?_;intro v2 w2 O2 a0 a5 a6;refine zh ?_;refine ae rfl rfl (⟨by have:=a0.sl;rwa[Jt]at this,(a2.trans a5).ext,fun B O hO=>a0.free zd a6 hO⟩)
theorem lh(l:List (Nat))(sv:ix)(w:ln)(h:Sl iw 1 w sv l)(hz:∀u∈l,(iw u).length=1)(h1:∀u∈l,∀c∈iw u,c.oneCell'=true)(hl:l.length<=100000):
  JE IM 189 [sv] w fun v w'=>Sl iw 1 w' v l/\Ju w w'/\∀(B:Nat) (O:Nat->Nat),K1 B O w->Kl O w' v:=by
 obtain⟨a,c,rfl,_,_,ha⟩:=h.shape;refine I1 func189 ntmps189 rfl rfl ?_;refine zh ?_;refine zvH (js LV rfl rfl) ?_
 cases a with
 |none=>
  have a4:l=[]:=Js (Jv fun a3=>by obtain⟨b,o,e⟩:=ha a3;cases e);subst a4;refine zTH rfl rfl ?_;refine ae rfl rfl (⟨(IU iw 0 1 (fun _=>0) w 0).sl,IX _,fun B O _ a n c e hn=>by cases e⟩)
 |some a=>
  refine zFH rfl rfl ?_;refine nN lY iw (ay w) 1 zd rfl ?_
  intro v1 w1 O1 a1 a2 a7;have h2:=h.ext a2.ext;refine zh ?_;refine dR lY a1 a7 h2 rfl rfl hz h1 (by simp;omega) (by simp;omega) zd rfl ?_;intro v2 w2 O2 a0 a5 a6;refine zh ?_;refine ae rfl rfl (⟨by have:=a0.sl;rwa[Jt]at this,(a2.trans a5).ext,fun B O hO=>a0.free zd a6 hO⟩)
theorem ot{F:L3}(hF:∀(args:Array ix) (w:ln),(callFunc F args).run IM w=.ok (.enter F args) w)(cs:Array ix)(l:List (ix×ix))(sv:ix)(q:Nat->Bool)(w:ln)(h:Sl yp 2 w sv l) 
  (hq:∀i,i<l.length->∀w',Ju w w'->JE IM F ([(fun d:ix×ix=>LA #[d.1,d.2]) (nth l i)]++cs.toList) w' fun v w''=>v=.bool (q i)/\Ju w' w'') :
  JE IM 186 [sv,.func (.func F) #[] cs] w fun v w'=>v=nI (dA q l.length)/\Ju w w':=by
 have hl:=h.len_le;refine I1 func186 ntmps186 rfl rfl ?_;refine zh ?_;refine zlp (fun x:Nat×ln=>[(0,sv),(1,.func (.func F) #[] cs),(7,nI l.length),(8,nI x.1)]) (fun x=>x.2) (fun x=>x.1<=l.length/\Ju w x.2/\∀i,i<x.1->q i=false) (fun x=>l.length-x.1) (0,w) (⟨I4 _,IX _,fun i hi=>absurd hi (IE i)⟩) ?_;rintro⟨k,w1⟩ ⟨hk,hE,a1⟩;dsimp only at hk hE a1 ⊢;have h1:=h.ext hE;refine zh ?_;refine zC ?_ ?_
 ·intro a0;replace a0:k<l.length:=dT a0;refine zh ?_;refine zv (ah (us:=yp (nth l k)) (fun j u hu=>h1.cell a0 hu) (JN _) (Jg _) rfl) ?_;refine dt rfl hF rfl (hq k a0 w1 hE) rfl ?_;rintro v w2 ⟨rfl,a3⟩;refine zh ?_;refine zC ?_ ?_
  ·intro hy;refine zh ?_;refine ae rfl rfl (⟨by rw[ck a0 hy a1],hE.trans a3⟩)
  intro hy;refine zh ?_;refine zxd (k+1,w2) (⟨a0,hE.trans a3,fun i hi=>(II.1 hi).elim (a1 i) (fun e=>by rw[e];exact hy)⟩)
 intro a2;replace a2:l.length<=k:=dF a2;refine zh ?_;refine ae rfl rfl (⟨by rw[cg fun i hi=>a1 i zo],hE⟩)
theorem uL(nv tv:ix)(rows:List (List Nat))(a0:List Nat)(w:ln)(hn:Lc w nv rows)(a2:Sl iw 1 w tv a0)(hr:KX rows a0):JE IM 133 [.agg #[nv,tv]] w fun v w'=>v=.bool false/\Ju w w':=by
 refine I1 func133 ntmps133 rfl rfl ?_;refine zh ?_
 refine aH (ay w) 1 zo rfl rfl ?_;intro db w1 O1 a3 a5 a6 a1;refine zh ?_
 refine zv (ah (us:=[nv,tv]) a3.cellsAdd (JN _) (Jg _) rfl) ?_;refine zc LY (jl nv tv rows a0 w1 (hn.ext a1) (a2.ext a1) hr) ?_
 rintro _ w2 ⟨rfl,a4⟩;refine zh ?_;refine ae rfl rfl (⟨rfl,a1.trans a4⟩)
theorem uR{F:L3}(hF:∀(args:Array ix) (w:ln),(callFunc F args).run IM w=.ok (.enter F args) w)(cs:Array ix)(l:List (ix×ix))(sv:ix)(w:ln)(h:Sl yp 2 w sv l) 
  (hq:∀i,i<l.length->∀w',Ju w w'->JE IM F ([(fun d:ix×ix=>LA #[d.1,d.2]) (nth l i)]++cs.toList) w' fun v w''=>v=.bool false/\Ju w' w'') :
  JE IM 131 [sv,.func (.func F) #[] cs] w fun v w'=>v=sv/\Ju w w':=by
 refine I1 func131 ntmps131 rfl rfl ?_;refine zh ?_
 refine zc call186 (ot hF cs l sv (fun _=>false) w h hq) ?_;rintro _ w1 ⟨rfl,a0⟩;rw[cg (q:=fun _=>false) fun i hi=>rfl];refine zh ?_
 refine zTH rfl rfl ?_;refine ae rfl rfl (⟨rfl,a0⟩)
def bA(tabs:List (List (List Nat))):List Nat:=(cQ ((IJ 37).map (ny tabs)) 37).2
theorem G2:M6 IM 107 9 1 16:=⟨underlying107,by kernel_rfl,zd⟩
theorem yk(ds:List (ix×ix))(tabs:List (List (List Nat)))(a2:List (List Nat))(sv:ix)(w:ln)(h:TabsD w sv ds tabs a2)(b8:ds.length<=1000):
  JE IM 91 [sv] w fun v w'=>Sl aR 1 w' v (bA tabs)/\Ju w w'/\KY w.heap.size v:=by
 have b5:=h.sl;have a8:∀u∈ds,∀c∈yp u,c.oneCell'=true:=fun u hu c hc=>by
  obtain⟨j,hj,rfl⟩:=cn hu
  rcases Je.1 hc with rfl|hc
  ·exact(h.at_ j hj).1.one
  rw[I5.1 hc];exact(h.at_ j hj).2.1.one
 refine I1 func91 ntmps91 rfl rfl ?_;refine zh ?_
 refine zc call132 (yy ds sv w b5 (fun _ _=>rfl) a8 zo) ?_;rintro a6 w1 ⟨b2,a',_⟩;refine zc call131 (uR call133 #[] ds a6 w1 b2 (fun i hi w' b0=>uL _ _ _ _ w' ((h.at_ i hi).1.ext (a'.trans b0)) ((h.at_ i hi).2.1.ext (a'.trans b0)) (h.at_ i hi).2.2)) ?_
 rintro v2 w2 ⟨b1,b4⟩;rw[b1];clear b1 v2;have a1:=a'.trans b4;have c5:TabsD w2 a6 ds tabs a2:=⟨b2.ext b4,h.l1,h.l2,fun i hi=>⟨(h.at_ i hi).1.ext a1,(h.at_ i hi).2.1.ext a1,(h.at_ i hi).2.2⟩⟩
 refine zh ?_;refine zlp (fun z:Nat×ix×(Nat->Nat)×World=>[(0,a6),(3,z.2.1),(8,nI z.1)]) (fun z=>z.2.2.2) (fun z=>z.1<=37/\JS encS 9 1 z.2.2.1 z.2.2.2 1 z.2.1 ((IJ z.1).map (ny tabs))/\IQ (fun q=>q=1) (fun _=>0) w2 z.2.2.1 z.2.2.2/\K1 w2.heap.size z.2.2.1 z.2.2.2) (fun z=>37-z.1) (0,nS,fun _=>0,w2) (⟨I4 _,IU _ _ _ _ _ _,JH zd _ _,ay w2⟩) ?_
 rintro⟨m,v3,O3,w3⟩ ⟨hm,a0,a5,b3⟩;dsimp only at hm a0 a5 b3 ⊢;have b':=c5.ext a5.ext;refine zh ?_;refine zC ?_ ?_
 ·intro a7;replace a7:m<37:=dT a7;refine zh ?_;refine zc call135 (yv ds tabs a2 a6 m w3 b' a7 b8) ?_;rintro _ w4 ⟨rfl,c8⟩;have a9:IQ (fun _=>False) O3 w3 O3 w4:=aa (fun h=>h) O3 c8;have a4:=a0.upd a9 zd (fun h=>h);have c9:((IJ m).map (ny tabs)).length=m:=by simp
  refine Jk G2 a4 (b3.upd a9) ((ny tabs m)) (fun _=>rfl) rfl rfl rfl (by simp[I6]) zo zo zo zd rfl rfl ?_;intro v5 w5 O5 a3 b9 c6;refine zh ?_
  refine zxd (m+1,v5,O5,w5) (⟨a7,by dsimp only;rw[JP,J9];exact a3,(a5.trans (a9.mono (fun _ h=>h.elim) zd)).trans b9,c6⟩)
 intro b7;obtain rfl:m=37:=dF b7;refine zh ?_;refine zc call136 (si _ v3 w3 a0.sl (by simp)) ?_;rintro v6 w6 ⟨h6,c7,b6⟩;refine zh ?_;refine ae rfl rfl (⟨by rw[K6,L1]at h6;exact h6,(a1.trans a5.ext).trans c7,b6.mono (Nat.le_trans a1.size a5.size)⟩)
attribute [irreducible] bA
def oL:List Int->Nat->Prop
 |[],_=>True
 |g::r,n=>0<=g/\g<=n/\oL r (max n (g.toNat+1))
theorem kS{g:Int}:∀(l:List Int) (n:Nat),oL l n->0<=g->g<=(jc l n:Nat)->oL (l++[g]) n/\jc (l++[g]) n=max (jc l n) (g.toNat+1)
 |[],n,_,h0,h1=>by
  simp only[jc]at h1;simp only[Jt,oL,jc];rw[if_neg zo];exact⟨⟨h0,h1,trivial⟩,rfl⟩
 |a::l,n,h,h0,h1=>by
  obtain⟨a1,a2,a3⟩:=h;simp only[jc]at h1;rw[if_neg zo]at h1;have ih:=kS l _ a3 h0 h1;simp only[K4,oL,jc];rw[if_neg zo,if_neg zo];exact⟨⟨a1,a2,ih.1⟩,ih.2⟩
abbrev ints(l:List Nat):List Int:=l.map fun n:Nat=>(n:Int)
structure NuI(ks:List (List UInt8))(i:Nat)(S:List (List UInt8))(r:List Nat):Prop where
 len:r.length=i
 lt:∀j,j<i->nth r j<S.length/\nth S (nth r j)=nth ks j
 nd:S.Nodup
 hit:∀k,k<S.length->∃j,j<i/\nth r j=k
 right:oL (ints r) 0
 many:jc (ints r) 0=S.length
theorem AN{S:List (List UInt8)}{s:List UInt8}{k:Nat}(h:yP S s=some k):k<S.length/\nth S k=s:=by
 obtain⟨h1,h2,_⟩:=I7.1 h;exact⟨h1,by rw[aC h1];simpa using h2⟩
theorem AP{S:List (List UInt8)}{s:List UInt8}(h:yP S s=none):s∉S:=fun hs=>by
 have:=IW.1 h s hs;simp at this
theorem sj(ks:List (List UInt8)):∀i,NuI ks i (cQ ks i).1 (cQ ks i).2
 |0=>⟨rfl,fun j hj=>absurd hj (IE j),List.nodup_nil,fun k hk=>absurd hk (IE k),trivial,rfl⟩
 |i+1=>by
  have ih:=sj ks i;unfold cQ;generalize cQ ks i=R at *;obtain⟨S,r⟩:=R;dsimp only at ih ⊢;have hl:=ih.len;have a0:∀(g:Nat),ints (r++[g])=ints r++[(g:Int)]:=fun g=>by simp[ints]
  cases h:yP S (nth ks i)with
  |some k=>
   obtain⟨h1,h2⟩:=AN h;have e1:Bm S (nth ks i)=S:=by unfold Bm;rw[h];rfl
   have e2:BM S (nth ks i)=k:=by unfold BM;rw[h];rfl
   rw[e1,e2];have hs:=kS (g:=(k:Int)) (ints r) 0 ih.right zo (by rw[ih.many];omega);refine⟨by simp[hl],fun j hj=>?_,ih.nd,fun q hq=>?_,by rw[a0];exact hs.1,by rw[a0,hs.2,ih.many];simp;omega⟩
   ·rw[aA]
    by_cases e:j<r.length
    ·rw[if_pos e];exact ih.lt j zo
    rw[if_neg e,show j-r.length=0 from by omega,ao];obtain rfl:j=i:=zo;exact⟨h1,h2⟩
   obtain⟨j,hj,e⟩:=ih.hit q hq;exact⟨j,zo,by rw[aA,if_pos zo];exact e⟩
  |none=>
   have hn:=AP h;have e1:Bm S (nth ks i)=S++[nth ks i]:=by unfold Bm;rw[h];rfl
   have e2:BM S (nth ks i)=S.length:=by unfold BM;rw[h];rfl
   rw[e1,e2];have hs:=kS (g:=(S.length:Int)) (ints r) 0 ih.right zo (by rw[ih.many];omega);refine⟨by simp[hl],fun j hj=>?_,L0.2 ⟨ih.nd,by simp,fun a ha b hb e=>?_⟩,fun q hq=>?_,by rw[a0];exact hs.1,by rw[a0,hs.2,ih.many];simp⟩
   ·rw[aA]
    by_cases e:j<r.length
    ·obtain⟨a1,a2⟩:=ih.lt j zo;rw[if_pos e];exact⟨by simp;omega,by rw[aA,if_pos a1];exact a2⟩
    rw[if_neg e,show j-r.length=0 from by omega,ao];obtain rfl:j=i:=zo;exact⟨by simp,by rw[aA,if_neg zo,JB,ao]⟩
   ·rw[I5]at hb;subst hb;subst e;exact hn ha
   rw[Ji,Jp]at hq
   by_cases e:q<S.length
   ·obtain⟨j,hj,e⟩:=ih.hit q e;exact⟨j,zo,by rw[aA,if_pos zo];exact e⟩
   exact⟨i,zo,by rw[aA,if_neg zo,show i-r.length=0 from by omega,ao];omega⟩
theorem CZ{a b:Nat}(ha:a<256)(hb:b<256)(h:IK a=IK b):a=b:=by
 have:=congrArg UInt8.toNat h;simp at this;omega
theorem xl:∀ {rows:List (List Nat)} {i j:Nat},(∀r∈rows,nth r i<=999/\nth r j<=999)->pz rows i=pz rows j->∀r∈rows,nth r i=nth r j
 |[],_,_,_,_=>fun r hr=>absurd hr (by simp)
 |r::rows,i,j,h,e=>by
  obtain⟨h1,h2⟩:=h r (by simp);unfold pz at e;simp only[JX,K4,Jt,M4]at e;obtain⟨e1,e2,e3⟩:=e;have a1:=CZ zo zo e1;have a2:=CZ zo zo e2;intro q hq
  rcases Je.1 hq with rfl|hq
  ·omega
  exact xl (fun q hq=>h q (by simp[hq])) e3 q hq
theorem xm:∀ {tabs:List (List (List Nat))} {i j:Nat},(∀rows∈tabs,∀r∈rows,nth r i<=999/\nth r j<=999)->ny tabs i=ny tabs j->∀rows∈tabs,∀r∈rows,nth r i=nth r j
 |[],_,_,_,_=>fun r hr=>absurd hr (by simp)
 |t::tabs,i,j,h,e=>by
  unfold ny at e;simp only[JX]at e;obtain⟨e1,e2⟩:=List.append_inj e (by rw[kj,kj]);intro q hq
  rcases Je.1 hq with rfl|hq
  ·exact xl (h q (by simp)) e1
  exact xm (fun q hq=>h q (by simp[hq])) e2 q hq
structure GrpI(g:List Nat)(many:Nat):Prop where
 len:g.length=37
 lt:∀i,i<37->nth g i<many
 hit:∀k,k<many->∃i,i<37/\nth g i=k
 cnt:gA (ints g)=many
 pos:1<=many
 le:many<=37
theorem Ag{α:Type}{l:List α}(h:l.Nodup){i j:Nat}(hi:i<l.length)(hj:j<l.length)(e:l[i]=l[j]):i=j:=by
 rcases Nat.lt_trichotomy i j with h1|h1|h1
 ·exact absurd e (JJ.1 h i j hi hj h1)
 ·exact h1
 exact absurd e.symm (JJ.1 h j i hj hi h1)
theorem pd(tabs:List (List (List Nat))):∃many,GrpI (bA tabs) many/\∀i j,i<37->j<37->(nth (bA tabs) i=nth (bA tabs) j↔ny tabs i=ny tabs j):=by
 have h:=sj ((IJ 37).map (ny tabs)) 37;have a4:=(mV ((IJ 37).map (ny tabs)) 37).2;have hk:∀j,j<37->nth ((IJ 37).map (ny tabs)) j=ny tabs j:=fun j hj=>by rw[dj (by simpa using hj),aC (by simpa using hj)];simp
 unfold bA;have a0:=h.len;refine⟨(cQ ((IJ 37).map (ny tabs)) 37).1.length,⟨a0,fun i hi=>(h.lt i hi).1,h.hit,?_,?_,a4⟩,fun i j hi hj=>⟨fun e=>?_,fun e=>?_⟩⟩
 ·unfold gA;rw[if_pos (by rw[K6];exact a0)];exact h.many
 ·have:=(h.lt 0 zd).1;omega
 ·have h1:=(h.lt i hi).2;have h2:=(h.lt j hj).2;rw[hk i hi]at h1;rw[hk j hj]at h2;rw[<-h1,<-h2,e]
 obtain⟨a1,a2⟩:=h.lt i hi;obtain⟨b1,b2⟩:=h.lt j hj;rw[hk i hi]at a2;rw[hk j hj]at b2;have a3:=h.nd;show nth (cQ _ 37).2 i=nth (cQ _ 37).2 j;rw[aC a1]at a2;rw[aC b1]at b2;exact Ag a3 a1 b1 (by rw[a2,b2,e])
def oh(g:List Nat)(many:Nat)(row:List Nat):List Nat:=(IJ many).map fun k=>nth row ((g.findIdx? (· == k)).getD 0)
theorem mq(g:List Nat)(many:Nat)(row:List Nat):(oh g many row).length=many:=by simp[oh]
theorem uj{g:List Nat}{many:Nat}(hg:GrpI g many){row:List Nat}(hc:∀i j,i<37->j<37->nth g i=nth g j->nth row i=nth row j){i:Nat}(hi:i<37):nth (oh g many row) (nth g i)=nth row i:=by
 have a0:=hg.len;have hk:=hg.lt i hi;unfold oh;rw[aC (xs:=List.map _ (IJ many)) (by simpa using hk),L6,List.getElem_range]
 cases hf:g.findIdx? (· == nth g i)with
 |none=>
  have:=IW.1 hf (nth g i) (aJ zo);simp at this
 |some q=>
  obtain⟨h1,h2,_⟩:=I7.1 hf;rw[<-aC h1]at h2;exact hc q i zo hi (by simpa using h2)
theorem Al{g:List Nat}{many:Nat}(hg:GrpI g many){row a0:List Nat}(hc:∀i j,i<37->j<37->nth g i=nth g j->nth row i=nth row j)(ho:a0.length=many)(h:∀i,i<37->nth a0 (nth g i)=nth row i):a0=oh g many row:=by
 refine List.ext_getElem (by rw[ho,mq]) fun k h1 h2=>?_
 obtain⟨i,hi,e⟩:=hg.hit k zo;rw[<-aC h1,<-aC h2,<-e,h i hi,uj hg hc hi]
theorem yc(g row:List Nat)(many:Nat)(gv rv:ix)(w:ln)(hg:GrpI g many)(b0:Sl aR 1 w gv g)(a9:Sl aR 1 w rv row)(b5:row.length=37)(hc:∀i j,i<37->j<37->nth g i=nth g j->nth row i=nth row j):
  JE IM 190 [gv,rv,nI (many:Nat)] w fun v w'=>∃ov,v=.tuple #[ov,.bool true]/\Sl aR 1 w' ov (oh g many row)/\Ju w w'/\∀(B:Nat) (O:Nat->Nat),K1 B O w->Kl O w' ov:=by
 have c9:=hg.len;have c7:=hg.le;refine I1 func190 ntmps190 rfl rfl ?_;refine zh ?_;refine cW ke (val:=fun n:Nat=>nI (n:Int)) (0:Nat) zk (fun _=>rfl) (ay w) 1 zd many rfl rfl rfl rfl zo zo rfl ?_;intro w1 O1 ov b6 a5 b' c5 b3;clear b6;have d0:=b0.ext b3;have c6:=a9.ext b3;refine zh ?_;rw[show((row.length:Int)-1)=((37:Nat):Int)-1 from by rw[b5]];refine zlp (fun z:Nat×ln×List Nat=>[(0,gv),(1,rv),(8,ov),(9,nI ((z.1:Int)-1))]) (fun z=>z.2.1) (fun z=>z.1<=37/\JS aR 3 1 O1 z.2.1 1 ov z.2.2/\IQ (fun q=>q=1) O1 w1 O1 z.2.1/\z.2.2.length=many/\∀i,z.1<=i->i<37->nth z.2.2 (nth g i)=nth row i) (fun z=>z.1) (37,w1,I2 many 0) (⟨IL _,a5,JH zd _ _,by simp,fun i h1 h2=>by dsimp only at h1;omega⟩) ?_;rintro⟨j,w2,b4⟩ ⟨hj,a0,a6,a7,a1⟩;dsimp only at hj a0 a6 a7 a1 ⊢;have a3:Ju w w2:=(b'.trans a6).ext;have b2:=b0.ext a3;have a':=a9.ext a3;refine zh ?_;refine zC ?_ ?_
 ·intro b1;replace b1:1<=j:=dT b1;obtain⟨m,rfl⟩:∃m,j=m+1:=⟨j-1,zo⟩
  rw[show(((m+1:Nat):Int)-1)=(m:Int)from by omega];have c8:=hg.lt m zo;have k1:w2.cell? (adr gv 1 m)=some (nI ((nth g m:Nat):Int)):=by have:=b2.cell (i:=m) (j:=0) zo rfl;rwa[ax]at this
  have k2:w2.cell? (adr rv 1 m)=some (nI ((nth row m:Nat):Int)):=by have:=a'.cell (i:=m) (j:=0) zo rfl;rwa[ax]at this
  refine zh ?_;refine Kh 10 rfl rfl zk zk ?_
  refine zh ?_;refine zw (az a0.sl.sh I0 (IP _) rfl rfl (nth g m) rfl zo) ?_
  refine La ?_;refine Ko a0.drew (nth g m) zo (nth row m) (IP _) rfl zd rfl rfl rfl rfl ?_
  intro w3 a4 b9;refine zh ?_;refine zxd (m,w3,b4.set (nth g m) (nth row m)) (⟨by dsimp only;omega,a4,a6.drew.trans b9,by dsimp only;rw[Lh];exact a7,fun i h1 h2=>?_⟩);dsimp only at h1 ⊢;rw[aW zo]
  split
  ·rename_i e;exact hc m i zo h2 e.symm
  rename_i e;refine a1 i ?_ h2;have:i≠m:=fun e2=>e (by rw[e2])
  omega
 intro b7;obtain rfl:j=0:=dF b7;have a8:=Al hg hc a7 fun i hi=>a1 i (I4 _) hi
 refine zh ?_;refine zlp (fun z:Nat=>[(0,gv),(8,ov),(31,rv),(32,nI row.length),(33,nI z)]) (fun z=>w2) (fun z=>z<=row.length) (fun z=>row.length-z) 0 (I4 _) ?_
 intro i hi;refine zh ?_;refine zC ?_ ?_
 ·intro a2;replace a2:i<row.length:=dT a2;have c':=hg.lt i zo;have k1:w2.cell? (adr gv 1 i)=some (nI ((nth g i:Nat):Int)):=by have:=b2.cell (i:=i) (j:=0) zo rfl;rwa[ax]at this
  have k2:w2.cell? (adr rv 1 i)=some (nI ((nth row i:Nat):Int)):=by have:=a'.cell (i:=i) (j:=0) zo rfl;rwa[ax]at this
  have k3:w2.cell? (adr ov 1 (nth g i))=some (nI ((nth row i:Nat):Int)):=by have:=a0.sl.cell (i:=nth g i) (j:=0) zo rfl;rw[ax,a1 i (I4 _) zo]at this;exact this
  refine zh ?_;refine zvH (az a0.sl.sh I0 (IP _) rfl rfl (nth g i) rfl zo) ?_
  refine zFH rfl ((by simp)) ?_;refine zxd (i+1) (a2)
 intro b8;refine zh ?_;refine bH rfl rfl rfl (⟨ov,rfl,by rw[<-a8];exact a0.sl,a3,fun B O hO=>a0.free zd (c5.upd a6) hO⟩)
theorem _root_.Go.VL.Sl.natIv{w:ln}{v:ix}{l:List Nat}(h:Sl aR 1 w v l):Sl encI 1 w v (l.map fun(n:Nat)=>(n:Int)):=
 ⟨by simpa using h.shape,fun i hi j u hu=>h.cells i (by simpa using hi) j u (by simpa using hu)⟩
theorem DL:cF IM 225 #[(0,1),(1,1),(2,1)]:=⟨_,underlying225,fun w=>by kernel_rfl⟩
theorem Cq(g:List Nat)(many:Nat)(gv nv tv:ix)(rows:List (List Nat))(a':List Nat)(w:ln)(hg:GrpI g many)(g1:Sl aR 1 w gv g)(hn:Lc w nv rows)(h5:Sl iw 1 w tv a')(hr:KX rows a') 
  (hc:∀p,p<rows.length->∀i j,i<37->j<37->nth g i=nth g j->nth (nth rows p) i=nth (nth rows p) j) :
  JE IM 137 [gv,.agg #[nv,tv]] w fun v w'=>∃gv' nv' tv',v=.tuple #[.agg #[gv',nv',tv'],nI 0]/\gv'.oneCell'=true/\nv'.oneCell'=true/\tv'.oneCell'=true/\RowsG w.heap.size w' nv' (rows.map (oh g many))/\Sl iw 1 w' tv' a'/\KY w.heap.size tv'/\Ju w w':=by
 have j6:=hr.le;have i1:=hr.tl;have j7:=hg.len;have j4:=hg.pos;have j5:=hg.le;refine I1 func137 ntmps137 rfl rfl ?_;refine zh ?_;refine aH (ay w) 1 zo rfl rfl ?_;intro db w1 O1 g4 i8 j1 j9;refine au j1 2 zo (Jq _) rfl ?_;intro cb w2 O2 g8 h8 j0 j8;have e7:=g4.upd h8 zd zd;have e9:IQ (fun q=>1<=q) (fun _=>0) w O2 w2:=(i8.mono (fun _ h=>zo) zd).trans (h8.mono (fun _ h=>zo) zd);have d4:=e9.ext;refine zh ?_;refine zc call29 (gY (ints g) gv w2 (g1.ext d4).natIv) ?_;rintro _ w3 ⟨rfl,h4⟩;rw[h4,hg.cnt];clear h4 w3;refine zh ?_;refine aw (d:=16) rfl (b':=false) ((by rw[beq_eq_false_iff_ne];omega)) ?_;refine zh ?_;refine zvH (ah (us:=[nv,tv]) e7.cellsAdd (JN _) (Jg _) rfl) ?_;refine zc LY (jl nv tv rows a' w2 (hn.ext d4) (h5.ext d4) hr) ?_;rintro _ w3 ⟨rfl,j2⟩;have f5:IQ (fun _=>False) O2 w2 O2 w3:=aa (fun h=>h) O2 j2;have c':=e7.upd f5 zd (fun h=>h);have g7:=g8.upd f5 zd (fun h=>h);have b6:=e9.trans (f5.mono (fun _ h=>h.elim) zd);have i':=j0.upd f5;refine zh ?_;refine zFH rfl rfl ?_;have d1:w3.drew.cell? (nA db 1)=some tv:=c'.cell 1 rfl;refine aK (fun W=>W.cell? (nA db 1)=some tv) 8 rfl zk ?_;refine zrm 0 rfl d1 rfl ?_;refine zrf 2 rfl d1 rfl ?_;refine zt 3 rfl d1 (fun w1 h'=>RV.ld h' rfl) ?_
 refine xz (fun x:ix×ix×Nat×(Nat->Nat)×World=>[(0,gv),(3,nP db),(4,nP cb),(6,nI (many:Nat)),(23,x.1),(26,x.2.1),(7,.pointer (some ⟨x.2.2.1,0,none⟩)),(27,.agg #[x.1,nS,x.2.1])]) (fun x=>x.2.2.2.2) (fun x=>Sl aR 1 x.2.2.2.2 x.1 g/\Sl iw 1 x.2.2.2.2 x.2.1 a'/\Kl x.2.2.2.1 x.2.2.2.2 x.2.1/\J7 x.2.2.2.1 x.2.2.2.2 3 x.2.2.1 #[nS,nS,nS] 225/\IQ (fun q=>q=3) O2 w3 x.2.2.2.1 x.2.2.2.2/\K1 w.heap.size x.2.2.2.1 x.2.2.2.2/\KY w3.heap.size x.2.1) #[true,true,true,true,true,true,true,false] 1 ?_ ?_
 ·intro hN;have hR:=i'.drew;have hU:IQ (fun q=>q=3) O2 w3 O2 w3.drew:=aa zd O2 (IX w3).drew;have k0:∀O W,IQ (fun q=>q=3) O2 w3 O W->W.cell? (nA db 1)=some tv:=fun O W u=>(c'.upd u zd zd).cell 1 rfl
  have kg:∀O W,IQ (fun q=>q=3) O2 w3 O W->Sl aR 1 W gv g:=fun O W u=>g1.ext (b6.trans (u.mono (fun _ h=>zo) zd)).ext
  have kt:∀O W,IQ (fun q=>q=3) O2 w3 O W->Sl iw 1 W tv a':=fun O W u=>h5.ext (b6.trans (u.mono (fun _ h=>zo) zd)).ext
  refine bZ 1 6 zk rfl rfl ?_ ?_ 
  ·refine zc call188 (pC g gv _ (kg _ _ hU) (fun _ _=>rfl) (fun u hu c hc=>by rw[I5.1 hc];rfl) zo) ?_;rintro a1 wa ⟨fA,f4,_⟩;have b2:=fun O=>aa (S:=fun _=>False) (fun h=>h) O f4
   have hU:=JD hU ((b2 _).mono (fun _ h=>h.elim) zd);have hR:=KC hR (b2 _)
   try have fB:=K5 fB f4
   try have gB:=Kg gB (b2 _)
   try have fC:=IN fC (b2 _) zd (fun h=>h)
   refine zh ?_;refine af (k0 _ _ hU) ?_
   refine bZ 4 6 zk rfl rfl ?_ ?_ 
   ·refine zc LX (lh a' tv _ (kt _ _ hU) (fun _ _=>rfl) (fun u hu c hc=>by rw[I5.1 hc];rfl) zo) ?_;rintro a0 wb ⟨fB,b8,b9⟩;have nB:=(qo b9).mono hU.size;have gB:=b9 _ _ hR;have a9:=fun O=>aa (S:=fun _=>False) (fun h=>h) O b8
    have hU:=JD hU ((a9 _).mono (fun _ h=>h.elim) zd);have hR:=KC hR (a9 _)
    try have fA:=K5 fA b8
    try have fC:=IN fC (a9 _) zd (fun h=>h)
    refine zh ?_;refine af (k0 _ _ hU) ?_
    have oA:=KH fA;have oB:=KH fB;refine zr 5 rfl (k0 _ _ hU) (fun _=>aF DL (Jq _) rfl (by simp only[IH,oA,oB,J6];rfl) rfl rfl) ?_;refine IG 6 zk rfl ?_;refine au hR 3 zd (Jq _) rfl ?_;intro ob wc Oc fC a8 e' f3;have hU:=JD hU a8;have hR:=e'
    try have fA:=K5 fA f3
    try have fB:=LN fB gB a8
    try have gB:=Kg gB a8
    refine zh ?_;refine af (k0 _ _ hU) ?_
    exact Lz (hN (a1,a0,ob,_,_) ⟨fA,fB,gB,fC,hU,hR,nB⟩) zk ⟨rfl,rfl,rfl,rfl,rfl,rfl,rfl,rfl,trivial⟩ rfl
   refine au hR 3 zd (Jq _) rfl ?_;intro ob wc Oc fC a8 e' f3;have hU:=JD hU a8;have hR:=e'
   try have fA:=K5 fA f3
   try have fB:=LN fB gB a8
   try have gB:=Kg gB a8
   refine zh ?_;refine af (k0 _ _ hU) ?_
   refine IG 4 zk rfl ?_;refine zc LX (lh a' tv _ (kt _ _ hU) (fun _ _=>rfl) (fun u hu c hc=>by rw[I5.1 hc];rfl) zo) ?_
   rintro a0 wb ⟨fB,b8,b9⟩;have nB:=(qo b9).mono hU.size;have gB:=b9 _ _ hR;have a9:=fun O=>aa (S:=fun _=>False) (fun h=>h) O b8
   have hU:=JD hU ((a9 _).mono (fun _ h=>h.elim) zd);have hR:=KC hR (a9 _)
   try have fA:=K5 fA b8
   try have fC:=IN fC (a9 _) zd (fun h=>h)
   refine zh ?_;refine af (k0 _ _ hU) ?_
   have oA:=KH fA;have oB:=KH fB;refine zr 5 rfl (k0 _ _ hU) (fun _=>aF DL (Jq _) rfl (by simp only[IH,oA,oB,J6];rfl) rfl rfl) ?_;exact Lz (hN (a1,a0,ob,_,_) ⟨fA,fB,gB,fC,hU,hR,nB⟩) zk ⟨rfl,rfl,rfl,rfl,rfl,rfl,rfl,rfl,trivial⟩ rfl
  refine au hR 3 zd (Jq _) rfl ?_;intro ob wc Oc fC a8 e' f3;have hU:=JD hU a8;have hR:=e'
  try have fA:=K5 fA f3
  try have fB:=LN fB gB a8
  try have gB:=Kg gB a8
  refine zh ?_;refine af (k0 _ _ hU) ?_
  refine IG 1 zk rfl ?_;refine zc call188 (pC g gv _ (kg _ _ hU) (fun _ _=>rfl) (fun u hu c hc=>by rw[I5.1 hc];rfl) zo) ?_
  rintro a1 wa ⟨fA,f4,_⟩;have b2:=fun O=>aa (S:=fun _=>False) (fun h=>h) O f4
  have hU:=JD hU ((b2 _).mono (fun _ h=>h.elim) zd);have hR:=KC hR (b2 _)
  try have fB:=K5 fB f4
  try have gB:=Kg gB (b2 _)
  try have fC:=IN fC (b2 _) zd (fun h=>h)
  refine zh ?_;refine af (k0 _ _ hU) ?_
  refine IG 4 zk rfl ?_;refine zc LX (lh a' tv _ (kt _ _ hU) (fun _ _=>rfl) (fun u hu c hc=>by rw[I5.1 hc];rfl) zo) ?_
  rintro a0 wb ⟨fB,b8,b9⟩;have nB:=(qo b9).mono hU.size;have gB:=b9 _ _ hR;have a9:=fun O=>aa (S:=fun _=>False) (fun h=>h) O b8
  have hU:=JD hU ((a9 _).mono (fun _ h=>h.elim) zd);have hR:=KC hR (a9 _)
  try have fA:=K5 fA b8
  try have fC:=IN fC (a9 _) zd (fun h=>h)
  refine zh ?_;refine af (k0 _ _ hU) ?_
  have oA:=KH fA;have oB:=KH fB;refine zr 5 rfl (k0 _ _ hU) (fun _=>aF DL (Jq _) rfl (by simp only[IH,oA,oB,J6];rfl) rfl rfl) ?_;exact Lz (hN (a1,a0,ob,_,_) ⟨fA,fB,gB,fC,hU,hR,nB⟩) zk ⟨rfl,rfl,rfl,rfl,rfl,rfl,rfl,rfl,trivial⟩ rfl
 rintro⟨a1,a0,ob,O7,w7⟩ ⟨e5,c5,c9,b1,b4,h9,e4⟩;dsimp only at e5 c5 c9 b1 b4 h9 e4 ⊢;have o1:=e5.one;have o2:=c5.one;have g3:=c'.upd b4 zd zd;have g6:=g7.upd b4 zd zd;refine IG 7 zk rfl ?_;refine zsb (us:=#[a1,nS,a0]) b1 (KS _) (by simp only[IH,o1,o2];rfl) ?_;have g0:=b1.setRow (us:=#[a1,nS,a0]);have d7:IQ (fun j=>j=3) O7 w7 O7 (w7.setRow ob #[a1,nS,a0]):=IF zd b1.tag rfl;have f9:=c5.upd c9 d7;have g2:=c9.upd d7;have e6:=g3.upd d7 zd zd;have g5:=g6.upd d7 zd zd;have d3:=(b6.trans (b4.mono (fun _ h=>zo) zd)).trans (d7.mono (fun _ h=>zo) zd);have i9:=h9.upd d7;generalize w7.setRow ob #[a1,nS,a0]=w8 at *;refine zh ?_;refine af (e6.cell 1 rfl) ?_;have e0:w8.cell? (nA db 0)=some nv:=e6.cell 0 rfl;obtain⟨vs,d9,j3,f8⟩:=hn;have i0:=d9.ext d3.ext;refine Jc zk ?_;refine zh ?_;refine zlp (fun z:Nat×(Nat->Nat)×World×ix×List ix=>[(0,gv),(3,nP db),(4,nP cb),(6,nI (many:Nat)),(7,nP ob),(29,nv),(30,nI vs.length),(31,nI z.1)]) (fun z=>z.2.2.1) (fun z=>z.1<=rows.length/\IQ (fun q=>3<=q) O7 w8 z.2.1 z.2.2.1/\K1 w.heap.size z.2.1 z.2.2.1/\J7 z.2.1 z.2.2.1 3 ob #[a1,z.2.2.2.1,a0] 225/\RwO z.2.1 z.2.2.1 4 z.2.2.2.1 z.2.2.2.2 ((rows.take z.1).map (oh g many))/\∀k,k<z.1->KY w.heap.size (nth z.2.2.2.2 k)) (fun z=>rows.length-z.1) (0,O7,w8,nS,[]) (⟨I4 _,JH zd _ _,i9,g0,⟨IU _ _ _ _ _ _,rfl,fun k hk=>absurd hk (IE k)⟩,fun k hk=>absurd hk (IE k)⟩) ?_
 rintro⟨i,O9,w9,d6,d5⟩ ⟨hi,e8,f6,c6,a4,c7⟩;dsimp only at hi e8 f6 c6 a4 c7 ⊢;have b5:=d3.trans (e8.mono (fun _ h=>zo) zd);have f7:=d9.ext b5.ext;have i2:=a4.len;have f':((rows.take i).map (oh g many)).length=i:=by simp;omega
 refine zh ?_;refine zC ?_ ?_
 ·intro c8;replace c8:i<rows.length:=dT c8;have m1:w9.cell? (adr nv 1 i)=some (nth vs i):=by have:=f7.cell (i:=i) (j:=0) zo rfl;rwa[ax]at this
  obtain⟨r1,r2⟩:=hr.row i c8;refine zh ?_;refine zc call190 (yc g (nth rows i) many gv (nth vs i) w9 hg (g1.ext b5.ext) ((f8 i c8).ext b5.ext) r1 (hc i c8)) ?_;rintro _ h3 ⟨ov,rfl,h6,h2,h7⟩;have b3:IQ (fun _=>False) O9 w9 O9 h3:=aa (fun h=>h) O9 h2;have e2:=h7 _ _ f6;have i3:=(qo h7).mono b5.size;have h1:=f6.upd b3;have b7:=c6.upd b3 zd (fun h=>h);have a2:=a4.upd b3 zd (fun h=>h);obtain⟨oa,oc,i4,_⟩:=h6.shape;subst i4;refine zh ?_;refine aT rfl rfl ?_;have f0:h3.cell? (nA ob 1)=some d6:=b7.cell 1 rfl;refine zh ?_;refine Jk Dc a2.row h1 ((.slice oa (oh g many (nth rows i)).length oc:ix)) (fun _=>rfl) rfl rfl rfl (by simp[I6]) zo zo zo zd rfl rfl ?_;intro a3 d8 O11 a6 a5 h0;have a7:=b7.upd a5 zd zd;have e1:RwO O11 d8 4 a3 (d5++[.slice oa (oh g many (nth rows i)).length oc]) ((rows.take (i+1)).map (oh g many)):=by
   rw[aM c8,J9];refine⟨a6,by simp;omega,fun k hk=>?_⟩;rw[aA,aA]
   by_cases e:k<((rows.take i).map (oh g many)).length
   ·rw[if_pos zo,if_pos e];exact⟨(a2.at_ k e).1.upd (a2.at_ k e).2 a5,(a2.at_ k e).2.upd a5⟩
   have i5:k=i:=by simp at hk;omega
   subst i5;rw[if_neg zo,if_neg e,f',show k-d5.length=0 from by omega,JB,ao,Jr,Kx,ao];exact⟨h6.upd e2 a5,e2.upd a5⟩
  refine zh ?_;refine aj (j:=1) a7 rfl (sizeOf130 _) a6.one rfl rfl rfl ?_
  have d2:IQ (fun j=>j=3) O11 d8 O11 (d8.setCell ⟨ob,1,none⟩ a3):=J1 zd a7.tag rfl;have e3:J7 O11 (d8.setCell ⟨ob,1,none⟩ a3) 3 ob #[a1,a3,a0] 225:=a7.set 1 _;have d':=e1.upd d2 zd zd;have g':=h0.upd d2;generalize d8.setCell ⟨ob,1,none⟩ a3=w12 at *;refine zh ?_;refine zxd (i+1,O11,w12,a3,d5++[.slice oa (oh g many (nth rows i)).length oc]) (⟨c8,((e8.trans (b3.mono (fun _ h=>h.elim) zd)).trans (a5.mono (fun _ h=>zo) zd)).trans (d2.mono (fun _ h=>zo) zd),g',e3,d',fun k hk=>?_⟩);dsimp only at hk ⊢;rw[aA]
  by_cases e:k<d5.length
  ·rw[if_pos e];exact c7 k zo
  rw[if_neg e,show k-d5.length=0 from by omega,ao];exact i3
 intro i6;obtain rfl:i=rows.length:=dF i6;rw[IR]at a4;have o3:=a4.row.one;have d0:=g5.upd e8 zd zd;refine zh ?_;refine zv (ah (us:=[a1,d6,a0]) c6.cellsAdd (isAgg225 _) (KS _) rfl) ?_;refine zsb (us:=#[a1,d6,a0]) d0 (KS _) (by simp only[IH,o1,o2,o3];rfl) ?_;have i7:=d0.setRow (us:=#[a1,d6,a0]);have g9:IQ (fun j=>j=2) O9 w9 O9 (w9.setRow cb #[a1,d6,a0]):=IF zd d0.tag rfl;have b0:=a4.upd g9 zd zd;have hU9z:=(e8.mono (S':=fun q=>2<=q) (fun _ h=>zo) zd).trans (g9.mono (fun _ h=>zo) zd);refine zh ?_;refine bf rfl rfl rfl (i7.cellsAdd) (isAgg225 _) (KS _) (⟨a1,d6,a0,rfl,o1,o3,o2,⟨d5,b0.row.sl,b0.row.newV zd (f6.upd g9),b0.len,fun k hk=>⟨(b0.at_ k hk).1,c7 k (by simpa using hk)⟩⟩,f9.upd g2 hU9z,e4.mono b6.size,(d3.trans (hU9z.mono (fun _ h=>zo) zd)).ext⟩)
def ow(a0:List Int)(base c:Nat):Bool:=!(decide (base+c<a0.length)&&nth a0 (base+c) != -1)
theorem xV(pb:Nat)(cv kv:ix)(a0:List Nat)(a2:List Int)(base:Nat)(w:ln) 
  (hp:w.cell? ⟨pb,3,none⟩=some kv) (hk:Kb w kv a2) (hc:ID w cv a0) (a6:∀c∈a0,c<=64) (hb:base<=200000) :
  JE IM 240 [nP pb,cv,nI base] w fun v w'=>v=.bool (a0.all (ow a2 base))/\w=w':=by
 have a8:=hk.len_le;have a':=hc.len_le;refine I1 func240 ntmps240 rfl rfl ?_;refine zh ?_;refine zlp (fun k:Nat=>[(0,nP pb),(1,cv),(2,nI base),(9,cv),(10,nI a0.length),(11,nI k)]) (fun k=>w) (fun k=>k<=a0.length/\∀j,j<k->ow a2 base (nth a0 j)=true) (fun k=>a0.length-k) 0 (⟨I4 _,fun j hj=>absurd hj (IE j)⟩) ?_;intro k ⟨a9,a4⟩;refine zh ?_;refine zC ?_ ?_
 ·intro a1;replace a1:k<a0.length:=by simpa using a1
  have b0:=a6 _ (aJ a1);refine zh ?_;refine zvH (RV.ld (hc.ld zo) rfl) ?_;refine zvH (RV.ld hp rfl) ?_
  by_cases a5:base+nth a0 k<a2.length
  ·refine aw (d:=24) rfl (b':=true) (by simpa using(by omega:(base:Int)+((nth a0 k:Nat):Int)<(a2.length:Int))) ?_;refine zh ?_
   refine zvH (RV.ld hp rfl) ?_;refine zvH (RV.ld (hk.ld zo) rfl) ?_
   refine zC ?_ ?_
   ·intro a3;refine zh ?_;refine ae rfl rfl (⟨?_,rfl⟩);rw[uh a1];simp only[ow,a5,a3];rfl
   intro a3;refine zh ?_;refine zxd (k+1) (⟨a1,fun j hj=>?_⟩)
   rcases II.1 hj with h|rfl
   ·exact a4 j h
   simp only[ow,a5,a3];rfl
  refine aw (d:=24) rfl (b':=false) (by simpa using(by omega:¬(base:Int)+((nth a0 k:Nat):Int)<(a2.length:Int))) ?_;refine zh ?_
  refine zFH rfl rfl ?_;refine zxd (k+1) (⟨a1,fun j hj=>?_⟩)
  rcases II.1 hj with h|rfl
  ·exact a4 j h
  simp only[ow,a5];rfl
 intro a7;replace a7:a0.length<=k:=by simpa using a7
 refine zh ?_;refine ae rfl rfl (⟨?_,rfl⟩)
 rw[Fb fun j hj=>a4 j zo]
def cnt(row:List Int)(n:Int):Int:=(row.count n:Int)
def lT(row:List Int)(b n:Int):Int:=if cnt row b<cnt row n\/(cnt row n=cnt row b/\n<b)then n else b
def bC(row:List Int):Int:=row.foldl (lT row) (nth row 0)
abbrev iv:Int->ix:=Value.int .i64
theorem oY:KeyL IM 3 iv:=KeyL.int L7
theorem yV(row:List Int)(rv:ix)(w:ln)(h:Kb w rv row)(a9:0<row.length):
  JE IM 239 [rv] w fun u w'=>u=nI (bC row)/\Ju w w':=by
 have hl:=h.len_le;have a6:∀r z,0<=cnt r z:=fun r z=>by simp only[cnt];omega
 have a5:∀k z,cnt (row.take k) z<=k:=fun k z=>by
  have h1:=List.count_le_length (a:=z) (l:=row.take k);have h2:=List.length_take_le k row;simp only[cnt];omega
 refine I1 func239 ntmps239 rfl rfl ?_;refine zh ?_
 refine WL.makeMap rfl ?_;refine zh ?_
 refine zvH (Jy (by first|exact h.ext (Kz _ _)) I0 rfl) ?_;refine zlp (fun x:Nat×ln×List (Int×Int)=>[(0,rv),(3,.map (some w.heap.size)),(10,rv),(11,nI row.length),(12,nI x.1)]) (fun x=>x.2.1) (fun x=>x.1<=row.length/\Ld iv iv (kN (fun _=>0) w.heap.size 1) x.2.1 1 w.heap.size x.2.2/\IQ (fun j=>j=1) (fun _=>0) w (kN (fun _=>0) w.heap.size 1) x.2.1/\∀z,(bm x.2.2 z).getD 0=cnt (row.take x.1) z) (fun x=>row.length-x.1) (0,_,[]) (⟨I4 _,MapO.new _ _ _,Lb zd (ay _) _ _,fun z=>by simp[bm,cnt]⟩) ?_
 rintro⟨k,w1,m⟩ ⟨hk,hm,hU,a2⟩;dsimp only at hk hm hU a2 ⊢;have h1:=h.ext hU.ext;refine zh ?_;refine zC ?_ ?_
 ·intro a1;replace a1:k<row.length:=by simpa using a1
  have hc:=a5 k (nth row k);have a':=a6 (row.take k) (nth row k);refine zh ?_;refine zvH (RV.ld (h1.ld zo) rfl) ?_;refine zvH (JI hm J0 oY (Ja _) (nth row k) rfl rfl rfl (u:=iv (cnt (row.take k) (nth row k))) (by rw[<-a2];cases bm m (nth row k)<;>rfl)) ?_;refine KF hm J0 oY zd (nth row k) (cnt (row.take k) (nth row k)+1) rfl rfl rfl rfl rfl ?_;intro w2 a7 a8;refine zh ?_;refine zxd (k+1,w2,_) (⟨a1,a7,hU.trans a8,fun z=>?_⟩);dsimp only;rw[aU,aM a1]
  by_cases hz:nth row k=z
  ·subst hz;simp[cnt]
  rw[if_neg hz,a2];simp[cnt,List.count_append,hz]
 intro a3;replace a3:row.length<=k:=by simpa using a3
 have a4:∀z,(bm m z).getD 0=cnt row z:=fun z=>by rw[a2,Kw a3]
 refine zh ?_;refine zvH (RV.ld (h1.ld zo) rfl) ?_
 refine zlp (fun x:Nat×Int=>[(3,.map (some w.heap.size)),(24,rv),(25,nI row.length),(26,nI x.1),(6,nI x.2)]) (fun x=>w1) (fun x=>x.1<=row.length/\(row.take x.1).foldl (lT row) (nth row 0)=x.2) (fun x=>row.length-x.1) (0,nth row 0) (⟨I4 _,rfl⟩) ?_;rintro⟨k,b⟩ ⟨hk,hb⟩;dsimp only at hk hb ⊢;refine zh ?_
 refine zC ?_ ?_
 ·intro a1;replace a1:k<row.length:=by simpa using a1
  have a0:(row.take (k+1)).foldl (lT row) (nth row 0)=lT row b (nth row k):=by rw[aM a1,IY,hb];rfl
  have L:∀z,Fe iv (nI 0) (bm m z)=iv (cnt row z):=fun z=>by rw[<-a4];cases bm m z<;>rfl
  refine zh ?_;refine zvH (RV.ld (h1.ld zo) rfl) ?_
  refine zvH (JI hm J0 oY (Ja _) (nth row k) rfl rfl rfl (L _)) ?_;refine zvH (JI hm J0 oY (Ja _) b rfl rfl rfl (L _)) ?_
  by_cases h1:cnt row b<cnt row (nth row k)
  ·refine aw (d:=37) rfl (b':=true) (decide_eq_true h1) ?_;refine zh ?_
   refine zTH rfl rfl ?_;refine zxd (k+1,_) (⟨a1,by rw[a0,lT,if_pos (.inl h1)]⟩)
  refine aw (d:=37) rfl (b':=false) (decide_eq_false h1) ?_;refine zh ?_
  refine zvH (JI hm J0 oY (Ja _) (nth row k) rfl rfl rfl (L _)) ?_;refine zvH (JI hm J0 oY (Ja _) b rfl rfl rfl (L _)) ?_
  by_cases h2:cnt row (nth row k)=cnt row b
  ·refine aw (d:=45) rfl (b':=true) (by simpa using h2) ?_;refine zh ?_
   refine zC ?_ ?_
   ·intro h3;replace h3:nth row k<b:=by simpa using h3
    refine zh ?_;refine zxd (k+1,_) (⟨a1,by rw[a0,lT,if_pos (.inr ⟨h2,h3⟩)]⟩)
   intro h3;replace h3:¬nth row k<b:=by simpa using h3
   refine zh ?_;refine zxd (k+1,_) (⟨a1,by rw[a0,lT,if_neg (fun h=>h.elim h1 fun h=>h3 h.2)]⟩)
  refine aw (d:=45) rfl (b':=false) (by simpa using h2) ?_;refine zh ?_
  refine zFH rfl rfl ?_;refine zxd (k+1,_) (⟨a1,by rw[a0,lT,if_neg (fun h=>h.elim h1 fun h=>h2 h.1)]⟩)
 intro a3;replace a3:row.length<=k:=by simpa using a3
 refine zh ?_;refine ae rfl rfl (⟨?_,hU.ext⟩)
 rw[bC,<-hb,Kw a3]
theorem yq:M6 IM 22 3 1 8:=⟨I0,by kernel_rfl,zd⟩
abbrev mh(O:Nat->Nat)(w:ln)(i:Nat)(v:ix)(l:List Int):Prop:=JS (fun x=>[nI x]) 3 1 O w i v l
structure PSt where
 width:Int
 usual:List Int
 base:List Int
 check:List Int
 next:List Int
structure PkR(T:Nat)(O:Nat->Nat)(w:ln)(pb:Nat)(p:PSt)(uv bv kv nv:ix):Prop where
 blk:J7 O w (T+1) pb #[nI p.width,uv,bv,kv,nv] 26
 u:mh O w (T+2) uv p.usual
 b:mh O w (T+3) bv p.base
 k:mh O w (T+4) kv p.check
 n:mh O w (T+5) nv p.next
def PkO(T:Nat)(O:Nat->Nat)(w:ln)(pb:Nat)(p:PSt):Prop:=∃uv bv kv nv,PkR T O w pb p uv bv kv nv
def iT(T:Nat)(i:Nat):Prop:=T+1<=i/\i<=T+5
theorem gw(T:Nat):¬iT T 0:=by unfold iT;omega
theorem PkR.upd{T:Nat}{S:Nat->Prop}{O O':Nat->Nat}{w w':ln}{pb:Nat}{p:PSt}{uv bv kv nv:ix}(h:PkR T O w pb p uv bv kv nv)(u:IQ S O w O' w')(hS:∀i,iT T i->¬S i):PkR T O' w' pb p uv bv kv nv:=
 ⟨h.blk.upd u zo (hS _ (by unfold iT;omega)),h.u.upd u zo (hS _ (by unfold iT;omega)),h.b.upd u zo (hS _ (by unfold iT;omega)),h.k.upd u zo (hS _ (by unfold iT;omega)),h.n.upd u zo (hS _ (by unfold iT;omega))⟩
theorem PkO.upd{T:Nat}{S:Nat->Prop}{O O':Nat->Nat}{w w':ln}{pb:Nat}{p:PSt}(h:PkO T O w pb p)(u:IQ S O w O' w')(hS:∀i,iT T i->¬S i):PkO T O' w' pb p:=by
 obtain⟨uv,bv,kv,nv,h⟩:=h;exact⟨uv,bv,kv,nv,h.upd u hS⟩
section
variable{T:Nat}{O O':Nat→Nat}{w w':ln}{pb:Nat}{p:PSt}{uv bv kv nv v:ix}{l:List Int}
theorem PkR.setK(h:PkR T O w pb p uv bv kv nv)(u:IQ (fun j=>j=T+4) O w O' w')(r:mh O' w' (T+4) v l):
  PkR T O' (w'.setCell ⟨pb,3,none⟩ v) pb { p with check:=l } uv bv v nv/\IQ (iT T) O w O' (w'.setCell ⟨pb,3,none⟩ v):=by
 have hb:=h.blk.upd u zo zo;have us:IQ (fun j=>j=T+1) O' w' O' (w'.setCell ⟨pb,3,none⟩ v):=J1 zo hb.tag rfl
 exact⟨⟨hb.set 3 v,(h.u.upd u zo zo).upd us zo zo,(h.b.upd u zo zo).upd us zo zo,r.upd us zo zo,(h.n.upd u zo zo).upd us zo zo⟩,
  (u.mono (by unfold iT;omega) (gw T)).trans (us.mono (by unfold iT;omega) (gw T))⟩
theorem PkR.setN(h:PkR T O w pb p uv bv kv nv)(u:IQ (fun j=>j=T+5) O w O' w')(r:mh O' w' (T+5) v l):
  PkR T O' (w'.setCell ⟨pb,4,none⟩ v) pb { p with next:=l } uv bv kv v/\IQ (iT T) O w O' (w'.setCell ⟨pb,4,none⟩ v):=by
 have hb:=h.blk.upd u zo zo;have us:IQ (fun j=>j=T+1) O' w' O' (w'.setCell ⟨pb,4,none⟩ v):=J1 zo hb.tag rfl
 exact⟨⟨hb.set 4 v,(h.u.upd u zo zo).upd us zo zo,(h.b.upd u zo zo).upd us zo zo,(h.k.upd u zo zo).upd us zo zo,r.upd us zo zo⟩,
  (u.mono (by unfold iT;omega) (gw T)).trans (us.mono (by unfold iT;omega) (gw T))⟩
theorem PkR.setU(h:PkR T O w pb p uv bv kv nv)(u:IQ (fun j=>j=T+2) O w O' w')(r:mh O' w' (T+2) v l):
  PkR T O' (w'.setCell ⟨pb,1,none⟩ v) pb { p with usual:=l } v bv kv nv/\IQ (iT T) O w O' (w'.setCell ⟨pb,1,none⟩ v):=by
 have hb:=h.blk.upd u zo zo;have us:IQ (fun j=>j=T+1) O' w' O' (w'.setCell ⟨pb,1,none⟩ v):=J1 zo hb.tag rfl
 exact⟨⟨hb.set 1 v,r.upd us zo zo,(h.b.upd u zo zo).upd us zo zo,(h.k.upd u zo zo).upd us zo zo,(h.n.upd u zo zo).upd us zo zo⟩,
  (u.mono (by unfold iT;omega) (gw T)).trans (us.mono (by unfold iT;omega) (gw T))⟩
theorem PkR.setB(h:PkR T O w pb p uv bv kv nv)(u:IQ (fun j=>j=T+3) O w O' w')(r:mh O' w' (T+3) v l):
  PkR T O' (w'.setCell ⟨pb,2,none⟩ v) pb { p with base:=l } uv v kv nv/\IQ (iT T) O w O' (w'.setCell ⟨pb,2,none⟩ v):=by
 have hb:=h.blk.upd u zo zo;have us:IQ (fun j=>j=T+1) O' w' O' (w'.setCell ⟨pb,2,none⟩ v):=J1 zo hb.tag rfl
 exact⟨⟨hb.set 2 v,(h.u.upd u zo zo).upd us zo zo,r.upd us zo zo,(h.k.upd u zo zo).upd us zo zo,(h.n.upd u zo zo).upd us zo zo⟩,
  (u.mono (by unfold iT;omega) (gw T)).trans (us.mono (by unfold iT;omega) (gw T))⟩
theorem PkR.c1(h:PkR T O w pb p uv bv kv nv):w.cell? ⟨pb,1,none⟩=some uv:=h.blk.cell 1 rfl
theorem PkR.c2(h:PkR T O w pb p uv bv kv nv):w.cell? ⟨pb,2,none⟩=some bv:=h.blk.cell 2 rfl
theorem PkR.c3(h:PkR T O w pb p uv bv kv nv):w.cell? ⟨pb,3,none⟩=some kv:=h.blk.cell 3 rfl
theorem PkR.c4(h:PkR T O w pb p uv bv kv nv):w.cell? ⟨pb,4,none⟩=some nv:=h.blk.cell 4 rfl
end
def PSt.long(p:PSt)(j:Nat):PSt:={ p with check:=p.check++I2 j (-1),next:=p.next++I2 j 0 }
def PSt.take(p:PSt)(slot:Nat)(row entry:Int):PSt:=
 let q:=p.long (slot+1-p.check.length)
 { q with check:=q.check.set slot row,next:=q.next.set slot entry }
theorem BW(T:Nat)(pb:Nat)(p:PSt)(slot:Nat)(row entry:Int)(B:Nat)(O:Nat->Nat)(w:ln)(hp:PkO T O w pb p)(hR:K1 B O w)(hs:slot<=1000000)(hl:p.next.length=p.check.length):
  JE IM 241 [nP pb,nI slot,nI row,nI entry] w fun _ w'=>∃O',PkO T O' w' pb (p.take slot row entry)/\IQ (iT T) O w O' w'/\K1 B O' w':=by
 refine I1 func241 ntmps241 rfl rfl ?_;refine zh ?_
 refine zlp (fun x:Nat×(Nat->Nat)×World=>[(0,nP pb),(1,nI slot),(2,nI row),(3,nI entry)]) (fun x=>x.2.2) (fun x=>PkO T x.2.1 x.2.2 pb (p.long x.1)/\IQ (iT T) O w x.2.1 x.2.2/\K1 B x.2.1 x.2.2/\x.1<=slot+1-p.check.length) (fun x=>slot+1-p.check.length-x.1) (0,O,w) (⟨by simpa[PSt.long]using hp,JH (gw T) _ _,hR,I4 _⟩) ?_;rintro⟨j,O1,w1⟩ ⟨⟨uv,bv,kv,nv,h⟩,hU,a5,hj⟩;dsimp only at h hU a5 hj ⊢;have hk:=h.k.sl;have b8:(p.long j).check.length=p.check.length+j:=by simp[PSt.long]
 have b6:(p.long j).next.length=p.check.length+j:=by simp[PSt.long,hl]
 have b7:=hk.len_le;refine zh ?_;refine zvH (RV.ld h.c3 rfl) ?_;refine zC ?_ ?_
 ·intro b0;replace b0:p.check.length+j<=slot:=dT b0;refine zh ?_;refine zv (RV.ld h.c3 rfl) ?_;refine Jk yq h.k a5 (-1) (fun _=>rfl) rfl rfl rfl (by simp[I6]) zo zo zo zd rfl rfl ?_;intro a9 w2 O2 a4 a1 b';obtain⟨h3,a0⟩:=h.setK a1 a4;have a2:=h.blk.upd a1 zo zo;have b3:K1 B O2 (w2.setCell ⟨pb,3,none⟩ a9):=a5.upd a0;refine zh ?_;refine aj (j:=3) a2 rfl (L8 _) a4.one rfl rfl rfl ?_;refine zh ?_;refine zv (RV.ld h3.c4 rfl) ?_;have h3n:mh O2 (w2.setCell ⟨pb,3,none⟩ a9) (T+5) nv (p.long j).next:=h3.n;refine Jk yq h3n b3 (0) (fun _=>rfl) rfl rfl rfl (by simp[I6]) zo zo zo zd rfl rfl ?_;intro a8 w4 O4 a' a3 b9;obtain⟨h5,b2⟩:=h3.setN a3 a';have b5:=h3.blk.upd a3 zo zo;refine zh ?_;refine aj (j:=4) b5 rfl (L8 _) a'.one rfl rfl rfl ?_;refine zh ?_;have e:(p.long (j+1)) = { p.long j with check:=(p.long j).check++[-1],next:=(p.long j).next++[0] }:=by
   simp[PSt.long,List.replicate_succ']
  have hP:PkO T O4 (w4.setCell ⟨pb,4,none⟩ a8) pb (p.long (j+1)):=by rw[e];exact⟨_,_,_,_,h5⟩
  refine zxd (j+1,O4,w4.setCell ⟨pb,4,none⟩ a8) (⟨hP,(hU.trans a0).trans b2,b3.upd b2,zo⟩)
 intro b1;replace b1:¬p.check.length+j<=slot:=dF b1;obtain rfl:j=slot+1-p.check.length:=zo;have hN:=h.n.sl;refine zh ?_;refine aK (fun w1=>w1.cell? ⟨pb,3,none⟩=some kv/\w1.cell? ⟨pb,4,none⟩=some nv) 16 rfl zk ?_;refine zin ⟨h.c3,h.c4⟩ fun zS=>?_
 refine zrm 0 rfl zS rfl ?_;refine zr 1 rfl zS (fun _=>ak rfl) ?_
 refine zrf 2 rfl zS rfl ?_;refine zt 3 rfl zS (fun w1 a6=>RV.ld a6.1 rfl) ?_
 refine zrm 4 rfl zS rfl ?_;refine zrm 5 rfl zS rfl ?_
 refine zr 6 rfl zS (fun _=>ak rfl) ?_;refine zrf 7 rfl zS rfl ?_
 refine zt 8 rfl zS (fun w1 a6=>RV.ld a6.2 rfl) ?_;refine zrm 9 rfl zS rfl ?_
 refine zrm 10 rfl zS rfl ?_;refine zrm 11 rfl zS rfl ?_
 refine zr 12 rfl zS (fun _=>az hk.sh I0 (IP _) rfl rfl slot rfl zo) ?_;have h2:PkR T O1 w1.drew pb (p.long (slot+1-p.check.length)) uv bv kv nv:=⟨h.blk.drew,h.u.drew,h.b.drew,h.k.drew,h.n.drew⟩
 refine IG 13 zk rfl ?_;refine Ko h2.k slot zo row (IP _) rfl zo rfl rfl rfl rfl ?_
 intro w2 a4 a1;have a2:=h2.blk.upd a1 zo zo;refine zh ?_;refine af (⟨a2.cell 3 rfl,a2.cell 4 rfl⟩) ?_;refine zr 14 rfl (⟨a2.cell 3 rfl,a2.cell 4 rfl⟩) (fun _=>az hN.sh I0 (IP _) rfl rfl slot rfl zo) ?_;refine IG 15 zk rfl ?_;refine Ko (h2.n.upd a1 zo zo) slot zo entry (IP _) rfl zo rfl rfl rfl rfl ?_;intro w3 b4 a0;have a7:=a2.upd a0 zo zo;refine zh ?_;refine af (⟨a7.cell 3 rfl,a7.cell 4 rfl⟩) ?_;refine Jc zk ?_;have a3:IQ (iT T) O1 w1 O1 w3:=((a1.mono (by unfold iT;omega) (gw T)).trans (a0.mono (by unfold iT;omega) (gw T))).ofDrew;refine aD rfl (⟨O1,⟨uv,bv,kv,nv,⟨a7,(h2.u.upd a1 zo zo).upd a0 zo zo,(h2.b.upd a1 zo zo).upd a0 zo zo,a4.upd a0 zo zo,b4⟩⟩,hU.trans a3,a5.upd a3⟩)
theorem oq{F:L3}(hF:∀(args:Array ix) (w:ln),(callFunc F args).run IM w=.ok (.enter F args) w)(cs:Array ix)(l:List (Int))(sv:ix)(q:Nat->Bool)(w:ln)(h:Sl (fun x=>[nI x]) 1 w sv l) 
  (hq:∀i,i<l.length->∀w',Ju w w'->JE IM F ([nI (nth l i)]++cs.toList) w' fun v w''=>v=.bool (q i)/\Ju w' w'') :
  JE IM 242 [sv,.func (.func F) #[] cs] w fun v w'=>v=nI (dA q l.length)/\Ju w w':=by
 have hl:=h.len_le;refine I1 func242 ntmps242 rfl rfl ?_;refine zh ?_;refine zlp (fun x:Nat×ln=>[(0,sv),(1,.func (.func F) #[] cs),(7,nI l.length),(8,nI x.1)]) (fun x=>x.2) (fun x=>x.1<=l.length/\Ju w x.2/\∀i,i<x.1->q i=false) (fun x=>l.length-x.1) (0,w) (⟨I4 _,IX _,fun i hi=>absurd hi (IE i)⟩) ?_;rintro⟨k,w1⟩ ⟨hk,hE,a1⟩;dsimp only at hk hE a1 ⊢;have h1:=h.ext hE;refine zh ?_;refine zC ?_ ?_
 ·intro a0;replace a0:k<l.length:=dT a0;refine zh ?_;refine zv (RV.ld (h1.ld a0) rfl) ?_;refine dt rfl hF rfl (hq k a0 w1 hE) rfl ?_;rintro v w2 ⟨rfl,a3⟩;refine zh ?_;refine zC ?_ ?_
  ·intro hy;refine zh ?_;refine ae rfl rfl (⟨by rw[ck a0 hy a1],hE.trans a3⟩)
  intro hy;refine zh ?_;refine zxd (k+1,w2) (⟨a0,hE.trans a3,fun i hi=>(II.1 hi).elim (a1 i) (fun e=>by rw[e];exact hy)⟩)
 intro a2;replace a2:l.length<=k:=dF a2;refine zh ?_;refine ae rfl rfl (⟨by rw[cg fun i hi=>a1 i zo],hE⟩)
theorem lg{F:L3}(hF:∀(args:Array ix) (w:ln),(callFunc F args).run IM w=.ok (.enter F args) w)(cs:Array ix)(l:List (Int))(sv:ix)(q:Nat->Bool)(w:ln)(h:Sl (fun x=>[nI x]) 1 w sv l) 
  (hq:∀i,i<l.length->∀w',Ju w w'->JE IM F ([nI (nth l i)]++cs.toList) w' fun v w''=>v=.bool (q i)/\Ju w' w'') :
  JE IM 193 [sv,.func (.func F) #[] cs] w fun v w'=>v=.bool (iG q l.length)/\Ju w w':=by
 refine I1 func193 ntmps193 rfl rfl ?_;refine zh ?_
 refine zc call242 (oq hF cs l sv q w h hq) ?_;rintro v w1 ⟨rfl,hE⟩;refine zh ?_
 refine ae rfl rfl (⟨by rw[firstN_any],hE⟩)
theorem om{F:L3}(hF:∀(args:Array ix) (w:ln),(callFunc F args).run IM w=.ok (.enter F args) w)(cs:Array ix)(l:List (ix))(sv:ix)(q:Nat->Bool)(w:ln)(h:Sl (fun x=>[x]) 1 w sv l) 
  (hq:∀i,i<l.length->∀w',Ju w w'->JE IM F ([id (nth l i)]++cs.toList) w' fun v w''=>v=.bool (q i)/\Ju w' w'') :
  JE IM 96 [sv,.func (.func F) #[] cs] w fun v w'=>v=nI (dA q l.length)/\Ju w w':=by
 have hl:=h.len_le;refine I1 func96 ntmps96 rfl rfl ?_;refine zh ?_;refine zlp (fun x:Nat×ln=>[(0,sv),(1,.func (.func F) #[] cs),(7,nI l.length),(8,nI x.1)]) (fun x=>x.2) (fun x=>x.1<=l.length/\Ju w x.2/\∀i,i<x.1->q i=false) (fun x=>l.length-x.1) (0,w) (⟨I4 _,IX _,fun i hi=>absurd hi (IE i)⟩) ?_;rintro⟨k,w1⟩ ⟨hk,hE,a1⟩;dsimp only at hk hE a1 ⊢;have h1:=h.ext hE;refine zh ?_;refine zC ?_ ?_
 ·intro a0;replace a0:k<l.length:=dT a0;refine zh ?_;refine zv (RV.ld (h1.ld a0) rfl) ?_;refine dt rfl hF rfl (hq k a0 w1 hE) rfl ?_;rintro v w2 ⟨rfl,a3⟩;refine zh ?_;refine zC ?_ ?_
  ·intro hy;refine zh ?_;refine ae rfl rfl (⟨by rw[ck a0 hy a1],hE.trans a3⟩)
  intro hy;refine zh ?_;refine zxd (k+1,w2) (⟨a0,hE.trans a3,fun i hi=>(II.1 hi).elim (a1 i) (fun e=>by rw[e];exact hy)⟩)
 intro a2;replace a2:l.length<=k:=dF a2;refine zh ?_;refine ae rfl rfl (⟨by rw[cg fun i hi=>a1 i zo],hE⟩)
theorem ft{F:L3}(hF:∀(args:Array ix) (w:ln),(callFunc F args).run IM w=.ok (.enter F args) w)(cs:Array ix)(l:List (ix))(sv:ix)(q:Nat->Bool)(w:ln)(h:Sl (fun x=>[x]) 1 w sv l) 
  (hq:∀i,i<l.length->∀w',Ju w w'->JE IM F ([id (nth l i)]++cs.toList) w' fun v w''=>v=.bool (q i)/\Ju w' w'') :
  JE IM 59 [sv,.func (.func F) #[] cs] w fun v w'=>v=.bool (iG q l.length)/\Ju w w':=by
 refine I1 func59 ntmps59 rfl rfl ?_;refine zh ?_
 refine zc call96 (om hF cs l sv q w h hq) ?_;rintro v w1 ⟨rfl,hE⟩;refine zh ?_
 refine ae rfl rfl (⟨by rw[firstN_any],hE⟩)
theorem tz(a:Int)(b1 b2:Addr)(lo hi:Int)(w:ln)(h1:w.cell? b1=some (nI lo))(h2:w.cell? b2=some (nI hi)):
  JE IM 194 [nI a,.pointer (some b1),.pointer (some b2)] w fun v w'=>v=.bool (decide (a<lo)||decide (hi<a))/\w=w':=by
 refine I1 func194 ntmps194 rfl rfl ?_;refine zh ?_
 by_cases a0:a<lo
 ·refine aw (d:=8) rfl (b':=true) (decide_eq_true a0) ?_;refine zh ?_
  refine ae rfl rfl (⟨by simp[a0],rfl⟩)
 refine aw (d:=8) rfl (b':=false) (decide_eq_false a0) ?_;refine zh ?_
 refine ae rfl rfl (⟨by simp[a0],rfl⟩)
def inB(lo hi:Int)(l:List Int):Bool:=l.all fun n=>decide (lo<=n)&&decide (n<=hi)
theorem fc(lo hi:Int)(l:List Int)(lv:ix)(w:ln)(h:Kb w lv l):
  JE IM 139 [lv,nI lo,nI hi] w fun v w'=>v=.bool (inB lo hi l)/\Ju w w':=by
 refine I1 func139 ntmps139 rfl rfl ?_;refine zh ?_
 refine WL.box rfl rfl ?_;refine WL.box rfl rfl ?_
 refine zh ?_;refine zv (du rfl rfl) ?_
 have hE:Ju w ((w.alloc (.cells #[nI lo] 3)).alloc (.cells #[nI hi] 3)):=(Kz _ _).trans (Kz _ _);have c2:((w.alloc (.cells #[nI lo] 3)).alloc (.cells #[nI hi] 3)).cell? ⟨w.heap.size,0,none⟩=some (nI lo):=(Kz _ _).cell (by rw[KB _ _ _ _ rfl];rfl);have c3:((w.alloc (.cells #[nI lo] 3)).alloc (.cells #[nI hi] 3)).cell? ⟨(w.alloc (.cells #[nI lo] 3)).heap.size,0,none⟩=some (nI hi):=by rw[KB _ _ _ _ rfl];rfl
 refine zc call193 (lg call194 _ l lv (fun i=>decide (nth l i<lo)||decide (hi<nth l i)) _ (h.ext hE) (fun i hi w' a0=>(tz _ _ _ _ _ w' (a0.cell c2) (a0.cell c3)).mono fun v w'' ⟨e1,e2⟩=>⟨e1,e2▸IX _⟩)) ?_;rintro v w1 ⟨rfl,a1⟩;refine zh ?_
 refine ae rfl rfl (⟨?_,hE.trans a1⟩);rw[gM (l:=l) (p:=fun n=>decide (n<lo)||decide (hi<n)),inB,List.all_eq_not_any_not];congr 3;funext n;rw[Bool.eq_iff_iff];simp
def fw(row:List Int)(u:Int)(k:Nat):List Nat:=(IJ k).filter fun c=>nth row c != u
def bB(row:List Int)(u:Int):List Nat:=fw row u row.length
theorem jn(row:List Int)(u:Int)(k:Nat):fw row u (k+1)=if nth row k=u then fw row u k else fw row u k++[k]:=by
 unfold fw;rw[JP,List.filter_append]
 by_cases h:nth row k=u<;>simp[h]
theorem kh{row:List Int}{u:Int}{k c:Nat}(h:c∈fw row u k):c<k:=by
 simp only[fw,List.mem_filter,JF]at h;exact h.1
theorem yw(row:List Int)(u:Int)(k:Nat):(fw row u k).length<=k:=by
 have:=List.length_filter_le (fun c=>nth row c != u) (IJ k);simpa[fw]using this
def eo(a1:List Int)(a0:List Nat)(b:Nat):Bool:=a0.all (ow a1 b)
def fD(a1:List Int)(a0:List Nat):Nat:=((IJ (a1.length+1)).find? (eo a1 a0)).getD 0
theorem kQ(a1:List Int)(a0:List Nat):eo a1 a0 a1.length=true:=by
 rw[eo,IZ];intro c _;simp[ow]
theorem Bk{a1:List Int}{a0:List Nat}{b:Nat}(hb:eo a1 a0 b=true)(a2:∀j,j<b->eo a1 a0 j=false):fD a1 a0=b:=by
 have a3:b<=a1.length:=by
  refine Nat.le_of_not_lt fun h=>?_
  have:=a2 _ h;rw[kQ]at this;cases this
 have:(IJ (a1.length+1)).find? (eo a1 a0)=some b:=by
  rw[Kq];exact⟨hb,JF.2 zo,fun j hj=>by simp[a2 j hj]⟩
 rw[fD,this];rfl
theorem fY(a1:List Int)(a0:List Nat):eo a1 a0 (fD a1 a0)=true/\fD a1 a0<=a1.length/\∀j,j<fD a1 a0->eo a1 a0 j=false:=by
 have:∃b,(IJ (a1.length+1)).find? (eo a1 a0)=some b:=by
  cases hf:(IJ (a1.length+1)).find? (eo a1 a0)with
  |some j=>exact⟨j,rfl⟩
  |none=>rw[List.find?_eq_none]at hf;exact absurd (kQ a1 a0) (hf _ (JF.2 zo))
 obtain⟨b,hb⟩:=this;have h2:=hb;rw[Kq]at h2;have h3:=JF.1 h2.2.1;rw[fD,hb];exact⟨h2.1,by simpa using(by omega:b<=a1.length),fun j hj=>by simpa using h2.2.2 j hj⟩
def PSt.lay(p:PSt)(row:List Int):PSt:=
 let u:=bC row
 let a0:=bB row u
 let b:=fD p.check a0
 let q:=a0.foldl (fun q c=>q.take (b+c) p.base.length (nth row c)) p
 { q with usual:=q.usual++[u],base:=q.base++[(b:Int)] }
theorem lS{p:PSt}{s:Nat}{r e:Int}(h:p.next.length=p.check.length):(p.take s r e).next.length=(p.take s r e).check.length:=by simp[PSt.take,PSt.long,h]
def xD(T:Nat)(i:Nat):Prop:=T+1<=i/\i<=T+6
theorem rZ(T:Nat):¬xD T 0:=by unfold xD;omega
abbrev G8(O:Nat->Nat)(w:ln)(i:Nat)(v:ix)(l:List Nat):Prop:=JS (fun(x:Nat)=>[nI (x:Int)]) 3 1 O w i v l
theorem uc(T pb:Nat)(p:PSt)(row:List Int)(rv:ix)(B:Nat)(O:Nat->Nat)(w:ln)(hp:PkO T O w pb p)(hR:K1 B O w)
  (a3:∀w',RowKit.Below B w w'->Kb w' rv row) (e3:0<row.length) (hw:row.length<=64) (hl:p.next.length=p.check.length) (g2:p.check.length<=100000)
  (d':p.usual.length<=100000) (e7:p.base.length<=100000) :
  JE IM 192 [nP pb,rv] w fun _ w'=>∃O',PkO T O' w' pb (p.lay row)/\IQ (xD T) O w O' w'/\K1 B O' w':=by
 have f':=(a3 w (Kj _ _)).len_le;refine I1 func192 ntmps192 rfl rfl ?_;refine zg ?_;refine zc call239 (yV row rv w (a3 w (Kj _ _)) e3) ?_;rintro v w1 ⟨rfl,d5⟩;have b8:IQ (xD T) O w O w1:=aa (rZ T) O d5;have g6:=hR.upd b8;have e2:PkO T O w1 pb p:=hp.upd (aa (S:=fun _=>False) (fun h=>h) O d5) (fun _ _ h=>h);generalize hu:bC row=u;refine zg ?_;refine zvG (Jy (by first|exact a3 _ (b8.below hR)) I0 rfl) ?_;refine zlp (fun x:Nat×(Nat->Nat)×World×ix=>[(0,nP pb),(1,rv),(4,nI u),(5,x.2.2.2),(13,rv),(14,nI row.length),(15,nI x.1)]) (fun x=>x.2.2.1) (fun x=>x.1<=row.length/\PkO T x.2.1 x.2.2.1 pb p/\G8 x.2.1 x.2.2.1 (T+6) x.2.2.2 (fw row u x.1)/\IQ (xD T) O w x.2.1 x.2.2.1) (fun x=>row.length-x.1) (0,O,w1,nS) (⟨I4 _,e2,IU _ _ _ _ _ _,b8⟩) ?_;rintro⟨k,O2,w2,cv⟩ ⟨hk,b2,a4,a9⟩;dsimp only at hk b2 a4 a9 ⊢;have f6:=hR.upd a9;have c7:=a3 w2 (a9.below hR);refine zg ?_;refine zC ?_ ?_
 ·intro a1;replace a1:k<row.length:=by have:=of_decide_eq_true a1;omega
  have g1:=yw row u k;refine zg ?_;refine zv (J8 (by first|exact c7) I0 (IP _) rfl rfl _ rfl zo) ?_;refine zvG (RV.ld (c7.ld zo) rfl) ?_;refine zC ?_ ?_
  ·intro a6;replace a6:nth row k≠u:=by simpa using a6
   refine zg ?_;refine Jk yq a4 f6 (k) (fun _=>rfl) rfl rfl rfl (by simp[I6]) zo zo zo zd rfl rfl ?_
   intro f7 w3 O3 b7 d4 g5;refine zg ?_;refine zvG (Jz rfl rfl (Jb zo)) ?_;refine zxd (k+1,O3,w3,f7) (⟨a1,b2.upd d4 (by unfold iT;omega),by dsimp only;rw[jn,if_neg a6];exact b7,a9.trans (d4.mono (by unfold xD;omega) (rZ T))⟩)
  intro b6;replace b6:nth row k=u:=by simpa using b6
  refine zg ?_;refine zvG (Jz rfl rfl (Jb zo)) ?_
  refine zxd (k+1,O2,w2,cv) (⟨a1,b2,by dsimp only;rw[jn,if_pos b6];exact a4,a9⟩)
 intro b5;obtain rfl:k=row.length:=by have:=of_decide_eq_false b5;omega
 obtain⟨uv,bv,kv,nv,h⟩:=b2;have a5:∀c∈bB row u,c<=64:=fun c hc=>by have:=kh hc;omega
 replace a4:G8 O2 w2 (T+6) cv (bB row u):=a4;refine zg ?_;refine zlp (fun b:Nat=>[(0,nP pb),(1,rv),(4,nI u),(5,cv),(8,nI b)]) (fun b=>w2) (fun b=>b<=p.check.length/\∀j,j<b->eo p.check (bB row u) j=false) (fun b=>p.check.length-b) 0 (⟨I4 _,fun j hj=>absurd hj (IE j)⟩) ?_;intro b ⟨hb,c'⟩;refine zg ?_;refine zc call240 (xV pb cv kv (bB row u) p.check b w2 h.c3 h.k.sl a4.sl a5 zo) ?_;rintro v _ ⟨rfl,rfl⟩;refine zg ?_;refine zC ?_ ?_
 ·intro a2;replace a2:eo p.check (bB row u) b=false:=by rw[JL]at a2;exact a2
  have a1:b<p.check.length:=by
   refine Nat.lt_of_le_of_ne hb fun e=>?_
   rw[e,kQ]at a2;cases a2
  refine zg ?_;refine zvG (Jz rfl rfl (Jb zo)) ?_
  refine zxd (b+1) (⟨a1,fun j hj=>(II.1 hj).elim (c' j) (fun e=>by rw[e];exact a2)⟩)
 intro a0;replace a0:eo p.check (bB row u) b=true:=by rw[Bool.not_eq_false']at a0;exact a0
 have a':=Bk a0 c';have e5:=a4.sl;refine zg ?_;refine zvG (Jy (by first|exact e5) I0 rfl) ?_;refine zlp (fun x:Nat×(Nat->Nat)×World=>[(0,nP pb),(1,rv),(4,nI u),(5,cv),(8,nI b),(35,cv),(36,nI (bB row u).length),(37,nI x.1)]) (fun x=>x.2.2) (fun x=>x.1<=(bB row u).length/\G8 x.2.1 x.2.2 (T+6) cv (bB row u)/\IQ (xD T) O w x.2.1 x.2.2/\(∃q:PSt,q=((bB row u).take x.1).foldl (fun q c=>q.take (b+c) p.base.length (nth row c)) p/\PkO T x.2.1 x.2.2 pb q/\q.base=p.base/\q.usual=p.usual/\q.next.length=q.check.length)) (fun x=>(bB row u).length-x.1) (0,O2,w2) (⟨I4 _,a4,a9,p,rfl,⟨uv,bv,kv,nv,h⟩,rfl,rfl,hl⟩) ?_;rintro⟨k,O4,w4⟩ ⟨e4,a7,b1,q,hq,⟨d7,d6,d9,d8,h4⟩,b4,c8,c9⟩;dsimp only at e4 a7 b1 hq h4 ⊢;have b9:=hR.upd b1;have c6:=a3 w4 (b1.below hR);have a8:=a7.sl;have e':=h4.b.sl;have g0:=a8.len_le;refine zg ?_;refine zC ?_ ?_
 ·intro a1;replace a1:k<(bB row u).length:=by have:=of_decide_eq_true a1;omega
  have e6:=a5 _ (aJ a1);have d0:=kh (aJ a1);refine zg ?_;refine zv (J8 (by first|exact a8) I0 (IP _) rfl rfl _ rfl zo) ?_;refine zvG (RV.ld (a8.ld zo) rfl) ?_;refine Kh 13 rfl rfl zk zk ?_;refine zg ?_;refine zwG (Jz rfl rfl (Jb zo)) ?_;refine zw (RV.ld h4.c2 rfl) ?_;refine zwG (Jy ((e').drew) I0 rfl) ?_;refine zw (J8 c6.drew I0 (IP _) rfl rfl (nth (bB row u) k) rfl d0) ?_;refine zw (RV.ld (c6.ld d0) rfl) ?_;refine La ?_;have e1:PkO T O4 w4.drew pb q:=⟨d7,d6,d9,d8,h4.blk.drew,h4.u.drew,h4.b.drew,h4.k.drew,h4.n.drew⟩
  rw[show(q.base.length:Int)=(p.base.length:Int)from by rw[b4]];refine zc call241 (BW T pb q (b+nth (bB row u) k) p.base.length (nth row (nth (bB row u) k)) B O4 w4.drew e1 b9.drew zo c9) ?_;rintro v w5 ⟨O5,e0,b0,f5⟩;have b3:IQ (xD T) O4 w4 O5 w5:=(b0.mono (fun i hi=>by unfold iT at hi;unfold xD;omega) (rZ T)).ofDrew;refine zg ?_;refine zvG (Jz rfl rfl (Jb zo)) ?_;refine zxd (k+1,O5,w5) (⟨a1,a7.drew.upd b0 zo (by unfold iT;omega),b1.trans b3,_,?_,e0,b4,c8,lS c9⟩);rw[aM a1,IY,<-hq];rfl
 intro b5;obtain rfl:k=(bB row u).length:=by have:=of_decide_eq_false b5;omega
 rw[IR]at hq;refine zg ?_;refine zvG (RV.ld h4.c1 rfl) ?_;have f9:q.usual.length<=100000:=by rw[c8];exact d'
 refine Jk yq h4.u b9 (u) (fun _=>rfl) rfl rfl rfl (by simp[I6]) zo zo zo zd rfl rfl ?_;intro b' w5 O5 c5 b0 f5;obtain⟨h5,b3⟩:=h4.setU b0 c5;have e9:=h4.blk.upd b0 zo zo;have f4:K1 B O5 (w5.setCell ⟨pb,1,none⟩ b'):=b9.upd b3;refine zg ?_
 refine aj (j:=1) e9 rfl (L8 _) c5.one rfl rfl rfl ?_;refine zg ?_
 refine zvG (RV.ld h5.c2 rfl) ?_;have h5b:mh O5 (w5.setCell ⟨pb,1,none⟩ b') (T+3) d6 q.base:=h5.b;have g3:q.base.length<=100000:=by rw[b4];exact e7
 refine Jk yq h5b f4 (b) (fun _=>rfl) rfl rfl rfl (by simp[I6]) zo zo zo zd rfl rfl ?_;intro f8 w6 O6 d1 d3 g4;obtain⟨h6,f3⟩:=h5.setB d3 d1;have e8:=h5.blk.upd d3 zo zo;refine zg ?_
 refine aj (j:=2) e8 rfl (L8 _) d1.one rfl rfl rfl ?_;refine zg ?_
 have d2:IQ (xD T) O w O6 (w6.setCell ⟨pb,2,none⟩ f8):=(b1.trans (b3.mono (fun i hi=>by unfold iT at hi;unfold xD;omega) (rZ T))).trans (f3.mono (fun i hi=>by unfold iT at hi;unfold xD;omega) (rZ T));refine aD rfl (⟨O6,?_,d2,hR.upd d2⟩);have e:p.lay row = { q with usual:=q.usual++[u],base:=q.base++[(b:Int)] }:=by simp only[PSt.lay,hu];rw[a',<-hq]
 rw[e];exact⟨_,_,_,_,h6⟩
theorem FS:cF IM 26 #[(0,1),(1,1),(2,1),(3,1),(4,1)]:=⟨_,underlying26,fun w=>by kernel_rfl⟩
def Rows(w:ln)(v:ix)(L:List (List Int)):Prop:=
 ∃rvs:List ix,Sl (fun x=>[x]) 1 w v rvs/\rvs.length=L.length/\∀i,i<L.length->Kb w (nth rvs i) (nth L i)
theorem Rows.ext{w w':ln}{v:ix}{L:List (List Int)}(h:Rows w v L)(e:Ju w w'):Rows w' v L:=by
 obtain⟨a0,h1,h2,h3⟩:=h;exact⟨a0,h1.ext e,h2,fun i hi=>(h3 i hi).ext e⟩
def gL(a0:Int)(row:List Int):Bool:=(row.length:Int) != a0 || !(inB 0 65535 row)
theorem D9(a0:Int)(row:List Int)(rv:ix)(b:Addr)(w:ln)(h:Kb w rv row)(hb:w.cell? b=some (nI a0)):
  JE IM 191 [rv,.pointer (some b)] w fun v w'=>v=.bool (gL a0 row)/\Ju w w':=by
 refine I1 func191 ntmps191 rfl rfl ?_;refine zh ?_
 by_cases hl:(row.length:Int)=a0
 ·refine aw (d:=8) rfl (b':=false) (by simpa using hl) ?_;refine zh ?_
  refine zc KW (fc 0 65535 row rv w h) ?_;rintro v w1 ⟨rfl,hE⟩;refine zh ?_
  refine ae rfl rfl (⟨by simp[gL,hl],hE⟩)
 refine aw (d:=8) rfl (b':=true) (by simpa using hl) ?_;refine zh ?_
 refine ae rfl rfl (⟨by simp[gL,hl],IX _⟩)
def bO(a0:Int)(L:List (List Int)):Bool:=decide (a0<1)||decide (64<a0)||decide (1000<L.length)||L.any (gL a0)
def kM(a0:Int)(L:List (List Int)):PSt:=L.foldl PSt.lay ⟨a0,[],[],[],[]⟩
def PkV(w:ln)(v:ix)(p:PSt):Prop:=
 ∃uv bv kv nv,v=.agg #[nI p.width,uv,bv,kv,nv]/\Kb w uv p.usual/\Kb w bv p.base/\Kb w kv p.check/\Kb w nv p.next
theorem PkV.ext{w w':ln}{v:ix}{p:PSt}(h:PkV w v p)(e:Ju w w'):PkV w' v p:=by
 obtain⟨uv,bv,kv,nv,h0,h1,h2,h3,h4⟩:=h;exact⟨uv,bv,kv,nv,h0,h1.ext e,h2.ext e,h3.ext e,h4.ext e⟩
theorem qT(p:PSt)(s:Nat)(r e:Int):(p.take s r e).check.length=max p.check.length (s+1)/\(p.take s r e).usual=p.usual/\(p.take s r e).base=p.base/\(p.take s r e).width=p.width:=by
 simp[PSt.take,PSt.long];omega
theorem jW(f:Nat->Int)(b:Nat)(r:Int):∀(a0:List Nat) (p:PSt),(∀c∈a0,c<64)->p.next.length=p.check.length->
  let q:=a0.foldl (fun q c=>q.take (b+c) r (f c)) p
  q.check.length<=max p.check.length (b+64)/\q.usual=p.usual/\q.base=p.base/\q.width=p.width/\q.next.length=q.check.length
 |[],p,_,hl=>⟨by simp;omega,rfl,rfl,rfl,hl⟩
 |c::a0,p,hc,hl=>by
  have h:=jW f b r a0 (p.take (b+c) r (f c)) (fun x hx=>hc x (by simp[hx])) (lS hl);obtain⟨t1,t2,t3,t4⟩:=qT p (b+c) r (f c);have:=hc c (by simp);simp only[I8]at h ⊢;rw[t1,t2,t3,t4]at h;exact⟨zo,h.2⟩
theorem gW(p:PSt)(row:List Int)(hw:row.length<=64)(hl:p.next.length=p.check.length):
  (p.lay row).check.length<=p.check.length+64/\(p.lay row).usual=p.usual++[bC row]/\(p.lay row).base.length=p.base.length+1/\(p.lay row).width=p.width/\(p.lay row).next.length=(p.lay row).check.length:=by
 have hb:=(fY p.check (bB row (bC row))).2.1;obtain⟨h1,h2,h3,h4,h5⟩:=jW (fun c=>nth row c) (fD p.check (bB row (bC row))) p.base.length (bB row (bC row)) p (fun c hc=>by have:=kh hc;omega) hl;refine⟨?_,?_,?_,h4,h5⟩
 ·simp only[PSt.lay];omega
 ·simp only[PSt.lay];rw[h2]
 simp only[PSt.lay];rw[h3];simp
def PkF(B:Nat)(v:ix):Prop:=∃wd uv bv kv nv,v=.agg #[wd,uv,bv,kv,nv]/\KY B uv/\KY B bv/\KY B kv/\KY B nv
theorem mT(width:Int)(L:List (List Int))(rv:ix)(w:ln)(h:Rows w rv L):
  JE IM 138 [nI width,rv] w fun v w'=>∃pv e,v=.tuple #[pv,nI e]/\PkV w' pv (if bO width L then⟨0,[],[],[],[]⟩else kM width L)/\e=(if bO width L then 1 else 0)/\Ju w w'/\(bO width L=false->PkF w.heap.size pv):=by
 obtain⟨a4,hr,b1,c6⟩:=h;have f5:=hr.len_le;refine I1 func138 ntmps138 rfl rfl ?_;refine zh ?_;refine aH (ay w) 1 zo rfl rfl ?_;intro bw w1 O1 e0 e1 e7 f3;refine au e7 2 zo (JA _) rfl ?_;intro br w2 O2 a1 d3 e6 e';have a':=e0.upd d3 zd zd;have cw:∀w',Ju w2 w'->w'.cell? ⟨bw,0,none⟩=some (nI width):=fun w' e=>e.cell (a'.cell 0 rfl)
 have hE:=f3.trans e';have hU:=(e1.mono (S':=fun j=>1<=j/\j<=16) zo zo).trans (d3.mono zo zo);have d5:=hr.ext hE;refine zh ?_;refine zvH (du rfl rfl) ?_;refine zvH (RV.ld (cw _ (IX _)) rfl) ?_;have b4:∀(w3:ln),Ju w w3->bO width L=true->
   ∃pv e,Value.tuple #[.agg #[nI 0,nS,nS,nS,nS],nI 1]=.tuple #[pv,nI e]/\PkV w3 pv (if bO width L then⟨0,[],[],[],[]⟩else kM width L)/\e=(if bO width L then 1 else 0)/\Ju w w3/\(bO width L=false->PkF w.heap.size pv):=by
  intro w3 he hb;rw[hb];exact⟨_,_,rfl,⟨_,_,_,_,rfl,(IU _ 3 _ (fun _=>0) w3 1).sl,(IU _ 3 _ (fun _=>0) w3 1).sl,(IU _ 3 _ (fun _=>0) w3 1).sl,(IU _ 3 _ (fun _=>0) w3 1).sl⟩,rfl,he,fun h=>absurd h zd⟩
 by_cases h1:width<1
 ·refine aw (d:=13) rfl (b':=true) (decide_eq_true h1) ?_;refine zh ?_
  refine zTH rfl rfl ?_;refine zv (aF FS (JA _) rfl (by first|rfl|(simp only[IH,J6];rfl)) rfl rfl) ?_
  refine bp a1 rfl (Jd _) rfl rfl rfl rfl ?_;refine zh ?_
  refine bf rfl rfl rfl ((a1.setRow).cellsAdd) (Ka _) (Jd _) (b4 _ (hU.trans (IF zo a1.tag zo)).ext (by simp[bO,h1]))
 refine aw (d:=13) rfl (b':=false) (decide_eq_false h1) ?_;refine zh ?_
 refine zvH (RV.ld (cw _ (IX _)) rfl) ?_
 by_cases h2:64<width
 ·refine aw (d:=17) rfl (b':=true) (decide_eq_true h2) ?_;refine zh ?_
  refine zTH rfl rfl ?_;refine zv (aF FS (JA _) rfl (by first|rfl|(simp only[IH,J6];rfl)) rfl rfl) ?_
  refine bp a1 rfl (Jd _) rfl rfl rfl rfl ?_;refine zh ?_
  refine bf rfl rfl rfl ((a1.setRow).cellsAdd) (Ka _) (Jd _) (b4 _ (hU.trans (IF zo a1.tag zo)).ext (by simp[bO,h2]))
 refine aw (d:=17) rfl (b':=false) (decide_eq_false h2) ?_;refine zh ?_
 by_cases h3:1000<L.length
 ·refine aw (d:=22) rfl (b':=true) (by rw[b1];exact decide_eq_true zo) ?_;refine zh ?_
  refine zTH rfl rfl ?_;refine zv (aF FS (JA _) rfl (by first|rfl|(simp only[IH,J6];rfl)) rfl rfl) ?_
  refine bp a1 rfl (Jd _) rfl rfl rfl rfl ?_;refine zh ?_
  refine bf rfl rfl rfl ((a1.setRow).cellsAdd) (Ka _) (Jd _) (b4 _ (hU.trans (IF zo a1.tag zo)).ext (by simp[bO,h3]))
 refine aw (d:=22) rfl (b':=false) (by rw[b1];exact decide_eq_false zo) ?_;refine zh ?_
 refine zc call59 (ft call191 _ a4 rv (fun i=>gL width (nth L i)) _ d5 (fun i hi w' c5=>D9 width (nth L i) (nth a4 i) _ w' (((c6 i zo).ext hE).ext c5) (cw w' c5))) ?_;rintro v w3 ⟨rfl,b3⟩;rw[b1,gM (p:=gL width)];have a2:=a1.upd (aa (S:=fun _=>False) (fun h=>h) O2 b3) zd (fun h=>h);have b6:=a'.upd (aa (S:=fun _=>False) (fun h=>h) O2 b3) zd (fun h=>h);have d2:=hU.trans (aa zo O2 b3);refine zh ?_
 refine zC ?_ ?_
 ·intro a3;refine zh ?_;refine zv (aF FS (JA _) rfl (by first|rfl|(simp only[IH,J6];rfl)) rfl rfl) ?_;refine bp a2 rfl (Jd _) rfl rfl rfl rfl ?_;refine zh ?_;refine bf rfl rfl rfl ((a2.setRow).cellsAdd) (Ka _) (Jd _) (b4 _ (d2.trans (IF zo a2.tag zo)).ext (by simp only[bO,a3];simp))
 intro a5;have a3:bO width L=false:=by simp only[bO,a5];simp[h1,h2,h3]
 have e5:=e6.ext b3;refine zh ?_;refine zv (RV.ld (b6.cell 0 rfl) rfl) ?_;refine zv (aF FS (JA _) rfl (by first|rfl|(simp only[IH,J6];rfl)) rfl rfl) ?_;refine au e5 11 zo (JA _) rfl ?_;intro pb w4 O4 b2 d1 e4 f6;refine zsa (us:=#[nI width,nS,nS,nS,nS]) b2 (Jd _) ?_;have d0:IQ (fun j=>1<=j/\j<=16) O4 w4 O4 (w4.setRow pb #[nI width,nS,nS,nS,nS]):=IF zo b2.tag zo;have b8:J7 O4 (w4.setRow pb #[nI width,nS,nS,nS,nS]) 2 br _ 26:=(a2.upd d1 zd zd).upd (IF (S:=fun j=>j=11) zd b2.tag rfl) zd zd;have e9:PkO 10 O4 (w4.setRow pb #[nI width,nS,nS,nS,nS]) pb ⟨width,[],[],[],[]⟩:=⟨_,_,_,_,b2.setRow,IU _ _ _ _ _ _,IU _ _ _ _ _ _,IU _ _ _ _ _ _,IU _ _ _ _ _ _⟩
 have c':=(d2.trans (d1.mono (S':=fun j=>1<=j/\j<=16) zo zo)).trans d0;have e3:=e4.upd d0;generalize w4.setRow pb #[nI width,nS,nS,nS,nS]=w5 at *;have f4:1<=width/\width<=64/\L.length<=1000:=zo;have a9:∀i,i<L.length->((nth L i).length:Int)=width:=fun i hi=>by
  have:=JY.1 a5 _ (aJ hi);simp only[gL,K7,not_or,bne_iff_ne,ne_eq,KA]at this;exact this.1
 refine zh ?_;refine zvH (Jy (by first|exact hr.ext c'.ext) KM rfl) ?_
 refine zlp (fun x:Nat×(Nat->Nat)×World=>[(1,rv),(4,nP br),(7,nP pb),(30,rv),(31,nI a4.length),(32,nI x.1)]) (fun x=>x.2.2) (fun x=>x.1<=a4.length/\J7 x.2.1 x.2.2 2 br #[nI 0,nS,nS,nS,nS] 26/\K1 w.heap.size x.2.1 x.2.2/\IQ (fun j=>1<=j/\j<=16) (fun _=>0) w x.2.1 x.2.2/\(∃q,q=(L.take x.1).foldl PSt.lay ⟨width,[],[],[],[]⟩/\PkO 10 x.2.1 x.2.2 pb q/\q.check.length<=64*x.1/\q.usual.length=x.1/\q.base.length=x.1/\q.next.length=q.check.length)) (fun x=>a4.length-x.1) (0,O4,w5) (⟨I4 _,b8,e3,c',_,rfl,e9,by simp,rfl,rfl,rfl⟩) ?_;rintro⟨k,O7,w7⟩ ⟨hk,a0,a8,b0,q,hq,b9,d7,c7,d8,c8⟩;dsimp only at hk a0 a8 b0 hq b9 d7 c7 d8 ⊢;have d4:=hr.ext b0.ext;refine zh ?_
 refine zC ?_ ?_
 ·intro b5;replace b5:k<a4.length:=dT b5;have a6:k<L.length:=zo;have d9:=a9 k a6;refine zh ?_;refine zvH (RV.ld (d4.ld zo) rfl) ?_;refine zc call192 (uc 10 pb q (nth L k) (nth a4 k) w.heap.size O7 w7 b9 a8 (fun w' hB=>(c6 k a6).ext (LB b0.ext hB)) zo zo c8 zo zo zo) ?_;rintro v w8 ⟨O8,e8,c9,e2⟩;have b7:=a0.upd c9 zd (by unfold xD;omega);obtain⟨l1,l2,l3,l4,l5⟩:=gW q (nth L k) zo c8;refine zh ?_;refine zxd (k+1,O8,w8) (⟨b5,b7,e2,b0.trans (c9.mono (by unfold xD;omega) zo),_,?_,e8,zo,by rw[l2];simp[c7],zo,l5⟩);rw[aM a6,IY,<-hq];rfl
 intro d';obtain rfl:k=a4.length:=by have:=of_decide_eq_false d';omega
 rw[b1,IR]at hq;obtain⟨uv,bv,kv,nv,h7⟩:=b9;refine zh ?_;refine zv (ah h7.blk.cellsAdd (Ka _) (Jd _) rfl) ?_;refine zsb (us:=#[nI q.width,uv,bv,kv,nv]) a0 (Jd _) (by simp only[IH,h7.u.one,h7.b.one,h7.k.one,h7.n.one];rfl) ?_;have a7:IQ (fun j=>j=2) O7 w7 O7 (w7.setRow br #[nI q.width,uv,bv,kv,nv]):=IF zd a0.tag rfl;have h9:=h7.upd a7 (by unfold iT;omega);have d6:kM width L=q:=hq.symm;refine zh ?_;refine bf rfl rfl rfl ((a0.setRow).cellsAdd) (Ka _) (Jd _) (⟨_,_,rfl,⟨uv,bv,kv,nv,?_,?_,?_,?_,?_⟩,by rw[a3];rfl,(b0.trans (a7.mono zo zo)).ext,fun _=>⟨_,uv,bv,kv,nv,rfl,h9.u.newV zd (a8.upd a7),h9.b.newV zd (a8.upd a7),h9.k.newV zd (a8.upd a7),h9.n.newV zd (a8.upd a7)⟩⟩)
 all_goals rw[a3,if_neg Bool.false_ne_true,d6]
 ·exact h9.u.sl
 ·exact h9.b.sl
 ·exact h9.k.sl
 exact h9.n.sl
def uH(n:Int):Bool:=decide (0<=n)
def ef(l:List Int):Nat:=l.countP uH
def xk(row:List Int)(u:Int):Nat:=row.countP fun n=>n != u
def kO(L:List (List Int))(us:List Int)(i:Nat):Nat:=((IJ i).map fun j=>xk (nth L j) (nth us j)).sum
theorem sf(L:List (List Int))(us:List Int)(i:Nat):kO L us (i+1)=kO L us i+xk (nth L i) (nth us i):=by
 simp[kO,JP]
theorem yx(row:List Int)(u:Int):(bB row u).length=xk row u:=by
 have a0:∀k,k<=row.length->(fw row u k).length=(row.take k).countP (fun n=>n != u):=by
  intro k
  induction k with
  |zero=>intro _;rfl
  |succ k ih=>
   intro hk;rw[jn,aM zo,KU];have:=ih zo
   by_cases h:nth row k=u
   ·rw[if_pos h,this];simp[h]
   rw[if_neg h,Ji,this];simp[h]
 have:=a0 row.length (IL _)
 rwa[IR]at this
def pg(a0:List Int)(s:Nat):Prop:=a0.length<=s\/nth a0 s = -1
theorem AT{a0:List Int}{b c:Nat}:ow a0 b c=true↔pg a0 (b+c):=by
 simp only[ow,pg,JL,Bool.and_eq_false_iff,decide_eq_false_iff_not]
 constructor
 ·rintro(h|h)
  ·exact .inl zo
  exact .inr (by simpa using h)
 rintro(h|h)
 ·exact .inl zo
 exact .inr (by simpa using h)
theorem xH{l:List Int}{s:Nat}{r:Int}(hs:s<l.length)(hf:nth l s = -1)(hr:0<=r):ef (l.set s r)=ef l+1:=by
 induction l generalizing s with
 |nil=>simp at hs
 |cons a l ih=>
  cases s with
  |zero=>rw[ao]at hf;subst hf;simp[ef,uH,hr]
  |succ s=>
   rw[aI]at hf;have:=ih (by simpa using hs) hf;simp only[ef,List.set_cons_succ,List.countP_cons]at this ⊢;omega
theorem tE(l:List Int)(j:Nat):ef (l++I2 j (-1))=ef l:=by
 simp only[ef,KU];have:(I2 j (-1:Int)).countP uH=0:=by rw[List.countP_eq_zero];intro a ha;rw[JM ha];decide
 omega
theorem zm(p:PSt)(s:Nat)(r e:Int)(hf:pg p.check s)(hr:0<=r):
  ef (p.take s r e).check=ef p.check+1/\(∀t,t≠s->pg p.check t->pg (p.take s r e).check t)/\
  ((p.check=[]\/0<=nth p.check (p.check.length-1))->(0<=nth (p.take s r e).check ((p.take s r e).check.length-1))):=by
 have a2:(p.check++I2 (s+1-p.check.length) (-1:Int)).length=max p.check.length (s+1):=by simp;omega
 have a0:s<(p.check++I2 (s+1-p.check.length) (-1:Int)).length:=zo;have a1:∀j i,nth (I2 j (-1:Int)) i = -1\/j<=i:=fun j i=>by
  by_cases h:i<j
  ·left;rw[aC (by simpa using h)];simp
  right;omega
 have hs:nth (p.check++I2 (s+1-p.check.length) (-1:Int)) s = -1:=by
  rw[aA]
  split
  ·rename_i h;rcases hf with h2|h2
   ·omega
   exact h2
  rename_i h;exact(a1 _ _).resolve_right zo
 have hc:(p.take s r e).check=(p.check++I2 (s+1-p.check.length) (-1)).set s r:=rfl;refine⟨?_,fun t ht a3=>?_,fun hl=>?_⟩
 ·rw[hc,xH a0 hs hr,tE]
 ·rw[hc]
  rcases a3 with h|h
  ·by_cases h2:(p.check++I2 (s+1-p.check.length) (-1:Int)).length<=t
   ·exact .inl (by simpa using h2)
   refine .inr ?_;rw[aW a0,if_neg ht,aA,if_neg zo];exact(a1 _ _).resolve_right zo
  by_cases h2:t<p.check.length
  ·refine .inr ?_;rw[aW a0,if_neg ht,aA,if_pos h2,h]
  by_cases h3:(p.check++I2 (s+1-p.check.length) (-1:Int)).length<=t
  ·exact .inl (by simpa using h3)
  refine .inr ?_;rw[aW a0,if_neg ht,aA,if_neg zo];exact(a1 _ _).resolve_right zo
 rw[hc,aW a0,Lh,a2]
 split
 ·exact hr
 rename_i hne;have h3:s+1<=p.check.length:=zo;rw[aA,if_pos zo,show max p.check.length (s+1)-1=p.check.length-1 from by omega]
 rcases hl with h|h
 ·rw[h]at h3;simp at h3
 exact h
theorem sM(f:Nat->Int)(b:Nat)(r:Int)(hr:0<=r):∀(a0:List Nat) (p:PSt),a0.Nodup->(∀c∈a0,pg p.check (b+c))->
  let q:=a0.foldl (fun q c=>q.take (b+c) r (f c)) p
  ef q.check=ef p.check+a0.length/\((p.check=[]\/0<=nth p.check (p.check.length-1))->(q.check=[]\/0<=nth q.check (q.check.length-1)))
 |[],p,_,_=>⟨by simp,fun h=>h⟩
 |c::a0,p,hnd,hf=>by
  obtain⟨hc,a1⟩:=Le.1 hnd;obtain⟨h1,h2,h3⟩:=zm p (b+c) r (f c) (hf c (by simp)) hr;obtain⟨g1,g2⟩:=sM f b r hr a0 (p.take (b+c) r (f c)) a1 (fun x hx=>h2 (b+x) (fun e=>hc ((by omega:x=c)▸hx)) (hf x (by simp[hx])));refine⟨?_,fun h=>?_⟩
  ·simp only[I8,IS];rw[g1,h1];omega
  simp only[I8];exact g2 (.inr (h3 h))
theorem lH(row:List Int)(u:Int):(bB row u).Nodup:=LO List.filter_sublist List.nodup_range
theorem Cw(p:PSt)(row:List Int):ef (p.lay row).check=ef p.check+xk row (bC row)/\
  ((p.check=[]\/0<=nth p.check (p.check.length-1))->((p.lay row).check=[]\/0<=nth (p.lay row).check ((p.lay row).check.length-1))):=by
 have a0:=(fY p.check (bB row (bC row))).1;rw[eo,IZ]at a0;have:=sM (fun c=>nth row c) (fD p.check (bB row (bC row))) p.base.length zo (bB row (bC row)) p (lH _ _) (fun c hc=>AT.1 (a0 c hc));rw[yx]at this;exact this
theorem oM(width:Int)(L:List (List Int))(hw:∀r∈L,r.length<=64):
  let q:=kM width L
  q.usual=L.map bC/\q.base.length=L.length/\q.next.length=q.check.length/\q.check.length<=64*L.length/\q.width=width/\ef q.check=kO L q.usual L.length/\(q.check=[]\/0<=nth q.check (q.check.length-1)):=by
 have a1:∀k,k<=L.length->let q:=(L.take k).foldl PSt.lay ⟨width,[],[],[],[]⟩
   q.usual=(L.take k).map bC/\q.base.length=k/\q.next.length=q.check.length/\q.check.length<=64*k/\q.width=width/\ef q.check=kO L ((L.take k).map bC) k/\(q.check=[]\/0<=nth q.check (q.check.length-1)):=by
  intro k
  induction k with
  |zero=>intro _;exact⟨rfl,rfl,rfl,by simp,rfl,rfl,.inl rfl⟩
  |succ k ih=>
   intro hk;obtain⟨h1,h2,h3,h4,h5,h6,h7⟩:=ih zo;generalize hq:(L.take k).foldl PSt.lay ⟨width,[],[],[],[]⟩=q at *;obtain⟨l1,l2,l3,l4,l5⟩:=gW q (nth L k) (hw _ (aJ zo)) h3;obtain⟨u1,u2⟩:=Cw q (nth L k);rw[aM zo,IY,hq,J9];simp only[I8,Ke,Jr,Kx];refine⟨by rw[l2,h1],zo,l5,zo,by rw[l4,h5],?_,u2 h7⟩;rw[u1,h6,sf];have a0:((L.take k).map bC).length=k:=by simp;omega
   congr 1
   ·simp only[kO];congr 1;refine List.map_congr_left fun j hj=>?_
    have:=JF.1 hj;rw[aA,if_pos zo]
   rw[aA,if_neg zo,a0,JB,ao]
 have:=a1 L.length (IL _);rw[IR]at this;obtain⟨h1,h2,h3,h4,h5,h6,h7⟩:=this;exact⟨h1,h2,h3,h4,h5,by rw[kM,h1];exact h6,h7⟩
abbrev Ent:=Nat×Nat×Int
def gF(A:List Ent):Nat:=A.foldl (fun m x=>max m (x.1+1)) 0
def dc(f:Ent->Int)(A:List Ent)(l:List Int):List Int:=A.foldl (fun l x=>l.set x.1 (f x)) l
def ka(x:Ent):Int:=x.2.1
def Ii(x:Ent):Int:=x.2.2
def eK(A:List Ent):List Int:=dc ka A (I2 (gF A) (-1))
def jN(A:List Ent):List Int:=dc Ii A (I2 (gF A) 0)
theorem py(A:List Ent)(x:Ent):gF (A++[x])=max (gF A) (x.1+1):=by simp[gF,IY]
theorem yn(A:List Ent):∀m,m<=A.foldl (fun m x=>max m (x.1+1)) m:=by
 induction A with
 |nil=>intro m;exact IL m
 |cons y A ih=>intro m;simp only[I8];have:=ih (max m (y.1+1));omega
theorem dY{A:List Ent}{x:Ent}(h:x∈A):x.1<gF A:=by
 have:∀(A:List Ent) m,x∈A->x.1<A.foldl (fun m x=>max m (x.1+1)) m:=by
  intro A
  induction A with
  |nil=>intro m h;simp at h
  |cons y A ih=>
   intro m h;simp only[I8]
   rcases Je.1 h with rfl|h
   ·have:=yn A (max m (x.1+1));omega
   exact ih _ h
 exact this A 0 h
theorem kJ(f:Ent->Int):∀(A:List Ent) (l:List Int),(dc f A l).length=l.length
 |[],_=>rfl
 |x::A,l=>by simp only[dc,I8];exact(kJ f A _).trans (by simp)
theorem fz(A:List Ent):(eK A).length=gF A:=by rw[eK,kJ];simp
theorem mU(A:List Ent):(jN A).length=gF A:=by rw[jN,kJ];simp
theorem fH(f:Ent->Int):∀(A:List Ent) (l r:List Int),(∀x∈A,x.1<l.length)->dc f A (l++r)=dc f A l++r
 |[],_,_,_=>rfl
 |x::A,l,r,h=>by
  simp only[dc,I8];rw[List.set_append_left _ _ (h x (by simp))];exact fH f A _ r (fun y hy=>by simpa using h y (by simp[hy]))
theorem mM(f:Ent->Int)(A:List Ent)(x:Ent)(l:List Int):dc f (A++[x]) l=(dc f A l).set x.1 (f x):=by simp[dc,IY]
theorem zW(n s:Nat)(z:Int):I2 (max n (s+1)) z=I2 n z++I2 (s+1-n) z:=by
 rw[List.replicate_append_replicate];congr 1;omega
theorem yz(A:List Ent)(x:Ent):eK (A++[x])=(eK A++I2 (x.1+1-(eK A).length) (-1)).set x.1 x.2.1:=by
 rw[eK,py,mM,zW,fH _ _ _ _ (fun y hy=>by simpa using dY hy),fz];rfl
theorem xZ(A:List Ent)(x:Ent):jN (A++[x])=(jN A++I2 (x.1+1-(jN A).length) 0).set x.1 x.2.2:=by
 rw[jN,py,mM,zW,fH _ _ _ _ (fun y hy=>by simpa using dY hy),mU];rfl
theorem zn(p:PSt)(A:List Ent)(x:Ent)(h1:p.check=eK A)(h2:p.next=jN A):(p.take x.1 x.2.1 x.2.2).check=eK (A++[x])/\(p.take x.1 x.2.1 x.2.2).next=jN (A++[x]):=by
 refine⟨?_,?_⟩
 ·rw[yz,<-h1];rfl
 rw[xZ,<-h2,h2,mU,<-fz,<-h2,<-h1];rfl
def iY(row:List Int)(u:Int)(b i k:Nat):List Ent:=(fw row u k).map fun c=>(b+c,i,nth row c)
theorem sN(row:List Int)(b i:Nat):∀(a0:List Nat) (p:PSt) (A:List Ent),p.check=eK A->p.next=jN A->
  let q:=a0.foldl (fun q c=>q.take (b+c) i (nth row c)) p
  q.check=eK (A++a0.map fun c=>(b+c,i,nth row c))/\q.next=jN (A++a0.map fun c=>(b+c,i,nth row c))
 |[],p,A,h1,h2=>by simpa using⟨h1,h2⟩
 |c::a0,p,A,h1,h2=>by
  obtain⟨g1,g2⟩:=zn p A (b+c,i,nth row c) h1 h2;have:=sN row b i a0 _ _ g1 g2;simpa using this
theorem vW(p:PSt)(A:List Ent)(row:List Int)(h1:p.check=eK A)(h2:p.next=jN A):
  let b:=fD p.check (bB row (bC row))
  (p.lay row).check=eK (A++iY row (bC row) b p.base.length row.length)/\(p.lay row).next=jN (A++iY row (bC row) b p.base.length row.length):=
 sN row _ _ _ p A h1 h2
theorem vX(p:PSt)(row:List Int):(p.lay row).base=p.base++[(fD p.check (bB row (bC row)):Int)]/\(p.lay row).usual=p.usual++[bC row]/\(p.lay row).width=p.width:=by
 have a1:∀(a0:List Nat) (f:Nat->Int) (b:Nat) (r:Int) (p:PSt),let q:=a0.foldl (fun q c=>q.take (b+c) r (f c)) p;q.base=p.base/\q.usual=p.usual/\q.width=p.width:=by
  intro a0 f b r
  induction a0 with
  |nil=>intro p;exact⟨rfl,rfl,rfl⟩
  |cons c a0 ih=>intro p;exact ih (p.take (b+c) r (f c))
 obtain⟨h1,h2,h3⟩:=a1 (bB row (bC row)) (fun c=>nth row c) (fD p.check (bB row (bC row))) p.base.length p;refine⟨?_,?_,h3⟩
 ·simp only[PSt.lay];rw[h1]
 simp only[PSt.lay];rw[h2]
theorem oJ(A:List Ent)(s:Nat):∀(l:List Int),s<l.length->(∀x∈A,x.1<l.length)->(nth (dc ka A l) s≠-1↔(A.any (fun x=>x.1==s)=true\/nth l s≠-1)):=by
 induction A with
 |nil=>intro l _ _;simp[dc]
 |cons x A ih=>
  intro l hs h;have h1:=ih (l.set x.1 (ka x)) (by simpa using hs) (fun y hy=>by simpa using h y (by simp[hy]));simp only[dc,I8]at h1 ⊢;rw[h1,aW (h x (by simp)),List.any_cons]
  by_cases e:x.1=s
  ·have:ka x≠-1:=by unfold ka;omega
   simp[e,this]
  have e2:¬s=x.1:=fun h=>e h.symm
  simp[e,e2]
theorem zl(A:List Ent)(s:Nat):(A.any fun x=>x.1==s)=(decide (s<(eK A).length)&&nth (eK A) s != -1):=by
 by_cases hs:s<gF A
 ·have h1:=oJ A s (I2 (gF A) (-1)) (by simpa using hs) (fun y hy=>by simpa using dY hy);have h2:nth (I2 (gF A) (-1:Int)) s = -1:=by rw[aC (by simpa using hs)];simp
  rw[fz];simp only[h2,ne_eq,not_true,or_false]at h1;rw[decide_eq_true hs,Lp]
  cases ha:A.any (fun x=>x.1==s)with
  |true=>have:=h1.2 ha;exact(bne_iff_ne.2 this).symm
  |false=>
   rw[ha]at h1;have:nth (eK A) s = -1:=KA.1 (fun h=>by cases h1.1 h);rw[this];rfl
 rw[fz,decide_eq_false hs,Lm,JY];intro x hx h;have:=dY hx;have:x.1=s:=by simpa using h
 omega
theorem ym(A:List Ent)(b c:Nat):ow (eK A) b c = !(A.any fun x=>x.1==b+c):=by rw[zl];rfl
def wOk(a0:Int)(n:Nat):Bool:=decide (1<=a0)&&decide (a0<=64)&&decide ((n:Int)<=1000)
def inR(n:Int):Bool:=decide (0<=n)&&decide (n<=65535)
theorem tf(a0:Int)(row:List Int):(!gL a0 row)=((row.length:Int)==a0&&row.all inR):=by
 simp only[gL,bne,Ly,Bool.not_not];rfl
theorem oN(a0:Int)(L:List (List Int)):(!bO a0 L)=(wOk a0 L.length&&L.all (fun r=>!gL a0 r)):=by
 simp only[bO,wOk,Ly,List.not_any_eq_all_not];congr 2
 ·congr 1<;>rw[<-decide_not]<;>exact decide_eq_decide.2 zo
 rw[<-decide_not];exact decide_eq_decide.2 zo
theorem qj{a0:Int}{L:List (List Int)}(h:bO a0 L=false):1<=a0/\a0<=64/\L.length<=1000/\(∀r∈L,(r.length:Int)=a0)/\∀r∈L,r.length<=64:=by
 have h2:(!bO a0 L)=true:=by rw[h];rfl
 rw[oN,I9]at h2;simp only[wOk,I9,decide_eq_true_eq]at h2;have h3:∀r∈L,(r.length:Int)=a0:=fun r hr=>by
  have:=IZ.1 h2.2 r hr;rw[tf,I9]at this;simpa using this.1
 exact⟨zo,zo,zo,h3,fun r hr=>by have:=h3 r hr;omega⟩
def cP(p:PSt):Bool:=
 !(decide (p.width<1)||decide (64<p.width)||decide ((1000:Int)<p.usual.length)||((p.base.length:Int) != p.usual.length)) &&
 !((p.check.length:Int) != p.next.length||decide ((65599:Int)<p.check.length)) &&
 (inB 0 65535 p.usual&&inB 0 65535 p.base&&inB 0 65535 p.next&&inB (-1) ((p.usual.length:Int)-1) p.check)
theorem xX(p:PSt)(pv:ix)(w:ln)(hp:PkV w pv p):
  JE IM 93 [pv] w fun v w'=>v=.bool (cP p)/\Ju w w':=by
 obtain⟨u1,b1,k1,n1,rfl,a4,a7,a5,a6⟩:=hp;have b0:=a4.len_le;refine I1 func93 ntmps93 rfl rfl ?_;refine zg ?_;refine aH (ay w) 1 zo rfl rfl ?_;intro x1 w1 O1 a0 b2 b3 a1;replace a4:=a4.ext a1;replace a7:=a7.ext a1;replace a5:=a5.ext a1;replace a6:=a6.ext a1;refine zg ?_;refine zv (RV.ld (a0.cell 1 rfl) rfl) ?_;refine zvG (Jy a4 I0 rfl) ?_;refine zvG (RV.ld (a0.cell 0 rfl) rfl) ?_;refine cD (fun w1=>_=w1) (decide ((64:Int)<p.width)) 3 (rfl) rfl rfl rfl rfl rfl ?_ ?_
 ·intro h1;refine zg ?_;refine zvG (RV.ld (a0.cell 0 rfl) rfl) ?_;refine bE (tA:=11) 4 (rfl) rfl rfl rfl (fun v hv=>(IT hv).symm.trans (congrArg J4 h1)) rfl
 rintro _ rfl;refine zg ?_;refine cD (fun w1=>_=w1) (decide ((1000:Int)<p.usual.length)) 2 (rfl) rfl rfl rfl rfl rfl ?_ ?_
 ·intro h2;refine zg ?_;refine bE (tA:=16) 3 (rfl) rfl rfl rfl (fun v hv=>(IT hv).symm.trans (congrArg J4 h2)) rfl
 rintro _ rfl;refine zg ?_;refine cD (fun w1=>_=w1) ((p.base.length:Int) != p.usual.length) 5 (rfl) rfl rfl rfl rfl rfl ?_ ?_
 ·intro h3;refine zg ?_;refine zvG (RV.ld (a0.cell 2 rfl) rfl) ?_;refine zvG (Jy a7 I0 rfl) ?_;refine bE (tA:=20) 6 (rfl) rfl rfl rfl (fun v hv=>(IT hv).symm.trans (congrArg J4 h3)) rfl
 rintro _ rfl;refine zg ?_;refine zC ?_ ?_
 ·intro hg;refine zg ?_;refine ae rfl rfl (⟨by simp only[cP,hg];rfl,a1⟩)
 intro hg;refine zg ?_;refine zv (RV.ld (a0.cell 3 rfl) rfl) ?_;refine zvG (Jy a5 I0 rfl) ?_;refine zv (RV.ld (a0.cell 4 rfl) rfl) ?_;refine zvG (Jy a6 I0 rfl) ?_;refine cD (fun w1=>_=w1) (decide ((65599:Int)<p.check.length)) 4 (rfl) rfl rfl rfl rfl rfl ?_ ?_
 ·intro h4;refine zg ?_;refine zvG (RV.ld (a0.cell 3 rfl) rfl) ?_;refine zvG (Jy a5 I0 rfl) ?_;refine bE (tA:=35) 5 (rfl) rfl rfl rfl (fun v hv=>(IT hv).symm.trans (congrArg J4 h4)) rfl
 rintro _ rfl;refine zg ?_;refine zC ?_ ?_
 ·intro a9;refine zg ?_;refine ae rfl rfl (⟨by simp only[cP,a9,Bool.not_true,Bool.and_false,Lm],a1⟩)
 intro a9;refine zg ?_;refine zv (RV.ld (a0.cell 1 rfl) rfl) ?_;refine zc KW (fc 0 65535 p.usual u1 w1 a4) ?_;rintro v w2 ⟨rfl,a8⟩;refine zg ?_;refine bK (Ju w1) (inB 0 65535 p.base) 3 (a8) rfl rfl rfl rfl rfl ?_ ?_
 ·intro h5;refine zg ?_;refine zvG (RV.ld (a8.cell (a0.cell 2 rfl)) rfl) ?_;refine zc KW (fc 0 65535 p.base b1 w2 (a7.ext a8)) ?_;rintro v w3 ⟨rfl,a3⟩;refine zg ?_;refine bE (tA:=44) 4 (a8.trans a3) rfl rfl rfl (fun v hv=>(IT hv).symm.trans (congrArg J4 h5)) rfl
 intro w3 a3;refine zg ?_;refine bK (Ju w1) (inB 0 65535 p.next) 3 (a3) rfl rfl rfl rfl rfl ?_ ?_
 ·intro h6;refine zg ?_;refine zvG (RV.ld (a3.cell (a0.cell 4 rfl)) rfl) ?_;refine zc KW (fc 0 65535 p.next n1 w3 (a6.ext a3)) ?_;rintro v w4 ⟨rfl,a2⟩;refine zg ?_;refine bE (tA:=49) 4 (a3.trans a2) rfl rfl rfl (fun v hv=>(IT hv).symm.trans (congrArg J4 h6)) rfl
 intro w4 a2;refine zg ?_;refine bK (Ju w1) (inB (-1) ((p.usual.length:Int)-1) p.check) 5 (a2) rfl rfl rfl rfl rfl ?_ ?_
 ·intro h7;refine zg ?_;refine zvG (RV.ld (a2.cell (a0.cell 3 rfl)) rfl) ?_;refine zvG (RV.sub rfl rfl (Jb zo)) ?_;refine zc KW (fc (-1) ((p.usual.length:Int)-1) p.check k1 w4 (a5.ext a2)) ?_;rintro v w5 ⟨rfl,a'⟩;refine zg ?_;refine bE (tA:=54) 6 (a2.trans a') rfl rfl rfl (fun v hv=>(IT hv).symm.trans (congrArg J4 h7)) rfl
 intro w5 a';refine zg ?_;refine ae rfl rfl (⟨by simp only[cP,hg,a9,Bool.not_false,Lp],a1.trans a'⟩)
theorem rm(row:List Int):∀(l:List Int) (b:Int),(l.foldl (lT row) b=b)\/l.foldl (lT row) b∈l
 |[],b=>.inl rfl
 |n::l,b=>by
  simp only[I8]
  rcases rm row l (lT row b n)with h|h
  ·rw[h];unfold lT;split
   ·right;simp
   left;rfl
  right;simp[h]
theorem xG(row:List Int)(h:0<row.length):bC row∈row:=by
 rcases rm row row (nth row 0)with e|e
 ·rw[bC,e];exact aJ h
 exact e
theorem kI(f:Ent->Int):∀(A:List Ent) (l:List Int) (n:Int),n∈dc f A l->n∈l\/∃x∈A,n=f x
 |[],l,n,h=>.inl h
 |x::A,l,n,h=>by
  rcases kI f A (l.set x.1 (f x)) n h with h|⟨y,hy,he⟩
  ·rcases List.mem_or_eq_of_mem_set h with h|h
   ·exact .inl h
   exact .inr ⟨x,by simp,h⟩
  exact .inr ⟨y,by simp[hy],he⟩
theorem sK{lo hi:Int}{l:List Int}(h:∀n∈l,lo<=n/\n<=hi):inB lo hi l=true:=by
 rw[inB,IZ];intro n hn;have:=h n hn;simp[this]
theorem Ae{lo hi:Int}{l:List Int}(h:inB lo hi l=true){n:Int}(hn:n∈l):lo<=n/\n<=hi:=by
 rw[inB,IZ]at h;simpa using h n hn
theorem Ab(a0:Int)(L:List (List Int))(hw:∀r∈L,r.length<=64)(a2:∀r∈L,inB 0 65535 r=true):∀k,k<=L.length->
  let q:=(L.take k).foldl PSt.lay ⟨a0,[],[],[],[]⟩
  ∃A:List Ent,q.check=eK A/\q.next=jN A/\q.base.length=k/\q.check.length<=64*k/\(∀b∈q.base,0<=b/\b<=64*(k:Int))/\∀x∈A,x.2.1<k/\0<=x.2.2/\x.2.2<=65535:=by
 intro k
 induction k with
 |zero=>intro _;exact⟨[],rfl,rfl,rfl,I4 _,by simp,by simp⟩
 |succ k ih=>
  intro hk;obtain⟨A,h1,h2,h3,h4,h5,h6⟩:=ih zo;have hm:=aJ (l:=L) (j:=k) zo;have hr:=a2 _ hm;rw[aM zo,IY];generalize (L.take k).foldl PSt.lay ⟨a0,[],[],[],[]⟩=q at *;simp only[I8,Ke];generalize nth L k=row at *;obtain⟨e1,e2⟩:=vW q A row h1 h2;obtain⟨l1,l2,l3,l4,l5⟩:=gW q row (hw _ hm) (by rw[h1,h2,mU,fz]);obtain⟨m1,m2,m3⟩:=vX q row;have hb:=(fY q.check (bB row (bC row))).2.1;refine⟨_,e1,e2,zo,zo,fun b a1=>?_,fun x hx=>?_⟩
  ·rw[m1]at a1
   rcases J3.1 a1 with h|h
   ·have:=h5 b h;omega
   simp only[I5]at h;subst h;omega
  rcases J3.1 hx with h|h
  ·have:=h6 x h;omega
  simp only[iY,J5]at h;obtain⟨c,hc,rfl⟩:=h;have:=Ae hr (aJ (kh hc));exact⟨by dsimp only;omega,this⟩
theorem tV(width:Int)(L:List (List Int))(a1:bO width L=false):cP (kM width L)=true:=by
 obtain⟨a5,a4,hL,a0,a2⟩:=qj a1;have a3:∀r∈L,inB 0 65535 r=true:=fun r hr=>by
  have h2:(!bO width L)=true:=by rw[a1];rfl
  rw[oN,I9]at h2;have:=IZ.1 h2.2 r hr;rw[tf,I9]at this;exact this.2
 obtain⟨A,h1,h2,h3,h4,h5,h6⟩:=Ab width L a2 a3 L.length (IL _);rw[IR]at h1 h2 h3 h4 h5;obtain⟨s1,s2,s3,s4,s5,_,_⟩:=oM width L a2;have hq:L.foldl PSt.lay ⟨width,[],[],[],[]⟩=kM width L:=rfl;rw[hq]at h1 h2 h3 h4 h5;generalize kM width L=q at *;have a6:q.usual.length=L.length:=by rw[s1];simp
 have b1:inB 0 65535 q.usual=true:=sK fun n hn=>by
  rw[s1]at hn;obtain⟨r,hr,rfl⟩:=J5.1 hn;exact Ae (a3 r hr) (xG r (by have:=a0 r hr;omega))
 have b2:inB 0 65535 q.base=true:=sK fun n hn=>by have:=h5 n hn;omega
 have b3:inB 0 65535 q.next=true:=sK fun n hn=>by
  rw[h2]at hn
  rcases kI _ _ _ _ hn with h|⟨x,hx,rfl⟩
  ·have:=JM h;omega
  exact(h6 x hx).2
 have b4:inB (-1) ((q.usual.length:Int)-1) q.check=true:=sK fun n hn=>by
  rw[h1]at hn
  rcases kI _ _ _ _ hn with h|⟨x,hx,rfl⟩
  ·have:=JM h;omega
  have:=(h6 x hx).1;unfold ka;omega
 simp only[cP,b1,b2,b3,b4,Bool.and_true];have c1:¬q.width<1:=zo;have c2:¬64<q.width:=zo;have c3:¬(1000:Int)<q.usual.length:=zo;have c4:¬(65599:Int)<q.check.length:=zo;have c5:(q.base.length:Int)=q.usual.length:=zo;have c6:(q.check.length:Int)=q.next.length:=zo;simp[c1,c2,c3,c5,c6];omega
def getM(p:PSt)(r c:Nat):Int:=
 let k:=(nth p.base r).toNat+c
 if k<p.check.length/\nth p.check k=r then nth p.next k else nth p.usual r
structure OkP(p:PSt):Prop where
 w1:1<=p.width
 w2:p.width<=64
 rows:p.usual.length<=1000
 bl:p.base.length=p.usual.length
 cl:p.check.length=p.next.length
 c2:p.check.length<=65599
 base:∀r,r<p.base.length->0<=nth p.base r/\nth p.base r<=65535
theorem okP(p:PSt)(h:cP p=true):OkP p:=by
 simp only[cP,I9,JL,Bool.or_eq_false_iff,decide_eq_false_iff_not,bne_eq_false_iff_eq]at h;obtain⟨⟨⟨⟨⟨h1,h2⟩,h3⟩,h4⟩,h5,h6⟩,⟨⟨h7,h8⟩,h9⟩,a0⟩:=h;exact⟨zo,zo,zo,zo,zo,zo,fun r hr=>Ae h8 (aJ hr)⟩
theorem D5(p:PSt)(ok:OkP p)(u1 b1 k1 n1:ix)(pb r c:Nat)(w:ln)(hu:Kb w u1 p.usual)(hb:Kb w b1 p.base)(hk:Kb w k1 p.check)(hn:Kb w n1 p.next)
  (hc:∀j u,(#[nI p.width,u1,b1,k1,n1]:Array ix)[j]? = some u->w.cell? ⟨pb,j,none⟩=some u) (hr:r<p.base.length) (a3:c<64) :
  JE IM 94 [nP pb,nI r,nI c] w fun v w'=>v=nI (getM p r c)/\w=w':=by
 obtain⟨o1,o2,o3,o4,o5,o6,o7⟩:=ok;have a1:=o7 r hr;obtain⟨b,a0⟩:=Ky a1.1;have hg:getM p r c=if b+c<p.check.length/\nth p.check (b+c)=r then nth p.next (b+c)else nth p.usual r:=by simp only[getM,a0];rfl
 refine I1 func94 ntmps94 rfl rfl ?_;refine zg ?_
 refine zvG (RV.ld (hc 2 _ rfl) rfl) ?_;refine zv (J8 hb I0 (IP _) rfl rfl _ rfl zo) ?_
 refine zv (RV.ld (hb.ld hr) rfl) ?_;have a2:nI (nth p.base r)=nI (b:Int):=by rw[a0]
 rw[a2];refine zg ?_;refine zvG (Jz rfl rfl (Jb zo)) ?_;refine zv (RV.ld (hc 3 _ rfl) rfl) ?_;refine zvG (Jy hk I0 rfl) ?_
 by_cases h1:b+c<p.check.length
 ·refine aw (d:=24) rfl (b':=true) (decide_eq_true zo) ?_;refine zg ?_
  refine zvG (RV.ld (hc 3 _ rfl) rfl) ?_;refine zvG (J8 hk I0 (IP _) rfl rfl _ rfl zo) ?_
  refine zvG (RV.ld (hk.ld h1) rfl) ?_;refine zC ?_ ?_
  ·intro he;replace he:nth p.check (b+c)=r:=by simpa using he
   rw[if_pos ⟨h1,he⟩]at hg;refine zg ?_;refine zvG (RV.ld (hc 4 _ rfl) rfl) ?_;refine zv (J8 hn I0 (IP _) rfl rfl (b+c) rfl zo) ?_;refine zvG (RV.ld (hn.ld (i:=b+c) zo) rfl) ?_;refine ae rfl rfl (⟨by rw[hg],rfl⟩)
  intro he;replace he:¬nth p.check (b+c)=r:=by simpa using he
  rw[if_neg (fun h=>he h.2)]at hg;refine zg ?_;refine zvG (RV.ld (hc 1 _ rfl) rfl) ?_;refine zv (J8 hu I0 (IP _) rfl rfl _ rfl zo) ?_;refine zvG (RV.ld (hu.ld (i:=r) zo) rfl) ?_;refine ae rfl rfl (⟨by rw[hg],rfl⟩)
 rw[if_neg (fun h=>h1 h.1)]at hg;refine aw (d:=24) rfl (b':=false) (decide_eq_false zo) ?_;refine zg ?_;refine zFG rfl rfl ?_;refine zvG (RV.ld (hc 1 _ rfl) rfl) ?_;refine zv (J8 hu I0 (IP _) rfl rfl _ rfl zo) ?_;refine zvG (RV.ld (hu.ld (i:=r) zo) rfl) ?_;refine ae rfl rfl (⟨by rw[hg],rfl⟩)
def BK(p:PSt)(r:Nat):List Int:=(IJ p.width.toNat).map (getM p r)
def fJ(p:PSt):List (List Int):=(IJ p.usual.length).map (BK p)
def fm(p:PSt)(r c:Nat):List Int:=(IJ c).map (getM p r)++I2 (p.width.toNat-c) 0
theorem zR(p:PSt)(r c:Nat)(h:c<p.width.toNat):(fm p r c).set c (getM p r c)=fm p r (c+1):=by
 simp only[fm];rw[List.set_append_right _ _ (by simp),JP,J9];obtain⟨d,hd⟩:∃d,p.width.toNat-c=d+1:=⟨p.width.toNat-c-1,zo⟩
 rw[hd,show p.width.toNat-(c+1)=d from by omega];simp[List.replicate_succ]
theorem rR(p:PSt)(r c:Nat)(h:c<=p.width.toNat):(fm p r c).length=p.width.toNat:=by simp[fm];omega
theorem zT(p:PSt)(r:Nat):fm p r p.width.toNat=BK p r:=by simp[fm,BK]
theorem fN(f:Nat->List Int)(n i:Nat)(h:i<n):nth ((IJ n).map f) i=f i:=by
 rw[aC (by simpa using h)];simp
theorem G4:M6 IM 130 22 1 24:=⟨KM,by kernel_rfl,zd⟩
theorem rY(p:PSt)(pv:ix)(w:ln)(hp:PkV w pv p):
  JE IM 56 [pv] w fun v w'=>∃rv,v=.tuple #[rv,.bool (cP p)]/\(if cP p then Rows w' rv (fJ p)else rv=nS)/\Ju w w':=by
 have d2:=hp;obtain⟨u1,b1,k1,n1,rfl,hu,hb,hk,hn⟩:=hp;refine I1 func56 ntmps56 rfl rfl ?_;refine zg ?_;refine aH (ay w) 1 zo rfl rfl ?_;intro x1 w1 O1 c5 e2 e5 d0;refine zg ?_;refine zv (ah c5.cellsAdd (Ka _) (Jd _) rfl) ?_;refine zc call93 (xX p _ w1 (d2.ext d0)) ?_;rintro v w2 ⟨rfl,c'⟩;have hE:=d0.trans c';have hc:∀w',Ju w2 w'->∀j u,(#[nI p.width,u1,b1,k1,n1]:Array ix)[j]? = some u->w'.cell? ⟨x1,j,none⟩=some u:=fun w' e j u hu=>e.cell (c'.cell (c5.cell j hu))
 replace hu:=hu.ext hE;replace hb:=hb.ext hE;replace hk:=hk.ext hE;replace hn:=hn.ext hE;refine zg ?_;refine zC ?_ ?_
 ·intro hg;replace hg:cP p=false:=by simpa using hg
  refine zg ?_;refine bH rfl rfl rfl (⟨_,by rw[hg],by rw[hg];rfl,hE⟩)
 intro hg;replace hg:cP p=true:=by simpa using hg
 have ok:=okP p hg;obtain⟨o1,o2,o3,o4,o5,o6,o7⟩:=ok;have ok:=okP p hg;obtain⟨n,c6⟩:∃n:Nat,p.width=n:=Ky zo;have a':p.width.toNat=n:=by omega
 refine zg ?_;refine zv (RV.ld (hc _ (IX _) 1 _ rfl) rfl) ?_
 refine zvG (Jy (by first|exact hu) I0 rfl) ?_;refine zlp (fun x:Nat×(Nat->Nat)×World×ix×List ix=>[(1,nP x1),(4,x.2.2.2.1),(13,nI p.usual.length),(14,nI x.1)]) (fun x=>x.2.2.1) (fun x=>x.1<=p.usual.length/\JS (fun v=>[v]) 22 1 x.2.1 x.2.2.1 16 x.2.2.2.1 x.2.2.2.2/\x.2.2.2.2.length=x.1/\(∀i,i<x.1->Kb x.2.2.1 (nth x.2.2.2.2 i) (BK p i)/\Kl x.2.1 x.2.2.1 (nth x.2.2.2.2 i))/\IQ (fun j=>j=16) (fun _=>0) w2 x.2.1 x.2.2.1) (fun x=>p.usual.length-x.1) (0,(fun _=>0),w2,nS,[]) (⟨I4 _,IU _ _ _ _ _ _,rfl,fun i hi=>absurd hi (IE i),JH zd _ _⟩) ?_
 rintro⟨k,O3,w3,ov,vs⟩ ⟨d7,b3,a9,a0,b2⟩;dsimp only at d7 b3 a9 a0 b2 ⊢;have b9:=b2.ext;have c9:=(ay w2).upd b2;refine zg ?_;refine zC ?_ ?_
 ·intro b4;replace b4:k<p.usual.length:=by have:=of_decide_eq_true b4;omega
  refine zg ?_;refine zv (RV.ld (hc _ b9 0 _ rfl) rfl) ?_
  refine cW yq (val:=fun n:Int=>nI n) (0:Int) zk (fun _=>rfl) (ay w3) 15 zd n rfl rfl c6 c6 zo zo rfl ?_;intro w4 O4 lv d5 d6 e0 e4 e6;have a4:mh O4 w4 15 lv (fm p k 0):=by simpa[fm,a']using d6
  have b6:=a4.sl;have a2:(fm p k 0).length=n:=by rw[rR _ _ _ (I4 _),a']
  refine zg ?_;refine zvG (Jy (by first|exact b6) I0 rfl) ?_
  have b':nI ((fm p k 0).length:Int)=nI (n:Int):=by rw[a2]
  rw[b'];refine zlp (fun y:Nat×ln=>[(1,nP x1),(4,ov),(5,nI k),(6,lv),(13,nI p.usual.length),(14,nI k),(21,nI n),(22,nI y.1)]) (fun y=>y.2) (fun y=>y.1<=n/\mh O4 y.2 15 lv (fm p k y.1)/\IQ (fun j=>j=15) (fun _=>0) w3 O4 y.2) (fun y=>n-y.1) (0,w4) (⟨I4 _,a4,e0⟩) ?_;rintro⟨c,w5⟩ ⟨d9,a3,a6⟩;dsimp only at d9 a3 a6 ⊢;have a7:=b9.trans a6.ext;have b5:=a3.sl;have c7:(fm p k c).length=n:=by rw[rR _ _ _ zo,a']
  refine zg ?_;refine zC ?_ ?_
  ·intro a1;replace a1:c<n:=by have:=of_decide_eq_true a1;omega
   refine zg ?_;refine zc call94 (D5 p ok u1 b1 k1 n1 x1 k c w5 (hu.ext a7) (hb.ext a7) (hk.ext a7) (hn.ext a7) (hc _ a7) zo zo) ?_
   rintro v _ ⟨rfl,rfl⟩;refine zv (J8 (by first|exact b5) I0 (IP _) rfl rfl _ rfl zo) ?_;refine Ko a3 c zo (getM p k c) (IP _) rfl zo rfl rfl rfl rfl ?_;intro w6 b0 d';rw[zR _ _ _ zo]at b0;refine zg ?_;refine zvG (Jz rfl rfl (Jb zo)) ?_;refine zxd (c+1,w6) (⟨a1,b0,a6.trans d'⟩)
  intro b7;obtain rfl:c=n:=by have:=of_decide_eq_false b7;omega
  have b0:Kb w5 lv (BK p k):=by have:=a3.sl;rw[<-a',zT]at this;exact this
  have c8:Kl O3 w5 lv:=a3.free zd ((ay w3).upd a6) c9;have a8:=a6.ext;have b8:IQ (fun _=>False) O3 w3 O3 w5:=aa (fun h=>h) O3 a8;have d4:=b3.upd b8 zd (fun h=>h);have e1:=c9.ext a8;subst d5;refine zg ?_;refine Jk G4 d4 e1 ((Lr (some ⟨w3.heap.size,0,none⟩) c c)) (fun _=>rfl) rfl rfl rfl (by simp[I6]) zo zo zo zd rfl rfl ?_;intro d1 w7 O7 d3 a5 e3;refine zg ?_;refine zvG (Jz rfl rfl (Jb zo)) ?_;refine zxd (k+1,O7,w7,d1,vs++[Lr (some ⟨w3.heap.size,0,none⟩) c c]) (⟨b4,d3,by simp[a9],?_,(b2.trans (aa zd O3 a8)).trans a5⟩);intro i hi;dsimp only at hi ⊢;rw[aA,a9]
  split
  ·rename_i h;obtain⟨g1,g2⟩:=a0 i h;exact⟨(g1.ext a8).upd (g2.upd b8) a5,(g2.upd b8).upd a5⟩
  rename_i h;obtain rfl:i=k:=by omega
  rw[JB,ao];exact⟨b0.upd c8 a5,c8.upd a5⟩
 intro d8;obtain rfl:k=p.usual.length:=by have:=of_decide_eq_false d8;omega
 refine zg ?_;refine bH rfl rfl rfl (⟨_,by rw[hg],by rw[hg,if_pos rfl];exact⟨vs,b3.sl,by simp[a9,fJ],fun i hi=>by simp only[fJ,K6,L1]at hi;rw[fJ,fN _ _ _ hi];exact(a0 i hi).1⟩,hE.trans b9⟩)
theorem oI(f:Ent->Int)(s:Nat):∀(A:List Ent) (l:List Int),(∀x∈A,x.1<l.length)->(∀x∈A,x.1≠s)->nth (dc f A l) s=nth l s
 |[],_,_,_=>rfl
 |x::A,l,h,hs=>by
  have:=oI f s A (l.set x.1 (f x)) (fun y hy=>by simpa using h y (by simp[hy])) (fun y hy=>hs y (by simp[hy]));simp only[dc,I8]at this ⊢;rw[this,aW (h x (by simp)),if_neg (fun e=>hs x (by simp) e.symm)]
theorem jC(f:Ent->Int):∀(A:List Ent) (l:List Int),(A.map (·.1)).Nodup->(∀x∈A,x.1<l.length)->∀x∈A,nth (dc f A l) x.1=f x
 |[],_,_,_,x,hx=>by simp at hx
 |y::A,l,hn,h,x,hx=>by
  simp only[Jr,Le,J5]at hn;have hl:∀z∈A,z.1<(l.set y.1 (f y)).length:=fun z hz=>by simpa using h z (by simp[hz])
  rcases Je.1 hx with rfl|hx
  ·have:=oI f x.1 A (l.set x.1 (f x)) hl (fun z hz e=>hn.1 ⟨z,hz,e⟩);simp only[dc,I8]at this ⊢;rw[this,aW (h x (by simp)),if_pos rfl]
  have:=jC f A (l.set y.1 (f y)) hn.2 hl x hx;simpa only[dc,I8]using this
theorem Be{A:List Ent}(hn:(A.map (·.1)).Nodup){s r:Nat}(h:nth (eK A) s=r)(hs:s<gF A):∃x∈A,x.1=s/\x.2.1=r:=by
 have h1:=oJ A s (I2 (gF A) (-1)) (by simpa using hs) (fun y hy=>by simpa using dY hy);have h2:nth (I2 (gF A) (-1:Int)) s = -1:=by rw[aC (by simpa using hs)];simp
 rw[h2]at h1;have h3:=h1.1 (by rw[eK]at h;rw[h];omega);simp only[ne_eq,not_true,or_false,List.any_eq_true]at h3;obtain⟨x,hx,he⟩:=h3;have he:x.1=s:=by simpa using he
 refine⟨x,hx,he,?_⟩;have h4:=jC ka A (I2 (gF A) (-1)) hn (fun y hy=>by simpa using dY hy) x hx;rw[he]at h4;rw[eK,h4]at h;unfold ka at h;omega
structure BInv(width:Int)(L:List (List Int))(k:Nat)(A:List Ent)(q:PSt):Prop where
 chk:q.check=eK A
 nxt:q.next=jN A
 bl:q.base.length=k
 b0:∀b∈q.base,0<=b
 us:q.usual=(L.take k).map bC
 nd:(A.map (·.1)).Nodup
 mem:∀x:Ent,x∈A↔x.2.1<k/\∃c,c<(nth L x.2.1).length/\nth (nth L x.2.1) c≠bC (nth L x.2.1)/\x.1=(nth q.base x.2.1).toNat+c/\x.2.2=nth (nth L x.2.1) c
theorem oP{row:List Int}{u:Int}{c:Nat}:c∈bB row u↔c<row.length/\nth row c≠u:=by simp[bB,fw]
theorem IC(a0:Int)(L:List (List Int)):∀k,k<=L.length->∃A,BInv a0 L k A ((L.take k).foldl PSt.lay ⟨a0,[],[],[],[]⟩):=by
 intro k
 induction k with
 |zero=>intro _;exact⟨[],⟨rfl,rfl,rfl,by simp,rfl,by simp,fun x=>by simp⟩⟩
 |succ k ih=>
  intro hk;obtain⟨A,h⟩:=ih zo;rw[aM zo,IY];generalize (L.take k).foldl PSt.lay ⟨a0,[],[],[],[]⟩=q at *;simp only[I8,Ke];obtain⟨e1,e2⟩:=vW q A (nth L k) h.chk h.nxt;obtain⟨m1,m2,m3⟩:=vX q (nth L k);have a3:=(fY q.check (bB (nth L k) (bC (nth L k)))).1;rw[eo,IZ,h.chk]at a3;rw[h.chk]at e1 e2 m1;generalize hb:fD (eK A) (bB (nth L k) (bC (nth L k)))=b at *;rw[h.bl]at e1 e2;have a1:∀r,r<k->nth (q.base++[(b:Int)]) r=nth q.base r:=fun r hr=>by rw[aA,if_pos (by rw[h.bl];exact hr)]
  have a4:nth (q.base++[(b:Int)]) k=b:=by rw[aA,h.bl,if_neg (Nat.lt_irrefl _),JB,ao]
  refine⟨_,⟨e1,e2,by rw[m1];simp[h.bl],fun n hn=>?_,by rw[m2,h.us,aM zo];simp,?_,fun x=>?_⟩⟩
  ·rw[m1]at hn
   rcases J3.1 hn with h1|h1
   ·exact h.b0 n h1
   simp only[I5]at h1;subst h1;omega
  ·rw[J9,L0];refine⟨h.nd,?_,fun s hs s' a2 e=>?_⟩
   ·simp only[iY,JW];rw[List.nodup_iff_pairwise_ne,List.pairwise_map];exact(lH (nth L k) (bC (nth L k))).imp (fun {a c} a6 e=>a6 (by simpa using e))
   subst e;simp only[iY,JW,J5,M8]at a2;obtain⟨c,hc,rfl⟩:=a2;obtain⟨y,hy,a5⟩:=J5.1 hs;have h2:=a3 c hc;rw[ym,JL]at h2;have h3:=JY.1 h2 y hy;exact h3 (by simp[a5])
  rw[J3,h.mem,m1]
  constructor
  ·rintro(⟨h1,c,h2,h3,h4,h5⟩|h1)
   ·exact⟨zo,c,h2,h3,by rw[a1 _ h1];exact h4,h5⟩
   simp only[iY,J5]at h1;obtain⟨c,hc,rfl⟩:=h1;obtain⟨c1,c2⟩:=oP.1 hc;exact⟨by dsimp only;omega,c,c1,c2,by dsimp only;rw[a4];simp,rfl⟩
  rintro⟨h1,c,h2,h3,h4,h5⟩
  by_cases hr:x.2.1<k
  ·exact .inl ⟨hr,c,h2,h3,by rw[a1 _ hr]at h4;exact h4,h5⟩
  obtain⟨x1,x2,x3⟩:=x;dsimp only at h1 h2 h3 h4 h5 hr;obtain rfl:x2=k:=zo;right;rw[a4]at h4;simp only[iY,J5];exact⟨c,oP.2 ⟨h2,h3⟩,by rw[h4,h5];simp⟩
theorem AR(a0:Int)(L:List (List Int))(r c:Nat)(hr:r<L.length)(hc:c<(nth L r).length):getM (kM a0 L) r c=nth (nth L r) c:=by
 obtain⟨A,h⟩:=IC a0 L L.length (IL _);rw[IR]at h;have hq:L.foldl PSt.lay ⟨a0,[],[],[],[]⟩=kM a0 L:=rfl;rw[hq]at h;generalize kM a0 L=q at *;have a1:nth q.usual r=bC (nth L r):=by rw[h.us,IR,dj hr]
 unfold getM;rw[h.chk,h.nxt,fz,a1]
 by_cases hu:nth (nth L r) c=bC (nth L r)
 ·rw[if_neg,hu];rintro⟨h1,h2⟩;obtain⟨x,hx,e1,e2⟩:=Be h.nd h2 h1;obtain⟨g1,c',g2,g3,g4,g5⟩:=(h.mem x).1 hx;rw[e2]at g2 g3 g4;have:c'=c:=zo;subst this;exact g3 hu
 have hx:(((nth q.base r).toNat+c,r,nth (nth L r) c):Ent)∈A:=(h.mem _).2 ⟨by simpa using hr,c,hc,hu,rfl,rfl⟩;have h1:=dY hx;have h2:=jC ka A (I2 (gF A) (-1)) h.nd (fun y hy=>by simpa using dY hy) _ hx;have h3:=jC Ii A (I2 (gF A) 0) h.nd (fun y hy=>by simpa using dY hy) _ hx;dsimp only at h1;rw[if_pos ⟨h1,h2⟩];exact h3
end Go.Proofs.YteolbhblkgjbhaaGreatDoor
section
namespace Go.VL
structure LS where
 l:List UInt8
 pos:Int
 to:Int
 bg:Int
 bad:Int
 e:Int
 ig:ix
 kp:ix
 ru:ix
 mc:ix
 i:Bool
 k:Bool
def LS.cells(s:LS):Array ix:=#[.string (bs s.l),nI s.pos,nI s.to,nI s.bg,nI s.bad,nI s.e,s.ig,s.kp,s.ru,s.mc,.bool s.i,.bool s.k]
theorem BlkO.q0{O:Nat->Nat}{w:ln}{j rb:Nat}{s:LS}{E:IV}(h:J7 O w j rb s.cells E):w.cell? ⟨rb,0,none⟩=some (.string (bs s.l)):=h.cell 0 rfl
theorem BlkO.q1{O:Nat->Nat}{w:ln}{j rb:Nat}{s:LS}{E:IV}(h:J7 O w j rb s.cells E):w.cell? ⟨rb,1,none⟩=some (nI s.pos):=h.cell 1 rfl
theorem BlkO.q2{O:Nat->Nat}{w:ln}{j rb:Nat}{s:LS}{E:IV}(h:J7 O w j rb s.cells E):w.cell? ⟨rb,2,none⟩=some (nI s.to):=h.cell 2 rfl
theorem BlkO.q3{O:Nat->Nat}{w:ln}{j rb:Nat}{s:LS}{E:IV}(h:J7 O w j rb s.cells E):w.cell? ⟨rb,3,none⟩=some (nI s.bg):=h.cell 3 rfl
theorem BlkO.q4{O:Nat->Nat}{w:ln}{j rb:Nat}{s:LS}{E:IV}(h:J7 O w j rb s.cells E):w.cell? ⟨rb,4,none⟩=some (nI s.bad):=h.cell 4 rfl
theorem BlkO.q5{O:Nat->Nat}{w:ln}{j rb:Nat}{s:LS}{E:IV}(h:J7 O w j rb s.cells E):w.cell? ⟨rb,5,none⟩=some (nI s.e):=h.cell 5 rfl
theorem BlkO.q6{O:Nat->Nat}{w:ln}{j rb:Nat}{s:LS}{E:IV}(h:J7 O w j rb s.cells E):w.cell? ⟨rb,6,none⟩=some (s.ig):=h.cell 6 rfl
theorem BlkO.q7{O:Nat->Nat}{w:ln}{j rb:Nat}{s:LS}{E:IV}(h:J7 O w j rb s.cells E):w.cell? ⟨rb,7,none⟩=some (s.kp):=h.cell 7 rfl
theorem BlkO.q8{O:Nat->Nat}{w:ln}{j rb:Nat}{s:LS}{E:IV}(h:J7 O w j rb s.cells E):w.cell? ⟨rb,8,none⟩=some (s.ru):=h.cell 8 rfl
theorem BlkO.q9{O:Nat->Nat}{w:ln}{j rb:Nat}{s:LS}{E:IV}(h:J7 O w j rb s.cells E):w.cell? ⟨rb,9,none⟩=some (s.mc):=h.cell 9 rfl
theorem BlkO.q10{O:Nat->Nat}{w:ln}{j rb:Nat}{s:LS}{E:IV}(h:J7 O w j rb s.cells E):w.cell? ⟨rb,10,none⟩=some (.bool s.i):=h.cell 10 rfl
theorem BlkO.q11{O:Nat->Nat}{w:ln}{j rb:Nat}{s:LS}{E:IV}(h:J7 O w j rb s.cells E):w.cell? ⟨rb,11,none⟩=some (.bool s.k):=h.cell 11 rfl
theorem BlkO.s_pos{O:Nat->Nat}{w:ln}{j rb:Nat}{s:LS}{E:IV}(h:J7 O w j rb s.cells E)(a':Int):J7 O (w.setCell ⟨rb,1,none⟩ (nI a')) j rb ({s with pos:=a'}:LS).cells E:=h.set 1 _
theorem BlkO.s_to{O:Nat->Nat}{w:ln}{j rb:Nat}{s:LS}{E:IV}(h:J7 O w j rb s.cells E)(a':Int):J7 O (w.setCell ⟨rb,2,none⟩ (nI a')) j rb ({s with to:=a'}:LS).cells E:=h.set 2 _
theorem BlkO.s_bg{O:Nat->Nat}{w:ln}{j rb:Nat}{s:LS}{E:IV}(h:J7 O w j rb s.cells E)(a':Int):J7 O (w.setCell ⟨rb,3,none⟩ (nI a')) j rb ({s with bg:=a'}:LS).cells E:=h.set 3 _
theorem BlkO.s_bad{O:Nat->Nat}{w:ln}{j rb:Nat}{s:LS}{E:IV}(h:J7 O w j rb s.cells E)(a':Int):J7 O (w.setCell ⟨rb,4,none⟩ (nI a')) j rb ({s with bad:=a'}:LS).cells E:=h.set 4 _
theorem BlkO.s_e{O:Nat->Nat}{w:ln}{j rb:Nat}{s:LS}{E:IV}(h:J7 O w j rb s.cells E)(a':Int):J7 O (w.setCell ⟨rb,5,none⟩ (nI a')) j rb ({s with e:=a'}:LS).cells E:=h.set 5 _
theorem BlkO.s_ru{O:Nat->Nat}{w:ln}{j rb:Nat}{s:LS}{E:IV}(h:J7 O w j rb s.cells E)(a':ix):J7 O (w.setCell ⟨rb,8,none⟩ a') j rb ({s with ru:=a'}:LS).cells E:=h.set 8 _
end Go.VL
namespace Go.Proofs.YteolbhblkgjbhaaGreatDoor
open Go.VL Go.Proofs
set_option maxRecDepth 10000
abbrev Rd6(O:Nat->Nat)(w:ln)(j rb:Nat)(s:LS):Prop:=J7 O w j rb s.cells 114
theorem mm{l:List UInt8}{m i:Nat}{c:UInt8}(h:(l.take m)[i]? = some c):l[i]? = some c:=by
 rw[List.getElem?_take]at h
 split at h
 ·exact h
 cases h
theorem dG(O:Nat->Nat)(w:ln)(j rb:Nat)(s:LS)(m:Nat)(r:List UInt8)(hj:j≠0)(hm:m<=s.l.length)(hl:s.l.length<=100000)(a3:s.to=(m:Int))(hr:r <:+ s.l.take m)(hp:s.pos=(m:Int)-(r.length:Int))(h:Rd6 O w j rb s):
  JE IM 76 [nP rb] w fun v w'=>v=.bool (decide (0<(ar r).length))/\Rd6 O w' j rb {s with pos:=(m:Int)-((ar r).length:Int)}/\IQ (fun k=>k=j) O w O w':=by
 have hz:¬(fun k:Nat=>k=j) 0:=fun e=>hj e.symm
 have a9:(s.l.take m).length=m:=by simp;omega
 have h0:Rd6 O w j rb {s with pos:=(m:Int)-(r.length:Int)}:=by rw[<-hp];exact h
 refine I1 func76 ntmps76 rfl rfl ?_;refine zh ?_
 refine zlp (fun x:List UInt8×ln=>[(0,nP rb)]) (fun x=>x.2) (fun x=>x.1 <:+ s.l.take m/\ar x.1=ar r/\Rd6 O x.2 j rb {s with pos:=(m:Int)-(x.1.length:Int)}/\IQ (fun k=>k=j) O w O x.2) (fun x=>x.1.length) (r,w) (⟨hr,rfl,h0,JH hz _ _⟩) ?_;rintro⟨r1,w1⟩ ⟨a4,a2,a7,a5⟩;dsimp only at a4 a2 a7 a5 ⊢;have a0:=a7.drew;have a8:=a4.length_le;refine zh ?_
 refine Jm zk zk ?_;refine zh ?_
 refine zwH (RV.ld a0.q1 rfl) ?_;refine zwH (RV.ld a0.q2 rfl) ?_
 cases r1 with
 |nil=>
  refine ct (d:=12) rfl (b':=false) (decide_eq_false (by simp[a3])) ?_;have a1:=a0.drew;refine zh ?_
  refine zw (bL rfl rfl) ?_;refine Jl ?_
  refine zh ?_;refine zFH rfl rfl ?_
  refine Jm zk zk ?_;refine zh ?_
  refine zwH (RV.ld a1.q1 rfl) ?_;refine zwH (RV.ld a1.q2 rfl) ?_
  refine Jl ?_;refine zh ?_
  refine ae rfl rfl (⟨by rw[<-a2];simp[a3,ar],by rw[<-a2];exact a1,a5.drew.drew⟩)
 |cons b r2=>
  simp only[IS]at a8 a0;refine ct (d:=12) rfl (b':=true) (decide_eq_true (by simp only[IS,a3];omega)) ?_;refine zh ?_;refine zwH (RV.ld a0.q0 rfl) ?_;refine zwH (RV.ld a0.q1 rfl) ?_;refine zwH (bd (c:=b) I3 rfl rfl (m-(r2.length+1)) (by dsimp only;omega) (mm (by have:=mG a4;rwa[a9]at this))) ?_;refine zw (bG rfl rfl) ?_;refine Jl ?_;refine zh ?_;refine zC ?_ ?_
  ·intro hb;replace hb:b=32:=by rw[show(32:Int)=((32:Nat):Int)from rfl,nD b 32 zd]at hb;simpa using hb
   subst hb;refine zh ?_;refine zv (RV.ld a0.q1 rfl) ?_;refine zvH (Jz rfl rfl (Jb (by dsimp only;omega))) ?_;refine aj (j:=1) a0 rfl (IP _) rfl rfl rfl rfl ?_;rw[show((m:Int)-((r2.length+1:Nat):Int))+1=(m:Int)-(r2.length:Int)from by omega];have a1:=a0.s_pos ((m:Int)-(r2.length:Int));have a':IQ (fun k=>k=j) O w1.drew O (w1.drew.setCell ⟨rb,1,none⟩ (nI ((m:Int)-(r2.length:Int)))):=J1 hz a0.tag rfl;refine zh ?_;refine zx (r2,w1.drew.setCell ⟨rb,1,none⟩ (nI ((m:Int)-(r2.length:Int)))) (⟨(K2 _ _).trans a4,by rw[<-a2];simp[ar],a1,a5.drew.trans a'⟩) (by dsimp only;simp)
  intro hb;replace hb:b≠32:=by rw[show(32:Int)=((32:Nat):Int)from rfl,nD b 32 zd]at hb;simpa using hb
  have a6:ar (b::r2)=b::r2:=by simp[ar,hb]
  have a1:=a0.drew;refine zh ?_;refine Jm zk zk ?_;refine zh ?_;refine zwH (RV.ld a1.q1 rfl) ?_;refine zwH (RV.ld a1.q2 rfl) ?_;refine Jl ?_;refine zh ?_;refine ae rfl rfl (⟨by rw[<-a2,a6];simp[a3];omega,by rw[<-a2,a6];exact a1,a5.drew.drew⟩)
theorem bx(O:Nat->Nat)(w:ln)(j rb:Nat)(s:LS)(p e:Int)(hj:j≠0)(he:s.e=0)(h:Rd6 O w j rb s):
  JE IM 109 [nP rb,nI p,nI e] w fun _ w'=>Rd6 O w' j rb {s with bad:=p,e:=e}/\IQ (fun k=>k=j) O w O w':=by
 refine I1 func109 ntmps109 rfl rfl ?_;refine zh ?_
 refine zvH (RV.ld h.q5 rfl) ?_;refine zTH rfl ((by rw[he];rfl)) ?_
 refine aj (j:=4) h rfl (IP _) rfl rfl rfl rfl ?_;have a0:=h.s_bad p;have a3:IQ (fun k=>k=j) O w O (w.setCell ⟨rb,4,none⟩ (nI p)):=J1 (fun e=>hj e.symm) h.tag rfl;refine zh ?_
 refine aj (j:=5) a0 rfl (sizeOf57 _) rfl rfl rfl rfl ?_;have a1:=a0.s_e e;have a2:IQ (fun k=>k=j) O (w.setCell ⟨rb,4,none⟩ (nI p)) O ((w.setCell ⟨rb,4,none⟩ (nI p)).setCell ⟨rb,5,none⟩ (nI e)):=J1 (fun e=>hj e.symm) a0.tag rfl;refine zh ?_
 refine aD rfl (⟨a1,a3.trans a2⟩)
theorem gm(O:Nat->Nat)(w:ln)(j rb:Nat)(s:LS)(m:Nat)(r:List UInt8)(hj:j≠0)(hm:m<=s.l.length)(hl:s.l.length<=100000)(b2:s.to=(m:Int))(hr:r <:+ s.l.take m)(hp:s.pos=(m:Int)-(r.length:Int))(h:Rd6 O w j rb s):
  JE IM 77 [nP rb] w fun v w'=>v=.string (bs (r.takeWhile ai))/\Rd6 O w' j rb {s with pos:=(m:Int)-((r.dropWhile ai).length:Int)}/\IQ (fun k=>k=j) O w O w':=by
 have hz:¬(fun k:Nat=>k=j) 0:=fun e=>hj e.symm
 have a9:(s.l.take m).length=m:=by simp;omega
 have h0:Rd6 O w j rb {s with pos:=(m:Int)-(r.length:Int)}:=by rw[<-hp];exact h
 have a':=hr.length_le;rw[a9]at a';refine I1 func77 ntmps77 rfl rfl ?_;refine zh ?_;refine zvH (RV.ld h0.q1 rfl) ?_;refine zlp (fun x:List UInt8×ln=>[(0,nP rb),(3,nI ((m:Int)-(r.length:Int)))]) (fun x=>x.2) (fun x=>x.1 <:+ s.l.take m/\x.1.dropWhile ai=r.dropWhile ai/\Rd6 O x.2 j rb {s with pos:=(m:Int)-(x.1.length:Int)}/\IQ (fun k=>k=j) O w O x.2) (fun x=>x.1.length) (r,w) (⟨hr,rfl,h0,JH hz _ _⟩) ?_;rintro⟨r1,w1⟩ ⟨a8,a5,b4,a6⟩;dsimp only at a8 a5 b4 a6 ⊢;have a0:=b4.drew;have b3:=a8.length_le;rw[a9]at b3;have a3:r1=r.dropWhile ai->(s.l.take (m-r1.length)).drop (m-r.length)=r.takeWhile ai:=fun e=>by
  have:=zz (l:=s.l.take m) (a:=r.takeWhile ai) (b:=r.dropWhile ai) (by rw[K0];exact hr);rw[K0,<-e,a9,Lk,Lj zo]at this;exact this
 have b0:r1.length<=r.length\/r1≠r.dropWhile ai:=by
  by_cases e:r1=r.dropWhile ai
  ·left;rw[e];exact(KE _).length_le
  right;exact e
 refine zh ?_;refine Jm zk zk ?_
 refine zh ?_;refine zwH (RV.ld a0.q1 rfl) ?_
 refine zwH (RV.ld a0.q2 rfl) ?_
 cases r1 with
 |nil=>
  refine ct (d:=17) rfl (b':=false) (decide_eq_false (by simp[b2])) ?_;have a1:=a0.drew;have hd:[]=r.dropWhile ai:=by rw[<-a5];rfl
  have h1:=a3 hd;refine zh ?_;refine zw (bL rfl rfl) ?_;refine Jl ?_;refine zh ?_;refine zFH rfl rfl ?_;refine Jm zk zk ?_;refine zh ?_;refine zwH (RV.ld a1.q0 rfl) ?_;refine zw (RV.ld a1.q1 rfl) ?_;refine zwH (cM I3 rfl rfl rfl (m-r.length) (m-0) zo (by simp) zo zo) ?_;refine Jl ?_;refine zh ?_;simp only[List.length_nil]at h1;refine ae rfl rfl (⟨by rw[h1],by rw[<-hd];exact a1,a6.drew.drew⟩)
 |cons b r2=>
  simp only[IS]at b3 a0;refine ct (d:=17) rfl (b':=true) (decide_eq_true (by simp only[IS,b2];omega)) ?_;have a2:s.l[m-(r2.length+1)]? = some b:=mm (by have:=mG a8;rwa[a9]at this);refine zh ?_;refine zwH (RV.ld a0.q0 rfl) ?_;refine zwH (RV.ld a0.q1 rfl) ?_;refine zwH (bd (c:=b) I3 rfl rfl (m-(r2.length+1)) (by dsimp only;omega) a2) ?_
  by_cases k1:65<=b.toNat
  ·refine ct (d:=28) rfl (b':=true) (decide_eq_true zo) ?_;refine zh ?_
   refine zwH (RV.ld a0.q0 rfl) ?_;refine zwH (RV.ld a0.q1 rfl) ?_
   refine zwH (bd (c:=b) I3 rfl rfl (m-(r2.length+1)) (by dsimp only;omega) a2) ?_;refine zwH (bG rfl rfl) ?_
   by_cases k2:b.toNat<=90
   ·refine ct (d:=40) rfl (b':=true) (decide_eq_true zo) ?_;have a4:ai b=true:=by simp[ai,k1,k2]
    refine zh ?_;refine zw (bG rfl rfl) ?_
    refine zw (bG rfl rfl) ?_;refine Jl ?_
    refine zh ?_;refine zTH rfl rfl ?_
    refine zv (RV.ld a0.q1 rfl) ?_;refine zvH (Jz rfl rfl (Jb (by dsimp only;omega))) ?_
    refine aj (j:=1) a0 rfl (IP _) rfl rfl rfl rfl ?_;rw[show((m:Int)-((r2.length+1:Nat):Int))+1=(m:Int)-(r2.length:Int)from by omega];have a1:=a0.s_pos ((m:Int)-(r2.length:Int));have b1:IQ (fun k=>k=j) O w1.drew O (w1.drew.setCell ⟨rb,1,none⟩ (nI ((m:Int)-(r2.length:Int)))):=J1 hz a0.tag rfl;refine zh ?_
    refine zx (r2,w1.drew.setCell ⟨rb,1,none⟩ (nI ((m:Int)-(r2.length:Int)))) (⟨(K2 _ _).trans a8,by rw[<-a5,Kf a4],a1,a6.drew.trans b1⟩) (by dsimp only;simp)
   refine ct (d:=40) rfl (b':=false) (decide_eq_false zo) ?_;refine zh ?_
   refine zwH (RV.ld a0.q0 rfl) ?_;refine zwH (RV.ld a0.q1 rfl) ?_
   refine zwH (bd (c:=b) I3 rfl rfl (m-(r2.length+1)) (by dsimp only;omega) a2) ?_
   by_cases k3:97<=b.toNat
   ·refine ct (d:=51) rfl (b':=true) (decide_eq_true zo) ?_;refine zh ?_
    refine zwH (RV.ld a0.q0 rfl) ?_;refine zwH (RV.ld a0.q1 rfl) ?_
    refine zwH (bd (c:=b) I3 rfl rfl (m-(r2.length+1)) (by dsimp only;omega) a2) ?_;refine zwH (bG rfl rfl) ?_
    refine zw (bL rfl rfl) ?_;refine zw (bG rfl rfl) ?_
    refine Jl ?_;refine zh ?_
    by_cases k4:b.toNat<=122
    ·refine aS rfl (decide_eq_true zo) ?_;have a4:ai b=true:=by simp[ai,k3,k4]
     refine zh ?_;refine zv (RV.ld a0.q1 rfl) ?_
     refine zvH (Jz rfl rfl (Jb (by dsimp only;omega))) ?_;refine aj (j:=1) a0 rfl (IP _) rfl rfl rfl rfl ?_
     rw[show((m:Int)-((r2.length+1:Nat):Int))+1=(m:Int)-(r2.length:Int)from by omega];have a1:=a0.s_pos ((m:Int)-(r2.length:Int));have b1:IQ (fun k=>k=j) O w1.drew O (w1.drew.setCell ⟨rb,1,none⟩ (nI ((m:Int)-(r2.length:Int)))):=J1 hz a0.tag rfl;refine zh ?_;refine zx (r2,w1.drew.setCell ⟨rb,1,none⟩ (nI ((m:Int)-(r2.length:Int)))) (⟨(K2 _ _).trans a8,by rw[<-a5,Kf a4],a1,a6.drew.trans b1⟩) (by dsimp only;simp)
    refine aT rfl (decide_eq_false zo) ?_;have a4:ai b=false:=by simp[ai,k2,k4]
    have a7:(b::r2).dropWhile ai=b::r2:=JG (by rw[a4];decide);have hd:b::r2=r.dropWhile ai:=by rw[<-a5,a7]
    have h1:=a3 hd;have h2:=b0.resolve_right (fun e=>e hd);simp only[IS]at h1 h2;have a1:=a0.drew;refine zh ?_;refine Jm zk zk ?_;refine zh ?_;refine zwH (RV.ld a1.q0 rfl) ?_;refine zw (RV.ld a1.q1 rfl) ?_;refine zwH (cM I3 rfl rfl rfl (m-r.length) (m-(r2.length+1)) zo (by dsimp only;omega) zo (by dsimp only;omega)) ?_;refine Jl ?_;refine zh ?_;refine ae rfl rfl (⟨by rw[h1],by rw[<-hd];exact a1,a6.drew.drew⟩)
   refine ct (d:=51) rfl (b':=false) (decide_eq_false zo) ?_;have a4:ai b=false:=by simp[ai,k2,k3]
   have a7:(b::r2).dropWhile ai=b::r2:=JG (by rw[a4];decide);have hd:b::r2=r.dropWhile ai:=by rw[<-a5,a7]
   have h1:=a3 hd;have h2:=b0.resolve_right (fun e=>e hd);simp only[IS]at h1 h2;have a1:=a0.drew;refine zh ?_;refine zwH (bL rfl rfl) ?_;refine zw (bL rfl rfl) ?_;refine zw (bG rfl rfl) ?_;refine Jl ?_;refine zh ?_;refine zFH rfl rfl ?_;refine Jm zk zk ?_;refine zh ?_;refine zwH (RV.ld a1.q0 rfl) ?_;refine zw (RV.ld a1.q1 rfl) ?_;refine zwH (cM I3 rfl rfl rfl (m-r.length) (m-(r2.length+1)) zo (by dsimp only;omega) zo (by dsimp only;omega)) ?_;refine Jl ?_;refine zh ?_;refine ae rfl rfl (⟨by rw[h1],by rw[<-hd];exact a1,a6.drew.drew⟩)
  have k3:¬97<=b.toNat:=zo;refine ct (d:=28) rfl (b':=false) (decide_eq_false zo) ?_;refine zh ?_;refine zwH (bL rfl rfl) ?_;refine zwH (RV.ld a0.q0 rfl) ?_;refine zwH (RV.ld a0.q1 rfl) ?_;refine zwH (bd (c:=b) I3 rfl rfl (m-(r2.length+1)) (by dsimp only;omega) a2) ?_;refine ct (d:=51) rfl (b':=false) (decide_eq_false zo) ?_;have a4:ai b=false:=by simp[ai,k1,k3]
  have a7:(b::r2).dropWhile ai=b::r2:=JG (by rw[a4];decide);have hd:b::r2=r.dropWhile ai:=by rw[<-a5,a7]
  have h1:=a3 hd;have h2:=b0.resolve_right (fun e=>e hd);simp only[IS]at h1 h2;have a1:=a0.drew;refine zh ?_;refine zwH (bL rfl rfl) ?_;refine zw (bL rfl rfl) ?_;refine zw (bG rfl rfl) ?_;refine Jl ?_;refine zh ?_;refine zFH rfl rfl ?_;refine Jm zk zk ?_;refine zh ?_;refine zwH (RV.ld a1.q0 rfl) ?_;refine zw (RV.ld a1.q1 rfl) ?_;refine zwH (cM I3 rfl rfl rfl (m-r.length) (m-(r2.length+1)) zo (by dsimp only;omega) zo (by dsimp only;omega)) ?_;refine Jl ?_;refine zh ?_;refine ae rfl rfl (⟨by rw[h1],by rw[<-hd];exact a1,a6.drew.drew⟩)
end Go.Proofs.YteolbhblkgjbhaaGreatDoor
end
section
namespace Go.VL
section
variable{P:Lt}{N:Nat}{ops:Array M1}{Q:Exit→Act→ln→Prop}{rest:List M1}{st:St}{w:ln}
variable{t:IV}{p:String}{e:Array Edge}{d:Nat}{x y z:M0}
theorem WC.scope{c:Code}(h:WC P N c (Lx Q) st w):WC P N (.scope c) Q st w:=fun a ha=>wp_scope_straight (h a ha)
theorem jt(h:QF N Q .ret st w):QF N (Lx Q) .ret st w:=h
theorem run_next_at(w:ln)(b:Nat)(s:ByteArray)(a0:Nat)(ty:IV){c n:Nat}(hb:w.heap[b]? = some (.stringIter s a0))(h:a0<s.size)(hd:JR s a0=(c,n)):
  (Kc (nP b) true ty).run P w=.ok (.tuple #[.bool true,nI a0,.int .i32 c]) (w.putObj b (.stringIter s (a0+n))):=by
 simp only[Kc,getObj,setObj,JZ,L4,hb,Result.andThen,h,if_true,hd];simp[goInt,World.putObj]
theorem pZ(w:ln)(b:Nat)(s:ByteArray)(a0:Nat)(ty:IV)(hb:w.heap[b]? = some (.stringIter s a0))(h:¬a0<s.size):
  (Kc (nP b) true ty).run P w=.ok (.tuple #[.bool false]) w:=by
 simp[Kc,getObj,L4,hb,h]
theorem tj{l:List UInt8}{a0 c n b:Nat}(hx:ev st x=some (nP b))(hb:w.heap[b]? = some (.stringIter (bs l) a0))(hp:a0<l.length)(a2:JR (bs l) a0=(c,n))(hd:Lv d N=true) 
  (h:WL P N ops Q rest ((d,.tuple #[.bool true,nI (a0:Nat),.int .i32 (c:Int)])::st) (w.putObj b (.stringIter (bs l) (a0+n)))):WL P N ops Q (⟨some d,.next x true,t,p,e,none⟩::rest) st w:=by
 have a1:=run_next_at (P:=P) w b (bs l) a0 t hb (by rw[cT];exact hp) a2
 exact LL hd (fun a ha=>by
  simp only[execOp,ha.ev hx,JZ,a1,JU]
  rfl) h
theorem vf{l:List UInt8}{a0 b:Nat}(hx:ev st x=some (nP b))(hb:w.heap[b]? = some (.stringIter (bs l) a0))(hp:l.length<=a0)(hd:Lv d N=true) 
  (h:WL P N ops Q rest ((d,.tuple #[.bool false])::st) w):WL P N ops Q (⟨some d,.next x true,t,p,e,none⟩::rest) st w:=by
 have a1:=pZ (P:=P) w b (bs l) a0 t hb (by rw[cT];omega)
 exact LL hd (fun a ha=>by
  simp only[execOp,ha.ev hx,JZ,a1,JU]
  rfl) h
theorem vq{xt yt:IV}{k k':IntKind}{m:Int}(hs:P.underlying xt=some (.int k'))(a0:P.underlying yt=some .string)(hx:ev st x=some (.int k m)):RV P N (.convert xt yt x) t st w (.string (KG m)):=
 fun a ha a1 p e g=>by
  simp only[execOp,ha.ev hx];simp[convert,run_underlying hs,run_underlying a0,Conv.intToString]
end
theorem Bb{l:List UInt8}{a0:Nat}(h:a0<l.length)(hb:(nth l a0).toNat<128):JR (bs l) a0=((nth l a0).toNat,1):=by
 have hs:a0<(bs l).size:=by rw[cT];exact h
 have he:(bs l)[a0]'hs=nth l a0:=by rw[aC h];exact List.getElem_toArray (xs:=l) (i:=a0) h
 have:=decode_ascii (bs l) a0 hs (by rw[he];exact hb);rw[he]at this;exact this
theorem Db{l:List UInt8}{i:Nat}(h:i<l.length):(bs l).get! i=nth l i:=by
 rw[aC h];show(bs l).data[i]! = _;rw[getElem!_pos (bs l).data i (by simpa[bs]using h)];simp[bs]
theorem Bc{l:List UInt8}{a0:Nat}(h:a0<l.length)(hb:128<=(nth l a0).toNat):
  ∃c n,JR (bs l) a0=(c,n)/\128<=c/\Jh (c:Int)=true/\1<=n/\a0+n<=l.length/\∀i,a0<=i->i<a0+n->128<=(nth l i).toNat:=by
 have h0:(bs l).get! (a0+0)=nth l a0:=Db h;have hc:∀k,(a0+k<(bs l).size&&((bs l).get! (a0+k)).toNat / 64==2)=true->a0+k<l.length/\128<=(nth l (a0+k)).toNat:=fun k hk=>by
  simp only[I9,decide_eq_true_eq,beq_iff_eq,cT]at hk;rw[Db hk.1]at hk;exact⟨hk.1,zo⟩
 have one:∀i,a0<=i->i<a0+1->128<=(nth l i).toNat:=fun i h1 h2=>by
  obtain rfl:i=a0:=zo;exact hb
 have a1:∃c n,(Utf8.runeError,1)=(c,n)/\128<=c/\Jh (c:Int)=true/\1<=n/\a0+n<=l.length/\∀i,a0<=i->i<a0+n->128<=(nth l i).toNat:=⟨_,_,rfl,zd,zd,zd,zo,one⟩
 unfold JR;simp only[h0];rw[if_neg zo];have a2:=(nth l a0).toNat_lt
 split
 ·rename_i h1;simp only[I9]at h1;obtain⟨g1,g2⟩:=hc 1 (by simpa using h1.2)
  split
  ·rename_i h2;refine⟨_,_,rfl,h2,?_,zd,zo,fun i k1 k2=>?_⟩
   ·unfold Jh;simp only[K7,I9,decide_eq_true_eq];left;constructor<;>omega
   by_cases e:i=a0
   ·rw[e];exact hb
   obtain rfl:i=a0+1:=zo;exact g2
  exact a1
 split
 ·rename_i h1;simp only[I9]at h1;obtain⟨g1,g2⟩:=hc 1 (by simpa using h1.1.2);obtain⟨g3,g4⟩:=hc 2 (by simpa using h1.2)
  split
  ·rename_i h2;simp only[I9,decide_eq_true_eq]at h2;refine⟨_,_,rfl,zo,h2.2,zd,zo,fun i k1 k2=>?_⟩
   by_cases e:i=a0
   ·rw[e];exact hb
   by_cases e1:i=a0+1
   ·rw[e1];exact g2
   obtain rfl:i=a0+2:=zo;exact g4
  exact a1
 split
 ·rename_i h1;simp only[I9]at h1;obtain⟨g1,g2⟩:=hc 1 (by simpa using h1.1.1.2);obtain⟨g3,g4⟩:=hc 2 (by simpa using h1.1.2);obtain⟨g5,g6⟩:=hc 3 (by simpa using h1.2)
  split
  ·rename_i h2;simp only[I9,decide_eq_true_eq]at h2;refine⟨_,_,rfl,zo,h2.2,zd,zo,fun i k1 k2=>?_⟩
   by_cases e:i=a0
   ·rw[e];exact hb
   by_cases e1:i=a0+1
   ·rw[e1];exact g2
   by_cases e2:i=a0+2
   ·rw[e2];exact g4
   obtain rfl:i=a0+3:=zo;exact g6
  exact a1
 exact a1
theorem A7{c:Nat}(hc:128<=c)(hv:Jh (c:Int)=true):∃L:List UInt8,KG (c:Int)=bs L/\2<=L.length/\L.length<=4/\128<=(nth L 1).toNat:=by
 unfold KG;simp only[hv,if_true,Int.toNat_natCast];rw[if_neg zo];have hm:c % 64<64:=KZ _ zd
 split
 ·refine⟨[IK (0xC0+c / 64),IK (0x80+c % 64)],rfl,by simp,by simp,?_⟩;rw[aI,ao];simp;omega
 split
 ·refine⟨[IK (0xE0+c / 4096),IK (0x80+c / 64 % 64),IK (0x80+c % 64)],rfl,by simp,by simp,?_⟩;rw[aI,ao];have:c / 64 % 64<64:=KZ _ zd;simp;omega
 refine⟨[IK (0xF0+c / 262144),IK (0x80+c / 4096 % 64),IK (0x80+c / 64 % 64),IK (0x80+c % 64)],rfl,by simp,by simp,?_⟩;rw[aI,ao];have:c / 4096 % 64<64:=KZ _ zd;simp;omega
end Go.VL
namespace Go.Proofs.YteolbhblkgjbhaaGreatDoor
open Go.VL Go.Proofs
set_option maxRecDepth 10000
theorem pQ(c:Int)(w:ln)(hv:Jh c=true):JE IM 211 [.int .i32 c] w fun v w'=>v=.bool true/\w'=w:=by
 unfold Jh at hv;simp only[K7,I9,decide_eq_true_eq]at hv;refine I1 func211 ntmps211 rfl rfl ?_;refine zh ?_;refine aw (d:=6) rfl (b':=true) ((decide_eq_true zo)) ?_;refine zh ?_
 by_cases h:c<55296
 ·refine zTH rfl ((decide_eq_true zo)) ?_;refine ae rfl rfl (⟨rfl,rfl⟩)
 refine zFH rfl ((decide_eq_false zo)) ?_;refine aw (d:=13) rfl (b':=true) ((decide_eq_true zo)) ?_
 refine zh ?_;refine zTH rfl ((decide_eq_true zo)) ?_
 refine ae rfl rfl (⟨rfl,rfl⟩)
theorem nq(c:Nat)(w:ln)(hc:128<=c)(hv:Jh (c:Int)=true):JE IM 160 [.string (bs [33,47]),.int .i32 (c:Int)] w fun v w'=>v=nI (-1)/\Ju w w':=by
 refine I1 func160 ntmps160 rfl rfl ?_;refine zh ?_
 refine aw (d:=163) rfl (b':=true) ((decide_eq_true zo)) ?_;refine zh ?_
 refine zFH rfl ((decide_eq_false zo)) ?_
 by_cases h3:(c:Int)=65533
 ·refine zTH rfl ((by simpa using h3)) ?_;refine ti I3 rfl rfl ?_
  refine zh ?_;refine zlp (fun x:Nat=>[(175,.pointer (some ⟨w.heap.size,0,none⟩))]) (fun x=>w.iter (bs [33,47]) x) (fun x=>x<=2) (fun x=>2-x) 0 (I4 _) ?_
  rintro k hk;refine zh ?_
  by_cases a2:k<2
  ·have a3:([33,47]:List UInt8)[k]? = some (nth [33,47] k):=by rw[aC (by simpa using a2)];exact Jf (by simpa using a2)
   have a4:(nth ([33,47]:List UInt8) k).toNat<128:=by
    have:k=0\/k=1:=zo
    rcases this with rfl|rfl
    ·rw[ao];decide
    rw[aI,ao];decide
   refine CT rfl a3 a4 rfl ?_;refine zh ?_
   refine zTH rfl rfl ?_;refine zFH rfl ((beq_eq_false_iff_ne.2 zo)) ?_
   refine zxd (k+1) (a2)
  refine CS rfl (by simp;omega) rfl ?_;refine zh ?_
  refine zFH rfl rfl ?_;refine ae rfl rfl (⟨rfl,Ext.iter _ _ _⟩)
 refine zFH rfl ((by simpa using h3)) ?_;refine zc call211 (pQ c w hv) ?_
 rintro v w9 ⟨rfl,a1⟩;rw[a1];clear a1 w9;obtain⟨L,hL,a6,a5,a7⟩:=A7 hc hv;refine zh ?_;refine aT rfl rfl ?_;refine WC.scope ?_;refine zh ?_;refine zv (vq LW I3 rfl) ?_;rw[hL];refine zh ?_;refine zvH (bW I3 rfl) ?_;refine zlp (fun x:Unit=>[(0,.string (bs [33,47])),(7,.string (bs L)),(8,nI ((L.length:Int)-1)),(9,nI ((L.length:Int)-1)),(10,nI 0)]) (fun x=>w) (fun x=>True) (fun x=>0) () (trivial) ?_;rintro _ _;refine zh ?_;refine zvH (bW I3 rfl) ?_
 by_cases h2:L.length=2
 ·refine aS rfl ((decide_eq_true (by simp;omega))) ?_;have a0:L[1]? = some (nth L 1):=by rw[aC zo];exact Jf zo
  refine zh ?_;refine WC.scope ?_
  refine zh ?_;refine Jm zk zk ?_
  refine zh ?_;refine zwH (bd (c:=47) I3 rfl rfl 1 zo rfl) ?_
  refine zwH (bd (c:=nth L 1) I3 rfl rfl 1 zo a0) ?_;refine Jl ?_
  refine zh ?_;refine zTH rfl ((by rw[bne_iff_ne];show(47:Int)≠_;omega)) ?_
  refine Kh 7 rfl rfl zk zk ?_;refine zh ?_
  refine zwH (jo I3 rfl rfl 2 zo (by simp)) ?_;refine zw (bd (c:=nth L 1) I3 rfl rfl 1 zo a0) ?_
  refine La ?_;refine zc call44 (dp [] (nth L 1) w.drew.drew) ?_
  rintro v w9 ⟨rfl,a1⟩;rw[a1];clear a1 w9;refine zh ?_;refine zTH rfl rfl ?_;refine jt ?_;refine zh ?_;refine jt ?_;refine zh ?_;refine ae rfl rfl (⟨rfl,(IX w).drew.drew⟩)
 refine zFH rfl ((decide_eq_false (by simp;omega))) ?_;refine jt ?_
 refine zh ?_;refine ae rfl rfl (⟨rfl,IX _⟩)
theorem kf(c:Nat)(w:ln)(hc:128<=c)(hv:Jh (c:Int)=true):JE IM 117 [.string (bs [33,47]),.int .i32 (c:Int)] w fun v w'=>v=.bool false/\Ju w w':=by
 refine I1 func117 ntmps117 rfl rfl ?_;refine zh ?_
 refine zc call160 (nq c w hc hv) ?_;rintro v w9 ⟨rfl,hE⟩;refine zh ?_
 refine ae rfl rfl (⟨rfl,hE⟩)
theorem tT(c:Nat)(w:ln)(hc:128<=c)(hv:Jh (c:Int)=true):JE IM 116 [.int .i32 (c:Int)] w fun v w'=>v=.bool false/\Ju w w':=by
 refine I1 func116 ntmps116 rfl rfl ?_;refine zh ?_
 refine zc call117 (kf c w hc hv) ?_;rintro v w9 ⟨rfl,hE⟩;refine zh ?_
 refine ae rfl rfl (⟨rfl,hE⟩)
end Go.Proofs.YteolbhblkgjbhaaGreatDoor
end
section
namespace Go.VL
def forget(i:Nat)(O:Nat->Nat)(b:Nat):Nat:=if O b=i then 0 else O b
theorem Rng.forget{B i:Nat}{O:Nat->Nat}{w:ln}(h:K1 B O w):K1 B (forget i O) w:=⟨h.le,fun b hb=>by
 unfold VL.forget at hb
 split at hb
 ·exact absurd rfl hb
 exact h.rng b hb⟩
end Go.VL
namespace Go.Proofs.YteolbhblkgjbhaaGreatDoor
open Go.VL Go.Proofs
set_option maxRecDepth 10000
def gb(l:List UInt8):List UInt8:=(l.reverse.dropWhile (· == 32)).reverse
def BS(l:List UInt8):List UInt8:=ar (gb l)
theorem tF(l:List UInt8):gb (l++[32])=gb l:=by simp[gb]
theorem tG(l:List UInt8){c:UInt8}(h:c≠32):gb (l++[c])=l++[c]:=by simp[gb,h]
theorem lV(l:List UInt8)(w:ln)(hl:l.length<=1000000):JE IM 214 [.string (bs l),.int .u8 32] w fun v w'=>v=.string (bs (ar l))/\w'=w:=by
 refine I1 func214 ntmps214 rfl rfl ?_;refine zh ?_
 refine zlp (fun x:List UInt8=>[(0,.string (bs x)),(1,.int .u8 32)]) (fun x=>w) (fun x=>ar x=ar l/\x.length<=1000000) (fun x=>x.length) l (⟨rfl,hl⟩) ?_;rintro r ⟨hr,a0⟩;refine zh ?_
 refine zvH (bW I3 rfl) ?_
 cases r with
 |nil=>
  refine aw (d:=8) rfl (b':=false) (rfl) ?_;refine zh ?_
  refine zFH rfl rfl ?_;refine ae rfl rfl (⟨by rw[<-hr];rfl,rfl⟩)
 |cons b r2=>
  simp only[IS]at a0;refine aw (d:=8) rfl (b':=true) ((decide_eq_true (by simp only[IS];omega))) ?_;refine zh ?_;refine zvH (bd (c:=b) I3 rfl rfl 0 rfl rfl) ?_;refine zC ?_ ?_
  ·intro hb;replace hb:b=32:=by
    by_cases e:b=32
    ·exact e
    have:=gI b 32 zd e;exact absurd (this.symm.trans hb) zd
   subst hb;refine zh ?_;refine zvH (jo I3 rfl rfl 1 rfl (by simp)) ?_;refine zx (r2) (⟨by rw[<-hr];simp[ar],zo⟩) (by simp)
  intro hb;replace hb:b≠32:=fun e=>by subst e;cases hb
  refine zh ?_;refine ae rfl rfl (⟨by rw[<-hr];simp[ar,hb],rfl⟩)
theorem kG(l:List UInt8)(w:ln)(hl:l.length<=1000000):JE IM 215 [.string (bs l),.int .u8 32] w fun v w'=>v=.string (bs (gb l))/\w'=w:=by
 refine I1 func215 ntmps215 rfl rfl ?_;refine zh ?_
 refine zlp (fun x:List UInt8=>[(0,.string (bs x)),(1,.int .u8 32)]) (fun x=>w) (fun x=>gb x=gb l/\x.length<=1000000) (fun x=>x.length) l (⟨rfl,hl⟩) ?_;rintro r ⟨hr,a1⟩;refine zh ?_
 refine zvH (bW I3 rfl) ?_
 rcases List.eq_nil_or_concat r with rfl|⟨r2,b,rfl⟩
 ·refine aw (d:=8) rfl (b':=false) (rfl) ?_;refine zh ?_
  refine zFH rfl rfl ?_;refine ae rfl rfl (⟨by rw[<-hr];rfl,rfl⟩)
 rw[List.concat_eq_append]at *;have a0:(r2++[b]).length=r2.length+1:=by simp
 rw[a0]at a1;refine aw (d:=8) rfl (b':=true) ((decide_eq_true (by rw[a0];omega))) ?_;refine zh ?_;refine zvH (bW I3 rfl) ?_;refine zvH (bd (c:=b) I3 rfl rfl r2.length (by rw[a0];omega) (by simp)) ?_;refine zC ?_ ?_
 ·intro hb;replace hb:b=32:=by
   by_cases e:b=32
   ·exact e
   have:=gI b 32 zd e;exact absurd (this.symm.trans hb) zd
  subst hb;refine zh ?_;refine zv (bW I3 rfl) ?_;refine zv (RV.sub rfl rfl (Jb (by rw[a0];omega))) ?_;refine zvH (vm I3 rfl rfl r2.length (by rw[a0];omega) (by simp)) ?_;rw[List.take_left];refine zx (r2) (⟨by rw[<-hr,tF],zo⟩) (by simp)
 intro hb;replace hb:b≠32:=fun e=>by subst e;cases hb
 refine zh ?_;refine ae rfl rfl (⟨by rw[<-hr,tG _ hb],rfl⟩)
theorem yY(l:List UInt8):(gb l).length<=l.length:=by
 have:=(KE (l:=l.reverse) (· == (32:UInt8))).length_le;simpa[gb]using this
theorem BR(l:List UInt8)(w:ln)(hl:l.length<=1000000):JE IM 161 [.string (bs l),.string (bs [32])] w fun v w'=>v=.string (bs (BS l))/\Ju w w':=by
 have a0:=yY l;refine I1 func161 ntmps161 rfl rfl ?_;refine zh ?_;refine zvH (cI rfl rfl) ?_
 by_cases h0:l=[]
 ·subst h0;refine aw (d:=9) rfl (b':=true) (rfl) ?_;refine zh ?_;refine zTH rfl rfl ?_;refine ae rfl rfl (⟨rfl,IX _⟩)
 refine aw (d:=9) rfl (b':=false) ((by simpa using h0)) ?_;refine zh ?_
 refine zvH (cI rfl rfl) ?_;refine zFH rfl rfl ?_
 refine zvH (bW I3 rfl) ?_;refine aw (d:=17) rfl (b':=true) (rfl) ?_
 refine zh ?_;refine zvH (bd (c:=32) I3 rfl rfl 0 rfl rfl) ?_
 refine zTH rfl rfl ?_;refine Jm zk zk ?_
 refine zh ?_;refine zw (bd (c:=32) I3 rfl rfl 0 rfl rfl) ?_
 refine Ma call215 rfl (kG l w.drew hl) rfl ?_;refine zh ?_
 refine zw (bd (c:=32) I3 rfl rfl 0 rfl rfl) ?_;refine Ma call214 rfl (lV (gb l) w.drew zo) rfl ?_
 refine zh ?_;refine Jl ?_
 refine zh ?_;refine ae rfl rfl (⟨rfl,(IX w).drew⟩)
def xO(c:UInt8):Bool:=decide (c=33)||decide (c=47)
theorem D2(c:UInt8):decide (0<=qX [33,47] c)=xO c:=by
 unfold qX xO
 by_cases h1:c=33
 ·subst h1;rfl
 by_cases h2:c=47
 ·subst h2;rfl
 have:[(33:UInt8),47].findIdx? (· == c)=none:=by
  rw[IW];intro x hx;simp at hx
  rcases hx with rfl|rfl<;>simp<;>intro e<;>first|exact h1 e.symm|exact h2 e.symm
 rw[this];simp[h1,h2]
theorem qy(c:UInt8)(w:ln)(hc:c.toNat<128):JE IM 160 [.string (bs [33,47]),.int .i32 (c.toNat:Int)] w fun v w'=>v=nI (qX [33,47] c)/\w'=w:=by
 refine I1 func160 ntmps160 rfl rfl ?_;refine zh ?_
 refine aw (d:=163) rfl (b':=true) ((decide_eq_true zo)) ?_;refine zh ?_
 refine zTH rfl ((decide_eq_true zo)) ?_;refine zv (BC LW Km rfl (Fit.u8 zo)) ?_
 refine zc call44 (dp [33,47] c w) ?_;rintro v w9 ⟨rfl,a0⟩;rw[a0];clear a0 w9;refine zh ?_
 refine ae rfl rfl (⟨rfl,rfl⟩)
theorem lZ(c:UInt8)(w:ln)(hc:c.toNat<128):JE IM 117 [.string (bs [33,47]),.int .i32 (c.toNat:Int)] w fun v w'=>v=.bool (xO c)/\w'=w:=by
 refine I1 func117 ntmps117 rfl rfl ?_;refine zh ?_
 refine zc call160 (qy c w hc) ?_;rintro v w9 ⟨rfl,a0⟩;rw[a0];clear a0 w9;refine zh ?_
 refine ae rfl rfl (⟨congrArg J4 (D2 c),rfl⟩)
theorem zQ(c:UInt8)(w:ln)(hc:c.toNat<128):JE IM 116 [.int .i32 (c.toNat:Int)] w fun v w'=>v=.bool (xO c)/\w'=w:=by
 refine I1 func116 ntmps116 rfl rfl ?_;refine zh ?_
 refine zc call117 (lZ c w hc) ?_;rintro v w9 ⟨rfl,a0⟩;rw[a0];clear a0 w9;refine zh ?_
 refine ae rfl rfl (⟨rfl,rfl⟩)
def lC(l:List UInt8):Int:=match l.findIdx? xO with|some i=>(i:Nat)|none=>-1
theorem qz(l:List UInt8)(w:ln):JE IM 159 [.string (bs l),.func (.func 116) #[] #[],.bool true] w fun v w'=>v=nI (lC l)/\Ju w w':=by
 have b2:IQ (fun k=>k=1) (fun _=>0) w (kN (fun _=>0) w.heap.size 1) (w.iter (bs l) 0):=Lb zd (ay w) _ 1;have hO:kN (fun _=>0) w.heap.size 1 w.heap.size=1:=dS _ _ _;refine I1 func159 ntmps159 rfl rfl ?_;refine zh ?_;refine ti I3 rfl rfl ?_;refine zh ?_;refine zlp (fun x:Nat×ln=>[(1,.func (.func 116) #[] #[]),(2,.bool true),(10,.pointer (some ⟨w.heap.size,0,none⟩))]) (fun x=>x.2) (fun x=>(∀i,i<x.1->i<l.length->xO (nth l i)=false)/\x.2.heap[w.heap.size]? = some (.stringIter (bs l) x.1)/\IQ (fun k=>k=1) (fun _=>0) w (kN (fun _=>0) w.heap.size 1) x.2) (fun x=>l.length-x.1) (0,w.iter (bs l) 0) (⟨fun i hi=>absurd hi (IE i),World.iter_heap w (bs l) 0,b2⟩) ?_;rintro⟨k,w1⟩ ⟨a3,a2,a5⟩;dsimp only at a3 a2 a5 ⊢;refine zh ?_
 by_cases a1:k<l.length
 ·by_cases a7:(nth l k).toNat<128
  ·refine tj rfl a2 a1 (Bb a1 a7) rfl ?_;have a4:=a5.trans (LF zd hO (w:=w1) (.stringIter (bs l) (k+1)));have a0:(w1.putObj w.heap.size (.stringIter (bs l) (k+1))).heap[w.heap.size]? = some (.stringIter (bs l) (k+1)):=Ku (bq a2);generalize w1.putObj w.heap.size (.stringIter (bs l) (k+1))=w2 at *;refine zh ?_
   refine zTH rfl rfl ?_;refine dt rfl call116 rfl (zQ (nth l k) w2 a7) rfl ?_
   rintro v w9 ⟨rfl,a6⟩;rw[a6];clear a6 w9;refine zh ?_;refine zvH (BB M7 rfl rfl) ?_
   cases hs:xO (nth l k)with
   |true=>
    refine zTH rfl rfl ?_;have hf:l.findIdx? xO=some k:=I7.2 ⟨a1,by rw[<-aC a1,hs],fun j hj=>by rw[<-aC zo,a3 j hj zo];decide⟩
    refine ae rfl rfl (⟨by unfold lC;rw[hf];rfl,a4.ext⟩)
   |false=>
    refine zFH rfl rfl ?_;refine zxd (k+1,w2) (⟨fun i hi hl=>(II.1 hi).elim (fun h=>a3 i h hl) (fun e=>by rw[e];exact hs),a0,a4⟩)
  obtain⟨c,n,a',b1,b0,b4,b3,a9⟩:=Bc a1 zo;refine tj rfl a2 a1 a' rfl ?_;have a4:=a5.trans (LF zd hO (w:=w1) (.stringIter (bs l) (k+n)));have a0:(w1.putObj w.heap.size (.stringIter (bs l) (k+n))).heap[w.heap.size]? = some (.stringIter (bs l) (k+n)):=Ku (bq a2);generalize w1.putObj w.heap.size (.stringIter (bs l) (k+n))=w2 at *;refine zh ?_;refine zTH rfl rfl ?_;refine dt rfl call116 rfl (tT c w2 b1 b0) rfl ?_;rintro v w3 ⟨rfl,a8⟩;refine zh ?_;refine zvH (BB M7 rfl rfl) ?_;refine zFH rfl rfl ?_;refine zxd (k+n,w3) (⟨fun i hi hl=>?_,(a8.block _ (bq a0)).trans a0,a4.trans (aa zd _ a8)⟩)
  by_cases e:i<k
  ·exact a3 i e hl
  have:=a9 i zo hi;unfold xO;rw[decide_eq_false (fun e=>by rw[e]at this;exact absurd this zd),decide_eq_false (fun e=>by rw[e]at this;exact absurd this zd)];rfl
 refine vf rfl a2 zo rfl ?_;refine zh ?_
 refine zFH rfl rfl ?_;have hf:l.findIdx? xO=none:=IW.2 fun x hx=>by
  obtain⟨j,hj,rfl⟩:=cn hx;exact a3 j zo hj
 refine ae rfl rfl (⟨by unfold lC;rw[hf],a5.ext⟩)
theorem lW(l:List UInt8)(w:ln):JE IM 115 [.string (bs l),.func (.func 116) #[] #[]] w fun v w'=>v=nI (lC l)/\Ju w w':=by
 refine I1 func115 ntmps115 rfl rfl ?_;refine zh ?_
 refine zc call159 (qz l w) ?_;rintro v w1 ⟨rfl,hE⟩;refine zh ?_
 refine ae rfl rfl (⟨rfl,hE⟩)
def FP(seg:List UInt8):XR:=if BS seg=[]then .ok (.mk 9 0 [])else GV seg
def nX(kn:Kn)(seg:List UInt8):XR:=if BS seg=[]then .ok (.mk 9 0 [])else eV kn seg
variable{kn:Kn}
def PostS(O:Nat->Nat)(w:ln)(j rb:Nat)(s:LS)(fr:Nat)(x:N3):XR->Prop
 |.ok t=>Nt O w t x/\Rd6 O w j rb s
 |.bad p e=>x=(0,0,nS)/\e≠0/\Rd6 O w j rb {s with bad:=(fr:Int)+(p:Int),e:=e}
theorem xj(l:List UInt8)(p:Nat)(e:Int)(h:eV kn l=.bad p e):e≠0/\p<=l.length:=by
 have hg:=iy (kn:=kn) 20 l;unfold eV at h
 split at h
 ·cases h;exact⟨zd,I4 _⟩
 cases hf:uZ kn 20 l with
 |bad q f=>
  rw[hf]at h hg
  cases h
  exact⟨hg.2,zo⟩
 |ok t r=>
  rw[hf]at h;dsimp only at h
  split at h
  ·cases h;exact⟨zd,zo⟩
  split at h
  ·cases h;exact⟨zd,I4 _⟩
  cases h
theorem vl{α:Type}{enc:α->List ix}{E:IV}{sz:Nat}{B:Nat}{O:Nat->Nat}{w:ln}{i:Nat}{v:ix}{l:List α}(h:JS enc E sz O w i v l)(hi:i≠0)(r:K1 B O w):Kl (forget i O) w v:=fun a n c e _=>by
 have h1:=h.1.tag a.block (by subst e;rfl);have h2:=r.rng a.block (by rw[h1];exact hi);exact⟨by unfold forget;rw[if_pos h1],h2.2⟩
def Mac(O:Nat->Nat)(w:ln)(i:Nat)(v:ix)(kn:Kn):Prop:=
 ∃ms:List M3,JS kF 197 4 O w i v ms/\kn.length=ms.length/\∀q,q<ms.length->(nth kn q).1=(nth ms q).1/\Nt O w (nth kn q).2 (nth ms q).2
theorem Mac.upd{S:Nat->Prop}{O O':Nat->Nat}{w w':ln}{i:Nat}{v:ix}(h:Mac O w i v kn)(u:IQ S O w O' w')(hi:i≠0)(hS:¬S i):Mac O' w' i v kn:=by
 obtain⟨ms,h1,h2,h3⟩:=h;exact⟨ms,h1.upd u hi hS,h2,fun q hq=>⟨(h3 q hq).1,(h3 q hq).2.upd u⟩⟩
theorem Mac.known{B:Nat}{O:Nat->Nat}{w:ln}{i:Nat}{v:ix}(h:Mac O w i v kn)(hi:i≠0)(r:K1 B O w):Known (forget i O) w v kn:=by
 obtain⟨ms,h1,h2,h3⟩:=h;exact⟨ms,h1.sl,vl h1 hi r,h2,fun q hq=>⟨(h3 q hq).1,(h3 q hq).2.weak fun b hb=>by unfold forget;rw[hb];split<;>rfl⟩⟩
theorem Mac.nil(O:Nat->Nat)(w:ln)(i:Nat):Mac O w i (nS) []:=⟨[],IU _ _ _ _ _ _,rfl,fun q hq=>absurd hq (by simp)⟩
theorem pX(B:Nat)(O:Nat->Nat)(w:ln)(j rb:Nat)(s:LS)(fr to:Nat)(hR:K1 B O w)(hj:j≠0)(he:s.e=0){jm:Nat}(d6:jm≠0)(e7:j≠jm)(e5:Mac O w jm s.mc kn)(e8:fr<=to)(e3:to<=s.l.length)(hl:s.l.length<=100000)(h:Rd6 O w j rb s):
  JE IM 118 [nP rb,nI fr,nI to] w fun v w'=>∃x,v=nv x/\IQ (fun k=>k=j) O w O w'/\PostS O w' j rb s fr x (nX kn ((s.l.take to).drop fr)):=by
 obtain⟨T0,d2,b1⟩:=hR.bound;obtain⟨T,a2,e6,hT⟩:∃T,0<T/\jm<T/\∀b,O b<T:=⟨T0+jm+1,zo,zo,fun b=>by have:=b1 b;omega⟩
 clear d2 b1 T0;have f7:j<T:=by rw[<-h.tag];exact hT rb
 have f5:((s.l.take to).drop fr).length=to-fr:=by simp;omega
 refine I1 func118 ntmps118 rfl rfl ?_;refine zh ?_
 refine au hR T zo (K9 _) rfl ?_;intro xb w1 O1 e2 d9 f3 f8;have d8:=h.upd d9 hj zo;have c9:=d9.pT hj a2 (IL _);refine zh ?_
 refine zvH (RV.ld d8.q0 rfl) ?_;refine zvH (cM I3 rfl rfl rfl fr to rfl rfl e8 e3) ?_
 refine zc call161 (BR ((s.l.take to).drop fr) w1 zo) ?_;rintro v w2 ⟨rfl,e1⟩;have c7:IQ (fun _=>False) O1 w1 O1 w2:=aa (fun h=>h) O1 e1;have b2:=e2.upd c7 zo (fun h=>h);have c5:=d8.upd c7 hj (fun h=>h);have b4:=f3.upd c7;have a5:=c9.trans (iQ O1 e1 hj a2);refine zvH (cI rfl rfl) ?_
 by_cases b3:BS ((s.l.take to).drop fr)=[]
 ·have hM:nX kn ((s.l.take to).drop fr)=.ok (.mk 9 0 []):=by unfold nX;rw[if_pos b3]
  rw[hM];refine aS rfl ((by rw[b3];rfl)) ?_;have a6:((9,0,nS):N3).2.2.oneCell'=true:=rfl;refine zh ?_;refine zv (aF kK (K9 _) rfl (by first|rfl|(simp only[IH,J6];rfl)) rfl rfl) ?_;refine zsb (us:=#[nI ((9,0,nS):N3).1,nI ((9,0,nS):N3).2.1,((9,0,nS):N3).2.2]) b2 (J2 _) (bX a6) ?_;have a8:=KL (us:=#[nI ((9,0,nS):N3).1,nI ((9,0,nS):N3).2.1,((9,0,nS):N3).2.2]) b2;have a1:IQ (fun k=>k=T) O1 w2 O1 (Kr w2 xb #[nI ((9,0,nS):N3).1,nI ((9,0,nS):N3).2.1,((9,0,nS):N3).2.2]):=IF zo (Ln b2) rfl;have a':=c5.upd a1 hj zo;have a7:=a5.trans (a1.pT hj a2 (IL _));refine zh ?_;refine aL rfl rfl (a8.cellsAdd) (JO _) (J2 _) (⟨(9,0,nS),rfl,a7.priv hT hj,LC _ _ _ _,a'.fgt h.tag⟩)
 have hM:nX kn ((s.l.take to).drop fr)=eV kn ((s.l.take to).drop fr):=by unfold nX;rw[if_neg b3]
 rw[hM];refine zFH rfl ((by simpa using b3)) ?_;refine zv (RV.ld c5.q9 rfl) ?_;have b9:=e5.upd a5 d6 zo;refine zc call111 (kL s.mc ((s.l.take to).drop fr) B O1 (forget jm O1) w2 b4 b4.forget (b9.known d6 b4)) ?_;rintro v w3 ⟨e0,b5⟩;have c6:IQ (fun _=>False) O1 w2 O1 w3:=aa (fun h=>h) O1 e0;have d3:=b2.upd c6 zo (fun h=>h);have d7:=c5.upd c6 hj (fun h=>h);have d':=b4.upd c6;have b0:=a5.trans (iQ O1 e0 hj a2)
 cases hf:eV kn ((s.l.take to).drop fr)with
 |ok t=>
  rw[hf]at b5;obtain⟨x,rfl,d4⟩:=b5;have a6:=d4.one;refine zh ?_;refine au d' (T+1) zo (K9 _) rfl ?_;intro nb w4 O4 a3 d1 e' f4;refine zsb (us:=#[nI x.1,nI x.2.1,x.2.2]) a3 (J2 _) (bX a6) ?_;have b8:=a3.setRow (us:=#[nI x.1,nI x.2.1,x.2.2]);have d0:IQ (fun k=>k=T+1) O4 w4 O4 (w4.setRow nb #[nI x.1,nI x.2.1,x.2.2]):=IF zo a3.tag rfl;have a0:=d1.trans d0;have a9:=d3.upd a0 zo zo;have b':=d7.upd a0 hj zo;have a4:=b0.trans (a0.pT hj a2 (LD _));have b7:=d4.upd a0;generalize w4.setRow nb #[nI x.1,nI x.2.1,x.2.2]=w5 at *;refine zh ?_;refine zFH rfl rfl ?_;refine zv (ah (us:=bt x) b8.cellsAdd (JO _) (J2 _) rfl) ?_;refine zsb (us:=#[nI x.1,nI x.2.1,x.2.2]) a9 (J2 _) (bX a6) ?_;have a8:=KL (us:=#[nI x.1,nI x.2.1,x.2.2]) a9;have a1:IQ (fun k=>k=T) O4 w5 O4 (Kr w5 xb #[nI x.1,nI x.2.1,x.2.2]):=IF zo (Ln a9) rfl;have a':=b'.upd a1 hj zo;have a7:=a4.trans (a1.pT hj a2 (IL _));refine zh ?_;refine aL rfl rfl (a8.cellsAdd) (JO _) (J2 _) (⟨x,rfl,a7.priv hT hj,(b7.upd a1).low a7,a'.fgt h.tag⟩)
 |bad p e=>
  rw[hf]at b5;obtain⟨rfl,d5⟩:=b5;obtain⟨_,f6⟩:=xj _ _ _ hf;refine zh ?_;refine au d' (T+1) zo (K9 _) rfl ?_;intro nb w4 O4 a3 d1 e' f4;refine zsa (us:=#[nI 0,nI 0,nS]) a3 (J2 _) ?_;have b8:=a3.setRow (us:=#[nI 0,nI 0,nS]);have d0:IQ (fun k=>k=T+1) O4 w4 O4 (w4.setRow nb #[nI 0,nI 0,nS]):=IF zo a3.tag rfl;have a0:=d1.trans d0;have a9:=d3.upd a0 zo zo;have b':=d7.upd a0 hj zo;have a4:=b0.trans (a0.pT hj a2 (LD _));generalize w4.setRow nb #[nI 0,nI 0,nS]=w5 at *;refine zh ?_;refine zTH rfl ((by simpa using d5)) ?_;refine zc Lq (bx O4 w5 j rb s ((fr:Int)+(p:Int)) e hj he b') ?_;rintro v w6 ⟨e9,c'⟩;have b6:=a9.upd c' zo zo;have e4:=b8.upd c' zo zo;have c8:=a4.trans (c'.pj a2);refine zh ?_;refine zv (ah (us:=bt ((0,0,nS):N3)) e4.cellsAdd (JO _) (J2 _) rfl) ?_;have a6:((0,0,nS):N3).2.2.oneCell'=true:=rfl;refine zsb (us:=#[nI ((0,0,nS):N3).1,nI ((0,0,nS):N3).2.1,((0,0,nS):N3).2.2]) b6 (J2 _) (bX a6) ?_;have a8:=KL (us:=#[nI ((0,0,nS):N3).1,nI ((0,0,nS):N3).2.1,((0,0,nS):N3).2.2]) b6;have a1:IQ (fun k=>k=T) O4 w6 O4 (Kr w6 xb #[nI ((0,0,nS):N3).1,nI ((0,0,nS):N3).2.1,((0,0,nS):N3).2.2]):=IF zo (Ln b6) rfl;have a':=e9.upd a1 hj zo;have a7:=c8.trans (a1.pT hj a2 (IL _));refine zh ?_;refine aL rfl rfl (a8.cellsAdd) (JO _) (J2 _) (⟨(0,0,nS),rfl,a7.priv hT hj,rfl,d5,a'.fgt h.tag⟩)
end Go.Proofs.YteolbhblkgjbhaaGreatDoor
end
namespace Go.Proofs.YteolbhblkgjbhaaGreatDoor
section
def dW(t:Nd):Int:=if(bn t&&CD 3 t)=true then 4 else if(!(uy t)||decide (4<uw t))=true then 8 else 0
theorem jP(t:Nd)(x:N3)(w:ln)(h:Nt (fun _=>0) w t x):JE IM 84 [nv x] w fun v w'=>v=nI (dW t)/\Ju w w':=by
 refine I1 func84 ntmps84 rfl rfl ?_;refine zh ?_
 refine aH (ay w) 1 zo rfl rfl ?_;intro xb w1 O1 a5 a7 a8 a3;have a4:∀W,Ju w1 W->∀(j:Nat) (u:ix),(bt x)[j]? = some u->W.cell? (nA xb j)=some u:=fun W hE j u hu=>hE.cell (a5.cellsAdd j u hu)
 refine zh ?_;refine zv (ah (us:=bt x) (a4 w1 (IX _)) (JO _) (J2 _) rfl) ?_
 refine zc call122 (oi t x w1 (h.ext a3)) ?_;rintro v w2 ⟨rfl,a2⟩;refine zh ?_
 refine zv (ah (us:=bt x) (a4 w2 a2) (JO _) (J2 _) rfl) ?_;refine zc call123 (yj t 3 x w2 (h.ext (a3.trans a2))) ?_
 rintro v w3 ⟨rfl,a6⟩;have a0:=(a3.trans a2).trans a6;refine zh ?_
 cases h1:(bn t&&CD 3 t)with
 |true=>
  refine zTH rfl rfl ?_;refine ae rfl rfl (⟨by unfold dW;rw[if_pos h1],a0⟩)
 |false=>
  refine zFH rfl rfl ?_;refine cD (fun w1=>_=w1) (decide (4<uw t)) 2 (rfl) rfl rfl rfl rfl rfl ?_ ?_
  ·intro a1;refine zh ?_;refine nE 16 3 (rfl) a1
  rintro _ rfl;refine zh ?_
  cases h2:(!(uy t)||decide (4<uw t))with
  |true=>
   refine zTH rfl rfl ?_;refine ae rfl rfl (⟨by unfold dW;rw[if_neg (by rw[h1];decide),if_pos h2],a0⟩)
  |false=>
   refine zFH rfl rfl ?_;refine ae rfl rfl (⟨by unfold dW;rw[if_neg (by rw[h1];decide),if_neg (by rw[h2];decide)],a0⟩)
abbrev R3:=Nd×Nd×Bool
abbrev X3:=N3×N3×Bool
def cO(x:X3):List ix:=[nI x.1.1,nI x.1.2.1,x.1.2.2,nI x.2.1.1,nI x.2.1.2.1,x.2.1.2.2,.bool x.2.2]
def Rt(O:Nat->Nat)(w:ln)(t:R3)(x:X3):Prop:=Nt O w t.1 x.1/\Nt O w t.2.1 x.2.1/\x.2.2=t.2.2
theorem Rt.upd{S:Nat->Prop}{O O':Nat->Nat}{w w':ln}{t:R3}{x:X3}(h:Rt O w t x)(u:IQ S O w O' w'):Rt O' w' t x:=⟨h.1.upd u,h.2.1.upd u,h.2.2⟩
theorem Rt.weak{O O':Nat->Nat}{w:ln}{t:R3}{x:X3}(h:Rt O' w t x)(k:∀b,O' b=0->O b=0):Rt O w t x:=⟨h.1.weak k,h.2.1.weak k,h.2.2⟩
theorem elR:M6 IM 54 122 7 88:=⟨LU,by kernel_rfl,zd⟩
theorem FU:cF IM 122 #[(0,3),(3,3),(6,1)]:=⟨_,underlying122,fun w=>by kernel_rfl⟩
inductive LR where
 |ok (x:R3)
 |bad (p:Nat) (e:Int)
def Iw(r:List UInt8):LR:=
 match r.findIdx? xO with
 |none=>.bad r.length 4
 |some k=>
  match FP (r.take k)with
  |.bad p e=>.bad p e
  |.ok a=>
   match FP (r.drop (k+1))with
   |.bad p e=>.bad (k+1+p) e
   |.ok b=>if dW b≠0 then .bad (k+1) (dW b)else .ok (a,b,(((nth r k).toNat:Int)==47))
def gk(kn:Kn)(r:List UInt8):LR:=
 match r.findIdx? xO with
 |none=>.bad r.length 4
 |some k=>
  match nX kn (r.take k)with
  |.bad p e=>.bad p e
  |.ok a=>
   match nX kn (r.drop (k+1))with
   |.bad p e=>.bad (k+1+p) e
   |.ok b=>if dW b≠0 then .bad (k+1) (dW b)else .ok (a,b,(((nth r k).toNat:Int)==47))
variable{kn:Kn}
def zN(s:LS)(fr:Nat):XR->LS
 |.ok _=>s
 |.bad p e=>{s with bad:=(fr:Int)+(p:Int),e:=e}
theorem PostS.rd{O:Nat->Nat}{w:ln}{j rb:Nat}{s:LS}{fr:Nat}{x:N3}{M:XR}(h:PostS O w j rb s fr x M):Rd6 O w j rb (zN s fr M):=by
 cases M with
 |ok t=>exact h.2
 |bad p e=>exact h.2.2
theorem PostS.one{O:Nat->Nat}{w:ln}{j rb:Nat}{s:LS}{fr:Nat}{x:N3}{M:XR}(h:PostS O w j rb s fr x M):x.2.2.oneCell'=true:=by
 cases M with
 |ok t=>exact h.1.one
 |bad p e=>rw[h.1];rfl
theorem PostS.upd{S:Nat->Prop}{O O':Nat->Nat}{w w':ln}{j rb:Nat}{s:LS}{fr:Nat}{x:N3}{M:XR}(h:PostS O w j rb s fr x M)(u:IQ S O w O' w')(hj:j≠0)(hS:¬S j):PostS O' w' j rb s fr x M:=by
 cases M with
 |ok t=>exact⟨h.1.upd u,IN h.2 u hj hS⟩
 |bad p e=>exact⟨h.1,h.2.1,IN h.2.2 u hj hS⟩
theorem B6(s:LS)(fr:Nat)(M:XR):(zN s fr M).l=s.l:=by cases M<;>rfl
theorem zM(s:LS)(fr:Nat)(M:XR):(zN s fr M).bg=s.bg:=by cases M<;>rfl
def Ib(B:Nat)(O:Nat->Nat)(w w':ln)(j jr rb:Nat)(s:LS)(xs:List X3)(M:LR):Prop:=
 ∃O' rv,IQ (fun k=>k=j\/k=jr) O w O' w'/\K1 B O' w'/\
  match M with
  |.ok t=>∃x,JS cO 122 7 O' w' jr rv (xs++[x])/\Rt O' w' t x/\Rd6 O' w' j rb {s with ru:=rv}
  |.bad p e=>e≠0/\Rd6 O' w' j rb {s with ru:=rv,bad:=s.bg+(p:Int),e:=e}
theorem jG{x y:N3}{b:Bool}(h1:x.2.2.oneCell'=true)(h2:y.2.2.oneCell'=true):(cO (x,y,b)).toArray.toList.all I6=true:=by
 simp only[cO,IH,h1,h2];rfl
theorem cL{x y:N3}{b:Bool}(h1:x.2.2.oneCell'=true)(h2:y.2.2.oneCell'=true):∀c∈cO (x,y,b),c.oneCell'=true:=by
 have:=jG (b:=b) h1 h2;exact IZ.1 this
theorem C1{L r:List UInt8}(h:r <:+ L):L.drop (L.length-r.length)=r:=(List.suffix_iff_eq_drop.1 h).symm
theorem ja{O:Nat->Nat}{w:ln}{i b:Nat}{x1 x2:N3}{brk:Bool}{E:IV}(h:J7 O w i b (cO (x1,x2,brk)).toArray E):∀(q:Nat) (u:ix),(bt x2)[q]? = some u->w.cell? ((nA b 3).add q)=some u:=fun q u hu=>by
 have e:((nA b 3).add q)=⟨b,3+q,none⟩:=by
  simp only[LP];(repeat' split)<;>simp_all
 rw[e];refine h.cell (3+q) ?_;simp only[bt]at hu
 match q,hu with
 |0,hu=>exact hu
 |1,hu=>exact hu
 |2,hu=>exact hu
theorem tM{O:Nat->Nat}{w:ln}{j rb m n:Nat}{s:LS}{fr:Nat}{x:N3}{M:XR}{hbg:s.bg=((m-n:Nat):Int)}(h:PostS O w j rb s fr x M):w.cell? ⟨rb,0,none⟩=some (.string (bs s.l))/\w.cell? ⟨rb,3,none⟩=some (nI ((m-n:Nat):Int)):=by
 have h0:=h.rd.q0;have h3:=h.rd.q3;rw[B6]at h0;rw[zM,hbg]at h3;exact⟨h0,h3⟩
theorem rQ(B:Nat)(O:Nat->Nat)(w:ln)(j jr rb:Nat)(s:LS)(m:Nat)(r:List UInt8)(xs:List X3)(hR:K1 B O w)(hj:j≠0)(b0:jr≠0)(e7:j≠jr)(hm:m<=s.l.length)(hl:s.l.length<=100000)(i7:s.to=(m:Int))(hbg:s.bg=((m-r.length:Nat):Int))(he:s.e=0){jm:Nat}(h2:jm≠0)(g0:j≠jm)(l':jr≠jm)(j3:Mac O w jm s.mc kn)
  (hr:r <:+ s.l.take m) (f':JS cO 122 7 O w jr s.ru xs) (l9:xs.length<=40) (h:Rd6 O w j rb s) :
  JE IM 80 [nP rb] w fun _ w'=>Ib B O w w' j jr rb s xs (if xs.length=40 then .bad 0 3 else gk kn r):=by
 obtain⟨T0,j6,i4⟩:=hR.bound;obtain⟨T,g7,h',l3,hT⟩:∃T,0<T/\jr<T/\jm<T/\∀b,O b<T:=⟨T0+jr+jm+1,by omega,by omega,by omega,fun b=>by have:=i4 b;omega⟩
 clear j6 i4 T0;have f7:j<T:=by rw[<-h.tag];exact hT rb
 have b2:¬(fun q:Nat=>q=j\/q=jr\/T<=q) 0:=fun e=>by rcases e with e|e|e;exact hj e.symm;exact b0 e.symm;omega
 have j1:¬(fun q:Nat=>q=j\/q=jr) 0:=fun e=>by rcases e with e|e;exact hj e.symm;exact b0 e.symm
 have k5:(s.l.take m).length=m:=by simp;omega
 have k':=hr.length_le;rw[k5]at k';have c8:=C1 hr;rw[k5]at c8;have q0:=h.q0;have q2:=h.q2;rw[i7]at q2;have q3:=h.q3;rw[hbg]at q3;have q8:=h.q8;have k9:=f'.sl;refine I1 func80 ntmps80 rfl rfl ?_;refine zg ?_;refine zv (RV.ld q8 rfl) ?_;refine zvG (Jy (by first|exact k9) LU rfl) ?_
 by_cases j8:xs.length=40
 ·rw[if_pos j8];refine aS rfl ((by rw[j8];rfl)) ?_;have k7:w.drew.cell? ⟨rb,3,none⟩=some (nI ((m-r.length:Nat):Int)):=q3;refine zg ?_;refine Kh 8 rfl rfl zk zk ?_;refine zg ?_;refine zw (RV.ld k7 rfl) ?_;refine La ?_;refine zc Lq (bx O w.drew j rb s ((m-r.length:Nat):Int) 3 hj he h.drew) ?_;rintro v w1 ⟨f8,k3⟩;refine zg ?_;refine bR rfl ⟨O,s.ru,(Ki k3).mono (fun _ h=>.inl h) j1,hR.drew.upd k3,by decide,?_⟩;rw[show s.bg+((0:Nat):Int)=((m-r.length:Nat):Int)from by rw[hbg];simp];exact f8
 rw[if_neg j8];refine aT rfl ((beq_eq_false_iff_ne.2 zo)) ?_;have hd:=h.drew;have d0:=hd.q0;have d2:=hd.q2;rw[i7]at d2;have d3:=hd.q3;rw[hbg]at d3;refine zg ?_;refine Kh 16 rfl rfl zk zk ?_;refine zg ?_;refine zwG (RV.ld d0 rfl) ?_;refine zwG (RV.ld d3 rfl) ?_;refine zw (RV.ld d2 rfl) ?_;refine zw (cM I3 rfl rfl rfl (m-r.length) m rfl rfl zo hm) ?_;refine La ?_;rw[c8];refine zc call115 (lW r w.drew) ?_;rintro v w1 ⟨rfl,l7⟩;have i8:IQ (fun _=>False) O w.drew O w1:=aa (fun h=>h) O l7;have f8:=hd.upd i8 hj (fun h=>h);have j9:=f'.drew.upd i8 b0 (fun h=>h);have j0:=hR.drew.upd i8;have e8:IQ (fun q=>q=j\/T<=q) O w O w1:=Ki (i8.mono (fun _ h=>h.elim) (fun e=>by rcases e with e|e;exact hj e.symm;omega));have e2:=f8.q2;rw[i7]at e2;have e3:=f8.q3;rw[hbg]at e3
 cases hf:r.findIdx? xO with
 |none=>
  have hi:lC r = -1:=by unfold lC;rw[hf]
  have hM:gk kn r=.bad r.length 4:=by unfold gk;rw[hf]
  rw[hi,hM];refine zg ?_;refine aS rfl rfl ?_;have l8:w1.drew.cell? ⟨rb,2,none⟩=some (nI (m:Int)):=e2;refine zg ?_;refine Kh 8 rfl rfl zk zk ?_;refine zg ?_;refine zw (RV.ld l8 rfl) ?_;refine La ?_;refine zc Lq (bx O w1.drew j rb s (m:Int) 4 hj he f8.drew) ?_;rintro v w2 ⟨l5,k2⟩;refine zg ?_;refine bR rfl ⟨O,s.ru,(e8.fgt (S':=fun k=>k=j\/k=jr) (fun b hb=>.inl (hb.resolve_right (by have:=hT b;omega))) j1).trans ((Ki k2).mono (fun _ h=>.inl h) j1),j0.drew.upd k2,by decide,?_⟩;rw[show s.bg+(r.length:Int)=(m:Int)from by rw[hbg];omega];exact l5
 |some k=>
  obtain⟨hk,m1,m0⟩:=I7.1 hf;have hi:lC r=(k:Nat):=by unfold lC;rw[hf]
  rw[hi];have j4:s.l[k+(m-r.length)]? = some (nth r k):=by
   have h1:(s.l.take m)[m-r.length+k]? = r[k]?:=by rw[<-c8,List.getElem?_drop,c8]
   rw[aC hk];exact mm (m:=m) (by rw[Lw,h1];exact Jf hk)
  have f4:(s.l.take (k+(m-r.length))).drop (m-r.length)=r.take k:=by
   rw[<-c8,Ll,Lk,Lj zo,c8,Lw]
  have h5:(s.l.take m).drop (k+(m-r.length)+1)=r.drop (k+1):=by
   rw[<-c8,List.drop_drop,c8];congr 1;omega
  generalize i0:(((nth r k).toNat:Int)==47)=brk;refine zg ?_;refine zFG rfl ((decide_eq_false zo)) ?_;refine zv (RV.ld e3 rfl) ?_;refine zvG (Jz rfl rfl (Jb zo)) ?_;rw[show(k:Int)+((m-r.length:Nat):Int)=((k+(m-r.length):Nat):Int)from by omega];refine lP (fun z:(Nat->Nat)×World×Nat×N3=>[(0,nP rb),(2,nI ((k+(m-r.length):Nat):Int)),(3,.pointer (some ⟨z.2.2.1,0,none⟩))]) (fun z:(Nat->Nat)×World×Nat×N3=>z.2.1) (fun z:(Nat->Nat)×World×Nat×N3=>J7 z.1 z.2.1 T z.2.2.1 (cO (z.2.2.2,(0,0,nS),brk)).toArray 122/\IQ (fun q=>q=j\/T<=q) O w z.1 z.2.1/\K1 B z.1 z.2.1/\PostS z.1 z.2.1 j rb s (m-r.length) z.2.2.2 (nX kn (r.take k))) ?_ ?_
  ·intro hN;refine aK (fun V=>V.cell? ⟨rb,0,none⟩=some (.string (bs s.l))/\V.cell? ⟨rb,3,none⟩=some (nI ((m-r.length:Nat):Int))) 19 rfl zk ?_;refine zin ⟨f8.drew.q0,e3⟩ fun zS=>?_
   refine zrm 0 rfl zS rfl ?_;refine zrm 1 rfl zS rfl ?_
   refine zr 2 rfl zS (fun _=>ak rfl) ?_;refine zrf 3 rfl zS rfl ?_
   refine zrf 4 rfl zS rfl ?_;refine zt 5 rfl zS (fun w1 e5=>RV.ld e5.2 rfl) ?_
   refine zrm 6 rfl zS rfl ?_;refine zrm 8 rfl zS rfl ?_
   refine zr 9 rfl zS (fun _=>ak rfl) ?_;refine zrf 10 rfl zS rfl ?_
   refine zrf 11 rfl zS rfl ?_;refine zt 12 rfl zS (fun w1 e5=>RV.ld e5.1 rfl) ?_
   refine zrm 13 rfl zS rfl ?_;refine zr 14 rfl zS (fun _=>bd (c:=nth r k) I3 rfl rfl (k+(m-r.length)) rfl j4) ?_
   refine zr 15 rfl zS (fun _=>RV.eql rfl rfl) ?_;rw[i0];refine bZ 7 17 zk rfl rfl ?_ ?_
   ·refine zc LZ (pX B O w1.drew j rb s (m-r.length) (k+(m-r.length)) j0.drew hj he h2 g0 (j3.upd (KN e8) h2 zo) zo zo hl f8.drew) ?_;rintro v w3 ⟨x1,rfl,h4,e4⟩;rw[f4]at e4;refine zg ?_
    refine af (tM (hbg:=hbg) e4) ?_;refine zr 16 rfl (tM (hbg:=hbg) e4) (fun _=>Ls (cells:=(cO (x1,(0,0,nS),brk)).toArray) FU (K8 _) rfl rfl) ?_
    refine IG 17 zk rfl ?_;refine au (j0.drew.upd h4) T zo (K8 _) rfl ?_
    intro xb w4 O4 d8 e0 i5 k6;have e1:=e4.upd e0 hj zo;refine zg ?_;refine af (tM (hbg:=hbg) e1) ?_;refine IG 18 zk rfl ?_;refine zsb (us:=(cO (x1,(0,0,nS),brk)).toArray) d8 (JV _) (jG e4.one rfl) ?_;have f9:=d8.setRow (us:=(cO (x1,(0,0,nS),brk)).toArray);have d':IQ (fun q=>q=T) O4 w4 O4 (w4.setRow xb (cO (x1,(0,0,nS),brk)).toArray):=IF zo d8.tag rfl;have e':=e1.upd d' hj zo;refine zg ?_;refine af (tM (hbg:=hbg) e') ?_;refine Jc zk ?_;exact gV (hN ((O4,_,xb,x1)) (⟨f9,(((KN e8).trans (h4.pj g7)).trans (e0.pT hj g7 (IL _))).trans (d'.pT hj g7 (IL _)),i5.upd d',e'⟩)) ⟨rfl,rfl,rfl,trivial⟩ rfl
   refine au j0.drew T zo (K8 _) rfl ?_;intro xb w3 O3 g9 h4 g8 m2;have d7:=f8.drew.upd h4 hj zo;have f3:=d7.q3;rw[hbg]at f3;refine zg ?_
   refine af ⟨d7.q0,f3⟩ ?_;refine IG 7 zk rfl ?_
   refine zc LZ (pX B O3 w3 j rb s (m-r.length) (k+(m-r.length)) g8 hj he h2 g0 (j3.upd ((KN e8).trans (h4.pT hj g7 (IL _))) h2 zo) zo zo hl d7) ?_;rintro v w4 ⟨x1,rfl,e0,e1⟩;rw[f4]at e1;have d8:=g9.upd e0 zo zo;refine zg ?_
   refine af (tM (hbg:=hbg) e1) ?_;refine zr 16 rfl (tM (hbg:=hbg) e1) (fun _=>Ls (cells:=(cO (x1,(0,0,nS),brk)).toArray) FU (K8 _) rfl rfl) ?_
   refine IG 18 zk rfl ?_;refine zsb (us:=(cO (x1,(0,0,nS),brk)).toArray) d8 (JV _) (jG e1.one rfl) ?_
   have f9:=d8.setRow (us:=(cO (x1,(0,0,nS),brk)).toArray);have d':IQ (fun q=>q=T) O3 w4 O3 (w4.setRow xb (cO (x1,(0,0,nS),brk)).toArray):=IF zo d8.tag rfl;have e':=e1.upd d' hj zo;refine zg ?_;refine af (tM (hbg:=hbg) e') ?_;refine Jc zk ?_;exact gV (hN ((O3,_,xb,x1)) (⟨f9,(((KN e8).trans (h4.pT hj g7 (IL _))).trans (e0.pj g7)).trans (d'.pT hj g7 (IL _)),(g8.upd e0).upd d',e'⟩)) ⟨rfl,rfl,rfl,trivial⟩ rfl
  rintro⟨O3,w3,xb,x1⟩ ⟨g9,g3,g8,e4⟩;dsimp only at g9 g3 g8 e4 ⊢;have f6:=f'.upd g3 b0 (fun e=>by rcases e with e|e;exact e7 e.symm;omega);have hx1o:=e4.one;have g4:IQ (fun q=>q=j\/q=jr\/T<=q) O w O3 w3:=g3.mono (fun _ h=>h.elim .inl (fun h=>.inr (.inr h))) b2;refine zg ?_
  cases g':nX kn (r.take k)with
  |bad p e=>
   have hM:gk kn r=.bad p e:=by unfold gk;rw[hf];dsimp only;rw[g']
   rw[hM];rw[g']at e4;obtain⟨rfl,c9,d7⟩:=e4;replace d7:J7 O3 w3 j rb ({s with bad:=((m-r.length:Nat):Int)+(p:Int),e:=e}:LS).cells 114:=d7;refine zg ?_;refine zvG (RV.ld d7.q5 rfl) ?_;refine zFG rfl ((by simpa using c9)) ?_;refine zv (ah (us:=bt ((0,0,nS):N3)) (ja g9) (JO _) (J2 _) rfl) ?_;refine zc M9 (jP (.mk 0 0 []) (0,0,nS) w3 (LC _ _ _ _)) ?_;rintro v w4 ⟨rfl,k6⟩;have i1:IQ (fun _=>False) O3 w3 O3 w4:=aa (fun h=>h) O3 k6;have k1:=d7.upd i1 hj (fun h=>h);have d8:=g9.upd i1 zo (fun h=>h);have e6:=f6.upd i1 b0 (fun h=>h);have i5:=g8.upd i1;have c5:=g4.trans (i1.mono (fun _ h=>h.elim) b2);refine zg ?_;refine zvG (RV.ld k1.q5 rfl) ?_;refine aw (d:=98) rfl (b':=false) ((by simpa using c9)) ?_;obtain⟨x1,hx1e⟩:∃x1:N3,x1=(0,0,nS):=⟨_,rfl⟩
   obtain⟨x2,hx2e⟩:∃x2:N3,x2=(0,0,nS):=⟨_,rfl⟩
   have hx2o:x2.2.2.oneCell'=true:=by rw[hx2e];rfl
   have hx1o:x1.2.2.oneCell'=true:=by rw[hx1e];rfl
   have j2:J7 O3 w4 T xb (cO (x1,x2,brk)).toArray 122:=by rw[hx1e,hx2e];exact d8
   have c':=(JC k1)
   have c6:=(JC j2)
   have a':=(Kv e6)
   have e9:=(KO i5)
   refine zg ?_;refine zFG rfl rfl ?_
   refine aK (fun V=>∀(q:Nat) (u:ix),(cO (x1,x2,brk))[q]? = some u->V.cell? (nA xb q)=some u) 13 rfl zk ?_;refine zin c6.cellsAdd fun zS=>?_
   refine zrm 0 rfl zS rfl ?_;refine zrm 1 rfl zS rfl ?_
   refine zr 2 rfl zS (fun _=>ak rfl) ?_;refine zrf 3 rfl zS rfl ?_
   refine zrf 4 rfl zS rfl ?_;refine zt 6 rfl zS (fun w1 e5=>ah (us:=cO (x1,x2,brk)) e5 (L9 _) (JV _) rfl) ?_
   refine bZ 5 7 zk rfl rfl ?_ ?_
   ·refine zvG (RV.ld c'.q8 rfl) ?_;refine af c6.cellsAdd ?_
    refine IG 7 zk rfl ?_;refine aV elR (enc:=cO) (x1,x2,brk) rfl rfl rfl zd rfl ?_
    intro w9 h9 d5;have a5:IQ (fun _=>False) O3 (Jn w4) O3 w9:=aa (fun h=>h) O3 d5;have c7:=c'.upd a5 hj (fun h=>h);have b9:=c6.upd a5 zo (fun h=>h);have a7:=a'.upd a5 b0 (fun h=>h);have d4:=e9.upd a5;have b6:=(c5.drew).trans (a5.mono (fun _ h=>h.elim) b2);refine zg ?_;refine af b9.cellsAdd ?_;have a8:∀u∈[(x1,x2,brk)],∀c∈cO u,c.oneCell'=true:=fun u hu=>by
     rw[I5.1 hu];exact cL hx1o hx2o
    refine IG 8 zk rfl ?_;refine aB elR a7 d4 h9 (by simp) rfl rfl (fun _ _=>rfl) a8 (by simp;omega) (by simp;omega) zo rfl ?_
    intro a2 b1 O10 a0 a3 b8;have a4:=IN c7 a3 hj zo;have a6:=IN b9 a3 zo zo;have b4:=a0.one;refine zg ?_;refine zaf a6.cellsAdd fun zS=>?_
    refine zr 9 rfl zS (fun _=>ak rfl) ?_;refine zrf 10 rfl zS rfl ?_
    refine zrf 11 rfl zS rfl ?_;refine IG 12 zk rfl ?_
    refine aj (j:=8) a4 rfl (JQ _) b4 rfl rfl rfl ?_;have b5:=a4.s_ru a2;have a1:IQ (fun q=>q=j) O10 b1 O10 (b1.setCell ⟨rb,8,none⟩ a2):=J1 (fun e=>hj e.symm) a4.tag rfl;have b3:=a6.upd a1 zo zo;have a9:=a0.upd a1 b0 (fun e=>e7 e.symm);have b7:=b8.upd a1;refine zg ?_
    refine af b3.cellsAdd ?_;refine Jc zk ?_
    have d1:IQ (fun q=>q=j\/q=jr\/T<=q) O w O10 (b1.setCell ⟨rb,8,none⟩ a2):=(b6.trans (a3.mono (fun _ h=>.inr (.inl h)) b2)).trans (a1.mono (fun _ h=>.inl h) b2);refine aD rfl ⟨lowT O10 T,a2,d1.lowT hT (fun b hb=>by have:=hT b;rcases hb with h|h|h;exact .inl h;exact .inr h;omega) (fun e=>by rcases e with e|e;exact hj e.symm;exact b0 e.symm),b7.lowT T,?_⟩;exact⟨c9,by rw[show s.bg+(p:Int)=((m-r.length:Nat):Int)+(p:Int)from by rw[hbg]];exact b5.lowT f7⟩
   refine aV elR (enc:=cO) (x1,x2,brk) rfl rfl rfl zd rfl ?_;intro w9 h9 d5;have a5:IQ (fun _=>False) O3 (Jn w4) O3 w9:=aa (fun h=>h) O3 d5;have c7:=c'.upd a5 hj (fun h=>h);have b9:=c6.upd a5 zo (fun h=>h);have a7:=a'.upd a5 b0 (fun h=>h);have d4:=e9.upd a5;have b6:=(c5.drew).trans (a5.mono (fun _ h=>h.elim) b2);refine zg ?_
   refine af b9.cellsAdd ?_;refine IG 5 zk rfl ?_
   refine zvG (RV.ld c7.q8 rfl) ?_;refine af b9.cellsAdd ?_
   have a8:∀u∈[(x1,x2,brk)],∀c∈cO u,c.oneCell'=true:=fun u hu=>by
    rw[I5.1 hu];exact cL hx1o hx2o
   refine IG 8 zk rfl ?_;refine aB elR a7 d4 h9 (by simp) rfl rfl (fun _ _=>rfl) a8 (by simp;omega) (by simp;omega) zo rfl ?_
   intro a2 b1 O10 a0 a3 b8;have a4:=IN c7 a3 hj zo;have a6:=IN b9 a3 zo zo;have b4:=a0.one;refine zg ?_;refine zaf a6.cellsAdd fun zS=>?_
   refine zr 9 rfl zS (fun _=>ak rfl) ?_;refine zrf 10 rfl zS rfl ?_
   refine zrf 11 rfl zS rfl ?_;refine IG 12 zk rfl ?_
   refine aj (j:=8) a4 rfl (JQ _) b4 rfl rfl rfl ?_;have b5:=a4.s_ru a2;have a1:IQ (fun q=>q=j) O10 b1 O10 (b1.setCell ⟨rb,8,none⟩ a2):=J1 (fun e=>hj e.symm) a4.tag rfl;have b3:=a6.upd a1 zo zo;have a9:=a0.upd a1 b0 (fun e=>e7 e.symm);have b7:=b8.upd a1;refine zg ?_
   refine af b3.cellsAdd ?_;refine Jc zk ?_
   have d1:IQ (fun q=>q=j\/q=jr\/T<=q) O w O10 (b1.setCell ⟨rb,8,none⟩ a2):=(b6.trans (a3.mono (fun _ h=>.inr (.inl h)) b2)).trans (a1.mono (fun _ h=>.inl h) b2);refine aD rfl ⟨lowT O10 T,a2,d1.lowT hT (fun b hb=>by have:=hT b;rcases hb with h|h|h;exact .inl h;exact .inr h;omega) (fun e=>by rcases e with e|e;exact hj e.symm;exact b0 e.symm),b7.lowT T,?_⟩;exact⟨c9,by rw[show s.bg+(p:Int)=((m-r.length:Nat):Int)+(p:Int)from by rw[hbg]];exact b5.lowT f7⟩
  |ok a=>
   rw[g']at e4;obtain⟨l2,d7⟩:=e4;replace d7:J7 O3 w3 j rb s.cells 114:=d7;have g2:=d7.q2;rw[i7]at g2;have g5:=d7.q5;rw[he]at g5;refine zg ?_;refine zvG (RV.ld g5 rfl) ?_;refine zTG rfl rfl ?_;refine zvG (Jz rfl rfl (Jb zo)) ?_;refine zv (RV.ld g2 rfl) ?_;rw[show((k+(m-r.length):Nat):Int)+1=((k+(m-r.length)+1:Nat):Int)from by omega];refine zc LZ (pX B O3 w3 j rb s (k+(m-r.length)+1) m g8 hj he h2 g0 (j3.upd g4 h2 zo) zo hm hl d7) ?_;rintro v w4 ⟨x2,rfl,e0,e1⟩;rw[h5]at e1;have hx2o:=e1.one;have d8:=g9.upd e0 zo zo;have e6:=f6.upd e0 b0 (fun e=>e7 e.symm);have i5:=g8.upd e0;have j5:=g4.trans (e0.mono (fun _ h=>.inl h) b2);have l1:=l2.upd e0;refine zg ?_;refine kz 3 (us:=#[nI x2.1,nI x2.2.1,x2.2.2]) d8 (Nat.le_of_ble_eq_true rfl) (J2 _) (bX hx2o) rfl rfl rfl ?_;rw[show((cO (x1,(0,0,nS),brk)).toArray.toList.take 3++(#[nI x2.1,nI x2.2.1,x2.2.2]:Array ix).toList++(cO (x1,(0,0,nS),brk)).toArray.toList.drop (3+(#[nI x2.1,nI x2.2.1,x2.2.2]:Array ix).size)).toArray=(cO (x1,x2,brk)).toArray from rfl];have f9:=d8.setRow (us:=(cO (x1,x2,brk)).toArray);have d':IQ (fun q=>q=T) O3 w4 O3 (w4.setRow xb (cO (x1,x2,brk)).toArray):=IF zo d8.tag rfl;have e':=e1.upd d' hj zo;have f5:=e6.upd d' b0 zo;have k4:=i5.upd d';have i3:=j5.trans (d'.mono (fun _ h=>.inr (.inr (Lu h.symm))) b2);have l0:=l1.upd d';generalize w4.setRow xb (cO (x1,x2,brk)).toArray=w5 at *;refine zg ?_
   refine zv (ah (us:=bt x2) (ja f9) (JO _) (J2 _) rfl) ?_
   cases h6:nX kn (r.drop (k+1))with
   |bad p e=>
    have hM:gk kn r=.bad (k+1+p) e:=by unfold gk;rw[hf];dsimp only;rw[g'];dsimp only;rw[h6]
    rw[hM];rw[h6]at e';obtain⟨hx2e,c9,g1⟩:=e';replace g1:J7 O3 w5 j rb ({s with bad:=((k+(m-r.length)+1:Nat):Int)+(p:Int),e:=e}:LS).cells 114:=g1;refine zc M9 (jP (.mk 0 0 []) x2 w5 (by rw[hx2e];exact LC _ _ _ _)) ?_;rintro v w6 ⟨rfl,j7⟩;have d9:IQ (fun _=>False) O3 w5 O3 w6:=aa (fun h=>h) O3 j7;have h3:=g1.upd d9 hj (fun h=>h);have i6:=f9.upd d9 zo (fun h=>h);have d6:=f5.upd d9 b0 (fun h=>h);have i':=k4.upd d9;have c5:=i3.trans (d9.mono (fun _ h=>h.elim) b2);refine zg ?_;refine zvG (RV.ld h3.q5 rfl) ?_;refine aw (d:=98) rfl (b':=false) ((by simpa using c9)) ?_;have c':=(JC h3)
    have c6:=(JC i6)
    have a':=(Kv d6)
    have e9:=(KO i')
    refine zg ?_;refine zFG rfl rfl ?_
    refine aK (fun V=>∀(q:Nat) (u:ix),(cO (x1,x2,brk))[q]? = some u->V.cell? (nA xb q)=some u) 13 rfl zk ?_;refine zin c6.cellsAdd fun zS=>?_
    refine zrm 0 rfl zS rfl ?_;refine zrm 1 rfl zS rfl ?_
    refine zr 2 rfl zS (fun _=>ak rfl) ?_;refine zrf 3 rfl zS rfl ?_
    refine zrf 4 rfl zS rfl ?_;refine zt 6 rfl zS (fun w1 e5=>ah (us:=cO (x1,x2,brk)) e5 (L9 _) (JV _) rfl) ?_
    refine bZ 5 7 zk rfl rfl ?_ ?_
    ·refine zvG (RV.ld c'.q8 rfl) ?_;refine af c6.cellsAdd ?_
     refine IG 7 zk rfl ?_;refine aV elR (enc:=cO) (x1,x2,brk) rfl rfl rfl zd rfl ?_
     intro w9 h9 d5;have a5:IQ (fun _=>False) O3 (Jn w6) O3 w9:=aa (fun h=>h) O3 d5;have c7:=c'.upd a5 hj (fun h=>h);have b9:=c6.upd a5 zo (fun h=>h);have a7:=a'.upd a5 b0 (fun h=>h);have d4:=e9.upd a5;have b6:=(c5.drew).trans (a5.mono (fun _ h=>h.elim) b2);refine zg ?_;refine af b9.cellsAdd ?_;have a8:∀u∈[(x1,x2,brk)],∀c∈cO u,c.oneCell'=true:=fun u hu=>by
      rw[I5.1 hu];exact cL hx1o hx2o
     refine IG 8 zk rfl ?_;refine aB elR a7 d4 h9 (by simp) rfl rfl (fun _ _=>rfl) a8 (by simp;omega) (by simp;omega) zo rfl ?_
     intro a2 b1 O10 a0 a3 b8;have a4:=IN c7 a3 hj zo;have a6:=IN b9 a3 zo zo;have b4:=a0.one;refine zg ?_;refine zaf a6.cellsAdd fun zS=>?_
     refine zr 9 rfl zS (fun _=>ak rfl) ?_;refine zrf 10 rfl zS rfl ?_
     refine zrf 11 rfl zS rfl ?_;refine IG 12 zk rfl ?_
     refine aj (j:=8) a4 rfl (JQ _) b4 rfl rfl rfl ?_;have b5:=a4.s_ru a2;have a1:IQ (fun q=>q=j) O10 b1 O10 (b1.setCell ⟨rb,8,none⟩ a2):=J1 (fun e=>hj e.symm) a4.tag rfl;have b3:=a6.upd a1 zo zo;have a9:=a0.upd a1 b0 (fun e=>e7 e.symm);have b7:=b8.upd a1;refine zg ?_
     refine af b3.cellsAdd ?_;refine Jc zk ?_
     have d1:IQ (fun q=>q=j\/q=jr\/T<=q) O w O10 (b1.setCell ⟨rb,8,none⟩ a2):=(b6.trans (a3.mono (fun _ h=>.inr (.inl h)) b2)).trans (a1.mono (fun _ h=>.inl h) b2);refine aD rfl ⟨lowT O10 T,a2,d1.lowT hT (fun b hb=>by have:=hT b;rcases hb with h|h|h;exact .inl h;exact .inr h;omega) (fun e=>by rcases e with e|e;exact hj e.symm;exact b0 e.symm),b7.lowT T,?_⟩;exact⟨c9,by rw[show s.bg+((k+1+p:Nat):Int)=((k+(m-r.length)+1:Nat):Int)+(p:Int)from by rw[hbg];omega];exact b5.lowT f7⟩
    refine aV elR (enc:=cO) (x1,x2,brk) rfl rfl rfl zd rfl ?_;intro w9 h9 d5;have a5:IQ (fun _=>False) O3 (Jn w6) O3 w9:=aa (fun h=>h) O3 d5;have c7:=c'.upd a5 hj (fun h=>h);have b9:=c6.upd a5 zo (fun h=>h);have a7:=a'.upd a5 b0 (fun h=>h);have d4:=e9.upd a5;have b6:=(c5.drew).trans (a5.mono (fun _ h=>h.elim) b2);refine zg ?_
    refine af b9.cellsAdd ?_;refine IG 5 zk rfl ?_
    refine zvG (RV.ld c7.q8 rfl) ?_;refine af b9.cellsAdd ?_
    have a8:∀u∈[(x1,x2,brk)],∀c∈cO u,c.oneCell'=true:=fun u hu=>by
     rw[I5.1 hu];exact cL hx1o hx2o
    refine IG 8 zk rfl ?_;refine aB elR a7 d4 h9 (by simp) rfl rfl (fun _ _=>rfl) a8 (by simp;omega) (by simp;omega) zo rfl ?_
    intro a2 b1 O10 a0 a3 b8;have a4:=IN c7 a3 hj zo;have a6:=IN b9 a3 zo zo;have b4:=a0.one;refine zg ?_;refine zaf a6.cellsAdd fun zS=>?_
    refine zr 9 rfl zS (fun _=>ak rfl) ?_;refine zrf 10 rfl zS rfl ?_
    refine zrf 11 rfl zS rfl ?_;refine IG 12 zk rfl ?_
    refine aj (j:=8) a4 rfl (JQ _) b4 rfl rfl rfl ?_;have b5:=a4.s_ru a2;have a1:IQ (fun q=>q=j) O10 b1 O10 (b1.setCell ⟨rb,8,none⟩ a2):=J1 (fun e=>hj e.symm) a4.tag rfl;have b3:=a6.upd a1 zo zo;have a9:=a0.upd a1 b0 (fun e=>e7 e.symm);have b7:=b8.upd a1;refine zg ?_
    refine af b3.cellsAdd ?_;refine Jc zk ?_
    have d1:IQ (fun q=>q=j\/q=jr\/T<=q) O w O10 (b1.setCell ⟨rb,8,none⟩ a2):=(b6.trans (a3.mono (fun _ h=>.inr (.inl h)) b2)).trans (a1.mono (fun _ h=>.inl h) b2);refine aD rfl ⟨lowT O10 T,a2,d1.lowT hT (fun b hb=>by have:=hT b;rcases hb with h|h|h;exact .inl h;exact .inr h;omega) (fun e=>by rcases e with e|e;exact hj e.symm;exact b0 e.symm),b7.lowT T,?_⟩;exact⟨c9,by rw[show s.bg+((k+1+p:Nat):Int)=((k+(m-r.length)+1:Nat):Int)+(p:Int)from by rw[hbg];omega];exact b5.lowT f7⟩
   |ok b=>
    rw[h6]at e';obtain⟨h8,g1⟩:=e';replace g1:J7 O3 w5 j rb s.cells 114:=g1;refine zc M9 (jP b x2 w5 h8.zero) ?_;rintro v w6 ⟨rfl,j7⟩;have d9:IQ (fun _=>False) O3 w5 O3 w6:=aa (fun h=>h) O3 j7;have h3:=g1.upd d9 hj (fun h=>h);have i6:=f9.upd d9 zo (fun h=>h);have d6:=f5.upd d9 b0 (fun h=>h);have i':=k4.upd d9;have i2:=i3.trans (d9.mono (fun _ h=>h.elim) b2);have k0:=l0.upd d9;have j':=h8.upd d9;have g6:=h3.q5;rw[he]at g6;refine zg ?_;refine zvG (RV.ld g6 rfl) ?_;refine aw (d:=98) rfl (b':=true) (rfl) ?_;refine zg ?_
    by_cases h0:dW b=0
    ·have hM:gk kn r=.ok (a,b,brk):=by unfold gk;rw[hf];dsimp only;rw[g'];dsimp only;rw[h6];dsimp only;rw[if_neg (by simpa using h0),i0]
     rw[hM];have c5:=i2;refine aT rfl ((by rw[h0];rfl)) ?_;have c':=(JC h3)
     have c6:=(JC i6)
     have a':=(Kv d6)
     have e9:=(KO i')
     refine zg ?_;refine aK (fun V=>∀(q:Nat) (u:ix),(cO (x1,x2,brk))[q]? = some u->V.cell? (nA xb q)=some u) 13 rfl zk ?_
     refine zin c6.cellsAdd fun zS=>?_
     refine zrm 0 rfl zS rfl ?_;refine zrm 1 rfl zS rfl ?_
     refine zr 2 rfl zS (fun _=>ak rfl) ?_;refine zrf 3 rfl zS rfl ?_
     refine zrf 4 rfl zS rfl ?_;refine zt 6 rfl zS (fun w1 e5=>ah (us:=cO (x1,x2,brk)) e5 (L9 _) (JV _) rfl) ?_
     refine bZ 5 7 zk rfl rfl ?_ ?_
     ·refine zvG (RV.ld c'.q8 rfl) ?_;refine af c6.cellsAdd ?_
      refine IG 7 zk rfl ?_;refine aV elR (enc:=cO) (x1,x2,brk) rfl rfl rfl zd rfl ?_
      intro w9 h9 d5;have a5:IQ (fun _=>False) O3 (Jn w6) O3 w9:=aa (fun h=>h) O3 d5;have c7:=c'.upd a5 hj (fun h=>h);have b9:=c6.upd a5 zo (fun h=>h);have a7:=a'.upd a5 b0 (fun h=>h);have d4:=e9.upd a5;have b6:=(c5.drew).trans (a5.mono (fun _ h=>h.elim) b2);refine zg ?_;refine af b9.cellsAdd ?_;have a8:∀u∈[(x1,x2,brk)],∀c∈cO u,c.oneCell'=true:=fun u hu=>by
       rw[I5.1 hu];exact cL hx1o hx2o
      refine IG 8 zk rfl ?_;refine aB elR a7 d4 h9 (by simp) rfl rfl (fun _ _=>rfl) a8 (by simp;omega) (by simp;omega) zo rfl ?_
      intro a2 b1 O10 a0 a3 b8;have a4:=IN c7 a3 hj zo;have a6:=IN b9 a3 zo zo;have b4:=a0.one;refine zg ?_;refine zaf a6.cellsAdd fun zS=>?_
      refine zr 9 rfl zS (fun _=>ak rfl) ?_;refine zrf 10 rfl zS rfl ?_
      refine zrf 11 rfl zS rfl ?_;refine IG 12 zk rfl ?_
      refine aj (j:=8) a4 rfl (JQ _) b4 rfl rfl rfl ?_;have b5:=a4.s_ru a2;have a1:IQ (fun q=>q=j) O10 b1 O10 (b1.setCell ⟨rb,8,none⟩ a2):=J1 (fun e=>hj e.symm) a4.tag rfl;have b3:=a6.upd a1 zo zo;have a9:=a0.upd a1 b0 (fun e=>e7 e.symm);have b7:=b8.upd a1;refine zg ?_
      refine af b3.cellsAdd ?_;refine Jc zk ?_
      have d1:IQ (fun q=>q=j\/q=jr\/T<=q) O w O10 (b1.setCell ⟨rb,8,none⟩ a2):=(b6.trans (a3.mono (fun _ h=>.inr (.inl h)) b2)).trans (a1.mono (fun _ h=>.inl h) b2);refine aD rfl ⟨lowT O10 T,a2,d1.lowT hT (fun b hb=>by have:=hT b;rcases hb with h|h|h;exact .inl h;exact .inr h;omega) (fun e=>by rcases e with e|e;exact hj e.symm;exact b0 e.symm),b7.lowT T,?_⟩;exact⟨(x1,x2,brk),a9.lowT h',⟨((((k0.drew).upd a5).upd a3).upd a1).weak (fun b e=>jO e),((((j'.drew).upd a5).upd a3).upd a1).weak (fun b e=>jO e),rfl⟩,b5.lowT f7⟩
     refine aV elR (enc:=cO) (x1,x2,brk) rfl rfl rfl zd rfl ?_;intro w9 h9 d5;have a5:IQ (fun _=>False) O3 (Jn w6) O3 w9:=aa (fun h=>h) O3 d5;have c7:=c'.upd a5 hj (fun h=>h);have b9:=c6.upd a5 zo (fun h=>h);have a7:=a'.upd a5 b0 (fun h=>h);have d4:=e9.upd a5;have b6:=(c5.drew).trans (a5.mono (fun _ h=>h.elim) b2);refine zg ?_
     refine af b9.cellsAdd ?_;refine IG 5 zk rfl ?_
     refine zvG (RV.ld c7.q8 rfl) ?_;refine af b9.cellsAdd ?_
     have a8:∀u∈[(x1,x2,brk)],∀c∈cO u,c.oneCell'=true:=fun u hu=>by
      rw[I5.1 hu];exact cL hx1o hx2o
     refine IG 8 zk rfl ?_;refine aB elR a7 d4 h9 (by simp) rfl rfl (fun _ _=>rfl) a8 (by simp;omega) (by simp;omega) zo rfl ?_
     intro a2 b1 O10 a0 a3 b8;have a4:=IN c7 a3 hj zo;have a6:=IN b9 a3 zo zo;have b4:=a0.one;refine zg ?_;refine zaf a6.cellsAdd fun zS=>?_
     refine zr 9 rfl zS (fun _=>ak rfl) ?_;refine zrf 10 rfl zS rfl ?_
     refine zrf 11 rfl zS rfl ?_;refine IG 12 zk rfl ?_
     refine aj (j:=8) a4 rfl (JQ _) b4 rfl rfl rfl ?_;have b5:=a4.s_ru a2;have a1:IQ (fun q=>q=j) O10 b1 O10 (b1.setCell ⟨rb,8,none⟩ a2):=J1 (fun e=>hj e.symm) a4.tag rfl;have b3:=a6.upd a1 zo zo;have a9:=a0.upd a1 b0 (fun e=>e7 e.symm);have b7:=b8.upd a1;refine zg ?_
     refine af b3.cellsAdd ?_;refine Jc zk ?_
     have d1:IQ (fun q=>q=j\/q=jr\/T<=q) O w O10 (b1.setCell ⟨rb,8,none⟩ a2):=(b6.trans (a3.mono (fun _ h=>.inr (.inl h)) b2)).trans (a1.mono (fun _ h=>.inl h) b2);refine aD rfl ⟨lowT O10 T,a2,d1.lowT hT (fun b hb=>by have:=hT b;rcases hb with h|h|h;exact .inl h;exact .inr h;omega) (fun e=>by rcases e with e|e;exact hj e.symm;exact b0 e.symm),b7.lowT T,?_⟩;exact⟨(x1,x2,brk),a9.lowT h',⟨((((k0.drew).upd a5).upd a3).upd a1).weak (fun b e=>jO e),((((j'.drew).upd a5).upd a3).upd a1).weak (fun b e=>jO e),rfl⟩,b5.lowT f7⟩
    have hM:gk kn r=.bad (k+1) (dW b):=by unfold gk;rw[hf];dsimp only;rw[g'];dsimp only;rw[h6];dsimp only;rw[if_pos (by simpa using h0)]
    rw[hM];refine zTG rfl ((by simpa using h0)) ?_;refine zvG (Jz rfl rfl (Jb zo)) ?_;refine zc Lq (bx O3 w6 j rb s (((k+(m-r.length):Nat):Int)+1) (dW b) hj he h3) ?_;rintro v w7 ⟨l4,i9⟩;have k8:=i6.upd i9 zo zo;have h7:=d6.upd i9 b0 (fun e=>e7 e.symm);have l6:=i'.upd i9;have c5:=i2.trans (i9.mono (fun _ h=>.inl h) b2);have c':=(JC l4)
    have c6:=(JC k8)
    have a':=(Kv h7)
    have e9:=(KO l6)
    refine zg ?_;refine aK (fun V=>∀(q:Nat) (u:ix),(cO (x1,x2,brk))[q]? = some u->V.cell? (nA xb q)=some u) 13 rfl zk ?_
    refine zin c6.cellsAdd fun zS=>?_
    refine zrm 0 rfl zS rfl ?_;refine zrm 1 rfl zS rfl ?_
    refine zr 2 rfl zS (fun _=>ak rfl) ?_;refine zrf 3 rfl zS rfl ?_
    refine zrf 4 rfl zS rfl ?_;refine zt 6 rfl zS (fun w1 e5=>ah (us:=cO (x1,x2,brk)) e5 (L9 _) (JV _) rfl) ?_
    refine bZ 5 7 zk rfl rfl ?_ ?_
    ·refine zvG (RV.ld c'.q8 rfl) ?_;refine af c6.cellsAdd ?_
     refine IG 7 zk rfl ?_;refine aV elR (enc:=cO) (x1,x2,brk) rfl rfl rfl zd rfl ?_
     intro w9 h9 d5;have a5:IQ (fun _=>False) O3 (Jn w7) O3 w9:=aa (fun h=>h) O3 d5;have c7:=c'.upd a5 hj (fun h=>h);have b9:=c6.upd a5 zo (fun h=>h);have a7:=a'.upd a5 b0 (fun h=>h);have d4:=e9.upd a5;have b6:=(c5.drew).trans (a5.mono (fun _ h=>h.elim) b2);refine zg ?_;refine af b9.cellsAdd ?_;have a8:∀u∈[(x1,x2,brk)],∀c∈cO u,c.oneCell'=true:=fun u hu=>by
      rw[I5.1 hu];exact cL hx1o hx2o
     refine IG 8 zk rfl ?_;refine aB elR a7 d4 h9 (by simp) rfl rfl (fun _ _=>rfl) a8 (by simp;omega) (by simp;omega) zo rfl ?_
     intro a2 b1 O10 a0 a3 b8;have a4:=IN c7 a3 hj zo;have a6:=IN b9 a3 zo zo;have b4:=a0.one;refine zg ?_;refine zaf a6.cellsAdd fun zS=>?_
     refine zr 9 rfl zS (fun _=>ak rfl) ?_;refine zrf 10 rfl zS rfl ?_
     refine zrf 11 rfl zS rfl ?_;refine IG 12 zk rfl ?_
     refine aj (j:=8) a4 rfl (JQ _) b4 rfl rfl rfl ?_;have b5:=a4.s_ru a2;have a1:IQ (fun q=>q=j) O10 b1 O10 (b1.setCell ⟨rb,8,none⟩ a2):=J1 (fun e=>hj e.symm) a4.tag rfl;have b3:=a6.upd a1 zo zo;have a9:=a0.upd a1 b0 (fun e=>e7 e.symm);have b7:=b8.upd a1;refine zg ?_
     refine af b3.cellsAdd ?_;refine Jc zk ?_
     have d1:IQ (fun q=>q=j\/q=jr\/T<=q) O w O10 (b1.setCell ⟨rb,8,none⟩ a2):=(b6.trans (a3.mono (fun _ h=>.inr (.inl h)) b2)).trans (a1.mono (fun _ h=>.inl h) b2);refine aD rfl ⟨lowT O10 T,a2,d1.lowT hT (fun b hb=>by have:=hT b;rcases hb with h|h|h;exact .inl h;exact .inr h;omega) (fun e=>by rcases e with e|e;exact hj e.symm;exact b0 e.symm),b7.lowT T,?_⟩;exact⟨h0,by rw[show s.bg+((k+1:Nat):Int)=((k+(m-r.length):Nat):Int)+1 from by rw[hbg];omega];exact b5.lowT f7⟩
    refine aV elR (enc:=cO) (x1,x2,brk) rfl rfl rfl zd rfl ?_;intro w9 h9 d5;have a5:IQ (fun _=>False) O3 (Jn w7) O3 w9:=aa (fun h=>h) O3 d5;have c7:=c'.upd a5 hj (fun h=>h);have b9:=c6.upd a5 zo (fun h=>h);have a7:=a'.upd a5 b0 (fun h=>h);have d4:=e9.upd a5;have b6:=(c5.drew).trans (a5.mono (fun _ h=>h.elim) b2);refine zg ?_
    refine af b9.cellsAdd ?_;refine IG 5 zk rfl ?_
    refine zvG (RV.ld c7.q8 rfl) ?_;refine af b9.cellsAdd ?_
    have a8:∀u∈[(x1,x2,brk)],∀c∈cO u,c.oneCell'=true:=fun u hu=>by
     rw[I5.1 hu];exact cL hx1o hx2o
    refine IG 8 zk rfl ?_;refine aB elR a7 d4 h9 (by simp) rfl rfl (fun _ _=>rfl) a8 (by simp;omega) (by simp;omega) zo rfl ?_
    intro a2 b1 O10 a0 a3 b8;have a4:=IN c7 a3 hj zo;have a6:=IN b9 a3 zo zo;have b4:=a0.one;refine zg ?_;refine zaf a6.cellsAdd fun zS=>?_
    refine zr 9 rfl zS (fun _=>ak rfl) ?_;refine zrf 10 rfl zS rfl ?_
    refine zrf 11 rfl zS rfl ?_;refine IG 12 zk rfl ?_
    refine aj (j:=8) a4 rfl (JQ _) b4 rfl rfl rfl ?_;have b5:=a4.s_ru a2;have a1:IQ (fun q=>q=j) O10 b1 O10 (b1.setCell ⟨rb,8,none⟩ a2):=J1 (fun e=>hj e.symm) a4.tag rfl;have b3:=a6.upd a1 zo zo;have a9:=a0.upd a1 b0 (fun e=>e7 e.symm);have b7:=b8.upd a1;refine zg ?_
    refine af b3.cellsAdd ?_;refine Jc zk ?_
    have d1:IQ (fun q=>q=j\/q=jr\/T<=q) O w O10 (b1.setCell ⟨rb,8,none⟩ a2):=(b6.trans (a3.mono (fun _ h=>.inr (.inl h)) b2)).trans (a1.mono (fun _ h=>.inl h) b2);refine aD rfl ⟨lowT O10 T,a2,d1.lowT hT (fun b hb=>by have:=hT b;rcases hb with h|h|h;exact .inl h;exact .inr h;omega) (fun e=>by rcases e with e|e;exact hj e.symm;exact b0 e.symm),b7.lowT T,?_⟩;exact⟨h0,by rw[show s.bg+((k+1:Nat):Int)=((k+(m-r.length):Nat):Int)+1 from by rw[hbg];omega];exact b5.lowT f7⟩
end
def bh(seg:List UInt8):List UInt8:=seg.takeWhile (fun b=>!(b==35))
def aQ(seg:List UInt8):List UInt8:=ar (bh seg)
theorem yE{seg:List UInt8}{k:Nat}(h:seg.findIdx? (· == 35)=some k):bh seg=seg.take k/\k<=seg.length:=by
 obtain⟨hk,h1,h2⟩:=I7.1 h;refine⟨?_,zo⟩;unfold bh;have e:seg=seg.take k++seg.drop k:=(KD k seg).symm
 conv=>lhs;rw[e]
 rw[List.takeWhile_append_of_pos]
 ·rw[JK hk,Kd (by simpa using h1),Li]
 intro x hx;obtain⟨i,hi,rfl⟩:=KP hx;simp only[L5]at hi;have:=h2 i zo;simp only[L2];simpa using this
theorem dX{p:UInt8->Bool}:∀ {l:List UInt8},(∀x∈l,p x=true)->l.takeWhile p=l
 |[],_=>rfl
 |a::l,h=>by rw[List.takeWhile_cons_of_pos (h a (by simp)),dX fun x hx=>h x (by simp[hx])]
theorem yF{seg:List UInt8}(h:seg.findIdx? (· == 35)=none):bh seg=seg:=by
 have h1:=IW.1 h;exact dX fun x hx=>by simpa using h1 x hx
def cR(r:List UInt8):List UInt8:=r.takeWhile (fun b=>!(b==10))
def RowsT(O:Nat->Nat)(w:ln)(jr:Nat)(rv:ix)(ts:List R3)(xs:List X3):Prop:=
 JS cO 122 7 O w jr rv xs/\ts.length=xs.length/\xs.length<=40/\∀i,i<xs.length->Rt O w (nth ts i) (nth xs i)
theorem RowsT.push{O:Nat->Nat}{w:ln}{jr:Nat}{rv:ix}{ts:List R3}{xs:List X3}{t:R3}{x:X3}(hr:JS cO 122 7 O w jr rv (xs++[x]))(h1:ts.length=xs.length)(h2:xs.length<40)(h3:∀i,i<xs.length->Rt O w (nth ts i) (nth xs i))(h4:Rt O w t x):RowsT O w jr rv (ts++[t]) (xs++[x]):=by
 refine⟨hr,by simp[h1],by simp;omega,fun i hi=>?_⟩;simp only[Ji,Jp]at hi
 by_cases e:i<xs.length
 ·rw[aC (by simp;omega),aC (by simp;omega),Kp zo,Kp e,<-aC zo,<-aC e];exact h3 i e
 obtain rfl:i=xs.length:=zo;rw[aC (by simp;omega),aC (by simp),Kk zo,Kk zo];simp[h1];exact h4
theorem yd{r:List UInt8}{k:Nat}(h:r.findIdx? (· == 10)=some k):(cR r).length=k:=by
 obtain⟨hk,h1,h2⟩:=I7.1 h;unfold cR;have e:r=r.take k++r.drop k:=(KD k r).symm;have e2:(r.take k).takeWhile (fun b=>!(b==10))=r.take k:=dX fun x hx=>by
  obtain⟨i,hi,rfl⟩:=KP hx;simp only[L5]at hi;have:=h2 i zo;simp only[L2];simpa using this
 conv=>lhs;rw[e]
 rw[List.takeWhile_append,e2,if_pos rfl,JK hk,Kd (by simpa using h1),Li];simp;omega
theorem ye{r:List UInt8}(h:r.findIdx? (· == 10)=none):cR r=r:=
 dX fun x hx=>by simpa using IW.1 h x hx
theorem so(l:List UInt8)(fr:Nat):(l.take (fr+(cR (l.drop fr)).length)).drop fr=cR (l.drop fr):=by
 have h1:cR (l.drop fr)=(l.drop fr).take (cR (l.drop fr)).length:=List.prefix_iff_eq_take.1 (List.takeWhile_prefix _)
 conv=>rhs;rw[h1]
 rw[Ll]
abbrev FN(ig kp ru:ix):ix:=.agg #[ig,kp,ru]
abbrev qV:ix:=nS
theorem GD:cF IM 56 #[(0,1),(1,1),(2,1)]:=⟨_,underlying56,fun w=>by kernel_rfl⟩
theorem GO:cF IM 111 #[(0,1),(1,1),(2,1),(3,1),(4,1),(5,1)]:=⟨_,underlying111,fun w=>by kernel_rfl⟩
theorem GN:cF IM 114 #[(0,6),(6,3),(9,1),(10,1),(11,1)]:=⟨_,underlying114,fun w=>by kernel_rfl⟩
theorem yX{w:ln}{rb:Nat}{a b c:ix}(h6:w.cell? ⟨rb,6,none⟩=some a)(h7:w.cell? ⟨rb,7,none⟩=some b)(h8:w.cell? ⟨rb,8,none⟩=some c):∀(q:Nat) (u:ix),[a,b,c][q]? = some u->w.cell? ((nA rb 6).add q)=some u:=fun q u hu=>by
 have e:((nA rb 6).add q)=⟨rb,6+q,none⟩:=by
  simp only[LP];(repeat' split)<;>simp_all
 rw[e]
 match q,hu with
 |0,hu=>obtain rfl:=IT hu;exact h6
 |1,hu=>obtain rfl:=IT hu;exact h7
 |2,hu=>obtain rfl:=IT hu;exact h8
def CO(l:List Int)(i:Nat):Bool:=(decide (nth l i<0)||decide (36<=nth l i))||(decide ((0:Int)<(i:Int))&&decide (nth l i<=nth l (i-1)))
def jK(l:List Int):Bool:=!(iG (CO l) l.length)
def qd(t:R3):Bool:=(bn t.1&&bn t.2.1)&&(dW t.2.1==0)
def Gt(ts:List R3):Bool:=!(iG (fun i=>!(qd (nth ts i))) ts.length)
def ej(li lk:List Int)(ts:List R3):Bool:=((decide ((ts.length:Int)<=40)&&jK li)&&jK lk)&&Gt ts
theorem rS(l:List Int)(sv:ix)(w:ln)(h:Sl (fun c:Int=>[nI c]) 1 w sv l):JE IM 49 [sv] w fun v w'=>v=.bool (jK l)/\w'=w:=by
 have a5:=h.len_le;refine I1 func49 ntmps49 rfl rfl ?_;refine zh ?_;refine zlp (fun x:Nat=>[(0,sv),(5,sv),(6,nI l.length),(7,nI x)]) (fun x=>w) (fun x=>x<=l.length/\∀i,i<x->CO l i=false) (fun x=>l.length-x) 0 (⟨I4 _,fun i hi=>absurd hi (IE i)⟩) ?_;rintro k ⟨hk,a3⟩;refine zh ?_;refine zC ?_ ?_
 ·intro a0;replace a0:k<l.length:=dT a0;refine zh ?_;refine zvH (RV.ld (h.ld a0) rfl) ?_;refine cD (fun w1=>_=w1) (decide (36<=nth l k)) 2 (rfl) rfl rfl rfl rfl rfl ?_ ?_
  ·intro a1;refine zh ?_;refine nE 14 3 (rfl) a1
  rintro _ rfl;refine zh ?_;refine cD (fun w1=>_=w1) ((decide ((0:Int)<(k:Int))&&decide (nth l k<=nth l (k-1)))) 11 (rfl) rfl rfl rfl rfl rfl ?_ ?_
  ·intro a2;refine zh ?_
   cases a6:decide ((0:Int)<(k:Int))with
   |true=>
    have a7:=of_decide_eq_true a6;refine aw (d:=21) rfl (b':=true) (rfl) ?_;refine zh ?_;rw[show(k:Int)-1=((k-1:Nat):Int)from by omega];refine zh ?_;refine zvH (RV.ld (h.ld (i:=k-1) zo) rfl) ?_;refine nE 18 13 (rfl) a2
   |false=>
    refine aw (d:=21) rfl (b':=false) (rfl) ?_;refine zh ?_
    refine nE 18 13 (rfl) a2
  rintro _ rfl;refine zh ?_;refine zC ?_ ?_
  ·intro hy;refine zh ?_;refine ae rfl rfl (⟨by unfold jK;rw[eF.2 ⟨k,a0,hy⟩];rfl,rfl⟩)
  intro hy;refine zh ?_;refine zxd (k+1) (⟨a0,fun i hi=>(II.1 hi).elim (a3 i) (fun e=>by rw[e];exact hy)⟩)
 intro a4;replace a4:l.length<=k:=dF a4;refine zh ?_;refine ae rfl rfl (⟨by unfold jK;rw[cm.2 fun i hi=>a3 i zo];rfl,rfl⟩)
end Go.Proofs.YteolbhblkgjbhaaGreatDoor
