/- Texts that the proof of this statement needs, merged and shortened. -/
import Derived.Test.YtjemhjcngaokpaaGreatDoorQDifferCounts3
open Go renaming Value->ix,World->ln,TypeId->Ke,Addr->Lm,Program->Lr,FuncId->LX,Operand->Mr,Oper->MO
open List renaming mem_singleton->ka,replicate->J0,all_cons->J3,length_singleton->J4,mem_cons->J8,mem_append->J9,foldl_cons->Jh,take_length->Jk,foldl_append->Jl,mem_map->Jm,not_mem_nil->Jp,length_cons->Jq,mem_range->Js,getElem?_append_right->Jt,range->Jw,all_nil->JA,mem_flatMap->JI,all_eq_true->JJ,length_append->JL,length_map->JO,append_nil->JP,mem_cons_of_mem->JX,map_append->K5,flatMap_cons->K9,any_eq_false->Ka,map_cons->Kf,eq_nil_of_length_eq_zero->Kh,getElem?_eq_some_iff->Kr,getElem?_append_left->Ku,append_assoc->Kv,idxOf_lt_length_iff->Kz,eq_of_mem_replicate->KA,take_of_length_le->KI,getElem?_toArray->KO,length_pos_iff->KU,size_toArray->KY,map_nil->KZ,range_succ->Lb,nodup_iff_pairwise_ne->Le,foldl_nil->Lh,exists_cons_of_ne_nil->Li,find?_range_eq_some->Ln,length_eq_zero_iff->Lq,set_append_right->Ly,flatMap_append->LG,getElem_idxOf->LJ,findIdx?_cons->LK,countP_append->LL,pairwise_map->LV,nodup_append->LW,map_toArray->M0,flatMap_nil->M1,cons_append->M4,any_eq_true->M5,nodup_cons->M9,nil_append->Ma,map_map->Ms,drop->MG
open Go.VL.Ret renaming enter->J1
open Go.Proofs.Tryz renaming underlying22->J2,prog->Ju,sizeOf72->JB,sizeOf3->JE,sizeOf30->JH,zeroValue35->JQ,zeroValue30->JR,sizeOf35->JV,sizeOf117->JW,zeroValue107->K4,zeroValue72->Kc,underlying172->Kk,sizeOf33->Kl,isAgg72->KG,isAgg35->KP,isAgg30->KQ,zeroValue3->L6,zeroValue117->Lc,isAgg33->Ld,sizeOf107->Lk,sizeOf22->Lu,isAgg117->Lv,underlying115->LD,underlying80->LN,underlying70->LO,sizeOf4->LP,call82->Mj,call17->Mk,sizeOf28->MB,call48->MC,call46->MD,underlying31->MM,zeroValue33->MP,underlying3->MQ,call79->MU,call49->MV,call45->MW
open Go.VL.Upd renaming setRow->J5,trans->Ji,mono->Kb,set->Kx,refl->L0,alloc->MI
open Nat renaming zero_le->J6,lt_succ_iff_lt_or_eq->Jz,not_lt_zero->JF,le_refl->JG,or_lt_two_pow->JU,pow_lt_pow_right->JZ,add_sub_cancel_left->K8,sub_self->Km,div_eq_of_lt->KE,le_trans->KJ,pow_le_pow_right->KR,add_assoc->KV,lt_of_lt_of_le->KX,one_mul->La,zero_add->Lx,lt_of_le_of_lt->LU,le_of_not_lt->M8,two_pow_pos->Me,add_comm->Mt,add_mul->MA,blt->MS
open Go.VL.Ext renaming refl->J7,alloc->Ls
open Go.VL.WH renaming one->Jj,done->K1,leaf->Kj
open Go.Value renaming oneCell'->Jn,bool->Kd,int->LQ,ownBlock->M7,slice->Mn
open Go.VL.RowT renaming upd->Jo,nil->JM
open Go.VL renaming Upd->Jr,Ints->K0,Ext->Ki,Ret->KM,BlkO->KS,Rng->KW,NewV->L7,RowT->LF,Free->Mb,Elem->MH
open Go.VL.WL renaming nil->Jv,push->KK,off->KL,storeAt->LZ
open Option.some renaming inj->Jy,injEq->MF
open Go.VL.Free renaming upd->JC
open Go.VL.RV renaming move->JD,indexAddr->JN,assign->K2,len->Kq,build->KH,extract->KN,lookup->L8,add->L9,not->Mq
open Bool renaming and_eq_true->JK,true_and->Kg,not_eq_true'->Kw,false_or->Lo,and_comm->Lp,or_eq_false_iff->LB,eq_false_iff->LY,false_and->Mi,not_or->Mw
open Go.VL.WC renaming region->JS,seq->K7,ret->Mm,tail->Mx,skip->My
open Go.VL.Sl renaming ext->JT,one->Lz,upd->MJ
open Go.Proofs.YtjemhjcngaokpaaGreatDoor renaming RightD->JY,RowsG->ME
open UInt8 renaming ofNat->K6,toNat->Mo
open Go.Result renaming andThen_ok->Ko
open Option renaming none->Kp,some->L2
open Int renaming toNat_natCast->KB,eq_ofNat_of_zero_le->KF
open Go.VL.Fit renaming i64->KC
open Go.VL.BlkO renaming upd->KD,setRow->LC
open Go.VL.Rng renaming upd->KT
open Go.Sem renaming run_bind->L1
open Go.Lib renaming ctz->L3,deBruijn64tab->M6,lowest_bit->Ml
open Go.Instr renaming findAsking->L4,findNow->Mg,findKey->Mh,fill->Mv
open Classical renaming byContradiction->L5
open Go.Addr renaming add->Lj
open Go.RowKit.Below renaming refl->Ll,trans->Mz
open Decidable renaming not_not->Lt
open Go.World renaming cell?_alloc_at->Lw,setCell->Mc
open List.cons renaming injEq->LA
open Go.IntKind renaming wrap_u64->LH,u64->Mf
open Prod.mk renaming inj->Md
open Go.Proofs renaming TabAt->Mp
open List.Pairwise renaming imp_of_mem->Mu
open List.Nodup renaming sublist->MK
open Go.Value.agg renaming inj->MN
open Go.VL.WS renaming go->MR
open Function renaming comp_apply->MT
open Go.Builtin renaming append_->MX
set_option maxRecDepth 10000
open Go.VL Go.Proofs Go.Proofs.Tryz
namespace Go.Proofs.YtjemhjcngaokpaaGreatDoor
theorem _root_.Go.VL.Sl.natIv{w:ln}{v:ix}{l:List Nat}(h:Sl aO 1 w v l):Sl encI 1 w v (l.map fun(n:Nat)=>(n:Int)):=
 ⟨by simpa using h.shape,fun i hi j u hu=>h.cells i (by simpa using hi) j u (by simpa using hu)⟩
theorem Fa:ck Ju 107 #[(0,1),(1,1),(2,1)]:=⟨_,underlying107,fun w=>by kernel_rfl⟩
theorem CF(g:List Nat)(many:Nat)(gv nv tv:ix)(rows:List (List Nat))(a':List Nat)(w:ln)(hg:GrpI g many)(g1:Sl aO 1 w gv g)(hn:RowsN w nv rows)(h5:Sl fK 1 w tv a')(hr:JY rows a') 
  (hc:∀p,p<rows.length->∀i j,i<37->j<37->nth g i=nth g j->nth (nth rows p) i=nth (nth rows p) j) :
  KM Ju 44 [gv,.agg #[nv,tv]] w fun v w'=>∃gv' nv' tv',v=.tuple #[.agg #[gv',nv',tv'],nI 0]/\gv'.oneCell'=true/\nv'.oneCell'=true/\tv'.oneCell'=true/\ME w.heap.size w' nv' (rows.map (oL g many))/\Sl fK 1 w' tv' a'/\L7 w.heap.size tv'/\Ki w w':=by
 have j6:=hr.le;have i1:=hr.tl;have j7:=hg.len;have j4:=hg.pos;have j5:=hg.le;refine J1 func44 ntmps44 rfl rfl ?_;refine zh ?_;refine aE (ar w) 1 zo rfl rfl ?_;intro db w1 O1 g4 i8 j1 j9;refine aw j1 2 zo (K4 _) rfl ?_;intro cb w2 O2 g8 h8 j0 j8;have e7:=g4.upd h8 zd zd;have e9:Jr (fun q=>1<=q) (fun _=>0) w O2 w2:=(i8.mono (fun _ h=>zo) zd).trans (h8.mono (fun _ h=>zo) zd);have d4:=e9.ext;refine zh ?_;refine zc MD (iG (ints g) gv w2 (g1.ext d4).natIv) ?_;rintro _ w3 ⟨rfl,h4⟩;rw[h4,hg.cnt];clear h4 w3;refine zh ?_;refine az (d:=16) rfl (b':=false) ((by rw[beq_eq_false_iff_ne];omega)) ?_;refine zh ?_;refine zvH (af (us:=[nv,tv]) e7.cellsAdd (KG _) (JB _) rfl) ?_;refine zc call41 (jJ nv tv rows a' w2 (hn.ext d4) (h5.ext d4) hr) ?_;rintro _ w3 ⟨rfl,j2⟩;have f5:Jr (fun _=>False) O2 w2 O2 w3:=aa (fun h=>h) O2 j2;have c':=e7.upd f5 zd (fun h=>h);have g7:=g8.upd f5 zd (fun h=>h);have b6:=e9.trans (f5.mono (fun _ h=>h.elim) zd);have i':=j0.upd f5;refine zh ?_;refine zFH rfl rfl ?_;have d1:w3.drew.cell? (nA db 1)=some tv:=c'.cell 1 rfl;refine aG (fun W=>W.cell? (nA db 1)=some tv) 8 rfl zk ?_;refine zrm 0 rfl d1 rfl ?_;refine zrf 2 rfl d1 rfl ?_;refine zt 3 rfl d1 (fun w1 h'=>RV.ld h' rfl) ?_
 refine ud (fun x:ix×ix×Nat×(Nat->Nat)×World=>[(0,gv),(3,nP db),(4,nP cb),(6,nI (many:Nat)),(23,x.1),(26,x.2.1),(7,.pointer (some ⟨x.2.2.1,0,none⟩)),(27,.agg #[x.1,nS,x.2.1])]) (fun x=>x.2.2.2.2) (fun x=>Sl aO 1 x.2.2.2.2 x.1 g/\Sl fK 1 x.2.2.2.2 x.2.1 a'/\Mb x.2.2.2.1 x.2.2.2.2 x.2.1/\KS x.2.2.2.1 x.2.2.2.2 3 x.2.2.1 #[nS,nS,nS] 107/\Jr (fun q=>q=3) O2 w3 x.2.2.2.1 x.2.2.2.2/\KW w.heap.size x.2.2.2.1 x.2.2.2.2/\L7 w3.heap.size x.2.1) #[true,true,true,true,true,true,true,false] 1 ?_ ?_
 ·intro hN;have hR:=i'.drew;have hU:Jr (fun q=>q=3) O2 w3 O2 w3.drew:=aa zd O2 (J7 w3).drew;have k0:∀O W,Jr (fun q=>q=3) O2 w3 O W->W.cell? (nA db 1)=some tv:=fun O W u=>(c'.upd u zd zd).cell 1 rfl
  have kg:∀O W,Jr (fun q=>q=3) O2 w3 O W->Sl aO 1 W gv g:=fun O W u=>g1.ext (b6.trans (u.mono (fun _ h=>zo) zd)).ext
  have kt:∀O W,Jr (fun q=>q=3) O2 w3 O W->Sl fK 1 W tv a':=fun O W u=>h5.ext (b6.trans (u.mono (fun _ h=>zo) zd)).ext
  refine bL 1 6 zk rfl rfl ?_ ?_ 
  ·refine zc call78 (qe g gv _ (kg _ _ hU) (fun _ _=>rfl) (fun u hu c hc=>by rw[ka.1 hc];rfl) zo) ?_;rintro a1 wa ⟨fA,f4,_⟩;have b2:=fun O=>aa (S:=fun _=>False) (fun h=>h) O f4
   have hU:=Ji hU ((b2 _).mono (fun _ h=>h.elim) zd);have hR:=KT hR (b2 _)
   try have fB:=JT fB f4
   try have gB:=JC gB (b2 _)
   try have fC:=KD fC (b2 _) zd (fun h=>h)
   refine zh ?_;refine ae (k0 _ _ hU) ?_
   refine bL 4 6 zk rfl rfl ?_ ?_ 
   ·refine zc MU (lQ a' tv _ (kt _ _ hU) (fun _ _=>rfl) (fun u hu c hc=>by rw[ka.1 hc];rfl) zo) ?_;rintro a0 wb ⟨fB,b8,b9⟩;have nB:=(qL b9).mono hU.size;have gB:=b9 _ _ hR;have a9:=fun O=>aa (S:=fun _=>False) (fun h=>h) O b8
    have hU:=Ji hU ((a9 _).mono (fun _ h=>h.elim) zd);have hR:=KT hR (a9 _)
    try have fA:=JT fA b8
    try have fC:=KD fC (a9 _) zd (fun h=>h)
    refine zh ?_;refine ae (k0 _ _ hU) ?_
    have oA:=Lz fA;have oB:=Lz fB;refine zr 5 rfl (k0 _ _ hU) (fun _=>aF Fa (K4 _) rfl (by simp only[J3,oA,oB,JA];rfl) rfl rfl) ?_;refine Jj 6 zk rfl ?_;refine aw hR 3 zd (K4 _) rfl ?_;intro ob wc Oc fC a8 e' f3;have hU:=Ji hU a8;have hR:=e'
    try have fA:=JT fA f3
    try have fB:=MJ fB gB a8
    try have gB:=JC gB a8
    refine zh ?_;refine ae (k0 _ _ hU) ?_
    exact Kj (hN (a1,a0,ob,_,_) ⟨fA,fB,gB,fC,hU,hR,nB⟩) zk ⟨rfl,rfl,rfl,rfl,rfl,rfl,rfl,rfl,trivial⟩ rfl
   refine aw hR 3 zd (K4 _) rfl ?_;intro ob wc Oc fC a8 e' f3;have hU:=Ji hU a8;have hR:=e'
   try have fA:=JT fA f3
   try have fB:=MJ fB gB a8
   try have gB:=JC gB a8
   refine zh ?_;refine ae (k0 _ _ hU) ?_
   refine Jj 4 zk rfl ?_;refine zc MU (lQ a' tv _ (kt _ _ hU) (fun _ _=>rfl) (fun u hu c hc=>by rw[ka.1 hc];rfl) zo) ?_
   rintro a0 wb ⟨fB,b8,b9⟩;have nB:=(qL b9).mono hU.size;have gB:=b9 _ _ hR;have a9:=fun O=>aa (S:=fun _=>False) (fun h=>h) O b8
   have hU:=Ji hU ((a9 _).mono (fun _ h=>h.elim) zd);have hR:=KT hR (a9 _)
   try have fA:=JT fA b8
   try have fC:=KD fC (a9 _) zd (fun h=>h)
   refine zh ?_;refine ae (k0 _ _ hU) ?_
   have oA:=Lz fA;have oB:=Lz fB;refine zr 5 rfl (k0 _ _ hU) (fun _=>aF Fa (K4 _) rfl (by simp only[J3,oA,oB,JA];rfl) rfl rfl) ?_;exact Kj (hN (a1,a0,ob,_,_) ⟨fA,fB,gB,fC,hU,hR,nB⟩) zk ⟨rfl,rfl,rfl,rfl,rfl,rfl,rfl,rfl,trivial⟩ rfl
  refine aw hR 3 zd (K4 _) rfl ?_;intro ob wc Oc fC a8 e' f3;have hU:=Ji hU a8;have hR:=e'
  try have fA:=JT fA f3
  try have fB:=MJ fB gB a8
  try have gB:=JC gB a8
  refine zh ?_;refine ae (k0 _ _ hU) ?_
  refine Jj 1 zk rfl ?_;refine zc call78 (qe g gv _ (kg _ _ hU) (fun _ _=>rfl) (fun u hu c hc=>by rw[ka.1 hc];rfl) zo) ?_
  rintro a1 wa ⟨fA,f4,_⟩;have b2:=fun O=>aa (S:=fun _=>False) (fun h=>h) O f4
  have hU:=Ji hU ((b2 _).mono (fun _ h=>h.elim) zd);have hR:=KT hR (b2 _)
  try have fB:=JT fB f4
  try have gB:=JC gB (b2 _)
  try have fC:=KD fC (b2 _) zd (fun h=>h)
  refine zh ?_;refine ae (k0 _ _ hU) ?_
  refine Jj 4 zk rfl ?_;refine zc MU (lQ a' tv _ (kt _ _ hU) (fun _ _=>rfl) (fun u hu c hc=>by rw[ka.1 hc];rfl) zo) ?_
  rintro a0 wb ⟨fB,b8,b9⟩;have nB:=(qL b9).mono hU.size;have gB:=b9 _ _ hR;have a9:=fun O=>aa (S:=fun _=>False) (fun h=>h) O b8
  have hU:=Ji hU ((a9 _).mono (fun _ h=>h.elim) zd);have hR:=KT hR (a9 _)
  try have fA:=JT fA b8
  try have fC:=KD fC (a9 _) zd (fun h=>h)
  refine zh ?_;refine ae (k0 _ _ hU) ?_
  have oA:=Lz fA;have oB:=Lz fB;refine zr 5 rfl (k0 _ _ hU) (fun _=>aF Fa (K4 _) rfl (by simp only[J3,oA,oB,JA];rfl) rfl rfl) ?_;exact Kj (hN (a1,a0,ob,_,_) ⟨fA,fB,gB,fC,hU,hR,nB⟩) zk ⟨rfl,rfl,rfl,rfl,rfl,rfl,rfl,rfl,trivial⟩ rfl
 rintro⟨a1,a0,ob,O7,w7⟩ ⟨e5,c5,c9,b1,b4,h9,e4⟩;dsimp only at e5 c5 c9 b1 b4 h9 e4 ⊢;have o1:=e5.one;have o2:=c5.one;have g3:=c'.upd b4 zd zd;have g6:=g7.upd b4 zd zd;refine Jj 7 zk rfl ?_;refine zsb (us:=#[a1,nS,a0]) b1 (Lk _) (by simp only[J3,o1,o2];rfl) ?_;have g0:=b1.setRow (us:=#[a1,nS,a0]);have d7:Jr (fun j=>j=3) O7 w7 O7 (w7.setRow ob #[a1,nS,a0]):=J5 zd b1.tag rfl;have f9:=c5.upd c9 d7;have g2:=c9.upd d7;have e6:=g3.upd d7 zd zd;have g5:=g6.upd d7 zd zd;have d3:=(b6.trans (b4.mono (fun _ h=>zo) zd)).trans (d7.mono (fun _ h=>zo) zd);have i9:=h9.upd d7;generalize w7.setRow ob #[a1,nS,a0]=w8 at *;refine zh ?_;refine ae (e6.cell 1 rfl) ?_;have e0:w8.cell? (nA db 0)=some nv:=e6.cell 0 rfl;obtain⟨vs,d9,j3,f8⟩:=hn;have i0:=d9.ext d3.ext;refine K1 zk ?_;refine zh ?_;refine zlp (fun z:Nat×(Nat->Nat)×World×ix×List ix=>[(0,gv),(3,nP db),(4,nP cb),(6,nI (many:Nat)),(7,nP ob),(29,nv),(30,nI vs.length),(31,nI z.1)]) (fun z=>z.2.2.1) (fun z=>z.1<=rows.length/\Jr (fun q=>3<=q) O7 w8 z.2.1 z.2.2.1/\KW w.heap.size z.2.1 z.2.2.1/\KS z.2.1 z.2.2.1 3 ob #[a1,z.2.2.2.1,a0] 107/\RwO z.2.1 z.2.2.1 4 z.2.2.2.1 z.2.2.2.2 ((rows.take z.1).map (oL g many))/\∀k,k<z.1->L7 w.heap.size (nth z.2.2.2.2 k)) (fun z=>rows.length-z.1) (0,O7,w8,nS,[]) (⟨J6 _,L0 zd _ _,i9,g0,⟨JM _ _ _ _ _ _,rfl,fun k hk=>absurd hk (JF k)⟩,fun k hk=>absurd hk (JF k)⟩) ?_
 rintro⟨i,O9,w9,d6,d5⟩ ⟨hi,e8,f6,c6,a4,c7⟩;dsimp only at hi e8 f6 c6 a4 c7 ⊢;have b5:=d3.trans (e8.mono (fun _ h=>zo) zd);have f7:=d9.ext b5.ext;have i2:=a4.len;have f':((rows.take i).map (oL g many)).length=i:=by simp;omega
 refine zh ?_;refine zC ?_ ?_
 ·intro c8;replace c8:i<rows.length:=dT c8;have m1:w9.cell? (adr nv 1 i)=some (nth vs i):=by have:=f7.cell (i:=i) (j:=0) zo rfl;rwa[ax]at this
  obtain⟨r1,r2⟩:=hr.row i c8;refine zh ?_;refine zc call80 (yi g (nth rows i) many gv (nth vs i) w9 hg (g1.ext b5.ext) ((f8 i c8).ext b5.ext) r1 (hc i c8)) ?_;rintro _ h3 ⟨ov,rfl,h6,h2,h7⟩;have b3:Jr (fun _=>False) O9 w9 O9 h3:=aa (fun h=>h) O9 h2;have e2:=h7 _ _ f6;have i3:=(qL h7).mono b5.size;have h1:=f6.upd b3;have b7:=c6.upd b3 zd (fun h=>h);have a2:=a4.upd b3 zd (fun h=>h);obtain⟨oa,oc,i4,_⟩:=h6.shape;subst i4;refine zh ?_;refine aN rfl rfl ?_;have f0:h3.cell? (nA ob 1)=some d6:=b7.cell 1 rfl;refine zh ?_;refine KK Du a2.row h1 ((.slice oa (oL g many (nth rows i)).length oc:ix)) (fun _=>rfl) rfl rfl rfl (by simp[Jn]) zo zo zo zd rfl rfl ?_;intro a3 d8 O11 a6 a5 h0;have a7:=b7.upd a5 zd zd;have e1:RwO O11 d8 4 a3 (d5++[.slice oa (oL g many (nth rows i)).length oc]) ((rows.take (i+1)).map (oL g many)):=by
   rw[aM c8,K5];refine⟨a6,by simp;omega,fun k hk=>?_⟩;rw[aA,aA]
   by_cases e:k<((rows.take i).map (oL g many)).length
   ·rw[if_pos zo,if_pos e];exact⟨(a2.at_ k e).1.upd (a2.at_ k e).2 a5,(a2.at_ k e).2.upd a5⟩
   have i5:k=i:=by simp at hk;omega
   subst i5;rw[if_neg zo,if_neg e,f',show k-d5.length=0 from by omega,Km,ay,Kf,KZ,ay];exact⟨h6.upd e2 a5,e2.upd a5⟩
  refine zh ?_;refine aj (j:=1) a7 rfl (sizeOf70 _) a6.one rfl rfl rfl ?_
  have d2:Jr (fun j=>j=3) O11 d8 O11 (d8.setCell ⟨ob,1,none⟩ a3):=Kx zd a7.tag rfl;have e3:KS O11 (d8.setCell ⟨ob,1,none⟩ a3) 3 ob #[a1,a3,a0] 107:=a7.set 1 _;have d':=e1.upd d2 zd zd;have g':=h0.upd d2;generalize d8.setCell ⟨ob,1,none⟩ a3=w12 at *;refine zh ?_;refine zxd (i+1,O11,w12,a3,d5++[.slice oa (oL g many (nth rows i)).length oc]) (⟨c8,((e8.trans (b3.mono (fun _ h=>h.elim) zd)).trans (a5.mono (fun _ h=>zo) zd)).trans (d2.mono (fun _ h=>zo) zd),g',e3,d',fun k hk=>?_⟩);dsimp only at hk ⊢;rw[aA]
  by_cases e:k<d5.length
  ·rw[if_pos e];exact c7 k zo
  rw[if_neg e,show k-d5.length=0 from by omega,ay];exact i3
 intro i6;obtain rfl:i=rows.length:=dF i6;rw[Jk]at a4;have o3:=a4.row.one;have d0:=g5.upd e8 zd zd;refine zh ?_;refine zv (af (us:=[a1,d6,a0]) c6.cellsAdd (isAgg107 _) (Lk _) rfl) ?_;refine zsb (us:=#[a1,d6,a0]) d0 (Lk _) (by simp only[J3,o1,o2,o3];rfl) ?_;have i7:=d0.setRow (us:=#[a1,d6,a0]);have g9:Jr (fun j=>j=2) O9 w9 O9 (w9.setRow cb #[a1,d6,a0]):=J5 zd d0.tag rfl;have b0:=a4.upd g9 zd zd;have hU9z:=(e8.mono (S':=fun q=>2<=q) (fun _ h=>zo) zd).trans (g9.mono (fun _ h=>zo) zd);refine zh ?_;refine bp rfl rfl rfl (i7.cellsAdd) (isAgg107 _) (Lk _) (⟨a1,d6,a0,rfl,o1,o3,o2,⟨d5,b0.row.sl,b0.row.newV zd (f6.upd g9),b0.len,fun k hk=>⟨(b0.at_ k hk).1,c7 k (by simpa using hk)⟩⟩,f9.upd g2 hU9z,e4.mono b6.size,(d3.trans (hU9z.mono (fun _ h=>zo) zd)).ext⟩)
def oV(a0:List Int)(base c:Nat):Bool:=!(decide (base+c<a0.length)&&nth a0 (base+c) != -1)
theorem yd(pb:Nat)(cv kv:ix)(a0:List Nat)(a2:List Int)(base:Nat)(w:ln) 
  (hp:w.cell? ⟨pb,3,none⟩=some kv) (hk:K0 w kv a2) (hc:Jg w cv a0) (a6:∀c∈a0,c<=64) (hb:base<=200000) :
  KM Ju 122 [nP pb,cv,nI base] w fun v w'=>v=.bool (a0.all (oV a2 base))/\w=w':=by
 have a8:=hk.len_le;have a':=hc.len_le;refine J1 func122 ntmps122 rfl rfl ?_;refine zh ?_;refine zlp (fun k:Nat=>[(0,nP pb),(1,cv),(2,nI base),(9,cv),(10,nI a0.length),(11,nI k)]) (fun k=>w) (fun k=>k<=a0.length/\∀j,j<k->oV a2 base (nth a0 j)=true) (fun k=>a0.length-k) 0 (⟨J6 _,fun j hj=>absurd hj (JF j)⟩) ?_;intro k ⟨a9,a4⟩;refine zh ?_;refine zC ?_ ?_
 ·intro a1;replace a1:k<a0.length:=by simpa using a1
  have b0:=a6 _ (aI a1);refine zh ?_;refine zvH (RV.ld (hc.ld zo) rfl) ?_;refine zvH (RV.ld hp rfl) ?_
  by_cases a5:base+nth a0 k<a2.length
  ·refine az (d:=24) rfl (b':=true) (by simpa using(by omega:(base:Int)+((nth a0 k:Nat):Int)<(a2.length:Int))) ?_;refine zh ?_
   refine zvH (RV.ld hp rfl) ?_;refine zvH (RV.ld (hk.ld zo) rfl) ?_
   refine zC ?_ ?_
   ·intro a3;refine zh ?_;refine ah rfl rfl (⟨?_,rfl⟩);rw[uN a1];simp only[oV,a5,a3];rfl
   intro a3;refine zh ?_;refine zxd (k+1) (⟨a1,fun j hj=>?_⟩)
   rcases Jz.1 hj with h|rfl
   ·exact a4 j h
   simp only[oV,a5,a3];rfl
  refine az (d:=24) rfl (b':=false) (by simpa using(by omega:¬(base:Int)+((nth a0 k:Nat):Int)<(a2.length:Int))) ?_;refine zh ?_
  refine zFH rfl rfl ?_;refine zxd (k+1) (⟨a1,fun j hj=>?_⟩)
  rcases Jz.1 hj with h|rfl
  ·exact a4 j h
  simp only[oV,a5];rfl
 intro a7;replace a7:a0.length<=k:=by simpa using a7
 refine zh ?_;refine ah rfl rfl (⟨?_,rfl⟩)
 rw[FF fun j hj=>a4 j zo]
def cnt(a0:List Int)(n:Int):Int:=(a0.count n:Int)
def mA(a0:List Int)(b n:Int):Int:=if cnt a0 b<cnt a0 n\/(cnt a0 n=cnt a0 b/\n<b)then n else b
def bH(a0:List Int):Int:=a0.foldl (mA a0) (nth a0 0)
abbrev iv:Int->ix:=LQ .i64
theorem pP:KeyL Ju 3 iv:=KeyL.int MQ
theorem zf(a0:List Int)(rv:ix)(w:ln)(h:K0 w rv a0)(a':0<a0.length):
  KM Ju 121 [rv] w fun u w'=>u=nI (bH a0)/\Ki w w':=by
 have hl:=h.len_le;have a7:∀r z,0<=cnt r z:=fun r z=>by simp only[cnt];omega
 have a6:∀k z,cnt (a0.take k) z<=k:=fun k z=>by
  have h1:=List.count_le_length (a:=z) (l:=a0.take k);have h2:=List.length_take_le k a0;simp only[cnt];omega
 refine J1 func121 ntmps121 rfl rfl ?_;refine zh ?_
 refine WL.makeMap rfl ?_;refine zh ?_
 refine zvH (Kq (by first|exact h.ext (Ls _ _)) J2 rfl) ?_;refine zlp (fun x:Nat×ln×List (Int×Int)=>[(0,rv),(3,.map (some w.heap.size)),(10,rv),(11,nI a0.length),(12,nI x.1)]) (fun x=>x.2.1) (fun x=>x.1<=a0.length/\MapO iv iv (lB (fun _=>0) w.heap.size 1) x.2.1 1 w.heap.size x.2.2/\Jr (fun j=>j=1) (fun _=>0) w (lB (fun _=>0) w.heap.size 1) x.2.1/\∀z,(bm x.2.2 z).getD 0=cnt (a0.take x.1) z) (fun x=>a0.length-x.1) (0,_,[]) (⟨J6 _,MapO.new _ _ _,MI zd (ar _) _ _,fun z=>by simp[bm,cnt]⟩) ?_
 rintro⟨k,w1,m⟩ ⟨hk,hm,hU,a3⟩;dsimp only at hk hm hU a3 ⊢;have h1:=h.ext hU.ext;refine zh ?_;refine zC ?_ ?_
 ·intro a2;replace a2:k<a0.length:=by simpa using a2
  have hc:=a6 k (nth a0 k);have b0:=a7 (a0.take k) (nth a0 k);refine zh ?_;refine zvH (RV.ld (h1.ld zo) rfl) ?_;refine zvH (L8 hm Kk pP (L6 _) (nth a0 k) rfl rfl rfl (u:=iv (cnt (a0.take k) (nth a0 k))) (by rw[<-a3];cases bm m (nth a0 k)<;>rfl)) ?_;refine WL.mapUpdate hm Kk pP zd (nth a0 k) (cnt (a0.take k) (nth a0 k)+1) rfl rfl rfl rfl rfl ?_;intro w2 a8 a9;refine zh ?_;refine zxd (k+1,w2,_) (⟨a2,a8,hU.trans a9,fun z=>?_⟩);dsimp only;rw[aP,aM a2]
  by_cases hz:nth a0 k=z
  ·subst hz;simp[cnt]
  rw[if_neg hz,a3];simp[cnt,List.count_append,hz]
 intro a4;replace a4:a0.length<=k:=by simpa using a4
 have a5:∀z,(bm m z).getD 0=cnt a0 z:=fun z=>by rw[a3,KI a4]
 refine zh ?_;refine zvH (RV.ld (h1.ld zo) rfl) ?_
 refine zlp (fun x:Nat×Int=>[(3,.map (some w.heap.size)),(24,rv),(25,nI a0.length),(26,nI x.1),(6,nI x.2)]) (fun x=>w1) (fun x=>x.1<=a0.length/\(a0.take x.1).foldl (mA a0) (nth a0 0)=x.2) (fun x=>a0.length-x.1) (0,nth a0 0) (⟨J6 _,rfl⟩) ?_;rintro⟨k,b⟩ ⟨hk,hb⟩;dsimp only at hk hb ⊢;refine zh ?_
 refine zC ?_ ?_
 ·intro a2;replace a2:k<a0.length:=by simpa using a2
  have a1:(a0.take (k+1)).foldl (mA a0) (nth a0 0)=mA a0 b (nth a0 k):=by rw[aM a2,Jl,hb];rfl
  have L:∀z,FJ iv (nI 0) (bm m z)=iv (cnt a0 z):=fun z=>by rw[<-a5];cases bm m z<;>rfl
  refine zh ?_;refine zvH (RV.ld (h1.ld zo) rfl) ?_
  refine zvH (L8 hm Kk pP (L6 _) (nth a0 k) rfl rfl rfl (L _)) ?_;refine zvH (L8 hm Kk pP (L6 _) b rfl rfl rfl (L _)) ?_
  by_cases h1:cnt a0 b<cnt a0 (nth a0 k)
  ·refine az (d:=37) rfl (b':=true) (decide_eq_true h1) ?_;refine zh ?_
   refine zTH rfl rfl ?_;refine zxd (k+1,_) (⟨a2,by rw[a1,mA,if_pos (.inl h1)]⟩)
  refine az (d:=37) rfl (b':=false) (decide_eq_false h1) ?_;refine zh ?_
  refine zvH (L8 hm Kk pP (L6 _) (nth a0 k) rfl rfl rfl (L _)) ?_;refine zvH (L8 hm Kk pP (L6 _) b rfl rfl rfl (L _)) ?_
  by_cases h2:cnt a0 (nth a0 k)=cnt a0 b
  ·refine az (d:=45) rfl (b':=true) (by simpa using h2) ?_;refine zh ?_
   refine zC ?_ ?_
   ·intro h3;replace h3:nth a0 k<b:=by simpa using h3
    refine zh ?_;refine zxd (k+1,_) (⟨a2,by rw[a1,mA,if_pos (.inr ⟨h2,h3⟩)]⟩)
   intro h3;replace h3:¬nth a0 k<b:=by simpa using h3
   refine zh ?_;refine zxd (k+1,_) (⟨a2,by rw[a1,mA,if_neg (fun h=>h.elim h1 fun h=>h3 h.2)]⟩)
  refine az (d:=45) rfl (b':=false) (by simpa using h2) ?_;refine zh ?_
  refine zFH rfl rfl ?_;refine zxd (k+1,_) (⟨a2,by rw[a1,mA,if_neg (fun h=>h.elim h1 fun h=>h2 h.1)]⟩)
 intro a4;replace a4:a0.length<=k:=by simpa using a4
 refine zh ?_;refine ah rfl rfl (⟨?_,hU.ext⟩)
 rw[bH,<-hb,KI a4]
theorem tH:MH Ju 22 3 1 8:=⟨J2,by kernel_rfl,zd⟩
abbrev mJ(O:Nat->Nat)(w:ln)(i:Nat)(v:ix)(l:List Int):Prop:=LF (fun x=>[nI x]) 3 1 O w i v l
structure PSt where
 width:Int
 usual:List Int
 base:List Int
 check:List Int
 next:List Int
structure PkR(T:Nat)(O:Nat->Nat)(w:ln)(pb:Nat)(p:PSt)(uv bv kv nv:ix):Prop where
 blk:KS O w (T+1) pb #[nI p.width,uv,bv,kv,nv] 30
 u:mJ O w (T+2) uv p.usual
 b:mJ O w (T+3) bv p.base
 k:mJ O w (T+4) kv p.check
 n:mJ O w (T+5) nv p.next
def PkO(T:Nat)(O:Nat->Nat)(w:ln)(pb:Nat)(p:PSt):Prop:=∃uv bv kv nv,PkR T O w pb p uv bv kv nv
def jw(T:Nat)(i:Nat):Prop:=T+1<=i/\i<=T+5
theorem gQ(T:Nat):¬jw T 0:=by unfold jw;omega
theorem PkR.upd{T:Nat}{S:Nat->Prop}{O O':Nat->Nat}{w w':ln}{pb:Nat}{p:PSt}{uv bv kv nv:ix}(h:PkR T O w pb p uv bv kv nv)(u:Jr S O w O' w')(hS:∀i,jw T i->¬S i):PkR T O' w' pb p uv bv kv nv:=
 ⟨h.blk.upd u zo (hS _ (by unfold jw;omega)),h.u.upd u zo (hS _ (by unfold jw;omega)),h.b.upd u zo (hS _ (by unfold jw;omega)),h.k.upd u zo (hS _ (by unfold jw;omega)),h.n.upd u zo (hS _ (by unfold jw;omega))⟩
theorem PkO.upd{T:Nat}{S:Nat->Prop}{O O':Nat->Nat}{w w':ln}{pb:Nat}{p:PSt}(h:PkO T O w pb p)(u:Jr S O w O' w')(hS:∀i,jw T i->¬S i):PkO T O' w' pb p:=by
 obtain⟨uv,bv,kv,nv,h⟩:=h;exact⟨uv,bv,kv,nv,h.upd u hS⟩
section
variable{T:Nat}{O O':Nat→Nat}{w w':ln}{pb:Nat}{p:PSt}{uv bv kv nv v:ix}{l:List Int}
theorem PkR.setK(h:PkR T O w pb p uv bv kv nv)(u:Jr (fun j=>j=T+4) O w O' w')(r:mJ O' w' (T+4) v l):
  PkR T O' (w'.setCell ⟨pb,3,none⟩ v) pb { p with check:=l } uv bv v nv/\Jr (jw T) O w O' (w'.setCell ⟨pb,3,none⟩ v):=by
 have hb:=h.blk.upd u zo zo;have us:Jr (fun j=>j=T+1) O' w' O' (w'.setCell ⟨pb,3,none⟩ v):=Kx zo hb.tag rfl
 exact⟨⟨hb.set 3 v,(h.u.upd u zo zo).upd us zo zo,(h.b.upd u zo zo).upd us zo zo,r.upd us zo zo,(h.n.upd u zo zo).upd us zo zo⟩,
  (u.mono (by unfold jw;omega) (gQ T)).trans (us.mono (by unfold jw;omega) (gQ T))⟩
theorem PkR.setN(h:PkR T O w pb p uv bv kv nv)(u:Jr (fun j=>j=T+5) O w O' w')(r:mJ O' w' (T+5) v l):
  PkR T O' (w'.setCell ⟨pb,4,none⟩ v) pb { p with next:=l } uv bv kv v/\Jr (jw T) O w O' (w'.setCell ⟨pb,4,none⟩ v):=by
 have hb:=h.blk.upd u zo zo;have us:Jr (fun j=>j=T+1) O' w' O' (w'.setCell ⟨pb,4,none⟩ v):=Kx zo hb.tag rfl
 exact⟨⟨hb.set 4 v,(h.u.upd u zo zo).upd us zo zo,(h.b.upd u zo zo).upd us zo zo,(h.k.upd u zo zo).upd us zo zo,r.upd us zo zo⟩,
  (u.mono (by unfold jw;omega) (gQ T)).trans (us.mono (by unfold jw;omega) (gQ T))⟩
theorem PkR.setU(h:PkR T O w pb p uv bv kv nv)(u:Jr (fun j=>j=T+2) O w O' w')(r:mJ O' w' (T+2) v l):
  PkR T O' (w'.setCell ⟨pb,1,none⟩ v) pb { p with usual:=l } v bv kv nv/\Jr (jw T) O w O' (w'.setCell ⟨pb,1,none⟩ v):=by
 have hb:=h.blk.upd u zo zo;have us:Jr (fun j=>j=T+1) O' w' O' (w'.setCell ⟨pb,1,none⟩ v):=Kx zo hb.tag rfl
 exact⟨⟨hb.set 1 v,r.upd us zo zo,(h.b.upd u zo zo).upd us zo zo,(h.k.upd u zo zo).upd us zo zo,(h.n.upd u zo zo).upd us zo zo⟩,
  (u.mono (by unfold jw;omega) (gQ T)).trans (us.mono (by unfold jw;omega) (gQ T))⟩
theorem PkR.setB(h:PkR T O w pb p uv bv kv nv)(u:Jr (fun j=>j=T+3) O w O' w')(r:mJ O' w' (T+3) v l):
  PkR T O' (w'.setCell ⟨pb,2,none⟩ v) pb { p with base:=l } uv v kv nv/\Jr (jw T) O w O' (w'.setCell ⟨pb,2,none⟩ v):=by
 have hb:=h.blk.upd u zo zo;have us:Jr (fun j=>j=T+1) O' w' O' (w'.setCell ⟨pb,2,none⟩ v):=Kx zo hb.tag rfl
 exact⟨⟨hb.set 2 v,(h.u.upd u zo zo).upd us zo zo,r.upd us zo zo,(h.k.upd u zo zo).upd us zo zo,(h.n.upd u zo zo).upd us zo zo⟩,
  (u.mono (by unfold jw;omega) (gQ T)).trans (us.mono (by unfold jw;omega) (gQ T))⟩
theorem PkR.c1(h:PkR T O w pb p uv bv kv nv):w.cell? ⟨pb,1,none⟩=some uv:=h.blk.cell 1 rfl
theorem PkR.c2(h:PkR T O w pb p uv bv kv nv):w.cell? ⟨pb,2,none⟩=some bv:=h.blk.cell 2 rfl
theorem PkR.c3(h:PkR T O w pb p uv bv kv nv):w.cell? ⟨pb,3,none⟩=some kv:=h.blk.cell 3 rfl
theorem PkR.c4(h:PkR T O w pb p uv bv kv nv):w.cell? ⟨pb,4,none⟩=some nv:=h.blk.cell 4 rfl
end
def PSt.long(p:PSt)(j:Nat):PSt:={ p with check:=p.check++J0 j (-1),next:=p.next++J0 j 0 }
def PSt.take(p:PSt)(slot:Nat)(a0 entry:Int):PSt:=
 let q:=p.long (slot+1-p.check.length)
 { q with check:=q.check.set slot a0,next:=q.next.set slot entry }
theorem Cf(T:Nat)(pb:Nat)(p:PSt)(slot:Nat)(a4 entry:Int)(B:Nat)(O:Nat->Nat)(w:ln)(hp:PkO T O w pb p)(hR:KW B O w)(hs:slot<=1000000)(hl:p.next.length=p.check.length):
  KM Ju 123 [nP pb,nI slot,nI a4,nI entry] w fun _ w'=>∃O',PkO T O' w' pb (p.take slot a4 entry)/\Jr (jw T) O w O' w'/\KW B O' w':=by
 refine J1 func123 ntmps123 rfl rfl ?_;refine zh ?_
 refine zlp (fun x:Nat×(Nat->Nat)×World=>[(0,nP pb),(1,nI slot),(2,nI a4),(3,nI entry)]) (fun x=>x.2.2) (fun x=>PkO T x.2.1 x.2.2 pb (p.long x.1)/\Jr (jw T) O w x.2.1 x.2.2/\KW B x.2.1 x.2.2/\x.1<=slot+1-p.check.length) (fun x=>slot+1-p.check.length-x.1) (0,O,w) (⟨by simpa[PSt.long]using hp,L0 (gQ T) _ _,hR,J6 _⟩) ?_;rintro⟨j,O1,w1⟩ ⟨⟨uv,bv,kv,nv,h⟩,hU,a6,hj⟩;dsimp only at h hU a6 hj ⊢;have hk:=h.k.sl;have b9:(p.long j).check.length=p.check.length+j:=by simp[PSt.long]
 have b7:(p.long j).next.length=p.check.length+j:=by simp[PSt.long,hl]
 have b8:=hk.len_le;refine zh ?_;refine zvH (RV.ld h.c3 rfl) ?_;refine zC ?_ ?_
 ·intro b1;replace b1:p.check.length+j<=slot:=dT b1;refine zh ?_;refine zv (RV.ld h.c3 rfl) ?_;refine KK tH h.k a6 (-1) (fun _=>rfl) rfl rfl rfl (by simp[Jn]) zo zo zo zd rfl rfl ?_;intro a' w2 O2 a5 a1 c5;obtain⟨h3,a0⟩:=h.setK a1 a5;have a2:=h.blk.upd a1 zo zo;have b4:KW B O2 (w2.setCell ⟨pb,3,none⟩ a'):=a6.upd a0;refine zh ?_;refine aj (j:=3) a2 rfl (Lu _) a5.one rfl rfl rfl ?_;refine zh ?_;refine zv (RV.ld h3.c4 rfl) ?_;have h3n:mJ O2 (w2.setCell ⟨pb,3,none⟩ a') (T+5) nv (p.long j).next:=h3.n;refine KK tH h3n b4 (0) (fun _=>rfl) rfl rfl rfl (by simp[Jn]) zo zo zo zd rfl rfl ?_;intro a9 w4 O4 b0 a3 b';obtain⟨h5,b3⟩:=h3.setN a3 b0;have b6:=h3.blk.upd a3 zo zo;refine zh ?_;refine aj (j:=4) b6 rfl (Lu _) b0.one rfl rfl rfl ?_;refine zh ?_;have e:(p.long (j+1)) = { p.long j with check:=(p.long j).check++[-1],next:=(p.long j).next++[0] }:=by
   simp[PSt.long,List.replicate_succ']
  have hP:PkO T O4 (w4.setCell ⟨pb,4,none⟩ a9) pb (p.long (j+1)):=by rw[e];exact⟨_,_,_,_,h5⟩
  refine zxd (j+1,O4,w4.setCell ⟨pb,4,none⟩ a9) (⟨hP,(hU.trans a0).trans b3,b4.upd b3,zo⟩)
 intro b2;replace b2:¬p.check.length+j<=slot:=dF b2;obtain rfl:j=slot+1-p.check.length:=zo;have hN:=h.n.sl;refine zh ?_;refine aG (fun w1=>w1.cell? ⟨pb,3,none⟩=some kv/\w1.cell? ⟨pb,4,none⟩=some nv) 16 rfl zk ?_;refine zin ⟨h.c3,h.c4⟩ fun zS=>?_
 refine zrm 0 rfl zS rfl ?_;refine zr 1 rfl zS (fun _=>ao rfl) ?_
 refine zrf 2 rfl zS rfl ?_;refine zt 3 rfl zS (fun w1 a7=>RV.ld a7.1 rfl) ?_
 refine zrm 4 rfl zS rfl ?_;refine zrm 5 rfl zS rfl ?_
 refine zr 6 rfl zS (fun _=>ao rfl) ?_;refine zrf 7 rfl zS rfl ?_
 refine zt 8 rfl zS (fun w1 a7=>RV.ld a7.2 rfl) ?_;refine zrm 9 rfl zS rfl ?_
 refine zrm 10 rfl zS rfl ?_;refine zrm 11 rfl zS rfl ?_
 refine zr 12 rfl zS (fun _=>ai hk.sh J2 (JE _) rfl rfl slot rfl zo) ?_;have h2:PkR T O1 w1.drew pb (p.long (slot+1-p.check.length)) uv bv kv nv:=⟨h.blk.drew,h.u.drew,h.b.drew,h.k.drew,h.n.drew⟩
 refine Jj 13 zk rfl ?_;refine LZ h2.k slot zo a4 (JE _) rfl zo rfl rfl rfl rfl ?_
 intro w2 a5 a1;have a2:=h2.blk.upd a1 zo zo;refine zh ?_;refine ae (⟨a2.cell 3 rfl,a2.cell 4 rfl⟩) ?_;refine zr 14 rfl (⟨a2.cell 3 rfl,a2.cell 4 rfl⟩) (fun _=>ai hN.sh J2 (JE _) rfl rfl slot rfl zo) ?_;refine Jj 15 zk rfl ?_;refine LZ (h2.n.upd a1 zo zo) slot zo entry (JE _) rfl zo rfl rfl rfl rfl ?_;intro w3 b5 a0;have a8:=a2.upd a0 zo zo;refine zh ?_;refine ae (⟨a8.cell 3 rfl,a8.cell 4 rfl⟩) ?_;refine K1 zk ?_;have a3:Jr (jw T) O1 w1 O1 w3:=((a1.mono (by unfold jw;omega) (gQ T)).trans (a0.mono (by unfold jw;omega) (gQ T))).ofDrew;refine aH rfl (⟨O1,⟨uv,bv,kv,nv,⟨a8,(h2.u.upd a1 zo zo).upd a0 zo zo,(h2.b.upd a1 zo zo).upd a0 zo zo,a5.upd a0 zo zo,b5⟩⟩,hU.trans a3,a6.upd a3⟩)
theorem oS{F:LX}(hF:∀(args:Array ix) (w:ln),(callFunc F args).run Ju w=.ok (.enter F args) w)(cs:Array ix)(l:List (Int))(sv:ix)(q:Nat->Bool)(w:ln)(h:Sl (fun x=>[nI x]) 1 w sv l) 
  (hq:∀i,i<l.length->∀w',Ki w w'->KM Ju F ([nI (nth l i)]++cs.toList) w' fun v w''=>v=.bool (q i)/\Ki w' w'') :
  KM Ju 146 [sv,.func (.func F) #[] cs] w fun v w'=>v=nI (dC q l.length)/\Ki w w':=by
 have hl:=h.len_le;refine J1 func146 ntmps146 rfl rfl ?_;refine zh ?_;refine zlp (fun x:Nat×ln=>[(0,sv),(1,.func (.func F) #[] cs),(7,nI l.length),(8,nI x.1)]) (fun x=>x.2) (fun x=>x.1<=l.length/\Ki w x.2/\∀i,i<x.1->q i=false) (fun x=>l.length-x.1) (0,w) (⟨J6 _,J7 _,fun i hi=>absurd hi (JF i)⟩) ?_;rintro⟨k,w1⟩ ⟨hk,hE,a1⟩;dsimp only at hk hE a1 ⊢;have h1:=h.ext hE;refine zh ?_;refine zC ?_ ?_
 ·intro a0;replace a0:k<l.length:=dT a0;refine zh ?_;refine zv (RV.ld (h1.ld a0) rfl) ?_;refine du rfl hF rfl (hq k a0 w1 hE) rfl ?_;rintro v w2 ⟨rfl,a3⟩;refine zh ?_;refine zC ?_ ?_
  ·intro hy;refine zh ?_;refine ah rfl rfl (⟨by rw[cD a0 hy a1],hE.trans a3⟩)
  intro hy;refine zh ?_;refine zxd (k+1,w2) (⟨a0,hE.trans a3,fun i hi=>(Jz.1 hi).elim (a1 i) (fun e=>by rw[e];exact hy)⟩)
 intro a2;replace a2:l.length<=k:=dF a2;refine zh ?_;refine ah rfl rfl (⟨by rw[cC fun i hi=>a1 i zo],hE⟩)
theorem lP{F:LX}(hF:∀(args:Array ix) (w:ln),(callFunc F args).run Ju w=.ok (.enter F args) w)(cs:Array ix)(l:List (Int))(sv:ix)(q:Nat->Bool)(w:ln)(h:Sl (fun x=>[nI x]) 1 w sv l) 
  (hq:∀i,i<l.length->∀w',Ki w w'->KM Ju F ([nI (nth l i)]++cs.toList) w' fun v w''=>v=.bool (q i)/\Ki w' w'') :
  KM Ju 118 [sv,.func (.func F) #[] cs] w fun v w'=>v=.bool (jc q l.length)/\Ki w w':=by
 refine J1 func118 ntmps118 rfl rfl ?_;refine zh ?_
 refine zc call146 (oS hF cs l sv q w h hq) ?_;rintro v w1 ⟨rfl,hE⟩;refine zh ?_
 refine ah rfl rfl (⟨by rw[firstN_any],hE⟩)
theorem oQ{F:LX}(hF:∀(args:Array ix) (w:ln),(callFunc F args).run Ju w=.ok (.enter F args) w)(cs:Array ix)(l:List (ix))(sv:ix)(q:Nat->Bool)(w:ln)(h:Sl (fun x=>[x]) 1 w sv l) 
  (hq:∀i,i<l.length->∀w',Ki w w'->KM Ju F ([id (nth l i)]++cs.toList) w' fun v w''=>v=.bool (q i)/\Ki w' w'') :
  KM Ju 120 [sv,.func (.func F) #[] cs] w fun v w'=>v=nI (dC q l.length)/\Ki w w':=by
 have hl:=h.len_le;refine J1 func120 ntmps120 rfl rfl ?_;refine zh ?_;refine zlp (fun x:Nat×ln=>[(0,sv),(1,.func (.func F) #[] cs),(7,nI l.length),(8,nI x.1)]) (fun x=>x.2) (fun x=>x.1<=l.length/\Ki w x.2/\∀i,i<x.1->q i=false) (fun x=>l.length-x.1) (0,w) (⟨J6 _,J7 _,fun i hi=>absurd hi (JF i)⟩) ?_;rintro⟨k,w1⟩ ⟨hk,hE,a1⟩;dsimp only at hk hE a1 ⊢;have h1:=h.ext hE;refine zh ?_;refine zC ?_ ?_
 ·intro a0;replace a0:k<l.length:=dT a0;refine zh ?_;refine zv (RV.ld (h1.ld a0) rfl) ?_;refine du rfl hF rfl (hq k a0 w1 hE) rfl ?_;rintro v w2 ⟨rfl,a3⟩;refine zh ?_;refine zC ?_ ?_
  ·intro hy;refine zh ?_;refine ah rfl rfl (⟨by rw[cD a0 hy a1],hE.trans a3⟩)
  intro hy;refine zh ?_;refine zxd (k+1,w2) (⟨a0,hE.trans a3,fun i hi=>(Jz.1 hi).elim (a1 i) (fun e=>by rw[e];exact hy)⟩)
 intro a2;replace a2:l.length<=k:=dF a2;refine zh ?_;refine ah rfl rfl (⟨by rw[cC fun i hi=>a1 i zo],hE⟩)
theorem fM{F:LX}(hF:∀(args:Array ix) (w:ln),(callFunc F args).run Ju w=.ok (.enter F args) w)(cs:Array ix)(l:List (ix))(sv:ix)(q:Nat->Bool)(w:ln)(h:Sl (fun x=>[x]) 1 w sv l) 
  (hq:∀i,i<l.length->∀w',Ki w w'->KM Ju F ([id (nth l i)]++cs.toList) w' fun v w''=>v=.bool (q i)/\Ki w' w'') :
  KM Ju 83 [sv,.func (.func F) #[] cs] w fun v w'=>v=.bool (jc q l.length)/\Ki w w':=by
 refine J1 func83 ntmps83 rfl rfl ?_;refine zh ?_
 refine zc call120 (oQ hF cs l sv q w h hq) ?_;rintro v w1 ⟨rfl,hE⟩;refine zh ?_
 refine ah rfl rfl (⟨by rw[firstN_any],hE⟩)
theorem ui(a:Int)(b1 b2:Lm)(lo hi:Int)(w:ln)(h1:w.cell? b1=some (nI lo))(h2:w.cell? b2=some (nI hi)):
  KM Ju 119 [nI a,.pointer (some b1),.pointer (some b2)] w fun v w'=>v=.bool (decide (a<lo)||decide (hi<a))/\w=w':=by
 refine J1 func119 ntmps119 rfl rfl ?_;refine zh ?_
 by_cases a0:a<lo
 ·refine az (d:=8) rfl (b':=true) (decide_eq_true a0) ?_;refine zh ?_
  refine ah rfl rfl (⟨by simp[a0],rfl⟩)
 refine az (d:=8) rfl (b':=false) (decide_eq_false a0) ?_;refine zh ?_
 refine ah rfl rfl (⟨by simp[a0],rfl⟩)
def inB(lo hi:Int)(l:List Int):Bool:=l.all fun n=>decide (lo<=n)&&decide (n<=hi)
theorem fp(lo hi:Int)(l:List Int)(lv:ix)(w:ln)(h:K0 w lv l):
  KM Ju 82 [lv,nI lo,nI hi] w fun v w'=>v=.bool (inB lo hi l)/\Ki w w':=by
 refine J1 func82 ntmps82 rfl rfl ?_;refine zh ?_
 refine WL.box rfl rfl ?_;refine WL.box rfl rfl ?_
 refine zh ?_;refine zv (dw rfl rfl) ?_
 have hE:Ki w ((w.alloc (.cells #[nI lo] 3)).alloc (.cells #[nI hi] 3)):=(Ls _ _).trans (Ls _ _);have c2:((w.alloc (.cells #[nI lo] 3)).alloc (.cells #[nI hi] 3)).cell? ⟨w.heap.size,0,none⟩=some (nI lo):=(Ls _ _).cell (by rw[Lw _ _ _ _ rfl];rfl);have c3:((w.alloc (.cells #[nI lo] 3)).alloc (.cells #[nI hi] 3)).cell? ⟨(w.alloc (.cells #[nI lo] 3)).heap.size,0,none⟩=some (nI hi):=by rw[Lw _ _ _ _ rfl];rfl
 refine zc call118 (lP call119 _ l lv (fun i=>decide (nth l i<lo)||decide (hi<nth l i)) _ (h.ext hE) (fun i hi w' a0=>(ui _ _ _ _ _ w' (a0.cell c2) (a0.cell c3)).mono fun v w'' ⟨e1,e2⟩=>⟨e1,e2▸J7 _⟩)) ?_;rintro v w1 ⟨rfl,a1⟩;refine zh ?_
 refine ah rfl rfl (⟨?_,hE.trans a1⟩);rw[im (l:=l) (p:=fun n=>decide (n<lo)||decide (hi<n)),inB,List.all_eq_not_any_not];congr 3;funext n;rw[Bool.eq_iff_iff];simp
def fN(a0:List Int)(u:Int)(k:Nat):List Nat:=(Jw k).filter fun c=>nth a0 c != u
def bF(a0:List Int)(u:Int):List Nat:=fN a0 u a0.length
theorem jK(a0:List Int)(u:Int)(k:Nat):fN a0 u (k+1)=if nth a0 k=u then fN a0 u k else fN a0 u k++[k]:=by
 unfold fN;rw[Lb,List.filter_append]
 by_cases h:nth a0 k=u<;>simp[h]
theorem kN{a0:List Int}{u:Int}{k c:Nat}(h:c∈fN a0 u k):c<k:=by
 simp only[fN,List.mem_filter,Js]at h;exact h.1
theorem yH(a0:List Int)(u:Int)(k:Nat):(fN a0 u k).length<=k:=by
 have:=List.length_filter_le (fun c=>nth a0 c != u) (Jw k);simpa[fN]using this
def eD(a1:List Int)(a0:List Nat)(b:Nat):Bool:=a0.all (oV a1 b)
def fQ(a1:List Int)(a0:List Nat):Nat:=((Jw (a1.length+1)).find? (eD a1 a0)).getD 0
theorem lD(a1:List Int)(a0:List Nat):eD a1 a0 a1.length=true:=by
 rw[eD,JJ];intro c _;simp[oV]
theorem BA{a1:List Int}{a0:List Nat}{b:Nat}(hb:eD a1 a0 b=true)(a2:∀j,j<b->eD a1 a0 j=false):fQ a1 a0=b:=by
 have a3:b<=a1.length:=by
  refine M8 fun h=>?_
  have:=a2 _ h;rw[lD]at this;cases this
 have:(Jw (a1.length+1)).find? (eD a1 a0)=some b:=by
  rw[Ln];exact⟨hb,Js.2 zo,fun j hj=>by simp[a2 j hj]⟩
 rw[fQ,this];rfl
theorem gm(a1:List Int)(a0:List Nat):eD a1 a0 (fQ a1 a0)=true/\fQ a1 a0<=a1.length/\∀j,j<fQ a1 a0->eD a1 a0 j=false:=by
 have:∃b,(Jw (a1.length+1)).find? (eD a1 a0)=some b:=by
  cases hf:(Jw (a1.length+1)).find? (eD a1 a0)with
  |some j=>exact⟨j,rfl⟩
  |none=>rw[List.find?_eq_none]at hf;exact absurd (lD a1 a0) (hf _ (Js.2 zo))
 obtain⟨b,hb⟩:=this;have h2:=hb;rw[Ln]at h2;have h3:=Js.1 h2.2.1;rw[fQ,hb];exact⟨h2.1,by simpa using(by omega:b<=a1.length),fun j hj=>by simpa using h2.2.2 j hj⟩
def PSt.lay(p:PSt)(a1:List Int):PSt:=
 let u:=bH a1
 let a0:=bF a1 u
 let b:=fQ p.check a0
 let q:=a0.foldl (fun q c=>q.take (b+c) p.base.length (nth a1 c)) p
 { q with usual:=q.usual++[u],base:=q.base++[(b:Int)] }
theorem mz{p:PSt}{s:Nat}{r e:Int}(h:p.next.length=p.check.length):(p.take s r e).next.length=(p.take s r e).check.length:=by simp[PSt.take,PSt.long,h]
def xL(T:Nat)(i:Nat):Prop:=T+1<=i/\i<=T+6
theorem sL(T:Nat):¬xL T 0:=by unfold xL;omega
abbrev IL(O:Nat->Nat)(w:ln)(i:Nat)(v:ix)(l:List Nat):Prop:=LF (fun(x:Nat)=>[nI (x:Int)]) 3 1 O w i v l
theorem uK(T pb:Nat)(p:PSt)(a0:List Int)(rv:ix)(B:Nat)(O:Nat->Nat)(w:ln)(hp:PkO T O w pb p)(hR:KW B O w)
  (a4:∀w',RowKit.Below B w w'->K0 w' rv a0) (e4:0<a0.length) (hw:a0.length<=64) (hl:p.next.length=p.check.length) (g3:p.check.length<=100000)
  (e0:p.usual.length<=100000) (e8:p.base.length<=100000) :
  KM Ju 84 [nP pb,rv] w fun _ w'=>∃O',PkO T O' w' pb (p.lay a0)/\Jr (xL T) O w O' w'/\KW B O' w':=by
 have g0:=(a4 w (Ll _ _)).len_le;refine J1 func84 ntmps84 rfl rfl ?_;refine zg ?_;refine zc call121 (zf a0 rv w (a4 w (Ll _ _)) e4) ?_;rintro v w1 ⟨rfl,d6⟩;have b9:Jr (xL T) O w O w1:=aa (sL T) O d6;have g7:=hR.upd b9;have e3:PkO T O w1 pb p:=hp.upd (aa (S:=fun _=>False) (fun h=>h) O d6) (fun _ _ h=>h);generalize hu:bH a0=u;refine zg ?_;refine zvG (Kq (by first|exact a4 _ (b9.below hR)) J2 rfl) ?_;refine zlp (fun x:Nat×(Nat->Nat)×World×ix=>[(0,nP pb),(1,rv),(4,nI u),(5,x.2.2.2),(13,rv),(14,nI a0.length),(15,nI x.1)]) (fun x=>x.2.2.1) (fun x=>x.1<=a0.length/\PkO T x.2.1 x.2.2.1 pb p/\IL x.2.1 x.2.2.1 (T+6) x.2.2.2 (fN a0 u x.1)/\Jr (xL T) O w x.2.1 x.2.2.1) (fun x=>a0.length-x.1) (0,O,w1,nS) (⟨J6 _,e3,JM _ _ _ _ _ _,b9⟩) ?_;rintro⟨k,O2,w2,cv⟩ ⟨hk,b3,a5,a'⟩;dsimp only at hk b3 a5 a' ⊢;have f7:=hR.upd a';have c8:=a4 w2 (a'.below hR);refine zg ?_;refine zC ?_ ?_
 ·intro a2;replace a2:k<a0.length:=by have:=of_decide_eq_true a2;omega
  have g2:=yH a0 u k;refine zg ?_;refine zv (JN (by first|exact c8) J2 (JE _) rfl rfl _ rfl zo) ?_;refine zvG (RV.ld (c8.ld zo) rfl) ?_;refine zC ?_ ?_
  ·intro a7;replace a7:nth a0 k≠u:=by simpa using a7
   refine zg ?_;refine KK tH a5 f7 (k) (fun _=>rfl) rfl rfl rfl (by simp[Jn]) zo zo zo zd rfl rfl ?_
   intro f8 w3 O3 b8 d5 g6;refine zg ?_;refine zvG (L9 rfl rfl (KC zo)) ?_;refine zxd (k+1,O3,w3,f8) (⟨a2,b3.upd d5 (by unfold jw;omega),by dsimp only;rw[jK,if_neg a7];exact b8,a'.trans (d5.mono (by unfold xL;omega) (sL T))⟩)
  intro b7;replace b7:nth a0 k=u:=by simpa using b7
  refine zg ?_;refine zvG (L9 rfl rfl (KC zo)) ?_
  refine zxd (k+1,O2,w2,cv) (⟨a2,b3,by dsimp only;rw[jK,if_pos b7];exact a5,a'⟩)
 intro b6;obtain rfl:k=a0.length:=by have:=of_decide_eq_false b6;omega
 obtain⟨uv,bv,kv,nv,h⟩:=b3;have a6:∀c∈bF a0 u,c<=64:=fun c hc=>by have:=kN hc;omega
 replace a5:IL O2 w2 (T+6) cv (bF a0 u):=a5;refine zg ?_;refine zlp (fun b:Nat=>[(0,nP pb),(1,rv),(4,nI u),(5,cv),(8,nI b)]) (fun b=>w2) (fun b=>b<=p.check.length/\∀j,j<b->eD p.check (bF a0 u) j=false) (fun b=>p.check.length-b) 0 (⟨J6 _,fun j hj=>absurd hj (JF j)⟩) ?_;intro b ⟨hb,d0⟩;refine zg ?_;refine zc call122 (yd pb cv kv (bF a0 u) p.check b w2 h.c3 h.k.sl a5.sl a6 zo) ?_;rintro v _ ⟨rfl,rfl⟩;refine zg ?_;refine zC ?_ ?_
 ·intro a3;replace a3:eD p.check (bF a0 u) b=false:=by rw[Kw]at a3;exact a3
  have a2:b<p.check.length:=by
   refine Nat.lt_of_le_of_ne hb fun e=>?_
   rw[e,lD]at a3;cases a3
  refine zg ?_;refine zvG (L9 rfl rfl (KC zo)) ?_
  refine zxd (b+1) (⟨a2,fun j hj=>(Jz.1 hj).elim (d0 j) (fun e=>by rw[e];exact a3)⟩)
 intro a1;replace a1:eD p.check (bF a0 u) b=true:=by rw[Bool.not_eq_false']at a1;exact a1
 have b0:=BA a1 d0;have e6:=a5.sl;refine zg ?_;refine zvG (Kq (by first|exact e6) J2 rfl) ?_;refine zlp (fun x:Nat×(Nat->Nat)×World=>[(0,nP pb),(1,rv),(4,nI u),(5,cv),(8,nI b),(35,cv),(36,nI (bF a0 u).length),(37,nI x.1)]) (fun x=>x.2.2) (fun x=>x.1<=(bF a0 u).length/\IL x.2.1 x.2.2 (T+6) cv (bF a0 u)/\Jr (xL T) O w x.2.1 x.2.2/\(∃q:PSt,q=((bF a0 u).take x.1).foldl (fun q c=>q.take (b+c) p.base.length (nth a0 c)) p/\PkO T x.2.1 x.2.2 pb q/\q.base=p.base/\q.usual=p.usual/\q.next.length=q.check.length)) (fun x=>(bF a0 u).length-x.1) (0,O2,w2) (⟨J6 _,a5,a',p,rfl,⟨uv,bv,kv,nv,h⟩,rfl,rfl,hl⟩) ?_;rintro⟨k,O4,w4⟩ ⟨e5,a8,b2,q,hq,⟨d8,d7,d',d9,h4⟩,b5,c9,c'⟩;dsimp only at e5 a8 b2 hq h4 ⊢;have b':=hR.upd b2;have c7:=a4 w4 (b2.below hR);have a9:=a8.sl;have f3:=h4.b.sl;have g1:=a9.len_le;refine zg ?_;refine zC ?_ ?_
 ·intro a2;replace a2:k<(bF a0 u).length:=by have:=of_decide_eq_true a2;omega
  have e7:=a6 _ (aI a2);have d1:=kN (aI a2);refine zg ?_;refine zv (JN (by first|exact a9) J2 (JE _) rfl rfl _ rfl zo) ?_;refine zvG (RV.ld (a9.ld zo) rfl) ?_;refine Mx 13 rfl rfl zk zk ?_;refine zg ?_;refine zwG (L9 rfl rfl (KC zo)) ?_;refine zw (RV.ld h4.c2 rfl) ?_;refine zwG (Kq ((f3).drew) J2 rfl) ?_;refine zw (JN c7.drew J2 (JE _) rfl rfl (nth (bF a0 u) k) rfl d1) ?_;refine zw (RV.ld (c7.ld d1) rfl) ?_;refine MR ?_;have e2:PkO T O4 w4.drew pb q:=⟨d8,d7,d',d9,h4.blk.drew,h4.u.drew,h4.b.drew,h4.k.drew,h4.n.drew⟩
  rw[show(q.base.length:Int)=(p.base.length:Int)from by rw[b5]];refine zc call123 (Cf T pb q (b+nth (bF a0 u) k) p.base.length (nth a0 (nth (bF a0 u) k)) B O4 w4.drew e2 b'.drew zo c') ?_;rintro v w5 ⟨O5,e1,b1,f6⟩;have b4:Jr (xL T) O4 w4 O5 w5:=(b1.mono (fun i hi=>by unfold jw at hi;unfold xL;omega) (sL T)).ofDrew;refine zg ?_;refine zvG (L9 rfl rfl (KC zo)) ?_;refine zxd (k+1,O5,w5) (⟨a2,a8.drew.upd b1 zo (by unfold jw;omega),b2.trans b4,_,?_,e1,b5,c9,mz c'⟩);rw[aM a2,Jl,<-hq];rfl
 intro b6;obtain rfl:k=(bF a0 u).length:=by have:=of_decide_eq_false b6;omega
 rw[Jk]at hq;refine zg ?_;refine zvG (RV.ld h4.c1 rfl) ?_;have f':q.usual.length<=100000:=by rw[c9];exact e0
 refine KK tH h4.u b' (u) (fun _=>rfl) rfl rfl rfl (by simp[Jn]) zo zo zo zd rfl rfl ?_;intro c5 w5 O5 c6 b1 f6;obtain⟨h5,b4⟩:=h4.setU b1 c6;have e':=h4.blk.upd b1 zo zo;have f5:KW B O5 (w5.setCell ⟨pb,1,none⟩ c5):=b'.upd b4;refine zg ?_
 refine aj (j:=1) e' rfl (Lu _) c6.one rfl rfl rfl ?_;refine zg ?_
 refine zvG (RV.ld h5.c2 rfl) ?_;have h5b:mJ O5 (w5.setCell ⟨pb,1,none⟩ c5) (T+3) d7 q.base:=h5.b;have g4:q.base.length<=100000:=by rw[b5];exact e8
 refine KK tH h5b f5 (b) (fun _=>rfl) rfl rfl rfl (by simp[Jn]) zo zo zo zd rfl rfl ?_;intro f9 w6 O6 d2 d4 g5;obtain⟨h6,f4⟩:=h5.setB d4 d2;have e9:=h5.blk.upd d4 zo zo;refine zg ?_
 refine aj (j:=2) e9 rfl (Lu _) d2.one rfl rfl rfl ?_;refine zg ?_
 have d3:Jr (xL T) O w O6 (w6.setCell ⟨pb,2,none⟩ f9):=(b2.trans (b4.mono (fun i hi=>by unfold jw at hi;unfold xL;omega) (sL T))).trans (f4.mono (fun i hi=>by unfold jw at hi;unfold xL;omega) (sL T));refine aH rfl (⟨O6,?_,d3,hR.upd d3⟩);have e:p.lay a0 = { q with usual:=q.usual++[u],base:=q.base++[(b:Int)] }:=by simp only[PSt.lay,hu];rw[b0,<-hq]
 rw[e];exact⟨_,_,_,_,h6⟩
theorem Gn:ck Ju 30 #[(0,1),(1,1),(2,1),(3,1),(4,1)]:=⟨_,underlying30,fun w=>by kernel_rfl⟩
def Rows(w:ln)(v:ix)(L:List (List Int)):Prop:=
 ∃rvs:List ix,Sl (fun x=>[x]) 1 w v rvs/\rvs.length=L.length/\∀i,i<L.length->K0 w (nth rvs i) (nth L i)
theorem Rows.ext{w w':ln}{v:ix}{L:List (List Int)}(h:Rows w v L)(e:Ki w w'):Rows w' v L:=by
 obtain⟨a0,h1,h2,h3⟩:=h;exact⟨a0,h1.ext e,h2,fun i hi=>(h3 i hi).ext e⟩
def il(a0:Int)(a1:List Int):Bool:=(a1.length:Int) != a0 || !(inB 0 65535 a1)
theorem FE(a0:Int)(a1:List Int)(rv:ix)(b:Lm)(w:ln)(h:K0 w rv a1)(hb:w.cell? b=some (nI a0)):
  KM Ju 81 [rv,.pointer (some b)] w fun v w'=>v=.bool (il a0 a1)/\Ki w w':=by
 refine J1 func81 ntmps81 rfl rfl ?_;refine zh ?_
 by_cases hl:(a1.length:Int)=a0
 ·refine az (d:=8) rfl (b':=false) (by simpa using hl) ?_;refine zh ?_
  refine zc Mj (fp 0 65535 a1 rv w h) ?_;rintro v w1 ⟨rfl,hE⟩;refine zh ?_
  refine ah rfl rfl (⟨by simp[il,hl],hE⟩)
 refine az (d:=8) rfl (b':=true) (by simpa using hl) ?_;refine zh ?_
 refine ah rfl rfl (⟨by simp[il,hl],J7 _⟩)
def bS(a0:Int)(L:List (List Int)):Bool:=decide (a0<1)||decide (64<a0)||decide (1000<L.length)||L.any (il a0)
def lA(a0:Int)(L:List (List Int)):PSt:=L.foldl PSt.lay ⟨a0,[],[],[],[]⟩
def PkV(w:ln)(v:ix)(p:PSt):Prop:=
 ∃uv bv kv nv,v=.agg #[nI p.width,uv,bv,kv,nv]/\K0 w uv p.usual/\K0 w bv p.base/\K0 w kv p.check/\K0 w nv p.next
theorem PkV.ext{w w':ln}{v:ix}{p:PSt}(h:PkV w v p)(e:Ki w w'):PkV w' v p:=by
 obtain⟨uv,bv,kv,nv,h0,h1,h2,h3,h4⟩:=h;exact⟨uv,bv,kv,nv,h0,h1.ext e,h2.ext e,h3.ext e,h4.ext e⟩
theorem rP(p:PSt)(s:Nat)(r e:Int):(p.take s r e).check.length=max p.check.length (s+1)/\(p.take s r e).usual=p.usual/\(p.take s r e).base=p.base/\(p.take s r e).width=p.width:=by
 simp[PSt.take,PSt.long];omega
theorem kF(f:Nat->Int)(b:Nat)(r:Int):∀(a0:List Nat) (p:PSt),(∀c∈a0,c<64)->p.next.length=p.check.length->
  let q:=a0.foldl (fun q c=>q.take (b+c) r (f c)) p
  q.check.length<=max p.check.length (b+64)/\q.usual=p.usual/\q.base=p.base/\q.width=p.width/\q.next.length=q.check.length
 |[],p,_,hl=>⟨by simp;omega,rfl,rfl,rfl,hl⟩
 |c::a0,p,hc,hl=>by
  have h:=kF f b r a0 (p.take (b+c) r (f c)) (fun x hx=>hc x (by simp[hx])) (mz hl);obtain⟨t1,t2,t3,t4⟩:=rP p (b+c) r (f c);have:=hc c (by simp);simp only[Jh]at h ⊢;rw[t1,t2,t3,t4]at h;exact⟨zo,h.2⟩
theorem iD(p:PSt)(a0:List Int)(hw:a0.length<=64)(hl:p.next.length=p.check.length):
  (p.lay a0).check.length<=p.check.length+64/\(p.lay a0).usual=p.usual++[bH a0]/\(p.lay a0).base.length=p.base.length+1/\(p.lay a0).width=p.width/\(p.lay a0).next.length=(p.lay a0).check.length:=by
 have hb:=(gm p.check (bF a0 (bH a0))).2.1;obtain⟨h1,h2,h3,h4,h5⟩:=kF (fun c=>nth a0 c) (fQ p.check (bF a0 (bH a0))) p.base.length (bF a0 (bH a0)) p (fun c hc=>by have:=kN hc;omega) hl;refine⟨?_,?_,?_,h4,h5⟩
 ·simp only[PSt.lay];omega
 ·simp only[PSt.lay];rw[h2]
 simp only[PSt.lay];rw[h3];simp
def PkF(B:Nat)(v:ix):Prop:=∃wd uv bv kv nv,v=.agg #[wd,uv,bv,kv,nv]/\L7 B uv/\L7 B bv/\L7 B kv/\L7 B nv
theorem nn(width:Int)(L:List (List Int))(rv:ix)(w:ln)(h:Rows w rv L):
  KM Ju 45 [nI width,rv] w fun v w'=>∃pv e,v=.tuple #[pv,nI e]/\PkV w' pv (if bS width L then⟨0,[],[],[],[]⟩else lA width L)/\e=(if bS width L then 1 else 0)/\Ki w w'/\(bS width L=false->PkF w.heap.size pv):=by
 obtain⟨a4,hr,b1,c6⟩:=h;have f5:=hr.len_le;refine J1 func45 ntmps45 rfl rfl ?_;refine zh ?_;refine aE (ar w) 1 zo rfl rfl ?_;intro bw w1 O1 e0 e1 e7 f3;refine aw e7 2 zo (JR _) rfl ?_;intro br w2 O2 a1 d3 e6 e';have a':=e0.upd d3 zd zd;have cw:∀w',Ki w2 w'->w'.cell? ⟨bw,0,none⟩=some (nI width):=fun w' e=>e.cell (a'.cell 0 rfl)
 have hE:=f3.trans e';have hU:=(e1.mono (S':=fun j=>1<=j/\j<=16) zo zo).trans (d3.mono zo zo);have d5:=hr.ext hE;refine zh ?_;refine zvH (dw rfl rfl) ?_;refine zvH (RV.ld (cw _ (J7 _)) rfl) ?_;have b4:∀(w3:ln),Ki w w3->bS width L=true->
   ∃pv e,Value.tuple #[.agg #[nI 0,nS,nS,nS,nS],nI 1]=.tuple #[pv,nI e]/\PkV w3 pv (if bS width L then⟨0,[],[],[],[]⟩else lA width L)/\e=(if bS width L then 1 else 0)/\Ki w w3/\(bS width L=false->PkF w.heap.size pv):=by
  intro w3 he hb;rw[hb];exact⟨_,_,rfl,⟨_,_,_,_,rfl,(JM _ 3 _ (fun _=>0) w3 1).sl,(JM _ 3 _ (fun _=>0) w3 1).sl,(JM _ 3 _ (fun _=>0) w3 1).sl,(JM _ 3 _ (fun _=>0) w3 1).sl⟩,rfl,he,fun h=>absurd h zd⟩
 by_cases h1:width<1
 ·refine az (d:=13) rfl (b':=true) (decide_eq_true h1) ?_;refine zh ?_
  refine zTH rfl rfl ?_;refine zv (aF Gn (JR _) rfl (by first|rfl|(simp only[J3,JA];rfl)) rfl rfl) ?_
  refine bu a1 rfl (JH _) rfl rfl rfl rfl ?_;refine zh ?_
  refine bp rfl rfl rfl ((a1.setRow).cellsAdd) (KQ _) (JH _) (b4 _ (hU.trans (J5 zo a1.tag zo)).ext (by simp[bS,h1]))
 refine az (d:=13) rfl (b':=false) (decide_eq_false h1) ?_;refine zh ?_
 refine zvH (RV.ld (cw _ (J7 _)) rfl) ?_
 by_cases h2:64<width
 ·refine az (d:=17) rfl (b':=true) (decide_eq_true h2) ?_;refine zh ?_
  refine zTH rfl rfl ?_;refine zv (aF Gn (JR _) rfl (by first|rfl|(simp only[J3,JA];rfl)) rfl rfl) ?_
  refine bu a1 rfl (JH _) rfl rfl rfl rfl ?_;refine zh ?_
  refine bp rfl rfl rfl ((a1.setRow).cellsAdd) (KQ _) (JH _) (b4 _ (hU.trans (J5 zo a1.tag zo)).ext (by simp[bS,h2]))
 refine az (d:=17) rfl (b':=false) (decide_eq_false h2) ?_;refine zh ?_
 by_cases h3:1000<L.length
 ·refine az (d:=22) rfl (b':=true) (by rw[b1];exact decide_eq_true zo) ?_;refine zh ?_
  refine zTH rfl rfl ?_;refine zv (aF Gn (JR _) rfl (by first|rfl|(simp only[J3,JA];rfl)) rfl rfl) ?_
  refine bu a1 rfl (JH _) rfl rfl rfl rfl ?_;refine zh ?_
  refine bp rfl rfl rfl ((a1.setRow).cellsAdd) (KQ _) (JH _) (b4 _ (hU.trans (J5 zo a1.tag zo)).ext (by simp[bS,h3]))
 refine az (d:=22) rfl (b':=false) (by rw[b1];exact decide_eq_false zo) ?_;refine zh ?_
 refine zc call83 (fM call81 _ a4 rv (fun i=>il width (nth L i)) _ d5 (fun i hi w' c5=>FE width (nth L i) (nth a4 i) _ w' (((c6 i zo).ext hE).ext c5) (cw w' c5))) ?_;rintro v w3 ⟨rfl,b3⟩;rw[b1,im (p:=il width)];have a2:=a1.upd (aa (S:=fun _=>False) (fun h=>h) O2 b3) zd (fun h=>h);have b6:=a'.upd (aa (S:=fun _=>False) (fun h=>h) O2 b3) zd (fun h=>h);have d2:=hU.trans (aa zo O2 b3);refine zh ?_
 refine zC ?_ ?_
 ·intro a3;refine zh ?_;refine zv (aF Gn (JR _) rfl (by first|rfl|(simp only[J3,JA];rfl)) rfl rfl) ?_;refine bu a2 rfl (JH _) rfl rfl rfl rfl ?_;refine zh ?_;refine bp rfl rfl rfl ((a2.setRow).cellsAdd) (KQ _) (JH _) (b4 _ (d2.trans (J5 zo a2.tag zo)).ext (by simp only[bS,a3];simp))
 intro a5;have a3:bS width L=false:=by simp only[bS,a5];simp[h1,h2,h3]
 have e5:=e6.ext b3;refine zh ?_;refine zv (RV.ld (b6.cell 0 rfl) rfl) ?_;refine zv (aF Gn (JR _) rfl (by first|rfl|(simp only[J3,JA];rfl)) rfl rfl) ?_;refine aw e5 11 zo (JR _) rfl ?_;intro pb w4 O4 b2 d1 e4 f6;refine zsa (us:=#[nI width,nS,nS,nS,nS]) b2 (JH _) ?_;have d0:Jr (fun j=>1<=j/\j<=16) O4 w4 O4 (w4.setRow pb #[nI width,nS,nS,nS,nS]):=J5 zo b2.tag zo;have b8:KS O4 (w4.setRow pb #[nI width,nS,nS,nS,nS]) 2 br _ 30:=(a2.upd d1 zd zd).upd (J5 (S:=fun j=>j=11) zd b2.tag rfl) zd zd;have e9:PkO 10 O4 (w4.setRow pb #[nI width,nS,nS,nS,nS]) pb ⟨width,[],[],[],[]⟩:=⟨_,_,_,_,b2.setRow,JM _ _ _ _ _ _,JM _ _ _ _ _ _,JM _ _ _ _ _ _,JM _ _ _ _ _ _⟩
 have c':=(d2.trans (d1.mono (S':=fun j=>1<=j/\j<=16) zo zo)).trans d0;have e3:=e4.upd d0;generalize w4.setRow pb #[nI width,nS,nS,nS,nS]=w5 at *;have f4:1<=width/\width<=64/\L.length<=1000:=zo;have a9:∀i,i<L.length->((nth L i).length:Int)=width:=fun i hi=>by
  have:=Ka.1 a5 _ (aI hi);simp only[il,Bool.or_eq_true,not_or,bne_iff_ne,ne_eq,Lt]at this;exact this.1
 refine zh ?_;refine zvH (Kq (by first|exact hr.ext c'.ext) LO rfl) ?_
 refine zlp (fun x:Nat×(Nat->Nat)×World=>[(1,rv),(4,nP br),(7,nP pb),(30,rv),(31,nI a4.length),(32,nI x.1)]) (fun x=>x.2.2) (fun x=>x.1<=a4.length/\KS x.2.1 x.2.2 2 br #[nI 0,nS,nS,nS,nS] 30/\KW w.heap.size x.2.1 x.2.2/\Jr (fun j=>1<=j/\j<=16) (fun _=>0) w x.2.1 x.2.2/\(∃q,q=(L.take x.1).foldl PSt.lay ⟨width,[],[],[],[]⟩/\PkO 10 x.2.1 x.2.2 pb q/\q.check.length<=64*x.1/\q.usual.length=x.1/\q.base.length=x.1/\q.next.length=q.check.length)) (fun x=>a4.length-x.1) (0,O4,w5) (⟨J6 _,b8,e3,c',_,rfl,e9,by simp,rfl,rfl,rfl⟩) ?_;rintro⟨k,O7,w7⟩ ⟨hk,a0,a8,b0,q,hq,b9,d7,c7,d8,c8⟩;dsimp only at hk a0 a8 b0 hq b9 d7 c7 d8 ⊢;have d4:=hr.ext b0.ext;refine zh ?_
 refine zC ?_ ?_
 ·intro b5;replace b5:k<a4.length:=dT b5;have a6:k<L.length:=zo;have d9:=a9 k a6;refine zh ?_;refine zvH (RV.ld (d4.ld zo) rfl) ?_;refine zc call84 (uK 10 pb q (nth L k) (nth a4 k) w.heap.size O7 w7 b9 a8 (fun w' hB=>(c6 k a6).ext (Mz b0.ext hB)) zo zo c8 zo zo zo) ?_;rintro v w8 ⟨O8,e8,c9,e2⟩;have b7:=a0.upd c9 zd (by unfold xL;omega);obtain⟨l1,l2,l3,l4,l5⟩:=iD q (nth L k) zo c8;refine zh ?_;refine zxd (k+1,O8,w8) (⟨b5,b7,e2,b0.trans (c9.mono (by unfold xL;omega) zo),_,?_,e8,zo,by rw[l2];simp[c7],zo,l5⟩);rw[aM a6,Jl,<-hq];rfl
 intro d';obtain rfl:k=a4.length:=by have:=of_decide_eq_false d';omega
 rw[b1,Jk]at hq;obtain⟨uv,bv,kv,nv,h7⟩:=b9;refine zh ?_;refine zv (af h7.blk.cellsAdd (KQ _) (JH _) rfl) ?_;refine zsb (us:=#[nI q.width,uv,bv,kv,nv]) a0 (JH _) (by simp only[J3,h7.u.one,h7.b.one,h7.k.one,h7.n.one];rfl) ?_;have a7:Jr (fun j=>j=2) O7 w7 O7 (w7.setRow br #[nI q.width,uv,bv,kv,nv]):=J5 zd a0.tag rfl;have h9:=h7.upd a7 (by unfold jw;omega);have d6:lA width L=q:=hq.symm;refine zh ?_;refine bp rfl rfl rfl ((a0.setRow).cellsAdd) (KQ _) (JH _) (⟨_,_,rfl,⟨uv,bv,kv,nv,?_,?_,?_,?_,?_⟩,by rw[a3];rfl,(b0.trans (a7.mono zo zo)).ext,fun _=>⟨_,uv,bv,kv,nv,rfl,h9.u.newV zd (a8.upd a7),h9.b.newV zd (a8.upd a7),h9.k.newV zd (a8.upd a7),h9.n.newV zd (a8.upd a7)⟩⟩)
 all_goals rw[a3,if_neg Bool.false_ne_true,d6]
 ·exact h9.u.sl
 ·exact h9.b.sl
 ·exact h9.k.sl
 exact h9.n.sl
def vd(n:Int):Bool:=decide (0<=n)
def eA(l:List Int):Nat:=l.countP vd
def xu(a0:List Int)(u:Int):Nat:=a0.countP fun n=>n != u
def lC(L:List (List Int))(us:List Int)(i:Nat):Nat:=((Jw i).map fun j=>xu (nth L j) (nth us j)).sum
theorem sM(L:List (List Int))(us:List Int)(i:Nat):lC L us (i+1)=lC L us i+xu (nth L i) (nth us i):=by
 simp[lC,Lb]
theorem yI(a0:List Int)(u:Int):(bF a0 u).length=xu a0 u:=by
 have a1:∀k,k<=a0.length->(fN a0 u k).length=(a0.take k).countP (fun n=>n != u):=by
  intro k
  induction k with
  |zero=>intro _;rfl
  |succ k ih=>
   intro hk;rw[jK,aM zo,LL];have:=ih zo
   by_cases h:nth a0 k=u
   ·rw[if_pos h,this];simp[h]
   rw[if_neg h,JL,this];simp[h]
 have:=a1 a0.length (JG _)
 rwa[Jk]at this
def pU(a0:List Int)(s:Nat):Prop:=a0.length<=s\/nth a0 s = -1
theorem A7{a0:List Int}{b c:Nat}:oV a0 b c=true↔pU a0 (b+c):=by
 simp only[oV,pU,Kw,Bool.and_eq_false_iff,decide_eq_false_iff_not]
 constructor
 ·rintro(h|h)
  ·exact .inl zo
  exact .inr (by simpa using h)
 rintro(h|h)
 ·exact .inl zo
 exact .inr (by simpa using h)
theorem xP{l:List Int}{s:Nat}{r:Int}(hs:s<l.length)(hf:nth l s = -1)(hr:0<=r):eA (l.set s r)=eA l+1:=by
 induction l generalizing s with
 |nil=>simp at hs
 |cons a l ih=>
  cases s with
  |zero=>rw[ay]at hf;subst hf;simp[eA,vd,hr]
  |succ s=>
   rw[bA]at hf;have:=ih (by simpa using hs) hf;simp only[eA,List.set_cons_succ,List.countP_cons]at this ⊢;omega
theorem uj(l:List Int)(j:Nat):eA (l++J0 j (-1))=eA l:=by
 simp only[eA,LL];have:(J0 j (-1:Int)).countP vd=0:=by rw[List.countP_eq_zero];intro a ha;rw[KA ha];decide
 omega
theorem zB(p:PSt)(s:Nat)(r e:Int)(hf:pU p.check s)(hr:0<=r):
  eA (p.take s r e).check=eA p.check+1/\(∀t,t≠s->pU p.check t->pU (p.take s r e).check t)/\
  ((p.check=[]\/0<=nth p.check (p.check.length-1))->(0<=nth (p.take s r e).check ((p.take s r e).check.length-1))):=by
 have a2:(p.check++J0 (s+1-p.check.length) (-1:Int)).length=max p.check.length (s+1):=by simp;omega
 have a0:s<(p.check++J0 (s+1-p.check.length) (-1:Int)).length:=zo;have a1:∀j i,nth (J0 j (-1:Int)) i = -1\/j<=i:=fun j i=>by
  by_cases h:i<j
  ·left;rw[aB (by simpa using h)];simp
  right;omega
 have hs:nth (p.check++J0 (s+1-p.check.length) (-1:Int)) s = -1:=by
  rw[aA]
  split
  ·rename_i h;rcases hf with h2|h2
   ·omega
   exact h2
  rename_i h;exact(a1 _ _).resolve_right zo
 have hc:(p.take s r e).check=(p.check++J0 (s+1-p.check.length) (-1)).set s r:=rfl;refine⟨?_,fun t ht a3=>?_,fun hl=>?_⟩
 ·rw[hc,xP a0 hs hr,uj]
 ·rw[hc]
  rcases a3 with h|h
  ·by_cases h2:(p.check++J0 (s+1-p.check.length) (-1:Int)).length<=t
   ·exact .inl (by simpa using h2)
   refine .inr ?_;rw[aQ a0,if_neg ht,aA,if_neg zo];exact(a1 _ _).resolve_right zo
  by_cases h2:t<p.check.length
  ·refine .inr ?_;rw[aQ a0,if_neg ht,aA,if_pos h2,h]
  by_cases h3:(p.check++J0 (s+1-p.check.length) (-1:Int)).length<=t
  ·exact .inl (by simpa using h3)
  refine .inr ?_;rw[aQ a0,if_neg ht,aA,if_neg zo];exact(a1 _ _).resolve_right zo
 rw[hc,aQ a0,List.length_set,a2]
 split
 ·exact hr
 rename_i hne;have h3:s+1<=p.check.length:=zo;rw[aA,if_pos zo,show max p.check.length (s+1)-1=p.check.length-1 from by omega]
 rcases hl with h|h
 ·rw[h]at h3;simp at h3
 exact h
theorem tn(f:Nat->Int)(b:Nat)(r:Int)(hr:0<=r):∀(a0:List Nat) (p:PSt),a0.Nodup->(∀c∈a0,pU p.check (b+c))->
  let q:=a0.foldl (fun q c=>q.take (b+c) r (f c)) p
  eA q.check=eA p.check+a0.length/\((p.check=[]\/0<=nth p.check (p.check.length-1))->(q.check=[]\/0<=nth q.check (q.check.length-1)))
 |[],p,_,_=>⟨by simp,fun h=>h⟩
 |c::a0,p,hnd,hf=>by
  obtain⟨hc,a1⟩:=M9.1 hnd;obtain⟨h1,h2,h3⟩:=zB p (b+c) r (f c) (hf c (by simp)) hr;obtain⟨g1,g2⟩:=tn f b r hr a0 (p.take (b+c) r (f c)) a1 (fun x hx=>h2 (b+x) (fun e=>hc ((by omega:x=c)▸hx)) (hf x (by simp[hx])));refine⟨?_,fun h=>?_⟩
  ·simp only[Jh,Jq];rw[g1,h1];omega
  simp only[Jh];exact g2 (.inr (h3 h))
theorem mn(a0:List Int)(u:Int):(bF a0 u).Nodup:=MK List.filter_sublist List.nodup_range
theorem CI(p:PSt)(a0:List Int):eA (p.lay a0).check=eA p.check+xu a0 (bH a0)/\
  ((p.check=[]\/0<=nth p.check (p.check.length-1))->((p.lay a0).check=[]\/0<=nth (p.lay a0).check ((p.lay a0).check.length-1))):=by
 have a1:=(gm p.check (bF a0 (bH a0))).1;rw[eD,JJ]at a1;have:=tn (fun c=>nth a0 c) (fQ p.check (bF a0 (bH a0))) p.base.length zo (bF a0 (bH a0)) p (mn _ _) (fun c hc=>A7.1 (a1 c hc));rw[yI]at this;exact this
theorem py(width:Int)(L:List (List Int))(hw:∀r∈L,r.length<=64):
  let q:=lA width L
  q.usual=L.map bH/\q.base.length=L.length/\q.next.length=q.check.length/\q.check.length<=64*L.length/\q.width=width/\eA q.check=lC L q.usual L.length/\(q.check=[]\/0<=nth q.check (q.check.length-1)):=by
 have a1:∀k,k<=L.length->let q:=(L.take k).foldl PSt.lay ⟨width,[],[],[],[]⟩
   q.usual=(L.take k).map bH/\q.base.length=k/\q.next.length=q.check.length/\q.check.length<=64*k/\q.width=width/\eA q.check=lC L ((L.take k).map bH) k/\(q.check=[]\/0<=nth q.check (q.check.length-1)):=by
  intro k
  induction k with
  |zero=>intro _;exact⟨rfl,rfl,rfl,by simp,rfl,rfl,.inl rfl⟩
  |succ k ih=>
   intro hk;obtain⟨h1,h2,h3,h4,h5,h6,h7⟩:=ih zo;generalize hq:(L.take k).foldl PSt.lay ⟨width,[],[],[],[]⟩=q at *;obtain⟨l1,l2,l3,l4,l5⟩:=iD q (nth L k) (hw _ (aI zo)) h3;obtain⟨u1,u2⟩:=CI q (nth L k);rw[aM zo,Jl,hq,K5];simp only[Jh,Lh,Kf,KZ];refine⟨by rw[l2,h1],zo,l5,zo,by rw[l4,h5],?_,u2 h7⟩;rw[u1,h6,sM];have a0:((L.take k).map bH).length=k:=by simp;omega
   congr 1
   ·simp only[lC];congr 1;refine List.map_congr_left fun j hj=>?_
    have:=Js.1 hj;rw[aA,if_pos zo]
   rw[aA,if_neg zo,a0,Km,ay]
 have:=a1 L.length (JG _);rw[Jk]at this;obtain⟨h1,h2,h3,h4,h5,h6,h7⟩:=this;exact⟨h1,h2,h3,h4,h5,by rw[lA,h1];exact h6,h7⟩
abbrev Ent:=Nat×Nat×Int
def gX(A:List Ent):Nat:=A.foldl (fun m x=>max m (x.1+1)) 0
def di(f:Ent->Int)(A:List Ent)(l:List Int):List Int:=A.foldl (fun l x=>l.set x.1 (f x)) l
def kJ(x:Ent):Int:=x.2.1
def IW(x:Ent):Int:=x.2.2
def eO(A:List Ent):List Int:=di kJ A (J0 (gX A) (-1))
def kj(A:List Ent):List Int:=di IW A (J0 (gX A) 0)
theorem pZ(A:List Ent)(x:Ent):gX (A++[x])=max (gX A) (x.1+1):=by simp[gX,Jl]
theorem yy(A:List Ent):∀m,m<=A.foldl (fun m x=>max m (x.1+1)) m:=by
 induction A with
 |nil=>intro m;exact JG m
 |cons y A ih=>intro m;simp only[Jh];have:=ih (max m (y.1+1));omega
theorem eo{A:List Ent}{x:Ent}(h:x∈A):x.1<gX A:=by
 have:∀(A:List Ent) m,x∈A->x.1<A.foldl (fun m x=>max m (x.1+1)) m:=by
  intro A
  induction A with
  |nil=>intro m h;simp at h
  |cons y A ih=>
   intro m h;simp only[Jh]
   rcases J8.1 h with rfl|h
   ·have:=yy A (max m (x.1+1));omega
   exact ih _ h
 exact this A 0 h
theorem lr(f:Ent->Int):∀(A:List Ent) (l:List Int),(di f A l).length=l.length
 |[],_=>rfl
 |x::A,l=>by simp only[di,Jh];exact(lr f A _).trans (by simp)
theorem fO(A:List Ent):(eO A).length=gX A:=by rw[eO,lr];simp
theorem np(A:List Ent):(kj A).length=gX A:=by rw[kj,lr];simp
theorem fZ(f:Ent->Int):∀(A:List Ent) (l r:List Int),(∀x∈A,x.1<l.length)->di f A (l++r)=di f A l++r
 |[],_,_,_=>rfl
 |x::A,l,r,h=>by
  simp only[di,Jh];rw[List.set_append_left _ _ (h x (by simp))];exact fZ f A _ r (fun y hy=>by simpa using h y (by simp[hy]))
theorem mZ(f:Ent->Int)(A:List Ent)(x:Ent)(l:List Int):di f (A++[x]) l=(di f A l).set x.1 (f x):=by simp[di,Jl]
theorem Ac(n s:Nat)(z:Int):J0 (max n (s+1)) z=J0 n z++J0 (s+1-n) z:=by
 rw[List.replicate_append_replicate];congr 1;omega
theorem yK(A:List Ent)(x:Ent):eO (A++[x])=(eO A++J0 (x.1+1-(eO A).length) (-1)).set x.1 x.2.1:=by
 rw[eO,pZ,mZ,Ac,fZ _ _ _ _ (fun y hy=>by simpa using eo hy),fO];rfl
theorem yg(A:List Ent)(x:Ent):kj (A++[x])=(kj A++J0 (x.1+1-(kj A).length) 0).set x.1 x.2.2:=by
 rw[kj,pZ,mZ,Ac,fZ _ _ _ _ (fun y hy=>by simpa using eo hy),np];rfl
theorem zD(p:PSt)(A:List Ent)(x:Ent)(h1:p.check=eO A)(h2:p.next=kj A):(p.take x.1 x.2.1 x.2.2).check=eO (A++[x])/\(p.take x.1 x.2.1 x.2.2).next=kj (A++[x]):=by
 refine⟨?_,?_⟩
 ·rw[yK,<-h1];rfl
 rw[yg,<-h2,h2,np,<-fO,<-h2,<-h1];rfl
def jy(a0:List Int)(u:Int)(b i k:Nat):List Ent:=(fN a0 u k).map fun c=>(b+c,i,nth a0 c)
theorem tp(a1:List Int)(b i:Nat):∀(a0:List Nat) (p:PSt) (A:List Ent),p.check=eO A->p.next=kj A->
  let q:=a0.foldl (fun q c=>q.take (b+c) i (nth a1 c)) p
  q.check=eO (A++a0.map fun c=>(b+c,i,nth a1 c))/\q.next=kj (A++a0.map fun c=>(b+c,i,nth a1 c))
 |[],p,A,h1,h2=>by simpa using⟨h1,h2⟩
 |c::a0,p,A,h1,h2=>by
  obtain⟨g1,g2⟩:=zD p A (b+c,i,nth a1 c) h1 h2;have:=tp a1 b i a0 _ _ g1 g2;simpa using this
theorem xd(p:PSt)(A:List Ent)(a0:List Int)(h1:p.check=eO A)(h2:p.next=kj A):
  let b:=fQ p.check (bF a0 (bH a0))
  (p.lay a0).check=eO (A++jy a0 (bH a0) b p.base.length a0.length)/\(p.lay a0).next=kj (A++jy a0 (bH a0) b p.base.length a0.length):=
 tp a0 _ _ _ p A h1 h2
theorem xe(p:PSt)(a0:List Int):(p.lay a0).base=p.base++[(fQ p.check (bF a0 (bH a0)):Int)]/\(p.lay a0).usual=p.usual++[bH a0]/\(p.lay a0).width=p.width:=by
 have a2:∀(a1:List Nat) (f:Nat->Int) (b:Nat) (r:Int) (p:PSt),let q:=a1.foldl (fun q c=>q.take (b+c) r (f c)) p;q.base=p.base/\q.usual=p.usual/\q.width=p.width:=by
  intro a1 f b r
  induction a1 with
  |nil=>intro p;exact⟨rfl,rfl,rfl⟩
  |cons c a1 ih=>intro p;exact ih (p.take (b+c) r (f c))
 obtain⟨h1,h2,h3⟩:=a2 (bF a0 (bH a0)) (fun c=>nth a0 c) (fQ p.check (bF a0 (bH a0))) p.base.length p;refine⟨?_,?_,h3⟩
 ·simp only[PSt.lay];rw[h1]
 simp only[PSt.lay];rw[h2]
theorem po(A:List Ent)(s:Nat):∀(l:List Int),s<l.length->(∀x∈A,x.1<l.length)->(nth (di kJ A l) s≠-1↔(A.any (fun x=>x.1==s)=true\/nth l s≠-1)):=by
 induction A with
 |nil=>intro l _ _;simp[di]
 |cons x A ih=>
  intro l hs h;have h1:=ih (l.set x.1 (kJ x)) (by simpa using hs) (fun y hy=>by simpa using h y (by simp[hy]));simp only[di,Jh]at h1 ⊢;rw[h1,aQ (h x (by simp)),List.any_cons]
  by_cases e:x.1=s
  ·have:kJ x≠-1:=by unfold kJ;omega
   simp[e,this]
  have e2:¬s=x.1:=fun h=>e h.symm
  simp[e,e2]
theorem zA(A:List Ent)(s:Nat):(A.any fun x=>x.1==s)=(decide (s<(eO A).length)&&nth (eO A) s != -1):=by
 by_cases hs:s<gX A
 ·have h1:=po A s (J0 (gX A) (-1)) (by simpa using hs) (fun y hy=>by simpa using eo hy);have h2:nth (J0 (gX A) (-1:Int)) s = -1:=by rw[aB (by simpa using hs)];simp
  rw[fO];simp only[h2,ne_eq,not_true,or_false]at h1;rw[decide_eq_true hs,Kg]
  cases ha:A.any (fun x=>x.1==s)with
  |true=>have:=h1.2 ha;exact(bne_iff_ne.2 this).symm
  |false=>
   rw[ha]at h1;have:nth (eO A) s = -1:=Lt.1 (fun h=>by cases h1.1 h);rw[this];rfl
 rw[fO,decide_eq_false hs,Mi,Ka];intro x hx h;have:=eo hx;have:x.1=s:=by simpa using h
 omega
theorem yx(A:List Ent)(b c:Nat):oV (eO A) b c = !(A.any fun x=>x.1==b+c):=by rw[zA];rfl
def wOk(a0:Int)(n:Nat):Bool:=decide (1<=a0)&&decide (a0<=64)&&decide ((n:Int)<=1000)
def inR(n:Int):Bool:=decide (0<=n)&&decide (n<=65535)
theorem tU(a0:Int)(a1:List Int):(!il a0 a1)=((a1.length:Int)==a0&&a1.all inR):=by
 simp only[il,bne,Mw,Bool.not_not];rfl
theorem pz(a0:Int)(L:List (List Int)):(!bS a0 L)=(wOk a0 L.length&&L.all (fun r=>!il a0 r)):=by
 simp only[bS,wOk,Mw,List.not_any_eq_all_not];congr 2
 ·congr 1<;>rw[<-decide_not]<;>exact decide_eq_decide.2 zo
 rw[<-decide_not];exact decide_eq_decide.2 zo
theorem qE{a0:Int}{L:List (List Int)}(h:bS a0 L=false):1<=a0/\a0<=64/\L.length<=1000/\(∀r∈L,(r.length:Int)=a0)/\∀r∈L,r.length<=64:=by
 have h2:(!bS a0 L)=true:=by rw[h];rfl
 rw[pz,JK]at h2;simp only[wOk,JK,decide_eq_true_eq]at h2;have h3:∀r∈L,(r.length:Int)=a0:=fun r hr=>by
  have:=JJ.1 h2.2 r hr;rw[tU,JK]at this;simpa using this.1
 exact⟨zo,zo,zo,h3,fun r hr=>by have:=h3 r hr;omega⟩
def cW(p:PSt):Bool:=
 !(decide (p.width<1)||decide (64<p.width)||decide ((1000:Int)<p.usual.length)||((p.base.length:Int) != p.usual.length)) &&
 !((p.check.length:Int) != p.next.length||decide ((65599:Int)<p.check.length)) &&
 (inB 0 65535 p.usual&&inB 0 65535 p.base&&inB 0 65535 p.next&&inB (-1) ((p.usual.length:Int)-1) p.check)
theorem ye(p:PSt)(pv:ix)(w:ln)(hp:PkV w pv p):
  KM Ju 124 [pv] w fun v w'=>v=.bool (cW p)/\Ki w w':=by
 obtain⟨u1,b1,k1,n1,rfl,a4,a7,a5,a6⟩:=hp;have b0:=a4.len_le;refine J1 func124 ntmps124 rfl rfl ?_;refine zg ?_;refine aE (ar w) 1 zo rfl rfl ?_;intro x1 w1 O1 a0 b2 b3 a1;replace a4:=a4.ext a1;replace a7:=a7.ext a1;replace a5:=a5.ext a1;replace a6:=a6.ext a1;refine zg ?_;refine zv (RV.ld (a0.cell 1 rfl) rfl) ?_;refine zvG (Kq a4 J2 rfl) ?_;refine zvG (RV.ld (a0.cell 0 rfl) rfl) ?_;refine bN (fun w1=>_=w1) (decide ((64:Int)<p.width)) 3 (rfl) rfl rfl rfl rfl rfl ?_ ?_
 ·intro h1;refine zg ?_;refine zvG (RV.ld (a0.cell 0 rfl) rfl) ?_;refine dy (tA:=11) 4 (rfl) rfl rfl rfl (fun v hv=>(Jy hv).symm.trans (congrArg Kd h1)) rfl
 rintro _ rfl;refine zg ?_;refine bN (fun w1=>_=w1) (decide ((1000:Int)<p.usual.length)) 2 (rfl) rfl rfl rfl rfl rfl ?_ ?_
 ·intro h2;refine zg ?_;refine dy (tA:=16) 3 (rfl) rfl rfl rfl (fun v hv=>(Jy hv).symm.trans (congrArg Kd h2)) rfl
 rintro _ rfl;refine zg ?_;refine bN (fun w1=>_=w1) ((p.base.length:Int) != p.usual.length) 5 (rfl) rfl rfl rfl rfl rfl ?_ ?_
 ·intro h3;refine zg ?_;refine zv (RV.ld (a0.cell 2 rfl) rfl) ?_;refine gn rfl ?_;refine zvG (Kq a7 J2 rfl) ?_;refine dy (tA:=20) 6 (rfl) rfl rfl rfl (fun v hv=>(Jy hv).symm.trans (congrArg Kd h3)) rfl
 rintro _ rfl;refine zg ?_;refine zC ?_ ?_
 ·intro hg;refine zg ?_;refine ah rfl rfl (⟨by simp only[cW,hg];rfl,a1⟩)
 intro hg;refine zg ?_;refine zv (RV.ld (a0.cell 3 rfl) rfl) ?_;refine zvG (Kq a5 J2 rfl) ?_;refine zv (RV.ld (a0.cell 4 rfl) rfl) ?_;refine zvG (Kq a6 J2 rfl) ?_;refine bN (fun w1=>_=w1) (decide ((65599:Int)<p.check.length)) 4 (rfl) rfl rfl rfl rfl rfl ?_ ?_
 ·intro h4;refine zg ?_;refine zv (RV.ld (a0.cell 3 rfl) rfl) ?_;refine gn rfl ?_;refine zvG (Kq a5 J2 rfl) ?_;refine dy (tA:=35) 5 (rfl) rfl rfl rfl (fun v hv=>(Jy hv).symm.trans (congrArg Kd h4)) rfl
 rintro _ rfl;refine zg ?_;refine zC ?_ ?_
 ·intro a9;refine zg ?_;refine ah rfl rfl (⟨by simp only[cW,a9,Bool.not_true,Bool.and_false,Mi],a1⟩)
 intro a9;refine zg ?_;refine zv (RV.ld (a0.cell 1 rfl) rfl) ?_;refine zc Mj (fp 0 65535 p.usual u1 w1 a4) ?_;rintro v w2 ⟨rfl,a8⟩;refine zg ?_;refine bG (Ki w1) (inB 0 65535 p.base) 3 (a8) rfl rfl rfl rfl rfl ?_ ?_
 ·intro h5;refine zg ?_;refine zvG (RV.ld (a8.cell (a0.cell 2 rfl)) rfl) ?_;refine zc Mj (fp 0 65535 p.base b1 w2 (a7.ext a8)) ?_;rintro v w3 ⟨rfl,a3⟩;refine zg ?_;refine dy (tA:=44) 4 (a8.trans a3) rfl rfl rfl (fun v hv=>(Jy hv).symm.trans (congrArg Kd h5)) rfl
 intro w3 a3;refine zg ?_;refine bG (Ki w1) (inB 0 65535 p.next) 3 (a3) rfl rfl rfl rfl rfl ?_ ?_
 ·intro h6;refine zg ?_;refine zvG (RV.ld (a3.cell (a0.cell 4 rfl)) rfl) ?_;refine zc Mj (fp 0 65535 p.next n1 w3 (a6.ext a3)) ?_;rintro v w4 ⟨rfl,a2⟩;refine zg ?_;refine dy (tA:=49) 4 (a3.trans a2) rfl rfl rfl (fun v hv=>(Jy hv).symm.trans (congrArg Kd h6)) rfl
 intro w4 a2;refine zg ?_;refine bG (Ki w1) (inB (-1) ((p.usual.length:Int)-1) p.check) 5 (a2) rfl rfl rfl rfl rfl ?_ ?_
 ·intro h7;refine zg ?_;refine zvG (RV.ld (a2.cell (a0.cell 3 rfl)) rfl) ?_;refine zvG (RV.sub rfl rfl (KC zo)) ?_;refine zc Mj (fp (-1) ((p.usual.length:Int)-1) p.check k1 w4 (a5.ext a2)) ?_;rintro v w5 ⟨rfl,a'⟩;refine zg ?_;refine dy (tA:=54) 6 (a2.trans a') rfl rfl rfl (fun v hv=>(Jy hv).symm.trans (congrArg Kd h7)) rfl
 intro w5 a';refine zg ?_;refine ah rfl rfl (⟨by simp only[cW,hg,a9,Bool.not_false,Kg],a1.trans a'⟩)
theorem sg(row:List Int):∀(l:List Int) (b:Int),(l.foldl (mA row) b=b)\/l.foldl (mA row) b∈l
 |[],b=>.inl rfl
 |n::l,b=>by
  simp only[Jh]
  rcases sg row l (mA row b n)with h|h
  ·rw[h];unfold mA;split
   ·right;simp
   left;rfl
  right;simp[h]
theorem xO(a0:List Int)(h:0<a0.length):bH a0∈a0:=by
 rcases sg a0 a0 (nth a0 0)with e|e
 ·rw[bH,e];exact aI h
 exact e
theorem lq(f:Ent->Int):∀(A:List Ent) (l:List Int) (n:Int),n∈di f A l->n∈l\/∃x∈A,n=f x
 |[],l,n,h=>.inl h
 |x::A,l,n,h=>by
  rcases lq f A (l.set x.1 (f x)) n h with h|⟨y,hy,he⟩
  ·rcases List.mem_or_eq_of_mem_set h with h|h
   ·exact .inl h
   exact .inr ⟨x,by simp,h⟩
  exact .inr ⟨y,by simp[hy],he⟩
theorem tk{lo hi:Int}{l:List Int}(h:∀n∈l,lo<=n/\n<=hi):inB lo hi l=true:=by
 rw[inB,JJ];intro n hn;have:=h n hn;simp[this]
theorem Am{lo hi:Int}{l:List Int}(h:inB lo hi l=true){n:Int}(hn:n∈l):lo<=n/\n<=hi:=by
 rw[inB,JJ]at h;simpa using h n hn
theorem Aj(a0:Int)(L:List (List Int))(hw:∀r∈L,r.length<=64)(a2:∀r∈L,inB 0 65535 r=true):∀k,k<=L.length->
  let q:=(L.take k).foldl PSt.lay ⟨a0,[],[],[],[]⟩
  ∃A:List Ent,q.check=eO A/\q.next=kj A/\q.base.length=k/\q.check.length<=64*k/\(∀b∈q.base,0<=b/\b<=64*(k:Int))/\∀x∈A,x.2.1<k/\0<=x.2.2/\x.2.2<=65535:=by
 intro k
 induction k with
 |zero=>intro _;exact⟨[],rfl,rfl,rfl,J6 _,by simp,by simp⟩
 |succ k ih=>
  intro hk;obtain⟨A,h1,h2,h3,h4,h5,h6⟩:=ih zo;have hm:=aI (l:=L) (j:=k) zo;have hr:=a2 _ hm;rw[aM zo,Jl];generalize (L.take k).foldl PSt.lay ⟨a0,[],[],[],[]⟩=q at *;simp only[Jh,Lh];generalize nth L k=row at *;obtain⟨e1,e2⟩:=xd q A row h1 h2;obtain⟨l1,l2,l3,l4,l5⟩:=iD q row (hw _ hm) (by rw[h1,h2,np,fO]);obtain⟨m1,m2,m3⟩:=xe q row;have hb:=(gm q.check (bF row (bH row))).2.1;refine⟨_,e1,e2,zo,zo,fun b a1=>?_,fun x hx=>?_⟩
  ·rw[m1]at a1
   rcases J9.1 a1 with h|h
   ·have:=h5 b h;omega
   simp only[ka]at h;subst h;omega
  rcases J9.1 hx with h|h
  ·have:=h6 x h;omega
  simp only[jy,Jm]at h;obtain⟨c,hc,rfl⟩:=h;have:=Am hr (aI (kN hc));exact⟨by dsimp only;omega,this⟩
theorem uD(width:Int)(L:List (List Int))(a1:bS width L=false):cW (lA width L)=true:=by
 obtain⟨a5,a4,hL,a0,a2⟩:=qE a1;have a3:∀r∈L,inB 0 65535 r=true:=fun r hr=>by
  have h2:(!bS width L)=true:=by rw[a1];rfl
  rw[pz,JK]at h2;have:=JJ.1 h2.2 r hr;rw[tU,JK]at this;exact this.2
 obtain⟨A,h1,h2,h3,h4,h5,h6⟩:=Aj width L a2 a3 L.length (JG _);rw[Jk]at h1 h2 h3 h4 h5;obtain⟨s1,s2,s3,s4,s5,_,_⟩:=py width L a2;have hq:L.foldl PSt.lay ⟨width,[],[],[],[]⟩=lA width L:=rfl;rw[hq]at h1 h2 h3 h4 h5;generalize lA width L=q at *;have a6:q.usual.length=L.length:=by rw[s1];simp
 have b1:inB 0 65535 q.usual=true:=tk fun n hn=>by
  rw[s1]at hn;obtain⟨r,hr,rfl⟩:=Jm.1 hn;exact Am (a3 r hr) (xO r (by have:=a0 r hr;omega))
 have b2:inB 0 65535 q.base=true:=tk fun n hn=>by have:=h5 n hn;omega
 have b3:inB 0 65535 q.next=true:=tk fun n hn=>by
  rw[h2]at hn
  rcases lq _ _ _ _ hn with h|⟨x,hx,rfl⟩
  ·have:=KA h;omega
  exact(h6 x hx).2
 have b4:inB (-1) ((q.usual.length:Int)-1) q.check=true:=tk fun n hn=>by
  rw[h1]at hn
  rcases lq _ _ _ _ hn with h|⟨x,hx,rfl⟩
  ·have:=KA h;omega
  have:=(h6 x hx).1;unfold kJ;omega
 simp only[cW,b1,b2,b3,b4,Bool.and_true];have c1:¬q.width<1:=zo;have c2:¬64<q.width:=zo;have c3:¬(1000:Int)<q.usual.length:=zo;have c4:¬(65599:Int)<q.check.length:=zo;have c5:(q.base.length:Int)=q.usual.length:=zo;have c6:(q.check.length:Int)=q.next.length:=zo;simp[c1,c2,c3,c5,c6];omega
def getM(p:PSt)(r c:Nat):Int:=
 let k:=(nth p.base r).toNat+c
 if k<p.check.length/\nth p.check k=r then nth p.next k else nth p.usual r
structure OkP(p:PSt):Prop where
 w1:1<=p.width
 w2:p.width<=64
 rows:p.usual.length<=1000
 bl:p.base.length=p.usual.length
 cl:p.check.length=p.next.length
 c2:p.check.length<=65599
 base:∀r,r<p.base.length->0<=nth p.base r/\nth p.base r<=65535
theorem okP(p:PSt)(h:cW p=true):OkP p:=by
 simp only[cW,JK,Kw,LB,decide_eq_false_iff_not,bne_eq_false_iff_eq]at h;obtain⟨⟨⟨⟨⟨h1,h2⟩,h3⟩,h4⟩,h5,h6⟩,⟨⟨h7,h8⟩,h9⟩,a0⟩:=h;exact⟨zo,zo,zo,zo,zo,zo,fun r hr=>Am h8 (aI hr)⟩
theorem Fy(p:PSt)(ok:OkP p)(u1 b1 k1 n1:ix)(pb r c:Nat)(w:ln)(hu:K0 w u1 p.usual)(hb:K0 w b1 p.base)(hk:K0 w k1 p.check)(hn:K0 w n1 p.next)
  (hc:∀j u,(#[nI p.width,u1,b1,k1,n1]:Array ix)[j]? = some u->w.cell? ⟨pb,j,none⟩=some u) (hr:r<p.base.length) (a3:c<64) :
  KM Ju 125 [nP pb,nI r,nI c] w fun v w'=>v=nI (getM p r c)/\w=w':=by
 obtain⟨o1,o2,o3,o4,o5,o6,o7⟩:=ok;have a1:=o7 r hr;obtain⟨b,a0⟩:=KF a1.1;have hg:getM p r c=if b+c<p.check.length/\nth p.check (b+c)=r then nth p.next (b+c)else nth p.usual r:=by simp only[getM,a0];rfl
 refine J1 func125 ntmps125 rfl rfl ?_;refine zg ?_
 refine zvG (RV.ld (hc 2 _ rfl) rfl) ?_;refine zv (JN hb J2 (JE _) rfl rfl _ rfl zo) ?_
 refine zv (RV.ld (hb.ld hr) rfl) ?_;have a2:nI (nth p.base r)=nI (b:Int):=by rw[a0]
 rw[a2];refine zg ?_;refine zvG (L9 rfl rfl (KC zo)) ?_;refine zv (RV.ld (hc 3 _ rfl) rfl) ?_;refine zvG (Kq hk J2 rfl) ?_
 by_cases h1:b+c<p.check.length
 ·refine az (d:=24) rfl (b':=true) (decide_eq_true zo) ?_;refine zg ?_
  refine zvG (RV.ld (hc 3 _ rfl) rfl) ?_;refine zvG (JN hk J2 (JE _) rfl rfl _ rfl zo) ?_
  refine zvG (RV.ld (hk.ld h1) rfl) ?_;refine zC ?_ ?_
  ·intro he;replace he:nth p.check (b+c)=r:=by simpa using he
   rw[if_pos ⟨h1,he⟩]at hg;refine zg ?_;refine zvG (RV.ld (hc 4 _ rfl) rfl) ?_;refine zv (JN hn J2 (JE _) rfl rfl (b+c) rfl zo) ?_;refine zvG (RV.ld (hn.ld (i:=b+c) zo) rfl) ?_;refine ah rfl rfl (⟨by rw[hg],rfl⟩)
  intro he;replace he:¬nth p.check (b+c)=r:=by simpa using he
  rw[if_neg (fun h=>he h.2)]at hg;refine zg ?_;refine zvG (RV.ld (hc 1 _ rfl) rfl) ?_;refine zv (JN hu J2 (JE _) rfl rfl _ rfl zo) ?_;refine zvG (RV.ld (hu.ld (i:=r) zo) rfl) ?_;refine ah rfl rfl (⟨by rw[hg],rfl⟩)
 rw[if_neg (fun h=>h1 h.1)]at hg;refine az (d:=24) rfl (b':=false) (decide_eq_false zo) ?_;refine zg ?_;refine zFG rfl rfl ?_;refine zvG (RV.ld (hc 1 _ rfl) rfl) ?_;refine zv (JN hu J2 (JE _) rfl rfl _ rfl zo) ?_;refine zvG (RV.ld (hu.ld (i:=r) zo) rfl) ?_;refine ah rfl rfl (⟨by rw[hg],rfl⟩)
def B1(p:PSt)(r:Nat):List Int:=(Jw p.width.toNat).map (getM p r)
def ga(p:PSt):List (List Int):=(Jw p.usual.length).map (B1 p)
def fE(p:PSt)(r c:Nat):List Int:=(Jw c).map (getM p r)++J0 (p.width.toNat-c) 0
theorem zW(p:PSt)(r c:Nat)(h:c<p.width.toNat):(fE p r c).set c (getM p r c)=fE p r (c+1):=by
 simp only[fE];rw[Ly _ _ (by simp),Lb,K5];obtain⟨d,hd⟩:∃d,p.width.toNat-c=d+1:=⟨p.width.toNat-c-1,zo⟩
 rw[hd,show p.width.toNat-(c+1)=d from by omega];simp[List.replicate_succ]
theorem sD(p:PSt)(r c:Nat)(h:c<=p.width.toNat):(fE p r c).length=p.width.toNat:=by simp[fE];omega
theorem zX(p:PSt)(r:Nat):fE p r p.width.toNat=B1 p r:=by simp[fE,B1]
theorem gg(f:Nat->List Int)(n i:Nat)(h:i<n):nth ((Jw n).map f) i=f i:=by
 rw[aB (by simpa using h)];simp
theorem ID:MH Ju 70 22 1 24:=⟨LO,by kernel_rfl,zd⟩
theorem sK(p:PSt)(pv:ix)(w:ln)(hp:PkV w pv p):
  KM Ju 85 [pv] w fun v w'=>∃rv,v=.tuple #[rv,.bool (cW p)]/\(if cW p then Rows w' rv (ga p)else rv=nS)/\Ki w w':=by
 have d2:=hp;obtain⟨u1,b1,k1,n1,rfl,hu,hb,hk,hn⟩:=hp;refine J1 func85 ntmps85 rfl rfl ?_;refine zg ?_;refine aE (ar w) 1 zo rfl rfl ?_;intro x1 w1 O1 c5 e2 e5 d0;refine zg ?_;refine zv (af c5.cellsAdd (KQ _) (JH _) rfl) ?_;refine zc call124 (ye p _ w1 (d2.ext d0)) ?_;rintro v w2 ⟨rfl,c'⟩;have hE:=d0.trans c';have hc:∀w',Ki w2 w'->∀j u,(#[nI p.width,u1,b1,k1,n1]:Array ix)[j]? = some u->w'.cell? ⟨x1,j,none⟩=some u:=fun w' e j u hu=>e.cell (c'.cell (c5.cell j hu))
 replace hu:=hu.ext hE;replace hb:=hb.ext hE;replace hk:=hk.ext hE;replace hn:=hn.ext hE;refine zg ?_;refine zC ?_ ?_
 ·intro hg;replace hg:cW p=false:=by simpa using hg
  refine zg ?_;refine bx rfl rfl rfl (⟨_,by rw[hg],by rw[hg];rfl,hE⟩)
 intro hg;replace hg:cW p=true:=by simpa using hg
 have ok:=okP p hg;obtain⟨o1,o2,o3,o4,o5,o6,o7⟩:=ok;have ok:=okP p hg;obtain⟨n,c6⟩:∃n:Nat,p.width=n:=KF zo;have a':p.width.toNat=n:=by omega
 refine zg ?_;refine zv (RV.ld (hc _ (J7 _) 1 _ rfl) rfl) ?_
 refine zvG (Kq (by first|exact hu) J2 rfl) ?_;refine zlp (fun x:Nat×(Nat->Nat)×World×ix×List ix=>[(1,nP x1),(4,x.2.2.2.1),(13,nI p.usual.length),(14,nI x.1)]) (fun x=>x.2.2.1) (fun x=>x.1<=p.usual.length/\LF (fun v=>[v]) 22 1 x.2.1 x.2.2.1 16 x.2.2.2.1 x.2.2.2.2/\x.2.2.2.2.length=x.1/\(∀i,i<x.1->K0 x.2.2.1 (nth x.2.2.2.2 i) (B1 p i)/\Mb x.2.1 x.2.2.1 (nth x.2.2.2.2 i))/\Jr (fun j=>j=16) (fun _=>0) w2 x.2.1 x.2.2.1) (fun x=>p.usual.length-x.1) (0,(fun _=>0),w2,nS,[]) (⟨J6 _,JM _ _ _ _ _ _,rfl,fun i hi=>absurd hi (JF i),L0 zd _ _⟩) ?_
 rintro⟨k,O3,w3,ov,vs⟩ ⟨d7,b3,a9,a0,b2⟩;dsimp only at d7 b3 a9 a0 b2 ⊢;have b9:=b2.ext;have c9:=(ar w2).upd b2;refine zg ?_;refine zC ?_ ?_
 ·intro b4;replace b4:k<p.usual.length:=by have:=of_decide_eq_true b4;omega
  refine zg ?_;refine zv (RV.ld (hc _ b9 0 _ rfl) rfl) ?_
  refine dd tH (val:=fun n:Int=>nI n) (0:Int) zk (fun _=>rfl) (ar w3) 15 zd n rfl rfl c6 c6 zo zo rfl ?_;intro w4 O4 lv d5 d6 e0 e4 e6;have a4:mJ O4 w4 15 lv (fE p k 0):=by simpa[fE,a']using d6
  have b6:=a4.sl;have a2:(fE p k 0).length=n:=by rw[sD _ _ _ (J6 _),a']
  refine zg ?_;refine zvG (Kq (by first|exact b6) J2 rfl) ?_
  have b':nI ((fE p k 0).length:Int)=nI (n:Int):=by rw[a2]
  rw[b'];refine zlp (fun y:Nat×ln=>[(1,nP x1),(4,ov),(5,nI k),(6,lv),(13,nI p.usual.length),(14,nI k),(21,nI n),(22,nI y.1)]) (fun y=>y.2) (fun y=>y.1<=n/\mJ O4 y.2 15 lv (fE p k y.1)/\Jr (fun j=>j=15) (fun _=>0) w3 O4 y.2) (fun y=>n-y.1) (0,w4) (⟨J6 _,a4,e0⟩) ?_;rintro⟨c,w5⟩ ⟨d9,a3,a6⟩;dsimp only at d9 a3 a6 ⊢;have a7:=b9.trans a6.ext;have b5:=a3.sl;have c7:(fE p k c).length=n:=by rw[sD _ _ _ zo,a']
  refine zg ?_;refine zC ?_ ?_
  ·intro a1;replace a1:c<n:=by have:=of_decide_eq_true a1;omega
   refine zg ?_;refine zc call125 (Fy p ok u1 b1 k1 n1 x1 k c w5 (hu.ext a7) (hb.ext a7) (hk.ext a7) (hn.ext a7) (hc _ a7) zo zo) ?_
   rintro v _ ⟨rfl,rfl⟩;refine zv (JN (by first|exact b5) J2 (JE _) rfl rfl _ rfl zo) ?_;refine LZ a3 c zo (getM p k c) (JE _) rfl zo rfl rfl rfl rfl ?_;intro w6 b0 d';rw[zW _ _ _ zo]at b0;refine zg ?_;refine zvG (L9 rfl rfl (KC zo)) ?_;refine zxd (c+1,w6) (⟨a1,b0,a6.trans d'⟩)
  intro b7;obtain rfl:c=n:=by have:=of_decide_eq_false b7;omega
  have b0:K0 w5 lv (B1 p k):=by have:=a3.sl;rw[<-a',zX]at this;exact this
  have c8:Mb O3 w5 lv:=a3.free zd ((ar w3).upd a6) c9;have a8:=a6.ext;have b8:Jr (fun _=>False) O3 w3 O3 w5:=aa (fun h=>h) O3 a8;have d4:=b3.upd b8 zd (fun h=>h);have e1:=c9.ext a8;subst d5;refine zg ?_;refine KK ID d4 e1 ((Mn (some ⟨w3.heap.size,0,none⟩) c c)) (fun _=>rfl) rfl rfl rfl (by simp[Jn]) zo zo zo zd rfl rfl ?_;intro d1 w7 O7 d3 a5 e3;refine zg ?_;refine zvG (L9 rfl rfl (KC zo)) ?_;refine zxd (k+1,O7,w7,d1,vs++[Mn (some ⟨w3.heap.size,0,none⟩) c c]) (⟨b4,d3,by simp[a9],?_,(b2.trans (aa zd O3 a8)).trans a5⟩);intro i hi;dsimp only at hi ⊢;rw[aA,a9]
  split
  ·rename_i h;obtain⟨g1,g2⟩:=a0 i h;exact⟨(g1.ext a8).upd (g2.upd b8) a5,(g2.upd b8).upd a5⟩
  rename_i h;obtain rfl:i=k:=by omega
  rw[Km,ay];exact⟨b0.upd c8 a5,c8.upd a5⟩
 intro d8;obtain rfl:k=p.usual.length:=by have:=of_decide_eq_false d8;omega
 refine zg ?_;refine bx rfl rfl rfl (⟨_,by rw[hg],by rw[hg,if_pos rfl];exact⟨vs,b3.sl,by simp[a9,ga],fun i hi=>by simp only[ga,JO,List.length_range]at hi;rw[ga,gg _ _ _ hi];exact(a0 i hi).1⟩,hE.trans b9⟩)
theorem ph(f:Ent->Int)(s:Nat):∀(A:List Ent) (l:List Int),(∀x∈A,x.1<l.length)->(∀x∈A,x.1≠s)->nth (di f A l) s=nth l s
 |[],_,_,_=>rfl
 |x::A,l,h,hs=>by
  have:=ph f s A (l.set x.1 (f x)) (fun y hy=>by simpa using h y (by simp[hy])) (fun y hy=>hs y (by simp[hy]));simp only[di,Jh]at this ⊢;rw[this,aQ (h x (by simp)),if_neg (fun e=>hs x (by simp) e.symm)]
theorem jV(f:Ent->Int):∀(A:List Ent) (l:List Int),(A.map (·.1)).Nodup->(∀x∈A,x.1<l.length)->∀x∈A,nth (di f A l) x.1=f x
 |[],_,_,_,x,hx=>by simp at hx
 |y::A,l,hn,h,x,hx=>by
  simp only[Kf,M9,Jm]at hn;have hl:∀z∈A,z.1<(l.set y.1 (f y)).length:=fun z hz=>by simpa using h z (by simp[hz])
  rcases J8.1 hx with rfl|hx
  ·have:=ph f x.1 A (l.set x.1 (f x)) hl (fun z hz e=>hn.1 ⟨z,hz,e⟩);simp only[di,Jh]at this ⊢;rw[this,aQ (h x (by simp)),if_pos rfl]
  have:=jV f A (l.set y.1 (f y)) hn.2 hl x hx;simpa only[di,Jh]using this
theorem Bv{A:List Ent}(hn:(A.map (·.1)).Nodup){s r:Nat}(h:nth (eO A) s=r)(hs:s<gX A):∃x∈A,x.1=s/\x.2.1=r:=by
 have h1:=po A s (J0 (gX A) (-1)) (by simpa using hs) (fun y hy=>by simpa using eo hy);have h2:nth (J0 (gX A) (-1:Int)) s = -1:=by rw[aB (by simpa using hs)];simp
 rw[h2]at h1;have h3:=h1.1 (by rw[eO]at h;rw[h];omega);simp only[ne_eq,not_true,or_false,M5]at h3;obtain⟨x,hx,he⟩:=h3;have he:x.1=s:=by simpa using he
 refine⟨x,hx,he,?_⟩;have h4:=jV kJ A (J0 (gX A) (-1)) hn (fun y hy=>by simpa using eo hy) x hx;rw[he]at h4;rw[eO,h4]at h;unfold kJ at h;omega
structure BInv(width:Int)(L:List (List Int))(k:Nat)(A:List Ent)(q:PSt):Prop where
 chk:q.check=eO A
 nxt:q.next=kj A
 bl:q.base.length=k
 b0:∀b∈q.base,0<=b
 us:q.usual=(L.take k).map bH
 nd:(A.map (·.1)).Nodup
 mem:∀x:Ent,x∈A↔x.2.1<k/\∃c,c<(nth L x.2.1).length/\nth (nth L x.2.1) c≠bH (nth L x.2.1)/\x.1=(nth q.base x.2.1).toNat+c/\x.2.2=nth (nth L x.2.1) c
theorem pD{a0:List Int}{u:Int}{c:Nat}:c∈bF a0 u↔c<a0.length/\nth a0 c≠u:=by simp[bF,fN]
theorem Jf(a0:Int)(L:List (List Int)):∀k,k<=L.length->∃A,BInv a0 L k A ((L.take k).foldl PSt.lay ⟨a0,[],[],[],[]⟩):=by
 intro k
 induction k with
 |zero=>intro _;exact⟨[],⟨rfl,rfl,rfl,by simp,rfl,by simp,fun x=>by simp⟩⟩
 |succ k ih=>
  intro hk;obtain⟨A,h⟩:=ih zo;rw[aM zo,Jl];generalize (L.take k).foldl PSt.lay ⟨a0,[],[],[],[]⟩=q at *;simp only[Jh,Lh];obtain⟨e1,e2⟩:=xd q A (nth L k) h.chk h.nxt;obtain⟨m1,m2,m3⟩:=xe q (nth L k);have a3:=(gm q.check (bF (nth L k) (bH (nth L k)))).1;rw[eD,JJ,h.chk]at a3;rw[h.chk]at e1 e2 m1;generalize hb:fQ (eO A) (bF (nth L k) (bH (nth L k)))=b at *;rw[h.bl]at e1 e2;have a1:∀r,r<k->nth (q.base++[(b:Int)]) r=nth q.base r:=fun r hr=>by rw[aA,if_pos (by rw[h.bl];exact hr)]
  have a4:nth (q.base++[(b:Int)]) k=b:=by rw[aA,h.bl,if_neg (Nat.lt_irrefl _),Km,ay]
  refine⟨_,⟨e1,e2,by rw[m1];simp[h.bl],fun n hn=>?_,by rw[m2,h.us,aM zo];simp,?_,fun x=>?_⟩⟩
  ·rw[m1]at hn
   rcases J9.1 hn with h1|h1
   ·exact h.b0 n h1
   simp only[ka]at h1;subst h1;omega
  ·rw[K5,LW];refine⟨h.nd,?_,fun s hs s' a2 e=>?_⟩
   ·simp only[jy,Ms];rw[Le,LV];exact(mn (nth L k) (bH (nth L k))).imp (fun {a c} a6 e=>a6 (by simpa using e))
   subst e;simp only[jy,Ms,Jm,MT]at a2;obtain⟨c,hc,rfl⟩:=a2;obtain⟨y,hy,a5⟩:=Jm.1 hs;have h2:=a3 c hc;rw[yx,Kw]at h2;have h3:=Ka.1 h2 y hy;exact h3 (by simp[a5])
  rw[J9,h.mem,m1]
  constructor
  ·rintro(⟨h1,c,h2,h3,h4,h5⟩|h1)
   ·exact⟨zo,c,h2,h3,by rw[a1 _ h1];exact h4,h5⟩
   simp only[jy,Jm]at h1;obtain⟨c,hc,rfl⟩:=h1;obtain⟨c1,c2⟩:=pD.1 hc;exact⟨by dsimp only;omega,c,c1,c2,by dsimp only;rw[a4];simp,rfl⟩
  rintro⟨h1,c,h2,h3,h4,h5⟩
  by_cases hr:x.2.1<k
  ·exact .inl ⟨hr,c,h2,h3,by rw[a1 _ hr]at h4;exact h4,h5⟩
  obtain⟨x1,x2,x3⟩:=x;dsimp only at h1 h2 h3 h4 h5 hr;obtain rfl:x2=k:=zo;right;rw[a4]at h4;simp only[jy,Jm];exact⟨c,pD.2 ⟨h2,h3⟩,by rw[h4,h5];simp⟩
theorem A5(a0:Int)(L:List (List Int))(r c:Nat)(hr:r<L.length)(hc:c<(nth L r).length):getM (lA a0 L) r c=nth (nth L r) c:=by
 obtain⟨A,h⟩:=Jf a0 L L.length (JG _);rw[Jk]at h;have hq:L.foldl PSt.lay ⟨a0,[],[],[],[]⟩=lA a0 L:=rfl;rw[hq]at h;generalize lA a0 L=q at *;have a1:nth q.usual r=bH (nth L r):=by rw[h.us,Jk,eE hr]
 unfold getM;rw[h.chk,h.nxt,fO,a1]
 by_cases hu:nth (nth L r) c=bH (nth L r)
 ·rw[if_neg,hu];rintro⟨h1,h2⟩;obtain⟨x,hx,e1,e2⟩:=Bv h.nd h2 h1;obtain⟨g1,c',g2,g3,g4,g5⟩:=(h.mem x).1 hx;rw[e2]at g2 g3 g4;have:c'=c:=zo;subst this;exact g3 hu
 have hx:(((nth q.base r).toNat+c,r,nth (nth L r) c):Ent)∈A:=(h.mem _).2 ⟨by simpa using hr,c,hc,hu,rfl,rfl⟩;have h1:=eo hx;have h2:=jV kJ A (J0 (gX A) (-1)) h.nd (fun y hy=>by simpa using eo hy) _ hx;have h3:=jV IW A (J0 (gX A) 0) h.nd (fun y hy=>by simpa using eo hy) _ hx;dsimp only at h1;rw[if_pos ⟨h1,h2⟩];exact h3
theorem _root_.Go.VL.BlkO.ext{O:Nat->Nat}{w w':ln}{i b:Nat}{cs:Array ix}{E:Ke}(h:KS O w i b cs E)(e:Ki w w'):KS O w' i b cs E:=⟨by rw[e.block b (bq h.blk)];exact h.blk,h.tag⟩
theorem RowsG.upd{S:Nat->Prop}{B:Nat}{O O':Nat->Nat}{w0 w w':ln}{v:ix}{rows:List (List Nat)}(h:ME w0.heap.size w v rows)(r:KW B O w0)(u:Jr S O w O' w'):ME w0.heap.size w' v rows:=by
 obtain⟨vs,h1,h2,h3,h4⟩:=h;exact⟨vs,h1.upd (h2.free h1 (fun x _=>by simp) r) u,h2,h3,fun i hi=>⟨(h4 i hi).1.upd ((h4 i hi).2.free (h4 i hi).1 (fun x _=>by simp) r) u,(h4 i hi).2⟩⟩
theorem _root_.Go.VL.NewV.slU{S:Nat->Prop}{B:Nat}{O O':Nat->Nat}{w0 w w':ln}{v:ix}{l:List Nat}(h:L7 w0.heap.size v)(hs:Sl fK 1 w v l)(r:KW B O w0)(u:Jr S O w O' w'):Sl fK 1 w' v l:=hs.upd (h.free hs (fun x _=>by simp) r) u
def cV(l:List Int):Nat:=l.foldl (fun b c=>b ||| 2^c.toNat) 0
theorem mY{l:List Int}(h:∀c∈l,0<=c/\c<=35):cV l<2^36:=by
 have a0:∀(l:List Int) (b:Nat),(∀c∈l,0<=c/\c<=35)->b<2^36->l.foldl (fun b c=>b ||| 2^c.toNat) b<2^36:=fun l=>by
  induction l with
  |nil=>exact fun b _ hb=>hb
  |cons c l ih=>exact fun b h hb=>ih _ (fun x hx=>h x (by simp[hx])) (JU hb (JZ zd (by have:=h c (by simp);omega)))
 exact a0 l 0 h zd
theorem zM{l:List Int}{i:Nat}(h:i<l.length):cV (l.take (i+1))=cV (l.take i) ||| 2^(nth l i).toNat:=by
 unfold cV;rw[aM h,Jl];rfl
theorem mX(l:List Int)(sv:ix)(w:ln)(h:Sl encI 1 w sv l)(hr:∀c∈l,0<=c/\c<=35):KM Ju 17 [sv] w fun v w'=>v=.int .u64 ((cV l:Nat):Int)/\w'=w:=by
 have hl:=h.len_le;have a1:Mf.max=18446744073709551615:=rfl;refine J1 func17 ntmps17 rfl rfl ?_;refine zh ?_;refine zlp (fun z:Nat=>[(3,.int .u64 ((cV (l.take z):Nat):Int)),(6,sv),(7,nI l.length),(8,nI z)]) (fun z=>w) (fun z=>z<=l.length) (fun z=>l.length-z) 0 (J6 _) ?_;intro i hi;refine zh ?_;refine zC ?_ ?_
 ·intro a0;replace a0:i<l.length:=dT a0;have hc:=hr _ (aI a0);have m1:w.cell? (adr sv 1 i)=some (nI (nth l i)):=by have:=h.cell (i:=i) (j:=0) a0 rfl;rwa[ax]at this
  obtain⟨c,a3⟩:∃c:Nat,nth l i=(c:Int):=⟨(nth l i).toNat,zo⟩
  have hs:=zM a0;rw[a3]at m1 hs;simp only[KB]at hs;have a7:cV (l.take i)<2^36:=mY fun x hx=>hr x (List.mem_of_mem_take hx)
  have a6:2^c<=2^35:=KR zd zo;have a5:(2^35:Nat)=34359738368:=zd;have a4:(2^36:Nat)=68719476736:=zd;refine zh ?_;refine zv (rL (a:=1) (b:=c) rfl rfl rfl rfl (by show _<=64;omega) (by show _<=(18446744073709551615:Int);omega)) ?_;rw[La];refine zvH (oo (a:=cV (l.take i)) (b:=2^c) rfl rfl rfl rfl (by show _<=(18446744073709551615:Int);omega) (by show _<=(18446744073709551615:Int);omega)) ?_;rw[<-hs];refine zxd (i+1) (a0)
 intro a2;obtain rfl:i=l.length:=dF a2;rw[Jk];refine zh ?_;refine ah rfl rfl (⟨rfl,rfl⟩)
def stM(se:Bool)(ts:List Nd):Option (List (List Nat)×List Nat):=if dB ts=0 then Dv (cS se (rT ts)) (dP (rT ts))else none
def Cls(cl:Nat->Nat)(d:List (List Nat)×List Nat):Prop:=∀p q,p<d.1.length->q<d.1.length->(cl p=cl q↔Alike (nxD d.1) (nth d.2) p q)
def PostSt(B:Nat)(w:ln)(v:ix):Option (List (List Nat)×List Nat)->Prop
 |some d=>∃cl nv tv,v=.tuple #[.agg #[nv,tv],nI 0]/\nv.oneCell'=true/\tv.oneCell'=true/\JY d.1 d.2/\Cls cl d/\ME B w nv (cI cl d.1 d.2).1/\Sl fK 1 w tv (cI cl d.1 d.2).2/\L7 B tv
 |none=>∃e:Int,e≠0/\v=.tuple #[.agg #[nS,nS],nI e]
theorem As{ts:List Nd}(h:dB ts=0):ts.length<=40/\(∀t∈ts,bO t=true)/\1+aT ts<=1000:=by
 unfold dB at h
 split at h
 ·cases h
 split at h
 ·cases h
 rename_i h1 h2
 split at h
 ·cases h
 rename_i h3;refine⟨zo,fun t ht=>?_,zo⟩;have:ts.any (fun t=>!bO t)=false:=by simpa using h2
 have:=Ka.1 this t ht;simpa using this
set_option maxHeartbeats 1000000 in
theorem pg(se:Bool)(ts:List Nd)(xs:List N3)(sv:ix)(w:ln)(hs:Sl aV 3 w sv xs)(hl:ts.length=xs.length)(hk:∀i,i<xs.length->Nt (fun _=>0) w (nth ts i) (nth xs i)):
  KM Ju 18 [.bool se,sv] w fun v w'=>Ki w w'/\PostSt w.heap.size w' v (stM se ts):=by
 refine J1 func18 ntmps18 rfl rfl ?_;refine zh ?_
 refine aw (ar w) 1 zo (Kc _) rfl ?_;intro cb w1 O1 c6 e2 e5 d4;refine zh ?_
 refine zc call35 (Fj se ts xs sv w1 (hs.ext d4) hl (fun i hi=>(hk i hi).ext d4)) ?_;rintro _ w2 ⟨nb,rfl,e',e6⟩;have c8:Jr (fun _=>False) O1 w1 O1 w2:=aa (fun h=>h) O1 e';have a2:=c6.upd c8 zd (fun h=>h);have e4:=e5.upd c8;have b2:=e2.trans (c8.mono (fun _ h=>h.elim) zd);refine zh ?_
 by_cases he:dB ts=0
 ·have hD:=e6 he;obtain⟨f5,a4,f4⟩:=As he;obtain⟨a',a3⟩:=jz a4;obtain⟨d5,h0⟩:=Fi ts;have d9:=pC a' a3;have d':∀q,(rT ts).en q<=40:=fun q=>by have:=Aq ts q;omega
  have b6:stM se ts=Dv (cS se (rT ts)) (dP (rT ts)):=by unfold stM;rw[if_pos he]
  have d8:Ar nb (dB ts)=nP nb:=by unfold Ar;rw[if_pos he]
  rw[d8,he,b6];refine zFH rfl rfl ?_;have hC:=Br nb se (rT ts) w2 hD d5 h0 (Fh ts) zo d';generalize hd:Dv (cS se (rT ts)) (dP (rT ts))=D at hC b6 ⊢;refine zc call36 (hC) ?_;rintro v w3 ⟨e9,hP⟩;have c7:Jr (fun _=>False) O1 w2 O1 w3:=aa (fun h=>h) O1 e9;have b1:=a2.upd c7 zd (fun h=>h);have d3:=e4.upd c7;have a8:=b2.trans (c7.mono (fun _ h=>h.elim) zd)
  cases D with
  |none=>
   obtain rfl:=hP;refine zh ?_;refine aw d3 2 zo (Kc _) rfl ?_;intro db w4 O4 a0 b8 e3 e8;refine zsa (us:=#[nS,nS]) a0 (JB _) ?_;have b7:Jr (fun j=>j=2) O4 w4 O4 (w4.setRow db #[nS,nS]):=J5 zd a0.tag rfl;have a6:=(b1.upd b8 zd zd).upd b7 zd zd;have c':=(a8.mono (S':=fun q=>q=1\/q=2) (fun _ h=>.inl h) zd).trans ((b8.trans b7).mono (fun _ h=>.inr h) zd);generalize w4.setRow db #[nS,nS]=w5 at *;refine zh ?_;refine zTH rfl rfl ?_;refine zvH (aF FS (Kc _) rfl (by first|rfl|(simp only[J3,JA];rfl)) rfl rfl) ?_;refine zsa (us:=#[nS,nS]) a6 (JB _) ?_;have b0:=a6.setRow (us:=#[nS,nS]);have a7:Jr (fun j=>j=1) O4 w5 O4 (w5.setRow cb #[nS,nS]):=J5 zd a6.tag rfl;refine zh ?_;refine bp rfl rfl rfl (b0.cellsAdd) (KG _) (JB _) (⟨(c'.trans (a7.mono (fun _ h=>.inl h) zd)).ext,7,zd,rfl⟩)
  |some d=>
   obtain⟨nv,tv,rfl,o1,o2,d7,d6⟩:=hP;obtain⟨S,f3⟩:=tK hd;have d1:=f3.right;refine zh ?_;refine aw (ar w3) 2 zo (Kc _) rfl ?_;intro db w4 O4 a0 b8 e3 e8;refine zsb (us:=#[nv,tv]) a0 (JB _) (by simp only[J3,o1,o2];rfl) ?_;have c5:=a0.setRow (us:=#[nv,tv]);have b7:Jr (fun j=>j=2) O4 w4 O4 (w4.setRow db #[nv,tv]):=J5 zd a0.tag rfl;have a1:Ki w3 (w4.setRow db #[nv,tv]):=(b8.trans b7).ext;generalize w4.setRow db #[nv,tv]=w5 at *;refine zh ?_;refine zFH rfl rfl ?_;refine zv (af (us:=[nv,tv]) c5.cellsAdd (KG _) (JB _) rfl) ?_;refine zc call37 (uW nv tv d.1 d.2 w5 (d7.ext a1) (d6.ext a1) d1) ?_;rintro _ w6 ⟨cl,b5,b4,rfl,p1,p2,e7,e0,b',b9,a9⟩;have b3:=a1.trans e7;have a5:=b1.ext b3;have e1:Jr (fun q=>q=1) O1 w3 O1 w6:=aa zd O1 b3;have c9:=a8.trans e1;have d2:=d3.ext a1;refine zsb (us:=#[b5,b4]) a5 (JB _) (by simp only[J3,p1,p2];rfl) ?_;have b0:=a5.setRow (us:=#[b5,b4]);have a7:Jr (fun j=>j=1) O1 w6 O1 (w6.setRow cb #[b5,b4]):=J5 zd a5.tag rfl;have d0:w.heap.size<=w5.heap.size:=KJ a8.size a1.size;refine zh ?_;refine bp rfl rfl rfl (b0.cellsAdd) (KG _) (JB _) (⟨(c9.trans a7).ext,cl,b5,b4,rfl,p1,p2,d1,e0,(b'.upd d2 a7).mono d0,a9.slU b9 d2 a7,a9.mono d0⟩)
 have b6:stM se ts=none:=by unfold stM;rw[if_neg he]
 rw[b6];refine zTH rfl ((by simpa using he)) ?_;refine zvH (aF FS (Kc _) rfl (by first|rfl|(simp only[J3,JA];rfl)) rfl rfl) ?_;refine zsa (us:=#[nS,nS]) a2 (JB _) ?_;have b0:=a2.setRow (us:=#[nS,nS]);have a7:Jr (fun j=>j=1) O1 w2 O1 (w2.setRow cb #[nS,nS]):=J5 zd a2.tag rfl;refine zh ?_;refine bp rfl rfl rfl (b0.cellsAdd) (KG _) (JB _) (⟨(b2.trans a7).ext,dB ts,he,rfl⟩)
theorem Jb:ck Ju 33 #[(0,5),(5,1)]:=⟨_,underlying33,fun w=>by kernel_rfl⟩
def PartV(w:ln)(cs:List ix)(p:PSt)(tl:List Nat):Prop:=
 ∃uv bv kv nv tv,cs=[nI p.width,uv,bv,kv,nv,tv]/\K0 w uv p.usual/\K0 w bv p.base/\K0 w kv p.check/\K0 w nv p.next/\Sl fK 1 w tv tl
theorem PartV.ext{w w':ln}{cs:List ix}{p:PSt}{tl:List Nat}(h:PartV w cs p tl)(e:Ki w w'):PartV w' cs p tl:=by
 obtain⟨uv,bv,kv,nv,tv,h0,h1,h2,h3,h4,h5⟩:=h;exact⟨uv,bv,kv,nv,tv,h0,h1.ext e,h2.ext e,h3.ext e,h4.ext e,h5.ext e⟩
def FQ(B:Nat)(cs:List ix):Prop:=∀v∈cs,L7 B v
theorem _root_.Go.VL.NewV.slI{S:Nat->Prop}{B:Nat}{O O':Nat->Nat}{w0 w w':ln}{v:ix}{l:List Int}(h:L7 w0.heap.size v)(hs:K0 w v l)(r:KW B O w0)(u:Jr S O w O' w'):K0 w' v l:=hs.upd (h.free hs (fun x _=>by simp) r) u
theorem PartV.upd{S:Nat->Prop}{B:Nat}{O O':Nat->Nat}{w0 w w':ln}{cs:List ix}{p:PSt}{tl:List Nat}(h:PartV w cs p tl)(n:FQ w0.heap.size cs)(r:KW B O w0)(u:Jr S O w O' w'):PartV w' cs p tl:=by
 obtain⟨uv,bv,kv,nv,tv,rfl,h1,h2,h3,h4,h5⟩:=h;exact⟨uv,bv,kv,nv,tv,rfl,(n uv (by simp)).slI h1 r u,(n bv (by simp)).slI h2 r u,(n kv (by simp)).slI h3 r u,(n nv (by simp)).slI h4 r u,(n tv (by simp)).slU h5 r u⟩
theorem PartV.one{w:ln}{cs:List ix}{p:PSt}{tl:List Nat}(h:PartV w cs p tl):cs.length=6/\∀v∈cs,v.oneCell'=true:=by
 obtain⟨uv,bv,kv,nv,tv,rfl,h1,h2,h3,h4,h5⟩:=h;refine⟨rfl,fun v hv=>?_⟩;simp only[J8,Jp,or_false]at hv
 rcases hv with rfl|rfl|rfl|rfl|rfl|rfl
 ·rfl
 ·exact h1.one
 ·exact h2.one
 ·exact h3.one
 ·exact h4.one
 exact h5.one
theorem RowsN.pack{w:ln}{v:ix}{rows:List (List Nat)}(h:RowsN w v rows):Rows w v (rows.map ints):=by
 obtain⟨vs,h1,h2,h3⟩:=h
 exact⟨vs,h1,by rw[JO];exact h2,fun i hi=>by
  rw[JO]at hi
  rw[eE hi];exact(h3 i hi).natIv⟩
def kd(g:List Nat)(many:Nat)(rows:List (List Nat)):List (List Int):=(rows.map (oL g many)).map ints
def dq(g:List Nat)(many:Nat)(rows:List (List Nat)):PSt:=lA (many:Int) (kd g many rows)
theorem pr{g:List Nat}{many:Nat}(hg:GrpI g many){rows:List (List Nat)}{a0:List Nat}(hr:JY rows a0):bS (many:Int) (kd g many rows)=false:=by
 have h1:=hg.pos;have h2:=hg.le;have h3:=hr.le;unfold bS;have hl:(kd g many rows).length=rows.length:=by simp[kd]
 rw[decide_eq_false zo,decide_eq_false zo,decide_eq_false zo];simp only[Lo];refine Ka.2 fun r a1=>?_
 obtain⟨q,hq,rfl⟩:=Jm.1 a1;obtain⟨o,ho,rfl⟩:=Jm.1 hq;obtain⟨j,hj,rfl⟩:=cG ho;obtain⟨r1,r2⟩:=hr.row j hj;unfold il;rw[show(ints (oL g many (nth rows j))).length=many from by simp[mN]];have a2:inB 0 65535 (ints (oL g many (nth rows j)))=true:=tk fun n hn=>by
  obtain⟨x,hx,rfl⟩:=Jm.1 hn;unfold oL at hx;obtain⟨k,hk,rfl⟩:=Jm.1 hx
  cases hf:g.findIdx? (· == k)with
  |none=>simp only[Option.getD_none];have:=r2 0 (zd);unfold nxD at *;omega
  |some q=>
   obtain⟨h1,_⟩:=List.findIdx?_eq_some_iff_getElem.1 hf;have a3:=hg.len;simp only[Option.getD_some];have:=r2 q zo;omega
 rw[a2];simp
theorem vV(g:List Nat)(many:Nat)(gv nv tv:ix)(rows:List (List Nat))(d4:List Nat)(w:ln)(hg:GrpI g many)(e':Sl aO 1 w gv g)(hn:RowsN w nv rows)(g0:Sl fK 1 w tv d4)(hr:JY rows d4) 
  (hc:∀p,p<rows.length->∀i j,i<37->j<37->nth g i=nth g j->nth (nth rows p) i=nth (nth rows p) j) :
  KM Ju 20 [gv,.agg #[nv,tv]] w fun v w'=>∃cs,v=.agg cs.toArray/\PartV w' cs (dq g many rows) d4/\FQ w.heap.size cs/\Ki w w':=by
 have a4:=pr hg hr;refine J1 func20 ntmps20 rfl rfl ?_;refine zh ?_;refine aE (ar w) 1 zo rfl rfl ?_;intro db w1 O1 e4 g' h4 h9;refine aw h4 2 zo (MP _) rfl ?_;intro cb w2 O2 e8 f8 b8 h8;have e3:=e4.upd f8 zd zd;have b6:Jr (fun q=>1<=q) (fun _=>0) w O2 w2:=(g'.mono (fun _ h=>zo) zd).trans (f8.mono (fun _ h=>zo) zd);have b7:=b6.ext;refine zh ?_;refine zv (af (us:=[nv,tv]) e3.cellsAdd (KG _) (JB _) rfl) ?_;refine zc call44 (CF g many gv nv tv rows d4 w2 hg (e'.ext b7) (hn.ext b7) (g0.ext b7) hr hc) ?_;rintro _ w3 ⟨d8,a6,a5,rfl,o1,o2,o3,c9,a',a9,h5⟩;have d6:Jr (fun _=>False) O2 w2 O2 w3:=aa (fun h=>h) O2 h5;have e7:=e8.upd d6 zd (fun h=>h);have e9:=b6.trans (d6.mono (fun _ h=>h.elim) zd);have h3:=b8.upd d6;refine zh ?_;refine aw h3 3 zo (K4 _) rfl ?_;intro nb w4 O4 b3 g8 h2 h7;refine zsb (us:=#[d8,a6,a5]) b3 (Lk _) (by simp only[J3,o1,o2,o3];rfl) ?_;have b2:=b3.setRow (us:=#[d8,a6,a5]);have f7:Jr (fun j=>j=3) O4 w4 O4 (w4.setRow nb #[d8,a6,a5]):=J5 zd b3.tag rfl;have a2:=g8.trans f7;have g9:=(d6.mono (S':=fun q=>q=3) (fun _ h=>h.elim) zd).trans a2;have e6:=e7.upd a2 zd zd;have g6:=c9.upd b8 a2;have f':=a9.slU a' b8 a2;have h1:=h2.upd f7;have b5:=e9.trans (a2.mono (fun _ h=>zo) zd);generalize w4.setRow nb #[d8,a6,a5]=w5 at *;have h6:(rows.map (oL g many)).length=rows.length:=by simp
 refine zh ?_;have d1:w5.drew.cell? (nA nb 1)=some a6:=b2.cell 1 rfl;refine aG (fun W=>W.cell? (nA nb 1)=some a6) 11 rfl zk ?_
 refine zrm 0 rfl d1 rfl ?_;refine zrf 2 rfl d1 rfl ?_
 refine zt 3 rfl d1 (fun w1 f9=>RV.ld f9 rfl) ?_;refine ud (fun x:ix×ix×ix×ix×Int×Nat×(Nat->Nat)×World=>[(4,nP cb),(5,nP nb),(7,.pointer (some ⟨x.2.2.2.2.2.1,0,none⟩)),(21,.agg #[nI (dq g many rows).width,x.1,x.2.1,x.2.2.1,x.2.2.2.1]),(22,nI x.2.2.2.2.1)]) (fun x=>x.2.2.2.2.2.2.2) (fun x=>K0 x.2.2.2.2.2.2.2 x.1 (dq g many rows).usual/\K0 x.2.2.2.2.2.2.2 x.2.1 (dq g many rows).base/\K0 x.2.2.2.2.2.2.2 x.2.2.1 (dq g many rows).check/\K0 x.2.2.2.2.2.2.2 x.2.2.2.1 (dq g many rows).next/\L7 w5.heap.size x.1/\L7 w5.heap.size x.2.1/\L7 w5.heap.size x.2.2.1/\L7 w5.heap.size x.2.2.2.1/\KS x.2.2.2.2.2.2.1 x.2.2.2.2.2.2.2 4 x.2.2.2.2.2.1 #[nI 0,nS,nS,nS,nS] 30/\Jr (fun q=>q=4) O4 w5 x.2.2.2.2.2.2.1 x.2.2.2.2.2.2.2/\KW w.heap.size x.2.2.2.2.2.2.1 x.2.2.2.2.2.2.2/\Mb x.2.2.2.2.2.2.1 x.2.2.2.2.2.2.2 x.1/\Mb x.2.2.2.2.2.2.1 x.2.2.2.2.2.2.2 x.2.1/\Mb x.2.2.2.2.2.2.1 x.2.2.2.2.2.2.2 x.2.2.1/\Mb x.2.2.2.2.2.2.1 x.2.2.2.2.2.2.2 x.2.2.2.1) #[true,true,true,true,true,true,true,true,true,false,false] 2 ?_ ?_
 ·intro hN;have hR:=h1.drew;have hU:Jr (fun q=>q=4) O4 w5 O4 w5.drew:=aa zd O4 (J7 w5).drew;have k0:∀O W,Jr (fun q=>q=4) O4 w5 O W->W.cell? (nA nb 1)=some a6:=fun O W u=>(b2.upd u zd zd).cell 1 rfl
  have kg:∀O W,Jr (fun q=>q=4) O4 w5 O W->Sl encI 1 W gv (ints g):=fun O W u=>(e'.ext (b5.trans (u.mono (fun _ h=>zo) zd)).ext).natIv
  have kn:∀O W,Jr (fun q=>q=4) O4 w5 O W->Rows W a6 (kd g many rows):=fun O W u=>(c9.upd b8 (a2.mono (S':=fun q=>q=3\/q=4) (fun _ h=>.inl h) zd |>.trans (u.mono (fun _ h=>.inr h) zd))).rows.pack
  refine bL 1 8 zk rfl rfl ?_ ?_ 
  ·refine zc MD (iG (ints g) gv _ (kg _ _ hU)) ?_;rintro _ wa ⟨rfl,c8⟩;rw[c8,hg.cnt];clear c8 wa;refine zh ?_
   refine ae (k0 _ _ hU) ?_;refine bL 4 8 zk rfl rfl ?_ ?_ 
   ·refine zc MW (nn (many:Int) (kd g many rows) a6 _ (kn _ _ hU)) ?_;rintro _ wb ⟨pv,ep,rfl,fP,f5,d2,gP⟩;have gP:=gP a4;rw[a4,if_neg zd]at fP;obtain⟨b9,b',d3,c7,c6,c5,n1,n2,n3,n4⟩:=gP;obtain⟨uv,bv,kv,a0,pe,f1,f2,f3,f4⟩:=fP;subst pe;obtain⟨rfl,rfl,rfl,rfl,rfl⟩:_=b9/\uv=b'/\bv=d3/\kv=c7/\a0=c6:=by simpa using c5
    have fU:=hU.size;have g1:=n1.free f1 (fun x _=>by simp) hR;have g2:=n2.free f2 (fun x _=>by simp) hR;have g3:=n3.free f3 (fun x _=>by simp) hR;have g4:=n4.free f4 (fun x _=>by simp) hR;have n1:=n1.mono fU;have n2:=n2.mono fU;have n3:=n3.mono fU;have n4:=n4.mono fU;have a7:=fun O=>aa (S:=fun _=>False) (fun h=>h) O d2
    have hU:=Ji hU ((a7 _).mono (fun _ h=>h.elim) zd);have hR:=KT hR (a7 _)
    try have fC:=KD fC (a7 _) zd (fun h=>h)
    refine zh ?_;refine zaf (k0 _ _ hU) fun zS=>?_
    refine zrm 5 rfl zS rfl ?_;refine zr 6 rfl zS (fun _=>KN rfl rfl) ?_
    refine zr 7 rfl zS (fun _=>KN rfl rfl) ?_;refine Jj 8 zk rfl ?_
    refine aw hR 4 zd (JR _) rfl ?_;intro pb wc Oc fC a1 d0 a3;have hU:=Ji hU a1;have hR:=d0
    try have f1:=JT f1 a3
    try have f2:=JT f2 a3
    try have f3:=JT f3 a3
    try have f4:=JT f4 a3
    try have g1:=JC g1 a1
    try have g2:=JC g2 a1
    try have g3:=JC g3 a1
    try have g4:=JC g4 a1
    refine zh ?_;refine ae (k0 _ _ hU) ?_
    exact Kj (hN (uv,bv,kv,a0,ep,pb,_,_) ⟨f1,f2,f3,f4,n1,n2,n3,n4,fC,hU,hR,g1,g2,g3,g4⟩) zk ⟨rfl,rfl,rfl,rfl,rfl,trivial⟩ rfl
   refine aw hR 4 zd (JR _) rfl ?_;intro pb wc Oc fC a1 d0 a3;have hU:=Ji hU a1;have hR:=d0
   try have f1:=JT f1 a3
   try have f2:=JT f2 a3
   try have f3:=JT f3 a3
   try have f4:=JT f4 a3
   try have g1:=JC g1 a1
   try have g2:=JC g2 a1
   try have g3:=JC g3 a1
   try have g4:=JC g4 a1
   refine zh ?_;refine ae (k0 _ _ hU) ?_
   refine Jj 4 zk rfl ?_;refine zc MW (nn (many:Int) (kd g many rows) a6 _ (kn _ _ hU)) ?_
   rintro _ wb ⟨pv,ep,rfl,fP,f5,d2,gP⟩;have gP:=gP a4;rw[a4,if_neg zd]at fP;obtain⟨b9,b',d3,c7,c6,c5,n1,n2,n3,n4⟩:=gP;obtain⟨uv,bv,kv,a0,pe,f1,f2,f3,f4⟩:=fP;subst pe;obtain⟨rfl,rfl,rfl,rfl,rfl⟩:_=b9/\uv=b'/\bv=d3/\kv=c7/\a0=c6:=by simpa using c5
   have fU:=hU.size;have g1:=n1.free f1 (fun x _=>by simp) hR;have g2:=n2.free f2 (fun x _=>by simp) hR;have g3:=n3.free f3 (fun x _=>by simp) hR;have g4:=n4.free f4 (fun x _=>by simp) hR;have n1:=n1.mono fU;have n2:=n2.mono fU;have n3:=n3.mono fU;have n4:=n4.mono fU;have a7:=fun O=>aa (S:=fun _=>False) (fun h=>h) O d2
   have hU:=Ji hU ((a7 _).mono (fun _ h=>h.elim) zd);have hR:=KT hR (a7 _)
   try have fC:=KD fC (a7 _) zd (fun h=>h)
   refine zh ?_;refine zaf (k0 _ _ hU) fun zS=>?_
   refine zrm 5 rfl zS rfl ?_;refine zr 6 rfl zS (fun _=>KN rfl rfl) ?_
   refine zr 7 rfl zS (fun _=>KN rfl rfl) ?_;exact Kj (hN (uv,bv,kv,a0,ep,pb,_,_) ⟨f1,f2,f3,f4,n1,n2,n3,n4,fC,hU,hR,g1,g2,g3,g4⟩) zk ⟨rfl,rfl,rfl,rfl,rfl,trivial⟩ rfl
  refine aw hR 4 zd (JR _) rfl ?_;intro pb wc Oc fC a1 d0 a3;have hU:=Ji hU a1;have hR:=d0
  try have f1:=JT f1 a3
  try have f2:=JT f2 a3
  try have f3:=JT f3 a3
  try have f4:=JT f4 a3
  try have g1:=JC g1 a1
  try have g2:=JC g2 a1
  try have g3:=JC g3 a1
  try have g4:=JC g4 a1
  refine zh ?_;refine ae (k0 _ _ hU) ?_
  refine Jj 1 zk rfl ?_;refine zc MD (iG (ints g) gv _ (kg _ _ hU)) ?_
  rintro _ wa ⟨rfl,c8⟩;rw[c8,hg.cnt];clear c8 wa;refine zh ?_;refine ae (k0 _ _ hU) ?_;refine Jj 4 zk rfl ?_;refine zc MW (nn (many:Int) (kd g many rows) a6 _ (kn _ _ hU)) ?_;rintro _ wb ⟨pv,ep,rfl,fP,f5,d2,gP⟩;have gP:=gP a4;rw[a4,if_neg zd]at fP;obtain⟨b9,b',d3,c7,c6,c5,n1,n2,n3,n4⟩:=gP;obtain⟨uv,bv,kv,a0,pe,f1,f2,f3,f4⟩:=fP;subst pe;obtain⟨rfl,rfl,rfl,rfl,rfl⟩:_=b9/\uv=b'/\bv=d3/\kv=c7/\a0=c6:=by simpa using c5
  have fU:=hU.size;have g1:=n1.free f1 (fun x _=>by simp) hR;have g2:=n2.free f2 (fun x _=>by simp) hR;have g3:=n3.free f3 (fun x _=>by simp) hR;have g4:=n4.free f4 (fun x _=>by simp) hR;have n1:=n1.mono fU;have n2:=n2.mono fU;have n3:=n3.mono fU;have n4:=n4.mono fU;have a7:=fun O=>aa (S:=fun _=>False) (fun h=>h) O d2
  have hU:=Ji hU ((a7 _).mono (fun _ h=>h.elim) zd);have hR:=KT hR (a7 _)
  try have fC:=KD fC (a7 _) zd (fun h=>h)
  refine zh ?_;refine zaf (k0 _ _ hU) fun zS=>?_
  refine zrm 5 rfl zS rfl ?_;refine zr 6 rfl zS (fun _=>KN rfl rfl) ?_
  refine zr 7 rfl zS (fun _=>KN rfl rfl) ?_;exact Kj (hN (uv,bv,kv,a0,ep,pb,_,_) ⟨f1,f2,f3,f4,n1,n2,n3,n4,fC,hU,hR,g1,g2,g3,g4⟩) zk ⟨rfl,rfl,rfl,rfl,rfl,trivial⟩ rfl
 rintro⟨uv,bv,kv,a0,ep,pb,O7,w7⟩ ⟨f1,f2,f3,f4,n1,n2,n3,n4,b0,a8,h0,g1,g2,g3,g4⟩;dsimp only at f1 f2 f3 f4 n1 n2 n3 n4 b0 a8 h0 g1 g2 g3 g4 ⊢;have q1:=f1.one;have q2:=f2.one;have q3:=f3.one;have q4:=f4.one;have e1:=b2.upd a8 zd zd;have e5:=e6.upd a8 zd zd;refine Jj 9 zk rfl ?_;refine zsb (us:=#[nI (dq g many rows).width,uv,bv,kv,a0]) b0 (JH _) (by simp only[J3,q1,q2,q3,q4];rfl) ?_;have e0:=b0.setRow (us:=#[nI (dq g many rows).width,uv,bv,kv,a0]);have d7:Jr (fun j=>j=4) O7 w7 O7 (w7.setRow pb #[nI (dq g many rows).width,uv,bv,kv,a0]):=J5 zd b0.tag rfl;generalize w7.setRow pb #[nI (dq g many rows).width,uv,bv,kv,a0]=w8 at *;have b1:=e1.upd d7 zd zd;have b4:=e5.upd d7 zd zd;have c':=a8.trans d7;have d9:=a9.slU a' b8 ((a2.mono (S':=fun q=>q=3\/q=4) (fun _ h=>.inl h) zd).trans (c'.mono (fun _ h=>.inr h) zd));have d':=(a9.free a' (fun x _=>by simp) b8).upd ((a2.mono (S':=fun q=>q=3\/q=4) (fun _ h=>.inl h) zd).trans (c'.mono (fun _ h=>.inr h) zd));refine zh ?_;refine ae (b1.cell 1 rfl) ?_;have e2:w8.cell? (nA nb 2)=some a5:=b1.cell 2 rfl;refine zra 10 rfl (b1.cell 1 rfl) rfl ?_;refine K1 zk ?_;refine zh ?_;refine zv (af (us:=[nI (dq g many rows).width,uv,bv,kv,a0]) e0.cellsAdd (KQ _) (JH _) rfl) ?_;obtain⟨ta,tc,g5,_⟩:=a'.shape;refine zh ?_;refine zv (KH (cells:=#[nI (dq g many rows).width,uv,bv,kv,a0,a5]) Jb (MP _) rfl (by rw[g5];rfl)) ?_
 refine zsb (us:=#[nI (dq g many rows).width,uv,bv,kv,a0,a5]) b4 (Kl _) (by simp only[J3,q1,q2,q3,q4,o3];rfl) ?_;have g7:=b4.setRow (us:=#[nI (dq g many rows).width,uv,bv,kv,a0,a5]);have f6:Jr (fun j=>j=2) O7 w8 O7 (w8.setRow cb #[nI (dq g many rows).width,uv,bv,kv,a0,a5]):=J5 zd b4.tag rfl;have hU8z:=(d7.mono (S':=fun q=>q=2\/q=4) (fun _ h=>.inr h) zd).trans (f6.mono (fun _ h=>.inl h) zd);have d5:=b5.size;refine zh ?_
 refine aK rfl rfl (g7.cellsAdd) (Ld _) (Kl _) (⟨[nI (dq g many rows).width,uv,bv,kv,a0,a5],rfl,⟨uv,bv,kv,a0,a5,rfl,f1.upd g1 hU8z,f2.upd g2 hU8z,f3.upd g3 hU8z,f4.upd g4 hU8z,d9.upd d' f6⟩,fun v hv=>?_,((b5.trans (a8.mono (fun _ h=>zo) zd)).trans (hU8z.mono (fun _ h=>zo) zd)).ext⟩);simp only[J8,Jp,or_false]at hv
 rcases hv with rfl|rfl|rfl|rfl|rfl|rfl
 ·exact fun a n c e=>by cases e
 ·exact n1.mono d5
 ·exact n2.mono d5
 ·exact n3.mono d5
 ·exact n4.mono d5
 exact a9.mono b6.size
end Go.Proofs.YtjemhjcngaokpaaGreatDoor
section
namespace Go.VL
open Go.Proofs
theorem ew{P:Lr}{N:Nat}{ops:Array MO}{Q:Exit->Act->ln->Prop}{a0:List MO}{st:St}{w:ln}{t:Ke}{p:String}{e:Array Edge}{x y:Mr} 
  {T:Ke} {O:Nat->Nat} {i b:Nat} {cs us:Array ix} {E:Ke} (off:Nat) (a1:Array ix) (hb:KS O w i b cs E) (a2:(cs.toList.take off++us.toList++cs.toList.drop (off+us.size)).toArray=a1) (hs:off+us.size<=cs.size) (hT:(sizeOf T).run P w=.ok us.size w) (h1:us.toList.all Jn=true)
  {q:Lm} (hx:ev st x=some (.pointer (some q))) (hq:q=⟨b,off,none⟩) (hy:ev st y=some (.agg us))
  (h:WL P N ops Q a0 st (w.setRow b a1)):WL P N ops Q (⟨none,.store T x y,t,p,e,none⟩::a0) st w:=by
 subst a2;exact kV off hb hs hT h1 hx hq hy h
end Go.VL
namespace Go.Proofs.YtjemhjcngaokpaaGreatDoor
open Go.VL Go.Proofs
set_option maxRecDepth 10000
theorem D9:ck Ju 35 #[(0,1),(1,1),(2,1),(3,1),(4,1),(5,6),(11,6)]:=⟨_,underlying35,fun w=>by kernel_rfl⟩
structure TabM where
 ig:Nat
 kp:Nat
 br:Nat
 rules:Int
 groups:List Int
 left:PSt
 lt:List Nat
 right:PSt
 rt:List Nat
abbrev bn(ig kp br:Nat)(a0:Int)(gv:ix)(lc rc:List ix):List ix:=[.int .u64 (ig:Int),.int .u64 (kp:Int),.int .u64 (br:Int),nI a0,gv]++lc++rc
def TabV(w:ln)(v:ix)(t:TabM):Prop:=∃gv lc rc,v=.agg (bn t.ig t.kp t.br t.rules gv lc rc).toArray/\K0 w gv t.groups/\PartV w lc t.left t.lt/\PartV w rc t.right t.rt
def TabN(B:Nat)(v:ix):Prop:=∀cs:List ix,v=.agg cs.toArray->FQ B cs
abbrev dz:List ix:=[nI 0,nS,nS,nS,nS,nS]
abbrev oC:Array ix:=(bn 0 0 0 0 (nS) dz dz).toArray
def jL(ts:List R3):Nat->Nat
 |0=>0
 |i+1=>if(nth ts i).2.2=true then jL ts i ||| 2^i else jL ts i
theorem vt(ts:List R3):∀i,i<=40->jL ts i<2^40
 |0,_=>by unfold jL;decide
 |i+1,h=>by
  unfold jL
  split
  ·exact JU (vt ts i zo) (JZ zd zo)
  exact vt ts i zo
abbrev mD(ts:List R3):List Nd:=ts.map (·.1)
abbrev gA(ts:List R3):List Nd:=ts.map (·.2.1)
def mU(li lk:List Int)(ts:List R3)(A B:List (List Nat)×List Nat):TabM:=
 ⟨cV li,cV lk,jL ts ts.length,ts.length,ints (bE [A.1,B.1]),dq (bE [A.1,B.1]) (gU (ints (bE [A.1,B.1]))) A.1,A.2,dq (bE [A.1,B.1]) (gU (ints (bE [A.1,B.1]))) B.1,B.2⟩
def PostC(B:Nat)(w:ln)(v:ix)(li lk:List Int)(ts:List R3):Prop:=
 (eh li lk ts=false/\v=.tuple #[.agg oC,nI 1])\/eh li lk ts=true/\
  ((∃a b clA clB u,stM true (mD ts)=some a/\stM false (gA ts)=some b/\JY a.1 a.2/\JY b.1 b.2/\Cls clA a/\Cls clB b/\v=.tuple #[u,nI 0]/\TabV w u (mU li lk ts (cI clA a.1 a.2) (cI clB b.1 b.2))/\TabN B u)\/
   ((stM true (mD ts)=none\/stM false (gA ts)=none)/\v=.tuple #[.agg oC,nI 7]))
theorem lY{li lk:List Int}{ts:List R3}(h:eh li lk ts=true):ts.length<=40/\(∀c∈li,0<=c/\c<=35)/\(∀c∈lk,0<=c/\c<=35)/\∀t∈ts,sx t=true:=by
 have a0:∀ {l:List Int},kf l=true->∀c∈l,0<=c/\c<=35:=fun {l} h c hc=>by
  obtain⟨j,hj,rfl⟩:=cG hc;have:=cF.1 (show jc (C4 l) l.length=false by simpa[kf]using h) j hj;simp only[C4,LB,decide_eq_false_iff_not]at this;omega
 simp only[eh,JK,decide_eq_true_eq]at h;obtain⟨⟨⟨h1,h2⟩,h3⟩,h4⟩:=h;refine⟨zo,a0 h2,a0 h3,fun t ht=>?_⟩;obtain⟨j,hj,rfl⟩:=cG ht;have:=cF.1 (show jc (fun i=>!(sx (nth ts i))) ts.length=false by simpa[G4]using h4) j hj;simpa using this
theorem PostSt.uni{B:Nat}{w:ln}{v:ix}{o:Option (List (List Nat)×List Nat)}(h:PostSt B w v o):∃nv tv,∃e:Int,v=.tuple #[.agg #[nv,tv],nI e]/\nv.oneCell'=true/\tv.oneCell'=true/\(e≠0->o=none)/\
  (e=0->∃d cl,o=some d/\JY d.1 d.2/\Cls cl d/\ME B w nv (cI cl d.1 d.2).1/\Sl fK 1 w tv (cI cl d.1 d.2).2/\L7 B tv):=by
 cases o with
 |none=>
  obtain⟨e,he,rfl⟩:=h;exact⟨_,_,e,rfl,rfl,rfl,fun _=>rfl,fun e0=>absurd e0 he⟩
 |some d=>
  obtain⟨cl,nv,tv,rfl,o1,o2,h1,h2,h3,h4,h5⟩:=h;exact⟨nv,tv,0,rfl,o1,o2,fun e=>absurd rfl e,fun _=>⟨d,cl,rfl,h1,h2,h3,h4,h5⟩⟩
theorem eH{rows:List (List Nat)}{a0:List Nat}(hr:JY rows a0)(cl:Nat->Nat):JY (cI cl rows a0).1 (cI cl rows a0).2:=by
 obtain⟨F,h⟩:=jG (cl:=cl) (tl:=nth a0) hr.nx (rows.length+1) 0 [0] [] [] (rQ hr.pos) zo;have h1:=h.rl;have h2:=h.tln;have h3:=h.reps.len;have h4:=hr.le;have h5:=h.p0
 exact⟨by show 0<(ei _ _ _ _ _ _ _ _).1.length;omega,by show(ei _ _ _ _ _ _ _ _).1.length<=1000;omega,by show(ei _ _ _ _ _ _ _ _).2.length=(ei _ _ _ _ _ _ _ _).1.length;omega,fun j hj=>by
  obtain⟨r1,r2⟩:=h.row j (by rw[<-h1];exact hj)
  exact⟨r1,fun m hm=>by have:=(r2 m hm).1;rw[<-h1]at this;exact this⟩⟩
section
variable(li lk:List Int)(ts:List R3)(A B:List (List Nat)×List Nat)
theorem DQ:(mU li lk ts A B).ig=cV li:=rfl
theorem DP:(mU li lk ts A B).kp=cV lk:=rfl
theorem DR:(mU li lk ts A B).br=jL ts ts.length:=rfl
theorem xS:(mU li lk ts A B).rules=(ts.length:Int):=rfl
theorem uu:(mU li lk ts A B).groups=ints (bE [A.1,B.1]):=rfl
theorem si:(mU li lk ts A B).left=dq (bE [A.1,B.1]) (gU (ints (bE [A.1,B.1]))) A.1:=rfl
theorem pf:(mU li lk ts A B).right=dq (bE [A.1,B.1]) (gU (ints (bE [A.1,B.1]))) B.1:=rfl
theorem zF:(mU li lk ts A B).lt=A.2:=rfl
theorem zE:(mU li lk ts A B).rt=B.2:=rfl
end
theorem Cl{B0:Nat}{w:ln}{li lk:List Int}{ts:List R3}{xs:List X3}{a b A B:List (List Nat)×List Nat}{a6 a5:Nat->Nat}{g:List Nat}{many a7:Nat}{pa pb:PSt}{gv:ix}{lc rc:List ix}(a8:eh li lk ts=true)(b4:stM true (mD ts)=some a)(b1:stM false (gA ts)=some b)(b5:JY a.1 a.2)(b2:JY b.1 b.2)(b6:Cls a6 a)(b3:Cls a5 b) 
  (hA:A=cI a6 a.1 a.2) (hB:B=cI a5 b.1 b.2) (a1:g=bE [A.1,B.1]) (a0:gU (ints g)=many) (a':pa=dq g many A.1) (a9:pb=dq g many B.1) (a4:a7=jL ts xs.length) (hl:ts.length=xs.length) (b0:Sl aO 1 w gv g) (b8:PartV w lc pa A.2) (b7:PartV w rc pb B.2)
  (n1:L7 B0 gv) (n2:FQ B0 lc) (n3:FQ B0 rc):PostC B0 w (.tuple #[.agg (bn (cV li) (cV lk) a7 (xs.length:Nat) gv lc rc).toArray,nI 0]) li lk ts:=by
 refine .inr ⟨a8,.inl ⟨a,b,a6,a5,_,b4,b1,b5,b2,b6,b3,rfl,?_,?_⟩⟩
 ·rw[<-hA,<-hB];have a0:gU (ints (bE [A.1,B.1]))=many:=by rw[<-a1];exact a0
  refine⟨gv,lc,rc,?_,?_,?_,?_⟩
  ·rw[DQ,DP,DR,xS,hl,<-a4]
  ·rw[uu,<-a1];exact b0.natIv
  ·rw[si,zF,a0,<-a1,<-a'];exact b8
  rw[pf,zE,a0,<-a1,<-a9];exact b7
 intro cs a3;have a2:cs=bn (cV li) (cV lk) a7 (xs.length:Nat) gv lc rc:=by
  have:=(MN a3).symm;simpa using this
 subst a2;intro v hv
 rcases J9.1 hv with hv|hv
 ·rcases J9.1 hv with hv|hv
  ·simp only[J8,Jp,or_false]at hv
   rcases hv with rfl|rfl|rfl|rfl|rfl
   ·exact fun a n c e=>by cases e
   ·exact fun a n c e=>by cases e
   ·exact fun a n c e=>by cases e
   ·exact fun a n c e=>by cases e
   exact n1
  exact n2 v hv
 exact n3 v hv
set_option maxHeartbeats 1000000 in
theorem nV(li lk:List Int)(ts:List R3)(v:ix)(w:ln)(h:Tx w v li lk ts):
  KM Ju 6 [v] w fun u w'=>Ki w w'/\PostC w.heap.size w' u li lk ts:=by
 obtain⟨ig,kp,ru,xs,rfl,hi,hk,l9,hl,hx⟩:=h.ex;have i1:=hi.one;have i2:=hk.one;have i3:=l9.one;refine J1 func6 ntmps6 rfl rfl ?_;refine zh ?_;refine aE (ar w) 1 zo rfl rfl ?_;intro db w1 O1 t' hU1 hR1 hE1;refine aw hR1 2 zo (JQ _) rfl ?_;intro cb w2 O2 u4 x9 hR2 hE2;have m6:=t'.upd x9 zd zd;have n8:Jr (fun q=>1<=q) (fun _=>0) w O2 w2:=(hU1.mono (fun _ h=>zo) zd).trans (x9.mono (fun _ h=>zo) zd);have h8:=n8.ext;refine zh ?_;refine zv (af (us:=[ig,kp,ru]) m6.cellsAdd (isAgg41 _) (sizeOf41 _) rfl) ?_;refine zc call16 (xZ li lk ts xs ig kp ru w2 (hi.ext h8) (hk.ext h8) (l9.ext h8) hl (fun i hi=>(hx i hi).ext h8)) ?_;rintro _ w3 ⟨rfl,hE3⟩;have p9:Jr (fun _=>False) O2 w2 O2 w3:=aa (fun h=>h) O2 hE3;have j9:=m6.upd p9 zd (fun h=>h);have g8:=u4.upd p9 zd (fun h=>h);have g1:=n8.trans (p9.mono (fun _ h=>h.elim) zd);have hR3:=hR2.upd p9;refine zh ?_
 by_cases s9:eh li lk ts=false
 ·refine zTH rfl ((by rw[s9];rfl)) ?_;refine zv (KH (cells:=oC) D9 (JQ _) rfl rfl) ?_
  refine zsa (us:=oC) g8 (JV _) ?_;have j':=g8.setRow (us:=oC);have k6:Jr (fun j=>j=2) O2 w3 O2 (w3.setRow cb oC):=J5 zd g8.tag rfl;refine zh ?_
  refine bp rfl rfl rfl (j'.cellsAdd) (KP _) (JV _) (⟨(g1.trans (k6.mono (fun _ h=>zo) zd)).ext,.inl ⟨s9,rfl⟩⟩)
 have l':eh li lk ts=true:=by simpa using s9
 obtain⟨h40,x4,t5,hrr⟩:=lY l';refine aN rfl ((by rw[l'];rfl)) ?_;have s8:=l9.ext g1.ext;refine zh ?_;have d0:=j9.drew.cellsAdd;refine aG (fun W=>∀j u,[ig,kp,ru][j]? = some u->W.cell? (nA db j)=some u) 12 rfl zk ?_;refine zrf 0 rfl d0 rfl ?_;refine zt 1 rfl d0 (fun w1 a6=>RV.ld (a6 0 _ rfl) rfl) ?_;refine zrf 3 rfl d0 rfl ?_;refine zt 4 rfl d0 (fun w1 a6=>RV.ld (a6 1 _ rfl) rfl) ?_;refine zrf 6 rfl d0 rfl ?_;refine zt 7 rfl d0 (fun w1 a6=>RV.ld (a6 2 _ rfl) rfl) ?_;refine zr 8 rfl d0 (fun _=>bh s8.sh underlying39 rfl) ?_;refine ud (fun x:Nat×(Nat->Nat)×World=>[(1,nP db),(2,nP cb),(4,.pointer (some ⟨x.1,0,none⟩)),(26,.agg (bn (cV li) (cV lk) 0 (xs.length:Nat) (nS) dz dz).toArray)]) (fun x=>x.2.2) (fun x=>KS x.2.1 x.2.2 3 x.1 oC 35/\Jr (fun q=>q=3) O2 w3 x.2.1 x.2.2/\KW w.heap.size x.2.1 x.2.2) #[true,true,true,true,true,true,true,true,true,true,true,false] 1 ?_ ?_
 ·intro hN;have hR:=hR3.drew;have hU:Jr (fun q=>q=3) O2 w3 O2 w3.drew:=aa zd O2 (J7 w3).drew;have k0:∀O W,Jr (fun q=>q=3) O2 w3 O W->∀(j:Nat) (u:ix),[ig,kp,ru][j]? = some u->W.cell? (nA db j)=some u:=fun O W u=>(j9.upd u zd zd).cellsAdd
  have ki:∀O W,Jr (fun q=>q=3) O2 w3 O W->Sl encI 1 W ig li:=fun O W u=>hi.ext (g1.trans (u.mono (fun _ h=>zo) zd)).ext
  have kk:∀O W,Jr (fun q=>q=3) O2 w3 O W->Sl encI 1 W kp lk:=fun O W u=>hk.ext (g1.trans (u.mono (fun _ h=>zo) zd)).ext
  refine bL 2 10 zk rfl rfl ?_ ?_ 
  ·refine zc Mk (mX li ig _ (ki _ _ hU) x4) ?_;rintro _ wa ⟨rfl,c6⟩;rw[c6];clear c6 wa;refine zh ?_
   refine ae (k0 _ _ hU) ?_;refine bL 5 10 zk rfl rfl ?_ ?_ 
   ·refine zc Mk (mX lk kp _ (kk _ _ hU) t5) ?_;rintro _ wa ⟨rfl,c6⟩;rw[c6];clear c6 wa;refine zh ?_
    refine ae (k0 _ _ hU) ?_;refine zr 9 rfl (k0 _ _ hU) (fun _=>KH (cells:=(bn (cV li) (cV lk) 0 (xs.length:Nat) (nS) dz dz).toArray) D9 (JQ _) rfl rfl) ?_
    refine Jj 10 zk rfl ?_;refine aw hR 3 zd (JQ _) rfl ?_
    intro tb wc Oc fC b0 g2 y0;have hU:=Ji hU b0;have hR:=g2;refine zh ?_;refine ae (k0 _ _ hU) ?_;exact Kj (hN (tb,_,_) ⟨fC,hU,hR⟩) zk ⟨rfl,rfl,rfl,rfl,trivial⟩ rfl
   refine aw hR 3 zd (JQ _) rfl ?_;intro tb wc Oc fC b0 g2 y0;have hU:=Ji hU b0;have hR:=g2;refine zh ?_
   refine ae (k0 _ _ hU) ?_;refine Jj 5 zk rfl ?_
   refine zc Mk (mX lk kp _ (kk _ _ hU) t5) ?_;rintro _ wa ⟨rfl,c6⟩;rw[c6];clear c6 wa;refine zh ?_
   refine ae (k0 _ _ hU) ?_;refine zr 9 rfl (k0 _ _ hU) (fun _=>KH (cells:=(bn (cV li) (cV lk) 0 (xs.length:Nat) (nS) dz dz).toArray) D9 (JQ _) rfl rfl) ?_
   exact Kj (hN (tb,_,_) ⟨fC,hU,hR⟩) zk ⟨rfl,rfl,rfl,rfl,trivial⟩ rfl
  refine aw hR 3 zd (JQ _) rfl ?_;intro tb wc Oc fC b0 g2 y0;have hU:=Ji hU b0;have hR:=g2;refine zh ?_
  refine ae (k0 _ _ hU) ?_;refine Jj 2 zk rfl ?_
  refine zc Mk (mX li ig _ (ki _ _ hU) x4) ?_;rintro _ wa ⟨rfl,c6⟩;rw[c6];clear c6 wa;refine zh ?_
  refine ae (k0 _ _ hU) ?_;refine Jj 5 zk rfl ?_
  refine zc Mk (mX lk kp _ (kk _ _ hU) t5) ?_;rintro _ wa ⟨rfl,c6⟩;rw[c6];clear c6 wa;refine zh ?_
  refine ae (k0 _ _ hU) ?_;refine zr 9 rfl (k0 _ _ hU) (fun _=>KH (cells:=(bn (cV li) (cV lk) 0 (xs.length:Nat) (nS) dz dz).toArray) D9 (JQ _) rfl rfl) ?_
  exact Kj (hN (tb,_,_) ⟨fC,hU,hR⟩) zk ⟨rfl,rfl,rfl,rfl,trivial⟩ rfl
 rintro⟨tb,O4,w4⟩ ⟨g5,r6,x'⟩;dsimp only at g5 r6 x' ⊢;have t9:=j9.upd r6 zd zd;have u3:=g8.upd r6 zd zd;refine Jj 11 zk rfl ?_;refine zsa (us:=(bn (cV li) (cV lk) 0 (xs.length:Nat) (nS) dz dz).toArray) g5 (JV _) ?_;have s6:=g5.setRow (us:=(bn (cV li) (cV lk) 0 (xs.length:Nat) (nS) dz dz).toArray);have q':Jr (fun j=>j=3) O4 w4 O4 (w4.setRow tb (bn (cV li) (cV lk) 0 (xs.length:Nat) (nS) dz dz).toArray):=J5 zd g5.tag rfl;generalize w4.setRow tb (bn (cV li) (cV lk) 0 (xs.length:Nat) (nS) dz dz).toArray=w5 at *;have m5:=t9.upd q' zd zd;have u0:=u3.upd q' zd zd;have hR5:=x'.upd q';have n7:=g1.trans ((r6.trans q').mono (fun _ h=>zo) zd);refine zh ?_;refine ae (m5.cellsAdd) ?_;have y7:=l9.ext n7.ext;have c2:w5.cell? (nA db 2)=some ru:=m5.cell 2 rfl;have z6:(2^40:Nat)=1099511627776:=zd;refine K1 zk ?_;refine zh ?_
 refine zlp (fun z:Nat×(Nat->Nat)×World×ix×ix=>[(1,nP db),(2,nP cb),(4,nP tb),(5,z.2.2.2.1),(6,z.2.2.2.2),(28,ru),(29,nI xs.length),(30,nI z.1)]) (fun z=>z.2.2.1) (fun z=>z.1<=xs.length/\Jr (fun q=>3<=q) O4 w5 z.2.1 z.2.2.1/\KW w.heap.size z.2.1 z.2.2.1/\KS z.2.1 z.2.2.1 3 tb (bn (cV li) (cV lk) (jL ts z.1) (xs.length:Nat) (nS) dz dz).toArray 35/\LF aV 67 3 z.2.1 z.2.2.1 4 z.2.2.2.1 ((xs.take z.1).map (·.1))/\LF aV 67 3 z.2.1 z.2.2.1 5 z.2.2.2.2 ((xs.take z.1).map (·.2.1))) (fun z=>xs.length-z.1) (0,O4,w5,nS,nS) (⟨J6 _,L0 zd _ _,hR5,s6,JM _ _ _ _ _ _,JM _ _ _ _ _ _⟩) ?_;rintro⟨i,O9,w9,lv,rv⟩ ⟨z1,p',j3,j6,g7,g6⟩;dsimp only at z1 p' j3 j6 g7 g6 ⊢;have h0:=n7.trans (p'.mono (fun _ h=>zo) zd);have s7:=l9.ext h0.ext;have hxl:xs.length<=40:=zo;refine zh ?_
 refine zC ?_ ?_
 ·intro i5;replace i5:i<xs.length:=dT i5;obtain⟨x,p5⟩:∃x,x=nth xs i:=⟨_,rfl⟩
  have p4:=hx i i5;rw[<-p5]at p4;have p1:=p4.1.one;have p2:=p4.2.1.one;have y8:(ct x).toArray.toList.all Jn=true:=by obtain⟨x1,x2,bk⟩:=x;exact jY p1 p2
  refine zh ?_;refine zv (af (us:=ct x) (fun j u hu=>s7.cell i5 (by rw[<-p5];exact hu)) (isAgg69 _) (sizeOf69 _) rfl) ?_
  refine aw j3 6 zo (zeroValue69 _) rfl ?_;intro rb l0 O10 e5 u9 k8 p0;refine zh ?_
  refine zsb (us:=(ct x).toArray) e5 (sizeOf69 _) y8 ?_;have e4:=e5.setRow (us:=(ct x).toArray);have h7:Jr (fun j=>j=6) O10 l0 O10 (l0.setRow rb (ct x).toArray):=J5 zd e5.tag rfl;generalize l0.setRow rb (ct x).toArray=d7 at *;have d3:=u9.trans h7;have l6:=j6.upd d3 zd zd;have m2:=g7.upd d3 zd zd;have m0:=g6.upd d3 zd zd;have k7:=k8.upd h7;obtain⟨y6,y5,rc3,_⟩:=jZ e4;have hll:((xs.take i).map (·.1)).length=i:=by simp;omega
  have hrl:((xs.take i).map (·.2.1)).length=i:=by simp;omega
  refine zh ?_;refine aG (fun W=>(∀(q:Nat) (u:ix),(aV x.1)[q]? = some u->W.cell? (nA rb q)=some u)/\(∀(q:Nat) (u:ix),(aV x.2.1)[q]? = some u->W.cell? ((nA rb 3).add q)=some u)) 12 rfl zk ?_
  refine zin ⟨y6 _ (J7 d7).drew,y5 _ (J7 d7).drew⟩ fun zS=>?_
  refine zrm 0 rfl zS rfl ?_;refine zrf 1 rfl zS rfl ?_
  refine zt 2 rfl zS (fun w1 a6=>af (us:=aV x.1) a6.1 (isAgg67 _) (sizeOf67 _) rfl) ?_;refine zrm 5 rfl zS rfl ?_
  refine zrf 6 rfl zS rfl ?_;refine zt 7 rfl zS (fun w1 a6=>af (us:=aV x.2.1) a6.2 (isAgg67 _) (sizeOf67 _) rfl) ?_
  refine ud (fun y:ix×ix×(Nat->Nat)×World=>[(1,nP db),(2,nP cb),(4,nP tb),(7,nI (i:Nat)),(8,nP rb),(28,ru),(29,nI xs.length),(30,nI (i:Nat)),(39,y.1),(44,y.2.1)]) (fun y=>y.2.2.2) (fun y=>LF aV 67 3 y.2.2.1 y.2.2.2 4 y.1 ((xs.take i).map (·.1)++[x.1])/\LF aV 67 3 y.2.2.1 y.2.2.2 5 y.2.1 ((xs.take i).map (·.2.1)++[x.2.1])/\Jr (fun q=>q=4\/q=5\/q=7\/q=8) O10 d7 y.2.2.1 y.2.2.2/\KW w.heap.size y.2.2.1 y.2.2.2) #[true,true,true,true,true,true,true,true,true,true,false,false] 2 ?_ ?_
  ·intro hN;have hR:=k7.drew;have hU:Jr (fun q=>q=4\/q=5\/q=7\/q=8) O10 d7 O10 d7.drew:=aa zd O10 (J7 d7).drew;have k0:∀O W,Jr (fun q=>q=4\/q=5\/q=7\/q=8) O10 d7 O W->(∀(q:Nat) (u:ix),(aV x.1)[q]? = some u->W.cell? (nA rb q)=some u)/\(∀(q:Nat) (u:ix),(aV x.2.1)[q]? = some u->W.cell? ((nA rb 3).add q)=some u):=fun O W u=>by
    obtain⟨r1,r2,_,_⟩:=jZ (e4.upd u zd zd);exact⟨r1 _ (J7 _),r2 _ (J7 _)⟩
   have rA:=m2.drew;have rB:=m0.drew;refine bL 3 8 zk rfl rfl ?_ ?_ 
   ·refine bK elN (enc:=aV) hR 7 zd x.1 rfl rfl rfl zd rfl ?_;intro y4 Wa Oa sA g9 u';have hU:=Ji hU (Kb g9 (fun _ h=>.inr (.inr (.inl h))) zd);have hR:=u';have rA:=Jo rA g9 zd zd;have rB:=Jo rB g9 zd zd
    try have sB:=Jo sB g9 zd zd
    refine zh ?_;refine ae (k0 _ _ hU) ?_
    refine bL 4 8 zk rfl rfl ?_ ?_ 
    ·refine aC elN rA hR sA.sl (by simp) rfl rfl (by simp) (fun u hu c hc=>by rw[ka.1 hu]at hc;simp only[aV,J8,Jp,or_false]at hc;rcases hc with rfl|rfl|rfl;rfl;rfl;exact p1) (by simp only[J4];omega) (by simp only[J4];omega) zd rfl ?_;intro h' Wc Oc rA b0 g2;have hU:=Ji hU (Kb b0 (fun _ h=>.inl h) zd);have hR:=g2;have rB:=Jo rB b0 zd zd
     try have sB:=Jo sB b0 zd zd
     refine zh ?_;refine ae (k0 _ _ hU) ?_
     refine Jj 8 zk rfl ?_;refine bK elN (enc:=aV) hR 8 zd x.2.1 rfl rfl rfl zd rfl ?_
     intro w6 Wb Ob sB d1 o5;have hU:=Ji hU (Kb d1 (fun _ h=>.inr (.inr (.inr h))) zd);have hR:=o5;have rA:=Jo rA d1 zd zd;have rB:=Jo rB d1 zd zd
     try have sA:=Jo sA d1 zd zd
     refine zh ?_;refine ae (k0 _ _ hU) ?_
     refine Jj 9 zk rfl ?_;refine aC elN rB hR sB.sl (by simp) rfl rfl (by simp) (fun u hu c hc=>by rw[ka.1 hu]at hc;simp only[aV,J8,Jp,or_false]at hc;rcases hc with rfl|rfl|rfl;rfl;rfl;exact p2) (by simp only[J4];omega) (by simp only[J4];omega) zd rfl ?_
     intro h9 Wd Od rB g3 o4;have hU:=Ji hU (Kb g3 (fun _ h=>.inr (.inl h)) zd);have hR:=o4;have rA:=Jo rA g3 zd zd;refine zh ?_;refine ae (k0 _ _ hU) ?_;exact Kj (hN (h',h9,_,_) ⟨rA,rB,hU,hR⟩) zk ⟨rfl,rfl,rfl,rfl,rfl,rfl,rfl,rfl,rfl,rfl,trivial⟩ rfl
    refine bK elN (enc:=aV) hR 8 zd x.2.1 rfl rfl rfl zd rfl ?_;intro w6 Wb Ob sB d1 o5;have hU:=Ji hU (Kb d1 (fun _ h=>.inr (.inr (.inr h))) zd);have hR:=o5;have rA:=Jo rA d1 zd zd;have rB:=Jo rB d1 zd zd
    try have sA:=Jo sA d1 zd zd
    refine zh ?_;refine ae (k0 _ _ hU) ?_
    refine Jj 4 zk rfl ?_;refine aC elN rA hR sA.sl (by simp) rfl rfl (by simp) (fun u hu c hc=>by rw[ka.1 hu]at hc;simp only[aV,J8,Jp,or_false]at hc;rcases hc with rfl|rfl|rfl;rfl;rfl;exact p1) (by simp only[J4];omega) (by simp only[J4];omega) zd rfl ?_
    intro h' Wc Oc rA b0 g2;have hU:=Ji hU (Kb b0 (fun _ h=>.inl h) zd);have hR:=g2;have rB:=Jo rB b0 zd zd
    try have sB:=Jo sB b0 zd zd
    refine zh ?_;refine ae (k0 _ _ hU) ?_
    refine Jj 9 zk rfl ?_;refine aC elN rB hR sB.sl (by simp) rfl rfl (by simp) (fun u hu c hc=>by rw[ka.1 hu]at hc;simp only[aV,J8,Jp,or_false]at hc;rcases hc with rfl|rfl|rfl;rfl;rfl;exact p2) (by simp only[J4];omega) (by simp only[J4];omega) zd rfl ?_
    intro h9 Wd Od rB g3 o4;have hU:=Ji hU (Kb g3 (fun _ h=>.inr (.inl h)) zd);have hR:=o4;have rA:=Jo rA g3 zd zd;refine zh ?_;refine ae (k0 _ _ hU) ?_;exact Kj (hN (h',h9,_,_) ⟨rA,rB,hU,hR⟩) zk ⟨rfl,rfl,rfl,rfl,rfl,rfl,rfl,rfl,rfl,rfl,trivial⟩ rfl
   refine bK elN (enc:=aV) hR 8 zd x.2.1 rfl rfl rfl zd rfl ?_;intro w6 Wb Ob sB d1 o5;have hU:=Ji hU (Kb d1 (fun _ h=>.inr (.inr (.inr h))) zd);have hR:=o5;have rA:=Jo rA d1 zd zd;have rB:=Jo rB d1 zd zd
   try have sA:=Jo sA d1 zd zd
   refine zh ?_;refine ae (k0 _ _ hU) ?_
   refine Jj 3 zk rfl ?_;refine bK elN (enc:=aV) hR 7 zd x.1 rfl rfl rfl zd rfl ?_
   intro y4 Wa Oa sA g9 u';have hU:=Ji hU (Kb g9 (fun _ h=>.inr (.inr (.inl h))) zd);have hR:=u';have rA:=Jo rA g9 zd zd;have rB:=Jo rB g9 zd zd
   try have sB:=Jo sB g9 zd zd
   refine zh ?_;refine ae (k0 _ _ hU) ?_
   refine Jj 4 zk rfl ?_;refine aC elN rA hR sA.sl (by simp) rfl rfl (by simp) (fun u hu c hc=>by rw[ka.1 hu]at hc;simp only[aV,J8,Jp,or_false]at hc;rcases hc with rfl|rfl|rfl;rfl;rfl;exact p1) (by simp only[J4];omega) (by simp only[J4];omega) zd rfl ?_
   intro h' Wc Oc rA b0 g2;have hU:=Ji hU (Kb b0 (fun _ h=>.inl h) zd);have hR:=g2;have rB:=Jo rB b0 zd zd
   try have sB:=Jo sB b0 zd zd
   refine zh ?_;refine ae (k0 _ _ hU) ?_
   refine Jj 9 zk rfl ?_;refine aC elN rB hR sB.sl (by simp) rfl rfl (by simp) (fun u hu c hc=>by rw[ka.1 hu]at hc;simp only[aV,J8,Jp,or_false]at hc;rcases hc with rfl|rfl|rfl;rfl;rfl;exact p2) (by simp only[J4];omega) (by simp only[J4];omega) zd rfl ?_
   intro h9 Wd Od rB g3 o4;have hU:=Ji hU (Kb g3 (fun _ h=>.inr (.inl h)) zd);have hR:=o4;have rA:=Jo rA g3 zd zd;refine zh ?_;refine ae (k0 _ _ hU) ?_;exact Kj (hN (h',h9,_,_) ⟨rA,rB,hU,hR⟩) zk ⟨rfl,rfl,rfl,rfl,rfl,rfl,rfl,rfl,rfl,rfl,trivial⟩ rfl
  rintro⟨h',h9,O12,g4⟩ ⟨e6,a',b8,a5⟩;dsimp only at e6 a' b8 a5 ⊢;have m1:=e4.upd b8 zd zd;have a9:=l6.upd b8 zd zd;obtain⟨s1,s2,s3,_⟩:=jZ m1;have b3:=(p'.trans (d3.mono (fun _ h=>zo) zd)).trans (b8.mono (fun _ h=>zo) zd);have s3':=s3 _ (J7 _);have x6:x.2.2=(nth ts i).2.2:=p4.2.2;have el:(xs.take (i+1)).map (·.1)=(xs.take i).map (·.1)++[x.1]:=by rw[aM i5,K5,<-p5];rfl
  have er:(xs.take (i+1)).map (·.2.1)=(xs.take i).map (·.2.1)++[x.2.1]:=by rw[aM i5,K5,<-p5];rfl
  refine zin (⟨s1 _ (J7 _),s2 _ (J7 _)⟩) fun zS=>?_
  refine zra 10 rfl zS rfl ?_;refine zra 11 rfl zS rfl ?_
  refine K1 zk ?_;refine zh ?_
  have z3:=vt ts i zo;refine zC ?_ ?_
  ·intro hb;have u5:jL ts (i+1)=jL ts i ||| 2^i:=by rw[show jL ts (i+1)=if(nth ts i).2.2=true then jL ts i ||| 2^i else jL ts i from rfl,if_pos (by rw[<-x6];exact hb)]
   have hpw:2^i<2^40:=JZ zd zo;have t2:g4.cell? (nA tb 2)=some (.int .u64 ((jL ts i:Nat):Int)):=a9.cell 2 rfl;refine Mx 6 rfl rfl zk zk ?_;refine zh ?_;refine zw (rL (a:=1) (b:=i) rfl rfl rfl rfl (by show _<=64;omega) (by show _<=(18446744073709551615:Int);omega)) ?_;rw[La];refine zwH (oo (a:=jL ts i) (b:=2^i) rfl rfl rfl rfl (by show _<=(18446744073709551615:Int);omega) (by show _<=(18446744073709551615:Int);omega)) ?_;refine MR ?_;rw[<-u5];refine aj (j:=2) a9.drew rfl (MB _) rfl rfl rfl rfl ?_;have h6:Jr (fun j=>j=3) O12 g4.drew O12 (g4.drew.setCell ⟨tb,2,none⟩ (.int .u64 ((jL ts (i+1):Nat):Int))):=Kx zd a9.tag rfl;have l5:KS O12 (g4.drew.setCell ⟨tb,2,none⟩ (.int .u64 ((jL ts (i+1):Nat):Int))) 3 tb (bn (cV li) (cV lk) (jL ts (i+1)) (xs.length:Nat) (nS) dz dz).toArray 35:=a9.drew.set 2 _;generalize g4.drew.setCell ⟨tb,2,none⟩ (.int .u64 ((jL ts (i+1):Nat):Int))=s0 at *;refine zh ?_;refine zxd (i+1,O12,s0,h',h9) (⟨i5,b3.drew.trans (h6.mono (fun _ h=>zo) zd),a5.drew.upd h6,l5,by dsimp only;rw[el];exact e6.drew.upd h6 zd zd,by dsimp only;rw[er];exact a'.drew.upd h6 zd zd⟩)
  intro hb;have u5:jL ts (i+1)=jL ts i:=by rw[show jL ts (i+1)=if(nth ts i).2.2=true then jL ts i ||| 2^i else jL ts i from rfl,if_neg (by rw[<-x6,hb];decide)]
  refine zh ?_;refine zxd (i+1,O12,g4,h',h9) (⟨i5,b3,a5,by dsimp only;rw[u5];exact a9,by dsimp only;rw[el];exact e6,by dsimp only;rw[er];exact a'⟩)
 intro p6;obtain rfl:i=xs.length:=dF p6;rw[Jk]at g7 g6;have hR9':=j3;refine zh ?_;refine zc call18 (pg true (mD ts) (xs.map (·.1)) lv w9 g7.sl (by simp[hl]) (fun j hj=>by rw[JO]at hj;rw[eE hj,show mD ts=ts.map (·.1)from rfl,eE zo];exact(hx j hj).1.ext h0.ext)) ?_;rintro va l0 ⟨p0,hPa⟩;obtain⟨e0,d9,ea,rfl,a1,a2,ha0,ha1⟩:=hPa.uni;have k5:Jr (fun _=>False) O9 w9 O9 l0:=aa (fun h=>h) O9 p0;have k8:=j3.upd k5;refine zh ?_;refine aw k8 7 zo (Kc _) rfl ?_;intro ab d7 O11 f4 h7 k7 hE11;refine zsb (us:=#[e0,d9]) f4 (JB _) (by simp only[J3,a1,a2];rfl) ?_;have n3:=f4.setRow (us:=#[e0,d9]);have b8:Jr (fun j=>j=7) O11 d7 O11 (d7.setRow ab #[e0,d9]):=J5 zd f4.tag rfl;generalize d7.setRow ab #[e0,d9]=g4 at *;have g0:=h7.trans b8;have b3:=(k5.mono (S':=fun q=>q=7) (fun _ h=>h.elim) zd).trans g0;have a5:=k7.upd b8;have a':=g6.upd b3 zd zd;have n5:=h0.trans (b3.mono (fun _ h=>zo) zd);refine zh ?_;refine zc call18 (pg false (gA ts) (xs.map (·.2.1)) rv g4 a'.sl (by simp[hl]) (fun j hj=>by rw[JO]at hj;rw[eE hj,show gA ts=ts.map (·.2.1)from rfl,eE zo];exact(hx j hj).2.1.ext n5.ext)) ?_;rintro vb s0 ⟨v6,hPb⟩;obtain⟨d',d8,eb,rfl,b1,b2,z8,z7⟩:=hPb.uni;have n4:Jr (fun _=>False) O11 g4 O11 s0:=aa (fun h=>h) O11 v6;have v2:=a5.upd n4;refine zh ?_;refine aw v2 8 zo (Kc _) rfl ?_
 intro bb r' O14 e' u7 v1 hE14;refine zsb (us:=#[d',d8]) e' (JB _) (by simp only[J3,b1,b2];rfl) ?_;have i':=e'.setRow (us:=#[d',d8]);have n6:Jr (fun j=>j=8) O14 r' O14 (r'.setRow bb #[d',d8]):=J5 zd e'.tag rfl;generalize r'.setRow bb #[d',d8]=w15 at *;have b7:=u7.trans n6;have f8:=(n4.mono (S':=fun q=>q=8) (fun _ h=>h.elim) zd).trans b7;have b9:=(g0.mono (S':=fun q=>q=7\/q=8) (fun _ h=>.inl h) zd).trans (f8.mono (fun _ h=>.inr h) zd);have f5:=(k5.mono (S':=fun q=>q=7\/q=8) (fun _ h=>h.elim) zd).trans b9;have o7:=v1.upd n6;have d2:=h0.trans (f5.mono (fun _ h=>zo) zd);have j1:=n3.upd f8 zd zd;have l4:=j6.upd f5 zd zd;have a4:=(u0.upd p' zd zd).upd f5 zd zd;refine zh ?_
 by_cases p8:ea=0
 ·refine az (d:=66) rfl (b':=false) ((by rw[p8];rfl)) ?_;refine zh ?_
  by_cases p7:eb=0
  ·obtain⟨a,y3,z9,x8,z',j8,j5,l3⟩:=ha1 p8;obtain⟨b,y2,z4,x7,z5,j7,j4,l2⟩:=z7 p7;have r8:=eH x8 y3;have r7:=eH x7 y2;obtain⟨A,hA⟩:∃A,A=cI y3 a.1 a.2:=⟨_,rfl⟩
   obtain⟨B,hB⟩:∃B,B=cI y2 b.1 b.2:=⟨_,rfl⟩
   rw[<-hA]at r8 j8 j5;rw[<-hB]at r7 j7 j4;refine zFH rfl ((by rw[p7];rfl)) ?_;refine zv (af (us:=[e0,d9]) j1.cellsAdd (KG _) (JB _) rfl) ?_;refine zv (af (us:=[d',d8]) i'.cellsAdd (KG _) (JB _) rfl) ?_;refine fT underlying99 (JB _) (Kc _) yz [(e0,d9),(d',d8)] rfl rfl rfl rfl zk (by simp) rfl ?_;intro l1 p3 l8 o';have g':Jr (fun _=>False) O14 w15 O14 p3:=aa (fun h=>h) O14 o';have f':=b9.trans (g'.mono (S':=fun q=>q=7\/q=8) (fun _ h=>h.elim) zd);have f7:=b7.trans (g'.mono (S':=fun q=>q=8) (fun _ h=>h.elim) zd);have v':=j8.upd j3 f';have v8:=j7.upd a5 f7;have o2:=l3.slU j5 j3 f';have o0:=l2.slU j4 a5 f7
   have n9:TabsD p3 l1 [(e0,d9),(d',d8)] [A.1,B.1] [A.2,B.2]:=⟨l8,rfl,rfl,fun i hi=>by
    match i,hi with
    |0,_=>exact⟨by rw[ay,ay];exact v'.rows,by rw[ay,ay];exact o2,by rw[ay,ay];exact r8⟩
    |1,_=>exact⟨by rw[bA,bA,ay,ay];exact v8.rows,by rw[bA,bA,ay,ay];exact o0,by rw[bA,bA,ay,ay];exact r7⟩⟩
   refine zc call19 (yv [(e0,d9),(d',d8)] [A.1,B.1] [A.2,B.2] l1 p3 n9 (by simp)) ?_;rintro gv k' ⟨c8,v5,i6⟩;obtain⟨many,hg,m4⟩:=pS [A.1,B.1];obtain⟨g,p6⟩:∃g,g=bE [A.1,B.1]:=⟨_,rfl⟩
   rw[<-p6]at hg m4 c8;have x5:∀T∈[A,B],∀p,p<T.1.length->∀i j,i<37->j<37->nth g i=nth g j->nth (nth T.1 p) i=nth (nth T.1 p) j:=fun T hT p hp i j hi hj e=>by
    refine xy (tabs:=[A.1,B.1]) (fun rows e2 r hr=>?_) ((m4 i j hi hj).1 e) T.1 ?_ _ (aI hp)
    ·have o3:∃w0,JY rows w0:=by
      rcases J8.1 e2 with rfl|e2
      ·exact⟨_,r8⟩
      rw[ka.1 e2];exact⟨_,r7⟩
     obtain⟨w0,o3⟩:=o3;obtain⟨q,hq,rfl⟩:=cG hr;have h1:=(o3.row q hq).2 i hi;have h2:=(o3.row q hq).2 j hj;have:=o3.le;omega
    rcases J8.1 hT with rfl|hT
    ·simp
    rw[ka.1 hT];simp
   have u6:Jr (fun _=>False) O14 p3 O14 k':=aa (fun h=>h) O14 v5;have b6:=g'.trans u6;have e1:=l4.upd b6 zd (fun h=>h);have v0:=o7.upd b6;have y1:=c8.one;have i8:=i6.free c8 (fun x _=>by simp) (o7.upd g');refine zh ?_;refine aj (j:=4) e1 rfl (Lu _) y1 rfl rfl rfl ?_;have h5:Jr (fun j=>j=3) O14 k' O14 (k'.setCell ⟨tb,4,none⟩ gv):=Kx zd e1.tag rfl;have c7:KS O14 (k'.setCell ⟨tb,4,none⟩ gv) 3 tb (bn (cV li) (cV lk) (jL ts xs.length) (xs.length:Nat) gv dz dz).toArray 35:=e1.set 4 _;generalize k'.setCell ⟨tb,4,none⟩ gv=w18 at *;have e7:=c8.upd i8 h5;have i7:=i8.upd h5;have o6:=v0.upd h5;have a0:=(b6.mono (S':=fun q=>q=3) (fun _ h=>h.elim) zd).trans h5;have c':=j1.upd a0 zd zd;have c9:=i'.upd a0 zd zd;have m9:=a4.upd a0 zd zd;have j2:=d2.trans (a0.mono (fun _ h=>zo) zd);have f9:=(b9.mono (S':=fun q=>q=3\/q=7\/q=8) (fun _ h=>.inr h) zd).trans (a0.mono (fun _ h=>.inl h) zd);have f6:=(b7.mono (S':=fun q=>q=3\/q=8) (fun _ h=>.inr h) zd).trans (a0.mono (fun _ h=>.inl h) zd);have v9:=j8.upd j3 f9;have v7:=j7.upd a5 f6;have o1:=l3.slU j5 j3 f9;have n':=l2.slU j4 a5 f6;refine zh ?_;have d4:w18.drew.cell? (nA tb 4)=some gv:=c7.cell 4 rfl;refine aG (fun W=>W.cell? (nA tb 4)=some gv/\(∀j u,[e0,d9][j]? = some u->W.cell? (nA ab j)=some u)/\∀j u,[d',d8][j]? = some u->W.cell? (nA bb j)=some u) 12 rfl zk ?_;refine zin ⟨d4,c'.drew.cellsAdd,c9.drew.cellsAdd⟩ fun zS=>?_
   refine zrf 0 rfl zS rfl ?_;refine zt 1 rfl zS (fun w1 a6=>RV.ld a6.1 rfl) ?_
   refine zt 2 rfl zS (fun w1 a6=>af (us:=[e0,d9]) a6.2.1 (KG _) (JB _) rfl) ?_;refine zrf 4 rfl zS rfl ?_
   refine zt 5 rfl zS (fun w1 a6=>RV.ld a6.1 rfl) ?_;refine zt 6 rfl zS (fun w1 a6=>af (us:=[d',d8]) a6.2.2 (KG _) (JB _) rfl) ?_
   have g3:Jr (fun _=>False) O14 w18 O14 w18.drew:=aa (fun h=>h) O14 (J7 w18).drew;refine Jj 3 zk rfl ?_;refine zc call20 (vV g many gv e0 d9 A.1 A.2 w18.drew hg e7.drew (v9.ext (J7 w18).drew).rows o1.drew r8 (x5 A (by simp))) ?_;rintro _ r9 ⟨lc,rfl,y',t4,o9⟩;have d5:Jr (fun _=>False) O14 w18 O14 r9:=g3.trans (aa (fun h=>h) O14 o9);have a3:Ki w18 r9:=(J7 w18).drew.trans o9;refine zh ?_;refine ae (⟨a3.cell (c7.cell 4 rfl),(c'.upd d5 zd (fun h=>h)).cellsAdd,(c9.upd d5 zd (fun h=>h)).cellsAdd⟩) ?_;refine zrf 8 rfl (⟨a3.cell (c7.cell 4 rfl),(c'.upd d5 zd (fun h=>h)).cellsAdd,(c9.upd d5 zd (fun h=>h)).cellsAdd⟩) rfl ?_;refine Jj 7 zk rfl ?_;refine zc call20 (vV g many gv d' d8 B.1 B.2 r9 hg (e7.ext a3) (v7.ext a3).rows (n'.ext a3) r7 (x5 B (by simp))) ?_;rintro _ k9 ⟨rc,rfl,y9,e3,o8⟩;have b5:Jr (fun _=>False) O14 w18 O14 k9:=d5.trans (aa (fun h=>h) O14 o8);have a8:=c7.upd b5 zd (fun h=>h);have j0:=c'.upd b5 zd (fun h=>h);have i9:=c9.upd b5 zd (fun h=>h);have m8:=m9.upd b5 zd (fun h=>h);have m3:=y'.ext o8;refine zh ?_;refine ae (⟨a8.cell 4 rfl,j0.cellsAdd,i9.cellsAdd⟩) ?_;obtain⟨u1,b4,k1,n1,t1,t6,s5,k4,t8,t3,w8⟩:=m3;obtain⟨u2,d6,k2,n2,t2,s',s4,k3,t7,t0,w7⟩:=y9;subst t6;subst s';have q1:=s5.one;have q2:=k4.one;have q3:=t8.one;have q4:=t3.one;have q5:=w8.one;have r1:=s4.one;have r2:=k3.one;have r3:=t7.one;have r4:=t0.one;have r5:=w7.one;obtain⟨pa,x3⟩:∃pa,pa=dq g many A.1:=⟨_,rfl⟩
   obtain⟨pb,x0⟩:∃pb,pb=dq g many B.1:=⟨_,rfl⟩
   rw[<-x3]at s5 k4 t8 t3 t4 ⊢;rw[<-x0]at s4 k3 t7 t0 e3 ⊢;obtain⟨c5,m'⟩:∃c5,c5=jL ts xs.length:=⟨_,rfl⟩
   rw[<-m']at a8;refine Jj 9 zk rfl ?_;refine ew (us:=#[nI pa.width,u1,b4,k1,n1,t1]) 5 (bn (cV li) (cV lk) c5 (xs.length:Nat) gv [nI pa.width,u1,b4,k1,n1,t1] dz).toArray a8 rfl (by show 5+6<=17;omega) (Kl _) (by simp only[J3,q1,q2,q3,q4,q5];rfl) rfl rfl rfl ?_;have a7:=a8.setRow (us:=(bn (cV li) (cV lk) c5 (xs.length:Nat) gv [nI pa.width,u1,b4,k1,n1,t1] dz).toArray);have h4:Jr (fun j=>j=3) O14 k9 O14 (k9.setRow tb (bn (cV li) (cV lk) c5 (xs.length:Nat) gv [nI pa.width,u1,b4,k1,n1,t1] dz).toArray):=J5 zd a8.tag rfl;generalize k9.setRow tb (bn (cV li) (cV lk) c5 (xs.length:Nat) gv [nI pa.width,u1,b4,k1,n1,t1] dz).toArray=w21 at *;have f3:=j0.upd h4 zd zd;have e9:=i9.upd h4 zd zd;have m7:=m8.upd h4 zd zd;refine zh ?_;refine ae (⟨a7.cell 4 rfl,f3.cellsAdd,e9.cellsAdd⟩) ?_;refine zrf 10 rfl (⟨a7.cell 4 rfl,f3.cellsAdd,e9.cellsAdd⟩) rfl ?_;refine Jj 11 zk rfl ?_;refine ew (us:=#[nI pb.width,u2,d6,k2,n2,t2]) 11 (bn (cV li) (cV lk) c5 (xs.length:Nat) gv [nI pa.width,u1,b4,k1,n1,t1] [nI pb.width,u2,d6,k2,n2,t2]).toArray a7 rfl (by show 11+6<=17;omega) (Kl _) (by simp only[J3,r1,r2,r3,r4,r5];rfl) rfl rfl rfl ?_;have i0:=a7.setRow (us:=(bn (cV li) (cV lk) c5 (xs.length:Nat) gv [nI pa.width,u1,b4,k1,n1,t1] [nI pb.width,u2,d6,k2,n2,t2]).toArray)
   have h3:Jr (fun j=>j=3) O14 w21 O14 (w21.setRow tb (bn (cV li) (cV lk) c5 (xs.length:Nat) gv [nI pa.width,u1,b4,k1,n1,t1] [nI pb.width,u2,d6,k2,n2,t2]).toArray):=J5 zd a7.tag rfl;generalize w21.setRow tb (bn (cV li) (cV lk) c5 (xs.length:Nat) gv [nI pa.width,u1,b4,k1,n1,t1] [nI pb.width,u2,d6,k2,n2,t2]).toArray=w22 at *;have e8:=m7.upd h3 zd zd;refine zh ?_;refine ae (⟨i0.cell 4 rfl,(f3.upd h3 zd zd).cellsAdd,(e9.upd h3 zd zd).cellsAdd⟩) ?_;have go2:=y1;have n0:(bn (cV li) (cV lk) c5 (xs.length:Nat) gv [nI pa.width,u1,b4,k1,n1,t1] [nI pb.width,u2,d6,k2,n2,t2]).toArray.toList.all Jn=true:=by
    simp only[bn,M4,Ma,J3,go2,q1,q2,q3,q4,q5,r1,r2,r3,r4,r5];rfl
   refine K1 zk ?_;refine zh ?_
   refine zv (af (us:=bn (cV li) (cV lk) c5 (xs.length:Nat) gv [nI pa.width,u1,b4,k1,n1,t1] [nI pb.width,u2,d6,k2,n2,t2]) i0.cellsAdd (KP _) (JV _) rfl) ?_;refine zsb (us:=(bn (cV li) (cV lk) c5 (xs.length:Nat) gv [nI pa.width,u1,b4,k1,n1,t1] [nI pb.width,u2,d6,k2,n2,t2]).toArray) e8 (JV _) n0 ?_
   have j':=LC (us:=(bn (cV li) (cV lk) c5 (xs.length:Nat) gv [nI pa.width,u1,b4,k1,n1,t1] [nI pb.width,u2,d6,k2,n2,t2]).toArray) e8;have k6:Jr (fun j=>j=2) O14 w22 O14 (w22.setRow cb (bn (cV li) (cV lk) c5 (xs.length:Nat) gv [nI pa.width,u1,b4,k1,n1,t1] [nI pb.width,u2,d6,k2,n2,t2]).toArray):=J5 zd e8.tag rfl;have hU20z:=((h4.mono (S':=fun q=>q=2\/q=3) (fun _ h=>.inr h) zd).trans (h3.mono (fun _ h=>.inr h) zd)).trans (k6.mono (fun _ h=>.inl h) zd);have hPL:PartV k9 [nI pa.width,u1,b4,k1,n1,t1] pa A.2:=⟨u1,b4,k1,n1,t1,rfl,s5,k4,t8,t3,w8⟩
   have hPR:PartV k9 [nI pb.width,u2,d6,k2,n2,t2] pb B.2:=⟨u2,d6,k2,n2,t2,rfl,s4,k3,t7,t0,w7⟩
   have v4:=hPL.upd t4 o6.drew hU20z;have v3:=hPR.upd e3 (o6.upd d5) hU20z;have z2:=(e7.upd i7 b5).upd (i7.upd b5) hU20z;have i4:=j2.size;have l7:=a3.size;refine zh ?_;refine bp rfl rfl rfl (j'.cellsAdd) (KP _) (JV _) (⟨((j2.trans (b5.mono (fun _ h=>h.elim) zd)).trans (hU20z.mono (fun _ h=>zo) zd)).ext,Cl l' z9 z4 x8 x7 z' z5 hA hB p6 hg.cnt x3 x0 m' hl z2 v4 v3 (i6.mono (KJ d2.size o'.size)) (fun v hv=>(t4 v hv).mono i4) (fun v hv=>(e3 v hv).mono (KJ i4 l7))⟩)
  refine zTH rfl ((by simpa using p7)) ?_;refine zv (KH (cells:=oC) D9 (JQ _) rfl rfl) ?_
  refine zsa (us:=oC) a4 (JV _) ?_;have j':=LC (us:=oC) a4;have k6:Jr (fun j=>j=2) O14 w15 O14 (w15.setRow cb oC):=J5 zd a4.tag rfl;refine zh ?_
  refine bp rfl rfl rfl (j'.cellsAdd) (KP _) (JV _) (⟨(d2.trans (k6.mono (fun _ h=>zo) zd)).ext,.inr ⟨l',.inr ⟨(.inr (z8 p7)),rfl⟩⟩⟩)
 refine az (d:=66) rfl (b':=true) ((by simpa using p8)) ?_;refine zh ?_
 refine zTH rfl rfl ?_;refine zv (KH (cells:=oC) D9 (JQ _) rfl rfl) ?_
 refine zsa (us:=oC) a4 (JV _) ?_;have j':=LC (us:=oC) a4;have k6:Jr (fun j=>j=2) O14 w15 O14 (w15.setRow cb oC):=J5 zd a4.tag rfl;refine zh ?_
 refine bp rfl rfl rfl (j'.cellsAdd) (KP _) (JV _) (⟨(d2.trans (k6.mono (fun _ h=>zo) zd)).ext,.inr ⟨l',.inr ⟨(.inl (ha0 p8)),rfl⟩⟩⟩)
end Go.Proofs.YtjemhjcngaokpaaGreatDoor
end
section
namespace Go.VL
section
variable{P:Lr}{N:Nat}{st:St}{w:ln}{t xt yt:Ke}{x y:Mr}{k:IntKind}{m n:Int}
theorem FN(hx:ev st x=some (.int k m)):RV P N (.unOp .neg xt x) t st w (.int k (k.wrap (-m))):=
 fun a ha a0 p e g=>by simp only[execOp,ha.ev hx];simp[Op.unary,Op.intArith,pure]
theorem FO(hx:ev st x=some (.int k m))(hy:ev st y=some (.int k n)):RV P N (.binOp .mul xt x y yt) t st w (.int k (k.wrap (m*n))):=
 eY hx hy DY
end
theorem GM(b j:Nat):nA b j=⟨b,j,none⟩:=by simp only[Lj];split<;>simp_all
end Go.VL
namespace Go.Proofs.YtjemhjcngaokpaaGreatDoor
open Go.VL Go.Proofs
set_option maxRecDepth 10000
theorem Dh(x:Nat)(w:ln)(hx:x<18446744073709551616)(h0:x≠0)(hT:Mp 0 M6 w):KM Ju 90 [.int .u64 (x:Nat)] w fun v w'=>v=nI ((L3 64 x:Nat):Int)/\w'=w:=by
 obtain⟨a0,hk⟩:=Ml 64 x h0 hx;obtain⟨hi,a1⟩:=Lib.deBruijn64_at _ hk;have hp:2^L3 64 x<18446744073709551616:=KX (JZ zd hk) zd;generalize L3 64 x=k at *;rw[show(2^64:Nat)=18446744073709551616 from by decide]at a0;generalize 2^k=pk at *;generalize a2:pk*285870213051353865 % 18446744073709551616 / 288230376151711744=idx at *;have a3:w.cell? (nA 0 idx)=some (.int .u8 (k:Int)):=by
  have:=hT idx hi;rw[a1]at this;rw[GM];exact this
 refine J1 func90 ntmps90 rfl rfl ?_;refine zh ?_
 refine zFH rfl ((by rw[beq_eq_false_iff_ne];omega)) ?_;refine zv (FN rfl) ?_
 refine zv (lV (a:=x) (b:=18446744073709551616-x) rfl rfl rfl (by rw[LH];omega) (by show _<=(18446744073709551615:Int);omega) (by show _<=(18446744073709551615:Int);omega)) ?_;rw[a0];refine zv (FO rfl rfl) ?_
 rw[show Mf.wrap (((pk:Nat):Int)*285870213051353865)=((pk*285870213051353865 % 18446744073709551616:Nat):Int)from by rw[LH];omega];refine zv (gq (a:=pk*285870213051353865 % 18446744073709551616) (b:=58) rfl rfl rfl rfl zd) ?_;rw[show pk*285870213051353865 % 18446744073709551616 / 2^58=idx from a2];refine zvH (fo underlying219 (sizeOf5 _) rfl rfl idx rfl hi) ?_;refine zvH (BV underlying5 MQ rfl (KC zo)) ?_;refine ah rfl rfl (⟨rfl,rfl⟩)
theorem qY(s c:Nat)(w:ln)(hs:s<18446744073709551616)(hc:c<64):KM Ju 49 [.int .u64 (s:Nat),nI (c:Nat)] w fun v w'=>v=.bool (s.testBit c)/\w'=w:=by
 have hd:s / 2^c<=s:=Nat.div_le_self _ _;have e:(((s / 2^c &&& 1:Nat):Int)==1)=s.testBit c:=by
  rw[Nat.and_one_is_mod,Nat.testBit_eq_decide_div_mod_eq]
  rcases Nat.mod_two_eq_zero_or_one (s / 2^c)with h|h<;>rw[h]<;>rfl
 refine J1 func49 ntmps49 rfl rfl ?_;refine zh ?_
 refine zv (gq (a:=s) (b:=c) rfl rfl rfl rfl (by show _<=64;omega)) ?_;refine zvH (lV (a:=s / 2^c) (b:=1) rfl rfl rfl rfl (by show _<=(18446744073709551615:Int);omega) zd) ?_
 refine ah rfl rfl (⟨by rw[<-e],rfl⟩)
theorem jS(cs:List ix)(p:PSt)(tl:List Nat)(r c:Nat)(w:ln)(h:PartV w cs p tl)(ok:OkP p)(hr:r<p.usual.length)(a9:c<64):
  KM Ju 48 [.agg cs.toArray,nI (r:Nat),nI (c:Nat)] w fun v w'=>v=nI (getM p r c)/\Ki w w':=by
 obtain⟨uv,bv,kv,nv,tv,rfl,a3,a7,a5,a4,a8⟩:=h;obtain⟨o1,o2,o3,o4,o5,o6,o7⟩:=ok;have a6:=o7 r zo;obtain⟨b,a2⟩:=KF a6.1;have hg:getM p r c=if b+c<p.check.length/\nth p.check (b+c)=r then nth p.next (b+c)else nth p.usual r:=by simp only[getM,a2];rfl
 refine J1 func48 ntmps48 rfl rfl ?_;refine zh ?_
 refine aE (ar w) 1 zo rfl rfl ?_;intro db w1 O1 a1 a' b0 a0;have hu:=a3.ext a0;have hb:=a7.ext a0;have hk:=a5.ext a0;have hn:=a4.ext a0;have c1:w1.cell? ((nA db 0).add 1)=some uv:=a1.cell 1 rfl;have c2:w1.cell? ((nA db 0).add 2)=some bv:=a1.cell 2 rfl;have c3:w1.cell? ((nA db 0).add 3)=some kv:=a1.cell 3 rfl;have c4:w1.cell? ((nA db 0).add 4)=some nv:=a1.cell 4 rfl;have k1:w1.cell? (adr bv 1 r)=some (nI (b:Int)):=by have:=hb.cell (i:=r) (j:=0) zo rfl;rw[ax,a2]at this;exact this
 refine zh ?_
 by_cases h1:b+c<p.check.length
 ·refine az (d:=22) rfl (b':=true) (decide_eq_true zo) ?_;have k2:w1.cell? (adr kv 1 (b+c))=some (nI (nth p.check (b+c))):=by have:=hk.cell (i:=b+c) (j:=0) h1 rfl;rwa[ax]at this
  have k3:w1.cell? (adr nv 1 (b+c))=some (nI (nth p.next (b+c))):=by have:=hn.cell (i:=b+c) (j:=0) zo rfl;rwa[ax]at this
  refine zh ?_;refine zC ?_ ?_
  ·intro he;replace he:nth p.check (b+c)=r:=by simpa using he
   rw[if_pos ⟨h1,he⟩]at hg;refine zh ?_;refine ah rfl rfl (⟨by rw[hg],a0⟩)
  intro he;replace he:¬nth p.check (b+c)=r:=by simpa using he
  rw[if_neg (fun h=>he h.2)]at hg;have k4:w1.cell? (adr uv 1 r)=some (nI (nth p.usual r)):=by have:=hu.cell (i:=r) (j:=0) hr rfl;rwa[ax]at this
  refine zh ?_;refine ah rfl rfl (⟨by rw[hg],a0⟩)
 rw[if_neg (fun h=>h1 h.1)]at hg;have k4:w1.cell? (adr uv 1 r)=some (nI (nth p.usual r)):=by have:=hu.cell (i:=r) (j:=0) hr rfl;rwa[ax]at this
 refine az (d:=22) rfl (b':=false) (decide_eq_false zo) ?_;refine zh ?_
 refine zFH rfl rfl ?_;refine ah rfl rfl (⟨by rw[hg],a0⟩)
end Go.Proofs.YtjemhjcngaokpaaGreatDoor
end
namespace Go.Proofs.YtjemhjcngaokpaaGreatDoor
def Fm(l:List Int):Int:=l.foldl max (nth l 0)
theorem CA(l:List Int)(sv:ix)(w:ln)(h:K0 w sv l)(a1:0<l.length):KM Ju 77 [sv] w fun v w'=>v=nI (Fm l)/\w'=w:=by
 have hl:=h.len_le;have m0:w.cell? (adr sv 1 0)=some (nI (nth l 0)):=by have:=h.cell (j:=0) a1 rfl;rwa[ax]at this
 have e1:nth l 0=(l.take 1).foldl max (nth l 0):=by
  rw[aM a1];simp
 have a2:Fm l=(l.take l.length).foldl max (nth l 0):=by rw[Jk];rfl
 rw[a2];obtain⟨z0,a3⟩:∃z,z=nth l 0:=⟨_,rfl⟩
 rw[<-a3]at m0 e1 ⊢;refine J1 func77 ntmps77 rfl rfl ?_;refine zh ?_;refine zFH rfl ((decide_eq_false zo)) ?_;refine zlp (fun z:Nat×Int=>[(0,sv),(3,nI z.2),(4,nI z.1)]) (fun z=>w) (fun z=>1<=z.1/\z.1<=l.length/\z.2=(l.take z.1).foldl max z0) (fun z=>l.length-z.1) (1,z0) (⟨JG _,a1,e1⟩) ?_;rintro⟨q,m⟩ ⟨a4,hq,hm⟩;dsimp only at a4 hq hm ⊢;refine zh ?_;refine zC ?_ ?_
 ·intro a0;replace a0:q<l.length:=dT a0;have m1:w.cell? (adr sv 1 q)=some (nI (nth l q)):=by have:=h.cell (j:=0) a0 rfl;rwa[ax]at this
  refine zh ?_;refine zvH (jN rfl rfl) ?_
  refine zxd (q+1,max m (nth l q)) (⟨by dsimp only;omega,a0,by dsimp only;rw[aM a0,Jl,<-hm];rfl⟩)
 intro a5;obtain rfl:q=l.length:=dF a5;refine zh ?_;refine ah rfl rfl (⟨by rw[hm],rfl⟩)
theorem oP{F:LX}(hF:∀(args:Array ix) (w:ln),(callFunc F args).run Ju w=.ok (.enter F args) w)(cs:Array ix)(l:List (Nat))(sv:ix)(q:Nat->Bool)(w:ln)(h:Sl fK 1 w sv l) 
  (hq:∀i,i<l.length->∀w',Ki w w'->KM Ju F ([(fun n:Nat=>LQ .u64 (n:Int)) (nth l i)]++cs.toList) w' fun v w''=>v=.bool (q i)/\Ki w' w'') :
  KM Ju 126 [sv,.func (.func F) #[] cs] w fun v w'=>v=nI (dC q l.length)/\Ki w w':=by
 have hl:=h.len_le;refine J1 func126 ntmps126 rfl rfl ?_;refine zh ?_;refine zlp (fun x:Nat×ln=>[(0,sv),(1,.func (.func F) #[] cs),(7,nI l.length),(8,nI x.1)]) (fun x=>x.2) (fun x=>x.1<=l.length/\Ki w x.2/\∀i,i<x.1->q i=false) (fun x=>l.length-x.1) (0,w) (⟨J6 _,J7 _,fun i hi=>absurd hi (JF i)⟩) ?_;rintro⟨k,w1⟩ ⟨hk,hE,a1⟩;dsimp only at hk hE a1 ⊢;have h1:=h.ext hE;refine zh ?_;refine zC ?_ ?_
 ·intro a0;replace a0:k<l.length:=dT a0;refine zh ?_;refine zv (RV.ld (by have:=h1.cell (i:=k) (j:=0) a0 rfl;rwa[ax]at this) rfl) ?_;refine du rfl hF rfl (hq k a0 w1 hE) rfl ?_;rintro v w2 ⟨rfl,a3⟩;refine zh ?_;refine zC ?_ ?_
  ·intro hy;refine zh ?_;refine ah rfl rfl (⟨by rw[cD a0 hy a1],hE.trans a3⟩)
  intro hy;refine zh ?_;refine zxd (k+1,w2) (⟨a0,hE.trans a3,fun i hi=>(Jz.1 hi).elim (a1 i) (fun e=>by rw[e];exact hy)⟩)
 intro a2;replace a2:l.length<=k:=dF a2;refine zh ?_;refine ah rfl rfl (⟨by rw[cC fun i hi=>a1 i zo],hE⟩)
theorem lO{F:LX}(hF:∀(args:Array ix) (w:ln),(callFunc F args).run Ju w=.ok (.enter F args) w)(cs:Array ix)(l:List (Nat))(sv:ix)(q:Nat->Bool)(w:ln)(h:Sl fK 1 w sv l) 
  (hq:∀i,i<l.length->∀w',Ki w w'->KM Ju F ([(fun n:Nat=>LQ .u64 (n:Int)) (nth l i)]++cs.toList) w' fun v w''=>v=.bool (q i)/\Ki w' w'') :
  KM Ju 86 [sv,.func (.func F) #[] cs] w fun v w'=>v=.bool (jc q l.length)/\Ki w w':=by
 refine J1 func86 ntmps86 rfl rfl ?_;refine zh ?_
 refine zc call126 (oP hF cs l sv q w h hq) ?_;rintro v w1 ⟨rfl,hE⟩;refine zh ?_
 refine ah rfl rfl (⟨by rw[firstN_any],hE⟩)
theorem Bg(b a0:Nat)(a:Lm)(w:ln)(hr:a0<=64)(hc:w.cell? a=some (nI (a0:Nat))):KM Ju 87 [.int .u64 (b:Nat),.pointer (some a)] w fun v w'=>v=.bool (!(b / 2^a0==0))/\w'=w:=by
 have e:((((b / 2^a0:Nat):Int)) != 0) = !(b / 2^a0==0):=by
  generalize b / 2^a0=q
  by_cases h:q=0
  ·subst h;rfl
  rw[beq_eq_false_iff_ne.2 h];simpa using h
 refine J1 func87 ntmps87 rfl rfl ?_;refine zh ?_
 refine zvH (gq (a:=b) (b:=a0) rfl rfl rfl rfl (by show _<=64;omega)) ?_;refine ah rfl rfl (⟨by rw[<-e],rfl⟩)
theorem Bf(a0:List Int)(rv lv:ix)(n:Nat)(a:Lm)(w:ln)(h:K0 w rv a0)(a2:0<a0.length)(a1:Shape lv n)(hc:w.cell? a=some lv):KM Ju 88 [rv,.pointer (some a)] w fun v w'=>v=.bool (decide ((n:Int)<=Fm a0))/\Ki w w':=by
 refine J1 func88 ntmps88 rfl rfl ?_;refine zh ?_
 refine WC.still zk zk ?_;refine zh ?_
 refine WS.call call77 rfl (CA a0 rv _ h.drew a2) rfl ?_;refine zh ?_
 refine zwH (bh a1 LO rfl) ?_;refine WS.nil ?_
 refine zh ?_;refine ah rfl rfl (⟨rfl,(J7 w).drew⟩)
def kH(p:PSt)(tl:List Nat)(many a0:Nat):Bool:=
 cW p&&(p.width==(many:Int)) && !((ga p).length==0)&&(tl.length==(ga p).length) && !(jc (fun i=>!(nth tl i / 2^a0==0)) tl.length) && !(jc (fun i=>decide (((ga p).length:Int)<=Fm (nth (ga p) i))) (ga p).length)
theorem pW(p:PSt):(ga p).length=p.usual.length/\∀i,i<p.usual.length->(nth (ga p) i).length=p.width.toNat:=by
 refine⟨by simp[ga],fun i hi=>?_⟩;unfold ga;rw[gg _ _ _ hi];simp[B1]
theorem tC(cs:List ix)(p:PSt)(tl:List Nat)(many a0:Nat)(w:ln)(h:PartV w cs p tl)(hr:a0<=64):
  KM Ju 47 [.agg cs.toArray,nI (many:Nat),nI (a0:Nat)] w fun v w'=>v=.bool (kH p tl many a0)/\Ki w w':=by
 obtain⟨uv,bv,kv,nv,tv,rfl,d3,d9,d8,d7,c'⟩:=h;obtain⟨a5,d4⟩:=pW p;have c9:=c'.len_le;refine J1 func47 ntmps47 rfl rfl ?_;refine zh ?_;refine aE (ar w) 1 zo rfl rfl ?_;intro db w1 O1 c7 e3 e5 f6;refine aE e5 2 zo rfl rfl ?_;intro yb w2 O2 b7 d2 e4 f5;have a9:=c7.upd d2 zd zd;have a':=(e3.mono (S':=fun q=>1<=q) (fun _ h=>zo) zd).trans (d2.mono (fun _ h=>zo) zd);have a4:=a'.ext
 have e8:∀(j:Nat) (u:ix),[nI p.width,uv,bv,kv,nv][j]? = some u->w2.cell? ((nA db 0).add j)=some u:=fun j u hu=>a9.cellsAdd j u (by
  match j,hu with
  |0,hu=>exact hu
  |1,hu=>exact hu
  |2,hu=>exact hu
  |3,hu=>exact hu
  |4,hu=>exact hu)
 refine zh ?_;refine zv (af (us:=[nI p.width,uv,bv,kv,nv]) e8 (KQ _) (JH _) rfl) ?_
 refine zc call85 (sK p _ w2 ⟨uv,bv,kv,nv,rfl,d3.ext a4,d9.ext a4,d8.ext a4,d7.ext a4⟩) ?_;rintro _ w3 ⟨rv,rfl,a7,e7⟩;have b4:Jr (fun _=>False) O2 w2 O2 w3:=aa (fun h=>h) O2 e7;have f3:=e4.upd b4;have b6:=b7.upd b4 zd (fun h=>h);have c6:=a9.upd b4 zd (fun h=>h);have c8:=a'.trans (b4.mono (fun _ h=>h.elim) zd);have ro:rv.oneCell'=true:=by
  split at a7
  ·obtain⟨b1,h1,_⟩:=a7;exact h1.one
  rw[a7];rfl
 refine zh ?_;refine aw (ar w3) 3 zo (zeroValue70 _) rfl ?_
 intro lb w4 O4 a6 e0 e' f4;refine aj (j:=0) a6 rfl (sizeOf70 _) ro rfl rfl rfl ?_;have d':Jr (fun j=>j=3) O4 w4 O4 (w4.setCell ⟨lb,0,none⟩ rv):=Kx zd a6.tag rfl;have c5:KS O4 (w4.setCell ⟨lb,0,none⟩ rv) 3 lb #[rv] 70:=a6.set 0 _;have a3:Ki w3 (w4.setCell ⟨lb,0,none⟩ rv):=(e0.trans d').ext;generalize w4.setCell ⟨lb,0,none⟩ rv=w5 at *;have a1:Ki w w5:=c8.ext.trans a3;have a8:=c6.ext a3;have b5:=b6.ext a3;have d0:w5.cell? (((nA db 0)).add 0)=some (nI p.width):=a8.cell 0 rfl;have d5:w5.cell? (nA db 5)=some tv:=a8.cell 5 rfl;have l0:w5.cell? ⟨lb,0,none⟩=some rv:=c5.cell 0 rfl;have y0:w5.cell? ⟨yb,0,none⟩=some (nI (a0:Nat)):=b5.cell 0 rfl;have b8:=c'.ext a1;refine zh ?_
 cases b3:cW p with
 |false=>
  refine az (d:=17) rfl (b':=true) (rfl) ?_;refine zh ?_
  refine zTH rfl rfl ?_;refine ah rfl rfl (⟨by unfold kH;rw[b3];rfl,a1⟩)
 |true=>
  rw[b3,if_pos rfl]at a7;obtain⟨b1,d1,a2,d6⟩:=a7.ext a3;have ok:=okP p b3;have e9:=ok.w1;refine az (d:=17) rfl (b':=false) (rfl) ?_;refine zh ?_
  by_cases h1:p.width=(many:Int)
  ·refine az (d:=24) rfl (b':=false) ((by rw[h1];simp)) ?_;refine zh ?_
   by_cases h2:p.usual.length=0
   ·refine az (d:=29) rfl (b':=true) ((by rw[a2,a5,h2];rfl)) ?_;refine zh ?_
    refine zTH rfl rfl ?_;refine ah rfl rfl (⟨by unfold kH;rw[a5,h2];simp,a1⟩)
   refine az (d:=29) rfl (b':=false) ((by rw[a2,a5,beq_eq_false_iff_ne];omega)) ?_;refine zh ?_
   by_cases h3:tl.length=p.usual.length
   ·refine zFH rfl ((by rw[a2,a5,h3];simp)) ?_;refine zv (dw rfl rfl) ?_
    refine zc call86 (lO call87 #[nP yb] tl tv (fun i=>!(nth tl i / 2^a0==0)) w5 b8 (fun i hi w' b2=>(Bg (nth tl i) a0 _ w' hr (b2.cell y0)).mono fun v w'' ⟨e1,e2⟩=>⟨e1,e2▸J7 _⟩)) ?_;rintro _ w6 ⟨rfl,b0⟩;refine zh ?_
    cases h4:jc (fun i=>!(nth tl i / 2^a0==0)) tl.length with
    |true=>
     refine zTH rfl rfl ?_;refine ah rfl rfl (⟨by unfold kH;rw[h4];simp,a1.trans b0⟩)
    |false=>
     have b9:=d1.ext b0;have l6:w6.cell? ⟨lb,0,none⟩=some rv:=b0.cell l0;refine zFH rfl rfl ?_;refine zv (dw rfl rfl) ?_;refine zc call83 (fM call88 #[nP lb] b1 rv (fun i=>decide (((ga p).length:Int)<=Fm (nth (ga p) i))) w6 b9 (fun i hi w' b2=>by have:=Bf (nth (ga p) i) (nth b1 i) rv b1.length ⟨lb,0,none⟩ w' (((d6 i zo).ext b0).ext b2) (by rw[d4 i zo];omega) d1.sh (b2.cell l6);rw[a2]at this;exact this)) ?_;rintro _ w7 ⟨rfl,e6⟩;refine zh ?_;refine ah rfl rfl (⟨by unfold kH;rw[b3,h1,h4,a5,h3,a2,a5,beq_eq_false_iff_ne.2 h2];simp,(a1.trans b0).trans e6⟩)
   refine zTH rfl ((by rw[a2,a5];simp;omega)) ?_;refine ah rfl rfl (⟨by unfold kH;rw[a5,beq_eq_false_iff_ne.2 h3];simp,a1⟩)
  refine az (d:=24) rfl (b':=true) ((by simpa using h1)) ?_;refine zh ?_
  refine zTH rfl rfl ?_;refine ah rfl rfl (⟨by unfold kH;rw[beq_eq_false_iff_ne.2 h1];simp,a1⟩)
end Go.Proofs.YtjemhjcngaokpaaGreatDoor
section
namespace Go.VL
theorem add_add(b i j:Nat):(nA b i).add j=⟨b,i+j,none⟩:=by simp only[Lj];split<;>split<;>simp_all
end Go.VL
namespace Go.Proofs.YtjemhjcngaokpaaGreatDoor
open Go.VL Go.Proofs
set_option maxRecDepth 10000
structure TabB(w:ln)(b:Nat)(t:TabM)(gv:ix)(lc rc:List ix):Prop where
 cells:∀j u,(bn t.ig t.kp t.br t.rules gv lc rc)[j]? = some u->w.cell? ⟨b,j,none⟩=some u
 groups:K0 w gv t.groups
 left:PartV w lc t.left t.lt
 right:PartV w rc t.right t.rt
section
variable{w:ln}{b:Nat}{t:TabM}{gv:ix}{lc rc:List ix}
theorem TabB.ext{w':ln}(h:TabB w b t gv lc rc)(e:Ki w w'):TabB w' b t gv lc rc:=⟨fun j u hu=>e.cell (h.cells j u hu),h.groups.ext e,h.left.ext e,h.right.ext e⟩
theorem TabB.c0(h:TabB w b t gv lc rc):w.cell? (nA b 0)=some (.int .u64 (t.ig:Int)):=h.cells 0 _ rfl
theorem TabB.c1(h:TabB w b t gv lc rc):w.cell? (nA b 1)=some (.int .u64 (t.kp:Int)):=h.cells 1 _ rfl
theorem TabB.c2(h:TabB w b t gv lc rc):w.cell? (nA b 2)=some (.int .u64 (t.br:Int)):=h.cells 2 _ rfl
theorem TabB.c3(h:TabB w b t gv lc rc):w.cell? (nA b 3)=some (nI t.rules):=h.cells 3 _ rfl
theorem TabB.c4(h:TabB w b t gv lc rc):w.cell? (nA b 4)=some gv:=h.cells 4 _ rfl
theorem TabB.cl(h:TabB w b t gv lc rc):∀(j:Nat) (u:ix),lc[j]? = some u->w.cell? ((nA b 5).add j)=some u:=fun j u hu=>by
 rw[add_add];refine h.cells (5+j) u ?_;have hj:=(Kr.1 hu).1;rw[show bn t.ig t.kp t.br t.rules gv lc rc=[.int .u64 (t.ig:Int),.int .u64 (t.kp:Int),.int .u64 (t.br:Int),nI t.rules,gv]++(lc++rc)from Kv _ _ _];rw[Jt (by simp),show 5+j-_=j from by simp,Ku hj];exact hu
theorem TabB.cr(h:TabB w b t gv lc rc):∀(j:Nat) (u:ix),rc[j]? = some u->w.cell? ((nA b 11).add j)=some u:=fun j u hu=>by
 rw[add_add];refine h.cells (11+j) u ?_;have hl:=h.left.one.1;rw[Jt (by simp[hl]),show 11+j-_=j from by simp[hl]];exact hu
end
theorem vD{w:ln}{b i:Nat}{O:Nat->Nat}{E:Ke}{t:TabM}{gv:ix}{lc rc:List ix}(hb:KS O w i b (bn t.ig t.kp t.br t.rules gv lc rc).toArray E)(h1:K0 w gv t.groups)(h2:PartV w lc t.left t.lt)(h3:PartV w rc t.right t.rt):TabB w b t gv lc rc:=
 ⟨fun j u hu=>hb.cell j (by simpa using hu),h1,h2,h3⟩
def bW(t:TabM):Bool:=
 !(decide (t.rules<0)||decide (40<t.rules)||(gU t.groups==0)) && !(!(t.ig / 2^36==0) || !(t.kp / 2^36==0) || !(t.br / 2^t.rules.toNat==0))&&kH t.left t.lt (gU t.groups) t.rules.toNat&&kH t.right t.rt (gU t.groups) t.rules.toNat
theorem ne0(q:Nat):(((q:Nat):Int) != 0) = !(q==0):=by
 by_cases h:q=0
 ·subst h;rfl
 rw[beq_eq_false_iff_ne.2 h];simpa using h
theorem dR(t:TabM)(v:ix)(w:ln)(h:TabV w v t):KM Ju 22 [v] w fun u w'=>u=.bool (bW t)/\Ki w w':=by
 obtain⟨gv,lc,rc,rfl,b0,a8,a7⟩:=h;obtain⟨ll,lo⟩:=a8.one;obtain⟨rl,ro⟩:=a7.one;refine J1 func22 ntmps22 rfl rfl ?_;refine zh ?_;refine aE (ar w) 1 zo rfl rfl ?_;intro db w1 O1 a3 b3 b4 a1;have hT:=vD (t:=t) a3 (b0.ext a1) (a8.ext a1) (a7.ext a1);have c0:=hT.c0;have c1:=hT.c1;have c2:=hT.c2;have c3:=hT.c3;have c4:=hT.c4;have cl:=hT.cl;have cr:=hT.cr;refine zh ?_;refine zc MD (iG t.groups gv w1 hT.groups) ?_;rintro _ w2 ⟨rfl,a6⟩;rw[a6];clear a6 w2;obtain⟨many,a2⟩:∃many,many=gU t.groups:=⟨_,rfl⟩
 have a9:bW t=(!(decide (t.rules<0)||decide (40<t.rules)||(many==0)) && !(!(t.ig / 2^36==0) || !(t.kp / 2^36==0) || !(t.br / 2^t.rules.toNat==0))&&kH t.left t.lt many t.rules.toNat&&kH t.right t.rt many t.rules.toNat):=by rw[a2];rfl
 rw[a9,<-a2];refine zh ?_
 by_cases h1:t.rules<0
 ·refine az (d:=11) rfl (b':=true) ((decide_eq_true h1)) ?_;refine zh ?_
  refine zTH rfl rfl ?_;refine ah rfl rfl (⟨by rw[decide_eq_true h1];simp,a1⟩)
 refine az (d:=11) rfl (b':=false) ((decide_eq_false h1)) ?_;refine zh ?_
 by_cases h2:40<t.rules
 ·refine az (d:=16) rfl (b':=true) ((decide_eq_true h2)) ?_;refine zh ?_
  refine zTH rfl rfl ?_;refine ah rfl rfl (⟨by rw[decide_eq_true h2];simp,a1⟩)
 obtain⟨rules,a0⟩:∃rules:Nat,t.rules=(rules:Int):=⟨t.rules.toNat,zo⟩
 have a':t.rules.toNat=rules:=zo;refine az (d:=16) rfl (b':=false) ((decide_eq_false h2)) ?_;refine zh ?_
 by_cases h3:many=0
 ·refine zTH rfl ((by rw[h3];rfl)) ?_;refine ah rfl rfl (⟨by rw[h3];simp,a1⟩)
 refine zFH rfl ((by rw[beq_eq_false_iff_ne];omega)) ?_;refine zvH (gq (a:=t.ig) (b:=36) rfl rfl rfl rfl zd) ?_
 by_cases h4:t.ig / 2^36=0
 ·refine az (d:=25) rfl (b':=false) ((by rw[ne0,h4];rfl)) ?_;refine zh ?_
  refine zvH (gq (a:=t.kp) (b:=36) rfl rfl rfl rfl zd) ?_
  by_cases h5:t.kp / 2^36=0
  ·refine az (d:=31) rfl (b':=false) ((by rw[ne0,h5];rfl)) ?_;refine zh ?_
   refine zvH (gq (a:=t.br) (b:=rules) rfl rfl rfl a0 (by show _<=64;omega)) ?_
   by_cases h6:t.br / 2^rules=0
   ·have b2:nI t.rules=nI (rules:Int):=by rw[a0]
    refine zFH rfl ((by rw[ne0,h6];rfl)) ?_;refine zvH (af (us:=lc) cl (Ld _) (by rw[ll];exact Kl _) rfl) ?_
    rw[a0];refine zc call47 (tC lc t.left t.lt many rules w1 hT.left zo) ?_;rintro _ w2 ⟨rfl,a5⟩;have a4:=hT.ext a5;have d3:=a4.c3;have d4:=a4.cr;rw[a0]at d3;refine zh ?_
    cases h7:kH t.left t.lt many rules with
    |false=>
     refine az (d:=45) rfl (b':=false) (rfl) ?_;refine zh ?_
     refine ah rfl rfl (⟨by rw[KB,h7];simp,a1.trans a5⟩)
    |true=>
     refine az (d:=45) rfl (b':=true) (rfl) ?_;refine zh ?_
     refine zvH (af (us:=rc) d4 (Ld _) (by rw[rl];exact Kl _) rfl) ?_;refine zc call47 (tC rc t.right t.rt many rules w2 a4.right zo) ?_
     rintro _ w3 ⟨rfl,b1⟩;refine zh ?_;refine ah rfl rfl (⟨?_,(a1.trans a5).trans b1⟩);rw[KB,h7,h4,h5,h6,decide_eq_false zo,decide_eq_false zo,beq_eq_false_iff_ne.2 h3];simp
   refine zTH rfl ((by rw[ne0,beq_eq_false_iff_ne.2 h6];rfl)) ?_;refine ah rfl rfl (⟨by rw[a',beq_eq_false_iff_ne.2 h6];simp,a1⟩)
  refine az (d:=31) rfl (b':=true) ((by rw[ne0,beq_eq_false_iff_ne.2 h5];rfl)) ?_;refine zh ?_
  refine zTH rfl rfl ?_;refine ah rfl rfl (⟨by rw[beq_eq_false_iff_ne.2 h5];simp,a1⟩)
 refine az (d:=25) rfl (b':=true) ((by rw[ne0,beq_eq_false_iff_ne.2 h4];rfl)) ?_;refine zh ?_
 refine zTH rfl rfl ?_;refine ah rfl rfl (⟨by rw[beq_eq_false_iff_ne.2 h4];simp,a1⟩)
end Go.Proofs.YtjemhjcngaokpaaGreatDoor
end
namespace Go.VL
theorem jU(g:Nat):∀(vs:List ix) (o:Nat) (w:ln),(w.setCells g o vs).os=w.os/\(w.setCells g o vs).tape=w.tape/\(w.setCells g o vs).output=w.output/\(w.setCells g o vs).heap.size=w.heap.size
 |[],_,_=>⟨rfl,rfl,rfl,rfl⟩
 |v::r,o,w=>by
  have h:=jU g r (o+1) (w.setCell ⟨g,o,none⟩ v);refine⟨h.1.trans rfl,h.2.1.trans rfl,h.2.2.1.trans rfl,h.2.2.2.trans ?_⟩;simp[Mc]
theorem je{g:Nat}{E:Ke}:∀(vs:List ix) (o:Nat) (w:ln) (a1:Array ix),w.heap[g]? = some (.cells a1 E (0,0))->∃a0,(w.setCells g o vs).heap[g]? = some (.cells a0 E (0,0))/\a0.size=a1.size
 |[],_,_,a1,h=>⟨a1,h,rfl⟩
 |v::r,o,w,a1,h=>by
  have h2:(w.setCell ⟨g,o,none⟩ v).heap[g]? = some (.cells (a1.setIfInBounds o v) E (0,0)):=by
   simp only[Mc,Array.getElem?_modify,if_pos];rw[h];simp
  obtain⟨a0,h3,h4⟩:=je r (o+1) _ _ h2;exact⟨a0,h3,by rw[h4];simp⟩
inductive WinO{α:Type}(enc:α->List ix)(E:Ke)(sz:Nat)(O:Nat->Nat)(w:ln)(i:Nat):ix->List α->Prop
 |none (a:Option Lm):WinO enc E sz O w i (.slice a 0 0) []
 |some {g off cap:Nat} {cur:Array ix} {l:List α} (tag:O g=i) (blk:w.heap[g]? = some (.cells cur E (0,0))) (fit:off+cap*sz<=cur.size) (len:l.length<=cap) (mx:cap<=maxLen)
  (cells:∀j u,(l.flatMap enc)[j]? = some u->w.cell? ⟨g,off+j,Kp⟩=some u) (hz:∀x∈l,(enc x).length=sz):WinO enc E sz O w i (.slice (L2 ⟨g,off,Kp⟩) l.length cap) l
section
variable{α:Type}{enc:α→List ix}{E:Ke}{sz:Nat}{O:Nat→Nat}{w:ln}{i:Nat}{v:ix}{l:List α}
theorem WinO.nil(enc:α->List ix)(E:Ke)(sz:Nat)(O:Nat->Nat)(w:ln)(i:Nat):WinO enc E sz O w i (.slice .none 0 0) []:=.none .none
theorem qj(h:LF enc E sz O w i v l):WinO enc E sz O w i v l:=by
 obtain⟨⟨⟨hl,hr⟩,ht⟩,hz⟩:=h
 rcases hr with⟨rfl,h0⟩|⟨g,a5,a0,rfl,_,hg,a2,a3,a4,a1⟩
 ·obtain rfl:l=[]:=Kh h0;exact .none .none
 refine .some (ht g rfl) hg zo a2 a3 (fun j u hu=>?_) hz;rw[Lx,cell_of_row w g j a0 E (0,0) hg];rw[<-a1]at hu;have:=List.getElem?_take (l:=a0.toList) (i:=l.length*sz) (j:=j)
 rw[this]at hu
 split at hu
 ·simpa using hu
 cases hu
theorem WinO.upd{S:Nat->Prop}{O':Nat->Nat}{w':ln}(h:WinO enc E sz O w i v l)(u:Jr S O w O' w')(hi:i≠0)(hS:¬S i):WinO enc E sz O' w' i v l:=by
 cases h with
 |none a=>exact .none a
 | @some g off cap cur l tag blk fit len mx cells hz=>
  have hb:=u.blk g (bq blk) (by rw[tag];exact hS);exact .some (by rw[u.tag g (by rw[tag];exact hi),tag]) (by rw[hb];exact blk) fit len mx (fun j x hx=>ij hb (cells j x hx)) hz
theorem WinO.sl(h:WinO enc E sz O w i v l):Sl enc sz w v l:=by
 cases h with
 |none a=>exact⟨⟨a,0,rfl,JG _,zo,fun h=>absurd rfl h⟩,fun i hi=>absurd hi (by simp)⟩
 | @some g off cap cur l tag blk fit len mx cells hz=>
  refine⟨⟨_,cap,rfl,len,by simpa[maxLen]using mx,fun _=>⟨g,off,rfl⟩⟩,fun i hi j u hu=>?_⟩;have:=cells _ u (eJ l hz i hi j u hu);rw[show((adr (.slice (L2 ⟨g,off,Kp⟩) l.length cap) sz i).add j)=⟨g,off+(i*sz+j),Kp⟩from by simp only[adr,Lj];split<;>simp_all[]];exact this
theorem WinO.one(h:WinO enc E sz O w i v l):v.oneCell'=true:=h.sl.one
theorem WinO.tail{x:α}{r:List α}(hp:0<sz)(h:WinO enc E sz O w i v (x::r)):WinO enc E sz O w i (dU v sz 1 (r.length+1)) r:=by
 generalize hl:x::r=l at h
 cases h with
 |none a=>cases hl
 | @some g off cap cur l tag blk fit len mx cells hz=>
  subst hl;simp only[Jq]at len
  by_cases hc:cap=1
  ·have hr:r=[]:=Kh zo;subst hr;subst hc;exact .none _
  have hx:=hz x (by simp);obtain⟨a0,rfl⟩:∃c,cap=c+1:=⟨cap-1,zo⟩
  have e:dU (.slice (L2 ⟨g,off,Kp⟩) (x::r).length (a0+1)) sz 1 (r.length+1)=.slice (L2 ⟨g,off+sz,Kp⟩) r.length a0:=by
   simp only[dU];rw[if_neg zo];simp only[Option.map_some,Lj,La,Nat.add_sub_cancel];rw[if_neg zo]
  rw[e];refine .some tag blk (by rw[MA]at fit;omega) zo zo (fun j u hu=>?_) (fun y hy=>hz y (by simp[hy]))
  have:=cells (sz+j) u (by
   rw[K9,Jt zo,hx,K8]
   exact hu)
  rw[KV];exact this
end
theorem oJ{P:Lr}{w:ln}{T ty E:Ke}{sz bytes:Nat}(he:MH P T E sz bytes){B:Nat}{O:Nat->Nat}(r:KW B O w){i:Nat}{α:Type}{enc:α->List ix}{v:ix}{l:List α}(hw:WinO enc E sz O w i v l) 
  (x:α) (a:Lm) (c:Nat) (hx:∀j u,(enc x)[j]? = some u->w.cell? (a.add j)=some u) (a':(enc x).length=sz) (h1:∀u∈enc x,u.oneCell'=true) (a3:(l.length+1)*bytes<=140737488355328) (b6:l.length+1<=9223372036854775807) (b':i≠0) :
  ∃v' w' O',(MX #[T,T] ty #[v,.slice (some a) 1 c]).run P w=.ok v' w'/\WinO enc E sz O' w' i v' (l++[x])/\Jr (fun k=>k=i) O w O' w':=by
 obtain⟨a1,z,hi,hz,c8,d7,b7⟩:=he.parts;have ht:=he.ht;have hp:=he.pos;subst c8;subst d7;have b8:¬(0=i):=fun h=>b' h.symm
 have fresh:∀ {v':ix} {w':ln} {a7:List ix} {n:Nat} {ls:List α},w'.ownsRow w.heap.size E a1.size v' n a7->n≠0->w.grownBy w' none->n=ls.length->a7=ls.flatMap enc->(∀y∈ls,(enc y).length=a1.size)->∃O',WinO enc E a1.size O' w' i v' ls/\Jr (fun k=>k=i) O w O' w':=by
  intro v' w' a7 n ls a4 hn a5 b3 ho c9
  rcases a4.2 with⟨_,h0⟩|⟨g,a9,a8,rfl,hbg,hg,d9,d4,d3,c7⟩
  ·omega
  refine⟨lB O g i,qj ⟨⟨⟨by rw[<-ho];rw[a4.1,b3],.inr ⟨g,a9,a8,by rw[b3],J6 _,hg,zo,d4,d3,by rw[<-b3,c7,ho]⟩⟩,fun g' c5=>?_⟩,c9⟩,?_⟩
  ·simp only[M7,MF]at c5;subst c5;exact ed _ _ _
  have d0:=bq hg;refine⟨a5.os,a5.tape,a5.output,a5.size,fun b hb _=>a5.block b hb (by simp),fun b hb=>?_,fun b hb=>?_,b8⟩
  ·unfold lB;rw[if_neg];have:=(r.rng b hb).2;omega
  unfold lB at hb
  split at hb
  ·rename_i e;subst e;exact .inr ⟨hbg,d0⟩
  exact .inl hb
 have b5:∀(g off j:Nat),(⟨g,off,none⟩:Lm).add j=⟨g,off+j,none⟩:=fun g off j=>by simp only[Lj];split<;>simp_all
 cases hw with
 |none a0=>
  cases a0 with
  |none=>
   obtain⟨v',w',O',a2,b2,b1⟩:=eZ (P:=P) (ty:=ty) he r (RowO.nil O w i E a1.size) a 1 c (enc x) zo hx h1 (by simpa using a3) (by simp) b';refine⟨v',w',O',a2,qj ⟨by simpa using b2,fun y hy=>?_⟩,b1⟩;have c6:y=x:=by simpa using hy
   rw[c6];exact a'
  |some b0=>
   obtain⟨v',w',a2,a4,a5⟩:=run_append_arg_grows (P:=P) w T ty E a1 z a1.size a1.bytes ht hi hz rfl rfl b7 hp b0 0 0 [] (by simp) (fun j u hu=>by simp at hu) a 1 c (enc x) zo hx zo (by simp[maxLen]) (by simpa using a3);obtain⟨O',h2,h3⟩:=fresh (ls:=[x]) a4 zo a5 (by simp) (by simp) (fun y hy=>by rw[ka.1 hy];exact a');exact⟨v',w',O',a2,h2,h3⟩
 | @some g off a9 a8 l tag blk fit len mx cells hzl=>
  have b4:=mQ l hzl
  by_cases a6:l.length+1<=a9
  ·have d2:off+l.length*a1.size+a1.size<=a8.size:=by
    have:=Nat.mul_le_mul_right a1.size a6;rw[MA,La]at this;omega
   have b9:∀j,j<(enc x).length->(w.cell? ⟨g,off+l.length*a1.size+j,none⟩).isSome=true:=fun j hj=>by
    rw[cell_of_row w g _ a8 E (0,0) blk,Array.getElem?_eq_getElem (show off+l.length*a1.size+j<a8.size by omega)];rfl
   have d1:∀j,j<(enc x).length->w.frozen? ⟨g,off+l.length*a1.size+j,none⟩=false:=fun j hj=>by simp[World.frozen?,blk]
   have a2:=run_append_room_cells (P:=P) w T ty E a1 ht hi g off l.length a9 a 1 c (enc x) zo hx h1 a6 b9 d1;obtain⟨d8,d6,d5⟩:=je (enc x) (off+l.length*a1.size) w a8 blk;obtain⟨s1,s2,s3,s4⟩:=jU g (enc x) (off+l.length*a1.size) w;have c':(l++[x]).length=l.length+1:=by simp
   refine⟨_,_,O,a2,?_,⟨s1,s2,s3,zo,fun b hb hn=>World.heap_setCells_other w g _ _ hb (fun e=>hn (by rw[e];exact tag)),fun _ _=>rfl,fun _ h=>.inl h,b8⟩⟩;rw[<-c'];refine .some tag d6 (by rw[d5];exact fit) zo mx (fun j u hu=>?_) (fun y hy=>?_)
   ·rw[LG,K9,M1,JP]at hu
    by_cases hj:j<(l.flatMap enc).length
    ·rw[Ku hj]at hu;rw[World.cell?_setCells_out g _ _ w _ (fun _ _=>.inl (by show off+j<_;omega))];exact cells j u hu
    rw[Jt zo]at hu;have hk:=(Kr.1 hu).1;have:=World.cell?_setCells_in g (enc x) (off+l.length*a1.size) w b9 (j-(l.flatMap enc).length) hk;rw[show off+l.length*a1.size+(j-(l.flatMap enc).length)=off+j from by omega]at this;rw[this];exact(List.getElem?_eq_getElem hk).symm.trans hu
   rcases J9.1 hy with hy|hy
   ·exact hzl y hy
   rw[ka.1 hy];exact a'
  obtain⟨v',w',a2,a4,a5⟩:=run_append_arg_grows (P:=P) w T ty E a1 z a1.size a1.bytes ht hi hz rfl rfl b7 hp ⟨g,off,none⟩ l.length a9 (l.flatMap enc) b4 (fun j u hu=>by rw[b5];exact cells j u hu) a 1 c (enc x) zo hx zo (by simpa[maxLen]using b6) a3
  obtain⟨O',h2,h3⟩:=fresh (ls:=l++[x]) a4 zo a5 (by simp) (by simp) (fun y hy=>by
   rcases J9.1 hy with hy|hy
   ·exact hzl y hy
   rw[ka.1 hy];exact a')
  exact⟨v',w',O',a2,h2,h3⟩
section
variable{P:Lr}{N:Nat}{ops:Array MO}{Q:Exit→Act→ln→Prop}{rest:List MO}{st:St}{w:ln}{t:Ke}{p:String}{e:Array Edge}{d:Nat}{x y:Mr}
theorem uc{T E:Ke}{sz a0:Nat}(he:MH P T E sz a0){α:Type}{enc:α->List ix}{B:Nat}{O:Nat->Nat}{i:Nat}{v sv:ix}{l:List α}{u:α}(hr:WinO enc E sz O w i v l)(r:KW B O w)(hs:Sl enc sz w sv [u]) 
  (hx:ev st x=some v) (hy:ev st y=some sv) (a4:(enc u).length=sz) (a6:∀c∈enc u,c.oneCell'=true)
  (hb:(l.length+1)*a0<=140737488355328) (a9:l.length+1<=9223372036854775807) (a7:i≠0) (hd:MS d N=true)
  (h:∀v' w' O',WinO enc E sz O' w' i v' (l++[u])->Jr (fun k=>k=i) O w O' w'->KW B O' w'->WL P N ops Q rest ((d,v')::st) w') :
  WL P N ops Q (⟨some d,.call ⟨.builtin .append,#[x,y],#[T,T]⟩,t,p,e,none⟩::rest) st w:=by
 obtain⟨a,c,rfl,_,_,a8⟩:=hs.shape;obtain⟨b,o,rfl⟩:=a8 (by simp);have a5:=Bc hs (fun q hq=>by rw[ka.1 hq];exact a4) he.pos rfl;simp only[K9,M1,JP]at a5;obtain⟨v',w',O',a2,a3,a1⟩:=oJ (P:=P) (ty:=t) he r hr u ⟨b,o,none⟩ c a5 a4 a6 hb a9 a7;refine WL.val (v:=v') (w':=w') hd (fun a ha=>?_) (h v' w' O' a3 a1 (r.upd a1));simp only[execOp,resolve,invoke,builtin,L1,Sem.run_pure,Ko,M0,Kf,KZ,ha.ev hx,ha.ev hy,J4,a2]
end
end Go.VL
namespace Go.Proofs.YtjemhjcngaokpaaGreatDoor
abbrev En:=Nat×Bool
abbrev FT(x:En):List ix:=[nI (x.1:Int),.bool x.2]
theorem elE:MH Ju 115 117 2 16:=⟨LD,by kernel_rfl,zd⟩
structure RunS where
 row:Nat
 wait:List En
 begun:Bool
 last:En
 closed:Bool
def grT(t:TabM)(c:Nat):Nat:=(nth t.groups c).toNat
def stL(t:TabM)(r c:Nat):Nat:=(getM t.left r (grT t c)).toNat
def stR(t:TabM)(r c:Nat):Nat:=(getM t.right r (grT t c)).toNat
structure OkT(t:TabM):Prop where
 okl:OkP t.left
 okr:OkP t.right
 gl:t.groups.length=37
 gr:∀c,c<37->0<=nth t.groups c/\nth t.groups c<64
 ll:t.lt.length=t.left.usual.length
 rl:t.rt.length=t.right.usual.length
 lp:0<t.left.usual.length
 rp:0<t.right.usual.length
 lst:∀r c,r<t.left.usual.length->c<37->0<=getM t.left r (grT t c)/\getM t.left r (grT t c)<t.left.usual.length
 rst:∀r c,r<t.right.usual.length->c<37->0<=getM t.right r (grT t c)/\getM t.right r (grT t c)<t.right.usual.length
 ig:t.ig<2^36
 kp:t.kp<2^36
 br:t.br<2^40
 lt:∀q∈t.lt,q<2^40
 rt:∀q∈t.rt,q<2^40
theorem OkT.gN{t:TabM}(h:OkT t){c:Nat}(hc:c<37):nth t.groups c=((grT t c:Nat):Int)/\grT t c<64:=by
 have:=h.gr c hc;unfold grT;omega
theorem OkT.lN{t:TabM}(h:OkT t){r c:Nat}(hr:r<t.left.usual.length)(hc:c<37):getM t.left r (grT t c)=((stL t r c:Nat):Int)/\stL t r c<t.left.usual.length:=by
 have:=h.lst r c hr hc;unfold stL;omega
theorem OkT.rN{t:TabM}(h:OkT t){r c:Nat}(hr:r<t.right.usual.length)(hc:c<37):getM t.right r (grT t c)=((stR t r c:Nat):Int)/\stR t r c<t.right.usual.length:=by
 have:=h.rst r c hr hc;unfold stR;omega
def FreeL(O:Nat->Nat)(w:ln)(cs:List ix):Prop:=∀v∈cs,Mb O w v
theorem FreeL.upd{S:Nat->Prop}{O O':Nat->Nat}{w w':ln}{cs:List ix}(h:FreeL O w cs)(u:Jr S O w O' w'):FreeL O' w' cs:=fun v hv=>(h v hv).upd u
theorem PartV.updF{S:Nat->Prop}{O O':Nat->Nat}{w w':ln}{cs:List ix}{p:PSt}{tl:List Nat}(h:PartV w cs p tl)(n:FreeL O w cs)(u:Jr S O w O' w'):PartV w' cs p tl:=by
 obtain⟨uv,bv,kv,nv,tv,rfl,h1,h2,h3,h4,h5⟩:=h;exact⟨uv,bv,kv,nv,tv,rfl,h1.upd (n uv (by simp)) u,h2.upd (n bv (by simp)) u,h3.upd (n kv (by simp)) u,h4.upd (n nv (by simp)) u,h5.upd (n tv (by simp)) u⟩
theorem PartV.tv{w:ln}{cs:List ix}{p:PSt}{tl:List Nat}(h:PartV w cs p tl):∃tv,cs[5]? = some tv/\Sl fK 1 w tv tl:=by
 obtain⟨uv,bv,kv,nv,tv,rfl,h1,h2,h3,h4,h5⟩:=h;exact⟨tv,rfl,h5⟩
abbrev Dm(wv:ix)(s:RunS):List ix:=[nI (s.row:Int),wv,.bool s.begun,nI (s.last.1:Int),.bool s.last.2,.bool s.closed]
abbrev oK(t:TabM)(gv:ix)(lc rc:List ix)(wv:ix)(s:RunS):List ix:=bn t.ig t.kp t.br t.rules gv lc rc++Dm wv s
structure RunO(O:Nat->Nat)(w:ln)(i j rb:Nat)(t:TabM)(gv:ix)(lc rc:List ix)(wv:ix)(s:RunS):Prop where
 blk:KS O w i rb (oK t gv lc rc wv s).toArray 119
 win:WinO FT 117 2 O w j wv s.wait
 groups:K0 w gv t.groups
 left:PartV w lc t.left t.lt
 right:PartV w rc t.right t.rt
 fr:FreeL O w (gv::(lc++rc))
section
variable{O:Nat→Nat}{w:ln}{i j rb:Nat}{t:TabM}{gv:ix}{lc rc:List ix}{wv:ix}{s:RunS}
theorem RunO.upd{S:Nat->Prop}{O':Nat->Nat}{w':ln}(h:RunO O w i j rb t gv lc rc wv s)(u:Jr S O w O' w')(hi:i≠0)(hj:j≠0)(h1:¬S i)(h2:¬S j):RunO O' w' i j rb t gv lc rc wv s:=
 ⟨h.blk.upd u hi h1,h.win.upd u hj h2,h.groups.upd (h.fr gv (by simp)) u,h.left.updF (fun v hv=>h.fr v (by simp[hv])) u,h.right.updF (fun v hv=>h.fr v (by simp[hv])) u,h.fr.upd u⟩
theorem RunO.tab(h:RunO O w i j rb t gv lc rc wv s):TabB w rb t gv lc rc:=⟨fun k u hu=>h.blk.cell k (by
 have:=(Kr.1 hu).1;simp only[oK,KO]
 rw[Ku this];exact hu),h.groups,h.left,h.right⟩
theorem RunO.len(h:RunO O w i j rb t gv lc rc wv s):(bn t.ig t.kp t.br t.rules gv lc rc).length=17:=by simp[h.left.one.1,h.right.one.1]
theorem RunO.cell(h:RunO O w i j rb t gv lc rc wv s)(k:Nat)(u:ix)(hu:[nI (s.row:Int),wv,.bool s.begun,nI (s.last.1:Int),.bool s.last.2,.bool s.closed][k]? = some u):w.cell? ⟨rb,17+k,none⟩=some u:=h.blk.cell (17+k) (by
 have hl:=h.len;simp only[oK,KO]
 rw[Jt zo,hl,K8];exact hu)
theorem RunO.k17(h:RunO O w i j rb t gv lc rc wv s):w.cell? (nA rb 17)=some (nI (s.row:Int)):=h.cell 0 _ rfl
theorem RunO.k18(h:RunO O w i j rb t gv lc rc wv s):w.cell? (nA rb 18)=some wv:=h.cell 1 _ rfl
theorem RunO.k19(h:RunO O w i j rb t gv lc rc wv s):w.cell? (nA rb 19)=some (.bool s.begun):=h.cell 2 _ rfl
theorem RunO.k20(h:RunO O w i j rb t gv lc rc wv s):w.cell? ((nA rb 20).add 0)=some (nI (s.last.1:Int)):=h.cell 3 _ rfl
theorem RunO.k21(h:RunO O w i j rb t gv lc rc wv s):w.cell? ((nA rb 20).add 1)=some (.bool s.last.2):=h.cell 4 _ rfl
theorem RunO.k22(h:RunO O w i j rb t gv lc rc wv s):w.cell? (nA rb 22)=some (.bool s.closed):=h.cell 5 _ rfl
end
structure OkS(t:TabM)(s:RunS):Prop where
 row:s.row<t.left.usual.length
 wait:∀x∈s.wait,x.1<36
 last:s.last.1<36
 few:s.wait.length<=1000000
def rwL(t:TabM):List En->Nat->Nat->Nat->Nat
 |[],_,_,told=>told
 |(c,h)::r,row,seen,told=>if h=true then rwL t r row seen told else if seen=4 then told else rwL t r (stR t row c) (seen+1) (told ||| nth t.rt (stR t row c))
def ef(t:TabM)(l:List En):Nat:=rwL t l 0 0 (nth t.rt 0)
theorem zT{t:TabM}(ho:OkT t):∀(l:List En) (a2 a1 a0:Nat),(∀x∈l,x.1<36)->a2<t.right.usual.length->a0<2^40->rwL t l a2 a1 a0<2^40
 |[],_,_,_,_,_,h=>h
 |(c,h)::r,a2,a1,a0,hc,hr,ht=>by
  unfold rwL;have a3:=hc (c,h) (by simp);have hn:=(ho.rN hr (show c<37 by simp at a3;omega)).2
  split
  ·exact zT ho r a2 a1 a0 (fun x hx=>hc x (by simp[hx])) hr ht
  split
  ·exact ht
  exact zT ho r _ _ _ (fun x hx=>hc x (by simp[hx])) hn (JU ht (ho.rt _ (aI (by rw[ho.rl];exact hn))))
theorem qA(O:Nat → Nat)(w:ln)(i j rb:Nat)(t:TabM)(gv:ix)(lc rc:List ix)(wv:ix)(s:RunS)(h:RunO O w i j rb t gv lc rc wv s)(ho:OkT t)(hs:OkS t s):
    KM Ju 89 [.pointer (some ⟨rb, 0, none⟩)] w fun v w' => v = .int .u64 ((ef t s.wait:Nat):Int) ∧ Ki w w' := by
  have hT := h.tab
  have hp40:(2^40:Nat) = 1099511627776 := by decide
  obtain⟨tv, htc, htl⟩ := h.right.tv
  have hrl := ho.rl
  have hrp := ho.rp
  have hgl := ho.gl
  have c4:w.cell? (((⟨rb, 0, none⟩:Lm).add 0).add 4) = some gv := hT.c4
  have c5:w.cell? ((((⟨rb, 0, none⟩:Lm).add 0).add 11).add 5) = some tv := hT.cr 5 tv htc
  have t0:w.cell? (adr tv 1 0) = some (.int .u64 ((nth t.rt 0:Nat):Int)) := by have := htl.cell (i := 0) (j := 0) (by omega) rfl; rwa[ax]at this
  have k18 := h.k18
  have hws := h.win.sl
  have hwl := hs.few
  refine J1 func89 ntmps89 rfl rfl ?_
  refine zh ?_
  refine zvH (ai htl.sh MM (MB _) rfl rfl 0 rfl (by omega)) ?_
  refine zlp (fun z:Nat×Nat×Nat×Nat×ln => [(0, .pointer (some ⟨rb, 0, none⟩)), (3, .int .i64 (z.2.1:Nat)), (4, .int .u64 (z.2.2.2.1:Nat)), (5, .int .i64 (z.2.2.1:Nat)), (19, wv), (20, .int .i64 s.wait.length), (21, .int .i64 z.1)]) (fun z => z.2.2.2.2) (fun z => z.1 ≤ s.wait.length ∧ z.2.1 < t.right.usual.length ∧ z.2.2.1 ≤ 4 ∧ z.2.2.2.1 < 2^40 ∧ Ki w z.2.2.2.2 ∧ rwL t (s.wait.drop z.1) z.2.1 z.2.2.1 z.2.2.2.1 = ef t s.wait) (fun z => s.wait.length - z.1) (0, 0, 0, nth t.rt 0, w) (⟨J6 _, hrp, J6 _, ho.rt _ (aI (by omega)), J7 _, rfl⟩) ?_
  rintro⟨k, row, seen, told, w1⟩ ⟨hk, hrow, hseen, htold, hE1, heq⟩
  dsimp only at hk hrow hseen htold hE1 heq ⊢
  have hws1 := hws.ext hE1
  refine zh ?_
  refine zC ?_ ?_
  · intro hlt
    replace hlt:k < s.wait.length := by have := of_decide_eq_true hlt; omega
    obtain⟨c, hd, hcd⟩:∃c hd, (c, hd) = nth s.wait k := ⟨_, _, rfl⟩
    have hc36 := hs.wait _ (aI hlt)
    rw[← hcd]at hc36
    dsimp only at hc36
    rw[List.drop_eq_getElem_cons hlt, ← aB hlt, ← hcd, rwL]at heq
    refine zh ?_
    refine zv (af (us := [.int .i64 (c:Nat), .bool hd]) (fun j u hu => hws1.cell hlt (by rw[← hcd]; exact hu)) (Lv _) (JW _) rfl) ?_
    refine aw (ar w1) 1 (by omega) (Lc _) rfl ?_
    intro xb w2 O2 hxb2 hU2 hR2 hE2
    refine zsa (us := #[.int .i64 (c:Nat), .bool hd]) hxb2 (JW _) ?_
    have hxb3 := hxb2.setRow (us := #[.int .i64 (c:Nat), .bool hd])
    have hU3:Jr (fun j => j = 1) O2 w2 O2 (w2.setRow xb #[.int .i64 (c:Nat), .bool hd]) := J5 (by decide) hxb2.tag rfl
    have hE13 := (hU2.trans hU3).ext
    generalize w2.setRow xb #[.int .i64 (c:Nat), .bool hd] = w3 at *
    have hE03 := hE1.trans hE13
    have x0:w3.cell? ((⟨xb, 0, none⟩:Lm).add 0) = some (.int .i64 (c:Int)) := hxb3.cell 0 rfl
    have x1:w3.cell? ((⟨xb, 0, none⟩:Lm).add 1) = some (.bool hd) := hxb3.cell 1 rfl
    refine zh ?_
    refine zC ?_ ?_
    · intro hh
      rw[if_pos hh]at heq
      refine zh ?_
      refine zxd (k + 1, row, seen, told, w3) (⟨hlt, hrow, hseen, htold, hE03, heq⟩)
    · intro hh
      rw[if_neg (by rw[hh]; decide)]at heq
      refine zh ?_
      refine zC ?_ ?_
      · intro h4
        replace h4 : seen = 4 := by have : (seen : Int) = 4 := by simpa using h4
                                    omega
        rw[if_pos h4]at heq
        refine zh ?_
        refine ah rfl rfl (⟨by rw[← heq], hE03⟩)
      · intro h4
        replace h4 : seen ≠ 4 := by have : ¬ (seen : Int) = 4 := by simpa using h4
                                    omega
        rw[if_neg h4]at heq
        have hT3 := hT.ext hE03
        obtain⟨hg1, hg2⟩ := ho.gN (c := c) (by omega)
        obtain⟨hr1, hr2⟩ := ho.rN hrow (c := c) (by omega)
        have d4:w3.cell? (((⟨rb, 0, none⟩:Lm).add 0).add 4) = some gv := hT3.c4
        have dcr:∀(j:Nat) (u:ix), rc[j]? = some u → w3.cell? ((((⟨rb, 0, none⟩:Lm).add 0).add 11).add j) = some u := hT3.cr
        have dg:w3.cell? (adr gv 1 c) = some (.int .i64 ((grT t c:Nat):Int)) := by have := hT3.groups.cell (i := c) (j := 0) (by omega) rfl; rw[ax, hg1]at this; exact this
        have hgs := hT3.groups
        refine zh ?_
        refine Mx 15 rfl rfl (by kernel_rfl) (by kernel_rfl) ?_
        refine zh ?_
        refine zwH (af (us := rc) dcr (Ld _) (by rw[h.right.one.1]; exact Kl _) rfl) ?_
        refine MR ?_
        refine zc MC (jS rc t.right t.rt row (grT t c) w3.drew (hT3.right.ext (J7 w3).drew) ho.okr hrow hg2) ?_
        rintro _ w4 ⟨rfl, hE4⟩
        rw[hr1]
        have hE04:Ki w w4 := (hE03.trans (J7 w3).drew).trans hE4
        have hT4 := hT.ext hE04
        have e5:w4.cell? ((((⟨rb, 0, none⟩:Lm).add 0).add 11).add 5) = some tv := hT4.cr 5 tv htc
        have htl4 := htl.ext hE04
        have t4:w4.cell? (adr tv 1 (stR t row c)) = some (.int .u64 ((nth t.rt (stR t row c):Nat):Int)) := by have := htl4.cell (i := stR t row c) (j := 0) (by omega) rfl; rwa[ax]at this
        have hlt2 := ho.rt _ (aI (l := t.rt) (j := stR t row c) (by omega))
        refine zh ?_
        refine zvH (oo (a := told) (b := nth t.rt (stR t row c)) rfl rfl rfl rfl (by show _ ≤ (18446744073709551615:Int); omega) (by show _ ≤ (18446744073709551615:Int); omega)) ?_
        refine zxd (k + 1, stR t row c, seen + 1, told ||| nth t.rt (stR t row c), w4) (⟨hlt, hr2, by dsimp only; omega, JU htold hlt2, hE04, heq⟩)
  · intro hge
    obtain rfl:k = s.wait.length := by have := of_decide_eq_false hge; omega
    rw[List.drop_length, rwL]at heq
    refine zh ?_
    refine ah rfl rfl (⟨by rw[← heq], hE1⟩)
theorem bf{g:Nat}{tab:List Nat}{w w':ln}(h:Mp g tab w)(e:Ki w w'):Mp g tab w':=fun j hj=>e.cell (h j hj)
abbrev cP(w:ln):Prop:=Mp 0 M6 w
def eQ(t:TabM)(s:RunS):Int:=if nth t.lt s.row &&& ef t s.wait=0 then -1 else((L3 64 (nth t.lt s.row &&& ef t s.wait):Nat):Int)
theorem sF{t:TabM}{s:RunS}(ho:OkT t)(hs:OkS t s):ef t s.wait<2^40:=zT ho _ _ _ _ hs.wait ho.rp (ho.rt _ (aI (by have:=ho.rl;have:=ho.rp;omega)))
theorem qo(O:Nat->Nat)(w:ln)(i j rb:Nat)(t:TabM)(gv:ix)(lc rc:List ix)(wv:ix)(s:RunS)(h:RunO O w i j rb t gv lc rc wv s)(hi:i≠0)(hj:j≠0)(ho:OkT t)(hs:OkS t s)(hT:cP w):
  KM Ju 50 [nP rb] w fun v w'=>v=nI (eQ t s)/\Ki w w':=by
 have hB:=h.tab;obtain⟨tv,a4,a3⟩:=h.left.tv;have a':=ho.ll;have a5:=hs.row;have c1:w.drew.cell? (((nA rb 0).add 5).add 5)=some tv:=hB.cl 5 tv a4;have t1:w.drew.cell? (adr tv 1 s.row)=some (.int .u64 ((nth t.lt s.row:Nat):Int)):=by have:=a3.cell (i:=s.row) (j:=0) zo rfl;rwa[ax]at this
 have k17:=h.k17;have a7:=ho.lt _ (aI (l:=t.lt) (j:=s.row) zo);have a9:=sF ho hs;have a6:(2^40:Nat)=1099511627776:=zd;have hW:eQ t s=if nth t.lt s.row &&& ef t s.wait=0 then -1 else((L3 64 (nth t.lt s.row &&& ef t s.wait):Nat):Int):=rfl
 rw[hW];have a8:nth t.lt s.row &&& ef t s.wait<2^40:=LU Nat.and_le_left a7;refine J1 func50 ntmps50 rfl rfl ?_;refine zh ?_;have k17:w.drew.cell? (nA rb 17)=some (nI (s.row:Int)):=k17;refine aG (fun W=>W.cell? (((nA rb 0).add 5).add 5)=some tv/\W.cell? (adr tv 1 s.row)=some (.int .u64 ((nth t.lt s.row:Nat):Int))/\W.cell? (nA rb 17)=some (nI (s.row:Int))) 16 rfl zk ?_;refine zin ⟨c1,t1,k17⟩ fun zS=>?_
 refine zrm 0 rfl zS rfl ?_;refine zr 1 rfl zS (fun _=>ao rfl) ?_
 refine zrf 2 rfl zS rfl ?_;refine zrf 3 rfl zS rfl ?_
 refine zrf 4 rfl zS rfl ?_;refine zt 5 rfl zS (fun w1 a1=>RV.ld a1.1 rfl) ?_
 refine zrm 6 rfl zS rfl ?_;refine zr 7 rfl zS (fun _=>ao rfl) ?_
 refine zrf 8 rfl zS rfl ?_;refine zt 9 rfl zS (fun w1 a1=>RV.ld a1.2.2 rfl) ?_
 refine zr 10 rfl zS (fun _=>ai a3.sh MM (MB _) rfl rfl s.row rfl zo) ?_;refine zt 11 rfl zS (fun w1 a1=>RV.ld a1.2.1 rfl) ?_
 refine zrm 12 rfl zS rfl ?_;refine Jj 13 zk rfl ?_
 refine zc call89 (qA O w.drew i j rb t gv lc rc wv s (h.upd (aa (S:=fun _=>False) (fun h=>h) O (J7 w).drew) hi hj (fun h=>h) (fun h=>h)) ho hs) ?_;rintro _ w1 ⟨rfl,a2⟩;have a0:Ki w w1:=(J7 w).drew.trans a2;refine zh ?_
 refine zaf (⟨a2.cell c1,a2.cell t1,a2.cell k17⟩) fun zS=>?_
 refine zr 14 rfl zS (fun _=>lV (a:=nth t.lt s.row) (b:=ef t s.wait) rfl rfl rfl rfl (by show _<=(18446744073709551615:Int);omega) (by show _<=(18446744073709551615:Int);omega)) ?_;refine zra 15 rfl zS rfl ?_
 refine K1 zk ?_;refine zh ?_
 generalize nth t.lt s.row &&& ef t s.wait=both at *
 by_cases h0:both=0
 ·rw[if_pos h0];refine zTH rfl ((by rw[h0];rfl)) ?_;refine ah rfl rfl (⟨rfl,a0⟩)
 rw[if_neg h0];refine zFH rfl ((by rw[beq_eq_false_iff_ne];omega)) ?_;refine zc call90 (Dh both w1 zo h0 (bf hT a0)) ?_;rintro _ w2 ⟨rfl,rfl⟩;refine zh ?_;refine ah rfl rfl (⟨rfl,a0⟩)
theorem Is:ck Ju 117 #[(0,1),(1,1)]:=⟨_,underlying117,fun w=>by kernel_rfl⟩
section
variable{O:Nat→Nat}{w:ln}{i j rb:Nat}{t:TabM}{gv:ix}{lc rc:List ix}{wv:ix}{s:RunS}
theorem RunO.size(h:RunO O w i j rb t gv lc rc wv s):(oK t gv lc rc wv s).toArray.size=23:=by simp[h.left.one.1,h.right.one.1]
theorem RunO.at_(h:RunO O w i j rb t gv lc rc wv s)(k:Nat){u:ix}(hu:(Dm wv s)[k]? = some u):(oK t gv lc rc wv s).toArray[17+k]? = some u:=by
 have hl:=h.len;simp only[oK,KO];rw[Jt zo,hl,K8];exact hu
theorem RunO.store2(h:RunO O w i j rb t gv lc rc wv s)(hi:i≠0)(hj:j≠0)(a0:i≠j){S:Nat->Prop}{O':Nat->Nat}{w':ln}(u0:Jr S O w O' w')(hb:KS O' w' i rb (oK t gv lc rc wv s).toArray 119)(k:Nat)(v:ix){wv':ix}{s':RunS} 
  (hk:(Dm wv s).set k v=Dm wv' s') (hw:WinO FT 117 2 O' w' j wv' s'.wait) :
  RunO O' (w'.setCell ⟨rb,17+k,none⟩ v) i j rb t gv lc rc wv' s'/\Jr (fun q=>q=i) O' w' O' (w'.setCell ⟨rb,17+k,none⟩ v):=by
 have u:Jr (fun q=>q=i) O' w' O' (w'.setCell ⟨rb,17+k,none⟩ v):=Kx (fun e=>hi e.symm) hb.tag rfl;have f0:=h.fr.upd u0;have g0:=h.groups.upd (h.fr gv (by simp)) u0;have l0:=h.left.updF (fun v hv=>h.fr v (by simp[hv])) u0;have r0:=h.right.updF (fun v hv=>h.fr v (by simp[hv])) u0;refine⟨⟨?_,hw.upd u hj (fun e=>a0 e.symm),g0.upd (f0 gv (by simp)) u,l0.updF (fun v hv=>f0 v (by simp[hv])) u,r0.updF (fun v hv=>f0 v (by simp[hv])) u,f0.upd u⟩,u⟩;have hb:=hb.set (17+k) v;have hl:=h.len;have e:(oK t gv lc rc wv s).toArray.setIfInBounds (17+k) v=(oK t gv lc rc wv' s').toArray:=by
  rw[List.setIfInBounds_toArray];unfold oK;rw[Ly _ _ zo,hl,K8,hk]
 rw[e]at hb;exact hb
theorem RunO.store(h:RunO O w i j rb t gv lc rc wv s)(hi:i≠0)(hj:j≠0)(a0:i≠j)(k:Nat)(v:ix){wv':ix}{s':RunS}(hk:(Dm wv s).set k v=Dm wv' s')(hw:WinO FT 117 2 O w j wv' s'.wait):
  RunO O (w.setCell ⟨rb,17+k,none⟩ v) i j rb t gv lc rc wv' s'/\Jr (fun q=>q=i) O w O (w.setCell ⟨rb,17+k,none⟩ v):=
 h.store2 hi hj a0 (L0 (S:=fun _=>False) (fun h=>h) O w) h.blk k v hk hw
theorem RunO.lastE(h:RunO O w i j rb t gv lc rc wv s)(c:Nat)(b:Bool):((oK t gv lc rc wv s).toArray.toList.take 20++(#[nI (c:Int),.bool b]:Array ix).toList++(oK t gv lc rc wv s).toArray.toList.drop (20+(#[nI (c:Int),.bool b]:Array ix).size)).toArray=(oK t gv lc rc wv {s with last:=(c,b)}).toArray:=by
 have hl:=h.len;congr 1;show List.take 20 (bn t.ig t.kp t.br t.rules gv lc rc++Dm wv s)++[nI (c:Int),.bool b]++MG 22 (bn t.ig t.kp t.br t.rules gv lc rc++Dm wv s)=_;have hd:MG 22 (bn t.ig t.kp t.br t.rules gv lc rc)=[]:=List.drop_eq_nil_of_le zo;rw[List.take_append,List.drop_append,hl,KI zo,hd];simp
theorem RunO.lastS(h:RunO O w i j rb t gv lc rc wv s)(hi:i≠0)(hj:j≠0)(a0:i≠j)(c:Nat)(b:Bool):
  RunO O (w.setRow rb (oK t gv lc rc wv {s with last:=(c,b)}).toArray) i j rb t gv lc rc wv {s with last:=(c,b)}/\Jr (fun q=>q=i) O w O (w.setRow rb (oK t gv lc rc wv {s with last:=(c,b)}).toArray):=by
 have u:Jr (fun q=>q=i) O w O (w.setRow rb (oK t gv lc rc wv {s with last:=(c,b)}).toArray):=J5 (fun e=>hi e.symm) h.blk.tag rfl;exact⟨⟨h.blk.setRow,h.win.upd u hj (fun e=>a0 e.symm),h.groups.upd (h.fr gv (by simp)) u,h.left.updF (fun v hv=>h.fr v (by simp[hv])) u,h.right.updF (fun v hv=>h.fr v (by simp[hv])) u,h.fr.upd u⟩,u⟩
end
def bJ(id:Int):Nat:=if id<0\/36<=id then 0 else id.toNat
theorem ie(id:Int):bJ id<36:=by unfold bJ;split<;>omega
def B5(t:TabM)(s:RunS)(c:Nat):Bool:=t.ig.testBit c&&(s.last.2 || !(t.kp.testBit s.last.1))
def oD(t:TabM)(s:RunS)(c:Nat):RunS:=
 if s.begun=true then {s with last:=(c,B5 t s c),wait:=s.wait++[(c,B5 t s c)]} else {s with begun:=true,last:=(c,false),row:=stL t s.row c}
theorem Ag{t:TabM}{s:RunS}{c:Nat}(ho:OkT t)(hs:OkS t s)(hc:c<36)(hf:s.wait.length+1<=1000000):OkS t (oD t s c):=by
 unfold oD
 split
 ·refine⟨hs.row,fun x hx=>?_,hc,by simpa using hf⟩
  rcases J9.1 hx with hx|hx
  ·exact hs.wait x hx
  rw[ka.1 hx];exact hc
 exact⟨(ho.lN hs.row zo).2,hs.wait,hc,by show s.wait.length<=_;omega⟩
theorem nj(B:Nat)(O:Nat → Nat)(w:ln)(i j rb:Nat)(t:TabM)(gv:ix)(lc rc:List ix)(wv:ix)(s:RunS)(h:RunO O w i j rb t gv lc rc wv s)(hi:i ≠ 0)(hj:j ≠ 0)(hij:i ≠ j)(hi1:i < 1000)(hj1:j < 1000)(ho:OkT t)(hs:OkS t s)(hf:s.wait.length + 1 ≤ 1000000)(hR:KW B O w)(id:Int):
  KM Ju 25 [nP rb, nI id] w fun _ w' => ∃O' wv', RunO O' w' i j rb t gv lc rc wv' (oD t s (bJ id)) ∧ Jr (fun q => q = i ∨ q = j ∨ q = 1000) O w O' w' ∧ KW B O' w' := by
 have hp40:(2^40:Nat) = 1099511627776 := by decide
 have hp36:(2^36:Nat) = 68719476736 := by decide
 have hz:¬(0 = i ∨ 0 = j ∨ 0 = 1000) := by omega
 have hl1 := hs.last
 have hwl := hs.few
 obtain⟨c, hc⟩:∃c, c = bJ id := ⟨_, rfl⟩
 have hc36:c < 36 := by rw[hc]; exact ie id
 rw[← hc]
 refine J1 func25 ntmps25 rfl rfl ?_
 refine K7 ?_
 refine K7 ?_
 refine JS ?_
 refine zv (JD rfl) ?_
 refine zv (RV.lss rfl rfl) ?_
 refine zv (JD rfl) ?_
 refine bN (fun w1 => _ = w1) (decide (36 ≤ id)) 2 (rfl) rfl rfl rfl rfl rfl ?_ ?_
 ·skip
  intro g1
  refine gn rfl ?_
  refine zv (JD rfl) ?_
  refine gn rfl ?_
  refine zv (RV.geq rfl rfl) ?_
  refine Jv ?_
  refine dy (tA := 7) 3 (rfl) rfl rfl rfl (fun v hv => (Jy hv).symm.trans (congrArg Kd g1)) rfl
 rintro _ rfl
 refine Jv ?_
 refine aq ?_
 refine iy (fun z:Nat => [(0, nP rb), (1, nI (z:Nat))]) (fun z:Nat => w) (fun z:Nat => z = c) ?_ ?_
 ·intro Qm hN
  refine zC ?_ ?_
  ·intro hb
   refine JS ?_
   refine zv (K2 rfl) ?_
   refine Jv ?_
   exact iC (hN (0) (by rw[hc]; unfold bJ; rw[if_pos (by simpa using hb)])) ⟨rfl, rfl, trivial⟩ rfl
  ·intro hb
   obtain rfl:id = (c:Int) := by
    have:¬(id < 0 ∨ 36 ≤ id) := by simpa using hb
    rw[hc]; unfold bJ
    rw[if_neg this]; omega
   refine My ?_
   exact iC (hN (c) (rfl)) ⟨rfl, rfl, trivial⟩ rfl
 rintro c' hcc
 obtain rfl:c = c' := hcc.symm
 clear hcc hc
 refine aq ?_
 refine K7 ?_
 refine JS ?_
 refine zv (JD rfl) ?_
 refine zv (aF Is (Lc _) rfl (by first | rfl | (simp only[J3, JA]; rfl)) rfl rfl) ?_
 refine aw hR 1000 (by omega) (Lc _) rfl ?_
 intro xb w1 O1 hxb1 hU1 hR1 hE1
 refine zsa (us := #[nI (c:Nat), .bool false]) hxb1 (JW _) ?_
 have hxb2 := hxb1.setRow (us := #[nI (c:Nat), .bool false])
 have hU2:Jr (fun q => q = 1000) O1 w1 O1 (w1.setRow xb #[nI (c:Nat), .bool false]) := J5 (by decide) hxb1.tag rfl
 generalize w1.setRow xb #[nI (c:Nat), .bool false] = w2 at *
 have hU02 := hU1.trans hU2
 have hR2 := hR1.upd hU2
 have h2 := h.upd hU02 hi hj (by omega) (by omega)
 have k19 := h2.k19
 have hcs := hxb2.cellsAdd
 refine Jv ?_
 refine aq ?_
 refine K7 ?_
 refine K7 ?_
 refine JS ?_
 refine zv (JD rfl) ?_
 refine zv (ao rfl) ?_
 refine zv (RV.fa rfl) ?_
 refine zv (RV.ld k19 rfl) ?_
 refine zv (Mq rfl) ?_
 refine Jv ?_
 refine aq ?_
 have hX := aa (S := fun _ => False) (fun h => h) O1 (J7 w2).drew
 cases hbg:s.begun with
 |false =>
  refine aR rfl rfl ?_
  refine K7 ?_
  refine aG (fun W => ∀k u, [nI (c:Nat), .bool false][k]? = some u → W.cell? (nA xb k) = some u) 9 rfl (by kernel_rfl) ?_
  refine zrm 0 rfl hcs rfl ?_
  refine zrm 1 rfl hcs rfl ?_
  refine zt 2 rfl hcs (fun w1 hw1 => af (us := [nI (c:Nat), .bool false]) hw1 (Lv _) (JW _) rfl) ?_
  refine zr 3 rfl hcs (fun _ => ao rfl) ?_
  refine zrf 4 rfl hcs rfl ?_
  have h2d := h2.upd hX hi hj (fun h => h) (fun h => h)
  refine Jj 5 (by kernel_rfl) rfl ?_
  refine aj (j := 19) h2d.blk (h2d.at_ 2 rfl) (LP _) rfl rfl rfl rfl ?_
  obtain⟨h3, hU3⟩ := h2d.store hi hj hij 2 (.bool true) (wv' := wv) (s' := {s with begun := true}) (by simp[hbg]) h2d.win
  have hU03 := (hX.mono (S' := fun q => q = i) (fun _ h => h.elim) (by omega)).trans hU3
  have hx3 := hxb2.upd hU03 (by decide) (by omega)
  have hR3 := hR2.upd hU03
  generalize w2.drew.setCell ⟨rb, 17 + 2, none⟩ (.bool true) = w3 at *
  refine Jv ?_
  refine zaf (hx3.cellsAdd) fun zS => ?_
  refine zr 6 rfl zS (fun _ => ao rfl) ?_
  refine zrf 7 rfl zS rfl ?_
  refine Jj 8 (by kernel_rfl) rfl ?_
  refine ew (us := #[nI (c:Nat), .bool false]) 20 (oK t gv lc rc wv {s with begun := true, last := (c, false)}).toArray h3.blk (h3.lastE c false) (by rw[h3.size]; show 22 ≤ 23; omega) (JW _) rfl rfl rfl rfl ?_
  obtain⟨h4, hU4⟩ := h3.lastS hi hj hij c false
  have hx4 := hx3.upd hU4 (by decide) (by omega)
  have hU04 := hU03.trans hU4
  have hR4 := hR3.upd hU4
  generalize w3.setRow rb (oK t gv lc rc wv {s with begun := true, last := (c, false)}).toArray = w4 at *
  refine Jv ?_
  refine ae (hx4.cellsAdd) ?_
  refine K1 (by kernel_rfl) ?_
  refine aq ?_
  refine K7 ?_
  have hB := h4.tab
  obtain⟨hg1, hg2⟩ := ho.gN (c := c) (by omega)
  obtain⟨hr1, hr2⟩ := ho.lN hs.row (c := c) (by omega)
  have hgl := ho.gl
  have d4:w4.drew.cell? ((nA rb 0).add 4) = some gv := hB.c4
  have dcl:∀(j:Nat) (u:ix), lc[j]? = some u → w4.drew.cell? (((nA rb 0).add 5).add j) = some u := hB.cl
  have dg:w4.drew.cell? (adr gv 1 c) = some (nI ((grT t c:Nat):Int)) := by have := hB.groups.cell (i := c) (j := 0) (by omega) rfl; rw[ax, hg1]at this; exact this
  have d17:w4.drew.cell? (nA rb 17) = some (nI (s.row:Int)) := h4.k17
  refine aG (fun W => W.cell? ((nA rb 0).add 4) = some gv ∧ W.cell? (adr gv 1 c) = some (nI ((grT t c:Nat):Int)) ∧ ∀(j:Nat) (u:ix), lc[j]? = some u → W.cell? (((nA rb 0).add 5).add j) = some u) 22 rfl (by kernel_rfl) ?_
  refine zin ⟨d4, dg, dcl⟩ fun zS => ?_
  refine zrm 0 rfl zS rfl ?_
  refine zrm 1 rfl zS rfl ?_
  refine zr 2 rfl zS (fun _ => ao rfl) ?_
  refine zrf 3 rfl zS rfl ?_
  refine zrf 4 rfl zS rfl ?_
  refine zt 5 rfl zS (fun w1 hw1 => af (us := lc) hw1.2.2 (Ld _) (by rw[h.left.one.1]; exact Kl _) rfl) ?_
  refine zrm 6 rfl zS rfl ?_
  refine zr 7 rfl zS (fun _ => ao rfl) ?_
  refine zrf 8 rfl zS rfl ?_
  refine zrm 10 rfl zS rfl ?_
  refine zr 11 rfl zS (fun _ => ao rfl) ?_
  refine zrf 12 rfl zS rfl ?_
  refine zrf 13 rfl zS rfl ?_
  refine zt 14 rfl zS (fun w1 hw1 => RV.ld hw1.1 rfl) ?_
  refine zrm 15 rfl zS rfl ?_
  refine zr 16 rfl zS (fun _ => ai hB.groups.sh J2 (JE _) rfl rfl c rfl (by omega)) ?_
  refine zt 17 rfl zS (fun w1 hw1 => RV.ld hw1.2.1 rfl) ?_
  refine Jj 9 (by kernel_rfl) rfl ?_
  refine zv (RV.ld d17 rfl) ?_
  refine Jv ?_
  refine ae (⟨d4, dg, dcl⟩) ?_
  refine Jj 18 (by kernel_rfl) rfl ?_
  refine zc MC (jS lc t.left t.lt s.row (grT t c) w4.drew (hB.left.ext (J7 w4).drew) ho.okl hs.row hg2) ?_
  rintro _ w5 ⟨rfl, hE5⟩
  rw[hr1]
  refine Jv ?_
  refine ae (⟨hE5.cell d4, hE5.cell dg, fun j u hu => hE5.cell (dcl j u hu)⟩) ?_
  have hX5 := aa (S := fun _ => False) (fun h => h) O1 ((J7 w4).drew.trans hE5)
  have h5 := h4.upd hX5 hi hj (fun h => h) (fun h => h)
  have hU05 := (hU04.trans (hX5.mono (fun _ h => h.elim) (by omega)))
  have hR5 := hR4.upd hX5
  refine zin (⟨hE5.cell d4, hE5.cell dg, fun j u hu => hE5.cell (dcl j u hu)⟩) fun zS => ?_
  refine zr 19 rfl zS (fun _ => ao rfl) ?_
  refine zrf 20 rfl zS rfl ?_
  refine Jj 21 (by kernel_rfl) rfl ?_
  refine aj (j := 17) h5.blk (h5.at_ 0 rfl) (JE _) rfl rfl rfl rfl ?_
  obtain⟨h6, hU6⟩ := h5.store hi hj hij 0 (nI ((stL t s.row c:Nat):Int)) (wv' := wv) (s' := {s with begun := true, last := (c, false), row := stL t s.row c}) rfl h5.win
  have hB6 := h6.tab
  have hR6 := hR5.upd hU6
  have hU06 := hU05.trans hU6
  have q1:(w5.setCell ⟨rb, 17 + 0, none⟩ (nI ((stL t s.row c:Nat):Int))).cell? (adr gv 1 c) = some (nI ((grT t c:Nat):Int)) := by have := hB6.groups.cell (i := c) (j := 0) (by omega) rfl; rw[ax, hg1]at this; exact this
  refine Jv ?_
  refine ae (⟨hB6.c4, q1, hB6.cl⟩) ?_
  refine K1 (by kernel_rfl) ?_
  refine aq ?_
  refine Mm ?_
  refine dM ?_
  have e:oD t s c = {s with begun := true, last := (c, false), row := stL t s.row c} := by unfold oD; rw[hbg, if_neg (by decide)]
  refine cz rfl (⟨O1, wv, by rw[e]; exact h6, (hU02.mono (fun _ h => by omega) hz).trans (hU06.mono (fun _ h => by omega) hz), hR6⟩)
 |true =>
  refine aN rfl rfl ?_
  refine My ?_
  refine aq ?_
  refine K7 ?_
  have hB := h2.tab
  have kt0:w2.drew.cell? ((nA rb 0).add 0) = some (.int .u64 (t.ig:Int)) := hB.c0
  have kt1:w2.drew.cell? ((nA rb 0).add 1) = some (.int .u64 (t.kp:Int)) := hB.c1
  have k20:w2.drew.cell? ((nA rb 20).add 0) = some (nI (s.last.1:Int)) := h2.k20
  have k21:w2.drew.cell? ((nA rb 20).add 1) = some (.bool s.last.2) := h2.k21
  have hxd := hxb2.upd hX (by decide) (fun h => h)
  have fin:∀b, b = B5 t s c → KS O1 (w2.drew.setCell ⟨xb, 1, none⟩ (.bool b)) 1000 xb #[nI (c:Nat), .bool (B5 t s c)] 117 ∧ Jr (fun q => q = 1000) O1 w2 O1 (w2.drew.setCell ⟨xb, 1, none⟩ (.bool b)) ∧
    ((w2.drew.setCell ⟨xb, 1, none⟩ (.bool b)).cell? ((nA rb 0).add 0) = some (.int .u64 (t.ig:Int)) ∧ (w2.drew.setCell ⟨xb, 1, none⟩ (.bool b)).cell? ((nA rb 0).add 1) = some (.int .u64 (t.kp:Int)) ∧ (w2.drew.setCell ⟨xb, 1, none⟩ (.bool b)).cell? ((nA rb 20).add 0) = some (nI (s.last.1:Int)) ∧ (w2.drew.setCell ⟨xb, 1, none⟩ (.bool b)).cell? ((nA rb 20).add 1) = some (.bool s.last.2)) := by
   rintro b rfl
   have u1:Jr (fun q => q = 1000) O1 w2.drew O1 (w2.drew.setCell ⟨xb, 1, none⟩ (.bool (B5 t s c))) := Kx (by decide) hxd.tag rfl
   have u2 := (hX.mono (S' := fun q => q = 1000) (fun _ h => h.elim) (by decide)).trans u1
   have h3 := h2.upd u2 hi hj (by omega) (by omega)
   exact⟨hxd.set 1 _, u2, h3.tab.c0, h3.tab.c1, h3.k20, h3.k21⟩
  have hh:B5 t s c = (t.ig.testBit c && (s.last.2 || !(t.kp.testBit s.last.1))) := rfl
  have hkp := ho.kp
  have hig := ho.ig
  refine iy (fun z:ln => [(0, nP rb), (4, nP xb)]) (fun z:ln => z) (fun z:ln => KS O1 z 1000 xb #[nI (c:Nat), .bool (B5 t s c)] 117 ∧ Jr (fun q => q = 1000) O1 w2 O1 z) ?_ ?_
  ·intro Qm hN
   refine aG (fun W => W.cell? ((nA rb 0).add 0) = some (.int .u64 (t.ig:Int)) ∧ W.cell? ((nA rb 0).add 1) = some (.int .u64 (t.kp:Int)) ∧ W.cell? ((nA rb 20).add 0) = some (nI (s.last.1:Int)) ∧ W.cell? ((nA rb 20).add 1) = some (.bool s.last.2)) 30 rfl (by kernel_rfl) ?_
   refine zin ⟨kt0, kt1, k20, k21⟩ fun zS => ?_
   refine zrm 0 rfl zS rfl ?_
   refine zr 1 rfl zS (fun _ => ao rfl) ?_
   refine zrf 2 rfl zS rfl ?_
   refine zrf 3 rfl zS rfl ?_
   refine zt 4 rfl zS (fun w1 hw1 => RV.ld hw1.1 rfl) ?_
   refine zrm 5 rfl zS rfl ?_
   refine Jj 6 (by kernel_rfl) rfl ?_
   refine zc MV (qY t.ig c _ (by omega) (by omega)) ?_
   rintro _ w3 ⟨rfl, rfl⟩
   refine Jv ?_
   refine ae (⟨kt0, kt1, k20, k21⟩) ?_
   refine zrm 7 rfl (⟨kt0, kt1, k20, k21⟩) rfl ?_
   cases hb1:t.ig.testBit c with
   |false =>
    obtain⟨f1, f2, f3⟩ := fin false (by rw[hh, hb1]; rfl)
    refine fm (d := 53) rfl (b' := false) (rfl) ?_
    refine zin (⟨kt0, kt1, k20, k21⟩) fun zS => ?_
    refine zte 8 rfl rfl zS ?_
    refine zte 9 rfl rfl zS ?_
    refine zte 10 rfl rfl zS ?_
    refine zte 11 rfl rfl zS ?_
    refine zte 12 rfl rfl zS ?_
    refine zte 13 rfl rfl zS ?_
    refine ztu 14 rfl zS ?_
    refine ztu 15 rfl zS ?_
    refine ztu 16 rfl zS ?_
    refine ztu 17 rfl zS ?_
    refine ztu 18 rfl zS ?_
    refine ztu 19 rfl zS ?_
    refine ztu 20 rfl zS ?_
    refine ztu 21 rfl zS ?_
    refine ztu 22 rfl zS ?_
    refine ztu 23 rfl zS ?_
    refine ztu 24 rfl zS ?_
    refine ztu 25 rfl zS ?_
    refine zte 26 rfl rfl zS ?_
    refine zr 27 rfl zS (fun _ => bC rfl rfl) ?_
    refine zrf 28 rfl zS rfl ?_
    refine Jj 29 (by kernel_rfl) rfl ?_
    refine aj (j := 1) hxd rfl (LP _) rfl rfl rfl rfl ?_
    refine Jv ?_
    refine ae (f3) ?_
    refine K1 (by kernel_rfl) ?_
    exact iC (hN (_) (⟨f1, f2⟩)) ⟨rfl, rfl, trivial⟩ rfl
   |true =>
    refine fm (d := 53) rfl (b' := true) (rfl) ?_
    refine zin (⟨kt0, kt1, k20, k21⟩) fun zS => ?_
    refine zro 8 rfl zS (fun _ => JD rfl) ?_
    refine zro 9 rfl zS (fun _ => ao rfl) ?_
    refine zro 10 rfl zS (fun _ => RV.fa rfl) ?_
    refine zro 11 rfl zS (fun _ => RV.fa rfl) ?_
    refine zto 12 rfl zS (fun w1 hw1 => RV.ld hw1.2.2.2 rfl) ?_
    refine zro 13 rfl zS (fun _ => JD rfl) ?_
    cases hb2:s.last.2 with
    |true =>
     obtain⟨f1, f2, f3⟩ := fin true (by rw[hh, hb1, hb2]; rfl)
     rw[hb2]at f3 k21
     refine fm (d := 59) rfl (b' := true) (rfl) ?_
     refine zin (⟨kt0, kt1, k20, k21⟩) fun zS => ?_
     refine zte 14 rfl rfl zS ?_
     refine zte 15 rfl rfl zS ?_
     refine zte 16 rfl rfl zS ?_
     refine zte 17 rfl rfl zS ?_
     refine zte 18 rfl rfl zS ?_
     refine zte 19 rfl rfl zS ?_
     refine zte 20 rfl rfl zS ?_
     refine zte 21 rfl rfl zS ?_
     refine zte 22 rfl rfl zS ?_
     refine zte 23 rfl rfl zS ?_
     refine zte 24 rfl rfl zS ?_
     refine zte 25 rfl rfl zS ?_
     refine zro 26 rfl zS (fun _ => bB rfl rfl) ?_
     refine zr 27 rfl zS (fun _ => bB rfl rfl) ?_
     refine zrf 28 rfl zS rfl ?_
     refine Jj 29 (by kernel_rfl) rfl ?_
     refine aj (j := 1) hxd rfl (LP _) rfl rfl rfl rfl ?_
     refine Jv ?_
     refine ae (f3) ?_
     refine K1 (by kernel_rfl) ?_
     exact iC (hN (_) (⟨f1, f2⟩)) ⟨rfl, rfl, trivial⟩ rfl
    |false =>
     obtain⟨f1, f2, f3⟩ := fin (!(t.kp.testBit s.last.1)) (by rw[hh, hb1, hb2]; rfl)
     rw[hb2]at f3 k21
     refine fm (d := 59) rfl (b' := false) (rfl) ?_
     refine zin (⟨kt0, kt1, k20, k21⟩) fun zS => ?_
     refine zro 14 rfl zS (fun _ => JD rfl) ?_
     refine zro 15 rfl zS (fun _ => ao rfl) ?_
     refine zro 16 rfl zS (fun _ => RV.fa rfl) ?_
     refine zro 17 rfl zS (fun _ => RV.fa rfl) ?_
     refine zto 18 rfl zS (fun w1 hw1 => RV.ld hw1.2.1 rfl) ?_
     refine zro 19 rfl zS (fun _ => JD rfl) ?_
     refine zro 20 rfl zS (fun _ => ao rfl) ?_
     refine zro 21 rfl zS (fun _ => RV.fa rfl) ?_
     refine zro 22 rfl zS (fun _ => RV.fa rfl) ?_
     refine zto 23 rfl zS (fun w1 hw1 => RV.ld hw1.2.2.1 rfl) ?_
     refine Jj 24 (by kernel_rfl) rfl ?_
     refine gn rfl ?_
     refine zc MV (qY t.kp s.last.1 _ (by omega) (by omega)) ?_
     rintro _ w3 ⟨rfl, rfl⟩
     refine Jv ?_
     refine zaf (⟨kt0, kt1, k20, k21⟩) fun zS => ?_
     refine zro 25 rfl zS (fun _ => Mq rfl) ?_
     refine zro 26 rfl zS (fun _ => bC rfl rfl) ?_
     refine zr 27 rfl zS (fun _ => bB rfl rfl) ?_
     refine zrf 28 rfl zS rfl ?_
     refine Jj 29 (by kernel_rfl) rfl ?_
     refine aj (j := 1) hxd rfl (LP _) rfl rfl rfl rfl ?_
     refine Jv ?_
     refine ae (f3) ?_
     refine K1 (by kernel_rfl) ?_
     exact iC (hN (_) (⟨f1, f2⟩)) ⟨rfl, rfl, trivial⟩ rfl
  rintro w3 ⟨hx3, hU3⟩
  refine aq ?_
  obtain⟨hd, hhd⟩:∃hd, hd = B5 t s c := ⟨_, rfl⟩
  rw[← hhd]at hx3
  have h3 := h2.upd hU3 hi hj (by omega) (by omega)
  have hR3 := hR2.upd hU3
  refine K7 ?_
  refine JS ?_
  refine zv (JD rfl) ?_
  refine zv (af (us := [nI (c:Nat), .bool hd]) hx3.cellsAdd (Lv _) (JW _) rfl) ?_
  refine zv (ao rfl) ?_
  refine zv (RV.fa rfl) ?_
  refine ew (us := #[nI (c:Nat), .bool hd]) 20 (oK t gv lc rc wv {s with last := (c, hd)}).toArray h3.blk (h3.lastE c hd) (by rw[h3.size]; show 22 ≤ 23; omega) (JW _) rfl rfl rfl rfl ?_
  obtain⟨h4, hU4⟩ := h3.lastS hi hj hij c hd
  have hx4 := hx3.upd hU4 (by decide) (by omega)
  have hU04 := (hU3.mono (S' := fun q => q = i ∨ q = j ∨ q = 1000) (fun _ h => by omega) hz).trans (hU4.mono (fun _ h => by omega) hz)
  have hR4 := hR3.upd hU4
  generalize w3.setRow rb (oK t gv lc rc wv {s with last := (c, hd)}).toArray = w4 at *
  refine Jv ?_
  refine aq ?_
  have k18:w4.drew.cell? (nA rb 18) = some wv := h4.k18
  refine aG (fun W => ∀k u, [nI (c:Nat), .bool hd][k]? = some u → W.cell? (nA xb k) = some u) 11 rfl (by kernel_rfl) ?_
  refine zin hx4.cellsAdd fun zS => ?_
  refine zrm 0 rfl zS rfl ?_
  refine zrm 1 rfl zS rfl ?_
  refine zr 2 rfl zS (fun _ => ao rfl) ?_
  refine zrf 3 rfl zS rfl ?_
  refine zt 5 rfl zS (fun w1 hw1 => af (us := [nI (c:Nat), .bool hd]) hw1 (Lv _) (JW _) rfl) ?_
  refine bQ 4 6 elE (enc := FT) ((c, hd):En) rfl rfl (by kernel_rfl) (by kernel_rfl) (by kernel_rfl) (by kernel_rfl) (fun W hE => RV.load (hE.cell k18) (isAgg115 _) rfl) (fun W hE k u hu => hE.cell (hx4.cellsAdd k u hu)) rfl rfl rfl (by decide) rfl rfl rfl rfl rfl ?_
  intro sv w5 hsv hE5
  have hX5 := aa (S := fun _ => False) (fun h => h) O1 ((J7 w4).drew.trans hE5)
  have h5 := h4.upd hX5 hi hj (fun h => h) (fun h => h)
  have hx5 := hx4.upd hX5 (by decide) (fun h => h)
  have hR5 := hR4.upd hX5
  refine Jj 7 (by kernel_rfl) rfl ?_
  refine uc elE h5.win hR5 hsv rfl rfl rfl (by simp[Jn]) (by show(s.wait.length + 1) * 16 ≤ _; omega) (by show s.wait.length + 1 ≤ _; omega) hj rfl ?_
  intro wv6 w6 O6 hwin6 hU6 hR6
  have hx6 := hx5.upd hU6 (by decide) (by omega)
  have h6 := h5.blk.upd hU6 hi hij
  refine Jv ?_
  refine zaf (hx6.cellsAdd) fun zS => ?_
  refine zr 8 rfl zS (fun _ => ao rfl) ?_
  refine zrf 9 rfl zS rfl ?_
  refine Jj 10 (by kernel_rfl) rfl ?_
  refine aj (j := 18) h6 (h5.at_ 1 rfl) (sizeOf115 _) hwin6.one rfl rfl rfl ?_
  obtain⟨h7, hU7⟩ := h5.store2 hi hj hij hU6 h6 1 wv6 (wv' := wv6) (s' := {s with last := (c, hd), wait := s.wait ++ [(c, hd)]}) rfl hwin6
  have hx7 := hx6.upd hU7 (by decide) (by omega)
  refine Jv ?_
  refine ae (hx7.cellsAdd) ?_
  refine K1 (by kernel_rfl) ?_
  have e:oD t s c = {s with last := (c, hd), wait := s.wait ++ [(c, hd)]} := by unfold oD; rw[hbg, if_pos rfl, ← hhd]
  have hU27 := ((hU04.trans (hX5.mono (fun _ h => h.elim) hz)).trans (hU6.mono (fun _ h => by omega) hz)).trans (hU7.mono (fun _ h => by omega) hz)
  refine aH rfl (⟨O6, wv6, by rw[e]; exact h7, (hU02.mono (fun _ h => by omega) hz).trans hU27, hR6.upd hU7⟩)
theorem iX{g:Nat}{tab:List Nat}{S:Nat->Prop}{B:Nat}{O O':Nat->Nat}{w w':ln}(h:Mp g tab w)(hg:g<B)(r:KW B O w)(u:Jr S O w O' w'):Mp g tab w':=fun j hj=>by
 have h0:O g=0:=by
  by_cases e:O g=0
  ·exact e
  have:=(r.rng g e).1;omega
 exact ij (u.blk g (by have:=r.le;omega) (by rw[h0];exact u.z)) (h j hj)
abbrev IE:Nat:=0
def qC(t:TabM)(s:RunS)(x:En):Int:=if x.2=true then -1 else eQ t s
def uJ(t:TabM)(s:RunS)(x:En):Bool:=!x.2&&(decide (eQ t s<0)||t.br.testBit (eQ t s).toNat)
def Ai(t:TabM)(s:RunS)(x:En)(r:List En):RunS:={s with row:=if x.2=true then s.row else stL t s.row x.1,wait:=r}
theorem ze(t:TabM)(s:RunS)(ho:OkT t)(hs:OkS t s):eQ t s = -1\/∃n,n<64/\eQ t s=((n:Nat):Int):=by
 have a1:(2^40:Nat)=1099511627776:=zd;have a2:=sF ho hs;have a0:nth t.lt s.row &&& ef t s.wait<18446744073709551616:=LU Nat.and_le_right zo;unfold eQ;generalize nth t.lt s.row &&& ef t s.wait=both at *
 split
 ·exact .inl rfl
 rename_i h0;obtain⟨_,hk⟩:=Ml 64 both h0 a0;exact .inr ⟨_,hk,rfl⟩
theorem vU{t:TabM}{s:RunS}{x:En}{r:List En}(ho:OkT t)(hs:OkS t s)(hw:s.wait=x::r):OkS t (Ai t s x r):=by
 have hx:=hs.wait x (by simp[hw]);refine⟨?_,fun y hy=>hs.wait y (by rw[hw];simp[show y∈r from hy]),hs.last,?_⟩
 ·show(if x.2=true then s.row else stL t s.row x.1)<_
  split
  ·exact hs.row
  exact(ho.lN hs.row zo).2
 have:=hs.few;rw[hw]at this;simp only[Jq]at this;show r.length<=_;omega
theorem ma(B:Nat)(O:Nat → Nat)(w:ln)(i j rb:Nat)(t:TabM)(gv:ix)(lc rc:List ix)(wv:ix)(s:RunS)(x:En)(r:List En)(hxr:s.wait = x :: r)(h:RunO O w i j rb t gv lc rc wv s)(hi:i ≠ 0)(hj:j ≠ 0)(hij:i ≠ j)(hi1:i < 1000)(hj1:j < 1000)(ho:OkT t)(hs:OkS t s)(hR:KW B O w)(hT:cP w)(hg:IE < B):
  KM Ju 26 [nP rb] w fun v w' => v = .tuple #[nI (qC t s x), .bool (uJ t s x)] ∧ ∃O' wv', RunO O' w' i j rb t gv lc rc wv' (Ai t s x r) ∧ Jr (fun q => q = i ∨ q = j ∨ q = 1000) O w O' w' ∧ KW B O' w' := by
 have hp40:(2^40:Nat) = 1099511627776 := by decide
 have hz:¬(0 = i ∨ 0 = j ∨ 0 = 1000) := by omega
 have hwl := hs.few
 have hwlen:s.wait.length = r.length + 1 := by rw[hxr]; rfl
 have k18 := h.k18
 have hws := h.win.sl
 obtain⟨c, hd, hcd⟩:∃c hd, x = (c, hd) := ⟨_, _, rfl⟩
 subst hcd
 have hc36:c < 36 := hs.wait (c, hd) (by simp[hxr])
 have hwin := ze t s ho hs
 refine J1 func26 ntmps26 rfl rfl ?_
 refine K7 ?_
 refine JS ?_
 refine zv (K2 rfl) ?_
 refine zv (K2 rfl) ?_
 refine Jv ?_
 refine aq ?_
 refine K7 ?_
 refine JS ?_
 refine zv (JD rfl) ?_
 refine zv (ao rfl) ?_
 refine zv (RV.fa rfl) ?_
 refine zv (RV.ld k18 rfl) ?_
 refine zv (ai hws.sh LD (JW _) rfl rfl 0 rfl (by omega)) ?_
 refine zv (af (us := [nI (c:Nat), .bool hd]) (fun k u hu => hws.cell (i := 0) (by omega) (by rw[hxr, ay]; exact hu)) (Lv _) (JW _) rfl) ?_
 refine aw hR 1000 (by omega) (Lc _) rfl ?_
 intro xb w1 O1 hxb1 hU1 hR1 hE1
 refine zsa (us := #[nI (c:Nat), .bool hd]) hxb1 (JW _) ?_
 have hxb2 := hxb1.setRow (us := #[nI (c:Nat), .bool hd])
 have hU2:Jr (fun q => q = 1000) O1 w1 O1 (w1.setRow xb #[nI (c:Nat), .bool hd]) := J5 (by decide) hxb1.tag rfl
 generalize w1.setRow xb #[nI (c:Nat), .bool hd] = w2 at *
 have hU02 := hU1.trans hU2
 have hR2 := hR1.upd hU2
 have h2 := h.upd hU02 hi hj (by omega) (by omega)
 have hT2:cP w2 := iX hT hg hR hU02
 have x1:w2.cell? (nA xb 1) = some (.bool hd) := hxb2.cell 1 rfl
 refine Jv ?_
 refine aq ?_
 refine K7 ?_
 refine JS ?_
 refine zv (K2 rfl) ?_
 refine Jv ?_
 refine aq ?_
 refine K7 ?_
 refine K7 ?_
 refine JS ?_
 refine zv (RV.fa rfl) ?_
 refine zv (RV.ld x1 rfl) ?_
 refine zv (Mq rfl) ?_
 refine Jv ?_
 refine aq ?_
 refine iy (fun z:(Nat → Nat)×World×Int => [(0, nP rb), (4, nP xb), (5, nI z.2.2)]) (fun z:(Nat → Nat)×World×Int => z.2.1) (fun z:(Nat → Nat)×World×Int => RunO z.1 z.2.1 i j rb t gv lc rc wv {s with row := if hd = true then s.row else stL t s.row c} ∧ KS z.1 z.2.1 1000 xb #[nI (c:Nat), .bool hd] 117 ∧ Jr (fun q => q = i) O1 w2 z.1 z.2.1 ∧ KW B z.1 z.2.1 ∧ z.2.2 = qC t s (c, hd)) ?_ ?_
 ·intro Qm hN
  by_cases hhd:hd = true
  ·skip
   refine aN rfl ((by rw[hhd]; rfl)) ?_
   refine My ?_
   exact iC (hN ((O1, w2, -1)) (⟨by rw[if_pos hhd]; exact h2, hxb2, L0 (fun e => hi e.symm) _ _, hR2, by show _ = if hd = true then _ else _; rw[if_pos hhd]⟩)) ⟨rfl, rfl, rfl, trivial⟩ rfl
  ·skip
   refine aR rfl ((by rw[show hd = false from by simpa using hhd]; rfl)) ?_
   refine K7 ?_
   refine JS ?_
   refine zv (JD rfl) ?_
   refine zc call50 (qo O1 w2 i j rb t gv lc rc wv s h2 hi hj ho hs hT2) ?_
   rintro _ w3 ⟨rfl, hE3⟩
   have hX3 := aa (S := fun _ => False) (fun h => h) O1 hE3
   have h3 := h2.upd hX3 hi hj (fun h => h) (fun h => h)
   have hxb3 := hxb2.upd hX3 (by decide) (fun h => h)
   have hR3 := hR2.upd hX3
   refine zv (K2 rfl) ?_
   refine Jv ?_
   refine aq ?_
   have hB := h3.tab
   obtain⟨hg1, hg2⟩ := ho.gN (c := c) (by omega)
   obtain⟨hr1, hr2⟩ := ho.lN hs.row (c := c) (by omega)
   have hgl := ho.gl
   have d4:w3.drew.cell? ((nA rb 0).add 4) = some gv := hB.c4
   have dcl:∀(j:Nat) (u:ix), lc[j]? = some u → w3.drew.cell? (((nA rb 0).add 5).add j) = some u := hB.cl
   have dg:w3.drew.cell? (adr gv 1 c) = some (nI ((grT t c:Nat):Int)) := by have := hB.groups.cell (i := c) (j := 0) (by omega) rfl; rw[ax, hg1]at this; exact this
   have d17:w3.drew.cell? (nA rb 17) = some (nI (s.row:Int)) := h3.k17
   have dx:w3.drew.cell? (nA xb 0) = some (nI (c:Int)) := hxb3.cell 0 rfl
   refine aG (fun W => W.cell? ((nA rb 0).add 4) = some gv ∧ W.cell? (adr gv 1 c) = some (nI ((grT t c:Nat):Int)) ∧ (∀(j:Nat) (u:ix), lc[j]? = some u → W.cell? (((nA rb 0).add 5).add j) = some u) ∧ W.cell? (nA xb 0) = some (nI (c:Int))) 23 rfl (by kernel_rfl) ?_
   refine zin ⟨d4, dg, dcl, dx⟩ fun zS => ?_
   refine zrm 0 rfl zS rfl ?_
   refine zrm 1 rfl zS rfl ?_
   refine zr 2 rfl zS (fun _ => ao rfl) ?_
   refine zrf 3 rfl zS rfl ?_
   refine zrf 4 rfl zS rfl ?_
   refine zt 5 rfl zS (fun w1 hw1 => af (us := lc) hw1.2.2.1 (Ld _) (by rw[h.left.one.1]; exact Kl _) rfl) ?_
   refine zrm 6 rfl zS rfl ?_
   refine zr 7 rfl zS (fun _ => ao rfl) ?_
   refine zrf 8 rfl zS rfl ?_
   refine zrm 10 rfl zS rfl ?_
   refine zr 11 rfl zS (fun _ => ao rfl) ?_
   refine zrf 12 rfl zS rfl ?_
   refine zrf 13 rfl zS rfl ?_
   refine zt 14 rfl zS (fun w1 hw1 => RV.ld hw1.1 rfl) ?_
   refine zrf 15 rfl zS rfl ?_
   refine zt 16 rfl zS (fun w1 hw1 => RV.ld hw1.2.2.2 rfl) ?_
   refine zr 17 rfl zS (fun _ => ai hB.groups.sh J2 (JE _) rfl rfl c rfl (by omega)) ?_
   refine zt 18 rfl zS (fun w1 hw1 => RV.ld hw1.2.1 rfl) ?_
   refine Jj 9 (by kernel_rfl) rfl ?_
   refine zv (RV.ld d17 rfl) ?_
   refine Jv ?_
   refine ae (⟨d4, dg, dcl, dx⟩) ?_
   refine Jj 19 (by kernel_rfl) rfl ?_
   refine zc MC (jS lc t.left t.lt s.row (grT t c) w3.drew (hB.left.ext (J7 w3).drew) ho.okl hs.row hg2) ?_
   rintro _ w5 ⟨rfl, hE5⟩
   rw[hr1]
   refine Jv ?_
   refine ae (⟨hE5.cell d4, hE5.cell dg, fun j u hu => hE5.cell (dcl j u hu), hE5.cell dx⟩) ?_
   have hX5 := aa (S := fun _ => False) (fun h => h) O1 ((J7 w3).drew.trans hE5)
   have h5 := h3.upd hX5 hi hj (fun h => h) (fun h => h)
   have hxb5 := hxb3.upd hX5 (by decide) (fun h => h)
   have hR5 := hR3.upd hX5
   refine zin (⟨hE5.cell d4, hE5.cell dg, fun j u hu => hE5.cell (dcl j u hu), hE5.cell dx⟩) fun zS => ?_
   refine zr 20 rfl zS (fun _ => ao rfl) ?_
   refine zrf 21 rfl zS rfl ?_
   refine Jj 22 (by kernel_rfl) rfl ?_
   refine aj (j := 17) h5.blk (h5.at_ 0 rfl) (JE _) rfl rfl rfl rfl ?_
   obtain⟨h6, hU6⟩ := h5.store hi hj hij 0 (nI ((stL t s.row c:Nat):Int)) (wv' := wv) (s' := {s with row := stL t s.row c}) rfl h5.win
   have hB6 := h6.tab
   have hR6 := hR5.upd hU6
   have hxb6 := hxb5.upd hU6 (by decide) (by omega)
   have hU26 := ((hX3.trans hX5).mono (S' := fun q => q = i) (fun _ h => h.elim) (by omega)).trans hU6
   have q1:(w5.setCell ⟨rb, 17 + 0, none⟩ (nI ((stL t s.row c:Nat):Int))).cell? (adr gv 1 c) = some (nI ((grT t c:Nat):Int)) := by have := hB6.groups.cell (i := c) (j := 0) (by omega) rfl; rw[ax, hg1]at this; exact this
   refine Jv ?_
   refine ae (⟨hB6.c4, q1, hB6.cl, hxb6.cell 0 rfl⟩) ?_
   refine K1 (by kernel_rfl) ?_
   exact iC (hN ((O1, _, eQ t s)) (⟨by rw[if_neg hhd]; exact h6, hxb6, hU26, hR6, by show _ = if hd = true then _ else _; rw[if_neg hhd]⟩)) ⟨rfl, rfl, rfl, trivial⟩ rfl
 rintro⟨O3, w3, k⟩ ⟨h3, hxb3, hU3, hR3, hk⟩
 dsimp only at h3 hxb3 hU3 hR3 hk ⊢
 refine aq ?_
 have hws3 := h3.win.sl
 have d18 := h3.k18
 refine K7 ?_
 refine JS ?_
 refine zv (JD rfl) ?_
 refine zv (JD rfl) ?_
 refine zv (ao rfl) ?_
 refine zv (RV.fa rfl) ?_
 refine zv (RV.ld d18 rfl) ?_
 refine zv (qm hws3 LD (JW _) rfl rfl 1 rfl (by show 1 ≤ s.wait.length; omega)) ?_
 refine zv (ao rfl) ?_
 refine zv (RV.fa rfl) ?_
 have hw4 := h3.win
 have hwt:WinO FT 117 2 O3 w3 j (dU wv 2 1 s.wait.length) r := by
  rw[hwlen]
  have:WinO FT 117 2 O3 w3 j wv ((c, hd) :: r) := by rw[← hxr]; exact hw4
  exact this.tail (by decide)
 refine aj (j := 18) h3.blk (h3.at_ 1 rfl) (sizeOf115 _) hwt.one rfl rfl rfl ?_
 obtain⟨h4, hU4⟩ := h3.store hi hj hij 1 (dU wv 2 1 s.wait.length) (wv' := dU wv 2 1 s.wait.length) (s' := Ai t s (c, hd) r) rfl hwt
 have hxb4 := hxb3.upd hU4 (by decide) (by omega)
 have hR4 := hR3.upd hU4
 generalize w3.setCell ⟨rb, 17 + 1, none⟩ (dU wv 2 1 s.wait.length) = w4 at *
 have hU04 := (hU02.mono (S' := fun q => q = i ∨ q = j ∨ q = 1000) (fun _ h => by omega) hz).trans ((hU3.trans hU4).mono (fun _ h => by omega) hz)
 have x41:w4.cell? (nA xb 1) = some (.bool hd) := hxb4.cell 1 rfl
 refine Jv ?_
 refine aq ?_
 refine K7 ?_
 refine JS ?_
 refine zv (JD rfl) ?_
 refine zv (RV.fa rfl) ?_
 refine zv (RV.ld x41 rfl) ?_
 refine zv (Mq rfl) ?_
 refine zv (JD rfl) ?_
 cases hhd:hd with
 |true =>
  refine az (d := 51) rfl (b' := false) (rfl) ?_
  refine KL rfl rfl rfl ?_
  refine KL rfl rfl rfl ?_
  refine KL rfl rfl rfl ?_
  refine gp rfl rfl ?_
  refine gp rfl rfl ?_
  refine gp rfl rfl ?_
  refine gp rfl rfl ?_
  refine gp rfl rfl ?_
  refine gp rfl rfl ?_
  refine gp rfl rfl ?_
  refine KL rfl rfl rfl ?_
  refine zv (bC rfl rfl) ?_
  refine zv (K2 rfl) ?_
  refine zv (K2 rfl) ?_
  refine Jv ?_
  refine aq ?_
  refine Mm ?_
  refine bx rfl rfl rfl (⟨by rw[hk, hhd]; rfl, O3, _, by rw[← hhd]; exact h4, hU04, hR4⟩)
 |false =>
  have hbr := ho.br
  subst hhd
  replace hk:k = eQ t s := hk
  have hPB:uJ t s (c, false) = (decide (eQ t s < 0) || t.br.testBit (eQ t s).toNat) := rfl
  have hPK:qC t s (c, false) = eQ t s := rfl
  rw[hPB, hPK, ← hk]
  rw[← hk]at hwin
  refine az (d := 51) rfl (b' := true) (rfl) ?_
  refine gn rfl ?_
  refine zv (JD rfl) ?_
  refine gn rfl ?_
  refine zv (RV.lss rfl rfl) ?_
  refine gn rfl ?_
  refine zv (JD rfl) ?_
  rcases hwin with hk1 | ⟨n, hn, hk1⟩
  ·skip
   refine az (d := 54) rfl (b' := true) ((by rw[hk1]; rfl)) ?_
   refine KL rfl rfl rfl ?_
   refine KL rfl rfl rfl ?_
   refine KL rfl rfl rfl ?_
   refine KL rfl rfl rfl ?_
   refine KL rfl rfl rfl ?_
   refine KL rfl rfl rfl ?_
   refine KL rfl rfl rfl ?_
   refine gn rfl ?_
   refine zv (bB rfl rfl) ?_
   refine zv (bB rfl rfl) ?_
   refine zv (K2 rfl) ?_
   refine zv (K2 rfl) ?_
   refine Jv ?_
   refine aq ?_
   refine Mm ?_
   refine bx rfl rfl rfl (⟨by rw[hk1]; rfl, O3, _, h4, hU04, hR4⟩)
  ·have hd0:decide (k < 0) = false := decide_eq_false (by omega)
   rw[hd0, hk1]
   refine az (d := 54) rfl (b' := false) (rfl) ?_
   have b2:w4.cell? ((nA rb 0).add 2) = some (.int .u64 (t.br:Int)) := h4.tab.c2
   refine gn rfl ?_
   refine zv (JD rfl) ?_
   refine gn rfl ?_
   refine zv (ao rfl) ?_
   refine gn rfl ?_
   refine zv (RV.fa rfl) ?_
   refine gn rfl ?_
   refine zv (RV.fa rfl) ?_
   refine gn rfl ?_
   refine zv (RV.ld b2 rfl) ?_
   refine gn rfl ?_
   refine zv (JD rfl) ?_
   refine gn rfl ?_
   refine zc MV (qY t.br n _ (by omega) hn) ?_
   rintro _ w5 ⟨rfl, rfl⟩
   refine gn rfl ?_
   refine zv (bC rfl rfl) ?_
   refine zv (bB rfl rfl) ?_
   refine zv (K2 rfl) ?_
   refine zv (K2 rfl) ?_
   refine Jv ?_
   refine aq ?_
   refine Mm ?_
   refine bx rfl rfl rfl (⟨rfl, O3, _, h4, hU04, hR4⟩)
abbrev Bm(b:Bool):List ix:=[.bool b]
theorem G2:MH Ju 90 4 1 1:=⟨underlying90,by kernel_rfl,zd⟩
abbrev xX(a0:Nat)(l:List En):RunS:=⟨a0,l,true,(0,false),true⟩
def Gf(t:TabM)(a0:Nat)(x:En):Nat:=if x.2=true then a0 else stL t a0 x.1
def ib(t:TabM):List En->Nat->List Bool
 |[],_=>[]
 |x::r,row=>uJ t (xX row (x::r)) x::ib t r (Gf t row x)
theorem Cp(t:TabM)(s:RunS)(x:En):uJ t s x=uJ t (xX s.row s.wait) x:=rfl
theorem Co(t:TabM)(s:RunS)(x:En):qC t s x=qC t (xX s.row s.wait) x:=rfl
theorem qd(t:TabM):∀(l:List En) (row:Nat),(ib t l row).length=l.length
 |[],_=>rfl
 |x::r,row=>by rw[ib,Jq,qd t r,Jq]
theorem rC(B:Nat)(O:Nat->Nat)(w:ln)(i j m rb:Nat)(t:TabM)(gv:ix)(lc rc:List ix)(wv:ix)(s:RunS)(h:RunO O w i j rb t gv lc rc wv s)(hi:i≠0)(hj:j≠0)(b3:i≠j)(c9:i<1000)(c7:j<1000)(hm:m≠0)(d5:m<1000)(c8:i≠m)(c6:j≠m) 
  (ho:OkT t) (hs:OkS t s) (d0:s.closed=false) (hR:KW B O w) (hT:cP w) (hg:IE<B) :
  KM Ju 59 [nP rb] w fun v w'=>∃O' wv' s',RunO O' w' i j rb t gv lc rc wv' s'/\OkS t s'/\s'.wait=[]/\s'.closed=true/\LF Bm 4 1 O' w' m v (ib t s.wait s.row)/\Jr (fun q=>q=i\/q=j\/q=m\/q=1000) O w O' w'/\KW B O' w':=by
 have hz:¬(0=i\/0=j\/0=m\/0=1000):=zo;have d4:=hs.few;have k22:=h.k22;rw[d0]at k22;obtain⟨R,b7⟩:∃R,R=ib t s.wait s.row:=⟨_,rfl⟩
 rw[<-b7];refine J1 func59 ntmps59 rfl rfl ?_;refine zh ?_;refine zvH (ez (q:=some ⟨rb,0,none⟩) LN rfl rfl) ?_;refine az (d:=8) rfl (b':=false) (rfl) ?_;refine zh ?_;refine zFH rfl rfl ?_;refine aj (j:=22) h.blk (h.at_ 5 rfl) (LP _) rfl rfl rfl rfl ?_;obtain⟨h1,b6⟩:=h.store hi hj b3 5 (.bool true) (wv':=wv) (s':={s with closed:=true}) rfl h.win;have d3:=hR.upd b6;generalize w.setCell ⟨rb,17+5,none⟩ (.bool true)=w1 at *;refine zh ?_;refine zlp (fun z:(Nat->Nat)×World×ix×RunS×ix×List Bool=>[(0,nP rb),(3,z.2.2.2.2.1)]) (fun z=>z.2.1) (fun z=>RunO z.1 z.2.1 i j rb t gv lc rc z.2.2.1 z.2.2.2.1/\OkS t z.2.2.2.1/\z.2.2.2.1.closed=true/\LF Bm 4 1 z.1 z.2.1 m z.2.2.2.2.1 z.2.2.2.2.2/\Jr (fun q=>q=i\/q=j\/q=m\/q=1000) O w z.1 z.2.1/\KW B z.1 z.2.1/\z.2.2.2.2.2++ib t z.2.2.2.1.wait z.2.2.2.1.row=R/\z.2.2.2.2.2.length+z.2.2.2.1.wait.length<=1000000) (fun z=>z.2.2.2.1.wait.length) (O,w1,wv,{s with closed:=true},nS,[]) (⟨h1,⟨hs.row,hs.wait,hs.last,hs.few⟩,rfl,JM _ _ _ _ _ _,b6.mono (fun _ h=>zo) hz,d3,by rw[b7];rfl,by show 0+s.wait.length<=_;omega⟩) ?_;rintro⟨O2,w2,b0,s2,ov,l⟩ ⟨h2,a2,a9,a6,a3,a',a1,a8⟩;dsimp only at h2 a2 a9 a6 a3 a' a1 a8 ⊢;have c5:=h2.win.sl;have d6:=h2.k18;refine zh ?_;refine zC ?_ ?_
 ·intro a7;replace a7:0<s2.wait.length:=dT a7;obtain⟨x,r,a0⟩:=Li (KU.1 a7);have b1:s2.wait.length=r.length+1:=by rw[a0];rfl
  rw[a0,ib]at a1;refine zh ?_;refine zc call26 (ma B O2 w2 i j rb t gv lc rc b0 s2 x r a0 h2 hi hj b3 c9 c7 ho a2 a' (iX hT hg hR a3) hg) ?_;rintro _ w3 ⟨rfl,O3,b8,h3,b5,d2⟩;have a5:=a6.upd b5 hm zo;refine zh ?_;refine KK G2 a5 d2 (uJ t s2 x) (fun _=>rfl) rfl rfl rfl (by simp[Jn]) zo zo zo zd rfl rfl ?_;intro b9 w4 O4 a4 b4 d1;have h4:=h3.upd b4 hi hj c8 c6;refine zh ?_;refine zx (O4,w4,b8,Ai t s2 x r,b9,l++[uJ t s2 x]) (⟨h4,vU ho a2 a0,a9,a4,(a3.trans (b5.mono (fun _ h=>zo) hz)).trans (b4.mono (fun _ h=>zo) hz),d1,by rw[Kv,<-a1,Cp,a0];rfl,by rw[JL];show l.length+1+r.length<=_;omega⟩) (by show r.length<_;omega)
 intro c';have b2:s2.wait=[]:=Kh (by have:=of_decide_eq_false c';omega);rw[b2,ib,JP]at a1;subst a1;refine zh ?_;refine ah rfl rfl (⟨O2,b0,s2,h2,a2,b2,a9,a6,a3,a'⟩)
end Go.Proofs.YtjemhjcngaokpaaGreatDoor
section
namespace Go.VL
theorem za:∀(l:List ix) (k:Nat) (cells:Array ix),k+l.length<=cells.size->(l.zipIdx k).foldl (fun(cs:Array ix) (q:ix×Nat)=>cs.setIfInBounds (0+q.2) q.1) cells=(cells.toList.take k++l++cells.toList.drop (k+l.length)).toArray
 |[],k,cells,_=>by simp
 |c::l,k,cells,h=>by
  simp only[Jq]at h;rw[List.zipIdx_cons,Jh,za l (k+1) _ (by simp;omega)];congr 1;simp only[Lx,Array.toList_setIfInBounds,Jq];rw[List.drop_set_of_lt zo,List.take_succ_eq_append_getElem (by simp;omega),List.take_set_of_le (JG _)];simp[KV,Mt 1]
theorem Bj(pl:Array (Nat×Nat))(us cells:Array ix)(hp:pl[0]? = some (0,us.size))(hs:us.size<=cells.size):Mv (pl[·]?) cells [(0,.agg us)]=some (us.toList++cells.toList.drop us.size).toArray:=by
 have hc:(Value.agg us).cells=us:=rfl;have a0:¬(us.size≠us.size\/0+us.size>cells.size):=zo;simp only[Mv,hp,hc];rw[if_neg (by simp;omega)];have:=za us.toList 0 cells (by simpa using hs);rw[<-Array.foldl_toList,Array.toList_zipIdx];simpa using this
end Go.VL
namespace Go.Proofs.YtjemhjcngaokpaaGreatDoor
open Go.VL Go.Proofs
set_option maxRecDepth 10000
theorem Ir:ck Ju 119 #[(0,17),(17,1),(18,1),(19,1),(20,2),(22,1)]:=⟨_,underlying119,fun w=>by kernel_rfl⟩
def iI(t:TabM):RunS:=⟨stL t 0 36,[],false,(0,false),false⟩
theorem zU{t:TabM}(ho:OkT t):OkS t (iI t):=⟨(ho.lN ho.lp zd).2,fun x hx=>(by cases hx),(by show 0<36;decide),(by show 0<=1000000;decide)⟩
theorem nc(B:Nat)(O:Nat->Nat)(w:ln)(i j:Nat)(t:TabM)(gv:ix)(lc rc:List ix)(d5:K0 w gv t.groups)(c9:PartV w lc t.left t.lt)(c8:PartV w rc t.right t.rt)(d7:FreeL O w (gv::(lc++rc)))(hi:i≠0)(hj:j≠0)(d3:i≠j)(e2:i<1000)(ho:OkT t)(d1:bW t=true)(hR:KW B O w):
  KM Ju 24 [.agg (bn t.ig t.kp t.br t.rules gv lc rc).toArray] w fun v w'=>∃O' rb,v=nP rb/\RunO O' w' i j rb t gv lc rc (nS) (iI t)/\Jr (fun q=>q=i\/q=1000) O w O' w'/\KW B O' w':=by
 have hz:¬(0=i\/0=1000):=zo;obtain⟨ll,lo⟩:=c9.one;obtain⟨rl,ro⟩:=c8.one;have a0:(bn t.ig t.kp t.br t.rules gv lc rc).length=17:=by simp[ll,rl]
 refine J1 func24 ntmps24 rfl rfl ?_;refine zh ?_
 refine aE hR 1000 zo rfl rfl ?_;intro db w1 O1 a8 d0 e0 c5;have b5:=d7.upd d0;have a5:=d5.ext c5;have a4:=c9.ext c5;have a3:=c8.ext c5;refine zh ?_
 refine zv (af (us:=bn t.ig t.kp t.br t.rules gv lc rc) a8.cellsAdd (KP _) (by rw[a0];exact JV _) rfl) ?_;refine zc call22 (dR t _ w1 ⟨gv,lc,rc,rfl,a5,a4,a3⟩) ?_
 rintro _ w2 ⟨rfl,b1⟩;have b0:=aa (S:=fun _=>False) (fun h=>h) O1 b1;have a7:=a8.upd b0 zd (fun h=>h);have b4:=b5.upd b0;have d':=e0.upd b0;rw[d1];refine zh ?_;refine zFH rfl rfl ?_;refine zv (af (us:=bn t.ig t.kp t.br t.rules gv lc rc) a7.cellsAdd (KP _) (by rw[a0];exact JV _) rfl) ?_;refine zv (KH (cells:=(oK t gv lc rc (nS) ⟨0,[],false,(0,false),false⟩).toArray) Ir (zeroValue119 _) rfl (by rw[Bj _ _ _ (by rw[KY,a0];rfl) (by rw[KY,a0];decide),KY,a0];rfl)) ?_;refine aE d' i zo rfl rfl ?_;intro rb w3 O3 b2 b9 d9 b';have b3:=b4.upd b9;have h3:RunO O3 w3 i j rb t gv lc rc (nS) ⟨0,[],false,(0,false),false⟩:=⟨b2,WinO.nil _ _ _ _ _ _,a5.ext (b1.trans b'),a4.ext (b1.trans b'),a3.ext (b1.trans b'),b3⟩
 have a6:=a7.upd b9 zd zo;have a9:=vD (t:=t) a6 h3.groups h3.left h3.right;refine zh ?_;obtain⟨c',d6⟩:=ho.gN (c:=36) zd;obtain⟨d2,e1⟩:=ho.lN ho.lp (c:=36) zd;have e3:=ho.gl;have d4:w3.drew.cell? (nA db 4)=some gv:=a9.c4;have c7:∀(j:Nat) (u:ix),lc[j]? = some u->w3.drew.cell? ((nA db 5).add j)=some u:=a9.cl;have dg:w3.drew.cell? (adr gv 1 36)=some (nI ((grT t 36:Nat):Int)):=by have:=a9.groups.cell (i:=36) (j:=0) zo rfl;rw[ax,c']at this;exact this
 refine aG (fun W=>W.cell? (nA db 4)=some gv/\W.cell? (adr gv 1 36)=some (nI ((grT t 36:Nat):Int))/\(∀(j:Nat) (u:ix),lc[j]? = some u->W.cell? ((nA db 5).add j)=some u)) 11 rfl zk ?_;refine zin ⟨d4,dg,c7⟩ fun zS=>?_
 refine zrm 0 rfl zS rfl ?_;refine zrf 1 rfl zS rfl ?_
 refine zt 2 rfl zS (fun w1 a2=>af (us:=lc) a2.2.2 (Ld _) (by rw[ll];exact Kl _) rfl) ?_;refine zrf 3 rfl zS rfl ?_
 refine zt 4 rfl zS (fun w1 a2=>RV.ld a2.1 rfl) ?_;refine zr 5 rfl zS (fun _=>ai a9.groups.sh J2 (JE _) rfl rfl 36 rfl zo) ?_
 refine zt 6 rfl zS (fun w1 a2=>RV.ld a2.2.1 rfl) ?_;refine Jj 7 zk rfl ?_
 refine zc MC (jS lc t.left t.lt 0 (grT t 36) w3.drew (a9.left.ext (J7 w3).drew) ho.okl ho.lp d6) ?_;rintro _ w5 ⟨rfl,a1⟩;rw[d2];refine zh ?_
 refine ae (⟨a1.cell d4,a1.cell dg,fun j u hu=>a1.cell (c7 j u hu)⟩) ?_;have a':=aa (S:=fun _=>False) (fun h=>h) O3 ((J7 w3).drew.trans a1);have h5:=h3.upd a' hi hj (fun h=>h) (fun h=>h);have b7:=a6.upd a' zd (fun h=>h);have d8:=d9.upd a';refine zin (⟨a1.cell d4,a1.cell dg,fun j u hu=>a1.cell (c7 j u hu)⟩) fun zS=>?_
 refine zr 8 rfl zS (fun _=>ao rfl) ?_;refine zrf 9 rfl zS rfl ?_
 refine Jj 10 zk rfl ?_;refine aj (j:=17) h5.blk (h5.at_ 0 rfl) (JE _) rfl rfl rfl rfl ?_
 obtain⟨h6,b8⟩:=h5.store hi hj d3 0 (nI ((stL t 0 36:Nat):Int)) (wv':=nS) (s':=iI t) rfl h5.win;have b6:=b7.upd b8 zd zo;have c6:=vD (t:=t) b6 h6.groups h6.left h6.right;have q1:(w5.setCell ⟨rb,17+0,none⟩ (nI ((stL t 0 36:Nat):Int))).cell? (adr gv 1 36)=some (nI ((grT t 36:Nat):Int)):=by have:=c6.groups.cell (i:=36) (j:=0) zo rfl;rw[ax,c']at this;exact this
 refine zh ?_;refine ae (⟨c6.c4,q1,c6.cl⟩) ?_
 refine K1 zk ?_;refine zh ?_
 refine ah rfl rfl (⟨O3,rb,rfl,h6,(((d0.mono (fun _ h=>zo) hz).trans (b0.mono (fun _ h=>h.elim) hz)).trans (b9.mono (fun _ h=>zo) hz)).trans ((a'.mono (fun _ h=>h.elim) hz).trans (b8.mono (fun _ h=>zo) hz)),d8.upd b8⟩)
end Go.Proofs.YtjemhjcngaokpaaGreatDoor
end
section
namespace Go.VL
open Go.Proofs
section
variable{P:Lr}{N:Nat}{ops:Array MO}{Q:Exit→Act→ln→Prop}{rest:List MO}{st:St}{w:ln}
variable{t:Ke}{p:String}{e:Array Edge}{d:Nat}{x:Mr}
theorem iu{T E:Ke}{sz a0:Nat}(he:MH P T E sz a0){α:Type}{enc:α->List ix}(u:α){B:Nat}{O:Nat->Nat}(r:KW B O w)(i:Nat)(a6:i≠0){xv:ix}(hx:ev st x=some xv)(a2:xv.cells.toList=enc u)(a3:(enc u).length=sz)(hs:sz<=16777216)(hd:MS d N=true) 
  (h:∀v w' O',LF enc E sz O' w' i v [u]->Jr (fun k=>k=i) O w O' w'->KW B O' w'->WL P N ops Q rest ((d,v)::st) w'):WL P N ops Q (⟨some d,.buildSlice T 1 #[(0,x)],t,p,e,none⟩::rest) st w:=by
 obtain⟨a4,z,hi,hz,a1,a9,a8⟩:=he.parts;have a7:xv.cells.size=sz:=by rw[<-a3,<-a2];simp
 have a5:=he.pos;have u1:=MI (S:=fun k=>k=i) (fun e=>a6 e.symm) r (.cells xv.cells E) i;refine WL.val (v:=.slice (some ⟨w.heap.size,0,none⟩) 1 1) (w':=w.alloc (.cells xv.cells E)) hd (fun a ha=>?_) (h _ _ (lB O w.heap.size i) ⟨⟨?_,fun g hg=>?_⟩,fun c hc=>by rw[ka.1 hc];exact a3⟩ u1 (r.upd u1))
 ·have:=run_buildSlice (P:=P) w T E 1 #[(0,xv)] xv.cells a4 z he.ht hi hz (by rw[a1];omega) (by rw[a1];omega) (by
   rw[a1]
   exact kI a7 (by simp))
  simp only[execOp,M0,Kf,KZ,ha.ev hx,L1,this,Ko];rfl
 ·have:=World.ownsRow_lit (base:=0) (size:=sz) (e:=E) w xv.cells 1 (J6 _) (by simp[maxLen]) zo;simpa[a2]using this
 simp[M7]at hg;subst hg;exact ed _ _ _
end
end Go.VL
namespace Go.Proofs.YtjemhjcngaokpaaGreatDoor
open Go.VL Go.Proofs
set_option maxRecDepth 10000
def aX(t:TabM)(s:RunS)(a0:List Int):RunS:=a0.foldl (fun s id=>oD t s (bJ id)) s
theorem lZ{t:TabM}{s:RunS}{a0:List Int}{k:Nat}(h:k<a0.length):aX t s (a0.take (k+1))=oD t (aX t s (a0.take k)) (bJ (nth a0 k)):=by
 unfold aX;rw[aM h,Jl];rfl
theorem Af(t:TabM)(s:RunS)(c:Nat):(oD t s c).wait.length<=s.wait.length+1/\(oD t s c).closed=s.closed:=by
 unfold oD
 split<;>simp
def lS(t:TabM)(a0:List Int):List Bool:=true::ib t (aX t (iI t) a0).wait (aX t (iI t) a0).row++if 0<a0.length then [true]else []
theorem PartV.free0{w:ln}{cs:List ix}{p:PSt}{tl:List Nat}(h:PartV w cs p tl):FreeL (fun _=>0) w cs:=fun v hv=>by
 obtain⟨uv,bv,kv,nv,tv,rfl,h1,h2,h3,h4,h5⟩:=h;simp only[J8,Jp,or_false]at hv
 rcases hv with rfl|rfl|rfl|rfl|rfl|rfl
 ·exact fun a n c e=>by cases e
 ·exact h1.free0 (fun x=>by simp)
 ·exact h2.free0 (fun x=>by simp)
 ·exact h3.free0 (fun x=>by simp)
 ·exact h4.free0 (fun x=>by simp)
 exact h5.free0 (fun x=>by simp)
theorem od{w:ln}(h:cP w):IE<w.heap.size:=by
 have:=h 0 zd;refine L5 fun hn=>?_
 simp[World.cell?,Array.getElem?_eq_none (show w.heap.size<=0 from M8 hn)]at this
theorem dQ{w:ln}{t:TabM}{gv:ix}{lc rc:List ix}(a2:K0 w gv t.groups)(a1:PartV w lc t.left t.lt)(a0:PartV w rc t.right t.rt):FreeL (fun _=>0) w (gv::(lc++rc)):=fun v hv=>by
 rcases J8.1 hv with rfl|hv
 ·exact a2.free0 (fun x=>by simp)
 rcases J9.1 hv with hv|hv
 ·exact a1.free0 v hv
 exact a0.free0 v hv
theorem jl(w:ln)(t:TabM)(gv:ix)(lc rc:List ix)(d3:K0 w gv t.groups)(b5:PartV w lc t.left t.lt)(b0:PartV w rc t.right t.rt)(ho:OkT t)(d6:bW t=true)(hT:cP w)(a0:List Int)(dv:ix)(hd:K0 w dv a0)(hn:a0.length<=100000):
  KM Ju 30 [.agg (bn t.ig t.kp t.br t.rules gv lc rc).toArray,dv] w fun v w'=>Sl Bm 1 w' v (lS t a0)/\Ki w w':=by
 have hz:¬(0=1\/0=2\/0=3\/0=4\/0=1000):=zo;obtain⟨ll,lo⟩:=b5.one;obtain⟨rl,ro⟩:=b0.one;have b4:(bn t.ig t.kp t.br t.rules gv lc rc).length=17:=by simp[ll,rl]
 have hg:=od hT;have b6:Mb (fun _=>0) w dv:=hd.free0 (fun x=>by simp);refine J1 func30 ntmps30 rfl rfl ?_;refine zh ?_;refine aE (ar w) 1000 zo rfl rfl ?_;intro db w1 O1 b7 d5 e6 c7;refine zh ?_;refine zv (af (us:=bn t.ig t.kp t.br t.rules gv lc rc) b7.cellsAdd (KP _) (by rw[b4];exact JV _) rfl) ?_;refine zc call24 (nc w.heap.size O1 w1 1 2 t gv lc rc (d3.ext c7) (b5.ext c7) (b0.ext c7) ((dQ d3 b5 b0).upd d5) zd zd zd zd ho d6 e6) ?_;rintro _ w2 ⟨O2,rb,rfl,h2,e2,e5⟩;have b':Jr (fun q=>q=1\/q=2\/q=3\/q=4\/q=1000) (fun _=>0) w O2 w2:=(d5.mono (fun _ h=>zo) hz).trans (e2.mono (fun _ h=>zo) hz);refine zh ?_;refine zvH (ez (q:=some ⟨rb,0,none⟩) LN rfl rfl) ?_;refine zFH rfl rfl ?_;refine iu G2 (enc:=Bm) true e5 3 zd rfl rfl rfl zd rfl ?_;intro c' w3 O3 b3 d4 e4;have h3:=h2.upd d4 zd zd zd zd;have a8:=b'.trans (d4.mono (fun _ h=>zo) hz);have f3:=hd.upd b6 a8;refine zh ?_
 refine zlp (fun z:Nat×(Nat->Nat)×World×ix=>[(1,dv),(5,nP rb),(6,c'),(14,dv),(15,nI a0.length),(16,nI z.1)]) (fun z=>z.2.2.1) (fun z=>z.1<=a0.length/\RunO z.2.1 z.2.2.1 1 2 rb t gv lc rc z.2.2.2 (aX t (iI t) (a0.take z.1))/\OkS t (aX t (iI t) (a0.take z.1))/\(aX t (iI t) (a0.take z.1)).closed=false/\(aX t (iI t) (a0.take z.1)).wait.length<=z.1/\LF Bm 4 1 z.2.1 z.2.2.1 3 c' [true]/\Jr (fun q=>q=1\/q=2\/q=3\/q=4\/q=1000) (fun _=>0) w z.2.1 z.2.2.1/\KW w.heap.size z.2.1 z.2.2.1) (fun z=>a0.length-z.1) (0,O3,w3,nS) (⟨J6 _,h3,zU ho,rfl,J6 _,b3,a8,e4⟩) ?_;rintro⟨k,O4,w4,c9⟩ ⟨hk,h4,a3,a9,d2,a1,a7,c6⟩;dsimp only at hk h4 a3 a9 d2 a1 a7 c6 ⊢;have d9:=hd.upd b6 a7;refine zh ?_
 refine zC ?_ ?_
 ·intro a5;replace a5:k<a0.length:=dT a5;have d1:w4.cell? (adr dv 1 k)=some (nI (nth a0 k)):=by have:=d9.cell (i:=k) (j:=0) a5 rfl;rwa[ax]at this
  refine zh ?_;refine zc call25 (nj w.heap.size O4 w4 1 2 rb t gv lc rc c9 _ h4 zd zd zd zd zd ho a3 zo c6 (nth a0 k)) ?_
  rintro _ w5 ⟨O5,c8,h5,a6,c5⟩;obtain⟨p1,p2⟩:=Af t (aX t (iI t) (a0.take k)) (bJ (nth a0 k));have a':=Ag (c:=bJ (nth a0 k)) ho a3 (ie _) zo;rw[<-lZ a5]at h5 p1 p2 a';refine zh ?_;refine zxd (k+1,O5,w5,c8) (⟨a5,h5,a',by dsimp only;rw[p2];exact a9,by dsimp only;omega,a1.upd a6 zd zd,a7.trans (a6.mono (fun _ h=>zo) hz),c5⟩)
 intro d8;obtain rfl:k=a0.length:=dF d8;rw[Jk]at h4 a3 a9 d2;have d':lS t a0=true::ib t (aX t (iI t) a0).wait (aX t (iI t) a0).row++if 0<a0.length then [true]else []:=rfl
 rw[d'];refine zh ?_;refine zc call59 (rC w.heap.size O4 w4 1 2 4 rb t gv lc rc c9 _ h4 zd zd zd zd zd zd zd zd zd ho a3 a9 c6 (iX hT hg (ar w) a7) hg) ?_;rintro cv w5 ⟨O5,c8,s5,h5,a',_,_,b8,a6,c5⟩;have d7:=qd t (aX t (iI t) a0).wait (aX t (iI t) a0).row;have b2:=a1.upd a6 zd zd;have b9:=a7.trans (a6.mono (fun _ h=>zo) hz);generalize ib t (aX t (iI t) a0).wait (aX t (iI t) a0).row=L at *;refine de G2 b2 c5 b8.sl rfl rfl (fun _ _=>rfl) (fun u _ c hc=>by rw[ka.1 hc];rfl) (by show(1+L.length)*1<=_;omega) (by show 1+L.length<=_;omega) zd rfl ?_;intro e8 w6 O6 a4 e1 e3;have a2:=b9.trans (e1.mono (fun _ h=>zo) hz);have e':=hd.upd b6 a2;refine zh ?_
 by_cases d0:0<a0.length
 ·rw[if_pos d0];have e9:([true]++L).length=1+L.length:=by rw[JL];rfl
  refine zTH rfl ((decide_eq_true zo)) ?_;refine KK G2 a4 e3 (true) (fun _=>rfl) rfl rfl rfl (by simp[Jn]) zo zo zo zd rfl rfl ?_
  intro e7 w7 O7 b1 e0 f4;refine zh ?_;refine ah rfl rfl (⟨b1.sl,(a2.trans (e0.mono (fun _ h=>zo) hz)).ext⟩)
 rw[if_neg d0];refine zFH rfl ((decide_eq_false zo)) ?_;refine ah rfl rfl (⟨by rw[JP];exact a4.sl,a2.ext⟩)
end Go.Proofs.YtjemhjcngaokpaaGreatDoor
end
namespace Go.Proofs.YtjemhjcngaokpaaGreatDoor
def jP(t:TabM):Nat->List En->Nat->Int->Int
 |0,_,_,out=>out
 |_+1,[],_,out=>out
 |n+1,x::r,row,_=>jP t n r (Gf t row x) (qC t (xX row (x::r)) x)
def iF(t:TabM)(a0:List Int)(i:Int):Int:=if i<=0\/(a0.length:Int)<=i then -1 else jP t i.toNat (aX t (iI t) a0).wait (aX t (iI t) a0).row (-1)
theorem yc(t:TabM)(s:RunS)(c:Nat):(oD t s c).begun=true/\(oD t s c).wait.length=if s.begun=true then s.wait.length+1 else s.wait.length:=by
 unfold oD
 split
 ·rename_i h;exact⟨h,by simp⟩
 exact⟨rfl,rfl⟩
theorem qn(w:ln)(t:TabM)(gv:ix)(lc rc:List ix)(c8:K0 w gv t.groups)(b1:PartV w lc t.left t.lt)(a':PartV w rc t.right t.rt)(ho:OkT t)(d6:bW t=true)(hT:cP w)(a0:List Int)(dv:ix)(hd:K0 w dv a0)(hn:a0.length<=100000)(i:Int):
  KM Ju 10 [.agg (bn t.ig t.kp t.br t.rules gv lc rc).toArray,dv,nI i] w fun v w'=>v=nI (iF t a0 i)/\Ki w w':=by
 have hz:¬(0=1\/0=2\/0=1000):=zo;obtain⟨ll,lo⟩:=b1.one;obtain⟨rl,ro⟩:=a'.one;have b0:(bn t.ig t.kp t.br t.rules gv lc rc).length=17:=by simp[ll,rl]
 have hg:=od hT;have c9:Mb (fun _=>0) w dv:=hd.free0 (fun x=>by simp);have c5:iF t a0 i=if i<=0\/(a0.length:Int)<=i then -1 else jP t i.toNat (aX t (iI t) a0).wait (aX t (iI t) a0).row (-1):=rfl
 rw[c5];clear c5;refine J1 func10 ntmps10 rfl rfl ?_;refine zh ?_;refine aE (ar w) 1000 zo rfl rfl ?_;intro db w1 O1 b6 c' e6 b8;refine zh ?_;refine zv (af (us:=bn t.ig t.kp t.br t.rules gv lc rc) b6.cellsAdd (KP _) (by rw[b0];exact JV _) rfl) ?_;refine zc call24 (nc w.heap.size O1 w1 1 2 t gv lc rc (c8.ext b8) (b1.ext b8) (a'.ext b8) ((dQ c8 b1 a').upd c') zd zd zd zd ho d6 e6) ?_;rintro _ w2 ⟨O2,rb,rfl,h2,e2,e5⟩;have a2:Jr (fun q=>q=1\/q=2\/q=1000) (fun _=>0) w O2 w2:=(c'.mono (fun _ h=>zo) hz).trans (e2.mono (fun _ h=>zo) hz);have e8:=hd.upd c9 a2;refine zh ?_;refine zvH (ez (q:=some ⟨rb,0,none⟩) LN rfl rfl) ?_;refine az (d:=15) rfl (b':=false) (rfl) ?_;refine zh ?_
 by_cases b4:i<=0
 ·rw[if_pos (.inl b4)];refine az (d:=19) rfl (b':=true) ((decide_eq_true b4)) ?_;refine zh ?_;refine zTH rfl rfl ?_;refine ah rfl rfl (⟨rfl,a2.ext⟩)
 refine az (d:=19) rfl (b':=false) ((decide_eq_false b4)) ?_;refine zh ?_
 by_cases b3:(a0.length:Int)<=i
 ·rw[if_pos (.inr b3)];refine zTH rfl ((decide_eq_true b3)) ?_;refine ah rfl rfl (⟨rfl,a2.ext⟩)
 rw[if_neg zo];refine aN rfl ((decide_eq_false b3)) ?_;obtain⟨n,d9⟩:∃n:Nat,i=(n:Int):=⟨i.toNat,zo⟩
 subst d9;rw[KB];refine zh ?_;refine zlp (fun z:Nat×(Nat->Nat)×World×ix=>[(1,dv),(2,nI (n:Nat)),(7,nP rb),(25,dv),(26,nI a0.length),(27,nI z.1)]) (fun z=>z.2.2.1) (fun z=>z.1<=a0.length/\RunO z.2.1 z.2.2.1 1 2 rb t gv lc rc z.2.2.2 (aX t (iI t) (a0.take z.1))/\OkS t (aX t (iI t) (a0.take z.1))/\(aX t (iI t) (a0.take z.1)).wait.length=z.1-1/\((aX t (iI t) (a0.take z.1)).begun=true↔0<z.1)/\Jr (fun q=>q=1\/q=2\/q=1000) (fun _=>0) w z.2.1 z.2.2.1/\KW w.heap.size z.2.1 z.2.2.1) (fun z=>a0.length-z.1) (0,O2,w2,nS) (⟨J6 _,h2,zU ho,rfl,by simp[aX,iI],a2,e5⟩) ?_;rintro⟨k,O4,w4,b9⟩ ⟨hk,h4,a4,b2,a6,a8,b7⟩;dsimp only at hk h4 a4 b2 a6 a8 b7 ⊢;have d':=hd.upd c9 a8;refine zh ?_;refine zC ?_ ?_
 ·intro a1;replace a1:k<a0.length:=dT a1;have d1:w4.cell? (adr dv 1 k)=some (nI (nth a0 k)):=by have:=d'.cell (i:=k) (j:=0) a1 rfl;rwa[ax]at this
  refine zh ?_;refine zc call25 (nj w.heap.size O4 w4 1 2 rb t gv lc rc b9 _ h4 zd zd zd zd zd ho a4 zo b7 (nth a0 k)) ?_
  rintro _ w5 ⟨O5,d5,h5,e1,e4⟩;obtain⟨p1,p2⟩:=yc t (aX t (iI t) (a0.take k)) (bJ (nth a0 k));have c7:=Ag (c:=bJ (nth a0 k)) ho a4 (ie _) zo;rw[<-lZ a1]at h5 p1 p2 c7;refine zh ?_;refine zxd (k+1,O5,w5,d5) (⟨a1,h5,c7,?_,⟨fun _=>Nat.succ_pos _,fun _=>p1⟩,a8.trans (e1.mono (fun _ h=>zo) hz),e4⟩)
  ·dsimp only;rw[p2]
   split
   ·rename_i hb;have:=a6.1 hb;omega
   rename_i hb;have:¬0<k:=fun h=>hb (a6.2 h);omega
 intro b5;obtain rfl:k=a0.length:=dF b5;rw[Jk]at h4 a4 b2 a6;generalize aX t (iI t) a0=s at *;obtain⟨R,d0⟩:∃R,R=jP t n s.wait s.row (-1):=⟨_,rfl⟩
 rw[<-d0];refine zh ?_;refine zlp (fun z:Nat×(Nat->Nat)×World×ix×RunS×Int=>[(7,nP rb),(10,nI z.2.2.2.2.2),(35,nI (n:Nat)),(36,nI z.1)]) (fun z=>z.2.2.1) (fun z=>z.1<=n/\RunO z.2.1 z.2.2.1 1 2 rb t gv lc rc z.2.2.2.1 z.2.2.2.2.1/\OkS t z.2.2.2.2.1/\z.2.2.2.2.1.wait.length+z.1=a0.length-1/\jP t (n-z.1) z.2.2.2.2.1.wait z.2.2.2.2.1.row z.2.2.2.2.2=R/\Jr (fun q=>q=1\/q=2\/q=1000) (fun _=>0) w z.2.1 z.2.2.1/\KW w.heap.size z.2.1 z.2.2.1) (fun z=>n-z.1) (0,O4,w4,b9,s,-1) (⟨J6 _,h4,a4,b2,d0.symm,a8,b7⟩) ?_;rintro⟨k,O6,w6,d4,s6,e7⟩ ⟨d8,h6,a9,d7,a5,a7,d2⟩;dsimp only at d8 h6 a9 d7 a5 a7 d2 ⊢;refine zh ?_;refine zC ?_ ?_
 ·intro a1;replace a1:k<n:=dT a1;obtain⟨x,r,a3⟩:=Li (KU.1 (show 0<s6.wait.length by omega));have c6:s6.wait.length=r.length+1:=by rw[a3];rfl
  rw[a3,show n-k=(n-(k+1))+1 from by omega,jP]at a5;refine zh ?_;refine zc call26 (ma w.heap.size O6 w6 1 2 rb t gv lc rc d4 s6 x r a3 h6 zd zd zd zd zd ho a9 d2 (iX hT hg (ar w) a7) hg) ?_;rintro _ w7 ⟨rfl,O7,d3,h7,e0,e3⟩;refine zh ?_;refine zxd (k+1,O7,w7,d3,Ai t s6 x r,qC t s6 x) (⟨a1,h7,vU ho a9 a3,by show r.length+(k+1)=_;omega,by rw[<-a5,Co,a3];rfl,a7.trans (e0.mono (fun _ h=>zo) hz),e3⟩)
 intro b5;obtain rfl:k=n:=dF b5;rw[Km,jP]at a5;subst a5;refine zh ?_;refine ah rfl rfl (⟨rfl,a7.ext⟩)
theorem rD(ts:List R3):∀i,jL ts i<2^i
 |0=>by unfold jL;decide
 |i+1=>by
  have h1:jL ts i<2^(i+1):=KX (rD ts i) (KR zd (Nat.le_succ i));unfold jL
  split
  ·exact JU h1 (JZ zd (Nat.lt_succ_self i))
  exact h1
theorem Cc{g:Gr}{n:Nat}(he:∀k,g.en k<=n)(s:List Int):dP g s<2^n:=by
 have a0:∀(s:List Int) (b:Nat),b<2^n->s.foldl (fun b p=>b ||| oG g p.toNat) b<2^n:=fun s=>by
  induction s with
  |nil=>exact fun b hb=>hb
  |cons p s ih=>exact fun b hb=>ih _ (JU hb (jR he _ 0 (Me n)))
 exact a0 s 0 (Me n)
theorem sm{se:Bool}{ts:List Nd}{d:List (List Nat)×List Nat}(h:stM se ts=some d):∀q∈d.2,q<2^ts.length:=fun q hq=>by
 unfold stM at h
 split at h
 ·obtain⟨S,hS⟩:=tK h;obtain⟨j,hj,rfl⟩:=cG hq;rw[hS.tel j (by rw[<-hS.tl];exact hj)];exact Cc (Aq ts) _
 cases h
theorem nt{rows:List (List Nat)}{a0:List Nat}(hr:JY rows a0)(cl:Nat->Nat){n:Nat}(h:∀q∈a0,q<2^n):∀q∈(cI cl rows a0).2,q<2^n:=fun q hq=>by
 obtain⟨F,hF⟩:=jG (cl:=cl) (tl:=nth a0) hr.nx (rows.length+1) 0 [0] [] [] (rQ hr.pos) zo;obtain⟨j,hj,rfl⟩:=cG hq;have a1:j<F.length:=by have:=hF.tln;change j<(ei _ _ _ _ _ _ _ _).2.length at hj;omega
 have ht:nth (cI cl rows a0).2 j=nth a0 (nth F j):=hF.tel j a1;rw[ht];have:=hF.reps.lt _ (aI a1);exact h _ (aI (by rw[hr.tl];exact this))
theorem DK{a b:Nat}(ha:a<65536)(hb:b<65536)(h1:K6 (a / 256)=K6 (b / 256))(h2:K6 (a % 256)=K6 (b % 256)):a=b:=by
 have e1:=congrArg Mo h1;have e2:=congrArg Mo h2;simp only[UInt8.toNat_ofNat']at e1 e2;omega
theorem vp{i j:Nat}:∀(rows:List (List Nat)),(∀r∈rows,nth r i<65536/\nth r j<65536)->qb rows i=qb rows j->∀r∈rows,nth r i=nth r j
 |[],_,_=>fun r hr=>by cases hr
 |a::l,h,he=>by
  have e:[K6 (nth a i / 256),K6 (nth a i % 256)]++qb l i=[K6 (nth a j / 256),K6 (nth a j % 256)]++qb l j:=he;simp only[M4,Ma,LA]at e;obtain⟨e1,e2,e3⟩:=e;have ha:=h a (by simp);intro r hr
  rcases J8.1 hr with rfl|hr
  ·exact DK ha.1 ha.2 e1 e2
  exact vp l (fun r hr=>h r (by simp[hr])) e3 r hr
theorem C0{A B:List (List Nat)}{i j:Nat}(hA:∀r∈A,nth r i<65536/\nth r j<65536)(hB:∀r∈B,nth r i<65536/\nth r j<65536)(h:nW [A,B] i=nW [A,B] j):(∀r∈A,nth r i=nth r j)/\∀r∈B,nth r i=nth r j:=by
 have h:qb A i++(qb B i++[])=qb A j++(qb B j++[]):=h;rw[JP,JP]at h;obtain⟨h1,h2⟩:=List.append_inj h (by rw[kO,kO]);exact⟨vp A hA h1,vp B hB h2⟩
structure PartI(g:List Nat)(many n:Nat)(rows:List (List Nat))(p:PSt):Prop where
 right:cW p=true
 us:p.usual.length=rows.length
 wd:p.width=(many:Int)
 get:∀r,r<rows.length->∀c,c<37->getM p r (nth g c)=((nxD rows r c:Nat):Int)
 lo:∀r,r<rows.length->∀k,k<many->0<=getM p r k/\getM p r k<rows.length
theorem vW{g:List Nat}{many:Nat}(hg:GrpI g many){rows:List (List Nat)}{a6:List Nat}(hr:JY rows a6)(hc:∀i j,i<37->j<37->nth g i=nth g j->∀r∈rows,nth r i=nth r j):PartI g many rows.length rows (dq g many rows):=by
 have a2:=pr hg hr;have a8:=hg.le;have a7:(kd g many rows).length=rows.length:=by simp[kd]
 have a5:∀r,r<rows.length->nth (kd g many rows) r=ints (oL g many (nth rows r)):=fun r a0=>by
  unfold kd;rw[eE (by simpa using a0),eE a0]
 have a3:∀r,r<rows.length->(nth (kd g many rows) r).length=many:=fun r a0=>by rw[a5 r a0];simp[mN]
 obtain⟨s1,_,_,_,s5,_⟩:=py (many:Int) (kd g many rows) (fun r a0=>by
  obtain⟨j,hj,rfl⟩:=cG a0
  rw[a3 j zo];omega)
 have a1:∀r,r<rows.length->∀k,k<many->getM (dq g many rows) r k=((nth (oL g many (nth rows r)) k:Nat):Int):=fun r a0 k hk=>by
  unfold dq;rw[A5 _ _ r k zo (by rw[a3 r a0];exact hk),a5 r a0,eE (by rw[mN];exact hk)]
 refine⟨uD _ _ a2,by show(lA _ _).usual.length=_;rw[s1];simpa using a7,s5,fun r a0 c a4=>?_,fun r a0 k hk=>?_⟩
 ·rw[a1 r a0 _ (hg.lt c a4),uP hg (fun i j hi hj e=>hc i j hi hj e _ (aI a0)) a4];rfl
 rw[a1 r a0 k hk];obtain⟨i,hi,rfl⟩:=hg.hit k hk;rw[uP hg (fun i j hi hj e=>hc i j hi hj e _ (aI a0)) hi];have:=(hr.row r a0).2 i hi;omega
theorem Fl{l:List Int}{n:Int}(h:∀x∈l,x<n)(h0:nth l 0<n):Fm l<n:=by
 have a0:∀(l:List Int) (m:Int),(∀x∈l,x<n)->m<n->l.foldl max m<n:=fun l=>by
  induction l with
  |nil=>exact fun m _ hm=>hm
  |cons a l ih=>exact fun m h hm=>ih _ (fun x hx=>h x (by simp[hx])) (by have:=h a (by simp);omega)
 exact a0 l _ h h0
theorem xq{g:List Nat}{many n a0:Nat}{rows:List (List Nat)}{a5:List Nat}{p:PSt}(hp:PartI g many n rows p)(hm:1<=many)(hr:JY rows a5)(ht:∀q∈a5,q<2^a0):kH p a5 many a0=true:=by
 obtain⟨f1,f2⟩:=pW p;have a9:=hr.pos;have a8:=hr.tl;have a7:=hp.us;unfold kH;rw[hp.right,hp.wd,f1,a7,a8];have a1:jc (fun i=>!(nth a5 i / 2^a0==0)) rows.length=false:=cF.2 fun i hi=>by
  rw[KE (ht _ (aI zo))];rfl
 have a2:jc (fun i=>decide (((rows.length:Nat):Int)<=Fm (nth (ga p) i))) rows.length=false:=cF.2 fun i hi=>by
  have a3:nth (ga p) i=B1 p i:=by unfold ga;rw[gg _ _ _ zo]
  have a6:p.width.toNat=many:=by rw[hp.wd];rfl
  have a4:∀k,k<many->nth (B1 p i) k<rows.length:=fun k hk=>by
   unfold B1;rw[a6,aB (xs:=List.map (getM p i) (Jw many)) (by simpa using hk),List.getElem_map,List.getElem_range];exact(hp.lo i hi k hk).2
  refine decide_eq_false (Int.not_le.2 (Fl (fun x hx=>?_) ?_))
  ·rw[a3]at hx;obtain⟨k,hk,rfl⟩:=cG hx;exact a4 k (by unfold B1 at hk;rw[a6]at hk;simpa using hk)
  rw[a3];exact a4 0 hm
 have h0:(rows.length==0)=false:=beq_eq_false_iff_ne.2 zo;rw[a1,a2,h0];simp
structure TabI(t:TabM)(A B:List (List Nat)×List Nat):Prop where
 right:bW t=true
 ok:OkT t
 left:∀r c,r<A.1.length->c<37->stL t r c=nxD A.1 r c
 rght:∀r c,r<B.1.length->c<37->stR t r c=nxD B.1 r c
 ll:t.left.usual.length=A.1.length
 rl:t.right.usual.length=B.1.length
theorem DO{li lk:List Int}{ts:List R3}{A B:List (List Nat)×List Nat}(a8:eh li lk ts=true)(hA:JY A.1 A.2)(hB:JY B.1 B.2)(tA:∀q∈A.2,q<2^ts.length)(tB:∀q∈B.2,q<2^ts.length):TabI (mU li lk ts A B) A B:=by
 obtain⟨r1,r2,r3,r4⟩:=lY a8;obtain⟨many,hg,a5⟩:=pS [A.1,B.1];have a2:=hg.pos;have b0:=hg.le;have a4:=hg.len;have a3:∀ {rows:List (List Nat)} {a7:List Nat},JY rows a7->∀i,i<37->∀r∈rows,nth r i<65536:=fun {rows a7} h i hi r hr=>by
  obtain⟨j,hj,rfl⟩:=cG hr;have h1:=(h.row j hj).2 i hi;have h2:=h.le;omega
 have hc:∀i j,i<37->j<37->nth (bE [A.1,B.1]) i=nth (bE [A.1,B.1]) j->(∀r∈A.1,nth r i=nth r j)/\∀r∈B.1,nth r i=nth r j:=fun i j hi hj e=>
  C0 (fun r hr=>⟨a3 hA i hi r hr,a3 hA j hj r hr⟩) (fun r hr=>⟨a3 hB i hi r hr,a3 hB j hj r hr⟩) ((a5 i j hi hj).1 e)
 have a1:=hg.cnt;have iL:=vW hg hA (fun i j hi hj e=>(hc i j hi hj e).1);have iR:=vW hg hB (fun i j hi hj e=>(hc i j hi hj e).2);have fL:=xq iL a2 hA tA;have fR:=xq iR a2 hB tB;have e1:(mU li lk ts A B).left=dq (bE [A.1,B.1]) many A.1:=by rw[si,a1]
 have e2:(mU li lk ts A B).right=dq (bE [A.1,B.1]) many B.1:=by rw[pf,a1]
 have e3:(mU li lk ts A B).groups=ints (bE [A.1,B.1]):=rfl;have gr:∀c,c<37->nth (mU li lk ts A B).groups c=((nth (bE [A.1,B.1]) c:Nat):Int):=fun c hc=>by rw[e3,eE zo]
 have gt:∀c,c<37->grT (mU li lk ts A B) c=nth (bE [A.1,B.1]) c:=fun c hc=>by unfold grT;rw[gr c hc];rfl
 have a6:∀q:Nat,q<2^ts.length->q<2^40:=fun q hq=>KX hq (KR zd r1)
 have a':=hA.tl;have a9:=hB.tl;have pA:=hA.pos;have pB:=hB.pos;refine⟨?_,⟨okP _ (by rw[e1];exact iL.right),okP _ (by rw[e2];exact iR.right),by rw[e3];simpa using a4,fun c a0=>?_,by rw[e1,iL.us];exact a',by rw[e2,iR.us];exact a9,by rw[e1,iL.us];exact pA,by rw[e2,iR.us];exact pB,fun r c hr a0=>?_,fun r c hr a0=>?_,mY r2,mY r3,a6 _ (rD ts _),fun q hq=>a6 q (tA q hq),fun q hq=>a6 q (tB q hq)⟩,fun r c hr a0=>?_,fun r c hr a0=>?_,by rw[e1,iL.us],by rw[e2,iR.us]⟩
 ·unfold bW;have q1:(mU li lk ts A B).ig / 2^36=0:=KE (mY r2);have q2:(mU li lk ts A B).kp / 2^36=0:=KE (mY r3);have q3:(mU li lk ts A B).rules.toNat=ts.length:=rfl;have q4:(mU li lk ts A B).br / 2^ts.length=0:=KE (rD ts _);have q5:gU (mU li lk ts A B).groups=many:=by rw[e3,a1]
  have q6:(mU li lk ts A B).rules=(ts.length:Int):=rfl;rw[q1,q2,q3,q4,q5,q6,e1,e2,zF,zE,fL,fR,decide_eq_false zo,decide_eq_false zo,beq_eq_false_iff_ne.2 zo];rfl
 ·rw[gr c a0];have:=hg.lt c a0;omega
 ·rw[e1]at hr ⊢;rw[iL.us]at hr ⊢;rw[gt c a0,iL.get r hr c a0];have:=(hA.row r hr).2 c a0;unfold nxD;omega
 ·rw[e2]at hr ⊢;rw[iR.us]at hr ⊢;rw[gt c a0,iR.get r hr c a0];have:=(hB.row r hr).2 c a0;unfold nxD;omega
 ·unfold stL;rw[e1,gt c a0,iL.get r hr c a0];rfl
 unfold stR;rw[e2,gt c a0,iR.get r hr c a0];rfl
structure Made(li lk:List Int)(ts:List R3)(a b:List (List Nat)×List Nat)(clA clB:Nat->Nat):Prop where
 rt:eh li lk ts=true
 sa:stM true (mD ts)=some a
 sb:stM false (gA ts)=some b
 ra:JY a.1 a.2
 rb:JY b.1 b.2
 ca:Cls clA a
 cb:Cls clB b
abbrev ff(li lk:List Int)(ts:List R3)(a b:List (List Nat)×List Nat)(a1 a0:Nat->Nat):TabM:=mU li lk ts (cI a1 a.1 a.2) (cI a0 b.1 b.2)
section
variable{li lk:List Int}{ts:List R3}{a b:List (List Nat)×List Nat}{clA clB:Nat→Nat}
theorem Made.inv(h:Made li lk ts a b clA clB):TabI (ff li lk ts a b clA clB) (cI clA a.1 a.2) (cI clB b.1 b.2):=
 DO h.rt (eH h.ra clA) (eH h.rb clB) (nt h.ra clA (by have:=sm h.sa;rwa[JO]at this)) (nt h.rb clB (by have:=sm h.sb;rwa[JO]at this))
end
def Fv(t:TabM):En->List Int->List En
 |_,[]=>[]
 |last,c::r=>(bJ c,t.ig.testBit (bJ c)&&(last.2 || !(t.kp.testBit last.1)))::Fv t (bJ c,t.ig.testBit (bJ c)&&(last.2 || !(t.kp.testBit last.1))) r
theorem kh(t:TabM):∀(a0:List Int) (s:RunS),s.begun=true->(aX t s a0).wait=s.wait++Fv t s.last a0/\(aX t s a0).row=s.row
 |[],s,_=>⟨by unfold Fv;rw[JP];rfl,rfl⟩
 |c::r,s,hb=>by
  have e:oD t s (bJ c) = {s with last:=(bJ c,B5 t s (bJ c)),wait:=s.wait++[(bJ c,B5 t s (bJ c))]}:=by unfold oD;rw[if_pos hb]
  obtain⟨h1,h2⟩:=kh t r (oD t s (bJ c)) (by rw[e];exact hb);have e2:aX t s (c::r)=aX t (oD t s (bJ c)) r:=rfl;rw[e2,h1,h2,e];refine⟨?_,rfl⟩;rw[Fv,Kv];rfl
theorem sH(t:TabM)(c:Int)(r:List Int):(aX t (iI t) (c::r)).wait=Fv t (bJ c,false) r/\(aX t (iI t) (c::r)).row=stL t (stL t 0 36) (bJ c):=by
 have e2:aX t (iI t) (c::r)=aX t (oD t (iI t) (bJ c)) r:=rfl;have e:oD t (iI t) (bJ c) = {iI t with begun:=true,last:=(bJ c,false),row:=stL t (stL t 0 36) (bJ c)}:=rfl;obtain⟨h1,h2⟩:=kh t r (oD t (iI t) (bJ c)) rfl;rw[e2,h1,h2,e];exact⟨rfl,rfl⟩
abbrev Sd:=Nat×Nat×Nat×Nat
abbrev Df:=Sd×Sd×Bool×Bool×Nat
abbrev Gp:=List Df×Int×Int
def lu(t:TabM)(s:Sd)(c:Nat):Sd:=(stL t s.1 c,0,0,0)
def ej(t:TabM)(s:Sd)(c:Nat):Sd:=(0,nth t.lt s.1,stR t 0 c,nth t.rt 0 ||| nth t.rt (stR t 0 c))
def et(t:TabM)(s:Sd)(c:Nat):Sd:=(s.1,s.2.1,stR t s.2.2.1 c,s.2.2.2 ||| nth t.rt (stR t s.2.2.1 c))
def Dy(t:TabM)(a0:Nat):Bool:=a0==0||t.br.testBit (L3 64 a0)
def dW(x y:TabM)(s:Df):Bool:=decide (0<s.2.2.2.2)&&(Dy x (s.1.2.1 &&& s.1.2.2.2) != Dy y (s.2.1.2.1 &&& s.2.1.2.2.2))
def rh(x y:TabM)(s:Df)(c:Nat):List Df:=
 if(s.2.2.1&&(!s.2.2.2.1&&x.ig.testBit c))=true then []
 else if 0<s.2.2.2.2/\s.2.2.2.2<4 then [(et x s.1 c,et y s.2.1 c,true,x.kp.testBit c,s.2.2.2.2+1)]
 else if 0<s.2.2.2.2 then []
 else(lu x s.1 c,lu y s.2.1 c,true,x.kp.testBit c,0)::(if s.2.2.1=true then [(ej x s.1 c,ej y s.2.1 c,true,x.kp.testBit c,1)]else [])
def cn:List Df->List Df->List Df
 |_,[]=>[]
 |kn,s::r=>if s∈kn then cn kn r else s::cn (kn++[s]) r
def aZ(l:List Gp):List Df:=l.flatMap (·.1)
def mC(l:List Gp)(fr id:Int)(ss:List Df):List Gp:=if cn (aZ l) ss=[]then l else l++[(cn (aZ l) ss,fr,id)]
def ee(x y:TabM)(g:List Df)(i:Nat):Nat->List Gp->List Gp
 |0,l=>l
 |n+1,l=>mC (ee x y g i n l) i n (g.flatMap fun s=>rh x y s n)
def cJ(x y:TabM):Nat->List Gp->Nat->List Gp×Nat
 |0,l,i=>(l,i)
 |n+1,l,i=>if i<l.length then(if(nth l i).1.any (dW x y)=true then(l,i)else cJ x y n (ee x y (nth l i).1 i 36 l) (i+1))else(l,i)
abbrev oO(x y:TabM):Df:=((stL x 0 36,0,0,0),(stL y 0 36,0,0,0),false,false,0)
def Bz(x y:TabM):List Gp:=[([oO x y],-1,0)]
def bz(x y:TabM):List Gp×Nat:=cJ x y 100000000000000 (Bz x y) 0
def gD(x y:TabM):Bool:=decide ((bz x y).2<(bz x y).1.length)
def Ds(l:List Gp):Nat->Int->List Int
 |0,_=>[]
 |n+1,i=>if(nth l i.toNat).2.1<0 then []else(nth l i.toNat).2.2::Ds l n (nth l i.toNat).2.1
def ofC(x y:TabM)(a b:Nat):List Nat->Sd×Sd
 |[]=>((a,0,0,0),(b,0,0,0))
 |c::r=>r.foldl (fun s c=>(et x s.1 c,et y s.2 c)) (ej x (a,0,0,0) c,ej y (b,0,0,0) c)
def words:Nat->List (List Nat)
 |0=>[[]]
 |n+1=>[]::(words n).flatMap fun w=>(Jw 36).map fun c=>c::w
theorem rY:∀(n:Nat) (w:List Nat),w.length<=n->(∀c∈w,c<36)->w∈words n
 |0,w,h,_=>by rw[Lq.1 (by omega:w.length=0)];simp[words]
 |n+1,[],_,_=>by simp[words]
 |n+1,c::r,h,hc=>by
  unfold words;refine JX _ (JI.2 ⟨r,rY n r (by simpa using h) fun d hd=>hc d (by simp[hd]),Jm.2 ⟨c,Js.2 (hc c (by simp)),rfl⟩⟩)
theorem dL{α β:Type}(f:α->List β)(k:Nat):∀(l:List α),(∀x∈l,(f x).length<=k)->(l.flatMap f).length<=l.length*k
 |[],_=>by simp
 |a::r,h=>by
  have h1:=h a (by simp);have h2:=dL f k r fun x hx=>h x (by simp[hx])
  rw[K9,JL,Jq,Nat.succ_mul];omega
theorem vP:∀n,(words n).length<=37^n
 |0=>by simp[words]
 |n+1=>by
  have h1:=vP n;have h2:=dL (fun w=>(Jw 36).map fun c=>c::w) 36 (words n) fun w _=>by simp
  have h3:0<37^n:=Nat.pow_pos zd;unfold words;rw[Jq,Nat.pow_succ];omega
structure PrOk(x y:TabM)(Pr:List (Nat×Nat)):Prop where
 beg:(stL x 0 36,stL y 0 36)∈Pr
 step:∀a b c,(a,b)∈Pr->c<36->(stL x a c,stL y b c)∈Pr
 row:∀a b,(a,b)∈Pr->a<x.left.usual.length/\b<y.left.usual.length
 few:Pr.length<=1000
def GL(x y:TabM)(p:Nat×Nat)(cs:List Nat):List Df:=
 [((ofC x y p.1 p.2 cs).1,(ofC x y p.1 p.2 cs).2,false,false,cs.length),((ofC x y p.1 p.2 cs).1,(ofC x y p.1 p.2 cs).2,false,true,cs.length),((ofC x y p.1 p.2 cs).1,(ofC x y p.1 p.2 cs).2,true,false,cs.length),((ofC x y p.1 p.2 cs).1,(ofC x y p.1 p.2 cs).2,true,true,cs.length)]
def IG(x y:TabM)(Pr:List (Nat×Nat)):List Df:=Pr.flatMap fun p=>(words 4).flatMap (GL x y p)
theorem FG(x y:TabM)(Pr:List (Nat×Nat))(h:Pr.length<=1000):(IG x y Pr).length<=7496644000:=by
 have h4:(words 4).length<=1874161:=vP 4;have h1:=fun p=>dL (GL x y p) 4 (words 4) fun w _=>by simp[GL]
 have h2:=dL (fun p=>(words 4).flatMap (GL x y p)) (1874161*4) Pr fun p _=>KJ (h1 p) zo
 unfold IG;omega
def Okd(x y:TabM)(Pr:List (Nat×Nat))(s:Df):Prop:=∃a b cs bg kp,(a,b)∈Pr/\cs.length<=4/\(∀c∈cs,c<36)/\s=((ofC x y a b cs).1,(ofC x y a b cs).2,bg,kp,cs.length)
theorem Okd.mem{x y:TabM}{Pr:List (Nat×Nat)}{s:Df}(h:Okd x y Pr s):s∈IG x y Pr:=by
 obtain⟨a,b,cs,bg,kp,ha,hl,hc,rfl⟩:=h;refine JI.2 ⟨(a,b),ha,JI.2 ⟨cs,rY 4 cs hl hc,?_⟩⟩
 cases bg<;>cases kp<;>simp[GL]
theorem Ct(x y:TabM)(a b c:Nat):∀cs:List Nat,cs≠[]->ofC x y a b (cs++[c])=(et x (ofC x y a b cs).1 c,et y (ofC x y a b cs).2 c)
 |[],h=>absurd rfl h
 |d::r,_=>by simp[ofC,Jl]
theorem Okd.fol{x y:TabM}{Pr:List (Nat×Nat)}(hP:PrOk x y Pr){s:Df}(h:Okd x y Pr s){c:Nat}(hc:c<36):∀s'∈rh x y s c,Okd x y Pr s':=by
 obtain⟨a,b,cs,bg,kp,a0,hl,a2,rfl⟩:=h;intro s' hs;unfold rh at hs;dsimp only at hs
 split at hs
 ·cases hs
 split at hs
 ·rename_i h1;obtain rfl:=ka.1 hs;have a1:cs≠[]:=fun e=>by rw[e]at h1;exact absurd h1.1 zd
  refine⟨a,b,cs++[c],true,x.kp.testBit c,a0,by simp;omega,fun d hd=>?_,by rw[Ct x y a b c cs a1];simp⟩
  rcases J9.1 hd with h|h
  ·exact a2 d h
  simp at h;omega
 split at hs
 ·cases hs
 rename_i h2;obtain rfl:cs=[]:=Lq.1 zo
 rcases J8.1 hs with rfl|hs
 ·exact⟨stL x a c,stL y b c,[],true,x.kp.testBit c,hP.step a b c a0 hc,by simp,by simp,rfl⟩
 split at hs
 ·obtain rfl:=ka.1 hs;exact⟨a,b,[c],true,x.kp.testBit c,a0,by simp,by simpa using hc,rfl⟩
 cases hs
theorem Ao{α:Type}[DecidableEq α]{l L:List α}(hn:l.Nodup)(h:∀x∈l,x∈L):l.length<=L.length:=by
 have h1:(l.map fun x=>L.idxOf x).Nodup:=by
  rw[Le,LV];refine Mu ?_ hn;intro a b ha hb a0 e;have ea:=LJ (Kz.2 (h a ha));have eb:=LJ (Kz.2 (h b hb));apply a0;rw[<-ea,<-eb];congr 1
 have:=eW h1 (n:=L.length) fun k hk=>by
  obtain⟨a,ha,rfl⟩:=Jm.1 hk;exact Kz.2 (h a ha)
 simpa using this
theorem ns:∀(ss kn:List Df),∀s∈cn kn ss,s∈ss
 |[],_,s,h=>by cases h
 |a::r,kn,s,h=>by
  unfold cn at h
  split at h
  ·exact JX _ (ns r kn s h)
  rcases J8.1 h with rfl|h
  ·simp
  exact JX _ (ns r _ s h)
theorem kq:∀(ss kn:List Df),∀s∈ss,s∈kn\/s∈cn kn ss
 |[],_,s,h=>by cases h
 |a::r,kn,s,h=>by
  unfold cn
  split
  ·rename_i ha
   rcases J8.1 h with rfl|h
   ·exact .inl ha
   exact kq r kn s h
  rcases J8.1 h with rfl|h
  ·exact .inr (by simp)
  rcases kq r (kn++[a]) s h with h|h
  ·rcases J9.1 h with h|h
   ·exact .inl h
   exact .inr (by simp at h;simp[h])
  exact .inr (JX _ h)
theorem jD:∀(ss kn:List Df),kn.Nodup->(kn++cn kn ss).Nodup
 |[],kn,h=>by simpa[cn]using h
 |a::r,kn,h=>by
  unfold cn
  split
  ·exact jD r kn h
  rename_i ha;have:=jD r (kn++[a]) (by rw[LW];exact⟨h,by simp,fun u hu v hv e=>by simp at hv;subst hv;subst e;exact ha hu⟩)
  rwa[Kv]at this
theorem nN(l m:List Gp):aZ (l++m)=aZ l++aZ m:=LG
structure InvG(x y:TabM)(Pr:List (Nat×Nat))(l:List Gp):Prop where
 nd:(aZ l).Nodup
 ok:∀s∈aZ l,Okd x y Pr s
 par:∀j,j<l.length->-1<=(nth l j).2.1/\(nth l j).2.1<j
 id:∀g∈l,0<=g.2.2/\g.2.2<36
 ne:∀g∈l,g.1≠[]
theorem tw:∀l:List Gp,(∀g∈l,g.1≠[])->l.length<=(aZ l).length
 |[],_=>by simp[aZ]
 |g::r,h=>by
  have h1:=KU.2 (h g (by simp));have h2:=tw r fun g hg=>h g (by simp[hg])
  unfold aZ at *;rw[K9,JL,Jq];omega
theorem InvG.few{x y:TabM}{Pr:List (Nat×Nat)}{l:List Gp}(h:InvG x y Pr l)(hP:PrOk x y Pr):l.length<=7496644000/\(aZ l).length<=7496644000:=by
 have h1:=Ao h.nd fun s hs=>(h.ok s hs).mem
 have h2:=FG x y Pr hP.few;have h3:=tw l h.ne;omega
theorem InvG.meet{x y:TabM}{Pr:List (Nat×Nat)}{l:List Gp}(h:InvG x y Pr l){fr id:Int}{ss:List Df}(hf : -1<=fr/\fr<l.length)(hi:0<=id/\id<36)(hs:∀s∈ss,Okd x y Pr s):InvG x y Pr (mC l fr id ss):=by
 unfold mC
 split
 ·exact h
 rename_i hne;have a1:aZ (l++[(cn (aZ l) ss,fr,id)])=aZ l++cn (aZ l) ss:=by rw[nN];simp[aZ]
 refine⟨by rw[a1];exact jD ss _ h.nd,fun s hm=>?_,fun j hj=>?_,fun g hg=>?_,fun g hg=>?_⟩
 ·rw[a1]at hm
  rcases J9.1 hm with hm|hm
  ·exact h.ok s hm
  exact hs s (ns ss _ s hm)
 ·rw[JL,J4]at hj
  by_cases a0:j<l.length
  ·rw[aA,if_pos a0];exact h.par j a0
  obtain rfl:j=l.length:=zo;rw[aA,if_neg zo,Km,ay];exact hf
 ·rcases J9.1 hg with hg|hg
  ·exact h.id g hg
  obtain rfl:=ka.1 hg;exact hi
 rcases J9.1 hg with hg|hg
 ·exact h.ne g hg
 obtain rfl:=ka.1 hg;exact hne
theorem Ax(l:List Gp)(fr id:Int)(ss:List Df):l.length<=(mC l fr id ss).length/\(∀j,j<l.length->nth (mC l fr id ss) j=nth l j)/\(∀s∈aZ l,s∈aZ (mC l fr id ss))/\∀s∈ss,s∈aZ (mC l fr id ss):=by
 unfold mC
 split
 ·rename_i he;refine⟨JG _,fun _ _=>rfl,fun _ h=>h,fun s hs=>?_⟩
  rcases kq ss (aZ l) s hs with h|h
  ·exact h
  rw[he]at h;cases h
 have a0:aZ (l++[(cn (aZ l) ss,fr,id)])=aZ l++cn (aZ l) ss:=by rw[nN];simp[aZ]
 refine⟨by simp,fun j hj=>by rw[aA,if_pos hj],fun s h=>by rw[a0];exact List.mem_append_left _ h,fun s hs=>?_⟩;rw[a0];exact J9.2 (kq ss (aZ l) s hs)
theorem fz(x y:TabM)(g:List Df)(i:Nat)(l:List Gp):∀n,l.length<=(ee x y g i n l).length/\(∀j,j<l.length->nth (ee x y g i n l) j=nth l j)/\(∀s∈aZ l,s∈aZ (ee x y g i n l))/\∀c,c<n->∀s∈g,∀s'∈rh x y s c,s'∈aZ (ee x y g i n l)
 |0=>⟨JG _,fun _ _=>rfl,fun _ h=>h,fun c hc=>zo⟩
 |n+1=>by
  obtain⟨a1,a2,a3,a4⟩:=fz x y g i l n;obtain⟨b1,b2,b3,b4⟩:=Ax (ee x y g i n l) i n (g.flatMap fun s=>rh x y s n);unfold ee;refine⟨KJ a1 b1,fun j hj=>by rw[b2 j zo,a2 j hj],fun s h=>b3 s (a3 s h),fun c hc s hs s' a0=>?_⟩
  by_cases a5:c=n
  ·subst a5;exact b4 s' (JI.2 ⟨s,hs,a0⟩)
  exact b3 s' (a4 c zo s hs s' a0)
theorem qK{l:List Gp}{i:Nat}(hi:i<l.length){s:Df}(hs:s∈(nth l i).1):s∈aZ l:=JI.2 ⟨nth l i,aI hi,hs⟩
theorem InvG.round{x y:TabM}{Pr:List (Nat×Nat)}(hP:PrOk x y Pr){l:List Gp}(h:InvG x y Pr l){i:Nat}(hi:i<l.length):∀n,n<=36->InvG x y Pr (ee x y (nth l i).1 i n l)
 |0,_=>h
 |n+1,hn=>by
  have ih:=InvG.round hP h hi n zo;have hp:=(fz x y (nth l i).1 i l n).1;unfold ee;refine ih.meet ⟨zo,zo⟩ ⟨zo,zo⟩ fun s' a0=>?_
  obtain⟨s,hs,a0⟩:=JI.1 a0;exact(h.ok s (qK hi hs)).fol hP zo s' a0
theorem InvG.beg{x y:TabM}{Pr:List (Nat×Nat)}(hP:PrOk x y Pr):InvG x y Pr (Bz x y):=by
 refine⟨by simp[Bz,aZ],fun s hs=>?_,fun j hj=>?_,fun g hg=>?_,fun g hg=>?_⟩
 ·have:s=oO x y:=by simpa[Bz,aZ]using hs
  subst this;exact⟨stL x 0 36,stL y 0 36,[],false,false,hP.beg,by simp,by simp,rfl⟩
 ·obtain rfl:j=0:=by simp[Bz]at hj;omega
  unfold Bz;rw[ay];dsimp only;omega
 ·obtain rfl:=ka.1 hg;show(0:Int)<=0/\(0:Int)<36;omega
 obtain rfl:=ka.1 hg;simp
def DoneG(x y:TabM)(l:List Gp)(i:Nat):Prop:=∀j,j<i->∀s∈(nth l j).1,dW x y s=false/\∀c,c<36->∀s'∈rh x y s c,s'∈aZ l
theorem DoneG.round{x y:TabM}{l:List Gp}{i:Nat}(h:DoneG x y l i)(hi:i<l.length)(hp:(nth l i).1.any (dW x y)≠true):DoneG x y (ee x y (nth l i).1 i 36 l) (i+1):=by
 obtain⟨a1,a2,a3,a4⟩:=fz x y (nth l i).1 i l 36;intro j hj s hs;rw[a2 j zo]at hs
 by_cases a5:j=i
 ·subst a5;refine⟨LY.2 fun e=>hp (M5.2 ⟨s,hs,e⟩),fun c hc s' a0=>a4 c hc s hs s' a0⟩
 exact⟨(h j zo s hs).1,fun c hc s' a0=>a3 s' ((h j zo s hs).2 c hc s' a0)⟩
theorem lX{x y:TabM}{Pr:List (Nat×Nat)}(hP:PrOk x y Pr):∀(n:Nat) (l:List Gp) (i:Nat),InvG x y Pr l->i<=l.length->n+i=100000000000000->DoneG x y l i->oO x y∈aZ l->
  InvG x y Pr (cJ x y n l i).1/\(cJ x y n l i).2<=(cJ x y n l i).1.length/\DoneG x y (cJ x y n l i).1 (cJ x y n l i).2/\oO x y∈aZ (cJ x y n l i).1
 |0,l,i,h,hi,hn,_,_=>by have:=(h.few hP).1;omega
 |n+1,l,i,h,hi,hn,hd,h0=>by
  unfold cJ
  split
  ·rename_i hil
   split
   ·exact⟨h,hi,hd,h0⟩
   rename_i hp;obtain⟨a1,a2,a3,a4⟩:=fz x y (nth l i).1 i l 36;exact lX hP n _ (i+1) (h.round hP hil 36 (JG _)) zo zo (hd.round hil hp) (a3 _ h0)
  exact⟨h,hi,hd,h0⟩
theorem so{x y:TabM}{Pr:List (Nat×Nat)}(hP:PrOk x y Pr):InvG x y Pr (bz x y).1/\(bz x y).2<=(bz x y).1.length/\DoneG x y (bz x y).1 (bz x y).2/\oO x y∈aZ (bz x y).1:=
 lX hP _ _ 0 (InvG.beg hP) (J6 _) rfl (fun j hj=>zo) (by simp[Bz,aZ])
structure Shut(x y:TabM)(K:List Df):Prop where
 beg:oO x y∈K
 par:∀s∈K,dW x y s=false
 fol:∀s∈K,∀c,c<36->∀s'∈rh x y s c,s'∈K
theorem DT{x y:TabM}{Pr:List (Nat×Nat)}(hP:PrOk x y Pr)(h:gD x y≠true):Shut x y (aZ (bz x y).1):=by
 obtain⟨h1,h2,h3,h4⟩:=so hP;have he:(bz x y).2=(bz x y).1.length:=by
  have h':¬(bz x y).2<(bz x y).1.length:=fun a1=>h (decide_eq_true a1)
  omega
 have all:∀s∈aZ (bz x y).1,dW x y s=false/\∀c,c<36->∀s'∈rh x y s c,s'∈aZ (bz x y).1:=by
  intro s hs;obtain⟨g,hg,a0⟩:=JI.1 hs;obtain⟨j,hj,rfl⟩:=List.mem_iff_getElem.1 hg;exact h3 j zo s (by rw[show nth (bz x y).1 j=(bz x y).1[j]from aB hj];exact a0)
 exact⟨h4,fun s hs=>(all s hs).1,fun s hs=>(all s hs).2⟩
def GX(t:TabM):Bool->List En->Prop
 |_,[]=>True
 |k,(c,h)::r=>c<36/\h=(t.ig.testBit c && !k)/\GX t (if h=true then k else t.kp.testBit c) r
theorem tm(t:TabM):∀(l:List Int) (e:En) (k:Bool),(e.2 || !t.kp.testBit e.1) = !k->GX t k (Fv t e l)
 |[],_,_,_=>trivial
 |c::r,e,k,h=>by
  rw[Fv,h];refine⟨ie c,rfl,tm t r _ _ ?_⟩
  cases k<;>cases t.ig.testBit (bJ c)<;>simp
section
variable{x y:TabM}{K:List Df}
theorem Shut.right(hK:Shut x y K)(hy:y = {x with br:=y.br})(L:Nat):∀(r:List En) (rw_ seen told:Nat) (k:Bool),GX x k r->0<seen->seen<=4->((0,L,rw_,told),(0,L,rw_,told),true,k,seen)∈K->
  Dy x (L &&& rwL x r rw_ seen told)=Dy y (L &&& rwL x r rw_ seen told)
 |[],rw_,seen,told,k,_,h0,_,hm=>by
  have:=hK.par _ hm;unfold dW at this;simp only[decide_eq_true h0,Kg,bne_eq_false_iff_eq]at this;exact this
 |(c,h)::r,rw_,seen,told,k,hE,h0,h4,hm=>by
  obtain⟨hc,hh,hE⟩:=hE;unfold rwL
  split
  ·rename_i ht;rw[if_pos ht]at hE;exact Shut.right hK hy L r rw_ seen told k hE h0 h4 hm
  rename_i ht;rw[if_neg ht]at hE
  split
  ·have:=hK.par _ hm;unfold dW at this;simp only[decide_eq_true h0,Kg,bne_eq_false_iff_eq]at this;exact this
  rename_i hs4;refine Shut.right hK hy L r _ (seen+1) _ _ hE zo zo (hK.fol _ hm c hc _ ?_);unfold rh;rw[if_neg (by dsimp only;intro e;apply ht;rw[hh];simpa[Lp]using e),if_pos ⟨h0,by show seen<4;omega⟩];rw[hy];exact ka.2 rfl
theorem Shut.pass(hK:Shut x y K)(hy:y = {x with br:=y.br}){row c:Nat}{k bg:Bool}(hc:c<36)(hh:(bg&&(!k&&x.ig.testBit c))=false)(hm:((row,0,0,0),(row,0,0,0),bg,k,0)∈K):
  ((stL x row c,0,0,0),(stL x row c,0,0,0),true,x.kp.testBit c,0)∈K/\(bg=true->((0,nth x.lt row,stR x 0 c,nth x.rt 0 ||| nth x.rt (stR x 0 c)),(0,nth x.lt row,stR x 0 c,nth x.rt 0 ||| nth x.rt (stR x 0 c)),true,x.kp.testBit c,1)∈K):=by
 have hf:=hK.fol _ hm c hc;unfold rh at hf;rw[if_neg (by dsimp only;rw[hh];decide),if_neg (by dsimp only;omega),if_neg (by dsimp only;omega)]at hf;rw[hy]at hf;refine⟨hf _ (List.mem_cons_self ..),fun hb=>?_⟩;subst hb;exact hf _ (JX _ (by rw[if_pos rfl];exact ka.2 rfl))
theorem Shut.at_(hK:Shut x y K)(hy:y = {x with br:=y.br}){row:Nat}{z:En}{r:List En}{k:Bool}(hE:GX x k (z::r))(hm:((row,0,0,0),(row,0,0,0),true,k,0)∈K){n:Nat}(hn:qC x (xX row (z::r)) z=(n:Int)):x.br.testBit n=y.br.testBit n:=by
 obtain⟨c,h⟩:=z;obtain⟨hc,hh,hE⟩:=hE;unfold qC at hn;dsimp only at hn
 split at hn
 ·omega
 rename_i ht;rw[if_neg ht]at hE;obtain⟨_,hg⟩:=hK.pass hy hc (by rw[Kg,Lp,<-hh];simpa using ht) hm;have hR:ef x ((c,h)::r)=rwL x r (stR x 0 c) 1 (nth x.rt 0 ||| nth x.rt (stR x 0 c)):=by
  unfold ef;rw[rwL,if_neg ht,if_neg zd]
 have hb:=hK.right hy (nth x.lt row) r (stR x 0 c) 1 _ _ hE zd zd (hg rfl);have hW:eQ x (xX row ((c,h)::r))=if nth x.lt row &&& ef x ((c,h)::r)=0 then -1 else((L3 64 (nth x.lt row &&& ef x ((c,h)::r)):Nat):Int):=rfl
 rw[hW,hR]at hn
 split at hn
 ·omega
 rename_i h0;have hk:=Int.ofNat_inj.1 hn;unfold Dy at hb;rw[hk,beq_eq_false_iff_ne.2 h0,Lo,Lo]at hb;exact hb
theorem Shut.list(hK:Shut x y K)(hy:y = {x with br:=y.br}){n:Nat}(hne:x.br.testBit n≠y.br.testBit n):∀(m:Nat) (E:List En) (row:Nat) (out:Int) (k:Bool),GX x k E->((row,0,0,0),(row,0,0,0),true,k,0)∈K->jP x m E row out=(n:Int)->out=(n:Int)
 |0,_,_,_,_,_,_,h=>h
 |_+1,[],_,_,_,_,_,h=>h
 |m+1,z::r,row,out,k,hE,hm,h=>by
  rw[jP]at h;obtain⟨c,hd⟩:=z;have a1:=hE;obtain⟨hc,hh,a0⟩:=hE;exfalso;refine hne (hK.at_ hy a1 hm (Shut.list hK hy hne m r _ _ (if hd=true then k else x.kp.testBit c) a0 ?_ h));show((if hd=true then row else stL x row c,0,0,0),(if hd=true then row else stL x row c,0,0,0),true,_,0)∈K
  split
  ·exact hm
  rename_i ht;exact(hK.pass hy hc (by rw[Kg,Lp,<-hh];simpa using ht) hm).1
end
theorem sI{x:TabM}(hx:OkT x)(b:Nat)(kx:x.left.usual.length<=1000):PrOk x {x with br:=b} ((Jw x.left.usual.length).map fun a=>(a,a)):=by
 refine⟨Jm.2 ⟨stL x 0 36,Js.2 (hx.lN hx.lp zo).2,rfl⟩,fun a b' c h hc=>?_,fun a b' h=>?_,by simpa using kx⟩
 ·obtain⟨k,hk,e⟩:=Jm.1 h;obtain⟨rfl,rfl⟩:=Md e;exact Jm.2 ⟨stL x k c,Js.2 (hx.lN (Js.1 hk) zo).2,rfl⟩
 obtain⟨k,hk,e⟩:=Jm.1 h;obtain⟨rfl,rfl⟩:=Md e;exact⟨Js.1 hk,Js.1 hk⟩
theorem vg{x:TabM}{b n:Nat}(hx:OkT x)(kx:x.left.usual.length<=1000)(a1:x.br.testBit n≠b.testBit n)(a0:List Int)(i:Int)(h:iF x a0 i=(n:Int)):gD x {x with br:=b}=true:=by
 apply L5;intro hf;have hK:=DT (sI hx b kx) hf;generalize aZ (bz x {x with br:=b}).1=K at hK;unfold iF at h
 split at h
 ·omega
 rename_i hi
 cases a0 with
 |nil=>simp at hi;omega
 |cons c r=>
  obtain⟨p1,p2⟩:=sH x c r;rw[p1,p2]at h;have h1:=(hK.pass (y:={x with br:=b}) rfl (ie c) rfl hK.beg).1;have:=hK.list (y:={x with br:=b}) rfl a1 _ _ _ _ _ (tm x r _ (x.kp.testBit (bJ c)) (by simp)) h1 h;omega
end Go.Proofs.YtjemhjcngaokpaaGreatDoor
namespace Go.VL
theorem KeyL.wide{κ:Type}[DecidableEq κ]{P:Lr}{K:Ke}(kv:κ->ix)(a3:∀b n k w,(Instr.checkKey b (n+3) K (kv k)).run P w=.ok () w){m:Nat}(hm:m<=10000)(hk:P.keyTypeAt m K=true)(ht:P.tiled m K=true){fs:Array Field}(hu:P.underlying K=some (.struct fs)) 
  (a0:∀k,∃l,keyOf P K (kv k)=some l) (a1:∀a b,kv a=kv b->a=b) (hs:∀k,Instr.sameBits 10000 (kv k) (kv k)=true):KeyL P K kv:=by
 have hw:(match P.underlying K with|some (.array _ _)|some (.struct _)=>true|_=>false)=true:=by rw[hu]
 have a2:∀a b w,(Op.equal K (kv a) (kv b)).run P w=.ok (decide (a=b)) w:=by
  intro a b w;obtain⟨la,ha⟩:=a0 a;obtain⟨lb,hb⟩:=a0 b;obtain⟨r,h1,h2⟩:=run_equal_deep w hm hk hw ha hb;rw[h1];congr 1
  by_cases e:a=b
  ·subst e;rw[decide_eq_true rfl];exact h2.2 (Jy (ha.symm.trans hb))
  rw[decide_eq_false e];apply LY.2;intro hr;have el:=h2.1 hr;subst el;exact e (a1 a b (keyOf_inj_deep ht hw ha hb))
 refine⟨a3,fun k es ks w h=>?_,hs⟩;have key:∀(es:List MapEntry) (ks:List κ) (j:Nat) (w:ln),es.map (·.key)=ks.map kv->
   (L4 K (kv k) es j).run P w=.ok ((ks.findIdx? (· = k)).bind fun i=>(es[i]?).map fun e=>(j+i,e.val)) w:=by
  intro es
  induction es with
  |nil=>intro ks j w h;cases ks with
   |nil=>simp[L4]
   |cons a r=>simp at h
  |cons e es ih=>
   intro ks j w h
   cases ks with
   |nil=>simp at h
   |cons a r=>
    simp only[Kf,LA]at h;simp only[L4,h.1,L1,a2,Ko]
    by_cases hk:k=a
    ·subst hk;simp[LK]
    rw[decide_eq_false hk];simp only[Bool.false_eq_true,if_false];rw[ih r (j+1) w h.2];simp only[LK,decide_eq_true_eq];rw[if_neg (fun e=>hk e.symm)]
    cases hf:List.findIdx? (fun x=>decide (x=k)) r with
    |none=>simp
    |some i=>simp[KV,Mt 1]
 have k0:=key es ks 0 w h;simp only[Lx]at k0
 cases es with
 |nil=>
  cases ks with
  |nil=>simp[Mh,run_underlying hu,Mg]
  |cons a r=>simp at h
 |cons e es=>
  simp only[Mh,L1,run_underlying hu,Ko,Mg,Instr.sameNow];exact k0
end Go.VL
