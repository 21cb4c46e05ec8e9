/- Texts that the proof of this statement needs, merged and shortened. -/
import Derived.Test.YtcfhbfflgnbacaaGreatDoorQTableMakes4
set_option linter.defProp false
open Go renaming Value->ix,World->Lj,TypeId->Pq,FuncId->PX
open List renaming replicate->ka,all_cons->Li,take_length->Ll,foldl_cons->Lr,mem_singleton->Lu,foldl_append->Ly,all_nil->Lz,range->LD,mem_range->LL,length_append->M0,all_eq_true->M4,take_zero->M7,take_of_length_le->Mp,any_eq_false->Mt,mem_map->Mw,mem_append->My,map_append->Mz,contains_iff_mem->MB,append_assoc->ME,length_take->MH,foldl_nil->MO,length_singleton->MT,length_cons->MU,mem_filter->N2,length_set->N4,append_nil->N5,mem_or_eq_of_mem_set->Nf,size_toArray->Ng,eq_of_mem_replicate->Nj,any_eq_true->Nk,range_succ->Nn,nil_append->No,length_map->Np,mem_of_mem_take->Nv,flatMap_cons->ND,replicate_append_replicate->NI,nodup_cons->NO,mem_cons->NW,map_cons->NX,find?_range_eq_some->NY,map_nil->P1,length_filter_le->P8,replicate_succ'->Pb,count_le_length->Pc,set_cons_succ->Pi,filter_append->Pj,countP_append->Pk,length_range->Ps,count_append->Pu,take_append->Pv,nodup_range->Pw,filter_cons->Px,ext_getElem->Py,drop_append->Pz,cons_append->PA,length_nil->PF,filter_nil->PG,any_append->PH,map_map->PQ
open Nat renaming zero_le->ln,not_lt_zero->Lo,lt_succ_iff_lt_or_eq->Lp,le_refl->MG,succ_mul->MQ,sub_self->MR,pow_le_pow_right->N1,pow_lt_pow_right->Nx,zero_add->NG,or_lt_two_pow->NH,one_mul->NN,min_eq_left->NT,lt_of_le_of_ne->Pr,le_trans->PS
open Go.Proofs.Tryz renaming underlying22->L3,sizeOf3->LN,prog->M8,sizeOf22->Ms,zeroValue144->MC,underlying50->MD,sizeOf144->MF,sizeOf30->MJ,underlying45->MK,zeroValue127->MV,underlying186->N7,underlying144->N8,zeroValue30->N9,sizeOf78->Na,sizeOf47->Nu,zeroValue78->NA,call73->NB,zeroValue3->NK,sizeOf4->NP,isAgg30->NQ,sizeOf52->P5,underlying199->Pd,sizeOf127->Pf,sizeOf100->Pg,zeroValue100->Pm,isAgg78->Pn,call110->Po,call104->Pp,zeroValue52->PC,isAgg144->PD,isAgg47->PL,call76->PW,isAgg52->Q6,call101->Q7
open Go.VL.Ext renaming refl->Lk,J->MI,alloc->P3
open Go.Value renaming oneCell'->Lm,bool->NR,slice->PN
open Go.VL.Ret renaming enter->Ln
open Go.VL.Upd renaming setRow->Lq,set->M9,J->Mq,refl->MA
open Go.VL.WH renaming one->Ls,leaf->LK,take->Mr,two->MW,done->MZ
open Go.VL.RowT renaming nil->LU,U->Q3
open Go.VL renaming Upd->M1,Ext->Mv,BlkO->MN,Ints->Nc,Free->Nh,RowT->Nl,Ret->Nz,Rng->NF,NewV->P7,lowT->PT,Elem->Q9
open Bool renaming and_eq_true->M5,or_eq_false_iff->MY,eq_iff_iff->N6,false_ne_true->Nb,not_eq_true'->Ni,or_eq_true->Nr,false_or->NZ,and_eq_false_iff->P9,false_and->PJ,true_and->PK,not_or->PU
open Go.VL.RV renaming indexAddr->M6,len->MX,move->N0,fieldAddr->Ns,lookup->NL,add->NM,build->Ph,neq->PP
open Go.VL.WL renaming push->Mu,storeAt->NC,nil->Q0
open Go.VL.Sl renaming ext->MM,one->Pa,U->Q2
open Go.VL.Free renaming U->MP
open Go.Proofs.YtcfhbfflgnbacaaGreatDoor renaming AllR->MS,RowsG->PO
open Go.VL.Rng renaming U->Nm,ext->NU
open Go.VL.Fit renaming i64->Nq
open Go.VL.BlkO renaming U->Nw,set->Q5
open Array renaming length_toList->Ny
open Classical renaming byContradiction->NJ
open Go.VL.QF renaming of->NS
open Go.RowKit.Below renaming refl->NV,trans->PV
open Int renaming eq_ofNat_of_zero_le->P2,le_refl->Pe,toNat_natCast->PB
open Decidable renaming not_not->P4
open Go.World renaming cell?_alloc_at->P6
open Go.VL.WC renaming tail->PE,still->PM
open Go.IntKind renaming u64->PI
open Go.Proofs.YtcfhbfflgnbacaaGreatDoor.Free renaming lowT->PY
open Go.VL.WS renaming nil->PZ
open List.Nodup renaming sublist->Q4
open Function renaming comp_apply->Q8
set_option maxRecDepth 10000
open Go.VL Go.Proofs Go.Proofs.Tryz
variable {α:Type}{se:Bool}{u:Int}{a0 l row s:List Int}{w w':Lj}{B b c i k p q r sz:Nat}{O:Nat->Nat}{F:PX}{E:Pq}{v:ix}{enc:α->List ix}
namespace Go.Proofs.YtcfhbfflgnbacaaGreatDoor
def _root_.Go.VL.Sl.natIv{l:List Nat}(h:Sl aL 1 w v l):Sl encI 1 w v (l.map fun(n:Nat)=>(n:Int)):=
 ⟨by simpa using h.shape,λi hi j u hu=>h.cells i (by simpa using hi) j u (by simpa using hu)⟩
def A6:cC M8 127 #[(0,1),(1,1),(2,1)]:=⟨_,underlying127,λw=>by kernel_rfl⟩
def Gs(g:List Nat)(many:Nat)(gv nv tv:ix)(rows:List (List Nat))(a':List Nat)(w:Lj)(hg:GrpI g many)(g1:Sl aL 1 w gv g)(hn:RowsN w nv rows)(h5:Sl fq 1 w tv a')(hr:RightD rows a') 
  (hc:∀p,p<rows.length->∀i j,i<37->j<37->nth g i=nth g j->nth (nth rows p) i=nth (nth rows p) j) :
  Nz M8 59 [gv,.agg #[nv,tv]] w λv w'=>∃gv' nv' tv',v=.tuple #[.agg #[gv',nv',tv'],nI 0]/\gv'.oneCell'=true/\nv'.oneCell'=true/\tv'.oneCell'=true/\PO w.heap.size w' nv' (rows.map (lz g many))/\Sl fq 1 w' tv' a'/\P7 w.heap.size tv'/\Mv w w':=by
 have j6:=hr.le;have i1:=hr.tl;have j7:=hg.len;have j4:=hg.pos;have j5:=hg.le;apply Ln func59 ntmps59 rfl rfl;refine zh ?_;apply aI (aw w) 1 zo rfl rfl;intro db w1 O1 g4 i8 j1 j9;apply au j1 2 zo (MV _) rfl;intro cb w2 O2 g8 h8 j0 j8;have e7:=g4.U h8 zd zd;have e9:M1 (λq=>1<=q) (λ_=>0) w O2 w2:=(i8.mono (λ_ h=>zo) zd).J (h8.mono (λ_ h=>zo) zd);have d4:=e9.ext;refine zh ?_;apply zc call31 (jL (ints g) gv w2 (g1.ext d4).natIv);rintro _ w3 ⟨rfl,h4⟩;rw[h4,hg.cnt];clear h4 w3;refine zh ?_;apply ax (d:=16) rfl (b':=false) ((by rw[beq_eq_false_iff_ne];omega));refine zh ?_;refine zvH (ah (us:=[nv,tv]) e7.V (Pn _) (Na _) rfl) ?_;apply zc call56 (kY nv tv rows a' w2 (hn.ext d4) (h5.ext d4) hr);rintro _ w3 ⟨rfl,j2⟩;have f5:M1 (λ_=>False) O2 w2 O2 w3:=aa (λh=>h) O2 j2;have c':=e7.U f5 zd (λh=>h);have g7:=g8.U f5 zd (λh=>h);have b6:=e9.J (f5.mono (λ_ h=>h.elim) zd);have i':=j0.U f5;refine zh ?_;refine zFH rfl rfl ?_;have d1:w3.drew.cell? (nA db 1)=some tv:=c'.cell 1 rfl;apply aN (λW=>W.cell? (nA db 1)=some tv) 8 rfl zk;apply zrm 0 rfl d1 rfl;apply zrf 2 rfl d1 rfl;apply zt 3 rfl d1 (λw1 h'=>RV.ld h' rfl)
 refine mO (λx:ix×ix×Nat×(Nat->Nat)×World=>[(0,gv),(3,nP db),(4,nP cb),(6,nI (many:Nat)),(23,x.1),(26,x.2.1),(7,.pointer (some ⟨x.2.2.1,0,none⟩)),(27,.agg #[x.1,nS,x.2.1])]) (λx=>x.2.2.2.2) (λx=>Sl aL 1 x.2.2.2.2 x.1 g/\Sl fq 1 x.2.2.2.2 x.2.1 a'/\Nh x.2.2.2.1 x.2.2.2.2 x.2.1/\MN x.2.2.2.1 x.2.2.2.2 3 x.2.2.1 #[nS,nS,nS] 127/\M1 (λq=>q=3) O2 w3 x.2.2.2.1 x.2.2.2.2/\NF w.heap.size x.2.2.2.1 x.2.2.2.2/\P7 w3.heap.size x.2.1) #[true,true,true,true,true,true,true,false] 1 ?_ ?_
 ·intro hN;have hR:=i'.drew;have hU:M1 (λq=>q=3) O2 w3 O2 w3.drew:=aa zd O2 (Lk w3).drew;have k0:∀O W,M1 (λq=>q=3) O2 w3 O W->W.cell? (nA db 1)=some tv:=λO W u=>(c'.U u zd zd).cell 1 rfl
  have kg:∀O W,M1 (λq=>q=3) O2 w3 O W->Sl aL 1 W gv g:=λO W u=>g1.ext (b6.J (u.mono (λ_ h=>zo) zd)).ext
  have kt:∀O W,M1 (λq=>q=3) O2 w3 O W->Sl fq 1 W tv a':=λO W u=>h5.ext (b6.J (u.mono (λ_ h=>zo) zd)).ext
  refine MW 1 6 zk rfl rfl ?_ ?_ 
  ·apply zc call100 (sy g gv _ (kg _ _ hU) (λ_ _=>rfl) (λu hu c hc=>by rw[Lu.1 hc];rfl) zo);rintro a1 wa ⟨fA,f4,_⟩;have b2:=λO=>aa (S:=λ_=>False) (λh=>h) O f4
   have hU:=Mq hU ((b2 _).mono (λ_ h=>h.elim) zd);have hR:=Nm hR (b2 _)
   try have fB:=MM fB f4
   try have gB:=MP gB (b2 _)
   try have fC:=Nw fC (b2 _) zd (λh=>h)
   refine zh ?_;apply ae (k0 _ _ hU)
   refine MW 4 6 zk rfl rfl ?_ ?_ 
   ·apply zc Q7 (nQ a' tv _ (kt _ _ hU) (λ_ _=>rfl) (λu hu c hc=>by rw[Lu.1 hc];rfl) zo);rintro a0 wb ⟨fB,b8,b9⟩;have nB:=(tw b9).mono hU.size;have gB:=b9 _ _ hR;have a9:=λO=>aa (S:=λ_=>False) (λh=>h) O b8
    have hU:=Mq hU ((a9 _).mono (λ_ h=>h.elim) zd);have hR:=Nm hR (a9 _)
    try have fA:=MM fA b8
    try have fC:=Nw fC (a9 _) zd (λh=>h)
    refine zh ?_;apply ae (k0 _ _ hU)
    have oA:=Pa fA;have oB:=Pa fB;apply zr 5 rfl (k0 _ _ hU) (λ_=>aH A6 (MV _) rfl (by simp only[Li,oA,oB,Lz];rfl) rfl rfl);apply Ls 6 zk rfl;apply au hR 3 zd (MV _) rfl;intro ob wc Oc fC a8 e' f3;have hU:=Mq hU a8;have hR:=e'
    try have fA:=MM fA f3
    try have fB:=Q2 fB gB a8
    try have gB:=MP gB a8
    refine zh ?_;apply ae (k0 _ _ hU)
    exact LK (hN (a1,a0,ob,_,_) ⟨fA,fB,gB,fC,hU,hR,nB⟩) zk ⟨rfl,rfl,rfl,rfl,rfl,rfl,rfl,rfl,trivial⟩ rfl
   apply au hR 3 zd (MV _) rfl;intro ob wc Oc fC a8 e' f3;have hU:=Mq hU a8;have hR:=e'
   try have fA:=MM fA f3
   try have fB:=Q2 fB gB a8
   try have gB:=MP gB a8
   refine zh ?_;apply ae (k0 _ _ hU)
   apply Ls 4 zk rfl;apply zc Q7 (nQ a' tv _ (kt _ _ hU) (λ_ _=>rfl) (λu hu c hc=>by rw[Lu.1 hc];rfl) zo)
   rintro a0 wb ⟨fB,b8,b9⟩;have nB:=(tw b9).mono hU.size;have gB:=b9 _ _ hR;have a9:=λO=>aa (S:=λ_=>False) (λh=>h) O b8
   have hU:=Mq hU ((a9 _).mono (λ_ h=>h.elim) zd);have hR:=Nm hR (a9 _)
   try have fA:=MM fA b8
   try have fC:=Nw fC (a9 _) zd (λh=>h)
   refine zh ?_;apply ae (k0 _ _ hU)
   have oA:=Pa fA;have oB:=Pa fB;apply zr 5 rfl (k0 _ _ hU) (λ_=>aH A6 (MV _) rfl (by simp only[Li,oA,oB,Lz];rfl) rfl rfl);exact LK (hN (a1,a0,ob,_,_) ⟨fA,fB,gB,fC,hU,hR,nB⟩) zk ⟨rfl,rfl,rfl,rfl,rfl,rfl,rfl,rfl,trivial⟩ rfl
  apply au hR 3 zd (MV _) rfl;intro ob wc Oc fC a8 e' f3;have hU:=Mq hU a8;have hR:=e'
  try have fA:=MM fA f3
  try have fB:=Q2 fB gB a8
  try have gB:=MP gB a8
  refine zh ?_;apply ae (k0 _ _ hU)
  apply Ls 1 zk rfl;apply zc call100 (sy g gv _ (kg _ _ hU) (λ_ _=>rfl) (λu hu c hc=>by rw[Lu.1 hc];rfl) zo)
  rintro a1 wa ⟨fA,f4,_⟩;have b2:=λO=>aa (S:=λ_=>False) (λh=>h) O f4
  have hU:=Mq hU ((b2 _).mono (λ_ h=>h.elim) zd);have hR:=Nm hR (b2 _)
  try have fB:=MM fB f4
  try have gB:=MP gB (b2 _)
  try have fC:=Nw fC (b2 _) zd (λh=>h)
  refine zh ?_;apply ae (k0 _ _ hU)
  apply Ls 4 zk rfl;apply zc Q7 (nQ a' tv _ (kt _ _ hU) (λ_ _=>rfl) (λu hu c hc=>by rw[Lu.1 hc];rfl) zo)
  rintro a0 wb ⟨fB,b8,b9⟩;have nB:=(tw b9).mono hU.size;have gB:=b9 _ _ hR;have a9:=λO=>aa (S:=λ_=>False) (λh=>h) O b8
  have hU:=Mq hU ((a9 _).mono (λ_ h=>h.elim) zd);have hR:=Nm hR (a9 _)
  try have fA:=MM fA b8
  try have fC:=Nw fC (a9 _) zd (λh=>h)
  refine zh ?_;apply ae (k0 _ _ hU)
  have oA:=Pa fA;have oB:=Pa fB;apply zr 5 rfl (k0 _ _ hU) (λ_=>aH A6 (MV _) rfl (by simp only[Li,oA,oB,Lz];rfl) rfl rfl);exact LK (hN (a1,a0,ob,_,_) ⟨fA,fB,gB,fC,hU,hR,nB⟩) zk ⟨rfl,rfl,rfl,rfl,rfl,rfl,rfl,rfl,trivial⟩ rfl
 rintro⟨a1,a0,ob,O7,w7⟩ ⟨e5,c5,c9,b1,b4,h9,e4⟩;dsimp only at e5 c5 c9 b1 b4 h9 e4 ⊢;have o1:=e5.one;have o2:=c5.one;have g3:=c'.U b4 zd zd;have g6:=g7.U b4 zd zd;apply Ls 7 zk rfl;apply zsb (us:=#[a1,nS,a0]) b1 (Pf _) (by simp only[Li,o1,o2];rfl);have g0:=b1.setRow (us:=#[a1,nS,a0]);have d7:M1 (λj=>j=3) O7 w7 O7 (w7.setRow ob #[a1,nS,a0]):=Lq zd b1.tag rfl;have f9:=c5.U c9 d7;have g2:=c9.U d7;have e6:=g3.U d7 zd zd;have g5:=g6.U d7 zd zd;have d3:=(b6.J (b4.mono (λ_ h=>zo) zd)).J (d7.mono (λ_ h=>zo) zd);have i9:=h9.U d7;generalize w7.setRow ob #[a1,nS,a0]=w8 at *;refine zh ?_;apply ae (e6.cell 1 rfl);have e0:w8.cell? (nA db 0)=some nv:=e6.cell 0 rfl;obtain⟨vs,d9,j3,f8⟩:=hn;have i0:=d9.ext d3.ext;apply MZ zk;refine zh ?_;apply zlp (λz:Nat×(Nat->Nat)×World×ix×List ix=>[(0,gv),(3,nP db),(4,nP cb),(6,nI (many:Nat)),(7,nP ob),(29,nv),(30,nI vs.length),(31,nI z.1)]) (λz=>z.2.2.1) (λz=>z.1<=rows.length/\M1 (λq=>3<=q) O7 w8 z.2.1 z.2.2.1/\NF w.heap.size z.2.1 z.2.2.1/\MN z.2.1 z.2.2.1 3 ob #[a1,z.2.2.2.1,a0] 127/\RwO z.2.1 z.2.2.1 4 z.2.2.2.1 z.2.2.2.2 ((rows.take z.1).map (lz g many))/\∀k,k<z.1->P7 w.heap.size (nth z.2.2.2.2 k)) (λz=>rows.length-z.1) (0,O7,w8,nS,[]) ⟨ln _,MA zd _ _,i9,g0,⟨LU _ _ _ _ _ _,rfl,λk hk=>absurd hk (Lo k)⟩,λk hk=>absurd hk (Lo k)⟩
 rintro⟨i,O9,w9,d6,d5⟩ ⟨hi,e8,f6,c6,a4,c7⟩;dsimp only at hi e8 f6 c6 a4 c7 ⊢;have b5:=d3.J (e8.mono (λ_ h=>zo) zd);have f7:=d9.ext b5.ext;have i2:=a4.len;have f':((rows.take i).map (lz g many)).length=i:=by simp;omega
 refine zh ?_;refine zC ?_ ?_
 ·intro c8;replace c8:i<rows.length:=dT c8;have m1:w9.cell? (adr nv 1 i)=some (nth vs i):=by have:=f7.cell (i:=i) (j:=0) zo rfl;rwa[ar]at this
  obtain⟨r1,r2⟩:=hr.row i c8;refine zh ?_;apply zc call102 (Br g (nth rows i) many gv (nth vs i) w9 hg (g1.ext b5.ext) ((f8 i c8).ext b5.ext) r1 (hc i c8));rintro _ h3 ⟨ov,rfl,h6,h2,h7⟩;have b3:M1 (λ_=>False) O9 w9 O9 h3:=aa (λh=>h) O9 h2;have e2:=h7 _ _ f6;have i3:=(tw h7).mono b5.size;have h1:=f6.U b3;have b7:=c6.U b3 zd (λh=>h);have a2:=a4.U b3 zd (λh=>h);obtain⟨oa,oc,i4,_⟩:=h6.shape;subst i4;refine zh ?_;apply bh rfl rfl;have f0:h3.cell? (nA ob 1)=some d6:=b7.cell 1 rfl;refine zh ?_;apply Mu AJ a2.row h1 ((.slice oa (lz g many (nth rows i)).length oc:ix)) (λ_=>rfl) rfl rfl rfl (by simp[Lm]) zo zo zo zd rfl rfl;intro a3 d8 O11 a6 a5 h0;have a7:=b7.U a5 zd zd;have e1:RwO O11 d8 4 a3 (d5++[.slice oa (lz g many (nth rows i)).length oc]) ((rows.take (i+1)).map (lz g many)):=by
   rw[aG c8,Mz];refine⟨a6,by simp;omega,λk hk=>?_⟩;rw[az,az]
   by_cases e:k<((rows.take i).map (lz g many)).length
   ·rw[ap zo,ap e];exact⟨(a2.at_ k e).1.U (a2.at_ k e).2 a5,(a2.at_ k e).2.U a5⟩
   have i5:k=i:=by simp at hk;omega
   subst i5;rw[am zo,am e,f',show k-d5.length=0 from by omega,MR,ao,NX,P1,ao];exact⟨h6.U e2 a5,e2.U a5⟩
  refine zh ?_;apply aj (j:=1) a7 rfl (sizeOf50 _) a6.one rfl rfl rfl
  have d2:M1 (λj=>j=3) O11 d8 O11 (d8.setCell ⟨ob,1,none⟩ a3):=M9 zd a7.tag rfl;have e3:MN O11 (d8.setCell ⟨ob,1,none⟩ a3) 3 ob #[a1,a3,a0] 127:=a7.set 1 _;have d':=e1.U d2 zd zd;have g':=h0.U d2;generalize d8.setCell ⟨ob,1,none⟩ a3=w12 at *;refine zh ?_;refine zxd (i+1,O11,w12,a3,d5++[.slice oa (lz g many (nth rows i)).length oc]) ⟨c8,((e8.J (b3.mono (λ_ h=>h.elim) zd)).J (a5.mono (λ_ h=>zo) zd)).J (d2.mono (λ_ h=>zo) zd),g',e3,d',λk hk=>?_⟩;dsimp only at hk ⊢;rw[az]
  by_cases e:k<d5.length
  ·rw[ap e];exact c7 k zo
  rw[am e,show k-d5.length=0 from by omega,ao];exact i3
 intro i6;obtain rfl:i=rows.length:=dF i6;rw[Ll]at a4;have o3:=a4.row.one;have d0:=g5.U e8 zd zd;refine zh ?_;apply zv (ah (us:=[a1,d6,a0]) c6.V (isAgg127 _) (Pf _) rfl);apply zsb (us:=#[a1,d6,a0]) d0 (Pf _) (by simp only[Li,o1,o2,o3];rfl);have i7:=d0.setRow (us:=#[a1,d6,a0]);have g9:M1 (λj=>j=2) O9 w9 O9 (w9.setRow cb #[a1,d6,a0]):=Lq zd d0.tag rfl;have b0:=a4.U g9 zd zd;have hU9z:=(e8.mono (S':=λq=>2<=q) (λ_ h=>zo) zd).J (g9.mono (λ_ h=>zo) zd);refine zh ?_;refine bz rfl rfl rfl i7.V (isAgg127 _) (Pf _) ⟨a1,d6,a0,rfl,o1,o3,o2,⟨d5,b0.row.sl,b0.row.newV zd (f6.U g9),b0.len,λk hk=>⟨(b0.at_ k hk).1,c7 k (by simpa using hk)⟩⟩,f9.U g2 hU9z,e4.mono b6.size,(d3.J (hU9z.mono (λ_ h=>zo) zd)).ext⟩
def kU(a0:List Int)(base c:Nat):Bool:=!(decide (base+c<a0.length)&&nth a0 (base+c) != -1)
def Bk(pb:Nat)(cv kv:ix)(a0:List Nat)(a2:List Int)(base:Nat)(w:Lj) 
  (hp:w.cell? ⟨pb,3,none⟩=some kv) (hk:Nc w kv a2) (hc:Mo w cv a0) (a6:∀c∈a0,c<=64) (hb:base<=200000) :
  Nz M8 138 [nP pb,cv,nI base] w λv w'=>v=.bool (a0.all (kU a2 base))/\w=w':=by
 have a8:=hk.len_le;have a':=hc.len_le;apply Ln func138 ntmps138 rfl rfl;refine zh ?_;apply zlp (λk:Nat=>[(0,nP pb),(1,cv),(2,nI base),(9,cv),(10,nI a0.length),(11,nI k)]) (λk=>w) (λk=>k<=a0.length/\∀j,j<k->kU a2 base (nth a0 j)=true) (λk=>a0.length-k) 0 ⟨ln _,λj hj=>absurd hj (Lo j)⟩;intro k ⟨a9,a4⟩;refine zh ?_;refine zC ?_ ?_
 ·intro a1;replace a1:k<a0.length:=by simpa using a1
  have b0:=a6 _ (aJ a1);refine zh ?_;refine zvH (RV.ld (hc.ld zo) rfl) ?_;refine zvH (RV.ld hp rfl) ?_
  by_cases a5:base+nth a0 k<a2.length
  ·apply ax (d:=24) rfl (b':=true) (by simpa using(by omega:(base:Int)+((nth a0 k:Nat):Int)<(a2.length:Int)));refine zh ?_
   refine zvH (RV.ld hp rfl) ?_;refine zvH (RV.ld (hk.ld zo) rfl) ?_
   refine zC ?_ ?_
   ·intro a3;refine zh ?_;refine af rfl rfl ⟨?_,rfl⟩;rw[yx a1];simp only[kU,a5,a3];rfl
   intro a3;refine zh ?_;refine zxd (k+1) ⟨a1,λj hj=>?_⟩
   rcases Lp.1 hj with h|rfl
   ·exact a4 j h
   simp only[kU,a5,a3];rfl
  apply ax (d:=24) rfl (b':=false) (by simpa using(by omega:¬(base:Int)+((nth a0 k:Nat):Int)<(a2.length:Int)));refine zh ?_
  refine zFH rfl rfl ?_;refine zxd (k+1) ⟨a1,λj hj=>?_⟩
  rcases Lp.1 hj with h|rfl
  ·exact a4 j h
  simp only[kU,a5];rfl
 intro a7;replace a7:a0.length<=k:=by simpa using a7
 refine zh ?_;refine af rfl rfl ⟨?_,rfl⟩
 rw[JF λj hj=>a4 j zo]
def cnt(row:List Int)(n:Int):Int:=(row.count n:Int)
def gK(row:List Int)(b n:Int):Int:=if cnt row b<cnt row n\/(cnt row n=cnt row b/\n<b)then n else b
def bN(row:List Int):Int:=row.foldl (gK row) (nth row 0)
abbrev iv:Int->ix:=Value.int .i64
def rW:KeyL M8 3 iv:=KeyL.int underlying3
def Cg(row:List Int)(rv:ix)(w:Lj)(h:Nc w rv row)(a9:0<row.length):
  Nz M8 137 [rv] w λu w'=>u=nI (bN row)/\Mv w w':=by
 have hl:=h.len_le;have a6:∀r z,0<=cnt r z:=λr z=>by simp only[cnt];omega
 have a5:∀k z,cnt (row.take k) z<=k:=λk z=>by
  have h1:=Pc (a:=z) (l:=row.take k);have h2:=List.length_take_le k row;simp only[cnt];omega
 apply Ln func137 ntmps137 rfl rfl;refine zh ?_
 apply WL.makeMap rfl;refine zh ?_
 refine zvH (MX (by first|exact h.ext (P3 _ _)) L3 rfl) ?_;apply zlp (λx:Nat×Lj×List (Int×Int)=>[(0,rv),(3,.map (some w.heap.size)),(10,rv),(11,nI row.length),(12,nI x.1)]) (λx=>x.2.1) (λx=>x.1<=row.length/\MapO iv iv (og (λ_=>0) w.heap.size 1) x.2.1 1 w.heap.size x.2.2/\M1 (λj=>j=1) (λ_=>0) w (og (λ_=>0) w.heap.size 1) x.2.1/\∀z,(bC x.2.2 z).getD 0=cnt (row.take x.1) z) (λx=>row.length-x.1) (0,_,[]) ⟨ln _,MapO.new _ _ _,Upd.alloc zd (aw _) _ _,λz=>by simp[bC,cnt]⟩
 rintro⟨k,w1,m⟩ ⟨hk,hm,hU,a2⟩;dsimp only at hk hm hU a2 ⊢;have h1:=h.ext hU.ext;refine zh ?_;refine zC ?_ ?_
 ·intro a1;replace a1:k<row.length:=by simpa using a1
  have hc:=a5 k (nth row k);have a':=a6 (row.take k) (nth row k);refine zh ?_;refine zvH (RV.ld (h1.ld zo) rfl) ?_;refine zvH (NL hm N7 rW (NK _) (nth row k) rfl rfl rfl (u:=iv (cnt (row.take k) (nth row k))) (by rw[<-a2];cases bC m (nth row k)<;>rfl)) ?_;apply WL.mapUpdate hm N7 rW zd (nth row k) (cnt (row.take k) (nth row k)+1) rfl rfl rfl rfl rfl;intro w2 a7 a8;refine zh ?_;refine zxd (k+1,w2,_) ⟨a1,a7,hU.J a8,λz=>?_⟩;dsimp only;rw[bn,aG a1]
  by_cases hz:nth row k=z
  ·subst hz;simp[cnt]
  rw[am hz,a2];simp[cnt,Pu,hz]
 intro a3;replace a3:row.length<=k:=by simpa using a3
 have a4:∀z,(bC m z).getD 0=cnt row z:=λz=>by rw[a2,Mp a3]
 refine zh ?_;refine zvH (RV.ld (h1.ld zo) rfl) ?_
 apply zlp (λx:Nat×Int=>[(3,.map (some w.heap.size)),(24,rv),(25,nI row.length),(26,nI x.1),(6,nI x.2)]) (λx=>w1) (λx=>x.1<=row.length/\(row.take x.1).foldl (gK row) (nth row 0)=x.2) (λx=>row.length-x.1) (0,nth row 0) ⟨ln _,rfl⟩;rintro⟨k,b⟩ ⟨hk,hb⟩;dsimp only at hk hb ⊢;refine zh ?_
 refine zC ?_ ?_
 ·intro a1;replace a1:k<row.length:=by simpa using a1
  have a0:(row.take (k+1)).foldl (gK row) (nth row 0)=gK row b (nth row k):=by rw[aG a1,Ly,hb];rfl
  have L:∀z,JK iv (nI 0) (bC m z)=iv (cnt row z):=λz=>by rw[<-a4];cases bC m z<;>rfl
  refine zh ?_;refine zvH (RV.ld (h1.ld zo) rfl) ?_
  refine zvH (NL hm N7 rW (NK _) (nth row k) rfl rfl rfl (L _)) ?_;refine zvH (NL hm N7 rW (NK _) b rfl rfl rfl (L _)) ?_
  by_cases h1:cnt row b<cnt row (nth row k)
  ·apply ax (d:=37) rfl (b':=true) (decide_eq_true h1);refine zh ?_
   refine zTH rfl rfl ?_;refine zxd (k+1,_) ⟨a1,by rw[a0,gK,ap (.inl h1)]⟩
  apply ax (d:=37) rfl (b':=false) (decide_eq_false h1);refine zh ?_
  refine zvH (NL hm N7 rW (NK _) (nth row k) rfl rfl rfl (L _)) ?_;refine zvH (NL hm N7 rW (NK _) b rfl rfl rfl (L _)) ?_
  by_cases h2:cnt row (nth row k)=cnt row b
  ·apply ax (d:=45) rfl (b':=true) (by simpa using h2);refine zh ?_
   refine zC ?_ ?_
   ·intro h3;replace h3:nth row k<b:=by simpa using h3
    refine zh ?_;refine zxd (k+1,_) ⟨a1,by rw[a0,gK,ap (.inr ⟨h2,h3⟩)]⟩
   intro h3;replace h3:¬nth row k<b:=by simpa using h3
   refine zh ?_;refine zxd (k+1,_) ⟨a1,by rw[a0,gK,am (λh=>h.elim h1 λh=>h3 h.2)]⟩
  apply ax (d:=45) rfl (b':=false) (by simpa using h2);refine zh ?_
  refine zFH rfl rfl ?_;refine zxd (k+1,_) ⟨a1,by rw[a0,gK,am (λh=>h.elim h1 λh=>h2 h.1)]⟩
 intro a3;replace a3:row.length<=k:=by simpa using a3
 refine zh ?_;refine af rfl rfl ⟨?_,hU.ext⟩
 rw[bN,<-hb,Mp a3]
def mE:Q9 M8 22 3 1 8:=⟨L3,by kernel_rfl,zd⟩
abbrev iQ(O:Nat->Nat)(w:Lj)(i:Nat)(v:ix)(l:List Int):Prop:=Nl (λx=>[nI x]) 3 1 O w i v l
structure PSt where
 width:Int
 usual:List Int
 base:List Int
 check:List Int
 next:List Int
structure PkR(T:Nat)(O:Nat->Nat)(w:Lj)(pb:Nat)(p:PSt)(uv bv kv nv:ix):Prop where
 blk:MN O w (T+1) pb #[nI p.width,uv,bv,kv,nv] 30
 u:iQ O w (T+2) uv p.usual
 b:iQ O w (T+3) bv p.base
 k:iQ O w (T+4) kv p.check
 n:iQ O w (T+5) nv p.next
def PkO(T:Nat)(O:Nat->Nat)(w:Lj)(pb:Nat)(p:PSt):Prop:=∃uv bv kv nv,PkR T O w pb p uv bv kv nv
def kK(T:Nat)(i:Nat):Prop:=T+1<=i/\i<=T+5
def jd(T:Nat):¬kK T 0:=by unfold kK;omega
def PkR.U{T:Nat}{S:Nat->Prop}{O O':Nat->Nat}{w w':Lj}{pb:Nat}{p:PSt}{uv bv kv nv:ix}(h:PkR T O w pb p uv bv kv nv)(u:M1 S O w O' w')(hS:∀i,kK T i->¬S i):PkR T O' w' pb p uv bv kv nv:=
 ⟨h.blk.U u zo (hS _ (by unfold kK;omega)),h.u.U u zo (hS _ (by unfold kK;omega)),h.b.U u zo (hS _ (by unfold kK;omega)),h.k.U u zo (hS _ (by unfold kK;omega)),h.n.U u zo (hS _ (by unfold kK;omega))⟩
def PkO.U{T:Nat}{S:Nat->Prop}{O O':Nat->Nat}{w w':Lj}{pb:Nat}{p:PSt}(h:PkO T O w pb p)(u:M1 S O w O' w')(hS:∀i,kK T i->¬S i):PkO T O' w' pb p:=by
 obtain⟨uv,bv,kv,nv,h⟩:=h;exact⟨uv,bv,kv,nv,h.U u hS⟩
section
variable{T:Nat}{O O':Nat→Nat}{w w':Lj}{pb:Nat}{p:PSt}{uv bv kv nv v:ix}{l:List Int}
def PkR.setK(h:PkR T O w pb p uv bv kv nv)(u:M1 (λj=>j=T+4) O w O' w')(r:iQ O' w' (T+4) v l):
  PkR T O' (w'.setCell ⟨pb,3,none⟩ v) pb { p with check:=l } uv bv v nv/\M1 (kK T) O w O' (w'.setCell ⟨pb,3,none⟩ v):=by
 have hb:=h.blk.U u zo zo;have us:M1 (λj=>j=T+1) O' w' O' (w'.setCell ⟨pb,3,none⟩ v):=M9 zo hb.tag rfl
 exact⟨⟨hb.set 3 v,(h.u.U u zo zo).U us zo zo,(h.b.U u zo zo).U us zo zo,r.U us zo zo,(h.n.U u zo zo).U us zo zo⟩,
  (u.mono (by unfold kK;omega) (jd T)).J (us.mono (by unfold kK;omega) (jd T))⟩
def PkR.setN(h:PkR T O w pb p uv bv kv nv)(u:M1 (λj=>j=T+5) O w O' w')(r:iQ O' w' (T+5) v l):
  PkR T O' (w'.setCell ⟨pb,4,none⟩ v) pb { p with next:=l } uv bv kv v/\M1 (kK T) O w O' (w'.setCell ⟨pb,4,none⟩ v):=by
 have hb:=h.blk.U u zo zo;have us:M1 (λj=>j=T+1) O' w' O' (w'.setCell ⟨pb,4,none⟩ v):=M9 zo hb.tag rfl
 exact⟨⟨hb.set 4 v,(h.u.U u zo zo).U us zo zo,(h.b.U u zo zo).U us zo zo,(h.k.U u zo zo).U us zo zo,r.U us zo zo⟩,
  (u.mono (by unfold kK;omega) (jd T)).J (us.mono (by unfold kK;omega) (jd T))⟩
def PkR.setU(h:PkR T O w pb p uv bv kv nv)(u:M1 (λj=>j=T+2) O w O' w')(r:iQ O' w' (T+2) v l):
  PkR T O' (w'.setCell ⟨pb,1,none⟩ v) pb { p with usual:=l } v bv kv nv/\M1 (kK T) O w O' (w'.setCell ⟨pb,1,none⟩ v):=by
 have hb:=h.blk.U u zo zo;have us:M1 (λj=>j=T+1) O' w' O' (w'.setCell ⟨pb,1,none⟩ v):=M9 zo hb.tag rfl
 exact⟨⟨hb.set 1 v,r.U us zo zo,(h.b.U u zo zo).U us zo zo,(h.k.U u zo zo).U us zo zo,(h.n.U u zo zo).U us zo zo⟩,
  (u.mono (by unfold kK;omega) (jd T)).J (us.mono (by unfold kK;omega) (jd T))⟩
def PkR.setB(h:PkR T O w pb p uv bv kv nv)(u:M1 (λj=>j=T+3) O w O' w')(r:iQ O' w' (T+3) v l):
  PkR T O' (w'.setCell ⟨pb,2,none⟩ v) pb { p with base:=l } uv v kv nv/\M1 (kK T) O w O' (w'.setCell ⟨pb,2,none⟩ v):=by
 have hb:=h.blk.U u zo zo;have us:M1 (λj=>j=T+1) O' w' O' (w'.setCell ⟨pb,2,none⟩ v):=M9 zo hb.tag rfl
 exact⟨⟨hb.set 2 v,(h.u.U u zo zo).U us zo zo,r.U us zo zo,(h.k.U u zo zo).U us zo zo,(h.n.U u zo zo).U us zo zo⟩,
  (u.mono (by unfold kK;omega) (jd T)).J (us.mono (by unfold kK;omega) (jd T))⟩
def PkR.c1(h:PkR T O w pb p uv bv kv nv):w.cell? ⟨pb,1,none⟩=some uv:=h.blk.cell 1 rfl
def PkR.c2(h:PkR T O w pb p uv bv kv nv):w.cell? ⟨pb,2,none⟩=some bv:=h.blk.cell 2 rfl
def PkR.c3(h:PkR T O w pb p uv bv kv nv):w.cell? ⟨pb,3,none⟩=some kv:=h.blk.cell 3 rfl
def PkR.c4(h:PkR T O w pb p uv bv kv nv):w.cell? ⟨pb,4,none⟩=some nv:=h.blk.cell 4 rfl
end
def PSt.long(p:PSt)(j:Nat):PSt:={ p with check:=p.check++ka j (-1),next:=p.next++ka j 0 }
def PSt.take(p:PSt)(slot:Nat)(row entry:Int):PSt:=
 let q:=p.long (slot+1-p.check.length)
 { q with check:=q.check.set slot row,next:=q.next.set slot entry }
def FZ(T:Nat)(pb:Nat)(p:PSt)(slot:Nat)(row entry:Int)(B:Nat)(O:Nat->Nat)(w:Lj)(hp:PkO T O w pb p)(hR:NF B O w)(hs:slot<=1000000)(hl:p.next.length=p.check.length):
  Nz M8 139 [nP pb,nI slot,nI row,nI entry] w λ_ w'=>∃O',PkO T O' w' pb (p.take slot row entry)/\M1 (kK T) O w O' w'/\NF B O' w':=by
 apply Ln func139 ntmps139 rfl rfl;refine zh ?_
 apply zlp (λx:Nat×(Nat->Nat)×World=>[(0,nP pb),(1,nI slot),(2,nI row),(3,nI entry)]) (λx=>x.2.2) (λx=>PkO T x.2.1 x.2.2 pb (p.long x.1)/\M1 (kK T) O w x.2.1 x.2.2/\NF B x.2.1 x.2.2/\x.1<=slot+1-p.check.length) (λx=>slot+1-p.check.length-x.1) (0,O,w) ⟨by simpa[PSt.long]using hp,MA (jd T) _ _,hR,ln _⟩;rintro⟨j,O1,w1⟩ ⟨⟨uv,bv,kv,nv,h⟩,hU,a5,hj⟩;dsimp only at h hU a5 hj ⊢;have hk:=h.k.sl;have b8:(p.long j).check.length=p.check.length+j:=by simp[PSt.long]
 have b6:(p.long j).next.length=p.check.length+j:=by simp[PSt.long,hl]
 have b7:=hk.len_le;refine zh ?_;refine zvH (RV.ld h.c3 rfl) ?_;refine zC ?_ ?_
 ·intro b0;replace b0:p.check.length+j<=slot:=dT b0;refine zh ?_;apply zv (RV.ld h.c3 rfl);apply Mu mE h.k a5 (-1) (λ_=>rfl) rfl rfl rfl (by simp[Lm]) zo zo zo zd rfl rfl;intro a9 w2 O2 a4 a1 b';obtain⟨h3,a0⟩:=h.setK a1 a4;have a2:=h.blk.U a1 zo zo;have b3:NF B O2 (w2.setCell ⟨pb,3,none⟩ a9):=a5.U a0;refine zh ?_;apply aj (j:=3) a2 rfl (Ms _) a4.one rfl rfl rfl;refine zh ?_;apply zv (RV.ld h3.c4 rfl);have h3n:iQ O2 (w2.setCell ⟨pb,3,none⟩ a9) (T+5) nv (p.long j).next:=h3.n;apply Mu mE h3n b3 (0) (λ_=>rfl) rfl rfl rfl (by simp[Lm]) zo zo zo zd rfl rfl;intro a8 w4 O4 a' a3 b9;obtain⟨h5,b2⟩:=h3.setN a3 a';have b5:=h3.blk.U a3 zo zo;refine zh ?_;apply aj (j:=4) b5 rfl (Ms _) a'.one rfl rfl rfl;refine zh ?_;have e:(p.long (j+1)) = { p.long j with check:=(p.long j).check++[-1],next:=(p.long j).next++[0] }:=by
   simp[PSt.long,Pb]
  have hP:PkO T O4 (w4.setCell ⟨pb,4,none⟩ a8) pb (p.long (j+1)):=by rw[e];exact⟨_,_,_,_,h5⟩
  refine zxd (j+1,O4,w4.setCell ⟨pb,4,none⟩ a8) ⟨hP,(hU.J a0).J b2,b3.U b2,zo⟩
 intro b1;replace b1:¬p.check.length+j<=slot:=dF b1;obtain rfl:j=slot+1-p.check.length:=zo;have hN:=h.n.sl;refine zh ?_;apply aN (λw1=>w1.cell? ⟨pb,3,none⟩=some kv/\w1.cell? ⟨pb,4,none⟩=some nv) 16 rfl zk;refine zin ⟨h.c3,h.c4⟩ λzS=>?_
 apply zrm 0 rfl zS rfl;apply zr 1 rfl zS (λ_=>ak rfl)
 apply zrf 2 rfl zS rfl;apply zt 3 rfl zS (λw1 a6=>RV.ld a6.1 rfl)
 apply zrm 4 rfl zS rfl;apply zrm 5 rfl zS rfl
 apply zr 6 rfl zS (λ_=>ak rfl);apply zrf 7 rfl zS rfl
 apply zt 8 rfl zS (λw1 a6=>RV.ld a6.2 rfl);apply zrm 9 rfl zS rfl
 apply zrm 10 rfl zS rfl;apply zrm 11 rfl zS rfl
 apply zr 12 rfl zS (λ_=>ai hk.sh L3 (LN _) rfl rfl slot rfl zo);have h2:PkR T O1 w1.drew pb (p.long (slot+1-p.check.length)) uv bv kv nv:=⟨h.blk.drew,h.u.drew,h.b.drew,h.k.drew,h.n.drew⟩
 apply Ls 13 zk rfl;apply NC h2.k slot zo row (LN _) rfl zo rfl rfl rfl rfl
 intro w2 a4 a1;have a2:=h2.blk.U a1 zo zo;refine zh ?_;apply ae ⟨a2.cell 3 rfl,a2.cell 4 rfl⟩;apply zr 14 rfl ⟨a2.cell 3 rfl,a2.cell 4 rfl⟩ (λ_=>ai hN.sh L3 (LN _) rfl rfl slot rfl zo);apply Ls 15 zk rfl;apply NC (h2.n.U a1 zo zo) slot zo entry (LN _) rfl zo rfl rfl rfl rfl;intro w3 b4 a0;have a7:=a2.U a0 zo zo;refine zh ?_;apply ae ⟨a7.cell 3 rfl,a7.cell 4 rfl⟩;apply MZ zk;have a3:M1 (kK T) O1 w1 O1 w3:=((a1.mono (by unfold kK;omega) (jd T)).J (a0.mono (by unfold kK;omega) (jd T))).ofDrew;refine aP rfl ⟨O1,⟨uv,bv,kv,nv,⟨a7,(h2.u.U a1 zo zo).U a0 zo zo,(h2.b.U a1 zo zo).U a0 zo zo,a4.U a0 zo zo,b4⟩⟩,hU.J a3,a5.U a3⟩
def qS(hF:∀(args:Array ix) (w:Lj),(callFunc F args).run M8 w=.ok (.enter F args) w)(cs:Array ix)(l:List Int)(sv:ix)(q:Nat->Bool)(w:Lj)(h:Sl (λx=>[nI x]) 1 w sv l) 
  (hq:∀i,i<l.length->∀w',Mv w w'->Nz M8 F ([nI (nth l i)]++cs.toList) w' λv w''=>v=.bool (q i)/\Mv w' w'') :
  Nz M8 159 [sv,.func (.func F) #[] cs] w λv w'=>v=nI (ey q l.length)/\Mv w w':=by
 have hl:=h.len_le;apply Ln func159 ntmps159 rfl rfl;refine zh ?_;apply zlp (λx:Nat×Lj=>[(0,sv),(1,.func (.func F) #[] cs),(7,nI l.length),(8,nI x.1)]) (λx=>x.2) (λx=>x.1<=l.length/\Mv w x.2/\∀i,i<x.1->q i=false) (λx=>l.length-x.1) (0,w) ⟨ln _,Lk _,λi hi=>absurd hi (Lo i)⟩;rintro⟨k,w1⟩ ⟨hk,hE,a1⟩;dsimp only at hk hE a1 ⊢;have h1:=h.ext hE;refine zh ?_;refine zC ?_ ?_
 ·intro a0;replace a0:k<l.length:=dT a0;refine zh ?_;apply zv (RV.ld (h1.ld a0) rfl);apply eo rfl hF rfl (hq k a0 w1 hE) rfl;rintro v w2 ⟨rfl,a3⟩;refine zh ?_;refine zC ?_ ?_
  ·intro hy;refine zh ?_;refine af rfl rfl ⟨by rw[cX a0 hy a1],hE.J a3⟩
  intro hy;refine zh ?_;refine zxd (k+1,w2) ⟨a0,hE.J a3,λi hi=>(Lp.1 hi).elim (a1 i) (λe=>by rw[e];exact hy)⟩
 intro a2;replace a2:l.length<=k:=dF a2;refine zh ?_;refine af rfl rfl ⟨by rw[cU λi hi=>a1 i zo],hE⟩
def nO(hF:∀(args:Array ix) (w:Lj),(callFunc F args).run M8 w=.ok (.enter F args) w)(cs:Array ix)(l:List Int)(sv:ix)(q:Nat->Bool)(w:Lj)(h:Sl (λx=>[nI x]) 1 w sv l) 
  (hq:∀i,i<l.length->∀w',Mv w w'->Nz M8 F ([nI (nth l i)]++cs.toList) w' λv w''=>v=.bool (q i)/\Mv w' w'') :
  Nz M8 135 [sv,.func (.func F) #[] cs] w λv w'=>v=.bool (jZ q l.length)/\Mv w w':=by
 apply Ln func135 ntmps135 rfl rfl;refine zh ?_
 apply zc call159 (qS hF cs l sv q w h hq);rintro v w1 ⟨rfl,hE⟩;refine zh ?_
 refine af rfl rfl ⟨by rw[firstN_any],hE⟩
def qQ(hF:∀(args:Array ix) (w:Lj),(callFunc F args).run M8 w=.ok (.enter F args) w)(cs:Array ix)(l:List ix)(sv:ix)(q:Nat->Bool)(w:Lj)(h:Sl (λx=>[x]) 1 w sv l) 
  (hq:∀i,i<l.length->∀w',Mv w w'->Nz M8 F ([id (nth l i)]++cs.toList) w' λv w''=>v=.bool (q i)/\Mv w' w'') :
  Nz M8 109 [sv,.func (.func F) #[] cs] w λv w'=>v=nI (ey q l.length)/\Mv w w':=by
 have hl:=h.len_le;apply Ln func109 ntmps109 rfl rfl;refine zh ?_;apply zlp (λx:Nat×Lj=>[(0,sv),(1,.func (.func F) #[] cs),(7,nI l.length),(8,nI x.1)]) (λx=>x.2) (λx=>x.1<=l.length/\Mv w x.2/\∀i,i<x.1->q i=false) (λx=>l.length-x.1) (0,w) ⟨ln _,Lk _,λi hi=>absurd hi (Lo i)⟩;rintro⟨k,w1⟩ ⟨hk,hE,a1⟩;dsimp only at hk hE a1 ⊢;have h1:=h.ext hE;refine zh ?_;refine zC ?_ ?_
 ·intro a0;replace a0:k<l.length:=dT a0;refine zh ?_;apply zv (RV.ld (h1.ld a0) rfl);apply eo rfl hF rfl (hq k a0 w1 hE) rfl;rintro v w2 ⟨rfl,a3⟩;refine zh ?_;refine zC ?_ ?_
  ·intro hy;refine zh ?_;refine af rfl rfl ⟨by rw[cX a0 hy a1],hE.J a3⟩
  intro hy;refine zh ?_;refine zxd (k+1,w2) ⟨a0,hE.J a3,λi hi=>(Lp.1 hi).elim (a1 i) (λe=>by rw[e];exact hy)⟩
 intro a2;replace a2:l.length<=k:=dF a2;refine zh ?_;refine af rfl rfl ⟨by rw[cU λi hi=>a1 i zo],hE⟩
def gY(hF:∀(args:Array ix) (w:Lj),(callFunc F args).run M8 w=.ok (.enter F args) w)(cs:Array ix)(l:List ix)(sv:ix)(q:Nat->Bool)(w:Lj)(h:Sl (λx=>[x]) 1 w sv l) 
  (hq:∀i,i<l.length->∀w',Mv w w'->Nz M8 F ([id (nth l i)]++cs.toList) w' λv w''=>v=.bool (q i)/\Mv w' w'') :
  Nz M8 66 [sv,.func (.func F) #[] cs] w λv w'=>v=.bool (jZ q l.length)/\Mv w w':=by
 apply Ln func66 ntmps66 rfl rfl;refine zh ?_
 apply zc call109 (qQ hF cs l sv q w h hq);rintro v w1 ⟨rfl,hE⟩;refine zh ?_
 refine af rfl rfl ⟨by rw[firstN_any],hE⟩
def xQ(a:Int)(b1 b2:Addr)(lo hi:Int)(w:Lj)(h1:w.cell? b1=some (nI lo))(h2:w.cell? b2=some (nI hi)):
  Nz M8 136 [nI a,.pointer (some b1),.pointer (some b2)] w λv w'=>v=.bool (decide (a<lo)||decide (hi<a))/\w=w':=by
 apply Ln func136 ntmps136 rfl rfl;refine zh ?_
 by_cases a0:a<lo
 ·apply ax (d:=8) rfl (b':=true) (decide_eq_true a0);refine zh ?_
  refine af rfl rfl ⟨by simp[a0],rfl⟩
 apply ax (d:=8) rfl (b':=false) (decide_eq_false a0);refine zh ?_
 refine af rfl rfl ⟨by simp[a0],rfl⟩
def inB(lo hi:Int)(l:List Int):Bool:=l.all λn=>decide (lo<=n)&&decide (n<=hi)
def gI(lo hi:Int)(l:List Int)(lv:ix)(w:Lj)(h:Nc w lv l):
  Nz M8 104 [lv,nI lo,nI hi] w λv w'=>v=.bool (inB lo hi l)/\Mv w w':=by
 apply Ln func104 ntmps104 rfl rfl;refine zh ?_
 apply WL.box rfl rfl;apply WL.box rfl rfl
 refine zh ?_;apply zv (eZ rfl rfl)
 have hE:Mv w ((w.alloc (.cells #[nI lo] 3)).alloc (.cells #[nI hi] 3)):=(P3 _ _).J (P3 _ _);have c2:((w.alloc (.cells #[nI lo] 3)).alloc (.cells #[nI hi] 3)).cell? ⟨w.heap.size,0,none⟩=some (nI lo):=(P3 _ _).cell (by rw[P6 _ _ _ _ rfl];rfl);have c3:((w.alloc (.cells #[nI lo] 3)).alloc (.cells #[nI hi] 3)).cell? ⟨(w.alloc (.cells #[nI lo] 3)).heap.size,0,none⟩=some (nI hi):=by rw[P6 _ _ _ _ rfl];rfl
 apply zc call135 (nO call136 _ l lv (λi=>decide (nth l i<lo)||decide (hi<nth l i)) _ (h.ext hE) (λi hi w' a0=>(xQ _ _ _ _ _ w' (a0.cell c2) (a0.cell c3)).mono λv w'' ⟨e1,e2⟩=>⟨e1,e2▸Lk _⟩));rintro v w1 ⟨rfl,a1⟩;refine zh ?_
 refine af rfl rfl ⟨?_,hE.J a1⟩;rw[jD (l:=l) (p:=λn=>decide (n<lo)||decide (hi<n)),inB,List.all_eq_not_any_not];congr 3;funext n;rw[N6];simp
def eV(row:List Int)(u:Int)(k:Nat):List Nat:=(LD k).filter λc=>nth row c != u
def bM(row:List Int)(u:Int):List Nat:=eV row u row.length
def iG(row:List Int)(u:Int)(k:Nat):eV row u (k+1)=if nth row k=u then eV row u k else eV row u k++[k]:=by
 unfold eV;rw[Nn,Pj]
 by_cases h:nth row k=u<;>simp[h]
def jx(h:c∈eV row u k):c<k:=by
 simp only[eV,N2,LL]at h;exact h.1
def sq(row:List Int)(u:Int)(k:Nat):(eV row u k).length<=k:=by
 have:=P8 (λc=>nth row c != u) (LD k);simpa[eV]using this
def dR(a1:List Int)(a0:List Nat)(b:Nat):Bool:=a0.all (kU a1 b)
def gZ(a1:List Int)(a0:List Nat):Nat:=((LD (a1.length+1)).find? (dR a1 a0)).getD 0
def jR(a1:List Int)(a0:List Nat):dR a1 a0 a1.length=true:=by
 rw[dR,M4];intro c _;simp[kU]
def xw{a1:List Int}{a0:List Nat}(hb:dR a1 a0 b=true)(a2:∀j,j<b->dR a1 a0 j=false):gZ a1 a0=b:=by
 have a3:b<=a1.length:=by
  refine Nat.le_of_not_lt λh=>?_
  have:=a2 _ h;rw[jR]at this;cases this
 have:(LD (a1.length+1)).find? (dR a1 a0)=some b:=by
  rw[NY];exact⟨hb,LL.2 zo,λj hj=>by simp[a2 j hj]⟩
 rw[gZ,this];rfl
def iH(a1:List Int)(a0:List Nat):dR a1 a0 (gZ a1 a0)=true/\gZ a1 a0<=a1.length/\∀j,j<gZ a1 a0->dR a1 a0 j=false:=by
 have:∃b,(LD (a1.length+1)).find? (dR a1 a0)=some b:=by
  cases hf:(LD (a1.length+1)).find? (dR a1 a0)with
  |some j=>exact⟨j,rfl⟩
  |none=>rw[List.find?_eq_none]at hf;exact absurd (jR a1 a0) (hf _ (LL.2 zo))
 obtain⟨b,hb⟩:=this;have h2:=hb;rw[NY]at h2;have h3:=LL.1 h2.2.1;rw[gZ,hb];exact⟨h2.1,by simpa using(by omega:b<=a1.length),λj hj=>by simpa using h2.2.2 j hj⟩
def PSt.lay(p:PSt)(row:List Int):PSt:=
 let u:=bN row
 let a0:=bM row u
 let b:=gZ p.check a0
 let q:=a0.foldl (λq c=>q.take (b+c) p.base.length (nth row c)) p
 { q with usual:=q.usual++[u],base:=q.base++[(b:Int)] }
def oE{p:PSt}{s:Nat}{r e:Int}(h:p.next.length=p.check.length):(p.take s r e).next.length=(p.take s r e).check.length:=by simp[PSt.take,PSt.long,h]
def AZ(T:Nat)(i:Nat):Prop:=T+1<=i/\i<=T+6
def vl(T:Nat):¬AZ T 0:=by unfold AZ;omega
abbrev LP(O:Nat->Nat)(w:Lj)(i:Nat)(v:ix)(l:List Nat):Prop:=Nl (fun(x:Nat)=>[nI (x:Int)]) 3 1 O w i v l
def yr(T pb:Nat)(p:PSt)(row:List Int)(rv:ix)(B:Nat)(O:Nat->Nat)(w:Lj)(hp:PkO T O w pb p)(hR:NF B O w)
  (a3:∀w',RowKit.Below B w w'->Nc w' rv row) (e3:0<row.length) (hw:row.length<=64) (hl:p.next.length=p.check.length) (g2:p.check.length<=100000)
  (d':p.usual.length<=100000) (e7:p.base.length<=100000) :
  Nz M8 105 [nP pb,rv] w fun _ w'=>∃O',PkO T O' w' pb (p.lay row)/\M1 (AZ T) O w O' w'/\NF B O' w':=by
 have f':=(a3 w (NV _ _)).len_le;refine Ln func105 ntmps105 rfl rfl ?_;refine zg ?_;refine zc call137 (Cg row rv w (a3 w (NV _ _)) e3) ?_;rintro v w1 ⟨rfl,d5⟩;have b8:M1 (AZ T) O w O w1:=aa (vl T) O d5;have g6:=hR.U b8;have e2:PkO T O w1 pb p:=hp.U (aa (S:=fun _=>False) (fun h=>h) O d5) (fun _ _ h=>h);generalize hu:bN row=u;refine zg ?_;refine zvG (MX (by first|exact a3 _ (b8.below hR)) L3 rfl) ?_;refine zlp (fun x:Nat×(Nat->Nat)×World×ix=>[(0,nP pb),(1,rv),(4,nI u),(5,x.2.2.2),(13,rv),(14,nI row.length),(15,nI x.1)]) (fun x=>x.2.2.1) (fun x=>x.1<=row.length/\PkO T x.2.1 x.2.2.1 pb p/\LP x.2.1 x.2.2.1 (T+6) x.2.2.2 (eV row u x.1)/\M1 (AZ T) O w x.2.1 x.2.2.1) (fun x=>row.length-x.1) (0,O,w1,nS) (⟨ln _,e2,LU _ _ _ _ _ _,b8⟩) ?_;rintro⟨k,O2,w2,cv⟩ ⟨hk,b2,a4,a9⟩;dsimp only at hk b2 a4 a9 ⊢;have f6:=hR.U a9;have c7:=a3 w2 (a9.below hR);refine zg ?_;refine zC ?_ ?_
 ·intro a1;replace a1:k<row.length:=by have:=of_decide_eq_true a1;omega
  have g1:=sq row u k;refine zg ?_;refine zv (M6 (by first|exact c7) L3 (LN _) rfl rfl _ rfl zo) ?_;refine zvG (RV.ld (c7.ld zo) rfl) ?_;refine zC ?_ ?_
  ·intro a6;replace a6:nth row k≠u:=by simpa using a6
   refine zg ?_;refine Mu mE a4 f6 (k) (fun _=>rfl) rfl rfl rfl (by simp[Lm]) zo zo zo zd rfl rfl ?_
   intro f7 w3 O3 b7 d4 g5;refine zg ?_;refine zvG (NM rfl rfl (Nq zo)) ?_;refine zxd (k+1,O3,w3,f7) (⟨a1,b2.U d4 (by unfold kK;omega),by dsimp only;rw[iG,am a6];exact b7,a9.J (d4.mono (by unfold AZ;omega) (vl T))⟩)
  intro b6;replace b6:nth row k=u:=by simpa using b6
  refine zg ?_;refine zvG (NM rfl rfl (Nq zo)) ?_
  refine zxd (k+1,O2,w2,cv) (⟨a1,b2,by dsimp only;rw[iG,ap b6];exact a4,a9⟩)
 intro b5;obtain rfl:k=row.length:=by have:=of_decide_eq_false b5;omega
 obtain⟨uv,bv,kv,nv,h⟩:=b2;have a5:∀c∈bM row u,c<=64:=fun c hc=>by have:=jx hc;omega
 replace a4:LP O2 w2 (T+6) cv (bM row u):=a4;refine zg ?_;refine zlp (fun b:Nat=>[(0,nP pb),(1,rv),(4,nI u),(5,cv),(8,nI b)]) (fun b=>w2) (fun b=>b<=p.check.length/\∀j,j<b->dR p.check (bM row u) j=false) (fun b=>p.check.length-b) 0 (⟨ln _,fun j hj=>absurd hj (Lo j)⟩) ?_;intro b ⟨hb,c'⟩;refine zg ?_;refine zc call138 (Bk pb cv kv (bM row u) p.check b w2 h.c3 h.k.sl a4.sl a5 zo) ?_;rintro v _ ⟨rfl,rfl⟩;refine zg ?_;refine zC ?_ ?_
 ·intro a2;replace a2:dR p.check (bM row u) b=false:=by rw[Ni]at a2;exact a2
  have a1:b<p.check.length:=by
   refine Pr hb fun e=>?_
   rw[e,jR]at a2;cases a2
  refine zg ?_;refine zvG (NM rfl rfl (Nq zo)) ?_
  refine zxd (b+1) (⟨a1,fun j hj=>(Lp.1 hj).elim (c' j) (fun e=>by rw[e];exact a2)⟩)
 intro a0;replace a0:dR p.check (bM row u) b=true:=by rw[Bool.not_eq_false']at a0;exact a0
 have a':=xw a0 c';have e5:=a4.sl;refine zg ?_;refine zvG (MX (by first|exact e5) L3 rfl) ?_;refine zlp (fun x:Nat×(Nat->Nat)×World=>[(0,nP pb),(1,rv),(4,nI u),(5,cv),(8,nI b),(35,cv),(36,nI (bM row u).length),(37,nI x.1)]) (fun x=>x.2.2) (fun x=>x.1<=(bM row u).length/\LP x.2.1 x.2.2 (T+6) cv (bM row u)/\M1 (AZ T) O w x.2.1 x.2.2/\(∃q:PSt,q=((bM row u).take x.1).foldl (fun q c=>q.take (b+c) p.base.length (nth row c)) p/\PkO T x.2.1 x.2.2 pb q/\q.base=p.base/\q.usual=p.usual/\q.next.length=q.check.length)) (fun x=>(bM row u).length-x.1) (0,O2,w2) (⟨ln _,a4,a9,p,rfl,⟨uv,bv,kv,nv,h⟩,rfl,rfl,hl⟩) ?_;rintro⟨k,O4,w4⟩ ⟨e4,a7,b1,q,hq,⟨d7,d6,d9,d8,h4⟩,b4,c8,c9⟩;dsimp only at e4 a7 b1 hq h4 ⊢;have b9:=hR.U b1;have c6:=a3 w4 (b1.below hR);have a8:=a7.sl;have e':=h4.b.sl;have g0:=a8.len_le;refine zg ?_;refine zC ?_ ?_
 ·intro a1;replace a1:k<(bM row u).length:=by have:=of_decide_eq_true a1;omega
  have e6:=a5 _ (aJ a1);have d0:=jx (aJ a1);refine zg ?_;refine zv (M6 (by first|exact a8) L3 (LN _) rfl rfl _ rfl zo) ?_;refine zvG (RV.ld (a8.ld zo) rfl) ?_;refine PE 13 rfl rfl zk zk ?_;refine zg ?_;refine zwG (NM rfl rfl (Nq zo)) ?_;refine zw (RV.ld h4.c2 rfl) ?_;refine zwG (MX ((e').drew) L3 rfl) ?_;refine zw (M6 c6.drew L3 (LN _) rfl rfl (nth (bM row u) k) rfl d0) ?_;refine zw (RV.ld (c6.ld d0) rfl) ?_;refine dX ?_;have e1:PkO T O4 w4.drew pb q:=⟨d7,d6,d9,d8,h4.blk.drew,h4.u.drew,h4.b.drew,h4.k.drew,h4.n.drew⟩
  rw[show(q.base.length:Int)=(p.base.length:Int)from by rw[b4]];refine zc call139 (FZ T pb q (b+nth (bM row u) k) p.base.length (nth row (nth (bM row u) k)) B O4 w4.drew e1 b9.drew zo c9) ?_;rintro v w5 ⟨O5,e0,b0,f5⟩;have b3:M1 (AZ T) O4 w4 O5 w5:=(b0.mono (fun i hi=>by unfold kK at hi;unfold AZ;omega) (vl T)).ofDrew;refine zg ?_;refine zvG (NM rfl rfl (Nq zo)) ?_;refine zxd (k+1,O5,w5) (⟨a1,a7.drew.U b0 zo (by unfold kK;omega),b1.J b3,_,?_,e0,b4,c8,oE c9⟩);rw[aG a1,Ly,<-hq];rfl
 intro b5;obtain rfl:k=(bM row u).length:=by have:=of_decide_eq_false b5;omega
 rw[Ll]at hq;refine zg ?_;refine zvG (RV.ld h4.c1 rfl) ?_;have f9:q.usual.length<=100000:=by rw[c8];exact d'
 refine Mu mE h4.u b9 (u) (fun _=>rfl) rfl rfl rfl (by simp[Lm]) zo zo zo zd rfl rfl ?_;intro b' w5 O5 c5 b0 f5;obtain⟨h5,b3⟩:=h4.setU b0 c5;have e9:=h4.blk.U b0 zo zo;have f4:NF B O5 (w5.setCell ⟨pb,1,none⟩ b'):=b9.U b3;refine zg ?_
 refine aj (j:=1) e9 rfl (Ms _) c5.one rfl rfl rfl ?_;refine zg ?_
 refine zvG (RV.ld h5.c2 rfl) ?_;have h5b:iQ O5 (w5.setCell ⟨pb,1,none⟩ b') (T+3) d6 q.base:=h5.b;have g3:q.base.length<=100000:=by rw[b4];exact e7
 refine Mu mE h5b f4 (b) (fun _=>rfl) rfl rfl rfl (by simp[Lm]) zo zo zo zd rfl rfl ?_;intro f8 w6 O6 d1 d3 g4;obtain⟨h6,f3⟩:=h5.setB d3 d1;have e8:=h5.blk.U d3 zo zo;refine zg ?_
 refine aj (j:=2) e8 rfl (Ms _) d1.one rfl rfl rfl ?_;refine zg ?_
 have d2:M1 (AZ T) O w O6 (w6.setCell ⟨pb,2,none⟩ f8):=(b1.J (b3.mono (fun i hi=>by unfold kK at hi;unfold AZ;omega) (vl T))).J (f3.mono (fun i hi=>by unfold kK at hi;unfold AZ;omega) (vl T));refine aP rfl (⟨O6,?_,d2,hR.U d2⟩);have e:p.lay row = { q with usual:=q.usual++[u],base:=q.base++[(b:Int)] }:=by simp only[PSt.lay,hu];rw[a',<-hq]
 rw[e];exact⟨_,_,_,_,h6⟩
def Kp:cC M8 30 #[(0,1),(1,1),(2,1),(3,1),(4,1)]:=⟨_,underlying30,λw=>by kernel_rfl⟩
def Rows(w:Lj)(v:ix)(L:List (List Int)):Prop:=
 ∃rvs:List ix,Sl (λx=>[x]) 1 w v rvs/\rvs.length=L.length/\∀i,i<L.length->Nc w (nth rvs i) (nth L i)
def Rows.ext{w w':Lj}{v:ix}{L:List (List Int)}(h:Rows w v L)(e:Mv w w'):Rows w' v L:=by
 obtain⟨a0,h1,h2,h3⟩:=h;exact⟨a0,h1.ext e,h2,λi hi=>(h3 i hi).ext e⟩
def jC(a0:Int)(row:List Int):Bool:=(row.length:Int) != a0 || !(inB 0 65535 row)
def JB(a0:Int)(row:List Int)(rv:ix)(b:Addr)(w:Lj)(h:Nc w rv row)(hb:w.cell? b=some (nI a0)):
  Nz M8 103 [rv,.pointer (some b)] w λv w'=>v=.bool (jC a0 row)/\Mv w w':=by
 apply Ln func103 ntmps103 rfl rfl;refine zh ?_
 by_cases hl:(row.length:Int)=a0
 ·apply ax (d:=8) rfl (b':=false) (by simpa using hl);refine zh ?_
  apply zc Pp (gI 0 65535 row rv w h);rintro v w1 ⟨rfl,hE⟩;refine zh ?_
  refine af rfl rfl ⟨by simp[jC,hl],hE⟩
 apply ax (d:=8) rfl (b':=true) (by simpa using hl);refine zh ?_
 refine af rfl rfl ⟨by simp[jC,hl],Lk _⟩
def cp(a0:Int)(L:List (List Int)):Bool:=decide (a0<1)||decide (64<a0)||decide (1000<L.length)||L.any (jC a0)
def jc(a0:Int)(L:List (List Int)):PSt:=L.foldl PSt.lay ⟨a0,[],[],[],[]⟩
def PkV(w:Lj)(v:ix)(p:PSt):Prop:=
 ∃uv bv kv nv,v=.agg #[nI p.width,uv,bv,kv,nv]/\Nc w uv p.usual/\Nc w bv p.base/\Nc w kv p.check/\Nc w nv p.next
def PkV.ext{w w':Lj}{v:ix}{p:PSt}(h:PkV w v p)(e:Mv w w'):PkV w' v p:=by
 obtain⟨uv,bv,kv,nv,h0,h1,h2,h3,h4⟩:=h;exact⟨uv,bv,kv,nv,h0,h1.ext e,h2.ext e,h3.ext e,h4.ext e⟩
def uo(p:PSt)(s:Nat)(r e:Int):(p.take s r e).check.length=max p.check.length (s+1)/\(p.take s r e).usual=p.usual/\(p.take s r e).base=p.base/\(p.take s r e).width=p.width:=by
 simp[PSt.take,PSt.long];omega
def mA(f:Nat->Int)(b:Nat)(r:Int):∀(a0:List Nat) (p:PSt),(∀c∈a0,c<64)->p.next.length=p.check.length->
  let q:=a0.foldl (λq c=>q.take (b+c) r (f c)) p
  q.check.length<=max p.check.length (b+64)/\q.usual=p.usual/\q.base=p.base/\q.width=p.width/\q.next.length=q.check.length
 |[],p,_,hl=>⟨by simp;omega,rfl,rfl,rfl,hl⟩
 |c::a0,p,hc,hl=>by
  have h:=mA f b r a0 (p.take (b+c) r (f c)) (λx hx=>hc x (by simp[hx])) (oE hl);obtain⟨t1,t2,t3,t4⟩:=uo p (b+c) r (f c);have:=hc c (by simp);simp only[Lr]at h ⊢;rw[t1,t2,t3,t4]at h;exact⟨zo,h.2⟩
def gq(p:PSt)(row:List Int)(hw:row.length<=64)(hl:p.next.length=p.check.length):
  (p.lay row).check.length<=p.check.length+64/\(p.lay row).usual=p.usual++[bN row]/\(p.lay row).base.length=p.base.length+1/\(p.lay row).width=p.width/\(p.lay row).next.length=(p.lay row).check.length:=by
 have hb:=(iH p.check (bM row (bN row))).2.1;obtain⟨h1,h2,h3,h4,h5⟩:=mA (λc=>nth row c) (gZ p.check (bM row (bN row))) p.base.length (bM row (bN row)) p (λc hc=>by have:=jx hc;omega) hl;refine⟨?_,?_,?_,h4,h5⟩
 ·simp only[PSt.lay];omega
 ·simp only[PSt.lay];rw[h2]
 simp only[PSt.lay];rw[h3];simp
def PkF(B:Nat)(v:ix):Prop:=∃wd uv bv kv nv,v=.agg #[wd,uv,bv,kv,nv]/\P7 B uv/\P7 B bv/\P7 B kv/\P7 B nv
def pH(width:Int)(L:List (List Int))(rv:ix)(w:Lj)(h:Rows w rv L):
  Nz M8 60 [nI width,rv] w λv w'=>∃pv e,v=.tuple #[pv,nI e]/\PkV w' pv (if cp width L then⟨0,[],[],[],[]⟩else jc width L)/\e=(if cp width L then 1 else 0)/\Mv w w'/\(cp width L=false->PkF w.heap.size pv):=by
 obtain⟨a4,hr,b1,c6⟩:=h;have f5:=hr.len_le;apply Ln func60 ntmps60 rfl rfl;refine zh ?_;apply aI (aw w) 1 zo rfl rfl;intro bw w1 O1 e0 e1 e7 f3;apply au e7 2 zo (N9 _) rfl;intro br w2 O2 a1 d3 e6 e';have a':=e0.U d3 zd zd;have cw:∀w',Mv w2 w'->w'.cell? ⟨bw,0,none⟩=some (nI width):=λw' e=>e.cell (a'.cell 0 rfl)
 have hE:=f3.J e';have hU:=(e1.mono (S':=λj=>1<=j/\j<=16) zo zo).J (d3.mono zo zo);have d5:=hr.ext hE;refine zh ?_;refine zvH (eZ rfl rfl) ?_;refine zvH (RV.ld (cw _ (Lk _)) rfl) ?_;have b4:∀(w3:Lj),Mv w w3->cp width L=true->
   ∃pv e,Value.tuple #[.agg #[nI 0,nS,nS,nS,nS],nI 1]=.tuple #[pv,nI e]/\PkV w3 pv (if cp width L then⟨0,[],[],[],[]⟩else jc width L)/\e=(if cp width L then 1 else 0)/\Mv w w3/\(cp width L=false->PkF w.heap.size pv):=by
  intro w3 he hb;rw[hb];exact⟨_,_,rfl,⟨_,_,_,_,rfl,(LU _ 3 _ (λ_=>0) w3 1).sl,(LU _ 3 _ (λ_=>0) w3 1).sl,(LU _ 3 _ (λ_=>0) w3 1).sl,(LU _ 3 _ (λ_=>0) w3 1).sl⟩,rfl,he,λh=>absurd h zd⟩
 by_cases h1:width<1
 ·apply ax (d:=13) rfl (b':=true) (decide_eq_true h1);refine zh ?_
  refine zTH rfl rfl ?_;apply zv (aH Kp (N9 _) rfl (by first|rfl|(simp only[Li,Lz];rfl)) rfl rfl)
  apply bQ a1 rfl (MJ _) rfl rfl rfl rfl;refine zh ?_
  refine bz rfl rfl rfl ((a1.setRow).V) (NQ _) (MJ _) (b4 _ (hU.J (Lq zo a1.tag zo)).ext (by simp[cp,h1]))
 apply ax (d:=13) rfl (b':=false) (decide_eq_false h1);refine zh ?_
 refine zvH (RV.ld (cw _ (Lk _)) rfl) ?_
 by_cases h2:64<width
 ·apply ax (d:=17) rfl (b':=true) (decide_eq_true h2);refine zh ?_
  refine zTH rfl rfl ?_;apply zv (aH Kp (N9 _) rfl (by first|rfl|(simp only[Li,Lz];rfl)) rfl rfl)
  apply bQ a1 rfl (MJ _) rfl rfl rfl rfl;refine zh ?_
  refine bz rfl rfl rfl ((a1.setRow).V) (NQ _) (MJ _) (b4 _ (hU.J (Lq zo a1.tag zo)).ext (by simp[cp,h2]))
 apply ax (d:=17) rfl (b':=false) (decide_eq_false h2);refine zh ?_
 by_cases h3:1000<L.length
 ·apply ax (d:=22) rfl (b':=true) (by rw[b1];exact decide_eq_true zo);refine zh ?_
  refine zTH rfl rfl ?_;apply zv (aH Kp (N9 _) rfl (by first|rfl|(simp only[Li,Lz];rfl)) rfl rfl)
  apply bQ a1 rfl (MJ _) rfl rfl rfl rfl;refine zh ?_
  refine bz rfl rfl rfl ((a1.setRow).V) (NQ _) (MJ _) (b4 _ (hU.J (Lq zo a1.tag zo)).ext (by simp[cp,h3]))
 apply ax (d:=22) rfl (b':=false) (by rw[b1];exact decide_eq_false zo);refine zh ?_
 apply zc call66 (gY call103 _ a4 rv (λi=>jC width (nth L i)) _ d5 (λi hi w' c5=>JB width (nth L i) (nth a4 i) _ w' (((c6 i zo).ext hE).ext c5) (cw w' c5)));rintro v w3 ⟨rfl,b3⟩;rw[b1,jD (p:=jC width)];have a2:=a1.U (aa (S:=λ_=>False) (λh=>h) O2 b3) zd (λh=>h);have b6:=a'.U (aa (S:=λ_=>False) (λh=>h) O2 b3) zd (λh=>h);have d2:=hU.J (aa zo O2 b3);refine zh ?_
 refine zC ?_ ?_
 ·intro a3;refine zh ?_;apply zv (aH Kp (N9 _) rfl (by first|rfl|(simp only[Li,Lz];rfl)) rfl rfl);apply bQ a2 rfl (MJ _) rfl rfl rfl rfl;refine zh ?_;refine bz rfl rfl rfl ((a2.setRow).V) (NQ _) (MJ _) (b4 _ (d2.J (Lq zo a2.tag zo)).ext (by simp only[cp,a3];simp))
 intro a5;have a3:cp width L=false:=by simp only[cp,a5];simp[h1,h2,h3]
 have e5:=e6.ext b3;refine zh ?_;apply zv (RV.ld (b6.cell 0 rfl) rfl);apply zv (aH Kp (N9 _) rfl (by first|rfl|(simp only[Li,Lz];rfl)) rfl rfl);apply au e5 11 zo (N9 _) rfl;intro pb w4 O4 b2 d1 e4 f6;apply zsa (us:=#[nI width,nS,nS,nS,nS]) b2 (MJ _);have d0:M1 (λj=>1<=j/\j<=16) O4 w4 O4 (w4.setRow pb #[nI width,nS,nS,nS,nS]):=Lq zo b2.tag zo;have b8:MN O4 (w4.setRow pb #[nI width,nS,nS,nS,nS]) 2 br _ 30:=(a2.U d1 zd zd).U (Lq (S:=λj=>j=11) zd b2.tag rfl) zd zd;have e9:PkO 10 O4 (w4.setRow pb #[nI width,nS,nS,nS,nS]) pb ⟨width,[],[],[],[]⟩:=⟨_,_,_,_,b2.setRow,LU _ _ _ _ _ _,LU _ _ _ _ _ _,LU _ _ _ _ _ _,LU _ _ _ _ _ _⟩
 have c':=(d2.J (d1.mono (S':=λj=>1<=j/\j<=16) zo zo)).J d0;have e3:=e4.U d0;generalize w4.setRow pb #[nI width,nS,nS,nS,nS]=w5 at *;have f4:1<=width/\width<=64/\L.length<=1000:=zo;have a9:∀i,i<L.length->((nth L i).length:Int)=width:=λi hi=>by
  have:=Mt.1 a5 _ (aJ hi);simp only[jC,Nr,not_or,bne_iff_ne,ne_eq,P4]at this;exact this.1
 refine zh ?_;refine zvH (MX (by first|exact hr.ext c'.ext) MD rfl) ?_
 apply zlp (λx:Nat×(Nat->Nat)×World=>[(1,rv),(4,nP br),(7,nP pb),(30,rv),(31,nI a4.length),(32,nI x.1)]) (λx=>x.2.2) (λx=>x.1<=a4.length/\MN x.2.1 x.2.2 2 br #[nI 0,nS,nS,nS,nS] 30/\NF w.heap.size x.2.1 x.2.2/\M1 (λj=>1<=j/\j<=16) (λ_=>0) w x.2.1 x.2.2/\(∃q,q=(L.take x.1).foldl PSt.lay ⟨width,[],[],[],[]⟩/\PkO 10 x.2.1 x.2.2 pb q/\q.check.length<=64*x.1/\q.usual.length=x.1/\q.base.length=x.1/\q.next.length=q.check.length)) (λx=>a4.length-x.1) (0,O4,w5) ⟨ln _,b8,e3,c',_,rfl,e9,by simp,rfl,rfl,rfl⟩;rintro⟨k,O7,w7⟩ ⟨hk,a0,a8,b0,q,hq,b9,d7,c7,d8,c8⟩;dsimp only at hk a0 a8 b0 hq b9 d7 c7 d8 ⊢;have d4:=hr.ext b0.ext;refine zh ?_
 refine zC ?_ ?_
 ·intro b5;replace b5:k<a4.length:=dT b5;have a6:k<L.length:=zo;have d9:=a9 k a6;refine zh ?_;refine zvH (RV.ld (d4.ld zo) rfl) ?_;apply zc call105 (yr 10 pb q (nth L k) (nth a4 k) w.heap.size O7 w7 b9 a8 (λw' hB=>(c6 k a6).ext (PV b0.ext hB)) zo zo c8 zo zo zo);rintro v w8 ⟨O8,e8,c9,e2⟩;have b7:=a0.U c9 zd (by unfold AZ;omega);obtain⟨l1,l2,l3,l4,l5⟩:=gq q (nth L k) zo c8;refine zh ?_;refine zxd (k+1,O8,w8) ⟨b5,b7,e2,b0.J (c9.mono (by unfold AZ;omega) zo),_,?_,e8,zo,by rw[l2];simp[c7],zo,l5⟩;rw[aG a6,Ly,<-hq];rfl
 intro d';obtain rfl:k=a4.length:=by have:=of_decide_eq_false d';omega
 rw[b1,Ll]at hq;obtain⟨uv,bv,kv,nv,h7⟩:=b9;refine zh ?_;apply zv (ah h7.blk.V (NQ _) (MJ _) rfl);apply zsb (us:=#[nI q.width,uv,bv,kv,nv]) a0 (MJ _) (by simp only[Li,h7.u.one,h7.b.one,h7.k.one,h7.n.one];rfl);have a7:M1 (λj=>j=2) O7 w7 O7 (w7.setRow br #[nI q.width,uv,bv,kv,nv]):=Lq zd a0.tag rfl;have h9:=h7.U a7 (by unfold kK;omega);have d6:jc width L=q:=hq.symm;refine zh ?_;refine bz rfl rfl rfl ((a0.setRow).V) (NQ _) (MJ _) ⟨_,_,rfl,⟨uv,bv,kv,nv,?_,?_,?_,?_,?_⟩,by rw[a3];rfl,(b0.J (a7.mono zo zo)).ext,λ_=>⟨_,uv,bv,kv,nv,rfl,h9.u.newV zd (a8.U a7),h9.b.newV zd (a8.U a7),h9.k.newV zd (a8.U a7),h9.n.newV zd (a8.U a7)⟩⟩
 all_goals rw[a3,am Nb,d6]
 ·exact h9.u.sl
 ·exact h9.b.sl
 ·exact h9.k.sl
 exact h9.n.sl
def yP(n:Int):Bool:=decide (0<=n)
def fF(l:List Int):Nat:=l.countP yP
def AK(row:List Int)(u:Int):Nat:=row.countP λn=>n != u
def nj(L:List (List Int))(us:List Int)(i:Nat):Nat:=((LD i).map λj=>AK (nth L j) (nth us j)).sum
def vm(L:List (List Int))(us:List Int)(i:Nat):nj L us (i+1)=nj L us i+AK (nth L i) (nth us i):=by
 simp[nj,Nn]
def BR(row:List Int)(u:Int):(bM row u).length=AK row u:=by
 have a0:∀k,k<=row.length->(eV row u k).length=(row.take k).countP (λn=>n != u):=by
  intro k
  induction k with
  |zero=>intro _;rfl
  |succ k ih=>
   intro hk;rw[iG,aG zo,Pk];have:=ih zo
   by_cases h:nth row k=u
   ·rw[ap h,this];simp[h]
   rw[am h,M0,this];simp[h]
 have:=a0 row.length (MG _)
 rwa[Ll]at this
def sf(a0:List Int)(s:Nat):Prop:=a0.length<=s\/nth a0 s = -1
def DH:kU a0 b c=true↔sf a0 (b+c):=by
 simp only[kU,sf,Ni,P9,decide_eq_false_iff_not]
 constructor
 ·rintro(h|h)
  ·exact .inl zo
  exact .inr (by simpa using h)
 rintro(h|h)
 ·exact .inl zo
 exact .inr (by simpa using h)
def A3{s:Nat}{r:Int}(hs:s<l.length)(hf:nth l s = -1)(hr:0<=r):fF (l.set s r)=fF l+1:=by
 induction l generalizing s with
 |nil=>simp at hs
 |cons a l ih=>
  cases s with
  |zero=>rw[ao]at hf;subst hf;simp[fF,yP,hr]
  |succ s=>
   rw[aW]at hf;have:=ih (by simpa using hs) hf;simp only[fF,Pi,List.countP_cons]at this ⊢;omega
def xT(l:List Int)(j:Nat):fF (l++ka j (-1))=fF l:=by
 simp only[fF,Pk];have:(ka j (-1:Int)).countP yP=0:=by rw[List.countP_eq_zero];intro a ha;rw[Nj ha];decide
 omega
def Cs(p:PSt)(s:Nat)(r e:Int)(hf:sf p.check s)(hr:0<=r):
  fF (p.take s r e).check=fF p.check+1/\(∀t,t≠s->sf p.check t->sf (p.take s r e).check t)/\
  ((p.check=[]\/0<=nth p.check (p.check.length-1))->(0<=nth (p.take s r e).check ((p.take s r e).check.length-1))):=by
 have a2:(p.check++ka (s+1-p.check.length) (-1:Int)).length=max p.check.length (s+1):=by simp;omega
 have a0:s<(p.check++ka (s+1-p.check.length) (-1:Int)).length:=zo;have a1:∀j i,nth (ka j (-1:Int)) i = -1\/j<=i:=fun j i=>by
  by_cases h:i<j
  ·left;rw[aB (by simpa using h)];simp
  right;omega
 have hs:nth (p.check++ka (s+1-p.check.length) (-1:Int)) s = -1:=by
  rw[az]
  split
  ·rename_i h;rcases hf with h2|h2
   ·omega
   exact h2
  rename_i h;exact(a1 _ _).resolve_right zo
 have hc:(p.take s r e).check=(p.check++ka (s+1-p.check.length) (-1)).set s r:=rfl;refine⟨?_,fun t ht a3=>?_,fun hl=>?_⟩
 ·rw[hc,A3 a0 hs hr,xT]
 ·rw[hc]
  rcases a3 with h|h
  ·by_cases h2:(p.check++ka (s+1-p.check.length) (-1:Int)).length<=t
   ·exact .inl (by simpa using h2)
   refine .inr ?_;rw[bm a0,am ht,az,am zo];exact(a1 _ _).resolve_right zo
  by_cases h2:t<p.check.length
  ·refine .inr ?_;rw[bm a0,am ht,az,ap h2,h]
  by_cases h3:(p.check++ka (s+1-p.check.length) (-1:Int)).length<=t
  ·exact .inl (by simpa using h3)
  refine .inr ?_;rw[bm a0,am ht,az,am zo];exact(a1 _ _).resolve_right zo
 rw[hc,bm a0,N4,a2]
 split
 ·exact hr
 rename_i hne;have h3:s+1<=p.check.length:=zo;rw[az,ap zo,show max p.check.length (s+1)-1=p.check.length-1 from by omega]
 rcases hl with h|h
 ·rw[h]at h3;simp at h3
 exact h
def vV(f:Nat->Int)(b:Nat)(r:Int)(hr:0<=r):∀(a0:List Nat) (p:PSt),a0.Nodup->(∀c∈a0,sf p.check (b+c))->
  let q:=a0.foldl (λq c=>q.take (b+c) r (f c)) p
  fF q.check=fF p.check+a0.length/\((p.check=[]\/0<=nth p.check (p.check.length-1))->(q.check=[]\/0<=nth q.check (q.check.length-1)))
 |[],p,_,_=>⟨by simp,λh=>h⟩
 |c::a0,p,hnd,hf=>by
  obtain⟨hc,a1⟩:=NO.1 hnd;obtain⟨h1,h2,h3⟩:=Cs p (b+c) r (f c) (hf c (by simp)) hr;obtain⟨g1,g2⟩:=vV f b r hr a0 (p.take (b+c) r (f c)) a1 (λx hx=>h2 (b+x) (λe=>hc ((by omega:x=c)▸hx)) (hf x (by simp[hx])));refine⟨?_,λh=>?_⟩
  ·simp only[Lr,MU];rw[g1,h1];omega
  simp only[Lr];exact g2 (.inr (h3 h))
def oq(row:List Int)(u:Int):(bM row u).Nodup:=Q4 List.filter_sublist Pw
def Gy(p:PSt)(row:List Int):fF (p.lay row).check=fF p.check+AK row (bN row)/\
  ((p.check=[]\/0<=nth p.check (p.check.length-1))->((p.lay row).check=[]\/0<=nth (p.lay row).check ((p.lay row).check.length-1))):=by
 have a0:=(iH p.check (bM row (bN row))).1;rw[dR,M4]at a0;have:=vV (λc=>nth row c) (gZ p.check (bM row (bN row))) p.base.length zo (bM row (bN row)) p (oq _ _) (λc hc=>DH.1 (a0 c hc));rw[BR]at this;exact this
def nh(width:Int)(L:List (List Int))(hw:∀r∈L,r.length<=64):
  let q:=jc width L
  q.usual=L.map bN/\q.base.length=L.length/\q.next.length=q.check.length/\q.check.length<=64*L.length/\q.width=width/\fF q.check=nj L q.usual L.length/\(q.check=[]\/0<=nth q.check (q.check.length-1)):=by
 have a1:∀k,k<=L.length->let q:=(L.take k).foldl PSt.lay ⟨width,[],[],[],[]⟩
   q.usual=(L.take k).map bN/\q.base.length=k/\q.next.length=q.check.length/\q.check.length<=64*k/\q.width=width/\fF q.check=nj L ((L.take k).map bN) k/\(q.check=[]\/0<=nth q.check (q.check.length-1)):=by
  intro k
  induction k with
  |zero=>intro _;exact⟨rfl,rfl,rfl,by simp,rfl,rfl,.inl rfl⟩
  |succ k ih=>
   intro hk;obtain⟨h1,h2,h3,h4,h5,h6,h7⟩:=ih zo;generalize hq:(L.take k).foldl PSt.lay ⟨width,[],[],[],[]⟩=q at *;obtain⟨l1,l2,l3,l4,l5⟩:=gq q (nth L k) (hw _ (aJ zo)) h3;obtain⟨u1,u2⟩:=Gy q (nth L k);rw[aG zo,Ly,hq,Mz];simp only[Lr,MO,NX,P1];refine⟨by rw[l2,h1],zo,l5,zo,by rw[l4,h5],?_,u2 h7⟩;rw[u1,h6,vm];have a0:((L.take k).map bN).length=k:=by simp;omega
   congr 1
   ·simp only[nj];congr 1;refine List.map_congr_left λj hj=>?_
    have:=LL.1 hj;rw[az,ap zo]
   rw[az,am zo,a0,MR,ao]
 have:=a1 L.length (MG _);rw[Ll]at this;obtain⟨h1,h2,h3,h4,h5,h6,h7⟩:=this;exact⟨h1,h2,h3,h4,h5,by rw[jc,h1];exact h6,h7⟩
def kZ(row:List Int)(s:Int×Nat)(n:Int):Int×Nat:=if s.2<row.count n\/(row.count n=s.2/\n<s.1)then(n,row.count n)else s
def eX(row:List Int)(i:Nat):Int×Nat:=(row.take i).foldl (kZ row) (0,0)
def ze(row:List Int)(i:Nat)(hi:i<row.length):eX row (i+1)=kZ row (eX row i) (nth row i):=by
 simp only[eX];rw[aG hi,Ly];rfl
def sE(row:List Int):∀(l:List Int) (b:Int),l.foldl (kZ row) (b,row.count b)=(l.foldl (gK row) b,row.count (l.foldl (gK row) b))
 |[],b=>rfl
 |n::l,b=>by
  simp only[Lr];have:kZ row (b,row.count b) n=(gK row b n,row.count (gK row b n)):=by
   by_cases h:row.count b<row.count n\/(row.count n=row.count b/\n<b)
   ·rw[kZ,gK,ap h,ap (by simp only[cnt];omega)]
   rw[kZ,gK,am h,am (by simp only[cnt];omega)]
  rw[this];exact sE row l _
def xr(row:List Int):(eX row row.length).1=bN row:=by
 simp only[eX,Ll,bN]
 cases row with
 |nil=>show(0:Int)=nth [] 0;simp[nth]
 |cons a l=>
  rw[ao];simp only[Lr];have h1:kZ (a::l) (0,0) a=(a,(a::l).count a):=by
   have:0<(a::l).count a:=by simp
   simp only[kZ];rw[ap (.inl this)]
  have h2:gK (a::l) a a=a:=by simp[gK]
  rw[h1,h2,sE]
def count_le(l:List Int)(n:Int):l.count n<=l.length:=Pc
def Fe(row:List Int)(i:Nat):(eX row i).2<=row.length:=by
 have:∀(l:List Int) (s:Int×Nat),s.2<=row.length->(l.foldl (kZ row) s).2<=row.length:=by
  intro l
  induction l with
  |nil=>intro s h;exact h
  |cons n l ih=>
   intro s h;apply ih _;unfold kZ
   split
   ·exact count_le row n
   exact h
 exact this _ _ (ln _)
def ve(row:List Int)(rv:ix)(w:Lj)(h:Nc w rv row):
  Nz M8 77 [rv] w λv w'=>v=nI (bN row)/\Mv w w':=by
 have hm:=h.len_le;apply Ln func77 ntmps77 rfl rfl;refine zh ?_;apply zlp (λx:Nat×Lj×Int×Nat=>[(0,rv),(3,nI x.2.2.1),(4,nI x.2.2.2),(5,nI x.1)]) (λx=>x.2.1) (λx=>x.1<=row.length/\Mv w x.2.1/\eX row x.1=x.2.2) (λx=>row.length-x.1) (0,w,0,0) ⟨ln _,Lk _,rfl⟩;rintro⟨i,w1,b1,b2⟩ ⟨hi,a8,hb⟩;dsimp only at hi a8 hb ⊢;have b0:b2<=row.length:=by have:=Fe row i;rwa[hb]at this
 refine zh ?_;refine zvH (MX (by first|exact h.ext a8) L3 rfl) ?_
 refine zC ?_ ?_
 ·intro a6;replace a6:i<row.length:=dT a6;have hs:=ze row i a6;rw[hb]at hs;refine zh ?_;apply zlp (λy:Nat×Lj×Nat=>[(0,rv),(3,nI b1),(4,nI b2),(5,nI i),(6,nI y.2.2),(7,nI y.1)]) (λy=>y.2.1) (λy=>y.1<=row.length/\Mv w y.2.1/\(row.take y.1).count (nth row i)=y.2.2) (λy=>row.length-y.1) (0,w1,0) ⟨ln _,a8,rfl⟩;rintro⟨k,w2,c⟩ ⟨hk,a5,a4⟩;dsimp only at hk a5 a4 ⊢;have h2:=h.ext a5;have hc:=count_le (row.take k) (nth row i);have a':(row.take k).length<=k:=by simp;omega
  rw[a4]at hc;refine zh ?_;refine zC ?_ ?_
  ·intro a0;replace a0:k<row.length:=dT a0;have a7:(row.take (k+1)).count (nth row i)=c+(if nth row k=nth row i then 1 else 0):=by
    rw[aG a0,Pu,a4]
    by_cases he:nth row k=nth row i<;>simp[he]
   refine zh ?_;apply PM zk zk
   refine zh ?_;refine zwH (RV.ld (h2.drew.ld zo) rfl) ?_
   refine zwH (RV.ld (h2.drew.ld zo) rfl) ?_;apply PZ
   refine zh ?_;refine zC ?_ ?_
   ·intro he;replace he:nth row k=nth row i:=by simpa using he
    rw[ap he]at a7;refine zh ?_;refine zx (k+1,w2.drew,c+1) ⟨a0,a5.drew,a7⟩ ((by dsimp only;omega))
   intro he;replace he:nth row k≠nth row i:=by simpa using he
   rw[am he]at a7;refine zh ?_;refine zx (k+1,w2.drew,c) ⟨a0,a5.drew,a7⟩ ((by dsimp only;omega))
  intro a9;obtain rfl:k=row.length:=dF a9;rw[Ll]at a4;refine zh ?_
  by_cases a1:b2<c
  ·have r:eX row (i+1)=(nth row i,c):=by rw[hs,kZ,a4,ap (.inl a1)]
   apply ax (d:=34) rfl (b':=true) (decide_eq_true zo);refine zh ?_
   refine zTH rfl rfl ?_;refine zvH (RV.ld (h2.ld zo) rfl) ?_
   refine zx (i+1,w2,nth row i,c) ⟨a6,a5,r⟩ ((by dsimp only;omega))
  apply ax (d:=34) rfl (b':=false) (decide_eq_false zo);refine zh ?_
  by_cases a2:c=b2
  ·apply ax (d:=38) rfl (b':=true) (by rw[a2];simp);refine zh ?_
   refine zvH (RV.ld (h2.ld zo) rfl) ?_;refine zC ?_ ?_
   ·intro a3;replace a3:nth row i<b1:=of_decide_eq_true a3;have r:eX row (i+1)=(nth row i,c):=by rw[hs,kZ,a4,ap (.inr ⟨a2,a3⟩)]
    refine zh ?_;refine zvH (RV.ld (h2.ld zo) rfl) ?_
    refine zx (i+1,w2,nth row i,c) ⟨a6,a5,r⟩ ((by dsimp only;omega))
   intro a3;replace a3:¬nth row i<b1:=of_decide_eq_false a3;have r:eX row (i+1)=(b1,b2):=by rw[hs,kZ,a4,am (λh=>h.elim a1 λh=>a3 h.2)]
   refine zh ?_;refine zx (i+1,w2,b1,b2) ⟨a6,a5,r⟩ ((by dsimp only;omega))
  have r:eX row (i+1)=(b1,b2):=by rw[hs,kZ,a4,am (λh=>h.elim a1 λh=>a2 h.1)]
  apply ax (d:=38) rfl (b':=false) (by simpa using(λh:(c:Int)=(b2:Int)=>a2 zo));refine zh ?_
  refine zFH rfl rfl ?_;refine zx (i+1,w2,b1,b2) ⟨a6,a5,r⟩ ((by dsimp only;omega))
 intro a9;obtain rfl:i=row.length:=dF a9;have hu:=xr row;rw[hb]at hu;refine zh ?_;refine af rfl rfl ⟨by rw[<-hu],a8⟩
abbrev Ent:=Nat×Nat×Int
def LF(x:Ent):List ix:=[nI x.1,nI x.2.1,nI x.2.2]
def yq(A:List Ent)(av:ix)(s:Nat)(w:Lj)(h:Sl LF 3 w av A):
  Nz M8 78 [av,nI s] w λv w'=>v=.bool (A.any λx=>x.1==s)/\w=w':=by
 have hm:=h.len_le;apply Ln func78 ntmps78 rfl rfl;refine zh ?_;apply zlp (λi:Nat=>[(0,av),(1,nI s),(5,nI i)]) (λi=>w) (λi=>i<=A.length/\(A.take i).any (λx=>x.1==s)=false) (λi=>A.length-i) 0 ⟨ln _,by simp⟩;rintro i ⟨hi,a1⟩;refine zh ?_;refine zC ?_ ?_
 ·intro a0;replace a0:i<A.length:=dT a0;refine zh ?_;refine zvH (RV.ld (h.cell a0 (j:=0) rfl) rfl) ?_;refine zC ?_ ?_
  ·intro he;replace he:(nth A i).1=s:=by have:=he;simp at this;omega
   refine zh ?_;refine af rfl rfl ⟨by rw[Nk.2 ⟨_,aJ a0,by simp[he]⟩],rfl⟩
  intro he;replace he:(nth A i).1≠s:=by have:=he;simp at this;omega
  refine zh ?_;refine zxd (i+1) ⟨a0,by rw[aG a0,PH,a1];simpa using he⟩
 intro a2;obtain rfl:i=A.length:=dF a2;rw[Ll]at a1;refine zh ?_;refine af rfl rfl ⟨by rw[a1],rfl⟩
def dM(A:List Ent):Nat:=A.foldl (λm x=>max m (x.1+1)) 0
def dh(f:Ent->Int)(A:List Ent)(l:List Int):List Int:=A.foldl (λl x=>l.set x.1 (f x)) l
def iN(x:Ent):Int:=x.2.1
def KE(x:Ent):Int:=x.2.2
def ft(A:List Ent):List Int:=dh iN A (ka (dM A) (-1))
def kP(A:List Ent):List Int:=dh KE A (ka (dM A) 0)
def nM(A:List Ent)(x:Ent):dM (A++[x])=max (dM A) (x.1+1):=by simp[dM,Ly]
def BK(A:List Ent):∀m,m<=A.foldl (λm x=>max m (x.1+1)) m:=by
 induction A with
 |nil=>intro m;exact MG m
 |cons y A ih=>intro m;simp only[Lr];have:=ih (max m (y.1+1));omega
def eL{A:List Ent}{x:Ent}(h:x∈A):x.1<dM A:=by
 have:∀(A:List Ent) m,x∈A->x.1<A.foldl (λm x=>max m (x.1+1)) m:=by
  intro A
  induction A with
  |nil=>intro m h;simp at h
  |cons y A ih=>
   intro m h;simp only[Lr]
   rcases NW.1 h with rfl|h
   ·have:=BK A (max m (x.1+1));omega
   exact ih _ h
 exact this A 0 h
def gO(f:Ent->Int):∀(A:List Ent) (l:List Int),(dh f A l).length=l.length
 |[],_=>rfl
 |x::A,l=>by simp only[dh,Lr];exact(gO f A _).J (by simp)
def eW(A:List Ent):(ft A).length=dM A:=by rw[ft,gO];simp
def lV(A:List Ent):(kP A).length=dM A:=by rw[kP,gO];simp
def il(f:Ent->Int):∀(A:List Ent) (l r:List Int),(∀x∈A,x.1<l.length)->dh f A (l++r)=dh f A l++r
 |[],_,_,_=>rfl
 |x::A,l,r,h=>by
  simp only[dh,Lr];rw[List.set_append_left _ _ (h x (by simp))];exact il f A _ r (λy hy=>by simpa using h y (by simp[hy]))
def ik(f:Ent->Int)(A:List Ent)(x:Ent)(l:List Int):dh f (A++[x]) l=(dh f A l).set x.1 (f x):=by simp[dh,Ly]
def CR(n s:Nat)(z:Int):ka (max n (s+1)) z=ka n z++ka (s+1-n) z:=by
 rw[NI];congr 1;omega
def BT(A:List Ent)(x:Ent):ft (A++[x])=(ft A++ka (x.1+1-(ft A).length) (-1)).set x.1 x.2.1:=by
 rw[ft,nM,ik,CR,il _ _ _ _ (λy hy=>by simpa using eL hy),eW];rfl
def Bp(A:List Ent)(x:Ent):kP (A++[x])=(kP A++ka (x.1+1-(kP A).length) 0).set x.1 x.2.2:=by
 rw[kP,nM,ik,CR,il _ _ _ _ (λy hy=>by simpa using eL hy),lV];rfl
def Ct(p:PSt)(A:List Ent)(x:Ent)(h1:p.check=ft A)(h2:p.next=kP A):(p.take x.1 x.2.1 x.2.2).check=ft (A++[x])/\(p.take x.1 x.2.1 x.2.2).next=kP (A++[x]):=by
 refine⟨?_,?_⟩
 ·rw[BT,<-h1];rfl
 rw[Bp,<-h2,h2,lV,<-eW,<-h2,<-h1];rfl
def cN(row:List Int)(u:Int)(b i k:Nat):List Ent:=(eV row u k).map λc=>(b+c,i,nth row c)
def vW(row:List Int)(b i:Nat):∀(a0:List Nat) (p:PSt) (A:List Ent),p.check=ft A->p.next=kP A->
  let q:=a0.foldl (λq c=>q.take (b+c) i (nth row c)) p
  q.check=ft (A++a0.map λc=>(b+c,i,nth row c))/\q.next=kP (A++a0.map λc=>(b+c,i,nth row c))
 |[],p,A,h1,h2=>by simpa using⟨h1,h2⟩
 |c::a0,p,A,h1,h2=>by
  obtain⟨g1,g2⟩:=Ct p A (b+c,i,nth row c) h1 h2;have:=vW row b i a0 _ _ g1 g2;simpa using this
def tG(p:PSt)(A:List Ent)(row:List Int)(h1:p.check=ft A)(h2:p.next=kP A):
  let b:=gZ p.check (bM row (bN row))
  (p.lay row).check=ft (A++cN row (bN row) b p.base.length row.length)/\(p.lay row).next=kP (A++cN row (bN row) b p.base.length row.length):=
 vW row _ _ _ p A h1 h2
def tH(p:PSt)(row:List Int):(p.lay row).base=p.base++[(gZ p.check (bM row (bN row)):Int)]/\(p.lay row).usual=p.usual++[bN row]/\(p.lay row).width=p.width:=by
 have a1:∀(a0:List Nat) (f:Nat->Int) (b:Nat) (r:Int) (p:PSt),let q:=a0.foldl (λq c=>q.take (b+c) r (f c)) p;q.base=p.base/\q.usual=p.usual/\q.width=p.width:=by
  intro a0 f b r
  induction a0 with
  |nil=>intro p;exact⟨rfl,rfl,rfl⟩
  |cons c a0 ih=>intro p;exact ih (p.take (b+c) r (f c))
 obtain⟨h1,h2,h3⟩:=a1 (bM row (bN row)) (λc=>nth row c) (gZ p.check (bM row (bN row))) p.base.length p;refine⟨?_,?_,h3⟩
 ·simp only[PSt.lay];rw[h1]
 simp only[PSt.lay];rw[h2]
def uY(row:List Int)(u:Int)(b i k:Nat):cN row u b i (k+1)=if nth row k=u then cN row u b i k else cN row u b i k++[(b+k,i,nth row k)]:=by
 simp only[cN,iG]
 split<;>simp
def yj(row:List Int)(u:Int)(b i k:Nat):(cN row u b i k).length<=k:=by simp[cN];exact sq row u k
def ry(A:List Ent)(s:Nat):∀(l:List Int),s<l.length->(∀x∈A,x.1<l.length)->(nth (dh iN A l) s≠-1↔(A.any (λx=>x.1==s)=true\/nth l s≠-1)):=by
 induction A with
 |nil=>intro l _ _;simp[dh]
 |cons x A ih=>
  intro l hs h;have h1:=ih (l.set x.1 (iN x)) (by simpa using hs) (λy hy=>by simpa using h y (by simp[hy]));simp only[dh,Lr]at h1 ⊢;rw[h1,bm (h x (by simp)),List.any_cons]
  by_cases e:x.1=s
  ·have:iN x≠-1:=by unfold iN;omega
   simp[e,this]
  have e2:¬s=x.1:=λh=>e h.symm
  simp[e,e2]
def Cr(A:List Ent)(s:Nat):(A.any λx=>x.1==s)=(decide (s<(ft A).length)&&nth (ft A) s != -1):=by
 by_cases hs:s<dM A
 ·have h1:=ry A s (ka (dM A) (-1)) (by simpa using hs) (λy hy=>by simpa using eL hy);have h2:nth (ka (dM A) (-1:Int)) s = -1:=by rw[aB (by simpa using hs)];simp
  rw[eW];simp only[h2,ne_eq,not_true,or_false]at h1;rw[decide_eq_true hs,PK]
  cases ha:A.any (λx=>x.1==s)with
  |true=>have:=h1.2 ha;exact(bne_iff_ne.2 this).symm
  |false=>
   rw[ha]at h1;have:nth (ft A) s = -1:=P4.1 (λh=>by cases h1.1 h);rw[this];rfl
 rw[eW,decide_eq_false hs,PJ,Mt];intro x hx h;have:=eL hx;have:x.1=s:=by simpa using h
 omega
def nK(A:List Ent)(b c:Nat):kU (ft A) b c = !(A.any λx=>x.1==b+c):=by rw[Cr];rfl
def jM(la lb:List Int)(av bv:ix)(w:Lj)(ha:Nc w av la)(hb:Nc w bv lb):
    Nz M8 76 [av, bv] w λv w' => v = .bool (la == lb) ∧ Mv w w' := by
  have hal := ha.len_le
  apply Ln func76 ntmps76 rfl rfl
  refine zh ?_
  refine zC ?_ ?_
  · intro hne
    refine zh ?_
    refine af rfl rfl ⟨?_, Lk _⟩
    have:la ≠ lb := λe => by subst e; simp at hne
    simpa using this.symm ∘ Eq.symm
  · intro heq
    replace heq : la.length = lb.length := by have : (la.length : Int) = lb.length := by simpa using heq
                                              omega
    refine zh ?_
    apply zlp (λx:Nat×Lj => [(0, av), (1, bv), (5, .int .i64 x.1)]) (λx => x.2) (λx => x.1 ≤ la.length ∧ Mv w x.2 ∧ la.take x.1 = lb.take x.1) (λx => la.length - x.1) (0, w) ⟨ln _, Lk _, rfl⟩
    rintro⟨k, w1⟩ ⟨hk, hE, htk⟩
    dsimp only at hk hE htk ⊢
    have ha1 := ha.ext hE
    have hb1 := hb.ext hE
    refine zh ?_
    refine zC ?_ ?_
    · intro hlt
      replace hlt:k < la.length := by have := of_decide_eq_true hlt; omega
      refine zh ?_
      apply PM (by kernel_rfl) (by kernel_rfl)
      refine zh ?_
      refine zwH (RV.ld (ha1.ld (by omega)) rfl) ?_
      refine zwH (RV.ld (hb1.ld (by omega)) rfl) ?_
      apply PZ
      refine zh ?_
      refine zC ?_ ?_
      · intro hne
        refine zh ?_
        refine af rfl rfl ⟨?_, hE.drew⟩
        have:la ≠ lb := λe => by subst e; simp at hne
        simpa using this
      · intro hee
        refine zh ?_
        refine zxd (k + 1, w1.drew) ⟨hlt, hE.drew, by rw[aG hlt, aG (by omega:k < lb.length), htk]; simpa using hee⟩
    · intro hge
      replace hge:la.length ≤ k := by have := of_decide_eq_false hge; omega
      refine zh ?_
      refine af rfl rfl ⟨?_, hE⟩
      rw[Mp hge, Mp (by omega)]at htk
      simp[htk]
def PSt.same(p q:PSt):Bool:=p.width==q.width&&p.usual==q.usual&&p.base==q.base&&p.check==q.check&&p.next==q.next
def Kx(p q:PSt)(pv qv:ix)(w:Lj)(hp:PkV w pv p)(hq:PkV w qv q):
  Nz M8 38 [pv,qv] w λv w'=>v=.bool (p.same q)/\Mv w w':=by
 obtain⟨u1,b1,k1,n1,rfl,a8,b5,b3,a'⟩:=hp;obtain⟨u2,b2,k2,n2,rfl,a7,b4,b0,a9⟩:=hq;apply Ln func38 ntmps38 rfl rfl;refine zh ?_;apply aI (aw w) 1 zo rfl rfl;intro x1 w1 O1 a6 b' b7 b9;apply aI b7 2 zo rfl rfl;intro x2 w2 O2 a5 b6 c5 b8;have a3:=a6.U b6 zd zd;have hE:=b9.J b8;have c:∀w',Mv w2 w'->(∀j u,(#[nI p.width,u1,b1,k1,n1]:Array ix)[j]? = some u->w'.cell? ⟨x1,j,none⟩=some u)/\(∀j u,(#[nI q.width,u2,b2,k2,n2]:Array ix)[j]? = some u->w'.cell? ⟨x2,j,none⟩=some u):=
  λw' e=>⟨λj u hu=>e.cell (a3.cell j hu),λj u hu=>e.cell (a5.cell j hu)⟩
 refine zh ?_;refine zvH (RV.ld ((c _ (Lk _)).1 0 _ rfl) rfl) ?_
 refine zvH (RV.ld ((c _ (Lk _)).2 0 _ rfl) rfl) ?_;refine aT (Mv w2) (p.usual==q.usual) 5 (Lk _) rfl rfl rfl rfl rfl ?_ ?_
 ·intro h1;refine zh ?_;refine zvH (RV.ld ((c _ (Lk _)).1 1 _ rfl) rfl) ?_;refine zvH (RV.ld ((c _ (Lk _)).2 1 _ rfl) rfl) ?_;apply zc PW (jM p.usual q.usual u1 u2 _ (a8.ext hE) (a7.ext hE));rintro v w3 ⟨rfl,a2⟩;refine zh ?_;refine nE 10 6 a2 h1
 intro w3 a2;refine zh ?_;refine aT (Mv w2) (p.base==q.base) 5 a2 rfl rfl rfl rfl rfl ?_ ?_
 ·intro h2;refine zh ?_;refine zvH (RV.ld ((c _ a2).1 2 _ rfl) rfl) ?_;refine zvH (RV.ld ((c _ a2).2 2 _ rfl) rfl) ?_;apply zc PW (jM p.base q.base b1 b2 _ ((b5.ext hE).ext a2) ((b4.ext hE).ext a2));rintro v w4 ⟨rfl,a1⟩;refine zh ?_;refine nE 17 6 (a2.J a1) h2
 intro w4 a1;refine zh ?_;refine aT (Mv w2) (p.check==q.check) 5 a1 rfl rfl rfl rfl rfl ?_ ?_
 ·intro h3;refine zh ?_;refine zvH (RV.ld ((c _ a1).1 3 _ rfl) rfl) ?_;refine zvH (RV.ld ((c _ a1).2 3 _ rfl) rfl) ?_;apply zc PW (jM p.check q.check k1 k2 _ ((b3.ext hE).ext a1) ((b0.ext hE).ext a1));rintro v w5 ⟨rfl,a0⟩;refine zh ?_;refine nE 24 6 (a1.J a0) h3
 intro w5 a0;refine zh ?_;refine aT (Mv w2) (p.next==q.next) 5 a0 rfl rfl rfl rfl rfl ?_ ?_
 ·intro h4;refine zh ?_;refine zvH (RV.ld ((c _ a0).1 4 _ rfl) rfl) ?_;refine zvH (RV.ld ((c _ a0).2 4 _ rfl) rfl) ?_;apply zc PW (jM p.next q.next n1 n2 _ ((a'.ext hE).ext a0) ((a9.ext hE).ext a0));rintro v w6 ⟨rfl,a4⟩;refine zh ?_;refine nE 31 6 (a0.J a4) h4
 intro w6 a4;refine zh ?_;refine af rfl rfl ⟨rfl,hE.J a4⟩
def Le:cC M8 100 #[(0,1),(1,1),(2,1),(3,1),(4,1)]:=⟨_,underlying100,λw=>by kernel_rfl⟩
def wOk(a0:Int)(n:Nat):Bool:=decide (1<=a0)&&decide (a0<=64)&&decide ((n:Int)<=1000)
def inR(n:Int):Bool:=decide (0<=n)&&decide (n<=65535)
def xy(a0:Int)(row:List Int):(!jC a0 row)=((row.length:Int)==a0&&row.all inR):=by
 simp only[jC,bne,PU,Bool.not_not];rfl
def rF(a0:Int)(L:List (List Int)):(!cp a0 L)=(wOk a0 L.length&&L.all (λr=>!jC a0 r)):=by
 simp only[cp,wOk,PU,List.not_any_eq_all_not];congr 2
 ·congr 1<;>rw[<-decide_not]<;>exact decide_eq_decide.2 zo
 rw[<-decide_not];exact decide_eq_decide.2 zo
def lT{a0:Int}{L:List (List Int)}(h:cp a0 L=false):1<=a0/\a0<=64/\L.length<=1000/\(∀r∈L,(r.length:Int)=a0)/\∀r∈L,r.length<=64:=by
 have h2:(!cp a0 L)=true:=by rw[h];rfl
 rw[rF,M5]at h2;simp only[wOk,M5,decide_eq_true_eq]at h2;have h3:∀r∈L,(r.length:Int)=a0:=λr hr=>by
  have:=M4.1 h2.2 r hr;rw[xy,M5]at this;simpa using this.1
 exact⟨zo,zo,zo,h3,λr hr=>by have:=h3 r hr;omega⟩
def KZ:cC M8 152 #[(0,1),(1,1),(2,1)]:=⟨_,underlying152,λw=>by kernel_rfl⟩
def KI:Q9 M8 149 152 3 24:=⟨underlying149,by kernel_rfl,zd⟩
abbrev L6(O:Nat->Nat)(w:Lj)(i:Nat)(v:ix)(l:List Ent):Prop:=Nl LF 152 3 O w i v l
structure PRS where
 k:Nat
 O:Nat->Nat
 w:Lj
 uv:ix
 bv:ix
 av:ix
 A:List Ent
 en:Int
 q:PSt
def xI(j:Nat):Prop:=1<=j/\j<=16
def nq:¬xI 0:=by unfold xI;omega
structure RInv(width:Int)(L:List (List Int))(w:Lj)(rb pb:Nat)(x:PRS):Prop where
 hk:x.k<=L.length
 hq:x.q=(L.take x.k).foldl PSt.lay ⟨width,[],[],[],[]⟩
 res:MN x.O x.w 1 rb #[nI 0,nS,nS,nS,nS] 100
 blk:MN x.O x.w 11 pb #[nI width,x.uv,x.bv,nS,nS] 100
 u:iQ x.O x.w 12 x.uv x.q.usual
 b:iQ x.O x.w 13 x.bv x.q.base
 a:L6 x.O x.w 16 x.av x.A
 chk:x.q.check=ft x.A
 nxt:x.q.next=kP x.A
 ul:x.q.usual.length=x.k
 bl:x.q.base.length=x.k
 cl:x.q.check.length<=64*x.k
 al:x.A.length<=64*x.k
 hen:x.en=dM x.A
 U:M1 xI (λ_=>0) w x.O x.w
def C2(h:∀c,c<row.length->nth row c≠u->kU a0 b c=true):dR a0 (bM row u) b=true:=by
 rw[dR,M4];intro c hc;have h1:=jx hc;simp only[bM,eV,N2,LL]at hc;exact h c h1 (by simpa using hc.2)
def Bn(hc:c<row.length)(hn:nth row c≠u)(hf:kU a0 b c=false):dR a0 (bM row u) b=false:=by
 rw[dR,List.all_eq_false];refine⟨c,?_,by rw[hf];simp⟩;simp only[bM,eV,N2,LL];exact⟨hc,by simpa using hn⟩
def yl(width:Int)(L:List (List Int))(rv:ix)(w:Lj)(h:Rows w rv L)(h6:cp width L=false):
  Nz M8 39 [nI width,rv] w λv w'=>PkV w' v (jc width L)/\Mv w w':=by
 obtain⟨m8,m7,hL,d3,i2⟩:=lT h6;obtain⟨j9,hr,m9,i3⟩:=h;apply Ln func39 ntmps39 rfl rfl;refine zh ?_;apply au (aw w) 1 zo (Pm _) rfl;intro rb w1 O1 k1 m4 m5 n8;refine zh ?_;apply zv (aH Le (Pm _) rfl (by first|rfl|(simp only[Li,Lz];rfl)) rfl rfl);apply au m5 11 zo (Pm _) rfl;intro pb w2 O2 e' j4 n6 n7;apply zsa (us:=#[nI width,nS,nS,nS,nS]) e' (Pg _);have m0:M1 xI O2 w2 O2 (w2.setRow pb #[nI width,nS,nS,nS,nS]):=Lq nq e'.tag (by unfold xI;omega);have l7:=e'.setRow (us:=#[nI width,nS,nS,nS,nS]);have k3:=(k1.U j4 zd zd).U (Lq (S:=λj=>j=11) (us:=#[nI width,nS,nS,nS,nS]) zd e'.tag rfl) zd zd;have hU:=((m4.mono (S':=xI) (by unfold xI;omega) nq).J (j4.mono (by unfold xI;omega) nq)).J m0;generalize w2.setRow pb #[nI width,nS,nS,nS,nS]=w3 at *;refine zh ?_;apply zlp (λx:PRS=>[(0,nI width),(1,rv),(4,nP rb),(5,nP pb),(6,x.av),(7,nI x.en),(8,nI x.k)]) (λx=>x.w) (λx=>RInv width L w rb pb x) (λx=>L.length-x.k) ⟨0,O2,w3,nS,nS,nS,[],0,⟨width,[],[],[],[]⟩⟩ ⟨ln _,rfl,k3,l7,LU _ _ _ _ _ _,LU _ _ _ _ _ _,LU _ _ _ _ _ _,rfl,rfl,rfl,rfl,ln _,ln _,rfl,hU⟩;rintro⟨k,O4,w4,uv,bv,av,A,en,q⟩ ⟨hk,hq,c6,c8,hu,hb,ha,a9,b4,h',j0,l0,l9,i',d0⟩;dsimp only at hk hq c6 c8 hu hb ha a9 b4 h' j0 l0 l9 i' d0 ⊢;have j6:=(aw w).U d0
 have i5:=hr.ext d0.ext;have h5:(ft A).length=dM A:=eW A;rw[<-a9]at h5;have k4:q.next.length=q.check.length:=by rw[b4,a9,lV,eW]
 refine zh ?_;refine zC ?_ ?_
 ·intro a2;replace a2:k<L.length:=dT a2;have k6:=d3 _ (aJ a2);have i8:=i2 _ (aJ a2);have d5:=(i3 k a2).ext d0.ext;generalize d4:nth L k=row at *;refine zh ?_;apply zv (RV.ld (i5.ld zo) rfl);apply zc call77 (ve row (nth j9 k) w4 d5);rintro v w5 ⟨rfl,e5⟩;have d1:M1 (λ_=>False) O4 w4 O4 w5:=aa (λh=>h) O4 e5;have h8:=j6.ext e5;have k2:=i5.ext e5;have f':=d5.ext e5;have e3:=ha.U d1 zo (λh=>h);have e0:=e3.sl;generalize j':bN row=u;refine zh ?_;apply zlp (λy:Nat×Nat=>[(0,nI width),(1,rv),(4,nP rb),(5,nP pb),(6,av),(7,nI en),(8,nI k),(9,nI u),(10,nI y.1),(11,nI y.2)]) (λy=>w5) (λy=>y.1<=q.check.length/\(∀j,j<y.1->dR q.check (bM row u) j=false)/\y.2<=row.length/\(∀c,c<y.2->nth row c≠u->kU q.check y.1 c=true)) (λy=>(q.check.length-y.1)*(row.length+1)+(row.length-y.2)) (0,0) ⟨ln _,λj hj=>absurd hj (Lo j),ln _,λj hj=>absurd hj (Lo j)⟩;rintro⟨b,c⟩ ⟨h7,f3,l6,b1⟩;dsimp only at h7 f3 l6 b1 ⊢;refine zh ?_;refine zC ?_ ?_
  ·intro b6;replace b6:c<row.length:=dT b6;refine zh ?_;refine zvH (RV.ld (k2.ld zo) rfl) ?_;refine zvH (RV.ld (f'.ld zo) rfl) ?_;refine aT (λw1=>_=w1) (A.any λx=>x.1==b+c) 5 rfl rfl rfl rfl rfl rfl ?_ ?_
   ·intro h1;refine zh ?_;apply zc call78 (yq A av (b+c) w5 e0);rintro v _ ⟨rfl,rfl⟩;refine zh ?_;refine nE 42 6 rfl h1
   rintro _ rfl;refine zh ?_;refine zC ?_ ?_
   ·intro hg;replace hg:nth row c≠u/\(A.any λx=>x.1==b+c)=true:=by simpa using hg
    have hf:kU q.check b c=false:=by rw[a9,nK,hg.2];rfl
    have b2:=Bn (u:=u) b6 hg.1 hf;have g7:b<q.check.length:=by
     refine Pr h7 λe=>?_
     rw[e,jR]at b2;cases b2
    refine zh ?_;refine zx (b+1,0) ⟨g7,λj hj=>(Lp.1 hj).elim (f3 j) (λe=>by rw[e];exact b2),ln _,λj hj=>absurd hj (Lo j)⟩ (by dsimp only;obtain⟨d,hd⟩:∃d,q.check.length-b=d+1:=⟨q.check.length-b-1,zo⟩;rw[hd,show q.check.length-(b+1)=d from by omega,MQ];omega)
   intro hg;replace hg:nth row c≠u->kU q.check b c=true:=λb5=>by
    have h2:(A.any λx=>x.1==b+c)=false:=by
     cases ht:(A.any λx=>x.1==b+c)with
     |false=>rfl
     |true=>rw[ht]at hg;simp[b5]at hg
    rw[a9,nK,h2];rfl
   refine zh ?_;refine zxd (b,c+1) ⟨h7,f3,b6,λj hj b5=>(Lp.1 hj).elim (λh=>b1 j h b5) (λe=>by rw[e]at b5 ⊢;exact hg b5)⟩
  intro k';obtain rfl:c=row.length:=by have:=of_decide_eq_false k';omega
  have b9:=xw (C2 b1) f3;have d7:=c6.U d1 zo (λh=>h);have a6:=c8.U d1 zo (λh=>h);have g1:=hu.U d1 zo (λh=>h);have g4:=hb.U d1 zo (λh=>h);have b3:=d0.J (aa nq O4 e5);refine zh ?_;apply zlp (λz:Nat×(Nat->Nat)×World×ix×Int=>[(0,nI width),(1,rv),(4,nP rb),(5,nP pb),(6,z.2.2.2.1),(7,nI z.2.2.2.2),(8,nI k),(9,nI u),(10,nI b),(12,nI z.1)]) (λz=>z.2.2.1) (λz=>z.1<=row.length/\L6 z.2.1 z.2.2.1 16 z.2.2.2.1 (A++cN row u b k z.1)/\z.2.2.2.2=dM (A++cN row u b k z.1)/\M1 (λj=>j=16) O4 w5 z.2.1 z.2.2.1) (λz=>row.length-z.1) (0,O4,w5,av,en) ⟨ln _,by simpa[cN,eV]using e3,by simpa[cN,eV]using i',MA zo _ _⟩;rintro⟨c,O6,w6,j8,h9⟩ ⟨hc,c9,b8,a3⟩;dsimp only at hc c9 b8 a3 ⊢;have f7:=h8.U a3;have j7:=(b3.J (a3.mono (by unfold xI;omega) nq)).ext;have i4:=hr.ext j7;have c5:=(i3 k a2).ext j7;rw[d4]at c5;have n4:=yj row u b k c;have l8:(A++cN row u b k c).length<=64*k+c:=by simp;omega
  refine zh ?_;refine zC ?_ ?_
  ·intro b6;replace b6:c<row.length:=dT b6;have a4:=uY row u b k c;refine zh ?_;refine zvH (RV.ld (i4.ld zo) rfl) ?_;refine zvH (RV.ld (c5.ld zo) rfl) ?_;refine zC ?_ ?_
   ·intro b5;replace b5:nth row c≠u:=by simpa using b5
    rw[am b5]at a4;refine zh ?_;refine zvH (RV.ld (i4.ld zo) rfl) ?_;apply zv (RV.ld (c5.ld zo) rfl);apply zv (aH KZ (zeroValue152 _) rfl (by first|rfl|(simp only[Li,Lz];rfl)) rfl rfl);apply Mu KI c9 f7 (((b+c,k,nth row c):Ent)) (λ_=>rfl) rfl rfl rfl (by simp[Lm,LF]) zo zo zo zd rfl rfl;intro m6 w7 O7 j3 a' f6;rw[ME,<-a4]at j3;refine zh ?_;refine zvH (fY rfl rfl) ?_;refine zxd (c+1,O7,w7,m6,max h9 (b+c+1)) ⟨b6,j3,by dsimp only;rw[a4,<-ME,nM,b8];simp only;omega,a3.J a'⟩
   intro h4;replace h4:nth row c=u:=by simpa using h4
   rw[ap h4]at a4;refine zh ?_;refine zxd (c+1,O6,w6,j8,h9) ⟨b6,by dsimp only;rw[a4];exact c9,by dsimp only;rw[a4];exact b8,a3⟩
  intro h3;obtain rfl:c=row.length:=dF h3;have a7:=d7.U a3 zo zo;have a0:=a6.U a3 zo zo;have g0:=g1.U a3 zo zo;have g3:=g4.U a3 zo zo;refine zh ?_;refine zvH (RV.ld (a0.cell 1 rfl) rfl) ?_;apply Mu mE g0 f7 u (λ_=>rfl) rfl rfl rfl (by simp[Lm]) zo zo zo zd rfl rfl;intro e6 w7 O7 i0 a' f6;have a1:=a0.U a' zo zo;have b0:M1 (λj=>j=11) O7 w7 O7 (w7.setCell ⟨pb,1,none⟩ e6):=M9 zo a1.tag rfl;refine zh ?_;apply aj (j:=1) a1 rfl (Ms _) i0.one rfl rfl rfl;have a5:=a1.set 1 e6;have k0:=i0.U b0 zo zo;have g2:=(g3.U a' zo zo).U b0 zo zo;have d6:=(a7.U a' zo zo).U b0 zo zo;have l':=(c9.U a' zo zo).U b0 zo zo;have j5:=f6.U b0;have b':=((b3.J (a3.mono (by unfold xI;omega) nq)).J (a'.mono (by unfold xI;omega) nq)).J (b0.mono (by unfold xI;omega) nq);generalize w7.setCell ⟨pb,1,none⟩ e6=w8 at *;refine zh ?_;refine zvH (RV.ld (a5.cell 2 rfl) rfl) ?_;apply Mu mE g2 j5 ((b:Int)) (λ_=>rfl) rfl rfl rfl (by simp[Lm]) zo zo zo zd rfl rfl;intro f8 w9 O9 j1 e4 n5;have a8:=a5.U e4 zo zo;have d2:M1 (λj=>j=11) O9 w9 O9 (w9.setCell ⟨pb,2,none⟩ f8):=M9 zo a8.tag rfl;refine zh ?_;apply aj (j:=2) a8 rfl (Ms _) j1.one rfl rfl rfl;have c7:=a8.set 2 f8;refine zh ?_;obtain⟨e1,e2⟩:=tG q A row a9 b4;obtain⟨l1,l2,l3,l4,l5⟩:=gq q row zo k4;obtain⟨m1,m2,m3⟩:=tH q row;rw[j']at e1 e2 m1 m2;rw[b9,j0]at e1 e2
  rw[b9]at m1;refine zxd ⟨k+1,O9,w9.setCell ⟨pb,2,none⟩ f8,e6,f8,j8,A++cN row u b k row.length,h9,q.lay row⟩ ⟨a2,?_,(d6.U e4 zo zo).U d2 zo zo,c7,?_,?_,(l'.U e4 zo zo).U d2 zo zo,e1,e2,by dsimp only;rw[m2];simp[h'],by dsimp only;omega,by dsimp only;omega,by dsimp only;omega,b8,(b'.J (e4.mono (by unfold xI;omega) nq)).J (d2.mono (by unfold xI;omega) nq)⟩
  ·dsimp only;rw[aG a2,Ly,<-hq,d4];rfl
  ·dsimp only;rw[m2];exact(k0.U e4 zo zo).U d2 zo zo
  dsimp only;rw[m1];exact j1.U d2 zo zo
 intro k9;obtain rfl:k=L.length:=dF k9;rw[Ll]at hq;have i6:jc width L=q:=hq.symm;refine zh ?_;apply zlp (λy:Nat×(Nat->Nat)×World×ix×ix=>[(0,nI width),(1,rv),(4,nP rb),(5,nP pb),(6,av),(7,nI en),(13,nI y.1)]) (λy=>y.2.2.1) (λy=>y.1<=dM A/\MN y.2.1 y.2.2.1 11 pb #[nI width,uv,bv,y.2.2.2.1,y.2.2.2.2] 100/\iQ y.2.1 y.2.2.1 14 y.2.2.2.1 (ka y.1 (-1))/\iQ y.2.1 y.2.2.1 15 y.2.2.2.2 (ka y.1 0)/\M1 (λj=>j=11\/j=14\/j=15) O4 w4 y.2.1 y.2.2.1) (λy=>dM A-y.1) (0,O4,w4,nS,nS) ⟨ln _,c8,LU _ _ _ _ _ _,LU _ _ _ _ _ _,MA zo _ _⟩;rintro⟨i,O5,w5,kv,nv⟩ ⟨hi,a6,g9,g6,b3⟩;dsimp only at hi a6 g9 g6 b3 ⊢;have h8:=j6.U b3;have n1:(ka i (-1:Int)).length=i:=by simp
 have n0:(ka i (0:Int)).length=i:=by simp
 refine zh ?_;refine zC ?_ ?_
 ·intro a2;replace a2:i<dM A:=dT a2;refine zh ?_;apply zv (RV.ld (a6.cell 3 rfl) rfl);apply Mu mE g9 h8 ((-1:Int)) (λ_=>rfl) rfl rfl rfl (by simp[Lm]) zo zo zo zd rfl rfl;intro e8 w6 O6 b7 a3 f7;have a0:=a6.U a3 zo zo;have e9:M1 (λj=>j=11) O6 w6 O6 (w6.setCell ⟨pb,3,none⟩ e8):=M9 zo a0.tag rfl;refine zh ?_;apply aj (j:=3) a0 rfl (Ms _) b7.one rfl rfl rfl;have a1:=a0.set 3 e8;have f5:=b7.U e9 zo zo;have f4:=(g6.U a3 zo zo).U e9 zo zo;have f6:=f7.U e9;have a':=(b3.J (a3.mono zo zo)).J (e9.mono zo zo);generalize w6.setCell ⟨pb,3,none⟩ e8=w7 at *;refine zh ?_;apply zv (RV.ld (a1.cell 4 rfl) rfl);apply Mu mE f4 f6 ((0:Int)) (λ_=>rfl) rfl rfl rfl (by simp[Lm]) zo zo zo zd rfl rfl;intro e7 w8 O8 d8 b' j5;have a5:=a1.U b' zo zo;have f9:M1 (λj=>j=11) O8 w8 O8 (w8.setCell ⟨pb,4,none⟩ e7):=M9 zo a5.tag rfl;refine zh ?_;apply aj (j:=4) a5 rfl (Ms _) d8.one rfl rfl rfl;have a8:=a5.set 4 e7;have i9:=(f5.U b' zo zo).U f9 zo zo;have i7:=d8.U f9 zo zo;rw[<-Pb]at i9 i7;refine zh ?_;refine zxd (i+1,O8,w8.setCell ⟨pb,4,none⟩ e7,e8,e7) ⟨a2,a8,i9,i7,(a'.J (b'.mono zo zo)).J (f9.mono zo zo)⟩
 intro h0;obtain rfl:i=dM A:=dF h0;have e3:=ha.U b3 zo zo;have e0:=e3.sl;refine zh ?_;apply zlp (λy:Nat×Lj=>[(0,nI width),(1,rv),(4,nP rb),(5,nP pb),(6,av),(14,nI y.1)]) (λy=>y.2) (λy=>y.1<=A.length/\iQ O5 y.2 14 kv (dh iN (A.take y.1) (ka (dM A) (-1)))/\iQ O5 y.2 15 nv (dh KE (A.take y.1) (ka (dM A) 0))/\M1 (λj=>j=14\/j=15) O5 w5 O5 y.2) (λy=>A.length-y.1) (0,w5) ⟨ln _,g9,g6,MA zo _ _⟩;rintro⟨i,w6⟩ ⟨k8,b7,c',a3⟩;dsimp only at k8 b7 c' a3 ⊢;have a0:=a6.U a3 zo zo;have c9:=e3.U a3 zo zo;have d':=c9.sl;have g8:=b7.sl;have k5:=c'.sl;have n2:(dh iN (A.take i) (ka (dM A) (-1))).length=dM A:=by rw[gO];simp
 have m':(dh KE (A.take i) (ka (dM A) 0)).length=dM A:=by rw[gO];simp
 refine zh ?_;refine zC ?_ ?_
 ·intro a2;replace a2:i<A.length:=dT a2;have n3:(nth A i).1<dM A:=eL (aJ a2);refine zh ?_;apply PE 13 rfl rfl zk zk;refine zh ?_;refine zwH (RV.ld (a0.drew.cell 3 rfl) rfl) ?_;refine zwH (RV.ld (d'.drew.cell a2 (j:=0) rfl) rfl) ?_;apply zw (RV.ld (d'.drew.cell a2 (j:=1) rfl) rfl);apply zw (M6 g8.drew L3 (LN _) rfl rfl (nth A i).1 rfl zo);apply dX;apply NC b7.drew (nth A i).1 zo (iN (nth A i)) (LN _) rfl zo rfl rfl rfl rfl;intro w7 f5 a';have f4:=c'.drew.U a' zo zo;have a1:=a0.drew.U a' zo zo;have d9:=(c9.drew.U a' zo zo).sl;have g5:=f4.sl;rw[<-ik,<-aG a2]at f5;refine zh ?_;apply PE 13 rfl rfl zk zk;refine zh ?_;refine zwH (RV.ld (a1.drew.cell 4 rfl) rfl) ?_;refine zwH (RV.ld (d9.drew.cell a2 (j:=0) rfl) rfl) ?_;apply zw (RV.ld (d9.drew.cell a2 (j:=2) rfl) rfl);apply zw (M6 g5.drew L3 (LN _) rfl rfl (nth A i).1 rfl zo);apply dX;apply NC f4.drew (nth A i).1 zo (KE (nth A i)) (LN _) rfl zo rfl rfl rfl rfl;intro w8 d8 b';have k7:=f5.drew.U b' zo zo;rw[<-ik,<-aG a2]at d8;refine zh ?_;refine zxd (i+1,w8) ⟨a2,k7,d8,(a3.J (a'.mono zo zo).ofDrew).J (b'.mono zo zo).ofDrew⟩
 intro g';obtain rfl:i=A.length:=by have:=of_decide_eq_false g';omega
 rw[Ll]at b7 c';have i1:=(hu.U b3 zo zo).U a3 zo zo;have j2:=(hb.U b3 zo zo).U a3 zo zo;have a7:=(c6.U b3 zo zo).U a3 zo zo;refine zh ?_;apply zv (ah a0.V (isAgg100 _) (Pg _) rfl);apply zsb (us:=#[nI width,uv,bv,kv,nv]) a7 (Pg _) (by simp only[Li,i1.one,j2.one,b7.one,c'.one];rfl);have b0:M1 (λj=>j=1) O5 w6 O5 (w6.setRow rb #[nI width,uv,bv,kv,nv]):=Lq zd a7.tag rfl;refine zh ?_;refine aO rfl rfl ((a7.setRow).V) (isAgg100 _) (Pg _) ⟨⟨uv,bv,kv,nv,?_,?_,?_,?_,?_⟩,(((d0.J (b3.mono (by unfold xI;omega) nq)).J (a3.mono (by unfold xI;omega) nq)).J (b0.mono (by unfold xI;omega) nq)).ext⟩
 all_goals rw[i6]
 ·rw[show q.width=width from by rw[<-i6];exact(nh width L i2).2.2.2.2.1]
 ·exact(i1.U b0 zo zo).sl
 ·exact(j2.U b0 zo zo).sl
 ·rw[a9];exact(b7.U b0 zo zo).sl
 rw[b4];exact(c'.U b0 zo zo).sl
def dK(p:PSt):Bool:=
 !(decide (p.width<1)||decide (64<p.width)||decide ((1000:Int)<p.usual.length)||((p.base.length:Int) != p.usual.length)) &&
 !((p.check.length:Int) != p.next.length||decide ((65599:Int)<p.check.length)) &&
 (inB 0 65535 p.usual&&inB 0 65535 p.base&&inB 0 65535 p.next&&inB (-1) ((p.usual.length:Int)-1) p.check)
def Bm(p:PSt)(pv:ix)(w:Lj)(hp:PkV w pv p):
  Nz M8 106 [pv] w λv w'=>v=.bool (dK p)/\Mv w w':=by
 obtain⟨u1,b1,k1,n1,rfl,a1,a4,a3,a2⟩:=hp;have b0:=a1.len_le;apply Ln func106 ntmps106 rfl rfl;refine zh ?_;apply aI (aw w) 1 zo rfl rfl;intro x1 w1 O1 a0 b2 b3 a5;replace a1:=a1.ext a5;replace a4:=a4.ext a5;replace a3:=a3.ext a5;replace a2:=a2.ext a5;refine zh ?_;apply zv (RV.ld (a0.cell 1 rfl) rfl);apply zv (MX (by first|exact a1|exact a4|exact a3|exact a2) L3 rfl);apply zv (RV.assign rfl);apply Q0;apply aF;apply WC.seq;apply WC.block;apply WC.seq;apply WC.region;apply zv (RV.fa rfl);refine zvH (RV.ld (a0.cell 0 rfl) rfl) ?_;refine bR (λw1=>_=w1) (decide ((64:Int)<p.width)) 3 rfl rfl rfl rfl rfl rfl ?_ ?_
 ·intro h1;refine zh ?_;refine zvH (RV.ld (a0.cell 0 rfl) rfl) ?_;refine nE 11 4 rfl h1
 rintro _ rfl;refine zh ?_;refine bR (λw1=>_=w1) (decide ((1000:Int)<p.usual.length)) 2 rfl rfl rfl rfl rfl rfl ?_ ?_
 ·intro h2;refine zh ?_;refine nE 16 3 rfl h2
 rintro _ rfl;refine zh ?_;refine bR (λw1=>_=w1) ((p.base.length:Int) != p.usual.length) 5 rfl rfl rfl rfl rfl rfl ?_ ?_
 ·intro h3;refine zh ?_;apply zv (RV.ld (a0.cell 2 rfl) rfl);apply fe rfl;apply zv (MX (by first|exact a1|exact a4|exact a3|exact a2) L3 rfl);apply fe rfl;apply zv (N0 rfl);apply fe rfl;apply zv (PP rfl rfl);apply Q0;refine nE 20 6 rfl h3
 rintro _ rfl;refine zh ?_;refine zC ?_ ?_
 ·intro hg;refine zh ?_;refine af rfl rfl ⟨by simp only[dK,hg];rfl,a5⟩
 intro hg;refine zh ?_;apply zv (RV.ld (a0.cell 3 rfl) rfl);apply zv (MX (by first|exact a1|exact a4|exact a3|exact a2) L3 rfl);apply zv (RV.fa rfl);apply zv (RV.ld (a0.cell 4 rfl) rfl);apply zv (MX (by first|exact a1|exact a4|exact a3|exact a2) L3 rfl);apply zv (PP rfl rfl);apply zv (N0 rfl);refine bR (λw1=>_=w1) (decide ((65599:Int)<p.check.length)) 4 rfl rfl rfl rfl rfl rfl ?_ ?_
 ·intro h4;refine zh ?_;apply zv (RV.ld (a0.cell 3 rfl) rfl);apply fe rfl;apply zv (MX (by first|exact a1|exact a4|exact a3|exact a2) L3 rfl);apply fe rfl;apply zv (RV.gtr rfl rfl);apply Q0;refine nE 35 5 rfl h4
 rintro _ rfl;refine zh ?_;refine zC ?_ ?_
 ·intro a9;refine zh ?_;refine af rfl rfl ⟨by simp only[dK,a9,Bool.not_true,Bool.and_false,PJ],a5⟩
 intro a9;refine zh ?_;apply zv (RV.ld (a0.cell 1 rfl) rfl);apply zc Pp (gI 0 65535 p.usual u1 w1 a1);rintro v w2 ⟨rfl,a8⟩;refine zh ?_;refine aT (Mv w1) (inB 0 65535 p.base) 3 a8 rfl rfl rfl rfl rfl ?_ ?_
 ·intro h5;refine zh ?_;refine zvH (RV.ld (a8.cell (a0.cell 2 rfl)) rfl) ?_;apply zc Pp (gI 0 65535 p.base b1 w2 (a4.ext a8));rintro v w3 ⟨rfl,a7⟩;refine zh ?_;refine nE 44 4 (a8.J a7) h5
 intro w3 a7;refine zh ?_;refine aT (Mv w1) (inB 0 65535 p.next) 3 a7 rfl rfl rfl rfl rfl ?_ ?_
 ·intro h6;refine zh ?_;refine zvH (RV.ld (a7.cell (a0.cell 4 rfl)) rfl) ?_;apply zc Pp (gI 0 65535 p.next n1 w3 (a2.ext a7));rintro v w4 ⟨rfl,a6⟩;refine zh ?_;refine nE 49 4 (a7.J a6) h6
 intro w4 a6;refine zh ?_;refine aT (Mv w1) (inB (-1) ((p.usual.length:Int)-1) p.check) 5 a6 rfl rfl rfl rfl rfl ?_ ?_
 ·intro h7;refine zh ?_;refine zvH (RV.ld (a6.cell (a0.cell 3 rfl)) rfl) ?_;apply zc Pp (gI (-1) ((p.usual.length:Int)-1) p.check k1 w4 (a3.ext a6));rintro v w5 ⟨rfl,a'⟩;refine zh ?_;refine nE 54 6 (a6.J a') h7
 intro w5 a';refine zh ?_;refine af rfl rfl ⟨by simp only[dK,hg,a9,Bool.not_false,PK],a5.J a'⟩
def uH(row:List Int):∀(l:List Int) (b:Int),(l.foldl (gK row) b=b)\/l.foldl (gK row) b∈l
 |[],b=>.inl rfl
 |n::l,b=>by
  simp only[Lr]
  rcases uH row l (gK row b n)with h|h
  ·rw[h];unfold gK;split
   ·right;simp
   left;rfl
  right;simp[h]
def A2(row:List Int)(h:0<row.length):bN row∈row:=by
 rcases uH row row (nth row 0)with e|e
 ·rw[bN,e];exact aJ h
 exact e
def mZ(f:Ent->Int):∀(A:List Ent) (l:List Int) (n:Int),n∈dh f A l->n∈l\/∃x∈A,n=f x
 |[],l,n,h=>.inl h
 |x::A,l,n,h=>by
  rcases mZ f A (l.set x.1 (f x)) n h with h|⟨y,hy,he⟩
  ·rcases Nf h with h|h
   ·exact .inl h
   exact .inr ⟨x,by simp,h⟩
  exact .inr ⟨y,by simp[hy],he⟩
def vS{lo hi:Int}(h:∀n∈l,lo<=n/\n<=hi):inB lo hi l=true:=by
 rw[inB,M4];intro n hn;have:=h n hn;simp[this]
def C3{lo hi:Int}(h:inB lo hi l=true){n:Int}(hn:n∈l):lo<=n/\n<=hi:=by
 rw[inB,M4]at h;simpa using h n hn
def CY(a0:Int)(L:List (List Int))(hw:∀r∈L,r.length<=64)(a2:∀r∈L,inB 0 65535 r=true):∀k,k<=L.length->
  let q:=(L.take k).foldl PSt.lay ⟨a0,[],[],[],[]⟩
  ∃A:List Ent,q.check=ft A/\q.next=kP A/\q.base.length=k/\q.check.length<=64*k/\(∀b∈q.base,0<=b/\b<=64*(k:Int))/\∀x∈A,x.2.1<k/\0<=x.2.2/\x.2.2<=65535:=by
 intro k
 induction k with
 |zero=>intro _;exact⟨[],rfl,rfl,rfl,ln _,by simp,by simp⟩
 |succ k ih=>
  intro hk;obtain⟨A,h1,h2,h3,h4,h5,h6⟩:=ih zo;have hm:=aJ (l:=L) (j:=k) zo;have hr:=a2 _ hm;rw[aG zo,Ly];generalize (L.take k).foldl PSt.lay ⟨a0,[],[],[],[]⟩=q at *;simp only[Lr,MO];generalize nth L k=row at *;obtain⟨e1,e2⟩:=tG q A row h1 h2;obtain⟨l1,l2,l3,l4,l5⟩:=gq q row (hw _ hm) (by rw[h1,h2,lV,eW]);obtain⟨m1,m2,m3⟩:=tH q row;have hb:=(iH q.check (bM row (bN row))).2.1;refine⟨_,e1,e2,zo,zo,λb a1=>?_,λx hx=>?_⟩
  ·rw[m1]at a1
   rcases My.1 a1 with h|h
   ·have:=h5 b h;omega
   simp only[Lu]at h;subst h;omega
  rcases My.1 hx with h|h
  ·have:=h6 x h;omega
  simp only[cN,Mw]at h;obtain⟨c,hc,rfl⟩:=h;have:=C3 hr (aJ (jx hc));exact⟨by dsimp only;omega,this⟩
def yk(width:Int)(L:List (List Int))(a1:cp width L=false):dK (jc width L)=true:=by
 obtain⟨a5,a4,hL,a0,a2⟩:=lT a1;have a3:∀r∈L,inB 0 65535 r=true:=λr hr=>by
  have h2:(!cp width L)=true:=by rw[a1];rfl
  rw[rF,M5]at h2;have:=M4.1 h2.2 r hr;rw[xy,M5]at this;exact this.2
 obtain⟨A,h1,h2,h3,h4,h5,h6⟩:=CY width L a2 a3 L.length (MG _);rw[Ll]at h1 h2 h3 h4 h5;obtain⟨s1,s2,s3,s4,s5,_,_⟩:=nh width L a2;have hq:L.foldl PSt.lay ⟨width,[],[],[],[]⟩=jc width L:=rfl;rw[hq]at h1 h2 h3 h4 h5;generalize jc width L=q at *;have a6:q.usual.length=L.length:=by rw[s1];simp
 have b1:inB 0 65535 q.usual=true:=vS λn hn=>by
  rw[s1]at hn;obtain⟨r,hr,rfl⟩:=Mw.1 hn;exact C3 (a3 r hr) (A2 r (by have:=a0 r hr;omega))
 have b2:inB 0 65535 q.base=true:=vS λn hn=>by have:=h5 n hn;omega
 have b3:inB 0 65535 q.next=true:=vS λn hn=>by
  rw[h2]at hn
  rcases mZ _ _ _ _ hn with h|⟨x,hx,rfl⟩
  ·have:=Nj h;omega
  exact(h6 x hx).2
 have b4:inB (-1) ((q.usual.length:Int)-1) q.check=true:=vS λn hn=>by
  rw[h1]at hn
  rcases mZ _ _ _ _ hn with h|⟨x,hx,rfl⟩
  ·have:=Nj h;omega
  have:=(h6 x hx).1;unfold iN;omega
 simp only[dK,b1,b2,b3,b4,Bool.and_true];have c1:¬q.width<1:=zo;have c2:¬64<q.width:=zo;have c3:¬(1000:Int)<q.usual.length:=zo;have c4:¬(65599:Int)<q.check.length:=zo;have c5:(q.base.length:Int)=q.usual.length:=zo;have c6:(q.check.length:Int)=q.next.length:=zo;simp[c1,c2,c3,c5,c6];omega
def getM(p:PSt)(r c:Nat):Int:=
 let k:=(nth p.base r).toNat+c
 if k<p.check.length/\nth p.check k=r then nth p.next k else nth p.usual r
structure OkP(p:PSt):Prop where
 w1:1<=p.width
 w2:p.width<=64
 rows:p.usual.length<=1000
 bl:p.base.length=p.usual.length
 cl:p.check.length=p.next.length
 c2:p.check.length<=65599
 base:∀r,r<p.base.length->0<=nth p.base r/\nth p.base r<=65535
def okP(p:PSt)(h:dK p=true):OkP p:=by
 simp only[dK,M5,Ni,MY,decide_eq_false_iff_not,bne_eq_false_iff_eq]at h;obtain⟨⟨⟨⟨⟨h1,h2⟩,h3⟩,h4⟩,h5,h6⟩,⟨⟨h7,h8⟩,h9⟩,a0⟩:=h;exact⟨zo,zo,zo,zo,zo,zo,λr hr=>C3 h8 (aJ hr)⟩
def Ju(p:PSt)(ok:OkP p)(u1 b1 k1 n1:ix)(pb r c:Nat)(w:Lj)(hu:Nc w u1 p.usual)(hb:Nc w b1 p.base)(hk:Nc w k1 p.check)(hn:Nc w n1 p.next)
  (hc:∀j u,(#[nI p.width,u1,b1,k1,n1]:Array ix)[j]? = some u->w.cell? ⟨pb,j,none⟩=some u) (hr:r<p.base.length) (a3:c<64) :
  Nz M8 107 [nP pb,nI r,nI c] w λv w'=>v=nI (getM p r c)/\w=w':=by
 obtain⟨o1,o2,o3,o4,o5,o6,o7⟩:=ok;have a1:=o7 r hr;obtain⟨b,a0⟩:=P2 a1.1;have hg:getM p r c=if b+c<p.check.length/\nth p.check (b+c)=r then nth p.next (b+c)else nth p.usual r:=by simp only[getM,a0];rfl
 apply Ln func107 ntmps107 rfl rfl;refine zg ?_
 refine zvG (RV.ld (hc 2 _ rfl) rfl) ?_;apply zv (M6 hb L3 (LN _) rfl rfl _ rfl zo)
 apply zv (RV.ld (hb.ld hr) rfl);have a2:nI (nth p.base r)=nI (b:Int):=by rw[a0]
 rw[a2];refine zg ?_;refine zvG (NM rfl rfl (Nq zo)) ?_;apply zv (RV.ld (hc 3 _ rfl) rfl);refine zvG (MX hk L3 rfl) ?_
 by_cases h1:b+c<p.check.length
 ·apply ax (d:=24) rfl (b':=true) (decide_eq_true zo);refine zg ?_
  refine zvG (RV.ld (hc 3 _ rfl) rfl) ?_;refine zvG (M6 hk L3 (LN _) rfl rfl _ rfl zo) ?_
  refine zvG (RV.ld (hk.ld h1) rfl) ?_;refine zC ?_ ?_
  ·intro he;replace he:nth p.check (b+c)=r:=by simpa using he
   rw[ap ⟨h1,he⟩]at hg;refine zg ?_;refine zvG (RV.ld (hc 4 _ rfl) rfl) ?_;apply zv (M6 hn L3 (LN _) rfl rfl (b+c) rfl zo);refine zvG (RV.ld (hn.ld (i:=b+c) zo) rfl) ?_;refine af rfl rfl ⟨by rw[hg],rfl⟩
  intro he;replace he:¬nth p.check (b+c)=r:=by simpa using he
  rw[am (λh=>he h.2)]at hg;refine zg ?_;refine zvG (RV.ld (hc 1 _ rfl) rfl) ?_;apply zv (M6 hu L3 (LN _) rfl rfl _ rfl zo);refine zvG (RV.ld (hu.ld (i:=r) zo) rfl) ?_;refine af rfl rfl ⟨by rw[hg],rfl⟩
 rw[am (λh=>h1 h.1)]at hg;apply ax (d:=24) rfl (b':=false) (decide_eq_false zo);refine zg ?_;apply zFG rfl rfl;refine zvG (RV.ld (hc 1 _ rfl) rfl) ?_;apply zv (M6 hu L3 (LN _) rfl rfl _ rfl zo);refine zvG (RV.ld (hu.ld (i:=r) zo) rfl) ?_;refine af rfl rfl ⟨by rw[hg],rfl⟩
def FN(p:PSt)(r:Nat):List Int:=(LD p.width.toNat).map (getM p r)
def im(p:PSt):List (List Int):=(LD p.usual.length).map (FN p)
def gU(p:PSt)(r c:Nat):List Int:=(LD c).map (getM p r)++ka (p.width.toNat-c) 0
def CM(p:PSt)(r c:Nat)(h:c<p.width.toNat):(gU p r c).set c (getM p r c)=gU p r (c+1):=by
 simp only[gU];rw[List.set_append_right _ _ (by simp),Nn,Mz];obtain⟨d,hd⟩:∃d,p.width.toNat-c=d+1:=⟨p.width.toNat-c-1,zo⟩
 rw[hd,show p.width.toNat-(c+1)=d from by omega];simp[List.replicate_succ]
def uX(p:PSt)(r c:Nat)(h:c<=p.width.toNat):(gU p r c).length=p.width.toNat:=by simp[gU];omega
def CN(p:PSt)(r:Nat):gU p r p.width.toNat=FN p r:=by simp[gU,FN]
def iy(f:Nat->List Int)(n i:Nat)(h:i<n):nth ((LD n).map f) i=f i:=by
 rw[aB (by simpa using h)];simp
def LH:Q9 M8 50 22 1 24:=⟨MD,by kernel_rfl,zd⟩
def vk(p:PSt)(pv:ix)(w:Lj)(hp:PkV w pv p):
  Nz M8 63 [pv] w λv w'=>∃rv,v=.tuple #[rv,.bool (dK p)]/\(if dK p then Rows w' rv (im p)else rv=nS)/\Mv w w':=by
 have d2:=hp;obtain⟨u1,b1,k1,n1,rfl,hu,hb,hk,hn⟩:=hp;apply Ln func63 ntmps63 rfl rfl;refine zg ?_;apply aI (aw w) 1 zo rfl rfl;intro x1 w1 O1 c5 e2 e5 d0;refine zg ?_;apply zv (ah c5.V (NQ _) (MJ _) rfl);apply zc call106 (Bm p _ w1 (d2.ext d0));rintro v w2 ⟨rfl,c'⟩;have hE:=d0.J c';have hc:∀w',Mv w2 w'->∀j u,(#[nI p.width,u1,b1,k1,n1]:Array ix)[j]? = some u->w'.cell? ⟨x1,j,none⟩=some u:=λw' e j u hu=>e.cell (c'.cell (c5.cell j hu))
 replace hu:=hu.ext hE;replace hb:=hb.ext hE;replace hk:=hk.ext hE;replace hn:=hn.ext hE;refine zg ?_;refine zC ?_ ?_
 ·intro hg;replace hg:dK p=false:=by simpa using hg
  refine zg ?_;refine cj rfl rfl rfl ⟨_,by rw[hg],by rw[hg];rfl,hE⟩
 intro hg;replace hg:dK p=true:=by simpa using hg
 have ok:=okP p hg;obtain⟨o1,o2,o3,o4,o5,o6,o7⟩:=ok;have ok:=okP p hg;obtain⟨n,c6⟩:∃n:Nat,p.width=n:=P2 zo;have a':p.width.toNat=n:=by omega
 refine zg ?_;apply zv (RV.ld (hc _ (Lk _) 1 _ rfl) rfl)
 refine zvG (MX (by first|exact hu) L3 rfl) ?_;apply zlp (λx:Nat×(Nat->Nat)×World×ix×List ix=>[(1,nP x1),(4,x.2.2.2.1),(13,nI p.usual.length),(14,nI x.1)]) (λx=>x.2.2.1) (λx=>x.1<=p.usual.length/\Nl (λv=>[v]) 22 1 x.2.1 x.2.2.1 16 x.2.2.2.1 x.2.2.2.2/\x.2.2.2.2.length=x.1/\(∀i,i<x.1->Nc x.2.2.1 (nth x.2.2.2.2 i) (FN p i)/\Nh x.2.1 x.2.2.1 (nth x.2.2.2.2 i))/\M1 (λj=>j=16) (λ_=>0) w2 x.2.1 x.2.2.1) (λx=>p.usual.length-x.1) (0,(λ_=>0),w2,nS,[]) ⟨ln _,LU _ _ _ _ _ _,rfl,λi hi=>absurd hi (Lo i),MA zd _ _⟩
 rintro⟨k,O3,w3,ov,vs⟩ ⟨d7,b3,a9,a0,b2⟩;dsimp only at d7 b3 a9 a0 b2 ⊢;have b9:=b2.ext;have c9:=(aw w2).U b2;refine zg ?_;refine zC ?_ ?_
 ·intro b4;replace b4:k<p.usual.length:=by have:=of_decide_eq_true b4;omega
  refine zg ?_;apply zv (RV.ld (hc _ b9 0 _ rfl) rfl)
  apply cY mE (val:=λn:Int=>nI n) (0:Int) zk (λ_=>rfl) (aw w3) 15 zd n rfl rfl c6 c6 zo zo rfl;intro w4 O4 lv d5 d6 e0 e4 e6;have a4:iQ O4 w4 15 lv (gU p k 0):=by simpa[gU,a']using d6
  have b6:=a4.sl;have a2:(gU p k 0).length=n:=by rw[uX _ _ _ (ln _),a']
  refine zg ?_;refine zvG (MX (by first|exact b6) L3 rfl) ?_
  have b':nI ((gU p k 0).length:Int)=nI (n:Int):=by rw[a2]
  rw[b'];apply zlp (λy:Nat×Lj=>[(1,nP x1),(4,ov),(5,nI k),(6,lv),(13,nI p.usual.length),(14,nI k),(21,nI n),(22,nI y.1)]) (λy=>y.2) (λy=>y.1<=n/\iQ O4 y.2 15 lv (gU p k y.1)/\M1 (λj=>j=15) (λ_=>0) w3 O4 y.2) (λy=>n-y.1) (0,w4) ⟨ln _,a4,e0⟩;rintro⟨c,w5⟩ ⟨d9,a3,a6⟩;dsimp only at d9 a3 a6 ⊢;have a7:=b9.J a6.ext;have b5:=a3.sl;have c7:(gU p k c).length=n:=by rw[uX _ _ _ zo,a']
  refine zg ?_;refine zC ?_ ?_
  ·intro a1;replace a1:c<n:=by have:=of_decide_eq_true a1;omega
   refine zg ?_;apply zc call107 (Ju p ok u1 b1 k1 n1 x1 k c w5 (hu.ext a7) (hb.ext a7) (hk.ext a7) (hn.ext a7) (hc _ a7) zo zo)
   rintro v _ ⟨rfl,rfl⟩;apply zv (M6 (by first|exact b5) L3 (LN _) rfl rfl _ rfl zo);apply NC a3 c zo (getM p k c) (LN _) rfl zo rfl rfl rfl rfl;intro w6 b0 d';rw[CM _ _ _ zo]at b0;refine zg ?_;refine zvG (NM rfl rfl (Nq zo)) ?_;refine zxd (c+1,w6) ⟨a1,b0,a6.J d'⟩
  intro b7;obtain rfl:c=n:=by have:=of_decide_eq_false b7;omega
  have b0:Nc w5 lv (FN p k):=by have:=a3.sl;rw[<-a',CN]at this;exact this
  have c8:Nh O3 w5 lv:=a3.free zd ((aw w3).U a6) c9;have a8:=a6.ext;have b8:M1 (λ_=>False) O3 w3 O3 w5:=aa (λh=>h) O3 a8;have d4:=b3.U b8 zd (λh=>h);have e1:=c9.ext a8;subst d5;refine zg ?_;apply Mu LH d4 e1 ((PN (some ⟨w3.heap.size,0,none⟩) c c)) (λ_=>rfl) rfl rfl rfl (by simp[Lm]) zo zo zo zd rfl rfl;intro d1 w7 O7 d3 a5 e3;refine zg ?_;refine zvG (NM rfl rfl (Nq zo)) ?_;refine zxd (k+1,O7,w7,d1,vs++[PN (some ⟨w3.heap.size,0,none⟩) c c]) ⟨b4,d3,by simp[a9],?_,(b2.J (aa zd O3 a8)).J a5⟩;intro i hi;dsimp only at hi ⊢;rw[az,a9]
  split
  ·rename_i h;obtain⟨g1,g2⟩:=a0 i h;exact⟨(g1.ext a8).U (g2.U b8) a5,(g2.U b8).U a5⟩
  rename_i h;obtain rfl:i=k:=by omega
  rw[MR,ao];exact⟨b0.U c8 a5,c8.U a5⟩
 intro d8;obtain rfl:k=p.usual.length:=by have:=of_decide_eq_false d8;omega
 refine zg ?_;refine cj rfl rfl rfl ⟨_,by rw[hg],by rw[hg,ap rfl];exact⟨vs,b3.sl,by simp[a9,im],λi hi=>by simp only[im,Np,Ps]at hi;rw[im,iy _ _ _ hi];exact(a0 i hi).1⟩,hE.J b9⟩
def rq(f:Ent->Int)(s:Nat):∀(A:List Ent) (l:List Int),(∀x∈A,x.1<l.length)->(∀x∈A,x.1≠s)->nth (dh f A l) s=nth l s
 |[],_,_,_=>rfl
 |x::A,l,h,hs=>by
  have:=rq f s A (l.set x.1 (f x)) (λy hy=>by simpa using h y (by simp[hy])) (λy hy=>hs y (by simp[hy]));simp only[dh,Lr]at this ⊢;rw[this,bm (h x (by simp)),am (λe=>hs x (by simp) e.symm)]
def lI(f:Ent->Int):∀(A:List Ent) (l:List Int),(A.map (·.1)).Nodup->(∀x∈A,x.1<l.length)->∀x∈A,nth (dh f A l) x.1=f x
 |[],_,_,_,x,hx=>by simp at hx
 |y::A,l,hn,h,x,hx=>by
  simp only[NX,NO,Mw]at hn;have hl:∀z∈A,z.1<(l.set y.1 (f y)).length:=λz hz=>by simpa using h z (by simp[hz])
  rcases NW.1 hx with rfl|hx
  ·have:=rq f x.1 A (l.set x.1 (f x)) hl (λz hz e=>hn.1 ⟨z,hz,e⟩);simp only[dh,Lr]at this ⊢;rw[this,bm (h x (by simp)),ap rfl]
  have:=lI f A (l.set y.1 (f y)) hn.2 hl x hx;simpa only[dh,Lr]using this
def D8{A:List Ent}(hn:(A.map (·.1)).Nodup){s:Nat}(h:nth (ft A) s=r)(hs:s<dM A):∃x∈A,x.1=s/\x.2.1=r:=by
 have h1:=ry A s (ka (dM A) (-1)) (by simpa using hs) (λy hy=>by simpa using eL hy);have h2:nth (ka (dM A) (-1:Int)) s = -1:=by rw[aB (by simpa using hs)];simp
 rw[h2]at h1;have h3:=h1.1 (by rw[ft]at h;rw[h];omega);simp only[ne_eq,not_true,or_false,Nk]at h3;obtain⟨x,hx,he⟩:=h3;have he:x.1=s:=by simpa using he
 refine⟨x,hx,he,?_⟩;have h4:=lI iN A (ka (dM A) (-1)) hn (λy hy=>by simpa using eL hy) x hx;rw[he]at h4;rw[ft,h4]at h;unfold iN at h;omega
structure BInv(width:Int)(L:List (List Int))(k:Nat)(A:List Ent)(q:PSt):Prop where
 chk:q.check=ft A
 nxt:q.next=kP A
 bl:q.base.length=k
 b0:∀b∈q.base,0<=b
 us:q.usual=(L.take k).map bN
 nd:(A.map (·.1)).Nodup
 mem:∀x:Ent,x∈A↔x.2.1<k/\∃c,c<(nth L x.2.1).length/\nth (nth L x.2.1) c≠bN (nth L x.2.1)/\x.1=(nth q.base x.2.1).toNat+c/\x.2.2=nth (nth L x.2.1) c
def rH:c∈bM row u↔c<row.length/\nth row c≠u:=by simp[bM,eV]
def Mn(a0:Int)(L:List (List Int)):∀k,k<=L.length->∃A,BInv a0 L k A ((L.take k).foldl PSt.lay ⟨a0,[],[],[],[]⟩):=by
 intro k
 induction k with
 |zero=>intro _;exact⟨[],⟨rfl,rfl,rfl,by simp,rfl,by simp,λx=>by simp⟩⟩
 |succ k ih=>
  intro hk;obtain⟨A,h⟩:=ih zo;rw[aG zo,Ly];generalize (L.take k).foldl PSt.lay ⟨a0,[],[],[],[]⟩=q at *;simp only[Lr,MO];obtain⟨e1,e2⟩:=tG q A (nth L k) h.chk h.nxt;obtain⟨m1,m2,m3⟩:=tH q (nth L k);have a3:=(iH q.check (bM (nth L k) (bN (nth L k)))).1;rw[dR,M4,h.chk]at a3;rw[h.chk]at e1 e2 m1;generalize hb:gZ (ft A) (bM (nth L k) (bN (nth L k)))=b at *;rw[h.bl]at e1 e2;have a1:∀r,r<k->nth (q.base++[(b:Int)]) r=nth q.base r:=λr hr=>by rw[az,ap (by rw[h.bl];exact hr)]
  have a4:nth (q.base++[(b:Int)]) k=b:=by rw[az,h.bl,am (Nat.lt_irrefl _),MR,ao]
  refine⟨_,⟨e1,e2,by rw[m1];simp[h.bl],λn hn=>?_,by rw[m2,h.us,aG zo];simp,?_,λx=>?_⟩⟩
  ·rw[m1]at hn
   rcases My.1 hn with h1|h1
   ·exact h.b0 n h1
   simp only[Lu]at h1;subst h1;omega
  ·rw[Mz,List.nodup_append];refine⟨h.nd,?_,λs hs s' a2 e=>?_⟩
   ·simp only[cN,PQ];rw[List.nodup_iff_pairwise_ne,List.pairwise_map];exact(oq (nth L k) (bN (nth L k))).imp (fun {a c} a6 e=>a6 (by simpa using e))
   subst e;simp only[cN,PQ,Mw,Q8]at a2;obtain⟨c,hc,rfl⟩:=a2;obtain⟨y,hy,a5⟩:=Mw.1 hs;have h2:=a3 c hc;rw[nK,Ni]at h2;have h3:=Mt.1 h2 y hy;exact h3 (by simp[a5])
  rw[My,h.mem,m1]
  constructor
  ·rintro(⟨h1,c,h2,h3,h4,h5⟩|h1)
   ·exact⟨zo,c,h2,h3,by rw[a1 _ h1];exact h4,h5⟩
   simp only[cN,Mw]at h1;obtain⟨c,hc,rfl⟩:=h1;obtain⟨c1,c2⟩:=rH.1 hc;exact⟨by dsimp only;omega,c,c1,c2,by dsimp only;rw[a4];simp,rfl⟩
  rintro⟨h1,c,h2,h3,h4,h5⟩
  by_cases hr:x.2.1<k
  ·exact .inl ⟨hr,c,h2,h3,by rw[a1 _ hr]at h4;exact h4,h5⟩
  obtain⟨x1,x2,x3⟩:=x;dsimp only at h1 h2 h3 h4 h5 hr;obtain rfl:x2=k:=zo;right;rw[a4]at h4;simp only[cN,Mw];exact⟨c,rH.2 ⟨h2,h3⟩,by rw[h4,h5];simp⟩
def DE(a0:Int)(L:List (List Int))(r c:Nat)(hr:r<L.length)(hc:c<(nth L r).length):getM (jc a0 L) r c=nth (nth L r) c:=by
 obtain⟨A,h⟩:=Mn a0 L L.length (MG _);rw[Ll]at h;have hq:L.foldl PSt.lay ⟨a0,[],[],[],[]⟩=jc a0 L:=rfl;rw[hq]at h;generalize jc a0 L=q at *;have a1:nth q.usual r=bN (nth L r):=by rw[h.us,Ll,cz hr]
 unfold getM;rw[h.chk,h.nxt,eW,a1]
 by_cases hu:nth (nth L r) c=bN (nth L r)
 ·rw[am,hu];rintro⟨h1,h2⟩;obtain⟨x,hx,e1,e2⟩:=D8 h.nd h2 h1;obtain⟨g1,c',g2,g3,g4,g5⟩:=(h.mem x).1 hx;rw[e2]at g2 g3 g4;have:c'=c:=zo;subst this;exact g3 hu
 have hx:(((nth q.base r).toNat+c,r,nth (nth L r) c):Ent)∈A:=(h.mem _).2 ⟨by simpa using hr,c,hc,hu,rfl,rfl⟩;have h1:=eL hx;have h2:=lI iN A (ka (dM A) (-1)) h.nd (λy hy=>by simpa using eL hy) _ hx;have h3:=lI KE A (ka (dM A) 0) h.nd (λy hy=>by simpa using eL hy) _ hx;dsimp only at h1;rw[ap ⟨h1,h2⟩];exact h3
def _root_.Go.VL.BlkO.ext{cs:Array ix}(h:MN O w i b cs E)(e:Mv w w'):MN O w' i b cs E:=⟨by rw[e.block b (bH h.blk)];exact h.blk,h.tag⟩
def RowsG.U{S:Nat->Prop}{B:Nat}{O O':Nat->Nat}{w0 w w':Lj}{v:ix}{rows:List (List Nat)}(h:PO w0.heap.size w v rows)(r:NF B O w0)(u:M1 S O w O' w'):PO w0.heap.size w' v rows:=by
 obtain⟨vs,h1,h2,h3,h4⟩:=h;exact⟨vs,h1.U (h2.free h1 (λx _=>by simp) r) u,h2,h3,λi hi=>⟨(h4 i hi).1.U ((h4 i hi).2.free (h4 i hi).1 (λx _=>by simp) r) u,(h4 i hi).2⟩⟩
def _root_.Go.VL.NewV.slU{S:Nat->Prop}{O':Nat->Nat}{w0:Lj}{l:List Nat}(h:P7 w0.heap.size v)(hs:Sl fq 1 w v l)(r:NF B O w0)(u:M1 S O w O' w'):Sl fq 1 w' v l:=hs.U (h.free hs (λx _=>by simp) r) u
def dd(l:List Int):Nat:=l.foldl (λb c=>b ||| 2^c.toNat) 0
def mY(h:∀c∈l,0<=c/\c<=35):dd l<2^36:=by
 have a0:∀(l:List Int) (b:Nat),(∀c∈l,0<=c/\c<=35)->b<2^36->l.foldl (λb c=>b ||| 2^c.toNat) b<2^36:=λl=>by
  induction l with
  |nil=>exact λb _ hb=>hb
  |cons c l ih=>exact λb h hb=>ih _ (λx hx=>h x (by simp[hx])) (NH hb (Nx zd (by have:=h c (by simp);omega)))
 exact a0 l 0 h zd
def uR(h:i<l.length):dd (l.take (i+1))=dd (l.take i) ||| 2^(nth l i).toNat:=by
 unfold dd;rw[aG h,Ly];rfl
def py(l:List Int)(sv:ix)(w:Lj)(h:Sl encI 1 w sv l)(hr:∀c∈l,0<=c/\c<=35):Nz M8 23 [sv] w λv w'=>v=.int .u64 ((dd l:Nat):Int)/\w'=w:=by
 have hl:=h.len_le;have a1:PI.max=18446744073709551615:=rfl;apply Ln func23 ntmps23 rfl rfl;refine zh ?_;apply zlp (λz:Nat=>[(3,.int .u64 ((dd (l.take z):Nat):Int)),(6,sv),(7,nI l.length),(8,nI z)]) (λz=>w) (λz=>z<=l.length) (λz=>l.length-z) 0 (ln _);intro i hi;refine zh ?_;refine zC ?_ ?_
 ·intro a0;replace a0:i<l.length:=dT a0;have hc:=hr _ (aJ a0);have m1:w.cell? (adr sv 1 i)=some (nI (nth l i)):=by have:=h.cell (i:=i) (j:=0) a0 rfl;rwa[ar]at this
  obtain⟨c,a3⟩:∃c:Nat,nth l i=(c:Int):=⟨(nth l i).toNat,zo⟩
  have hs:=uR a0;rw[a3]at m1 hs;simp only[PB]at hs;have a7:dd (l.take i)<2^36:=mY λx hx=>hr x (Nv hx)
  have a6:2^c<=2^35:=N1 zd zo;have a5:(2^35:Nat)=34359738368:=zd;have a4:(2^36:Nat)=68719476736:=zd;refine zh ?_;apply zv (lj (a:=1) (b:=c) rfl rfl rfl rfl (by show _<=64;omega) (by show _<=(18446744073709551615:Int);omega));rw[NN];refine zvH (mQ (a:=dd (l.take i)) (b:=2^c) rfl rfl rfl rfl (by show _<=(18446744073709551615:Int);omega) (by show _<=(18446744073709551615:Int);omega)) ?_;rw[<-hs];refine zxd (i+1) a0
 intro a2;obtain rfl:i=l.length:=dF a2;rw[Ll];refine zh ?_;refine af rfl rfl ⟨rfl,rfl⟩
def stM(se:Bool)(ts:List Nd):Option (List (List Nat)×List Nat):=if dS ts=0 then D2 (cD se (dy ts)) (df (dy ts))else none
def Cls(cl:Nat->Nat)(d:List (List Nat)×List Nat):Prop:=∀p q,p<d.1.length->q<d.1.length->(cl p=cl q↔Alike (nxD d.1) (nth d.2) p q)
def PostSt(B:Nat)(w:Lj)(v:ix):Option (List (List Nat)×List Nat)->Prop
 |some d=>∃cl nv tv,v=.tuple #[.agg #[nv,tv],nI 0]/\nv.oneCell'=true/\tv.oneCell'=true/\RightD d.1 d.2/\Cls cl d/\PO B w nv (aV cl d.1 d.2).1/\Sl fq 1 w tv (aV cl d.1 d.2).2/\P7 B tv
 |none=>∃e:Int,e≠0/\v=.tuple #[.agg #[nS,nS],nI e]
def C8{ts:List Nd}(h:dS ts=0):ts.length<=40/\(∀t∈ts,aZ t=true)/\1+aA ts<=1000:=by
 unfold dS at h
 split at h
 ·cases h
 split at h
 ·cases h
 rename_i h1 h2
 split at h
 ·cases h
 rename_i h3;refine⟨zo,λt ht=>?_,zo⟩;have:ts.any (λt=>!aZ t)=false:=by simpa using h2
 have:=Mt.1 this t ht;simpa using this
set_option maxHeartbeats 1000000 in
def rn(se:Bool)(ts:List Nd)(xs:List N3)(sv:ix)(w:Lj)(hs:Sl aY 3 w sv xs)(hl:ts.length=xs.length)(hk:∀i,i<xs.length->Nt (λ_=>0) w (nth ts i) (nth xs i)):
  Nz M8 24 [.bool se,sv] w λv w'=>Mv w w'/\PostSt w.heap.size w' v (stM se ts):=by
 apply Ln func24 ntmps24 rfl rfl;refine zh ?_
 apply au (aw w) 1 zo (NA _) rfl;intro cb w1 O1 c6 e2 e5 d4;refine zh ?_
 apply zc call50 (Ji se ts xs sv w1 (hs.ext d4) hl (λi hi=>(hk i hi).ext d4));rintro _ w2 ⟨nb,rfl,e',e6⟩;have c8:M1 (λ_=>False) O1 w1 O1 w2:=aa (λh=>h) O1 e';have a2:=c6.U c8 zd (λh=>h);have e4:=e5.U c8;have b2:=e2.J (c8.mono (λ_ h=>h.elim) zd);refine zh ?_
 by_cases he:dS ts=0
 ·have hD:=e6 he;obtain⟨f5,a4,f4⟩:=C8 he;obtain⟨a',a3⟩:=iq a4;obtain⟨d5,h0⟩:=pL ts;have d9:=rG a' a3;have d':∀q,(dy ts).en q<=40:=λq=>by have:=C6 ts q;omega
  have b6:stM se ts=D2 (cD se (dy ts)) (df (dy ts)):=by unfold stM;rw[ap he]
  have d8:C7 nb (dS ts)=nP nb:=by unfold C7;rw[ap he]
  rw[d8,he,b6];refine zFH rfl rfl ?_;have hC:=D4 nb se (dy ts) w2 hD d5 h0 (Jg ts) zo d';generalize hd:D2 (cD se (dy ts)) (df (dy ts))=D at hC b6 ⊢;apply zc call51 hC;rintro v w3 ⟨e9,hP⟩;have c7:M1 (λ_=>False) O1 w2 O1 w3:=aa (λh=>h) O1 e9;have b1:=a2.U c7 zd (λh=>h);have d3:=e4.U c7;have a8:=b2.J (c7.mono (λ_ h=>h.elim) zd)
  cases D with
  |none=>
   obtain rfl:=hP;refine zh ?_;apply au d3 2 zo (NA _) rfl;intro db w4 O4 a0 b8 e3 e8;apply zsa (us:=#[nS,nS]) a0 (Na _);have b7:M1 (λj=>j=2) O4 w4 O4 (w4.setRow db #[nS,nS]):=Lq zd a0.tag rfl;have a6:=(b1.U b8 zd zd).U b7 zd zd;have c':=(a8.mono (S':=λq=>q=1\/q=2) (λ_ h=>.inl h) zd).J ((b8.J b7).mono (λ_ h=>.inr h) zd);generalize w4.setRow db #[nS,nS]=w5 at *;refine zh ?_;refine zTH rfl rfl ?_;refine zvH (aH B2 (NA _) rfl (by first|rfl|(simp only[Li,Lz];rfl)) rfl rfl) ?_;apply zsa (us:=#[nS,nS]) a6 (Na _);have b0:=a6.setRow (us:=#[nS,nS]);have a7:M1 (λj=>j=1) O4 w5 O4 (w5.setRow cb #[nS,nS]):=Lq zd a6.tag rfl;refine zh ?_;refine bz rfl rfl rfl b0.V (Pn _) (Na _) ⟨(c'.J (a7.mono (λ_ h=>.inl h) zd)).ext,7,zd,rfl⟩
  |some d=>
   obtain⟨nv,tv,rfl,o1,o2,d7,d6⟩:=hP;obtain⟨S,f3⟩:=jv hd;have d1:=f3.right;refine zh ?_;apply au (aw w3) 2 zo (NA _) rfl;intro db w4 O4 a0 b8 e3 e8;apply zsb (us:=#[nv,tv]) a0 (Na _) (by simp only[Li,o1,o2];rfl);have c5:=a0.setRow (us:=#[nv,tv]);have b7:M1 (λj=>j=2) O4 w4 O4 (w4.setRow db #[nv,tv]):=Lq zd a0.tag rfl;have a1:Mv w3 (w4.setRow db #[nv,tv]):=(b8.J b7).ext;generalize w4.setRow db #[nv,tv]=w5 at *;refine zh ?_;refine zFH rfl rfl ?_;apply zv (ah (us:=[nv,tv]) c5.V (Pn _) (Na _) rfl);apply zc call52 (yL nv tv d.1 d.2 w5 (d7.ext a1) (d6.ext a1) d1);rintro _ w6 ⟨cl,b5,b4,rfl,p1,p2,e7,e0,b',b9,a9⟩;have b3:=a1.J e7;have a5:=b1.ext b3;have e1:M1 (λq=>q=1) O1 w3 O1 w6:=aa zd O1 b3;have c9:=a8.J e1;have d2:=d3.ext a1;apply zsb (us:=#[b5,b4]) a5 (Na _) (by simp only[Li,p1,p2];rfl);have b0:=a5.setRow (us:=#[b5,b4]);have a7:M1 (λj=>j=1) O1 w6 O1 (w6.setRow cb #[b5,b4]):=Lq zd a5.tag rfl;have d0:w.heap.size<=w5.heap.size:=PS a8.size a1.size;refine zh ?_;refine bz rfl rfl rfl b0.V (Pn _) (Na _) ⟨(c9.J a7).ext,cl,b5,b4,rfl,p1,p2,d1,e0,(b'.U d2 a7).mono d0,a9.slU b9 d2 a7,a9.mono d0⟩
 have b6:stM se ts=none:=by unfold stM;rw[am he]
 rw[b6];refine zTH rfl ((by simpa using he)) ?_;refine zvH (aH B2 (NA _) rfl (by first|rfl|(simp only[Li,Lz];rfl)) rfl rfl) ?_;apply zsa (us:=#[nS,nS]) a2 (Na _);have b0:=a2.setRow (us:=#[nS,nS]);have a7:M1 (λj=>j=1) O1 w2 O1 (w2.setRow cb #[nS,nS]):=Lq zd a2.tag rfl;refine zh ?_;refine bz rfl rfl rfl b0.V (Pn _) (Na _) ⟨(b2.J a7).ext,dS ts,he,rfl⟩
def qg(l:List Int)(n:Int)(sv:ix)(w:Lj)(h:Nc w sv l):Nz M8 110 [sv,nI n] w λv w'=>v=.bool (l.contains n)/\w'=w:=by
 have hl:=h.len_le;apply Ln func110 ntmps110 rfl rfl;refine zh ?_;apply zlp (λz:Nat=>[(0,sv),(1,nI n),(5,nI (z:Nat))]) (λz=>w) (λz=>z<=l.length/\∀i,i<z->nth l i≠n) (λz=>l.length-z) 0 ⟨ln _,λi hi=>absurd hi (Lo i)⟩;rintro k ⟨hk,a1⟩;refine zh ?_;refine zC ?_ ?_
 ·intro a0;replace a0:k<l.length:=dT a0;have m1:w.cell? (adr sv 1 k)=some (nI (nth l k)):=by have:=h.cell (i:=k) (j:=0) a0 rfl;rwa[ar]at this
  refine zh ?_;refine zC ?_ ?_
  ·intro he;have he:nth l k=n:=by simpa using he
   refine zh ?_;refine af rfl rfl ⟨by rw[MB.2 (by rw[<-he];exact aJ a0)],rfl⟩
  intro he;have he:nth l k≠n:=by simpa using he
  refine zh ?_;refine zxd (k+1) ⟨a0,λi hi=>(Lp.1 hi).elim (a1 i) (λe=>by rw[e];exact he)⟩
 intro a2;obtain rfl:k=l.length:=dF a2;have hc:l.contains n=false:=by
  cases e:l.contains n with
  |false=>rfl
  |true=>
   obtain⟨i,hi,e2⟩:=cd (MB.1 e);exact absurd e2 (a1 i hi)
 refine zh ?_;refine af rfl rfl ⟨by rw[hc],rfl⟩
def CG(l l':List Int)(av bv:ix)(w:Lj)(h:Nc w av l)(h':Nc w bv l'):Nz M8 70 [av,bv] w λv w'=>v=.bool (decide (l=l'))/\Mv w w':=by
 have q1:=h.len_le;have q2:=h'.len_le;apply Ln func70 ntmps70 rfl rfl;refine zh ?_;refine zC ?_ ?_
 ·intro a4;have a1:¬l=l':=λe=>by subst e;simp at a4
  refine zh ?_;refine af rfl rfl ⟨by rw[decide_eq_false a1],Lk w⟩
 intro a7;have a9:l.length=l'.length:=by have:=of_decide_eq_true (p:=((l.length:Int)=(l'.length:Int))) (by simpa using a7);omega
 refine zh ?_;apply zlp (λz:Nat×Lj=>[(0,av),(1,bv),(5,nI (z.1:Nat))]) (λz=>z.2) (λz=>z.1<=l.length/\Mv w z.2/\∀i,i<z.1->nth l i=nth l' i) (λz=>l.length-z.1) (0,w) ⟨ln _,Lk w,λi hi=>absurd hi (Lo i)⟩
 rintro⟨k,w1⟩ ⟨hk,hE,a0⟩;dsimp only at hk hE a0 ⊢;have h1:=h.ext hE;have h2:=h'.ext hE;refine zh ?_;refine zC ?_ ?_
 ·intro a3;replace a3:k<l.length:=dT a3;have e1:w1.cell? (adr av 1 k)=some (nI (nth l k)):=by have:=h1.cell (i:=k) (j:=0) a3 rfl;rw[ar]at this;exact this
  have e2:w1.cell? (adr bv 1 k)=some (nI (nth l' k)):=by have:=h2.cell (i:=k) (j:=0) zo rfl;rw[ar]at this;exact this
  refine zh ?_;apply aN (λW=>W.cell? (adr av 1 k)=some (nI (nth l k))/\W.cell? (adr bv 1 k)=some (nI (nth l' k))) 9 rfl zk
  refine zin ⟨e1,e2⟩ λzS=>?_
  apply zrm 0 rfl zS rfl;apply zrm 1 rfl zS rfl
  apply zr 2 rfl zS (λ_=>ai h1.sh L3 (LN _) rfl rfl k rfl zo);apply zt 3 rfl zS (λw1 a2=>RV.ld (by first|exact a2.1|exact a2.2) rfl)
  apply zrm 4 rfl zS rfl;apply zrm 5 rfl zS rfl
  apply zr 6 rfl zS (λ_=>ai h2.sh L3 (LN _) rfl rfl k rfl zo);apply zt 7 rfl zS (λw1 a2=>RV.ld (by first|exact a2.1|exact a2.2) rfl)
  apply zr 8 rfl zS (λ_=>PP rfl rfl);apply MZ zk
  refine zh ?_;refine zC ?_ ?_
  ·intro a4;have a1:¬l=l':=λe=>by subst e;simp at a4
   refine zh ?_;refine af rfl rfl ⟨by rw[decide_eq_false a1],hE.drew⟩
  intro a7;have a6:nth l k=nth l' k:=by simpa using a7
  refine zh ?_;have a8:∀i,i<k+1->nth l i=nth l' i:=λi hi=>(Lp.1 hi).elim (a0 i) (λe=>by rw[e];exact a6)
  refine zxd (k+1,w1.drew) ⟨a3,hE.drew,a8⟩
 intro b0;have a':k=l.length:=dF b0;subst a';have a5:l=l':=Py a9 λi i1 i2=>by have:=a0 i i1;rwa[aB i1,aB i2]at this
 refine zh ?_;refine af rfl rfl ⟨by rw[decide_eq_true a5],hE⟩
def BB(l l':List Int)(av bv:ix)(w:Lj)(h:Nc w av l)(h':Nc w bv l'):Nz M8 13 [av,bv] w λv w'=>v=.bool (decide (l=l'))/\Mv w w':=by
 have q1:=h.len_le;have q2:=h'.len_le;apply Ln func13 ntmps13 rfl rfl;refine zh ?_;refine zC ?_ ?_
 ·intro a4;have a1:¬l=l':=λe=>by subst e;simp at a4
  refine zh ?_;refine af rfl rfl ⟨by rw[decide_eq_false a1],Lk w⟩
 intro a7;have a9:l.length=l'.length:=by have:=of_decide_eq_true (p:=((l.length:Int)=(l'.length:Int))) (by simpa using a7);omega
 refine zh ?_;apply zlp (λz:Nat×Lj=>[(0,av),(1,bv),(5,nI (z.1:Nat))]) (λz=>z.2) (λz=>z.1<=l.length/\Mv w z.2/\∀i,i<z.1->nth l i=nth l' i) (λz=>l.length-z.1) (0,w) ⟨ln _,Lk w,λi hi=>absurd hi (Lo i)⟩
 rintro⟨k,w1⟩ ⟨hk,hE,a0⟩;dsimp only at hk hE a0 ⊢;have h1:=h.ext hE;have h2:=h'.ext hE;refine zh ?_;refine zC ?_ ?_
 ·intro a3;replace a3:k<l.length:=dT a3;have e1:w1.cell? (adr av 1 k)=some (nI (nth l k)):=by have:=h1.cell (i:=k) (j:=0) a3 rfl;rw[ar]at this;exact this
  have e2:w1.cell? (adr bv 1 k)=some (nI (nth l' k)):=by have:=h2.cell (i:=k) (j:=0) zo rfl;rw[ar]at this;exact this
  refine zh ?_;apply aN (λW=>W.cell? (adr av 1 k)=some (nI (nth l k))/\W.cell? (adr bv 1 k)=some (nI (nth l' k))) 9 rfl zk
  refine zin ⟨e1,e2⟩ λzS=>?_
  apply zrm 0 rfl zS rfl;apply zrm 1 rfl zS rfl
  apply zr 2 rfl zS (λ_=>ai h1.sh underlying58 (LN _) rfl rfl k rfl zo);apply zt 3 rfl zS (λw1 a2=>RV.ld (by first|exact a2.1|exact a2.2) rfl)
  apply zrm 4 rfl zS rfl;apply zrm 5 rfl zS rfl
  apply zr 6 rfl zS (λ_=>ai h2.sh L3 (LN _) rfl rfl k rfl zo);apply zt 7 rfl zS (λw1 a2=>RV.ld (by first|exact a2.1|exact a2.2) rfl)
  apply zr 8 rfl zS (λ_=>PP rfl rfl);apply MZ zk
  refine zh ?_;refine zC ?_ ?_
  ·intro a4;have a1:¬l=l':=λe=>by subst e;simp at a4
   refine zh ?_;refine af rfl rfl ⟨by rw[decide_eq_false a1],hE.drew⟩
  intro a7;have a6:nth l k=nth l' k:=by simpa using a7
  refine zh ?_;have a8:∀i,i<k+1->nth l i=nth l' i:=λi hi=>(Lp.1 hi).elim (a0 i) (λe=>by rw[e];exact a6)
  refine zxd (k+1,w1.drew) ⟨a3,hE.drew,a8⟩
 intro b0;have a':k=l.length:=dF b0;subst a';have a5:l=l':=Py a9 λi i1 i2=>by have:=a0 i i1;rwa[aB i1,aB i2]at this
 refine zh ?_;refine af rfl rfl ⟨by rw[decide_eq_true a5],hE⟩
def AP(l:List Int)(sv:ix)(w:Lj)(h:Sl encI 1 w sv l)(hr:∀c∈l,0<=c/\c<=35):Nz M8 12 [sv] w λv w'=>v=.int .u64 ((dd l:Nat):Int)/\w'=w:=by
 have hl:=h.len_le;have a1:PI.max=18446744073709551615:=rfl;apply Ln func12 ntmps12 rfl rfl;refine zh ?_;apply zlp (λz:Nat=>[(0,sv),(3,.int .u64 ((dd (l.take z):Nat):Int)),(4,nI (z:Nat))]) (λz=>w) (λz=>z<=l.length) (λz=>l.length-z) 0 (ln _);intro i hi;refine zh ?_;refine zC ?_ ?_
 ·intro a0;replace a0:i<l.length:=dT a0;have hc:=hr _ (aJ a0);have m1:w.cell? (adr sv 1 i)=some (nI (nth l i)):=by have:=h.cell (i:=i) (j:=0) a0 rfl;rwa[ar]at this
  obtain⟨c,a3⟩:∃c:Nat,nth l i=(c:Int):=⟨(nth l i).toNat,zo⟩
  have hs:=uR a0;rw[a3]at m1 hs;simp only[PB]at hs;have a7:dd (l.take i)<2^36:=mY λx hx=>hr x (Nv hx)
  have a6:2^c<=2^35:=N1 zd zo;have a5:(2^35:Nat)=34359738368:=zd;have a4:(2^36:Nat)=68719476736:=zd;refine zh ?_;apply zv (lj (a:=1) (b:=c) rfl rfl rfl rfl (by show _<=64;omega) (by show _<=(18446744073709551615:Int);omega));rw[NN];refine zvH (mQ (a:=dd (l.take i)) (b:=2^c) rfl rfl rfl rfl (by show _<=(18446744073709551615:Int);omega) (by show _<=(18446744073709551615:Int);omega)) ?_;rw[<-hs];refine zxd (i+1) a0
 intro a2;obtain rfl:i=l.length:=dF a2;rw[Ll];refine zh ?_;refine af rfl rfl ⟨rfl,rfl⟩
def aR(a b:List Nat)(av bv:ix)(w:Lj)(h:Sl aL 1 w av a)(h':Sl aL 1 w bv b)(hl:a.length+b.length<=1000000):
  Nz M8 73 [av,bv] w λv w'=>Sl aL 1 w' v (a++b)/\Mv w w'/\P7 w.heap.size v:=by
 apply Ln func73 ntmps73 rfl rfl;refine zh ?_
 apply mM gE aL (aw w) 1 zd rfl;intro v1 w1 O1 a2 a3 a8;have k1:=h.ext a3.ext;refine zh ?_
 apply dU gE a2 a8 k1 rfl rfl (by simp) (by simp[Lm]) (by simp;omega) (by simp;omega) zd rfl;intro v2 w2 O2 a1 a4 a7;rw[No]at a1;have k2:=h'.ext (a3.J a4).ext;refine zh ?_
 apply dU gE a1 a7 k2 rfl rfl (by simp) (by simp[Lm]) zo zo zd rfl;intro v3 w3 O3 a0 a5 a6;refine zh ?_
 refine af rfl rfl ⟨a0.sl,((a3.J a4).J a5).ext,a0.newV zd a6⟩
def pd(k c m:Int):Bool:=
 if k=3 then m==36 else(decide (0<=m)&&decide (m<=35))&&((k==1||(k==0&&m==c))||(k==2&&m != c))
def Cp{k c m:Int}(h:k=0\/k=1\/k=2\/k=3):pd k c m=ck k c m:=by
 have e:decide (m<=35)=decide (m<36):=decide_eq_decide.2 zo;unfold pd ck;rw[e]
 rcases h with rfl|rfl|rfl|rfl
 ·simp
 ·simp
 ·simp
 simp
def A5(x:N3)(m:Int)(w:Lj)(hx:x.2.2.oneCell'=true):Nz M8 111 [nv x,nI m] w λv w'=>v=.bool (pd x.1 x.2.1 m)/\Mv w w':=by
 obtain⟨k,c,kv⟩:=x;apply Ln func111 ntmps111 rfl rfl;refine zh ?_;apply aI (aw w) 1 zo rfl rfl;intro xb w1 O1 a1 a3 a4 a0;have c0:w1.cell? (nA xb 0)=some (nI k):=a1.cell 0 rfl;have c1:w1.cell? (nA xb 1)=some (nI c):=a1.cell 1 rfl;refine zh ?_;refine zC ?_ ?_
 ·intro h3;have h3:k=3:=by simpa using h3
  refine zh ?_;refine af rfl rfl ⟨by unfold pd;rw[ap h3],a0⟩
 intro h3;have h3:k≠3:=by simpa using h3
 have hT:pd k c m=((decide (0<=m)&&decide (m<=35))&&((k==1||(k==0&&m==c))||(k==2&&m != c))):=by unfold pd;rw[am h3]
 dsimp only;rw[hT];refine zh ?_
 cases b1:decide (0<=m)with
 |false=>
  apply ax (d:=12) rfl (b':=false) rfl;refine zh ?_
  refine af rfl rfl ⟨rfl,a0⟩
 |true=>
  apply ax (d:=12) rfl (b':=true) rfl;refine zh ?_
  cases b2:decide (m<=35)with
  |false=>
   apply ax (d:=16) rfl (b':=false) rfl;refine zh ?_
   refine af rfl rfl ⟨rfl,a0⟩
  |true=>
   apply ax (d:=16) rfl (b':=true) rfl;refine zh ?_
   cases b3:(k==1)with
   |true=>
    apply ax (d:=20) rfl (b':=true) rfl;refine zh ?_
    refine af rfl rfl ⟨rfl,a0⟩
   |false=>
    apply ax (d:=20) rfl (b':=false) rfl;refine zh ?_
    cases b4:(k==0)with
    |true=>
     apply ax (d:=24) rfl (b':=true) rfl;refine zh ?_
     cases b5:(m==c)with
     |true=>
      apply ax (d:=31) rfl (b':=true) rfl;refine zh ?_
      refine af rfl rfl ⟨rfl,a0⟩
     |false=>
      have a2:k=0:=by simpa using b4
      apply ax (d:=31) rfl (b':=false) rfl;refine zh ?_
      apply ax (d:=35) rfl (b':=false) ((by rw[a2];rfl));refine zh ?_
      refine af rfl rfl ⟨by rw[a2];rfl,a0⟩
    |false=>
     apply ax (d:=24) rfl (b':=false) rfl;refine zh ?_
     apply ax (d:=31) rfl (b':=false) rfl
     cases b6:(k==2)with
     |true=>
      apply ax (d:=35) rfl (b':=true) rfl;refine zh ?_
      refine af rfl rfl ⟨by cases (m != c)<;>rfl,a0⟩
     |false=>
      apply ax (d:=35) rfl (b':=false) rfl;refine zh ?_
      refine af rfl rfl ⟨rfl,a0⟩
end Go.Proofs.YtcfhbfflgnbacaaGreatDoor
namespace Go.VL
def vY{α:Type}{enc:α->List ix}{sz:Nat}:∀(l:List α),(∀y∈l,(enc y).length=sz)->∀n,n<l.length->∀x',(l.set n x').flatMap enc=(l.flatMap enc).take (n*sz)++enc x'++(l.flatMap enc).drop (n*sz+sz)
 |[],_,n,h,_=>absurd h (Lo n)
 |a::l,hz,0,_,x'=>by
  have ha:=hz a (by simp);simp only[List.set_cons_zero,ND,Nat.zero_mul,M7,No,NG];rw[Pz,<-ha,List.drop_length,MR,List.drop_zero,No]
 |a::l,hz,n+1,hn,x'=>by
  have ha:=hz a (by simp);have ih:=vY l (λy hy=>hz y (by simp[hy])) n (by simpa using hn) x';simp only[Pi,ND];have e1:(enc a++l.flatMap enc).take ((n+1)*sz)=enc a++(l.flatMap enc).take (n*sz):=by
   rw[Pv,Mp (l:=enc a) (by rw[ha,MQ];omega),ha,show(n+1)*sz-sz=n*sz from by rw[MQ];omega]
  have e2:(enc a++l.flatMap enc).drop ((n+1)*sz+sz)=(l.flatMap enc).drop (n*sz+sz):=by
   have e3:(enc a).drop ((n+1)*sz+sz)=[]:=List.drop_eq_nil_of_le (by rw[ha,MQ];omega);rw[Pz,e3,ha,show(n+1)*sz+sz-sz=n*sz+sz from by rw[MQ];omega,No]
  rw[ih,e1,e2];simp only[ME]
def xD{P:Program}{N:Nat}{ops:Array Oper}{Q:Exit->Act->Lj->Prop}{a3:List Oper}{st:St}{t:Pq}{p:String}{e:Array Edge}{x y:Operand} 
  {T:Pq}        {l:List α} (hr:Nl enc E sz O w i v l) (n:Nat) (hn:n<l.length) (x':α) (hT:(sizeOf T).run P w=.ok sz w) (a1:(enc x').length=sz) (h1:(enc x').all Lm=true) (b1:i≠0)
  {q:Addr} (hx:ev st x=some (.pointer (some q))) (hq:q=adr v sz n) (hy:ev st y=some (.agg (enc x').toArray))
  (h:∀w',Nl enc E sz O w' i v (l.set n x')->M1 (λk=>k=i) O w O w'->WL P N ops Q a3 st w'):WL P N ops Q (⟨none,.store T x y,t,p,e,none⟩::a3) st w:=by
 subst hq;have a4:=vY l hr.2 n hn x';obtain⟨⟨⟨hl,a5⟩,a2⟩,hz⟩:=hr
 rcases a5 with⟨rfl,h0⟩|⟨g,a9,a0,rfl,b6,hg,a',b4,b3,ht⟩
 ·omega
 have a7:∀l:List α,(∀y∈l,(enc y).length=sz)->(l.flatMap enc).length=l.length*sz:=λl=>by
  induction l with
  |nil=>intro _;simp
  |cons a l ih=>intro hz;rw[ND,M0,ih λy hy=>hz y (by simp[hy]),hz a (by simp),MU,MQ];omega
 have a6:=a7 l hz;have b0:n*sz+sz<=l.length*sz:=by rw[<-MQ];exact Nat.mul_le_mul_right _ hn
 have b2:l.length*sz<=a0.size:=by
  have:=congrArg List.length ht;rw[MH,a6]at this;simp only[Ny]at this;omega
 have ha:adr (.slice (some ⟨g,0,none⟩) l.length a9) sz n=⟨g,n*sz,none⟩:=by simp[adr]
 rw[ha]at hx;have b5:MN O w i g a0 E:=⟨hg,a2 g rfl⟩
 refine iI (n*sz) b5 (by simp only[Ng];rw[a1];omega) (by simp only[Ng];rw[a1];exact hT) (by simpa using h1) hx rfl hy (h _ ⟨⟨⟨?_,.inr ⟨g,a9,_,?_,b6,setRow_heap w g a0 _ E (0,0) hg,?_,b4,?_,?_⟩⟩,?_⟩,?_⟩ (Lq (λe=>b1 e.symm) (a2 g rfl) rfl))
 ·rw[a7 _ (λy hy=>by rcases Nf hy with hy|rfl;exact hz y hy;exact a1),N4]
 ·rw[N4]
 ·rw[N4];exact a'
 ·rw[<-b3];simp only[Ng,M0,MH,List.length_drop,Ny];rw[a1];omega
 ·rw[N4,a4];have e1:(l.flatMap enc).take (n*sz)=a0.toList.take (n*sz):=by rw[<-ht,List.take_take,NT zo]
  have e2:(l.flatMap enc).drop (n*sz+sz)=(a0.toList.drop (n*sz+sz)).take (l.length*sz-(n*sz+sz)):=by rw[<-ht,List.drop_take]
  rw[e1,e2];simp only[Ng];have hA:(a0.toList.take (n*sz)).length=n*sz:=by rw[MH,NT (by rw[Ny];omega)]
  have a8:(a0.toList.take (n*sz)++enc x').length=n*sz+sz:=by rw[M0,hA,a1]
  rw[a1,Pv,Mp (l:=a0.toList.take (n*sz)++enc x') (by rw[a8];omega),a8]
 ·exact a2
 intro y hy
 rcases Nf hy with hy|rfl
 ·exact hz y hy
 exact a1
end Go.VL
namespace Go.Proofs.YtcfhbfflgnbacaaGreatDoor
@[simp] def KF(e:Nat×Nat):List ix:=[nI (e.1:Int),nI (e.2:Int)]
def L1:Q9 M8 140 199 2 16:=⟨underlying140,by kernel_rfl,zd⟩
def JW:Q9 M8 45 47 3 40:=⟨MK,by kernel_rfl,zd⟩
abbrev a8C(se:Bool)(lv ov fv yv pv:ix)(e:Nat):Array ix:=#[.bool se,lv,ov,fv,yv,pv,.int .u64 (e:Int)]
structure A8(O:Nat->Nat)(w:Lj)(i ab:Nat)(se:Bool)(R:MS)(lv ov fv yv pv:ix)(xs:List N3):Prop where
 blk:MN O w i ab (a8C se lv ov fv yv pv R.e) 142
 lvs:Nl aY 47 3 O w (i+1) lv xs
 key:xs.map (λx=>(x.1,x.2.1))=R.lv
 one:∀x∈xs,x.2.2.oneCell'=true
 ofs:Nl aL 3 1 O w (i+2) ov R.of
 prs:Nl KF 199 2 O w (i+3) pv R.p
def A8.U{S:Nat->Prop}{O O':Nat->Nat}{w w':Lj}{i ab:Nat}{se:Bool}{R:MS}{lv ov fv yv pv:ix}{xs:List N3}(h:A8 O w i ab se R lv ov fv yv pv xs)(u:M1 S O w O' w')(hi:i≠0)(hS:∀q,i<=q->q<=i+3->¬S q):A8 O' w' i ab se R lv ov fv yv pv xs:=
 ⟨h.blk.U u hi (hS _ (MG _) zo),h.lvs.U u zo (hS _ zo zo),h.key,h.one,h.ofs.U u zo (hS _ zo zo),h.prs.U u zo (hS _ zo zo)⟩
def A8.ext{ab:Nat}{R:MS}{lv ov fv yv pv:ix}{xs:List N3}(h:A8 O w i ab se R lv ov fv yv pv xs)(e:Mv w w')(hi:i≠0):A8 O w' i ab se R lv ov fv yv pv xs:=
 h.U (aa (S:=λ_=>False) (λh=>h) O e) hi λ_ _ _ h=>h
def A8.lowT{O:Nat->Nat}{w:Lj}{i ab:Nat}{se:Bool}{R:MS}{lv ov fv yv pv:ix}{xs:List N3}(h:A8 O w i ab se R lv ov fv yv pv xs){T:Nat}(hT:i+3<T):A8 (PT O T) w i ab se R lv ov fv yv pv xs:=
 ⟨h.blk.lowT zo,h.lvs.lowT zo,h.key,h.one,h.ofs.lowT zo,h.prs.lowT zo⟩
def CV(b:List Nat):fc [] b=[]:=rfl
def Bj(a b:List Nat)(x:Nat):fc (a++[x]) b=fc a b++b.map λj=>(x,j):=by
 unfold fc;rw[List.flatMap_append];simp
def vj(B:Nat)(O:Nat->Nat)(w:Lj)(i ab:Nat)(se:Bool)(R:MS)(lv ov fv yv pv:ix)(xs:List N3)(a b:List Nat)(av bv:ix)(hi:i≠0)(hR:NF B O w)(h:A8 O w i ab se R lv ov fv yv pv xs)(ha:Sl aL 1 w av a)(c6:Nh O w av)(hb:Sl aL 1 w bv b)(c5:Nh O w bv)(d9:a.length<=60)(c9:b.length<=60)(d8:R.p.length<=1000000):
  Nz M8 112 [nP ab,av,bv] w λ_ w'=>∃O' pv',M1 (λq=>q=i\/q=i+3) O w O' w'/\NF B O' w'/\A8 O' w' i ab se { R with p:=R.p++fc a b } lv ov fv yv pv' xs:=by
 have hz:¬(0=i\/0=i+3):=zo;apply Ln func112 ntmps112 rfl rfl;refine zh ?_;apply zlp (λz:Nat×(Nat->Nat)×World×ix=>[(0,nP ab),(1,av),(2,bv),(6,nI (z.1:Nat))]) (λz=>z.2.2.1) (λz=>z.1<=a.length/\M1 (λq=>q=i\/q=i+3) O w z.2.1 z.2.2.1/\NF B z.2.1 z.2.2.1/\A8 z.2.1 z.2.2.1 i ab se { R with p:=R.p++fc (a.take z.1) b } lv ov fv yv z.2.2.2 xs) (λz=>a.length-z.1) (0,O,w,pv) ⟨ln _,MA hz _ _,hR,by dsimp only;rw[M7,CV,N5];exact h⟩;rintro⟨j,O1,w1,b'⟩ ⟨hj,a4,b8,h1⟩;dsimp only at hj a4 b8 h1 ⊢;have b4:=ha.U c6 a4;have a8:=c6.U a4;have c7:=hb.U c5 a4;have a7:=c5.U a4;have d7:=tm (a:=a.take j) (b:=b) (by rw[MH];omega) c9;refine zh ?_;refine zC ?_ ?_
 ·intro a3;replace a3:j<a.length:=dT a3;have e1:w1.cell? (adr av 1 j)=some (nI ((nth a j:Nat):Int)):=by have:=b4.cell (i:=j) (j:=0) a3 rfl;rwa[ar]at this
  refine zh ?_;apply zlp (λy:Nat×(Nat->Nat)×World×ix=>[(0,nP ab),(1,av),(2,bv),(6,nI (j:Nat)),(7,nI (y.1:Nat))]) (λy=>y.2.2.1) (λy=>y.1<=b.length/\M1 (λq=>q=i\/q=i+3) O1 w1 y.2.1 y.2.2.1/\NF B y.2.1 y.2.2.1/\A8 y.2.1 y.2.2.1 i ab se { R with p:=(R.p++fc (a.take j) b)++(b.take y.1).map λx=>(nth a j,x) } lv ov fv yv y.2.2.2 xs) (λy=>b.length-y.1) (0,O1,w1,b') ⟨ln _,MA hz _ _,b8,by dsimp only;rw[M7,P1,N5];exact h1⟩
  rintro⟨k,O2,w2,b9⟩ ⟨hk,a5,b7,h2⟩;dsimp only at hk a5 b7 h2 ⊢;have d3:=b4.U a8 a5;have d2:=c7.U a7 a5;refine zh ?_;refine zC ?_ ?_
  ·intro a0;replace a0:k<b.length:=dT a0;have d0:w2.drew.cell? (nA ab 5)=some b9:=h2.blk.cell 5 rfl
   have s0:∀O' W,M1 (λq=>q=i\/q=i+3) O1 w1 O' W->W.cell? (adr av 1 j)=some (nI ((nth a j:Nat):Int))/\W.cell? (adr bv 1 k)=some (nI ((nth b k:Nat):Int)):=λO' W u=>⟨by
    have:=(b4.U a8 u).cell (i:=j) (j:=0) a3 rfl;rwa[ar]at this,by
    have:=(c7.U a7 u).cell (i:=k) (j:=0) a0 rfl;rwa[ar]at this⟩
   have s1:∀W,Mv w2.drew W->W.cell? (adr av 1 j)=some (nI ((nth a j:Nat):Int))/\W.cell? (adr bv 1 k)=some (nI ((nth b k:Nat):Int)):=λW e=>s0 O2 W (a5.drew.J (aa hz O2 e))
   refine zh ?_;apply aN (λW=>W.cell? (adr av 1 j)=some (nI ((nth a j:Nat):Int))/\W.cell? (adr bv 1 k)=some (nI ((nth b k:Nat):Int))) 19 rfl zk
   refine zin (s1 _ (Lk _)) λzS=>?_
   apply zrm 0 rfl zS rfl;apply zrm 1 rfl zS rfl
   apply zr 2 rfl zS (λ_=>ak rfl);apply zrf 3 rfl zS rfl
   apply zrm 5 rfl zS rfl;apply zrm 6 rfl zS rfl
   apply zr 7 rfl zS (λ_=>ai d3.sh L3 (LN _) rfl rfl j rfl a3);apply zt 8 rfl zS (λw1 a6=>RV.ld (by first|exact a6.1|exact a6.2) rfl)
   apply zrm 9 rfl zS rfl;apply zrm 10 rfl zS rfl
   apply zr 11 rfl zS (λ_=>ai d2.sh L3 (LN _) rfl rfl k rfl a0);apply zt 12 rfl zS (λw1 a6=>RV.ld (by first|exact a6.1|exact a6.2) rfl)
   apply zr 13 rfl zS (λ_=>eJ (cells:=(KF (nth a j,nth b k)).toArray) Pd (LN _) (zeroValue199 _) rfl zk);apply bU 4 14 L1 (enc:=KF) (nth a j,nth b k) rfl rfl zk zk zk zk (λW hE=>RV.load (hE.cell d0) (isAgg140 _) rfl) s1 rfl rfl rfl zd rfl rfl rfl rfl rfl
   intro sv w3 c8 d6;have b5:M1 (λ_=>False) O2 w2 O2 w3:=aa (λh=>h) O2 ((Lk w2).drew.J d6);have h3:=h2.U b5 hi λ_ _ _ h=>h
   have d5:=b7.U b5;have b6:=a5.J (b5.mono (λ_ h=>h.elim) hz);apply Ls 15 zk rfl;apply aC L1 h3.prs d5 c8 (by simp) rfl rfl (by simp) (by simp[Lm]) (by simp;omega) (by simp;omega) zo rfl;intro a1 w4 O4 a2 b1 d4;have b3:=h3.blk.U b1 hi zo;have b0:=b6.J (b1.mono (λ_ h=>.inr h) hz);refine zh ?_;refine zaf ((s0 _ _ b0)) λzS=>?_
   apply zr 16 rfl zS (λ_=>ak rfl);apply zrf 17 rfl zS rfl
   apply Ls 18 zk rfl;apply aj (j:=5) b3 rfl (sizeOf140 _) a2.one rfl rfl rfl
   have a9:M1 (λq=>q=i) O4 w4 O4 (w4.setCell ⟨ab,5,none⟩ a1):=M9 (λe=>hi e.symm) b3.tag rfl;have d1:MN O4 (w4.setCell ⟨ab,5,none⟩ a1) i ab (a8C se lv ov fv yv a1 R.e) 142:=b3.set 5 a1;have a':=b0.J (a9.mono (λ_ h=>.inl h) hz);refine zh ?_;apply ae ((s0 _ _ a'));have h5:A8 O4 (w4.setCell ⟨ab,5,none⟩ a1) i ab se { R with p:=(R.p++fc (a.take j) b)++(b.take (k+1)).map λx=>(nth a j,x) } lv ov fv yv a1 xs:=
    ⟨d1,(h3.lvs.U b1 zo zo).U a9 zo zo,h3.key,h3.one,(h3.ofs.U b1 zo zo).U a9 zo zo,by
     have:=a2.U a9 zo zo
     rw[aG a0,Mz,<-ME];exact this⟩
   generalize w4.setCell ⟨ab,5,none⟩ a1=w5 at *;apply MZ zk;refine zh ?_;refine zxd (k+1,O4,w5,a1) ⟨a0,a',d4.U a9,h5⟩
  intro b2;obtain rfl:k=b.length:=dF b2;rw[Ll]at h2;refine zh ?_;refine zxd (j+1,O2,w2,b9) ⟨a3,a4.J a5,b7,by dsimp only;rw[aG a3,Bj,<-ME];exact h2⟩
 intro c';obtain rfl:j=a.length:=by have:=of_decide_eq_false c';omega
 rw[Ll]at h1;refine zh ?_;refine aP rfl ⟨O1,b',a4,b8,h1⟩
def A0:cC M8 144 #[(0,1),(1,1),(2,1)]:=⟨_,N8,λw=>by kernel_rfl⟩
def oh(k:Int):∀(a b:List Nd) (n:Nat) (o:LkR),bS k (a++b) n o=bS k b (n+aA a) (bS k a n o)
 |[],b,n,o=>rfl
 |t::a,b,n,o=>by
  rw[PA,bS,bS,oh k a b,aA,Nat.add_assoc]
def Bw{k:Int}{l:List Nd}{n:Nat}{o:LkR}(h:q<l.length):bS k (l.take (q+1)) n o=jF k (bS k (l.take q) n o) (bO (nth l q) (n+aA (l.take q))):=by
 rw[aG h,oh];rfl
def qe:∀(l:List Nd) (i:Nat),bL l=true->i<l.length->gW (nth l i)=true
 |[],i,_,h=>absurd h (Lo i)
 |t::r,i,hs,h=>by
  unfold bL at hs;simp only[M5]at hs
  cases i with
  |zero=>rw[ao];exact hs.1
  |succ i=>rw[aW];exact qe r i hs.2 (by simpa using h)
def _root_.Go.VL.RowT.freeLow{T:Nat}{l:List α}(h:Nl enc E sz O w i v l)(hi:T<=i)(hT:0<T)(r:NF B O w):Nh (lowT O T) w v:=λa n c e _=>by
 have hb:=h.1.tag a.block (by rw[e];rfl);exact⟨by unfold PT;rw[ap zo],(r.rng a.block zo).2⟩
def Kk{cs:Array ix}(h:MN O w i b cs E)(hi:i≠0)(j:Nat)(u:ix):M1 (λq=>q=i) O w O (w.setCell ⟨b,j,none⟩ u):=M9 (λe=>hi e.symm) h.tag rfl
abbrev bZ(e:Bool)(fv yv:ix):Array ix:=#[.bool e,fv,yv]
abbrev fo(R:MS)(lv:List (Int×Int))(m c:Nat)(p:List (Nat×Nat)):MS:=⟨R.lv++lv,R.of++ka m c,R.f,R.l,R.p++p,R.e⟩
def LX(t:Nd):Prop:=∀(B:Nat) (O:Nat->Nat) (w:Lj) (i ab:Nat) (se:Bool) (R:MS) (lv ov fv yv pv:ix) (xs:List N3) (c:Nat) (x:N3),i≠0->NF B O w->A8 O w i ab se R lv ov fv yv pv xs->R.of.length=R.lv.length->R.lv.length+aK t<=60->R.p.length+7200*nsz t<=900000->gW t=true->Nt O w t x->
 Nz M8 72 [nP ab,nv x,nI (c:Nat)] w λv w'=>∃O' lv' ov' pv' xs' f1 z1,v=.agg (bZ (bO t R.lv.length).e f1 z1)/\M1 (λq=>i<=q/\q<=i+3) O w O' w'/\NF B O' w'/\
  A8 O' w' i ab se (fo R (tD t) (aK t) c (bO t R.lv.length).p) lv' ov' fv yv pv' xs'/\Sl aL 1 w' f1 (bO t R.lv.length).f/\Nh O' w' f1/\Sl aL 1 w' z1 (bO t R.lv.length).l/\Nh O' w' z1
abbrev S8(T i:Nat)(q:Nat):Prop:=T<=q\/i<=q/\q<=i+3
def pO{O':Nat->Nat}{ab T m:Nat}{e:Bool}{R R':MS}{lv ov fv yv pv f1 z1:ix}{xs:List N3}{L:LkR}{lvs:List (Int×Int)}(hT:∀b,O b<T)(a0:i+3<T)(hi:i≠0)(hv:v=.agg (bZ e f1 z1))(u:M1 (S8 T i) O w O' w')(r:NF B O' w')(h:A8 O' w' i ab se R' lv ov fv yv pv xs)(hR:R'=fo R lvs m c L.p)(he:e=L.e) 
  (h1:Sl aL 1 w' f1 L.f) (n1:Nh (lowT O' T) w' f1) (h2:Sl aL 1 w' z1 L.l) (n2:Nh (lowT O' T) w' z1) :
  ∃O' lv' ov' pv' xs' f1 z1,v=.agg (bZ L.e f1 z1)/\M1 (λq=>i<=q/\q<=i+3) O w O' w'/\NF B O' w'/\A8 O' w' i ab se (fo R lvs m c L.p) lv' ov' fv yv pv' xs'/\Sl aL 1 w' f1 L.f/\Nh O' w' f1/\Sl aL 1 w' z1 L.l/\Nh O' w' z1:=by
 subst hR;subst he;exact⟨lowT O' T,lv,ov,pv,xs,f1,z1,hv,u.lowT hT (λb hb=>by have:=hT b;rcases hb with hb|hb;omega;exact hb) zo,r.lowT T,h.lowT a0,h1,n1,h2,n2⟩
def vz:∀(n:Nat) (t:Nd),nsz t<=n->LX t
 |0,t,ht=>by have:=da t;omega
 |n+1,.mk k c l,ht=>by
  intro B O w i ab se R lv ov fv yv pv xs cc x hi hR h u0 hL hP o3 hn;have ih:=fun(t:Nd) (e:nsz t<=n)=>vz n t e
  obtain⟨T0,v8,v9⟩:=hR.bound;obtain⟨T,x8⟩:∃T,T=T0+i+4:=⟨_,rfl⟩
  have hT:∀b,O b<T:=fun b=>by have:=v9 b;omega
  have p0:i+3<T:=zo;have b4:¬S8 T i 0:=by unfold S8;omega
  obtain⟨ys,t2,f5,k',f4⟩:=hn.kids;have hx:x=(k,c,x.2.2):=hn.ones;have o2:=hn.one;generalize x.2.2=kidv at *;subst hx;simp only[nsz]at ht hP;unfold gW at o3;simp only[M5]at o3;obtain⟨l1,u'⟩:=o3
  change l.length=ys.length at k'
  change ∀i,i<ys.length->Nt O w (nth l i) (nth ys i)at f4
  have o0:=du l;have t4:xs.length=R.lv.length:=by rw[<-h.key,Np]
  have x1:xs.length<=60:=zo;have x2:R.of.length<=60:=zo;refine Ln func72 ntmps72 rfl rfl ?_;refine zh ?_;refine aI hR T zo rfl rfl ?_;intro xb w1 O1 s6 m2 p4 p5;obtain⟨p6,o5⟩:=ID zo hT m2 (MA zo _ _) s6;clear s6 m2 p4 p5;have h1:=h.ext p6 hi;have p4:=hR.ext p6;have k1:Cell0 O w1 (nA xb 0) (nI k):=o5 0 _ rfl;have v1:Cell0 O w1 (nA xb 2) kidv:=o5 2 _ rfl;have m2:M1 (S8 T i) O w O w1:=aa b4 O p6;refine au p4 T zo (MC _) rfl ?_;intro rb w2 O2 d3 l4 p2 y0;have h2:=h1.U l4 hi (fun q _ _=>zo);have k2:=k1.U l4;have v2:=v1.U l4;have c9:=m2.J (l4.mono (fun q h=>by unfold S8;omega) b4);have n6:=t2.U f5 c9;refine zh ?_;refine zvH (RV.ld (by first|exact k2.c|exact v2.c) rfl) ?_
  by_cases h9:k=9
  ·subst h9;rw[am zo]at l1;have u9:l=[]:=by simpa using l1
   subst u9;refine zTH rfl rfl ?_;refine zv (Ph (cells:=bZ true (nS) (nS)) A0 (MC _) rfl rfl) ?_;refine zsa (us:=bZ true (nS) (nS)) d3 (MF _) ?_;have h7:=d3.setRow (us:=bZ true (nS) (nS));have c':M1 (fun q=>q=T) O2 w2 O2 (w2.setRow rb (bZ true (nS) (nS))):=Lq zo d3.tag rfl;generalize w2.setRow rb (bZ true (nS) (nS))=w3 at *;have h3:=h2.U c' hi (fun q _ _=>zo);refine zh ?_;refine aO rfl rfl (h7.V) (PD _) (MF _) (pO hT p0 hi rfl (c9.J (c'.mono (fun q h=>by unfold S8;omega) b4)) (p2.U c') h3 (by simp[fo,tD,ew,aK,aA,bO]) (by simp[bO]) (by simp[bO];exact sl0 _) (fun a n c e=>by cases e) (by simp[bO];exact sl0 _) (fun a n c e=>by cases e))
  refine zFH rfl ((by rw[beq_eq_false_iff_ne];exact h9)) ?_;refine zvH (RV.ld (by first|exact k2.c|exact v2.c) rfl) ?_
  by_cases hl:l=[]
  ·subst hl;have t3:ys.length=0:=by rw[<-k'];rfl
   have o1:bO (.mk k c []) R.lv.length=⟨false,[R.lv.length+1],[R.lv.length+1],[]⟩:=by rw[bO,am h9];rfl
   have k9:aK (.mk k c [])=1:=by rw[aK,ap ⟨rfl,h9⟩]
   have i1:tD (.mk k c [])=[(k,c)]:=by rw[tD,ap ⟨rfl,h9⟩]
   rw[o1,k9,i1];rw[k9]at hL;refine bp rfl ((by rw[t3];rfl)) ?_;have cx:∀O' W,M1 (fun q=>q=T+1\/q=i\/q=i+1) O2 w2 O' W->∀j u,(aY ((k,c,kidv):N3))[j]? = some u->W.cell? (nA xb j)=some u:=fun O' W u j v hv=>(((o5 j v hv).U l4).U u).c
   have j8:¬(0=T+1\/0=i\/0=i+1):=zo;have k0:∀O' W,M1 (fun q=>q=T+1) O2 w2 O' W->∀j u,(aY ((k,c,kidv):N3))[j]? = some u->W.cell? (nA xb j)=some u:=fun O' W u=>cx O' W (u.mono (fun _ h=>.inl h) j8)
   have r':∀O' W,M1 (fun q=>q=T+1) O2 w2 O' W->W.cell? (nA ab 1)=some lv:=fun O' W u=>(h2.blk.U u hi zo).cell 1 rfl
   have hV:M1 (fun q=>q=T+1) O2 w2 O2 w2.drew:=aa zo O2 (Lk w2).drew;have hR:=p2.drew;refine zh ?_;refine aN (fun W=>∀j u,(aY ((k,c,kidv):N3))[j]? = some u->W.cell? (nA xb j)=some u) 13 rfl zk ?_;refine zin (k0 _ _ hV) fun zS=>?_
   refine zrm 0 rfl zS rfl ?_;refine zr 1 rfl zS (fun _=>ak rfl) ?_
   refine zrf 2 rfl zS rfl ?_;refine zt 4 rfl zS (fun w1 a6=>ah (us:=aY ((k,c,kidv):N3)) a6 (PL _) (Nu _) rfl) ?_
   refine mO (fun y:ix×(Nat->Nat)×World=>[(0,nP ab),(2,nI (cc:Nat)),(4,nP xb),(6,nP rb),(19,nP ab),(22,lv),(23,nv (k,c,kidv)),(24,nI (xs.length:Nat)),(25,y.1)]) (fun y=>y.2.2) (fun y=>Nl aY 47 3 y.2.1 y.2.2 (T+1) y.1 [((0,0,nS):N3)]/\M1 (fun q=>q=T+1) O2 w2 y.2.1 y.2.2/\NF B y.2.1 y.2.2) #[true,true,true,true,true,true,true,false,false,false,false,false,false] 6 ?_ ?_
   ·intro hN;refine MW 3 6 zk rfl rfl ?_ ?_ 
    ·refine zvH (RV.ld (r' _ _ hV) rfl) ?_;refine ae (k0 _ _ hV) ?_
     refine MW 5 6 zk rfl rfl ?_ ?_ 
     ·refine zvH (aM h2.lvs.sl.sh MK rfl) ?_;refine ae (k0 _ _ hV) ?_
      refine Ls 6 zk rfl ?_;refine bd JW (enc:=aY) hR (T+1) zo ((0,0,nS):N3) rfl rfl rfl zd rfl ?_
      intro sv wa Oa fS c8 l5;have hV:=Mq hV c8;have hR:=l5;refine zh ?_;refine ae (k0 _ _ hV) ?_;exact LK (hN (sv,_,_) ⟨fS,hV,hR⟩) zk ⟨rfl,rfl,rfl,rfl,rfl,rfl,rfl,rfl,rfl,trivial⟩ rfl
     refine bd JW (enc:=aY) hR (T+1) zo ((0,0,nS):N3) rfl rfl rfl zd rfl ?_;intro sv wa Oa fS c8 l5;have hV:=Mq hV c8;have hR:=l5;refine zh ?_
     refine ae (k0 _ _ hV) ?_;refine Ls 5 zk rfl ?_
     refine zvH (aM h2.lvs.sl.sh MK rfl) ?_;refine ae (k0 _ _ hV) ?_
     exact LK (hN (sv,_,_) ⟨fS,hV,hR⟩) zk ⟨rfl,rfl,rfl,rfl,rfl,rfl,rfl,rfl,rfl,trivial⟩ rfl
    refine bd JW (enc:=aY) hR (T+1) zo ((0,0,nS):N3) rfl rfl rfl zd rfl ?_;intro sv wa Oa fS c8 l5;have hV:=Mq hV c8;have hR:=l5;refine zh ?_
    refine ae (k0 _ _ hV) ?_;refine Ls 3 zk rfl ?_
    refine zvH (RV.ld (r' _ _ hV) rfl) ?_;refine ae (k0 _ _ hV) ?_
    refine Ls 5 zk rfl ?_;refine zvH (aM h2.lvs.sl.sh MK rfl) ?_
    refine ae (k0 _ _ hV) ?_;exact LK (hN (sv,_,_) ⟨fS,hV,hR⟩) zk ⟨rfl,rfl,rfl,rfl,rfl,rfl,rfl,rfl,rfl,trivial⟩ rfl
   rintro⟨sv,O3,w3⟩ ⟨fS,c',m4⟩;dsimp only at fS c' m4 ⊢;have h3:=h2.U c' hi (fun q _ _=>zo);have h7:=d3.U c' zo zo;have o9:=c'.mono (S':=fun q=>q=T+1\/q=i\/q=i+1) (fun _ h=>.inl h) j8;refine Ls 7 zk rfl ?_;refine aC JW h3.lvs m4 fS.sl (by simp) rfl rfl (by simp) (by simp[Lm]) (by clear hP hL l1 o0 ht;rw[MT];omega) (by clear hP hL l1 o0 ht;rw[MT];omega) zo rfl ?_;intro e5 w4 O4 c6 e3 v';have v7:=h3.blk.U e3 hi zo;have u3:=h3.ofs.U e3 zo zo;have t':=h3.prs.U e3 zo zo;have h0:=h7.U e3 zo zo;have d':=o9.J (e3.mono (fun _ h=>.inr (.inr h)) j8);refine zh ?_;refine zaf ((cx _ _ d')) fun zS=>?_
   refine zr 8 rfl zS (fun _=>ai c6.sl.sh MK (Nu _) rfl rfl xs.length rfl (by simp)) ?_;refine zr 10 rfl zS (fun _=>ak rfl) ?_
   refine zrf 11 rfl zS rfl ?_;have j':(xs++[((0,0,nS):N3)]).set xs.length (k,c,kidv)=xs++[(k,c,kidv)]:=by simp
   have hR:=v';have hb:=v7;have a8:=c6;have hV:M1 (fun q=>q=i\/q=i+1) O4 w4 O4 w4:=MA zo _ _;have cy:∀O' W,M1 (fun q=>q=i\/q=i+1) O4 w4 O' W->∀j u,(aY ((k,c,kidv):N3))[j]? = some u->W.cell? (nA xb j)=some u:=fun O' W u=>cx O' W (d'.J (u.mono (fun q h=>zo) j8))
   refine mO (fun y:Lj=>[(0,nP ab),(2,nI (cc:Nat)),(4,nP xb),(6,nP rb)]) (fun y=>y) (fun y=>Nl aY 47 3 O4 y (i+1) e5 (xs++[(k,c,kidv)])/\MN O4 y i ab (a8C se e5 ov fv yv pv R.e) 142/\M1 (fun q=>q=i\/q=i+1) O4 w4 O4 y/\NF B O4 y) #[true,true,true,true,true,true,true,true,true,true,true,true,true] 0 ?_ ?_
   ·intro hN;refine MW 9 12 zk rfl rfl ?_ ?_ 
    ·refine xD a8 xs.length (by simp) ((k,c,kidv):N3) (Nu _) rfl (by simp only[aY,Li,Lz,o2];rfl) zo rfl rfl rfl ?_;intro wa a8 c8;rw[j']at a8;have hb:=Nw hb c8 hi zo;have hV:=Mq hV (c8.mono (fun _ h=>.inr h) zo);have hR:=Nm hR c8;refine zh ?_
     refine ae (cy _ _ hV) ?_;refine Ls 12 zk rfl ?_
     refine aj (j:=1) hb rfl (sizeOf45 _) c6.one rfl rfl rfl ?_;have i7:=Kk hb hi 1 e5;have hb:=Q5 hb 1 e5;have a8:=Q3 a8 i7 zo zo;have hV:=Mq hV (i7.mono (fun _ h=>.inl h) zo);have hR:=Nm hR i7;refine zh ?_
     refine ae (cy _ _ hV) ?_;exact LK (hN _ ⟨a8,hb,hV,hR⟩) zk ⟨rfl,rfl,rfl,rfl,trivial⟩ rfl
    refine aj (j:=1) hb rfl (sizeOf45 _) c6.one rfl rfl rfl ?_;have i7:=Kk hb hi 1 e5;have hb:=Q5 hb 1 e5;have a8:=Q3 a8 i7 zo zo;have hV:=Mq hV (i7.mono (fun _ h=>.inl h) zo);have hR:=Nm hR i7;refine zh ?_
    refine ae (cy _ _ hV) ?_;refine Ls 9 zk rfl ?_
    refine xD a8 xs.length (by simp) ((k,c,kidv):N3) (Nu _) rfl (by simp only[aY,Li,Lz,o2];rfl) zo rfl rfl rfl ?_;intro wa a8 c8;rw[j']at a8;have hb:=Nw hb c8 hi zo;have hV:=Mq hV (c8.mono (fun _ h=>.inr h) zo);have hR:=Nm hR c8;refine zh ?_
    refine ae (cy _ _ hV) ?_;exact LK (hN _ ⟨a8,hb,hV,hR⟩) zk ⟨rfl,rfl,rfl,rfl,trivial⟩ rfl
   rintro w6 ⟨u7,s5,a7,f7⟩;have u2:=u3.U a7 zo zo;have t9:=t'.U a7 zo zo;have g9:=h0.U a7 zo zo;have o':=d'.J (a7.mono (fun q h=>zo) j8);have b2:w6.cell? (nA ab 2)=some ov:=s5.cell 2 rfl;refine MZ zk ?_;refine zh ?_;clear hP hL l1 o0 ht;refine Mu gE u2 f7 ((cc:Nat)) (fun _=>rfl) rfl rfl rfl (by simp[Lm]) zo zo zo zd rfl rfl ?_;intro j2 w7 O7 r9 e2 p1;have o6:=s5.U e2 hi zo;have u6:=u7.U e2 zo zo;have t8:=t9.U e2 zo zo;have d2:=g9.U e2 zo zo;refine zh ?_;refine aj (j:=2) o6 rfl (Ms _) r9.one rfl rfl rfl ?_;have d9:M1 (fun q=>q=i) O7 w7 O7 (w7.setCell ⟨ab,2,none⟩ j2):=M9 (fun e=>hi e.symm) o6.tag rfl;have s4:MN O7 (w7.setCell ⟨ab,2,none⟩ j2) i ab (a8C se e5 j2 fv yv pv R.e) 142:=o6.set 2 j2;generalize w7.setCell ⟨ab,2,none⟩ j2=w8 at *;have s1:=u6.U d9 zo zo;have u1:=r9.U d9 zo zo;have t7:=t8.U d9 zo zo;have b8:=d2.U d9 zo zo;have l6:=p1.U d9;have b1:w8.cell? (nA ab 1)=some e5:=s4.cell 1 rfl;have n7:(xs++[((k,c,kidv):N3)]).length=R.lv.length+1:=by simp[t4]
   refine zh ?_;refine zvH (aM s1.sl.sh MK rfl) ?_
   rw[n7];refine bd gE (enc:=aL) l6 (T+1) zo (R.lv.length+1) rfl rfl rfl zd rfl ?_;intro l7 w9 O9 v3 a4 e1;refine zh ?_;refine bd gE (enc:=aL) e1 (T+2) zo (R.lv.length+1) rfl rfl rfl zd rfl ?_;intro d0 b0 O10 g8 a0 p3;have i4:=v3.U a0 zo zo;have b3:=(b8.U a4 zo zo).U a0 zo zo;refine zv (aH (cells:=bZ false l7 d0) A0 (MC _) rfl (by simp only[Li,Lz,i4.one,g8.one];rfl) rfl rfl) ?_;refine zsb (us:=bZ false l7 d0) b3 (MF _) (by simp only[Li,i4.one,g8.one];rfl) ?_;have k3:=b3.setRow (us:=bZ false l7 d0);have a1:M1 (fun q=>q=T) O10 b0 O10 (b0.setRow rb (bZ false l7 d0)):=Lq zo b3.tag rfl;generalize b0.setRow rb (bZ false l7 d0)=b' at *;have o7:=((((((o'.mono (S':=S8 T i) (fun q h=>by unfold S8;omega) b4).J (e2.mono (fun q h=>by unfold S8;omega) b4)).J (d9.mono (fun q h=>by unfold S8;omega) b4)).J (a4.mono (fun q h=>by unfold S8;omega) b4)).J (a0.mono (fun q h=>by unfold S8;omega) b4)).J (a1.mono (fun q h=>by unfold S8;omega) b4))
   have p7:A8 O10 b' i ab se (fo R [(k,c)] 1 cc []) e5 j2 fv yv pv (xs++[(k,c,kidv)]):=by
    refine⟨((s4.U a4 hi zo).U a0 hi zo).U a1 hi zo,((s1.U a4 zo zo).U a0 zo zo).U a1 zo zo,?_,?_,((u1.U a4 zo zo).U a0 zo zo).U a1 zo zo,?_⟩
    ·rw[Mz,h.key];rfl
    ·intro y hy
     rcases My.1 hy with hy|hy
     ·exact h.one y hy
     rw[Lu.1 hy];exact o2
    show Nl KF _ _ _ _ _ _ (R.p++[]);rw[N5];exact((t7.U a4 zo zo).U a0 zo zo).U a1 zo zo
   have l2:=i4.U a1 zo zo;have j9:=g8.U a1 zo zo;have i':=p3.U a1;refine zh ?_;refine aO rfl rfl (k3.V) (PD _) (MF _) (pO (R:=R) (m:=1) (lvs:=[(k,c)]) (L:=⟨false,[R.lv.length+1],[R.lv.length+1],[]⟩) hT p0 hi rfl (c9.J o7) i' p7 rfl rfl l2.sl (l2.freeLow zo zo i') j9.sl (j9.freeLow zo zo i'))
  have x5:l.length≠0:=fun e=>hl (List.length_eq_zero_iff.1 e)
  have o4:¬(l.isEmpty=true):=fun e=>hl (by simpa using e)
  refine bh rfl ((by rw[beq_eq_false_iff_ne];omega)) ?_;have o1:bO (.mk k c l) R.lv.length=BL k (bS k l R.lv.length ⟨k==4,[],[],[]⟩):=by rw[bO,am h9,am o4]
  have k9:aK (.mk k c l)=aA l:=by rw[aK,am fun e=>o4 e.1]
  have i1:tD (.mk k c l)=ew l:=by rw[tD,am fun e=>o4 e.1]
  rw[o1,k9,i1];rw[k9]at hL;have i2:=fun q hq=>(f4 q hq).U c9
  have i3:=f5.U c9;refine zh ?_;refine zvH (RV.ld k2.c rfl) ?_;refine zv (Ph (cells:=bZ (k==4) (nS) (nS)) A0 (MC _) rfl rfl) ?_;refine au p2 (T+1) zo (MC _) rfl ?_;intro ob w3 O3 i0 c' m4 x';refine zsa (us:=bZ (k==4) (nS) (nS)) i0 (MF _) ?_;have n9:=i0.setRow (us:=bZ (k==4) (nS) (nS));have e3:M1 (fun q=>q=T+1) O3 w3 O3 (w3.setRow ob (bZ (k==4) (nS) (nS))):=Lq zo i0.tag rfl;generalize w3.setRow ob (bZ (k==4) (nS) (nS))=w4 at *;have h4:=(h2.U c' hi (fun q _ _=>zo)).U e3 hi (fun q _ _=>zo);have h0:=(d3.U c' zo zo).U e3 zo zo;have d':=(c'.mono (S':=S8 T i) (fun q h=>by unfold S8;omega) b4).J (e3.mono (fun q h=>by unfold S8;omega) b4);have w':A8 O3 w4 i ab se (fo R (ew (l.take 0)) (aA (l.take 0)) cc (bS k (l.take 0) R.lv.length ⟨k==4,[],[],[]⟩).p) lv ov fv yv pv xs:=by
   simp only[fo,M7,ew,aA,bS,List.replicate_zero,N5];exact h4
  refine zh ?_;refine zlp (fun z:Nat×(Nat->Nat)×World×ix×ix×ix×ix×ix×List N3=>[(0,nP ab),(2,nI (cc:Nat)),(4,nP xb),(6,nP rb),(8,nP ob),(9,nI (z.1:Nat))]) (fun z=>z.2.2.1) (fun z=>z.1<=l.length/\M1 (S8 T i) O2 w2 z.2.1 z.2.2.1/\NF B z.2.1 z.2.2.1/\A8 z.2.1 z.2.2.1 i ab se (fo R (ew (l.take z.1)) (aA (l.take z.1)) cc (bS k (l.take z.1) R.lv.length ⟨k==4,[],[],[]⟩).p) z.2.2.2.2.2.1 z.2.2.2.2.2.2.1 fv yv z.2.2.2.2.2.2.2.1 z.2.2.2.2.2.2.2.2/\MN z.2.1 z.2.2.1 T rb (bZ false (nS) (nS)) 144/\MN z.2.1 z.2.2.1 (T+1) ob (bZ (bS k (l.take z.1) R.lv.length ⟨k==4,[],[],[]⟩).e z.2.2.2.1 z.2.2.2.2.1) 144/\Sl aL 1 z.2.2.1 z.2.2.2.1 (bS k (l.take z.1) R.lv.length ⟨k==4,[],[],[]⟩).f/\Nh z.2.1 z.2.2.1 z.2.2.2.1/\Sl aL 1 z.2.2.1 z.2.2.2.2.1 (bS k (l.take z.1) R.lv.length ⟨k==4,[],[],[]⟩).l/\Nh z.2.1 z.2.2.1 z.2.2.2.2.1) (fun z=>l.length-z.1) (0,O3,w4,nS,nS,lv,ov,pv,xs) (⟨ln _,d',m4.U e3,w',h0,by simp only[M7,bS];exact n9,by simp only[M7,bS];exact sl0 _,(fun a n c e=>by cases e),by simp only[M7,bS];exact sl0 _,(fun a n c e=>by cases e)⟩) ?_
  rintro⟨q,O5,w5,f1,z1,n4,n0,m',m5⟩ ⟨hq,i9,m3,h5,g',b6,g4,g7,f',g5⟩;dsimp only at hq i9 m3 h5 g' b6 g4 g7 f' g5 ⊢;have n5:=n6.U i3 i9;have k5:=k2.U i9;have v5:=v2.U i9;have s3:=pN k (l.take q) R.lv.length ⟨k==4,[],[],[]⟩;have x6:=jU l q;have x3:=bY l q;simp only[PF,NG]at s3;obtain⟨i6,i5,d8⟩:=s3;have d8:=d8 zo zo;refine zh ?_;refine zvH (RV.ld v5.c rfl) ?_;refine zC ?_ ?_
  ·intro d7;replace d7:q<l.length:=dT d7;have l0:=(i2 q zo).U i9;have x4:=bK l q d7;have n':=di l q d7;have u4:=bY l (q+1);have u5:=oi d7;have x7:=jU l (q+1);have t5:=Dh d7;have c5:=Bw (k:=k) (n:=R.lv.length) (o:=⟨k==4,[],[],[]⟩) d7;have f3:(fo R (ew (l.take q)) (aA (l.take q)) cc (bS k (l.take q) R.lv.length ⟨k==4,[],[],[]⟩).p).lv.length=R.lv.length+aA (l.take q):=by simp[lY]
   have s2:=mh (nth l q) (R.lv.length+aA (l.take q));refine zh ?_;refine zvH (RV.ld v5.c rfl) ?_;refine zvH (ah (us:=aY (nth ys q)) (fun j u hu=>n5.cell zo hu) (PL _) (Nu _) rfl) ?_;refine zc call72 (ih (nth l q) zo B O5 w5 i ab se _ n4 n0 fv yv m' m5 cc (nth ys q) hi m3 h5 (by simp[u0,lY]) (by rw[f3];omega) (by simp only[M0];omega) (qe l q u' d7) l0) ?_;rintro _ w6 ⟨O6,l',l9,j1,l8,f6,z6,rfl,a7,f7,h6,g0,j6,f9,j5⟩;rw[f3]at h6 g0 f9 ⊢;have e6:fo (fo R (ew (l.take q)) (aA (l.take q)) cc (bS k (l.take q) R.lv.length ⟨k==4,[],[],[]⟩).p) (tD (nth l q)) (aK (nth l q)) cc (bO (nth l q) (R.lv.length+aA (l.take q))).p=fo R (ew (l.take (q+1))) (aA (l.take (q+1))) cc ((bS k (l.take q) R.lv.length ⟨k==4,[],[],[]⟩).p++(bO (nth l q) (R.lv.length+aA (l.take q))).p):=by
    rw[t5,u5];simp[fo,NI]
   rw[e6]at h6;generalize bS k (l.take q) R.lv.length ⟨k==4,[],[],[]⟩=o at *;generalize bO (nth l q) (R.lv.length+aA (l.take q))=pr at *;obtain⟨oe,b5,ol,op⟩:=o;obtain⟨pe,pf,pl,pp⟩:=pr;dsimp only at i6 i5 d8 s2 c5 h6 b6 g4 f' g0 f9 ⊢;obtain⟨v6,v4,l3⟩:=s2;have l3:=l3 zo;have i8:M1 (S8 T i) O5 w5 O6 w6:=a7.mono (fun q h=>.inr h) b4;refine au f7 (T+2) zo (MC _) rfl ?_;intro pb w7 O7 h' e2 p1 x9;refine zsb (us:=bZ pe f6 z6) h' (MF _) (by simp only[Li,g0.one,f9.one];rfl) ?_;have d4:=h'.setRow (us:=bZ pe f6 z6);have d9:M1 (fun q=>q=T+2) O7 w7 O7 (w7.setRow pb (bZ pe f6 z6)):=Lq zo h'.tag rfl;generalize w7.setRow pb (bZ pe f6 z6)=w8 at *;obtain⟨O8,w0⟩:∃O8,O8=O7:=⟨_,rfl⟩
   subst w0;have a':=e2.J d9;have l6:=p1.U d9;have h8:=h6.U a' hi (fun q _ _=>zo);have b8:=(g'.U a7 zo zo).U a' zo zo;have d6:=(b6.U a7 zo zo).U a' zo zo;have q':=(g4.U g7 a7).U (g7.U a7) a';have r6:=(g7.U a7).U a';have m7:=(f'.U g5 a7).U (g5.U a7) a';have n1:=(g5.U a7).U a';have m6:=g0.U j6 a';have n3:=j6.U a';have p9:=f9.U j5 a';have r8:=j5.U a';have e':M1 (S8 T i) O2 w2 O8 w8:=(i9.J i8).J (a'.mono (fun q h=>by unfold S8;omega) b4);have k8:=k2.U e';refine zh ?_;refine zvH (RV.ld k8.c rfl) ?_
   by_cases m1:k=4
   ·have e8:jF k ⟨oe,b5,ol,op⟩ ⟨pe,pf,pl,pp⟩=⟨oe&&pe,if oe=true then b5++pf else b5,if pe=true then ol++pl else pl,(op++pp)++fc ol pf⟩:=by unfold jF;rw[am (fun e=>e m1)]
    refine bh rfl ((by rw[m1];rfl)) ?_;have q0:w8.cell? (nA ob 2)=some z1:=d6.cell 2 rfl;have q1:w8.cell? (nA pb 1)=some f6:=d4.cell 1 rfl;refine zh ?_
    refine zc call112 (vj B O8 w8 i ab se _ l' l9 fv yv j1 l8 ol pf z1 f6 hi l6 h8 m7 n1 m6 n3 zo zo (by simp only[M0];omega)) ?_;rintro _ w9 ⟨O9,s',a4,e1,h9⟩;have e9:({ fo R (ew (l.take (q+1))) (aA (l.take (q+1))) cc (op++pp)with p:=(R.p++(op++pp))++fc ol pf }:MS)=fo R (ew (l.take (q+1))) (aA (l.take (q+1))) cc ((op++pp)++fc ol pf):=by simp[fo]
    rw[show({ fo R (ew (l.take (q+1))) (aA (l.take (q+1))) cc (op++pp)with p:=(fo R (ew (l.take (q+1))) (aA (l.take (q+1))) cc (op++pp)).p++fc ol pf }:MS)=fo R (ew (l.take (q+1))) (aA (l.take (q+1))) cc ((op++pp)++fc ol pf)from e9]at h9;have o8:=a4.mono (S':=S8 T i) (fun q h=>by unfold S8;omega) b4;have d1:=b8.U a4 zo zo;have a9:=d6.U a4 zo zo;have k4:=d4.U a4 zo zo;have p':=q'.U r6 a4;have t1:=r6.U a4;have s9:=m7.U n1 a4;have t0:=n1.U a4;have s8:=m6.U n3 a4;have x0:=n3.U a4;have s7:=p9.U r8 a4;have r7:=r8.U a4;have r0:w9.cell? (nA ob 0)=some (.bool oe):=a9.cell 0 rfl;refine zh ?_;refine eI (fun y:ix×Lj=>[(0,nP ab),(2,nI (cc:Nat)),(4,nP xb),(6,nP rb),(8,nP ob),(9,nI (q:Nat)),(10,nP pb)]) (fun y:ix×Lj=>y.2) (fun y:ix×Lj=>MN O9 y.2 (T+1) ob (bZ oe y.1 z1) 144/\M1 (fun q=>q=T+1) O9 w9 O9 y.2/\Sl aL 1 y.2 y.1 (if oe=true then b5++pf else b5)/\Nh O9 y.2 y.1) ?_ ?_
    ·intro Qm hN;refine zC ?_ ?_
     ·intro he;subst he;rw[ap rfl]at hN;have r1:w9.cell? (nA ob 1)=some f1:=a9.cell 1 rfl;have r2:w9.cell? (nA pb 1)=some f6:=k4.cell 1 rfl;refine zh ?_;refine zc NB (aR b5 pf f1 f6 w9 p' s8 zo) ?_;rintro av b0 ⟨sA,eA,nA⟩;have fA:=nA.free sA (fun x _=>by simp) e1;have uA:M1 (fun q=>q=T+1) O9 w9 O9 b0:=aa zo O9 eA;have a2:=a9.ext eA;refine zh ?_;refine aj (j:=1) a2 rfl (Ms _) sA.one rfl rfl rfl ?_;have a0:M1 (fun q=>q=T+1) O9 b0 O9 (b0.setCell ⟨ob,1,none⟩ av):=M9 zo a2.tag rfl;have a3:MN O9 (b0.setCell ⟨ob,1,none⟩ av) (T+1) ob (bZ true av z1) 144:=a2.set 1 av;refine zh ?_;exact NS (hN ((av,b0.setCell ⟨ob,1,none⟩ av)) (⟨a3,uA.J a0,sA.U fA a0,fA.U a0⟩)) ⟨rfl,rfl,rfl,rfl,rfl,rfl,rfl,trivial⟩ rfl
     intro he;subst he;rw[am Nb]at hN;refine zh ?_;exact NS (hN ((f1,w9)) (⟨a9,MA zo _ _,p',t1⟩)) ⟨rfl,rfl,rfl,rfl,rfl,rfl,rfl,trivial⟩ rfl
    rintro⟨fn,b0⟩ ⟨a2,a0,j4,e4⟩;refine zh ?_;dsimp only at a2 a0 j4 e4 ⊢;have d5:=k4.U a0 zo zo;have m8:=s9.U t0 a0;have f8:=s7.U r7 a0;have j7:=r7.U a0;have r3:b0.cell? (nA pb 0)=some (.bool pe):=d5.cell 0 rfl;refine zh ?_;refine eI (fun y:ix×Lj=>[(0,nP ab),(2,nI (cc:Nat)),(4,nP xb),(6,nP rb),(8,nP ob),(9,nI (q:Nat)),(10,nP pb)]) (fun y:ix×Lj=>y.2) (fun y:ix×Lj=>MN O9 y.2 (T+1) ob (bZ oe fn y.1) 144/\M1 (fun q=>q=T+1) O9 b0 O9 y.2/\Sl aL 1 y.2 y.1 (if pe=true then ol++pl else pl)/\Nh O9 y.2 y.1) ?_ ?_
    ·intro Qm hN;have r2:b0.cell? (nA pb 2)=some z6:=d5.cell 2 rfl;refine zC ?_ ?_
     ·intro he;subst he;rw[ap rfl]at hN;have r1:b0.cell? (nA ob 2)=some z1:=a2.cell 2 rfl;refine zh ?_;refine zc NB (aR ol pl z1 z6 b0 m8 f8 zo) ?_;rintro av b' ⟨sA,eA,nA⟩;have fA:=nA.free sA (fun x _=>by simp) (e1.U a0);have uA:M1 (fun q=>q=T+1) O9 b0 O9 b':=aa zo O9 eA;have a3:=a2.ext eA;refine zh ?_;refine aj (j:=2) a3 rfl (Ms _) sA.one rfl rfl rfl ?_;have a1:M1 (fun q=>q=T+1) O9 b' O9 (b'.setCell ⟨ob,2,none⟩ av):=M9 zo a3.tag rfl;have b7:MN O9 (b'.setCell ⟨ob,2,none⟩ av) (T+1) ob (bZ oe fn av) 144:=a3.set 2 av;refine zh ?_;exact NS (hN ((av,b'.setCell ⟨ob,2,none⟩ av)) (⟨b7,uA.J a1,sA.U fA a1,fA.U a1⟩)) ⟨rfl,rfl,rfl,rfl,rfl,rfl,rfl,trivial⟩ rfl
     intro he;subst he;rw[am Nb]at hN;refine zh ?_;refine aj (j:=2) a2 rfl (Ms _) f8.one rfl rfl rfl ?_;have a1:M1 (fun q=>q=T+1) O9 b0 O9 (b0.setCell ⟨ob,2,none⟩ z6):=M9 zo a2.tag rfl;have b7:MN O9 (b0.setCell ⟨ob,2,none⟩ z6) (T+1) ob (bZ oe fn z6) 144:=a2.set 2 z6;refine zh ?_;exact NS (hN ((z6,b0.setCell ⟨ob,2,none⟩ z6)) (⟨b7,a1,f8.U j7 a1,j7.U a1⟩)) ⟨rfl,rfl,rfl,rfl,rfl,rfl,rfl,trivial⟩ rfl
    rintro⟨zn,b'⟩ ⟨a3,a1,j3,g6⟩;refine zh ?_;dsimp only at a3 a1 j3 g6 ⊢;have k7:=d5.U a1 zo zo;have r4:b'.cell? (nA ob 0)=some (.bool oe):=a3.cell 0 rfl;have r5:b'.cell? (nA pb 0)=some (.bool pe):=k7.cell 0 rfl;refine zh ?_;refine aT (fun w1=>_=w1) (pe) 2 (rfl) rfl rfl rfl rfl rfl ?_ ?_
    ·intro g1;refine zh ?_;refine nE 116 3 (rfl) g1
    rintro _ rfl;refine zh ?_;refine aj (j:=0) a3 rfl (NP _) rfl rfl rfl rfl ?_;have e0:M1 (fun q=>q=T+1) O9 b' O9 (b'.setCell ⟨ob,0,none⟩ (.bool (oe&&pe))):=M9 zo a3.tag rfl;have b7:MN O9 (b'.setCell ⟨ob,0,none⟩ (.bool (oe&&pe))) (T+1) ob (bZ (oe&&pe) fn zn) 144:=a3.set 0 _;generalize b'.setCell ⟨ob,0,none⟩ (.bool (oe&&pe))=w12 at *;have c7:=(a0.J a1).J e0;have m9:=(j4.U e4 a1).U (e4.U a1) e0;have n2:=(e4.U a1).U e0;refine zh ?_;refine zxd (q+1,O9,w12,fn,zn,l',l9,s',l8) ((by dsimp only;rw[c5,e8];exact⟨d7,(e'.J o8).J (c7.mono (fun q h=>by unfold S8;omega) b4),e1.U c7,h9.U c7 hi (fun _ _ _=>zo),d1.U c7 zo zo,b7,m9,n2,j3.U g6 e0,g6.U e0⟩))
   have e8:jF k ⟨oe,b5,ol,op⟩ ⟨pe,pf,pl,pp⟩=⟨oe||pe,b5++pf,ol++pl,op++pp⟩:=by unfold jF;rw[ap m1]
   refine bp rfl ((by simpa using m1)) ?_;have a5:∀W,Mv w8.drew W->∀j u,[NR oe,f1,z1][j]? = some u->W.cell? (nA ob j)=some u:=fun W e j u hu=>e.cell (d6.drew.V j u hu)
   have k0:∀W,Mv w8.drew W->∀j u,[NR pe,f6,z6][j]? = some u->W.cell? (nA pb j)=some u:=fun W e j u hu=>e.cell (d4.drew.V j u hu)
   have kf:∀W,Mv w8.drew W->Sl aL 1 W f1 b5:=fun W e=>q'.ext ((Lk w8).drew.J e)
   have kg:∀W,Mv w8.drew W->Sl aL 1 W f6 pf:=fun W e=>m6.ext ((Lk w8).drew.J e)
   have kz:∀W,Mv w8.drew W->Sl aL 1 W z1 ol:=fun W e=>m7.ext ((Lk w8).drew.J e)
   have ky:∀W,Mv w8.drew W->Sl aL 1 W z6 pl:=fun W e=>p9.ext ((Lk w8).drew.J e)
   have m0:b5.length+pf.length<=1000000:=zo;have s0:ol.length+pl.length<=1000000:=zo;refine zh ?_
   cases oe with
   |true=>
    refine aN (fun W=>∀j u,[NR pe,f6,z6][j]? = some u->W.cell? (nA pb j)=some u) 18 rfl zk ?_;refine zin (k0 _ (Lk _)) fun zS=>?_
    refine zrf 0 rfl zS rfl ?_;refine zrf 6 rfl zS rfl ?_
    refine zrf 8 rfl zS rfl ?_;refine zt 9 rfl zS (fun w1 a6=>RV.ld (by first|exact a6 0 _ rfl|exact a6 1 _ rfl|exact a6 2 _ rfl) rfl) ?_
    refine zrf 11 rfl zS rfl ?_;refine zrf 13 rfl zS rfl ?_
    refine zt 14 rfl zS (fun w1 a6=>RV.ld (by first|exact a6 0 _ rfl|exact a6 1 _ rfl|exact a6 2 _ rfl) rfl) ?_;refine mO (fun y:ix×ix×Lj=>[(0,nP ab),(2,nI (cc:Nat)),(4,nP xb),(6,nP rb),(8,nP ob),(9,nI (q:Nat)),(10,nP pb),(77,.bool true),(82,y.1),(87,y.2.1)]) (fun y=>y.2.2) (fun y=>Sl aL 1 y.2.2 y.1 (b5++pf)/\Nh O8 y.2.2 y.1/\Sl aL 1 y.2.2 y.2.1 (ol++pl)/\Nh O8 y.2.2 y.2.1/\Mv w8.drew y.2.2/\NF B O8 y.2.2) #[true,true,true,true,true,true,true,true,true,true,true,true,true,true,true,true,false,false] 2 ?_ ?_
    ·intro hN;have hE:=Lk w8.drew;have hR:=l6.drew;refine mO (fun y:ix×Lj=>[(0,nP ab),(2,nI (cc:Nat)),(4,nP xb),(6,nP rb),(8,nP ob),(9,nI (q:Nat)),(10,nP pb),(77,.bool true),(86,z6),(84,z1),(82,y.1)]) (fun y=>y.2) (fun y=>Sl aL 1 y.2 y.1 (b5++pf)/\Nh O8 y.2 y.1/\Mv w8.drew y.2/\NF B O8 y.2) #[true,true,true,true,true,true,true,true,true,true,true,true,true,true,true,false,false,false] 3 ?_ ?_
     ·intro hC;refine mO (fun _:Unit=>[(0,nP ab),(2,nI (cc:Nat)),(4,nP xb),(6,nP rb),(8,nP ob),(9,nI (q:Nat)),(10,nP pb),(77,.bool true),(86,z6),(84,z1),(79,f1),(81,f6)]) (fun _=>w8.drew) (fun _=>True) #[true,true,true,true,true,true,true,true,true,true,false,true,true,true,true,false,false,false] 4 ?_ ?_
      ·intro hB;refine mO (fun _:Unit=>[(0,nP ab),(2,nI (cc:Nat)),(4,nP xb),(6,nP rb),(8,nP ob),(9,nI (q:Nat)),(10,nP pb),(77,.bool true),(86,z6),(79,f1),(81,f6),(83,.pointer (some (nA ob 2)))]) (fun _=>w8.drew) (fun _=>True) #[true,true,true,true,true,true,true,true,true,true,false,true,false,true,true,false,false,false] 5 ?_ ?_
       ·intro hA;refine qz 1 7 12 zk rfl rfl rfl ?_ ?_ ?_
        ·refine zvH (RV.ld (a5 _ hE 0 _ rfl) rfl) ?_;refine ae (k0 _ hE) ?_
         refine Mr 2 rfl zk zk zk (k0 _ hE) (fun _ _=>N0 rfl) rfl ?_;refine zin (k0 _ hE) fun zS=>?_
         refine zte 3 rfl rfl zS ?_;refine zte 4 rfl rfl zS ?_
         refine Mr 5 rfl zk zk zk (k0 _ hE) (fun _ _=>aX rfl rfl) rfl ?_;refine MW 7 12 zk rfl rfl ?_ ?_
         ·refine zvH (RV.ld (a5 _ hE 1 _ rfl) rfl) ?_;refine ae (k0 _ hE) ?_
          exact LK (hA () trivial) zk ⟨rfl,rfl,rfl,rfl,rfl,rfl,rfl,rfl,rfl,rfl,rfl,rfl,trivial⟩ rfl
         refine zvH (RV.ld (a5 _ hE 2 _ rfl) rfl) ?_;refine ae (k0 _ hE) ?_
         refine Ls 7 zk rfl ?_;refine zvH (RV.ld (a5 _ hE 1 _ rfl) rfl) ?_
         refine ae (k0 _ hE) ?_;exact LK (hB () trivial) zk ⟨rfl,rfl,rfl,rfl,rfl,rfl,rfl,rfl,rfl,rfl,rfl,rfl,trivial⟩ rfl
        ·refine zvH (RV.ld (a5 _ hE 1 _ rfl) rfl) ?_;refine ae (k0 _ hE) ?_
         refine MW 1 12 zk rfl rfl ?_ ?_
         ·refine zvH (RV.ld (a5 _ hE 0 _ rfl) rfl) ?_;refine ae (k0 _ hE) ?_
          refine Mr 2 rfl zk zk zk (k0 _ hE) (fun _ _=>N0 rfl) rfl ?_;refine zin (k0 _ hE) fun zS=>?_
          refine zte 3 rfl rfl zS ?_;refine zte 4 rfl rfl zS ?_
          refine Mr 5 rfl zk zk zk (k0 _ hE) (fun _ _=>aX rfl rfl) rfl ?_;exact LK (hA () trivial) zk ⟨rfl,rfl,rfl,rfl,rfl,rfl,rfl,rfl,rfl,rfl,rfl,rfl,trivial⟩ rfl
         refine zvH (RV.ld (a5 _ hE 2 _ rfl) rfl) ?_;refine ae (k0 _ hE) ?_
         refine Ls 1 zk rfl ?_;refine zvH (RV.ld (a5 _ hE 0 _ rfl) rfl) ?_
         refine ae (k0 _ hE) ?_;refine Mr 2 rfl zk zk zk (k0 _ hE) (fun _ _=>N0 rfl) rfl ?_
         refine zin (k0 _ hE) fun zS=>?_
         refine zte 3 rfl rfl zS ?_;refine zte 4 rfl rfl zS ?_
         refine Mr 5 rfl zk zk zk (k0 _ hE) (fun _ _=>aX rfl rfl) rfl ?_;exact LK (hB () trivial) zk ⟨rfl,rfl,rfl,rfl,rfl,rfl,rfl,rfl,rfl,rfl,rfl,rfl,trivial⟩ rfl
        refine zvH (RV.ld (a5 _ hE 2 _ rfl) rfl) ?_;refine ae (k0 _ hE) ?_
        refine MW 1 7 zk rfl rfl ?_ ?_
        ·refine zvH (RV.ld (a5 _ hE 0 _ rfl) rfl) ?_;refine ae (k0 _ hE) ?_
         refine Mr 2 rfl zk zk zk (k0 _ hE) (fun _ _=>N0 rfl) rfl ?_;refine zin (k0 _ hE) fun zS=>?_
         refine zte 3 rfl rfl zS ?_;refine zte 4 rfl rfl zS ?_
         refine Mr 5 rfl zk zk zk (k0 _ hE) (fun _ _=>aX rfl rfl) rfl ?_;refine Ls 7 zk rfl ?_
         refine zvH (RV.ld (a5 _ hE 1 _ rfl) rfl) ?_;refine ae (k0 _ hE) ?_
         exact LK (hB () trivial) zk ⟨rfl,rfl,rfl,rfl,rfl,rfl,rfl,rfl,rfl,rfl,rfl,rfl,trivial⟩ rfl
        refine zvH (RV.ld (a5 _ hE 1 _ rfl) rfl) ?_;refine ae (k0 _ hE) ?_
        refine Ls 1 zk rfl ?_;refine zvH (RV.ld (a5 _ hE 0 _ rfl) rfl) ?_
        refine ae (k0 _ hE) ?_;refine Mr 2 rfl zk zk zk (k0 _ hE) (fun _ _=>N0 rfl) rfl ?_
        refine zin (k0 _ hE) fun zS=>?_
        refine zte 3 rfl rfl zS ?_;refine zte 4 rfl rfl zS ?_
        refine Mr 5 rfl zk zk zk (k0 _ hE) (fun _ _=>aX rfl rfl) rfl ?_;exact LK (hB () trivial) zk ⟨rfl,rfl,rfl,rfl,rfl,rfl,rfl,rfl,rfl,rfl,rfl,rfl,trivial⟩ rfl
       rintro⟨⟩ -;refine MW 10 12 zk rfl rfl ?_ ?_
       ·refine zc NB (aR _ _ _ _ _ (kf _ hE) (kg _ hE) m0) ?_;rintro av wa ⟨sA,eA,nA⟩;have fA:=nA.free sA (fun x _=>by simp) hR;have hE:=MI hE eA;have hR:=NU hR eA
        try have sB:=MM sB eA
        try have fB:=MP fB (aa (S:=fun _=>False) (fun h=>h) _ eA)
        refine zh ?_;refine ae (k0 _ hE) ?_
        refine Ls 12 zk rfl ?_;refine zvH (RV.ld (a5 _ hE 2 _ rfl) rfl) ?_
        refine ae (k0 _ hE) ?_;exact LK (hC (av,_) ⟨sA,fA,hE,hR⟩) zk ⟨rfl,rfl,rfl,rfl,rfl,rfl,rfl,rfl,rfl,rfl,rfl,trivial⟩ rfl
       refine zvH (RV.ld (a5 _ hE 2 _ rfl) rfl) ?_;refine ae (k0 _ hE) ?_
       exact LK (hB () trivial) zk ⟨rfl,rfl,rfl,rfl,rfl,rfl,rfl,rfl,rfl,rfl,rfl,rfl,trivial⟩ rfl
      rintro⟨⟩ -;refine Ls 10 zk rfl ?_;refine zc NB (aR _ _ _ _ _ (kf _ hE) (kg _ hE) m0) ?_;rintro av wa ⟨sA,eA,nA⟩;have fA:=nA.free sA (fun x _=>by simp) hR;have hE:=MI hE eA;have hR:=NU hR eA
      try have sB:=MM sB eA
      try have fB:=MP fB (aa (S:=fun _=>False) (fun h=>h) _ eA)
      refine zh ?_;refine ae (k0 _ hE) ?_
      exact LK (hC (av,_) ⟨sA,fA,hE,hR⟩) zk ⟨rfl,rfl,rfl,rfl,rfl,rfl,rfl,rfl,rfl,rfl,rfl,trivial⟩ rfl
     rintro⟨av,wa⟩ ⟨sA,fA,hE,hR⟩;dsimp only at sA fA hE hR ⊢;refine Ls 15 zk rfl ?_;refine zc NB (aR _ _ _ _ _ (kz _ hE) (ky _ hE) s0) ?_;rintro bv wb ⟨sB,eB,nB⟩;have fB:=nB.free sB (fun x _=>by simp) hR;have hE:=MI hE eB;have hR:=NU hR eB
     try have sA:=MM sA eB
     try have fA:=MP fA (aa (S:=fun _=>False) (fun h=>h) _ eB)
     refine zh ?_;refine ae (k0 _ hE) ?_
     exact LK (hN (av,bv,_) ⟨sA,fA,sB,fB,hE,hR⟩) zk ⟨rfl,rfl,rfl,rfl,rfl,rfl,rfl,rfl,rfl,rfl,trivial⟩ rfl
    rintro⟨av,bv,w9⟩ ⟨sA,fA,sB,fB,j0,e1⟩;dsimp only at sA fA sB fB j0 e1 ⊢;have a4:M1 (fun _=>False) O8 w8 O8 w9:=aa (fun h=>h) O8 ((Lk w8).drew.J j0);have a9:=d6.U a4 zo fun h=>h
    have d1:=b8.U a4 zo fun h=>h
    have h9:=h8.U a4 hi fun _ _ _ h=>h
    refine zr 16 rfl (k0 _ j0) (fun _=>aH (cells:=bZ true av bv) A0 (MC _) rfl (by simp only[Li,Lz,sA.one,sB.one];rfl) rfl rfl) ?_;refine Ls 17 zk rfl ?_
    refine zsb (us:=bZ true av bv) a9 (MF _) (by simp only[Li,sA.one,sB.one];rfl) ?_;have a2:=a9.setRow (us:=bZ true av bv);have a0:M1 (fun q=>q=T+1) O8 w9 O8 (w9.setRow ob (bZ true av bv)):=Lq zo a9.tag rfl;refine zh ?_
    refine ae (((d4.U a4 zo fun h=>h).U a0 zo zo).V) ?_;generalize w9.setRow ob (bZ true av bv)=b0 at *;have b3:=d1.U a0 zo zo;have p8:=h9.U a0 hi (fun _ _ _=>zo);refine MZ zk ?_
    refine zh ?_;refine zxd (q+1,O8,b0,av,bv,l',l9,j1,l8) ((by dsimp only;rw[c5,e8];exact⟨d7,(e'.J (a4.mono (fun _ h=>h.elim) b4)).J (a0.mono (fun q h=>by unfold S8;omega) b4),e1.U a0,p8,b3,a2,sA.U fA a0,fA.U a0,sB.U fB a0,fB.U a0⟩))
   |false=>
    refine aN (fun W=>∀j u,[NR pe,f6,z6][j]? = some u->W.cell? (nA pb j)=some u) 18 rfl zk ?_;refine zin (k0 _ (Lk _)) fun zS=>?_
    refine zrf 0 rfl zS rfl ?_;refine zrf 6 rfl zS rfl ?_
    refine zrf 8 rfl zS rfl ?_;refine zt 9 rfl zS (fun w1 a6=>RV.ld (by first|exact a6 0 _ rfl|exact a6 1 _ rfl|exact a6 2 _ rfl) rfl) ?_
    refine zrf 11 rfl zS rfl ?_;refine zrf 13 rfl zS rfl ?_
    refine zt 14 rfl zS (fun w1 a6=>RV.ld (by first|exact a6 0 _ rfl|exact a6 1 _ rfl|exact a6 2 _ rfl) rfl) ?_;refine mO (fun y:ix×ix×Lj=>[(0,nP ab),(2,nI (cc:Nat)),(4,nP xb),(6,nP rb),(8,nP ob),(9,nI (q:Nat)),(10,nP pb),(77,.bool pe),(82,y.1),(87,y.2.1)]) (fun y=>y.2.2) (fun y=>Sl aL 1 y.2.2 y.1 (b5++pf)/\Nh O8 y.2.2 y.1/\Sl aL 1 y.2.2 y.2.1 (ol++pl)/\Nh O8 y.2.2 y.2.1/\Mv w8.drew y.2.2/\NF B O8 y.2.2) #[true,true,true,true,true,true,true,true,true,true,true,true,true,true,true,true,false,false] 2 ?_ ?_
    ·intro hN;have hE:=Lk w8.drew;have hR:=l6.drew;refine mO (fun y:ix×Lj=>[(0,nP ab),(2,nI (cc:Nat)),(4,nP xb),(6,nP rb),(8,nP ob),(9,nI (q:Nat)),(10,nP pb),(77,.bool pe),(86,z6),(84,z1),(82,y.1)]) (fun y=>y.2) (fun y=>Sl aL 1 y.2 y.1 (b5++pf)/\Nh O8 y.2 y.1/\Mv w8.drew y.2/\NF B O8 y.2) #[true,true,true,true,true,true,true,true,true,true,true,true,true,true,true,false,false,false] 3 ?_ ?_
     ·intro hC;refine mO (fun _:Unit=>[(0,nP ab),(2,nI (cc:Nat)),(4,nP xb),(6,nP rb),(8,nP ob),(9,nI (q:Nat)),(10,nP pb),(77,.bool pe),(86,z6),(84,z1),(79,f1),(81,f6)]) (fun _=>w8.drew) (fun _=>True) #[true,true,true,true,true,true,true,true,true,true,false,true,true,true,true,false,false,false] 4 ?_ ?_
      ·intro hB;refine mO (fun _:Unit=>[(0,nP ab),(2,nI (cc:Nat)),(4,nP xb),(6,nP rb),(8,nP ob),(9,nI (q:Nat)),(10,nP pb),(77,.bool pe),(86,z6),(79,f1),(81,f6),(83,.pointer (some (nA ob 2)))]) (fun _=>w8.drew) (fun _=>True) #[true,true,true,true,true,true,true,true,true,true,false,true,false,true,true,false,false,false] 5 ?_ ?_
       ·intro hA;refine qz 1 7 12 zk rfl rfl rfl ?_ ?_ ?_
        ·refine zvH (RV.ld (a5 _ hE 0 _ rfl) rfl) ?_;refine ae (k0 _ hE) ?_
         refine Mr 2 rfl zk zk zk (k0 _ hE) (fun _ _=>N0 rfl) rfl ?_;refine fX 3 rfl rfl zk zk zk (k0 _ hE) (fun _ _=>Ns 0 N8 rfl rfl (NP _) zd rfl) rfl ?_
         refine zto 4 rfl (k0 _ hE) (fun w1 a6=>RV.ld (a6 0 _ rfl) rfl) ?_;refine Mr 5 rfl zk zk zk (k0 _ hE) (fun _ _=>bE rfl rfl) rfl ?_
         refine MW 7 12 zk rfl rfl ?_ ?_
         ·refine zvH (RV.ld (a5 _ hE 1 _ rfl) rfl) ?_;refine ae (k0 _ hE) ?_
          exact LK (hA () trivial) zk ⟨rfl,rfl,rfl,rfl,rfl,rfl,rfl,rfl,rfl,rfl,rfl,rfl,trivial⟩ rfl
         refine zvH (RV.ld (a5 _ hE 2 _ rfl) rfl) ?_;refine ae (k0 _ hE) ?_
         refine Ls 7 zk rfl ?_;refine zvH (RV.ld (a5 _ hE 1 _ rfl) rfl) ?_
         refine ae (k0 _ hE) ?_;exact LK (hB () trivial) zk ⟨rfl,rfl,rfl,rfl,rfl,rfl,rfl,rfl,rfl,rfl,rfl,rfl,trivial⟩ rfl
        ·refine zvH (RV.ld (a5 _ hE 1 _ rfl) rfl) ?_;refine ae (k0 _ hE) ?_
         refine MW 1 12 zk rfl rfl ?_ ?_
         ·refine zvH (RV.ld (a5 _ hE 0 _ rfl) rfl) ?_;refine ae (k0 _ hE) ?_
          refine Mr 2 rfl zk zk zk (k0 _ hE) (fun _ _=>N0 rfl) rfl ?_;refine fX 3 rfl rfl zk zk zk (k0 _ hE) (fun _ _=>Ns 0 N8 rfl rfl (NP _) zd rfl) rfl ?_
          refine zto 4 rfl (k0 _ hE) (fun w1 a6=>RV.ld (a6 0 _ rfl) rfl) ?_;refine Mr 5 rfl zk zk zk (k0 _ hE) (fun _ _=>bE rfl rfl) rfl ?_
          exact LK (hA () trivial) zk ⟨rfl,rfl,rfl,rfl,rfl,rfl,rfl,rfl,rfl,rfl,rfl,rfl,trivial⟩ rfl
         refine zvH (RV.ld (a5 _ hE 2 _ rfl) rfl) ?_;refine ae (k0 _ hE) ?_
         refine Ls 1 zk rfl ?_;refine zvH (RV.ld (a5 _ hE 0 _ rfl) rfl) ?_
         refine ae (k0 _ hE) ?_;refine Mr 2 rfl zk zk zk (k0 _ hE) (fun _ _=>N0 rfl) rfl ?_
         refine fX 3 rfl rfl zk zk zk (k0 _ hE) (fun _ _=>Ns 0 N8 rfl rfl (NP _) zd rfl) rfl ?_;refine zto 4 rfl (k0 _ hE) (fun w1 a6=>RV.ld (a6 0 _ rfl) rfl) ?_
         refine Mr 5 rfl zk zk zk (k0 _ hE) (fun _ _=>bE rfl rfl) rfl ?_;exact LK (hB () trivial) zk ⟨rfl,rfl,rfl,rfl,rfl,rfl,rfl,rfl,rfl,rfl,rfl,rfl,trivial⟩ rfl
        refine zvH (RV.ld (a5 _ hE 2 _ rfl) rfl) ?_;refine ae (k0 _ hE) ?_
        refine MW 1 7 zk rfl rfl ?_ ?_
        ·refine zvH (RV.ld (a5 _ hE 0 _ rfl) rfl) ?_;refine ae (k0 _ hE) ?_
         refine Mr 2 rfl zk zk zk (k0 _ hE) (fun _ _=>N0 rfl) rfl ?_;refine fX 3 rfl rfl zk zk zk (k0 _ hE) (fun _ _=>Ns 0 N8 rfl rfl (NP _) zd rfl) rfl ?_
         refine zto 4 rfl (k0 _ hE) (fun w1 a6=>RV.ld (a6 0 _ rfl) rfl) ?_;refine Mr 5 rfl zk zk zk (k0 _ hE) (fun _ _=>bE rfl rfl) rfl ?_
         refine Ls 7 zk rfl ?_;refine zvH (RV.ld (a5 _ hE 1 _ rfl) rfl) ?_
         refine ae (k0 _ hE) ?_;exact LK (hB () trivial) zk ⟨rfl,rfl,rfl,rfl,rfl,rfl,rfl,rfl,rfl,rfl,rfl,rfl,trivial⟩ rfl
        refine zvH (RV.ld (a5 _ hE 1 _ rfl) rfl) ?_;refine ae (k0 _ hE) ?_
        refine Ls 1 zk rfl ?_;refine zvH (RV.ld (a5 _ hE 0 _ rfl) rfl) ?_
        refine ae (k0 _ hE) ?_;refine Mr 2 rfl zk zk zk (k0 _ hE) (fun _ _=>N0 rfl) rfl ?_
        refine fX 3 rfl rfl zk zk zk (k0 _ hE) (fun _ _=>Ns 0 N8 rfl rfl (NP _) zd rfl) rfl ?_;refine zto 4 rfl (k0 _ hE) (fun w1 a6=>RV.ld (a6 0 _ rfl) rfl) ?_
        refine Mr 5 rfl zk zk zk (k0 _ hE) (fun _ _=>bE rfl rfl) rfl ?_;exact LK (hB () trivial) zk ⟨rfl,rfl,rfl,rfl,rfl,rfl,rfl,rfl,rfl,rfl,rfl,rfl,trivial⟩ rfl
       rintro⟨⟩ -;refine MW 10 12 zk rfl rfl ?_ ?_
       ·refine zc NB (aR _ _ _ _ _ (kf _ hE) (kg _ hE) m0) ?_;rintro av wa ⟨sA,eA,nA⟩;have fA:=nA.free sA (fun x _=>by simp) hR;have hE:=MI hE eA;have hR:=NU hR eA
        try have sB:=MM sB eA
        try have fB:=MP fB (aa (S:=fun _=>False) (fun h=>h) _ eA)
        refine zh ?_;refine ae (k0 _ hE) ?_
        refine Ls 12 zk rfl ?_;refine zvH (RV.ld (a5 _ hE 2 _ rfl) rfl) ?_
        refine ae (k0 _ hE) ?_;exact LK (hC (av,_) ⟨sA,fA,hE,hR⟩) zk ⟨rfl,rfl,rfl,rfl,rfl,rfl,rfl,rfl,rfl,rfl,rfl,trivial⟩ rfl
       refine zvH (RV.ld (a5 _ hE 2 _ rfl) rfl) ?_;refine ae (k0 _ hE) ?_
       exact LK (hB () trivial) zk ⟨rfl,rfl,rfl,rfl,rfl,rfl,rfl,rfl,rfl,rfl,rfl,rfl,trivial⟩ rfl
      rintro⟨⟩ -;refine Ls 10 zk rfl ?_;refine zc NB (aR _ _ _ _ _ (kf _ hE) (kg _ hE) m0) ?_;rintro av wa ⟨sA,eA,nA⟩;have fA:=nA.free sA (fun x _=>by simp) hR;have hE:=MI hE eA;have hR:=NU hR eA
      try have sB:=MM sB eA
      try have fB:=MP fB (aa (S:=fun _=>False) (fun h=>h) _ eA)
      refine zh ?_;refine ae (k0 _ hE) ?_
      exact LK (hC (av,_) ⟨sA,fA,hE,hR⟩) zk ⟨rfl,rfl,rfl,rfl,rfl,rfl,rfl,rfl,rfl,rfl,rfl,trivial⟩ rfl
     rintro⟨av,wa⟩ ⟨sA,fA,hE,hR⟩;dsimp only at sA fA hE hR ⊢;refine Ls 15 zk rfl ?_;refine zc NB (aR _ _ _ _ _ (kz _ hE) (ky _ hE) s0) ?_;rintro bv wb ⟨sB,eB,nB⟩;have fB:=nB.free sB (fun x _=>by simp) hR;have hE:=MI hE eB;have hR:=NU hR eB
     try have sA:=MM sA eB
     try have fA:=MP fA (aa (S:=fun _=>False) (fun h=>h) _ eB)
     refine zh ?_;refine ae (k0 _ hE) ?_
     exact LK (hN (av,bv,_) ⟨sA,fA,sB,fB,hE,hR⟩) zk ⟨rfl,rfl,rfl,rfl,rfl,rfl,rfl,rfl,rfl,rfl,trivial⟩ rfl
    rintro⟨av,bv,w9⟩ ⟨sA,fA,sB,fB,j0,e1⟩;dsimp only at sA fA sB fB j0 e1 ⊢;have a4:M1 (fun _=>False) O8 w8 O8 w9:=aa (fun h=>h) O8 ((Lk w8).drew.J j0);have a9:=d6.U a4 zo fun h=>h
    have d1:=b8.U a4 zo fun h=>h
    have h9:=h8.U a4 hi fun _ _ _ h=>h
    refine zr 16 rfl (k0 _ j0) (fun _=>aH (cells:=bZ pe av bv) A0 (MC _) rfl (by simp only[Li,Lz,sA.one,sB.one];rfl) rfl rfl) ?_;refine Ls 17 zk rfl ?_
    refine zsb (us:=bZ pe av bv) a9 (MF _) (by simp only[Li,sA.one,sB.one];rfl) ?_;have a2:=a9.setRow (us:=bZ pe av bv);have a0:M1 (fun q=>q=T+1) O8 w9 O8 (w9.setRow ob (bZ pe av bv)):=Lq zo a9.tag rfl;refine zh ?_
    refine ae (((d4.U a4 zo fun h=>h).U a0 zo zo).V) ?_;generalize w9.setRow ob (bZ pe av bv)=b0 at *;have b3:=d1.U a0 zo zo;have p8:=h9.U a0 hi (fun _ _ _=>zo);refine MZ zk ?_
    refine zh ?_;refine zxd (q+1,O8,b0,av,bv,l',l9,j1,l8) ((by dsimp only;rw[c5,e8];exact⟨d7,(e'.J (a4.mono (fun _ h=>h.elim) b4)).J (a0.mono (fun q h=>by unfold S8;omega) b4),e1.U a0,p8,b3,a2,sA.U fA a0,fA.U a0,sB.U fB a0,fB.U a0⟩))
  intro v0;have t6:q=l.length:=dF v0;subst t6;rw[Ll]at h5 b6 g4 f' i6 i5 d8;generalize bS k l R.lv.length ⟨k==4,[],[],[]⟩=o at *;obtain⟨oe,b5,ol,op⟩:=o;dsimp only at h5 b6 g4 f' i6 i5 d8;refine zh ?_;refine zvH (RV.ld k5.c rfl) ?_;refine bR (fun w1=>_=w1) ((k==7)) 3 (rfl) rfl rfl rfl rfl rfl ?_ ?_
  ·intro g1;refine zh ?_;refine zvH (RV.ld k5.c rfl) ?_;refine nE 124 4 (rfl) g1
  rintro _ rfl;refine zh ?_;refine eI (fun y:ix×(Nat->Nat)×World=>[(0,nP ab),(4,nP xb),(6,nP rb),(8,nP ob)]) (fun y:ix×(Nat->Nat)×World=>y.2.2) (fun y:ix×(Nat->Nat)×World=>A8 y.2.1 y.2.2 i ab se (fo R (ew l) (aA l) cc (if k=6\/k=7 then op++fc ol b5 else op)) n4 n0 fv yv y.1 m5/\M1 (fun q=>q=i\/q=i+3) O5 w5 y.2.1 y.2.2/\NF B y.2.1 y.2.2) ?_ ?_
  ·intro Qm hN;refine zC ?_ ?_
   ·intro he;have he:k=6\/k=7:=by simpa using he
    rw[ap he]at hN;have r1:w5.cell? (nA ob 2)=some z1:=b6.cell 2 rfl;have r2:w5.cell? (nA ob 1)=some f1:=b6.cell 1 rfl;refine zh ?_;refine zc call112 (vj B O5 w5 i ab se _ n4 n0 fv yv m' m5 ol b5 z1 f1 hi m3 h5 f' g5 g4 g7 zo zo (by simp only[M0];omega)) ?_;rintro _ w6 ⟨O6,j1,a7,f7,h6⟩;have e6:({ fo R (ew l) (aA l) cc op with p:=(fo R (ew l) (aA l) cc op).p++fc ol b5 }:MS)=fo R (ew l) (aA l) cc (op++fc ol b5):=by simp[fo]
    rw[e6]at h6;refine zh ?_;exact NS (hN ((j1,O6,w6)) (⟨h6,a7,f7⟩)) ⟨rfl,rfl,rfl,rfl,trivial⟩ rfl
   intro he;have he:¬(k=6\/k=7):=by simpa using he
   rw[am he]at hN;refine zh ?_;exact NS (hN ((m',O5,w5)) (⟨h5,MA zo _ _,m3⟩)) ⟨rfl,rfl,rfl,rfl,trivial⟩ rfl
  rintro⟨j1,O6,w6⟩ ⟨h6,a7,f7⟩;refine zh ?_;dsimp only at h6 a7 f7 ⊢;have i8:=a7.mono (S':=S8 T i) (fun q h=>by unfold S8;omega) b4;have g9:=g'.U a7 zo zo;have e7:=b6.U a7 zo zo;have k6:=k5.U a7;have g0:=g4.U g7 a7;have j6:=g7.U a7;have f9:=f'.U g5 a7;have j5:=g5.U a7;have r3:w6.cell? (nA ob 0)=some (.bool oe):=e7.cell 0 rfl;refine zh ?_;refine bR (fun w1=>_=w1) ((k==6)) 3 (rfl) rfl rfl rfl rfl rfl ?_ ?_
  ·intro g2;refine zh ?_;refine zvH (RV.ld (by first|exact r3|exact k6.c) rfl) ?_;refine nE 137 4 (rfl) g2
  rintro _ rfl;refine zh ?_;refine bR (fun w1=>_=w1) ((k==8)) 3 (rfl) rfl rfl rfl rfl rfl ?_ ?_
  ·intro g3;refine zh ?_;refine zvH (RV.ld (by first|exact r3|exact k6.c) rfl) ?_;refine nE 142 4 (rfl) g3
  rintro _ rfl;refine zh ?_;refine aj (j:=0) e7 rfl (NP _) rfl rfl rfl rfl ?_;have e2:M1 (fun q=>q=T+1) O6 w6 O6 (w6.setCell ⟨ob,0,none⟩ (.bool ((oe||k==6)||k==8))):=M9 zo e7.tag rfl;have n8:MN O6 (w6.setCell ⟨ob,0,none⟩ (.bool ((oe||k==6)||k==8))) (T+1) ob (bZ ((oe||k==6)||k==8) f1 z1) 144:=e7.set 0 _;generalize w6.setCell ⟨ob,0,none⟩ (.bool ((oe||k==6)||k==8))=w7 at *;have d2:=g9.U e2 zo zo;refine zh ?_;refine zv (ah (us:=[.bool ((oe||k==6)||k==8),f1,z1]) n8.V (PD _) (MF _) rfl) ?_;refine zsb (us:=bZ ((oe||k==6)||k==8) f1 z1) d2 (MF _) (by simp only[Li,g0.one,f9.one];rfl) ?_;have b8:=d2.setRow (us:=bZ ((oe||k==6)||k==8) f1 z1);have d9:M1 (fun q=>q=T) O6 w7 O6 (w7.setRow rb (bZ ((oe||k==6)||k==8) f1 z1)):=Lq zo d2.tag rfl;generalize w7.setRow rb (bZ ((oe||k==6)||k==8) f1 z1)=w8 at *;have b9:=(e2.mono (S':=fun q=>T<=q) (fun q h=>zo) zo).J (d9.mono (fun q h=>zo) zo);have o7:=((c9.J i9).J i8).J (b9.mono (fun q h=>.inl h) b4);refine zh ?_;refine aO rfl rfl (b8.V) (PD _) (MF _) (pO (L:=BL k ⟨oe,b5,ol,op⟩) hT p0 hi rfl o7 (f7.U b9) (h6.U b9 hi (fun _ _ _=>zo)) rfl rfl (g0.U j6 b9) (PY (j6.U b9) T) (f9.U j5 b9) (PY (j5.U b9) T))
def K0:cC M8 142 #[(0,1),(1,1),(2,1),(3,1),(4,1),(5,1),(6,1)]:=⟨_,underlying142,λw=>by kernel_rfl⟩
def qh:∀(a b:List Nd) (i:Nat) (o:MS),fh (a++b) i o=fh b (i+a.length) (fh a i o)
 |[],b,i,o=>rfl
 |x::a,b,i,o=>by
  rw[PA,fh,fh,qh a b,MU,show i+1+a.length=i+(a.length+1)from by omega]
def DF{l:List Nd}(h:q<l.length):fh (l.take (q+1)) 0 gH=gG (fh (l.take q) 0 gH) (nth l q) q:=by
 rw[aG h,qh,MH,NT zo,NG];rfl
structure AllB(R o:MS)(xs:List Nd)(i:Nat):Prop where
 lv:R.lv.length=o.lv.length+aA xs
 of:R.of.length=o.of.length+aA xs
 f:R.f.length<=o.f.length+aA xs
 l:R.l.length<=o.l.length+aA xs
 p:R.p.length<=o.p.length+7200*cM xs
 e:o.e<2^60->i+xs.length<=60->R.e<2^60
def yS:∀(xs:List Nd) (i:Nat) (o:MS),aA xs<=60->AllB (fh xs i o) o xs i
 |[],i,o,_=>⟨by simp[fh,aA],by simp[fh,aA],by simp[fh],by simp[fh],by simp[fh],λh _=>h⟩
 |x::xs,i,o,h=>by
  unfold aA at h;have ih:=yS xs (i+1) (gG o x i) zo;obtain⟨b1,b2,b3⟩:=mh x o.lv.length;have b3:=b3 zo;obtain⟨h1,h2,h3,h4,h5,h6⟩:=ih;unfold gG at h1 h2 h3 h4 h5 h6;simp only[M0,tC,List.length_replicate]at h1 h2 h3 h4 h5;unfold fh;refine⟨by rw[aA];unfold gG;omega,by rw[aA];unfold gG;omega,by rw[aA];unfold gG;omega,by rw[aA];unfold gG;omega,by simp only[cM];unfold gG;omega,λq1 q2=>?_⟩;simp only[MU]at q2;refine h6 ?_ zo;dsimp only
  split
  ·exact NH q1 (Nx zd zo)
  exact q1
structure A8D(w:Lj)(ab:Nat)(se:Bool)(R:MS):Prop where
 ex:∃lv ov fv yv pv xs,MN (λ_=>0) w 0 ab (a8C se lv ov fv yv pv R.e) 142/\Sl aY 3 w lv xs/\xs.map (λx:N3=>(x.1,x.2.1))=R.lv/\(∀x∈xs,x.2.2.oneCell'=true)/\Sl aL 1 w ov R.of/\Sl aL 1 w fv R.f/\Sl aL 1 w yv R.l/\Sl KF 2 w pv R.p
def A8D.ext{w w':Lj}{ab:Nat}{se:Bool}{R:MS}(h:A8D w ab se R)(e:Mv w w'):A8D w' ab se R:=by
 obtain⟨lv,ov,fv,yv,pv,xs,h1,h2,h3,h4,h5,h6,h7,h8⟩:=h.ex;exact⟨lv,ov,fv,yv,pv,xs,h1.ext e,h2.ext e,h3,h4,h5.ext e,h6.ext e,h7.ext e,h8.ext e⟩
def Dg(se:Bool)(ts:List Nd)(ys:List N3)(sv:ix)(w:Lj)(hs:Sl aY 3 w sv ys)(hl:ts.length=ys.length)(hk:∀i,i<ys.length->Nt (fun _=>0) w (nth ts i) (nth ys i))(j2:bL ts=true)(k8:cM ts<=60):
  Nz M8 34 [.bool se,sv] w fun v w'=>∃ab,v=nP ab/\Mv w w'/\A8D w' ab se (fh ts 0 gH):=by
 have l2:=fN ts;have k7:=du ts;have a9:¬(fun q:Nat=>1<=q) 0:=zd;have d5:Nh (fun _=>0) w sv:=hs.free0 (fun x=>by simp);refine Ln func34 ntmps34 rfl rfl ?_;refine zh ?_;refine zv (Ph (cells:=a8C se (nS) (nS) (nS) (nS) (nS) 0) K0 (zeroValue142 _) rfl rfl) ?_;refine aI (aw w) 1 zo rfl rfl ?_;intro ab w1 O1 f5 j7 k1 l';have h1:A8 O1 w1 1 ab se (fh (ts.take 0) 0 gH) (nS) (nS) (nS) (nS) (nS) []:=⟨f5,LU _ _ _ _ _ _,rfl,fun x hx=>absurd hx (by simp),LU _ _ _ _ _ _,LU _ _ _ _ _ _⟩
 have l1:∀w:Lj,Sl aL 1 w (nS) (fh (ts.take 0) 0 gH).f:=fun w=>sl0 w
 refine zh ?_;refine zlp (fun z:Nat×(Nat->Nat)×World×ix×ix×ix×ix×ix×List N3=>[(1,sv),(5,nP ab),(6,nI (z.1:Nat))]) (fun z=>z.2.2.1) (fun z=>z.1<=ts.length/\M1 (fun q=>1<=q) (fun _=>0) w z.2.1 z.2.2.1/\NF w.heap.size z.2.1 z.2.2.1/\A8 z.2.1 z.2.2.1 1 ab se (fh (ts.take z.1) 0 gH) z.2.2.2.1 z.2.2.2.2.1 z.2.2.2.2.2.1 z.2.2.2.2.2.2.1 z.2.2.2.2.2.2.2.1 z.2.2.2.2.2.2.2.2/\Sl aL 1 z.2.2.1 z.2.2.2.2.2.1 (fh (ts.take z.1) 0 gH).f/\Nh z.2.1 z.2.2.1 z.2.2.2.2.2.1/\Sl aL 1 z.2.2.1 z.2.2.2.2.2.2.1 (fh (ts.take z.1) 0 gH).l/\Nh z.2.1 z.2.2.1 z.2.2.2.2.2.2.1) (fun z=>ts.length-z.1) (0,O1,w1,nS,nS,nS,nS,nS,[]) (⟨ln _,j7.mono (fun q h=>zo) a9,k1,h1,sl0 _,(fun a n c e=>by cases e),sl0 _,(fun a n c e=>by cases e)⟩) ?_
 rintro⟨q,O2,w2,g8,g3,d7,b9,g2,f'⟩ ⟨hq,c7,h9,h2,c9,e6,c8,e4⟩;dsimp only at hq c7 h9 h2 c9 e6 c8 e4 ⊢;have j0:=hs.U d5 c7;refine zh ?_;refine zC ?_ ?_
 ·intro a8;replace a8:q<ts.length:=dT a8;have d4:=(hk q zo).U c7;have hB:=yS (ts.take q) 0 gH (by have:=jU ts q;omega);have l3:=oi a8;have l4:=jU ts (q+1);have k':=di ts q a8;have l0:=bY ts (q+1);have a1:=DF a8;obtain⟨b1,b2,b3,b4,b5,b6⟩:=hB;have b6:=b6 zd (by rw[MH];omega);simp only[gH,PF,NG]at b1 b2 b3 b4 b5;have g9:=mh (nth ts q) (aA (ts.take q));obtain⟨R,h0⟩:∃R,R=fh (ts.take q) 0 gH:=⟨_,rfl⟩
  rw[show(⟨[],[],[],[],[],0⟩:MS)=gH from rfl,<-h0]at b1 b2 b3 b4 b5;rw[<-h0]at h2 c9 c8 b6 a1;refine zh ?_;refine zvH (ah (us:=aY (nth ys q)) (fun j u hu=>j0.cell zo hu) (PL _) (Nu _) rfl) ?_;refine zc call72 (vz _ (nth ts q) (MG _) w.heap.size O2 w2 1 ab se R g8 g3 d7 b9 g2 f' q (nth ys q) zd h9 h2 zo zo zo (qe ts q j2 a8) d4) ?_;rintro _ w3 ⟨O3,d1,d0,c',f9,f3,z3,rfl,j6,k0,h3,d9,i',d8,g7⟩;have k2:gG R (nth ts q) q=⟨R.lv++tD (nth ts q),R.of++ka (aK (nth ts q)) q,R.f++(bO (nth ts q) R.lv.length).f,R.l++(bO (nth ts q) R.lv.length).l,R.p++(bO (nth ts q) R.lv.length).p,if(bO (nth ts q) R.lv.length).e=true then R.e ||| 2^q else R.e⟩:=rfl;rw[k2]at a1;rw[b1]at h3 d9 d8 a1 ⊢;generalize bO (nth ts q) (aA (ts.take q))=pr at *;obtain⟨pe,pf,pl,pp⟩:=pr;dsimp only at h3 d9 d8 a1 g9 ⊢;obtain⟨l6,l5,_⟩:=g9;refine au k0 5 zo (MC _) rfl ?_;intro pb w4 O4 b7 j5 j' l8;refine zsb (us:=bZ pe f3 z3) b7 (MF _) (by simp only[Li,d9.one,d8.one];rfl) ?_;have b0:=b7.setRow (us:=bZ pe f3 z3);have g':M1 (fun q=>q=5) O4 w4 O4 (w4.setRow pb (bZ pe f3 z3)):=Lq zd b7.tag rfl;generalize w4.setRow pb (bZ pe f3 z3)=w5 at *;have a3:=j5.J g';have h8:=j'.U g';have a4:=(j6.mono (S':=fun q=>1<=q) (fun q h=>zo) a9).J (a3.mono (fun q h=>zo) a9);have h5:=h3.U a3 zd (fun q _ _=>zo);have i5:=c9.U e6 a4;have k6:=e6.U a4
  have i3:=c8.U e4 a4;have i6:=e4.U a4;have i1:=d9.U i' a3;have i0:=d8.U g7 a3;have i9:=g7.U a3;have c3:w5.cell? (nA ab 3)=some d7:=h5.blk.cell 3 rfl;have c1:w5.cell? (nA pb 1)=some f3:=b0.cell 1 rfl;have s5:∀W,Mv w5.drew W->W.cell? (nA pb 1)=some f3:=fun W e=>e.cell (b0.drew.cell 1 rfl)
  have k5:w5.drew.cell? (nA ab 3)=some d7:=h5.blk.drew.cell 3 rfl;refine zh ?_;refine aN (fun W=>W.cell? (nA pb 1)=some f3) 11 rfl zk ?_;refine zin (s5 _ (Lk _)) fun zS=>?_
  refine zrm 0 rfl zS rfl ?_;refine zrm 1 rfl zS rfl ?_
  refine zr 2 rfl zS (fun _=>ak rfl) ?_;refine zrf 3 rfl zS rfl ?_
  refine zrf 5 rfl zS rfl ?_;refine zt 6 rfl zS (fun w1 e7=>RV.ld e7 rfl) ?_
  refine Ls 4 zk rfl ?_;refine zvH (RV.ld k5 rfl) ?_
  refine ae ((s5 _ (Lk _))) ?_;refine Ls 7 zk rfl ?_
  refine zc NB (aR R.f pf d7 f3 w5.drew i5.drew i1.drew zo) ?_;rintro a6 w6 ⟨e2,e0,i8⟩;refine zh ?_
  refine ae ((s5 _ e0)) ?_;have j9:=h8.drew.ext e0;have g6:=i8.free e2 (fun x _=>by simp) h8.drew;have f7:M1 (fun _=>False) O4 w5 O4 w6:=aa (fun h=>h) O4 ((Lk w5).drew.J e0);have h6:=h5.U f7 zd (fun _ _ _ h=>h);have d3:=b0.U f7 zd (fun h=>h);refine zin ((s5 _ e0)) fun zS=>?_
  refine zr 8 rfl zS (fun _=>ak rfl) ?_;refine zrf 9 rfl zS rfl ?_
  refine Ls 10 zk rfl ?_;refine aj (j:=3) h6.blk rfl (Ms _) e2.one rfl rfl rfl ?_
  have a5:M1 (fun q=>q=1) O4 w6 O4 (w6.setCell ⟨ab,3,none⟩ a6):=M9 zd h6.blk.tag rfl;refine zh ?_;refine ae (((d3.U a5 zd zd).cell 1 rfl)) ?_;have e':MN O4 (w6.setCell ⟨ab,3,none⟩ a6) 1 ab (a8C se d1 d0 a6 b9 c' R.e) 142:=h6.blk.set 3 a6;generalize w6.setCell ⟨ab,3,none⟩ a6=w7 at *;have b8:=(f7.mono (S':=fun q=>1<=q) (fun _ h=>h.elim) a9).J (a5.mono (fun q h=>zo) a9);have a':=d3.U a5 zd zd;have h7:=j9.U a5;have i4:=e2.U g6 a5;have g5:=g6.U a5;have i2:=i3.U i6 b8;have h':=i0.U i9 b8;have l7:=h6.lvs.U a5 zd zd;have o7:=h6.ofs.U a5 zd zd;have p7:=h6.prs.U a5 zd zd;have c4:w7.cell? (nA ab 4)=some b9:=e'.cell 4 rfl;have c2:w7.cell? (nA pb 2)=some z3:=a'.cell 2 rfl;have s7:∀W,Mv w7.drew W->W.cell? (nA pb 2)=some z3:=fun W e=>e.cell (a'.drew.cell 2 rfl)
  have k4:w7.drew.cell? (nA ab 4)=some b9:=e'.drew.cell 4 rfl;refine MZ zk ?_;refine zh ?_;refine aN (fun W=>W.cell? (nA pb 2)=some z3) 11 rfl zk ?_;refine zin (s7 _ (Lk _)) fun zS=>?_
  refine zrm 0 rfl zS rfl ?_;refine zrm 1 rfl zS rfl ?_
  refine zr 2 rfl zS (fun _=>ak rfl) ?_;refine zrf 3 rfl zS rfl ?_
  refine zrf 5 rfl zS rfl ?_;refine zt 6 rfl zS (fun w1 e7=>RV.ld e7 rfl) ?_
  refine Ls 4 zk rfl ?_;refine zvH (RV.ld k4 rfl) ?_
  refine ae ((s7 _ (Lk _))) ?_;refine Ls 7 zk rfl ?_
  refine zc NB (aR R.l pl b9 z3 w7.drew i2.drew h'.drew zo) ?_;rintro a7 w8 ⟨e1,d',i7⟩;refine zh ?_
  refine ae ((s7 _ d')) ?_;have j8:=h7.drew.ext d';have g4:=i7.free e1 (fun x _=>by simp) h7.drew;have f6:M1 (fun _=>False) O4 w7 O4 w8:=aa (fun h=>h) O4 ((Lk w7).drew.J d');have e9:=e'.U f6 zd (fun h=>h);have d2:=a'.U f6 zd (fun h=>h);refine zin ((s7 _ d')) fun zS=>?_
  refine zr 8 rfl zS (fun _=>ak rfl) ?_;refine zrf 9 rfl zS rfl ?_
  refine Ls 10 zk rfl ?_;refine aj (j:=4) e9 rfl (Ms _) e1.one rfl rfl rfl ?_
  have c5:M1 (fun q=>q=1) O4 w8 O4 (w8.setCell ⟨ab,4,none⟩ a7):=M9 zd e9.tag rfl;refine zh ?_;refine ae (((d2.U c5 zd zd).cell 2 rfl)) ?_;have b':MN O4 (w8.setCell ⟨ab,4,none⟩ a7) 1 ab (a8C se d1 d0 a6 a7 c' R.e) 142:=e9.set 4 a7;generalize w8.setCell ⟨ab,4,none⟩ a7=w9 at *;have a2:=(f6.mono (S':=fun q=>q=1) (fun _ h=>h.elim) zd).J c5;have e8:=d2.U c5 zd zd;have h4:=j8.U c5;have g1:=i4.U g5 a2;have e5:=g5.U a2;have g0:=e1.U g4 c5;have e3:=g4.U c5;have l9:=l7.U a2 zd zd;have o9:=o7.U a2 zd zd;have p9:=p7.U a2 zd zd;have d6:=(a4.J b8).J (a2.mono (fun q h=>zo) a9);have c0:w9.cell? (nA pb 0)=some (.bool pe):=e8.cell 0 rfl;refine MZ zk ?_;refine zh ?_;refine zC ?_ ?_
  ·intro he;subst he;rw[ap rfl]at a1;have k9:2^q<=2^60:=N1 zd zo;have j4:(2^60:Nat)=1152921504606846976:=zd;have c6:w9.cell? (nA ab 6)=some (.int .u64 (R.e:Int)):=b'.cell 6 rfl;have k3:w9.drew.cell? (nA ab 6)=some (.int .u64 (R.e:Int)):=b'.drew.cell 6 rfl;refine aN (fun _=>True) 11 rfl zk ?_;refine zin trivial fun zS=>?_
   refine zrm 0 rfl zS rfl ?_;refine zrm 1 rfl zS rfl ?_
   refine zr 2 rfl zS (fun _=>ak rfl) ?_;refine zrf 3 rfl zS rfl ?_
   refine zrm 5 rfl zS rfl ?_;refine zr 6 rfl zS (fun _=>lj (a:=1) (b:=q) rfl rfl rfl rfl (by show _<=64;omega) (by show _<=(18446744073709551615:Int);omega)) ?_
   rw[NN];refine Ls 4 zk rfl ?_;refine zvH (RV.ld k3 rfl) ?_;refine zaf (trivial) fun zS=>?_
   refine zr 7 rfl zS (fun _=>mQ (a:=R.e) (b:=2^q) rfl rfl rfl rfl (by show _<=(18446744073709551615:Int);omega) (by show _<=(18446744073709551615:Int);omega)) ?_;refine zr 8 rfl zS (fun _=>ak rfl) ?_
   refine zrf 9 rfl zS rfl ?_;refine Ls 10 zk rfl ?_
   refine aj (j:=6) b'.drew rfl (sizeOf28 _) rfl rfl rfl rfl ?_;refine zh ?_
   refine ae (trivial) ?_;have f8:M1 (fun j=>j=1) O4 w9.drew O4 (w9.drew.setCell ⟨ab,6,none⟩ (.int .u64 ((R.e ||| 2^q:Nat):Int))):=M9 zd b'.tag rfl;have f4:MN O4 (w9.drew.setCell ⟨ab,6,none⟩ (.int .u64 ((R.e ||| 2^q:Nat):Int))) 1 ab (a8C se d1 d0 a6 a7 c' (R.e ||| 2^q)) 142:=b'.drew.set 6 _;generalize w9.drew.setCell ⟨ab,6,none⟩ (.int .u64 ((R.e ||| 2^q:Nat):Int))=w10 at *;have a0:M1 (fun j=>j=1) O4 w9 O4 w10:=f8.ofDrew;refine MZ zk ?_
   refine zh ?_;refine zxd (q+1,O4,w10,d1,d0,a6,a7,c',f9) ((by dsimp only;rw[a1];exact⟨a8,(c7.J d6).J (a0.mono (fun q h=>zo) a9),h4.U a0,⟨f4,l9.U a0 zd zd,h3.key,h3.one,o9.U a0 zd zd,p9.U a0 zd zd⟩,g1.U e5 a0,e5.U a0,g0.U e3 a0,e3.U a0⟩))
  intro he;subst he;rw[am Nb]at a1;refine zh ?_;refine zxd (q+1,O4,w9,d1,d0,a6,a7,c',f9) ((by dsimp only;rw[a1];exact⟨a8,c7.J d6,h4,⟨b',l9,h3.key,h3.one,o9,p9⟩,g1,e5,g0,e3⟩))
 intro j3;have j1:q=ts.length:=dF j3;subst j1;rw[Ll]at h2 c9 c8;refine zh ?_;refine af rfl rfl (⟨ab,rfl,c7.ext,⟨g8,g3,d7,b9,g2,f',⟨h2.blk.blk,rfl⟩,h2.lvs.sl,h2.key,h2.one,h2.ofs.sl,c9,c8,h2.prs.sl⟩⟩)
def mH(l:List Nat){p:Int}(h:0<=p):(l.map fun(n:Nat)=>(n:Int)).contains p=l.contains p.toNat:=by
 rw[N6,MB,MB,Mw]
 constructor
 ·rintro⟨n,hn,rfl⟩;simpa using hn
 intro hn;exact⟨p.toNat,hn,zo⟩
def lX(R:MS)(s:List Int)(k j:Nat):Bool:=(s.contains 0&&R.f.contains k)||(R.p.take j).any λe=>e.2==k&&s.contains (e.1:Int)
def Db(R:MS)(s:List Int)(k:Nat):lX R s k R.p.length=B9 R s k:=by unfold lX B9;rw[Ll]
def Bt{R:MS}{j:Nat}(h:j<R.p.length):lX R s k (j+1)=(lX R s k j||((nth R.p j).2==k&&s.contains ((nth R.p j).1:Int))):=by
 unfold lX;rw[aG h,PH,<-Bool.or_assoc];simp
def Bs{R:MS}{j:Nat}(h:lX R s k j=true):B9 R s k=true:=by
 unfold lX at h;unfold B9;rw[Nr]at h ⊢
 rcases h with h|h
 ·exact .inl h
 rw[Nk]at h ⊢;obtain⟨e,he,h⟩:=h;exact .inr ⟨e,Nv he,h⟩
def lF(R:MS)(se:Bool)(s:List Int)(m:Int)(q:Nat):List Int:=
 (if se=true then [0]else [])++((LD q).filter λq=>B9 R s (q+1)&&ck (nth R.lv q).1 (nth R.lv q).2 m).map fun(q:Nat)=>(q:Int)+1
def ya(R:MS)(se:Bool)(s:List Int)(m:Int)(q:Nat):lF R se s m (q+1)=lF R se s m q++(if(B9 R s (q+1)&&ck (nth R.lv q).1 (nth R.lv q).2 m)=true then [(q:Int)+1]else []):=by
 unfold lF;rw[Nn,Pj,Mz,ME];congr 2
 by_cases h:(B9 R s (q+1)&&ck (nth R.lv q).1 (nth R.lv q).2 m)=true
 ·rw[ap h];simp only[Px,PG];rw[ap h];rfl
 rw[am h];simp only[Px,PG];rw[am h];rfl
def rk(R:MS)(se:Bool)(s:List Int)(m:Int)(q:Nat):(lF R se s m q).length<=q+1:=by
 unfold lF;rw[M0,Np];have:=P8 (λq=>B9 R s (q+1)&&ck (nth R.lv q).1 (nth R.lv q).2 m) (LD q);rw[Ps]at this
 split<;>simp<;>omega
def Cz(w:Lj)(ab:Nat)(se:Bool)(R:MS)(s:List Int)(sv:ix)(m:Int)(h:A8D w ab se R)(hs:Nc w sv s)(hk:∀e∈R.lv,e.1=0\/e.1=1\/e.1=2\/e.1=3)(hl:R.lv.length<=1000)(hp:R.p.length<=1000000):
  Nz M8 69 [nP ab,sv,nI m] w λv w'=>Sl encI 1 w' v (dD R se s m)/\Mv w w'/\P7 w.heap.size v:=by
 obtain⟨lv,ov,fv,zV,pv,xs,hb,b5,a9,b4,e3,d5,d9,d0⟩:=h.ex;have c8:xs.length=R.lv.length:=by rw[<-a9,Np]
 have c0:∀W,Mv w W->W.cell? (nA ab 0)=some (.bool se):=λW e=>e.cell (hb.cell 0 rfl)
 have c1:∀W,Mv w W->W.cell? (nA ab 1)=some lv:=λW e=>e.cell (hb.cell 1 rfl)
 have c3:∀W,Mv w W->W.cell? (nA ab 3)=some fv:=λW e=>e.cell (hb.cell 3 rfl)
 have c5:∀W,Mv w W->W.cell? (nA ab 5)=some pv:=λW e=>e.cell (hb.cell 5 rfl)
 have c9:dD R se s m=lF R se s m R.lv.length:=rfl;rw[c9];apply Ln func69 ntmps69 rfl rfl;refine zh ?_;refine zvH (RV.ld (c0 w (Lk w)) rfl) ?_;refine eI (λy:ix×(Nat->Nat)×World=>[(0,nP ab),(1,sv),(2,nI m),(7,y.1)]) (λy:ix×(Nat->Nat)×World=>y.2.2) (λy:ix×(Nat->Nat)×World=>Nl encI 3 1 y.2.1 y.2.2 1 y.1 (lF R se s m 0)/\M1 (λq=>q=1) (λ_=>0) w y.2.1 y.2.2/\NF w.heap.size y.2.1 y.2.2) ?_ ?_
 ·intro Qm hN;refine zC ?_ ?_
  ·intro he;subst he;refine zh ?_;apply bd mE (enc:=encI) (aw w) 1 zd (0:Int) rfl rfl rfl zd rfl;intro v1 w1 O1 a2 b0 b1;refine zh ?_;exact NS (hN ((v1,O1,w1)) ⟨a2,b0,b1⟩) ⟨rfl,rfl,rfl,rfl,trivial⟩ rfl
  intro he;subst he;refine zh ?_;exact NS (hN ((nS,(λ_=>0),w)) ⟨LU _ _ _ _ _ _,MA zd _ _,aw w⟩) ⟨rfl,rfl,rfl,rfl,trivial⟩ rfl
 rintro⟨v1,O1,w1⟩ ⟨a2,b0,b1⟩;refine zh ?_;dsimp only at a2 b0 b1 ⊢;refine zh ?_;apply zlp (λz:Nat×(Nat->Nat)×World×ix=>[(0,nP ab),(1,sv),(2,nI m),(7,z.2.2.2),(8,nI ((z.1:Nat)+1:Int))]) (λz=>z.2.2.1) (λz=>z.1<=xs.length/\Nl encI 3 1 z.2.1 z.2.2.1 1 z.2.2.2 (lF R se s m z.1)/\M1 (λq=>q=1) (λ_=>0) w z.2.1 z.2.2.1/\NF w.heap.size z.2.1 z.2.2.1) (λz=>xs.length-z.1) (0,O1,w1,v1) ⟨ln _,a2,b0,b1⟩;rintro⟨q,O2,w2,v2⟩ ⟨hq,a1,b6,b7⟩;dsimp only at hq a1 b6 b7 ⊢;have a0:=b6.ext;refine zh ?_;apply zv (RV.ld (c1 w2 a0) rfl);refine zvH (MX (by first|exact b5.ext a0) MK rfl) ?_;refine zC ?_ ?_
 ·intro a6;replace a6:q<xs.length:=dT a6;have d6:=(d5.ext a0).natIv;have b3:=d0.ext a0;have e2:=b3.len_le;refine zh ?_;apply zc Po (qg s 0 sv w2 (hs.ext a0));rintro _ wx ⟨rfl,a3⟩;rw[a3];clear a3 wx;refine zh ?_;refine aT (λw1=>_=w1) (R.f.contains (q+1)) 6 rfl rfl rfl rfl rfl rfl ?_ ?_
  ·intro g1;refine zh ?_;refine zvH (RV.ld (c3 w2 a0) rfl) ?_;apply zc Po (qg _ ((q:Int)+1) fv w2 d6);rintro _ wx ⟨rfl,a3⟩;rw[a3];clear a3 wx;rw[mH R.f (by omega:(0:Int)<=(q:Int)+1),show((q:Int)+1).toNat=q+1 from by omega];refine zh ?_;refine nE 27 7 rfl g1
  rintro _ rfl;refine zh ?_;have d2:lX R s (q+1) 0=(s.contains 0&&R.f.contains (q+1)):=by unfold lX;simp
  rw[<-d2];apply zlp (λy:Nat=>[(0,nP ab),(1,sv),(2,nI m),(7,v2),(8,nI ((q:Nat)+1:Int)),(9,.bool (lX R s (q+1) y)),(10,nI (y:Nat))]) (λy=>w2) (λy=>y<=R.p.length) (λy=>R.p.length-y) 0 (ln _);intro j hj;refine zh ?_;refine zvH (RV.ld (c5 w2 a0) rfl) ?_;refine aT (λw1=>_=w1) (!(lX R s (q+1) j)) 2 rfl rfl rfl rfl rfl rfl ?_ ?_
  ·intro g2;refine zh ?_;refine nE 42 3 rfl g2
  rintro _ rfl;refine zh ?_;refine zC ?_ ?_
  ·intro hc;rw[M5]at hc;have a':j<R.p.length:=by have:=of_decide_eq_true hc.1;omega
   have d1:lX R s (q+1) j=false:=by simpa using hc.2
   have e1:w2.cell? ((adr pv 2 j).add 1)=some (nI ((nth R.p j).2:Int)):=b3.cell (i:=j) (j:=1) a' rfl;have e0:w2.cell? ((adr pv 2 j).add 0)=some (nI ((nth R.p j).1:Int)):=b3.cell (i:=j) (j:=0) a' rfl;have a4:=Bt (s:=s) (k:=q+1) a';rw[d1,NZ]at a4;refine zh ?_;refine zvH (RV.ld (by first|exact c5 w2 a0|exact e1) rfl) ?_;apply zv (dI Pd (LN _) rfl rfl 1 rfl zd);refine zvH (RV.ld (by first|exact c5 w2 a0|exact e1) rfl) ?_;have d3:(((nth R.p j).2:Int)==(q:Int)+1)=((nth R.p j).2==q+1):=by rw[N6,beq_iff_eq,beq_iff_eq];omega
   refine aT (λw1=>_=w1) (s.contains ((nth R.p j).1:Int)) 10 rfl rfl rfl rfl rfl rfl ?_ ?_
   ·intro g3;refine zh ?_;refine zvH (RV.ld (by first|exact c5 w2 a0|exact e0) rfl) ?_;refine zvH (dI Pd (LN _) rfl rfl 0 rfl zd) ?_;apply zc Po (qg s ((nth R.p j).1:Int) sv w2 (hs.ext a0));rintro _ wx ⟨rfl,a3⟩;rw[a3];clear a3 wx;refine zh ?_;refine nE 58 11 rfl g3
   rintro _ rfl;refine zh ?_;rw[d3,<-a4];refine zxd (j+1) a'
  intro hc;have hm:lX R s (q+1) j=B9 R s (q+1):=by
   rw[P9]at hc
   rcases hc with hc|hc
   ·have:=of_decide_eq_false hc;rw[<-Db R s (q+1)];congr 1;omega
   have hc:lX R s (q+1) j=true:=by simpa using hc
   rw[hc,Bs hc]
  rw[hm];have hx:∀W,Mv w W->∀i u,(aY (nth xs q))[i]? = some u->W.cell? ((adr lv 3 q).add i)=some u:=λW e i u hu=>(b5.ext e).cell a6 hu
  have b8:nth R.lv q=((nth xs q).1,(nth xs q).2.1):=by rw[<-a9,cz a6]
  have b9:=hk _ (aJ (l:=R.lv) (j:=q) zo);rw[b8]at b9;have d':=rk R se s m q;have a7:=ya R se s m q;rw[b8]at a7;dsimp only at a7;rw[<-Cp b9]at a7;refine zh ?_;refine aT (Mv w2) (pd (nth xs q).1 (nth xs q).2.1 m) 10 (Lk w2) rfl rfl rfl rfl rfl ?_ ?_
  ·intro g4;refine zh ?_;refine zvH (RV.ld (c1 w2 a0) rfl) ?_;rw[show((q:Int)+1-1)=(q:Int)from by omega];refine zh ?_;refine zvH (M6 (b5.ext a0) MK (Nu _) rfl rfl q rfl a6) ?_;refine zvH (ah (us:=aY (nth xs q)) (hx w2 a0) (PL _) (Nu _) rfl) ?_;apply zc call111 (A5 (nth xs q) m w2 (b4 _ (aJ a6)));rintro _ w3 ⟨rfl,b2⟩;refine zh ?_;refine nE 71 11 b2 g4
  intro w3 b2;have b':M1 (λq=>q=1) O2 w2 O2 w3:=aa zd O2 b2;have a5:=a1.U (aa (S:=λ_=>False) (λh=>h) O2 b2) zd (λh=>h);have c6:=b6.J b';have c7:=b7.U b';refine zh ?_;refine zC ?_ ?_
  ·intro ht;rw[ap ht]at a7;refine zh ?_;apply Mu mE a5 c7 (((q:Int)+1)) (λ_=>rfl) rfl rfl rfl (by simp[Lm]) zo zo zo zd rfl rfl;intro v4 w4 O4 a8 d7 d8;refine zh ?_;refine zxd (q+1,O4,w4,v4) ⟨a6,by dsimp only;rw[a7];exact a8,c6.J d7,d8⟩
  intro ht;rw[am (by rw[ht];decide),N5]at a7;refine zh ?_;refine zxd (q+1,O2,w3,v2) ⟨a6,by dsimp only;rw[a7];exact a5,c6,c7⟩
 intro d4;have c':q=xs.length:=dF d4;refine zh ?_;refine af rfl rfl ⟨by rw[<-c8,<-c'];exact a1.sl,a0,a1.newV zd b7⟩
def fG(R:MS)(s:List Int)(i:Nat):Nat:=(s.take i).foldl (λb p=>if R.l.contains p.toNat=true then b ||| 2^nth R.of (p.toNat-1)else b) (if s.contains 0=true then R.e else 0)
def pc{R:MS}(h:i<s.length):fG R s (i+1)=if R.l.contains (nth s i).toNat=true then fG R s i ||| 2^nth R.of ((nth s i).toNat-1)else fG R s i:=by
 unfold fG;rw[aG h,Ly];rfl
def uJ{R:MS}{s:List Int}(he:R.e<2^60)(ho:∀i,nth R.of i<60):∀i,i<=s.length->fG R s i<2^60
 |0,_=>by unfold fG;rw[M7,MO];split;exact he;decide
 |i+1,h=>by
  have ih:=uJ (s:=s) he ho i zo;rw[pc zo]
  split
  ·exact NH ih (Nx zd (ho _))
  exact ih
def rh(w:Lj)(ab:Nat)(se:Bool)(R:MS)(s:List Int)(sv:ix)(h:A8D w ab se R)(hs:Nc w sv s)(hr:∀p∈s,0<=p/\p.toNat<=R.of.length)(he:R.e<2^60)(ho:∀i,nth R.of i<60)(b0:0∉R.l)(c5:R.of.length<=1000):
  Nz M8 71 [nP ab,sv] w λv w'=>v=.int .u64 ((lC R s:Nat):Int)/\Mv w w':=by
 obtain⟨lv,ov,fv,zV,pv,xs,hb,c8,b2,a',a6,c9,a8,b8⟩:=h.ex;have c2:∀W,Mv w W->W.cell? (nA ab 2)=some ov:=λW e=>e.cell (hb.cell 2 rfl)
 have c4:∀W,Mv w W->W.cell? (nA ab 4)=some zV:=λW e=>e.cell (hb.cell 4 rfl)
 have c6:∀W,Mv w W->W.cell? (nA ab 6)=some (.int .u64 (R.e:Int)):=λW e=>e.cell (hb.cell 6 rfl)
 have a9:lC R s=fG R s s.length:=by unfold fG;rw[Ll];rfl
 have b6:=hs.len_le;have b5:(2^60:Nat)=1152921504606846976:=zd;rw[a9];apply Ln func71 ntmps71 rfl rfl;refine zh ?_;apply zc Po (qg s 0 sv w hs);rintro _ wx ⟨rfl,a2⟩;rw[a2];clear a2 wx;refine zh ?_;refine eI (λy:Unit=>[(0,nP ab),(1,sv),(5,.int .u64 ((fG R s 0:Nat):Int))]) (λy:Unit=>w) (λy:Unit=>True) ?_ ?_
 ·intro Qm hN;refine zC ?_ ?_
  ·intro h0;have ht:fG R s 0=R.e:=by unfold fG;rw[M7,MO,ap h0]
   rw[ht]at hN;refine zh ?_;refine zvH (RV.ld (c6 w (Lk w)) rfl) ?_;exact NS (hN (()) trivial) ⟨rfl,rfl,rfl,trivial⟩ rfl
  intro h0;have ht:fG R s 0=0:=by unfold fG;rw[M7,MO,am (by rw[h0];decide)]
  rw[ht]at hN;refine zh ?_;exact NS (hN (()) trivial) ⟨rfl,rfl,rfl,trivial⟩ rfl
 rintro⟨⟩ -;refine zh ?_;apply zlp (λz:Nat×Lj=>[(0,nP ab),(1,sv),(5,.int .u64 ((fG R s z.1:Nat):Int)),(6,nI (z.1:Nat))]) (λz=>z.2) (λz=>z.1<=s.length/\Mv w z.2) (λz=>s.length-z.1) (0,w) ⟨ln _,Lk w⟩;rintro⟨i,w1⟩ ⟨hi,a0⟩;dsimp only at hi a0 ⊢;have a5:=hs.ext a0;refine zh ?_;refine zC ?_ ?_
 ·intro a1;replace a1:i<s.length:=dT a1;have m1:w1.cell? (adr sv 1 i)=some (nI (nth s i)):=by have:=a5.cell (i:=i) (j:=0) a1 rfl;rwa[ar]at this
  have hp:=hr _ (aJ a1);have b9:(nth s i).toNat<=1000:=zo;have a3:=pc (R:=R) a1;refine zh ?_;apply PE 8 rfl rfl zk zk;refine zh ?_;refine zwH (RV.ld (by first|exact c4 w1 a0|exact m1) rfl) ?_;apply dX;apply zc Po (qg _ (nth s i) zV w1.drew ((a8.ext a0).drew.natIv));rintro _ wx ⟨rfl,a2⟩;rw[a2];clear a2 wx;rw[mH R.l hp.1];refine zh ?_;refine zC ?_ ?_
  ·intro hc;rw[ap hc]at a3;have a4:=MB.1 hc;have b':1<=(nth s i).toNat:=Nat.pos_of_ne_zero λe=>b0 (by rw[<-e];exact a4)
   obtain⟨k,hk⟩:∃k:Nat,nth s i=(k:Int)+1:=⟨(nth s i).toNat-1,zo⟩
   have b1:(nth s i).toNat-1=k:=zo;rw[b1]at a3;have c7:=ho k;have a7:=uJ (s:=s) he ho i hi;have b7:2^nth R.of k<=2^60:=N1 zd zo;have m2:w1.drew.cell? (adr sv 1 i)=some (nI ((k:Int)+1)):=by rw[<-hk];exact m1
   have m3:w1.drew.cell? (adr ov 1 k)=some (nI ((nth R.of k:Nat):Int)):=by have:=(a6.ext a0).drew.cell (i:=k) (j:=0) zo rfl;rwa[ar]at this
   apply PM zk zk;refine zh ?_
   refine zwH (RV.ld (by first|exact c2 w1.drew a0.drew|exact m2|exact m3) rfl) ?_;apply zw (ai a5.sh L3 (LN _) rfl rfl i rfl a1)
   apply zw (RV.ld (by first|exact c2 w1.drew a0.drew|exact m2|exact m3) rfl);apply zw (RV.sub rfl rfl (Nq zo))
   apply zw (ai a6.sh L3 (LN _) rfl rfl k zo zo);apply zw (RV.ld (by first|exact c2 w1.drew a0.drew|exact m2|exact m3) rfl)
   apply zw (lj (a:=1) (b:=nth R.of k) rfl rfl rfl rfl (by show _<=64;omega) (by show _<=(18446744073709551615:Int);omega));refine zwH (mQ (a:=fG R s i) (b:=1*2^nth R.of k) rfl rfl rfl rfl (by show _<=(18446744073709551615:Int);omega) (by show _<=(18446744073709551615:Int);omega)) ?_
   apply PZ;refine zh ?_
   rw[NN,<-a3];refine zxd (i+1,w1.drew.drew) ⟨a1,a0.drew.drew⟩
  intro hc;rw[am (by rw[hc];decide)]at a3;rw[<-a3];refine zh ?_;refine zxd (i+1,w1.drew) ⟨a1,a0.drew⟩
 intro b4;have b3:i=s.length:=dF b4;rw[b3];refine zh ?_;refine af rfl rfl ⟨rfl,a0⟩
section
variable(nx:Nat→Nat→Nat)(tl:Nat→Nat)
def eU:Nat->Nat->Nat->Bool
 |0,p,q=>tl p != tl q
 |r+1,p,q=>eU r p q||(LD 37).any λm=>eU r (nx p m) (nx q m)
def rT(n r:Nat):List Nat:=(LD n).filter λp=>(LD p).all λq=>eU nx tl r q p
end
section
variable{nx:Nat→Nat→Nat}{tl:Nat→Nat}{n:Nat}
def Io(h:eU nx tl r p q=true):eU nx tl (r+1) p q=true:=by unfold eU;rw[h];rfl
def oW:∀(r p:Nat),eU nx tl r p p=false
 |0,p=>by simp[eU]
 |r+1,p=>by
  unfold eU;rw[oW r p,NZ,Mt];exact λm _=>by rw[oW r];simp
def jY:∀(r p q:Nat),eU nx tl r p q=eU nx tl r q p
 |0,p,q=>by unfold eU;rw[N6];simp only[bne_iff_ne];exact ne_comm
 |r+1,p,q=>by
  unfold eU;rw[jY r p q];congr 1;congr 1;funext m;exact jY r _ _
def fV:∀(r p q s:Nat),eU nx tl r p q=false->eU nx tl r q s=false->eU nx tl r p s=false
 |0,p,q,s,h1,h2=>by
  simp only[eU,bne_eq_false_iff_eq]at h1 h2 ⊢;exact h1.J h2
 |r+1,p,q,s,h1,h2=>by
  simp only[eU,MY,Mt,Bool.not_eq_true]at h1 h2 ⊢;exact⟨fV r p q s h1.1 h2.1,λm hm=>fV r _ _ _ (h1.2 m hm) (h2.2 m hm)⟩
def D0(h:Alike nx tl p q):eU nx tl r p q=false:=by
 induction r generalizing p q with
 |zero=>simpa[eU,runN]using h [] (λm hm=>by cases hm)
 |succ r ih=>
  unfold eU;rw[ih h,NZ,Mt];exact λm hm=>by rw[ih (h.step (LL.1 hm))];simp
def GO(a0:∀p m,p<n->m<37->nx p m<n)(hs:∀p q,p<n->q<n->eU nx tl (r+1) p q=true->eU nx tl r p q=true):∀p q,p<n->q<n->eU nx tl r p q=false->Alike nx tl p q:=by
 intro p q hp hq h w hw
 induction w generalizing p q with
 |nil=>
  have a1:∀r,eU nx tl r p q=false->tl p=tl q:=λr=>by
   induction r with
   |zero=>intro h;simpa[eU]using h
   |succ r ih=>intro h;simp only[eU,MY]at h;exact ih h.1
  exact a1 r h
 |cons m w ih=>
  have hm:=hw m (by simp);refine ih (nx p m) (nx q m) (a0 p m hp hm) (a0 q m hq hm) ?_ (λx hx=>hw x (by simp[hx]))
  cases hd:eU nx tl r (nx p m) (nx q m)with
  |false=>rfl
  |true=>
   have:eU nx tl (r+1) p q=true:=by
    unfold eU;rw[Nr,Nk];exact .inr ⟨m,LL.2 hm,hd⟩
   rw[hs p q hp hq this]at h
   cases h
def kR:p∈rT nx tl n r↔p<n/\∀q,q<p->eU nx tl r q p=true:=by
 unfold rT;rw[N2,LL,M4];exact and_congr Iff.rfl ⟨λh q hq=>h q (LL.2 hq),λh q hq=>h q (LL.1 hq)⟩
def Ij:∀p,p<n->∃l,l∈rT nx tl n r/\eU nx tl r l p=false:=by
 intro p
 induction p using Nat.strongRecOn with
 |ind p ih=>
  intro hp
  by_cases h:∀q,q<p->eU nx tl r q p=true
  ·exact⟨p,kR.2 ⟨hp,h⟩,oW r p⟩
  obtain⟨q,hq,hd⟩:∃q,q<p/\eU nx tl r q p=false:=by
   refine NJ λhn=>h λq hq=>?_
   cases e:eU nx tl r q p with
   |true=>rfl
   |false=>exact absurd ⟨q,hq,e⟩ hn
  obtain⟨l,h1,h2⟩:=ih q hq zo;exact⟨l,h1,fV r l q p h2 hd⟩
def Gw{a:Nat}(ha:a∈rT nx tl n r)(hb:b∈rT nx tl n r)(h:eU nx tl r a b=false):a=b:=by
 obtain⟨_,h1⟩:=kR.1 ha;obtain⟨_,h2⟩:=kR.1 hb
 by_cases e:a<b
 ·rw[h2 a e]at h;cases h
 by_cases e2:b<a
 ·rw[jY,h1 b e2]at h;cases h
 omega
def vL(r:Nat):(rT nx tl n r).Nodup:=Pw.filter _
def Jo(r:Nat):rT nx tl n r ⊆ rT nx tl n (r+1):=λp hp=>by
 obtain⟨h1,h2⟩:=kR.1 hp;exact kR.2 ⟨h1,λq hq=>Io (h2 q hq)⟩
def Gx(h:(rT nx tl n (r+1)).length<=(rT nx tl n r).length):∀p q,p<n->q<n->eU nx tl (r+1) p q=true->eU nx tl r p q=true:=by
 intro p q hp hq hd;have a0:rT nx tl n (r+1) ⊆ rT nx tl n r:=by
  intro x hx;refine NJ λhn=>?_
  have:(x::rT nx tl n r).length<=(rT nx tl n (r+1)).length:=
   (NO.2 ⟨hn,vL r⟩).length_le_of_subset λy hy=>by
    rcases NW.1 hy with rfl|hy
    ·exact hx
    exact Jo r hy
  rw[MU]at this;omega
 cases e:eU nx tl r p q with
 |true=>rfl
 |false=>
  obtain⟨a,a1,a2⟩:=Ij (r:=r+1) (nx:=nx) (tl:=tl) p hp;obtain⟨b,b1,b2⟩:=Ij (r:=r+1) (nx:=nx) (tl:=tl) q hq;have low:∀ {x y:Nat},eU nx tl (r+1) x y=false->eU nx tl r x y=false:=fun {x y} h=>by
   simp only[eU,MY]at h;exact h.1
  have a3:a=b:=Gw (a0 a1) (a0 b1) (fV r a p b (low a2) (fV r p q b e (by rw[jY];exact low b2)));subst a3;have:eU nx tl (r+1) p q=false:=fV (r+1) p a q (by rw[jY];exact a2) b2;rw[this]at hd
  cases hd
def GP(h:eU nx tl r p q=true):eU nx tl (r+k) p q=true:=by
 induction k with
 |zero=>exact h
 |succ k ih=>exact Io ih
def DZ(a1:∀p m,p<n->m<37->nx p m<n)(h0:0<n):∀p q,p<n->q<n->(eU nx tl n p q=false↔Alike nx tl p q):=by
 intro p q hp hq;refine⟨λh=>?_,D0⟩;have a0:∀r,(∃r',r'<r/\(rT nx tl n (r'+1)).length<=(rT nx tl n r').length)\/r+1<=(rT nx tl n r).length:=λr=>by
  induction r with
  |zero=>
   refine .inr (List.length_pos_of_mem (a:=0) (kR.2 ⟨h0,λq hq=>absurd hq (Lo q)⟩))
  |succ r ih=>
   rcases ih with⟨r',h1,h2⟩|h1
   ·exact .inl ⟨r',zo,h2⟩
   by_cases h2:(rT nx tl n (r+1)).length<=(rT nx tl n r).length
   ·exact .inl ⟨r,zo,h2⟩
   exact .inr zo
 have a2:(rT nx tl n n).length<=n:=gk (vL n) λx hx=>(kR.1 hx).1
 rcases a0 n with⟨r',h1,h2⟩|h1
 ·apply GO a1 (Gx h2) p q hp hq
  cases e:eU nx tl r' p q with
  |false=>rfl
  |true=>
   have:=GP (k:=n-r') e;rw[show r'+(n-r')=n from by omega,h]at this
   cases this
 omega
end
def BM(step:List Int->Int->List Int)(tells:List Int->Nat)(eQ:Nat):Nat->Nat->List (List Int)->List (List Nat)->List Nat->Option (List (List Nat)×List Nat)
 |0,_,_,_,_=>none
 |n+1,i,S,rows,tls=>
  if i<S.length then
   if eQ<(bX step (nth S i) S 37).1.length then none
   else BM step tells eQ n (i+1) (bX step (nth S i) S 37).1 (rows++[(bX step (nth S i) S 37).2]) (tls++[tells (nth S i)])
  else some (rows,tls)
def D1{step:List Int->Int->List Int}{tells:List Int->Nat}{eQ:Nat}(hm:eQ<=1000):∀(n i:Nat) (S:List (List Int)) (rows:List (List Nat)) (tls:List Nat) (d:List (List Nat)×List Nat),BM step tells eQ n i S rows tls=some d->GQ step tells n i S rows tls=some d
 |0,_,_,_,_,_,h=>by cases h
 |n+1,i,S,rows,tls,d,h=>by
  unfold BM at h;unfold GQ
  split at h
  ·rename_i hi;rw[ap hi]
   split at h
   ·cases h
   rename_i hl;rw[am zo];exact D1 hm n _ _ _ _ d h
  rename_i hi;rw[am hi];exact h
def Be(step:List Int->Int->List Int)(s:List Int)(S:List (List Int)):∀ {a b:Nat},a<=b->(bX step s S a).1.length<=(bX step s S b).1.length:=fun {a b} h=>by
 induction h with
 |refl=>exact MG _
 |step _ ih=>
  apply PS ih;show _<=(oP _ _).length;exact(Ah _ _).1
def eu(nx:Nat->Nat->Nat)(tl:Nat->Nat):Nat->Nat->Nat->Int
 |0,p,q=>if tl p=tl q then -1 else 0
 |r+1,p,q=>if 0<=eu nx tl r p q then eu nx tl r p q else if((LD 37).any λm=>decide (0<=eu nx tl r (nx p m) (nx q m)))=true then(r:Int)+1 else -1
def AQ(nx:Nat->Nat->Nat)(tl:Nat->Nat):∀r p q,-1<=eu nx tl r p q/\eu nx tl r p q<=r
 |0,p,q=>by unfold eu;split<;>omega
 |r+1,p,q=>by
  have:=AQ nx tl r p q;unfold eu
  split
  ·omega
  split<;>omega
def Fi(nx:Nat->Nat->Nat)(tl:Nat->Nat):∀r p q,0<=eu nx tl r p q↔eU nx tl r p q=true
 |0,p,q=>by
  unfold eu eU;rw[bne_iff_ne]
  split
  ·rename_i h;exact⟨λh'=>absurd h' zo,λh'=>absurd h h'⟩
  rename_i h;exact⟨λ_=>h,λ_=>Pe _⟩
 |r+1,p,q=>by
  have ih:=Fi nx tl r;unfold eu eU;rw[Nr,<-ih p q]
  split
  ·rename_i h;exact⟨λ_=>.inl h,λ_=>h⟩
  rename_i h;have e:((LD 37).any λm=>decide (0<=eu nx tl r (nx p m) (nx q m)))=(LD 37).any λm=>eU nx tl r (nx p m) (nx q m):=by
   congr 1;funext m;rw[N6,decide_eq_true_eq];exact ih _ _
  rw[e]
  split
  ·rename_i h2;exact⟨λ_=>.inr h2,λ_=>zo⟩
  rename_i h2;exact⟨λh'=>absurd h' zo,λh'=>h'.elim (λa=>absurd a h) λa=>absurd a h2⟩
def JC{nx:Nat->Nat->Nat}{tl:Nat->Nat}{x:Int}(h:x=eu nx tl r p q\/x=eu nx tl (r+1) p q):(0<=x/\x<(r:Int)+1)↔0<=eu nx tl r p q:=by
 have h1:=AQ nx tl r p q
 rcases h with rfl|rfl
 ·omega
 rw[show eu nx tl (r+1) p q=if 0<=eu nx tl r p q then eu nx tl r p q else if((LD 37).any λm=>decide (0<=eu nx tl r (nx p m) (nx q m)))=true then(r:Int)+1 else -1 from rfl]
 split
 ·omega
 split<;>omega
def Mh:cC M8 52 #[(0,1),(1,1)]:=⟨_,underlying52,λw=>by kernel_rfl⟩
structure SetO(O:Nat->Nat)(w:Lj)(v:ix)(vs:List ix)(S:List (List Int)):Prop where
 row:Nl sn 22 1 O w 1 v vs
 len:vs.length=S.length
 at_:∀k,k<S.length->Sl encI 1 w (nth vs k) (nth S k)/\Nh O w (nth vs k)
def SetO.U{P:Nat->Prop}{O O':Nat->Nat}{w w':Lj}{v:ix}{vs:List ix}{S:List (List Int)}(h:SetO O w v vs S)(u:M1 P O w O' w')(hS:¬P 1):SetO O' w' v vs S:=
 ⟨h.row.U u zd hS,h.len,λk hk=>⟨(h.at_ k hk).1.U (h.at_ k hk).2 u,(h.at_ k hk).2.U u⟩⟩
structure Rw9(O:Nat->Nat)(w:Lj)(v:ix)(vs:List ix)(rows:List (List Nat)):Prop where
 row:Nl sn 22 1 O w 5 v vs
 len:vs.length=rows.length
 at_:∀k,k<rows.length->Nl aL 3 1 O w (10+k) (nth vs k) (nth rows k)
def Rw9.U{P:Nat->Prop}{O O':Nat->Nat}{w w':Lj}{v:ix}{vs:List ix}{rows:List (List Nat)}(h:Rw9 O w v vs rows)(u:M1 P O w O' w')(hS:¬P 5)(a0:∀k,k<rows.length->¬P (10+k)):Rw9 O' w' v vs rows:=
 ⟨h.row.U u zd hS,h.len,λk hk=>(h.at_ k hk).U u zo (a0 k hk)⟩
def Rw9.rows{B:Nat}{O:Nat->Nat}{w:Lj}{v:ix}{vs:List ix}{rows:List (List Nat)}(h:Rw9 O w v vs rows)(r:NF B O w):PO B w v rows:=
 ⟨vs,h.row.sl,h.row.newV zd r,h.len,λk hk=>⟨(h.at_ k hk).sl,(h.at_ k hk).newV zo r⟩⟩
def Rw9.add{vs:List ix}{rows:List (List Nat)}{rv:ix}{r:List Nat}(h1:Nl sn 22 1 O w 5 v (vs++[rv]))(hl:vs.length=rows.length)(h2:∀k,k<rows.length->Nl aL 3 1 O w (10+k) (nth vs k) (nth rows k))(h3:Nl aL 3 1 O w (10+rows.length) rv r):Rw9 O w v (vs++[rv]) (rows++[r]):=
 ⟨h1,by simp[hl],λk hk=>by
  rw[az,az,hl]
  by_cases e:k<rows.length
  ·rw[ap e,ap e];exact h2 k e
  have a0:k=rows.length:=by simp at hk;omega
  subst a0
  rw[am e,am e,MR,ao,ao];exact h3⟩
def Mk{S:List (List Int)}(hk:k<=S.length)(a1:∀j,j<k->nth S j≠s)(hh:k=S.length\/nth S k=s):Ai S s=k/\oP S s=if k=S.length then S++[s]else S:=by
 have a0:BD S s=if k=S.length then none else some k:=by
  by_cases e:k=S.length
  ·rw[ap e];unfold BD;rw[List.findIdx?_eq_none_iff];intro x hx;obtain⟨j,hj,rfl⟩:=cd hx;simpa using a1 j zo
  rw[am e];have a2:k<S.length:=zo;unfold BD;rw[List.findIdx?_eq_some_iff_getElem];refine⟨a2,by rw[<-aB a2];simpa using hh.resolve_left e,λj hj=>?_⟩;have:=a1 j hj;rw[aB (by omega:j<S.length)]at this;simpa using this
 unfold Ai oP;rw[a0]
 by_cases e:k=S.length
 ·rw[ap e,ap e];exact⟨e.symm,rfl⟩
 rw[am e,am e];exact⟨rfl,rfl⟩
def LW(B:Nat)(w:Lj)(v:ix):Option (List (List Nat)×List Nat)->Prop
 |some d=>∃nv tv,v=.agg #[nv,tv]/\PO B w nv d.1/\Sl fq 1 w tv d.2/\P7 B tv
 |none=>v=.agg #[nS,nS]
def okR(R:MS)(s:List Int):Prop:=(∀p∈s,0<=p/\p.toNat<=R.of.length)/\s.length<=1001
def F3{R:MS}(a0:R.of.length=R.lv.length)(hl:R.lv.length<=1000)(se:Bool)(s:List Int)(m:Int):okR R (dD R se s m):=by
 refine⟨λp hp=>?_,by have:=rk R se s m R.lv.length;show(lF R se s m R.lv.length).length<=_;omega⟩;unfold dD at hp
 rcases My.1 hp with hp|hp
 ·split at hp
  ·rw[Lu.1 hp];exact⟨Pe _,ln _⟩
  cases hp
 obtain⟨q,hq,rfl⟩:=Mw.1 hp;have:=LL.1 (N2.1 hq).1;omega
set_option maxHeartbeats 1000000 in
def Df(w:Lj)(ab:Nat)(se:Bool)(R:MS)(h:A8D w ab se R)(hk:∀e∈R.lv,e.1=0\/e.1=1\/e.1=2\/e.1=3)(o3:R.of.length=R.lv.length)(hl:R.lv.length<=1000)(hp:R.p.length<=1000000)(he:R.e<2^60)(ho:∀i,nth R.of i<60)(m3:0∉R.l):
  Nz M8 33 [nP ab,nI 40] w λv w'=>Mv w w'/\LW w.heap.size w' v (BM (dD R se) (lC R) 40 1002 0 [[0]] [] []):=by
 have l':R.of.length<=1000:=zo;have b5:¬(λq:Nat=>1<=q) 0:=zd;apply Ln func33 ntmps33 rfl rfl;refine zh ?_;apply au (aw w) 7 zo (PC _) rfl;intro cb w1 O1 k8 p1 m9 r9;refine zh ?_;apply aQ mE (enc:=encI) (0:Int) rfl rfl rfl zd rfl;intro w2 l9 p8;have o6:P7 w1.heap.size (.slice (some ⟨w1.heap.size,0,none⟩) 1 1):=λa n c e _=>by cases e;exact MG _
 have k9:M1 (λ_=>False) O1 w1 O1 w2:=aa (λh=>h) O1 p8;have m6:=o6.free l9 (λx _=>by simp) m9;have p6:=m9.U k9;apply bd AJ (enc:=sn) p6 1 zd (.slice (some ⟨w1.heap.size,0,none⟩) 1 1:ix) rfl rfl rfl zd rfl;intro sv w3 O3 g0 h' p5
 have f':SetO O3 w3 sv [.slice (some ⟨w1.heap.size,0,none⟩) 1 1] [[0]]:=⟨g0,rfl,λk hk=>by
  obtain rfl:k=0:=by simpa using hk
  rw[ao,ao];exact⟨l9.U m6 h',m6.U h'⟩⟩
 have k7:=(k8.U k9 zd λh=>h).U h' zd zd;refine zh ?_;apply au p5 4 zo (PC _) rfl;intro db w4 O4 k3 l0 p4 r8;have k6:=k7.U l0 zd zd;have f9:=f'.U l0 zd;have l1:M1 (λq=>1<=q) (λ_=>0) w O4 w4:=(((p1.mono (λq h=>zo) b5).J (k9.mono (λ_ h=>h.elim) b5)).J (h'.mono (λq h=>zo) b5)).J (l0.mono (λq h=>zo) b5);refine zh ?_
 apply zlp (λz:Nat×(Nat->Nat)×World×ix×List ix×List (List Int)×Value×List ix×List (List Nat)×Value×List Nat=>[(0,nP ab),(1,nI 40),(4,nP cb),(5,z.2.2.2.1),(6,nP db),(7,nI (z.1:Nat))]) (λz=>z.2.2.1) (λz=>M1 (λq=>1<=q) (λ_=>0) w z.2.1 z.2.2.1/\NF w.heap.size z.2.1 z.2.2.1/\SetO z.2.1 z.2.2.1 z.2.2.2.1 z.2.2.2.2.1 z.2.2.2.2.2.1/\MN z.2.1 z.2.2.1 4 db #[z.2.2.2.2.2.2.1,z.2.2.2.2.2.2.2.2.2.1] 52/\MN z.2.1 z.2.2.1 7 cb #[nS,nS] 52/\Rw9 z.2.1 z.2.2.1 z.2.2.2.2.2.2.1 z.2.2.2.2.2.2.2.1 z.2.2.2.2.2.2.2.2.1/\Nl fq 28 1 z.2.1 z.2.2.1 6 z.2.2.2.2.2.2.2.2.2.1 z.2.2.2.2.2.2.2.2.2.2/\z.1<=z.2.2.2.2.2.1.length/\z.2.2.2.2.2.1.length<=40/\z.2.2.2.2.2.2.2.2.1.length=z.1/\z.2.2.2.2.2.2.2.2.2.2.length=z.1/\(∀s∈z.2.2.2.2.2.1,okR R s)/\BM (dD R se) (lC R) 40 (1002-z.1) z.1 z.2.2.2.2.2.1 z.2.2.2.2.2.2.2.2.1 z.2.2.2.2.2.2.2.2.2.2=BM (dD R se) (lC R) 40 1002 0 [[0]] [] []) (λz=>1002-z.1) (0,O4,w4,sv,[.slice (some ⟨w1.heap.size,0,none⟩) 1 1],[[0]],nS,[],[],nS,[]) ⟨l1,p4,f9,k3,k6,⟨LU _ _ _ _ _ _,rfl,λk hk=>absurd hk (Lo k)⟩,LU _ _ _ _ _ _,ln _,(show(1:Nat)<=40 by decide),rfl,rfl,λs hs=>by rw[Lu.1 hs];exact⟨λp hp=>by rw[Lu.1 hp];exact⟨Pe _,ln _⟩,(show(1:Nat)<=1001 by decide)⟩,rfl⟩;rintro⟨i,O5,w5,n1,n0,S,nv,l4,rows,tv,l3⟩ ⟨h9,i2,b0,e6,b2,d3,d1,hi,h2,j4,f8,j6,d9⟩;dsimp only at h9 i2 b0 e6 b2 d3 d1 hi h2 j4 f8 j6 d9 ⊢
 generalize r7:BM (dD R se) (lC R) 40 1002 0 [[0]] [] []=TG at *;have n6:=b0.len;refine zh ?_;refine zvH (aM b0.row.sl.sh MD rfl) ?_;refine zC ?_ ?_
 ·intro e9;replace e9:i<S.length:=dT e9;obtain⟨n,hn⟩:∃n,1002-i=n+1:=⟨1001-i,zo⟩
  rw[hn,BM,ap e9]at d9;have e4:=gR (dD R se) (nth S i) S;have p9:=j6 _ (aJ e9);refine zh ?_;apply zlp (λy:Nat×(Nat->Nat)×World×ix×List ix×ix=>[(0,nP ab),(1,nI 40),(4,nP cb),(5,y.2.2.2.1),(6,nP db),(7,nI (i:Nat)),(8,y.2.2.2.2.2),(9,nI (y.1:Nat))]) (λy=>y.2.2.1) (λy=>y.1<=37/\M1 (λq=>q=1\/q=10+i) O5 w5 y.2.1 y.2.2.1/\NF w.heap.size y.2.1 y.2.2.1/\SetO y.2.1 y.2.2.1 y.2.2.2.1 y.2.2.2.2.1 (bX (dD R se) (nth S i) S y.1).1/\Nl aL 3 1 y.2.1 y.2.2.1 (10+i) y.2.2.2.2.2 (bX (dD R se) (nth S i) S y.1).2/\(bX (dD R se) (nth S i) S y.1).1.length<=40/\(∀s∈(bX (dD R se) (nth S i) S y.1).1,okR R s)) (λy=>37-y.1) (0,O5,w5,n1,n0,nS) ⟨ln _,MA zo _ _,i2,b0,LU _ _ _ _ _ _,h2,j6⟩;rintro⟨m,O6,w6,b4,a',n2⟩ ⟨j9,d',i1,a1,a4,g5,a9⟩;dsimp only at j9 d' i1 a1 a4 g5 a9 ⊢;have c':=a1.len;have d8:=(e4 m).len;have e1:¬(0=1\/0=10+i):=zo;have e7:=h9.J (d'.mono (λq h=>zo) b5);refine zh ?_;refine zC ?_ ?_
  ·intro g4;replace g4:m<37:=dT g4;obtain⟨pq,e3⟩:=(e4 m).pre;have e':i<(bX (dD R se) (nth S i) S m).1.length:=by rw[e3];simp;omega
   have h7:nth (bX (dD R se) (nth S i) S m).1 i=nth S i:=by rw[e3,az,ap e9]
   have h6:bX (dD R se) (nth S i) S (m+1)=(oP (bX (dD R se) (nth S i) S m).1 (dD R se (nth S i) (m:Nat)),(bX (dD R se) (nth S i) S m).2++[Ai (bX (dD R se) (nth S i) S m).1 (dD R se (nth S i) (m:Nat))]):=rfl;have m0:=Be (dD R se) (nth S i) S (show m+1<=37 from g4);obtain⟨l8,q'⟩:=a1.at_ i e';rw[h7]at l8;have j5:=F3 o3 hl se (nth S i) (m:Nat);generalize bX (dD R se) (nth S i) S m=RT at *;obtain⟨Sm,rm⟩:=RT;dsimp only at a1 a4 g5 a9 c' d8 e3 e' h7 h6;have m1:w6.cell? (adr b4 1 i)=some (nth a' i):=by have:=a1.row.sl.cell (i:=i) (j:=0) zo rfl;rwa[ar]at this
   refine zh ?_;refine zvH (ai a1.row.sl.sh MD (Ms _) rfl rfl i rfl zo) ?_
   apply zc call69 (Cz w6 ab se R (nth S i) (nth a' i) (m:Nat) (h.ext e7.ext) l8 hk hl hp);rintro xv w7 ⟨i7,p7,o5⟩;have f3:M1 (λ_=>False) O6 w6 O6 w7:=aa (λh=>h) O6 p7;have i6:=o5.free i7 (λx _=>by simp) i1;have b6:=a1.U f3 (λh=>h);have d7:=a4.U f3 zo (λh=>h);have i0:=i1.U f3;have p2:=e7.J (f3.mono (λ_ h=>h.elim) b5);generalize dD R se (nth S i) (m:Nat)=s at *;refine zh ?_
   apply zlp (λx:Nat×Lj=>[(0,nP ab),(1,nI 40),(4,nP cb),(5,b4),(6,nP db),(7,nI (i:Nat)),(8,n2),(9,nI (m:Nat)),(10,xv),(11,nI (x.1:Nat))]) (λx=>x.2) (λx=>x.1<=Sm.length/\Mv w7 x.2/\(∀j,j<x.1->nth Sm j≠s)) (λx=>Sm.length-x.1) (0,w7) ⟨ln _,Lk _,λj hj=>absurd hj (Lo j)⟩;rintro⟨k,w8⟩ ⟨m5,h5,j7⟩;dsimp only at m5 h5 j7 ⊢;have m7:M1 (λ_=>False) O6 w7 O6 w8:=aa (λh=>h) O6 h5;have a0:=b6.U m7 (λh=>h);refine zh ?_
   refine zvH (aM a0.row.sl.sh MD rfl) ?_;have f5:∀w9,Mv w8 w9->(k=Sm.length\/nth Sm k=s)->M1 (λ_=>False) O6 w7 O6 w9/\Ai Sm s=k/\oP Sm s=if k=Sm.length then Sm++[s]else Sm:=λw9 e hh=>⟨m7.J (aa (λh=>h) O6 e),Mk m5 j7 hh⟩
   by_cases m4:k<Sm.length
   ·apply ax (d:=35) rfl (b':=true) ((decide_eq_true zo));obtain⟨n7,r6⟩:=a0.at_ k m4;have m2:w8.cell? (adr b4 1 k)=some (nth a' k):=by have:=a0.row.sl.cell (i:=k) (j:=0) zo rfl;rwa[ar]at this
    refine zh ?_;refine zvH (ai a0.row.sl.sh MD (Ms _) rfl rfl k rfl zo) ?_
    apply zc call70 (CG (nth Sm k) s (nth a' k) xv w8 n7 (i7.ext h5));rintro _ w9 ⟨rfl,h4⟩;refine zh ?_
    refine zC ?_ ?_
    ·intro hc;have o4:nth Sm k≠s:=by simpa using hc
     refine zh ?_;refine zxd (k+1,w9) ⟨m4,h5.J h4,λj hj=>(Lp.1 hj).elim (j7 j) (λe=>by rw[e];exact o4)⟩
    intro hc;have n8:nth Sm k=s:=by simpa using hc
    obtain⟨a7,j8,e8⟩:=f5 w9 h4 (.inr n8);rw[am zo]at e8;have a3:=b6.U a7 (λh=>h);have b8:=d7.U a7 zo (λh=>h);have h3:=i0.U a7;refine zh ?_;refine zvH (aM a3.row.sl.sh MD rfl) ?_;refine zFH rfl ((by rw[beq_eq_false_iff_ne];omega)) ?_;refine zFH rfl ((decide_eq_false zo)) ?_;apply Mu gE b8 h3 ((k:Nat)) (λ_=>rfl) rfl rfl rfl (by simp[Lm]) zo zo zo zd rfl rfl;intro i5 b3 O10 a8 a2 c9;refine zh ?_;refine zxd (m+1,O10,b3,b4,a',i5) ((by dsimp only;rw[h6,j8,e8];exact⟨g4,((d'.J (f3.mono (λ_ h=>h.elim) e1)).J (a7.mono (λ_ h=>h.elim) e1)).J (a2.mono (λq h=>.inr h) e1),c9,a3.U a2 zo,a8,g5,a9⟩))
   obtain rfl:k=Sm.length:=zo;obtain⟨a7,j8,e8⟩:=f5 w8 (Lk _) (.inl rfl);rw[ap rfl]at e8;have a3:=b6.U a7 (λh=>h);have b8:=d7.U a7 zo (λh=>h);have h3:=i0.U a7;have l7:=i7.ext h5;have f6:=i6.U a7;apply ax (d:=35) rfl (b':=false) ((decide_eq_false zo));refine zh ?_;refine zFH rfl rfl ?_;refine zvH (aM a3.row.sl.sh MD rfl) ?_;apply bp rfl ((by rw[beq_iff_eq];omega));obtain⟨xa,xc,n4,_⟩:=l7.shape;subst n4;refine zh ?_;apply Mu AJ a3.row h3 ((.slice xa s.length xc:ix)) (λ_=>rfl) rfl rfl rfl (by simp[Lm]) zo zo zo zd rfl rfl;intro f4 b3 O10 a8 a2 c9
   have a5:SetO O10 b3 f4 (a'++[.slice xa s.length xc]) (Sm++[s]):=⟨a8,by simp[c'],λj hj=>by
    rw[az,az,c']
    by_cases e:j<Sm.length
    ·rw[ap e,ap e];exact⟨(a3.at_ j e).1.U (a3.at_ j e).2 a2,(a3.at_ j e).2.U a2⟩
    have o7:j=Sm.length:=by simp at hj;omega
    subst o7;rw[am e,am e,MR,ao,ao]
    exact⟨l7.U f6 a2,f6.U a2⟩⟩
   have d4:=b8.U a2 zo zo;have c8:=((d'.J (f3.mono (λ_ h=>h.elim) e1)).J (a7.mono (λ_ h=>h.elim) e1)).J (a2.mono (λq h=>.inl h) e1);refine zh ?_;refine zC ?_ ?_
   ·intro c6;have c6:40<=Sm.length:=dT c6;have g3:TG=none:=by
     rw[<-d9,ap];have h1:(bX (dD R se) (nth S i) S (m+1)).1.length=Sm.length+1:=by rw[h6,e8];simp
     omega
    have c5:=b2.U c8 zd zo;refine zh ?_;apply zv (Ph (cells:=#[nS,nS]) Mh (PC _) rfl rfl);apply zsa (us:=#[nS,nS]) c5 (P5 _);have g9:=c5.setRow (us:=#[nS,nS]);have a6:M1 (λq=>q=7) O10 b3 O10 (b3.setRow cb #[nS,nS]):=Lq zd c5.tag rfl;refine zh ?_;refine aO rfl rfl g9.V (Q6 _) (P5 _) ⟨((h9.J (c8.mono (λq h=>zo) b5)).J (a6.mono (λq h=>zo) b5)).ext,by rw[g3];rfl⟩
   intro c6;have c6:Sm.length<40:=dF c6;refine zh ?_;apply Mu gE d4 c9 ((Sm.length:Nat)) (λ_=>rfl) rfl rfl rfl (by simp[Lm]) zo zo zo zd rfl rfl;intro i4 i3 O11 e2 a6 l2;refine zh ?_;refine zxd (m+1,O11,i3,f4,a'++[.slice xa s.length xc],i4) ((by dsimp only;rw[h6,j8,e8];exact⟨g4,c8.J (a6.mono (λq h=>.inr h) e1),l2,a5.U a6 zo,e2,by simp;omega,λs' n9=>(My.1 n9).elim (a9 s') λe=>by rw[Lu.1 e];exact j5⟩))
  intro o8;obtain rfl:m=37:=dF o8;obtain⟨pq,e3⟩:=(e4 37).pre;rw[am zo]at d9;generalize bX (dD R se) (nth S i) S 37=RT at *;obtain⟨S1,r1⟩:=RT;dsimp only at a1 a4 g5 a9 c' d8 e3 d9;have e':i<S1.length:=by rw[e3];simp;omega
  have h7:nth S1 i=nth S i:=by rw[e3,az,ap e9]
  have g1:=a9 _ (aJ e');have g7:=e6.U d' zd zo;have k5:=b2.U d' zd zo;have d2:=d3.U d' zo (λk hk=>zo);have i':=d1.U d' zd zo;obtain⟨ra,rc,o0,_⟩:=a4.sl.shape;subst o0;have d0:w6.cell? (nA db 0)=some nv:=g7.cell 0 rfl;have n':=d2.len;refine zh ?_;apply Mu AJ d2.row i1 ((.slice ra r1.length rc:ix)) (λ_=>rfl) rfl rfl rfl (by simp[Lm]) zo zo zo zd rfl rfl;intro e0 w7 O7 g2 h8 i0;have j3:Rw9 O7 w7 e0 (l4++[.slice ra r1.length rc]) (rows++[r1]):=Rw9.add g2 d2.len (λk hk=>(d2.at_ k hk).U h8 zo zo) (by rw[j4];exact a4.U h8 zo zo);have e5:=g7.U h8 zd zd;refine zh ?_;apply aj (j:=0) e5 rfl (sizeOf50 _) g2.one rfl rfl rfl;have k':M1 (λj=>j=4) O7 w7 O7 (w7.setCell ⟨db,0,none⟩ e0):=M9 zd e5.tag rfl;have g6:MN O7 (w7.setCell ⟨db,0,none⟩ e0) 4 db #[e0,tv] 52:=e5.set 0 _;generalize w7.setCell ⟨db,0,none⟩ e0=w8 at *;have d5:=(h8.mono (S':=λq=>q=4\/q=5) (λ_ h=>.inr h) zd).J (k'.mono (λ_ h=>.inl h) zd);have j2:=j3.U k' zd (λk hk=>zo);have i9:=i'.U d5 zd zd;have a0:=a1.U d5 zd;have k4:=k5.U d5 zd zd;have p3:=i0.U k';have h0:=e7.J (d5.mono (λq h=>zo) b5);obtain⟨j0,o'⟩:=a0.at_ i e';have m8:w8.drew.cell? (adr b4 1 i)=some (nth a' i):=by have:=a0.row.sl.drew.cell (i:=i) (j:=0) zo rfl;rwa[ar]at this
  have k0:∀W,Mv w8.drew W->W.cell? (adr b4 1 i)=some (nth a' i):=λW e=>e.cell m8
  have k1:∀W,Mv w8.drew W->W.cell? (nA db 1)=some tv:=λW e=>e.cell (g6.drew.cell 1 rfl)
  have m':∀W,Mv w8.drew W->Mv w W:=λW e=>(h0.ext.J (Lk w8).drew).J e
  have l6:∀W,Mv w8.drew W->Nc W (nth a' i) (nth S1 i):=λW e=>j0.drew.ext e
  refine zh ?_;apply aN (λW=>W.cell? (adr b4 1 i)=some (nth a' i)) 12 rfl zk
  refine zin (k0 _ (Lk _)) λzS=>?_
  apply zrf 0 rfl zS rfl;apply zrm 2 rfl zS rfl
  apply zrm 3 rfl zS rfl;apply zrm 4 rfl zS rfl
  apply zr 5 rfl zS (λ_=>ai a0.row.sl.sh MD (Ms _) rfl rfl i rfl zo);apply zt 6 rfl zS (λw1 n5=>RV.ld n5 rfl)
  refine mO (λy:ix×Lj=>[(0,nP ab),(1,nI 40),(4,nP cb),(5,b4),(6,nP db),(7,nI (i:Nat)),(69,tv),(76,y.1)]) (λy=>y.2) (λy=>Sl fq 1 y.2 y.1 [lC R (nth S1 i)]/\Mv w8.drew y.2) #[true,true,true,true,true,true,true,true,true,false,false,false] 3 ?_ ?_
  ·intro hN;have hE:=Lk w8.drew;refine MW 1 7 zk rfl rfl ?_ ?_ 
   ·refine zvH (RV.ld (k1 _ hE) rfl) ?_;apply ae (k0 _ hE)
    apply Ls 7 zk rfl;apply zc call71 (rh _ ab se R (nth S1 i) _ (h.ext (m' _ hE)) (l6 _ hE) g1.1 he ho m3 l')
    rintro _ wa ⟨rfl,eA⟩;have hE:=MI hE eA;refine zh ?_;apply ae (k0 _ hE);apply Ls 8 zk rfl;apply cA iP (enc:=fq) (lC R (nth S1 i)) rfl rfl rfl zd rfl;intro tb wb sB eB;have hE:=MI hE eB;refine zh ?_;apply ae (k0 _ hE);exact LK (hN (tb,_) ⟨by first|exact sB|exact MM sB eA,hE⟩) zk ⟨rfl,rfl,rfl,rfl,rfl,rfl,rfl,rfl,trivial⟩ rfl
   apply zc call71 (rh _ ab se R (nth S1 i) _ (h.ext (m' _ hE)) (l6 _ hE) g1.1 he ho m3 l');rintro _ wa ⟨rfl,eA⟩;have hE:=MI hE eA;refine zh ?_
   apply ae (k0 _ hE);refine MW 1 8 zk rfl rfl ?_ ?_ 
   ·refine zvH (RV.ld (k1 _ hE) rfl) ?_;apply ae (k0 _ hE)
    apply Ls 8 zk rfl;apply cA iP (enc:=fq) (lC R (nth S1 i)) rfl rfl rfl zd rfl
    intro tb wb sB eB;have hE:=MI hE eB;refine zh ?_;apply ae (k0 _ hE);exact LK (hN (tb,_) ⟨by first|exact sB|exact MM sB eA,hE⟩) zk ⟨rfl,rfl,rfl,rfl,rfl,rfl,rfl,rfl,trivial⟩ rfl
   apply cA iP (enc:=fq) (lC R (nth S1 i)) rfl rfl rfl zd rfl;intro tb wb sB eB;have hE:=MI hE eB;refine zh ?_
   apply ae (k0 _ hE);apply Ls 1 zk rfl
   refine zvH (RV.ld (k1 _ hE) rfl) ?_;apply ae (k0 _ hE)
   exact LK (hN (tb,_) ⟨by first|exact sB|exact MM sB eA,hE⟩) zk ⟨rfl,rfl,rfl,rfl,rfl,rfl,rfl,rfl,trivial⟩ rfl
  rintro⟨tb,w9⟩ ⟨sB,h4⟩;dsimp only at sB h4 ⊢;have a7:M1 (λ_=>False) O7 w8 O7 w9:=aa (λh=>h) O7 ((Lk w8).drew.J h4);have i8:=i9.U a7 zd (λh=>h);have k2:=g6.U a7 zd (λh=>h);have h3:=p3.U a7;apply Ls 9 zk rfl;apply aC iP i8 h3 sB (by simp) rfl rfl (by simp) (by simp[Lm]) (by rw[MT];omega) (by rw[MT];omega) zd rfl;intro b1 b3 O10 d6 a2 c9;have a5:=(a0.U a7 (λh=>h)).U a2 zd;have b9:=k2.U a2 zd zd;have l5:b3.cell? (adr b4 1 i)=some (nth a' i):=by have:=a5.row.sl.cell (i:=i) (j:=0) zo rfl;rwa[ar]at this
  refine zh ?_;apply ae l5
  apply zrf 10 rfl l5 rfl;apply Ls 11 zk rfl
  apply aj (j:=1) b9 rfl (sizeOf31 _) d6.one rfl rfl rfl;have a6:M1 (λj=>j=4) O10 b3 O10 (b3.setCell ⟨db,1,none⟩ b1):=M9 zd b9.tag rfl;have g8:MN O10 (b3.setCell ⟨db,1,none⟩ b1) 4 db #[e0,b1] 52:=b9.set 1 _;have b7:=a5.U a6 zd;have n3:(b3.setCell ⟨db,1,none⟩ b1).cell? (adr b4 1 i)=some (nth a' i):=by have:=b7.row.sl.cell (i:=i) (j:=0) zo rfl;rwa[ar]at this
  refine zh ?_;apply ae n3
  generalize b3.setCell ⟨db,1,none⟩ b1=i3 at *;have c7:=((a7.mono (S':=λq=>q=4\/q=6) (λ_ h=>h.elim) zd).J (a2.mono (λ_ h=>.inr h) zd)).J (a6.mono (λ_ h=>.inl h) zd);rw[<-h7]at d9;apply MZ zk;refine zh ?_;refine zxd (i+1,O10,i3,b4,a',S1,e0,l4++[.slice ra r1.length rc],rows++[r1],b1,l3++[lC R (nth S1 i)]) ⟨h0.J (c7.mono (λq h=>zo) b5),c9.U a6,b7,g8,k4.U c7 zd zd,j2.U c7 zd (λk hk=>zo),d6.U a6 zd zd,e',g5,by simp[j4],by simp[f8],a9,by dsimp only;rw[show 1002-(i+1)=n from by omega];exact d9⟩
 intro o9;have p':i=S.length:=dF o9;have j':TG=some (rows,l3):=by
  rw[<-d9];obtain⟨n,hn⟩:∃n,1002-i=n+1:=⟨1001-i,zo⟩
  rw[hn,BM,am zo]
 rw[j'];have o1:=d3.row.one;have o2:=d1.one;refine zh ?_;apply zv (ah (us:=[nv,tv]) e6.V (Q6 _) (P5 _) rfl);apply zsb (us:=#[nv,tv]) b2 (P5 _) (by simp only[Li,o1,o2];rfl);have p0:=b2.setRow (us:=#[nv,tv]);have g':M1 (λj=>j=7) O5 w5 O5 (w5.setRow cb #[nv,tv]):=Lq zd b2.tag rfl;have j1:=d3.U g' zd (λk hk=>zo);have f7:=d1.U g' zd zd;refine zh ?_;refine aO rfl rfl p0.V (Q6 _) (P5 _) ⟨(h9.J (g'.mono (λq h=>zo) b5)).ext,nv,tv,rfl,j1.rows (i2.U g'),f7.sl,f7.newV zd (i2.U g')⟩
end Go.Proofs.YtcfhbfflgnbacaaGreatDoor
