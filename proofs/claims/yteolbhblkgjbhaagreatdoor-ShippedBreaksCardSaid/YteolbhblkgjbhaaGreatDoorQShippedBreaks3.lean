/- Texts that the proof of this statement needs, merged and shortened. -/
import Derived.Test.YteolbhblkgjbhaaGreatDoorQShippedBreaks2
set_option linter.defProp false
open Go renaming Value->ix,World->ln,TypeId->N8,Program->Nw,FuncId->NH,Oper->Pb,Operand->Pk,Exit->PK,Edge->Qd,Act->Qf
open Go.Proofs.Tryz renaming underlying22->L0,sizeOf3->LX,sizeOf170->Md,underlying273->Mh,prog->Mk,zeroValue3->Mo,underlying130->Mp,underlying291->Mv,isAgg170->MA,zeroValue170->ME,zeroValue328->MO,sizeOf328->MP,underlying328->MX,sizeOf26->MY,zeroValue225->N2,underlying285->Na,zeroValue26->Nb,zeroValue22->Nc,sizeOf22->Nm,underlying324->Nq,underlying3->NP,isAgg26->NT,sizeOf27->NX,isAgg328->NY,underlying342->P9,sizeOf225->Pc,sizeOf130->Pd,call139->Pi,underlying5->Pr,call184->PB,underlying293->PW,underlying218->PX,underlying27->Q3,isAgg27->Q4,call189->Q5,call134->Q6
open List renaming replicate->L1,mem_singleton->L2,length_singleton->L7,all_cons->L9,range->LY,mem_cons->M0,take_length->M6,mem_range->M7,foldl_cons->M8,mem_append->Ma,map_cons->Mb,length_set->Mf,mem_cons_of_mem->Mi,findIdx?_eq_some_iff_getElem->Mj,foldl_append->Ml,all_nil->Mm,length_append->Mn,map_append->Mq,append_nil->Mr,flatMap_cons->Mx,mem_filter->MC,mem_append_right->MD,mem_append_left->MG,length_cons->MH,all_eq_true->MI,findIdx?_eq_none_iff->MK,filter_sublist->MN,range_succ->MQ,mem_cons_self->MS,findIdx?_cons->MT,filter_append->MU,mem_map->N0,eq_nil_of_length_eq_zero->N5,nil_append->N7,flatMap_append->N9,pairwise_iff_getElem->Nh,getElem?_eq_some_iff->Ni,find?_range_eq_some->Nk,eq_of_mem_replicate->Nl,nodup_range->No,nodup_cons->Nr,length_filter_le->Nu,findIdx?->Nx,nodup_append->Nz,append_assoc->NA,filter_cons->NF,cons_append->NG,nodup_nil->NL,take_of_length_le->NU,map_nil->NV,findIdx?_append->P8,countP_append->Ph,take_sublist->Pm,filter_congr->Pn,any_eq_false->Po,getElem_map->Pp,flatMap_nil->Pq,length_nil->Pv,length_map->Pw,take_zero->Px,foldl_nil->Py,map_map->PE,length->PH
open Nat renaming zero_le->L3,not_lt_zero->L4,le_refl->L8,lt_succ_iff_lt_or_eq->Me,eq_of_beq_eq_true->Mw,sub_self->Nf,beq->Nj,blt->ND,le_trans->P2,beq_refl->P3
open Go.Value renaming oneCell'->L5,bool->Mg,string->NR,ownBlock->Ps,int->PN,agg->PO
open Go.VL.Ret renaming enter->L6
open Go.VL.WH renaming one->LZ,done->MF
open Go.VL.Upd renaming setRow->M1,set->MB,refl->N6,J->Ng,alloc->Pu
open Go.VL.Ext renaming refl->M4,alloc->NJ
open Go.VL renaming Upd->M5,RowT->My,MapO->MW,BlkO->MZ,Ext->N1,Rng->Nn,Ret->Np,Free->NI,Ints->NS,NewV->P1,lowT->PJ,Elem->PL,RangeO->Qb
open Go.VL.RowT renaming nil->M9,sl->Q7
open Classical renaming byContradiction->Mc
open Go.Region renaming ready->Ms
open Go.VL.WL renaming mapUpdate->Mt,nil->Mz,push->MV,storeAt->N4
open Go.VL.RV renaming lookup->Mu,indexAddr->MM,len->Ns,load->P6,add->P7,entry->Qa,move->Qc
open Bool renaming and_eq_true->MJ,not_eq_true'->NB,false_and->Pz,true_and->PA,not_or->PM
open UInt8 renaming ofNat->MR
open Go.VL.BlkO renaming U->Nv,cell->PV
open Prod.mk renaming inj->Ny
open Go.VL.Rng renaming U->NC
open Go.VL.Sl renaming ext->NK,one->P5,U->PY
open Go.VL.Free renaming U->NM
open Go.VL.Fit renaming i64->NN
open Go.RowKit.Below renaming refl->NO,trans->PP
open Go.World renaming block_lt_of_cell?->NQ,cell?_alloc_at->NZ,ownsRow_lit->Pe,cell?->PC
open Decidable renaming not_not->NW
open Go.VL.WC renaming tail->P4,still->Q9
open Go.Result renaming andThen_ok->Pa
open Option renaming getD_some->Pf,bind_some->Pg,map_some->Pj
open Go.VL.WS renaming go->PD
open Go.Sem renaming run_bind->PF
open List.Pairwise renaming imp_of_mem->PI
open List.Sublist renaming append_left->PQ
open Int renaming le_refl->PS
open Option.some renaming injEq->PT,inj->PU
open Go.VL.MapO renaming U->PZ
open List.Nodup renaming sublist->Q0
open Go.VL.KeyL renaming int->Q2
open List.cons renaming injEq->Q8
open Go.Builtin renaming len_->Qe
set_option maxRecDepth 10000
open Go.VL Go.Proofs Go.Proofs.Tryz
variable {α κ ν:Type}{td:List ((Int×Int)×Bool)}{D:List (Int×Int)}{S:List (List UInt8)}{F L a0 bl g l row:List Nat}{s:List UInt8}{E T:N8}{B N a1 b c i j k m0 many n r sb sr sz t to tr:Nat}{st:Nat->List Nat}{O O' cl tl:Nat->Nat}{P0:Nat->Prop}{P:Nw}{Q:PK->Qf->ln->Prop}{y:Pk}{v:ix}{w w':ln}{enc:α->List ix}
variable {a4 xs:List Nat}{a a2 m x:Nat}
namespace Go.Proofs.YteolbhblkgjbhaaGreatDoor
abbrev jx(n:Nat):List ix:=[.int .u64 (n:Int)]
def RowsN(w:ln)(v:ix)(rows:List (List Nat)):Prop:=∃vs,Sl yo 1 w v vs/\vs.length=rows.length/\∀i,i<rows.length->Sl bp 1 w (nth vs i) (nth rows i)
def RowsN.ext{w w':ln}{v:ix}{rows:List (List Nat)}(h:RowsN w v rows)(e:N1 w w'):RowsN w' v rows:=by
 obtain⟨vs,h1,h2,h3⟩:=h;exact⟨vs,h1.ext e,h2,λi hi=>(h3 i hi).ext e⟩
structure RwO(O:Nat->Nat)(w:ln)(i:Nat)(v:ix)(vs:List ix)(rows:List (List Nat)):Prop where
 row:My yo 22 1 O w i v vs
 len:vs.length=rows.length
 at_:∀k,k<rows.length->Sl bp 1 w (nth vs k) (nth rows k)/\NI O w (nth vs k)
def RwO.U{S:Nat->Prop}{O O':Nat->Nat}{w w':ln}{i:Nat}{v:ix}{vs:List ix}{rows:List (List Nat)}(h:RwO O w i v vs rows)(u:M5 S O w O' w')(hi:i≠0)(hS:¬S i):RwO O' w' i v vs rows:=
 ⟨h.row.U u hi hS,h.len,λk hk=>⟨(h.at_ k hk).1.U (h.at_ k hk).2 u,(h.at_ k hk).2.U u⟩⟩
def RwO.drew{O:Nat->Nat}{w:ln}{i:Nat}{v:ix}{vs:List ix}{rows:List (List Nat)}(h:RwO O w i v vs rows):RwO O w.drew i v vs rows:=⟨h.row.drew,h.len,λk hk=>⟨(h.at_ k hk).1.drew,(h.at_ k hk).2.U (ae (S:=λ_=>False) (λh=>h) O (M4 w).drew)⟩⟩
def RwO.rows{O:Nat->Nat}{w:ln}{i:Nat}{v:ix}{vs:List ix}{rows:List (List Nat)}(h:RwO O w i v vs rows):RowsN w v rows:=⟨vs,h.row.sl,h.len,λk hk=>(h.at_ k hk).1⟩
def Lo(w:ln)(v:ix):Option (List (List Nat)×List Nat)->Prop
 |some d=>∃nv tv,v=.tuple #[.agg #[nv,tv],nI 0]/\nv.oneCell'=true/\tv.oneCell'=true/\RowsN w nv d.1/\Sl jx 1 w tv d.2
 |none=>v=.tuple #[.agg #[nS,nS],nI 7]
set_option maxHeartbeats 1000000 in
def Du(nb:Nat)(se:Bool)(g:Gr)(w:ln)(hD:NfD w nb se g)(hw:WF g)(h0:0<g.ks.length)(ht:Tot g)(m0:g.ls.length<=999)(j0:∀q,g.en q<=40):
  Np Mk 129 [nP nb] w λv w'=>N1 w w'/\Lo w' v (Gt (dj se g) (dN g)):=by
 have e4:=λs=>by
  have m8:∀(s:List Int) (b:Nat),b<2^40->s.foldl (λb p=>b ||| jX g p.toNat) b<2^40:=λs=>by
   induction s with
   |nil=>exact λb hb=>hb
   |cons p s ih=>exact λb hb=>ih _ (Nat.or_lt_two_pow hb (kL j0 _ 0 zd))
  exact m8 s 0 zd
 apply L6 func129 ntmps129 rfl rfl;refine zh ?_
 apply aw (aA w) 7 zo (ME _) rfl;intro cb wa Oa k8 n6 o0 o9;refine zh ?_
 refine zvH (eE (q:=some ⟨nb,0,none⟩) underlying213 rfl rfl) ?_;refine zFH rfl rfl ?_
 apply bD NR kvI o0 2 zd rfl;intro kr wb Ob n1 m2 n';apply zv (aI KO (zeroValue287 _) rfl (by first|rfl|(simp only[L9,Mm];rfl)) rfl rfl)
 apply aQ n' 1 zo rfl rfl;intro mb wc Oc n0 l3 m3 o8;have k2:MkO Oc wc 1 mb nb kr nS [] [] []:=⟨n0,n1.U l3 zd zd,M9 _ _ _ _ _ _,rfl,λk hk=>absurd hk (L4 k),λs hs=>absurd hs (by simp),λs _=>rfl⟩
 refine zh ?_;apply zc call182 (DE wc nb);rintro bv wd ⟨n4,o3,n5⟩;have j7:M5 (λ_=>False) Oc wc Oc wd:=ae (λh=>h) Oc o3;have i':inP g [0]:=λx hx=>by rw[L2.1 hx];exact⟨PS _,L3 _⟩
 apply zc call181 (mZ w.heap.size Oc wd 1 mb nb kr _ _ _ _ [0] bv zd (m3.U j7) (k2.U j7 zd (λh=>h) (λh=>h) λh=>h) n4 (n5 w.heap.size Oc m3) (G0 m0 i') zd zd);rintro _ we ⟨Oe,m7,m5,le,rfl,m1,n9,i9⟩;have n7:sG [] [0]=[[0]]:=rfl;rw[n7]at i9;have l1:M5 (λj=>1<=j) Oc wd Oe we:=m1.mono (λj h=>zo) zd;refine zh ?_
 apply aw n9 4 zo (ME _) rfl;intro db wf Of k4 l0 n8 o7
 have k6:=(((((k8.U m2 zd zd).U l3 zd zd).U j7 zd λh=>h)).U m1 zd zd).U l0 zd zd;have l4:=(((((n6.mono (S':=λj=>1<=j) (λj h=>zo) zd).J (m2.mono (λj h=>zo) zd)).J (l3.mono (λj h=>zo) zd)).J (j7.mono (λ_ h=>h.elim) zd)).J l1).J (l0.mono (λj h=>zo) zd);refine zh ?_;apply zlp (λz:Nat×(Nat->Nat)×World×ix×List ix×List (List Int)×List (ByteArray×Int)×List (List Nat)×List Nat×List ix×ix×ix=>[(0,nP nb),(2,nP cb),(3,nI 0),(4,nP mb),(5,nP db),(6,nI z.1)]) (λz=>z.2.2.1) (λz=>M5 (λj=>1<=j) (λ_=>0) w z.2.1 z.2.2.1/\Nn w.heap.size z.2.1 z.2.2.1/\MkO z.2.1 z.2.2.1 1 mb nb kr z.2.2.2.1 z.2.2.2.2.1 z.2.2.2.2.2.1 z.2.2.2.2.2.2.1/\MZ z.2.1 z.2.2.1 4 db #[z.2.2.2.2.2.2.2.2.2.2.1,z.2.2.2.2.2.2.2.2.2.2.2] 170/\RwO z.2.1 z.2.2.1 5 z.2.2.2.2.2.2.2.2.2.2.1 z.2.2.2.2.2.2.2.2.2.1 z.2.2.2.2.2.2.2.1/\My jx 24 1 z.2.1 z.2.2.1 6 z.2.2.2.2.2.2.2.2.2.2.2 z.2.2.2.2.2.2.2.2.1/\MZ z.2.1 z.2.2.1 7 cb #[nS,nS] 170/\DI (dj se g) (dN g) z.1 z.2.2.2.2.2.1 z.2.2.2.2.2.2.2.1 z.2.2.2.2.2.2.2.2.1/\(∀s∈z.2.2.2.2.2.1,inP g s/\s.length<=1000)/\I9 (dj se g) (dN g) (1002-z.1) z.1 z.2.2.2.2.2.1 z.2.2.2.2.2.2.2.1 z.2.2.2.2.2.2.2.2.1=Gt (dj se g) (dN g)) (λz=>1002-z.1) (0,Of,wf,m7,m5,[[0]],le,[],[],[],nS,nS) ⟨l4,n8,i9.U l0 zd zd zd zd,k4,⟨M9 _ _ _ _ _ _,rfl,λk hk=>absurd hk (L4 k)⟩,M9 _ _ _ _ _ _,k6,Al _ _,λs hs=>by rw[L2.1 hs];exact⟨i',zd⟩,rfl⟩;rintro⟨q,O1,w1,mv,vs,S,l,rows,i7,i4,nv,tv⟩ ⟨b2,m4,e9,f4,d',e3,e0,i6,f7,c6⟩;dsimp only at b2 m4 e9 f4 d' e3 e0 i6 f7 c6 ⊢;have o6:=i6.le
 have o5:=i6.rl;have o4:=i6.tl;have j3:=i6.len;have m':=d'.len;have c2:w1.cell? (nA mb 2)=some mv:=e9.blk.cell 2 rfl;have i5:=e9.len;refine zh ?_;refine zvH (bH e9.row.sl.sh Mp rfl) ?_;refine zC ?_ ?_
 ·intro g0;replace g0:q<S.length:=dT g0;obtain⟨n,hn⟩:∃n,1002-q=n+1:=⟨1001-q,zo⟩
  rw[hn,I9,ap g0]at c6;have e':=la (dj se g) (nth S q) S 37;have j2:=i6.next g0;have j6:=(f7 _ (aZ g0)).1;have n3:w1.drew.cell? (nA db 0)=some nv:=f4.cell 0 rfl;have hmk1d:=e9.U (ae (S:=λ_=>False) (λh=>h) O1 (M4 w1).drew) zd (λh=>h) (λh=>h) λh=>h
  have h1:=Dt w.heap.size O1 w1.drew w 1 mb nb kr se g mv vs S l q zd m4.drew hmk1d hD b2.drew hw h0 ht m0 (λs hs=>(f7 s hs).1) (λs hs=>(f7 s hs).2) g0 j3;generalize dX (dj se g) (nth S q) S 37=RT at *;obtain⟨S1,r1⟩:=RT;dsimp only at c6 e' j2 h1;refine zh ?_;apply aO (λ_=>True) 9 rfl zk;refine zin trivial λzS=>?_
  apply zrf 0 rfl zS rfl;apply zrm 2 rfl zS rfl
  apply zrm 3 rfl zS rfl;refine bK 1 4 zk rfl rfl ?_ ?_
  ·refine zvH (RV.ld n3 rfl) ?_;apply af trivial
   apply LZ 4 zk rfl;apply zc call183 h1
   rintro rv w2 ⟨O2,a7,b',l2,k',l8,h6,e6,e8,f3⟩;have g9:=e6.shape;obtain⟨ra,rc,rfl,_⟩:=g9;have b6:M5 (λj=>1<=j/\j<=3) O1 w1.drew O2 w2:=k';have g8:=d'.drew.U b6 zd zd;have f8:=f4.drew.U b6 zd zd;have h9:=e0.drew.U b6 zd zd;have g6:=e3.drew.U b6 zd zd;have h':M5 (λj=>1<=j/\j<=3) O1 w1 O2 w2:=(ae zd O1 (M4 w1).drew).J b6;refine zh ?_;apply af trivial;apply LZ 5 zk rfl;apply cK G2 (enc:=yo) (.slice ra r1.length rc:ix) rfl rfl rfl zd rfl;intro m6 w3 g7 l9;have c7:M5 (λ_=>False) O2 w2 O2 w3:=ae (λh=>h) O2 l9;have i0:M5 (λq=>1<=q) O1 w1 O2 w3:=(h'.mono (λj h=>zo) zd).J (c7.mono (λ_ h=>h.elim) zd);have l7:=l8.U c7;have d2:=g8.U c7 zd λh=>h
   have h7:=f8.U c7 zd λh=>h
   have h8:=h9.U c7 zd λh=>h
   have g5:=g6.U c7 zd λh=>h
   have h5:=h6.U c7 zd (λh=>h) (λh=>h) λh=>h
   have g':=e6.U e8 c7;have d3:=e8.U c7;refine zh ?_;apply af trivial;apply LZ 6 zk rfl;apply aF G2 d2.row l7 g7 (by simp) rfl rfl (by simp) (λu hu c hc=>by rw[L2.1 hu]at hc;rw[L2.1 hc];rfl) (by simp;omega) (by simp;omega) zd rfl;intro b3 w4 O4 c8 b8 l6;have d8:=h7.U b8 zd zd;refine zh ?_;apply af trivial;apply zrf 7 rfl trivial rfl;apply LZ 8 zk rfl;apply ao (j:=0) d8 rfl (Pd _) c8.one rfl rfl rfl;have c5:M5 (λj=>j=4) O4 w4 O4 (w4.setCell ⟨db,0,none⟩ b3):=MB zd d8.tag rfl;have d7:MZ O4 (w4.setCell ⟨db,0,none⟩ b3) 4 db #[b3,tv] 170:=d8.set 0 b3;refine zh ?_;apply af trivial;have j1:=l6.U c5;have e7:=c8.U c5 zd zd;have a8:=(h5.U b8 zd zd zd zd).U c5 zd zd zd zd;have e2:=(g5.U b8 zd zd).U c5 zd zd;have f5:=(h8.U b8 zd zd).U c5 zd zd;have e5:RwO O4 (w4.setCell ⟨db,0,none⟩ b3) 5 b3 (i4++[.slice ra r1.length rc]) (rows++[r1]):=by
    have i5:=d2.len;refine⟨e7,by simp[i5],λk hk=>?_⟩;rw[aC,aC,i5]
    by_cases e:k<rows.length
    ·rw[ap e,ap e];obtain⟨a1,a2⟩:=d2.at_ k e;exact⟨(a1.U a2 b8).U (a2.U b8) c5,(a2.U b8).U c5⟩
    rw[am e,am e];simp only[Mn,MH,Pv]at hk;rw[show k-rows.length=0 from by omega,ar,ar];exact⟨(g'.U d3 b8).U (d3.U b8) c5,(d3.U b8).U c5⟩
   have d9:M5 (λq=>1<=q) O1 w1 O4 (w4.setCell ⟨db,0,none⟩ b3):=(i0.J (b8.mono (λj h=>zo) zd)).J (c5.mono (λj h=>zo) zd);generalize w4.setCell ⟨db,0,none⟩ b3=w5 at *;apply MF zk;refine zh ?_;have g4:=a8.len;have i8:q<b'.length:=by obtain⟨pq,h3⟩:=e'.pre;rw[g4,h3];simp;omega
   have h2:q<S1.length:=zo;have h4:nth S1 q=nth S q:=by obtain⟨pq,h3⟩:=e'.pre;rw[h3,aC,ap g0]
   have b0:w5.drew.cell? (nA mb 2)=some a7/\w5.drew.cell? (adr a7 1 q)=some (nth b' q):=⟨a8.blk.cell 2 rfl,by have:=a8.row.sl.cell (i:=q) (j:=0) i8 rfl;rwa[ax]at this⟩
   have sd:∀W,N1 w5.drew W->W.cell? (nA mb 2)=some a7/\W.cell? (adr a7 1 q)=some (nth b' q):=λW hE=>⟨hE.cell b0.1,hE.cell b0.2⟩
   have j5:w5.drew.cell? (nA db 1)=some tv:=d7.cell 1 rfl;have j4:=hD.ext (b2.J d9).drew.ext;obtain⟨d0,k0⟩:=a8.at_ q h2;rw[h4]at d0;have m9:=e4 (nth S q);apply aO (λW=>W.cell? (nA mb 2)=some a7/\W.cell? (adr a7 1 q)=some (nth b' q)) 15 rfl zk;apply zrf 0 rfl b0 rfl;apply zrm 2 rfl b0 rfl;apply zrm 3 rfl b0 rfl;apply zr 4 rfl b0 (λ_=>aq rfl);apply zrf 5 rfl b0 rfl;apply zt 6 rfl b0 (λw1 g1=>RV.ld g1.1 rfl);apply zrm 7 rfl b0 rfl;apply zr 8 rfl b0 (λ_=>aj a8.row.sl.sh Mp (Nm _) rfl rfl q rfl i8);apply zt 9 rfl b0 (λw1 g1=>RV.ld g1.2 rfl);refine bK 1 10 zk rfl rfl ?_ ?_
   ·refine zvH (RV.ld j5 rfl) ?_;apply af b0
    apply LZ 10 zk rfl;apply zc PB (kK w5.drew nb se g (nth S q) _ j4 d0.drew j6 j0)
    rintro j8 w9 ⟨rfl,e1⟩;rw[e1];clear e1 w9;refine zh ?_;apply af b0;apply LZ 11 zk rfl;apply cK nD (enc:=jx) (dN g (nth S q)) rfl rfl rfl zd rfl;intro j9 w6 c' f';refine zh ?_;apply af (sd _ f');have a':M5 (λ_=>False) O4 w5 O4 w6:=ae (λh=>h) O4 ((M4 w5).drew.J f');have c9:=e2.U a' zd λh=>h
    have d6:=d7.U a' zd λh=>h
    have d4:=a8.U a' zd (λh=>h) (λh=>h) λh=>h
    have i3:=j1.U a';apply LZ 12 zk rfl;apply aF nD c9 i3 c' (by simp) rfl rfl (by simp) (by simp[L5]) (by simp;omega) (by simp;omega) zd rfl;intro a3 w7 O7 a6 b7 i2;have a9:=d6.U b7 zd zd;have a4:=d4.U b7 zd zd zd zd;have g3:=a4.len;have s7:w7.cell? (nA mb 2)=some a7/\w7.cell? (adr a7 1 q)=some (nth b' q):=⟨a4.blk.cell 2 rfl,by have:=a4.row.sl.cell (i:=q) (j:=0) zo rfl;rwa[ax]at this⟩
    refine zh ?_;apply af s7
    apply zrf 13 rfl s7 rfl;apply LZ 14 zk rfl
    apply ao (j:=1) a9 rfl (NX _) a6.one rfl rfl rfl;have b1:M5 (λj=>j=4) O7 w7 O7 (w7.setCell ⟨db,1,none⟩ a3):=MB zd a9.tag rfl;have d5:MZ O7 (w7.setCell ⟨db,1,none⟩ a3) 4 db #[b3,a3] 170:=a9.set 1 a3;have a0:=a4.U b1 zd zd zd zd;have g2:=a0.len;have s8:(w7.setCell ⟨db,1,none⟩ a3).cell? (nA mb 2)=some a7/\(w7.setCell ⟨db,1,none⟩ a3).cell? (adr a7 1 q)=some (nth b' q):=⟨a0.blk.cell 2 rfl,by have:=a0.row.sl.cell (i:=q) (j:=0) zo rfl;rwa[ax]at this⟩
    refine zh ?_;apply af s8
    have b4:=a6.U b1 zd zd;have i1:=i2.U b1;have d1:=((e5.U a' zd λh=>h).U b7 zd zd).U b1 zd zd;have a5:=((f5.U a' zd λh=>h).U b7 zd zd).U b1 zd zd;have b9:M5 (λq=>1<=q) O1 w1 O7 (w7.setCell ⟨db,1,none⟩ a3):=((d9.J (a'.mono (λ_ h=>h.elim) zd)).J (b7.mono (λj h=>zo) zd)).J (b1.mono (λj h=>zo) zd);generalize w7.setCell ⟨db,1,none⟩ a3=w8 at *;have l':=s8.1;apply MF zk;refine zh ?_;refine zvH (bH a0.row.sl.sh Mp rfl) ?_
    by_cases b5:1000<S1.length
    ·rw[ap b5]at c6;rw[<-c6];refine zTH rfl ((decide_eq_true zo)) ?_;apply zv (aI AH (ME _) rfl (by first|rfl|(simp only[L9,Mm];rfl)) rfl rfl);apply zsa (us:=#[nS,nS]) a5 (Md _);have f9:=a5.setRow (us:=#[nS,nS]);have f6:M5 (λj=>j=7) O7 w8 O7 (w8.setRow cb #[nS,nS]):=M1 zd a5.tag rfl;refine zh ?_;refine bE rfl rfl rfl f9.V (MA _) (Md _) ⟨((b2.J b9).J (f6.mono (λj h=>zo) zd)).ext,rfl⟩
    rw[am b5]at c6;refine zFH rfl ((decide_eq_false zo)) ?_;refine zxd (q+1,O7,w8,a7,b',S1,l2,rows++[r1],i7++[dN g (nth S q)],i4++[.slice ra r1.length rc],b3,a3) ⟨b2.J b9,i1,a0,d5,d1,b4,a5,j2 zo,f3,by dsimp only;rw[show 1002-(q+1)=n from by omega];exact c6⟩
   apply zc PB (kK w5.drew nb se g (nth S q) _ j4 d0.drew j6 j0);rintro j8 w9 ⟨rfl,e1⟩;rw[e1];clear e1 w9;refine zh ?_
   apply af b0;apply cG 1 11 nD (enc:=jx) (dN g (nth S q)) rfl rfl zk zk zk zk (λW hE=>P6 (hE.cell j5) (Q4 _) rfl) sd rfl rfl rfl zd rfl rfl rfl rfl rfl
   intro j9 w6 c' f';have a':M5 (λ_=>False) O4 w5 O4 w6:=ae (λh=>h) O4 ((M4 w5).drew.J f');have c9:=e2.U a' zd λh=>h
   have d6:=d7.U a' zd λh=>h
   have d4:=a8.U a' zd (λh=>h) (λh=>h) λh=>h
   have i3:=j1.U a';apply LZ 12 zk rfl;apply aF nD c9 i3 c' (by simp) rfl rfl (by simp) (by simp[L5]) (by simp;omega) (by simp;omega) zd rfl;intro a3 w7 O7 a6 b7 i2;have a9:=d6.U b7 zd zd;have a4:=d4.U b7 zd zd zd zd;have g3:=a4.len;have s7:w7.cell? (nA mb 2)=some a7/\w7.cell? (adr a7 1 q)=some (nth b' q):=⟨a4.blk.cell 2 rfl,by have:=a4.row.sl.cell (i:=q) (j:=0) zo rfl;rwa[ax]at this⟩
   refine zh ?_;apply af s7
   apply zrf 13 rfl s7 rfl;apply LZ 14 zk rfl
   apply ao (j:=1) a9 rfl (NX _) a6.one rfl rfl rfl;have b1:M5 (λj=>j=4) O7 w7 O7 (w7.setCell ⟨db,1,none⟩ a3):=MB zd a9.tag rfl;have d5:MZ O7 (w7.setCell ⟨db,1,none⟩ a3) 4 db #[b3,a3] 170:=a9.set 1 a3;have a0:=a4.U b1 zd zd zd zd;have g2:=a0.len;have s8:(w7.setCell ⟨db,1,none⟩ a3).cell? (nA mb 2)=some a7/\(w7.setCell ⟨db,1,none⟩ a3).cell? (adr a7 1 q)=some (nth b' q):=⟨a0.blk.cell 2 rfl,by have:=a0.row.sl.cell (i:=q) (j:=0) zo rfl;rwa[ax]at this⟩
   refine zh ?_;apply af s8
   have b4:=a6.U b1 zd zd;have i1:=i2.U b1;have d1:=((e5.U a' zd λh=>h).U b7 zd zd).U b1 zd zd;have a5:=((f5.U a' zd λh=>h).U b7 zd zd).U b1 zd zd;have b9:M5 (λq=>1<=q) O1 w1 O7 (w7.setCell ⟨db,1,none⟩ a3):=((d9.J (a'.mono (λ_ h=>h.elim) zd)).J (b7.mono (λj h=>zo) zd)).J (b1.mono (λj h=>zo) zd);generalize w7.setCell ⟨db,1,none⟩ a3=w8 at *;have l':=s8.1;apply MF zk;refine zh ?_;refine zvH (bH a0.row.sl.sh Mp rfl) ?_
   by_cases b5:1000<S1.length
   ·rw[ap b5]at c6;rw[<-c6];refine zTH rfl ((decide_eq_true zo)) ?_;apply zv (aI AH (ME _) rfl (by first|rfl|(simp only[L9,Mm];rfl)) rfl rfl);apply zsa (us:=#[nS,nS]) a5 (Md _);have f9:=a5.setRow (us:=#[nS,nS]);have f6:M5 (λj=>j=7) O7 w8 O7 (w8.setRow cb #[nS,nS]):=M1 zd a5.tag rfl;refine zh ?_;refine bE rfl rfl rfl f9.V (MA _) (Md _) ⟨((b2.J b9).J (f6.mono (λj h=>zo) zd)).ext,rfl⟩
   rw[am b5]at c6;refine zFH rfl ((decide_eq_false zo)) ?_;refine zxd (q+1,O7,w8,a7,b',S1,l2,rows++[r1],i7++[dN g (nth S q)],i4++[.slice ra r1.length rc],b3,a3) ⟨b2.J b9,i1,a0,d5,d1,b4,a5,j2 zo,f3,by dsimp only;rw[show 1002-(q+1)=n from by omega];exact c6⟩
  apply zc call183 h1;rintro rv w2 ⟨O2,a7,b',l2,k',l8,h6,e6,e8,f3⟩;have g9:=e6.shape;obtain⟨ra,rc,rfl,_⟩:=g9;have b6:M5 (λj=>1<=j/\j<=3) O1 w1.drew O2 w2:=k';have g8:=d'.drew.U b6 zd zd;have f8:=f4.drew.U b6 zd zd;have h9:=e0.drew.U b6 zd zd;have g6:=e3.drew.U b6 zd zd;have h':M5 (λj=>1<=j/\j<=3) O1 w1 O2 w2:=(ae zd O1 (M4 w1).drew).J b6;refine zh ?_
  apply af trivial;have k5:w2.cell? (nA db 0)=some nv:=f8.cell 0 rfl;apply cG 1 5 G2 (enc:=yo) (.slice ra r1.length rc:ix) rfl rfl zk zk zk zk (λW hE=>P6 (hE.cell k5) (isAgg130 _) rfl) (λ_ _=>trivial) rfl rfl rfl zd rfl rfl rfl rfl rfl
  intro m6 w3 g7 l9;have c7:M5 (λ_=>False) O2 w2 O2 w3:=ae (λh=>h) O2 l9;have i0:M5 (λq=>1<=q) O1 w1 O2 w3:=(h'.mono (λj h=>zo) zd).J (c7.mono (λ_ h=>h.elim) zd);have l7:=l8.U c7;have d2:=g8.U c7 zd λh=>h
  have h7:=f8.U c7 zd λh=>h
  have h8:=h9.U c7 zd λh=>h
  have g5:=g6.U c7 zd λh=>h
  have h5:=h6.U c7 zd (λh=>h) (λh=>h) λh=>h
  have g':=e6.U e8 c7;have d3:=e8.U c7;apply LZ 6 zk rfl;apply aF G2 d2.row l7 g7 (by simp) rfl rfl (by simp) (λu hu c hc=>by rw[L2.1 hu]at hc;rw[L2.1 hc];rfl) (by simp;omega) (by simp;omega) zd rfl;intro b3 w4 O4 c8 b8 l6;have d8:=h7.U b8 zd zd;refine zh ?_;apply af trivial;apply zrf 7 rfl trivial rfl;apply LZ 8 zk rfl;apply ao (j:=0) d8 rfl (Pd _) c8.one rfl rfl rfl;have c5:M5 (λj=>j=4) O4 w4 O4 (w4.setCell ⟨db,0,none⟩ b3):=MB zd d8.tag rfl;have d7:MZ O4 (w4.setCell ⟨db,0,none⟩ b3) 4 db #[b3,tv] 170:=d8.set 0 b3;refine zh ?_;apply af trivial;have j1:=l6.U c5;have e7:=c8.U c5 zd zd;have a8:=(h5.U b8 zd zd zd zd).U c5 zd zd zd zd;have e2:=(g5.U b8 zd zd).U c5 zd zd;have f5:=(h8.U b8 zd zd).U c5 zd zd;have e5:RwO O4 (w4.setCell ⟨db,0,none⟩ b3) 5 b3 (i4++[.slice ra r1.length rc]) (rows++[r1]):=by
   have i5:=d2.len;refine⟨e7,by simp[i5],λk hk=>?_⟩;rw[aC,aC,i5]
   by_cases e:k<rows.length
   ·rw[ap e,ap e];obtain⟨a1,a2⟩:=d2.at_ k e;exact⟨(a1.U a2 b8).U (a2.U b8) c5,(a2.U b8).U c5⟩
   rw[am e,am e];simp only[Mn,MH,Pv]at hk;rw[show k-rows.length=0 from by omega,ar,ar];exact⟨(g'.U d3 b8).U (d3.U b8) c5,(d3.U b8).U c5⟩
  have d9:M5 (λq=>1<=q) O1 w1 O4 (w4.setCell ⟨db,0,none⟩ b3):=(i0.J (b8.mono (λj h=>zo) zd)).J (c5.mono (λj h=>zo) zd);generalize w4.setCell ⟨db,0,none⟩ b3=w5 at *;apply MF zk;refine zh ?_;have g4:=a8.len;have i8:q<b'.length:=by obtain⟨pq,h3⟩:=e'.pre;rw[g4,h3];simp;omega
  have h2:q<S1.length:=zo;have h4:nth S1 q=nth S q:=by obtain⟨pq,h3⟩:=e'.pre;rw[h3,aC,ap g0]
  have b0:w5.drew.cell? (nA mb 2)=some a7/\w5.drew.cell? (adr a7 1 q)=some (nth b' q):=⟨a8.blk.cell 2 rfl,by have:=a8.row.sl.cell (i:=q) (j:=0) i8 rfl;rwa[ax]at this⟩
  have sd:∀W,N1 w5.drew W->W.cell? (nA mb 2)=some a7/\W.cell? (adr a7 1 q)=some (nth b' q):=λW hE=>⟨hE.cell b0.1,hE.cell b0.2⟩
  have j5:w5.drew.cell? (nA db 1)=some tv:=d7.cell 1 rfl;have j4:=hD.ext (b2.J d9).drew.ext;obtain⟨d0,k0⟩:=a8.at_ q h2;rw[h4]at d0;have m9:=e4 (nth S q);apply aO (λW=>W.cell? (nA mb 2)=some a7/\W.cell? (adr a7 1 q)=some (nth b' q)) 15 rfl zk;apply zrf 0 rfl b0 rfl;apply zrm 2 rfl b0 rfl;apply zrm 3 rfl b0 rfl;apply zr 4 rfl b0 (λ_=>aq rfl);apply zrf 5 rfl b0 rfl;apply zt 6 rfl b0 (λw1 g1=>RV.ld g1.1 rfl);apply zrm 7 rfl b0 rfl;apply zr 8 rfl b0 (λ_=>aj a8.row.sl.sh Mp (Nm _) rfl rfl q rfl i8);apply zt 9 rfl b0 (λw1 g1=>RV.ld g1.2 rfl);refine bK 1 10 zk rfl rfl ?_ ?_
  ·refine zvH (RV.ld j5 rfl) ?_;apply af b0
   apply LZ 10 zk rfl;apply zc PB (kK w5.drew nb se g (nth S q) _ j4 d0.drew j6 j0)
   rintro j8 w9 ⟨rfl,e1⟩;rw[e1];clear e1 w9;refine zh ?_;apply af b0;apply LZ 11 zk rfl;apply cK nD (enc:=jx) (dN g (nth S q)) rfl rfl rfl zd rfl;intro j9 w6 c' f';refine zh ?_;apply af (sd _ f');have a':M5 (λ_=>False) O4 w5 O4 w6:=ae (λh=>h) O4 ((M4 w5).drew.J f');have c9:=e2.U a' zd λh=>h
   have d6:=d7.U a' zd λh=>h
   have d4:=a8.U a' zd (λh=>h) (λh=>h) λh=>h
   have i3:=j1.U a';apply LZ 12 zk rfl;apply aF nD c9 i3 c' (by simp) rfl rfl (by simp) (by simp[L5]) (by simp;omega) (by simp;omega) zd rfl;intro a3 w7 O7 a6 b7 i2;have a9:=d6.U b7 zd zd;have a4:=d4.U b7 zd zd zd zd;have g3:=a4.len;have s7:w7.cell? (nA mb 2)=some a7/\w7.cell? (adr a7 1 q)=some (nth b' q):=⟨a4.blk.cell 2 rfl,by have:=a4.row.sl.cell (i:=q) (j:=0) zo rfl;rwa[ax]at this⟩
   refine zh ?_;apply af s7
   apply zrf 13 rfl s7 rfl;apply LZ 14 zk rfl
   apply ao (j:=1) a9 rfl (NX _) a6.one rfl rfl rfl;have b1:M5 (λj=>j=4) O7 w7 O7 (w7.setCell ⟨db,1,none⟩ a3):=MB zd a9.tag rfl;have d5:MZ O7 (w7.setCell ⟨db,1,none⟩ a3) 4 db #[b3,a3] 170:=a9.set 1 a3;have a0:=a4.U b1 zd zd zd zd;have g2:=a0.len;have s8:(w7.setCell ⟨db,1,none⟩ a3).cell? (nA mb 2)=some a7/\(w7.setCell ⟨db,1,none⟩ a3).cell? (adr a7 1 q)=some (nth b' q):=⟨a0.blk.cell 2 rfl,by have:=a0.row.sl.cell (i:=q) (j:=0) zo rfl;rwa[ax]at this⟩
   refine zh ?_;apply af s8
   have b4:=a6.U b1 zd zd;have i1:=i2.U b1;have d1:=((e5.U a' zd λh=>h).U b7 zd zd).U b1 zd zd;have a5:=((f5.U a' zd λh=>h).U b7 zd zd).U b1 zd zd;have b9:M5 (λq=>1<=q) O1 w1 O7 (w7.setCell ⟨db,1,none⟩ a3):=((d9.J (a'.mono (λ_ h=>h.elim) zd)).J (b7.mono (λj h=>zo) zd)).J (b1.mono (λj h=>zo) zd);generalize w7.setCell ⟨db,1,none⟩ a3=w8 at *;have l':=s8.1;apply MF zk;refine zh ?_;refine zvH (bH a0.row.sl.sh Mp rfl) ?_
   by_cases b5:1000<S1.length
   ·rw[ap b5]at c6;rw[<-c6];refine zTH rfl ((decide_eq_true zo)) ?_;apply zv (aI AH (ME _) rfl (by first|rfl|(simp only[L9,Mm];rfl)) rfl rfl);apply zsa (us:=#[nS,nS]) a5 (Md _);have f9:=a5.setRow (us:=#[nS,nS]);have f6:M5 (λj=>j=7) O7 w8 O7 (w8.setRow cb #[nS,nS]):=M1 zd a5.tag rfl;refine zh ?_;refine bE rfl rfl rfl f9.V (MA _) (Md _) ⟨((b2.J b9).J (f6.mono (λj h=>zo) zd)).ext,rfl⟩
   rw[am b5]at c6;refine zFH rfl ((decide_eq_false zo)) ?_;refine zxd (q+1,O7,w8,a7,b',S1,l2,rows++[r1],i7++[dN g (nth S q)],i4++[.slice ra r1.length rc],b3,a3) ⟨b2.J b9,i1,a0,d5,d1,b4,a5,j2 zo,f3,by dsimp only;rw[show 1002-(q+1)=n from by omega];exact c6⟩
  apply zc PB (kK w5.drew nb se g (nth S q) _ j4 d0.drew j6 j0);rintro j8 w9 ⟨rfl,e1⟩;rw[e1];clear e1 w9;refine zh ?_
  apply af b0;apply cG 1 11 nD (enc:=jx) (dN g (nth S q)) rfl rfl zk zk zk zk (λW hE=>P6 (hE.cell j5) (Q4 _) rfl) sd rfl rfl rfl zd rfl rfl rfl rfl rfl
  intro j9 w6 c' f';have a':M5 (λ_=>False) O4 w5 O4 w6:=ae (λh=>h) O4 ((M4 w5).drew.J f');have c9:=e2.U a' zd λh=>h
  have d6:=d7.U a' zd λh=>h
  have d4:=a8.U a' zd (λh=>h) (λh=>h) λh=>h
  have i3:=j1.U a';apply LZ 12 zk rfl;apply aF nD c9 i3 c' (by simp) rfl rfl (by simp) (by simp[L5]) (by simp;omega) (by simp;omega) zd rfl;intro a3 w7 O7 a6 b7 i2;have a9:=d6.U b7 zd zd;have a4:=d4.U b7 zd zd zd zd;have g3:=a4.len;have s7:w7.cell? (nA mb 2)=some a7/\w7.cell? (adr a7 1 q)=some (nth b' q):=⟨a4.blk.cell 2 rfl,by have:=a4.row.sl.cell (i:=q) (j:=0) zo rfl;rwa[ax]at this⟩
  refine zh ?_;apply af s7
  apply zrf 13 rfl s7 rfl;apply LZ 14 zk rfl
  apply ao (j:=1) a9 rfl (NX _) a6.one rfl rfl rfl;have b1:M5 (λj=>j=4) O7 w7 O7 (w7.setCell ⟨db,1,none⟩ a3):=MB zd a9.tag rfl;have d5:MZ O7 (w7.setCell ⟨db,1,none⟩ a3) 4 db #[b3,a3] 170:=a9.set 1 a3;have a0:=a4.U b1 zd zd zd zd;have g2:=a0.len;have s8:(w7.setCell ⟨db,1,none⟩ a3).cell? (nA mb 2)=some a7/\(w7.setCell ⟨db,1,none⟩ a3).cell? (adr a7 1 q)=some (nth b' q):=⟨a0.blk.cell 2 rfl,by have:=a0.row.sl.cell (i:=q) (j:=0) zo rfl;rwa[ax]at this⟩
  refine zh ?_;apply af s8
  have b4:=a6.U b1 zd zd;have i1:=i2.U b1;have d1:=((e5.U a' zd λh=>h).U b7 zd zd).U b1 zd zd;have a5:=((f5.U a' zd λh=>h).U b7 zd zd).U b1 zd zd;have b9:M5 (λq=>1<=q) O1 w1 O7 (w7.setCell ⟨db,1,none⟩ a3):=((d9.J (a'.mono (λ_ h=>h.elim) zd)).J (b7.mono (λj h=>zo) zd)).J (b1.mono (λj h=>zo) zd);generalize w7.setCell ⟨db,1,none⟩ a3=w8 at *;have l':=s8.1;apply MF zk;refine zh ?_;refine zvH (bH a0.row.sl.sh Mp rfl) ?_
  by_cases b5:1000<S1.length
  ·rw[ap b5]at c6;rw[<-c6];refine zTH rfl ((decide_eq_true zo)) ?_;apply zv (aI AH (ME _) rfl (by first|rfl|(simp only[L9,Mm];rfl)) rfl rfl);apply zsa (us:=#[nS,nS]) a5 (Md _);have f9:=a5.setRow (us:=#[nS,nS]);have f6:M5 (λj=>j=7) O7 w8 O7 (w8.setRow cb #[nS,nS]):=M1 zd a5.tag rfl;refine zh ?_;refine bE rfl rfl rfl f9.V (MA _) (Md _) ⟨((b2.J b9).J (f6.mono (λj h=>zo) zd)).ext,rfl⟩
  rw[am b5]at c6;refine zFH rfl ((decide_eq_false zo)) ?_;refine zxd (q+1,O7,w8,a7,b',S1,l2,rows++[r1],i7++[dN g (nth S q)],i4++[.slice ra r1.length rc],b3,a3) ⟨b2.J b9,i1,a0,d5,d1,b4,a5,j2 zo,f3,by dsimp only;rw[show 1002-(q+1)=n from by omega];exact c6⟩
 intro n2;obtain rfl:q=S.length:=dF n2;have k3:Gt (dj se g) (dN g)=some (rows,i7):=by
  rw[<-c6];obtain⟨n,hn⟩:∃n,1002-S.length=n+1:=⟨1001-S.length,zo⟩
  rw[hn,I9,am zo]
 rw[k3];have o1:=d'.row.one;have o2:=e3.one;refine zh ?_;apply zv (ai (us:=[nv,tv]) f4.V (MA _) (Md _) rfl);apply zsb (us:=#[nv,tv]) e0 (Md _) (by simp only[L9,o1,o2];rfl);have f9:=e0.setRow (us:=#[nv,tv]);have f6:M5 (λj=>j=7) O1 w1 O1 (w1.setRow cb #[nv,tv]):=M1 zd e0.tag rfl;have k1:=d'.U f6 zd zd;have j':=e3.U f6 zd zd;refine zh ?_;refine bE rfl rfl rfl f9.V (MA _) (Md _) ⟨(b2.J (f6.mono (λj h=>zo) zd)).ext,nv,tv,rfl,o1,o2,k1.rows,j'.sl⟩
def CK(l:List Nat):Nat:=l.foldl max 0
def CJ(l:List Nat)(x:Nat):CK (l++[x])=max (CK l) x:=by unfold CK;rw[Ml];rfl
def IX(h0:0<n):∀(l:List Nat),(∀x∈l,x<n)->CK l<n:=by
 have a0:∀(l:List Nat) (a:Nat),a<n->(∀x∈l,x<n)->l.foldl max a<n:=λl=>by
  induction l with
  |nil=>exact λa ha _=>ha
  |cons x l ih=>exact λa ha h=>ih _ (by have:=h x (by simp);exact Nat.max_lt.2 ⟨ha,this⟩) λy hy=>h y (by simp[hy])
 exact λl h=>a0 l 0 h0 h
def F3(l:List Nat)(sv:ix)(w:ln)(h:Sl bp 1 w sv l)(a1:0<l.length):Np Mk 61 [sv] w λv w'=>v=nI ((CK l:Nat):Int)/\w'=w:=by
 have hl:=h.len_le;have m0:w.cell? (adr sv 1 0)=some (nI ((nth l 0:Nat):Int)):=by have:=h.cell (j:=0) a1 rfl;rwa[ax]at this
 have e1:nth l 0=CK (l.take 1):=by
  rw[bd a1];simp[CK]
 apply L6 func61 ntmps61 rfl rfl;refine zh ?_
 refine zFH rfl ((decide_eq_false zo)) ?_;rw[e1];refine zh ?_
 apply zlp (λz:Nat=>[(0,sv),(3,nI ((CK (l.take z):Nat):Int)),(4,nI z)]) (λz=>w) (λz=>1<=z/\z<=l.length) (λz=>l.length-z) 1 ⟨L8 _,a1⟩;rintro q ⟨a3,hq⟩;refine zh ?_
 refine zC ?_ ?_
 ·intro a0;replace a0:q<l.length:=dT a0;have m1:w.cell? (adr sv 1 q)=some (nI ((nth l q:Nat):Int)):=by have:=h.cell (j:=0) a0 rfl;rwa[ax]at this
  refine zh ?_;refine zvH (jd rfl rfl) ?_
  rw[show max ((CK (l.take q):Nat):Int) ((nth l q:Nat):Int)=((CK (l.take (q+1)):Nat):Int)from by rw[bd a0,CJ];omega];refine zxd (q+1) ⟨zo,a0⟩
 intro a2;obtain rfl:q=l.length:=dF a2;rw[M6];refine zh ?_;refine ah rfl rfl ⟨rfl,rfl⟩
def FZ(l:List Nat)(sv:ix)(w:ln)(h:Sl bp 1 w sv l)(a1:0<l.length):Np Mk 187 [sv] w λv w'=>(∃k:Nat,v=nI (k:Int))/\w'=w:=by
 have hl:=h.len_le;have m0:w.cell? (adr sv 1 0)=some (nI ((nth l 0:Nat):Int)):=by have:=h.cell (j:=0) a1 rfl;rwa[ax]at this
 apply L6 func187 ntmps187 rfl rfl;refine zh ?_
 refine zFH rfl ((decide_eq_false zo)) ?_;apply zlp (λz:Nat×Nat=>[(0,sv),(3,nI ((z.2:Nat):Int)),(4,nI z.1)]) (λz=>w) (λz=>1<=z.1/\z.1<=l.length) (λz=>l.length-z.1) (1,nth l 0) ⟨L8 _,a1⟩
 rintro⟨q,k⟩ ⟨a2,hq⟩;dsimp only at a2 hq ⊢;refine zh ?_;refine zC ?_ ?_
 ·intro a0;replace a0:q<l.length:=dT a0;have m1:w.cell? (adr sv 1 q)=some (nI ((nth l q:Nat):Int)):=by have:=h.cell (j:=0) a0 rfl;rwa[ax]at this
  refine zh ?_;refine zvH (Jk rfl rfl) ?_
  rw[show min ((k:Nat):Int) ((nth l q:Nat):Int)=((min k (nth l q):Nat):Int)from by omega];refine zxd (q+1,min k (nth l q)) ⟨by dsimp only;omega,a0⟩
 intro a3;refine zh ?_;refine ah rfl rfl ⟨⟨k,rfl⟩,rfl⟩
structure RightD(rows:List (List Nat))(tls:List Nat):Prop where
 pos:0<rows.length
 le:rows.length<=1000
 tl:tls.length=rows.length
 row:∀j,j<rows.length->(nth rows j).length=37/\∀m,m<37->nth (nth rows j) m<rows.length
def DI.right{step:List Int->Int->List Int}{a0:List Int->Nat}{S:List (List Int)}{rows:List (List Nat)}{a1:List Nat}(h:DI step a0 S.length S rows a1):RightD rows a1:=by
 have h1:=h.rl;have h2:=h.p0;have h3:=h.len;exact⟨zo,zo,by rw[h.tl,h1],λj hj=>⟨(h.row j zo).1,λm hm=>by have:=((h.row j zo).2 m hm).1;omega⟩⟩
def kB(nv tv:ix)(rows:List (List Nat))(a5:List Nat)(w:ln)(hn:RowsN w nv rows)(b0:Sl jx 1 w tv a5)(hr:RightD rows a5):Np Mk 134 [.agg #[nv,tv]] w λv w'=>v=.bool true/\N1 w w':=by
 obtain⟨vs,a7,b1,a8⟩:=hn;have a4:=hr.pos;have b3:=hr.le;have a9:=hr.tl;apply L6 func134 ntmps134 rfl rfl;refine zh ?_;apply aQ (aA w) 1 zo rfl rfl;intro db w1 O1 a6 b5 b6 a2;have c0:w1.cell? (nA db 0)=some nv:=a6.cell 0 rfl;have c1:w1.cell? (nA db 1)=some tv:=a6.cell 1 rfl;have a3:=a7.ext a2;have a':=b0.ext a2;refine zh ?_;apply ay (d:=11) rfl (b':=false) ((by rw[beq_eq_false_iff_ne];omega));refine zh ?_;apply ay (d:=15) rfl (b':=false) ((decide_eq_false zo));refine zh ?_;refine zFH rfl ((by rw[bne_eq_false_iff_eq];omega)) ?_;apply zlp (λz:Nat×ln=>[(3,nI vs.length),(23,nv),(24,nI vs.length),(25,nI z.1)]) (λz=>z.2) (λz=>z.1<=vs.length/\z.2=w1) (λz=>vs.length-z.1) (0,w1) ⟨L3 _,rfl⟩;rintro⟨q,w2⟩ ⟨hq,rfl⟩;dsimp only at hq ⊢;refine zh ?_;refine zC ?_ ?_
 ·intro a1;replace a1:q<vs.length:=dT a1;have m1:w2.cell? (adr nv 1 q)=some (nth vs q):=by have:=a3.cell (j:=0) a1 rfl;rwa[ax]at this
  obtain⟨r1,r2⟩:=hr.row q zo;have hk:=(a8 q zo).ext a2;have b2:=IX a4 _ λx hx=>by
   obtain⟨j,hj,rfl⟩:=cu hx;exact r2 j zo
  refine zh ?_;apply ay (d:=32) rfl (b':=false) ((by rw[r1];rfl))
  refine zh ?_;apply zc call187 (FZ (nth rows q) _ w2 hk zo)
  rintro v w9 ⟨⟨k,rfl⟩,a0⟩;rw[a0];clear a0 w9;refine zh ?_;apply ay (d:=37) rfl (b':=false) ((decide_eq_false zo));refine zh ?_;apply zc call61 (F3 (nth rows q) _ w2 hk zo);rintro v w9 ⟨rfl,a0⟩;rw[a0];clear a0 w9;refine zh ?_;refine zFH rfl ((decide_eq_false zo)) ?_;refine zxd (q+1,w2) ⟨a1,rfl⟩
 intro b4;refine zh ?_;refine ah rfl rfl ⟨rfl,a2⟩
def runN(nx:Nat->Nat->Nat)(w:List Nat)(q:Nat):Nat:=w.foldl nx q
def Alike(nx:Nat->Nat->Nat)(tl:Nat->Nat)(p q:Nat):Prop:=∀w:List Nat,(∀m∈w,m<37)->tl (runN nx w p)=tl (runN nx w q)
def Alike.step{nx:Nat->Nat->Nat}{p q:Nat}(h:Alike nx tl p q)(hm:m<37):Alike nx tl (nx p m) (nx q m):=λw hw=>h (m::w) λx hx=>by
 rcases M0.1 hx with rfl|hx
 ·exact hm
 exact hw x hx
def Alike.symm{nx:Nat->Nat->Nat}{tl:Nat->Nat}{p q:Nat}(h:Alike nx tl p q):Alike nx tl q p:=λw hw=>(h w hw).symm
structure Blk(nx:Nat->Nat->Nat)(tl:Nat->Nat)(n:Nat)(bl:List Nat)(st:Nat->List Nat)(many:Nat):Prop where
 len:bl.length=n
 lt:∀i,i<n->nth bl i<many
 mem:∀b,b<many->∀x,x∈st b↔x<n/\nth bl x=b
 nd:∀b,b<many->(st b).Nodup
 ne:∀b,b<many->st b≠[]
 told:∀p q,p<n->q<n->nth bl p=nth bl q->tl p=tl q
 alike:∀p q,p<n->q<n->Alike nx tl p q->nth bl p=nth bl q
def Blk.many_le{nx:Nat->Nat->Nat}(h:Blk nx tl n bl st many):many<=n:=by
 have a0:∀b,b<many->(st b).headD 0∈st b:=λb hb=>by
  have:=h.ne b hb
  cases hs:st b with
  |nil=>exact absurd hs this
  |cons a r=>simp
 have a1:((LY many).map λb=>(st b).headD 0).Nodup:=by
  refine List.pairwise_map.2 (PI ?_ No);intro a b ha hb a2 e;have ha:=M7.1 ha;have hb:=M7.1 hb;exact a2 (by rw[<-(((h.mem a ha _).1 (a0 a ha)).2),<-(((h.mem b hb _).1 (a0 b hb)).2),e])
 have:=gI a1 (n:=n) λx hx=>by
  obtain⟨b,hb,rfl⟩:=N0.1 hx;have hb:=M7.1 hb;exact((h.mem b hb _).1 (a0 b hb)).1
 simpa using this
def Pend(nx:Nat->Nat->Nat)(n:Nat)(bl:List Nat)(td:Nat->Nat->Prop)(m0:Nat)(P0:Nat->Prop)(a0:Nat->Prop):Prop:=
 ∀p q m,p<n->q<n->m<37->nth bl p=nth bl q->nth bl (nx p m)≠nth bl (nx q m)->(td (nth bl (nx p m)) m\/td (nth bl (nx q m)) m)\/(m=m0/\¬(P0 p↔P0 q)/\a0 (nth bl p))
def Todo(nx:Nat->Nat->Nat)(n:Nat)(bl:List Nat)(td:Nat->Nat->Prop):Prop:=
 ∀p q m,p<n->q<n->m<37->nth bl p=nth bl q->nth bl (nx p m)≠nth bl (nx q m)->td (nth bl (nx p m)) m\/td (nth bl (nx q m)) m
def Todo.take{nx:Nat->Nat->Nat}{td a1:Nat->Nat->Prop}(h:Todo nx n bl td)(b0 m0:Nat)(ht:∀b m,td b m->a1 b m\/(b=b0/\m=m0))(a2:Nat->Prop)(hr:∀p,p<n->nth bl (nx p m0)=b0->a2 (nth bl p)):
  Pend nx n bl a1 m0 (λp=>nth bl (nx p m0)=b0) a2:=λp q m hp hq hm e a0=>by
 rcases h p q m hp hq hm e a0 with h1|h1
 ·rcases ht _ _ h1 with h2|⟨h2,rfl⟩
  ·exact .inl (.inl h2)
  exact .inr ⟨rfl,λhi=>a0 (by rw[h2,hi.1 h2]),hr p hp h2⟩
 rcases ht _ _ h1 with h2|⟨h2,rfl⟩
 ·exact .inl (.inr h2)
 exact .inr ⟨rfl,λhi=>a0 (by rw[h2,hi.2 h2]),by rw[e];exact hr q hq h2⟩
def Pend.done{nx:Nat->Nat->Nat}{td:Nat->Nat->Prop}{a0:Nat->Prop}(h:Pend nx n bl td m0 P0 a0)(hr:∀b,¬a0 b):Todo nx n bl td:=λp q m hp hq hm e a1=>by
 rcases h p q m hp hq hm e a1 with h1|⟨_,_,h1⟩
 ·exact h1
 exact absurd h1 (hr _)
def Pend.whole{nx:Nat->Nat->Nat}{td:Nat->Nat->Prop}{a1 a0:Nat->Prop}(h:Pend nx n bl td m0 P0 a1)(hk:∀p,p<n->nth bl p=k->P0 p)(hr:∀b,a1 b->b=k\/a0 b):Pend nx n bl td m0 P0 a0:=λp q m hp hq hm e a2=>by
 rcases h p q m hp hq hm e a2 with h1|⟨h1,h2,h3⟩
 ·exact .inl h1
 rcases hr _ h3 with h4|h4
 ·exact absurd ⟨λ_=>hk q hq (e.symm.J h4),λ_=>hk p hp h4⟩ h2
 exact .inr ⟨h1,h2,h4⟩
structure Cut(n:Nat)(bl bl':List Nat)(st st':Nat->List Nat)(many k:Nat)(L:List Nat):Prop where
 len:bl'.length=n
 bl:∀x,x<n->nth bl' x=if x∈L then many else nth bl x
 new:st' many=L
 old:st' k=(st k).filter λx=>!(L.contains x)
 oth:∀b,b≠many->b≠k->st' b=st b
def Blk.cut{nx:Nat->Nat->Nat}{a6:Nat->List Nat}(h:Blk nx tl n bl st many)(c:Cut n bl a4 st a6 many k L)(hk:k<many)(hL:∀x∈L,x<n/\nth bl x=k)(a':L.Nodup)(b0:L≠[])(b1:L.length<(st k).length) 
  (a9:∀p q,p<n->q<n->Alike nx tl p q->p∈L->q∈L):Blk nx tl n a4 a6 (many+1):=by
 have a0:∀x,x<n->x∉L->nth a4 x=nth bl x:=λx hx hn=>by rw[c.bl x hx,am hn]
 have a3:∀x,x<n->x∈L->nth a4 x=many:=λx hx hn=>by rw[c.bl x hx,ap hn]
 refine⟨c.len,λi hi=>?_,λb hb x=>?_,λb hb=>?_,λb hb=>?_,λp q hp hq e=>?_,λp q hp hq ha=>?_⟩
 ·have:=h.lt i hi
  by_cases a7:i∈L
  ·rw[a3 i hi a7];omega
  rw[a0 i hi a7];omega
 ·by_cases a1:b=many
  ·subst a1;rw[c.new]
   constructor
   ·intro hx;exact⟨(hL x hx).1,a3 x (hL x hx).1 hx⟩
   rintro⟨hx,e⟩;refine Mc λhn=>?_
   rw[a0 x hx hn]at e;have:=h.lt x hx;omega
  have a8:b<many:=zo
  by_cases a2:b=k
  ·subst a2;rw[c.old,MC,h.mem b a8 x]
   constructor
   ·rintro⟨⟨h1,h2⟩,h3⟩;have hn:x∉L:=by simpa using h3
    exact⟨h1,by rw[a0 x h1 hn];exact h2⟩
   rintro⟨h1,h2⟩;have hn:x∉L:=λhx=>by rw[a3 x h1 hx]at h2;omega
   exact⟨⟨h1,by rw[<-a0 x h1 hn];exact h2⟩,by simpa using hn⟩
  rw[c.oth b a1 a2,h.mem b a8 x]
  constructor
  ·rintro⟨h1,h2⟩;have hn:x∉L:=λhx=>a2 (by rw[<-h2];exact(hL x hx).2)
   exact⟨h1,by rw[a0 x h1 hn];exact h2⟩
  rintro⟨h1,h2⟩;have hn:x∉L:=λhx=>a1 (by rw[<-h2];exact a3 x h1 hx)
  exact⟨h1,by rw[<-a0 x h1 hn];exact h2⟩
 ·by_cases a1:b=many
  ·subst a1;rw[c.new];exact a'
  by_cases a2:b=k
  ·subst a2;rw[c.old];exact(h.nd b zo).filter _
  rw[c.oth b a1 a2];exact h.nd b zo
 ·by_cases a1:b=many
  ·subst a1;rw[c.new];exact b0
  by_cases a2:b=k
  ·subst a2;rw[c.old];intro e;have a5:st b ⊆ L:=λx hx=>by
    refine Mc λhn=>?_
    have:x∈(st b).filter λx=>!(L.contains x):=MC.2 ⟨hx,by simpa using hn⟩
    rw[e]at this;simp at this
   have:=(h.nd b zo).length_le_of_subset a5;omega
  rw[c.oth b a1 a2];exact h.ne b zo
 ·apply h.told p q hp hq
  by_cases h1:p∈L
  ·by_cases h2:q∈L
   ·rw[(hL p h1).2,(hL q h2).2]
   rw[a3 p hp h1,a0 q hq h2]at e;have:=h.lt q hq;omega
  by_cases h2:q∈L
  ·rw[a0 p hp h1,a3 q hq h2]at e;have:=h.lt p hp;omega
  rw[a0 p hp h1,a0 q hq h2]at e;exact e
 by_cases h1:p∈L
 ·rw[a3 p hp h1,a3 q hq (a9 p q hp hq ha h1)]
 have h2:q∉L:=λhx=>h1 (a9 q p hq hp ha.symm hx)
 rw[a0 p hp h1,a0 q hq h2];exact h.alike p q hp hq ha
def Pend.cut{nx:Nat->Nat->Nat}{a6:List Nat}{b4:Nat->List Nat}{td a3:Nat->Nat->Prop}{a' a5:Nat->Prop}(hB:Blk nx tl n bl st many)(h:Pend nx n bl td m0 P0 a')(c:Cut n bl a6 st b4 many k L)(_:k<many) 
  (b2:∀p m,p<n->m<37->nx p m<n) (hL:∀x,x∈L↔x<n/\nth bl x=k/\P0 x)
  (ht:∀b m,td b m->a3 b m) (b5:∀m,m<37->td k m->a3 many m) (b1:∀m,m<37->a3 many m\/a3 k m) (hr:∀b,a' b->b=k\/a5 b):Pend nx n a6 a3 m0 P0 a5:=λp q m hp hq hm e b3=>by
 have a0:∀x,x<n->x∉L->nth a6 x=nth bl x:=λx hx hn=>by rw[c.bl x hx,am hn]
 have a2:∀x,x<n->x∈L->nth a6 x=many:=λx hx hn=>by rw[c.bl x hx,ap hn]
 have a4:=λx hx=>((hL x).1 hx).2.1
 have a1:nth bl p=nth bl q/\(p∈L↔q∈L):=by
  by_cases h1:p∈L
  ·by_cases h2:q∈L
   ·exact⟨by rw[a4 p h1,a4 q h2],by simp[h1,h2]⟩
   rw[a2 p hp h1,a0 q hq h2]at e;have:=hB.lt q hq;omega
  by_cases h2:q∈L
  ·rw[a0 p hp h1,a2 q hq h2]at e;have:=hB.lt p hp;omega
  rw[a0 p hp h1,a0 q hq h2]at e;exact⟨e,by simp[h1,h2]⟩
 have hx:=b2 p m hp hm;have hy:=b2 q m hq hm;have hh:=h p q m hp hq hm a1.1;generalize nx p m=x at *;generalize nx q m=y at *;have b0:∀z,z<n->td (nth bl z) m->a3 (nth a6 z) m:=λz hz a9=>by
  by_cases h1:z∈L
  ·rw[a2 z hz h1];rw[a4 z h1]at a9;exact b5 m hm a9
  rw[a0 z hz h1];exact ht _ _ a9
 by_cases a7:nth bl x=nth bl y
 ·by_cases h1:x∈L
  ·by_cases h2:y∈L
   ·exact absurd (by rw[a2 x hx h1,a2 y hy h2]) b3
   have e1:=a4 x h1;rw[a2 x hx h1,a0 y hy h2,<-a7,e1];exact .inl (b1 m hm)
  by_cases h2:y∈L
  ·have e1:=a4 y h2;rw[a2 y hy h2,a0 x hx h1,a7,e1];exact .inl ((b1 m hm).symm)
  exact absurd (by rw[a0 x hx h1,a0 y hy h2,a7]) b3
 rcases hh a7 with(h1|h1)|⟨h1,h2,h3⟩
 ·exact .inl (.inl (b0 x hx h1))
 ·exact .inl (.inr (b0 y hy h1))
 by_cases a8:nth bl p=k
 ·exact absurd ⟨λa=>((hL q).1 (a1.2.1 ((hL p).2 ⟨hp,a8,a⟩))).2.2,λa=>((hL p).1 (a1.2.2 ((hL q).2 ⟨hq,by rw[<-a1.1];exact a8,a⟩))).2.2⟩ h2
 have b6:p∉L:=λa=>a8 (a4 p a)
 rcases hr _ h3 with h4|h4
 ·exact absurd h4 a8
 exact .inr ⟨h1,h2,by rw[a0 p hp b6];exact h4⟩
def Blk.final{nx:Nat->Nat->Nat}(h:Blk nx tl n bl st many)(ht:Todo nx n bl λ_ _=>False)(a0:∀p m,p<n->m<37->nx p m<n)(p q:Nat)(hp:p<n)(hq:q<n):nth bl p=nth bl q↔Alike nx tl p q:=by
 refine⟨λe w=>?_,h.alike p q hp hq⟩
 induction w generalizing p q with
 |nil=>exact λ_=>h.told p q hp hq e
 |cons m w ih=>
  intro hw;have hm:=hw m (by simp);refine ih (nx p m) (nx q m) (a0 p m hp hm) (a0 q m hq hm) (Mc λa1=>?_) λx hx=>hw x (by simp[hx])
  rcases ht p q m hp hq hm e a1 with h1|h1<;>exact h1
section
variable(cl:Nat→Nat)(nx:Nat→Nat→Nat)
def zO(F:List Nat)(t:Nat):Option Nat:=F.findIdx? λo=>cl o==cl t
def fnI(F:List Nat)(t:Nat):Nat:=(zO cl F t).getD F.length
def fnF(F:List Nat)(t:Nat):List Nat:=if(zO cl F t).isSome=true then F else F++[t]
def jM(p:Nat)(F:List Nat):Nat->List Nat×List Nat
 |0=>(F,[])
 |m+1=>(fnF cl (jM p F m).1 (nx p m),(jM p F m).2++[fnI cl (jM p F m).1 (nx p m)])
end
def De(h:zO cl F t=some k):k<F.length/\cl (nth F k)=cl t:=by
 obtain⟨h1,h2,_⟩:=Mj.1 h;exact⟨h1,by rw[aD h1];simpa using h2⟩
def Dg(h:zO cl F t=none):∀o∈F,cl o≠cl t:=by
 intro o ho e;have:=MK.1 h o ho;simp[e]at this
def I5(cl:Nat->Nat)(F:List Nat)(t:Nat):∃r,fnF cl F t=F++r:=by
 unfold fnF
 split
 ·exact⟨[],by simp⟩
 exact⟨_,rfl⟩
def J9(cl:Nat->Nat)(F:List Nat)(t:Nat):fnI cl F t<(fnF cl F t).length/\cl (nth (fnF cl F t) (fnI cl F t))=cl t:=by
 unfold fnI fnF
 cases h:zO cl F t with
 |some k=>exact De h
 |none=>
  simp only[Option.getD_none,Option.isSome_none,Bool.false_eq_true,if_false];exact⟨by simp,by rw[aC,am zo,Nf,ar]⟩
structure Reps(cl:Nat->Nat)(n:Nat)(F:List Nat):Prop where
 lt:∀o∈F,o<n
 nd:F.Pairwise λa b=>cl a≠cl b
def Reps.add(h:Reps cl n F)(ht:t<n):Reps cl n (fnF cl F t):=by
 unfold fnF
 cases hf:zO cl F t with
 |some k=>exact h
 |none=>
  have a0:=Dg hf
  exact⟨λo ho=>by
   rcases Ma.1 ho with ho|ho
   ·exact h.lt o ho
   rw[L2.1 ho];exact ht,List.pairwise_append.2 ⟨h.nd,by simp,λa ha b hb=>by rw[L2.1 hb];exact a0 a ha⟩⟩
def Reps.len(h:Reps cl n F):F.length<=n:=
 gI (h.nd.imp fun {a b} a0 e=>a0 (by rw[e])) h.lt
structure RowR(cl:Nat->Nat)(nx:Nat->Nat->Nat)(n p:Nat)(F F' r:List Nat)(m:Nat):Prop where
 pre:∃q,F'=F++q
 len:r.length=m
 lt:∀j,j<m->nth r j<F'.length/\cl (nth F' (nth r j))=cl (nx p j)
 reps:Reps cl n F'
def si{cl:Nat->Nat}{nx:Nat->Nat->Nat}{n p:Nat}{F:List Nat}(hF:Reps cl n F)(a3:∀m,m<37->nx p m<n):∀m,m<=37->RowR cl nx n p F (jM cl nx p F m).1 (jM cl nx p F m).2 m
 |0,_=>⟨⟨[],by simp[jM]⟩,rfl,λj hj=>absurd hj (L4 j),hF⟩
 |m+1,hm=>by
  have ih:=si hF a3 m zo;unfold jM;generalize jM cl nx p F m=R at *;obtain⟨F1,r⟩:=R;dsimp only at ih ⊢;obtain⟨q,hq⟩:=ih.pre;obtain⟨q2,a0⟩:=I5 cl F1 (nx p m);have a5:=J9 cl F1 (nx p m);have a4:=ih.len;have a6:F1.length<=(fnF cl F1 (nx p m)).length:=by rw[a0];simp
  refine⟨⟨q++q2,by rw[a0,hq,NA]⟩,by simp[a4],λj hj=>?_,ih.reps.add (a3 m zo)⟩;rw[aC]
  by_cases e:j<r.length
  ·rw[ap e];obtain⟨a1,a2⟩:=ih.lt j zo;exact⟨zo,by rw[a0,aC,ap a1];exact a2⟩
  rw[am e,show j-r.length=0 from by omega,ar];obtain rfl:j=m:=zo;exact a5
def gi(cl:Nat->Nat)(nx:Nat->Nat->Nat)(tl:Nat->Nat):Nat->Nat->List Nat->List (List Nat)->List Nat->List (List Nat)×List Nat
 |0,_,_,rows,tls=>(rows,tls)
 |n+1,i,F,rows,tls=>
  if i<F.length then gi cl nx tl n (i+1) (jM cl nx (nth F i) F 37).1 (rows++[(jM cl nx (nth F i) F 37).2]) (tls++[tl (nth F i)])
  else(rows,tls)
def nxD(rows:List (List Nat))(q m:Nat):Nat:=nth (nth rows q) m
def bm(cl:Nat->Nat)(rows:List (List Nat))(a0:List Nat):List (List Nat)×List Nat:=gi cl (nxD rows) (nth a0) (rows.length+1) 0 [0] [] []
structure LI(cl:Nat->Nat)(nx:Nat->Nat->Nat)(tl:Nat->Nat)(n i:Nat)(F:List Nat)(rows:List (List Nat))(tls:List Nat):Prop where
 le:i<=F.length
 rl:rows.length=i
 tln:tls.length=i
 p0:0<F.length
 fst:nth F 0=0
 reps:Reps cl n F
 row:∀j,j<i->(nth rows j).length=37/\∀m,m<37->nth (nth rows j) m<F.length/\cl (nth F (nth (nth rows j) m))=cl (nx (nth F j) m)
 tel:∀j,j<i->nth tls j=tl (nth F j)
def od{nx:Nat->Nat->Nat}(h0:0<n):LI cl nx tl n 0 [0] [] []:=⟨zd,rfl,rfl,zd,ar _ _,⟨λo ho=>by rw[L2.1 ho];exact h0,by simp⟩,λj hj=>absurd hj (L4 j),λj hj=>absurd hj (L4 j)⟩
def LI.next{nx:Nat->Nat->Nat}{rows:List (List Nat)}{a3:List Nat}(h:LI cl nx tl n i F rows a3)(hi:i<F.length)(a4:∀p m,p<n->m<37->nx p m<n):
  LI cl nx tl n (i+1) (jM cl nx (nth F i) F 37).1 (rows++[(jM cl nx (nth F i) F 37).2]) (a3++[tl (nth F i)]):=by
 have hr:=si (p:=nth F i) h.reps (λm hm=>a4 (nth F i) m (h.reps.lt _ (aZ hi)) hm) 37 (L8 _);generalize jM cl nx (nth F i) F 37=R at *;obtain⟨F1,r⟩:=R;dsimp only at hr ⊢;obtain⟨q,hq⟩:=hr.pre;have a0:∀k,k<F.length->nth F1 k=nth F k:=λk hk=>by rw[hq,aC,ap hk]
 have a5:F.length<=F1.length:=by rw[hq];simp
 have h1:=h.rl;have h2:=h.tln;refine⟨zo,by simp[h1],by simp[h2],zo,by rw[a0 0 h.p0];exact h.fst,hr.reps,λj hj=>?_,λj hj=>?_⟩
 ·rw[aC]
  by_cases e:j<rows.length
  ·rw[ap e];obtain⟨a1,a2⟩:=h.row j zo;refine⟨a1,λm hm=>?_⟩;obtain⟨b1,b2⟩:=a2 m hm;exact⟨zo,by rw[a0 _ b1,a0 j zo];exact b2⟩
  rw[am e,show j-rows.length=0 from by omega,ar];obtain rfl:j=i:=zo;refine⟨hr.len,λm hm=>?_⟩;obtain⟨b1,b2⟩:=hr.lt m hm;exact⟨b1,by rw[a0 j hi];exact b2⟩
 rw[aC]
 by_cases e:j<a3.length
 ·rw[ap e,a0 j zo];exact h.tel j zo
 rw[am e,show j-a3.length=0 from by omega,ar];obtain rfl:j=i:=zo;rw[a0 j hi]
def gK{cl:Nat->Nat}{nx:Nat->Nat->Nat}{tl:Nat->Nat}{n:Nat}(a1:∀p m,p<n->m<37->nx p m<n):∀(f i:Nat) (F:List Nat) (rows:List (List Nat)) (a0:List Nat),LI cl nx tl n i F rows a0->n+1<=i+f->∃F',LI cl nx tl n F'.length F' (gi cl nx tl f i F rows a0).1 (gi cl nx tl f i F rows a0).2
 |0,i,F,rows,a0,h,hf=>by have:=h.le;have:=h.reps.len;omega
 |f+1,i,F,rows,a0,h,hf=>by
  unfold gi
  split
  ·rename_i hi;exact gK a1 f (i+1) _ _ _ (h.next hi a1) zo
  rename_i hi;have:=h.le;obtain rfl:i=F.length:=zo;exact⟨F,h⟩
def Lx(F:NH)(cs:Array ix)(i:Nat)(_:Nat)(O:Nat->Nat)(w:ln)(l:List Nat)(q:Nat->Bool):Prop:=
 ∀x∈l,∀(O':Nat->Nat) (W:ln),M5 (λk=>k=i) O w O' W->Np Mk F ([nI (x:Nat)]++cs.toList) W λv W'=>v=.bool (q x)/\N1 W W'
def qf{F:NH}(hF:∀(args:Array ix) (w:ln),(callFunc F args).run Mk w=.ok (.enter F args) w)(cs:Array ix)(B:Nat)(O:Nat->Nat)(w:ln)(i:Nat)(sv:ix)(l:List Nat)(q:Nat->Bool)(hi:i≠0)(_:Nn B O w)(hr:My bp 3 1 O w i sv l)(hq:Lx F cs i B O w l q):
  Np Mk 242 [sv,.func (.func F) #[] cs] w λv w'=>v=nI (eu (λj=>q (nth l j)) l.length)/\N1 w w':=by
 have hl:=hr.sl.len_le;apply L6 func242 ntmps242 rfl rfl;refine zh ?_;refine zvH (bH hr.sl.sh L0 rfl) ?_;apply zlp (λx:Nat×ln=>[(0,sv),(1,.func (.func F) #[] cs),(7,nI l.length),(8,nI x.1)]) (λx=>x.2) (λx=>x.1<=l.length/\N1 w x.2/\∀j,j<x.1->q (nth l j)=false) (λx=>l.length-x.1) (0,w) ⟨L3 _,M4 _,λi hi=>absurd hi (L4 i)⟩;rintro⟨k,w1⟩ ⟨hk,hE,a1⟩;dsimp only at hk hE a1 ⊢;have h1:=hr.sl.ext hE;refine zh ?_;refine zC ?_ ?_
 ·intro a0;replace a0:k<l.length:=dT a0;have m1:w1.cell? (adr sv 1 k)=some (nI ((nth l k:Nat):Int)):=by have:=h1.cell (j:=0) a0 rfl;rwa[ax]at this
  refine zh ?_;apply ej rfl hF rfl (hq _ (aZ a0) O w1 (ae (λe=>hi e.symm) O hE)) rfl
  rintro v w2 ⟨rfl,a3⟩;refine zh ?_;refine zC ?_ ?_
  ·intro hy;refine zh ?_;refine ah rfl rfl ⟨by rw[cZ (q:=λj=>q (nth l j)) a0 hy a1],hE.J a3⟩
  intro hy;refine zh ?_;refine zxd (k+1,w2) ⟨a0,hE.J a3,λi hi=>(Me.1 hi).elim (a1 i) (λe=>by rw[e];exact hy)⟩
 intro a2;replace a2:l.length<=k:=dF a2;refine zh ?_;refine ah rfl rfl ⟨by rw[cX (q:=λj=>q (nth l j)) λi hi=>a1 i zo],hE⟩
def ie(q:Nat->Bool)(l:List Nat):List Nat:=l.filter λx=>!q x
def jw{q:Nat->Bool}(h:j<l.length):ie q (l.take (j+1))=ie q (l.take j)++if q (nth l j)=true then []else [nth l j]:=by
 unfold ie;rw[bd h,MU,NF]
 cases q (nth l j)<;>rfl
def qn{F:NH}(hF:∀(args:Array ix) (w:ln),(callFunc F args).run Mk w=.ok (.enter F args) w)(cs:Array ix)(B:Nat)(O:Nat->Nat)(w:ln)(i:Nat)(sv:ix)(l:List Nat)(q:Nat->Bool)(hi:i≠0)(hR:Nn B O w)(hr:My bp 3 1 O w i sv l)(hq:Lx F cs i B O w l q):
  Np Mk 257 [sv,.func (.func F) #[] cs] w λv w'=>My bp 3 1 O w' i v (ie q l)/\M5 (λk=>k=i) O w O w':=by
 have hl:=hr.sl.len_le;have hz:¬(λk=>k=i) 0:=λe=>hi e.symm
 apply L6 func257 ntmps257 rfl rfl;refine zh ?_
 apply zc call242 (qf hF cs B O w i sv l q hi hR hr hq);rintro _ w1 ⟨rfl,d1⟩;have d0:M5 (λk=>k=i) O w O w1:=ae hz O d1;have c5:=hr.U (ae (S:=λ_=>False) (λh=>h) O d1) hi λh=>h
 refine zh ?_
 by_cases a':jy (λj=>q (nth l j)) l.length=true
 ·obtain⟨j0,b1,b5,a9⟩:∃j0,j0<l.length/\q (nth l j0)=true/\∀j,j<j0->q (nth l j)=false:=by
   have hf:=(firstN_any (q:=λj=>q (nth l j)) (n:=l.length)).J a'
   cases c9:(LY l.length).find? (λj=>q (nth l j))with
   |none=>rw[eu,c9]at hf;exact absurd hf zd
   |some k=>
    obtain⟨a1,a2,a3⟩:=Nk.1 c9;exact⟨k,M7.1 a2,a1,λj hj=>by simpa using a3 j hj⟩
  have b7:=cZ b1 b5 a9;rw[b7];have c8:∀j,j<=j0->ie q (l.take j)=l.take j:=λj=>by
   induction j with
   |zero=>intro _;rfl
   |succ j ih=>
    intro hj;rw[jw zo,ih zo,a9 j zo,bd zo];rfl
  refine zFH rfl ((by rw[beq_eq_false_iff_ne];omega)) ?_;apply zlp (λz:Nat×Nat×ln×List Nat=>[(0,sv),(1,.func (.func F) #[] cs),(5,nI z.1),(6,nI z.2.1)]) (λz=>z.2.2.1) (λz=>z.2.1<=l.length/\z.1<z.2.1/\z.1=(ie q (l.take z.2.1)).length/\z.2.2.2.length=l.length/\z.2.2.2.take z.1=ie q (l.take z.2.1)/\(∀j,z.2.1<=j->j<l.length->nth z.2.2.2 j=nth l j)/\My bp 3 1 O z.2.2.1 i sv z.2.2.2/\M5 (λk=>k=i) O w O z.2.2.1) (λz=>l.length-z.2.1) (j0,j0+1,w1,l) ⟨b1,Nat.lt_succ_self _,by dsimp only;rw[jw b1,b5,ap rfl,Mr,c8 j0 (L8 _)];simp;omega,rfl,by dsimp only;rw[jw b1,b5,ap rfl,Mr,c8 j0 (L8 _)],λ_ _ _=>rfl,c5,d0⟩
  rintro⟨a,j,w2,l2⟩ ⟨hj,d6,ha,b6,a7,a0,b0,b3⟩;dsimp only at hj d6 ha b6 a7 a0 b0 b3 ⊢;have b':=b0.sl;refine zh ?_;refine zC ?_ ?_
  ·intro a4;replace a4:j<l.length:=dT a4;have m1:w2.cell? (adr sv 1 j)=some (nI ((nth l j:Nat):Int)):=by have:=b'.cell (i:=j) (j:=0) zo rfl;rw[ax,a0 j (L8 _) a4]at this;exact this
   have a6:=jw (q:=q) a4;refine zh ?_;apply ej rfl hF rfl (hq _ (aZ a4) O w2 b3) rfl;rintro v w3 ⟨rfl,d8⟩;have c':M5 (λ_=>False) O w2 O w3:=ae (λh=>h) O d8;have a5:=b0.U c' hi λh=>h
   have b2:=b3.J (c'.mono (λ_ h=>h.elim) hz);refine zh ?_
   cases c6:q (nth l j)with
   |true=>
    rw[c6,ap rfl,Mr]at a6;refine zFH rfl rfl ?_;refine zxd (a,j+1,w3,l2) ⟨a4,by dsimp only;omega,by dsimp only;rw[a6];exact ha,b6,by dsimp only;rw[a6];exact a7,λx h1 h2=>a0 x (by dsimp only at h1;omega) h2,a5,b2⟩
   |false=>
    rw[c6,am zd]at a6;have b9:=a5.sl;refine zTH rfl rfl ?_;apply N4 a5 a zo (nth l j) (LX _) rfl hi rfl rfl rfl rfl;intro w4 d2 d7;refine zh ?_;refine zxd (a+1,j+1,w4,l2.set a (nth l j)) ⟨a4,by dsimp only;omega,by dsimp only;rw[a6,Mn,<-ha];rfl,by dsimp only;rw[Mf];exact b6,?_,λx h1 h2=>?_,d2,b2.J d7⟩
    ·dsimp only;have d5:a<(l2.set a (nth l j)).length:=by rw[Mf];omega
     rw[a6,List.take_succ_eq_append_getElem d5,List.getElem_set_self,List.take_set_of_le (L8 _),a7]
    dsimp only at h1 ⊢;rw[bf zo,am zo];exact a0 x zo h2
  intro d4;obtain rfl:j=l.length:=dF d4;rw[M6]at ha a7;refine zh ?_;apply zv (mS b' L0 (LX _) rfl rfl a rfl zo);apply vU b0 a zo (0:Nat) hi L0 Mo rfl rfl rfl rfl;intro w3 l3 a5 b4 d9 b2;have b8:=a5.short (n:=a) zo;rw[b4,a7]at b8;have b9:=a5.sl;refine zh ?_;refine zvH (rJ b9 L0 (LX _) rfl rfl a rfl zo) ?_;refine ah rfl rfl ⟨b8,b3.J b2⟩
 have c7:=bM.1 (by simpa using a');have b7:eu (λj=>q (nth l j)) l.length = -1:=cX c7;rw[b7];have a8:ie q l=l:=List.filter_eq_self.2 λx hx=>by
  obtain⟨j,hj,rfl⟩:=cu hx;rw[c7 j hj];rfl
 rw[a8];refine zTH rfl rfl ?_;refine ah rfl rfl ⟨c5,d0⟩
def Kz:KeyL Mk 328 eJ:=D1 MX NP zk zk
def KN:cI Mk 327 #[(0,2),(2,1),(3,1),(4,1),(5,1),(6,1)]:=⟨_,underlying327,λw=>by kernel_rfl⟩
def qP(B:Nat)(O:Nat->Nat)(w:ln)(sb tr:Nat)(td:List ((Int×Int)×Bool))(hR:Nn B O w)(hc:Cell0 O w (nA sb 5) (.map (some tr))\/(O (nA sb 5).block=1/\w.cell? (nA sb 5)=some (.map (some tr))))(hm:MW eJ Mg O w 4 tr td):
  Np Mk 236 [nP sb] w λv w'=>
   (td=[]/\v=.tuple #[eJ (0,0),.bool false]/\M5 (λq=>q=4) O w O w'/\MW eJ Mg O w' 4 tr td)\/
   ∃b4 k x b3,td=b4++(k,x)::b3/\v=.tuple #[eJ k,.bool true]/\M5 (λq=>q=4) O w O w'/\MW eJ Mg O w' 4 tr (qq td k):=by
 obtain⟨T0,d',c'⟩:=hR.bound;obtain⟨T,e3⟩:∃T,T=T0+10:=⟨_,rfl⟩
 have hT:∀b,O b<T:=λb=>by have:=c' b;omega
 have d4:=hm.tag;have a2:w.cell? (nA sb 5)=some (.map (some tr)):=by
  rcases hc with h|h
  ·exact h.c
  exact h.2
 have d5:O (nA sb 5).block=0\/O (nA sb 5).block=1:=by
  rcases hc with h|h
  ·exact .inl h.z
  exact .inr h.1
 have a3:∀ {S:Nat->Prop} {O':Nat->Nat} {W:ln},M5 S O w O' W->¬S 1->W.cell? (nA sb 5)=some (.map (some tr)):=fun {S O' W} u hS=>by
  refine iS (u.blk _ (NQ w _ a2) ?_) a2
  rcases d5 with h|h
  ·rw[h];exact u.z
  rw[h];exact hS
 apply L6 func236 ntmps236 rfl rfl;refine zh ?_
 apply aw hR T zo (MO _) rfl;intro cb w1 O1 a1 c9 e2 e6;have c1:=a3 c9 zo;refine zh ?_
 apply pK (hm.U c9 zd zo) Nq e2 (T+1) zo zd rfl rfl;intro q w2 O2 d3 d0 b0 e1;have a5:M5 (λk=>T<=k) O w O2 w2:=(c9.mono (λ_ h=>zo) zo).J (b0.mono (λ_ h=>zo) zo);have c2:=a3 a5 zo;refine zh ?_
 apply zlp (λx:Unit=>[(0,nP sb),(2,nP cb),(9,nP q)]) (λx=>w2) (λx=>True) (λx=>0) () trivial;rintro⟨⟩ -;refine zh ?_
 refine rI d3 zo zo rfl rfl ?_ ?_
 ·intro h0;refine zh ?_;refine zFH rfl rfl ?_;apply zv (fo MX (LX _) (MO _) rfl rfl);apply zsa (us:=#[nI 0,nI 0]) (a1.U b0 zo zo) (MP _);have a8:=a1.U b0 zo zo;have b8:=a8.setRow (us:=#[nI 0,nI 0]);have a9:M5 (λk=>T<=k) O2 w2 O2 (w2.setRow cb #[nI 0,nI 0]):=M1 zo a8.tag (L8 _);have b9:=a5.J a9;refine zh ?_;refine bE rfl rfl rfl b8.V (NY _) (MP _) (.inl ⟨h0,rfl,b9.fgt (λb h=>by have:=hT b;omega) zd,(d0.U a9 zd zo).fgt hm.tag⟩)
 intro b4 k x b3 w3 d2 b5 a';obtain⟨k1,k2⟩:=k;refine zh ?_;refine zTH rfl rfl ?_;refine zvH (Qa b5 rfl) ?_;have c8:M5 (λk=>T<=k) O w O2 w3:=a5.J (a'.mono (λ_ h=>zo) zo);apply aw (e1.U a') (T+2) zo (MO _) rfl;intro eb w4 O4 a0 b2 e4 e5;apply zsa (us:=#[nI k1,nI k2]) a0 (MP _);have a6:=a0.setRow (us:=#[nI k1,nI k2]);have d1:M5 (λk=>T<=k) O4 w4 O4 (w4.setRow eb #[nI k1,nI k2]):=M1 zo a0.tag zo;have b6:=((d0.U a' zo zo).U b2 zo zo).U d1 zd zo;have a7:=(((a1.U b0 zo zo).U a' zo zo).U b2 zo zo)
 have c6:M5 (λk=>T+1<=k) O2 w3 O4 (w4.setRow eb #[nI k1,nI k2]):=(b2.mono (λ_ h=>zo) zo).J (M1 zo a0.tag zo);have a7:=((a1.U b0 zo zo).U a' zo zo).U c6 zo zo;have b1:=(c8.J (b2.mono (λ_ h=>zo) zo)).J d1;generalize w4.setRow eb #[nI k1,nI k2]=w5 at *;have c5:=a3 b1 zo;refine zh ?_;apply P4 5 rfl rfl zk zk;refine zh ?_;apply zw (ai (us:=[nI k1,nI k2]) a6.drew.V (NY _) (MP _) rfl);apply PD;have hm5d:MW eJ Mg O4 w5.drew 4 tr td:=⟨b6.blk,b6.tag,b6.born⟩
 apply WL.delete hm5d Nq Kz zd (k1,k2) rfl rfl rfl;intro w6 d6 b';have a4:=a7.drew.U b' zo zo;have c7:M5 (λk=>k=4\/T<=k) O w O4 w6:=(b1.drew.mono (λ_ h=>.inr h) zo).J (b'.mono (λ_ h=>.inl h) zo);refine zh ?_
 apply zv (ai (us:=[nI k1,nI k2]) (a6.drew.U b' zo zo).V (NY _) (MP _) rfl);apply zsa (us:=#[nI k1,nI k2]) a4 (MP _)
 have b8:=a4.setRow (us:=#[nI k1,nI k2]);have a9:M5 (λk=>k=T) O4 w6 O4 (w6.setRow cb #[nI k1,nI k2]):=M1 zo a4.tag rfl;have b9:=c7.J (a9.mono (λ_ h=>.inr zo) zo);refine zh ?_;refine bE rfl rfl rfl b8.V (NY _) (MP _) (.inr ⟨b4,(k1,k2),x,b3,d2,rfl,b9.priv hT zd,(d6.U a9 zd zo).fgt hm.tag⟩)
end Go.Proofs.YteolbhblkgjbhaaGreatDoor
section
namespace Go.Proofs.YteolbhblkgjbhaaGreatDoor
open Go.VL Go.Proofs
set_option maxRecDepth 10000
abbrev KVR:=Int×ix×List Nat
abbrev vq(e:KVR):Int×ix:=(e.1,e.2.1)
def yw(E:List KVR)(k:Int)(v:ix)(l:List Nat):(dc E k (v,l)).map vq=dc (E.map vq) k v:=by
 induction E with
 |nil=>rfl
 |cons e r ih=>
  simp only[dc,Mb,vq]
  by_cases h:e.1=k
  ·rw[ap h,ap h];rfl
  rw[am h,am h,Mb,ih]
def GC(E:List KVR)(k:Int):bI (E.map vq) k=(bI E k).map (·.1):=by
 induction E with
 |nil=>rfl
 |cons e r ih=>
  simp only[bI,Mb,vq]
  by_cases h:e.1=k
  ·rw[ap h,ap h];rfl
  rw[am h,am h];exact ih
structure MpR(base i:Nat)(O:Nat->Nat)(w:ln)(r:Nat)(E:List KVR):Prop where
 map:MW (λk:Int=>nI k) (λv:ix=>v) O w i r (E.map vq)
 row:∀k,k<E.length->My bp 3 1 O w (base+k) (nth E k).2.1 (nth E k).2.2
def MpR.U{base i:Nat}{S:Nat->Prop}{O O':Nat->Nat}{w w':ln}{r:Nat}{E:List KVR}(h:MpR base i O w r E)(u:M5 S O w O' w')(hi:i≠0)(hb:0<base)(hS:¬S i)(a0:∀k,¬S (base+k)):MpR base i O' w' r E:=
 ⟨h.map.U u hi hS,λk hk=>(h.row k hk).U u zo (a0 k)⟩
def lZ(E:List KVR)(k:Int):Nat:=(jA E k).getD E.length
def dY(E:List KVR)(k:Int):List Nat:=((bI E k).map (·.2)).getD []
def D3(E:List KVR)(k:Int):ix:=((bI E k).map (·.1)).getD (nS)
def MpR.at{base i:Nat}{O:Nat->Nat}{w:ln}{r:Nat}{E:List KVR}(h:MpR base i O w r E)(k:Int):My bp 3 1 O w (base+lZ E k) (D3 E k) (dY E k):=by
 unfold lZ D3 dY;rw[lR]
 cases ha:jA E k with
 |none=>exact M9 _ _ _ _ _ _
 |some j=>
  obtain⟨x,hx⟩:=iY ha;obtain⟨hj,a0⟩:=Ni.1 hx;have h1:=h.row j hj;rw[aD hj,a0]at h1;simp only[Pg,hx,Pj,Pf];exact h1
def MpR.put{base:Nat}{O2:Nat->Nat}{w2:ln}{E:List KVR}(h:MpR base i O w r E)(k:Int)(_:i≠0)(hb:i<base)(u:M5 (λq=>q=base+lZ E k) O w O' w')(hr:My bp 3 1 O' w' (base+lZ E k) v l) 
  (hm:MW (λk:Int=>nI k) (λv:ix=>v) O2 w2 i r (dc (E.map vq) k v)) (u2:M5 (λq=>q=i) O' w' O2 w2):MpR base i O2 w2 r (dc E k (v,l)):=by
 refine⟨by rw[yw];exact hm,λn hn=>?_⟩;have a0:=hr.U u2 zo zo;have old:∀n,n<E.length->n≠lZ E k->My bp 3 1 O2 w2 (base+n) (nth E n).2.1 (nth E n).2.2:=λn hn a1=>((h.row n hn).U u zo zo).U u2 zo zo
 rw[eT]at hn ⊢
 cases ha:jA E k with
 |none=>
  rw[ha]at hn;dsimp only at hn ⊢;have hs:lZ E k=E.length:=by unfold lZ;rw[ha];rfl
  rw[hs]at a0 old;rw[Mn,L7]at hn
  by_cases he:n=E.length
  ·subst he;rw[aC,am zo,Nf,show nth [((k,v,l):KVR)] 0=(k,v,l)from by rw[aD Nat.zero_lt_one];rfl];exact a0
  rw[aC,ap zo];exact old n zo he
 |some j=>
  rw[ha]at hn;dsimp only at hn ⊢;have hs:lZ E k=j:=by unfold lZ;rw[ha];rfl
  rw[hs]at a0 old;rw[Mf]at hn;obtain⟨x,hx⟩:=iY ha;obtain⟨hj,_⟩:=Ni.1 hx;rw[bf hj]
  by_cases he:n=j
  ·rw[ap he];subst he;exact a0
  rw[am he];exact old n hn he
def eF(E:List KVR)(k k':Int)(v:ix)(l:List Nat):dY (dc E k (v,l)) k'=if k=k' then l else dY E k':=by
 unfold dY;rw[bx]
 split<;>rfl
def lQ(E:List KVR)(k:Int)(x:ix×List Nat):(dc E k x).map (·.1)=if k∈E.map (·.1)then E.map (·.1)else E.map (·.1)++[k]:=by
 induction E with
 |nil=>rfl
 |cons e r ih=>
  simp only[dc]
  by_cases h:e.1=k
  ·rw[ap h,ap (by simp[h])];simp[h]
  rw[am h,Mb,ih];have h':¬k=e.1:=λe=>h e.symm
  by_cases hm:k∈r.map (·.1)
  ·rw[ap hm,ap (by rw[Mb];exact Mi _ hm)];rfl
  rw[am hm,am (by rw[Mb,M0];exact λh=>h.elim h' hm)];rfl
def Bo{E:List KVR}(h:(E.map (·.1)).Nodup)(k:Int)(x:ix×List Nat):((dc E k x).map (·.1)).Nodup:=by
 rw[lQ]
 split
 ·exact h
 rename_i hk;refine Nz.2 ⟨h,by simp,λa ha b hb e=>?_⟩;rw[L2]at hb;subst hb;subst e;exact hk ha
end Go.Proofs.YteolbhblkgjbhaaGreatDoor
namespace Go.VL
open Go.Proofs
def jb{ops:Array Pb}{S:ln->Prop}{a0:Array Bool}{st:St} 
   {o:Op}     {t t':N8} {p p':String} {e e':Array Qd} {d d':Nat} {xv:ix}
  (i j:Nat) (he:PL P T E sz a2) (u:α) (hi:ops[i]? = some ⟨some d,o,t,p,e,none⟩) (hj:ops[j]? = some ⟨some d',.buildSlice T 1 #[(0,y)],t',p',e',none⟩)
  (hr:Ms .any ops a0=[i,j]) (a':Ms .any ops (a0.setIfInBounds i true)=[j]) (a9:Ms .any ops (a0.setIfInBounds j true)=[i])
  (a4:(a0.setIfInBounds j true).setIfInBounds i true=(a0.setIfInBounds i true).setIfInBounds j true)
  (hv:∀w',N1 w w'->RV P N o t st w' v) (hS:∀w',N1 w w'->S w')
  (hy:ev st y=some xv) (a5:xv.cells.toList=enc u) (a6:(enc u).length=sz) (hs:sz<=16777216) (hd:ND d N=true) (a7:ND d' N=true) (b0:Nj d d'=false) (hf:(cV st d').isNone=true) (a8:ev ((d,v)::st) y=some xv)
  (h:∀sv w',Sl enc sz w' sv [u]->N1 w w'->WH P N ops S Q a1 ((a0.setIfInBounds i true).setIfInBounds j true) ((d',sv)::(d,v)::st) w'):WH P N ops S Q (a1+2) a0 st w:=by
 refine bK i j hr hi hj ?_ ?_
 ·refine aE (hv w (M4 w)) hd (Mz (af (hS w (M4 w)) (LZ j a' hj ?_)));refine cK he u a8 a5 a6 hs a7 λsv w' a3 hE=>Mz (af (hS w' hE) (h sv w' a3 hE))
 refine cK he u hy a5 a6 hs a7 λsv w' a3 hE=>Mz (af (hS w' hE) (LZ i a9 hi ?_))
 refine aE (λa ha=>hv w' hE a (ha.fresh hf)) hd (Mz (af (hS w' hE) ?_));rw[a4];exact λa ha=>h sv w' a3 hE a (ha.swap b0)
end Go.VL
end
namespace Go.Proofs.YteolbhblkgjbhaaGreatDoor
structure LeadsI(bl xs:List Nat)(E:List KVR):Prop where
 nd:(E.map (·.1)).Nodup
 row:∀k,dY E k=xs.filter λi=>decide (((nth bl i:Nat):Int)=k)
 key:∀k,k∈E.map (·.1)↔∃i∈xs,((nth bl i:Nat):Int)=k
def LeadsI.nil(bl:List Nat):LeadsI bl [] []:=⟨NL,λ_=>rfl,λk=>by simp⟩
def LeadsI.push{E:List KVR}(h:LeadsI bl xs E)(i:Nat)(v:ix):LeadsI bl (xs++[i]) (dc E ((nth bl i:Nat):Int) (v,dY E ((nth bl i:Nat):Int)++[i])):=by
 refine⟨Bo h.nd _ _,λk=>?_,λk=>?_⟩
 ·rw[eF,MU,h.row,h.row]
  by_cases hk:((nth bl i:Nat):Int)=k
  ·rw[ap hk,hk,List.filter_cons_of_pos (by simpa using hk)];rfl
  rw[am hk,List.filter_cons_of_neg (by simpa using hk)];simp
 rw[lQ]
 constructor
 ·intro hm
  split at hm
  ·obtain⟨x,hx,e⟩:=(h.key k).1 hm;exact⟨x,MG _ hx,e⟩
  rcases Ma.1 hm with hm|hm
  ·obtain⟨x,hx,e⟩:=(h.key k).1 hm;exact⟨x,MG _ hx,e⟩
  exact⟨i,by simp,(L2.1 hm).symm⟩
 rintro⟨x,hx,e⟩
 rcases Ma.1 hx with hx|hx
 ·have:=(h.key k).2 ⟨x,hx,e⟩
  split
  ·exact this
  exact MG _ this
 obtain rfl:=L2.1 hx;subst e
 split
 ·assumption
 exact MD _ (L2.2 rfl)
def eD(n:Nat)(nx:Nat->Nat)(to:Nat):List Nat:=(LY n).filter λx=>decide (nx x=to)
def iI{nx:Nat->Nat}:x∈eD n nx to↔x<n/\nx x=to:=by
 simp[eD,M7]
def Gm(n:Nat)(nx:Nat->Nat)(to:Nat):(eD n nx to).Nodup:=No.sublist MN
def iH{nx:Nat->Nat}:x∈l.flatMap (eD n nx)↔x<n/\nx x∈l:=by
 rw[List.mem_flatMap]
 constructor
 ·rintro⟨a,ha,hx⟩;obtain⟨h1,rfl⟩:=iI.1 hx;exact⟨h1,ha⟩
 rintro⟨h1,h2⟩;exact⟨_,h2,iI.2 ⟨h1,rfl⟩⟩
def sW{n:Nat}{nx:Nat->Nat}:∀ {l:List Nat},l.Nodup->(l.flatMap (eD n nx)).Nodup
 |[],_=>NL
 |a::r,h=>by
  obtain⟨h1,h2⟩:=Nr.1 h;rw[Mx];refine Nz.2 ⟨Gm n nx a,sW h2,λx hx y hy e=>?_⟩;subst e;have a0:=(iH.1 hy).2;rw[(iI.1 hx).2]at a0;exact h1 a0
def LeadsI.mem{nx:Nat->Nat}{st:List Nat}{E:List KVR}(h:LeadsI bl (st.flatMap (eD n nx)) E)(a1:∀x,x<n->nx x<n)(a0:∀x,x∈st↔x<n/\nth bl x=b)(k x:Nat):x∈dY E (k:Int)↔x<n/\nth bl x=k/\nth bl (nx x)=b:=by
 rw[h.row,MC,iH,a0,decide_eq_true_eq]
 constructor
 ·rintro⟨⟨h1,_,h2⟩,h3⟩;exact⟨h1,zo,h2⟩
 rintro⟨h1,h2,h3⟩;exact⟨⟨h1,a1 x h1,h3⟩,zo⟩
def LeadsI.rnd{nx:Nat->Nat}{st:List Nat}{E:List KVR}(h:LeadsI bl (st.flatMap (eD n nx)) E)(a0:st.Nodup)(k:Int):(dY E k).Nodup:=by
 rw[h.row];exact(sW a0).sublist MN
def LeadsI.ne{E:List KVR}(h:LeadsI bl xs E){k:Int}(hk:k∈E.map (·.1)):dY E k≠[]:=λe=>by
 obtain⟨i,hi,hb⟩:=(h.key k).1 hk;have:i∈dY E k:=by rw[h.row];exact MC.2 ⟨hi,decide_eq_true hb⟩
 rw[e]at this;exact absurd this (by simp)
structure FromO(O:Nat->Nat)(w:ln)(i:Nat)(fv:ix)(n:Nat)(nx:Nat->Nat->Nat):Prop where
 ex:∃(ms:List ix) (vss:List (List ix)),My yo 130 1 O w i fv ms/\ms.length=37/\∀m,m<37->My yo 22 1 O w i (nth ms m) (nth vss m)/\(nth vss m).length=n/\
  ∀t,t<n->My bp 3 1 O w i (nth (nth vss m) t) (eD n (λx=>nx x m) t)
def FromO.U{S:Nat->Prop}{O O':Nat->Nat}{w w':ln}{i:Nat}{fv:ix}{n:Nat}{nx:Nat->Nat->Nat}(h:FromO O w i fv n nx)(u:M5 S O w O' w')(hi:i≠0)(hS:¬S i):FromO O' w' i fv n nx:=by
 obtain⟨ms,a0,h1,h2,h3⟩:=h.ex;exact⟨ms,a0,h1.U u hi hS,h2,λm hm=>⟨(h3 m hm).1.U u hi hS,(h3 m hm).2.1,λt ht=>((h3 m hm).2.2 t ht).U u hi hS⟩⟩
structure SpO(O:Nat->Nat)(w:ln)(sb:Nat)(nv tv fv bv:ix)(sr tr n:Nat)(nx:Nat->Nat->Nat)(bl:List Nat)(E:List KVR)(td:List ((Int×Int)×Bool))(many:Nat):Prop where
 blk:MZ O w 1 sb #[nv,tv,fv,bv,.map (some sr),.map (some tr),nI (many:Nat)] 327
 row:My bp 3 1 O w 2 bv bl
 st:MpR 10 3 O w sr E
 todo:MW eJ Mg O w 4 tr td
 frm:FromO O w 5 fv n nx
def SpO.U{S:Nat->Prop}{O O':Nat->Nat}{w w':ln}{sb:Nat}{nv tv fv bv:ix}{sr tr n:Nat}{nx:Nat->Nat->Nat}{bl:List Nat}{E:List KVR}{td:List ((Int×Int)×Bool)}{many:Nat}(h:SpO O w sb nv tv fv bv sr tr n nx bl E td many) 
  (u:M5 S O w O' w') (hS:∀k,0<k->k<10+E.length->¬S k):SpO O' w' sb nv tv fv bv sr tr n nx bl E td many:=
 ⟨h.blk.U u zd (hS 1 zo zo),h.row.U u zd (hS 2 zo zo),⟨h.st.map.U u zd (hS 3 zo zo),λk hk=>(h.st.row k hk).U u zo (hS _ zo zo)⟩,h.todo.U u zd (hS 4 zo zo),h.frm.U u zd (hS 5 zo zo)⟩
def mP(E:List KVR)(k:Int):Je (λv:ix=>v) nS (bI (E.map vq) k)=D3 E k:=by
 unfold D3;rw[GC]
 cases bI E k<;>rfl
def ye(B:Nat)(O:Nat->Nat)(w:ln)(sb:Nat)(nv tv fv bv:ix)(sr tr n:Nat)(nx:Nat->Nat->Nat)(bl:List Nat)(E:List KVR)(td:List ((Int×Int)×Bool))(many b m:Nat)(hR:Nn B O w)(hS:SpO O w sb nv tv fv bv sr tr n nx bl E td many) 
  (hE:E.length<=1000) (hm:m<37) (d4:∀x∈dY E (b:Nat),x<n) (hn:n<=1000) (g0:bl.length=n) (d5:(dY E (b:Nat)).Nodup) (_:∀q,O q<2000) :
  Np Mk 237 [nP sb,nI (b:Nat),nI (m:Nat)] w λv w'=>
   ∃r O' G,v=.map (some r)/\M5 (λq=>2000<=q) O w O' w'/\Nn B O' w'/\MpR 3000 2000 O' w' r G/\LeadsI bl ((dY E (b:Nat)).flatMap (eD n λx=>nx x m)) G:=by
 obtain⟨ms,b2,e5,f6,a8⟩:=hS.frm.ex;apply L6 func237 ntmps237 rfl rfl;refine zh ?_;apply bD (λk:Int=>nI k) (λv:ix=>v) hR 2000 zd rfl;intro r w1 O1 e0 c8 e9;have b6:=hS.U c8 zo;have c3:w1.cell? (nA sb 4)=some (.map (some sr)):=b6.blk.cell 4 rfl;have d6:=hS.st.at (b:Int);refine zh ?_;apply zv (Mu b6.st.map Mh qT (Nc _) (b:Int) rfl rfl rfl (mP E _));refine zvH (bH (b6.st.at (b:Int)).sl.sh L0 rfl) ?_;apply zlp (λz:Nat×(Nat->Nat)×World×List KVR=>[(0,nP sb),(2,nI (m:Nat)),(7,.map (some r)),(18,D3 E (b:Nat)),(19,nI (dY E (b:Nat)).length),(20,nI z.1)]) (λz=>z.2.2.1) (λz=>z.1<=(dY E (b:Nat)).length/\M5 (λq=>2000<=q) O w z.2.1 z.2.2.1/\Nn B z.2.1 z.2.2.1/\MpR 3000 2000 z.2.1 z.2.2.1 r z.2.2.2/\LeadsI bl (((dY E (b:Nat)).take z.1).flatMap (eD n λx=>nx x m)) z.2.2.2) (λz=>(dY E (b:Nat)).length-z.1) (0,O1,w1,[]) ⟨L3 _,c8.mono (λ_ h=>zo) zd,e9,⟨e0,λk hk=>absurd hk (L4 k)⟩,LeadsI.nil _⟩;rintro⟨q,O2,w2,G⟩ ⟨hq,a3,b8,hG,hL⟩;dsimp only at hq a3 b8 hG hL ⊢;have c':=hS.U a3 zo;have c6:=(c'.st.at (b:Int)).sl;have f8:=c6.len_le;refine zh ?_;refine zC ?_ ?_
 ·intro a2;replace a2:q<(dY E (b:Nat)).length:=dT a2;have m1:w2.cell? (adr (D3 E (b:Nat)) 1 q)=some (nI ((nth (dY E (b:Nat)) q:Nat):Int)):=by have:=c6.cell (i:=q) (j:=0) a2 rfl;rwa[ax]at this
  obtain⟨to,a7⟩:∃to,to=nth (dY E (b:Nat)) q:=⟨_,rfl⟩
  have c5:to<n:=by rw[a7];exact d4 _ (aZ a2)
  rw[<-a7]at m1;have e7:=(e5.U a3 zd zo).sl;have e6:=((a8 m hm).1.U a3 zd zo).sl;have f':=(((a8 m hm).2.2 to c5).U a3 zd zo).sl;have f5:=(a8 m hm).2.1;have c1:w2.cell? (nA sb 2)=some fv:=c'.blk.cell 2 rfl;have m2:w2.cell? (adr fv 1 m)=some (nth ms m):=by have:=e7.cell (i:=m) (j:=0) zo rfl;rwa[ax]at this
  have m3:w2.cell? (adr (nth ms m) 1 to)=some (nth (nth b2 m) to):=by have:=e6.cell (i:=to) (j:=0) zo rfl;rwa[ax]at this
  refine zh ?_;apply zlp (λy:Nat×(Nat->Nat)×World×List KVR=>[(0,nP sb),(2,nI (m:Nat)),(7,.map (some r)),(18,D3 E (b:Nat)),(19,nI (dY E (b:Nat)).length),(20,nI q),(33,nth (nth b2 m) to),(34,nI (eD n (λx=>nx x m) to).length),(35,nI y.1)]) (λy=>y.2.2.1) (λy=>y.1<=(eD n (λx=>nx x m) to).length/\M5 (λq=>2000<=q) O w y.2.1 y.2.2.1/\Nn B y.2.1 y.2.2.1/\MpR 3000 2000 y.2.1 y.2.2.1 r y.2.2.2/\LeadsI bl (((dY E (b:Nat)).take q).flatMap (eD n λx=>nx x m)++(eD n (λx=>nx x m) to).take y.1) y.2.2.2) (λy=>(eD n (λx=>nx x m) to).length-y.1) (0,O2,w2,G) ⟨L3 _,a3,b8,hG,by dsimp only;rw[Px,Mr];exact hL⟩
  rintro⟨j,O3,w3,G3⟩ ⟨hj,a5,b7,b',a6⟩;dsimp only at hj a5 b7 b' a6 ⊢;have b5:=hS.U a5 zo;have c7:=(((a8 m hm).2.2 to c5).U a5 zd zo).sl;have f7:=c7.len_le;refine zh ?_;refine zC ?_ ?_
  ·intro a4;replace a4:j<(eD n (λx=>nx x m) to).length:=dT a4;obtain⟨i,hi⟩:∃i,i=nth (eD n (λx=>nx x m) to) j:=⟨_,rfl⟩
   have f9:i<n:=by rw[hi];exact(iI.1 (aZ a4)).1
   have k1:w3.cell? (adr (nth (nth b2 m) to) 1 j)=some (nI (i:Int)):=by have:=c7.cell (i:=j) (j:=0) a4 rfl;rw[ax]at this;rw[hi];exact this
   refine zh ?_;have a0:=b5.row.sl;have d1:=b5.blk.cell 3 rfl;have d2:w3.drew.cell? (adr bv 1 i)=some (nI ((nth bl i:Nat):Int)):=by have:=a0.cell (i:=i) (j:=0) zo rfl;rwa[ax]at this
   have a':M5 (λ_=>False) O3 w3 O3 w3.drew:=ae (λh=>h) O3 (M4 w3).drew;have d3:=b'.U a' zd zd (λh=>h) (λ_ h=>h);apply aO (λW=>W.cell? (nA sb 3)=some bv/\W.cell? (adr bv 1 i)=some (nI ((nth bl i:Nat):Int))) 21 rfl zk;refine zin ⟨d1,d2⟩ λzS=>?_
   apply zrm 0 rfl zS rfl;apply zrm 1 rfl zS rfl
   apply zr 2 rfl zS (λ_=>aq rfl);apply zrf 3 rfl zS rfl
   apply zt 4 rfl zS (λw1 a1=>RV.ld a1.1 rfl);apply zrm 5 rfl zS rfl
   apply zr 6 rfl zS (λ_=>aj a0.sh L0 (LX _) rfl rfl i rfl zo);apply zt 7 rfl zS (λw1 a1=>RV.ld a1.2 rfl)
   apply zrm 8 rfl zS rfl;apply zrm 9 rfl zS rfl
   apply zr 10 rfl zS (λ_=>aq rfl);apply zrf 11 rfl zS rfl
   apply zt 12 rfl zS (λw1 a1=>RV.ld a1.1 rfl);apply zrm 13 rfl zS rfl
   apply zr 14 rfl zS (λ_=>aj a0.sh L0 (LX _) rfl rfl i rfl zo);apply zt 15 rfl zS (λw1 a1=>RV.ld a1.2 rfl)
   apply zrm 17 rfl zS rfl;apply jb 16 18 lK (enc:=bp) i rfl rfl zk zk zk zk (λW hE=>Mu (d3.U (ae (S:=λ_=>False) (λh=>h) O3 hE) zd zd (λh=>h) (λ_ h=>h)).map Mh qT (Nc _) ((nth bl i:Nat):Int) rfl rfl rfl (mP G3 _)) (λW hE=>⟨hE.cell d1,hE.cell d2⟩) rfl rfl rfl zd rfl rfl rfl rfl rfl
   intro f4 w4 b3 f3;have a9:M5 (λ_=>False) O3 w3.drew O3 w4:=ae (λh=>h) O3 f3;have b9:=d3.U a9 zd zd (λh=>h) (λ_ h=>h);have g1:(dY G3 ((nth bl i:Nat):Int)).length<=n:=by
    have d9:(((dY E (b:Nat)).take q).flatMap (eD n λx=>nx x m)++(eD n (λx=>nx x m) to)).Nodup:=by
     have:=sW (n:=n) (nx:=λx=>nx x m) (d5.sublist (Pm (q+1) _))
     rwa[bd a2,N9,<-a7,Mx,Pq,Mr]at this
    rw[a6.row];refine gI ((d9.sublist (PQ (Pm j _) _)).sublist MN) λx hx=>?_
    rcases Ma.1 (MC.1 hx).1 with h1|h1
    ·exact(iH.1 h1).1
    exact(iI.1 (List.mem_of_mem_take h1)).1
   apply LZ 19 zk rfl;apply aF lK (b9.at ((nth bl i:Nat):Int)) ((b7.U a').U a9) b3 (by simp) rfl rfl (by simp) (by simp[L5]) (by rw[L7];omega) (by rw[L7];omega) zo rfl
   intro v5 w5 O5 d8 b1 e8;have b4:=((b5.U a' (λ_ _ _ h=>h)).U a9 (λ_ _ _ h=>h)).U b1 zo;have e2:w5.cell? (adr bv 1 i)=some (nI ((nth bl i:Nat):Int)):=by have:=b4.row.sl.cell (i:=i) (j:=0) zo rfl;rwa[ax]at this
   refine zh ?_;apply af ⟨b4.blk.cell 3 rfl,e2⟩
   apply LZ 20 zk rfl;apply Mt (b9.map.U b1 zd zo) Mh qT zd ((nth bl i:Nat):Int) v5 rfl rfl rfl rfl rfl
   intro w6 d' b0;have c9:=b4.U b0 zo;have e3:w6.cell? (adr bv 1 i)=some (nI ((nth bl i:Nat):Int)):=by have:=c9.row.sl.cell (i:=i) (j:=0) zo rfl;rwa[ax]at this
   have d0:=a6.push i v5;rw[NA,hi,<-bd a4,<-hi]at d0;refine zh ?_;apply af ⟨c9.blk.cell 3 rfl,e3⟩;apply MF zk;refine zh ?_;refine zxd (j+1,O5,w6,dc G3 ((nth bl i:Nat):Int) (v5,dY G3 ((nth bl i:Nat):Int)++[i])) ⟨a4,(((a5.J (a'.mono (λ_ h=>h.elim) zd)).J (a9.mono (λ_ h=>h.elim) zd)).J (b1.mono (λ_ h=>zo) zd)).J (b0.mono (λ_ h=>zo) zd),e8.U b0,b9.put ((nth bl i:Nat):Int) zd zd b1 d8 d' b0,d0⟩
  intro e1;obtain rfl:j=(eD n (λx=>nx x m) to).length:=dF e1;rw[M6]at a6;refine zh ?_;refine zxd (q+1,O3,w3,G3) ⟨a2,a5,b7,b',by dsimp only;rw[bd a2,N9,<-a7,Mx,Pq,Mr];exact a6⟩
 intro e4;obtain rfl:q=(dY E (b:Nat)).length:=dF e4;rw[M6]at hL;refine zh ?_;refine ah rfl rfl ⟨r,O2,G,rfl,a3,b8,hG,hL⟩
def Gx(c k:Nat):((c:Int)==(k:Int))=(c==k):=by
 by_cases h:c=k
 ·subst h;simp
 rw[beq_eq_false_iff_ne.2 h,beq_eq_false_iff_ne.2 zo]
def vj(w:ln)(xb yb sb i c k len:Nat)(bv:ix)(a0:Shape bv len)(hi:i<len)(c1:w.cell? ⟨xb,0,none⟩=some (nP sb))(c2:w.cell? (nA sb 3)=some bv)(c3:w.cell? (adr bv 1 i)=some (nI (c:Nat)))(c4:w.cell? ⟨yb,0,none⟩=some (nI (k:Nat))):
  Np Mk 258 [nI (i:Nat),nP xb,nP yb] w λv w'=>v=.bool (c==k)/\N1 w w':=by
 apply L6 func258 ntmps258 rfl rfl;refine zh ?_
 apply Q9 zk zk;refine zh ?_
 refine zwH (aj a0 L0 (LX _) rfl rfl i rfl zo) ?_;apply WS.nil
 refine zh ?_;refine ah rfl rfl ⟨by rw[Gx c k],(M4 w).drew⟩
def tdL(td:List ((Int×Int)×Bool))(b many:Nat)(lt:Bool):Nat->List ((Int×Int)×Bool)
 |0=>td
 |m+1=>dc (tdL td b many lt m) (((if(bI (tdL td b many lt m) ((b:Int),(m:Int))).getD false=true then(many:Int)else if lt=true then(b:Int)else(many:Int)),(m:Int))) true
def DK(td:List ((Int×Int)×Bool))(k:Int×Int):Je Mg (.bool false) (bI td k)=.bool ((bI td k).getD false):=by
 cases bI td k<;>rfl
def df(bl:List Nat)(k:Nat)(L:List Nat):List Nat:=L.foldl (λbl x=>bl.set x k) bl
def jo(k:Nat):∀(L bl:List Nat),(df bl k L).length=bl.length
 |[],_=>rfl
 |x::L,bl=>by rw[df,M8];exact(jo k L (bl.set x k)).J Mf
def xH(h:j<L.length):df bl k (L.take (j+1))=(df bl k (L.take j)).set (nth L j) k:=by
 unfold df;rw[bd h,Ml];rfl
def mz(k:Nat):∀(L bl:List Nat) (x:Nat),x<bl.length->nth (df bl k L) x=if x∈L then k else nth bl x
 |[],_,_,_=>by simp[df]
 |y::L,bl,x,hx=>by
  rw[df,M8];have:=mz k L (bl.set y k) x (by rw[Mf];exact hx);rw[df]at this;rw[this]
  by_cases h1:x∈L
  ·rw[ap h1,ap (Mi _ h1)]
  rw[am h1]
  by_cases h2:x=y
  ·subst h2;rw[ap (MS ..),bf hx,ap rfl]
  rw[am (λh=>(M0.1 h).elim h2 h1)]
  by_cases hy:y<bl.length
  ·rw[bf hy,am h2]
  rw[List.set_eq_of_length_le zo]
def tdP(td:List ((Int×Int)×Bool))(b m:Nat):Prop:=bI td ((b:Int),(m:Int))=some true
def sy{a b c d:Int}(h:b≠d):¬((a,b)=(c,d)):=λe=>h (Ny e).2
def BM(td:List ((Int×Int)×Bool))(b many:Nat)(lt:Bool)(c j:Nat):∀m,m<=j->bI (tdL td b many lt m) ((c:Int),(j:Int))=bI td ((c:Int),(j:Int))
 |0,_=>rfl
 |m+1,h=>by
  unfold tdL;rw[bx,am (sy zo)];exact BM td b many lt c j m zo
def Fl(q:Int×Int)(h:tdP td c j):tdP (dc td q true) c j:=by
 unfold tdP;rw[bx]
 split
 ·rfl
 exact h
def yU{td:List ((Int×Int)×Bool)}{b many:Nat}{lt:Bool}{c j:Nat}(h:tdP td c j):∀m,tdP (tdL td b many lt m) c j
 |0=>h
 |m+1=>Fl _ (yU h m)
def yT{td:List ((Int×Int)×Bool)}{b many:Nat}{lt:Bool}{j:Nat}(h:tdP td b j):∀m,j<m->tdP (tdL td b many lt m) many j
 |0,hj=>absurd hj (L4 j)
 |m+1,hj=>by
  unfold tdP tdL;rw[bx]
  by_cases e:j=m
  ·subst e;rw[BM td b many lt b j j (L8 _),show bI td ((b:Int),(j:Int))=some true from h];simp
  rw[am (sy zo)];exact yT h m zo
def GM{td:List ((Int×Int)×Bool)}{b many:Nat}{lt:Bool}{j:Nat}:∀m,j<m->tdP (tdL td b many lt m) many j\/tdP (tdL td b many lt m) b j
 |0,hj=>absurd hj (L4 j)
 |m+1,hj=>by
  by_cases e:j=m
  ·subst e;unfold tdP;rw[show tdL td b many lt (j+1)=dc (tdL td b many lt j) (((if(bI (tdL td b many lt j) ((b:Int),(j:Int))).getD false=true then(many:Int)else if lt=true then(b:Int)else(many:Int)),(j:Int))) true from rfl];rw[bx,bx]
   split
   ·exact .inl (ap rfl)
   split
   ·exact .inr (ap rfl)
   exact .inl (ap rfl)
  have:=GM (td:=td) (b:=b) (many:=many) (lt:=lt) (j:=j) m zo;unfold tdP at this ⊢;rw[show tdL td b many lt (m+1)=dc (tdL td b many lt m) (((if(bI (tdL td b many lt m) ((b:Int),(m:Int))).getD false=true then(many:Int)else if lt=true then(b:Int)else(many:Int)),(m:Int))) true from rfl];rw[bx,bx,am (sy zo),am (sy zo)];exact this
section
variable{κ ν:Type}[DecidableEq κ]
def tq(k:κ)(x:ν):∀(l:List (κ×ν)),(dc l k x).length<=l.length+1
 |[]=>L8 _
 |(a,y)::r=>by
  unfold dc
  split
  ·simp
  simp only[MH];exact Nat.succ_le_succ (tq k x r)
def tp(k:κ)(x:ν):∀(l:List (κ×ν)) (e:κ×ν),e∈dc l k x->e∈l\/e=(k,x)
 |[],e,h=>.inr (L2.1 h)
 |(a,y)::r,e,h=>by
  unfold dc at h
  split at h
  ·rcases M0.1 h with h|h
   ·exact .inr h
   exact .inl (Mi _ h)
  rcases M0.1 h with h|h
  ·exact .inl (by rw[h];exact MS ..)
  rcases tp k x r e h with h|h
  ·exact .inl (Mi _ h)
  exact .inr h
def Ae(k:κ):∀(l:List (κ×ν)) (e:κ×ν),e∈qq l k->e∈l
 |[],e,h=>h
 |(a,y)::r,e,h=>by
  unfold qq at h
  split at h
  ·exact Mi _ h
  rcases M0.1 h with h|h
  ·rw[h];exact MS ..
  exact Mi _ (Ae k r e h)
def Af(k:κ)(x:ν):∀(l:List (κ×ν)),(k,x)∈l->(qq l k).length+1=l.length
 |(a,y)::r,h=>by
  unfold qq
  split
  ·rfl
  rename_i hn
  rcases M0.1 h with h|h
  ·exact absurd (Ny h).1.symm hn
  simp only[MH];rw[Af k x r h]
def rG{k k':κ}(hne:k'≠k):∀(l:List (κ×ν)),bI (qq l k) k'=bI l k'
 |[]=>rfl
 |(a,y)::r=>by
  unfold qq
  split
  ·rename_i e;subst e;rw[show bI ((a,y)::r) k'=if a=k' then some y else bI r k' from rfl,am (λe=>hne e.symm)]
  rw[show bI ((a,y)::r) k'=if a=k' then some y else bI r k' from rfl,show bI ((a,y)::qq r k) k'=if a=k' then some y else bI (qq r k) k' from rfl,rG hne r]
end
def BN(td:List ((Int×Int)×Bool))(b many:Nat)(lt:Bool):∀m,(tdL td b many lt m).length<=td.length+m
 |0=>L8 _
 |m+1=>by
  have:=tq (((if(bI (tdL td b many lt m) ((b:Int),(m:Int))).getD false=true then(many:Int)else if lt=true then(b:Int)else(many:Int)),(m:Int))) true (tdL td b many lt m);have h2:=BN td b many lt m;unfold tdL;omega
def tdR(td:List ((Int×Int)×Bool))(many:Nat):Prop:=∀e∈td,∃c j:Nat,c<many/\j<37/\e.1=((c:Int),(j:Int))
def BL{td:List ((Int×Int)×Bool)}{b many:Nat}{lt:Bool}(h:tdR td many)(hb:b<many):∀m,m<=37->tdR (tdL td b many lt m) (many+1)
 |0,_=>λe he=>by
  obtain⟨c,j,h1,h2,h3⟩:=h e he;exact⟨c,j,zo,h2,h3⟩
 |m+1,hm=>λe he=>by
  unfold tdL at he
  rcases tp _ _ _ _ he with he|he
  ·exact BL h hb m zo e he
  rw[he]
  split
  ·exact⟨many,m,zo,zo,rfl⟩
  split
  ·exact⟨b,m,zo,zo,rfl⟩
  exact⟨many,m,zo,zo,rfl⟩
def tdR.del(h:tdR td many)(k:Int×Int):tdR (qq td k) many:=λe he=>h e (Ae k td e he)
def KeysE(E:List KVR)(many:Nat):Prop:=E.map (·.1)=(LY many).map fun(k:Nat)=>(k:Int)
def KeysE.len{E:List KVR}(h:KeysE E many):E.length=many:=by
 have:=congrArg PH h;simpa using this
def KeysE.mem{E:List KVR}(h:KeysE E many):(k:Int)∈E.map (·.1)↔k<many:=by
 rw[h,N0]
 constructor
 ·rintro⟨a,ha,e⟩;have:=M7.1 ha;omega
 intro hk;exact⟨k,M7.2 hk,rfl⟩
def KeysE.idx{E:List KVR}(h:KeysE E many)(hk:k<many):jA E (k:Int)=some k:=by
 rw[<-eL,h];refine Mj.2 ⟨by simpa using hk,by simp,λj hj=>?_⟩;simp;omega
def KeysE.idxN{E:List KVR}(h:KeysE E many)(hk:many<=k):jA E (k:Int)=none:=by
 rw[<-eL,h];refine MK.2 λx hx=>?_
 obtain⟨a,ha,rfl⟩:=N0.1 hx;have:=M7.1 ha;simp;omega
def KeysE.slot{E:List KVR}(h:KeysE E many)(hk:k<many):lZ E (k:Int)=k:=by
 unfold lZ;rw[h.idx hk];rfl
def KeysE.add{E:List KVR}(h:KeysE E many)(x:ix×List Nat):dc E (many:Int) x=E++[((many:Int),x)]:=by
 rw[eT,h.idxN (L8 _)]
def KeysE.put{E:List KVR}(h:KeysE E many)(hk:k<many)(x:ix×List Nat):dc E (k:Int) x=E.set k ((k:Int),x):=by
 rw[eT,h.idx hk]
def KeysE.more{E:List KVR}(h:KeysE E many)(x:ix×List Nat):KeysE (dc E (many:Int) x) (many+1):=by
 unfold KeysE;rw[lQ,am (λhm=>by have:=h.mem.1 hm;omega),h,MQ,Mq];rfl
def KeysE.same{E:List KVR}(h:KeysE E many)(hk:k<many)(x:ix×List Nat):KeysE (dc E (k:Int) x) many:=by
 unfold KeysE;rw[lQ,ap (h.mem.2 hk)];exact h
def yW(E:List KVR)(k:Int):lZ E k<=E.length:=by
 unfold lZ
 cases h:jA E k with
 |none=>exact L8 _
 |some j=>
  obtain⟨x,hx⟩:=iY h;exact Nat.le_of_lt (Ni.1 hx).1
def Kg{E:List KVR}{ov v':ix}(hb:b<many)(a0:bl.length=n)(a1:∀x,x∈dY E (b:Int)↔x<n/\nth bl x=b):
  Cut n bl (df bl many L) (λk=>dY E (k:Int)) (λk=>dY (dc (dc E (many:Int) (ov,L)) (b:Int) (v',ie (λx=>nth (df bl many L) x==many) (dY E (b:Int)))) (k:Int)) many b L:=by
 refine⟨by rw[jo many L bl,a0],λx hx=>mz many L bl x zo,?_,?_,λc h1 h2=>?_⟩
 ·rw[eF,am zo,eF,ap rfl]
 ·rw[eF,ap rfl];unfold ie;refine Pn λx hx=>?_
  obtain⟨h1,h2⟩:=(a1 x).1 hx;show(!(nth (df bl many L) x==many)) = !(L.contains x);rw[mz many L bl x zo]
  by_cases hL:x∈L
  ·rw[ap hL];simp[hL]
  rw[am hL,h2];simp[hL];omega
 rw[eF,am zo,eF,am zo]
end Go.Proofs.YteolbhblkgjbhaaGreatDoor
section
namespace Go.VL
open Go.Proofs
def reF(f:Nat->Nat)(O:Nat->Nat):Nat->Nat:=λb=>f (O b)
def Upd.re{S:Nat->Prop}(h:M5 S O w O' w')(f:Nat->Nat)(f0:f 0=0)(hf:∀b,O b≠0->f (O b)=O b):M5 S O w (reF f O') w':=
 ⟨h.os,h.tape,h.output,h.size,h.blk,λb hb=>by unfold reF;rw[h.tag b hb];exact hf b hb,λb hb=>h.new b λe=>hb (by unfold reF;rw[e];exact f0),h.z⟩
def Rng.re(h:Nn B O w)(f:Nat->Nat)(f0:f 0=0):Nn B (reF f O) w:=⟨h.le,λb hb=>h.rng b λe=>hb (by unfold reF;rw[e];exact f0)⟩
def RowT.re{l:List α}(h:My enc E sz O w i v l)(f:Nat->Nat)(hj:f i=j):My enc E sz (reF f O) w j v l:=
 ⟨⟨h.1.row,λg hg=>by unfold reF;rw[h.1.tag g hg];exact hj⟩,h.2⟩
def BlkO.re{cs:Array ix}(h:MZ O w i b cs E)(f:Nat->Nat)(hj:f i=j):MZ (reF f O) w j b cs E:=⟨h.blk,by unfold reF;rw[h.tag];exact hj⟩
def MapO.re{kv:κ->ix}{vv:ν->ix}{l:List (κ×ν)}(h:MW kv vv O w i r l)(f:Nat->Nat)(hj:f i=j):MW kv vv (reF f O) w j r l:=⟨h.blk,by unfold reF;rw[h.tag];exact hj,h.born⟩
def RangeO.re{kv:κ->ix}{vv:ν->ix}{q:Nat}{left:List (κ×ν)}{a0:Option (κ×ν)}(h:Qb kv vv O w i j r q left a0)(f:Nat->Nat){i' j':Nat}(hi:f i=i')(hj:f j=j'):Qb kv vv (reF f O) w i' j' r q left a0:=
 ⟨h.ex,by unfold reF;rw[h.tag];exact hi,by unfold reF;rw[h.tagq];exact hj⟩
def MapO.lowT{kv:κ->ix}{vv:ν->ix}{l:List (κ×ν)}(h:MW kv vv O w i r l){T:Nat}(hi:i<T):MW kv vv (PJ O T) w i r l:=⟨h.blk,by unfold PJ;rw[h.tag,am zo],h.born⟩
def IN(a b:Nat):Nat->Nat:=λt=>if t=a then b else t
def Cx(a b:Nat):IN a b a=b:=ap rfl
def sF(h:t≠a):IN a b t=t:=am h
end Go.VL
namespace Go.Proofs.YteolbhblkgjbhaaGreatDoor
open Go.VL Go.Proofs
set_option maxRecDepth 10000
def FromO.re{O:Nat->Nat}{w:ln}{i:Nat}{fv:ix}{n:Nat}{nx:Nat->Nat->Nat}(h:FromO O w i fv n nx)(f:Nat->Nat){j:Nat}(hj:f i=j):FromO (reF f O) w j fv n nx:=by
 obtain⟨ms,a0,h1,h2,h3⟩:=h.ex;exact⟨ms,a0,h1.re f hj,h2,λm hm=>⟨(h3 m hm).1.re f hj,(h3 m hm).2.1,λt ht=>((h3 m hm).2.2 t ht).re f hj⟩⟩
def SpO.cut{S:Nat->Prop}{nv tv fv bv:ix}{nx:Nat->Nat->Nat}{E:List KVR}{a0:List ((Int×Int)×Bool)}{tg:Nat}{ov v':ix}{L':List Nat} 
  (h:SpO O w sb nv tv fv bv sr tr n nx bl E td many) (hk:KeysE E many) (hb:b<many) (a7:10+many<=tg) (a5:My bp 3 1 O w tg ov L)
  (u:M5 S O w O' w') (hS:∀q,S q->1<=q/\q<=4\/q=10+b)
  (h1:MZ O' w' 1 sb #[nv,tv,fv,bv,.map (some sr),.map (some tr),nI ((many+1:Nat):Int)] 327) (h2:My bp 3 1 O' w' 2 bv a4)
  (h3:MW (λk:Int=>nI k) (λv:ix=>v) O' w' 3 sr (dc (dc (E.map vq) (many:Nat) ov) (b:Nat) v')) (h4:My bp 3 1 O' w' (10+b) v' L') (h5:MW eJ Mg O' w' 4 tr a0) :
  SpO (reF (IN tg (10+many)) O') w' sb nv tv fv bv sr tr n nx a4 (dc (dc E (many:Int) (ov,L)) (b:Int) (v',L')) a0 (many+1):=by
 have n1:∀ {t:Nat},t<10+many->IN tg (10+many) t=t:=λh=>sF zo
 have a6:=hk.len;have a2:=hk.more (ov,L);have a1:=a2.len;refine⟨h1.re _ (n1 zo),h2.re _ (n1 zo),⟨?_,λk a3=>?_⟩,h5.re _ (n1 zo),(h.frm.U u zd (λhs=>by rcases hS _ hs with h|h<;>omega)).re _ (n1 zo)⟩
 ·rw[yw,yw];exact h3.re _ (n1 zo)
 rw[a2.put zo]at a3 ⊢;rw[Mf]at a3;rw[bf zo]
 by_cases e1:k=b
 ·rw[ap e1];subst e1;exact h4.re _ (n1 zo)
 rw[am e1,hk.add,aC]
 by_cases e2:k<E.length
 ·rw[ap e2];exact((h.st.row k e2).U u zo (λhs=>by rcases hS _ hs with h|h<;>omega)).re _ (n1 zo)
 rw[am e2,show k-E.length=0 from by omega,ar];obtain rfl:k=many:=zo;exact(a5.U u zo (λhs=>by rcases hS _ hs with h|h<;>omega)).re _ (Cx _ _)
end Go.Proofs.YteolbhblkgjbhaaGreatDoor
end
namespace Go.Proofs.YteolbhblkgjbhaaGreatDoor
def yc(B:Nat)(O:Nat->Nat)(w:ln)(sb:Nat)(nv tv fv bv:ix)(sr tr n:Nat)(nx:Nat->Nat->Nat)(bl:List Nat)(E:List KVR)(td:List ((Int×Int)×Bool))(many b tg:Nat)(ov:ix)(L:List Nat)(hR:Nn B O w)(hS:SpO O w sb nv tv fv bv sr tr n nx bl E td many) 
  (i4:My bp 3 1 O w tg ov L) (hk:KeysE E many) (j7:10+many<=tg) (hL:∀x∈L,x<bl.length) (g6:many<=1000) (i8:b<many) (g8:∀x∈dY E (b:Nat),x<bl.length) :
  Np Mk 238 [nP sb,nI (b:Nat),ov] w λ_ w'=>
   ∃v' O',M5 (λq=>1<=q/\q<=4\/q=10+b) O w O' w'/\Nn B O' w'/\MZ O' w' 1 sb #[nv,tv,fv,bv,.map (some sr),.map (some tr),nI ((many+1:Nat):Int)] 327/\
    My bp 3 1 O' w' 2 bv (df bl many L)/\MW (λk:Int=>nI k) (λv:ix=>v) O' w' 3 sr (dc (dc (E.map vq) (many:Nat) ov) (b:Nat) v')/\
    My bp 3 1 O' w' (10+b) v' (ie (λx=>nth (df bl many L) x==many) (dY E (b:Nat)))/\MW eJ Mg O' w' 4 tr (tdL td b many (decide ((ie (λx=>nth (df bl many L) x==many) (dY E (b:Nat))).length<L.length)) 37):=by
 have h5:=hk.len;obtain⟨T0,i',g1⟩:=hR.bound;obtain⟨T,j9⟩:∃T,T=T0+10+tg:=⟨_,rfl⟩
 have hT:∀b,O b<T:=λb=>by have:=g1 b;omega
 have d1:=hS.st.at (b:Int);rw[hk.slot i8]at d1;apply L6 func238 ntmps238 rfl rfl;refine zh ?_;apply aQ hR T zo rfl rfl;intro xb w1 O1 d' d6 j6 k1;have h3:=hS.U d6 zo;have x1:=d'.cell 0 rfl;have c1:w1.cell? (nA sb 6)=some (nI (many:Nat)):=h3.blk.cell 6 rfl;refine zh ?_;apply aw j6 (T+1) zo (Mo _) rfl;intro yb w2 O2 d8 b9 j5 k0;have x2:w2.cell? ⟨xb,0,none⟩=some (nP sb):=(d'.U b9 zo zo).cell 0 rfl;apply ao (j:=0) d8 rfl (LX _) rfl rfl rfl rfl;have b8:M5 (λj=>j=T+1) O2 w2 O2 (w2.setCell ⟨yb,0,none⟩ (nI (many:Nat))):=MB zo d8.tag rfl;have h':MZ O2 (w2.setCell ⟨yb,0,none⟩ (nI (many:Nat))) (T+1) yb #[nI (many:Nat)] 3:=d8.set 0 _;have g5:=(d'.U b9 zo zo).U b8 zo zo;have b6:=(h3.U b9 zo).U b8 zo;have g0:M5 (λq=>(1<=q/\q<=4\/q=10+b)\/T<=q) O w O2 (w2.setCell ⟨yb,0,none⟩ (nI (many:Nat))):=((d6.mono (λ_ h=>.inr zo) zo).J (b9.mono (λ_ h=>.inr zo) zo)).J (b8.mono (λ_ h=>.inr zo) zo);generalize w2.setCell ⟨yb,0,none⟩ (nI (many:Nat))=w3 at *;have x3:w3.cell? ⟨xb,0,none⟩=some (nP sb):=g5.cell 0 rfl;have c3:w3.cell? (nA sb 6)=some (nI (many:Nat)):=b6.blk.cell 6 rfl;refine zh ?_;apply ao (j:=6) b6.blk rfl (LX _) rfl rfl rfl rfl
 have a':M5 (λj=>j=1) O2 w3 O2 (w3.setCell ⟨sb,6,none⟩ (nI ((many:Int)+1))):=MB zd b6.blk.tag rfl;have h0:MZ O2 (w3.setCell ⟨sb,6,none⟩ (nI ((many:Int)+1))) 1 sb #[nv,tv,fv,bv,.map (some sr),.map (some tr),nI ((many:Int)+1)] 327:=b6.blk.set 6 _;have g4:=g5.U a' zo zo;have g2:=h'.U a' zo zo;have a9:=(((i4.U d6 zo zo).U b9 zo zo).U b8 zo zo).U a' zo zo;generalize w3.setCell ⟨sb,6,none⟩ (nI ((many:Int)+1))=w4 at *;have j':=a9.sl.len_le;have j8:=a9.sl;refine zh ?_;apply zlp (λz:Nat×ln=>[(1,nI (b:Nat)),(2,ov),(3,nP xb),(6,nP yb),(22,ov),(23,nI L.length),(24,nI z.1)]) (λz=>z.2) (λz=>z.1<=L.length/\M5 (λq=>q=2) O2 w4 O2 z.2/\My bp 3 1 O2 z.2 2 bv (df bl many (L.take z.1))) (λz=>L.length-z.1) (0,w4) ⟨L3 _,N6 zd _ _,b6.row.U a' zd zo⟩;rintro⟨j,w5⟩ ⟨hj,b0,a1⟩;dsimp only at hj b0 a1 ⊢;have g':=h0.U b0 zo zo;have x5:w5.cell? ⟨xb,0,none⟩=some (nP sb):=(g4.U b0 zo zo).cell 0 rfl;have y5:w5.cell? ⟨yb,0,none⟩=some (nI (many:Nat)):=(g2.U b0 zo zo).cell 0 rfl;refine zh ?_;refine zC ?_ ?_
 ·intro a6;replace a6:j<L.length:=dT a6;have i2:=(a9.U b0 zo zo).sl;have m1:w5.cell? (adr ov 1 j)=some (nI ((nth L j:Nat):Int)):=by have:=i2.cell (i:=j) (j:=0) a6 rfl;rwa[ax]at this
  have c5:w5.cell? (nA sb 3)=some bv:=g'.cell 3 rfl;obtain⟨i,hi⟩:∃i,i=nth L j:=⟨_,rfl⟩
  have g7:i<(df bl many (L.take j)).length:=by rw[jo,hi];exact hL _ (aZ a6)
  rw[<-hi]at m1;refine zh ?_;apply P4 7 rfl rfl zk zk;refine zh ?_;apply zw (aj a1.sl.sh L0 (LX _) rfl rfl i rfl g7);apply PD;apply N4 a1.drew i g7 many (LX _) rfl zd rfl rfl rfl rfl;intro w6 a0 d5;refine zh ?_;refine zxd (j+1,w6) ⟨a6,b0.drew.J d5,by dsimp only;rw[xH a6,<-hi];exact a0⟩
 intro i7;obtain rfl:j=L.length:=dF i7;rw[M6]at a1;have c5:w5.cell? (nA sb 4)=some (.map (some sr)):=g'.cell 4 rfl;have b2:=(b6.st.map.U a' zd zo).U b0 zd zd;refine zh ?_;apply P4 6 rfl rfl zk zk;refine zh ?_;apply PD;apply Mt (O:=O2) (i:=3) (⟨b2.blk,b2.tag,b2.born⟩:MW (λk:Int=>nI k) (λv:ix=>v) O2 w5.drew 3 sr (E.map vq)) Mh qT zd (many:Int) ov rfl rfl rfl rfl rfl;intro w6 a8 f7;have d5:M5 (λq=>q=3) O2 w5 O2 w6:=f7.ofDrew;have a3:M5 (λq=>q=2\/q=3) O2 w4 O2 w6:=(b0.mono (λ_ h=>.inl h) zd).J (d5.mono (λ_ h=>.inr h) zd);have d2:=g4.U a3 zo zo;have d7:=g2.U a3 zo zo;have d3:=h0.U a3 zo zo;have a0:=a1.U d5 zd zd;have h4:=((j5.U b8).U a').U a3;have x6:w6.cell? ⟨xb,0,none⟩=some (nP sb):=d2.cell 0 rfl;have y6:w6.cell? ⟨yb,0,none⟩=some (nI (many:Nat)):=d7.cell 0 rfl;have c6:w6.cell? (nA sb 4)=some (.map (some sr)):=d3.cell 4 rfl;have b5:=jo many L bl;obtain⟨b7,i9⟩:∃b7,b7=df bl many L:=⟨_,rfl⟩
 rw[<-i9]at a0 b5 ⊢;refine zh ?_;apply aO (λW=>W.cell? ⟨xb,0,none⟩=some (nP sb)/\W.cell? (nA sb 4)=some (.map (some sr))) 14 rfl zk;refine zin ⟨x6,c6⟩ λzS=>?_
 apply zt 0 rfl zS (λw1 b1=>RV.ld b1.1 rfl);apply zr 1 rfl zS (λ_=>aq rfl)
 apply zrf 2 rfl zS rfl;apply zt 3 rfl zS (λw1 b1=>RV.ld b1.2 rfl)
 apply zrm 4 rfl zS rfl;apply zt 5 rfl zS (λw1 b1=>RV.ld b1.1 rfl)
 apply zr 6 rfl zS (λ_=>aq rfl);apply zrf 7 rfl zS rfl
 apply zt 8 rfl zS (λw1 b1=>RV.ld b1.2 rfl);apply zrm 9 rfl zS rfl
 apply zr 11 rfl zS (λ_=>eo rfl rfl);apply LZ 10 zk rfl
 refine zvH (Mu (O:=O2) (i:=3) (⟨a8.blk,a8.tag,a8.born⟩:MW (λk:Int=>nI k) (λv:ix=>v) O2 w6.drew 3 sr (dc (E.map vq) (many:Int) ov)) Mh qT (Nc _) (b:Int) rfl rfl rfl ((congrArg (Je (λv:ix=>v) nS) ((bx (E.map vq) (many:Int) (b:Int) ov).J (am zo))).J (mP E _))) ?_;apply af ⟨x6,c6⟩
 apply LZ 12 zk rfl;apply zc call257 (qn call258 #[nP xb,nP yb] B O2 w6.drew (10+b) (D3 E (b:Nat)) (dY E (b:Nat)) (λx=>nth b7 x==many) zo h4.drew (((((d1.U d6 zo zo).U b9 zo zo).U b8 zo zo).U a' zo zo).U a3 zo zo).drew (λx hx O' W u=>vj W xb yb sb x (nth b7 x) many b7.length bv a0.sl.sh (by rw[b5];exact g8 x hx) ((d2.drew.U u zo zo).cell 0 rfl) ((d3.drew.U u zo zo).cell 3 rfl) (by have:=(a0.drew.U u zd zo).sl.cell (i:=x) (j:=0) (by rw[b5];exact g8 x hx) rfl;rwa[ax]at this) ((d7.drew.U u zo zo).cell 0 rfl)))
 rintro v7 w7 ⟨b4,f6⟩;have d4:M5 (λq=>q=10+b) O2 w6 O2 w7:=f6.ofDrew;have x7:w7.cell? ⟨xb,0,none⟩=some (nP sb):=(d2.U d4 zo zo).cell 0 rfl;have c7:w7.cell? (nA sb 4)=some (.map (some sr)):=(d3.U d4 zo zo).cell 4 rfl;refine zh ?_;apply af ⟨x7,c7⟩;apply LZ 13 zk rfl;apply Mt (a8.U d4 zd zo) Mh qT zd (b:Int) v7 rfl rfl rfl rfl rfl;intro w8 e3 h2;have a2:M5 (λq=>q=10+b\/q=3) O2 w6 O2 w8:=(d4.mono (λ_ h=>.inl h) zo).J (h2.mono (λ_ h=>.inr h) zo);have g3:=d2.U a2 zo zo;have g9:=d3.U a2 zo zo;have a4:=b4.U h2 zo zo;refine zh ?_;apply af ⟨g3.cell 0 rfl,g9.cell 4 rfl⟩;obtain⟨lt,a6⟩:∃lt,lt=decide ((ie (λx=>nth b7 x==many) (dY E (b:Nat))).length<L.length):=⟨_,rfl⟩
 rw[<-a6];obtain⟨kp,i5⟩:∃kp,kp=ie (λx=>nth b7 x==many) (dY E (b:Nat)):=⟨_,rfl⟩
 rw[<-i5]at a4 a6 ⊢;apply MF zk;refine zh ?_;apply zlp (λz:Nat×ln=>[(1,nI (b:Nat)),(2,ov),(3,nP xb),(6,nP yb),(55,nI z.1)]) (λz=>z.2) (λz=>z.1<=37/\M5 (λq=>q=4) O2 w8 O2 z.2/\MW eJ Mg O2 z.2 4 tr (tdL td b many lt z.1)) (λz=>37-z.1) (0,w8) ⟨L3 _,N6 zd _ _,((b6.todo.U a' zd zo).U a3 zd zd).U a2 zd zo⟩;rintro⟨m,w9⟩ ⟨hm,a5,a7⟩;dsimp only at hm a5 a7 ⊢;have i3:=(((a9.U a3 zo zo).U a2 zo zo).U a5 zo zo).sl;have f5:=g9.U a5 zo zo;have c8:=e3.U a5 zd zo;refine zh ?_;refine zC ?_ ?_
 ·intro f4;replace f4:m<37:=dT f4;have x9:w9.cell? ⟨xb,0,none⟩=some (nP sb):=(g3.U a5 zo zo).cell 0 rfl;have y9:w9.cell? ⟨yb,0,none⟩=some (nI (many:Nat)):=((d7.U a2 zo zo).U a5 zo zo).cell 0 rfl;have c9:w9.cell? (nA sb 4)=some (.map (some sr)):=f5.cell 4 rfl;have d9:w9.cell? (nA sb 5)=some (.map (some tr)):=f5.cell 5 rfl;refine zh ?_;apply zv (Mu c8 Mh qT (Nc _) (b:Int) rfl rfl rfl (congrArg (Je (λv:ix=>v) nS) ((bx _ (b:Int) (b:Int) v7).J (ap rfl))));refine zvH (bH ((a4.U a5 zo zo).sl).sh L0 rfl) ?_;refine ia (λz:Int=>[(1,nI (b:Nat)),(2,ov),(3,nP xb),(6,nP yb),(55,nI (m:Nat)),(9,nI (m:Nat)),(10,nI z)]) (λz:Int=>w9) (λz:Int=>z=if lt=true then(b:Int)else(many:Int)) ?_ ?_
  ·intro Qm hN;refine zC ?_ ?_
   ·intro h1;refine zh ?_;exact dA (hN ((b:Int)) (by rw[ap (by rw[a6];have:=of_decide_eq_true h1;exact decide_eq_true zo)])) ⟨rfl,rfl,rfl,rfl,rfl,rfl,rfl,trivial⟩ rfl
   intro h1;refine zh ?_;exact dA (hN ((many:Int)) (by rw[am (by rw[a6];have:=of_decide_eq_false h1;simp;omega)])) ⟨rfl,rfl,rfl,rfl,rfl,rfl,rfl,trivial⟩ rfl
  rintro z hz;refine zh ?_;apply zv (fo MX (LX _) (MO _) rfl rfl);refine zvH (Mu a7 Nq Kz (zeroValue4 _) ((b:Int),(m:Int)) rfl rfl rfl (DK _ _)) ?_;refine ia (λy:Int=>[(1,nI (b:Nat)),(2,ov),(3,nP xb),(6,nP yb),(55,nI (m:Nat)),(9,nI (m:Nat)),(10,nI y)]) (λy:Int=>w9) (λy:Int=>y=if(bI (tdL td b many lt m) ((b:Int),(m:Int))).getD false=true then(many:Int)else z) ?_ ?_
  ·intro Qm hN;refine zC ?_ ?_
   ·intro h1;refine zh ?_;exact dA (hN ((many:Int)) (by rw[ap h1])) ⟨rfl,rfl,rfl,rfl,rfl,rfl,rfl,trivial⟩ rfl
   intro h1;refine zh ?_;exact dA (hN z (by rw[am (by rw[h1];decide)])) ⟨rfl,rfl,rfl,rfl,rfl,rfl,rfl,trivial⟩ rfl
  rintro y hy;refine zh ?_;apply zv (fo MX (LX _) (MO _) rfl rfl);apply Mt a7 Nq Kz zd (y,(m:Int)) true rfl rfl rfl rfl rfl;intro h6 b' f8;refine zh ?_;refine zxd (m+1,h6) ⟨f4,a5.J f8,by dsimp only;unfold tdL;rw[<-hz,<-hy];exact b'⟩
 intro i6;obtain rfl:m=37:=dF i6;refine zh ?_;refine aK rfl ⟨v7,lowT O2 T,((((g0.J (a'.mono (λ_ h=>.inl (.inl zo)) zo)).J (a3.mono (S':=λq=>(1<=q/\q<=4\/q=10+b)\/T<=q) (λ_ h=>.inl zo) zo)).J (a2.mono (λ_ h=>.inl zo) zo)).J (a5.mono (λ_ h=>.inl zo) zo)).lowT hT (λb h=>by have:=hT b;omega) zo,((h4.U a2).U a5).lowT T,f5.lowT zo,((a0.U a2 zd zo).U a5 zd zd).lowT zo,c8.lowT zo,(a4.U a5 zo zo).lowT zo,a7.lowT zo⟩
structure FI(tl:Nat->Nat)(n i:Nat)(D:List (Int×Int))(bl:List Nat)(E:List KVR)(many:Nat):Prop where
 blen:bl.length=n
 val:∀j,j<i->bI D ((tl j:Nat):Int)=some ((nth bl j:Nat):Int)
 inj:∀u u' b,bI D u=some b->bI D u'=some b->u=u'
 rng:∀u b,bI D u=some b->∃k:Nat,b=(k:Int)/\k<many
 keys:KeysE E many
 row:∀k:Nat,dY E (k:Int)=(LY i).filter λx=>nth bl x==k
 ne:∀k,k<many->dY E (k:Int)≠[]
 mi:many<=i
def GI(tl:Nat->Nat)(n:Nat):FI tl n 0 [] (L1 n 0) [] 0:=
 ⟨by simp,λj hj=>absurd hj (L4 j),λu u' b h=>absurd h (by simp[bI]),λu b h=>absurd h (by simp[bI]),rfl,λk=>rfl,λk hk=>absurd hk (L4 k),L8 _⟩
def FI.rowsN{E:List KVR}(h:FI tl n i D bl E many)(k:Nat):(dY E (k:Int)).length<=i:=by
 rw[h.row];exact P2 (Nu _ _) (by simp)
def rj(hi:i<bl.length):(LY (i+1)).filter (λx=>nth (bl.set i b) x==k)=(LY i).filter (λx=>nth bl x==k)++if b=k then [i]else []:=by
 rw[MQ,MU];have h1:(LY i).filter (λx=>nth (bl.set i b) x==k)=(LY i).filter (λx=>nth bl x==k):=Pn λx hx=>by
  have:=M7.1 hx;rw[bf hi,am zo]
 rw[h1];congr 1;rw[NF,bf hi,ap rfl]
 by_cases e:b=k
 ·subst e;simp
 rw[am e,am (by simpa using e)];rfl
def FI.old{E:List KVR}(h:FI tl n i D bl E many)(hi:i<n){b:Int}(hb:bI D ((tl i:Nat):Int)=some b)(v:ix):
  ∃k:Nat,b=(k:Int)/\k<many/\FI tl n (i+1) D (bl.set i k) (dc E (k:Int) (v,dY E (k:Int)++[i])) many:=by
 obtain⟨k,rfl,hk⟩:=h.rng _ _ hb;have a0:=h.blen;refine⟨k,rfl,hk,by rw[Mf];exact a0,λj hj=>?_,h.inj,h.rng,h.keys.same hk _,λc=>?_,λc hc=>?_,by have:=h.mi;omega⟩
 ·rw[bf zo]
  by_cases e:j=i
  ·rw[ap e,e];exact hb
  rw[am e];exact h.val j zo
 ·rw[eF,rj zo]
  by_cases e:k=c
  ·subst e;rw[ap rfl,ap rfl,h.row]
  rw[am zo,am e,Mr,h.row]
 rw[eF]
 split
 ·simp
 exact h.ne c hc
def FI.new{E:List KVR}(h:FI tl n i D bl E many)(hi:i<n)(hb:bI D ((tl i:Nat):Int)=none)(v:ix):
  FI tl n (i+1) (dc D ((tl i:Nat):Int) (many:Int)) (bl.set i many) (dc E (many:Int) (v,dY E (many:Int)++[i])) (many+1):=by
 have a1:=h.blen;have a0:∀u b,bI D u=some b->b<many:=λu b hu=>by
  obtain⟨k,rfl,hk⟩:=h.rng u b hu;omega
 refine⟨by rw[Mf];exact a1,λj hj=>?_,λu u' b h1 h2=>?_,λu b h1=>?_,h.keys.more _,λc=>?_,λc hc=>?_,by have:=h.mi;omega⟩
 ·rw[bx,bf zo]
  by_cases e:j=i
  ·rw[ap (by rw[e]),ap e]
  rw[am e];have:=h.val j zo;rw[am (λe2=>by rw[<-e2,hb]at this;cases this)];exact this
 ·rw[bx]at h1 h2
  split at h1
  ·split at h2
   ·rename_i e1 e2;rw[<-e1,<-e2]
   cases h1
   have:=a0 _ _ h2;omega
  split at h2
  ·cases h2
   have:=a0 _ _ h1;omega
  exact h.inj u u' b h1 h2
 ·rw[bx]at h1
  split at h1
  ·cases h1;exact⟨many,rfl,zo⟩
  obtain⟨k,e,hk⟩:=h.rng u b h1;exact⟨k,e,zo⟩
 ·rw[eF,rj zo]
  by_cases e:many=c
  ·subst e;rw[ap rfl,ap rfl,h.row]
  rw[am zo,am e,Mr,h.row]
 rw[eF]
 split
 ·simp
 exact h.ne c zo
def FI.blk{E:List KVR}(h:FI tl n n D bl E many)(nx:Nat->Nat->Nat):Blk nx tl n bl (λk=>dY E (k:Int)) many:=by
 refine⟨h.blen,λi hi=>?_,λb _ x=>?_,λb _=>?_,λb hb=>h.ne b hb,λp q hp hq e=>?_,λp q hp hq ha=>?_⟩
 ·obtain⟨k,e,hk⟩:=h.rng _ _ (h.val i hi);omega
 ·rw[h.row,MC,M7];simp
 ·rw[h.row];exact No.sublist MN
 ·have:=h.inj _ _ _ (h.val p hp) (by rw[e];exact h.val q hq);omega
 have e:tl p=tl q:=ha [] λm hm=>absurd hm (by simp)
 have h1:=h.val p hp;rw[e,h.val q hq]at h1;have:=PU h1;omega
structure TdI(td:List ((Int×Int)×Bool))(many b m:Nat):Prop where
 rng:tdR td many
 all:∀c j,c<b\/c=b/\j<m->j<37->tdP td c j
 len:td.length<=b*37+m
def DU(many:Nat):TdI [] many 0 0:=⟨λe he=>absurd he (by simp),λc j h _=>zo,L8 _⟩
def TdI.put(h:TdI td many b m)(hb:b<many)(hm:m<37):TdI (dc td ((b:Int),(m:Int)) true) many b (m+1):=by
 refine⟨λe he=>?_,λc j hc hj=>?_,?_⟩
 ·rcases tp _ _ _ _ he with he|he
  ·exact h.rng e he
  exact⟨b,m,hb,hm,by rw[he]⟩
 ·unfold tdP;rw[bx]
  split
  ·rfl
  rename_i hne;refine h.all c j ?_ hj
  rcases hc with hc|⟨rfl,hc⟩
  ·exact .inl hc
  exact .inr ⟨rfl,by
   have:¬j=m:=λe=>hne (by rw[e])
   omega⟩
 have:=tq ((b:Int),(m:Int)) true td;have:=h.len;omega
def TdI.next(h:TdI td many b 37):TdI td many (b+1) 0:=⟨h.rng,λc j hc hj=>h.all c j zo hj,by have:=h.len;omega⟩
structure BO(nx:Nat->Nat->Nat)(tl:Nat->Nat)(n:Nat)(bl:List Nat)(E:List KVR)(td:List ((Int×Int)×Bool))(many:Nat):Prop where
 blk:Blk nx tl n bl (λk=>dY E (k:Int)) many
 keys:KeysE E many
 tdr:tdR td many
 todo:Todo nx n bl (tdP td)
structure BI(nx:Nat->Nat->Nat)(tl:Nat->Nat)(n:Nat)(bl0:List Nat)(m0 b0 many0:Nat)(left:List (Int×ix))(bl:List Nat)(E:List KVR)(td:List ((Int×Int)×Bool))(many:Nat):Prop where
 blk:Blk nx tl n bl (λk=>dY E (k:Int)) many
 keys:KeysE E many
 tdr:tdR td many
 le:many0<=many
 pend:Pend nx n bl (tdP td) m0 (λp=>nth bl0 (nx p m0)=b0) (λb=>(b:Int)∈left.map (·.1))
 same:∀k:Nat,(k:Int)∈left.map (·.1)->k<many0/\∀x,x<n->(nth bl x=k↔nth bl0 x=k)
 nd:(left.map (·.1)).Nodup
def BO.take{nx:Nat->Nat->Nat}{tl:Nat->Nat}{n:Nat}{bl:List Nat}{E:List KVR}{td:List ((Int×Int)×Bool)}{many:Nat}(h:BO nx tl n bl E td many)(b0 m0:Nat)(_:m0<37)(_:∀p m,p<n->m<37->nx p m<n)(left:List (Int×ix)) 
  (hl:∀k,k∈left.map (·.1)↔∃i,i<n/\nth bl (nx i m0)=b0/\((nth bl i:Nat):Int)=k) (hn:(left.map (·.1)).Nodup):BI nx tl n bl m0 b0 many left bl E (qq td ((b0:Int),(m0:Int))) many:=by
 refine⟨h.blk,h.keys,h.tdr.del _,L8 _,?_,fun k hk=>?_,hn⟩
 ·refine h.todo.take b0 m0 (fun b m hb=>?_) _ fun p hp e=>(hl _).2 ⟨p,hp,e,rfl⟩
  by_cases e:b=b0/\m=m0
  ·exact .inr e
  refine .inl ?_;unfold tdP;rw[rG (fun e2=>e ?_)]
  ·exact hb
  have:=Ny e2;omega
 obtain⟨i,hi,_,e⟩:=(hl _).1 hk;have:=h.blk.lt i hi;exact⟨zo,fun x _=>Iff.rfl⟩
def sI{a1 a0:List (Int×ix)}{k:Int}(hn:((a1++(k,v)::a0).map (·.1)).Nodup):((a1++a0).map (·.1)).Nodup/\k∉(a1++a0).map (·.1)/\∀b,b∈(a1++(k,v)::a0).map (·.1)->b=k\/b∈(a1++a0).map (·.1):=by
 simp only[Mq,Mb]at hn ⊢;have hp:=(List.perm_middle (a:=k) (l₁:=a1.map (·.1)) (l₂:=a0.map (·.1)))
 obtain⟨h3,h4⟩:=Nr.1 (hp.nodup_iff.1 hn);exact⟨h4,h3,λb hb=>M0.1 (hp.mem_iff.1 hb)⟩
section
variable{nx:Nat→Nat→Nat}{tl:Nat→Nat}{n:Nat}{bl0:List Nat}{m0 b0 many0:Nat}{pre suf:List (Int×ix)}{k:Nat}{v:ix}{bl:List Nat}{E:List KVR}{td:List ((Int×Int)×Bool)}{many:Nat}{L:List Nat}
def BI.here(h:BI nx tl n bl0 m0 b0 many0 (pre++((k:Int),v)::suf) bl E td many)(hL:∀x,x∈L↔x<n/\nth bl0 x=k/\nth bl0 (nx x m0)=b0):k<many/\∀x,x∈L↔x<n/\nth bl x=k/\nth bl0 (nx x m0)=b0:=by
 obtain⟨h1,h2⟩:=h.same k (by simp);refine⟨by have:=h.le;omega,λx=>?_⟩;rw[hL]
 constructor
 ·rintro⟨a,b,c⟩;exact⟨a,(h2 x a).2 b,c⟩
 rintro⟨a,b,c⟩;exact⟨a,(h2 x a).1 b,c⟩
def BI.skip(h:BI nx tl n bl0 m0 b0 many0 (pre++((k:Int),v)::suf) bl E td many)(hL:∀x,x∈L↔x<n/\nth bl0 x=k/\nth bl0 (nx x m0)=b0)(a4:L.Nodup)(a5:(dY E (k:Int)).length<=L.length):BI nx tl n bl0 m0 b0 many0 (pre++suf) bl E td many:=by
 obtain⟨hk,a1⟩:=h.here hL;obtain⟨r1,r2,r3⟩:=sI h.nd;refine⟨h.blk,h.keys,h.tdr,h.le,?_,λc hc=>h.same c ?_,r1⟩
 ·refine h.pend.whole (k:=k) (λp hp e=>?_) λb hb=>?_
  ·refine Mc λhn=>?_
   have a2:=λhx=>hn ((a1 p).1 hx).2.2
   have a0:(p::L) ⊆ dY E (k:Int):=λx hx=>by
    rcases M0.1 hx with rfl|hx
    ·exact(h.blk.mem k hk _).2 ⟨hp,e⟩
    exact(h.blk.mem k hk x).2 ⟨((a1 x).1 hx).1,((a1 x).1 hx).2.1⟩
   have:=(Nr.2 ⟨a2,a4⟩).length_le_of_subset a0;simp only[MH]at this;omega
  rcases r3 _ hb with h1|h1
  ·exact .inl zo
  exact .inr h1
 simp only[Mq,Mb,Ma,M0]at hc ⊢
 rcases hc with hc|hc
 ·exact .inl hc
 exact .inr (.inr hc)
def BI.cut(h:BI nx tl n bl0 m0 b0 many0 (pre++((k:Int),v)::suf) bl E td many)(a3:∀p m,p<n->m<37->nx p m<n)(h0:∀p q,p<n->q<n->Alike nx tl p q->nth bl0 p=nth bl0 q)(a4:m0<37) 
  (hL:∀x,x∈L↔x<n/\nth bl0 x=k/\nth bl0 (nx x m0)=b0) (a8:L.Nodup) (a6:L≠[]) (a7:L.length<(dY E (k:Int)).length) (ov v':ix) (lt:Bool) :
  BI nx tl n bl0 m0 b0 many0 (pre++suf) (df bl many L) (dc (dc E (many:Int) (ov,L)) (k:Int) (v',ie (λx=>nth (df bl many L) x==many) (dY E (k:Int)))) (tdL td k many lt 37) (many+1):=by
 obtain⟨hk,a1⟩:=h.here hL;obtain⟨r1,r2,r3⟩:=sI h.nd;have hc:=Kg (L:=L) (ov:=ov) (v':=v') hk h.blk.len (h.blk.mem k hk);refine⟨?_,?_,BL h.tdr hk 37 (L8 _),by have:=h.le;omega,?_,λc a0=>?_,r1⟩
 ·refine h.blk.cut hc hk (λx hx=>⟨((a1 x).1 hx).1,((a1 x).1 hx).2.1⟩) a8 a6 a7 λp q hp hq ha a5=>?_
  obtain⟨_,e1,e2⟩:=(hL p).1 a5;refine(hL q).2 ⟨hq,by rw[<-h0 p q hp hq ha];exact e1,?_⟩;rw[<-h0 (nx p m0) (nx q m0) (a3 p m0 hp a4) (a3 q m0 hq a4) (ha.step a4)];exact e2
 ·exact(h.keys.more _).same zo _
 ·refine Pend.cut h.blk h.pend hc hk a3 a1 (λb m hb=>yU hb 37) (λm hm hb=>yT hb 37 hm) (λm hm=>GM 37 hm) λb hb=>?_
  rcases r3 _ hb with h1|h1
  ·exact .inl zo
  exact .inr h1
 have a9:c≠k:=λe=>r2 (by rw[<-e];exact a0)
 obtain⟨h1,h2⟩:=h.same c (by
  simp only[Mq,Mb,Ma,M0]at a0 ⊢
  rcases a0 with a0|a0
  ·exact .inl a0
  exact .inr (.inr a0))
 refine⟨h1,λx hx=>?_⟩;rw[<-h2 x hx,hc.bl x hx];have:=h.le
 by_cases a2:x∈L
 ·rw[ap a2];have:=((a1 x).1 a2).2.1
  constructor<;>omega
 rw[am a2]
end
def BI.done{nx:Nat->Nat->Nat}{tl:Nat->Nat}{n:Nat}{a1:List Nat}{m0 b0 a0:Nat}{bl:List Nat}{E:List KVR}{td:List ((Int×Int)×Bool)}{many:Nat}(h:BI nx tl n a1 m0 b0 a0 [] bl E td many):BO nx tl n bl E td many:=
 ⟨h.blk,h.keys,h.tdr,h.pend.done λb hb=>absurd hb (by simp)⟩
def BO.final{nx:Nat->Nat->Nat}{tl:Nat->Nat}{n:Nat}{bl:List Nat}{E:List KVR}{many:Nat}(h:BO nx tl n bl E [] many)(a0:∀p m,p<n->m<37->nx p m<n)(p q:Nat)(hp:p<n)(hq:q<n):nth bl p=nth bl q↔Alike nx tl p q:=by
 refine h.blk.final (λp q m a b c d e=>?_) a0 p q hp hq
 rcases h.todo p q m a b c d e with h1|h1<;>cases h1
def FI.bo{nx:Nat->Nat->Nat}{E:List KVR}(h:FI tl n n D bl E many)(ht:TdI td many many 0)(a0:∀p m,p<n->m<37->nx p m<n):BO nx tl n bl E td many:=by
 have hb:=h.blk nx;exact⟨hb,h.keys,ht.rng,λp q m hp hq hm e a1=>.inl (ht.all _ m (.inl (hb.lt _ (a0 p m hp hm))) hm)⟩
def K4:KeyL Mk 24 (λn:Int=>PN .u64 n):=Q2 underlying24
def yf(B:Nat)(O:Nat->Nat)(w:ln)(sb:Nat)(nv tv bv:ix)(sr tr:Nat)(a0:List Nat)(hR:Nn B O w)(hB:MZ O w 1 sb #[nv,tv,nS,bv,.map (some sr),.map (some tr),nI 0] 327) 
  (e6:My bp 3 1 O w 2 bv (L1 a0.length 0)) (g':MpR 10 3 O w sr []) (g9:MW eJ Mg O w 4 tr []) (g2:Sl jx 1 w tv a0) (e':NI O w tv) (hn:a0.length<=1000) (_:∀q,O q<2000) :
  Np Mk 234 [nP sb] w λ_ w'=>
   ∃O' D bl E many td,M5 (λq=>1<=q/\q<=4\/10<=q) O w O' w'/\Nn B O' w'/\MZ O' w' 1 sb #[nv,tv,nS,bv,.map (some sr),.map (some tr),nI ((many:Nat):Int)] 327/\
    My bp 3 1 O' w' 2 bv bl/\MpR 10 3 O' w' sr E/\MW eJ Mg O' w' 4 tr td/\FI (nth a0) a0.length a0.length D bl E many/\TdI td many many 0:=by
 apply L6 func234 ntmps234 rfl rfl;refine zh ?_
 apply bD (λk:Int=>.int .u64 k) (λv:Int=>nI v) hR 2000 zd rfl;intro r w1 O1 i2 c9 h';have g6:=hB.U c9 zd zd;have c1:w1.cell? ((nA sb 0).add 1)=some tv:=g6.cell 1 rfl;have g8:=g2.U e' c9;have h5:=e'.U c9;refine zh ?_
 apply zlp (λz:Nat×(Nat->Nat)×World×List (Int×Int)×List Nat×List KVR×Nat=>[(0,nP sb),(2,.map (some r)),(14,tv),(15,nI a0.length),(16,nI z.1)]) (λz=>z.2.2.1) (λz=>z.1<=a0.length/\M5 (λq=>1<=q/\q<=3\/10<=q) O w z.2.1 z.2.2.1/\Nn B z.2.1 z.2.2.1/\MZ z.2.1 z.2.2.1 1 sb #[nv,tv,nS,bv,.map (some sr),.map (some tr),nI ((z.2.2.2.2.2.2:Nat):Int)] 327/\My bp 3 1 z.2.1 z.2.2.1 2 bv z.2.2.2.2.1/\MpR 10 3 z.2.1 z.2.2.1 sr z.2.2.2.2.2.1/\MW (λk:Int=>.int .u64 k) (λv:Int=>nI v) z.2.1 z.2.2.1 2000 r z.2.2.2.1/\FI (nth a0) a0.length z.1 z.2.2.2.1 z.2.2.2.2.1 z.2.2.2.2.2.1 z.2.2.2.2.2.2) (λz=>a0.length-z.1) (0,O1,w1,[],L1 a0.length 0,[],0) ⟨L3 _,c9.mono (λ_ h=>zo) zd,h',g6,e6.U c9 zd zd,⟨g'.map.U c9 zd zd,λk hk=>absurd hk (L4 k)⟩,i2,GI _ _⟩;rintro⟨i,O2,w2,D,bl,E,many⟩ ⟨hi,c8,d9,b3,a1,a8,d3,hF⟩;dsimp only at hi c8 d9 b3 a1 a8 d3 hF ⊢;have e1:=g2.U e' c8;have i4:=hF.blen;have g4:=hF.mi;refine zh ?_
 refine zC ?_ ?_
 ·intro a3;replace a3:i<a0.length:=dT a3;have m1:w2.cell? (adr tv 1 i)=some (.int .u64 ((nth a0 i:Nat):Int)):=by have:=e1.cell (i:=i) (j:=0) a3 rfl;rwa[ax]at this
  have g3:=hF.rowsN;refine zh ?_
  cases d0:bI D ((nth a0 i:Nat):Int)with
  |some b=>
   obtain⟨k,rfl,hk,_⟩:=hF.old a3 d0 nS;have f9:∀v,FI (nth a0) a0.length (i+1) D (bl.set i k) (dc E (k:Int) (v,dY E (k:Int)++[i])) many:=λv=>by
    obtain⟨k',e,_,h⟩:=(hF.old a3 d0) v;obtain rfl:k=k':=zo;exact h
   have h1:=g3 k;have h0:=yW E (k:Int);have h6:=hF.keys.len;refine zvH (dr (u:=.tuple #[nI (k:Int),.bool true]) d3 P9 K4 (Mo _) ((nth a0 i:Nat):Int) rfl rfl rfl (by rw[d0];rfl)) ?_;apply aH rfl rfl;have e0:=Q7 a1;have i3:PC w2 (nA sb 3)=some bv:=PV b3 3 rfl;refine zh ?_;apply N4 a1 i zo (k:Nat) (LX _) rfl zd rfl rfl rfl rfl;intro wa a' b0;have d7:=Nv b3 b0 zd zd;have b8:=MpR.U a8 b0 zd zd zd (λ_=>zo);have f6:=NC d9 b0;have c7:=PZ d3 b0 zd zd;refine zh ?_;have d1:wa.drew.cell? (nA sb 4)=some (.map (some sr)):=d7.cell 4 rfl;have a5:M5 (λ_=>False) O2 wa O2 wa.drew:=ae (λh=>h) O2 (M4 wa).drew;have d2:=b8.U a5 zd zd (λh=>h) (λ_ h=>h);apply aO (λW=>W.cell? (nA sb 4)=some (.map (some sr))) 15 rfl zk;apply zrm 0 rfl d1 rfl;apply zr 1 rfl d1 (λ_=>aq rfl);apply zrf 2 rfl d1 rfl;apply zt 3 rfl d1 (λw1 b4=>RV.ld b4 rfl);apply zrm 4 rfl d1 rfl;apply zrm 5 rfl d1 rfl;apply zr 6 rfl d1 (λ_=>aq rfl);apply zrf 7 rfl d1 rfl;apply zt 8 rfl d1 (λw1 b4=>RV.ld b4 rfl);apply zrm 9 rfl d1 rfl;apply zrm 11 rfl d1 rfl
   apply jb 10 12 lK (enc:=bp) i rfl rfl zk zk zk zk (λW hE=>Mu (d2.U (ae (S:=λ_=>False) (λh=>h) O2 hE) zd zd (λh=>h) (λ_ h=>h)).map Mh qT (Nc _) ((k:Nat):Int) rfl rfl rfl (mP E _)) (λW hE=>hE.cell d1) rfl rfl rfl zd rfl rfl rfl rfl rfl;intro g7 wb b7 f';have a4:M5 (λ_=>False) O2 wa.drew O2 wb:=ae (λh=>h) O2 f';have b':=d2.U a4 zd zd (λh=>h) (λ_ h=>h);apply LZ 13 zk rfl
   apply aF lK (b'.at ((k:Nat):Int)) ((f6.U a5).U a4) b7 (by simp) rfl rfl (by simp) (by simp[L5]) (by rw[L7];omega) (by rw[L7];omega) zo rfl;intro vc wc Oc e7 a7 f5;have d6:=((d7.U a5 zd (λh=>h)).U a4 zd (λh=>h)).U a7 zd zo;refine zh ?_
   apply af (d6.cell 4 rfl);apply LZ 14 zk rfl
   apply Mt (b'.map.U a7 zd zo) Mh qT zd ((k:Nat):Int) vc rfl rfl rfl rfl rfl;intro wd e9 a6;have d5:=d6.U a6 zd zd;have b9:=b'.put ((k:Nat):Int) zd zd a7 e7 e9 a6;refine zh ?_
   apply af (d5.cell 4 rfl);have f3:M5 (λq=>1<=q/\q<=3\/10<=q) O2 w2 Oc wd:=((((b0.mono (λ_ h=>zo) zd).J (a5.mono (λ_ h=>h.elim) zd)).J (a4.mono (λ_ h=>h.elim) zd)).J (a7.mono (λ_ h=>zo) zd)).J (a6.mono (λ_ h=>zo) zd);have a9:=(((a'.U a5 zd (λh=>h)).U a4 zd (λh=>h)).U a7 zd zo).U a6 zd zd;have c5:=(((c7.U a5 zd (λh=>h)).U a4 zd (λh=>h)).U a7 zd zo).U a6 zd zd;apply MF zk
   refine zh ?_;refine zxd (i+1,Oc,wd,D,bl.set i k,dc E ((k:Nat):Int) (vc,dY E ((k:Nat):Int)++[i]),many) ⟨a3,c8.J f3,f5.U a6,d5,a9,b9,c5,f9 vc⟩
  |none=>
   have f9:=hF.new a3 d0;have h1:=g3 many;have h0:=yW E (many:Int);have h6:=hF.keys.len;refine zvH (dr (u:=.tuple #[nI 0,.bool false]) d3 P9 K4 (Mo _) ((nth a0 i:Nat):Int) rfl rfl rfl (by rw[d0];rfl)) ?_;apply aM rfl rfl;have c6:w2.cell? (nA sb 6)=some (nI (many:Nat)):=b3.cell 6 rfl;refine zh ?_;apply Mt d3 P9 K4 zd ((nth a0 i:Nat):Int) (many:Int) rfl rfl rfl rfl rfl;intro w3 i1 a2;have d':=b3.U a2 zd zd;have c':=a1.U a2 zd zd;have e5:MpR 10 3 O2 w3 sr E:=⟨a8.map.U a2 zd zd,λk hk=>(a8.row k hk).U a2 zo (by have:=hF.keys.len;omega)⟩
   have h9:=d9.U a2;have i5:w3.cell? (nA sb 6)=some (nI (many:Nat)):=d'.cell 6 rfl;refine zh ?_;apply ao (j:=6) d' rfl (LX _) rfl rfl rfl rfl;have b1:M5 (λj=>j=1) O2 w3 O2 (w3.setCell ⟨sb,6,none⟩ (nI ((many:Int)+1))):=MB zd d'.tag rfl;have g5:MZ O2 (w3.setCell ⟨sb,6,none⟩ (nI ((many:Int)+1))) 1 sb #[nv,tv,nS,bv,.map (some sr),.map (some tr),nI ((many+1:Nat):Int)] 327:=d'.set 6 _;have b2:=c'.U b1 zd zd;have e4:=e5.U b1 zd zd zd (λ_=>zo);have h8:=h9.U b1;have i0:=i1.U b1 zd zd;have f4:=(c8.J (a2.mono (λ_ h=>zo) zd)).J (b1.mono (λ_ h=>zo) zd);generalize w3.setCell ⟨sb,6,none⟩ (nI ((many:Int)+1))=w4 at *;have e0:=Q7 b2;have i3:PC w4 (nA sb 3)=some bv:=PV g5 3 rfl;refine zh ?_;apply N4 b2 i zo (many:Nat) (LX _) rfl zd rfl rfl rfl rfl;intro wa a' b0;have d7:=Nv g5 b0 zd zd;have b8:=MpR.U e4 b0 zd zd zd (λ_=>zo);have f6:=NC h8 b0;have c7:=PZ i0 b0 zd zd;refine zh ?_;have d1:wa.drew.cell? (nA sb 4)=some (.map (some sr)):=d7.cell 4 rfl;have a5:M5 (λ_=>False) O2 wa O2 wa.drew:=ae (λh=>h) O2 (M4 wa).drew;have d2:=b8.U a5 zd zd (λh=>h) (λ_ h=>h);apply aO (λW=>W.cell? (nA sb 4)=some (.map (some sr))) 15 rfl zk;apply zrm 0 rfl d1 rfl;apply zr 1 rfl d1 (λ_=>aq rfl);apply zrf 2 rfl d1 rfl;apply zt 3 rfl d1 (λw1 b4=>RV.ld b4 rfl);apply zrm 4 rfl d1 rfl;apply zrm 5 rfl d1 rfl
   apply zr 6 rfl d1 (λ_=>aq rfl);apply zrf 7 rfl d1 rfl
   apply zt 8 rfl d1 (λw1 b4=>RV.ld b4 rfl);apply zrm 9 rfl d1 rfl
   apply zrm 11 rfl d1 rfl;apply jb 10 12 lK (enc:=bp) i rfl rfl zk zk zk zk (λW hE=>Mu (d2.U (ae (S:=λ_=>False) (λh=>h) O2 hE) zd zd (λh=>h) (λ_ h=>h)).map Mh qT (Nc _) ((many:Nat):Int) rfl rfl rfl (mP E _)) (λW hE=>hE.cell d1) rfl rfl rfl zd rfl rfl rfl rfl rfl
   intro g7 wb b7 f';have a4:M5 (λ_=>False) O2 wa.drew O2 wb:=ae (λh=>h) O2 f';have b':=d2.U a4 zd zd (λh=>h) (λ_ h=>h);apply LZ 13 zk rfl;apply aF lK (b'.at ((many:Nat):Int)) ((f6.U a5).U a4) b7 (by simp) rfl rfl (by simp) (by simp[L5]) (by rw[L7];omega) (by rw[L7];omega) zo rfl;intro vc wc Oc e7 a7 f5;have d6:=((d7.U a5 zd (λh=>h)).U a4 zd (λh=>h)).U a7 zd zo;refine zh ?_;apply af (d6.cell 4 rfl);apply LZ 14 zk rfl;apply Mt (b'.map.U a7 zd zo) Mh qT zd ((many:Nat):Int) vc rfl rfl rfl rfl rfl;intro wd e9 a6;have d5:=d6.U a6 zd zd;have b9:=b'.put ((many:Nat):Int) zd zd a7 e7 e9 a6;refine zh ?_;apply af (d5.cell 4 rfl);have f3:M5 (λq=>1<=q/\q<=3\/10<=q) O2 w4 Oc wd:=((((b0.mono (λ_ h=>zo) zd).J (a5.mono (λ_ h=>h.elim) zd)).J (a4.mono (λ_ h=>h.elim) zd)).J (a7.mono (λ_ h=>zo) zd)).J (a6.mono (λ_ h=>zo) zd);have a9:=(((a'.U a5 zd (λh=>h)).U a4 zd (λh=>h)).U a7 zd zo).U a6 zd zd;have c5:=(((c7.U a5 zd (λh=>h)).U a4 zd (λh=>h)).U a7 zd zo).U a6 zd zd;apply MF zk;refine zh ?_;refine zxd (i+1,Oc,wd,(dc D ((nth a0 i:Nat):Int) (many:Int)),bl.set i many,dc E ((many:Nat):Int) (vc,dY E ((many:Nat):Int)++[i]),(many+1)) ⟨a3,f4.J f3,f5.U a6,d5,a9,b9,c5,f9 vc⟩
 intro h3;obtain rfl:i=a0.length:=dF h3;have c6:w2.cell? (nA sb 6)=some (nI (many:Nat)):=b3.cell 6 rfl;have e3:=g9.U c8 zd zo;refine zh ?_;apply zlp (λz:Nat×ln×List ((Int×Int)×Bool)=>[(0,nP sb),(68,nI (many:Nat)),(69,nI z.1)]) (λz=>z.2.1) (λz=>z.1<=many/\M5 (λq=>q=4) O2 w2 O2 z.2.1/\MW eJ Mg O2 z.2.1 4 tr z.2.2/\TdI z.2.2 many z.1 0) (λz=>many-z.1) (0,w2,[]) ⟨L3 _,N6 zd _ _,e3,DU _⟩;rintro⟨b,w3,g1⟩ ⟨hb,a2,b6,f8⟩;dsimp only at hb a2 b6 f8 ⊢;refine zh ?_;refine zC ?_ ?_
 ·intro a3;replace a3:b<many:=dT a3;refine zh ?_;apply zlp (λy:Nat×ln×List ((Int×Int)×Bool)=>[(0,nP sb),(68,nI (many:Nat)),(69,nI (b:Nat)),(7,nI (b:Nat)),(72,nI y.1)]) (λy=>y.2.1) (λy=>y.1<=37/\M5 (λq=>q=4) O2 w2 O2 y.2.1/\MW eJ Mg O2 y.2.1 4 tr y.2.2/\TdI y.2.2 many b y.1) (λy=>37-y.1) (0,w3,g1) ⟨L3 _,a2,b6,f8⟩;rintro⟨m,w4,g0⟩ ⟨hm,b1,b5,f7⟩;dsimp only at hm b1 b5 f7 ⊢;refine zh ?_;refine zC ?_ ?_
  ·intro d8;replace d8:m<37:=dT d8;have d4:w4.cell? (nA sb 5)=some (.map (some tr)):=(b3.U b1 zd zd).cell 5 rfl;refine zh ?_;apply zv (fo MX (LX _) (MO _) rfl rfl);apply Mt b5 Nq Kz zd ((b:Int),(m:Int)) true rfl rfl rfl rfl rfl;intro w5 e2 h7;refine zh ?_;refine zxd (m+1,w5,dc g0 ((b:Int),(m:Int)) true) ⟨d8,b1.J h7,e2,f7.put a3 d8⟩
  intro h2;obtain rfl:m=37:=dF h2;refine zh ?_;refine zxd (b+1,w4,g0) ⟨a3,b1,b5,f7.next⟩
 intro h4;obtain rfl:b=many:=dF h4;refine zh ?_;refine aK rfl ⟨O2,D,bl,E,b,g1,(c8.mono (λ_ h=>zo) zd).J (a2.mono (λ_ h=>zo) zd),d9.U a2,b3.U a2 zd zd,a1.U a2 zd zd,a8.U a2 zd zd zd (λ_=>zo),b6,hF,f8⟩
end Go.Proofs.YteolbhblkgjbhaaGreatDoor
section
namespace Go.VL
open Go.Proofs
def gV{ops:Array Pb}{a0:List Pb}{st:St}{t:N8}{p:String}{e:Array Qd}{d:Nat}{x:Pk} 
   {bytes:Nat} (he:PL P T E 1 bytes) (z0:ix) (a3:(P.info? E).bind (·.zero)=some z0) (h1:z0.oneCell'=true)   (r:Nn B O w) (i:Nat) (a8:i≠0) (n:Nat) {kl kc:IntKind} {m1 m2:Int}
  (hx:ev st x=some (.int kl m1)) (hy:ev st y=some (.int kc m2)) (a7:m1=n) (a6:m2=n) (hb:bytes*n<=281474976710656) (b1:n<=9223372036854775807) (hd:ND d N=true)
  (h:∀w' O' v,My (λx:ix=>[x]) E 1 O' w' i v (L1 n z0)->M5 (λk=>k=i) O w O' w'->Nn B O' w'->N1 w w'->WL P N ops Q a0 ((d,v)::st) w') :
  WL P N ops Q (⟨some d,.makeSlice T x y,t,p,e,none⟩::a0) st w:=by
 obtain⟨a2,z,hi,hz,a5,a',b2⟩:=he.parts;have a4:z=z0:=by rw[hi]at a3;simpa[hz]using a3
 subst a4;subst a7;subst a6;have a9:z.cells = #[z]:=by cases z<;>first|rfl|simp[L5]at h1
 have b0:(a2.bytes:Int)*(n:Int)<=281474976710656:=by
  have h:((a2.bytes*n:Nat):Int)<=281474976710656:=by rw[a'];omega
  rwa[Int.natCast_mul]at h
 have a1:=run_make (P:=P) w T E a2 _ he.ht hi hz kl kc n n zo (PS _) b0 zo;simp only[Int.toNat_natCast,a5,Nat.mul_one,a9]at a1;have hz:¬(λk=>k=i) 0:=λh=>a8 h.symm
 have u:=Pu (S:=λk=>k=i) hz r (.cells (madeCells #[z] n) E) i;refine WL.val (v:=.slice (some ⟨w.heap.size,0,none⟩) n n) hd (λa ha=>by simp only[execOp,ha.ev hx,ha.ev hy,PF,a1,Pa];rfl) (h _ _ _ ⟨⟨?_,λg hg=>?_⟩,λa _=>rfl⟩ u (r.U u) (NJ _ _))
 ·rw[List.length_replicate];have:=Pe (base:=0) (size:=1) (e:=E) w (madeCells #[z] n) n (L3 _) (by simpa[maxLen]using b1) (by rw[size_madeCells];omega);rw[toList_madeCells_one]at this;have e2:(L1 n z).flatMap (λx=>[x])=L1 n z:=by
   induction n with
   |zero=>rfl
   |succ n ih=>simp only[List.replicate_succ,Mx];congr 1;simp[List.flatMap_replicate]
  rw[e2];exact this
 simp only[Ps,PT]at hg;subst hg;exact eM _ _ _
def Sl.free0[Inhabited α]{f:α->List ix}{xs:List α}(h:Sl f sz w v xs)(hf:∀a,f a≠[]):NI (λ_=>0) w v:=λa n c e hn=>by
 obtain⟨a',c',e1,_,_,e2⟩:=h.shape;subst e
 cases e1
 obtain⟨b,o,e3⟩:=e2 hn
 cases e3
 refine⟨rfl,?_⟩
 cases hx:f xs[0]with
 |nil=>exact absurd hx (hf _)
 |cons u r=>
  have:=NQ _ _ (h.cells 0 (Nat.pos_of_ne_zero hn) 0 u (by rw[hx];rfl));have hb:((adr (.slice (some ⟨b,o,none⟩) xs.length c) sz 0).add 0).block=b:=by simp only[adr,Addr.add];split<;>rfl
  rwa[hb]at this
end Go.VL
namespace Go.Proofs.YteolbhblkgjbhaaGreatDoor
open Go.VL Go.Proofs
set_option maxRecDepth 10000
def RowsF(O:Nat->Nat)(w:ln)(v:ix)(rows:List (List Nat)):Prop:=∃vs,Sl yo 1 w v vs/\NI O w v/\vs.length=rows.length/\∀i,i<rows.length->Sl bp 1 w (nth vs i) (nth rows i)/\NI O w (nth vs i)
def RowsF.U{S:Nat->Prop}{O O':Nat->Nat}{w w':ln}{v:ix}{rows:List (List Nat)}(h:RowsF O w v rows)(u:M5 S O w O' w'):RowsF O' w' v rows:=by
 obtain⟨vs,h1,h2,h3,h4⟩:=h;exact⟨vs,h1.U h2 u,h2.U u,h3,λi hi=>⟨(h4 i hi).1.U (h4 i hi).2 u,(h4 i hi).2.U u⟩⟩
def RowsN.free{rows:List (List Nat)}(h:RowsN w v rows):RowsF (λ_=>0) w v rows:=by
 obtain⟨vs,h1,h2,h3⟩:=h;exact⟨vs,h1,h1.free0 (λa=>by simp),h2,λi hi=>⟨h3 i hi,(h3 i hi).free0 (λa=>by simp)⟩⟩
def RowsG(B:Nat)(w:ln)(v:ix)(rows:List (List Nat)):Prop:=∃vs,Sl yo 1 w v vs/\P1 B v/\vs.length=rows.length/\∀i,i<rows.length->Sl bp 1 w (nth vs i) (nth rows i)/\P1 B (nth vs i)
def RowsG.rows{B:Nat}{w:ln}{v:ix}{rows:List (List Nat)}(h:RowsG B w v rows):RowsN w v rows:=by
 obtain⟨vs,h1,h2,h3,h4⟩:=h;exact⟨vs,h1,h3,λi hi=>(h4 i hi).1⟩
def RowsG.mono{B B':Nat}{w:ln}{v:ix}{rows:List (List Nat)}(h:RowsG B w v rows)(hb:B'<=B):RowsG B' w v rows:=by
 obtain⟨vs,h1,h2,h3,h4⟩:=h;exact⟨vs,h1,h2.mono hb,h3,λi hi=>⟨(h4 i hi).1,(h4 i hi).2.mono hb⟩⟩
def RowsG.ext{B:Nat}{w w':ln}{v:ix}{rows:List (List Nat)}(h:RowsG B w v rows)(e:N1 w w'):RowsG B w' v rows:=by
 obtain⟨vs,h1,h2,h3,h4⟩:=h;exact⟨vs,h1.ext e,h2,h3,λi hi=>⟨(h4 i hi).1.ext e,(h4 i hi).2⟩⟩
def A4{nx:Nat->Nat}(_:i<n):eD (i+1) nx to=eD i nx to++if nx i=to then [i]else []:=by
 unfold eD;rw[MQ,MU,NF]
 by_cases e:nx i=to
 ·rw[ap (by simpa using e),ap e];rfl
 rw[am (by simpa using e),am e];rfl
def Dc(i:Nat)(nx:Nat->Nat)(to:Nat):(eD i nx to).length<=i:=by
 unfold eD;exact P2 (Nu _ _) (by simp)
structure TuI(O:Nat->Nat)(W:ln)(sb:Nat)(nv tv fv bv:ix)(sr tr many n m:Nat)(nx:Nat->Nat->Nat)(ms:List ix)(vss:List (List ix)):Prop where
 blk:MZ O W 1 sb #[nv,tv,fv,bv,.map (some sr),.map (some tr),nI ((many:Nat):Int)] 327
 row:My yo 130 1 O W 6 fv ms
 len:ms.length=m
 lenv:vss.length=m
 at_:∀j,j<m->My yo 22 1 O W 5 (nth ms j) (nth vss j)/\(nth vss j).length=n/\∀t,t<n->My bp 3 1 O W 5 (nth (nth vss j) t) (eD n (λx=>nx x j) t)
def TuI.U{S:Nat->Prop}{O O':Nat->Nat}{w w':ln}{sb:Nat}{nv tv fv bv:ix}{sr tr many n m:Nat}{nx:Nat->Nat->Nat}{ms:List ix}{a0:List (List ix)}(h:TuI O w sb nv tv fv bv sr tr many n m nx ms a0) 
  (u:M5 S O w O' w') (h1:¬S 1) (h5:¬S 5) (h6:¬S 6):TuI O' w' sb nv tv fv bv sr tr many n m nx ms a0:=
 ⟨h.blk.U u zd h1,h.row.U u zd h6,h.len,h.lenv,λj hj=>⟨(h.at_ j hj).1.U u zd h5,(h.at_ j hj).2.1,λt ht=>((h.at_ j hj).2.2 t ht).U u zd h5⟩⟩
def Kf:PL Mk 325 130 1 24:=⟨underlying325,by kernel_rfl,zd⟩
def vi(B:Nat)(O:Nat->Nat)(w:ln)(sb:Nat)(nv tv bv:ix)(sr tr many:Nat)(rows:List (List Nat))(e2:List Nat)(hR:Nn B O w)(hB:MZ O w 1 sb #[nv,tv,nS,bv,.map (some sr),.map (some tr),nI ((many:Nat):Int)] 327) 
  (hn:RowsF O w nv rows) (hr:RightD rows e2) (hT:∀q,O q<2000) (f8:∀q,O q≠6) :
  Np Mk 235 [nP sb] w λ_ w'=>
   ∃O' fv,M5 (λq=>q=1\/q=5\/q=6\/2000<=q) O w O' w'/\Nn B O' w'/\MZ O' w' 1 sb #[nv,tv,fv,bv,.map (some sr),.map (some tr),nI ((many:Nat):Int)] 327/\FromO O' w' 5 fv rows.length (nxD rows):=by
 have g5:=hr.le;obtain⟨vs,b4,a',g4,c9⟩:=hn;apply L6 func235 ntmps235 rfl rfl;refine zh ?_;apply zlp (λz:Nat×(Nat->Nat)×World×ix×List ix×List (List ix)=>[(0,nP sb),(6,nI z.1)]) (λz=>z.2.2.1) (λz=>z.1<=37/\M5 (λq=>q=1\/q=5\/q=6\/2000<=q) O w z.2.1 z.2.2.1/\Nn B z.2.1 z.2.2.1/\TuI z.2.1 z.2.2.1 sb nv tv z.2.2.2.1 bv sr tr many rows.length z.1 (nxD rows) z.2.2.2.2.1 z.2.2.2.2.2) (λz=>37-z.1) (0,O,w,nS,[],[]) ⟨L3 _,N6 zd _ _,hR,hB,M9 _ _ _ _ _ _,rfl,rfl,λj hj=>absurd hj (L4 j)⟩;rintro⟨m,O2,w2,fv,ms,c5⟩ ⟨hm,b8,d9,hI⟩;dsimp only at hm b8 d9 hI ⊢;refine zh ?_;refine zC ?_ ?_
 ·intro c6;replace c6:m<37:=dT c6;have e4:=b4.U a' b8;have c1:w2.cell? ((nA sb 0).add 0)=some nv:=hI.blk.cell 0 rfl;refine zh ?_;apply gV G2 nS zk rfl d9 2000 zd rows.length rfl rfl zo zo zo zo rfl;intro w3 O3 d' d5 d7 g0 g7;have e1:=hI.U d7 zd zd zd;have e3:=e4.U (a'.U b8) d7;have c3:w3.cell? ((nA sb 0).add 0)=some nv:=e1.blk.cell 0 rfl;refine zh ?_;apply zlp (λy:Nat×(Nat->Nat)×World×List ix=>[(0,nP sb),(2,nI (m:Nat)),(3,d'),(6,nI (m:Nat)),(20,nv),(21,nI vs.length),(22,nI y.1)]) (λy=>y.2.2.1) (λy=>y.1<=rows.length/\M5 (λq=>q=1\/q=5\/q=6\/2000<=q) O w y.2.1 y.2.2.1/\Nn B y.2.1 y.2.2.1/\TuI y.2.1 y.2.2.1 sb nv tv fv bv sr tr many rows.length m (nxD rows) ms c5/\My yo 22 1 y.2.1 y.2.2.1 2000 d' y.2.2.2/\y.2.2.2.length=rows.length/\∀t,t<rows.length->My bp 3 1 y.2.1 y.2.2.1 (3000+t) (nth y.2.2.2 t) (eD y.1 (λx=>nxD rows x m) t)) (λy=>rows.length-y.1) (0,O3,w3,L1 rows.length nS) ⟨L3 _,b8.J (d7.mono (λ_ h=>zo) zd),g0,e1,d5,by simp,λt ht=>by rw[aD (by simpa using ht)];simp only[List.getElem_replicate];exact M9 _ _ _ _ _ _⟩;rintro⟨i,O4,w4,bs⟩ ⟨hi,b7,d8,a8,a0,b1,a6⟩;dsimp only at hi b7 d8 a8 a0 b1 a6 ⊢;have c8:=b4.U a' b7;refine zh ?_;refine zC ?_ ?_
  ·intro b2;replace b2:i<rows.length:=dT b2;obtain⟨d2,b0⟩:=c9 i b2;have d1:=d2.U b0 b7;obtain⟨r1,r2⟩:=hr.row i b2;obtain⟨to,b5⟩:∃to,to=nxD rows i m:=⟨_,rfl⟩
   have c':to<rows.length:=by rw[b5];exact r2 m c6
   have m1:w4.cell? (adr nv 1 i)=some (nth vs i):=by have:=c8.cell (i:=i) (j:=0) zo rfl;rwa[ax]at this
   refine zh ?_;have k1:w4.drew.cell? (adr (nth vs i) 1 m)=some (nI (to:Int)):=by have:=d1.cell (i:=m) (j:=0) zo rfl;rw[ax]at this;rw[b5];exact this
   have g1:w4.drew.cell? (adr d' 1 to)=some (nth bs to):=by have:=a0.sl.cell (i:=to) (j:=0) zo rfl;rwa[ax]at this
   have f7:M5 (λ_=>False) O4 w4 O4 w4.drew:=ae (λh=>h) O4 (M4 w4).drew;apply aO (λW=>W.cell? (adr (nth vs i) 1 m)=some (nI (to:Int))) 17 rfl zk;apply zrm 0 rfl k1 rfl;apply zrm 1 rfl k1 rfl;apply zrm 2 rfl k1 rfl;apply zr 3 rfl k1 (λ_=>aj d1.sh L0 (LX _) rfl rfl m rfl zo);apply zt 4 rfl k1 (λw1 c7=>RV.ld c7 rfl);apply zrm 5 rfl k1 rfl;apply zrm 6 rfl k1 rfl;apply zrm 7 rfl k1 rfl;apply zr 8 rfl k1 (λ_=>aj d1.sh L0 (LX _) rfl rfl m rfl zo);apply zt 9 rfl k1 (λw1 c7=>RV.ld c7 rfl);apply zr 10 rfl k1 (λ_=>aj a0.sl.sh Mp (Nm _) rfl rfl to rfl zo);apply zrm 12 rfl k1 rfl;apply cG 11 13 lK (enc:=bp) i rfl rfl zk zk zk zk (λW hE=>P6 (hE.cell g1) (isAgg22 _) rfl) (λW hE=>hE.cell k1) rfl rfl rfl zd rfl rfl rfl rfl rfl;intro g3 w5 d0 g2;have f6:M5 (λ_=>False) O4 w4.drew O4 w5:=ae (λh=>h) O4 g2;have a4:=f7.J f6;have g6:=Dc i (λx=>nxD rows x m) to;apply LZ 14 zk rfl;apply aF lK ((a6 to c').U a4 zo (λh=>h)) (d8.U a4) d0 (by simp) rfl rfl (by simp) (by simp[L5]) (by rw[L7];omega) (by rw[L7];omega) zo rfl;intro v6 w6 O6 e0 a5 f9
   have a7:M5 (λq=>q=1\/q=5\/q=6\/2000<=q) O w O6 w6:=(b7.J (a4.mono (λ_ h=>h.elim) zd)).J (a5.mono (λ_ h=>zo) zd);have k6:w6.cell? (adr (nth vs i) 1 m)=some (nI (to:Int)):=by have:=(d2.U b0 a7).cell (i:=m) (j:=0) zo rfl;rw[ax]at this;rw[b5];exact this
   refine zh ?_;apply af k6;apply zr 15 rfl k6 (λ_=>aj a0.sl.sh Mp (Nm _) rfl rfl to rfl zo);apply LZ 16 zk rfl;apply N4 ((a0.U a4 zd (λh=>h)).U a5 zd zo) to zo v6 (Nm _) e0.one zd rfl rfl rfl rfl;intro w7 d3 b6;have b9:M5 (λq=>q=1\/q=5\/q=6\/2000<=q) O w O6 w7:=a7.J (b6.mono (λ_ h=>zo) zd);have k7:w7.cell? (adr (nth vs i) 1 m)=some (nI (to:Int)):=by have:=(d2.U b0 b9).cell (i:=m) (j:=0) zo rfl;rw[ax]at this;rw[b5];exact this
   refine zh ?_;apply af k7
   apply MF zk;refine zh ?_
   refine zxd (i+1,O6,w7,bs.set to v6) ⟨b2,b9,f9.U b6,((a8.U a4 (λh=>h) (λh=>h) (λh=>h)).U a5 zo zo zo).U b6 zd zd zd,d3,by dsimp only;rw[Mf];exact b1,λt ht=>?_⟩
   ·dsimp only;rw[A4 b2,bf zo,<-b5]
    by_cases e:t=to
    ·subst e;rw[ap rfl,ap rfl];exact e0.U b6 zo zo
    rw[am e,am (λh=>e h.symm),Mr];exact(((a6 t ht).U a4 zo (λh=>h)).U a5 zo zo).U b6 zo zo
  intro e9;obtain rfl:i=rows.length:=dF e9;obtain⟨ba,bc,e',_⟩:=a0.sl.shape;subst e';have e7:=a8.len;have f4:w4.cell? (nA sb 2)=some fv:=a8.blk.cell 2 rfl;refine zh ?_;apply MV Kf a8.row d8 ((.slice ba bs.length bc:ix)) (λ_=>rfl) rfl rfl rfl (by simp[L5]) zo zo zo zd rfl rfl;intro b' w5 O5 a9 b3 f';have d6:=a8.blk.U b3 zd zd;refine zh ?_;apply ao (j:=2) d6 rfl (sizeOf325 _) a9.one rfl rfl rfl;have a5:M5 (λj=>j=1) O5 w5 O5 (w5.setCell ⟨sb,2,none⟩ b'):=MB zd d6.tag rfl;have f3:MZ O5 (w5.setCell ⟨sb,2,none⟩ b') 1 sb #[nv,tv,b',bv,.map (some sr),.map (some tr),nI ((many:Nat):Int)] 327:=d6.set 2 _;generalize w5.setCell ⟨sb,2,none⟩ b'=w6 at *;have a7:M5 (λq=>q=1\/q=5\/q=6\/2000<=q) O w O5 w6:=(b7.J (b3.mono (λ_ h=>zo) zd)).J (a5.mono (λ_ h=>zo) zd);obtain⟨f,hf⟩:∃f:Nat->Nat,f=λt=>if 2000<=t then 5 else t:=⟨_,rfl⟩
  have f2:∀t,t<2000->f t=t:=λt ht=>by rw[hf];exact am zo
  have f5:∀t,2000<=t->f t=5:=λt ht=>by rw[hf];exact ap ht
  refine zh ?_;refine zxd (m+1,reF f O5,w6,b',ms++[.slice ba bs.length bc],c5++[bs]) ⟨c6,a7.re f (f2 0 zd) (λb _=>f2 _ (hT b)),(f'.U a5).re f (f2 0 zd),⟨f3.re f (f2 1 zd),(a9.U a5 zd zd).re f (f2 6 zd),by simp[e7],by simp[a8.lenv],λj hj=>?_⟩⟩
  ·have e5:=a8.lenv;rw[aC,aC]
   by_cases e:j<m
   ·rw[ap zo,ap zo];obtain⟨a1,a2,a3⟩:=a8.at_ j e;exact⟨((a1.U b3 zd zd).U a5 zd zd).re f (f2 5 zd),a2,λt ht=>(((a3 t ht).U b3 zd zd).U a5 zd zd).re f (f2 5 zd)⟩
   obtain rfl:j=m:=zo;rw[am zo,am zo,show j-ms.length=0 from by omega,show j-c5.length=0 from by omega,ar,ar];exact⟨((a0.U b3 zd zd).U a5 zd zd).re f (f5 _ zd),b1,λt ht=>(((a6 t ht).U b3 zo zo).U a5 zo zo).re f (f5 _ zo)⟩
 intro e8;obtain rfl:m=37:=dF e8;refine zh ?_;refine aK rfl ⟨reF (IN 6 5) O2,fv,b8.re _ rfl (λb _=>sF (f8 b)),d9.re _ rfl,hI.blk.re _ rfl,⟨ms,c5,hI.row.re _ rfl,hI.len,λm hm=>⟨(hI.at_ m hm).1.re _ rfl,(hI.at_ m hm).2.1,λt ht=>((hI.at_ m hm).2.2 t ht).re _ rfl⟩⟩⟩
end Go.Proofs.YteolbhblkgjbhaaGreatDoor
end
namespace Go.VL
def Fits.look{a:Qf}{st a0:St}(h:Fits N a st)(hs:∀t,cV a0 t=cV st t):Fits N a a0:=⟨h.size,h.defers,λt v hv=>h.get t v ((hs t).symm.J hv)⟩
def gb{d1 d2 d3:Nat}(v1 v2 v3:ix)(st:St)(a2:Nj d1 d2=false)(a1:Nj d1 d3=false)(a0:Nj d2 d3=false)(t:Nat):
  (cV ((d3,v3)::(d2,v2)::(d1,v1)::st) t=cV ((d2,v2)::(d3,v3)::(d1,v1)::st) t)/\(cV ((d3,v3)::(d2,v2)::(d1,v1)::st) t=cV ((d3,v3)::(d1,v1)::(d2,v2)::st) t)/\
  (cV ((d3,v3)::(d2,v2)::(d1,v1)::st) t=cV ((d1,v1)::(d3,v3)::(d2,v2)::st) t)/\(cV ((d3,v3)::(d2,v2)::(d1,v1)::st) t=cV ((d2,v2)::(d1,v1)::(d3,v3)::st) t)/\(cV ((d3,v3)::(d2,v2)::(d1,v1)::st) t=cV ((d1,v1)::(d2,v2)::(d3,v3)::st) t):=by
 simp only[cV]
 cases h1:Nj d1 t<;>cases h2:Nj d2 t<;>cases h3:Nj d3 t<;>simp only[cond_true,cond_false,and_self] <;>
  first
  |(have e1:=Mw h1;have e2:=Mw h2;subst e1;subst e2;rw[P3]at a2;cases a2)
  |(have e1:=Mw h1;have e2:=Mw h3;subst e1;subst e2;rw[P3]at a1;cases a1)
  |(have e1:=Mw h2;have e2:=Mw h3;subst e1;subst e2;rw[P3]at a0;cases a0)
def pM{ops:Array Pb}{S:ln->Prop}{st:St}{a0:Array Bool}(i j k:Nat){o o' o2:Pb}(hr:Ms .any ops a0=[i,j,k])(hi:ops[i]? = some o)(hj:ops[j]? = some o')(hk:ops[k]? = some o2) 
  (h:WL P N ops (tE P ops S Q a1 (a0.setIfInBounds i true)) [o] st w) (h':WL P N ops (tE P ops S Q a1 (a0.setIfInBounds j true)) [o'] st w) (h2:WL P N ops (tE P ops S Q a1 (a0.setIfInBounds k true)) [o2] st w):WH P N ops S Q (a1+1) a0 st w:=
 WH.all [i,j,k] hr (by simp) λm hm q hq=>by
  simp only[M0,List.not_mem_nil,or_false]at hm
  rcases hm with rfl|rfl|rfl
  ·rw[hi]at hq;cases hq;exact h
  ·rw[hj]at hq;cases hq;exact h'
  rw[hk]at hq;cases hq;exact h2
def Bs{ops:Array Pb}{S:ln->Prop}{st:St}{b9:Nat}{a0:Array Bool}{T2 T3:N8}{a5:Nat}{x:Pk} 
  {t t2 t3:N8} {p p2 p3:String} {e e2 e3:Array Qd} {d1 d2 d3:Nat} (i j k:Nat) (he:PL P T E 1 a5)  {val:α->ix} (z0:α) (b1:(P.info? E).bind (·.zero)=some (val z0)) (h1:∀a,(val a).oneCell'=true)
  {κ' ν':Type} (kv:κ->ix) (vv:ν->ix) (a8:κ'->ix) (a6:ν'->ix)   (r:Nn B O w) (g1 g2 g3:Nat) (a3:g1≠0) (a2:g2≠0) (a1:g3≠0) (b0:g1≠g2) (a':g1≠g3) (a9:g2≠g3) (n:Nat)
  (hi:ops[i]? = some ⟨some d1,.makeSlice T x y,t,p,e,none⟩) (hj:ops[j]? = some ⟨some d2,.makeMap T2 none,t2,p2,e2,none⟩) (hk:ops[k]? = some ⟨some d3,.makeMap T3 none,t3,p3,e3,none⟩)
  (hr:Ms .any ops a0=[i,j,k]) (d5:Ms .any ops (a0.setIfInBounds i true)=[j,k]) (d4:Ms .any ops (a0.setIfInBounds j true)=[i,k]) (d0:Ms .any ops (a0.setIfInBounds k true)=[i,j])
  (b4:Ms .any ops ((a0.setIfInBounds i true).setIfInBounds j true)=[k]) (b3:Ms .any ops ((a0.setIfInBounds i true).setIfInBounds k true)=[j]) (b2:Ms .any ops ((a0.setIfInBounds j true).setIfInBounds k true)=[i])
  (c':(a0.setIfInBounds j true).setIfInBounds i true=(a0.setIfInBounds i true).setIfInBounds j true) (c9:(a0.setIfInBounds k true).setIfInBounds i true=(a0.setIfInBounds i true).setIfInBounds k true) (c8:(a0.setIfInBounds k true).setIfInBounds j true=(a0.setIfInBounds j true).setIfInBounds k true)
  (q1:((a0.setIfInBounds i true).setIfInBounds k true).setIfInBounds j true=((a0.setIfInBounds i true).setIfInBounds j true).setIfInBounds k true) (q2:((a0.setIfInBounds j true).setIfInBounds k true).setIfInBounds i true=((a0.setIfInBounds i true).setIfInBounds j true).setIfInBounds k true)
  (hS:∀O' W,M5 (λq=>q=g1\/q=g2\/q=g3) O w O' W->S W) {m:Int} (hx:∀l,evs ((d2,l)::st) [x,y]=some [nI m,nI m]/\evs ((d3,l)::st) [x,y]=some [nI m,nI m]/\evs st [x,y]=some [nI m,nI m]/\(∀l',evs ((d3,l')::(d2,l)::st) [x,y]=some [nI m,nI m])/\∀l',evs ((d2,l')::(d3,l)::st) [x,y]=some [nI m,nI m])
  (hm:m=n) (hb:a5*n<=281474976710656) (b8:n<=9223372036854775807) (b7:ND d1 N=true) (b6:ND d2 N=true) (b5:ND d3 N=true) (c6:Nj d1 d2=false) (c5:Nj d1 d3=false) (b':Nj d2 d3=false)
  (h:∀bv sr tr W O',My (λx=>[val x]) E 1 O' W g1 bv (L1 n z0)->MW kv vv O' W g2 sr []->MW a8 a6 O' W g3 tr []->M5 (λq=>q=g1\/q=g2\/q=g3) O w O' W->Nn B O' W->
   WH P N ops S Q b9 (((a0.setIfInBounds i true).setIfInBounds j true).setIfInBounds k true) ((d3,.map (some tr))::(d2,.map (some sr))::(d1,bv)::st) W):WH P N ops S Q (b9+3) a0 st w:=by
 have two:∀ {a7:St} {m:Int},evs a7 [x,y]=some [nI m,nI m]->ev a7 x=some (nI m)/\ev a7 y=some (nI m):=fun {a7 m} h=>by
  simp only[evs]at h
  cases h1:ev a7 x<;>cases h2:ev a7 y<;>rw[h1,h2]at h<;>simp at h ⊢
  exact h
 have c7:¬(λq=>q=g1\/q=g2\/q=g3) 0:=by rintro(h|h|h)<;>omega
 have o1:∀ {O O':Nat->Nat} {w w':ln},M5 (λq=>q=g1) O w O' w'->M5 (λq=>q=g1\/q=g2\/q=g3) O w O' w':=λh=>h.mono (λ_ h=>.inl h) c7
 have o2:∀ {O O':Nat->Nat} {w w':ln},M5 (λq=>q=g2) O w O' w'->M5 (λq=>q=g1\/q=g2\/q=g3) O w O' w':=λh=>h.mono (λ_ h=>.inr (.inl h)) c7
 have o3:∀ {O O':Nat->Nat} {w w':ln},M5 (λq=>q=g3) O w O' w'->M5 (λq=>q=g1\/q=g2\/q=g3) O w O' w':=λh=>h.mono (λ_ h=>.inr (.inr h)) c7
 refine pM i j k hr hi hj hk ?_ ?_ ?_
 ·refine cg he z0 b1 h1 r g1 a3 n (two ((hx default).2.2.1)).1 (two ((hx default).2.2.1)).2 hm hm hb b8 b7 λwr Or vr _ fr ur rr _=>Mz (af (hS Or wr (o1 ur)) ?_)
  refine bK j k d5 hj hk ?_ ?_
  ·refine bD kv vv rr g2 a2 b6 λva wa Oa fa ua ra=>Mz (af (hS Oa wa ((o1 ur).J (o2 ua))) ?_)
   apply LZ k b4 hk;refine bD a8 a6 ra g3 a1 b5 λvb wb Ob fb ub rb=>Mz (af (hS Ob wb (((o1 ur).J (o2 ua)).J (o3 ub))) ?_)
   exact h vr va vb wb Ob ((fr.U ua a3 b0).U ub a3 a') (fa.U ub a2 a9) fb (((o1 ur).J (o2 ua)).J (o3 ub)) rb
  refine bD a8 a6 rr g3 a1 b5 λvb wb Ob fb ub rb=>Mz (af (hS Ob wb ((o1 ur).J (o3 ub))) ?_)
  apply LZ j b3 hj;refine bD kv vv rb g2 a2 b6 λva wa Oa fa ua ra=>Mz (af (hS Oa wa (((o1 ur).J (o3 ub)).J (o2 ua))) ?_)
  exact by rw[q1];exact λac a4=>h vr va vb wa Oa ((fr.U ub a3 a').U ua a3 b0) fa (fb.U ua a1 (λh=>a9 h.symm)) (((o1 ur).J (o3 ub)).J (o2 ua)) ra ac (a4.look λt=>(gb vr (.map (some va)) (.map (some vb)) st c6 c5 b' t).1)
 ·refine bD kv vv r g2 a2 b6 λva wa Oa fa ua ra=>Mz (af (hS Oa wa (o2 ua)) ?_)
  refine bK i k d4 hi hk ?_ ?_
  ·refine cg he z0 b1 h1 ra g1 a3 n (two ((hx _).1)).1 (two ((hx _).1)).2 hm hm hb b8 b7 λwr Or vr _ fr ur rr _=>Mz (af (hS Or wr ((o2 ua).J (o1 ur))) ?_)
   apply LZ k (by rw[c'];exact b4) hk;refine bD a8 a6 rr g3 a1 b5 λvb wb Ob fb ub rb=>Mz (af (hS Ob wb (((o2 ua).J (o1 ur)).J (o3 ub))) ?_)
   exact by rw[c'];exact λac a4=>h vr va vb wb Ob (fr.U ub a3 a') ((fa.U ur a2 (λh=>b0 h.symm)).U ub a2 a9) fb (((o2 ua).J (o1 ur)).J (o3 ub)) rb ac (a4.look λt=>(gb vr (.map (some va)) (.map (some vb)) st c6 c5 b' t).2.1)
  refine bD a8 a6 ra g3 a1 b5 λvb wb Ob fb ub rb=>Mz (af (hS Ob wb ((o2 ua).J (o3 ub))) ?_)
  apply LZ i b2 hi;refine cg he z0 b1 h1 rb g1 a3 n (two ((hx _).2.2.2.1 _)).1 (two ((hx _).2.2.2.1 _)).2 hm hm hb b8 b7 λwr Or vr _ fr ur rr _=>Mz (af (hS Or wr (((o2 ua).J (o3 ub)).J (o1 ur))) ?_)
  exact by rw[q2];exact λac a4=>h vr va vb wr Or fr ((fa.U ub a2 a9).U ur a2 (λh=>b0 h.symm)) (fb.U ur a1 (λh=>a' h.symm)) (((o2 ua).J (o3 ub)).J (o1 ur)) rr ac (a4.look λt=>(gb vr (.map (some va)) (.map (some vb)) st c6 c5 b' t).2.2.1)
 refine bD a8 a6 r g3 a1 b5 λvb wb Ob fb ub rb=>Mz (af (hS Ob wb (o3 ub)) ?_)
 refine bK i j d0 hi hj ?_ ?_
 ·refine cg he z0 b1 h1 rb g1 a3 n (two ((hx _).2.1)).1 (two ((hx _).2.1)).2 hm hm hb b8 b7 λwr Or vr _ fr ur rr _=>Mz (af (hS Or wr ((o3 ub).J (o1 ur))) ?_)
  apply LZ j (by rw[c9];exact b3) hj;refine bD kv vv rr g2 a2 b6 λva wa Oa fa ua ra=>Mz (af (hS Oa wa (((o3 ub).J (o1 ur)).J (o2 ua))) ?_)
  exact by rw[c9,q1];exact λac a4=>h vr va vb wa Oa (fr.U ua a3 b0) fa ((fb.U ur a1 (λh=>a' h.symm)).U ua a1 (λh=>a9 h.symm)) (((o3 ub).J (o1 ur)).J (o2 ua)) ra ac (a4.look λt=>(gb vr (.map (some va)) (.map (some vb)) st c6 c5 b' t).2.2.2.1)
 refine bD kv vv rb g2 a2 b6 λva wa Oa fa ua ra=>Mz (af (hS Oa wa ((o3 ub).J (o2 ua))) ?_)
 apply LZ i (by rw[c8];exact b2) hi;refine cg he z0 b1 h1 ra g1 a3 n (two ((hx _).2.2.2.2 _)).1 (two ((hx _).2.2.2.2 _)).2 hm hm hb b8 b7 λwr Or vr _ fr ur rr _=>Mz (af (hS Or wr (((o3 ub).J (o2 ua)).J (o1 ur))) ?_)
 exact by rw[c8,q2];exact λac a4=>h vr va vb wr Or fr (fa.U ur a2 (λh=>b0 h.symm)) ((fb.U ua a1 (λh=>a9 h.symm)).U ur a1 (λh=>a' h.symm)) (((o3 ub).J (o2 ua)).J (o1 ur)) rr ac (a4.look λt=>(gb vr (.map (some va)) (.map (some vb)) st c6 c5 b' t).2.2.2.2)
def ja{ops:Array Pb}{S:ln->Prop}{st:St}{a3:Nat}{a1:Array Bool}(f:α->St)(g:α->ln)(I:α->Prop)(a0:Array Bool)(a2:Nat) 
 (h1:(∀x,I x->WH P N ops S Q a2 a0 (f x) (g x))->WH P N ops S Q a3 a1 st w) (h2:∀x,I x->WH P N ops S Q a2 a0 (f x) (g x)):WH P N ops S Q a3 a1 st w:=h1 h2
def WH.leaf{ops:Array Pb}{S:ln->Prop}{st a3:St}{a1 a0:Array Bool}(h:WH P N ops S Q a2 a0 a3 w')(hl:a1=a0)(hc:Cov st a3)(hw:w'=w):WH P N ops S Q a2 a1 st w:=by
 subst hl;subst hw;exact λa ha=>h a (ha.cov hc)
end Go.VL
namespace Go.Proofs.YteolbhblkgjbhaaGreatDoor
def Jd{E:List KVR}(h:(E.map (·.1)).Nodup)(hj:j<E.length):jA E (nth E j).1=some j:=by
 rw[<-eL];refine Mj.2 ⟨by simpa using hj,by simp[aD hj],λi hi=>?_⟩;have:=Nh.1 h i j (by simp;omega) (by simpa using hj) hi;simp only[Pp]at this ⊢;rw[aD hj];simpa using this
def IB{E:List KVR}(h:(E.map (·.1)).Nodup)(hj:j<E.length):dY E (nth E j).1=(nth E j).2.2/\D3 E (nth E j).1=(nth E j).2.1:=by
 unfold dY D3;rw[lR,Jd h hj];simp only[Pg,List.getElem?_eq_getElem hj,Pj,Pf,aD hj,and_self]
structure BlI(w0:ln)(nv tv:ix)(rows:List (List Nat))(tls:List Nat)(sb:Nat)(fv bv:ix)(sr tr tb b0 m0:Nat)(O:Nat->Nat)(W:ln)(bl:List Nat)(E:List KVR)(td:List ((Int×Int)×Bool))(many:Nat):Prop where
 U:M5 (λq=>1<=q) (λ_=>0) w0 O W
 rng:Nn w0.heap.size O W
 sp:SpO O W sb nv tv fv bv sr tr rows.length (nxD rows) bl E td many
 tb:MZ O W 8 tb #[nI (b0:Nat),nI (m0:Nat)] 328
 low:∀q,O q<2000
def BlT(rows:List (List Nat))(a0:List Nat)(b0 m0:Nat)(fl:Bool)(bl:List Nat)(E:List KVR)(td:List ((Int×Int)×Bool))(many:Nat):Prop:=
 (fl=true->∃td0,BO (nxD rows) (nth a0) rows.length bl E td0 many/\td=qq td0 ((b0:Int),(m0:Int))/\b0<many/\m0<37)/\(fl=false->BO (nxD rows) (nth a0) rows.length bl E [] many)
structure BiI(w0:ln)(nv tv:ix)(rows:List (List Nat))(tls:List Nat)(sb:Nat)(fv bv:ix)(sr tr tb b0 m0 r q many0 M:Nat)(bl0:List Nat)(G:List KVR)(O:Nat->Nat)(W:ln)(left:List (Int×ix))(cur:Option (Int×ix))(bl:List Nat)(E:List KVR)(td:List ((Int×Int)×Bool))(many:Nat):Prop where
 U:M5 (λq=>1<=q) (λ_=>0) w0 O W
 rng:Nn w0.heap.size O W
 sp:SpO O W sb nv tv fv bv sr tr rows.length (nxD rows) bl E td many
 tb:MZ O W 8 tb #[nI (b0:Nat),nI (m0:Nat)] 328
 rg:Qb (λk:Int=>nI k) (λv:ix=>v) O W 2000 2001 r q left cur
 gr:∀k,k<G.length->(nth G k).1∈left.map (·.1)->My bp 3 1 O W (3000+k) (nth G k).2.1 (nth G k).2.2
 bi:BI (nxD rows) (nth tls) rows.length bl0 m0 b0 many0 left bl E td many
 ms:(rows.length-many)*37+td.length<=M
 sub:∀e∈left,e∈G.map vq
def D2{rows:List (List Nat)}{E:List KVR}(h:BO (nxD rows) (nth a0) rows.length bl E td many){a2 a1:List ((Int×Int)×Bool)}{k:Int×Int}{x:Bool}(e:td=a2++(k,x)::a1):
  ∃b0 m0:Nat,k=((b0:Int),(m0:Int))/\BlT rows a0 b0 m0 true bl E (qq td k) many/\(qq td k).length+1=td.length:=by
 have hm:(k,x)∈td:=by rw[e];simp
 obtain⟨c,j,h1,h2,h3⟩:=h.tdr _ hm;dsimp only at h3;exact⟨c,j,h3,⟨λ_=>⟨td,h,by rw[h3],h1,h2⟩,λe=>absurd e zd⟩,Af k x td hm⟩
def RightD.nx{rows:List (List Nat)}(h:RightD rows a0):∀p m,p<rows.length->m<37->nxD rows p m<rows.length:=λp m hp hm=>(h.row p hp).2 m hm
def SpO.todoN{S:Nat->Prop}{nv tv fv bv:ix}{nx:Nat->Nat->Nat}{E:List KVR}{a0:List ((Int×Int)×Bool)}(h:SpO O w sb nv tv fv bv sr tr n nx bl E td many) 
  (u:M5 S O w O' w') (hS:∀k,0<k->k<10+E.length->k≠4->k≠8->k≠9->¬S k) (ht:MW eJ Mg O' w' 4 tr a0):SpO O' w' sb nv tv fv bv sr tr n nx bl E a0 many:=
 ⟨h.blk.U u zd (hS 1 zo zo zo zo zo),h.row.U u zd (hS 2 zo zo zo zo zo),⟨h.st.map.U u zd (hS 3 zo zo zo zo zo),λk hk=>(h.st.row k hk).U u zo (hS _ zo zo zo zo zo)⟩,ht,h.frm.U u zd (hS 5 zo zo zo zo zo)⟩
def SpO.reN{nv tv fv bv:ix}{nx:Nat->Nat->Nat}{E:List KVR}(h:SpO O w sb nv tv fv bv sr tr n nx bl E td many) 
  (f:Nat->Nat) (hf:∀t,t<10+E.length->t≠8->t≠9->f t=t):SpO (reF f O) w sb nv tv fv bv sr tr n nx bl E td many:=
 ⟨h.blk.re f (hf 1 zo zo zo),h.row.re f (hf 2 zo zo zo),⟨h.st.map.re f (hf 3 zo zo zo),λk hk=>(h.st.row k hk).re f (hf _ zo zo zo)⟩,h.todo.re f (hf 4 zo zo zo),h.frm.re f (hf 5 zo zo zo)⟩
def nxF:Nat->Nat:=λt=>if t=9 then 8 else if t=8 then 0 else if t<2000 then t else 0
def J3(h:t<2000)(h8:t≠8)(h9:t≠9):nxF t=t:=by unfold nxF;rw[am h9,am h8,ap h]
def J2(t:Nat):nxF t<2000:=by unfold nxF;split;omega;split;omega;split<;>omega
def vk(nv tv:ix)(rows:List (List Nat))(b5:List Nat)(w:ln)(hn:RowsN w nv rows)(m4:Sl jx 1 w tv b5)(hr:RightD rows b5):
  Np Mk 185 [.agg #[nv,tv]] w λv w'=>
   ∃bl,Sl bp 1 w' v bl/\N1 w w'/\bl.length=rows.length/\(∀p q,p<rows.length->q<rows.length->(nth bl p=nth bl q↔Alike (nxD rows) (nth b5) p q))/\∀(B:Nat) (O:Nat->Nat),Nn B O w->NI O w' v:=by
 have t9:=hr.le;have o8:=hr.pos;have e6:=hr.tl;have d9:=hr.nx;have g2:=m4.free0 λa=>by simp
 obtain⟨vs,i6,i7,t5,o3⟩:=hn.free;apply L6 func185 ntmps185 rfl rfl;refine zh ?_;apply aQ (aA w) 7 zo rfl rfl;intro db w1 O1 i1 n3 s4 u5;have c0:=i1.cell 0 rfl;refine zh ?_;apply aO (λW=>∀j u,[nv,tv][j]? = some u->W.cell? (nA db j)=some u) 10 rfl zk;refine zin i1.drew.V λzS=>?_
 apply zt 0 rfl zS (λw1 i4=>ai (us:=[nv,tv]) i4 (MA _) (Md _) rfl);apply zrf 1 rfl zS rfl
 apply zt 2 rfl zS (λw1 i4=>RV.ld (i4 0 _ rfl) rfl);apply zr 3 rfl zS (λ_=>bH (i6.U i7 n3).sh Mp rfl)
 apply Bs 4 5 6 lK (val:=λn:Nat=>nI (n:Int)) (0:Nat) zk (λ_=>rfl) (λk:Int=>nI k) (λv:ix=>v) eJ Mg s4.drew 2 3 4 zd zd zd zd zd zd rows.length rfl rfl rfl zk zk zk zk zk zk zk zk zk zk zk zk (λO' W u=>(i1.drew.U u zd zd).V) (λl=>⟨rfl,rfl,rfl,λ_=>rfl,λ_=>rfl⟩) zo zo zo rfl rfl rfl rfl rfl rfl;intro bv sr tr w4 O4 c5 j7 j1 n2 s3;have d3:=i1.drew.U n2 zd zd;obtain⟨ba,bc,p',_⟩:=c5.sl.shape;apply zr 7 rfl d3.V (λ_=>RV.build (cells:=#[nv,tv,nS,bv,.map (some sr),.map (some tr),nI 0]) KN (zeroValue327 _) rfl (by rw[p'];rfl))
 apply LZ 8 zk rfl;apply aQ s3 1 zd rfl rfl
 intro sb w5 O5 r7 d' s2 u4;refine zh ?_;apply af ((d3.U d' zd zd).V);have l5:M5 (λq=>1<=q) (λ_=>0) w O5 w5:=((n3.mono (λ_ h=>zo) zd).J (Upd.ofDrew (n2.mono (λ_ h=>zo) zd))).J (d'.mono (λ_ h=>zo) zd);obtain⟨f,hf⟩:∃f:Nat->Nat,f=λt=>if t<=7 then t else 0:=⟨_,rfl⟩
 have f7:∀t,t<=7->f t=t:=λt ht=>by rw[hf];exact ap ht
 have s8:∀t,f t<=7:=λt=>by rw[hf];dsimp only;split<;>omega
 have l2:=l5.re f (f7 0 zd) (λb hb=>absurd rfl hb);apply zra 9 rfl ((d3.U d' zd zd).V) rfl;apply MF zk;refine zh ?_;apply zc call234 (yf w.heap.size (reF f O5) w5 sb nv tv bv sr tr b5 (s2.re f (f7 0 zd)) (r7.re f (f7 1 zd)) (by rw[e6];exact (c5.U d' zd zd).re f (f7 2 zd)) ⟨(j7.U d' zd zd).re f (f7 3 zd),λk hk=>absurd hk (L4 k)⟩ ((j1.U d' zd zd).re f (f7 4 zd)) (m4.U g2 l2) (g2.U l2) zo (λq=>by have:=s8 (O5 q);show f (O5 q)<2000;omega));rintro _ w6 ⟨O6,D,bl,E,many,td,r9,s1,r6,f8,e',i',hF,hI⟩;have m8:=hF.mi;obtain⟨g,hg⟩:∃g:Nat->Nat,g=λt=>if t<=4\/10<=t/\t<2000 then t else 0:=⟨_,rfl⟩
 have g1:∀t,(t<=4\/10<=t/\t<2000)->g t=t:=λt ht=>by rw[hg];exact ap ht
 have n8:∀t,g t<2000/\g t≠6/\g t≠5:=λt=>by rw[hg];dsimp only;split<;>omega
 have g9:=(l2.J (r9.mono (λ_ h=>zo) zd)).re g (g1 0 zd) (λb hb=>absurd rfl hb);have m6:RowsF (reF g O6) w6 nv rows:=hn.free.U g9;refine zh ?_;apply zc call235 (vi w.heap.size (reF g O6) w6 sb nv tv bv sr tr many rows b5 (s1.re g (g1 0 zd)) (r6.re g (g1 1 zd)) m6 hr (λq=>(n8 _).1) (λq=>(n8 _).2.1));rintro _ w7 ⟨O7,fv,g5,s0,q',k9⟩;obtain⟨f3,m'⟩:∃f:Nat->Nat,f=λt=>if t<2000 then t else 0:=⟨_,rfl⟩
 have b4:∀t,t<2000->f3 t=t:=λt ht=>by rw[m'];exact ap ht
 have f3lt:∀t,f3 t<2000:=λt=>by rw[m'];dsimp only;split<;>omega
 have l4:=(g9.J (g5.mono (λ_ h=>zo) zd)).re f3 (b4 0 zd) (λb hb=>absurd rfl hb);have u2:=hF.keys.len;have b8:SpO (reF f3 O7) w7 sb nv tv fv bv sr tr rows.length (nxD rows) bl E td many:=⟨q'.re f3 (b4 1 zd),((f8.re g (g1 2 zd)).U g5 zd zd).re f3 (b4 2 zd),⟨((e'.map.re g (g1 3 zd)).U g5 zd zd).re f3 (b4 3 zd),λk hk=>(((e'.row k hk).re g (g1 _ zo)).U g5 zo zo).re f3 (b4 _ zo)⟩,((i'.re g (g1 4 zd)).U g5 zd zd).re f3 (b4 4 zd),k9.re f3 (b4 5 zd)⟩
 rw[e6]at hF;have h6:BO (nxD rows) (nth b5) rows.length bl E td many:=hF.bo hI d9;have g':=s0.re f3 (b4 0 zd);have t':∀q,reF f3 O7 q<2000:=λq=>f3lt _
 generalize reF f3 O7=O8 at *;refine zh ?_;apply zc call236 (qP w.heap.size O8 w7 sb tr td g' (.inr ⟨b8.blk.tag,b8.blk.cell 5 rfl⟩) b8.todo);intro vn w8 j8;have hq:∃b0 m0 fl b',vn=.tuple #[eJ ((b0:Nat),(m0:Nat)),.bool fl]/\M5 (λq=>q=4) O8 w7 O8 w8/\MW eJ Mg O8 w8 4 tr b'/\BlT rows b5 b0 m0 fl bl E b' many:=by
  rcases j8 with⟨h0,rfl,h1,h2⟩|⟨d8,k,x,d7,e,rfl,h1,h2⟩
  ·rw[h0]at h2 h6;exact⟨0,0,false,[],rfl,h1,h2,⟨λe=>absurd e zd,λ_=>h6⟩⟩
  obtain⟨b0,m0,rfl,h3,_⟩:=D2 h6 e;exact⟨b0,m0,true,_,rfl,h1,h2,h3⟩
 obtain⟨b0,m0,fl,b',rfl,n1,i9,s7⟩:=hq;refine zh ?_;apply aw (g'.U n1) 8 zo (MO _) rfl;intro tb w9 O9 d0 n0 r' u3;apply zsa (us:=#[nI (b0:Nat),nI (m0:Nat)]) d0 (MP _);have e9:=d0.setRow (us:=#[nI (b0:Nat),nI (m0:Nat)]);have d5:M5 (λk=>k=8) O9 w9 O9 (w9.setRow tb #[nI (b0:Nat),nI (m0:Nat)]):=M1 zd d0.tag rfl;generalize w9.setRow tb #[nI (b0:Nat),nI (m0:Nat)]=w10 at *;have c7:M5 (λq=>q=4\/q=8) O8 w7 O9 w10:=((n1.mono (λ_ h=>.inl h) zd).J (n0.mono (λ_ h=>.inr h) zd)).J (d5.mono (λ_ h=>.inr h) zd);have f6:=b8.todoN c7 zo ((i9.U n0 zd zd).U d5 zd zd);have n7:=h6.keys.len;have t8:=h6.blk.many_le;have f3i:∀t,t<10+E.length->t≠8->t≠9->f3 t=t:=λt h _ _=>b4 t zo
 clear m6 hF hI;refine zh ?_;apply zlp (λz:(Nat->Nat)×World×List Nat×List KVR×List ((Int×Int)×Bool)×Nat×Nat×Nat×Nat×Bool=>[(3,nP sb),(4,.pointer (some ⟨z.2.2.2.2.2.2.1,0,none⟩)),(5,.bool z.2.2.2.2.2.2.2.2.2)]) (λz=>z.2.1) (λz=>BlI w nv tv rows b5 sb fv bv sr tr z.2.2.2.2.2.2.1 z.2.2.2.2.2.2.2.1 z.2.2.2.2.2.2.2.2.1 z.1 z.2.1 z.2.2.1 z.2.2.2.1 z.2.2.2.2.1 z.2.2.2.2.2.1/\BlT rows b5 z.2.2.2.2.2.2.2.1 z.2.2.2.2.2.2.2.2.1 z.2.2.2.2.2.2.2.2.2 z.2.2.1 z.2.2.2.1 z.2.2.2.2.1 z.2.2.2.2.2.1) (λz=>(rows.length-z.2.2.2.2.2.1)*37+z.2.2.2.2.1.length+z.2.2.2.2.2.2.2.2.2.toNat) (reF f3 O9,w10,bl,E,b',many,tb,b0,m0,fl) ⟨⟨(l4.J (c7.mono (λ_ h=>zo) zd)).re f3 (b4 0 zd) (λb hb=>absurd rfl hb),(r'.U d5).re f3 (b4 0 zd),f6.reN f3 f3i,e9.re f3 (b4 8 zd),λq=>f3lt _⟩,s7⟩;rintro⟨O11,e4,e2,E1,i3,a9,h7,b1,m1,s'⟩ ⟨hI,hT⟩;dsimp only at hI hT ⊢;refine zh ?_
 cases s' with
 |false=>
  have g3:=hT.2 rfl;have cb:e4.cell? (nA sb 3)=some bv:=hI.sp.blk.cell 3 rfl;refine zFH rfl rfl ?_;refine ah rfl rfl ⟨e2,hI.sp.row.sl,hI.U.ext,g3.blk.len,λp q hp hq=>g3.final d9 p q hp hq,λB O hO=>hI.sp.row.free zd hI.rng hO⟩
 |true=>
  obtain⟨t2,a5,j2,l1,g0⟩:=hT.1 rfl;have p6:=a5.keys;have p4:=p6.len;have p1:=a5.blk.many_le;have b7:=a5.blk.mem b1 l1;have n':e4.cell? ⟨h7,0,none⟩=some (nI (b1:Nat)):=hI.tb.cell 0 rfl;have n9:e4.cell? ⟨h7,1,none⟩=some (nI (m1:Nat)):=hI.tb.cell 1 rfl;refine zTH rfl rfl ?_;apply zv (fT MX (LX _) rfl rfl 0 rfl zd);apply zv (RV.ld (by first|exact n'|exact n9) rfl);apply zv (fT MX (LX _) rfl rfl 1 rfl zd);apply zv (RV.ld (by first|exact n'|exact n9) rfl);apply zc call237 (ye w.heap.size O11 e4 sb nv tv fv bv sr tr rows.length (nxD rows) e2 E1 i3 a9 b1 m1 hI.rng hI.sp zo g0 (λx hx=>((b7 x).1 hx).1) zo a5.blk.len (a5.blk.nd b1 l1) hI.low);rintro _ t1 ⟨r,O12,G,rfl,l3,l8,hG,hL⟩;apply pK hG.map Mh l8 2001 zd zd rfl rfl;intro q m2 O13 o7 p2 g8 l7;have a8:M5 (λq=>2000<=q) O11 e4 O13 m2:=l3.J (g8.mono (λ_ h=>zo) zd);have n6:∀k,k∈(G.map vq).map (·.1)↔k∈G.map (·.1):=λk=>by rw[PE];rfl
  have s5:((G.map vq).map (·.1)).Nodup:=by rw[PE];exact hL.nd
  obtain⟨M,hM⟩:∃M,M=(rows.length-a9)*37+i3.length:=⟨_,rfl⟩
  refine zh ?_;refine zlp (λy:(Nat->Nat)×World×List (Int×ix)×Option (Int×ix)×List Nat×List KVR×List ((Int×Int)×Bool)×Nat=>[(3,nP sb),(4,nP h7),(38,nP q)]) (λy=>y.2.1) (λy=>BiI w nv tv rows b5 sb fv bv sr tr h7 b1 m1 r q a9 M e2 G y.1 y.2.1 y.2.2.1 y.2.2.2.1 y.2.2.2.2.1 y.2.2.2.2.2.1 y.2.2.2.2.2.2.1 y.2.2.2.2.2.2.2) (λy=>y.2.2.1.length) (O13,m2,G.map vq,none,e2,E1,i3,a9) ⟨hI.U.J (a8.mono (λ_ h=>zo) zd),l7,hI.sp.U a8 zo,hI.tb.U a8 zd zd,o7,λk hk _=>(hG.row k hk).U g8 zo zo,?_,Nat.le_of_eq hM.symm,λe h=>h⟩ ?_
  ·dsimp only;rw[j2];refine a5.take b1 m1 g0 d9 _ (λk=>?_) s5;rw[n6,hL.key]
   constructor
   ·rintro⟨i,hi,e⟩;obtain⟨h1,h2⟩:=iH.1 hi;exact⟨i,h1,((b7 _).1 h2).2,e⟩
   rintro⟨i,h1,h2,e⟩;exact⟨i,iH.2 ⟨h1,(b7 _).2 ⟨d9 i m1 h1 g0,h2⟩⟩,e⟩
  rintro⟨O14,t0,left,u6,c8,E2,e5,a0⟩ hJ;dsimp only at hJ ⊢;refine zh ?_;refine rI hJ.rg zd zd rfl rfl ?_ ?_
  ·intro h0;subst h0;have b9:=hJ.bi.done;have k3:=b9.keys.len;have j9:=b9.blk.many_le;refine zh ?_;refine zFH rfl rfl ?_;refine zvH (ai (us:=[nI (b1:Nat),nI (m1:Nat)]) hJ.tb.V (NY _) (MP _) rfl) ?_;apply aw hJ.rng 9 zo (MO _) rfl;intro tc c9 O15 j5 a2 h5 s6;apply zsa (us:=#[nI (b1:Nat),nI (m1:Nat)]) j5 (MP _);have j4:=j5.setRow (us:=#[nI (b1:Nat),nI (m1:Nat)]);have a4:M5 (λk=>k=9) O15 c9 O15 (c9.setRow tc #[nI (b1:Nat),nI (m1:Nat)]):=M1 zd j5.tag rfl;generalize c9.setRow tc #[nI (b1:Nat),nI (m1:Nat)]=d6 at *;have a7:=a2.J a4;have a1:=hJ.sp.todoN a7 zo ((hJ.sp.todo.U a7 zd zd));refine zh ?_;apply zc call236 (qP w.heap.size O15 d6 sb tr e5 (h5.U a4) (.inr ⟨a1.blk.tag,a1.blk.cell 5 rfl⟩) a1.todo);intro o0 e3 f';have m7:=hJ.ms;have hq:∃b0 m0 fl b',o0=.tuple #[eJ ((b0:Nat),(m0:Nat)),.bool fl]/\M5 (λq=>q=4) O15 d6 O15 e3/\MW eJ Mg O15 e3 4 tr b'/\BlT rows b5 b0 m0 fl c8 E2 b' a0/\(rows.length-a0)*37+b'.length+fl.toNat<=M:=by
    rcases f' with⟨h0,rfl,h1,h2⟩|⟨d8,k,x,d7,e,rfl,h1,h2⟩
    ·subst h0;exact⟨0,0,false,[],rfl,h1,h2,⟨λe=>absurd e zd,λ_=>b9⟩,m7⟩
    obtain⟨b0,m0,rfl,h3,h4⟩:=D2 b9 e;exact⟨b0,m0,true,_,rfl,h1,h2,h3,by show _+_+1<=M;omega⟩
   obtain⟨b3,m3,s9,o1,rfl,g7,e7,l',o'⟩:=hq;have c':=j4.U g7 zd zd;refine zh ?_;apply zsa (us:=#[nI (b3:Nat),nI (m3:Nat)]) c' (MP _);have j3:=c'.setRow (us:=#[nI (b3:Nat),nI (m3:Nat)]);have g6:M5 (λk=>k=9) O15 e3 O15 (e3.setRow tc #[nI (b3:Nat),nI (m3:Nat)]):=M1 zd c'.tag rfl;generalize e3.setRow tc #[nI (b3:Nat),nI (m3:Nat)]=w18 at *;have a6:M5 (λq=>q=4\/q=9) O15 d6 O15 w18:=(g7.mono (λ_ h=>.inl h) zd).J (g6.mono (λ_ h=>.inr h) zd);have f5:=a1.todoN a6 zo (e7.U g6 zd zd);have r8:=(hJ.U.J (a7.mono (λ_ h=>zo) zd)).J (a6.mono (λ_ h=>zo) zd);refine zh ?_;refine zx (reF nxF O15,w18,c8,E2,o1,a0,tc,b3,m3,s9) ⟨⟨r8.re nxF rfl (λb hb=>absurd rfl hb),((h5.U a4).U a6).re nxF rfl,f5.reN nxF (λt h h8 h9=>J3 zo h8 h9),j3.re nxF rfl,λq=>J2 _⟩,l'⟩ (by dsimp only;show _<_+1;omega)
  intro d8 k v d7 c9 k0 b6 a2;subst k0;have m9:k∈G.map (·.1):=(n6 k).1 (N0.2 ⟨_,hJ.sub _ (MD _ (MS ..)),rfl⟩);obtain⟨i0,u0,p5⟩:=(hL.key k).1 m9;obtain⟨kn,p3⟩:∃kn:Nat,k=(kn:Int):=⟨_,p5.symm⟩
  subst p3;obtain⟨e0,p9,p8⟩:=N0.1 (hJ.sub _ (MD _ (MS ..)));obtain⟨j,hj,p7⟩:=cu p9;subst p7;obtain⟨k4,o4⟩:=Ny p8;have m5:=hJ.gr j hj (by rw[k4];simp);obtain⟨h',t6⟩:=IB hL.nd hj;obtain⟨L,n5⟩:∃L,L=(nth G j).2.2:=⟨_,rfl⟩
  rw[o4,<-n5]at m5;rw[k4,<-n5]at h';have i2:∀x,x∈L↔x<rows.length/\nth e2 x=kn/\nth e2 (nxD rows x m1)=b1:=λx=>by rw[<-h'];exact hL.mem (λx hx=>d9 x m1 hx g0) b7 kn x
  have n4:L.Nodup:=by rw[<-h'];exact hL.rnd (a5.blk.nd b1 l1) _
  have l9:L≠[]:=by rw[<-h'];exact hL.ne m9
  obtain⟨k1,u1⟩:=hJ.bi.here i2;have k5:=hJ.bi.keys;have k3:=k5.len;have j9:=hJ.bi.blk.many_le;have g4:=hJ.bi.blk.len;have a3:=hJ.sp.U a2 zo;have a':=m5.U a2 zo zo;have c6:=a3.st.at (kn:Int);have o6:=a'.sl.len_le;have o5:=c6.sl.len_le;have cs:c9.cell? (nA sb 4)=some (.map (some sr)):=a3.blk.cell 4 rfl;obtain⟨t4,o2,t3⟩:=sI hJ.bi.nd;refine zh ?_;refine zTH rfl rfl ?_;refine zvH (Qa b6 rfl) ?_;refine zvH (bH a'.sl.sh L0 rfl) ?_;apply zv (Mu a3.st.map Mh qT (Nc _) (kn:Int) rfl rfl rfl (mP E2 _));refine zvH (bH c6.sl.sh L0 rfl) ?_;refine zC ?_ ?_
  ·intro j';replace j':L.length<(dY E2 (kn:Int)).length:=by have:=of_decide_eq_true j';omega
   have k':=hJ.bi.cut d9 a5.blk.alike g0 i2 n4 l9 j' v;refine zh ?_;apply zc call238 (yc w.heap.size O14 c9 sb nv tv fv bv sr tr rows.length (nxD rows) c8 E2 e5 a0 kn (3000+j) v L (hJ.rng.U a2) a3 a' k5 zo (λx hx=>by rw[g4];exact((i2 x).1 hx).1) zo k1 (λx hx=>by rw[g4];exact((hJ.bi.blk.mem kn k1 x).1 hx).1));rintro _ d6 ⟨v',O16,a4,l6,l0,d1,f4,k6,e8⟩;have a1:=a3.cut k5 k1 zo a' a4 (λq h=>h) l0 d1 f4 k6 e8;obtain⟨f,hf⟩:∃f,f=IN (3000+j) (10+a0):=⟨_,rfl⟩
   have e1:∀t,t≠3000+j->f t=t:=λt ht=>by rw[hf];exact sF ht
   rw[<-hf]at a1;have b2:=k' v' (decide ((ie (λx=>nth (df c8 a0 L) x==a0) (dY E2 (kn:Nat))).length<L.length));have p0:=b2.blk.many_le;generalize decide ((ie (λx=>nth (df c8 a0 L) x==a0) (dY E2 (kn:Nat))).length<L.length)=lt at a1 b2;have i8:=BN e5 kn a0 lt 37;generalize tdL e5 kn a0 lt 37=td5 at a1 b2 i8;generalize dc (dc E2 (a0:Int) (v,L)) (kn:Int) (v',ie (λx=>nth (df c8 a0 L) x==a0) (dY E2 (kn:Nat)))=E3 at a1 b2;generalize df c8 a0 L=bl3 at a1 b2;have m7:=hJ.ms;have d4:M5 (λq=>1<=q) (λ_=>0) w O16 d6:=(hJ.U.J (a2.mono (λ_ h=>zo) zd)).J (a4.mono (λ_ h=>zo) zo);refine zh ?_;refine zx (reF f O16,d6,d8++d7,some ((kn:Int),v),bl3,E3,td5,a0+1) ⟨d4.re f (e1 0 zo) (λb hb=>absurd rfl hb),l6.re f (e1 0 zo),a1,((hJ.tb.U a2 zd zd).U a4 zd zo).re f (e1 8 zo),(b6.U a4 zd zd zo zo).re f (e1 _ zo) (e1 _ zo),λk2 d2 hm=>?_,b2,?_,λe he=>hJ.sub e ?_⟩ (by dsimp only;simp)
   ·have t7:k2≠j:=λe=>by
     subst e;exact o2 (by rw[<-k4];exact hm)
    have k7:(nth G k2).1∈(d8++((kn:Int),v)::d7).map (·.1):=by
     simp only[Mq,Mb,Ma,M0]at hm ⊢
     rcases hm with hm|hm
     ·exact .inl hm
     exact .inr (.inr hm)
    exact(((hJ.gr k2 d2 k7).U a2 zo zo).U a4 zo zo).re f (e1 _ zo)
   ·dsimp only;omega
   rcases Ma.1 he with he|he
   ·exact MG _ he
   exact MD _ (Mi _ he)
  intro k8;replace k8:(dY E2 (kn:Int)).length<=L.length:=dF k8;have k':=hJ.bi.skip i2 n4 k8;refine zh ?_;refine zx (O14,c9,d8++d7,some ((kn:Int),v),c8,E2,e5,a0) ⟨hJ.U.J (a2.mono (λ_ h=>zo) zd),hJ.rng.U a2,a3,hJ.tb.U a2 zd zd,b6,λk2 d2 hm=>?_,k',hJ.ms,λe he=>hJ.sub e ?_⟩ (by dsimp only;simp)
  ·have k7:(nth G k2).1∈(d8++((kn:Int),v)::d7).map (·.1):=by
    simp only[Mq,Mb,Ma,M0]at hm ⊢
    rcases hm with hm|hm
    ·exact .inl hm
    exact .inr (.inr hm)
   exact(hJ.gr k2 d2 k7).U a2 zo zo
  rcases Ma.1 he with he|he
  ·exact MG _ he
  exact MD _ (Mi _ he)
end Go.Proofs.YteolbhblkgjbhaaGreatDoor
section
namespace Go.VL
section
variable{κ ν:Type}[DecidableEq κ]{kv:κ→ix}{vv:ν→ix}{P:Nw}{N:Nat}{ops:Array Pb}{Q:PK→Qf→ln→Prop}{rest:List Pb}{st:St}{w:ln}{t:N8}{p:String}{e:Array Qd}{x y z:Pk}
def WL.insert{T K E:N8}{O:Nat->Nat}{i r:Nat}{l:List (κ×ν)}(hm:MW kv vv O w i r l)(hT:P.underlying T=some (.map K E))(hK:KeyL P K kv)(a0:i≠0) 
  (k:κ) (u:ν) {kx ux:ix} (hx:ev st x=some (.map (some r))) (hy:ev st y=some kx) (hz:ev st z=some ux) (hk:kx=kv k) (hu:ux=vv u)
  (h:∀w',MW kv vv O w' i r (dc l k u)->M5 (λj=>j=i) O w O w'->WL P N ops Q rest st w'):WL P N ops Q (⟨none,.insert T x y z,t,p,e,none⟩::rest) st w:=by
 subst hk;subst hu;obtain⟨w',h1,h2,h3⟩:=eA hT hK hm a0 k u;exact iZ (λa ha=>by simp only[execOp,ha.ev hx,ha.ev hy,ha.ev hz,PF,h1,Pa,Sem.run_pure]) (h w' h2 h3)
end
end Go.VL
namespace Go.VL
open Go.Proofs
def RowT.freeRe{l:List α}(h:My enc E sz O w i v l)(hi:i≠0)(r:Nn B O w)(f:Nat->Nat)(hf:f i=0):NI (reF f O) w v:=λa n c e _=>by
 have h1:=h.1.tag a.block (by subst e;rfl);exact⟨by unfold reF;rw[h1];exact hf,(r.rng a.block (by rw[h1];exact hi)).2⟩
def Free.re(h:NI O w v)(f:Nat->Nat)(hf:f 0=0):NI (reF f O) w v:=λa n c e hn=>⟨by unfold reF;rw[(h a n c e hn).1];exact hf,(h a n c e hn).2⟩
end Go.VL
namespace Go.Proofs.YteolbhblkgjbhaaGreatDoor
open Go.VL Go.Proofs
set_option maxRecDepth 10000
def RwO.re{O:Nat->Nat}{w:ln}{i:Nat}{v:ix}{vs:List ix}{rows:List (List Nat)}(h:RwO O w i v vs rows)(f:Nat->Nat)(h0:f 0=0)(hi:f i=i):RwO (reF f O) w i v vs rows:=
 ⟨h.row.re f hi,h.len,λk hk=>⟨(h.at_ k hk).1,(h.at_ k hk).2.re f h0⟩⟩
def Df{s:Nat}(h:zO cl F s=none):zO cl (F++[s]) t=if cl s=cl t then some F.length else zO cl F t:=by
 unfold zO at h ⊢;rw[P8]
 by_cases e:cl s=cl t
 ·rw[ap e];have:Nx (λo=>cl o==cl t) F=none:=by rw[<-e];exact h
  rw[this];simp[MT,e]
 rw[am e]
 cases Nx (λo=>cl o==cl t) F with
 |some k=>simp
 |none=>simp[MT,e]
def NumI(cl:Nat->Nat)(D:List (Int×Int))(F:List Nat):Prop:=∀t,bI D ((cl t:Nat):Int)=(zO cl F t).map λk:Nat=>(k:Int)
def Bu(cl:Nat->Nat):NumI cl (dc [] ((cl 0:Nat):Int) 0) [0]:=λt=>by
 simp only[dc,bI,zO,MT,List.findIdx?_nil]
 by_cases e:cl 0=cl t
 ·rw[ap (by rw[e]),ap (by simpa using e)];rfl
 rw[am zo,am (by simpa using e)];rfl
def NumI.add(h:NumI cl D F){s:Nat}(hs:zO cl F s=none):NumI cl (dc D ((cl s:Nat):Int) (F.length:Int)) (F++[s]):=λt=>by
 rw[bx,Df hs]
 by_cases e:cl s=cl t
 ·rw[ap (by rw[e]),ap e];rfl
 rw[am zo,am e];exact h t
def yd(nv tv:ix)(rows:List (List Nat))(a':List Nat)(w:ln)(hn:RowsN w nv rows)(i8:Sl jx 1 w tv a')(hr:RightD rows a'):
  Np Mk 130 [.agg #[nv,tv]] w λv w'=>
   ∃cl nv' tv',v=.agg #[nv',tv']/\nv'.oneCell'=true/\tv'.oneCell'=true/\N1 w w'/\(∀p q,p<rows.length->q<rows.length->(cl p=cl q↔Alike (nxD rows) (nth a') p q))/\RowsG w.heap.size w' nv' (bm cl rows a').1/\Sl jx 1 w' tv' (bm cl rows a').2/\P1 w.heap.size tv':=by
 have v1:=hr.le;have n3:=hr.pos;have s7:=hr.tl;have n5:=hr.nx;obtain⟨vs,m9,n0,u',m'⟩:=hn.free;have f6:=i8.free0 λa=>by simp
 apply L6 func130 ntmps130 rfl rfl;refine zh ?_
 apply aQ (aA w) 1 zo rfl rfl;intro db w1 O1 k7 t9 u3 v7;apply aw u3 2 zo (ME _) rfl
 intro cb w2 O2 k9 r9 r' v6;have g8:=k7.U r9 zd zd;have i1:M5 (λq=>1<=q) (λ_=>0) w O2 w2:=(t9.mono (λ_ h=>zo) zd).J (r9.mono (λ_ h=>zo) zd);refine zh ?_;apply zv (ai (us:=[nv,tv]) g8.V (MA _) (Md _) rfl);apply zc Q6 (kB nv tv rows a' w2 (hn.ext i1.ext) (i8.ext i1.ext) hr);rintro _ w3 ⟨rfl,u7⟩;have l0:M5 (λ_=>False) O2 w2 O2 w3:=ae (λh=>h) O2 u7;have g7:=g8.U l0 zd (λh=>h);have k8:=k9.U l0 zd (λh=>h);have i0:=i1.J (l0.mono (λ_ h=>h.elim) zd);refine zh ?_;refine zFH rfl rfl ?_;apply zv (ai (us:=[nv,tv]) g7.V (MA _) (Md _) rfl);apply zc call185 (vk nv tv rows a' w3 (hn.ext i0.ext) (i8.ext i0.ext) hr);rintro bv w4 ⟨bl,e0,u6,t8,h5,o7⟩;have l9:M5 (λ_=>False) O2 w3 O2 w4:=ae (λh=>h) O2 u6;have g6:=g7.U l9 zd (λh=>h);have h0:=k8.U l9 zd (λh=>h);have o8:NI O2 w4 bv:=o7 _ _ (r'.U l0);have t7:∀p q,p<rows.length->q<rows.length->(nth bl p=nth bl q↔Alike (nxD rows) (nth a') p q):=h5;obtain⟨cl,d'⟩:∃cl,cl=nth bl:=⟨_,rfl⟩
 have b0:w4.cell? (adr bv 1 0)=some (nI ((cl 0:Nat):Int)):=by have:=e0.cell (i:=0) (j:=0) zo rfl;rw[ax]at this;rw[d'];exact this
 refine zh ?_;apply bD (λk:Int=>nI k) (λv:Int=>nI v) ((r'.U l0).U l9) 3 zd rfl
 intro r w5 O5 s1 p1 u1;have h3:=e0.U o8 p1;have v8:w5.cell? (adr bv 1 0)=some (nI ((cl 0:Nat):Int)):=by have:=h3.cell (i:=0) (j:=0) zo rfl;rw[ax]at this;rw[d'];exact this
 refine zh ?_;refine zvH (aj h3.sh L0 (LX _) rfl rfl 0 rfl zo) ?_
 apply WL.insert s1 Mv qT zd ((cl 0:Nat):Int) (0:Int) rfl rfl rfl rfl rfl;intro w6 s0 p0;have e4:=p1.J p0;have o4:=g6.U e4 zd zd;have o5:=h0.U e4 zd zd;have u0:=u1.U p0;refine zh ?_
 apply aN lK (enc:=bp) u0 4 zd (0:Nat) rfl rfl rfl zd rfl;intro s5 w7 O7 j' o' t';refine zh ?_
 apply aw t' 5 zo (ME _) rfl;intro ob w8 O8 g0 l' p5 v5;have b9:M5 (λq=>3<=q) O2 w4 O8 w8:=((e4.mono (λ_ h=>zo) zd).J (o'.mono (λ_ h=>zo) zd)).J (l'.mono (λ_ h=>zo) zd);have l3:=(o'.mono (S':=λq=>q=4\/q=5) (λ_ h=>.inl h) zd).J (l'.mono (λ_ h=>.inr h) zd);have p9:=s0.U l3 zd zd;have f9:=j'.U l' zd zd;have b4:=(i0.J (l9.mono (λ_ h=>h.elim) zd)).J (b9.mono (λ_ h=>zo) zd);have o6:=e0.U o8 b9;have h4:=o8.U b9;have d9:=g6.U b9 zd zd;have g':=h0.U b9 zd zd;obtain⟨f7,r8⟩:∃f:Nat->Nat,f=λt=>if t<=7 then t else 0:=⟨_,rfl⟩
 have f7i:∀t,t<=7->f7 t=t:=λt ht=>by rw[r8];exact ap ht
 have f7l:∀t,f7 t<=7:=λt=>by rw[r8];dsimp only;split<;>omega
 replace p9:=p9.re f7 (f7i 3 zd);replace f9:=f9.re f7 (f7i 4 zd);replace g0:=g0.re f7 (f7i 5 zd);replace d9:=d9.re f7 (f7i 1 zd);replace g':=g'.re f7 (f7i 2 zd);replace p5:=p5.re f7 (f7i 0 zd);replace b4:=b4.re f7 (f7i 0 zd) (λb hb=>absurd rfl hb);replace h4:=h4.re f7 (f7i 0 zd);have u4:∀b,reF f7 O8 b<=7:=λb=>f7l _
 generalize reF f7 O8=O8' at *;clear e0 h3 g8 g7 k9 k8 k7 h0 g6 s1 s0 j' l3 o' l' e4 p1 p0 b9 o4 o5;refine zh ?_;apply zlp (λz:Nat×(Nat->Nat)×World×List (Int×Int)×List Nat×ix×ix×ix×List ix×List (List Nat)×List Nat=>[(1,nP db),(2,nP cb),(3,bv),(4,.map (some r)),(5,z.2.2.2.2.2.1),(6,nP ob),(7,nI z.1)]) (λz=>z.2.2.1) (λz=>M5 (λq=>3<=q) O8' w8 z.2.1 z.2.2.1/\Nn w.heap.size z.2.1 z.2.2.1/\MW (λk:Int=>nI k) (λv:Int=>nI v) z.2.1 z.2.2.1 3 r z.2.2.2.1/\NumI cl z.2.2.2.1 z.2.2.2.2.1/\My bp 3 1 z.2.1 z.2.2.1 4 z.2.2.2.2.2.1 z.2.2.2.2.1/\MZ z.2.1 z.2.2.1 5 ob #[z.2.2.2.2.2.2.1,z.2.2.2.2.2.2.2.1] 170/\RwO z.2.1 z.2.2.1 6 z.2.2.2.2.2.2.1 z.2.2.2.2.2.2.2.2.1 z.2.2.2.2.2.2.2.2.2.1/\My jx 24 1 z.2.1 z.2.2.1 7 z.2.2.2.2.2.2.2.1 z.2.2.2.2.2.2.2.2.2.2/\LI cl (nxD rows) (nth a') rows.length z.1 z.2.2.2.2.1 z.2.2.2.2.2.2.2.2.2.1 z.2.2.2.2.2.2.2.2.2.2/\gi cl (nxD rows) (nth a') (rows.length+1-z.1) z.1 z.2.2.2.2.1 z.2.2.2.2.2.2.2.2.2.1 z.2.2.2.2.2.2.2.2.2.2=bm cl rows a'/\(∀k,k<z.2.2.2.2.2.2.2.2.2.1.length->P1 w.heap.size (nth z.2.2.2.2.2.2.2.2.1 k))) (λz=>rows.length-z.1) (0,O8',w8,dc [] ((cl 0:Nat):Int) (0:Int),[0],s5,nS,nS,[],[],[]) ⟨N6 zd _ _,p5,p9,Bu cl,f9,g0,⟨M9 _ _ _ _ _ _,rfl,λk hk=>absurd hk (L4 k)⟩,M9 _ _ _ _ _ _,od n3,rfl,λk hk=>absurd hk (L4 k)⟩;rintro⟨i,O9,w9,D,F,j0,i7,f5,i6,a7,i'⟩ ⟨h9,m0,m4,l5,b7,f',c7,d7,f4,i9,g4⟩
 dsimp only at h9 m0 m4 l5 b7 f' c7 d7 f4 i9 g4 ⊢;have v4:=f4.reps.len;have t1:=b7.sl.len_le;have v0:=f4.rl;have s8:=f4.tln;have n2:=c7.len;refine zh ?_;refine zvH (bH b7.sl.sh L0 rfl) ?_;refine zC ?_ ?_
 ·intro g5;replace g5:i<F.length:=dT g5;obtain⟨fu,o3⟩:∃fu,rows.length+1-i=fu+1:=⟨rows.length-i,zo⟩
  rw[o3,gi,ap g5]at i9;have n':rows.length+1-(i+1)=fu:=zo;have p7:=f4.next g5 n5;obtain⟨p,hp⟩:∃p,p=nth F i:=⟨_,rfl⟩
  have l6:p<rows.length:=by rw[hp];exact f4.reps.lt _ (aZ g5)
  rw[<-hp]at i9 p7;have h8:=b4.J (h9.mono (λ_ h=>zo) zd);have m8:=m9.U n0 h8;obtain⟨r7,k5⟩:=m' p l6;have v2:=r7.U k5 h8;obtain⟨s4,u9⟩:=hr.row p l6;have m1:w9.cell? (adr j0 1 i)=some (nI (p:Int)):=by have:=b7.sl.cell (i:=i) (j:=0) g5 rfl;rw[ax]at this;rw[hp];exact this
  have m2:w9.cell? (nA db 0)=some nv:=(d9.U h9 zd zd).cell 0 rfl;have m3:w9.cell? (adr nv 1 p)=some (nth vs p):=by have:=m8.cell (i:=p) (j:=0) zo rfl;rwa[ax]at this
  refine zh ?_;apply Q9 zk zk
  refine zh ?_;refine zwH (aj b7.sl.sh L0 (LX _) rfl rfl i rfl zo) ?_
  apply WS.nil;refine zh ?_
  rw[s4];have n9:=λm=>si (p:=p) f4.reps (λm hm=>n5 p m l6 hm) m
  apply zlp (λy:Nat×(Nat->Nat)×World×List (Int×Int)×Value×ix=>[(1,nP db),(2,nP cb),(3,bv),(4,.map (some r)),(5,y.2.2.2.2.1),(6,nP ob),(7,nI (i:Nat)),(8,y.2.2.2.2.2),(38,nth vs p),(39,nI (37:Nat)),(40,nI y.1)]) (λy=>y.2.2.1) (λy=>y.1<=37/\M5 (λq=>q=3\/q=4\/q=8) O9 w9 y.2.1 y.2.2.1/\Nn w.heap.size y.2.1 y.2.2.1/\MW (λk:Int=>nI k) (λv:Int=>nI v) y.2.1 y.2.2.1 3 r y.2.2.2.1/\NumI cl y.2.2.2.1 (jM cl (nxD rows) p F y.1).1/\My bp 3 1 y.2.1 y.2.2.1 4 y.2.2.2.2.1 (jM cl (nxD rows) p F y.1).1/\My bp 3 1 y.2.1 y.2.2.1 8 y.2.2.2.2.2 (jM cl (nxD rows) p F y.1).2) (λy=>37-y.1) (0,O9,w9.drew,D,j0,nS) ⟨L3 _,ae zd O9 (M4 w9).drew,m0.drew,⟨m4.blk,m4.tag,m4.born⟩,l5,b7.drew,M9 _ _ _ _ _ _⟩;rintro⟨j,O10,m5,D10,b6,rv⟩ ⟨hj,a9,b',b1,c5,a2,a0⟩;dsimp only at hj a9 b' b1 c5 a2 a0 ⊢;have l7:=n9 j hj;have n8:=l7.len;have n7:=l7.reps.len;have l1:=h8.J (a9.mono (λ_ h=>zo) zd);refine zh ?_
  refine zC ?_ ?_
  ·intro k4;replace k4:j<37:=dT k4;have n6:=r7.U k5 l1;obtain⟨to,n1⟩:∃to,to=nxD rows p j:=⟨_,rfl⟩
   have s6:to<rows.length:=by rw[n1];exact n5 p j l6 k4
   have k':=o6.U h4 ((h9.J (a9.mono (λ_ h=>zo) zd)));have k1:m5.cell? (adr (nth vs p) 1 j)=some (nI (to:Int)):=by have:=n6.cell (i:=j) (j:=0) zo rfl;rw[ax]at this;rw[n1];exact this
   have k2:m5.cell? (adr bv 1 to)=some (nI ((cl to:Nat):Int)):=by have:=k'.cell (i:=to) (j:=0) zo rfl;rw[ax]at this;rw[d'];exact this
   have l8:=c5 to;have e1:jM cl (nxD rows) p F (j+1)=(fnF cl (jM cl (nxD rows) p F j).1 to,(jM cl (nxD rows) p F j).2++[fnI cl (jM cl (nxD rows) p F j).1 to]):=by rw[n1];rfl
   refine zh ?_
   cases h6:zO cl (jM cl (nxD rows) p F j).1 to with
   |some k=>
    rw[h6]at l8;have h1:fnF cl (jM cl (nxD rows) p F j).1 to=(jM cl (nxD rows) p F j).1:=by unfold fnF;rw[h6];rfl
    have h2:fnI cl (jM cl (nxD rows) p F j).1 to=k:=by unfold fnI;rw[h6];rfl
    rw[h1,h2]at e1;refine zvH (dr (u:=.tuple #[nI (k:Int),.bool true]) b1 Mv qT (Mo _) ((cl to:Nat):Int) rfl rfl rfl (by rw[l8];rfl)) ?_;refine zFH rfl rfl ?_;apply MV lK a0 b' ((k:Nat)) (λ_=>rfl) rfl rfl rfl (by simp[L5]) zo zo zo zd rfl rfl;intro m6 wz Oz c8 b8 p4;refine zh ?_;refine zxd (j+1,Oz,wz,D10,b6,m6) ⟨k4,a9.J (b8.mono (λ_ h=>zo) zd),p4,b1.U b8 zd zd,by dsimp only;rw[e1];exact c5,by dsimp only;rw[e1];exact a2.U b8 zd zd,by dsimp only;rw[e1];exact c8⟩
   |none=>
    rw[h6]at l8;have h1:fnF cl (jM cl (nxD rows) p F j).1 to=(jM cl (nxD rows) p F j).1++[to]:=by unfold fnF;rw[h6];rfl
    have h2:fnI cl (jM cl (nxD rows) p F j).1 to=(jM cl (nxD rows) p F j).1.length:=by unfold fnI;rw[h6];rfl
    rw[h1,h2]at e1;have u5:=c5.add h6;refine zvH (dr (u:=.tuple #[nI 0,.bool false]) b1 Mv qT (Mo _) ((cl to:Nat):Int) rfl rfl rfl (by rw[l8];rfl)) ?_;refine zTH rfl rfl ?_;refine zvH (bH a2.sl.sh L0 rfl) ?_;apply Mt b1 Mv qT zd ((cl to:Nat):Int) (((jM cl (nxD rows) p F j).1.length:Nat):Int) rfl rfl rfl rfl rfl;intro i5 p' a5;have i3:=b'.U a5;have k0:=a2.U a5 zd zd;have a8:=a0.U a5 zd zd;refine zh ?_;apply MV lK k0 i3 ((to:Nat)) (λ_=>rfl) rfl rfl rfl (by simp[L5]) zo zo zo zd rfl rfl;intro m7 d6 O12 a3 b3 i2;have f8:=a8.U b3 zd zd;have i4:=p'.U b3 zd zd;refine zh ?_;apply MV lK f8 i2 (((jM cl (nxD rows) p F j).1.length:Nat)) (λ_=>rfl) rfl rfl rfl (by simp[L5]) zo zo zo zd rfl rfl;intro m6 wz Oz c8 b8 p4;refine zh ?_;refine zxd (j+1,Oz,wz,dc D10 ((cl to:Nat):Int) (((jM cl (nxD rows) p F j).1.length:Nat):Int),m7,m6) ⟨k4,((a9.J (a5.mono (λ_ h=>.inl h) zd)).J (b3.mono (λ_ h=>.inr (.inl h)) zd)).J (b8.mono (λ_ h=>.inr (.inr h)) zd),p4,i4.U b8 zd zd,by dsimp only;rw[e1];exact u5,by dsimp only;rw[e1];exact a3.U b8 zd zd,by dsimp only;rw[e1];exact c8⟩
  intro t4;obtain rfl:j=37:=dF t4;generalize v3:jM cl (nxD rows) p F 37=RQ at *;obtain⟨F2,r2⟩:=RQ;dsimp only at l7 n8 n7 c5 a2 a0 i9 p7;obtain⟨ra,rc,t0,_⟩:=a0.sl.shape;subst t0
  -- the row is nobody's now
  obtain⟨f,hf⟩:∃f:Nat->Nat,f=IN 8 0:=⟨_,rfl⟩
  have e5:∀t,t≠8->f t=t:=λt ht=>by rw[hf];exact sF ht
  have f3:=(h9.J (a9.mono (S':=λq=>3<=q) (λ_ h=>zo) zd)).re f (e5 0 zd) (λb _=>e5 _ (by have:=u4 b;omega));have l4:=b'.re f (e5 0 zd);have s9:=a0.sl;have q':=a0.freeRe zd b' f (by rw[hf];exact Cx _ _);replace a2:=a2.re f (e5 4 zd);replace b1:=b1.re f (e5 3 zd);have e9:=(f'.U a9 zd zd).re f (e5 5 zd);have b5:=(c7.U a9 zd zd).re f (e5 0 zd) (e5 6 zd);have j5:=(d7.U a9 zd zd).re f (e5 7 zd);have s':=a0.newV zd b';clear a0;generalize reF f O10=O11 at *;have k6:=d9.U f3 zd zd;obtain⟨qF,r6⟩:=l7.pre;have n4:nth F2 i=p:=by rw[r6,aC,ap g5,hp]
  have hF2l:F.length<=F2.length:=by rw[r6];simp
  have o0:m5.cell? (nA ob 0)=some i7:=e9.cell 0 rfl;refine zh ?_;apply MV G2 b5.row l4 ((.slice ra r2.length rc:ix)) (λ_=>rfl) rfl rfl rfl (by simp[L5]) zo zo zo zd rfl rfl;intro b2 i5 O12 a8 a5 i3;have c':=e9.U a5 zd zd
  have j8:RwO O12 i5 6 b2 (i6++[.slice ra r2.length rc]) (a7++[r2]):=⟨a8,by simp[n2],λk hk=>by
   rw[aC,aC]
   by_cases e:k<a7.length
   ·rw[ap zo,ap e];exact⟨(b5.at_ k e).1.U (b5.at_ k e).2 a5,(b5.at_ k e).2.U a5⟩
   have t3:k=a7.length:=by simp at hk;omega
   subst t3;rw[am zo,am e,show a7.length-i6.length=0 from by omega,Nf,ar,ar]
   exact⟨s9.U q' a5,q'.U a5⟩⟩
  refine zh ?_;apply ao (j:=0) c' rfl (Pd _) a8.one rfl rfl rfl
  have b3:M5 (λj=>j=5) O12 i5 O12 (i5.setCell ⟨ob,0,none⟩ b2):=MB zd c'.tag rfl;have e8:MZ O12 (i5.setCell ⟨ob,0,none⟩ b2) 5 ob #[b2,f5] 170:=c'.set 0 _;have j7:=j8.U b3 zd zd;have i2:=i3.U b3;generalize i5.setCell ⟨ob,0,none⟩ b2=d6 at *;have a6:=(a5.mono (S':=λq=>q=5\/q=6) (λ_ h=>.inr h) zd).J (b3.mono (λ_ h=>.inl h) zd);have j4:=j5.U a6 zd zd;have a3:=a2.U a6 zd zd;have i4:=b1.U a6 zd zd;have d0:=k6.U a6 zd zd;have d5:=f3.J (a6.mono (λ_ h=>zo) zd);have j3:=i8.U f6 (b4.J (d5.mono (λ_ h=>zo) zd));refine zh ?_;have d1:d6.drew.cell? (nA db 1)=some tv:=d0.cell 1 rfl;have d2:d6.drew.cell? (adr b6 1 i)=some (nI (p:Int)):=by have:=a3.sl.cell (i:=i) (j:=0) zo rfl;rw[ax,n4]at this;exact this
  have d3:d6.drew.cell? (adr tv 1 p)=some (.int .u64 ((nth a' p:Nat):Int)):=by have:=j3.cell (i:=p) (j:=0) zo rfl;rwa[ax]at this
  have d4:d6.drew.cell? (nA ob 1)=some f5:=e8.cell 1 rfl;have o9:M5 (λ_=>False) O12 d6 O12 d6.drew:=ae (λh=>h) O12 (M4 d6).drew;apply aO (λW=>W.cell? (nA db 1)=some tv/\W.cell? (adr b6 1 i)=some (nI (p:Int))/\W.cell? (adr tv 1 p)=some (.int .u64 ((nth a' p:Nat):Int))) 14 rfl zk;refine zin ⟨d1,d2,d3⟩ λzS=>?_
  apply zrf 0 rfl zS rfl;apply zrf 2 rfl zS rfl
  apply zt 3 rfl zS (λw1 j1=>RV.ld j1.1 rfl);apply zrm 4 rfl zS rfl
  apply zrm 5 rfl zS rfl;apply zr 6 rfl zS (λ_=>aj a3.sl.sh L0 (LX _) rfl rfl i rfl zo)
  apply zt 7 rfl zS (λw1 j1=>RV.ld j1.2.1 rfl);apply zr 8 rfl zS (λ_=>aj j3.sh Q3 (sizeOf24 _) rfl rfl p rfl zo)
  apply zt 9 rfl zS (λw1 j1=>RV.ld j1.2.2 rfl);apply cG 1 10 nD (enc:=jx) (nth a' p) rfl rfl zk zk zk zk (λW hE=>P6 (hE.cell d4) (Q4 _) rfl) (λW hE=>⟨hE.cell d1,hE.cell d2,hE.cell d3⟩) rfl rfl rfl zd rfl rfl rfl rfl rfl
  intro s3 s2 j6 p8;have h7:M5 (λ_=>False) O12 d6 O12 s2:=o9.J (ae (λh=>h) O12 p8);apply LZ 11 zk rfl;apply aF nD (j4.U h7 zd (λh=>h)) (i2.U h7) j6 (by simp) rfl rfl (by simp) (by simp[L5]) (by rw[L7];omega) (by rw[L7];omega) zd rfl;intro c6 e6 O15 e7 p2 p6;have a4:M5 (λq=>q=7) O12 d6 O15 e6:=(h7.mono (λ_ h=>h.elim) zd).J p2;have c9:=e8.U a4 zd zd;have l2:=d5.J (a4.mono (λ_ h=>zo) zd);have e1:e6.cell? (nA db 1)=some tv:=(d0.U a4 zd zd).cell 1 rfl;have e2:e6.cell? (adr b6 1 i)=some (nI (p:Int)):=by have:=(a3.U a4 zd zd).sl.cell (i:=i) (j:=0) zo rfl;rw[ax,n4]at this;exact this
  have e3:e6.cell? (adr tv 1 p)=some (.int .u64 ((nth a' p:Nat):Int)):=by have:=(i8.U f6 (b4.J (l2.mono (λ_ h=>zo) zd))).cell (i:=p) (j:=0) zo rfl;rwa[ax]at this
  refine zh ?_;apply af ⟨e1,e2,e3⟩
  apply zrf 12 rfl ⟨e1,e2,e3⟩ rfl;apply LZ 13 zk rfl
  apply ao (j:=1) c9 rfl (NX _) e7.one rfl rfl rfl;have h':M5 (λj=>j=5) O15 e6 O15 (e6.setCell ⟨ob,1,none⟩ c6):=MB zd c9.tag rfl;have k3:MZ O15 (e6.setCell ⟨ob,1,none⟩ c6) 5 ob #[b2,c6] 170:=c9.set 1 _;generalize e6.setCell ⟨ob,1,none⟩ c6=w16 at *;have a1:=(a4.mono (S':=λq=>q=5\/q=7) (λ_ h=>.inr h) zd).J (h'.mono (λ_ h=>.inl h) zd);have e':=d5.J (a1.mono (λ_ h=>zo) zd);have g1:w16.cell? (nA db 1)=some tv:=(d0.U a1 zd zd).cell 1 rfl;have g2:w16.cell? (adr b6 1 i)=some (nI (p:Int)):=by have:=(a3.U a1 zd zd).sl.cell (i:=i) (j:=0) zo rfl;rw[ax,n4]at this;exact this
  have g3:w16.cell? (adr tv 1 p)=some (.int .u64 ((nth a' p:Nat):Int)):=by have:=(i8.U f6 (b4.J (e'.mono (λ_ h=>zo) zd))).cell (i:=p) (j:=0) zo rfl;rwa[ax]at this
  refine zh ?_;apply af ⟨g1,g2,g3⟩
  apply MF zk;refine zh ?_
  refine zxd (i+1,O15,w16,D10,F2,b6,b2,c6,i6++[.slice ra r2.length rc],a7++[r2],i'++[nth a' p]) ⟨e',p6.U h',i4.U a1 zd zd,c5,a3.U a1 zd zd,k3,j7.U a1 zd zd,e7.U h' zd zd,p7,by dsimp only;rw[n'];exact i9,λk hk=>?_⟩;dsimp only at hk ⊢;rw[aC]
  by_cases e:k<i6.length
  ·rw[ap e];exact g4 k zo
  rw[am e,show k-i6.length=0 from by simp at hk;omega,ar];exact s'
 intro t5;have t2:=f4.le;obtain rfl:i=F.length:=dF t5;have j9:bm cl rows a'=(a7,i'):=by
  rw[<-i9];obtain⟨fu,o3⟩:∃fu,rows.length+1-F.length=fu+1:=⟨rows.length-F.length,zo⟩
  rw[o3,gi,am zo]
 have o1:=c7.row.one;have o2:=d7.one;have g9:=g'.U h9 zd zd;refine zh ?_;apply zv (ai (us:=[i7,f5]) f'.V (MA _) (Md _) rfl);apply zsb (us:=#[i7,f5]) g9 (Md _) (by simp only[L9,o1,o2];rfl);have t6:=g9.setRow (us:=#[i7,f5]);have b8:M5 (λj=>j=2) O9 w9 O9 (w9.setRow cb #[i7,f5]):=M1 zd g9.tag rfl;have d8:=c7.U b8 zd zd;have j2:=d7.U b8 zd zd;refine zh ?_;refine aR rfl rfl t6.V (MA _) (Md _) ⟨cl,i7,f5,rfl,o1,o2,((b4.J (h9.mono (λ_ h=>zo) zd)).J (b8.mono (λ_ h=>zo) zd)).ext,by rw[d'];exact t7,by rw[j9];exact⟨i6,d8.row.sl,d8.row.newV zd (m0.U b8),d8.len,λk hk=>⟨(d8.at_ k hk).1,g4 k hk⟩⟩,by rw[j9];exact j2.sl,j2.newV zd (m0.U b8)⟩
end Go.Proofs.YteolbhblkgjbhaaGreatDoor
end
section
namespace Go.VL
section
variable{P:Nw}{N:Nat}{st:St}{w:ln}{t:N8}{x:Pk}
def DW{kv:κ->ix}{vv:ν->ix}{K:N8}{l:List (κ×ν)}(hm:MW kv vv O w i r l)(hu:P.underlying T=some (.map K E))(hx:ev st x=some (.map (some r))):RV P N (.call ⟨.builtin .len,#[x],#[T]⟩) t st w (nI (l.length:Int)):=
 λa ha a0 p e g=>by
  obtain⟨es,c,h1,h2⟩:=hm.blk;have h3:es.size=l.length:=by have:=congrArg PH h2;simpa using this
  simp only[execOp,resolve,List.map_toArray,Mb,NV,ha.ev hx];simp[invoke,Go.builtin,Qe,run_underlying hu,goInt,getObj,Sem.run,h1,h3]
end
section
variable{P:Nw}{N:Nat}{ops:Array Pb}{Q:PK→Qf→ln→Prop}{rest:List Pb}{st:St}{w:ln}
variable{t:N8}{p:String}{e:Array Qd}{d:Nat}
def cA{a0:Nat}(he:PL P T E sz a0)(enc:α->List ix)(r:Nn B O w)(i:Nat)(a1:i≠0)(hd:ND d N=true) 
  (h:∀v w' O',My enc E sz O' w' i v []->M5 (λk=>k=i) O w O' w'->Nn B O' w'->WL P N ops Q rest ((d,v)::st) w'):WL P N ops Q (⟨some d,.buildSlice T 0 #[],t,p,e,none⟩::rest) st w:=by
 obtain⟨a2,z,hi,hz,a4,a5,a3⟩:=he.parts;have u1:=Pu (S:=λk=>k=i) (λe=>a1 e.symm) r (.cells #[] E) i;refine WL.val (v:=.slice (some ⟨w.heap.size,0,none⟩) 0 0) (w':=w.alloc (.cells #[] E)) hd (λa ha=>?_) (h _ _ (mq O w.heap.size i) ⟨⟨?_,λg hg=>?_⟩,λc hc=>absurd hc (by simp)⟩ u1 (r.U u1))
 ·simp[execOp,Instr.buildSlice,run_underlying he.ht,sizeOf,typeInfo,hi,Instr.fill,newRow,newObj,show Array.range 0 = #[]from rfl];rfl
 ·have:=Pe (base:=0) (size:=sz) (e:=E) w #[] 0 (L3 _) (by simp[maxLen]) (by simp);simpa using this
 simp[Ps]at hg;subst hg;exact eM _ _ _
end
end Go.VL
namespace Go.Proofs.YteolbhblkgjbhaaGreatDoor
open Go.VL Go.Proofs
set_option maxRecDepth 10000
def kh:List Int->Nat->Nat
 |[],n=>n
 |g::r,n=>if g<0\/(n:Int)<g then 0 else kh r (max n (g.toNat+1))
def iJ(l:List Int):Nat:=if l.length=37 then kh l 0 else 0
def jj(l:List Int)(sv:ix)(w:ln)(h:Sl encI 1 w sv l): Np Mk 29 [sv] w λv w' => v = .int .i64 ((iJ l:Nat):Int) ∧ w' = w := by
  have hl := h.len_le
  apply L6 func29 ntmps29 rfl rfl
  refine zh ?_
  refine zC ?_ ?_
  · intro hne
    refine zh ?_
    refine ah rfl rfl ⟨by unfold iJ; rw[am (λe => by rw[e]at hne; simp at hne)]; rfl, rfl⟩
  · intro he
    replace he : l.length = 37 := by have : (l.length : Int) = 37 := by simpa using he
                                     omega
    have hm:iJ l = kh l 0 := by unfold iJ; rw[ap he]
    rw[hm]
    refine zh ?_
    apply zlp (λz:Nat×Nat => [(3, .int .i64 z.2), (9, sv), (10, .int .i64 l.length), (11, .int .i64 z.1)]) (λz => w) (λz => z.1 ≤ l.length ∧ z.2 ≤ z.1 ∧ kh (l.drop z.1) z.2 = kh l 0) (λz => l.length - z.1) (0, 0) ⟨L3 _, L8 _, rfl⟩
    rintro⟨i, n⟩ ⟨hi, hn, heq⟩
    dsimp only at hi hn heq ⊢
    refine zh ?_
    refine zC ?_ ?_
    · intro hlt
      replace hlt:i < l.length := by have := of_decide_eq_true hlt; omega
      have m1:= by have := h.cell (i := i) (j := 0) hlt rfl; rwa[ax]at this
      rw[List.drop_eq_getElem_cons hlt, ← aD hlt, kh]at heq
      refine zh ?_
      by_cases h0:nth l i < 0
      · rw[ap (.inl h0)]at heq
        rw[← heq]
        apply ay (d := 17) rfl (b' := true) ((decide_eq_true h0))
        refine zh ?_
        refine zTH rfl rfl ?_
        refine ah rfl rfl ⟨rfl, rfl⟩
      · skip
        apply ay (d := 17) rfl (b' := false) ((decide_eq_false h0))
        refine zh ?_
        refine zC ?_ ?_
        · intro h1
          replace h1:(n:Int) < nth l i := of_decide_eq_true h1
          rw[ap (.inr h1)]at heq
          rw[← heq]
          refine zh ?_
          refine ah rfl rfl ⟨rfl, rfl⟩
        · intro h1
          replace h1:¬(n:Int) < nth l i := of_decide_eq_false h1
          rw[am (λh => h.elim h0 h1)]at heq
          refine zh ?_
          refine zvH (jd rfl rfl) ?_
          rw[show max (n:Int) (nth l i + 1) = ((max n ((nth l i).toNat + 1):Nat):Int)from by omega]
          refine zxd (i + 1, max n ((nth l i).toNat + 1)) ⟨hlt, by dsimp only; omega, heq⟩
    · intro hge
      obtain rfl:i = l.length := by have := of_decide_eq_false hge; omega
      rw[List.drop_length, kh]at heq
      rw[← heq]
      refine zh ?_
      refine ah rfl rfl ⟨rfl, rfl⟩
abbrev A8(d:ix×ix):List ix:=[d.1,d.2]
def rn(rows:List (List Nat))(m:Nat):List UInt8:=rows.flatMap λr=>[MR (nth r m / 256),MR (nth r m % 256)]
def pr(tabs:List (List (List Nat)))(m:Nat):List UInt8:=tabs.flatMap λrows=>rn rows m
def lO(rows:List (List Nat))(m:Nat):(rn rows m).length=2*rows.length:=by
 unfold rn
 induction rows with
 |nil=>rfl
 |cons r l ih=>rw[Mx,Mn,ih];simp;omega
structure TabsD(w:ln)(sv:ix)(ds:List (ix×ix))(tabs:List (List (List Nat)))(tlss:List (List Nat)):Prop where
 sl:Sl A8 2 w sv ds
 l1:tabs.length=ds.length
 l2:tlss.length=ds.length
 at_:∀i,i<ds.length->RowsN w (nth ds i).1 (nth tabs i)/\Sl jx 1 w (nth ds i).2 (nth tlss i)/\RightD (nth tabs i) (nth tlss i)
def TabsD.ext{w w':ln}{sv:ix}{ds:List (ix×ix)}{tabs:List (List (List Nat))}{a0:List (List Nat)}(h:TabsD w sv ds tabs a0)(e:N1 w w'):TabsD w' sv ds tabs a0:=
 ⟨h.sl.ext e,h.l1,h.l2,λi hi=>⟨(h.at_ i hi).1.ext e,(h.at_ i hi).2.1.ext e,(h.at_ i hi).2.2⟩⟩
def RowsN.one{w:ln}{v:ix}{rows:List (List Nat)}(h:RowsN w v rows):v.oneCell'=true:=by
 obtain⟨vs,h1,_⟩:=h;exact h1.one
def Bb(ds:List (ix×ix))(tabs:List (List (List Nat)))(b3:List (List Nat))(sv:ix)(m:Nat)(w:ln)(h:TabsD w sv ds tabs b3)(hm:m<37)(e7:ds.length<=1000):
  Np Mk 135 [sv,nI (m:Nat)] w λv w'=>v=.string (bs (pr tabs m))/\N1 w w':=by
 have d2:=h.l1;have e4:=h.sl;apply L6 func135 ntmps135 rfl rfl;refine zh ?_;apply zlp (λz:Nat×ix×(Nat->Nat)×World=>[(1,nI (m:Nat)),(5,z.2.1),(10,sv),(11,nI ds.length),(12,nI z.1)]) (λz=>z.2.2.2) (λz=>z.1<=ds.length/\My Ds 5 1 z.2.2.1 z.2.2.2 1 z.2.1 (pr (tabs.take z.1) m)/\(pr (tabs.take z.1) m).length<=2000*z.1/\M5 (λq=>1<=q) (λ_=>0) w z.2.2.1 z.2.2.2/\Nn w.heap.size z.2.2.1 z.2.2.2) (λz=>ds.length-z.1) (0,nS,λ_=>0,w) ⟨L3 _,M9 _ _ _ _ _ _,L3 _,N6 zd _ _,aA w⟩;rintro⟨i,v1,O1,w1⟩ ⟨hi,a2,d3,hU,hR⟩;dsimp only at hi a2 d3 hU hR ⊢;have h1:=h.ext hU.ext;have d1:=h1.sl;refine zh ?_;refine zC ?_ ?_
 ·intro a5;replace a5:i<ds.length:=dT a5;obtain⟨c9,c7,b8⟩:=h1.at_ i a5;have o2:=c7.one;obtain⟨rows,a1⟩:∃rows,rows=nth tabs i:=⟨_,rfl⟩
  rw[<-a1]at c9 b8;have e5:=b8.le;have c8:pr (tabs.take (i+1)) m=pr (tabs.take i) m++rn rows m:=by
   unfold pr;rw[bd zo,N9,<-a1];simp
  refine zh ?_;apply zv (ai (us:=A8 (nth ds i)) (λj u hu=>d1.cell a5 hu) (MA _) (Md _) rfl)
  apply aw hR 2 zo (ME _) rfl;intro db w2 O2 a4 d9 e1 e8;apply zsb (us:=#[(nth ds i).1,(nth ds i).2]) a4 (Md _) (by simp only[L9,c9.one,o2];rfl)
  have b':=a4.setRow (us:=#[(nth ds i).1,(nth ds i).2]);have c':M5 (λj=>j=2) O2 w2 O2 (w2.setRow db #[(nth ds i).1,(nth ds i).2]):=M1 zd a4.tag rfl;have b0:=d9.J c';have a9:=a2.U b0 zd zd;have e0:=e1.U c';have b2:=hU.J (b0.mono (λ_ h=>zo) zd);generalize w2.setRow db #[(nth ds i).1,(nth ds i).2]=w3 at *;have c0:w3.cell? (nA db 0)=some (nth ds i).1:=b'.cell 0 rfl;have b7:RowsN w (nth ds i).1 rows:=by rw[a1];exact(h.at_ i a5).1
  obtain⟨vs,a6,e3,a7⟩:=b7;have e2:=a6.ext b2.ext;refine zh ?_;apply zlp (λy:Nat×ix×(Nat->Nat)×World=>[(1,nI (m:Nat)),(5,y.2.1),(10,sv),(11,nI ds.length),(12,nI i),(17,(nth ds i).1),(18,nI vs.length),(19,nI y.1)]) (λy=>y.2.2.2) (λy=>y.1<=rows.length/\My Ds 5 1 y.2.2.1 y.2.2.2 1 y.2.1 (pr (tabs.take i) m++rn (rows.take y.1) m)/\M5 (λq=>1<=q) (λ_=>0) w y.2.2.1 y.2.2.2/\Nn w.heap.size y.2.2.1 y.2.2.2) (λy=>rows.length-y.1) (0,v1,O2,w3) ⟨L3 _,by dsimp only;rw[Px];exact(by simpa[rn]using a9),b2,e0⟩;rintro⟨j,v4,O4,w4⟩ ⟨hj,a0,a',c6⟩;dsimp only at hj a0 a' c6 ⊢;have b5:=a6.ext a'.ext;have d6:=lO (rows.take j) m;have c7:(rows.take j).length<=j:=by simp;omega
  refine zh ?_;refine zC ?_ ?_
  ·intro a3;replace a3:j<rows.length:=dT a3;have b9:=(a7 j a3).ext a'.ext;obtain⟨r1,r2⟩:=b8.row j a3;obtain⟨p,hp⟩:∃p,p=nth (nth rows j) m:=⟨_,rfl⟩
   have e6:p<=999:=by have:=r2 m hm;rw[<-hp]at this;omega
   have m1:w4.cell? (adr (nth ds i).1 1 j)=some (nth vs j):=by have:=b5.cell (i:=j) (j:=0) zo rfl;rwa[ax]at this
   have b6:rn (rows.take (j+1)) m=rn (rows.take j) m++[MR (p / 256),MR (p % 256)]:=by
    unfold rn;rw[bd a3,N9,hp];simp
   refine zh ?_;have k1:w4.drew.cell? (adr (nth vs j) 1 m)=some (nI (p:Int)):=by have:=b9.cell (i:=m) (j:=0) zo rfl;rw[ax]at this;rw[hp];exact this
   apply aO (λW=>W.cell? (adr (nth vs j) 1 m)=some (nI (p:Int))) 15 rfl zk;apply zrm 0 rfl k1 rfl
   apply zrm 1 rfl k1 rfl;apply zrm 2 rfl k1 rfl
   apply zr 3 rfl k1 (λ_=>aj b9.sh L0 (LX _) rfl rfl m rfl zo);apply zt 4 rfl k1 (λw1 b4=>RV.ld b4 rfl)
   apply zr 5 rfl k1 (λ_=>jc (a:=p) (b:=8) rfl rfl rfl rfl zd);apply zr 6 rfl k1 (λ_=>nZ NP Pr rfl)
   apply zrm 7 rfl k1 rfl;apply zrm 8 rfl k1 rfl
   apply zr 9 rfl k1 (λ_=>aj b9.sh L0 (LX _) rfl rfl m rfl zo);apply zt 10 rfl k1 (λw1 b4=>RV.ld b4 rfl)
   apply zr 11 rfl k1 (λ_=>nZ NP Pr rfl);rw[rR p,rR (p / 2^8),show p / 2^8 % 256=p / 256 from by omega];apply LZ 12 zk rfl
   apply cE PW (sizeOf5 _) (zeroValue5 _) Ds [MR (p / 256),MR (p % 256)] rfl rfl rfl rfl zk (by simp) rfl;intro bv w5 d7 d0;have c5:M5 (λ_=>False) O4 w4 O4 w5:=(ae (λh=>h) O4 (M4 w4).drew).J (ae (λh=>h) O4 d0);refine zh ?_
   apply af (d0.cell k1);apply LZ 13 zk rfl
   apply aF Lu (a0.U c5 zd λh=>h) (c6.U c5) d7 (by simp) rfl rfl (by simp) (by simp[L5]) (by simp;omega) (by simp;omega) zd rfl;intro v6 w6 O6 a8 d8 d';have b1:=(a'.J (c5.mono (λ_ h=>h.elim) zd)).J (d8.mono (λ_ h=>zo) zd);have k6:w6.cell? (adr (nth vs j) 1 m)=some (nI (p:Int)):=by have:=((a7 j a3).ext b1.ext).cell (i:=m) (j:=0) zo rfl;rw[ax]at this;rw[hp];exact this
   refine zh ?_;apply af k6
   apply zra 14 rfl k6 rfl;apply MF zk
   refine zh ?_;refine zxd (j+1,v6,O6,w6) ⟨a3,by dsimp only;rw[b6,<-NA];exact a8,b1,d'⟩
  intro d4;obtain rfl:j=rows.length:=dF d4;rw[M6]at a0 d6;refine zh ?_;refine zxd (i+1,v4,O4,w4) ⟨a5,by dsimp only;rw[c8];exact a0,by dsimp only;rw[c8,Mn];omega,a',c6⟩
 intro d5;obtain rfl:i=ds.length:=dF d5;rw[<-d2,M6]at a2;refine zh ?_;refine zvH (Ah a2.sl PW Pr underlying9 rfl) ?_;refine ah rfl rfl ⟨rfl,hU.ext⟩
end Go.Proofs.YteolbhblkgjbhaaGreatDoor
end
namespace Go.Proofs.YteolbhblkgjbhaaGreatDoor
def Bw(S:List (List UInt8))(k:List UInt8):Option Nat:=S.findIdx? (· == k)
def DL(S:List (List UInt8))(k:List UInt8):List (List UInt8):=if(Bw S k).isSome=true then S else S++[k]
def D9(S:List (List UInt8))(k:List UInt8):Nat:=(Bw S k).getD S.length
def dH(ks:List (List UInt8)):Nat->List (List UInt8)×List Nat
 |0=>([],[])
 |i+1=>(DL (dH ks i).1 (nth ks i),(dH ks i).2++[D9 (dH ks i).1 (nth ks i)])
def C6{t:List UInt8}(h:Bw S s=none):Bw (S++[s]) t=if s=t then some S.length else Bw S t:=by
 unfold Bw at h ⊢;rw[P8]
 by_cases e:s=t
 ·rw[ap e];have:Nx (λo=>o==t) S=none:=by rw[<-e];exact h
  rw[this];simp[MT,e]
 rw[am e]
 cases Nx (λo=>o==t) S with
 |some k=>simp
 |none=>simp[MT,e]
def oK(ks:List (List UInt8)):∀i,(dH ks i).2.length=i/\(dH ks i).1.length<=i
 |0=>⟨rfl,L8 _⟩
 |i+1=>by
  obtain⟨h1,h2⟩:=oK ks i;unfold dH;refine⟨by simp[h1],?_⟩;dsimp only;unfold DL
  split
  ·omega
  simp;omega
structure NumK(D:List (ByteArray×Int))(S:List (List UInt8)):Prop where
 at_:∀k,bI D (bs k)=(Bw S k).map λn:Nat=>(n:Int)
 len:D.length=S.length
def GB[DecidableEq κ]{l:List (κ×ν)}{k:κ}(h:bI l k=none)(x:ν):dc l k x=l++[(k,x)]:=by
 induction l with
 |nil=>rfl
 |cons p r ih=>
  obtain⟨a,y⟩:=p;simp only[bI]at h
  split at h
  ·cases h
  rename_i hn;simp only[dc,am hn,ih h,NG]
def NumK.add{D:List (ByteArray×Int)}(h:NumK D S)(hs:Bw S s=none):NumK (dc D (bs s) (D.length:Int)) (S++[s]):=by
 refine⟨λk=>?_,?_⟩
 ·rw[bx,C6 hs]
  by_cases e:s=k
  ·rw[ap (by rw[e]),ap e,h.len];rfl
  rw[am (λe2=>e (G4 e2)),am e];exact h.at_ k
 rw[GB (by rw[h.at_,hs];rfl)];simp[h.len]
def uO(ks:List (List UInt8))(sv:ix)(w:ln)(h:Sl encS 1 w sv ks)(c5:ks.length<=1000):Np Mk 136 [sv] w λv w'=>Sl bp 1 w' v (dH ks ks.length).2/\N1 w w'/\P1 w.heap.size v:=by
 apply L6 func136 ntmps136 rfl rfl;refine zh ?_
 apply bD NR (λv:Int=>nI v) (aA w) 2 zd rfl;intro r w1 O1 b8 b1 b5;have h1:=h.ext b1.ext;refine zh ?_
 apply zlp (λz:Nat×ix×(Nat->Nat)×World×List (ByteArray×Int)=>[(3,.map (some r)),(4,z.2.1),(10,sv),(11,nI ks.length),(12,nI z.1)]) (λz=>z.2.2.2.1) (λz=>z.1<=ks.length/\My bp 3 1 z.2.2.1 z.2.2.2.1 1 z.2.1 (dH ks z.1).2/\MW NR (λv:Int=>nI v) z.2.2.1 z.2.2.2.1 2 r z.2.2.2.2/\NumK z.2.2.2.2 (dH ks z.1).1/\M5 (λq=>1<=q) (λ_=>0) w z.2.2.1 z.2.2.2.1/\Nn w.heap.size z.2.2.1 z.2.2.2.1) (λz=>ks.length-z.1) (0,nS,O1,w1,[]) ⟨L3 _,M9 _ _ _ _ _ _,b8,⟨λk=>rfl,rfl⟩,b1.mono (λ_ h=>zo) zd,b5⟩;rintro⟨i,v2,O2,w2,D⟩ ⟨hi,a0,a3,hN,a8,a9⟩;dsimp only at hi a0 a3 hN a8 a9 ⊢;have h2:=h.ext a8.ext;obtain⟨b',b9⟩:=oK ks i;refine zh ?_
 refine zC ?_ ?_
 ·intro a6;replace a6:i<ks.length:=dT a6;obtain⟨k,hk⟩:∃k,k=nth ks i:=⟨_,rfl⟩
  have m1:w2.cell? (adr sv 1 i)=some (.string (bs k)):=by have:=h2.cell (i:=i) (j:=0) a6 rfl;rw[ax]at this;rw[hk];exact this
  have a7:=hN.at_ k;have e1:dH ks (i+1)=(DL (dH ks i).1 k,(dH ks i).2++[D9 (dH ks i).1 k]):=by rw[hk];rfl
  refine zh ?_
  cases a2:Bw (dH ks i).1 k with
  |some q=>
   rw[a2]at a7;have f1:DL (dH ks i).1 k=(dH ks i).1:=by unfold DL;rw[a2];rfl
   have f2:D9 (dH ks i).1 k=q:=by unfold D9;rw[a2];rfl
   rw[f1,f2]at e1;refine zvH (dr (u:=.tuple #[nI (q:Int),.bool true]) a3 Na vt (Mo _) (bs k) rfl rfl rfl (by rw[a7];rfl)) ?_;refine zFH rfl rfl ?_;apply zv (Mu (u:=nI (q:Int)) a3 Na vt (Mo _) (bs k) rfl rfl rfl (by rw[a7];rfl));apply MV lK a0 a9 ((q:Nat)) (λ_=>rfl) rfl rfl rfl (by simp[L5]) zo zo zo zd rfl rfl;intro v3 w3 O3 a1 a4 a';refine zh ?_;refine zxd (i+1,v3,O3,w3,D) ⟨a6,by dsimp only;rw[e1];exact a1,a3.U a4 zd zd,by dsimp only;rw[e1];exact hN,a8.J (a4.mono (λ_ h=>zo) zd),a'⟩
  |none=>
   rw[a2]at a7;have f1:DL (dH ks i).1 k=(dH ks i).1++[k]:=by unfold DL;rw[a2];rfl
   have f2:D9 (dH ks i).1 k=(dH ks i).1.length:=by unfold D9;rw[a2];rfl
   rw[f1,f2]at e1;refine zvH (dr (u:=.tuple #[nI 0,.bool false]) a3 Na vt (Mo _) (bs k) rfl rfl rfl (by rw[a7];rfl)) ?_;refine zTH rfl rfl ?_;apply zv (DW a3 Na rfl);apply Mt a3 Na vt zd (bs k) (D.length:Int) rfl rfl rfl rfl rfl;intro w3 b2 a4;have a1:=a0.U a4 zd zd;have a':=a9.U a4;refine zh ?_;apply zv (Mu (u:=nI (((dH ks i).1.length:Nat):Int)) b2 Na vt (Mo _) (bs k) rfl rfl rfl (by rw[bx,ap rfl,hN.len];rfl));apply MV lK a1 a' (((dH ks i).1.length:Nat)) (λ_=>rfl) rfl rfl rfl (by simp[L5]) zo zo zo zd rfl rfl;intro v4 w4 O4 a5 b0 b4;refine zh ?_;refine zxd (i+1,v4,O4,w4,dc D (bs k) (D.length:Int)) ⟨a6,by dsimp only;rw[e1];exact a5,b2.U b0 zd zd,by dsimp only;rw[e1];exact (hN.add a2),(a8.J (a4.mono (λ_ h=>zo) zd)).J (b0.mono (λ_ h=>zo) zd),b4⟩
 intro b3;obtain rfl:i=ks.length:=dF b3;refine zh ?_;refine ah rfl rfl ⟨a0.sl,a8.ext,a0.newV zd a9⟩
def elD:PL Mk 218 170 2 48:=⟨PX,by kernel_rfl,zd⟩
def Bf(l:List (ix×ix))(sv:ix)(w:ln)(h:Sl A8 2 w sv l)(hz:∀u∈l,(A8 u).length=2)(h1:∀u∈l,∀c∈A8 u,c.oneCell'=true)(hl:l.length<=100000):
  Np Mk 132 [sv] w λv w'=>Sl A8 2 w' v l/\N1 w w'/\∀(B:Nat) (O:Nat->Nat),Nn B O w->NI O w' v:=by
 obtain⟨a,c,rfl,_,_,ha⟩:=h.shape;apply L6 func132 ntmps132 rfl rfl;refine zh ?_;refine zvH (kF PX rfl rfl) ?_
 cases a with
 |none=>
  have a4:=N5 (Mc λa3=>by obtain⟨b,o,e⟩:=ha a3;cases e);subst a4;refine zTH rfl rfl ?_;refine ah rfl rfl ⟨(M9 A8 0 2 (λ_=>0) w 0).sl,M4 _,λB O _ a n c e hn=>by cases e⟩
 |some a=>
  refine zFH rfl rfl ?_;apply cA elD A8 (aA w) 1 zd rfl
  intro v1 w1 O1 a1 a2 a7;refine zh ?_;apply aL elD a1 a7 (h.ext a2.ext) rfl rfl hz h1 (by simp;omega) (by simp;omega) zd rfl;intro v2 w2 O2 a0 a5 a6;refine zh ?_;refine ah rfl rfl ⟨by have:=a0.sl;rwa[N7]at this,(a2.J a5).ext,λB O hO=>a0.free zd a6 hO⟩
def rq(l:List Nat)(sv:ix)(w:ln)(h:Sl bp 1 w sv l)(hz:∀u∈l,(bp u).length=1)(h1:∀u∈l,∀c∈bp u,c.oneCell'=true)(hl:l.length<=100000):
  Np Mk 188 [sv] w λv w'=>Sl bp 1 w' v l/\N1 w w'/\∀(B:Nat) (O:Nat->Nat),Nn B O w->NI O w' v:=by
 obtain⟨a,c,rfl,_,_,ha⟩:=h.shape;apply L6 func188 ntmps188 rfl rfl;refine zh ?_;refine zvH (kF L0 rfl rfl) ?_
 cases a with
 |none=>
  have a4:=N5 (Mc λa3=>by obtain⟨b,o,e⟩:=ha a3;cases e);subst a4;refine zTH rfl rfl ?_;refine ah rfl rfl ⟨(M9 bp 0 1 (λ_=>0) w 0).sl,M4 _,λB O _ a n c e hn=>by cases e⟩
 |some a=>
  refine zFH rfl rfl ?_;apply cA lK bp (aA w) 1 zd rfl
  intro v1 w1 O1 a1 a2 a7;refine zh ?_;apply aL lK a1 a7 (h.ext a2.ext) rfl rfl hz h1 (by simp;omega) (by simp;omega) zd rfl;intro v2 w2 O2 a0 a5 a6;refine zh ?_;refine ah rfl rfl ⟨by have:=a0.sl;rwa[N7]at this,(a2.J a5).ext,λB O hO=>a0.free zd a6 hO⟩
def mM(l:List Nat)(sv:ix)(w:ln)(h:Sl jx 1 w sv l)(hz:∀u∈l,(jx u).length=1)(h1:∀u∈l,∀c∈jx u,c.oneCell'=true)(hl:l.length<=100000):
  Np Mk 189 [sv] w λv w'=>Sl jx 1 w' v l/\N1 w w'/\∀(B:Nat) (O:Nat->Nat),Nn B O w->NI O w' v:=by
 obtain⟨a,c,rfl,_,_,ha⟩:=h.shape;apply L6 func189 ntmps189 rfl rfl;refine zh ?_;refine zvH (kF Q3 rfl rfl) ?_
 cases a with
 |none=>
  have a4:=N5 (Mc λa3=>by obtain⟨b,o,e⟩:=ha a3;cases e);subst a4;refine zTH rfl rfl ?_;refine ah rfl rfl ⟨(M9 jx 0 1 (λ_=>0) w 0).sl,M4 _,λB O _ a n c e hn=>by cases e⟩
 |some a=>
  refine zFH rfl rfl ?_;apply cA nD jx (aA w) 1 zd rfl
  intro v1 w1 O1 a1 a2 a7;refine zh ?_;apply aL nD a1 a7 (h.ext a2.ext) rfl rfl hz h1 (by simp;omega) (by simp;omega) zd rfl;intro v2 w2 O2 a0 a5 a6;refine zh ?_;refine ah rfl rfl ⟨by have:=a0.sl;rwa[N7]at this,(a2.J a5).ext,λB O hO=>a0.free zd a6 hO⟩
def qh{F:NH}(hF:∀(args:Array ix) (w:ln),(callFunc F args).run Mk w=.ok (.enter F args) w)(cs:Array ix)(l:List (ix×ix))(sv:ix)(q:Nat->Bool)(w:ln)(h:Sl A8 2 w sv l) 
  (hq:∀i,i<l.length->∀w',N1 w w'->Np Mk F ([(λd:ix×ix=>PO #[d.1,d.2]) (nth l i)]++cs.toList) w' λv w''=>v=.bool (q i)/\N1 w' w'') :
  Np Mk 186 [sv,.func (.func F) #[] cs] w λv w'=>v=nI (eu q l.length)/\N1 w w':=by
 have hl:=h.len_le;apply L6 func186 ntmps186 rfl rfl;refine zh ?_;apply zlp (λx:Nat×ln=>[(0,sv),(1,.func (.func F) #[] cs),(7,nI l.length),(8,nI x.1)]) (λx=>x.2) (λx=>x.1<=l.length/\N1 w x.2/\∀i,i<x.1->q i=false) (λx=>l.length-x.1) (0,w) ⟨L3 _,M4 _,λi hi=>absurd hi (L4 i)⟩;rintro⟨k,w1⟩ ⟨hk,hE,a1⟩;dsimp only at hk hE a1 ⊢;have h1:=h.ext hE;refine zh ?_;refine zC ?_ ?_
 ·intro a0;replace a0:k<l.length:=dT a0;refine zh ?_;apply zv (ai (us:=A8 (nth l k)) (λj u hu=>h1.cell a0 hu) (MA _) (Md _) rfl);apply ej rfl hF rfl (hq k a0 w1 hE) rfl;rintro v w2 ⟨rfl,a3⟩;refine zh ?_;refine zC ?_ ?_
  ·intro hy;refine zh ?_;refine ah rfl rfl ⟨by rw[cZ a0 hy a1],hE.J a3⟩
  intro hy;refine zh ?_;refine zxd (k+1,w2) ⟨a0,hE.J a3,λi hi=>(Me.1 hi).elim (a1 i) (λe=>by rw[e];exact hy)⟩
 intro a2;replace a2:l.length<=k:=dF a2;refine zh ?_;refine ah rfl rfl ⟨by rw[cX λi hi=>a1 i zo],hE⟩
def yk(nv tv:ix)(rows:List (List Nat))(a0:List Nat)(w:ln)(hn:RowsN w nv rows)(a2:Sl jx 1 w tv a0)(hr:RightD rows a0):Np Mk 133 [.agg #[nv,tv]] w λv w'=>v=.bool false/\N1 w w':=by
 apply L6 func133 ntmps133 rfl rfl;refine zh ?_
 apply aQ (aA w) 1 zo rfl rfl;intro db w1 O1 a3 a5 a6 a1;refine zh ?_
 apply zv (ai (us:=[nv,tv]) a3.V (MA _) (Md _) rfl);apply zc Q6 (kB nv tv rows a0 w1 (hn.ext a1) (a2.ext a1) hr)
 rintro _ w2 ⟨rfl,a4⟩;refine zh ?_;refine ah rfl rfl ⟨rfl,a1.J a4⟩
def yq{F:NH}(hF:∀(args:Array ix) (w:ln),(callFunc F args).run Mk w=.ok (.enter F args) w)(cs:Array ix)(l:List (ix×ix))(sv:ix)(w:ln)(h:Sl A8 2 w sv l) 
  (hq:∀i,i<l.length->∀w',N1 w w'->Np Mk F ([(λd:ix×ix=>PO #[d.1,d.2]) (nth l i)]++cs.toList) w' λv w''=>v=.bool false/\N1 w' w'') :
  Np Mk 131 [sv,.func (.func F) #[] cs] w λv w'=>v=sv/\N1 w w':=by
 apply L6 func131 ntmps131 rfl rfl;refine zh ?_
 apply zc call186 (qh hF cs l sv (λ_=>false) w h hq);rintro _ w1 ⟨rfl,a0⟩;rw[cX (q:=λ_=>false) λi hi=>rfl];refine zh ?_
 refine zTH rfl rfl ?_;refine ah rfl rfl ⟨rfl,a0⟩
def bY(tabs:List (List (List Nat))):List Nat:=(dH ((LY 37).map (pr tabs)) 37).2
def La:PL Mk 107 9 1 16:=⟨underlying107,by kernel_rfl,zd⟩
def A3(ds:List (ix×ix))(tabs:List (List (List Nat)))(a2:List (List Nat))(sv:ix)(w:ln)(h:TabsD w sv ds tabs a2)(b8:ds.length<=1000):
  Np Mk 91 [sv] w λv w'=>Sl bp 1 w' v (bY tabs)/\N1 w w'/\P1 w.heap.size v:=by
 have a8:∀u∈ds,∀c∈A8 u,c.oneCell'=true:=λu hu c hc=>by
  obtain⟨j,hj,rfl⟩:=cu hu
  rcases M0.1 hc with rfl|hc
  ·exact(h.at_ j hj).1.one
  rw[L2.1 hc];exact(h.at_ j hj).2.1.one
 apply L6 func91 ntmps91 rfl rfl;refine zh ?_
 apply zc call132 (Bf ds sv w h.sl (λ_ _=>rfl) a8 zo);rintro a6 w1 ⟨b2,a',_⟩;apply zc call131 (yq call133 #[] ds a6 w1 b2 (λi hi w' b0=>yk _ _ _ _ w' ((h.at_ i hi).1.ext (a'.J b0)) ((h.at_ i hi).2.1.ext (a'.J b0)) (h.at_ i hi).2.2))
 rintro v2 w2 ⟨b1,b4⟩;rw[b1];clear b1 v2;have a1:=a'.J b4;have c5:TabsD w2 a6 ds tabs a2:=⟨b2.ext b4,h.l1,h.l2,λi hi=>⟨(h.at_ i hi).1.ext a1,(h.at_ i hi).2.1.ext a1,(h.at_ i hi).2.2⟩⟩
 refine zh ?_;apply zlp (λz:Nat×ix×(Nat->Nat)×World=>[(0,a6),(3,z.2.1),(8,nI z.1)]) (λz=>z.2.2.2) (λz=>z.1<=37/\My encS 9 1 z.2.2.1 z.2.2.2 1 z.2.1 ((LY z.1).map (pr tabs))/\M5 (λq=>q=1) (λ_=>0) w2 z.2.2.1 z.2.2.2/\Nn w2.heap.size z.2.2.1 z.2.2.2) (λz=>37-z.1) (0,nS,λ_=>0,w2) ⟨L3 _,M9 _ _ _ _ _ _,N6 zd _ _,aA w2⟩
 rintro⟨m,v3,O3,w3⟩ ⟨hm,a0,a5,b3⟩;dsimp only at hm a0 a5 b3 ⊢;refine zh ?_;refine zC ?_ ?_
 ·intro a7;replace a7:m<37:=dT a7;refine zh ?_;apply zc call135 (Bb ds tabs a2 a6 m w3 (c5.ext a5.ext) a7 b8);rintro _ w4 ⟨rfl,c8⟩;have a9:M5 (λ_=>False) O3 w3 O3 w4:=ae (λh=>h) O3 c8;have c9:((LY m).map (pr tabs)).length=m:=by simp
  apply MV La (a0.U a9 zd (λh=>h)) (b3.U a9) ((pr tabs m)) (λ_=>rfl) rfl rfl rfl (by simp[L5]) zo zo zo zd rfl rfl;intro v5 w5 O5 a3 b9 c6;refine zh ?_
  refine zxd (m+1,v5,O5,w5) ⟨a7,by dsimp only;rw[MQ,Mq];exact a3,(a5.J (a9.mono (λ_ h=>h.elim) zd)).J b9,c6⟩
 intro b7;obtain rfl:m=37:=dF b7;refine zh ?_;apply zc call136 (uO _ v3 w3 a0.sl (by simp));rintro v6 w6 ⟨h6,c7,b6⟩;refine zh ?_;refine ah rfl rfl ⟨by rw[Pw,List.length_range]at h6;exact h6,(a1.J a5.ext).J c7,b6.mono (P2 a1.size a5.size)⟩
attribute [irreducible] bY
def qB:List Int->Nat->Prop
 |[],_=>True
 |g::r,n=>0<=g/\g<=n/\qB r (max n (g.toNat+1))
def mB{g:Int}:∀(l:List Int) (n:Nat),qB l n->0<=g->g<=(kh l n:Nat)->qB (l++[g]) n/\kh (l++[g]) n=max (kh l n) (g.toNat+1)
 |[],n,_,h0,h1=>by
  simp only[kh]at h1;simp only[N7,qB,kh];rw[am zo];exact⟨⟨h0,h1,trivial⟩,rfl⟩
 |a::l,n,h,h0,h1=>by
  obtain⟨a1,a2,a3⟩:=h;simp only[kh]at h1;rw[am zo]at h1;have ih:=mB l _ a3 h0 h1;simp only[NG,qB,kh];rw[am zo,am zo];exact⟨⟨a1,a2,ih.1⟩,ih.2⟩
abbrev ints(l:List Nat):List Int:=l.map λn:Nat=>(n:Int)
structure NuI(ks:List (List UInt8))(i:Nat)(S:List (List UInt8))(r:List Nat):Prop where
 len:r.length=i
 lt:∀j,j<i->nth r j<S.length/\nth S (nth r j)=nth ks j
 nd:S.Nodup
 hit:∀k,k<S.length->∃j,j<i/\nth r j=k
 right:qB (ints r) 0
 many:kh (ints r) 0=S.length
def C5(h:Bw S s=some k):k<S.length/\nth S k=s:=by
 obtain⟨h1,h2,_⟩:=Mj.1 h;exact⟨h1,by rw[aD h1];simpa using h2⟩
def C7(h:Bw S s=none):s∉S:=λhs=>by
 have:=MK.1 h s hs;simp at this
def uP(ks:List (List UInt8)):∀i,NuI ks i (dH ks i).1 (dH ks i).2
 |0=>⟨rfl,λj hj=>absurd hj (L4 j),NL,λk hk=>absurd hk (L4 k),trivial,rfl⟩
 |i+1=>by
  have ih:=uP ks i;unfold dH;generalize dH ks i=R at *;obtain⟨S,r⟩:=R;dsimp only at ih ⊢;have hl:=ih.len;have a0:∀(g:Nat),ints (r++[g])=ints r++[(g:Int)]:=λg=>by simp[ints]
  cases h:Bw S (nth ks i)with
  |some k=>
   obtain⟨h1,h2⟩:=C5 h;have e1:DL S (nth ks i)=S:=by unfold DL;rw[h];rfl
   have e2:D9 S (nth ks i)=k:=by unfold D9;rw[h];rfl
   rw[e1,e2];have hs:=mB (g:=(k:Int)) (ints r) 0 ih.right zo (by rw[ih.many];omega);refine⟨by simp[hl],λj hj=>?_,ih.nd,λq hq=>?_,by rw[a0];exact hs.1,by rw[a0,hs.2,ih.many];simp;omega⟩
   ·rw[aC]
    by_cases e:j<r.length
    ·rw[ap e];exact ih.lt j zo
    rw[am e,show j-r.length=0 from by omega,ar];obtain rfl:j=i:=zo;exact⟨h1,h2⟩
   obtain⟨j,hj,e⟩:=ih.hit q hq;exact⟨j,zo,by rw[aC,ap zo];exact e⟩
  |none=>
   have e1:DL S (nth ks i)=S++[nth ks i]:=by unfold DL;rw[h];rfl
   have e2:D9 S (nth ks i)=S.length:=by unfold D9;rw[h];rfl
   rw[e1,e2];have hs:=mB (g:=(S.length:Int)) (ints r) 0 ih.right zo (by rw[ih.many];omega);refine⟨by simp[hl],λj hj=>?_,Nz.2 ⟨ih.nd,by simp,λa ha b hb e=>?_⟩,λq hq=>?_,by rw[a0];exact hs.1,by rw[a0,hs.2,ih.many];simp⟩
   ·rw[aC]
    by_cases e:j<r.length
    ·obtain⟨a1,a2⟩:=ih.lt j zo;rw[ap e];exact⟨by simp;omega,by rw[aC,ap a1];exact a2⟩
    rw[am e,show j-r.length=0 from by omega,ar];obtain rfl:j=i:=zo;exact⟨by simp,by rw[aC,am zo,Nf,ar]⟩
   ·rw[L2]at hb;subst hb;subst e;exact (C7 h) ha
   rw[Mn,L7]at hq
   by_cases e:q<S.length
   ·obtain⟨j,hj,e⟩:=ih.hit q e;exact⟨j,zo,by rw[aC,ap zo];exact e⟩
   exact⟨i,zo,by rw[aC,am zo,show i-r.length=0 from by omega,ar];omega⟩
def GL(ha:a<256)(hb:b<256)(h:MR a=MR b):a=b:=by
 have:=congrArg UInt8.toNat h;simp at this;omega
def zV:∀ {rows:List (List Nat)} {i j:Nat},(∀r∈rows,nth r i<=999/\nth r j<=999)->rn rows i=rn rows j->∀r∈rows,nth r i=nth r j
 |[],_,_,_,_=>λr hr=>absurd hr (by simp)
 |r::rows,i,j,h,e=>by
  obtain⟨h1,h2⟩:=h r (by simp);unfold rn at e;simp only[Mx,NG,N7,Q8]at e;obtain⟨e1,e2,e3⟩:=e;have a1:=GL zo zo e1;have a2:=GL zo zo e2;intro q hq
  rcases M0.1 hq with rfl|hq
  ·omega
  exact zV (λq hq=>h q (by simp[hq])) e3 q hq
def zW:∀ {tabs:List (List (List Nat))} {i j:Nat},(∀rows∈tabs,∀r∈rows,nth r i<=999/\nth r j<=999)->pr tabs i=pr tabs j->∀rows∈tabs,∀r∈rows,nth r i=nth r j
 |[],_,_,_,_=>λr hr=>absurd hr (by simp)
 |t::tabs,i,j,h,e=>by
  unfold pr at e;simp only[Mx]at e;obtain⟨e1,e2⟩:=List.append_inj e (by rw[lO,lO]);intro q hq
  rcases M0.1 hq with rfl|hq
  ·exact zV (h q (by simp)) e1
  exact zW (λq hq=>h q (by simp[hq])) e2 q hq
structure GrpI(g:List Nat)(many:Nat):Prop where
 len:g.length=37
 lt:∀i,i<37->nth g i<many
 hit:∀k,k<many->∃i,i<37/\nth g i=k
 cnt:iJ (ints g)=many
 pos:1<=many
 le:many<=37
def Cz{l:List α}(h:l.Nodup)(hi:i<l.length)(hj:j<l.length)(e:l[i]=l[j]):i=j:=by
 rcases Nat.lt_trichotomy i j with h1|h1|h1
 ·exact absurd e (Nh.1 h i j hi hj h1)
 ·exact h1
 exact absurd e.symm (Nh.1 h j i hj hi h1)
def qW(tabs:List (List (List Nat))):∃many,GrpI (bY tabs) many/\∀i j,i<37->j<37->(nth (bY tabs) i=nth (bY tabs) j↔pr tabs i=pr tabs j):=by
 have h:=uP ((LY 37).map (pr tabs)) 37;have hk:∀j,j<37->nth ((LY 37).map (pr tabs)) j=pr tabs j:=λj hj=>by rw[ed (by simpa using hj),aD (by simpa using hj)];simp
 unfold bY;have a0:=h.len;refine⟨(dH ((LY 37).map (pr tabs)) 37).1.length,⟨a0,λi hi=>(h.lt i hi).1,h.hit,?_,?_,(oK ((LY 37).map (pr tabs)) 37).2⟩,λi j hi hj=>⟨λe=>?_,λe=>?_⟩⟩
 ·unfold iJ;rw[ap (by rw[Pw];exact a0)];exact h.many
 ·have:=(h.lt 0 zd).1;omega
 ·have h1:=(h.lt i hi).2;have h2:=(h.lt j hj).2;rw[hk i hi]at h1;rw[hk j hj]at h2;rw[<-h1,<-h2,e]
 obtain⟨a1,a2⟩:=h.lt i hi;obtain⟨b1,b2⟩:=h.lt j hj;rw[hk i hi]at a2;rw[hk j hj]at b2;show nth (dH _ 37).2 i=nth (dH _ 37).2 j;rw[aD a1]at a2;rw[aD b1]at b2;exact Cz h.nd a1 b1 (by rw[a2,b2,e])
def pZ(g:List Nat)(many:Nat)(row:List Nat):List Nat:=(LY many).map λk=>nth row ((g.findIdx? (· == k)).getD 0)
def nQ(g:List Nat)(many:Nat)(row:List Nat):(pZ g many row).length=many:=by simp[pZ]
def xQ(hg:GrpI g many)(hc:∀i j,i<37->j<37->nth g i=nth g j->nth row i=nth row j)(hi:i<37):nth (pZ g many row) (nth g i)=nth row i:=by
 have a0:=hg.len;unfold pZ;rw[aD (xs:=List.map _ (LY many)) (by simpa using (hg.lt i hi)),Pp,List.getElem_range]
 cases hf:g.findIdx? (· == nth g i)with
 |none=>
  have:=MK.1 hf (nth g i) (aZ zo);simp at this
 |some q=>
  obtain⟨h1,h2,_⟩:=Mj.1 hf;rw[<-aD h1]at h2;exact hc q i zo hi (by simpa using h2)
def CE(hg:GrpI g many)(hc:∀i j,i<37->j<37->nth g i=nth g j->nth row i=nth row j)(ho:a0.length=many)(h:∀i,i<37->nth a0 (nth g i)=nth row i):a0=pZ g many row:=by
 refine List.ext_getElem (by rw[ho,nQ]) λk h1 h2=>?_
 obtain⟨i,hi,e⟩:=hg.hit k zo;rw[<-aD h1,<-aD h2,<-e,h i hi,xQ hg hc hi]
def AS(g row:List Nat)(many:Nat)(gv rv:ix)(w:ln)(hg:GrpI g many)(b0:Sl bp 1 w gv g)(a9:Sl bp 1 w rv row)(b5:row.length=37)(hc:∀i j,i<37->j<37->nth g i=nth g j->nth row i=nth row j):
  Np Mk 190 [gv,rv,nI (many:Nat)] w λv w'=>∃ov,v=.tuple #[ov,.bool true]/\Sl bp 1 w' ov (pZ g many row)/\N1 w w'/\∀(B:Nat) (O:Nat->Nat),Nn B O w->NI O w' ov:=by
 have c9:=hg.len;have c7:=hg.le;apply L6 func190 ntmps190 rfl rfl;refine zh ?_;apply cg lK (val:=λn:Nat=>nI (n:Int)) (0:Nat) zk (λ_=>rfl) (aA w) 1 zd many rfl rfl rfl rfl zo zo rfl;intro w1 O1 ov b6 a5 b' c5 b3;clear b6;have d0:=b0.ext b3;have c6:=a9.ext b3;refine zh ?_;rw[show((row.length:Int)-1)=((37:Nat):Int)-1 from by rw[b5]];apply zlp (λz:Nat×ln×List Nat=>[(0,gv),(1,rv),(8,ov),(9,nI ((z.1:Int)-1))]) (λz=>z.2.1) (λz=>z.1<=37/\My bp 3 1 O1 z.2.1 1 ov z.2.2/\M5 (λq=>q=1) O1 w1 O1 z.2.1/\z.2.2.length=many/\∀i,z.1<=i->i<37->nth z.2.2 (nth g i)=nth row i) (λz=>z.1) (37,w1,L1 many 0) ⟨L8 _,a5,N6 zd _ _,by simp,λi h1 h2=>by dsimp only at h1;omega⟩;rintro⟨j,w2,b4⟩ ⟨hj,a0,a6,a7,a1⟩;dsimp only at hj a0 a6 a7 a1 ⊢;have a3:=(b'.J a6).ext;have b2:=b0.ext a3;have a':=a9.ext a3;refine zh ?_;refine zC ?_ ?_
 ·intro b1;replace b1:1<=j:=dT b1;obtain⟨m,rfl⟩:∃m,j=m+1:=⟨j-1,zo⟩
  rw[show(((m+1:Nat):Int)-1)=(m:Int)from by omega];have c8:=hg.lt m zo;have k1:w2.cell? (adr gv 1 m)=some (nI ((nth g m:Nat):Int)):=by have:=b2.cell (i:=m) (j:=0) zo rfl;rwa[ax]at this
  have k2:w2.cell? (adr rv 1 m)=some (nI ((nth row m:Nat):Int)):=by have:=a'.cell (i:=m) (j:=0) zo rfl;rwa[ax]at this
  refine zh ?_;apply P4 10 rfl rfl zk zk
  refine zh ?_;apply zw (aj a0.sl.sh L0 (LX _) rfl rfl (nth g m) rfl zo)
  apply PD;apply N4 a0.drew (nth g m) zo (nth row m) (LX _) rfl zd rfl rfl rfl rfl
  intro w3 a4 b9;refine zh ?_;refine zxd (m,w3,b4.set (nth g m) (nth row m)) ⟨by dsimp only;omega,a4,a6.drew.J b9,by dsimp only;rw[Mf];exact a7,λi h1 h2=>?_⟩;dsimp only at h1 ⊢;rw[bf zo]
  split
  ·rename_i e;exact hc m i zo h2 e.symm
  rename_i e;refine a1 i ?_ h2;have:i≠m:=λe2=>e (by rw[e2])
  omega
 intro b7;obtain rfl:j=0:=dF b7
 refine zh ?_;apply zlp (λz:Nat=>[(0,gv),(8,ov),(31,rv),(32,nI row.length),(33,nI z)]) (λz=>w2) (λz=>z<=row.length) (λz=>row.length-z) 0 (L3 _)
 intro i hi;refine zh ?_;refine zC ?_ ?_
 ·intro a2;replace a2:i<row.length:=dT a2;have c':=hg.lt i zo;have k1:w2.cell? (adr gv 1 i)=some (nI ((nth g i:Nat):Int)):=by have:=b2.cell (i:=i) (j:=0) zo rfl;rwa[ax]at this
  have k2:w2.cell? (adr rv 1 i)=some (nI ((nth row i:Nat):Int)):=by have:=a'.cell (i:=i) (j:=0) zo rfl;rwa[ax]at this
  have k3:w2.cell? (adr ov 1 (nth g i))=some (nI ((nth row i:Nat):Int)):=by have:=a0.sl.cell (i:=nth g i) (j:=0) zo rfl;rw[ax,a1 i (L3 _) zo]at this;exact this
  refine zh ?_;refine zvH (aj a0.sl.sh L0 (LX _) rfl rfl (nth g i) rfl zo) ?_
  refine zFH rfl ((by simp)) ?_;refine zxd (i+1) a2
 intro b8;refine zh ?_;refine cy rfl rfl rfl ⟨ov,rfl,by rw[<-(CE hg hc a7 λi hi=>a1 i (L3 _) hi)];exact a0.sl,a3,λB O hO=>a0.free zd (c5.U a6) hO⟩
def _root_.Go.VL.Sl.natIv(h:Sl bp 1 w v l):Sl encI 1 w v (l.map fun(n:Nat)=>(n:Int)):=
 ⟨by simpa using h.shape,λi hi j u hu=>h.cells i (by simpa using hi) j u (by simpa using hu)⟩
def IH:cI Mk 225 #[(0,1),(1,1),(2,1)]:=⟨_,underlying225,λw=>by kernel_rfl⟩
def F7(g:List Nat)(many:Nat)(gv nv tv:ix)(rows:List (List Nat))(a':List Nat)(w:ln)(hg:GrpI g many)(g1:Sl bp 1 w gv g)(hn:RowsN w nv rows)(h5:Sl jx 1 w tv a')(hr:RightD rows a') 
  (hc:∀p,p<rows.length->∀i j,i<37->j<37->nth g i=nth g j->nth (nth rows p) i=nth (nth rows p) j) :
  Np Mk 137 [gv,.agg #[nv,tv]] w λv w'=>∃gv' nv' tv',v=.tuple #[.agg #[gv',nv',tv'],nI 0]/\gv'.oneCell'=true/\nv'.oneCell'=true/\tv'.oneCell'=true/\RowsG w.heap.size w' nv' (rows.map (pZ g many))/\Sl jx 1 w' tv' a'/\P1 w.heap.size tv'/\N1 w w':=by
 have j6:=hr.le;have i1:=hr.tl;have j7:=hg.len;have j4:=hg.pos;have j5:=hg.le;apply L6 func137 ntmps137 rfl rfl;refine zh ?_;apply aQ (aA w) 1 zo rfl rfl;intro db w1 O1 g4 i8 j1 j9;apply aw j1 2 zo (N2 _) rfl;intro cb w2 O2 g8 h8 j0 j8;have e7:=g4.U h8 zd zd;have e9:M5 (λq=>1<=q) (λ_=>0) w O2 w2:=(i8.mono (λ_ h=>zo) zd).J (h8.mono (λ_ h=>zo) zd);have d4:=e9.ext;refine zh ?_;apply zc call29 (jj (ints g) gv w2 (g1.ext d4).natIv);rintro _ w3 ⟨rfl,h4⟩;rw[h4,hg.cnt];clear h4 w3;refine zh ?_;apply ay (d:=16) rfl (b':=false) ((by rw[beq_eq_false_iff_ne];omega));refine zh ?_;refine zvH (ai (us:=[nv,tv]) e7.V (MA _) (Md _) rfl) ?_;apply zc Q6 (kB nv tv rows a' w2 (hn.ext d4) (h5.ext d4) hr);rintro _ w3 ⟨rfl,j2⟩;have f5:M5 (λ_=>False) O2 w2 O2 w3:=ae (λh=>h) O2 j2;have c':=e7.U f5 zd (λh=>h);have b6:=e9.J (f5.mono (λ_ h=>h.elim) zd);refine zh ?_;refine zFH rfl rfl ?_;have d1:w3.drew.cell? (nA db 1)=some tv:=c'.cell 1 rfl;apply aO (λW=>W.cell? (nA db 1)=some tv) 8 rfl zk;apply zrm 0 rfl d1 rfl;apply zrf 2 rfl d1 rfl;apply zt 3 rfl d1 (λw1 h'=>RV.ld h' rfl)
 refine ja (λx:ix×ix×Nat×(Nat->Nat)×World=>[(0,gv),(3,nP db),(4,nP cb),(6,nI (many:Nat)),(23,x.1),(26,x.2.1),(7,.pointer (some ⟨x.2.2.1,0,none⟩)),(27,.agg #[x.1,nS,x.2.1])]) (λx=>x.2.2.2.2) (λx=>Sl bp 1 x.2.2.2.2 x.1 g/\Sl jx 1 x.2.2.2.2 x.2.1 a'/\NI x.2.2.2.1 x.2.2.2.2 x.2.1/\MZ x.2.2.2.1 x.2.2.2.2 3 x.2.2.1 #[nS,nS,nS] 225/\M5 (λq=>q=3) O2 w3 x.2.2.2.1 x.2.2.2.2/\Nn w.heap.size x.2.2.2.1 x.2.2.2.2/\P1 w3.heap.size x.2.1) #[true,true,true,true,true,true,true,false] 1 ?_ ?_
 ·intro hN;have hR:=(j0.U f5).drew;have hU:M5 (λq=>q=3) O2 w3 O2 w3.drew:=ae zd O2 (M4 w3).drew;have k0:∀O W,M5 (λq=>q=3) O2 w3 O W->W.cell? (nA db 1)=some tv:=λO W u=>(c'.U u zd zd).cell 1 rfl
  have kg:∀O W,M5 (λq=>q=3) O2 w3 O W->Sl bp 1 W gv g:=λO W u=>g1.ext (b6.J (u.mono (λ_ h=>zo) zd)).ext
  have kt:∀O W,M5 (λq=>q=3) O2 w3 O W->Sl jx 1 W tv a':=λO W u=>h5.ext (b6.J (u.mono (λ_ h=>zo) zd)).ext
  refine bK 1 6 zk rfl rfl ?_ ?_ 
  ·apply zc call188 (rq g gv _ (kg _ _ hU) (λ_ _=>rfl) (λu hu c hc=>by rw[L2.1 hc];rfl) zo);rintro a1 wa ⟨fA,f4,_⟩;have b2:=λO=>ae (S:=λ_=>False) (λh=>h) O f4
   have hU:=Ng hU ((b2 _).mono (λ_ h=>h.elim) zd);have hR:=NC hR (b2 _)
   try have fB:=NK fB f4
   try have gB:=NM gB (b2 _)
   try have fC:=Nv fC (b2 _) zd (λh=>h)
   refine zh ?_;apply af (k0 _ _ hU)
   refine bK 4 6 zk rfl rfl ?_ ?_ 
   ·apply zc Q5 (mM a' tv _ (kt _ _ hU) (λ_ _=>rfl) (λu hu c hc=>by rw[L2.1 hc];rfl) zo);rintro a0 wb ⟨fB,b8,b9⟩;have nB:=(sH b9).mono hU.size;have gB:=b9 _ _ hR;have a9:=λO=>ae (S:=λ_=>False) (λh=>h) O b8
    have hU:=Ng hU ((a9 _).mono (λ_ h=>h.elim) zd);have hR:=NC hR (a9 _)
    try have fA:=NK fA b8
    try have fC:=Nv fC (a9 _) zd (λh=>h)
    refine zh ?_;apply af (k0 _ _ hU)
    have oA:=P5 fA;have oB:=P5 fB;apply zr 5 rfl (k0 _ _ hU) (λ_=>aI IH (N2 _) rfl (by simp only[L9,oA,oB,Mm];rfl) rfl rfl);apply LZ 6 zk rfl;apply aw hR 3 zd (N2 _) rfl;intro ob wc Oc fC a8 e' f3;have hU:=Ng hU a8;have hR:=e'
    try have fA:=NK fA f3
    try have fB:=PY fB gB a8
    try have gB:=NM gB a8
    refine zh ?_;apply af (k0 _ _ hU)
    exact WH.leaf (hN (a1,a0,ob,_,_) ⟨fA,fB,gB,fC,hU,hR,nB⟩) zk ⟨rfl,rfl,rfl,rfl,rfl,rfl,rfl,rfl,trivial⟩ rfl
   apply aw hR 3 zd (N2 _) rfl;intro ob wc Oc fC a8 e' f3;have hU:=Ng hU a8;have hR:=e'
   try have fA:=NK fA f3
   try have fB:=PY fB gB a8
   try have gB:=NM gB a8
   refine zh ?_;apply af (k0 _ _ hU)
   apply LZ 4 zk rfl;apply zc Q5 (mM a' tv _ (kt _ _ hU) (λ_ _=>rfl) (λu hu c hc=>by rw[L2.1 hc];rfl) zo)
   rintro a0 wb ⟨fB,b8,b9⟩;have nB:=(sH b9).mono hU.size;have gB:=b9 _ _ hR;have a9:=λO=>ae (S:=λ_=>False) (λh=>h) O b8
   have hU:=Ng hU ((a9 _).mono (λ_ h=>h.elim) zd);have hR:=NC hR (a9 _)
   try have fA:=NK fA b8
   try have fC:=Nv fC (a9 _) zd (λh=>h)
   refine zh ?_;apply af (k0 _ _ hU)
   have oA:=P5 fA;have oB:=P5 fB;apply zr 5 rfl (k0 _ _ hU) (λ_=>aI IH (N2 _) rfl (by simp only[L9,oA,oB,Mm];rfl) rfl rfl);exact WH.leaf (hN (a1,a0,ob,_,_) ⟨fA,fB,gB,fC,hU,hR,nB⟩) zk ⟨rfl,rfl,rfl,rfl,rfl,rfl,rfl,rfl,trivial⟩ rfl
  apply aw hR 3 zd (N2 _) rfl;intro ob wc Oc fC a8 e' f3;have hU:=Ng hU a8;have hR:=e'
  try have fA:=NK fA f3
  try have fB:=PY fB gB a8
  try have gB:=NM gB a8
  refine zh ?_;apply af (k0 _ _ hU)
  apply LZ 1 zk rfl;apply zc call188 (rq g gv _ (kg _ _ hU) (λ_ _=>rfl) (λu hu c hc=>by rw[L2.1 hc];rfl) zo)
  rintro a1 wa ⟨fA,f4,_⟩;have b2:=λO=>ae (S:=λ_=>False) (λh=>h) O f4
  have hU:=Ng hU ((b2 _).mono (λ_ h=>h.elim) zd);have hR:=NC hR (b2 _)
  try have fB:=NK fB f4
  try have gB:=NM gB (b2 _)
  try have fC:=Nv fC (b2 _) zd (λh=>h)
  refine zh ?_;apply af (k0 _ _ hU)
  apply LZ 4 zk rfl;apply zc Q5 (mM a' tv _ (kt _ _ hU) (λ_ _=>rfl) (λu hu c hc=>by rw[L2.1 hc];rfl) zo)
  rintro a0 wb ⟨fB,b8,b9⟩;have nB:=(sH b9).mono hU.size;have gB:=b9 _ _ hR;have a9:=λO=>ae (S:=λ_=>False) (λh=>h) O b8
  have hU:=Ng hU ((a9 _).mono (λ_ h=>h.elim) zd);have hR:=NC hR (a9 _)
  try have fA:=NK fA b8
  try have fC:=Nv fC (a9 _) zd (λh=>h)
  refine zh ?_;apply af (k0 _ _ hU)
  have oA:=P5 fA;have oB:=P5 fB;apply zr 5 rfl (k0 _ _ hU) (λ_=>aI IH (N2 _) rfl (by simp only[L9,oA,oB,Mm];rfl) rfl rfl);exact WH.leaf (hN (a1,a0,ob,_,_) ⟨fA,fB,gB,fC,hU,hR,nB⟩) zk ⟨rfl,rfl,rfl,rfl,rfl,rfl,rfl,rfl,trivial⟩ rfl
 rintro⟨a1,a0,ob,O7,w7⟩ ⟨e5,c5,c9,b1,b4,h9,e4⟩;dsimp only at e5 c5 c9 b1 b4 h9 e4 ⊢;have o1:=e5.one;have o2:=c5.one;have g6:=(g8.U f5 zd (λh=>h)).U b4 zd zd;apply LZ 7 zk rfl;apply zsb (us:=#[a1,nS,a0]) b1 (Pc _) (by simp only[L9,o1,o2];rfl);have g0:=b1.setRow (us:=#[a1,nS,a0]);have d7:M5 (λj=>j=3) O7 w7 O7 (w7.setRow ob #[a1,nS,a0]):=M1 zd b1.tag rfl;have e6:=(c'.U b4 zd zd).U d7 zd zd;have d3:=(b6.J (b4.mono (λ_ h=>zo) zd)).J (d7.mono (λ_ h=>zo) zd);have i9:=h9.U d7;generalize w7.setRow ob #[a1,nS,a0]=w8 at *;refine zh ?_;apply af (e6.cell 1 rfl);have e0:w8.cell? (nA db 0)=some nv:=e6.cell 0 rfl;obtain⟨vs,d9,j3,f8⟩:=hn;have i0:=d9.ext d3.ext;apply MF zk;refine zh ?_;apply zlp (λz:Nat×(Nat->Nat)×World×ix×List ix=>[(0,gv),(3,nP db),(4,nP cb),(6,nI (many:Nat)),(7,nP ob),(29,nv),(30,nI vs.length),(31,nI z.1)]) (λz=>z.2.2.1) (λz=>z.1<=rows.length/\M5 (λq=>3<=q) O7 w8 z.2.1 z.2.2.1/\Nn w.heap.size z.2.1 z.2.2.1/\MZ z.2.1 z.2.2.1 3 ob #[a1,z.2.2.2.1,a0] 225/\RwO z.2.1 z.2.2.1 4 z.2.2.2.1 z.2.2.2.2 ((rows.take z.1).map (pZ g many))/\∀k,k<z.1->P1 w.heap.size (nth z.2.2.2.2 k)) (λz=>rows.length-z.1) (0,O7,w8,nS,[]) ⟨L3 _,N6 zd _ _,i9,g0,⟨M9 _ _ _ _ _ _,rfl,λk hk=>absurd hk (L4 k)⟩,λk hk=>absurd hk (L4 k)⟩
 rintro⟨i,O9,w9,d6,d5⟩ ⟨hi,e8,f6,c6,a4,c7⟩;dsimp only at hi e8 f6 c6 a4 c7 ⊢;have b5:=d3.J (e8.mono (λ_ h=>zo) zd);have f7:=d9.ext b5.ext;have i2:=a4.len;have f':((rows.take i).map (pZ g many)).length=i:=by simp;omega
 refine zh ?_;refine zC ?_ ?_
 ·intro c8;replace c8:i<rows.length:=dT c8;have m1:w9.cell? (adr nv 1 i)=some (nth vs i):=by have:=f7.cell (i:=i) (j:=0) zo rfl;rwa[ax]at this
  obtain⟨r1,r2⟩:=hr.row i c8;refine zh ?_;apply zc call190 (AS g (nth rows i) many gv (nth vs i) w9 hg (g1.ext b5.ext) ((f8 i c8).ext b5.ext) r1 (hc i c8));rintro _ h3 ⟨ov,rfl,h6,h2,h7⟩;have b3:M5 (λ_=>False) O9 w9 O9 h3:=ae (λh=>h) O9 h2;have e2:=h7 _ _ f6;have i3:=(sH h7).mono b5.size;have h1:=f6.U b3;have b7:=c6.U b3 zd (λh=>h);have a2:=a4.U b3 zd (λh=>h);obtain⟨oa,oc,i4,_⟩:=h6.shape;subst i4;refine zh ?_;apply aH rfl rfl;have f0:h3.cell? (nA ob 1)=some d6:=b7.cell 1 rfl;refine zh ?_;apply MV G2 a2.row h1 ((.slice oa (pZ g many (nth rows i)).length oc:ix)) (λ_=>rfl) rfl rfl rfl (by simp[L5]) zo zo zo zd rfl rfl;intro a3 d8 O11 a6 a5 h0;have a7:=b7.U a5 zd zd;have e1:RwO O11 d8 4 a3 (d5++[.slice oa (pZ g many (nth rows i)).length oc]) ((rows.take (i+1)).map (pZ g many)):=by
   rw[bd c8,Mq];refine⟨a6,by simp;omega,λk hk=>?_⟩;rw[aC,aC]
   by_cases e:k<((rows.take i).map (pZ g many)).length
   ·rw[ap zo,ap e];exact⟨(a2.at_ k e).1.U (a2.at_ k e).2 a5,(a2.at_ k e).2.U a5⟩
   have i5:k=i:=by simp at hk;omega
   subst i5;rw[am zo,am e,f',show k-d5.length=0 from by omega,Nf,ar,Mb,NV,ar];exact⟨h6.U e2 a5,e2.U a5⟩
  refine zh ?_;apply ao (j:=1) a7 rfl (Pd _) a6.one rfl rfl rfl
  have d2:M5 (λj=>j=3) O11 d8 O11 (d8.setCell ⟨ob,1,none⟩ a3):=MB zd a7.tag rfl;have e3:MZ O11 (d8.setCell ⟨ob,1,none⟩ a3) 3 ob #[a1,a3,a0] 225:=a7.set 1 _;have d':=e1.U d2 zd zd;have g':=h0.U d2;generalize d8.setCell ⟨ob,1,none⟩ a3=w12 at *;refine zh ?_;refine zxd (i+1,O11,w12,a3,d5++[.slice oa (pZ g many (nth rows i)).length oc]) ⟨c8,((e8.J (b3.mono (λ_ h=>h.elim) zd)).J (a5.mono (λ_ h=>zo) zd)).J (d2.mono (λ_ h=>zo) zd),g',e3,d',λk hk=>?_⟩;dsimp only at hk ⊢;rw[aC]
  by_cases e:k<d5.length
  ·rw[ap e];exact c7 k zo
  rw[am e,show k-d5.length=0 from by omega,ar];exact i3
 intro i6;obtain rfl:i=rows.length:=dF i6;rw[M6]at a4;have o3:=a4.row.one;have d0:=(g6.U d7 zd zd).U e8 zd zd;refine zh ?_;apply zv (ai (us:=[a1,d6,a0]) c6.V (isAgg225 _) (Pc _) rfl);apply zsb (us:=#[a1,d6,a0]) d0 (Pc _) (by simp only[L9,o1,o2,o3];rfl);have i7:=d0.setRow (us:=#[a1,d6,a0]);have g9:M5 (λj=>j=2) O9 w9 O9 (w9.setRow cb #[a1,d6,a0]):=M1 zd d0.tag rfl;have b0:=a4.U g9 zd zd;have hU9z:=(e8.mono (S':=λq=>2<=q) (λ_ h=>zo) zd).J (g9.mono (λ_ h=>zo) zd);refine zh ?_;refine bE rfl rfl rfl i7.V (isAgg225 _) (Pc _) ⟨a1,d6,a0,rfl,o1,o3,o2,⟨d5,b0.row.sl,b0.row.newV zd (f6.U g9),b0.len,λk hk=>⟨(b0.at_ k hk).1,c7 k (by simpa using hk)⟩⟩,(c5.U c9 d7).U (c9.U d7) hU9z,e4.mono b6.size,(d3.J (hU9z.mono (λ_ h=>zo) zd)).ext⟩
def qj(a0:List Int)(base c:Nat):Bool:=!(decide (base+c<a0.length)&&nth a0 (base+c) != -1)
def AI(pb:Nat)(cv kv:ix)(a0:List Nat)(a2:List Int)(base:Nat)(w:ln) 
  (hp:w.cell? ⟨pb,3,none⟩=some kv) (hk:NS w kv a2) (hc:LW w cv a0) (a6:∀c∈a0,c<=64) (hb:base<=200000) :
  Np Mk 240 [nP pb,cv,nI base] w λv w'=>v=.bool (a0.all (qj a2 base))/\w=w':=by
 have a8:=hk.len_le;have a':=hc.len_le;apply L6 func240 ntmps240 rfl rfl;refine zh ?_;apply zlp (λk:Nat=>[(0,nP pb),(1,cv),(2,nI base),(9,cv),(10,nI a0.length),(11,nI k)]) (λk=>w) (λk=>k<=a0.length/\∀j,j<k->qj a2 base (nth a0 j)=true) (λk=>a0.length-k) 0 ⟨L3 _,λj hj=>absurd hj (L4 j)⟩;intro k ⟨a9,a4⟩;refine zh ?_;refine zC ?_ ?_
 ·intro a1;replace a1:k<a0.length:=by simpa using a1
  have b0:=a6 _ (aZ a1);refine zh ?_;refine zvH (RV.ld (hc.ld zo) rfl) ?_;refine zvH (RV.ld hp rfl) ?_
  by_cases a5:base+nth a0 k<a2.length
  ·apply ay (d:=24) rfl (b':=true) (by simpa using(by omega:(base:Int)+((nth a0 k:Nat):Int)<(a2.length:Int)));refine zh ?_
   refine zvH (RV.ld hp rfl) ?_;refine zvH (RV.ld (hk.ld zo) rfl) ?_
   refine zC ?_ ?_
   ·intro a3;refine zh ?_;refine ah rfl rfl ⟨?_,rfl⟩;rw[xO a1];simp only[qj,a5,a3];rfl
   intro a3;refine zh ?_;refine zxd (k+1) ⟨a1,λj hj=>?_⟩
   rcases Me.1 hj with h|rfl
   ·exact a4 j h
   simp only[qj,a5,a3];rfl
  apply ay (d:=24) rfl (b':=false) (by simpa using(by omega:¬(base:Int)+((nth a0 k:Nat):Int)<(a2.length:Int)));refine zh ?_
  refine zFH rfl rfl ?_;refine zxd (k+1) ⟨a1,λj hj=>?_⟩
  rcases Me.1 hj with h|rfl
  ·exact a4 j h
  simp only[qj,a5];rfl
 intro a7;replace a7:a0.length<=k:=by simpa using a7
 refine zh ?_;refine ah rfl rfl ⟨?_,rfl⟩
 rw[Jc λj hj=>a4 j zo]
def cnt(row:List Int)(n:Int):Int:=(row.count n:Int)
def nt(row:List Int)(b n:Int):Int:=if cnt row b<cnt row n\/(cnt row n=cnt row b/\n<b)then n else b
def ck(row:List Int):Int:=row.foldl (nt row) (nth row 0)
abbrev iv:Int->ix:=PN .i64
def qS:KeyL Mk 3 iv:=Q2 NP
def BE(row:List Int)(rv:ix)(w:ln)(h:NS w rv row)(a9:0<row.length):
  Np Mk 239 [rv] w λu w'=>u=nI (ck row)/\N1 w w':=by
 have hl:=h.len_le;have a6:∀r z,0<=cnt r z:=λr z=>by simp only[cnt];omega
 have a5:∀k z,cnt (row.take k) z<=k:=λk z=>by
  have h1:=List.count_le_length (a:=z) (l:=row.take k);have h2:=List.length_take_le k row;simp only[cnt];omega
 apply L6 func239 ntmps239 rfl rfl;refine zh ?_
 apply WL.makeMap rfl;refine zh ?_
 refine zvH (Ns (by first|exact h.ext (NJ _ _)) L0 rfl) ?_;apply zlp (λx:Nat×ln×List (Int×Int)=>[(0,rv),(3,.map (some w.heap.size)),(10,rv),(11,nI row.length),(12,nI x.1)]) (λx=>x.2.1) (λx=>x.1<=row.length/\MW iv iv (mq (λ_=>0) w.heap.size 1) x.2.1 1 w.heap.size x.2.2/\M5 (λj=>j=1) (λ_=>0) w (mq (λ_=>0) w.heap.size 1) x.2.1/\∀z,(bI x.2.2 z).getD 0=cnt (row.take x.1) z) (λx=>row.length-x.1) (0,_,[]) ⟨L3 _,MapO.new _ _ _,Pu zd (aA _) _ _,λz=>by simp[bI,cnt]⟩
 rintro⟨k,w1,m⟩ ⟨hk,hm,hU,a2⟩;dsimp only at hk hm hU a2 ⊢;have h1:=h.ext hU.ext;refine zh ?_;refine zC ?_ ?_
 ·intro a1;replace a1:k<row.length:=by simpa using a1
  have hc:=a5 k (nth row k);have a':=a6 (row.take k) (nth row k);refine zh ?_;refine zvH (RV.ld (h1.ld zo) rfl) ?_;refine zvH (Mu hm Mv qS (Mo _) (nth row k) rfl rfl rfl (u:=iv (cnt (row.take k) (nth row k))) (by rw[<-a2];cases bI m (nth row k)<;>rfl)) ?_;apply Mt hm Mv qS zd (nth row k) (cnt (row.take k) (nth row k)+1) rfl rfl rfl rfl rfl;intro w2 a7 a8;refine zh ?_;refine zxd (k+1,w2,_) ⟨a1,a7,hU.J a8,λz=>?_⟩;dsimp only;rw[bx,bd a1]
  by_cases hz:nth row k=z
  ·subst hz;simp[cnt]
  rw[am hz,a2];simp[cnt,List.count_append,hz]
 intro a3;replace a3:row.length<=k:=by simpa using a3
 have a4:∀z,(bI m z).getD 0=cnt row z:=λz=>by rw[a2,NU a3]
 refine zh ?_;refine zvH (RV.ld (h1.ld zo) rfl) ?_
 apply zlp (λx:Nat×Int=>[(3,.map (some w.heap.size)),(24,rv),(25,nI row.length),(26,nI x.1),(6,nI x.2)]) (λx=>w1) (λx=>x.1<=row.length/\(row.take x.1).foldl (nt row) (nth row 0)=x.2) (λx=>row.length-x.1) (0,nth row 0) ⟨L3 _,rfl⟩;rintro⟨k,b⟩ ⟨hk,hb⟩;dsimp only at hk hb ⊢;refine zh ?_
 refine zC ?_ ?_
 ·intro a1;replace a1:k<row.length:=by simpa using a1
  have a0:(row.take (k+1)).foldl (nt row) (nth row 0)=nt row b (nth row k):=by rw[bd a1,Ml,hb];rfl
  have L:∀z,Je iv (nI 0) (bI m z)=iv (cnt row z):=λz=>by rw[<-a4];cases bI m z<;>rfl
  refine zh ?_;refine zvH (RV.ld (h1.ld zo) rfl) ?_
  refine zvH (Mu hm Mv qS (Mo _) (nth row k) rfl rfl rfl (L _)) ?_;refine zvH (Mu hm Mv qS (Mo _) b rfl rfl rfl (L _)) ?_
  by_cases h1:cnt row b<cnt row (nth row k)
  ·apply ay (d:=37) rfl (b':=true) (decide_eq_true h1);refine zh ?_
   refine zTH rfl rfl ?_;refine zxd (k+1,_) ⟨a1,by rw[a0,nt,ap (.inl h1)]⟩
  apply ay (d:=37) rfl (b':=false) (decide_eq_false h1);refine zh ?_
  refine zvH (Mu hm Mv qS (Mo _) (nth row k) rfl rfl rfl (L _)) ?_;refine zvH (Mu hm Mv qS (Mo _) b rfl rfl rfl (L _)) ?_
  by_cases h2:cnt row (nth row k)=cnt row b
  ·apply ay (d:=45) rfl (b':=true) (by simpa using h2);refine zh ?_
   refine zC ?_ ?_
   ·intro h3;replace h3:nth row k<b:=by simpa using h3
    refine zh ?_;refine zxd (k+1,_) ⟨a1,by rw[a0,nt,ap (.inr ⟨h2,h3⟩)]⟩
   intro h3;replace h3:¬nth row k<b:=by simpa using h3
   refine zh ?_;refine zxd (k+1,_) ⟨a1,by rw[a0,nt,am (λh=>h.elim h1 λh=>h3 h.2)]⟩
  apply ay (d:=45) rfl (b':=false) (by simpa using h2);refine zh ?_
  refine zFH rfl rfl ?_;refine zxd (k+1,_) ⟨a1,by rw[a0,nt,am (λh=>h.elim h1 λh=>h2 h.1)]⟩
 intro a3;replace a3:row.length<=k:=by simpa using a3
 refine zh ?_;refine ah rfl rfl ⟨?_,hU.ext⟩
 rw[ck,<-hb,NU a3]
def qm:PL Mk 22 3 1 8:=⟨L0,by kernel_rfl,zd⟩
abbrev nH(O:Nat->Nat)(w:ln)(i:Nat)(v:ix)(l:List Int):Prop:=My (λx=>[nI x]) 3 1 O w i v l
structure PSt where
 width:Int
 usual:List Int
 base:List Int
 check:List Int
 next:List Int
structure PkR(T:Nat)(O:Nat->Nat)(w:ln)(pb:Nat)(p:PSt)(uv bv kv nv:ix):Prop where
 blk:MZ O w (T+1) pb #[nI p.width,uv,bv,kv,nv] 26
 u:nH O w (T+2) uv p.usual
 b:nH O w (T+3) bv p.base
 k:nH O w (T+4) kv p.check
 n:nH O w (T+5) nv p.next
def PkO(T:Nat)(O:Nat->Nat)(w:ln)(pb:Nat)(p:PSt):Prop:=∃uv bv kv nv,PkR T O w pb p uv bv kv nv
def jV(T:Nat)(i:Nat):Prop:=T+1<=i/\i<=T+5
def iF(T:Nat):¬jV T 0:=by unfold jV;omega
def PkR.U{T:Nat}{S:Nat->Prop}{O O':Nat->Nat}{w w':ln}{pb:Nat}{p:PSt}{uv bv kv nv:ix}(h:PkR T O w pb p uv bv kv nv)(u:M5 S O w O' w')(hS:∀i,jV T i->¬S i):PkR T O' w' pb p uv bv kv nv:=
 ⟨h.blk.U u zo (hS _ (by unfold jV;omega)),h.u.U u zo (hS _ (by unfold jV;omega)),h.b.U u zo (hS _ (by unfold jV;omega)),h.k.U u zo (hS _ (by unfold jV;omega)),h.n.U u zo (hS _ (by unfold jV;omega))⟩
def PkO.U{T:Nat}{S:Nat->Prop}{O O':Nat->Nat}{w w':ln}{pb:Nat}{p:PSt}(h:PkO T O w pb p)(u:M5 S O w O' w')(hS:∀i,jV T i->¬S i):PkO T O' w' pb p:=by
 obtain⟨uv,bv,kv,nv,h⟩:=h;exact⟨uv,bv,kv,nv,h.U u hS⟩
section
variable{T:Nat}{O O':Nat→Nat}{w w':ln}{pb:Nat}{p:PSt}{uv bv kv nv v:ix}{l:List Int}
def PkR.setK(h:PkR T O w pb p uv bv kv nv)(u:M5 (λj=>j=T+4) O w O' w')(r:nH O' w' (T+4) v l):
  PkR T O' (w'.setCell ⟨pb,3,none⟩ v) pb { p with check:=l } uv bv v nv/\M5 (jV T) O w O' (w'.setCell ⟨pb,3,none⟩ v):=by
 have hb:=h.blk.U u zo zo;have us:M5 (λj=>j=T+1) O' w' O' (w'.setCell ⟨pb,3,none⟩ v):=MB zo hb.tag rfl
 exact⟨⟨hb.set 3 v,(h.u.U u zo zo).U us zo zo,(h.b.U u zo zo).U us zo zo,r.U us zo zo,(h.n.U u zo zo).U us zo zo⟩,
  (u.mono (by unfold jV;omega) (iF T)).J (us.mono (by unfold jV;omega) (iF T))⟩
def PkR.setN(h:PkR T O w pb p uv bv kv nv)(u:M5 (λj=>j=T+5) O w O' w')(r:nH O' w' (T+5) v l):
  PkR T O' (w'.setCell ⟨pb,4,none⟩ v) pb { p with next:=l } uv bv kv v/\M5 (jV T) O w O' (w'.setCell ⟨pb,4,none⟩ v):=by
 have hb:=h.blk.U u zo zo;have us:M5 (λj=>j=T+1) O' w' O' (w'.setCell ⟨pb,4,none⟩ v):=MB zo hb.tag rfl
 exact⟨⟨hb.set 4 v,(h.u.U u zo zo).U us zo zo,(h.b.U u zo zo).U us zo zo,(h.k.U u zo zo).U us zo zo,r.U us zo zo⟩,
  (u.mono (by unfold jV;omega) (iF T)).J (us.mono (by unfold jV;omega) (iF T))⟩
def PkR.setU(h:PkR T O w pb p uv bv kv nv)(u:M5 (λj=>j=T+2) O w O' w')(r:nH O' w' (T+2) v l):
  PkR T O' (w'.setCell ⟨pb,1,none⟩ v) pb { p with usual:=l } v bv kv nv/\M5 (jV T) O w O' (w'.setCell ⟨pb,1,none⟩ v):=by
 have hb:=h.blk.U u zo zo;have us:M5 (λj=>j=T+1) O' w' O' (w'.setCell ⟨pb,1,none⟩ v):=MB zo hb.tag rfl
 exact⟨⟨hb.set 1 v,r.U us zo zo,(h.b.U u zo zo).U us zo zo,(h.k.U u zo zo).U us zo zo,(h.n.U u zo zo).U us zo zo⟩,
  (u.mono (by unfold jV;omega) (iF T)).J (us.mono (by unfold jV;omega) (iF T))⟩
def PkR.setB(h:PkR T O w pb p uv bv kv nv)(u:M5 (λj=>j=T+3) O w O' w')(r:nH O' w' (T+3) v l):
  PkR T O' (w'.setCell ⟨pb,2,none⟩ v) pb { p with base:=l } uv v kv nv/\M5 (jV T) O w O' (w'.setCell ⟨pb,2,none⟩ v):=by
 have hb:=h.blk.U u zo zo;have us:M5 (λj=>j=T+1) O' w' O' (w'.setCell ⟨pb,2,none⟩ v):=MB zo hb.tag rfl
 exact⟨⟨hb.set 2 v,(h.u.U u zo zo).U us zo zo,r.U us zo zo,(h.k.U u zo zo).U us zo zo,(h.n.U u zo zo).U us zo zo⟩,
  (u.mono (by unfold jV;omega) (iF T)).J (us.mono (by unfold jV;omega) (iF T))⟩
def PkR.c1(h:PkR T O w pb p uv bv kv nv):w.cell? ⟨pb,1,none⟩=some uv:=h.blk.cell 1 rfl
def PkR.c2(h:PkR T O w pb p uv bv kv nv):w.cell? ⟨pb,2,none⟩=some bv:=h.blk.cell 2 rfl
def PkR.c3(h:PkR T O w pb p uv bv kv nv):w.cell? ⟨pb,3,none⟩=some kv:=h.blk.cell 3 rfl
def PkR.c4(h:PkR T O w pb p uv bv kv nv):w.cell? ⟨pb,4,none⟩=some nv:=h.blk.cell 4 rfl
end
def PSt.long(p:PSt)(j:Nat):PSt:={ p with check:=p.check++L1 j (-1),next:=p.next++L1 j 0 }
def PSt.take(p:PSt)(slot:Nat)(row entry:Int):PSt:=
 let q:=p.long (slot+1-p.check.length)
 { q with check:=q.check.set slot row,next:=q.next.set slot entry }
def Fm(T:Nat)(pb:Nat)(p:PSt)(slot:Nat)(row entry:Int)(B:Nat)(O:Nat->Nat)(w:ln)(hp:PkO T O w pb p)(hR:Nn B O w)(hs:slot<=1000000)(hl:p.next.length=p.check.length):
  Np Mk 241 [nP pb,nI slot,nI row,nI entry] w λ_ w'=>∃O',PkO T O' w' pb (p.take slot row entry)/\M5 (jV T) O w O' w'/\Nn B O' w':=by
 apply L6 func241 ntmps241 rfl rfl;refine zh ?_
 apply zlp (λx:Nat×(Nat->Nat)×World=>[(0,nP pb),(1,nI slot),(2,nI row),(3,nI entry)]) (λx=>x.2.2) (λx=>PkO T x.2.1 x.2.2 pb (p.long x.1)/\M5 (jV T) O w x.2.1 x.2.2/\Nn B x.2.1 x.2.2/\x.1<=slot+1-p.check.length) (λx=>slot+1-p.check.length-x.1) (0,O,w) ⟨by simpa[PSt.long]using hp,N6 (iF T) _ _,hR,L3 _⟩;rintro⟨j,O1,w1⟩ ⟨⟨uv,bv,kv,nv,h⟩,hU,a5,hj⟩;dsimp only at h hU a5 hj ⊢;have hk:=h.k.sl;have b8:(p.long j).check.length=p.check.length+j:=by simp[PSt.long]
 have b6:(p.long j).next.length=p.check.length+j:=by simp[PSt.long,hl]
 have b7:=hk.len_le;refine zh ?_;refine zvH (RV.ld h.c3 rfl) ?_;refine zC ?_ ?_
 ·intro b0;replace b0:p.check.length+j<=slot:=dT b0;refine zh ?_;apply zv (RV.ld h.c3 rfl);apply MV qm h.k a5 (-1) (λ_=>rfl) rfl rfl rfl (by simp[L5]) zo zo zo zd rfl rfl;intro a9 w2 O2 a4 a1 b';obtain⟨h3,a0⟩:=h.setK a1 a4;have a2:=h.blk.U a1 zo zo;have b3:=a5.U a0;refine zh ?_;apply ao (j:=3) a2 rfl (Nm _) a4.one rfl rfl rfl;refine zh ?_;apply zv (RV.ld h3.c4 rfl);have h3n:nH O2 (w2.setCell ⟨pb,3,none⟩ a9) (T+5) nv (p.long j).next:=h3.n;apply MV qm h3n b3 (0) (λ_=>rfl) rfl rfl rfl (by simp[L5]) zo zo zo zd rfl rfl;intro a8 w4 O4 a' a3 b9;obtain⟨h5,b2⟩:=h3.setN a3 a';refine zh ?_;apply ao (j:=4) (h3.blk.U a3 zo zo) rfl (Nm _) a'.one rfl rfl rfl;refine zh ?_;have e:(p.long (j+1)) = { p.long j with check:=(p.long j).check++[-1],next:=(p.long j).next++[0] }:=by
   simp[PSt.long,List.replicate_succ']
  have hP:PkO T O4 (w4.setCell ⟨pb,4,none⟩ a8) pb (p.long (j+1)):=by rw[e];exact⟨_,_,_,_,h5⟩
  refine zxd (j+1,O4,w4.setCell ⟨pb,4,none⟩ a8) ⟨hP,(hU.J a0).J b2,b3.U b2,zo⟩
 intro b1;replace b1:¬p.check.length+j<=slot:=dF b1;obtain rfl:j=slot+1-p.check.length:=zo;refine zh ?_;apply aO (λw1=>w1.cell? ⟨pb,3,none⟩=some kv/\w1.cell? ⟨pb,4,none⟩=some nv) 16 rfl zk;refine zin ⟨h.c3,h.c4⟩ λzS=>?_
 apply zrm 0 rfl zS rfl;apply zr 1 rfl zS (λ_=>aq rfl)
 apply zrf 2 rfl zS rfl;apply zt 3 rfl zS (λw1 a6=>RV.ld a6.1 rfl)
 apply zrm 4 rfl zS rfl;apply zrm 5 rfl zS rfl
 apply zr 6 rfl zS (λ_=>aq rfl);apply zrf 7 rfl zS rfl
 apply zt 8 rfl zS (λw1 a6=>RV.ld a6.2 rfl);apply zrm 9 rfl zS rfl
 apply zrm 10 rfl zS rfl;apply zrm 11 rfl zS rfl
 apply zr 12 rfl zS (λ_=>aj hk.sh L0 (LX _) rfl rfl slot rfl zo);have h2:PkR T O1 w1.drew pb (p.long (slot+1-p.check.length)) uv bv kv nv:=⟨h.blk.drew,h.u.drew,h.b.drew,h.k.drew,h.n.drew⟩
 apply LZ 13 zk rfl;apply N4 h2.k slot zo row (LX _) rfl zo rfl rfl rfl rfl
 intro w2 a4 a1;have a2:=h2.blk.U a1 zo zo;refine zh ?_;apply af ⟨a2.cell 3 rfl,a2.cell 4 rfl⟩;apply zr 14 rfl ⟨a2.cell 3 rfl,a2.cell 4 rfl⟩ (λ_=>aj h.n.sl.sh L0 (LX _) rfl rfl slot rfl zo);apply LZ 15 zk rfl;apply N4 (h2.n.U a1 zo zo) slot zo entry (LX _) rfl zo rfl rfl rfl rfl;intro w3 b4 a0;have a7:=a2.U a0 zo zo;refine zh ?_;apply af ⟨a7.cell 3 rfl,a7.cell 4 rfl⟩;apply MF zk;have a3:=((a1.mono (by unfold jV;omega) (iF T)).J (a0.mono (by unfold jV;omega) (iF T))).ofDrew;refine aK rfl ⟨O1,⟨uv,bv,kv,nv,⟨a7,(h2.u.U a1 zo zo).U a0 zo zo,(h2.b.U a1 zo zo).U a0 zo zo,a4.U a0 zo zo,b4⟩⟩,hU.J a3,a5.U a3⟩
def qg{F:NH}(hF:∀(args:Array ix) (w:ln),(callFunc F args).run Mk w=.ok (.enter F args) w)(cs:Array ix)(l:List Int)(sv:ix)(q:Nat->Bool)(w:ln)(h:Sl (λx=>[nI x]) 1 w sv l) 
  (hq:∀i,i<l.length->∀w',N1 w w'->Np Mk F ([nI (nth l i)]++cs.toList) w' λv w''=>v=.bool (q i)/\N1 w' w'') :
  Np Mk 242 [sv,.func (.func F) #[] cs] w λv w'=>v=nI (eu q l.length)/\N1 w w':=by
 have hl:=h.len_le;apply L6 func242 ntmps242 rfl rfl;refine zh ?_;apply zlp (λx:Nat×ln=>[(0,sv),(1,.func (.func F) #[] cs),(7,nI l.length),(8,nI x.1)]) (λx=>x.2) (λx=>x.1<=l.length/\N1 w x.2/\∀i,i<x.1->q i=false) (λx=>l.length-x.1) (0,w) ⟨L3 _,M4 _,λi hi=>absurd hi (L4 i)⟩;rintro⟨k,w1⟩ ⟨hk,hE,a1⟩;dsimp only at hk hE a1 ⊢;have h1:=h.ext hE;refine zh ?_;refine zC ?_ ?_
 ·intro a0;replace a0:k<l.length:=dT a0;refine zh ?_;apply zv (RV.ld (h1.ld a0) rfl);apply ej rfl hF rfl (hq k a0 w1 hE) rfl;rintro v w2 ⟨rfl,a3⟩;refine zh ?_;refine zC ?_ ?_
  ·intro hy;refine zh ?_;refine ah rfl rfl ⟨by rw[cZ a0 hy a1],hE.J a3⟩
  intro hy;refine zh ?_;refine zxd (k+1,w2) ⟨a0,hE.J a3,λi hi=>(Me.1 hi).elim (a1 i) (λe=>by rw[e];exact hy)⟩
 intro a2;replace a2:l.length<=k:=dF a2;refine zh ?_;refine ah rfl rfl ⟨by rw[cX λi hi=>a1 i zo],hE⟩
def mK{F:NH}(hF:∀(args:Array ix) (w:ln),(callFunc F args).run Mk w=.ok (.enter F args) w)(cs:Array ix)(l:List Int)(sv:ix)(q:Nat->Bool)(w:ln)(h:Sl (λx=>[nI x]) 1 w sv l) 
  (hq:∀i,i<l.length->∀w',N1 w w'->Np Mk F ([nI (nth l i)]++cs.toList) w' λv w''=>v=.bool (q i)/\N1 w' w'') :
  Np Mk 193 [sv,.func (.func F) #[] cs] w λv w'=>v=.bool (jy q l.length)/\N1 w w':=by
 apply L6 func193 ntmps193 rfl rfl;refine zh ?_
 apply zc call242 (qg hF cs l sv q w h hq);rintro v w1 ⟨rfl,hE⟩;refine zh ?_
 refine ah rfl rfl ⟨by rw[firstN_any],hE⟩
def qe{F:NH}(hF:∀(args:Array ix) (w:ln),(callFunc F args).run Mk w=.ok (.enter F args) w)(cs:Array ix)(l:List ix)(sv:ix)(q:Nat->Bool)(w:ln)(h:Sl (λx=>[x]) 1 w sv l) 
  (hq:∀i,i<l.length->∀w',N1 w w'->Np Mk F ([id (nth l i)]++cs.toList) w' λv w''=>v=.bool (q i)/\N1 w' w'') :
  Np Mk 96 [sv,.func (.func F) #[] cs] w λv w'=>v=nI (eu q l.length)/\N1 w w':=by
 have hl:=h.len_le;apply L6 func96 ntmps96 rfl rfl;refine zh ?_;apply zlp (λx:Nat×ln=>[(0,sv),(1,.func (.func F) #[] cs),(7,nI l.length),(8,nI x.1)]) (λx=>x.2) (λx=>x.1<=l.length/\N1 w x.2/\∀i,i<x.1->q i=false) (λx=>l.length-x.1) (0,w) ⟨L3 _,M4 _,λi hi=>absurd hi (L4 i)⟩;rintro⟨k,w1⟩ ⟨hk,hE,a1⟩;dsimp only at hk hE a1 ⊢;have h1:=h.ext hE;refine zh ?_;refine zC ?_ ?_
 ·intro a0;replace a0:k<l.length:=dT a0;refine zh ?_;apply zv (RV.ld (h1.ld a0) rfl);apply ej rfl hF rfl (hq k a0 w1 hE) rfl;rintro v w2 ⟨rfl,a3⟩;refine zh ?_;refine zC ?_ ?_
  ·intro hy;refine zh ?_;refine ah rfl rfl ⟨by rw[cZ a0 hy a1],hE.J a3⟩
  intro hy;refine zh ?_;refine zxd (k+1,w2) ⟨a0,hE.J a3,λi hi=>(Me.1 hi).elim (a1 i) (λe=>by rw[e];exact hy)⟩
 intro a2;replace a2:l.length<=k:=dF a2;refine zh ?_;refine ah rfl rfl ⟨by rw[cX λi hi=>a1 i zo],hE⟩
def gm{F:NH}(hF:∀(args:Array ix) (w:ln),(callFunc F args).run Mk w=.ok (.enter F args) w)(cs:Array ix)(l:List ix)(sv:ix)(q:Nat->Bool)(w:ln)(h:Sl (λx=>[x]) 1 w sv l) 
  (hq:∀i,i<l.length->∀w',N1 w w'->Np Mk F ([id (nth l i)]++cs.toList) w' λv w''=>v=.bool (q i)/\N1 w' w'') :
  Np Mk 59 [sv,.func (.func F) #[] cs] w λv w'=>v=.bool (jy q l.length)/\N1 w w':=by
 apply L6 func59 ntmps59 rfl rfl;refine zh ?_
 apply zc call96 (qe hF cs l sv q w h hq);rintro v w1 ⟨rfl,hE⟩;refine zh ?_
 refine ah rfl rfl ⟨by rw[firstN_any],hE⟩
def xf(a:Int)(b1 b2:Addr)(lo hi:Int)(w:ln)(h1:w.cell? b1=some (nI lo))(h2:w.cell? b2=some (nI hi)):
  Np Mk 194 [nI a,.pointer (some b1),.pointer (some b2)] w λv w'=>v=.bool (decide (a<lo)||decide (hi<a))/\w=w':=by
 apply L6 func194 ntmps194 rfl rfl;refine zh ?_
 by_cases a0:a<lo
 ·apply ay (d:=8) rfl (b':=true) (decide_eq_true a0);refine zh ?_
  refine ah rfl rfl ⟨by simp[a0],rfl⟩
 apply ay (d:=8) rfl (b':=false) (decide_eq_false a0);refine zh ?_
 refine ah rfl rfl ⟨by simp[a0],rfl⟩
def inB(lo hi:Int)(l:List Int):Bool:=l.all λn=>decide (lo<=n)&&decide (n<=hi)
def fW(lo hi:Int)(l:List Int)(lv:ix)(w:ln)(h:NS w lv l):
  Np Mk 139 [lv,nI lo,nI hi] w λv w'=>v=.bool (inB lo hi l)/\N1 w w':=by
 apply L6 func139 ntmps139 rfl rfl;refine zh ?_
 apply WL.box rfl rfl;apply WL.box rfl rfl
 refine zh ?_;apply zv (eo rfl rfl)
 have hE:N1 w ((w.alloc (.cells #[nI lo] 3)).alloc (.cells #[nI hi] 3)):=(NJ _ _).J (NJ _ _);have c2:((w.alloc (.cells #[nI lo] 3)).alloc (.cells #[nI hi] 3)).cell? ⟨w.heap.size,0,none⟩=some (nI lo):=(NJ _ _).cell (by rw[NZ _ _ _ _ rfl];rfl);have c3:((w.alloc (.cells #[nI lo] 3)).alloc (.cells #[nI hi] 3)).cell? ⟨(w.alloc (.cells #[nI lo] 3)).heap.size,0,none⟩=some (nI hi):=by rw[NZ _ _ _ _ rfl];rfl
 apply zc call193 (mK call194 _ l lv (λi=>decide (nth l i<lo)||decide (hi<nth l i)) _ (h.ext hE) (λi hi w' a0=>(xf _ _ _ _ _ w' (a0.cell c2) (a0.cell c3)).mono λv w'' ⟨e1,e2⟩=>⟨e1,e2▸M4 _⟩));rintro v w1 ⟨rfl,a1⟩;refine zh ?_
 refine ah rfl rfl ⟨?_,hE.J a1⟩;rw[iX (l:=l) (p:=λn=>decide (n<lo)||decide (hi<n)),inB,List.all_eq_not_any_not];congr 3;funext n;rw[Bool.eq_iff_iff];simp
def gn(row:List Int)(u:Int)(k:Nat):List Nat:=(LY k).filter λc=>nth row c != u
def cf(row:List Int)(u:Int):List Nat:=gn row u row.length
def kC(row:List Int)(u:Int)(k:Nat):gn row u (k+1)=if nth row k=u then gn row u k else gn row u k++[k]:=by
 unfold gn;rw[MQ,MU]
 by_cases h:nth row k=u<;>simp[h]
def lM{row:List Int}{u:Int}(h:c∈gn row u k):c<k:=by
 simp only[gn,MC,M7]at h;exact h.1
def Bc(row:List Int)(u:Int)(k:Nat):(gn row u k).length<=k:=by
 have:=Nu (λc=>nth row c != u) (LY k);simpa[gn]using this
def fc(a1:List Int)(a0:List Nat)(b:Nat):Bool:=a0.all (qj a1 b)
def gu(a1:List Int)(a0:List Nat):Nat:=((LY (a1.length+1)).find? (fc a1 a0)).getD 0
def mw(a1:List Int)(a0:List Nat):fc a1 a0 a1.length=true:=by
 rw[fc,MI];intro c _;simp[qj]
def DF{a1:List Int}(hb:fc a1 a0 b=true)(a2:∀j,j<b->fc a1 a0 j=false):gu a1 a0=b:=by
 have a3:b<=a1.length:=by
  refine Nat.le_of_not_lt λh=>?_
  have:=a2 _ h;rw[mw]at this;cases this
 have:(LY (a1.length+1)).find? (fc a1 a0)=some b:=by
  rw[Nk];exact⟨hb,M7.2 zo,λj hj=>by simp[a2 j hj]⟩
 rw[gu,this];rfl
def gU(a1:List Int)(a0:List Nat):fc a1 a0 (gu a1 a0)=true/\gu a1 a0<=a1.length/\∀j,j<gu a1 a0->fc a1 a0 j=false:=by
 have:∃b,(LY (a1.length+1)).find? (fc a1 a0)=some b:=by
  cases hf:(LY (a1.length+1)).find? (fc a1 a0)with
  |some j=>exact⟨j,rfl⟩
  |none=>rw[List.find?_eq_none]at hf;exact absurd (mw a1 a0) (hf _ (M7.2 zo))
 obtain⟨b,hb⟩:=this;have h2:=hb;rw[Nk]at h2;have h3:=M7.1 h2.2.1;rw[gu,hb];exact⟨h2.1,by simpa using(by omega:b<=a1.length),λj hj=>by simpa using h2.2.2 j hj⟩
def PSt.lay(p:PSt)(row:List Int):PSt:=
 let u:=ck row
 let a0:=cf row u
 let b:=gu p.check a0
 let q:=a0.foldl (λq c=>q.take (b+c) p.base.length (nth row c)) p
 { q with usual:=q.usual++[u],base:=q.base++[(b:Int)] }
def ns{p:PSt}{s:Nat}{r e:Int}(h:p.next.length=p.check.length):(p.take s r e).next.length=(p.take s r e).check.length:=by simp[PSt.take,PSt.long,h]
def Aj(T:Nat)(i:Nat):Prop:=T+1<=i/\i<=T+6
def uL(T:Nat):¬Aj T 0:=by unfold Aj;omega
abbrev Lj(O:Nat->Nat)(w:ln)(i:Nat)(v:ix)(l:List Nat):Prop:=My (fun(x:Nat)=>[nI (x:Int)]) 3 1 O w i v l
def xJ(T pb:Nat)(p:PSt)(row:List Int)(rv:ix)(B:Nat)(O:Nat->Nat)(w:ln)(hp:PkO T O w pb p)(hR:Nn B O w)
  (a3:∀w',RowKit.Below B w w'->NS w' rv row) (e3:0<row.length) (hw:row.length<=64) (hl:p.next.length=p.check.length) (g2:p.check.length<=100000)
  (d':p.usual.length<=100000) (e7:p.base.length<=100000) :
  Np Mk 192 [nP pb,rv] w fun _ w'=>∃O',PkO T O' w' pb (p.lay row)/\M5 (Aj T) O w O' w'/\Nn B O' w':=by
 have f':=(a3 w (NO _ _)).len_le;refine L6 func192 ntmps192 rfl rfl ?_;refine zg ?_;refine zc call239 (BE row rv w (a3 w (NO _ _)) e3) ?_;rintro v w1 ⟨rfl,d5⟩;have b8:=ae (uL T) O d5;have g6:=hR.U b8;generalize hu:ck row=u;refine zg ?_;refine zvG (Ns (by first|exact a3 _ (b8.below hR)) L0 rfl) ?_;refine zlp (fun x:Nat×(Nat->Nat)×World×ix=>[(0,nP pb),(1,rv),(4,nI u),(5,x.2.2.2),(13,rv),(14,nI row.length),(15,nI x.1)]) (fun x=>x.2.2.1) (fun x=>x.1<=row.length/\PkO T x.2.1 x.2.2.1 pb p/\Lj x.2.1 x.2.2.1 (T+6) x.2.2.2 (gn row u x.1)/\M5 (Aj T) O w x.2.1 x.2.2.1) (fun x=>row.length-x.1) (0,O,w1,nS) (⟨L3 _,hp.U (ae (S:=fun _=>False) (fun h=>h) O d5) (fun _ _ h=>h),M9 _ _ _ _ _ _,b8⟩) ?_;rintro⟨k,O2,w2,cv⟩ ⟨hk,b2,a4,a9⟩;dsimp only at hk b2 a4 a9 ⊢;have c7:=a3 w2 (a9.below hR);refine zg ?_;refine zC ?_ ?_
 ·intro a1;replace a1:k<row.length:=by have:=of_decide_eq_true a1;omega
  have g1:=Bc row u k;refine zg ?_;refine zv (MM (by first|exact c7) L0 (LX _) rfl rfl _ rfl zo) ?_;refine zvG (RV.ld (c7.ld zo) rfl) ?_;refine zC ?_ ?_
  ·intro a6;replace a6:nth row k≠u:=by simpa using a6
   refine zg ?_;refine MV qm a4 (hR.U a9) (k) (fun _=>rfl) rfl rfl rfl (by simp[L5]) zo zo zo zd rfl rfl ?_
   intro f7 w3 O3 b7 d4 g5;refine zg ?_;refine zvG (P7 rfl rfl (NN zo)) ?_;refine zxd (k+1,O3,w3,f7) (⟨a1,b2.U d4 (by unfold jV;omega),by dsimp only;rw[kC,am a6];exact b7,a9.J (d4.mono (by unfold Aj;omega) (uL T))⟩)
  intro b6;replace b6:nth row k=u:=by simpa using b6
  refine zg ?_;refine zvG (P7 rfl rfl (NN zo)) ?_
  refine zxd (k+1,O2,w2,cv) (⟨a1,b2,by dsimp only;rw[kC,ap b6];exact a4,a9⟩)
 intro b5;obtain rfl:k=row.length:=by have:=of_decide_eq_false b5;omega
 obtain⟨uv,bv,kv,nv,h⟩:=b2;have a5:∀c∈cf row u,c<=64:=fun c hc=>by have:=lM hc;omega
 replace a4:Lj O2 w2 (T+6) cv (cf row u):=a4;refine zg ?_;refine zlp (fun b:Nat=>[(0,nP pb),(1,rv),(4,nI u),(5,cv),(8,nI b)]) (fun b=>w2) (fun b=>b<=p.check.length/\∀j,j<b->fc p.check (cf row u) j=false) (fun b=>p.check.length-b) 0 (⟨L3 _,fun j hj=>absurd hj (L4 j)⟩) ?_;intro b ⟨hb,c'⟩;refine zg ?_;refine zc call240 (AI pb cv kv (cf row u) p.check b w2 h.c3 h.k.sl a4.sl a5 zo) ?_;rintro v _ ⟨rfl,rfl⟩;refine zg ?_;refine zC ?_ ?_
 ·intro a2;replace a2:fc p.check (cf row u) b=false:=by rw[NB]at a2;exact a2
  have a1:b<p.check.length:=by
   refine Nat.lt_of_le_of_ne hb fun e=>?_
   rw[e,mw]at a2;cases a2
  refine zg ?_;refine zvG (P7 rfl rfl (NN zo)) ?_
  refine zxd (b+1) (⟨a1,fun j hj=>(Me.1 hj).elim (c' j) (fun e=>by rw[e];exact a2)⟩)
 intro a0;replace a0:fc p.check (cf row u) b=true:=by rw[Bool.not_eq_false']at a0;exact a0
 refine zg ?_;refine zvG (Ns (by first|exact a4.sl) L0 rfl) ?_;refine zlp (fun x:Nat×(Nat->Nat)×World=>[(0,nP pb),(1,rv),(4,nI u),(5,cv),(8,nI b),(35,cv),(36,nI (cf row u).length),(37,nI x.1)]) (fun x=>x.2.2) (fun x=>x.1<=(cf row u).length/\Lj x.2.1 x.2.2 (T+6) cv (cf row u)/\M5 (Aj T) O w x.2.1 x.2.2/\(∃q:PSt,q=((cf row u).take x.1).foldl (fun q c=>q.take (b+c) p.base.length (nth row c)) p/\PkO T x.2.1 x.2.2 pb q/\q.base=p.base/\q.usual=p.usual/\q.next.length=q.check.length)) (fun x=>(cf row u).length-x.1) (0,O2,w2) (⟨L3 _,a4,a9,p,rfl,⟨uv,bv,kv,nv,h⟩,rfl,rfl,hl⟩) ?_;rintro⟨k,O4,w4⟩ ⟨e4,a7,b1,q,hq,⟨d7,d6,d9,d8,h4⟩,b4,c8,c9⟩;dsimp only at e4 a7 b1 hq h4 ⊢;have b9:=hR.U b1;have c6:=a3 w4 (b1.below hR);have a8:=a7.sl;have g0:=a8.len_le;refine zg ?_;refine zC ?_ ?_
 ·intro a1;replace a1:k<(cf row u).length:=by have:=of_decide_eq_true a1;omega
  have e6:=a5 _ (aZ a1);have d0:=lM (aZ a1);refine zg ?_;refine zv (MM (by first|exact a8) L0 (LX _) rfl rfl _ rfl zo) ?_;refine zvG (RV.ld (a8.ld zo) rfl) ?_;refine P4 13 rfl rfl zk zk ?_;refine zg ?_;refine zwG (P7 rfl rfl (NN zo)) ?_;refine zw (RV.ld h4.c2 rfl) ?_;refine zwG (Ns ((h4.b.sl).drew) L0 rfl) ?_;refine zw (MM c6.drew L0 (LX _) rfl rfl (nth (cf row u) k) rfl d0) ?_;refine zw (RV.ld (c6.ld d0) rfl) ?_;refine PD ?_;have e1:PkO T O4 w4.drew pb q:=⟨d7,d6,d9,d8,h4.blk.drew,h4.u.drew,h4.b.drew,h4.k.drew,h4.n.drew⟩
  rw[show(q.base.length:Int)=(p.base.length:Int)from by rw[b4]];refine zc call241 (Fm T pb q (b+nth (cf row u) k) p.base.length (nth row (nth (cf row u) k)) B O4 w4.drew e1 b9.drew zo c9) ?_;rintro v w5 ⟨O5,e0,b0,f5⟩;have b3:=(b0.mono (fun i hi=>by unfold jV at hi;unfold Aj;omega) (uL T)).ofDrew;refine zg ?_;refine zvG (P7 rfl rfl (NN zo)) ?_;refine zxd (k+1,O5,w5) (⟨a1,a7.drew.U b0 zo (by unfold jV;omega),b1.J b3,_,?_,e0,b4,c8,ns c9⟩);rw[bd a1,Ml,<-hq];rfl
 intro b5;obtain rfl:k=(cf row u).length:=by have:=of_decide_eq_false b5;omega
 rw[M6]at hq;refine zg ?_;refine zvG (RV.ld h4.c1 rfl) ?_;have f9:q.usual.length<=100000:=by rw[c8];exact d'
 refine MV qm h4.u b9 (u) (fun _=>rfl) rfl rfl rfl (by simp[L5]) zo zo zo zd rfl rfl ?_;intro b' w5 O5 c5 b0 f5;obtain⟨h5,b3⟩:=h4.setU b0 c5;refine zg ?_
 refine ao (j:=1) (h4.blk.U b0 zo zo) rfl (Nm _) c5.one rfl rfl rfl ?_;refine zg ?_
 refine zvG (RV.ld h5.c2 rfl) ?_;have h5b:nH O5 (w5.setCell ⟨pb,1,none⟩ b') (T+3) d6 q.base:=h5.b;have g3:q.base.length<=100000:=by rw[b4];exact e7
 refine MV qm h5b (b9.U b3) (b) (fun _=>rfl) rfl rfl rfl (by simp[L5]) zo zo zo zd rfl rfl ?_;intro f8 w6 O6 d1 d3 g4;obtain⟨h6,f3⟩:=h5.setB d3 d1;refine zg ?_
 refine ao (j:=2) (h5.blk.U d3 zo zo) rfl (Nm _) d1.one rfl rfl rfl ?_;refine zg ?_
 have d2:M5 (Aj T) O w O6 (w6.setCell ⟨pb,2,none⟩ f8):=(b1.J (b3.mono (fun i hi=>by unfold jV at hi;unfold Aj;omega) (uL T))).J (f3.mono (fun i hi=>by unfold jV at hi;unfold Aj;omega) (uL T));refine aK rfl (⟨O6,?_,d2,hR.U d2⟩);have e:p.lay row = { q with usual:=q.usual++[u],base:=q.base++[(b:Int)] }:=by simp only[PSt.lay,hu];rw[DF a0 c',<-hq]
 rw[e];exact⟨_,_,_,_,h6⟩
def JZ:cI Mk 26 #[(0,1),(1,1),(2,1),(3,1),(4,1)]:=⟨_,underlying26,λw=>by kernel_rfl⟩
def Rows(w:ln)(v:ix)(L:List (List Int)):Prop:=
 ∃rvs:List ix,Sl (λx=>[x]) 1 w v rvs/\rvs.length=L.length/\∀i,i<L.length->NS w (nth rvs i) (nth L i)
def Rows.ext{w w':ln}{v:ix}{L:List (List Int)}(h:Rows w v L)(e:N1 w w'):Rows w' v L:=by
 obtain⟨a0,h1,h2,h3⟩:=h;exact⟨a0,h1.ext e,h2,λi hi=>(h3 i hi).ext e⟩
def iW(a0:Int)(row:List Int):Bool:=(row.length:Int) != a0 || !(inB 0 65535 row)
def Ja(a0:Int)(row:List Int)(rv:ix)(b:Addr)(w:ln)(h:NS w rv row)(hb:w.cell? b=some (nI a0)):
  Np Mk 191 [rv,.pointer (some b)] w λv w'=>v=.bool (iW a0 row)/\N1 w w':=by
 apply L6 func191 ntmps191 rfl rfl;refine zh ?_
 by_cases hl:(row.length:Int)=a0
 ·apply ay (d:=8) rfl (b':=false) (by simpa using hl);refine zh ?_
  apply zc Pi (fW 0 65535 row rv w h);rintro v w1 ⟨rfl,hE⟩;refine zh ?_
  refine ah rfl rfl ⟨by simp[iW,hl],hE⟩
 apply ay (d:=8) rfl (b':=true) (by simpa using hl);refine zh ?_
 refine ah rfl rfl ⟨by simp[iW,hl],M4 _⟩
def cJ(a0:Int)(L:List (List Int)):Bool:=decide (a0<1)||decide (64<a0)||decide (1000<L.length)||L.any (iW a0)
def mn(a0:Int)(L:List (List Int)):PSt:=L.foldl PSt.lay ⟨a0,[],[],[],[]⟩
def PkV(w:ln)(v:ix)(p:PSt):Prop:=
 ∃uv bv kv nv,v=.agg #[nI p.width,uv,bv,kv,nv]/\NS w uv p.usual/\NS w bv p.base/\NS w kv p.check/\NS w nv p.next
def PkV.ext{w w':ln}{v:ix}{p:PSt}(h:PkV w v p)(e:N1 w w'):PkV w' v p:=by
 obtain⟨uv,bv,kv,nv,h0,h1,h2,h3,h4⟩:=h;exact⟨uv,bv,kv,nv,h0,h1.ext e,h2.ext e,h3.ext e,h4.ext e⟩
def tD(p:PSt)(s:Nat)(r e:Int):(p.take s r e).check.length=max p.check.length (s+1)/\(p.take s r e).usual=p.usual/\(p.take s r e).base=p.base/\(p.take s r e).width=p.width:=by
 simp[PSt.take,PSt.long];omega
def lC(f:Nat->Int)(b:Nat)(r:Int):∀(a0:List Nat) (p:PSt),(∀c∈a0,c<64)->p.next.length=p.check.length->
  let q:=a0.foldl (λq c=>q.take (b+c) r (f c)) p
  q.check.length<=max p.check.length (b+64)/\q.usual=p.usual/\q.base=p.base/\q.width=p.width/\q.next.length=q.check.length
 |[],p,_,hl=>⟨by simp;omega,rfl,rfl,rfl,hl⟩
 |c::a0,p,hc,hl=>by
  have h:=lC f b r a0 (p.take (b+c) r (f c)) (λx hx=>hc x (by simp[hx])) (ns hl);obtain⟨t1,t2,t3,t4⟩:=tD p (b+c) r (f c);have:=hc c (by simp);simp only[M8]at h ⊢;rw[t1,t2,t3,t4]at h;exact⟨zo,h.2⟩
def jg(p:PSt)(row:List Int)(hw:row.length<=64)(hl:p.next.length=p.check.length):
  (p.lay row).check.length<=p.check.length+64/\(p.lay row).usual=p.usual++[ck row]/\(p.lay row).base.length=p.base.length+1/\(p.lay row).width=p.width/\(p.lay row).next.length=(p.lay row).check.length:=by
 have hb:=(gU p.check (cf row (ck row))).2.1;obtain⟨h1,h2,h3,h4,h5⟩:=lC (λc=>nth row c) (gu p.check (cf row (ck row))) p.base.length (cf row (ck row)) p (λc hc=>by have:=lM hc;omega) hl;refine⟨?_,?_,?_,h4,h5⟩
 ·simp only[PSt.lay];omega
 ·simp only[PSt.lay];rw[h2]
 simp only[PSt.lay];rw[h3];simp
def PkF(B:Nat)(v:ix):Prop:=∃wd uv bv kv nv,v=.agg #[wd,uv,bv,kv,nv]/\P1 B uv/\P1 B bv/\P1 B kv/\P1 B nv
def oI(width:Int)(L:List (List Int))(rv:ix)(w:ln)(h:Rows w rv L):
  Np Mk 138 [nI width,rv] w λv w'=>∃pv e,v=.tuple #[pv,nI e]/\PkV w' pv (if cJ width L then⟨0,[],[],[],[]⟩else mn width L)/\e=(if cJ width L then 1 else 0)/\N1 w w'/\(cJ width L=false->PkF w.heap.size pv):=by
 obtain⟨a4,hr,b1,c6⟩:=h;have f5:=hr.len_le;apply L6 func138 ntmps138 rfl rfl;refine zh ?_;apply aQ (aA w) 1 zo rfl rfl;intro bw w1 O1 e0 e1 e7 f3;apply aw e7 2 zo (Nb _) rfl;intro br w2 O2 a1 d3 e6 e';have a':=e0.U d3 zd zd;have cw:∀w',N1 w2 w'->w'.cell? ⟨bw,0,none⟩=some (nI width):=λw' e=>e.cell (a'.cell 0 rfl)
 have hE:=f3.J e';have hU:=(e1.mono (S':=λj=>1<=j/\j<=16) zo zo).J (d3.mono zo zo);have d5:=hr.ext hE;refine zh ?_;refine zvH (eo rfl rfl) ?_;refine zvH (RV.ld (cw _ (M4 _)) rfl) ?_;have b4:∀(w3:ln),N1 w w3->cJ width L=true->
   ∃pv e,Value.tuple #[.agg #[nI 0,nS,nS,nS,nS],nI 1]=.tuple #[pv,nI e]/\PkV w3 pv (if cJ width L then⟨0,[],[],[],[]⟩else mn width L)/\e=(if cJ width L then 1 else 0)/\N1 w w3/\(cJ width L=false->PkF w.heap.size pv):=by
  intro w3 he hb;rw[hb];exact⟨_,_,rfl,⟨_,_,_,_,rfl,(M9 _ 3 _ (λ_=>0) w3 1).sl,(M9 _ 3 _ (λ_=>0) w3 1).sl,(M9 _ 3 _ (λ_=>0) w3 1).sl,(M9 _ 3 _ (λ_=>0) w3 1).sl⟩,rfl,he,λh=>absurd h zd⟩
 by_cases h1:width<1
 ·apply ay (d:=13) rfl (b':=true) (decide_eq_true h1);refine zh ?_
  refine zTH rfl rfl ?_;apply zv (aI JZ (Nb _) rfl (by first|rfl|(simp only[L9,Mm];rfl)) rfl rfl)
  apply bL a1 rfl (MY _) rfl rfl rfl rfl;refine zh ?_
  refine bE rfl rfl rfl ((a1.setRow).V) (NT _) (MY _) (b4 _ (hU.J (M1 zo a1.tag zo)).ext (by simp[cJ,h1]))
 apply ay (d:=13) rfl (b':=false) (decide_eq_false h1);refine zh ?_
 refine zvH (RV.ld (cw _ (M4 _)) rfl) ?_
 by_cases h2:64<width
 ·apply ay (d:=17) rfl (b':=true) (decide_eq_true h2);refine zh ?_
  refine zTH rfl rfl ?_;apply zv (aI JZ (Nb _) rfl (by first|rfl|(simp only[L9,Mm];rfl)) rfl rfl)
  apply bL a1 rfl (MY _) rfl rfl rfl rfl;refine zh ?_
  refine bE rfl rfl rfl ((a1.setRow).V) (NT _) (MY _) (b4 _ (hU.J (M1 zo a1.tag zo)).ext (by simp[cJ,h2]))
 apply ay (d:=17) rfl (b':=false) (decide_eq_false h2);refine zh ?_
 by_cases h3:1000<L.length
 ·apply ay (d:=22) rfl (b':=true) (by rw[b1];exact decide_eq_true zo);refine zh ?_
  refine zTH rfl rfl ?_;apply zv (aI JZ (Nb _) rfl (by first|rfl|(simp only[L9,Mm];rfl)) rfl rfl)
  apply bL a1 rfl (MY _) rfl rfl rfl rfl;refine zh ?_
  refine bE rfl rfl rfl ((a1.setRow).V) (NT _) (MY _) (b4 _ (hU.J (M1 zo a1.tag zo)).ext (by simp[cJ,h3]))
 apply ay (d:=22) rfl (b':=false) (by rw[b1];exact decide_eq_false zo);refine zh ?_
 apply zc call59 (gm call191 _ a4 rv (λi=>iW width (nth L i)) _ d5 (λi hi w' c5=>Ja width (nth L i) (nth a4 i) _ w' (((c6 i zo).ext hE).ext c5) (cw w' c5)));rintro v w3 ⟨rfl,b3⟩;rw[b1,iX (p:=iW width)];have a2:=a1.U (ae (S:=λ_=>False) (λh=>h) O2 b3) zd (λh=>h);have d2:=hU.J (ae zo O2 b3);refine zh ?_
 refine zC ?_ ?_
 ·intro a3;refine zh ?_;apply zv (aI JZ (Nb _) rfl (by first|rfl|(simp only[L9,Mm];rfl)) rfl rfl);apply bL a2 rfl (MY _) rfl rfl rfl rfl;refine zh ?_;refine bE rfl rfl rfl ((a2.setRow).V) (NT _) (MY _) (b4 _ (d2.J (M1 zo a2.tag zo)).ext (by simp only[cJ,a3];simp))
 intro a5;have a3:cJ width L=false:=by simp only[cJ,a5];simp[h1,h2,h3]
 refine zh ?_;apply zv (RV.ld ((a'.U (ae (S:=λ_=>False) (λh=>h) O2 b3) zd (λh=>h)).cell 0 rfl) rfl);apply zv (aI JZ (Nb _) rfl (by first|rfl|(simp only[L9,Mm];rfl)) rfl rfl);apply aw (e6.ext b3) 11 zo (Nb _) rfl;intro pb w4 O4 b2 d1 e4 f6;apply zsa (us:=#[nI width,nS,nS,nS,nS]) b2 (MY _);have d0:M5 (λj=>1<=j/\j<=16) O4 w4 O4 (w4.setRow pb #[nI width,nS,nS,nS,nS]):=M1 zo b2.tag zo;have b8:MZ O4 (w4.setRow pb #[nI width,nS,nS,nS,nS]) 2 br _ 26:=(a2.U d1 zd zd).U (M1 (S:=λj=>j=11) zd b2.tag rfl) zd zd;have e9:PkO 10 O4 (w4.setRow pb #[nI width,nS,nS,nS,nS]) pb ⟨width,[],[],[],[]⟩:=⟨_,_,_,_,b2.setRow,M9 _ _ _ _ _ _,M9 _ _ _ _ _ _,M9 _ _ _ _ _ _,M9 _ _ _ _ _ _⟩
 have c':=(d2.J (d1.mono (S':=λj=>1<=j/\j<=16) zo zo)).J d0;have e3:=e4.U d0;generalize w4.setRow pb #[nI width,nS,nS,nS,nS]=w5 at *;have f4:1<=width/\width<=64/\L.length<=1000:=zo;have a9:∀i,i<L.length->((nth L i).length:Int)=width:=λi hi=>by
  have:=Po.1 a5 _ (aZ hi);simp only[iW,Bool.or_eq_true,not_or,bne_iff_ne,ne_eq,NW]at this;exact this.1
 refine zh ?_;refine zvH (Ns (by first|exact hr.ext c'.ext) Mp rfl) ?_
 apply zlp (λx:Nat×(Nat->Nat)×World=>[(1,rv),(4,nP br),(7,nP pb),(30,rv),(31,nI a4.length),(32,nI x.1)]) (λx=>x.2.2) (λx=>x.1<=a4.length/\MZ x.2.1 x.2.2 2 br #[nI 0,nS,nS,nS,nS] 26/\Nn w.heap.size x.2.1 x.2.2/\M5 (λj=>1<=j/\j<=16) (λ_=>0) w x.2.1 x.2.2/\(∃q,q=(L.take x.1).foldl PSt.lay ⟨width,[],[],[],[]⟩/\PkO 10 x.2.1 x.2.2 pb q/\q.check.length<=64*x.1/\q.usual.length=x.1/\q.base.length=x.1/\q.next.length=q.check.length)) (λx=>a4.length-x.1) (0,O4,w5) ⟨L3 _,b8,e3,c',_,rfl,e9,by simp,rfl,rfl,rfl⟩;rintro⟨k,O7,w7⟩ ⟨hk,a0,a8,b0,q,hq,b9,d7,c7,d8,c8⟩;dsimp only at hk a0 a8 b0 hq b9 d7 c7 d8 ⊢;have d4:=hr.ext b0.ext;refine zh ?_
 refine zC ?_ ?_
 ·intro b5;replace b5:k<a4.length:=dT b5;have a6:k<L.length:=zo;have d9:=a9 k a6;refine zh ?_;refine zvH (RV.ld (d4.ld zo) rfl) ?_;apply zc call192 (xJ 10 pb q (nth L k) (nth a4 k) w.heap.size O7 w7 b9 a8 (λw' hB=>(c6 k a6).ext (PP b0.ext hB)) zo zo c8 zo zo zo);rintro v w8 ⟨O8,e8,c9,e2⟩;have b7:=a0.U c9 zd (by unfold Aj;omega);obtain⟨l1,l2,l3,l4,l5⟩:=jg q (nth L k) zo c8;refine zh ?_;refine zxd (k+1,O8,w8) ⟨b5,b7,e2,b0.J (c9.mono (by unfold Aj;omega) zo),_,?_,e8,zo,by rw[l2];simp[c7],zo,l5⟩;rw[bd a6,Ml,<-hq];rfl
 intro d';obtain rfl:k=a4.length:=by have:=of_decide_eq_false d';omega
 rw[b1,M6]at hq;obtain⟨uv,bv,kv,nv,h7⟩:=b9;refine zh ?_;apply zv (ai h7.blk.V (NT _) (MY _) rfl);apply zsb (us:=#[nI q.width,uv,bv,kv,nv]) a0 (MY _) (by simp only[L9,h7.u.one,h7.b.one,h7.k.one,h7.n.one];rfl);have a7:M5 (λj=>j=2) O7 w7 O7 (w7.setRow br #[nI q.width,uv,bv,kv,nv]):=M1 zd a0.tag rfl;have h9:=h7.U a7 (by unfold jV;omega);have d6:mn width L=q:=hq.symm;refine zh ?_;refine bE rfl rfl rfl ((a0.setRow).V) (NT _) (MY _) ⟨_,_,rfl,⟨uv,bv,kv,nv,?_,?_,?_,?_,?_⟩,by rw[a3];rfl,(b0.J (a7.mono zo zo)).ext,λ_=>⟨_,uv,bv,kv,nv,rfl,h9.u.newV zd (a8.U a7),h9.b.newV zd (a8.U a7),h9.k.newV zd (a8.U a7),h9.n.newV zd (a8.U a7)⟩⟩
 all_goals rw[a3,am Bool.false_ne_true,d6]
 ·exact h9.u.sl
 ·exact h9.b.sl
 ·exact h9.k.sl
 exact h9.n.sl
def yj(n:Int):Bool:=decide (0<=n)
def eV(l:List Int):Nat:=l.countP yj
def zU(row:List Int)(u:Int):Nat:=row.countP λn=>n != u
def mr(L:List (List Int))(us:List Int)(i:Nat):Nat:=((LY i).map λj=>zU (nth L j) (nth us j)).sum
def uM(L:List (List Int))(us:List Int)(i:Nat):mr L us (i+1)=mr L us i+zU (nth L i) (nth us i):=by
 simp[mr,MQ]
def Be(row:List Int)(u:Int):(cf row u).length=zU row u:=by
 have a0:∀k,k<=row.length->(gn row u k).length=(row.take k).countP (λn=>n != u):=by
  intro k
  induction k with
  |zero=>intro _;rfl
  |succ k ih=>
   intro hk;rw[kC,bd zo,Ph];have:=ih zo
   by_cases h:nth row k=u
   ·rw[ap h,this];simp[h]
   rw[am h,Mn,this];simp[h]
 have:=a0 row.length (L8 _)
 rwa[M6]at this
def qY(a0:List Int)(s:Nat):Prop:=a0.length<=s\/nth a0 s = -1
def Dd{a0:List Int}:qj a0 b c=true↔qY a0 (b+c):=by
 simp only[qj,qY,NB,Bool.and_eq_false_iff,decide_eq_false_iff_not]
 constructor
 ·rintro(h|h)
  ·exact .inl zo
  exact .inr (by simpa using h)
 rintro(h|h)
 ·exact .inl zo
 exact .inr (by simpa using h)
def Ao{l:List Int}{s:Nat}{r:Int}(hs:s<l.length)(hf:nth l s = -1)(hr:0<=r):eV (l.set s r)=eV l+1:=by
 induction l generalizing s with
 |nil=>simp at hs
 |cons a l ih=>
  cases s with
  |zero=>rw[ar]at hf;subst hf;simp[eV,yj,hr]
  |succ s=>
   rw[aX]at hf;have:=ih (by simpa using hs) hf;simp only[eV,List.set_cons_succ,List.countP_cons]at this ⊢;omega
def xi(l:List Int)(j:Nat):eV (l++L1 j (-1))=eV l:=by
 simp only[eV,Ph];have:(L1 j (-1:Int)).countP yj=0:=by rw[List.countP_eq_zero];intro a ha;rw[Nl ha];decide
 omega
def BS(p:PSt)(s:Nat)(r e:Int)(hf:qY p.check s)(hr:0<=r):
  eV (p.take s r e).check=eV p.check+1/\(∀t,t≠s->qY p.check t->qY (p.take s r e).check t)/\
  ((p.check=[]\/0<=nth p.check (p.check.length-1))->(0<=nth (p.take s r e).check ((p.take s r e).check.length-1))):=by
 have a2:(p.check++L1 (s+1-p.check.length) (-1:Int)).length=max p.check.length (s+1):=by simp;omega
 have a0:s<(p.check++L1 (s+1-p.check.length) (-1:Int)).length:=zo;have a1:∀j i,nth (L1 j (-1:Int)) i = -1\/j<=i:=fun j i=>by
  by_cases h:i<j
  ·left;rw[aD (by simpa using h)];simp
  right;omega
 have hs:nth (p.check++L1 (s+1-p.check.length) (-1:Int)) s = -1:=by
  rw[aC]
  split
  ·rename_i h;rcases hf with h2|h2
   ·omega
   exact h2
  rename_i h;exact(a1 _ _).resolve_right zo
 have hc:(p.take s r e).check=(p.check++L1 (s+1-p.check.length) (-1)).set s r:=rfl;refine⟨?_,fun t ht a3=>?_,fun hl=>?_⟩
 ·rw[hc,Ao a0 hs hr,xi]
 ·rw[hc]
  rcases a3 with h|h
  ·by_cases h2:(p.check++L1 (s+1-p.check.length) (-1:Int)).length<=t
   ·exact .inl (by simpa using h2)
   refine .inr ?_;rw[bf a0,am ht,aC,am zo];exact(a1 _ _).resolve_right zo
  by_cases h2:t<p.check.length
  ·refine .inr ?_;rw[bf a0,am ht,aC,ap h2,h]
  by_cases h3:(p.check++L1 (s+1-p.check.length) (-1:Int)).length<=t
  ·exact .inl (by simpa using h3)
  refine .inr ?_;rw[bf a0,am ht,aC,am zo];exact(a1 _ _).resolve_right zo
 rw[hc,bf a0,Mf,a2]
 split
 ·exact hr
 rename_i hne;have h3:=zo;rw[aC,ap zo,show max p.check.length (s+1)-1=p.check.length-1 from by omega]
 rcases hl with h|h
 ·rw[h]at h3;simp at h3
 exact h
def vz(f:Nat->Int)(b:Nat)(r:Int)(hr:0<=r):∀(a0:List Nat) (p:PSt),a0.Nodup->(∀c∈a0,qY p.check (b+c))->
  let q:=a0.foldl (λq c=>q.take (b+c) r (f c)) p
  eV q.check=eV p.check+a0.length/\((p.check=[]\/0<=nth p.check (p.check.length-1))->(q.check=[]\/0<=nth q.check (q.check.length-1)))
 |[],p,_,_=>⟨by simp,λh=>h⟩
 |c::a0,p,hnd,hf=>by
  obtain⟨hc,a1⟩:=Nr.1 hnd;obtain⟨h1,h2,h3⟩:=BS p (b+c) r (f c) (hf c (by simp)) hr;obtain⟨g1,g2⟩:=vz f b r hr a0 (p.take (b+c) r (f c)) a1 (λx hx=>h2 (b+x) (λe=>hc ((by omega:x=c)▸hx)) (hf x (by simp[hx])));refine⟨?_,λh=>?_⟩
  ·simp only[M8,MH];rw[g1,h1];omega
  simp only[M8];exact g2 (.inr (h3 h))
def nc(row:List Int)(u:Int):(cf row u).Nodup:=Q0 MN No
def Gf(p:PSt)(row:List Int):eV (p.lay row).check=eV p.check+zU row (ck row)/\
  ((p.check=[]\/0<=nth p.check (p.check.length-1))->((p.lay row).check=[]\/0<=nth (p.lay row).check ((p.lay row).check.length-1))):=by
 have a0:=(gU p.check (cf row (ck row))).1;rw[fc,MI]at a0;have:=vz (λc=>nth row c) (gu p.check (cf row (ck row))) p.base.length zo (cf row (ck row)) p (nc _ _) (λc hc=>Dd.1 (a0 c hc));rw[Be]at this;exact this
def qE(width:Int)(L:List (List Int))(hw:∀r∈L,r.length<=64):
  let q:=mn width L
  q.usual=L.map ck/\q.base.length=L.length/\q.next.length=q.check.length/\q.check.length<=64*L.length/\q.width=width/\eV q.check=mr L q.usual L.length/\(q.check=[]\/0<=nth q.check (q.check.length-1)):=by
 have a1:∀k,k<=L.length->let q:=(L.take k).foldl PSt.lay ⟨width,[],[],[],[]⟩
   q.usual=(L.take k).map ck/\q.base.length=k/\q.next.length=q.check.length/\q.check.length<=64*k/\q.width=width/\eV q.check=mr L ((L.take k).map ck) k/\(q.check=[]\/0<=nth q.check (q.check.length-1)):=by
  intro k
  induction k with
  |zero=>intro _;exact⟨rfl,rfl,rfl,by simp,rfl,rfl,.inl rfl⟩
  |succ k ih=>
   intro hk;obtain⟨h1,h2,h3,h4,h5,h6,h7⟩:=ih zo;generalize hq:(L.take k).foldl PSt.lay ⟨width,[],[],[],[]⟩=q at *;obtain⟨l1,l2,l3,l4,l5⟩:=jg q (nth L k) (hw _ (aZ zo)) h3;obtain⟨u1,u2⟩:=Gf q (nth L k);rw[bd zo,Ml,hq,Mq];simp only[M8,Py,Mb,NV];refine⟨by rw[l2,h1],zo,l5,zo,by rw[l4,h5],?_,u2 h7⟩;rw[u1,h6,uM];have a0:((L.take k).map ck).length=k:=by simp;omega
   congr 1
   ·simp only[mr];congr 1;refine List.map_congr_left λj hj=>?_
    have:=M7.1 hj;rw[aC,ap zo]
   rw[aC,am zo,a0,Nf,ar]
 have:=a1 L.length (L8 _);rw[M6]at this;obtain⟨h1,h2,h3,h4,h5,h6,h7⟩:=this;exact⟨h1,h2,h3,h4,h5,by rw[mn,h1];exact h6,h7⟩
abbrev Ent:=Nat×Nat×Int
def iO(A:List Ent):Nat:=A.foldl (λm x=>max m (x.1+1)) 0
def dU(f:Ent->Int)(A:List Ent)(l:List Int):List Int:=A.foldl (λl x=>l.set x.1 (f x)) l
def lG(x:Ent):Int:=x.2.1
def Ls(x:Ent):Int:=x.2.2
def fq(A:List Ent):List Int:=dU lG A (L1 (iO A) (-1))
def lq(A:List Ent):List Int:=dU Ls A (L1 (iO A) 0)
def rm(A:List Ent)(x:Ent):iO (A++[x])=max (iO A) (x.1+1):=by simp[iO,Ml]
def A6(A:List Ent):∀m,m<=A.foldl (λm x=>max m (x.1+1)) m:=by
 induction A with
 |nil=>intro m;exact L8 m
 |cons y A ih=>intro m;simp only[M8];have:=ih (max m (y.1+1));omega
def eR{A:List Ent}{x:Ent}(h:x∈A):x.1<iO A:=by
 have:∀(A:List Ent) m,x∈A->x.1<A.foldl (λm x=>max m (x.1+1)) m:=by
  intro A
  induction A with
  |nil=>intro m h;simp at h
  |cons y A ih=>
   intro m h;simp only[M8]
   rcases M0.1 h with rfl|h
   ·have:=A6 A (max m (x.1+1));omega
   exact ih _ h
 exact this A 0 h
def mj(f:Ent->Int):∀(A:List Ent) (l:List Int),(dU f A l).length=l.length
 |[],_=>rfl
 |x::A,l=>by simp only[dU,M8];exact(mj f A _).J (by simp)
def gp(A:List Ent):(fq A).length=iO A:=by rw[fq,mj];simp
def oJ(A:List Ent):(lq A).length=iO A:=by rw[lq,mj];simp
def gA(f:Ent->Int):∀(A:List Ent) (l r:List Int),(∀x∈A,x.1<l.length)->dU f A (l++r)=dU f A l++r
 |[],_,_,_=>rfl
 |x::A,l,r,h=>by
  simp only[dU,M8];rw[List.set_append_left _ _ (h x (by simp))];exact gA f A _ r (λy hy=>by simpa using h y (by simp[hy]))
def ou(f:Ent->Int)(A:List Ent)(x:Ent)(l:List Int):dU f (A++[x]) l=(dU f A l).set x.1 (f x):=by simp[dU,Ml]
def Co(n s:Nat)(z:Int):L1 (max n (s+1)) z=L1 n z++L1 (s+1-n) z:=by
 rw[List.replicate_append_replicate];congr 1;omega
def Bg(A:List Ent)(x:Ent):fq (A++[x])=(fq A++L1 (x.1+1-(fq A).length) (-1)).set x.1 x.2.1:=by
 rw[fq,rm,ou,Co,gA _ _ _ _ (λy hy=>by simpa using eR hy),gp];rfl
def AQ(A:List Ent)(x:Ent):lq (A++[x])=(lq A++L1 (x.1+1-(lq A).length) 0).set x.1 x.2.2:=by
 rw[lq,rm,ou,Co,gA _ _ _ _ (λy hy=>by simpa using eR hy),oJ];rfl
def BT(p:PSt)(A:List Ent)(x:Ent)(h1:p.check=fq A)(h2:p.next=lq A):(p.take x.1 x.2.1 x.2.2).check=fq (A++[x])/\(p.take x.1 x.2.1 x.2.2).next=lq (A++[x]):=by
 refine⟨?_,?_⟩
 ·rw[Bg,<-h1];rfl
 rw[AQ,<-h2,h2,oJ,<-gp,<-h2,<-h1];rfl
def ka(row:List Int)(u:Int)(b i k:Nat):List Ent:=(gn row u k).map λc=>(b+c,i,nth row c)
def vA(row:List Int)(b i:Nat):∀(a0:List Nat) (p:PSt) (A:List Ent),p.check=fq A->p.next=lq A->
  let q:=a0.foldl (λq c=>q.take (b+c) i (nth row c)) p
  q.check=fq (A++a0.map λc=>(b+c,i,nth row c))/\q.next=lq (A++a0.map λc=>(b+c,i,nth row c))
 |[],p,A,h1,h2=>by simpa using⟨h1,h2⟩
 |c::a0,p,A,h1,h2=>by
  obtain⟨g1,g2⟩:=BT p A (b+c,i,nth row c) h1 h2;have:=vA row b i a0 _ _ g1 g2;simpa using this
def zF(p:PSt)(A:List Ent)(row:List Int)(h1:p.check=fq A)(h2:p.next=lq A):
  let b:=gu p.check (cf row (ck row))
  (p.lay row).check=fq (A++ka row (ck row) b p.base.length row.length)/\(p.lay row).next=lq (A++ka row (ck row) b p.base.length row.length):=
 vA row _ _ _ p A h1 h2
def zG(p:PSt)(row:List Int):(p.lay row).base=p.base++[(gu p.check (cf row (ck row)):Int)]/\(p.lay row).usual=p.usual++[ck row]/\(p.lay row).width=p.width:=by
 have a1:∀(a0:List Nat) (f:Nat->Int) (b:Nat) (r:Int) (p:PSt),let q:=a0.foldl (λq c=>q.take (b+c) r (f c)) p;q.base=p.base/\q.usual=p.usual/\q.width=p.width:=by
  intro a0 f b r
  induction a0 with
  |nil=>intro p;exact⟨rfl,rfl,rfl⟩
  |cons c a0 ih=>intro p;exact ih (p.take (b+c) r (f c))
 obtain⟨h1,h2,h3⟩:=a1 (cf row (ck row)) (λc=>nth row c) (gu p.check (cf row (ck row))) p.base.length p;refine⟨?_,?_,h3⟩
 ·simp only[PSt.lay];rw[h1]
 simp only[PSt.lay];rw[h2]
def qz(A:List Ent)(s:Nat):∀(l:List Int),s<l.length->(∀x∈A,x.1<l.length)->(nth (dU lG A l) s≠-1↔(A.any (λx=>x.1==s)=true\/nth l s≠-1)):=by
 induction A with
 |nil=>intro l _ _;simp[dU]
 |cons x A ih=>
  intro l hs h;have h1:=ih (l.set x.1 (lG x)) (by simpa using hs) (λy hy=>by simpa using h y (by simp[hy]));simp only[dU,M8]at h1 ⊢;rw[h1,bf (h x (by simp)),List.any_cons]
  by_cases e:x.1=s
  ·have:lG x≠-1:=by unfold lG;omega
   simp[e,this]
  have e2:¬s=x.1:=λh=>e h.symm
  simp[e,e2]
def BR(A:List Ent)(s:Nat):(A.any λx=>x.1==s)=(decide (s<(fq A).length)&&nth (fq A) s != -1):=by
 by_cases hs:s<iO A
 ·have h1:=qz A s (L1 (iO A) (-1)) (by simpa using hs) (λy hy=>by simpa using eR hy);have h2:nth (L1 (iO A) (-1:Int)) s = -1:=by rw[aD (by simpa using hs)];simp
  rw[gp];simp only[h2,ne_eq,not_true,or_false]at h1;rw[decide_eq_true hs,PA]
  cases ha:A.any (λx=>x.1==s)with
  |true=>have:=h1.2 ha;exact(bne_iff_ne.2 this).symm
  |false=>
   rw[ha]at h1;have:nth (fq A) s = -1:=NW.1 (λh=>by cases h1.1 h);rw[this];rfl
 rw[gp,decide_eq_false hs,Pz,Po];intro x hx h;have:=eR hx;have:x.1=s:=by simpa using h
 omega
def A5(A:List Ent)(b c:Nat):qj (fq A) b c = !(A.any λx=>x.1==b+c):=by rw[BR];rfl
def wOk(a0:Int)(n:Nat):Bool:=decide (1<=a0)&&decide (a0<=64)&&decide ((n:Int)<=1000)
def inR(n:Int):Bool:=decide (0<=n)&&decide (n<=65535)
def vO(a0:Int)(row:List Int):(!iW a0 row)=((row.length:Int)==a0&&row.all inR):=by
 simp only[iW,bne,PM,Bool.not_not];rfl
def qG(a0:Int)(L:List (List Int)):(!cJ a0 L)=(wOk a0 L.length&&L.all (λr=>!iW a0 r)):=by
 simp only[cJ,wOk,PM,List.not_any_eq_all_not];congr 2
 ·congr 1<;>rw[<-decide_not]<;>exact decide_eq_decide.2 zo
 rw[<-decide_not];exact decide_eq_decide.2 zo
def sC{a0:Int}{L:List (List Int)}(h:cJ a0 L=false):1<=a0/\a0<=64/\L.length<=1000/\(∀r∈L,(r.length:Int)=a0)/\∀r∈L,r.length<=64:=by
 have h2:(!cJ a0 L)=true:=by rw[h];rfl
 rw[qG,MJ]at h2;simp only[wOk,MJ,decide_eq_true_eq]at h2;have h3:=λr hr=>by
  have:=MI.1 h2.2 r hr;rw[vO,MJ]at this;simpa using this.1
 exact⟨zo,zo,zo,h3,λr hr=>by have:=h3 r hr;omega⟩
def dG(p:PSt):Bool:=
 !(decide (p.width<1)||decide (64<p.width)||decide ((1000:Int)<p.usual.length)||((p.base.length:Int) != p.usual.length)) &&
 !((p.check.length:Int) != p.next.length||decide ((65599:Int)<p.check.length)) &&
 (inB 0 65535 p.usual&&inB 0 65535 p.base&&inB 0 65535 p.next&&inB (-1) ((p.usual.length:Int)-1) p.check)
def AM(p:PSt)(pv:ix)(w:ln)(hp:PkV w pv p):
  Np Mk 93 [pv] w λv w'=>v=.bool (dG p)/\N1 w w':=by
 obtain⟨u1,b1,k1,n1,rfl,a1,a4,a3,a2⟩:=hp;have b0:=a1.len_le;apply L6 func93 ntmps93 rfl rfl;refine zh ?_;apply aQ (aA w) 1 zo rfl rfl;intro x1 w1 O1 a0 b2 b3 a5;replace a1:=a1.ext a5;replace a4:=a4.ext a5;replace a3:=a3.ext a5;replace a2:=a2.ext a5;refine zh ?_;apply zv (RV.ld (a0.cell 1 rfl) rfl);apply zv (Ns (by first|exact a1|exact a4|exact a3|exact a2) L0 rfl);apply zv (RV.assign rfl);apply Mz;apply aa;apply WC.seq;apply WC.block;apply WC.seq;apply WC.region;apply zv (RV.fa rfl);refine zvH (RV.ld (a0.cell 0 rfl) rfl) ?_;refine cx (λw1=>_=w1) (decide ((64:Int)<p.width)) 3 rfl rfl rfl rfl rfl rfl ?_ ?_
 ·intro h1;refine zh ?_;refine zvH (RV.ld (a0.cell 0 rfl) rfl) ?_;refine nE 11 4 rfl h1
 rintro _ rfl;refine zh ?_;refine cx (λw1=>_=w1) (decide ((1000:Int)<p.usual.length)) 2 rfl rfl rfl rfl rfl rfl ?_ ?_
 ·intro h2;refine zh ?_;refine nE 16 3 rfl h2
 rintro _ rfl;refine zh ?_;refine cx (λw1=>_=w1) ((p.base.length:Int) != p.usual.length) 5 rfl rfl rfl rfl rfl rfl ?_ ?_
 ·intro h3;refine zh ?_;apply zv (RV.ld (a0.cell 2 rfl) rfl);apply bt rfl;apply zv (Ns (by first|exact a1|exact a4|exact a3|exact a2) L0 rfl);apply bt rfl;apply zv (Qc rfl);apply bt rfl;apply zv (RV.neq rfl rfl);apply Mz;refine nE 20 6 rfl h3
 rintro _ rfl;refine zh ?_;refine zC ?_ ?_
 ·intro hg;refine zh ?_;refine ah rfl rfl ⟨by simp only[dG,hg];rfl,a5⟩
 intro hg;refine zh ?_;apply zv (RV.ld (a0.cell 3 rfl) rfl);apply zv (Ns (by first|exact a1|exact a4|exact a3|exact a2) L0 rfl);apply zv (RV.fa rfl);apply zv (RV.ld (a0.cell 4 rfl) rfl);apply zv (Ns (by first|exact a1|exact a4|exact a3|exact a2) L0 rfl);apply zv (RV.neq rfl rfl);apply zv (Qc rfl);refine cx (λw1=>_=w1) (decide ((65599:Int)<p.check.length)) 4 rfl rfl rfl rfl rfl rfl ?_ ?_
 ·intro h4;refine zh ?_;apply zv (RV.ld (a0.cell 3 rfl) rfl);apply bt rfl;apply zv (Ns (by first|exact a1|exact a4|exact a3|exact a2) L0 rfl);apply bt rfl;apply zv (RV.gtr rfl rfl);apply Mz;refine nE 35 5 rfl h4
 rintro _ rfl;refine zh ?_;refine zC ?_ ?_
 ·intro a9;refine zh ?_;refine ah rfl rfl ⟨by simp only[dG,a9,Bool.not_true,Bool.and_false,Pz],a5⟩
 intro a9;refine zh ?_;apply zv (RV.ld (a0.cell 1 rfl) rfl);apply zc Pi (fW 0 65535 p.usual u1 w1 a1);rintro v w2 ⟨rfl,a8⟩;refine zh ?_;refine aU (N1 w1) (inB 0 65535 p.base) 3 a8 rfl rfl rfl rfl rfl ?_ ?_
 ·intro h5;refine zh ?_;refine zvH (RV.ld (a8.cell (a0.cell 2 rfl)) rfl) ?_;apply zc Pi (fW 0 65535 p.base b1 w2 (a4.ext a8));rintro v w3 ⟨rfl,a7⟩;refine zh ?_;refine nE 44 4 (a8.J a7) h5
 intro w3 a7;refine zh ?_;refine aU (N1 w1) (inB 0 65535 p.next) 3 a7 rfl rfl rfl rfl rfl ?_ ?_
 ·intro h6;refine zh ?_;refine zvH (RV.ld (a7.cell (a0.cell 4 rfl)) rfl) ?_;apply zc Pi (fW 0 65535 p.next n1 w3 (a2.ext a7));rintro v w4 ⟨rfl,a6⟩;refine zh ?_;refine nE 49 4 (a7.J a6) h6
 intro w4 a6;refine zh ?_;refine aU (N1 w1) (inB (-1) ((p.usual.length:Int)-1) p.check) 5 a6 rfl rfl rfl rfl rfl ?_ ?_
 ·intro h7;refine zh ?_;refine zvH (RV.ld (a6.cell (a0.cell 3 rfl)) rfl) ?_;apply zc Pi (fW (-1) ((p.usual.length:Int)-1) p.check k1 w4 (a3.ext a6));rintro v w5 ⟨rfl,a'⟩;refine zh ?_;refine nE 54 6 (a6.J a') h7
 intro w5 a';refine zh ?_;refine ah rfl rfl ⟨by simp only[dG,hg,a9,Bool.not_false,PA],a5.J a'⟩
def tU(row:List Int):∀(l:List Int) (b:Int),(l.foldl (nt row) b=b)\/l.foldl (nt row) b∈l
 |[],b=>.inl rfl
 |n::l,b=>by
  simp only[M8]
  rcases tU row l (nt row b n)with h|h
  ·rw[h];unfold nt;split
   ·right;simp
   left;rfl
  right;simp[h]
def An(row:List Int)(h:0<row.length):ck row∈row:=by
 rcases tU row row (nth row 0)with e|e
 ·rw[ck,e];exact aZ h
 exact e
def mh(f:Ent->Int):∀(A:List Ent) (l:List Int) (n:Int),n∈dU f A l->n∈l\/∃x∈A,n=f x
 |[],l,n,h=>.inl h
 |x::A,l,n,h=>by
  rcases mh f A (l.set x.1 (f x)) n h with h|⟨y,hy,he⟩
  ·rcases List.mem_or_eq_of_mem_set h with h|h
   ·exact .inl h
   exact .inr ⟨x,by simp,h⟩
  exact .inr ⟨y,by simp[hy],he⟩
def vw{lo hi:Int}{l:List Int}(h:∀n∈l,lo<=n/\n<=hi):inB lo hi l=true:=by
 rw[inB,MI];intro n hn;have:=h n hn;simp[this]
def Cy{lo hi:Int}{l:List Int}(h:inB lo hi l=true){n:Int}(hn:n∈l):lo<=n/\n<=hi:=by
 rw[inB,MI]at h;simpa using h n hn
def Cv(a0:Int)(L:List (List Int))(hw:∀r∈L,r.length<=64)(a2:∀r∈L,inB 0 65535 r=true):∀k,k<=L.length->
  let q:=(L.take k).foldl PSt.lay ⟨a0,[],[],[],[]⟩
  ∃A:List Ent,q.check=fq A/\q.next=lq A/\q.base.length=k/\q.check.length<=64*k/\(∀b∈q.base,0<=b/\b<=64*(k:Int))/\∀x∈A,x.2.1<k/\0<=x.2.2/\x.2.2<=65535:=by
 intro k
 induction k with
 |zero=>intro _;exact⟨[],rfl,rfl,rfl,L3 _,by simp,by simp⟩
 |succ k ih=>
  intro hk;obtain⟨A,h1,h2,h3,h4,h5,h6⟩:=ih zo;have hm:=aZ (l:=L) (j:=k) zo;rw[bd zo,Ml];generalize (L.take k).foldl PSt.lay ⟨a0,[],[],[],[]⟩=q at *;simp only[M8,Py];generalize nth L k=row at *;obtain⟨e1,e2⟩:=zF q A row h1 h2;obtain⟨l1,l2,l3,l4,l5⟩:=jg q row (hw _ hm) (by rw[h1,h2,oJ,gp]);obtain⟨m1,m2,m3⟩:=zG q row;have hb:=(gU q.check (cf row (ck row))).2.1;refine⟨_,e1,e2,zo,zo,λb a1=>?_,λx hx=>?_⟩
  ·rw[m1]at a1
   rcases Ma.1 a1 with h|h
   ·have:=h5 b h;omega
   simp only[L2]at h;subst h;omega
  rcases Ma.1 hx with h|h
  ·have:=h6 x h;omega
  simp only[ka,N0]at h;obtain⟨c,hc,rfl⟩:=h;have:=Cy (a2 _ hm) (aZ (lM hc));exact⟨by dsimp only;omega,this⟩
def xD(width:Int)(L:List (List Int))(a1:cJ width L=false):dG (mn width L)=true:=by
 obtain⟨a5,a4,hL,a0,a2⟩:=sC a1;have a3:=λr hr=>by
  have h2:(!cJ width L)=true:=by rw[a1];rfl
  rw[qG,MJ]at h2;have:=MI.1 h2.2 r hr;rw[vO,MJ]at this;exact this.2
 obtain⟨A,h1,h2,h3,h4,h5,h6⟩:=Cv width L a2 a3 L.length (L8 _);rw[M6]at h1 h2 h3 h4 h5;obtain⟨s1,s2,s3,s4,s5,_,_⟩:=qE width L a2;have hq:L.foldl PSt.lay ⟨width,[],[],[],[]⟩=mn width L:=rfl;rw[hq]at h1 h2 h3 h4 h5;generalize mn width L=q at *;have a6:q.usual.length=L.length:=by rw[s1];simp
 have b1:inB 0 65535 q.usual=true:=vw λn hn=>by
  rw[s1]at hn;obtain⟨r,hr,rfl⟩:=N0.1 hn;exact Cy (a3 r hr) (An r (by have:=a0 r hr;omega))
 have b2:inB 0 65535 q.base=true:=vw λn hn=>by have:=h5 n hn;omega
 have b3:inB 0 65535 q.next=true:=vw λn hn=>by
  rw[h2]at hn
  rcases mh _ _ _ _ hn with h|⟨x,hx,rfl⟩
  ·have:=Nl h;omega
  exact(h6 x hx).2
 have b4:inB (-1) ((q.usual.length:Int)-1) q.check=true:=vw λn hn=>by
  rw[h1]at hn
  rcases mh _ _ _ _ hn with h|⟨x,hx,rfl⟩
  ·have:=Nl h;omega
  have:=(h6 x hx).1;unfold lG;omega
 simp only[dG,b1,b2,b3,b4,Bool.and_true];have c1:¬q.width<1:=zo;have c2:¬64<q.width:=zo;have c3:¬(1000:Int)<q.usual.length:=zo;have c4:¬(65599:Int)<q.check.length:=zo;have c5:(q.base.length:Int)=q.usual.length:=zo;have c6:(q.check.length:Int)=q.next.length:=zo;simp[c1,c2,c3,c5,c6];omega
def getM(p:PSt)(r c:Nat):Int:=
 let k:=(nth p.base r).toNat+c
 if k<p.check.length/\nth p.check k=r then nth p.next k else nth p.usual r
structure OkP(p:PSt):Prop where
 w1:1<=p.width
 w2:p.width<=64
 rows:p.usual.length<=1000
 bl:p.base.length=p.usual.length
 cl:p.check.length=p.next.length
 c2:p.check.length<=65599
 base:∀r,r<p.base.length->0<=nth p.base r/\nth p.base r<=65535
def okP(p:PSt)(h:dG p=true):OkP p:=by
 simp only[dG,MJ,NB,Bool.or_eq_false_iff,decide_eq_false_iff_not,bne_eq_false_iff_eq]at h;obtain⟨⟨⟨⟨⟨h1,h2⟩,h3⟩,h4⟩,h5,h6⟩,⟨⟨h7,h8⟩,h9⟩,a0⟩:=h;exact⟨zo,zo,zo,zo,zo,zo,λr hr=>Cy h8 (aZ hr)⟩
def I4(p:PSt)(ok:OkP p)(u1 b1 k1 n1:ix)(pb r c:Nat)(w:ln)(hu:NS w u1 p.usual)(hb:NS w b1 p.base)(hk:NS w k1 p.check)(hn:NS w n1 p.next)
  (hc:∀j u,(#[nI p.width,u1,b1,k1,n1]:Array ix)[j]? = some u->w.cell? ⟨pb,j,none⟩=some u) (hr:r<p.base.length) (a3:c<64) :
  Np Mk 94 [nP pb,nI r,nI c] w λv w'=>v=nI (getM p r c)/\w=w':=by
 obtain⟨o1,o2,o3,o4,o5,o6,o7⟩:=ok;have a1:=o7 r hr;obtain⟨b,a0⟩:=Int.eq_ofNat_of_zero_le a1.1;have hg:getM p r c=if b+c<p.check.length/\nth p.check (b+c)=r then nth p.next (b+c)else nth p.usual r:=by simp only[getM,a0];rfl
 apply L6 func94 ntmps94 rfl rfl;refine zg ?_
 refine zvG (RV.ld (hc 2 _ rfl) rfl) ?_;apply zv (MM hb L0 (LX _) rfl rfl _ rfl zo)
 apply zv (RV.ld (hb.ld hr) rfl);have a2:nI (nth p.base r)=nI (b:Int):=by rw[a0]
 rw[a2];refine zg ?_;refine zvG (P7 rfl rfl (NN zo)) ?_;apply zv (RV.ld (hc 3 _ rfl) rfl);refine zvG (Ns hk L0 rfl) ?_
 by_cases h1:b+c<p.check.length
 ·apply ay (d:=24) rfl (b':=true) (decide_eq_true zo);refine zg ?_
  refine zvG (RV.ld (hc 3 _ rfl) rfl) ?_;refine zvG (MM hk L0 (LX _) rfl rfl _ rfl zo) ?_
  refine zvG (RV.ld (hk.ld h1) rfl) ?_;refine zC ?_ ?_
  ·intro he;replace he:nth p.check (b+c)=r:=by simpa using he
   rw[ap ⟨h1,he⟩]at hg;refine zg ?_;refine zvG (RV.ld (hc 4 _ rfl) rfl) ?_;apply zv (MM hn L0 (LX _) rfl rfl (b+c) rfl zo);refine zvG (RV.ld (hn.ld (i:=b+c) zo) rfl) ?_;refine ah rfl rfl ⟨by rw[hg],rfl⟩
  intro he;replace he:¬nth p.check (b+c)=r:=by simpa using he
  rw[am (λh=>he h.2)]at hg;refine zg ?_;refine zvG (RV.ld (hc 1 _ rfl) rfl) ?_;apply zv (MM hu L0 (LX _) rfl rfl _ rfl zo);refine zvG (RV.ld (hu.ld (i:=r) zo) rfl) ?_;refine ah rfl rfl ⟨by rw[hg],rfl⟩
 rw[am (λh=>h1 h.1)]at hg;apply ay (d:=24) rfl (b':=false) (decide_eq_false zo);refine zg ?_;apply zFG rfl rfl;refine zvG (RV.ld (hc 1 _ rfl) rfl) ?_;apply zv (MM hu L0 (LX _) rfl rfl _ rfl zo);refine zvG (RV.ld (hu.ld (i:=r) zo) rfl) ?_;refine ah rfl rfl ⟨by rw[hg],rfl⟩
end Go.Proofs.YteolbhblkgjbhaaGreatDoor
