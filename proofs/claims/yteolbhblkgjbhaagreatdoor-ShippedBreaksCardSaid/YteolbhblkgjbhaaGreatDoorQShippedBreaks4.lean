/- Texts that the proof of this statement needs, merged and shortened. -/
import Derived.Test.YteolbhblkgjbhaaGreatDoorQShippedBreaks3
set_option linter.defProp false
open Go renaming Value->ix,World->ln,TypeId->LZ,Program->P7,Addr->Pg,Operand->Pw,Oper->Qe,FuncId->Qv
open List renaming mem_singleton->L0,length_singleton->L5,length_cons->L7,mem_cons->LX,all_cons->LY,length_map->M7,append_nil->M8,not_mem_nil->Ma,findIdx?_eq_some_iff_getElem->Mc,getElem?_append_right->Me,mem_append->Mg,mem_map->Mi,take_length->Mj,replicate->Mn,findIdx?_eq_none_iff->Mv,getElem?_eq_getElem->Mx,map_append->MB,length_append->ME,foldl_append->MH,eq_nil_of_length_eq_zero->MQ,foldl_cons->MT,dropWhile_cons_of_neg->MY,getElem?_eq_some_iff->N1,getElem?_append_left->N2,drop_eq_getElem_cons->N4,append_assoc->N5,getElem_append_left->N8,range->Nf,take_append_drop->Nm,set_append_right->Nn,getElem?_toArray->No,replicate_succ->Nx,size_toArray->ND,flatMap_cons->NF,any_eq_false->NG,all_nil->NH,takeWhile_append_dropWhile->NL,suffix_cons->NM,takeWhile_cons_of_neg->NV,dropWhile_cons_of_pos->NW,getElem_append_right->NY,map_cons->P1,dropWhile_suffix->Pf,mem_of_mem_take->Pi,getElem_of_mem->Pp,getElem?_take->Ps,getElem_take->Pz,map_toArray->PB,length_take->PC,flatMap_nil->PD,cons_append->PE,all_eq_true->PF,range_succ->PN,nil_append->PO,take_take->PT,take_drop->PU,map_nil->Q9,map_map->Qa,drop->Qu
open Go.VL.Ret renaming enter->L1
open Go.Proofs.Tryz renaming underlying9->L2,prog->M5,sizeOf120->M9,sizeOf170->Mh,zeroValue31->Mp,underlying22->Mq,isAgg120->Ms,sizeOf138->Mt,sizeOf31->Mw,zeroValue170->Mz,sizeOf3->MG,sizeOf122->MK,sizeOf4->MU,sizeOf29->MV,isAgg170->Na,sizeOf54->Np,zeroValue122->Ns,underlying38->Nu,isAgg122->Nz,isAgg31->NC,zeroValue138->NQ,zeroValue120->NR,isAgg29->NS,isAgg138->Pa,underlying136->Pj,underlying54->Pu,zeroValue26->PI,sizeOf26->PJ,call89->PY,call109->Q3,sizeOf24->Qp,call84->Qq,call62->Qr,underlying130->Qx,underlying89->QA,underlying27->QB,underlying21->QC,isAgg26->QD,call138->QE,call118->QG,zeroValue29->QL,underlying5->QM,underlying4->QN,call63->QR,call29->QS
open Go.VL.WH renaming one->L3,done->Md,leaf->Nj
open Go.VL.Ext renaming refl->L4
open Go.VL.Upd renaming setRow->L6,J->M6,set->Mm,mono->MI,refl->NJ,drew->Pm,ofDrew->Pv,putObj->Qs,alloc->Qy
open Bool renaming and_eq_true->L8,or_eq_true->Ni,not_eq_true'->NI,true_and->P2,false_and->PW,false_or->Q2
open Nat renaming zero_le->L9,le_refl->Mb,or_lt_two_pow->Mr,pow_lt_pow_right->Mu,lt_succ_iff_lt_or_eq->MA,not_lt_zero->MD,add_sub_cancel_left->MF,div_eq_of_lt->Nc,pow_le_pow_right->Nw,lt_of_lt_of_le->NA,lt_of_le_of_lt->NB,one_mul->NP,add_assoc->P6,testBit_two_pow_mul->P8,sub_self->Pc,le_trans->Pd,add_comm->Pe,le_succ->Po,mod_lt->Py,blt->PA,and_le_right->PM,two_pow_pos->PQ,min_eq_left->PS,testBit_or->PZ,zero_add->Qf,add_mul->Qn
open UInt8 renaming ofNat->M0,toNat->Q6
open Go.VL renaming Upd->M1,BlkO->Mk,Ext->MP,Ret->MW,Ints->N6,RowT->Nv,Rng->NN,Free->Pr,NewV->Px,Elem->Qw
open Go.VL.RowT renaming U->M4,nil->NU,drew->P5
open Go.VL.BlkO renaming U->Mf,drew->MX,setRow->N7,tag->PX
open Go.Value renaming oneCell'->Ml,bool->Pk,ownBlock->PL,slice->Q5,int->Qk
open Go.Proofs.YteolbhblkgjbhaaGreatDoor renaming RightD->Mo,PSt->Pb,RowsG->QO
open Go.VL.Free renaming U->My
open Go.Utf8 renaming valid->MC,decode->Nq,encode->Ph
open Int renaming toNat_natCast->MJ,le_refl->N9,eq_ofNat_of_zero_le->P9
open Go.VL.WS renaming nil->MM,go->PK,call->Qi
open Go.VL.WC renaming still->MN,tail->NX
open Go.World renaming drew->MO,setRow->P3,putObj_heap_same->P4,setCell->PP
open Go.VL.Fit renaming i64->MR
open Go.VL.RV renaming build->MS,move->Nk,extract->Nl,add->NO,len->Q8,sub->Qz
open Go.Result renaming andThen_ok->MZ
open Option renaming none->N0,some->NK
open Go.VL.Sl renaming ext->Nb
open Go.Sem renaming run_bind->Ng,run->Qb
open Go.Lib renaming ctz->Nh,deBruijn64tab->PH,lowest_bit->Q0,ctzFrom->Qo
open Go.Addr renaming add->Nr
open Option.some renaming inj->Ny,injEq->Qt
open Go.Instr renaming next->NT,fill->Qg
open Go.VL.WL renaming storeAt->NZ,val->Q4,push->Qj
open Go.VL.Rng renaming drew->Pn,U->Qc
open Go.IntKind renaming wrap_u64->Pq,u64->PV
open Go.Proofs renaming TabAt->Q7
open Go.Proofs.YteolbhblkgjbhaaGreatDoor.PSt renaming lay->Qd
open Go.Exit renaming noGoto->Qh
open Go.Proofs.YteolbhblkgjbhaaGreatDoor.Nt renaming leaf->Ql
open Go.Value.agg renaming inj->QH
open List.cons renaming injEq->QJ
open Classical renaming byContradiction->QK
open Function renaming comp_apply->QQ
open Go.Builtin renaming append_->QT
set_option maxRecDepth 10000
open Go.VL Go.Proofs Go.Proofs.Tryz
variable {α:Type}{se:Bool}{E T:LZ}{rows:List (List Nat)}{A a:List (List Nat)×List Nat}{li lk:List Int}{a0 g tl:List Nat}{l r seg:List UInt8}{cs lc rc:List ix}{B b c fr i j jm k many n rb sz:Nat}{O O':Nat->Nat}{S:Nat->Prop}{P:P7}{F:Qv}{gv v wv':ix}{w w' w0:ln}{enc:α->List ix}
variable {m:Nat}
namespace Go.Proofs.YteolbhblkgjbhaaGreatDoor
def D7(p:Pb)(r:Nat):List Int:=(Nf p.width.toNat).map (getM p r)
def gC(p:Pb):List (List Int):=(Nf p.usual.length).map (D7 p)
def gh(p:Pb)(r c:Nat):List Int:=(Nf c).map (getM p r)++Mn (p.width.toNat-c) 0
def Cj(p:Pb)(r c:Nat)(h:c<p.width.toNat):(gh p r c).set c (getM p r c)=gh p r (c+1):=by
 simp only[gh];rw[Nn _ _ (by simp),PN,MB];obtain⟨d,hd⟩:∃d,p.width.toNat-c=d+1:=⟨p.width.toNat-c-1,zo⟩
 rw[hd,show p.width.toNat-(c+1)=d from by omega];simp[Nx]
def uz(p:Pb)(r c:Nat)(h:c<=p.width.toNat):(gh p r c).length=p.width.toNat:=by simp[gh];omega
def Ck(p:Pb)(r:Nat):gh p r p.width.toNat=D7 p r:=by simp[gh,D7]
def gG(f:Nat->List Int)(n i:Nat)(h:i<n):nth ((Nf n).map f) i=f i:=by
 rw[aD (by simpa using h)];simp
def Lb:Qw M5 130 22 1 24:=⟨Qx,by kernel_rfl,zd⟩
def uK(p:Pb)(pv:ix)(w:ln)(hp:PkV w pv p):
  MW M5 56 [pv] w λv w'=>∃rv,v=.tuple #[rv,.bool (dG p)]/\(if dG p then Rows w' rv (gC p)else rv=nS)/\MP w w':=by
 have d2:=hp;obtain⟨u1,b1,k1,n1,rfl,hu,hb,hk,hn⟩:=hp;apply L1 func56 ntmps56 rfl rfl;refine zg ?_;apply aQ (aA w) 1 zo rfl rfl;intro x1 w1 O1 c5 e2 e5 d0;refine zg ?_;apply zv (ai c5.V (QD _) (PJ _) rfl);apply zc call93 (AM p _ w1 (d2.ext d0));rintro v w2 ⟨rfl,c'⟩;have hE:=d0.J c';have hc:∀w',MP w2 w'->∀j u,(#[nI p.width,u1,b1,k1,n1]:Array ix)[j]? = some u->w'.cell? ⟨x1,j,none⟩=some u:=λw' e j u hu=>e.cell (c'.cell (c5.cell j hu))
 replace hu:=hu.ext hE;replace hb:=hb.ext hE;replace hk:=hk.ext hE;replace hn:=hn.ext hE;refine zg ?_;refine zC ?_ ?_
 ·intro hg;replace hg:dG p=false:=by simpa using hg
  refine zg ?_;refine cy rfl rfl rfl ⟨_,by rw[hg],by rw[hg];rfl,hE⟩
 intro hg;replace hg:dG p=true:=by simpa using hg
 have ok:=okP p hg;obtain⟨o1,o2,o3,o4,o5,o6,o7⟩:=ok;have ok:=okP p hg;obtain⟨n,c6⟩:∃n:Nat,p.width=n:=P9 zo;have a':p.width.toNat=n:=by omega
 refine zg ?_;apply zv (RV.ld (hc _ (L4 _) 1 _ rfl) rfl)
 refine zvG (Q8 (by first|exact hu) Mq rfl) ?_;apply zlp (λx:Nat×(Nat->Nat)×World×ix×List ix=>[(1,nP x1),(4,x.2.2.2.1),(13,nI p.usual.length),(14,nI x.1)]) (λx=>x.2.2.1) (λx=>x.1<=p.usual.length/\Nv (λv=>[v]) 22 1 x.2.1 x.2.2.1 16 x.2.2.2.1 x.2.2.2.2/\x.2.2.2.2.length=x.1/\(∀i,i<x.1->N6 x.2.2.1 (nth x.2.2.2.2 i) (D7 p i)/\Pr x.2.1 x.2.2.1 (nth x.2.2.2.2 i))/\M1 (λj=>j=16) (λ_=>0) w2 x.2.1 x.2.2.1) (λx=>p.usual.length-x.1) (0,(λ_=>0),w2,nS,[]) ⟨L9 _,NU _ _ _ _ _ _,rfl,λi hi=>absurd hi (MD i),NJ zd _ _⟩
 rintro⟨k,O3,w3,ov,vs⟩ ⟨d7,b3,a9,a0,b2⟩;dsimp only at d7 b3 a9 a0 b2 ⊢;have b9:=b2.ext;have c9:=(aA w2).U b2;refine zg ?_;refine zC ?_ ?_
 ·intro b4;replace b4:k<p.usual.length:=by have:=of_decide_eq_true b4;omega
  refine zg ?_;apply zv (RV.ld (hc _ b9 0 _ rfl) rfl)
  apply cg qm (val:=λn:Int=>nI n) (0:Int) zk (λ_=>rfl) (aA w3) 15 zd n rfl rfl c6 c6 zo zo rfl;intro w4 O4 lv d5 d6 e0 e4 e6;have a4:nH O4 w4 15 lv (gh p k 0):=by simpa[gh,a']using d6
  have b6:=a4.sl;have a2:(gh p k 0).length=n:=by rw[uz _ _ _ (L9 _),a']
  refine zg ?_;refine zvG (Q8 (by first|exact b6) Mq rfl) ?_
  have b':nI ((gh p k 0).length:Int)=nI (n:Int):=by rw[a2]
  rw[b'];apply zlp (λy:Nat×ln=>[(1,nP x1),(4,ov),(5,nI k),(6,lv),(13,nI p.usual.length),(14,nI k),(21,nI n),(22,nI y.1)]) (λy=>y.2) (λy=>y.1<=n/\nH O4 y.2 15 lv (gh p k y.1)/\M1 (λj=>j=15) (λ_=>0) w3 O4 y.2) (λy=>n-y.1) (0,w4) ⟨L9 _,a4,e0⟩;rintro⟨c,w5⟩ ⟨d9,a3,a6⟩;dsimp only at d9 a3 a6 ⊢;have a7:=b9.J a6.ext;have b5:=a3.sl;have c7:(gh p k c).length=n:=by rw[uz _ _ _ zo,a']
  refine zg ?_;refine zC ?_ ?_
  ·intro a1;replace a1:c<n:=by have:=of_decide_eq_true a1;omega
   refine zg ?_;apply zc call94 (I4 p ok u1 b1 k1 n1 x1 k c w5 (hu.ext a7) (hb.ext a7) (hk.ext a7) (hn.ext a7) (hc _ a7) zo zo)
   rintro v _ ⟨rfl,rfl⟩;apply zv (RV.indexAddr (by first|exact b5) Mq (MG _) rfl rfl _ rfl zo);apply NZ a3 c zo (getM p k c) (MG _) rfl zo rfl rfl rfl rfl;intro w6 b0 d';rw[Cj _ _ _ zo]at b0;refine zg ?_;refine zvG (NO rfl rfl (MR zo)) ?_;refine zxd (c+1,w6) ⟨a1,b0,a6.J d'⟩
  intro b7;obtain rfl:c=n:=by have:=of_decide_eq_false b7;omega
  have b0:N6 w5 lv (D7 p k):=by have:=a3.sl;rw[<-a',Ck]at this;exact this
  have c8:=a3.free zd ((aA w3).U a6) c9;have a8:=a6.ext;have b8:M1 (λ_=>False) O3 w3 O3 w5:=ae (λh=>h) O3 a8;have d4:=b3.U b8 zd (λh=>h);have e1:=c9.ext a8;subst d5;refine zg ?_;apply Qj Lb d4 e1 ((Q5 (some ⟨w3.heap.size,0,none⟩) c c)) (λ_=>rfl) rfl rfl rfl (by simp[Ml]) zo zo zo zd rfl rfl;intro d1 w7 O7 d3 a5 e3;refine zg ?_;refine zvG (NO rfl rfl (MR zo)) ?_;refine zxd (k+1,O7,w7,d1,vs++[Q5 (some ⟨w3.heap.size,0,none⟩) c c]) ⟨b4,d3,by simp[a9],?_,(b2.J (ae zd O3 a8)).J a5⟩;intro i hi;dsimp only at hi ⊢;rw[aC,a9]
  split
  ·rename_i h;obtain⟨g1,g2⟩:=a0 i h;exact⟨(g1.ext a8).U (g2.U b8) a5,(g2.U b8).U a5⟩
  rename_i h;obtain rfl:i=k:=by omega
  rw[Pc,ar];exact⟨b0.U c8 a5,c8.U a5⟩
 intro d8;obtain rfl:k=p.usual.length:=by have:=of_decide_eq_false d8;omega
 refine zg ?_;refine cy rfl rfl rfl ⟨_,by rw[hg],by rw[hg,ap rfl];exact⟨vs,b3.sl,by simp[a9,gC],λi hi=>by simp only[gC,M7,List.length_range]at hi;rw[gC,gG _ _ _ hi];exact(a0 i hi).1⟩,hE.J b9⟩
def qy(f:Ent->Int)(s:Nat):∀(A:List Ent) (l:List Int),(∀x∈A,x.1<l.length)->(∀x∈A,x.1≠s)->nth (dU f A l) s=nth l s
 |[],_,_,_=>rfl
 |x::A,l,h,hs=>by
  have:=qy f s A (l.set x.1 (f x)) (λy hy=>by simpa using h y (by simp[hy])) (λy hy=>hs y (by simp[hy]));simp only[dU,MT]at this ⊢;rw[this,bf (h x (by simp)),am (λe=>hs x (by simp) e.symm)]
def kT(f:Ent->Int):∀(A:List Ent) (l:List Int),(A.map (·.1)).Nodup->(∀x∈A,x.1<l.length)->∀x∈A,nth (dU f A l) x.1=f x
 |[],_,_,_,x,hx=>by simp at hx
 |y::A,l,hn,h,x,hx=>by
  simp only[P1,List.nodup_cons,Mi]at hn;have hl:∀z∈A,z.1<(l.set y.1 (f y)).length:=λz hz=>by simpa using h z (by simp[hz])
  rcases LX.1 hx with rfl|hx
  ·have:=qy f x.1 A (l.set x.1 (f x)) hl (λz hz e=>hn.1 ⟨z,hz,e⟩);simp only[dU,MT]at this ⊢;rw[this,bf (h x (by simp)),ap rfl]
  have:=kT f A (l.set y.1 (f y)) hn.2 hl x hx;simpa only[dU,MT]using this
def Dx{A:List Ent}(hn:(A.map (·.1)).Nodup){s r:Nat}(h:nth (fq A) s=r)(hs:s<iO A):∃x∈A,x.1=s/\x.2.1=r:=by
 have h1:=qz A s (Mn (iO A) (-1)) (by simpa using hs) (λy hy=>by simpa using eR hy);have h2:nth (Mn (iO A) (-1:Int)) s = -1:=by rw[aD (by simpa using hs)];simp
 rw[h2]at h1;have h3:=h1.1 (by rw[fq]at h;rw[h];omega);simp only[ne_eq,not_true,or_false,List.any_eq_true]at h3;obtain⟨x,hx,he⟩:=h3;have he:x.1=s:=by simpa using he
 refine⟨x,hx,he,?_⟩;have h4:=kT lG A (Mn (iO A) (-1)) hn (λy hy=>by simpa using eR hy) x hx;rw[he]at h4;rw[fq,h4]at h;unfold lG at h;omega
structure BInv(width:Int)(L:List (List Int))(k:Nat)(A:List Ent)(q:Pb):Prop where
 chk:q.check=fq A
 nxt:q.next=lq A
 bl:q.base.length=k
 b0:∀b∈q.base,0<=b
 us:q.usual=(L.take k).map ck
 nd:(A.map (·.1)).Nodup
 mem:∀x:Ent,x∈A↔x.2.1<k/\∃c,c<(nth L x.2.1).length/\nth (nth L x.2.1) c≠ck (nth L x.2.1)/\x.1=(nth q.base x.2.1).toNat+c/\x.2.2=nth (nth L x.2.1) c
def qJ{row:List Int}{u:Int}:c∈cf row u↔c<row.length/\nth row c≠u:=by simp[cf,gn]
def LV(a0:Int)(L:List (List Int)):∀k,k<=L.length->∃A,BInv a0 L k A ((L.take k).foldl Qd ⟨a0,[],[],[],[]⟩):=by
 intro k
 induction k with
 |zero=>intro _;exact⟨[],⟨rfl,rfl,rfl,by simp,rfl,by simp,λx=>by simp⟩⟩
 |succ k ih=>
  intro hk;obtain⟨A,h⟩:=ih zo;rw[bd zo,MH];generalize (L.take k).foldl Qd ⟨a0,[],[],[],[]⟩=q at *;simp only[MT,List.foldl_nil];obtain⟨e1,e2⟩:=zF q A (nth L k) h.chk h.nxt;obtain⟨m1,m2,m3⟩:=zG q (nth L k);have a3:=(gU q.check (cf (nth L k) (ck (nth L k)))).1;rw[fc,PF,h.chk]at a3;rw[h.chk]at e1 e2 m1;generalize hb:gu (fq A) (cf (nth L k) (ck (nth L k)))=b at *;rw[h.bl]at e1 e2;have a1:∀r,r<k->nth (q.base++[(b:Int)]) r=nth q.base r:=λr hr=>by rw[aC,ap (by rw[h.bl];exact hr)]
  have a4:nth (q.base++[(b:Int)]) k=b:=by rw[aC,h.bl,am (Nat.lt_irrefl _),Pc,ar]
  refine⟨_,⟨e1,e2,by rw[m1];simp[h.bl],λn hn=>?_,by rw[m2,h.us,bd zo];simp,?_,λx=>?_⟩⟩
  ·rw[m1]at hn
   rcases Mg.1 hn with h1|h1
   ·exact h.b0 n h1
   simp only[L0]at h1;subst h1;omega
  ·rw[MB,List.nodup_append];refine⟨h.nd,?_,λs hs s' a2 e=>?_⟩
   ·simp only[ka,Qa];rw[List.nodup_iff_pairwise_ne,List.pairwise_map];exact(nc (nth L k) (ck (nth L k))).imp (fun {a c} a6 e=>a6 (by simpa using e))
   subst e;simp only[ka,Qa,Mi,QQ]at a2;obtain⟨c,hc,rfl⟩:=a2;obtain⟨y,hy,a5⟩:=Mi.1 hs;have h2:=a3 c hc;rw[A5,NI]at h2;have h3:=NG.1 h2 y hy;exact h3 (by simp[a5])
  rw[Mg,h.mem,m1]
  constructor
  ·rintro(⟨h1,c,h2,h3,h4,h5⟩|h1)
   ·exact⟨zo,c,h2,h3,by rw[a1 _ h1];exact h4,h5⟩
   simp only[ka,Mi]at h1;obtain⟨c,hc,rfl⟩:=h1;obtain⟨c1,c2⟩:=qJ.1 hc;exact⟨by dsimp only;omega,c,c1,c2,by dsimp only;rw[a4];simp,rfl⟩
  rintro⟨h1,c,h2,h3,h4,h5⟩
  by_cases hr:x.2.1<k
  ·exact .inl ⟨hr,c,h2,h3,by rw[a1 _ hr]at h4;exact h4,h5⟩
  obtain⟨x1,x2,x3⟩:=x;dsimp only at h1 h2 h3 h4 h5 hr;obtain rfl:x2=k:=zo;right;rw[a4]at h4;simp only[ka,Mi];exact⟨c,qJ.2 ⟨h2,h3⟩,by rw[h4,h5];simp⟩
def Db(a0:Int)(L:List (List Int))(r c:Nat)(hr:r<L.length)(hc:c<(nth L r).length):getM (mn a0 L) r c=nth (nth L r) c:=by
 obtain⟨A,h⟩:=LV a0 L L.length (Mb _);rw[Mj]at h;have hq:L.foldl Qd ⟨a0,[],[],[],[]⟩=mn a0 L:=rfl;rw[hq]at h;generalize mn a0 L=q at *;have a1:nth q.usual r=ck (nth L r):=by rw[h.us,Mj,ed hr]
 unfold getM;rw[h.chk,h.nxt,gp,a1]
 by_cases hu:nth (nth L r) c=ck (nth L r)
 ·rw[am,hu];rintro⟨h1,h2⟩;obtain⟨x,hx,e1,e2⟩:=Dx h.nd h2 h1;obtain⟨g1,c',g2,g3,g4,g5⟩:=(h.mem x).1 hx;rw[e2]at g2 g3 g4;have:c'=c:=zo;subst this;exact g3 hu
 have hx:(((nth q.base r).toNat+c,r,nth (nth L r) c):Ent)∈A:=(h.mem _).2 ⟨by simpa using hr,c,hc,hu,rfl,rfl⟩;have h1:=eR hx;have h2:=kT lG A (Mn (iO A) (-1)) h.nd (λy hy=>by simpa using eR hy) _ hx;dsimp only at h1;rw[ap ⟨h1,h2⟩];exact (kT Ls A (Mn (iO A) 0) h.nd (λy hy=>by simpa using eR hy) _ hx)
end Go.Proofs.YteolbhblkgjbhaaGreatDoor
section
namespace Go.VL
structure LS where
 l:List UInt8
 pos:Int
 to:Int
 bg:Int
 bad:Int
 e:Int
 ig:ix
 kp:ix
 ru:ix
 mc:ix
 i:Bool
 k:Bool
def LS.cells(s:LS):Array ix:=#[.string (bs s.l),nI s.pos,nI s.to,nI s.bg,nI s.bad,nI s.e,s.ig,s.kp,s.ru,s.mc,.bool s.i,.bool s.k]
def BlkO.q0{s:LS}(h:Mk O w j rb s.cells E):w.cell? ⟨rb,0,none⟩=some (.string (bs s.l)):=h.cell 0 rfl
def BlkO.q1{s:LS}(h:Mk O w j rb s.cells E):w.cell? ⟨rb,1,none⟩=some (nI s.pos):=h.cell 1 rfl
def BlkO.q2{s:LS}(h:Mk O w j rb s.cells E):w.cell? ⟨rb,2,none⟩=some (nI s.to):=h.cell 2 rfl
def BlkO.q3{s:LS}(h:Mk O w j rb s.cells E):w.cell? ⟨rb,3,none⟩=some (nI s.bg):=h.cell 3 rfl
def BlkO.q4{s:LS}(h:Mk O w j rb s.cells E):w.cell? ⟨rb,4,none⟩=some (nI s.bad):=h.cell 4 rfl
def BlkO.q5{s:LS}(h:Mk O w j rb s.cells E):w.cell? ⟨rb,5,none⟩=some (nI s.e):=h.cell 5 rfl
def BlkO.q6{s:LS}(h:Mk O w j rb s.cells E):w.cell? ⟨rb,6,none⟩=some (s.ig):=h.cell 6 rfl
def BlkO.q7{s:LS}(h:Mk O w j rb s.cells E):w.cell? ⟨rb,7,none⟩=some (s.kp):=h.cell 7 rfl
def BlkO.q8{s:LS}(h:Mk O w j rb s.cells E):w.cell? ⟨rb,8,none⟩=some (s.ru):=h.cell 8 rfl
def BlkO.q9{s:LS}(h:Mk O w j rb s.cells E):w.cell? ⟨rb,9,none⟩=some (s.mc):=h.cell 9 rfl
def BlkO.q10{s:LS}(h:Mk O w j rb s.cells E):w.cell? ⟨rb,10,none⟩=some (.bool s.i):=h.cell 10 rfl
def BlkO.q11{s:LS}(h:Mk O w j rb s.cells E):w.cell? ⟨rb,11,none⟩=some (.bool s.k):=h.cell 11 rfl
def BlkO.s_pos{s:LS}(h:Mk O w j rb s.cells E)(a':Int):Mk O (w.setCell ⟨rb,1,none⟩ (nI a')) j rb ({s with pos:=a'}:LS).cells E:=h.set 1 _
def BlkO.s_to{s:LS}(h:Mk O w j rb s.cells E)(a':Int):Mk O (w.setCell ⟨rb,2,none⟩ (nI a')) j rb ({s with to:=a'}:LS).cells E:=h.set 2 _
def BlkO.s_bg{s:LS}(h:Mk O w j rb s.cells E)(a':Int):Mk O (w.setCell ⟨rb,3,none⟩ (nI a')) j rb ({s with bg:=a'}:LS).cells E:=h.set 3 _
def BlkO.s_bad{s:LS}(h:Mk O w j rb s.cells E)(a':Int):Mk O (w.setCell ⟨rb,4,none⟩ (nI a')) j rb ({s with bad:=a'}:LS).cells E:=h.set 4 _
def BlkO.s_e{s:LS}(h:Mk O w j rb s.cells E)(a':Int):Mk O (w.setCell ⟨rb,5,none⟩ (nI a')) j rb ({s with e:=a'}:LS).cells E:=h.set 5 _
def BlkO.s_ru{s:LS}(h:Mk O w j rb s.cells E)(a':ix):Mk O (w.setCell ⟨rb,8,none⟩ a') j rb ({s with ru:=a'}:LS).cells E:=h.set 8 _
end Go.VL
namespace Go.Proofs.YteolbhblkgjbhaaGreatDoor
open Go.VL Go.Proofs
set_option maxRecDepth 10000
abbrev Rd6(O:Nat->Nat)(w:ln)(j rb:Nat)(s:LS):Prop:=Mk O w j rb s.cells 114
def nL{c:UInt8}(h:(l.take m)[i]? = some c):l[i]? = some c:=by
 rw[Ps]at h
 split at h
 ·exact h
 cases h
def eB(O:Nat->Nat)(w:ln)(j rb:Nat)(s:LS)(m:Nat)(r:List UInt8)(hj:j≠0)(hm:m<=s.l.length)(hl:s.l.length<=100000)(a3:s.to=(m:Int))(hr:r <:+ s.l.take m)(hp:s.pos=(m:Int)-(r.length:Int))(h:Rd6 O w j rb s):
  MW M5 76 [nP rb] w λv w'=>v=.bool (decide (0<(az r).length))/\Rd6 O w' j rb {s with pos:=(m:Int)-((az r).length:Int)}/\M1 (λk=>k=j) O w O w':=by
 have hz:¬(λk:Nat=>k=j) 0:=λe=>hj e.symm
 have a9:(s.l.take m).length=m:=by simp;omega
 have h0:Rd6 O w j rb {s with pos:=(m:Int)-(r.length:Int)}:=by rw[<-hp];exact h
 apply L1 func76 ntmps76 rfl rfl;refine zh ?_
 apply zlp (λx:List UInt8×ln=>[(0,nP rb)]) (λx=>x.2) (λx=>x.1 <:+ s.l.take m/\az x.1=az r/\Rd6 O x.2 j rb {s with pos:=(m:Int)-(x.1.length:Int)}/\M1 (λk=>k=j) O w O x.2) (λx=>x.1.length) (r,w) ⟨hr,rfl,h0,NJ hz _ _⟩;rintro⟨r1,w1⟩ ⟨a4,a2,a7,a5⟩;dsimp only at a4 a2 a7 a5 ⊢;have a0:=a7.drew;have a8:=a4.length_le;refine zh ?_
 apply MN zk zk;refine zh ?_
 refine zwH (RV.ld a0.q1 rfl) ?_;refine zwH (RV.ld a0.q2 rfl) ?_
 cases r1 with
 |nil=>
  apply dd (d:=12) rfl (b':=false) (decide_eq_false (by simp[a3]));have a1:=a0.drew;refine zh ?_
  apply zw (aV rfl rfl);apply MM
  refine zh ?_;refine zFH rfl rfl ?_
  apply MN zk zk;refine zh ?_
  refine zwH (RV.ld a1.q1 rfl) ?_;refine zwH (RV.ld a1.q2 rfl) ?_
  apply MM;refine zh ?_
  refine ah rfl rfl ⟨by rw[<-a2];simp[a3,az],by rw[<-a2];exact a1,a5.drew.drew⟩
 |cons b r2=>
  simp only[L7]at a8 a0;apply dd (d:=12) rfl (b':=true) (decide_eq_true (by simp only[L7,a3];omega));refine zh ?_;refine zwH (RV.ld a0.q0 rfl) ?_;refine zwH (RV.ld a0.q1 rfl) ?_;refine zwH (bF (c:=b) L2 rfl rfl (m-(r2.length+1)) (by dsimp only;omega) (nL (by have:=oh a4;rwa[a9]at this))) ?_;apply zw (aT rfl rfl);apply MM;refine zh ?_;refine zC ?_ ?_
  ·intro hb;replace hb:b=32:=by rw[show(32:Int)=((32:Nat):Int)from rfl,fH b 32 zd]at hb;simpa using hb
   subst hb;refine zh ?_;apply zv (RV.ld a0.q1 rfl);refine zvH (NO rfl rfl (MR (by dsimp only;omega))) ?_;apply ao (j:=1) a0 rfl (MG _) rfl rfl rfl rfl;rw[show((m:Int)-((r2.length+1:Nat):Int))+1=(m:Int)-(r2.length:Int)from by omega];have a1:=a0.s_pos ((m:Int)-(r2.length:Int));have a':M1 (λk=>k=j) O w1.drew O (w1.drew.setCell ⟨rb,1,none⟩ (nI ((m:Int)-(r2.length:Int)))):=Mm hz a0.tag rfl;refine zh ?_;refine zx (r2,w1.drew.setCell ⟨rb,1,none⟩ (nI ((m:Int)-(r2.length:Int)))) ⟨(NM _ _).J a4,by rw[<-a2];simp[az],a1,a5.drew.J a'⟩ (by dsimp only;simp)
  intro hb;replace hb:b≠32:=by rw[show(32:Int)=((32:Nat):Int)from rfl,fH b 32 zd]at hb;simpa using hb
  have a6:az (b::r2)=b::r2:=by simp[az,hb]
  have a1:=a0.drew;refine zh ?_;apply MN zk zk;refine zh ?_;refine zwH (RV.ld a1.q1 rfl) ?_;refine zwH (RV.ld a1.q2 rfl) ?_;apply MM;refine zh ?_;refine ah rfl rfl ⟨by rw[<-a2,a6];simp[a3];omega,by rw[<-a2,a6];exact a1,a5.drew.drew⟩
def bX(O:Nat->Nat)(w:ln)(j rb:Nat)(s:LS)(p e:Int)(hj:j≠0)(he:s.e=0)(h:Rd6 O w j rb s):
  MW M5 109 [nP rb,nI p,nI e] w λ_ w'=>Rd6 O w' j rb {s with bad:=p,e:=e}/\M1 (λk=>k=j) O w O w':=by
 apply L1 func109 ntmps109 rfl rfl;refine zh ?_
 refine zvH (RV.ld h.q5 rfl) ?_;refine zTH rfl ((by rw[he];rfl)) ?_
 apply ao (j:=4) h rfl (MG _) rfl rfl rfl rfl;have a0:=h.s_bad p;have a3:M1 (λk=>k=j) O w O (w.setCell ⟨rb,4,none⟩ (nI p)):=Mm (λe=>hj e.symm) h.tag rfl;refine zh ?_
 apply ao (j:=5) a0 rfl (sizeOf57 _) rfl rfl rfl rfl;have a2:M1 (λk=>k=j) O (w.setCell ⟨rb,4,none⟩ (nI p)) O ((w.setCell ⟨rb,4,none⟩ (nI p)).setCell ⟨rb,5,none⟩ (nI e)):=Mm (λe=>hj e.symm) a0.tag rfl;refine zh ?_
 refine aK rfl ⟨a0.s_e e,a3.J a2⟩
def iy(O:Nat->Nat)(w:ln)(j rb:Nat)(s:LS)(m:Nat)(r:List UInt8)(hj:j≠0)(hm:m<=s.l.length)(hl:s.l.length<=100000)(b2:s.to=(m:Int))(hr:r <:+ s.l.take m)(hp:s.pos=(m:Int)-(r.length:Int))(h:Rd6 O w j rb s):
  MW M5 77 [nP rb] w λv w'=>v=.string (bs (r.takeWhile ak))/\Rd6 O w' j rb {s with pos:=(m:Int)-((r.dropWhile ak).length:Int)}/\M1 (λk=>k=j) O w O w':=by
 have hz:¬(λk:Nat=>k=j) 0:=λe=>hj e.symm
 have a9:(s.l.take m).length=m:=by simp;omega
 have h0:Rd6 O w j rb {s with pos:=(m:Int)-(r.length:Int)}:=by rw[<-hp];exact h
 have a':=hr.length_le;rw[a9]at a';apply L1 func77 ntmps77 rfl rfl;refine zh ?_;refine zvH (RV.ld h0.q1 rfl) ?_;apply zlp (λx:List UInt8×ln=>[(0,nP rb),(3,nI ((m:Int)-(r.length:Int)))]) (λx=>x.2) (λx=>x.1 <:+ s.l.take m/\x.1.dropWhile ak=r.dropWhile ak/\Rd6 O x.2 j rb {s with pos:=(m:Int)-(x.1.length:Int)}/\M1 (λk=>k=j) O w O x.2) (λx=>x.1.length) (r,w) ⟨hr,rfl,h0,NJ hz _ _⟩;rintro⟨r1,w1⟩ ⟨a8,a5,b4,a6⟩;dsimp only at a8 a5 b4 a6 ⊢;have a0:=b4.drew;have b3:=a8.length_le;rw[a9]at b3;have a3:r1=r.dropWhile ak->(s.l.take (m-r1.length)).drop (m-r.length)=r.takeWhile ak:=λe=>by
  have:=BY (l:=s.l.take m) (a:=r.takeWhile ak) (b:=r.dropWhile ak) (by rw[NL];exact hr);rw[NL,<-e,a9,PT,PS zo]at this;exact this
 have b0:r1.length<=r.length\/r1≠r.dropWhile ak:=by
  by_cases e:r1=r.dropWhile ak
  ·left;rw[e];exact(Pf _).length_le
  right;exact e
 refine zh ?_;apply MN zk zk
 refine zh ?_;refine zwH (RV.ld a0.q1 rfl) ?_
 refine zwH (RV.ld a0.q2 rfl) ?_
 cases r1 with
 |nil=>
  apply dd (d:=17) rfl (b':=false) (decide_eq_false (by simp[b2]));have a1:=a0.drew;have hd:[]=r.dropWhile ak:=by rw[<-a5];rfl
  have h1:=a3 hd;refine zh ?_;apply zw (aV rfl rfl);apply MM;refine zh ?_;refine zFH rfl rfl ?_;apply MN zk zk;refine zh ?_;refine zwH (RV.ld a1.q0 rfl) ?_;apply zw (RV.ld a1.q1 rfl);refine zwH (cm L2 rfl rfl rfl (m-r.length) (m-0) zo (by simp) zo zo) ?_;apply MM;refine zh ?_;simp only[List.length_nil]at h1;refine ah rfl rfl ⟨by rw[h1],by rw[<-hd];exact a1,a6.drew.drew⟩
 |cons b r2=>
  simp only[L7]at b3 a0;apply dd (d:=17) rfl (b':=true) (decide_eq_true (by simp only[L7,b2];omega));have a2:=nL (by have:=oh a8;rwa[a9]at this);refine zh ?_;refine zwH (RV.ld a0.q0 rfl) ?_;refine zwH (RV.ld a0.q1 rfl) ?_;refine zwH (bF (c:=b) L2 rfl rfl (m-(r2.length+1)) (by dsimp only;omega) a2) ?_
  by_cases k1:65<=b.toNat
  ·apply dd (d:=28) rfl (b':=true) (decide_eq_true zo);refine zh ?_
   refine zwH (RV.ld a0.q0 rfl) ?_;refine zwH (RV.ld a0.q1 rfl) ?_
   refine zwH (bF (c:=b) L2 rfl rfl (m-(r2.length+1)) (by dsimp only;omega) a2) ?_;refine zwH (aT rfl rfl) ?_
   by_cases k2:b.toNat<=90
   ·apply dd (d:=40) rfl (b':=true) (decide_eq_true zo);have a4:ak b=true:=by simp[ak,k1,k2]
    refine zh ?_;apply zw (aT rfl rfl)
    apply zw (aT rfl rfl);apply MM
    refine zh ?_;refine zTH rfl rfl ?_
    apply zv (RV.ld a0.q1 rfl);refine zvH (NO rfl rfl (MR (by dsimp only;omega))) ?_
    apply ao (j:=1) a0 rfl (MG _) rfl rfl rfl rfl;rw[show((m:Int)-((r2.length+1:Nat):Int))+1=(m:Int)-(r2.length:Int)from by omega];have a1:=a0.s_pos ((m:Int)-(r2.length:Int));have b1:M1 (λk=>k=j) O w1.drew O (w1.drew.setCell ⟨rb,1,none⟩ (nI ((m:Int)-(r2.length:Int)))):=Mm hz a0.tag rfl;refine zh ?_
    refine zx (r2,w1.drew.setCell ⟨rb,1,none⟩ (nI ((m:Int)-(r2.length:Int)))) ⟨(NM _ _).J a8,by rw[<-a5,NW a4],a1,a6.drew.J b1⟩ (by dsimp only;simp)
   apply dd (d:=40) rfl (b':=false) (decide_eq_false zo);refine zh ?_
   refine zwH (RV.ld a0.q0 rfl) ?_;refine zwH (RV.ld a0.q1 rfl) ?_
   refine zwH (bF (c:=b) L2 rfl rfl (m-(r2.length+1)) (by dsimp only;omega) a2) ?_
   by_cases k3:97<=b.toNat
   ·apply dd (d:=51) rfl (b':=true) (decide_eq_true zo);refine zh ?_
    refine zwH (RV.ld a0.q0 rfl) ?_;refine zwH (RV.ld a0.q1 rfl) ?_
    refine zwH (bF (c:=b) L2 rfl rfl (m-(r2.length+1)) (by dsimp only;omega) a2) ?_;refine zwH (aT rfl rfl) ?_
    apply zw (aV rfl rfl);apply zw (aT rfl rfl)
    apply MM;refine zh ?_
    by_cases k4:b.toNat<=122
    ·apply aM rfl (decide_eq_true zo);have a4:ak b=true:=by simp[ak,k3,k4]
     refine zh ?_;apply zv (RV.ld a0.q1 rfl)
     refine zvH (NO rfl rfl (MR (by dsimp only;omega))) ?_;apply ao (j:=1) a0 rfl (MG _) rfl rfl rfl rfl
     rw[show((m:Int)-((r2.length+1:Nat):Int))+1=(m:Int)-(r2.length:Int)from by omega];have a1:=a0.s_pos ((m:Int)-(r2.length:Int));have b1:M1 (λk=>k=j) O w1.drew O (w1.drew.setCell ⟨rb,1,none⟩ (nI ((m:Int)-(r2.length:Int)))):=Mm hz a0.tag rfl;refine zh ?_;refine zx (r2,w1.drew.setCell ⟨rb,1,none⟩ (nI ((m:Int)-(r2.length:Int)))) ⟨(NM _ _).J a8,by rw[<-a5,NW a4],a1,a6.drew.J b1⟩ (by dsimp only;simp)
    apply aH rfl (decide_eq_false zo);have a4:ak b=false:=by simp[ak,k2,k4]
    have a7:(b::r2).dropWhile ak=b::r2:=MY (by rw[a4];decide);have hd:b::r2=r.dropWhile ak:=by rw[<-a5,a7]
    have h1:=a3 hd;have h2:=b0.resolve_right (λe=>e hd);simp only[L7]at h1 h2;have a1:=a0.drew;refine zh ?_;apply MN zk zk;refine zh ?_;refine zwH (RV.ld a1.q0 rfl) ?_;apply zw (RV.ld a1.q1 rfl);refine zwH (cm L2 rfl rfl rfl (m-r.length) (m-(r2.length+1)) zo (by dsimp only;omega) zo (by dsimp only;omega)) ?_;apply MM;refine zh ?_;refine ah rfl rfl ⟨by rw[h1],by rw[<-hd];exact a1,a6.drew.drew⟩
   apply dd (d:=51) rfl (b':=false) (decide_eq_false zo);have a4:ak b=false:=by simp[ak,k2,k3]
   have a7:(b::r2).dropWhile ak=b::r2:=MY (by rw[a4];decide);have hd:b::r2=r.dropWhile ak:=by rw[<-a5,a7]
   have h1:=a3 hd;have h2:=b0.resolve_right (λe=>e hd);simp only[L7]at h1 h2;have a1:=a0.drew;refine zh ?_;refine zwH (aV rfl rfl) ?_;apply zw (aV rfl rfl);apply zw (aT rfl rfl);apply MM;refine zh ?_;refine zFH rfl rfl ?_;apply MN zk zk;refine zh ?_;refine zwH (RV.ld a1.q0 rfl) ?_;apply zw (RV.ld a1.q1 rfl);refine zwH (cm L2 rfl rfl rfl (m-r.length) (m-(r2.length+1)) zo (by dsimp only;omega) zo (by dsimp only;omega)) ?_;apply MM;refine zh ?_;refine ah rfl rfl ⟨by rw[h1],by rw[<-hd];exact a1,a6.drew.drew⟩
  have k3:¬97<=b.toNat:=zo;apply dd (d:=28) rfl (b':=false) (decide_eq_false zo);refine zh ?_;refine zwH (aV rfl rfl) ?_;refine zwH (RV.ld a0.q0 rfl) ?_;refine zwH (RV.ld a0.q1 rfl) ?_;refine zwH (bF (c:=b) L2 rfl rfl (m-(r2.length+1)) (by dsimp only;omega) a2) ?_;apply dd (d:=51) rfl (b':=false) (decide_eq_false zo);have a4:ak b=false:=by simp[ak,k1,k3]
  have a7:(b::r2).dropWhile ak=b::r2:=MY (by rw[a4];decide);have hd:b::r2=r.dropWhile ak:=by rw[<-a5,a7]
  have h1:=a3 hd;have h2:=b0.resolve_right (λe=>e hd);simp only[L7]at h1 h2;have a1:=a0.drew;refine zh ?_;refine zwH (aV rfl rfl) ?_;apply zw (aV rfl rfl);apply zw (aT rfl rfl);apply MM;refine zh ?_;refine zFH rfl rfl ?_;apply MN zk zk;refine zh ?_;refine zwH (RV.ld a1.q0 rfl) ?_;apply zw (RV.ld a1.q1 rfl);refine zwH (cm L2 rfl rfl rfl (m-r.length) (m-(r2.length+1)) zo (by dsimp only;omega) zo (by dsimp only;omega)) ?_;apply MM;refine zh ?_;refine ah rfl rfl ⟨by rw[h1],by rw[<-hd];exact a1,a6.drew.drew⟩
end Go.Proofs.YteolbhblkgjbhaaGreatDoor
end
section
namespace Go.VL
section
variable{P:P7}{N:Nat}{ops:Array Qe}{Q:Exit→Act→ln→Prop}{rest:List Qe}{st:St}{w:ln}
variable{t:LZ}{p:String}{e:Array Edge}{d:Nat}{x y z:Pw}
def WC.scope{c:Code}(h:WC P N c (Qh Q) st w):WC P N (.scope c) Q st w:=λa ha=>wp_scope_straight (h a ha)
def kG(h:QF N Q .ret st w):QF N (Qh Q) .ret st w:=h
def run_next_at(w:ln)(b:Nat)(s:ByteArray)(a0:Nat)(ty:LZ)(hb:w.heap[b]? = some (.stringIter s a0))(h:a0<s.size)(hd:Nq s a0=(c,n)):
  (NT (nP b) true ty).run P w=.ok (.tuple #[.bool true,nI a0,.int .i32 c]) (w.putObj b (.stringIter s (a0+n))):=by
 simp only[NT,getObj,setObj,Ng,Qb,hb,Result.andThen,h,if_true,hd];simp[goInt,World.putObj]
def rZ(w:ln)(b:Nat)(s:ByteArray)(a0:Nat)(ty:LZ)(hb:w.heap[b]? = some (.stringIter s a0))(h:¬a0<s.size):
  (NT (nP b) true ty).run P w=.ok (.tuple #[.bool false]) w:=by
 simp[NT,getObj,Qb,hb,h]
def vT{a0:Nat}(hx:ev st x=some (nP b))(hb:w.heap[b]? = some (.stringIter (bs l) a0))(hp:a0<l.length)(a2:Nq (bs l) a0=(c,n))(hd:PA d N=true) 
  (h:WL P N ops Q rest ((d,.tuple #[.bool true,nI (a0:Nat),.int .i32 (c:Int)])::st) (w.putObj b (.stringIter (bs l) (a0+n)))):WL P N ops Q (⟨some d,.next x true,t,p,e,none⟩::rest) st w:=by
 have a1:=run_next_at (P:=P) w b (bs l) a0 t hb (by rw[dp];exact hp) a2
 exact Q4 hd (λa ha=>by
  simp only[execOp,ha.ev hx,Ng,a1,MZ]
  rfl) h
def yA{a0:Nat}(hx:ev st x=some (nP b))(hb:w.heap[b]? = some (.stringIter (bs l) a0))(hp:l.length<=a0)(hd:PA d N=true) 
  (h:WL P N ops Q rest ((d,.tuple #[.bool false])::st) w):WL P N ops Q (⟨some d,.next x true,t,p,e,none⟩::rest) st w:=by
 have a1:=rZ (P:=P) w b (bs l) a0 t hb (by rw[dp];omega)
 exact Q4 hd (λa ha=>by
  simp only[execOp,ha.ev hx,Ng,a1,MZ]
  rfl) h
def yJ{xt yt:LZ}{k k':IntKind}{m:Int}(hs:P.underlying xt=some (.int k'))(a0:P.underlying yt=some .string)(hx:ev st x=some (.int k m)):RV P N (.convert xt yt x) t st w (.string (Ph m)):=
 λa ha a1 p e g=>by
  simp only[execOp,ha.ev hx];simp[convert,run_underlying hs,run_underlying a0,Conv.intToString]
end
def Dv{a0:Nat}(h:a0<l.length)(hb:(nth l a0).toNat<128):Nq (bs l) a0=((nth l a0).toNat,1):=by
 have hs:a0<(bs l).size:=by rw[dp];exact h
 have he:(bs l)[a0]'hs=nth l a0:=by rw[aD h];exact List.getElem_toArray (xs:=l) (i:=a0) h
 have:=decode_ascii (bs l) a0 hs (by rw[he];exact hb);rw[he]at this;exact this
def G1(h:i<l.length):(bs l).get! i=nth l i:=by
 rw[aD h];show(bs l).data[i]! = _;rw[getElem!_pos (bs l).data i (by simpa[bs]using h)];simp[bs]
def Dw{a0:Nat}(h:a0<l.length)(hb:128<=(nth l a0).toNat):
  ∃c n,Nq (bs l) a0=(c,n)/\128<=c/\MC (c:Int)=true/\1<=n/\a0+n<=l.length/\∀i,a0<=i->i<a0+n->128<=(nth l i).toNat:=by
 have h0:(bs l).get! (a0+0)=nth l a0:=G1 h;have hc:∀k,(a0+k<(bs l).size&&((bs l).get! (a0+k)).toNat / 64==2)=true->a0+k<l.length/\128<=(nth l (a0+k)).toNat:=λk hk=>by
  simp only[L8,decide_eq_true_eq,beq_iff_eq,dp]at hk;rw[G1 hk.1]at hk;exact⟨hk.1,zo⟩
 have one:∀i,a0<=i->i<a0+1->128<=(nth l i).toNat:=λi h1 h2=>by
  obtain rfl:i=a0:=zo;exact hb
 have a1:∃c n,(Utf8.runeError,1)=(c,n)/\128<=c/\MC (c:Int)=true/\1<=n/\a0+n<=l.length/\∀i,a0<=i->i<a0+n->128<=(nth l i).toNat:=⟨_,_,rfl,zd,zd,zd,zo,one⟩
 unfold Nq;simp only[h0];rw[am zo];have a2:=(nth l a0).toNat_lt
 split
 ·rename_i h1;simp only[L8]at h1;obtain⟨g1,g2⟩:=hc 1 (by simpa using h1.2)
  split
  ·rename_i h2;refine⟨_,_,rfl,h2,?_,zd,zo,λi k1 k2=>?_⟩
   ·unfold MC;simp only[Ni,L8,decide_eq_true_eq];left;constructor<;>omega
   by_cases e:i=a0
   ·rw[e];exact hb
   obtain rfl:i=a0+1:=zo;exact g2
  exact a1
 split
 ·rename_i h1;simp only[L8]at h1;obtain⟨g1,g2⟩:=hc 1 (by simpa using h1.1.2);obtain⟨g3,g4⟩:=hc 2 (by simpa using h1.2)
  split
  ·rename_i h2;simp only[L8,decide_eq_true_eq]at h2;refine⟨_,_,rfl,zo,h2.2,zd,zo,λi k1 k2=>?_⟩
   by_cases e:i=a0
   ·rw[e];exact hb
   by_cases e1:i=a0+1
   ·rw[e1];exact g2
   obtain rfl:i=a0+2:=zo;exact g4
  exact a1
 split
 ·rename_i h1;simp only[L8]at h1;obtain⟨g1,g2⟩:=hc 1 (by simpa using h1.1.1.2);obtain⟨g3,g4⟩:=hc 2 (by simpa using h1.1.2);obtain⟨g5,g6⟩:=hc 3 (by simpa using h1.2)
  split
  ·rename_i h2;simp only[L8,decide_eq_true_eq]at h2;refine⟨_,_,rfl,zo,h2.2,zd,zo,λi k1 k2=>?_⟩
   by_cases e:i=a0
   ·rw[e];exact hb
   by_cases e1:i=a0+1
   ·rw[e1];exact g2
   by_cases e2:i=a0+2
   ·rw[e2];exact g4
   obtain rfl:i=a0+3:=zo;exact g6
  exact a1
 exact a1
def Dr(hc:128<=c)(hv:MC (c:Int)=true):∃L:List UInt8,Ph (c:Int)=bs L/\2<=L.length/\L.length<=4/\128<=(nth L 1).toNat:=by
 unfold Ph;simp only[hv,if_true,MJ];rw[am zo];have hm:c % 64<64:=Py _ zd
 split
 ·refine⟨[M0 (0xC0+c / 64),M0 (0x80+c % 64)],rfl,by simp,by simp,?_⟩;rw[aX,ar];simp;omega
 split
 ·refine⟨[M0 (0xE0+c / 4096),M0 (0x80+c / 64 % 64),M0 (0x80+c % 64)],rfl,by simp,by simp,?_⟩;rw[aX,ar];have:c / 64 % 64<64:=Py _ zd;simp;omega
 refine⟨[M0 (0xF0+c / 262144),M0 (0x80+c / 4096 % 64),M0 (0x80+c / 64 % 64),M0 (0x80+c % 64)],rfl,by simp,by simp,?_⟩;rw[aX,ar];have:c / 4096 % 64<64:=Py _ zd;simp;omega
end Go.VL
namespace Go.Proofs.YteolbhblkgjbhaaGreatDoor
open Go.VL Go.Proofs
set_option maxRecDepth 10000
def rQ(c:Int)(w:ln)(hv:MC c=true):MW M5 211 [.int .i32 c] w λv w'=>v=.bool true/\w'=w:=by
 unfold MC at hv;simp only[Ni,L8,decide_eq_true_eq]at hv;apply L1 func211 ntmps211 rfl rfl;refine zh ?_;apply ay (d:=6) rfl (b':=true) ((decide_eq_true zo));refine zh ?_
 by_cases h:c<55296
 ·refine zTH rfl ((decide_eq_true zo)) ?_;refine ah rfl rfl ⟨rfl,rfl⟩
 refine zFH rfl ((decide_eq_false zo)) ?_;apply ay (d:=13) rfl (b':=true) ((decide_eq_true zo))
 refine zh ?_;refine zTH rfl ((decide_eq_true zo)) ?_
 refine ah rfl rfl ⟨rfl,rfl⟩
def oY(c:Nat)(w:ln)(hc:128<=c)(hv:MC (c:Int)=true):MW M5 160 [.string (bs [33,47]),.int .i32 (c:Int)] w λv w'=>v=nI (-1)/\MP w w':=by
 apply L1 func160 ntmps160 rfl rfl;refine zh ?_
 apply ay (d:=163) rfl (b':=true) ((decide_eq_true zo));refine zh ?_
 refine zFH rfl ((decide_eq_false zo)) ?_
 by_cases h3:(c:Int)=65533
 ·refine zTH rfl ((by simpa using h3)) ?_;apply vS L2 rfl rfl
  refine zh ?_;apply zlp (λx:Nat=>[(175,.pointer (some ⟨w.heap.size,0,none⟩))]) (λx=>w.iter (bs [33,47]) x) (λx=>x<=2) (λx=>2-x) 0 (L9 _)
  rintro k hk;refine zh ?_
  by_cases a2:k<2
  ·have a3:([33,47]:List UInt8)[k]? = some (nth [33,47] k):=by rw[aD (by simpa using a2)];exact Mx (by simpa using a2)
   have a4:(nth ([33,47]:List UInt8) k).toNat<128:=by
    have:k=0\/k=1:=zo
    rcases this with rfl|rfl
    ·rw[ar];decide
    rw[aX,ar];decide
   apply GF rfl a3 a4 rfl;refine zh ?_
   refine zTH rfl rfl ?_;refine zFH rfl ((beq_eq_false_iff_ne.2 zo)) ?_
   refine zxd (k+1) a2
  apply GE rfl (by simp;omega) rfl;refine zh ?_
  refine zFH rfl rfl ?_;refine ah rfl rfl ⟨rfl,Ext.iter _ _ _⟩
 refine zFH rfl ((by simpa using h3)) ?_;apply zc call211 (rQ c w hv)
 rintro v w9 ⟨rfl,a1⟩;rw[a1];clear a1 w9;obtain⟨L,hL,a6,a5,a7⟩:=Dr hc hv;refine zh ?_;apply aH rfl rfl;apply WC.scope;refine zh ?_;apply zv (yJ QC L2 rfl);rw[hL];refine zh ?_;refine zvH (bS L2 rfl) ?_;apply zlp (λx:Unit=>[(0,.string (bs [33,47])),(7,.string (bs L)),(8,nI ((L.length:Int)-1)),(9,nI ((L.length:Int)-1)),(10,nI 0)]) (λx=>w) (λx=>True) (λx=>0) () trivial;rintro _ _;refine zh ?_;refine zvH (bS L2 rfl) ?_
 by_cases h2:L.length=2
 ·apply aM rfl ((decide_eq_true (by simp;omega)));have a0:L[1]? = some (nth L 1):=by rw[aD zo];exact Mx zo
  refine zh ?_;apply WC.scope
  refine zh ?_;apply MN zk zk
  refine zh ?_;refine zwH (bF (c:=47) L2 rfl rfl 1 zo rfl) ?_
  refine zwH (bF (c:=nth L 1) L2 rfl rfl 1 zo a0) ?_;apply MM
  refine zh ?_;refine zTH rfl ((by rw[bne_iff_ne];show(47:Int)≠_;omega)) ?_
  apply NX 7 rfl rfl zk zk;refine zh ?_
  refine zwH (kD L2 rfl rfl 2 zo (by simp)) ?_;apply zw (bF (c:=nth L 1) L2 rfl rfl 1 zo a0)
  apply PK;apply zc call44 (ef [] (nth L 1) w.drew.drew)
  rintro v w9 ⟨rfl,a1⟩;rw[a1];clear a1 w9;refine zh ?_;refine zTH rfl rfl ?_;apply kG;refine zh ?_;apply kG;refine zh ?_;refine ah rfl rfl ⟨rfl,(L4 w).drew.drew⟩
 refine zFH rfl ((decide_eq_false (by simp;omega))) ?_;apply kG
 refine zh ?_;refine ah rfl rfl ⟨rfl,L4 _⟩
def lL(c:Nat)(w:ln)(hc:128<=c)(hv:MC (c:Int)=true):MW M5 117 [.string (bs [33,47]),.int .i32 (c:Int)] w λv w'=>v=.bool false/\MP w w':=by
 apply L1 func117 ntmps117 rfl rfl;refine zh ?_
 apply zc call160 (oY c w hc hv);rintro v w9 ⟨rfl,hE⟩;refine zh ?_
 refine ah rfl rfl ⟨rfl,hE⟩
def xB(c:Nat)(w:ln)(hc:128<=c)(hv:MC (c:Int)=true):MW M5 116 [.int .i32 (c:Int)] w λv w'=>v=.bool false/\MP w w':=by
 apply L1 func116 ntmps116 rfl rfl;refine zh ?_
 apply zc call117 (lL c w hc hv);rintro v w9 ⟨rfl,hE⟩;refine zh ?_
 refine ah rfl rfl ⟨rfl,hE⟩
end Go.Proofs.YteolbhblkgjbhaaGreatDoor
end
section
namespace Go.VL
def forget(i:Nat)(O:Nat->Nat)(b:Nat):Nat:=if O b=i then 0 else O b
def Rng.forget{B i:Nat}{O:Nat->Nat}{w:ln}(h:NN B O w):NN B (forget i O) w:=⟨h.le,λb hb=>by
 unfold VL.forget at hb
 split at hb
 ·exact absurd rfl hb
 exact h.rng b hb⟩
end Go.VL
namespace Go.Proofs.YteolbhblkgjbhaaGreatDoor
open Go.VL Go.Proofs
set_option maxRecDepth 10000
def gY(l:List UInt8):List UInt8:=(l.reverse.dropWhile (· == 32)).reverse
def Fg(l:List UInt8):List UInt8:=az (gY l)
def xk(l:List UInt8):gY (l++[32])=gY l:=by simp[gY]
def xl(l:List UInt8){c:UInt8}(h:c≠32):gY (l++[c])=l++[c]:=by simp[gY,h]
def nw(l:List UInt8)(w:ln)(hl:l.length<=1000000):MW M5 214 [.string (bs l),.int .u8 32] w λv w'=>v=.string (bs (az l))/\w'=w:=by
 apply L1 func214 ntmps214 rfl rfl;refine zh ?_
 apply zlp (λx:List UInt8=>[(0,.string (bs x)),(1,.int .u8 32)]) (λx=>w) (λx=>az x=az l/\x.length<=1000000) (λx=>x.length) l ⟨rfl,hl⟩;rintro r ⟨hr,a0⟩;refine zh ?_
 refine zvH (bS L2 rfl) ?_
 cases r with
 |nil=>
  apply ay (d:=8) rfl (b':=false) rfl;refine zh ?_
  refine zFH rfl rfl ?_;refine ah rfl rfl ⟨by rw[<-hr];rfl,rfl⟩
 |cons b r2=>
  simp only[L7]at a0;apply ay (d:=8) rfl (b':=true) ((decide_eq_true (by simp only[L7];omega)));refine zh ?_;refine zvH (bF (c:=b) L2 rfl rfl 0 rfl rfl) ?_;refine zC ?_ ?_
  ·intro hb;replace hb:b=32:=by
    by_cases e:b=32
    ·exact e
    have:=eN b 32 zd e;exact absurd (this.symm.J hb) zd
   subst hb;refine zh ?_;refine zvH (kD L2 rfl rfl 1 rfl (by simp)) ?_;refine zx r2 ⟨by rw[<-hr];simp[az],zo⟩ (by simp)
  intro hb;replace hb:b≠32:=λe=>by subst e;cases hb
  refine zh ?_;refine ah rfl rfl ⟨by rw[<-hr];simp[az,hb],rfl⟩
def lY(l:List UInt8)(w:ln)(hl:l.length<=1000000):MW M5 215 [.string (bs l),.int .u8 32] w λv w'=>v=.string (bs (gY l))/\w'=w:=by
 apply L1 func215 ntmps215 rfl rfl;refine zh ?_
 apply zlp (λx:List UInt8=>[(0,.string (bs x)),(1,.int .u8 32)]) (λx=>w) (λx=>gY x=gY l/\x.length<=1000000) (λx=>x.length) l ⟨rfl,hl⟩;rintro r ⟨hr,a1⟩;refine zh ?_
 refine zvH (bS L2 rfl) ?_
 rcases List.eq_nil_or_concat r with rfl|⟨r2,b,rfl⟩
 ·apply ay (d:=8) rfl (b':=false) rfl;refine zh ?_
  refine zFH rfl rfl ?_;refine ah rfl rfl ⟨by rw[<-hr];rfl,rfl⟩
 rw[List.concat_eq_append]at *;have a0:(r2++[b]).length=r2.length+1:=by simp
 rw[a0]at a1;apply ay (d:=8) rfl (b':=true) ((decide_eq_true (by rw[a0];omega)));refine zh ?_;refine zvH (bS L2 rfl) ?_;refine zvH (bF (c:=b) L2 rfl rfl r2.length (by rw[a0];omega) (by simp)) ?_;refine zC ?_ ?_
 ·intro hb;replace hb:b=32:=by
   by_cases e:b=32
   ·exact e
   have:=eN b 32 zd e;exact absurd (this.symm.J hb) zd
  subst hb;refine zh ?_;apply zv (bS L2 rfl);apply zv (Qz rfl rfl (MR (by rw[a0];omega)));refine zvH (yG L2 rfl rfl r2.length (by rw[a0];omega) (by simp)) ?_;rw[List.take_left];refine zx r2 ⟨by rw[<-hr,xk],zo⟩ (by simp)
 intro hb;replace hb:b≠32:=λe=>by subst e;cases hb
 refine zh ?_;refine ah rfl rfl ⟨by rw[<-hr,xl _ hb],rfl⟩
def BH(l:List UInt8):(gY l).length<=l.length:=by
 have:=(Pf (l:=l.reverse) (· == (32:UInt8))).length_le;simpa[gY]using this
def Ff(l:List UInt8)(w:ln)(hl:l.length<=1000000):MW M5 161 [.string (bs l),.string (bs [32])] w λv w'=>v=.string (bs (Fg l))/\MP w w':=by
 have a0:=BH l;apply L1 func161 ntmps161 rfl rfl;refine zh ?_;refine zvH (bP rfl rfl) ?_
 by_cases h0:l=[]
 ·subst h0;apply ay (d:=9) rfl (b':=true) rfl;refine zh ?_;refine zTH rfl rfl ?_;refine ah rfl rfl ⟨rfl,L4 _⟩
 apply ay (d:=9) rfl (b':=false) ((by simpa using h0));refine zh ?_
 refine zvH (bP rfl rfl) ?_;refine zFH rfl rfl ?_
 refine zvH (bS L2 rfl) ?_;apply ay (d:=17) rfl (b':=true) rfl
 refine zh ?_;refine zvH (bF (c:=32) L2 rfl rfl 0 rfl rfl) ?_
 refine zTH rfl rfl ?_;apply MN zk zk
 refine zh ?_;apply zw (bF (c:=32) L2 rfl rfl 0 rfl rfl)
 apply Qi call215 rfl (lY l w.drew hl) rfl;refine zh ?_
 apply zw (bF (c:=32) L2 rfl rfl 0 rfl rfl);apply Qi call214 rfl (nw (gY l) w.drew zo) rfl
 refine zh ?_;apply MM
 refine zh ?_;refine ah rfl rfl ⟨rfl,(L4 w).drew⟩
def Av(c:UInt8):Bool:=decide (c=33)||decide (c=47)
def I2(c:UInt8):decide (0<=tH [33,47] c)=Av c:=by
 unfold tH Av
 by_cases h1:c=33
 ·subst h1;rfl
 by_cases h2:c=47
 ·subst h2;rfl
 have:[(33:UInt8),47].findIdx? (· == c)=none:=by
  rw[Mv];intro x hx;simp at hx
  rcases hx with rfl|rfl<;>simp<;>intro e<;>first|exact h1 e.symm|exact h2 e.symm
 rw[this];simp[h1,h2]
def sQ(c:UInt8)(w:ln)(hc:c.toNat<128):MW M5 160 [.string (bs [33,47]),.int .i32 (c.toNat:Int)] w λv w'=>v=nI (tH [33,47] c)/\w'=w:=by
 apply L1 func160 ntmps160 rfl rfl;refine zh ?_
 apply ay (d:=163) rfl (b':=true) ((decide_eq_true zo));refine zh ?_
 refine zTH rfl ((decide_eq_true zo)) ?_;apply zv (DY QC QM rfl (Fit.u8 zo))
 apply zc call44 (ef [33,47] c w);rintro v w9 ⟨rfl,a0⟩;rw[a0];clear a0 w9;refine zh ?_
 refine ah rfl rfl ⟨rfl,rfl⟩
def nF(c:UInt8)(w:ln)(hc:c.toNat<128):MW M5 117 [.string (bs [33,47]),.int .i32 (c.toNat:Int)] w λv w'=>v=.bool (Av c)/\w'=w:=by
 apply L1 func117 ntmps117 rfl rfl;refine zh ?_
 apply zc call160 (sQ c w hc);rintro v w9 ⟨rfl,a0⟩;rw[a0];clear a0 w9;refine zh ?_
 refine ah rfl rfl ⟨congrArg Pk (I2 c),rfl⟩
def Ci(c:UInt8)(w:ln)(hc:c.toNat<128):MW M5 116 [.int .i32 (c.toNat:Int)] w λv w'=>v=.bool (Av c)/\w'=w:=by
 apply L1 func116 ntmps116 rfl rfl;refine zh ?_
 apply zc call117 (nF c w hc);rintro v w9 ⟨rfl,a0⟩;rw[a0];clear a0 w9;refine zh ?_
 refine ah rfl rfl ⟨rfl,rfl⟩
def mV(l:List UInt8):Int:=match l.findIdx? Av with|some i=>(i:Nat)|none=>-1
def sR(l:List UInt8)(w:ln):MW M5 159 [.string (bs l),.func (.func 116) #[] #[],.bool true] w fun v w'=>v=nI (mV l)/\MP w w':=by
 have b2:M1 (fun k=>k=1) (fun _=>0) w (mq (fun _=>0) w.heap.size 1) (w.iter (bs l) 0):=Qy zd (aA w) _ 1;have hO:mq (fun _=>0) w.heap.size 1 w.heap.size=1:=eM _ _ _;refine L1 func159 ntmps159 rfl rfl ?_;refine zh ?_;refine vS L2 rfl rfl ?_;refine zh ?_;refine zlp (fun x:Nat×ln=>[(1,.func (.func 116) #[] #[]),(2,.bool true),(10,.pointer (some ⟨w.heap.size,0,none⟩))]) (fun x=>x.2) (fun x=>(∀i,i<x.1->i<l.length->Av (nth l i)=false)/\x.2.heap[w.heap.size]? = some (.stringIter (bs l) x.1)/\M1 (fun k=>k=1) (fun _=>0) w (mq (fun _=>0) w.heap.size 1) x.2) (fun x=>l.length-x.1) (0,w.iter (bs l) 0) (⟨fun i hi=>absurd hi (MD i),World.iter_heap w (bs l) 0,b2⟩) ?_;rintro⟨k,w1⟩ ⟨a3,a2,a5⟩;dsimp only at a3 a2 a5 ⊢;refine zh ?_
 by_cases a1:k<l.length
 ·by_cases a7:(nth l k).toNat<128
  ·refine vT rfl a2 a1 (Dv a1 a7) rfl ?_;have a4:=a5.J (Qs zd hO (w:=w1) (.stringIter (bs l) (k+1)));have a0:(w1.putObj w.heap.size (.stringIter (bs l) (k+1))).heap[w.heap.size]? = some (.stringIter (bs l) (k+1)):=P4 (bN a2);generalize w1.putObj w.heap.size (.stringIter (bs l) (k+1))=w2 at *;refine zh ?_
   refine zTH rfl rfl ?_;refine ej rfl call116 rfl (Ci (nth l k) w2 a7) rfl ?_
   rintro v w9 ⟨rfl,a6⟩;rw[a6];clear a6 w9;refine zh ?_;refine zvH (DX QN rfl rfl) ?_
   cases hs:Av (nth l k)with
   |true=>
    refine zTH rfl rfl ?_;have hf:l.findIdx? Av=some k:=Mc.2 ⟨a1,by rw[<-aD a1,hs],fun j hj=>by rw[<-aD zo,a3 j hj zo];decide⟩
    refine ah rfl rfl (⟨by unfold mV;rw[hf];rfl,a4.ext⟩)
   |false=>
    refine zFH rfl rfl ?_;refine zxd (k+1,w2) (⟨fun i hi hl=>(MA.1 hi).elim (fun h=>a3 i h hl) (fun e=>by rw[e];exact hs),a0,a4⟩)
  obtain⟨c,n,a',b1,b0,b4,b3,a9⟩:=Dw a1 zo;refine vT rfl a2 a1 a' rfl ?_;have a4:=a5.J (Qs zd hO (w:=w1) (.stringIter (bs l) (k+n)));have a0:(w1.putObj w.heap.size (.stringIter (bs l) (k+n))).heap[w.heap.size]? = some (.stringIter (bs l) (k+n)):=P4 (bN a2);generalize w1.putObj w.heap.size (.stringIter (bs l) (k+n))=w2 at *;refine zh ?_;refine zTH rfl rfl ?_;refine ej rfl call116 rfl (xB c w2 b1 b0) rfl ?_;rintro v w3 ⟨rfl,a8⟩;refine zh ?_;refine zvH (DX QN rfl rfl) ?_;refine zFH rfl rfl ?_;refine zxd (k+n,w3) (⟨fun i hi hl=>?_,(a8.block _ (bN a0)).J a0,a4.J (ae zd _ a8)⟩)
  by_cases e:i<k
  ·exact a3 i e hl
  have:=a9 i zo hi;unfold Av;rw[decide_eq_false (fun e=>by rw[e]at this;exact absurd this zd),decide_eq_false (fun e=>by rw[e]at this;exact absurd this zd)];rfl
 refine yA rfl a2 zo rfl ?_;refine zh ?_
 refine zFH rfl rfl ?_;have hf:l.findIdx? Av=none:=Mv.2 fun x hx=>by
  obtain⟨j,hj,rfl⟩:=cu hx;exact a3 j zo hj
 refine ah rfl rfl (⟨by unfold mV;rw[hf],a5.ext⟩)
def nC(l:List UInt8)(w:ln):MW M5 115 [.string (bs l),.func (.func 116) #[] #[]] w fun v w'=>v=nI (mV l)/\MP w w':=by
 refine L1 func115 ntmps115 rfl rfl ?_;refine zh ?_
 refine zc call159 (sR l w) ?_;rintro v w1 ⟨rfl,hE⟩;refine zh ?_
 refine ah rfl rfl (⟨rfl,hE⟩)
def JR(seg:List UInt8):XR:=if Fg seg=[]then .ok (.mk 9 0 [])else K7 seg
def pR(kn:Kn)(seg:List UInt8):XR:=if Fg seg=[]then .ok (.mk 9 0 [])else fQ kn seg
variable{kn:Kn}
def PostS(O:Nat->Nat)(w:ln)(j rb:Nat)(s:LS)(fr:Nat)(x:N3):XR->Prop
 |.ok t=>Nt O w t x/\Rd6 O w j rb s
 |.bad p e=>x=(0,0,nS)/\e≠0/\Rd6 O w j rb {s with bad:=(fr:Int)+(p:Int),e:=e}
def zR(l:List UInt8)(p:Nat)(e:Int)(h:fQ kn l=.bad p e):e≠0/\p<=l.length:=by
 have hg:=jz (kn:=kn) 20 l;unfold fQ at h
 split at h
 ·cases h;exact⟨zd,L9 _⟩
 cases hf:yx kn 20 l with
 |bad q f=>
  rw[hf]at h hg
  cases h
  exact⟨hg.2,zo⟩
 |ok t r=>
  rw[hf]at h;dsimp only at h
  split at h
  ·cases h;exact⟨zd,zo⟩
  split at h
  ·cases h;exact⟨zd,L9 _⟩
  cases h
def yF{l:List α}(h:Nv enc E sz O w i v l)(hi:i≠0)(r:NN B O w):Pr (forget i O) w v:=λa n c e _=>by
 have h1:=h.1.tag a.block (by subst e;rfl);exact⟨by unfold forget;rw[ap h1],(r.rng a.block (by rw[h1];exact hi)).2⟩
def Mac(O:Nat->Nat)(w:ln)(i:Nat)(v:ix)(kn:Kn):Prop:=
 ∃ms:List M3,Nv eU 197 4 O w i v ms/\kn.length=ms.length/\∀q,q<ms.length->(nth kn q).1=(nth ms q).1/\Nt O w (nth kn q).2 (nth ms q).2
def Mac.U{S:Nat->Prop}{O O':Nat->Nat}{w w':ln}{i:Nat}{v:ix}(h:Mac O w i v kn)(u:M1 S O w O' w')(hi:i≠0)(hS:¬S i):Mac O' w' i v kn:=by
 obtain⟨ms,h1,h2,h3⟩:=h;exact⟨ms,h1.U u hi hS,h2,λq hq=>⟨(h3 q hq).1,(h3 q hq).2.U u⟩⟩
def Mac.known(h:Mac O w i v kn)(hi:i≠0)(r:NN B O w):Known (forget i O) w v kn:=by
 obtain⟨ms,h1,h2,h3⟩:=h;exact⟨ms,h1.sl,yF h1 hi r,h2,λq hq=>⟨(h3 q hq).1,(h3 q hq).2.weak λb hb=>by unfold forget;rw[hb];split<;>rfl⟩⟩
def Mac.nil(O:Nat->Nat)(w:ln)(i:Nat):Mac O w i nS []:=⟨[],NU _ _ _ _ _ _,rfl,λq hq=>absurd hq (by simp)⟩
def rW(B:Nat)(O:Nat->Nat)(w:ln)(j rb:Nat)(s:LS)(fr to:Nat)(hR:NN B O w)(hj:j≠0)(he:s.e=0)(d6:jm≠0)(e7:j≠jm)(e5:Mac O w jm s.mc kn)(e8:fr<=to)(e3:to<=s.l.length)(hl:s.l.length<=100000)(h:Rd6 O w j rb s):
  MW M5 118 [nP rb,nI fr,nI to] w λv w'=>∃x,v=nv x/\M1 (λk=>k=j) O w O w'/\PostS O w' j rb s fr x (pR kn ((s.l.take to).drop fr)):=by
 obtain⟨T0,d2,b1⟩:=hR.bound;obtain⟨T,a2,e6,hT⟩:∃T,0<T/\jm<T/\∀b,O b<T:=⟨T0+jm+1,zo,zo,λb=>by have:=b1 b;omega⟩
 clear d2 b1 T0;have f7:j<T:=by rw[<-h.tag];exact hT rb
 have f5:((s.l.take to).drop fr).length=to-fr:=by simp;omega
 apply L1 func118 ntmps118 rfl rfl;refine zh ?_
 apply aw hR T zo (NR _) rfl;intro xb w1 O1 e2 d9 f3 f8;have d8:=h.U d9 hj zo;refine zh ?_
 refine zvH (RV.ld d8.q0 rfl) ?_;refine zvH (cm L2 rfl rfl rfl fr to rfl rfl e8 e3) ?_
 apply zc call161 (Ff ((s.l.take to).drop fr) w1 zo);rintro v w2 ⟨rfl,e1⟩;have c7:M1 (λ_=>False) O1 w1 O1 w2:=ae (λh=>h) O1 e1;have b2:=e2.U c7 zo (λh=>h);have c5:=d8.U c7 hj (λh=>h);have b4:=f3.U c7;have a5:=(d9.pT hj a2 (Mb _)).J (jT O1 e1 hj a2);refine zvH (bP rfl rfl) ?_
 by_cases b3:Fg ((s.l.take to).drop fr)=[]
 ·have hM:pR kn ((s.l.take to).drop fr)=.ok (.mk 9 0 []):=by unfold pR;rw[ap b3]
  rw[hM];apply aM rfl ((by rw[b3];rfl));have a6:((9,0,nS):N3).2.2.oneCell'=true:=rfl;refine zh ?_;apply zv (aI ml (NR _) rfl (by first|rfl|(simp only[LY,NH];rfl)) rfl rfl);apply zsb (us:=#[nI ((9,0,nS):N3).1,nI ((9,0,nS):N3).2.1,((9,0,nS):N3).2.2]) b2 (M9 _) (cj a6);have a8:=N7 (us:=#[nI ((9,0,nS):N3).1,nI ((9,0,nS):N3).2.1,((9,0,nS):N3).2.2]) b2;have a1:M1 (λk=>k=T) O1 w2 O1 (P3 w2 xb #[nI ((9,0,nS):N3).1,nI ((9,0,nS):N3).2.1,((9,0,nS):N3).2.2]):=L6 zo (PX b2) rfl;have a':=c5.U a1 hj zo;have a7:=a5.J (a1.pT hj a2 (Mb _));refine zh ?_;refine aR rfl rfl a8.V (Ms _) (M9 _) ⟨(9,0,nS),rfl,a7.priv hT hj,Ql _ _ _ _,a'.fgt h.tag⟩
 have hM:pR kn ((s.l.take to).drop fr)=fQ kn ((s.l.take to).drop fr):=by unfold pR;rw[am b3]
 rw[hM];refine zFH rfl ((by simpa using b3)) ?_;apply zv (RV.ld c5.q9 rfl);apply zc call111 (mm s.mc ((s.l.take to).drop fr) B O1 (forget jm O1) w2 b4 b4.forget ((e5.U a5 d6 zo).known d6 b4));rintro v w3 ⟨e0,b5⟩;have c6:M1 (λ_=>False) O1 w2 O1 w3:=ae (λh=>h) O1 e0;have d3:=b2.U c6 zo (λh=>h);have d7:=c5.U c6 hj (λh=>h);have d':=b4.U c6;have b0:=a5.J (jT O1 e0 hj a2)
 cases hf:fQ kn ((s.l.take to).drop fr)with
 |ok t=>
  rw[hf]at b5;obtain⟨x,rfl,d4⟩:=b5;have a6:=d4.one;refine zh ?_;apply aw d' (T+1) zo (NR _) rfl;intro nb w4 O4 a3 d1 e' f4;apply zsb (us:=#[nI x.1,nI x.2.1,x.2.2]) a3 (M9 _) (cj a6);have b8:=a3.setRow (us:=#[nI x.1,nI x.2.1,x.2.2]);have d0:M1 (λk=>k=T+1) O4 w4 O4 (w4.setRow nb #[nI x.1,nI x.2.1,x.2.2]):=L6 zo a3.tag rfl;have a0:=d1.J d0;have a9:=d3.U a0 zo zo;have b':=d7.U a0 hj zo;have a4:=b0.J (a0.pT hj a2 (Po _));generalize w4.setRow nb #[nI x.1,nI x.2.1,x.2.2]=w5 at *;refine zh ?_;refine zFH rfl rfl ?_;apply zv (ai (us:=bu x) b8.V (Ms _) (M9 _) rfl);apply zsb (us:=#[nI x.1,nI x.2.1,x.2.2]) a9 (M9 _) (cj a6);have a8:=N7 (us:=#[nI x.1,nI x.2.1,x.2.2]) a9;have a1:M1 (λk=>k=T) O4 w5 O4 (P3 w5 xb #[nI x.1,nI x.2.1,x.2.2]):=L6 zo (PX a9) rfl;have a':=b'.U a1 hj zo;have a7:=a4.J (a1.pT hj a2 (Mb _));refine zh ?_;refine aR rfl rfl a8.V (Ms _) (M9 _) ⟨x,rfl,a7.priv hT hj,((d4.U a0).U a1).low a7,a'.fgt h.tag⟩
 |bad p e=>
  rw[hf]at b5;obtain⟨rfl,d5⟩:=b5;obtain⟨_,f6⟩:=zR _ _ _ hf;refine zh ?_;apply aw d' (T+1) zo (NR _) rfl;intro nb w4 O4 a3 d1 e' f4;apply zsa (us:=#[nI 0,nI 0,nS]) a3 (M9 _);have b8:=a3.setRow (us:=#[nI 0,nI 0,nS]);have d0:M1 (λk=>k=T+1) O4 w4 O4 (w4.setRow nb #[nI 0,nI 0,nS]):=L6 zo a3.tag rfl;have a0:=d1.J d0;have a9:=d3.U a0 zo zo;have b':=d7.U a0 hj zo;have a4:=b0.J (a0.pT hj a2 (Po _));generalize w4.setRow nb #[nI 0,nI 0,nS]=w5 at *;refine zh ?_;refine zTH rfl ((by simpa using d5)) ?_;apply zc Q3 (bX O4 w5 j rb s ((fr:Int)+(p:Int)) e hj he b');rintro v w6 ⟨e9,c'⟩;have b6:=a9.U c' zo zo;refine zh ?_;apply zv (ai (us:=bu ((0,0,nS):N3)) (b8.U c' zo zo).V (Ms _) (M9 _) rfl);have a6:((0,0,nS):N3).2.2.oneCell'=true:=rfl;apply zsb (us:=#[nI ((0,0,nS):N3).1,nI ((0,0,nS):N3).2.1,((0,0,nS):N3).2.2]) b6 (M9 _) (cj a6);have a8:=N7 (us:=#[nI ((0,0,nS):N3).1,nI ((0,0,nS):N3).2.1,((0,0,nS):N3).2.2]) b6;have a1:M1 (λk=>k=T) O4 w6 O4 (P3 w6 xb #[nI ((0,0,nS):N3).1,nI ((0,0,nS):N3).2.1,((0,0,nS):N3).2.2]):=L6 zo (PX b6) rfl;have a':=e9.U a1 hj zo;have a7:=(a4.J (c'.pj a2)).J (a1.pT hj a2 (Mb _));refine zh ?_;refine aR rfl rfl a8.V (Ms _) (M9 _) ⟨(0,0,nS),rfl,a7.priv hT hj,rfl,d5,a'.fgt h.tag⟩
end Go.Proofs.YteolbhblkgjbhaaGreatDoor
end
namespace Go.Proofs.YteolbhblkgjbhaaGreatDoor
section
def du(t:Nd):Int:=if(bz t&&Bx 3 t)=true then 4 else if(!(uX t)||decide (4<uW t))=true then 8 else 0
def lu(t:Nd)(x:N3)(w:ln)(h:Nt (λ_=>0) w t x):MW M5 84 [nv x] w λv w'=>v=nI (du t)/\MP w w':=by
 apply L1 func84 ntmps84 rfl rfl;refine zh ?_
 apply aQ (aA w) 1 zo rfl rfl;intro xb w1 O1 a5 a7 a8 a3;have a4:∀W,MP w1 W->∀(j:Nat) (u:ix),(bu x)[j]? = some u->W.cell? (nA xb j)=some u:=λW hE j u hu=>hE.cell (a5.V j u hu)
 refine zh ?_;apply zv (ai (us:=bu x) (a4 w1 (L4 _)) (Ms _) (M9 _) rfl)
 apply zc call122 (qb t x w1 (h.ext a3));rintro v w2 ⟨rfl,a2⟩;refine zh ?_
 apply zv (ai (us:=bu x) (a4 w2 a2) (Ms _) (M9 _) rfl);apply zc call123 (A2 t 3 x w2 (h.ext (a3.J a2)))
 rintro v w3 ⟨rfl,a6⟩;have a0:=(a3.J a2).J a6;refine zh ?_
 cases h1:(bz t&&Bx 3 t)with
 |true=>
  refine zTH rfl rfl ?_;refine ah rfl rfl ⟨by unfold du;rw[ap h1],a0⟩
 |false=>
  refine zFH rfl rfl ?_;refine cx (λw1=>_=w1) (decide (4<uW t)) 2 rfl rfl rfl rfl rfl rfl ?_ ?_
  ·intro a1;refine zh ?_;refine nE 16 3 rfl a1
  rintro _ rfl;refine zh ?_
  cases h2:(!(uX t)||decide (4<uW t))with
  |true=>
   refine zTH rfl rfl ?_;refine ah rfl rfl ⟨by unfold du;rw[am (by rw[h1];decide),ap h2],a0⟩
  |false=>
   refine zFH rfl rfl ?_;refine ah rfl rfl ⟨by unfold du;rw[am (by rw[h1];decide),am (by rw[h2];decide)],a0⟩
abbrev R3:=Nd×Nd×Bool
abbrev X3:=N3×N3×Bool
def cL(x:X3):List ix:=[nI x.1.1,nI x.1.2.1,x.1.2.2,nI x.2.1.1,nI x.2.1.2.1,x.2.1.2.2,.bool x.2.2]
def Rt(O:Nat->Nat)(w:ln)(t:R3)(x:X3):Prop:=Nt O w t.1 x.1/\Nt O w t.2.1 x.2.1/\x.2.2=t.2.2
def Rt.U{S:Nat->Prop}{O O':Nat->Nat}{w w':ln}{t:R3}{x:X3}(h:Rt O w t x)(u:M1 S O w O' w'):Rt O' w' t x:=⟨h.1.U u,h.2.1.U u,h.2.2⟩
def Rt.weak{O O':Nat->Nat}{w:ln}{t:R3}{x:X3}(h:Rt O' w t x)(k:∀b,O' b=0->O b=0):Rt O w t x:=⟨h.1.weak k,h.2.1.weak k,h.2.2⟩
def elR:Qw M5 54 122 7 88:=⟨Pu,by kernel_rfl,zd⟩
def J1:cI M5 122 #[(0,3),(3,3),(6,1)]:=⟨_,underlying122,λw=>by kernel_rfl⟩
inductive LR where
 |ok (x:R3)
 |bad (p:Nat) (e:Int)
def LF(r:List UInt8):LR:=
 match r.findIdx? Av with
 |none=>.bad r.length 4
 |some k=>
  match JR (r.take k)with
  |.bad p e=>.bad p e
  |.ok a=>
   match JR (r.drop (k+1))with
   |.bad p e=>.bad (k+1+p) e
   |.ok b=>if du b≠0 then .bad (k+1) (du b)else .ok (a,b,(((nth r k).toNat:Int)==47))
def iw(kn:Kn)(r:List UInt8):LR:=
 match r.findIdx? Av with
 |none=>.bad r.length 4
 |some k=>
  match pR kn (r.take k)with
  |.bad p e=>.bad p e
  |.ok a=>
   match pR kn (r.drop (k+1))with
   |.bad p e=>.bad (k+1+p) e
   |.ok b=>if du b≠0 then .bad (k+1) (du b)else .ok (a,b,(((nth r k).toNat:Int)==47))
variable{kn:Kn}
def Cd(s:LS)(fr:Nat):XR->LS
 |.ok _=>s
 |.bad p e=>{s with bad:=(fr:Int)+(p:Int),e:=e}
def PostS.rd{s:LS}{x:N3}{M:XR}(h:PostS O w j rb s fr x M):Rd6 O w j rb (Cd s fr M):=by
 cases M with
 |ok t=>exact h.2
 |bad p e=>exact h.2.2
def PostS.one{O:Nat->Nat}{w:ln}{j rb:Nat}{s:LS}{fr:Nat}{x:N3}{M:XR}(h:PostS O w j rb s fr x M):x.2.2.oneCell'=true:=by
 cases M with
 |ok t=>exact h.1.one
 |bad p e=>rw[h.1];rfl
def PostS.U{S:Nat->Prop}{O O':Nat->Nat}{w w':ln}{j rb:Nat}{s:LS}{fr:Nat}{x:N3}{M:XR}(h:PostS O w j rb s fr x M)(u:M1 S O w O' w')(hj:j≠0)(hS:¬S j):PostS O' w' j rb s fr x M:=by
 cases M with
 |ok t=>exact⟨h.1.U u,Mf h.2 u hj hS⟩
 |bad p e=>exact⟨h.1,h.2.1,Mf h.2.2 u hj hS⟩
def Fz(s:LS)(fr:Nat)(M:XR):(Cd s fr M).l=s.l:=by cases M<;>rfl
def Cc(s:LS)(fr:Nat)(M:XR):(Cd s fr M).bg=s.bg:=by cases M<;>rfl
def Lm(B:Nat)(O:Nat->Nat)(w w':ln)(j jr rb:Nat)(s:LS)(xs:List X3)(M:LR):Prop:=
 ∃O' rv,M1 (λk=>k=j\/k=jr) O w O' w'/\NN B O' w'/\
  match M with
  |.ok t=>∃x,Nv cL 122 7 O' w' jr rv (xs++[x])/\Rt O' w' t x/\Rd6 O' w' j rb {s with ru:=rv}
  |.bad p e=>e≠0/\Rd6 O' w' j rb {s with ru:=rv,bad:=s.bg+(p:Int),e:=e}
def kX{x y:N3}{b:Bool}(h1:x.2.2.oneCell'=true)(h2:y.2.2.oneCell'=true):(cL (x,y,b)).toArray.toList.all Ml=true:=by
 simp only[cL,LY,h1,h2];rfl
def cY{x y:N3}{b:Bool}(h1:x.2.2.oneCell'=true)(h2:y.2.2.oneCell'=true):∀c∈cL (x,y,b),c.oneCell'=true:=by
 have:=kX (b:=b) h1 h2;exact PF.1 this
def GN{L:List UInt8}(h:r <:+ L):L.drop (L.length-r.length)=r:=(List.suffix_iff_eq_drop.1 h).symm
def ke{x1 x2:N3}{brk:Bool}(h:Mk O w i b (cL (x1,x2,brk)).toArray E):∀(q:Nat) (u:ix),(bu x2)[q]? = some u->w.cell? ((nA b 3).add q)=some u:=λq u hu=>by
 have e:((nA b 3).add q)=⟨b,3+q,none⟩:=by
  simp only[Nr];(repeat' split)<;>simp_all
 rw[e];apply h.cell (3+q);simp only[bu]at hu
 match q,hu with
 |0,hu=>exact hu
 |1,hu=>exact hu
 |2,hu=>exact hu
def xu{s:LS}{x:N3}{M:XR}{hbg:s.bg=((m-n:Nat):Int)}(h:PostS O w j rb s fr x M):w.cell? ⟨rb,0,none⟩=some (.string (bs s.l))/\w.cell? ⟨rb,3,none⟩=some (nI ((m-n:Nat):Int)):=by
 have h0:=h.rd.q0;have h3:=h.rd.q3;rw[Fz]at h0;rw[Cc,hbg]at h3;exact⟨h0,h3⟩
def uy(B:Nat)(O:Nat->Nat)(w:ln)(j jr rb:Nat)(s:LS)(m:Nat)(r:List UInt8)(xs:List X3)(hR:NN B O w)(hj:j≠0)(b0:jr≠0)(e7:j≠jr)(hm:m<=s.l.length)(hl:s.l.length<=100000)(i7:s.to=(m:Int))(hbg:s.bg=((m-r.length:Nat):Int))(he:s.e=0)(h2:jm≠0)(g0:j≠jm)(l':jr≠jm)(j3:Mac O w jm s.mc kn)
  (hr:r <:+ s.l.take m) (f':Nv cL 122 7 O w jr s.ru xs) (l9:xs.length<=40) (h:Rd6 O w j rb s) :
  MW M5 80 [nP rb] w λ_ w'=>Lm B O w w' j jr rb s xs (if xs.length=40 then .bad 0 3 else iw kn r):=by
 obtain⟨T0,j6,i4⟩:=hR.bound;obtain⟨T,g7,h',l3,hT⟩:∃T,0<T/\jr<T/\jm<T/\∀b,O b<T:=⟨T0+jr+jm+1,by omega,by omega,by omega,λb=>by have:=i4 b;omega⟩
 clear j6 i4 T0;have f7:j<T:=by rw[<-h.tag];exact hT rb
 have b2:¬(λq:Nat=>q=j\/q=jr\/T<=q) 0:=λe=>by rcases e with e|e|e;exact hj e.symm;exact b0 e.symm;omega
 have j1:¬(λq:Nat=>q=j\/q=jr) 0:=λe=>by rcases e with e|e;exact hj e.symm;exact b0 e.symm
 have k5:(s.l.take m).length=m:=by simp;omega
 have k':=hr.length_le;rw[k5]at k';have c8:=GN hr;rw[k5]at c8;have q0:=h.q0;have q2:=h.q2;rw[i7]at q2;have q3:=h.q3;rw[hbg]at q3;apply L1 func80 ntmps80 rfl rfl;refine zg ?_;apply zv (RV.ld h.q8 rfl);refine zvG (Q8 (by first|exact f'.sl) Pu rfl) ?_
 by_cases j8:xs.length=40
 ·rw[ap j8];apply aM rfl ((by rw[j8];rfl));have k7:w.drew.cell? ⟨rb,3,none⟩=some (nI ((m-r.length:Nat):Int)):=q3;refine zg ?_;apply NX 8 rfl rfl zk zk;refine zg ?_;apply zw (RV.ld k7 rfl);apply PK;apply zc Q3 (bX O w.drew j rb s ((m-r.length:Nat):Int) 3 hj he h.drew);rintro v w1 ⟨f8,k3⟩;refine zg ?_;refine cM rfl ⟨O,s.ru,(Pv k3).mono (λ_ h=>.inl h) j1,hR.drew.U k3,by decide,?_⟩;rw[show s.bg+((0:Nat):Int)=((m-r.length:Nat):Int)from by rw[hbg];simp];exact f8
 rw[am j8];apply aH rfl ((beq_eq_false_iff_ne.2 zo));have hd:=h.drew;have d2:=hd.q2;rw[i7]at d2;have d3:=hd.q3;rw[hbg]at d3;refine zg ?_;apply NX 16 rfl rfl zk zk;refine zg ?_;apply zwG (RV.ld hd.q0 rfl);apply zwG (RV.ld d3 rfl);apply zw (RV.ld d2 rfl);apply zw (cm L2 rfl rfl rfl (m-r.length) m rfl rfl zo hm);apply PK;rw[c8];apply zc call115 (nC r w.drew);rintro v w1 ⟨rfl,l7⟩;have i8:M1 (λ_=>False) O w.drew O w1:=ae (λh=>h) O l7;have f8:=hd.U i8 hj (λh=>h);have j9:=f'.drew.U i8 b0 (λh=>h);have j0:=hR.drew.U i8;have e8:M1 (λq=>q=j\/T<=q) O w O w1:=Pv (i8.mono (λ_ h=>h.elim) (λe=>by rcases e with e|e;exact hj e.symm;omega));have e2:=f8.q2;rw[i7]at e2;have e3:=f8.q3;rw[hbg]at e3
 cases hf:r.findIdx? Av with
 |none=>
  have hi:mV r = -1:=by unfold mV;rw[hf]
  have hM:iw kn r=.bad r.length 4:=by unfold iw;rw[hf]
  rw[hi,hM];refine zg ?_;apply aM rfl rfl;have l8:w1.drew.cell? ⟨rb,2,none⟩=some (nI (m:Int)):=e2;refine zg ?_;apply NX 8 rfl rfl zk zk;refine zg ?_;apply zw (RV.ld l8 rfl);apply PK;apply zc Q3 (bX O w1.drew j rb s (m:Int) 4 hj he f8.drew);rintro v w2 ⟨l5,k2⟩;refine zg ?_;refine cM rfl ⟨O,s.ru,(e8.fgt (S':=λk=>k=j\/k=jr) (λb hb=>.inl (hb.resolve_right (by have:=hT b;omega))) j1).J ((Pv k2).mono (λ_ h=>.inl h) j1),j0.drew.U k2,by decide,?_⟩;rw[show s.bg+(r.length:Int)=(m:Int)from by rw[hbg];omega];exact l5
 |some k=>
  obtain⟨hk,m1,m0⟩:=Mc.1 hf;have hi:mV r=(k:Nat):=by unfold mV;rw[hf]
  rw[hi];have j4:s.l[k+(m-r.length)]? = some (nth r k):=by
   have h1:(s.l.take m)[m-r.length+k]? = r[k]?:=by rw[<-c8,List.getElem?_drop,c8]
   rw[aD hk];exact nL (m:=m) (by rw[Pe,h1];exact Mx hk)
  have f4:(s.l.take (k+(m-r.length))).drop (m-r.length)=r.take k:=by
   rw[<-c8,PU,PT,PS zo,c8,Pe]
  have h5:(s.l.take m).drop (k+(m-r.length)+1)=r.drop (k+1):=by
   rw[<-c8,List.drop_drop,c8];congr 1;omega
  generalize i0:(((nth r k).toNat:Int)==47)=brk;refine zg ?_;apply zFG rfl ((decide_eq_false zo));apply zv (RV.ld e3 rfl);refine zvG (NO rfl rfl (MR zo)) ?_;rw[show(k:Int)+((m-r.length:Nat):Int)=((k+(m-r.length):Nat):Int)from by omega];refine ia (λz:(Nat->Nat)×World×Nat×N3=>[(0,nP rb),(2,nI ((k+(m-r.length):Nat):Int)),(3,.pointer (some ⟨z.2.2.1,0,none⟩))]) (λz:(Nat->Nat)×World×Nat×N3=>z.2.1) (λz:(Nat->Nat)×World×Nat×N3=>Mk z.1 z.2.1 T z.2.2.1 (cL (z.2.2.2,(0,0,nS),brk)).toArray 122/\M1 (λq=>q=j\/T<=q) O w z.1 z.2.1/\NN B z.1 z.2.1/\PostS z.1 z.2.1 j rb s (m-r.length) z.2.2.2 (pR kn (r.take k))) ?_ ?_
  ·intro Qm hN;apply aO (λV=>V.cell? ⟨rb,0,none⟩=some (.string (bs s.l))/\V.cell? ⟨rb,3,none⟩=some (nI ((m-r.length:Nat):Int))) 19 rfl zk;refine zin ⟨f8.drew.q0,e3⟩ λzS=>?_
   apply zrm 0 rfl zS rfl;apply zrm 1 rfl zS rfl
   apply zr 2 rfl zS (λ_=>aq rfl);apply zrf 3 rfl zS rfl
   apply zrf 4 rfl zS rfl;apply zt 5 rfl zS (λw1 e5=>RV.ld e5.2 rfl)
   apply zrm 6 rfl zS rfl;apply zrm 8 rfl zS rfl
   apply zr 9 rfl zS (λ_=>aq rfl);apply zrf 10 rfl zS rfl
   apply zrf 11 rfl zS rfl;apply zt 12 rfl zS (λw1 e5=>RV.ld e5.1 rfl)
   apply zrm 13 rfl zS rfl;apply zr 14 rfl zS (λ_=>bF (c:=nth r k) L2 rfl rfl (k+(m-r.length)) rfl j4)
   apply zr 15 rfl zS (λ_=>RV.eql rfl rfl);rw[i0];refine bK 7 17 zk rfl rfl ?_ ?_
   ·apply zc QG (rW B O w1.drew j rb s (m-r.length) (k+(m-r.length)) j0.drew hj he h2 g0 (j3.U (Pm e8) h2 zo) zo zo hl f8.drew);rintro v w3 ⟨x1,rfl,h4,e4⟩;rw[f4]at e4;refine zg ?_
    apply af (xu (hbg:=hbg) e4);apply zr 16 rfl (xu (hbg:=hbg) e4) (λ_=>MS (cells:=(cL (x1,(0,0,nS),brk)).toArray) J1 (Ns _) rfl rfl)
    apply L3 17 zk rfl;apply aw (j0.drew.U h4) T zo (Ns _) rfl
    intro xb w4 O4 d8 e0 i5 k6;have e1:=e4.U e0 hj zo;refine zg ?_;apply af (xu (hbg:=hbg) e1);apply L3 18 zk rfl;apply zsb (us:=(cL (x1,(0,0,nS),brk)).toArray) d8 (MK _) (kX e4.one rfl);have f9:=d8.setRow (us:=(cL (x1,(0,0,nS),brk)).toArray);have d':M1 (λq=>q=T) O4 w4 O4 (w4.setRow xb (cL (x1,(0,0,nS),brk)).toArray):=L6 zo d8.tag rfl;have e':=e1.U d' hj zo;refine zg ?_;apply af (xu (hbg:=hbg) e');apply Md zk;exact dA (hN ((O4,_,xb,x1)) ⟨f9,(((Pm e8).J (h4.pj g7)).J (e0.pT hj g7 (Mb _))).J (d'.pT hj g7 (Mb _)),i5.U d',e'⟩) ⟨rfl,rfl,rfl,trivial⟩ rfl
   apply aw j0.drew T zo (Ns _) rfl;intro xb w3 O3 g9 h4 g8 m2;have d7:=f8.drew.U h4 hj zo;have f3:=d7.q3;rw[hbg]at f3;refine zg ?_
   apply af ⟨d7.q0,f3⟩;apply L3 7 zk rfl
   apply zc QG (rW B O3 w3 j rb s (m-r.length) (k+(m-r.length)) g8 hj he h2 g0 (j3.U ((Pm e8).J (h4.pT hj g7 (Mb _))) h2 zo) zo zo hl d7);rintro v w4 ⟨x1,rfl,e0,e1⟩;rw[f4]at e1;have d8:=g9.U e0 zo zo;refine zg ?_
   apply af (xu (hbg:=hbg) e1);apply zr 16 rfl (xu (hbg:=hbg) e1) (λ_=>MS (cells:=(cL (x1,(0,0,nS),brk)).toArray) J1 (Ns _) rfl rfl)
   apply L3 18 zk rfl;apply zsb (us:=(cL (x1,(0,0,nS),brk)).toArray) d8 (MK _) (kX e1.one rfl)
   have f9:=d8.setRow (us:=(cL (x1,(0,0,nS),brk)).toArray);have d':M1 (λq=>q=T) O3 w4 O3 (w4.setRow xb (cL (x1,(0,0,nS),brk)).toArray):=L6 zo d8.tag rfl;have e':=e1.U d' hj zo;refine zg ?_;apply af (xu (hbg:=hbg) e');apply Md zk;exact dA (hN ((O3,_,xb,x1)) ⟨f9,(((Pm e8).J (h4.pT hj g7 (Mb _))).J (e0.pj g7)).J (d'.pT hj g7 (Mb _)),(g8.U e0).U d',e'⟩) ⟨rfl,rfl,rfl,trivial⟩ rfl
  rintro⟨O3,w3,xb,x1⟩ ⟨g9,g3,g8,e4⟩;dsimp only at g9 g3 g8 e4 ⊢;have f6:=f'.U g3 b0 (λe=>by rcases e with e|e;exact e7 e.symm;omega);have hx1o:=e4.one;have g4:M1 (λq=>q=j\/q=jr\/T<=q) O w O3 w3:=g3.mono (λ_ h=>h.elim .inl (λh=>.inr (.inr h))) b2;refine zg ?_
  cases g':pR kn (r.take k)with
  |bad p e=>
   have hM:iw kn r=.bad p e:=by unfold iw;rw[hf];dsimp only;rw[g']
   rw[hM];rw[g']at e4;obtain⟨rfl,c9,d7⟩:=e4;replace d7:Mk O3 w3 j rb ({s with bad:=((m-r.length:Nat):Int)+(p:Int),e:=e}:LS).cells 114:=d7;refine zg ?_;refine zvG (RV.ld d7.q5 rfl) ?_;apply zFG rfl ((by simpa using c9));apply zv (ai (us:=bu ((0,0,nS):N3)) (ke g9) (Ms _) (M9 _) rfl);apply zc Qq (lu (.mk 0 0 []) (0,0,nS) w3 (Ql _ _ _ _));rintro v w4 ⟨rfl,k6⟩;have i1:M1 (λ_=>False) O3 w3 O3 w4:=ae (λh=>h) O3 k6;have k1:=d7.U i1 hj (λh=>h);have d8:=g9.U i1 zo (λh=>h);have e6:=f6.U i1 b0 (λh=>h);have i5:=g8.U i1;have c5:=g4.J (i1.mono (λ_ h=>h.elim) b2);refine zg ?_;refine zvG (RV.ld k1.q5 rfl) ?_;apply ay (d:=98) rfl (b':=false) ((by simpa using c9));obtain⟨x1,hx1e⟩:∃x1:N3,x1=(0,0,nS):=⟨_,rfl⟩
   obtain⟨x2,hx2e⟩:∃x2:N3,x2=(0,0,nS):=⟨_,rfl⟩
   have hx2o:x2.2.2.oneCell'=true:=by rw[hx2e];rfl
   have hx1o:x1.2.2.oneCell'=true:=by rw[hx1e];rfl
   have j2:Mk O3 w4 T xb (cL (x1,x2,brk)).toArray 122:=by rw[hx1e,hx2e];exact d8
   have c':=(MX k1)
   have c6:=(MX j2)
   have a':=(P5 e6)
   have e9:=(Pn i5)
   refine zg ?_;apply zFG rfl rfl
   apply aO (λV=>∀(q:Nat) (u:ix),(cL (x1,x2,brk))[q]? = some u->V.cell? (nA xb q)=some u) 13 rfl zk;refine zin c6.V λzS=>?_
   apply zrm 0 rfl zS rfl;apply zrm 1 rfl zS rfl
   apply zr 2 rfl zS (λ_=>aq rfl);apply zrf 3 rfl zS rfl
   apply zrf 4 rfl zS rfl;apply zt 6 rfl zS (λw1 e5=>ai (us:=cL (x1,x2,brk)) e5 (Nz _) (MK _) rfl)
   refine bK 5 7 zk rfl rfl ?_ ?_
   ·refine zvG (RV.ld c'.q8 rfl) ?_;apply af c6.V
    apply L3 7 zk rfl;apply bq elR (enc:=cL) (x1,x2,brk) rfl rfl rfl zd rfl
    intro w9 h9 d5;have a5:M1 (λ_=>False) O3 (MO w4) O3 w9:=ae (λh=>h) O3 d5;have c7:=c'.U a5 hj (λh=>h);have b9:=c6.U a5 zo (λh=>h);have a7:=a'.U a5 b0 (λh=>h);have d4:=e9.U a5;have b6:=(c5.drew).J (a5.mono (λ_ h=>h.elim) b2);refine zg ?_;apply af b9.V;have a8:∀u∈[(x1,x2,brk)],∀c∈cL u,c.oneCell'=true:=λu hu=>by
     rw[L0.1 hu];exact cY hx1o hx2o
    apply L3 8 zk rfl;apply aF elR a7 d4 h9 (by simp) rfl rfl (λ_ _=>rfl) a8 (by simp;omega) (by simp;omega) zo rfl
    intro a2 b1 O10 a0 a3 b8;have a4:=Mf c7 a3 hj zo;have a6:=Mf b9 a3 zo zo;have b4:=a0.one;refine zg ?_;refine zaf a6.V λzS=>?_
    apply zr 9 rfl zS (λ_=>aq rfl);apply zrf 10 rfl zS rfl
    apply zrf 11 rfl zS rfl;apply L3 12 zk rfl
    apply ao (j:=8) a4 rfl (Np _) b4 rfl rfl rfl;have b5:=a4.s_ru a2;have a1:M1 (λq=>q=j) O10 b1 O10 (b1.setCell ⟨rb,8,none⟩ a2):=Mm (λe=>hj e.symm) a4.tag rfl;have b3:=a6.U a1 zo zo;have a9:=a0.U a1 b0 (λe=>e7 e.symm);have b7:=b8.U a1;refine zg ?_
    apply af b3.V;apply Md zk
    have d1:M1 (λq=>q=j\/q=jr\/T<=q) O w O10 (b1.setCell ⟨rb,8,none⟩ a2):=(b6.J (a3.mono (λ_ h=>.inr (.inl h)) b2)).J (a1.mono (λ_ h=>.inl h) b2);refine aK rfl ⟨lowT O10 T,a2,d1.lowT hT (λb hb=>by have:=hT b;rcases hb with h|h|h;exact .inl h;exact .inr h;omega) (λe=>by rcases e with e|e;exact hj e.symm;exact b0 e.symm),b7.lowT T,?_⟩;exact⟨c9,by rw[show s.bg+(p:Int)=((m-r.length:Nat):Int)+(p:Int)from by rw[hbg]];exact b5.lowT f7⟩
   apply bq elR (enc:=cL) (x1,x2,brk) rfl rfl rfl zd rfl;intro w9 h9 d5;have a5:M1 (λ_=>False) O3 (MO w4) O3 w9:=ae (λh=>h) O3 d5;have c7:=c'.U a5 hj (λh=>h);have b9:=c6.U a5 zo (λh=>h);have a7:=a'.U a5 b0 (λh=>h);have d4:=e9.U a5;have b6:=(c5.drew).J (a5.mono (λ_ h=>h.elim) b2);refine zg ?_
   apply af b9.V;apply L3 5 zk rfl
   refine zvG (RV.ld c7.q8 rfl) ?_;apply af b9.V
   have a8:∀u∈[(x1,x2,brk)],∀c∈cL u,c.oneCell'=true:=λu hu=>by
    rw[L0.1 hu];exact cY hx1o hx2o
   apply L3 8 zk rfl;apply aF elR a7 d4 h9 (by simp) rfl rfl (λ_ _=>rfl) a8 (by simp;omega) (by simp;omega) zo rfl
   intro a2 b1 O10 a0 a3 b8;have a4:=Mf c7 a3 hj zo;have a6:=Mf b9 a3 zo zo;have b4:=a0.one;refine zg ?_;refine zaf a6.V λzS=>?_
   apply zr 9 rfl zS (λ_=>aq rfl);apply zrf 10 rfl zS rfl
   apply zrf 11 rfl zS rfl;apply L3 12 zk rfl
   apply ao (j:=8) a4 rfl (Np _) b4 rfl rfl rfl;have b5:=a4.s_ru a2;have a1:M1 (λq=>q=j) O10 b1 O10 (b1.setCell ⟨rb,8,none⟩ a2):=Mm (λe=>hj e.symm) a4.tag rfl;have b3:=a6.U a1 zo zo;have a9:=a0.U a1 b0 (λe=>e7 e.symm);have b7:=b8.U a1;refine zg ?_
   apply af b3.V;apply Md zk
   have d1:M1 (λq=>q=j\/q=jr\/T<=q) O w O10 (b1.setCell ⟨rb,8,none⟩ a2):=(b6.J (a3.mono (λ_ h=>.inr (.inl h)) b2)).J (a1.mono (λ_ h=>.inl h) b2);refine aK rfl ⟨lowT O10 T,a2,d1.lowT hT (λb hb=>by have:=hT b;rcases hb with h|h|h;exact .inl h;exact .inr h;omega) (λe=>by rcases e with e|e;exact hj e.symm;exact b0 e.symm),b7.lowT T,?_⟩;exact⟨c9,by rw[show s.bg+(p:Int)=((m-r.length:Nat):Int)+(p:Int)from by rw[hbg]];exact b5.lowT f7⟩
  |ok a=>
   rw[g']at e4;obtain⟨l2,d7⟩:=e4;replace d7:Mk O3 w3 j rb s.cells 114:=d7;have g2:=d7.q2;rw[i7]at g2;have g5:=d7.q5;rw[he]at g5;refine zg ?_;refine zvG (RV.ld g5 rfl) ?_;apply zTG rfl rfl;refine zvG (NO rfl rfl (MR zo)) ?_;apply zv (RV.ld g2 rfl);rw[show((k+(m-r.length):Nat):Int)+1=((k+(m-r.length)+1:Nat):Int)from by omega];apply zc QG (rW B O3 w3 j rb s (k+(m-r.length)+1) m g8 hj he h2 g0 (j3.U g4 h2 zo) zo hm hl d7);rintro v w4 ⟨x2,rfl,e0,e1⟩;rw[h5]at e1;have hx2o:=e1.one;have d8:=g9.U e0 zo zo;have e6:=f6.U e0 b0 (λe=>e7 e.symm);have i5:=g8.U e0;refine zg ?_;apply lT 3 (us:=#[nI x2.1,nI x2.2.1,x2.2.2]) d8 (Nat.le_of_ble_eq_true rfl) (M9 _) (cj hx2o) rfl rfl rfl;rw[show((cL (x1,(0,0,nS),brk)).toArray.toList.take 3++(#[nI x2.1,nI x2.2.1,x2.2.2]:Array ix).toList++(cL (x1,(0,0,nS),brk)).toArray.toList.drop (3+(#[nI x2.1,nI x2.2.1,x2.2.2]:Array ix).size)).toArray=(cL (x1,x2,brk)).toArray from rfl];have f9:=d8.setRow (us:=(cL (x1,x2,brk)).toArray);have d':M1 (λq=>q=T) O3 w4 O3 (w4.setRow xb (cL (x1,x2,brk)).toArray):=L6 zo d8.tag rfl;have e':=e1.U d' hj zo;have f5:=e6.U d' b0 zo;have k4:=i5.U d';have i3:=(g4.J (e0.mono (λ_ h=>.inl h) b2)).J (d'.mono (λ_ h=>.inr (.inr (Nat.le_of_eq h.symm))) b2);generalize w4.setRow xb (cL (x1,x2,brk)).toArray=w5 at *;refine zg ?_
   apply zv (ai (us:=bu x2) (ke f9) (Ms _) (M9 _) rfl)
   cases h6:pR kn (r.drop (k+1))with
   |bad p e=>
    have hM:iw kn r=.bad (k+1+p) e:=by unfold iw;rw[hf];dsimp only;rw[g'];dsimp only;rw[h6]
    rw[hM];rw[h6]at e';obtain⟨hx2e,c9,g1⟩:=e';replace g1:Mk O3 w5 j rb ({s with bad:=((k+(m-r.length)+1:Nat):Int)+(p:Int),e:=e}:LS).cells 114:=g1;apply zc Qq (lu (.mk 0 0 []) x2 w5 (by rw[hx2e];exact Ql _ _ _ _));rintro v w6 ⟨rfl,j7⟩;have d9:M1 (λ_=>False) O3 w5 O3 w6:=ae (λh=>h) O3 j7;have h3:=g1.U d9 hj (λh=>h);have i6:=f9.U d9 zo (λh=>h);have d6:=f5.U d9 b0 (λh=>h);have i':=k4.U d9;have c5:=i3.J (d9.mono (λ_ h=>h.elim) b2);refine zg ?_;refine zvG (RV.ld h3.q5 rfl) ?_;apply ay (d:=98) rfl (b':=false) ((by simpa using c9));have c':=(MX h3)
    have c6:=(MX i6)
    have a':=(P5 d6)
    have e9:=(Pn i')
    refine zg ?_;apply zFG rfl rfl
    apply aO (λV=>∀(q:Nat) (u:ix),(cL (x1,x2,brk))[q]? = some u->V.cell? (nA xb q)=some u) 13 rfl zk;refine zin c6.V λzS=>?_
    apply zrm 0 rfl zS rfl;apply zrm 1 rfl zS rfl
    apply zr 2 rfl zS (λ_=>aq rfl);apply zrf 3 rfl zS rfl
    apply zrf 4 rfl zS rfl;apply zt 6 rfl zS (λw1 e5=>ai (us:=cL (x1,x2,brk)) e5 (Nz _) (MK _) rfl)
    refine bK 5 7 zk rfl rfl ?_ ?_
    ·refine zvG (RV.ld c'.q8 rfl) ?_;apply af c6.V
     apply L3 7 zk rfl;apply bq elR (enc:=cL) (x1,x2,brk) rfl rfl rfl zd rfl
     intro w9 h9 d5;have a5:M1 (λ_=>False) O3 (MO w6) O3 w9:=ae (λh=>h) O3 d5;have c7:=c'.U a5 hj (λh=>h);have b9:=c6.U a5 zo (λh=>h);have a7:=a'.U a5 b0 (λh=>h);have d4:=e9.U a5;have b6:=(c5.drew).J (a5.mono (λ_ h=>h.elim) b2);refine zg ?_;apply af b9.V;have a8:∀u∈[(x1,x2,brk)],∀c∈cL u,c.oneCell'=true:=λu hu=>by
      rw[L0.1 hu];exact cY hx1o hx2o
     apply L3 8 zk rfl;apply aF elR a7 d4 h9 (by simp) rfl rfl (λ_ _=>rfl) a8 (by simp;omega) (by simp;omega) zo rfl
     intro a2 b1 O10 a0 a3 b8;have a4:=Mf c7 a3 hj zo;have a6:=Mf b9 a3 zo zo;have b4:=a0.one;refine zg ?_;refine zaf a6.V λzS=>?_
     apply zr 9 rfl zS (λ_=>aq rfl);apply zrf 10 rfl zS rfl
     apply zrf 11 rfl zS rfl;apply L3 12 zk rfl
     apply ao (j:=8) a4 rfl (Np _) b4 rfl rfl rfl;have b5:=a4.s_ru a2;have a1:M1 (λq=>q=j) O10 b1 O10 (b1.setCell ⟨rb,8,none⟩ a2):=Mm (λe=>hj e.symm) a4.tag rfl;have b3:=a6.U a1 zo zo;have a9:=a0.U a1 b0 (λe=>e7 e.symm);have b7:=b8.U a1;refine zg ?_
     apply af b3.V;apply Md zk
     have d1:M1 (λq=>q=j\/q=jr\/T<=q) O w O10 (b1.setCell ⟨rb,8,none⟩ a2):=(b6.J (a3.mono (λ_ h=>.inr (.inl h)) b2)).J (a1.mono (λ_ h=>.inl h) b2);refine aK rfl ⟨lowT O10 T,a2,d1.lowT hT (λb hb=>by have:=hT b;rcases hb with h|h|h;exact .inl h;exact .inr h;omega) (λe=>by rcases e with e|e;exact hj e.symm;exact b0 e.symm),b7.lowT T,?_⟩;exact⟨c9,by rw[show s.bg+((k+1+p:Nat):Int)=((k+(m-r.length)+1:Nat):Int)+(p:Int)from by rw[hbg];omega];exact b5.lowT f7⟩
    apply bq elR (enc:=cL) (x1,x2,brk) rfl rfl rfl zd rfl;intro w9 h9 d5;have a5:M1 (λ_=>False) O3 (MO w6) O3 w9:=ae (λh=>h) O3 d5;have c7:=c'.U a5 hj (λh=>h);have b9:=c6.U a5 zo (λh=>h);have a7:=a'.U a5 b0 (λh=>h);have d4:=e9.U a5;have b6:=(c5.drew).J (a5.mono (λ_ h=>h.elim) b2);refine zg ?_
    apply af b9.V;apply L3 5 zk rfl
    refine zvG (RV.ld c7.q8 rfl) ?_;apply af b9.V
    have a8:∀u∈[(x1,x2,brk)],∀c∈cL u,c.oneCell'=true:=λu hu=>by
     rw[L0.1 hu];exact cY hx1o hx2o
    apply L3 8 zk rfl;apply aF elR a7 d4 h9 (by simp) rfl rfl (λ_ _=>rfl) a8 (by simp;omega) (by simp;omega) zo rfl
    intro a2 b1 O10 a0 a3 b8;have a4:=Mf c7 a3 hj zo;have a6:=Mf b9 a3 zo zo;have b4:=a0.one;refine zg ?_;refine zaf a6.V λzS=>?_
    apply zr 9 rfl zS (λ_=>aq rfl);apply zrf 10 rfl zS rfl
    apply zrf 11 rfl zS rfl;apply L3 12 zk rfl
    apply ao (j:=8) a4 rfl (Np _) b4 rfl rfl rfl;have b5:=a4.s_ru a2;have a1:M1 (λq=>q=j) O10 b1 O10 (b1.setCell ⟨rb,8,none⟩ a2):=Mm (λe=>hj e.symm) a4.tag rfl;have b3:=a6.U a1 zo zo;have a9:=a0.U a1 b0 (λe=>e7 e.symm);have b7:=b8.U a1;refine zg ?_
    apply af b3.V;apply Md zk
    have d1:M1 (λq=>q=j\/q=jr\/T<=q) O w O10 (b1.setCell ⟨rb,8,none⟩ a2):=(b6.J (a3.mono (λ_ h=>.inr (.inl h)) b2)).J (a1.mono (λ_ h=>.inl h) b2);refine aK rfl ⟨lowT O10 T,a2,d1.lowT hT (λb hb=>by have:=hT b;rcases hb with h|h|h;exact .inl h;exact .inr h;omega) (λe=>by rcases e with e|e;exact hj e.symm;exact b0 e.symm),b7.lowT T,?_⟩;exact⟨c9,by rw[show s.bg+((k+1+p:Nat):Int)=((k+(m-r.length)+1:Nat):Int)+(p:Int)from by rw[hbg];omega];exact b5.lowT f7⟩
   |ok b=>
    rw[h6]at e';obtain⟨h8,g1⟩:=e';replace g1:Mk O3 w5 j rb s.cells 114:=g1;apply zc Qq (lu b x2 w5 h8.zero);rintro v w6 ⟨rfl,j7⟩;have d9:M1 (λ_=>False) O3 w5 O3 w6:=ae (λh=>h) O3 j7;have h3:=g1.U d9 hj (λh=>h);have i6:=f9.U d9 zo (λh=>h);have d6:=f5.U d9 b0 (λh=>h);have i':=k4.U d9;have i2:=i3.J (d9.mono (λ_ h=>h.elim) b2);have k0:=((l2.U e0).U d').U d9;have j':=h8.U d9;have g6:=h3.q5;rw[he]at g6;refine zg ?_;refine zvG (RV.ld g6 rfl) ?_;apply ay (d:=98) rfl (b':=true) rfl;refine zg ?_
    by_cases h0:du b=0
    ·have hM:iw kn r=.ok (a,b,brk):=by unfold iw;rw[hf];dsimp only;rw[g'];dsimp only;rw[h6];dsimp only;rw[am (by simpa using h0),i0]
     rw[hM];have c5:=i2;apply aH rfl ((by rw[h0];rfl));have c':=(MX h3)
     have c6:=(MX i6)
     have a':=(P5 d6)
     have e9:=(Pn i')
     refine zg ?_;apply aO (λV=>∀(q:Nat) (u:ix),(cL (x1,x2,brk))[q]? = some u->V.cell? (nA xb q)=some u) 13 rfl zk
     refine zin c6.V λzS=>?_
     apply zrm 0 rfl zS rfl;apply zrm 1 rfl zS rfl
     apply zr 2 rfl zS (λ_=>aq rfl);apply zrf 3 rfl zS rfl
     apply zrf 4 rfl zS rfl;apply zt 6 rfl zS (λw1 e5=>ai (us:=cL (x1,x2,brk)) e5 (Nz _) (MK _) rfl)
     refine bK 5 7 zk rfl rfl ?_ ?_
     ·refine zvG (RV.ld c'.q8 rfl) ?_;apply af c6.V
      apply L3 7 zk rfl;apply bq elR (enc:=cL) (x1,x2,brk) rfl rfl rfl zd rfl
      intro w9 h9 d5;have a5:M1 (λ_=>False) O3 (MO w6) O3 w9:=ae (λh=>h) O3 d5;have c7:=c'.U a5 hj (λh=>h);have b9:=c6.U a5 zo (λh=>h);have a7:=a'.U a5 b0 (λh=>h);have d4:=e9.U a5;have b6:=(c5.drew).J (a5.mono (λ_ h=>h.elim) b2);refine zg ?_;apply af b9.V;have a8:∀u∈[(x1,x2,brk)],∀c∈cL u,c.oneCell'=true:=λu hu=>by
       rw[L0.1 hu];exact cY hx1o hx2o
      apply L3 8 zk rfl;apply aF elR a7 d4 h9 (by simp) rfl rfl (λ_ _=>rfl) a8 (by simp;omega) (by simp;omega) zo rfl
      intro a2 b1 O10 a0 a3 b8;have a4:=Mf c7 a3 hj zo;have a6:=Mf b9 a3 zo zo;have b4:=a0.one;refine zg ?_;refine zaf a6.V λzS=>?_
      apply zr 9 rfl zS (λ_=>aq rfl);apply zrf 10 rfl zS rfl
      apply zrf 11 rfl zS rfl;apply L3 12 zk rfl
      apply ao (j:=8) a4 rfl (Np _) b4 rfl rfl rfl;have b5:=a4.s_ru a2;have a1:M1 (λq=>q=j) O10 b1 O10 (b1.setCell ⟨rb,8,none⟩ a2):=Mm (λe=>hj e.symm) a4.tag rfl;have b3:=a6.U a1 zo zo;have a9:=a0.U a1 b0 (λe=>e7 e.symm);have b7:=b8.U a1;refine zg ?_
      apply af b3.V;apply Md zk
      have d1:M1 (λq=>q=j\/q=jr\/T<=q) O w O10 (b1.setCell ⟨rb,8,none⟩ a2):=(b6.J (a3.mono (λ_ h=>.inr (.inl h)) b2)).J (a1.mono (λ_ h=>.inl h) b2);refine aK rfl ⟨lowT O10 T,a2,d1.lowT hT (λb hb=>by have:=hT b;rcases hb with h|h|h;exact .inl h;exact .inr h;omega) (λe=>by rcases e with e|e;exact hj e.symm;exact b0 e.symm),b7.lowT T,?_⟩;exact⟨(x1,x2,brk),a9.lowT h',⟨((((k0.drew).U a5).U a3).U a1).weak (λb e=>lr e),((((j'.drew).U a5).U a3).U a1).weak (λb e=>lr e),rfl⟩,b5.lowT f7⟩
     apply bq elR (enc:=cL) (x1,x2,brk) rfl rfl rfl zd rfl;intro w9 h9 d5;have a5:M1 (λ_=>False) O3 (MO w6) O3 w9:=ae (λh=>h) O3 d5;have c7:=c'.U a5 hj (λh=>h);have b9:=c6.U a5 zo (λh=>h);have a7:=a'.U a5 b0 (λh=>h);have d4:=e9.U a5;have b6:=(c5.drew).J (a5.mono (λ_ h=>h.elim) b2);refine zg ?_
     apply af b9.V;apply L3 5 zk rfl
     refine zvG (RV.ld c7.q8 rfl) ?_;apply af b9.V
     have a8:∀u∈[(x1,x2,brk)],∀c∈cL u,c.oneCell'=true:=λu hu=>by
      rw[L0.1 hu];exact cY hx1o hx2o
     apply L3 8 zk rfl;apply aF elR a7 d4 h9 (by simp) rfl rfl (λ_ _=>rfl) a8 (by simp;omega) (by simp;omega) zo rfl
     intro a2 b1 O10 a0 a3 b8;have a4:=Mf c7 a3 hj zo;have a6:=Mf b9 a3 zo zo;have b4:=a0.one;refine zg ?_;refine zaf a6.V λzS=>?_
     apply zr 9 rfl zS (λ_=>aq rfl);apply zrf 10 rfl zS rfl
     apply zrf 11 rfl zS rfl;apply L3 12 zk rfl
     apply ao (j:=8) a4 rfl (Np _) b4 rfl rfl rfl;have b5:=a4.s_ru a2;have a1:M1 (λq=>q=j) O10 b1 O10 (b1.setCell ⟨rb,8,none⟩ a2):=Mm (λe=>hj e.symm) a4.tag rfl;have b3:=a6.U a1 zo zo;have a9:=a0.U a1 b0 (λe=>e7 e.symm);have b7:=b8.U a1;refine zg ?_
     apply af b3.V;apply Md zk
     have d1:M1 (λq=>q=j\/q=jr\/T<=q) O w O10 (b1.setCell ⟨rb,8,none⟩ a2):=(b6.J (a3.mono (λ_ h=>.inr (.inl h)) b2)).J (a1.mono (λ_ h=>.inl h) b2);refine aK rfl ⟨lowT O10 T,a2,d1.lowT hT (λb hb=>by have:=hT b;rcases hb with h|h|h;exact .inl h;exact .inr h;omega) (λe=>by rcases e with e|e;exact hj e.symm;exact b0 e.symm),b7.lowT T,?_⟩;exact⟨(x1,x2,brk),a9.lowT h',⟨((((k0.drew).U a5).U a3).U a1).weak (λb e=>lr e),((((j'.drew).U a5).U a3).U a1).weak (λb e=>lr e),rfl⟩,b5.lowT f7⟩
    have hM:iw kn r=.bad (k+1) (du b):=by unfold iw;rw[hf];dsimp only;rw[g'];dsimp only;rw[h6];dsimp only;rw[ap (by simpa using h0)]
    rw[hM];apply zTG rfl ((by simpa using h0));refine zvG (NO rfl rfl (MR zo)) ?_;apply zc Q3 (bX O3 w6 j rb s (((k+(m-r.length):Nat):Int)+1) (du b) hj he h3);rintro v w7 ⟨l4,i9⟩;have c5:=i2.J (i9.mono (λ_ h=>.inl h) b2);have c':=(MX l4)
    have c6:=(MX (i6.U i9 zo zo))
    have a':=(P5 (d6.U i9 b0 (λe=>e7 e.symm)))
    have e9:=(Pn (i'.U i9))
    refine zg ?_;apply aO (λV=>∀(q:Nat) (u:ix),(cL (x1,x2,brk))[q]? = some u->V.cell? (nA xb q)=some u) 13 rfl zk
    refine zin c6.V λzS=>?_
    apply zrm 0 rfl zS rfl;apply zrm 1 rfl zS rfl
    apply zr 2 rfl zS (λ_=>aq rfl);apply zrf 3 rfl zS rfl
    apply zrf 4 rfl zS rfl;apply zt 6 rfl zS (λw1 e5=>ai (us:=cL (x1,x2,brk)) e5 (Nz _) (MK _) rfl)
    refine bK 5 7 zk rfl rfl ?_ ?_
    ·refine zvG (RV.ld c'.q8 rfl) ?_;apply af c6.V
     apply L3 7 zk rfl;apply bq elR (enc:=cL) (x1,x2,brk) rfl rfl rfl zd rfl
     intro w9 h9 d5;have a5:M1 (λ_=>False) O3 (MO w7) O3 w9:=ae (λh=>h) O3 d5;have c7:=c'.U a5 hj (λh=>h);have b9:=c6.U a5 zo (λh=>h);have a7:=a'.U a5 b0 (λh=>h);have d4:=e9.U a5;have b6:=(c5.drew).J (a5.mono (λ_ h=>h.elim) b2);refine zg ?_;apply af b9.V;have a8:∀u∈[(x1,x2,brk)],∀c∈cL u,c.oneCell'=true:=λu hu=>by
      rw[L0.1 hu];exact cY hx1o hx2o
     apply L3 8 zk rfl;apply aF elR a7 d4 h9 (by simp) rfl rfl (λ_ _=>rfl) a8 (by simp;omega) (by simp;omega) zo rfl
     intro a2 b1 O10 a0 a3 b8;have a4:=Mf c7 a3 hj zo;have a6:=Mf b9 a3 zo zo;have b4:=a0.one;refine zg ?_;refine zaf a6.V λzS=>?_
     apply zr 9 rfl zS (λ_=>aq rfl);apply zrf 10 rfl zS rfl
     apply zrf 11 rfl zS rfl;apply L3 12 zk rfl
     apply ao (j:=8) a4 rfl (Np _) b4 rfl rfl rfl;have b5:=a4.s_ru a2;have a1:M1 (λq=>q=j) O10 b1 O10 (b1.setCell ⟨rb,8,none⟩ a2):=Mm (λe=>hj e.symm) a4.tag rfl;have b3:=a6.U a1 zo zo;have a9:=a0.U a1 b0 (λe=>e7 e.symm);have b7:=b8.U a1;refine zg ?_
     apply af b3.V;apply Md zk
     have d1:M1 (λq=>q=j\/q=jr\/T<=q) O w O10 (b1.setCell ⟨rb,8,none⟩ a2):=(b6.J (a3.mono (λ_ h=>.inr (.inl h)) b2)).J (a1.mono (λ_ h=>.inl h) b2);refine aK rfl ⟨lowT O10 T,a2,d1.lowT hT (λb hb=>by have:=hT b;rcases hb with h|h|h;exact .inl h;exact .inr h;omega) (λe=>by rcases e with e|e;exact hj e.symm;exact b0 e.symm),b7.lowT T,?_⟩;exact⟨h0,by rw[show s.bg+((k+1:Nat):Int)=((k+(m-r.length):Nat):Int)+1 from by rw[hbg];omega];exact b5.lowT f7⟩
    apply bq elR (enc:=cL) (x1,x2,brk) rfl rfl rfl zd rfl;intro w9 h9 d5;have a5:M1 (λ_=>False) O3 (MO w7) O3 w9:=ae (λh=>h) O3 d5;have c7:=c'.U a5 hj (λh=>h);have b9:=c6.U a5 zo (λh=>h);have a7:=a'.U a5 b0 (λh=>h);have d4:=e9.U a5;have b6:=(c5.drew).J (a5.mono (λ_ h=>h.elim) b2);refine zg ?_
    apply af b9.V;apply L3 5 zk rfl
    refine zvG (RV.ld c7.q8 rfl) ?_;apply af b9.V
    have a8:∀u∈[(x1,x2,brk)],∀c∈cL u,c.oneCell'=true:=λu hu=>by
     rw[L0.1 hu];exact cY hx1o hx2o
    apply L3 8 zk rfl;apply aF elR a7 d4 h9 (by simp) rfl rfl (λ_ _=>rfl) a8 (by simp;omega) (by simp;omega) zo rfl
    intro a2 b1 O10 a0 a3 b8;have a4:=Mf c7 a3 hj zo;have a6:=Mf b9 a3 zo zo;have b4:=a0.one;refine zg ?_;refine zaf a6.V λzS=>?_
    apply zr 9 rfl zS (λ_=>aq rfl);apply zrf 10 rfl zS rfl
    apply zrf 11 rfl zS rfl;apply L3 12 zk rfl
    apply ao (j:=8) a4 rfl (Np _) b4 rfl rfl rfl;have b5:=a4.s_ru a2;have a1:M1 (λq=>q=j) O10 b1 O10 (b1.setCell ⟨rb,8,none⟩ a2):=Mm (λe=>hj e.symm) a4.tag rfl;have b3:=a6.U a1 zo zo;have a9:=a0.U a1 b0 (λe=>e7 e.symm);have b7:=b8.U a1;refine zg ?_
    apply af b3.V;apply Md zk
    have d1:M1 (λq=>q=j\/q=jr\/T<=q) O w O10 (b1.setCell ⟨rb,8,none⟩ a2):=(b6.J (a3.mono (λ_ h=>.inr (.inl h)) b2)).J (a1.mono (λ_ h=>.inl h) b2);refine aK rfl ⟨lowT O10 T,a2,d1.lowT hT (λb hb=>by have:=hT b;rcases hb with h|h|h;exact .inl h;exact .inr h;omega) (λe=>by rcases e with e|e;exact hj e.symm;exact b0 e.symm),b7.lowT T,?_⟩;exact⟨h0,by rw[show s.bg+((k+1:Nat):Int)=((k+(m-r.length):Nat):Int)+1 from by rw[hbg];omega];exact b5.lowT f7⟩
end
def bG(seg:List UInt8):List UInt8:=seg.takeWhile (λb=>!(b==35))
def bn(seg:List UInt8):List UInt8:=az (bG seg)
def Bl(h:seg.findIdx? (· == 35)=some k):bG seg=seg.take k/\k<=seg.length:=by
 obtain⟨hk,h1,h2⟩:=Mc.1 h;refine⟨?_,zo⟩;unfold bG
 conv=>lhs;rw[(Nm k seg).symm]
 rw[List.takeWhile_append_of_pos]
 ·rw[N4 hk,NV (by simpa using h1),M8]
 intro x hx;obtain⟨i,hi,rfl⟩:=Pp hx;simp only[PC]at hi;have:=h2 i zo;simp only[Pz];simpa using this
def eP{p:UInt8->Bool}:∀ {l:List UInt8},(∀x∈l,p x=true)->l.takeWhile p=l
 |[],_=>rfl
 |a::l,h=>by rw[List.takeWhile_cons_of_pos (h a (by simp)),eP λx hx=>h x (by simp[hx])]
def Bm(h:seg.findIdx? (· == 35)=none):bG seg=seg:=by
 exact eP λx hx=>by simpa using (Mv.1 h) x hx
def dI(r:List UInt8):List UInt8:=r.takeWhile (λb=>!(b==10))
def RowsT(O:Nat->Nat)(w:ln)(jr:Nat)(rv:ix)(ts:List R3)(xs:List X3):Prop:=
 Nv cL 122 7 O w jr rv xs/\ts.length=xs.length/\xs.length<=40/\∀i,i<xs.length->Rt O w (nth ts i) (nth xs i)
def RowsT.push{jr:Nat}{rv:ix}{ts:List R3}{xs:List X3}{t:R3}{x:X3}(hr:Nv cL 122 7 O w jr rv (xs++[x]))(h1:ts.length=xs.length)(h2:xs.length<40)(h3:∀i,i<xs.length->Rt O w (nth ts i) (nth xs i))(h4:Rt O w t x):RowsT O w jr rv (ts++[t]) (xs++[x]):=by
 refine⟨hr,by simp[h1],by simp;omega,λi hi=>?_⟩;simp only[ME,L5]at hi
 by_cases e:i<xs.length
 ·rw[aD (by simp;omega),aD (by simp;omega),N8 zo,N8 e,<-aD zo,<-aD e];exact h3 i e
 obtain rfl:i=xs.length:=zo;rw[aD (by simp;omega),aD (by simp),NY zo,NY zo];simp[h1];exact h4
def AV(h:r.findIdx? (· == 10)=some k):(dI r).length=k:=by
 obtain⟨hk,h1,h2⟩:=Mc.1 h;unfold dI;have e2:(r.take k).takeWhile (λb=>!(b==10))=r.take k:=eP λx hx=>by
  obtain⟨i,hi,rfl⟩:=Pp hx;simp only[PC]at hi;have:=h2 i zo;simp only[Pz];simpa using this
 conv=>lhs;rw[(Nm k r).symm]
 rw[List.takeWhile_append,e2,ap rfl,N4 hk,NV (by simpa using h1),M8];simp;omega
def AW(h:r.findIdx? (· == 10)=none):dI r=r:=
 eP λx hx=>by simpa using Mv.1 h x hx
def vf(l:List UInt8)(fr:Nat):(l.take (fr+(dI (l.drop fr)).length)).drop fr=dI (l.drop fr):=by
 have h1:dI (l.drop fr)=(l.drop fr).take (dI (l.drop fr)).length:=List.prefix_iff_eq_take.1 (List.takeWhile_prefix _)
 conv=>rhs;rw[h1]
 rw[PU]
abbrev D4(ig kp ru:ix):ix:=.agg #[ig,kp,ru]
abbrev tF:ix:=nS
def KM:cI M5 56 #[(0,1),(1,1),(2,1)]:=⟨_,underlying56,λw=>by kernel_rfl⟩
def KZ:cI M5 111 #[(0,1),(1,1),(2,1),(3,1),(4,1),(5,1)]:=⟨_,underlying111,λw=>by kernel_rfl⟩
def KY:cI M5 114 #[(0,6),(6,3),(9,1),(10,1),(11,1)]:=⟨_,underlying114,λw=>by kernel_rfl⟩
def BG{a b c:ix}(h6:w.cell? ⟨rb,6,none⟩=some a)(h7:w.cell? ⟨rb,7,none⟩=some b)(h8:w.cell? ⟨rb,8,none⟩=some c):∀(q:Nat) (u:ix),[a,b,c][q]? = some u->w.cell? ((nA rb 6).add q)=some u:=λq u hu=>by
 have e:((nA rb 6).add q)=⟨rb,6+q,none⟩:=by
  simp only[Nr];(repeat' split)<;>simp_all
 rw[e]
 match q,hu with
 |0,hu=>obtain rfl:=Ny hu;exact h6
 |1,hu=>obtain rfl:=Ny hu;exact h7
 |2,hu=>obtain rfl:=Ny hu;exact h8
def Gz(l:List Int)(i:Nat):Bool:=(decide (nth l i<0)||decide (36<=nth l i))||(decide ((0:Int)<(i:Int))&&decide (nth l i<=nth l (i-1)))
def lg(l:List Int):Bool:=!(jy (Gz l) l.length)
def sg(t:R3):Bool:=(bz t.1&&bz t.2.1)&&(du t.2.1==0)
def KA(ts:List R3):Bool:=!(jy (λi=>!(sg (nth ts i))) ts.length)
def eZ(li lk:List Int)(ts:List R3):Bool:=((decide ((ts.length:Int)<=40)&&lg li)&&lg lk)&&KA ts
def mA:namesL.length=36:=rfl
def uA(l:List Int)(sv:ix)(w:ln)(h:Sl (λc:Int=>[nI c]) 1 w sv l):MW M5 49 [sv] w λv w'=>v=.bool (lg l)/\w'=w:=by
 have a5:=h.len_le;apply L1 func49 ntmps49 rfl rfl;refine zh ?_;apply zlp (λx:Nat=>[(0,sv),(5,sv),(6,nI l.length),(7,nI x)]) (λx=>w) (λx=>x<=l.length/\∀i,i<x->Gz l i=false) (λx=>l.length-x) 0 ⟨L9 _,λi hi=>absurd hi (MD i)⟩;rintro k ⟨hk,a3⟩;refine zh ?_;refine zC ?_ ?_
 ·intro a0;replace a0:k<l.length:=dT a0;refine zh ?_;refine zvH (RV.ld (h.ld a0) rfl) ?_;refine cx (λw1=>_=w1) (decide (36<=nth l k)) 2 rfl rfl rfl rfl rfl rfl ?_ ?_
  ·intro a1;refine zh ?_;refine nE 14 3 rfl a1
  rintro _ rfl;refine zh ?_;refine cx (λw1=>_=w1) ((decide ((0:Int)<(k:Int))&&decide (nth l k<=nth l (k-1)))) 11 rfl rfl rfl rfl rfl rfl ?_ ?_
  ·intro a2;refine zh ?_
   cases a6:decide ((0:Int)<(k:Int))with
   |true=>
    have a7:=of_decide_eq_true a6;apply ay (d:=21) rfl (b':=true) rfl;refine zh ?_;rw[show(k:Int)-1=((k-1:Nat):Int)from by omega];refine zh ?_;refine zvH (RV.ld (h.ld (i:=k-1) zo) rfl) ?_;refine nE 18 13 rfl a2
   |false=>
    apply ay (d:=21) rfl (b':=false) rfl;refine zh ?_
    refine nE 18 13 rfl a2
  rintro _ rfl;refine zh ?_;refine zC ?_ ?_
  ·intro hy;refine zh ?_;refine ah rfl rfl ⟨by unfold lg;rw[eK.2 ⟨k,a0,hy⟩];rfl,rfl⟩
  intro hy;refine zh ?_;refine zxd (k+1) ⟨a0,λi hi=>(MA.1 hi).elim (a3 i) (λe=>by rw[e];exact hy)⟩
 intro a4;replace a4:l.length<=k:=dF a4;refine zh ?_;refine ah rfl rfl ⟨by unfold lg;rw[bM.2 λi hi=>a3 i zo];rfl,rfl⟩
abbrev nr(x:X3):ix:=.agg (cL x).toArray
def kY{x:X3}(h:Mk O w i b (cL x).toArray E):(∀W,MP w W->∀(q:Nat) (u:ix),(bu x.1)[q]? = some u->W.cell? (nA b q)=some u)/\(∀W,MP w W->∀(q:Nat) (u:ix),(bu x.2.1)[q]? = some u->W.cell? ((nA b 3).add q)=some u)/\(∀W,MP w W->W.cell? (nA b 6)=some (.bool x.2.2))/\(∀W,MP w W->∀(q:Nat) (u:ix),(cL x)[q]? = some u->W.cell? (nA b q)=some u):=by
 obtain⟨x1,x2,brk⟩:=x;refine⟨λW hE q u hu=>hE.cell (h.V q u ?_),λW hE q u hu=>hE.cell (ke h q u hu),λW hE=>hE.cell (h.V 6 _ rfl),λW hE q u hu=>hE.cell (h.V q u hu)⟩;simp only[bu]at hu
 match q,hu with
 |0,hu=>exact hu
 |1,hu=>exact hu
 |2,hu=>exact hu
def Rt.ext{O:Nat->Nat}{w w':ln}{t:R3}{x:X3}(h:Rt O w t x)(e:MP w w'):Rt O w' t x:=⟨h.1.ext e,h.2.1.ext e,h.2.2⟩
def AA(t:R3)(x:X3)(w:ln)(h:Rt (λ_=>0) w t x):MW M5 52 [nr x] w λv w'=>v=.bool (sg t)/\MP w w':=by
 have a7:=cY (b:=x.2.2) h.1.one h.2.1.one;apply L1 func52 ntmps52 rfl rfl;refine zh ?_;apply aQ (aA w) 1 zo rfl rfl;intro xb w1 O1 a6 a8 a9 a4;obtain⟨lc,rc,bc,_⟩:=kY a6;refine zh ?_;apply zv (ai (us:=bu x.1) (lc w1 (L4 _)) (Ms _) (M9 _) rfl);apply zc call83 (gd t.1 x.1 w1 (h.1.ext a4));rintro v w2 ⟨rfl,a3⟩;refine zh ?_;refine aU (MP w1) (bz t.2.1) 3 a3 rfl rfl rfl rfl rfl ?_ ?_
 ·intro a1;refine zh ?_;refine zvH (ai (us:=bu x.2.1) (rc _ a3) (Ms _) (M9 _) rfl) ?_;apply zc call83 (gd t.2.1 x.2.1 _ (h.2.1.ext (a4.J a3)));rintro v w3 ⟨rfl,a0⟩;refine zh ?_;refine nE 6 4 (a3.J a0) a1
 intro w3 a0;refine zh ?_;refine aU (MP w1) ((du t.2.1==0)) 4 a0 rfl rfl rfl rfl rfl ?_ ?_
 ·intro a2;refine zh ?_;refine zvH (ai (us:=bu x.2.1) (rc _ a0) (Ms _) (M9 _) rfl) ?_;apply zc Qq (lu t.2.1 x.2.1 _ (h.2.1.ext (a4.J a0)));rintro v w4 ⟨rfl,a5⟩;refine zh ?_;refine nE 11 5 (a0.J a5) a2
 intro w4 a5;refine zh ?_;refine ah rfl rfl ⟨rfl,a4.J a5⟩
def AE(t:R3)(x:X3)(w:ln)(h:Rt (λ_=>0) w t x):MW M5 51 [nr x] w λv w'=>v=.bool (!(sg t))/\MP w w':=by
 have a2:=cY (b:=x.2.2) h.1.one h.2.1.one;apply L1 func51 ntmps51 rfl rfl;refine zh ?_;apply aQ (aA w) 1 zo rfl rfl;intro xb w1 O1 a1 a4 a5 a0;obtain⟨_,_,_,ac⟩:=kY a1;refine zh ?_;apply zv (ai (us:=cL x) (ac w1 (L4 _)) (Nz _) (MK _) rfl);apply zc call52 (AA t x w1 (h.ext a0));rintro v w2 ⟨rfl,a3⟩;refine zh ?_;refine ah rfl rfl ⟨rfl,a0.J a3⟩
def mG(hF:∀(args:Array ix) (w:ln),(callFunc F args).run M5 w=.ok (.enter F args) w)(cs:Array ix)(l:List X3)(sv:ix)(q:Nat->Bool)(w:ln)(h:Sl cL 7 w sv l) 
  (hq:∀i,i<l.length->∀w',MP w w'->MW M5 F ([nr (nth l i)]++cs.toList) w' λv w''=>v=.bool (q i)/\MP w' w'') :
  MW M5 82 [sv,.func (.func F) #[] cs] w λv w'=>v=nI (eu q l.length)/\MP w w':=by
 have hl:=h.len_le;apply L1 func82 ntmps82 rfl rfl;refine zh ?_;apply zlp (λx:Nat×ln=>[(0,sv),(1,.func (.func F) #[] cs),(7,nI l.length),(8,nI x.1)]) (λx=>x.2) (λx=>x.1<=l.length/\MP w x.2/\∀i,i<x.1->q i=false) (λx=>l.length-x.1) (0,w) ⟨L9 _,L4 _,λi hi=>absurd hi (MD i)⟩;rintro⟨k,w1⟩ ⟨hk,hE,a1⟩;dsimp only at hk hE a1 ⊢;have h1:=h.ext hE;refine zh ?_;refine zC ?_ ?_
 ·intro a0;replace a0:k<l.length:=dT a0;refine zh ?_;apply zv (ai (us:=cL (nth l k)) (λj u hu=>h1.cell a0 hu) (Nz _) (MK _) rfl);apply ej rfl hF rfl (hq k a0 w1 hE) rfl;rintro v w2 ⟨rfl,a3⟩;refine zh ?_;refine zC ?_ ?_
  ·intro hy;refine zh ?_;refine ah rfl rfl ⟨by rw[cZ a0 hy a1],hE.J a3⟩
  intro hy;refine zh ?_;refine zxd (k+1,w2) ⟨a0,hE.J a3,λi hi=>(MA.1 hi).elim (a1 i) (λe=>by rw[e];exact hy)⟩
 intro a2;replace a2:l.length<=k:=dF a2;refine zh ?_;refine ah rfl rfl ⟨by rw[cX λi hi=>a1 i zo],hE⟩
def jG(hF:∀(args:Array ix) (w:ln),(callFunc F args).run M5 w=.ok (.enter F args) w)(cs:Array ix)(l:List X3)(sv:ix)(q:Nat->Bool)(w:ln)(h:Sl cL 7 w sv l) 
  (hq:∀i,i<l.length->∀w',MP w w'->MW M5 F ([nr (nth l i)]++cs.toList) w' λv w''=>v=.bool (q i)/\MP w' w'') :
  MW M5 50 [sv,.func (.func F) #[] cs] w λv w'=>v=.bool (jy q l.length)/\MP w w':=by
 apply L1 func50 ntmps50 rfl rfl;refine zh ?_
 apply zc call82 (mG hF cs l sv q w h hq);rintro v w1 ⟨rfl,hE⟩;refine zh ?_
 refine ah rfl rfl ⟨by rw[firstN_any],hE⟩
def AD(li lk:List Int)(ts:List R3)(xs:List X3)(ig kp ru:ix)(w:ln)(hi:Sl (λc:Int=>[nI c]) 1 w ig li)(hk:Sl (λc:Int=>[nI c]) 1 w kp lk)(hr:Sl cL 7 w ru xs)(hl:ts.length=xs.length)(hx:∀i,i<xs.length->Rt (λ_=>0) w (nth ts i) (nth xs i)):
  MW M5 24 [D4 ig kp ru] w λv w'=>v=.bool (eZ li lk ts)/\MP w w':=by
 have b0:=hi.one;have a':=hk.one;have a9:=hr.one;apply L1 func24 ntmps24 rfl rfl;refine zh ?_;apply aQ (aA w) 1 zo rfl rfl;intro xb w1 O1 a5 b1 b2 a4;have c0:w1.cell? (nA xb 0)=some ig:=a5.cell 0 rfl;have c1:w1.cell? (nA xb 1)=some kp:=a5.cell 1 rfl;have c2:w1.cell? (nA xb 2)=some ru:=a5.cell 2 rfl;have a7:=hr.ext a4;refine zh ?_;refine aU (λw1=>_=w1) (lg li) 3 rfl rfl rfl rfl rfl rfl ?_ ?_
 ·intro a1;refine zh ?_;apply zc call49 (uA li ig w1 (hi.ext a4));rintro v w9 ⟨rfl,a0⟩;rw[a0];clear a0 w9;refine zh ?_;refine nE 7 4 rfl a1
 rintro _ rfl;refine zh ?_;refine aU (λw1=>_=w1) (lg lk) 3 rfl rfl rfl rfl rfl rfl ?_ ?_
 ·intro a2;refine zh ?_;apply zc call49 (uA lk kp w1 (hk.ext a4));rintro v w9 ⟨rfl,a0⟩;rw[a0];clear a0 w9;refine zh ?_;refine nE 12 4 rfl a2
 rintro _ rfl;refine zh ?_;have a8:KA ts = !(jy (λi=>!(sg (nth ts i))) xs.length):=by unfold KA;rw[hl]
 refine aU (MP w1) ((!(jy (λi=>!(sg (nth ts i))) xs.length))) 4 (L4 w1) rfl rfl rfl rfl rfl ?_ ?_
 ·intro a3;refine zh ?_;apply zc call50 (jG call51 #[] xs ru (λi=>!(sg (nth ts i))) w1 a7 (λi hi w' hE=>AE (nth ts i) (nth xs i) w' ((hx i hi).ext (a4.J hE))));rintro v w2 ⟨rfl,a6⟩;refine zh ?_;refine nE 17 5 a6 a3
 intro w2 a6;refine zh ?_;refine ah rfl rfl ⟨by unfold eZ;rw[hl,a8],a4.J a6⟩
mutual
def Ca:Nd->Nd->Bool
 |.mk k c l,.mk k' c' l'=>((k==k')&&(c==c'))&&Aw l l'
def Aw:List Nd->List Nd->Bool
 |[],[]=>true
 |a::l,b::l'=>Ca a b&&Aw l l'
 |[],_::_=>false
 |_::_,[]=>false
end
def KB(q:Nat->Bool)(n:Nat):Bool:=!(jy (λi=>!(q i)) n)
def vR{q:Nat->Bool}:KB q n=true↔∀i,i<n->q i=true:=by
 unfold KB;rw[NI,bM];simp
mutual
def rY:∀(t s:Nd),Ca t s=true->t=s
 |.mk k c l,.mk k' c' l',h=>by
  simp only[Ca,L8,beq_iff_eq]at h
  obtain⟨⟨rfl,rfl⟩,h⟩:=h
  rw[zb l l' h]
def zb:∀(l l':List Nd),Aw l l'=true->l=l'
 |[],[],_=>rfl
 |a::l,[],h=>by simp[Aw]at h
 |[],b::l',h=>by simp[Aw]at h
 |a::l,b::l',h=>by
  simp only[Aw,L8]at h
  rw[rY a b h.1,zb l l' h.2]
end
def oC:∀(n:Nat) (t:Nd),nsz t<=n->∀(x:N3) (w:ln) (fN:Nat),Nt (λ_=>0) w t x->fN<=1000000->MW M5 146 [nv x,nI (fN:Int)] w λv w'=>v=nI ((min (nsz t) (fN+1):Nat):Int)/\MP w w'
 |0,t,hn=>by have:=dy t;omega
 |n+1,.mk k c kids,hn=>by
  intro x w fN h hm;obtain⟨xs,hs,hf,hl,hk⟩:=h.kids;simp only[Nd.kids]at hl hk;have b4:=eQ kids;simp only[nsz]at hn ⊢;have a9:=hs.len_le;apply L1 func146 ntmps146 rfl rfl;refine zh ?_;apply aQ (aA w) 1 zo rfl rfl;intro xb w1 O1 a5 b7 b8 a3;have c2:w1.cell? (nA xb 2)=some x.2.2:=a5.cell 2 rfl;refine zh ?_;apply zlp (λy:Nat×ln=>[(1,nI (fN:Int)),(2,nP xb),(5,nI ((min (dP (kids.take y.1)+1) (fN+1):Nat):Int)),(6,nI y.1)]) (λy=>y.2) (λy=>y.1<=xs.length/\MP w1 y.2) (λy=>xs.length-y.1) (0,w1) ⟨L9 _,L4 _⟩;rintro⟨i,w2⟩ ⟨hi,a0⟩;dsimp only at hi a0 ⊢;have a7:=(hs.ext a3).ext a0;have d2:=a0.cell c2;have a6:=cP kids i;refine zh ?_;refine aU (λw1=>_=w1) (decide (((min (dP (kids.take i)+1) (fN+1):Nat):Int)<=(fN:Int))) 3 rfl rfl rfl rfl rfl rfl ?_ ?_
  ·intro a1;refine zh ?_;refine nE 12 4 rfl a1
  rintro _ rfl;refine zh ?_;refine zC ?_ ?_
  ·intro hc;simp only[L8,decide_eq_true_eq]at hc;obtain⟨b6,b5⟩:=hc;have a2:i<xs.length:=zo;have b2:=ee kids i zo;have b1:=cP kids (i+1);have a4:=(hk i a2).ext (a3.J a0);have b0:=a4.one;have b3:=bQ kids i zo;refine zh ?_;refine zvH (ai (us:=bu (nth xs i)) (λj u hu=>a7.cell a2 hu) (isAgg96 _) (sizeOf96 _) rfl) ?_;rw[show(fN:Int)-((min (dP (kids.take i)+1) (fN+1):Nat):Int)=((fN-(dP (kids.take i)+1):Nat):Int)from by omega];apply zc call146 (oC n (nth kids i) zo (nth xs i) w2 (fN-(dP (kids.take i)+1)) a4 zo);rintro v w5 ⟨rfl,a'⟩;refine zh ?_;rw[show((min (dP (kids.take i)+1) (fN+1):Nat):Int)+((min (nsz (nth kids i)) (fN-(dP (kids.take i)+1)+1):Nat):Int)=((min (dP (kids.take (i+1))+1) (fN+1):Nat):Int)from by omega];refine zxd (i+1,w5) ⟨a2,a0.J a'⟩
  intro hc;simp only[Bool.and_eq_false_iff,decide_eq_false_iff_not]at hc;have he:min (dP (kids.take i)+1) (fN+1)=min (dP kids+1) (fN+1):=by
   rcases hc with hc|hc
   ·obtain rfl:i=xs.length:=zo;rw[<-hl,Mj]
   omega
  refine zh ?_;refine ah rfl rfl ⟨by rw[he],a3.J a0⟩
def eqI(l l':List Int):Bool:=decide (l.length=l'.length)&&KB (λi=>nth l i==nth l' i) l.length
def zT{l l':List Int}:eqI l l'=true↔l=l':=by
 unfold eqI;simp only[L8,decide_eq_true_eq,vR,beq_iff_eq]
 constructor
 ·rintro⟨h1,h2⟩;refine List.ext_getElem h1 λi hi a0=>?_
  have:=h2 i hi
  rwa[aD hi,aD a0]at this
 rintro rfl;exact⟨rfl,λi _=>rfl⟩
def JS(t s:R3):Bool:=((t.2.2==s.2.2)&&Ca t.1 s.1)&&Ca t.2.1 s.2.1
structure Tx(w:ln)(v:ix)(li lk:List Int)(ts:List R3):Prop where
 ex:∃ig kp ru xs,v=D4 ig kp ru/\Sl encI 1 w ig li/\Sl encI 1 w kp lk/\Sl cL 7 w ru xs/\ts.length=xs.length/\∀i,i<xs.length->Rt (λ_=>0) w (nth ts i) (nth xs i)
def Tx.ext{w w':ln}{v:ix}{li lk:List Int}{ts:List R3}(h:Tx w v li lk ts)(e:MP w w'):Tx w' v li lk ts:=by
 obtain⟨ig,kp,ru,xs,hv,h1,h2,h3,h4,h5⟩:=h;exact⟨ig,kp,ru,xs,hv,h1.ext e,h2.ext e,h3.ext e,h4,λi hi=>(h5 i hi).ext e⟩
def _root_.Go.VL.BlkO.ext{cs:Array ix}(h:Mk O w i b cs E)(e:MP w w'):Mk O w' i b cs E:=⟨by rw[e.block b (bN h.blk)];exact h.blk,h.tag⟩
def RowsG.U{S:Nat->Prop}{B:Nat}{O O':Nat->Nat}{w0 w w':ln}{v:ix}{rows:List (List Nat)}(h:QO w0.heap.size w v rows)(r:NN B O w0)(u:M1 S O w O' w'):QO w0.heap.size w' v rows:=by
 obtain⟨vs,h1,h2,h3,h4⟩:=h;exact⟨vs,h1.U (h2.free h1 (λx _=>by simp) r) u,h2,h3,λi hi=>⟨(h4 i hi).1.U ((h4 i hi).2.free (h4 i hi).1 (λx _=>by simp) r) u,(h4 i hi).2⟩⟩
def _root_.Go.VL.NewV.slU{l:List Nat}(h:Px w0.heap.size v)(hs:Sl jx 1 w v l)(r:NN B O w0)(u:M1 S O w O' w'):Sl jx 1 w' v l:=hs.U (h.free hs (λx _=>by simp) r) u
def dB(l:List Int):Nat:=l.foldl (λb c=>b ||| 2^c.toNat) 0
def ot{l:List Int}(h:∀c∈l,0<=c/\c<=35):dB l<2^36:=by
 have a0:∀(l:List Int) (b:Nat),(∀c∈l,0<=c/\c<=35)->b<2^36->l.foldl (λb c=>b ||| 2^c.toNat) b<2^36:=λl=>by
  induction l with
  |nil=>exact λb _ hb=>hb
  |cons c l ih=>exact λb h hb=>ih _ (λx hx=>h x (by simp[hx])) (Mr hb (Mu zd (by have:=h c (by simp);omega)))
 exact a0 l 0 h zd
def B5{l:List Int}(h:i<l.length):dB (l.take (i+1))=dB (l.take i) ||| 2^(nth l i).toNat:=by
 unfold dB;rw[bd h,MH];rfl
def oq(l:List Int)(sv:ix)(w:ln)(h:Sl encI 1 w sv l)(hr:∀c∈l,0<=c/\c<=35):MW M5 89 [sv] w λv w'=>v=.int .u64 ((dB l:Nat):Int)/\w'=w:=by
 have hl:=h.len_le;have a1:PV.max=18446744073709551615:=rfl;apply L1 func89 ntmps89 rfl rfl;refine zh ?_;apply zlp (λz:Nat=>[(3,.int .u64 ((dB (l.take z):Nat):Int)),(6,sv),(7,nI l.length),(8,nI z)]) (λz=>w) (λz=>z<=l.length) (λz=>l.length-z) 0 (L9 _);intro i hi;refine zh ?_;refine zC ?_ ?_
 ·intro a0;replace a0:i<l.length:=dT a0;have hc:=hr _ (aZ a0);have m1:w.cell? (adr sv 1 i)=some (nI (nth l i)):=by have:=h.cell (i:=i) (j:=0) a0 rfl;rwa[ax]at this
  obtain⟨c,a3⟩:∃c:Nat,nth l i=(c:Int):=⟨(nth l i).toNat,zo⟩
  have hs:=B5 a0;rw[a3]at m1 hs;simp only[MJ]at hs;have a7:dB (l.take i)<2^36:=ot λx hx=>hr x (Pi hx)
  have a6:2^c<=2^35:=Nw zd zo;have a5:(2^35:Nat)=34359738368:=zd;have a4:(2^36:Nat)=68719476736:=zd;refine zh ?_;apply zv (yI (a:=1) (b:=c) rfl rfl rfl rfl (by show _<=64;omega) (by show _<=(18446744073709551615:Int);omega));rw[NP];refine zvH (vX (a:=dB (l.take i)) (b:=2^c) rfl rfl rfl rfl (by show _<=(18446744073709551615:Int);omega) (by show _<=(18446744073709551615:Int);omega)) ?_;rw[<-hs];refine zxd (i+1) a0
 intro a2;obtain rfl:i=l.length:=dF a2;rw[Mj];refine zh ?_;refine ah rfl rfl ⟨rfl,rfl⟩
def stM(se:Bool)(ts:List Nd):Option (List (List Nat)×List Nat):=if et ts=0 then Gt (dj se (kJ ts)) (dN (kJ ts))else none
def Cls(cl:Nat->Nat)(d:List (List Nat)×List Nat):Prop:=∀p q,p<d.1.length->q<d.1.length->(cl p=cl q↔Alike (nxD d.1) (nth d.2) p q)
def PostSt(B:Nat)(w:ln)(v:ix):Option (List (List Nat)×List Nat)->Prop
 |some d=>∃cl nv tv,v=.tuple #[.agg #[nv,tv],nI 0]/\nv.oneCell'=true/\tv.oneCell'=true/\Mo d.1 d.2/\Cls cl d/\QO B w nv (bm cl d.1 d.2).1/\Sl jx 1 w tv (bm cl d.1 d.2).2/\Px B tv
 |none=>∃e:Int,e≠0/\v=.tuple #[.agg #[nS,nS],nI e]
def CD{ts:List Nd}(h:et ts=0):ts.length<=40/\(∀t∈ts,bz t=true)/\1+bB ts<=1000:=by
 unfold et at h
 split at h
 ·cases h
 split at h
 ·cases h
 rename_i h1 h2
 split at h
 ·cases h
 rename_i h3;refine⟨zo,λt ht=>?_,zo⟩;have:ts.any (λt=>!bz t)=false:=by simpa using h2
 have:=NG.1 this t ht;simpa using this
set_option maxHeartbeats 1000000 in
def qw(se:Bool)(ts:List Nd)(xs:List N3)(sv:ix)(w:ln)(hs:Sl bu 3 w sv xs)(hl:ts.length=xs.length)(hk:∀i,i<xs.length->Nt (λ_=>0) w (nth ts i) (nth xs i)):
  MW M5 90 [.bool se,sv] w λv w'=>MP w w'/\PostSt w.heap.size w' v (stM se ts):=by
 apply L1 func90 ntmps90 rfl rfl;refine zh ?_
 apply aw (aA w) 1 zo (Mz _) rfl;intro cb w1 O1 c6 e2 e5 d4;refine zh ?_
 apply zc call128 (IS se ts xs sv w1 (hs.ext d4) hl (λi hi=>(hk i hi).ext d4));rintro _ w2 ⟨nb,rfl,e',e6⟩;have c8:M1 (λ_=>False) O1 w1 O1 w2:=ae (λh=>h) O1 e';have a2:=c6.U c8 zd (λh=>h);have b2:=e2.J (c8.mono (λ_ h=>h.elim) zd);refine zh ?_
 by_cases he:et ts=0
 ·obtain⟨f5,a4,f4⟩:=CD he;obtain⟨a',a3⟩:=kd a4;obtain⟨d5,h0⟩:=CB ts;have d9:=qH a' a3;have d':∀q,(kJ ts).en q<=40:=λq=>by have:=CA ts q;omega
  have b6:stM se ts=Gt (dj se (kJ ts)) (dN (kJ ts)):=by unfold stM;rw[ap he]
  have d8:CC nb (et ts)=nP nb:=by unfold CC;rw[ap he]
  rw[d8,he,b6];refine zFH rfl rfl ?_;have hC:=Du nb se (kJ ts) w2 (e6 he) d5 h0 (IR ts) zo d';generalize hd:Gt (dj se (kJ ts)) (dN (kJ ts))=D at hC b6 ⊢;apply zc call129 hC;rintro v w3 ⟨e9,hP⟩;have c7:M1 (λ_=>False) O1 w2 O1 w3:=ae (λh=>h) O1 e9;have b1:=a2.U c7 zd (λh=>h);have d3:=(e5.U c8).U c7;have a8:=b2.J (c7.mono (λ_ h=>h.elim) zd)
  cases D with
  |none=>
   obtain rfl:=hP;refine zh ?_;apply aw d3 2 zo (Mz _) rfl;intro db w4 O4 a0 b8 e3 e8;apply zsa (us:=#[nS,nS]) a0 (Mh _);have b7:M1 (λj=>j=2) O4 w4 O4 (w4.setRow db #[nS,nS]):=L6 zd a0.tag rfl;have a6:=(b1.U b8 zd zd).U b7 zd zd;generalize w4.setRow db #[nS,nS]=w5 at *;refine zh ?_;refine zTH rfl rfl ?_;refine zvH (aI AH (Mz _) rfl (by first|rfl|(simp only[LY,NH];rfl)) rfl rfl) ?_;apply zsa (us:=#[nS,nS]) a6 (Mh _);have b0:=a6.setRow (us:=#[nS,nS]);have a7:M1 (λj=>j=1) O4 w5 O4 (w5.setRow cb #[nS,nS]):=L6 zd a6.tag rfl;refine zh ?_;refine bE rfl rfl rfl b0.V (Na _) (Mh _) ⟨(((a8.mono (S':=λq=>q=1\/q=2) (λ_ h=>.inl h) zd).J ((b8.J b7).mono (λ_ h=>.inr h) zd)).J (a7.mono (λ_ h=>.inl h) zd)).ext,7,zd,rfl⟩
  |some d=>
   obtain⟨nv,tv,rfl,o1,o2,d7,d6⟩:=hP;obtain⟨S,f3⟩:=ph hd;have d1:=f3.right;refine zh ?_;apply aw (aA w3) 2 zo (Mz _) rfl;intro db w4 O4 a0 b8 e3 e8;apply zsb (us:=#[nv,tv]) a0 (Mh _) (by simp only[LY,o1,o2];rfl);have c5:=a0.setRow (us:=#[nv,tv]);have b7:M1 (λj=>j=2) O4 w4 O4 (w4.setRow db #[nv,tv]):=L6 zd a0.tag rfl;have a1:MP w3 (w4.setRow db #[nv,tv]):=(b8.J b7).ext;generalize w4.setRow db #[nv,tv]=w5 at *;refine zh ?_;refine zFH rfl rfl ?_;apply zv (ai (us:=[nv,tv]) c5.V (Na _) (Mh _) rfl);apply zc call130 (yd nv tv d.1 d.2 w5 (d7.ext a1) (d6.ext a1) d1);rintro _ w6 ⟨cl,b5,b4,rfl,p1,p2,e7,e0,b',b9,a9⟩;have b3:=a1.J e7;have a5:=b1.ext b3;have e1:M1 (λq=>q=1) O1 w3 O1 w6:=ae zd O1 b3;have c9:=a8.J e1;have d2:=d3.ext a1;apply zsb (us:=#[b5,b4]) a5 (Mh _) (by simp only[LY,p1,p2];rfl);have b0:=a5.setRow (us:=#[b5,b4]);have a7:M1 (λj=>j=1) O1 w6 O1 (w6.setRow cb #[b5,b4]):=L6 zd a5.tag rfl;have d0:w.heap.size<=w5.heap.size:=Pd a8.size a1.size;refine zh ?_;refine bE rfl rfl rfl b0.V (Na _) (Mh _) ⟨(c9.J a7).ext,cl,b5,b4,rfl,p1,p2,d1,e0,(b'.U d2 a7).mono d0,a9.slU b9 d2 a7,a9.mono d0⟩
 have b6:stM se ts=none:=by unfold stM;rw[am he]
 rw[b6];refine zTH rfl ((by simpa using he)) ?_;refine zvH (aI AH (Mz _) rfl (by first|rfl|(simp only[LY,NH];rfl)) rfl rfl) ?_;apply zsa (us:=#[nS,nS]) a2 (Mh _);have b0:=a2.setRow (us:=#[nS,nS]);have a7:M1 (λj=>j=1) O1 w2 O1 (w2.setRow cb #[nS,nS]):=L6 zd a2.tag rfl;refine zh ?_;refine bE rfl rfl rfl b0.V (Na _) (Mh _) ⟨(b2.J a7).ext,et ts,he,rfl⟩
def LJ:cI M5 29 #[(0,5),(5,1)]:=⟨_,underlying29,λw=>by kernel_rfl⟩
def PartV(w:ln)(cs:List ix)(p:Pb)(tl:List Nat):Prop:=
 ∃uv bv kv nv tv,cs=[nI p.width,uv,bv,kv,nv,tv]/\N6 w uv p.usual/\N6 w bv p.base/\N6 w kv p.check/\N6 w nv p.next/\Sl jx 1 w tv tl
def PartV.ext{w w':ln}{cs:List ix}{p:Pb}{tl:List Nat}(h:PartV w cs p tl)(e:MP w w'):PartV w' cs p tl:=by
 obtain⟨uv,bv,kv,nv,tv,h0,h1,h2,h3,h4,h5⟩:=h;exact⟨uv,bv,kv,nv,tv,h0,h1.ext e,h2.ext e,h3.ext e,h4.ext e,h5.ext e⟩
def Ju(B:Nat)(cs:List ix):Prop:=∀v∈cs,Px B v
def _root_.Go.VL.NewV.slI{l:List Int}(h:Px w0.heap.size v)(hs:N6 w v l)(r:NN B O w0)(u:M1 S O w O' w'):N6 w' v l:=hs.U (h.free hs (λx _=>by simp) r) u
def PartV.U{p:Pb}(h:PartV w cs p tl)(n:Ju w0.heap.size cs)(r:NN B O w0)(u:M1 S O w O' w'):PartV w' cs p tl:=by
 obtain⟨uv,bv,kv,nv,tv,rfl,h1,h2,h3,h4,h5⟩:=h;exact⟨uv,bv,kv,nv,tv,rfl,(n uv (by simp)).slI h1 r u,(n bv (by simp)).slI h2 r u,(n kv (by simp)).slI h3 r u,(n nv (by simp)).slI h4 r u,(n tv (by simp)).slU h5 r u⟩
def PartV.one{w:ln}{cs:List ix}{p:Pb}{tl:List Nat}(h:PartV w cs p tl):cs.length=6/\∀v∈cs,v.oneCell'=true:=by
 obtain⟨uv,bv,kv,nv,tv,rfl,h1,h2,h3,h4,h5⟩:=h;refine⟨rfl,λv hv=>?_⟩;simp only[LX,Ma,or_false]at hv
 rcases hv with rfl|rfl|rfl|rfl|rfl|rfl
 ·rfl
 ·exact h1.one
 ·exact h2.one
 ·exact h3.one
 ·exact h4.one
 exact h5.one
def RowsN.pack(h:RowsN w v rows):Rows w v (rows.map ints):=by
 obtain⟨vs,h1,h2,h3⟩:=h
 exact⟨vs,h1,by rw[M7];exact h2,λi hi=>by
  rw[M7]at hi
  rw[ed hi];exact(h3 i hi).natIv⟩
def kZ(g:List Nat)(many:Nat)(rows:List (List Nat)):List (List Int):=(rows.map (pZ g many)).map ints
def ec(g:List Nat)(many:Nat)(rows:List (List Nat)):Pb:=mn (many:Int) (kZ g many rows)
def qA(hg:GrpI g many)(hr:Mo rows a0):cJ (many:Int) (kZ g many rows)=false:=by
 have h1:=hg.pos;have h2:=hg.le;have h3:=hr.le;unfold cJ;have hl:(kZ g many rows).length=rows.length:=by simp[kZ]
 rw[decide_eq_false zo,decide_eq_false zo,decide_eq_false zo];simp only[Q2];refine NG.2 λr a1=>?_
 obtain⟨q,hq,rfl⟩:=Mi.1 a1;obtain⟨o,ho,rfl⟩:=Mi.1 hq;obtain⟨j,hj,rfl⟩:=cu ho;obtain⟨r1,r2⟩:=hr.row j hj;unfold iW;rw[show(ints (pZ g many (nth rows j))).length=many from by simp[nQ]];have a2:inB 0 65535 (ints (pZ g many (nth rows j)))=true:=vw λn hn=>by
  obtain⟨x,hx,rfl⟩:=Mi.1 hn;unfold pZ at hx;obtain⟨k,hk,rfl⟩:=Mi.1 hx
  cases hf:g.findIdx? (· == k)with
  |none=>simp only[Option.getD_none];have:=r2 0 zd;unfold nxD at *;omega
  |some q=>
   obtain⟨h1,_⟩:=Mc.1 hf;have a3:=hg.len;simp only[Option.getD_some];have:=r2 q zo;omega
 rw[a2];simp
def zl(g:List Nat)(many:Nat)(gv nv tv:ix)(rows:List (List Nat))(d4:List Nat)(w:ln)(hg:GrpI g many)(e':Sl bp 1 w gv g)(hn:RowsN w nv rows)(g0:Sl jx 1 w tv d4)(hr:Mo rows d4) 
  (hc:∀p,p<rows.length->∀i j,i<37->j<37->nth g i=nth g j->nth (nth rows p) i=nth (nth rows p) j) :
  MW M5 92 [gv,.agg #[nv,tv]] w λv w'=>∃cs,v=.agg cs.toArray/\PartV w' cs (ec g many rows) d4/\Ju w.heap.size cs/\MP w w':=by
 have a4:=qA hg hr;apply L1 func92 ntmps92 rfl rfl;refine zh ?_;apply aQ (aA w) 1 zo rfl rfl;intro db w1 O1 e4 g' h4 h9;apply aw h4 2 zo (QL _) rfl;intro cb w2 O2 e8 f8 b8 h8;have b6:M1 (λq=>1<=q) (λ_=>0) w O2 w2:=(g'.mono (λ_ h=>zo) zd).J (f8.mono (λ_ h=>zo) zd);have b7:=b6.ext;refine zh ?_;apply zv (ai (us:=[nv,tv]) (e4.U f8 zd zd).V (Na _) (Mh _) rfl);apply zc call137 (F7 g many gv nv tv rows d4 w2 hg (e'.ext b7) (hn.ext b7) (g0.ext b7) hr hc);rintro _ w3 ⟨d8,a6,a5,rfl,o1,o2,o3,c9,a',a9,h5⟩;have d6:M1 (λ_=>False) O2 w2 O2 w3:=ae (λh=>h) O2 h5;refine zh ?_;apply aw (b8.U d6) 3 zo (zeroValue225 _) rfl;intro nb w4 O4 b3 g8 h2 h7;apply zsb (us:=#[d8,a6,a5]) b3 (sizeOf225 _) (by simp only[LY,o1,o2,o3];rfl);have b2:=b3.setRow (us:=#[d8,a6,a5]);have f7:M1 (λj=>j=3) O4 w4 O4 (w4.setRow nb #[d8,a6,a5]):=L6 zd b3.tag rfl;have a2:=g8.J f7;have g9:=(d6.mono (S':=λq=>q=3) (λ_ h=>h.elim) zd).J a2;have e6:=(e8.U d6 zd (λh=>h)).U a2 zd zd;have g6:=c9.U b8 a2;have f':=a9.slU a' b8 a2;have b5:=(b6.J (d6.mono (λ_ h=>h.elim) zd)).J (a2.mono (λ_ h=>zo) zd);generalize w4.setRow nb #[d8,a6,a5]=w5 at *;have h6:(rows.map (pZ g many)).length=rows.length:=by simp
 refine zh ?_;have d1:w5.drew.cell? (nA nb 1)=some a6:=b2.cell 1 rfl;apply aO (λW=>W.cell? (nA nb 1)=some a6) 11 rfl zk
 apply zrm 0 rfl d1 rfl;apply zrf 2 rfl d1 rfl
 apply zt 3 rfl d1 (λw1 f9=>RV.ld f9 rfl);refine ja (λx:ix×ix×ix×ix×Int×Nat×(Nat->Nat)×World=>[(4,nP cb),(5,nP nb),(7,.pointer (some ⟨x.2.2.2.2.2.1,0,none⟩)),(21,.agg #[nI (ec g many rows).width,x.1,x.2.1,x.2.2.1,x.2.2.2.1]),(22,nI x.2.2.2.2.1)]) (λx=>x.2.2.2.2.2.2.2) (λx=>N6 x.2.2.2.2.2.2.2 x.1 (ec g many rows).usual/\N6 x.2.2.2.2.2.2.2 x.2.1 (ec g many rows).base/\N6 x.2.2.2.2.2.2.2 x.2.2.1 (ec g many rows).check/\N6 x.2.2.2.2.2.2.2 x.2.2.2.1 (ec g many rows).next/\Px w5.heap.size x.1/\Px w5.heap.size x.2.1/\Px w5.heap.size x.2.2.1/\Px w5.heap.size x.2.2.2.1/\Mk x.2.2.2.2.2.2.1 x.2.2.2.2.2.2.2 4 x.2.2.2.2.2.1 #[nI 0,nS,nS,nS,nS] 26/\M1 (λq=>q=4) O4 w5 x.2.2.2.2.2.2.1 x.2.2.2.2.2.2.2/\NN w.heap.size x.2.2.2.2.2.2.1 x.2.2.2.2.2.2.2/\Pr x.2.2.2.2.2.2.1 x.2.2.2.2.2.2.2 x.1/\Pr x.2.2.2.2.2.2.1 x.2.2.2.2.2.2.2 x.2.1/\Pr x.2.2.2.2.2.2.1 x.2.2.2.2.2.2.2 x.2.2.1/\Pr x.2.2.2.2.2.2.1 x.2.2.2.2.2.2.2 x.2.2.2.1) #[true,true,true,true,true,true,true,true,true,false,false] 2 ?_ ?_
 ·intro hN;have hR:=(h2.U f7).drew;have hU:M1 (λq=>q=4) O4 w5 O4 w5.drew:=ae zd O4 (L4 w5).drew;have k0:∀O W,M1 (λq=>q=4) O4 w5 O W->W.cell? (nA nb 1)=some a6:=λO W u=>(b2.U u zd zd).cell 1 rfl
  have kg:∀O W,M1 (λq=>q=4) O4 w5 O W->Sl encI 1 W gv (ints g):=λO W u=>(e'.ext (b5.J (u.mono (λ_ h=>zo) zd)).ext).natIv
  have kn:∀O W,M1 (λq=>q=4) O4 w5 O W->Rows W a6 (kZ g many rows):=λO W u=>(c9.U b8 (a2.mono (S':=λq=>q=3\/q=4) (λ_ h=>.inl h) zd |>.J (u.mono (λ_ h=>.inr h) zd))).rows.pack
  refine bK 1 8 zk rfl rfl ?_ ?_ 
  ·apply zc QS (jj (ints g) gv _ (kg _ _ hU));rintro _ wa ⟨rfl,c8⟩;rw[c8,hg.cnt];clear c8 wa;refine zh ?_
   apply af (k0 _ _ hU);refine bK 4 8 zk rfl rfl ?_ ?_ 
   ·apply zc QE (oI (many:Int) (kZ g many rows) a6 _ (kn _ _ hU));rintro _ wb ⟨pv,ep,rfl,fP,f5,d2,gP⟩;have gP:=gP a4;rw[a4,am zd]at fP;obtain⟨b9,b',d3,c7,c6,c5,n1,n2,n3,n4⟩:=gP;obtain⟨uv,bv,kv,a0,pe,f1,f2,f3,f4⟩:=fP;subst pe;obtain⟨rfl,rfl,rfl,rfl,rfl⟩:_=b9/\uv=b'/\bv=d3/\kv=c7/\a0=c6:=by simpa using c5
    have fU:=hU.size;have g1:=n1.free f1 (λx _=>by simp) hR;have g2:=n2.free f2 (λx _=>by simp) hR;have g3:=n3.free f3 (λx _=>by simp) hR;have g4:=n4.free f4 (λx _=>by simp) hR;have n1:=n1.mono fU;have n2:=n2.mono fU;have n3:=n3.mono fU;have n4:=n4.mono fU;have a7:=λO=>ae (S:=λ_=>False) (λh=>h) O d2
    have hU:=M6 hU ((a7 _).mono (λ_ h=>h.elim) zd);have hR:=Qc hR (a7 _)
    try have fC:=Mf fC (a7 _) zd (λh=>h)
    refine zh ?_;refine zaf (k0 _ _ hU) λzS=>?_
    apply zrm 5 rfl zS rfl;apply zr 6 rfl zS (λ_=>Nl rfl rfl)
    apply zr 7 rfl zS (λ_=>Nl rfl rfl);apply L3 8 zk rfl
    apply aw hR 4 zd (PI _) rfl;intro pb wc Oc fC a1 d0 a3;have hU:=M6 hU a1;have hR:=d0
    try have f1:=Nb f1 a3
    try have f2:=Nb f2 a3
    try have f3:=Nb f3 a3
    try have f4:=Nb f4 a3
    try have g1:=My g1 a1
    try have g2:=My g2 a1
    try have g3:=My g3 a1
    try have g4:=My g4 a1
    refine zh ?_;apply af (k0 _ _ hU)
    exact Nj (hN (uv,bv,kv,a0,ep,pb,_,_) ⟨f1,f2,f3,f4,n1,n2,n3,n4,fC,hU,hR,g1,g2,g3,g4⟩) zk ⟨rfl,rfl,rfl,rfl,rfl,trivial⟩ rfl
   apply aw hR 4 zd (PI _) rfl;intro pb wc Oc fC a1 d0 a3;have hU:=M6 hU a1;have hR:=d0
   try have f1:=Nb f1 a3
   try have f2:=Nb f2 a3
   try have f3:=Nb f3 a3
   try have f4:=Nb f4 a3
   try have g1:=My g1 a1
   try have g2:=My g2 a1
   try have g3:=My g3 a1
   try have g4:=My g4 a1
   refine zh ?_;apply af (k0 _ _ hU)
   apply L3 4 zk rfl;apply zc QE (oI (many:Int) (kZ g many rows) a6 _ (kn _ _ hU))
   rintro _ wb ⟨pv,ep,rfl,fP,f5,d2,gP⟩;have gP:=gP a4;rw[a4,am zd]at fP;obtain⟨b9,b',d3,c7,c6,c5,n1,n2,n3,n4⟩:=gP;obtain⟨uv,bv,kv,a0,pe,f1,f2,f3,f4⟩:=fP;subst pe;obtain⟨rfl,rfl,rfl,rfl,rfl⟩:_=b9/\uv=b'/\bv=d3/\kv=c7/\a0=c6:=by simpa using c5
   have fU:=hU.size;have g1:=n1.free f1 (λx _=>by simp) hR;have g2:=n2.free f2 (λx _=>by simp) hR;have g3:=n3.free f3 (λx _=>by simp) hR;have g4:=n4.free f4 (λx _=>by simp) hR;have n1:=n1.mono fU;have n2:=n2.mono fU;have n3:=n3.mono fU;have n4:=n4.mono fU;have a7:=λO=>ae (S:=λ_=>False) (λh=>h) O d2
   have hU:=M6 hU ((a7 _).mono (λ_ h=>h.elim) zd);have hR:=Qc hR (a7 _)
   try have fC:=Mf fC (a7 _) zd (λh=>h)
   refine zh ?_;refine zaf (k0 _ _ hU) λzS=>?_
   apply zrm 5 rfl zS rfl;apply zr 6 rfl zS (λ_=>Nl rfl rfl)
   apply zr 7 rfl zS (λ_=>Nl rfl rfl);exact Nj (hN (uv,bv,kv,a0,ep,pb,_,_) ⟨f1,f2,f3,f4,n1,n2,n3,n4,fC,hU,hR,g1,g2,g3,g4⟩) zk ⟨rfl,rfl,rfl,rfl,rfl,trivial⟩ rfl
  apply aw hR 4 zd (PI _) rfl;intro pb wc Oc fC a1 d0 a3;have hU:=M6 hU a1;have hR:=d0
  try have f1:=Nb f1 a3
  try have f2:=Nb f2 a3
  try have f3:=Nb f3 a3
  try have f4:=Nb f4 a3
  try have g1:=My g1 a1
  try have g2:=My g2 a1
  try have g3:=My g3 a1
  try have g4:=My g4 a1
  refine zh ?_;apply af (k0 _ _ hU)
  apply L3 1 zk rfl;apply zc QS (jj (ints g) gv _ (kg _ _ hU))
  rintro _ wa ⟨rfl,c8⟩;rw[c8,hg.cnt];clear c8 wa;refine zh ?_;apply af (k0 _ _ hU);apply L3 4 zk rfl;apply zc QE (oI (many:Int) (kZ g many rows) a6 _ (kn _ _ hU));rintro _ wb ⟨pv,ep,rfl,fP,f5,d2,gP⟩;have gP:=gP a4;rw[a4,am zd]at fP;obtain⟨b9,b',d3,c7,c6,c5,n1,n2,n3,n4⟩:=gP;obtain⟨uv,bv,kv,a0,pe,f1,f2,f3,f4⟩:=fP;subst pe;obtain⟨rfl,rfl,rfl,rfl,rfl⟩:_=b9/\uv=b'/\bv=d3/\kv=c7/\a0=c6:=by simpa using c5
  have fU:=hU.size;have g1:=n1.free f1 (λx _=>by simp) hR;have g2:=n2.free f2 (λx _=>by simp) hR;have g3:=n3.free f3 (λx _=>by simp) hR;have g4:=n4.free f4 (λx _=>by simp) hR;have n1:=n1.mono fU;have n2:=n2.mono fU;have n3:=n3.mono fU;have n4:=n4.mono fU;have a7:=λO=>ae (S:=λ_=>False) (λh=>h) O d2
  have hU:=M6 hU ((a7 _).mono (λ_ h=>h.elim) zd);have hR:=Qc hR (a7 _)
  try have fC:=Mf fC (a7 _) zd (λh=>h)
  refine zh ?_;refine zaf (k0 _ _ hU) λzS=>?_
  apply zrm 5 rfl zS rfl;apply zr 6 rfl zS (λ_=>Nl rfl rfl)
  apply zr 7 rfl zS (λ_=>Nl rfl rfl);exact Nj (hN (uv,bv,kv,a0,ep,pb,_,_) ⟨f1,f2,f3,f4,n1,n2,n3,n4,fC,hU,hR,g1,g2,g3,g4⟩) zk ⟨rfl,rfl,rfl,rfl,rfl,trivial⟩ rfl
 rintro⟨uv,bv,kv,a0,ep,pb,O7,w7⟩ ⟨f1,f2,f3,f4,n1,n2,n3,n4,b0,a8,h0,g1,g2,g3,g4⟩;dsimp only at f1 f2 f3 f4 n1 n2 n3 n4 b0 a8 h0 g1 g2 g3 g4 ⊢;have q1:=f1.one;have q2:=f2.one;have q3:=f3.one;have q4:=f4.one;have e5:=e6.U a8 zd zd;apply L3 9 zk rfl;apply zsb (us:=#[nI (ec g many rows).width,uv,bv,kv,a0]) b0 (PJ _) (by simp only[LY,q1,q2,q3,q4];rfl);have e0:=b0.setRow (us:=#[nI (ec g many rows).width,uv,bv,kv,a0]);have d7:M1 (λj=>j=4) O7 w7 O7 (w7.setRow pb #[nI (ec g many rows).width,uv,bv,kv,a0]):=L6 zd b0.tag rfl;generalize w7.setRow pb #[nI (ec g many rows).width,uv,bv,kv,a0]=w8 at *;have b1:=(b2.U a8 zd zd).U d7 zd zd;have b4:=e5.U d7 zd zd;have c':=a8.J d7;have d9:=a9.slU a' b8 ((a2.mono (S':=λq=>q=3\/q=4) (λ_ h=>.inl h) zd).J (c'.mono (λ_ h=>.inr h) zd));have d':=(a9.free a' (λx _=>by simp) b8).U ((a2.mono (S':=λq=>q=3\/q=4) (λ_ h=>.inl h) zd).J (c'.mono (λ_ h=>.inr h) zd));refine zh ?_;apply af (b1.cell 1 rfl);have e2:w8.cell? (nA nb 2)=some a5:=b1.cell 2 rfl;apply zra 10 rfl (b1.cell 1 rfl) rfl;apply Md zk;refine zh ?_;apply zv (ai (us:=[nI (ec g many rows).width,uv,bv,kv,a0]) e0.V (QD _) (PJ _) rfl);obtain⟨ta,tc,g5,_⟩:=a'.shape;refine zh ?_;apply zv (MS (cells:=#[nI (ec g many rows).width,uv,bv,kv,a0,a5]) LJ (QL _) rfl (by rw[g5];rfl))
 apply zsb (us:=#[nI (ec g many rows).width,uv,bv,kv,a0,a5]) b4 (MV _) (by simp only[LY,q1,q2,q3,q4,o3];rfl);have g7:=b4.setRow (us:=#[nI (ec g many rows).width,uv,bv,kv,a0,a5]);have f6:M1 (λj=>j=2) O7 w8 O7 (w8.setRow cb #[nI (ec g many rows).width,uv,bv,kv,a0,a5]):=L6 zd b4.tag rfl;have hU8z:=(d7.mono (S':=λq=>q=2\/q=4) (λ_ h=>.inr h) zd).J (f6.mono (λ_ h=>.inl h) zd);have d5:=b5.size;refine zh ?_
 refine aR rfl rfl g7.V (NS _) (MV _) ⟨[nI (ec g many rows).width,uv,bv,kv,a0,a5],rfl,⟨uv,bv,kv,a0,a5,rfl,f1.U g1 hU8z,f2.U g2 hU8z,f3.U g3 hU8z,f4.U g4 hU8z,d9.U d' f6⟩,λv hv=>?_,((b5.J (a8.mono (λ_ h=>zo) zd)).J (hU8z.mono (λ_ h=>zo) zd)).ext⟩;simp only[LX,Ma,or_false]at hv
 rcases hv with rfl|rfl|rfl|rfl|rfl|rfl
 ·exact λa n c e=>by cases e
 ·exact n1.mono d5
 ·exact n2.mono d5
 ·exact n3.mono d5
 ·exact n4.mono d5
 exact a9.mono b6.size
end Go.Proofs.YteolbhblkgjbhaaGreatDoor
section
namespace Go.VL
open Go.Proofs
def bW{N:Nat}{ops:Array Qe}{Q:Exit->Act->ln->Prop}{a0:List Qe}{st:St}{t:LZ}{p:String}{e:Array Edge}{x y:Pw} 
     {cs us:Array ix}  (off:Nat) (a1:Array ix) (hb:Mk O w i b cs E) (a2:(cs.toList.take off++us.toList++cs.toList.drop (off+us.size)).toArray=a1) (hs:off+us.size<=cs.size) (hT:(sizeOf T).run P w=.ok us.size w) (h1:us.toList.all Ml=true)
  {q:Pg} (hx:ev st x=some (.pointer (some q))) (hq:q=⟨b,off,none⟩) (hy:ev st y=some (.agg us))
  (h:WL P N ops Q a0 st (w.setRow b a1)):WL P N ops Q (⟨none,.store T x y,t,p,e,none⟩::a0) st w:=by
 subst a2;exact lT off hb hs hT h1 hx hq hy h
end Go.VL
namespace Go.Proofs.YteolbhblkgjbhaaGreatDoor
open Go.VL Go.Proofs
set_option maxRecDepth 10000
def GT:cI M5 31 #[(0,1),(1,1),(2,1),(3,1),(4,1),(5,6),(11,6)]:=⟨_,underlying31,λw=>by kernel_rfl⟩
structure TabM where
 ig:Nat
 kp:Nat
 br:Nat
 rules:Int
 groups:List Int
 left:Pb
 lt:List Nat
 right:Pb
 rt:List Nat
abbrev fp(ig kp br:Nat)(rules:Int)(gv:ix)(lc rc:List ix):List ix:=[.int .u64 (ig:Int),.int .u64 (kp:Int),.int .u64 (br:Int),nI rules,gv]++lc++rc
def TabV(w:ln)(v:ix)(t:TabM):Prop:=∃gv lc rc,v=.agg (fp t.ig t.kp t.br t.rules gv lc rc).toArray/\N6 w gv t.groups/\PartV w lc t.left t.lt/\PartV w rc t.right t.rt
def TabN(B:Nat)(v:ix):Prop:=∀cs:List ix,v=.agg cs.toArray->Ju B cs
abbrev dO:List ix:=[nI 0,nS,nS,nS,nS,nS]
abbrev tab0:Array ix:=(fp 0 0 0 0 nS dO dO).toArray
def iU(ts:List R3):Nat->Nat
 |0=>0
 |i+1=>if(nth ts i).2.2=true then iU ts i ||| 2^i else iU ts i
def yv(ts:List R3):∀i,i<=40->iU ts i<2^40
 |0,_=>by unfold iU;decide
 |i+1,h=>by
  unfold iU
  split
  ·exact Mr (yv ts i zo) (Mu zd zo)
  exact yv ts i zo
abbrev nz(ts:List R3):List Nd:=ts.map (·.1)
abbrev fz(ts:List R3):List Nd:=ts.map (·.2.1)
def og(li lk:List Int)(ts:List R3)(A B:List (List Nat)×List Nat):TabM:=
 ⟨dB li,dB lk,iU ts ts.length,ts.length,ints (bY [A.1,B.1]),ec (bY [A.1,B.1]) (iJ (ints (bY [A.1,B.1]))) A.1,A.2,ec (bY [A.1,B.1]) (iJ (ints (bY [A.1,B.1]))) B.1,B.2⟩
def PostC(B:Nat)(w:ln)(v:ix)(li lk:List Int)(ts:List R3):Prop:=
 (eZ li lk ts=false/\v=.tuple #[.agg tab0,nI 1])\/eZ li lk ts=true/\
  ((∃a b clA clB u,stM true (nz ts)=some a/\stM false (fz ts)=some b/\Mo a.1 a.2/\Mo b.1 b.2/\Cls clA a/\Cls clB b/\v=.tuple #[u,nI 0]/\TabV w u (og li lk ts (bm clA a.1 a.2) (bm clB b.1 b.2))/\TabN B u)\/
   ((stM true (nz ts)=none\/stM false (fz ts)=none)/\v=.tuple #[.agg tab0,nI 7]))
def eI{ts:List R3}(h:eZ li lk ts=true):ts.length<=40/\(∀c∈li,0<=c/\c<=35)/\(∀c∈lk,0<=c/\c<=35)/\∀t∈ts,sg t=true:=by
 have a0:∀ {l:List Int},lg l=true->∀c∈l,0<=c/\c<=35:=fun {l} h c hc=>by
  obtain⟨j,hj,rfl⟩:=cu hc;have:=bM.1 (show jy (Gz l) l.length=false by simpa[lg]using h) j hj;simp only[Gz,Bool.or_eq_false_iff,decide_eq_false_iff_not]at this;omega
 simp only[eZ,L8,decide_eq_true_eq]at h;obtain⟨⟨⟨h1,h2⟩,h3⟩,h4⟩:=h;refine⟨zo,a0 h2,a0 h3,λt ht=>?_⟩;obtain⟨j,hj,rfl⟩:=cu ht;have:=bM.1 (show jy (λi=>!(sg (nth ts i))) ts.length=false by simpa[KA]using h4) j hj;simpa using this
def PostSt.uni{o:Option (List (List Nat)×List Nat)}(h:PostSt B w v o):∃nv tv,∃e:Int,v=.tuple #[.agg #[nv,tv],nI e]/\nv.oneCell'=true/\tv.oneCell'=true/\(e≠0->o=none)/\
  (e=0->∃d cl,o=some d/\Mo d.1 d.2/\Cls cl d/\QO B w nv (bm cl d.1 d.2).1/\Sl jx 1 w tv (bm cl d.1 d.2).2/\Px B tv):=by
 cases o with
 |none=>
  obtain⟨e,he,rfl⟩:=h;exact⟨_,_,e,rfl,rfl,rfl,λ_=>rfl,λe0=>absurd e0 he⟩
 |some d=>
  obtain⟨cl,nv,tv,rfl,o1,o2,h1,h2,h3,h4,h5⟩:=h;exact⟨nv,tv,0,rfl,o1,o2,λe=>absurd rfl e,λ_=>⟨d,cl,rfl,h1,h2,h3,h4,h5⟩⟩
def fg(hr:Mo rows a0)(cl:Nat->Nat):Mo (bm cl rows a0).1 (bm cl rows a0).2:=by
 obtain⟨F,h⟩:=gK (cl:=cl) (tl:=nth a0) hr.nx (rows.length+1) 0 [0] [] [] (od hr.pos) zo;have h1:=h.rl;have h2:=h.tln;have h3:=h.reps.len;have h4:=hr.le;have h5:=h.p0
 exact⟨by show 0<(gi _ _ _ _ _ _ _ _).1.length;omega,by show(gi _ _ _ _ _ _ _ _).1.length<=1000;omega,by show(gi _ _ _ _ _ _ _ _).2.length=(gi _ _ _ _ _ _ _ _).1.length;omega,λj hj=>by
  obtain⟨r1,r2⟩:=h.row j (by rw[<-h1];exact hj)
  exact⟨r1,λm hm=>by have:=(r2 m hm).1;rw[<-h1]at this;exact this⟩⟩
section
variable(li lk:List Int)(ts:List R3)(A B:List (List Nat)×List Nat)
def Il:(og li lk ts A B).ig=dB li:=rfl
def Ik:(og li lk ts A B).kp=dB lk:=rfl
def Im:(og li lk ts A B).br=iU ts ts.length:=rfl
def Ar:(og li lk ts A B).rules=(ts.length:Int):=rfl
def xo:(og li lk ts A B).groups=ints (bY [A.1,B.1]):=rfl
def tX:(og li lk ts A B).left=ec (bY [A.1,B.1]) (iJ (ints (bY [A.1,B.1]))) A.1:=rfl
def qu:(og li lk ts A B).right=ec (bY [A.1,B.1]) (iJ (ints (bY [A.1,B.1]))) B.1:=rfl
def BW:(og li lk ts A B).lt=A.2:=rfl
def BV:(og li lk ts A B).rt=B.2:=rfl
end
def FH{B0:Nat}{ts:List R3}{xs:List X3}{b B:List (List Nat)×List Nat}{a6 a5:Nat->Nat}{a7:Nat}{pa pb:Pb}(a8:eZ li lk ts=true)(b4:stM true (nz ts)=some a)(b1:stM false (fz ts)=some b)(b5:Mo a.1 a.2)(b2:Mo b.1 b.2)(b6:Cls a6 a)(b3:Cls a5 b) 
  (hA:A=bm a6 a.1 a.2) (hB:B=bm a5 b.1 b.2) (a1:g=bY [A.1,B.1]) (a0:iJ (ints g)=many) (a':pa=ec g many A.1) (a9:pb=ec g many B.1) (a4:a7=iU ts xs.length) (hl:ts.length=xs.length) (b0:Sl bp 1 w gv g) (b8:PartV w lc pa A.2) (b7:PartV w rc pb B.2)
  (n1:Px B0 gv) (n2:Ju B0 lc) (n3:Ju B0 rc):PostC B0 w (.tuple #[.agg (fp (dB li) (dB lk) a7 (xs.length:Nat) gv lc rc).toArray,nI 0]) li lk ts:=by
 refine .inr ⟨a8,.inl ⟨a,b,a6,a5,_,b4,b1,b5,b2,b6,b3,rfl,?_,?_⟩⟩
 ·rw[<-hA,<-hB];have a0:iJ (ints (bY [A.1,B.1]))=many:=by rw[<-a1];exact a0
  refine⟨gv,lc,rc,?_,?_,?_,?_⟩
  ·rw[Il,Ik,Im,Ar,hl,<-a4]
  ·rw[xo,<-a1];exact b0.natIv
  ·rw[tX,BW,a0,<-a1,<-a'];exact b8
  rw[qu,BV,a0,<-a1,<-a9];exact b7
 intro cs a3;have a2:cs=fp (dB li) (dB lk) a7 (xs.length:Nat) gv lc rc:=by
  have:=(QH a3).symm;simpa using this
 subst a2;intro v hv
 rcases Mg.1 hv with hv|hv
 ·rcases Mg.1 hv with hv|hv
  ·simp only[LX,Ma,or_false]at hv
   rcases hv with rfl|rfl|rfl|rfl|rfl
   ·exact λa n c e=>by cases e
   ·exact λa n c e=>by cases e
   ·exact λa n c e=>by cases e
   ·exact λa n c e=>by cases e
   exact n1
  exact n2 v hv
 exact n3 v hv
set_option maxHeartbeats 1000000 in
def yr(li lk:List Int)(ts:List R3)(v:ix)(w:ln)(h:Tx w v li lk ts):
  MW M5 55 [v] w λu w'=>MP w w'/\PostC w.heap.size w' u li lk ts:=by
 obtain⟨ig,kp,ru,xs,rfl,hi,hk,l9,hl,hx⟩:=h.ex;have i1:=hi.one;have i2:=hk.one;have i3:=l9.one;apply L1 func55 ntmps55 rfl rfl;refine zh ?_;apply aQ (aA w) 1 zo rfl rfl;intro db w1 O1 t' hU1 hR1 hE1;apply aw hR1 2 zo (Mp _) rfl;intro cb w2 O2 u4 x9 hR2 hE2;have m6:=t'.U x9 zd zd;have n8:M1 (λq=>1<=q) (λ_=>0) w O2 w2:=(hU1.mono (λ_ h=>zo) zd).J (x9.mono (λ_ h=>zo) zd);have h8:=n8.ext;refine zh ?_;apply zv (ai (us:=[ig,kp,ru]) m6.V (isAgg56 _) (sizeOf56 _) rfl);apply zc call24 (AD li lk ts xs ig kp ru w2 (hi.ext h8) (hk.ext h8) (l9.ext h8) hl (λi hi=>(hx i hi).ext h8));rintro _ w3 ⟨rfl,hE3⟩;have p9:M1 (λ_=>False) O2 w2 O2 w3:=ae (λh=>h) O2 hE3;have j9:=m6.U p9 zd (λh=>h);have g8:=u4.U p9 zd (λh=>h);have g1:=n8.J (p9.mono (λ_ h=>h.elim) zd);have hR3:=hR2.U p9;refine zh ?_
 by_cases s9:eZ li lk ts=false
 ·refine zTH rfl ((by rw[s9];rfl)) ?_;apply zv (MS (cells:=tab0) GT (Mp _) rfl rfl)
  apply zsa (us:=tab0) g8 (Mw _);have j':=g8.setRow (us:=tab0);have k6:M1 (λj=>j=2) O2 w3 O2 (w3.setRow cb tab0):=L6 zd g8.tag rfl;refine zh ?_
  refine bE rfl rfl rfl j'.V (NC _) (Mw _) ⟨(g1.J (k6.mono (λ_ h=>zo) zd)).ext,.inl ⟨s9,rfl⟩⟩
 have l':eZ li lk ts=true:=by simpa using s9
 obtain⟨h40,x4,t5,hrr⟩:=eI l';apply aH rfl ((by rw[l'];rfl));have s8:=l9.ext g1.ext;refine zh ?_;have d0:=j9.drew.V;apply aO (λW=>∀j u,[ig,kp,ru][j]? = some u->W.cell? (nA db j)=some u) 12 rfl zk;apply zrf 0 rfl d0 rfl;apply zt 1 rfl d0 (λw1 a6=>RV.ld (a6 0 _ rfl) rfl);apply zrf 3 rfl d0 rfl;apply zt 4 rfl d0 (λw1 a6=>RV.ld (a6 1 _ rfl) rfl);apply zrf 6 rfl d0 rfl;apply zt 7 rfl d0 (λw1 a6=>RV.ld (a6 2 _ rfl) rfl);apply zr 8 rfl d0 (λ_=>bH s8.sh Pu rfl);refine ja (λx:Nat×(Nat->Nat)×World=>[(1,nP db),(2,nP cb),(4,.pointer (some ⟨x.1,0,none⟩)),(26,.agg (fp (dB li) (dB lk) 0 (xs.length:Nat) nS dO dO).toArray)]) (λx=>x.2.2) (λx=>Mk x.2.1 x.2.2 3 x.1 tab0 31/\M1 (λq=>q=3) O2 w3 x.2.1 x.2.2/\NN w.heap.size x.2.1 x.2.2) #[true,true,true,true,true,true,true,true,true,true,true,false] 1 ?_ ?_
 ·intro hN;have hR:=hR3.drew;have hU:M1 (λq=>q=3) O2 w3 O2 w3.drew:=ae zd O2 (L4 w3).drew;have k0:∀O W,M1 (λq=>q=3) O2 w3 O W->∀(j:Nat) (u:ix),[ig,kp,ru][j]? = some u->W.cell? (nA db j)=some u:=λO W u=>(j9.U u zd zd).V
  have ki:∀O W,M1 (λq=>q=3) O2 w3 O W->Sl encI 1 W ig li:=λO W u=>hi.ext (g1.J (u.mono (λ_ h=>zo) zd)).ext
  have kk:∀O W,M1 (λq=>q=3) O2 w3 O W->Sl encI 1 W kp lk:=λO W u=>hk.ext (g1.J (u.mono (λ_ h=>zo) zd)).ext
  refine bK 2 10 zk rfl rfl ?_ ?_ 
  ·apply zc PY (oq li ig _ (ki _ _ hU) x4);rintro _ wa ⟨rfl,c6⟩;rw[c6];clear c6 wa;refine zh ?_
   apply af (k0 _ _ hU);refine bK 5 10 zk rfl rfl ?_ ?_ 
   ·apply zc PY (oq lk kp _ (kk _ _ hU) t5);rintro _ wa ⟨rfl,c6⟩;rw[c6];clear c6 wa;refine zh ?_
    apply af (k0 _ _ hU);apply zr 9 rfl (k0 _ _ hU) (λ_=>MS (cells:=(fp (dB li) (dB lk) 0 (xs.length:Nat) nS dO dO).toArray) GT (Mp _) rfl rfl)
    apply L3 10 zk rfl;apply aw hR 3 zd (Mp _) rfl
    intro tb wc Oc fC b0 g2 y0;have hU:=M6 hU b0;have hR:=g2;refine zh ?_;apply af (k0 _ _ hU);exact Nj (hN (tb,_,_) ⟨fC,hU,hR⟩) zk ⟨rfl,rfl,rfl,rfl,trivial⟩ rfl
   apply aw hR 3 zd (Mp _) rfl;intro tb wc Oc fC b0 g2 y0;have hU:=M6 hU b0;have hR:=g2;refine zh ?_
   apply af (k0 _ _ hU);apply L3 5 zk rfl
   apply zc PY (oq lk kp _ (kk _ _ hU) t5);rintro _ wa ⟨rfl,c6⟩;rw[c6];clear c6 wa;refine zh ?_
   apply af (k0 _ _ hU);apply zr 9 rfl (k0 _ _ hU) (λ_=>MS (cells:=(fp (dB li) (dB lk) 0 (xs.length:Nat) nS dO dO).toArray) GT (Mp _) rfl rfl)
   exact Nj (hN (tb,_,_) ⟨fC,hU,hR⟩) zk ⟨rfl,rfl,rfl,rfl,trivial⟩ rfl
  apply aw hR 3 zd (Mp _) rfl;intro tb wc Oc fC b0 g2 y0;have hU:=M6 hU b0;have hR:=g2;refine zh ?_
  apply af (k0 _ _ hU);apply L3 2 zk rfl
  apply zc PY (oq li ig _ (ki _ _ hU) x4);rintro _ wa ⟨rfl,c6⟩;rw[c6];clear c6 wa;refine zh ?_
  apply af (k0 _ _ hU);apply L3 5 zk rfl
  apply zc PY (oq lk kp _ (kk _ _ hU) t5);rintro _ wa ⟨rfl,c6⟩;rw[c6];clear c6 wa;refine zh ?_
  apply af (k0 _ _ hU);apply zr 9 rfl (k0 _ _ hU) (λ_=>MS (cells:=(fp (dB li) (dB lk) 0 (xs.length:Nat) nS dO dO).toArray) GT (Mp _) rfl rfl)
  exact Nj (hN (tb,_,_) ⟨fC,hU,hR⟩) zk ⟨rfl,rfl,rfl,rfl,trivial⟩ rfl
 rintro⟨tb,O4,w4⟩ ⟨g5,r6,x'⟩;dsimp only at g5 r6 x' ⊢;have t9:=j9.U r6 zd zd;have u3:=g8.U r6 zd zd;apply L3 11 zk rfl;apply zsa (us:=(fp (dB li) (dB lk) 0 (xs.length:Nat) nS dO dO).toArray) g5 (Mw _);have s6:=g5.setRow (us:=(fp (dB li) (dB lk) 0 (xs.length:Nat) nS dO dO).toArray);have q':M1 (λj=>j=3) O4 w4 O4 (w4.setRow tb (fp (dB li) (dB lk) 0 (xs.length:Nat) nS dO dO).toArray):=L6 zd g5.tag rfl;generalize w4.setRow tb (fp (dB li) (dB lk) 0 (xs.length:Nat) nS dO dO).toArray=w5 at *;have m5:=t9.U q' zd zd;have u0:=u3.U q' zd zd;have hR5:=x'.U q';have n7:=g1.J ((r6.J q').mono (λ_ h=>zo) zd);refine zh ?_;apply af m5.V;have y7:=l9.ext n7.ext;have c2:w5.cell? (nA db 2)=some ru:=m5.cell 2 rfl;have z6:(2^40:Nat)=1099511627776:=zd;apply Md zk;refine zh ?_
 apply zlp (λz:Nat×(Nat->Nat)×World×ix×ix=>[(1,nP db),(2,nP cb),(4,nP tb),(5,z.2.2.2.1),(6,z.2.2.2.2),(28,ru),(29,nI xs.length),(30,nI z.1)]) (λz=>z.2.2.1) (λz=>z.1<=xs.length/\M1 (λq=>3<=q) O4 w5 z.2.1 z.2.2.1/\NN w.heap.size z.2.1 z.2.2.1/\Mk z.2.1 z.2.2.1 3 tb (fp (dB li) (dB lk) (iU ts z.1) (xs.length:Nat) nS dO dO).toArray 31/\Nv bu 120 3 z.2.1 z.2.2.1 4 z.2.2.2.1 ((xs.take z.1).map (·.1))/\Nv bu 120 3 z.2.1 z.2.2.1 5 z.2.2.2.2 ((xs.take z.1).map (·.2.1))) (λz=>xs.length-z.1) (0,O4,w5,nS,nS) ⟨L9 _,NJ zd _ _,hR5,s6,NU _ _ _ _ _ _,NU _ _ _ _ _ _⟩;rintro⟨i,O9,w9,lv,rv⟩ ⟨z1,p',j3,j6,g7,g6⟩;dsimp only at z1 p' j3 j6 g7 g6 ⊢;have h0:=n7.J (p'.mono (λ_ h=>zo) zd);have s7:=l9.ext h0.ext;have hxl:xs.length<=40:=zo;refine zh ?_
 refine zC ?_ ?_
 ·intro i5;replace i5:i<xs.length:=dT i5;obtain⟨x,p5⟩:∃x,x=nth xs i:=⟨_,rfl⟩
  have p4:=hx i i5;rw[<-p5]at p4;have p1:=p4.1.one;have p2:=p4.2.1.one;have y8:(cL x).toArray.toList.all Ml=true:=by obtain⟨x1,x2,bk⟩:=x;exact kX p1 p2
  refine zh ?_;apply zv (ai (us:=cL x) (λj u hu=>s7.cell i5 (by rw[<-p5];exact hu)) (Nz _) (MK _) rfl)
  apply aw j3 6 zo (Ns _) rfl;intro rb l0 O10 e5 u9 k8 p0;refine zh ?_
  apply zsb (us:=(cL x).toArray) e5 (MK _) y8;have e4:=e5.setRow (us:=(cL x).toArray);have h7:M1 (λj=>j=6) O10 l0 O10 (l0.setRow rb (cL x).toArray):=L6 zd e5.tag rfl;generalize l0.setRow rb (cL x).toArray=d7 at *;have d3:=u9.J h7;have l6:=j6.U d3 zd zd;have m2:=g7.U d3 zd zd;have m0:=g6.U d3 zd zd;have k7:=k8.U h7;obtain⟨y6,y5,rc3,_⟩:=kY e4;have hll:((xs.take i).map (·.1)).length=i:=by simp;omega
  have hrl:((xs.take i).map (·.2.1)).length=i:=by simp;omega
  refine zh ?_;apply aO (λW=>(∀(q:Nat) (u:ix),(bu x.1)[q]? = some u->W.cell? (nA rb q)=some u)/\(∀(q:Nat) (u:ix),(bu x.2.1)[q]? = some u->W.cell? ((nA rb 3).add q)=some u)) 12 rfl zk
  refine zin ⟨y6 _ (L4 d7).drew,y5 _ (L4 d7).drew⟩ λzS=>?_
  apply zrm 0 rfl zS rfl;apply zrf 1 rfl zS rfl
  apply zt 2 rfl zS (λw1 a6=>ai (us:=bu x.1) a6.1 (Ms _) (M9 _) rfl);apply zrm 5 rfl zS rfl
  apply zrf 6 rfl zS rfl;apply zt 7 rfl zS (λw1 a6=>ai (us:=bu x.2.1) a6.2 (Ms _) (M9 _) rfl)
  refine ja (λy:ix×ix×(Nat->Nat)×World=>[(1,nP db),(2,nP cb),(4,nP tb),(7,nI (i:Nat)),(8,nP rb),(28,ru),(29,nI xs.length),(30,nI (i:Nat)),(39,y.1),(44,y.2.1)]) (λy=>y.2.2.2) (λy=>Nv bu 120 3 y.2.2.1 y.2.2.2 4 y.1 ((xs.take i).map (·.1)++[x.1])/\Nv bu 120 3 y.2.2.1 y.2.2.2 5 y.2.1 ((xs.take i).map (·.2.1)++[x.2.1])/\M1 (λq=>q=4\/q=5\/q=7\/q=8) O10 d7 y.2.2.1 y.2.2.2/\NN w.heap.size y.2.2.1 y.2.2.2) #[true,true,true,true,true,true,true,true,true,true,false,false] 2 ?_ ?_
  ·intro hN;have hR:=k7.drew;have hU:M1 (λq=>q=4\/q=5\/q=7\/q=8) O10 d7 O10 d7.drew:=ae zd O10 (L4 d7).drew;have k0:∀O W,M1 (λq=>q=4\/q=5\/q=7\/q=8) O10 d7 O W->(∀(q:Nat) (u:ix),(bu x.1)[q]? = some u->W.cell? (nA rb q)=some u)/\(∀(q:Nat) (u:ix),(bu x.2.1)[q]? = some u->W.cell? ((nA rb 3).add q)=some u):=λO W u=>by
    obtain⟨r1,r2,_,_⟩:=kY (e4.U u zd zd);exact⟨r1 _ (L4 _),r2 _ (L4 _)⟩
   have rA:=m2.drew;have rB:=m0.drew;refine bK 3 8 zk rfl rfl ?_ ?_ 
   ·apply aN elN (enc:=bu) hR 7 zd x.1 rfl rfl rfl zd rfl;intro y4 Wa Oa sA g9 u';have hU:=M6 hU (MI g9 (λ_ h=>.inr (.inr (.inl h))) zd);have hR:=u';have rA:=M4 rA g9 zd zd;have rB:=M4 rB g9 zd zd
    try have sB:=M4 sB g9 zd zd
    refine zh ?_;apply af (k0 _ _ hU)
    refine bK 4 8 zk rfl rfl ?_ ?_ 
    ·apply aF elN rA hR sA.sl (by simp) rfl rfl (by simp) (λu hu c hc=>by rw[L0.1 hu]at hc;simp only[bu,LX,Ma,or_false]at hc;rcases hc with rfl|rfl|rfl;rfl;rfl;exact p1) (by simp only[L5];omega) (by simp only[L5];omega) zd rfl;intro h' Wc Oc rA b0 g2;have hU:=M6 hU (MI b0 (λ_ h=>.inl h) zd);have hR:=g2;have rB:=M4 rB b0 zd zd
     try have sB:=M4 sB b0 zd zd
     refine zh ?_;apply af (k0 _ _ hU)
     apply L3 8 zk rfl;apply aN elN (enc:=bu) hR 8 zd x.2.1 rfl rfl rfl zd rfl
     intro w6 Wb Ob sB d1 o5;have hU:=M6 hU (MI d1 (λ_ h=>.inr (.inr (.inr h))) zd);have hR:=o5;have rA:=M4 rA d1 zd zd;have rB:=M4 rB d1 zd zd
     try have sA:=M4 sA d1 zd zd
     refine zh ?_;apply af (k0 _ _ hU)
     apply L3 9 zk rfl;apply aF elN rB hR sB.sl (by simp) rfl rfl (by simp) (λu hu c hc=>by rw[L0.1 hu]at hc;simp only[bu,LX,Ma,or_false]at hc;rcases hc with rfl|rfl|rfl;rfl;rfl;exact p2) (by simp only[L5];omega) (by simp only[L5];omega) zd rfl
     intro h9 Wd Od rB g3 o4;have hU:=M6 hU (MI g3 (λ_ h=>.inr (.inl h)) zd);have hR:=o4;have rA:=M4 rA g3 zd zd;refine zh ?_;apply af (k0 _ _ hU);exact Nj (hN (h',h9,_,_) ⟨rA,rB,hU,hR⟩) zk ⟨rfl,rfl,rfl,rfl,rfl,rfl,rfl,rfl,rfl,rfl,trivial⟩ rfl
    apply aN elN (enc:=bu) hR 8 zd x.2.1 rfl rfl rfl zd rfl;intro w6 Wb Ob sB d1 o5;have hU:=M6 hU (MI d1 (λ_ h=>.inr (.inr (.inr h))) zd);have hR:=o5;have rA:=M4 rA d1 zd zd;have rB:=M4 rB d1 zd zd
    try have sA:=M4 sA d1 zd zd
    refine zh ?_;apply af (k0 _ _ hU)
    apply L3 4 zk rfl;apply aF elN rA hR sA.sl (by simp) rfl rfl (by simp) (λu hu c hc=>by rw[L0.1 hu]at hc;simp only[bu,LX,Ma,or_false]at hc;rcases hc with rfl|rfl|rfl;rfl;rfl;exact p1) (by simp only[L5];omega) (by simp only[L5];omega) zd rfl
    intro h' Wc Oc rA b0 g2;have hU:=M6 hU (MI b0 (λ_ h=>.inl h) zd);have hR:=g2;have rB:=M4 rB b0 zd zd
    try have sB:=M4 sB b0 zd zd
    refine zh ?_;apply af (k0 _ _ hU)
    apply L3 9 zk rfl;apply aF elN rB hR sB.sl (by simp) rfl rfl (by simp) (λu hu c hc=>by rw[L0.1 hu]at hc;simp only[bu,LX,Ma,or_false]at hc;rcases hc with rfl|rfl|rfl;rfl;rfl;exact p2) (by simp only[L5];omega) (by simp only[L5];omega) zd rfl
    intro h9 Wd Od rB g3 o4;have hU:=M6 hU (MI g3 (λ_ h=>.inr (.inl h)) zd);have hR:=o4;have rA:=M4 rA g3 zd zd;refine zh ?_;apply af (k0 _ _ hU);exact Nj (hN (h',h9,_,_) ⟨rA,rB,hU,hR⟩) zk ⟨rfl,rfl,rfl,rfl,rfl,rfl,rfl,rfl,rfl,rfl,trivial⟩ rfl
   apply aN elN (enc:=bu) hR 8 zd x.2.1 rfl rfl rfl zd rfl;intro w6 Wb Ob sB d1 o5;have hU:=M6 hU (MI d1 (λ_ h=>.inr (.inr (.inr h))) zd);have hR:=o5;have rA:=M4 rA d1 zd zd;have rB:=M4 rB d1 zd zd
   try have sA:=M4 sA d1 zd zd
   refine zh ?_;apply af (k0 _ _ hU)
   apply L3 3 zk rfl;apply aN elN (enc:=bu) hR 7 zd x.1 rfl rfl rfl zd rfl
   intro y4 Wa Oa sA g9 u';have hU:=M6 hU (MI g9 (λ_ h=>.inr (.inr (.inl h))) zd);have hR:=u';have rA:=M4 rA g9 zd zd;have rB:=M4 rB g9 zd zd
   try have sB:=M4 sB g9 zd zd
   refine zh ?_;apply af (k0 _ _ hU)
   apply L3 4 zk rfl;apply aF elN rA hR sA.sl (by simp) rfl rfl (by simp) (λu hu c hc=>by rw[L0.1 hu]at hc;simp only[bu,LX,Ma,or_false]at hc;rcases hc with rfl|rfl|rfl;rfl;rfl;exact p1) (by simp only[L5];omega) (by simp only[L5];omega) zd rfl
   intro h' Wc Oc rA b0 g2;have hU:=M6 hU (MI b0 (λ_ h=>.inl h) zd);have hR:=g2;have rB:=M4 rB b0 zd zd
   try have sB:=M4 sB b0 zd zd
   refine zh ?_;apply af (k0 _ _ hU)
   apply L3 9 zk rfl;apply aF elN rB hR sB.sl (by simp) rfl rfl (by simp) (λu hu c hc=>by rw[L0.1 hu]at hc;simp only[bu,LX,Ma,or_false]at hc;rcases hc with rfl|rfl|rfl;rfl;rfl;exact p2) (by simp only[L5];omega) (by simp only[L5];omega) zd rfl
   intro h9 Wd Od rB g3 o4;have hU:=M6 hU (MI g3 (λ_ h=>.inr (.inl h)) zd);have hR:=o4;have rA:=M4 rA g3 zd zd;refine zh ?_;apply af (k0 _ _ hU);exact Nj (hN (h',h9,_,_) ⟨rA,rB,hU,hR⟩) zk ⟨rfl,rfl,rfl,rfl,rfl,rfl,rfl,rfl,rfl,rfl,trivial⟩ rfl
  rintro⟨h',h9,O12,g4⟩ ⟨e6,a',b8,a5⟩;dsimp only at e6 a' b8 a5 ⊢;have m1:=e4.U b8 zd zd;have a9:=l6.U b8 zd zd;obtain⟨s1,s2,s3,_⟩:=kY m1;have b3:=(p'.J (d3.mono (λ_ h=>zo) zd)).J (b8.mono (λ_ h=>zo) zd);have s3':=s3 _ (L4 _);have x6:x.2.2=(nth ts i).2.2:=p4.2.2;have el:(xs.take (i+1)).map (·.1)=(xs.take i).map (·.1)++[x.1]:=by rw[bd i5,MB,<-p5];rfl
  have er:(xs.take (i+1)).map (·.2.1)=(xs.take i).map (·.2.1)++[x.2.1]:=by rw[bd i5,MB,<-p5];rfl
  refine zin ⟨s1 _ (L4 _),s2 _ (L4 _)⟩ λzS=>?_
  apply zra 10 rfl zS rfl;apply zra 11 rfl zS rfl
  apply Md zk;refine zh ?_
  have z3:=yv ts i zo;refine zC ?_ ?_
  ·intro hb;have u5:iU ts (i+1)=iU ts i ||| 2^i:=by rw[show iU ts (i+1)=if(nth ts i).2.2=true then iU ts i ||| 2^i else iU ts i from rfl,ap (by rw[<-x6];exact hb)]
   have hpw:2^i<2^40:=Mu zd zo;have t2:g4.cell? (nA tb 2)=some (.int .u64 ((iU ts i:Nat):Int)):=a9.cell 2 rfl;apply NX 6 rfl rfl zk zk;refine zh ?_;apply zw (yI (a:=1) (b:=i) rfl rfl rfl rfl (by show _<=64;omega) (by show _<=(18446744073709551615:Int);omega));rw[NP];refine zwH (vX (a:=iU ts i) (b:=2^i) rfl rfl rfl rfl (by show _<=(18446744073709551615:Int);omega) (by show _<=(18446744073709551615:Int);omega)) ?_;apply PK;rw[<-u5];apply ao (j:=2) a9.drew rfl (Qp _) rfl rfl rfl rfl;have h6:M1 (λj=>j=3) O12 g4.drew O12 (g4.drew.setCell ⟨tb,2,none⟩ (.int .u64 ((iU ts (i+1):Nat):Int))):=Mm zd a9.tag rfl;have l5:Mk O12 (g4.drew.setCell ⟨tb,2,none⟩ (.int .u64 ((iU ts (i+1):Nat):Int))) 3 tb (fp (dB li) (dB lk) (iU ts (i+1)) (xs.length:Nat) nS dO dO).toArray 31:=a9.drew.set 2 _;generalize g4.drew.setCell ⟨tb,2,none⟩ (.int .u64 ((iU ts (i+1):Nat):Int))=s0 at *;refine zh ?_;refine zxd (i+1,O12,s0,h',h9) ⟨i5,b3.drew.J (h6.mono (λ_ h=>zo) zd),a5.drew.U h6,l5,by dsimp only;rw[el];exact e6.drew.U h6 zd zd,by dsimp only;rw[er];exact a'.drew.U h6 zd zd⟩
  intro hb;have u5:iU ts (i+1)=iU ts i:=by rw[show iU ts (i+1)=if(nth ts i).2.2=true then iU ts i ||| 2^i else iU ts i from rfl,am (by rw[<-x6,hb];decide)]
  refine zh ?_;refine zxd (i+1,O12,g4,h',h9) ⟨i5,b3,a5,by dsimp only;rw[u5];exact a9,by dsimp only;rw[el];exact e6,by dsimp only;rw[er];exact a'⟩
 intro p6;obtain rfl:i=xs.length:=dF p6;rw[Mj]at g7 g6;have hR9':=j3;refine zh ?_;apply zc call90 (qw true (nz ts) (xs.map (·.1)) lv w9 g7.sl (by simp[hl]) (λj hj=>by rw[M7]at hj;rw[ed hj,show nz ts=ts.map (·.1)from rfl,ed zo];exact(hx j hj).1.ext h0.ext));rintro va l0 ⟨p0,hPa⟩;obtain⟨e0,d9,ea,rfl,a1,a2,ha0,ha1⟩:=hPa.uni;have k5:M1 (λ_=>False) O9 w9 O9 l0:=ae (λh=>h) O9 p0;have k8:=j3.U k5;refine zh ?_;apply aw k8 7 zo (Mz _) rfl;intro ab d7 O11 f4 h7 k7 hE11;apply zsb (us:=#[e0,d9]) f4 (Mh _) (by simp only[LY,a1,a2];rfl);have n3:=f4.setRow (us:=#[e0,d9]);have b8:M1 (λj=>j=7) O11 d7 O11 (d7.setRow ab #[e0,d9]):=L6 zd f4.tag rfl;generalize d7.setRow ab #[e0,d9]=g4 at *;have g0:=h7.J b8;have b3:=(k5.mono (S':=λq=>q=7) (λ_ h=>h.elim) zd).J g0;have a5:=k7.U b8;have a':=g6.U b3 zd zd;have n5:=h0.J (b3.mono (λ_ h=>zo) zd);refine zh ?_;apply zc call90 (qw false (fz ts) (xs.map (·.2.1)) rv g4 a'.sl (by simp[hl]) (λj hj=>by rw[M7]at hj;rw[ed hj,show fz ts=ts.map (·.2.1)from rfl,ed zo];exact(hx j hj).2.1.ext n5.ext));rintro vb s0 ⟨v6,hPb⟩;obtain⟨d',d8,eb,rfl,b1,b2,z8,z7⟩:=hPb.uni;have n4:M1 (λ_=>False) O11 g4 O11 s0:=ae (λh=>h) O11 v6;have v2:=a5.U n4;refine zh ?_;apply aw v2 8 zo (Mz _) rfl
 intro bb r' O14 e' u7 v1 hE14;apply zsb (us:=#[d',d8]) e' (Mh _) (by simp only[LY,b1,b2];rfl);have i':=e'.setRow (us:=#[d',d8]);have n6:M1 (λj=>j=8) O14 r' O14 (r'.setRow bb #[d',d8]):=L6 zd e'.tag rfl;generalize r'.setRow bb #[d',d8]=w15 at *;have b7:=u7.J n6;have f8:=(n4.mono (S':=λq=>q=8) (λ_ h=>h.elim) zd).J b7;have b9:=(g0.mono (S':=λq=>q=7\/q=8) (λ_ h=>.inl h) zd).J (f8.mono (λ_ h=>.inr h) zd);have f5:=(k5.mono (S':=λq=>q=7\/q=8) (λ_ h=>h.elim) zd).J b9;have o7:=v1.U n6;have d2:=h0.J (f5.mono (λ_ h=>zo) zd);have j1:=n3.U f8 zd zd;have l4:=j6.U f5 zd zd;have a4:=(u0.U p' zd zd).U f5 zd zd;refine zh ?_
 by_cases p8:ea=0
 ·apply ay (d:=66) rfl (b':=false) ((by rw[p8];rfl));refine zh ?_
  by_cases p7:eb=0
  ·obtain⟨a,y3,z9,x8,z',j8,j5,l3⟩:=ha1 p8;obtain⟨b,y2,z4,x7,z5,j7,j4,l2⟩:=z7 p7;have r8:=fg x8 y3;have r7:=fg x7 y2;obtain⟨A,hA⟩:∃A,A=bm y3 a.1 a.2:=⟨_,rfl⟩
   obtain⟨B,hB⟩:∃B,B=bm y2 b.1 b.2:=⟨_,rfl⟩
   rw[<-hA]at r8 j8 j5;rw[<-hB]at r7 j7 j4;refine zFH rfl ((by rw[p7];rfl)) ?_;apply zv (ai (us:=[e0,d9]) j1.V (Na _) (Mh _) rfl);apply zv (ai (us:=[d',d8]) i'.V (Na _) (Mh _) rfl);apply cE underlying218 (Mh _) (Mz _) A8 [(e0,d9),(d',d8)] rfl rfl rfl rfl zk (by simp) rfl;intro l1 p3 l8 o';have g':M1 (λ_=>False) O14 w15 O14 p3:=ae (λh=>h) O14 o';have f':=b9.J (g'.mono (S':=λq=>q=7\/q=8) (λ_ h=>h.elim) zd);have f7:=b7.J (g'.mono (S':=λq=>q=8) (λ_ h=>h.elim) zd);have v':=j8.U j3 f';have v8:=j7.U a5 f7;have o2:=l3.slU j5 j3 f';have o0:=l2.slU j4 a5 f7
   have n9:TabsD p3 l1 [(e0,d9),(d',d8)] [A.1,B.1] [A.2,B.2]:=⟨l8,rfl,rfl,λi hi=>by
    match i,hi with
    |0,_=>exact⟨by rw[ar,ar];exact v'.rows,by rw[ar,ar];exact o2,by rw[ar,ar];exact r8⟩
    |1,_=>exact⟨by rw[aX,aX,ar,ar];exact v8.rows,by rw[aX,aX,ar,ar];exact o0,by rw[aX,aX,ar,ar];exact r7⟩⟩
   apply zc call91 (A3 [(e0,d9),(d',d8)] [A.1,B.1] [A.2,B.2] l1 p3 n9 (by simp));rintro gv k' ⟨c8,v5,i6⟩;obtain⟨many,hg,m4⟩:=qW [A.1,B.1];obtain⟨g,p6⟩:∃g,g=bY [A.1,B.1]:=⟨_,rfl⟩
   rw[<-p6]at hg m4 c8;have x5:∀T∈[A,B],∀p,p<T.1.length->∀i j,i<37->j<37->nth g i=nth g j->nth (nth T.1 p) i=nth (nth T.1 p) j:=λT hT p hp i j hi hj e=>by
    refine zW (tabs:=[A.1,B.1]) (λrows e2 r hr=>?_) ((m4 i j hi hj).1 e) T.1 ?_ _ (aZ hp)
    ·have o3:∃w0,Mo rows w0:=by
      rcases LX.1 e2 with rfl|e2
      ·exact⟨_,r8⟩
      rw[L0.1 e2];exact⟨_,r7⟩
     obtain⟨w0,o3⟩:=o3;obtain⟨q,hq,rfl⟩:=cu hr;have h1:=(o3.row q hq).2 i hi;have h2:=(o3.row q hq).2 j hj;have:=o3.le;omega
    rcases LX.1 hT with rfl|hT
    ·simp
    rw[L0.1 hT];simp
   have u6:M1 (λ_=>False) O14 p3 O14 k':=ae (λh=>h) O14 v5;have b6:=g'.J u6;have e1:=l4.U b6 zd (λh=>h);have v0:=o7.U b6;have y1:=c8.one;have i8:=i6.free c8 (λx _=>by simp) (o7.U g');refine zh ?_;apply ao (j:=4) e1 rfl (sizeOf22 _) y1 rfl rfl rfl;have h5:M1 (λj=>j=3) O14 k' O14 (k'.setCell ⟨tb,4,none⟩ gv):=Mm zd e1.tag rfl;have c7:Mk O14 (k'.setCell ⟨tb,4,none⟩ gv) 3 tb (fp (dB li) (dB lk) (iU ts xs.length) (xs.length:Nat) gv dO dO).toArray 31:=e1.set 4 _;generalize k'.setCell ⟨tb,4,none⟩ gv=w18 at *;have e7:=c8.U i8 h5;have i7:=i8.U h5;have o6:=v0.U h5;have a0:=(b6.mono (S':=λq=>q=3) (λ_ h=>h.elim) zd).J h5;have c':=j1.U a0 zd zd;have c9:=i'.U a0 zd zd;have m9:=a4.U a0 zd zd;have j2:=d2.J (a0.mono (λ_ h=>zo) zd);have f9:=(b9.mono (S':=λq=>q=3\/q=7\/q=8) (λ_ h=>.inr h) zd).J (a0.mono (λ_ h=>.inl h) zd);have f6:=(b7.mono (S':=λq=>q=3\/q=8) (λ_ h=>.inr h) zd).J (a0.mono (λ_ h=>.inl h) zd);have v9:=j8.U j3 f9;have v7:=j7.U a5 f6;have o1:=l3.slU j5 j3 f9;have n':=l2.slU j4 a5 f6;refine zh ?_;have d4:w18.drew.cell? (nA tb 4)=some gv:=c7.cell 4 rfl;apply aO (λW=>W.cell? (nA tb 4)=some gv/\(∀j u,[e0,d9][j]? = some u->W.cell? (nA ab j)=some u)/\∀j u,[d',d8][j]? = some u->W.cell? (nA bb j)=some u) 12 rfl zk;refine zin ⟨d4,c'.drew.V,c9.drew.V⟩ λzS=>?_
   apply zrf 0 rfl zS rfl;apply zt 1 rfl zS (λw1 a6=>RV.ld a6.1 rfl)
   apply zt 2 rfl zS (λw1 a6=>ai (us:=[e0,d9]) a6.2.1 (Na _) (Mh _) rfl);apply zrf 4 rfl zS rfl
   apply zt 5 rfl zS (λw1 a6=>RV.ld a6.1 rfl);apply zt 6 rfl zS (λw1 a6=>ai (us:=[d',d8]) a6.2.2 (Na _) (Mh _) rfl)
   have g3:M1 (λ_=>False) O14 w18 O14 w18.drew:=ae (λh=>h) O14 (L4 w18).drew;apply L3 3 zk rfl;apply zc call92 (zl g many gv e0 d9 A.1 A.2 w18.drew hg e7.drew (v9.ext (L4 w18).drew).rows o1.drew r8 (x5 A (by simp)));rintro _ r9 ⟨lc,rfl,y',t4,o9⟩;have d5:M1 (λ_=>False) O14 w18 O14 r9:=g3.J (ae (λh=>h) O14 o9);have a3:MP w18 r9:=(L4 w18).drew.J o9;refine zh ?_;apply af ⟨a3.cell (c7.cell 4 rfl),(c'.U d5 zd (λh=>h)).V,(c9.U d5 zd (λh=>h)).V⟩;apply zrf 8 rfl ⟨a3.cell (c7.cell 4 rfl),(c'.U d5 zd (λh=>h)).V,(c9.U d5 zd (λh=>h)).V⟩ rfl;apply L3 7 zk rfl;apply zc call92 (zl g many gv d' d8 B.1 B.2 r9 hg (e7.ext a3) (v7.ext a3).rows (n'.ext a3) r7 (x5 B (by simp)));rintro _ k9 ⟨rc,rfl,y9,e3,o8⟩;have b5:M1 (λ_=>False) O14 w18 O14 k9:=d5.J (ae (λh=>h) O14 o8);have a8:=c7.U b5 zd (λh=>h);have j0:=c'.U b5 zd (λh=>h);have i9:=c9.U b5 zd (λh=>h);have m8:=m9.U b5 zd (λh=>h);have m3:=y'.ext o8;refine zh ?_;apply af ⟨a8.cell 4 rfl,j0.V,i9.V⟩;obtain⟨u1,b4,k1,n1,t1,t6,s5,k4,t8,t3,w8⟩:=m3;obtain⟨u2,d6,k2,n2,t2,s',s4,k3,t7,t0,w7⟩:=y9;subst t6;subst s';have q1:=s5.one;have q2:=k4.one;have q3:=t8.one;have q4:=t3.one;have q5:=w8.one;have r1:=s4.one;have r2:=k3.one;have r3:=t7.one;have r4:=t0.one;have r5:=w7.one;obtain⟨pa,x3⟩:∃pa,pa=ec g many A.1:=⟨_,rfl⟩
   obtain⟨pb,x0⟩:∃pb,pb=ec g many B.1:=⟨_,rfl⟩
   rw[<-x3]at s5 k4 t8 t3 t4 ⊢;rw[<-x0]at s4 k3 t7 t0 e3 ⊢;obtain⟨c5,m'⟩:∃c5,c5=iU ts xs.length:=⟨_,rfl⟩
   rw[<-m']at a8;apply L3 9 zk rfl;apply bW (us:=#[nI pa.width,u1,b4,k1,n1,t1]) 5 (fp (dB li) (dB lk) c5 (xs.length:Nat) gv [nI pa.width,u1,b4,k1,n1,t1] dO).toArray a8 rfl (by show 5+6<=17;omega) (MV _) (by simp only[LY,q1,q2,q3,q4,q5];rfl) rfl rfl rfl;have a7:=a8.setRow (us:=(fp (dB li) (dB lk) c5 (xs.length:Nat) gv [nI pa.width,u1,b4,k1,n1,t1] dO).toArray);have h4:M1 (λj=>j=3) O14 k9 O14 (k9.setRow tb (fp (dB li) (dB lk) c5 (xs.length:Nat) gv [nI pa.width,u1,b4,k1,n1,t1] dO).toArray):=L6 zd a8.tag rfl;generalize k9.setRow tb (fp (dB li) (dB lk) c5 (xs.length:Nat) gv [nI pa.width,u1,b4,k1,n1,t1] dO).toArray=w21 at *;have f3:=j0.U h4 zd zd;have e9:=i9.U h4 zd zd;have m7:=m8.U h4 zd zd;refine zh ?_;apply af ⟨a7.cell 4 rfl,f3.V,e9.V⟩;apply zrf 10 rfl ⟨a7.cell 4 rfl,f3.V,e9.V⟩ rfl;apply L3 11 zk rfl;apply bW (us:=#[nI pb.width,u2,d6,k2,n2,t2]) 11 (fp (dB li) (dB lk) c5 (xs.length:Nat) gv [nI pa.width,u1,b4,k1,n1,t1] [nI pb.width,u2,d6,k2,n2,t2]).toArray a7 rfl (by show 11+6<=17;omega) (MV _) (by simp only[LY,r1,r2,r3,r4,r5];rfl) rfl rfl rfl;have i0:=a7.setRow (us:=(fp (dB li) (dB lk) c5 (xs.length:Nat) gv [nI pa.width,u1,b4,k1,n1,t1] [nI pb.width,u2,d6,k2,n2,t2]).toArray)
   have h3:M1 (λj=>j=3) O14 w21 O14 (w21.setRow tb (fp (dB li) (dB lk) c5 (xs.length:Nat) gv [nI pa.width,u1,b4,k1,n1,t1] [nI pb.width,u2,d6,k2,n2,t2]).toArray):=L6 zd a7.tag rfl;generalize w21.setRow tb (fp (dB li) (dB lk) c5 (xs.length:Nat) gv [nI pa.width,u1,b4,k1,n1,t1] [nI pb.width,u2,d6,k2,n2,t2]).toArray=w22 at *;have e8:=m7.U h3 zd zd;refine zh ?_;apply af ⟨i0.cell 4 rfl,(f3.U h3 zd zd).V,(e9.U h3 zd zd).V⟩;have go2:=y1;have n0:(fp (dB li) (dB lk) c5 (xs.length:Nat) gv [nI pa.width,u1,b4,k1,n1,t1] [nI pb.width,u2,d6,k2,n2,t2]).toArray.toList.all Ml=true:=by
    simp only[fp,PE,PO,LY,go2,q1,q2,q3,q4,q5,r1,r2,r3,r4,r5];rfl
   apply Md zk;refine zh ?_
   apply zv (ai (us:=fp (dB li) (dB lk) c5 (xs.length:Nat) gv [nI pa.width,u1,b4,k1,n1,t1] [nI pb.width,u2,d6,k2,n2,t2]) i0.V (NC _) (Mw _) rfl);apply zsb (us:=(fp (dB li) (dB lk) c5 (xs.length:Nat) gv [nI pa.width,u1,b4,k1,n1,t1] [nI pb.width,u2,d6,k2,n2,t2]).toArray) e8 (Mw _) n0
   have j':=N7 (us:=(fp (dB li) (dB lk) c5 (xs.length:Nat) gv [nI pa.width,u1,b4,k1,n1,t1] [nI pb.width,u2,d6,k2,n2,t2]).toArray) e8;have k6:M1 (λj=>j=2) O14 w22 O14 (w22.setRow cb (fp (dB li) (dB lk) c5 (xs.length:Nat) gv [nI pa.width,u1,b4,k1,n1,t1] [nI pb.width,u2,d6,k2,n2,t2]).toArray):=L6 zd e8.tag rfl;have hU20z:=((h4.mono (S':=λq=>q=2\/q=3) (λ_ h=>.inr h) zd).J (h3.mono (λ_ h=>.inr h) zd)).J (k6.mono (λ_ h=>.inl h) zd);have hPL:PartV k9 [nI pa.width,u1,b4,k1,n1,t1] pa A.2:=⟨u1,b4,k1,n1,t1,rfl,s5,k4,t8,t3,w8⟩
   have hPR:PartV k9 [nI pb.width,u2,d6,k2,n2,t2] pb B.2:=⟨u2,d6,k2,n2,t2,rfl,s4,k3,t7,t0,w7⟩
   have v4:=hPL.U t4 o6.drew hU20z;have v3:=hPR.U e3 (o6.U d5) hU20z;have z2:=(e7.U i7 b5).U (i7.U b5) hU20z;have i4:=j2.size;have l7:=a3.size;refine zh ?_;refine bE rfl rfl rfl j'.V (NC _) (Mw _) ⟨((j2.J (b5.mono (λ_ h=>h.elim) zd)).J (hU20z.mono (λ_ h=>zo) zd)).ext,FH l' z9 z4 x8 x7 z' z5 hA hB p6 hg.cnt x3 x0 m' hl z2 v4 v3 (i6.mono (Pd d2.size o'.size)) (λv hv=>(t4 v hv).mono i4) (λv hv=>(e3 v hv).mono (Pd i4 l7))⟩
  refine zTH rfl ((by simpa using p7)) ?_;apply zv (MS (cells:=tab0) GT (Mp _) rfl rfl)
  apply zsa (us:=tab0) a4 (Mw _);have j':=N7 (us:=tab0) a4;have k6:M1 (λj=>j=2) O14 w15 O14 (w15.setRow cb tab0):=L6 zd a4.tag rfl;refine zh ?_
  refine bE rfl rfl rfl j'.V (NC _) (Mw _) ⟨(d2.J (k6.mono (λ_ h=>zo) zd)).ext,.inr ⟨l',.inr ⟨(.inr (z8 p7)),rfl⟩⟩⟩
 apply ay (d:=66) rfl (b':=true) ((by simpa using p8));refine zh ?_
 refine zTH rfl rfl ?_;apply zv (MS (cells:=tab0) GT (Mp _) rfl rfl)
 apply zsa (us:=tab0) a4 (Mw _);have j':=N7 (us:=tab0) a4;have k6:M1 (λj=>j=2) O14 w15 O14 (w15.setRow cb tab0):=L6 zd a4.tag rfl;refine zh ?_
 refine bE rfl rfl rfl j'.V (NC _) (Mw _) ⟨(d2.J (k6.mono (λ_ h=>zo) zd)).ext,.inr ⟨l',.inr ⟨(.inl (ha0 p8)),rfl⟩⟩⟩
end Go.Proofs.YteolbhblkgjbhaaGreatDoor
end
section
namespace Go.VL
section
variable{P:P7}{N:Nat}{st:St}{w:ln}{t xt yt:LZ}{x y:Pw}{k:IntKind}{m n:Int}
def Ji(hx:ev st x=some (.int k m)):RV P N (.unOp .neg xt x) t st w (.int k (k.wrap (-m))):=
 λa ha a0 p e g=>by simp only[execOp,ha.ev hx];simp[Op.unary,Op.intArith,pure]
def Jj(hx:ev st x=some (.int k m))(hy:ev st y=some (.int k n)):RV P N (.binOp .mul xt x y yt) t st w (.int k (k.wrap (m*n))):=
 gx hx hy Ir
end
def Kk(b j:Nat):nA b j=⟨b,j,none⟩:=by simp only[Nr];split<;>simp_all
end Go.VL
namespace Go.Proofs.YteolbhblkgjbhaaGreatDoor
open Go.VL Go.Proofs
set_option maxRecDepth 10000
def JN(x:Nat)(w:ln)(hx:x<18446744073709551616)(h0:x≠0)(hT:Q7 1 PH w):MW M5 141 [.int .u64 (x:Nat)] w λv w'=>v=nI ((Nh 64 x:Nat):Int)/\w'=w:=by
 obtain⟨a0,hk⟩:=Q0 64 x h0 hx;obtain⟨hi,a1⟩:=Lib.deBruijn64_at _ hk;have hp:2^Nh 64 x<18446744073709551616:=NA (Mu zd hk) zd;generalize Nh 64 x=k at *;rw[show(2^64:Nat)=18446744073709551616 from by decide]at a0;generalize 2^k=pk at *;generalize a2:pk*285870213051353865 % 18446744073709551616 / 288230376151711744=idx at *;have a3:w.cell? (nA 1 idx)=some (.int .u8 (k:Int)):=by
  have:=hT idx hi;rw[a1]at this;rw[Kk];exact this
 apply L1 func141 ntmps141 rfl rfl;refine zh ?_
 refine zFH rfl ((by rw[beq_eq_false_iff_ne];omega)) ?_;apply zv (Ji rfl)
 apply zv (yK (a:=x) (b:=18446744073709551616-x) rfl rfl rfl (by rw[Pq];omega) (by show _<=(18446744073709551615:Int);omega) (by show _<=(18446744073709551615:Int);omega));rw[a0];apply zv (Jj rfl rfl)
 rw[show PV.wrap (((pk:Nat):Int)*285870213051353865)=((pk*285870213051353865 % 18446744073709551616:Nat):Int)from by rw[Pq];omega];apply zv (jc (a:=pk*285870213051353865 % 18446744073709551616) (b:=58) rfl rfl rfl rfl zd);rw[show pk*285870213051353865 % 18446744073709551616 / 2^58=idx from a2];refine zvH (fT underlying299 (sizeOf5 _) rfl rfl idx rfl hi) ?_;refine zvH (DY QM underlying3 rfl (MR zo)) ?_;refine ah rfl rfl ⟨rfl,rfl⟩
def sU(s c:Nat)(w:ln)(hs:s<18446744073709551616)(hc:c<64):MW M5 63 [.int .u64 (s:Nat),nI (c:Nat)] w λv w'=>v=.bool (s.testBit c)/\w'=w:=by
 have hd:s / 2^c<=s:=Nat.div_le_self _ _;have e:(((s / 2^c &&& 1:Nat):Int)==1)=s.testBit c:=by
  rw[Nat.and_one_is_mod,Nat.testBit_eq_decide_div_mod_eq]
  rcases Nat.mod_two_eq_zero_or_one (s / 2^c)with h|h<;>rw[h]<;>rfl
 apply L1 func63 ntmps63 rfl rfl;refine zh ?_
 apply zv (jc (a:=s) (b:=c) rfl rfl rfl rfl (by show _<=64;omega));refine zvH (yK (a:=s / 2^c) (b:=1) rfl rfl rfl rfl (by show _<=(18446744073709551615:Int);omega) zd) ?_
 refine ah rfl rfl ⟨by rw[<-e],rfl⟩
def kM(cs:List ix)(p:Pb)(tl:List Nat)(r c:Nat)(w:ln)(h:PartV w cs p tl)(ok:OkP p)(hr:r<p.usual.length)(a9:c<64):
  MW M5 62 [.agg cs.toArray,nI (r:Nat),nI (c:Nat)] w λv w'=>v=nI (getM p r c)/\MP w w':=by
 obtain⟨uv,bv,kv,nv,tv,rfl,a3,a7,a5,a4,a8⟩:=h;obtain⟨o1,o2,o3,o4,o5,o6,o7⟩:=ok;have a6:=o7 r zo;obtain⟨b,a2⟩:=P9 a6.1;have hg:getM p r c=if b+c<p.check.length/\nth p.check (b+c)=r then nth p.next (b+c)else nth p.usual r:=by simp only[getM,a2];rfl
 apply L1 func62 ntmps62 rfl rfl;refine zh ?_
 apply aQ (aA w) 1 zo rfl rfl;intro db w1 O1 a1 a' b0 a0;have hu:=a3.ext a0;have hb:=a7.ext a0;have hk:=a5.ext a0;have hn:=a4.ext a0;have c1:w1.cell? ((nA db 0).add 1)=some uv:=a1.cell 1 rfl;have c2:w1.cell? ((nA db 0).add 2)=some bv:=a1.cell 2 rfl;have c3:w1.cell? ((nA db 0).add 3)=some kv:=a1.cell 3 rfl;have c4:w1.cell? ((nA db 0).add 4)=some nv:=a1.cell 4 rfl;have k1:w1.cell? (adr bv 1 r)=some (nI (b:Int)):=by have:=hb.cell (i:=r) (j:=0) zo rfl;rw[ax,a2]at this;exact this
 refine zh ?_
 by_cases h1:b+c<p.check.length
 ·apply ay (d:=22) rfl (b':=true) (decide_eq_true zo);have k2:w1.cell? (adr kv 1 (b+c))=some (nI (nth p.check (b+c))):=by have:=hk.cell (i:=b+c) (j:=0) h1 rfl;rwa[ax]at this
  have k3:w1.cell? (adr nv 1 (b+c))=some (nI (nth p.next (b+c))):=by have:=hn.cell (i:=b+c) (j:=0) zo rfl;rwa[ax]at this
  refine zh ?_;refine zC ?_ ?_
  ·intro he;replace he:nth p.check (b+c)=r:=by simpa using he
   rw[ap ⟨h1,he⟩]at hg;refine zh ?_;refine ah rfl rfl ⟨by rw[hg],a0⟩
  intro he;replace he:¬nth p.check (b+c)=r:=by simpa using he
  rw[am (λh=>he h.2)]at hg;have k4:w1.cell? (adr uv 1 r)=some (nI (nth p.usual r)):=by have:=hu.cell (i:=r) (j:=0) hr rfl;rwa[ax]at this
  refine zh ?_;refine ah rfl rfl ⟨by rw[hg],a0⟩
 rw[am (λh=>h1 h.1)]at hg;have k4:w1.cell? (adr uv 1 r)=some (nI (nth p.usual r)):=by have:=hu.cell (i:=r) (j:=0) hr rfl;rwa[ax]at this
 apply ay (d:=22) rfl (b':=false) (decide_eq_false zo);refine zh ?_
 refine zFH rfl rfl ?_;refine ah rfl rfl ⟨by rw[hg],a0⟩
end Go.Proofs.YteolbhblkgjbhaaGreatDoor
end
namespace Go.Proofs.YteolbhblkgjbhaaGreatDoor
def IW(l:List Int):Int:=l.foldl max (nth l 0)
def F0(l:List Int)(sv:ix)(w:ln)(h:N6 w sv l)(a1:0<l.length):MW M5 61 [sv] w λv w'=>v=nI (IW l)/\w'=w:=by
 have hl:=h.len_le;have m0:w.cell? (adr sv 1 0)=some (nI (nth l 0)):=by have:=h.cell (j:=0) a1 rfl;rwa[ax]at this
 have e1:nth l 0=(l.take 1).foldl max (nth l 0):=by
  rw[bd a1];simp
 have a2:IW l=(l.take l.length).foldl max (nth l 0):=by rw[Mj];rfl
 rw[a2];obtain⟨z0,a3⟩:∃z,z=nth l 0:=⟨_,rfl⟩
 rw[<-a3]at m0 e1 ⊢;apply L1 func61 ntmps61 rfl rfl;refine zh ?_;refine zFH rfl ((decide_eq_false zo)) ?_;apply zlp (λz:Nat×Int=>[(0,sv),(3,nI z.2),(4,nI z.1)]) (λz=>w) (λz=>1<=z.1/\z.1<=l.length/\z.2=(l.take z.1).foldl max z0) (λz=>l.length-z.1) (1,z0) ⟨Mb _,a1,e1⟩;rintro⟨q,m⟩ ⟨a4,hq,hm⟩;dsimp only at a4 hq hm ⊢;refine zh ?_;refine zC ?_ ?_
 ·intro a0;replace a0:q<l.length:=dT a0;have m1:w.cell? (adr sv 1 q)=some (nI (nth l q)):=by have:=h.cell (j:=0) a0 rfl;rwa[ax]at this
  refine zh ?_;refine zvH (jd rfl rfl) ?_
  refine zxd (q+1,max m (nth l q)) ⟨by dsimp only;omega,a0,by dsimp only;rw[bd a0,MH,<-hm];rfl⟩
 intro a5;obtain rfl:q=l.length:=dF a5;refine zh ?_;refine ah rfl rfl ⟨by rw[hm],rfl⟩
def qd(hF:∀(args:Array ix) (w:ln),(callFunc F args).run M5 w=.ok (.enter F args) w)(cs:Array ix)(l:List Nat)(sv:ix)(q:Nat->Bool)(w:ln)(h:Sl jx 1 w sv l) 
  (hq:∀i,i<l.length->∀w',MP w w'->MW M5 F ([(λn:Nat=>Qk .u64 (n:Int)) (nth l i)]++cs.toList) w' λv w''=>v=.bool (q i)/\MP w' w'') :
  MW M5 95 [sv,.func (.func F) #[] cs] w λv w'=>v=nI (eu q l.length)/\MP w w':=by
 have hl:=h.len_le;apply L1 func95 ntmps95 rfl rfl;refine zh ?_;apply zlp (λx:Nat×ln=>[(0,sv),(1,.func (.func F) #[] cs),(7,nI l.length),(8,nI x.1)]) (λx=>x.2) (λx=>x.1<=l.length/\MP w x.2/\∀i,i<x.1->q i=false) (λx=>l.length-x.1) (0,w) ⟨L9 _,L4 _,λi hi=>absurd hi (MD i)⟩;rintro⟨k,w1⟩ ⟨hk,hE,a1⟩;dsimp only at hk hE a1 ⊢;have h1:=h.ext hE;refine zh ?_;refine zC ?_ ?_
 ·intro a0;replace a0:k<l.length:=dT a0;refine zh ?_;apply zv (RV.ld (by have:=h1.cell (i:=k) (j:=0) a0 rfl;rwa[ax]at this) rfl);apply ej rfl hF rfl (hq k a0 w1 hE) rfl;rintro v w2 ⟨rfl,a3⟩;refine zh ?_;refine zC ?_ ?_
  ·intro hy;refine zh ?_;refine ah rfl rfl ⟨by rw[cZ a0 hy a1],hE.J a3⟩
  intro hy;refine zh ?_;refine zxd (k+1,w2) ⟨a0,hE.J a3,λi hi=>(MA.1 hi).elim (a1 i) (λe=>by rw[e];exact hy)⟩
 intro a2;replace a2:l.length<=k:=dF a2;refine zh ?_;refine ah rfl rfl ⟨by rw[cX λi hi=>a1 i zo],hE⟩
def mJ(hF:∀(args:Array ix) (w:ln),(callFunc F args).run M5 w=.ok (.enter F args) w)(cs:Array ix)(l:List Nat)(sv:ix)(q:Nat->Bool)(w:ln)(h:Sl jx 1 w sv l) 
  (hq:∀i,i<l.length->∀w',MP w w'->MW M5 F ([(λn:Nat=>Qk .u64 (n:Int)) (nth l i)]++cs.toList) w' λv w''=>v=.bool (q i)/\MP w' w'') :
  MW M5 57 [sv,.func (.func F) #[] cs] w λv w'=>v=.bool (jy q l.length)/\MP w w':=by
 apply L1 func57 ntmps57 rfl rfl;refine zh ?_
 apply zc call95 (qd hF cs l sv q w h hq);rintro v w1 ⟨rfl,hE⟩;refine zh ?_
 refine ah rfl rfl ⟨by rw[firstN_any],hE⟩
def Dk(b rules:Nat)(a:Pg)(w:ln)(hr:rules<=64)(hc:w.cell? a=some (nI (rules:Nat))):MW M5 58 [.int .u64 (b:Nat),.pointer (some a)] w λv w'=>v=.bool (!(b / 2^rules==0))/\w'=w:=by
 have e:((((b / 2^rules:Nat):Int)) != 0) = !(b / 2^rules==0):=by
  generalize b / 2^rules=q
  by_cases h:q=0
  ·subst h;rfl
  rw[beq_eq_false_iff_ne.2 h];simpa using h
 apply L1 func58 ntmps58 rfl rfl;refine zh ?_
 refine zvH (jc (a:=b) (b:=rules) rfl rfl rfl rfl (by show _<=64;omega)) ?_;refine ah rfl rfl ⟨by rw[<-e],rfl⟩
def Dj(row:List Int)(rv lv:ix)(n:Nat)(a:Pg)(w:ln)(h:N6 w rv row)(a1:0<row.length)(a0:Shape lv n)(hc:w.cell? a=some lv):MW M5 60 [rv,.pointer (some a)] w λv w'=>v=.bool (decide ((n:Int)<=IW row))/\MP w w':=by
 apply L1 func60 ntmps60 rfl rfl;refine zh ?_
 apply MN zk zk;refine zh ?_
 apply Qi call61 rfl (F0 row rv _ h.drew a1) rfl;refine zh ?_
 refine zwH (bH a0 Qx rfl) ?_;apply MM
 refine zh ?_;refine ah rfl rfl ⟨rfl,(L4 w).drew⟩
def lE(p:Pb)(tl:List Nat)(many rules:Nat):Bool:=
 dG p&&(p.width==(many:Int)) && !((gC p).length==0)&&(tl.length==(gC p).length) && !(jy (λi=>!(nth tl i / 2^rules==0)) tl.length) && !(jy (λi=>decide (((gC p).length:Int)<=IW (nth (gC p) i))) (gC p).length)
def qZ(p:Pb):(gC p).length=p.usual.length/\∀i,i<p.usual.length->(nth (gC p) i).length=p.width.toNat:=by
 refine⟨by simp[gC],λi hi=>?_⟩;unfold gC;rw[gG _ _ _ hi];simp[D7]
def vD(cs:List ix)(p:Pb)(tl:List Nat)(many rules:Nat)(w:ln)(h:PartV w cs p tl)(hr:rules<=64):
  MW M5 30 [.agg cs.toArray,nI (many:Nat),nI (rules:Nat)] w λv w'=>v=.bool (lE p tl many rules)/\MP w w':=by
 obtain⟨uv,bv,kv,nv,tv,rfl,d2,d8,d7,d6,c9⟩:=h;obtain⟨a4,d3⟩:=qZ p;have c8:=c9.len_le;apply L1 func30 ntmps30 rfl rfl;refine zh ?_;apply aQ (aA w) 1 zo rfl rfl;intro db w1 O1 c6 e0 e4 f5;apply aQ e4 2 zo rfl rfl;intro yb w2 O2 b6 d1 e3 f4;have a8:=c6.U d1 zd zd;have a9:=(e0.mono (S':=λq=>1<=q) (λ_ h=>zo) zd).J (d1.mono (λ_ h=>zo) zd);have a3:=a9.ext
 have e7:∀(j:Nat) (u:ix),[nI p.width,uv,bv,kv,nv][j]? = some u->w2.cell? ((nA db 0).add j)=some u:=λj u hu=>a8.V j u (by
  match j,hu with
  |0,hu=>exact hu
  |1,hu=>exact hu
  |2,hu=>exact hu
  |3,hu=>exact hu
  |4,hu=>exact hu)
 refine zh ?_;apply zv (ai (us:=[nI p.width,uv,bv,kv,nv]) e7 (QD _) (PJ _) rfl)
 apply zc call56 (uK p _ w2 ⟨uv,bv,kv,nv,rfl,d2.ext a3,d8.ext a3,d7.ext a3,d6.ext a3⟩);rintro _ w3 ⟨rv,rfl,a6,e6⟩;have b3:M1 (λ_=>False) O2 w2 O2 w3:=ae (λh=>h) O2 e6;have e':=e3.U b3;have ro:rv.oneCell'=true:=by
  split at a6
  ·obtain⟨b0,h1,_⟩:=a6;exact h1.one
  rw[a6];rfl
 refine zh ?_;apply aw (aA w3) 3 zo (zeroValue130 _) rfl
 intro lb w4 O4 a5 d' e9 f3;apply ao (j:=0) a5 rfl (sizeOf130 _) ro rfl rfl rfl;have d9:M1 (λj=>j=3) O4 w4 O4 (w4.setCell ⟨lb,0,none⟩ rv):=Mm zd a5.tag rfl;have b9:Mk O4 (w4.setCell ⟨lb,0,none⟩ rv) 3 lb #[rv] 130:=a5.set 0 _;have a2:MP w3 (w4.setCell ⟨lb,0,none⟩ rv):=(d'.J d9).ext;generalize w4.setCell ⟨lb,0,none⟩ rv=w5 at *;have a0:MP w w5:=(a9.J (b3.mono (λ_ h=>h.elim) zd)).ext.J a2;have a7:=(a8.U b3 zd (λh=>h)).ext a2;have b4:=(b6.U b3 zd (λh=>h)).ext a2;have d0:w5.cell? (((nA db 0)).add 0)=some (nI p.width):=a7.cell 0 rfl;have d5:w5.cell? (nA db 5)=some tv:=a7.cell 5 rfl;have l0:w5.cell? ⟨lb,0,none⟩=some rv:=b9.cell 0 rfl;have y0:w5.cell? ⟨yb,0,none⟩=some (nI (rules:Nat)):=b4.cell 0 rfl;have b7:=c9.ext a0;refine zh ?_
 cases b2:dG p with
 |false=>
  apply ay (d:=17) rfl (b':=true) rfl;refine zh ?_
  refine zTH rfl rfl ?_;refine ah rfl rfl ⟨by unfold lE;rw[b2];rfl,a0⟩
 |true=>
  rw[b2,ap rfl]at a6;obtain⟨b0,c',a1,d4⟩:=a6.ext a2;have ok:=okP p b2;have e8:=ok.w1;apply ay (d:=17) rfl (b':=false) rfl;refine zh ?_
  by_cases h1:p.width=(many:Int)
  ·apply ay (d:=24) rfl (b':=false) ((by rw[h1];simp));refine zh ?_
   by_cases h2:p.usual.length=0
   ·apply ay (d:=29) rfl (b':=true) ((by rw[a1,a4,h2];rfl));refine zh ?_
    refine zTH rfl rfl ?_;refine ah rfl rfl ⟨by unfold lE;rw[a4,h2];simp,a0⟩
   apply ay (d:=29) rfl (b':=false) ((by rw[a1,a4,beq_eq_false_iff_ne];omega));refine zh ?_
   by_cases h3:tl.length=p.usual.length
   ·refine zFH rfl ((by rw[a1,a4,h3];simp)) ?_;apply zv (eo rfl rfl)
    apply zc call57 (mJ call58 #[nP yb] tl tv (λi=>!(nth tl i / 2^rules==0)) w5 b7 (λi hi w' b1=>(Dk (nth tl i) rules _ w' hr (b1.cell y0)).mono λv w'' ⟨e1,e2⟩=>⟨e1,e2▸L4 _⟩));rintro _ w6 ⟨rfl,a'⟩;refine zh ?_
    cases h4:jy (λi=>!(nth tl i / 2^rules==0)) tl.length with
    |true=>
     refine zTH rfl rfl ?_;refine ah rfl rfl ⟨by unfold lE;rw[h4];simp,a0.J a'⟩
    |false=>
     have b8:=c'.ext a';have l6:w6.cell? ⟨lb,0,none⟩=some rv:=a'.cell l0;refine zFH rfl rfl ?_;apply zv (eo rfl rfl);apply zc call59 (gm call60 #[nP lb] b0 rv (λi=>decide (((gC p).length:Int)<=IW (nth (gC p) i))) w6 b8 (λi hi w' b1=>by have:=Dj (nth (gC p) i) (nth b0 i) rv b0.length ⟨lb,0,none⟩ w' (((d4 i zo).ext a').ext b1) (by rw[d3 i zo];omega) c'.sh (b1.cell l6);rw[a1]at this;exact this));rintro _ w7 ⟨rfl,e5⟩;refine zh ?_;refine ah rfl rfl ⟨by unfold lE;rw[b2,h1,h4,a4,h3,a1,a4,beq_eq_false_iff_ne.2 h2];simp,(a0.J a').J e5⟩
   refine zTH rfl ((by rw[a1,a4];simp;omega)) ?_;refine ah rfl rfl ⟨by unfold lE;rw[a4,beq_eq_false_iff_ne.2 h3];simp,a0⟩
  apply ay (d:=24) rfl (b':=true) ((by simpa using h1));refine zh ?_
  refine zTH rfl rfl ?_;refine ah rfl rfl ⟨by unfold lE;rw[beq_eq_false_iff_ne.2 h1];simp,a0⟩
end Go.Proofs.YteolbhblkgjbhaaGreatDoor
section
namespace Go.VL
def add_add(b i j:Nat):(nA b i).add j=⟨b,i+j,none⟩:=by simp only[Nr];split<;>split<;>simp_all
end Go.VL
namespace Go.Proofs.YteolbhblkgjbhaaGreatDoor
open Go.VL Go.Proofs
set_option maxRecDepth 10000
structure TabB(w:ln)(b:Nat)(t:TabM)(gv:ix)(lc rc:List ix):Prop where
 cells:∀j u,(fp t.ig t.kp t.br t.rules gv lc rc)[j]? = some u->w.cell? ⟨b,j,none⟩=some u
 groups:N6 w gv t.groups
 left:PartV w lc t.left t.lt
 right:PartV w rc t.right t.rt
section
variable{w:ln}{b:Nat}{t:TabM}{gv:ix}{lc rc:List ix}
def TabB.ext{w':ln}(h:TabB w b t gv lc rc)(e:MP w w'):TabB w' b t gv lc rc:=⟨λj u hu=>e.cell (h.cells j u hu),h.groups.ext e,h.left.ext e,h.right.ext e⟩
def TabB.c0(h:TabB w b t gv lc rc):w.cell? (nA b 0)=some (.int .u64 (t.ig:Int)):=h.cells 0 _ rfl
def TabB.c1(h:TabB w b t gv lc rc):w.cell? (nA b 1)=some (.int .u64 (t.kp:Int)):=h.cells 1 _ rfl
def TabB.c2(h:TabB w b t gv lc rc):w.cell? (nA b 2)=some (.int .u64 (t.br:Int)):=h.cells 2 _ rfl
def TabB.c3(h:TabB w b t gv lc rc):w.cell? (nA b 3)=some (nI t.rules):=h.cells 3 _ rfl
def TabB.c4(h:TabB w b t gv lc rc):w.cell? (nA b 4)=some gv:=h.cells 4 _ rfl
def TabB.cl(h:TabB w b t gv lc rc):∀(j:Nat) (u:ix),lc[j]? = some u->w.cell? ((nA b 5).add j)=some u:=λj u hu=>by
 rw[add_add];apply h.cells (5+j) u;rw[show fp t.ig t.kp t.br t.rules gv lc rc=[.int .u64 (t.ig:Int),.int .u64 (t.kp:Int),.int .u64 (t.br:Int),nI t.rules,gv]++(lc++rc)from N5 _ _ _];rw[Me (by simp),show 5+j-_=j from by simp,N2 ((N1.1 hu).1)];exact hu
def TabB.cr(h:TabB w b t gv lc rc):∀(j:Nat) (u:ix),rc[j]? = some u->w.cell? ((nA b 11).add j)=some u:=λj u hu=>by
 rw[add_add];apply h.cells (11+j) u;have hl:=h.left.one.1;rw[Me (by simp[hl]),show 11+j-_=j from by simp[hl]];exact hu
end
def yD{t:TabM}(hb:Mk O w i b (fp t.ig t.kp t.br t.rules gv lc rc).toArray E)(h1:N6 w gv t.groups)(h2:PartV w lc t.left t.lt)(h3:PartV w rc t.right t.rt):TabB w b t gv lc rc:=
 ⟨λj u hu=>hb.cell j (by simpa using hu),h1,h2,h3⟩
def gD(t:TabM):Bool:=
 !(decide (t.rules<0)||decide (40<t.rules)||(iJ t.groups==0)) && !(!(t.ig / 2^36==0) || !(t.kp / 2^36==0) || !(t.br / 2^t.rules.toNat==0))&&lE t.left t.lt (iJ t.groups) t.rules.toNat&&lE t.right t.rt (iJ t.groups) t.rules.toNat
def ne0(q:Nat):(((q:Nat):Int) != 0) = !(q==0):=by
 by_cases h:q=0
 ·subst h;rfl
 rw[beq_eq_false_iff_ne.2 h];simpa using h
def iq(t:TabM)(v:ix)(w:ln)(h:TabV w v t):MW M5 10 [v] w λu w'=>u=.bool (gD t)/\MP w w':=by
 obtain⟨gv,lc,rc,rfl,b0,a8,a7⟩:=h;obtain⟨ll,lo⟩:=a8.one;obtain⟨rl,ro⟩:=a7.one;apply L1 func10 ntmps10 rfl rfl;refine zh ?_;apply aQ (aA w) 1 zo rfl rfl;intro db w1 O1 a3 b3 b4 a1;have hT:=yD (t:=t) a3 (b0.ext a1) (a8.ext a1) (a7.ext a1);have c0:=hT.c0;have c1:=hT.c1;have c2:=hT.c2;have c3:=hT.c3;have c4:=hT.c4;have cr:=hT.cr;refine zh ?_;apply zc QS (jj t.groups gv w1 hT.groups);rintro _ w2 ⟨rfl,a6⟩;rw[a6];clear a6 w2;obtain⟨many,a2⟩:∃many,many=iJ t.groups:=⟨_,rfl⟩
 have a9:gD t=(!(decide (t.rules<0)||decide (40<t.rules)||(many==0)) && !(!(t.ig / 2^36==0) || !(t.kp / 2^36==0) || !(t.br / 2^t.rules.toNat==0))&&lE t.left t.lt many t.rules.toNat&&lE t.right t.rt many t.rules.toNat):=by rw[a2];rfl
 rw[a9,<-a2];refine zh ?_
 by_cases h1:t.rules<0
 ·apply ay (d:=11) rfl (b':=true) ((decide_eq_true h1));refine zh ?_
  refine zTH rfl rfl ?_;refine ah rfl rfl ⟨by rw[decide_eq_true h1];simp,a1⟩
 apply ay (d:=11) rfl (b':=false) ((decide_eq_false h1));refine zh ?_
 by_cases h2:40<t.rules
 ·apply ay (d:=16) rfl (b':=true) ((decide_eq_true h2));refine zh ?_
  refine zTH rfl rfl ?_;refine ah rfl rfl ⟨by rw[decide_eq_true h2];simp,a1⟩
 obtain⟨rules,a0⟩:∃rules:Nat,t.rules=(rules:Int):=⟨t.rules.toNat,zo⟩
 have a':t.rules.toNat=rules:=zo;apply ay (d:=16) rfl (b':=false) ((decide_eq_false h2));refine zh ?_
 by_cases h3:many=0
 ·refine zTH rfl ((by rw[h3];rfl)) ?_;refine ah rfl rfl ⟨by rw[h3];simp,a1⟩
 refine zFH rfl ((by rw[beq_eq_false_iff_ne];omega)) ?_;refine zvH (jc (a:=t.ig) (b:=36) rfl rfl rfl rfl zd) ?_
 by_cases h4:t.ig / 2^36=0
 ·apply ay (d:=25) rfl (b':=false) ((by rw[ne0,h4];rfl));refine zh ?_
  refine zvH (jc (a:=t.kp) (b:=36) rfl rfl rfl rfl zd) ?_
  by_cases h5:t.kp / 2^36=0
  ·apply ay (d:=31) rfl (b':=false) ((by rw[ne0,h5];rfl));refine zh ?_
   refine zvH (jc (a:=t.br) (b:=rules) rfl rfl rfl a0 (by show _<=64;omega)) ?_
   by_cases h6:t.br / 2^rules=0
   ·have b2:nI t.rules=nI (rules:Int):=by rw[a0]
    refine zFH rfl ((by rw[ne0,h6];rfl)) ?_;refine zvH (ai (us:=lc) hT.cl (NS _) (by rw[ll];exact MV _) rfl) ?_
    rw[a0];apply zc call30 (vD lc t.left t.lt many rules w1 hT.left zo);rintro _ w2 ⟨rfl,a5⟩;have a4:=hT.ext a5;have d3:=a4.c3;rw[a0]at d3;refine zh ?_
    cases h7:lE t.left t.lt many rules with
    |false=>
     apply ay (d:=45) rfl (b':=false) rfl;refine zh ?_
     refine ah rfl rfl ⟨by rw[MJ,h7];simp,a1.J a5⟩
    |true=>
     apply ay (d:=45) rfl (b':=true) rfl;refine zh ?_
     refine zvH (ai (us:=rc) a4.cr (NS _) (by rw[rl];exact MV _) rfl) ?_;apply zc call30 (vD rc t.right t.rt many rules w2 a4.right zo)
     rintro _ w3 ⟨rfl,b1⟩;refine zh ?_;refine ah rfl rfl ⟨?_,(a1.J a5).J b1⟩;rw[MJ,h7,h4,h5,h6,decide_eq_false zo,decide_eq_false zo,beq_eq_false_iff_ne.2 h3];simp
   refine zTH rfl ((by rw[ne0,beq_eq_false_iff_ne.2 h6];rfl)) ?_;refine ah rfl rfl ⟨by rw[a',beq_eq_false_iff_ne.2 h6];simp,a1⟩
  apply ay (d:=31) rfl (b':=true) ((by rw[ne0,beq_eq_false_iff_ne.2 h5];rfl));refine zh ?_
  refine zTH rfl rfl ?_;refine ah rfl rfl ⟨by rw[beq_eq_false_iff_ne.2 h5];simp,a1⟩
 apply ay (d:=25) rfl (b':=true) ((by rw[ne0,beq_eq_false_iff_ne.2 h4];rfl));refine zh ?_
 refine zTH rfl rfl ?_;refine ah rfl rfl ⟨by rw[beq_eq_false_iff_ne.2 h4];simp,a1⟩
end Go.Proofs.YteolbhblkgjbhaaGreatDoor
end
namespace Go.VL
def kS(g:Nat):∀(vs:List ix) (o:Nat) (w:ln),(w.setCells g o vs).os=w.os/\(w.setCells g o vs).tape=w.tape/\(w.setCells g o vs).output=w.output/\(w.setCells g o vs).heap.size=w.heap.size
 |[],_,_=>⟨rfl,rfl,rfl,rfl⟩
 |v::r,o,w=>by
  have h:=kS g r (o+1) (w.setCell ⟨g,o,none⟩ v);refine⟨h.1.J rfl,h.2.1.J rfl,h.2.2.1.J rfl,h.2.2.2.J ?_⟩;simp[PP]
def jK{g:Nat}{E:LZ}:∀(vs:List ix) (o:Nat) (w:ln) (a1:Array ix),w.heap[g]? = some (.cells a1 E (0,0))->∃a0,(w.setCells g o vs).heap[g]? = some (.cells a0 E (0,0))/\a0.size=a1.size
 |[],_,_,a1,h=>⟨a1,h,rfl⟩
 |v::r,o,w,a1,h=>by
  have h2:(w.setCell ⟨g,o,none⟩ v).heap[g]? = some (.cells (a1.setIfInBounds o v) E (0,0)):=by
   simp only[PP,Array.getElem?_modify,ap];rw[h];simp
  obtain⟨a0,h3,h4⟩:=jK r (o+1) _ _ h2;exact⟨a0,h3,by rw[h4];simp⟩
inductive WinO{α:Type}(enc:α->List ix)(E:LZ)(sz:Nat)(O:Nat->Nat)(w:ln)(i:Nat):ix->List α->Prop
 |none (a:Option Pg):WinO enc E sz O w i (.slice a 0 0) []
 |some {g off cap:Nat} {cur:Array ix} {l:List α} (tag:O g=i) (blk:w.heap[g]? = some (.cells cur E (0,0))) (fit:off+cap*sz<=cur.size) (len:l.length<=cap) (mx:cap<=maxLen)
  (cells:∀j u,(l.flatMap enc)[j]? = some u->w.cell? ⟨g,off+j,N0⟩=some u) (hz:∀x∈l,(enc x).length=sz):WinO enc E sz O w i (.slice (NK ⟨g,off,N0⟩) l.length cap) l
section
variable{α:Type}{enc:α→List ix}{E:LZ}{sz:Nat}{O:Nat→Nat}{w:ln}{i:Nat}{v:ix}{l:List α}
def WinO.nil(enc:α->List ix)(E:LZ)(sz:Nat)(O:Nat->Nat)(w:ln)(i:Nat):WinO enc E sz O w i (.slice .none 0 0) []:=.none .none
def rH(h:Nv enc E sz O w i v l):WinO enc E sz O w i v l:=by
 obtain⟨⟨⟨hl,hr⟩,ht⟩,hz⟩:=h
 rcases hr with⟨rfl,h0⟩|⟨g,a5,a0,rfl,_,hg,a2,a3,a4,a1⟩
 ·obtain rfl:l=[]:=MQ h0;exact .none .none
 refine .some (ht g rfl) hg zo a2 a3 (λj u hu=>?_) hz;rw[Qf,cell_of_row w g j a0 E (0,0) hg];rw[<-a1]at hu;have:=Ps (l:=a0.toList) (i:=l.length*sz) (j:=j)
 rw[this]at hu
 split at hu
 ·simpa using hu
 cases hu
def WinO.U(h:WinO enc E sz O w i v l)(u:M1 S O w O' w')(hi:i≠0)(hS:¬S i):WinO enc E sz O' w' i v l:=by
 cases h with
 |none a=>exact .none a
 | @some g off cap cur l tag blk fit len mx cells hz=>
  have hb:=u.blk g (bN blk) (by rw[tag];exact hS);exact .some (by rw[u.tag g (by rw[tag];exact hi),tag]) (by rw[hb];exact blk) fit len mx (λj x hx=>iS hb (cells j x hx)) hz
def WinO.sl(h:WinO enc E sz O w i v l):Sl enc sz w v l:=by
 cases h with
 |none a=>exact⟨⟨a,0,rfl,Mb _,zo,λh=>absurd rfl h⟩,λi hi=>absurd hi (by simp)⟩
 | @some g off cap cur l tag blk fit len mx cells hz=>
  refine⟨⟨_,cap,rfl,len,by simpa[maxLen]using mx,λ_=>⟨g,off,rfl⟩⟩,λi hi j u hu=>?_⟩;have:=cells _ u (fj l hz i hi j u hu);rw[show((adr (.slice (NK ⟨g,off,N0⟩) l.length cap) sz i).add j)=⟨g,off+(i*sz+j),N0⟩from by simp only[adr,Nr];split<;>simp_all[]];exact this
def WinO.one(h:WinO enc E sz O w i v l):v.oneCell'=true:=h.sl.one
def WinO.tail{x:α}{r:List α}(hp:0<sz)(h:WinO enc E sz O w i v (x::r)):WinO enc E sz O w i (dk v sz 1 (r.length+1)) r:=by
 generalize hl:x::r=l at h
 cases h with
 |none a=>cases hl
 | @some g off cap cur l tag blk fit len mx cells hz=>
  subst hl;simp only[L7]at len
  by_cases hc:cap=1
  ·have hr:r=[]:=MQ zo;subst hr;subst hc;exact .none _
  have hx:=hz x (by simp);obtain⟨a0,rfl⟩:∃c,cap=c+1:=⟨cap-1,zo⟩
  have e:dk (.slice (NK ⟨g,off,N0⟩) (x::r).length (a0+1)) sz 1 (r.length+1)=.slice (NK ⟨g,off+sz,N0⟩) r.length a0:=by
   simp only[dk];rw[am zo];simp only[Option.map_some,Nr,NP,Nat.add_sub_cancel];rw[am zo]
  rw[e];refine .some tag blk (by rw[Qn]at fit;omega) zo zo (λj u hu=>?_) (λy hy=>hz y (by simp[hy]))
  have:=cells (sz+j) u (by
   rw[NF,Me zo,hx,MF]
   exact hu)
  rw[P6];exact this
end
def pV{ty:LZ}{bytes:Nat}(he:Qw P T E sz bytes)(r:NN B O w){l:List α}(hw:WinO enc E sz O w i v l) 
  (x:α) (a:Pg) (c:Nat) (hx:∀j u,(enc x)[j]? = some u->w.cell? (a.add j)=some u) (a':(enc x).length=sz) (h1:∀u∈enc x,u.oneCell'=true) (a3:(l.length+1)*bytes<=140737488355328) (b6:l.length+1<=9223372036854775807) (b':i≠0) :
  ∃v' w' O',(QT #[T,T] ty #[v,.slice (some a) 1 c]).run P w=.ok v' w'/\WinO enc E sz O' w' i v' (l++[x])/\M1 (λk=>k=i) O w O' w':=by
 obtain⟨a1,z,hi,hz,c8,d7,b7⟩:=he.parts;have ht:=he.ht;have hp:=he.pos;subst c8;subst d7;have b8:¬(0=i):=λh=>b' h.symm
 have fresh:∀ {v':ix} {w':ln} {a7:List ix} {n:Nat} {ls:List α},w'.ownsRow w.heap.size E a1.size v' n a7->n≠0->w.grownBy w' none->n=ls.length->a7=ls.flatMap enc->(∀y∈ls,(enc y).length=a1.size)->∃O',WinO enc E a1.size O' w' i v' ls/\M1 (λk=>k=i) O w O' w':=by
  intro v' w' a7 n ls a4 hn a5 b3 ho c9
  rcases a4.2 with⟨_,h0⟩|⟨g,a9,a8,rfl,hbg,hg,d9,d4,d3,c7⟩
  ·omega
  refine⟨mq O g i,rH ⟨⟨⟨by rw[<-ho];rw[a4.1,b3],.inr ⟨g,a9,a8,by rw[b3],L9 _,hg,zo,d4,d3,by rw[<-b3,c7,ho]⟩⟩,λg' c5=>?_⟩,c9⟩,?_⟩
  ·simp only[PL,Qt]at c5;subst c5;exact eM _ _ _
  refine⟨a5.os,a5.tape,a5.output,a5.size,λb hb _=>a5.block b hb (by simp),λb hb=>?_,λb hb=>?_,b8⟩
  ·unfold mq;rw[am];have:=(r.rng b hb).2;omega
  unfold mq at hb
  split at hb
  ·rename_i e;subst e;exact .inr ⟨hbg,bN hg⟩
  exact .inl hb
 have b5:∀(g off j:Nat),(⟨g,off,none⟩:Pg).add j=⟨g,off+j,none⟩:=λg off j=>by simp only[Nr];split<;>simp_all
 cases hw with
 |none a0=>
  cases a0 with
  |none=>
   obtain⟨v',w',O',a2,b2,b1⟩:=fK (P:=P) (ty:=ty) he r (RowO.nil O w i E a1.size) a 1 c (enc x) zo hx h1 (by simpa using a3) (by simp) b';refine⟨v',w',O',a2,rH ⟨by simpa using b2,λy hy=>?_⟩,b1⟩;have c6:y=x:=by simpa using hy
   rw[c6];exact a'
  |some b0=>
   obtain⟨v',w',a2,a4,a5⟩:=run_append_arg_grows (P:=P) w T ty E a1 z a1.size a1.bytes ht hi hz rfl rfl b7 hp b0 0 0 [] (by simp) (λj u hu=>by simp at hu) a 1 c (enc x) zo hx zo (by simp[maxLen]) (by simpa using a3);obtain⟨O',h2,h3⟩:=fresh (ls:=[x]) a4 zo a5 (by simp) (by simp) (λy hy=>by rw[L0.1 hy];exact a');exact⟨v',w',O',a2,h2,h3⟩
 | @some g off a9 a8 l tag blk fit len mx cells hzl=>
  have b4:=nX l hzl
  by_cases a6:l.length+1<=a9
  ·have d2:off+l.length*a1.size+a1.size<=a8.size:=by
    have:=Nat.mul_le_mul_right a1.size a6;rw[Qn,NP]at this;omega
   have b9:∀j,j<(enc x).length->(w.cell? ⟨g,off+l.length*a1.size+j,none⟩).isSome=true:=λj hj=>by
    rw[cell_of_row w g _ a8 E (0,0) blk,Array.getElem?_eq_getElem (show off+l.length*a1.size+j<a8.size by omega)];rfl
   have d1:∀j,j<(enc x).length->w.frozen? ⟨g,off+l.length*a1.size+j,none⟩=false:=λj hj=>by simp[World.frozen?,blk]
   have a2:=run_append_room_cells (P:=P) w T ty E a1 ht hi g off l.length a9 a 1 c (enc x) zo hx h1 a6 b9 d1;obtain⟨d8,d6,d5⟩:=jK (enc x) (off+l.length*a1.size) w a8 blk;obtain⟨s1,s2,s3,s4⟩:=kS g (enc x) (off+l.length*a1.size) w;have c':(l++[x]).length=l.length+1:=by simp
   refine⟨_,_,O,a2,?_,⟨s1,s2,s3,zo,λb hb hn=>World.heap_setCells_other w g _ _ hb (λe=>hn (by rw[e];exact tag)),λ_ _=>rfl,λ_ h=>.inl h,b8⟩⟩;rw[<-c'];refine .some tag d6 (by rw[d5];exact fit) zo mx (λj u hu=>?_) (λy hy=>?_)
   ·rw[List.flatMap_append,NF,PD,M8]at hu
    by_cases hj:j<(l.flatMap enc).length
    ·rw[N2 hj]at hu;rw[World.cell?_setCells_out g _ _ w _ (λ_ _=>.inl (by show off+j<_;omega))];exact cells j u hu
    rw[Me zo]at hu;have hk:=(N1.1 hu).1;have:=World.cell?_setCells_in g (enc x) (off+l.length*a1.size) w b9 (j-(l.flatMap enc).length) hk;rw[show off+l.length*a1.size+(j-(l.flatMap enc).length)=off+j from by omega]at this;rw[this];exact(Mx hk).symm.J hu
   rcases Mg.1 hy with hy|hy
   ·exact hzl y hy
   rw[L0.1 hy];exact a'
  obtain⟨v',w',a2,a4,a5⟩:=run_append_arg_grows (P:=P) w T ty E a1 z a1.size a1.bytes ht hi hz rfl rfl b7 hp ⟨g,off,none⟩ l.length a9 (l.flatMap enc) b4 (λj u hu=>by rw[b5];exact cells j u hu) a 1 c (enc x) zo hx zo (by simpa[maxLen]using b6) a3
  obtain⟨O',h2,h3⟩:=fresh (ls:=l++[x]) a4 zo a5 (by simp) (by simp) (λy hy=>by
   rcases Mg.1 hy with hy|hy
   ·exact hzl y hy
   rw[L0.1 hy];exact a')
  exact⟨v',w',O',a2,h2,h3⟩
section
variable{P:P7}{N:Nat}{ops:Array Qe}{Q:Exit→Act→ln→Prop}{rest:List Qe}{st:St}{w:ln}{t:LZ}{p:String}{e:Array Edge}{d:Nat}{x y:Pw}
def vV{a0:Nat}(he:Qw P T E sz a0){sv:ix}{l:List α}{u:α}(hr:WinO enc E sz O w i v l)(r:NN B O w)(hs:Sl enc sz w sv [u]) 
  (hx:ev st x=some v) (hy:ev st y=some sv) (a4:(enc u).length=sz) (a6:∀c∈enc u,c.oneCell'=true)
  (hb:(l.length+1)*a0<=140737488355328) (a9:l.length+1<=9223372036854775807) (a7:i≠0) (hd:PA d N=true)
  (h:∀v' w' O',WinO enc E sz O' w' i v' (l++[u])->M1 (λk=>k=i) O w O' w'->NN B O' w'->WL P N ops Q rest ((d,v')::st) w') :
  WL P N ops Q (⟨some d,.call ⟨.builtin .append,#[x,y],#[T,T]⟩,t,p,e,none⟩::rest) st w:=by
 obtain⟨a,c,rfl,_,_,a8⟩:=hs.shape;obtain⟨b,o,rfl⟩:=a8 (by simp);have a5:=Di hs (λq hq=>by rw[L0.1 hq];exact a4) he.pos rfl;simp only[NF,PD,M8]at a5;obtain⟨v',w',O',a2,a3,a1⟩:=pV (P:=P) (ty:=t) he r hr u ⟨b,o,none⟩ c a5 a4 a6 hb a9 a7;refine Q4 (v:=v') (w':=w') hd (λa ha=>?_) (h v' w' O' a3 a1 (r.U a1));simp only[execOp,resolve,invoke,builtin,Ng,Sem.run_pure,MZ,PB,P1,Q9,ha.ev hx,ha.ev hy,L5,a2]
end
end Go.VL
namespace Go.Proofs.YteolbhblkgjbhaaGreatDoor
abbrev En:=Nat×Bool
abbrev Js(x:En):List ix:=[nI (x.1:Int),.bool x.2]
def elE:Qw M5 136 138 2 16:=⟨Pj,by kernel_rfl,zd⟩
structure RunS where
 row:Nat
 wait:List En
 begun:Bool
 last:En
 closed:Bool
def grT(t:TabM)(c:Nat):Nat:=(nth t.groups c).toNat
def stL(t:TabM)(r c:Nat):Nat:=(getM t.left r (grT t c)).toNat
def stR(t:TabM)(r c:Nat):Nat:=(getM t.right r (grT t c)).toNat
structure OkT(t:TabM):Prop where
 okl:OkP t.left
 okr:OkP t.right
 gl:t.groups.length=37
 gr:∀c,c<37->0<=nth t.groups c/\nth t.groups c<64
 ll:t.lt.length=t.left.usual.length
 rl:t.rt.length=t.right.usual.length
 lp:0<t.left.usual.length
 rp:0<t.right.usual.length
 lst:∀r c,r<t.left.usual.length->c<37->0<=getM t.left r (grT t c)/\getM t.left r (grT t c)<t.left.usual.length
 rst:∀r c,r<t.right.usual.length->c<37->0<=getM t.right r (grT t c)/\getM t.right r (grT t c)<t.right.usual.length
 ig:t.ig<2^36
 kp:t.kp<2^36
 br:t.br<2^40
 lt:∀q∈t.lt,q<2^40
 rt:∀q∈t.rt,q<2^40
def OkT.gN{t:TabM}(h:OkT t)(hc:c<37):nth t.groups c=((grT t c:Nat):Int)/\grT t c<64:=by
 have:=h.gr c hc;unfold grT;omega
def OkT.lN{t:TabM}(h:OkT t){r:Nat}(hr:r<t.left.usual.length)(hc:c<37):getM t.left r (grT t c)=((stL t r c:Nat):Int)/\stL t r c<t.left.usual.length:=by
 have:=h.lst r c hr hc;unfold stL;omega
def OkT.rN{t:TabM}(h:OkT t){r:Nat}(hr:r<t.right.usual.length)(hc:c<37):getM t.right r (grT t c)=((stR t r c:Nat):Int)/\stR t r c<t.right.usual.length:=by
 have:=h.rst r c hr hc;unfold stR;omega
def FreeL(O:Nat->Nat)(w:ln)(cs:List ix):Prop:=∀v∈cs,Pr O w v
def FreeL.U{S:Nat->Prop}{O O':Nat->Nat}{w w':ln}{cs:List ix}(h:FreeL O w cs)(u:M1 S O w O' w'):FreeL O' w' cs:=λv hv=>(h v hv).U u
def PartV.updF{p:Pb}(h:PartV w cs p tl)(n:FreeL O w cs)(u:M1 S O w O' w'):PartV w' cs p tl:=by
 obtain⟨uv,bv,kv,nv,tv,rfl,h1,h2,h3,h4,h5⟩:=h;exact⟨uv,bv,kv,nv,tv,rfl,h1.U (n uv (by simp)) u,h2.U (n bv (by simp)) u,h3.U (n kv (by simp)) u,h4.U (n nv (by simp)) u,h5.U (n tv (by simp)) u⟩
def PartV.tv{w:ln}{cs:List ix}{p:Pb}{tl:List Nat}(h:PartV w cs p tl):∃tv,cs[5]? = some tv/\Sl jx 1 w tv tl:=by
 obtain⟨uv,bv,kv,nv,tv,rfl,h1,h2,h3,h4,h5⟩:=h;exact⟨tv,rfl,h5⟩
abbrev GP(wv:ix)(s:RunS):List ix:=[nI (s.row:Int),wv,.bool s.begun,nI (s.last.1:Int),.bool s.last.2,.bool s.closed]
abbrev pW(t:TabM)(gv:ix)(lc rc:List ix)(wv:ix)(s:RunS):List ix:=fp t.ig t.kp t.br t.rules gv lc rc++GP wv s
structure RunO(O:Nat->Nat)(w:ln)(i j rb:Nat)(t:TabM)(gv:ix)(lc rc:List ix)(wv:ix)(s:RunS):Prop where
 blk:Mk O w i rb (pW t gv lc rc wv s).toArray 140
 win:WinO Js 138 2 O w j wv s.wait
 groups:N6 w gv t.groups
 left:PartV w lc t.left t.lt
 right:PartV w rc t.right t.rt
 fr:FreeL O w (gv::(lc++rc))
section
variable{O:Nat→Nat}{w:ln}{i j rb:Nat}{t:TabM}{gv:ix}{lc rc:List ix}{wv:ix}{s:RunS}
def RunO.U{S:Nat->Prop}{O':Nat->Nat}{w':ln}(h:RunO O w i j rb t gv lc rc wv s)(u:M1 S O w O' w')(hi:i≠0)(hj:j≠0)(h1:¬S i)(h2:¬S j):RunO O' w' i j rb t gv lc rc wv s:=
 ⟨h.blk.U u hi h1,h.win.U u hj h2,h.groups.U (h.fr gv (by simp)) u,h.left.updF (λv hv=>h.fr v (by simp[hv])) u,h.right.updF (λv hv=>h.fr v (by simp[hv])) u,h.fr.U u⟩
def RunO.tab(h:RunO O w i j rb t gv lc rc wv s):TabB w rb t gv lc rc:=⟨λk u hu=>h.blk.cell k (by
 have:=(N1.1 hu).1;simp only[pW,No]
 rw[N2 this];exact hu),h.groups,h.left,h.right⟩
def RunO.len(h:RunO O w i j rb t gv lc rc wv s):(fp t.ig t.kp t.br t.rules gv lc rc).length=17:=by simp[h.left.one.1,h.right.one.1]
def RunO.cell(h:RunO O w i j rb t gv lc rc wv s)(k:Nat)(u:ix)(hu:[nI (s.row:Int),wv,.bool s.begun,nI (s.last.1:Int),.bool s.last.2,.bool s.closed][k]? = some u):w.cell? ⟨rb,17+k,none⟩=some u:=h.blk.cell (17+k) (by
 have hl:=h.len;simp only[pW,No]
 rw[Me zo,hl,MF];exact hu)
def RunO.k17(h:RunO O w i j rb t gv lc rc wv s):w.cell? (nA rb 17)=some (nI (s.row:Int)):=h.cell 0 _ rfl
def RunO.k18(h:RunO O w i j rb t gv lc rc wv s):w.cell? (nA rb 18)=some wv:=h.cell 1 _ rfl
def RunO.k19(h:RunO O w i j rb t gv lc rc wv s):w.cell? (nA rb 19)=some (.bool s.begun):=h.cell 2 _ rfl
def RunO.k20(h:RunO O w i j rb t gv lc rc wv s):w.cell? ((nA rb 20).add 0)=some (nI (s.last.1:Int)):=h.cell 3 _ rfl
def RunO.k21(h:RunO O w i j rb t gv lc rc wv s):w.cell? ((nA rb 20).add 1)=some (.bool s.last.2):=h.cell 4 _ rfl
def RunO.k22(h:RunO O w i j rb t gv lc rc wv s):w.cell? (nA rb 22)=some (.bool s.closed):=h.cell 5 _ rfl
end
structure OkS(t:TabM)(s:RunS):Prop where
 row:s.row<t.left.usual.length
 wait:∀x∈s.wait,x.1<36
 last:s.last.1<36
 few:s.wait.length<=1000000
def rwL(t:TabM):List En->Nat->Nat->Nat->Nat
 |[],_,_,told=>told
 |(c,h)::r,row,seen,told=>if h=true then rwL t r row seen told else if seen=4 then told else rwL t r (stR t row c) (seen+1) (told ||| nth t.rt (stR t row c))
def eO(t:TabM)(l:List En):Nat:=rwL t l 0 0 (nth t.rt 0)
def Ce{t:TabM}(ho:OkT t):∀(l:List En) (row a1 a0:Nat),(∀x∈l,x.1<36)->row<t.right.usual.length->a0<2^40->rwL t l row a1 a0<2^40
 |[],_,_,_,_,_,h=>h
 |(c,h)::r,row,a1,a0,hc,hr,ht=>by
  unfold rwL;have a2:=hc (c,h) (by simp);have hn:=(ho.rN hr (show c<37 by simp at a2;omega)).2
  split
  ·exact Ce ho r row a1 a0 (λx hx=>hc x (by simp[hx])) hr ht
  split
  ·exact ht
  exact Ce ho r _ _ _ (λx hx=>hc x (by simp[hx])) hn (Mr ht (ho.rt _ (aZ (by rw[ho.rl];exact hn))))
def sj(O:Nat → Nat)(w:ln)(i j rb:Nat)(t:TabM)(gv:ix)(lc rc:List ix)(wv:ix)(s:RunS)(h:RunO O w i j rb t gv lc rc wv s)(ho:OkT t)(hs:OkS t s):
    MW M5 140 [.pointer (some ⟨rb, 0, none⟩)] w λv w' => v = .int .u64 ((eO t s.wait:Nat):Int) ∧ MP w w' := by
  have hT := h.tab
  have hp40:(2^40:Nat) = 1099511627776 := by decide
  obtain⟨tv, htc, htl⟩ := h.right.tv
  have hrl := ho.rl
  have hrp := ho.rp
  have hgl := ho.gl
  have c4:= hT.c4
  have c5:w.cell? ((((⟨rb, 0, none⟩:Pg).add 0).add 11).add 5) = some tv := hT.cr 5 tv htc
  have t0:w.cell? (adr tv 1 0) = some (.int .u64 ((nth t.rt 0:Nat):Int)) := by have := htl.cell (i := 0) (j := 0) (by omega) rfl; rwa[ax]at this
  have k18 := h.k18
  have hws := h.win.sl
  have hwl := hs.few
  apply L1 func140 ntmps140 rfl rfl
  refine zh ?_
  refine zvH (aj htl.sh QB (Qp _) rfl rfl 0 rfl (by omega)) ?_
  apply zlp (λz:Nat×Nat×Nat×Nat×ln => [(0, .pointer (some ⟨rb, 0, none⟩)), (3, .int .i64 (z.2.1:Nat)), (4, .int .u64 (z.2.2.2.1:Nat)), (5, .int .i64 (z.2.2.1:Nat)), (19, wv), (20, .int .i64 s.wait.length), (21, .int .i64 z.1)]) (λz => z.2.2.2.2) (λz => z.1 ≤ s.wait.length ∧ z.2.1 < t.right.usual.length ∧ z.2.2.1 ≤ 4 ∧ z.2.2.2.1 < 2^40 ∧ MP w z.2.2.2.2 ∧ rwL t (s.wait.drop z.1) z.2.1 z.2.2.1 z.2.2.2.1 = eO t s.wait) (λz => s.wait.length - z.1) (0, 0, 0, nth t.rt 0, w) ⟨L9 _, hrp, L9 _, ho.rt _ (aZ (by omega)), L4 _, rfl⟩
  rintro⟨k, row, seen, told, w1⟩ ⟨hk, hrow, hseen, htold, hE1, heq⟩
  dsimp only at hk hrow hseen htold hE1 heq ⊢
  have hws1 := hws.ext hE1
  refine zh ?_
  refine zC ?_ ?_
  · intro hlt
    replace hlt:k < s.wait.length := by have := of_decide_eq_true hlt; omega
    obtain⟨c, hd, hcd⟩:∃c hd, (c, hd) = nth s.wait k := ⟨_, _, rfl⟩
    have hc36 := hs.wait _ (aZ hlt)
    rw[← hcd]at hc36
    dsimp only at hc36
    rw[N4 hlt, ← aD hlt, ← hcd, rwL]at heq
    refine zh ?_
    apply zv (ai (us := [.int .i64 (c:Nat), .bool hd]) (λj u hu => hws1.cell hlt (by rw[← hcd]; exact hu)) (Pa _) (Mt _) rfl)
    apply aw (aA w1) 1 (by omega) (NQ _) rfl
    intro xb w2 O2 hxb2 hU2 hR2 hE2
    apply zsa (us := #[.int .i64 (c:Nat), .bool hd]) hxb2 (Mt _)
    have hxb3 := hxb2.setRow (us := #[.int .i64 (c:Nat), .bool hd])
    have hU3:M1 (λj => j = 1) O2 w2 O2 (w2.setRow xb #[.int .i64 (c:Nat), .bool hd]) := L6 (by decide) hxb2.tag rfl
    have hE13 := (hU2.J hU3).ext
    generalize w2.setRow xb #[.int .i64 (c:Nat), .bool hd] = w3 at *
    have hE03 := hE1.J hE13
    have x0:w3.cell? ((⟨xb, 0, none⟩:Pg).add 0) = some (.int .i64 (c:Int)) := hxb3.cell 0 rfl
    have x1:w3.cell? ((⟨xb, 0, none⟩:Pg).add 1) = some (.bool hd) := hxb3.cell 1 rfl
    refine zh ?_
    refine zC ?_ ?_
    · intro hh
      rw[ap hh]at heq
      refine zh ?_
      refine zxd (k + 1, row, seen, told, w3) ⟨hlt, hrow, hseen, htold, hE03, heq⟩
    · intro hh
      rw[am (by rw[hh]; decide)]at heq
      refine zh ?_
      refine zC ?_ ?_
      · intro h4
        replace h4 : seen = 4 := by have : (seen : Int) = 4 := by simpa using h4
                                    omega
        rw[ap h4]at heq
        refine zh ?_
        refine ah rfl rfl ⟨by rw[← heq], hE03⟩
      · intro h4
        replace h4 : seen ≠ 4 := by have : ¬ (seen : Int) = 4 := by simpa using h4
                                    omega
        rw[am h4]at heq
        have hT3 := hT.ext hE03
        obtain⟨hg1, hg2⟩ := ho.gN (c := c) (by omega)
        obtain⟨hr1, hr2⟩ := ho.rN hrow (c := c) (by omega)
        have d4:w3.cell? (((⟨rb, 0, none⟩:Pg).add 0).add 4) = some gv := hT3.c4
        have dcr:∀(j:Nat) (u:ix), rc[j]? = some u → w3.cell? ((((⟨rb, 0, none⟩:Pg).add 0).add 11).add j) = some u := hT3.cr
        have dg:w3.cell? (adr gv 1 c) = some (.int .i64 ((grT t c:Nat):Int)) := by have := hT3.groups.cell (i := c) (j := 0) (by omega) rfl; rw[ax, hg1]at this; exact this
        have hgs := hT3.groups
        refine zh ?_
        apply NX 15 rfl rfl (by kernel_rfl) (by kernel_rfl)
        refine zh ?_
        refine zwH (ai (us := rc) dcr (NS _) (by rw[h.right.one.1]; exact MV _) rfl) ?_
        apply PK
        apply zc Qr (kM rc t.right t.rt row (grT t c) w3.drew (hT3.right.ext (L4 w3).drew) ho.okr hrow hg2)
        rintro _ w4 ⟨rfl, hE4⟩
        rw[hr1]
        have hE04:MP w w4 := (hE03.J (L4 w3).drew).J hE4
        have hT4 := hT.ext hE04
        have e5:w4.cell? ((((⟨rb, 0, none⟩:Pg).add 0).add 11).add 5) = some tv := hT4.cr 5 tv htc
        have htl4 := htl.ext hE04
        have t4:w4.cell? (adr tv 1 (stR t row c)) = some (.int .u64 ((nth t.rt (stR t row c):Nat):Int)) := by have := htl4.cell (i := stR t row c) (j := 0) (by omega) rfl; rwa[ax]at this
        have hlt2 := ho.rt _ (aZ (l := t.rt) (j := stR t row c) (by omega))
        refine zh ?_
        refine zvH (vX (a := told) (b := nth t.rt (stR t row c)) rfl rfl rfl rfl (by show _ ≤ (18446744073709551615:Int); omega) (by show _ ≤ (18446744073709551615:Int); omega)) ?_
        refine zxd (k + 1, stR t row c, seen + 1, told ||| nth t.rt (stR t row c), w4) ⟨hlt, hr2, by dsimp only; omega, Mr htold hlt2, hE04, heq⟩
  · intro hge
    obtain rfl:k = s.wait.length := by have := of_decide_eq_false hge; omega
    rw[List.drop_length, rwL]at heq
    refine zh ?_
    refine ah rfl rfl ⟨by rw[← heq], hE1⟩
def jD{g:Nat}{tab:List Nat}(h:Q7 g tab w)(e:MP w w'):Q7 g tab w':=λj hj=>e.cell (h j hj)
abbrev lP(w:ln):Prop:=Q7 1 PH w
def dK(t:TabM)(s:RunS):Int:=if nth t.lt s.row &&& eO t s.wait=0 then -1 else((Nh 64 (nth t.lt s.row &&& eO t s.wait):Nat):Int)
def oD{t:TabM}{s:RunS}(ho:OkT t)(hs:OkS t s):eO t s.wait<2^40:=Ce ho _ _ _ _ hs.wait ho.rp (ho.rt _ (aZ (by have:=ho.rl;have:=ho.rp;omega)))
def rM(O:Nat->Nat)(w:ln)(i j rb:Nat)(t:TabM)(gv:ix)(lc rc:List ix)(wv:ix)(s:RunS)(h:RunO O w i j rb t gv lc rc wv s)(hi:i≠0)(hj:j≠0)(ho:OkT t)(hs:OkS t s)(hT:lP w):
  MW M5 97 [nP rb] w λv w'=>v=nI (dK t s)/\MP w w':=by
 obtain⟨tv,a4,a3⟩:=h.left.tv;have a':=ho.ll;have a5:=hs.row;have c1:=h.tab.cl 5 tv a4;have t1:w.drew.cell? (adr tv 1 s.row)=some (.int .u64 ((nth t.lt s.row:Nat):Int)):=by have:=a3.cell (i:=s.row) (j:=0) zo rfl;rwa[ax]at this
 have k17:=h.k17;have a7:=ho.lt _ (aZ (l:=t.lt) (j:=s.row) zo);have a9:=oD ho hs;have a6:(2^40:Nat)=1099511627776:=zd;have hW:dK t s=if nth t.lt s.row &&& eO t s.wait=0 then -1 else((Nh 64 (nth t.lt s.row &&& eO t s.wait):Nat):Int):=rfl
 rw[hW];have a8:nth t.lt s.row &&& eO t s.wait<2^40:=NB Nat.and_le_left a7;apply L1 func97 ntmps97 rfl rfl;refine zh ?_;have k17:w.drew.cell? (nA rb 17)=some (nI (s.row:Int)):=k17;apply aO (λW=>W.cell? (((nA rb 0).add 5).add 5)=some tv/\W.cell? (adr tv 1 s.row)=some (.int .u64 ((nth t.lt s.row:Nat):Int))/\W.cell? (nA rb 17)=some (nI (s.row:Int))) 16 rfl zk;refine zin ⟨c1,t1,k17⟩ λzS=>?_
 apply zrm 0 rfl zS rfl;apply zr 1 rfl zS (λ_=>aq rfl)
 apply zrf 2 rfl zS rfl;apply zrf 3 rfl zS rfl
 apply zrf 4 rfl zS rfl;apply zt 5 rfl zS (λw1 a1=>RV.ld a1.1 rfl)
 apply zrm 6 rfl zS rfl;apply zr 7 rfl zS (λ_=>aq rfl)
 apply zrf 8 rfl zS rfl;apply zt 9 rfl zS (λw1 a1=>RV.ld a1.2.2 rfl)
 apply zr 10 rfl zS (λ_=>aj a3.sh QB (Qp _) rfl rfl s.row rfl zo);apply zt 11 rfl zS (λw1 a1=>RV.ld a1.2.1 rfl)
 apply zrm 12 rfl zS rfl;apply L3 13 zk rfl
 apply zc call140 (sj O w.drew i j rb t gv lc rc wv s (h.U (ae (S:=λ_=>False) (λh=>h) O (L4 w).drew) hi hj (λh=>h) (λh=>h)) ho hs);rintro _ w1 ⟨rfl,a2⟩;have a0:MP w w1:=(L4 w).drew.J a2;refine zh ?_
 refine zaf ⟨a2.cell c1,a2.cell t1,a2.cell k17⟩ λzS=>?_
 apply zr 14 rfl zS (λ_=>yK (a:=nth t.lt s.row) (b:=eO t s.wait) rfl rfl rfl rfl (by show _<=(18446744073709551615:Int);omega) (by show _<=(18446744073709551615:Int);omega));apply zra 15 rfl zS rfl
 apply Md zk;refine zh ?_
 generalize nth t.lt s.row &&& eO t s.wait=both at *
 by_cases h0:both=0
 ·rw[ap h0];refine zTH rfl ((by rw[h0];rfl)) ?_;refine ah rfl rfl ⟨rfl,a0⟩
 rw[am h0];refine zFH rfl ((by rw[beq_eq_false_iff_ne];omega)) ?_;apply zc call141 (JN both w1 zo h0 (jD hT a0));rintro _ w2 ⟨rfl,rfl⟩;refine zh ?_;refine ah rfl rfl ⟨rfl,a0⟩
def KX:cI M5 138 #[(0,1),(1,1)]:=⟨_,underlying138,λw=>by kernel_rfl⟩
section
variable{O:Nat→Nat}{w:ln}{i j rb:Nat}{t:TabM}{gv:ix}{lc rc:List ix}{wv:ix}{s:RunS}
def RunO.size(h:RunO O w i j rb t gv lc rc wv s):(pW t gv lc rc wv s).toArray.size=23:=by simp[h.left.one.1,h.right.one.1]
def RunO.at_(h:RunO O w i j rb t gv lc rc wv s)(k:Nat){u:ix}(hu:(GP wv s)[k]? = some u):(pW t gv lc rc wv s).toArray[17+k]? = some u:=by
 have hl:=h.len;simp only[pW,No];rw[Me zo,hl,MF];exact hu
def RunO.store2(h:RunO O w i j rb t gv lc rc wv s)(hi:i≠0)(hj:j≠0)(a0:i≠j)(u0:M1 S O w O' w')(hb:Mk O' w' i rb (pW t gv lc rc wv s).toArray 140)(k:Nat)(v:ix){s':RunS} 
  (hk:(GP wv s).set k v=GP wv' s') (hw:WinO Js 138 2 O' w' j wv' s'.wait) :
  RunO O' (w'.setCell ⟨rb,17+k,none⟩ v) i j rb t gv lc rc wv' s'/\M1 (λq=>q=i) O' w' O' (w'.setCell ⟨rb,17+k,none⟩ v):=by
 have u:M1 (λq=>q=i) O' w' O' (w'.setCell ⟨rb,17+k,none⟩ v):=Mm (λe=>hi e.symm) hb.tag rfl;have f0:=h.fr.U u0;have r0:=h.right.updF (λv hv=>h.fr v (by simp[hv])) u0;refine⟨⟨?_,hw.U u hj (λe=>a0 e.symm),(h.groups.U (h.fr gv (by simp)) u0).U (f0 gv (by simp)) u,(h.left.updF (λv hv=>h.fr v (by simp[hv])) u0).updF (λv hv=>f0 v (by simp[hv])) u,r0.updF (λv hv=>f0 v (by simp[hv])) u,f0.U u⟩,u⟩;have hb:=hb.set (17+k) v;have hl:=h.len;have e:(pW t gv lc rc wv s).toArray.setIfInBounds (17+k) v=(pW t gv lc rc wv' s').toArray:=by
  rw[List.setIfInBounds_toArray];unfold pW;rw[Nn _ _ zo,hl,MF,hk]
 rw[e]at hb;exact hb
def RunO.store(h:RunO O w i j rb t gv lc rc wv s)(hi:i≠0)(hj:j≠0)(a0:i≠j)(k:Nat)(v:ix){s':RunS}(hk:(GP wv s).set k v=GP wv' s')(hw:WinO Js 138 2 O w j wv' s'.wait):
  RunO O (w.setCell ⟨rb,17+k,none⟩ v) i j rb t gv lc rc wv' s'/\M1 (λq=>q=i) O w O (w.setCell ⟨rb,17+k,none⟩ v):=
 h.store2 hi hj a0 (NJ (S:=λ_=>False) (λh=>h) O w) h.blk k v hk hw
def RunO.lastE(h:RunO O w i j rb t gv lc rc wv s)(c:Nat)(b:Bool):((pW t gv lc rc wv s).toArray.toList.take 20++(#[nI (c:Int),.bool b]:Array ix).toList++(pW t gv lc rc wv s).toArray.toList.drop (20+(#[nI (c:Int),.bool b]:Array ix).size)).toArray=(pW t gv lc rc wv {s with last:=(c,b)}).toArray:=by
 have hl:=h.len;congr 1;show List.take 20 (fp t.ig t.kp t.br t.rules gv lc rc++GP wv s)++[nI (c:Int),.bool b]++Qu 22 (fp t.ig t.kp t.br t.rules gv lc rc++GP wv s)=_;have hd:Qu 22 (fp t.ig t.kp t.br t.rules gv lc rc)=[]:=List.drop_eq_nil_of_le zo;rw[List.take_append,List.drop_append,hl,List.take_of_length_le zo,hd];simp
def RunO.lastS(h:RunO O w i j rb t gv lc rc wv s)(hi:i≠0)(hj:j≠0)(a0:i≠j)(c:Nat)(b:Bool):
  RunO O (w.setRow rb (pW t gv lc rc wv {s with last:=(c,b)}).toArray) i j rb t gv lc rc wv {s with last:=(c,b)}/\M1 (λq=>q=i) O w O (w.setRow rb (pW t gv lc rc wv {s with last:=(c,b)}).toArray):=by
 have u:M1 (λq=>q=i) O w O (w.setRow rb (pW t gv lc rc wv {s with last:=(c,b)}).toArray):=L6 (λe=>hi e.symm) h.blk.tag rfl;exact⟨⟨h.blk.setRow,h.win.U u hj (λe=>a0 e.symm),h.groups.U (h.fr gv (by simp)) u,h.left.updF (λv hv=>h.fr v (by simp[hv])) u,h.right.updF (λv hv=>h.fr v (by simp[hv])) u,h.fr.U u⟩,u⟩
end
def aY(id:Int):Nat:=if id<0\/36<=id then 0 else id.toNat
def iQ(id:Int):aY id<36:=by unfold aY;split<;>omega
def Fb(t:TabM)(s:RunS)(c:Nat):Bool:=t.ig.testBit c&&(s.last.2 || !(t.kp.testBit s.last.1))
def sq(t:TabM)(s:RunS)(c:Nat):RunS:=
 if s.begun=true then {s with last:=(c,Fb t s c),wait:=s.wait++[(c,Fb t s c)]} else {s with begun:=true,last:=(c,false),row:=stL t s.row c}
def IE{t:TabM}{s:RunS}(ho:OkT t)(hs:OkS t s)(hc:c<36)(hf:s.wait.length+1<=1000000):OkS t (sq t s c):=by
 unfold sq
 split
 ·refine⟨hs.row,λx hx=>?_,hc,by simpa using hf⟩
  rcases Mg.1 hx with hx|hx
  ·exact hs.wait x hx
  rw[L0.1 hx];exact hc
 exact⟨(ho.lN hs.row zo).2,hs.wait,hc,by show s.wait.length<=_;omega⟩
def xG(B:Nat)(O:Nat->Nat)(w:ln)(i j rb:Nat)(t:TabM)(gv:ix)(lc rc:List ix)(wv:ix)(s:RunS)(h:RunO O w i j rb t gv lc rc wv s)(hi:i≠0)(hj:j≠0)(b3:i≠j)(g3:i<1000)(g0:j<1000)(ho:OkT t)(hs:OkS t s)(hf:s.wait.length+1<=1000000)(hR:NN B O w)(id:Int):
  MW M5 32 [nP rb,nI id] w fun _ w'=>∃O' wv',RunO O' w' i j rb t gv lc rc wv' (sq t s (aY id))/\M1 (fun q=>q=i\/q=j\/q=1000) O w O' w'/\NN B O' w':=by
 have e7:(2^40:Nat)=1099511627776:=zd;have e8:(2^36:Nat)=68719476736:=zd;have hz:¬(0=i\/0=j\/0=1000):=zo;have f9:=hs.last;have f7:=hs.few;obtain⟨c,hc⟩:∃c,c=aY id:=⟨_,rfl⟩
 have e':c<36:=by rw[hc];exact iQ id
 rw[<-hc];refine L1 func32 ntmps32 rfl rfl ?_;refine zh ?_;refine cx (fun w1=>_=w1) (decide (36<=id)) 2 (rfl) rfl rfl rfl rfl rfl ?_ ?_
 ·intro g1;refine zh ?_;refine nE 7 3 (rfl) g1
 rintro _ rfl;refine zh ?_;refine ia (fun z:Nat=>[(0,nP rb),(1,nI (z:Nat))]) (fun z:Nat=>w) (fun z:Nat=>z=c) ?_ ?_
 ·intro Qm hN;refine zC ?_ ?_
  ·intro hb;refine zh ?_;exact dA (hN (0) (by rw[hc];unfold aY;rw[ap (by simpa using hb)])) ⟨rfl,rfl,trivial⟩ rfl
  intro hb;obtain rfl:id=(c:Int):=by
   have:¬(id<0\/36<=id):=by simpa using hb
   rw[hc];unfold aY;rw[am this];omega
  refine zh ?_;exact dA (hN (c) (rfl)) ⟨rfl,rfl,trivial⟩ rfl
 rintro c' e0;obtain rfl:c=c':=e0.symm;clear e0 hc;refine zh ?_;refine zv (aI KX (NQ _) rfl (by first|rfl|(simp only[LY,NH];rfl)) rfl rfl) ?_;refine aw hR 1000 zo (NQ _) rfl ?_;intro xb w1 O1 a7 f4 f5 g5;refine zsa (us:=#[nI (c:Nat),.bool false]) a7 (Mt _) ?_;have a6:=a7.setRow (us:=#[nI (c:Nat),.bool false]);have e1:M1 (fun q=>q=1000) O1 w1 O1 (w1.setRow xb #[nI (c:Nat),.bool false]):=L6 zd a7.tag rfl;generalize w1.setRow xb #[nI (c:Nat),.bool false]=w2 at *;have b1:=f4.J e1;have e2:=f5.U e1;have h2:=h.U b1 hi hj zo zo;have k19:=h2.k19;have b6:=a6.V;refine zh ?_;have hX:=ae (S:=fun _=>False) (fun h=>h) O1 (L4 w2).drew
 cases hbg:s.begun with
 |false=>
  refine zTH rfl rfl ?_;refine aO (fun W=>∀k u,[nI (c:Nat),.bool false][k]? = some u->W.cell? (nA xb k)=some u) 9 rfl zk ?_
  refine zrm 0 rfl b6 rfl ?_;refine zrm 1 rfl b6 rfl ?_
  refine zt 2 rfl b6 (fun w1 a0=>ai (us:=[nI (c:Nat),.bool false]) a0 (Pa _) (Mt _) rfl) ?_;refine zr 3 rfl b6 (fun _=>aq rfl) ?_
  refine zrf 4 rfl b6 rfl ?_;have h2d:=h2.U hX hi hj (fun h=>h) (fun h=>h);refine L3 5 zk rfl ?_
  refine ao (j:=19) h2d.blk (h2d.at_ 2 rfl) (MU _) rfl rfl rfl rfl ?_;obtain⟨h3,b7⟩:=h2d.store hi hj b3 2 (.bool true) (wv':=wv) (s':={s with begun:=true}) (by simp[hbg]) h2d.win;have b0:=(hX.mono (S':=fun q=>q=i) (fun _ h=>h.elim) zo).J b7;have b2:=a6.U b0 zd zo;have d5:=e2.U b0;generalize w2.drew.setCell ⟨rb,17+2,none⟩ (.bool true)=w3 at *;refine zh ?_
  refine zaf (b2.V) fun zS=>?_
  refine zr 6 rfl zS (fun _=>aq rfl) ?_;refine zrf 7 rfl zS rfl ?_
  refine L3 8 zk rfl ?_;refine bW (us:=#[nI (c:Nat),.bool false]) 20 (pW t gv lc rc wv {s with begun:=true,last:=(c,false)}).toArray h3.blk (h3.lastE c false) (by rw[h3.size];show 22<=23;omega) (Mt _) rfl rfl rfl rfl ?_
  obtain⟨h4,a9⟩:=h3.lastS hi hj b3 c false;have b5:=b2.U a9 zd zo;have a':=b0.J a9;have d3:=d5.U a9;generalize w3.setRow rb (pW t gv lc rc wv {s with begun:=true,last:=(c,false)}).toArray=w4 at *;refine zh ?_;refine af (b5.V) ?_;refine Md zk ?_;refine zh ?_;have hB:=h4.tab;obtain⟨d',e9⟩:=ho.gN (c:=c) zo;obtain⟨e6,f8⟩:=ho.lN hs.row (c:=c) zo;have g4:=ho.gl;have d4:w4.drew.cell? ((nA rb 0).add 4)=some gv:=hB.c4;have b9:∀(j:Nat) (u:ix),lc[j]? = some u->w4.drew.cell? (((nA rb 0).add 5).add j)=some u:=hB.cl;have dg:w4.drew.cell? (adr gv 1 c)=some (nI ((grT t c:Nat):Int)):=by have:=hB.groups.cell (i:=c) (j:=0) zo rfl;rw[ax,d']at this;exact this
  have f6:w4.drew.cell? (nA rb 17)=some (nI (s.row:Int)):=h4.k17;refine aO (fun W=>W.cell? ((nA rb 0).add 4)=some gv/\W.cell? (adr gv 1 c)=some (nI ((grT t c:Nat):Int))/\∀(j:Nat) (u:ix),lc[j]? = some u->W.cell? (((nA rb 0).add 5).add j)=some u) 22 rfl zk ?_;refine zin ⟨d4,dg,b9⟩ fun zS=>?_
  refine zrm 0 rfl zS rfl ?_;refine zrm 1 rfl zS rfl ?_
  refine zr 2 rfl zS (fun _=>aq rfl) ?_;refine zrf 3 rfl zS rfl ?_
  refine zrf 4 rfl zS rfl ?_;refine zt 5 rfl zS (fun w1 a0=>ai (us:=lc) a0.2.2 (NS _) (by rw[h.left.one.1];exact MV _) rfl) ?_
  refine zrm 6 rfl zS rfl ?_;refine zr 7 rfl zS (fun _=>aq rfl) ?_
  refine zrf 8 rfl zS rfl ?_;refine zrm 10 rfl zS rfl ?_
  refine zr 11 rfl zS (fun _=>aq rfl) ?_;refine zrf 12 rfl zS rfl ?_
  refine zrf 13 rfl zS rfl ?_;refine zt 14 rfl zS (fun w1 a0=>RV.ld a0.1 rfl) ?_
  refine zrm 15 rfl zS rfl ?_;refine zr 16 rfl zS (fun _=>aj hB.groups.sh Mq (MG _) rfl rfl c rfl zo) ?_
  refine zt 17 rfl zS (fun w1 a0=>RV.ld a0.2.1 rfl) ?_;refine L3 9 zk rfl ?_
  refine zvH (RV.ld f6 rfl) ?_;refine af (⟨d4,dg,b9⟩) ?_
  refine L3 18 zk rfl ?_;refine zc Qr (kM lc t.left t.lt s.row (grT t c) w4.drew (hB.left.ext (L4 w4).drew) ho.okl hs.row e9) ?_
  rintro _ w5 ⟨rfl,a1⟩;rw[e6];refine zh ?_;refine af (⟨a1.cell d4,a1.cell dg,fun j u hu=>a1.cell (b9 j u hu)⟩) ?_;have a5:=ae (S:=fun _=>False) (fun h=>h) O1 ((L4 w4).drew.J a1);have h5:=h4.U a5 hi hj (fun h=>h) (fun h=>h)
  have d2:=d3.U a5;refine zin (⟨a1.cell d4,a1.cell dg,fun j u hu=>a1.cell (b9 j u hu)⟩) fun zS=>?_
  refine zr 19 rfl zS (fun _=>aq rfl) ?_;refine zrf 20 rfl zS rfl ?_
  refine L3 21 zk rfl ?_;refine ao (j:=17) h5.blk (h5.at_ 0 rfl) (MG _) rfl rfl rfl rfl ?_
  obtain⟨h6,a8⟩:=h5.store hi hj b3 0 (nI ((stL t s.row c:Nat):Int)) (wv':=wv) (s':={s with begun:=true,last:=(c,false),row:=stL t s.row c}) rfl h5.win;have d6:=h6.tab;have d1:=d2.U a8;have q1:(w5.setCell ⟨rb,17+0,none⟩ (nI ((stL t s.row c:Nat):Int))).cell? (adr gv 1 c)=some (nI ((grT t c:Nat):Int)):=by have:=d6.groups.cell (i:=c) (j:=0) zo rfl;rw[ax,d']at this;exact this
  refine zh ?_;refine af (⟨d6.c4,q1,d6.cl⟩) ?_
  refine Md zk ?_;refine zh ?_
  have e:sq t s c = {s with begun:=true,last:=(c,false),row:=stL t s.row c}:=by unfold sq;rw[hbg,am zd]
  refine cM rfl (⟨O1,wv,by rw[e];exact h6,(b1.mono (fun _ h=>zo) hz).J ((((a'.J (a5.mono (fun _ h=>h.elim) zo))).J a8).mono (fun _ h=>zo) hz),d1⟩)
 |true=>
  refine zFH rfl rfl ?_;have hB:=h2.tab;have a3:w2.drew.cell? ((nA rb 0).add 0)=some (.int .u64 (t.ig:Int)):=hB.c0;have a2:w2.drew.cell? ((nA rb 0).add 1)=some (.int .u64 (t.kp:Int)):=hB.c1;have k20:w2.drew.cell? ((nA rb 20).add 0)=some (nI (s.last.1:Int)):=h2.k20;have k21:w2.drew.cell? ((nA rb 20).add 1)=some (.bool s.last.2):=h2.k21;have b4:=a6.U hX zd (fun h=>h);have d7:∀b,b=Fb t s c->Mk O1 (w2.drew.setCell ⟨xb,1,none⟩ (.bool b)) 1000 xb #[nI (c:Nat),.bool (Fb t s c)] 138/\M1 (fun q=>q=1000) O1 w2 O1 (w2.drew.setCell ⟨xb,1,none⟩ (.bool b))/\
    ((w2.drew.setCell ⟨xb,1,none⟩ (.bool b)).cell? ((nA rb 0).add 0)=some (.int .u64 (t.ig:Int))/\(w2.drew.setCell ⟨xb,1,none⟩ (.bool b)).cell? ((nA rb 0).add 1)=some (.int .u64 (t.kp:Int))/\(w2.drew.setCell ⟨xb,1,none⟩ (.bool b)).cell? ((nA rb 20).add 0)=some (nI (s.last.1:Int))/\(w2.drew.setCell ⟨xb,1,none⟩ (.bool b)).cell? ((nA rb 20).add 1)=some (.bool s.last.2)):=by
   rintro b rfl;have u1:M1 (fun q=>q=1000) O1 w2.drew O1 (w2.drew.setCell ⟨xb,1,none⟩ (.bool (Fb t s c))):=Mm zd b4.tag rfl;have u2:=(hX.mono (S':=fun q=>q=1000) (fun _ h=>h.elim) zd).J u1;have h3:=h2.U u2 hi hj zo zo;exact⟨b4.set 1 _,u2,h3.tab.c0,h3.tab.c1,h3.k20,h3.k21⟩
  have hh:Fb t s c=(t.ig.testBit c&&(s.last.2 || !(t.kp.testBit s.last.1))):=rfl;have f':=ho.kp;have g2:=ho.ig;refine ia (fun z:ln=>[(0,nP rb),(4,nP xb)]) (fun z:ln=>z) (fun z:ln=>Mk O1 z 1000 xb #[nI (c:Nat),.bool (Fb t s c)] 138/\M1 (fun q=>q=1000) O1 w2 O1 z) ?_ ?_
  ·intro Qm hN;refine aO (fun W=>W.cell? ((nA rb 0).add 0)=some (.int .u64 (t.ig:Int))/\W.cell? ((nA rb 0).add 1)=some (.int .u64 (t.kp:Int))/\W.cell? ((nA rb 20).add 0)=some (nI (s.last.1:Int))/\W.cell? ((nA rb 20).add 1)=some (.bool s.last.2)) 30 rfl zk ?_;refine zin ⟨a3,a2,k20,k21⟩ fun zS=>?_
   refine zrm 0 rfl zS rfl ?_;refine zr 1 rfl zS (fun _=>aq rfl) ?_
   refine zrf 2 rfl zS rfl ?_;refine zrf 3 rfl zS rfl ?_
   refine zt 4 rfl zS (fun w1 a0=>RV.ld a0.1 rfl) ?_;refine zrm 5 rfl zS rfl ?_
   refine L3 6 zk rfl ?_;refine zc QR (sU t.ig c _ zo zo) ?_
   rintro _ w3 ⟨rfl,rfl⟩;refine zh ?_;refine af (⟨a3,a2,k20,k21⟩) ?_;refine zrm 7 rfl (⟨a3,a2,k20,k21⟩) rfl ?_
   cases c6:t.ig.testBit c with
   |false=>
    obtain⟨f1,f2,f3⟩:=d7 false (by rw[hh,c6];rfl);refine bJ (d:=53) rfl (b':=false) (rfl) ?_;refine zin (⟨a3,a2,k20,k21⟩) fun zS=>?_
    refine zte 8 rfl rfl zS ?_;refine zte 9 rfl rfl zS ?_
    refine zte 10 rfl rfl zS ?_;refine zte 11 rfl rfl zS ?_
    refine zte 12 rfl rfl zS ?_;refine zte 13 rfl rfl zS ?_
    refine ztu 14 rfl zS ?_;refine ztu 15 rfl zS ?_
    refine ztu 16 rfl zS ?_;refine ztu 17 rfl zS ?_
    refine ztu 18 rfl zS ?_;refine ztu 19 rfl zS ?_
    refine ztu 20 rfl zS ?_;refine ztu 21 rfl zS ?_
    refine ztu 22 rfl zS ?_;refine ztu 23 rfl zS ?_
    refine ztu 24 rfl zS ?_;refine ztu 25 rfl zS ?_
    refine zte 26 rfl rfl zS ?_;refine zr 27 rfl zS (fun _=>aV rfl rfl) ?_
    refine zrf 28 rfl zS rfl ?_;refine L3 29 zk rfl ?_
    refine ao (j:=1) b4 rfl (MU _) rfl rfl rfl rfl ?_;refine zh ?_
    refine af (f3) ?_;refine Md zk ?_
    exact dA (hN (_) (⟨f1,f2⟩)) ⟨rfl,rfl,trivial⟩ rfl
   |true=>
    refine bJ (d:=53) rfl (b':=true) (rfl) ?_;refine zin (⟨a3,a2,k20,k21⟩) fun zS=>?_
    refine zro 8 rfl zS (fun _=>Nk rfl) ?_;refine zro 9 rfl zS (fun _=>aq rfl) ?_
    refine zro 10 rfl zS (fun _=>RV.fa rfl) ?_;refine zro 11 rfl zS (fun _=>RV.fa rfl) ?_
    refine zto 12 rfl zS (fun w1 a0=>RV.ld a0.2.2.2 rfl) ?_;refine zro 13 rfl zS (fun _=>Nk rfl) ?_
    cases b8:s.last.2 with
    |true=>
     obtain⟨f1,f2,f3⟩:=d7 true (by rw[hh,c6,b8];rfl);rw[b8]at f3 k21;refine bJ (d:=59) rfl (b':=true) (rfl) ?_;refine zin (⟨a3,a2,k20,k21⟩) fun zS=>?_
     refine zte 14 rfl rfl zS ?_;refine zte 15 rfl rfl zS ?_
     refine zte 16 rfl rfl zS ?_;refine zte 17 rfl rfl zS ?_
     refine zte 18 rfl rfl zS ?_;refine zte 19 rfl rfl zS ?_
     refine zte 20 rfl rfl zS ?_;refine zte 21 rfl rfl zS ?_
     refine zte 22 rfl rfl zS ?_;refine zte 23 rfl rfl zS ?_
     refine zte 24 rfl rfl zS ?_;refine zte 25 rfl rfl zS ?_
     refine zro 26 rfl zS (fun _=>aT rfl rfl) ?_;refine zr 27 rfl zS (fun _=>aT rfl rfl) ?_
     refine zrf 28 rfl zS rfl ?_;refine L3 29 zk rfl ?_
     refine ao (j:=1) b4 rfl (MU _) rfl rfl rfl rfl ?_;refine zh ?_
     refine af (f3) ?_;refine Md zk ?_
     exact dA (hN (_) (⟨f1,f2⟩)) ⟨rfl,rfl,trivial⟩ rfl
    |false=>
     obtain⟨f1,f2,f3⟩:=d7 (!(t.kp.testBit s.last.1)) (by rw[hh,c6,b8];rfl);rw[b8]at f3 k21;refine bJ (d:=59) rfl (b':=false) (rfl) ?_;refine zin (⟨a3,a2,k20,k21⟩) fun zS=>?_
     refine zro 14 rfl zS (fun _=>Nk rfl) ?_;refine zro 15 rfl zS (fun _=>aq rfl) ?_
     refine zro 16 rfl zS (fun _=>RV.fa rfl) ?_;refine zro 17 rfl zS (fun _=>RV.fa rfl) ?_
     refine zto 18 rfl zS (fun w1 a0=>RV.ld a0.2.1 rfl) ?_;refine zro 19 rfl zS (fun _=>Nk rfl) ?_
     refine zro 20 rfl zS (fun _=>aq rfl) ?_;refine zro 21 rfl zS (fun _=>RV.fa rfl) ?_
     refine zro 22 rfl zS (fun _=>RV.fa rfl) ?_;refine zto 23 rfl zS (fun w1 a0=>RV.ld a0.2.2.1 rfl) ?_
     refine L3 24 zk rfl ?_;refine bt rfl ?_
     refine zc QR (sU t.kp s.last.1 _ zo zo) ?_;rintro _ w3 ⟨rfl,rfl⟩;refine zh ?_
     refine zaf (⟨a3,a2,k20,k21⟩) fun zS=>?_
     refine zro 25 rfl zS (fun _=>RV.not rfl) ?_;refine zro 26 rfl zS (fun _=>aV rfl rfl) ?_
     refine zr 27 rfl zS (fun _=>aT rfl rfl) ?_;refine zrf 28 rfl zS rfl ?_
     refine L3 29 zk rfl ?_;refine ao (j:=1) b4 rfl (MU _) rfl rfl rfl rfl ?_
     refine zh ?_;refine af (f3) ?_
     refine Md zk ?_;exact dA (hN (_) (⟨f1,f2⟩)) ⟨rfl,rfl,trivial⟩ rfl
  rintro w3 ⟨b2,b7⟩;refine zh ?_;obtain⟨hd,d9⟩:∃hd,hd=Fb t s c:=⟨_,rfl⟩
  rw[<-d9]at b2;have h3:=h2.U b7 hi hj zo zo;have d5:=e2.U b7;refine zh ?_;refine zvH (ai (us:=[nI (c:Nat),.bool hd]) b2.V (Pa _) (Mt _) rfl) ?_;refine bW (us:=#[nI (c:Nat),.bool hd]) 20 (pW t gv lc rc wv {s with last:=(c,hd)}).toArray h3.blk (h3.lastE c hd) (by rw[h3.size];show 22<=23;omega) (Mt _) rfl rfl rfl rfl ?_;obtain⟨h4,a9⟩:=h3.lastS hi hj b3 c hd;have b5:=b2.U a9 zd zo;have a':=(b7.mono (S':=fun q=>q=i\/q=j\/q=1000) (fun _ h=>zo) hz).J (a9.mono (fun _ h=>zo) hz);have d3:=d5.U a9;generalize w3.setRow rb (pW t gv lc rc wv {s with last:=(c,hd)}).toArray=w4 at *;refine zh ?_;have k18:w4.drew.cell? (nA rb 18)=some wv:=h4.k18;refine aO (fun W=>∀k u,[nI (c:Nat),.bool hd][k]? = some u->W.cell? (nA xb k)=some u) 11 rfl zk ?_;refine zin b5.V fun zS=>?_
  refine zrm 0 rfl zS rfl ?_;refine zrm 1 rfl zS rfl ?_
  refine zr 2 rfl zS (fun _=>aq rfl) ?_;refine zrf 3 rfl zS rfl ?_
  refine zt 5 rfl zS (fun w1 a0=>ai (us:=[nI (c:Nat),.bool hd]) a0 (Pa _) (Mt _) rfl) ?_;refine cG 4 6 elE (enc:=Js) ((c,hd):En) rfl rfl zk zk zk zk (fun W hE=>RV.load (hE.cell k18) (isAgg136 _) rfl) (fun W hE k u hu=>hE.cell (b5.V k u hu)) rfl rfl rfl zd rfl rfl rfl rfl rfl ?_
  intro sv w5 e5 a1;have a5:=ae (S:=fun _=>False) (fun h=>h) O1 ((L4 w4).drew.J a1);have h5:=h4.U a5 hi hj (fun h=>h) (fun h=>h);have d2:=d3.U a5;refine L3 7 zk rfl ?_;refine vV elE h5.win d2 e5 rfl rfl rfl (by simp[Ml]) (by show(s.wait.length+1)*16<=_;omega) (by show s.wait.length+1<=_;omega) hj rfl ?_;intro c5 w6 O6 a4 a8 d1;have d8:=(b5.U a5 zd (fun h=>h)).U a8 zd zo;have h6:=h5.blk.U a8 hi b3;refine zh ?_;refine zaf (d8.V) fun zS=>?_
  refine zr 8 rfl zS (fun _=>aq rfl) ?_;refine zrf 9 rfl zS rfl ?_
  refine L3 10 zk rfl ?_;refine ao (j:=18) h6 (h5.at_ 1 rfl) (sizeOf136 _) a4.one rfl rfl rfl ?_
  obtain⟨h7,c7⟩:=h5.store2 hi hj b3 a8 h6 1 c5 (wv':=c5) (s':={s with last:=(c,hd),wait:=s.wait++[(c,hd)]}) rfl a4;refine zh ?_;refine af ((d8.U c7 zd zo).V) ?_;refine Md zk ?_;have e:sq t s c = {s with last:=(c,hd),wait:=s.wait++[(c,hd)]}:=by unfold sq;rw[hbg,ap rfl,<-d9]
  refine aK rfl (⟨O6,c5,by rw[e];exact h7,(b1.mono (fun _ h=>zo) hz).J (((a'.J (a5.mono (fun _ h=>h.elim) hz)).J (a8.mono (fun _ h=>zo) hz)).J (c7.mono (fun _ h=>zo) hz)),d1.U c7⟩)
def mQ{g:Nat}{tab:List Nat}(h:Q7 g tab w)(hg:g<B)(r:NN B O w)(u:M1 S O w O' w'):Q7 g tab w':=λj hj=>by
 have h0:O g=0:=by
  by_cases e:O g=0
  ·exact e
  have:=(r.rng g e).1;omega
 exact iS (u.blk g (by have:=r.le;omega) (by rw[h0];exact u.z)) (h j hj)
abbrev Le:Nat:=1
def II(t:TabM)(s:RunS)(x:En):Int:=if x.2=true then -1 else dK t s
def passB(t:TabM)(s:RunS)(x:En):Bool:=!x.2&&(decide (dK t s<0)||t.br.testBit (dK t s).toNat)
def FL(t:TabM)(s:RunS)(x:En)(r:List En):RunS:={s with row:=if x.2=true then s.row else stL t s.row x.1,wait:=r}
def BC(t:TabM)(s:RunS)(ho:OkT t)(hs:OkS t s):dK t s = -1\/∃n,n<64/\dK t s=((n:Nat):Int):=by
 have a1:(2^40:Nat)=1099511627776:=zd;have a2:=oD ho hs;have a0:nth t.lt s.row &&& eO t s.wait<18446744073709551616:=NB PM zo;unfold dK;generalize nth t.lt s.row &&& eO t s.wait=both at *
 split
 ·exact .inl rfl
 rename_i h0;obtain⟨_,hk⟩:=Q0 64 both h0 a0;exact .inr ⟨_,hk,rfl⟩
def FK{t:TabM}{s:RunS}{x:En}{r:List En}(ho:OkT t)(hs:OkS t s)(hw:s.wait=x::r):OkS t (FL t s x r):=by
 have hx:=hs.wait x (by simp[hw]);refine⟨?_,λy hy=>hs.wait y (by rw[hw];simp[show y∈r from hy]),hs.last,?_⟩
 ·show(if x.2=true then s.row else stL t s.row x.1)<_
  split
  ·exact hs.row
  exact(ho.lN hs.row zo).2
 have:=hs.few;rw[hw]at this;simp only[L7]at this;show r.length<=_;omega
def uJ(B:Nat)(O:Nat->Nat)(w:ln)(i j rb:Nat)(t:TabM)(gv:ix)(lc rc:List ix)(wv:ix)(s:RunS)(x:En)(r:List En)(b0:s.wait=x::r)(h:RunO O w i j rb t gv lc rc wv s)(hi:i≠0)(hj:j≠0)(d1:i≠j)(f8:i<1000)(f7:j<1000)(ho:OkT t)(hs:OkS t s)(hR:NN B O w)(hT:lP w)(hg:Le<B):
  MW M5 64 [nP rb] w λv w'=>v=.tuple #[nI (II t s x),.bool (passB t s x)]/\∃O' wv',RunO O' w' i j rb t gv lc rc wv' (FL t s x r)/\M1 (λq=>q=i\/q=j\/q=1000) O w O' w'/\NN B O' w':=by
 have d9:(2^40:Nat)=1099511627776:=zd;have hz:¬(0=i\/0=j\/0=1000):=zo;have f5:=hs.few;have a9:s.wait.length=r.length+1:=by rw[b0];rfl
 have k18:=h.k18;have d0:=h.win.sl;obtain⟨c,hd,e1⟩:∃c hd,x=(c,hd):=⟨_,_,rfl⟩
 subst e1;have e2:=hs.wait (c,hd) (by simp[b0]);have a':=BC t s ho hs;apply L1 func64 ntmps64 rfl rfl;refine zh ?_;apply zv (aj d0.sh Pj (Mt _) rfl rfl 0 rfl zo);apply zv (ai (us:=[nI (c:Nat),.bool hd]) (λk u hu=>d0.cell (i:=0) zo (by rw[b0,ar];exact hu)) (Pa _) (Mt _) rfl);apply aw hR 1000 zo (NQ _) rfl;intro xb w1 O1 a4 e3 e7 g0;apply zsa (us:=#[nI (c:Nat),.bool hd]) a4 (Mt _);have a3:=a4.setRow (us:=#[nI (c:Nat),.bool hd]);have d5:M1 (λq=>q=1000) O1 w1 O1 (w1.setRow xb #[nI (c:Nat),.bool hd]):=L6 zd a4.tag rfl;generalize w1.setRow xb #[nI (c:Nat),.bool hd]=w2 at *;have a7:=e3.J d5;have d6:=e7.U d5;have h2:=h.U a7 hi hj zo zo;have e4:lP w2:=mQ hT hg hR a7;have x1:w2.cell? (nA xb 1)=some (.bool hd):=a3.cell 1 rfl;refine zh ?_;refine ia (λz:(Nat->Nat)×World×Int=>[(0,nP rb),(4,nP xb),(5,nI z.2.2)]) (λz:(Nat->Nat)×World×Int=>z.2.1) (λz:(Nat->Nat)×World×Int=>RunO z.1 z.2.1 i j rb t gv lc rc wv {s with row:=if hd=true then s.row else stL t s.row c}/\Mk z.1 z.2.1 1000 xb #[nI (c:Nat),.bool hd] 138/\M1 (λq=>q=i) O1 w2 z.1 z.2.1/\NN B z.1 z.2.1/\z.2.2=II t s (c,hd)) ?_ ?_
 ·intro Qm hN
  by_cases a1:hd=true
  ·refine zFH rfl ((by rw[a1];rfl)) ?_;exact dA (hN ((O1,w2,-1)) ⟨by rw[ap a1];exact h2,a3,NJ (λe=>hi e.symm) _ _,d6,by show _=if hd=true then _ else _;rw[ap a1]⟩) ⟨rfl,rfl,rfl,trivial⟩ rfl
  refine zTH rfl ((by rw[show hd=false from by simpa using a1];rfl)) ?_;apply zc call97 (rM O1 w2 i j rb t gv lc rc wv s h2 hi hj ho hs e4)
  rintro _ w3 ⟨rfl,e'⟩;have b4:=ae (S:=λ_=>False) (λh=>h) O1 e';have h3:=h2.U b4 hi hj (λh=>h) (λh=>h);have a0:=a3.U b4 zd (λh=>h);have b5:=d6.U b4;refine zh ?_;have hB:=h3.tab;obtain⟨d2,d'⟩:=ho.gN (c:=c) zo;obtain⟨d8,f6⟩:=ho.lN hs.row (c:=c) zo;have f9:=ho.gl;have d4:w3.drew.cell? ((nA rb 0).add 4)=some gv:=hB.c4;have b6:∀(j:Nat) (u:ix),lc[j]? = some u->w3.drew.cell? (((nA rb 0).add 5).add j)=some u:=hB.cl;have dg:w3.drew.cell? (adr gv 1 c)=some (nI ((grT t c:Nat):Int)):=by have:=hB.groups.cell (i:=c) (j:=0) zo rfl;rw[ax,d2]at this;exact this
  have f3:w3.drew.cell? (nA rb 17)=some (nI (s.row:Int)):=h3.k17;have dx:w3.drew.cell? (nA xb 0)=some (nI (c:Int)):=a0.cell 0 rfl;apply aO (λW=>W.cell? ((nA rb 0).add 4)=some gv/\W.cell? (adr gv 1 c)=some (nI ((grT t c:Nat):Int))/\(∀(j:Nat) (u:ix),lc[j]? = some u->W.cell? (((nA rb 0).add 5).add j)=some u)/\W.cell? (nA xb 0)=some (nI (c:Int))) 23 rfl zk;refine zin ⟨d4,dg,b6,dx⟩ λzS=>?_
  apply zrm 0 rfl zS rfl;apply zrm 1 rfl zS rfl
  apply zr 2 rfl zS (λ_=>aq rfl);apply zrf 3 rfl zS rfl
  apply zrf 4 rfl zS rfl;apply zt 5 rfl zS (λw1 a5=>ai (us:=lc) a5.2.2.1 (NS _) (by rw[h.left.one.1];exact MV _) rfl)
  apply zrm 6 rfl zS rfl;apply zr 7 rfl zS (λ_=>aq rfl)
  apply zrf 8 rfl zS rfl;apply zrm 10 rfl zS rfl
  apply zr 11 rfl zS (λ_=>aq rfl);apply zrf 12 rfl zS rfl
  apply zrf 13 rfl zS rfl;apply zt 14 rfl zS (λw1 a5=>RV.ld a5.1 rfl)
  apply zrf 15 rfl zS rfl;apply zt 16 rfl zS (λw1 a5=>RV.ld a5.2.2.2 rfl)
  apply zr 17 rfl zS (λ_=>aj hB.groups.sh Mq (MG _) rfl rfl c rfl zo);apply zt 18 rfl zS (λw1 a5=>RV.ld a5.2.1 rfl)
  apply L3 9 zk rfl;refine zvH (RV.ld f3 rfl) ?_
  apply af ⟨d4,dg,b6,dx⟩;apply L3 19 zk rfl
  apply zc Qr (kM lc t.left t.lt s.row (grT t c) w3.drew (hB.left.ext (L4 w3).drew) ho.okl hs.row d');rintro _ w5 ⟨rfl,a2⟩;rw[d8];refine zh ?_
  apply af ⟨a2.cell d4,a2.cell dg,λj u hu=>a2.cell (b6 j u hu),a2.cell dx⟩;have b3:=ae (S:=λ_=>False) (λh=>h) O1 ((L4 w3).drew.J a2);have h5:=h3.U b3 hi hj (λh=>h) (λh=>h);refine zin ⟨a2.cell d4,a2.cell dg,λj u hu=>a2.cell (b6 j u hu),a2.cell dx⟩ λzS=>?_
  apply zr 20 rfl zS (λ_=>aq rfl);apply zrf 21 rfl zS rfl
  apply L3 22 zk rfl;apply ao (j:=17) h5.blk (h5.at_ 0 rfl) (MG _) rfl rfl rfl rfl
  obtain⟨h6,c5⟩:=h5.store hi hj d1 0 (nI ((stL t s.row c:Nat):Int)) (wv':=wv) (s':={s with row:=stL t s.row c}) rfl h5.win;have c9:=h6.tab;have a8:=(a0.U b3 zd (λh=>h)).U c5 zd zo;have q1:(w5.setCell ⟨rb,17+0,none⟩ (nI ((stL t s.row c:Nat):Int))).cell? (adr gv 1 c)=some (nI ((grT t c:Nat):Int)):=by have:=c9.groups.cell (i:=c) (j:=0) zo rfl;rw[ax,d2]at this;exact this
  refine zh ?_;apply af ⟨c9.c4,q1,c9.cl,a8.cell 0 rfl⟩
  apply Md zk;exact dA (hN ((O1,_,dK t s)) ⟨by rw[am a1];exact h6,a8,((b4.J b3).mono (S':=λq=>q=i) (λ_ h=>h.elim) zo).J c5,(b5.U b3).U c5,by show _=if hd=true then _ else _;rw[am a1]⟩) ⟨rfl,rfl,rfl,trivial⟩ rfl
 rintro⟨O3,w3,k⟩ ⟨h3,a0,d3,b5,hk⟩;dsimp only at h3 a0 d3 b5 hk ⊢;refine zh ?_;have g1:=h3.k18;refine zh ?_;refine zvH (mS h3.win.sl Pj (Mt _) rfl rfl 1 rfl (by show 1<=s.wait.length;omega)) ?_;have c':WinO Js 138 2 O3 w3 j (dk wv 2 1 s.wait.length) r:=by
  rw[a9];have:WinO Js 138 2 O3 w3 j wv ((c,hd)::r):=by rw[<-b0];exact h3.win
  exact this.tail zd
 apply ao (j:=18) h3.blk (h3.at_ 1 rfl) (sizeOf136 _) c'.one rfl rfl rfl;obtain⟨h4,c6⟩:=h3.store hi hj d1 1 (dk wv 2 1 s.wait.length) (wv':=dk wv 2 1 s.wait.length) (s':=FL t s (c,hd) r) rfl c';have c8:=b5.U c6;generalize w3.setCell ⟨rb,17+1,none⟩ (dk wv 2 1 s.wait.length)=w4 at *;have a6:=(a7.mono (S':=λq=>q=i\/q=j\/q=1000) (λ_ h=>zo) hz).J ((d3.J c6).mono (λ_ h=>zo) hz);have f4:w4.cell? (nA xb 1)=some (.bool hd):=(a0.U c6 zd zo).cell 1 rfl;refine zh ?_
 cases a1:hd with
 |true=>
  apply ay (d:=51) rfl (b':=false) rfl;refine zh ?_
  refine cy rfl rfl rfl ⟨by rw[hk,a1];rfl,O3,_,by rw[<-a1];exact h4,a6,c8⟩
 |false=>
  have f':=ho.br;subst a1;replace hk:k=dK t s:=hk;have e9:passB t s (c,false)=(decide (dK t s<0)||t.br.testBit (dK t s).toNat):=rfl;have e8:II t s (c,false)=dK t s:=rfl;rw[e9,e8,<-hk];rw[<-hk]at a';apply ay (d:=51) rfl (b':=true) rfl;refine zh ?_
  rcases a' with b1|⟨n,hn,b1⟩
  ·apply ay (d:=54) rfl (b':=true) ((by rw[b1];rfl));refine zh ?_
   refine cy rfl rfl rfl ⟨by rw[b1];rfl,O3,_,h4,a6,c8⟩
  have e0:decide (k<0)=false:=decide_eq_false zo;rw[e0,b1];apply ay (d:=54) rfl (b':=false) rfl;have b2:w4.cell? ((nA rb 0).add 2)=some (.int .u64 (t.br:Int)):=h4.tab.c2;refine zh ?_;apply zc QR (sU t.br n _ zo hn);rintro _ w5 ⟨rfl,rfl⟩;refine zh ?_;refine cy rfl rfl rfl ⟨rfl,O3,_,h4,a6,c8⟩
abbrev dD(b:Bool):List ix:=[.bool b]
def xe:Qw M5 38 4 1 1:=⟨Nu,by kernel_rfl,zd⟩
abbrev sf(row:Nat)(l:List En):RunS:=⟨row,l,true,(0,false),true⟩
def stepL(t:TabM)(row:Nat)(x:En):Nat:=if x.2=true then row else stL t row x.1
def closeL(t:TabM):List En->Nat->List Bool
 |[],_=>[]
 |x::r,row=>passB t (sf row (x::r)) x::closeL t r (stepL t row x)
def FM(t:TabM)(s:RunS)(x:En):passB t s x=passB t (sf s.row s.wait) x:=rfl
def mL(t:TabM):∀(l:List En) (row:Nat),(closeL t l row).length=l.length
 |[],_=>rfl
 |x::r,row=>by rw[closeL,L7,mL t r,L7]
def th(B:Nat)(O:Nat->Nat)(w:ln)(i j m rb:Nat)(t:TabM)(gv:ix)(lc rc:List ix)(wv:ix)(s:RunS)(h:RunO O w i j rb t gv lc rc wv s)(hi:i≠0)(hj:j≠0)(b3:i≠j)(c9:i<1000)(c7:j<1000)(hm:m≠0)(d5:m<1000)(c8:i≠m)(c6:j≠m) 
  (ho:OkT t) (hs:OkS t s) (d0:s.closed=false) (hR:NN B O w) (hT:lP w) (hg:Le<B) :
  MW M5 33 [nP rb] w λv w'=>∃O' wv' s',RunO O' w' i j rb t gv lc rc wv' s'/\OkS t s'/\s'.wait=[]/\s'.closed=true/\Nv dD 4 1 O' w' m v (closeL t s.wait s.row)/\M1 (λq=>q=i\/q=j\/q=m\/q=1000) O w O' w'/\NN B O' w':=by
 have hz:¬(0=i\/0=j\/0=m\/0=1000):=zo;have d4:=hs.few;have k22:=h.k22;rw[d0]at k22;obtain⟨R,b7⟩:∃R,R=closeL t s.wait s.row:=⟨_,rfl⟩
 rw[<-b7];apply L1 func33 ntmps33 rfl rfl;refine zh ?_;refine zvH (eE (q:=some ⟨rb,0,none⟩) QA rfl rfl) ?_;apply ay (d:=8) rfl (b':=false) rfl;refine zh ?_;refine zFH rfl rfl ?_;apply ao (j:=22) h.blk (h.at_ 5 rfl) (MU _) rfl rfl rfl rfl;obtain⟨h1,b6⟩:=h.store hi hj b3 5 (.bool true) (wv':=wv) (s':={s with closed:=true}) rfl h.win;generalize w.setCell ⟨rb,17+5,none⟩ (.bool true)=w1 at *;refine zh ?_;apply zlp (λz:(Nat->Nat)×World×ix×RunS×ix×List Bool=>[(0,nP rb),(3,z.2.2.2.2.1)]) (λz=>z.2.1) (λz=>RunO z.1 z.2.1 i j rb t gv lc rc z.2.2.1 z.2.2.2.1/\OkS t z.2.2.2.1/\z.2.2.2.1.closed=true/\Nv dD 4 1 z.1 z.2.1 m z.2.2.2.2.1 z.2.2.2.2.2/\M1 (λq=>q=i\/q=j\/q=m\/q=1000) O w z.1 z.2.1/\NN B z.1 z.2.1/\z.2.2.2.2.2++closeL t z.2.2.2.1.wait z.2.2.2.1.row=R/\z.2.2.2.2.2.length+z.2.2.2.1.wait.length<=1000000) (λz=>z.2.2.2.1.wait.length) (O,w1,wv,{s with closed:=true},nS,[]) ⟨h1,⟨hs.row,hs.wait,hs.last,hs.few⟩,rfl,NU _ _ _ _ _ _,b6.mono (λ_ h=>zo) hz,hR.U b6,by rw[b7];rfl,by show 0+s.wait.length<=_;omega⟩;rintro⟨O2,w2,b0,s2,ov,l⟩ ⟨h2,a2,a9,a6,a3,a',a1,a8⟩;dsimp only at h2 a2 a9 a6 a3 a' a1 a8 ⊢;have c5:=h2.win.sl;have d6:=h2.k18;refine zh ?_;refine zC ?_ ?_
 ·intro a7;replace a7:0<s2.wait.length:=dT a7;obtain⟨x,r,a0⟩:=List.exists_cons_of_ne_nil (List.length_pos_iff.1 a7);have b1:s2.wait.length=r.length+1:=by rw[a0];rfl
  rw[a0,closeL]at a1;refine zh ?_;apply zc call64 (uJ B O2 w2 i j rb t gv lc rc b0 s2 x r a0 h2 hi hj b3 c9 c7 ho a2 a' (mQ hT hg hR a3) hg);rintro _ w3 ⟨rfl,O3,b8,h3,b5,d2⟩;refine zh ?_;apply Qj xe (a6.U b5 hm zo) d2 (passB t s2 x) (λ_=>rfl) rfl rfl rfl (by simp[Ml]) zo zo zo zd rfl rfl;intro b9 w4 O4 a4 b4 d1;refine zh ?_;refine zx (O4,w4,b8,FL t s2 x r,b9,l++[passB t s2 x]) ⟨h3.U b4 hi hj c8 c6,FK ho a2 a0,a9,a4,(a3.J (b5.mono (λ_ h=>zo) hz)).J (b4.mono (λ_ h=>zo) hz),d1,by rw[N5,<-a1,FM,a0];rfl,by rw[ME];show l.length+1+r.length<=_;omega⟩ (by show r.length<_;omega)
 intro c';have b2:s2.wait=[]:=MQ (by have:=of_decide_eq_false c';omega);rw[b2,closeL,M8]at a1;subst a1;refine zh ?_;refine ah rfl rfl ⟨O2,b0,s2,h2,a2,b2,a9,a6,a3,a'⟩
end Go.Proofs.YteolbhblkgjbhaaGreatDoor
section
namespace Go.VL
def BA:∀(l:List ix) (k:Nat) (cells:Array ix),k+l.length<=cells.size->(l.zipIdx k).foldl (fun(cs:Array ix) (q:ix×Nat)=>cs.setIfInBounds (0+q.2) q.1) cells=(cells.toList.take k++l++cells.toList.drop (k+l.length)).toArray
 |[],k,cells,_=>by simp
 |c::l,k,cells,h=>by
  simp only[L7]at h;rw[List.zipIdx_cons,MT,BA l (k+1) _ (by simp;omega)];congr 1;simp only[Qf,Array.toList_setIfInBounds,L7];rw[List.drop_set_of_lt zo,List.take_succ_eq_append_getElem (by simp;omega),List.take_set_of_le (Mb _)];simp[P6,Pe 1]
def Dp(pl:Array (Nat×Nat))(us cells:Array ix)(hp:pl[0]? = some (0,us.size))(hs:us.size<=cells.size):Qg (pl[·]?) cells [(0,.agg us)]=some (us.toList++cells.toList.drop us.size).toArray:=by
 have hc:(Value.agg us).cells=us:=rfl;have a0:=zo;simp only[Qg,hp,hc];rw[am (by simp;omega)];have:=BA us.toList 0 cells (by simpa using hs);rw[<-Array.foldl_toList,Array.toList_zipIdx];simpa using this
end Go.VL
namespace Go.Proofs.YteolbhblkgjbhaaGreatDoor
open Go.VL Go.Proofs
set_option maxRecDepth 10000
def KW:cI M5 140 #[(0,17),(17,1),(18,1),(19,1),(20,2),(22,1)]:=⟨_,underlying140,λw=>by kernel_rfl⟩
def oy(t:TabM):RunS:=⟨stL t 0 36,[],false,(0,false),false⟩
def IA{t:TabM}(ho:OkT t):OkS t (oy t):=⟨(ho.lN ho.lp zd).2,λx hx=>(by cases hx),(by show 0<36;decide),(by show 0<=1000000;decide)⟩
def xz(B:Nat)(O:Nat->Nat)(w:ln)(i j:Nat)(t:TabM)(gv:ix)(lc rc:List ix)(d5:N6 w gv t.groups)(c9:PartV w lc t.left t.lt)(c8:PartV w rc t.right t.rt)(d7:FreeL O w (gv::(lc++rc)))(hi:i≠0)(hj:j≠0)(d3:i≠j)(e2:i<1000)(ho:OkT t)(d1:gD t=true)(hR:NN B O w):
  MW M5 31 [.agg (fp t.ig t.kp t.br t.rules gv lc rc).toArray] w λv w'=>∃O' rb,v=nP rb/\RunO O' w' i j rb t gv lc rc nS (oy t)/\M1 (λq=>q=i\/q=1000) O w O' w'/\NN B O' w':=by
 have hz:¬(0=i\/0=1000):=zo;obtain⟨ll,lo⟩:=c9.one;obtain⟨rl,ro⟩:=c8.one;have a0:(fp t.ig t.kp t.br t.rules gv lc rc).length=17:=by simp[ll,rl]
 apply L1 func31 ntmps31 rfl rfl;refine zh ?_
 apply aQ hR 1000 zo rfl rfl;intro db w1 O1 a8 d0 e0 c5;have a5:=d5.ext c5;have a4:=c9.ext c5;have a3:=c8.ext c5;refine zh ?_
 apply zv (ai (us:=fp t.ig t.kp t.br t.rules gv lc rc) a8.V (NC _) (by rw[a0];exact Mw _) rfl);apply zc call10 (iq t _ w1 ⟨gv,lc,rc,rfl,a5,a4,a3⟩)
 rintro _ w2 ⟨rfl,b1⟩;have b0:=ae (S:=λ_=>False) (λh=>h) O1 b1;have a7:=a8.U b0 zd (λh=>h);rw[d1];refine zh ?_;refine zFH rfl rfl ?_;apply zv (ai (us:=fp t.ig t.kp t.br t.rules gv lc rc) a7.V (NC _) (by rw[a0];exact Mw _) rfl);apply zv (MS (cells:=(pW t gv lc rc nS ⟨0,[],false,(0,false),false⟩).toArray) KW (zeroValue140 _) rfl (by rw[Dp _ _ _ (by rw[ND,a0];rfl) (by rw[ND,a0];decide),ND,a0];rfl));apply aQ (e0.U b0) i zo rfl rfl;intro rb w3 O3 b2 b9 d9 b';have h3:RunO O3 w3 i j rb t gv lc rc nS ⟨0,[],false,(0,false),false⟩:=⟨b2,WinO.nil _ _ _ _ _ _,a5.ext (b1.J b'),a4.ext (b1.J b'),a3.ext (b1.J b'),((d7.U d0).U b0).U b9⟩
 have a6:=a7.U b9 zd zo;have a9:=yD (t:=t) a6 h3.groups h3.left h3.right;refine zh ?_;obtain⟨c',d6⟩:=ho.gN (c:=36) zd;obtain⟨d2,e1⟩:=ho.lN ho.lp (c:=36) zd;have e3:=ho.gl;have d4:=a9.c4;have c7:=a9.cl;have dg:w3.drew.cell? (adr gv 1 36)=some (nI ((grT t 36:Nat):Int)):=by have:=a9.groups.cell (i:=36) (j:=0) zo rfl;rw[ax,c']at this;exact this
 apply aO (λW=>W.cell? (nA db 4)=some gv/\W.cell? (adr gv 1 36)=some (nI ((grT t 36:Nat):Int))/\(∀(j:Nat) (u:ix),lc[j]? = some u->W.cell? ((nA db 5).add j)=some u)) 11 rfl zk;refine zin ⟨d4,dg,c7⟩ λzS=>?_
 apply zrm 0 rfl zS rfl;apply zrf 1 rfl zS rfl
 apply zt 2 rfl zS (λw1 a2=>ai (us:=lc) a2.2.2 (NS _) (by rw[ll];exact MV _) rfl);apply zrf 3 rfl zS rfl
 apply zt 4 rfl zS (λw1 a2=>RV.ld a2.1 rfl);apply zr 5 rfl zS (λ_=>aj a9.groups.sh Mq (MG _) rfl rfl 36 rfl zo)
 apply zt 6 rfl zS (λw1 a2=>RV.ld a2.2.1 rfl);apply L3 7 zk rfl
 apply zc Qr (kM lc t.left t.lt 0 (grT t 36) w3.drew (a9.left.ext (L4 w3).drew) ho.okl ho.lp d6);rintro _ w5 ⟨rfl,a1⟩;rw[d2];refine zh ?_
 apply af ⟨a1.cell d4,a1.cell dg,λj u hu=>a1.cell (c7 j u hu)⟩;have a':=ae (S:=λ_=>False) (λh=>h) O3 ((L4 w3).drew.J a1);have h5:=h3.U a' hi hj (λh=>h) (λh=>h);refine zin ⟨a1.cell d4,a1.cell dg,λj u hu=>a1.cell (c7 j u hu)⟩ λzS=>?_
 apply zr 8 rfl zS (λ_=>aq rfl);apply zrf 9 rfl zS rfl
 apply L3 10 zk rfl;apply ao (j:=17) h5.blk (h5.at_ 0 rfl) (MG _) rfl rfl rfl rfl
 obtain⟨h6,b8⟩:=h5.store hi hj d3 0 (nI ((stL t 0 36:Nat):Int)) (wv':=nS) (s':=oy t) rfl h5.win;have c6:=yD (t:=t) ((a6.U a' zd (λh=>h)).U b8 zd zo) h6.groups h6.left h6.right;have q1:(w5.setCell ⟨rb,17+0,none⟩ (nI ((stL t 0 36:Nat):Int))).cell? (adr gv 1 36)=some (nI ((grT t 36:Nat):Int)):=by have:=c6.groups.cell (i:=36) (j:=0) zo rfl;rw[ax,c']at this;exact this
 refine zh ?_;apply af ⟨c6.c4,q1,c6.cl⟩
 apply Md zk;refine zh ?_
 refine ah rfl rfl ⟨O3,rb,rfl,h6,(((d0.mono (λ_ h=>zo) hz).J (b0.mono (λ_ h=>h.elim) hz)).J (b9.mono (λ_ h=>zo) hz)).J ((a'.mono (λ_ h=>h.elim) hz).J (b8.mono (λ_ h=>zo) hz)),(d9.U a').U b8⟩
end Go.Proofs.YteolbhblkgjbhaaGreatDoor
end
section
namespace Go.VL
open Go.Proofs
section
variable{P:P7}{N:Nat}{ops:Array Qe}{Q:Exit→Act→ln→Prop}{rest:List Qe}{st:St}{w:ln}
variable{t:LZ}{p:String}{e:Array Edge}{d:Nat}{x:Pw}
def pL{a0:Nat}(he:Qw P T E sz a0)(u:α)(r:NN B O w)(i:Nat)(a6:i≠0){xv:ix}(hx:ev st x=some xv)(a2:xv.cells.toList=enc u)(a3:(enc u).length=sz)(hs:sz<=16777216)(hd:PA d N=true) 
  (h:∀v w' O',Nv enc E sz O' w' i v [u]->M1 (λk=>k=i) O w O' w'->NN B O' w'->WL P N ops Q rest ((d,v)::st) w'):WL P N ops Q (⟨some d,.buildSlice T 1 #[(0,x)],t,p,e,none⟩::rest) st w:=by
 obtain⟨a4,z,hi,hz,a1,a9,a8⟩:=he.parts;have a7:xv.cells.size=sz:=by rw[<-a3,<-a2];simp
 have a5:=he.pos;have u1:=Qy (S:=λk=>k=i) (λe=>a6 e.symm) r (.cells xv.cells E) i;refine Q4 (v:=.slice (some ⟨w.heap.size,0,none⟩) 1 1) (w':=w.alloc (.cells xv.cells E)) hd (λa ha=>?_) (h _ _ (mq O w.heap.size i) ⟨⟨?_,λg hg=>?_⟩,λc hc=>by rw[L0.1 hc];exact a3⟩ u1 (r.U u1))
 ·have:=run_buildSlice (P:=P) w T E 1 #[(0,xv)] xv.cells a4 z he.ht hi hz (by rw[a1];omega) (by rw[a1];omega) (by
   rw[a1]
   exact lF a7 (by simp))
  simp only[execOp,PB,P1,Q9,ha.ev hx,Ng,this,MZ];rfl
 ·have:=World.ownsRow_lit (base:=0) (size:=sz) (e:=E) w xv.cells 1 (L9 _) (by simp[maxLen]) zo;simpa[a2]using this
 simp[PL]at hg;subst hg;exact eM _ _ _
end
end Go.VL
namespace Go.Proofs.YteolbhblkgjbhaaGreatDoor
open Go.VL Go.Proofs
set_option maxRecDepth 10000
def ct(t:TabM)(s:RunS)(ids:List Int):RunS:=ids.foldl (λs id=>sq t s (aY id)) s
def uG{t:TabM}{s:RunS}{ids:List Int}(h:k<ids.length):ct t s (ids.take (k+1))=sq t (ct t s (ids.take k)) (aY (nth ids k)):=by
 unfold ct;rw[bd h,MH];rfl
def Cs(t:TabM)(s:RunS)(c:Nat):(sq t s c).wait.length<=s.wait.length+1/\(sq t s c).closed=s.closed:=by
 unfold sq
 split<;>simp
def tk(t:TabM)(ids:List Int):List Bool:=true::closeL t (ct t (oy t) ids).wait (ct t (oy t) ids).row++if 0<ids.length then [true]else []
def PartV.free0{w:ln}{cs:List ix}{p:Pb}{tl:List Nat}(h:PartV w cs p tl):FreeL (λ_=>0) w cs:=λv hv=>by
 obtain⟨uv,bv,kv,nv,tv,rfl,h1,h2,h3,h4,h5⟩:=h;simp only[LX,Ma,or_false]at hv
 rcases hv with rfl|rfl|rfl|rfl|rfl|rfl
 ·exact λa n c e=>by cases e
 ·exact h1.free0 (λx=>by simp)
 ·exact h2.free0 (λx=>by simp)
 ·exact h3.free0 (λx=>by simp)
 ·exact h4.free0 (λx=>by simp)
 exact h5.free0 (λx=>by simp)
def DD(h:lP w):Le<w.heap.size:=by
 have:=h 0 zd;refine QK λhn=>?_
 simp[World.cell?,Array.getElem?_eq_none (show w.heap.size<=1 from Nat.le_of_not_lt hn)]at this
def BU{t:TabM}(a2:N6 w gv t.groups)(a1:PartV w lc t.left t.lt)(a0:PartV w rc t.right t.rt):FreeL (λ_=>0) w (gv::(lc++rc)):=λv hv=>by
 rcases LX.1 hv with rfl|hv
 ·exact a2.free0 (λx=>by simp)
 rcases Mg.1 hv with hv|hv
 ·exact a1.free0 v hv
 exact a0.free0 v hv
def jQ(w:ln)(t:TabM)(gv:ix)(lc rc:List ix)(d2:N6 w gv t.groups)(b4:PartV w lc t.left t.lt)(a':PartV w rc t.right t.rt)(ho:OkT t)(d5:gD t=true)(hT:lP w)(ids:List Int)(dv:ix)(hd:N6 w dv ids)(hn:ids.length<=100000):
  MW M5 11 [.agg (fp t.ig t.kp t.br t.rules gv lc rc).toArray,dv] w λv w'=>Sl dD 1 w' v (tk t ids)/\MP w w':=by
 have hz:¬(0=1\/0=2\/0=3\/0=4\/0=1000):=zo;obtain⟨ll,lo⟩:=b4.one;obtain⟨rl,ro⟩:=a'.one;have b3:(fp t.ig t.kp t.br t.rules gv lc rc).length=17:=by simp[ll,rl]
 have hg:=DD hT;have b5:=hd.free0 (λx=>by simp);apply L1 func11 ntmps11 rfl rfl;refine zh ?_;apply aQ (aA w) 1000 zo rfl rfl;intro db w1 O1 b6 d4 e5 c6;refine zh ?_;apply zv (ai (us:=fp t.ig t.kp t.br t.rules gv lc rc) b6.V (NC _) (by rw[b3];exact Mw _) rfl);apply zc call31 (xz w.heap.size O1 w1 1 2 t gv lc rc (d2.ext c6) (b4.ext c6) (a'.ext c6) ((BU d2 b4 a').U d4) zd zd zd zd ho d5 e5);rintro _ w2 ⟨O2,rb,rfl,h2,e1,e4⟩;have b9:M1 (λq=>q=1\/q=2\/q=3\/q=4\/q=1000) (λ_=>0) w O2 w2:=(d4.mono (λ_ h=>zo) hz).J (e1.mono (λ_ h=>zo) hz);refine zh ?_;refine zvH (eE (q:=some ⟨rb,0,none⟩) QA rfl rfl) ?_;refine zFH rfl rfl ?_;apply pL xe (enc:=dD) true e4 3 zd rfl rfl rfl zd rfl;intro c9 w3 O3 b2 d3 e3;have h3:=h2.U d3 zd zd zd zd;have a7:=b9.J (d3.mono (λ_ h=>zo) hz);have e':=hd.U b5 a7;refine zh ?_
 apply zlp (λz:Nat×(Nat->Nat)×World×ix=>[(1,dv),(5,nP rb),(6,c9),(14,dv),(15,nI ids.length),(16,nI z.1)]) (λz=>z.2.2.1) (λz=>z.1<=ids.length/\RunO z.2.1 z.2.2.1 1 2 rb t gv lc rc z.2.2.2 (ct t (oy t) (ids.take z.1))/\OkS t (ct t (oy t) (ids.take z.1))/\(ct t (oy t) (ids.take z.1)).closed=false/\(ct t (oy t) (ids.take z.1)).wait.length<=z.1/\Nv dD 4 1 z.2.1 z.2.2.1 3 c9 [true]/\M1 (λq=>q=1\/q=2\/q=3\/q=4\/q=1000) (λ_=>0) w z.2.1 z.2.2.1/\NN w.heap.size z.2.1 z.2.2.1) (λz=>ids.length-z.1) (0,O3,w3,nS) ⟨L9 _,h3,IA ho,rfl,L9 _,b2,a7,e3⟩;rintro⟨k,O4,w4,c8⟩ ⟨hk,h4,a2,a8,d0,a0,a6,c5⟩;dsimp only at hk h4 a2 a8 d0 a0 a6 c5 ⊢;have d8:=hd.U b5 a6;refine zh ?_
 refine zC ?_ ?_
 ·intro a4;replace a4:k<ids.length:=dT a4;have d1:w4.cell? (adr dv 1 k)=some (nI (nth ids k)):=by have:=d8.cell (i:=k) (j:=0) a4 rfl;rwa[ax]at this
  refine zh ?_;apply zc call32 (xG w.heap.size O4 w4 1 2 rb t gv lc rc c8 _ h4 zd zd zd zd zd ho a2 zo c5 (nth ids k))
  rintro _ w5 ⟨O5,c7,h5,a5,b'⟩;obtain⟨p1,p2⟩:=Cs t (ct t (oy t) (ids.take k)) (aY (nth ids k));have a9:=IE (c:=aY (nth ids k)) ho a2 (iQ _) zo;rw[<-uG a4]at h5 p1 p2 a9;refine zh ?_;refine zxd (k+1,O5,w5,c7) ⟨a4,h5,a9,by dsimp only;rw[p2];exact a8,by dsimp only;omega,a0.U a5 zd zd,a6.J (a5.mono (λ_ h=>zo) hz),b'⟩
 intro d7;obtain rfl:k=ids.length:=dF d7;rw[Mj]at h4 a2 a8 d0;have d9:tk t ids=true::closeL t (ct t (oy t) ids).wait (ct t (oy t) ids).row++if 0<ids.length then [true]else []:=rfl
 rw[d9];refine zh ?_;apply zc call33 (th w.heap.size O4 w4 1 2 4 rb t gv lc rc c8 _ h4 zd zd zd zd zd zd zd zd zd ho a2 a8 c5 (mQ hT hg (aA w) a6) hg);rintro cv w5 ⟨O5,c7,s5,h5,a9,_,_,b7,a5,b'⟩;have d6:=mL t (ct t (oy t) ids).wait (ct t (oy t) ids).row;have b1:=a0.U a5 zd zd;have b8:=a6.J (a5.mono (λ_ h=>zo) hz);generalize closeL t (ct t (oy t) ids).wait (ct t (oy t) ids).row=L at *;apply aL xe b1 b' b7.sl rfl rfl (λ_ _=>rfl) (λu _ c hc=>by rw[L0.1 hc];rfl) (by show(1+L.length)*1<=_;omega) (by show 1+L.length<=_;omega) zd rfl;intro e7 w6 O6 a3 e0 e2;have a1:=b8.J (e0.mono (λ_ h=>zo) hz);have e9:=hd.U b5 a1;refine zh ?_
 by_cases c':0<ids.length
 ·rw[ap c'];have e8:([true]++L).length=1+L.length:=by rw[ME];rfl
  refine zTH rfl ((decide_eq_true zo)) ?_;apply Qj xe a3 e2 true (λ_=>rfl) rfl rfl rfl (by simp[Ml]) zo zo zo zd rfl rfl
  intro e6 w7 O7 b0 d' f3;refine zh ?_;refine ah rfl rfl ⟨b0.sl,(a1.J (d'.mono (λ_ h=>zo) hz)).ext⟩
 rw[am c'];refine zFH rfl ((decide_eq_false zo)) ?_;refine ah rfl rfl ⟨by rw[M8];exact a3.sl,a1.ext⟩
end Go.Proofs.YteolbhblkgjbhaaGreatDoor
end
namespace Go.Proofs.YteolbhblkgjbhaaGreatDoor
def tm(ts:List R3):∀i,iU ts i<2^i
 |0=>by unfold iU;decide
 |i+1=>by
  have h1:=NA (tm ts i) (Nw zd (Po i));unfold iU
  split
  ·exact Mr h1 (Mu zd (Nat.lt_succ_self i))
  exact h1
def Fj{g:Gr}(he:∀k,g.en k<=n)(s:List Int):dN g s<2^n:=by
 have a0:∀(s:List Int) (b:Nat),b<2^n->s.foldl (λb p=>b ||| jX g p.toNat) b<2^n:=λs=>by
  induction s with
  |nil=>exact λb hb=>hb
  |cons p s ih=>exact λb hb=>ih _ (Mr hb (kL he _ 0 (PQ n)))
 exact a0 s 0 (PQ n)
def uc{ts:List Nd}{d:List (List Nat)×List Nat}(h:stM se ts=some d):∀q∈d.2,q<2^ts.length:=λq hq=>by
 unfold stM at h
 split at h
 ·obtain⟨S,hS⟩:=ph h;obtain⟨j,hj,rfl⟩:=cu hq;rw[hS.tel j (by rw[<-hS.tl];exact hj)];exact Fj (CA ts) _
 cases h
def oN(hr:Mo rows a0)(cl:Nat->Nat)(h:∀q∈a0,q<2^n):∀q∈(bm cl rows a0).2,q<2^n:=λq hq=>by
 obtain⟨F,hF⟩:=gK (cl:=cl) (tl:=nth a0) hr.nx (rows.length+1) 0 [0] [] [] (od hr.pos) zo;obtain⟨j,hj,rfl⟩:=cu hq;have a1:j<F.length:=by have:=hF.tln;change j<(gi _ _ _ _ _ _ _ _).2.length at hj;omega
 have ht:nth (bm cl rows a0).2 j=nth a0 (nth F j):=hF.tel j a1;rw[ht];have:=hF.reps.lt _ (aZ a1);exact h _ (aZ (by rw[hr.tl];exact this))
def Ih{a:Nat}(ha:a<65536)(hb:b<65536)(h1:M0 (a / 256)=M0 (b / 256))(h2:M0 (a % 256)=M0 (b % 256)):a=b:=by
 have e1:=congrArg Q6 h1;have e2:=congrArg Q6 h2;simp only[UInt8.toNat_ofNat']at e1 e2;omega
def yu{i j:Nat}:∀(rows:List (List Nat)),(∀r∈rows,nth r i<65536/\nth r j<65536)->rn rows i=rn rows j->∀r∈rows,nth r i=nth r j
 |[],_,_=>λr hr=>by cases hr
 |a::l,h,he=>by
  have e:[M0 (nth a i / 256),M0 (nth a i % 256)]++rn l i=[M0 (nth a j / 256),M0 (nth a j % 256)]++rn l j:=he;simp only[PE,PO,QJ]at e;obtain⟨e1,e2,e3⟩:=e;have ha:=h a (by simp);intro r hr
  rcases LX.1 hr with rfl|hr
  ·exact Ih ha.1 ha.2 e1 e2
  exact yu l (λr hr=>h r (by simp[hr])) e3 r hr
def Gv{A B:List (List Nat)}(hA:∀r∈A,nth r i<65536/\nth r j<65536)(hB:∀r∈B,nth r i<65536/\nth r j<65536)(h:pr [A,B] i=pr [A,B] j):(∀r∈A,nth r i=nth r j)/\∀r∈B,nth r i=nth r j:=by
 have h:rn A i++(rn B i++[])=rn A j++(rn B j++[]):=h;rw[M8,M8]at h;obtain⟨h1,h2⟩:=List.append_inj h (by rw[lO,lO]);exact⟨yu A hA h1,yu B hB h2⟩
structure PartI(g:List Nat)(many n:Nat)(rows:List (List Nat))(p:Pb):Prop where
 right:dG p=true
 us:p.usual.length=rows.length
 wd:p.width=(many:Int)
 get:∀r,r<rows.length->∀c,c<37->getM p r (nth g c)=((nxD rows r c:Nat):Int)
 lo:∀r,r<rows.length->∀k,k<many->0<=getM p r k/\getM p r k<rows.length
def zm(hg:GrpI g many){a6:List Nat}(hr:Mo rows a6)(hc:∀i j,i<37->j<37->nth g i=nth g j->∀r∈rows,nth r i=nth r j):PartI g many rows.length rows (ec g many rows):=by
 have a8:=hg.le;have a7:(kZ g many rows).length=rows.length:=by simp[kZ]
 have a5:∀r,r<rows.length->nth (kZ g many rows) r=ints (pZ g many (nth rows r)):=λr a0=>by
  unfold kZ;rw[ed (by simpa using a0),ed a0]
 have a3:∀r,r<rows.length->(nth (kZ g many rows) r).length=many:=λr a0=>by rw[a5 r a0];simp[nQ]
 obtain⟨s1,_,_,_,s5,_⟩:=qE (many:Int) (kZ g many rows) (λr a0=>by
  obtain⟨j,hj,rfl⟩:=cu a0
  rw[a3 j zo];omega)
 have a1:∀r,r<rows.length->∀k,k<many->getM (ec g many rows) r k=((nth (pZ g many (nth rows r)) k:Nat):Int):=λr a0 k hk=>by
  unfold ec;rw[Db _ _ r k zo (by rw[a3 r a0];exact hk),a5 r a0,ed (by rw[nQ];exact hk)]
 refine⟨xD _ _ (qA hg hr),by show(mn _ _).usual.length=_;rw[s1];simpa using a7,s5,λr a0 c a4=>?_,λr a0 k hk=>?_⟩
 ·rw[a1 r a0 _ (hg.lt c a4),xQ hg (λi j hi hj e=>hc i j hi hj e _ (aZ a0)) a4];rfl
 rw[a1 r a0 k hk];obtain⟨i,hi,rfl⟩:=hg.hit k hk;rw[xQ hg (λi j hi hj e=>hc i j hi hj e _ (aZ a0)) hi];have:=(hr.row r a0).2 i hi;omega
def IV{l:List Int}{n:Int}(h:∀x∈l,x<n)(h0:nth l 0<n):IW l<n:=by
 have a0:∀(l:List Int) (m:Int),(∀x∈l,x<n)->m<n->l.foldl max m<n:=λl=>by
  induction l with
  |nil=>exact λm _ hm=>hm
  |cons a l ih=>exact λm h hm=>ih _ (λx hx=>h x (by simp[hx])) (by have:=h a (by simp);omega)
 exact a0 l _ h h0
def zQ{rules:Nat}{a4:List Nat}{p:Pb}(hp:PartI g many n rows p)(hm:1<=many)(hr:Mo rows a4)(ht:∀q∈a4,q<2^rules):lE p a4 many rules=true:=by
 obtain⟨f1,f2⟩:=qZ p;have a8:=hr.pos;have a7:=hr.tl;have a6:=hp.us;unfold lE;rw[hp.right,hp.wd,f1,a6,a7];have a1:jy (λi=>!(nth a4 i / 2^rules==0)) rows.length=false:=bM.2 λi hi=>by
  rw[Nc (ht _ (aZ zo))];rfl
 have a2:jy (λi=>decide (((rows.length:Nat):Int)<=IW (nth (gC p) i))) rows.length=false:=bM.2 λi hi=>by
  have a0:nth (gC p) i=D7 p i:=by unfold gC;rw[gG _ _ _ zo]
  have a5:p.width.toNat=many:=by rw[hp.wd];rfl
  have a3:∀k,k<many->nth (D7 p i) k<rows.length:=λk hk=>by
   unfold D7;rw[a5,aD (xs:=List.map (getM p i) (Nf many)) (by simpa using hk),List.getElem_map,List.getElem_range];exact(hp.lo i hi k hk).2
  refine decide_eq_false (Int.not_le.2 (IV (λx hx=>?_) ?_))
  ·rw[a0]at hx;obtain⟨k,hk,rfl⟩:=cu hx;exact a3 k (by unfold D7 at hk;rw[a5]at hk;simpa using hk)
  rw[a0];exact a3 0 hm
 have h0:(rows.length==0)=false:=beq_eq_false_iff_ne.2 zo;rw[a1,a2,h0];simp
structure TabI(t:TabM)(A B:List (List Nat)×List Nat):Prop where
 right:gD t=true
 ok:OkT t
 left:∀r c,r<A.1.length->c<37->stL t r c=nxD A.1 r c
 rght:∀r c,r<B.1.length->c<37->stR t r c=nxD B.1 r c
 ll:t.left.usual.length=A.1.length
 rl:t.right.usual.length=B.1.length
def Ij{ts:List R3}{B:List (List Nat)×List Nat}(a8:eZ li lk ts=true)(hA:Mo A.1 A.2)(hB:Mo B.1 B.2)(tA:∀q∈A.2,q<2^ts.length)(tB:∀q∈B.2,q<2^ts.length):TabI (og li lk ts A B) A B:=by
 obtain⟨r1,r2,r3,r4⟩:=eI a8;obtain⟨many,hg,a5⟩:=qW [A.1,B.1];have a2:=hg.pos;have b0:=hg.le;have a4:=hg.len;have a3:∀ {rows:List (List Nat)} {a7:List Nat},Mo rows a7->∀i,i<37->∀r∈rows,nth r i<65536:=fun {rows a7} h i hi r hr=>by
  obtain⟨j,hj,rfl⟩:=cu hr;have h1:=(h.row j hj).2 i hi;have h2:=h.le;omega
 have hc:=λi j hi hj e=>
  Gv (λr hr=>⟨a3 hA i hi r hr,a3 hA j hj r hr⟩) (λr hr=>⟨a3 hB i hi r hr,a3 hB j hj r hr⟩) ((a5 i j hi hj).1 e)
 have a1:=hg.cnt;have iL:=zm hg hA (λi j hi hj e=>(hc i j hi hj e).1);have iR:=zm hg hB (λi j hi hj e=>(hc i j hi hj e).2);have fL:=zQ iL a2 hA tA;have fR:=zQ iR a2 hB tB;have e1:(og li lk ts A B).left=ec (bY [A.1,B.1]) many A.1:=by rw[tX,a1]
 have e2:(og li lk ts A B).right=ec (bY [A.1,B.1]) many B.1:=by rw[qu,a1]
 have e3:(og li lk ts A B).groups=ints (bY [A.1,B.1]):=rfl;have gr:∀c,c<37->nth (og li lk ts A B).groups c=((nth (bY [A.1,B.1]) c:Nat):Int):=λc hc=>by rw[e3,ed zo]
 have gt:∀c,c<37->grT (og li lk ts A B) c=nth (bY [A.1,B.1]) c:=λc hc=>by unfold grT;rw[gr c hc];rfl
 have a6:∀q:Nat,q<2^ts.length->q<2^40:=λq hq=>NA hq (Nw zd r1)
 have a':=hA.tl;have a9:=hB.tl;have pA:=hA.pos;have pB:=hB.pos;refine⟨?_,⟨okP _ (by rw[e1];exact iL.right),okP _ (by rw[e2];exact iR.right),by rw[e3];simpa using a4,λc a0=>?_,by rw[e1,iL.us];exact a',by rw[e2,iR.us];exact a9,by rw[e1,iL.us];exact pA,by rw[e2,iR.us];exact pB,λr c hr a0=>?_,λr c hr a0=>?_,ot r2,ot r3,a6 _ (tm ts _),λq hq=>a6 q (tA q hq),λq hq=>a6 q (tB q hq)⟩,λr c hr a0=>?_,λr c hr a0=>?_,by rw[e1,iL.us],by rw[e2,iR.us]⟩
 ·unfold gD;have q1:(og li lk ts A B).ig / 2^36=0:=Nc (ot r2);have q2:(og li lk ts A B).kp / 2^36=0:=Nc (ot r3);have q3:(og li lk ts A B).rules.toNat=ts.length:=rfl;have q4:(og li lk ts A B).br / 2^ts.length=0:=Nc (tm ts _);have q5:iJ (og li lk ts A B).groups=many:=by rw[e3,a1]
  have q6:(og li lk ts A B).rules=(ts.length:Int):=rfl;rw[q1,q2,q3,q4,q5,q6,e1,e2,BW,BV,fL,fR,decide_eq_false zo,decide_eq_false zo,beq_eq_false_iff_ne.2 zo];rfl
 ·rw[gr c a0];have:=hg.lt c a0;omega
 ·rw[e1]at hr ⊢;rw[iL.us]at hr ⊢;rw[gt c a0,iL.get r hr c a0];have:=(hA.row r hr).2 c a0;unfold nxD;omega
 ·rw[e2]at hr ⊢;rw[iR.us]at hr ⊢;rw[gt c a0,iR.get r hr c a0];have:=(hB.row r hr).2 c a0;unfold nxD;omega
 ·unfold stL;rw[e1,gt c a0,iL.get r hr c a0];rfl
 unfold stR;rw[e2,gt c a0,iR.get r hr c a0];rfl
def FB(rows:List (List Nat))(u v:List Nat)(q:Nat):jZ rows (u++v) q=jZ rows v (jZ rows u q):=MH
def CR{cl:Nat->Nat}(hr:Mo rows a0)(a4:Cls cl (rows,a0)):∃F,LI cl (nxD rows) (nth a0) rows.length F.length F (bm cl rows a0).1 (bm cl rows a0).2/\
  ∀(w:List Nat),(∀m∈w,m<37)->∀p q,p<F.length->q<rows.length->cl (nth F p)=cl q->jZ (bm cl rows a0).1 w p<F.length/\jZ rows w q<rows.length/\cl (nth F (jZ (bm cl rows a0).1 w p))=cl (jZ rows w q):=by
 obtain⟨F,hF⟩:=gK (cl:=cl) (tl:=nth a0) hr.nx (rows.length+1) 0 [0] [] [] (od hr.pos) zo;refine⟨F,hF,λw=>?_⟩;have a6:LI cl (nxD rows) (nth a0) rows.length F.length F (bm cl rows a0).1 (bm cl rows a0).2:=hF;generalize bm cl rows a0=L at *
 induction w with
 |nil=>exact λ_ p q hp hq he=>⟨hp,hq,he⟩
 |cons m w ih=>
  intro hw p q hp hq he;have hm:=hw m (by simp);obtain⟨a1,a2⟩:=(a6.row p hp).2 m hm;have a5:=a6.reps.lt _ (aZ hp);have a3:=hr.nx q m hq hm;exact ih (λx hx=>hw x (by simp[hx])) _ _ a1 a3 (a2.J ((a4 _ _ (hr.nx _ m a5 hm) a3).2 (((a4 _ _ a5 hq).1 he).step hm)))
def tR{ts:List Nd}{cl:Nat->Nat}(h:stM se ts=some a)(hs:cz ts=true)(hr:Mo a.1 a.2)(a1:Cls cl a)(w:List Nat)(hw:∀m∈w,m<37):
  jZ (bm cl a.1 a.2).1 w 0<(bm cl a.1 a.2).1.length/\∀i,(nth (bm cl a.1 a.2).2 (jZ (bm cl a.1 a.2).1 w 0)).testBit i=true↔i<ts.length/\∃u v,ints w=u++v/\(se=true\/u=[])/\Lg (nth ts i) v:=by
 obtain⟨F,hF,a0⟩:=CR (cl:=cl) hr a1;obtain⟨c1,c2,c3⟩:=a0 w hw 0 0 hF.p0 hr.pos (by rw[hF.fst]);refine⟨by rw[hF.rl];exact c1,λi=>?_⟩;have hd:Gt (dj se (kJ ts)) (dN (kJ ts))=some a:=by
  unfold stM at h
  split at h
  ·exact h
  cases h
 obtain⟨S,hS⟩:=ph hd;obtain⟨s1,s2⟩:=ze hS w hw 0 hS.p0;have a2:nth (bm cl a.1 a.2).2 (jZ (bm cl a.1 a.2).1 w 0)=nth a.2 (jZ a.1 w 0):=by
  rw[hF.tel _ c1];exact ((a1 _ _ (hF.reps.lt _ (aZ c1)) c2).1 c3) [] (λm hm=>by cases hm)
 have a4:w.foldl (λs (m:Nat)=>dj se (kJ ts) s (m:Int)) (nth S 0)=D6 (dj se (kJ ts)) (ints w):=by
  unfold D6;rw[hS.fst,List.foldl_map]
 rw[a2,hS.tel _ s1,s2,a4];exact Ap hs (oi se (kJ ts)) (ints w) i
def zB:∀(l:List Nd) (s:Bool) (a0:Int),0<=a0->0<=cW s a0 l->a0<=cW s a0 l
 |[],_,a0,_,_=>by unfold cW;exact N9 _
 |t::r,s,a0,h0,h=>by
  unfold cW at h ⊢
  split at h
  ·omega
  rename_i hn;rw[am hn];have a1:a0<=if s=true then a0+cD t else max a0 (cD t):=by split<;>omega
  exact Int.le_trans a1 (zB r s _ zo h)
mutual
def xZ:∀(t:Nd) (w:List Int),Lg t w->0<=cD t->(w.length:Int)<=cD t
 |.mk k c l,w,h,h0=>by
  unfold cD at h0 ⊢
  unfold Lg at h
  by_cases h67:k=6\/k=7
  ·rw[ap h67]at h0;omega
  rw[am h67]at h0 ⊢
  by_cases h9:k=9
  ·subst h9
   simp at h
   rw[ap rfl,h];exact N9 _
  rw[am h9]at h0 ⊢
  by_cases h4:k=4
  ·subst h4
   simp at h
   rw[ap (.inl rfl)]at h0 ⊢
   have:=zE l w 0 h (N9 _) h0
   simpa using this
  by_cases h5:k=5
  ·subst h5
   simp at h
   rw[ap (.inr (.inl rfl))]at h0 ⊢
   exact sL l w 0 h (N9 _) h0
  by_cases h8:k=8
  ·subst h8
   simp at h
   rw[ap (.inr (.inr rfl))]at h0 ⊢
   rcases h with rfl|h
   ·exact h0
   exact sL l w 0 (by
    cases l with
    |nil=>exact h.elim
    |cons t r=>exact .inl h) (N9 _) h0
  have h6:=λe=>h67 (.inl e)
  have h7:=λe=>h67 (.inr e)
  rw[am h4,am h5,am h6,am h7,am h8,am h9]at h
  obtain⟨m,rfl,_⟩:=h
  rw[am zo]
  exact N9 _
def zE:∀(l:List Nd) (w:List Int) (acc:Int),LgS l w->0<=acc->0<=cW true acc l->acc+w.length<=cW true acc l
 |[],w,acc,h,_,_=>by
  unfold LgS at h
  subst h
  unfold cW
  simp
 |t::r,w,acc,h,ha,h0=>by
  unfold LgS at h
  unfold cW at h0 ⊢
  obtain⟨u,v,rfl,hu,hv⟩:=h
  split at h0
  ·omega
  rename_i hn
  rw[am hn]
  rw[ap rfl]at h0 ⊢
  have h1:=xZ t u hu zo
  have h2:=zE r v _ hv zo h0
  rw[ME]
  omega
def sL:∀(l:List Nd) (w:List Int) (acc:Int),LgA l w->0<=acc->0<=cW false acc l->(w.length:Int)<=cW false acc l
 |[],w,acc,h,_,_=>by unfold LgA at h;exact h.elim
 |t::r,w,acc,h,ha,h0=>by
  unfold LgA at h
  unfold cW at h0 ⊢
  split at h0
  ·omega
  rename_i hn
  rw[am hn]
  rw[am zd]at h0 ⊢
  rcases h with h|h
  ·have h1:=xZ t w h zo
   have h2:=zB r false (max acc (cD t)) zo h0
   omega
  exact sL r w _ h zo h0
end
def F8{t:Nd}(h:du t=0){w:List Int}(hw:Lg t w):w.length<=4:=by
 unfold du at h
 split at h
 ·omega
 split at h
 ·omega
 rename_i hn;simp only[Ni,not_or,NI,decide_eq_true_eq]at hn;obtain⟨h1,h2⟩:=hn;have hb:uX t=true:=by simpa using h1
 have a0:=hb;unfold uX at a0;rw[L8]at a0;have h4:=xZ t w hw (of_decide_eq_true a0.2);unfold uW at h2;rw[ap a0.1]at h2;omega
def fX:List En->List Nat
 |[]=>[]
 |(c,h)::r=>if h=true then fX r else c::fX r
def Ig{l:List En}(h:∀x∈l,x.1<n):∀m∈fX l,m<n:=by
 induction l with
 |nil=>exact λm hm=>by cases hm
 |cons x r ih=>
  obtain⟨c,hd⟩:=x;intro m hm;unfold fX at hm
  split at hm
  ·exact ih (λy hy=>h y (by simp[hy])) m hm
  rcases LX.1 hm with rfl|hm
  ·exact h (m,hd) (by simp)
  exact ih (λy hy=>h y (by simp[hy])) m hm
def xy{t:TabM}{A B:List (List Nat)×List Nat}(hI:TabI t A B)(hB:Mo B.1 B.2)(i:Nat):∀(l:List En) (row a0 a1:Nat),(∀x∈l,x.1<36)->row<B.1.length->a0<=4->
  ((rwL t l row a0 a1).testBit i=true↔a1.testBit i=true\/∃k,0<k/\k<=(fX l).length/\a0+k<=4/\(nth t.rt (jZ B.1 ((fX l).take k) row)).testBit i=true)
 |[],row,a0,a1,_,_,_=>by
  unfold rwL fX
  constructor
  ·exact .inl
  rintro(h|⟨k,h1,h2,_⟩)
  ·exact h
  simp at h2;omega
 |(c,hd)::r,row,a0,a1,hc,hrow,hseen=>by
  have a2:∀x∈r,x.1<36:=λx hx=>hc x (by simp[hx])
  have a4:=hc (c,hd) (by simp);unfold rwL fX
  by_cases hh:hd=true
  ·rw[ap hh,ap hh];exact xy hI hB i r row a0 a1 a2 hrow hseen
  rw[am hh,am hh]
  by_cases h4:a0=4
  ·rw[ap h4]
   constructor
   ·exact .inl
   rintro(h|⟨k,h1,_,h3,_⟩)
   ·exact h
   omega
  rw[am h4,hI.rght row c hrow zo,xy hI hB i r _ _ _ a2 (hB.nx row c hrow zo) zo,PZ,Ni]
  constructor
  ·rintro((h|h)|⟨k,h1,h2,h3,h5⟩)
   ·exact .inl h
   ·exact .inr ⟨1,zd,by simp,zo,h⟩
   exact .inr ⟨k+1,zo,by simpa using h2,zo,h5⟩
  rintro(h|⟨k,h1,h2,h3,h5⟩)
  ·exact .inl (.inl h)
  cases k with
  |zero=>omega
  |succ k=>
   cases k with
   |zero=>exact .inl (.inr h5)
   |succ k=>exact .inr ⟨k+1,zo,by simpa using h2,zo,h5⟩
def AC{t:TabM}{B:List (List Nat)×List Nat}(hI:TabI t A B)(hB:Mo B.1 B.2)(i:Nat)(l:List En)(hl:∀x∈l,x.1<36):
  (eO t l).testBit i=true↔∃k,k<=(fX l).length/\k<=4/\(nth t.rt (jZ B.1 ((fX l).take k) 0)).testBit i=true:=by
 unfold eO;rw[xy hI hB i l 0 0 _ hl hB.pos zd]
 constructor
 ·rintro(h|⟨k,_,h2,h3,h4⟩)
  ·exact⟨0,L9 _,L9 _,h⟩
  exact⟨k,h2,zo,h4⟩
 rintro⟨k,h2,h3,h4⟩
 cases k with
 |zero=>exact .inl h4
 |succ k=>exact .inr ⟨k+1,zo,h2,zo,h4⟩
def Gu{x:Nat}(h0:x≠0)(h:x<2^64):x.testBit (Nh 64 x)=true/\∀j,j<Nh 64 x->x.testBit j=false:=by
 obtain⟨m,e,_⟩:=Lib.ctzFrom_spec 64 x zo h;have hc:Nh 64 x=Qo 64 x:=by unfold Nh;rw[am h0]
 rw[hc];generalize Qo 64 x=c at *;subst e;refine⟨?_,λj hj=>?_⟩
 ·rw[P8,Pc,decide_eq_true (Mb c),P2,Nat.testBit_zero];exact decide_eq_true zo
 rw[P8,decide_eq_false zo,PW]
def kI(ts:List R3)(a0 after:List Nat)(i:Nat):Prop:=i<ts.length/\(∃u v,ints a0=u++v/\Lg (nth (nz ts) i) v)/\∃u v,ints after=u++v/\Lg (nth (fz ts) i) u
def FirstR(ts:List R3)(a0 after:List Nat)(k:Int):Prop:=(k = -1/\∀i,¬kI ts a0 after i)\/∃i:Nat,k=i/\kI ts a0 after i/\∀j,j<i->¬kI ts a0 after j
def FirstR.uniq{ts:List R3}{b a:List Nat}{k k':Int}(h:FirstR ts b a k)(h':FirstR ts b a k'):k=k':=by
 rcases h with⟨rfl,h⟩|⟨i,rfl,h1,h2⟩<;>rcases h' with⟨rfl,h'⟩|⟨i',rfl,a0,a1⟩
 ·rfl
 ·exact absurd a0 (h i')
 ·exact absurd h1 (h' i)
 rcases Nat.lt_trichotomy i i' with h3|h3|h3
 ·exact absurd h1 (a1 i h3)
 ·rw[h3]
 exact absurd a0 (h2 i' h3)
def uk{ts:List Nd}(h:∀t∈ts,bz t=true):cz ts=true:=by
 induction ts with
 |nil=>rfl
 |cons t r ih=>
  unfold cz;rw[(gg (h t (by simp))).2.1,ih (λx hx=>h x (by simp[hx]))];rfl
structure Made(li lk:List Int)(ts:List R3)(a b:List (List Nat)×List Nat)(clA clB:Nat->Nat):Prop where
 rt:eZ li lk ts=true
 sa:stM true (nz ts)=some a
 sb:stM false (fz ts)=some b
 ra:Mo a.1 a.2
 rb:Mo b.1 b.2
 ca:Cls clA a
 cb:Cls clB b
abbrev cC(li lk:List Int)(ts:List R3)(a b:List (List Nat)×List Nat)(a1 a0:Nat->Nat):TabM:=og li lk ts (bm a1 a.1 a.2) (bm a0 b.1 b.2)
section
variable{li lk:List Int}{ts:List R3}{a b:List (List Nat)×List Nat}{clA clB:Nat→Nat}
def Made.inv(h:Made li lk ts a b clA clB):TabI (cC li lk ts a b clA clB) (bm clA a.1 a.2) (bm clB b.1 b.2):=
 Ij h.rt (fg h.ra clA) (fg h.rb clB) (oN h.ra clA (by have:=uc h.sa;rwa[M7]at this)) (oN h.rb clB (by have:=uc h.sb;rwa[M7]at this))
def Made.rules(h:Made li lk ts a b clA clB):∀t∈ts,bz t.1=true/\bz t.2.1=true/\du t.2.1=0:=λt ht=>by
 have:=(eI h.rt).2.2.2 t ht;unfold sg at this;simp only[L8,beq_iff_eq]at this;exact⟨this.1.1,this.1.2,this.2⟩
def Made.left(h:Made li lk ts a b clA clB)(w:List Nat)(hw:∀m∈w,m<37):jZ (bm clA a.1 a.2).1 w 0<(bm clA a.1 a.2).1.length/\
  ∀i,(nth (bm clA a.1 a.2).2 (jZ (bm clA a.1 a.2).1 w 0)).testBit i=true↔i<ts.length/\∃u v,ints w=u++v/\Lg (nth (nz ts) i) v:=by
 have hs:=uk λt ht=>by
  obtain⟨x,hx,rfl⟩:=Mi.1 ht;exact(h.rules x hx).1
 obtain⟨h1,h2⟩:=tR h.sa hs h.ra h.ca w hw;refine⟨h1,λi=>?_⟩;rw[h2 i,M7];exact and_congr_right λ_=>⟨fun⟨u,v,e,_,hv⟩=>⟨u,v,e,hv⟩,fun⟨u,v,e,hv⟩=>⟨u,v,e,.inl rfl,hv⟩⟩
def Made.right(h:Made li lk ts a b clA clB)(l:List En)(hl:∀x∈l,x.1<36)(i:Nat):(eO (cC li lk ts a b clA clB) l).testBit i=true↔i<ts.length/\∃u v,ints (fX l)=u++v/\Lg (nth (fz ts) i) u:=by
 have hs:=uk λt ht=>by
  obtain⟨x,hx,rfl⟩:=Mi.1 ht;exact(h.rules x hx).2.1
 rw[AC h.inv (fg h.rb clB) i l hl];have a0:∀k,(nth (cC li lk ts a b clA clB).rt (jZ (bm clB b.1 b.2).1 ((fX l).take k) 0)).testBit i=true↔i<ts.length/\Lg (nth (fz ts) i) (ints ((fX l).take k)):=λk=>by
  have:=(tR h.sb hs h.rb h.cb ((fX l).take k) (λm hm=>by have:=(Ig hl) m (Pi hm);omega)).2 i;rw[M7]at this;refine this.J (and_congr_right λ_=>⟨?_,λhL=>⟨[],_,rfl,.inr rfl,hL⟩⟩);rintro⟨u,v,e,hu,hL⟩
  rcases hu with hu|rfl
  ·cases hu
  rw[e];exact hL
 constructor
 ·rintro⟨k,h1,h2,h3⟩;obtain⟨h4,h5⟩:=(a0 k).1 h3;exact⟨h4,ints ((fX l).take k),ints ((fX l).drop k),by unfold ints;rw[<-MB,Nm],h5⟩
 rintro⟨h1,u,v,e,h2⟩;have hi:i<(fz ts).length:=by rw[M7];exact h1
 have h4:=F8 (by
  rw[ed h1]
  exact(h.rules _ (aZ h1)).2.2) h2
 have a1:u.length<=(fX l).length:=by have:=congrArg List.length e;rw[ME]at this;unfold ints at this;rw[M7]at this;omega
 refine⟨u.length,a1,h4,(a0 _).2 ⟨h1,?_⟩⟩;have:ints ((fX l).take u.length)=u:=by
  unfold ints at e ⊢;rw[List.map_take,e,List.take_left'];rfl
 rw[this];exact h2
def Made.which(h:Made li lk ts a b clA clB)(a0:List Nat)(hb:∀m∈a0,m<37)(s:RunS)(hs:OkS (cC li lk ts a b clA clB) s)(a2:s.row=jZ (bm clA a.1 a.2).1 a0 0):FirstR ts a0 (fX s.wait) (dK (cC li lk ts a b clA clB) s):=by
 have hl:=(h.left a0 hb).2;have hr:=h.right s.wait hs.wait;have hi:=h.inv;have a3:=oD hi.ok hs;unfold dK;have a4:(cC li lk ts a b clA clB).lt=(bm clA a.1 a.2).2:=rfl;rw[a4,a2];generalize eO (cC li lk ts a b clA clB) s.wait=R at *;generalize nth (bm clA a.1 a.2).2 (jZ (bm clA a.1 a.2).1 a0 0)=L at *;have a1:∀i,(L &&& R).testBit i=true↔kI ts a0 (fX s.wait) i:=λi=>by
  rw[Nat.testBit_and,L8,hl i,hr i];unfold kI;exact⟨fun⟨⟨h1,h2⟩,_,h3⟩=>⟨h1,h2,h3⟩,fun⟨h1,h2,h3⟩=>⟨⟨h1,h2⟩,h1,h3⟩⟩
 have a5:L &&& R<2^64:=NB PM (Nat.lt_trans a3 zd)
 split
 ·rename_i h0;exact .inl ⟨rfl,λi hA=>by have:=(a1 i).2 hA;rw[h0]at this;simp at this⟩
 rename_i h0;obtain⟨c1,c2⟩:=Gu h0 a5;exact .inr ⟨_,rfl,(a1 _).1 c1,λj hj hA=>by have:=(a1 j).2 hA;rw[c2 j hj]at this;cases this⟩
end
section
variable{cl cl':Nat→Nat}{n:Nat}(h:∀p q,p<n→q<n→(cl p=cl q↔cl' p=cl' q))
include h
end
def Ab(ts:List R3)(i:Nat):∀n,(iU ts n).testBit i=(decide (i<n)&&(nth ts i).2.2)
 |0=>by unfold iU;simp
 |n+1=>by
  have ih:=Ab ts i n;unfold iU
  by_cases hb:(nth ts n).2.2=true
  ·rw[ap hb,PZ,ih,Nat.testBit_two_pow]
   by_cases e:n=i
   ·subst e;rw[hb];simp
   rw[decide_eq_false e,Bool.or_false];congr 1;exact decide_eq_decide.2 zo
  rw[am hb,ih]
  by_cases e:n=i
  ·subst e;rw[show(nth ts n).2.2=false from by simpa using hb];simp
  congr 1;exact decide_eq_decide.2 zo
def brk(ts:List R3)(k:Int):Bool:=decide (k<0)||(nth ts k.toNat).2.2
def rP(l r:List En):fX (l++r)=fX l++fX r:=by
 induction l with
 |nil=>rfl
 |cons x l ih=>
  obtain⟨c,h⟩:=x
  cases h with
  |true=>exact ih
  |false=>exact congrArg (c :: ·) ih
section
variable{li lk:List Int}{ts:List R3}{a b:List (List Nat)×List Nat}{clA clB:Nat→Nat}
def Made.stepL(h:Made li lk ts a b clA clB)(x:En)(hx:x.1<36)(a0:List Nat)(hb:∀m∈a0,m<37):stepL (cC li lk ts a b clA clB) (jZ (bm clA a.1 a.2).1 a0 0) x=jZ (bm clA a.1 a.2).1 (a0++fX [x]) 0/\∀m∈a0++fX [x],m<37:=by
 obtain⟨c,hd⟩:=x;unfold Go.Proofs.YteolbhblkgjbhaaGreatDoor.stepL fX
 by_cases hh:hd=true
 ·rw[ap hh,ap hh];unfold fX;rw[M8];exact⟨rfl,hb⟩
 rw[am hh,am hh];unfold fX;refine⟨?_,λm hm=>?_⟩
 ·rw[h.inv.left _ c ((h.left a0 hb).1) (by show c<37;simp at hx;omega),FB];rfl
 rcases Mg.1 hm with hm|hm
 ·exact hb m hm
 rw[L0.1 hm];simp at hx;omega
def Made.passB(h:Made li lk ts a b clA clB)(l:List En)(x:En)(hl:∀y∈l,y.1<36)(hf:l.length<=1000000)(a0:List Nat)(hb:∀m∈a0,m<37):
  FirstR ts a0 (fX l) (dK (cC li lk ts a b clA clB) (sf (jZ (bm clA a.1 a.2).1 a0 0) l))/\
  Go.Proofs.YteolbhblkgjbhaaGreatDoor.passB (cC li lk ts a b clA clB) (sf (jZ (bm clA a.1 a.2).1 a0 0) l) x=(!x.2&&brk ts (dK (cC li lk ts a b clA clB) (sf (jZ (bm clA a.1 a.2).1 a0 0) l))):=by
 have hk:=h.which a0 hb (sf (jZ (bm clA a.1 a.2).1 a0 0) l) ⟨by show _<(cC li lk ts a b clA clB).left.usual.length;rw[h.inv.ll];exact ((h.left a0 hb).1),hl,by show 0<36;decide,hf⟩ rfl;refine⟨hk,?_⟩;unfold Go.Proofs.YteolbhblkgjbhaaGreatDoor.passB brk;generalize dK (cC li lk ts a b clA clB) (sf (jZ (bm clA a.1 a.2).1 a0 0) l)=k at *
 rcases hk with⟨rfl,_⟩|⟨i,rfl,h1,_⟩
 ·rfl
 have a3:(cC li lk ts a b clA clB).br=iU ts ts.length:=rfl;rw[a3,Ab,MJ,decide_eq_true h1.1,P2]
def Made.closeL(h:Made li lk ts a b clA clB):∀(l:List En) (a0:List Nat),(∀m∈a0,m<37)->(∀y∈l,y.1<36)->l.length<=1000000->∀i,i<l.length->
  ∃k,FirstR ts (a0++fX (l.take i)) (fX (l.drop i)) k/\nth (closeL (cC li lk ts a b clA clB) l (jZ (bm clA a.1 a.2).1 a0 0)) i=(!(nth l i).2&&brk ts k)
 |[],_,_,_,_,i,hi=>absurd hi (MD i)
 |x::r,a0,hb,hl,hf,i,hi=>by
  obtain⟨s1,s2⟩:=h.stepL x (hl x (by simp)) a0 hb;unfold Go.Proofs.YteolbhblkgjbhaaGreatDoor.closeL
  cases i with
  |zero=>
   obtain⟨p1,p2⟩:=h.passB (x::r) x hl hf a0 hb;refine⟨dK (cC li lk ts a b clA clB) (sf (jZ (bm clA a.1 a.2).1 a0 0) (x::r)),?_,?_⟩
   ·rw[List.take_zero,List.drop_zero];show FirstR ts (a0++[]) _ _;rw[M8];exact p1
   rw[ar,ar];exact p2
  |succ i=>
   rw[aX,aX,s1];obtain⟨k,k1,k2⟩:=Made.closeL h r (a0++fX [x]) s2 (λy hy=>hl y (by simp[hy])) (by simp at hf;omega) i (by simpa using hi);refine⟨k,?_,k2⟩;rw[List.take_succ_cons,List.drop_succ_cons,show x::r.take i=[x]++r.take i from rfl,rP,<-N5];exact k1
end
def qV(t:TabM):En->List Int->List En
 |_,[]=>[]
 |last,c::r=>(aY c,t.ig.testBit (aY c)&&(last.2 || !(t.kp.testBit last.1)))::qV t (aY c,t.ig.testBit (aY c)&&(last.2 || !(t.kp.testBit last.1))) r
def lh(t:TabM):∀(ids:List Int) (s:RunS),s.begun=true->(ct t s ids).wait=s.wait++qV t s.last ids/\(ct t s ids).row=s.row
 |[],s,_=>⟨by unfold qV;rw[M8];rfl,rfl⟩
 |c::r,s,hb=>by
  have e:sq t s (aY c) = {s with last:=(aY c,Fb t s (aY c)),wait:=s.wait++[(aY c,Fb t s (aY c))]}:=by unfold sq;rw[ap hb]
  obtain⟨h1,h2⟩:=lh t r (sq t s (aY c)) (by rw[e];exact hb);have e2:ct t s (c::r)=ct t (sq t s (aY c)) r:=rfl;rw[e2,h1,h2,e];refine⟨?_,rfl⟩;rw[qV,N5];rfl
def uH(t:TabM)(c:Int)(r:List Int):(ct t (oy t) (c::r)).wait=qV t (aY c,false) r/\(ct t (oy t) (c::r)).row=stL t (stL t 0 36) (aY c):=by
 have e2:ct t (oy t) (c::r)=ct t (sq t (oy t) (aY c)) r:=rfl;have e:sq t (oy t) (aY c) = {oy t with begun:=true,last:=(aY c,false),row:=stL t (stL t 0 36) (aY c)}:=rfl;obtain⟨h1,h2⟩:=lh t r (sq t (oy t) (aY c)) rfl;rw[e2,h1,h2,e];exact⟨rfl,rfl⟩
def nW(t:TabM):∀(l:List Int) (e:En),(qV t e l).length=l.length
 |[],_=>rfl
 |c::r,e=>by rw[qV,L7,nW t r,L7]
def C9(t:TabM):∀(l:List Int) (e:En),∀x∈qV t e l,x.1<36
 |[],_,x,hx=>by cases hx
 |c::r,e,x,hx=>by
  rw[qV]at hx
  rcases LX.1 hx with rfl|hx
  ·exact iQ c
  exact C9 t r _ x hx
def uD(l:List Int)(c:Int)(sv:ix)(w:ln)(h:N6 w sv l):MW M5 98 [sv,nI c] w λv w'=>v=.bool (decide (c∈l))/\w'=w:=by
 have hl:=h.len_le;apply L1 func98 ntmps98 rfl rfl;refine zh ?_;apply zlp (λz:Nat=>[(0,sv),(1,nI c),(5,nI (z:Nat))]) (λz=>w) (λz=>z<=l.length/\c∉l.take z) (λz=>l.length-z) 0 ⟨L9 _,by simp⟩;rintro k ⟨hk,a1⟩;refine zh ?_;refine zC ?_ ?_
 ·intro a0;replace a0:k<l.length:=dT a0;have d1:w.cell? (adr sv 1 k)=some (nI (nth l k)):=by have:=h.cell (i:=k) (j:=0) a0 rfl;rwa[ax]at this
  refine zh ?_;refine zC ?_ ?_
  ·intro he;replace he:nth l k=c:=by simpa using he
   refine zh ?_;refine ah rfl rfl ⟨by rw[decide_eq_true (he▸aZ a0)],rfl⟩
  intro he;replace he:¬nth l k=c:=by simpa using he
  refine zh ?_;refine zxd (k+1) ⟨a0,by rw[bd a0,Mg];rintro(h1|h1);exact a1 h1;exact he (L0.1 h1).symm⟩
 intro a2;obtain rfl:k=l.length:=dF a2;rw[Mj]at a1;refine zh ?_;refine ah rfl rfl ⟨by rw[decide_eq_false a1],rfl⟩
def iB(c:Int)(w:ln):MW M5 66 [nI c] w λv w'=>v=nI ((aY c:Nat):Int)/\w'=w:=by
 apply L1 func66 ntmps66 rfl rfl;refine zh ?_
 refine cx (λw1=>_=w1) (decide (35<c)) 2 rfl rfl rfl rfl rfl rfl ?_ ?_
 ·intro g1;refine zh ?_;refine nE 5 3 rfl g1
 rintro _ rfl;refine zh ?_;refine zC ?_ ?_
 ·intro hb;have a0:c<0\/35<c:=by simpa using hb
  have e:aY c=0:=by unfold aY;rw[ap zo]
  rw[e];refine zh ?_;refine ah rfl rfl ⟨rfl,rfl⟩
 intro hb;have a0:¬(c<0\/35<c):=by simpa using hb
 have e:((aY c:Nat):Int)=c:=by unfold aY;rw[am zo,Int.toNat_of_nonneg zo]
 rw[e];refine zh ?_;refine ah rfl rfl ⟨rfl,rfl⟩
def il(li lk ids:List Int):Nat->Bool
 |0=>false
 |i+1=>decide (((aY (nth ids (i+1)):Nat):Int)∈li)&&(il li lk ids i || !(decide (((aY (nth ids i):Nat):Int)∈lk)))
def ij(li lk ids:List Int)(k:Nat):List Bool:=(Nf k).map (il li lk ids)++Mn (ids.length-k) false
def oZ(li lk ids:List Int)(h:k<=ids.length):(ij li lk ids k).length=ids.length:=by simp[ij];omega
def C8(li lk ids:List Int)(h:k<ids.length):(ij li lk ids k).set k (il li lk ids k)=ij li lk ids (k+1):=by
 unfold ij;rw[Nn _ _ (by simp),PN,MB];obtain⟨d,hd⟩:∃d,ids.length-k=d+1:=⟨ids.length-k-1,zo⟩
 rw[hd,show ids.length-(k+1)=d from by omega];simp[Nx]
def sS(li lk ids:List Int)(hi:i<k)(h:k<=ids.length):nth (ij li lk ids k) i=il li lk ids i:=by
 have hl:=oZ li lk ids h;rw[aD zo];unfold ij;rw[N8 (by simpa using hi)];simp
def sn(li lk ids:List Int)(ig kp ru dv:ix)(w:ln)(h1:N6 w ig li)(h2:N6 w kp lk)(_:ru.oneCell'=true)(hd:N6 w dv ids)(hn:ids.length<=100000):
  MW M5 65 [D4 ig kp ru,dv] w λv w'=>Sl dD 1 w' v (ij li lk ids ids.length)/\MP w w'/\Px w.heap.size v:=by
 have hz:¬(0=1\/0=2):=zo;have c5:=hd.free0 (λx=>by simp);have c7:Pr (λ_=>0) w kp:=h2.free0 (λx=>by simp);apply L1 func65 ntmps65 rfl rfl;refine zh ?_;apply aQ (aA w) 1 zo rfl rfl;intro xb w1 O1 b2 d2 d3 d4;refine zh ?_;apply zv (Q8 (by first|exact hd.ext d4) Mq rfl);apply cg xe (val:=λb:Bool=>Pk b) false zk (λ_=>rfl) d3 2 zd ids.length rfl rfl rfl rfl zo zo rfl;intro w2 O2 ov d5 a9 c6 d7 d8;have b6:M1 (λq=>q=1\/q=2) (λ_=>0) w O2 w2:=(d2.mono (λ_ h=>zo) hz).J (c6.mono (λ_ h=>zo) hz);have h0:Mn ids.length false=ij li lk ids (min 1 ids.length):=by
  by_cases e:ids.length=0
  ·rw[e];simp[ij,e]
  obtain⟨d,d1⟩:∃d,ids.length=d+1:=⟨ids.length-1,zo⟩
  rw[show min 1 ids.length=1 from by omega];unfold ij;rw[d1,show d+1-1=d from rfl];simp[Nx,il]
 rw[h0]at a9;refine zh ?_;apply zlp (λz:Nat×ln=>[(1,dv),(2,nP xb),(5,ov),(6,nI (z.1:Nat))]) (λz=>z.2) (λz=>1<=z.1/\z.1<=max 1 ids.length/\Nv dD 4 1 O2 z.2 2 ov (ij li lk ids (min z.1 ids.length))/\Mk O2 z.2 1 xb #[ig,kp,ru] 45/\M1 (λq=>q=1\/q=2) (λ_=>0) w O2 z.2) (λz=>ids.length-z.1) (1,w2) ⟨Mb _,Nat.le_max_left _ _,a9,b2.U c6 zd zd,b6⟩;rintro⟨k,w3⟩ ⟨c8,hk,a1,a3,a6⟩;dsimp only at c8 hk a1 a3 a6 ⊢;have b0:=hd.U c5 a6;refine zh ?_;refine zC ?_ ?_
 ·intro a';replace a':k<ids.length:=by have:=of_decide_eq_true a';omega
  rw[show min k ids.length=k from by omega]at a1;obtain⟨k',rfl⟩:∃k',k=k'+1:=⟨k-1,zo⟩
  have b8:=oZ li lk ids (show k'+1<=ids.length by omega);have hN:il li lk ids (k'+1)=(decide (((aY (nth ids (k'+1)):Nat):Int)∈li)&&(il li lk ids k' || !(decide (((aY (nth ids k'):Nat):Int)∈lk)))):=by rw[il]
  have b7:∀W,Nv dD 4 1 O2 W 2 ov ((ij li lk ids (k'+1)).set (k'+1) (il li lk ids (k'+1)))->Nv dD 4 1 O2 W 2 ov (ij li lk ids (min (k'+1+1) ids.length)):=λW h=>by rw[C8 _ _ _ a']at h;rwa[show min (k'+1+1) ids.length=k'+1+1 from by omega]
  refine zh ?_;have e0:w3.drew.cell? (nA xb 0)=some ig:=a3.cell 0 rfl;have e1:w3.drew.cell? (nA xb 1)=some kp:=a3.cell 1 rfl;have e2:w3.drew.cell? (adr dv 1 (k'+1))=some (nI (nth ids (k'+1))):=by have:=b0.cell (i:=k'+1) (j:=0) a' rfl;rw[ax]at this;exact this
  have e3:w3.drew.cell? (adr dv 1 k')=some (nI (nth ids k')):=by have:=b0.cell (i:=k') (j:=0) zo rfl;rw[ax]at this;exact this
  have e4:w3.drew.cell? (adr ov 1 k')=some (.bool (il li lk ids k')):=by have:=a1.sl.cell (i:=k') (j:=0) zo rfl;rw[ax,sS _ _ _ zo zo]at this;exact this
  have a2:∀W,Nv dD 4 1 O2 W 2 ov ((ij li lk ids (k'+1)).set (k'+1) (il li lk ids (k'+1)))->M1 (λq=>q=2) O2 w3.drew O2 W->W.cell? (nA xb 0)=some ig/\W.cell? (nA xb 1)=some kp/\W.cell? (adr dv 1 (k'+1))=some (nI (nth ids (k'+1)))/\W.cell? (adr dv 1 k')=some (nI (nth ids k'))/\W.cell? (adr ov 1 k')=some (.bool (il li lk ids k')):=λW hr hu=>by
   have hb:=(a3.U (ae (S:=λ_=>False) (λh=>h) O2 (L4 w3).drew) zd (λh=>h)).U hu zd zd;have b9:=hd.U c5 ((a6.J (ae (S:=λq=>q=1\/q=2) hz O2 (L4 w3).drew)).J (hu.mono (λ_ h=>zo) hz));refine⟨hb.cell 0 rfl,hb.cell 1 rfl,?_,?_,?_⟩
   ·have:=b9.cell (i:=k'+1) (j:=0) a' rfl;rw[ax]at this;exact this
   ·have:=b9.cell (i:=k') (j:=0) zo rfl;rw[ax]at this;exact this
   have:=hr.sl.cell (i:=k') (j:=0) (by rw[List.length_set];omega) rfl;rw[ax,bf zo,am zo,sS _ _ _ zo zo]at this;exact this
  have a8:Nv (λx=>[(λb:Bool=>Pk b) x]) 4 1 O2 w3.drew 2 ov (ij li lk ids (k'+1)):=a1.U (ae (S:=λ_=>False) (λh=>h) O2 (L4 w3).drew) zd (λh=>h);have b5:=a6.J (ae (S:=λq=>q=1\/q=2) hz O2 (L4 w3).drew);have a7:=a3.U (ae (S:=λ_=>False) (λh=>h) O2 (L4 w3).drew) zd (λh=>h);apply aO (λW=>W.cell? (nA xb 0)=some ig/\W.cell? (nA xb 1)=some kp/\W.cell? (adr dv 1 (k'+1))=some (nI (nth ids (k'+1)))/\W.cell? (adr dv 1 k')=some (nI (nth ids k'))/\W.cell? (adr ov 1 k')=some (.bool (il li lk ids k'))) 31 rfl zk;refine zin ⟨e0,e1,e2,e3,e4⟩ λzS=>?_
  apply zrm 0 rfl zS rfl;apply zrm 1 rfl zS rfl
  apply zrf 2 rfl zS rfl;apply zt 3 rfl zS (λw1 a5=>RV.ld a5.1 rfl)
  apply zrm 4 rfl zS rfl;apply zrm 5 rfl zS rfl
  apply zr 6 rfl zS (λ_=>aj b0.sh Mq (MG _) rfl rfl (k'+1) rfl zo);apply zt 7 rfl zS (λw1 a5=>RV.ld a5.2.2.1 rfl)
  apply L3 8 zk rfl;apply zc call66 (iB (nth ids (k'+1)) _)
  rintro _ w4 ⟨rfl,rfl⟩;refine zh ?_;apply af ⟨e0,e1,e2,e3,e4⟩;apply L3 9 zk rfl;apply zc call98 (uD li _ ig _ ((h1.U (h1.free0 (λx=>by simp)) a6).ext (L4 w3).drew));rintro _ w4 ⟨rfl,rfl⟩;refine zh ?_;apply af ⟨e0,e1,e2,e3,e4⟩;apply zrm 10 rfl ⟨e0,e1,e2,e3,e4⟩ rfl
  by_cases c1:((aY (nth ids (k'+1)):Nat):Int)∈li
  ·rw[decide_eq_true c1,P2]at hN;apply bJ (d:=26) rfl (b':=true) ((decide_eq_true c1));refine zin ⟨e0,e1,e2,e3,e4⟩ λzS=>?_
   apply zro 11 rfl zS (λ_=>Nk rfl);apply zro 12 rfl zS (λ_=>Nk rfl)
   apply zro 13 rfl zS (λ_=>Qz rfl rfl (MR zo));apply zro 14 rfl zS (λ_=>aj a1.sl.sh Nu (MU _) rfl rfl k' zo zo)
   apply zto 15 rfl zS (λw1 a5=>RV.ld a5.2.2.2.2 rfl);apply zro 16 rfl zS (λ_=>Nk rfl)
   cases c2:il li lk ids k' with
   |true=>
    rw[c2,Bool.true_or]at hN;rw[c2]at a2 e4;apply bJ (d:=32) rfl (b':=true) rfl;refine zin ⟨e0,e1,e2,e3,e4⟩ λzS=>?_
    apply zte 17 rfl rfl zS;apply zte 18 rfl rfl zS
    apply zte 19 rfl rfl zS;apply zte 20 rfl rfl zS
    apply zte 21 rfl rfl zS;apply zte 22 rfl rfl zS
    apply zte 23 rfl rfl zS;apply zte 24 rfl rfl zS
    apply zte 25 rfl rfl zS;apply zte 26 rfl rfl zS
    apply zro 27 rfl zS (λ_=>aT rfl rfl);apply zr 28 rfl zS (λ_=>aT rfl rfl)
    apply zr 29 rfl zS (λ_=>aj a1.sl.sh Nu (MU _) rfl rfl (k'+1) rfl zo);apply L3 30 zk rfl
    apply NZ a8 (k'+1) zo true (MU _) rfl zd rfl rfl rfl rfl;intro w5 a0 a4;rw[<-hN]at a0;refine zh ?_
    apply af ((a2 w5 a0 a4));apply Md zk
    refine zh ?_;refine zxd (k'+1+1,w5) ⟨by dsimp only;omega,by dsimp only;omega,b7 w5 a0,a7.U a4 zd zd,b5.J (a4.mono (λ_ h=>zo) hz)⟩
   |false=>
    rw[c2,Q2]at hN;rw[c2]at a2 e4;apply bJ (d:=32) rfl (b':=false) rfl;refine zin ⟨e0,e1,e2,e3,e4⟩ λzS=>?_
    apply zro 17 rfl zS (λ_=>RV.fa rfl);apply zto 18 rfl zS (λw1 a5=>RV.ld a5.2.1 rfl)
    apply zro 19 rfl zS (λ_=>Nk rfl);apply zro 20 rfl zS (λ_=>Nk rfl)
    apply zro 21 rfl zS (λ_=>Qz rfl rfl (MR zo));apply zro 22 rfl zS (λ_=>aj b0.sh Mq (MG _) rfl rfl k' zo zo)
    apply zto 23 rfl zS (λw1 a5=>RV.ld a5.2.2.2.1 rfl);apply L3 24 zk rfl
    apply bt rfl;apply zc call66 (iB (nth ids k') _)
    rintro _ w4 ⟨rfl,rfl⟩;refine zh ?_;apply af ⟨e0,e1,e2,e3,e4⟩;apply L3 25 zk rfl;apply bt rfl;apply zc call98 (uD lk _ kp _ ((h2.U c7 a6).ext (L4 w3).drew));rintro _ w4 ⟨rfl,rfl⟩;refine zh ?_;refine zaf ⟨e0,e1,e2,e3,e4⟩ λzS=>?_
    apply zro 26 rfl zS (λ_=>RV.not rfl);apply zro 27 rfl zS (λ_=>aV rfl rfl)
    apply zr 28 rfl zS (λ_=>aT rfl rfl);apply zr 29 rfl zS (λ_=>aj a1.sl.sh Nu (MU _) rfl rfl (k'+1) rfl zo)
    apply L3 30 zk rfl;apply NZ a8 (k'+1) zo _ (MU _) rfl zd rfl rfl rfl rfl
    intro w5 a0 a4;rw[<-hN]at a0;refine zh ?_;apply af ((a2 w5 a0 a4));apply Md zk;refine zh ?_;refine zxd (k'+1+1,w5) ⟨by dsimp only;omega,by dsimp only;omega,b7 w5 a0,a7.U a4 zd zd,b5.J (a4.mono (λ_ h=>zo) hz)⟩
  rw[decide_eq_false c1,PW]at hN;apply bJ (d:=26) rfl (b':=false) ((decide_eq_false c1));refine zin ⟨e0,e1,e2,e3,e4⟩ λzS=>?_
  apply zte 11 rfl rfl zS;apply zte 12 rfl rfl zS
  apply zte 13 rfl rfl zS;apply zte 14 rfl rfl zS
  apply zte 15 rfl rfl zS;apply zte 16 rfl rfl zS
  apply ztu 17 rfl zS;apply ztu 18 rfl zS
  apply ztu 19 rfl zS;apply ztu 20 rfl zS
  apply ztu 21 rfl zS;apply ztu 22 rfl zS
  apply ztu 23 rfl zS;apply ztu 24 rfl zS
  apply ztu 25 rfl zS;apply ztu 26 rfl zS
  apply zte 27 rfl rfl zS;apply zr 28 rfl zS (λ_=>aV rfl rfl)
  apply zr 29 rfl zS (λ_=>aj a1.sl.sh Nu (MU _) rfl rfl (k'+1) rfl zo);apply L3 30 zk rfl
  apply NZ a8 (k'+1) zo false (MU _) rfl zd rfl rfl rfl rfl;intro w5 a0 a4;rw[<-hN]at a0;refine zh ?_
  apply af ((a2 w5 a0 a4));apply Md zk
  refine zh ?_;refine zxd (k'+1+1,w5) ⟨by dsimp only;omega,by dsimp only;omega,b7 w5 a0,a7.U a4 zd zd,b5.J (a4.mono (λ_ h=>zo) hz)⟩
 intro d0;have c':=of_decide_eq_false d0;rw[show min k ids.length=ids.length from by omega]at a1;refine zh ?_;refine ah rfl rfl ⟨a1.sl,a6.ext,a1.newV zd ((aA w).U a6)⟩
def IL(k c m:Int):Bool:=
 if k=0 then m==c else if k=1 then decide (0<=m)&&decide (m<=35)else if k=2 then(decide (0<=m)&&decide (m<=35))&&(m != c)else(k==3)&&(m==36)
def AF(k c m:Int)(sv:ix)(w:ln):MW M5 99 [nv (k,c,sv),nI m] w λv w'=>v=.bool (IL k c m)/\MP w w':=by
 apply L1 func99 ntmps99 rfl rfl;refine zh ?_
 apply aQ (aA w) 1 zo rfl rfl;intro xb w1 O1 a0 a2 a3 a1;have c0:w1.cell? (nA xb 0)=some (nI k):=a0.cell 0 rfl;have c1:w1.cell? (nA xb 1)=some (nI c):=a0.cell 1 rfl;unfold IL;refine zh ?_
 by_cases h0:k=0
 ·rw[ap h0];refine zTH rfl ((by rw[h0];rfl)) ?_;refine ah rfl rfl ⟨rfl,a1⟩
 rw[am h0];refine zFH rfl ((by rw[beq_eq_false_iff_ne];exact h0)) ?_
 by_cases h1:k=1
 ·rw[ap h1];refine zTH rfl ((by rw[h1];rfl)) ?_;refine aU (λw1=>_=w1) (decide (m<=35)) 2 rfl rfl rfl rfl rfl rfl ?_ ?_
  ·intro g1;refine zh ?_;refine nE 17 3 rfl g1
  rintro _ rfl;refine zh ?_;refine ah rfl rfl ⟨rfl,a1⟩
 rw[am h1];refine zFH rfl ((by rw[beq_eq_false_iff_ne];exact h1)) ?_
 by_cases h2:k=2
 ·rw[ap h2];refine zTH rfl ((by rw[h2];rfl)) ?_;refine aU (λw1=>_=w1) (decide (m<=35)) 2 rfl rfl rfl rfl rfl rfl ?_ ?_
  ·intro g1;refine zh ?_;refine nE 25 3 rfl g1
  rintro _ rfl;refine zh ?_;refine aU (λw1=>_=w1) ((m != c)) 4 rfl rfl rfl rfl rfl rfl ?_ ?_
  ·intro g2;refine zh ?_;refine nE 29 5 rfl g2
  rintro _ rfl;refine zh ?_;refine ah rfl rfl ⟨rfl,a1⟩
 rw[am h2];refine zFH rfl ((by rw[beq_eq_false_iff_ne];exact h2)) ?_;refine aU (λw1=>_=w1) ((m==36)) 2 rfl rfl rfl rfl rfl rfl ?_ ?_
 ·intro g1;refine zh ?_;refine nE 38 3 rfl g1
 rintro _ rfl;refine zh ?_;refine ah rfl rfl ⟨rfl,a1⟩
end Go.Proofs.YteolbhblkgjbhaaGreatDoor
