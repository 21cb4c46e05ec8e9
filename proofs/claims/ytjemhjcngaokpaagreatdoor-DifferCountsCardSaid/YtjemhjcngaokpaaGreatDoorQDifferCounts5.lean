/- Texts that the proof of this statement needs, merged and shortened. -/
import Derived.Test.YtjemhjcngaokpaaGreatDoorQDifferCounts4
open Go renaming Value->ix,World->ln,TypeId->Mq
open Go.VL.Ext renaming refl->ka
open Go.VL.WH renaming one->J0,done->Ji,leaf->MQ
open Go.VL.Ret renaming enter->J1
open Go.VL.BlkO renaming upd->J2,drew->Kv,setRow->KQ,tag->My,set->Mz,q7->MJ,q6->MK
open Go.Proofs.Tryz renaming sizeOf35->J3,underlying22->Jj,isAgg35->Jk,prog->Jt,sizeOf3->Ju,sizeOf41->JB,sizeOf139->JG,underlying9->JL,zeroValue41->JQ,zeroValue139->K0,call128->K1,sizeOf141->K5,underlying141->K6,zeroValue35->K7,isAgg139->K8,zeroValue141->Kb,sizeOf67->Km,sizeOf52->Ko,underlying23->Ku,zeroValue67->KA,isAgg141->KB,isAgg41->KG,underlying31->KT,sizeOf28->KU,sizeOf22->KV,call95->KZ,underlying4->L1,sizeOf54->L5,sizeOf33->L6,call21->L7,underlying143->Le,sizeOf126->Lm,isAgg52->Lp,isAgg33->Lq,call92->Lr,zeroValue69->LJ,zeroValue58->LK,sizeOf39->LL,call93->LX,call54->LY,sizeOf4->M4,ntmps95->M5,isAgg67->M6,call133->M7,call132->M8,sizeOf65->Mm,sizeOf58->Mn,func95->Mo,call22->Mp,underlying139->Ms,underlying133->Mt,underlying132->Mu,zeroValue226->MB,underlying90->MC,underlying54->MD,underlying26->ME,call131->MF,call99->MO
open List renaming dropWhile_suffix->J4,mem_singleton->J5,getElem_append_right->J8,getElem_append_left->J9,getElem?_append_right->Jh,mem_cons->Jl,all_cons->Jm,getElem_cons_zero->Js,getElem?_eq_some_iff->Jv,getElem?_append_left->Jw,all_nil->Jy,not_mem_nil->JD,range->JN,pairwise_cons->JT,length_append->JU,takeWhile_prefix->JZ,append_assoc->Kc,cons_append->Kf,any_eq_true->Kg,mem_append->Ki,append_nil->Kj,mem_range->Kq,mem_of_getElem?->Kr,toArray_inj->KM,take_length->KN,all_eq_true->KO,nil_append->KR,drop_zero->KY,set_append_right->Lb,length_singleton->Lc,contains_iff_mem->Ld,take_succ_cons->Lj,drop_succ_cons->Lk,findIdx?_cons->Lo,flatMap_cons->Lw,mem_flatMap->LB,length_take->LC,ext_getElem->LD,all_toArray->LF,take_zero->LU,mapM_cons->LV,mapM_nil->M0,mem_map->Mf,length->Mi
open Go.VL.Upd renaming setRow->J6,set->Jp,refl->KI,trans->L4,lowT->Lh,drew->MG
open And renaming intro->J7
open Go.VL.WL renaming nil->Jn,push->L0,storeAt->Mw
open Go.VL.RV renaming move->Jo,build->JS,indexAddr->K9,extract->Kl,add->KH,fieldAddr->KL,len->L3,assign->L8,neq->Mc,load->MR
open Nat renaming zero_le->Jq,le_refl->JF,le_of_eq->JH,not_lt_zero->JK,sub_self->JW,lt_succ_iff_lt_or_eq->Ke,zero_add->L9,le_trans->La,pow_lt_pow_right->Li,xor_lt_two_pow->Lt,lt_or_eq_of_le->Lu,lt_of_le_of_lt->Lv,lt_succ_self->LO,and_le_left->LQ,lt_irrefl->Me
open Go.VL renaming Upd->Jr,Ext->JM,BlkO->JX,Ret->Kx,RowT->KJ,Rng->KX,Ints->M1,Free->MI,MapO->MT
open Go.Addr renaming add_add->Jz,add->MA
open Go.Proofs.YtjemhjcngaokpaaGreatDoor renaming TabM->JA,OkT->KK,PostC->Ln,Rd6->Ls,PartV->Md,FreeL->Mg
open Go.Value renaming oneCell'->JC,bool->JR,int->L2,formed->LZ,tuple->Mb
open Int renaming eq_ofNat_of_zero_le->JE,toNat_natCast->LH
open Go.World renaming setCell->JI,setRow->KC,drew->KW
open Go.VL.RowT renaming nil->JJ,drew->Mr,upd->Mx
open Bool renaming or_eq_false_iff->JO,and_eq_true->JP,not_eq_true'->Kd,not_eq_false'->Kz,or_eq_true->KS,eq_false_iff->Lx
open Go.VL.WC renaming seq->JV,tail->JY,region->K4,skip->LN,still->M9,ret->Ma
open Go.Program renaming keyLits->K2
open Go.IntKind renaming i64->Ka,u64->LW
open Go.Lit renaming int->Kh,wf->MU
open Go.VL.Fit renaming i64->Kk
open Go.Value.tuple renaming injEq->Kp
open Go.VL.WS renaming go->Kw,nil->Mv
open Go.Value.int renaming injEq->KD
open Go.Value.agg renaming injEq->KE
open List.cons renaming injEq->KF
open Array.mk renaming injEq->KP
open Go.Lib renaming compact->Ll,ctz->MN
open Go.VL.Rng renaming upd->Ly,drew->MH
open Or renaming inr->Lz,inl->LA
open Go.Proofs.YtjemhjcngaokpaaGreatDoor.LR renaming bad->LG
open Subtype renaming ext->LP
open Go.Proofs.YtjemhjcngaokpaaGreatDoor.RowsT renaming push->Mh
open List.Pairwise renaming imp->Mj,filter->Mk
open Go.Proofs.YtjemhjcngaokpaaGreatDoor.FreeL renaming upd->Ml
open Go.Proofs.YtjemhjcngaokpaaGreatDoor.Mac renaming upd->MM
open Go.VL.WQ renaming call->MP
open Prod.mk renaming injEq->MS
set_option maxRecDepth 10000
open Go.VL Go.Proofs Go.Proofs.Tryz
namespace Go.Proofs.YtjemhjcngaokpaaGreatDoor
theorem rk(s c:Nat)(w:ln)(hs:s<18446744073709551616)(hc:c<64):Kx Jt 99 [.int .u64 (s:Nat),nI (c:Nat)] w fun v w'=>v=.bool (s.testBit c)/\w'=w:=by
 have hd:s / 2^c<=s:=Nat.div_le_self _ _;have e:(((s / 2^c &&& 1:Nat):Int)==1)=s.testBit c:=by
  rw[Nat.and_one_is_mod,Nat.testBit_eq_decide_div_mod_eq]
  rcases Nat.mod_two_eq_zero_or_one (s / 2^c)with h|h<;>rw[h]<;>rfl
 refine J1 func99 ntmps99 rfl rfl ?_;refine zh ?_
 refine zv (gq (a:=s) (b:=c) rfl rfl rfl rfl (by show _<=64;omega)) ?_;refine zvH (lV (a:=s / 2^c) (b:=1) rfl rfl rfl rfl (by show _<=(18446744073709551615:Int);omega) zd) ?_
 refine ah rfl rfl (⟨by rw[<-e],rfl⟩)
theorem gZ(cs:List ix)(p:PSt)(tl:List Nat)(r c:Nat)(w:ln)(h:Md w cs p tl)(ok:OkP p)(hr:r<p.usual.length)(a9:c<64):
  Kx Jt 54 [.agg cs.toArray,nI (r:Nat),nI (c:Nat)] w fun v w'=>v=nI (getM p r c)/\JM w w':=by
 obtain⟨uv,bv,kv,nv,tv,rfl,a3,a7,a5,a4,a8⟩:=h;obtain⟨o1,o2,o3,o4,o5,o6,o7⟩:=ok;have a6:=o7 r zo;obtain⟨b,a2⟩:=JE a6.1;have hg:getM p r c=if b+c<p.check.length/\nth p.check (b+c)=r then nth p.next (b+c)else nth p.usual r:=by simp only[getM,a2];rfl
 refine J1 func54 ntmps54 rfl rfl ?_;refine zh ?_
 refine aE (ar w) 1 zo rfl rfl ?_;intro db w1 O1 a1 a' b0 a0;have hu:=a3.ext a0;have hb:=a7.ext a0;have hk:=a5.ext a0;have hn:=a4.ext a0;have c1:w1.cell? ((nA db 0).add 1)=some uv:=a1.cell 1 rfl;have c2:w1.cell? ((nA db 0).add 2)=some bv:=a1.cell 2 rfl;have c3:w1.cell? ((nA db 0).add 3)=some kv:=a1.cell 3 rfl;have c4:w1.cell? ((nA db 0).add 4)=some nv:=a1.cell 4 rfl;have k1:w1.cell? (adr bv 1 r)=some (nI (b:Int)):=by have:=hb.cell (i:=r) (j:=0) zo rfl;rw[ax,a2]at this;exact this
 refine zh ?_
 by_cases h1:b+c<p.check.length
 ·refine az (d:=22) rfl (b':=true) (decide_eq_true zo) ?_;have k2:w1.cell? (adr kv 1 (b+c))=some (nI (nth p.check (b+c))):=by have:=hk.cell (i:=b+c) (j:=0) h1 rfl;rwa[ax]at this
  have k3:w1.cell? (adr nv 1 (b+c))=some (nI (nth p.next (b+c))):=by have:=hn.cell (i:=b+c) (j:=0) zo rfl;rwa[ax]at this
  refine zh ?_;refine zC ?_ ?_
  ·intro he;replace he:nth p.check (b+c)=r:=by simpa using he
   rw[if_pos ⟨h1,he⟩]at hg;refine zh ?_;refine ah rfl rfl (⟨by rw[hg],a0⟩)
  intro he;replace he:¬nth p.check (b+c)=r:=by simpa using he
  rw[if_neg (fun h=>he h.2)]at hg;have k4:w1.cell? (adr uv 1 r)=some (nI (nth p.usual r)):=by have:=hu.cell (i:=r) (j:=0) hr rfl;rwa[ax]at this
  refine zh ?_;refine ah rfl rfl (⟨by rw[hg],a0⟩)
 rw[if_neg (fun h=>h1 h.1)]at hg;have k4:w1.cell? (adr uv 1 r)=some (nI (nth p.usual r)):=by have:=hu.cell (i:=r) (j:=0) hr rfl;rwa[ax]at this
 refine az (d:=22) rfl (b':=false) (decide_eq_false zo) ?_;refine zh ?_
 refine zFH rfl rfl ?_;refine ah rfl rfl (⟨by rw[hg],a0⟩)
abbrev xT(t:JA)(gv:ix)(lc rc:List ix):ix:=.agg (bn t.ig t.kp t.br t.rules gv lc rc).toArray
structure TbW(w:ln)(t:JA)(gv:ix)(lc rc:List ix):Prop where
 g:M1 w gv t.groups
 l:Md w lc t.left t.lt
 r:Md w rc t.right t.rt
section
variable{w:ln}{t:JA}{gv:ix}{lc rc:List ix}
theorem TbW.ext{w':ln}(h:TbW w t gv lc rc)(e:JM w w'):TbW w' t gv lc rc:=⟨h.g.ext e,h.l.ext e,h.r.ext e⟩
theorem TbW.len(h:TbW w t gv lc rc):(bn t.ig t.kp t.br t.rules gv lc rc).length=17:=by simp[h.l.one.1,h.r.one.1]
theorem Dk(ig kp br:Nat)(ru:Int)(gv:ix)(lc rc:List ix)(j:Nat)(u:ix)(hu:lc[j]? = some u):(bn ig kp br ru gv lc rc)[5+j]? = some u:=by
 have hj:=(Jv.1 hu).1;rw[show bn ig kp br ru gv lc rc=[.int .u64 (ig:Int),.int .u64 (kp:Int),.int .u64 (br:Int),nI ru,gv]++(lc++rc)from Kc ..,Jh (by simp),show 5+j-[L2 .u64 (ig:Int),.int .u64 (kp:Int),.int .u64 (br:Int),nI ru,gv].length=j from by simp,Jw hj];exact hu
theorem Dj(ig kp br:Nat)(ru:Int)(gv:ix)(lc rc:List ix)(hl:lc.length=6)(j:Nat)(u:ix)(hu:rc[j]? = some u):(bn ig kp br ru gv lc rc)[11+j]? = some u:=by
 rw[show bn ig kp br ru gv lc rc=([.int .u64 (ig:Int),.int .u64 (kp:Int),.int .u64 (br:Int),nI ru,gv]++lc)++rc from rfl,Jh (by simp[hl]),show 11+j-([L2 .u64 (ig:Int),.int .u64 (kp:Int),.int .u64 (br:Int),nI ru,gv]++lc).length=j from by simp[hl]];exact hu
end
abbrev bI(s:Sd):List ix:=[nI (s.1:Int),.int .u64 (s.2.1:Int),nI (s.2.2.1:Int),.int .u64 (s.2.2.2:Int)]
abbrev bM(s:Df):List ix:=bI s.1++bI s.2.1++[.bool s.2.2.1,.bool s.2.2.2.1,nI (s.2.2.2.2:Int)]
structure OkSd(t:JA)(s:Sd):Prop where
 row:s.1<t.left.usual.length
 told:s.2.1<2^40
 right:s.2.2.1<t.right.usual.length
 beh:s.2.2.2<2^40
theorem Cn:ck Jt 139 #[(0,1),(1,1),(2,1),(3,1)]:=⟨_,Ms,fun w=>by kernel_rfl⟩
structure SeeT(W:ln)(tb:Nat)(t:JA)(gv:ix)(lc rc:List ix)(c:Nat):Prop where
 fg:W.cell? (nA tb 4)=some gv
 fl:∀(j:Nat) (u:ix),lc[j]? = some u->W.cell? ((nA tb 5).add j)=some u
 fr:∀(j:Nat) (u:ix),rc[j]? = some u->W.cell? ((nA tb 11).add j)=some u
 fc:W.cell? (adr gv 1 c)=some (nI ((grT t c:Nat):Int))
theorem Ie{W:ln}{O:Nat->Nat}{tb i:Nat}{E:Mq}{t:JA}{gv:ix}{lc rc:List ix}{c:Nat}(ho:KK t)(hc:c<37)(hT:TbW W t gv lc rc)(h1:JX O W i tb (bn t.ig t.kp t.br t.rules gv lc rc).toArray E):SeeT W tb t gv lc rc c:=by
 have tc:∀(j:Nat) (u:ix),(bn t.ig t.kp t.br t.rules gv lc rc)[j]? = some u->W.cell? (nA tb j)=some u:=fun j u hu=>h1.cellsAdd j u (by simpa using hu)
 refine⟨tc 4 gv rfl,fun j u hu=>by rw[Jz];exact tc _ _ (Dk _ _ _ _ _ _ _ j u hu),fun j u hu=>by rw[Jz];exact tc _ _ (Dj _ _ _ _ _ _ _ hT.l.one.1 j u hu),?_⟩;have a0:=ho.gl;have:=hT.g.cell (i:=c) (j:=0) zo rfl;rw[ax,(ho.gN hc).1]at this;exact this
theorem slU{w:ln}{v:ix}{l:List Nat}(h:Sl fK 1 w v l){i:Nat}(hi:i<l.length):w.cell? (adr v 1 i)=some (.int .u64 ((nth l i:Nat):Int)):=by
 have:=h.cell (i:=i) (j:=0) hi rfl
 rwa[ax]at this
section
variable{t:JA}{gv:ix}{lc rc:List ix}
theorem nQ(w:ln)(hT:TbW w t gv lc rc)(ho:KK t)(s:Sd)(hs:OkSd t s)(c:Nat)(hc:c<37):Kx Jt 101 [xT t gv lc rc,.agg (bI s).toArray,nI (c:Nat)] w fun v w'=>v=.agg (bI (lu t s c)).toArray/\JM w w':=by
 refine J1 func101 ntmps101 rfl rfl ?_;refine zh ?_
 refine aE (ar w) 1 zo rfl rfl ?_;intro tb w1 O1 b3 b7 b9 c8;refine aE b9 2 zo rfl rfl ?_
 intro sb w2 O2 b4 b1 b8 c7;refine aw b8 3 zo (K0 _) rfl ?_;intro rb w3 O3 b5 a7 c5 c6;have hg:=ho.gN hc;have b':=ho.gl;have hz:¬(0=1\/0=2\/0=3):=zo;have a9:¬(0=2\/0=3):=zo;have a':Jr (fun q=>q=1\/q=2\/q=3) (fun _=>0) w O3 w3:=((b7.mono (fun _ h=>.inl h) hz).trans (b1.mono (fun _ h=>.inr (.inl h)) hz)).trans (a7.mono (fun _ h=>.inr (.inr h)) hz);have tF:=dQ hT.g hT.l hT.r;have b2:∀ {W:ln},Jr (fun q=>q=2\/q=3) O3 w3 O3 W->TbW W t gv lc rc:=fun u'=>by have u:=a'.trans (u'.mono (fun _ h=>.inr h) hz);exact⟨hT.g.upd (tF _ (by simp)) u,hT.l.updF (fun v hv=>tF v (by simp[hv])) u,hT.r.updF (fun v hv=>tF v (by simp[hv])) u⟩
 have a3:=(b3.upd b1 zd zd).upd a7 zd zd;have a5:=b4.upd a7 zd zd;have k0:∀ {W:ln},Jr (fun q=>q=2\/q=3) O3 w3 O3 W->SeeT W tb t gv lc rc c:=fun u=>Ie ho hc (b2 u) (a3.upd u zd zo)
 have kE:∀ {W:ln},JM w3.drew W->Jr (fun q=>q=2\/q=3) O3 w3 O3 W:=fun e=>aa a9 O3 ((ka w3).drew.trans e)
 have kS:∀ {W:ln},JM w3.drew W->JX O3 W 2 sb (bI s).toArray 139:=fun e=>a5.upd (aa (S:=fun _=>False) (fun h=>h) O3 ((ka w3).drew.trans e)) zd (fun h=>h)
 have kR:∀ {W:ln},JM w3.drew W->JX O3 W 3 rb #[nI 0,.int .u64 0,nI 0,.int .u64 0] 139:=fun e=>b5.upd (aa (S:=fun _=>False) (fun h=>h) O3 ((ka w3).drew.trans e)) zd (fun h=>h)
 have b6:=hT.l.one.1;have a8:=ka w3.drew;refine zh ?_;refine aG (fun W=>SeeT W tb t gv lc rc c/\∀(j:Nat) (u:ix),(bI s)[j]? = some u->W.cell? (nA sb j)=some u) 12 rfl zk ?_;refine zin ⟨k0 (kE a8),(kS a8).cellsAdd⟩ fun zS=>?_
 refine zrf 0 rfl zS rfl ?_;refine zt 1 rfl zS (fun w1 a0=>af (us:=lc) a0.1.fl (Lq _) (by rw[b6];exact L6 _) rfl) ?_
 refine zrf 2 rfl zS rfl ?_;refine zt 3 rfl zS (fun w1 a0=>RV.ld (by first|exact a0.1.fg|exact a0.1.fc|exact a0.2 0 _ rfl) rfl) ?_
 refine zrf 4 rfl zS rfl ?_;refine zt 5 rfl zS (fun w1 a0=>RV.ld (by first|exact a0.1.fg|exact a0.1.fc|exact a0.2 0 _ rfl) rfl) ?_
 refine zrm 6 rfl zS rfl ?_;refine zr 7 rfl zS (fun _=>ai hT.g.sh Jj (Ju _) rfl rfl c rfl zo) ?_
 refine zt 8 rfl zS (fun w1 a0=>RV.ld (by first|exact a0.1.fg|exact a0.1.fc|exact a0.2 0 _ rfl) rfl) ?_;refine J0 9 zk rfl ?_
 refine zc LY (gZ lc t.left t.lt s.1 (grT t c) w3.drew (b2 (kE a8)).l ho.okl hs.row hg.2) ?_;rintro _ w4 ⟨rfl,a1⟩;rw[(ho.lN hs.row hc).1];refine zh ?_
 refine ae (⟨k0 (kE a1),(kS a1).cellsAdd⟩) ?_;refine zr 10 rfl (⟨k0 (kE a1),(kS a1).cellsAdd⟩) (fun _=>aF (cells:=(bI (lu t s c)).toArray) Cn (K0 _) rfl rfl rfl rfl) ?_
 refine J0 11 zk rfl ?_;refine zsa (us:=(bI (lu t s c)).toArray) (kR a1) (JG _) ?_
 have a6:=(kR a1).setRow (us:=(bI (lu t s c)).toArray);have b0:Jr (fun q=>q=3) O3 w4 O3 (w4.setRow rb (bI (lu t s c)).toArray):=J6 zd (kR a1).tag rfl;have a4:=(kS a1).upd b0 zd zd;have a2:=(kE a1).trans (b0.mono (fun _ h=>.inr h) a9);refine zh ?_;refine ae (⟨k0 a2,a4.cellsAdd⟩) ?_;refine Ji zk ?_;refine zh ?_;refine aK rfl rfl (a6.cellsAdd) (K8 _) (JG _) (⟨by simp,(a'.trans (a2.mono (fun _ h=>.inr h) hz)).ext⟩)
theorem ml(w:ln)(hT:TbW w t gv lc rc)(ho:KK t)(s:Sd)(hs:OkSd t s)(c:Nat)(hc:c<37):Kx Jt 102 [xT t gv lc rc,.agg (bI s).toArray,nI (c:Nat)] w fun v w'=>v=.agg (bI (ej t s c)).toArray/\JM w w':=by
 refine J1 func102 ntmps102 rfl rfl ?_;refine zh ?_
 refine aE (ar w) 1 zo rfl rfl ?_;intro tb w1 O1 c9 d5 d7 e4;refine aE d7 2 zo rfl rfl ?_
 intro sb w2 O2 c' c5 d6 e3;refine aw d6 3 zo (K0 _) rfl ?_;intro rb w3 O3 d1 b7 e1 e2;have hg:=ho.gN hc;have e0:=ho.gl;have hz:¬(0=1\/0=2\/0=3):=zo;have b9:¬(0=2\/0=3):=zo;have b0:Jr (fun q=>q=1\/q=2\/q=3) (fun _=>0) w O3 w3:=((d5.mono (fun _ h=>.inl h) hz).trans (c5.mono (fun _ h=>.inr (.inl h)) hz)).trans (b7.mono (fun _ h=>.inr (.inr h)) hz);have tF:=dQ hT.g hT.l hT.r;have c6:∀ {W:ln},Jr (fun q=>q=2\/q=3) O3 w3 O3 W->TbW W t gv lc rc:=fun u'=>by have u:=b0.trans (u'.mono (fun _ h=>.inr h) hz);exact⟨hT.g.upd (tF _ (by simp)) u,hT.l.updF (fun v hv=>tF v (by simp[hv])) u,hT.r.updF (fun v hv=>tF v (by simp[hv])) u⟩
 have b3:=(c9.upd c5 zd zd).upd b7 zd zd;have b5:=c'.upd b7 zd zd;have k0:∀ {W:ln},Jr (fun q=>q=2\/q=3) O3 w3 O3 W->SeeT W tb t gv lc rc c:=fun u=>Ie ho hc (c6 u) (b3.upd u zd zo)
 have kE:∀ {W:ln},JM w3.drew W->Jr (fun q=>q=2\/q=3) O3 w3 O3 W:=fun e=>aa b9 O3 ((ka w3).drew.trans e)
 have kS:∀ {W:ln},JM w3.drew W->JX O3 W 2 sb (bI s).toArray 139:=fun e=>b5.upd (aa (S:=fun _=>False) (fun h=>h) O3 ((ka w3).drew.trans e)) zd (fun h=>h)
 have kR:∀ {W:ln},JM w3.drew W->JX O3 W 3 rb #[nI 0,.int .u64 0,nI 0,.int .u64 0] 139:=fun e=>d1.upd (aa (S:=fun _=>False) (fun h=>h) O3 ((ka w3).drew.trans e)) zd (fun h=>h)
 have d4:=hT.r.one.1;have d2:=ho.rN ho.rp hc;have c7:=ka w3.drew;refine zh ?_;refine aG (fun W=>SeeT W tb t gv lc rc c) 9 rfl zk ?_;refine zin (k0 (kE c7)) fun zS=>?_
 refine zrf 0 rfl zS rfl ?_;refine zt 1 rfl zS (fun w1 a0=>af (us:=rc) a0.fr (Lq _) (by rw[d4];exact L6 _) rfl) ?_
 refine zrf 2 rfl zS rfl ?_;refine zt 3 rfl zS (fun w1 a0=>RV.ld (by first|exact a0.fg|exact a0.fc) rfl) ?_
 refine zrm 4 rfl zS rfl ?_;refine zr 5 rfl zS (fun _=>ai hT.g.sh Jj (Ju _) rfl rfl c rfl zo) ?_
 refine zt 6 rfl zS (fun w1 a0=>RV.ld (by first|exact a0.fg|exact a0.fc) rfl) ?_;refine J0 7 zk rfl ?_
 refine zc LY (gZ rc t.right t.rt 0 (grT t c) w3.drew (c6 (kE c7)).r ho.okr ho.rp hg.2) ?_;rintro _ b8 ⟨rfl,a9⟩;rw[d2.1];refine zh ?_
 refine ae ((k0 (kE a9))) ?_;obtain⟨lv,a4,a'⟩:=hT.l.tv;obtain⟨rv,a3,a7⟩:=hT.r.tv;have kl:∀ {W:ln},Jr (fun q=>q=2\/q=3) O3 w3 O3 W->Sl fK 1 W lv t.lt:=fun u=>a'.upd (tF lv (by simp[Kr a4])) (b0.trans (u.mono (fun _ h=>.inr h) hz))
 have kr:∀ {W:ln},Jr (fun q=>q=2\/q=3) O3 w3 O3 W->Sl fK 1 W rv t.rt:=fun u=>a7.upd (tF rv (by simp[Kr a3])) (b0.trans (u.mono (fun _ h=>.inr h) hz))
 have d':=ho.ll;have d9:=ho.rl;have d0:=hs.row;have d8:=ho.rp;have a8:s.1<t.lt.length:=zo;have a6:0<t.rt.length:=zo;have a5:stR t 0 c<t.rt.length:=zo;have b1:=ho.rt _ (aI a6);have b2:=ho.rt _ (aI a5);have d3:(2^40:Nat)=1099511627776:=zd;have a1:JM w3.drew b8.drew:=a9.drew;refine zra 8 rfl ((k0 (kE a9))) rfl ?_;refine Ji zk ?_;refine zh ?_;refine aG (fun W=>SeeT W tb t gv lc rc c/\(∀(j:Nat) (u:ix),(bI s)[j]? = some u->W.cell? (nA sb j)=some u)/\Sl fK 1 W lv t.lt/\Sl fK 1 W rv t.rt) 22 rfl zk ?_;refine zin ⟨k0 (kE a1),(kS a1).cellsAdd,kl (kE a1),kr (kE a1)⟩ fun zS=>?_
 refine zrf 0 rfl zS rfl ?_;refine zrf 1 rfl zS rfl ?_
 refine zt 2 rfl zS (fun w1 a0=>RV.ld (by first|exact a0.1.fl 5 _ a4|exact a0.1.fr 5 _ a3|exact a0.2.1 0 _ rfl|exact slU a0.2.2.1 a8|exact slU a0.2.2.2 a6|exact slU a0.2.2.2 a5) rfl) ?_;refine zrf 3 rfl zS rfl ?_
 refine zt 4 rfl zS (fun w1 a0=>RV.ld (by first|exact a0.1.fl 5 _ a4|exact a0.1.fr 5 _ a3|exact a0.2.1 0 _ rfl|exact slU a0.2.2.1 a8|exact slU a0.2.2.2 a6|exact slU a0.2.2.2 a5) rfl) ?_;refine zr 5 rfl zS (fun _=>ai a'.sh KT (KU _) rfl rfl s.1 rfl zo) ?_
 refine zt 6 rfl zS (fun w1 a0=>RV.ld (by first|exact a0.1.fl 5 _ a4|exact a0.1.fr 5 _ a3|exact a0.2.1 0 _ rfl|exact slU a0.2.2.1 a8|exact slU a0.2.2.2 a6|exact slU a0.2.2.2 a5) rfl) ?_;refine zrm 7 rfl zS rfl ?_
 refine zrf 8 rfl zS rfl ?_;refine zrf 9 rfl zS rfl ?_
 refine zt 10 rfl zS (fun w1 a0=>RV.ld (by first|exact a0.1.fl 5 _ a4|exact a0.1.fr 5 _ a3|exact a0.2.1 0 _ rfl|exact slU a0.2.2.1 a8|exact slU a0.2.2.2 a6|exact slU a0.2.2.2 a5) rfl) ?_;refine zr 11 rfl zS (fun _=>ai a7.sh KT (KU _) rfl rfl 0 rfl zo) ?_
 refine zt 12 rfl zS (fun w1 a0=>RV.ld (by first|exact a0.1.fl 5 _ a4|exact a0.1.fr 5 _ a3|exact a0.2.1 0 _ rfl|exact slU a0.2.2.1 a8|exact slU a0.2.2.2 a6|exact slU a0.2.2.2 a5) rfl) ?_;refine zrf 13 rfl zS rfl ?_
 refine zrf 14 rfl zS rfl ?_;refine zt 15 rfl zS (fun w1 a0=>RV.ld (by first|exact a0.1.fl 5 _ a4|exact a0.1.fr 5 _ a3|exact a0.2.1 0 _ rfl|exact slU a0.2.2.1 a8|exact slU a0.2.2.2 a6|exact slU a0.2.2.2 a5) rfl) ?_
 refine zrm 16 rfl zS rfl ?_;refine zr 17 rfl zS (fun _=>ai a7.sh KT (KU _) rfl rfl (stR t 0 c) rfl zo) ?_
 refine zt 18 rfl zS (fun w1 a0=>RV.ld (by first|exact a0.1.fl 5 _ a4|exact a0.1.fr 5 _ a3|exact a0.2.1 0 _ rfl|exact slU a0.2.2.1 a8|exact slU a0.2.2.2 a6|exact slU a0.2.2.2 a5) rfl) ?_;refine zr 19 rfl zS (fun _=>oo (a:=nth t.rt 0) (b:=nth t.rt (stR t 0 c)) rfl rfl rfl rfl (by show _<=(18446744073709551615:Int);omega) (by show _<=(18446744073709551615:Int);omega)) ?_
 refine zr 20 rfl zS (fun _=>aF (cells:=(bI (ej t s c)).toArray) Cn (K0 _) rfl rfl rfl rfl) ?_;obtain⟨w4,c8⟩:∃W,W=b8.drew:=⟨_,rfl⟩
 rw[<-c8]at a1 ⊢;refine J0 21 zk rfl ?_;refine zsa (us:=(bI (ej t s c)).toArray) (kR a1) (JG _) ?_;have b6:=(kR a1).setRow (us:=(bI (ej t s c)).toArray);have b':Jr (fun q=>q=3) O3 w4 O3 (w4.setRow rb (bI (ej t s c)).toArray):=J6 zd (kR a1).tag rfl;have b4:=(kS a1).upd b' zd zd;have a2:=(kE a1).trans (b'.mono (fun _ h=>.inr h) b9);refine zh ?_;refine ae (⟨k0 a2,b4.cellsAdd,kl a2,kr a2⟩) ?_;refine Ji zk ?_;refine zh ?_;refine aK rfl rfl (b6.cellsAdd) (K8 _) (JG _) (⟨by simp,(b0.trans (a2.mono (fun _ h=>.inr h) hz)).ext⟩)
theorem tJ(w:ln)(hT:TbW w t gv lc rc)(ho:KK t)(s:Sd)(hs:OkSd t s)(c:Nat)(hc:c<37):Kx Jt 100 [xT t gv lc rc,.agg (bI s).toArray,nI (c:Nat)] w fun v w'=>v=.agg (bI (et t s c)).toArray/\JM w w':=by
 refine J1 func100 ntmps100 rfl rfl ?_;refine zh ?_
 refine aE (ar w) 1 zo rfl rfl ?_;intro tb w1 O1 c6 d3 d5 e0;refine aE d5 2 zo rfl rfl ?_
 intro sb w2 O2 c7 b' d4 d';refine aw d4 3 zo (K0 _) rfl ?_;intro rb w3 O3 c9 b5 d8 d9;have hg:=ho.gN hc;have d7:=ho.gl;have hz:¬(0=1\/0=2\/0=3):=zo;have a5:¬(0=2\/0=3):=zo;have b4:Jr (fun q=>q=1\/q=2\/q=3) (fun _=>0) w O3 w3:=((d3.mono (fun _ h=>.inl h) hz).trans (b'.mono (fun _ h=>.inr (.inl h)) hz)).trans (b5.mono (fun _ h=>.inr (.inr h)) hz);have tF:=dQ hT.g hT.l hT.r;have c5:∀ {W:ln},Jr (fun q=>q=2\/q=3) O3 w3 O3 W->TbW W t gv lc rc:=fun u'=>by have u:=b4.trans (u'.mono (fun _ h=>.inr h) hz);exact⟨hT.g.upd (tF _ (by simp)) u,hT.l.updF (fun v hv=>tF v (by simp[hv])) u,hT.r.updF (fun v hv=>tF v (by simp[hv])) u⟩
 have a9:=(c6.upd b' zd zd).upd b5 zd zd;have a':=c7.upd b5 zd zd;have k0:∀ {W:ln},Jr (fun q=>q=2\/q=3) O3 w3 O3 W->SeeT W tb t gv lc rc c:=fun u=>Ie ho hc (c5 u) (a9.upd u zd zo)
 have kE:∀ {W:ln},JM w3.drew W->Jr (fun q=>q=2\/q=3) O3 w3 O3 W:=fun e=>aa a5 O3 ((ka w3).drew.trans e)
 have kS:∀ {W:ln},JM w3.drew W->JX O3 W 2 sb (bI s).toArray 139:=fun e=>a'.upd (aa (S:=fun _=>False) (fun h=>h) O3 ((ka w3).drew.trans e)) zd (fun h=>h)
 have kR:∀ {W:ln},JM w3.drew W->JX O3 W 3 rb #[nI 0,.int .u64 0,nI 0,.int .u64 0] 139:=fun e=>c9.upd (aa (S:=fun _=>False) (fun h=>h) O3 ((ka w3).drew.trans e)) zd (fun h=>h)
 have d1:=hT.r.one.1;have b7:=ho.rN hs.right hc;have a8:=ka w3.drew;have e2:w3.drew.cell? (nA sb 2)=some (nI (s.2.2.1:Int)):=(kS a8).cellsAdd 2 _ rfl;refine zh ?_;refine aG (fun W=>SeeT W tb t gv lc rc c) 12 rfl zk ?_;refine zin (k0 (kE a8)) fun zS=>?_
 refine zrf 0 rfl zS rfl ?_;refine zt 1 rfl zS (fun w1 a0=>af (us:=rc) a0.fr (Lq _) (by rw[d1];exact L6 _) rfl) ?_
 refine zrf 2 rfl zS rfl ?_;refine zrf 4 rfl zS rfl ?_
 refine zt 5 rfl zS (fun w1 a0=>RV.ld (by first|exact a0.fg|exact a0.fc) rfl) ?_;refine zrm 6 rfl zS rfl ?_
 refine zr 7 rfl zS (fun _=>ai hT.g.sh Jj (Ju _) rfl rfl c rfl zo) ?_;refine zt 8 rfl zS (fun w1 a0=>RV.ld (by first|exact a0.fg|exact a0.fc) rfl) ?_
 refine J0 3 zk rfl ?_;refine zvH (RV.ld e2 rfl) ?_
 refine ae ((k0 (kE a8))) ?_;refine J0 9 zk rfl ?_
 refine zc LY (gZ rc t.right t.rt s.2.2.1 (grT t c) w3.drew (c5 (kE a8)).r ho.okr hs.right hg.2) ?_;rintro _ w4 ⟨rfl,a2⟩;rw[b7.1];refine zh ?_
 refine ae ((k0 (kE a2))) ?_;obtain⟨r,hr⟩:∃r,r=stR t s.2.2.1 c:=⟨_,rfl⟩
 rw[<-hr]at b7 ⊢;refine zrf 10 rfl ((k0 (kE a2))) rfl ?_;refine J0 11 zk rfl ?_;refine aj (j:=2) (kS a2) (show _=some (nI (s.2.2.1:Int))from rfl) (Ju _) rfl rfl rfl rfl ?_;have c8:JX O3 (w4.setCell ⟨sb,2,none⟩ (nI (r:Int))) 2 sb #[nI (s.1:Int),.int .u64 (s.2.1:Int),nI (r:Int),.int .u64 (s.2.2.2:Int)] 139:=(kS a2).set 2 (nI (r:Int));have b9:Jr (fun q=>q=2) O3 w4 O3 (w4.setCell ⟨sb,2,none⟩ (nI (r:Int))):=Jp zd (kS a2).tag rfl;have c':=(kR a2).upd b9 zd zd;have a4:=(kE a2).trans (b9.mono (fun _ h=>.inl h) a5);refine zh ?_;refine ae ((k0 a4)) ?_;generalize w4.setCell ⟨sb,2,none⟩ (nI (r:Int))=w5 at *;obtain⟨rv,a6,a3⟩:=hT.r.tv;have kr:∀ {W:ln},Jr (fun q=>q=2\/q=3) O3 w3 O3 W->Sl fK 1 W rv t.rt:=fun u=>a3.upd (tF rv (by simp[Kr a6])) (b4.trans (u.mono (fun _ h=>.inr h) hz))
 have d6:=ho.rl;have a7:r<t.rt.length:=zo;have b1:=hs.beh;have b2:=ho.rt _ (aI a7);have d0:(2^40:Nat)=1099511627776:=zd;have hs5d:=c8.drew;have e3:w5.drew.cell? (nA sb 3)=some (.int .u64 (s.2.2.2:Int)):=hs5d.cellsAdd 3 _ rfl;have hU35d:Jr (fun q=>q=2\/q=3) O3 w3 O3 w5.drew:=a4.drew;refine Ji zk ?_;refine zh ?_;refine aG (fun W=>SeeT W tb t gv lc rc c/\W.cell? (nA sb 2)=some (nI (r:Int))/\Sl fK 1 W rv t.rt) 12 rfl zk ?_;refine zin ⟨k0 hU35d,hs5d.cellsAdd 2 _ rfl,kr hU35d⟩ fun zS=>?_
 refine zrf 0 rfl zS rfl ?_;refine zrf 2 rfl zS rfl ?_
 refine zrf 3 rfl zS rfl ?_;refine zt 4 rfl zS (fun w1 a0=>RV.ld (by first|exact a0.1.fr 5 _ a6|exact a0.2.1|exact slU a0.2.2 a7) rfl) ?_
 refine zrf 5 rfl zS rfl ?_;refine zt 6 rfl zS (fun w1 a0=>RV.ld (by first|exact a0.1.fr 5 _ a6|exact a0.2.1|exact slU a0.2.2 a7) rfl) ?_
 refine zr 7 rfl zS (fun _=>ai a3.sh KT (KU _) rfl rfl r rfl zo) ?_;refine zt 8 rfl zS (fun w1 a0=>RV.ld (by first|exact a0.1.fr 5 _ a6|exact a0.2.1|exact slU a0.2.2 a7) rfl) ?_
 refine J0 1 zk rfl ?_;refine zvH (RV.ld e3 rfl) ?_
 refine zaf (⟨k0 hU35d,hs5d.cellsAdd 2 _ rfl,kr hU35d⟩) fun zS=>?_
 refine zr 9 rfl zS (fun _=>oo (a:=s.2.2.2) (b:=nth t.rt r) rfl rfl rfl rfl (by show _<=(18446744073709551615:Int);omega) (by show _<=(18446744073709551615:Int);omega)) ?_;refine zrf 10 rfl zS rfl ?_
 refine J0 11 zk rfl ?_;refine aj (j:=3) hs5d (show _=some (L2 .u64 (s.2.2.2:Int))from rfl) (KU _) rfl rfl rfl rfl ?_
 have hG:et t s c=(s.1,s.2.1,r,s.2.2.2 ||| nth t.rt r):=by rw[hr];rfl
 have b6:JX O3 (w5.drew.setCell ⟨sb,3,none⟩ (.int .u64 ((s.2.2.2 ||| nth t.rt r:Nat):Int))) 2 sb (bI (et t s c)).toArray 139:=by rw[hG];exact hs5d.set 3 (.int .u64 ((s.2.2.2 ||| nth t.rt r:Nat):Int))
 have b8:Jr (fun q=>q=2) O3 w5.drew O3 (w5.drew.setCell ⟨sb,3,none⟩ (.int .u64 ((s.2.2.2 ||| nth t.rt r:Nat):Int))):=Jp zd hs5d.tag rfl;have b3:=c'.drew.upd b8 zd zd;have a1:=hU35d.trans (b8.mono (fun _ h=>.inl h) a5);have q2:(w5.drew.setCell ⟨sb,3,none⟩ (.int .u64 ((s.2.2.2 ||| nth t.rt r:Nat):Int))).cell? (nA sb 2)=some (nI (r:Int)):=by have:=b6.cellsAdd 2 (nI (r:Int)) (by rw[hG];rfl);exact this
 refine zh ?_;refine ae (⟨k0 a1,q2,kr a1⟩) ?_
 generalize w5.drew.setCell ⟨sb,3,none⟩ (.int .u64 ((s.2.2.2 ||| nth t.rt r:Nat):Int))=w6 at *;refine Ji zk ?_;refine zh ?_;refine zv (af (us:=bI (et t s c)) (by simpa using b6.cellsAdd) (K8 _) (JG _) rfl) ?_;refine zsa (us:=(bI (et t s c)).toArray) b3 (JG _) ?_;have b0:=b3.setRow (us:=(bI (et t s c)).toArray);have d2:Jr (fun q=>q=3) O3 w6 O3 (w6.setRow rb (bI (et t s c)).toArray):=J6 zd b3.tag rfl;refine zh ?_;refine aK rfl rfl (b0.cellsAdd) (K8 _) (JG _) (⟨by simp,(b4.trans ((a1.trans (d2.mono (fun _ h=>.inr h) a5)).mono (fun _ h=>.inr h) hz)).ext⟩)
theorem nT(w:ln)(_:TbW w t gv lc rc)(ho:KK t)(a0:Nat)(hb:a0<2^40)(hB:cP w):Kx Jt 98 [xT t gv lc rc,.int .u64 (a0:Nat)] w fun v w'=>v=.bool (Dy t a0)/\JM w w':=by
 have a5:(2^40:Nat)=1099511627776:=zd;have a8:=ho.br;have hg:=od hB;refine J1 func98 ntmps98 rfl rfl ?_;refine zh ?_;refine aE (ar w) 1 zo rfl rfl ?_;intro tb w1 O1 a4 a9 a' a2;have a7:cP w1:=bf hB a2;have b0:=ka w1.drew;have e2:w1.drew.cell? (nA tb 2)=some (.int .u64 (t.br:Int)):=a4.drew.cellsAdd 2 _ rfl;have hB1d:cP w1.drew:=bf a7 (ka w1).drew;refine zh ?_;refine aG (fun W=>W.cell? (nA tb 2)=some (.int .u64 (t.br:Int))) 10 rfl zk ?_;refine zrm 0 rfl e2 rfl ?_;refine zr 1 rfl e2 (fun _=>RV.eql rfl rfl) ?_;refine zrm 2 rfl e2 rfl ?_
 by_cases h0:a0=0
 ·subst h0;refine fm (d:=7) rfl (b':=true) (rfl) ?_;refine zte 3 rfl rfl e2 ?_;refine zte 4 rfl rfl e2 ?_;refine zte 5 rfl rfl e2 ?_;refine zte 6 rfl rfl e2 ?_;refine zte 7 rfl rfl e2 ?_;refine zr 8 rfl e2 (fun _=>bB rfl rfl) ?_;refine zra 9 rfl e2 rfl ?_;refine Ji zk ?_;refine zh ?_;refine ah rfl rfl (⟨rfl,a2.trans (ka w1).drew⟩)
 obtain⟨_,hk⟩:=Lib.lowest_bit 64 a0 h0 zo;have a6:Dy t a0=t.br.testBit (MN 64 a0):=by unfold Dy;rw[beq_eq_false_iff_ne.2 h0,Bool.false_or]
 refine fm (d:=7) rfl (b':=false) ((beq_eq_false_iff_ne.2 zo)) ?_;refine zro 3 rfl e2 (fun _=>RV.fa rfl) ?_
 refine zto 4 rfl e2 (fun w1 a3=>RV.ld a3 rfl) ?_;refine zro 5 rfl e2 (fun _=>Jo rfl) ?_
 refine J0 6 zk rfl ?_;refine gn rfl ?_
 refine zc call90 (Dh a0 w1.drew zo h0 hB1d) ?_;rintro _ w2 ⟨rfl,a1⟩;rw[a1];clear a1 w2;refine zh ?_
 refine ae (e2) ?_;refine J0 7 zk rfl ?_
 refine gn rfl ?_;refine zc MO (rk t.br (MN 64 a0) w1.drew zo hk) ?_
 rintro _ w2 ⟨rfl,a1⟩;rw[a1];clear a1 w2;refine zh ?_;refine ae (e2) ?_;refine zr 8 rfl (e2) (fun _=>bC rfl rfl) ?_;refine zra 9 rfl (e2) rfl ?_;refine Ji zk ?_;refine zh ?_;refine ah rfl rfl (⟨by rw[a6],a2.trans (ka w1).drew⟩)
end
theorem Cm:ck Jt 141 #[(0,4),(4,4),(8,1),(9,1),(10,1)]:=⟨_,K6,fun w=>by kernel_rfl⟩
theorem FB:Elem Jt 143 141 11 80:=⟨Le,by kernel_rfl,zd⟩
structure SeaR(w:ln)(xb:Nat)(x y:JA)(gx:ix)(lx rx:List ix)(gy:ix)(ly ry:List ix)(mv lv:ix):Prop where
 c:∀(j:Nat) (u:ix),(bn x.ig x.kp x.br x.rules gx lx rx++(bn y.ig y.kp y.br y.rules gy ly ry++[mv,lv]))[j]? = some u->w.cell? (nA xb j)=some u
 tx:TbW w x gx lx rx
 ty:TbW w y gy ly ry
section
variable{w:ln}{xb:Nat}{x y:JA}{gx:ix}{lx rx:List ix}{gy:ix}{ly ry:List ix}{mv lv:ix}
theorem SeaR.ext{w':ln}(h:SeaR w xb x y gx lx rx gy ly ry mv lv)(e:JM w w'):SeaR w' xb x y gx lx rx gy ly ry mv lv:=⟨fun j u hu=>e.cell (h.c j u hu),h.tx.ext e,h.ty.ext e⟩
theorem SeaR.cx(h:SeaR w xb x y gx lx rx gy ly ry mv lv):∀(j:Nat) (u:ix),(bn x.ig x.kp x.br x.rules gx lx rx)[j]? = some u->w.cell? ((nA xb 0).add j)=some u:=fun j u hu=>by
 rw[Jz,L9];refine h.c j u ?_;rw[Jw (Jv.1 hu).1];exact hu
theorem SeaR.cyl(h:SeaR w xb x y gx lx rx gy ly ry mv lv):∀(j:Nat) (u:ix),(bn y.ig y.kp y.br y.rules gy ly ry++[mv,lv])[j]? = some u->w.cell? ((⟨xb,0,none⟩:Addr).add (17+j))=some u:=fun j u hu=>by
 refine h.c (17+j) u ?_;have hl:=h.tx.len;rw[Jh zo,hl,Nat.add_sub_cancel_left]
 exact hu
theorem SeaR.cy(h:SeaR w xb x y gx lx rx gy ly ry mv lv):∀(j:Nat) (u:ix),(bn y.ig y.kp y.br y.rules gy ly ry)[j]? = some u->w.cell? ((nA xb 17).add j)=some u:=fun j u hu=>by
 rw[Jz];refine h.cyl j u ?_;rw[Jw (Jv.1 hu).1];exact hu
theorem SeaR.cm(h:SeaR w xb x y gx lx rx gy ly ry mv lv):w.cell? (nA xb 34)=some mv:=h.cyl 17 mv (by rw[Jh (by rw[h.ty.len];omega),h.ty.len];rfl)
theorem SeaR.cl(h:SeaR w xb x y gx lx rx gy ly ry mv lv):w.cell? (nA xb 35)=some lv:=h.cyl 18 lv (by rw[Jh (by rw[h.ty.len];omega),h.ty.len];rfl)
def StR(W:ln)(sb:Nat)(s:Df):Prop:=∀(j:Nat) (u:ix),(bM s)[j]? = some u->W.cell? (nA sb j)=some u
theorem StR.a{sb:Nat}{s:Df}(h:StR w sb s):∀(j:Nat) (u:ix),(bI s.1)[j]? = some u->w.cell? ((nA sb 0).add j)=some u:=fun j u hu=>by
 rw[Jz,L9];refine h j u ?_;rw[show bM s=bI s.1++(bI s.2.1++[.bool s.2.2.1,.bool s.2.2.2.1,nI (s.2.2.2.2:Int)])from rfl,Jw (Jv.1 hu).1];exact hu
theorem StR.b{sb:Nat}{s:Df}(h:StR w sb s):∀(j:Nat) (u:ix),(bI s.2.1)[j]? = some u->w.cell? ((nA sb 4).add j)=some u:=fun j u hu=>by
 rw[Jz];refine h (4+j) u ?_;rw[show bM s=bI s.1++(bI s.2.1++[.bool s.2.2.1,.bool s.2.2.2.1,nI (s.2.2.2.2:Int)])from rfl,Jh (by show 4<=4+j;omega),show 4+j-(bI s.1).length=j from by show 4+j-4=j;omega,Jw (Jv.1 hu).1];exact hu
theorem iz{O:Nat->Nat}{i sb:Nat}{E:Mq}{s:Df}(h:JX O w i sb (bM s).toArray E):StR w sb s:=fun j u hu=>h.cellsAdd j u (by simpa using hu)
theorem StR.ext{w':ln}{sb:Nat}{s:Df}(h:StR w sb s)(e:JM w w'):StR w' sb s:=fun j u hu=>e.cell (h j u hu)
theorem yA(h:SeaR w xb x y gx lx rx gy ly ry mv lv)(hx:KK x)(hy:KK y)(s:Df)(h1:OkSd x s.1)(h2:OkSd y s.2.1)(hB:cP w):
  Kx Jt 56 [nP xb,.agg (bM s).toArray] w fun v w'=>v=.bool (dW x y s)/\JM w w':=by
 have a8:(2^40:Nat)=1099511627776:=zd;have a1:=h1.told;have a2:=h1.beh;have a3:=h2.told;have a4:=h2.beh;refine J1 func56 ntmps56 rfl rfl ?_;refine zh ?_;refine aE (ar w) 1 zo rfl rfl ?_;intro sb w1 O1 a7 a' b0 a9;refine zh ?_;have kW:∀ {W:ln},JM w1.drew W->JM w W:=fun e=>a9.trans ((ka w1).drew.trans e)
 have sc:StR w1.drew sb s:=iz a7.drew;refine aG (fun W=>JM w1.drew W) 31 rfl zk ?_;refine zin (ka _) fun zS=>?_
 refine zrf 0 rfl zS rfl ?_;refine zt 1 rfl zS (fun w1 a0=>RV.ld (by first|exact sc.ext a0 10 _ rfl|exact(sc.ext a0).a 1 _ rfl|exact(sc.ext a0).a 3 _ rfl|exact(sc.ext a0).b 1 _ rfl|exact(sc.ext a0).b 3 _ rfl) rfl) ?_
 refine zr 2 rfl zS (fun _=>RV.gtr rfl rfl) ?_;refine zrm 3 rfl zS rfl ?_
 by_cases h0:0<s.2.2.2.2
 ·refine fm (d:=8) rfl (b':=true) ((decide_eq_true zo)) ?_;refine zin (ka _) fun zS=>?_
  refine zro 4 rfl zS (fun _=>Jo rfl) ?_;refine zro 5 rfl zS (fun _=>ao rfl) ?_
  refine zro 6 rfl zS (fun _=>RV.fa rfl) ?_;refine zto 7 rfl zS (fun w1 a0=>af (us:=bn x.ig x.kp x.br x.rules gx lx rx) (h.ext (kW a0)).cx (Jk _) (by rw[h.tx.len];exact J3 _) rfl) ?_
  refine zro 8 rfl zS (fun _=>RV.fa rfl) ?_;refine zro 9 rfl zS (fun _=>RV.fa rfl) ?_
  refine zto 10 rfl zS (fun w1 a0=>RV.ld (by first|exact sc.ext a0 10 _ rfl|exact(sc.ext a0).a 1 _ rfl|exact(sc.ext a0).a 3 _ rfl|exact(sc.ext a0).b 1 _ rfl|exact(sc.ext a0).b 3 _ rfl) rfl) ?_;refine zro 11 rfl zS (fun _=>RV.fa rfl) ?_
  refine zro 12 rfl zS (fun _=>RV.fa rfl) ?_;refine zto 13 rfl zS (fun w1 a0=>RV.ld (by first|exact sc.ext a0 10 _ rfl|exact(sc.ext a0).a 1 _ rfl|exact(sc.ext a0).a 3 _ rfl|exact(sc.ext a0).b 1 _ rfl|exact(sc.ext a0).b 3 _ rfl) rfl) ?_
  refine zro 14 rfl zS (fun _=>lV (a:=s.1.2.1) (b:=s.1.2.2.2) rfl rfl rfl rfl (by show _<=(18446744073709551615:Int);omega) (by show _<=(18446744073709551615:Int);omega)) ?_;refine zro 16 rfl zS (fun _=>Jo rfl) ?_
  refine zro 17 rfl zS (fun _=>ao rfl) ?_;refine zro 18 rfl zS (fun _=>RV.fa rfl) ?_
  refine zto 19 rfl zS (fun w1 a0=>af (us:=bn y.ig y.kp y.br y.rules gy ly ry) (h.ext (kW a0)).cy (Jk _) (by rw[h.ty.len];exact J3 _) rfl) ?_;refine zro 20 rfl zS (fun _=>RV.fa rfl) ?_
  refine zro 21 rfl zS (fun _=>RV.fa rfl) ?_;refine zto 22 rfl zS (fun w1 a0=>RV.ld (by first|exact sc.ext a0 10 _ rfl|exact(sc.ext a0).a 1 _ rfl|exact(sc.ext a0).a 3 _ rfl|exact(sc.ext a0).b 1 _ rfl|exact(sc.ext a0).b 3 _ rfl) rfl) ?_
  refine zro 23 rfl zS (fun _=>RV.fa rfl) ?_;refine zro 24 rfl zS (fun _=>RV.fa rfl) ?_
  refine zto 25 rfl zS (fun w1 a0=>RV.ld (by first|exact sc.ext a0 10 _ rfl|exact(sc.ext a0).a 1 _ rfl|exact(sc.ext a0).a 3 _ rfl|exact(sc.ext a0).b 1 _ rfl|exact(sc.ext a0).b 3 _ rfl) rfl) ?_;refine zro 26 rfl zS (fun _=>lV (a:=s.2.1.2.1) (b:=s.2.1.2.2.2) rfl rfl rfl rfl (by show _<=(18446744073709551615:Int);omega) (by show _<=(18446744073709551615:Int);omega)) ?_
  refine J0 15 zk rfl ?_;refine gn rfl ?_
  refine zc call98 (nT w1.drew (h.ext (kW (ka _))).tx hx (s.1.2.1 &&& s.1.2.2.2) (Lv LQ a1) (bf hB (kW (ka _)))) ?_;rintro _ w2 ⟨rfl,a5⟩;refine zh ?_
  refine ae (a5) ?_;refine J0 27 zk rfl ?_
  refine gn rfl ?_;refine zc call98 (nT w2 (h.ext (kW a5)).ty hy (s.2.1.2.1 &&& s.2.1.2.2.2) (Lv LQ a3) (bf hB (kW a5))) ?_
  rintro _ w3 ⟨rfl,a6⟩;refine zh ?_;refine zaf ((a5.trans a6)) fun zS=>?_
  refine zro 28 rfl zS (fun _=>FM L1 rfl rfl) ?_;refine zr 29 rfl zS (fun _=>bB rfl rfl) ?_
  refine zra 30 rfl zS rfl ?_;refine Ji zk ?_
  refine zh ?_;refine ah rfl rfl (⟨by unfold dW;rw[decide_eq_true h0];rfl,kW (a5.trans a6)⟩)
 refine fm (d:=8) rfl (b':=false) ((decide_eq_false zo)) ?_;refine zin (ka _) fun zS=>?_
 refine zte 4 rfl rfl zS ?_;refine zte 5 rfl rfl zS ?_
 refine zte 6 rfl rfl zS ?_;refine zte 7 rfl rfl zS ?_
 refine zte 8 rfl rfl zS ?_;refine zte 9 rfl rfl zS ?_
 refine zte 10 rfl rfl zS ?_;refine zte 11 rfl rfl zS ?_
 refine zte 12 rfl rfl zS ?_;refine zte 13 rfl rfl zS ?_
 refine zte 14 rfl rfl zS ?_;refine zte 15 rfl rfl zS ?_
 refine zte 16 rfl rfl zS ?_;refine zte 17 rfl rfl zS ?_
 refine zte 18 rfl rfl zS ?_;refine zte 19 rfl rfl zS ?_
 refine zte 20 rfl rfl zS ?_;refine zte 21 rfl rfl zS ?_
 refine zte 22 rfl rfl zS ?_;refine zte 23 rfl rfl zS ?_
 refine zte 24 rfl rfl zS ?_;refine zte 25 rfl rfl zS ?_
 refine zte 26 rfl rfl zS ?_;refine zte 27 rfl rfl zS ?_
 refine zte 28 rfl rfl zS ?_;refine zr 29 rfl zS (fun _=>bC rfl rfl) ?_
 refine zra 30 rfl zS rfl ?_;refine Ji zk ?_
 refine zh ?_;refine ah rfl rfl (⟨by unfold dW;rw[decide_eq_false h0];rfl,kW (ka _)⟩)
theorem vl(h:SeaR w xb x y gx lx rx gy ly ry mv lv)(hx:KK x)(hy:KK y)(s:Df)(h1:OkSd x s.1)(h2:OkSd y s.2.1)(c:Nat)(hc:c<36):
  Kx Jt 57 [nP xb,.agg (bM s).toArray,nI (c:Nat)] w fun v w'=>Sl bM 11 w' v (rh x y s c)/\JM w w':=by
 have d5:(2^36:Nat)=68719476736:=zd;have d':=hx.kp;have e0:=hx.ig;refine J1 func57 ntmps57 rfl rfl ?_;refine zh ?_;refine aE (ar w) 1 zo rfl rfl ?_;intro sb w1 O1 b8 c' d1 c8;have sc:StR w1 sb s:=iz b8;have a1:=h.ext c8;refine zh ?_;refine zvH (RV.ld (by first|exact a1.cx 0 _ rfl|exact a1.cx 1 _ rfl|exact sc 8 _ rfl|exact sc 9 _ rfl|exact sc 10 _ rfl) rfl) ?_;refine zc MO (rk x.kp c w1 zo zo) ?_;rintro _ wz ⟨rfl,b2⟩;rw[b2];clear b2 wz;generalize d6:x.kp.testBit c=kc;refine zh ?_;refine zvH (RV.ld (by first|exact a1.cx 0 _ rfl|exact a1.cx 1 _ rfl|exact sc 8 _ rfl|exact sc 9 _ rfl|exact sc 10 _ rfl) rfl) ?_;refine bG (fun w1=>_=w1) (!s.2.2.2.1) 3 (rfl) rfl rfl rfl rfl rfl ?_ ?_
 ·intro hb;refine zh ?_;refine zvH (RV.ld (by first|exact a1.cx 0 _ rfl|exact a1.cx 1 _ rfl|exact sc 8 _ rfl|exact sc 9 _ rfl|exact sc 10 _ rfl) rfl) ?_;refine nE 19 4 (rfl) hb
 rintro _ rfl;refine zh ?_;refine bG (fun w1=>_=w1) (x.ig.testBit c) 7 (rfl) rfl rfl rfl rfl rfl ?_ ?_
 ·intro d8;refine zh ?_;refine zvH (RV.ld (by first|exact a1.cx 0 _ rfl|exact a1.cx 1 _ rfl|exact sc 8 _ rfl|exact sc 9 _ rfl|exact sc 10 _ rfl) rfl) ?_;refine zc MO (rk x.ig c w1 zo zo) ?_;rintro _ wz ⟨rfl,b2⟩;rw[b2];clear b2 wz;refine zh ?_;refine nE 24 8 (rfl) d8
 rintro _ rfl;refine zh ?_;have hF:rh x y s c=if((s.2.2.1 && !s.2.2.2.1)&&x.ig.testBit c)=true then []else if 0<s.2.2.2.2/\s.2.2.2.2<4 then [(et x s.1 c,et y s.2.1 c,true,kc,s.2.2.2.2+1)]else if 0<s.2.2.2.2 then []else(lu x s.1 c,lu y s.2.1 c,true,kc,0)::(if s.2.2.1=true then [(ej x s.1 c,ej y s.2.1 c,true,kc,1)]else []):=by unfold rh;rw[d6,Bool.and_assoc]
 rw[hF];clear hF;refine zC ?_ ?_
 ·intro hh;rw[if_pos hh];refine zh ?_;refine ah rfl rfl (⟨(JJ _ 141 _ O1 w1 1).sl,c8⟩)
 intro hh;rw[if_neg (by rw[hh];decide)];refine zh ?_;refine zvH (RV.ld (by first|exact a1.cx 0 _ rfl|exact a1.cx 1 _ rfl|exact sc 8 _ rfl|exact sc 9 _ rfl|exact sc 10 _ rfl) rfl) ?_;refine bG (fun w1=>_=w1) (decide ((s.2.2.2.2:Int)<4)) 3 (rfl) rfl rfl rfl rfl rfl ?_ ?_
 ·intro d7;refine zh ?_;refine zvH (RV.ld (by first|exact a1.cx 0 _ rfl|exact a1.cx 1 _ rfl|exact sc 8 _ rfl|exact sc 9 _ rfl|exact sc 10 _ rfl) rfl) ?_;refine nE 37 4 (rfl) d7
 rintro _ rfl;refine zh ?_;refine zC ?_ ?_
 ·intro hg;have b9:0<s.2.2.2.2/\s.2.2.2.2<4:=by simp only[JP,decide_eq_true_eq]at hg;omega
  rw[if_pos b9];refine zh ?_;refine aG (fun W=>SeaR W xb x y gx lx rx gy ly ry mv lv/\StR W sb s) 23 rfl zk ?_;refine zin ⟨a1.ext (ka w1).drew,sc.ext (ka w1).drew⟩ fun zS=>?_
  refine zrm 0 rfl zS rfl ?_;refine zr 1 rfl zS (fun _=>ao rfl) ?_
  refine zrf 2 rfl zS rfl ?_;refine zt 3 rfl zS (fun w1 a0=>af (us:=bn x.ig x.kp x.br x.rules gx lx rx) a0.1.cx (Jk _) (by rw[h.tx.len];exact J3 _) rfl) ?_
  refine zrf 4 rfl zS rfl ?_;refine zt 5 rfl zS (fun w1 a0=>af (us:=bI s.1) a0.2.a (K8 _) (JG _) rfl) ?_
  refine zrm 6 rfl zS rfl ?_;refine zrm 8 rfl zS rfl ?_
  refine zr 9 rfl zS (fun _=>ao rfl) ?_;refine zrf 10 rfl zS rfl ?_
  refine zt 11 rfl zS (fun w1 a0=>af (us:=bn y.ig y.kp y.br y.rules gy ly ry) a0.1.cy (Jk _) (by rw[h.ty.len];exact J3 _) rfl) ?_;refine zrf 12 rfl zS rfl ?_
  refine zt 13 rfl zS (fun w1 a0=>af (us:=bI s.2.1) a0.2.b (K8 _) (JG _) rfl) ?_;refine zrm 14 rfl zS rfl ?_
  refine zrm 16 rfl zS rfl ?_;refine zrf 17 rfl zS rfl ?_
  refine zt 18 rfl zS (fun w1 a0=>RV.ld (a0.2 10 _ rfl) rfl) ?_;refine zr 19 rfl zS (fun _=>KH rfl rfl (Kk zo)) ?_
  refine J0 7 zk rfl ?_;refine zc call100 (tJ w1.drew (a1.ext (ka w1).drew).tx hx s.1 h1 c zo) ?_
  rintro _ w2 ⟨rfl,b0⟩;have a5:=(ka w1).drew.trans b0;refine zh ?_;refine ae (⟨a1.ext a5,sc.ext a5⟩) ?_;refine J0 15 zk rfl ?_;refine zc call100 (tJ w2 (a1.ext a5).ty hy s.2.1 h2 c zo) ?_;rintro _ w3 ⟨rfl,a'⟩;have a3:=a5.trans a';refine zh ?_;refine ae (⟨a1.ext a3,sc.ext a3⟩) ?_;have b4:=aa (S:=fun q=>q=1\/q=2) zo O1 a3;refine zr 20 rfl (⟨a1.ext a3,sc.ext a3⟩) (fun _=>JS (cells:=(bM (et x s.1 c,et y s.2.1 c,true,kc,s.2.2.2.2+1)).toArray) Cm (Kb _) rfl zk) ?_;refine J0 21 zk rfl ?_;refine iu FB (enc:=bM) (et x s.1 c,et y s.2.1 c,true,kc,s.2.2.2.2+1) (d1.upd b4) 2 zd rfl rfl rfl zd rfl ?_;intro v w4 O4 hv b5 d0;have a4:=(b8.upd (aa (S:=fun _=>False) (fun h=>h) O1 a3) zd (fun h=>h)).upd b5 zd zd;have a2:Jr (fun q=>q=1\/q=2) (fun _=>0) w O4 w4:=((c'.mono (fun _ h=>.inl h) zo).trans b4).trans (b5.mono (fun _ h=>.inr h) zo);refine zh ?_;refine ae (⟨h.ext a2.ext,iz a4⟩) ?_;refine zra 22 rfl (⟨h.ext a2.ext,iz a4⟩) rfl ?_;refine Ji zk ?_;refine zh ?_;refine ah rfl rfl (⟨hv.sl,a2.ext⟩)
 intro hg;have b9:¬(0<s.2.2.2.2/\s.2.2.2.2<4):=fun hq=>by rw[Bool.and_eq_false_iff]at hg;rcases hg with hg|hg<;>simp only[decide_eq_false_iff_not]at hg<;>omega
 rw[if_neg b9];refine zh ?_;refine zvH (RV.ld (sc 10 _ rfl) rfl) ?_;refine zC ?_ ?_
 ·intro hz;rw[if_pos (by simp only[decide_eq_true_eq]at hz;omega)];refine zh ?_;refine ah rfl rfl (⟨(JJ _ 141 _ O1 w1 1).sl,c8⟩)
 intro hz;rw[if_neg (by simp only[decide_eq_false_iff_not]at hz;omega)];refine zh ?_;refine aG (fun W=>SeaR W xb x y gx lx rx gy ly ry mv lv/\StR W sb s) 20 rfl zk ?_;refine zin ⟨a1.ext (ka w1).drew,sc.ext (ka w1).drew⟩ fun zS=>?_
 refine zrm 0 rfl zS rfl ?_;refine zr 1 rfl zS (fun _=>ao rfl) ?_
 refine zrf 2 rfl zS rfl ?_;refine zt 3 rfl zS (fun w1 a0=>af (us:=bn x.ig x.kp x.br x.rules gx lx rx) a0.1.cx (Jk _) (by rw[h.tx.len];exact J3 _) rfl) ?_
 refine zrf 4 rfl zS rfl ?_;refine zt 5 rfl zS (fun w1 a0=>af (us:=bI s.1) a0.2.a (K8 _) (JG _) rfl) ?_
 refine zrm 6 rfl zS rfl ?_;refine zrm 8 rfl zS rfl ?_
 refine zr 9 rfl zS (fun _=>ao rfl) ?_;refine zrf 10 rfl zS rfl ?_
 refine zt 11 rfl zS (fun w1 a0=>af (us:=bn y.ig y.kp y.br y.rules gy ly ry) a0.1.cy (Jk _) (by rw[h.ty.len];exact J3 _) rfl) ?_;refine zrf 12 rfl zS rfl ?_
 refine zt 13 rfl zS (fun w1 a0=>af (us:=bI s.2.1) a0.2.b (K8 _) (JG _) rfl) ?_;refine zrm 14 rfl zS rfl ?_
 refine zrm 16 rfl zS rfl ?_;refine J0 7 zk rfl ?_
 refine zc call101 (nQ w1.drew (a1.ext (ka w1).drew).tx hx s.1 h1 c zo) ?_;rintro _ w2 ⟨rfl,b0⟩;have a5:=(ka w1).drew.trans b0;refine zh ?_
 refine ae (⟨a1.ext a5,sc.ext a5⟩) ?_;refine J0 15 zk rfl ?_
 refine zc call101 (nQ w2 (a1.ext a5).ty hy s.2.1 h2 c zo) ?_;rintro _ w3 ⟨rfl,a'⟩;have a3:=a5.trans a';refine zh ?_
 refine ae (⟨a1.ext a3,sc.ext a3⟩) ?_;have b4:=aa (S:=fun q=>q=1\/q=2\/q=3) zo O1 a3;refine zr 17 rfl (⟨a1.ext a3,sc.ext a3⟩) (fun _=>JS (cells:=(bM (lu x s.1 c,lu y s.2.1 c,true,kc,0)).toArray) Cm (Kb _) rfl zk) ?_
 refine J0 18 zk rfl ?_;refine iu FB (enc:=bM) (lu x s.1 c,lu y s.2.1 c,true,kc,0) (d1.upd b4) 2 zd rfl rfl rfl zd rfl ?_
 intro v w4 O4 hv b5 d0;have a4:=(b8.upd (aa (S:=fun _=>False) (fun h=>h) O1 a3) zd (fun h=>h)).upd b5 zd zd;have a2:Jr (fun q=>q=1\/q=2\/q=3) (fun _=>0) w O4 w4:=((c'.mono (fun _ h=>.inl h) zo).trans b4).trans (b5.mono (fun _ h=>.inr (.inl h)) zo);have a6:=h.ext a2.ext;have a7:=iz a4;refine zh ?_;refine ae (⟨a6,a7⟩) ?_;refine zra 19 rfl (⟨a6,a7⟩) rfl ?_;refine Ji zk ?_;refine zh ?_;refine zvH (RV.ld (a7 8 _ rfl) rfl) ?_;refine zC ?_ ?_
 ·intro hbg;rw[if_pos hbg];have e4:=(ka w4).drew;refine aG (fun W=>SeaR W xb x y gx lx rx gy ly ry mv lv/\StR W sb s) 22 rfl zk ?_;refine zin ⟨a6.ext e4,a7.ext e4⟩ fun zS=>?_
  refine zrm 0 rfl zS rfl ?_;refine zrm 1 rfl zS rfl ?_
  refine zr 2 rfl zS (fun _=>ao rfl) ?_;refine zrf 3 rfl zS rfl ?_
  refine zt 4 rfl zS (fun w1 a0=>af (us:=bn x.ig x.kp x.br x.rules gx lx rx) a0.1.cx (Jk _) (by rw[h.tx.len];exact J3 _) rfl) ?_;refine zrf 5 rfl zS rfl ?_
  refine zt 6 rfl zS (fun w1 a0=>af (us:=bI s.1) a0.2.a (K8 _) (JG _) rfl) ?_;refine zrm 7 rfl zS rfl ?_
  refine zrm 9 rfl zS rfl ?_;refine zr 10 rfl zS (fun _=>ao rfl) ?_
  refine zrf 11 rfl zS rfl ?_;refine zt 12 rfl zS (fun w1 a0=>af (us:=bn y.ig y.kp y.br y.rules gy ly ry) a0.1.cy (Jk _) (by rw[h.ty.len];exact J3 _) rfl) ?_
  refine zrf 13 rfl zS rfl ?_;refine zt 14 rfl zS (fun w1 a0=>af (us:=bI s.2.1) a0.2.b (K8 _) (JG _) rfl) ?_
  refine zrm 15 rfl zS rfl ?_;refine zrm 17 rfl zS rfl ?_
  refine J0 8 zk rfl ?_;refine zc call102 (ml w4.drew (a6.ext e4).tx hx s.1 h1 c zo) ?_
  rintro _ w5 ⟨rfl,c7⟩;have b7:=e4.trans c7;refine zh ?_;refine ae (⟨a6.ext b7,a7.ext b7⟩) ?_;refine J0 16 zk rfl ?_;refine zc call102 (ml w5 (a6.ext b7).ty hy s.2.1 h2 c zo) ?_;rintro _ w6 ⟨rfl,c6⟩;have b1:=b7.trans c6;refine zh ?_;refine ae (⟨a6.ext b1,a7.ext b1⟩) ?_;have c9:=aa (S:=fun q=>q=1\/q=2\/q=3) zo O4 b1;have b3:=aa (S:=fun _=>False) (fun h=>h) O4 b1;refine zr 18 rfl (⟨a6.ext b1,a7.ext b1⟩) (fun _=>JS (cells:=(bM (ej x s.1 c,ej y s.2.1 c,true,kc,1)).toArray) Cm (Kb _) rfl zk) ?_;refine J0 19 zk rfl ?_;refine iu FB (enc:=bM) (ej x s.1 c,ej y s.2.1 c,true,kc,1) (d0.upd c9) 3 zd rfl rfl rfl zd rfl ?_;intro v7 w7 O7 d3 c5 d9;have d4:=(hv.upd b3 zd (fun h=>h)).upd c5 zd zd;have a8:=(a4.upd b3 zd (fun h=>h)).upd c5 zd zd;have b6:=a2.trans (c9.trans (c5.mono (fun _ h=>.inr (.inr h)) zo));refine zh ?_;refine ae (⟨h.ext b6.ext,iz a8⟩) ?_;refine J0 20 zk rfl ?_;refine aC FB d4 d9 d3.sl (by simp) rfl rfl (by simp) (by simp[JC]) (by simp) (by simp) zd rfl ?_;intro v8 w8 O8 d2 b' e1;have a9:=b6.trans (b'.mono (fun _ h=>.inr (.inl h)) zo);refine zh ?_;refine ae (⟨h.ext a9.ext,iz (a8.upd b' zd zd)⟩) ?_;refine zra 21 rfl (⟨h.ext a9.ext,iz (a8.upd b' zd zd)⟩) rfl ?_;refine Ji zk ?_;refine zh ?_;refine ah rfl rfl (⟨d2.sl,a9.ext⟩)
 intro hbg;rw[if_neg (by rw[hbg];decide)];refine zh ?_;refine ah rfl rfl (⟨hv.sl,a2.ext⟩)
end
def G6(s:Sd):Prop:=s.1<=9223372036854775807/\s.2.1<=18446744073709551615/\s.2.2.1<=9223372036854775807/\s.2.2.2<=18446744073709551615
def G7(s:Df):Prop:=G6 s.1/\G6 s.2.1/\s.2.2.2.2<=9223372036854775807
abbrev Ky:={s:Df // G7 s}
instance decKy:DecidableEq Ky:=fun a b=>decidable_of_iff (a.1=b.1) ⟨LP,fun h=>congrArg _ h⟩
abbrev kvD(k:Ky):ix:=.agg (bM k.1).toArray
abbrev AE(s:Sd):List Lit:=[Kh Ka (s.1:Int),Kh LW (s.2.1:Int),Kh Ka (s.2.2.1:Int),Kh LW (s.2.2.2:Int)]
theorem qR{D:Nat}{n:Nat}(h:n<=9223372036854775807):prog.keyLits (D+1) 3 [nI (n:Int)]=some [Kh Ka (n:Int)]:=by
 have hw:(Kh Ka (n:Int)).wf=true:=by
  simp only[MU,JP,decide_eq_true_eq];exact⟨by show(-9223372036854775808:Int)<=_;omega,by show _<=(9223372036854775807:Int);omega⟩
 simp only[K2,underlying3,hw,and_self,if_true]
theorem xc{D:Nat}{n:Nat}(h:n<=18446744073709551615):prog.keyLits (D+1) 28 [.int .u64 (n:Int)]=some [.int .u64 (n:Int)]:=by
 have hw:(Kh .u64 (n:Int)).wf=true:=by
  simp only[MU,JP,decide_eq_true_eq];exact⟨by show(0:Int)<=_;omega,by show _<=(18446744073709551615:Int);omega⟩
 simp only[K2,underlying28,hw,and_self,if_true]
theorem AD{D:Nat}{b:Bool}:prog.keyLits (D+1) 4 [.bool b]=some [.bool b]:=by
 simp only[K2,L1]
theorem sS{D:Nat}{s:Sd}(h:G6 s):prog.keyLits (D+2) 139 (bI s)=some (AE s):=by
 obtain⟨h1,h2,h3,h4⟩:=h;have c1:prog.cellsOf 3=1:=by kernel_rfl
 have c2:prog.cellsOf 28=1:=by kernel_rfl
 have c3:prog.cellsOf 139=4:=by kernel_rfl
 unfold K2;simp only[Ms];rw[if_pos ⟨by rw[c3];rfl,by kernel_rfl⟩];simp only[LV,M0,c1,c2,bI,KY,Lk,Lj,LU,qR h1,xc h2,qR h3,xc h4];rfl
theorem pG{D:Nat}{s:Df}(h:G7 s):prog.keyLits (D+3) 141 (bM s)=some (AE s.1++AE s.2.1++[.bool s.2.2.1,.bool s.2.2.2.1,Kh Ka (s.2.2.2.2:Int)]):=by
 obtain⟨h1,h2,h3⟩:=h;have c1:prog.cellsOf 3=1:=by kernel_rfl
 have c2:prog.cellsOf 4=1:=by kernel_rfl
 have c3:prog.cellsOf 139=4:=by kernel_rfl
 have c4:prog.cellsOf 141=11:=by kernel_rfl
 unfold K2;simp only[K6];rw[if_pos ⟨by rw[c4];rfl,by kernel_rfl⟩];have e1:(bM s).take 4=bI s.1:=rfl;have e2:((bM s).drop 4).take 4=bI s.2.1:=rfl;simp only[LV,M0,c1,c2,c3,KY,e1,e2,sS h1,sS h2];simp only[bM,bI,Kf,KR,Lk,KY,Lj,LU,AD,qR h3];rfl
theorem AT(k:Ky):∃l,keyOf Jt 141 (kvD k)=some l:=by
 have ht:prog.keyType 141=true:=by kernel_rfl
 have hf:(kvD k).formed Jt 141=true:=by
  have c4:prog.cellsOf 141=11:=by kernel_rfl
  simp only[LZ,K6,c4];rfl
 have hz:prog.types.size=310:=by kernel_rfl
 have hs:∃D,prog.types.size+1=D+3:=⟨308,by rw[hz]⟩
 obtain⟨D,hD⟩:=hs;refine⟨.string (keyBytes (AE k.1.1++AE k.1.2.1++[.bool k.1.2.2.1,.bool k.1.2.2.2.1,Kh Ka (k.1.2.2.2.2:Int)])),?_⟩;unfold keyOf;simp only[K6,ht,hf,Bool.and_self,if_true,hD];rw[show(kvD k).cells.toList=bM k.1 from rfl,pG k.2];rfl
theorem IV:KeyL Jt 141 kvD:=by
 have hk:prog.keyTypeAt 3 141=true:=by kernel_rfl
 refine KeyL.wide kvD (fun b n k w=>?_) (m:=3) zd hk zk K6 AT (fun a b h=>?_) (fun k=>?_)
 ·have c4:prog.cellsOf 141=11:=by kernel_rfl
  refine run_checkKey_deep b n 3 141 hk w 3 (kvD k) _ ?_ (pG (D:=0) k.2);simp only[LZ,K6,c4];rfl
 ·obtain⟨⟨⟨a1,a2,a3,a4⟩,⟨b1,b2,b3,b4⟩,a5,a6,a7⟩,ha⟩:=a;obtain⟨⟨⟨c1,c2,c3,c4⟩,⟨d1,d2,d3,d4⟩,c5,c6,c7⟩,hb⟩:=b;simp[bM,bI]at h;simp[h];omega
 simp[Instr.sameBits,bM,bI]
abbrev Gv:=ix×Int×Int
abbrev CY(g:Gv):List ix:=[g.1,nI g.2.1,nI g.2.2]
theorem Im:ck Jt 145 #[(0,1),(1,1),(2,1)]:=⟨_,underlying145,fun w=>by kernel_rfl⟩
theorem Je:Elem Jt 133 145 3 40:=⟨Mt,by kernel_rfl,zd⟩
def MapK(O:Nat->Nat)(w:ln)(i r:Nat)(K:List Df):Prop:=∃m,MT kvD JR O w i r m/\∀k:Ky,bm m k=if k.1∈K then some true else none
theorem MapK.upd{S:Nat->Prop}{O O':Nat->Nat}{w w':ln}{i r:Nat}{K:List Df}(h:MapK O w i r K)(u:Jr S O w O' w')(hi:i≠0)(hS:¬S i):MapK O' w' i r K:=by
 obtain⟨m,h1,h2⟩:=h;exact⟨m,h1.upd u hi hS,h2⟩
theorem MapK.low{O:Nat->Nat}{w:ln}{i r T:Nat}{K:List Df}(h:MapK O w i r K)(hi:i<T):MapK (lowT O T) w i r K:=by
 obtain⟨m,h1,h2⟩:=h;exact⟨m,⟨h1.blk,by unfold lowT;rw[h1.tag,if_neg zo],h1.born⟩,h2⟩
def GrpV(O:Nat->Nat)(w:ln)(vs:List Gv)(l:List Gp):Prop:=vs.length=l.length/\∀j,j<l.length->(nth vs j).2=(nth l j).2/\Sl bM 11 w (nth vs j).1 (nth l j).1/\MI O w (nth vs j).1
theorem GrpV.upd{S:Nat->Prop}{O O':Nat->Nat}{w w':ln}{vs:List Gv}{l:List Gp}(h:GrpV O w vs l)(u:Jr S O w O' w'):GrpV O' w' vs l:=⟨h.1,fun j hj=>⟨(h.2 j hj).1,(h.2 j hj).2.1.upd (h.2 j hj).2.2 u,(h.2 j hj).2.2.upd u⟩⟩
theorem freeLow{O:Nat->Nat}{w:ln}{v:ix}{T:Nat}(h:MI O w v):MI (lowT O T) w v:=fun a n c e hn=>⟨jh (h a n c e hn).1,(h a n c e hn).2⟩
theorem iA{α:Type}{enc:α->List ix}{E:Mq}{sz B:Nat}{O:Nat->Nat}{w:ln}{i:Nat}{v:ix}{l:List α}(h:KJ enc E sz O w i v l)(r:KX B O w){T:Nat}(hi:0<T/\T<=i):MI (lowT O T) w v:=fun a n c e _=>by
 have h1:=h.1.tag a.block (by subst e;rfl);exact⟨by unfold lowT;rw[h1,if_pos hi.2],(r.rng a.block (by rw[h1];omega)).2⟩
theorem qP{O:Nat->Nat}{T:Nat}(hT:0<T)(b:Nat):lowT O T b<T:=by unfold lowT;split<;>omega
structure SeaO(O:Nat->Nat)(w:ln)(T xb:Nat)(x y:JA)(gx:ix)(lx rx:List ix)(gy:ix)(ly ry:List ix)(r:Nat)(lv:ix)(vs:List Gv)(l:List Gp):Prop where
 blk:JX O w T xb (bn x.ig x.kp x.br x.rules gx lx rx++(bn y.ig y.kp y.br y.rules gy ly ry++[.map (some r),lv])).toArray 135
 map:MapK O w (T+1) r (aZ l)
 row:KJ CY 145 3 O w (T+2) lv vs
 grp:GrpV O w vs l
 tx:TbW w x gx lx rx
 ty:TbW w y gy ly ry
 fx:Mg O w (gx::(lx++rx))
 fy:Mg O w (gy::(ly++ry))
theorem TbW.updF{S:Nat->Prop}{O O':Nat->Nat}{w w':ln}{t:JA}{gv:ix}{lc rc:List ix}(h:TbW w t gv lc rc)(n:Mg O w (gv::(lc++rc)))(u:Jr S O w O' w'):TbW w' t gv lc rc:=
 ⟨h.g.upd (n _ (by simp)) u,h.l.updF (fun v hv=>n v (by simp[hv])) u,h.r.updF (fun v hv=>n v (by simp[hv])) u⟩
section
variable{O:Nat→Nat}{w:ln}{T xb:Nat}{x y:JA}{gx:ix}{lx rx:List ix}{gy:ix}{ly ry:List ix}{r:Nat}{lv:ix}{vs:List Gv}{l:List Gp}
theorem SeaO.upd{S:Nat->Prop}{O':Nat->Nat}{w':ln}(h:SeaO O w T xb x y gx lx rx gy ly ry r lv vs l)(hT:T≠0)(u:Jr S O w O' w')(hS:∀q,T<=q->q<=T+2->¬S q):SeaO O' w' T xb x y gx lx rx gy ly ry r lv vs l:=
 ⟨h.blk.upd u hT (hS T zo zo),h.map.upd u zo (hS _ zo zo),h.row.upd u zo (hS _ zo zo),h.grp.upd u,h.tx.updF h.fx u,h.ty.updF h.fy u,h.fx.upd u,h.fy.upd u⟩
theorem SeaO.low(h:SeaO O w T xb x y gx lx rx gy ly ry r lv vs l):SeaO (lowT O (T+3)) w T xb x y gx lx rx gy ly ry r lv vs l:=
 ⟨h.blk.lowT zo,h.map.low zo,h.row.lowT zo,⟨h.grp.1,fun j hj=>⟨(h.grp.2 j hj).1,(h.grp.2 j hj).2.1,freeLow (h.grp.2 j hj).2.2⟩⟩,h.tx,h.ty,fun v hv=>freeLow (h.fx v hv),fun v hv=>freeLow (h.fy v hv)⟩
theorem zP(b:JX O w T xb (bn x.ig x.kp x.br x.rules gx lx rx++(bn y.ig y.kp y.br y.rules gy ly ry++[.map (some r),lv])).toArray 135)(tx:TbW w x gx lx rx)(ty:TbW w y gy ly ry):SeaR w xb x y gx lx rx gy ly ry (.map (some r)) lv:=⟨fun j u hu=>b.cellsAdd j u (by simpa using hu),tx,ty⟩
theorem SeaO.sea(h:SeaO O w T xb x y gx lx rx gy ly ry r lv vs l):SeaR w xb x y gx lx rx gy ly ry (.map (some r)) lv:=zP h.blk h.tx h.ty
theorem DU{A Bl:List ix}(hA:A.length=17)(hB:Bl.length=17)(m lv a0:ix):(A++(Bl++[m,lv])).toArray.setIfInBounds 35 a0=(A++(Bl++[m,a0])).toArray:=by
 rw[List.setIfInBounds_toArray];congr 1;rw[Lb 35 a0 zo,Lb _ a0 zo,hA,hB];rfl
theorem Gi{A Bl:List ix}(hA:A.length=17)(hB:Bl.length=17)(m lv:ix):(A++(Bl++[m,lv])).toArray[35]? = some lv:=by
 rw[List.getElem?_toArray,Jh zo,Jh zo,hA,hB];rfl
theorem lF:∀(ss kn:List Df) (s:Df),cn kn (ss++[s])=cn kn ss++(if s∈kn++cn kn ss then []else [s])
 |[],kn,s=>by simp only[KR,cn,Kj]
 |a::t,kn,s=>by
  rw[Kf,cn,cn]
  split
  ·exact lF t kn s
  rw[lF t (kn++[a]) s,Kf,Kc];rfl
theorem ko:∀(ss kn:List Df),(cn kn ss).length<=ss.length
 |[],_=>by simp[cn]
 |a::t,kn=>by
  unfold cn
  split
  ·have:=ko t kn;simp;omega
  have:=ko t (kn++[a]);simpa using this
theorem It{v:ix}(h:v.oneCell'=true)(a b:Int):∀c∈CY (v,a,b),c.oneCell'=true:=fun c hc=>by
 simp only[CY,Jl,JD,or_false]at hc
 rcases hc with rfl|rfl|rfl
 ·exact h
 ·rfl
 rfl
theorem MapK.put{i:Nat}{K:List Df}{m:List (Ky×Bool)}{O1:Nat->Nat}{w1:ln}{k:Ky}(h2:∀k:Ky,bm m k=if k.1∈K then some true else none)(h:MT kvD JR O1 w1 i r (cE m k true)):MapK O1 w1 i r (K++[k.1]):=by
 refine⟨_,h,fun q=>?_⟩;rw[aP,h2 q]
 by_cases e:k=q
 ·subst e;simp
 rw[if_neg e];have hn:¬q.1=k.1:=fun e2=>e (LP e2.symm)
 simp only[Ki,J5,hn,or_false]
theorem tI(B:Nat)(h:SeaO O w T xb x y gx lx rx gy ly ry r lv vs l)(hT:0<T)(hR:KX B O w)(hO:∀b,O b<T+3)(fr id:Int)(ss:List Df)(sv:ix)(hs:Sl bM 11 w sv ss)(hf:MI O w sv)(e':∀s∈ss,G7 s)(g4:ss.length<=15000000000)(g3:vs.length<=15000000000):
  Kx Jt 53 [nP xb,nI fr,nI id,sv] w fun _ w'=>∃O' lv' vs',SeaO O' w' T xb x y gx lx rx gy ly ry r lv' vs' (mC l fr id ss)/\(∀b,O' b<T+3)/\Jr (fun q=>T<=q/\q<T+3) O w O' w'/\KX B O' w':=by
 have e5:=h.tx.len;have e4:=h.ty.len;have hz:¬(0=T+1\/T+3<=0):=zo;refine J1 func53 ntmps53 rfl rfl ?_;refine zh ?_;refine zlp (fun z:Nat×(Nat->Nat)×World×ix=>[(0,nP xb),(1,nI fr),(2,nI id),(8,z.2.2.2),(11,sv),(12,nI ss.length),(13,nI z.1)]) (fun z=>z.2.2.1) (fun z=>z.1<=ss.length/\MapK z.2.1 z.2.2.1 (T+1) r (aZ l++cn (aZ l) (ss.take z.1))/\KJ bM 141 11 z.2.1 z.2.2.1 (T+3) z.2.2.2 (cn (aZ l) (ss.take z.1))/\Jr (fun q=>q=T+1\/T+3<=q) O w z.2.1 z.2.2.1/\KX B z.2.1 z.2.2.1) (fun z=>ss.length-z.1) (0,O,w,nS) (⟨Jq _,by simpa[cn]using h.map,JJ _ _ _ _ _ _,KI hz _ _,hR⟩) ?_;rintro⟨k,O1,w1,ov⟩ ⟨hk,hM,a1,a4,d2⟩;dsimp only at hk hM a1 a4 d2 ⊢;have e9:=hs.upd hf a4;have d0:=h.blk.upd a4 zo zo;have f':=zP d0 (h.tx.updF h.fx a4) (h.ty.updF h.fy a4);refine zh ?_;refine zC ?_ ?_
 ·intro a';replace a':k<ss.length:=by have:=of_decide_eq_true a';omega
  have d3:=e' _ (aI a');have e1:ss.take (k+1)=ss.take k++[nth ss k]:=aM a';obtain⟨s,e2⟩:∃s,s=nth ss k:=⟨_,rfl⟩
  rw[<-e2]at d3 e1;refine zh ?_;refine zv (af (us:=bM s) (fun j u hu=>e9.cells k a' j u (by rw[<-aB a',<-e2];exact hu)) (KB _) (K5 _) rfl) ?_;refine aw d2 (T+4) zo (Kb _) rfl ?_;intro sb w2 O2 c9 b5 d8 g5;refine zsa (us:=(bM s).toArray) c9 (K5 _) ?_;have b1:=c9.setRow (us:=(bM s).toArray);have a3:Jr (fun q=>q=T+4) O1 w1 O2 (w2.setRow sb (bM s).toArray):=b5.trans (J6 zo c9.tag rfl);have c7:=d8.upd (J6 (S:=fun q=>q=T+4) (us:=(bM s).toArray) zo c9.tag rfl);generalize w2.setRow sb (bM s).toArray=w3 at *;have d':=hM.upd a3 zo zo;have a0:=a1.upd a3 zo zo;have b4:=d0.upd a3 zo zo;have a7:=a4.trans (a3.mono (fun _ h=>.inr zo) hz);have e7:=zP b4 (h.tx.updF h.fx a7) (h.ty.updF h.fy a7);refine zh ?_;obtain⟨m,hm,d6⟩:=d';have c6:MT kvD JR O2 w3.drew (T+1) r m:=⟨hm.blk,hm.tag,hm.born⟩
  have sc:StR w3.drew sb s:=iz b1.drew;have f9:w3.drew.cell? (nA xb 34)=some (.map (some r)):=(e7.ext (ka w3).drew).cm;refine aG (fun W=>MT kvD JR O2 W (T+1) r m/\StR W sb s/\W.cell? (nA xb 34)=some (.map (some r))) 7 rfl zk ?_;refine zin ⟨c6,sc,f9⟩ fun zS=>?_
  refine zrm 0 rfl zS rfl ?_;refine zr 1 rfl zS (fun _=>ao rfl) ?_
  refine zrf 2 rfl zS rfl ?_;refine zt 3 rfl zS (fun w1 b7=>RV.ld b7.2.2 rfl) ?_
  refine zt 4 rfl zS (fun w1 b7=>af (us:=bM s) b7.2.1 (KB _) (K5 _) rfl) ?_;refine zt 5 rfl zS (fun w1 b7=>RV.lookup b7.1 Mu IV (zeroValue4 _) (⟨s,d3⟩:Ky) rfl rfl rfl (u:=.bool (decide (s∈aZ l++cn (aZ l) (ss.take k)))) (by rw[d6];by_cases e:s∈aZ l++cn (aZ l) (ss.take k);rw[if_pos e,decide_eq_true e];rfl;rw[if_neg e,decide_eq_false e];rfl)) ?_
  refine zr 6 rfl zS (fun _=>RV.not rfl) ?_;refine Ji zk ?_
  refine zh ?_;have c5:cn (aZ l) (ss.take (k+1))=cn (aZ l) (ss.take k)++(if s∈aZ l++cn (aZ l) (ss.take k)then []else [s]):=by rw[e1,lF]
  have f3:(cn (aZ l) (ss.take k)).length<=k:=La (ko _ _) (by rw[LC];omega);have hout3d:=a0.drew;have hR3d:=c7.drew;have hsb3d:=b1.drew;have hb3d:=b4.drew;have hU13d:=a7.drew;clear e7 b1 a0 b4 c7 a3 hm a7;generalize w3.drew=w4 at *;refine zC ?_ ?_
  ·intro a6;replace a6:¬s∈aZ l++cn (aZ l) (ss.take k):=by rw[Kd]at a6;exact of_decide_eq_false a6
   rw[if_neg a6]at c5;have f5:MT kvD JR O2 w4.drew (T+1) r m:=⟨c6.blk,c6.tag,c6.born⟩
   refine zh ?_;refine JY 5 rfl rfl zk zk ?_
   refine zh ?_;refine zw (af (us:=bM s) sc (KB _) (K5 _) rfl) ?_
   refine Kw ?_;refine WL.mapUpdate f5 Mu IV zo (⟨s,d3⟩:Ky) true rfl rfl rfl rfl rfl ?_
   intro w5 f4 d1;have g2:=MapK.put d6 f4;have d4:=hsb3d.drew.upd d1 zo zo;have b':=hout3d.drew.upd d1 zo zo;have g1:=hR3d.drew.upd d1;have d7:=hU13d.drew.trans (d1.mono (fun _ h=>.inl h) hz);refine zh ?_;refine zv (af (us:=bM s) (iz d4) (KB _) (K5 _) rfl) ?_;refine L0 FB b' g1 (s) (fun _=>rfl) rfl rfl rfl (by simp[JC]) zo zo zo zd rfl rfl ?_;intro e8 w6 O6 a9 e6 g0;have d9:=g2.upd e6 zo zo;rw[Kc]at d9;rw[<-c5]at d9 a9;refine zh ?_;refine zxd (k+1,O6,w6,e8) (⟨a',d9,a9,d7.trans (e6.mono (fun _ h=>.inr zo) hz),g0⟩)
  intro a5;replace a5:s∈aZ l++cn (aZ l) (ss.take k):=by rw[Kz]at a5;exact of_decide_eq_true a5
  rw[if_pos a5,Kj]at c5;refine zh ?_;refine zxd (k+1,O2,w4,ov) (⟨a',by rw[c5];exact⟨m,c6,d6⟩,by rw[c5];exact hout3d,hU13d,hR3d⟩)
 intro f7;obtain rfl:k=ss.length:=dF f7;rw[KN]at hM a1;have f3:=ko ss (aZ l);have e3:mC l fr id ss=if cn (aZ l) ss=[]then l else l++[(cn (aZ l) ss,fr,id)]:=rfl
 have c8:¬(T<=0):=zo;have e0:¬(T<=0/\0<T+3):=zo;generalize cn (aZ l) ss=out at *;rw[e3];clear e3;refine zh ?_;refine zvH (L3 (by first|exact a1.sl) Le rfl) ?_;refine zC ?_ ?_
 ·intro b2;have c':out≠[]:=fun e=>by subst e;simp at b2
  rw[if_neg c'];have b9:=h.row.upd a4 zo zo;refine zh ?_;refine zvH (RV.ld f'.cl rfl) ?_;refine zv (aF (cells:=#[ov,nI fr,nI id]) Im (zeroValue145 _) rfl (by simp only[Jm,Jy,a1.one];rfl) rfl rfl) ?_;refine L0 Je b9 d2 (((ov,fr,id):Gv)) (fun _=>rfl) rfl rfl rfl ((It a1.one fr id)) zo zo zo zd rfl rfl ?_;intro b6 w2 O2 a8 b5 d8;have d5:=d0.upd b5 zo zo;refine zh ?_;refine aj (j:=35) d5 (Gi e5 e4 _ _) (sizeOf133 _) a8.one rfl rfl rfl ?_;have b4:=d5.set 35 b6;rw[DU e5 e4]at b4;have a3:Jr (fun q=>q=T) O2 w2 O2 (w2.setCell ⟨xb,35,none⟩ b6):=Jp zo d5.tag rfl;have d':=(hM.upd b5 zo zo).upd a3 zo zo;have a0:=(a1.upd b5 zo zo).upd a3 zo zo;have b8:=a8.upd a3 zo zo;have c7:=d8.upd a3;have a2:Jr (fun q=>T<=q) O w O2 (w2.setCell ⟨xb,35,none⟩ b6):=((a4.mono (fun _ h=>zo) c8).trans (b5.mono (fun _ h=>zo) c8)).trans (a3.mono (fun _ h=>zo) c8);generalize w2.setCell ⟨xb,35,none⟩ b6=w3 at *;have b0:=h.grp.upd a2;have f8:aZ (l++[(out,fr,id)])=aZ l++out:=by rw[nN];simp[aZ]
  have f6:GrpV (lowT O2 (T+3)) w3 (vs++[(ov,fr,id)]) (l++[(out,fr,id)]):=by
   have hl:=h.grp.1;refine⟨by simp[hl],fun j hj=>?_⟩;rw[JU,Lc]at hj;rw[aA,aA,hl]
   by_cases b3:j<l.length
   ·rw[if_pos b3,if_pos b3];exact⟨(b0.2 j b3).1,(b0.2 j b3).2.1,freeLow (b0.2 j b3).2.2⟩
   rw[if_neg b3,if_neg b3,show j-l.length=0 from by omega,ay,ay];exact⟨rfl,a0.sl,iA a0 c7 ⟨zo,JF _⟩⟩
  refine zh ?_;refine aH rfl (⟨lowT O2 (T+3),b6,vs++[(ov,fr,id)],⟨b4.lowT zo,by rw[f8];exact d'.low zo,b8.lowT zo,f6,h.tx.updF h.fx a2,h.ty.updF h.fy a2,fun v hv=>freeLow (h.fx.upd a2 v hv),fun v hv=>freeLow (h.fy.upd a2 v hv)⟩,qP zo,a2.lowT hO (fun b hb=>⟨hb,hO b⟩) e0,c7.lowT _⟩)
 intro b2;have c':out=[]:=by cases out with|nil=>rfl|cons a b=>simp at b2
 rw[if_pos c'];subst c';rw[Kj]at hM;have a2:Jr (fun q=>T<=q) O w O1 w1:=a4.mono (fun _ h=>zo) c8;have b0:=h.grp.upd a2;refine zh ?_;refine aH rfl (⟨lowT O1 (T+3),lv,vs,⟨d0.lowT zo,hM.low zo,(h.row.upd a4 zo zo).lowT zo,⟨b0.1,fun j hj=>⟨(b0.2 j hj).1,(b0.2 j hj).2.1,freeLow (b0.2 j hj).2.2⟩⟩,h.tx.updF h.fx a2,h.ty.updF h.fy a2,fun v hv=>freeLow (h.fx.upd a2 v hv),fun v hv=>freeLow (h.fy.upd a2 v hv)⟩,qP zo,a2.lowT hO (fun b hb=>⟨hb,hO b⟩) e0,d2.lowT _⟩)
end
section
variable{w:ln}{xb:Nat}{x y:JA}{gx:ix}{lx rx:List ix}{gy:ix}{ly ry:List ix}{mv lv:ix}
theorem yB(h:SeaR w xb x y gx lx rx gy ly ry mv lv)(hx:KK x)(hy:KK y)(l:List Df)(sv:ix)(hs:Sl bM 11 w sv l)(hl:∀s∈l,OkSd x s.1/\OkSd y s.2.1)(hB:cP w):
  Kx Jt 97 [sv,.func (.func 56) #[nP xb] #[]] w fun v w'=>(∃z:Int,v=nI z/\decide (0<=z)=l.any (dW x y))/\JM w w':=by
 have a6:=hs.len_le;refine J1 func97 ntmps97 rfl rfl ?_;refine zh ?_;refine zlp (fun z:Nat×ln=>[(0,sv),(1,.func (.func 56) #[nP xb] #[]),(7,nI l.length),(8,nI z.1)]) (fun z=>z.2) (fun z=>z.1<=l.length/\JM w z.2/\∀i,i<z.1->dW x y (nth l i)=false) (fun z=>l.length-z.1) (0,w) (⟨Jq _,ka _,fun i hi=>absurd hi (JK i)⟩) ?_;rintro⟨k,w1⟩ ⟨hk,hE,a1⟩;dsimp only at hk hE a1 ⊢;have h1:=hs.ext hE;refine zh ?_;refine zC ?_ ?_
 ·intro a0;replace a0:k<l.length:=dT a0;have a3:=hl _ (aI a0);refine zh ?_;refine zv (af (us:=bM (nth l k)) (fun j u hu=>h1.cells k a0 j u (by rw[<-aB a0];exact hu)) (KB _) (K5 _) rfl) ?_;refine BL (fs:=[nP xb]) (cs:=#[]) rfl call56 rfl (yA (h.ext hE) hx hy (nth l k) a3.1 a3.2 (bf hB hE)) rfl ?_;rintro v w2 ⟨rfl,a5⟩;refine zh ?_;refine zC ?_ ?_
  ·intro hp;refine zh ?_;refine ah rfl rfl (⟨⟨(k:Int),rfl,by rw[Kg.2 ⟨_,aI a0,hp⟩];exact decide_eq_true zo⟩,hE.trans a5⟩)
  intro hp;refine zh ?_;refine zxd (k+1,w2) (⟨a0,hE.trans a5,fun i hi=>(Ke.1 hi).elim (a1 i) (fun e=>by rw[e];exact hp)⟩)
 intro a4;replace a4:l.length<=k:=dF a4;refine zh ?_;have a2:l.any (dW x y)=false:=List.any_eq_false.2 fun s hs=>by obtain⟨i,hi,rfl⟩:=List.mem_iff_getElem.1 hs;have:=a1 i (zo);rw[aB hi]at this;rw[this];decide
 refine ah rfl rfl (⟨⟨-1,rfl,by rw[a2];rfl⟩,hE⟩)
theorem rm(h:SeaR w xb x y gx lx rx gy ly ry mv lv)(hx:KK x)(hy:KK y)(l:List Df)(sv:ix)(hs:Sl bM 11 w sv l)(hl:∀s∈l,OkSd x s.1/\OkSd y s.2.1)(hB:cP w):
  Kx Jt 55 [sv,.func (.func 56) #[nP xb] #[]] w fun v w'=>v=.bool (l.any (dW x y))/\JM w w':=by
 refine J1 func55 ntmps55 rfl rfl ?_;refine zh ?_
 refine zc call97 (yB h hx hy l sv hs hl hB) ?_;rintro v w1 ⟨⟨z,rfl,hz⟩,hE⟩;refine zh ?_
 refine ah rfl rfl (⟨by rw[<-hz],hE⟩)
end
theorem Cw{l:List Int}{i:Nat}(h:i<l.length):nth l.reverse i=nth l (l.length-1-i):=by
 rw[aB (by simpa using h),aB zo,List.getElem_reverse]
theorem uE(B:Nat)(O:Nat->Nat)(w:ln)(i:Nat)(sv:ix)(l:List Int)(hi:i≠0)(_:KX B O w)(h:KJ encI 3 1 O w i sv l)(hl:l.length<=100000000000):
  Kx Jt 103 [sv] w fun _ w'=>KJ encI 3 1 O w' i sv l.reverse/\Jr (fun q=>q=i) O w O w':=by
 have hz:¬0=i:=fun e=>hi e.symm
 refine J1 func103 ntmps103 rfl rfl ?_;refine zh ?_
 refine zvH (L3 (by first|exact h.sl) Jj rfl) ?_;refine zlp (fun z:Nat×ln×List Int×Int=>[(0,sv),(2,nI z.1),(3,nI z.2.2.2)]) (fun z=>z.2.1) (fun z=>2*z.1<=l.length+1/\KJ encI 3 1 O z.2.1 i sv z.2.2.1/\z.2.2.1.length=l.length/\(∀p,p<l.length->nth z.2.2.1 p=if p<z.1\/l.length-z.1<=p then nth l (l.length-1-p)else nth l p)/\Jr (fun q=>q=i) O w O z.2.1/\z.2.2.2=(l.length:Int)-1-(z.1:Int)) (fun z=>l.length-z.1) (0,w,l,(l.length:Int)-1) (⟨zo,h,rfl,fun p hp=>by rw[if_neg zo],KI hz _ _,by dsimp only;omega⟩) ?_
 rintro⟨k,w1,m,jj⟩ ⟨hk,hr,hm,hn,hU,hj⟩;dsimp only at hk hr hm hn hU hj ⊢;subst hj;refine zh ?_;refine zC ?_ ?_
 ·intro a1;replace a1:2*k+1<l.length:=dT a1;have a0:=hr.drew;have ci:w1.drew.cell? (adr sv 1 k)=some (nI (nth m k)):=by have:=a0.sl.cell (i:=k) (j:=0) zo rfl;rwa[ax]at this
  have cj:w1.drew.cell? (adr sv 1 (l.length-1-k))=some (nI (nth m (l.length-1-k))):=by have:=a0.sl.cell (i:=l.length-1-k) (j:=0) zo rfl;rwa[ax]at this
  refine zh ?_;refine aG (fun _=>True) 16 rfl zk ?_
  refine zin trivial fun zS=>?_
  refine zrm 0 rfl zS rfl ?_;refine zrm 1 rfl zS rfl ?_
  refine zrm 2 rfl zS rfl ?_;refine zrm 3 rfl zS rfl ?_
  refine zrm 4 rfl zS rfl ?_;refine zrm 5 rfl zS rfl ?_
  refine zr 6 rfl zS (fun _=>ai a0.sl.sh Jj (Ju _) rfl rfl (l.length-1-k) zo zo) ?_;refine zrm 8 rfl zS rfl ?_
  refine zrm 9 rfl zS rfl ?_;refine zr 10 rfl zS (fun _=>ai a0.sl.sh Jj (Ju _) rfl rfl k rfl zo) ?_
  refine ud (fun _:Unit=>[(0,sv),(2,nI k),(3,nI ((l.length:Int)-1-(k:Int))),(14,sv),(15,nI k),(16,sv),(17,nI ((l.length:Int)-1-(k:Int))),(21,nI (nth m (l.length-1-k))),(25,nI (nth m k))]) (fun _=>w1.drew) (fun _=>True) #[true,true,true,true,true,true,true,true,true,true,true,true,false,false,false,false] 4 ?_ ?_
  ·intro hN;refine bL 7 11 zk rfl rfl ?_ ?_ 
   ·refine zvH (RV.ld cj rfl) ?_;refine ae trivial ?_
    refine J0 11 zk rfl ?_;refine zvH (RV.ld ci rfl) ?_
    refine ae trivial ?_;exact MQ (hN () trivial) zk ⟨rfl,rfl,rfl,rfl,rfl,rfl,rfl,rfl,rfl,trivial⟩ rfl
   refine zvH (RV.ld ci rfl) ?_;refine ae trivial ?_
   refine J0 7 zk rfl ?_;refine zvH (RV.ld cj rfl) ?_
   refine ae trivial ?_;exact MQ (hN () trivial) zk ⟨rfl,rfl,rfl,rfl,rfl,rfl,rfl,rfl,rfl,trivial⟩ rfl
  rintro⟨⟩ -;refine zr 12 rfl trivial (fun _=>ai a0.sl.sh Jj (Ju _) rfl rfl k rfl zo) ?_;refine J0 13 zk rfl ?_;refine Mw a0 k zo (nth m (l.length-1-k)) (Ju _) rfl hi rfl rfl rfl rfl ?_;intro w2 a4 a6;refine zh ?_;refine ae (trivial) ?_;refine zr 14 rfl (trivial) (fun _=>ai a0.sl.sh Jj (Ju _) rfl rfl (l.length-1-k) zo zo) ?_;refine J0 15 zk rfl ?_;refine Mw a4 (l.length-1-k) (by rw[List.length_set];omega) (nth m k) (Ju _) rfl hi rfl rfl rfl rfl ?_;intro w3 a3 a5;refine zh ?_;refine ae (trivial) ?_;refine Ji zk ?_;refine zh ?_;refine zxd (k+1,w3,(m.set k (nth m (l.length-1-k))).set (l.length-1-k) (nth m k),(l.length:Int)-1-(k:Int)-1) (⟨zo,a3,by simp[hm],fun p hp=>?_,(hU.drew.trans a6).trans a5,by dsimp only;omega⟩);rw[aQ (by simp[hm];omega),aQ (by rw[hm];omega)]
  by_cases e1:p=l.length-1-k
  ·rw[if_pos e1,if_pos zo,hn k zo,if_neg zo,show l.length-1-p=k from by omega]
  rw[if_neg e1]
  by_cases e2:p=k
  ·rw[if_pos e2,if_pos zo,hn _ zo,if_neg zo,e2]
  rw[if_neg e2,hn p hp]
  by_cases e3:p<k\/l.length-k<=p
  ·rw[if_pos e3,if_pos zo]
  rw[if_neg e3,if_neg zo]
 intro a2;replace a2:l.length<=2*k+1:=dF a2;have e:m=l.reverse:=by
  refine LD (by simp[hm]) fun p h1 h2=>?_
  rw[<-aB h1,<-aB h2,Cw zo,hn p zo]
  by_cases e3:p<k\/l.length-k<=p
  ·rw[if_pos e3]
  rw[if_neg e3,show l.length-1-p=p from by omega]
 subst e;refine zh ?_;refine aH rfl (⟨hr,hU⟩)
section
variable{w:ln}{xb:Nat}{x y:JA}{gx:ix}{lx rx:List ix}{gy:ix}{ly ry:List ix}{mv lv:ix}
theorem CZ(h:SeaR w xb x y gx lx rx gy ly ry mv lv)(l:List Gp)(vs:List Gv)(a9:Sl CY 3 w lv vs)(hv:vs.length=l.length/\∀j,j<l.length->(nth vs j).2=(nth l j).2)(hp:∀j,j<l.length->-1<=(nth l j).2.1/\(nth l j).2.1<j)(i:Nat)(hi:i<l.length)(hl:l.length<=15000000000):
  Kx Jt 58 [nP xb,nI (i:Nat)] w fun v w'=>M1 w' v (Ds l (i+1) i).reverse/\JM w w'/\NewV w.heap.size v:=by
 have c5:=hv.1;have hz:¬0=1:=zd;obtain⟨R,b1⟩:∃R,R=Ds l (i+1) i:=⟨_,rfl⟩
 rw[<-b1];refine J1 func58 ntmps58 rfl rfl ?_;refine zh ?_;refine zlp (fun z:Nat×Nat×List Int×(Nat->Nat)×World×ix=>[(0,nP xb),(1,nI z.1),(5,z.2.2.2.2.2)]) (fun z=>z.2.2.2.2.1) (fun z=>z.1<l.length/\z.1<z.2.1/\z.2.1<=i+1/\z.2.2.1.length+z.2.1=i+1/\z.2.2.1++Ds l z.2.1 z.1=R/\KJ encI 3 1 z.2.2.2.1 z.2.2.2.2.1 1 z.2.2.2.2.2 z.2.2.1/\Jr (fun q=>q=1) (fun _=>0) w z.2.2.2.1 z.2.2.2.2.1/\KX w.heap.size z.2.2.2.1 z.2.2.2.2.1) (fun z=>z.2.1) (i,i+1,[],fun _=>0,w,nS) (⟨hi,by dsimp only;omega,by dsimp only;omega,by simp,by rw[b1];rfl,JJ _ _ _ _ _ _,KI hz _ _,ar w⟩) ?_;rintro⟨c,n,b2,O1,w1,ov⟩ ⟨hc,b7,b5,b8,a0,hr,hU,hR⟩;dsimp only at hc b7 b5 b8 a0 hr hU hR ⊢;obtain⟨n,rfl⟩:∃n',n=n'+1:=⟨n-1,zo⟩
 rw[Ds,LH]at a0;have b0:=h.ext hU.ext;have a2:=a9.ext hU.ext;have a5:=hv.2 c hc;have b4:=hp c hc;have g1:w1.cell? ((adr lv 3 c).add 1)=some (nI (nth l c).2.1):=by have:=a2.cell (i:=c) (j:=1) zo rfl;rw[a5]at this;exact this
 have g2:w1.cell? ((adr lv 3 c).add 2)=some (nI (nth l c).2.2):=by have:=a2.cell (i:=c) (j:=2) zo rfl;rw[a5]at this;exact this
 obtain⟨fr,a'⟩:∃fr,fr=(nth l c).2.1:=⟨_,rfl⟩
 obtain⟨id,b6⟩:∃id,id=(nth l c).2.2:=⟨_,rfl⟩
 rw[<-a']at g1 b4 a0;rw[<-b6]at g2 a0;refine zh ?_;refine zvH (RV.ld (by first|exact b0.cl|exact g1|exact g2) rfl) ?_;refine zC ?_ ?_
 ·intro a8;replace a8:0<=fr:=of_decide_eq_true a8;rw[if_neg zo]at a0;obtain⟨f,rfl⟩:=JE a8;refine zh ?_;refine zvH (RV.ld (by first|exact b0.cl|exact g1|exact g2) rfl) ?_;refine L0 tH hr hR (id) (fun _=>rfl) rfl rfl rfl (by simp[JC]) zo zo zo zd rfl rfl ?_;intro b3 w2 O2 a3 a4 b';have a1:=hU.trans a4;have b9:=h.ext a1.ext;have a7:=a9.ext a1.ext;have g3:w2.cell? ((adr lv 3 c).add 1)=some (nI (f:Nat)):=by have:=a7.cell (i:=c) (j:=1) zo rfl;rw[a5,<-a']at this;exact this
  refine zh ?_;refine zvH (RV.ld (by first|exact b9.cl|exact g3) rfl) ?_
  refine zxd (f,n,b2++[id],O2,w2,b3) (⟨zo,by dsimp only;omega,by dsimp only;omega,by simp;omega,by rw[Kc];exact a0,a3,a1,b'⟩)
 intro a6;replace a6:fr<0:=dF a6;rw[if_pos a6,Kj]at a0;subst a0;refine zh ?_;refine zc call103 (uE w.heap.size O1 w1 1 ov b2 zd hR hr zo) ?_;rintro _ w2 ⟨a3,a4⟩;refine zh ?_;refine ah rfl rfl (⟨a3.sl,(hU.trans a4).ext,a3.newV zd (hR.upd a4)⟩)
end
end Go.Proofs.YtjemhjcngaokpaaGreatDoor
section
namespace Go.VL
theorem WC.label{P:Program}{N:Nat}{Q:Exit->Act->ln->Prop}{st:St}{w:ln}{l:Nat}(h:QF N Q .normal st w):WC P N (.label l) Q st w:=fun a ha=>wp_label (h a ha)
end Go.VL
namespace Go.Proofs.YtjemhjcngaokpaaGreatDoor
open Go.VL Go.Proofs
set_option maxRecDepth 10000
theorem six{l:List ix}(h:l.length=6):∃a b c d e f,l=[a,b,c,d,e,f]:=by
 match l,h with
 |[a,b,c,d,e,f],_=>exact⟨a,b,c,d,e,f,rfl⟩
theorem Iu(s:Df):∀c∈bM s,c.oneCell'=true:=fun c hc=>by
 simp only[bM,bI,Kf,KR,Jl,JD,or_false]at hc
 rcases hc with rfl|rfl|rfl|rfl|rfl|rfl|rfl|rfl|rfl|rfl|rfl<;>rfl
theorem rf(x y:JA)(s:Df)(c:Nat):(rh x y s c).length<=2:=by
 unfold rh
 split
 ·simp
 split
 ·simp
 split
 ·simp
 split<;>simp
theorem tu:∀(l:List Gp) (i:Nat),i<l.length->(nth l i).1.length<=(aZ l).length
 |[],i,h=>absurd h (JK i)
 |g::r,0,_=>by rw[ay];unfold aZ;rw[Lw,JU];omega
 |g::r,i+1,h=>by
  have:=tu r i (by simpa using h);rw[bA];unfold aZ at *;rw[Lw,JU];omega
theorem C3(x y:JA):mC [] (-1) 0 [oO x y]=Bz x y:=by
 unfold mC Bz;rw[if_neg (by simp[cn,aZ])];simp[cn,aZ]
theorem sq{x y:JA}{n:Nat}{l:List Gp}{i:Nat}(hi:¬i<l.length):cJ x y n l i=(l,i):=by
 cases n with
 |zero=>rfl
 |succ n=>rw[cJ,if_neg hi]
theorem uz{x y:JA}{n:Nat}{l:List Gp}{i:Nat}(hp:(nth l i).1.any (dW x y)=true):cJ x y n l i=(l,i):=by
 cases n with
 |zero=>rfl
 |succ n=>
  rw[cJ,if_pos hp]
  split<;>rfl
theorem xV{x y:JA}{n:Nat}{l:List Gp}{i:Nat}(hn:n≠0)(hi:i<l.length)(hp:(nth l i).1.any (dW x y)≠true):cJ x y n l i=cJ x y (n-1) (ee x y (nth l i).1 i 36 l) (i+1):=by
 cases n with
 |zero=>exact absurd rfl hn
 |succ n=>rw[cJ,if_pos hi,if_neg hp];rfl
theorem zY{w:ln}{cs:List ix}{p:PSt}{tl:List Nat}(h:Md w cs p tl):p.usual.length<=9223372036854775807:=by
 obtain⟨uv,bv,kv,nv,tv,rfl,a0,a4,a3,a2,a1⟩:=h;exact a0.len_le
theorem IU{a b:Nat}(ha:a<2^40)(hb:b<2^40):a ||| b<2^40:=Nat.or_lt_two_pow ha hb
theorem Gj{t:JA}{w:ln}{gv:ix}{lc rc:List ix}(_:KK t)(hw:TbW w t gv lc rc){s:Sd}(h:OkSd t s):G6 s:=by
 have h1:=zY hw.l;have h2:=zY hw.r;have a0:(2^40:Nat)=1099511627776:=zd;obtain⟨a,b,c,d⟩:=h;exact⟨zo,zo,zo,zo⟩
theorem Ah{t:JA}(ht:KK t){a:Nat}(ha:a<t.left.usual.length):OkSd t (a,0,0,0):=⟨ha,by show(0:Nat)<_;decide,ht.rp,by show(0:Nat)<_;decide⟩
theorem xk{t:JA}(ht:KK t){a c:Nat}(ha:a<t.left.usual.length)(hc:c<36):OkSd t (ej t (a,0,0,0) c):=by
 have h1:=(ht.rN ht.rp (c:=c) zo).2;have e1:=ht.ll;have e2:=ht.rl;exact⟨ht.lp,ht.lt _ (aI (by show a<_;omega)),h1,IU (ht.rt _ (aI (by have:=ht.rp;omega))) (ht.rt _ (aI zo))⟩
theorem A4{t:JA}(ht:KK t){s:Sd}(h:OkSd t s){c:Nat}(hc:c<36):OkSd t (et t s c):=by
 have h1:=(ht.rN h.right (c:=c) zo).2;have e2:=ht.rl;exact⟨h.row,h.told,h1,IU h.beh (ht.rt _ (aI zo))⟩
theorem Gs{x y:JA}(hx:KK x)(hy:KK y){a b:Nat}(ha:a<x.left.usual.length)(hb:b<y.left.usual.length):∀cs:List Nat,(∀c∈cs,c<36)->OkSd x (ofC x y a b cs).1/\OkSd y (ofC x y a b cs).2
 |[],_=>⟨Ah hx ha,Ah hy hb⟩
 |c::r,h=>by
  have a0:∀(r:List Nat) (s:Sd×Sd),(∀c∈r,c<36)->OkSd x s.1/\OkSd y s.2->OkSd x (r.foldl (fun s c=>(et x s.1 c,et y s.2 c)) s).1/\OkSd y (r.foldl (fun s c=>(et x s.1 c,et y s.2 c)) s).2:=by
   intro r
   induction r with
   |nil=>intro s _ h;exact h
   |cons d r ih=>intro s hr h;exact ih _ (fun c hc=>hr c (by simp[hc])) ⟨A4 hx h.1 (hr d (by simp)),A4 hy h.2 (hr d (by simp))⟩
  exact a0 r _ (fun d hd=>h d (by simp[hd])) ⟨xk hx ha (h c (by simp)),xk hy hb (h c (by simp))⟩
theorem Okd.sd{x y:JA}{Pr:List (Nat×Nat)}(hx:KK x)(hy:KK y)(hP:PrOk x y Pr){s:Df}(h:Okd x y Pr s):(OkSd x s.1/\OkSd y s.2.1)/\s.2.2.2.2<=4:=by
 obtain⟨a,b,cs,bg,kp,a0,hl,hc,rfl⟩:=h;exact⟨Gs hx hy (hP.row a b a0).1 (hP.row a b a0).2 cs hc,hl⟩
theorem BQ{S:Nat->Prop}{O O':Nat->Nat}{w w':ln}(u:Jr S O w O' w'){a:Addr}{v:ix}(h:w.cell? a=some v)(hn:¬S (O a.block)):w'.cell? a=some v:=by
 unfold World.cell? at h ⊢
 by_cases hb:a.block<w.heap.size
 ·rw[u.blk a.block hb hn];exact h
 rw[Array.getElem?_eq_none zo]at h;cases h
structure InB(W:ln)(tb:Nat)(t:JA)(gv:ix)(lc rc:List ix):Prop where
 c:∀(j:Nat) (u:ix),(bn t.ig t.kp t.br t.rules gv lc rc)[j]? = some u->W.cell? (nA tb j)=some u
 t:TbW W t gv lc rc
theorem IQ{W:ln}{tb:Nat}{t:JA}{gv:ix}{lc rc:List ix}(h:InB W tb t gv lc rc)(ho:KK t){c:Nat}(hc:c<37):SeeT W tb t gv lc rc c:=by
 refine⟨h.c 4 gv rfl,fun j u hu=>by rw[Jz];exact h.c _ _ (Dk _ _ _ _ _ _ _ j u hu),fun j u hu=>by rw[Jz];exact h.c _ _ (Dj _ _ _ _ _ _ _ h.t.l.one.1 j u hu),?_⟩;have a0:=ho.gl;have:=h.t.g.cell (i:=c) (j:=0) zo rfl;rw[ax,(ho.gN hc).1]at this;exact this
theorem InB.ext{W W':ln}{tb:Nat}{t:JA}{gv:ix}{lc rc:List ix}(h:InB W tb t gv lc rc)(e:JM W W'):InB W' tb t gv lc rc:=⟨fun j u hu=>e.cell (h.c j u hu),h.t.ext e⟩
theorem InB.upd{S:Nat->Prop}{O O':Nat->Nat}{W W':ln}{tb:Nat}{t:JA}{gv:ix}{lc rc:List ix}(h:InB W tb t gv lc rc)(F:Mg O W (gv::(lc++rc)))(u:Jr S O W O' W')(hn:¬S (O tb)):InB W' tb t gv lc rc:=
 ⟨fun j v hv=>BQ u (h.c j v hv) (by show¬S (O (MA ⟨tb,0,none⟩ j).block);unfold MA;split<;>exact hn),h.t.updF F u⟩
theorem xn{O:Nat->Nat}{w:ln}{cs:List ix}{T:Nat}(h:Mg O w cs):Mg (lowT O T) w cs:=fun v hv=>freeLow (h v hv)
section
variable{w:ln}{x y:JA}{gx:ix}{lx rx:List ix}{gy:ix}{ly ry:List ix}{Pr:List (Nat×Nat)}
theorem Io:ck Jt 135 #[(0,17),(17,17),(34,1),(35,1)]:=⟨_,underlying135,fun w=>by kernel_rfl⟩
theorem nO(tx:TbW w x gx lx rx)(ty:TbW w y gy ly ry)(hx:KK x)(hy:KK y)(hP:PrOk x y Pr)(hB:cP w):
  Kx Jt 29 [xT x gx lx rx,xT y gy ly ry] w fun v w'=>JM w w'/\(gD x y=false->v=.tuple #[nS,.bool false])/\(gD x y=true->∃iv,v=.tuple #[iv,.bool true]/\M1 w' iv (Ds (bz x y).1 ((bz x y).2+1) (bz x y).2).reverse/\NewV w.heap.size iv):=by
 have tF:=dQ tx.g tx.l tx.r;have tG:=dQ ty.g ty.l ty.r;have b2:¬(1<=0):=zd;obtain⟨p0,p1,p2,p3,p4,p5,rfl⟩:=six tx.l.one.1;obtain⟨q0,q1,q2,q3,q4,q5,rfl⟩:=six tx.r.one.1;obtain⟨r0,r1,r2,r3,r4,r5,rfl⟩:=six ty.l.one.1;obtain⟨s0,s1,s2,s3,s4,s5,rfl⟩:=six ty.r.one.1;have d6:=tx.len;have d5:=ty.len;have i5:∀ {s:Df},Okd x y Pr s->G7 s:=fun h=>⟨Gj hx tx (h.sd hx hy hP).1.1,Gj hy ty (h.sd hx hy hP).1.2,La (h.sd hx hy hP).2 zd⟩
 have m6:=hx.gl;have m5:=hy.gl;have g5:=hx.gN (c:=36) zd;have g4:=hy.gN (c:=36) zd;have l5:=hx.lN hx.lp (c:=36) zd;have l4:=hy.lN hy.lp (c:=36) zd;refine J1 func29 ntmps29 rfl rfl ?_;refine zh ?_;refine aE (ar w) 4 zo rfl rfl ?_;intro ab w1 O1 i6 j0 j1 m2;refine aE j1 5 zo rfl rfl ?_;intro bb w2 O2 g8 h3 e6 d3;have b':=i6.upd h3 zd zd;have ac:∀W,JM w2 W->∀(j:Nat) (u:ix),(bn x.ig x.kp x.br x.rules gx [p0,p1,p2,p3,p4,p5] [q0,q1,q2,q3,q4,q5])[j]? = some u->W.cell? (nA ab j)=some u:=fun W e j u hu=>e.cell (b'.cellsAdd j u hu)
 have bc:∀W,JM w2 W->∀(j:Nat) (u:ix),(bn y.ig y.kp y.br y.rules gy [r0,r1,r2,r3,r4,r5] [s0,s1,s2,s3,s4,s5])[j]? = some u->W.cell? (nA bb j)=some u:=fun W e j u hu=>e.cell (g8.cellsAdd j u hu)
 refine zh ?_;refine WC.scope ?_
 refine zh ?_;refine zv (af (us:=bn x.ig x.kp x.br x.rules gx [p0,p1,p2,p3,p4,p5] [q0,q1,q2,q3,q4,q5]) (ac w2 (ka _)) (Jk _) (J3 _) rfl) ?_
 refine zv (af (us:=bn y.ig y.kp y.br y.rules gy [r0,r1,r2,r3,r4,r5] [s0,s1,s2,s3,s4,s5]) (bc w2 (ka _)) (Jk _) (J3 _) rfl) ?_;refine aS kvD JR e6 2 zd rfl ?_
 intro r w3 O3 i1 e' d1;refine zv (JS (cells:=(bn x.ig x.kp x.br x.rules gx [p0,p1,p2,p3,p4,p5] [q0,q1,q2,q3,q4,q5]++(bn y.ig y.kp y.br y.rules gy [r0,r1,r2,r3,r4,r5] [s0,s1,s2,s3,s4,s5]++[Value.map (some r),nS])).toArray) Io (zeroValue135 _) rfl zk) ?_;refine aE d1 1 zo rfl rfl ?_;intro xb w4 O4 h7 a6 c5 m0;have a4:Jr (fun q=>q=1\/q=2\/4<=q) (fun _=>0) w O4 w4:=(((j0.mono (fun _ h=>.inr (.inr zo)) zd).trans (h3.mono (fun _ h=>.inr (.inr zo)) zd)).trans (e'.mono (fun _ h=>.inr (.inl h)) zd)).trans (a6.mono (fun _ h=>.inl h) zd);have i0:=i1.upd a6 zd zd;have b9:=(b'.upd e' zd zd).upd a6 zd zd;have b8:=(g8.upd e' zd zd).upd a6 zd zd;have c9:=Ml tF a4;have c7:=Ml tG a4;have b7:InB w4.drew ab x gx [p0,p1,p2,p3,p4,p5] [q0,q1,q2,q3,q4,q5]:=InB.ext ⟨fun j u hu=>b9.cellsAdd j u hu,tx.updF tF a4⟩ (ka w4).drew;have b6:InB w4.drew bb y gy [r0,r1,r2,r3,r4,r5] [s0,s1,s2,s3,s4,s5]:=InB.ext ⟨fun j u hu=>b8.cellsAdd j u hu,ty.updF tG a4⟩ (ka w4).drew;refine zh ?_;refine aG (fun W=>InB W ab x gx [p0,p1,p2,p3,p4,p5] [q0,q1,q2,q3,q4,q5]/\InB W bb y gy [r0,r1,r2,r3,r4,r5] [s0,s1,s2,s3,s4,s5]) 20 rfl zk ?_;refine zin ⟨b7,b6⟩ fun zS=>?_
 refine zrm 0 rfl zS rfl ?_;refine zrf 1 rfl zS rfl ?_
 refine zt 2 rfl zS (fun w1 a0=>af (us:=[p0,p1,p2,p3,p4,p5]) (IQ a0.1 hx (c:=36) zd).fl (Lq _) (L6 _) rfl) ?_;refine zrf 3 rfl zS rfl ?_
 refine zt 4 rfl zS (fun w1 a0=>RV.ld (by first|exact(IQ a0.1 hx (c:=36) zd).fg|exact(IQ a0.1 hx (c:=36) zd).fc|exact(IQ a0.2 hy (c:=36) zd).fg|exact(IQ a0.2 hy (c:=36) zd).fc) rfl) ?_;refine zr 5 rfl zS (fun _=>ai tx.g.sh Jj (Ju _) rfl rfl 36 rfl zo) ?_
 refine zt 6 rfl zS (fun w1 a0=>RV.ld (by first|exact(IQ a0.1 hx (c:=36) zd).fg|exact(IQ a0.1 hx (c:=36) zd).fc|exact(IQ a0.2 hy (c:=36) zd).fg|exact(IQ a0.2 hy (c:=36) zd).fc) rfl) ?_;refine zrf 9 rfl zS rfl ?_
 refine zt 10 rfl zS (fun w1 a0=>af (us:=[r0,r1,r2,r3,r4,r5]) (IQ a0.2 hy (c:=36) zd).fl (Lq _) (L6 _) rfl) ?_;refine zrf 11 rfl zS rfl ?_
 refine zt 12 rfl zS (fun w1 a0=>RV.ld (by first|exact(IQ a0.1 hx (c:=36) zd).fg|exact(IQ a0.1 hx (c:=36) zd).fc|exact(IQ a0.2 hy (c:=36) zd).fg|exact(IQ a0.2 hy (c:=36) zd).fc) rfl) ?_;refine zr 13 rfl zS (fun _=>ai ty.g.sh Jj (Ju _) rfl rfl 36 rfl zo) ?_
 refine zt 14 rfl zS (fun w1 a0=>RV.ld (by first|exact(IQ a0.1 hx (c:=36) zd).fg|exact(IQ a0.1 hx (c:=36) zd).fc|exact(IQ a0.2 hy (c:=36) zd).fg|exact(IQ a0.2 hy (c:=36) zd).fc) rfl) ?_;refine J0 7 zk rfl ?_
 refine zc LY (gZ [p0,p1,p2,p3,p4,p5] x.left x.lt 0 (grT x 36) w4.drew b7.t.l hx.okl hx.lp g5.2) ?_;rintro _ w5 ⟨rfl,b4⟩;rw[l5.1];refine zh ?_
 refine ae (⟨b7.ext b4,b6.ext b4⟩) ?_;refine zr 8 rfl (⟨b7.ext b4,b6.ext b4⟩) (fun _=>aF (cells:=(bI (stL x 0 36,0,0,0)).toArray) Cn (K0 _) rfl rfl rfl rfl) ?_
 refine J0 15 zk rfl ?_;refine zc LY (gZ [r0,r1,r2,r3,r4,r5] y.left y.lt 0 (grT y 36) w5 (b6.ext b4).t.l hy.okl hy.lp g4.2) ?_
 rintro _ w6 ⟨rfl,e7⟩;have d2:=b4.trans e7;rw[l4.1];refine zh ?_;refine zaf (⟨b7.ext d2,b6.ext d2⟩) fun zS=>?_
 refine zr 16 rfl zS (fun _=>aF (cells:=(bI (stL y 0 36,0,0,0)).toArray) Cn (K0 _) rfl rfl rfl rfl) ?_;refine zr 17 rfl zS (fun _=>JS (cells:=(bM (oO x y)).toArray) Cm (Kb _) rfl zk) ?_
 have e2:=aa (S:=fun q=>q=6) zd O4 ((ka w4).drew.trans d2);refine J0 18 zk rfl ?_;refine iu FB (enc:=bM) (oO x y) (c5.upd e2) 6 zd rfl rfl rfl zd rfl ?_;intro v7 w7 O7 f6 e9 h4;have a1:=e2.trans e9;have na:O4 ab=4:=b9.tag;have nb:O4 bb=5:=b8.tag;have j':O7 ab=4:=by rw[a1.tag ab zo,na]
 have j9:O7 bb=5:=by rw[a1.tag bb zo,nb]
 have a':=(b7.ext d2).upd (c9.upd e2) e9 (by rw[na];decide);have a9:=(b6.ext d2).upd (c7.upd e2) e9 (by rw[nb];decide);refine zh ?_;refine ae (⟨a',a9⟩) ?_;have c8:=c9.upd a1;have c6:=c7.upd a1;have d4:SeaO O7 w7 1 xb x y gx [p0,p1,p2,p3,p4,p5] [q0,q1,q2,q3,q4,q5] gy [r0,r1,r2,r3,r4,r5] [s0,s1,s2,s3,s4,s5] r (nS) [] []:=⟨h7.upd a1 zd zd,⟨[],i0.upd a1 zd zd,fun k=>rfl⟩,JJ _ _ _ _ _ _,⟨rfl,fun j hj=>absurd hj (JK j)⟩,a'.t,a9.t,c8,c6⟩
 have j3:=InvG.beg (x:=x) (y:=y) hP;have e4:Jr (fun q=>1<=q) (fun _=>0) w O7 w7:=(a4.mono (fun _ h=>zo) b2).trans (a1.mono (fun _ h=>zo) b2);refine J0 19 zk rfl ?_;refine zc call53 (tI w.heap.size d4.low zd (h4.lowT _) (qP zd) (-1) 0 [oO x y] v7 f6.sl (iA f6 h4 ⟨zd,zd⟩) (fun s hs=>by rw[J5.1 hs];exact i5 (j3.ok _ (by simp[Bz,aZ]))) (by simp) (by simp)) ?_;rintro _ w8 ⟨O8,k0,j6,b5,d',d0,f3⟩;rw[C3]at b5;have l7:∀b,4<=O7 b->lowT O7 (1+3) b=0:=fun b h=>by unfold lowT;rw[if_pos h]
 refine zh ?_;refine ae (⟨a'.upd (xn c8) d0 (by rw[l7 ab zo];decide),a9.upd (xn c6) d0 (by rw[l7 bb zo];decide)⟩) ?_
 have i8:Jr (fun q=>1<=q) (fun _=>0) w O8 w8:=(e4.lowT (T:=1+3) (fun _=>zd) (fun _ h=>h) b2).trans (d0.mono (fun _ h=>h.1) b2);clear d6 d5 b7 b6 a' a9 d4 e4 d0 h4 a1 e9 e2 d2 e7 b4 c8 c6 c9 c7 f6 b9 b8 i0 a4 h7 a6 m0 i1 e' d1 c5 ac bc b' i6 g8 j0 h3 j1 e6 m2 d3 na nb j' j9 l7;refine Ji zk ?_;refine zh ?_;refine WC.label ?_;refine zh ?_;refine zlp (fun z:Nat×(Nat->Nat)×World×ix×List Gv×List Gp=>[(6,nP xb),(7,nI z.1)]) (fun z=>z.2.2.1) (fun z=>SeaO z.2.1 z.2.2.1 1 xb x y gx [p0,p1,p2,p3,p4,p5] [q0,q1,q2,q3,q4,q5] gy [r0,r1,r2,r3,r4,r5] [s0,s1,s2,s3,s4,s5] r z.2.2.2.1 z.2.2.2.2.1 z.2.2.2.2.2/\(∀b,z.2.1 b<4)/\InvG x y Pr z.2.2.2.2.2/\z.1<=z.2.2.2.2.2.length/\cJ x y (100000000000000-z.1) z.2.2.2.2.2 z.1=bz x y/\Jr (fun q=>1<=q) (fun _=>0) w z.2.1 z.2.2.1/\KX w.heap.size z.2.1 z.2.2.1) (fun z=>100000000000000-z.1) (0,O8,w8,k0,j6,Bz x y) (⟨b5,d',j3,Jq _,rfl,i8,f3⟩) ?_;clear b5 d' i8 f3;rintro⟨i,O1,w1,lv,vs,l⟩ ⟨hS,g2,hI,hi,a7,hV,hR⟩;dsimp only at hS g2 hI hi a7 hV hR ⊢;have hE:=hV.ext;have j5:cP w1:=bf hB hE;have l3:=hI.few hP;have h8:=hS.grp.1;have i2:=hS.row.sl;refine zh ?_;refine zvH (RV.ld hS.sea.cl rfl) ?_;refine zC ?_ ?_
 ·intro a3;replace a3:i<l.length:=dT a3;have hg:=hS.grp.2 i a3;have b0:w1.cell? ((adr lv 3 i).add 0)=some (nth vs i).1:=i2.cell (i:=i) (j:=0) zo rfl;rw[ax]at b0;refine zh ?_;refine zvH (RV.ld (by first|exact hS.sea.cl|exact b0) rfl) ?_;refine zvH (RV.ld (by first|exact hS.sea.cl|exact b0) rfl) ?_;refine zv (dw rfl rfl) ?_;refine zc call55 (rm hS.sea hx hy (nth l i).1 (nth vs i).1 hg.2.1 (fun s hs=>(Okd.sd hx hy hP (hI.ok s (qK a3 hs))).1) j5) ?_;rintro _ w2 ⟨rfl,d3⟩;have g9:=aa (S:=fun q=>4<=q) zd O1 d3;have b3:=hS.upd zd g9 (by intro q h1 h2;omega);have l1:=b3.grp.2 i a3;have e6:=hR.upd g9;have c':=hE.trans d3;have i9:=hV.trans (aa (S:=fun q=>1<=q) b2 O1 d3);refine zh ?_;refine zC ?_ ?_
  ·intro hp;rw[uz hp]at a7;refine zh ?_;refine zv (RV.ld b3.sea.cl rfl) ?_;refine zvH (L3 (by first|exact b3.row.sl) Mt rfl) ?_;refine zFH rfl (decide_eq_false zo) ?_;refine zc call58 (CZ b3.sea l vs b3.row.sl ⟨h8,fun j hj=>(b3.grp.2 j hj).1⟩ hI.par i a3 zo) ?_;rintro iv w3 ⟨k9,m1,l'⟩;refine zh ?_;refine eN ?_;have g7:gD x y=true:=by unfold gD;rw[<-a7];exact decide_eq_true a3
   refine bx rfl rfl rfl (⟨c'.trans m1,fun h=>(by rw[g7]at h;cases h),fun _=>⟨iv,rfl,by rw[<-a7];exact k9,l'.mono c'.size⟩⟩)
  intro hp;have k5:(nth l i).1.any (dW x y)≠true:=by rw[hp];decide
  rw[xV zo a3 k5]at a7;have l0:=tu l i a3;obtain⟨g,e8⟩:∃g,g=(nth l i).1:=⟨_,rfl⟩
  have k4:∀c,c<=36->InvG x y Pr (ee x y g i c l):=fun c hc=>by rw[e8];exact hI.round hP a3 c hc
  have f':=fun c=>fz x y g i l c
  rw[<-e8]at l0 a7;have i3:∀s∈g,Okd x y Pr s:=fun s hs=>hI.ok s (qK a3 (by rw[<-e8];exact hs))
  clear hS hg hR i2 b0 g9 l1;refine zh ?_;refine zlp (fun z:Nat×(Nat->Nat)×World×ix×List Gv=>[(6,nP xb),(7,nI i),(57,nI z.1)]) (fun z=>z.2.2.1) (fun z=>SeaO z.2.1 z.2.2.1 1 xb x y gx [p0,p1,p2,p3,p4,p5] [q0,q1,q2,q3,q4,q5] gy [r0,r1,r2,r3,r4,r5] [s0,s1,s2,s3,s4,s5] r z.2.2.2.1 z.2.2.2.2 (ee x y g i z.1 l)/\(∀b,z.2.1 b<4)/\z.1<=36/\Jr (fun q=>1<=q) (fun _=>0) w z.2.1 z.2.2.1/\KX w.heap.size z.2.1 z.2.2.1) (fun z=>36-z.1) (0,O1,w2,lv,vs) (⟨b3,g2,Jq _,i9,e6⟩) ?_;clear b3 g2 c' i9 e6 d3 hV hE j5 h8;rintro⟨c,O3,w3,h6,f4⟩ ⟨b1,e0,hc,g',d1⟩;dsimp only at b1 e0 hc g' d1 ⊢;have j2:=k4 c hc;have i4:=j2.few hP;have k2:=b1.grp.1;obtain⟨m4,k6,_,_⟩:=f' c;have k':i<(ee x y g i c l).length:=zo;have e1:=b1.grp.2 i k';rw[k6 i a3,<-e8]at e1;have g3:=b1.row.sl;refine zh ?_;refine zC ?_ ?_
  ·intro a2;replace a2:c<36:=dT a2;have b0:w3.cell? ((adr h6 3 i).add 0)=some (nth f4 i).1:=g3.cell (i:=i) (j:=0) zo rfl;rw[ax]at b0;obtain⟨m3,g6⟩:∃u,u=(nth f4 i).1:=⟨_,rfl⟩
   rw[<-g6]at b0 e1;refine zh ?_;refine zvH (RV.ld (by first|exact b1.sea.cl|exact b0) rfl) ?_;refine zv (RV.ld (by first|exact b1.sea.cl|exact b0) rfl) ?_;refine zvH (L3 (by first|exact e1.2.1) Le rfl) ?_;refine zlp (fun z:Nat×(Nat->Nat)×World×ix=>[(6,nP xb),(7,nI i),(8,nI c),(9,z.2.2.2),(57,nI c),(67,m3),(68,nI g.length),(69,nI z.1)]) (fun z=>z.2.2.1) (fun z=>z.1<=g.length/\KJ bM 141 11 z.2.1 z.2.2.1 7 z.2.2.2 ((g.take z.1).flatMap fun s=>rh x y s c)/\Jr (fun q=>4<=q) O3 w3 z.2.1 z.2.2.1/\KX w.heap.size z.2.1 z.2.2.1) (fun z=>g.length-z.1) (0,O3,w3,nS) (⟨Jq _,JJ _ _ _ _ _ _,KI zd _ _,d1⟩) ?_;rintro⟨k,O4,w4,nv⟩ ⟨hk,a5,a6,c5⟩;dsimp only at hk a5 a6 c5 ⊢;have l8:=b1.upd zd a6 (by intro q h1 h2;omega);have f7:=e1.2.1.upd e1.2.2 a6;have k8:=dL (fun s=>rh x y s c) 2 (g.take k) fun s _=>rf x y s c
   rw[LC]at k8;refine zh ?_;refine zC ?_ ?_
   ·intro a8;replace a8:k<g.length:=dT a8;have h9:g.take (k+1)=g.take k++[nth g k]:=aM a8;have g0:=i3 _ (aI a8);obtain⟨s,h'⟩:∃s,s=nth g k:=⟨_,rfl⟩
    rw[<-h']at h9 g0;refine zh ?_;refine zv (af (us:=bM s) (fun j u hu=>f7.cells k a8 j u (by rw[<-aB a8,<-h'];exact hu)) (KB _) (K5 _) rfl) ?_;refine aw c5 8 zo (Kb _) rfl ?_;intro sb w5 O5 f9 h0 h5 b4;refine zsa (us:=(bM s).toArray) f9 (K5 _) ?_;have f8:=f9.setRow (us:=(bM s).toArray);have e3:Jr (fun q=>q=8) O5 w5 O5 (w5.setRow sb (bM s).toArray):=J6 zo f9.tag rfl;have i':=h0.trans e3;have l9:=h5.upd e3;generalize w5.setRow sb (bM s).toArray=w6 at *;have d9:=a5.upd i' zd zd;have e5:=a6.trans (i'.mono (fun _ h=>zo) zd);have l6:=b1.upd zd e5 (by intro q h1 h2;omega);refine zh ?_;refine zvH (af (us:=bM s) (iz f8) (KB _) (K5 _) rfl) ?_;refine zc call57 (vl l6.sea hx hy s (g0.sd hx hy hP).1.1 (g0.sd hx hy hP).1.2 c a2) ?_;rintro fv w7 ⟨l2,j4⟩;have i7:=aa (S:=fun q=>4<=q) zd O5 j4;have d8:=d9.upd (aa (S:=fun _=>False) (fun h=>h) O5 j4) zd (fun h=>h);have m7:=rf x y s c;refine de FB d8 (l9.upd i7) l2 rfl rfl (fun _ _=>rfl) (fun u _=>Iu u) zo zo zd rfl ?_;intro j8 w8 O8 d7 d0 f3;refine zh ?_;refine zxd (k+1,O8,w8,j8) (⟨a8,by rw[h9,List.flatMap_append];simpa using d7,(e5.trans i7).trans (d0.mono (fun _ h=>zo) zd),f3⟩)
   intro a8;obtain rfl:k=g.length:=dF a8;rw[KN]at a5;have k7:=dL (fun s=>rh x y s c) 2 g fun s _=>rf x y s c
   refine zh ?_;refine zc call53 (tI w.heap.size l8.low zd (c5.lowT _) (qP zd) (i:Nat) (c:Nat) (g.flatMap fun s=>rh x y s c) nv a5.sl (iA a5 c5 ⟨zd,zd⟩) (fun s hs=>by obtain⟨s',k3,hs⟩:=LB.1 hs;exact i5 (Okd.fol hP (i3 s' k3) a2 s hs)) zo zo) ?_
   rintro _ w5 ⟨O5,k1,j7,f5,g1,h0,h5⟩;refine zh ?_;refine zxd (c+1,O5,w5,k1,j7) (⟨f5,g1,a2,((g'.trans (a6.mono (fun _ h=>zo) b2)).lowT (T:=1+3) (fun _=>zd) (fun _ h=>h) b2).trans (h0.mono (fun _ h=>h.1) b2),h5⟩)
  intro a2;obtain rfl:c=36:=dF a2;refine zh ?_;refine zxd (i+1,O3,w3,h6,f4,ee x y g i 36 l) (⟨b1,e0,j2,by dsimp only;omega,by rw[Nat.sub_add_eq];exact a7,g',d1⟩)
 intro a3;obtain rfl:i=l.length:=dF a3;rw[sq (Me _)]at a7;refine zh ?_;refine zvH (RV.ld hS.sea.cl rfl) ?_;refine zTH rfl (decide_eq_true zo) ?_;refine eN ?_;have g7:gD x y=false:=by unfold gD;rw[<-a7];exact decide_eq_false (Me _)
 refine bx rfl rfl rfl (⟨hE,fun _=>rfl,fun h=>(by rw[g7]at h;cases h)⟩)
end
end Go.Proofs.YtjemhjcngaokpaaGreatDoor
end
namespace Go.VL
section
variable{P:Program}{N:Nat}{st:St}{w:ln}
variable{t xt yt:Mq}{x y:Operand}{k:IntKind}{m n:Int}{a b:Nat}
theorem DV(ha:(a:Int)<=k.max)(hb:(b:Int)<=k.max):(binOp .xor xt (.int k a) (.int k b)).run P w=.ok (.int k ((a ^^^ b:Nat):Int)) w:=by
 rw[binOp_xor];have h:((a ^^^ b:Nat):Int)<=k.max:=(lG k _).2 (Lt ((lG k a).1 ha) ((lG k b).1 hb));simp only[Op.intBits,BitVec.toNat_xor,fG _ _ (max_lt k ha),fG _ _ (max_lt k hb),mL k h];rfl
theorem FL(hx:ev st x=some (.int k m))(hy:ev st y=some (.int k n))(hm:m=a)(hn:n=b)(ha:(a:Int)<=k.max)(hb:(b:Int)<=k.max):RV P N (.binOp .xor xt x y yt) t st w (.int k ((a ^^^ b:Nat):Int)):=by
 subst hm;subst hn;exact eY hx hy (DV ha hb)
end
end Go.VL
namespace Go.Proofs.YtjemhjcngaokpaaGreatDoor
abbrev B9(t:JA)(k:Nat):JA:={t with br:=t.br ^^^ 2^k}
def rz(t:JA)(k:Nat):Bool:=gD t (B9 t k)
def lL(t:JA)(n:Nat):List Int:=((JN n).filter fun k=>!rz t k).map fun k:Nat=>(k:Int)
theorem pR(t:JA)(n:Nat):lL t (n+1)=if rz t n=true then lL t n else lL t n++[(n:Int)]:=by
 unfold lL;rw[List.range_succ,List.filter_append,List.map_append]
 cases h:rz t n<;>simp[h]
theorem A1(t:JA)(n:Nat):(lL t n).length<=n:=by
 unfold lL;rw[List.length_map];exact La (List.length_filter_le _ _) (by simp)
theorem jA{t:JA}(h:bW t=true):0<=t.rules/\t.rules<=40:=by
 unfold bW at h;simp only[JP,Kd,JO,decide_eq_false_iff_not]at h;obtain⟨⟨⟨⟨h1,h2⟩,_⟩,_⟩,_⟩:=h;omega
theorem zl{b k:Nat}(hb:b<2^40)(hk:k<40):b ^^^ 2^k<2^40:=Lt hb (Li zd hk)
theorem DL{t:JA}(h:KK t){k:Nat}(hk:k<40):KK (B9 t k):=
 ⟨h.okl,h.okr,h.gl,h.gr,h.ll,h.rl,h.lp,h.rp,h.lst,h.rst,h.ig,h.kp,zl h.br hk,h.lt,h.rt⟩
section
variable{w:ln}{t:JA}{gv:ix}{lc rc:List ix}
theorem nR(hT:TbW w t gv lc rc)(ho:KK t)(kx:t.left.usual.length<=1000)(k:Nat)(hk:k<40)(hB:cP w):
  Kx Jt 23 [xT t gv lc rc,nI (k:Nat)] w fun v w'=>v=.bool (rz t k)/\JM w w':=by
 have tF:=dQ hT.g hT.l hT.r;have b4:=hT.len;obtain⟨p0,p1,p2,p3,p4,p5,rfl⟩:=six hT.l.one.1;obtain⟨q0,q1,q2,q3,q4,q5,rfl⟩:=six hT.r.one.1;have b2:(2^40:Nat)=1099511627776:=zd;have b6:=ho.br;have c7:=zl b6 hk;have h2k:(2^k:Nat)<2^40:=Li zd hk;have b0:=(hT.l.one.2)
 have a':=(hT.r.one.2)
 have b5:=hT.g.one;simp only[Jl,JD,or_false,forall_eq_or_imp,forall_eq]at b0 a';refine J1 func23 ntmps23 rfl rfl ?_;refine zh ?_;refine aE (ar w) 1 zo rfl rfl ?_;intro tb w1 O1 a9 b' c5 c';refine zh ?_;refine zv (af (us:=bn t.ig t.kp t.br t.rules gv [p0,p1,p2,p3,p4,p5] [q0,q1,q2,q3,q4,q5]) (fun j u hu=>a9.cellsAdd j u hu) (Jk _) (J3 _) rfl) ?_;refine aw c5 2 zo (K7 _) rfl ?_;intro ub w2 O2 a5 b9 c8 c9;refine zsb (us:=(bn t.ig t.kp t.br t.rules gv [p0,p1,p2,p3,p4,p5] [q0,q1,q2,q3,q4,q5]).toArray) a5 (J3 _) (by have hi:∀k n,(L2 k n).oneCell'=true:=fun _ _=>rfl;simp[b5,b0,a',hi]) ?_;have a4:=a5.setRow (us:=(bn t.ig t.kp t.br t.rules gv [p0,p1,p2,p3,p4,p5] [q0,q1,q2,q3,q4,q5]).toArray);have b8:=b9.trans (J6 (us:=(bn t.ig t.kp t.br t.rules gv [p0,p1,p2,p3,p4,p5] [q0,q1,q2,q3,q4,q5]).toArray) zd a5.tag rfl);generalize w2.setRow ub (bn t.ig t.kp t.br t.rules gv [p0,p1,p2,p3,p4,p5] [q0,q1,q2,q3,q4,q5]).toArray=w3 at *;have hub3d:=a4.drew;have c2:w3.drew.cell? (nA ub 2)=some (.int .u64 (t.br:Int)):=hub3d.cellsAdd 2 _ rfl;refine zh ?_;refine JY 6 rfl rfl zk zk ?_;refine zh ?_;refine zw (rL (a:=1) (b:=k) rfl rfl rfl rfl (by show _<=64;omega) (by show _<=(18446744073709551615:Int);omega)) ?_
 refine zwH (FL (a:=t.br) (b:=1*2^k) rfl rfl rfl rfl (by show _<=(18446744073709551615:Int);omega) (by show _<=(18446744073709551615:Int);omega)) ?_;refine Kw ?_
 refine aj (j:=2) hub3d rfl (KU _) rfl rfl rfl rfl ?_;have a0:=hub3d.set 2 (.int .u64 ((t.br ^^^ 1*2^k:Nat):Int));have a7:Jr (fun q=>q=2) O2 w3.drew O2 (w3.drew.setCell ⟨ub,2,none⟩ (.int .u64 ((t.br ^^^ 1*2^k:Nat):Int))):=Jp zd hub3d.tag rfl;have b1:=b8.drew.trans a7;generalize w3.drew.setCell ⟨ub,2,none⟩ (.int .u64 ((t.br ^^^ 1*2^k:Nat):Int))=w4 at *;rw[Nat.one_mul]at a0;have a6:=a9.upd b1 zd zd;have b7:Jr (fun q=>q=1\/q=2) (fun _=>0) w O2 w4:=(b'.mono (fun _ h=>.inl h) zd).trans (b1.mono (fun _ h=>.inr h) zd);have a8:=b7.ext;refine zh ?_
 refine zv (af (us:=bn t.ig t.kp t.br t.rules gv [p0,p1,p2,p3,p4,p5] [q0,q1,q2,q3,q4,q5]) (fun j u hu=>a6.cellsAdd j u hu) (Jk _) (J3 _) rfl) ?_;refine zv (af (us:=bn t.ig t.kp (t.br ^^^ 2^k) t.rules gv [p0,p1,p2,p3,p4,p5] [q0,q1,q2,q3,q4,q5]) (fun j u hu=>a0.cellsAdd j u hu) (Jk _) (J3 _) rfl) ?_
 have a2:=hT.ext a8;refine zc call29 (nO (x:=t) (y:=B9 t k) (Pr:=(JN t.left.usual.length).map fun a=>(a,a)) a2 ⟨a2.g,a2.l,a2.r⟩ ho (DL ho hk) (sI ho _ kx) (bf hB a8)) ?_;rintro v w5 ⟨c6,b3,a3⟩;have a1:=a8.trans c6
 cases hf:gD t (B9 t k)with
 |false=>
  rw[b3 hf];refine zh ?_;refine ah rfl rfl (⟨congrArg JR (show false=rz t k from hf.symm),a1⟩)
 |true=>
  obtain⟨iv,hv,_⟩:=a3 hf;rw[hv];refine zh ?_;refine ah rfl rfl (⟨congrArg JR (show true=rz t k from hf.symm),a1⟩)
theorem vo(hT:TbW w t gv lc rc)(ho:KK t)(a6:bW t=true)(kx:t.left.usual.length<=1000)(a0:Int)(hB:cP w):
  Kx Jt 8 [xT t gv lc rc,nI a0] w fun v w'=>JM w w'/\v=if 0<=a0/\a0<t.rules then .tuple #[.bool (rz t a0.toNat),nI 0]else .tuple #[.bool false,nI 2]:=by
 have a9:=jA a6;obtain⟨b2,b1⟩:=hT.l.one;obtain⟨b0,a'⟩:=hT.r.one;have a2:=hT.len;refine J1 func8 ntmps8 rfl rfl ?_;refine zh ?_;refine aE (ar w) 1 zo rfl rfl ?_;intro tb w1 O1 a7 b3 b4 a4;have tc:∀W,JM w1 W->∀(j:Nat) (u:ix),(bn t.ig t.kp t.br t.rules gv lc rc)[j]? = some u->W.cell? (nA tb j)=some u:=fun W e j u hu=>e.cell (a7.cellsAdd j u hu)
 refine zh ?_;refine zv (af (us:=bn t.ig t.kp t.br t.rules gv lc rc) (tc w1 (ka _)) (Jk _) (by rw[a2];exact J3 _) rfl) ?_
 refine zc Mp (dR t _ w1 ⟨gv,lc,rc,rfl,hT.g.ext a4,hT.l.ext a4,hT.r.ext a4⟩) ?_;rintro _ w2 ⟨rfl,a5⟩;rw[a6];have a1:=a4.trans a5;refine zh ?_
 refine zFH rfl rfl ?_;refine bN (fun w1=>_=w1) (decide (t.rules<=a0)) 4 (rfl) rfl rfl rfl rfl rfl ?_ ?_
 ·intro hb;refine zh ?_;refine zvH (RV.ld (tc w2 a5 3 _ rfl) rfl) ?_;refine nE 13 5 (rfl) hb
 rintro _ rfl;refine zh ?_;refine zC ?_ ?_
 ·intro hc;have a3:¬(0<=a0/\a0<t.rules):=by simp only[KS,decide_eq_true_eq]at hc;omega
  rw[if_neg a3];refine zh ?_;refine bx rfl rfl rfl (⟨a1,rfl⟩)
 intro hc;have a3:0<=a0/\a0<t.rules:=by simp only[JO,decide_eq_false_iff_not]at hc;omega
 rw[if_pos a3];obtain⟨k,rfl⟩:=JE a3.1;refine zh ?_;refine zvH (af (us:=bn t.ig t.kp t.br t.rules gv lc rc) (tc w2 a5) (Jk _) (by rw[a2];exact J3 _) rfl) ?_;refine zc call23 (nR (hT.ext a1) ho kx k zo (bf hB a1)) ?_;rintro _ w3 ⟨rfl,a8⟩;refine zh ?_;refine bx rfl rfl rfl (⟨a1.trans a8,rfl⟩)
theorem Bu(hT:TbW w t gv lc rc)(ho:KK t)(a':bW t=true)(kx:t.left.usual.length<=1000)(hB:cP w):
  Kx Jt 9 [xT t gv lc rc] w fun v w'=>JM w w'/\M1 w' v (lL t t.rules.toNat):=by
 have b5:=jA a';obtain⟨d0,c'⟩:=hT.l.one;obtain⟨c9,c8⟩:=hT.r.one;have a1:=hT.len;obtain⟨n,hn⟩:∃n:Nat,t.rules=(n:Int):=JE b5.1;have b7:t.rules.toNat=n:=zo;rw[b7];have hz:¬(0=1\/0=2):=zd;refine J1 func9 ntmps9 rfl rfl ?_;refine zh ?_;refine aE (ar w) 1 zo rfl rfl ?_;intro tb w1 O1 a9 b' c6 a4;have tc:∀W,JM w1 W->∀(j:Nat) (u:ix),(bn t.ig t.kp t.br t.rules gv lc rc)[j]? = some u->W.cell? (nA tb j)=some u:=fun W e j u hu=>e.cell (a9.cellsAdd j u hu)
 refine zh ?_;refine zv (af (us:=bn t.ig t.kp t.br t.rules gv lc rc) (tc w1 (ka _)) (Jk _) (by rw[a1];exact J3 _) rfl) ?_
 refine zc Mp (dR t _ w1 ⟨gv,lc,rc,rfl,hT.g.ext a4,hT.l.ext a4,hT.r.ext a4⟩) ?_;rintro _ w2 ⟨rfl,a3⟩;rw[a'];have c7:=a4.trans a3;refine zh ?_
 refine aN rfl rfl ?_;have c3:=tc w2 a3 3 _ rfl;rw[hn]at c3;refine zh ?_
 refine zlp (fun z:Nat×(Nat->Nat)×World×ix=>[(1,nP tb),(3,z.2.2.2),(9,nI n),(10,nI z.1)]) (fun z=>z.2.2.1) (fun z=>z.1<=n/\KJ encI 3 1 z.2.1 z.2.2.1 2 z.2.2.2 (lL t z.1)/\Jr (fun q=>q=2) O1 w1 z.2.1 z.2.2.1/\KX w.heap.size z.2.1 z.2.2.1) (fun z=>n-z.1) (0,O1,w2,nS) (⟨Jq _,JJ _ _ _ _ _ _,aa zd O1 a3,c6.ext a3⟩) ?_;rintro⟨k,O3,w3,ov⟩ ⟨hk,a6,a2,b3⟩;dsimp only at hk a6 a2 b3 ⊢;have a0:=((b'.mono (S':=fun q=>q=1\/q=2) (fun _ h=>.inl h) hz).trans (a2.mono (fun _ h=>.inr h) hz)).ext;have a5:=a9.upd a2 zd zd;have d1:=A1 t k;refine zh ?_
 refine zC ?_ ?_
 ·intro hc;replace hc:k<n:=dT hc;refine zh ?_;refine zvH (af (us:=bn t.ig t.kp t.br t.rules gv lc rc) (fun j u hu=>a5.cellsAdd j u hu) (Jk _) (by rw[a1];exact J3 _) rfl) ?_;refine zc call23 (nR (hT.ext a0) ho kx k zo (bf hB a0)) ?_;rintro _ w4 ⟨rfl,a8⟩;have b8:=aa (S:=fun q=>q=2) zd O3 a8;have b0:=a6.upd (aa (S:=fun _=>False) (fun h=>h) O3 a8) zd (fun h=>h);have b2:=b3.ext a8;have b1:=a2.trans b8;refine zh ?_;refine zC ?_ ?_
  ·intro hb;have a7:¬rz t k=true:=by rw[Kd]at hb;rw[hb];decide
   refine zh ?_;refine L0 tH b0 b2 ((k:Int)) (fun _=>rfl) rfl rfl rfl (by simp[JC]) zo zo zo zd rfl rfl ?_
   intro b4 w5 O5 b6 b9 c5;refine zh ?_;refine zxd (k+1,O5,w5,b4) (⟨hc,by rw[pR,if_neg a7];exact b6,b1.trans b9,c5⟩)
  intro hb;have a7:rz t k=true:=by rw[Kz]at hb;exact hb
  refine zh ?_;refine zxd (k+1,O3,w4,ov) (⟨hc,by rw[pR,if_pos a7];exact b0,b1,b2⟩)
 intro hc;obtain rfl:k=n:=dF hc;refine zh ?_;refine ah rfl rfl (⟨a0,a6.sl⟩)
end
theorem sC{w:ln}{ru:ix}{xs:List X3}(h:Sl ct 7 w ru xs){k:Nat}(hk:k<xs.length):(∀j u,(aV (nth xs k).1)[j]? = some u->w.cell? (((adr ru 7 k).add 0).add j)=some u)/\(∀j u,(aV (nth xs k).2.1)[j]? = some u->w.cell? (((adr ru 7 k).add 3).add j)=some u)/\w.cell? ((adr ru 7 k).add 6)=some (.bool (nth xs k).2.2):=by
 refine⟨fun j u hu=>?_,fun j u hu=>?_,h.cell hk (j:=6) rfl⟩
 ·match j,hu with
  |0,hu=>exact h.cell hk (j:=0) hu
  |1,hu=>exact h.cell hk (j:=1) hu
  |2,hu=>exact h.cell hk (j:=2) hu
  |j+3,hu=>simp at hu
 match j,hu with
 |0,hu=>exact h.cell hk (j:=3) hu
 |1,hu=>exact h.cell hk (j:=4) hu
 |2,hu=>exact h.cell hk (j:=5) hu
 |j+3,hu=>simp at hu
section
abbrev mv(m:M3):ix:=.agg (lf m).toArray
theorem kC{F:FuncId}(hF:∀(args:Array ix) (w:ln),(callFunc F args).run Jt w=.ok (.enter F args) w)(cs:Array ix)(l:List (M3))(sv:ix)(q:Nat->Bool)(w:ln)(h:Sl lf 4 w sv l) 
  (hq:∀i,i<l.length->∀w',JM w w'->Kx Jt F ([mv (nth l i)]++cs.toList) w' fun v w''=>v=.bool (q i)/\JM w' w'') :
  Kx Jt 163 [sv,.func (.func F) #[] cs] w fun v w'=>v=nI (dC q l.length)/\JM w w':=by
 have hl:=h.len_le;refine J1 func163 ntmps163 rfl rfl ?_;refine zh ?_;refine zlp (fun x:Nat×ln=>[(0,sv),(1,.func (.func F) #[] cs),(7,nI l.length),(8,nI x.1)]) (fun x=>x.2) (fun x=>x.1<=l.length/\JM w x.2/\∀i,i<x.1->q i=false) (fun x=>l.length-x.1) (0,w) (⟨Jq _,ka _,fun i hi=>absurd hi (JK i)⟩) ?_;rintro⟨k,w1⟩ ⟨hk,hE,a1⟩;dsimp only at hk hE a1 ⊢;have h1:=h.ext hE;refine zh ?_;refine zC ?_ ?_
 ·intro a0;replace a0:k<l.length:=dT a0;refine zh ?_;refine zv (af (us:=lf (nth l k)) (fun j u hu=>h1.cell a0 hu) (isAgg226 _) (sizeOf226 _) rfl) ?_;refine du rfl hF rfl (hq k a0 w1 hE) rfl ?_;rintro v w2 ⟨rfl,a3⟩;refine zh ?_;refine zC ?_ ?_
  ·intro hy;refine zh ?_;refine ah rfl rfl (⟨by rw[cD a0 hy a1],hE.trans a3⟩)
  intro hy;refine zh ?_;refine zxd (k+1,w2) (⟨a0,hE.trans a3,fun i hi=>(Ke.1 hi).elim (a1 i) (fun e=>by rw[e];exact hy)⟩)
 intro a2;replace a2:l.length<=k:=dF a2;refine zh ?_;refine ah rfl rfl (⟨by rw[cC fun i hi=>a1 i zo],hE⟩)
theorem ia{F:FuncId}(hF:∀(args:Array ix) (w:ln),(callFunc F args).run Jt w=.ok (.enter F args) w)(cs:Array ix)(l:List (M3))(sv:ix)(q:Nat->Bool)(w:ln)(h:Sl lf 4 w sv l) 
  (hq:∀i,i<l.length->∀w',JM w w'->Kx Jt F ([mv (nth l i)]++cs.toList) w' fun v w''=>v=.bool (q i)/\JM w' w'') :
  Kx Jt 148 [sv,.func (.func F) #[] cs] w fun v w'=>v=.bool (jc q l.length)/\JM w w':=by
 refine J1 func148 ntmps148 rfl rfl ?_;refine zh ?_
 refine zc call163 (kC hF cs l sv q w h hq) ?_;rintro v w1 ⟨rfl,hE⟩;refine zh ?_
 refine ah rfl rfl (⟨by rw[firstN_any],hE⟩)
theorem xR(m:M3)(s:List UInt8)(sb:Nat)(w:ln)(h:w.cell? ⟨sb,0,none⟩=some (.string (bs s))):Kx Jt 149 [mv m,nP sb] w fun v w'=>v=.bool (m.1==s)/\JM w w':=by
 refine J1 func149 ntmps149 rfl rfl ?_;refine zh ?_
 refine aE (ar w) 1 zo rfl rfl ?_;intro xb w1 O1 a1 a2 a3 a0;refine zh ?_
 refine zv (RV.ld (a1.cell 0 rfl) rfl) ?_;refine zv (RV.ld (a0.cell h) rfl) ?_
 refine zvH (cR rfl rfl) ?_;refine ah rfl rfl (⟨rfl,a0⟩)
theorem nU(l:List (List UInt8))(s:List UInt8)(sv:ix)(w:ln)(h:Sl encS 1 w sv l):Kx Jt 147 [sv,.string (bs s)] w fun v w'=>v=.bool (l.contains s)/\w'=w:=by
 refine J1 func147 ntmps147 rfl rfl ?_;refine zh ?_
 refine zc call155 (mh l s sv w h) ?_;rintro v w9 ⟨rfl,a0⟩;rw[a0];clear a0 w9;refine zh ?_
 refine ah rfl rfl (⟨congrArg JR ?_,rfl⟩);unfold GB
 cases hf:l.findIdx? (· == s)with
 |none=>
  have h1:=List.findIdx?_eq_none_iff.1 hf;rw[decide_eq_false zd]
  symm
  rw[Lx];intro hc;have:=h1 s (Ld.1 hc);simp at this
 |some k=>
  obtain⟨hk,h1,_⟩:=List.findIdx?_eq_some_iff_getElem.1 hf;show decide ((0:Int)<=((k:Nat):Int))=_;rw[decide_eq_true zo]
  symm
  rw[Ld,<-eq_of_beq h1];exact List.getElem_mem hk
def wordsL:List (List UInt8):=[[108,101,116],[105,103,110,111,114,101],[107,101,101,112],[97,110,121]]
def eR(kn:Kn)(s:List UInt8):Int:=if((An s).isSome||wordsL.contains s)=true then 5 else if kn.any (fun m=>m.1==s)=true then 11 else 0
variable{kn:Kn}
theorem zz(O:Nat->Nat)(w:ln)(j jm rb:Nat)(s:LS)(q:List UInt8)(hk:Mac O w jm s.mc kn)(h:Ls O w j rb s):
  Kx Jt 129 [nP rb,.string (bs q)] w fun v w'=>v=nI (eR kn q)/\JM w w':=by
 obtain⟨ms,a2,b1,b2⟩:=hk;have b0:=a2.sl;refine J1 func129 ntmps129 rfl rfl ?_;refine zg ?_;refine aE (ar w) 1 zo rfl rfl ?_;intro sb w1 O1 a9 b4 b5 b3;have a3:=a9.cell 0 rfl;refine zg ?_;refine zv (RV.ld a3 rfl) ?_;refine zc MF (iM q w1) ?_;rintro v w2 ⟨rfl,a6⟩;have a1:=b3.trans a6;refine zg ?_
 cases hn:(An q).isSome with
 |true=>
  have hM:eR kn q=5:=by unfold eR;rw[hn];rfl
  rw[hM];refine az (d:=14) rfl (b':=true) (rfl) ?_;refine zg ?_;refine zTG rfl rfl ?_;refine ah rfl rfl (⟨rfl,a1⟩)
 |false=>
  refine az (d:=14) rfl (b':=false) (rfl) ?_;refine zg ?_
  refine fT underlying103 (sizeOf9 _) (zeroValue9 _) encS wordsL rfl rfl rfl rfl zk zd rfl ?_;intro sv w3 a' a5;have a0:=a1.trans a5;refine zg ?_
  refine zvG (RV.ld ((a6.trans a5).cell a3) rfl) ?_;refine zc call147 (nU wordsL q sv w3 a') ?_
  rintro v w9 ⟨rfl,a7⟩;rw[a7];clear a7 w9;refine zg ?_
  cases hw:wordsL.contains q with
  |true=>
   have hM:eR kn q=5:=by unfold eR;rw[hn,hw];rfl
   rw[hM];refine zTG rfl rfl ?_;refine ah rfl rfl (⟨rfl,a0⟩)
  |false=>
   refine aN rfl rfl ?_;have q9:=a0.cell h.q9;refine zg ?_
   refine zv (RV.ld q9 rfl) ?_;refine zv (dw rfl rfl) ?_
   refine zc call148 (ia call149 #[nP sb] ms s.mc (fun i=>(nth ms i).1==q) w3 (b0.ext a0) (fun i hi w' hE=>xR (nth ms i) q sb w' (hE.cell ((a6.trans a5).cell a3)))) ?_;rintro v w4 ⟨rfl,a8⟩;have a4:jc (fun i=>(nth ms i).1==q) ms.length=kn.any (fun m=>m.1==q):=by
    rw[<-b1,<-im (l:=kn) (p:=fun m=>m.1==q)];exact yR fun i hi=>by rw[(b2 i zo).1]
   rw[a4];refine zg ?_
   cases ha:kn.any (fun m=>m.1==q)with
   |true=>
    have hM:eR kn q=11:=by unfold eR;rw[hn,hw,ha];rfl
    rw[hM];refine zTG rfl rfl ?_;refine ah rfl rfl (⟨rfl,a0.trans a8⟩)
   |false=>
    have hM:eR kn q=0:=by unfold eR;rw[hn,hw,ha];rfl
    rw[hM];refine zFG rfl rfl ?_;refine ah rfl rfl (⟨rfl,a0.trans a8⟩)
end
section
variable{kn:Kn}
theorem Gq:ck Jt 226 #[(0,1),(1,3)]:=⟨_,underlying226,fun w=>by kernel_rfl⟩
inductive ML where
 |ok (m:List UInt8×Nd)
 |bad (p:Nat) (e:Int)
def Iy(nm r2:List UInt8):XR->ML
 |.ok t=>.ok (nm,t)
 |.bad p e=>.bad (r2.length-1-p) e
def sW(kn:Kn)(r:List UInt8):ML:=
 if(au r).takeWhile ak=[]then .bad (au r).length 4
 else if eR kn ((au r).takeWhile ak)≠0 then .bad (au r).length (eR kn ((au r).takeWhile ak))
 else if(au ((au r).dropWhile ak)).headD 0=61 then Iy ((au r).takeWhile ak) (au ((au r).dropWhile ak)) (fh kn (au ((au r).dropWhile ak)).tail)
 else .bad (au ((au r).dropWhile ak)).length 4
def IN(O:Nat->Nat)(w:ln)(jm:Nat)(m:Nat)(v:ix)(bad e:Int)(kn:Kn):ML->Prop
 |.ok x=>e=0/\Mac O w jm v (kn++[x])
 |.bad p e'=>e=e'/\e'≠0/\bad=(m:Int)-(p:Int)
def atX:XR->Int
 |.ok _=>0
 |.bad p _=>(p:Int)
def IB:XR->Int
 |.ok _=>0
 |.bad _ e=>e
theorem PostX.shape{O:Nat->Nat}{w:ln}{v:ix}{M:XR}(h:PostX O w v M):∃x:N3,v=.tuple #[nv x,nI (atX M),nI (IB M)]/\x.2.2.oneCell'=true/\∀t,M=.ok t->Nt O w t x:=by
 cases M with
 |ok t=>obtain⟨x,rfl,hn⟩:=h;exact⟨x,rfl,hn.one,fun t e=>by cases e;exact hn⟩
 |bad p e=>obtain⟨rfl,_⟩:=h;exact⟨(0,0,nS),rfl,rfl,fun t e=>by cases e⟩
theorem kK{m:M3}(h:m.2.2.2.oneCell'=true):∀c∈lf m,c.oneCell'=true:=fun c hc=>by
 simp only[lf,Jl,JD,or_false]at hc
 rcases hc with rfl|rfl|rfl|rfl
 ·rfl
 ·rfl
 ·rfl
 exact h
theorem xM{O:Nat->Nat}{w:ln}{i:Nat}{v:ix}{ms:List M3}{nm:List UInt8}{x:N3}{t:Nd}(hr:KJ lf 226 4 O w i v (ms++[(nm,x)]))(hl:kn.length=ms.length)(hk:∀q,q<ms.length->(nth kn q).1=(nth ms q).1/\Nt O w (nth kn q).2 (nth ms q).2)(hn:Nt O w t x):Mac O w i v (kn++[(nm,t)]):=by
 refine⟨_,hr,by simp[hl],fun q hq=>?_⟩;simp only[JU,Lc]at hq
 by_cases e:q<ms.length
 ·rw[aB (by simp;omega),aB (by simp;omega),J9 zo,J9 e,<-aB zo,<-aB e];exact hk q e
 obtain rfl:q=ms.length:=zo;rw[aB (by simp;omega),aB (by simp),J8 zo,J8 zo];simp[hl];exact hn
theorem AF(B:Nat)(O:Nat → Nat)(w:ln)(j jm rb:Nat)(s:LS)(m:Nat)(r:List UInt8)(hR:KX B O w)(hj:j ≠ 0)(hjm:jm ≠ 0)(hne:j ≠ jm)(hm:m ≤ s.l.length)(hl:s.l.length ≤ 100000)(hto:s.to = (m:Int))(he:s.e = 0)
  (hr:r <:+ s.l.take m) (hp:s.pos = (m:Int) - (r.length:Int)) (hkl:kn.length ≤ 100000) (hmac:Mac O w jm s.mc kn) (h:Ls O w j rb s) :
  Kx Jt 94 [nP rb] w fun _ w' => ∃O' v pos bad e, Jr (fun k => k = j ∨ k = jm) O w O' w' ∧ KX B O' w' ∧ Ls O' w' j rb {s with pos := pos, bad := bad, e := e, mc := v} ∧ IN O' w' jm m v bad e kn (sW kn r) := by
 obtain⟨T0, hT00, hT01⟩ := hR.bound
 obtain⟨T, hT0, hjmT, hT⟩:∃T, 0 < T ∧ jm < T ∧ ∀b, O b < T := ⟨T0 + jm + 1, by omega, by omega, fun b => by have := hT01 b; omega⟩
 clear hT00 hT01 T0
 have hjT:j < T := by rw[← h.tag]; exact hT rb
 have hz2:¬(fun q:Nat => q = j ∨ q = jm) 0 := fun e => by rcases e with e | e; exact hj e.symm; exact hjm e.symm
 have hz3:¬(fun q:Nat => q = j ∨ q = jm ∨ T ≤ q) 0 := fun e => by rcases e with e | e | e; exact hj e.symm; exact hjm e.symm; omega
 have hpv:∀ {O':Nat → Nat} {w':ln}, Jr (fun q => q = j ∨ q = jm ∨ T ≤ q) O w O' w' → Jr (fun q => q = j ∨ q = jm) O w O w' := fun hU => hU.fgt (S' := fun q => q = j ∨ q = jm) (fun b hb => by rcases hb with hb | hb | hb; exact LA hb; exact Lz hb; have := hT b; omega) hz2
 have hLl:(s.l.take m).length = m := by simp; omega
 refine J1 func94 ntmps94 rfl rfl ?_
 refine JV ?_
 refine K4 ?_
 refine zv (Jo rfl) ?_
 refine zv (ao rfl) ?_
 refine zv (RV.fa rfl) ?_
 refine zc Lr (dI O w j rb s m r hj hm hl hto hr hp h) ?_
 rintro v w1 ⟨rfl, hb1, hU1⟩
 have hs1 := (aW r).trans hr
 have hm1 := hmac.upd hU1 hjm (fun e => hne e.symm)
 have hR1 := hR.upd hU1
 refine Jn ?_
 refine aq ?_
 refine JV ?_
 refine K4 ?_
 refine zv (Jo rfl) ?_
 refine zv (ao rfl) ?_
 refine zv (RV.fa rfl) ?_
 refine zv (RV.fa rfl) ?_
 refine zv (RV.ld hb1.q1 rfl) ?_
 refine zv (L8 rfl) ?_
 refine Jn ?_
 refine aq ?_
 refine JV ?_
 refine K4 ?_
 refine zv (Jo rfl) ?_
 refine zv (ao rfl) ?_
 refine zv (RV.fa rfl) ?_
 refine zc LX (gM O w1 j rb ({s with pos := (m:Int) - ((au r).length:Int)}:LS) m (au r) hj hm hl hto hs1 rfl hb1) ?_
 rintro v w2 ⟨rfl, hb2, hU2⟩
 have hs2 := (J4 ak).trans hs1
 have hm2 := hm1.upd hU2 hjm (fun e => hne e.symm)
 have hR2 := hR1.upd hU2
 have hUt2 := (hU1.trans hU2).mono (S' := fun q => q = j ∨ q = jm ∨ T ≤ q) (fun _ h => .inl h) hz3
 refine zv (L8 rfl) ?_
 refine Jn ?_
 refine aq ?_
 refine JV ?_
 refine JV ?_
 refine K4 ?_
 refine zv (Jo rfl) ?_
 refine zv (cR rfl rfl) ?_
 refine Jn ?_
 refine aq ?_
 by_cases hnm:(au r).takeWhile ak = []
 ·have hM:sW kn r = .bad (au r).length 4 := by unfold sW; rw[if_pos hnm]
  rw[hM]
  refine aR rfl ((by rw[hnm]; rfl)) ?_
  refine JV ?_
  refine K4 ?_
  refine zv (Jo rfl) ?_
  refine zv (ao rfl) ?_
  refine zv (RV.fa rfl) ?_
  refine zv (Jo rfl) ?_
  refine zc K1 (bD O w2 j rb ({s with pos := (m:Int) - (((au r).dropWhile ak).length:Int)}:LS) ((m:Int) - ((au r).length:Int)) 4 hj he hb2) ?_
  rintro u w3 ⟨hb3, hU3⟩
  refine Jn ?_
  refine aq ?_
  refine Ma ?_
  refine dM ?_
  exact cz rfl ⟨O, s.mc, _, _, _, hpv (hUt2.trans (hU3.mono (fun _ h => .inl h) hz3)), hR2.upd hU3, hb3, rfl, by decide, rfl⟩
 ·skip
  refine aN rfl ((by simpa using hnm)) ?_
  refine LN ?_
  refine aq ?_
  refine JV ?_
  refine JV ?_
  refine K4 ?_
  refine zv (Jo rfl) ?_
  refine zv (Jo rfl) ?_
  refine zc call129 (zz O w2 j jm rb ({s with pos := (m:Int) - (((au r).dropWhile ak).length:Int)}:LS) ((au r).takeWhile ak) hm2 hb2) ?_
  rintro v w3 ⟨rfl, hE3⟩
  have hX3:Jr (fun _ => False) O w2 O w3 := aa (fun h => h) O hE3
  have hb3 := hb2.upd hX3 hj (fun h => h)
  have hm3 := hm2.upd hX3 hjm (fun h => h)
  have hR3 := hR2.upd hX3
  have hUt3 := hUt2.trans (hX3.mono (fun _ h => h.elim) hz3)
  refine zv (L8 rfl) ?_
  refine Jn ?_
  refine aq ?_
  refine JV ?_
  refine K4 ?_
  refine zv (Jo rfl) ?_
  refine zv (Mc rfl rfl) ?_
  refine Jn ?_
  refine aq ?_
  by_cases htk:eR kn ((au r).takeWhile ak) = 0
  ·skip
   refine aN rfl ((by rw[htk]; rfl)) ?_
   have hMK:sW kn r = if(au ((au r).dropWhile ak)).headD 0 = 61 then Iy ((au r).takeWhile ak) (au ((au r).dropWhile ak)) (fh kn (au ((au r).dropWhile ak)).tail)else .bad (au ((au r).dropWhile ak)).length 4 := by unfold sW; rw[if_neg hnm, if_neg (by rw[htk]; simp)]
   generalize (au r).takeWhile ak = nm at *
   generalize (au r).dropWhile ak = q at *
   have hs5 := (aW q).trans hs2
   have hbd := hb3.drew
   have hmd := hm3.upd (aa (S := fun _ => False) (fun h => h) O (ka w3).drew) hjm (fun h => h)
   have hRd := hR3.drew
   have hUd := hUt3.drew
   refine LN ?_
   refine aq ?_
   refine JV ?_
   refine JV ?_
   refine aG (fun V => V.cell? ⟨rb, 0, none⟩ = some (.string (bs s.l))) 19 rfl (by kernel_rfl) ?_
   refine zrm 0 rfl hbd.q0 rfl ?_
   refine zr 1 rfl hbd.q0 (fun _ => ao rfl) ?_
   refine zrf 2 rfl hbd.q0 rfl ?_
   refine J0 3 (by kernel_rfl) rfl ?_
   refine zc Lr (dI O w3.drew j rb ({s with pos := (m:Int) - (q.length:Int)}:LS) m q hj hm hl hto hs2 rfl hbd) ?_
   rintro v w5 ⟨rfl, hb5, hU5⟩
   have hm5 := hmd.upd hU5 hjm (fun e => hne e.symm)
   have hR5 := hRd.upd hU5
   have hUt5 := hUd.trans (hU5.mono (fun _ h => .inl h) hz3)
   generalize au q = r2 at *
   have hr2l := hs5.length_le
   rw[hLl]at hr2l
   have hb5':JX O w5 j rb ({s with pos := (m:Int) - (r2.length:Int)}:LS).cells 128 := hb5
   clear hb5
   have hb5 := hb5'
   refine Jn ?_
   refine zaf (hb5.q0) fun zS => ?_
   refine zr 4 rfl zS (fun _ => RV.not rfl) ?_
   refine zrm 5 rfl zS rfl ?_
   by_cases hr0:r2.length = 0
   ·have hrn:r2 = [] := List.eq_nil_of_length_eq_zero hr0
    have hM:sW kn r = .bad r2.length 4 := by rw[hMK, if_neg (by rw[hrn]; decide)]
    rw[hM]
    refine fm (d := 44) rfl (b' := true) ((by rw[decide_eq_false (by omega)]; rfl)) ?_
    have hbe := hb5.drew
    refine zin (hb5.q0) fun zS => ?_
    refine zte 6 rfl rfl zS ?_
    refine zte 7 rfl rfl zS ?_
    refine zte 8 rfl rfl zS ?_
    refine zte 9 rfl rfl zS ?_
    refine zte 10 rfl rfl zS ?_
    refine zte 11 rfl rfl zS ?_
    refine zte 12 rfl rfl zS ?_
    refine zte 13 rfl rfl zS ?_
    refine zte 14 rfl rfl zS ?_
    refine zte 15 rfl rfl zS ?_
    refine zte 16 rfl rfl zS ?_
    refine zte 17 rfl rfl zS ?_
    refine zr 18 rfl zS (fun _ => bB rfl rfl) ?_
    refine Ji (by kernel_rfl) ?_
    refine aq ?_
    refine aR rfl rfl ?_
    refine JV ?_
    refine JY 8 rfl rfl (by kernel_rfl) (by kernel_rfl) ?_
    refine zw (Jo rfl) ?_
    refine zw (ao rfl) ?_
    refine zw (RV.fa rfl) ?_
    refine zw (Jo rfl) ?_
    refine zw (ao rfl) ?_
    refine zw (RV.fa rfl) ?_
    refine zw (RV.fa rfl) ?_
    refine zw (RV.ld hbe.q1 rfl) ?_
    refine Kw ?_
    refine zc K1 (bD O w5.drew j rb ({s with pos := (m:Int) - (r2.length:Int)}:LS) ((m:Int) - (r2.length:Int)) 4 hj he hbe) ?_
    rintro u w6 ⟨hb6, hU6⟩
    refine Jn ?_
    refine aq ?_
    refine Ma ?_
    refine dM ?_
    exact cz rfl ⟨O, s.mc, _, _, _, hpv ((hUt5.drew).trans (hU6.mono (fun _ h => .inl h) hz3)), hR5.drew.upd hU6, hb6, rfl, by decide, rfl⟩
   ·have hrn:r2 ≠ [] := fun e => hr0 (by rw[e]; rfl)
    have hgh := mM (xj hs5 hrn)
    rw[hLl]at hgh
    refine fm (d := 44) rfl (b' := false) ((by rw[decide_eq_true (by omega)]; rfl)) ?_
    refine zin (hb5.q0) fun zS => ?_
    refine zro 6 rfl zS (fun _ => Jo rfl) ?_
    refine zro 7 rfl zS (fun _ => ao rfl) ?_
    refine zro 8 rfl zS (fun _ => RV.fa rfl) ?_
    refine zro 9 rfl zS (fun _ => RV.fa rfl) ?_
    refine zto 10 rfl zS (fun w1 hw1 => RV.ld hw1 rfl) ?_
    refine zro 11 rfl zS (fun _ => Jo rfl) ?_
    refine zro 12 rfl zS (fun _ => ao rfl) ?_
    refine zro 13 rfl zS (fun _ => RV.fa rfl) ?_
    refine zro 14 rfl zS (fun _ => RV.fa rfl) ?_
    refine J0 15 (by kernel_rfl) rfl ?_
    refine gn rfl ?_
    refine zv (RV.ld hb5.q1 rfl) ?_
    refine Jn ?_
    refine zaf (hb5.q0) fun zS => ?_
    refine zro 16 rfl zS (fun _ => bj (c := r2.headD 0) JL rfl rfl (m - r2.length) (by dsimp only; omega) hgh) ?_
    refine zro 17 rfl zS (fun _ => Mc rfl rfl) ?_
    refine zr 18 rfl zS (fun _ => bC rfl rfl) ?_
    refine Ji (by kernel_rfl) ?_
    refine aq ?_
    by_cases hc:r2.headD 0 = 61
    ·have hMX:sW kn r = Iy nm r2 (fh kn r2.tail) := by rw[hMK, if_pos hc]
     obtain⟨k1, k2⟩ := bY (r := r2) (by rw[hc]; decide)
     have hts := k1.trans hs5
     refine aN rfl ((by rw[hc]; rfl)) ?_
     have hbe := hb5.drew
     have hme := hm5.upd (aa (S := fun _ => False) (fun h => h) O (ka w5).drew) hjm (fun h => h)
     have hRe := hR5.drew
     have hUe := hUt5.drew
     have hseg:(s.l.take m).drop (m - r2.tail.length) = r2.tail := by have := Dl hts; rwa[hLl]at this
     have hgX := xr (kn := kn) r2.tail
     generalize hMd:fh kn r2.tail = M at *
     refine LN ?_
     refine aq ?_
     refine JV ?_
     refine iy (fun z:(Nat → Nat)×World×Nat×N3 => [(0, nP rb), (3, .string (bs nm)), (5, .pointer (some ⟨z.2.2.1, 0, none⟩)), (6, nI (atX M)), (7, nI (IB M))]) (fun z:(Nat → Nat)×World×Nat×N3 => z.2.1) (fun z:(Nat → Nat)×World×Nat×N3 => JX z.1 z.2.1 T z.2.2.1 #[nI z.2.2.2.1, nI z.2.2.2.2.1, z.2.2.2.2.2] 67 ∧ Ls z.1 z.2.1 j rb {s with pos := (m:Int) - (r2.length:Int)} ∧ Mac z.1 z.2.1 jm s.mc kn ∧ Jr (fun q => q = j ∨ q = jm ∨ T ≤ q) O w z.1 z.2.1 ∧ KX B z.1 z.2.1 ∧ z.2.2.2.2.2.oneCell' = true ∧ ∀t, M = .ok t → Nt z.1 z.2.1 t z.2.2.2) ?_ ?_
     ·intro Qm hN
      refine aG (fun V => V.cell? ⟨rb, 0, none⟩ = some (.string (bs s.l)) ∧ V.cell? ⟨rb, 1, none⟩ = some (nI ((m:Int) - (r2.length:Int))) ∧ V.cell? ⟨rb, 2, none⟩ = some (nI s.to) ∧ V.cell? ⟨rb, 9, none⟩ = some s.mc) 30 rfl (by kernel_rfl) ?_
      refine zin ⟨hbe.q0, hbe.q1, hbe.q2, hbe.q9⟩ fun zS => ?_
      refine zrm 0 rfl zS rfl ?_
      refine zr 1 rfl zS (fun _ => ao rfl) ?_
      refine zrf 2 rfl zS rfl ?_
      refine zrf 3 rfl zS rfl ?_
      refine zt 4 rfl zS (fun w1 hw1 => RV.ld hw1.1 rfl) ?_
      refine zrm 5 rfl zS rfl ?_
      refine zr 6 rfl zS (fun _ => ao rfl) ?_
      refine zrf 7 rfl zS rfl ?_
      refine zrf 8 rfl zS rfl ?_
      refine zt 9 rfl zS (fun w1 hw1 => RV.ld hw1.2.1 rfl) ?_
      refine zr 10 rfl zS (fun _ => KH rfl rfl (Kk (by omega))) ?_
      refine zrm 11 rfl zS rfl ?_
      refine zr 12 rfl zS (fun _ => ao rfl) ?_
      refine zrf 13 rfl zS rfl ?_
      refine zrf 14 rfl zS rfl ?_
      refine zt 15 rfl zS (fun w1 hw1 => RV.ld hw1.2.2.1 rfl) ?_
      refine zr 16 rfl zS (fun _ => cT JL rfl rfl rfl (m - r2.tail.length) m (by omega) hto (by omega) hm) ?_
      refine zrm 17 rfl zS rfl ?_
      refine zr 18 rfl zS (fun _ => ao rfl) ?_
      refine zrf 19 rfl zS rfl ?_
      refine zt 20 rfl zS (fun w1 hw1 => RV.ld hw1.2.2.2 rfl) ?_
      rw[hseg]
      refine bL 21 26 (by kernel_rfl) rfl rfl ?_ ?_
      ·skip
       refine zc call130 (lz s.mc r2.tail B O (forget jm O) w5.drew hRe hRe.forget (hme.known hjm hRe)) ?_
       rintro v w6 ⟨hE6, hP6⟩
       rw[hMd]at hP6
       obtain⟨x, rfl, hxo, hxn⟩ := hP6.shape
       have hX6:Jr (fun _ => False) O w5.drew O w6 := aa (fun h => h) O hE6
       have hb6 := hbe.upd hX6 hj (fun h => h)
       have hm6 := hme.upd hX6 hjm (fun h => h)
       have hR6 := hRe.upd hX6
       have hU6 := hUe.trans (hX6.mono (fun _ h => h.elim) hz3)
       refine Jn ?_
       refine zaf (⟨hb6.q0, hb6.q1, hb6.q2, hb6.q9⟩) fun zS => ?_
       refine zrm 22 rfl zS rfl ?_
       refine zr 23 rfl zS (fun _ => Kl rfl rfl) ?_
       refine zr 24 rfl zS (fun _ => Kl rfl rfl) ?_
       refine zr 25 rfl zS (fun _ => Kl rfl rfl) ?_
       refine J0 26 (by kernel_rfl) rfl ?_
       refine aw hR6 T (by omega) (KA _) rfl ?_
       intro nb w7 O7 hn7 hX7 hR7 hE7
       have hb7 := hb6.upd hX7 hj (by omega)
       have hm7 := hm6.upd hX7 hjm (by omega)
       have hU7 := hU6.trans (hX7.mono (fun _ h => .inr (.inr (JH h.symm))) hz3)
       refine Jn ?_
       refine ae (⟨hb7.q0, hb7.q1, hb7.q2, hb7.q9⟩) ?_
       refine J0 27 (by kernel_rfl) rfl ?_
       refine zsb (us := #[nI x.1, nI x.2.1, x.2.2]) hn7 (Km _) (bZ hxo) ?_
       have hnz := KQ (us := #[nI x.1, nI x.2.1, x.2.2]) hn7
       have hXz:Jr (fun q => q = T) O7 w7 O7 (KC w7 nb #[nI x.1, nI x.2.1, x.2.2]) := J6 (by omega) (My hn7) rfl
       have hbz := J2 hb7 hXz hj (by omega)
       refine Jn ?_
       refine zaf (⟨hbz.q0, hbz.q1, hbz.q2, hbz.q9⟩) fun zS => ?_
       refine zra 28 rfl zS rfl ?_
       refine zra 29 rfl zS rfl ?_
       refine Ji (by kernel_rfl) ?_
       exact iC (hN ((O7, KC w7 nb #[nI x.1, nI x.2.1, x.2.2], nb, x)) (⟨hnz, hbz, MM hm7 hXz hjm (by omega), L4 hU7 (hXz.mono (fun _ h => .inr (.inr (JH h.symm))) hz3), Ly hR7 hXz, hxo, fun t e => Nt.upd ((fun t e => (hxn t e).upd hX7) t e) hXz⟩)) ⟨rfl, rfl, rfl, rfl, rfl, trivial⟩ rfl
      ·skip
       refine aw hRe T (by omega) (KA _) rfl ?_
       intro nb w6 O6 hn6 hX6 hR6 hE6
       have hb6 := hbe.upd hX6 hj (by omega)
       have hm6 := hme.upd hX6 hjm (by omega)
       have hU6 := hUe.trans (hX6.mono (fun _ h => .inr (.inr (JH h.symm))) hz3)
       refine Jn ?_
       refine ae (⟨hb6.q0, hb6.q1, hb6.q2, hb6.q9⟩) ?_
       refine J0 21 (by kernel_rfl) rfl ?_
       refine zc call130 (lz s.mc r2.tail B O6 (forget jm O6) w6 hR6 hR6.forget (hm6.known hjm hR6)) ?_
       rintro v w7 ⟨hE7, hP7⟩
       rw[hMd]at hP7
       obtain⟨x, rfl, hxo, hxn⟩ := hP7.shape
       have hX7:Jr (fun _ => False) O6 w6 O6 w7 := aa (fun h => h) O6 hE7
       have hn7 := hn6.upd hX7 (by omega) (fun h => h)
       have hb7 := hb6.upd hX7 hj (fun h => h)
       have hm7 := hm6.upd hX7 hjm (fun h => h)
       have hR7 := hR6.upd hX7
       have hU7 := hU6.trans (hX7.mono (fun _ h => h.elim) hz3)
       refine Jn ?_
       refine zaf (⟨hb7.q0, hb7.q1, hb7.q2, hb7.q9⟩) fun zS => ?_
       refine zrm 22 rfl zS rfl ?_
       refine zr 23 rfl zS (fun _ => Kl rfl rfl) ?_
       refine zr 24 rfl zS (fun _ => Kl rfl rfl) ?_
       refine zr 25 rfl zS (fun _ => Kl rfl rfl) ?_
       refine J0 27 (by kernel_rfl) rfl ?_
       refine zsb (us := #[nI x.1, nI x.2.1, x.2.2]) hn7 (Km _) (bZ hxo) ?_
       have hnz := KQ (us := #[nI x.1, nI x.2.1, x.2.2]) hn7
       have hXz:Jr (fun q => q = T) O6 w7 O6 (KC w7 nb #[nI x.1, nI x.2.1, x.2.2]) := J6 (by omega) (My hn7) rfl
       have hbz := J2 hb7 hXz hj (by omega)
       refine Jn ?_
       refine zaf (⟨hbz.q0, hbz.q1, hbz.q2, hbz.q9⟩) fun zS => ?_
       refine zra 28 rfl zS rfl ?_
       refine zra 29 rfl zS rfl ?_
       refine Ji (by kernel_rfl) ?_
       exact iC (hN ((O6, KC w7 nb #[nI x.1, nI x.2.1, x.2.2], nb, x)) (⟨hnz, hbz, MM hm7 hXz hjm (by omega), L4 hU7 (hXz.mono (fun _ h => .inr (.inr (JH h.symm))) hz3), Ly hR7 hXz, hxo, fun t e => Nt.upd (hxn t e) hXz⟩)) ⟨rfl, rfl, rfl, rfl, rfl, trivial⟩ rfl
     ·rintro⟨O8, w8, nb, x⟩ ⟨hn8, hb8, hm8, hU8, hR8, hxo, hxn⟩
      dsimp only at hn8 hb8 hm8 hU8 hR8 hxo hxn ⊢
      refine aq ?_
      refine JV ?_
      refine JV ?_
      refine K4 ?_
      refine zv (Jo rfl) ?_
      refine zv (Mc rfl rfl) ?_
      refine Jn ?_
      refine aq ?_
      cases M with
      |ok t =>
       rw[hMX]
       refine aN rfl rfl ?_
       have hnt := hxn t rfl
       obtain⟨ms, hrow, hkl2, hke⟩ := hm8
       have hrowD := Mr hrow
       have hRD := MH hR8
       have hbD := Kv hb8
       have hnD := Kv hn8
       have hUD := MG hU8
       refine LN ?_
       refine aq ?_
       refine aG (fun V => ∀(q:Nat) (u:ix), (aV x)[q]? = some u → V.cell? (nA nb q) = some u) 13 rfl (by kernel_rfl) ?_
       refine zin hnD.cellsAdd fun zS => ?_
       refine zrm 0 rfl zS rfl ?_
       refine zrm 1 rfl zS rfl ?_
       refine zr 2 rfl zS (fun _ => ao rfl) ?_
       refine zrf 3 rfl zS rfl ?_
       refine zrm 5 rfl zS rfl ?_
       refine zt 6 rfl zS (fun w1 hw1 => af (us := aV x) hw1 (M6 _) (Km _) rfl) ?_
       refine zr 7 rfl zS (fun _ => JS (vs := [(0, .string (bs nm)), (1, nv x)]) (cells := (lf (nm, x)).toArray) Gq (MB _) rfl (by kernel_rfl)) ?_
       refine bL 4 8 (by kernel_rfl) rfl rfl ?_ ?_
       ·skip
        refine zv (RV.ld hbD.q9 rfl) ?_
        refine Jn ?_
        refine ae hnD.cellsAdd ?_
        refine J0 8 (by kernel_rfl) rfl ?_
        refine aJ elM (enc := lf) (nm, x) rfl rfl rfl (by decide) rfl ?_
        intro w9 h9 hE9
        have hX9:Jr (fun _ => False) O8 (KW w8) O8 w9 := aa (fun h => h) O8 hE9
        have hb9 := hbD.upd hX9 hj (fun h => h)
        have hn9 := hnD.upd hX9 (by omega) (fun h => h)
        have hrow9 := hrowD.upd hX9 hjm (fun h => h)
        have hR9 := hRD.upd hX9
        have hU9 := hUD.trans (hX9.mono (fun _ h => h.elim) hz3)
        refine Jn ?_
        refine ae hn9.cellsAdd ?_
        have hone9:∀u ∈ [((nm, x):M3)], ∀c ∈ lf u, c.oneCell' = true := fun u hu => by
         rw[J5.1 hu]; exact kK hxo
        refine J0 9 (by kernel_rfl) rfl ?_
        refine aC elM hrow9 hR9 h9 (by simp) rfl rfl (fun _ _ => rfl) hone9 (by simp; omega) (by simp; omega) (by omega) rfl ?_
        intro lv10 w10 O10 hrow10 hX10 hR10
        have hb10 := J2 hb9 hX10 hj (by omega)
        have hn10 := J2 hn9 hX10 (by omega) (by omega)
        have hl10 := hrow10.one
        have hU10 := hU9.trans (hX10.mono (fun _ h => .inr (.inl h)) hz3)
        refine Jn ?_
        refine zaf (hn10.cellsAdd) fun zS => ?_
        refine zr 10 rfl zS (fun _ => ao rfl) ?_
        refine zrf 11 rfl zS rfl ?_
        refine J0 12 (by kernel_rfl) rfl ?_
        refine aj (j := 9) hb10 rfl (Lm _) hl10 rfl rfl rfl ?_
        have hX11:Jr (fun q => q = j) O10 w10 O10 (JI w10 ⟨rb, 9, none⟩ lv10) := Jp (fun e => hj e.symm) hb10.tag rfl
        have hb11:JX O10 (JI w10 ⟨rb, 9, none⟩ lv10) j rb ({({s with pos := (m:Int) - (r2.length:Int)}:LS)with mc := lv10}:LS).cells 128 := hb10.set 9 lv10
        have hn11 := hn10.upd hX11 (by omega) (by omega)
        have hrow11 := hrow10.upd hX11 hjm (fun e => hne e.symm)
        have hU11 := hU10.trans (hX11.mono (fun _ h => .inl h) hz3)
        have hR11 := hR10.upd hX11
        refine Jn ?_
        refine ae (hn11.cellsAdd) ?_
        refine Ji (by kernel_rfl) ?_
        have hUz := Lh hU11 hT (S' := fun q => q = j ∨ q = jm) (fun b hb => by rcases hb with hb | hb | hb; exact LA hb; exact Lz hb; have := hT b; omega) hz2
        exact aH rfl ⟨lowT O10 T, lv10, _, _, _, hUz, hR11.lowT T, hb11.lowT hjT, he, xM (hrow11.lowT hjmT) hkl2 (fun q hq => ⟨(hke q hq).1, (((((hke q hq).2.drew).upd hX9).upd hX10).upd hX11).weak (fun b hb => jh hb)⟩) (((((hnt.drew).upd hX9).upd hX10).upd hX11).weak (fun b hb => jh hb))⟩
       ·skip
        refine aJ elM (enc := lf) (nm, x) rfl rfl rfl (by decide) rfl ?_
        intro w9 h9 hE9
        have hX9:Jr (fun _ => False) O8 (KW w8) O8 w9 := aa (fun h => h) O8 hE9
        have hb9 := hbD.upd hX9 hj (fun h => h)
        have hn9 := hnD.upd hX9 (by omega) (fun h => h)
        have hrow9 := hrowD.upd hX9 hjm (fun h => h)
        have hR9 := hRD.upd hX9
        have hU9 := hUD.trans (hX9.mono (fun _ h => h.elim) hz3)
        refine Jn ?_
        refine ae hn9.cellsAdd ?_
        refine J0 4 (by kernel_rfl) rfl ?_
        refine zv (RV.ld hb9.q9 rfl) ?_
        refine Jn ?_
        refine ae hn9.cellsAdd ?_
        have hone9:∀u ∈ [((nm, x):M3)], ∀c ∈ lf u, c.oneCell' = true := fun u hu => by
         rw[J5.1 hu]; exact kK hxo
        refine J0 9 (by kernel_rfl) rfl ?_
        refine aC elM hrow9 hR9 h9 (by simp) rfl rfl (fun _ _ => rfl) hone9 (by simp; omega) (by simp; omega) (by omega) rfl ?_
        intro lv10 w10 O10 hrow10 hX10 hR10
        have hb10 := J2 hb9 hX10 hj (by omega)
        have hn10 := J2 hn9 hX10 (by omega) (by omega)
        have hl10 := hrow10.one
        have hU10 := hU9.trans (hX10.mono (fun _ h => .inr (.inl h)) hz3)
        refine Jn ?_
        refine zaf (hn10.cellsAdd) fun zS => ?_
        refine zr 10 rfl zS (fun _ => ao rfl) ?_
        refine zrf 11 rfl zS rfl ?_
        refine J0 12 (by kernel_rfl) rfl ?_
        refine aj (j := 9) hb10 rfl (Lm _) hl10 rfl rfl rfl ?_
        have hX11:Jr (fun q => q = j) O10 w10 O10 (JI w10 ⟨rb, 9, none⟩ lv10) := Jp (fun e => hj e.symm) hb10.tag rfl
        have hb11:JX O10 (JI w10 ⟨rb, 9, none⟩ lv10) j rb ({({s with pos := (m:Int) - (r2.length:Int)}:LS)with mc := lv10}:LS).cells 128 := hb10.set 9 lv10
        have hn11 := hn10.upd hX11 (by omega) (by omega)
        have hrow11 := hrow10.upd hX11 hjm (fun e => hne e.symm)
        have hU11 := hU10.trans (hX11.mono (fun _ h => .inl h) hz3)
        have hR11 := hR10.upd hX11
        refine Jn ?_
        refine ae (hn11.cellsAdd) ?_
        refine Ji (by kernel_rfl) ?_
        have hUz := Lh hU11 hT (S' := fun q => q = j ∨ q = jm) (fun b hb => by rcases hb with hb | hb | hb; exact LA hb; exact Lz hb; have := hT b; omega) hz2
        exact aH rfl ⟨lowT O10 T, lv10, _, _, _, hUz, hR11.lowT T, hb11.lowT hjT, he, xM (hrow11.lowT hjmT) hkl2 (fun q hq => ⟨(hke q hq).1, (((((hke q hq).2.drew).upd hX9).upd hX10).upd hX11).weak (fun b hb => jh hb)⟩) (((((hnt.drew).upd hX9).upd hX10).upd hX11).weak (fun b hb => jh hb))⟩
      |bad p e =>
       have hne7 := (hgX p e rfl).1
       have hple := (hgX p e rfl).2
       rw[hMX]
       refine aR rfl ((by simpa[IB]using hne7)) ?_
       have hb8d := hb8.drew
       have hn8d := hn8.drew
       have hm8d := hm8.upd (aa (S := fun _ => False) (fun h => h) O8 (ka w8).drew) hjm (fun h => h)
       refine JY 12 rfl rfl (by kernel_rfl) (by kernel_rfl) ?_
       refine zw (Jo rfl) ?_
       refine zw (ao rfl) ?_
       refine zw (RV.fa rfl) ?_
       refine zw (Jo rfl) ?_
       refine zw (ao rfl) ?_
       refine zw (RV.fa rfl) ?_
       refine zw (RV.fa rfl) ?_
       refine zw (RV.ld hb8d.q1 rfl) ?_
       refine zw (KH rfl rfl (Kk (by dsimp only; omega))) ?_
       refine zw (Jo rfl) ?_
       refine zw (KH rfl rfl (Kk (by dsimp only[atX]; omega))) ?_
       refine zw (Jo rfl) ?_
       refine Kw ?_
       refine zc K1 (bD O8 w8.drew j rb ({s with pos := (m:Int) - (r2.length:Int)}:LS) (((m:Int) - (r2.length:Int)) + 1 + (p:Int)) e hj he hb8d) ?_
       rintro u wf ⟨hbf, hUf⟩
       have hnf' := hn8d.upd hUf (by omega) (by omega)
       have hmf' := hm8d.upd hUf hjm (fun e => hne e.symm)
       have hRf' := hR8.drew.upd hUf
       have hUf' := (hU8.drew).trans (hUf.mono (S' := fun q => q = j ∨ q = jm ∨ T ≤ q) (fun _ h => .inl h) hz3)
       have hbf':JX O8 wf j rb ({s with pos := (m:Int) - (r2.length:Int), bad := ((m:Int) - (r2.length:Int)) + 1 + (p:Int), e := e}:LS).cells 128 := hbf
       clear hbf
       obtain⟨ms, hrow, hkl2, hke⟩ := hmf'
       have hrowD := Mr hrow
       have hRD := MH hRf'
       have hbD := Kv hbf'
       have hnD := Kv hnf'
       have hUD := MG hUf'
       refine Jn ?_
       refine aq ?_
       refine aG (fun V => ∀(q:Nat) (u:ix), (aV x)[q]? = some u → V.cell? (nA nb q) = some u) 13 rfl (by kernel_rfl) ?_
       refine zin hnD.cellsAdd fun zS => ?_
       refine zrm 0 rfl zS rfl ?_
       refine zrm 1 rfl zS rfl ?_
       refine zr 2 rfl zS (fun _ => ao rfl) ?_
       refine zrf 3 rfl zS rfl ?_
       refine zrm 5 rfl zS rfl ?_
       refine zt 6 rfl zS (fun w1 hw1 => af (us := aV x) hw1 (M6 _) (Km _) rfl) ?_
       refine zr 7 rfl zS (fun _ => JS (vs := [(0, .string (bs nm)), (1, nv x)]) (cells := (lf (nm, x)).toArray) Gq (MB _) rfl (by kernel_rfl)) ?_
       refine bL 4 8 (by kernel_rfl) rfl rfl ?_ ?_
       ·skip
        refine zv (RV.ld hbD.q9 rfl) ?_
        refine Jn ?_
        refine ae hnD.cellsAdd ?_
        refine J0 8 (by kernel_rfl) rfl ?_
        refine aJ elM (enc := lf) (nm, x) rfl rfl rfl (by decide) rfl ?_
        intro w9 h9 hE9
        have hX9:Jr (fun _ => False) O8 (KW wf) O8 w9 := aa (fun h => h) O8 hE9
        have hb9 := hbD.upd hX9 hj (fun h => h)
        have hn9 := hnD.upd hX9 (by omega) (fun h => h)
        have hrow9 := hrowD.upd hX9 hjm (fun h => h)
        have hR9 := hRD.upd hX9
        have hU9 := hUD.trans (hX9.mono (fun _ h => h.elim) hz3)
        refine Jn ?_
        refine ae hn9.cellsAdd ?_
        have hone9:∀u ∈ [((nm, x):M3)], ∀c ∈ lf u, c.oneCell' = true := fun u hu => by
         rw[J5.1 hu]; exact kK hxo
        refine J0 9 (by kernel_rfl) rfl ?_
        refine aC elM hrow9 hR9 h9 (by simp) rfl rfl (fun _ _ => rfl) hone9 (by simp; omega) (by simp; omega) (by omega) rfl ?_
        intro lv10 w10 O10 hrow10 hX10 hR10
        have hb10 := J2 hb9 hX10 hj (by omega)
        have hn10 := J2 hn9 hX10 (by omega) (by omega)
        have hl10 := hrow10.one
        have hU10 := hU9.trans (hX10.mono (fun _ h => .inr (.inl h)) hz3)
        refine Jn ?_
        refine zaf (hn10.cellsAdd) fun zS => ?_
        refine zr 10 rfl zS (fun _ => ao rfl) ?_
        refine zrf 11 rfl zS rfl ?_
        refine J0 12 (by kernel_rfl) rfl ?_
        refine aj (j := 9) hb10 rfl (Lm _) hl10 rfl rfl rfl ?_
        have hX11:Jr (fun q => q = j) O10 w10 O10 (JI w10 ⟨rb, 9, none⟩ lv10) := Jp (fun e => hj e.symm) hb10.tag rfl
        have hb11:JX O10 (JI w10 ⟨rb, 9, none⟩ lv10) j rb ({({s with pos := (m:Int) - (r2.length:Int), bad := ((m:Int) - (r2.length:Int)) + 1 + (p:Int), e := e}:LS)with mc := lv10}:LS).cells 128 := hb10.set 9 lv10
        have hn11 := hn10.upd hX11 (by omega) (by omega)
        have hrow11 := hrow10.upd hX11 hjm (fun e => hne e.symm)
        have hU11 := hU10.trans (hX11.mono (fun _ h => .inl h) hz3)
        have hR11 := hR10.upd hX11
        refine Jn ?_
        refine ae (hn11.cellsAdd) ?_
        refine Ji (by kernel_rfl) ?_
        have hUz := Lh hU11 hT (S' := fun q => q = j ∨ q = jm) (fun b hb => by rcases hb with hb | hb | hb; exact LA hb; exact Lz hb; have := hT b; omega) hz2
        exact aH rfl ⟨lowT O10 T, lv10, _, _, _, hUz, hR11.lowT T, hb11.lowT hjT, rfl, hne7, by dsimp only; omega⟩
       ·skip
        refine aJ elM (enc := lf) (nm, x) rfl rfl rfl (by decide) rfl ?_
        intro w9 h9 hE9
        have hX9:Jr (fun _ => False) O8 (KW wf) O8 w9 := aa (fun h => h) O8 hE9
        have hb9 := hbD.upd hX9 hj (fun h => h)
        have hn9 := hnD.upd hX9 (by omega) (fun h => h)
        have hrow9 := hrowD.upd hX9 hjm (fun h => h)
        have hR9 := hRD.upd hX9
        have hU9 := hUD.trans (hX9.mono (fun _ h => h.elim) hz3)
        refine Jn ?_
        refine ae hn9.cellsAdd ?_
        refine J0 4 (by kernel_rfl) rfl ?_
        refine zv (RV.ld hb9.q9 rfl) ?_
        refine Jn ?_
        refine ae hn9.cellsAdd ?_
        have hone9:∀u ∈ [((nm, x):M3)], ∀c ∈ lf u, c.oneCell' = true := fun u hu => by
         rw[J5.1 hu]; exact kK hxo
        refine J0 9 (by kernel_rfl) rfl ?_
        refine aC elM hrow9 hR9 h9 (by simp) rfl rfl (fun _ _ => rfl) hone9 (by simp; omega) (by simp; omega) (by omega) rfl ?_
        intro lv10 w10 O10 hrow10 hX10 hR10
        have hb10 := J2 hb9 hX10 hj (by omega)
        have hn10 := J2 hn9 hX10 (by omega) (by omega)
        have hl10 := hrow10.one
        have hU10 := hU9.trans (hX10.mono (fun _ h => .inr (.inl h)) hz3)
        refine Jn ?_
        refine zaf (hn10.cellsAdd) fun zS => ?_
        refine zr 10 rfl zS (fun _ => ao rfl) ?_
        refine zrf 11 rfl zS rfl ?_
        refine J0 12 (by kernel_rfl) rfl ?_
        refine aj (j := 9) hb10 rfl (Lm _) hl10 rfl rfl rfl ?_
        have hX11:Jr (fun q => q = j) O10 w10 O10 (JI w10 ⟨rb, 9, none⟩ lv10) := Jp (fun e => hj e.symm) hb10.tag rfl
        have hb11:JX O10 (JI w10 ⟨rb, 9, none⟩ lv10) j rb ({({s with pos := (m:Int) - (r2.length:Int), bad := ((m:Int) - (r2.length:Int)) + 1 + (p:Int), e := e}:LS)with mc := lv10}:LS).cells 128 := hb10.set 9 lv10
        have hn11 := hn10.upd hX11 (by omega) (by omega)
        have hrow11 := hrow10.upd hX11 hjm (fun e => hne e.symm)
        have hU11 := hU10.trans (hX11.mono (fun _ h => .inl h) hz3)
        have hR11 := hR10.upd hX11
        refine Jn ?_
        refine ae (hn11.cellsAdd) ?_
        refine Ji (by kernel_rfl) ?_
        have hUz := Lh hU11 hT (S' := fun q => q = j ∨ q = jm) (fun b hb => by rcases hb with hb | hb | hb; exact LA hb; exact Lz hb; have := hT b; omega) hz2
        exact aH rfl ⟨lowT O10 T, lv10, _, _, _, hUz, hR11.lowT T, hb11.lowT hjT, rfl, hne7, by dsimp only; omega⟩
    ·have hM:sW kn r = .bad r2.length 4 := by rw[hMK, if_neg hc]
     rw[hM]
     refine aR rfl ((vq _ 61 (by decide) hc)) ?_
     have hbe := hb5.drew
     refine JV ?_
     refine JY 8 rfl rfl (by kernel_rfl) (by kernel_rfl) ?_
     refine zw (Jo rfl) ?_
     refine zw (ao rfl) ?_
     refine zw (RV.fa rfl) ?_
     refine zw (Jo rfl) ?_
     refine zw (ao rfl) ?_
     refine zw (RV.fa rfl) ?_
     refine zw (RV.fa rfl) ?_
     refine zw (RV.ld hbe.q1 rfl) ?_
     refine Kw ?_
     refine zc K1 (bD O w5.drew j rb ({s with pos := (m:Int) - (r2.length:Int)}:LS) ((m:Int) - (r2.length:Int)) 4 hj he hbe) ?_
     rintro u w6 ⟨hb6, hU6⟩
     refine Jn ?_
     refine aq ?_
     refine Ma ?_
     refine dM ?_
     exact cz rfl ⟨O, s.mc, _, _, _, hpv ((hUt5.drew).trans (hU6.mono (fun _ h => .inl h) hz3)), hR5.drew.upd hU6, hb6, rfl, by decide, rfl⟩
  ·have hM:sW kn r = .bad (au r).length (eR kn ((au r).takeWhile ak)) := by unfold sW; rw[if_neg hnm, if_pos htk]
   rw[hM]
   refine aR rfl ((by simpa using htk)) ?_
   refine JV ?_
   refine K4 ?_
   refine zv (Jo rfl) ?_
   refine zv (ao rfl) ?_
   refine zv (RV.fa rfl) ?_
   refine zv (Jo rfl) ?_
   refine zv (Jo rfl) ?_
   refine zc K1 (bD O w3 j rb ({s with pos := (m:Int) - (((au r).dropWhile ak).length:Int)}:LS) ((m:Int) - ((au r).length:Int)) (eR kn ((au r).takeWhile ak)) hj he hb3) ?_
   rintro u w4 ⟨hb4, hU4⟩
   refine Jn ?_
   refine aq ?_
   refine Ma ?_
   refine dM ?_
   exact cz rfl ⟨O, s.mc, _, _, _, hpv (hUt3.trans (hU4.mono (fun _ h => .inl h) hz3)), hR3.upd hU4, hb4, rfl, htk, rfl⟩
end
theorem IY:Elem Jt 22 3 1 8:=⟨Jj,by kernel_rfl,zd⟩
inductive LM where
 |ok (l:List Int)
 |bad (p:Nat) (e:Int)
def gH:Nat->List Int->List UInt8->LM
 |0,acc,_=>.ok acc
 |n+1,acc,r=>
  if(au r).length=0 then .ok acc
  else if(au r).takeWhile ak=[]then .bad (au r).length 4
  else match An ((au r).takeWhile ak)with
   |none=>.bad (au r).length 5
   |some c=>gH n (acc++[(c:Int)]) ((au r).dropWhile ak)
def Iw:LM->LM
 |.bad p e=>.bad p e
 |.ok []=>.bad 0 4
 |.ok (a::l)=>.ok (Ll (gJ (a::l)))
def df(r:List UInt8):LM:=Iw (gH (r.length+1) [] r)
theorem sf{x:List UInt8}(h:x.takeWhile ak≠[]):(x.dropWhile ak).length<x.length:=by
 have:=congrArg Mi (List.takeWhile_append_dropWhile (p:=ak) (l:=x));rw[JU]at this;have:=List.length_pos_iff.2 h;omega
def GV(m:Nat)(w':ln)(O':Nat->Nat)(ji:Nat)(lv:ix)(bad e:Int):LM->Prop
 |.ok l=>e=0/\KJ encI 3 1 O' w' ji lv l
 |.bad p e'=>e=e'/\e'≠0/\bad=(m:Int)-(p:Int)
theorem pI(O:Nat->Nat)(w:ln)(j rb:Nat)(s:LS)(hj:j≠0)(he:s.e=0)(a0:s.i=true)(h:Ls O w j rb s):
  Kx Jt 95 [nP rb,.pointer (some ⟨rb,6,none⟩),.pointer (some ⟨rb,10,none⟩)] w fun _ w'=>Ls O w' j rb {s with bad:=s.bg,e:=11}/\Jr (fun k=>k=j) O w O w':=by
 have q0:=h.q10;rw[a0]at q0;have q3:=h.q3;have hd:=h.drew;have a3:Jr (fun k=>k=j) O w O w.drew:=(KI (fun e=>hj e.symm) O w).drew;refine J1 Mo M5 rfl rfl ?_;refine zg ?_;refine zvG (RV.ld q0 rfl) ?_;refine zTG rfl rfl ?_;refine JY 8 rfl rfl zk zk ?_;refine zg ?_;refine zw (RV.ld q3 rfl) ?_;refine Kw ?_;refine zc K1 (bD O w.drew j rb s s.bg 11 hj he hd) ?_;rintro u w1 ⟨a1,a2⟩;refine zg ?_;exact cz rfl ⟨a1,a3.trans a2⟩
theorem pH(O:Nat->Nat)(w:ln)(j rb:Nat)(s:LS)(hj:j≠0)(he:s.e=0)(a0:s.k=true)(h:Ls O w j rb s):
  Kx Jt 95 [nP rb,.pointer (some ⟨rb,7,none⟩),.pointer (some ⟨rb,11,none⟩)] w fun _ w'=>Ls O w' j rb {s with bad:=s.bg,e:=11}/\Jr (fun k=>k=j) O w O w':=by
 have q0:=h.q11;rw[a0]at q0;have q3:=h.q3;have hd:=h.drew;have a3:Jr (fun k=>k=j) O w O w.drew:=(KI (fun e=>hj e.symm) O w).drew;refine J1 Mo M5 rfl rfl ?_;refine zg ?_;refine zvG (RV.ld q0 rfl) ?_;refine zTG rfl rfl ?_;refine JY 8 rfl rfl zk zk ?_;refine zg ?_;refine zw (RV.ld q3 rfl) ?_;refine Kw ?_;refine zc K1 (bD O w.drew j rb s s.bg 11 hj he hd) ?_;rintro u w1 ⟨a1,a2⟩;refine zg ?_;exact cz rfl ⟨a1,a3.trans a2⟩
theorem rZ:∀(n:Nat) (a0:List Int) (r:List UInt8) (p:Nat) (e:Int),gH n a0 r=.bad p e->p<=r.length
 |0,_,_,_,_,h=>by cases h
 |n+1,a0,r,p,e,h=>by
  have hs:=dh r;unfold gH at h
  split at h
  ·cases h
  split at h
  ·cases h;exact hs
  split at h
  ·cases h;exact hs
  have h1:=rZ n _ _ p e h;have h2:=(J4 (l:=au r) ak).length_le;omega
theorem mP{r:List UInt8}{p:Nat}{e:Int}(h:df r=.bad p e):p<=r.length:=by
 unfold df at h
 cases hw:gH (r.length+1) [] r with
 |bad q f=>rw[hw]at h;cases h;exact rZ _ _ _ _ _ hw
 |ok l=>
  rw[hw]at h
  cases l with
  |nil=>cases h;exact Jq _
  |cons a l=>cases h
theorem sU(B:Nat)(O:Nat->Nat)(w:ln)(j ji rb:Nat)(s:LS)(m:Nat)(r0:List UInt8)(hR:KX B O w)(hj:j≠0)(a8:ji≠0)(a9:j≠ji)(hm:m<=s.l.length)(hl:s.l.length<=100000)(d6:s.to=(m:Int))(he:s.e=0)(g1:s.i=false)(g2:s.ig=rS)
  (hr:r0 <:+ s.l.take m) (hp:s.pos=(m:Int)-(r0.length:Int)) (h:Ls O w j rb s) :
  Kx Jt 95 [nP rb,.pointer (some ⟨rb,6,none⟩),.pointer (some ⟨rb,10,none⟩)] w fun _ w'=>∃O' lv pos bad e,Jr (fun k=>k=j\/k=ji) O w O' w'/\KX B O' w'/\Ls O' w' j rb {s with pos:=pos,bad:=bad,e:=e,ig:=lv,i:=true}/\GV m w' O' ji lv bad e (df r0):=by
 have a0:¬(fun q:Nat=>q=j\/q=ji) 0:=fun e=>by rcases e with e|e;exact hj e.symm;exact a8 e.symm
 have h1:r0.length<=m:=by have:=hr.length_le;simp at this;omega
 have q0:=h.q10;rw[g1]at q0;refine J1 Mo M5 rfl rfl ?_;refine zg ?_;refine zvG (RV.ld q0 rfl) ?_;refine zFG rfl rfl ?_;refine aj (j:=10) h rfl (M4 _) rfl rfl rfl rfl ?_;have g4:Ls O (w.setCell ⟨rb,10,none⟩ (.bool true)) j rb {s with i:=true}:=Mz h 10 _;have f6:Jr (fun k=>k=j) O w O (w.setCell ⟨rb,10,none⟩ (.bool true)):=Jp (fun e=>hj e.symm) h.tag rfl;have g7:=hR.upd f6;generalize w.setCell ⟨rb,10,none⟩ (.bool true)=w1 at *;obtain⟨M,d1⟩:∃M,M=gH (r0.length+1) [] r0:=⟨_,rfl⟩
 refine zg ?_;refine zlp (fun y:Nat×List Int×List UInt8×(Nat->Nat)×World×ix=>[(0,nP rb),(1,.pointer (some ⟨rb,6,none⟩))]) (fun y=>y.2.2.2.2.1) (fun y=>Ls y.2.2.2.1 y.2.2.2.2.1 j rb {s with pos:=(m:Int)-(y.2.2.1.length:Int),ig:=y.2.2.2.2.2,i:=true}/\KJ encI 3 1 y.2.2.2.1 y.2.2.2.2.1 ji y.2.2.2.2.2 y.2.1/\y.2.2.1 <:+ s.l.take m/\gH y.1 y.2.1 y.2.2.1=M/\y.2.2.1.length<y.1/\y.2.1.length+y.2.2.1.length<=r0.length/\Jr (fun k=>k=j\/k=ji) O w y.2.2.2.1 y.2.2.2.2.1/\KX B y.2.2.2.1 y.2.2.2.2.1) (fun y=>y.1) (r0.length+1,[],r0,O,w1,rS) (⟨by dsimp only;rw[<-hp,<-g2];exact g4,JJ _ _ _ _ _ _,hr,d1.symm,LO _,by simp,f6.mono (fun _ h=>.inl h) a0,g7⟩) ?_
 rintro⟨n,d5,r,O1,w2,lv⟩ ⟨f4,b1,b2,a4,hn,g5,f5,f7⟩;dsimp only at f4 b1 b2 a4 hn g5 f5 f7 ⊢;obtain⟨n,rfl⟩:∃q,n=q+1:=⟨n-1,by omega⟩
 have g':=dh r;unfold gH at a4;refine zg ?_;refine zc Lr (dI O1 w2 j rb ({s with pos:=(m:Int)-((r).length:Int),ig:=lv,i:=true}:LS) m r hj hm hl d6 b2 rfl f4) ?_;rintro v w3 ⟨rfl,b6,e6⟩;have a3:=b1.upd e6 a8 (fun e=>a9 e.symm);have f3:=f7.upd e6;have b9:=f5.trans (e6.mono (fun _ h=>.inl h) a0);refine zg ?_
 by_cases h0:(au r).length=0
 ·rw[if_pos h0]at a4;refine aN rfl ((decide_eq_false zo)) ?_;have f9:=b6.q6;have d7:=a3.sl;refine zg ?_;refine zv (RV.ld f9 rfl) ?_;refine zvG (L3 (by first|exact d7) Jj rfl) ?_
  rcases d5 with _|⟨a,d5⟩
  ·have hM:df r0=.bad 0 4:=by unfold df;rw[<-d1,<-a4];rfl
   rw[hM];refine aR rfl rfl ?_;have d':=b6.q2;dsimp only at d';rw[d6]at d';have hb3d:=b6.drew;have hrow3d:=a3.drew;have hR3d:=f3.drew;have hUt3d:=b9.drew;refine JY 8 rfl rfl zk zk ?_;refine zg ?_;refine zw (RV.ld d' rfl) ?_;refine Kw ?_;refine zc K1 (bD O1 w3.drew j rb ({s with pos:=(m:Int)-((au r).length:Int),ig:=lv,i:=true}:LS) (m:Int) 4 hj he hb3d) ?_;rintro u w7 ⟨b',c5⟩;have a2:=hrow3d.upd c5 a8 (fun e=>a9 e.symm);have e9:=hR3d.upd c5;have e3:=hUt3d.trans (c5.mono (fun _ h=>.inl h) a0);have d9:=MK b';refine zg ?_;refine zv (RV.ld d9 rfl) ?_;refine zc M8 (jT e9 a2 a8 zo) ?_;rintro u w8 ⟨a6,a',e8⟩;have b5:=J2 b' a' hj a9;have d8:=b5.q6;refine zg ?_;refine zv (RV.ld d8 rfl) ?_;refine zc M7 (eK e8 a6 a8 (by rw[dS];omega)) ?_;rintro u w9 ⟨a1,c',e7⟩;have b4:=b5.upd c' hj a9;have a7:=a1.one;refine zg ?_;refine aj (j:=6) b4 rfl (KV _) a7 rfl rfl rfl ?_;have b7:=b4.set 6 u;have a5:Jr (fun k=>k=j) O1 w9 O1 (w9.setCell ⟨rb,6,none⟩ u):=Jp (fun e=>hj e.symm) b4.tag rfl;have e1:=((e3.trans (a'.mono (fun _ h=>.inr h) a0)).trans (c'.mono (fun _ h=>.inr h) a0)).trans (a5.mono (fun _ h=>.inl h) a0);refine zg ?_;exact aH rfl ⟨O1,u,_,(m:Int),4,e1,e7.upd a5,b7,⟨rfl,by decide,by simp⟩⟩
  have hM:df r0=.ok (Ll (gJ (a::d5))):=by unfold df;rw[<-d1,<-a4];rfl
  rw[hM];refine aN rfl ((beq_eq_false_iff_ne.2 (by simp;omega))) ?_;have d9:=MK b6;refine zg ?_;refine zv (RV.ld d9 rfl) ?_;refine zc M8 (jT f3 a3 a8 zo) ?_;rintro u w8 ⟨a6,a',e8⟩;have b5:=J2 b6 a' hj a9;have d8:=b5.q6;refine zg ?_;refine zv (RV.ld d8 rfl) ?_;refine zc M7 (eK e8 a6 a8 (by rw[dS];omega)) ?_;rintro u w9 ⟨a1,c',e7⟩;have b4:=b5.upd c' hj a9;have a7:=a1.one;refine zg ?_;refine aj (j:=6) b4 rfl (KV _) a7 rfl rfl rfl ?_;have b7:=b4.set 6 u;have a5:Jr (fun k=>k=j) O1 w9 O1 (w9.setCell ⟨rb,6,none⟩ u):=Jp (fun e=>hj e.symm) b4.tag rfl;have e1:=((b9.trans (a'.mono (fun _ h=>.inr h) a0)).trans (c'.mono (fun _ h=>.inr h) a0)).trans (a5.mono (fun _ h=>.inl h) a0);refine zg ?_;exact aH rfl ⟨O1,u,_,_,_,e1,e7.upd a5,b7,⟨he,a1.upd a5 a8 (fun e=>a9 e.symm)⟩⟩
 rw[if_neg h0]at a4;refine aR rfl ((decide_eq_true zo)) ?_;have f':=b6.q1;have b0:=(aW r).trans b2;refine zg ?_;refine zvG (RV.ld f' rfl) ?_;refine zc LX (gM O1 w3 j rb ({s with pos:=(m:Int)-((au r).length:Int),ig:=lv,i:=true}:LS) m (au r) hj hm hl d6 b0 rfl b6) ?_;rintro v w4 ⟨rfl,g3,e5⟩;have c7:=a3.upd e5 a8 (fun e=>a9 e.symm);have g6:=f3.upd e5;have e4:=b9.trans (e5.mono (fun _ h=>.inl h) a0);refine zg ?_;refine zc MF (iM ((au r).takeWhile ak) w4) ?_;rintro v w5 ⟨rfl,g8⟩;have d4:Jr (fun _=>False) O1 w4 O1 w5:=aa (fun h=>h) O1 g8;have d3:=g3.upd d4 hj (fun h=>h);have c6:=c7.upd d4 a8 (fun h=>h);have e':=g6.upd d4;have b8:=e4.trans (d4.mono (fun _ h=>h.elim) a0);refine zg ?_;refine zvG (cR rfl rfl) ?_
 by_cases c9:(au r).takeWhile ak=[]
 ·rw[if_pos c9]at a4;have hM:df r0=.bad (au r).length 4:=by unfold df;rw[<-d1,<-a4];rfl
  rw[hM];refine zTG rfl ((by simpa using c9)) ?_;refine zc K1 (bD O1 w5 j rb ({s with pos:=(m:Int)-(((au r).dropWhile ak).length:Int),ig:=lv,i:=true}:LS) ((m:Int)-((au r).length:Int)) 4 hj he d3) ?_;rintro u w6 ⟨e0,d0⟩;refine zg ?_;exact cz rfl ⟨O1,lv,_,_,_,b8.trans (d0.mono (fun _ h=>.inl h) a0),e'.upd d0,e0,rfl,by decide,rfl⟩
 rw[if_neg c9]at a4;have g9:=sf c9;refine zFG rfl ((by simpa using c9)) ?_
 cases b3:An ((au r).takeWhile ak)with
 |none=>
  rw[b3]at a4;have hM:df r0=.bad (au r).length 5:=by unfold df;rw[<-d1,<-a4];rfl
  rw[hM];refine zTG rfl rfl ?_;refine zc K1 (bD O1 w5 j rb ({s with pos:=(m:Int)-(((au r).dropWhile ak).length:Int),ig:=lv,i:=true}:LS) ((m:Int)-((au r).length:Int)) 5 hj he d3) ?_;rintro u w6 ⟨e0,d0⟩;refine zg ?_;exact cz rfl ⟨O1,lv,_,_,_,b8.trans (d0.mono (fun _ h=>.inl h) a0),e'.upd d0,e0,rfl,by decide,rfl⟩
 |some c=>
  rw[b3]at a4;dsimp only at a4;have g0:Dp ((au r).takeWhile ak)=(c:Int):=by unfold Dp;rw[b3]
  rw[g0];refine aN rfl rfl ?_;have f8:=d3.q6;refine zg ?_;refine zvG (RV.ld f8 rfl) ?_;refine L0 IY c6 e' ((c:Int)) (fun _=>rfl) rfl rfl rfl (by simp[JC,encI]) zo zo zo zd rfl rfl ?_;intro d2 w7 O7 a2 c5 e9;have c8:=a2.one;have b':=d3.upd c5 hj a9;refine zg ?_;refine aj (j:=6) b' rfl (KV _) c8 rfl rfl rfl ?_;have b5:=b'.set 6 d2;have a':Jr (fun k=>k=j) O7 w7 O7 (w7.setCell ⟨rb,6,none⟩ d2):=Jp (fun e=>hj e.symm) b'.tag rfl;have e2:=(b8.trans (c5.mono (fun _ h=>.inr h) a0)).trans (a'.mono (fun _ h=>.inl h) a0);refine zg ?_;refine zxd (n,d5++[(c:Int)],(au r).dropWhile ak,O7,(w7.setCell ⟨rb,6,none⟩ d2),d2) (⟨b5,a2.upd a' a8 (fun e=>a9 e.symm),(J4 _).trans b0,a4,by dsimp only;omega,by simp;omega,e2,e9.upd a'⟩)
theorem sT(B:Nat)(O:Nat->Nat)(w:ln)(j ji rb:Nat)(s:LS)(m:Nat)(r0:List UInt8)(hR:KX B O w)(hj:j≠0)(a8:ji≠0)(a9:j≠ji)(hm:m<=s.l.length)(hl:s.l.length<=100000)(d6:s.to=(m:Int))(he:s.e=0)(g1:s.k=false)(g2:s.kp=rS)
  (hr:r0 <:+ s.l.take m) (hp:s.pos=(m:Int)-(r0.length:Int)) (h:Ls O w j rb s) :
  Kx Jt 95 [nP rb,.pointer (some ⟨rb,7,none⟩),.pointer (some ⟨rb,11,none⟩)] w fun _ w'=>∃O' lv pos bad e,Jr (fun k=>k=j\/k=ji) O w O' w'/\KX B O' w'/\Ls O' w' j rb {s with pos:=pos,bad:=bad,e:=e,kp:=lv,k:=true}/\GV m w' O' ji lv bad e (df r0):=by
 have a0:¬(fun q:Nat=>q=j\/q=ji) 0:=fun e=>by rcases e with e|e;exact hj e.symm;exact a8 e.symm
 have h1:r0.length<=m:=by have:=hr.length_le;simp at this;omega
 have q0:=h.q11;rw[g1]at q0;refine J1 Mo M5 rfl rfl ?_;refine zg ?_;refine zvG (RV.ld q0 rfl) ?_;refine zFG rfl rfl ?_;refine aj (j:=11) h rfl (M4 _) rfl rfl rfl rfl ?_;have g4:Ls O (w.setCell ⟨rb,11,none⟩ (.bool true)) j rb {s with k:=true}:=Mz h 11 _;have f6:Jr (fun k=>k=j) O w O (w.setCell ⟨rb,11,none⟩ (.bool true)):=Jp (fun e=>hj e.symm) h.tag rfl;have g7:=hR.upd f6;generalize w.setCell ⟨rb,11,none⟩ (.bool true)=w1 at *;obtain⟨M,d1⟩:∃M,M=gH (r0.length+1) [] r0:=⟨_,rfl⟩
 refine zg ?_;refine zlp (fun y:Nat×List Int×List UInt8×(Nat->Nat)×World×ix=>[(0,nP rb),(1,.pointer (some ⟨rb,7,none⟩))]) (fun y=>y.2.2.2.2.1) (fun y=>Ls y.2.2.2.1 y.2.2.2.2.1 j rb {s with pos:=(m:Int)-(y.2.2.1.length:Int),kp:=y.2.2.2.2.2,k:=true}/\KJ encI 3 1 y.2.2.2.1 y.2.2.2.2.1 ji y.2.2.2.2.2 y.2.1/\y.2.2.1 <:+ s.l.take m/\gH y.1 y.2.1 y.2.2.1=M/\y.2.2.1.length<y.1/\y.2.1.length+y.2.2.1.length<=r0.length/\Jr (fun k=>k=j\/k=ji) O w y.2.2.2.1 y.2.2.2.2.1/\KX B y.2.2.2.1 y.2.2.2.2.1) (fun y=>y.1) (r0.length+1,[],r0,O,w1,rS) (⟨by dsimp only;rw[<-hp,<-g2];exact g4,JJ _ _ _ _ _ _,hr,d1.symm,LO _,by simp,f6.mono (fun _ h=>.inl h) a0,g7⟩) ?_
 rintro⟨n,d5,r,O1,w2,lv⟩ ⟨f4,b1,b2,a4,hn,g5,f5,f7⟩;dsimp only at f4 b1 b2 a4 hn g5 f5 f7 ⊢;obtain⟨n,rfl⟩:∃q,n=q+1:=⟨n-1,by omega⟩
 have g':=dh r;unfold gH at a4;refine zg ?_;refine zc Lr (dI O1 w2 j rb ({s with pos:=(m:Int)-((r).length:Int),kp:=lv,k:=true}:LS) m r hj hm hl d6 b2 rfl f4) ?_;rintro v w3 ⟨rfl,b6,e6⟩;have a3:=b1.upd e6 a8 (fun e=>a9 e.symm);have f3:=f7.upd e6;have b9:=f5.trans (e6.mono (fun _ h=>.inl h) a0);refine zg ?_
 by_cases h0:(au r).length=0
 ·rw[if_pos h0]at a4;refine aN rfl ((decide_eq_false zo)) ?_;have f9:=b6.q7;have d7:=a3.sl;refine zg ?_;refine zv (RV.ld f9 rfl) ?_;refine zvG (L3 (by first|exact d7) Jj rfl) ?_
  rcases d5 with _|⟨a,d5⟩
  ·have hM:df r0=.bad 0 4:=by unfold df;rw[<-d1,<-a4];rfl
   rw[hM];refine aR rfl rfl ?_;have d':=b6.q2;dsimp only at d';rw[d6]at d';have hb3d:=b6.drew;have hrow3d:=a3.drew;have hR3d:=f3.drew;have hUt3d:=b9.drew;refine JY 8 rfl rfl zk zk ?_;refine zg ?_;refine zw (RV.ld d' rfl) ?_;refine Kw ?_;refine zc K1 (bD O1 w3.drew j rb ({s with pos:=(m:Int)-((au r).length:Int),kp:=lv,k:=true}:LS) (m:Int) 4 hj he hb3d) ?_;rintro u w7 ⟨b',c5⟩;have a2:=hrow3d.upd c5 a8 (fun e=>a9 e.symm);have e9:=hR3d.upd c5;have e3:=hUt3d.trans (c5.mono (fun _ h=>.inl h) a0);have d9:=MJ b';refine zg ?_;refine zv (RV.ld d9 rfl) ?_;refine zc M8 (jT e9 a2 a8 zo) ?_;rintro u w8 ⟨a6,a',e8⟩;have b5:=J2 b' a' hj a9;have d8:=b5.q7;refine zg ?_;refine zv (RV.ld d8 rfl) ?_;refine zc M7 (eK e8 a6 a8 (by rw[dS];omega)) ?_;rintro u w9 ⟨a1,c',e7⟩;have b4:=b5.upd c' hj a9;have a7:=a1.one;refine zg ?_;refine aj (j:=7) b4 rfl (KV _) a7 rfl rfl rfl ?_;have b7:=b4.set 7 u;have a5:Jr (fun k=>k=j) O1 w9 O1 (w9.setCell ⟨rb,7,none⟩ u):=Jp (fun e=>hj e.symm) b4.tag rfl;have e1:=((e3.trans (a'.mono (fun _ h=>.inr h) a0)).trans (c'.mono (fun _ h=>.inr h) a0)).trans (a5.mono (fun _ h=>.inl h) a0);refine zg ?_;exact aH rfl ⟨O1,u,_,(m:Int),4,e1,e7.upd a5,b7,⟨rfl,by decide,by simp⟩⟩
  have hM:df r0=.ok (Ll (gJ (a::d5))):=by unfold df;rw[<-d1,<-a4];rfl
  rw[hM];refine aN rfl ((beq_eq_false_iff_ne.2 (by simp;omega))) ?_;have d9:=MJ b6;refine zg ?_;refine zv (RV.ld d9 rfl) ?_;refine zc M8 (jT f3 a3 a8 zo) ?_;rintro u w8 ⟨a6,a',e8⟩;have b5:=J2 b6 a' hj a9;have d8:=b5.q7;refine zg ?_;refine zv (RV.ld d8 rfl) ?_;refine zc M7 (eK e8 a6 a8 (by rw[dS];omega)) ?_;rintro u w9 ⟨a1,c',e7⟩;have b4:=b5.upd c' hj a9;have a7:=a1.one;refine zg ?_;refine aj (j:=7) b4 rfl (KV _) a7 rfl rfl rfl ?_;have b7:=b4.set 7 u;have a5:Jr (fun k=>k=j) O1 w9 O1 (w9.setCell ⟨rb,7,none⟩ u):=Jp (fun e=>hj e.symm) b4.tag rfl;have e1:=((b9.trans (a'.mono (fun _ h=>.inr h) a0)).trans (c'.mono (fun _ h=>.inr h) a0)).trans (a5.mono (fun _ h=>.inl h) a0);refine zg ?_;exact aH rfl ⟨O1,u,_,_,_,e1,e7.upd a5,b7,⟨he,a1.upd a5 a8 (fun e=>a9 e.symm)⟩⟩
 rw[if_neg h0]at a4;refine aR rfl ((decide_eq_true zo)) ?_;have f':=b6.q1;have b0:=(aW r).trans b2;refine zg ?_;refine zvG (RV.ld f' rfl) ?_;refine zc LX (gM O1 w3 j rb ({s with pos:=(m:Int)-((au r).length:Int),kp:=lv,k:=true}:LS) m (au r) hj hm hl d6 b0 rfl b6) ?_;rintro v w4 ⟨rfl,g3,e5⟩;have c7:=a3.upd e5 a8 (fun e=>a9 e.symm);have g6:=f3.upd e5;have e4:=b9.trans (e5.mono (fun _ h=>.inl h) a0);refine zg ?_;refine zc MF (iM ((au r).takeWhile ak) w4) ?_;rintro v w5 ⟨rfl,g8⟩;have d4:Jr (fun _=>False) O1 w4 O1 w5:=aa (fun h=>h) O1 g8;have d3:=g3.upd d4 hj (fun h=>h);have c6:=c7.upd d4 a8 (fun h=>h);have e':=g6.upd d4;have b8:=e4.trans (d4.mono (fun _ h=>h.elim) a0);refine zg ?_;refine zvG (cR rfl rfl) ?_
 by_cases c9:(au r).takeWhile ak=[]
 ·rw[if_pos c9]at a4;have hM:df r0=.bad (au r).length 4:=by unfold df;rw[<-d1,<-a4];rfl
  rw[hM];refine zTG rfl ((by simpa using c9)) ?_;refine zc K1 (bD O1 w5 j rb ({s with pos:=(m:Int)-(((au r).dropWhile ak).length:Int),kp:=lv,k:=true}:LS) ((m:Int)-((au r).length:Int)) 4 hj he d3) ?_;rintro u w6 ⟨e0,d0⟩;refine zg ?_;exact cz rfl ⟨O1,lv,_,_,_,b8.trans (d0.mono (fun _ h=>.inl h) a0),e'.upd d0,e0,rfl,by decide,rfl⟩
 rw[if_neg c9]at a4;have g9:=sf c9;refine zFG rfl ((by simpa using c9)) ?_
 cases b3:An ((au r).takeWhile ak)with
 |none=>
  rw[b3]at a4;have hM:df r0=.bad (au r).length 5:=by unfold df;rw[<-d1,<-a4];rfl
  rw[hM];refine zTG rfl rfl ?_;refine zc K1 (bD O1 w5 j rb ({s with pos:=(m:Int)-(((au r).dropWhile ak).length:Int),kp:=lv,k:=true}:LS) ((m:Int)-((au r).length:Int)) 5 hj he d3) ?_;rintro u w6 ⟨e0,d0⟩;refine zg ?_;exact cz rfl ⟨O1,lv,_,_,_,b8.trans (d0.mono (fun _ h=>.inl h) a0),e'.upd d0,e0,rfl,by decide,rfl⟩
 |some c=>
  rw[b3]at a4;dsimp only at a4;have g0:Dp ((au r).takeWhile ak)=(c:Int):=by unfold Dp;rw[b3]
  rw[g0];refine aN rfl rfl ?_;have f8:=d3.q7;refine zg ?_;refine zvG (RV.ld f8 rfl) ?_;refine L0 IY c6 e' ((c:Int)) (fun _=>rfl) rfl rfl rfl (by simp[JC,encI]) zo zo zo zd rfl rfl ?_;intro d2 w7 O7 a2 c5 e9;have c8:=a2.one;have b':=d3.upd c5 hj a9;refine zg ?_;refine aj (j:=7) b' rfl (KV _) c8 rfl rfl rfl ?_;have b5:=b'.set 7 d2;have a':Jr (fun k=>k=j) O7 w7 O7 (w7.setCell ⟨rb,7,none⟩ d2):=Jp (fun e=>hj e.symm) b'.tag rfl;have e2:=(b8.trans (c5.mono (fun _ h=>.inr h) a0)).trans (a'.mono (fun _ h=>.inl h) a0);refine zg ?_;refine zxd (n,d5++[(c:Int)],(au r).dropWhile ak,O7,(w7.setCell ⟨rb,7,none⟩ d2),d2) (⟨b5,a2.upd a' a8 (fun e=>a9 e.symm),(J4 _).trans b0,a4,by dsimp only;omega,by simp;omega,e2,e9.upd a'⟩)
structure St where
 ts:List R3
 li:List Int
 lk:List Int
 hi:Bool
 hk:Bool
inductive RS where
 |go (s:St)
 |bad (p:Nat) (e:Int)
 |other
def IJ(st:St)(d:Nat):LM->RS
 |.ok l=>.go {st with li:=l,hi:=true}
 |.bad p e=>.bad (d-p) e
def II(st:St)(d:Nat):LM->RS
 |.ok l=>.go {st with lk:=l,hk:=true}
 |.bad p e=>.bad (d-p) e
def IH(st:St)(d:Nat):LR->RS
 |.ok t=>.go {st with ts:=st.ts++[t]}
 |.bad p e=>.bad (d+p) e
structure Mem(O:Nat->Nat)(w:ln)(jr ji jk:Nat)(s:LS)(st:St):Prop where
 ru:∃xs,KJ ct 69 7 O w jr s.ru xs/\st.ts.length=xs.length/\xs.length<=40/\∀i,i<xs.length->Rt O w (nth st.ts i) (nth xs i)
 ig:KJ encI 3 1 O w ji s.ig st.li
 kp:KJ encI 3 1 O w jk s.kp st.lk
 fi:s.i=st.hi
 fk:s.k=st.hk
 ni:st.hi=false->s.ig=rS
 nk:st.hk=false->s.kp=rS
theorem Mem.upd{S:Nat->Prop}{O O':Nat->Nat}{w w':ln}{jr ji jk:Nat}{s:LS}{st:St}(h:Mem O w jr ji jk s st)(u:Jr S O w O' w')(h1:jr≠0)(h2:ji≠0)(h3:jk≠0)(g1:¬S jr)(g2:¬S ji)(g3:¬S jk):Mem O' w' jr ji jk s st:=by
 obtain⟨⟨xs,a1,a2,a3,a4⟩,b,c,d,e,f,g⟩:=h;exact⟨⟨xs,a1.upd u h1 g1,a2,a3,fun i hi=>(a4 i hi).upd u⟩,b.upd u h2 g2,c.upd u h3 g3,d,e,f,g⟩
theorem Mem.with{O:Nat->Nat}{w:ln}{jr ji jk:Nat}{s s':LS}{st:St}(h:Mem O w jr ji jk s st)(e1:s'.ru=s.ru)(e2:s'.ig=s.ig)(e3:s'.kp=s.kp)(e4:s'.i=s.i)(e5:s'.k=s.k):Mem O w jr ji jk s' st:=by
 obtain⟨a,b,c,d,e,f,g⟩:=h;exact⟨by rw[e1];exact a,by rw[e2];exact b,by rw[e3];exact c,by rw[e4];exact d,by rw[e5];exact e,by rw[e2];exact f,by rw[e3];exact g⟩
section
variable{kn:Kn}
inductive RK where
 |go (kn:Kn) (st:St)
 |bad (p:Nat) (e:Int)
def oN(kn:Kn):RS->RK
 |.go st=>.go kn st
 |.bad p e=>.bad p e
 |.other=>.bad 0 0
def G5(kn:Kn)(st:St)(d:Nat):ML->RK
 |.ok x=>.go (kn++[x]) st
 |.bad p e=>.bad (d-p) e
def cO(kn:Kn)(st:St)(a0:List UInt8):RK:=
 if(aY a0).length=0 then .go kn st
 else if((aY a0).takeWhile ak==[108,101,116])=true then G5 kn st (bt a0).length (sW kn ((aY a0).dropWhile ak))
 else if((aY a0).takeWhile ak==[105,103,110,111,114,101])=true then
  (if st.hi=true then .bad ((bt a0).length-(aY a0).length) 11 else oN kn (IJ st (bt a0).length (df ((aY a0).dropWhile ak))))
 else if((aY a0).takeWhile ak==[107,101,101,112])=true then
  (if st.hk=true then .bad ((bt a0).length-(aY a0).length) 11 else oN kn (II st (bt a0).length (df ((aY a0).dropWhile ak))))
 else oN kn (IH st ((bt a0).length-(aY a0).length) (if st.ts.length=40 then LG 0 3 else iZ kn (aY a0)))
def GU(B:Nat)(O:Nat->Nat)(w w':ln)(j jr ji jk jm rb:Nat)(s:LS)(fr:Nat)(M:RK):Prop:=
 ∃O' s',Jr (fun k=>k=j\/k=jr\/k=ji\/k=jk\/k=jm) O w O' w'/\KX B O' w'/\Ls O' w' j rb s'/\s'.l=s.l/\
  match M with
  |.go kn' st'=>s'.e=0/\Mem O' w' jr ji jk s' st'/\Mac O' w' jm s'.mc kn'
  |.bad p e=>e≠0/\s'.e=e/\s'.bad=(fr:Int)+(p:Int)
theorem AH{r:List UInt8}{p:Nat}{e:Int}(h:sW kn r=.bad p e):p<=r.length:=by
 have h1:=dh r;have h2:=(J4 (l:=au r) ak).length_le;have h3:=dh ((au r).dropWhile ak);unfold sW at h
 split at h
 ·cases h;omega
 split at h
 ·cases h;omega
 split at h
 ·cases hx:fh kn (au ((au r).dropWhile ak)).tail with
  |ok t=>rw[hx]at h;cases h
  |bad q f=>rw[hx]at h;cases h;omega
 cases h;omega
theorem sG(B:Nat)(O:Nat->Nat)(w:ln)(j jr ji jk jm rb:Nat)(s:LS)(fr to:Nat)(a0:List UInt8)(st:St)(hR:KX B O w)(hj:j≠0)(b8:jr≠0)(b':ji≠0)(b9:jk≠0)(d1:j≠jr)(d0:j≠ji)(c':j≠jk)(h6:jr≠ji)(h5:jr≠jk)(h4:ji≠jk)(b4:jm≠0)(c7:j≠jm)(g4:jr≠jm)(h3:ji≠jm)(e8:jk≠jm)(g6:kn.length<=100000)(j1:fr<=to)(i':to<=s.l.length)(d5:s.l.length<=100000)(he:s.e=0) 
  (f':(s.l.take to).drop fr=a0) (i0:Mem O w jr ji jk s st) (i2:Mac O w jm s.mc kn) (h:Ls O w j rb s) :
  Kx Jt 52 [nP rb,nI fr,nI to] w fun _ w'=>GU B O w w' j jr ji jk jm rb s fr (cO kn st a0):=by
 have c5:¬(fun q:Nat=>q=j\/q=jr\/q=ji\/q=jk\/q=jm) 0:=fun e=>by rcases e with e|e|e|e|e;exact hj e.symm;exact b8 e.symm;exact b' e.symm;exact b9 e.symm;exact b4 e.symm
 have h8:¬(fun q:Nat=>q=j) 0:=fun e=>hj e.symm
 have j0:a0.length=to-fr:=by rw[<-f'];simp;omega
 have j9:(aY a0).length<=(bt a0).length:=dh _;have j':(bt a0).length<=a0.length:=(JZ (l:=a0) _).length_le;obtain⟨m,i1⟩:∃m,m=fr+(bt a0).length:=⟨_,rfl⟩
 have d4:m<=s.l.length:=zo;have g8:(s.l.take m).drop fr=bt a0:=by
  have h1:bt a0=a0.take (bt a0).length:=List.prefix_iff_eq_take.1 (JZ _);have h2:(a0.take (bt a0).length)=(s.l.take m).drop fr:=by
   conv=>lhs;arg 2;rw[<-f']
   rw[List.take_drop,List.take_take,Nat.min_eq_left zo,i1]
  rw[<-h2,<-h1]
 have d6:bt a0 <:+ s.l.take m:=by rw[<-g8];exact List.drop_suffix _ _
 have b2:aY a0 <:+ s.l.take m:=(aW _).trans d6;have f7:(fr:Int)=(m:Int)-((bt a0).length:Int):=zo;have g7:(m:Int)-((au (bt a0)).length:Int)=((m-(aY a0).length:Nat):Int):=by
  have:(au (bt a0)).length=(aY a0).length:=rfl;omega
 refine J1 func52 ntmps52 rfl rfl ?_;refine zh ?_
 refine aj (j:=1) h rfl (Ju _) rfl rfl rfl rfl ?_;have i5:=h.s_pos (fr:Int);have j5:Jr (fun k=>k=j) O w O (w.setCell ⟨rb,1,none⟩ (nI (fr:Int))):=Jp h8 h.tag rfl;refine zh ?_
 refine aj (j:=2) i5 rfl (Ju _) rfl rfl rfl rfl ?_;have g9:=i5.s_to (to:Int);have j4:Jr (fun k=>k=j) O (w.setCell ⟨rb,1,none⟩ (nI (fr:Int))) O ((w.setCell ⟨rb,1,none⟩ (nI (fr:Int))).setCell ⟨rb,2,none⟩ (nI (to:Int))):=Jp h8 i5.tag rfl;have e7:=j5.trans j4;have f8:=i0.upd e7 b8 b' b9 (fun e=>d1 e.symm) (fun e=>d0 e.symm) (fun e=>c' e.symm);have f9:=i2.upd e7 b4 (fun e=>c7 e.symm);have i9:=hR.upd e7;generalize (w.setCell ⟨rb,1,none⟩ (nI (fr:Int))).setCell ⟨rb,2,none⟩ (nI (to:Int))=w2 at *;refine zh ?_
 refine zvH (RV.ld g9.q0 rfl) ?_;refine zv (cT JL rfl rfl rfl fr to rfl rfl j1 i') ?_
 rw[show({s with pos:=(fr:Int),to:=(to:Int)}:LS).l=s.l from rfl,f'];refine zc call51 (dt a0 35 w2) ?_;rintro v w9 ⟨rfl,i8⟩;rw[i8];clear i8 w9
 cases hf:a0.findIdx? (· == 35)with
 |none=>
  have hi:rU a0 35 = -1:=by unfold rU;rw[hf]
  have i3:=yP hf;rw[hi];obtain rfl:m=to:=by rw[i1,i3,j0];omega
  refine zh ?_;refine aN rfl rfl ?_
  have e0:=f8;have e3:=f9;have i7:=i9;have g2:=e7.mono (S':=fun k=>k=j\/k=jr\/k=ji\/k=jk\/k=jm) (fun _ h=>.inl h) c5;refine zh ?_;refine zc Lr (dI O w2 j rb ({s with pos:=(fr:Int),to:=(m:Int)}:LS) m (bt a0) hj d4 d5 rfl d6 f7 g9) ?_;rintro v w4 ⟨rfl,e5,f5⟩;have c8:=e0.upd f5 b8 b' b9 (fun e=>d1 e.symm) (fun e=>d0 e.symm) (fun e=>c' e.symm);have c9:=e3.upd f5 b4 (fun e=>c7 e.symm);have g':=i7.upd f5;have e6:=g2.trans (f5.mono (fun _ h=>.inl h) c5);refine zh ?_
  by_cases h0:(aY a0).length=0
  ·have hM:cO kn st a0=.go kn st:=by unfold cO;rw[if_pos h0]
   rw[hM];refine zTH rfl ((by have d3:(au (bt a0)).length=0:=h0;simp[d3])) ?_;exact cz rfl ⟨O,_,e6,g',e5,rfl,he,c8.with rfl rfl rfl rfl rfl,c9⟩
  have d3:(au (bt a0)).length=(aY a0).length:=rfl;refine zFH rfl ((by rw[d3,decide_eq_true zo];rfl)) ?_;refine zvH (RV.ld e5.q1 rfl) ?_;refine aj (j:=3) e5 rfl (Ju _) rfl rfl rfl rfl ?_;have i4:=e5.s_bg ((m:Int)-((au (bt a0)).length:Int));have f4:Jr (fun k=>k=j) O w4 O (w4.setCell ⟨rb,3,none⟩ (nI ((m:Int)-((au (bt a0)).length:Int)))):=Jp (fun e=>hj e.symm) e5.tag rfl;have d':=c8.upd f4 b8 b' b9 (fun e=>d1 e.symm) (fun e=>d0 e.symm) (fun e=>c' e.symm);have e2:=c9.upd f4 b4 (fun e=>c7 e.symm);have i6:=g'.upd f4;have g1:=e6.trans (f4.mono (fun _ h=>.inl h) c5);generalize w4.setCell ⟨rb,3,none⟩ (nI ((m:Int)-((au (bt a0)).length:Int)))=w5 at *;refine zh ?_;refine zc LX (gM O w5 j rb ({s with pos:=((m:Int)-((au (bt a0)).length:Int)),to:=(m:Int),bg:=((m:Int)-((au (bt a0)).length:Int))}:LS) m (aY a0) hj d4 d5 rfl b2 rfl i4) ?_;rintro v w6 ⟨rfl,e9,f3⟩;have a9:=d'.upd f3 b8 b' b9 (fun e=>d1 e.symm) (fun e=>d0 e.symm) (fun e=>c' e.symm);have a':=e2.upd f3 b4 (fun e=>c7 e.symm);have f6:=i6.upd f3;have c6:=g1.trans (f3.mono (fun _ h=>.inl h) c5);have j2:=(J4 (l:=aY a0) ak).length_le;refine zh ?_;refine zvH (cR rfl rfl) ?_
  cases d2:((aY a0).takeWhile ak==[108,101,116])with
  |true=>
   have hM:cO kn st a0=G5 kn st (bt a0).length (sW kn ((aY a0).dropWhile ak)):=by unfold cO;rw[if_neg h0,if_pos d2]
   rw[hM];refine zTH rfl rfl ?_;refine zc call94 (AF B O w6 j jm rb ({s with pos:=(m:Int)-(((aY a0).dropWhile ak).length:Int),to:=(m:Int),bg:=((m:Int)-((au (bt a0)).length:Int))}:LS) m ((aY a0).dropWhile ak) f6 hj b4 c7 d4 d5 rfl he ((J4 _).trans b2) rfl g6 a' e9) ?_;rintro u w7 ⟨O7,v7,pos,bad,e,a5,b7,b1,a7⟩;have a6:=c6.trans (a5.mono (S':=fun k=>k=j\/k=jr\/k=ji\/k=jk\/k=jm) (fun _ h=>by rcases h with h|h;exact .inl h;exact .inr (.inr (.inr (.inr h)))) c5);have d9:=a9.upd a5 b8 b' b9 (fun h=>by rcases h with h|h;exact d1 h.symm;exact g4 h) (fun h=>by rcases h with h|h;exact d0 h.symm;exact h3 h) (fun h=>by rcases h with h|h;exact c' h.symm;exact e8 h);refine zh ?_
   cases hq:sW kn ((aY a0).dropWhile ak)with
   |ok x=>
    rw[hq]at a7;obtain⟨b6,e1⟩:=a7;exact aH rfl ⟨O7,_,a6,b7,b1,rfl,b6,d9.with rfl rfl rfl rfl rfl,e1⟩
   |bad p e'=>
    rw[hq]at a7;obtain⟨b6,b3,b0⟩:=a7;have d8:=AH hq;exact aH rfl ⟨O7,_,a6,b7,b1,rfl,b3,b6,by dsimp only;rw[b0];omega⟩
  |false=>
  refine zFH rfl rfl ?_;refine zvH (cR rfl rfl) ?_
  cases e4:((aY a0).takeWhile ak==[105,103,110,111,114,101])with
  |true=>
   refine aR rfl rfl ?_;have hb6d:=e9.drew;have hmem6d:=a9.upd (aa (S:=fun _=>False) (fun h=>h) O (ka w6).drew) b8 b' b9 (fun h=>h) (fun h=>h) (fun h=>h);have hmac6d:=a'.upd (aa (S:=fun _=>False) (fun h=>h) O (ka w6).drew) b4 (fun h=>h);have hR6d:=f6.drew;have hUt6d:=c6.drew;refine JY 8 rfl rfl zk zk ?_
   refine zh ?_;refine Kw ?_
   cases b5:st.hi with
   |true=>
    have hM:cO kn st a0=.bad ((bt a0).length-(aY a0).length) 11:=by unfold cO;rw[if_neg h0,if_neg (by rw[d2];decide),if_pos e4,if_pos b5]
    rw[hM];refine zc KZ (pI O w6.drew j rb ({s with pos:=(m:Int)-(((aY a0).dropWhile ak).length:Int),to:=(m:Int),bg:=((m:Int)-((au (bt a0)).length:Int))}:LS) hj he (hmem6d.fi.trans b5) hb6d) ?_;rintro u w7 ⟨b1,a5⟩;refine zh ?_;exact aH rfl ⟨O,_,hUt6d.trans (a5.mono (fun _ h=>.inl h) c5),hR6d.upd a5,b1,rfl,zd,rfl,by dsimp only;rw[d3];omega⟩
   |false=>
    have hM:cO kn st a0=oN kn (IJ st (bt a0).length (df ((aY a0).dropWhile ak))):=by unfold cO;rw[if_neg h0,if_neg (by rw[d2];decide),if_pos e4,if_neg (by rw[b5];decide)]
    rw[hM];refine zc KZ (sU B O w6.drew j ji rb ({s with pos:=(m:Int)-(((aY a0).dropWhile ak).length:Int),to:=(m:Int),bg:=((m:Int)-((au (bt a0)).length:Int))}:LS) m ((aY a0).dropWhile ak) hR6d hj b' d0 d4 d5 rfl he (hmem6d.fi.trans b5) (hmem6d.ni b5) ((J4 _).trans b2) rfl hb6d) ?_;rintro u w7 ⟨O7,lv,pos,bad,e,a5,b7,b1,a7⟩;have a6:=hUt6d.trans (a5.mono (S':=fun k=>k=j\/k=jr\/k=ji\/k=jk\/k=jm) (fun _ h=>by rcases h with h|h;exact .inl h;exact .inr (.inr (.inl h))) c5);refine zh ?_
    cases hq:df ((aY a0).dropWhile ak)with
    |ok l=>
     rw[hq]at a7;obtain⟨b6,a8⟩:=a7;obtain⟨⟨xs,a1,a2,a3,a4⟩,mb,mc,md,me,mf,mg⟩:=hmem6d;exact aH rfl ⟨O7,_,a6,b7,b1,rfl,b6,⟨⟨xs,a1.upd a5 b8 (fun h=>by rcases h with h|h;exact d1 h.symm;exact h6 h),a2,a3,fun i hi=>(a4 i hi).upd a5⟩,a8,mc.upd a5 b9 (fun h=>by rcases h with h|h;exact c' h.symm;exact h4 h.symm),rfl,me,(fun h=>by cases h),mg⟩,hmac6d.upd a5 b4 (fun h=>by rcases h with h|h;exact c7 h.symm;exact h3 h.symm)⟩
    |bad p e'=>
     rw[hq]at a7;obtain⟨b6,b3,b0⟩:=a7;have d8:=mP hq;exact aH rfl ⟨O7,_,a6,b7,b1,rfl,b3,b6,by dsimp only;rw[b0];omega⟩
  |false=>
   refine zFH rfl rfl ?_;refine zvH (cR rfl rfl) ?_
   cases g0:((aY a0).takeWhile ak==[107,101,101,112])with
   |true=>
    refine aR rfl rfl ?_;have hb6d:=e9.drew;have hmem6d:=a9.upd (aa (S:=fun _=>False) (fun h=>h) O (ka w6).drew) b8 b' b9 (fun h=>h) (fun h=>h) (fun h=>h);have hmac6d:=a'.upd (aa (S:=fun _=>False) (fun h=>h) O (ka w6).drew) b4 (fun h=>h);have hR6d:=f6.drew;have hUt6d:=c6.drew;refine JY 8 rfl rfl zk zk ?_
    refine zh ?_;refine Kw ?_
    cases b5:st.hk with
    |true=>
     have hM:cO kn st a0=.bad ((bt a0).length-(aY a0).length) 11:=by unfold cO;rw[if_neg h0,if_neg (by rw[d2];decide),if_neg (by rw[e4];decide),if_pos g0,if_pos b5]
     rw[hM];refine zc KZ (pH O w6.drew j rb ({s with pos:=(m:Int)-(((aY a0).dropWhile ak).length:Int),to:=(m:Int),bg:=((m:Int)-((au (bt a0)).length:Int))}:LS) hj he (hmem6d.fk.trans b5) hb6d) ?_;rintro u w7 ⟨b1,a5⟩;refine zh ?_;exact aH rfl ⟨O,_,hUt6d.trans (a5.mono (fun _ h=>.inl h) c5),hR6d.upd a5,b1,rfl,zd,rfl,by dsimp only;rw[d3];omega⟩
    |false=>
     have hM:cO kn st a0=oN kn (II st (bt a0).length (df ((aY a0).dropWhile ak))):=by unfold cO;rw[if_neg h0,if_neg (by rw[d2];decide),if_neg (by rw[e4];decide),if_pos g0,if_neg (by rw[b5];decide)]
     rw[hM];refine zc KZ (sT B O w6.drew j jk rb ({s with pos:=(m:Int)-(((aY a0).dropWhile ak).length:Int),to:=(m:Int),bg:=((m:Int)-((au (bt a0)).length:Int))}:LS) m ((aY a0).dropWhile ak) hR6d hj b9 c' d4 d5 rfl he (hmem6d.fk.trans b5) (hmem6d.nk b5) ((J4 _).trans b2) rfl hb6d) ?_;rintro u w7 ⟨O7,lv,pos,bad,e,a5,b7,b1,a7⟩;have a6:=hUt6d.trans (a5.mono (S':=fun k=>k=j\/k=jr\/k=ji\/k=jk\/k=jm) (fun _ h=>by rcases h with h|h;exact .inl h;exact .inr (.inr (.inr (.inl h)))) c5);refine zh ?_
     cases hq:df ((aY a0).dropWhile ak)with
     |ok l=>
      rw[hq]at a7;obtain⟨b6,a8⟩:=a7;obtain⟨⟨xs,a1,a2,a3,a4⟩,mb,mc,md,me,mf,mg⟩:=hmem6d;exact aH rfl ⟨O7,_,a6,b7,b1,rfl,b6,⟨⟨xs,a1.upd a5 b8 (fun h=>by rcases h with h|h;exact d1 h.symm;exact h5 h),a2,a3,fun i hi=>(a4 i hi).upd a5⟩,mb.upd a5 b' (fun h=>by rcases h with h|h;exact d0 h.symm;exact h4 h),a8,md,rfl,mf,(fun h=>by cases h)⟩,hmac6d.upd a5 b4 (fun h=>by rcases h with h|h;exact c7 h.symm;exact e8 h.symm)⟩
     |bad p e'=>
      rw[hq]at a7;obtain⟨b6,b3,b0⟩:=a7;have d8:=mP hq;exact aH rfl ⟨O7,_,a6,b7,b1,rfl,b3,b6,by dsimp only;rw[b0];omega⟩
   |false=>
    have hM:cO kn st a0=oN kn (IH st ((bt a0).length-(aY a0).length) (if st.ts.length=40 then LG 0 3 else iZ kn (aY a0))):=by unfold cO;rw[if_neg h0,if_neg (by rw[d2];decide),if_neg (by rw[e4];decide),if_neg (by rw[g0];decide)]
    refine aN rfl rfl ?_;obtain⟨xs,d7,g5,h',h9⟩:=a9.ru;refine zh ?_
    refine zc call96 (sy B O w6 j jr rb ({s with pos:=(m:Int)-(((aY a0).dropWhile ak).length:Int),to:=(m:Int),bg:=((m:Int)-((au (bt a0)).length:Int))}:LS) m (aY a0) xs f6 hj b8 d1 d4 d5 rfl g7 he b4 c7 g4 a' b2 d7 h' e9) ?_;rintro v w7 ⟨O7,rv,a5,b7,a7⟩;have a6:=c6.trans (a5.mono (S':=fun k=>k=j\/k=jr\/k=ji\/k=jk\/k=jm) (fun _ h=>by rcases h with h|h;exact .inl h;exact .inr (.inl h)) c5);refine zh ?_
    rw[hM,g5]
    cases hq:(if xs.length=40 then LG 0 3 else iZ kn (aY a0))with
    |ok t=>
     rw[hq]at a7;obtain⟨x,a8,g3,b1⟩:=a7;have j6:xs.length≠40:=fun e=>by rw[if_pos e]at hq;cases hq
     obtain⟨_,mb,mc,md,me,mf,mg⟩:=a9;obtain⟨q1,q2,q3,q4⟩:=Mh (ts:=st.ts) a8 g5 zo (fun i hi=>(h9 i hi).upd a5) g3;exact aH rfl ⟨O7,_,a6,b7,b1,rfl,he,⟨⟨xs++[x],q1,q2,q3,q4⟩,mb.upd a5 b' (fun h=>by rcases h with h|h;exact d0 h.symm;exact h6 h.symm),mc.upd a5 b9 (fun h=>by rcases h with h|h;exact c' h.symm;exact h5 h.symm),md,me,mf,mg⟩,a'.upd a5 b4 (fun h=>by rcases h with h|h;exact c7 h.symm;exact g4 h.symm)⟩
    |bad p e=>
     rw[hq]at a7;obtain⟨b3,b1⟩:=a7;exact aH rfl ⟨O7,_,a6,b7,b1,rfl,b3,rfl,by dsimp only;rw[d3];omega⟩
 |some k=>
  have hi:rU a0 35=(k:Nat):=by unfold rU;rw[hf]
  obtain⟨i3,j8⟩:=yO hf;rw[hi];have j7:m=fr+k:=by rw[i1,i3];simp;omega
  refine zh ?_;refine zTH rfl ((decide_eq_true zo)) ?_
  refine aj (j:=2) g9 rfl (Ju _) rfl rfl rfl rfl ?_;rw[show(fr:Int)+((k:Nat):Int)=(m:Int)from by omega];have j3:=g9.s_to (m:Int);have h7:Jr (fun k=>k=j) O w2 O (w2.setCell ⟨rb,2,none⟩ (nI (m:Int))):=Jp h8 g9.tag rfl;have e0:=f8.upd h7 b8 b' b9 (fun e=>d1 e.symm) (fun e=>d0 e.symm) (fun e=>c' e.symm);have e3:=f9.upd h7 b4 (fun e=>c7 e.symm);have i7:=i9.upd h7;have g2:=(e7.trans h7).mono (S':=fun k=>k=j\/k=jr\/k=ji\/k=jk\/k=jm) (fun _ h=>.inl h) c5;generalize w2.setCell ⟨rb,2,none⟩ (nI (m:Int))=w3 at *;refine zh ?_
  refine zc Lr (dI O w3 j rb ({s with pos:=(fr:Int),to:=(m:Int)}:LS) m (bt a0) hj d4 d5 rfl d6 f7 j3) ?_;rintro v w4 ⟨rfl,e5,f5⟩;have c8:=e0.upd f5 b8 b' b9 (fun e=>d1 e.symm) (fun e=>d0 e.symm) (fun e=>c' e.symm);have c9:=e3.upd f5 b4 (fun e=>c7 e.symm);have g':=i7.upd f5;have e6:=g2.trans (f5.mono (fun _ h=>.inl h) c5);refine zh ?_
  by_cases h0:(aY a0).length=0
  ·have hM:cO kn st a0=.go kn st:=by unfold cO;rw[if_pos h0]
   rw[hM];refine zTH rfl ((by have d3:(au (bt a0)).length=0:=h0;simp[d3])) ?_;exact cz rfl ⟨O,_,e6,g',e5,rfl,he,c8.with rfl rfl rfl rfl rfl,c9⟩
  have d3:(au (bt a0)).length=(aY a0).length:=rfl;refine zFH rfl ((by rw[d3,decide_eq_true zo];rfl)) ?_;refine zvH (RV.ld e5.q1 rfl) ?_;refine aj (j:=3) e5 rfl (Ju _) rfl rfl rfl rfl ?_;have i4:=e5.s_bg ((m:Int)-((au (bt a0)).length:Int));have f4:Jr (fun k=>k=j) O w4 O (w4.setCell ⟨rb,3,none⟩ (nI ((m:Int)-((au (bt a0)).length:Int)))):=Jp (fun e=>hj e.symm) e5.tag rfl;have d':=c8.upd f4 b8 b' b9 (fun e=>d1 e.symm) (fun e=>d0 e.symm) (fun e=>c' e.symm);have e2:=c9.upd f4 b4 (fun e=>c7 e.symm);have i6:=g'.upd f4;have g1:=e6.trans (f4.mono (fun _ h=>.inl h) c5);generalize w4.setCell ⟨rb,3,none⟩ (nI ((m:Int)-((au (bt a0)).length:Int)))=w5 at *;refine zh ?_;refine zc LX (gM O w5 j rb ({s with pos:=((m:Int)-((au (bt a0)).length:Int)),to:=(m:Int),bg:=((m:Int)-((au (bt a0)).length:Int))}:LS) m (aY a0) hj d4 d5 rfl b2 rfl i4) ?_;rintro v w6 ⟨rfl,e9,f3⟩;have a9:=d'.upd f3 b8 b' b9 (fun e=>d1 e.symm) (fun e=>d0 e.symm) (fun e=>c' e.symm);have a':=e2.upd f3 b4 (fun e=>c7 e.symm);have f6:=i6.upd f3;have c6:=g1.trans (f3.mono (fun _ h=>.inl h) c5);have j2:=(J4 (l:=aY a0) ak).length_le;refine zh ?_;refine zvH (cR rfl rfl) ?_
  cases d2:((aY a0).takeWhile ak==[108,101,116])with
  |true=>
   have hM:cO kn st a0=G5 kn st (bt a0).length (sW kn ((aY a0).dropWhile ak)):=by unfold cO;rw[if_neg h0,if_pos d2]
   rw[hM];refine zTH rfl rfl ?_;refine zc call94 (AF B O w6 j jm rb ({s with pos:=(m:Int)-(((aY a0).dropWhile ak).length:Int),to:=(m:Int),bg:=((m:Int)-((au (bt a0)).length:Int))}:LS) m ((aY a0).dropWhile ak) f6 hj b4 c7 d4 d5 rfl he ((J4 _).trans b2) rfl g6 a' e9) ?_;rintro u w7 ⟨O7,v7,pos,bad,e,a5,b7,b1,a7⟩;have a6:=c6.trans (a5.mono (S':=fun k=>k=j\/k=jr\/k=ji\/k=jk\/k=jm) (fun _ h=>by rcases h with h|h;exact .inl h;exact .inr (.inr (.inr (.inr h)))) c5);have d9:=a9.upd a5 b8 b' b9 (fun h=>by rcases h with h|h;exact d1 h.symm;exact g4 h) (fun h=>by rcases h with h|h;exact d0 h.symm;exact h3 h) (fun h=>by rcases h with h|h;exact c' h.symm;exact e8 h);refine zh ?_
   cases hq:sW kn ((aY a0).dropWhile ak)with
   |ok x=>
    rw[hq]at a7;obtain⟨b6,e1⟩:=a7;exact aH rfl ⟨O7,_,a6,b7,b1,rfl,b6,d9.with rfl rfl rfl rfl rfl,e1⟩
   |bad p e'=>
    rw[hq]at a7;obtain⟨b6,b3,b0⟩:=a7;have d8:=AH hq;exact aH rfl ⟨O7,_,a6,b7,b1,rfl,b3,b6,by dsimp only;rw[b0];omega⟩
  |false=>
  refine zFH rfl rfl ?_;refine zvH (cR rfl rfl) ?_
  cases e4:((aY a0).takeWhile ak==[105,103,110,111,114,101])with
  |true=>
   refine aR rfl rfl ?_;have hb6d:=e9.drew;have hmem6d:=a9.upd (aa (S:=fun _=>False) (fun h=>h) O (ka w6).drew) b8 b' b9 (fun h=>h) (fun h=>h) (fun h=>h);have hmac6d:=a'.upd (aa (S:=fun _=>False) (fun h=>h) O (ka w6).drew) b4 (fun h=>h);have hR6d:=f6.drew;have hUt6d:=c6.drew;refine JY 8 rfl rfl zk zk ?_
   refine zh ?_;refine Kw ?_
   cases b5:st.hi with
   |true=>
    have hM:cO kn st a0=.bad ((bt a0).length-(aY a0).length) 11:=by unfold cO;rw[if_neg h0,if_neg (by rw[d2];decide),if_pos e4,if_pos b5]
    rw[hM];refine zc KZ (pI O w6.drew j rb ({s with pos:=(m:Int)-(((aY a0).dropWhile ak).length:Int),to:=(m:Int),bg:=((m:Int)-((au (bt a0)).length:Int))}:LS) hj he (hmem6d.fi.trans b5) hb6d) ?_;rintro u w7 ⟨b1,a5⟩;refine zh ?_;exact aH rfl ⟨O,_,hUt6d.trans (a5.mono (fun _ h=>.inl h) c5),hR6d.upd a5,b1,rfl,zd,rfl,by dsimp only;rw[d3];omega⟩
   |false=>
    have hM:cO kn st a0=oN kn (IJ st (bt a0).length (df ((aY a0).dropWhile ak))):=by unfold cO;rw[if_neg h0,if_neg (by rw[d2];decide),if_pos e4,if_neg (by rw[b5];decide)]
    rw[hM];refine zc KZ (sU B O w6.drew j ji rb ({s with pos:=(m:Int)-(((aY a0).dropWhile ak).length:Int),to:=(m:Int),bg:=((m:Int)-((au (bt a0)).length:Int))}:LS) m ((aY a0).dropWhile ak) hR6d hj b' d0 d4 d5 rfl he (hmem6d.fi.trans b5) (hmem6d.ni b5) ((J4 _).trans b2) rfl hb6d) ?_;rintro u w7 ⟨O7,lv,pos,bad,e,a5,b7,b1,a7⟩;have a6:=hUt6d.trans (a5.mono (S':=fun k=>k=j\/k=jr\/k=ji\/k=jk\/k=jm) (fun _ h=>by rcases h with h|h;exact .inl h;exact .inr (.inr (.inl h))) c5);refine zh ?_
    cases hq:df ((aY a0).dropWhile ak)with
    |ok l=>
     rw[hq]at a7;obtain⟨b6,a8⟩:=a7;obtain⟨⟨xs,a1,a2,a3,a4⟩,mb,mc,md,me,mf,mg⟩:=hmem6d;exact aH rfl ⟨O7,_,a6,b7,b1,rfl,b6,⟨⟨xs,a1.upd a5 b8 (fun h=>by rcases h with h|h;exact d1 h.symm;exact h6 h),a2,a3,fun i hi=>(a4 i hi).upd a5⟩,a8,mc.upd a5 b9 (fun h=>by rcases h with h|h;exact c' h.symm;exact h4 h.symm),rfl,me,(fun h=>by cases h),mg⟩,hmac6d.upd a5 b4 (fun h=>by rcases h with h|h;exact c7 h.symm;exact h3 h.symm)⟩
    |bad p e'=>
     rw[hq]at a7;obtain⟨b6,b3,b0⟩:=a7;have d8:=mP hq;exact aH rfl ⟨O7,_,a6,b7,b1,rfl,b3,b6,by dsimp only;rw[b0];omega⟩
  |false=>
   refine zFH rfl rfl ?_;refine zvH (cR rfl rfl) ?_
   cases g0:((aY a0).takeWhile ak==[107,101,101,112])with
   |true=>
    refine aR rfl rfl ?_;have hb6d:=e9.drew;have hmem6d:=a9.upd (aa (S:=fun _=>False) (fun h=>h) O (ka w6).drew) b8 b' b9 (fun h=>h) (fun h=>h) (fun h=>h);have hmac6d:=a'.upd (aa (S:=fun _=>False) (fun h=>h) O (ka w6).drew) b4 (fun h=>h);have hR6d:=f6.drew;have hUt6d:=c6.drew;refine JY 8 rfl rfl zk zk ?_
    refine zh ?_;refine Kw ?_
    cases b5:st.hk with
    |true=>
     have hM:cO kn st a0=.bad ((bt a0).length-(aY a0).length) 11:=by unfold cO;rw[if_neg h0,if_neg (by rw[d2];decide),if_neg (by rw[e4];decide),if_pos g0,if_pos b5]
     rw[hM];refine zc KZ (pH O w6.drew j rb ({s with pos:=(m:Int)-(((aY a0).dropWhile ak).length:Int),to:=(m:Int),bg:=((m:Int)-((au (bt a0)).length:Int))}:LS) hj he (hmem6d.fk.trans b5) hb6d) ?_;rintro u w7 ⟨b1,a5⟩;refine zh ?_;exact aH rfl ⟨O,_,hUt6d.trans (a5.mono (fun _ h=>.inl h) c5),hR6d.upd a5,b1,rfl,zd,rfl,by dsimp only;rw[d3];omega⟩
    |false=>
     have hM:cO kn st a0=oN kn (II st (bt a0).length (df ((aY a0).dropWhile ak))):=by unfold cO;rw[if_neg h0,if_neg (by rw[d2];decide),if_neg (by rw[e4];decide),if_pos g0,if_neg (by rw[b5];decide)]
     rw[hM];refine zc KZ (sT B O w6.drew j jk rb ({s with pos:=(m:Int)-(((aY a0).dropWhile ak).length:Int),to:=(m:Int),bg:=((m:Int)-((au (bt a0)).length:Int))}:LS) m ((aY a0).dropWhile ak) hR6d hj b9 c' d4 d5 rfl he (hmem6d.fk.trans b5) (hmem6d.nk b5) ((J4 _).trans b2) rfl hb6d) ?_;rintro u w7 ⟨O7,lv,pos,bad,e,a5,b7,b1,a7⟩;have a6:=hUt6d.trans (a5.mono (S':=fun k=>k=j\/k=jr\/k=ji\/k=jk\/k=jm) (fun _ h=>by rcases h with h|h;exact .inl h;exact .inr (.inr (.inr (.inl h)))) c5);refine zh ?_
     cases hq:df ((aY a0).dropWhile ak)with
     |ok l=>
      rw[hq]at a7;obtain⟨b6,a8⟩:=a7;obtain⟨⟨xs,a1,a2,a3,a4⟩,mb,mc,md,me,mf,mg⟩:=hmem6d;exact aH rfl ⟨O7,_,a6,b7,b1,rfl,b6,⟨⟨xs,a1.upd a5 b8 (fun h=>by rcases h with h|h;exact d1 h.symm;exact h5 h),a2,a3,fun i hi=>(a4 i hi).upd a5⟩,mb.upd a5 b' (fun h=>by rcases h with h|h;exact d0 h.symm;exact h4 h),a8,md,rfl,mf,(fun h=>by cases h)⟩,hmac6d.upd a5 b4 (fun h=>by rcases h with h|h;exact c7 h.symm;exact e8 h.symm)⟩
     |bad p e'=>
      rw[hq]at a7;obtain⟨b6,b3,b0⟩:=a7;have d8:=mP hq;exact aH rfl ⟨O7,_,a6,b7,b1,rfl,b3,b6,by dsimp only;rw[b0];omega⟩
   |false=>
    have hM:cO kn st a0=oN kn (IH st ((bt a0).length-(aY a0).length) (if st.ts.length=40 then LG 0 3 else iZ kn (aY a0))):=by unfold cO;rw[if_neg h0,if_neg (by rw[d2];decide),if_neg (by rw[e4];decide),if_neg (by rw[g0];decide)]
    refine aN rfl rfl ?_;obtain⟨xs,d7,g5,h',h9⟩:=a9.ru;refine zh ?_
    refine zc call96 (sy B O w6 j jr rb ({s with pos:=(m:Int)-(((aY a0).dropWhile ak).length:Int),to:=(m:Int),bg:=((m:Int)-((au (bt a0)).length:Int))}:LS) m (aY a0) xs f6 hj b8 d1 d4 d5 rfl g7 he b4 c7 g4 a' b2 d7 h' e9) ?_;rintro v w7 ⟨O7,rv,a5,b7,a7⟩;have a6:=c6.trans (a5.mono (S':=fun k=>k=j\/k=jr\/k=ji\/k=jk\/k=jm) (fun _ h=>by rcases h with h|h;exact .inl h;exact .inr (.inl h)) c5);refine zh ?_
    rw[hM,g5]
    cases hq:(if xs.length=40 then LG 0 3 else iZ kn (aY a0))with
    |ok t=>
     rw[hq]at a7;obtain⟨x,a8,g3,b1⟩:=a7;have j6:xs.length≠40:=fun e=>by rw[if_pos e]at hq;cases hq
     obtain⟨_,mb,mc,md,me,mf,mg⟩:=a9;obtain⟨q1,q2,q3,q4⟩:=Mh (ts:=st.ts) a8 g5 zo (fun i hi=>(h9 i hi).upd a5) g3;exact aH rfl ⟨O7,_,a6,b7,b1,rfl,he,⟨⟨xs++[x],q1,q2,q3,q4⟩,mb.upd a5 b' (fun h=>by rcases h with h|h;exact d0 h.symm;exact h6 h.symm),mc.upd a5 b9 (fun h=>by rcases h with h|h;exact c' h.symm;exact h5 h.symm),md,me,mf,mg⟩,a'.upd a5 b4 (fun h=>by rcases h with h|h;exact c7 h.symm;exact g4 h.symm)⟩
    |bad p e=>
     rw[hq]at a7;obtain⟨b3,b1⟩:=a7;exact aH rfl ⟨O7,_,a6,b7,b1,rfl,b3,rfl,by dsimp only;rw[d3];omega⟩
end
inductive TK where
 |ok (st:St)
 |bad (p:Nat) (e:Int)
def pJ:Nat->Kn->St->Nat->List UInt8->TK
 |0,_,_,_,_=>.bad 0 3
 |n+1,kn,st,fr,r=>
  match cO kn st (dZ r)with
  |.bad p e=>.bad (fr+p) e
  |.go kn' st'=>if(dZ r).length=r.length then .ok st' else pJ n kn' st' (fr+(dZ r).length+1) (r.drop ((dZ r).length+1))
def st0:St:=⟨[],[],[],false,false⟩
def jg(l:List UInt8):TK:=if 4096<l.length then .bad 0 3 else pJ (l.length+1) [] st0 0 l
theorem Ad{kn a0:Kn}{st a1:St}{a2:List UInt8}(h:cO kn st a2=.go a0 a1):a0.length<=kn.length+1:=by
 have hl:∀ {R:RS},oN kn R=.go a0 a1->a0.length<=kn.length+1:=fun {R} h=>by
  cases R with
  |go s=>cases h;omega
  |bad p e=>cases h
  |other=>cases h
 unfold cO at h
 split at h
 ·cases h;omega
 split at h
 ·unfold G5 at h
  split at h
  ·cases h;simp
  cases h
 split at h
 ·split at h
  ·cases h
  exact hl h
 split at h
 ·split at h
  ·cases h
  exact hl h
 exact hl h
def LoopK(l:List UInt8)(M:TK)(O:Nat->Nat)(w:ln)(jr ji jk jm:Nat)(n fr:Nat)(kn:Kn)(st:St)(s:LS):Prop:=
 (fr<=l.length/\s.e=0/\l.length-fr<n/\pJ n kn st fr (l.drop fr)=M/\Mem O w jr ji jk s st/\Mac O w jm s.mc kn/\kn.length<=fr)\/(fr=l.length+1/\s.e=0/\M=.ok st/\Mem O w jr ji jk s st)\/
 (∃p e,e≠0/\s.e=e/\s.bad=((p:Nat):Int)/\M=.bad p e)
theorem LoopK.next{l:List UInt8}{M:TK}{B j jr ji jk jm rb n fr:Nat}{O:Nat->Nat}{w w':ln}{kn:Kn}{st:St}{s:LS}(a3:fr<=l.length)(hn:l.length-fr<n+1)(hM:pJ (n+1) kn st fr (l.drop fr)=M)(a2:kn.length<=fr) 
  (hP:GU B O w w' j jr ji jk jm rb s fr (cO kn st (dZ (l.drop fr)))) :
  ∃O' s' n' kn' st',Jr (fun k=>k=j\/k=jr\/k=ji\/k=jk\/k=jm) O w O' w'/\KX B O' w'/\Ls O' w' j rb s'/\s'.l=s.l/\n'<n+1/\LoopK l M O' w' jr ji jk jm n' (fr+(dZ (l.drop fr)).length+1) kn' st' s':=by
 obtain⟨O',s',hU,hR,hb,e1,hq⟩:=hP;have a0:(dZ (l.drop fr)).length<=l.length-fr:=by
  have:=(JZ (l:=l.drop fr) (fun b=>!(b==10))).length_le;simpa[dZ]using this
 have a4:(l.drop fr).length=l.length-fr:=by simp
 unfold pJ at hM;refine⟨O',s',?_⟩
 cases hr:cO kn st (dZ (l.drop fr))with
 |bad p e=>
  rw[hr]at hq hM;obtain⟨q1,q2,q3⟩:=hq;exact⟨0,kn,st,hU,hR,hb,e1,zo,.inr (.inr ⟨fr+p,e,q1,q2,by rw[q3];simp,hM.symm⟩)⟩
 |go kn' st'=>
  have a1:=Ad hr;rw[hr]at hq hM;dsimp only at hM;obtain⟨q1,q2,q3⟩:=hq
  split at hM
  ·rename_i he;exact⟨0,kn',st',hU,hR,hb,e1,zo,.inr (.inl ⟨zo,q1,hM.symm,q2⟩)⟩
  rename_i he;exact⟨n,kn',st',hU,hR,hb,e1,zo,.inl ⟨zo,q1,zo,by rw[<-hM,List.drop_drop,Nat.add_assoc],q2,q3,zo⟩⟩
def GS(w:ln)(v:ix):TK->Prop
 |.ok st=>∃tv,v=.tuple #[tv,nI 0,nI 0]/\Tx w tv st.li st.lk st.ts
 |.bad p e=>v=.tuple #[xQ rS rS rS,nI (p:Int),nI e]/\e≠0
theorem Mem.tx{O:Nat->Nat}{w:ln}{jr ji jk:Nat}{s:LS}{st:St}(h:Mem O w jr ji jk s st):Tx w (xQ s.ig s.kp s.ru) st.li st.lk st.ts:=by
 obtain⟨xs,a1,a2,a3,a4⟩:=h.ru;exact⟨s.ig,s.kp,s.ru,xs,rfl,h.ig.sl,h.kp.sl,a1.sl,a2,fun i hi=>(a4 i hi).weak fun _ _=>rfl⟩
theorem uC(l:List UInt8)(B:Nat)(O:Nat->Nat)(w:ln)(hR:KX B O w)(g0:l.length<=1000000000):Kx Jt 27 [.string (bs l)] w fun v w'=>JM w w'/\GS w' v (jg l):=by
 obtain⟨T,g3,hT⟩:=hR.bound;have a6:¬(fun q:Nat=>T<=q) 0:=fun e=>by omega
 have c6:∀b,¬T<=O b:=fun b=>by have:=hT b;omega
 refine J1 func27 ntmps27 rfl rfl ?_;refine zg ?_
 refine aw hR T zo (JQ _) rfl ?_;intro xb w1 O1 b8 f6 f8 g5;have b6:Jr (fun q=>T<=q) O w O1 w1:=f6.mono (fun _ h=>JH h.symm) a6;refine zg ?_
 refine zvG (cf JL rfl) ?_
 by_cases hl:4096<l.length
 ·have hM:jg l=.bad 0 3:=by unfold jg;rw[if_pos hl]
  rw[hM];refine zTG rfl ((decide_eq_true zo)) ?_;refine zv (aF G0 (JQ _) rfl (by first|rfl|(simp only[Jm,Jy];rfl)) rfl rfl) ?_;refine zsa (us:=(#[nS,nS,nS]:Array ix)) b8 (JB _) ?_;have a7:=b8.setRow (us:=(#[nS,nS,nS]:Array ix));have a4:Jr (fun k=>k=T) O1 w1 O1 (w1.setRow xb (#[nS,nS,nS]:Array ix)):=J6 zo b8.tag rfl;refine zg ?_;refine cg rfl rfl rfl rfl a7.cellsAdd (KG _) (JB _) ⟨aD (b6.trans (a4.mono (fun _ h=>JH h.symm) a6)) c6,rfl,by decide⟩
 have f9:jg l=pJ (l.length+1) [] st0 0 l:=by unfold jg;rw[if_neg hl]
 refine zFG rfl ((decide_eq_false zo)) ?_;refine zv (aF Iq (zeroValue125 _) rfl (by first|rfl|(simp only[Jm,Jy];rfl)) rfl rfl) ?_
 refine zv (JS (vs:=[(0,.agg #[.string (bs l),nI 0,nI 0,nI 0,nI 0,nI 0])]) (cells:=(⟨l,0,0,0,0,0,nS,nS,nS,nS,false,false⟩:LS).cells) Ip (zeroValue128 _) rfl zk) ?_;refine aE f8 (T+1) zo rfl rfl ?_
 intro rb w2 O2 d2 e5 f7 g4;have f5:Ls O2 w2 (T+1) rb ⟨l,0,0,0,0,0,nS,nS,nS,nS,false,false⟩:=d2;have e7:=b8.upd e5 zo zo;have d6:=b6.trans (e5.mono (fun _ h=>by rw[h];omega) a6);refine zg ?_;refine zlp (fun y:Nat×Nat×Kn×St×(Nat->Nat)×World×LS=>[(0,.string (bs l)),(2,nP xb),(5,nP rb),(6,nI (y.2.1:Nat))]) (fun y=>y.2.2.2.2.2.1) (fun y=>JX y.2.2.2.2.1 y.2.2.2.2.2.1 T xb (#[nS,nS,nS]:Array ix) 41/\Ls y.2.2.2.2.1 y.2.2.2.2.2.1 (T+1) rb y.2.2.2.2.2.2/\y.2.2.2.2.2.2.l=l/\Jr (fun q=>T<=q) O w y.2.2.2.2.1 y.2.2.2.2.2.1/\KX B y.2.2.2.2.1 y.2.2.2.2.2.1/\y.2.1<=10000000/\LoopK l (jg l) y.2.2.2.2.1 y.2.2.2.2.2.1 (T+2) (T+3) (T+4) (T+5) y.1 y.2.1 y.2.2.1 y.2.2.2.1 y.2.2.2.2.2.2) (fun y=>y.1) (l.length+1,0,[],st0,O2,w2,⟨l,0,0,0,0,0,nS,nS,nS,nS,false,false⟩) (⟨e7,f5,rfl,d6,f7,by dsimp only;omega,.inl ⟨by dsimp only;omega,rfl,by dsimp only;omega,by rw[f9];rfl,⟨⟨[],JJ _ _ _ _ _ _,rfl,by simp,fun i hi=>absurd hi (by simp)⟩,JJ _ _ _ _ _ _,JJ _ _ _ _ _ _,rfl,rfl,fun _=>rfl,fun _=>rfl⟩,Mac.nil _ _ _,Jq _⟩⟩) ?_;rintro⟨n,fr,kn,st,O1,w3,s⟩ ⟨a2,a3,a5,a1,d8,f4,e6⟩;dsimp only at a2 a3 a5 a1 d8 f4 e6 ⊢
 rcases e6 with⟨c5,he,e1,b1,a0,b4,e3⟩|⟨c5,he,b1,a0⟩|⟨p,e,b9,d0,a',b1⟩
 ·obtain⟨n,rfl⟩:∃m,n=m+1:=⟨n-1,by omega⟩
  have g2:(dZ (l.drop fr)).length<=l.length-fr:=by
   have:=(JZ (l:=l.drop fr) (fun b=>!(b==10))).length_le;simpa[dZ]using this
  have q5:=a3.q5;rw[he]at q5;refine zg ?_;refine zvG (cf JL rfl) ?_;refine az (d:=21) rfl (b':=true) ((decide_eq_true zo)) ?_;refine zg ?_;refine zvG (RV.ld q5 rfl) ?_;refine zTG rfl rfl ?_;refine zvG (cf JL rfl) ?_;refine zv (jM JL rfl rfl fr rfl c5) ?_;refine zc call51 (dt (l.drop fr) 10 w3) ?_;rintro v w9 ⟨rfl,e0⟩;rw[e0];clear e0 w9
  cases hf:(l.drop fr).findIdx? (· == 10)with
  |none=>
   have hi:rU (l.drop fr) 10 = -1:=by unfold rU;rw[hf]
   have e2:=congrArg Mi (ym hf);rw[List.length_drop]at e2;rw[hi,show((l.length:Nat):Int)=((fr+(dZ (l.drop fr)).length:Nat):Int)from by omega];refine zg ?_;refine zFG rfl rfl ?_;refine zc call52 (sG B O1 w3 (T+1) (T+2) (T+3) (T+4) (T+5) rb s fr (fr+(dZ (l.drop fr)).length) (dZ (l.drop fr)) st d8 zo zo zo zo zo zo zo zo zo zo zo zo zo zo zo zo zo (by rw[a5];omega) (by rw[a5];omega) he (by rw[a5];exact sV l fr) a0 b4 a3) ?_;rintro v w4 d9;obtain⟨O4,s4,n4,c8,c7,b7,d7,d1,g1,a9,d'⟩:=LoopK.next c5 e1 b1 e3 d9;have c9:=J2 a2 b7 zo zo;have b0:=a1.trans (b7.mono (fun _ h=>by rcases h with h|h|h|h|h<;>rw[h]<;>omega) a6);refine zg ?_;refine zvG (KH rfl rfl (Kk zo)) ?_;refine zx (n4,fr+(dZ (l.drop fr)).length+1,c8,c7,O4,w4,s4) (⟨c9,d1,g1.trans a5,b0,d7,by dsimp only;omega,d'⟩) (a9)
  |some k=>
   have hi:rU (l.drop fr) 10=(k:Nat):=by unfold rU;rw[hf]
   have e2:=yk hf;rw[hi];refine zg ?_;refine zTG rfl ((decide_eq_true zo)) ?_;refine zvG (KH rfl rfl (Kk zo)) ?_;rw[show(fr:Int)+((k:Nat):Int)=((fr+(dZ (l.drop fr)).length:Nat):Int)from by omega];refine zc call52 (sG B O1 w3 (T+1) (T+2) (T+3) (T+4) (T+5) rb s fr (fr+(dZ (l.drop fr)).length) (dZ (l.drop fr)) st d8 zo zo zo zo zo zo zo zo zo zo zo zo zo zo zo zo zo (by rw[a5];omega) (by rw[a5];omega) he (by rw[a5];exact sV l fr) a0 b4 a3) ?_;rintro v w4 d9;obtain⟨O4,s4,n4,c8,c7,b7,d7,d1,g1,a9,d'⟩:=LoopK.next c5 e1 b1 e3 d9;have c9:=J2 a2 b7 zo zo;have b0:=a1.trans (b7.mono (fun _ h=>by rcases h with h|h|h|h|h<;>rw[h]<;>omega) a6);refine zg ?_;refine zvG (KH rfl rfl (Kk zo)) ?_;refine zx (n4,fr+(dZ (l.drop fr)).length+1,c8,c7,O4,w4,s4) (⟨c9,d1,g1.trans a5,b0,d7,by dsimp only;omega,d'⟩) (a9)
 ·have q5:=a3.q5;rw[he]at q5;refine zg ?_;refine zvG (cf JL rfl) ?_;refine az (d:=21) rfl (b':=false) ((decide_eq_false zo)) ?_;rw[b1];have q6:=a3.q6;have q7:=a3.q7;have q8:=a3.q8;have f':=a0.tx;have f3:=a0.ig.one;have e':=a0.kp.one;obtain⟨xs,e8,_,_,_⟩:=a0.ru;have e9:=e8.one;refine zg ?_;refine zFG rfl rfl ?_;refine zvG (RV.ld q5 rfl) ?_;refine zFG rfl rfl ?_;refine zv (af (us:=[s.ig,s.kp,s.ru]) (zj q6 q7 q8) (KG _) (JB _) rfl) ?_;refine zsb (us:=#[s.ig,s.kp,s.ru]) a2 (JB _) (by simp only[Jm,f3,e',e9];rfl) ?_;have a7:=a2.setRow (us:=#[s.ig,s.kp,s.ru]);have a4:Jr (fun k=>k=T) O1 w3 O1 (w3.setRow xb #[s.ig,s.kp,s.ru]):=J6 zo a2.tag rfl;have d3:=a1.trans (a4.mono (fun _ h=>JH h.symm) a6);have b3:=a0.upd a4 zo zo zo zo zo zo;refine zg ?_;refine cg rfl rfl rfl rfl a7.cellsAdd (KG _) (JB _) ⟨aD d3 c6,_,rfl,b3.tx⟩
 rw[b1];have q5:=a3.q5;rw[d0]at q5;have q4:=a3.q4;rw[a']at q4;have c':((e==0):Bool)=false:=by simpa using b9
 have b2:((e != 0):Bool)=true:=by simpa using b9
 cases e4:decide ((fr:Int)<=(l.length:Int))with
 |false=>
  refine zg ?_;refine zvG (cf JL rfl) ?_
  refine az (d:=21) rfl (b':=false) (e4) ?_;refine zg ?_
  refine zFG rfl rfl ?_;refine zvG (RV.ld q5 rfl) ?_
  refine aR rfl (b2) ?_;have d4:w3.drew.cell? ⟨rb,4,none⟩=some (nI (p:Nat)):=q4;have d5:w3.drew.cell? ⟨rb,5,none⟩=some (nI e):=q5;refine zg ?_
  refine aG (fun W=>W.cell? ⟨rb,4,none⟩=some (nI (p:Nat))/\W.cell? ⟨rb,5,none⟩=some (nI e)) 14 rfl zk ?_;refine zin ⟨d4,d5⟩ fun zS=>?_
  refine zr 0 rfl zS (fun _=>aF G0 (JQ _) rfl (by first|rfl|(simp only[Jm,Jy];rfl)) rfl rfl) ?_;refine zrm 1 rfl zS rfl ?_
  refine zr 2 rfl zS (fun _=>ao rfl) ?_;refine zrf 3 rfl zS rfl ?_
  refine zrf 4 rfl zS rfl ?_;refine zt 5 rfl zS (fun w1 a8=>RV.ld a8.1 rfl) ?_
  refine zrm 6 rfl zS rfl ?_;refine zr 7 rfl zS (fun _=>ao rfl) ?_
  refine zrf 8 rfl zS rfl ?_;refine zrf 9 rfl zS rfl ?_
  refine zt 10 rfl zS (fun w1 a8=>RV.ld a8.2 rfl) ?_;refine J0 11 zk rfl ?_
  refine zsa (us:=#[nS,nS,nS]) a2.drew (JB _) ?_;have a7:=KQ (us:=#[nS,nS,nS]) a2.drew;have a4:Jr (fun k=>k=T) O1 w3.drew O1 (w3.drew.setRow xb #[nS,nS,nS]):=J6 zo a2.tag rfl;have b5:=(Kv a3).upd a4 zo zo;have z5:=b5.q5;rw[d0]at z5;have z4:=b5.q4;rw[a']at z4;refine zg ?_
  refine zaf (⟨z4,z5⟩) fun zS=>?_
  refine zra 12 rfl zS rfl ?_;refine zra 13 rfl zS rfl ?_
  refine Ji zk ?_;refine zg ?_
  refine cg rfl rfl rfl rfl a7.cellsAdd (KG _) (JB _) ⟨aD ((a1.drew).trans (a4.mono (fun _ h=>JH h.symm) a6)) c6,rfl,b9⟩
 |true=>
  refine zg ?_;refine zvG (cf JL rfl) ?_
  refine az (d:=21) rfl (b':=true) (e4) ?_;refine zg ?_
  refine zvG (RV.ld q5 rfl) ?_;refine zFG rfl (c') ?_
  refine zvG (RV.ld q5 rfl) ?_;refine aR rfl (b2) ?_
  have d4:w3.drew.cell? ⟨rb,4,none⟩=some (nI (p:Nat)):=q4;have d5:w3.drew.cell? ⟨rb,5,none⟩=some (nI e):=q5;refine zg ?_;refine aG (fun W=>W.cell? ⟨rb,4,none⟩=some (nI (p:Nat))/\W.cell? ⟨rb,5,none⟩=some (nI e)) 14 rfl zk ?_;refine zin ⟨d4,d5⟩ fun zS=>?_
  refine zr 0 rfl zS (fun _=>aF G0 (JQ _) rfl (by first|rfl|(simp only[Jm,Jy];rfl)) rfl rfl) ?_;refine zrm 1 rfl zS rfl ?_
  refine zr 2 rfl zS (fun _=>ao rfl) ?_;refine zrf 3 rfl zS rfl ?_
  refine zrf 4 rfl zS rfl ?_;refine zt 5 rfl zS (fun w1 a8=>RV.ld a8.1 rfl) ?_
  refine zrm 6 rfl zS rfl ?_;refine zr 7 rfl zS (fun _=>ao rfl) ?_
  refine zrf 8 rfl zS rfl ?_;refine zrf 9 rfl zS rfl ?_
  refine zt 10 rfl zS (fun w1 a8=>RV.ld a8.2 rfl) ?_;refine J0 11 zk rfl ?_
  refine zsa (us:=#[nS,nS,nS]) a2.drew (JB _) ?_;have a7:=KQ (us:=#[nS,nS,nS]) a2.drew;have a4:Jr (fun k=>k=T) O1 w3.drew O1 (w3.drew.setRow xb #[nS,nS,nS]):=J6 zo a2.tag rfl;have b5:=(Kv a3).upd a4 zo zo;have z5:=b5.q5;rw[d0]at z5;have z4:=b5.q4;rw[a']at z4;refine zg ?_
  refine zaf (⟨z4,z5⟩) fun zS=>?_
  refine zra 12 rfl zS rfl ?_;refine zra 13 rfl zS rfl ?_
  refine Ji zk ?_;refine zg ?_
  refine cg rfl rfl rfl rfl a7.cellsAdd (KG _) (JB _) ⟨aD ((a1.drew).trans (a4.mono (fun _ h=>JH h.symm) a6)) c6,rfl,b9⟩
theorem lh:∀(n:Nat),n<=1000000->∀(t:Nd),nsz t<=n->∀(B:Nat) (O:Nat->Nat) (x:N3) (w:ln),KX B O w->Nt (fun _=>0) w t x->Kx Jt 21 [nv x] w fun v w'=>∃y,v=nv y/\Nt O w' t y/\JM w w'
 |0,_,t,hn=>by have:=dJ t;omega
 |n+1,b9,.mk k c kids,hn=>by
  intro B O x w hR h;obtain⟨T,j3,hT⟩:=hR.bound;have b3:∀b,¬T<=O b:=fun b=>by have:=hT b;omega
  obtain⟨xs,hs,hf,hl,hk⟩:=h.kids;simp only[Nd.kids]at hl hk;obtain⟨x0,x1,sv⟩:=x;obtain rfl:k=x0:=(congrArg Prod.fst h.ones).symm;obtain rfl:c=x1:=(congrArg (fun q:N3=>q.2.1) h.ones).symm;dsimp only at hs hf;have j2:=eV kids;simp only[nsz]at hn;have a':¬(fun q:Nat=>T<=q) 0:=fun e=>zo
  refine J1 func21 ntmps21 rfl rfl ?_;refine zh ?_
  refine aE hR (T+1) zo rfl rfl ?_;intro nb w1 O1 h9 i5 i9 j6;refine aw i9 T zo (KA _) rfl ?_
  intro xb w2 O2 h5 h1 i8 j5;have g4:=h9.upd h1 zo zo;have n0:w2.cell? (nA nb 0)=some (nI k):=g4.cell 0 rfl;have n1:w2.cell? (nA nb 1)=some (nI c):=g4.cell 1 rfl;refine zh ?_;refine zv (aF vT (KA _) rfl (by first|rfl|(simp only[Jm,Jy];rfl)) rfl rfl) ?_;refine aw i8 (T+2) zo (KA _) rfl ?_;intro ob w3 O3 g2 i4 i7 j4;refine zsa (us:=#[nI k,nI c,nS]) g2 (Km _) ?_;have h7:=g2.setRow (us:=#[nI k,nI c,nS]);have h0:Jr (fun q=>q=T+2) O3 w3 O3 (w3.setRow ob #[nI k,nI c,nS]):=J6 zo g2.tag rfl;have d7:=i4.trans h0;have i6:=i7.upd h0;have h8:=g4.upd d7 zo zo;have h4:=h5.upd d7 zo zo;have g5:Jr (fun q=>T<=q) O w O3 _:=((i5.mono (fun _ h=>by rw[h];omega) a').trans (h1.mono (fun _ h=>by rw[h];omega) a')).trans (d7.mono (fun _ h=>by rw[h];omega) a');generalize w3.setRow ob #[nI k,nI c,nS]=w4 at *;refine zh ?_
  refine zlp (fun y:Nat×(Nat->Nat)×World×ix×List N3=>[(1,nP nb),(2,nP xb),(3,nP ob),(4,nI y.1)]) (fun y=>y.2.2.1) (fun y=>y.1<=xs.length/\JX y.2.1 y.2.2.1 (T+1) nb #[nI k,nI c,sv] 52/\JX y.2.1 y.2.2.1 T xb #[nI 0,nI 0,nS] 67/\JX y.2.1 y.2.2.1 (T+2) ob #[nI k,nI c,y.2.2.2.1] 67/\KJ aV 67 3 y.2.1 y.2.2.1 (T+3) y.2.2.2.1 y.2.2.2.2/\y.2.2.2.2.length=y.1/\(∀m,m<y.1->Nt y.2.1 y.2.2.1 (nth kids m) (nth y.2.2.2.2 m))/\Jr (fun q=>T<=q) O w y.2.1 y.2.2.1/\KX B y.2.1 y.2.2.1) (fun y=>xs.length-y.1) (0,O3,w4,nS,[]) (⟨Jq _,h8,h4,h7,JJ _ _ _ _ _ _,rfl,fun m hm=>absurd hm (JK m),g5,i6⟩) ?_;rintro⟨i,O1',d',lv,zs⟩ ⟨hi,d3,b6,d2,b2,d1,g0,b',d9⟩;dsimp only at hi d3 b6 d2 b2 d1 g0 b' d9 ⊢;have g8:=aD b' b3;have j0:=hs.ext g8;have c2:d'.cell? (nA nb 2)=some sv:=d3.cell 2 rfl;refine zh ?_
  refine zC ?_ ?_
  ·intro d4;replace d4:i<xs.length:=dT d4;have g':=hk i d4;have i':=g'.one;have j1:=cu kids i zo;have g3:=d3.drew;have g9:=b6.drew;have g1:=d2.drew;have c6:=b2.drew;have g6:=d9.drew;have e3:∀m,m<i->Nt O1' d'.drew (nth kids m) (nth zs m):=fun m hm=>(g0 m hm).drew
   have d5:=b'.drew;have h2:=aD d5 b3;have d8:=J7 (g3.cell 2 rfl) h2;refine zh ?_;refine aG (fun W=>W.cell? ⟨nb,2,none⟩=some sv/\JM w W) 12 rfl zk ?_;refine zrf 0 rfl d8 rfl ?_;refine zrf 2 rfl d8 rfl ?_;refine zt 3 rfl d8 (fun w1 e6=>RV.ld e6.1 rfl) ?_;refine zrm 4 rfl d8 rfl ?_;refine zt 5 rfl d8 (fun w1 e6=>K9 (by first|exact hs.ext e6.2) underlying50 (Ko _) rfl rfl _ rfl zo) ?_;refine zt 6 rfl d8 (fun w1 e6=>af (us:=aV (nth xs i)) (fun j u hu=>(hs.ext e6.2).cell d4 hu) (Lp _) (Ko _) rfl) ?_;generalize d'.drew=wD at *;have i3:wD.cell? (nA ob 2)=some lv:=g1.cell 2 rfl;have c':=lh n zo (nth kids i) zo B O1' (nth xs i) wD g6 (g'.ext h2);refine bL 1 7 zk rfl rfl ?_ ?_
   ·refine zvH (RV.ld i3 rfl) ?_;refine ae d8 ?_
    refine J0 7 zk rfl ?_;refine zc L7 c' ?_
    rintro v w5 ⟨z,rfl,f6,g7⟩;have b0:Jr (fun _=>False) O1' wD O1' w5:=aa (fun h=>h) O1' g7;have e1:=J2 g3 b0 zo (fun h=>h);have f7:=J2 g9 b0 zo (fun h=>h);have e9:=J2 g1 b0 zo (fun h=>h);have b1:=Mx c6 b0 zo (fun h=>h);have f':=Ly g6 b0;have b8:∀m,m<i->Nt O1' w5 (nth kids m) (nth zs m):=fun m hm=>(e3 m hm).upd b0
    have b4:=L4 d5 (b0.mono (fun _ h=>h.elim) a');have f9:=J7 (e1.cell 2 rfl) (aD b4 b3);refine zh ?_;refine ae f9 ?_;refine J0 8 zk rfl ?_;refine aJ elN (enc:=aV) z rfl rfl rfl zd rfl ?_;intro w6 h6 f5;have a1:Jr (fun _=>False) O1' w5 O1' w6:=aa (fun h=>h) O1' f5;have b9:=e1.upd a1 zo (fun h=>h);have e5:=f7.upd a1 zo (fun h=>h);have e0:=e9.upd a1 zo (fun h=>h);have a5:=b1.upd a1 zo (fun h=>h);have f4:=f'.upd a1;have b5:∀m,m<i->Nt O1' w6 (nth kids m) (nth zs m):=fun m hm=>(b8 m hm).upd a1
    have c5:=f6.upd a1;have a9:=b4.trans (a1.mono (fun _ h=>h.elim) a');have e2:=J7 (b9.cell 2 rfl) (aD a9 b3);refine zh ?_;refine ae e2 ?_;have a6:∀u∈[z],∀c∈aV u,c.oneCell'=true:=fun u hu=>by
     rw[J5.1 hu];exact gY c5.one
    refine J0 9 zk rfl ?_;refine aC elN a5 f4 h6 (by simp) rfl rfl (fun _ _=>rfl) a6 (by simp;omega) (by simp;omega) zo rfl ?_
    intro a3 w7 O7 a0 a4 f3;have e7:=a0.one;have c9:=J2 b9 a4 zo zo;have b7:=J2 e0 a4 zo zo;have e4:=J2 e5 a4 zo zo;have a8:=a9.trans (a4.mono (fun _ h=>by rw[h];omega) a');have d0:=J7 (c9.cell 2 rfl) (aD a8 b3);refine zh ?_;refine ae d0 ?_;refine zrf 10 rfl d0 rfl ?_;refine J0 11 zk rfl ?_;refine aj (j:=2) b7 rfl (Mm _) e7 rfl rfl rfl ?_;have e8:JX O7 (w7.setCell ⟨ob,2,none⟩ a3) (T+2) ob #[nI k,nI c,a3] 67:=b7.set 2 a3;have a2:Jr (fun q=>q=T+2) O7 w7 O7 (w7.setCell ⟨ob,2,none⟩ a3):=Jp zo b7.tag rfl;have c8:=c9.upd a2 zo zo;have a7:=a8.trans (a2.mono (fun _ h=>by rw[h];omega) a');have e':=J7 (c8.cell 2 rfl) (aD a7 b3);refine zh ?_;refine ae e' ?_;refine Ji zk ?_;refine zh ?_;refine zxd (i+1,O7,(w7.setCell ⟨ob,2,none⟩ a3),a3,zs++[z]) (⟨d4,c8,e4.upd a2 zo zo,e8,a0.upd a2 zo zo,by simp[d1],fun m hm=>?_,a7,f3.upd a2⟩);dsimp only at hm ⊢
    by_cases e:m<i
    ·rw[aB (xs:=zs++[z]) (by simp;omega),J9 zo,<-aB zo];exact((b5 m e).upd a4).upd a2
    obtain rfl:m=zs.length:=zo;rw[aB (xs:=zs++[z]) (by simp),J8 zo];simp only[JW,Js];rw[d1];exact(c5.upd a4).upd a2
   refine zc L7 c' ?_;rintro v w5 ⟨z,rfl,f6,g7⟩;have b0:Jr (fun _=>False) O1' wD O1' w5:=aa (fun h=>h) O1' g7;have e1:=J2 g3 b0 zo (fun h=>h);have f7:=J2 g9 b0 zo (fun h=>h);have e9:=J2 g1 b0 zo (fun h=>h);have b1:=Mx c6 b0 zo (fun h=>h);have f':=Ly g6 b0;have b8:∀m,m<i->Nt O1' w5 (nth kids m) (nth zs m):=fun m hm=>(e3 m hm).upd b0
   have b4:=L4 d5 (b0.mono (fun _ h=>h.elim) a');have f9:=J7 (e1.cell 2 rfl) (aD b4 b3);refine zh ?_;refine ae f9 ?_;have i2:w5.cell? (nA ob 2)=some lv:=e9.cell 2 rfl;refine bL 1 8 zk rfl rfl ?_ ?_
   ·refine zvH (RV.ld i2 rfl) ?_;refine ae f9 ?_
    refine J0 8 zk rfl ?_;refine aJ elN (enc:=aV) z rfl rfl rfl zd rfl ?_
    intro w6 h6 f5;have a1:Jr (fun _=>False) O1' w5 O1' w6:=aa (fun h=>h) O1' f5;have b9:=e1.upd a1 zo (fun h=>h);have e5:=f7.upd a1 zo (fun h=>h);have e0:=e9.upd a1 zo (fun h=>h);have a5:=b1.upd a1 zo (fun h=>h);have f4:=f'.upd a1;have b5:∀m,m<i->Nt O1' w6 (nth kids m) (nth zs m):=fun m hm=>(b8 m hm).upd a1
    have c5:=f6.upd a1;have a9:=b4.trans (a1.mono (fun _ h=>h.elim) a');have e2:=J7 (b9.cell 2 rfl) (aD a9 b3);refine zh ?_;refine ae e2 ?_;have a6:∀u∈[z],∀c∈aV u,c.oneCell'=true:=fun u hu=>by
     rw[J5.1 hu];exact gY c5.one
    refine J0 9 zk rfl ?_;refine aC elN a5 f4 h6 (by simp) rfl rfl (fun _ _=>rfl) a6 (by simp;omega) (by simp;omega) zo rfl ?_
    intro a3 w7 O7 a0 a4 f3;have e7:=a0.one;have c9:=J2 b9 a4 zo zo;have b7:=J2 e0 a4 zo zo;have e4:=J2 e5 a4 zo zo;have a8:=a9.trans (a4.mono (fun _ h=>by rw[h];omega) a');have d0:=J7 (c9.cell 2 rfl) (aD a8 b3);refine zh ?_;refine ae d0 ?_;refine zrf 10 rfl d0 rfl ?_;refine J0 11 zk rfl ?_;refine aj (j:=2) b7 rfl (Mm _) e7 rfl rfl rfl ?_;have e8:JX O7 (w7.setCell ⟨ob,2,none⟩ a3) (T+2) ob #[nI k,nI c,a3] 67:=b7.set 2 a3;have a2:Jr (fun q=>q=T+2) O7 w7 O7 (w7.setCell ⟨ob,2,none⟩ a3):=Jp zo b7.tag rfl;have c8:=c9.upd a2 zo zo;have a7:=a8.trans (a2.mono (fun _ h=>by rw[h];omega) a');have e':=J7 (c8.cell 2 rfl) (aD a7 b3);refine zh ?_;refine ae e' ?_;refine Ji zk ?_;refine zh ?_;refine zxd (i+1,O7,(w7.setCell ⟨ob,2,none⟩ a3),a3,zs++[z]) (⟨d4,c8,e4.upd a2 zo zo,e8,a0.upd a2 zo zo,by simp[d1],fun m hm=>?_,a7,f3.upd a2⟩);dsimp only at hm ⊢
    by_cases e:m<i
    ·rw[aB (xs:=zs++[z]) (by simp;omega),J9 zo,<-aB zo];exact((b5 m e).upd a4).upd a2
    obtain rfl:m=zs.length:=zo;rw[aB (xs:=zs++[z]) (by simp),J8 zo];simp only[JW,Js];rw[d1];exact(c5.upd a4).upd a2
   refine aJ elN (enc:=aV) z rfl rfl rfl zd rfl ?_;intro w6 h6 f5;have a1:Jr (fun _=>False) O1' w5 O1' w6:=aa (fun h=>h) O1' f5;have b9:=e1.upd a1 zo (fun h=>h);have e5:=f7.upd a1 zo (fun h=>h);have e0:=e9.upd a1 zo (fun h=>h);have a5:=b1.upd a1 zo (fun h=>h);have f4:=f'.upd a1;have b5:∀m,m<i->Nt O1' w6 (nth kids m) (nth zs m):=fun m hm=>(b8 m hm).upd a1
   have c5:=f6.upd a1;have a9:=b4.trans (a1.mono (fun _ h=>h.elim) a');have e2:=J7 (b9.cell 2 rfl) (aD a9 b3);refine zh ?_;refine ae e2 ?_;have i1:w6.cell? (nA ob 2)=some lv:=e0.cell 2 rfl;refine J0 1 zk rfl ?_;refine zvH (RV.ld i1 rfl) ?_;refine ae e2 ?_;have a6:∀u∈[z],∀c∈aV u,c.oneCell'=true:=fun u hu=>by
    rw[J5.1 hu];exact gY c5.one
   refine J0 9 zk rfl ?_;refine aC elN a5 f4 h6 (by simp) rfl rfl (fun _ _=>rfl) a6 (by simp;omega) (by simp;omega) zo rfl ?_
   intro a3 w7 O7 a0 a4 f3;have e7:=a0.one;have c9:=J2 b9 a4 zo zo;have b7:=J2 e0 a4 zo zo;have e4:=J2 e5 a4 zo zo;have a8:=a9.trans (a4.mono (fun _ h=>by rw[h];omega) a');have d0:=J7 (c9.cell 2 rfl) (aD a8 b3);refine zh ?_;refine ae d0 ?_;refine zrf 10 rfl d0 rfl ?_;refine J0 11 zk rfl ?_;refine aj (j:=2) b7 rfl (Mm _) e7 rfl rfl rfl ?_;have e8:JX O7 (w7.setCell ⟨ob,2,none⟩ a3) (T+2) ob #[nI k,nI c,a3] 67:=b7.set 2 a3;have a2:Jr (fun q=>q=T+2) O7 w7 O7 (w7.setCell ⟨ob,2,none⟩ a3):=Jp zo b7.tag rfl;have c8:=c9.upd a2 zo zo;have a7:=a8.trans (a2.mono (fun _ h=>by rw[h];omega) a');have e':=J7 (c8.cell 2 rfl) (aD a7 b3);refine zh ?_;refine ae e' ?_;refine Ji zk ?_;refine zh ?_;refine zxd (i+1,O7,(w7.setCell ⟨ob,2,none⟩ a3),a3,zs++[z]) (⟨d4,c8,e4.upd a2 zo zo,e8,a0.upd a2 zo zo,by simp[d1],fun m hm=>?_,a7,f3.upd a2⟩);dsimp only at hm ⊢
   by_cases e:m<i
   ·rw[aB (xs:=zs++[z]) (by simp;omega),J9 zo,<-aB zo];exact((b5 m e).upd a4).upd a2
   obtain rfl:m=zs.length:=zo;rw[aB (xs:=zs++[z]) (by simp),J8 zo];simp only[JW,Js];rw[d1];exact(c5.upd a4).upd a2
  intro i0;obtain rfl:i=xs.length:=dF i0;have h':=b2.one;refine zh ?_;refine zv (af (us:=aV ((k,c,lv):N3)) d2.cellsAdd (M6 _) (Km _) rfl) ?_;refine zsb (us:=#[nI k,nI c,lv]) b6 (Km _) (bZ (x:=(k,c,lv)) h') ?_;have h3:=b6.setRow (us:=#[nI k,nI c,lv]);have f8:Jr (fun q=>q=T) O1' d' O1' (d'.setRow xb #[nI k,nI c,lv]):=J6 zo b6.tag rfl;have c7:=b2.upd f8 zo zo;have d6:=b'.trans (f8.mono (fun _ h=>by rw[h];omega) a');have hN:Nt O (d'.setRow xb #[nI k,nI c,lv]) (.mk k c kids) (k,c,lv):=
   .mk c7.sl (c7.freeT zo (fun b=>by have:=hT b;omega) (d9.upd f8) d6) zo (fun m hm=>((g0 m zo).upd f8).low d6)
  refine zh ?_;refine aK rfl rfl (h3.cellsAdd) (M6 _) (Km _) (⟨(k,c,lv),rfl,hN,aD d6 b3⟩)
def RulesO(O:Nat->Nat)(w:ln)(rv:ix)(ts:List R3):Prop:=∃zs,Sl ct 7 w rv zs/\MI O w rv/\ts.length=zs.length/\∀i,i<zs.length->Rt O w (nth ts i) (nth zs i)
theorem DM(li lk:List Int)(ts:List R3)(xs:List X3)(ig kp ru:ix)(B:Nat)(O:Nat->Nat)(w:ln)(j0:KX B O w)(h1:Sl encI 1 w ig li)(h2:Sl encI 1 w kp lk)(h3:Sl ct 7 w ru xs)(h4:ts.length=xs.length)(h5:∀i,i<xs.length->Rt (fun _=>0) w (nth ts i) (nth xs i))(hf:Few li lk ts):Kx Jt 7 [xQ ig kp ru] w fun u w'=>∃rv,u=xQ ig kp rv/\RulesO O w' rv ts/\JM w w':=by
 obtain⟨f1,f2,f3,f4⟩:=hf;have o1:=h1.one;have o2:=h2.one;have o3:=h3.one;obtain⟨T,k9,hT⟩:=j0.bound;have b6:∀b,¬T<=O b:=fun b=>by have:=hT b;omega
 have b3:¬(fun q:Nat=>T<=q) 0:=fun e=>zo
 refine J1 func7 ntmps7 rfl rfl ?_;refine zh ?_
 refine aE j0 T zo rfl rfl ?_;intro nb w1 O1 j7 k2 k6 l1;refine aw k6 (T+1) zo (JQ _) rfl ?_
 intro xb w2 O2 j3 i' k5 l0;have i3:=j7.upd i' zo zo;have n0:w2.cell? (nA nb 0)=some ig:=i3.cell 0 rfl;have n1:w2.cell? (nA nb 1)=some kp:=i3.cell 1 rfl;refine zh ?_;refine zv (aF G0 (JQ _) rfl (by simp only[Jm,o1,o2];rfl) rfl rfl) ?_;refine aw k5 (T+2) zo (JQ _) rfl ?_;intro ob w3 O3 i1 k1 k4 k';refine zsb (us:=#[ig,kp,nS]) i1 (JB _) (by simp only[Jm,o1,o2];rfl) ?_;have j5:=i1.setRow (us:=#[ig,kp,nS]);have i9:Jr (fun q=>q=T+2) O3 w3 O3 (w3.setRow ob #[ig,kp,nS]):=J6 zo i1.tag rfl;have f8:=k1.trans i9;have k3:=k4.upd i9;have j6:=i3.upd f8 zo zo;have j2:=j3.upd f8 zo zo;have i4:Jr (fun q=>T<=q) O w O3 _:=((k2.mono (fun _ h=>by rw[h];omega) b3).trans (i'.mono (fun _ h=>by rw[h];omega) b3)).trans (f8.mono (fun _ h=>by rw[h];omega) b3);generalize w3.setRow ob #[ig,kp,nS]=w4 at *;refine zh ?_
 refine zlp (fun y:Nat×(Nat->Nat)×World×ix×List X3=>[(1,nP nb),(2,nP xb),(3,nP ob),(4,nI y.1)]) (fun y=>y.2.2.1) (fun y=>y.1<=xs.length/\JX y.2.1 y.2.2.1 T nb #[ig,kp,ru] 25/\JX y.2.1 y.2.2.1 (T+1) xb #[nS,nS,nS] 41/\JX y.2.1 y.2.2.1 (T+2) ob #[ig,kp,y.2.2.2.1] 41/\KJ ct 69 7 y.2.1 y.2.2.1 (T+3) y.2.2.2.1 y.2.2.2.2/\y.2.2.2.2.length=y.1/\(∀m,m<y.1->Rt y.2.1 y.2.2.1 (nth ts m) (nth y.2.2.2.2 m))/\Jr (fun q=>T<=q) O w y.2.1 y.2.2.1/\KX B y.2.1 y.2.2.1) (fun y=>xs.length-y.1) (0,O3,w4,nS,[]) (⟨Jq _,j6,j2,j5,JJ _ _ _ _ _ _,rfl,fun m hm=>absurd hm (JK m),i4,k3⟩) ?_;rintro⟨i,O1,g4,lv,zs⟩ ⟨hi,f6,d2,f5,c9,d8,h',d',g3⟩;dsimp only at hi f6 d2 f5 c9 d8 h' d' g3 ⊢;have i7:=aD d' b6;have k8:=h3.ext i7;have c2:g4.cell? (nA nb 2)=some ru:=f6.cell 2 rfl;refine zh ?_
 refine zC ?_ ?_
 ·intro b4;replace b4:i<xs.length:=dT b4;obtain⟨z1,z2⟩:=f4 i zo;have i2:=f6.drew;have i8:=d2.drew;have i0:=f5.drew;have e1:=c9.drew;have h9:=g3.drew;have g9:∀m,m<i->Rt O1 g4.drew (nth ts m) (nth zs m):=fun m hm=>(h' m hm).ext (ka g4).drew
  have f7:=d'.drew;have i5:=aD f7 b6;have b7:=J7 (i2.cell 2 rfl) i5;have j9:∀W,JM w W->∀(j:Nat) (u:ix),(aV (nth xs i).1)[j]? = some u->W.cell? (((adr ru 7 i).add 0).add j)=some u:=fun W hE j u hu=>by
   have e:(((adr ru 7 i).add 0).add j)=(adr ru 7 i).add j:=by rw[Jz,L9]
   rw[e];refine hE.cell (h3.cell b4 ?_);simp only[aV]at hu
   match j,hu with
   |0,hu=>exact hu
   |1,hu=>exact hu
   |2,hu=>exact hu
  have j4:∀W,JM w W->∀(j:Nat) (u:ix),(aV (nth xs i).2.1)[j]? = some u->W.cell? (((adr ru 7 i).add 3).add j)=some u:=fun W hE j u hu=>by
   have e:(((adr ru 7 i).add 3).add j)=(adr ru 7 i).add (3+j):=by rw[Jz]
   rw[e];refine hE.cell (h3.cell b4 ?_);simp only[aV]at hu
   match j,hu with
   |0,hu=>exact hu
   |1,hu=>exact hu
   |2,hu=>exact hu
  obtain⟨a6,h0⟩:∃b,b=(nth xs i).2.2:=⟨_,rfl⟩
  have k0:∀W,JM w W->W.cell? ((adr ru 7 i).add 6)=some (.bool a6):=fun W hE=>by rw[h0];exact hE.cell (h3.cell b4 rfl)
  refine zh ?_;refine aG (fun W=>W.cell? ⟨nb,2,none⟩=some ru/\JM w W) 27 rfl zk ?_
  refine zrf 0 rfl b7 rfl ?_;refine zrf 2 rfl b7 rfl ?_
  refine zt 3 rfl b7 (fun w1 b9=>RV.ld b9.1 rfl) ?_;refine zrm 4 rfl b7 rfl ?_
  refine zt 5 rfl b7 (fun w1 b9=>K9 (h3.ext b9.2) Ku (L5 _) rfl rfl i rfl b4) ?_;refine zrf 6 rfl b7 rfl ?_
  refine zt 7 rfl b7 (fun w1 b9=>af (us:=aV (nth xs i).1) (j9 _ b9.2) (Lp _) (Ko _) rfl) ?_;refine zrf 9 rfl b7 rfl ?_
  refine zt 10 rfl b7 (fun w1 b9=>RV.ld b9.1 rfl) ?_;refine zrm 11 rfl b7 rfl ?_
  refine zt 12 rfl b7 (fun w1 b9=>K9 (h3.ext b9.2) Ku (L5 _) rfl rfl i rfl b4) ?_;refine zrf 13 rfl b7 rfl ?_
  refine zt 14 rfl b7 (fun w1 b9=>af (us:=aV (nth xs i).2.1) (j4 _ b9.2) (Lp _) (Ko _) rfl) ?_;refine zrf 16 rfl b7 rfl ?_
  refine zt 17 rfl b7 (fun w1 b9=>RV.ld b9.1 rfl) ?_;refine zrm 18 rfl b7 rfl ?_
  refine zt 19 rfl b7 (fun w1 b9=>K9 (h3.ext b9.2) Ku (L5 _) rfl rfl i rfl b4) ?_;refine zrf 20 rfl b7 rfl ?_
  refine zt 21 rfl b7 (fun w1 b9=>RV.ld (k0 _ b9.2) rfl) ?_;generalize g4.drew=wD at *;refine bL 1 8 zk rfl rfl ?_ ?_
  ·refine zvH (RV.ld (i0.cell 2 rfl) rfl) ?_;refine ae b7 ?_
   refine J0 8 zk rfl ?_;refine zc L7 (lh 1000000 (JF _) (nth ts i).1 zo B O1 (nth xs i).1 wD h9 ((h5 i b4).1.ext i5)) ?_
   rintro v5 w5 ⟨y1,rfl,h6,i6⟩;have c6:Jr (fun _=>False) O1 wD O1 w5:=aa (fun h=>h) O1 i6;have g7:=i2.upd c6 zo (fun h=>h);have h8:=i8.upd c6 zo (fun h=>h);have g':=i0.upd c6 zo (fun h=>h);have c8:=e1.upd c6 zo (fun h=>h);have g2:=h9.upd c6;have d7:∀m,m<i->Rt O1 w5 (nth ts m) (nth zs m):=fun m hm=>(g9 m hm).upd c6
   have d1:=f7.trans (c6.mono (fun _ h=>h.elim) b3);have f':=J7 (g7.cell 2 rfl) (aD d1 b6);refine zh ?_;refine ae f' ?_;refine J0 15 zk rfl ?_;refine zc L7 (lh 1000000 (JF _) (nth ts i).2.1 zo B O1 (nth xs i).2.1 w5 g2 ((h5 i b4).2.1.ext f'.2)) ?_;rintro v6 w6 ⟨y2,rfl,g5,e5⟩;have d0:=h6.upd (aa (S:=fun _=>False) (fun h=>h) O1 e5);have b0:Jr (fun _=>False) O1 w5 O1 w6:=aa (fun h=>h) O1 e5;have d9:=g7.upd b0 zo (fun h=>h);have g6:=h8.upd b0 zo (fun h=>h);have e':=g'.upd b0 zo (fun h=>h);have b5:=c8.upd b0 zo (fun h=>h);have g8:=g2.upd b0;have c':∀m,m<i->Rt O1 w6 (nth ts m) (nth zs m):=fun m hm=>(d7 m hm).upd b0
   have b8:=d1.trans (b0.mono (fun _ h=>h.elim) b3);have e0:=J7 (d9.cell 2 rfl) (aD b8 b6);refine zh ?_;refine ae e0 ?_;refine zr 22 rfl e0 (fun _=>JS (vs:=[(0,nv y1),(1,nv y2),(2,.bool a6)]) (cells:=(ct (y1,y2,a6)).toArray) Gm (LJ _) rfl zk) ?_;refine J0 23 zk rfl ?_;refine aJ elR (enc:=ct) (y1,y2,a6) rfl rfl rfl zd rfl ?_;intro w7 h7 c7;have a8:=d0.upd (aa (S:=fun _=>False) (fun h=>h) O1 c7);have a7:=g5.upd (aa (S:=fun _=>False) (fun h=>h) O1 c7);have a2:Jr (fun _=>False) O1 w6 O1 w7:=aa (fun h=>h) O1 c7;have d5:=d9.upd a2 zo (fun h=>h);have e7:=g6.upd a2 zo (fun h=>h);have e3:=e'.upd a2 zo (fun h=>h);have a9:=b5.upd a2 zo (fun h=>h);have g1:=g8.upd a2;have b':∀m,m<i->Rt O1 w7 (nth ts m) (nth zs m):=fun m hm=>(c' m hm).upd a2
   have b2:=b8.trans (a2.mono (fun _ h=>h.elim) b3);have e4:=J7 (d5.cell 2 rfl) (aD b2 b6);refine zh ?_;refine ae e4 ?_;have a':∀u∈[((y1,y2,a6):X3)],∀c∈ct u,c.oneCell'=true:=fun u hu=>by
    rw[J5.1 hu];exact bP a8.one a7.one
   refine J0 24 zk rfl ?_;refine aC elR a9 g1 h7 (by simp) rfl rfl (fun _ _=>rfl) a' (by simp;omega) (by simp;omega) zo rfl ?_
   intro a5 w8 O8 a1 a4 g0;have e8:=a1.one;have d4:=J2 d5 a4 zo zo;have c5:=J2 e3 a4 zo zo;have e6:=J2 e7 a4 zo zo;have b1:=b2.trans (a4.mono (fun _ h=>by rw[h];omega) b3);have d6:=J7 (d4.cell 2 rfl) (aD b1 b6);refine zh ?_;refine ae d6 ?_;refine zrf 25 rfl d6 rfl ?_;refine J0 26 zk rfl ?_;refine aj (j:=2) c5 rfl (LL _) e8 rfl rfl rfl ?_;have e9:JX O8 (w8.setCell ⟨ob,2,none⟩ a5) (T+2) ob #[ig,kp,a5] 41:=c5.set 2 a5;have a0:Jr (fun q=>q=T+2) O8 w8 O8 (w8.setCell ⟨ob,2,none⟩ a5):=Jp zo c5.tag rfl;have d3:=d4.upd a0 zo zo;have a3:=b1.trans (a0.mono (fun _ h=>by rw[h];omega) b3);have f9:=J7 (d3.cell 2 rfl) (aD a3 b6);refine zh ?_;refine ae f9 ?_;refine Ji zk ?_;refine zh ?_;refine zxd (i+1,O8,(w8.setCell ⟨ob,2,none⟩ a5),a5,zs++[((y1,y2,a6):X3)]) (⟨b4,d3,e6.upd a0 zo zo,e9,a1.upd a0 zo zo,by simp[d8],fun m hm=>?_,a3,g0.upd a0⟩);dsimp only at hm ⊢
   by_cases e:m<i
   ·rw[aB (xs:=zs++[((y1,y2,a6):X3)]) (by simp;omega),J9 zo,<-aB zo];exact((b' m e).upd a4).upd a0
   obtain rfl:m=zs.length:=zo;rw[aB (xs:=zs++[((y1,y2,a6):X3)]) (by simp),J8 zo];simp only[JW,Js];rw[d8];exact⟨(a8.upd a4).upd a0,(a7.upd a4).upd a0,h0.trans (h5 i b4).2.2⟩
  refine zc L7 (lh 1000000 (JF _) (nth ts i).1 zo B O1 (nth xs i).1 wD h9 ((h5 i b4).1.ext i5)) ?_;rintro v5 w5 ⟨y1,rfl,h6,i6⟩;have c6:Jr (fun _=>False) O1 wD O1 w5:=aa (fun h=>h) O1 i6;have g7:=i2.upd c6 zo (fun h=>h);have h8:=i8.upd c6 zo (fun h=>h);have g':=i0.upd c6 zo (fun h=>h);have c8:=e1.upd c6 zo (fun h=>h);have g2:=h9.upd c6;have d7:∀m,m<i->Rt O1 w5 (nth ts m) (nth zs m):=fun m hm=>(g9 m hm).upd c6
  have d1:=f7.trans (c6.mono (fun _ h=>h.elim) b3);have f':=J7 (g7.cell 2 rfl) (aD d1 b6);refine zh ?_;refine ae f' ?_;refine bL 1 15 zk rfl rfl ?_ ?_
  ·refine zvH (RV.ld (g'.cell 2 rfl) rfl) ?_;refine ae f' ?_
   refine J0 15 zk rfl ?_;refine zc L7 (lh 1000000 (JF _) (nth ts i).2.1 zo B O1 (nth xs i).2.1 w5 g2 ((h5 i b4).2.1.ext f'.2)) ?_
   rintro v6 w6 ⟨y2,rfl,g5,e5⟩;have d0:=h6.upd (aa (S:=fun _=>False) (fun h=>h) O1 e5);have b0:Jr (fun _=>False) O1 w5 O1 w6:=aa (fun h=>h) O1 e5;have d9:=g7.upd b0 zo (fun h=>h);have g6:=h8.upd b0 zo (fun h=>h);have e':=g'.upd b0 zo (fun h=>h);have b5:=c8.upd b0 zo (fun h=>h);have g8:=g2.upd b0;have c':∀m,m<i->Rt O1 w6 (nth ts m) (nth zs m):=fun m hm=>(d7 m hm).upd b0
   have b8:=d1.trans (b0.mono (fun _ h=>h.elim) b3);have e0:=J7 (d9.cell 2 rfl) (aD b8 b6);refine zh ?_;refine ae e0 ?_;refine zr 22 rfl e0 (fun _=>JS (vs:=[(0,nv y1),(1,nv y2),(2,.bool a6)]) (cells:=(ct (y1,y2,a6)).toArray) Gm (LJ _) rfl zk) ?_;refine J0 23 zk rfl ?_;refine aJ elR (enc:=ct) (y1,y2,a6) rfl rfl rfl zd rfl ?_;intro w7 h7 c7;have a8:=d0.upd (aa (S:=fun _=>False) (fun h=>h) O1 c7);have a7:=g5.upd (aa (S:=fun _=>False) (fun h=>h) O1 c7);have a2:Jr (fun _=>False) O1 w6 O1 w7:=aa (fun h=>h) O1 c7;have d5:=d9.upd a2 zo (fun h=>h);have e7:=g6.upd a2 zo (fun h=>h);have e3:=e'.upd a2 zo (fun h=>h);have a9:=b5.upd a2 zo (fun h=>h);have g1:=g8.upd a2;have b':∀m,m<i->Rt O1 w7 (nth ts m) (nth zs m):=fun m hm=>(c' m hm).upd a2
   have b2:=b8.trans (a2.mono (fun _ h=>h.elim) b3);have e4:=J7 (d5.cell 2 rfl) (aD b2 b6);refine zh ?_;refine ae e4 ?_;have a':∀u∈[((y1,y2,a6):X3)],∀c∈ct u,c.oneCell'=true:=fun u hu=>by
    rw[J5.1 hu];exact bP a8.one a7.one
   refine J0 24 zk rfl ?_;refine aC elR a9 g1 h7 (by simp) rfl rfl (fun _ _=>rfl) a' (by simp;omega) (by simp;omega) zo rfl ?_
   intro a5 w8 O8 a1 a4 g0;have e8:=a1.one;have d4:=J2 d5 a4 zo zo;have c5:=J2 e3 a4 zo zo;have e6:=J2 e7 a4 zo zo;have b1:=b2.trans (a4.mono (fun _ h=>by rw[h];omega) b3);have d6:=J7 (d4.cell 2 rfl) (aD b1 b6);refine zh ?_;refine ae d6 ?_;refine zrf 25 rfl d6 rfl ?_;refine J0 26 zk rfl ?_;refine aj (j:=2) c5 rfl (LL _) e8 rfl rfl rfl ?_;have e9:JX O8 (w8.setCell ⟨ob,2,none⟩ a5) (T+2) ob #[ig,kp,a5] 41:=c5.set 2 a5;have a0:Jr (fun q=>q=T+2) O8 w8 O8 (w8.setCell ⟨ob,2,none⟩ a5):=Jp zo c5.tag rfl;have d3:=d4.upd a0 zo zo;have a3:=b1.trans (a0.mono (fun _ h=>by rw[h];omega) b3);have f9:=J7 (d3.cell 2 rfl) (aD a3 b6);refine zh ?_;refine ae f9 ?_;refine Ji zk ?_;refine zh ?_;refine zxd (i+1,O8,(w8.setCell ⟨ob,2,none⟩ a5),a5,zs++[((y1,y2,a6):X3)]) (⟨b4,d3,e6.upd a0 zo zo,e9,a1.upd a0 zo zo,by simp[d8],fun m hm=>?_,a3,g0.upd a0⟩);dsimp only at hm ⊢
   by_cases e:m<i
   ·rw[aB (xs:=zs++[((y1,y2,a6):X3)]) (by simp;omega),J9 zo,<-aB zo];exact((b' m e).upd a4).upd a0
   obtain rfl:m=zs.length:=zo;rw[aB (xs:=zs++[((y1,y2,a6):X3)]) (by simp),J8 zo];simp only[JW,Js];rw[d8];exact⟨(a8.upd a4).upd a0,(a7.upd a4).upd a0,h0.trans (h5 i b4).2.2⟩
  refine zc L7 (lh 1000000 (JF _) (nth ts i).2.1 zo B O1 (nth xs i).2.1 w5 g2 ((h5 i b4).2.1.ext f'.2)) ?_;rintro v6 w6 ⟨y2,rfl,g5,e5⟩;have d0:=h6.upd (aa (S:=fun _=>False) (fun h=>h) O1 e5);have b0:Jr (fun _=>False) O1 w5 O1 w6:=aa (fun h=>h) O1 e5;have d9:=g7.upd b0 zo (fun h=>h);have g6:=h8.upd b0 zo (fun h=>h);have e':=g'.upd b0 zo (fun h=>h);have b5:=c8.upd b0 zo (fun h=>h);have g8:=g2.upd b0;have c':∀m,m<i->Rt O1 w6 (nth ts m) (nth zs m):=fun m hm=>(d7 m hm).upd b0
  have b8:=d1.trans (b0.mono (fun _ h=>h.elim) b3);have e0:=J7 (d9.cell 2 rfl) (aD b8 b6);refine zh ?_;refine ae e0 ?_;refine zr 22 rfl e0 (fun _=>JS (vs:=[(0,nv y1),(1,nv y2),(2,.bool a6)]) (cells:=(ct (y1,y2,a6)).toArray) Gm (LJ _) rfl zk) ?_;refine bL 1 23 zk rfl rfl ?_ ?_
  ·refine zvH (RV.ld (e'.cell 2 rfl) rfl) ?_;refine ae e0 ?_
   refine J0 23 zk rfl ?_;refine aJ elR (enc:=ct) (y1,y2,a6) rfl rfl rfl zd rfl ?_
   intro w7 h7 c7;have a8:=d0.upd (aa (S:=fun _=>False) (fun h=>h) O1 c7);have a7:=g5.upd (aa (S:=fun _=>False) (fun h=>h) O1 c7);have a2:Jr (fun _=>False) O1 w6 O1 w7:=aa (fun h=>h) O1 c7;have d5:=d9.upd a2 zo (fun h=>h);have e7:=g6.upd a2 zo (fun h=>h);have e3:=e'.upd a2 zo (fun h=>h);have a9:=b5.upd a2 zo (fun h=>h);have g1:=g8.upd a2;have b':∀m,m<i->Rt O1 w7 (nth ts m) (nth zs m):=fun m hm=>(c' m hm).upd a2
   have b2:=b8.trans (a2.mono (fun _ h=>h.elim) b3);have e4:=J7 (d5.cell 2 rfl) (aD b2 b6);refine zh ?_;refine ae e4 ?_;have a':∀u∈[((y1,y2,a6):X3)],∀c∈ct u,c.oneCell'=true:=fun u hu=>by
    rw[J5.1 hu];exact bP a8.one a7.one
   refine J0 24 zk rfl ?_;refine aC elR a9 g1 h7 (by simp) rfl rfl (fun _ _=>rfl) a' (by simp;omega) (by simp;omega) zo rfl ?_
   intro a5 w8 O8 a1 a4 g0;have e8:=a1.one;have d4:=J2 d5 a4 zo zo;have c5:=J2 e3 a4 zo zo;have e6:=J2 e7 a4 zo zo;have b1:=b2.trans (a4.mono (fun _ h=>by rw[h];omega) b3);have d6:=J7 (d4.cell 2 rfl) (aD b1 b6);refine zh ?_;refine ae d6 ?_;refine zrf 25 rfl d6 rfl ?_;refine J0 26 zk rfl ?_;refine aj (j:=2) c5 rfl (LL _) e8 rfl rfl rfl ?_;have e9:JX O8 (w8.setCell ⟨ob,2,none⟩ a5) (T+2) ob #[ig,kp,a5] 41:=c5.set 2 a5;have a0:Jr (fun q=>q=T+2) O8 w8 O8 (w8.setCell ⟨ob,2,none⟩ a5):=Jp zo c5.tag rfl;have d3:=d4.upd a0 zo zo;have a3:=b1.trans (a0.mono (fun _ h=>by rw[h];omega) b3);have f9:=J7 (d3.cell 2 rfl) (aD a3 b6);refine zh ?_;refine ae f9 ?_;refine Ji zk ?_;refine zh ?_;refine zxd (i+1,O8,(w8.setCell ⟨ob,2,none⟩ a5),a5,zs++[((y1,y2,a6):X3)]) (⟨b4,d3,e6.upd a0 zo zo,e9,a1.upd a0 zo zo,by simp[d8],fun m hm=>?_,a3,g0.upd a0⟩);dsimp only at hm ⊢
   by_cases e:m<i
   ·rw[aB (xs:=zs++[((y1,y2,a6):X3)]) (by simp;omega),J9 zo,<-aB zo];exact((b' m e).upd a4).upd a0
   obtain rfl:m=zs.length:=zo;rw[aB (xs:=zs++[((y1,y2,a6):X3)]) (by simp),J8 zo];simp only[JW,Js];rw[d8];exact⟨(a8.upd a4).upd a0,(a7.upd a4).upd a0,h0.trans (h5 i b4).2.2⟩
  refine aJ elR (enc:=ct) (y1,y2,a6) rfl rfl rfl zd rfl ?_;intro w7 h7 c7;have a8:=d0.upd (aa (S:=fun _=>False) (fun h=>h) O1 c7);have a7:=g5.upd (aa (S:=fun _=>False) (fun h=>h) O1 c7);have a2:Jr (fun _=>False) O1 w6 O1 w7:=aa (fun h=>h) O1 c7;have d5:=d9.upd a2 zo (fun h=>h);have e7:=g6.upd a2 zo (fun h=>h);have e3:=e'.upd a2 zo (fun h=>h);have a9:=b5.upd a2 zo (fun h=>h);have g1:=g8.upd a2;have b':∀m,m<i->Rt O1 w7 (nth ts m) (nth zs m):=fun m hm=>(c' m hm).upd a2
  have b2:=b8.trans (a2.mono (fun _ h=>h.elim) b3);have e4:=J7 (d5.cell 2 rfl) (aD b2 b6);refine zh ?_;refine ae e4 ?_;refine J0 1 zk rfl ?_;refine zvH (RV.ld (e3.cell 2 rfl) rfl) ?_;refine ae e4 ?_;have a':∀u∈[((y1,y2,a6):X3)],∀c∈ct u,c.oneCell'=true:=fun u hu=>by
   rw[J5.1 hu];exact bP a8.one a7.one
  refine J0 24 zk rfl ?_;refine aC elR a9 g1 h7 (by simp) rfl rfl (fun _ _=>rfl) a' (by simp;omega) (by simp;omega) zo rfl ?_
  intro a5 w8 O8 a1 a4 g0;have e8:=a1.one;have d4:=J2 d5 a4 zo zo;have c5:=J2 e3 a4 zo zo;have e6:=J2 e7 a4 zo zo;have b1:=b2.trans (a4.mono (fun _ h=>by rw[h];omega) b3);have d6:=J7 (d4.cell 2 rfl) (aD b1 b6);refine zh ?_;refine ae d6 ?_;refine zrf 25 rfl d6 rfl ?_;refine J0 26 zk rfl ?_;refine aj (j:=2) c5 rfl (LL _) e8 rfl rfl rfl ?_;have e9:JX O8 (w8.setCell ⟨ob,2,none⟩ a5) (T+2) ob #[ig,kp,a5] 41:=c5.set 2 a5;have a0:Jr (fun q=>q=T+2) O8 w8 O8 (w8.setCell ⟨ob,2,none⟩ a5):=Jp zo c5.tag rfl;have d3:=d4.upd a0 zo zo;have a3:=b1.trans (a0.mono (fun _ h=>by rw[h];omega) b3);have f9:=J7 (d3.cell 2 rfl) (aD a3 b6);refine zh ?_;refine ae f9 ?_;refine Ji zk ?_;refine zh ?_;refine zxd (i+1,O8,(w8.setCell ⟨ob,2,none⟩ a5),a5,zs++[((y1,y2,a6):X3)]) (⟨b4,d3,e6.upd a0 zo zo,e9,a1.upd a0 zo zo,by simp[d8],fun m hm=>?_,a3,g0.upd a0⟩);dsimp only at hm ⊢
  by_cases e:m<i
  ·rw[aB (xs:=zs++[((y1,y2,a6):X3)]) (by simp;omega),J9 zo,<-aB zo];exact((b' m e).upd a4).upd a0
  obtain rfl:m=zs.length:=zo;rw[aB (xs:=zs++[((y1,y2,a6):X3)]) (by simp),J8 zo];simp only[JW,Js];rw[d8];exact⟨(a8.upd a4).upd a0,(a7.upd a4).upd a0,h0.trans (h5 i b4).2.2⟩
 intro j';obtain rfl:i=xs.length:=by have:=of_decide_eq_false j';omega
 have j8:=c9.one;refine zh ?_;refine zv (af (us:=[ig,kp,lv]) f5.cellsAdd (KG _) (JB _) rfl) ?_;refine zsb (us:=#[ig,kp,lv]) d2 (JB _) (by simp only[Jm,o1,o2,j8];rfl) ?_;have j1:=d2.setRow (us:=#[ig,kp,lv]);have a0:Jr (fun q=>q=T+1) O1 g4 O1 (g4.setRow xb #[ig,kp,lv]):=J6 zo d2.tag rfl;have e2:=c9.upd a0 zo zo;have a3:=d'.trans (a0.mono (fun _ h=>by rw[h];omega) b3);have k7:=aD a3 b6;refine zh ?_;refine aK rfl rfl (j1.cellsAdd) (KG _) (JB _) (⟨lv,rfl,⟨zs,e2.sl,e2.freeT zo (fun b=>by have:=hT b;omega) (g3.upd a0) a3,zo,fun m hm=>((h' m zo).upd a0).weak (fun b e=>a3.z0 b e)⟩,k7⟩)
theorem PostC.shape{B:Nat}{w:ln}{v:ix}{li lk:List Int}{ts:List R3}(h:Ln B w v li lk ts):∃cs:List ix,∃e:Int,v=.tuple #[.agg cs.toArray,nI e]/\cs.length=17/\(cs.all JC=true):=by
 rcases h with⟨_,rfl⟩|⟨_,⟨a,b,a1,a0,u,_,_,_,_,_,_,rfl,hT,_⟩|⟨_,rfl⟩⟩
 ·exact⟨_,1,rfl,rfl,rfl⟩
 ·obtain⟨gv,lc,rc,rfl,h1,h2,h3⟩:=hT;obtain⟨ll,lo⟩:=h2.one;obtain⟨rl,ro⟩:=h3.one;refine⟨_,0,rfl,by simp[ll,rl],?_⟩;rw[KO];intro x hx;simp only[Ki,Jl,JD,or_false]at hx
  rcases hx with(hx|hx)|hx
  ·rcases hx with rfl|rfl|rfl|rfl|rfl
   ·rfl
   ·rfl
   ·rfl
   ·rfl
   exact h1.one
  ·exact lo x hx
  exact ro x hx
 exact⟨_,7,rfl,rfl,rfl⟩
theorem TabV.ext{w w':ln}{v:ix}{t:JA}(h:TabV w v t)(e:JM w w'):TabV w' v t:=by
 obtain⟨gv,lc,rc,rfl,h1,h2,h3⟩:=h;exact⟨gv,lc,rc,rfl,h1.ext e,h2.ext e,h3.ext e⟩
theorem TabN.mono{B B':Nat}{v:ix}(h:TabN B v)(hb:B'<=B):TabN B' v:=fun cs e x hx=>(h cs e x hx).mono hb
theorem PostC.ext{B B':Nat}{w w':ln}{v:ix}{li lk:List Int}{ts:List R3}(h:Ln B w v li lk ts)(e:JM w w')(hb:B'<=B):Ln B' w' v li lk ts:=by
 rcases h with h|⟨h0,⟨a,b,a1,a0,u,h1,h2,h3,h4,h5,h6,h7,hT,hN⟩|h⟩
 ·exact .inl h
 ·exact .inr ⟨h0,.inl ⟨a,b,a1,a0,u,h1,h2,h3,h4,h5,h6,h7,hT.ext e,hN.mono hb⟩⟩
 exact .inr ⟨h0,.inr h⟩
theorem PostC.upd{B:Nat}{S:Nat->Prop}{O O':Nat->Nat}{w0 w w':ln}{v:ix}{li lk:List Int}{ts:List R3}(h:Ln w0.heap.size w v li lk ts)(r:KX B O w0)(u:Jr S O w O' w'):Ln w0.heap.size w' v li lk ts:=by
 rcases h with h|⟨h0,⟨a,b,a1,a0,x,h1,h2,h3,h4,h5,h6,h7,hT,hN⟩|h⟩
 ·exact .inl h
 ·refine .inr ⟨h0,.inl ⟨a,b,a1,a0,x,h1,h2,h3,h4,h5,h6,h7,?_,hN⟩⟩;obtain⟨gv,lc,rc,rfl,k1,k2,k3⟩:=hT;have hn:=hN _ rfl;have n1:NewV w0.heap.size gv:=hn gv (by simp);exact⟨gv,lc,rc,rfl,k1.upd (n1.free k1 (fun x _=>by simp) r) u,k2.upd (fun x hx=>hn x (by simp[hx])) r u,k3.upd (fun x hx=>hn x (by simp[hx])) r u⟩
 exact .inr ⟨h0,.inr h⟩
def GT(B:Nat)(w:ln)(v:ix):TK->Prop
 |.bad p e=>v=.tuple #[.agg oC,nI (p:Int),nI e]/\e≠0
 |.ok st=>∃(cs:List ix) (e:Int),v=.tuple #[.agg cs.toArray,nI 0,nI e]/\Ln B w (.tuple #[.agg cs.toArray,nI e]) st.li st.lk st.ts
theorem jd(l:List UInt8)(w:ln)(b9:l.length<=1000000000):Kx Jt 13 [.string (bs l)] w fun v w'=>JM w w'/\GT w.heap.size w' v (jg l):=by
 refine J1 func13 ntmps13 rfl rfl ?_;refine zh ?_
 refine aw (ar w) 1 zo (K7 _) rfl ?_;intro cb w1 O1 a8 b8 b5 d0;refine zh ?_
 refine zc call27 (uC l w.heap.size O1 w1 b5 b9) ?_;rintro v w2 ⟨a7,hP⟩;have d2:=b5.ext a7;have hz:¬(0=1):=zo
 cases hM:jg l with
 |bad p e=>
  rw[hM]at hP;obtain⟨rfl,he⟩:=hP;refine zh ?_;refine aw (ar w2) 1 zo (JQ _) rfl ?_;intro tb w3 O3 a1 b4 c8 c';refine zsa (us:=#[rS,rS,rS]) a1 (JB _) ?_;have a0:=(b4.trans (J6 (us:=#[rS,rS,rS]) zd a1.tag rfl)).ext;generalize w3.setRow tb #[rS,rS,rS]=w4 at *;have c5:=aa (S:=fun q=>q=1) hz O1 (a7.trans a0);have a4:=a8.upd (aa (S:=fun _=>False) (fun h=>h) O1 (a7.trans a0)) zd (fun h=>h);refine zh ?_;refine zTH rfl ((by simpa using he)) ?_;refine zvH (JS (cells:=oC) D9 (K7 _) rfl rfl) ?_;refine zsa (us:=oC) a4 (J3 _) ?_;have b3:=a4.setRow (us:=oC);have c7:Jr (fun j=>j=1) O1 w4 O1 (w4.setRow cb oC):=J6 zd a4.tag rfl;refine zh ?_;refine cg rfl rfl rfl rfl (b3.cellsAdd) (Jk _) (J3 _) (⟨((b8.trans c5).trans c7).ext,rfl,he⟩)
 |ok st=>
  rw[hM]at hP;obtain⟨tv,rfl,hx⟩:=hP;obtain⟨ta,a5,tc,xs,rfl,x1,x2,x3,_⟩:=hx.ex;have o1:=x1.one;have o2:=x2.one;have o3:=x3.one;refine zh ?_;refine aw (ar w2) 1 zo (JQ _) rfl ?_;intro tb w3 O3 a1 b4 c8 c';refine zsb (us:=#[ta,a5,tc]) a1 (JB _) (by simp[o1,o2,o3]) ?_;have b1:=a1.setRow (us:=#[ta,a5,tc]);have a0:=(b4.trans (J6 (us:=#[ta,a5,tc]) zd a1.tag rfl)).ext;generalize w3.setRow tb #[ta,a5,tc]=w4 at *;refine zh ?_;refine zFH rfl rfl ?_;refine zv (af (us:=[ta,a5,tc]) b1.cellsAdd (KG _) (JB _) rfl) ?_;refine zc call6 (nV st.li st.lk st.ts (xQ ta a5 tc) w4 (hx.ext a0)) ?_;rintro v w5 ⟨c9,hC⟩;obtain⟨cs,e,rfl,a6,b6⟩:=hC.shape;refine zh ?_;refine aw (ar w5) 1 zo (K7 _) rfl ?_;intro xb w6 O6 a2 c6 d1 d3;refine bu (us:=cs.toArray) a2 (show cs.toArray.size=17 from by simpa using a6) (by rw[show cs.toArray.size=17 from by simpa using a6];exact J3 _) (by simpa using b6) rfl rfl rfl ?_;have b0:=a2.setRow (us:=cs.toArray);have a9:=(c6.trans (J6 (us:=cs.toArray) zd a2.tag rfl)).ext;generalize w6.setRow xb cs.toArray=w7 at *;have a':=((a7.trans a0).trans c9).trans a9;have b':=aa (S:=fun q=>q=1) hz O1 a';have a3:=a8.upd (aa (S:=fun _=>False) (fun h=>h) O1 a') zd (fun h=>h);refine zh ?_;refine zvH (af (us:=cs) (by simpa using b0.cellsAdd) (Jk _) (by rw[a6];exact J3 _) rfl) ?_
  refine bu (us:=cs.toArray) a3 (show cs.toArray.size=17 from by simpa using a6) (by rw[show cs.toArray.size=17 from by simpa using a6];exact J3 _) (by simpa using b6) rfl rfl rfl ?_;have b2:=a3.setRow (us:=cs.toArray);have b7:Jr (fun j=>j=1) O1 w7 O1 (w7.setRow cb cs.toArray):=J6 zd a3.tag rfl;refine zh ?_
  refine cg rfl rfl rfl rfl (us:=cs) (by simpa using b2.cellsAdd) (Jk _) (by rw[a6];exact J3 _) ⟨((b8.trans b').trans b7).ext,cs,e,rfl,((hC.ext a9 (JF _)).upd (b5.ext (a7.trans a0)) b7).ext (ka _) (((d0.trans a7).trans a0).size)⟩
theorem zL(li lk:List Int)(ts:List R3)(v:ix)(w:ln)(h:Tx w v li lk ts):Kx Jt 4 [v] w fun u w'=>∃g,u=.bool g/\JM w w'/\(g=true->Few li lk ts/\ts.length<=8):=by
 obtain⟨ig,kp,ru,xs,rfl,h1,h2,h3,h4,h5⟩:=h;have o1:=h1.one;have o2:=h2.one;have o3:=h3.one;refine J1 func4 ntmps4 rfl rfl ?_;refine zh ?_;refine aE (ar w) 1 zo rfl rfl ?_;intro xb w1 O1 a' b8 b9 a2;have b5:Tx w1 (xQ ig kp ru) li lk ts:=⟨⟨ig,kp,ru,xs,rfl,h1.ext a2,h2.ext a2,h3.ext a2,h4,fun i hi=>(h5 i hi).ext a2⟩⟩
 have c2:w1.cell? (nA xb 2)=some ru:=a'.cell 2 rfl;refine zh ?_;refine zv (af (us:=[ig,kp,ru]) a'.cellsAdd (isAgg26 _) (sizeOf26 _) rfl) ?_;refine zc call11 (A3 li lk ts (xQ ig kp ru) w1 b5) ?_;rintro _ w2 ⟨g,rfl,a6,hg⟩;have g3:=h3.ext (a2.trans a6);refine zh ?_;refine bN (fun w1=>_=w1) (decide ((8:Int)<(xs.length:Int))) 4 (rfl) rfl rfl rfl rfl rfl ?_ ?_
 ·intro a1;refine zh ?_;refine zvH (RV.ld (a6.cell c2) rfl) ?_;refine nE 7 5 (rfl) a1
 rintro _ rfl;refine zh ?_;refine zC ?_ ?_
 ·intro hc;refine zh ?_;refine ah rfl rfl (⟨false,rfl,a2.trans a6,fun e=>by cases e⟩)
 intro hc;simp only[JO,decide_eq_false_iff_not]at hc;obtain⟨b4,b7⟩:=hc;have a9:=hg b4;have h8:ts.length<=8:=zo;have a7:=a2.trans a6;refine zh ?_;refine zlp (fun y:Nat×Nat×ln=>[(1,nP xb),(3,nI (y.2.1:Nat)),(4,nI y.1)]) (fun y=>y.2.2) (fun y=>y.1<=xs.length/\y.2.1<=302*y.1/\JM w2 y.2.2) (fun y=>xs.length-y.1) (0,0,w2) (⟨Jq _,by dsimp only;omega,ka _⟩) ?_;rintro⟨i,s,w3⟩ ⟨hi,a5,a4⟩;dsimp only at hi a5 a4 ⊢;have d2:=(a6.trans a4).cell c2;have a8:=g3.ext a4;refine zh ?_;refine bG (fun w1=>_=w1) (decide ((s:Int)<=60)) 2 (rfl) rfl rfl rfl rfl rfl ?_ ?_
 ·intro b1;refine zh ?_;refine nE 18 3 (rfl) b1
 rintro _ rfl;refine zh ?_;refine zC ?_ ?_
 ·intro hc;simp only[JP,decide_eq_true_eq]at hc;have a3:i<xs.length:=zo;have b0:=(h5 i a3).ext (a7.trans a4);have b3:∀W,JM w3 W->∀(j:Nat) (u:ix),(aV (nth xs i).1)[j]? = some u->W.cell? (((adr ru 7 i).add 0).add j)=some u:=fun W hE=>(sC (a8.ext hE) a3).1
  have b2:∀W,JM w3 W->∀(j:Nat) (u:ix),(aV (nth xs i).2.1)[j]? = some u->W.cell? (((adr ru 7 i).add 3).add j)=some u:=fun W hE=>(sC (a8.ext hE) a3).2.1
  refine zh ?_;refine xI (JM w3) zk zk ((ka w3).drew) ?_
  refine jq (fun w1 a0=>Jo rfl) rfl ?_;refine jq (fun w1 a0=>KL 2 ME rfl rfl (sizeOf23 _) zd rfl) rfl ?_
  refine jq (fun w1 a0=>MR (by first|exact a0.cell d2) (isAgg23 _) rfl) rfl ?_;refine jq (fun w1 a0=>Jo rfl) rfl ?_
  refine jq (fun w1 a0=>K9 (a8.ext a0) Ku (L5 _) rfl rfl i rfl a3) rfl ?_;refine jq (fun w1 a0=>KL 0 MD rfl rfl (Ko _) zd rfl) rfl ?_
  refine jq (fun w1 a0=>af (us:=aV (nth xs i).1) (b3 _ a0) (Lp _) (Ko _) rfl) rfl ?_;refine MP call12 rfl (fun w1 a0=>(gL (nsz (nth ts i).1) (nth ts i).1 (JF _) (nth xs i).1 _ 60 (b0.1.ext a0) zd).mono fun v w' h=>⟨h.1,a0.trans h.2⟩) rfl ?_
  refine jq (fun w1 a0=>KH rfl rfl (Kk zo)) rfl ?_;refine jq (fun w1 a0=>KL 2 ME rfl rfl (sizeOf23 _) zd rfl) rfl ?_
  refine jq (fun w1 a0=>MR (by first|exact a0.cell d2) (isAgg23 _) rfl) rfl ?_;refine jq (fun w1 a0=>Jo rfl) rfl ?_
  refine jq (fun w1 a0=>K9 (a8.ext a0) Ku (L5 _) rfl rfl i rfl a3) rfl ?_;refine jq (fun w1 a0=>KL 3 MD rfl rfl (Ko _) zd rfl) rfl ?_
  refine jq (fun w1 a0=>af (us:=aV (nth xs i).2.1) (b2 _ a0) (Lp _) (Ko _) rfl) rfl ?_;refine MP call12 rfl (fun w1 a0=>(gL (nsz (nth ts i).2.1) (nth ts i).2.1 (JF _) (nth xs i).2.1 _ 60 (b0.2.1.ext a0) zd).mono fun v w' h=>⟨h.1,a0.trans h.2⟩) rfl ?_
  refine jq (fun w1 a0=>KH rfl rfl (Kk zo)) rfl ?_;refine jq (fun w1 a0=>L8 rfl) rfl ?_
  refine WQ.nil ?_;intro w4 b6;refine zh ?_
  rw[show(s:Int)+((min (nsz (nth ts i).1) (60+1):Nat):Int)+((min (nsz (nth ts i).2.1) (60+1):Nat):Int)=((s+(min (nsz (nth ts i).1) 61+min (nsz (nth ts i).2.1) 61):Nat):Int)from by omega];refine zxd (i+1,s+(min (nsz (nth ts i).1) 61+min (nsz (nth ts i).2.1) 61),w4) (⟨a3,by dsimp only;omega,a4.trans b6⟩)
 intro hc;refine zh ?_;refine ah rfl rfl (⟨_,rfl,a7.trans a4,fun _=>⟨a9,h8⟩⟩)
def CP(x:Int):List Int->List Int
 |[]=>[x]
 |y::r=>if x<y then x::y::r else if x=y then y::r else y::CP x r
def tR(l:List Int):List Int:=l.foldr CP []
theorem qV(x z:Int):∀l:List Int,z∈CP x l↔z=x\/z∈l
 |[]=>by simp[CP]
 |y::r=>by
  unfold CP
  split
  ·simp
  split
  ·rename_i h;subst h;simp
  rw[Jl,qV x z r,Jl]
  constructor
  ·rintro(h|h|h)
   ·exact .inr (.inl h)
   ·exact .inl h
   exact .inr (.inr h)
  rintro(h|h|h)
  ·exact .inr (.inl h)
  ·exact .inl h
  exact .inr (.inr h)
theorem AU(x:Int):∀l:List Int,l.Pairwise (· < ·)->(CP x l).Pairwise (· < ·)
 |[],_=>by simp[CP]
 |y::r,h=>by
  obtain⟨h1,h2⟩:=JT.1 h;unfold CP
  split
  ·rename_i hxy;refine JT.2 ⟨fun z hz=>?_,h⟩
   rcases Jl.1 hz with rfl|hz
   ·exact hxy
   have:=h1 z hz;omega
  split
  ·exact h
  refine JT.2 ⟨fun z hz=>?_,AU x r h2⟩
  rcases(qV x z r).1 hz with rfl|hz
  ·omega
  exact h1 z hz
theorem nY(l:List Int):(∀x,x∈tR l↔x∈l)/\(tR l).Pairwise (· < ·):=by
 induction l with
 |nil=>exact⟨fun x=>Iff.rfl,.nil⟩
 |cons a l ih=>
  refine⟨fun x=>?_,AU a _ ih.2⟩;show x∈CP a (tR l)↔_;rw[qV,ih.1,Jl]
theorem Dq:∀(a b:List Int),a.Pairwise (· < ·)->b.Pairwise (· < ·)->(∀x,x∈a↔x∈b)->a=b
 |[],[],_,_,_=>rfl
 |[],y::r,_,_,h=>absurd ((h y).2 (by simp)) (by simp)
 |x::a,[],_,_,h=>absurd ((h x).1 (by simp)) (by simp)
 |x::a,y::b,ha,hb,h=>by
  obtain⟨a1,a2⟩:=JT.1 ha;obtain⟨b1,b2⟩:=JT.1 hb;have a4:x=y:=by
   rcases Jl.1 ((h x).1 (by simp))with e|e
   ·exact e
   rcases Jl.1 ((h y).2 (by simp))with e'|e'
   ·exact e'.symm
   have:=a1 y e';have:=b1 x e;omega
  subst a4;congr 1;refine Dq a b a2 b2 fun z=>?_
  have hz:=h z;simp only[Jl]at hz
  constructor
  ·intro a3
   rcases hz.1 (.inr a3)with e|e
   ·subst e;exact absurd (a1 z a3) zo
   exact e
  intro a0
  rcases hz.2 (.inr a0)with e|e
  ·subst e;exact absurd (b1 z a0) zo
  exact e
theorem C1(l:List Int):qf l=tR l:=Dq _ _ (xB l) (nY l).2 fun x=>by rw[tO,(nY l).1]
def Gg(se:Bool)(g:Gr)(s:List Int)(m:Int):List Int:=tR (Gl se g s m)
theorem step_eq(se:Bool)(g:Gr):cS se g=Gg se g:=funext fun _=>funext fun _=>C1 _
def stK(se:Bool)(ts:List Nd):Option (List (List Nat)×List Nat):=if dB ts=0 then Dv (Gg se (rT ts)) (dP (rT ts))else none
theorem stM_eq(se:Bool)(ts:List Nd):stM se ts=stK se ts:=by unfold stM stK;rw[step_eq]
abbrev jn:List R3:=[(.mk 0 1 [],.mk 0 2 [],false)]
theorem tW:∃st,jg DA=.ok st/\st.ts=jn/\st.li=[]/\st.lk=[]:=⟨⟨jn,[],[],false,false⟩,by kernel_rfl,rfl,rfl,rfl⟩
theorem vu:eh [] [] jn=true:=by decide +kernel
theorem BC:(stM true (mD jn)).isSome=true:=by rw[stM_eq];decide +kernel
theorem BB:(stM false (gA jn)).isSome=true:=by rw[stM_eq];decide +kernel
theorem PostC.made{B:Nat}{w:ln}{v:ix}{li lk:List Int}{ts:List R3}(h:Ln B w v li lk ts):
  (∃e:Int,e≠0/\v=.tuple #[.agg oC,nI e]/\((e=1/\eh li lk ts=false)\/(e=7/\eh li lk ts=true/\(stM true (mD ts)=none\/stM false (gA ts)=none))))\/
  ∃a b a1 a0 gv lc rc,Made li lk ts a b a1 a0/\v=.tuple #[.agg (bn (ff li lk ts a b a1 a0).ig (ff li lk ts a b a1 a0).kp (ff li lk ts a b a1 a0).br (ff li lk ts a b a1 a0).rules gv lc rc).toArray,nI 0]/\
   M1 w gv (ff li lk ts a b a1 a0).groups/\Md w lc (ff li lk ts a b a1 a0).left (ff li lk ts a b a1 a0).lt/\Md w rc (ff li lk ts a b a1 a0).right (ff li lk ts a b a1 a0).rt/\FQ B (gv::(lc++rc)):=by
 rcases h with⟨h0,rfl⟩|⟨h0,⟨a,b,a1,a0,u,h1,h2,h3,h4,h5,h6,rfl,hT,hN⟩|⟨h1,rfl⟩⟩
 ·exact .inl ⟨1,zd,rfl,.inl ⟨rfl,h0⟩⟩
 ·obtain⟨gv,lc,rc,rfl,k1,k2,k3⟩:=hT;have hn:=hN _ rfl;exact .inr ⟨a,b,a1,a0,gv,lc,rc,⟨h0,h1,h2,h3,h4,h5,h6⟩,rfl,k1,k2,k3,fun x hx=>hn x (by simp only[Ki,Jl,JD,or_false]at hx ⊢;rcases hx with hx|hx|hx<;>simp[hx])⟩
 exact .inl ⟨7,zd,rfl,.inr ⟨rfl,h0,h1⟩⟩
section
variable{cl cl':Nat→Nat}{n:Nat}(h:∀p q,p<n→q<n→(cl p=cl q↔cl' p=cl' q))
include h
theorem vh{t:Nat}(ht:t<n):∀ {F:List Nat},(∀o∈F,o<n)->tq cl F t=tq cl' F t
 |[],_=>rfl
 |a::F,hF=>by
  have ih:=vh ht (F:=F) fun o ho=>hF o (List.mem_cons_of_mem _ ho)
  unfold tq at ih ⊢;have e:(cl a==cl t)=(cl' a==cl' t):=by rw[Bool.eq_iff_iff,beq_iff_eq,beq_iff_eq];exact h a t (hF a (List.mem_cons_self ..)) ht
  rw[Lo,Lo,e,ih]
theorem GD{t:Nat}(ht:t<n){F:List Nat}(hF:∀o∈F,o<n):fnF cl F t=fnF cl' F t/\fnI cl F t=fnI cl' F t/\∀o∈fnF cl F t,o<n:=by
 refine⟨by unfold fnF;rw[vh h ht hF],by unfold fnI;rw[vh h ht hF],fun o ho=>?_⟩;unfold fnF at ho
 split at ho
 ·exact hF o ho
 rcases Ki.1 ho with ho|ho
 ·exact hF o ho
 rw[J5.1 ho];exact ht
theorem zZ{nx:Nat->Nat->Nat}{p:Nat}{F:List Nat}(hF:∀o∈F,o<n)(a0:∀m,m<37->nx p m<n):∀m,m<=37->gG cl nx p F m=gG cl' nx p F m/\∀o∈(gG cl nx p F m).1,o<n
 |0,_=>⟨rfl,hF⟩
 |m+1,hm=>by
  obtain⟨h1,h2⟩:=zZ hF a0 m zo;obtain⟨k1,k2,k3⟩:=GD h (a0 m zo) h2;unfold gG;rw[<-h1];exact⟨by rw[k1,k2],k3⟩
theorem sX{nx:Nat->Nat->Nat}(tl:Nat->Nat)(a1:∀p m,p<n->m<37->nx p m<n):∀(k i:Nat) (F:List Nat) (rows:List (List Nat)) (a0:List Nat),(∀o∈F,o<n)->ei cl nx tl k i F rows a0=ei cl' nx tl k i F rows a0
 |0,_,_,_,_,_=>rfl
 |k+1,i,F,rows,a0,hF=>by
  unfold ei
  by_cases hi:i<F.length
  ·obtain⟨h1,h2⟩:=zZ h hF (a1 (nth F i) · (hF _ (aI hi))) 37 (JF _);rw[if_pos hi,if_pos hi,<-h1];exact sX tl a1 k _ _ _ _ h2
  rw[if_neg hi,if_neg hi]
end
theorem ky{d:List (List Nat)×List Nat}{cl a0:Nat->Nat}(hr:RightD d.1 d.2)(h:Cls cl d)(h':Cls a0 d):cI cl d.1 d.2=cI a0 d.1 d.2:=
 sX (n:=d.1.length) (fun p q hp hq=>(h p q hp hq).trans (h' p q hp hq).symm) _ (fun p m hp hm=>(hr.row p hp).2 m hm) _ _ _ _ _ fun o ho=>by rw[J5.1 ho];exact hr.pos
theorem yp(l l':List Int)(av bv:ix)(w:ln)(h:M1 w av l)(h':M1 w bv l'):Kx Jt 15 [av,bv] w fun v w'=>v=.bool (decide (l=l'))/\JM w w':=by
 have q1:=h.len_le;have q2:=h'.len_le;refine J1 func15 ntmps15 rfl rfl ?_;refine zh ?_;refine zC ?_ ?_
 ·intro a4;have a1:¬l=l':=fun e=>by subst e;simp at a4
  refine zh ?_;refine ah rfl rfl (⟨by rw[decide_eq_false a1],ka w⟩)
 intro a7;have a9:l.length=l'.length:=by have:=of_decide_eq_true (p:=((l.length:Int)=(l'.length:Int))) (by simpa using a7);omega
 refine zh ?_;refine zlp (fun z:Nat×ln=>[(0,av),(1,bv),(5,nI (z.1:Nat))]) (fun z=>z.2) (fun z=>z.1<=l.length/\JM w z.2/\∀i,i<z.1->nth l i=nth l' i) (fun z=>l.length-z.1) (0,w) (⟨Jq _,ka w,fun i hi=>absurd hi (JK i)⟩) ?_
 rintro⟨k,w1⟩ ⟨hk,hE,a0⟩;dsimp only at hk hE a0 ⊢;have h1:=h.ext hE;have h2:=h'.ext hE;refine zh ?_;refine zC ?_ ?_
 ·intro a3;replace a3:k<l.length:=dT a3;have e1:w1.cell? (adr av 1 k)=some (nI (nth l k)):=by have:=h1.cell (i:=k) (j:=0) a3 rfl;rw[ax]at this;exact this
  have e2:w1.cell? (adr bv 1 k)=some (nI (nth l' k)):=by have:=h2.cell (i:=k) (j:=0) zo rfl;rw[ax]at this;exact this
  refine zh ?_;refine aG (fun W=>W.cell? (adr av 1 k)=some (nI (nth l k))/\W.cell? (adr bv 1 k)=some (nI (nth l' k))) 9 rfl zk ?_
  refine zin ⟨e1,e2⟩ fun zS=>?_
  refine zrm 0 rfl zS rfl ?_;refine zrm 1 rfl zS rfl ?_
  refine zr 2 rfl zS (fun _=>ai h1.sh underlying61 (Ju _) rfl rfl k rfl zo) ?_;refine zt 3 rfl zS (fun w1 a2=>RV.ld (by first|exact a2.1|exact a2.2) rfl) ?_
  refine zrm 4 rfl zS rfl ?_;refine zrm 5 rfl zS rfl ?_
  refine zr 6 rfl zS (fun _=>ai h2.sh Jj (Ju _) rfl rfl k rfl zo) ?_;refine zt 7 rfl zS (fun w1 a2=>RV.ld (by first|exact a2.1|exact a2.2) rfl) ?_
  refine zr 8 rfl zS (fun _=>Mc rfl rfl) ?_;refine Ji zk ?_
  refine zh ?_;refine zC ?_ ?_
  ·intro a4;have a1:¬l=l':=fun e=>by subst e;simp at a4
   refine zh ?_;refine ah rfl rfl (⟨by rw[decide_eq_false a1],hE.drew⟩)
  intro a7;have a6:nth l k=nth l' k:=by simpa using a7
  refine zh ?_;have a8:∀i,i<k+1->nth l i=nth l' i:=fun i hi=>(Ke.1 hi).elim (a0 i) (fun e=>by rw[e];exact a6)
  refine zxd (k+1,w1.drew) (⟨a3,hE.drew,a8⟩)
 intro b0;have a':k=l.length:=dF b0;subst a';have a5:l=l':=LD a9 fun i i1 i2=>by have:=a0 i i1;rwa[aB i1,aB i2]at this
 refine zh ?_;refine ah rfl rfl (⟨by rw[decide_eq_true a5],hE⟩)
section
variable{w:ln}{x y:JA}{gx:ix}{lx rx:List ix}{gy:ix}{ly ry:List ix}{Pr:List (Nat×Nat)}
theorem yD(tx:TbW w x gx lx rx)(ty:TbW w y gy ly ry)(a':bW x=true)(a9:bW y=true)(b1:x.ig=y.ig)(b0:x.kp=y.kp):
  Kx Jt 28 [xT x gx lx rx,xT y gy ly ry] w fun v w'=>v=.bool true/\JM w w':=by
 have a4:=tx.len;have a3:=ty.len;obtain⟨c',c9⟩:=tx.l.one;obtain⟨c7,c8⟩:=tx.r.one;obtain⟨c6,c5⟩:=ty.l.one;obtain⟨b8,b9⟩:=ty.r.one;refine J1 func28 ntmps28 rfl rfl ?_;refine zh ?_;refine aE (ar w) 1 zo rfl rfl ?_;intro ab w1 O1 b3 d0 b5 b7;refine aE b5 2 zo rfl rfl ?_;intro bb w2 O2 b2 b4 d1 b6;have a5:=b3.upd b4 zd zd;have a2:=b7.trans b6;have ac:∀W,JM w2 W->∀(j:Nat) (u:ix),(bn x.ig x.kp x.br x.rules gx lx rx)[j]? = some u->W.cell? (nA ab j)=some u:=fun W e j u hu=>e.cell (a5.cellsAdd j u hu)
 have bc:∀W,JM w2 W->∀(j:Nat) (u:ix),(bn y.ig y.kp y.br y.rules gy ly ry)[j]? = some u->W.cell? (nA bb j)=some u:=fun W e j u hu=>e.cell (b2.cellsAdd j u hu)
 refine zh ?_;refine zv (af (us:=bn x.ig x.kp x.br x.rules gx lx rx) (ac w2 (ka _)) (Jk _) (by rw[a4];exact J3 _) rfl) ?_
 refine zc Mp (dR x _ w2 ⟨gx,lx,rx,rfl,tx.g.ext a2,tx.l.ext a2,tx.r.ext a2⟩) ?_;rintro _ w3 ⟨rfl,a6⟩;rw[a'];have a1:=a2.trans a6;refine zh ?_
 refine az (d:=7) rfl (b':=true) (rfl) ?_;refine zh ?_
 refine zvH (af (us:=bn y.ig y.kp y.br y.rules gy ly ry) (bc w3 a6) (Jk _) (by rw[a3];exact J3 _) rfl) ?_;refine zc Mp (dR y _ w3 ⟨gy,ly,ry,rfl,ty.g.ext a1,ty.l.ext a1,ty.r.ext a1⟩) ?_
 rintro _ w4 ⟨rfl,a8⟩;rw[a9];have a0:=a6.trans a8;have a7:=a1.trans a8;refine zh ?_;refine az (d:=11) rfl (b':=true) (rfl) ?_;refine zh ?_;refine zvH (RV.ld (by first|exact ac w4 a0 0 _ rfl|exact bc w4 a0 0 _ rfl|exact ac w4 a0 1 _ rfl|exact bc w4 a0 1 _ rfl) rfl) ?_;refine zvH (RV.ld (by first|exact ac w4 a0 0 _ rfl|exact bc w4 a0 0 _ rfl|exact ac w4 a0 1 _ rfl|exact bc w4 a0 1 _ rfl) rfl) ?_;refine az (d:=18) rfl (b':=true) ((by rw[b1];simp)) ?_;refine zh ?_;refine zvH (RV.ld (by first|exact ac w4 a0 0 _ rfl|exact bc w4 a0 0 _ rfl|exact ac w4 a0 1 _ rfl|exact bc w4 a0 1 _ rfl) rfl) ?_;refine zvH (RV.ld (by first|exact ac w4 a0 0 _ rfl|exact bc w4 a0 0 _ rfl|exact ac w4 a0 1 _ rfl|exact bc w4 a0 1 _ rfl) rfl) ?_;refine ah rfl rfl (⟨by rw[b0];simp,a7⟩)
theorem Ja:ck Jt 58 #[(0,1),(1,1)]:=⟨_,underlying58,fun w=>by kernel_rfl⟩
theorem yE(tx:TbW w x gx lx rx)(ty:TbW w y gy ly ry)(hx:KK x)(hy:KK y)(d2:bW x=true)(d1:bW y=true)(e3:x.ig=y.ig)(e1:x.kp=y.kp)(hP:PrOk x y Pr)(hB:cP w) 
  (hf:gD x y=true) (a4:List Int) (b9:(Ds (bz x y).1 ((bz x y).2+1) (bz x y).2).reverse=a4) (hn:a4.length<=100000) (p q:List Bool) (hp:lS x a4=p) (hq:lS y a4=q) (n:Nat) (g7:n<p.length) (g6:n<q.length) (e4:∀i,i<n->nth p i=nth q i) (e0:nth p n≠nth q n) :
  Kx Jt 14 [xT x gx lx rx,xT y gy ly ry] w fun v w'=>JM w w'/\∃iv,v=.tuple #[.agg #[iv,nI (n:Nat)],.bool true,nI 0]/\M1 w' iv a4/\NewV w.heap.size iv:=by
 have a1:=tx.len;have a0:=ty.len;obtain⟨g4,g3⟩:=tx.l.one;obtain⟨g1,g2⟩:=tx.r.one;obtain⟨g0,f'⟩:=ty.l.one;obtain⟨f8,f9⟩:=ty.r.one;have hz:¬(0=1\/0=2\/0=3):=zd;refine J1 func14 ntmps14 rfl rfl ?_;refine zh ?_;refine aE (ar w) 1 zo rfl rfl ?_;intro ab w1 O1 e7 e9 f4 f7;refine aE f4 2 zo rfl rfl ?_;intro bb w2 O2 e6 d8 f3 f6;refine aw f3 3 zo (LK _) rfl ?_;intro cb w3 O3 e5 c8 e' f5;have c7:=(e7.upd d8 zd zd).upd c8 zd zd;have c6:=e6.upd c8 zd zd;have a7:=(f7.trans f6).trans f5;have c9:Jr (fun q=>q=1\/q=2\/q=3) (fun _=>0) w O3 w3:=((e9.mono (fun _ h=>.inl h) hz).trans (d8.mono (fun _ h=>.inr (.inl h)) hz)).trans (c8.mono (fun _ h=>.inr (.inr h)) hz);have ac:∀W,JM w3 W->∀(j:Nat) (u:ix),(bn x.ig x.kp x.br x.rules gx lx rx)[j]? = some u->W.cell? (nA ab j)=some u:=fun W e j u hu=>e.cell (c7.cellsAdd j u hu)
 have bc:∀W,JM w3 W->∀(j:Nat) (u:ix),(bn y.ig y.kp y.br y.rules gy ly ry)[j]? = some u->W.cell? (nA bb j)=some u:=fun W e j u hu=>e.cell (c6.cellsAdd j u hu)
 refine zh ?_;refine zv (af (us:=bn x.ig x.kp x.br x.rules gx lx rx) (ac w3 (ka _)) (Jk _) (by rw[a1];exact J3 _) rfl) ?_
 refine zv (af (us:=bn y.ig y.kp y.br y.rules gy ly ry) (bc w3 (ka _)) (Jk _) (by rw[a0];exact J3 _) rfl) ?_;refine zc call28 (yD (tx.ext a7) (ty.ext a7) d2 d1 e3 e1) ?_
 rintro _ w4 ⟨rfl,a8⟩;have a2:=a7.trans a8;refine zh ?_;refine zFH rfl rfl ?_;refine zv (af (us:=bn x.ig x.kp x.br x.rules gx lx rx) (ac w4 a8) (Jk _) (by rw[a1];exact J3 _) rfl) ?_;refine zv (af (us:=bn y.ig y.kp y.br y.rules gy ly ry) (bc w4 a8) (Jk _) (by rw[a0];exact J3 _) rfl) ?_;refine zc call29 (nO (tx.ext a2) (ty.ext a2) hx hy hP (bf hB a2)) ?_;rintro _ w5 ⟨d',_,b3⟩;obtain⟨iv,rfl,b1,hN⟩:=b3 hf;rw[b9]at b1;have b0:=a8.trans d';have d0:=a2.trans d';refine zh ?_;refine aN rfl rfl ?_;have hE5d:=(ka w5).drew;refine zh ?_;refine aG (fun W=>JM w3 W) 8 rfl zk ?_;refine zin (b0.trans hE5d) fun zS=>?_
 refine zt 0 rfl zS (fun w1 b4=>af (us:=bn x.ig x.kp x.br x.rules gx lx rx) (ac _ b4) (Jk _) (by rw[a1];exact J3 _) rfl) ?_;refine zrm 1 rfl zS rfl ?_
 refine zt 3 rfl zS (fun w1 b4=>af (us:=bn y.ig y.kp y.br y.rules gy ly ry) (bc _ b4) (Jk _) (by rw[a0];exact J3 _) rfl) ?_;refine zrm 4 rfl zS rfl ?_
 have hE05d:=d0.trans hE5d;refine J0 2 zk rfl ?_;refine zc call30 (jl w5.drew x gx lx rx (tx.g.ext hE05d) (tx.l.ext hE05d) (tx.r.ext hE05d) hx d2 (bf hB hE05d) a4 iv (b1.ext hE5d) hn) ?_;rintro pv w6 ⟨b6,b2⟩;rw[hp]at b6;have g5:=b6.len_le;have a':=(b0.trans hE5d).trans b2;have a3:=hE05d.trans b2;refine zh ?_;refine ae ((a')) ?_;refine J0 5 zk rfl ?_;refine zc call30 (jl w6 y gy ly ry (ty.g.ext a3) (ty.l.ext a3) (ty.r.ext a3) hy d1 (bf hB a3) a4 iv (b1.ext (hE5d.trans b2)) hn) ?_;rintro qv w7 ⟨d3,c'⟩;rw[hq]at d3;have a9:=a'.trans c';have b5:=b6.ext c';have b8:=b1.ext ((hE5d.trans b2).trans c');refine zh ?_;refine zaf ((a9)) fun zS=>?_
 refine zra 6 rfl zS rfl ?_;refine zra 7 rfl zS rfl ?_
 refine Ji zk ?_;refine zh ?_
 refine zlp (fun z:Nat×ln=>[(4,nP cb),(7,iv),(9,pv),(10,qv),(11,nI z.1)]) (fun z=>z.2) (fun z=>z.1<=n/\JM w7 z.2) (fun z=>n-z.1) (0,w7) (⟨Jq _,ka _⟩) ?_;rintro⟨k,w8⟩ ⟨hk,d9⟩;dsimp only at hk d9 ⊢;have hE8d:=d9.trans (ka w8).drew;have d5:=b5.ext hE8d;have d4:=d3.ext hE8d;have cp:w8.drew.cell? (adr pv 1 k)=some (.bool (nth p k)):=by have:=d5.cell (i:=k) (j:=0) zo rfl;rwa[ax]at this
 have cq:w8.drew.cell? (adr qv 1 k)=some (.bool (nth q k)):=by have:=d4.cell (i:=k) (j:=0) zo rfl;rwa[ax]at this
 refine zh ?_;refine M9 zk zk ?_
 refine zh ?_;refine zwH (ai d5.sh MC (M4 _) rfl rfl k rfl zo) ?_
 refine zwH (ai d4.sh MC (M4 _) rfl rfl k rfl zo) ?_;refine zw (rO L1 rfl rfl) ?_
 refine Mv ?_;refine zh ?_
 refine zC ?_ ?_
 ·intro hc;have c5:nth p k=nth q k:=by simpa using hc
  have e2:k<n:=by
   rcases Lu hk with h|h
   ·exact h
   subst h;exact absurd c5 e0
  refine zh ?_;refine zxd (k+1,w8.drew) (⟨e2,hE8d⟩)
 intro hc;have c5:nth p k≠nth q k:=by simpa using hc
 obtain rfl:k=n:=by
  rcases Lu hk with h|h
  ·exact absurd (e4 k h) c5
  exact h
 have a5:=b8.ext hE8d;have d6:=aa (S:=fun q=>q=1\/q=2) zd O3 (a9.trans hE8d);have a6:=e5.upd d6 zd zd;refine zh ?_;refine zv (aF (cells:=#[iv,nI (k:Nat)]) Ja (LK _) rfl (by simp only[Jm,Jy,a5.one];rfl) rfl rfl) ?_;refine zsb (us:=#[iv,nI (k:Nat)]) a6 (Mn _) (by simp only[Jm,Jy,a5.one];rfl) ?_;have b':=a6.setRow (us:=#[iv,nI (k:Nat)]);have d7:Jr (fun q=>q=3) O3 w8.drew O3 (w8.drew.setRow cb #[iv,nI (k:Nat)]):=J6 zd a6.tag rfl;have e8:=(c9.trans (d6.mono (fun _ h=>zo) hz)).trans (d7.mono (fun _ h=>.inr (.inr h)) hz);have b7:=hN.slI a5 (e'.ext a8) d7;generalize w8.drew.setRow cb #[iv,nI (k:Nat)]=w9 at *;refine zh ?_;refine cg rfl rfl rfl rfl (b'.cellsAdd) (isAgg58 _) (Mn _) (⟨e8.ext,iv,rfl,b7,hN.mono a2.size⟩)
end
theorem Ck{x y:JA}(hx:KK x)(hy:KK y)(h:x.left.usual.length*y.left.usual.length<=1000):PrOk x y ((JN x.left.usual.length).flatMap fun a=>(JN y.left.usual.length).map fun b=>(a,b)):=by
 have hm:∀a b,(a,b)∈((JN x.left.usual.length).flatMap fun a=>(JN y.left.usual.length).map fun b=>(a,b))↔a<x.left.usual.length/\b<y.left.usual.length:=fun a b=>by
  simp only[LB,Kq,Mf,MS];exact⟨fun⟨a',h1,b',h2,h3,h4⟩=>zo,fun h=>⟨a,h.1,b,h.2,rfl,rfl⟩⟩
 refine⟨(hm _ _).2 ⟨(hx.lN hx.lp zo).2,(hy.lN hy.lp zo).2⟩,fun a b c a0 hc=>?_,fun a b a0=>(hm _ _).1 a0,?_⟩
 ·have:=(hm _ _).1 a0;exact(hm _ _).2 ⟨(hx.lN this.1 zo).2,(hy.lN this.2 zo).2⟩
 have:=dL (fun a=>(JN y.left.usual.length).map fun b=>(a,b)) y.left.usual.length (JN x.left.usual.length) fun a _=>by simp
 rw[List.length_range]at this;omega
theorem Dw{d:List (List Nat)×List Nat}(h:((JN d.1.length).all fun p=>(JN d.1.length).all fun q=>p==q||[[],[2]].any fun w=>nth d.2 (runN (nxD d.1) w p) != nth d.2 (runN (nxD d.1) w q))=true):Cls id d:=fun p q hp hq=>by
 refine⟨fun e w _=>by rw[show p=q from e],fun ha=>?_⟩;have:=KO.1 (KO.1 h p (Kq.2 hp)) q (Kq.2 hq);rw[KS,beq_iff_eq]at this
 rcases this with h|h
 ·exact h
 obtain⟨w,hw,a0⟩:=Kg.1 h;refine absurd (ha w fun m hm=>?_) (by simpa using a0);simp only[Jl,JD,or_false]at hw
 rcases hw with rfl|rfl
 ·cases hm
 simp at hm;omega
theorem xA{d:List (List Nat)×List Nat}(h:∀q∈d.2,q=0):Cls (fun _=>0) d:=fun p q _ _=>by
 have hz:∀k,nth d.2 k=0:=fun k=>by
  by_cases hk:k<d.2.length
  ·exact h _ (aI hk)
  unfold nth;rw[List.getD_eq_getElem?_getD,List.getElem?_eq_none zo];rfl
 exact⟨fun _ w _=>by rw[hz,hz],fun _=>rfl⟩
abbrev dOf(se:Bool)(ts:List Nd):List (List Nat)×List Nat:=(stK se ts).getD ([],[])
theorem xw{se:Bool}{ts:List Nd}{a:List (List Nat)×List Nat}(h:stM se ts=some a):a=dOf se ts:=by unfold dOf;rw[<-stM_eq,h];rfl
def tabX:JA:=ff [] [] jn (dOf true (mD jn)) (dOf false (gA jn)) id id
def tabY:JA:=ff [] [] [] (dOf true (mD [])) (dOf false (gA [])) (fun _=>0) (fun _=>0)
theorem Gy{a b:List (List Nat)×List Nat}{a1 a0:Nat->Nat}(h:Made [] [] jn a b a1 a0):ff [] [] jn a b a1 a0=tabX:=by
 obtain rfl:=xw h.sa;obtain rfl:=xw h.sb;unfold tabX ff;rw[ky h.ra h.ca (Dw (by decide +kernel)),ky h.rb h.cb (Dw (by decide +kernel))]
theorem Gx{a b:List (List Nat)×List Nat}{a1 a0:Nat->Nat}(h:Made [] [] [] a b a1 a0):ff [] [] [] a b a1 a0=tabY:=by
 obtain rfl:=xw h.sa;obtain rfl:=xw h.sb;unfold tabY ff;rw[ky h.ra h.ca (xA (by decide +kernel)),ky h.rb h.cb (xA (by decide +kernel))]
theorem B7:gD tabX tabY=true:=by decide +kernel
theorem Gd:(Ds (bz tabX tabY).1 ((bz tabX tabY).2+1) (bz tabX tabY).2).reverse=[1,2]:=by decide +kernel
theorem B8:lS tabX [1,2]=[true,false,true]:=by decide +kernel
theorem B6:lS tabY [1,2]=[true,true,true]:=by decide +kernel
theorem Ge:tabX.left.usual.length*tabY.left.usual.length<=1000:=by decide +kernel
theorem vk:eh [] [] []=true:=by decide +kernel
theorem Bp:(stM true (mD [])).isSome=true:=by rw[stM_eq];decide +kernel
theorem Bo:(stM false (gA [])).isSome=true:=by rw[stM_eq];decide +kernel
theorem tE:∃st,jg []=.ok st/\st.ts=[]/\st.li=[]/\st.lk=[]:=⟨⟨[],[],[],false,false⟩,by kernel_rfl,rfl,rfl,rfl⟩
theorem pF{B:Nat}{w:ln}{cs:List ix}{e:Int}{ts:List R3}{t:JA}(hm:∀ {a b:List (List Nat)×List Nat} {a1 a0:Nat->Nat},Made [] [] ts a b a1 a0->ff [] [] ts a b a1 a0=t)(hr:eh [] [] ts=true)(h1:(stM true (mD ts)).isSome=true)(h2:(stM false (gA ts)).isSome=true) 
  (hC:Ln B w (.tuple #[.agg cs.toArray,nI e]) [] [] ts):∃gv lc rc,cs=bn t.ig t.kp t.br t.rules gv lc rc/\TbW w t gv lc rc/\KK t/\bW t=true/\(bn t.ig t.kp t.br t.rules gv lc rc).length=17/\(bn t.ig t.kp t.br t.rules gv lc rc).all JC=true/\FQ B (gv::(lc++rc)):=by
 obtain⟨a5,e2,g1,g2,g3⟩:=hC.shape;simp only[Kp,KP,KF,KE,KD,and_true,true_and]at g1
 rcases hC.made with⟨e',a4,hv,a2⟩|⟨a,b,a1,a0,gv,lc,rc,hM,hv,k1,k2,k3,hn⟩
 ·exfalso
  rcases a2 with⟨_,h3⟩|⟨_,_,h3|h3⟩
  ·rw[hr]at h3;cases h3
  ·rw[h3]at h1;cases h1
  rw[h3]at h2;cases h2
 have hi:=hM.inv;have hq:=hm hM;have i1:=hi.ok;have i2:=hi.right;clear hi;generalize ff [] [] ts a b a1 a0=t' at *;subst hq;have a3:cs=bn t'.ig t'.kp t'.br t'.rules gv lc rc/\e=0:=by
  simp only[Kp,KP,KF,KE,KD,and_true,true_and]at hv;simpa using hv
 obtain⟨rfl,rfl⟩:=a3;rw[<-g1.1]at g2 g3;exact⟨gv,lc,rc,rfl,⟨k1,k2,k3⟩,i1,i2,g2,g3,hn⟩
theorem oe(w:ln)(hT:cP w):Kx Jt 5 [] w fun v w'=>v=.bool true/\JM w w':=by
 obtain⟨st,e0,d',e2,e1⟩:=tW;obtain⟨f5,b0,a',b2,b1⟩:=tE;have hz:¬(0=1\/0=2\/0=3):=zd;refine J1 func5 ntmps5 rfl rfl ?_;refine zh ?_;refine zc call13 (jd DA w zd) ?_;rintro v w1 ⟨d3,hP⟩;rw[e0]at hP;obtain⟨cs,e,rfl,hC⟩:=hP;rw[d',e2,e1]at hC;obtain⟨gx,lx,rx,rfl,tx,ox,d9,xl,x1,_⟩:=pF Gy vu BC BB hC;refine zh ?_;refine aw (ar w1) 1 zo (K7 _) rfl ?_;intro ab w2 O2 b9 e6 f7 f';refine bu (us:=(bn tabX.ig tabX.kp tabX.br tabX.rules gx lx rx).toArray) b9 (show(bn tabX.ig tabX.kp tabX.br tabX.rules gx lx rx).toArray.size=17 from by simpa using xl) (by rw[show(bn tabX.ig tabX.kp tabX.br tabX.rules gx lx rx).toArray.size=17 from by simpa using xl];exact J3 _) x1 rfl rfl rfl ?_;have b8:=b9.setRow (us:=(bn tabX.ig tabX.kp tabX.br tabX.rules gx lx rx).toArray);have c5:=e6.trans (J6 (us:=(bn tabX.ig tabX.kp tabX.br tabX.rules gx lx rx).toArray) zd b9.tag rfl);generalize w2.setRow ab (bn tabX.ig tabX.kp tabX.br tabX.rules gx lx rx).toArray=w3 at *;have f4:=c5.ext;have a9:KX w1.heap.size O2 w3:=(ar w1).upd c5;refine zh ?_;refine zc call13 (jd [] w3 zd) ?_;rintro v w4 ⟨d2,hP⟩;rw[b0]at hP;obtain⟨cs,e',rfl,hC⟩:=hP;rw[a',b2,b1]at hC;obtain⟨gy,ly,ry,rfl,ty,oy,d8,yl,y1,ny⟩:=pF Gx vk Bp Bo hC;have e5:=aa (S:=fun q=>q=2) zd O2 d2;have f3:=a9.ext d2;refine zh ?_
 refine aw f3 2 zo (K7 _) rfl ?_;intro bb w5 O5 b6 c' e9 f9;refine bu (us:=(bn tabY.ig tabY.kp tabY.br tabY.rules gy ly ry).toArray) b6 (show(bn tabY.ig tabY.kp tabY.br tabY.rules gy ly ry).toArray.size=17 from by simpa using yl) (by rw[show(bn tabY.ig tabY.kp tabY.br tabY.rules gy ly ry).toArray.size=17 from by simpa using yl];exact J3 _) y1 rfl rfl rfl ?_
 have b5:=b6.setRow (us:=(bn tabY.ig tabY.kp tabY.br tabY.rules gy ly ry).toArray);have a1:Jr (fun q=>q=2) O5 w5 O5 (w5.setRow bb (bn tabY.ig tabY.kp tabY.br tabY.rules gy ly ry).toArray):=J6 zd b6.tag rfl;have c9:=(e5.trans c').trans a1;have d0:=e9.upd a1;have a2:=c'.trans a1;generalize w5.setRow bb (bn tabY.ig tabY.kp tabY.br tabY.rules gy ly ry).toArray=w6 at *;have b7:=b8.upd c9 zd zd;have a5:Jr (fun q=>q=1\/q=2\/q=3) (fun _=>0) w1 O5 w6:=(c5.mono (fun _ h=>.inl h) hz).trans (c9.mono (fun _ h=>.inr (.inl h)) hz);have a7:=a5.ext;have d7:=tx.ext a7;have d6:TbW w6 tabY gy ly ry:=⟨ty.g.upd ((ny gy (by simp)).free ty.g (fun x _=>by simp) a9) a2,ty.l.upd (fun x hx=>ny x (by simp[hx])) a9 a2,ty.r.upd (fun x hx=>ny x (by simp[hx])) a9 a2⟩
 refine zh ?_;refine zv (af (us:=bn tabX.ig tabX.kp tabX.br tabX.rules gx lx rx) (fun j u hu=>b7.cellsAdd j u hu) (Jk _) (by rw[xl];exact J3 _) rfl) ?_
 refine zv (af (us:=bn tabY.ig tabY.kp tabY.br tabY.rules gy ly ry) (fun j u hu=>b5.cellsAdd j u hu) (Jk _) (by rw[yl];exact J3 _) rfl) ?_;have e7:=bf hT (d3.trans a7);refine zc call14 (yE d7 d6 ox oy d9 d8 rfl rfl (Ck ox oy Ge) e7 B7 [1,2] Gd zd _ _ B8 B6 1 zd zd (fun i hi=>by obtain rfl:i=0:=(zo);rw[ay,ay]) (by decide +kernel)) ?_
 rintro v w7 ⟨d1,iv,rfl,c7,hN⟩;have e4:=aa (S:=fun q=>q=3) zd O5 d1;have e8:=d0.ext d1;refine zh ?_;refine aw e8 3 zo (LK _) rfl ?_;intro cb w8 O8 b4 c8 f6 f8;refine zsb (us:=#[iv,nI ((1:Nat):Int)]) b4 (Mn _) (by simp only[Jm,Jy,c7.one];rfl) ?_;have a0:=b4.setRow (us:=#[iv,nI ((1:Nat):Int)]);have a4:Jr (fun q=>q=3) O8 w8 O8 (w8.setRow cb #[iv,nI ((1:Nat):Int)]):=J6 zd b4.tag rfl;have b3:=hN.slI c7 d0 (c8.trans a4);have c6:=(a5.trans (e4.mono (fun _ h=>.inr (.inr h)) hz)).trans ((c8.trans a4).mono (fun _ h=>.inr (.inr h)) hz);generalize w8.setRow cb #[iv,nI ((1:Nat):Int)]=w9 at *;refine zh ?_;refine az (d:=28) rfl (b':=true) (rfl) ?_;refine zh ?_;refine az (d:=32) rfl (b':=true) (rfl) ?_;refine zh ?_;refine zvH (RV.ld (by first|exact a0.cellsAdd 0 _ rfl|exact a0.cellsAdd 1 _ rfl) rfl) ?_;refine fT Jj (Ju _) (zeroValue3 _) encI [1,2] rfl rfl rfl rfl zk (by simp) rfl ?_;intro jv d5 e3 a3;refine zh ?_;refine zc call15 (yp [1,2] [1,2] iv jv d5 (b3.ext a3) e3) ?_;rintro _ d4 ⟨rfl,a8⟩;have a6:=a3.trans a8;have g0:d4.cell? (nA cb 1)=some (nI ((1:Nat):Int)):=a6.cell (a0.cellsAdd 1 _ rfl);refine zh ?_;refine az (d:=38) rfl (b':=true) (rfl) ?_;refine zh ?_;refine ah rfl rfl (⟨rfl,((d3.trans c6.ext).trans a3).trans a8⟩)
theorem RulesO.tx{w:ln}{ig kp rv:ix}{li lk:List Int}{ts:List R3}(h1:Sl encI 1 w ig li)(h2:Sl encI 1 w kp lk)(h:RulesO (fun _=>0) w rv ts):Tx w (xQ ig kp rv) li lk ts:=by
 obtain⟨zs,h3,_,h4,h5⟩:=h;exact⟨ig,kp,rv,zs,rfl,h1,h2,h3,h4,h5⟩
theorem A0(t:JA)(n k:Nat):(k:Int)∈lL t n↔k<n/\rz t k=false:=by
 unfold lL;simp only[Mf,List.mem_filter,Kq,Kd];exact⟨fun⟨a,h,e⟩=>by obtain rfl:=Int.ofNat_inj.1 e;exact h,fun h=>⟨k,h,rfl⟩⟩
theorem CQ(t:JA)(n:Nat):(lL t n).Pairwise (· < ·):=by
 unfold lL;rw[List.pairwise_map];refine Mk _ (Mj (fun h=>Int.ofNat_lt.2 h) List.pairwise_lt_range)
theorem Gz{l:List Int}(h:l.Pairwise (· < ·)){i:Nat}(hi:i+1<l.length):nth l i<nth l (i+1):=by
 rw[aB zo,aB hi];exact List.pairwise_iff_getElem.1 h i (i+1) _ _ zo
theorem zb{t:JA}(ht:KK t)(kx:t.left.usual.length<=1000){k:Nat}{a0:List Int}{i:Int}(h:iF t a0 i=(k:Int)):rz t k=true:=by
 refine vg ht kx (n:=k) ?_ a0 i h;rw[Nat.testBit_xor,Nat.testBit_two_pow_self]
 cases t.br.testBit k<;>decide
theorem mG(li lk:List Int)(ts:List R3)(b1:List Int)(a0:Int)(v dv:ix)(w:ln)(h:Tx w v li lk ts)(hd:M1 w dv b1)(hT:cP w):
  Kx Jt 3 [v,dv,nI a0] w fun u w'=>u=.bool true/\JM w w':=by
 obtain⟨ig,kp,ru,xs,rfl,h1,h2,h3,h4,h5⟩:=h;have hz:¬(0=1):=zd;have h9:=hd.len_le;refine J1 func3 ntmps3 rfl rfl ?_;refine zh ?_;refine aE (ar w) 1 zo rfl rfl ?_;intro xb w1 O1 f5 i0 i2 f4;have g':∀W,JM w W->Tx W (xQ ig kp ru) li lk ts:=fun W e=>⟨⟨ig,kp,ru,xs,rfl,h1.ext e,h2.ext e,h3.ext e,h4,fun i hi=>(h5 i hi).ext e⟩⟩
 have ac:∀W,JM w1 W->∀(j:Nat) (u:ix),[ig,kp,ru][j]? = some u->W.cell? (nA xb j)=some u:=fun W e j u hu=>e.cell (f5.cellsAdd j u hu)
 refine zh ?_;refine zv (af (us:=[ig,kp,ru]) (ac w1 (ka _)) (isAgg25 _) (sizeOf25 _) rfl) ?_
 refine zc call4 (zL li lk ts (xQ ig kp ru) w1 (g' w1 f4)) ?_;rintro _ w2 ⟨g,rfl,e2,hg⟩;have b6:=f4.trans e2;refine zh ?_
 refine bN (fun w1=>_=w1) (decide ((12:Int)<(b1.length:Int))) 3 (rfl) rfl rfl rfl rfl rfl ?_ ?_
 ·intro a1;refine zh ?_;refine zvH (L3 (by first|exact hd.ext b6) Jj rfl) ?_;refine nE 18 4 (rfl) a1
 rintro _ rfl;refine zh ?_;refine bN (JM w2) (!true) 2 (ka w2) rfl rfl rfl rfl rfl ?_ ?_
 ·intro a2;refine zh ?_;refine zc call5 (oe w2 (bf hT b6)) ?_;rintro _ w3 ⟨rfl,c9⟩;refine zh ?_;refine nE 23 3 (c9) a2
 intro w3 c9;have a6:=b6.trans c9;refine zh ?_;refine zC ?_ ?_
 ·intro hc;refine zh ?_;refine zc call5 (oe w3 (bf hT a6)) ?_;rintro _ w4 ⟨rfl,d4⟩;refine zh ?_;refine ah rfl rfl (⟨rfl,a6.trans d4⟩)
 intro hc;simp only[JO,Kz,decide_eq_false_iff_not]at hc;obtain⟨⟨g3,h'⟩,_⟩:=hc;obtain⟨d8,h8⟩:=hg g3;have i4:b1.length<=12:=zo;refine zh ?_;refine zv (af (us:=[ig,kp,ru]) (ac w3 (e2.trans c9)) (isAgg25 _) (sizeOf25 _) rfl) ?_;refine zc call7 (DM li lk ts xs ig kp ru w3.heap.size (fun _=>0) w3 (ar w3) (h1.ext a6) (h2.ext a6) (h3.ext a6) h4 (fun i hi=>(h5 i hi).ext a6) d8) ?_;rintro _ w4 ⟨rv,rfl,f7,d4⟩;have b8:=a6.trans d4;refine zc call6 (nV li lk ts (xQ ig kp rv) w4 (RulesO.tx (h1.ext b8) (h2.ext b8) f7)) ?_;rintro cv w5 ⟨f3,hC⟩;have e5:=b8.trans f3;obtain⟨cs,e,rfl,c6,g7⟩:=hC.shape;refine zh ?_;refine aw (ar w5) 1 zo (K7 _) rfl ?_;intro tb w6 O6 b4 g9 i1 i3;refine bu (us:=cs.toArray) b4 (show cs.toArray.size=17 from by simpa using c6) (by rw[show cs.toArray.size=17 from by simpa using c6];exact J3 _) (by simpa using g7) rfl rfl rfl ?_;have d6:=b4.setRow (us:=cs.toArray);have a7:=(g9.trans (J6 (us:=cs.toArray) hz b4.tag rfl)).ext;generalize w6.setRow tb cs.toArray=w7 at *;have a':=e5.trans a7;have tc:∀W,JM w7 W->∀(j:Nat) (u:ix),cs[j]? = some u->W.cell? (nA tb j)=some u:=fun W e j u hu=>e.cell (d6.cellsAdd j u hu)
 have e4:JM w1 w7:=((((e2.trans c9).trans d4).trans f3).trans a7)
 rcases hC.made with⟨e',g5,hv,g8⟩|⟨a,b,d5,e6,gv,lc,rc,hM,hv,k1,k2,k3,hn⟩
 ·have g4:e=e':=by simpa using(show(Mb #[.agg cs.toArray,nI e])=.tuple #[.agg oC,nI e']from hv) |> fun h=>(by simp at h;exact h.2:e=e')
  subst g4;refine zh ?_;refine zTH rfl ((by simpa using g5)) ?_;refine ah rfl rfl (⟨rfl,a'⟩)
 have hi:=hM.inv;have kx:(ff li lk ts a b d5 e6).left.usual.length<=1000:=by rw[hi.ll];exact(eH hM.ra d5).le
 have h7:(ff li lk ts a b d5 e6).rules=(ts.length:Int):=rfl;have d1:=hi.ok;have d0:=hi.right;clear hi hM;generalize ff li lk ts a b d5 e6=t at *;have g6:cs=bn t.ig t.kp t.br t.rules gv lc rc/\e=0:=by
  simp only[Kp,KP,KF,KE,KD,and_true,true_and]at hv;simpa using hv
 obtain⟨rfl,rfl⟩:=g6;have f9:=jA d0;have kT:∀W,JM w7 W->TbW W t gv lc rc:=fun W e=>⟨k1.ext (a7.trans e),k2.ext (a7.trans e),k3.ext (a7.trans e)⟩
 refine zh ?_;refine zFH rfl rfl ?_
 refine zvH (af (us:=bn t.ig t.kp t.br t.rules gv lc rc) (tc w7 (ka _)) (Jk _) (by rw[c6];exact J3 _) rfl) ?_;refine zc call8 (vo (kT w7 (ka _)) d1 d0 kx a0 (bf hT a')) ?_
 rintro _ w8 ⟨d3,rfl⟩;have c':=a'.trans d3;obtain⟨is,f,g1,c5⟩:∃(is:Bool) (f:Int),(if 0<=a0/\a0<t.rules then Mb #[.bool (rz t a0.toNat),nI 0]else .tuple #[.bool false,nI 2])=.tuple #[.bool is,nI f]/\((0<=a0/\a0<t.rules/\is=rz t a0.toNat/\f=0)\/(¬(0<=a0/\a0<t.rules)/\is=false/\f=2)):=by
  by_cases hc:0<=a0/\a0<t.rules
  ·exact⟨_,_,if_pos hc,.inl ⟨hc.1,hc.2,rfl,rfl⟩⟩
  exact⟨_,_,if_neg hc,.inr ⟨hc,rfl,rfl⟩⟩
 rw[g1];refine zh ?_;refine zv (af (us:=bn t.ig t.kp t.br t.rules gv lc rc) (tc w8 d3) (Jk _) (by rw[c6];exact J3 _) rfl) ?_;refine zc call9 (Bu (kT w8 d3) d1 d0 kx (bf hT c')) ?_;rintro lv w9 ⟨e9,d2⟩;have b7:=c'.trans e9;have c8:=d3.trans e9;have e3:=e4.trans c8;have f8:=h3.ext b7;have h6:w9.cell? (nA xb 2)=some ru:=ac w9 e3 2 _ rfl;refine zh ?_;refine bN (fun w1=>_=w1) (decide ((xs.length:Int)<=a0)) 5 (rfl) rfl rfl rfl rfl rfl ?_ ?_
 ·intro a3;refine zh ?_;refine nE 46 6 (rfl) a3
 rintro _ rfl;refine zh ?_;refine zC ?_ ?_
 ·intro hc;have c7:¬(0<=a0/\a0<t.rules):=by simp only[KS,decide_eq_true_eq]at hc;omega
  obtain⟨rfl,rfl⟩:is=false/\f=2:=by
   rcases c5 with⟨q1,q2,_⟩|⟨_,q⟩
   ·exact absurd ⟨q1,q2⟩ c7
   exact q
  refine zh ?_;refine az (d:=55) rfl (b':=true) (rfl) ?_
  refine zh ?_;refine ah rfl rfl (⟨rfl,b7⟩)
 intro hc;have c7:0<=a0/\a0<t.rules:=by simp only[JO,decide_eq_false_iff_not]at hc;omega
 obtain⟨rfl,rfl⟩:is=rz t a0.toNat/\f=0:=by
  rcases c5 with⟨_,_,q⟩|⟨q,_⟩
  ·exact q
  exact absurd c7 q
 obtain⟨k,rfl⟩:=JE c7.1;rw[LH];obtain⟨L,hL⟩:∃L,L=lL t t.rules.toNat:=⟨_,rfl⟩
 rw[<-hL]at d2;have e8:=CQ t t.rules.toNat
 have e1:=A0 t t.rules.toNat k;rw[<-hL]at e8 e1;have h0:=d2.len_le;have g0:k<t.rules.toNat:=by have:=c7.2;omega
 have e0:L.any (fun q=>q==(k:Int)) = !rz t k:=by
  cases hb:rz t k with
  |true=>
   refine Lx.2 fun h=>?_
   obtain⟨q,hq,e⟩:=Kg.1 h;rw[beq_iff_eq]at e;subst e;rw[(e1.1 hq).2]at hb
   cases hb
  |false=>exact Kg.2 ⟨_,e1.2 ⟨g0,hb⟩,by simp⟩
 refine zh ?_;refine zlp (fun z:Nat×ln=>[(1,dv),(2,nI (k:Nat)),(7,nP tb),(9,.bool (rz t k)),(10,nI 0),(11,lv),(12,.bool ((L.take z.1).any fun q=>q==(k:Int))),(13,nI z.1)]) (fun z=>z.2) (fun z=>z.1<=L.length/\JM w9 z.2) (fun z=>L.length-z.1) (0,w9) (⟨Jq _,ka _⟩) ?_
 rintro⟨i,b0⟩ ⟨hi,a9⟩;dsimp only at hi a9 ⊢;have d7:=d2.ext a9;refine zh ?_;refine zC ?_ ?_
 ·intro hc;replace hc:i<L.length:=dT hc;have f6:(L.take (i+1)).any (fun q=>q==(k:Int))=((L.take i).any (fun q=>q==(k:Int))||nth L i==(k:Int)):=by rw[aM hc,List.any_append];simp
  have ci:b0.cell? (adr lv 1 i)=some (nI (nth L i)):=by have:=d7.cell (i:=i) (j:=0) hc rfl;rwa[ax]at this
  refine zh ?_;refine bN (fun w1=>_=w1) (nth L i==(k:Int)) 6 (rfl) rfl rfl rfl rfl rfl ?_ ?_
  ·intro a4;refine zh ?_;refine nE 66 7 (rfl) a4
  rintro _ rfl;rw[<-f6];have hE10d:=a9.trans (ka b0).drew;have b5:=d2.ext hE10d;refine zh ?_
  by_cases g2:i=0
  ·subst g2;refine M9 zk zk ?_;refine zh ?_;refine cd (d:=76) rfl (b':=false) (rfl) ?_;refine zh ?_;refine zw (bC rfl rfl) ?_;refine Mv ?_;refine zh ?_;refine zFH rfl rfl ?_;refine zxd (0+1,b0.drew) (⟨hc,hE10d⟩)
  have f':=Gz e8 (i:=i-1) zo;rw[show i-1+1=i from by omega]at f';have cj:b0.drew.cell? (adr lv 1 i)=some (nI (nth L i)):=by have:=b5.cell (i:=i) (j:=0) hc rfl;rwa[ax]at this
  have cp:b0.drew.cell? (adr lv 1 (i-1))=some (nI (nth L (i-1))):=by have:=b5.cell (i:=i-1) (j:=0) zo rfl;rwa[ax]at this
  refine M9 zk zk ?_;refine zh ?_
  refine cd (d:=76) rfl (b':=true) ((decide_eq_true zo)) ?_;refine zh ?_
  refine zwH (ai b5.sh Jj (Ju _) rfl rfl (i-1) zo zo) ?_;refine zw (bB rfl rfl) ?_
  refine Mv ?_;refine zh ?_
  refine zFH rfl ((decide_eq_false zo)) ?_;refine zxd (i+1,b0.drew) (⟨hc,hE10d⟩)
 intro hc;obtain rfl:i=L.length:=dF hc;rw[KN,e0];refine zh ?_;refine zlp (fun z:Nat×ln=>[(1,dv),(2,nI (k:Nat)),(7,nP tb),(9,.bool (rz t k)),(10,nI 0),(12,.bool (!rz t k)),(14,nI z.1)]) (fun z=>z.2) (fun z=>z.1<=b1.length+1/\JM b0 z.2) (fun z=>b1.length+1-z.1) (0,b0) (⟨Jq _,ka _⟩) ?_;rintro⟨i,b9⟩ ⟨hi,a8⟩;dsimp only at hi a8 ⊢;have a5:=(c8.trans a9).trans a8;have b3:=a'.trans a5;have d9:=hd.ext b3;refine zh ?_;refine zC ?_ ?_
 ·intro hc;replace hc:i<b1.length+1:=dT hc;refine zh ?_;refine zvH (af (us:=bn t.ig t.kp t.br t.rules gv lc rc) (tc b9 a5) (Jk _) (by rw[c6];exact J3 _) rfl) ?_;refine zc call10 (qn b9 t gv lc rc (kT b9 a5).g (kT b9 a5).l (kT b9 a5).r d1 d0 (bf hT b3) b1 dv d9 zo (i:Nat)) ?_;rintro _ e7 ⟨rfl,b2⟩;refine zh ?_
  by_cases he:iF t b1 (i:Nat)=(k:Int)
  ·have d':=zb d1 kx he;refine az (d:=100) rfl (b':=true) ((by rw[he];simp)) ?_;refine zh ?_;refine zFH rfl ((by rw[d'];rfl)) ?_;refine zxd (i+1,e7) (⟨hc,a8.trans b2⟩)
  refine az (d:=100) rfl (b':=false) ((by simpa using he)) ?_;refine zh ?_
  refine zFH rfl rfl ?_;refine zxd (i+1,e7) (⟨hc,a8.trans b2⟩)
 intro hc;refine zh ?_;refine az (d:=106) rfl (b':=true) (rfl) ?_;refine zh ?_;refine zvH (rO L1 rfl rfl) ?_;refine ah rfl rfl (⟨by simp,(b7.trans a9).trans a8⟩)
end Go.Proofs.YtjemhjcngaokpaaGreatDoor
