/- Texts that the proof of this statement needs, merged and shortened. -/
import Derived.Test.YtpfpmhhigheccaaGreatDoorQWireMeans5
open Go.VL.BlkO renaming upd->ix,drew->Jo,setRow->JF,tag->KO,set->KP,q7->KZ,q6->L0
open List renaming dropWhile_suffix->ka,mem_singleton->I2,getElem_append_right->I3,getElem_append_left->I6,length_append->I8,mem_cons->IE,getElem_cons_zero->IH,all_cons->IL,mem_append->IM,not_mem_nil->IR,pairwise_cons->J2,takeWhile_prefix->J6,all_nil->J9,all_eq_true->Je,take_of_length_le->Jg,length_pos_iff->Jq,toArray_inj->JB,eq_nil_of_length_eq_zero->JE,getElem?_eq_some_iff->JN,getElem?_append_left->JO,contains_iff_mem->JX,append_assoc->Kb,length_take->Kg,nil_append->Ko,length_map->Kp,append_nil->Kq,drop_zero->Ku,length->KI
open And renaming intro->ln
open Go.VL.WH renaming one->I0,done->IN
open Go renaming Value->I1,World->ID
open Go.VL.Upd renaming setRow->I4,set->II,trans->JT,refl->JY,lowT->JZ,drew->KW
open Go.VL.Ext renaming refl->I5
open Go.VL.Ret renaming enter->I7
open Go.Proofs.Tryz renaming sizeOf32->I9,zeroValue32->IJ,underlying9->IK,sizeOf49->IP,isAgg32->IX,zeroValue49->IY,underlying22->IZ,prog->J4,call130->J7,sizeOf86->Jj,sizeOf79->Jk,underlying42->Jn,zeroValue86->Js,isAgg49->Jw,call106->Jy,underlying25->JH,sizeOf30->JI,sizeOf25->JJ,underlying5->JP,isAgg30->JR,call103->JS,sizeOf81->JU,call38->JV,sizeOf146->K2,sizeOf3->K6,isAgg79->K7,call104->K8,zeroValue88->Ki,sizeOf47->Kj,ntmps106->Kk,isAgg86->Ky,func106->Kz,call135->KA,call134->KB,sizeOf84->KJ,zeroValue218->KQ,underlying81->KR,underlying68->KS,underlying45->KT,sizeOf5->KU,call133->KV,call23->L3
open Go.VL.WL renaming nil->IF,push->L5
open Go.VL.RV renaming move->IG,build->J1,indexAddr->Jb,extract->Ji,fieldAddr->JA,add->JG,assign->JW,len->KE,neq->KN,load->L6
open Go.VL renaming Upd->IQ,Ext->Jh,BlkO->Jp,Ret->JQ,Rng->K4,RowT->Kx,Free->KL
open Nat renaming le_of_eq->IS,zero_le->IV,le_refl->IW,sub_self->J5,div_eq_of_lt->Jf,lt_succ_self->JD,not_lt_zero->JL,pow_le_pow_right->K0,lt_of_lt_of_le->Ka,or_lt_two_pow->Kf,two_pow_pos->Kr
open Go.World renaming setCell->IT,setRow->Jt,drew->JK
open Go.Value renaming oneCell'->IU
open UInt8 renaming ofNat->J0,toNat->KD
open Go.VL.WC renaming seq->J3,region->J8,tail->Ja,skip->Kl,ret->KC,still->L1
open List.cons renaming injEq->Jc
open Go.VL.RowT renaming nil->Jd,drew->KK,upd->KM
open Go.Value.tuple renaming injEq->Jl
open Bool renaming or_eq_false_iff->Jm,not_eq_false'->K5
open Go.VL.Fit renaming i64->Jr
open Go.Value.int renaming injEq->Ju
open Go.Value.agg renaming injEq->Jv
open Go.VL.WS renaming go->Jz
open Array.mk renaming injEq->JC
open Go.Proofs.YtpfpmhhigheccaaGreatDoor renaming RightD->JM,Rd6->K9,PostC->Km,TabV->Kv,TabM->Kw,PartV->KF
open Go.Lib renaming compact->K1
open Go.VL.Rng renaming upd->Kc,drew->KX
open Or renaming inr->Kd,inl->Ke
open Go.Proofs.YtpfpmhhigheccaaGreatDoor.LR renaming bad->Kh
open Go.Addr renaming add_add->KG
open Go.Proofs.YtpfpmhhigheccaaGreatDoor.RowsT renaming push->KH
open Classical renaming byContradiction->KY
open Go.Proofs.YtpfpmhhigheccaaGreatDoor.Mac renaming upd->L2
open Go.VL.WQ renaming call->L4
set_option maxRecDepth 10000
open Go.VL Go.Proofs Go.Proofs.Tryz
namespace Go.Proofs.YtpfpmhhigheccaaGreatDoor
theorem oL{t:Kw}(h:bu t=true):t.ig<2^64/\t.kp<2^64/\t.br<2^64:=by
 have hB:=gJ h;have h1:=hB.ig;have h2:=hB.kp;have h3:=hB.br;omega
theorem qe{p:PSt}{tl:List Nat}(hB:PrtB p tl)(ht:∀x∈tl,x<2^64):(zH (xx p tl)).length<=10000000:=by
 have a1:=hB.w;have a0:=hB.t;have n1:=cK (n:=p.width.toNat) zo;have n2:=gS (CR (by have:=hB.u.1;omega) hB.u.2);have n3:=gS (CR (by have:=hB.b.1;omega) hB.b.2);have n4:=gS (Ie hB.c.1 hB.c.2);have n5:=gS (CR hB.n.1 hB.n.2);have n6:=cK (n:=tl.length) zo;have n7:=mR ht;simp only[zH,xx,I8];rw[show qs tl=dN tl.length++tl.flatMap dN from rfl,I8];omega
theorem py(t:Kw)(v:I1)(w:ID)(h:Kv w v t):JQ J4 8 [v] w fun u w'=>
  Jh w w'/\((bu t=false/\u=.tuple #[nS,nI 1])\/(bu t=true/\∃bv,u=.tuple #[bv,nI 0]/\Sl vR 1 w' bv (xR t)/\NewV w.heap.size bv)):=by
 have g4:=h;obtain⟨gv,lc,rc,rfl,a6,a5,a3⟩:=h;obtain⟨ll,lo⟩:=a5.one;obtain⟨rl,ro⟩:=a3.one;have b5:(bE t.ig t.kp t.br t.rules gv lc rc).length=17:=by simp[ll,rl]
 refine I7 func8 ntmps8 rfl rfl ?_;refine zh ?_
 refine aF (aw w) 7 zo rfl rfl ?_;intro db w1 O1 a8 e7 f8 b1;refine zh ?_
 refine zv (ah (us:=bE t.ig t.kp t.br t.rules gv lc rc) a8.cellsAdd (IX _) (by rw[b5];exact I9 _) rfl) ?_;refine zc call9 (gA t _ w1 ⟨gv,lc,rc,rfl,a6.ext b1,a5.ext b1,a3.ext b1⟩) ?_
 rintro _ w2 ⟨rfl,d6⟩;have b':=aa (S:=fun _=>False) (fun h=>h) O1 d6;refine zh ?_
 cases b3:bu t with
 |false=>
  refine zTH rfl rfl ?_;refine bB rfl rfl rfl (⟨b1.trans d6,.inl ⟨rfl,rfl⟩⟩)
 |true=>
  have hz:¬(1<=0/\0<=7):=zo;have hB:=gJ b3;obtain⟨c',c9⟩:=jt b3;obtain⟨s1,s2,s3⟩:=oL b3;have d':=hB.r;have f7:=f8.upd b';have b7:=a8.upd b' zd (fun h=>h);have c7:IQ (fun q=>1<=q/\q<=7) (fun _=>0) w O1 w2:=(e7.mono (fun _ h=>zo) hz).trans (b'.mono (fun _ h=>h.elim) hz);have fg:KL (fun _=>0) w gv:=a6.free0 (fun x=>by simp);have fl:=a5.free0;have fr:=a3.free0;refine zFH rfl rfl ?_;refine qP elW JP (zeroValue5 w2) nT hdrW f7 1 zd rfl rfl rfl rfl zk rfl rfl ?_;intro v3 w3 O3 d9 d5 f6;have a1:=b7.upd d5 zd zd;have c6:=c7.trans (d5.mono (fun _ h=>zo) hz);have k0:w3.cell? (nA db 0)=some (.int .u64 (t.ig:Int)):=a1.cell 0 rfl;have k1:w3.cell? (nA db 1)=some (.int .u64 (t.kp:Int)):=a1.cell 1 rfl;have k2:w3.cell? (nA db 2)=some (.int .u64 (t.br:Int)):=a1.cell 2 rfl;have k3:w3.cell? (nA db 3)=some (nI t.rules):=a1.cell 3 rfl;obtain⟨ns,a'⟩:∃ns:List Nat,ns=[t.rules.toNat,t.ig,t.kp,t.br]:=⟨_,rfl⟩
  have g1:ns.length=4:=by rw[a'];rfl
  have d0:∀n∈ns,n<2^64:=by
   rw[a'];intro n hn;simp only[IE,IR,or_false]at hn
   rcases hn with rfl|rfl|rfl|rfl<;>omega
  have e2:∀k,k<4->(#[.int .u64 t.rules,.int .u64 (t.ig:Int),.int .u64 (t.kp:Int),.int .u64 (t.br:Int)]:Array I1)[k]? = some (.int .u64 ((nth ns k:Nat):Int)):=fun k hk=>by
   have e:(#[.int .u64 t.rules,.int .u64 (t.ig:Int),.int .u64 (t.kp:Int),.int .u64 (t.br:Int)]:Array I1)=(ns.map fun n:Nat=>Value.int .u64 (n:Int)).toArray:=by
    rw[a'];simp only[List.map_cons,List.map_nil];rw[Int.toNat_of_nonneg d'.1]
   rw[e,List.getElem?_toArray,List.getElem?_map,List.getElem?_eq_getElem zo,aB zo];rfl
  refine zh ?_;refine zvH (dU underlying3 underlying24 rfl (Fit.u64 zo)) ?_
  refine zvH (dG (cells:=#[.int .u64 t.rules,.int .u64 (t.ig:Int),.int .u64 (t.kp:Int),.int .u64 (t.br:Int)]) KS (sizeOf24 _) (zeroValue68 _) rfl zk) ?_;refine zlp (fun z:Nat×(Nat->Nat)×World×I1=>[(1,nP db),(4,z.2.2.2),(21,.agg #[.int .u64 t.rules,.int .u64 (t.ig:Int),.int .u64 (t.kp:Int),.int .u64 (t.br:Int)]),(22,nI z.1)]) (fun z=>z.2.2.1) (fun z=>z.1<=4/\BufT nT 5 z.2.1 z.2.2.1 1 z.2.2.2 (hdrW++(ns.take z.1).flatMap dN)/\IQ (fun q=>q=1) O3 w3 z.2.1 z.2.2.1/\K4 w.heap.size z.2.1 z.2.2.1) (fun z=>4-z.1) (0,O3,w3,v3) (⟨IV _,by simpa using d9,JY zd _ _,f6⟩) ?_
  rintro⟨k,Ok,wk,vk⟩ ⟨hk,a9,b0,c8⟩;dsimp only at hk a9 b0 c8 ⊢;have e1:((ns.take k).flatMap dN).length<=40:=by
   have:=mR (xs:=ns.take k) fun x hx=>d0 x (List.mem_of_mem_take hx)
   rw[Kg]at this;omega
  have g2:hdrW.length=4:=rfl;refine zh ?_;refine zC ?_ ?_
  ·intro a4;replace a4:k<4:=dT a4;refine zh ?_;refine zvH (uZ KS (sizeOf24 _) (isAgg24 _) rfl rfl k rfl a4 (e2 k a4)) ?_;refine zc call26 (iu w.heap.size Ok wk 1 vk _ _ (nth ns k) rfl c8 a9 zd (d0 _ (aM zo)) (by rw[I8];omega)) ?_;rintro v4 w4 ⟨O4,h4,e6,f5⟩;refine zh ?_;refine zxd (k+1,O4,w4,v4) (⟨a4,by dsimp only;rw[aI zo,List.flatMap_append,List.flatMap_singleton,<-Kb];exact h4,b0.trans e6,f5⟩)
  intro e0;obtain rfl:k=4:=dF e0;rw[Jg zo]at a9 e1;have a7:=a1.upd b0 zd zd;have hU0k:=c6.trans (b0.mono (fun _ h=>zo) hz);have k4:wk.cell? (nA db 4)=some gv:=a7.cell 4 rfl;obtain⟨_,_,eg,_⟩:=a6.shape;have d1:okI 0 t.groups:=CR (by have:=hB.g.1;omega) fun n hn=>by have:=hB.g.2 n hn;omega
  have g3:=gS d1;refine zh ?_;refine gh yy (zeroValue25 wk) (fun x:I1=>[x]) [gv] c8 3 zd rfl rfl rfl rfl (by rw[eg];kernel_rfl) (by simp) rfl ?_;intro d8 w5 O5 b4 c5 f4;have h5:=a9.upd c5 zd zd;have a2:=hU0k.trans (c5.mono (fun _ h=>zo) hz);refine zc call27 (kh w.heap.size O5 w5 1 vk d8 _ 0 [gv] [t.groups] zd f4 h5 zd (by rw[I8];omega) (by simp) (by simp[d1]) (kR b4 zd zd rfl fun q hq=>by obtain rfl:q=_:=I2.1 hq;exact⟨a6.upd fg a2,fg.upd a2⟩)) ?_;rintro v6 w6 ⟨O6,h6,d4,f3⟩;have b6:=(a7.upd c5 zd zd).upd d4 zd zd;have a0:=a2.trans (d4.mono (fun _ h=>zo) hz);obtain⟨L,hL⟩:∃L,L=hdrW++ns.flatMap dN++qs (upN 0 t.groups):=⟨_,rfl⟩
  have g5:L.length<=1000000:=by rw[hL];simp only[I8];omega
  have f9:BufT nT 5 O6 w6 1 v6 L:=by rw[hL];simpa using h6
  have cl:∀O W,IQ (fun q=>1<=q/\q<=5) O6 w6 O W->(∀(j:Nat) (u:I1),lc[j]? = some u->W.cell? ((nA db 5).add j)=some u)/\∀(j:Nat) (u:I1),rc[j]? = some u->W.cell? ((nA db 11).add j)=some u:=fun O W u=>by
   have hT:=lH (t:=t) (b6.upd u zd zo) (a6.upd fg (a0.trans (u.mono (fun _ h=>zo) hz))) (a5.updF fl (a0.trans (u.mono (fun _ h=>zo) hz))) (a3.updF fr (a0.trans (u.mono (fun _ h=>zo) hz)));exact⟨hT.cl,hT.cr⟩
  have b9:IQ (fun q=>1<=q/\q<=5) O6 w6 O6 w6.drew:=aa zo O6 (I5 w6).drew;refine zh ?_;refine aL (fun W=>(∀(j:Nat) (u:I1),lc[j]? = some u->W.cell? ((nA db 5).add j)=some u)/\∀(j:Nat) (u:I1),rc[j]? = some u->W.cell? ((nA db 11).add j)=some u) 10 rfl zk ?_;refine zin (cl O6 w6.drew b9) fun zS=>?_
  refine zrm 0 rfl zS rfl ?_;refine zrf 1 rfl zS rfl ?_
  refine zt 2 rfl zS (fun w1 b2=>ah (us:=lc) b2.1 (JR _) (by rw[ll];exact JI _) rfl) ?_;refine zrf 4 rfl zS rfl ?_
  refine zt 5 rfl zS (fun w1 b2=>ah (us:=rc) b2.2 (JR _) (by rw[rl];exact JI _) rfl) ?_;have h06d:=a0.trans (b9.mono (fun _ h=>zo) hz);refine I0 3 zk rfl ?_
  refine zc call28 (rk w.heap.size O6 w6.drew v6 L lc t.left t.lt f3.drew f9.drew (a5.updF fl h06d) (fl.upd h06d) hB.l c' zo) ?_;rintro v7 w7 ⟨O7,h7,e5,e'⟩;have b8:=b9.trans e5;have d7:=a0.trans (b8.mono (fun _ h=>zo) hz);have g0:(zH (xx t.left t.lt)).length<=10000000:=qe hB.l c';have f':(zH (xx t.right t.rt)).length<=10000000:=qe hB.rt c9;refine zh ?_
  refine ae (cl O7 w7 b8) ?_;refine I0 6 zk rfl ?_
  refine zc call28 (rk w.heap.size O7 w7 v7 _ rc t.right t.rt e' h7 (a3.updF fr d7) (fr.upd d7) hB.rt c9 (by rw[I8];omega)) ?_;rintro v8 w8 ⟨O8,h8,e4,e9⟩;have d3:=b8.trans e4;refine zh ?_
  refine ae (cl O8 w8 d3) ?_;refine I0 7 zk rfl ?_
  refine zc call20 (oJ w.heap.size O8 w8 1 v8 _ e9 h8 zd (by simp only[I8];omega)) ?_;rintro v9 w9 ⟨O9,h9,e3,e8⟩;have d2:=d3.trans (e3.mono (fun _ h=>zo) zo);refine zh ?_
  refine zaf (cl O9 w9 d2) fun zS=>?_
  refine zra 8 rfl zS rfl ?_;refine zra 9 rfl zS rfl ?_
  refine IN zk ?_;refine zh ?_
  refine bB rfl rfl rfl (⟨(a0.trans (d2.mono (fun _ h=>zo) hz)).ext,.inr ⟨rfl,v9,rfl,?_,h9.newV zd e8⟩⟩);have e:L++zH (xx t.left t.lt)++zH (xx t.right t.rt)=yz t:=by
   rw[hL,a'];simp[yz,Fk,BP,Kb]
  rw[e]at h9;exact h9.sl
theorem Iv:cB J4 61 #[(0,1),(1,1)]:=⟨_,underlying61,fun w=>by kernel_rfl⟩
theorem Iu:cB J4 63 #[(0,2)]:=⟨_,underlying63,fun w=>by kernel_rfl⟩
theorem yh(B:Nat)(O:Nat->Nat)(w:ID)(i:Nat)(v:I1)(l:List UInt8)(hR:K4 B O w)(h:Sl vR 1 w v l)(hf:KL O w v)(hi:i≠0)(hl:l.length<=1000000000000):
  JQ J4 21 [v] w fun u w'=>∃O',BufT nT 5 O' w' i u l/\IQ (fun j=>j=i) O w O' w'/\K4 B O' w':=by
 have hz:¬(0=i):=fun e=>hi e.symm
 obtain⟨a,c,rfl,_,_,ha⟩:=h.shape;refine I7 func21 ntmps21 rfl rfl ?_;refine zh ?_;refine zvH (gi IZ rfl rfl) ?_
 cases a with
 |none=>
  have a4:l=[]:=JE (KY fun a3=>by obtain⟨b,o,e⟩:=ha a3;cases e);subst a4;refine zTH rfl rfl ?_;refine af rfl rfl (⟨O,⟨.inl ⟨rfl,rfl⟩,fun g hg=>by simp[Value.ownBlock]at hg⟩,JY hz _ _,hR⟩)
 |some a=>
  refine zFH rfl rfl ?_;refine kK elW vR hR i hi rfl ?_
  intro v1 w1 O1 a1 a2 a7;have h2:=h.upd hf a2;refine zh ?_;refine cF elW a1 a7 h2 rfl rfl (fun _ _=>rfl) (fun u _ c hc=>by rw[I2.1 hc];rfl) (by simp;omega) (by simp;omega) hi rfl ?_;intro v2 w2 O2 a0 a5 a6;rw[Ko]at a0;refine zh ?_;refine af rfl rfl (⟨O2,xg (val:=nT) a0,a2.trans a5,a6⟩)
theorem yf(a b:List UInt8)(av bv:I1)(w:ID)(h1:Sl vR 1 w av a)(h2:Sl vR 1 w bv b):JQ J4 19 [av,bv] w fun u w'=>u=.bool (a==b)/\w'=w:=by
 refine I7 func19 ntmps19 rfl rfl ?_;refine zh ?_
 refine zvH (kO h1 IZ JP IK rfl) ?_;refine zv (kO h2 IZ JP IK rfl) ?_
 refine zvH (cH rfl rfl) ?_;refine af rfl rfl (⟨rfl,rfl⟩)
section
variable{l l':List UInt8}{X:TbW}(h1:¬(l.length<12∨l.take 4≠hdrW))(h2:¬(mm (l.take (l.length-8))≠l))
include h1 h2
theorem Ct{b':Bool}(hS:RdS GA ((l.take (l.length-8)).drop 4) false X l' b'):AZ l=if b'=true\/l'≠[]\/bu (CN X)=false then .error 4 else .ok (CN X):=by
 unfold AZ;rw[if_neg h1,if_neg h2]
 rcases hS with⟨rfl,h|h⟩|⟨rfl,_,h⟩
 ·cases h
 ·rw[h,if_pos (.inl rfl)]
 rw[h]
 by_cases hc:l'≠[]\/bu (CN X)=false
 ·rw[if_pos (.inr hc)];dsimp only;rw[if_pos hc]
 rw[if_neg (fun e=>e.elim (fun e=>by cases e) hc)];dsimp only;rw[if_neg hc]
end
def IB(w:ID)(u:I1):Except Int Kw->Prop
 |.error e=>u=.tuple #[.agg iw,nI e]
 |.ok t=>∃tv,u=.tuple #[tv,nI 0]/\Kv w tv t
theorem pz(l:List UInt8)(v:I1)(w:ID)(h:Sl vR 1 w v l)(hl:l.length<=100000000):JQ J4 7 [v] w fun u w'=>Jh w w'/\IB w' u (AZ l):=by
 have hz:¬(1<=0/\0<=50):=zo;have fv:KL (fun _=>0) w v:=h.free0 (fun x=>by simp);refine I7 func7 ntmps7 rfl rfl ?_;refine zh ?_;refine ar (aw w) 2 zo (IJ _) rfl ?_;intro cb w1 O1 d7 f5 l2 l4;have e8:=h.ext l4;refine zh ?_;refine bK (fun w1=>_=w1) (!(l.take 4==hdrW)) 4 (rfl) rfl rfl rfl rfl rfl ?_ ?_
 ·intro a1;have m5:12<=l.length:=dF a1;have j4:Sl vR 1 w1 (bL v 1 0 4) (l.take 4):=by have:=e8.slice (lo:=0) (hi:=4) zo (zo);rwa[Ku]at this
  refine zh ?_;refine zvH (lK e8 IZ (KU _) rfl rfl 4 rfl zo) ?_
  refine zvH (kO j4 IZ JP IK rfl) ?_;refine zvH (Fb (a:=l.take 4) (b:=hdrW) rfl rfl) ?_
  refine nE 10 5 (rfl) a1
 rintro _ rfl;refine zh ?_;refine zC ?_ ?_
 ·intro hc;have e4:AZ l=.error 4:=by
   unfold AZ;rw[if_pos];rw[Bool.or_eq_true,decide_eq_true_eq,Bool.not_eq_true',beq_eq_false_iff_ne]at hc;exact hc.imp (fun h=>zo) id
  obtain⟨wX,a9⟩:∃wX,wX=w1:=⟨_,rfl⟩
  obtain⟨OX,d0⟩:∃OX,OX=O1:=⟨_,rfl⟩
  have a5:=d7;rw[<-a9,<-d0]at a5;rw[<-a9];rw[<-a9,<-d0]at f5;refine zh ?_;refine zv (J1 (cells:=iw) zJ (IJ _) rfl rfl) ?_;refine zsa (us:=iw) a5 (I9 _) ?_;have b':=a5.setRow (us:=iw);have b1:IQ (fun j=>j=2) OX wX OX (wX.setRow cb iw):=I4 zd a5.tag rfl;refine zh ?_;refine aS rfl rfl rfl (b'.cellsAdd) (IX _) (I9 _) (⟨((f5.mono (S':=fun q=>1<=q/\q<=50) (fun _ h=>zo) hz).trans (b1.mono (fun _ h=>zo) hz)).ext,by rw[e4];rfl⟩)
 intro hc;rw[Jm,decide_eq_false_iff_not,K5,beq_iff_eq]at hc;have h1:¬(l.length<12\/l.take 4≠hdrW):=fun e=>e.elim (fun e=>hc.1 zo) (fun e=>e hc.2)
 have m5:12<=l.length:=zo;have h0:=f5.mono (S':=fun q=>1<=q/\q<=50) (fun _ h=>zo) hz;obtain⟨bl,d8⟩:∃bl,bl=l.take (l.length-8):=⟨_,rfl⟩
 have j5:bl.length=l.length-8:=by rw[d8,Kg];omega
 obtain⟨bv,g4⟩:∃bv,bv=bL v 1 0 (l.length-8):=⟨_,rfl⟩
 have i8:Sl vR 1 w1 bv bl:=by have:=e8.slice (lo:=0) (hi:=l.length-8) zo (zo);rw[Ku]at this;rw[d8,g4];exact this
 have fb:KL O1 w1 bv:=by
  rw[g4];exact jz (fv.upd f5) fun _=>by obtain⟨a,c,e,_⟩:=h.shape;exact⟨a,_,c,e,zo⟩
 refine zh ?_;refine zvH (jl (v':=bv) (lK e8 IZ (KU _) rfl rfl (l.length-8) zo zo) g4.symm) ?_
 refine zc call21 (yh w.heap.size O1 w1 3 bv bl l2 i8 fb zd zo) ?_;rintro v2 w2 ⟨O2,h2,d',l0⟩;refine zc call20 (oJ w.heap.size O2 w2 3 v2 bl l0 h2 zd zo) ?_
 rintro v3 w3 ⟨O3,h3,f4,k'⟩;have a':=h0.trans ((d'.trans f4).mono (fun _ h=>zo) hz);have b5:=(d7.upd d' zd zd).upd f4 zd zd;refine zh ?_;refine zc call19 (yf (mm bl) l v3 v w3 h3.sl (h.ext a'.ext)) ?_;rintro _ w4 ⟨rfl,i6⟩;rw[i6];clear i6;refine zh ?_;refine zC ?_ ?_
 ·intro hs;have f':mm (l.take (l.length-8))≠l:=by rw[<-d8];simpa using hs
  have m4:AZ l=.error 10:=by unfold AZ;rw[if_neg h1,if_pos f']
  obtain⟨wX,a9⟩:∃wX,wX=w3:=⟨_,rfl⟩
  obtain⟨OX,d0⟩:∃OX,OX=O3:=⟨_,rfl⟩
  have a5:=b5;rw[<-a9,<-d0]at a5 a';rw[<-a9];refine zh ?_;refine zv (J1 (cells:=iw) zJ (IJ _) rfl rfl) ?_;refine zsa (us:=iw) a5 (I9 _) ?_;have b':=a5.setRow (us:=iw);have b1:IQ (fun j=>j=2) OX wX OX (wX.setRow cb iw):=I4 zd a5.tag rfl;refine zh ?_;refine aS rfl rfl rfl (b'.cellsAdd) (IX _) (I9 _) (⟨(a'.trans (b1.mono (fun _ h=>zo) hz)).ext,by rw[m4];rfl⟩)
 intro hs;have f':¬(mm (l.take (l.length-8))≠l):=by rw[<-d8];simpa using hs
 have f9:Sl vR 1 w3 bv bl:=(i8.upd fb d').upd (fb.upd d') f4;have f3:KL O3 w3 bv:=(fb.upd d').upd f4;obtain⟨sv,f8⟩:∃sv,sv=bL bv 1 4 bl.length:=⟨_,rfl⟩
 have i7:Sl vR 1 w3 sv (bl.drop 4):=by have:=f9.slice (lo:=4) (hi:=bl.length) zo (IW _);rw[List.take_length]at this;rw[f8];exact this
 have j1:KL O3 w3 sv:=by
  rw[f8];exact jz f3 fun _=>by obtain⟨a,c,e,_⟩:=f9.shape;exact⟨a,_,c,e,zo⟩
 have o0:=i7.one;have i':=b5;refine zh ?_;refine zv (jl (v':=sv) (iS f9 IZ (KU _) rfl rfl 4 rfl zo) f8.symm) ?_;refine zv (aE (cells:=#[sv,.bool false]) Iv (zeroValue61 _) rfl (by simp only[IL,o0,J9];rfl) rfl rfl) ?_;refine zv (J1 (cells:=#[sv,.bool false]) Iu (zeroValue63 _) rfl zk) ?_;refine aF k' 1 zo rfl rfl ?_;intro rb w5 O5 g0 e' k9 n2;have h5:RdO O5 w5 rb (bl.drop 4) false:=⟨sv,g0,i7.upd j1 e',j1.upd e'⟩
 have g':=a'.trans (e'.mono (fun _ h=>zo) hz);have g3:=b5.upd e' zd zd;refine zh ?_;refine zc call22 (eT w.heap.size O5 w5 rb _ _ k9 h5) ?_;rintro _ w6 ⟨ru,l6,b6,rfl,m9,k4,h6,j',k8⟩;refine zh ?_;refine zc L3 (iA w.heap.size O5 w6 rb _ _ k8 h6) ?_;rintro _ w7 ⟨ig,l7,b7,rfl,n0,k3,h7,j9,k7⟩;refine zh ?_;refine zc L3 (iA w.heap.size O5 w7 rb _ _ k7 h7) ?_;rintro _ w8 ⟨kp,l8,b8,rfl,m',k2,h8,j8,k6⟩;refine zh ?_;refine zc L3 (iA w.heap.size O5 w8 rb _ _ k6 h8) ?_;rintro _ w9 ⟨br,l9,b9,rfl,n1,k1,h9,j7,k5⟩;have d9:=((j'.trans j9).trans j8).trans j7;have g9:=g'.trans (d9.mono (fun _ h=>zo) hz);have g2:=g3.upd d9 zd zd;refine zh ?_;refine zc call24 (gI w.heap.size O5 w9 rb 20 _ _ 0 zd zd k5 h9) ?_;rintro gv j3 ⟨gs,m8,n4,O10,g1,i0,m3,g8,i3⟩;refine zh ?_;refine zc call25 (rK w.heap.size O10 j3 rb 30 _ _ zd i3 m3) ?_;rintro _ j2 ⟨lc,L,m7,n3,O11,rfl,i4,h',m2,e0,i2⟩;refine zh ?_;refine zc call25 (rK w.heap.size O11 j2 rb 40 _ _ zd i2 m2) ?_;rintro _ m6 ⟨rc,R,f7,i5,O12,rfl,a8,h4,l',c7,i1⟩;have b2:=((g8.mono (S':=fun q=>q=1\/20<=q/\q<=50) (fun _ h=>zo) zo).trans (e0.mono (fun _ h=>zo) zo)).trans (c7.mono (fun _ h=>zo) zo);have e5:=g9.trans (b2.mono (fun _ h=>zo) hz);have d6:=g2.upd b2 zd zo;have b3:=(g1.upd e0 zd zo).upd c7 zd zo;have c8:=i4.upd c7 zd (fun j h1 h2=>zo);have hS:=k4.seq (k3.seq (k2.seq (k1.seq (i0.seq (h'.seq h4)))));have pl:=c8.partV;have pr:=a8.partV;obtain⟨ll,lo⟩:=pl.one
 obtain⟨rl,ro⟩:=pr.one;rw[d8]at hS;have e9:=Ct h1 f' hS;obtain⟨X,hX⟩:∃X:TbW,X=(ru,(ig,(kp,(br,(gs,(L,R)))))):=⟨_,rfl⟩
 rw[<-hX]at e9;obtain⟨T,hT⟩:∃T,T=CN X:=⟨_,rfl⟩
 have j0:T=⟨ig,kp,br,(ru:Int),dnN 0 gs,Dz L,L.2.2.2.2.2,Dz R,R.2.2.2.2.2⟩:=by rw[hT,hX];rfl
 rw[<-hT]at e9;have a0:(bE ig kp br (ru:Int) gv lc rc).length=17:=by simp[ll,rl]
 have og:=b3.one;have d2:(bE ig kp br (ru:Int) gv lc rc).all IU=true:=by
  refine Je.2 fun x hx=>?_
  rcases IM.1 hx with hx|hx
  ·rcases IM.1 hx with hx|hx
   ·simp only[IE,IR,or_false]at hx
    rcases hx with rfl|rfl|rfl|rfl|rfl<;>first|rfl|exact og
   exact lo x hx
  exact ro x hx
 refine zv (J1 (cells:=(bE ig kp br (ru:Int) gv lc rc).toArray) zJ (IJ _) rfl (by obtain⟨_,_,eg,_⟩:=b3.sl.shape;obtain⟨_,_,_,_,_,e1,_⟩:=c8.ex;obtain⟨_,_,_,_,_,e2,_⟩:=a8.ex;rw[eg,e1,e2];kernel_rfl)) ?_;refine ar i1 4 zo (IJ _) rfl ?_
 intro tb f6 O13 a6 g7 l1 l3;refine aZ (us:=(bE ig kp br (ru:Int) gv lc rc).toArray) a6 (show(bE ig kp br (ru:Int) gv lc rc).toArray.size=17 from by simpa using a0) (by rw[show(bE ig kp br (ru:Int) gv lc rc).toArray.size=17 from by simpa using a0];exact I9 _) d2 rfl rfl rfl ?_;have d1:=a6.setRow (us:=(bE ig kp br (ru:Int) gv lc rc).toArray);have g6:IQ (fun j=>j=4) O13 f6 O13 (f6.setRow tb (bE ig kp br (ru:Int) gv lc rc).toArray):=I4 zd a6.tag rfl;generalize f6.setRow tb (bE ig kp br (ru:Int) gv lc rc).toArray=w14 at *;have c':=g7.trans g6;have e3:=e5.trans (c'.mono (fun _ h=>zo) hz);have l5:=l'.upd c' zd;have d5:=d6.upd c' zd zd;have d3:=b3.upd c' zd zd;have e7:=c8.upd c' zd (fun j h1 h2=>zo);have e6:=a8.upd c' zd (fun j h1 h2=>zo);have k0:∀W,Jh w14 W->Kv W (.agg (bE ig kp br (ru:Int) gv lc rc).toArray) T:=fun W e=>by
  rw[j0];exact⟨gv,lc,rc,rfl,d3.sl.ext e,e7.partV.ext e,e6.partV.ext e⟩
 obtain⟨rv,r1,r2,r3⟩:=l5.ex;have m0:w14.cell? ((nA rb 0).add 0)=some rv:=r1.cell 0 rfl;have m1:w14.cell? ((nA rb 0).add 1)=some (.bool i5):=r1.cell 1 rfl;have i9:∀W,Jh w14 W->∀(j:Nat) (u:I1),(bE ig kp br (ru:Int) gv lc rc)[j]? = some u->W.cell? (nA tb j)=some u:=fun W e j u hu=>e.cell (by simpa using d1.cellsAdd j u (by simpa using hu))
 refine zh ?_;refine bK (fun w1=>_=w1) (decide ((0:Int)<(f7.length:Int))) 7 (rfl) rfl rfl rfl rfl rfl ?_ ?_
 ·intro a2;refine zh ?_;refine nE 54 8 (rfl) a2
 rintro _ rfl;refine zh ?_;refine bK (Jh w14) (!(bu T)) 3 (I5 w14) rfl rfl rfl rfl rfl ?_ ?_
 ·intro a3;refine zh ?_;refine zvH (ah (us:=bE ig kp br (ru:Int) gv lc rc) (i9 w14 (I5 _)) (IX _) (by rw[a0];exact I9 _) rfl) ?_;refine zc call9 (gA T _ w14 (k0 w14 (I5 _))) ?_;rintro _ c9 ⟨rfl,b0⟩;refine zh ?_;refine nE 63 4 (b0) a3
 intro c9 b0;have c5:=aa (S:=fun _=>False) (fun h=>h) O13 b0;have a4:=d5.upd c5 zd (fun h=>h);have a7:=e3.trans (c5.mono (fun _ h=>h.elim) hz);have d4:((i5||decide ((0:Int)<(f7.length:Int))) || !(bu T))=decide (i5=true\/f7≠[]\/bu T=false):=by
  rw[Bool.eq_iff_iff];simp[Jq,or_assoc]
 refine zh ?_;rw[d4];refine zC ?_ ?_
 ·intro hc;have b4:AZ l=.error 4:=by rw[e9,if_pos (of_decide_eq_true hc)]
  obtain⟨wX,a9⟩:∃wX,wX=c9:=⟨_,rfl⟩
  obtain⟨OX,d0⟩:∃OX,OX=O13:=⟨_,rfl⟩
  have a5:=a4;rw[<-a9,<-d0]at a5 a7;rw[<-a9];refine zh ?_;refine zv (J1 (cells:=iw) zJ (IJ _) rfl rfl) ?_;refine zsa (us:=iw) a5 (I9 _) ?_;have b':=a5.setRow (us:=iw);have b1:IQ (fun j=>j=2) OX wX OX (wX.setRow cb iw):=I4 zd a5.tag rfl;refine zh ?_;refine aS rfl rfl rfl (b'.cellsAdd) (IX _) (I9 _) (⟨(a7.trans (b1.mono (fun _ h=>zo) hz)).ext,by rw[b4];rfl⟩)
 intro hc;have b4:AZ l=.ok T:=by rw[e9,if_neg (of_decide_eq_false hc)]
 refine zh ?_;refine zv (ah (us:=bE ig kp br (ru:Int) gv lc rc) (i9 c9 b0) (IX _) (by rw[a0];exact I9 _) rfl) ?_
 refine aZ (us:=(bE ig kp br (ru:Int) gv lc rc).toArray) a4 (show(bE ig kp br (ru:Int) gv lc rc).toArray.size=17 from by simpa using a0) (by rw[show(bE ig kp br (ru:Int) gv lc rc).toArray.size=17 from by simpa using a0];exact I9 _) d2 rfl rfl rfl ?_;have b':=a4.setRow (us:=(bE ig kp br (ru:Int) gv lc rc).toArray);have b1:IQ (fun j=>j=2) O13 c9 O13 (c9.setRow cb (bE ig kp br (ru:Int) gv lc rc).toArray):=I4 zd a4.tag rfl;generalize c9.setRow cb (bE ig kp br (ru:Int) gv lc rc).toArray=w16 at *;have c6:=c5.mono (S':=fun j=>j=2) (fun _ h=>h.elim) zd;have g5:=c6.trans b1;have j6:=a7.trans (b1.mono (fun _ h=>zo) hz);refine zh ?_
 refine aS (us:=bE ig kp br (ru:Int) gv lc rc) rfl rfl rfl (fun j u hu=>by simpa using b'.cellsAdd j u (by simpa using hu)) (IX _) (by rw[a0];exact I9 _) ⟨j6.ext,by rw[b4];refine⟨_,rfl,?_⟩;rw[j0];exact⟨gv,lc,rc,rfl,(d3.upd g5 zd zd).sl,(e7.upd g5 zd (fun j h1 h2=>zo)).partV,(e6.upd g5 zd (fun j h1 h2=>zo)).partV⟩⟩
abbrev G9(n:Nat):I1:=.int .u64 (n:Int)
theorem xQ(la lb:List Nat)(av bv:I1)(w:ID)(ha:Sl (fun x:Nat => [G9 x]) 1 w av la)(hb:Sl (fun x:Nat => [G9 x]) 1 w bv lb):
    JQ J4 68 [av, bv] w fun v w' => v = .bool (la == lb) ∧ Jh w w' := by
  have hal := ha.len_le
  refine I7 func68 ntmps68 rfl rfl ?_
  refine zh ?_
  refine zC ?_ ?_
  · intro hne
    refine zh ?_
    refine af rfl rfl (⟨?_, I5 _⟩)
    have:la ≠ lb := fun e => by subst e; simp at hne
    simpa using this.symm ∘ Eq.symm
  · intro heq
    replace heq : la.length = lb.length := by have : (la.length : Int) = lb.length := by simpa using heq
                                              omega
    refine zh ?_
    refine zlp (fun x:Nat×ID => [(0, av), (1, bv), (12, .int .i64 la.length), (13, .int .i64 x.1)]) (fun x => x.2) (fun x => x.1 ≤ la.length ∧ Jh w x.2 ∧ la.take x.1 = lb.take x.1) (fun x => la.length - x.1) (0, w) (⟨IV _, I5 _, rfl⟩) ?_
    rintro⟨k, w1⟩ ⟨hk, hE, htk⟩
    dsimp only at hk hE htk ⊢
    have ha1 := ha.ext hE
    have hb1 := hb.ext hE
    refine zh ?_
    refine zC ?_ ?_
    · intro hlt
      replace hlt:k < la.length := by have := of_decide_eq_true hlt; omega
      refine zh ?_
      refine L1 (by kernel_rfl) (by kernel_rfl) ?_
      refine zh ?_
      refine zwH (RV.ld (by first | exact ha1.ld (by omega) | exact hb1.ld (by omega)) rfl) ?_
      refine zwH (RV.ld (by first | exact ha1.ld (by omega) | exact hb1.ld (by omega)) rfl) ?_
      refine WS.nil ?_
      refine zh ?_
      refine zC ?_ ?_
      · intro hne
        refine zh ?_
        refine af rfl rfl (⟨?_, hE.drew⟩)
        have:la ≠ lb := fun e => by subst e; simp at hne
        simpa using this
      · intro hee
        refine zh ?_
        refine zxd (k + 1, w1.drew) (⟨hlt, hE.drew, by rw[aI hlt, aI (by omega:k < lb.length), htk]; first | simpa using hee | (simp at hee; simp; omega)⟩)
    · intro hge
      replace hge:la.length ≤ k := by have := of_decide_eq_false hge; omega
      refine zh ?_
      refine af rfl rfl (⟨?_, hE⟩)
      rw[Jg hge, Jg (by omega)]at htk
      simp[htk]
theorem lO(p:PSt)(tl:List Nat)(cs a3:List I1)(w:ID)(h:KF w cs p tl)(h':KF w a3 p tl):
  JQ J4 40 [.agg cs.toArray,.agg a3.toArray] w fun u w'=>u=.bool true/\Jh w w':=by
 obtain⟨u1,b1,k1,n1,t1,rfl,a6,b5,b3,a',a8⟩:=h;obtain⟨u2,b2,k2,n2,t2,rfl,a5,b4,b0,a9,a7⟩:=h';refine I7 func40 ntmps40 rfl rfl ?_;refine zh ?_;refine aF (aw w) 1 zo rfl rfl ?_;intro x1 w1 O1 a4 c6 b7 c5;refine aF b7 2 zo rfl rfl ?_;intro x2 w2 O2 a2 b6 c7 b9;have a0:=a4.upd b6 zd zd;have hE:=c5.trans b9
 have c1:∀j u,[nI p.width,u1,b1,k1,n1][j]? = some u->w2.cell? ((nA x1 0).add j)=some u:=fun j u hu=>a0.cellsAdd j u (by
  have hj:=(JN.1 hu).1;show([nI p.width,u1,b1,k1,n1]++[t1])[j]? = _
  rw[JO hj];exact hu)
 have c2:∀j u,[nI p.width,u2,b2,k2,n2][j]? = some u->w2.cell? ((nA x2 0).add j)=some u:=fun j u hu=>a2.cellsAdd j u (by
  have hj:=(JN.1 hu).1;show([nI p.width,u2,b2,k2,n2]++[t2])[j]? = _
  rw[JO hj];exact hu)
 refine zh ?_;refine zvH (ah (us:=[nI p.width,u1,b1,k1,n1]) c1 (isAgg27 _) (sizeOf27 _) rfl) ?_
 refine zv (ah (us:=[nI p.width,u2,b2,k2,n2]) c2 (isAgg27 _) (sizeOf27 _) rfl) ?_;refine zc call67 (zG p p _ _ w2 ⟨u1,b1,k1,n1,rfl,a6.ext hE,b5.ext hE,b3.ext hE,a'.ext hE⟩ ⟨u2,b2,k2,n2,rfl,a5.ext hE,b4.ext hE,b0.ext hE,a9.ext hE⟩) ?_
 rintro _ w3 ⟨rfl,a1⟩;rw[qV];have d1:w3.cell? (nA x1 5)=some t1:=a1.cell (a0.cell 5 rfl);have d2:w3.cell? (nA x2 5)=some t2:=a1.cell (a2.cell 5 rfl);refine zh ?_;refine au (d:=10) rfl (b':=true) (rfl) ?_;refine zh ?_;refine zc call68 (xQ tl tl t1 t2 w3 (a8.ext (hE.trans a1)) (a7.ext (hE.trans a1))) ?_;rintro _ w4 ⟨rfl,b8⟩;refine zh ?_;refine af rfl rfl (⟨by simp,(hE.trans a1).trans b8⟩)
theorem tM(t:Kw)(v v':I1)(w:ID)(h:Kv w v t)(h':Kv w v' t):JQ J4 16 [v,v'] w fun u w'=>u=.bool true/\Jh w w':=by
 obtain⟨g1,l1,r1,rfl,b0,a7,a5⟩:=h;obtain⟨g2,l2,r2,rfl,a',a6,a4⟩:=h';refine I7 func16 ntmps16 rfl rfl ?_;refine zh ?_;refine aF (aw w) 1 zo rfl rfl ?_;intro x1 w1 O1 a9 b8 b4 b7;refine aF b4 2 zo rfl rfl ?_;intro x2 w2 O2 a8 b3 b9 b6;have hE:=b7.trans b6;have T1:=lH (t:=t) (a9.upd b3 zd zd) (b0.ext hE) (a7.ext hE) (a5.ext hE);have T2:=lH (t:=t) a8 (a'.ext hE) (a6.ext hE) (a4.ext hE);refine zh ?_;refine zvH (RV.ld (by first|exact T1.c0|exact T2.c0) rfl) ?_;refine zvH (RV.ld (by first|exact T1.c0|exact T2.c0) rfl) ?_;refine au (d:=10) rfl (b':=true) ((by simp)) ?_;refine zh ?_;refine zvH (RV.ld (by first|exact T1.c1|exact T2.c1) rfl) ?_;refine zvH (RV.ld (by first|exact T1.c1|exact T2.c1) rfl) ?_;refine au (d:=17) rfl (b':=true) ((by simp)) ?_;refine zh ?_;refine zvH (RV.ld (by first|exact T1.c2|exact T2.c2) rfl) ?_;refine zvH (RV.ld (by first|exact T1.c2|exact T2.c2) rfl) ?_;refine au (d:=24) rfl (b':=true) ((by simp)) ?_;refine zh ?_;refine zvH (RV.ld (by first|exact T1.c3|exact T2.c3) rfl) ?_;refine zvH (RV.ld (by first|exact T1.c3|exact T2.c3) rfl) ?_;refine au (d:=31) rfl (b':=true) ((by simp)) ?_;refine zh ?_;refine zvH (RV.ld (by first|exact T1.c4|exact T2.c4) rfl) ?_;refine zvH (RV.ld (by first|exact T1.c4|exact T2.c4) rfl) ?_;refine zc call39 (fh t.groups t.groups g1 g2 w2 T1.groups T2.groups) ?_;rintro _ w3 ⟨rfl,a3⟩;have T3:=T1.ext a3;have S3:=T2.ext a3;have a1:=T3.cl;have a2:=S3.cl
 refine zh ?_;refine au (d:=38) rfl (b':=true) ((by simp)) ?_
 refine zh ?_;refine zvH (ah (us:=l1) a1 (JR _) (by rw[a7.one.1];exact JI _) rfl) ?_
 refine zvH (ah (us:=l2) a2 (JR _) (by rw[a6.one.1];exact JI _) rfl) ?_;refine zc call40 (lO t.left t.lt l1 l2 w3 T3.left S3.left) ?_
 rintro _ w4 ⟨rfl,a0⟩;have T4:=T3.ext a0;have S4:=S3.ext a0;have b1:=T4.cr;have b2:=S4.cr;refine zh ?_;refine au (d:=45) rfl (b':=true) (rfl) ?_;refine zh ?_;refine zvH (ah (us:=r1) b1 (JR _) (by rw[a5.one.1];exact JI _) rfl) ?_;refine zvH (ah (us:=r2) b2 (JR _) (by rw[a4.one.1];exact JI _) rfl) ?_;refine zc call40 (lO t.right t.rt r1 r2 w4 T4.right S4.right) ?_;rintro _ w5 ⟨rfl,b5⟩;refine zh ?_;refine af rfl rfl (⟨rfl,((hE.trans a3).trans a0).trans b5⟩)
theorem qK(ts:List R3):∀i,jD ts i<2^i
 |0=>by unfold jD;decide
 |i+1=>by
  have h1:jD ts i<2^(i+1):=Ka (qK ts i) (K0 zd (Nat.le_succ i));unfold jD
  split
  ·exact Kf h1 (Nat.pow_lt_pow_right zd (JD i))
  exact h1
theorem BA{g:Gr}{n:Nat}(he:∀k,g.en k<=n)(s:List Int):dJ g s<2^n:=by
 have a0:∀(s:List Int) (b:Nat),b<2^n->s.foldl (fun b p=>b ||| nU g p.toNat) b<2^n:=fun s=>by
  induction s with
  |nil=>exact fun b hb=>hb
  |cons p s ih=>exact fun b hb=>ih _ (Kf hb (jL he _ 0 (Kr n)))
 exact a0 s 0 (Kr n)
theorem rD{se:Bool}{ts:List Nd}{d:List (List Nat)×List Nat}(h:stM se ts=some d):∀q∈d.2,q<2^ts.length:=fun q hq=>by
 unfold stM at h
 split at h
 ·obtain⟨S,hS⟩:=sQ h;obtain⟨j,hj,rfl⟩:=IC hq;rw[hS.tel j (by rw[<-hS.tl];exact hj)];exact BA (zR ts) _
 cases h
theorem mT{rows:List (List Nat)}{a0:List Nat}(hr:JM rows a0)(cl:Nat->Nat){n:Nat}(h:∀q∈a0,q<2^n):∀q∈(cL cl rows a0).2,q<2^n:=fun q hq=>by
 obtain⟨F,hF⟩:=jx (cl:=cl) (tl:=nth a0) hr.nx (rows.length+1) 0 [0] [] [] (qW hr.pos) zo;obtain⟨j,hj,rfl⟩:=IC hq;have a1:j<F.length:=by have:=hF.tln;change j<(fe _ _ _ _ _ _ _ _).2.length at hj;omega
 have ht:nth (cL cl rows a0).2 j=nth a0 (nth F j):=hF.tel j a1;rw[ht];have:=hF.reps.lt _ (aM a1);exact h _ (aM (by rw[hr.tl];exact this))
theorem Da{a b:Nat}(ha:a<65536)(hb:b<65536)(h1:J0 (a / 256)=J0 (b / 256))(h2:J0 (a % 256)=J0 (b % 256)):a=b:=by
 have e1:=congrArg KD h1;have e2:=congrArg KD h2;simp only[UInt8.toNat_ofNat']at e1 e2;omega
theorem uI{i j:Nat}:∀(rows:List (List Nat)),(∀r∈rows,nth r i<65536/\nth r j<65536)->pC rows i=pC rows j->∀r∈rows,nth r i=nth r j
 |[],_,_=>fun r hr=>by cases hr
 |a::l,h,he=>by
  have e:[J0 (nth a i / 256),J0 (nth a i % 256)]++pC l i=[J0 (nth a j / 256),J0 (nth a j % 256)]++pC l j:=he;simp only[List.cons_append,Ko,Jc]at e;obtain⟨e1,e2,e3⟩:=e;have ha:=h a (by simp);intro r hr
  rcases IE.1 hr with rfl|hr
  ·exact Da ha.1 ha.2 e1 e2
  exact uI l (fun r hr=>h r (by simp[hr])) e3 r hr
theorem Cu{A B:List (List Nat)}{i j:Nat}(hA:∀r∈A,nth r i<65536/\nth r j<65536)(hB:∀r∈B,nth r i<65536/\nth r j<65536)(h:nu [A,B] i=nu [A,B] j):(∀r∈A,nth r i=nth r j)/\∀r∈B,nth r i=nth r j:=by
 have h:pC A i++(pC B i++[])=pC A j++(pC B j++[]):=h;rw[Kq,Kq]at h;obtain⟨h1,h2⟩:=List.append_inj h (by rw[kG,kG]);exact⟨uI A hA h1,uI B hB h2⟩
structure PartI(g:List Nat)(many n:Nat)(rows:List (List Nat))(p:PSt):Prop where
 right:cN p=true
 us:p.usual.length=rows.length
 wd:p.width=(many:Int)
 get:∀r,r<rows.length->∀c,c<37->getM p r (nth g c)=((nxD rows r c:Nat):Int)
 lo:∀r,r<rows.length->∀k,k<many->0<=getM p r k/\getM p r k<rows.length
theorem vu{g:List Nat}{many:Nat}(hg:GrpI g many){rows:List (List Nat)}{a6:List Nat}(hr:JM rows a6)(hc:∀i j,i<37->j<37->nth g i=nth g j->∀r∈rows,nth r i=nth r j):PartI g many rows.length rows (dk g many rows):=by
 have a2:=oK hg hr;have a8:=hg.le;have a7:(jU g many rows).length=rows.length:=by simp[jU]
 have a5:∀r,r<rows.length->nth (jU g many rows) r=ints (oe g many (nth rows r)):=fun r a0=>by
  unfold jU;rw[ei (by simpa using a0),ei a0]
 have a3:∀r,r<rows.length->(nth (jU g many rows) r).length=many:=fun r a0=>by rw[a5 r a0];simp[mA]
 obtain⟨s1,_,_,_,s5,_⟩:=oM (many:Int) (jU g many rows) (fun r a0=>by
  obtain⟨j,hj,rfl⟩:=IC a0
  rw[a3 j zo];omega)
 have a1:∀r,r<rows.length->∀k,k<many->getM (dk g many rows) r k=((nth (oe g many (nth rows r)) k:Nat):Int):=fun r a0 k hk=>by
  unfold dk;rw[Az _ _ r k zo (by rw[a3 r a0];exact hk),a5 r a0,ei (by rw[mA];exact hk)]
 refine⟨tT _ _ a2,by show(kZ _ _).usual.length=_;rw[s1];simpa using a7,s5,fun r a0 c a4=>?_,fun r a0 k hk=>?_⟩
 ·rw[a1 r a0 _ (hg.lt c a4),ui hg (fun i j hi hj e=>hc i j hi hj e _ (aM a0)) a4];rfl
 rw[a1 r a0 k hk];obtain⟨i,hi,rfl⟩:=hg.hit k hk;rw[ui hg (fun i j hi hj e=>hc i j hi hj e _ (aM a0)) hi];have:=(hr.row r a0).2 i hi;omega
theorem DO{l:List Int}{n:Int}(h:∀x∈l,x<n)(h0:nth l 0<n):DP l<n:=by
 have a0:∀(l:List Int) (m:Int),(∀x∈l,x<n)->m<n->l.foldl max m<n:=fun l=>by
  induction l with
  |nil=>exact fun m _ hm=>hm
  |cons a l ih=>exact fun m h hm=>ih _ (fun x hx=>h x (by simp[hx])) (by have:=h a (by simp);omega)
 exact a0 l _ h h0
theorem vP{g:List Nat}{many n a0:Nat}{rows:List (List Nat)}{a5:List Nat}{p:PSt}(hp:PartI g many n rows p)(hm:1<=many)(hr:JM rows a5)(ht:∀q∈a5,q<2^a0):gx p a5 many a0=true:=by
 obtain⟨f1,f2⟩:=lz p;have a9:=hr.pos;have a8:=hr.tl;have a7:=hp.us;unfold gx;rw[hp.right,hp.wd,f1,a7,a8];have a1:iY (fun i=>!(nth a5 i / 2^a0==0)) rows.length=false:=bY.2 fun i hi=>by
  rw[Jf (ht _ (aM zo))];rfl
 have a2:iY (fun i=>decide (((rows.length:Nat):Int)<=DP (nth (fM p) i))) rows.length=false:=bY.2 fun i hi=>by
  have a3:nth (fM p) i=Bu p i:=by unfold fM;rw[fQ _ _ _ zo]
  have a6:p.width.toNat=many:=by rw[hp.wd];rfl
  have a4:∀k,k<many->nth (Bu p i) k<rows.length:=fun k hk=>by
   unfold Bu;rw[a6,aB (xs:=List.map (getM p i) (List.range many)) (by simpa using hk),List.getElem_map,List.getElem_range];exact(hp.lo i hi k hk).2
  refine decide_eq_false (Int.not_le.2 (DO (fun x hx=>?_) ?_))
  ·rw[a3]at hx;obtain⟨k,hk,rfl⟩:=IC hx;exact a4 k (by unfold Bu at hk;rw[a6]at hk;simpa using hk)
  rw[a3];exact a4 0 hm
 have h0:(rows.length==0)=false:=beq_eq_false_iff_ne.2 zo;rw[a1,a2,h0];simp
structure TabI(t:Kw)(A B:List (List Nat)×List Nat):Prop where
 right:bu t=true
 ok:OkT t
 left:∀r c,r<A.1.length->c<37->stL t r c=nxD A.1 r c
 rght:∀r c,r<B.1.length->c<37->stR t r c=nxD B.1 r c
 ll:t.left.usual.length=A.1.length
 rl:t.right.usual.length=B.1.length
theorem Dd{li lk:List Int}{ts:List R3}{A B:List (List Nat)×List Nat}(a8:eE li lk ts=true)(hA:JM A.1 A.2)(hB:JM B.1 B.2)(tA:∀q∈A.2,q<2^ts.length)(tB:∀q∈B.2,q<2^ts.length):TabI (mF li lk ts A B) A B:=by
 obtain⟨r1,r2,r3,r4⟩:=lQ a8;obtain⟨many,hg,a5⟩:=pc [A.1,B.1];have a2:=hg.pos;have b0:=hg.le;have a4:=hg.len;have a3:∀ {rows:List (List Nat)} {a7:List Nat},JM rows a7->∀i,i<37->∀r∈rows,nth r i<65536:=fun {rows a7} h i hi r hr=>by
  obtain⟨j,hj,rfl⟩:=IC hr;have h1:=(h.row j hj).2 i hi;have h2:=h.le;omega
 have hc:∀i j,i<37->j<37->nth (bD [A.1,B.1]) i=nth (bD [A.1,B.1]) j->(∀r∈A.1,nth r i=nth r j)/\∀r∈B.1,nth r i=nth r j:=fun i j hi hj e=>
  Cu (fun r hr=>⟨a3 hA i hi r hr,a3 hA j hj r hr⟩) (fun r hr=>⟨a3 hB i hi r hr,a3 hB j hj r hr⟩) ((a5 i j hi hj).1 e)
 have a1:=hg.cnt;have iL:=vu hg hA (fun i j hi hj e=>(hc i j hi hj e).1);have iR:=vu hg hB (fun i j hi hj e=>(hc i j hi hj e).2);have fL:=vP iL a2 hA tA;have fR:=vP iR a2 hB tB;have e1:(mF li lk ts A B).left=dk (bD [A.1,B.1]) many A.1:=by rw[ry,a1]
 have e2:(mF li lk ts A B).right=dk (bD [A.1,B.1]) many B.1:=by rw[oF,a1]
 have e3:(mF li lk ts A B).groups=ints (bD [A.1,B.1]):=rfl;have gr:∀c,c<37->nth (mF li lk ts A B).groups c=((nth (bD [A.1,B.1]) c:Nat):Int):=fun c hc=>by rw[e3,ei zo]
 have gt:∀c,c<37->grT (mF li lk ts A B) c=nth (bD [A.1,B.1]) c:=fun c hc=>by unfold grT;rw[gr c hc];rfl
 have a6:∀q:Nat,q<2^ts.length->q<2^40:=fun q hq=>Ka hq (K0 zd r1)
 have a':=hA.tl;have a9:=hB.tl;have pA:=hA.pos;have pB:=hB.pos;refine⟨?_,⟨okP _ (by rw[e1];exact iL.right),okP _ (by rw[e2];exact iR.right),by rw[e3];simpa using a4,fun c a0=>?_,by rw[e1,iL.us];exact a',by rw[e2,iR.us];exact a9,by rw[e1,iL.us];exact pA,by rw[e2,iR.us];exact pB,fun r c hr a0=>?_,fun r c hr a0=>?_,mJ r2,mJ r3,a6 _ (qK ts _),fun q hq=>a6 q (tA q hq),fun q hq=>a6 q (tB q hq)⟩,fun r c hr a0=>?_,fun r c hr a0=>?_,by rw[e1,iL.us],by rw[e2,iR.us]⟩
 ·unfold bu;have q1:(mF li lk ts A B).ig / 2^36=0:=Jf (mJ r2);have q2:(mF li lk ts A B).kp / 2^36=0:=Jf (mJ r3);have q3:(mF li lk ts A B).rules.toNat=ts.length:=rfl;have q4:(mF li lk ts A B).br / 2^ts.length=0:=Jf (qK ts _);have q5:fX (mF li lk ts A B).groups=many:=by rw[e3,a1]
  have q6:(mF li lk ts A B).rules=(ts.length:Int):=rfl;rw[q1,q2,q3,q4,q5,q6,e1,e2,yS,yR,fL,fR,decide_eq_false zo,decide_eq_false zo,beq_eq_false_iff_ne.2 zo];rfl
 ·rw[gr c a0];have:=hg.lt c a0;omega
 ·rw[e1]at hr ⊢;rw[iL.us]at hr ⊢;rw[gt c a0,iL.get r hr c a0];have:=(hA.row r hr).2 c a0;unfold nxD;omega
 ·rw[e2]at hr ⊢;rw[iR.us]at hr ⊢;rw[gt c a0,iR.get r hr c a0];have:=(hB.row r hr).2 c a0;unfold nxD;omega
 ·unfold stL;rw[e1,gt c a0,iL.get r hr c a0];rfl
 unfold stR;rw[e2,gt c a0,iR.get r hr c a0];rfl
structure Made(li lk:List Int)(ts:List R3)(a b:List (List Nat)×List Nat)(clA clB:Nat->Nat):Prop where
 rt:eE li lk ts=true
 sa:stM true (sx ts)=some a
 sb:stM false (lP ts)=some b
 ra:JM a.1 a.2
 rb:JM b.1 b.2
 ca:Cls clA a
 cb:Cls clB b
abbrev mn(li lk:List Int)(ts:List R3)(a b:List (List Nat)×List Nat)(a1 a0:Nat->Nat):Kw:=mF li lk ts (cL a1 a.1 a.2) (cL a0 b.1 b.2)
section
variable{li lk:List Int}{ts:List R3}{a b:List (List Nat)×List Nat}{clA clB:Nat→Nat}
theorem Made.inv(h:Made li lk ts a b clA clB):TabI (mn li lk ts a b clA clB) (cL clA a.1 a.2) (cL clB b.1 b.2):=
 Dd h.rt (fZ h.ra clA) (fZ h.rb clB) (mT h.ra clA (by have:=rD h.sa;rwa[Kp]at this)) (mT h.rb clB (by have:=rD h.sb;rwa[Kp]at this))
end
theorem rJ{w:ID}{ru:I1}{xs:List X3}(h:Sl cd 7 w ru xs){k:Nat}(hk:k<xs.length):(∀j u,(aW (nth xs k).1)[j]? = some u->w.cell? (((adr ru 7 k).add 0).add j)=some u)/\(∀j u,(aW (nth xs k).2.1)[j]? = some u->w.cell? (((adr ru 7 k).add 3).add j)=some u)/\w.cell? ((adr ru 7 k).add 6)=some (.bool (nth xs k).2.2):=by
 refine⟨fun j u hu=>?_,fun j u hu=>?_,h.cell hk (j:=6) rfl⟩
 ·match j,hu with
  |0,hu=>exact h.cell hk (j:=0) hu
  |1,hu=>exact h.cell hk (j:=1) hu
  |2,hu=>exact h.cell hk (j:=2) hu
  |j+3,hu=>simp at hu
 match j,hu with
 |0,hu=>exact h.cell hk (j:=3) hu
 |1,hu=>exact h.cell hk (j:=4) hu
 |2,hu=>exact h.cell hk (j:=5) hu
 |j+3,hu=>simp at hu
section
abbrev mv(m:M3):I1:=.agg (kS m).toArray
theorem ku{F:FuncId}(hF:∀(args:Array I1) (w:ID),(callFunc F args).run J4 w=.ok (.enter F args) w)(cs:Array I1)(l:List (M3))(sv:I1)(q:Nat->Bool)(w:ID)(h:Sl kS 4 w sv l) 
  (hq:∀i,i<l.length->∀w',Jh w w'->JQ J4 F ([mv (nth l i)]++cs.toList) w' fun v w''=>v=.bool (q i)/\Jh w' w'') :
  JQ J4 165 [sv,.func (.func F) #[] cs] w fun v w'=>v=nI (dw q l.length)/\Jh w w':=by
 have hl:=h.len_le;refine I7 func165 ntmps165 rfl rfl ?_;refine zh ?_;refine zlp (fun x:Nat×ID=>[(0,sv),(1,.func (.func F) #[] cs),(7,nI l.length),(8,nI x.1)]) (fun x=>x.2) (fun x=>x.1<=l.length/\Jh w x.2/\∀i,i<x.1->q i=false) (fun x=>l.length-x.1) (0,w) (⟨IV _,I5 _,fun i hi=>absurd hi (JL i)⟩) ?_;rintro⟨k,w1⟩ ⟨hk,hE,a1⟩;dsimp only at hk hE a1 ⊢;have h1:=h.ext hE;refine zh ?_;refine zC ?_ ?_
 ·intro a0;replace a0:k<l.length:=dT a0;refine zh ?_;refine zv (ah (us:=kS (nth l k)) (fun j u hu=>h1.cell a0 hu) (isAgg218 _) (sizeOf218 _) rfl) ?_;refine dq rfl hF rfl (hq k a0 w1 hE) rfl ?_;rintro v w2 ⟨rfl,a3⟩;refine zh ?_;refine zC ?_ ?_
  ·intro hy;refine zh ?_;refine af rfl rfl (⟨by rw[ct a0 hy a1],hE.trans a3⟩)
  intro hy;refine zh ?_;refine zxd (k+1,w2) (⟨a0,hE.trans a3,fun i hi=>(Nat.lt_succ_iff_lt_or_eq.1 hi).elim (a1 i) (fun e=>by rw[e];exact hy)⟩)
 intro a2;replace a2:l.length<=k:=dF a2;refine zh ?_;refine af rfl rfl (⟨by rw[cn fun i hi=>a1 i zo],hE⟩)
theorem gX{F:FuncId}(hF:∀(args:Array I1) (w:ID),(callFunc F args).run J4 w=.ok (.enter F args) w)(cs:Array I1)(l:List (M3))(sv:I1)(q:Nat->Bool)(w:ID)(h:Sl kS 4 w sv l) 
  (hq:∀i,i<l.length->∀w',Jh w w'->JQ J4 F ([mv (nth l i)]++cs.toList) w' fun v w''=>v=.bool (q i)/\Jh w' w'') :
  JQ J4 150 [sv,.func (.func F) #[] cs] w fun v w'=>v=.bool (iY q l.length)/\Jh w w':=by
 refine I7 func150 ntmps150 rfl rfl ?_;refine zh ?_
 refine zc call165 (ku hF cs l sv q w h hq) ?_;rintro v w1 ⟨rfl,hE⟩;refine zh ?_
 refine af rfl rfl (⟨by rw[firstN_any],hE⟩)
theorem xn(m:M3)(s:List UInt8)(sb:Nat)(w:ID)(h:w.cell? ⟨sb,0,none⟩=some (.string (bs s))):JQ J4 151 [mv m,nP sb] w fun v w'=>v=.bool (m.1==s)/\Jh w w':=by
 refine I7 func151 ntmps151 rfl rfl ?_;refine zh ?_
 refine aF (aw w) 1 zo rfl rfl ?_;intro xb w1 O1 a1 a2 a3 a0;refine zh ?_
 refine zv (RV.ld (a1.cell 0 rfl) rfl) ?_;refine zv (RV.ld (a0.cell h) rfl) ?_
 refine zvH (cH rfl rfl) ?_;refine af rfl rfl (⟨rfl,a0⟩)
theorem nq(l:List (List UInt8))(s:List UInt8)(sv:I1)(w:ID)(h:Sl encS 1 w sv l):JQ J4 149 [sv,.string (bs s)] w fun v w'=>v=.bool (l.contains s)/\w'=w:=by
 refine I7 func149 ntmps149 rfl rfl ?_;refine zh ?_
 refine zc call157 (lR l s sv w h) ?_;rintro v w9 ⟨rfl,a0⟩;rw[a0];clear a0 w9;refine zh ?_
 refine af rfl rfl (⟨congrArg Value.bool ?_,rfl⟩);unfold FX
 cases hf:l.findIdx? (· == s)with
 |none=>
  have h1:=List.findIdx?_eq_none_iff.1 hf;rw[decide_eq_false zd]
  symm
  rw[Bool.eq_false_iff];intro hc;have:=h1 s (JX.1 hc);simp at this
 |some k=>
  obtain⟨hk,h1,_⟩:=List.findIdx?_eq_some_iff_getElem.1 hf;show decide ((0:Int)<=((k:Nat):Int))=_;rw[decide_eq_true zo]
  symm
  rw[JX,<-eq_of_beq h1];exact List.getElem_mem hk
def wordsL:List (List UInt8):=[[108,101,116],[105,103,110,111,114,101],[107,101,101,112],[97,110,121]]
def eC(kn:Kn)(s:List UInt8):Int:=if((zP s).isSome||wordsL.contains s)=true then 5 else if kn.any (fun m=>m.1==s)=true then 11 else 0
variable{kn:Kn}
theorem yM(O:Nat->Nat)(w:ID)(j jm rb:Nat)(s:LS)(q:List UInt8)(hk:Mac O w jm s.mc kn)(h:K9 O w j rb s):
  JQ J4 131 [nP rb,.string (bs q)] w fun v w'=>v=nI (eC kn q)/\Jh w w':=by
 obtain⟨ms,a2,b1,b2⟩:=hk;have b0:=a2.sl;refine I7 func131 ntmps131 rfl rfl ?_;refine zg ?_;refine aF (aw w) 1 zo rfl rfl ?_;intro sb w1 O1 a9 b4 b5 b3;have a3:=a9.cell 0 rfl;refine zg ?_;refine zv (RV.ld a3 rfl) ?_;refine zc KV (iD q w1) ?_;rintro v w2 ⟨rfl,a6⟩;have a1:=b3.trans a6;refine zg ?_
 cases hn:(zP q).isSome with
 |true=>
  have hM:eC kn q=5:=by unfold eC;rw[hn];rfl
  rw[hM];refine au (d:=14) rfl (b':=true) (rfl) ?_;refine zg ?_;refine zTG rfl rfl ?_;refine af rfl rfl (⟨rfl,a1⟩)
 |false=>
  refine au (d:=14) rfl (b':=false) (rfl) ?_;refine zg ?_
  refine iQ underlying123 (sizeOf9 _) (zeroValue9 _) encS wordsL rfl rfl rfl rfl zk zd rfl ?_;intro sv w3 a' a5;have a0:=a1.trans a5;refine zg ?_
  refine zvG (RV.ld ((a6.trans a5).cell a3) rfl) ?_;refine zc call149 (nq wordsL q sv w3 a') ?_
  rintro v w9 ⟨rfl,a7⟩;rw[a7];clear a7 w9;refine zg ?_
  cases hw:wordsL.contains q with
  |true=>
   have hM:eC kn q=5:=by unfold eC;rw[hn,hw];rfl
   rw[hM];refine zTG rfl rfl ?_;refine af rfl rfl (⟨rfl,a0⟩)
  |false=>
   refine aR rfl rfl ?_;have q9:=a0.cell h.q9;refine zg ?_
   refine zv (RV.ld q9 rfl) ?_;refine zv (dR rfl rfl) ?_
   refine zc call150 (gX call151 #[nP sb] ms s.mc (fun i=>(nth ms i).1==q) w3 (b0.ext a0) (fun i hi w' hE=>xn (nth ms i) q sb w' (hE.cell ((a6.trans a5).cell a3)))) ?_;rintro v w4 ⟨rfl,a8⟩;have a4:iY (fun i=>(nth ms i).1==q) ms.length=kn.any (fun m=>m.1==q):=by
    rw[<-b1,<-ie (l:=kn) (p:=fun m=>m.1==q)];exact yl fun i hi=>by rw[(b2 i zo).1]
   rw[a4];refine zg ?_
   cases ha:kn.any (fun m=>m.1==q)with
   |true=>
    have hM:eC kn q=11:=by unfold eC;rw[hn,hw,ha];rfl
    rw[hM];refine zTG rfl rfl ?_;refine af rfl rfl (⟨rfl,a0.trans a8⟩)
   |false=>
    have hM:eC kn q=0:=by unfold eC;rw[hn,hw,ha];rfl
    rw[hM];refine zFG rfl rfl ?_;refine af rfl rfl (⟨rfl,a0.trans a8⟩)
end
section
variable{kn:Kn}
theorem FS:cB J4 218 #[(0,1),(1,3)]:=⟨_,underlying218,fun w=>by kernel_rfl⟩
inductive ML where
 |ok (m:List UInt8×Nd)
 |bad (p:Nat) (e:Int)
def GQ(nm r2:List UInt8):XR->ML
 |.ok t=>.ok (nm,t)
 |.bad p e=>.bad (r2.length-1-p) e
def su(kn:Kn)(r:List UInt8):ML:=
 if(aq r).takeWhile ak=[]then .bad (aq r).length 4
 else if eC kn ((aq r).takeWhile ak)≠0 then .bad (aq r).length (eC kn ((aq r).takeWhile ak))
 else if(aq ((aq r).dropWhile ak)).headD 0=61 then GQ ((aq r).takeWhile ak) (aq ((aq r).dropWhile ak)) (eK kn (aq ((aq r).dropWhile ak)).tail)
 else .bad (aq ((aq r).dropWhile ak)).length 4
def G5(O:Nat->Nat)(w:ID)(jm:Nat)(m:Nat)(v:I1)(bad e:Int)(kn:Kn):ML->Prop
 |.ok x=>e=0/\Mac O w jm v (kn++[x])
 |.bad p e'=>e=e'/\e'≠0/\bad=(m:Int)-(p:Int)
def atX:XR->Int
 |.ok _=>0
 |.bad p _=>(p:Int)
def GT:XR->Int
 |.ok _=>0
 |.bad _ e=>e
theorem PostX.shape{O:Nat->Nat}{w:ID}{v:I1}{M:XR}(h:PostX O w v M):∃x:N3,v=.tuple #[nv x,nI (atX M),nI (GT M)]/\x.2.2.oneCell'=true/\∀t,M=.ok t->Nt O w t x:=by
 cases M with
 |ok t=>obtain⟨x,rfl,hn⟩:=h;exact⟨x,rfl,hn.one,fun t e=>by cases e;exact hn⟩
 |bad p e=>obtain⟨rfl,_⟩:=h;exact⟨(0,0,nS),rfl,rfl,fun t e=>by cases e⟩
theorem kD{m:M3}(h:m.2.2.2.oneCell'=true):∀c∈kS m,c.oneCell'=true:=fun c hc=>by
 simp only[kS,IE,IR,or_false]at hc
 rcases hc with rfl|rfl|rfl|rfl
 ·rfl
 ·rfl
 ·rfl
 exact h
theorem xi{O:Nat->Nat}{w:ID}{i:Nat}{v:I1}{ms:List M3}{nm:List UInt8}{x:N3}{t:Nd}(hr:Kx kS 218 4 O w i v (ms++[(nm,x)]))(hl:kn.length=ms.length)(hk:∀q,q<ms.length->(nth kn q).1=(nth ms q).1/\Nt O w (nth kn q).2 (nth ms q).2)(hn:Nt O w t x):Mac O w i v (kn++[(nm,t)]):=by
 refine⟨_,hr,by simp[hl],fun q hq=>?_⟩;simp only[I8,List.length_singleton]at hq
 by_cases e:q<ms.length
 ·rw[aB (by simp;omega),aB (by simp;omega),I6 zo,I6 e,<-aB zo,<-aB e];exact hk q e
 obtain rfl:q=ms.length:=zo;rw[aB (by simp;omega),aB (by simp),I3 zo,I3 zo];simp[hl];exact hn
theorem Ad(B:Nat)(O:Nat → Nat)(w:ID)(j jm rb:Nat)(s:LS)(m:Nat)(r:List UInt8)(hR:K4 B O w)(hj:j ≠ 0)(hjm:jm ≠ 0)(hne:j ≠ jm)(hm:m ≤ s.l.length)(hl:s.l.length ≤ 100000)(hto:s.to = (m:Int))(he:s.e = 0)
  (hr:r <:+ s.l.take m) (hp:s.pos = (m:Int) - (r.length:Int)) (hkl:kn.length ≤ 100000) (hmac:Mac O w jm s.mc kn) (h:K9 O w j rb s) :
  JQ J4 105 [nP rb] w fun _ w' => ∃O' v pos bad e, IQ (fun k => k = j ∨ k = jm) O w O' w' ∧ K4 B O' w' ∧ K9 O' w' j rb {s with pos := pos, bad := bad, e := e, mc := v} ∧ G5 O' w' jm m v bad e kn (su kn r) := by
 obtain⟨T0, hT00, hT01⟩ := hR.bound
 obtain⟨T, hT0, hjmT, hT⟩:∃T, 0 < T ∧ jm < T ∧ ∀b, O b < T := ⟨T0 + jm + 1, by omega, by omega, fun b => by have := hT01 b; omega⟩
 clear hT00 hT01 T0
 have hjT:j < T := by rw[← h.tag]; exact hT rb
 have hz2:¬(fun q:Nat => q = j ∨ q = jm) 0 := fun e => by rcases e with e | e; exact hj e.symm; exact hjm e.symm
 have hz3:¬(fun q:Nat => q = j ∨ q = jm ∨ T ≤ q) 0 := fun e => by rcases e with e | e | e; exact hj e.symm; exact hjm e.symm; omega
 have hpv:∀ {O':Nat → Nat} {w':ID}, IQ (fun q => q = j ∨ q = jm ∨ T ≤ q) O w O' w' → IQ (fun q => q = j ∨ q = jm) O w O w' := fun hU => hU.fgt (S' := fun q => q = j ∨ q = jm) (fun b hb => by rcases hb with hb | hb | hb; exact Ke hb; exact Kd hb; have := hT b; omega) hz2
 have hLl:(s.l.take m).length = m := by simp; omega
 refine I7 func105 ntmps105 rfl rfl ?_
 refine J3 ?_
 refine J8 ?_
 refine zv (IG rfl) ?_
 refine zv (ao rfl) ?_
 refine zv (RV.fa rfl) ?_
 refine zc JS (dC O w j rb s m r hj hm hl hto hr hp h) ?_
 rintro v w1 ⟨rfl, hb1, hU1⟩
 have hs1 := (aX r).trans hr
 have hm1 := hmac.upd hU1 hjm (fun e => hne e.symm)
 have hR1 := hR.upd hU1
 refine IF ?_
 refine ai ?_
 refine J3 ?_
 refine J8 ?_
 refine zv (IG rfl) ?_
 refine zv (ao rfl) ?_
 refine zv (RV.fa rfl) ?_
 refine zv (RV.fa rfl) ?_
 refine zv (RV.ld hb1.q1 rfl) ?_
 refine zv (JW rfl) ?_
 refine IF ?_
 refine ai ?_
 refine J3 ?_
 refine J8 ?_
 refine zv (IG rfl) ?_
 refine zv (ao rfl) ?_
 refine zv (RV.fa rfl) ?_
 refine zc K8 (gH O w1 j rb ({s with pos := (m:Int) - ((aq r).length:Int)}:LS) m (aq r) hj hm hl hto hs1 rfl hb1) ?_
 rintro v w2 ⟨rfl, hb2, hU2⟩
 have hs2 := (ka ak).trans hs1
 have hm2 := hm1.upd hU2 hjm (fun e => hne e.symm)
 have hR2 := hR1.upd hU2
 have hUt2 := (hU1.trans hU2).mono (S' := fun q => q = j ∨ q = jm ∨ T ≤ q) (fun _ h => .inl h) hz3
 refine zv (JW rfl) ?_
 refine IF ?_
 refine ai ?_
 refine J3 ?_
 refine J3 ?_
 refine J8 ?_
 refine zv (IG rfl) ?_
 refine zv (cH rfl rfl) ?_
 refine IF ?_
 refine ai ?_
 by_cases hnm:(aq r).takeWhile ak = []
 ·have hM:su kn r = .bad (aq r).length 4 := by unfold su; rw[if_pos hnm]
  rw[hM]
  refine aO rfl ((by rw[hnm]; rfl)) ?_
  refine J3 ?_
  refine J8 ?_
  refine zv (IG rfl) ?_
  refine zv (ao rfl) ?_
  refine zv (RV.fa rfl) ?_
  refine zv (IG rfl) ?_
  refine zc J7 (bC O w2 j rb ({s with pos := (m:Int) - (((aq r).dropWhile ak).length:Int)}:LS) ((m:Int) - ((aq r).length:Int)) 4 hj he hb2) ?_
  rintro u w3 ⟨hb3, hU3⟩
  refine IF ?_
  refine ai ?_
  refine KC ?_
  refine cu ?_
  exact cj rfl ⟨O, s.mc, _, _, _, hpv (hUt2.trans (hU3.mono (fun _ h => .inl h) hz3)), hR2.upd hU3, hb3, rfl, by decide, rfl⟩
 ·skip
  refine aR rfl ((by simpa using hnm)) ?_
  refine Kl ?_
  refine ai ?_
  refine J3 ?_
  refine J3 ?_
  refine J8 ?_
  refine zv (IG rfl) ?_
  refine zv (IG rfl) ?_
  refine zc call131 (yM O w2 j jm rb ({s with pos := (m:Int) - (((aq r).dropWhile ak).length:Int)}:LS) ((aq r).takeWhile ak) hm2 hb2) ?_
  rintro v w3 ⟨rfl, hE3⟩
  have hX3:IQ (fun _ => False) O w2 O w3 := aa (fun h => h) O hE3
  have hb3 := hb2.upd hX3 hj (fun h => h)
  have hm3 := hm2.upd hX3 hjm (fun h => h)
  have hR3 := hR2.upd hX3
  have hUt3 := hUt2.trans (hX3.mono (fun _ h => h.elim) hz3)
  refine zv (JW rfl) ?_
  refine IF ?_
  refine ai ?_
  refine J3 ?_
  refine J8 ?_
  refine zv (IG rfl) ?_
  refine zv (KN rfl rfl) ?_
  refine IF ?_
  refine ai ?_
  by_cases htk:eC kn ((aq r).takeWhile ak) = 0
  ·skip
   refine aR rfl ((by rw[htk]; rfl)) ?_
   have hMK:su kn r = if(aq ((aq r).dropWhile ak)).headD 0 = 61 then GQ ((aq r).takeWhile ak) (aq ((aq r).dropWhile ak)) (eK kn (aq ((aq r).dropWhile ak)).tail)else .bad (aq ((aq r).dropWhile ak)).length 4 := by unfold su; rw[if_neg hnm, if_neg (by rw[htk]; simp)]
   generalize (aq r).takeWhile ak = nm at *
   generalize (aq r).dropWhile ak = q at *
   have hs5 := (aX q).trans hs2
   have hbd := hb3.drew
   have hmd := hm3.upd (aa (S := fun _ => False) (fun h => h) O (I5 w3).drew) hjm (fun h => h)
   have hRd := hR3.drew
   have hUd := hUt3.drew
   refine Kl ?_
   refine ai ?_
   refine J3 ?_
   refine J3 ?_
   refine aL (fun V => V.cell? ⟨rb, 0, none⟩ = some (.string (bs s.l))) 19 rfl (by kernel_rfl) ?_
   refine zrm 0 rfl hbd.q0 rfl ?_
   refine zr 1 rfl hbd.q0 (fun _ => ao rfl) ?_
   refine zrf 2 rfl hbd.q0 rfl ?_
   refine I0 3 (by kernel_rfl) rfl ?_
   refine zc JS (dC O w3.drew j rb ({s with pos := (m:Int) - (q.length:Int)}:LS) m q hj hm hl hto hs2 rfl hbd) ?_
   rintro v w5 ⟨rfl, hb5, hU5⟩
   have hm5 := hmd.upd hU5 hjm (fun e => hne e.symm)
   have hR5 := hRd.upd hU5
   have hUt5 := hUd.trans (hU5.mono (fun _ h => .inl h) hz3)
   generalize aq q = r2 at *
   have hr2l := hs5.length_le
   rw[hLl]at hr2l
   have hb5':Jp O w5 j rb ({s with pos := (m:Int) - (r2.length:Int)}:LS).cells 148 := hb5
   clear hb5
   have hb5 := hb5'
   refine IF ?_
   refine zaf (hb5.q0) fun zS => ?_
   refine zr 4 rfl zS (fun _ => RV.not rfl) ?_
   refine zrm 5 rfl zS rfl ?_
   by_cases hr0:r2.length = 0
   ·have hrn:r2 = [] := JE hr0
    have hM:su kn r = .bad r2.length 4 := by rw[hMK, if_neg (by rw[hrn]; decide)]
    rw[hM]
    refine lG (d := 44) rfl (b' := true) ((by rw[decide_eq_false (by omega)]; rfl)) ?_
    have hbe := hb5.drew
    refine zin (hb5.q0) fun zS => ?_
    refine zte 6 rfl rfl zS ?_
    refine zte 7 rfl rfl zS ?_
    refine zte 8 rfl rfl zS ?_
    refine zte 9 rfl rfl zS ?_
    refine zte 10 rfl rfl zS ?_
    refine zte 11 rfl rfl zS ?_
    refine zte 12 rfl rfl zS ?_
    refine zte 13 rfl rfl zS ?_
    refine zte 14 rfl rfl zS ?_
    refine zte 15 rfl rfl zS ?_
    refine zte 16 rfl rfl zS ?_
    refine zte 17 rfl rfl zS ?_
    refine zr 18 rfl zS (fun _ => bp rfl rfl) ?_
    refine IN (by kernel_rfl) ?_
    refine ai ?_
    refine aO rfl rfl ?_
    refine J3 ?_
    refine Ja 8 rfl rfl (by kernel_rfl) (by kernel_rfl) ?_
    refine zw (IG rfl) ?_
    refine zw (ao rfl) ?_
    refine zw (RV.fa rfl) ?_
    refine zw (IG rfl) ?_
    refine zw (ao rfl) ?_
    refine zw (RV.fa rfl) ?_
    refine zw (RV.fa rfl) ?_
    refine zw (RV.ld hbe.q1 rfl) ?_
    refine Jz ?_
    refine zc J7 (bC O w5.drew j rb ({s with pos := (m:Int) - (r2.length:Int)}:LS) ((m:Int) - (r2.length:Int)) 4 hj he hbe) ?_
    rintro u w6 ⟨hb6, hU6⟩
    refine IF ?_
    refine ai ?_
    refine KC ?_
    refine cu ?_
    exact cj rfl ⟨O, s.mc, _, _, _, hpv ((hUt5.drew).trans (hU6.mono (fun _ h => .inl h) hz3)), hR5.drew.upd hU6, hb6, rfl, by decide, rfl⟩
   ·have hrn:r2 ≠ [] := fun e => hr0 (by rw[e]; rfl)
    have hgh := mz (vJ hs5 hrn)
    rw[hLl]at hgh
    refine lG (d := 44) rfl (b' := false) ((by rw[decide_eq_true (by omega)]; rfl)) ?_
    refine zin (hb5.q0) fun zS => ?_
    refine zro 6 rfl zS (fun _ => IG rfl) ?_
    refine zro 7 rfl zS (fun _ => ao rfl) ?_
    refine zro 8 rfl zS (fun _ => RV.fa rfl) ?_
    refine zro 9 rfl zS (fun _ => RV.fa rfl) ?_
    refine zto 10 rfl zS (fun w1 hw1 => RV.ld hw1 rfl) ?_
    refine zro 11 rfl zS (fun _ => IG rfl) ?_
    refine zro 12 rfl zS (fun _ => ao rfl) ?_
    refine zro 13 rfl zS (fun _ => RV.fa rfl) ?_
    refine zro 14 rfl zS (fun _ => RV.fa rfl) ?_
    refine I0 15 (by kernel_rfl) rfl ?_
    refine cz rfl ?_
    refine zv (RV.ld hb5.q1 rfl) ?_
    refine IF ?_
    refine zaf (hb5.q0) fun zS => ?_
    refine zro 16 rfl zS (fun _ => bh (c := r2.headD 0) IK rfl rfl (m - r2.length) (by dsimp only; omega) hgh) ?_
    refine zro 17 rfl zS (fun _ => KN rfl rfl) ?_
    refine zr 18 rfl zS (fun _ => bq rfl rfl) ?_
    refine IN (by kernel_rfl) ?_
    refine ai ?_
    by_cases hc:r2.headD 0 = 61
    ·have hMX:su kn r = GQ nm r2 (eK kn r2.tail) := by rw[hMK, if_pos hc]
     obtain⟨k1, k2⟩ := bV (r := r2) (by rw[hc]; decide)
     have hts := k1.trans hs5
     refine aR rfl ((by rw[hc]; rfl)) ?_
     have hbe := hb5.drew
     have hme := hm5.upd (aa (S := fun _ => False) (fun h => h) O (I5 w5).drew) hjm (fun h => h)
     have hRe := hR5.drew
     have hUe := hUt5.drew
     have hseg:(s.l.take m).drop (m - r2.tail.length) = r2.tail := by have := CO hts; rwa[hLl]at this
     have hgX := vQ (kn := kn) r2.tail
     generalize hMd:eK kn r2.tail = M at *
     refine Kl ?_
     refine ai ?_
     refine J3 ?_
     refine kM (fun z:(Nat → Nat)×World×Nat×N3 => [(0, nP rb), (3, .string (bs nm)), (5, .pointer (some ⟨z.2.2.1, 0, none⟩)), (6, nI (atX M)), (7, nI (GT M))]) (fun z:(Nat → Nat)×World×Nat×N3 => z.2.1) (fun z:(Nat → Nat)×World×Nat×N3 => Jp z.1 z.2.1 T z.2.2.1 #[nI z.2.2.2.1, nI z.2.2.2.2.1, z.2.2.2.2.2] 86 ∧ K9 z.1 z.2.1 j rb {s with pos := (m:Int) - (r2.length:Int)} ∧ Mac z.1 z.2.1 jm s.mc kn ∧ IQ (fun q => q = j ∨ q = jm ∨ T ≤ q) O w z.1 z.2.1 ∧ K4 B z.1 z.2.1 ∧ z.2.2.2.2.2.oneCell' = true ∧ ∀t, M = .ok t → Nt z.1 z.2.1 t z.2.2.2) ?_ ?_
     ·intro hN
      refine aL (fun V => V.cell? ⟨rb, 0, none⟩ = some (.string (bs s.l)) ∧ V.cell? ⟨rb, 1, none⟩ = some (nI ((m:Int) - (r2.length:Int))) ∧ V.cell? ⟨rb, 2, none⟩ = some (nI s.to) ∧ V.cell? ⟨rb, 9, none⟩ = some s.mc) 30 rfl (by kernel_rfl) ?_
      refine zin ⟨hbe.q0, hbe.q1, hbe.q2, hbe.q9⟩ fun zS => ?_
      refine zrm 0 rfl zS rfl ?_
      refine zr 1 rfl zS (fun _ => ao rfl) ?_
      refine zrf 2 rfl zS rfl ?_
      refine zrf 3 rfl zS rfl ?_
      refine zt 4 rfl zS (fun w1 hw1 => RV.ld hw1.1 rfl) ?_
      refine zrm 5 rfl zS rfl ?_
      refine zr 6 rfl zS (fun _ => ao rfl) ?_
      refine zrf 7 rfl zS rfl ?_
      refine zrf 8 rfl zS rfl ?_
      refine zt 9 rfl zS (fun w1 hw1 => RV.ld hw1.2.1 rfl) ?_
      refine zr 10 rfl zS (fun _ => JG rfl rfl (Jr (by omega))) ?_
      refine zrm 11 rfl zS rfl ?_
      refine zr 12 rfl zS (fun _ => ao rfl) ?_
      refine zrf 13 rfl zS rfl ?_
      refine zrf 14 rfl zS rfl ?_
      refine zt 15 rfl zS (fun w1 hw1 => RV.ld hw1.2.2.1 rfl) ?_
      refine zr 16 rfl zS (fun _ => cQ IK rfl rfl rfl (m - r2.tail.length) m (by omega) hto (by omega) hm) ?_
      refine zrm 17 rfl zS rfl ?_
      refine zr 18 rfl zS (fun _ => ao rfl) ?_
      refine zrf 19 rfl zS rfl ?_
      refine zt 20 rfl zS (fun w1 hw1 => RV.ld hw1.2.2.2 rfl) ?_
      rw[hseg]
      refine bI 21 26 (by kernel_rfl) rfl rfl ?_ ?_
      ·skip
       refine zc call132 (kY s.mc r2.tail B O (forget jm O) w5.drew hRe hRe.forget (hme.known hjm hRe)) ?_
       rintro v w6 ⟨hE6, hP6⟩
       rw[hMd]at hP6
       obtain⟨x, rfl, hxo, hxn⟩ := hP6.shape
       have hX6:IQ (fun _ => False) O w5.drew O w6 := aa (fun h => h) O hE6
       have hb6 := hbe.upd hX6 hj (fun h => h)
       have hm6 := hme.upd hX6 hjm (fun h => h)
       have hR6 := hRe.upd hX6
       have hU6 := hUe.trans (hX6.mono (fun _ h => h.elim) hz3)
       refine IF ?_
       refine zaf (⟨hb6.q0, hb6.q1, hb6.q2, hb6.q9⟩) fun zS => ?_
       refine zrm 22 rfl zS rfl ?_
       refine zr 23 rfl zS (fun _ => Ji rfl rfl) ?_
       refine zr 24 rfl zS (fun _ => Ji rfl rfl) ?_
       refine zr 25 rfl zS (fun _ => Ji rfl rfl) ?_
       refine I0 26 (by kernel_rfl) rfl ?_
       refine ar hR6 T (by omega) (Js _) rfl ?_
       intro nb w7 O7 hn7 hX7 hR7 hE7
       have hb7 := hb6.upd hX7 hj (by omega)
       have hm7 := hm6.upd hX7 hjm (by omega)
       have hU7 := hU6.trans (hX7.mono (fun _ h => .inr (.inr (IS h.symm))) hz3)
       refine IF ?_
       refine ae (⟨hb7.q0, hb7.q1, hb7.q2, hb7.q9⟩) ?_
       refine I0 27 (by kernel_rfl) rfl ?_
       refine zsb (us := #[nI x.1, nI x.2.1, x.2.2]) hn7 (Jj _) (bW hxo) ?_
       have hnz := JF (us := #[nI x.1, nI x.2.1, x.2.2]) hn7
       have hXz:IQ (fun q => q = T) O7 w7 O7 (Jt w7 nb #[nI x.1, nI x.2.1, x.2.2]) := I4 (by omega) (KO hn7) rfl
       have hbz := ix hb7 hXz hj (by omega)
       refine IF ?_
       refine zaf (⟨hbz.q0, hbz.q1, hbz.q2, hbz.q9⟩) fun zS => ?_
       refine zra 28 rfl zS rfl ?_
       refine zra 29 rfl zS rfl ?_
       refine IN (by kernel_rfl) ?_
       exact eA (hN ((O7, Jt w7 nb #[nI x.1, nI x.2.1, x.2.2], nb, x)) (⟨hnz, hbz, L2 hm7 hXz hjm (by omega), JT hU7 (hXz.mono (fun _ h => .inr (.inr (IS h.symm))) hz3), Kc hR7 hXz, hxo, fun t e => Nt.upd ((fun t e => (hxn t e).upd hX7) t e) hXz⟩)) ⟨rfl, rfl, rfl, rfl, rfl, trivial⟩ rfl
      ·skip
       refine ar hRe T (by omega) (Js _) rfl ?_
       intro nb w6 O6 hn6 hX6 hR6 hE6
       have hb6 := hbe.upd hX6 hj (by omega)
       have hm6 := hme.upd hX6 hjm (by omega)
       have hU6 := hUe.trans (hX6.mono (fun _ h => .inr (.inr (IS h.symm))) hz3)
       refine IF ?_
       refine ae (⟨hb6.q0, hb6.q1, hb6.q2, hb6.q9⟩) ?_
       refine I0 21 (by kernel_rfl) rfl ?_
       refine zc call132 (kY s.mc r2.tail B O6 (forget jm O6) w6 hR6 hR6.forget (hm6.known hjm hR6)) ?_
       rintro v w7 ⟨hE7, hP7⟩
       rw[hMd]at hP7
       obtain⟨x, rfl, hxo, hxn⟩ := hP7.shape
       have hX7:IQ (fun _ => False) O6 w6 O6 w7 := aa (fun h => h) O6 hE7
       have hn7 := hn6.upd hX7 (by omega) (fun h => h)
       have hb7 := hb6.upd hX7 hj (fun h => h)
       have hm7 := hm6.upd hX7 hjm (fun h => h)
       have hR7 := hR6.upd hX7
       have hU7 := hU6.trans (hX7.mono (fun _ h => h.elim) hz3)
       refine IF ?_
       refine zaf (⟨hb7.q0, hb7.q1, hb7.q2, hb7.q9⟩) fun zS => ?_
       refine zrm 22 rfl zS rfl ?_
       refine zr 23 rfl zS (fun _ => Ji rfl rfl) ?_
       refine zr 24 rfl zS (fun _ => Ji rfl rfl) ?_
       refine zr 25 rfl zS (fun _ => Ji rfl rfl) ?_
       refine I0 27 (by kernel_rfl) rfl ?_
       refine zsb (us := #[nI x.1, nI x.2.1, x.2.2]) hn7 (Jj _) (bW hxo) ?_
       have hnz := JF (us := #[nI x.1, nI x.2.1, x.2.2]) hn7
       have hXz:IQ (fun q => q = T) O6 w7 O6 (Jt w7 nb #[nI x.1, nI x.2.1, x.2.2]) := I4 (by omega) (KO hn7) rfl
       have hbz := ix hb7 hXz hj (by omega)
       refine IF ?_
       refine zaf (⟨hbz.q0, hbz.q1, hbz.q2, hbz.q9⟩) fun zS => ?_
       refine zra 28 rfl zS rfl ?_
       refine zra 29 rfl zS rfl ?_
       refine IN (by kernel_rfl) ?_
       exact eA (hN ((O6, Jt w7 nb #[nI x.1, nI x.2.1, x.2.2], nb, x)) (⟨hnz, hbz, L2 hm7 hXz hjm (by omega), JT hU7 (hXz.mono (fun _ h => .inr (.inr (IS h.symm))) hz3), Kc hR7 hXz, hxo, fun t e => Nt.upd (hxn t e) hXz⟩)) ⟨rfl, rfl, rfl, rfl, rfl, trivial⟩ rfl
     ·rintro⟨O8, w8, nb, x⟩ ⟨hn8, hb8, hm8, hU8, hR8, hxo, hxn⟩
      dsimp only at hn8 hb8 hm8 hU8 hR8 hxo hxn ⊢
      refine ai ?_
      refine J3 ?_
      refine J3 ?_
      refine J8 ?_
      refine zv (IG rfl) ?_
      refine zv (KN rfl rfl) ?_
      refine IF ?_
      refine ai ?_
      cases M with
      |ok t =>
       rw[hMX]
       refine aR rfl rfl ?_
       have hnt := hxn t rfl
       obtain⟨ms, hrow, hkl2, hke⟩ := hm8
       have hrowD := KK hrow
       have hRD := KX hR8
       have hbD := Jo hb8
       have hnD := Jo hn8
       have hUD := KW hU8
       refine Kl ?_
       refine ai ?_
       refine aL (fun V => ∀(q:Nat) (u:I1), (aW x)[q]? = some u → V.cell? (nA nb q) = some u) 13 rfl (by kernel_rfl) ?_
       refine zin hnD.cellsAdd fun zS => ?_
       refine zrm 0 rfl zS rfl ?_
       refine zrm 1 rfl zS rfl ?_
       refine zr 2 rfl zS (fun _ => ao rfl) ?_
       refine zrf 3 rfl zS rfl ?_
       refine zrm 5 rfl zS rfl ?_
       refine zt 6 rfl zS (fun w1 hw1 => ah (us := aW x) hw1 (Ky _) (Jj _) rfl) ?_
       refine zr 7 rfl zS (fun _ => J1 (vs := [(0, .string (bs nm)), (1, nv x)]) (cells := (kS (nm, x)).toArray) FS (KQ _) rfl (by kernel_rfl)) ?_
       refine bI 4 8 (by kernel_rfl) rfl rfl ?_ ?_
       ·skip
        refine zv (RV.ld hbD.q9 rfl) ?_
        refine IF ?_
        refine ae hnD.cellsAdd ?_
        refine I0 8 (by kernel_rfl) rfl ?_
        refine aH elM (enc := kS) (nm, x) rfl rfl rfl (by decide) rfl ?_
        intro w9 h9 hE9
        have hX9:IQ (fun _ => False) O8 (JK w8) O8 w9 := aa (fun h => h) O8 hE9
        have hb9 := hbD.upd hX9 hj (fun h => h)
        have hn9 := hnD.upd hX9 (by omega) (fun h => h)
        have hrow9 := hrowD.upd hX9 hjm (fun h => h)
        have hR9 := hRD.upd hX9
        have hU9 := hUD.trans (hX9.mono (fun _ h => h.elim) hz3)
        refine IF ?_
        refine ae hn9.cellsAdd ?_
        have hone9:∀u ∈ [((nm, x):M3)], ∀c ∈ kS u, c.oneCell' = true := fun u hu => by
         rw[I2.1 hu]; exact kD hxo
        refine I0 9 (by kernel_rfl) rfl ?_
        refine aC elM hrow9 hR9 h9 (by simp) rfl rfl (fun _ _ => rfl) hone9 (by simp; omega) (by simp; omega) (by omega) rfl ?_
        intro lv10 w10 O10 hrow10 hX10 hR10
        have hb10 := ix hb9 hX10 hj (by omega)
        have hn10 := ix hn9 hX10 (by omega) (by omega)
        have hl10 := hrow10.one
        have hU10 := hU9.trans (hX10.mono (fun _ h => .inr (.inl h)) hz3)
        refine IF ?_
        refine zaf (hn10.cellsAdd) fun zS => ?_
        refine zr 10 rfl zS (fun _ => ao rfl) ?_
        refine zrf 11 rfl zS rfl ?_
        refine I0 12 (by kernel_rfl) rfl ?_
        refine aj (j := 9) hb10 rfl (K2 _) hl10 rfl rfl rfl ?_
        have hX11:IQ (fun q => q = j) O10 w10 O10 (IT w10 ⟨rb, 9, none⟩ lv10) := II (fun e => hj e.symm) hb10.tag rfl
        have hb11:Jp O10 (IT w10 ⟨rb, 9, none⟩ lv10) j rb ({({s with pos := (m:Int) - (r2.length:Int)}:LS)with mc := lv10}:LS).cells 148 := hb10.set 9 lv10
        have hn11 := hn10.upd hX11 (by omega) (by omega)
        have hrow11 := hrow10.upd hX11 hjm (fun e => hne e.symm)
        have hU11 := hU10.trans (hX11.mono (fun _ h => .inl h) hz3)
        have hR11 := hR10.upd hX11
        refine IF ?_
        refine ae (hn11.cellsAdd) ?_
        refine IN (by kernel_rfl) ?_
        have hUz := JZ hU11 hT (S' := fun q => q = j ∨ q = jm) (fun b hb => by rcases hb with hb | hb | hb; exact Ke hb; exact Kd hb; have := hT b; omega) hz2
        exact aG rfl ⟨lowT O10 T, lv10, _, _, _, hUz, hR11.lowT T, hb11.lowT hjT, he, xi (hrow11.lowT hjmT) hkl2 (fun q hq => ⟨(hke q hq).1, (((((hke q hq).2.drew).upd hX9).upd hX10).upd hX11).weak (fun b hb => ke hb)⟩) (((((hnt.drew).upd hX9).upd hX10).upd hX11).weak (fun b hb => ke hb))⟩
       ·skip
        refine aH elM (enc := kS) (nm, x) rfl rfl rfl (by decide) rfl ?_
        intro w9 h9 hE9
        have hX9:IQ (fun _ => False) O8 (JK w8) O8 w9 := aa (fun h => h) O8 hE9
        have hb9 := hbD.upd hX9 hj (fun h => h)
        have hn9 := hnD.upd hX9 (by omega) (fun h => h)
        have hrow9 := hrowD.upd hX9 hjm (fun h => h)
        have hR9 := hRD.upd hX9
        have hU9 := hUD.trans (hX9.mono (fun _ h => h.elim) hz3)
        refine IF ?_
        refine ae hn9.cellsAdd ?_
        refine I0 4 (by kernel_rfl) rfl ?_
        refine zv (RV.ld hb9.q9 rfl) ?_
        refine IF ?_
        refine ae hn9.cellsAdd ?_
        have hone9:∀u ∈ [((nm, x):M3)], ∀c ∈ kS u, c.oneCell' = true := fun u hu => by
         rw[I2.1 hu]; exact kD hxo
        refine I0 9 (by kernel_rfl) rfl ?_
        refine aC elM hrow9 hR9 h9 (by simp) rfl rfl (fun _ _ => rfl) hone9 (by simp; omega) (by simp; omega) (by omega) rfl ?_
        intro lv10 w10 O10 hrow10 hX10 hR10
        have hb10 := ix hb9 hX10 hj (by omega)
        have hn10 := ix hn9 hX10 (by omega) (by omega)
        have hl10 := hrow10.one
        have hU10 := hU9.trans (hX10.mono (fun _ h => .inr (.inl h)) hz3)
        refine IF ?_
        refine zaf (hn10.cellsAdd) fun zS => ?_
        refine zr 10 rfl zS (fun _ => ao rfl) ?_
        refine zrf 11 rfl zS rfl ?_
        refine I0 12 (by kernel_rfl) rfl ?_
        refine aj (j := 9) hb10 rfl (K2 _) hl10 rfl rfl rfl ?_
        have hX11:IQ (fun q => q = j) O10 w10 O10 (IT w10 ⟨rb, 9, none⟩ lv10) := II (fun e => hj e.symm) hb10.tag rfl
        have hb11:Jp O10 (IT w10 ⟨rb, 9, none⟩ lv10) j rb ({({s with pos := (m:Int) - (r2.length:Int)}:LS)with mc := lv10}:LS).cells 148 := hb10.set 9 lv10
        have hn11 := hn10.upd hX11 (by omega) (by omega)
        have hrow11 := hrow10.upd hX11 hjm (fun e => hne e.symm)
        have hU11 := hU10.trans (hX11.mono (fun _ h => .inl h) hz3)
        have hR11 := hR10.upd hX11
        refine IF ?_
        refine ae (hn11.cellsAdd) ?_
        refine IN (by kernel_rfl) ?_
        have hUz := JZ hU11 hT (S' := fun q => q = j ∨ q = jm) (fun b hb => by rcases hb with hb | hb | hb; exact Ke hb; exact Kd hb; have := hT b; omega) hz2
        exact aG rfl ⟨lowT O10 T, lv10, _, _, _, hUz, hR11.lowT T, hb11.lowT hjT, he, xi (hrow11.lowT hjmT) hkl2 (fun q hq => ⟨(hke q hq).1, (((((hke q hq).2.drew).upd hX9).upd hX10).upd hX11).weak (fun b hb => ke hb)⟩) (((((hnt.drew).upd hX9).upd hX10).upd hX11).weak (fun b hb => ke hb))⟩
      |bad p e =>
       have hne7 := (hgX p e rfl).1
       have hple := (hgX p e rfl).2
       rw[hMX]
       refine aO rfl ((by simpa[GT]using hne7)) ?_
       have hb8d := hb8.drew
       have hn8d := hn8.drew
       have hm8d := hm8.upd (aa (S := fun _ => False) (fun h => h) O8 (I5 w8).drew) hjm (fun h => h)
       refine Ja 12 rfl rfl (by kernel_rfl) (by kernel_rfl) ?_
       refine zw (IG rfl) ?_
       refine zw (ao rfl) ?_
       refine zw (RV.fa rfl) ?_
       refine zw (IG rfl) ?_
       refine zw (ao rfl) ?_
       refine zw (RV.fa rfl) ?_
       refine zw (RV.fa rfl) ?_
       refine zw (RV.ld hb8d.q1 rfl) ?_
       refine zw (JG rfl rfl (Jr (by dsimp only; omega))) ?_
       refine zw (IG rfl) ?_
       refine zw (JG rfl rfl (Jr (by dsimp only[atX]; omega))) ?_
       refine zw (IG rfl) ?_
       refine Jz ?_
       refine zc J7 (bC O8 w8.drew j rb ({s with pos := (m:Int) - (r2.length:Int)}:LS) (((m:Int) - (r2.length:Int)) + 1 + (p:Int)) e hj he hb8d) ?_
       rintro u wf ⟨hbf, hUf⟩
       have hnf' := hn8d.upd hUf (by omega) (by omega)
       have hmf' := hm8d.upd hUf hjm (fun e => hne e.symm)
       have hRf' := hR8.drew.upd hUf
       have hUf' := (hU8.drew).trans (hUf.mono (S' := fun q => q = j ∨ q = jm ∨ T ≤ q) (fun _ h => .inl h) hz3)
       have hbf':Jp O8 wf j rb ({s with pos := (m:Int) - (r2.length:Int), bad := ((m:Int) - (r2.length:Int)) + 1 + (p:Int), e := e}:LS).cells 148 := hbf
       clear hbf
       obtain⟨ms, hrow, hkl2, hke⟩ := hmf'
       have hrowD := KK hrow
       have hRD := KX hRf'
       have hbD := Jo hbf'
       have hnD := Jo hnf'
       have hUD := KW hUf'
       refine IF ?_
       refine ai ?_
       refine aL (fun V => ∀(q:Nat) (u:I1), (aW x)[q]? = some u → V.cell? (nA nb q) = some u) 13 rfl (by kernel_rfl) ?_
       refine zin hnD.cellsAdd fun zS => ?_
       refine zrm 0 rfl zS rfl ?_
       refine zrm 1 rfl zS rfl ?_
       refine zr 2 rfl zS (fun _ => ao rfl) ?_
       refine zrf 3 rfl zS rfl ?_
       refine zrm 5 rfl zS rfl ?_
       refine zt 6 rfl zS (fun w1 hw1 => ah (us := aW x) hw1 (Ky _) (Jj _) rfl) ?_
       refine zr 7 rfl zS (fun _ => J1 (vs := [(0, .string (bs nm)), (1, nv x)]) (cells := (kS (nm, x)).toArray) FS (KQ _) rfl (by kernel_rfl)) ?_
       refine bI 4 8 (by kernel_rfl) rfl rfl ?_ ?_
       ·skip
        refine zv (RV.ld hbD.q9 rfl) ?_
        refine IF ?_
        refine ae hnD.cellsAdd ?_
        refine I0 8 (by kernel_rfl) rfl ?_
        refine aH elM (enc := kS) (nm, x) rfl rfl rfl (by decide) rfl ?_
        intro w9 h9 hE9
        have hX9:IQ (fun _ => False) O8 (JK wf) O8 w9 := aa (fun h => h) O8 hE9
        have hb9 := hbD.upd hX9 hj (fun h => h)
        have hn9 := hnD.upd hX9 (by omega) (fun h => h)
        have hrow9 := hrowD.upd hX9 hjm (fun h => h)
        have hR9 := hRD.upd hX9
        have hU9 := hUD.trans (hX9.mono (fun _ h => h.elim) hz3)
        refine IF ?_
        refine ae hn9.cellsAdd ?_
        have hone9:∀u ∈ [((nm, x):M3)], ∀c ∈ kS u, c.oneCell' = true := fun u hu => by
         rw[I2.1 hu]; exact kD hxo
        refine I0 9 (by kernel_rfl) rfl ?_
        refine aC elM hrow9 hR9 h9 (by simp) rfl rfl (fun _ _ => rfl) hone9 (by simp; omega) (by simp; omega) (by omega) rfl ?_
        intro lv10 w10 O10 hrow10 hX10 hR10
        have hb10 := ix hb9 hX10 hj (by omega)
        have hn10 := ix hn9 hX10 (by omega) (by omega)
        have hl10 := hrow10.one
        have hU10 := hU9.trans (hX10.mono (fun _ h => .inr (.inl h)) hz3)
        refine IF ?_
        refine zaf (hn10.cellsAdd) fun zS => ?_
        refine zr 10 rfl zS (fun _ => ao rfl) ?_
        refine zrf 11 rfl zS rfl ?_
        refine I0 12 (by kernel_rfl) rfl ?_
        refine aj (j := 9) hb10 rfl (K2 _) hl10 rfl rfl rfl ?_
        have hX11:IQ (fun q => q = j) O10 w10 O10 (IT w10 ⟨rb, 9, none⟩ lv10) := II (fun e => hj e.symm) hb10.tag rfl
        have hb11:Jp O10 (IT w10 ⟨rb, 9, none⟩ lv10) j rb ({({s with pos := (m:Int) - (r2.length:Int), bad := ((m:Int) - (r2.length:Int)) + 1 + (p:Int), e := e}:LS)with mc := lv10}:LS).cells 148 := hb10.set 9 lv10
        have hn11 := hn10.upd hX11 (by omega) (by omega)
        have hrow11 := hrow10.upd hX11 hjm (fun e => hne e.symm)
        have hU11 := hU10.trans (hX11.mono (fun _ h => .inl h) hz3)
        have hR11 := hR10.upd hX11
        refine IF ?_
        refine ae (hn11.cellsAdd) ?_
        refine IN (by kernel_rfl) ?_
        have hUz := JZ hU11 hT (S' := fun q => q = j ∨ q = jm) (fun b hb => by rcases hb with hb | hb | hb; exact Ke hb; exact Kd hb; have := hT b; omega) hz2
        exact aG rfl ⟨lowT O10 T, lv10, _, _, _, hUz, hR11.lowT T, hb11.lowT hjT, rfl, hne7, by dsimp only; omega⟩
       ·skip
        refine aH elM (enc := kS) (nm, x) rfl rfl rfl (by decide) rfl ?_
        intro w9 h9 hE9
        have hX9:IQ (fun _ => False) O8 (JK wf) O8 w9 := aa (fun h => h) O8 hE9
        have hb9 := hbD.upd hX9 hj (fun h => h)
        have hn9 := hnD.upd hX9 (by omega) (fun h => h)
        have hrow9 := hrowD.upd hX9 hjm (fun h => h)
        have hR9 := hRD.upd hX9
        have hU9 := hUD.trans (hX9.mono (fun _ h => h.elim) hz3)
        refine IF ?_
        refine ae hn9.cellsAdd ?_
        refine I0 4 (by kernel_rfl) rfl ?_
        refine zv (RV.ld hb9.q9 rfl) ?_
        refine IF ?_
        refine ae hn9.cellsAdd ?_
        have hone9:∀u ∈ [((nm, x):M3)], ∀c ∈ kS u, c.oneCell' = true := fun u hu => by
         rw[I2.1 hu]; exact kD hxo
        refine I0 9 (by kernel_rfl) rfl ?_
        refine aC elM hrow9 hR9 h9 (by simp) rfl rfl (fun _ _ => rfl) hone9 (by simp; omega) (by simp; omega) (by omega) rfl ?_
        intro lv10 w10 O10 hrow10 hX10 hR10
        have hb10 := ix hb9 hX10 hj (by omega)
        have hn10 := ix hn9 hX10 (by omega) (by omega)
        have hl10 := hrow10.one
        have hU10 := hU9.trans (hX10.mono (fun _ h => .inr (.inl h)) hz3)
        refine IF ?_
        refine zaf (hn10.cellsAdd) fun zS => ?_
        refine zr 10 rfl zS (fun _ => ao rfl) ?_
        refine zrf 11 rfl zS rfl ?_
        refine I0 12 (by kernel_rfl) rfl ?_
        refine aj (j := 9) hb10 rfl (K2 _) hl10 rfl rfl rfl ?_
        have hX11:IQ (fun q => q = j) O10 w10 O10 (IT w10 ⟨rb, 9, none⟩ lv10) := II (fun e => hj e.symm) hb10.tag rfl
        have hb11:Jp O10 (IT w10 ⟨rb, 9, none⟩ lv10) j rb ({({s with pos := (m:Int) - (r2.length:Int), bad := ((m:Int) - (r2.length:Int)) + 1 + (p:Int), e := e}:LS)with mc := lv10}:LS).cells 148 := hb10.set 9 lv10
        have hn11 := hn10.upd hX11 (by omega) (by omega)
        have hrow11 := hrow10.upd hX11 hjm (fun e => hne e.symm)
        have hU11 := hU10.trans (hX11.mono (fun _ h => .inl h) hz3)
        have hR11 := hR10.upd hX11
        refine IF ?_
        refine ae (hn11.cellsAdd) ?_
        refine IN (by kernel_rfl) ?_
        have hUz := JZ hU11 hT (S' := fun q => q = j ∨ q = jm) (fun b hb => by rcases hb with hb | hb | hb; exact Ke hb; exact Kd hb; have := hT b; omega) hz2
        exact aG rfl ⟨lowT O10 T, lv10, _, _, _, hUz, hR11.lowT T, hb11.lowT hjT, rfl, hne7, by dsimp only; omega⟩
    ·have hM:su kn r = .bad r2.length 4 := by rw[hMK, if_neg hc]
     rw[hM]
     refine aO rfl ((uJ _ 61 (by decide) hc)) ?_
     have hbe := hb5.drew
     refine J3 ?_
     refine Ja 8 rfl rfl (by kernel_rfl) (by kernel_rfl) ?_
     refine zw (IG rfl) ?_
     refine zw (ao rfl) ?_
     refine zw (RV.fa rfl) ?_
     refine zw (IG rfl) ?_
     refine zw (ao rfl) ?_
     refine zw (RV.fa rfl) ?_
     refine zw (RV.fa rfl) ?_
     refine zw (RV.ld hbe.q1 rfl) ?_
     refine Jz ?_
     refine zc J7 (bC O w5.drew j rb ({s with pos := (m:Int) - (r2.length:Int)}:LS) ((m:Int) - (r2.length:Int)) 4 hj he hbe) ?_
     rintro u w6 ⟨hb6, hU6⟩
     refine IF ?_
     refine ai ?_
     refine KC ?_
     refine cu ?_
     exact cj rfl ⟨O, s.mc, _, _, _, hpv ((hUt5.drew).trans (hU6.mono (fun _ h => .inl h) hz3)), hR5.drew.upd hU6, hb6, rfl, by decide, rfl⟩
  ·have hM:su kn r = .bad (aq r).length (eC kn ((aq r).takeWhile ak)) := by unfold su; rw[if_neg hnm, if_pos htk]
   rw[hM]
   refine aO rfl ((by simpa using htk)) ?_
   refine J3 ?_
   refine J8 ?_
   refine zv (IG rfl) ?_
   refine zv (ao rfl) ?_
   refine zv (RV.fa rfl) ?_
   refine zv (IG rfl) ?_
   refine zv (IG rfl) ?_
   refine zc J7 (bC O w3 j rb ({s with pos := (m:Int) - (((aq r).dropWhile ak).length:Int)}:LS) ((m:Int) - ((aq r).length:Int)) (eC kn ((aq r).takeWhile ak)) hj he hb3) ?_
   rintro u w4 ⟨hb4, hU4⟩
   refine IF ?_
   refine ai ?_
   refine KC ?_
   refine cu ?_
   exact cj rfl ⟨O, s.mc, _, _, _, hpv (hUt3.trans (hU4.mono (fun _ h => .inl h) hz3)), hR3.upd hU4, hb4, rfl, htk, rfl⟩
end
theorem Ih:Elem J4 25 3 1 8:=⟨JH,by kernel_rfl,zd⟩
inductive LM where
 |ok (l:List Int)
 |bad (p:Nat) (e:Int)
def gy:Nat->List Int->List UInt8->LM
 |0,acc,_=>.ok acc
 |n+1,acc,r=>
  if(aq r).length=0 then .ok acc
  else if(aq r).takeWhile ak=[]then .bad (aq r).length 4
  else match zP ((aq r).takeWhile ak)with
   |none=>.bad (aq r).length 5
   |some c=>gy n (acc++[(c:Int)]) ((aq r).dropWhile ak)
def GP:LM->LM
 |.bad p e=>.bad p e
 |.ok []=>.bad 0 4
 |.ok (a::l)=>.ok (K1 (gD (a::l)))
def da(r:List UInt8):LM:=GP (gy (r.length+1) [] r)
theorem rn{x:List UInt8}(h:x.takeWhile ak≠[]):(x.dropWhile ak).length<x.length:=by
 have:=congrArg KI (List.takeWhile_append_dropWhile (p:=ak) (l:=x));rw[I8]at this;have:=Jq.2 h;omega
def Gi(m:Nat)(w':ID)(O':Nat->Nat)(ji:Nat)(lv:I1)(bad e:Int):LM->Prop
 |.ok l=>e=0/\Kx encI 3 1 O' w' ji lv l
 |.bad p e'=>e=e'/\e'≠0/\bad=(m:Int)-(p:Int)
theorem oR(O:Nat->Nat)(w:ID)(j rb:Nat)(s:LS)(hj:j≠0)(he:s.e=0)(a0:s.i=true)(h:K9 O w j rb s):
  JQ J4 106 [nP rb,.pointer (some ⟨rb,6,none⟩),.pointer (some ⟨rb,10,none⟩)] w fun _ w'=>K9 O w' j rb {s with bad:=s.bg,e:=11}/\IQ (fun k=>k=j) O w O w':=by
 have q0:=h.q10;rw[a0]at q0;have q3:=h.q3;have hd:=h.drew;have a3:IQ (fun k=>k=j) O w O w.drew:=(JY (fun e=>hj e.symm) O w).drew;refine I7 Kz Kk rfl rfl ?_;refine zg ?_;refine zvG (RV.ld q0 rfl) ?_;refine zTG rfl rfl ?_;refine Ja 8 rfl rfl zk zk ?_;refine zg ?_;refine zw (RV.ld q3 rfl) ?_;refine Jz ?_;refine zc J7 (bC O w.drew j rb s s.bg 11 hj he hd) ?_;rintro u w1 ⟨a1,a2⟩;refine zg ?_;exact cj rfl ⟨a1,a3.trans a2⟩
theorem oQ(O:Nat->Nat)(w:ID)(j rb:Nat)(s:LS)(hj:j≠0)(he:s.e=0)(a0:s.k=true)(h:K9 O w j rb s):
  JQ J4 106 [nP rb,.pointer (some ⟨rb,7,none⟩),.pointer (some ⟨rb,11,none⟩)] w fun _ w'=>K9 O w' j rb {s with bad:=s.bg,e:=11}/\IQ (fun k=>k=j) O w O w':=by
 have q0:=h.q11;rw[a0]at q0;have q3:=h.q3;have hd:=h.drew;have a3:IQ (fun k=>k=j) O w O w.drew:=(JY (fun e=>hj e.symm) O w).drew;refine I7 Kz Kk rfl rfl ?_;refine zg ?_;refine zvG (RV.ld q0 rfl) ?_;refine zTG rfl rfl ?_;refine Ja 8 rfl rfl zk zk ?_;refine zg ?_;refine zw (RV.ld q3 rfl) ?_;refine Jz ?_;refine zc J7 (bC O w.drew j rb s s.bg 11 hj he hd) ?_;rintro u w1 ⟨a1,a2⟩;refine zg ?_;exact cj rfl ⟨a1,a3.trans a2⟩
theorem rm:∀(n:Nat) (a0:List Int) (r:List UInt8) (p:Nat) (e:Int),gy n a0 r=.bad p e->p<=r.length
 |0,_,_,_,_,h=>by cases h
 |n+1,a0,r,p,e,h=>by
  have hs:=dc r;unfold gy at h
  split at h
  ·cases h
  split at h
  ·cases h;exact hs
  split at h
  ·cases h;exact hs
  have h1:=rm n _ _ p e h;have h2:=(ka (l:=aq r) ak).length_le;omega
theorem mC{r:List UInt8}{p:Nat}{e:Int}(h:da r=.bad p e):p<=r.length:=by
 unfold da at h
 cases hw:gy (r.length+1) [] r with
 |bad q f=>rw[hw]at h;cases h;exact rm _ _ _ _ _ hw
 |ok l=>
  rw[hw]at h
  cases l with
  |nil=>cases h;exact IV _
  |cons a l=>cases h
theorem so(B:Nat)(O:Nat->Nat)(w:ID)(j ji rb:Nat)(s:LS)(m:Nat)(r0:List UInt8)(hR:K4 B O w)(hj:j≠0)(a8:ji≠0)(a9:j≠ji)(hm:m<=s.l.length)(hl:s.l.length<=100000)(d6:s.to=(m:Int))(he:s.e=0)(g1:s.i=false)(g2:s.ig=qY)
  (hr:r0 <:+ s.l.take m) (hp:s.pos=(m:Int)-(r0.length:Int)) (h:K9 O w j rb s) :
  JQ J4 106 [nP rb,.pointer (some ⟨rb,6,none⟩),.pointer (some ⟨rb,10,none⟩)] w fun _ w'=>∃O' lv pos bad e,IQ (fun k=>k=j\/k=ji) O w O' w'/\K4 B O' w'/\K9 O' w' j rb {s with pos:=pos,bad:=bad,e:=e,ig:=lv,i:=true}/\Gi m w' O' ji lv bad e (da r0):=by
 have a0:¬(fun q:Nat=>q=j\/q=ji) 0:=fun e=>by rcases e with e|e;exact hj e.symm;exact a8 e.symm
 have h1:r0.length<=m:=by have:=hr.length_le;simp at this;omega
 have q0:=h.q10;rw[g1]at q0;refine I7 Kz Kk rfl rfl ?_;refine zg ?_;refine zvG (RV.ld q0 rfl) ?_;refine zFG rfl rfl ?_;refine aj (j:=10) h rfl (sizeOf4 _) rfl rfl rfl rfl ?_;have g4:K9 O (w.setCell ⟨rb,10,none⟩ (.bool true)) j rb {s with i:=true}:=KP h 10 _;have f6:IQ (fun k=>k=j) O w O (w.setCell ⟨rb,10,none⟩ (.bool true)):=II (fun e=>hj e.symm) h.tag rfl;have g7:=hR.upd f6;generalize w.setCell ⟨rb,10,none⟩ (.bool true)=w1 at *;obtain⟨M,d1⟩:∃M,M=gy (r0.length+1) [] r0:=⟨_,rfl⟩
 refine zg ?_;refine zlp (fun y:Nat×List Int×List UInt8×(Nat->Nat)×World×I1=>[(0,nP rb),(1,.pointer (some ⟨rb,6,none⟩))]) (fun y=>y.2.2.2.2.1) (fun y=>K9 y.2.2.2.1 y.2.2.2.2.1 j rb {s with pos:=(m:Int)-(y.2.2.1.length:Int),ig:=y.2.2.2.2.2,i:=true}/\Kx encI 3 1 y.2.2.2.1 y.2.2.2.2.1 ji y.2.2.2.2.2 y.2.1/\y.2.2.1 <:+ s.l.take m/\gy y.1 y.2.1 y.2.2.1=M/\y.2.2.1.length<y.1/\y.2.1.length+y.2.2.1.length<=r0.length/\IQ (fun k=>k=j\/k=ji) O w y.2.2.2.1 y.2.2.2.2.1/\K4 B y.2.2.2.1 y.2.2.2.2.1) (fun y=>y.1) (r0.length+1,[],r0,O,w1,qY) (⟨by dsimp only;rw[<-hp,<-g2];exact g4,Jd _ _ _ _ _ _,hr,d1.symm,JD _,by simp,f6.mono (fun _ h=>.inl h) a0,g7⟩) ?_
 rintro⟨n,d5,r,O1,w2,lv⟩ ⟨f4,b1,b2,a4,hn,g5,f5,f7⟩;dsimp only at f4 b1 b2 a4 hn g5 f5 f7 ⊢;obtain⟨n,rfl⟩:∃q,n=q+1:=⟨n-1,by omega⟩
 have g':=dc r;unfold gy at a4;refine zg ?_;refine zc JS (dC O1 w2 j rb ({s with pos:=(m:Int)-((r).length:Int),ig:=lv,i:=true}:LS) m r hj hm hl d6 b2 rfl f4) ?_;rintro v w3 ⟨rfl,b6,e6⟩;have a3:=b1.upd e6 a8 (fun e=>a9 e.symm);have f3:=f7.upd e6;have b9:=f5.trans (e6.mono (fun _ h=>.inl h) a0);refine zg ?_
 by_cases h0:(aq r).length=0
 ·rw[if_pos h0]at a4;refine aR rfl ((decide_eq_false zo)) ?_;have f9:=b6.q6;have d7:=a3.sl;refine zg ?_;refine zv (RV.ld f9 rfl) ?_;refine zvG (KE (by first|exact d7) JH rfl) ?_
  rcases d5 with _|⟨a,d5⟩
  ·have hM:da r0=.bad 0 4:=by unfold da;rw[<-d1,<-a4];rfl
   rw[hM];refine aO rfl rfl ?_;have d':=b6.q2;dsimp only at d';rw[d6]at d';have hb3d:=b6.drew;have hrow3d:=a3.drew;have hR3d:=f3.drew;have hUt3d:=b9.drew;refine Ja 8 rfl rfl zk zk ?_;refine zg ?_;refine zw (RV.ld d' rfl) ?_;refine Jz ?_;refine zc J7 (bC O1 w3.drew j rb ({s with pos:=(m:Int)-((aq r).length:Int),ig:=lv,i:=true}:LS) (m:Int) 4 hj he hb3d) ?_;rintro u w7 ⟨b',c5⟩;have a2:=hrow3d.upd c5 a8 (fun e=>a9 e.symm);have e9:=hR3d.upd c5;have e3:=hUt3d.trans (c5.mono (fun _ h=>.inl h) a0);have d9:=L0 b';refine zg ?_;refine zv (RV.ld d9 rfl) ?_;refine zc KB (jN e9 a2 a8 zo) ?_;rintro u w8 ⟨a6,a',e8⟩;have b5:=ix b' a' hj a9;have d8:=b5.q6;refine zg ?_;refine zv (RV.ld d8 rfl) ?_;refine zc KA (ew e8 a6 a8 (by rw[dK];omega)) ?_;rintro u w9 ⟨a1,c',e7⟩;have b4:=b5.upd c' hj a9;have a7:=a1.one;refine zg ?_;refine aj (j:=6) b4 rfl (JJ _) a7 rfl rfl rfl ?_;have b7:=b4.set 6 u;have a5:IQ (fun k=>k=j) O1 w9 O1 (w9.setCell ⟨rb,6,none⟩ u):=II (fun e=>hj e.symm) b4.tag rfl;have e1:=((e3.trans (a'.mono (fun _ h=>.inr h) a0)).trans (c'.mono (fun _ h=>.inr h) a0)).trans (a5.mono (fun _ h=>.inl h) a0);refine zg ?_;exact aG rfl ⟨O1,u,_,(m:Int),4,e1,e7.upd a5,b7,⟨rfl,by decide,by simp⟩⟩
  have hM:da r0=.ok (K1 (gD (a::d5))):=by unfold da;rw[<-d1,<-a4];rfl
  rw[hM];refine aR rfl ((beq_eq_false_iff_ne.2 (by simp;omega))) ?_;have d9:=L0 b6;refine zg ?_;refine zv (RV.ld d9 rfl) ?_;refine zc KB (jN f3 a3 a8 zo) ?_;rintro u w8 ⟨a6,a',e8⟩;have b5:=ix b6 a' hj a9;have d8:=b5.q6;refine zg ?_;refine zv (RV.ld d8 rfl) ?_;refine zc KA (ew e8 a6 a8 (by rw[dK];omega)) ?_;rintro u w9 ⟨a1,c',e7⟩;have b4:=b5.upd c' hj a9;have a7:=a1.one;refine zg ?_;refine aj (j:=6) b4 rfl (JJ _) a7 rfl rfl rfl ?_;have b7:=b4.set 6 u;have a5:IQ (fun k=>k=j) O1 w9 O1 (w9.setCell ⟨rb,6,none⟩ u):=II (fun e=>hj e.symm) b4.tag rfl;have e1:=((b9.trans (a'.mono (fun _ h=>.inr h) a0)).trans (c'.mono (fun _ h=>.inr h) a0)).trans (a5.mono (fun _ h=>.inl h) a0);refine zg ?_;exact aG rfl ⟨O1,u,_,_,_,e1,e7.upd a5,b7,⟨he,a1.upd a5 a8 (fun e=>a9 e.symm)⟩⟩
 rw[if_neg h0]at a4;refine aO rfl ((decide_eq_true zo)) ?_;have f':=b6.q1;have b0:=(aX r).trans b2;refine zg ?_;refine zvG (RV.ld f' rfl) ?_;refine zc K8 (gH O1 w3 j rb ({s with pos:=(m:Int)-((aq r).length:Int),ig:=lv,i:=true}:LS) m (aq r) hj hm hl d6 b0 rfl b6) ?_;rintro v w4 ⟨rfl,g3,e5⟩;have c7:=a3.upd e5 a8 (fun e=>a9 e.symm);have g6:=f3.upd e5;have e4:=b9.trans (e5.mono (fun _ h=>.inl h) a0);refine zg ?_;refine zc KV (iD ((aq r).takeWhile ak) w4) ?_;rintro v w5 ⟨rfl,g8⟩;have d4:IQ (fun _=>False) O1 w4 O1 w5:=aa (fun h=>h) O1 g8;have d3:=g3.upd d4 hj (fun h=>h);have c6:=c7.upd d4 a8 (fun h=>h);have e':=g6.upd d4;have b8:=e4.trans (d4.mono (fun _ h=>h.elim) a0);refine zg ?_;refine zvG (cH rfl rfl) ?_
 by_cases c9:(aq r).takeWhile ak=[]
 ·rw[if_pos c9]at a4;have hM:da r0=.bad (aq r).length 4:=by unfold da;rw[<-d1,<-a4];rfl
  rw[hM];refine zTG rfl ((by simpa using c9)) ?_;refine zc J7 (bC O1 w5 j rb ({s with pos:=(m:Int)-(((aq r).dropWhile ak).length:Int),ig:=lv,i:=true}:LS) ((m:Int)-((aq r).length:Int)) 4 hj he d3) ?_;rintro u w6 ⟨e0,d0⟩;refine zg ?_;exact cj rfl ⟨O1,lv,_,_,_,b8.trans (d0.mono (fun _ h=>.inl h) a0),e'.upd d0,e0,rfl,by decide,rfl⟩
 rw[if_neg c9]at a4;have g9:=rn c9;refine zFG rfl ((by simpa using c9)) ?_
 cases b3:zP ((aq r).takeWhile ak)with
 |none=>
  rw[b3]at a4;have hM:da r0=.bad (aq r).length 5:=by unfold da;rw[<-d1,<-a4];rfl
  rw[hM];refine zTG rfl rfl ?_;refine zc J7 (bC O1 w5 j rb ({s with pos:=(m:Int)-(((aq r).dropWhile ak).length:Int),ig:=lv,i:=true}:LS) ((m:Int)-((aq r).length:Int)) 5 hj he d3) ?_;rintro u w6 ⟨e0,d0⟩;refine zg ?_;exact cj rfl ⟨O1,lv,_,_,_,b8.trans (d0.mono (fun _ h=>.inl h) a0),e'.upd d0,e0,rfl,by decide,rfl⟩
 |some c=>
  rw[b3]at a4;dsimp only at a4;have g0:CT ((aq r).takeWhile ak)=(c:Int):=by unfold CT;rw[b3]
  rw[g0];refine aR rfl rfl ?_;have f8:=d3.q6;refine zg ?_;refine zvG (RV.ld f8 rfl) ?_;refine L5 Ih c6 e' ((c:Int)) (fun _=>rfl) rfl rfl rfl (by simp[IU,encI]) zo zo zo zd rfl rfl ?_;intro d2 w7 O7 a2 c5 e9;have c8:=a2.one;have b':=d3.upd c5 hj a9;refine zg ?_;refine aj (j:=6) b' rfl (JJ _) c8 rfl rfl rfl ?_;have b5:=b'.set 6 d2;have a':IQ (fun k=>k=j) O7 w7 O7 (w7.setCell ⟨rb,6,none⟩ d2):=II (fun e=>hj e.symm) b'.tag rfl;have e2:=(b8.trans (c5.mono (fun _ h=>.inr h) a0)).trans (a'.mono (fun _ h=>.inl h) a0);refine zg ?_;refine zxd (n,d5++[(c:Int)],(aq r).dropWhile ak,O7,(w7.setCell ⟨rb,6,none⟩ d2),d2) (⟨b5,a2.upd a' a8 (fun e=>a9 e.symm),(ka _).trans b0,a4,by dsimp only;omega,by simp;omega,e2,e9.upd a'⟩)
theorem sn(B:Nat)(O:Nat->Nat)(w:ID)(j ji rb:Nat)(s:LS)(m:Nat)(r0:List UInt8)(hR:K4 B O w)(hj:j≠0)(a8:ji≠0)(a9:j≠ji)(hm:m<=s.l.length)(hl:s.l.length<=100000)(d6:s.to=(m:Int))(he:s.e=0)(g1:s.k=false)(g2:s.kp=qY)
  (hr:r0 <:+ s.l.take m) (hp:s.pos=(m:Int)-(r0.length:Int)) (h:K9 O w j rb s) :
  JQ J4 106 [nP rb,.pointer (some ⟨rb,7,none⟩),.pointer (some ⟨rb,11,none⟩)] w fun _ w'=>∃O' lv pos bad e,IQ (fun k=>k=j\/k=ji) O w O' w'/\K4 B O' w'/\K9 O' w' j rb {s with pos:=pos,bad:=bad,e:=e,kp:=lv,k:=true}/\Gi m w' O' ji lv bad e (da r0):=by
 have a0:¬(fun q:Nat=>q=j\/q=ji) 0:=fun e=>by rcases e with e|e;exact hj e.symm;exact a8 e.symm
 have h1:r0.length<=m:=by have:=hr.length_le;simp at this;omega
 have q0:=h.q11;rw[g1]at q0;refine I7 Kz Kk rfl rfl ?_;refine zg ?_;refine zvG (RV.ld q0 rfl) ?_;refine zFG rfl rfl ?_;refine aj (j:=11) h rfl (sizeOf4 _) rfl rfl rfl rfl ?_;have g4:K9 O (w.setCell ⟨rb,11,none⟩ (.bool true)) j rb {s with k:=true}:=KP h 11 _;have f6:IQ (fun k=>k=j) O w O (w.setCell ⟨rb,11,none⟩ (.bool true)):=II (fun e=>hj e.symm) h.tag rfl;have g7:=hR.upd f6;generalize w.setCell ⟨rb,11,none⟩ (.bool true)=w1 at *;obtain⟨M,d1⟩:∃M,M=gy (r0.length+1) [] r0:=⟨_,rfl⟩
 refine zg ?_;refine zlp (fun y:Nat×List Int×List UInt8×(Nat->Nat)×World×I1=>[(0,nP rb),(1,.pointer (some ⟨rb,7,none⟩))]) (fun y=>y.2.2.2.2.1) (fun y=>K9 y.2.2.2.1 y.2.2.2.2.1 j rb {s with pos:=(m:Int)-(y.2.2.1.length:Int),kp:=y.2.2.2.2.2,k:=true}/\Kx encI 3 1 y.2.2.2.1 y.2.2.2.2.1 ji y.2.2.2.2.2 y.2.1/\y.2.2.1 <:+ s.l.take m/\gy y.1 y.2.1 y.2.2.1=M/\y.2.2.1.length<y.1/\y.2.1.length+y.2.2.1.length<=r0.length/\IQ (fun k=>k=j\/k=ji) O w y.2.2.2.1 y.2.2.2.2.1/\K4 B y.2.2.2.1 y.2.2.2.2.1) (fun y=>y.1) (r0.length+1,[],r0,O,w1,qY) (⟨by dsimp only;rw[<-hp,<-g2];exact g4,Jd _ _ _ _ _ _,hr,d1.symm,JD _,by simp,f6.mono (fun _ h=>.inl h) a0,g7⟩) ?_
 rintro⟨n,d5,r,O1,w2,lv⟩ ⟨f4,b1,b2,a4,hn,g5,f5,f7⟩;dsimp only at f4 b1 b2 a4 hn g5 f5 f7 ⊢;obtain⟨n,rfl⟩:∃q,n=q+1:=⟨n-1,by omega⟩
 have g':=dc r;unfold gy at a4;refine zg ?_;refine zc JS (dC O1 w2 j rb ({s with pos:=(m:Int)-((r).length:Int),kp:=lv,k:=true}:LS) m r hj hm hl d6 b2 rfl f4) ?_;rintro v w3 ⟨rfl,b6,e6⟩;have a3:=b1.upd e6 a8 (fun e=>a9 e.symm);have f3:=f7.upd e6;have b9:=f5.trans (e6.mono (fun _ h=>.inl h) a0);refine zg ?_
 by_cases h0:(aq r).length=0
 ·rw[if_pos h0]at a4;refine aR rfl ((decide_eq_false zo)) ?_;have f9:=b6.q7;have d7:=a3.sl;refine zg ?_;refine zv (RV.ld f9 rfl) ?_;refine zvG (KE (by first|exact d7) JH rfl) ?_
  rcases d5 with _|⟨a,d5⟩
  ·have hM:da r0=.bad 0 4:=by unfold da;rw[<-d1,<-a4];rfl
   rw[hM];refine aO rfl rfl ?_;have d':=b6.q2;dsimp only at d';rw[d6]at d';have hb3d:=b6.drew;have hrow3d:=a3.drew;have hR3d:=f3.drew;have hUt3d:=b9.drew;refine Ja 8 rfl rfl zk zk ?_;refine zg ?_;refine zw (RV.ld d' rfl) ?_;refine Jz ?_;refine zc J7 (bC O1 w3.drew j rb ({s with pos:=(m:Int)-((aq r).length:Int),kp:=lv,k:=true}:LS) (m:Int) 4 hj he hb3d) ?_;rintro u w7 ⟨b',c5⟩;have a2:=hrow3d.upd c5 a8 (fun e=>a9 e.symm);have e9:=hR3d.upd c5;have e3:=hUt3d.trans (c5.mono (fun _ h=>.inl h) a0);have d9:=KZ b';refine zg ?_;refine zv (RV.ld d9 rfl) ?_;refine zc KB (jN e9 a2 a8 zo) ?_;rintro u w8 ⟨a6,a',e8⟩;have b5:=ix b' a' hj a9;have d8:=b5.q7;refine zg ?_;refine zv (RV.ld d8 rfl) ?_;refine zc KA (ew e8 a6 a8 (by rw[dK];omega)) ?_;rintro u w9 ⟨a1,c',e7⟩;have b4:=b5.upd c' hj a9;have a7:=a1.one;refine zg ?_;refine aj (j:=7) b4 rfl (JJ _) a7 rfl rfl rfl ?_;have b7:=b4.set 7 u;have a5:IQ (fun k=>k=j) O1 w9 O1 (w9.setCell ⟨rb,7,none⟩ u):=II (fun e=>hj e.symm) b4.tag rfl;have e1:=((e3.trans (a'.mono (fun _ h=>.inr h) a0)).trans (c'.mono (fun _ h=>.inr h) a0)).trans (a5.mono (fun _ h=>.inl h) a0);refine zg ?_;exact aG rfl ⟨O1,u,_,(m:Int),4,e1,e7.upd a5,b7,⟨rfl,by decide,by simp⟩⟩
  have hM:da r0=.ok (K1 (gD (a::d5))):=by unfold da;rw[<-d1,<-a4];rfl
  rw[hM];refine aR rfl ((beq_eq_false_iff_ne.2 (by simp;omega))) ?_;have d9:=KZ b6;refine zg ?_;refine zv (RV.ld d9 rfl) ?_;refine zc KB (jN f3 a3 a8 zo) ?_;rintro u w8 ⟨a6,a',e8⟩;have b5:=ix b6 a' hj a9;have d8:=b5.q7;refine zg ?_;refine zv (RV.ld d8 rfl) ?_;refine zc KA (ew e8 a6 a8 (by rw[dK];omega)) ?_;rintro u w9 ⟨a1,c',e7⟩;have b4:=b5.upd c' hj a9;have a7:=a1.one;refine zg ?_;refine aj (j:=7) b4 rfl (JJ _) a7 rfl rfl rfl ?_;have b7:=b4.set 7 u;have a5:IQ (fun k=>k=j) O1 w9 O1 (w9.setCell ⟨rb,7,none⟩ u):=II (fun e=>hj e.symm) b4.tag rfl;have e1:=((b9.trans (a'.mono (fun _ h=>.inr h) a0)).trans (c'.mono (fun _ h=>.inr h) a0)).trans (a5.mono (fun _ h=>.inl h) a0);refine zg ?_;exact aG rfl ⟨O1,u,_,_,_,e1,e7.upd a5,b7,⟨he,a1.upd a5 a8 (fun e=>a9 e.symm)⟩⟩
 rw[if_neg h0]at a4;refine aO rfl ((decide_eq_true zo)) ?_;have f':=b6.q1;have b0:=(aX r).trans b2;refine zg ?_;refine zvG (RV.ld f' rfl) ?_;refine zc K8 (gH O1 w3 j rb ({s with pos:=(m:Int)-((aq r).length:Int),kp:=lv,k:=true}:LS) m (aq r) hj hm hl d6 b0 rfl b6) ?_;rintro v w4 ⟨rfl,g3,e5⟩;have c7:=a3.upd e5 a8 (fun e=>a9 e.symm);have g6:=f3.upd e5;have e4:=b9.trans (e5.mono (fun _ h=>.inl h) a0);refine zg ?_;refine zc KV (iD ((aq r).takeWhile ak) w4) ?_;rintro v w5 ⟨rfl,g8⟩;have d4:IQ (fun _=>False) O1 w4 O1 w5:=aa (fun h=>h) O1 g8;have d3:=g3.upd d4 hj (fun h=>h);have c6:=c7.upd d4 a8 (fun h=>h);have e':=g6.upd d4;have b8:=e4.trans (d4.mono (fun _ h=>h.elim) a0);refine zg ?_;refine zvG (cH rfl rfl) ?_
 by_cases c9:(aq r).takeWhile ak=[]
 ·rw[if_pos c9]at a4;have hM:da r0=.bad (aq r).length 4:=by unfold da;rw[<-d1,<-a4];rfl
  rw[hM];refine zTG rfl ((by simpa using c9)) ?_;refine zc J7 (bC O1 w5 j rb ({s with pos:=(m:Int)-(((aq r).dropWhile ak).length:Int),kp:=lv,k:=true}:LS) ((m:Int)-((aq r).length:Int)) 4 hj he d3) ?_;rintro u w6 ⟨e0,d0⟩;refine zg ?_;exact cj rfl ⟨O1,lv,_,_,_,b8.trans (d0.mono (fun _ h=>.inl h) a0),e'.upd d0,e0,rfl,by decide,rfl⟩
 rw[if_neg c9]at a4;have g9:=rn c9;refine zFG rfl ((by simpa using c9)) ?_
 cases b3:zP ((aq r).takeWhile ak)with
 |none=>
  rw[b3]at a4;have hM:da r0=.bad (aq r).length 5:=by unfold da;rw[<-d1,<-a4];rfl
  rw[hM];refine zTG rfl rfl ?_;refine zc J7 (bC O1 w5 j rb ({s with pos:=(m:Int)-(((aq r).dropWhile ak).length:Int),kp:=lv,k:=true}:LS) ((m:Int)-((aq r).length:Int)) 5 hj he d3) ?_;rintro u w6 ⟨e0,d0⟩;refine zg ?_;exact cj rfl ⟨O1,lv,_,_,_,b8.trans (d0.mono (fun _ h=>.inl h) a0),e'.upd d0,e0,rfl,by decide,rfl⟩
 |some c=>
  rw[b3]at a4;dsimp only at a4;have g0:CT ((aq r).takeWhile ak)=(c:Int):=by unfold CT;rw[b3]
  rw[g0];refine aR rfl rfl ?_;have f8:=d3.q7;refine zg ?_;refine zvG (RV.ld f8 rfl) ?_;refine L5 Ih c6 e' ((c:Int)) (fun _=>rfl) rfl rfl rfl (by simp[IU,encI]) zo zo zo zd rfl rfl ?_;intro d2 w7 O7 a2 c5 e9;have c8:=a2.one;have b':=d3.upd c5 hj a9;refine zg ?_;refine aj (j:=7) b' rfl (JJ _) c8 rfl rfl rfl ?_;have b5:=b'.set 7 d2;have a':IQ (fun k=>k=j) O7 w7 O7 (w7.setCell ⟨rb,7,none⟩ d2):=II (fun e=>hj e.symm) b'.tag rfl;have e2:=(b8.trans (c5.mono (fun _ h=>.inr h) a0)).trans (a'.mono (fun _ h=>.inl h) a0);refine zg ?_;refine zxd (n,d5++[(c:Int)],(aq r).dropWhile ak,O7,(w7.setCell ⟨rb,7,none⟩ d2),d2) (⟨b5,a2.upd a' a8 (fun e=>a9 e.symm),(ka _).trans b0,a4,by dsimp only;omega,by simp;omega,e2,e9.upd a'⟩)
structure St where
 ts:List R3
 li:List Int
 lk:List Int
 hi:Bool
 hk:Bool
inductive RS where
 |go (s:St)
 |bad (p:Nat) (e:Int)
 |other
def G0(st:St)(d:Nat):LM->RS
 |.ok l=>.go {st with li:=l,hi:=true}
 |.bad p e=>.bad (d-p) e
def GZ(st:St)(d:Nat):LM->RS
 |.ok l=>.go {st with lk:=l,hk:=true}
 |.bad p e=>.bad (d-p) e
def GY(st:St)(d:Nat):LR->RS
 |.ok t=>.go {st with ts:=st.ts++[t]}
 |.bad p e=>.bad (d+p) e
structure Mem(O:Nat->Nat)(w:ID)(jr ji jk:Nat)(s:LS)(st:St):Prop where
 ru:∃xs,Kx cd 88 7 O w jr s.ru xs/\st.ts.length=xs.length/\xs.length<=40/\∀i,i<xs.length->Rt O w (nth st.ts i) (nth xs i)
 ig:Kx encI 3 1 O w ji s.ig st.li
 kp:Kx encI 3 1 O w jk s.kp st.lk
 fi:s.i=st.hi
 fk:s.k=st.hk
 ni:st.hi=false->s.ig=qY
 nk:st.hk=false->s.kp=qY
theorem Mem.upd{S:Nat->Prop}{O O':Nat->Nat}{w w':ID}{jr ji jk:Nat}{s:LS}{st:St}(h:Mem O w jr ji jk s st)(u:IQ S O w O' w')(h1:jr≠0)(h2:ji≠0)(h3:jk≠0)(g1:¬S jr)(g2:¬S ji)(g3:¬S jk):Mem O' w' jr ji jk s st:=by
 obtain⟨⟨xs,a1,a2,a3,a4⟩,b,c,d,e,f,g⟩:=h;exact⟨⟨xs,a1.upd u h1 g1,a2,a3,fun i hi=>(a4 i hi).upd u⟩,b.upd u h2 g2,c.upd u h3 g3,d,e,f,g⟩
theorem Mem.with{O:Nat->Nat}{w:ID}{jr ji jk:Nat}{s s':LS}{st:St}(h:Mem O w jr ji jk s st)(e1:s'.ru=s.ru)(e2:s'.ig=s.ig)(e3:s'.kp=s.kp)(e4:s'.i=s.i)(e5:s'.k=s.k):Mem O w jr ji jk s' st:=by
 obtain⟨a,b,c,d,e,f,g⟩:=h;exact⟨by rw[e1];exact a,by rw[e2];exact b,by rw[e3];exact c,by rw[e4];exact d,by rw[e5];exact e,by rw[e2];exact f,by rw[e3];exact g⟩
section
variable{kn:Kn}
inductive RK where
 |go (kn:Kn) (st:St)
 |bad (p:Nat) (e:Int)
def oi(kn:Kn):RS->RK
 |.go st=>.go kn st
 |.bad p e=>.bad p e
 |.other=>.bad 0 0
def Gu(kn:Kn)(st:St)(d:Nat):ML->RK
 |.ok x=>.go (kn++[x]) st
 |.bad p e=>.bad (d-p) e
def cJ(kn:Kn)(st:St)(a0:List UInt8):RK:=
 if(aY a0).length=0 then .go kn st
 else if((aY a0).takeWhile ak==[108,101,116])=true then Gu kn st (bx a0).length (su kn ((aY a0).dropWhile ak))
 else if((aY a0).takeWhile ak==[105,103,110,111,114,101])=true then
  (if st.hi=true then .bad ((bx a0).length-(aY a0).length) 11 else oi kn (G0 st (bx a0).length (da ((aY a0).dropWhile ak))))
 else if((aY a0).takeWhile ak==[107,101,101,112])=true then
  (if st.hk=true then .bad ((bx a0).length-(aY a0).length) 11 else oi kn (GZ st (bx a0).length (da ((aY a0).dropWhile ak))))
 else oi kn (GY st ((bx a0).length-(aY a0).length) (if st.ts.length=40 then Kh 0 3 else iU kn (aY a0)))
def Gh(B:Nat)(O:Nat->Nat)(w w':ID)(j jr ji jk jm rb:Nat)(s:LS)(fr:Nat)(M:RK):Prop:=
 ∃O' s',IQ (fun k=>k=j\/k=jr\/k=ji\/k=jk\/k=jm) O w O' w'/\K4 B O' w'/\K9 O' w' j rb s'/\s'.l=s.l/\
  match M with
  |.go kn' st'=>s'.e=0/\Mem O' w' jr ji jk s' st'/\Mac O' w' jm s'.mc kn'
  |.bad p e=>e≠0/\s'.e=e/\s'.bad=(fr:Int)+(p:Int)
theorem Ae{r:List UInt8}{p:Nat}{e:Int}(h:su kn r=.bad p e):p<=r.length:=by
 have h1:=dc r;have h2:=(ka (l:=aq r) ak).length_le;have h3:=dc ((aq r).dropWhile ak);unfold su at h
 split at h
 ·cases h;omega
 split at h
 ·cases h;omega
 split at h
 ·cases hx:eK kn (aq ((aq r).dropWhile ak)).tail with
  |ok t=>rw[hx]at h;cases h
  |bad q f=>rw[hx]at h;cases h;omega
 cases h;omega
theorem rQ(B:Nat)(O:Nat->Nat)(w:ID)(j jr ji jk jm rb:Nat)(s:LS)(fr to:Nat)(a0:List UInt8)(st:St)(hR:K4 B O w)(hj:j≠0)(b8:jr≠0)(b':ji≠0)(b9:jk≠0)(d1:j≠jr)(d0:j≠ji)(c':j≠jk)(h6:jr≠ji)(h5:jr≠jk)(h4:ji≠jk)(b4:jm≠0)(c7:j≠jm)(g4:jr≠jm)(h3:ji≠jm)(e8:jk≠jm)(g6:kn.length<=100000)(j1:fr<=to)(i':to<=s.l.length)(d5:s.l.length<=100000)(he:s.e=0) 
  (f':(s.l.take to).drop fr=a0) (i0:Mem O w jr ji jk s st) (i2:Mac O w jm s.mc kn) (h:K9 O w j rb s) :
  JQ J4 73 [nP rb,nI fr,nI to] w fun _ w'=>Gh B O w w' j jr ji jk jm rb s fr (cJ kn st a0):=by
 have c5:¬(fun q:Nat=>q=j\/q=jr\/q=ji\/q=jk\/q=jm) 0:=fun e=>by rcases e with e|e|e|e|e;exact hj e.symm;exact b8 e.symm;exact b' e.symm;exact b9 e.symm;exact b4 e.symm
 have h8:¬(fun q:Nat=>q=j) 0:=fun e=>hj e.symm
 have j0:a0.length=to-fr:=by rw[<-f'];simp;omega
 have j9:(aY a0).length<=(bx a0).length:=dc _;have j':(bx a0).length<=a0.length:=(J6 (l:=a0) _).length_le;obtain⟨m,i1⟩:∃m,m=fr+(bx a0).length:=⟨_,rfl⟩
 have d4:m<=s.l.length:=zo;have g8:(s.l.take m).drop fr=bx a0:=by
  have h1:bx a0=a0.take (bx a0).length:=List.prefix_iff_eq_take.1 (J6 _);have h2:(a0.take (bx a0).length)=(s.l.take m).drop fr:=by
   conv=>lhs;arg 2;rw[<-f']
   rw[List.take_drop,List.take_take,Nat.min_eq_left zo,i1]
  rw[<-h2,<-h1]
 have d6:bx a0 <:+ s.l.take m:=by rw[<-g8];exact List.drop_suffix _ _
 have b2:aY a0 <:+ s.l.take m:=(aX _).trans d6;have f7:(fr:Int)=(m:Int)-((bx a0).length:Int):=zo;have g7:(m:Int)-((aq (bx a0)).length:Int)=((m-(aY a0).length:Nat):Int):=by
  have:(aq (bx a0)).length=(aY a0).length:=rfl;omega
 refine I7 func73 ntmps73 rfl rfl ?_;refine zh ?_
 refine aj (j:=1) h rfl (K6 _) rfl rfl rfl rfl ?_;have i5:=h.s_pos (fr:Int);have j5:IQ (fun k=>k=j) O w O (w.setCell ⟨rb,1,none⟩ (nI (fr:Int))):=II h8 h.tag rfl;refine zh ?_
 refine aj (j:=2) i5 rfl (K6 _) rfl rfl rfl rfl ?_;have g9:=i5.s_to (to:Int);have j4:IQ (fun k=>k=j) O (w.setCell ⟨rb,1,none⟩ (nI (fr:Int))) O ((w.setCell ⟨rb,1,none⟩ (nI (fr:Int))).setCell ⟨rb,2,none⟩ (nI (to:Int))):=II h8 i5.tag rfl;have e7:=j5.trans j4;have f8:=i0.upd e7 b8 b' b9 (fun e=>d1 e.symm) (fun e=>d0 e.symm) (fun e=>c' e.symm);have f9:=i2.upd e7 b4 (fun e=>c7 e.symm);have i9:=hR.upd e7;generalize (w.setCell ⟨rb,1,none⟩ (nI (fr:Int))).setCell ⟨rb,2,none⟩ (nI (to:Int))=w2 at *;refine zh ?_
 refine zvH (RV.ld g9.q0 rfl) ?_;refine zv (cQ IK rfl rfl rfl fr to rfl rfl j1 i') ?_
 rw[show({s with pos:=(fr:Int),to:=(to:Int)}:LS).l=s.l from rfl,f'];refine zc call72 (dp a0 35 w2) ?_;rintro v w9 ⟨rfl,i8⟩;rw[i8];clear i8 w9
 cases hf:a0.findIdx? (· == 35)with
 |none=>
  have hi:rf a0 35 = -1:=by unfold rf;rw[hf]
  have i3:=yj hf;rw[hi];obtain rfl:m=to:=by rw[i1,i3,j0];omega
  refine zh ?_;refine aR rfl rfl ?_
  have e0:=f8;have e3:=f9;have i7:=i9;have g2:=e7.mono (S':=fun k=>k=j\/k=jr\/k=ji\/k=jk\/k=jm) (fun _ h=>.inl h) c5;refine zh ?_;refine zc JS (dC O w2 j rb ({s with pos:=(fr:Int),to:=(m:Int)}:LS) m (bx a0) hj d4 d5 rfl d6 f7 g9) ?_;rintro v w4 ⟨rfl,e5,f5⟩;have c8:=e0.upd f5 b8 b' b9 (fun e=>d1 e.symm) (fun e=>d0 e.symm) (fun e=>c' e.symm);have c9:=e3.upd f5 b4 (fun e=>c7 e.symm);have g':=i7.upd f5;have e6:=g2.trans (f5.mono (fun _ h=>.inl h) c5);refine zh ?_
  by_cases h0:(aY a0).length=0
  ·have hM:cJ kn st a0=.go kn st:=by unfold cJ;rw[if_pos h0]
   rw[hM];refine zTH rfl ((by have d3:(aq (bx a0)).length=0:=h0;simp[d3])) ?_;exact cj rfl ⟨O,_,e6,g',e5,rfl,he,c8.with rfl rfl rfl rfl rfl,c9⟩
  have d3:(aq (bx a0)).length=(aY a0).length:=rfl;refine zFH rfl ((by rw[d3,decide_eq_true zo];rfl)) ?_;refine zvH (RV.ld e5.q1 rfl) ?_;refine aj (j:=3) e5 rfl (K6 _) rfl rfl rfl rfl ?_;have i4:=e5.s_bg ((m:Int)-((aq (bx a0)).length:Int));have f4:IQ (fun k=>k=j) O w4 O (w4.setCell ⟨rb,3,none⟩ (nI ((m:Int)-((aq (bx a0)).length:Int)))):=II (fun e=>hj e.symm) e5.tag rfl;have d':=c8.upd f4 b8 b' b9 (fun e=>d1 e.symm) (fun e=>d0 e.symm) (fun e=>c' e.symm);have e2:=c9.upd f4 b4 (fun e=>c7 e.symm);have i6:=g'.upd f4;have g1:=e6.trans (f4.mono (fun _ h=>.inl h) c5);generalize w4.setCell ⟨rb,3,none⟩ (nI ((m:Int)-((aq (bx a0)).length:Int)))=w5 at *;refine zh ?_;refine zc K8 (gH O w5 j rb ({s with pos:=((m:Int)-((aq (bx a0)).length:Int)),to:=(m:Int),bg:=((m:Int)-((aq (bx a0)).length:Int))}:LS) m (aY a0) hj d4 d5 rfl b2 rfl i4) ?_;rintro v w6 ⟨rfl,e9,f3⟩;have a9:=d'.upd f3 b8 b' b9 (fun e=>d1 e.symm) (fun e=>d0 e.symm) (fun e=>c' e.symm);have a':=e2.upd f3 b4 (fun e=>c7 e.symm);have f6:=i6.upd f3;have c6:=g1.trans (f3.mono (fun _ h=>.inl h) c5);have j2:=(ka (l:=aY a0) ak).length_le;refine zh ?_;refine zvH (cH rfl rfl) ?_
  cases d2:((aY a0).takeWhile ak==[108,101,116])with
  |true=>
   have hM:cJ kn st a0=Gu kn st (bx a0).length (su kn ((aY a0).dropWhile ak)):=by unfold cJ;rw[if_neg h0,if_pos d2]
   rw[hM];refine zTH rfl rfl ?_;refine zc call105 (Ad B O w6 j jm rb ({s with pos:=(m:Int)-(((aY a0).dropWhile ak).length:Int),to:=(m:Int),bg:=((m:Int)-((aq (bx a0)).length:Int))}:LS) m ((aY a0).dropWhile ak) f6 hj b4 c7 d4 d5 rfl he ((ka _).trans b2) rfl g6 a' e9) ?_;rintro u w7 ⟨O7,v7,pos,bad,e,a5,b7,b1,a7⟩;have a6:=c6.trans (a5.mono (S':=fun k=>k=j\/k=jr\/k=ji\/k=jk\/k=jm) (fun _ h=>by rcases h with h|h;exact .inl h;exact .inr (.inr (.inr (.inr h)))) c5);have d9:=a9.upd a5 b8 b' b9 (fun h=>by rcases h with h|h;exact d1 h.symm;exact g4 h) (fun h=>by rcases h with h|h;exact d0 h.symm;exact h3 h) (fun h=>by rcases h with h|h;exact c' h.symm;exact e8 h);refine zh ?_
   cases hq:su kn ((aY a0).dropWhile ak)with
   |ok x=>
    rw[hq]at a7;obtain⟨b6,e1⟩:=a7;exact aG rfl ⟨O7,_,a6,b7,b1,rfl,b6,d9.with rfl rfl rfl rfl rfl,e1⟩
   |bad p e'=>
    rw[hq]at a7;obtain⟨b6,b3,b0⟩:=a7;have d8:=Ae hq;exact aG rfl ⟨O7,_,a6,b7,b1,rfl,b3,b6,by dsimp only;rw[b0];omega⟩
  |false=>
  refine zFH rfl rfl ?_;refine zvH (cH rfl rfl) ?_
  cases e4:((aY a0).takeWhile ak==[105,103,110,111,114,101])with
  |true=>
   refine aO rfl rfl ?_;have hb6d:=e9.drew;have hmem6d:=a9.upd (aa (S:=fun _=>False) (fun h=>h) O (I5 w6).drew) b8 b' b9 (fun h=>h) (fun h=>h) (fun h=>h);have hmac6d:=a'.upd (aa (S:=fun _=>False) (fun h=>h) O (I5 w6).drew) b4 (fun h=>h);have hR6d:=f6.drew;have hUt6d:=c6.drew;refine Ja 8 rfl rfl zk zk ?_
   refine zh ?_;refine Jz ?_
   cases b5:st.hi with
   |true=>
    have hM:cJ kn st a0=.bad ((bx a0).length-(aY a0).length) 11:=by unfold cJ;rw[if_neg h0,if_neg (by rw[d2];decide),if_pos e4,if_pos b5]
    rw[hM];refine zc Jy (oR O w6.drew j rb ({s with pos:=(m:Int)-(((aY a0).dropWhile ak).length:Int),to:=(m:Int),bg:=((m:Int)-((aq (bx a0)).length:Int))}:LS) hj he (hmem6d.fi.trans b5) hb6d) ?_;rintro u w7 ⟨b1,a5⟩;refine zh ?_;exact aG rfl ⟨O,_,hUt6d.trans (a5.mono (fun _ h=>.inl h) c5),hR6d.upd a5,b1,rfl,zd,rfl,by dsimp only;rw[d3];omega⟩
   |false=>
    have hM:cJ kn st a0=oi kn (G0 st (bx a0).length (da ((aY a0).dropWhile ak))):=by unfold cJ;rw[if_neg h0,if_neg (by rw[d2];decide),if_pos e4,if_neg (by rw[b5];decide)]
    rw[hM];refine zc Jy (so B O w6.drew j ji rb ({s with pos:=(m:Int)-(((aY a0).dropWhile ak).length:Int),to:=(m:Int),bg:=((m:Int)-((aq (bx a0)).length:Int))}:LS) m ((aY a0).dropWhile ak) hR6d hj b' d0 d4 d5 rfl he (hmem6d.fi.trans b5) (hmem6d.ni b5) ((ka _).trans b2) rfl hb6d) ?_;rintro u w7 ⟨O7,lv,pos,bad,e,a5,b7,b1,a7⟩;have a6:=hUt6d.trans (a5.mono (S':=fun k=>k=j\/k=jr\/k=ji\/k=jk\/k=jm) (fun _ h=>by rcases h with h|h;exact .inl h;exact .inr (.inr (.inl h))) c5);refine zh ?_
    cases hq:da ((aY a0).dropWhile ak)with
    |ok l=>
     rw[hq]at a7;obtain⟨b6,a8⟩:=a7;obtain⟨⟨xs,a1,a2,a3,a4⟩,mb,mc,md,me,mf,mg⟩:=hmem6d;exact aG rfl ⟨O7,_,a6,b7,b1,rfl,b6,⟨⟨xs,a1.upd a5 b8 (fun h=>by rcases h with h|h;exact d1 h.symm;exact h6 h),a2,a3,fun i hi=>(a4 i hi).upd a5⟩,a8,mc.upd a5 b9 (fun h=>by rcases h with h|h;exact c' h.symm;exact h4 h.symm),rfl,me,(fun h=>by cases h),mg⟩,hmac6d.upd a5 b4 (fun h=>by rcases h with h|h;exact c7 h.symm;exact h3 h.symm)⟩
    |bad p e'=>
     rw[hq]at a7;obtain⟨b6,b3,b0⟩:=a7;have d8:=mC hq;exact aG rfl ⟨O7,_,a6,b7,b1,rfl,b3,b6,by dsimp only;rw[b0];omega⟩
  |false=>
   refine zFH rfl rfl ?_;refine zvH (cH rfl rfl) ?_
   cases g0:((aY a0).takeWhile ak==[107,101,101,112])with
   |true=>
    refine aO rfl rfl ?_;have hb6d:=e9.drew;have hmem6d:=a9.upd (aa (S:=fun _=>False) (fun h=>h) O (I5 w6).drew) b8 b' b9 (fun h=>h) (fun h=>h) (fun h=>h);have hmac6d:=a'.upd (aa (S:=fun _=>False) (fun h=>h) O (I5 w6).drew) b4 (fun h=>h);have hR6d:=f6.drew;have hUt6d:=c6.drew;refine Ja 8 rfl rfl zk zk ?_
    refine zh ?_;refine Jz ?_
    cases b5:st.hk with
    |true=>
     have hM:cJ kn st a0=.bad ((bx a0).length-(aY a0).length) 11:=by unfold cJ;rw[if_neg h0,if_neg (by rw[d2];decide),if_neg (by rw[e4];decide),if_pos g0,if_pos b5]
     rw[hM];refine zc Jy (oQ O w6.drew j rb ({s with pos:=(m:Int)-(((aY a0).dropWhile ak).length:Int),to:=(m:Int),bg:=((m:Int)-((aq (bx a0)).length:Int))}:LS) hj he (hmem6d.fk.trans b5) hb6d) ?_;rintro u w7 ⟨b1,a5⟩;refine zh ?_;exact aG rfl ⟨O,_,hUt6d.trans (a5.mono (fun _ h=>.inl h) c5),hR6d.upd a5,b1,rfl,zd,rfl,by dsimp only;rw[d3];omega⟩
    |false=>
     have hM:cJ kn st a0=oi kn (GZ st (bx a0).length (da ((aY a0).dropWhile ak))):=by unfold cJ;rw[if_neg h0,if_neg (by rw[d2];decide),if_neg (by rw[e4];decide),if_pos g0,if_neg (by rw[b5];decide)]
     rw[hM];refine zc Jy (sn B O w6.drew j jk rb ({s with pos:=(m:Int)-(((aY a0).dropWhile ak).length:Int),to:=(m:Int),bg:=((m:Int)-((aq (bx a0)).length:Int))}:LS) m ((aY a0).dropWhile ak) hR6d hj b9 c' d4 d5 rfl he (hmem6d.fk.trans b5) (hmem6d.nk b5) ((ka _).trans b2) rfl hb6d) ?_;rintro u w7 ⟨O7,lv,pos,bad,e,a5,b7,b1,a7⟩;have a6:=hUt6d.trans (a5.mono (S':=fun k=>k=j\/k=jr\/k=ji\/k=jk\/k=jm) (fun _ h=>by rcases h with h|h;exact .inl h;exact .inr (.inr (.inr (.inl h)))) c5);refine zh ?_
     cases hq:da ((aY a0).dropWhile ak)with
     |ok l=>
      rw[hq]at a7;obtain⟨b6,a8⟩:=a7;obtain⟨⟨xs,a1,a2,a3,a4⟩,mb,mc,md,me,mf,mg⟩:=hmem6d;exact aG rfl ⟨O7,_,a6,b7,b1,rfl,b6,⟨⟨xs,a1.upd a5 b8 (fun h=>by rcases h with h|h;exact d1 h.symm;exact h5 h),a2,a3,fun i hi=>(a4 i hi).upd a5⟩,mb.upd a5 b' (fun h=>by rcases h with h|h;exact d0 h.symm;exact h4 h),a8,md,rfl,mf,(fun h=>by cases h)⟩,hmac6d.upd a5 b4 (fun h=>by rcases h with h|h;exact c7 h.symm;exact e8 h.symm)⟩
     |bad p e'=>
      rw[hq]at a7;obtain⟨b6,b3,b0⟩:=a7;have d8:=mC hq;exact aG rfl ⟨O7,_,a6,b7,b1,rfl,b3,b6,by dsimp only;rw[b0];omega⟩
   |false=>
    have hM:cJ kn st a0=oi kn (GY st ((bx a0).length-(aY a0).length) (if st.ts.length=40 then Kh 0 3 else iU kn (aY a0))):=by unfold cJ;rw[if_neg h0,if_neg (by rw[d2];decide),if_neg (by rw[e4];decide),if_neg (by rw[g0];decide)]
    refine aR rfl rfl ?_;obtain⟨xs,d7,g5,h',h9⟩:=a9.ru;refine zh ?_
    refine zc call107 (rI B O w6 j jr rb ({s with pos:=(m:Int)-(((aY a0).dropWhile ak).length:Int),to:=(m:Int),bg:=((m:Int)-((aq (bx a0)).length:Int))}:LS) m (aY a0) xs f6 hj b8 d1 d4 d5 rfl g7 he b4 c7 g4 a' b2 d7 h' e9) ?_;rintro v w7 ⟨O7,rv,a5,b7,a7⟩;have a6:=c6.trans (a5.mono (S':=fun k=>k=j\/k=jr\/k=ji\/k=jk\/k=jm) (fun _ h=>by rcases h with h|h;exact .inl h;exact .inr (.inl h)) c5);refine zh ?_
    rw[hM,g5]
    cases hq:(if xs.length=40 then Kh 0 3 else iU kn (aY a0))with
    |ok t=>
     rw[hq]at a7;obtain⟨x,a8,g3,b1⟩:=a7;have j6:xs.length≠40:=fun e=>by rw[if_pos e]at hq;cases hq
     obtain⟨_,mb,mc,md,me,mf,mg⟩:=a9;obtain⟨q1,q2,q3,q4⟩:=KH (ts:=st.ts) a8 g5 zo (fun i hi=>(h9 i hi).upd a5) g3;exact aG rfl ⟨O7,_,a6,b7,b1,rfl,he,⟨⟨xs++[x],q1,q2,q3,q4⟩,mb.upd a5 b' (fun h=>by rcases h with h|h;exact d0 h.symm;exact h6 h.symm),mc.upd a5 b9 (fun h=>by rcases h with h|h;exact c' h.symm;exact h5 h.symm),md,me,mf,mg⟩,a'.upd a5 b4 (fun h=>by rcases h with h|h;exact c7 h.symm;exact g4 h.symm)⟩
    |bad p e=>
     rw[hq]at a7;obtain⟨b3,b1⟩:=a7;exact aG rfl ⟨O7,_,a6,b7,b1,rfl,b3,rfl,by dsimp only;rw[d3];omega⟩
 |some k=>
  have hi:rf a0 35=(k:Nat):=by unfold rf;rw[hf]
  obtain⟨i3,j8⟩:=yi hf;rw[hi];have j7:m=fr+k:=by rw[i1,i3];simp;omega
  refine zh ?_;refine zTH rfl ((decide_eq_true zo)) ?_
  refine aj (j:=2) g9 rfl (K6 _) rfl rfl rfl rfl ?_;rw[show(fr:Int)+((k:Nat):Int)=(m:Int)from by omega];have j3:=g9.s_to (m:Int);have h7:IQ (fun k=>k=j) O w2 O (w2.setCell ⟨rb,2,none⟩ (nI (m:Int))):=II h8 g9.tag rfl;have e0:=f8.upd h7 b8 b' b9 (fun e=>d1 e.symm) (fun e=>d0 e.symm) (fun e=>c' e.symm);have e3:=f9.upd h7 b4 (fun e=>c7 e.symm);have i7:=i9.upd h7;have g2:=(e7.trans h7).mono (S':=fun k=>k=j\/k=jr\/k=ji\/k=jk\/k=jm) (fun _ h=>.inl h) c5;generalize w2.setCell ⟨rb,2,none⟩ (nI (m:Int))=w3 at *;refine zh ?_
  refine zc JS (dC O w3 j rb ({s with pos:=(fr:Int),to:=(m:Int)}:LS) m (bx a0) hj d4 d5 rfl d6 f7 j3) ?_;rintro v w4 ⟨rfl,e5,f5⟩;have c8:=e0.upd f5 b8 b' b9 (fun e=>d1 e.symm) (fun e=>d0 e.symm) (fun e=>c' e.symm);have c9:=e3.upd f5 b4 (fun e=>c7 e.symm);have g':=i7.upd f5;have e6:=g2.trans (f5.mono (fun _ h=>.inl h) c5);refine zh ?_
  by_cases h0:(aY a0).length=0
  ·have hM:cJ kn st a0=.go kn st:=by unfold cJ;rw[if_pos h0]
   rw[hM];refine zTH rfl ((by have d3:(aq (bx a0)).length=0:=h0;simp[d3])) ?_;exact cj rfl ⟨O,_,e6,g',e5,rfl,he,c8.with rfl rfl rfl rfl rfl,c9⟩
  have d3:(aq (bx a0)).length=(aY a0).length:=rfl;refine zFH rfl ((by rw[d3,decide_eq_true zo];rfl)) ?_;refine zvH (RV.ld e5.q1 rfl) ?_;refine aj (j:=3) e5 rfl (K6 _) rfl rfl rfl rfl ?_;have i4:=e5.s_bg ((m:Int)-((aq (bx a0)).length:Int));have f4:IQ (fun k=>k=j) O w4 O (w4.setCell ⟨rb,3,none⟩ (nI ((m:Int)-((aq (bx a0)).length:Int)))):=II (fun e=>hj e.symm) e5.tag rfl;have d':=c8.upd f4 b8 b' b9 (fun e=>d1 e.symm) (fun e=>d0 e.symm) (fun e=>c' e.symm);have e2:=c9.upd f4 b4 (fun e=>c7 e.symm);have i6:=g'.upd f4;have g1:=e6.trans (f4.mono (fun _ h=>.inl h) c5);generalize w4.setCell ⟨rb,3,none⟩ (nI ((m:Int)-((aq (bx a0)).length:Int)))=w5 at *;refine zh ?_;refine zc K8 (gH O w5 j rb ({s with pos:=((m:Int)-((aq (bx a0)).length:Int)),to:=(m:Int),bg:=((m:Int)-((aq (bx a0)).length:Int))}:LS) m (aY a0) hj d4 d5 rfl b2 rfl i4) ?_;rintro v w6 ⟨rfl,e9,f3⟩;have a9:=d'.upd f3 b8 b' b9 (fun e=>d1 e.symm) (fun e=>d0 e.symm) (fun e=>c' e.symm);have a':=e2.upd f3 b4 (fun e=>c7 e.symm);have f6:=i6.upd f3;have c6:=g1.trans (f3.mono (fun _ h=>.inl h) c5);have j2:=(ka (l:=aY a0) ak).length_le;refine zh ?_;refine zvH (cH rfl rfl) ?_
  cases d2:((aY a0).takeWhile ak==[108,101,116])with
  |true=>
   have hM:cJ kn st a0=Gu kn st (bx a0).length (su kn ((aY a0).dropWhile ak)):=by unfold cJ;rw[if_neg h0,if_pos d2]
   rw[hM];refine zTH rfl rfl ?_;refine zc call105 (Ad B O w6 j jm rb ({s with pos:=(m:Int)-(((aY a0).dropWhile ak).length:Int),to:=(m:Int),bg:=((m:Int)-((aq (bx a0)).length:Int))}:LS) m ((aY a0).dropWhile ak) f6 hj b4 c7 d4 d5 rfl he ((ka _).trans b2) rfl g6 a' e9) ?_;rintro u w7 ⟨O7,v7,pos,bad,e,a5,b7,b1,a7⟩;have a6:=c6.trans (a5.mono (S':=fun k=>k=j\/k=jr\/k=ji\/k=jk\/k=jm) (fun _ h=>by rcases h with h|h;exact .inl h;exact .inr (.inr (.inr (.inr h)))) c5);have d9:=a9.upd a5 b8 b' b9 (fun h=>by rcases h with h|h;exact d1 h.symm;exact g4 h) (fun h=>by rcases h with h|h;exact d0 h.symm;exact h3 h) (fun h=>by rcases h with h|h;exact c' h.symm;exact e8 h);refine zh ?_
   cases hq:su kn ((aY a0).dropWhile ak)with
   |ok x=>
    rw[hq]at a7;obtain⟨b6,e1⟩:=a7;exact aG rfl ⟨O7,_,a6,b7,b1,rfl,b6,d9.with rfl rfl rfl rfl rfl,e1⟩
   |bad p e'=>
    rw[hq]at a7;obtain⟨b6,b3,b0⟩:=a7;have d8:=Ae hq;exact aG rfl ⟨O7,_,a6,b7,b1,rfl,b3,b6,by dsimp only;rw[b0];omega⟩
  |false=>
  refine zFH rfl rfl ?_;refine zvH (cH rfl rfl) ?_
  cases e4:((aY a0).takeWhile ak==[105,103,110,111,114,101])with
  |true=>
   refine aO rfl rfl ?_;have hb6d:=e9.drew;have hmem6d:=a9.upd (aa (S:=fun _=>False) (fun h=>h) O (I5 w6).drew) b8 b' b9 (fun h=>h) (fun h=>h) (fun h=>h);have hmac6d:=a'.upd (aa (S:=fun _=>False) (fun h=>h) O (I5 w6).drew) b4 (fun h=>h);have hR6d:=f6.drew;have hUt6d:=c6.drew;refine Ja 8 rfl rfl zk zk ?_
   refine zh ?_;refine Jz ?_
   cases b5:st.hi with
   |true=>
    have hM:cJ kn st a0=.bad ((bx a0).length-(aY a0).length) 11:=by unfold cJ;rw[if_neg h0,if_neg (by rw[d2];decide),if_pos e4,if_pos b5]
    rw[hM];refine zc Jy (oR O w6.drew j rb ({s with pos:=(m:Int)-(((aY a0).dropWhile ak).length:Int),to:=(m:Int),bg:=((m:Int)-((aq (bx a0)).length:Int))}:LS) hj he (hmem6d.fi.trans b5) hb6d) ?_;rintro u w7 ⟨b1,a5⟩;refine zh ?_;exact aG rfl ⟨O,_,hUt6d.trans (a5.mono (fun _ h=>.inl h) c5),hR6d.upd a5,b1,rfl,zd,rfl,by dsimp only;rw[d3];omega⟩
   |false=>
    have hM:cJ kn st a0=oi kn (G0 st (bx a0).length (da ((aY a0).dropWhile ak))):=by unfold cJ;rw[if_neg h0,if_neg (by rw[d2];decide),if_pos e4,if_neg (by rw[b5];decide)]
    rw[hM];refine zc Jy (so B O w6.drew j ji rb ({s with pos:=(m:Int)-(((aY a0).dropWhile ak).length:Int),to:=(m:Int),bg:=((m:Int)-((aq (bx a0)).length:Int))}:LS) m ((aY a0).dropWhile ak) hR6d hj b' d0 d4 d5 rfl he (hmem6d.fi.trans b5) (hmem6d.ni b5) ((ka _).trans b2) rfl hb6d) ?_;rintro u w7 ⟨O7,lv,pos,bad,e,a5,b7,b1,a7⟩;have a6:=hUt6d.trans (a5.mono (S':=fun k=>k=j\/k=jr\/k=ji\/k=jk\/k=jm) (fun _ h=>by rcases h with h|h;exact .inl h;exact .inr (.inr (.inl h))) c5);refine zh ?_
    cases hq:da ((aY a0).dropWhile ak)with
    |ok l=>
     rw[hq]at a7;obtain⟨b6,a8⟩:=a7;obtain⟨⟨xs,a1,a2,a3,a4⟩,mb,mc,md,me,mf,mg⟩:=hmem6d;exact aG rfl ⟨O7,_,a6,b7,b1,rfl,b6,⟨⟨xs,a1.upd a5 b8 (fun h=>by rcases h with h|h;exact d1 h.symm;exact h6 h),a2,a3,fun i hi=>(a4 i hi).upd a5⟩,a8,mc.upd a5 b9 (fun h=>by rcases h with h|h;exact c' h.symm;exact h4 h.symm),rfl,me,(fun h=>by cases h),mg⟩,hmac6d.upd a5 b4 (fun h=>by rcases h with h|h;exact c7 h.symm;exact h3 h.symm)⟩
    |bad p e'=>
     rw[hq]at a7;obtain⟨b6,b3,b0⟩:=a7;have d8:=mC hq;exact aG rfl ⟨O7,_,a6,b7,b1,rfl,b3,b6,by dsimp only;rw[b0];omega⟩
  |false=>
   refine zFH rfl rfl ?_;refine zvH (cH rfl rfl) ?_
   cases g0:((aY a0).takeWhile ak==[107,101,101,112])with
   |true=>
    refine aO rfl rfl ?_;have hb6d:=e9.drew;have hmem6d:=a9.upd (aa (S:=fun _=>False) (fun h=>h) O (I5 w6).drew) b8 b' b9 (fun h=>h) (fun h=>h) (fun h=>h);have hmac6d:=a'.upd (aa (S:=fun _=>False) (fun h=>h) O (I5 w6).drew) b4 (fun h=>h);have hR6d:=f6.drew;have hUt6d:=c6.drew;refine Ja 8 rfl rfl zk zk ?_
    refine zh ?_;refine Jz ?_
    cases b5:st.hk with
    |true=>
     have hM:cJ kn st a0=.bad ((bx a0).length-(aY a0).length) 11:=by unfold cJ;rw[if_neg h0,if_neg (by rw[d2];decide),if_neg (by rw[e4];decide),if_pos g0,if_pos b5]
     rw[hM];refine zc Jy (oQ O w6.drew j rb ({s with pos:=(m:Int)-(((aY a0).dropWhile ak).length:Int),to:=(m:Int),bg:=((m:Int)-((aq (bx a0)).length:Int))}:LS) hj he (hmem6d.fk.trans b5) hb6d) ?_;rintro u w7 ⟨b1,a5⟩;refine zh ?_;exact aG rfl ⟨O,_,hUt6d.trans (a5.mono (fun _ h=>.inl h) c5),hR6d.upd a5,b1,rfl,zd,rfl,by dsimp only;rw[d3];omega⟩
    |false=>
     have hM:cJ kn st a0=oi kn (GZ st (bx a0).length (da ((aY a0).dropWhile ak))):=by unfold cJ;rw[if_neg h0,if_neg (by rw[d2];decide),if_neg (by rw[e4];decide),if_pos g0,if_neg (by rw[b5];decide)]
     rw[hM];refine zc Jy (sn B O w6.drew j jk rb ({s with pos:=(m:Int)-(((aY a0).dropWhile ak).length:Int),to:=(m:Int),bg:=((m:Int)-((aq (bx a0)).length:Int))}:LS) m ((aY a0).dropWhile ak) hR6d hj b9 c' d4 d5 rfl he (hmem6d.fk.trans b5) (hmem6d.nk b5) ((ka _).trans b2) rfl hb6d) ?_;rintro u w7 ⟨O7,lv,pos,bad,e,a5,b7,b1,a7⟩;have a6:=hUt6d.trans (a5.mono (S':=fun k=>k=j\/k=jr\/k=ji\/k=jk\/k=jm) (fun _ h=>by rcases h with h|h;exact .inl h;exact .inr (.inr (.inr (.inl h)))) c5);refine zh ?_
     cases hq:da ((aY a0).dropWhile ak)with
     |ok l=>
      rw[hq]at a7;obtain⟨b6,a8⟩:=a7;obtain⟨⟨xs,a1,a2,a3,a4⟩,mb,mc,md,me,mf,mg⟩:=hmem6d;exact aG rfl ⟨O7,_,a6,b7,b1,rfl,b6,⟨⟨xs,a1.upd a5 b8 (fun h=>by rcases h with h|h;exact d1 h.symm;exact h5 h),a2,a3,fun i hi=>(a4 i hi).upd a5⟩,mb.upd a5 b' (fun h=>by rcases h with h|h;exact d0 h.symm;exact h4 h),a8,md,rfl,mf,(fun h=>by cases h)⟩,hmac6d.upd a5 b4 (fun h=>by rcases h with h|h;exact c7 h.symm;exact e8 h.symm)⟩
     |bad p e'=>
      rw[hq]at a7;obtain⟨b6,b3,b0⟩:=a7;have d8:=mC hq;exact aG rfl ⟨O7,_,a6,b7,b1,rfl,b3,b6,by dsimp only;rw[b0];omega⟩
   |false=>
    have hM:cJ kn st a0=oi kn (GY st ((bx a0).length-(aY a0).length) (if st.ts.length=40 then Kh 0 3 else iU kn (aY a0))):=by unfold cJ;rw[if_neg h0,if_neg (by rw[d2];decide),if_neg (by rw[e4];decide),if_neg (by rw[g0];decide)]
    refine aR rfl rfl ?_;obtain⟨xs,d7,g5,h',h9⟩:=a9.ru;refine zh ?_
    refine zc call107 (rI B O w6 j jr rb ({s with pos:=(m:Int)-(((aY a0).dropWhile ak).length:Int),to:=(m:Int),bg:=((m:Int)-((aq (bx a0)).length:Int))}:LS) m (aY a0) xs f6 hj b8 d1 d4 d5 rfl g7 he b4 c7 g4 a' b2 d7 h' e9) ?_;rintro v w7 ⟨O7,rv,a5,b7,a7⟩;have a6:=c6.trans (a5.mono (S':=fun k=>k=j\/k=jr\/k=ji\/k=jk\/k=jm) (fun _ h=>by rcases h with h|h;exact .inl h;exact .inr (.inl h)) c5);refine zh ?_
    rw[hM,g5]
    cases hq:(if xs.length=40 then Kh 0 3 else iU kn (aY a0))with
    |ok t=>
     rw[hq]at a7;obtain⟨x,a8,g3,b1⟩:=a7;have j6:xs.length≠40:=fun e=>by rw[if_pos e]at hq;cases hq
     obtain⟨_,mb,mc,md,me,mf,mg⟩:=a9;obtain⟨q1,q2,q3,q4⟩:=KH (ts:=st.ts) a8 g5 zo (fun i hi=>(h9 i hi).upd a5) g3;exact aG rfl ⟨O7,_,a6,b7,b1,rfl,he,⟨⟨xs++[x],q1,q2,q3,q4⟩,mb.upd a5 b' (fun h=>by rcases h with h|h;exact d0 h.symm;exact h6 h.symm),mc.upd a5 b9 (fun h=>by rcases h with h|h;exact c' h.symm;exact h5 h.symm),md,me,mf,mg⟩,a'.upd a5 b4 (fun h=>by rcases h with h|h;exact c7 h.symm;exact g4 h.symm)⟩
    |bad p e=>
     rw[hq]at a7;obtain⟨b3,b1⟩:=a7;exact aG rfl ⟨O7,_,a6,b7,b1,rfl,b3,rfl,by dsimp only;rw[d3];omega⟩
end
inductive TK where
 |ok (st:St)
 |bad (p:Nat) (e:Int)
def oS:Nat->Kn->St->Nat->List UInt8->TK
 |0,_,_,_,_=>.bad 0 3
 |n+1,kn,st,fr,r=>
  match cJ kn st (dP r)with
  |.bad p e=>.bad (fr+p) e
  |.go kn' st'=>if(dP r).length=r.length then .ok st' else oS n kn' st' (fr+(dP r).length+1) (r.drop ((dP r).length+1))
def st0:St:=⟨[],[],[],false,false⟩
def jY(l:List UInt8):TK:=if 4096<l.length then .bad 0 3 else oS (l.length+1) [] st0 0 l
theorem zD{kn a0:Kn}{st a1:St}{a2:List UInt8}(h:cJ kn st a2=.go a0 a1):a0.length<=kn.length+1:=by
 have hl:∀ {R:RS},oi kn R=.go a0 a1->a0.length<=kn.length+1:=fun {R} h=>by
  cases R with
  |go s=>cases h;omega
  |bad p e=>cases h
  |other=>cases h
 unfold cJ at h
 split at h
 ·cases h;omega
 split at h
 ·unfold Gu at h
  split at h
  ·cases h;simp
  cases h
 split at h
 ·split at h
  ·cases h
  exact hl h
 split at h
 ·split at h
  ·cases h
  exact hl h
 exact hl h
def LoopK(l:List UInt8)(M:TK)(O:Nat->Nat)(w:ID)(jr ji jk jm:Nat)(n fr:Nat)(kn:Kn)(st:St)(s:LS):Prop:=
 (fr<=l.length/\s.e=0/\l.length-fr<n/\oS n kn st fr (l.drop fr)=M/\Mem O w jr ji jk s st/\Mac O w jm s.mc kn/\kn.length<=fr)\/(fr=l.length+1/\s.e=0/\M=.ok st/\Mem O w jr ji jk s st)\/
 (∃p e,e≠0/\s.e=e/\s.bad=((p:Nat):Int)/\M=.bad p e)
theorem LoopK.next{l:List UInt8}{M:TK}{B j jr ji jk jm rb n fr:Nat}{O:Nat->Nat}{w w':ID}{kn:Kn}{st:St}{s:LS}(a3:fr<=l.length)(hn:l.length-fr<n+1)(hM:oS (n+1) kn st fr (l.drop fr)=M)(a2:kn.length<=fr) 
  (hP:Gh B O w w' j jr ji jk jm rb s fr (cJ kn st (dP (l.drop fr)))) :
  ∃O' s' n' kn' st',IQ (fun k=>k=j\/k=jr\/k=ji\/k=jk\/k=jm) O w O' w'/\K4 B O' w'/\K9 O' w' j rb s'/\s'.l=s.l/\n'<n+1/\LoopK l M O' w' jr ji jk jm n' (fr+(dP (l.drop fr)).length+1) kn' st' s':=by
 obtain⟨O',s',hU,hR,hb,e1,hq⟩:=hP;have a0:(dP (l.drop fr)).length<=l.length-fr:=by
  have:=(J6 (l:=l.drop fr) (fun b=>!(b==10))).length_le;simpa[dP]using this
 have a4:(l.drop fr).length=l.length-fr:=by simp
 unfold oS at hM;refine⟨O',s',?_⟩
 cases hr:cJ kn st (dP (l.drop fr))with
 |bad p e=>
  rw[hr]at hq hM;obtain⟨q1,q2,q3⟩:=hq;exact⟨0,kn,st,hU,hR,hb,e1,zo,.inr (.inr ⟨fr+p,e,q1,q2,by rw[q3];simp,hM.symm⟩)⟩
 |go kn' st'=>
  have a1:=zD hr;rw[hr]at hq hM;dsimp only at hM;obtain⟨q1,q2,q3⟩:=hq
  split at hM
  ·rename_i he;exact⟨0,kn',st',hU,hR,hb,e1,zo,.inr (.inl ⟨zo,q1,hM.symm,q2⟩)⟩
  rename_i he;exact⟨n,kn',st',hU,hR,hb,e1,zo,.inl ⟨zo,q1,zo,by rw[<-hM,List.drop_drop,Nat.add_assoc],q2,q3,zo⟩⟩
def Gf(w:ID)(v:I1):TK->Prop
 |.ok st=>∃tv,v=.tuple #[tv,nI 0,nI 0]/\Tx w tv st.li st.lk st.ts
 |.bad p e=>v=.tuple #[xm qY qY qY,nI (p:Int),nI e]/\e≠0
theorem Mem.tx{O:Nat->Nat}{w:ID}{jr ji jk:Nat}{s:LS}{st:St}(h:Mem O w jr ji jk s st):Tx w (xm s.ig s.kp s.ru) st.li st.lk st.ts:=by
 obtain⟨xs,a1,a2,a3,a4⟩:=h.ru;exact⟨s.ig,s.kp,s.ru,xs,rfl,h.ig.sl,h.kp.sl,a1.sl,a2,fun i hi=>(a4 i hi).weak fun _ _=>rfl⟩
theorem tS(l:List UInt8)(B:Nat)(O:Nat->Nat)(w:ID)(hR:K4 B O w)(g0:l.length<=1000000000):JQ J4 44 [.string (bs l)] w fun v w'=>Jh w w'/\Gf w' v (jY l):=by
 obtain⟨T,g3,hT⟩:=hR.bound;have a6:¬(fun q:Nat=>T<=q) 0:=fun e=>by omega
 have c6:∀b,¬T<=O b:=fun b=>by have:=hT b;omega
 refine I7 func44 ntmps44 rfl rfl ?_;refine zg ?_
 refine ar hR T zo (IY _) rfl ?_;intro xb w1 O1 b8 f6 f8 g5;have b6:IQ (fun q=>T<=q) O w O1 w1:=f6.mono (fun _ h=>IS h.symm) a6;refine zg ?_
 refine zvG (bZ IK rfl) ?_
 by_cases hl:4096<l.length
 ·have hM:jY l=.bad 0 3:=by unfold jY;rw[if_pos hl]
  rw[hM];refine zTG rfl ((decide_eq_true zo)) ?_;refine zv (aE Gn (IY _) rfl (by first|rfl|(simp only[IL,J9];rfl)) rfl rfl) ?_;refine zsa (us:=(#[nS,nS,nS]:Array I1)) b8 (IP _) ?_;have a7:=b8.setRow (us:=(#[nS,nS,nS]:Array I1));have a4:IQ (fun k=>k=T) O1 w1 O1 (w1.setRow xb (#[nS,nS,nS]:Array I1)):=I4 zo b8.tag rfl;refine zg ?_;refine cp rfl rfl rfl rfl a7.cellsAdd (Jw _) (IP _) ⟨aD (b6.trans (a4.mono (fun _ h=>IS h.symm) a6)) c6,rfl,by decide⟩
 have f9:jY l=oS (l.length+1) [] st0 0 l:=by unfold jY;rw[if_neg hl]
 refine zFG rfl ((decide_eq_false zo)) ?_;refine zv (aE GK (zeroValue145 _) rfl (by first|rfl|(simp only[IL,J9];rfl)) rfl rfl) ?_
 refine zv (J1 (vs:=[(0,.agg #[.string (bs l),nI 0,nI 0,nI 0,nI 0,nI 0])]) (cells:=(⟨l,0,0,0,0,0,nS,nS,nS,nS,false,false⟩:LS).cells) GJ (zeroValue148 _) rfl zk) ?_;refine aF f8 (T+1) zo rfl rfl ?_
 intro rb w2 O2 d2 e5 f7 g4;have f5:K9 O2 w2 (T+1) rb ⟨l,0,0,0,0,0,nS,nS,nS,nS,false,false⟩:=d2;have e7:=b8.upd e5 zo zo;have d6:=b6.trans (e5.mono (fun _ h=>by rw[h];omega) a6);refine zg ?_;refine zlp (fun y:Nat×Nat×Kn×St×(Nat->Nat)×World×LS=>[(0,.string (bs l)),(2,nP xb),(5,nP rb),(6,nI (y.2.1:Nat))]) (fun y=>y.2.2.2.2.2.1) (fun y=>Jp y.2.2.2.2.1 y.2.2.2.2.2.1 T xb (#[nS,nS,nS]:Array I1) 49/\K9 y.2.2.2.2.1 y.2.2.2.2.2.1 (T+1) rb y.2.2.2.2.2.2/\y.2.2.2.2.2.2.l=l/\IQ (fun q=>T<=q) O w y.2.2.2.2.1 y.2.2.2.2.2.1/\K4 B y.2.2.2.2.1 y.2.2.2.2.2.1/\y.2.1<=10000000/\LoopK l (jY l) y.2.2.2.2.1 y.2.2.2.2.2.1 (T+2) (T+3) (T+4) (T+5) y.1 y.2.1 y.2.2.1 y.2.2.2.1 y.2.2.2.2.2.2) (fun y=>y.1) (l.length+1,0,[],st0,O2,w2,⟨l,0,0,0,0,0,nS,nS,nS,nS,false,false⟩) (⟨e7,f5,rfl,d6,f7,by dsimp only;omega,.inl ⟨by dsimp only;omega,rfl,by dsimp only;omega,by rw[f9];rfl,⟨⟨[],Jd _ _ _ _ _ _,rfl,by simp,fun i hi=>absurd hi (by simp)⟩,Jd _ _ _ _ _ _,Jd _ _ _ _ _ _,rfl,rfl,fun _=>rfl,fun _=>rfl⟩,Mac.nil _ _ _,IV _⟩⟩) ?_;rintro⟨n,fr,kn,st,O1,w3,s⟩ ⟨a2,a3,a5,a1,d8,f4,e6⟩;dsimp only at a2 a3 a5 a1 d8 f4 e6 ⊢
 rcases e6 with⟨c5,he,e1,b1,a0,b4,e3⟩|⟨c5,he,b1,a0⟩|⟨p,e,b9,d0,a',b1⟩
 ·obtain⟨n,rfl⟩:∃m,n=m+1:=⟨n-1,by omega⟩
  have g2:(dP (l.drop fr)).length<=l.length-fr:=by
   have:=(J6 (l:=l.drop fr) (fun b=>!(b==10))).length_le;simpa[dP]using this
  have q5:=a3.q5;rw[he]at q5;refine zg ?_;refine zvG (bZ IK rfl) ?_;refine au (d:=21) rfl (b':=true) ((decide_eq_true zo)) ?_;refine zg ?_;refine zvG (RV.ld q5 rfl) ?_;refine zTG rfl rfl ?_;refine zvG (bZ IK rfl) ?_;refine zv (jE IK rfl rfl fr rfl c5) ?_;refine zc call72 (dp (l.drop fr) 10 w3) ?_;rintro v w9 ⟨rfl,e0⟩;rw[e0];clear e0 w9
  cases hf:(l.drop fr).findIdx? (· == 10)with
  |none=>
   have hi:rf (l.drop fr) 10 = -1:=by unfold rf;rw[hf]
   have e2:=congrArg KI (xG hf);rw[List.length_drop]at e2;rw[hi,show((l.length:Nat):Int)=((fr+(dP (l.drop fr)).length:Nat):Int)from by omega];refine zg ?_;refine zFG rfl rfl ?_;refine zc call73 (rQ B O1 w3 (T+1) (T+2) (T+3) (T+4) (T+5) rb s fr (fr+(dP (l.drop fr)).length) (dP (l.drop fr)) st d8 zo zo zo zo zo zo zo zo zo zo zo zo zo zo zo zo zo (by rw[a5];omega) (by rw[a5];omega) he (by rw[a5];exact sq l fr) a0 b4 a3) ?_;rintro v w4 d9;obtain⟨O4,s4,n4,c8,c7,b7,d7,d1,g1,a9,d'⟩:=LoopK.next c5 e1 b1 e3 d9;have c9:=ix a2 b7 zo zo;have b0:=a1.trans (b7.mono (fun _ h=>by rcases h with h|h|h|h|h<;>rw[h]<;>omega) a6);refine zg ?_;refine zvG (JG rfl rfl (Jr zo)) ?_;refine zx (n4,fr+(dP (l.drop fr)).length+1,c8,c7,O4,w4,s4) (⟨c9,d1,g1.trans a5,b0,d7,by dsimp only;omega,d'⟩) (a9)
  |some k=>
   have hi:rf (l.drop fr) 10=(k:Nat):=by unfold rf;rw[hf]
   have e2:=xF hf;rw[hi];refine zg ?_;refine zTG rfl ((decide_eq_true zo)) ?_;refine zvG (JG rfl rfl (Jr zo)) ?_;rw[show(fr:Int)+((k:Nat):Int)=((fr+(dP (l.drop fr)).length:Nat):Int)from by omega];refine zc call73 (rQ B O1 w3 (T+1) (T+2) (T+3) (T+4) (T+5) rb s fr (fr+(dP (l.drop fr)).length) (dP (l.drop fr)) st d8 zo zo zo zo zo zo zo zo zo zo zo zo zo zo zo zo zo (by rw[a5];omega) (by rw[a5];omega) he (by rw[a5];exact sq l fr) a0 b4 a3) ?_;rintro v w4 d9;obtain⟨O4,s4,n4,c8,c7,b7,d7,d1,g1,a9,d'⟩:=LoopK.next c5 e1 b1 e3 d9;have c9:=ix a2 b7 zo zo;have b0:=a1.trans (b7.mono (fun _ h=>by rcases h with h|h|h|h|h<;>rw[h]<;>omega) a6);refine zg ?_;refine zvG (JG rfl rfl (Jr zo)) ?_;refine zx (n4,fr+(dP (l.drop fr)).length+1,c8,c7,O4,w4,s4) (⟨c9,d1,g1.trans a5,b0,d7,by dsimp only;omega,d'⟩) (a9)
 ·have q5:=a3.q5;rw[he]at q5;refine zg ?_;refine zvG (bZ IK rfl) ?_;refine au (d:=21) rfl (b':=false) ((decide_eq_false zo)) ?_;rw[b1];have q6:=a3.q6;have q7:=a3.q7;have q8:=a3.q8;have f':=a0.tx;have f3:=a0.ig.one;have e':=a0.kp.one;obtain⟨xs,e8,_,_,_⟩:=a0.ru;have e9:=e8.one;refine zg ?_;refine zFG rfl rfl ?_;refine zvG (RV.ld q5 rfl) ?_;refine zFG rfl rfl ?_;refine zv (ah (us:=[s.ig,s.kp,s.ru]) (yF q6 q7 q8) (Jw _) (IP _) rfl) ?_;refine zsb (us:=#[s.ig,s.kp,s.ru]) a2 (IP _) (by simp only[IL,f3,e',e9];rfl) ?_;have a7:=a2.setRow (us:=#[s.ig,s.kp,s.ru]);have a4:IQ (fun k=>k=T) O1 w3 O1 (w3.setRow xb #[s.ig,s.kp,s.ru]):=I4 zo a2.tag rfl;have d3:=a1.trans (a4.mono (fun _ h=>IS h.symm) a6);have b3:=a0.upd a4 zo zo zo zo zo zo;refine zg ?_;refine cp rfl rfl rfl rfl a7.cellsAdd (Jw _) (IP _) ⟨aD d3 c6,_,rfl,b3.tx⟩
 rw[b1];have q5:=a3.q5;rw[d0]at q5;have q4:=a3.q4;rw[a']at q4;have c':((e==0):Bool)=false:=by simpa using b9
 have b2:((e != 0):Bool)=true:=by simpa using b9
 cases e4:decide ((fr:Int)<=(l.length:Int))with
 |false=>
  refine zg ?_;refine zvG (bZ IK rfl) ?_
  refine au (d:=21) rfl (b':=false) (e4) ?_;refine zg ?_
  refine zFG rfl rfl ?_;refine zvG (RV.ld q5 rfl) ?_
  refine aO rfl (b2) ?_;have d4:w3.drew.cell? ⟨rb,4,none⟩=some (nI (p:Nat)):=q4;have d5:w3.drew.cell? ⟨rb,5,none⟩=some (nI e):=q5;refine zg ?_
  refine aL (fun W=>W.cell? ⟨rb,4,none⟩=some (nI (p:Nat))/\W.cell? ⟨rb,5,none⟩=some (nI e)) 14 rfl zk ?_;refine zin ⟨d4,d5⟩ fun zS=>?_
  refine zr 0 rfl zS (fun _=>aE Gn (IY _) rfl (by first|rfl|(simp only[IL,J9];rfl)) rfl rfl) ?_;refine zrm 1 rfl zS rfl ?_
  refine zr 2 rfl zS (fun _=>ao rfl) ?_;refine zrf 3 rfl zS rfl ?_
  refine zrf 4 rfl zS rfl ?_;refine zt 5 rfl zS (fun w1 a8=>RV.ld a8.1 rfl) ?_
  refine zrm 6 rfl zS rfl ?_;refine zr 7 rfl zS (fun _=>ao rfl) ?_
  refine zrf 8 rfl zS rfl ?_;refine zrf 9 rfl zS rfl ?_
  refine zt 10 rfl zS (fun w1 a8=>RV.ld a8.2 rfl) ?_;refine I0 11 zk rfl ?_
  refine zsa (us:=#[nS,nS,nS]) a2.drew (IP _) ?_;have a7:=JF (us:=#[nS,nS,nS]) a2.drew;have a4:IQ (fun k=>k=T) O1 w3.drew O1 (w3.drew.setRow xb #[nS,nS,nS]):=I4 zo a2.tag rfl;have b5:=(Jo a3).upd a4 zo zo;have z5:=b5.q5;rw[d0]at z5;have z4:=b5.q4;rw[a']at z4;refine zg ?_
  refine zaf (⟨z4,z5⟩) fun zS=>?_
  refine zra 12 rfl zS rfl ?_;refine zra 13 rfl zS rfl ?_
  refine IN zk ?_;refine zg ?_
  refine cp rfl rfl rfl rfl a7.cellsAdd (Jw _) (IP _) ⟨aD ((a1.drew).trans (a4.mono (fun _ h=>IS h.symm) a6)) c6,rfl,b9⟩
 |true=>
  refine zg ?_;refine zvG (bZ IK rfl) ?_
  refine au (d:=21) rfl (b':=true) (e4) ?_;refine zg ?_
  refine zvG (RV.ld q5 rfl) ?_;refine zFG rfl (c') ?_
  refine zvG (RV.ld q5 rfl) ?_;refine aO rfl (b2) ?_
  have d4:w3.drew.cell? ⟨rb,4,none⟩=some (nI (p:Nat)):=q4;have d5:w3.drew.cell? ⟨rb,5,none⟩=some (nI e):=q5;refine zg ?_;refine aL (fun W=>W.cell? ⟨rb,4,none⟩=some (nI (p:Nat))/\W.cell? ⟨rb,5,none⟩=some (nI e)) 14 rfl zk ?_;refine zin ⟨d4,d5⟩ fun zS=>?_
  refine zr 0 rfl zS (fun _=>aE Gn (IY _) rfl (by first|rfl|(simp only[IL,J9];rfl)) rfl rfl) ?_;refine zrm 1 rfl zS rfl ?_
  refine zr 2 rfl zS (fun _=>ao rfl) ?_;refine zrf 3 rfl zS rfl ?_
  refine zrf 4 rfl zS rfl ?_;refine zt 5 rfl zS (fun w1 a8=>RV.ld a8.1 rfl) ?_
  refine zrm 6 rfl zS rfl ?_;refine zr 7 rfl zS (fun _=>ao rfl) ?_
  refine zrf 8 rfl zS rfl ?_;refine zrf 9 rfl zS rfl ?_
  refine zt 10 rfl zS (fun w1 a8=>RV.ld a8.2 rfl) ?_;refine I0 11 zk rfl ?_
  refine zsa (us:=#[nS,nS,nS]) a2.drew (IP _) ?_;have a7:=JF (us:=#[nS,nS,nS]) a2.drew;have a4:IQ (fun k=>k=T) O1 w3.drew O1 (w3.drew.setRow xb #[nS,nS,nS]):=I4 zo a2.tag rfl;have b5:=(Jo a3).upd a4 zo zo;have z5:=b5.q5;rw[d0]at z5;have z4:=b5.q4;rw[a']at z4;refine zg ?_
  refine zaf (⟨z4,z5⟩) fun zS=>?_
  refine zra 12 rfl zS rfl ?_;refine zra 13 rfl zS rfl ?_
  refine IN zk ?_;refine zg ?_
  refine cp rfl rfl rfl rfl a7.cellsAdd (Jw _) (IP _) ⟨aD ((a1.drew).trans (a4.mono (fun _ h=>IS h.symm) a6)) c6,rfl,b9⟩
theorem kU:∀(n:Nat),n<=1000000->∀(t:Nd),nsz t<=n->∀(B:Nat) (O:Nat->Nat) (x:N3) (w:ID),K4 B O w->Nt (fun _=>0) w t x->JQ J4 38 [nv x] w fun v w'=>∃y,v=nv y/\Nt O w' t y/\Jh w w'
 |0,_,t,hn=>by have:=dD t;omega
 |n+1,b9,.mk k c kids,hn=>by
  intro B O x w hR h;obtain⟨T,j3,hT⟩:=hR.bound;have b3:∀b,¬T<=O b:=fun b=>by have:=hT b;omega
  obtain⟨xs,hs,hf,hl,hk⟩:=h.kids;simp only[Nd.kids]at hl hk;obtain⟨x0,x1,sv⟩:=x;obtain rfl:k=x0:=(congrArg Prod.fst h.ones).symm;obtain rfl:c=x1:=(congrArg (fun q:N3=>q.2.1) h.ones).symm;dsimp only at hs hf;have j2:=eH kids;simp only[nsz]at hn;have a':¬(fun q:Nat=>T<=q) 0:=fun e=>zo
  refine I7 func38 ntmps38 rfl rfl ?_;refine zh ?_
  refine aF hR (T+1) zo rfl rfl ?_;intro nb w1 O1 h9 i5 i9 j6;refine ar i9 T zo (Js _) rfl ?_
  intro xb w2 O2 h5 h1 i8 j5;have g4:=h9.upd h1 zo zo;have n0:w2.cell? (nA nb 0)=some (nI k):=g4.cell 0 rfl;have n1:w2.cell? (nA nb 1)=some (nI c):=g4.cell 1 rfl;refine zh ?_;refine zv (aE vq (Js _) rfl (by first|rfl|(simp only[IL,J9];rfl)) rfl rfl) ?_;refine ar i8 (T+2) zo (Js _) rfl ?_;intro ob w3 O3 g2 i4 i7 j4;refine zsa (us:=#[nI k,nI c,nS]) g2 (Jj _) ?_;have h7:=g2.setRow (us:=#[nI k,nI c,nS]);have h0:IQ (fun q=>q=T+2) O3 w3 O3 (w3.setRow ob #[nI k,nI c,nS]):=I4 zo g2.tag rfl;have d7:=i4.trans h0;have i6:=i7.upd h0;have h8:=g4.upd d7 zo zo;have h4:=h5.upd d7 zo zo;have g5:IQ (fun q=>T<=q) O w O3 _:=((i5.mono (fun _ h=>by rw[h];omega) a').trans (h1.mono (fun _ h=>by rw[h];omega) a')).trans (d7.mono (fun _ h=>by rw[h];omega) a');generalize w3.setRow ob #[nI k,nI c,nS]=w4 at *;refine zh ?_
  refine zlp (fun y:Nat×(Nat->Nat)×World×I1×List N3=>[(1,nP nb),(2,nP xb),(3,nP ob),(4,nI y.1)]) (fun y=>y.2.2.1) (fun y=>y.1<=xs.length/\Jp y.2.1 y.2.2.1 (T+1) nb #[nI k,nI c,sv] 79/\Jp y.2.1 y.2.2.1 T xb #[nI 0,nI 0,nS] 86/\Jp y.2.1 y.2.2.1 (T+2) ob #[nI k,nI c,y.2.2.2.1] 86/\Kx aW 86 3 y.2.1 y.2.2.1 (T+3) y.2.2.2.1 y.2.2.2.2/\y.2.2.2.2.length=y.1/\(∀m,m<y.1->Nt y.2.1 y.2.2.1 (nth kids m) (nth y.2.2.2.2 m))/\IQ (fun q=>T<=q) O w y.2.1 y.2.2.1/\K4 B y.2.1 y.2.2.1) (fun y=>xs.length-y.1) (0,O3,w4,nS,[]) (⟨IV _,h8,h4,h7,Jd _ _ _ _ _ _,rfl,fun m hm=>absurd hm (JL m),g5,i6⟩) ?_;rintro⟨i,O1',d',lv,zs⟩ ⟨hi,d3,b6,d2,b2,d1,g0,b',d9⟩;dsimp only at hi d3 b6 d2 b2 d1 g0 b' d9 ⊢;have g8:=aD b' b3;have j0:=hs.ext g8;have c2:d'.cell? (nA nb 2)=some sv:=d3.cell 2 rfl;refine zh ?_
  refine zC ?_ ?_
  ·intro d4;replace d4:i<xs.length:=dT d4;have g':=hk i d4;have i':=g'.one;have j1:=cg kids i zo;have g3:=d3.drew;have g9:=b6.drew;have g1:=d2.drew;have c6:=b2.drew;have g6:=d9.drew;have e3:∀m,m<i->Nt O1' d'.drew (nth kids m) (nth zs m):=fun m hm=>(g0 m hm).drew
   have d5:=b'.drew;have h2:=aD d5 b3;have d8:=ln (g3.cell 2 rfl) h2;refine zh ?_;refine aL (fun W=>W.cell? ⟨nb,2,none⟩=some sv/\Jh w W) 12 rfl zk ?_;refine zrf 0 rfl d8 rfl ?_;refine zrf 2 rfl d8 rfl ?_;refine zt 3 rfl d8 (fun w1 e6=>RV.ld e6.1 rfl) ?_;refine zrm 4 rfl d8 rfl ?_;refine zt 5 rfl d8 (fun w1 e6=>Jb (by first|exact hs.ext e6.2) underlying77 (Jk _) rfl rfl _ rfl zo) ?_;refine zt 6 rfl d8 (fun w1 e6=>ah (us:=aW (nth xs i)) (fun j u hu=>(hs.ext e6.2).cell d4 hu) (K7 _) (Jk _) rfl) ?_;generalize d'.drew=wD at *;have i3:wD.cell? (nA ob 2)=some lv:=g1.cell 2 rfl;have c':=kU n zo (nth kids i) zo B O1' (nth xs i) wD g6 (g'.ext h2);refine bI 1 7 zk rfl rfl ?_ ?_
   ·refine zvH (RV.ld i3 rfl) ?_;refine ae d8 ?_
    refine I0 7 zk rfl ?_;refine zc JV c' ?_
    rintro v w5 ⟨z,rfl,f6,g7⟩;have b0:IQ (fun _=>False) O1' wD O1' w5:=aa (fun h=>h) O1' g7;have e1:=ix g3 b0 zo (fun h=>h);have f7:=ix g9 b0 zo (fun h=>h);have e9:=ix g1 b0 zo (fun h=>h);have b1:=KM c6 b0 zo (fun h=>h);have f':=Kc g6 b0;have b8:∀m,m<i->Nt O1' w5 (nth kids m) (nth zs m):=fun m hm=>(e3 m hm).upd b0
    have b4:=JT d5 (b0.mono (fun _ h=>h.elim) a');have f9:=ln (e1.cell 2 rfl) (aD b4 b3);refine zh ?_;refine ae f9 ?_;refine I0 8 zk rfl ?_;refine aH elN (enc:=aW) z rfl rfl rfl zd rfl ?_;intro w6 h6 f5;have a1:IQ (fun _=>False) O1' w5 O1' w6:=aa (fun h=>h) O1' f5;have b9:=e1.upd a1 zo (fun h=>h);have e5:=f7.upd a1 zo (fun h=>h);have e0:=e9.upd a1 zo (fun h=>h);have a5:=b1.upd a1 zo (fun h=>h);have f4:=f'.upd a1;have b5:∀m,m<i->Nt O1' w6 (nth kids m) (nth zs m):=fun m hm=>(b8 m hm).upd a1
    have c5:=f6.upd a1;have a9:=b4.trans (a1.mono (fun _ h=>h.elim) a');have e2:=ln (b9.cell 2 rfl) (aD a9 b3);refine zh ?_;refine ae e2 ?_;have a6:∀u∈[z],∀c∈aW u,c.oneCell'=true:=fun u hu=>by
     rw[I2.1 hu];exact gW c5.one
    refine I0 9 zk rfl ?_;refine aC elN a5 f4 h6 (by simp) rfl rfl (fun _ _=>rfl) a6 (by simp;omega) (by simp;omega) zo rfl ?_
    intro a3 w7 O7 a0 a4 f3;have e7:=a0.one;have c9:=ix b9 a4 zo zo;have b7:=ix e0 a4 zo zo;have e4:=ix e5 a4 zo zo;have a8:=a9.trans (a4.mono (fun _ h=>by rw[h];omega) a');have d0:=ln (c9.cell 2 rfl) (aD a8 b3);refine zh ?_;refine ae d0 ?_;refine zrf 10 rfl d0 rfl ?_;refine I0 11 zk rfl ?_;refine aj (j:=2) b7 rfl (KJ _) e7 rfl rfl rfl ?_;have e8:Jp O7 (w7.setCell ⟨ob,2,none⟩ a3) (T+2) ob #[nI k,nI c,a3] 86:=b7.set 2 a3;have a2:IQ (fun q=>q=T+2) O7 w7 O7 (w7.setCell ⟨ob,2,none⟩ a3):=II zo b7.tag rfl;have c8:=c9.upd a2 zo zo;have a7:=a8.trans (a2.mono (fun _ h=>by rw[h];omega) a');have e':=ln (c8.cell 2 rfl) (aD a7 b3);refine zh ?_;refine ae e' ?_;refine IN zk ?_;refine zh ?_;refine zxd (i+1,O7,(w7.setCell ⟨ob,2,none⟩ a3),a3,zs++[z]) (⟨d4,c8,e4.upd a2 zo zo,e8,a0.upd a2 zo zo,by simp[d1],fun m hm=>?_,a7,f3.upd a2⟩);dsimp only at hm ⊢
    by_cases e:m<i
    ·rw[aB (xs:=zs++[z]) (by simp;omega),I6 zo,<-aB zo];exact((b5 m e).upd a4).upd a2
    obtain rfl:m=zs.length:=zo;rw[aB (xs:=zs++[z]) (by simp),I3 zo];simp only[J5,IH];rw[d1];exact(c5.upd a4).upd a2
   refine zc JV c' ?_;rintro v w5 ⟨z,rfl,f6,g7⟩;have b0:IQ (fun _=>False) O1' wD O1' w5:=aa (fun h=>h) O1' g7;have e1:=ix g3 b0 zo (fun h=>h);have f7:=ix g9 b0 zo (fun h=>h);have e9:=ix g1 b0 zo (fun h=>h);have b1:=KM c6 b0 zo (fun h=>h);have f':=Kc g6 b0;have b8:∀m,m<i->Nt O1' w5 (nth kids m) (nth zs m):=fun m hm=>(e3 m hm).upd b0
   have b4:=JT d5 (b0.mono (fun _ h=>h.elim) a');have f9:=ln (e1.cell 2 rfl) (aD b4 b3);refine zh ?_;refine ae f9 ?_;have i2:w5.cell? (nA ob 2)=some lv:=e9.cell 2 rfl;refine bI 1 8 zk rfl rfl ?_ ?_
   ·refine zvH (RV.ld i2 rfl) ?_;refine ae f9 ?_
    refine I0 8 zk rfl ?_;refine aH elN (enc:=aW) z rfl rfl rfl zd rfl ?_
    intro w6 h6 f5;have a1:IQ (fun _=>False) O1' w5 O1' w6:=aa (fun h=>h) O1' f5;have b9:=e1.upd a1 zo (fun h=>h);have e5:=f7.upd a1 zo (fun h=>h);have e0:=e9.upd a1 zo (fun h=>h);have a5:=b1.upd a1 zo (fun h=>h);have f4:=f'.upd a1;have b5:∀m,m<i->Nt O1' w6 (nth kids m) (nth zs m):=fun m hm=>(b8 m hm).upd a1
    have c5:=f6.upd a1;have a9:=b4.trans (a1.mono (fun _ h=>h.elim) a');have e2:=ln (b9.cell 2 rfl) (aD a9 b3);refine zh ?_;refine ae e2 ?_;have a6:∀u∈[z],∀c∈aW u,c.oneCell'=true:=fun u hu=>by
     rw[I2.1 hu];exact gW c5.one
    refine I0 9 zk rfl ?_;refine aC elN a5 f4 h6 (by simp) rfl rfl (fun _ _=>rfl) a6 (by simp;omega) (by simp;omega) zo rfl ?_
    intro a3 w7 O7 a0 a4 f3;have e7:=a0.one;have c9:=ix b9 a4 zo zo;have b7:=ix e0 a4 zo zo;have e4:=ix e5 a4 zo zo;have a8:=a9.trans (a4.mono (fun _ h=>by rw[h];omega) a');have d0:=ln (c9.cell 2 rfl) (aD a8 b3);refine zh ?_;refine ae d0 ?_;refine zrf 10 rfl d0 rfl ?_;refine I0 11 zk rfl ?_;refine aj (j:=2) b7 rfl (KJ _) e7 rfl rfl rfl ?_;have e8:Jp O7 (w7.setCell ⟨ob,2,none⟩ a3) (T+2) ob #[nI k,nI c,a3] 86:=b7.set 2 a3;have a2:IQ (fun q=>q=T+2) O7 w7 O7 (w7.setCell ⟨ob,2,none⟩ a3):=II zo b7.tag rfl;have c8:=c9.upd a2 zo zo;have a7:=a8.trans (a2.mono (fun _ h=>by rw[h];omega) a');have e':=ln (c8.cell 2 rfl) (aD a7 b3);refine zh ?_;refine ae e' ?_;refine IN zk ?_;refine zh ?_;refine zxd (i+1,O7,(w7.setCell ⟨ob,2,none⟩ a3),a3,zs++[z]) (⟨d4,c8,e4.upd a2 zo zo,e8,a0.upd a2 zo zo,by simp[d1],fun m hm=>?_,a7,f3.upd a2⟩);dsimp only at hm ⊢
    by_cases e:m<i
    ·rw[aB (xs:=zs++[z]) (by simp;omega),I6 zo,<-aB zo];exact((b5 m e).upd a4).upd a2
    obtain rfl:m=zs.length:=zo;rw[aB (xs:=zs++[z]) (by simp),I3 zo];simp only[J5,IH];rw[d1];exact(c5.upd a4).upd a2
   refine aH elN (enc:=aW) z rfl rfl rfl zd rfl ?_;intro w6 h6 f5;have a1:IQ (fun _=>False) O1' w5 O1' w6:=aa (fun h=>h) O1' f5;have b9:=e1.upd a1 zo (fun h=>h);have e5:=f7.upd a1 zo (fun h=>h);have e0:=e9.upd a1 zo (fun h=>h);have a5:=b1.upd a1 zo (fun h=>h);have f4:=f'.upd a1;have b5:∀m,m<i->Nt O1' w6 (nth kids m) (nth zs m):=fun m hm=>(b8 m hm).upd a1
   have c5:=f6.upd a1;have a9:=b4.trans (a1.mono (fun _ h=>h.elim) a');have e2:=ln (b9.cell 2 rfl) (aD a9 b3);refine zh ?_;refine ae e2 ?_;have i1:w6.cell? (nA ob 2)=some lv:=e0.cell 2 rfl;refine I0 1 zk rfl ?_;refine zvH (RV.ld i1 rfl) ?_;refine ae e2 ?_;have a6:∀u∈[z],∀c∈aW u,c.oneCell'=true:=fun u hu=>by
    rw[I2.1 hu];exact gW c5.one
   refine I0 9 zk rfl ?_;refine aC elN a5 f4 h6 (by simp) rfl rfl (fun _ _=>rfl) a6 (by simp;omega) (by simp;omega) zo rfl ?_
   intro a3 w7 O7 a0 a4 f3;have e7:=a0.one;have c9:=ix b9 a4 zo zo;have b7:=ix e0 a4 zo zo;have e4:=ix e5 a4 zo zo;have a8:=a9.trans (a4.mono (fun _ h=>by rw[h];omega) a');have d0:=ln (c9.cell 2 rfl) (aD a8 b3);refine zh ?_;refine ae d0 ?_;refine zrf 10 rfl d0 rfl ?_;refine I0 11 zk rfl ?_;refine aj (j:=2) b7 rfl (KJ _) e7 rfl rfl rfl ?_;have e8:Jp O7 (w7.setCell ⟨ob,2,none⟩ a3) (T+2) ob #[nI k,nI c,a3] 86:=b7.set 2 a3;have a2:IQ (fun q=>q=T+2) O7 w7 O7 (w7.setCell ⟨ob,2,none⟩ a3):=II zo b7.tag rfl;have c8:=c9.upd a2 zo zo;have a7:=a8.trans (a2.mono (fun _ h=>by rw[h];omega) a');have e':=ln (c8.cell 2 rfl) (aD a7 b3);refine zh ?_;refine ae e' ?_;refine IN zk ?_;refine zh ?_;refine zxd (i+1,O7,(w7.setCell ⟨ob,2,none⟩ a3),a3,zs++[z]) (⟨d4,c8,e4.upd a2 zo zo,e8,a0.upd a2 zo zo,by simp[d1],fun m hm=>?_,a7,f3.upd a2⟩);dsimp only at hm ⊢
   by_cases e:m<i
   ·rw[aB (xs:=zs++[z]) (by simp;omega),I6 zo,<-aB zo];exact((b5 m e).upd a4).upd a2
   obtain rfl:m=zs.length:=zo;rw[aB (xs:=zs++[z]) (by simp),I3 zo];simp only[J5,IH];rw[d1];exact(c5.upd a4).upd a2
  intro i0;obtain rfl:i=xs.length:=dF i0;have h':=b2.one;refine zh ?_;refine zv (ah (us:=aW ((k,c,lv):N3)) d2.cellsAdd (Ky _) (Jj _) rfl) ?_;refine zsb (us:=#[nI k,nI c,lv]) b6 (Jj _) (bW (x:=(k,c,lv)) h') ?_;have h3:=b6.setRow (us:=#[nI k,nI c,lv]);have f8:IQ (fun q=>q=T) O1' d' O1' (d'.setRow xb #[nI k,nI c,lv]):=I4 zo b6.tag rfl;have c7:=b2.upd f8 zo zo;have d6:=b'.trans (f8.mono (fun _ h=>by rw[h];omega) a');have hN:Nt O (d'.setRow xb #[nI k,nI c,lv]) (.mk k c kids) (k,c,lv):=
   .mk c7.sl (c7.freeT zo (fun b=>by have:=hT b;omega) (d9.upd f8) d6) zo (fun m hm=>((g0 m zo).upd f8).low d6)
  refine zh ?_;refine aJ rfl rfl (h3.cellsAdd) (Ky _) (Jj _) (⟨(k,c,lv),rfl,hN,aD d6 b3⟩)
def RulesO(O:Nat->Nat)(w:ID)(rv:I1)(ts:List R3):Prop:=∃zs,Sl cd 7 w rv zs/\KL O w rv/\ts.length=zs.length/\∀i,i<zs.length->Rt O w (nth ts i) (nth zs i)
theorem Db(li lk:List Int)(ts:List R3)(xs:List X3)(ig kp ru:I1)(B:Nat)(O:Nat->Nat)(w:ID)(j0:K4 B O w)(h1:Sl encI 1 w ig li)(h2:Sl encI 1 w kp lk)(h3:Sl cd 7 w ru xs)(h4:ts.length=xs.length)(h5:∀i,i<xs.length->Rt (fun _=>0) w (nth ts i) (nth xs i))(hf:Few li lk ts):JQ J4 15 [xm ig kp ru] w fun u w'=>∃rv,u=xm ig kp rv/\RulesO O w' rv ts/\Jh w w':=by
 obtain⟨f1,f2,f3,f4⟩:=hf;have o1:=h1.one;have o2:=h2.one;have o3:=h3.one;obtain⟨T,k9,hT⟩:=j0.bound;have b6:∀b,¬T<=O b:=fun b=>by have:=hT b;omega
 have b3:¬(fun q:Nat=>T<=q) 0:=fun e=>zo
 refine I7 func15 ntmps15 rfl rfl ?_;refine zh ?_
 refine aF j0 T zo rfl rfl ?_;intro nb w1 O1 j7 k2 k6 l1;refine ar k6 (T+1) zo (IY _) rfl ?_
 intro xb w2 O2 j3 i' k5 l0;have i3:=j7.upd i' zo zo;have n0:w2.cell? (nA nb 0)=some ig:=i3.cell 0 rfl;have n1:w2.cell? (nA nb 1)=some kp:=i3.cell 1 rfl;refine zh ?_;refine zv (aE Gn (IY _) rfl (by simp only[IL,o1,o2];rfl) rfl rfl) ?_;refine ar k5 (T+2) zo (IY _) rfl ?_;intro ob w3 O3 i1 k1 k4 k';refine zsb (us:=#[ig,kp,nS]) i1 (IP _) (by simp only[IL,o1,o2];rfl) ?_;have j5:=i1.setRow (us:=#[ig,kp,nS]);have i9:IQ (fun q=>q=T+2) O3 w3 O3 (w3.setRow ob #[ig,kp,nS]):=I4 zo i1.tag rfl;have f8:=k1.trans i9;have k3:=k4.upd i9;have j6:=i3.upd f8 zo zo;have j2:=j3.upd f8 zo zo;have i4:IQ (fun q=>T<=q) O w O3 _:=((k2.mono (fun _ h=>by rw[h];omega) b3).trans (i'.mono (fun _ h=>by rw[h];omega) b3)).trans (f8.mono (fun _ h=>by rw[h];omega) b3);generalize w3.setRow ob #[ig,kp,nS]=w4 at *;refine zh ?_
 refine zlp (fun y:Nat×(Nat->Nat)×World×I1×List X3=>[(1,nP nb),(2,nP xb),(3,nP ob),(4,nI y.1)]) (fun y=>y.2.2.1) (fun y=>y.1<=xs.length/\Jp y.2.1 y.2.2.1 T nb #[ig,kp,ru] 44/\Jp y.2.1 y.2.2.1 (T+1) xb #[nS,nS,nS] 49/\Jp y.2.1 y.2.2.1 (T+2) ob #[ig,kp,y.2.2.2.1] 49/\Kx cd 88 7 y.2.1 y.2.2.1 (T+3) y.2.2.2.1 y.2.2.2.2/\y.2.2.2.2.length=y.1/\(∀m,m<y.1->Rt y.2.1 y.2.2.1 (nth ts m) (nth y.2.2.2.2 m))/\IQ (fun q=>T<=q) O w y.2.1 y.2.2.1/\K4 B y.2.1 y.2.2.1) (fun y=>xs.length-y.1) (0,O3,w4,nS,[]) (⟨IV _,j6,j2,j5,Jd _ _ _ _ _ _,rfl,fun m hm=>absurd hm (JL m),i4,k3⟩) ?_;rintro⟨i,O1,g4,lv,zs⟩ ⟨hi,f6,d2,f5,c9,d8,h',d',g3⟩;dsimp only at hi f6 d2 f5 c9 d8 h' d' g3 ⊢;have i7:=aD d' b6;have k8:=h3.ext i7;have c2:g4.cell? (nA nb 2)=some ru:=f6.cell 2 rfl;refine zh ?_
 refine zC ?_ ?_
 ·intro b4;replace b4:i<xs.length:=dT b4;obtain⟨z1,z2⟩:=f4 i zo;have i2:=f6.drew;have i8:=d2.drew;have i0:=f5.drew;have e1:=c9.drew;have h9:=g3.drew;have g9:∀m,m<i->Rt O1 g4.drew (nth ts m) (nth zs m):=fun m hm=>(h' m hm).ext (I5 g4).drew
  have f7:=d'.drew;have i5:=aD f7 b6;have b7:=ln (i2.cell 2 rfl) i5;have j9:∀W,Jh w W->∀(j:Nat) (u:I1),(aW (nth xs i).1)[j]? = some u->W.cell? (((adr ru 7 i).add 0).add j)=some u:=fun W hE j u hu=>by
   have e:(((adr ru 7 i).add 0).add j)=(adr ru 7 i).add j:=by rw[KG,Nat.zero_add]
   rw[e];refine hE.cell (h3.cell b4 ?_);simp only[aW]at hu
   match j,hu with
   |0,hu=>exact hu
   |1,hu=>exact hu
   |2,hu=>exact hu
  have j4:∀W,Jh w W->∀(j:Nat) (u:I1),(aW (nth xs i).2.1)[j]? = some u->W.cell? (((adr ru 7 i).add 3).add j)=some u:=fun W hE j u hu=>by
   have e:(((adr ru 7 i).add 3).add j)=(adr ru 7 i).add (3+j):=by rw[KG]
   rw[e];refine hE.cell (h3.cell b4 ?_);simp only[aW]at hu
   match j,hu with
   |0,hu=>exact hu
   |1,hu=>exact hu
   |2,hu=>exact hu
  obtain⟨a6,h0⟩:∃b,b=(nth xs i).2.2:=⟨_,rfl⟩
  have k0:∀W,Jh w W->W.cell? ((adr ru 7 i).add 6)=some (.bool a6):=fun W hE=>by rw[h0];exact hE.cell (h3.cell b4 rfl)
  refine zh ?_;refine aL (fun W=>W.cell? ⟨nb,2,none⟩=some ru/\Jh w W) 27 rfl zk ?_
  refine zrf 0 rfl b7 rfl ?_;refine zrf 2 rfl b7 rfl ?_
  refine zt 3 rfl b7 (fun w1 b9=>RV.ld b9.1 rfl) ?_;refine zrm 4 rfl b7 rfl ?_
  refine zt 5 rfl b7 (fun w1 b9=>Jb (h3.ext b9.2) Jn (JU _) rfl rfl i rfl b4) ?_;refine zrf 6 rfl b7 rfl ?_
  refine zt 7 rfl b7 (fun w1 b9=>ah (us:=aW (nth xs i).1) (j9 _ b9.2) (K7 _) (Jk _) rfl) ?_;refine zrf 9 rfl b7 rfl ?_
  refine zt 10 rfl b7 (fun w1 b9=>RV.ld b9.1 rfl) ?_;refine zrm 11 rfl b7 rfl ?_
  refine zt 12 rfl b7 (fun w1 b9=>Jb (h3.ext b9.2) Jn (JU _) rfl rfl i rfl b4) ?_;refine zrf 13 rfl b7 rfl ?_
  refine zt 14 rfl b7 (fun w1 b9=>ah (us:=aW (nth xs i).2.1) (j4 _ b9.2) (K7 _) (Jk _) rfl) ?_;refine zrf 16 rfl b7 rfl ?_
  refine zt 17 rfl b7 (fun w1 b9=>RV.ld b9.1 rfl) ?_;refine zrm 18 rfl b7 rfl ?_
  refine zt 19 rfl b7 (fun w1 b9=>Jb (h3.ext b9.2) Jn (JU _) rfl rfl i rfl b4) ?_;refine zrf 20 rfl b7 rfl ?_
  refine zt 21 rfl b7 (fun w1 b9=>RV.ld (k0 _ b9.2) rfl) ?_;generalize g4.drew=wD at *;refine bI 1 8 zk rfl rfl ?_ ?_
  ·refine zvH (RV.ld (i0.cell 2 rfl) rfl) ?_;refine ae b7 ?_
   refine I0 8 zk rfl ?_;refine zc JV (kU 1000000 (IW _) (nth ts i).1 zo B O1 (nth xs i).1 wD h9 ((h5 i b4).1.ext i5)) ?_
   rintro v5 w5 ⟨y1,rfl,h6,i6⟩;have c6:IQ (fun _=>False) O1 wD O1 w5:=aa (fun h=>h) O1 i6;have g7:=i2.upd c6 zo (fun h=>h);have h8:=i8.upd c6 zo (fun h=>h);have g':=i0.upd c6 zo (fun h=>h);have c8:=e1.upd c6 zo (fun h=>h);have g2:=h9.upd c6;have d7:∀m,m<i->Rt O1 w5 (nth ts m) (nth zs m):=fun m hm=>(g9 m hm).upd c6
   have d1:=f7.trans (c6.mono (fun _ h=>h.elim) b3);have f':=ln (g7.cell 2 rfl) (aD d1 b6);refine zh ?_;refine ae f' ?_;refine I0 15 zk rfl ?_;refine zc JV (kU 1000000 (IW _) (nth ts i).2.1 zo B O1 (nth xs i).2.1 w5 g2 ((h5 i b4).2.1.ext f'.2)) ?_;rintro v6 w6 ⟨y2,rfl,g5,e5⟩;have d0:=h6.upd (aa (S:=fun _=>False) (fun h=>h) O1 e5);have b0:IQ (fun _=>False) O1 w5 O1 w6:=aa (fun h=>h) O1 e5;have d9:=g7.upd b0 zo (fun h=>h);have g6:=h8.upd b0 zo (fun h=>h);have e':=g'.upd b0 zo (fun h=>h);have b5:=c8.upd b0 zo (fun h=>h);have g8:=g2.upd b0;have c':∀m,m<i->Rt O1 w6 (nth ts m) (nth zs m):=fun m hm=>(d7 m hm).upd b0
   have b8:=d1.trans (b0.mono (fun _ h=>h.elim) b3);have e0:=ln (d9.cell 2 rfl) (aD b8 b6);refine zh ?_;refine ae e0 ?_;refine zr 22 rfl e0 (fun _=>J1 (vs:=[(0,nv y1),(1,nv y2),(2,.bool a6)]) (cells:=(cd (y1,y2,a6)).toArray) FR (Ki _) rfl zk) ?_;refine I0 23 zk rfl ?_;refine aH elR (enc:=cd) (y1,y2,a6) rfl rfl rfl zd rfl ?_;intro w7 h7 c7;have a8:=d0.upd (aa (S:=fun _=>False) (fun h=>h) O1 c7);have a7:=g5.upd (aa (S:=fun _=>False) (fun h=>h) O1 c7);have a2:IQ (fun _=>False) O1 w6 O1 w7:=aa (fun h=>h) O1 c7;have d5:=d9.upd a2 zo (fun h=>h);have e7:=g6.upd a2 zo (fun h=>h);have e3:=e'.upd a2 zo (fun h=>h);have a9:=b5.upd a2 zo (fun h=>h);have g1:=g8.upd a2;have b':∀m,m<i->Rt O1 w7 (nth ts m) (nth zs m):=fun m hm=>(c' m hm).upd a2
   have b2:=b8.trans (a2.mono (fun _ h=>h.elim) b3);have e4:=ln (d5.cell 2 rfl) (aD b2 b6);refine zh ?_;refine ae e4 ?_;have a':∀u∈[((y1,y2,a6):X3)],∀c∈cd u,c.oneCell'=true:=fun u hu=>by
    rw[I2.1 hu];exact bN a8.one a7.one
   refine I0 24 zk rfl ?_;refine aC elR a9 g1 h7 (by simp) rfl rfl (fun _ _=>rfl) a' (by simp;omega) (by simp;omega) zo rfl ?_
   intro a5 w8 O8 a1 a4 g0;have e8:=a1.one;have d4:=ix d5 a4 zo zo;have c5:=ix e3 a4 zo zo;have e6:=ix e7 a4 zo zo;have b1:=b2.trans (a4.mono (fun _ h=>by rw[h];omega) b3);have d6:=ln (d4.cell 2 rfl) (aD b1 b6);refine zh ?_;refine ae d6 ?_;refine zrf 25 rfl d6 rfl ?_;refine I0 26 zk rfl ?_;refine aj (j:=2) c5 rfl (Kj _) e8 rfl rfl rfl ?_;have e9:Jp O8 (w8.setCell ⟨ob,2,none⟩ a5) (T+2) ob #[ig,kp,a5] 49:=c5.set 2 a5;have a0:IQ (fun q=>q=T+2) O8 w8 O8 (w8.setCell ⟨ob,2,none⟩ a5):=II zo c5.tag rfl;have d3:=d4.upd a0 zo zo;have a3:=b1.trans (a0.mono (fun _ h=>by rw[h];omega) b3);have f9:=ln (d3.cell 2 rfl) (aD a3 b6);refine zh ?_;refine ae f9 ?_;refine IN zk ?_;refine zh ?_;refine zxd (i+1,O8,(w8.setCell ⟨ob,2,none⟩ a5),a5,zs++[((y1,y2,a6):X3)]) (⟨b4,d3,e6.upd a0 zo zo,e9,a1.upd a0 zo zo,by simp[d8],fun m hm=>?_,a3,g0.upd a0⟩);dsimp only at hm ⊢
   by_cases e:m<i
   ·rw[aB (xs:=zs++[((y1,y2,a6):X3)]) (by simp;omega),I6 zo,<-aB zo];exact((b' m e).upd a4).upd a0
   obtain rfl:m=zs.length:=zo;rw[aB (xs:=zs++[((y1,y2,a6):X3)]) (by simp),I3 zo];simp only[J5,IH];rw[d8];exact⟨(a8.upd a4).upd a0,(a7.upd a4).upd a0,h0.trans (h5 i b4).2.2⟩
  refine zc JV (kU 1000000 (IW _) (nth ts i).1 zo B O1 (nth xs i).1 wD h9 ((h5 i b4).1.ext i5)) ?_;rintro v5 w5 ⟨y1,rfl,h6,i6⟩;have c6:IQ (fun _=>False) O1 wD O1 w5:=aa (fun h=>h) O1 i6;have g7:=i2.upd c6 zo (fun h=>h);have h8:=i8.upd c6 zo (fun h=>h);have g':=i0.upd c6 zo (fun h=>h);have c8:=e1.upd c6 zo (fun h=>h);have g2:=h9.upd c6;have d7:∀m,m<i->Rt O1 w5 (nth ts m) (nth zs m):=fun m hm=>(g9 m hm).upd c6
  have d1:=f7.trans (c6.mono (fun _ h=>h.elim) b3);have f':=ln (g7.cell 2 rfl) (aD d1 b6);refine zh ?_;refine ae f' ?_;refine bI 1 15 zk rfl rfl ?_ ?_
  ·refine zvH (RV.ld (g'.cell 2 rfl) rfl) ?_;refine ae f' ?_
   refine I0 15 zk rfl ?_;refine zc JV (kU 1000000 (IW _) (nth ts i).2.1 zo B O1 (nth xs i).2.1 w5 g2 ((h5 i b4).2.1.ext f'.2)) ?_
   rintro v6 w6 ⟨y2,rfl,g5,e5⟩;have d0:=h6.upd (aa (S:=fun _=>False) (fun h=>h) O1 e5);have b0:IQ (fun _=>False) O1 w5 O1 w6:=aa (fun h=>h) O1 e5;have d9:=g7.upd b0 zo (fun h=>h);have g6:=h8.upd b0 zo (fun h=>h);have e':=g'.upd b0 zo (fun h=>h);have b5:=c8.upd b0 zo (fun h=>h);have g8:=g2.upd b0;have c':∀m,m<i->Rt O1 w6 (nth ts m) (nth zs m):=fun m hm=>(d7 m hm).upd b0
   have b8:=d1.trans (b0.mono (fun _ h=>h.elim) b3);have e0:=ln (d9.cell 2 rfl) (aD b8 b6);refine zh ?_;refine ae e0 ?_;refine zr 22 rfl e0 (fun _=>J1 (vs:=[(0,nv y1),(1,nv y2),(2,.bool a6)]) (cells:=(cd (y1,y2,a6)).toArray) FR (Ki _) rfl zk) ?_;refine I0 23 zk rfl ?_;refine aH elR (enc:=cd) (y1,y2,a6) rfl rfl rfl zd rfl ?_;intro w7 h7 c7;have a8:=d0.upd (aa (S:=fun _=>False) (fun h=>h) O1 c7);have a7:=g5.upd (aa (S:=fun _=>False) (fun h=>h) O1 c7);have a2:IQ (fun _=>False) O1 w6 O1 w7:=aa (fun h=>h) O1 c7;have d5:=d9.upd a2 zo (fun h=>h);have e7:=g6.upd a2 zo (fun h=>h);have e3:=e'.upd a2 zo (fun h=>h);have a9:=b5.upd a2 zo (fun h=>h);have g1:=g8.upd a2;have b':∀m,m<i->Rt O1 w7 (nth ts m) (nth zs m):=fun m hm=>(c' m hm).upd a2
   have b2:=b8.trans (a2.mono (fun _ h=>h.elim) b3);have e4:=ln (d5.cell 2 rfl) (aD b2 b6);refine zh ?_;refine ae e4 ?_;have a':∀u∈[((y1,y2,a6):X3)],∀c∈cd u,c.oneCell'=true:=fun u hu=>by
    rw[I2.1 hu];exact bN a8.one a7.one
   refine I0 24 zk rfl ?_;refine aC elR a9 g1 h7 (by simp) rfl rfl (fun _ _=>rfl) a' (by simp;omega) (by simp;omega) zo rfl ?_
   intro a5 w8 O8 a1 a4 g0;have e8:=a1.one;have d4:=ix d5 a4 zo zo;have c5:=ix e3 a4 zo zo;have e6:=ix e7 a4 zo zo;have b1:=b2.trans (a4.mono (fun _ h=>by rw[h];omega) b3);have d6:=ln (d4.cell 2 rfl) (aD b1 b6);refine zh ?_;refine ae d6 ?_;refine zrf 25 rfl d6 rfl ?_;refine I0 26 zk rfl ?_;refine aj (j:=2) c5 rfl (Kj _) e8 rfl rfl rfl ?_;have e9:Jp O8 (w8.setCell ⟨ob,2,none⟩ a5) (T+2) ob #[ig,kp,a5] 49:=c5.set 2 a5;have a0:IQ (fun q=>q=T+2) O8 w8 O8 (w8.setCell ⟨ob,2,none⟩ a5):=II zo c5.tag rfl;have d3:=d4.upd a0 zo zo;have a3:=b1.trans (a0.mono (fun _ h=>by rw[h];omega) b3);have f9:=ln (d3.cell 2 rfl) (aD a3 b6);refine zh ?_;refine ae f9 ?_;refine IN zk ?_;refine zh ?_;refine zxd (i+1,O8,(w8.setCell ⟨ob,2,none⟩ a5),a5,zs++[((y1,y2,a6):X3)]) (⟨b4,d3,e6.upd a0 zo zo,e9,a1.upd a0 zo zo,by simp[d8],fun m hm=>?_,a3,g0.upd a0⟩);dsimp only at hm ⊢
   by_cases e:m<i
   ·rw[aB (xs:=zs++[((y1,y2,a6):X3)]) (by simp;omega),I6 zo,<-aB zo];exact((b' m e).upd a4).upd a0
   obtain rfl:m=zs.length:=zo;rw[aB (xs:=zs++[((y1,y2,a6):X3)]) (by simp),I3 zo];simp only[J5,IH];rw[d8];exact⟨(a8.upd a4).upd a0,(a7.upd a4).upd a0,h0.trans (h5 i b4).2.2⟩
  refine zc JV (kU 1000000 (IW _) (nth ts i).2.1 zo B O1 (nth xs i).2.1 w5 g2 ((h5 i b4).2.1.ext f'.2)) ?_;rintro v6 w6 ⟨y2,rfl,g5,e5⟩;have d0:=h6.upd (aa (S:=fun _=>False) (fun h=>h) O1 e5);have b0:IQ (fun _=>False) O1 w5 O1 w6:=aa (fun h=>h) O1 e5;have d9:=g7.upd b0 zo (fun h=>h);have g6:=h8.upd b0 zo (fun h=>h);have e':=g'.upd b0 zo (fun h=>h);have b5:=c8.upd b0 zo (fun h=>h);have g8:=g2.upd b0;have c':∀m,m<i->Rt O1 w6 (nth ts m) (nth zs m):=fun m hm=>(d7 m hm).upd b0
  have b8:=d1.trans (b0.mono (fun _ h=>h.elim) b3);have e0:=ln (d9.cell 2 rfl) (aD b8 b6);refine zh ?_;refine ae e0 ?_;refine zr 22 rfl e0 (fun _=>J1 (vs:=[(0,nv y1),(1,nv y2),(2,.bool a6)]) (cells:=(cd (y1,y2,a6)).toArray) FR (Ki _) rfl zk) ?_;refine bI 1 23 zk rfl rfl ?_ ?_
  ·refine zvH (RV.ld (e'.cell 2 rfl) rfl) ?_;refine ae e0 ?_
   refine I0 23 zk rfl ?_;refine aH elR (enc:=cd) (y1,y2,a6) rfl rfl rfl zd rfl ?_
   intro w7 h7 c7;have a8:=d0.upd (aa (S:=fun _=>False) (fun h=>h) O1 c7);have a7:=g5.upd (aa (S:=fun _=>False) (fun h=>h) O1 c7);have a2:IQ (fun _=>False) O1 w6 O1 w7:=aa (fun h=>h) O1 c7;have d5:=d9.upd a2 zo (fun h=>h);have e7:=g6.upd a2 zo (fun h=>h);have e3:=e'.upd a2 zo (fun h=>h);have a9:=b5.upd a2 zo (fun h=>h);have g1:=g8.upd a2;have b':∀m,m<i->Rt O1 w7 (nth ts m) (nth zs m):=fun m hm=>(c' m hm).upd a2
   have b2:=b8.trans (a2.mono (fun _ h=>h.elim) b3);have e4:=ln (d5.cell 2 rfl) (aD b2 b6);refine zh ?_;refine ae e4 ?_;have a':∀u∈[((y1,y2,a6):X3)],∀c∈cd u,c.oneCell'=true:=fun u hu=>by
    rw[I2.1 hu];exact bN a8.one a7.one
   refine I0 24 zk rfl ?_;refine aC elR a9 g1 h7 (by simp) rfl rfl (fun _ _=>rfl) a' (by simp;omega) (by simp;omega) zo rfl ?_
   intro a5 w8 O8 a1 a4 g0;have e8:=a1.one;have d4:=ix d5 a4 zo zo;have c5:=ix e3 a4 zo zo;have e6:=ix e7 a4 zo zo;have b1:=b2.trans (a4.mono (fun _ h=>by rw[h];omega) b3);have d6:=ln (d4.cell 2 rfl) (aD b1 b6);refine zh ?_;refine ae d6 ?_;refine zrf 25 rfl d6 rfl ?_;refine I0 26 zk rfl ?_;refine aj (j:=2) c5 rfl (Kj _) e8 rfl rfl rfl ?_;have e9:Jp O8 (w8.setCell ⟨ob,2,none⟩ a5) (T+2) ob #[ig,kp,a5] 49:=c5.set 2 a5;have a0:IQ (fun q=>q=T+2) O8 w8 O8 (w8.setCell ⟨ob,2,none⟩ a5):=II zo c5.tag rfl;have d3:=d4.upd a0 zo zo;have a3:=b1.trans (a0.mono (fun _ h=>by rw[h];omega) b3);have f9:=ln (d3.cell 2 rfl) (aD a3 b6);refine zh ?_;refine ae f9 ?_;refine IN zk ?_;refine zh ?_;refine zxd (i+1,O8,(w8.setCell ⟨ob,2,none⟩ a5),a5,zs++[((y1,y2,a6):X3)]) (⟨b4,d3,e6.upd a0 zo zo,e9,a1.upd a0 zo zo,by simp[d8],fun m hm=>?_,a3,g0.upd a0⟩);dsimp only at hm ⊢
   by_cases e:m<i
   ·rw[aB (xs:=zs++[((y1,y2,a6):X3)]) (by simp;omega),I6 zo,<-aB zo];exact((b' m e).upd a4).upd a0
   obtain rfl:m=zs.length:=zo;rw[aB (xs:=zs++[((y1,y2,a6):X3)]) (by simp),I3 zo];simp only[J5,IH];rw[d8];exact⟨(a8.upd a4).upd a0,(a7.upd a4).upd a0,h0.trans (h5 i b4).2.2⟩
  refine aH elR (enc:=cd) (y1,y2,a6) rfl rfl rfl zd rfl ?_;intro w7 h7 c7;have a8:=d0.upd (aa (S:=fun _=>False) (fun h=>h) O1 c7);have a7:=g5.upd (aa (S:=fun _=>False) (fun h=>h) O1 c7);have a2:IQ (fun _=>False) O1 w6 O1 w7:=aa (fun h=>h) O1 c7;have d5:=d9.upd a2 zo (fun h=>h);have e7:=g6.upd a2 zo (fun h=>h);have e3:=e'.upd a2 zo (fun h=>h);have a9:=b5.upd a2 zo (fun h=>h);have g1:=g8.upd a2;have b':∀m,m<i->Rt O1 w7 (nth ts m) (nth zs m):=fun m hm=>(c' m hm).upd a2
  have b2:=b8.trans (a2.mono (fun _ h=>h.elim) b3);have e4:=ln (d5.cell 2 rfl) (aD b2 b6);refine zh ?_;refine ae e4 ?_;refine I0 1 zk rfl ?_;refine zvH (RV.ld (e3.cell 2 rfl) rfl) ?_;refine ae e4 ?_;have a':∀u∈[((y1,y2,a6):X3)],∀c∈cd u,c.oneCell'=true:=fun u hu=>by
   rw[I2.1 hu];exact bN a8.one a7.one
  refine I0 24 zk rfl ?_;refine aC elR a9 g1 h7 (by simp) rfl rfl (fun _ _=>rfl) a' (by simp;omega) (by simp;omega) zo rfl ?_
  intro a5 w8 O8 a1 a4 g0;have e8:=a1.one;have d4:=ix d5 a4 zo zo;have c5:=ix e3 a4 zo zo;have e6:=ix e7 a4 zo zo;have b1:=b2.trans (a4.mono (fun _ h=>by rw[h];omega) b3);have d6:=ln (d4.cell 2 rfl) (aD b1 b6);refine zh ?_;refine ae d6 ?_;refine zrf 25 rfl d6 rfl ?_;refine I0 26 zk rfl ?_;refine aj (j:=2) c5 rfl (Kj _) e8 rfl rfl rfl ?_;have e9:Jp O8 (w8.setCell ⟨ob,2,none⟩ a5) (T+2) ob #[ig,kp,a5] 49:=c5.set 2 a5;have a0:IQ (fun q=>q=T+2) O8 w8 O8 (w8.setCell ⟨ob,2,none⟩ a5):=II zo c5.tag rfl;have d3:=d4.upd a0 zo zo;have a3:=b1.trans (a0.mono (fun _ h=>by rw[h];omega) b3);have f9:=ln (d3.cell 2 rfl) (aD a3 b6);refine zh ?_;refine ae f9 ?_;refine IN zk ?_;refine zh ?_;refine zxd (i+1,O8,(w8.setCell ⟨ob,2,none⟩ a5),a5,zs++[((y1,y2,a6):X3)]) (⟨b4,d3,e6.upd a0 zo zo,e9,a1.upd a0 zo zo,by simp[d8],fun m hm=>?_,a3,g0.upd a0⟩);dsimp only at hm ⊢
  by_cases e:m<i
  ·rw[aB (xs:=zs++[((y1,y2,a6):X3)]) (by simp;omega),I6 zo,<-aB zo];exact((b' m e).upd a4).upd a0
  obtain rfl:m=zs.length:=zo;rw[aB (xs:=zs++[((y1,y2,a6):X3)]) (by simp),I3 zo];simp only[J5,IH];rw[d8];exact⟨(a8.upd a4).upd a0,(a7.upd a4).upd a0,h0.trans (h5 i b4).2.2⟩
 intro j';obtain rfl:i=xs.length:=by have:=of_decide_eq_false j';omega
 have j8:=c9.one;refine zh ?_;refine zv (ah (us:=[ig,kp,lv]) f5.cellsAdd (Jw _) (IP _) rfl) ?_;refine zsb (us:=#[ig,kp,lv]) d2 (IP _) (by simp only[IL,o1,o2,j8];rfl) ?_;have j1:=d2.setRow (us:=#[ig,kp,lv]);have a0:IQ (fun q=>q=T+1) O1 g4 O1 (g4.setRow xb #[ig,kp,lv]):=I4 zo d2.tag rfl;have e2:=c9.upd a0 zo zo;have a3:=d'.trans (a0.mono (fun _ h=>by rw[h];omega) b3);have k7:=aD a3 b6;refine zh ?_;refine aJ rfl rfl (j1.cellsAdd) (Jw _) (IP _) (⟨lv,rfl,⟨zs,e2.sl,e2.freeT zo (fun b=>by have:=hT b;omega) (g3.upd a0) a3,zo,fun m hm=>((h' m zo).upd a0).weak (fun b e=>a3.z0 b e)⟩,k7⟩)
theorem PostC.shape{B:Nat}{w:ID}{v:I1}{li lk:List Int}{ts:List R3}(h:Km B w v li lk ts):∃cs:List I1,∃e:Int,v=.tuple #[.agg cs.toArray,nI e]/\cs.length=17/\(cs.all IU=true):=by
 rcases h with⟨_,rfl⟩|⟨_,⟨a,b,a1,a0,u,_,_,_,_,_,_,rfl,hT,_⟩|⟨_,rfl⟩⟩
 ·exact⟨_,1,rfl,rfl,rfl⟩
 ·obtain⟨gv,lc,rc,rfl,h1,h2,h3⟩:=hT;obtain⟨ll,lo⟩:=h2.one;obtain⟨rl,ro⟩:=h3.one;refine⟨_,0,rfl,by simp[ll,rl],?_⟩;rw[Je];intro x hx;simp only[IM,IE,IR,or_false]at hx
  rcases hx with(hx|hx)|hx
  ·rcases hx with rfl|rfl|rfl|rfl|rfl
   ·rfl
   ·rfl
   ·rfl
   ·rfl
   exact h1.one
  ·exact lo x hx
  exact ro x hx
 exact⟨_,7,rfl,rfl,rfl⟩
theorem TabV.ext{w w':ID}{v:I1}{t:Kw}(h:Kv w v t)(e:Jh w w'):Kv w' v t:=by
 obtain⟨gv,lc,rc,rfl,h1,h2,h3⟩:=h;exact⟨gv,lc,rc,rfl,h1.ext e,h2.ext e,h3.ext e⟩
theorem TabN.mono{B B':Nat}{v:I1}(h:TabN B v)(hb:B'<=B):TabN B' v:=fun cs e x hx=>(h cs e x hx).mono hb
theorem PostC.ext{B B':Nat}{w w':ID}{v:I1}{li lk:List Int}{ts:List R3}(h:Km B w v li lk ts)(e:Jh w w')(hb:B'<=B):Km B' w' v li lk ts:=by
 rcases h with h|⟨h0,⟨a,b,a1,a0,u,h1,h2,h3,h4,h5,h6,h7,hT,hN⟩|h⟩
 ·exact .inl h
 ·exact .inr ⟨h0,.inl ⟨a,b,a1,a0,u,h1,h2,h3,h4,h5,h6,h7,hT.ext e,hN.mono hb⟩⟩
 exact .inr ⟨h0,.inr h⟩
theorem PostC.upd{B:Nat}{S:Nat->Prop}{O O':Nat->Nat}{w0 w w':ID}{v:I1}{li lk:List Int}{ts:List R3}(h:Km w0.heap.size w v li lk ts)(r:K4 B O w0)(u:IQ S O w O' w'):Km w0.heap.size w' v li lk ts:=by
 rcases h with h|⟨h0,⟨a,b,a1,a0,x,h1,h2,h3,h4,h5,h6,h7,hT,hN⟩|h⟩
 ·exact .inl h
 ·refine .inr ⟨h0,.inl ⟨a,b,a1,a0,x,h1,h2,h3,h4,h5,h6,h7,?_,hN⟩⟩;obtain⟨gv,lc,rc,rfl,k1,k2,k3⟩:=hT;have hn:=hN _ rfl;have n1:NewV w0.heap.size gv:=hn gv (by simp);exact⟨gv,lc,rc,rfl,k1.upd (n1.free k1 (fun x _=>by simp) r) u,k2.upd (fun x hx=>hn x (by simp[hx])) r u,k3.upd (fun x hx=>hn x (by simp[hx])) r u⟩
 exact .inr ⟨h0,.inr h⟩
def Gg(B:Nat)(w:ID)(v:I1):TK->Prop
 |.bad p e=>v=.tuple #[.agg iw,nI (p:Int),nI e]/\e≠0
 |.ok st=>∃(cs:List I1) (e:Int),v=.tuple #[.agg cs.toArray,nI 0,nI e]/\Km B w (.tuple #[.agg cs.toArray,nI e]) st.li st.lk st.ts
theorem nV(l:List UInt8)(w:ID)(b9:l.length<=1000000000):JQ J4 18 [.string (bs l)] w fun v w'=>Jh w w'/\Gg w.heap.size w' v (jY l):=by
 refine I7 func18 ntmps18 rfl rfl ?_;refine zh ?_
 refine ar (aw w) 1 zo (IJ _) rfl ?_;intro cb w1 O1 a8 b8 b5 d0;refine zh ?_
 refine zc call44 (tS l w.heap.size O1 w1 b5 b9) ?_;rintro v w2 ⟨a7,hP⟩;have d2:=b5.ext a7;have hz:¬(0=1):=zo
 cases hM:jY l with
 |bad p e=>
  rw[hM]at hP;obtain⟨rfl,he⟩:=hP;refine zh ?_;refine ar (aw w2) 1 zo (IY _) rfl ?_;intro tb w3 O3 a1 b4 c8 c';refine zsa (us:=#[qY,qY,qY]) a1 (IP _) ?_;have a0:=(b4.trans (I4 (us:=#[qY,qY,qY]) zd a1.tag rfl)).ext;generalize w3.setRow tb #[qY,qY,qY]=w4 at *;have c5:=aa (S:=fun q=>q=1) hz O1 (a7.trans a0);have a4:=a8.upd (aa (S:=fun _=>False) (fun h=>h) O1 (a7.trans a0)) zd (fun h=>h);refine zh ?_;refine zTH rfl ((by simpa using he)) ?_;refine zvH (J1 (cells:=iw) zJ (IJ _) rfl rfl) ?_;refine zsa (us:=iw) a4 (I9 _) ?_;have b3:=a4.setRow (us:=iw);have c7:IQ (fun j=>j=1) O1 w4 O1 (w4.setRow cb iw):=I4 zd a4.tag rfl;refine zh ?_;refine cp rfl rfl rfl rfl (b3.cellsAdd) (IX _) (I9 _) (⟨((b8.trans c5).trans c7).ext,rfl,he⟩)
 |ok st=>
  rw[hM]at hP;obtain⟨tv,rfl,hx⟩:=hP;obtain⟨ta,a5,tc,xs,rfl,x1,x2,x3,_⟩:=hx.ex;have o1:=x1.one;have o2:=x2.one;have o3:=x3.one;refine zh ?_;refine ar (aw w2) 1 zo (IY _) rfl ?_;intro tb w3 O3 a1 b4 c8 c';refine zsb (us:=#[ta,a5,tc]) a1 (IP _) (by simp[o1,o2,o3]) ?_;have b1:=a1.setRow (us:=#[ta,a5,tc]);have a0:=(b4.trans (I4 (us:=#[ta,a5,tc]) zd a1.tag rfl)).ext;generalize w3.setRow tb #[ta,a5,tc]=w4 at *;refine zh ?_;refine zFH rfl rfl ?_;refine zv (ah (us:=[ta,a5,tc]) b1.cellsAdd (Jw _) (IP _) rfl) ?_;refine zc call14 (nt st.li st.lk st.ts (xm ta a5 tc) w4 (hx.ext a0)) ?_;rintro v w5 ⟨c9,hC⟩;obtain⟨cs,e,rfl,a6,b6⟩:=hC.shape;refine zh ?_;refine ar (aw w5) 1 zo (IJ _) rfl ?_;intro xb w6 O6 a2 c6 d1 d3;refine aZ (us:=cs.toArray) a2 (show cs.toArray.size=17 from by simpa using a6) (by rw[show cs.toArray.size=17 from by simpa using a6];exact I9 _) (by simpa using b6) rfl rfl rfl ?_;have b0:=a2.setRow (us:=cs.toArray);have a9:=(c6.trans (I4 (us:=cs.toArray) zd a2.tag rfl)).ext;generalize w6.setRow xb cs.toArray=w7 at *;have a':=((a7.trans a0).trans c9).trans a9;have b':=aa (S:=fun q=>q=1) hz O1 a';have a3:=a8.upd (aa (S:=fun _=>False) (fun h=>h) O1 a') zd (fun h=>h);refine zh ?_;refine zvH (ah (us:=cs) (by simpa using b0.cellsAdd) (IX _) (by rw[a6];exact I9 _) rfl) ?_
  refine aZ (us:=cs.toArray) a3 (show cs.toArray.size=17 from by simpa using a6) (by rw[show cs.toArray.size=17 from by simpa using a6];exact I9 _) (by simpa using b6) rfl rfl rfl ?_;have b2:=a3.setRow (us:=cs.toArray);have b7:IQ (fun j=>j=1) O1 w7 O1 (w7.setRow cb cs.toArray):=I4 zd a3.tag rfl;refine zh ?_
  refine cp rfl rfl rfl rfl (us:=cs) (by simpa using b2.cellsAdd) (IX _) (by rw[a6];exact I9 _) ⟨((b8.trans b').trans b7).ext,cs,e,rfl,((hC.ext a9 (IW _)).upd (b5.ext (a7.trans a0)) b7).ext (I5 _) (((d0.trans a7).trans a0).size)⟩
theorem ze(li lk:List Int)(ts:List R3)(v:I1)(w:ID)(h:Tx w v li lk ts):JQ J4 13 [v] w fun u w'=>∃g,u=.bool g/\Jh w w'/\(g=true->Few li lk ts/\ts.length<=8):=by
 obtain⟨ig,kp,ru,xs,rfl,h1,h2,h3,h4,h5⟩:=h;have o1:=h1.one;have o2:=h2.one;have o3:=h3.one;refine I7 func13 ntmps13 rfl rfl ?_;refine zh ?_;refine aF (aw w) 1 zo rfl rfl ?_;intro xb w1 O1 a' b8 b9 a2;have b5:Tx w1 (xm ig kp ru) li lk ts:=⟨⟨ig,kp,ru,xs,rfl,h1.ext a2,h2.ext a2,h3.ext a2,h4,fun i hi=>(h5 i hi).ext a2⟩⟩
 have c2:w1.cell? (nA xb 2)=some ru:=a'.cell 2 rfl;refine zh ?_;refine zv (ah (us:=[ig,kp,ru]) a'.cellsAdd (isAgg45 _) (sizeOf45 _) rfl) ?_;refine zc call31 (Ay li lk ts (xm ig kp ru) w1 b5) ?_;rintro _ w2 ⟨g,rfl,a6,hg⟩;have g3:=h3.ext (a2.trans a6);refine zh ?_;refine bK (fun w1=>_=w1) (decide ((8:Int)<(xs.length:Int))) 4 (rfl) rfl rfl rfl rfl rfl ?_ ?_
 ·intro a1;refine zh ?_;refine zvH (RV.ld (a6.cell c2) rfl) ?_;refine nE 7 5 (rfl) a1
 rintro _ rfl;refine zh ?_;refine zC ?_ ?_
 ·intro hc;refine zh ?_;refine af rfl rfl (⟨false,rfl,a2.trans a6,fun e=>by cases e⟩)
 intro hc;simp only[Jm,decide_eq_false_iff_not]at hc;obtain⟨b4,b7⟩:=hc;have a9:=hg b4;have h8:ts.length<=8:=zo;have a7:=a2.trans a6;refine zh ?_;refine zlp (fun y:Nat×Nat×ID=>[(1,nP xb),(3,nI (y.2.1:Nat)),(4,nI y.1)]) (fun y=>y.2.2) (fun y=>y.1<=xs.length/\y.2.1<=302*y.1/\Jh w2 y.2.2) (fun y=>xs.length-y.1) (0,0,w2) (⟨IV _,by dsimp only;omega,I5 _⟩) ?_;rintro⟨i,s,w3⟩ ⟨hi,a5,a4⟩;dsimp only at hi a5 a4 ⊢;have d2:=(a6.trans a4).cell c2;have a8:=g3.ext a4;refine zh ?_;refine bz (fun w1=>_=w1) (decide ((s:Int)<=60)) 2 (rfl) rfl rfl rfl rfl rfl ?_ ?_
 ·intro b1;refine zh ?_;refine nE 18 3 (rfl) b1
 rintro _ rfl;refine zh ?_;refine zC ?_ ?_
 ·intro hc;simp only[Bool.and_eq_true,decide_eq_true_eq]at hc;have a3:i<xs.length:=zo;have b0:=(h5 i a3).ext (a7.trans a4);have b3:∀W,Jh w3 W->∀(j:Nat) (u:I1),(aW (nth xs i).1)[j]? = some u->W.cell? (((adr ru 7 i).add 0).add j)=some u:=fun W hE=>(rJ (a8.ext hE) a3).1
  have b2:∀W,Jh w3 W->∀(j:Nat) (u:I1),(aW (nth xs i).2.1)[j]? = some u->W.cell? (((adr ru 7 i).add 3).add j)=some u:=fun W hE=>(rJ (a8.ext hE) a3).2.1
  refine zh ?_;refine xe (Jh w3) zk zk ((I5 w3).drew) ?_
  refine jf (fun w1 a0=>IG rfl) rfl ?_;refine jf (fun w1 a0=>JA 2 KT rfl rfl (sizeOf42 _) zd rfl) rfl ?_
  refine jf (fun w1 a0=>L6 (by first|exact a0.cell d2) (isAgg42 _) rfl) rfl ?_;refine jf (fun w1 a0=>IG rfl) rfl ?_
  refine jf (fun w1 a0=>Jb (a8.ext a0) Jn (JU _) rfl rfl i rfl a3) rfl ?_;refine jf (fun w1 a0=>JA 0 KR rfl rfl (Jk _) zd rfl) rfl ?_
  refine jf (fun w1 a0=>ah (us:=aW (nth xs i).1) (b3 _ a0) (K7 _) (Jk _) rfl) rfl ?_;refine L4 call32 rfl (fun w1 a0=>(gG (nsz (nth ts i).1) (nth ts i).1 (IW _) (nth xs i).1 _ 60 (b0.1.ext a0) zd).mono fun v w' h=>⟨h.1,a0.trans h.2⟩) rfl ?_
  refine jf (fun w1 a0=>JG rfl rfl (Jr zo)) rfl ?_;refine jf (fun w1 a0=>JA 2 KT rfl rfl (sizeOf42 _) zd rfl) rfl ?_
  refine jf (fun w1 a0=>L6 (by first|exact a0.cell d2) (isAgg42 _) rfl) rfl ?_;refine jf (fun w1 a0=>IG rfl) rfl ?_
  refine jf (fun w1 a0=>Jb (a8.ext a0) Jn (JU _) rfl rfl i rfl a3) rfl ?_;refine jf (fun w1 a0=>JA 3 KR rfl rfl (Jk _) zd rfl) rfl ?_
  refine jf (fun w1 a0=>ah (us:=aW (nth xs i).2.1) (b2 _ a0) (K7 _) (Jk _) rfl) rfl ?_;refine L4 call32 rfl (fun w1 a0=>(gG (nsz (nth ts i).2.1) (nth ts i).2.1 (IW _) (nth xs i).2.1 _ 60 (b0.2.1.ext a0) zd).mono fun v w' h=>⟨h.1,a0.trans h.2⟩) rfl ?_
  refine jf (fun w1 a0=>JG rfl rfl (Jr zo)) rfl ?_;refine jf (fun w1 a0=>JW rfl) rfl ?_
  refine WQ.nil ?_;intro w4 b6;refine zh ?_
  rw[show(s:Int)+((min (nsz (nth ts i).1) (60+1):Nat):Int)+((min (nsz (nth ts i).2.1) (60+1):Nat):Int)=((s+(min (nsz (nth ts i).1) 61+min (nsz (nth ts i).2.1) 61):Nat):Int)from by omega];refine zxd (i+1,s+(min (nsz (nth ts i).1) 61+min (nsz (nth ts i).2.1) 61),w4) (⟨a3,by dsimp only;omega,a4.trans b6⟩)
 intro hc;refine zh ?_;refine af rfl rfl (⟨_,rfl,a7.trans a4,fun _=>⟨a9,h8⟩⟩)
def Ck(x:Int):List Int->List Int
 |[]=>[x]
 |y::r=>if x<y then x::y::r else if x=y then y::r else y::Ck x r
def sX(l:List Int):List Int:=l.foldr Ck []
theorem qy(x z:Int):∀l:List Int,z∈Ck x l↔z=x\/z∈l
 |[]=>by simp[Ck]
 |y::r=>by
  unfold Ck
  split
  ·simp
  split
  ·rename_i h;subst h;simp
  rw[IE,qy x z r,IE]
  constructor
  ·rintro(h|h|h)
   ·exact .inr (.inl h)
   ·exact .inl h
   exact .inr (.inr h)
  rintro(h|h|h)
  ·exact .inr (.inl h)
  ·exact .inl h
  exact .inr (.inr h)
theorem Aq(x:Int):∀l:List Int,l.Pairwise (· < ·)->(Ck x l).Pairwise (· < ·)
 |[],_=>by simp[Ck]
 |y::r,h=>by
  obtain⟨h1,h2⟩:=J2.1 h;unfold Ck
  split
  ·rename_i hxy;refine J2.2 ⟨fun z hz=>?_,h⟩
   rcases IE.1 hz with rfl|hz
   ·exact hxy
   have:=h1 z hz;omega
  split
  ·exact h
  refine J2.2 ⟨fun z hz=>?_,Aq x r h2⟩
  rcases(qy x z r).1 hz with rfl|hz
  ·omega
  exact h1 z hz
theorem ny(l:List Int):(∀x,x∈sX l↔x∈l)/\(sX l).Pairwise (· < ·):=by
 induction l with
 |nil=>exact⟨fun x=>Iff.rfl,.nil⟩
 |cons a l ih=>
  refine⟨fun x=>?_,Aq a _ ih.2⟩;show x∈Ck a (sX l)↔_;rw[qy,ih.1,IE]
theorem CU:∀(a b:List Int),a.Pairwise (· < ·)->b.Pairwise (· < ·)->(∀x,x∈a↔x∈b)->a=b
 |[],[],_,_,_=>rfl
 |[],y::r,_,_,h=>absurd ((h y).2 (by simp)) (by simp)
 |x::a,[],_,_,h=>absurd ((h x).1 (by simp)) (by simp)
 |x::a,y::b,ha,hb,h=>by
  obtain⟨a1,a2⟩:=J2.1 ha;obtain⟨b1,b2⟩:=J2.1 hb;have a4:x=y:=by
   rcases IE.1 ((h x).1 (by simp))with e|e
   ·exact e
   rcases IE.1 ((h y).2 (by simp))with e'|e'
   ·exact e'.symm
   have:=a1 y e';have:=b1 x e;omega
  subst a4;congr 1;refine CU a b a2 b2 fun z=>?_
  have hz:=h z;simp only[IE]at hz
  constructor
  ·intro a3
   rcases hz.1 (.inr a3)with e|e
   ·subst e;exact absurd (a1 z a3) zo
   exact e
  intro a0
  rcases hz.2 (.inr a0)with e|e
  ·subst e;exact absurd (b1 z a0) zo
  exact e
theorem Cv(l:List Int):pG l=sX l:=CU _ _ (vW l) (ny l).2 fun x=>by rw[sV,(ny l).1]
def FM(se:Bool)(g:Gr)(s:List Int)(m:Int):List Int:=sX (FQ se g s m)
theorem step_eq(se:Bool)(g:Gr):cP se g=FM se g:=funext fun _=>funext fun _=>Cv _
def stK(se:Bool)(ts:List Nd):Option (List (List Nat)×List Nat):=if du ts=0 then CY (FM se (qZ ts)) (dJ (qZ ts))else none
theorem stM_eq(se:Bool)(ts:List Nd):stM se ts=stK se ts:=by unfold stM stK;rw[step_eq]
abbrev pH:List R3:=[(.mk 0 1 [],.mk 0 2 [],false)]
theorem ti:∃st,jY C1=.ok st/\st.ts=pH/\st.li=[]/\st.lk=[]:=⟨⟨pH,[],[],false,false⟩,by kernel_rfl,rfl,rfl,rfl⟩
theorem uM:eE [] [] pH=true:=by decide +kernel
theorem A7:(stM true (sx pH)).isSome=true:=by rw[stM_eq];decide +kernel
theorem A6:(stM false (lP pH)).isSome=true:=by rw[stM_eq];decide +kernel
theorem PostC.made{B:Nat}{w:ID}{v:I1}{li lk:List Int}{ts:List R3}(h:Km B w v li lk ts):
  (∃e:Int,e≠0/\v=.tuple #[.agg iw,nI e]/\((e=1/\eE li lk ts=false)\/(e=7/\eE li lk ts=true/\(stM true (sx ts)=none\/stM false (lP ts)=none))))\/
  ∃a b a1 a0 gv lc rc,Made li lk ts a b a1 a0/\v=.tuple #[.agg (bE (mn li lk ts a b a1 a0).ig (mn li lk ts a b a1 a0).kp (mn li lk ts a b a1 a0).br (mn li lk ts a b a1 a0).rules gv lc rc).toArray,nI 0]/\
   Ints w gv (mn li lk ts a b a1 a0).groups/\KF w lc (mn li lk ts a b a1 a0).left (mn li lk ts a b a1 a0).lt/\KF w rc (mn li lk ts a b a1 a0).right (mn li lk ts a b a1 a0).rt/\Fp B (gv::(lc++rc)):=by
 rcases h with⟨h0,rfl⟩|⟨h0,⟨a,b,a1,a0,u,h1,h2,h3,h4,h5,h6,rfl,hT,hN⟩|⟨h1,rfl⟩⟩
 ·exact .inl ⟨1,zd,rfl,.inl ⟨rfl,h0⟩⟩
 ·obtain⟨gv,lc,rc,rfl,k1,k2,k3⟩:=hT;have hn:=hN _ rfl;exact .inr ⟨a,b,a1,a0,gv,lc,rc,⟨h0,h1,h2,h3,h4,h5,h6⟩,rfl,k1,k2,k3,fun x hx=>hn x (by simp only[IM,IE,IR,or_false]at hx ⊢;rcases hx with hx|hx|hx<;>simp[hx])⟩
 exact .inl ⟨7,zd,rfl,.inr ⟨rfl,h0,h1⟩⟩
theorem AP{t:Kw}(h:bu t=true):(xR t).length<=100000000/\13<=(xR t).length:=by
 have hB:=gJ h;obtain⟨h1,h2⟩:=jt h;obtain⟨s1,s2,s3⟩:=oL h;have a0:=hB.r;have n1:=cK (n:=t.rules.toNat) zo;have n2:=cK s1;have n3:=cK s2;have n4:=cK s3;have n5:=gS (CR (xs:=t.groups) (by have:=hB.g.1;omega) fun n hn=>by have:=hB.g.2 n hn;omega);have n6:=qe hB.l h1;have n7:=qe hB.rt h2;have n8:0<(dN t.rules.toNat).length:=Jq.2 (DF _);have e:(yz t).length=4+(Fk (BP t)).length:=by unfold yz;rw[I8];rfl
 rw[qE,e];simp only[Fk,BP,I8];omega
theorem nC(w:ID):JQ J4 6 [] w fun v w'=>v=.bool true/\Jh w w':=by
 obtain⟨st,c7,c6,c9,c8⟩:=ti;refine I7 func6 ntmps6 rfl rfl ?_;refine zg ?_;refine zc call18 (nV C1 w zd) ?_;rintro v w1 ⟨d7,hP⟩;rw[c7]at hP;obtain⟨cs,e,rfl,hC⟩:=hP;rw[c6,c9,c8]at hC
 rcases hC.made with⟨e',e0,hv,b3⟩|⟨a,b,d9,d8,gv,lc,rc,hM,hv,k1,k2,k3,hn⟩
 ·exfalso
  rcases b3 with⟨_,h1⟩|⟨_,_,h1|h1⟩
  ·rw[uM]at h1;cases h1
  ·have:=A7;rw[h1]at this;cases this
  have:=A6;rw[h1]at this;cases this
 have hi:=hM.inv;generalize mn [] [] pH a b d9 d8=t at *;have c':cs=bE t.ig t.kp t.br t.rules gv lc rc/\e=0:=by
  simp only[Jl,JC,Jc,Jv,Ju,and_true,true_and]at hv;simpa using hv
 obtain⟨rfl,rfl⟩:=c';have b0:bu t=true:=hi.right;obtain⟨a6,b1⟩:(bE t.ig t.kp t.br t.rules gv lc rc).length=17/\(bE t.ig t.kp t.br t.rules gv lc rc).all IU=true:=by
  obtain⟨e5,e',h1,h2,h3⟩:=hC.shape;simp only[Jl,JC,Jc,Jv,Ju,and_true,true_and]at h1;rw[h1.1];exact⟨h2,h3⟩
 have a1:=a6;obtain⟨c5,d'⟩:=AP b0;refine zg ?_;refine ar (aw w1) 7 zo (IJ _) rfl ?_;intro tb w2 O2 a3 d4 e2 e4;refine aZ (us:=(bE t.ig t.kp t.br t.rules gv lc rc).toArray) a3 (show(bE t.ig t.kp t.br t.rules gv lc rc).toArray.size=17 from by simpa using a1) (by rw[show(bE t.ig t.kp t.br t.rules gv lc rc).toArray.size=17 from by simpa using a1];exact I9 _) b1 rfl rfl rfl ?_;have a':=a3.setRow (us:=(bE t.ig t.kp t.br t.rules gv lc rc).toArray);have d3:=d4.trans (I4 (us:=(bE t.ig t.kp t.br t.rules gv lc rc).toArray) zd a3.tag rfl);generalize w2.setRow tb (bE t.ig t.kp t.br t.rules gv lc rc).toArray=w3 at *;have a8:=d3.ext;have b6:∀W,Jh w3 W->∀(j:Nat) (u:I1),(bE t.ig t.kp t.br t.rules gv lc rc)[j]? = some u->W.cell? (nA tb j)=some u:=fun W e j u hu=>e.cell (by simpa using a'.cellsAdd j u (by simpa using hu))
 have b8:∀W,Jh w3 W->Kv W (.agg (bE t.ig t.kp t.br t.rules gv lc rc).toArray) t:=fun W e=>⟨gv,lc,rc,rfl,k1.ext (a8.trans e),k2.ext (a8.trans e),k3.ext (a8.trans e)⟩
 refine zg ?_;refine zv (ah (us:=bE t.ig t.kp t.br t.rules gv lc rc) (b6 w3 (I5 _)) (IX _) (by rw[a1];exact I9 _) rfl) ?_
 refine zc call8 (py t _ w3 (b8 w3 (I5 _))) ?_;rintro _ w4 ⟨d6,⟨h0,_⟩|⟨_,bv,rfl,b7,_⟩⟩
 ·rw[b0]at h0;cases h0
 refine zg ?_;refine zc call7 (pz (xR t) bv w4 b7 c5) ?_
 rintro u5 w5 ⟨b9,hD⟩;rw[AY b0]at hD;obtain⟨tv,rfl,g2,l2,r2,rfl,m1,m2,m3⟩:=hD;have a0:(bE t.ig t.kp t.br t.rules g2 l2 r2).length=17:=by simp[m2.one.1,m3.one.1]
 have a5:(bE t.ig t.kp t.br t.rules g2 l2 r2).all IU=true:=by
  refine Je.2 fun x hx=>?_
  rcases IM.1 hx with hx|hx
  ·rcases IM.1 hx with hx|hx
   ·simp only[IE,IR,or_false]at hx
    rcases hx with rfl|rfl|rfl|rfl|rfl<;>first|rfl|exact m1.one
   exact m2.one.2 x hx
  exact m3.one.2 x hx
 have b4:=d6.trans b9;refine zg ?_;refine ar (aw w5) 8 zo (IJ _) rfl ?_;intro ub w6 O6 a2 d2 e1 e3;refine aZ (us:=(bE t.ig t.kp t.br t.rules g2 l2 r2).toArray) a2 (show(bE t.ig t.kp t.br t.rules g2 l2 r2).toArray.size=17 from by simpa using a0) (by rw[show(bE t.ig t.kp t.br t.rules g2 l2 r2).toArray.size=17 from by simpa using a0];exact I9 _) a5 rfl rfl rfl ?_;have a9:=a2.setRow (us:=(bE t.ig t.kp t.br t.rules g2 l2 r2).toArray);have d1:=d2.trans (I4 (us:=(bE t.ig t.kp t.br t.rules g2 l2 r2).toArray) zd a2.tag rfl);generalize w6.setRow ub (bE t.ig t.kp t.br t.rules g2 l2 r2).toArray=w7 at *;have a7:=d1.ext;have a4:=b4.trans a7;have b2:∀(j:Nat) (u:I1),(bE t.ig t.kp t.br t.rules g2 l2 r2)[j]? = some u->w7.cell? (nA ub j)=some u:=fun j u hu=>by simpa using a9.cellsAdd j u (by simpa using hu)
 have d0:=b7.ext (b9.trans a7);refine zg ?_;refine zc call11 (yT [] (nS) w7 (Jd vR 0 1 (fun _=>0) w7 0).sl) ?_;rintro _ w8 ⟨rfl,b5⟩;rw[b5];clear b5;rw[show BH []=14695981039346656037 from rfl];refine zg ?_;refine au (d:=25) rfl (b':=true) (rfl) ?_;refine zg ?_;refine au (d:=29) rfl (b':=true) (rfl) ?_;refine zg ?_;refine au (d:=33) rfl (b':=true) (rfl) ?_;refine zg ?_;refine zvG (KE (by first|exact d0) IZ rfl) ?_;refine au (d:=38) rfl (b':=true) ((decide_eq_true zo)) ?_;refine zg ?_;refine zvG (ah (us:=bE t.ig t.kp t.br t.rules gv lc rc) (b6 w7 a4) (IX _) (by rw[a1];exact I9 _) rfl) ?_;refine zvG (ah (us:=bE t.ig t.kp t.br t.rules g2 l2 r2) b2 (IX _) (by rw[a0];exact I9 _) rfl) ?_;refine zc call16 (tM t _ _ w7 (b8 w7 a4) ⟨g2,l2,r2,rfl,m1.ext a7,m2.ext a7,m3.ext a7⟩) ?_;rintro _ w9 ⟨rfl,d5⟩;refine zg ?_;refine af rfl rfl (⟨rfl,((d7.trans a8).trans a4).trans d5⟩)
theorem RulesO.tx{w:ID}{ig kp rv:I1}{li lk:List Int}{ts:List R3}(h1:Sl encI 1 w ig li)(h2:Sl encI 1 w kp lk)(h:RulesO (fun _=>0) w rv ts):Tx w (xm ig kp rv) li lk ts:=by
 obtain⟨zs,h3,_,h4,h5⟩:=h;exact⟨ig,kp,rv,zs,rfl,h1,h2,h3,h4,h5⟩
theorem BG{w:ID}{t:Kw}{gv:I1}{lc rc:List I1}(h1:Ints w gv t.groups)(h2:KF w lc t.left t.lt)(h3:KF w rc t.right t.rt):
  (bE t.ig t.kp t.br t.rules gv lc rc).length=17/\(bE t.ig t.kp t.br t.rules gv lc rc).all IU=true:=by
 refine⟨by simp[h2.one.1,h3.one.1],Je.2 fun x hx=>?_⟩
 rcases IM.1 hx with hx|hx
 ·rcases IM.1 hx with hx|hx
  ·simp only[IE,IR,or_false]at hx
   rcases hx with rfl|rfl|rfl|rfl|rfl<;>first|rfl|exact h1.one
  exact h2.one.2 x hx
 exact h3.one.2 x hx
theorem pP(li lk:List Int)(ts:List R3)(b3:List Int)(v dv:I1)(w:ID)(h:Tx w v li lk ts)(hd:Ints w dv b3)(hT:lW w):
  JQ J4 5 [v,dv] w fun u w'=>u=.bool true/\Jh w w':=by
 obtain⟨ig,kp,ru,xs,rfl,h1,h2,h3,h4,h5⟩:=h;have g7:=hd.len_le;refine I7 func5 ntmps5 rfl rfl ?_;refine zh ?_;refine aF (aw w) 1 zo rfl rfl ?_;intro xb w1 O1 e3 g9 h6 d';have f6:∀W,Jh w W->Tx W (xm ig kp ru) li lk ts:=fun W e=>⟨⟨ig,kp,ru,xs,rfl,h1.ext e,h2.ext e,h3.ext e,h4,fun i hi=>(h5 i hi).ext e⟩⟩
 have ac:∀W,Jh w1 W->∀(j:Nat) (u:I1),[ig,kp,ru][j]? = some u->W.cell? (nA xb j)=some u:=fun W e j u hu=>e.cell (e3.cellsAdd j u hu)
 refine zh ?_;refine zv (ah (us:=[ig,kp,ru]) (ac w1 (I5 _)) (isAgg44 _) (sizeOf44 _) rfl) ?_
 refine zc call13 (ze li lk ts (xm ig kp ru) w1 (f6 w1 d')) ?_;rintro _ w2 ⟨g,rfl,d9,hg⟩;have c5:=d'.trans d9;refine zh ?_
 refine bK (fun w1=>_=w1) (decide ((14:Int)<(b3.length:Int))) 3 (rfl) rfl rfl rfl rfl rfl ?_ ?_
 ·intro a1;refine zh ?_;refine zvH (KE (by first|exact hd.ext c5) JH rfl) ?_;refine nE 17 4 (rfl) a1
 rintro _ rfl;refine zh ?_;refine bK (Jh w2) (!true) 2 (I5 w2) rfl rfl rfl rfl rfl ?_ ?_
 ·intro a2;refine zh ?_;refine zc call6 (nC w2) ?_;rintro _ w3 ⟨rfl,c9⟩;refine zh ?_;refine nE 22 3 (c9) a2
 intro w3 c9;have a7:=c5.trans c9;refine zh ?_;refine zC ?_ ?_
 ·intro hc;refine zh ?_;refine zc call6 (nC w3) ?_;rintro _ w4 ⟨rfl,d6⟩;refine zh ?_;refine af rfl rfl (⟨rfl,a7.trans d6⟩)
 intro hc;simp only[Jm,K5,decide_eq_false_iff_not]at hc;obtain⟨⟨e5,g8⟩,_⟩:=hc;obtain⟨d4,h8⟩:=hg e5;have h':b3.length<=14:=zo;refine zh ?_;refine zv (ah (us:=[ig,kp,ru]) (ac w3 (d9.trans c9)) (isAgg44 _) (sizeOf44 _) rfl) ?_;refine zc call15 (Db li lk ts xs ig kp ru w3.heap.size (fun _=>0) w3 (aw w3) (h1.ext a7) (h2.ext a7) (h3.ext a7) h4 (fun i hi=>(h5 i hi).ext a7) d4) ?_;rintro _ w4 ⟨rv,rfl,e4,d6⟩;have b2:=a7.trans d6;refine zc call14 (nt li lk ts (xm ig kp rv) w4 (RulesO.tx (h1.ext b2) (h2.ext b2) e4)) ?_;rintro cv w5 ⟨g0,hC⟩;have d7:=b2.trans g0;obtain⟨cs,e,rfl,c8,e9⟩:=hC.shape;refine zh ?_;refine ar (aw w5) 1 zo (IJ _) rfl ?_;intro tb w6 O6 b0 f5 g' h9;refine aZ (us:=cs.toArray) b0 (show cs.toArray.size=17 from by simpa using c8) (by rw[show cs.toArray.size=17 from by simpa using c8];exact I9 _) (by simpa using e9) rfl rfl rfl ?_;have d0:=b0.setRow (us:=cs.toArray);have a5:=(f5.trans (I4 (us:=cs.toArray) zd b0.tag rfl)).ext;generalize w6.setRow tb cs.toArray=w7 at *;have c6:=d7.trans a5
 have tc:∀W,Jh w7 W->∀(j:Nat) (u:I1),cs[j]? = some u->W.cell? (nA tb j)=some u:=fun W e j u hu=>e.cell (by
  have:=d0.cellsAdd j u
  simpa using this (by simpa using hu))
 rcases hC.made with⟨e',e7,hv,f4⟩|⟨a,b,g4,g3,gv,lc,rc,hM,hv,k1,k2,k3,hn⟩
 ·have e6:e=e':=by simp at hv;exact hv.2
  subst e6;refine zh ?_;refine zTH rfl ((by simpa using e7)) ?_;refine af rfl rfl (⟨rfl,c6⟩)
 have hi:=hM.inv;generalize mn li lk ts a b g4 g3=t at *;have e8:cs=bE t.ig t.kp t.br t.rules gv lc rc/\e=0:=by
  simp only[Jl,JC,Jc,Jv,Ju,and_true,true_and]at hv;simpa using hv
 obtain⟨rfl,rfl⟩:=e8;have d1:bu t=true:=hi.right;obtain⟨e2,g5⟩:=AP d1;have f7:∀W,Jh w7 W->Kv W (.agg (bE t.ig t.kp t.br t.rules gv lc rc).toArray) t:=fun W e=>⟨gv,lc,rc,rfl,k1.ext (a5.trans e),k2.ext (a5.trans e),k3.ext (a5.trans e)⟩
 refine zh ?_;refine zFH rfl rfl ?_
 refine zv (ah (us:=bE t.ig t.kp t.br t.rules gv lc rc) (tc w7 (I5 _)) (IX _) (by rw[c8];exact I9 _) rfl) ?_;refine zc call8 (py t _ w7 (f7 w7 (I5 _))) ?_
 rintro _ w8 ⟨f',⟨h0,_⟩|⟨_,bv,rfl,f3,_⟩⟩
 ·rw[d1]at h0;cases h0
 refine zh ?_;refine zc call7 (pz (xR t) bv w8 f3 e2) ?_
 rintro u9 w9 ⟨f9,hD⟩;rw[AY d1]at hD;obtain⟨tv,rfl,g2,l2,r2,rfl,m1,m2,m3⟩:=hD;obtain⟨a9,b7⟩:=BG m1 m2 m3;refine zh ?_;refine ar (aw w9) 8 zo (IJ _) rfl ?_;intro ub e1 O10 a8 d5 f8 g1;refine aZ (us:=(bE t.ig t.kp t.br t.rules g2 l2 r2).toArray) a8 (show(bE t.ig t.kp t.br t.rules g2 l2 r2).toArray.size=17 from by simpa using a9) (by rw[show(bE t.ig t.kp t.br t.rules g2 l2 r2).toArray.size=17 from by simpa using a9];exact I9 _) b7 rfl rfl rfl ?_;have b5:=a8.setRow (us:=(bE t.ig t.kp t.br t.rules g2 l2 r2).toArray);have a6:=(d5.trans (I4 (us:=(bE t.ig t.kp t.br t.rules g2 l2 r2).toArray) zd a8.tag rfl)).ext;generalize e1.setRow ub (bE t.ig t.kp t.br t.rules g2 l2 r2).toArray=w11 at *;have uc:∀W,Jh w11 W->∀(j:Nat) (u:I1),(bE t.ig t.kp t.br t.rules g2 l2 r2)[j]? = some u->W.cell? (nA ub j)=some u:=fun W e j u hu=>e.cell (by simpa using b5.cellsAdd j u (by simpa using hu))
 have a3:=(f'.trans f9).trans a6;have a4:=c6.trans a3;have b4:=(I5 w11).drew;refine zh ?_;refine aL (fun W=>Jh w11 W) 8 rfl zk ?_;refine zin (I5 w11).drew fun zS=>?_
 refine zt 0 rfl zS (fun w1 c'=>ah (us:=bE t.ig t.kp t.br t.rules gv lc rc) (tc w1 (a3.trans c')) (IX _) (by rw[c8];exact I9 _) rfl) ?_;refine zrm 1 rfl zS rfl ?_
 refine zt 3 rfl zS (fun w1 c'=>ah (us:=bE t.ig t.kp t.br t.rules g2 l2 r2) (uc w1 c') (IX _) (by rw[a9];exact I9 _) rfl) ?_;refine zrm 4 rfl zS rfl ?_
 refine I0 2 zk rfl ?_;refine zc call17 (jd w11.drew t gv lc rc (k1.ext (a5.trans (a3.trans b4))) (k2.ext (a5.trans (a3.trans b4))) (k3.ext (a5.trans (a3.trans b4))) hi.ok hi.right (lJ hT (a4.trans b4)) b3 dv (hd.ext (a4.trans b4)) zo) ?_
 rintro pv e0 ⟨d3,b9⟩;have a0:=b4.trans b9;refine zh ?_;refine ae (a0) ?_;refine I0 5 zk rfl ?_;refine zc call17 (jd e0 t g2 l2 r2 (m1.ext (a6.trans a0)) (m2.ext (a6.trans a0)) (m3.ext (a6.trans a0)) hi.ok hi.right (lJ hT (a4.trans a0)) b3 dv (hd.ext (a4.trans a0)) zo) ?_;rintro qv d8 ⟨d2,a'⟩;have b6:=d3.ext a';refine zh ?_;refine ae (a0.trans a') ?_;have c7:=(a4.trans a0).trans a';generalize uK t b3=L at *;have h7:=b6.len_le;refine zin (a0.trans a') fun zS=>?_
 refine zra 6 rfl zS rfl ?_;refine zra 7 rfl zS rfl ?_
 refine IN zk ?_;refine zh ?_
 refine au (d:=53) rfl (b':=false) (rfl) ?_;refine zh ?_
 refine zFH rfl ((by simp)) ?_;refine zlp (fun z:Nat×ID=>[(11,pv),(12,qv),(13,nI z.1)]) (fun z=>z.2) (fun z=>z.1<=L.length/\Jh d8 z.2) (fun z=>L.length-z.1) (0,d8) (⟨IV _,I5 _⟩) ?_
 rintro⟨k,wk⟩ ⟨hk,b8⟩;dsimp only at hk b8 ⊢;have pk:=b6.ext b8;have qk:=d2.ext b8;refine zh ?_;refine zC ?_ ?_
 ·intro b1;replace b1:k<L.length:=dT b1;refine zh ?_;refine L1 zk zk ?_;refine zh ?_;refine zwH (RV.ld (by first|exact pk.ld b1|exact qk.ld b1) rfl) ?_;refine zw (RV.ld (by first|exact pk.ld b1|exact qk.ld b1) rfl) ?_;refine zw (Fc underlying4 rfl rfl) ?_;refine WS.nil ?_;refine zh ?_;refine zFH rfl ((by simp)) ?_;refine zxd (k+1,wk.drew) (⟨b1,b8.drew⟩)
 intro g6;refine zh ?_;refine af rfl rfl (⟨rfl,c7.trans b8⟩)
end Go.Proofs.YtpfpmhhigheccaaGreatDoor
